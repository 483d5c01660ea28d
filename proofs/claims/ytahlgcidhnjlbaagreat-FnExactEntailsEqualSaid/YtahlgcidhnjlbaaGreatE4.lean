/- The laws' copying, counting and comparing of data, II. -/
import Derived.Lib.OwnBridge
import Derived.Shelf.GgSortMore.Stable
import Derived.Shelf.GgSortFunc.SmallK
import Derived.Shelf.GgSortFunc.Slice
import Derived.Ground.GgsProg
import Derived.Test.YtahlgcidhnjlbaaGreatProg
import Derived.ProofKit
import Derived.Carry
import Derived.WalkKit
import Derived.Deep.Slices
import Derived.Test.YtahlgcidhnjlbaaGreatE3
set_option linter.all false
set_option maxHeartbeats 4000000
open Array renaming getElem?_toList→ta
open BitVec renaming ofInt→p4
open Bool renaming eq_iff_iff→p5,false_eq_true→gP,or_eq_true→mB
open Go renaming Program→cB,TypeId→fT
open Go.DataW renaming trod→iN
open Go.Extern.ReflectliteSwapper renaming swap→Du,swapper→asj
open Go.Extern.ReflectliteValue renaming len→asl,method→asm,unpack→am0,valueError→am1
open Go.Extern.Rtype renaming kind→XE
open Go.IntKind renaming bits→nN,signed→rX,u64→hc,wrap→rY
open Go.IntWalk renaming i64_in→oO
open Go.Proofs.Tryz renaming prog→al
open Go.Value renaming cells→po
open List renaming cons_append→bT,drop_eq_getElem_cons→la,getElem?_eq_getElem→cf,getElem?_eq_some_iff→fN,getElem_of_mem→nn,length_append→pq,length_cons→p8,map_cons→gG,map_nil→mC,mem_cons→fU,mem_cons_of_mem→ps,mem_of_getElem?→eK,nil_append→bY,pairwise_iff_getElem→pt,replicate→qP,take_length→nP,take_of_length_le→hn
open List.cons renaming injEq→p6
open Nat renaming add_mul→pw,le_refl→eR,le_trans→jV
open Ne renaming symm→kR
open Option renaming bind_eq_some_iff→mF,isSome_none→jW,map_eq_some_iff→gH,map_some→nQ
open Option.some renaming injEq→dG
open Prod.mk renaming injEq→jm
open _root_ renaming False→eo,UInt8→dB,beq_iff_eq→dL,congrArg→e7,decide_eq_false→jn,decide_eq_false_iff_not→hE,decide_eq_true→jd,decide_eq_true_eq→fE
namespace Go.Proofs.YtahlgcidhnjlbaaGreat
open Go Go.Pv
variable {α:Type} [Inhabited α] {S:List α→cI} {n g b6:Nat} {lc b2:List ah} {lt:α→α→Bool}
theorem Rl(H:e1 S n g b6 lc b2 lt)(d:Array α)(aQ:d.size=n)(lo hi first:Nat)(J:first+hi≤n)(U:2≤n)(ao:lo≤n):
  bN al 252 [eV g b6 lc b2,.int .i64 lo,.int .i64 hi,.int .i64 first] (S d.toList) fun r ai=>r= .tuple []∧∃b8,ai=S b8.toList∧b8=Sort.siftDown lt hi first lo d∧b8.size=n:=by
 have ag:=H.ok d.toList;have au:d.toList.length=n:=by simpa using aQ
 have aw:∀l m,Pv.look (.loc m) (S l).b=none:=fun l=>(H.ok l).obj.1;have hu:∀l m cs,cw (.loc m) cs (S l).b=(S l).b++[(.loc m,cs)]:=fun l m cs=>jT (aw l m);have av:∀m,aH.loc m∉cQ (S d.toList):=jO ag.obj;have hle:=H.le;refine bN.mk mixed nJ abQ aii (by simp) ag.obj fun aP cP=>?_;unfold Po;simp[eV,hu,av,cH,aw];refine H.loopA au [2,3,4] (fun(x:Nat×Array α)=>[(8,.int .i64 x.1)]) (·.2) (fun x=>hi-x.1) (fun x=>x.2.size=n∧x.1≤n∧Sort.siftDown lt hi first x.1 x.2=Sort.siftDown lt hi first lo d) (lo,d) aQ ⟨aQ,ao,rfl⟩ (by simp[cH,aw]) aR aR (by simp[aC]) ?_;rintro⟨root,ck⟩ ⟨aS,bp,bW⟩;simp only at aS bp bW;have ak:((first:Int)+(2*root+1))=(first+(2*root+1):Nat):=by omega
 have aB:(((first+(2*root+1):Nat):Int)+1)=(first+(2*root+1)+1:Nat):=by omega
 have bf:((first:Int)+root)=(first+root:Nat):=by omega
 have dd:((first:Int)+(2*root+1+1))=(first+(2*root+2):Nat):=by omega
 simp[Pv.look,H.slc,H.ssc];(with_reducible repeat' first|((first|apply bM|apply bR|apply bQ)<;>intro h<;>try simp at h)|refine aj ?_|simp[Pv.look,H.slc,H.ssc])
 ·rw[Sort.siftDown,dif_pos (by omega)]at bW;exact H.retA au aS (.inr rfl) ⟨rfl,ck,rfl,bW,aS⟩
 ·rw[Sort.siftDown,dif_neg (by omega)]at bW;rw[ak,aB];refine H.lessA aS _ _ (by omega) (by omega) fun o=>?_;have ay:decide (2*root+1+1<hi)=true:=by simp;omega
  cases ab:lt ck[first+(2*root+1)]! ck[first+(2*root+1)+1]! with
  |true=>
   rw[if_pos (by rw[ay,ab];rfl)]at bW;simp;(with_reducible repeat' first|refine aj ?_|simp[Pv.look,H.slc,H.ssc]);rw[bf,dd];refine H.lessA aS _ _ (by omega) (by omega) fun o=>?_;cases aG:lt ck[first+root]! ck[first+(2*root+2)]! with
   |true=>rw[if_neg (by simp[aG]),dif_pos (by omega)]at bW;simp;(with_reducible repeat' first|refine aj ?_|simp[Pv.look,H.slc,H.ssc]);rw[bf,dd];refine H.swapA aS U _ _ (by omega) (by omega) fun o=>?_;simp;(with_reducible repeat' first|refine aj ?_|simp);refine bP.whl (2*root+2,Sort.swp ck (first+root) (first+(2*root+2))) (by simp;omega) ⟨by rw[gD,aS],by simp;omega,bW⟩ (H.weakC au (by simp[gD,aS]) (by simp[aC];omega))
   |false=>rw[if_pos (by simp[aG])]at bW;simp;(with_reducible repeat' first|refine aj ?_|simp);all_goals exact H.retA au aS (.inl rfl) ⟨rfl,ck,rfl,bW,aS⟩
  |false=>
   rw[if_neg (by simp[ab])]at bW;simp;(with_reducible repeat' first|refine aj ?_|simp[Pv.look,H.slc,H.ssc]);rw[bf,ak];refine H.lessA aS _ _ (by omega) (by omega) fun o=>?_;cases aG:lt ck[first+root]! ck[first+(2*root+1)]! with
   |true=>rw[if_neg (by simp[aG])]at bW;simp;(with_reducible repeat' first|refine aj ?_|simp[Pv.look,H.slc,H.ssc]);rw[bf,ak];refine H.swapA aS U _ _ (by omega) (by omega) fun o=>?_;simp;(with_reducible repeat' first|refine aj ?_|simp);refine bP.whl (2*root+1,Sort.swp ck (first+root) (first+(2*root+1))) (by simp;omega) ⟨by rw[gD,aS],by simp;omega,bW⟩ (H.weakC au (by simp[gD,aS]) (by simp[aC]))
   |false=>rw[if_pos (by simp[aG])]at bW;simp;(with_reducible repeat' first|refine aj ?_|simp);all_goals exact H.retA au aS (.inl rfl) ⟨rfl,ck,rfl,bW,aS⟩
 ·rw[Sort.siftDown,dif_neg (by omega)]at bW;have ay:decide (2*root+1+1<hi)=false:=by simp;omega
  rw[if_neg (by rw[ay];simp)]at bW;rw[bf,ak];refine H.lessA aS _ _ (by omega) (by omega) fun o=>?_;cases aG:lt ck[first+root]! ck[first+(2*root+1)]! with
  |true=>rw[if_neg (by simp[aG])]at bW;simp;(with_reducible repeat' first|refine aj ?_|simp[Pv.look,H.slc,H.ssc]);rw[bf,ak];refine H.swapA aS U _ _ (by omega) (by omega) fun o=>?_;simp;(with_reducible repeat' first|refine aj ?_|simp);refine bP.whl (2*root+1,Sort.swp ck (first+root) (first+(2*root+1))) (by simp;omega) ⟨by rw[gD,aS],by simp;omega,bW⟩ (H.weakC au (by simp[gD,aS]) (by simp[aC]))
  |false=>rw[if_pos (by simp[aG])]at bW;simp;(with_reducible repeat' first|refine aj ?_|simp);all_goals exact H.retA au aS (.inl rfl) ⟨rfl,ck,rfl,bW,aS⟩
theorem ac8(H:e1 S n g b6 lc b2 lt)(d:Array α)(aQ:d.size=n)(a b:Nat)(mQ:a<b)(ae:b≤n)(U:2≤n):
  bN al 241 [eV g b6 lc b2,.int .i64 a,.int .i64 b] (S d.toList) fun r ai=>r= .tuple []∧∃b8,ai=S b8.toList∧b8=Sort.reverseRange d a b∧b8.size=n:=by
 have ag:=H.ok d.toList;have au:d.toList.length=n:=by simpa using aQ
 have aw:∀l m,Pv.look (.loc m) (S l).b=none:=fun l=>(H.ok l).obj.1;have hu:∀l m cs,cw (.loc m) cs (S l).b=(S l).b++[(.loc m,cs)]:=fun l m cs=>jT (aw l m);have av:∀m,aH.loc m∉cQ (S d.toList):=jO ag.obj;have hle:=H.le;refine bN.mk mixed nJ abO aif (by simp) ag.obj fun aP cP=>?_;unfold Pm;simp[eV,hu,av,cH,aw];have fl:((b:Int)-1)=(b-1:Nat):=by omega
 (with_reducible repeat' first|refine aj ?_|simp[hu,av,cH,aw]);rw[fl];refine H.loopA au [3] (fun(x:(Nat×Nat)×Array α)=>[(6,.int .i64 x.1.1),(7,.int .i64 x.1.2)]) (·.2) (fun x=>x.1.2+1-x.1.1) (fun x=>x.2.size=n∧x.1.2<n∧Sort.reverseLoop x.1.1 x.1.2 x.2=Sort.reverseRange d a b) ((a,b-1),d) aQ ⟨aQ,by simp;omega,rfl⟩ (by simp[cH,aw]) aR aR (by simp[aC]) ?_;rintro⟨⟨i,j⟩,ck⟩ ⟨aS,bp,bW⟩;simp only at aS bp bW;rw[Sort.reverseLoop]at bW;simp[Pv.look,H.slc,H.ssc];(with_reducible repeat' first|((first|apply bM|apply bR|apply bQ)<;>intro h<;>try simp at h)|refine aj ?_|simp[Pv.look,H.slc,H.ssc])
 ·rw[if_pos (by omega)]at bW;refine H.swapA aS U _ _ (by omega) (by omega) fun o=>?_;have ak:((i:Int)+1)=(i+1:Nat):=by omega
  have aB:((j:Int)-1)=(j-1:Nat):=by omega
  simp;((with_reducible repeat' first|refine aj ?_|simp|((first|apply bM|apply bR|apply bQ)<;>intro h<;>try simp at h))<;>(try exact ch));rw[ak,aB];refine bP.whl ((i+1,j-1),Sort.swp ck i j) (by simp;omega) ⟨by rw[gD,aS],by simp;omega,bW⟩ (H.weakC au (by simp[gD,aS]) (by simp[aC]))
 ·rw[if_neg (by omega)]at bW;exact H.retA au aS (.inr rfl) ⟨rfl,ck,rfl,bW,aS⟩
theorem acV(H:e1 S n g b6 lc b2 lt)(d:Array α)(aQ:d.size=n)(a b:Nat)(mQ:a≤b)(ae:b≤n)(U:2≤n):
  bN al 238 [eV g b6 lc b2,.int .i64 a,.int .i64 b] (S d.toList) fun r ai=>r= .tuple []∧∃b8,ai=S b8.toList∧b8=Sort.heapSort lt d a b∧b8.size=n:=by
 have ag:=H.ok d.toList;have au:d.toList.length=n:=by simpa using aQ
 have aw:∀l m,Pv.look (.loc m) (S l).b=none:=fun l=>(H.ok l).obj.1;have hu:∀l m cs,cw (.loc m) cs (S l).b=(S l).b++[(.loc m,cs)]:=fun l m cs=>jT (aw l m);have av:∀m,aH.loc m∉cQ (S d.toList):=jO ag.obj;have hle:=H.le;refine bN.mk mixed nJ abF ah6 (by simp) ag.obj fun aP cP=>?_;unfold Pc;simp[eV,hu,av,cH,aw];(with_reducible repeat' first|refine aj ?_|simp[hu,av,cH,aw]);have fl:IntKind.i64.wrap (((b:Int)-a-1).tdiv 2)=(((b-a-1)/2+1:Nat):Int)-1:=by
  have e:((b:Int)-a-1).tdiv 2=(((b-a-1)/2+1:Nat):Int)-1:=by
   rcases Nat.eq_or_lt_of_le mQ with h|h
   ·subst h;simp
   ·rw[show((b:Int)-a-1)=((b-a-1:Nat):Int) by omega,Int.tdiv_eq_ediv_of_nonneg (by omega)];omega
  rw[e,oO _ (by omega)]
 rw[fl];refine H.loopA au [3,6,7,8] (fun(x:Nat×Array α)=>[(9,.int .i64 ((x.1:Int)-1))]) (·.2) (fun x=>x.1) (fun x=>x.2.size=n∧x.1≤n∧Sort.heapBuild lt (b-a) a x.1 x.2=Sort.heapBuild lt (b-a) a ((b-a-1)/2+1) d) ((b-a-1)/2+1,d) aQ ⟨aQ,by simp;omega,rfl⟩ (by simp[cH,aw]) aR aR (by simp[aC]) ?_;rintro⟨k,ck⟩ ⟨aS,bp,bW⟩;simp only at aS bp bW;have Zv:((b:Int)-a)=(b-a:Nat):=by omega
 simp[Pv.look,H.slc,H.ssc];(with_reducible repeat' first|((first|apply bM|apply bR|apply bQ)<;>intro h<;>try simp at h)|refine aj ?_|simp[Pv.look,H.slc,H.ssc])
 ·obtain⟨k,rfl⟩:∃bL,k=bL+1:=⟨k-1,by omega⟩;have Io:(((k+1:Nat):Int)-1)=(k:Nat):=by omega
  rw[Sort.heapBuild]at bW;simp only[h6 H,H.slc,H.ssc,h1,Io,Zv];refine H.doFn (lk:=ck.toList) (by simpa using aS) (R:=fun aZ=> ∃b8,aZ=b8.toList∧b8=Sort.siftDown lt (b-a) a k ck∧b8.size=n) ((Rl H ck aS k (b-a) a (by omega) U (by omega)).mono fun r ai ⟨a6,b8,bz,bU,cT⟩=>⟨a6,b8.toList,bz,b8,rfl,bU,cT⟩) (by rintro aZ ⟨b8,rfl,_,q⟩;simpa using q) (by simp[aJ,aC,H.kdata (lk:=ck.toList) (by simpa using aS)]) ?_;rintro aZ ⟨b8,rfl,a6,bz⟩;simp;((with_reducible repeat' first|refine aj ?_|simp|((first|apply bM|apply bR|apply bQ)<;>intro h<;>try simp at h))<;>(try exact ch));refine bP.whl (k,b8) (by simp) ⟨bz,by simp;omega,by rw[←bW,a6]⟩ (H.weakC au (by simpa using bz) (by simp[aC]))
 ·obtain rfl:k=0:=by omega
  rw[Sort.heapBuild]at bW;have aow:ck.size=n:=aS;refine H.loopA au [3,6,7] (fun(x:Nat×Array α)=>[(10,.int .i64 ((x.1:Int)-1))]) (·.2) (fun x=>x.1) (fun x=>x.2.size=n∧x.1≤b-a∧Sort.heapPop lt a x.1 x.2=Sort.heapPop lt a (b-a) ck) (b-a,ck) aS ⟨aS,by simp,rfl⟩ (by simp[Pv.look]) aR aR (by simp[aC];omega) ?_;rintro⟨k,fK⟩ ⟨hj,vv,gV⟩;simp only at hj vv gV;simp[Pv.look,H.slc,H.ssc];(with_reducible repeat' first|((first|apply bM|apply bR|apply bQ)<;>intro h<;>try simp at h)|refine aj ?_|simp[Pv.look,H.slc,H.ssc])
  ·obtain⟨k,rfl⟩:∃bL,k=bL+1:=⟨k-1,by omega⟩;have Io:(((k+1:Nat):Int)-1)=(k:Nat):=by omega
   have Zu:((a:Int)+k)=(a+k:Nat):=by omega
   rw[Sort.heapPop]at gV;simp only[Io,Zu];refine H.swapA hj U _ _ (by omega) (by omega) fun o=>?_;have Kd:(Sort.swp fK a (a+k)).size=n:=by rw[gD,hj]
   simp;simp only[h6 H,H.slc,H.ssc,h1];refine H.doFn (lk:=(Sort.swp fK a (a+k)).toList) (by simpa using Kd) (R:=fun aZ=> ∃b8,aZ=b8.toList∧b8=Sort.siftDown lt k a 0 (Sort.swp fK a (a+k))∧b8.size=n) ((Rl H (Sort.swp fK a (a+k)) Kd 0 k a (by omega) U (by omega)).mono fun r ai ⟨a6,b8,bz,bU,cT⟩=>⟨a6,b8.toList,bz,b8,rfl,bU,cT⟩) (by rintro aZ ⟨b8,rfl,_,q⟩;simpa using q) (by simp[aJ,aC,H.kdata (lk:=(Sort.swp fK a (a+k)).toList) (by simpa using Kd)]) ?_;rintro aZ ⟨b8,rfl,a6,bz⟩;simp;((with_reducible repeat' first|refine aj ?_|simp|((first|apply bM|apply bR|apply bQ)<;>intro h<;>try simp at h))<;>(try exact ch));refine bP.whl (k,b8) (by simp) ⟨bz,by simp;omega,by rw[←gV,a6]⟩ (H.weakC au (by simpa using bz) (by simp[aC]))
  ·obtain rfl:k=0:=by omega
   rw[Sort.heapPop]at gV;refine H.retA au hj (.inr rfl) ⟨rfl,fK,rfl,?_,hj⟩;rw[Sort.heapSort,←bW,←gV]
theorem acW(H:e1 S n g b6 lc b2 lt)(d:Array α)(aQ:d.size=n)(a b:Nat)(mQ:a≤b)(ae:b≤n):
  bN al 231 [eV g b6 lc b2,.int .i64 a,.int .i64 b] (S d.toList) fun r ai=>r= .tuple []∧∃b8,ai=S b8.toList∧b8=Sort.insertionSort lt d a b∧b8.size=n:=by
 have ag:=H.ok d.toList;have au:d.toList.length=n:=by simpa using aQ
 have aw:∀l m,Pv.look (.loc m) (S l).b=none:=fun l=>(H.ok l).obj.1;have hu:∀l m cs,cw (.loc m) cs (S l).b=(S l).b++[(.loc m,cs)]:=fun l m cs=>jT (aw l m);have av:∀m,aH.loc m∉cQ (S d.toList):=jO ag.obj;have hle:=H.le;refine bN.mk mixed AB QR UG (by simp) ag.obj fun aP cP=>?_;unfold HY;simp[eV,hu,av,cH,aw];have fl:((a:Int)+1)=(a+1:Nat):=by omega
 (with_reducible repeat' first|refine aj ?_|simp[hu,av,cH,aw]);rw[fl];refine H.loopA au [1,2,3] (fun(x:Nat×Array α)=>[(6,.int .i64 x.1)]) (·.2) (fun x=>b+1-x.1) (fun x=>x.2.size=n∧x.1≤b+1∧Sort.insOuter lt a b x.1 x.2=Sort.insertionSort lt d a b) (a+1,d) aQ ⟨aQ,by simp;omega,rfl⟩ (by simp[cH,aw]) aR aR (by simp[aC]) ?_;rintro⟨i,ck⟩ ⟨aS,bp,bW⟩;simp only at aS bp bW;rw[Sort.insOuter]at bW;simp;(with_reducible repeat' first|((first|apply bM|apply bR|apply bQ)<;>intro h<;>try simp at h)|refine aj ?_|simp)
 ·rw[if_pos (by omega)]at bW;refine H.loopA au [1,2,3,6] (fun(x:Nat×Array α)=>[(7,.int .i64 x.1)]) (·.2) (fun x=>x.1) (fun x=>x.2.size=n∧x.1≤i∧Sort.insInner lt a x.1 x.2=Sort.insInner lt a i ck) (i,ck) aS ⟨aS,by simp,rfl⟩ (by simp[Pv.look]) aR aR (by simp[aC]) ?_;rintro⟨j,fK⟩ ⟨hj,vv,gV⟩;simp only at hj vv gV;simp[Pv.look,H.slc,H.ssc];(with_reducible repeat' first|((first|apply bM|apply bR|apply bQ)<;>intro h<;>try simp at h)|refine aj ?_|simp[Pv.look,H.slc,H.ssc])
  ·obtain⟨j,rfl⟩:∃dD,j=dD+1:=⟨j-1,by omega⟩;have n1:(((j+1:Nat):Int)-1)=(j:Nat):=by omega
   have o0:((i:Int)+1)=(i+1:Nat):=by omega
   have Zx:((j:Int)+1)=(j+1:Nat):=by omega
   rw[Sort.insInner]at gV;have ay:decide (j+1>a)=true:=by simp;omega
   rw[n1];refine H.lessA hj _ _ (by omega) (by omega) fun o=>?_;cases ab:lt fK[j+1]! fK[j]! with
   |true=>rw[if_pos (by rw[ay,ab];rfl)]at gV;simp;(with_reducible repeat' first|refine aj ?_|simp[Pv.look,H.slc,H.ssc]);rw[Zx];refine H.swapA hj (by omega) _ _ (by omega) (by omega) fun o=>?_;simp;(with_reducible repeat' first|refine aj ?_|simp);refine bP.whl (j,Sort.swp fK (j+1) j) (by simp) ⟨by rw[gD,hj],by simp;omega,gV⟩ (H.weakC au (by simp[gD,hj]) (by simp[aC]))
   |false=>rw[if_neg (by simp[ab])]at gV;simp;((with_reducible repeat' first|refine aj ?_|simp|((first|apply bM|apply bR|apply bQ)<;>intro h<;>try simp at h))<;>(try exact ch));rw[o0];refine bP.whl (i+1,fK) (by simp;omega) ⟨hj,by simp;omega,by rw[←bW,←gV]⟩ (H.weakC au (by simpa using hj) (by simp[aC]))
  ·have o0:((i:Int)+1)=(i+1:Nat):=by omega
   have xv:Sort.insInner lt a j fK=fK:=by
    cases j with
    |zero=>rfl
    |succ j=>rw[Sort.insInner,if_neg (by simp;omega)]
   rw[o0];refine bP.whl (i+1,fK) (by simp;omega) ⟨hj,by simp;omega,by rw[←bW,←gV,xv]⟩ (H.weakC au (by simpa using hj) (by simp[aC]))
 ·rw[if_neg (by omega)]at bW;exact H.retA au aS (.inr rfl) ⟨rfl,ck,rfl,bW,aS⟩
end Go.Proofs.YtahlgcidhnjlbaaGreat
namespace Go.Proofs.YtahlgcidhnjlbaaGreat
open Go Go.Pv
variable {α:Type} [Inhabited α] {S:List α→cI} {n g b6:Nat} {lc b2:List ah} {lt:α→α→Bool}
theorem uC{p:α→Bool}{d:Array α}{i j:Nat}(h:¬(i≤j∧p d[j]! =true)):Sort.scanDown p d i j=j:=by
 cases j with
 |zero=>rfl
 |succ j=>rw[Sort.scanDown,if_neg (by simpa using h)]
theorem Ao{p:α→Bool}{d:Array α}{i j:Nat}(h:¬(i≤j∧p d[i]! =true)):Sort.scanUp p d j i=i:=by rw[Sort.scanUp,if_neg (by simpa using h)]
theorem L9{p:α→Bool}{d:Array α}{i j:Nat}(J:i≤j)(U:p d[i]! =true):Sort.scanUp p d j i=Sort.scanUp p d j (i+1):=by rw[Sort.scanUp,if_pos (by simp[J,U])]
theorem L8{p:α→Bool}{d:Array α}{i j:Nat}(J:i≤j+1)(U:p d[j+1]! =true):Sort.scanDown p d i (j+1)=Sort.scanDown p d i j:=by rw[Sort.scanDown,if_pos (by simp[J,U])]
theorem ac2(H:e1 S n g b6 lc b2 lt)(d:Array α)(aQ:d.size=n)(a b pivot:Nat)(q7:a≤pivot)(aeL:pivot<b)(mQ:a+1<b)(ae:b≤n):
  bN al 244 [eV g b6 lc b2,.int .i64 a,.int .i64 b,.int .i64 pivot] (S d.toList) fun r ai=>r= .tuple [.int .i64 (Sort.partition lt d a b pivot).1,.bool (Sort.partition lt d a b pivot).2.1]∧∃b8,ai=S b8.toList∧b8=(Sort.partition lt d a b pivot).2.2∧b8.size=n:=by
 obtain⟨R,bh⟩:∃R,R=Sort.partition lt d a b pivot:=⟨_,rfl⟩;rw[←bh];unfold Sort.partition at bh;have ag:=H.ok d.toList;have au:d.toList.length=n:=by simpa using aQ
 have aw:∀l m,Pv.look (.loc m) (S l).b=none:=fun l=>(H.ok l).obj.1;have hu:∀l m cs,cw (.loc m) cs (S l).b=(S l).b++[(.loc m,cs)]:=fun l m cs=>jT (aw l m);have av:∀m,aH.loc m∉cQ (S d.toList):=jO ag.obj;have hle:=H.le;refine bN.mk mixed nJ abM aid (by simp) ag.obj fun aP cP=>?_;unfold Pk;simp[eV,hu,av,cH,aw];rw[H.ssc];refine H.swapA0 aQ (by omega) a pivot (by omega) (by omega) fun o=>?_;obtain⟨d1,fm⟩:∃d1,d1=Sort.swp d a pivot:=⟨_,rfl⟩;have s1:d1.size=n:=by rw[fm,gD,aQ]
 rw[←fm];simp only[←fm]at bh;have ak:((a:Int)+1)=(a+1:Nat):=by omega
 have aB:((b:Int)-1)=(b-1:Nat):=by omega
 simp;(with_reducible repeat' first|refine aj ?_|simp);rw[ak,aB];refine H.loopA au [1,4,11] (fun(i:Nat)=>[(10,.int .i64 i)]) (fun _=>d1) (fun i=>b+1-i) (fun i=>a+1≤i∧i≤b∧Sort.scanUp (fun x=>lt x d1[a]!) d1 (b-1) i=Sort.scanUp (fun x=>lt x d1[a]!) d1 (b-1) (a+1)) (a+1) s1 ⟨by omega,by omega,rfl⟩ (by simp[Pv.look]) aR aR (by simp[aC]) ?_;rintro i ⟨i1,i2,i3⟩;simp[Pv.look,H.slc];((with_reducible repeat' first|refine aj ?_|simp[Pv.look,H.slc]|((first|apply bM|apply bR|apply bQ)<;>intro h<;>try simp at h))<;>(try exact ch));refine H.lessA s1 i a (by omega) (by omega) fun o=>?_;cases ab:lt d1[i]! d1[a]!;rotate_left
 ·have o0:((i:Int)+1)=(i+1:Nat):=by omega
  simp;(with_reducible repeat' first|refine aj ?_|simp);rw[o0];refine bP.whl (i+1) (by omega) ⟨by omega,by omega,by rw[←i3];exact(L9 (p:=fun x=>lt x d1[a]!) (by omega) ab).symm⟩ (H.weakC au (by simpa using s1) (by simp[aC]))
 rotate_left
 ·have i4:Sort.scanUp (fun x=>lt x d1[a]!) d1 (b-1) i=i:=Ao (by simp[ab]);rw[i4]at i3;rw[←i3]at bh;simp;refine H.loopA au [1,4,10] (fun(j:Nat)=>[(11,.int .i64 j)]) (fun _=>d1) (fun j=>j) (fun j=>i≤j+1∧j≤b-1∧Sort.scanDown (fun x=> !lt x d1[a]!) d1 i j=Sort.scanDown (fun x=> !lt x d1[a]!) d1 i (b-1)) (b-1) s1 ⟨by omega,by omega,rfl⟩ (by simp[Pv.look]) aR aR (by simp[aC]) ?_;rintro j ⟨hj,vv,gV⟩;simp[Pv.look,H.slc];((with_reducible repeat' first|refine aj ?_|simp[Pv.look,H.slc,H.ssc]|((first|apply bM|apply bR|apply bQ)<;>intro h<;>try simp at h))<;>(try exact ch))
  ·refine H.lessA s1 j a (by omega) (by omega) fun o=>?_;cases aG:lt d1[j]! d1[a]!
   ·obtain⟨j,rfl⟩:∃dD,j=dD+1:=⟨j-1,by omega⟩;have n1:(((j+1:Nat):Int)-1)=(j:Nat):=by omega
    simp;(with_reducible repeat' first|refine aj ?_|simp);try rw[n1]
    refine bP.whl j (by omega) ⟨by omega,by omega,by rw[←gV];exact(L8 (p:=fun x=> !lt x d1[a]!) (by omega) (by simp[aG])).symm⟩ (H.weakC au (by simpa using s1) (by simp[aC]))
   ·have xv:Sort.scanDown (fun x=> !lt x d1[a]!) d1 i j=j:=uC (by simp[aG]);have cF:i≠j:=fun e=>by subst e;rw[ab]at aG;cases aG
    rw[xv]at gV;rw[←gV,if_neg (by omega)]at bh;simp;((with_reducible repeat' first|refine aj ?_|simp[Pv.look,H.slc,H.ssc]|((first|apply bM|apply bR|apply bQ)<;>intro h<;>try simp at h))<;>(try exact ch));refine H.swapA s1 (by omega) i j (by omega) (by omega) fun o=>?_;obtain⟨d2,eN⟩:∃d2,d2=Sort.swp d1 i j:=⟨_,rfl⟩;have s2:d2.size=n:=by rw[eN,gD,s1]
    rw[←eN];rw[←eN]at bh;have bf:((i:Int)+1)=(i+1:Nat):=by omega
    have dd:((j:Int)-1)=(j-1:Nat):=by omega
    simp;(with_reducible repeat' first|refine aj ?_|simp);rw[bf,dd];refine H.loopA au [1,4] (fun(x:(Nat×Nat)×Array α)=>[(10,.int .i64 x.1.1),(11,.int .i64 x.1.2)]) (·.2) (fun x=>x.1.2+1-x.1.1) (fun x=>x.2.size=n∧(a+1≤x.1.1∧x.1.1≤x.1.2+1∧x.1.2≤b-1)∧Sort.partLoop lt a x.1.1 x.1.2 x.2=Sort.partLoop lt a (i+1) (j-1) d2) ((i+1,j-1),d2) s2 ⟨s2,⟨by simp;omega,by simp;omega,by simp;omega⟩,rfl⟩ (by simp[Pv.look]) aR aR (by simp[aC]) ?_;rintro⟨⟨vu,dD⟩,ck⟩ ⟨aS,⟨bp,bW,dy⟩,c0⟩;simp only at aS bp bW dy c0;rw[Sort.partLoop]at c0;generalize jJ:Sort.partLoop lt a (i+1) (j-1) d2=G at c0 bh;simp;refine H.loopA au [1,4,11] (fun(x:Nat)=>[(10,.int .i64 x)]) (fun _=>ck) (fun x=>b+1-x) (fun x=>vu≤x∧x≤dD+1∧Sort.scanUp (fun x=>lt x ck[a]!) ck dD x=Sort.scanUp (fun x=>lt x ck[a]!) ck dD vu) vu aS ⟨by omega,by omega,rfl⟩ (by simp[Pv.look]) aR aR (by simp[aC]) ?_;rintro p ⟨cN,dq,iJ⟩;simp[Pv.look,H.slc];((with_reducible repeat' first|refine aj ?_|simp[Pv.look,H.slc]|((first|apply bM|apply bR|apply bQ)<;>intro h<;>try simp at h))<;>(try exact ch))
    ·refine H.lessA aS p a (by omega) (by omega) fun o=>?_;cases h4:lt ck[p]! ck[a]!;rotate_left
     ·have o0:((p:Int)+1)=(p+1:Nat):=by omega
      simp;(with_reducible repeat' first|refine aj ?_|simp);rw[o0];refine bP.whl (p+1) (by omega) ⟨by omega,by omega,by rw[←iJ];exact(L9 (p:=fun x=>lt x ck[a]!) (by omega) h4).symm⟩ (H.weakC au (by simpa using aS) (by simp[aC]))
     ·have uk:Sort.scanUp (fun x=>lt x ck[a]!) ck dD p=p:=Ao (by simp[h4]);rw[uk]at iJ;simp only[←iJ]at c0;simp;refine H.loopA au [1,4,10] (fun(x:Nat)=>[(11,.int .i64 x)]) (fun _=>ck) (fun x=>x) (fun x=>p≤x+1∧x≤dD∧Sort.scanDown (fun x=> !lt x ck[a]!) ck p x=Sort.scanDown (fun x=> !lt x ck[a]!) ck p dD) dD aS ⟨by omega,by omega,rfl⟩ (by simp[Pv.look]) aR aR (by simp[aC]) ?_;rintro q ⟨a6,bz,bU⟩;simp[Pv.look,H.slc];((with_reducible repeat' first|refine aj ?_|simp[Pv.look,H.slc,H.ssc]|((first|apply bM|apply bR|apply bQ)<;>intro h<;>try simp at h))<;>(try exact ch))
      ·refine H.lessA aS q a (by omega) (by omega) fun o=>?_;cases rq:lt ck[q]! ck[a]!
       ·obtain⟨q,rfl⟩:∃dD,q=dD+1:=⟨q-1,by omega⟩;have n1:(((q+1:Nat):Int)-1)=(q:Nat):=by omega
        simp;(with_reducible repeat' first|refine aj ?_|simp);try rw[n1]
        refine bP.whl q (by omega) ⟨by omega,by omega,by rw[←bU];exact(L8 (p:=fun x=> !lt x ck[a]!) (by omega) (by simp[rq])).symm⟩ (H.weakC au (by simpa using aS) (by simp[aC]))
       ·have cT:Sort.scanDown (fun x=> !lt x ck[a]!) ck p q=q:=uC (by simp[rq]);have cF:p≠q:=fun e=>by subst e;rw[h4]at rq;cases rq
        rw[cT]at bU;simp only[←bU]at c0;rw[if_neg (by omega),dif_pos (by omega)]at c0;simp;((with_reducible repeat' first|refine aj ?_|simp[Pv.look,H.slc,H.ssc]|((first|apply bM|apply bR|apply bQ)<;>intro h<;>try simp at h))<;>(try exact ch));refine H.swapA aS (by omega) p q (by omega) (by omega) fun o=>?_;have gS:((p:Int)+1)=(p+1:Nat):=by omega
        have hG:((q:Int)-1)=(q-1:Nat):=by omega
        simp;(with_reducible repeat' first|((first|apply bM|apply bR|apply bQ)<;>intro h<;>try simp at h)|refine aj ?_|simp);rw[gS,hG];refine bP.whl ((p+1,q-1),Sort.swp ck p q) (by simp;omega) ⟨by rw[gD,aS],⟨by simp;omega,by simp;omega,by simp;omega⟩,c0⟩ (H.weakC au (by simp[gD,aS]) (by simp[aC]))
      ·have cT:Sort.scanDown (fun x=> !lt x ck[a]!) ck p q=q:=uC (by omega);rw[cT]at bU;simp only[←bU]at c0;rw[if_pos (by omega)]at c0;rw[←c0]at bh;refine H.swapA aS (by omega) q a (by omega) (by omega) fun o=>?_;simp;refine H.retR au (d:=Sort.swp ck q a) (by rw[gD,aS]) (.inl rfl) ?_;simp[cZ,CR,aX,aY,aV];rw[bh];exact⟨⟨rfl,rfl⟩,_,rfl,rfl,by rw[gD,aS]⟩
    ·have uk:Sort.scanUp (fun x=>lt x ck[a]!) ck dD p=p:=Ao (by omega);rw[uk]at iJ;simp only[←iJ]at c0;have cT:Sort.scanDown (fun x=> !lt x ck[a]!) ck p dD=dD:=uC (by omega);rw[cT,if_pos (by omega)]at c0;rw[←c0]at bh;refine H.loopA au [1,4,10] (fun(x:Nat)=>[(11,.int .i64 x)]) (fun _=>ck) (fun x=>x) (fun x=>x=dD) dD aS rfl (by simp[Pv.look]) aR aR (by simp[aC]) ?_;rintro q rfl;simp[Pv.look,H.slc];((with_reducible repeat' first|refine aj ?_|simp[Pv.look,H.slc,H.ssc]|((first|apply bM|apply bR|apply bQ)<;>intro h<;>try simp at h))<;>(try exact ch));refine H.swapA aS (by omega) q a (by omega) (by omega) fun o=>?_;simp;refine H.retR au (d:=Sort.swp ck q a) (by rw[gD,aS]) (.inl rfl) ?_;simp[cZ,CR,aX,aY,aV];rw[bh];exact⟨⟨rfl,rfl⟩,_,rfl,rfl,by rw[gD,aS]⟩
  ·have xv:Sort.scanDown (fun x=> !lt x d1[a]!) d1 i j=j:=uC (by omega);rw[xv]at gV;rw[←gV,if_pos (by omega)]at bh;refine H.swapA s1 (by omega) j a (by omega) (by omega) fun o=>?_;simp;refine H.retR au (d:=Sort.swp d1 j a) (by rw[gD,s1]) (.inl rfl) ?_;simp[cZ,CR,aX,aY,aV];rw[bh];exact⟨⟨rfl,rfl⟩,_,rfl,rfl,by rw[gD,s1]⟩
 ·have i4:Sort.scanUp (fun x=>lt x d1[a]!) d1 (b-1) i=i:=Ao (by omega);rw[i4]at i3;have xv:Sort.scanDown (fun x=> !lt x d1[a]!) d1 i (b-1)=b-1:=uC (by omega);rw[←i3,xv,if_pos (by omega)]at bh;refine H.loopA au [1,4,10] (fun(j:Nat)=>[(11,.int .i64 j)]) (fun _=>d1) (fun j=>j) (fun j=>j=b-1) (b-1) s1 rfl (by simp[Pv.look]) aR aR (by simp[aC]) ?_;rintro j rfl;simp[Pv.look,H.slc];((with_reducible repeat' first|refine aj ?_|simp[Pv.look,H.slc,H.ssc]|((first|apply bM|apply bR|apply bQ)<;>intro h<;>try simp at h))<;>(try exact ch));refine H.swapA s1 (by omega) (b-1) a (by omega) (by omega) fun o=>?_;simp;refine H.retR au (d:=Sort.swp d1 (b-1) a) (by rw[gD,s1]) (.inl rfl) ?_;simp[cZ,CR,aX,aY,aV];rw[bh];exact⟨⟨rfl,rfl⟩,_,rfl,rfl,by rw[gD,s1]⟩
end Go.Proofs.YtahlgcidhnjlbaaGreat
namespace Go.Proofs.YtahlgcidhnjlbaaGreat
open Go Go.Pv
variable {α:Type} [Inhabited α] {S:List α→cI} {n g b6:Nat} {lc b2:List ah} {lt:α→α→Bool}
theorem ac3(H:e1 S n g b6 lc b2 lt)(d:Array α)(aQ:d.size=n)(a b pivot:Nat)(q7:a≤pivot)(aeL:pivot<b)(mQ:a+1<b)(ae:b≤n):
  bN al 243 [eV g b6 lc b2,.int .i64 a,.int .i64 b,.int .i64 pivot] (S d.toList) fun r ai=>r= .int .i64 (Sort.partitionEqual lt d a b pivot).1∧∃b8,ai=S b8.toList∧b8=(Sort.partitionEqual lt d a b pivot).2∧b8.size=n:=by
 obtain⟨R,bh⟩:∃R,R=Sort.partitionEqual lt d a b pivot:=⟨_,rfl⟩;rw[←bh];unfold Sort.partitionEqual at bh;have ag:=H.ok d.toList;have au:d.toList.length=n:=by simpa using aQ
 have aw:∀l m,Pv.look (.loc m) (S l).b=none:=fun l=>(H.ok l).obj.1;have hu:∀l m cs,cw (.loc m) cs (S l).b=(S l).b++[(.loc m,cs)]:=fun l m cs=>jT (aw l m);have av:∀m,aH.loc m∉cQ (S d.toList):=jO ag.obj;have hle:=H.le;refine bN.mk mixed nJ abL aic (by simp) ag.obj fun aP cP=>?_;unfold Pj;simp[eV,hu,av,cH,aw];rw[H.ssc];refine H.swapA0 aQ (by omega) a pivot (by omega) (by omega) fun o=>?_;obtain⟨d1,fm⟩:∃d1,d1=Sort.swp d a pivot:=⟨_,rfl⟩;have s1:d1.size=n:=by rw[fm,gD,aQ]
 rw[←fm];rw[←fm]at bh;have ak:((a:Int)+1)=(a+1:Nat):=by omega
 have aB:((b:Int)-1)=(b-1:Nat):=by omega
 simp;(with_reducible repeat' first|refine aj ?_|simp);rw[ak,aB];refine H.loopA au [1,4] (fun(x:(Nat×Nat)×Array α)=>[(9,.int .i64 x.1.1),(10,.int .i64 x.1.2)]) (·.2) (fun x=>x.1.2+1-x.1.1) (fun x=>x.2.size=n∧(a+1≤x.1.1∧x.1.1≤x.1.2+1∧x.1.2≤b-1)∧Sort.partEqLoop lt a x.1.1 x.1.2 x.2=R) ((a+1,b-1),d1) s1 ⟨s1,⟨by simp,by simp;omega,by simp⟩,bh.symm⟩ (by simp[Pv.look]) aR aR (by simp[aC]) ?_;rintro⟨⟨vu,dD⟩,ck⟩ ⟨aS,⟨bp,bW,dy⟩,c0⟩;simp only at aS bp bW dy c0;rw[Sort.partEqLoop]at c0;simp;refine H.loopA au [1,4,10] (fun(x:Nat)=>[(9,.int .i64 x)]) (fun _=>ck) (fun x=>b+1-x) (fun x=>vu≤x∧x≤dD+1∧Sort.scanUp (fun x=> !lt ck[a]! x) ck dD x=Sort.scanUp (fun x=> !lt ck[a]! x) ck dD vu) vu aS ⟨by omega,by omega,rfl⟩ (by simp[Pv.look]) aR aR (by simp[aC]) ?_;rintro p ⟨cN,dq,iJ⟩;simp[Pv.look,H.slc];((with_reducible repeat' first|refine aj ?_|simp[Pv.look,H.slc]|((first|apply bM|apply bR|apply bQ)<;>intro h<;>try simp at h))<;>(try exact ch))
 ·refine H.lessA aS a p (by omega) (by omega) fun o=>?_;cases h4:lt ck[a]! ck[p]!
  ·have o0:((p:Int)+1)=(p+1:Nat):=by omega
   simp;(with_reducible repeat' first|refine aj ?_|simp);rw[o0];refine bP.whl (p+1) (by omega) ⟨by omega,by omega,by rw[←iJ];exact(L9 (p:=fun x=> !lt ck[a]! x) (by omega) (by simp[h4])).symm⟩ (H.weakC au (by simpa using aS) (by simp[aC]))
  ·have uk:Sort.scanUp (fun x=> !lt ck[a]! x) ck dD p=p:=Ao (by simp[h4]);rw[uk]at iJ;simp only[←iJ]at c0;simp;refine H.loopA au [1,4,9] (fun(x:Nat)=>[(10,.int .i64 x)]) (fun _=>ck) (fun x=>x) (fun x=>p≤x+1∧x≤dD∧Sort.scanDown (fun x=>lt ck[a]! x) ck p x=Sort.scanDown (fun x=>lt ck[a]! x) ck p dD) dD aS ⟨by omega,by omega,rfl⟩ (by simp[Pv.look]) aR aR (by simp[aC]) ?_;rintro q ⟨a6,bz,bU⟩;simp[Pv.look,H.slc];((with_reducible repeat' first|refine aj ?_|simp[Pv.look,H.slc,H.ssc]|((first|apply bM|apply bR|apply bQ)<;>intro h<;>try simp at h))<;>(try exact ch))
   ·refine H.lessA aS a q (by omega) (by omega) fun o=>?_;cases rq:lt ck[a]! ck[q]!;rotate_left
    ·obtain⟨q,rfl⟩:∃dD,q=dD+1:=⟨q-1,by omega⟩;have n1:(((q+1:Nat):Int)-1)=(q:Nat):=by omega
     simp;(with_reducible repeat' first|refine aj ?_|simp);try rw[n1]
     refine bP.whl q (by omega) ⟨by omega,by omega,by rw[←bU];exact(L8 (p:=fun x=>lt ck[a]! x) (by omega) (by simp[rq])).symm⟩ (H.weakC au (by simpa using aS) (by simp[aC]))
    ·have cT:Sort.scanDown (fun x=>lt ck[a]! x) ck p q=q:=uC (by simp[rq]);have cF:p≠q:=fun e=>by subst e;rw[h4]at rq;cases rq
     rw[cT]at bU;simp only[←bU]at c0;rw[if_neg (by omega),dif_pos (by omega)]at c0;simp;((with_reducible repeat' first|refine aj ?_|simp[Pv.look,H.slc,H.ssc]|((first|apply bM|apply bR|apply bQ)<;>intro h<;>try simp at h))<;>(try exact ch));refine H.swapA aS (by omega) p q (by omega) (by omega) fun o=>?_;have gS:((p:Int)+1)=(p+1:Nat):=by omega
     have hG:((q:Int)-1)=(q-1:Nat):=by omega
     simp;(with_reducible repeat' first|((first|apply bM|apply bR|apply bQ)<;>intro h<;>try simp at h)|refine aj ?_|simp);rw[gS,hG];refine bP.whl ((p+1,q-1),Sort.swp ck p q) (by simp;omega) ⟨by rw[gD,aS],⟨by simp;omega,by simp;omega,by simp;omega⟩,c0⟩ (H.weakC au (by simp[gD,aS]) (by simp[aC]))
   ·have cT:Sort.scanDown (fun x=>lt ck[a]! x) ck p q=q:=uC (by omega);rw[cT]at bU;simp only[←bU]at c0;rw[if_pos (by omega)]at c0;refine H.retR au (d:=ck) aS (.inl rfl) ?_;simp[cZ,Lz,aX,aY,aV];rw[←c0];exact⟨rfl,_,rfl,rfl,aS⟩
 ·have uk:Sort.scanUp (fun x=> !lt ck[a]! x) ck dD p=p:=Ao (by omega);rw[uk]at iJ;simp only[←iJ]at c0;have cT:Sort.scanDown (fun x=>lt ck[a]! x) ck p dD=dD:=uC (by omega);rw[cT,if_pos (by omega)]at c0;refine H.loopA au [1,4,9] (fun(x:Nat)=>[(10,.int .i64 x)]) (fun _=>ck) (fun x=>x) (fun x=>x=dD) dD aS rfl (by simp[Pv.look]) aR aR (by simp[aC]) ?_;rintro q rfl;simp[Pv.look,H.slc];((with_reducible repeat' first|refine aj ?_|simp[Pv.look,H.slc,H.ssc]|((first|apply bM|apply bR|apply bQ)<;>intro h<;>try simp at h))<;>(try exact ch));refine H.retR au (d:=ck) aS (.inl rfl) ?_;simp[cZ,Lz,aX,aY,aV];rw[←c0];exact⟨rfl,_,rfl,rfl,aS⟩
end Go.Proofs.YtahlgcidhnjlbaaGreat
namespace Go.Proofs.YtahlgcidhnjlbaaGreat
open Go Go.Pv
variable {α:Type} [Inhabited α] {S:List α→cI} {n g b6:Nat} {lc b2:List ah} {lt:α→α→Bool}
theorem ac1(H:e1 S n g b6 lc b2 lt)(d:Array α)(aQ:d.size=n)(a b:Nat)(mQ:a<b)(ae:b≤n)(U:2≤n):
  bN al 242 [eV g b6 lc b2,.int .i64 a,.int .i64 b] (S d.toList) fun r ai=>r= .bool (Sort.partialInsertionSort lt d a b).2∧∃b8,ai=S b8.toList∧b8=(Sort.partialInsertionSort lt d a b).1∧b8.size=n:=by
 obtain⟨R,bh⟩:∃R,R=Sort.partialInsertionSort lt d a b:=⟨_,rfl⟩;rw[←bh];unfold Sort.partialInsertionSort at bh;have ag:=H.ok d.toList;have au:d.toList.length=n:=by simpa using aQ
 have aw:∀l m,Pv.look (.loc m) (S l).b=none:=fun l=>(H.ok l).obj.1;have hu:∀l m cs,cw (.loc m) cs (S l).b=(S l).b++[(.loc m,cs)]:=fun l m cs=>jT (aw l m);have av:∀m,aH.loc m∉cQ (S d.toList):=jO ag.obj;have hle:=H.le;refine bN.mk mixed nJ abK aib (by simp) ag.obj fun aP cP=>?_;unfold Ph;simp[eV,hu,av,cH,aw];have ak:((a:Int)+1)=(a+1:Nat):=by omega
 (with_reducible repeat' first|refine aj ?_|simp);rw[ak];refine H.loopA au [1,2,3] (fun(x:(Nat×Nat)×Array α)=>[(7,.int .i64 x.1.1),(8,.int .i64 x.1.2)]) (·.2) (fun x=>5-x.1.2) (fun x=>x.2.size=n∧(a+1≤x.1.1∧x.1.1≤b∧x.1.2≤5)∧Sort.partialIns lt a b (5-x.1.2) x.1.1 x.2=R) ((a+1,0),d) aQ ⟨aQ,⟨by simp,by simp;omega,by simp⟩,bh.symm⟩ (by simp[cH,aw]) aR aR (by simp[aC]) ?_;rintro⟨⟨i0,s⟩,ck⟩ ⟨aS,⟨bp,bW,dy⟩,c0⟩;simp only at aS bp bW dy c0;simp;((with_reducible repeat' first|refine aj ?_|simp|((first|apply bM|apply bR|apply bQ)<;>intro h<;>try simp at h))<;>(try exact ch))
 ·obtain⟨m,hm⟩:∃m,5-s=m+1:=⟨5-s-1,by omega⟩;rw[hm,Sort.partialIns]at c0;refine H.loopA au [1,2,3,8] (fun(x:Nat)=>[(7,.int .i64 x)]) (fun _=>ck) (fun x=>b-x) (fun x=>i0≤x∧x≤b∧Sort.scanSorted lt ck b x=Sort.scanSorted lt ck b i0) i0 aS ⟨by omega,by omega,rfl⟩ (by simp[Pv.look]) aR aR (by simp[aC]) ?_;rintro i ⟨i1,i2,i3⟩;rw[Sort.scanSorted]at i3;have o0:((i:Int)+1)=(i+1:Nat):=by omega
  have Ef:((i:Int)-1)=(i-1:Nat):=by omega
  have es:((s:Int)+1)=(s+1:Nat):=by omega
  have em:5-(s+1)=m:=by omega
  simp[Pv.look,H.slc];((with_reducible repeat' first|refine aj ?_|simp[Pv.look,H.slc]|((first|apply bM|apply bR|apply bQ)<;>intro h<;>try simp at h))<;>(try exact ch))
  ·rw[Ef];refine H.lessA aS i (i-1) (by omega) (by omega) fun o=>?_;cases ab:lt ck[i]! ck[i-1]!
   ·rw[if_pos (by simp[ab];omega)]at i3;simp;(with_reducible repeat' first|refine aj ?_|simp);rw[o0];refine bP.whl (i+1) (by omega) ⟨by omega,by omega,i3⟩ (H.weakC au (by simpa using aS) (by simp[aC]))
   ·rw[if_neg (by simp[ab])]at i3;simp only[←i3]at c0;rw[if_neg (by omega)]at c0;have y6:(i:Int)≠b:=by omega
    have ad9:((i:Int)==b)=false:=by simp;omega
    simp;((with_reducible repeat' first|refine aj ?_|simp[y6,ad9,Pv.look,H.slc,H.ssc]|((first|apply bM|apply bR|apply bQ)<;>intro h<;>try simp at h))<;>(try exact ch))
    ·rw[if_pos (by omega)]at c0;refine H.retR au (d:=ck) aS (.inl rfl) ?_;simp[cZ,Gh,aX,aY,aV];rw[←c0];exact⟨rfl,_,rfl,rfl,aS⟩
    ·rw[if_neg (by omega)]at c0;rw[Ef];refine H.swapA aS U i (i-1) (by omega) (by omega) fun o=>?_;obtain⟨d2,eN⟩:∃d2,d2=Sort.swp ck i (i-1):=⟨_,rfl⟩;have s2:d2.size=n:=by rw[eN,gD,aS]
     rw[←eN];simp only[←eN]at c0;by_cases ly:2≤b-i
     ·rw[if_pos ly]at c0;have sy:(2:Int)≤(b:Int)-i:=by omega
      by_cases BB:2≤i-a
      ·rw[if_pos BB]at c0;have w6:(2:Int)≤(i:Int)-a:=by omega
       simp;(with_reducible repeat' first|refine aj ?_|simp[w6]);rw[Ef];refine H.loopA au [1,2,3,7,8] (fun(x:Nat×Array α)=>[(9,.int .i64 x.1)]) (·.2) (fun x=>x.1) (fun x=>x.2.size=n∧x.1≤i-1∧Sort.shiftDown lt x.1 x.2=Sort.shiftDown lt (i-1) d2) (i-1,d2) s2 ⟨s2,by simp,rfl⟩ (by simp[Pv.look]) aR aR (by simp[aC]) ?_;rintro⟨j,fK⟩ ⟨hj,vv,gV⟩;simp only at hj vv gV;simp[Pv.look,H.slc,H.ssc];((with_reducible repeat' first|refine aj ?_|simp[Pv.look,H.slc,H.ssc,sy]|((first|apply bM|apply bR|apply bQ)<;>intro h<;>try simp at h))<;>(try exact ch))
       ·obtain⟨j,rfl⟩:∃dD,j=dD+1:=⟨j-1,by omega⟩;have n1:(((j+1:Nat):Int)-1)=(j:Nat):=by omega
        rw[Sort.shiftDown]at gV;try rw[n1]
        refine H.lessA hj (j+1) j (by omega) (by omega) fun o=>?_;cases aG:lt fK[j+1]! fK[j]!
        ·rw[if_pos (by simp[aG])]at gV;rw[←gV]at c0;try simp
         try(with_reducible repeat' first|refine aj ?_|simp[Pv.look,H.slc,H.ssc,sy])
         rw[o0];refine H.loopA au [1,2,3,7,8] (fun(x:Nat×Array α)=>[(10,.int .i64 x.1)]) (·.2) (fun x=>b-x.1) (fun x=>x.2.size=n∧(i+1≤x.1∧x.1≤b)∧Sort.shiftUp lt b x.1 x.2=Sort.shiftUp lt b (i+1) fK) (i+1,fK) hj ⟨hj,⟨by simp,by simp;omega⟩,rfl⟩ (by simp[Pv.look]) aR aR (by simp[aC]) ?_;rintro⟨q,mK⟩ ⟨a6,⟨bz,xR⟩,bU⟩;simp only at a6 bz xR bU;rw[Sort.shiftUp]at bU;have eq:((q:Int)-1)=(q-1:Nat):=by omega
         have Ba:((q:Int)+1)=(q+1:Nat):=by omega
         simp[Pv.look,H.slc,H.ssc];((with_reducible repeat' first|refine aj ?_|simp[Pv.look,H.slc,H.ssc]|((first|apply bM|apply bR|apply bQ)<;>intro h<;>try simp at h))<;>(try exact ch))
         ·rw[if_pos (by omega)]at bU;rw[eq];refine H.lessA a6 q (q-1) (by omega) (by omega) fun o=>?_;cases br:lt mK[q]! mK[q-1]!
          ·rw[if_pos (by simp[br])]at bU;rw[←bU]at c0;simp;(with_reducible repeat' first|refine aj ?_|simp);rw[es];refine bP.whl ((i,s+1),mK) (by simp;omega) ⟨a6,⟨by simp;omega,by simp;omega,by simp;omega⟩,by simp only[em];exact c0⟩ (H.weakC au (by simpa using a6) (by simp[aC]))
          ·rw[if_neg (by simp[br])]at bU;simp;(with_reducible repeat' first|refine aj ?_|simp[Pv.look,H.slc,H.ssc]);rw[eq];refine H.swapA a6 (by omega) q (q-1) (by omega) (by omega) fun o=>?_;simp;((with_reducible repeat' first|refine aj ?_|simp|((first|apply bM|apply bR|apply bQ)<;>intro h<;>try simp at h))<;>(try exact ch));rw[Ba];refine bP.whl (q+1,Sort.swp mK q (q-1)) (by simp;omega) ⟨by rw[gD,a6],⟨by simp;omega,by simp;omega⟩,bU⟩ (H.weakC au (by simp[gD,a6]) (by simp[aC]))
         ·rw[if_neg (by omega)]at bU;rw[←bU]at c0;rw[es];refine bP.whl ((i,s+1),mK) (by simp;omega) ⟨a6,⟨by simp;omega,by simp;omega,by simp;omega⟩,by simp only[em];exact c0⟩ (H.weakC au (by simpa using a6) (by simp[aC]))
        ·rw[if_neg (by simp[aG])]at gV;simp;(with_reducible repeat' first|refine aj ?_|simp[Pv.look,H.slc,H.ssc]);try rw[n1]
         refine H.swapA hj U (j+1) j (by omega) (by omega) fun o=>?_;simp;((with_reducible repeat' first|refine aj ?_|simp|((first|apply bM|apply bR|apply bQ)<;>intro h<;>try simp at h))<;>(try exact ch));try rw[n1]
         refine bP.whl (j,Sort.swp fK (j+1) j) (by simp) ⟨by rw[gD,hj],by simp;omega,gV⟩ (H.weakC au (by simp[gD,hj]) (by simp[aC]))
       ·obtain rfl:j=0:=by omega
        rw[Sort.shiftDown]at gV;rw[←gV]at c0;try simp
        try(with_reducible repeat' first|refine aj ?_|simp[Pv.look,H.slc,H.ssc,sy])
        rw[o0];refine H.loopA au [1,2,3,7,8] (fun(x:Nat×Array α)=>[(10,.int .i64 x.1)]) (·.2) (fun x=>b-x.1) (fun x=>x.2.size=n∧(i+1≤x.1∧x.1≤b)∧Sort.shiftUp lt b x.1 x.2=Sort.shiftUp lt b (i+1) fK) (i+1,fK) hj ⟨hj,⟨by simp,by simp;omega⟩,rfl⟩ (by simp[Pv.look]) aR aR (by simp[aC]) ?_;rintro⟨q,mK⟩ ⟨a6,⟨bz,xR⟩,bU⟩;simp only at a6 bz xR bU;rw[Sort.shiftUp]at bU;have eq:((q:Int)-1)=(q-1:Nat):=by omega
        have Ba:((q:Int)+1)=(q+1:Nat):=by omega
        simp[Pv.look,H.slc,H.ssc];((with_reducible repeat' first|refine aj ?_|simp[Pv.look,H.slc,H.ssc]|((first|apply bM|apply bR|apply bQ)<;>intro h<;>try simp at h))<;>(try exact ch))
        ·rw[if_pos (by omega)]at bU;rw[eq];refine H.lessA a6 q (q-1) (by omega) (by omega) fun o=>?_;cases br:lt mK[q]! mK[q-1]!
         ·rw[if_pos (by simp[br])]at bU;rw[←bU]at c0;simp;(with_reducible repeat' first|refine aj ?_|simp);rw[es];refine bP.whl ((i,s+1),mK) (by simp;omega) ⟨a6,⟨by simp;omega,by simp;omega,by simp;omega⟩,by simp only[em];exact c0⟩ (H.weakC au (by simpa using a6) (by simp[aC]))
         ·rw[if_neg (by simp[br])]at bU;simp;(with_reducible repeat' first|refine aj ?_|simp[Pv.look,H.slc,H.ssc]);rw[eq];refine H.swapA a6 (by omega) q (q-1) (by omega) (by omega) fun o=>?_;simp;((with_reducible repeat' first|refine aj ?_|simp|((first|apply bM|apply bR|apply bQ)<;>intro h<;>try simp at h))<;>(try exact ch));rw[Ba];refine bP.whl (q+1,Sort.swp mK q (q-1)) (by simp;omega) ⟨by rw[gD,a6],⟨by simp;omega,by simp;omega⟩,bU⟩ (H.weakC au (by simp[gD,a6]) (by simp[aC]))
        ·rw[if_neg (by omega)]at bU;rw[←bU]at c0;rw[es];refine bP.whl ((i,s+1),mK) (by simp;omega) ⟨a6,⟨by simp;omega,by simp;omega,by simp;omega⟩,by simp only[em];exact c0⟩ (H.weakC au (by simpa using a6) (by simp[aC]))
      ·rw[if_neg BB]at c0;have w6:¬(2:Int)≤(i:Int)-a:=by omega
       simp;(with_reducible repeat' first|refine aj ?_|simp[w6,sy]);try simp
       try(with_reducible repeat' first|refine aj ?_|simp[Pv.look,H.slc,H.ssc,sy])
       rw[o0];refine H.loopA au [1,2,3,7,8] (fun(x:Nat×Array α)=>[(10,.int .i64 x.1)]) (·.2) (fun x=>b-x.1) (fun x=>x.2.size=n∧(i+1≤x.1∧x.1≤b)∧Sort.shiftUp lt b x.1 x.2=Sort.shiftUp lt b (i+1) d2) (i+1,d2) s2 ⟨s2,⟨by simp,by simp;omega⟩,rfl⟩ (by simp[Pv.look]) aR aR (by simp[aC]) ?_;rintro⟨q,mK⟩ ⟨a6,⟨bz,xR⟩,bU⟩;simp only at a6 bz xR bU;rw[Sort.shiftUp]at bU;have eq:((q:Int)-1)=(q-1:Nat):=by omega
       have Ba:((q:Int)+1)=(q+1:Nat):=by omega
       simp[Pv.look,H.slc,H.ssc];((with_reducible repeat' first|refine aj ?_|simp[Pv.look,H.slc,H.ssc]|((first|apply bM|apply bR|apply bQ)<;>intro h<;>try simp at h))<;>(try exact ch))
       ·rw[if_pos (by omega)]at bU;rw[eq];refine H.lessA a6 q (q-1) (by omega) (by omega) fun o=>?_;cases br:lt mK[q]! mK[q-1]!
        ·rw[if_pos (by simp[br])]at bU;rw[←bU]at c0;simp;(with_reducible repeat' first|refine aj ?_|simp);rw[es];refine bP.whl ((i,s+1),mK) (by simp;omega) ⟨a6,⟨by simp;omega,by simp;omega,by simp;omega⟩,by simp only[em];exact c0⟩ (H.weakC au (by simpa using a6) (by simp[aC]))
        ·rw[if_neg (by simp[br])]at bU;simp;(with_reducible repeat' first|refine aj ?_|simp[Pv.look,H.slc,H.ssc]);rw[eq];refine H.swapA a6 (by omega) q (q-1) (by omega) (by omega) fun o=>?_;simp;((with_reducible repeat' first|refine aj ?_|simp|((first|apply bM|apply bR|apply bQ)<;>intro h<;>try simp at h))<;>(try exact ch));rw[Ba];refine bP.whl (q+1,Sort.swp mK q (q-1)) (by simp;omega) ⟨by rw[gD,a6],⟨by simp;omega,by simp;omega⟩,bU⟩ (H.weakC au (by simp[gD,a6]) (by simp[aC]))
       ·rw[if_neg (by omega)]at bU;rw[←bU]at c0;rw[es];refine bP.whl ((i,s+1),mK) (by simp;omega) ⟨a6,⟨by simp;omega,by simp;omega,by simp;omega⟩,by simp only[em];exact c0⟩ (H.weakC au (by simpa using a6) (by simp[aC]))
     ·rw[if_neg ly]at c0;have sy:¬(2:Int)≤(b:Int)-i:=by omega
      by_cases BB:2≤i-a
      ·rw[if_pos BB]at c0;have w6:(2:Int)≤(i:Int)-a:=by omega
       simp;(with_reducible repeat' first|refine aj ?_|simp[w6]);rw[Ef];refine H.loopA au [1,2,3,7,8] (fun(x:Nat×Array α)=>[(9,.int .i64 x.1)]) (·.2) (fun x=>x.1) (fun x=>x.2.size=n∧x.1≤i-1∧Sort.shiftDown lt x.1 x.2=Sort.shiftDown lt (i-1) d2) (i-1,d2) s2 ⟨s2,by simp,rfl⟩ (by simp[Pv.look]) aR aR (by simp[aC]) ?_;rintro⟨j,fK⟩ ⟨hj,vv,gV⟩;simp only at hj vv gV;simp[Pv.look,H.slc,H.ssc];((with_reducible repeat' first|refine aj ?_|simp[Pv.look,H.slc,H.ssc,sy]|((first|apply bM|apply bR|apply bQ)<;>intro h<;>try simp at h))<;>(try exact ch))
       ·obtain⟨j,rfl⟩:∃dD,j=dD+1:=⟨j-1,by omega⟩;have n1:(((j+1:Nat):Int)-1)=(j:Nat):=by omega
        rw[Sort.shiftDown]at gV;try rw[n1]
        refine H.lessA hj (j+1) j (by omega) (by omega) fun o=>?_;cases aG:lt fK[j+1]! fK[j]!
        ·rw[if_pos (by simp[aG])]at gV;rw[←gV]at c0;try simp
         try(with_reducible repeat' first|refine aj ?_|simp[Pv.look,H.slc,H.ssc,sy])
         rw[es];refine bP.whl ((i,s+1),fK) (by simp;omega) ⟨hj,⟨by simp;omega,by simp;omega,by simp;omega⟩,by simp only[em];exact c0⟩ (H.weakC au (by simpa using hj) (by simp[aC]))
        ·rw[if_neg (by simp[aG])]at gV;simp;(with_reducible repeat' first|refine aj ?_|simp[Pv.look,H.slc,H.ssc]);try rw[n1]
         refine H.swapA hj U (j+1) j (by omega) (by omega) fun o=>?_;simp;((with_reducible repeat' first|refine aj ?_|simp|((first|apply bM|apply bR|apply bQ)<;>intro h<;>try simp at h))<;>(try exact ch));try rw[n1]
         refine bP.whl (j,Sort.swp fK (j+1) j) (by simp) ⟨by rw[gD,hj],by simp;omega,gV⟩ (H.weakC au (by simp[gD,hj]) (by simp[aC]))
       ·obtain rfl:j=0:=by omega
        rw[Sort.shiftDown]at gV;rw[←gV]at c0;try simp
        try(with_reducible repeat' first|refine aj ?_|simp[Pv.look,H.slc,H.ssc,sy])
        rw[es];refine bP.whl ((i,s+1),fK) (by simp;omega) ⟨hj,⟨by simp;omega,by simp;omega,by simp;omega⟩,by simp only[em];exact c0⟩ (H.weakC au (by simpa using hj) (by simp[aC]))
      ·rw[if_neg BB]at c0;have w6:¬(2:Int)≤(i:Int)-a:=by omega
       simp;((with_reducible repeat' first|refine aj ?_|simp[w6,sy]|((first|apply bM|apply bR|apply bQ)<;>intro h<;>try simp at h))<;>(try exact ch));done
  ·rw[if_neg (by simp;omega)]at i3;simp only[←i3]at c0;rw[if_pos (by omega)]at c0;refine H.retR au (d:=ck) aS (.inl rfl) ?_;simp[cZ,Gh,aX,aY,aV];rw[←c0];exact⟨rfl,_,rfl,rfl,aS⟩
 ·have:5-s=0:=by omega
  rw[this,Sort.partialIns]at c0;refine H.retR au (d:=ck) aS (.inl rfl) ?_;simp[cZ,Gh,aX,aY,aV];rw[←c0];exact⟨rfl,_,rfl,rfl,aS⟩
end Go.Proofs.YtahlgcidhnjlbaaGreat
namespace Go.Proofs.YtahlgcidhnjlbaaGreat
open Go Go.Pv
variable {α:Type} [Inhabited α] {S:List α→cI} {n g b6:Nat} {lc b2:List ah} {lt:α→α→Bool}
def e9(S:List α→cI)(d:Array α)(v:Nat):cI:=⟨(.obj 901,[.int .i64 v])::(S d.toList).b,(S d.toList).e⟩
def rE(S:List α→cI)(m:Nat):Prop:= ∀l,Pv.look (.obj m) (S l).b=none∧Pv.look (.obj m) (S l).e=none
theorem np(H:e1 S n g b6 lc b2 lt)(d:Array α)(v:Nat):ea (e9 S d v):=by
 have h:=H.ok d.toList;have jg:∀k,inObs (S d.toList) k→inObs (e9 S d v) k:=fun k ad=>by
  rcases ad with ad|ad
  ·refine .inl ?_;simp only[e9,Pv.look];split
   ·rfl
   ·exact ad
  ·exact .inr ad
 refine⟨⟨fun m=>?_,h.obj.2⟩,fun k cs ad=>?_,fun k o av xs ab=>jL jg _ (h.ke k o av xs ab)⟩
 ·simp[e9,Pv.look,h.obj.1 m]
 ·simp only[e9,Pv.look]at ad;split at ad
  ·cases ad;simp[aJ,aC]
  ·exact jL jg _ (h.kb k cs ad)
theorem r3(d:Array α)(v v':Nat):Same (e9 S d v) (e9 S d v'):=⟨fun k=>by simp only[e9,Pv.look];split<;>rfl,fun _=>rfl⟩
theorem I4(H:e1 S n g b6 lc b2 lt)(ad:rE S 901)(d:Array α)(aQ:d.size=n)(a b v:Nat)(bE:a<n)(ae:b<n)(aK:v≤1000):
  bN al 271 [eV g b6 lc b2,.int .i64 a,.int .i64 b,.ptr (.obj 901) 0] (e9 S d v) fun r ai=>r= .tuple [.int .i64 (Sort.order2 lt d a b v).1,.int .i64 (Sort.order2 lt d a b v).2.1]∧ai=e9 S d (Sort.order2 lt d a b v).2.2:=by
 have ag:=H.ok d.toList;have au:d.toList.length=n:=by simpa using aQ
 have aw:∀l m,Pv.look (.loc m) (S l).b=none:=fun l=>(H.ok l).obj.1;have hu:∀l m cs,cw (.loc m) cs (S l).b=(S l).b++[(.loc m,cs)]:=fun l m cs=>jT (aw l m);have av:∀m,aH.loc m∉cQ (S d.toList):=jO ag.obj;have gp:∀l,Pv.look (.obj 901) (S l).b=none:=fun l=>(ad l).1;have kX:∀l,Pv.look (.obj 901) (S l).e=none:=fun l=>(ad l).2;have hle:=H.le;have kn:=np H d v;obtain⟨R,bh⟩:∃R,R=Sort.order2 lt d a b v:=⟨_,rfl⟩;rw[←bh];unfold Sort.order2 at bh;refine bN.mk mixed nJ abJ aia (by simp) kn.obj fun aP cP=>?_;unfold Pg;have lr:aH.loc 0∉cQ (e9 S d v):=jO kn.obj 0;generalize tQ:cQ (e9 S d v)=ob at lr⊢;unfold e9;simp[eV,hu,lr,cH,aw,Pv.look,cw];rw[H.slc];refine c4.ob (H.less d.toList au b a _ _ (yt (by omega)) (yt (by omega))) (H.ok _) (fun k cs ab=>?_) (fun _ _ ab=>ab) (by simp[aC,aJ,H.klc d.toList au]) ?_
 ·simp only[Pv.look];split
  ·rename_i e;subst e;rw[gp]at ab;cases ab
  ·rw[cH,ab]
 rintro r ai ⟨rfl,rfl⟩;refine⟨Same.refl _,?_⟩;have hw:cv (S d.toList).b ((aH.obj 901,[ah.int .i64 v])::((S d.toList).b++[(aH.loc 0,[ah.func g lc,ah.func b6 b2])]))=[(aH.obj 901,[ah.int .i64 v]),(aH.loc 0,[ah.func g lc,ah.func b6 b2])]:=by simp only[cv,gp];rw[ir,gO];simp[cv,aw]
 rw[hw,gO];have dx:∀(t:List (Nat×ah)) (o:List aH) (v':Nat) (D:List ah) (x y:Nat),Pv.get 8 t= .int .i64 x→Pv.get 9 t= .int .i64 y→R=(x,y,v')→
   cS Ly (e9 S d v) (fun r ai=>r= .tuple [.int .i64 R.1,.int .i64 R.2.1]∧ai=e9 S d R.2.2) .ret ⟨t,(aH.obj 901,[.int .i64 v'])::(aH.loc 0,D)::(S d.toList).b,(S d.toList).e,1,o⟩:=by
  rintro t o v' D x y ab aG rfl;refine cS.at (e9 S d v') (.inl rfl) (np H d v') (r3 _ _ _) (fun k cs ay=>?_) (fun _ _ ay=>ay) ?_
  ·simp only[e9,Pv.look]at ay⊢;split at ay
   ·rename_i e;rw[if_pos e];exact ay
   ·rename_i e;rw[if_neg e];split
    ·rename_i aB;subst aB;rw[aw]at ay;cases ay
    ·exact ay
  ·simp[cZ,Ly,aX,aY,aV,ab,aG]
 cases ab:lt d[b]! d[a]! with
 |true=>
  rw[if_pos ab]at bh;simp[Pv.look,cw];(with_reducible repeat' first|refine aj ?_|simp[Pv.look,cw]);have ak:((v:Int)+1)=(v+1:Nat):=by omega
  rw[ak];exact dx _ _ (v+1) _ b a rfl rfl bh
 |false=>rw[if_neg (by simp[ab])]at bh;simp[Pv.look,cw];exact dx _ _ v _ a b rfl rfl bh
theorem Uo{s ai:cI}{f:Nat}{args:List ah}{r:ah}(aI:bN al f args s fun eJ dJ=>eJ=r∧dJ=ai)(ag:ea s)(fb:Same s ai)(ad:aJ (inObs s) args){t:List (Nat×ah)}{D:List ah}{o:List aH}{d:Option Nat}{K:bq→Prop}
  (h:∀o,K ⟨eQ d r t,(.loc 0,D)::ai.b,ai.e,1,o⟩):c4 al f args ⟨t,s.b++[(.loc 0,D)],s.e,1,o⟩ d K:=by
 refine c4.ob aI ag (fun k cs ab=>by rw[cH,ab]) (fun _ _ ab=>ab) ad ?_;rintro r ai ⟨rfl,rfl⟩;refine⟨fb,?_⟩;have ak:cv s.b (s.b++[(.loc 0,D)])=[(.loc 0,D)]:=by rw[ir,gO];simp[cv,ag.obj.1 0]
 have aB:cv s.e s.e=[]:=gO _;simp only[ak,aB];exact h _
theorem Cz{s ai:cI}{f:Nat}{args:List ah}{r:ah}(aI:bN al f args s fun eJ dJ=>eJ=r∧dJ=ai)(ag:ea s)(fb:Same s ai)(ad:aJ (inObs s) args){t:List (Nat×ah)}{D:List ah}{o:List aH}{d:Option Nat}{K:bq→Prop}
  (h:∀o,K ⟨eQ d r t,(.loc 0,D)::ai.b,ai.e,1,o⟩):c4 al f args ⟨t,(.loc 0,D)::s.b,s.e,1,o⟩ d K:=by
 refine c4.ob aI ag (fun k cs ab=>?_) (fun _ _ ab=>ab) ad ?_
 ·cases k with
  |loc m=>rw[ag.obj.1 m]at ab;cases ab
  |obj m=>simpa[Pv.look]using ab
 rintro r ai ⟨rfl,rfl⟩;refine⟨fb,?_⟩;have ak:cv s.b ((.loc 0,D)::s.b)=[(.loc 0,D)]:=by have:=ir s.b [(aH.loc 0,D)] s.b;rw[gO]at this;simpa[cv,ag.obj.1 0]using this
 have aB:cv s.e s.e=[]:=gO _;simp only[ak,aB];exact h _
theorem zW{d:Array α}{a b v n:Nat}(bE:a<n)(ae:b<n):(Sort.order2 lt d a b v).1<n∧(Sort.order2 lt d a b v).2.1<n∧(Sort.order2 lt d a b v).2.2≤v+1:=by unfold Sort.order2;split<;>simp<;>omega
theorem tY(H:e1 S n g b6 lc b2 lt){d:Array α}(aQ:d.size=n){v:Nat}:aC (inObs (e9 S d v)) (eV g b6 lc b2)∧aC (inObs (e9 S d v)) (.ptr (.obj 901) 0):=by
 refine⟨vB (fun k ad=>?_) _ (H.kdata (lk:=d.toList) (by simpa using aQ)),by simp[aC,inObs,e9,Pv.look]⟩;rcases ad with ad|ad
 ·refine .inl ?_;simp only[e9,Pv.look];split
  ·rfl
  ·exact ad
 ·exact .inr ad
theorem Wa(H:e1 S n g b6 lc b2 lt){d:Array α}{v v':Nat}{eG:List bt}{Q:ah→cI→Prop}{t:List (Nat×ah)}{D:List ah}{o:List aH}(h:cZ ⟨t,(.loc 0,D)::(e9 S d v').b,(S d.toList).e,1,o⟩ eG fun r=>aC (inObs (e9 S d v')) r∧Q r (e9 S d v')):
  cS eG (e9 S d v) Q .ret ⟨t,(.loc 0,D)::(e9 S d v').b,(S d.toList).e,1,o⟩:=by
 refine cS.at (e9 S d v') (.inl rfl) (np H d v') (r3 _ _ _) (fun k cs ab=>?_) (fun _ _ ay=>ay) h;cases k with
 |loc m=>rw[(np H d v').obj.1 m]at ab;cases ab
 |obj m=>simpa[Pv.look]using ab
theorem I1(H:e1 S n g b6 lc b2 lt)(ad:rE S 901)(d:Array α)(aQ:d.size=n)(a b c v:Nat)(bE:a<n)(ae:b<n)(ay:c<n)(aK:v≤900):
  bN al 256 [eV g b6 lc b2,.int .i64 a,.int .i64 b,.int .i64 c,.ptr (.obj 901) 0] (e9 S d v) fun r ai=>r= .int .i64 (Sort.median lt d a b c v).1∧ai=e9 S d (Sort.median lt d a b c v).2:=by
 have kn:=np H d v;have ri:∀v m,Pv.look (.loc m) (e9 S d v).b=none:=fun v=>(np H d v).obj.1;have JW:∀v m cs,cw (.loc m) cs (e9 S d v).b=(e9 S d v).b++[(.loc m,cs)]:=fun v m cs=>jT (ri v m);have lr:aH.loc 0∉cQ (e9 S d v):=jO kn.obj 0;obtain⟨R,bh⟩:∃R,R=Sort.median lt d a b c v:=⟨_,rfl⟩;rw[←bh];unfold Sort.median at bh;have a6:=zW (lt:=lt) (d:=d) (v:=v) bE ae;have aS:=I4 H ad d aQ a b v bE ae (by omega);generalize Sort.order2 lt d a b v=dI at a6 aS bh;obtain⟨rU,ky,v1⟩:=dI;simp only at a6 aS bh;have bz:=zW (lt:=lt) (d:=d) (v:=v1) a6.2.1 ay;have bp:=I4 H ad d aQ ky c v1 a6.2.1 ay (by omega);generalize Sort.order2 lt d ky c v1=eZ at bz bp bh;obtain⟨yg,oN,v2⟩:=eZ;simp only at bz bp bh;have bU:=zW (lt:=lt) (d:=d) (v:=v2) a6.1 bz.1;have bW:=I4 H ad d aQ rU yg v2 a6.1 bz.1 (by omega);generalize Sort.order2 lt d rU yg v2=kK at bU bW bh;obtain⟨rV,Hf,v3⟩:=kK;simp only at bU bW bh;refine bN.mk mixed nJ abH ah8 (by simp) kn.obj fun aP cP=>?_;unfold Pe;simp[eV,JW,lr,cH,ri];simp only[h6 H,H.slc,H.ssc,h1];refine Uo aS (np H d v) (r3 _ _ _) (by simp[aC,aJ,(tY H aQ).1];exact(tY H aQ).2) fun o=>?_;simp[Pv.look];simp only[h6 H,H.slc,H.ssc,h1];refine Cz bp (np H d v1) (r3 _ _ _) (by simp[aC,aJ,(tY H aQ).1];exact(tY H aQ).2) fun o=>?_;simp[Pv.look];simp only[h6 H,H.slc,H.ssc,h1];refine Cz bW (np H d v2) (r3 _ _ _) (by simp[aC,aJ,(tY H aQ).1];exact(tY H aQ).2) fun o=>?_;simp;refine Wa H ?_;simp[cZ,Vx,aX,aY,aV];rw[bh];exact⟨rfl,rfl⟩
theorem I2(H:e1 S n g b6 lc b2 lt)(ad:rE S 901)(d:Array α)(aQ:d.size=n)(a v:Nat)(bE:a+1<n)(kW:1≤a)(aK:v≤900):
  bN al 255 [eV g b6 lc b2,.int .i64 a,.ptr (.obj 901) 0] (e9 S d v) fun r ai=>r= .int .i64 (Sort.medianAdjacent lt d a v).1∧ai=e9 S d (Sort.medianAdjacent lt d a v).2:=by
 have kn:=np H d v;have ri:∀v m,Pv.look (.loc m) (e9 S d v).b=none:=fun v=>(np H d v).obj.1;have JW:∀v m cs,cw (.loc m) cs (e9 S d v).b=(e9 S d v).b++[(.loc m,cs)]:=fun v m cs=>jT (ri v m);have lr:aH.loc 0∉cQ (e9 S d v):=jO kn.obj 0;have hle:=H.le;have aS:=I1 H ad d aQ (a-1) a (a+1) v (by omega) (by omega) (by omega) aK;unfold Sort.medianAdjacent;refine bN.mk mixed nJ abG ah7 (by simp) kn.obj fun aP cP=>?_;unfold Pd;have ak:((a:Int)-1)=(a-1:Nat):=by omega
 have aB:((a:Int)+1)=(a+1:Nat):=by omega
 simp[eV,JW,lr,cH,ri];(with_reducible repeat' first|refine aj ?_|simp);simp only[h6 H,H.slc,H.ssc,h1,ak,aB];refine Uo aS (np H d v) (r3 _ _ _) (by simp[aC,aJ,(tY H aQ).1];exact(tY H aQ).2) fun o=>?_;simp;refine Wa H ?_;simp[cZ,Vw,aX,aY,aV]
theorem Up{m:Nat}(h:rE S m)(l:List α):aH.obj m∉cQ (S l):=fun hm=>by
 rcases SO hm with J|J
 ·rw[(h l).1]at J;cases J
 ·rw[(h l).2]at J;cases J
theorem Cp{d:Array α}{a b c v n:Nat}(bE:a<n)(ae:b<n)(ay:c<n):(Sort.median lt d a b c v).1<n∧(Sort.median lt d a b c v).2≤v+3:=by have a6:=zW (lt:=lt) (d:=d) (v:=v) bE ae;have bz:=zW (lt:=lt) (d:=d) (v:=(Sort.order2 lt d a b v).2.2) a6.2.1 ay;have bU:=zW (lt:=lt) (d:=d) (v:=(Sort.order2 lt d (Sort.order2 lt d a b v).2.1 c (Sort.order2 lt d a b v).2.2).2.2) a6.1 bz.1;refine⟨bU.2.1,jV bU.2.2 ?_⟩;omega
def y7:Sort.Hint→Int
 | .unknown=>0
 | .increasing=>1
 | .decreasing=>2
theorem acS(H:e1 S n g b6 lc b2 lt)(ad:rE S 901)(d:Array α)(aQ:d.size=n)(a b:Nat)(mQ:a<b)(ae:b≤n):
  bN al 240 [eV g b6 lc b2,.int .i64 a,.int .i64 b] (S d.toList) fun r ai=>r= .tuple [.int .i64 (Sort.choosePivot lt d a b).1,.int .i64 (y7 (Sort.choosePivot lt d a b).2)]∧ai=S d.toList:=by
 have ag:=H.ok d.toList;have au:d.toList.length=n:=by simpa using aQ
 have aw:∀l m,Pv.look (.loc m) (S l).b=none:=fun l=>(H.ok l).obj.1;have hu:∀l m cs,cw (.loc m) cs (S l).b=(S l).b++[(.loc m,cs)]:=fun l m cs=>jT (aw l m);have av:∀m,aH.loc m∉cQ (S d.toList):=jO ag.obj;have gp:∀l,Pv.look (.obj 901) (S l).b=none:=fun l=>(ad l).1;have kX:∀l,Pv.look (.obj 901) (S l).e=none:=fun l=>(ad l).2;have hle:=H.le;have lr:=Up ad d.toList;obtain⟨R,bh⟩:∃R,R=Sort.choosePivot lt d a b:=⟨_,rfl⟩;rw[←bh];unfold Sort.choosePivot at bh;refine bN.mk mixed nJ abE ah5 (by simp) ag.obj fun aP cP=>?_;unfold Pb;have xo:∀l D cs,cw (.obj 901) cs ((S l).b++[(.loc 0,D)])=(S l).b++[(.loc 0,D),(.obj 901,cs)]:=fun l D cs=>by rw[AE (gp l)];rfl
 obtain⟨q,bn⟩:∃q,q=(b-a)/4:=⟨_,rfl⟩;have dd:IntKind.i64.wrap (((b:Int)-a).tdiv 4)=(q:Nat):=by rw[show((b:Int)-a)=((b-a:Nat):Int) by omega,Int.tdiv_eq_ediv_of_nonneg (by omega),oO _ (by omega)];omega
 simp[eV,hu,xo,av,lr,cH,aw,gp,kX,Pv.look,cw];have dx:∀(t:List (Nat×ah)) (o:List aH) (bO:List (aH×List ah)) (x:Nat) (h:Sort.Hint),Pv.get 6 t= .int .i64 x→Pv.get 7 t= .int .i64 (y7 h)→R=(x,h)→(∀k cs,Pv.look k (S d.toList).b=some cs→Pv.look k bO=some cs)→
   cS Lx (S d.toList) (fun r ai=>r= .tuple [.int .i64 R.1,.int .i64 (y7 R.2)]∧ai=S d.toList) .ret ⟨t,bO,(S d.toList).e,1,o⟩:=by
  rintro t o bO x h ab aG rfl fR;refine cS.at (S d.toList) (.inl rfl) ag (Same.refl _) fR (fun _ _ ay=>ay) ?_;simp[cZ,Lx,aX,aY,aV,ab,aG]
 have yX:∀(D:List ah) (v:Nat) k cs,Pv.look k (S d.toList).b=some cs→Pv.look k ((.loc 0,D)::(e9 S d v).b)=some cs:=fun D v k cs h=>by
  simp only[e9,Pv.look];split
  ·rename_i e;subst e;rw[aw]at h;cases h
  ·split
   ·rename_i e;subst e;rw[gp]at h;cases h
   ·exact h
 have RK:∀{f:Nat} {args:List ah} {r:ah} {v:Nat},(bN al f args (e9 S d 0) fun eJ dJ=>eJ=r∧dJ=e9 S d v)→aJ (inObs (e9 S d 0)) args→∀{t:List (Nat×ah)} {D:List ah} {o:List aH} {b8:Option Nat} {K:bq→Prop},(∀o,K ⟨eQ b8 r t,(.loc 0,D)::(e9 S d v).b,(S d.toList).e,1,o⟩)→
   c4 al f args ⟨t,(S d.toList).b++[(.loc 0,D),(.obj 901,[.int .i64 0])],(S d.toList).e,1,o⟩ b8 K:=by
  intro f args r v aI hf t D o b8 K h;refine c4.ob aI (np H d 0) (fun k cs ab=>?_) (fun _ _ ab=>ab) hf ?_
  ·simp only[e9,Pv.look]at ab;rw[cH];split at ab
   ·rename_i e;subst e;rw[gp];simp[Pv.look];simpa using ab
   ·rw[ab]
  rintro r ai ⟨rfl,rfl⟩;refine⟨r3 _ _ _,?_⟩;have ak:cv (e9 S d 0).b ((S d.toList).b++[(.loc 0,D),(.obj 901,[.int .i64 0])])=[(.loc 0,D)]:=by
   rw[ir];have:cv (e9 S d 0).b (S d.toList).b=[]:=M2 _ _ fun k x hm=>by
    have:=ud hm;simp only[e9,Pv.look];split
    ·rfl
    ·exact this
   rw[this];simp[cv,e9,Pv.look,aw]
  have aB:cv (e9 S d 0).e (S d.toList).e=[]:=gO _;simp only[ak,aB];exact h _
 have hf:=fun(v:Nat)=>(tY H aQ (v:=v));have f1:((a:Int)+q)=(a+q:Nat):=by omega
 have f2:((a:Int)+q*2)=(a+q*2:Nat):=by omega
 have f3:((a:Int)+q*3)=(a+q*3:Nat):=by omega
 dsimp only at bh;rw[←bn,Nat.mul_one]at bh;by_cases nz:b-a<8
 ·have Ey:¬(8:Int)≤(b:Int)-a:=by omega
  (with_reducible repeat' first|refine aj ?_|simp[Ey,dd,hu,xo,av,lr,cH,aw,gp,kX,Pv.look,cw]);rw[f2];refine dx _ _ _ (a+q*2) .increasing rfl rfl (by rw[bh,if_neg (by omega)];simp) (fun k cs h=>by rw[cH,h])
 ·have Ey:(8:Int)≤(b:Int)-a:=by omega
  by_cases aon:b-a<50
  ·have I8:¬(50:Int)≤(b:Int)-a:=by omega
   (with_reducible repeat' first|refine aj ?_|simp[Ey,I8,dd,hu,xo,av,lr,cH,aw,gp,kX,Pv.look,cw]);simp only[h6 H,H.slc,H.ssc,h1,f1,f2,f3];have aS:=I1 H ad d aQ (a+q) (a+q*2) (a+q*3) 0 (by omega) (by omega) (by omega) (by omega);have bp:=Cp (lt:=lt) (d:=d) (a:=a+q) (b:=a+q*2) (c:=a+q*3) (v:=0) (n:=n) (by omega) (by omega) (by omega);rw[if_pos (by omega),if_neg (by omega)]at bh;generalize Sort.median lt d (a+q) (a+q*2) (a+q*3) 0=m at aS bp bh;obtain⟨x,v⟩:=m;refine RK aS (by simp[aC,aJ,(hf 0).1];exact(hf 0).2) fun o=>?_;have xp:((v:Int)==0)=decide (v=0):=by rw[p5];simp
   have B2:((v:Int)==12)=decide (v=12):=by rw[p5];simp;omega
   simp[Pv.look,e9];rcases(by omega:v=0∨v=12∨(v≠0∧v≠12))with bB|bB|bB
   ·have ab:((v:Int)==0)=true:=by rw[xp];simp[bB]
    (with_reducible repeat' first|refine aj ?_|simp[ab]);all_goals exact dx _ _ _ x .increasing rfl rfl (by rw[bh];simp[bB]) (yX _ v)
   ·have ab:((v:Int)==0)=false:=by rw[xp];simp[bB]
    have qA:((v:Int)==12)=true:=by rw[B2];simp[bB]
    (with_reducible repeat' first|refine aj ?_|simp[ab,qA]);all_goals exact dx _ _ _ x .decreasing rfl rfl (by rw[bh];simp[bB]) (yX _ v)
   ·have ab:((v:Int)==0)=false:=by rw[xp];simp[bB.1]
    have qA:((v:Int)==12)=false:=by rw[B2];simp[bB.2]
    (with_reducible repeat' first|refine aj ?_|simp[ab,qA]);all_goals exact dx _ _ _ x .unknown rfl rfl (by rw[bh];simp[bB]) (yX _ v)
  ·have I8:(50:Int)≤(b:Int)-a:=by omega
   (with_reducible repeat' first|refine aj ?_|simp[Ey,I8,dd,hu,xo,av,lr,cH,aw,gp,kX,Pv.look,cw]);simp only[h6 H,H.slc,H.ssc,h1,f1,f2,f3];rw[if_pos (by omega),if_pos (by omega)]at bh;have aS:=I2 H ad d aQ (a+q) 0 (by omega) (by omega) (by omega);have Cb:=Cp (lt:=lt) (d:=d) (a:=a+q-1) (b:=a+q) (c:=a+q+1) (v:=0) (n:=n) (by omega) (by omega) (by omega);change (Sort.medianAdjacent lt d (a+q) 0).1<n∧(Sort.medianAdjacent lt d (a+q) 0).2≤0+3 at Cb;generalize Sort.medianAdjacent lt d (a+q) 0=m1 at aS Cb bh;obtain⟨rU,v1⟩:=m1;simp only at aS Cb bh;have bp:=I2 H ad d aQ (a+q*2) v1 (by omega) (by omega) (by omega);have Cc:=Cp (lt:=lt) (d:=d) (a:=a+q*2-1) (b:=a+q*2) (c:=a+q*2+1) (v:=v1) (n:=n) (by omega) (by omega) (by omega);change (Sort.medianAdjacent lt d (a+q*2) v1).1<n∧(Sort.medianAdjacent lt d (a+q*2) v1).2≤v1+3 at Cc;generalize Sort.medianAdjacent lt d (a+q*2) v1=m2 at bp Cc bh;obtain⟨yg,v2⟩:=m2;simp only at bp Cc bh;have bW:=I2 H ad d aQ (a+q*3) v2 (by omega) (by omega) (by omega);have Cd:=Cp (lt:=lt) (d:=d) (a:=a+q*3-1) (b:=a+q*3) (c:=a+q*3+1) (v:=v2) (n:=n) (by omega) (by omega) (by omega);change (Sort.medianAdjacent lt d (a+q*3) v2).1<n∧(Sort.medianAdjacent lt d (a+q*3) v2).2≤v2+3 at Cd;generalize Sort.medianAdjacent lt d (a+q*3) v2=m3 at bW Cd bh;obtain⟨rV,v3⟩:=m3;simp only at bW Cd bh;have dy:=I1 H ad d aQ rU yg rV v3 Cb.1 Cc.1 Cd.1 (by omega);have Tc:=Cp (lt:=lt) (d:=d) (v:=v3) Cb.1 Cc.1 Cd.1;generalize Sort.median lt d rU yg rV v3=m4 at dy Tc bh;obtain⟨x,v⟩:=m4;simp only at dy Tc bh;refine RK aS (by simp[aC,aJ,(hf 0).1];exact(hf 0).2) fun o=>?_;simp[Pv.look];simp only[h6 H,H.slc,H.ssc,h1,f1,f2,f3];refine Cz bp (np H d v1) (r3 _ _ _) (by simp[aC,aJ,(hf v1).1];exact(hf v1).2) fun o=>?_;simp[Pv.look];simp only[h6 H,H.slc,H.ssc,h1,f1,f2,f3];refine Cz bW (np H d v2) (r3 _ _ _) (by simp[aC,aJ,(hf v2).1];exact(hf v2).2) fun o=>?_;simp[Pv.look];simp only[h6 H,H.slc,H.ssc,h1,f1,f2,f3];refine Cz dy (np H d v3) (r3 _ _ _) (by simp[aC,aJ,(hf v3).1];exact(hf v3).2) fun o=>?_;have xp:((v:Int)==0)=decide (v=0):=by rw[p5];simp
   have B2:((v:Int)==12)=decide (v=12):=by rw[p5];simp;omega
   simp[Pv.look,e9];rcases(by omega:v=0∨v=12∨(v≠0∧v≠12))with bB|bB|bB
   ·have ab:((v:Int)==0)=true:=by rw[xp];simp[bB]
    (with_reducible repeat' first|refine aj ?_|simp[ab]);all_goals exact dx _ _ _ x .increasing rfl rfl (by rw[bh];simp[bB]) (yX _ v)
   ·have ab:((v:Int)==0)=false:=by rw[xp];simp[bB]
    have qA:((v:Int)==12)=true:=by rw[B2];simp[bB]
    (with_reducible repeat' first|refine aj ?_|simp[ab,qA]);all_goals exact dx _ _ _ x .decreasing rfl rfl (by rw[bh];simp[bB]) (yX _ v)
   ·have ab:((v:Int)==0)=false:=by rw[xp];simp[bB.1]
    have qA:((v:Int)==12)=false:=by rw[B2];simp[bB.2]
    (with_reducible repeat' first|refine aj ?_|simp[ab,qA]);all_goals exact dx _ _ _ x .unknown rfl rfl (by rw[bh];simp[bB]) (yX _ v)
end Go.Proofs.YtahlgcidhnjlbaaGreat
namespace Go.Proofs.YtahlgcidhnjlbaaGreat
open Go Go.Pv
variable {α:Type} [Inhabited α] {S:List α→cI} {n g b6:Nat} {lc b2:List ah} {lt:α→α→Bool}
theorem ale:∀x:Nat,x<256→((([0,1,2,2,3,3,3,3,4,4,4,4,4,4,4,4,5,5,5,5,5,5,5,5,5,5,5,5,5,5,5,5,6,6,6,6,6,6,6,6,6,6,6,6,6,6,6,6,6,6,6,6,6,6,6,6,6,6,6,6,6,6,6,6,7,7,7,7,7,7,7,7,7,7,7,7,7,7,7,7,7,7,7,7,7,7,7,7,7,7,7,7,7,7,7,7,7,7,7,7,7,7,7,7,7,7,7,7,7,7,7,7,7,7,7,7,7,7,7,7,7,7,7,7,7,7,7,7,8,8,8,8,8,8,8,8,8,8,8,8,8,8,8,8,8,8,8,8,8,8,8,8,8,8,8,8,8,8,8,8,8,8,8,8,8,8,8,8,8,8,8,8,8,8,8,8,8,8,8,8,8,8,8,8,8,8,8,8,8,8,8,8,8,8,8,8,8,8,8,8,8,8,8,8,8,8,8,8,8,8,8,8,8,8,8,8,8,8,8,8,8,8,8,8,8,8,8,8,8,8,8,8,8,8,8,8,8,8,8,8,8,8,8,8,8,8,8,8,8,8,8,8,8,8,8,8]:List dB)[x]?).getD 0).toNat=Sort.bitsLen x:=by decide+kernel
theorem Bl(x:Int):x.fdiv (2 ^ (min 32 hc.bits))=x/4294967296:=by rw[show(2:Int) ^ (min 32 hc.bits)=4294967296 from by decide,Int.fdiv_eq_ediv_of_nonneg _ (by omega)]
theorem Bk(x:Int):x.fdiv (2 ^ (min 16 hc.bits))=x/65536:=by rw[show(2:Int) ^ (min 16 hc.bits)=65536 from by decide,Int.fdiv_eq_ediv_of_nonneg _ (by omega)]
theorem Bm(x:Int):x.fdiv (2 ^ (min 8 hc.bits))=x/256:=by rw[show(2:Int) ^ (min 8 hc.bits)=256 from by decide,Int.fdiv_eq_ediv_of_nonneg _ (by omega)]
theorem Df(x:Nat)(h:x<256):IntKind.u8.wrap (x:Int)=x:=by simp[rY,nN,rX];omega
theorem HG(x k:Nat)(h:2 ^ k≤x):Sort.bitsLen x=Sort.bitsLen (x/2 ^ k)+k:=by
 have ab:x≠0:=by have:=Nat.two_pow_pos k;omega
 have bn:x/2 ^ k≠0:=by have:=Nat.div_pos h (Nat.two_pow_pos k);omega
 unfold Sort.bitsLen;rw[if_neg ab,if_neg bn];have au:=Nat.log2_lt ab (k:=Nat.log2 (x/2 ^ k)+k+1);have J:Nat.log2 (x/2 ^ k)+k≤Nat.log2 x:=by
  rw[Nat.le_log2 ab,Nat.pow_add];have:=Nat.log2_self_le bn;calc 2 ^ (x/2 ^ k).log2*2 ^ k≤(x/2 ^ k)*2 ^ k:=Nat.mul_le_mul_right _ this
   _≤x:=Nat.div_mul_le_self x _
 have U:Nat.log2 x<Nat.log2 (x/2 ^ k)+k+1:=by rw[au,show Nat.log2 (x/2 ^ k)+k+1=(Nat.log2 (x/2 ^ k)+1)+k by omega,Nat.pow_add];have:=Nat.lt_log2_self (n:=x/2 ^ k);exact(Nat.div_lt_iff_lt_mul (Nat.two_pow_pos k)).1 this
 omega
set_option maxRecDepth 20000 in
theorem alB(x:Nat)(ab:x<1099511627776):bG al 237 [.int .u64 x] (.int .i64 (Sort.bitsLen x)):=by
 refine bG.mk mixed nJ abB ah2 (by simp) (by simp[aC]) fun aP=>?_;unfold O8;have aN:=ale;generalize RC:([0,1,2,2,3,3,3,3,4,4,4,4,4,4,4,4,5,5,5,5,5,5,5,5,5,5,5,5,5,5,5,5,6,6,6,6,6,6,6,6,6,6,6,6,6,6,6,6,6,6,6,6,6,6,6,6,6,6,6,6,6,6,6,6,7,7,7,7,7,7,7,7,7,7,7,7,7,7,7,7,7,7,7,7,7,7,7,7,7,7,7,7,7,7,7,7,7,7,7,7,7,7,7,7,7,7,7,7,7,7,7,7,7,7,7,7,7,7,7,7,7,7,7,7,7,7,7,7,8,8,8,8,8,8,8,8,8,8,8,8,8,8,8,8,8,8,8,8,8,8,8,8,8,8,8,8,8,8,8,8,8,8,8,8,8,8,8,8,8,8,8,8,8,8,8,8,8,8,8,8,8,8,8,8,8,8,8,8,8,8,8,8,8,8,8,8,8,8,8,8,8,8,8,8,8,8,8,8,8,8,8,8,8,8,8,8,8,8,8,8,8,8,8,8,8,8,8,8,8,8,8,8,8,8,8,8,8,8,8,8,8,8,8,8,8,8,8,8,8,8,8,8,8,8,8,8]:List dB)=tab at aN⊢;have yW:tab.length=256:=by rw[←RC];rfl
 clear RC;simp[yW];have ae:∀y:Nat,y<256→Sort.bitsLen y≤8:=by decide+kernel
 have aeU:4294967296≤x→Sort.bitsLen x=Sort.bitsLen (x/4294967296)+32:=fun h=>HG x 32 h;have Sx:∀y,65536≤y→Sort.bitsLen y=Sort.bitsLen (y/65536)+16:=fun y h=>HG y 16 h;have SA:∀y,256≤y→Sort.bitsLen y=Sort.bitsLen (y/256)+8:=fun y h=>HG y 8 h;by_cases J:4294967296≤x
 ·have ny:(4294967296:Int)≤x:=by omega
  have g1:¬(65536:Int)≤(x:Int)/4294967296:=by omega
  have g3:¬(256:Int)≤(x:Int)/4294967296:=by omega
  (with_reducible repeat' first|refine aj ?_|simp[ny,g1,g3,Bl,Bk,Bm,yW]);have aG:x/4294967296<256:=by omega
  have ll:=ae _ aG;have eP:(x:Int)/4294967296=((x/4294967296:Nat):Int):=by omega
  rw[eP,Df _ aG,Int.toNat_natCast];refine⟨by omega,?_⟩;have e:=aN _ aG;rw[e,oO _ (by omega)];refine⟨by unfold sA;omega,?_⟩;simp[bu,Ac,aX,aY,aV];try((rw[aeU J])<;>omega)
 ·have ny:¬(4294967296:Int)≤x:=by omega
  by_cases U:65536≤x
  ·have g2:(65536:Int)≤x:=by omega
   by_cases ao:256≤x/65536
   ·have g3:(256:Int)≤(x:Int)/65536:=by omega
    (with_reducible repeat' first|refine aj ?_|simp[ny,g2,g3,Bl,Bk,Bm,yW]);have aG:x/65536/256<256:=by omega
    have ll:=ae _ aG;have eP:(x:Int)/65536/256=((x/65536/256:Nat):Int):=by omega
    rw[eP,Df _ aG,Int.toNat_natCast];refine⟨by omega,?_⟩;have e:=aN _ aG;rw[e,oO _ (by omega)];refine⟨by unfold sA;omega,?_⟩;simp[bu,Ac,aX,aY,aV];try((rw[Sx x U,SA _ ao])<;>omega)
   ·have g3:¬(256:Int)≤(x:Int)/65536:=by omega
    (with_reducible repeat' first|refine aj ?_|simp[ny,g2,g3,Bl,Bk,Bm,yW]);have aG:x/65536<256:=by omega
    have ll:=ae _ aG;have eP:(x:Int)/65536=((x/65536:Nat):Int):=by omega
    rw[eP,Df _ aG,Int.toNat_natCast];refine⟨by omega,?_⟩;have e:=aN _ aG;rw[e,oO _ (by omega)];refine⟨by unfold sA;omega,?_⟩;simp[bu,Ac,aX,aY,aV];try((rw[Sx x U])<;>omega)
  ·have g2:¬(65536:Int)≤x:=by omega
   by_cases ao:256≤x
   ·have g3:(256:Int)≤x:=by omega
    (with_reducible repeat' first|refine aj ?_|simp[ny,g2,g3,Bl,Bk,Bm,yW]);have aG:x/256<256:=by omega
    have ll:=ae _ aG;have eP:(x:Int)/256=((x/256:Nat):Int):=by omega
    rw[eP,Df _ aG,Int.toNat_natCast];refine⟨by omega,?_⟩;have e:=aN _ aG;rw[e,oO _ (by omega)];refine⟨by unfold sA;omega,?_⟩;simp[bu,Ac,aX,aY,aV];try((rw[SA x ao])<;>omega)
   ·have g3:¬(256:Int)≤x:=by omega
    (with_reducible repeat' first|refine aj ?_|simp[ny,g2,g3,Bl,Bk,Bm,yW]);have aG:x<256:=by omega
    have ll:=ae _ aG;have eP:(x:Int)=((x:Nat):Int):=by omega
    rw[eP,Df _ aG,Int.toNat_natCast];refine⟨by omega,?_⟩;have e:=aN _ aG;rw[e,oO _ (by omega)];refine⟨by unfold sA;omega,?_⟩;simp[bu,Ac,aX,aY,aV];try((rw[show Sort.bitsLen x=Sort.bitsLen x from rfl])<;>omega)
theorem alA(x:Nat)(ab:x<1099511627776):bG al 213 [.int .u64 x] (.int .i64 (Sort.bitsLen x)):=by refine bG.mk mixed nJ abA ah1 (by simp) (by simp[aC]) fun aP=>?_;unfold O7;have TF:=alB x ab;exact b0
theorem Yu(x:Nat)(ab:x<1099511627776):Sort.bitsLen x≤40:=by
 unfold Sort.bitsLen;split
 ·omega
 ·rename_i h;have:=(Nat.log2_lt h (k:=40)).2 (by omega);omega
theorem ali{x:Nat}(h:x≠0):2 ^ Sort.bitsLen x≤2*x∧x<2 ^ Sort.bitsLen x:=by unfold Sort.bitsLen;rw[if_neg h];have J:=Nat.log2_self_le h;have U:=Nat.lt_log2_self (n:=x);rw[Nat.pow_succ];rw[Nat.pow_succ]at U;omega
theorem amm(x:Nat)(ab:x<1099511627776):bG al 253 [.int .i64 x] (.int .u64 (1<<<Sort.bitsLen x:Nat)):=by
 have ae:=Yu x ab;have ak:hc.wrap ((x:Nat):Int)=x:=by simp[rY,nN,rX];omega
 have aB:hc.wrap ((Sort.bitsLen x:Nat):Int)=Sort.bitsLen x:=by simp[rY,nN,rX];omega
 refine bG.mk mixed nJ abI ah9 (by simp) (by simp[aC]) fun aP=>?_;unfold Pf;simp[ak];refine c4.val (by simp) (alA x ab) ?_;simp[ak,aB];simp[bu,Vy,aX,aY,aV];have hm:min (Sort.bitsLen x) hc.bits=Sort.bitsLen x:=by simp[nN];omega
 have bI:2 ^ Sort.bitsLen x≤2 ^ 40:=Nat.pow_le_pow_right (by omega) ae;rw[hm];have ay:((2:Int) ^ Sort.bitsLen x)=((2 ^ Sort.bitsLen x:Nat):Int):=by simp
 have yY:((1<<<Sort.bitsLen x:Nat):Int)=((2 ^ Sort.bitsLen x:Nat):Int):=by rw[Nat.one_shiftLeft]
 have w4:hc.wrap ((2:Int) ^ Sort.bitsLen x)=((1<<<Sort.bitsLen x:Nat):Int):=by rw[ay,yY];generalize 2 ^ Sort.bitsLen x=y at bI;simp[rY,nN,rX];omega
 simpa using w4
def mI(r:Nat):cI:=⟨[(.obj 902,[.int .u64 r])],[]⟩
theorem Hq(r:Nat):ea (mI r):=by unfold mI;exact(ea.of ⟨by intro m;simp[Pv.look],by intro m;simp[Pv.look]⟩ (by simp[aJ,aC,inObs,Pv.look]) (by simp[aJ,aC,inObs,Pv.look]))
theorem Np(a b:Nat):Same (mI a) (mI b):=⟨fun k=>by simp only[mI,Pv.look];split<;>rfl,fun _=>rfl⟩
theorem HI(a b:Nat)(bE:a<18446744073709551616)(ae:b<18446744073709551616):hc.wrap ((p4 hc.bits (a:Int) ^^^ p4 hc.bits (b:Int)).toNat:Int)=(a ^^^ b:Nat):=by
 have ao:a ^^^ b<18446744073709551616:=Nat.xor_lt_two_pow (n:=64) bE ae;have e:(p4 hc.bits (a:Int) ^^^ p4 hc.bits (b:Int)).toNat=a ^^^ b:=by
  rw[BitVec.toNat_xor,BitVec.toNat_ofInt,BitVec.toNat_ofInt];have ak:((a:Int)%(2 ^ hc.bits:Nat)).toNat=a:=by simp[nN];omega
  have aB:((b:Int)%(2 ^ hc.bits:Nat)).toNat=b:=by simp[nN];omega
  rw[ak,aB]
 rw[e];generalize a ^^^ b=c at ao;simp[rY,nN,rX];omega
theorem akA(r:Nat):hc.wrap ((r:Int)*2 ^ (min 13 hc.bits))=(r*8192%18446744073709551616:Nat):=by simp[rY,nN,rX]
theorem akB(r:Nat):hc.wrap ((r:Int)*2 ^ (min 17 hc.bits))=(r*131072%18446744073709551616:Nat):=by simp[rY,nN,rX]
theorem akC(r:Nat):((r:Int)).fdiv (2 ^ (min 7 hc.bits))=(r/128:Nat):=by rw[show(2:Int) ^ (min 7 hc.bits)=128 from by decide,Int.fdiv_eq_ediv_of_nonneg _ (by omega)];omega
theorem acM(r:Nat)(aL:r<18446744073709551616):bN al 254 [.ptr (.obj 902) 0] (mI r) fun eJ ai=>eJ= .int .u64 (Sort.xorNextN r)∧ai=mI (Sort.xorNextN r):=by
 have ag:=Hq r;unfold mI at ag⊢;refine bN.mk mixed nJ abU aim (by simp) ag.obj fun aP cP=>?_;unfold Ps;obtain⟨m1,Sb⟩:∃m,m=r*8192%18446744073709551616:=⟨_,rfl⟩;have s1:=akA r;rw[←Sb]at s1;have jM:m1<18446744073709551616:=by omega
 obtain⟨bD,kW⟩:∃m,m=r ^^^ m1:=⟨_,rfl⟩;have t1:=HI r m1 aL jM;rw[←kW]at t1;have TG:bD<18446744073709551616:=by rw[kW];exact Nat.xor_lt_two_pow (n:=64) aL jM
 obtain⟨m2,Sc⟩:∃m,m=bD/128:=⟨_,rfl⟩;have s2:=akC bD;rw[←Sc]at s2;have gL:m2<18446744073709551616:=by omega
 obtain⟨a2,pI⟩:∃m,m=bD ^^^ m2:=⟨_,rfl⟩;have t2:=HI bD m2 TG gL;rw[←pI]at t2;have af4:a2<18446744073709551616:=by rw[pI];exact Nat.xor_lt_two_pow (n:=64) TG gL
 obtain⟨m3,Sd⟩:∃m,m=a2*131072%18446744073709551616:=⟨_,rfl⟩;have s3:=akB a2;rw[←Sd]at s3;have af3:m3<18446744073709551616:=by omega
 obtain⟨a3,EB⟩:∃m,m=a2 ^^^ m3:=⟨_,rfl⟩;have t3:=HI a2 m3 af4 af3;rw[←EB]at t3;have bh:Sort.xorNextN r=a3:=by unfold Sort.xorNextN;simp only[←Sb,←kW,←Sc,←pI,←Sd,←EB]
 rw[bh];simp[-BitVec.toNat_xor,-BitVec.ofInt_natCast,s1,t1,s2,t2,s3,t3];have a8:=Hq a3;have bZ:=Np r a3;unfold mI at a8 bZ;refine cS.at _ (.inl rfl) a8 bZ aR aR ?_;simp[cZ,VB,aX,aY,aV]
end Go.Proofs.YtahlgcidhnjlbaaGreat
namespace Go.Proofs.YtahlgcidhnjlbaaGreat
open Go Go.Pv
variable {α:Type} [Inhabited α] {S:List α→cI} {n g b6:Nat} {lc b2:List ah} {lt:α→α→Bool}
theorem Yn(a b:Nat)(bE:a<18446744073709551616)(ae:b<18446744073709551616):hc.wrap ((p4 hc.bits (a:Int)&&& p4 hc.bits (b:Int)).toNat:Int)=(a&&& b:Nat):=by
 have ao:a&&& b<18446744073709551616:=Nat.lt_of_le_of_lt Nat.and_le_left bE;have e:(p4 hc.bits (a:Int)&&& p4 hc.bits (b:Int)).toNat=a&&& b:=by
  rw[BitVec.toNat_and,BitVec.toNat_ofInt,BitVec.toNat_ofInt];have ak:((a:Int)%(2 ^ hc.bits:Nat)).toNat=a:=by simp[nN];omega
  have aB:((b:Int)%(2 ^ hc.bits:Nat)).toNat=b:=by simp[nN];omega
  rw[ak,aB]
 rw[e];generalize a&&& b=c at ao;simp[rY,nN,rX];omega
def yu(a len M i0:Nat)(d:Array α):Nat→UInt64×Array α
 |0=>(UInt64.ofNat len,d)
 |k+1=>Sort.breakStep a len M (yu a len M i0 d k) (i0+k)
theorem Yx(d:Array α)(a b:Nat)(h:8≤b-a):Sort.breakPatterns d a b=(yu a (b-a) (1<<<Sort.bitsLen (b-a)) (a+(b-a)/4*2-1) d 3).2:=by unfold Sort.breakPatterns;simp only[if_pos h,yu];rfl
theorem Xx{ob O:List aH}{ai:cI}(gi:ea ai)(dm:∀k,inObs ai k→k∈O)(tQ:∀k∈ob,k∈O){st:bq}{dJ:List (Nat×ah)}{L:List (aH×List ah)}{n:Nat}(aN:∀x∈dJ,Pv.get x.1 st.t=x.2∧aC (l0 ai n) x.2)(jt:∀x∈L,Pv.look x.1 st.b=some x.2∧l0 ai n x.1∧aJ (l0 ai n) x.2)
  (ae:∀k cs,Pv.look k ai.b=some cs→Pv.look k st.b=some cs) (he:∀k o,Pv.look k ai.e=some o→Pv.look k st.e=some o):iA ob st ⟨dJ,L++ai.b,ai.e,n,O⟩:=by
 have lQ:∀{k},l0 ai n k→¬fresh n O k:=by
  rintro k (h|⟨m,hm,rfl⟩)
  ·exact fun aI=>aI.2 (dm k h)
  ·intro aI;have:=aI.1;simp at this;omega
 refine⟨fun x ab=>⟨(aN x ab).1,vB (fun k ad=>lQ ad) _ (aN x ab).2⟩,fun k cs ad=>?_,fun k o av=>?_,tQ⟩
 ·simp only at ad;rw[cH]at ad;cases au:Pv.look k L with
  |some x=>rw[au]at ad;simp only[dG]at ad;subst ad;obtain⟨J,U,ao⟩:=jt _ (sI au);exact⟨J,lQ U,jL (fun k ad=>lQ ad) _ ao⟩
  |none=>rw[au]at ad;exact⟨ae k cs ad,lQ (.inl (.inl (by simp[ad]))),jL (fun k ad=>lQ (.inl ad)) _ (gi.kb k cs ad)⟩
 ·exact⟨he k o av,lQ (.inl (.inr (by simp at av;simp[av]))),fun xs ab=>jL (fun k ad=>lQ (.inl ad)) _ (gi.ke k o av xs ab)⟩
theorem M0{amW β:Type}(s:List (aH×β)):∀(l:List (aH×amW)),(∀k x,(k,x)∈l→Pv.look k s=none)→cv s l=l
 |[],_=>rfl
 |(k,x)::r,h=>by have J:=h k x (by simp);simp only[cv,J];rw[M0 s r fun k x ab=>h k x (by simp[ab])]
def je(S:List α→cI)(d:Array α)(r:Nat):cI:=⟨(.obj 902,[.int .u64 r])::(S d.toList).b,(S d.toList).e⟩
theorem DC(H:e1 S n g b6 lc b2 lt)(d:Array α)(v:Nat):ea (je S d v):=by
 have h:=H.ok d.toList;have jg:∀k,inObs (S d.toList) k→inObs (je S d v) k:=fun k ad=>by
  rcases ad with ad|ad
  ·refine .inl ?_;simp only[je,Pv.look];split
   ·rfl
   ·exact ad
  ·exact .inr ad
 refine⟨⟨fun m=>?_,h.obj.2⟩,fun k cs ad=>?_,fun k o av xs ab=>jL jg _ (h.ke k o av xs ab)⟩
 ·simp[je,Pv.look,h.obj.1 m]
 ·simp only[je,Pv.look]at ad;split at ad
  ·cases ad;simp[aJ,aC]
  ·exact jL jg _ (h.kb k cs ad)
theorem Xw{ob O:List aH}{d2:Array α}{y:Nat}{D:List ah}(gi:ea (je S d2 y))(dm:∀k,inObs (je S d2 y) k→k∈O)(tQ:∀k∈ob,k∈O){st:bq}{dJ:List (Nat×ah)}(aN:∀x∈dJ,Pv.get x.1 st.t=x.2∧aC (l0 (je S d2 y) 1) x.2)(bB:Pv.look (.loc 0) st.b=some D)(tF:aJ (l0 (je S d2 y) 1) D)
  (ae:∀k cs,Pv.look k (je S d2 y).b=some cs→Pv.look k st.b=some cs) (he:∀k o,Pv.look k (je S d2 y).e=some o→Pv.look k st.e=some o):iA ob st ⟨dJ,(.loc 0,D)::(.obj 902,[.int .u64 y])::(S d2.toList).b,(S d2.toList).e,1,O⟩:=
 Xx (L:=[(.loc 0,D)]) gi dm tQ aN (fun x ab=>by simp only[List.mem_singleton]at ab;subst ab;exact⟨bB,Un _ _ _ (by omega),tF⟩) ae he
theorem acR(H:e1 S n g b6 lc b2 lt)(ad:rE S 902)(d:Array α)(aQ:d.size=n)(a b:Nat)(mQ:a≤b)(ae:b≤n)(nz:8≤b-a):
  bN al 239 [eV g b6 lc b2,.int .i64 a,.int .i64 b] (S d.toList) fun r ai=>r= .tuple []∧∃b8,ai=S b8.toList∧b8=Sort.breakPatterns d a b∧b8.size=n:=by
 have ag:=H.ok d.toList;have au:d.toList.length=n:=by simpa using aQ
 have aw:∀l m,Pv.look (.loc m) (S l).b=none:=fun l=>(H.ok l).obj.1;have hu:∀l m cs,cw (.loc m) cs (S l).b=(S l).b++[(.loc m,cs)]:=fun l m cs=>jT (aw l m);have av:∀m,aH.loc m∉cQ (S d.toList):=jO ag.obj;have gp:∀l,Pv.look (.obj 902) (S l).b=none:=fun l=>(ad l).1;have kX:∀l,Pv.look (.obj 902) (S l).e=none:=fun l=>(ad l).2;have hle:=H.le;have lr:=Up ad d.toList;rw[Yx d a b nz];obtain⟨len,hlen⟩:∃len,len=b-a:=⟨_,rfl⟩;rw[←hlen];obtain⟨M,dS⟩:∃M,M=1<<<Sort.bitsLen len:=⟨_,rfl⟩;rw[←dS];have aoo:len<M∧M≤2*len:=by have:=ali (x:=len) (by omega);rw[dS,Nat.one_shiftLeft];omega
 obtain⟨q,bn⟩:∃q,q=len/4:=⟨_,rfl⟩;rw[←bn];have xo:∀l D cs,cw (.obj 902) cs ((S l).b++[(.loc 0,D)])=(S l).b++[(.loc 0,D),(.obj 902,cs)]:=fun l D cs=>by rw[AE (gp l)];rfl
 have SG:∀l D x y,cw (.obj 902) y ((S l).b++[(.loc 0,D),(.obj 902,x)])=(S l).b++[(.loc 0,D),(.obj 902,y)]:=fun l D x y=>by rw[AE (gp l)];simp[cw]
 have el:((b:Int)-a)=(len:Nat):=by omega
 have dd:IntKind.i64.wrap ((len:Int).tdiv 4)=(q:Nat):=by rw[Int.tdiv_eq_ediv_of_nonneg (by omega),oO _ (by omega)];omega
 have ew:hc.wrap (len:Int)=len:=by simp[rY,nN,rX];omega
 refine bN.mk mixed nJ abD ah4 (by simp) ag.obj fun aP cP=>?_;unfold Pa;have n5:=amm len (by omega);rw[←dS]at n5;simp[eV,hu,xo,SG,av,lr,cH,aw,gp,kX,Pv.look,cw,el,ew];have gS:IntKind.i64.wrap ((len:Int)/4)=(q:Nat):=by rw[oO _ (by omega)];omega
 ((with_reducible repeat' first|refine aj ?_|refine aD n5 ?_|refine aE n5 ?_|simp[el,ew,dd,gS,hu,xo,SG,av,lr,cH,aw,gp,kX,Pv.look,cw]|((first|apply bM|apply bR|apply bQ)<;>intro h<;>try simp at h))<;>(try exact ch));obtain⟨i0,BJ⟩:∃i0,i0=a+q*2-1:=⟨_,rfl⟩;rw[←BJ];have Zw:((a:Int)+q*2-1)=(i0:Nat):=by omega
 rw[Zw];have dm:∀(ck:Array α) r k,inObs (je S ck r) k→ck.size=n→k∈aH.obj 902::cQ (S d.toList):=fun ck r k h eX=>by
  have e4:=H.same d.toList ck.toList au (by simpa using eX);rcases h with h|h
  ·simp only[je,Pv.look]at h;split at h
   ·rename_i e;subst e;simp
   ·exact ps _ (sN (.inl (by rw[e4.b];exact h)))
  ·exact ps _ (sN (.inr (by rw[e4.e];exact h)))
 have xd:∀(ck:Array α) r,ck.size=n→aJ (l0 (je S ck r) 1) [.func g lc,.func b6 b2]:=fun ck r eX=>by
  have J:=H.kdata (lk:=ck.toList) (by simpa using eX);have U:aJ (inObs (S ck.toList)) [.func g lc,.func b6 b2]:=by simpa[eV,aC,aJ]using J
  refine jL (fun k ad=>.inl ?_) _ U;rcases ad with ad|ad
  ·refine .inl ?_;simp only[je,Pv.look];split
   ·rfl
   ·exact ad
  ·exact .inr ad
 have aoB:∀(ck:Array α) r D k cs,Pv.look k (je S ck r).b=some cs→Pv.look k ((.loc 0,D)::(je S ck r).b)=some cs:=fun ck r D k cs h=>by
  cases k with
  |loc m=>rw[(DC H ck r).obj.1 m]at h;cases h
  |obj m=>simpa[Pv.look]using h
 refine n2 (fun(x:Nat×UInt64×Array α)=>⟨[(1,.int .i64 a),(3,.ptr (.loc 0) 0),(6,.int .i64 len),(7,.ptr (.obj 902) 0),(8,.int .u64 M),(9,.int .i64 ((i0+x.1:Nat):Int))],[(.loc 0,[.func g lc,.func b6 b2])]++(je S x.2.2 x.2.1.toNat).b,(je S x.2.2 x.2.1.toNat).e,1,aH.obj 902::cQ (S d.toList)⟩) (fun x=>3-x.1)
  (fun x=>x.1≤3∧x.2.2.size=n∧yu a len M i0 d x.1=x.2) (0,UInt64.ofNat len,d) ?_ ⟨by simp,aQ,rfl⟩ ?_
 ·refine Xx (DC H d _) (fun k h=>dm d _ k h aQ) (fun k h=>ps _ h) (by simp[aC,inObs,je,Pv.look,l0]) ?_ ?_ aR
  ·intro x ab;simp only[List.mem_singleton]at ab;subst ab;exact⟨by simp[cH,aw,Pv.look],Un _ _ _ (by omega),xd d _ aQ⟩
  ·intro k cs h;simp only[je,Pv.look]at h;rw[cH];split at h
   ·rename_i e;subst e;rw[gp];have:(UInt64.ofNat len).toNat=len:=by simp;omega
    rw[this]at h;simpa[Pv.look]using h
   ·rw[h]
 rintro⟨k,r,ck⟩ ⟨aS,bp,bW⟩ _;simp only at aS bp bW;have aL:=r.toNat_lt;obtain⟨x,ab⟩:∃x,x=r.toNat:=⟨_,rfl⟩;rw[←ab]at aL⊢;have ze:Sort.xorNextN x<18446744073709551616:=Sort.xorNextN_lt x (by omega);have JD:(Sort.xorNext r).toNat=Sort.xorNextN x:=by rw[Sort.xorNext_toNat,←ab]
 obtain⟨y,aG⟩:∃y,y=Sort.xorNextN x:=⟨_,rfl⟩;have Zr:hc.wrap ((M:Int)-1)=(M-1:Nat):=by simp[rY,nN,rX];omega
 have w1:=Yn y (M-1) (by omega) (by omega);obtain⟨z,br⟩:∃z,z=y&&& (M-1):=⟨_,rfl⟩;rw[←br]at w1;have aoJ:z≤M-1:=by rw[br];exact Nat.and_le_right
 have nx:IntKind.i64.wrap (z:Int)=z:=by rw[oO _ (by omega)]
 by_cases aeh:k=3
 ·subst aeh;simp[je,Pv.look,gS];((with_reducible repeat' first|refine aj ?_|simp[gS]|((first|apply bM|apply bR|apply bQ)<;>intro h<;>try simp at h))<;>(try exact ch));refine cS.at (S ck.toList) (.inr rfl) (H.ok _) (H.same _ _ au (by simpa using bp)) (fun k cs h=>?_) (fun _ _ h=>h) ?_
  ·simp only[Pv.look];split
   ·rename_i e;subst e;rw[aw]at h;cases h
   ·split
    ·rename_i e;subst e;rw[gp]at h;cases h
    ·exact h
  ·simp[cZ,Vv,aX,aY,aV];exact⟨ck,rfl,by rw[bW],bp⟩
 ·have EO:((i0+k:Nat):Int)≤(a:Int)+q*2+1:=by omega
  have R6:((i0:Int)+k)≤(a:Int)+q*2+1:=by omega
  simp[je,Pv.look,gS,R6,EO];(with_reducible repeat' first|refine aj ?_|simp[gS,R6,EO,Pv.look]);have aoF:=H.same d.toList ck.toList au (by simpa using bp);have afa:∀(fK:Array α) (v:List ah),cv [(aH.obj 902,v)] (S fK.toList).b=(S fK.toList).b:=fun fK v=>M0 _ _ fun k x hm=>by
   have:=ud hm;simp only[Pv.look];split
   ·rename_i e;subst e;rw[gp]at this;cases this
   ·rfl
  refine c4.ob (acM x (by omega)) (Hq x) (fun k cs h=>?_) (fun k o h=>by simp[mI,Pv.look]at h) (by simp[aC,aJ,inObs,mI,Pv.look]) ?_
  ·simp only[mI,Pv.look]at h⊢;split at h
   ·rename_i e;subst e;simpa using h
   ·cases h
  rintro eJ ai ⟨rfl,rfl⟩;refine⟨Np _ _,?_⟩;rw[←aG];have aar:cv (mI x).b ((aH.loc 0,[ah.func g lc,ah.func b6 b2])::(aH.obj 902,[ah.int .u64 x])::(S ck.toList).b)=(aH.loc 0,[ah.func g lc,ah.func b6 b2])::(S ck.toList).b:=by simp[mI,cv,Pv.look,afa]
  have aas:cv (mI x).e (S ck.toList).e=(S ck.toList).e:=M0 _ _ fun _ _ _=>rfl;rw[aar,aas,show(mI y).b=[(aH.obj 902,[ah.int .u64 y])]from rfl,show(mI y).e=[]from rfl,List.append_nil];have aom:∀(v:List ah),Pv.look (.obj 902) ((aH.loc 0,[ah.func g lc,ah.func b6 b2])::((S ck.toList).b++[(aH.obj 902,v)]))=some v:=fun v=>by simp[Pv.look,cH,gp]
  have NR:∀o',o'<len→o'=(if z≥len then z-len else z)→Sort.breakStep a len M (r,ck) (i0+k)=(Sort.xorNext r,Sort.swp ck (i0+k) (a+o')):=fun o' J U=>by unfold Sort.breakStep;simp only[JD,←aG,←br,←U]
  have Qq:((i0:Int)+k)=((i0+k:Nat):Int):=by omega
  simp only[eQ,aH.obj.injEq];simp[-BitVec.toNat_and,-BitVec.ofInt_natCast,Zr,w1,nx,Pv.look,H.ssc];by_cases aoK:len≤z
  ·have J2:(len:Int)≤z:=by omega
   have Ir:((a:Int)+(z-len))=((a+(z-len):Nat):Int):=by omega
   ((with_reducible repeat' first|refine aj ?_|simp[J2,Pv.look,H.ssc]|((first|apply bM|apply bR|apply bQ)<;>intro h<;>try simp at h))<;>(try exact ch));rw[Ir,Qq];refine c4.ob (H.swap ck.toList (by simpa using bp) (by omega) (i0+k) (a+(z-len)) (by omega) (by omega)) (H.ok _) (fun bL cs h=>?_) (fun _ _ h=>h) (by simp[aC,aJ,H.ksc ck.toList (by simpa using bp)]) ?_
   ·simp only[Pv.look];split
    ·rename_i e;subst e;rw[aw]at h;cases h
    ·rw[cH,h]
   rintro eJ ai ⟨rfl,rfl⟩;refine⟨H.same _ _ (by simpa using bp) (by simpa using bp),?_⟩;rw[FE ck (by omega) (by omega)];obtain⟨d2,eN⟩:∃d2,d2=Sort.swp ck (i0+k) (a+(z-len)):=⟨_,rfl⟩;have s2:d2.size=n:=by rw[eN,gD,bp]
   rw[←eN];have Iv:∀v:List ah,cv (S ck.toList).b ((aH.loc 0,[ah.func g lc,ah.func b6 b2])::((S ck.toList).b++[(aH.obj 902,v)]))=[(aH.loc 0,[ah.func g lc,ah.func b6 b2]),(aH.obj 902,v)]:=fun v=>by simp only[cv,aw];rw[ir,gO];simp[cv,gp]
   dsimp only;rw[Iv,gO];simp;(with_reducible repeat' first|refine aj ?_|simp);have Im:((i0:Int)+k+1)=((i0+(k+1):Nat):Int):=by omega
   rw[Im];refine bP.whl (k+1,Sort.xorNext r,d2) (by simp;omega) ⟨by simp;omega,s2,by simp only[yu,bW];rw[NR (z-len) (by omega) (by rw[if_pos (by omega)]),eN]⟩ ?_;rw[JD,←aG];refine Xw (DC H d2 y) (fun k h=>dm d2 _ k h s2) (fun k h=>ps _ h) (by simp[aC,inObs,je,Pv.look,l0]) (by simp[Pv.look]) (xd d2 _ s2) ?_ (fun _ _ h=>h);intro k cs h;simp only[je,Pv.look]at h⊢;split at h
   ·rename_i e;subst e;simpa using h
   ·rename_i e;split
    ·rename_i aB;subst aB;rw[aw]at h;cases h
    ·exact h
  ·have J2:¬(len:Int)≤z:=by omega
   have Ir:((a:Int)+z)=((a+z:Nat):Int):=by omega
   ((with_reducible repeat' first|refine aj ?_|simp[J2,Pv.look,H.ssc]|((first|apply bM|apply bR|apply bQ)<;>intro h<;>try simp at h))<;>(try exact ch));rw[Ir,Qq];refine c4.ob (H.swap ck.toList (by simpa using bp) (by omega) (i0+k) (a+z) (by omega) (by omega)) (H.ok _) (fun bL cs h=>?_) (fun _ _ h=>h) (by simp[aC,aJ,H.ksc ck.toList (by simpa using bp)]) ?_
   ·simp only[Pv.look];split
    ·rename_i e;subst e;rw[aw]at h;cases h
    ·rw[cH,h]
   rintro eJ ai ⟨rfl,rfl⟩;refine⟨H.same _ _ (by simpa using bp) (by simpa using bp),?_⟩;rw[FE ck (by omega) (by omega)];obtain⟨d2,eN⟩:∃d2,d2=Sort.swp ck (i0+k) (a+z):=⟨_,rfl⟩;have s2:d2.size=n:=by rw[eN,gD,bp]
   rw[←eN];have Iv:∀v:List ah,cv (S ck.toList).b ((aH.loc 0,[ah.func g lc,ah.func b6 b2])::((S ck.toList).b++[(aH.obj 902,v)]))=[(aH.loc 0,[ah.func g lc,ah.func b6 b2]),(aH.obj 902,v)]:=fun v=>by simp only[cv,aw];rw[ir,gO];simp[cv,gp]
   dsimp only;rw[Iv,gO];simp;(with_reducible repeat' first|refine aj ?_|simp);have Im:((i0:Int)+k+1)=((i0+(k+1):Nat):Int):=by omega
   rw[Im];refine bP.whl (k+1,Sort.xorNext r,d2) (by simp;omega) ⟨by simp;omega,s2,by simp only[yu,bW];rw[NR z (by omega) (by rw[if_neg (by omega)]),eN]⟩ ?_;rw[JD,←aG];refine Xw (DC H d2 y) (fun k h=>dm d2 _ k h s2) (fun k h=>ps _ h) (by simp[aC,inObs,je,Pv.look,l0]) (by simp[Pv.look]) (xd d2 _ s2) ?_ (fun _ _ h=>h);intro k cs h;simp only[je,Pv.look]at h⊢;split at h
   ·rename_i e;subst e;simpa using h
   ·rename_i e;split
    ·rename_i aB;subst aB;rw[aw]at h;cases h
    ·exact h
end Go.Proofs.YtahlgcidhnjlbaaGreat
namespace Go.Proofs.YtahlgcidhnjlbaaGreat
open Go Go.Pv
variable {α:Type} [Inhabited α] {S:List α→cI} {n g b6:Nat} {lc b2:List ah} {lt:α→α→Bool}
theorem e1.fnD{d d2:Array α}(H:e1 S n g b6 lc b2 lt)(J:d.size=n){f:Nat}{args:List ah}{r:ah}(aI:bN al f args (S d.toList) fun eJ ai=>eJ=r∧∃b8,ai=S b8.toList∧b8=d2∧b8.size=n)(ad:aJ (inObs (S d.toList)) args){t:List (Nat×ah)}{D:List ah}{o:List aH}{b8:Option Nat}{K:bq→Prop}
  (h:d2.size=n→∀o,K ⟨eQ b8 r t,(.loc 0,D)::(S d2.toList).b,(S d2.toList).e,1,o⟩):c4 al f args ⟨t,(.loc 0,D)::(S d.toList).b,(S d.toList).e,1,o⟩ b8 K:=
 H.call (by simpa using J) (R:=fun eJ aZ=>eJ=r∧aZ=d2.toList∧d2.size=n) (aI.mono fun r ai ⟨ak,b8,aB,bf,dd⟩=>⟨b8.toList,aB,ak,by rw[bf],by rw[←bf];exact dd⟩) (fun r aZ ⟨_,e,h⟩=>by rw[e];simpa using h) ad (by rintro eJ aZ ⟨rfl,rfl,U⟩;exact h U _)
attribute [local simp] o5
def AO(S:List α→cI)(n g b6:Nat)(lc b2:List ah)(lt:α→α→Bool)(m:Nat):Prop:=
 ∀k,k<m→∀(d:Array α),d.size=n→∀a b vF:Nat,b-a≤k→a≤b→b≤n→vF≤1000→Sort.Below lt a b d→
  bN al 214 [eV g b6 lc b2,.int .i64 a,.int .i64 b,.int .i64 vF] (S d.toList) fun r ai=>r= .tuple []∧∃b8,ai=S b8.toList∧Sort.PermIn a b d b8∧Sort.SortedIn lt a b b8
structure wy (S:List α→cI) (n g b6:Nat) (lc b2:List ah) (lt:α→α→Bool) (bm bO lim:Nat) (d:Array α) (Q:Exit→bq→Prop):Prop where
 k:∀e,e= .normal∨e= .exit 1→∀(a2 b4:Nat) (w v:Bool) (L:Array α) (t:List (Nat×ah)) (o:List aH),L.size=n→a2≤b4→b4≤n→b4-a2<bO-bm→Sort.Below lt a2 b4 L→(∀R,Sort.PermIn a2 b4 L R→Sort.SortedIn lt a2 b4 R→Sort.PermIn bm bO d R∧Sort.SortedIn lt bm bO R)→
  Pv.get 1 t= .int .i64 a2→Pv.get 2 t= .int .i64 b4→Pv.get 3 t= .int .i64 lim→Pv.get 4 t= .ptr (.loc 0) 0→Pv.get 8 t= .bool w→Pv.get 9 t= .bool v→Q e ⟨t,(.loc 0,[.func g lc,.func b6 b2])::(S L.toList).b,(S L.toList).e,1,o⟩
 r:∀(R:Array α) t o,Sort.PermIn bm bO d R→Sort.SortedIn lt bm bO R→Q .ret ⟨t,(.loc 0,[.func g lc,.func b6 b2])::(S R.toList).b,(S R.toList).e,1,o⟩
theorem wy.mono{bm bO lim:Nat}{d b8:Array α}{Q:Exit→bq→Prop}(h:wy S n g b6 lc b2 lt bm bO lim d Q)(p:Sort.PermIn bm bO d b8):wy S n g b6 lc b2 lt bm bO lim b8 Q:=⟨fun e he a2 b4 w v L t o ak aB bf dd gS hG=>h.k e he a2 b4 w v L t o ak aB bf dd gS fun R dI eZ=>⟨Sort.permIn_trans _ _ _ bm bO p (hG R dI eZ).1,(hG R dI eZ).2⟩,fun R t o dI eZ=>h.r R t o (Sort.permIn_trans _ _ _ bm bO p dI) eZ⟩
structure yo (t:List (Nat×ah)) (bm bO lim:Nat):Prop where
 t1:Pv.get 1 t= .int .i64 bm
 t2:Pv.get 2 t= .int .i64 bO
 t3:Pv.get 3 t= .int .i64 lim
 t4:Pv.get 4 t= .ptr (.loc 0) 0
 t10:Pv.get 10 t= .int .i64 ((bO:Int)-bm)
section
variable {bm bO lim:Nat} {cG:Array α} {t:List (Nat×ah)} {o:List aH} {ob:List aH} {Q:Exit→bq→Prop}
theorem UT(H:e1 S n g b6 lc b2 lt)(bC:Sort.SWO lt)(bS:AO S n g b6 lc b2 lt (bO-bm)){pv:Nat}(T:yo t bm bO lim)(t11:Pv.get 11 t= .int .i64 pv)(rh:lim≤1000)(oB:cG.size=n)(pK:bm≤pv∧pv<bO)(bW:bO≤n)(sf:12<bO-bm)(tc:Sort.Below lt bm bO cG)(hU:wy S n g b6 lc b2 lt bm bO lim cG Q):
  cU al ob HZ Q ⟨t,(.loc 0,[.func g lc,.func b6 b2])::(S cG.toList).b,(S cG.toList).e,1,o⟩:=by
 obtain⟨t1,t2,t3,t4,t10⟩:=T;have sr:∀fK:Array α,fK.size=n→aC (inObs (S fK.toList)) (eV g b6 lc b2):=fun fK h=>H.kdata (lk:=fK.toList) (by simpa using h);have hle:=H.le;unfold HZ;simp[t1,t2,t4,t11,Pv.look,H.slc,H.ssc];simp only[h6 H,H.slc,H.ssc,h1];have qC:=ac2 H cG oB bm bO pv pK.1 pK.2 (by omega) bW;have bn:Sort.partition lt cG bm bO pv=((Sort.partition lt cG bm bO pv).1,(Sort.partition lt cG bm bO pv).2.1,(Sort.partition lt cG bm bO pv).2.2):=rfl;generalize (Sort.partition lt cG bm bO pv).1=mid at qC bn;generalize (Sort.partition lt cG bm bO pv).2.1=ap at qC bn;generalize (Sort.partition lt cG bm bO pv).2.2=d4 at qC bn;obtain⟨g1,g2,g3,g4,g5,g6,g7⟩:=Sort.round_part bC (Sort.partition_holds lt) pK.1 pK.2 (by omega) tc bn;refine H.fnD oB qC (by simp[aC,aJ,sr cG oB]) fun s4 o=>?_;have em:((mid:Int)+1)=(mid+1:Nat):=by omega
 simp[t1,t2,t3,t4,t10];by_cases aoC:mid-bm<bO-mid
 ·have Jw:(mid:Int)-bm<bO-mid:=by omega
  (with_reducible repeat' first|refine aj ?_|simp[Jw,Pv.look,t1,t2,t3,t4,t10]);simp only[h6 H,H.slc,H.ssc,h1];refine H.doFn (lk:=d4.toList) (by simpa using s4) (R:=fun aZ=> ∃L:Array α,aZ=L.toList∧Sort.PermIn bm mid d4 L∧Sort.SortedIn lt bm mid L) ((bS (mid-bm) (by omega) d4 s4 bm mid lim (eR _) g1 (by omega) rh g4).mono fun r ai ⟨a6,b8,bz,bU,cT⟩=>⟨a6,b8.toList,bz,b8,rfl,bU,cT⟩) (by rintro aZ ⟨L,rfl,q,_⟩;simpa using q.1.trans s4) (by simp[aJ,aC,sr d4 s4]) ?_;rintro aZ ⟨L,rfl,cN,dq⟩;obtain⟨ky,oN⟩:=g6 L cN dq;simp;(with_reducible repeat' first|refine aj ?_|simp[t1,t2,t3,t4]);rw[em];exact hU.k _ (.inl rfl) (mid+1) bO _ ap L _ _ (cN.1.trans s4) (by omega) bW (by omega) ky oN (by simp) (by simp[t2]) (by simp[t3]) (by simp[t4]) (by simp;rfl) (by simp)
 ·have Jw:¬(mid:Int)-bm<bO-mid:=by omega
  (with_reducible repeat' first|refine aj ?_|simp[Jw,Pv.look,t1,t2,t3,t4,t10]);simp only[h6 H,H.slc,H.ssc,h1];rw[em];refine H.doFn (lk:=d4.toList) (by simpa using s4) (R:=fun aZ=> ∃L:Array α,aZ=L.toList∧Sort.PermIn (mid+1) bO d4 L∧Sort.SortedIn lt (mid+1) bO L) ((bS (bO-(mid+1)) (by omega) d4 s4 (mid+1) bO lim (eR _) (by omega) bW rh g5).mono fun r ai ⟨a6,b8,bz,bU,cT⟩=>⟨a6,b8.toList,bz,b8,rfl,bU,cT⟩) (by rintro aZ ⟨L,rfl,q,_⟩;simpa using q.1.trans s4) (by simp[aJ,aC,sr d4 s4]) ?_;rintro aZ ⟨L,rfl,cN,dq⟩;obtain⟨ky,oN⟩:=g7 L cN dq;simp;(with_reducible repeat' first|refine aj ?_|simp[t1,t2,t3,t4]);exact hU.k _ (.inl rfl) bm mid _ ap L _ _ (cN.1.trans s4) g1 (by omega) (by omega) ky oN (by simp[t1]) (by simp) (by simp[t3]) (by simp[t4]) (by simp;rfl) (by simp)
theorem aiY(H:e1 S n g b6 lc b2 lt)(bC:Sort.SWO lt)(bS:AO S n g b6 lc b2 lt (bO-bm)){pv:Nat}(T:yo t bm bO lim)(t11:Pv.get 11 t= .int .i64 pv){w v:Bool}(t8:Pv.get 8 t= .bool w)(t9:Pv.get 9 t= .bool v)(rh:lim≤1000)(oB:cG.size=n)(pK:bm≤pv∧pv<bO)(bW:bO≤n)(sf:12<bO-bm)(tc:Sort.Below lt bm bO cG)(hU:wy S n g b6 lc b2 lt bm bO lim cG Q):
  cU al ob A3 Q ⟨t,(.loc 0,[.func g lc,.func b6 b2])::(S cG.toList).b,(S cG.toList).e,1,o⟩:=by
 obtain⟨t1,t2,t3,t4,t10⟩:=id T;have hle:=H.le;unfold A3;by_cases sj:0<bm
 ·have Je:(0:Int)<bm:=by omega
  simp[t1,t2,t4,t11,sj,Je,Pv.look,H.slc,H.ssc];(with_reducible repeat' first|refine aj ?_|simp[t1,t2,t4,t11,sj,Je,Pv.look,H.slc,H.ssc]);rw[show((bm:Int)-1)=((bm-1:Nat):Int) by omega];refine H.lessA oB (bm-1) pv (by omega) (by omega) fun o=>?_;cases jw:lt cG[bm-1]! cG[pv]!
  ·simp;(with_reducible repeat' first|refine aj ?_|simp[Pv.look,H.slc,H.ssc,t1,t2,t4,t11]);simp only[h6 H,H.slc,H.ssc,h1];have qC:=ac3 H cG oB bm bO pv pK.1 pK.2 (by omega) bW;have bn:Sort.partitionEqual lt cG bm bO pv=((Sort.partitionEqual lt cG bm bO pv).1,(Sort.partitionEqual lt cG bm bO pv).2):=rfl;generalize (Sort.partitionEqual lt cG bm bO pv).1=mid at qC bn;generalize (Sort.partitionEqual lt cG bm bO pv).2=d4 at qC bn;obtain⟨g1,g2,g3,g4,g5⟩:=Sort.round_eq bC (Sort.partitionEqual_holds lt) sj pK.1 pK.2 (by omega) tc jw bn;refine H.fnD oB qC (by simp[aC,aJ,H.kdata (lk:=cG.toList) (by simpa using oB)]) fun s4 o=>?_;simp[t1,t2,t3,t4];exact hU.k _ (.inr rfl) mid bO w v d4 _ _ s4 g2 bW (by omega) g4 g5 (by simp) (by simp[t2]) (by simp[t3]) (by simp[t4]) (by simp[t8]) (by simp[t9])
  ·simp;exact UT H bC bS ⟨by simp[t1],by simp[t2],by simp[t3],by simp[t4],by simp[t10]⟩ (by simp[t11]) rh oB pK bW sf tc hU
 ·have Je:¬(0:Int)<bm:=by omega
  simp[t1,sj];exact UT H bC bS ⟨by simp[t1],by simp[t2],by simp[t3],by simp[t4],by simp[t10]⟩ (by simp[t11]) rh oB pK bW sf tc hU
theorem Li(H:e1 S n g b6 lc b2 lt)(bC:Sort.SWO lt)(bS:AO S n g b6 lc b2 lt (bO-bm)){pv:Nat}(T:yo t bm bO lim)(t11:Pv.get 11 t= .int .i64 pv){h:Nat}(t12:Pv.get 12 t= .int .i64 h){w v:Bool}(t8:Pv.get 8 t= .bool w)(t9:Pv.get 9 t= .bool v)(rh:lim≤1000)(oB:cG.size=n)(pK:bm≤pv∧pv<bO)(bW:bO≤n)(sf:12<bO-bm)(tc:Sort.Below lt bm bO cG)(hU:wy S n g b6 lc b2 lt bm bO lim cG Q):
  cU al ob H0 Q ⟨t,(.loc 0,[.func g lc,.func b6 b2])::(S cG.toList).b,(S cG.toList).e,1,o⟩:=by
 obtain⟨t1,t2,t3,t4,t10⟩:=id T;have hle:=H.le;unfold H0;have next:∀{d5:Array α} {t o},yo t bm bO lim→Pv.get 11 t= .int .i64 pv→Pv.get 8 t= .bool w→Pv.get 9 t= .bool v→d5.size=n→Sort.Below lt bm bO d5→Sort.PermIn bm bO cG d5→cU al ob A3 Q ⟨t,(.loc 0,[.func g lc,.func b6 b2])::(S d5.toList).b,(S d5.toList).e,1,o⟩:=fun ak aB bf dd gS hG qT=>aiY H bC bS ak aB bf dd rh gS pK bW sf hG (hU.mono qT)
 have skip:∀{t o},yo t bm bO lim→Pv.get 11 t= .int .i64 pv→Pv.get 8 t= .bool w→Pv.get 9 t= .bool v→cU al ob A3 Q ⟨t,(.loc 0,[.func g lc,.func b6 b2])::(S cG.toList).b,(S cG.toList).e,1,o⟩:=fun ak aB bf dd=>next ak aB bf dd oB tc (Sort.permIn_refl _ _ _)
 by_cases ay:(w=true∧v=true)∧h=1
 ·obtain⟨⟨rfl,rfl⟩,rfl⟩:=ay;simp[t1,t2,t4,t8,t9,t12,Pv.look,H.slc,H.ssc];simp only[h6 H,H.slc,H.ssc,h1];have qC:=ac1 H cG oB bm bO (by omega) bW (by omega);have bn:=Sort.partialInsertionSort_holds bC cG bm bO (by omega) (by omega) tc;generalize (Sort.partialInsertionSort lt cG bm bO).1=d5 at qC bn;generalize (Sort.partialInsertionSort lt cG bm bO).2=ok at qC bn;refine H.fnD oB qC (by simp[aC,aJ,H.kdata (lk:=cG.toList) (by simpa using oB)]) fun akr o=>?_;cases ok
  ·simp;exact next ⟨by simp[t1],by simp[t2],by simp[t3],by simp[t4],by simp[t10]⟩ (by simp[t11]) (by simp[t8]) (by simp[t9]) akr (tc.perm (by omega) bn.1) bn.1
  ·simp;exact hU.r _ _ _ bn.1 (bn.2 rfl)
 ·cases w
  ·simp[t8,t9,t12];exact skip ⟨by simp[t1],by simp[t2],by simp[t3],by simp[t4],by simp[t10]⟩ (by simp[t11]) (by simp[t8]) (by simp[t9])
  ·cases v
   ·simp[t8,t9,t12];exact skip ⟨by simp[t1],by simp[t2],by simp[t3],by simp[t4],by simp[t10]⟩ (by simp[t11]) (by simp[t8]) (by simp[t9])
   ·have J:((h:Int)==1)=false:=by simp at ay⊢;omega
    simp[t8,t9,t12,J];exact skip ⟨by simp[t1],by simp[t2],by simp[t3],by simp[t4],by simp[t10]⟩ (by simp[t11]) (by simp[t8]) (by simp[t9])
theorem UU(H:e1 S n g b6 lc b2 lt)(gp:rE S 901)(bC:Sort.SWO lt)(bS:AO S n g b6 lc b2 lt (bO-bm))(T:yo t bm bO lim){w v:Bool}(t8:Pv.get 8 t= .bool w)(t9:Pv.get 9 t= .bool v)(rh:lim≤1000)(s1:cG.size=n)(bW:bO≤n)(sf:12<bO-bm)(Hh:Sort.Below lt bm bO cG)(hU:wy S n g b6 lc b2 lt bm bO lim cG Q):
  cU al ob H2 Q ⟨t,(.loc 0,[.func g lc,.func b6 b2])::(S cG.toList).b,(S cG.toList).e,1,o⟩:=by
 obtain⟨t1,t2,t3,t4,t10⟩:=id T;have hle:=H.le;have sr:∀fK:Array α,fK.size=n→aC (inObs (S fK.toList)) (eV g b6 lc b2):=fun fK h=>H.kdata (lk:=fK.toList) (by simpa using h);unfold H2;simp[t1,t2,t4,Pv.look,H.slc,H.ssc];simp only[h6 H,H.slc,H.ssc,h1];have tH:=Sort.choosePivot_holds lt cG bm bO (by omega);have Ke:=acS H gp cG s1 bm bO (by omega) bW;generalize Sort.choosePivot lt cG bm bO=Ic at Ke tH;obtain⟨p,hint⟩:=Ic;simp only at Ke tH;refine H.fnA s1 s1 Ke (by simp[aC,aJ,sr cG s1]) fun o=>?_;cases hint
 ·simp[y7];exact Li H bC bS ⟨by simp[t1],by simp[t2],by simp[t3],by simp[t4],by simp[t10]⟩ (pv:=p) (by simp) (h:=0) (by simp) (w:=w) (v:=v) (by simp[t8]) (by simp[t9]) rh s1 tH bW sf Hh hU
 ·simp[y7];exact Li H bC bS ⟨by simp[t1],by simp[t2],by simp[t3],by simp[t4],by simp[t10]⟩ (pv:=p) (by simp) (h:=1) (by simp) (w:=w) (v:=v) (by simp[t8]) (by simp[t9]) rh s1 tH bW sf Hh hU
 ·simp[y7,t1,t2,t4,Pv.look,H.slc,H.ssc];simp only[h6 H,H.slc,H.ssc,h1];refine H.fnD s1 (ac8 H cG s1 bm bO (by omega) bW (by omega)) (by simp[aC,aJ,sr cG s1]) fun s2 o=>?_;have aL:=Sort.reverseRange_holds cG bm bO (by omega) (by omega);have Qt:((bO:Int)-1-(p-bm))=((bO-1)-(p-bm):Nat):=by omega
  simp[t1,t2,Qt];(with_reducible repeat' first|refine aj ?_|simp[Qt,t1,t2]);exact Li H bC bS ⟨by simp[t1],by simp[t2],by simp[t3],by simp[t4],by simp[t10]⟩ (pv:=(bO-1)-(p-bm)) (by simp) (h:=1) (by simp) (w:=w) (v:=v) (by simp[t8]) (by simp[t9]) rh s2 (by omega) bW sf (Hh.perm (by omega) aL) (hU.mono aL)
end
theorem ac4(H:e1 S n g b6 lc b2 lt)(gp:rE S 901)(kX:rE S 902)(bC:Sort.SWO lt)(m:Nat):∀(d:Array α) (aQ:d.size=n) (a b vF:Nat) (hm:b-a≤m) (mQ:a≤b) (ae:b≤n) (eT:vF≤1000) (w2:Sort.Below lt a b d),
  bN al 214 [eV g b6 lc b2,.int .i64 a,.int .i64 b,.int .i64 vF] (S d.toList) fun r ai=>r= .tuple []∧∃b8,ai=S b8.toList∧Sort.PermIn a b d b8∧Sort.SortedIn lt a b b8:=by
 induction m using Nat.strongRecOn with
 |ind m bS=>
 intro d aQ a b vF hm mQ ae eT w2;have ag:=H.ok d.toList;have au:d.toList.length=n:=by simpa using aQ
 have aw:∀l m,Pv.look (.loc m) (S l).b=none:=fun l=>(H.ok l).obj.1;have hu:∀l m cs,cw (.loc m) cs (S l).b=(S l).b++[(.loc m,cs)]:=fun l m cs=>jT (aw l m);have av:∀m,aH.loc m∉cQ (S d.toList):=jO ag.obj;have hle:=H.le;refine bN.mk mixed nJ abN aie (by simp) ag.obj fun aP cP=>?_;unfold Pl;simp[eV,hu,av,cH,aw];refine H.loopA au [4] (fun(x:((Nat×Nat×Nat)×Bool×Bool)×Array α)=>[(1,.int .i64 x.1.1.1),(2,.int .i64 x.1.1.2.1),(3,.int .i64 x.1.1.2.2),(8,.bool x.1.2.1),(9,.bool x.1.2.2)]) (·.2) (fun x=>x.1.1.2.1-x.1.1.1) (fun x=>x.2.size=n∧(x.1.1.1≤x.1.1.2.1∧x.1.1.2.1≤n∧x.1.1.2.1-x.1.1.1≤m∧x.1.1.2.2≤1000)∧Sort.Below lt x.1.1.1 x.1.1.2.1 x.2∧∀R,Sort.PermIn x.1.1.1 x.1.1.2.1 x.2 R→Sort.SortedIn lt x.1.1.1 x.1.1.2.1 R→Sort.PermIn a b d R∧Sort.SortedIn lt a b R)
  (((a,b,vF),true,true),d) aQ ⟨aQ,⟨mQ,ae,hm,eT⟩,w2,fun R J U=>⟨J,U⟩⟩ (by simp[cH,aw]) aR aR (by simp[aC]) ?_
 rintro⟨⟨⟨bm,bO,uc⟩,amP,wp⟩,ck⟩ ⟨aS,⟨bp,bW,dy,c0⟩,Ce,Fl⟩;simp only at aS bp bW dy c0 Ce Fl;have sr:∀fK:Array α,fK.size=n→aC (inObs (S fK.toList)) (eV g b6 lc b2):=fun fK h=>H.kdata (lk:=fK.toList) (by simpa using h);have GD:∀(R:Array α) t o,Sort.PermIn bm bO ck R→Sort.SortedIn lt bm bO R→cS Vz (S d.toList) (fun r ai=>r= .tuple []∧∃b8,ai=S b8.toList∧Sort.PermIn a b d b8∧Sort.SortedIn lt a b b8) .ret ⟨t,(.loc 0,[.func g lc,.func b6 b2])::(S R.toList).b,(S R.toList).e,1,o⟩:=fun R t o J U=>by refine H.retA au (by rw[J.1];exact aS) (.inl rfl) ⟨rfl,R,rfl,Fl R J U⟩
 simp;by_cases sf:bO-bm≤12
 ·have Br:(bO:Int)-bm≤12:=by omega
  (with_reducible repeat' first|refine aj ?_|simp[Br,Pv.look,H.slc,H.ssc]);simp only[h6 H,H.slc,H.ssc,h1];refine H.fnD aS (acW H ck aS bm bO bp bW) (by simp[aC,aJ,sr ck aS]) fun s2 o=>?_;obtain⟨a6,bz⟩:=Sort.insertionSort_holds bC ck bm bO bp (by omega);simp;exact GD _ _ _ a6 bz
 have Br:¬(bO:Int)-bm≤12:=by omega
 by_cases za:uc=0
 ·have ER:(((uc:Nat):Int)==0)=true:=by simp[za]
  (with_reducible repeat' first|refine aj ?_|simp[Br,ER,Pv.look,H.slc,H.ssc]);simp only[h6 H,H.slc,H.ssc,h1];refine H.fnD aS (acV H ck aS bm bO bp bW (by omega)) (by simp[aC,aJ,sr ck aS]) fun s2 o=>?_;obtain⟨a6,bz⟩:=Sort.heapSort_holds bC ck bm bO bp (by omega);simp;exact GD _ _ _ a6 bz
 have ER:(((uc:Nat):Int)==0)=false:=by simp[za]
 have SM:AO S n g b6 lc b2 lt (bO-bm):=fun k ad=>bS k (by omega);cases amP
 ·(with_reducible repeat' first|refine aj ?_|simp[Br,ER,Pv.look,H.slc,H.ssc]);simp only[h6 H,H.slc,H.ssc,h1];refine H.fnD aS (acR H kX ck aS bm bO bp bW (by omega)) (by simp[aC,aJ,sr ck aS]) fun s1 o=>?_;have Dx:=Sort.breakPatterns_holds ck bm bO bp (by omega);generalize Sort.breakPatterns ck bm bO=d1 at s1 Dx;have el:((uc:Int)-1)=(uc-1:Nat):=by omega
  simp[el];(with_reducible repeat' first|refine aj ?_|simp[el,Pv.look]);refine UU (lim:=uc-1) H gp bC SM ⟨by simp,by simp,by simp,by simp,by simp⟩ (w:=false) (v:=wp) (by simp) (by simp) (by omega) s1 bW (by omega) (Ce.perm (by omega) Dx) ⟨?_,fun R t o dI eZ=>?_⟩
  ·rintro e he a2 b4 w v L t o ak aB bf dd gS hG t1 t2 t3 t4 t8 t9;rcases he with rfl|rfl<;>simp<;>exact bP.whl (((a2,b4,uc-1),w,v),L) (by simp;omega) ⟨ak,⟨aB,bf,by simp;omega,by simp;omega⟩,gS,fun R dI eZ=>Fl R (Sort.permIn_trans _ _ _ bm bO Dx (hG R dI eZ).1) (hG R dI eZ).2⟩ (H.weakC au (by simpa using ak) (by simp[aC,t1,t2,t3,t4,t8,t9]))
  ·simpa using GD R t o (Sort.permIn_trans _ _ _ bm bO Dx dI) eZ
 ·(with_reducible repeat' first|refine aj ?_|simp[Br,ER,Pv.look,H.slc,H.ssc]);refine UU (lim:=uc) H gp bC SM ⟨by simp,by simp,by simp,by simp,by simp⟩ (w:=true) (v:=wp) (by simp) (by simp) c0 aS bW (by omega) Ce ⟨?_,fun R t o dI eZ=>?_⟩
  ·rintro e he a2 b4 w v L t o ak aB bf dd gS hG t1 t2 t3 t4 t8 t9;rcases he with rfl|rfl<;>simp<;>exact bP.whl (((a2,b4,uc),w,v),L) (by simp;omega) ⟨ak,⟨aB,bf,by simp;omega,c0⟩,gS,fun R dI eZ=>Fl R (hG R dI eZ).1 (hG R dI eZ).2⟩ (H.weakC au (by simpa using ak) (by simp[aC,t1,t2,t3,t4,t8,t9]))
  ·simpa using GD R t o dI eZ
end Go.Proofs.YtahlgcidhnjlbaaGreat
namespace Go.Proofs.YtahlgcidhnjlbaaGreat
open Go Go.Pv
variable {α:Type} {S:List α→cI} {n g b6:Nat} {lc b2:List ah} {lt:α→α→Bool}
theorem agr(bC:qa lt){l lk:List α}{a b i:Nat}(mR:a+1≤i)(y6:i≤b)(ae:b≤l.length)(ag:fa lt (a+1) b l){z:α}(br:l[a]? =some z)(BL:∀h x,a+1≤h→h<i→l[h]? =some x→lt x z=true)(BI:∀h x,i≤h→h<b→l[h]? =some x→lt x z=false)
  (aL:∀k,lk[k]? =l[hP a (a+1) i k]?):fa lt a b lk:=by
 intro p q x y bI km bn ab aG;rw[aL]at ab aG;simp only[hP]at ab aG;rw[if_neg (by omega)]at ab aG;by_cases a6:q<i-1
 ·rw[if_pos (by omega)]at ab aG;exact ag _ _ _ _ (by omega) (by omega) (by omega) ab aG
 ·rw[if_neg (by omega)]at aG;by_cases bz:q<i
  ·rw[if_pos bz,show q-(i-(a+1))=a by omega,br]at aG;cases aG;rw[if_pos (by omega)]at ab;exact bC.asym _ _ (BL _ _ (by omega) (by omega) ab)
  ·rw[if_neg bz]at aG;by_cases cN:p<i-1
   ·rw[if_pos (by omega)]at ab;exact ag _ _ _ _ (by omega) (by omega) (by omega) ab aG
   ·rw[if_neg (by omega)]at ab;by_cases dq:p<i
    ·rw[if_pos dq,show p-(i-(a+1))=a by omega,br]at ab;cases ab;exact BI _ _ (by omega) bn aG
    ·rw[if_neg dq]at ab;exact ag _ _ _ _ (by omega) (by omega) bn ab aG
theorem ags(bC:qa lt){l lk:List α}{a m i:Nat}(mR:a≤i)(aoz:i≤m)(ae:m+1≤l.length)(ag:fa lt a m l){z:α}(br:l[m]? =some z)(BL:∀h x,a≤h→h<i→l[h]? =some x→lt z x=false)(BI:∀h x,i≤h→h<m→l[h]? =some x→lt z x=true)
  (aL:∀k,lk[k]? =l[hP i m (m+1) k]?):fa lt a (m+1) lk:=by
 intro p q x y bI km bn ab aG;rw[aL]at ab aG;simp only[hP]at ab aG;by_cases a6:q<i
 ·rw[if_pos (by omega)]at ab aG;exact ag _ _ _ _ bI km (by omega) ab aG
 ·rw[if_neg a6]at aG;by_cases bz:q=i
  ·rw[if_pos (by omega),show q+(m-i)=m by omega,br]at aG;cases aG;rw[if_pos (by omega)]at ab;exact BL _ _ bI (by omega) ab
  ·rw[if_neg (by omega),if_pos (by omega)]at aG;by_cases cN:p<i
   ·rw[if_pos cN]at ab;exact ag _ _ _ _ bI (by omega) (by omega) ab aG
   ·rw[if_neg cN]at ab;by_cases dq:p=i
    ·rw[if_pos (by omega),show p+(m-i)=m by omega,br]at ab;cases ab;exact bC.asym _ _ (BI _ _ (by omega) (by omega) aG)
    ·rw[if_neg (by omega),if_pos (by omega)]at ab;exact ag _ _ _ _ (by omega) (by omega) (by omega) ab aG
structure Dw (lt:α→α→Bool) (a s m e b mid:Nat) (lk:List α):Prop where
 s1:fa lt a s lk
 s2:fa lt s mid lk
 s3:fa lt mid e lk
 s4:fa lt e b lk
 cross:∀p q x y,a≤p→p<mid→mid≤q→q<b→lk[p]? =some x→lk[q]? =some y→lt y x=false
theorem fa.le(bC:qa lt){a b:Nat}{l:List α}(h:fa lt a b l){i j:Nat}{x y:α}(J:a≤i)(U:i≤j)(ao:j<b)(ab:l[i]? =some x)(aG:l[j]? =some y):lt y x=false:=by
 by_cases e:i=j
 ·subst e;rw[ab]at aG;cases aG;cases SJ:lt x x with
  |false=>rfl
  |true=>have:=bC.asym _ _ SJ;rw[SJ]at this;exact this
 ·exact h _ _ _ _ J (by omega) ao ab aG
theorem agz(bC:qa lt){l lk:List α}{a m b mid s e:Nat}(has:a≤s)(e4:s≤m)(aoD:m≤e)(aox:e≤b)(ae:b≤l.length)(lv:s+e=mid+m)(J:fa lt a m l)(U:fa lt m b l)
  (bH:s=a∨e=b∨ ∃x y,l[s-1]? =some x∧l[e]? =some y∧lt y x=false) (cj:s=m∨e=m∨ ∃x y,l[s]? =some x∧l[e-1]? =some y∧lt y x=true) (aL:∀k,lk[k]? =l[hP s m e k]?):Dw lt a s m e b mid lk:=by
 have g1:∀p,p<s→lk[p]? =l[p]?:=fun p bI=>by rw[aL];simp[hP,bI]
 have g2:∀p,s≤p→p<mid→lk[p]? =l[p+(m-s)]?:=fun p ao a8=>by rw[aL];simp only[hP];rw[if_neg (by omega),if_pos (by omega)]
 have g3:∀p,mid≤p→p<e→lk[p]? =l[p-(e-m)]?:=fun p ao a8=>by rw[aL];simp only[hP];rw[if_neg (by omega),if_neg (by omega),if_pos (by omega)]
 have g4:∀p,e≤p→lk[p]? =l[p]?:=fun p ao=>by
  rw[aL];simp only[hP];rw[if_neg (by omega)];by_cases bZ:p<s+(e-m)
  ·omega
  ·rw[if_neg bZ,if_neg (by omega)]
 refine⟨fun p q x y bI km bn ab aG=>?_,fun p q x y bI km bn ab aG=>?_,fun p q x y bI km bn ab aG=>?_,fun p q x y bI km bn ab aG=>?_,fun p q x y bI aeM bn JH ab aG=>?_⟩
 ·rw[g1 _ (by omega)]at ab aG;exact J _ _ _ _ bI km (by omega) ab aG
 ·rw[g2 _ (by omega) (by omega)]at ab aG;exact U _ _ _ _ (by omega) (by omega) (by omega) ab aG
 ·rw[g3 _ (by omega) (by omega)]at ab aG;exact J _ _ _ _ (by omega) (by omega) (by omega) ab aG
 ·rw[g4 _ (by omega)]at ab aG;exact U _ _ _ _ (by omega) (by omega) (by omega) ab aG
 ·by_cases cN:p<s
  ·rw[g1 _ cN]at ab;by_cases a6:q<e
   ·rw[g3 _ bn a6]at aG;exact J _ _ _ _ bI (by omega) (by omega) ab aG
   ·rw[g4 _ (by omega)]at aG;rcases bH with bH|bH|⟨u,v,aS,bp,bW⟩
    ·omega
    ·omega
    ·exact bC.ntr _ _ _ (bC.ntr _ _ _ (fa.le bC J bI (by omega) (by omega) ab aS) bW) (fa.le bC U (by omega) (by omega) JH bp aG)
  ·rw[g2 _ (by omega) aeM]at ab;by_cases a6:q<e
   ·rw[g3 _ bn a6]at aG;rcases cj with cj|cj|⟨u,v,aS,bp,bW⟩
    ·omega
    ·omega
    ·exact bC.ntr _ _ _ (bC.ntr _ _ _ (fa.le bC U (by omega) (by omega) (by omega) ab bp) (bC.asym _ _ bW)) (fa.le bC J (by omega) (by omega) (by omega) aS aG)
   ·rw[g4 _ (by omega)]at aG;exact U _ _ _ _ (by omega) (by omega) JH ab aG
theorem agA{a mid b:Nat}(Bz:a≤mid){lk jM gL:List α}(J:gm a mid lk jM)(s1:fa lt a mid jM)(U:gm mid b jM gL)(s2:fa lt mid b gL)(Zm:∀p q x y,a≤p→p<mid→mid≤q→q<b→lk[p]? =some x→lk[q]? =some y→lt y x=false):fa lt a b gL:=by
 intro p q x y bI km bn ab aG;by_cases ao:q<mid
 ·rw[U.out _ (.inl (by omega))]at ab;rw[U.out _ (.inl (by omega))]at aG;exact s1 _ _ _ _ bI km ao ab aG
 ·by_cases a8:mid≤p
  ·exact s2 _ _ _ _ a8 km bn ab aG
  ·rw[U.out _ (.inl (by omega))]at ab;refine U.all (fun y=>lt y x=false) (fun k y gp kX aG=>?_) q y (by omega) bn aG;rw[J.out _ (.inr gp)]at aG;exact J.all (fun x=>lt y x=false) (fun bL x aef aeg ab=>Zm bL k x y aef aeg gp kX ab aG) p x bI (by omega) ab
end Go.Proofs.YtahlgcidhnjlbaaGreat
namespace Go.Proofs.YtahlgcidhnjlbaaGreat
open Go Go.Pv
variable {α:Type} {S:List α→cI} {n g b6:Nat} {lc b2:List ah} {lt:α→α→Bool}
def ak8(lt:α→α→Bool)(l:List α)(mid m s0 r0:Nat)(x:Nat×Nat):Prop:=s0≤x.1∧x.1≤x.2∧x.2≤r0∧(x.1=s0∨ ∃u v,l[x.1-1]? =some u∧l[mid+m-x.1]? =some v∧lt v u=false)∧(x.2=r0∨ ∃u v,l[x.2]? =some u∧l[mid+m-x.2-1]? =some v∧lt v u=true)
attribute [local simp] o5
def DD(S:List α→cI)(n g b6:Nat)(lc b2:List ah)(lt:α→α→Bool)(d:Nat):Prop:=
 ∀(l:List α) (a m b:Nat),l.length=n→b-a≤d→a<m→m<b→b≤n→fa lt a m l→fa lt m b l→
  bN al 232 [eV g b6 lc b2,.int .i64 a,.int .i64 m,.int .i64 b] (S l) fun r ai=>r= .tuple []∧∃aZ,ai=S aZ∧gm a b l aZ∧fa lt a b aZ
def DE(S:List α→cI)(g b6:Nat)(lc b2:List ah)(lt:α→α→Bool)(a b:Nat)(l:List α)(Q:Exit→bq→Prop):Prop:=∀gL t o,gm a b l gL→fa lt a b gL→Q .normal ⟨t,(.loc 0,[.func g lc,.func b6 b2])::(S gL).b,(S gL).e,1,o⟩
section
variable {a m b mid i e d:Nat} {l:List α} {t:List (Nat×ah)} {o:List aH} {ob:List aH} {Q:Exit→bq→Prop}
theorem akM(H:e1 S n g b6 lc b2 lt)(bS:DD S n g b6 lc b2 lt d)(t3:Pv.get 3 t= .int .i64 b)(t4:Pv.get 4 t= .ptr (.loc 0) 0)(t16:Pv.get 16 t= .int .i64 mid)(t22:Pv.get 22 t= .int .i64 e)(au:l.length=n)(J:mid≤e)(U:e≤b)(ae:b≤n)(aQ:b-mid≤d)(Sy:fa lt mid e l)(Sz:fa lt e b l)(hU:DE S g b6 lc b2 lt mid b l Q):
  cU al ob DX Q ⟨t,(.loc 0,[.func g lc,.func b6 b2])::(S l).b,(S l).e,1,o⟩:=by
 unfold DX;by_cases ll:mid<e∧e<b
 ·simp[t3,t4,t16,t22,ll.1,ll.2,Pv.look];simp only[h6 H,H.slc,H.ssc,h1];refine H.doFn au (bS l mid e b au aQ ll.1 ll.2 ae Sy Sz) (fun aZ h=>by rw[h.1.length];exact au) (by simp[aJ,aC,H.kdata au]) ?_;rintro gL ⟨kP,z2⟩;simp;exact hU _ _ _ kP z2
 ·have pL:fa lt mid b l:=by
   by_cases o7:mid<e
   ·rwa[show e=b by omega]at Sy
   ·rwa[show e=mid by omega]at Sz
  by_cases o7:mid<e
  ·have adJ:¬e<b:=by omega
   simp[t3,t16,t22,o7,adJ];exact hU _ _ _ (.refl _) pL
  ·simp[t16,t22,o7];exact hU _ _ _ (.refl _) pL
theorem akN(H:e1 S n g b6 lc b2 lt)(bS:DD S n g b6 lc b2 lt d)(t1:Pv.get 1 t= .int .i64 a)(t3:Pv.get 3 t= .int .i64 b)(t4:Pv.get 4 t= .ptr (.loc 0) 0)(t16:Pv.get 16 t= .int .i64 mid)(t18:Pv.get 18 t= .int .i64 i)(t22:Pv.get 22 t= .int .i64 e)(au:l.length=n)(bB:a≤i∧i≤mid∧a≤m)(J:mid≤e)(U:e≤b)(ae:b≤n)(aQ:b-mid≤d)(mg:mid-a≤d)(dS:Dw lt a i m e b mid l)(hU:DE S g b6 lc b2 lt a b l Q):
  cU al ob DY Q ⟨t,(.loc 0,[.func g lc,.func b6 b2])::(S l).b,(S l).e,1,o⟩:=by
 unfold DY;have next:∀{jM t o},Pv.get 3 t= .int .i64 b→Pv.get 4 t= .ptr (.loc 0) 0→Pv.get 16 t= .int .i64 mid→Pv.get 22 t= .int .i64 e→jM.length=n→gm a mid l jM→fa lt a mid jM→cU al ob DX Q ⟨t,(.loc 0,[.func g lc,.func b6 b2])::(S jM).b,(S jM).e,1,o⟩:=fun ak aB bf dd xe cN dq=>by
  refine akM H bS ak aB bf dd xe J U ae aQ (fun p q x y J U ao ab aG=>?_) (fun p q x y J U ao ab aG=>?_) fun gL t o a6 bz=>?_
  ·rw[cN.out _ (.inr J)]at ab;rw[cN.out _ (.inr (by omega))]at aG;exact dS.s3 p q x y J U ao ab aG
  ·rw[cN.out _ (.inr (by omega))]at ab;rw[cN.out _ (.inr (by omega))]at aG;exact dS.s4 p q x y J U ao ab aG
  ·exact hU gL t o ((cN.mono (by omega) (by omega)).trans (a6.mono (by omega) (by omega))) (agA (by omega) cN dq a6 bz dS.cross)
 by_cases kW:a<i∧i<mid
 ·simp[t1,t4,t16,t18,kW.1,kW.2,Pv.look];simp only[h6 H,H.slc,H.ssc,h1];refine H.doFn au (bS l a i mid au mg kW.1 kW.2 (by omega) dS.s1 dS.s2) (fun aZ h=>by rw[h.1.length];exact au) (by simp[aJ,aC,H.kdata au]) ?_;rintro jM ⟨cN,dq⟩;simp;exact next (by simp[t3]) (by simp[t4]) (by simp[t16]) (by simp[t22]) (by rw[cN.length];exact au) cN dq
 ·have dq:fa lt a mid l:=by
   by_cases pI:a<i
   ·have:=dS.s1;rwa[show i=mid by omega]at this
   ·have:=dS.s2;rwa[show i=a by omega]at this
  by_cases pI:a<i
  ·have EB:¬i<mid:=by omega
   simp[t1,t16,t18,pI,EB];exact next (by simp[t3]) (by simp[t4]) (by simp[t16]) (by simp[t22]) au (.refl _) dq
  ·simp[t1,t18,pI];exact next (by simp[t3]) (by simp[t4]) (by simp[t16]) (by simp[t22]) au (.refl _) dq
theorem akO(H:e1 S n g b6 lc b2 lt)(bS:DD S n g b6 lc b2 lt d)(t1:Pv.get 1 t= .int .i64 a)(t2:Pv.get 2 t= .int .i64 m)(t3:Pv.get 3 t= .int .i64 b)(t4:Pv.get 4 t= .ptr (.loc 0) 0)(t16:Pv.get 16 t= .int .i64 mid)(t18:Pv.get 18 t= .int .i64 i)(t22:Pv.get 22 t= .int .i64 e)(au:l.length=n)(bB:a≤i∧i≤mid∧a≤m)(J:mid≤e)(U:e≤b)(ae:b≤n)(aQ:b-mid≤d)(mg:mid-a≤d)(Se:∀lk:List α,(∀k,lk[k]? =l[hP i m e k]?)→Dw lt a i m e b mid lk)(hU:DE S g b6 lc b2 lt a b l Q):
  cU al ob H3 Q ⟨t,(.loc 0,[.func g lc,.func b6 b2])::(S l).b,(S l).e,1,o⟩:=by
 unfold H3;have next:∀{lk t o},Pv.get 1 t= .int .i64 a→Pv.get 3 t= .int .i64 b→Pv.get 4 t= .ptr (.loc 0) 0→Pv.get 16 t= .int .i64 mid→Pv.get 18 t= .int .i64 i→Pv.get 22 t= .int .i64 e→lk.length=n→Dw lt a i m e b mid lk→gm a b l lk→cU al ob DY Q ⟨t,(.loc 0,[.func g lc,.func b6 b2])::(S lk).b,(S lk).e,1,o⟩:=fun ak aB bf dd gS hG hx dS adG=>akN H bS ak aB bf dd gS hG hx bB J U ae aQ mg dS fun gL t o a6 bz=>hU gL t o (adG.trans a6) bz
 by_cases o8:i<m∧m<e
 ·simp[t2,t4,t18,t22,o8.1,o8.2,Pv.look];simp only[h6 H,H.slc,H.ssc,h1];refine H.doFn au (ac9 H l au i m e o8.1 o8.2 (by omega)) (fun aZ h=>by rw[h.1.length];exact au) (by simp[aJ,aC,H.kdata au]) ?_;rintro lk ⟨a6,bz⟩;simp;exact next (by simp[t1]) (by simp[t3]) (by simp[t4]) (by simp[t16]) (by simp[t18]) (by simp[t22]) (by rw[a6.length];exact au) (Se lk bz) (a6.mono (by omega) (by omega))
 ·have dS:=Se l (fun k=>by
   congr 1;simp only[hP];repeat' split
   all_goals omega)
  by_cases mj:i<m
  ·have aeP:¬m<e:=by omega
   simp[t2,t18,t22,mj,aeP];exact next (by simp[t1]) (by simp[t3]) (by simp[t4]) (by simp[t16]) (by simp[t18]) (by simp[t22]) au dS (.refl _)
  ·simp[t2,t18,mj];exact next (by simp[t1]) (by simp[t3]) (by simp[t4]) (by simp[t16]) (by simp[t18]) (by simp[t22]) au dS (.refl _)
theorem Wl{bb:List (aH×List ah)}(H:e1 S n g b6 lc b2 lt)(va:Pv.look (.loc 0) bb=some [.func g lc,.func b6 b2])(cP:∀k cs,Pv.look k (S l).b=some cs→Pv.look k bb=some cs)(bC:qa lt)(bS:DD S n g b6 lc b2 lt d){s0 r0:Nat}(t1:Pv.get 1 t= .int .i64 a)(t2:Pv.get 2 t= .int .i64 m)(t3:Pv.get 3 t= .int .i64 b)(t4:Pv.get 4 t= .ptr (.loc 0) 0)(t16:Pv.get 16 t= .int .i64 mid)(t17:Pv.get 17 t= .int .i64 ((mid:Int)+m))(t18:Pv.get 18 t= .int .i64 s0)(t19:Pv.get 19 t= .int .i64 r0)(au:l.length=n)(bB:a<m∧m<b∧mid=(a+b)/2)(J:mid<m∧s0=mid+m-b∧r0=mid∨m≤mid∧s0=a∧r0=m)(ae:b≤n)(aQ:b-a≤d+1)(kn:fa lt a m l)(o9:fa lt m b l)(hU:DE S g b6 lc b2 lt a b l Q):
  cU al (cQ (S l)) H4 Q ⟨t,bb,(S l).e,1,o⟩:=by
 have hle:=H.le;unfold H4;simp[t17];(with_reducible repeat' first|refine aj ?_|simp[t17]);refine n2 (fun(x:Nat×Nat)=>⟨[(1,.int .i64 a),(2,.int .i64 m),(3,.int .i64 b),(4,.ptr (.loc 0) 0),(16,.int .i64 mid),(17,.int .i64 (mid+m)),(20,.int .i64 (mid+m-1)),(18,.int .i64 x.1),(19,.int .i64 x.2)],(.loc 0,[.func g lc,.func b6 b2])::(S l).b,(S l).e,1,cQ (S l)⟩) (fun x=>x.2-x.1)
  (ak8 lt l mid m s0 r0) (s0,r0) (H.weak au au (by simp[aC,t1,t2,t3,t4,t16,t17,t18,t19]) va cP fun _ _ h=>h) ⟨by simp,by simp;omega,by simp,.inl rfl,.inl rfl⟩ ?_
 rintro⟨i,j⟩ ⟨aS,bp,bW,dy,c0⟩ _;simp only at aS bp bW dy c0;have oo:=ED i j (by omega);by_cases lS:i<j
 ·simp[lS];(with_reducible repeat' first|refine aj ?_|simp[Pv.look]);obtain⟨c,ay⟩:∃c,c=(i+j)/2:=⟨_,rfl⟩;rw[←ay]at oo;simp only[oo];(with_reducible repeat' first|refine aj ?_|simp[Pv.look]);obtain⟨u,JX⟩:∃u,l[c]? =some u:=⟨_,cf (by omega)⟩;obtain⟨v,JY⟩:∃v,l[mid+m-1-c]? =some v:=⟨_,cf (by omega)⟩;have dd:((mid:Int)+m-1-c)=(mid+m-1-c:Nat):=by omega
  simp only[H.slc,dd];refine H.doLess au (mid+m-1-c) c JY JX ?_;simp;cases rr:lt v u with
  |false=>simp;(with_reducible repeat' first|refine aj ?_|simp);refine bP.whl (c+1,j) (by simp;omega) ⟨by simp;omega,by simp;omega,bW,.inr ⟨u,v,by simpa using JX,?_,rr⟩,c0⟩ (H.weakC au au (by simp[aC]));simp only;rw[show mid+m-(c+1)=mid+m-1-c by omega];exact JY
  |true=>simp;(with_reducible repeat' first|refine aj ?_|simp);refine bP.whl (i,c) (by simp;omega) ⟨aS,by simp;omega,by simp;omega,dy,.inr ⟨u,v,JX,?_,rr⟩⟩ (H.weakC au au (by simp[aC]));simp only;rw[show mid+m-c-1=mid+m-1-c by omega];exact JY
 ·obtain rfl:i=j:=by omega
  obtain⟨e,he⟩:∃e,e=mid+m-i:=⟨_,rfl⟩;have gS:((mid:Int)+m-i)=(e:Nat):=by omega
  have bH:i=a∨e=b∨ ∃x y,l[i-1]? =some x∧l[e]? =some y∧lt y x=false:=by
   rcases dy with dy|⟨u,v,a6,bz,bU⟩
   ·omega
   ·exact .inr (.inr ⟨u,v,a6,by rw[he];exact bz,bU⟩)
  have cj:i=m∨e=m∨ ∃x y,l[i]? =some x∧l[e-1]? =some y∧lt y x=true:=by
   rcases c0 with c0|⟨u,v,a6,bz,bU⟩
   ·omega
   ·exact .inr (.inr ⟨u,v,a6,by rw[he];exact bz,bU⟩)
  simp[lS];(with_reducible repeat' first|refine aj ?_|simp);rw[gS];exact akO H bS (a:=a) (m:=m) (b:=b) (mid:=mid) (i:=i) (e:=e) (by simp) (by simp) (by simp) (by simp) (by simp) (by simp) (by simp) au (by omega) (by omega) (by omega) ae (by omega) (by omega) (fun lk aL=>agz bC (by omega) (by omega) (by omega) (by omega) (by omega) (by omega) kn o9 bH cj aL) hU
end
theorem Rp(H:e1 S n g b6 lc b2 lt)(bC:qa lt)(d:Nat):∀(l:List α) (a m b:Nat),l.length=n→b-a≤d→a<m→m<b→b≤n→fa lt a m l→fa lt m b l→
  bN al 232 [eV g b6 lc b2,.int .i64 a,.int .i64 m,.int .i64 b] (S l) fun r ai=>r= .tuple []∧∃aZ,ai=S aZ∧gm a b l aZ∧fa lt a b aZ:=by
 induction d with
 |zero=>intro l a m b au aQ Bz vk;omega
 |succ d bS=>
 intro l a m b au aQ Bz vk ae kn o9;have ag:=H.ok l;have aw:∀l m,Pv.look (.loc m) (S l).b=none:=fun l=>(H.ok l).obj.1;have hu:∀l m cs,cw (.loc m) cs (S l).b=(S l).b++[(.loc m,cs)]:=fun l m cs=>jT (aw l m);have av:∀m,aH.loc m∉cQ (S l):=jO ag.obj;have hle:=H.le;refine bN.mk mixed AB abT ail (by simp) ag.obj fun aP cP=>?_;unfold Pr;simp[eV,hu,av,cH,aw];(with_reducible repeat' first|((first|apply bM|apply bR|apply bQ)<;>intro h<;>try simp at h)|refine aj ?_|simp[hu,av,cH,aw])
 ·obtain rfl:m=a+1:=by omega
  have JL:∀k,hP a (a+1) (a+1) k=k:=by
   intro k;simp only[hP];repeat' split
   all_goals omega
  obtain⟨z,br⟩:∃z,l[a]? =some z:=⟨_,cf (by omega)⟩;refine n2 (fun(x:Nat×Nat)=>⟨[(1,.int .i64 a),(4,.ptr (.loc 0) 0),(8,.int .i64 x.1),(9,.int .i64 x.2)],(.loc 0,[.func g lc,.func b6 b2])::(S l).b,(S l).e,1,cQ (S l)⟩) (fun x=>x.2-x.1)
   (fun x=>a+1≤x.1∧x.1≤x.2∧x.2≤b∧(∀h y,a+1≤h→h<x.1→l[h]? =some y→lt y z=true)∧(∀h y,x.2≤h→h<b→l[h]? =some y→lt y z=false)) (a+1,b)
   (H.weak au au (by simp[aC]) (by simp[cH,aw]) aR aR) ⟨by simp,by simp;omega,by simp,fun h y J U=>by simp at U;omega,fun h y J U=>by simp at J;omega⟩ ?_
  rintro⟨i,j⟩ ⟨aS,bp,bW,dy,c0⟩ _;simp only at aS bp bW dy c0;have hw:=ED i j (by omega);simp[Pv.look];(with_reducible repeat' first|((first|apply bM|apply bR|apply bQ)<;>intro h<;>try simp at h)|refine aj ?_|simp[Pv.look])
  ·obtain⟨c,ay⟩:∃c,c=(i+j)/2:=⟨_,rfl⟩;rw[←ay]at hw;obtain⟨y,aG⟩:∃y,l[c]? =some y:=⟨_,cf (by omega)⟩;simp only[hw,H.slc];refine H.doLess au c a aG br ?_;simp;cases rr:lt y z with
   |true=>
    simp;(with_reducible repeat' first|refine aj ?_|simp);refine bP.whl (c+1,j) (by simp;omega) ⟨by simp;omega,by simp;omega,bW,fun h u J U hu=>?_,c0⟩ (H.weakC au au (by simp[aC]));cases e:lt u z with
    |true=>rfl
    |false=>simp only at U;have:=bC.ntr _ _ _ e (fa.le bC o9 J (by omega) (by omega) hu aG);rw[rr]at this;cases this
   |false=>simp;(with_reducible repeat' first|refine aj ?_|simp);refine bP.whl (i,c) (by simp;omega) ⟨aS,by simp;omega,by simp;omega,dy,fun h u J U hu=>?_⟩ (H.weakC au au (by simp[aC]));exact bC.ntr _ _ _ rr (fa.le bC o9 (by omega) J U aG hu)
  ·obtain rfl:i=j:=by omega
   refine n2 (fun(x:Nat×List α)=>⟨[(4,.ptr (.loc 0) 0),(8,.int .i64 i),(11,.int .i64 x.1)],(.loc 0,[.func g lc,.func b6 b2])::(S x.2).b,(S x.2).e,1,cQ (S l)⟩) (fun x=>i-x.1)
    (fun x=>x.2.length=n∧a≤x.1∧x.1<i∧gm a b l x.2∧∀k,x.2[k]? =l[hP a (a+1) (x.1+1) k]?) (a,l)
    (H.weakC au au (by simp[aC])) ⟨au,by simp,by simp;omega,.refl _,fun k=>by simp[JL]⟩ ?_
   rintro⟨k,lk⟩ ⟨a6,bz,bU,cT,c8⟩ _;simp only at a6 bz bU cT c8;simp[Pv.look];((with_reducible repeat' first|refine aj ?_|simp[Pv.look]|((first|apply bM|apply bR|apply bQ)<;>intro h<;>try simp at h))<;>(try exact ch))
   ·have bf:((k:Int)+1)=(k+1:Nat):=by omega
    rw[H.ssc,bf];refine H.doSwap a6 k (k+1) (by omega) (by omega) (by omega) ?_;simp;(with_reducible repeat' first|((first|apply bM|apply bR|apply bQ)<;>intro h<;>try simp at h)|refine aj ?_|simp);refine bP.whl (k+1,gX lk k (k+1)) (by simp;omega) ⟨by simp[a6],by simp;omega,by simp;omega,.step cT (by omega) (by omega) (by omega) (by omega) (by omega) (by omega),fun t=>?_⟩ (H.weakC au (by simp[a6]) (by simp[aC]));rw[zF _ _ _ _ (by omega) (by omega),c8,c8,c8];have:hP a (a+1) (k+1+1) t=if t=k then hP a (a+1) (k+1) (k+1)else if t=k+1 then hP a (a+1) (k+1) k else hP a (a+1) (k+1) t:=by
     simp only[hP];repeat' split
     all_goals omega
    rw[this];split
    ·rfl
    ·split<;>rfl
   ·obtain rfl:i=k+1:=by omega
    refine H.ret au a6 (.inl rfl) ⟨rfl,lk,rfl,cT,agr bC (by omega) bW (by omega) o9 br dy c0 c8⟩
 ·obtain rfl:b=m+1:=by omega
  have JL:∀k,hP m m (m+1) k=k:=by
   intro k;simp only[hP];repeat' split
   all_goals omega
  obtain⟨z,br⟩:∃z,l[m]? =some z:=⟨_,cf (by omega)⟩;refine n2 (fun(x:Nat×Nat)=>⟨[(2,.int .i64 m),(4,.ptr (.loc 0) 0),(12,.int .i64 x.1),(13,.int .i64 x.2)],(.loc 0,[.func g lc,.func b6 b2])::(S l).b,(S l).e,1,cQ (S l)⟩) (fun x=>x.2-x.1)
   (fun x=>a≤x.1∧x.1≤x.2∧x.2≤m∧(∀h y,a≤h→h<x.1→l[h]? =some y→lt z y=false)∧(∀h y,x.2≤h→h<m→l[h]? =some y→lt z y=true)) (a,m)
   (H.weak au au (by simp[aC]) (by simp[cH,aw]) aR aR) ⟨by simp,by simp;omega,by simp,fun h y J U=>by simp at U;omega,fun h y J U=>by simp at J;omega⟩ ?_
  rintro⟨i,j⟩ ⟨aS,bp,bW,dy,c0⟩ _;simp only at aS bp bW dy c0;have hw:=ED i j (by omega);simp[Pv.look];(with_reducible repeat' first|((first|apply bM|apply bR|apply bQ)<;>intro h<;>try simp at h)|refine aj ?_|simp[Pv.look])
  ·obtain⟨c,ay⟩:∃c,c=(i+j)/2:=⟨_,rfl⟩;rw[←ay]at hw;obtain⟨y,aG⟩:∃y,l[c]? =some y:=⟨_,cf (by omega)⟩;simp only[hw,H.slc];refine H.doLess au m c br aG ?_;simp;cases rr:lt z y with
   |false=>simp;((with_reducible repeat' first|refine aj ?_|simp|((first|apply bM|apply bR|apply bQ)<;>intro h<;>try simp at h))<;>(try exact ch));refine bP.whl (c+1,j) (by simp;omega) ⟨by simp;omega,by simp;omega,bW,fun h u J U hu=>?_,c0⟩ (H.weakC au au (by simp[aC]));simp only at U;exact bC.ntr _ _ _ (fa.le bC kn J (by omega) (by omega) hu aG) rr
   |true=>
    simp;((with_reducible repeat' first|refine aj ?_|simp|((first|apply bM|apply bR|apply bQ)<;>intro h<;>try simp at h))<;>(try exact ch));refine bP.whl (i,c) (by simp;omega) ⟨aS,by simp;omega,by simp;omega,dy,fun h u J U hu=>?_⟩ (H.weakC au au (by simp[aC]));cases e:lt z u with
    |true=>rfl
    |false=>have:=bC.ntr _ _ _ (fa.le bC kn (by omega) J U aG hu) e;rw[rr]at this;cases this
  ·obtain rfl:i=j:=by omega
   refine n2 (fun(x:Nat×List α)=>⟨[(4,.ptr (.loc 0) 0),(12,.int .i64 i),(15,.int .i64 x.1)],(.loc 0,[.func g lc,.func b6 b2])::(S x.2).b,(S x.2).e,1,cQ (S l)⟩) (fun x=>x.1)
    (fun x=>x.2.length=n∧i≤x.1∧x.1≤m∧gm a (m+1) l x.2∧∀k,x.2[k]? =l[hP x.1 m (m+1) k]?) (m,l)
    (H.weakC au au (by simp[aC])) ⟨au,by simp;omega,by simp,.refl _,fun k=>by simp[JL]⟩ ?_
   rintro⟨k,lk⟩ ⟨a6,bz,bU,cT,c8⟩ _;simp only at a6 bz bU cT c8;simp[Pv.look];((with_reducible repeat' first|refine aj ?_|simp[Pv.look]|((first|apply bM|apply bR|apply bQ)<;>intro h<;>try simp at h))<;>(try exact ch))
   ·have bf:((k:Int)-1)=(k-1:Nat):=by omega
    rw[H.ssc,bf];refine H.doSwap a6 k (k-1) (by omega) (by omega) (by omega) ?_;simp;(with_reducible repeat' first|refine aj ?_|simp);refine bP.whl (k-1,gX lk k (k-1)) (by simp;omega) ⟨by simp[a6],by simp;omega,by simp;omega,.step cT (by omega) (by omega) (by omega) (by omega) (by omega) (by omega),fun t=>?_⟩ (H.weakC au (by simp[a6]) (by simp[aC];omega));rw[zF _ _ _ _ (by omega) (by omega),c8,c8,c8];have:hP (k-1) m (m+1) t=if t=k then hP k m (m+1) (k-1)else if t=k-1 then hP k m (m+1) k else hP k m (m+1) t:=by
     simp only[hP];repeat' split
     all_goals omega
    rw[this];split
    ·rfl
    ·split<;>rfl
   ·obtain rfl:i=k:=by omega
    refine H.ret au a6 (.inl rfl) ⟨rfl,lk,rfl,cT,ags bC (by omega) bW (by omega) kn br dy c0 c8⟩
 ·obtain⟨mid,Jy⟩:∃mid,mid=(a+b)/2:=⟨_,rfl⟩;have hw:=ED a b (by omega);rw[←Jy]at hw;simp only[hw];(with_reducible repeat' first|((first|apply bM|apply bR|apply bQ)<;>intro h<;>try simp at h)|refine aj ?_|simp[hu,av,cH,aw])
  ·exact Wl (s0:=mid+m-b) (r0:=mid) H (by simp[cH,aw]) aR bC bS (a:=a) (m:=m) (b:=b) (mid:=mid) (by simp) (by simp) (by simp) (by simp) (by simp) (by simp) (by simp;omega) (by simp) au ⟨Bz,vk,Jy⟩ (by omega) ae aQ kn o9 fun gL t o a6 bz=>H.ret au (by rw[a6.length];exact au) (.inr rfl) ⟨rfl,gL,rfl,a6,bz⟩
  ·exact Wl (s0:=a) (r0:=m) H (by simp[cH,aw]) aR bC bS (a:=a) (m:=m) (b:=b) (mid:=mid) (by simp) (by simp) (by simp) (by simp) (by simp) (by simp) (by simp) (by simp) au ⟨Bz,vk,Jy⟩ (by omega) ae aQ kn o9 fun gL t o a6 bz=>H.ret au (by rw[a6.length];exact au) (.inr rfl) ⟨rfl,gL,rfl,a6,bz⟩
end Go.Proofs.YtahlgcidhnjlbaaGreat
namespace Go.Proofs.YtahlgcidhnjlbaaGreat
open Go Go.Pv
variable {α:Type} {S:List α→cI} {n g b6:Nat} {lc b2:List ah} {lt:α→α→Bool}
def oQ(lt:α→α→Bool)(z a b:Nat)(l:List α):Prop:= ∀i j x y,a≤i→i<j→j<b→i/z=j/z→l[i]? =some x→l[j]? =some y→lt y x=false
theorem oQ.snoc{z q:Nat}(br:0<z){l aZ:List α}(h:oQ lt z 0 (q*z) l){b:Nat}(ag:gm (q*z) b l aZ)(U:fa lt (q*z) b aZ):oQ lt z 0 b aZ:=by
 intro i j x y hi lS af aQ ab aG;by_cases R3:j<q*z
 ·rw[ag.out _ (.inl (by omega))]at ab;rw[ag.out _ (.inl R3)]at aG;exact h i j x y hi lS R3 aQ ab aG
 ·have ao:q≤j/z:=(Nat.le_div_iff_mul_le br).2 (by omega);have a8:q*z≤i:=(Nat.le_div_iff_mul_le br).1 (by omega);exact U i j x y a8 lS af ab aG
theorem oQ.srt{z q:Nat}(br:0<z){l:List α}{a b:Nat}(h:oQ lt z a b l){c:Nat}(aor:a≤q*z)(ay:c≤(q+1)*z)(aot:c≤b):fa lt (q*z) c l:=by intro i j x y hi lS af ab aG;have hv:i/z=q:=Nat.div_eq_of_lt_le hi (by omega);have pJ:j/z=q:=Nat.div_eq_of_lt_le (by omega) (by omega);exact h i j x y (by omega) lS (by omega) (by omega) ab aG
theorem oQ.after{z a b bm bO:Nat}{l aZ:List α}(h:oQ lt z a b l)(ag:gm a bm l aZ)(bE:a≤bm)(ae:bO≤b):oQ lt z bm bO aZ:=by intro i j x y hi lS af aQ ab aG;rw[ag.out _ (.inr (by omega))]at ab;rw[ag.out _ (.inr (by omega))]at aG;exact h i j x y (by omega) lS (by omega) aQ ab aG
theorem I5(H:e1 S n g b6 lc b2 lt)(bC:qa lt)(l:List α)(au:l.length=n):
  bN al 199 [eV g b6 lc b2,.int .i64 n] (S l) fun r ai=>r= .tuple []∧∃aZ,ai=S aZ∧gm 0 n l aZ∧fa lt 0 n aZ:=by
 have ag:=H.ok l;have aw:∀l m,Pv.look (.loc m) (S l).b=none:=fun l=>(H.ok l).obj.1;have hu:∀l m cs,cw (.loc m) cs (S l).b=(S l).b++[(.loc m,cs)]:=fun l m cs=>jT (aw l m);have av:∀m,aH.loc m∉cQ (S l):=jO ag.obj;have hle:=H.le;refine bN.mk mixed AB abR aij (by simp) ag.obj fun aP cP=>?_;unfold Pp;simp[eV,hu,av,cH,aw];refine n2 (fun(x:Nat×List α)=>⟨[(1,.int .i64 n),(2,.ptr (.loc 0) 0),(4,.int .i64 20),(5,.int .i64 (x.1*20)),(6,.int .i64 (x.1*20+20))],(.loc 0,[.func g lc,.func b6 b2])::(S x.2).b,(S x.2).e,1,cQ (S l)⟩) (fun x=>n+20-x.1*20)
  (fun x=>x.2.length=n∧x.1*20≤n∧gm 0 n l x.2∧oQ lt 20 0 (x.1*20) x.2) (0,l)
  (H.weak au au (by simp[aC]) (by simp[cH,aw]) aR aR) ⟨au,by simp,.refl _,fun i j x y J U ao=>by simp at ao⟩ ?_
 rintro⟨q,lk⟩ ⟨J,U,ao,a8⟩ _;simp only at J U ao a8;simp[Pv.look];((with_reducible repeat' first|refine aj ?_|simp[Pv.look]|((first|apply bM|apply bR|apply bQ)<;>intro h<;>try simp at h))<;>(try exact ch))
 ·have ak:((q:Int)*20)=(q*20:Nat):=by omega
  have aB:((q:Int)*20+20)=(q*20+20:Nat):=by omega
  simp only[h6 H,H.slc,H.ssc,h1,aB];simp only[ak];refine H.doFn J (Ri H bC lk J (q*20) (q*20+20) (by omega) (by omega)) (fun aZ h=>by rw[h.1.length];exact J) (by simp[aJ,aC,H.kdata J]) ?_;rintro aZ ⟨cN,dq⟩;have ss:aZ.length=n:=by rw[cN.length];exact J
  simp;((with_reducible repeat' first|refine aj ?_|simp|((first|apply bM|apply bR|apply bQ)<;>intro h<;>try simp at h))<;>(try exact ch));refine bP.whl (q+1,aZ) (by simp;omega) ⟨ss,by simp;omega,ao.trans (cN.mono (by omega) (by omega)),?_⟩ (H.weakC au ss (by simp[aC];omega));have:=a8.snoc (by omega) cN dq;rwa[show q*20+20=(q+1)*20 by omega]at this
 ·have ak:((q:Int)*20)=(q*20:Nat):=by omega
  simp only[h6 H,H.slc,H.ssc,h1,ak];refine H.doFn J (Ri H bC lk J (q*20) n (by omega) (by omega)) (fun aZ h=>by rw[h.1.length];exact J) (by simp[aJ,aC,H.kdata J]) ?_;rintro aZ ⟨cN,dq⟩;have ss:aZ.length=n:=by rw[cN.length];exact J
  have fy:=a8.snoc (by omega) cN dq;simp;refine n2 (fun(x:Nat×List α)=>⟨[(1,.int .i64 n),(2,.ptr (.loc 0) 0),(4,.int .i64 x.1)],(.loc 0,[.func g lc,.func b6 b2])::(S x.2).b,(S x.2).e,1,cQ (S l)⟩) (fun x=>1099511627776-x.1)
   (fun x=>x.2.length=n∧20≤x.1∧x.1≤2*n+20∧gm 0 n l x.2∧oQ lt x.1 0 n x.2) (20,aZ)
   (H.weakC au ss (by simp[aC])) ⟨ss,by simp,by simp,ao.trans (cN.mono (by omega) (by omega)),fy⟩ ?_
  rintro⟨z,TV⟩ ⟨kP,z2,z3,z4,z5⟩ _;simp only at kP z2 z3 z4 z5;simp[Pv.look];((with_reducible repeat' first|refine aj ?_|simp[Pv.look]|((first|apply bM|apply bR|apply bQ)<;>intro h<;>try simp at h))<;>(try exact ch))
  ·refine n2 (fun(x:Nat×List α)=>⟨[(1,.int .i64 n),(2,.ptr (.loc 0) 0),(4,.int .i64 z),(5,.int .i64 (x.1*(2*z):Nat)),(6,.int .i64 (x.1*(2*z)+2*z:Nat))],(.loc 0,[.func g lc,.func b6 b2])::(S x.2).b,(S x.2).e,1,cQ (S l)⟩) (fun x=>n+2*z-x.1*(2*z))
    (fun x=>x.2.length=n∧x.1*(2*z)≤n∧gm 0 n l x.2∧oQ lt (2*z) 0 (x.1*(2*z)) x.2∧oQ lt z (x.1*(2*z)) n x.2) (0,TV)
    (H.weakC au kP (by simp[aC])) ⟨kP,by simp,z4,fun i j x y J U ao=>by simp at ao,by simpa using z5⟩ ?_
   rintro⟨p,Cl⟩ ⟨eI,du,oM,mA,Dn⟩ _;simp only at eI du oM mA Dn;obtain⟨A,bg⟩:∃A,A=p*(2*z):=⟨_,rfl⟩;have Ez:A=(2*p)*z:=by rw[bg,Nat.mul_comm 2 p,Nat.mul_assoc]
   have I9:(2*p+1)*z=A+z:=by rw[pw,←Ez,Nat.one_mul]
   have adu:(2*p+2)*z=A+2*z:=by rw[pw,←Ez]
   have yV:(p+1)*(2*z)=A+2*z:=by rw[pw,←bg,Nat.one_mul]
   have kn:∀c,c≤A+z→c≤n→fa lt A c Cl:=fun c ay y1=>by have:=oQ.srt (q:=2*p) (by omega) Dn (c:=c) (by rw[←Ez,bg];omega) (by rw[I9];exact ay) y1;rwa[←Ez]at this
   have o9:∀c,c≤A+2*z→c≤n→fa lt (A+z) c Cl:=fun c ay y1=>by have:=oQ.srt (q:=2*p+1) (by omega) Dn (c:=c) (by rw[I9,bg];omega) (by rw[adu];exact ay) y1;rwa[I9]at this
   rw[←bg]at du mA Dn;simp only[←bg];simp[Pv.look];((with_reducible repeat' first|refine aj ?_|simp[Pv.look]|((first|apply bM|apply bR|apply bQ)<;>intro h<;>try simp at h))<;>(try exact ch))
   ·have bf:((A:Int)+z)=(A+z:Nat):=by omega
    have dd:((A:Int)+2*z)=(A+2*z:Nat):=by omega
    simp only[h6 H,H.slc,H.ssc,h1,bf,dd];refine H.doFn eI (Rp H bC (A+2*z-A) Cl A (A+z) (A+2*z) eI (by omega) (by omega) (by omega) (by omega) (kn _ (by omega) (by omega)) (o9 _ (by omega) (by omega))) (fun aZ h=>by rw[h.1.length];exact eI) (by simp[aJ,aC,H.kdata eI]) ?_;rintro gL ⟨ky,oN⟩;have oc:gL.length=n:=by rw[ky.length];exact eI
    simp;(with_reducible repeat' first|refine aj ?_|simp);refine bP.whl (p+1,gL) (by simp only[yV,←bg];omega) ⟨oc,by simp only[yV];omega,oM.trans (ky.mono (by omega) (by omega)),?_,?_⟩ ?_
    ·simp only[yV];rw[bg]at mA ky oN;have:=mA.snoc (by omega) ky oN;rwa[←bg]at this
    ·simp only[yV];exact Dn.after ky (by omega) (by omega)
    ·simp only[yV];have adv:((p:Int)+1)*(2*(z:Int))=(A:Int)+2*z:=by have h:=e7 (Nat.cast:Nat→Int) yV;push_cast at h;exact h
     exact H.weakC au oc (by simp[aC,adv])
   ·have bf:((A:Int)+z)=(A+z:Nat):=by omega
    simp only[h6 H,H.slc,H.ssc,h1,bf];refine H.doFn eI (Rp H bC (n-A) Cl A (A+z) n eI (by omega) (by omega) (by omega) (by omega) (kn _ (by omega) (by omega)) (o9 _ (by omega) (by omega))) (fun aZ h=>by rw[h.1.length];exact eI) (by simp[aJ,aC,H.kdata eI]) ?_;rintro gL ⟨ky,oN⟩;have oc:gL.length=n:=by rw[ky.length];exact eI
    simp;((with_reducible repeat' first|refine aj ?_|simp|((first|apply bM|apply bR|apply bQ)<;>intro h<;>try simp at h))<;>(try exact ch));refine bP.whl (2*z,gL) (by simp;omega) ⟨oc,by simp;omega,by simp;omega,oM.trans (ky.mono (by omega) (by omega)),?_⟩ (H.weakC au oc (by simp[aC];omega));rw[bg]at mA ky oN;exact mA.snoc (by omega) ky oN
   ·refine bP.whl (2*z,Cl) (by simp;omega) ⟨eI,by simp;omega,by simp;omega,oM,?_⟩ (H.weakC au eI (by simp[aC];omega));have bZ:=kn n (by omega) (by omega);rw[bg]at mA bZ;exact mA.snoc (by omega) (.refl _) bZ
  ·refine H.ret au kP (.inr rfl) ?_;refine⟨rfl,TV,rfl,z4,fun i j x y J U ao=>z5 i j x y J U ao ?_⟩;rw[Nat.div_eq_of_lt (by omega),Nat.div_eq_of_lt (by omega)]
end Go.Proofs.YtahlgcidhnjlbaaGreat
namespace Go.Proofs.YtahlgcidhnjlbaaGreat
open Go Go.Pv Go.Sort Go.RowKit
theorem aeI{w:World}{base:Nat}{e:fT}{sz:Nat}{v:Value}{n:Nat}{us:List Value}(h:w.ownsRow base e sz v n us)(aK:v≠ .slice none 0 0):
  ∃g cap,v= .slice (some ⟨g,0,none⟩) n cap∧g<w.heap.size∧cap≤maxLen∧n≤cap∧us.length=n*sz∧Holds id w g 0 us.toArray:=by
 rcases h.2 with⟨fl,_⟩|⟨g,cap,cur,rfl,ae,a1,aw,hm,ag,aN⟩
 ·exact absurd fl aK
 ·have bC:g<w.heap.size:=by
   rcases Nat.lt_or_ge g w.heap.size with cr|cr
   ·exact cr
   ·rw[Array.getElem?_eq_none cr]at a1;cases a1
  refine⟨g,cap,rfl,bC,hm,aw,h.1,fun j af=>?_⟩;have jh:j<us.length:=by simpa using af
  have au:=h.1;refine⟨?_,by simp[World.frozen?,a1]⟩;have ak:(cur.toList.take (n*sz))[j]? =us[j]?:=by rw[aN]
  rw[List.getElem?_take,if_pos (by omega),ta,cf jh]at ak;simp only[World.cell?,a1,Nat.zero_add];simp only[jW,gP,if_false];rw[ak];simp[getElem!_pos,jh]
theorem aiW{w:World}{base:Nat}{e:fT}{sz g n cap q:Nat}{us:List Value}{F:Array Value}(h:w.ownsRow base e sz (.slice (some ⟨g,0,none⟩) n cap) n us)(gg:F.size=n*sz):
  (putRow id (Sort.ahead w q) g 0 F).ownsRow base e sz (.slice (some ⟨g,0,none⟩) n cap) n F.toList:=by
 rcases h.2 with⟨fl,_⟩|⟨e3,D6,cur,fl,ae,a1,aw,hm,ag,aN⟩
 ·cases fl
 ·injection fl with ak _ bf;injection ak with ak;injection ak with ak;subst ak;subst bf;refine⟨by simpa using gg,.inr ⟨g,cap,putCells id 0 F cur,rfl,ae,?_,aw,hm,by simpa[putCells]using ag,?_⟩⟩
  ·simp[putRow,mapBlock,Sort.ahead,Array.getElem?_modify,a1,onCells]
  ·have hle:n*sz≤cur.size:=by rw[ag];exact Nat.mul_le_mul_right _ aw
   apply List.ext_getElem?;intro j;rw[List.getElem?_take,ta,ta];by_cases af:j<n*sz
   ·have aed:j<cur.size:=by omega
    simp only[if_pos af,putCells,Array.getElem?_mapIdx,Array.getElem?_eq_getElem aed,nQ];rw[if_pos (by omega)];simp[getElem!_pos,show j<F.size by omega]
   ·simp[af];omega
end Go.Proofs.YtahlgcidhnjlbaaGreat
namespace Go.Pv
open Go Go.RowKit Go.Lib Go.Sort Go.Proofs.YtahlgcidhnjlbaaGreat
theorem Tp{S:aH→Prop}:∀{l:List ah},aJ S l↔∀x∈l,aC S x
 |[]=>by simp[aJ]
 |x::r=>by simp only[aJ,Tp (l:=r),fU,forall_eq_or_imp]
theorem Th{α:Type}{s:cI}{l:List (aH×α)}:lZ s l↔∀k,(look k l).isSome→inObs s k:=by
 refine⟨fun h k ad=>zy h k ad,fun h=>?_⟩;have:∀aZ:List (aH×α),(∀x∈aZ,inObs s x.1)→lZ s aZ:=by
  intro aZ;induction aZ with
  |nil=>intro _;trivial
  |cons x r bS=>obtain⟨k,x⟩:=x;exact fun h=>⟨h (k,x) (by simp),bS fun y aG=>h y (by simp[aG])⟩
 exact this l fun x ab=>h x.1 (ud (x:=x.2) ab)
theorem LV{w:World}{ν:bc}{sz:Nat}:∀{xs:List ah} {us:List Value} {i:Nat} {p:ah},dA w ν sz xs us→xs[i]? =some p→∃u,(us.drop (i*sz)).take sz=u.cells.toList∧a7 w ν p u∧u.cells.size=sz∧∀c∈u.cells.toList,c.oneCell'=true
 |[],_,_,_,_,bI=>by simp at bI
 |x::xs,us,0,p,h,bI=>by simp only[dA]at h;obtain⟨u,ca,rfl,⟨J,U,ao⟩,_⟩:=h;simp at bI;subst bI;refine⟨u,?_,J,U,ao⟩;simp only[Nat.zero_mul,List.drop_zero];rw[List.take_append_of_le_length (by simp[U])];exact hn (by simp[U])
 |x::xs,us,i+1,p,h,bI=>by simp only[dA]at h;obtain⟨u,ca,rfl,⟨J,U,ao⟩,bZ⟩:=h;obtain⟨v,ak,aB⟩:=LV (i:=i) bZ (by simpa using bI);refine⟨v,?_,aB⟩;rw[←ak,Nat.succ_mul,Nat.add_comm,←List.drop_drop];congr 2;rw[List.drop_append_of_le_length (by simp[U]),List.drop_of_length_le (by simp[U])];rfl
theorem Mc:∀(ba:List Value) (s:Nat) (F:Array Value),s+ba.length≤F.size→(setMany F s ba).toList=F.toList.take s++ba++F.toList.drop (s+ba.length)
 |[],s,F,h=>by simp[setMany]
 |v::r,s,F,h=>by
  simp only[p8]at h;rw[setMany,Mc r (s+1) _ (by simp;omega)];have bC:s<F.toList.length:=by simp;omega
  have ak:(F.setIfInBounds s v).toList=F.toList.set s v:=by simp
  rw[ak];have aB:(F.toList.set s v).take (s+1)=F.toList.take s++[v]:=by rw[List.take_succ,List.getElem?_set_self bC,List.take_set_of_le (eR _)];simp
  have bf:(F.toList.set s v).drop (s+1+r.length)=F.toList.drop (s+(v::r).length):=by rw[List.drop_set_of_lt (by omega)];congr 1;simp;omega
  rw[aB,bf];simp
theorem X9(w:World):Sort.ahead w 0=w:=by simp[Sort.ahead]
theorem Ro{P:cB}(wV:Bool)(b6:Nat)(ab:∀args W,(callFunc b6 args).run P W=((Du wV args).run P W).andThen fun v w'=>.ok (.value v) w')(e:fT)(en:TypeInfo)(sq:P.info? e=some en)(wZ:(∀w,(Go.isAgg e).run P w= .ok true w)∨(en.size=1∧∀w,(Go.isAgg e).run P w= .ok false w)){s:cI}(ag:ea s){K n el sz:Nat}(ef:en.size=sz){xs:List ah}(ad:look (.obj K) s.e=some ⟨n,el,sz,some xs⟩)
  (i j:Nat) (hi:i<n) (af:j<n):bN P b6 [.int .i64 i,.int .i64 j,.row sz (.obj K) n,.cst (typeHandle P e)] s fun r ai=>r= .tuple []∧ai=⟨s.b,cw (.obj K) ⟨n,el,sz,some (gX xs i j)⟩ s.e⟩:=by
 subst ef;refine bN.sem ag.obj fun w ν ba ko aL=>?_;right;have s0:=aL.slot 0;have s1:=aL.slot 1;have s2:=aL.slot 2;have s3:=aL.slot 3;simp[jF,get,a7]at s0 s1 s2 s3;obtain⟨v,us,a6,bz,bU,cT⟩:=aL.good.own (.obj K) _ ad;obtain⟨c8,nF,uq⟩:=cT _ rfl;simp only at c8 nF a6 bz;obtain⟨⟨g0,YD,va⟩,_,n',e6,ak,aB,bf⟩:=s2;rw[a6]at ak;simp only[dG,jm]at ak;obtain⟨rfl,rfl⟩:=ak;have aK:=bf rfl;have cF:v≠ .slice none 0 0:=by rw[←aK,va];simp
 obtain⟨g,cap,rfl,qs,rb,ad4,BF,Bu⟩:=aeI bz cF;have ae7:ba= #[.int .i64 i,.int .i64 j,.slice (some ⟨g,0,none⟩) n cap,typeHandle P e]:=by
  have J:ba.size=4:=by simpa using ko
  apply Array.ext (by simpa using J);intro t U ao;simp at ao;rcases(by omega:t=0∨t=1∨t=2∨t=3)with rfl|rfl|rfl|rfl
  ·simpa[Array.getD,J]using s0
  ·simpa[Array.getD,J]using s1
  ·simpa[Array.getD,J]using aK
  ·simpa[Array.getD,J]using s3
 subst ae7;obtain⟨p,bI⟩:∃p,xs[i]? =some p:=⟨_,cf (by omega)⟩;obtain⟨q,bn⟩:∃q,xs[j]? =some q:=⟨_,cf (by omega)⟩;obtain⟨u,h7,iL,p1,yd⟩:=LV nF bI;obtain⟨x,rU,yg,rV,He⟩:=LV nF bn;have Sf:i*en.size+en.size≤n*en.size:=by have:=Nat.mul_le_mul_right en.size (show i+1≤n from hi);rwa[pw,Nat.one_mul]at this
 have Sg:j*en.size+en.size≤n*en.size:=by have:=Nat.mul_le_mul_right en.size (show j+1≤n from af);rwa[pw,Nat.one_mul]at this
 have cell:∀t v,us[t]? =some v→w.cell? ⟨g,t,none⟩=some v:=fun t v aN=>by obtain⟨J,U⟩:=fN.1 aN;have:=(Bu t (by simpa using J)).1;simp at this;rw[this];simp[getElem!_pos,J,U]
 have Es:∀t,t<n*en.size→w.frozen? ⟨g,t,none⟩=false:=fun t aN=>by have:=(Bu t (by simpa[BF]using aN)).2;simpa using this
 have run:(Du wV #[.int .i64 i,.int .i64 j,.slice (some ⟨g,0,none⟩) n cap,typeHandle P e]).run P w= .ok (.tuple #[]) ((w.setCells g (0+i*en.size) x.cells.toList).setCells g (0+j*en.size) u.cells.toList):=by
  rcases wZ with wZ|⟨Ex,wZ⟩
  ·exact run_swap_cells (P:=P) wV e en sq wZ g 0 n cap i j hi af u.cells.toList x.cells.toList (by simp[p1]) (by simp[rV]) yd He w
     (fun k v aK=>by
      rw[←h7,List.getElem?_take]at aK;split at aK
      ·rw[List.getElem?_drop]at aK;simpa using cell _ _ aK
      ·cases aK)
     (fun k v aK=>by
      rw[←rU,List.getElem?_take]at aK;split at aK
      ·rw[List.getElem?_drop]at aK;simpa using cell _ _ aK
      ·cases aK)
     (fun k ad=>by simpa using Es (i*en.size+k) (by omega)) (fun k ad=>by simpa using Es (j*en.size+k) (by omega))
  ·rw[Ex]at h7 p1 rU rV⊢;obtain⟨Ea,Ji⟩:∃c,u.cells.toList=[c]:=List.length_eq_one_iff.1 (by simpa using p1);obtain⟨oX,lq⟩:∃c,x.cells.toList=[c]:=List.length_eq_one_iff.1 (by simpa using rV);rw[Ji]at h7 yd⊢;rw[lq]at rU He⊢;simp only[World.setCells,Nat.mul_one]at h7 rU⊢;have Rr:us[i]? =some Ea:=by have:=e7 (·[0]?) h7;simpa using this
   have Rt:us[j]? =some oX:=by have:=e7 (·[0]?) rU;simpa using this
   have:=run_swap_one (P:=P) wV e en sq Ex wZ g 0 n cap i j hi af Ea oX (yd Ea (by simp)) (He oX (by simp)) w (by simpa using cell i Ea Rr) (by simpa using cell j oX Rt) (by simpa using Es i (by rw[Ex];omega)) (by simpa using Es j (by rw[Ex];omega));simpa using this
 have ae9:putRow id w g 0 us.toArray=w:=putRow_self id w g 0 _ Bu;have ae0:us.toArray.size=n*en.size:=by simpa using BF
 have E5:w.setCells g (0+i*en.size) x.cells.toList=putRow id w g 0 (setMany us.toArray (i*en.size) x.cells.toList):=by have J:=setCells_putRow w g 0 x.cells.toList (i*en.size) us.toArray (by simp[rV,BF];exact Sf);rw[ae9]at J;exact J
 obtain⟨hY,mO⟩:∃hY,hY=setMany us.toArray (i*en.size) x.cells.toList:=⟨_,rfl⟩;have adA:hY.toList=us.take (i*en.size)++x.cells.toList++us.drop (i*en.size+en.size):=by rw[mO,Mc _ _ _ (by simp[rV,BF];exact Sf)];simp[rV]
 have Jb:hY.size=n*en.size:=by rw[mO,size_setMany];exact ae0
 have oo:(w.setCells g (0+i*en.size) x.cells.toList).setCells g (0+j*en.size) u.cells.toList=putRow id w g 0 (setMany hY (j*en.size) u.cells.toList):=by rw[E5,←mO,setCells_putRow w g 0 u.cells.toList (j*en.size) hY (by simp[p1,Jb];exact Sg)]
 obtain⟨h9,Bt⟩:∃h9,h9=setMany hY (j*en.size) u.cells.toList:=⟨_,rfl⟩;have adB:h9.toList=hY.toList.take (j*en.size)++u.cells.toList++hY.toList.drop (j*en.size+en.size):=by rw[Bt,Mc _ _ _ (by simp[p1,Jb];exact Sg)];simp[p1]
 have adC:h9.size=n*en.size:=by rw[Bt,size_setMany];exact Jb
 have dI:=Gv nF bI yg rV He;rw[←adA]at dI;have eZ:=Gv (i:=j) (q:=q) dI (by rw[List.getElem?_set];split;(rename_i e;subst e;rw[if_pos (by omega)]);exact bn) iL p1 yd;rw[←adB]at eZ;have BZ:(xs.set i q).set j p=gX xs i j:=by simp[gX,bI,bn]
 rw[BZ]at eZ;have hlen:(gX xs i j).length=n:=by simpa using c8
 have ls:=aiW (q:=0) (F:=h9) bz adC;rw[X9]at ls;obtain⟨ky,oN,_⟩:=aL.setRowM (w':=putRow id w g 0 h9) ad rfl a6 (bl:=g) rfl (v':= .slice (some ⟨g,0,none⟩) n cap) rfl (xs':=gX xs i j) (us:=h9.toList) (.inl ⟨hlen,rfl⟩) rfl rfl rfl
  (fun t aN=>by simp[putRow,mapBlock,Array.getElem?_modify,kR aN]) (by simp[putRow,mapBlock]) (by rw[hlen];exact ls) eZ
 refine⟨.tuple #[],putRow id w g 0 h9,?_,?_⟩
 ·rw[ab,run,oo,←Bt];rfl
 ·have jg:∀k,inObs ⟨s.b,cw (.obj K) ⟨n,el,en.size,some (gX xs i j)⟩ s.e⟩ k↔inObs s k:=fun k=>by
   unfold inObs;simp only[iI];by_cases c9:aH.obj K=k
   ·subst c9;simp[ad]
   ·simp[c9]
  refine⟨_,_,_,_,.tuple [],⟨s.b,cw (.obj K) ⟨n,el,en.size,some (gX xs i j)⟩ s.e⟩,rfl,ky,by simp[a7,cK],Th.2 fun k nA=>(jg k).2 (.inl nA),Th.2 fun k nA=>(jg k).2 (.inr nA),fun k cs ay=>⟨ay,(jg k).2 (.inl (by simp at ay;simp[ay])),jL (fun k h=>(jg k).2 h) _ (ag.kb k cs ay)⟩,fun k o av=>⟨by simpa[hlen]using av,?_,fun ys aG=>?_⟩,⟨ag.obj.1,fun m=>?_⟩,by simp[aC,aJ],rfl,rfl⟩
  ·exact(.inr (by simp at av;simp[av]))
  ·simp only[iI]at av;split at av
   ·cases av;simp only[dG]at aG;subst aG;have R8:=ag.ke _ _ ad xs rfl;refine jL (fun k h=>(jg k).2 h) _ ?_;rw[Tp]at R8⊢;exact fun z br=>R8 z ((TU xs i j).mem_iff.1 br)
   ·exact jL (fun k h=>(jg k).2 h) _ (ag.ke k o av ys aG)
  ·simp only[iI];simp[ag.obj.2 m]
theorem Rn{P:cB}(wV:Bool)(b6:Nat)(ab:∀args W,(callFunc b6 args).run P W=((Du wV args).run P W).andThen fun v w'=>.ok (.value v) w')(e:fT)(en:TypeInfo)(sq:P.info? e=some en)(wZ:∀w,(Go.isAgg e).run P w= .ok true w){s:cI}(ag:ea s){K n el sz:Nat}(ef:en.size=sz){xs:List ah}(ad:look (.obj K) s.e=some ⟨n,el,sz,some xs⟩)
  (i j:Nat) (hi:i<n) (af:j<n):bN P b6 [.int .i64 i,.int .i64 j,.row sz (.obj K) n,.cst (typeHandle P e)] s fun r ai=>r= .tuple []∧ai=⟨s.b,cw (.obj K) ⟨n,el,sz,some (gX xs i j)⟩ s.e⟩:=Ro wV b6 ab e en sq (.inl wZ) ag ef ad i j hi af
end Go.Pv
namespace Go.Proofs.YtahlgcidhnjlbaaGreat
open Go Go.RowKit Go.Lib Go.Sort Go.Pv
set_option maxRecDepth 100000 in
theorem akH(t e:fT)(i en:TypeInfo)(hi:al.info? t=some i)(aQ:i.desc= .slice e)(BT:al.packed t=false)(sq:al.info? e=some en)(ke:Nat)(tO:∀w,(XE e).run al w= .ok ke w)
  (p:Option Addr) (n c:Nat) (aw:n<4611686018427387904) (f:Nat) (aI:al.funcs.findIdx? (·.name== "internal/reflectlite" ++ ".Swapper$" ++toString (swapperK n en ke))=some f) (TQ:Fn) (Kn qD:Array Value) (w:World) (R:World→Prop)
  (bI:Calls al 199 #[.agg #[.func TQ Kn qD,.func (.func f) #[] (sliceBound al e en ke p n c)],.int .i64 n] ((w.alloc (.cells #[.slice p n c] t)).alloc (.cells #[typeHandle al t,.pointer (some ⟨w.heap.size,0,none⟩),.int .u64 151] 179)) fun e w'=>e= .returned (.tuple #[])∧R w'):
  Calls al 140 #[.iface t (.slice p n c),.func TQ Kn qD] w fun e w'=>e= .returned (.tuple #[])∧R w':=by
 have aK:=run_valueOf_slice (P:=al) t e i hi aQ p n c w;have ag:=fun w=>run_swapper_slice (P:=al) t e i en hi aQ sq ke tO p n c f aI w;have au:=fun a w bE=>run_valueLen_slice (P:=al) t e i hi aQ BT a p n c w bE;unfold sliceBound at bI;generalize (if swapperK n en ke≤2 then(#[]:Array Value)else #[.slice p n c,typeHandle al e])=B at ag bI;have ad8:al.globals.size=0:=by kernel_rfl
 simp only[typeHandle,ad8]at aK au bI;have Ee:∀args w,(callFunc 199 args).run al w= .ok (.enter 199 args) w:=enters_of Tryz.func199 (by kernel_rfl) rfl;go_enter Tryz.func140,Tryz.ntmps140;go_wp2;rw[run_callFunc_extern Tryz.func197 (by kernel_rfl) (by kernel_rfl) (by kernel_rfl) (e:=fun args=>am0 (args.getD 0 (.tuple #[]))) (by kernel_rfl),
  show Sem.run al ((fun args:Array Value=>am0 (args.getD 0 (.tuple #[]))) #[.iface t (.slice p n c)]) w=_ from aK]
 simp only[Result.andThen];rw[Oper.upon_value];go_wp2;rw[run_callFunc_extern Tryz.func198 (by kernel_rfl) (by kernel_rfl) (by kernel_rfl) (e:=asj "internal/reflectlite" (am1 "Swapper")) (by kernel_rfl),ag];simp only[Result.andThen];rw[Oper.upon_value];go_wp2;rw[run_callFunc_extern Tryz.func200 (by kernel_rfl) (by kernel_rfl) (by kernel_rfl) (e:=asm (am1 "reflectlite.Value.Len" 0) asl) (by kernel_rfl),
  au _ _ (by simp)]
 simp only[Result.andThen];rw[Oper.upon_value];go_wp2_with (go_at_fn 199;refine bI.mono ?_;rintro e w' ⟨rfl,bh⟩);go_end0;exact⟨rfl,bh⟩
theorem _root_.Go.Pv.Good.prMono{pr CN:Nat→Prop}{w:World}{ν:bc}{b:List (aH×List ah)}{e:List (aH×fF)}(h:Pv.Good pr w ν b e)(bI:∀bl,pr bl→fe ν ⟨b,e⟩ bl→CN bl):Pv.Good CN w ν b e:=by
 refine⟨h.alt,fun k cs ad=>?_,h.inj,fun g o a1=>?_,h.oinj,h.obx,h.one,h.otr⟩
 ·obtain⟨bl,us,el,f1,f2,f3⟩:=h.box k cs ad;exact⟨bl,us,el,f1,bI bl f2 (.inl ⟨k,by simp[ad],f1⟩),f3⟩
 ·obtain⟨v,us,f1,f2,f3,f4⟩:=h.own g o a1;exact⟨v,us,f1,f2,fun bl ae=>⟨bI bl (f3 bl ae).1 (.inr ⟨g,o.n,v,by simp[a1],f1,ae⟩),(f3 bl ae).2⟩,f4⟩
theorem Ru(w:World)(gy gv:Obj):w.grownBy ((w.alloc gy).alloc gv) none:=by
 have J:w.heap.size≤(w.alloc gy).heap.size:=by simp
 have U:(w.alloc gy).heap.size≤((w.alloc gy).alloc gv).heap.size:=by simp
 exact⟨rfl,rfl,rfl,jV J U,fun k ad _=>(Below.heap_alloc _ gv k (Nat.lt_of_lt_of_le ad J)).trans (Below.heap_alloc w gy k ad)⟩
def dM{α:Type}(e:α→ah)(K B el sz:Nat)(l:List α):cI:=⟨[(.obj B,[.row sz (.obj K) l.length])],[(.obj K,⟨l.length,el,sz,some (l.map e)⟩)]⟩
section
variable {α:Type} {e:α→ah} (he:∀S x,aC S (e x)) {K B el sz:Nat}
include he
theorem afS(S:aH→Prop)(l:List α):aJ S (l.map e):=by
 induction l with
 |nil=>simp[aJ]
 |cons x r bS=>simp only[gG,aJ];exact⟨he S x,bS⟩
theorem wC(l:List α):ea (dM e K B el sz l):=by unfold dM;refine ea.of ⟨by intro m;simp[Pv.look],by intro m;simp[Pv.look]⟩ (by simp[aJ,aC,inObs,Pv.look]) ?_;intro x ab xs hJ;simp at ab;subst ab;simp at hJ;subst hJ;exact afS he _ l
omit he in
theorem wD(l aZ:List α):Same (dM e K B el sz l) (dM e K B el sz aZ):=by
 refine⟨fun k=>?_,fun k=>?_⟩
 ·simp only[dM,Pv.look];split<;>rfl
 ·simp only[dM,Pv.look];split<;>rfl
theorem acO(t:fT)(i en:TypeInfo)(hi:al.info? t=some i)(aQ:i.desc= .slice el)(BT:al.packed t=false)(sq:al.info? el=some en)(ke:Nat)(tO:∀w,(XE el).run al w= .ok ke w)(si:∀n,2≤n→swapperK n en ke=9)
  (g:Nat) (lt:α→α→Bool) (bC:qa lt) (l:List α) (au:l.length≤68719476736)
  (xf:∀aZ:List α,aZ.length=l.length→∀(i j:Nat) x y,aZ[i]? =some x→aZ[j]? =some y→bN al g [.int .i64 i,.int .i64 j,.ptr (.obj B) 0] (dM e K B el sz aZ) fun r ai=>r= .bool (lt x y)∧ai=dM e K B el sz aZ)
  (zn:∀aZ:List α,aZ.length=l.length→∀i j:Nat,i<l.length→j<l.length→bN al 230 [.int .i64 i,.int .i64 j,.row sz (.obj K) l.length,.cst (typeHandle al el)] (dM e K B el sz aZ) fun r ai=>r= .tuple []∧ai=dM e K B el sz (gX aZ i j)):
  bN al 140 [.iface t (.row sz (.obj K) l.length),.func g [.ptr (.obj B) 0]] (dM e K B el sz l) fun r ai=>r= .tuple []∧∃aZ,ai=dM e K B el sz aZ∧aZ.Perm l∧aZ.Pairwise fun x y=>lt y x=false:=by
 have BC:al.funcs.findIdx? (·.name== "internal/reflectlite" ++ ".Swapper$" ++toString 1)=some 222:=by kernel_rfl
 have tJ:al.funcs.findIdx? (·.name== "internal/reflectlite" ++ ".Swapper$" ++toString 2)=some 223:=by kernel_rfl
 have Jn:al.funcs.findIdx? (·.name== "internal/reflectlite" ++ ".Swapper$" ++toString 9)=some 230:=by kernel_rfl
 have JR:∃f b2,al.funcs.findIdx? (·.name== "internal/reflectlite" ++ ".Swapper$" ++toString (swapperK l.length en ke))=some f∧(b2=(if swapperK l.length en ke≤2 then []else [ah.row sz (.obj K) l.length,.cst (typeHandle al el)]))∧
   bN al 199 [eV g f [.ptr (.obj B) 0] b2,.int .i64 l.length] (dM e K B el sz l) fun r ai=>r= .tuple []∧∃aZ,ai=dM e K B el sz aZ∧gm 0 l.length l aZ∧fa lt 0 l.length aZ:=by
  have eD:=fun aZ=>wC (K:=K) (B:=B) (el:=el) (sz:=sz) he aZ;rcases(by omega:l.length=0∨l.length=1∨2≤l.length)with bB|J|U
  ·refine⟨222,[],by rw[bB];exact BC,by rw[bB];rfl,I5 (lt:=lt) ⟨eD,fun jM gL _ _=>wD jM gL,fun aZ _=>by simp[aJ,aC,inObs,dM,Pv.look],fun aZ _=>by simp[aJ],by simp[dh,cR],rfl,au,fun aZ h=>xf aZ h,fun aZ _ U i j hi=>by omega⟩ bC l rfl⟩
  ·refine⟨223,[],by rw[J];exact tJ,by rw[J];rfl,I5 (lt:=lt) ⟨eD,fun jM gL _ _=>wD jM gL,fun aZ _=>by simp[aJ,aC,inObs,dM,Pv.look],fun aZ _=>by simp[aJ],by simp[dh,cR],rfl,au,fun aZ h=>xf aZ h,fun aZ _ U i j hi af=>by omega⟩ bC l rfl⟩
  ·refine⟨230,_,by rw[si _ U];exact Jn,rfl,?_⟩;rw[si _ U];simp only[show¬((9:Nat)≤2)from by decide,if_false];exact I5 (lt:=lt) ⟨eD,fun jM gL _ _=>wD jM gL,fun aZ _=>by simp[aJ,aC,inObs,dM,Pv.look],fun aZ _=>by simp[aJ,aC,inObs,dM,Pv.look],by simp[dh,cR],by simp[dh,cR],au,fun aZ h=>xf aZ h,fun aZ h _ i j hi af=>zn aZ h i j hi af⟩ bC l rfl
 obtain⟨f,b2,aI,JN,dc⟩:=JR;intro w ν ba a1 ab aL;have og:=cO.start (wC he l).obj a1 ab aL;have JI:=aL;simp only[cK,a7]at aL;obtain⟨v0,vs1,hv0,⟨u,rfl,⟨b,cap,rfl⟩,eT,n',e6,ak,aB,bf⟩,v1,vs2,hv1,⟨qD,rfl,qu⟩,rfl⟩:=aL;have ko:ba= #[.iface t (.slice (some ⟨b,0,none⟩) l.length cap),.func (.func g) #[] qD]:=by apply Array.ext';rw[hv0,hv1]
 subst ko;have qq:∃fn,al.funcs[(140:Nat)]? =some fn∧fn.body.isSome=true∧(fn.name== "runtime.NumGoroutine")=false:=⟨_,Tryz.func140,by kernel_rfl,by kernel_rfl⟩;refine .inl ⟨qq,?_⟩;obtain⟨du,oo⟩:∃du,du=(w.alloc (.cells #[.slice (some ⟨b,0,none⟩) l.length cap] t)).alloc (.cells #[typeHandle al t,.pointer (some ⟨w.heap.size,0,none⟩),.int .u64 151] 179):=⟨_,rfl⟩;have jK:w.grownBy du none:=by rw[oo];exact Ru _ _ _
 have JJ:=og.grown jK;have kI:ld w ν du ν:=⟨fun b o bg=>⟨bg,D7 jK (a1.alt b o bg)⟩,fun _ _ _ h=>h,fun _ n u _ h=>⟨n,u,h,.inl ⟨rfl,rfl⟩⟩,fun b o bg=>vZ (jK.block b (a1.alt b o bg) (by simp)),fun _ _ _ _ h=>h⟩;have rb:Pv.Good (fe ν (dM e K B el sz l)) du ν (dM e K B el sz l).b (dM e K B el sz l).e:=JJ.good.prMono fun bl _ h=>h;have kY:=Gz kI JI;simp only[cK]at kY;obtain⟨a0,Yk,sj,BV,bD,Yl,kW,aeQ,rfl⟩:=kY;simp at sj;obtain⟨rfl,rfl⟩:=sj;simp at kW;subst kW;have JM:a7 du ν (.row sz (.obj K) l.length) (.slice (some ⟨b,0,none⟩) l.length cap):=by simp only[a7]at BV;obtain⟨u,hu,h⟩:=BV;simp at hu;obtain⟨_,rfl⟩:=hu;simp only[a7];exact h
 have qv:cK du ν b2 (sliceBound al el en ke (some ⟨b,0,none⟩) l.length cap).toList:=by
  unfold sliceBound;rw[JN];split
  ·simp[cK]
  ·simp only[cK];exact⟨_,_,rfl,JM,_,_,rfl,by simp[a7],rfl⟩
 have tG:cK du ν [eV g f [.ptr (.obj B) 0] b2,.int .i64 l.length] (#[.agg #[.func (.func g) #[] qD,.func (.func f) #[] (sliceBound al el en ke (some ⟨b,0,none⟩) l.length cap)],.int .i64 l.length]:Array Value).toList:=by simp only[cK,eV];refine⟨_,_,rfl,?_,_,_,rfl,by simp[a7],rfl⟩;simp only[a7,cY];exact⟨_,rfl,_,_,rfl,⟨⟨qD,rfl,Gz kI qu⟩,rfl⟩,_,_,rfl,⟨⟨_,rfl,qv⟩,rfl⟩,rfl⟩
 have Jk:=dc du ν _ rb ab tG;have Ee:∀args w,(callFunc 199 args).run al w= .ok (.enter 199 args) w:=enters_of Tryz.func199 (by kernel_rfl) rfl;rcases Jk with⟨_,ay⟩|⟨v,w',ay,_⟩
 ·have Jx:=akH t el i en hi aQ BT sq ke tO (some ⟨b,0,none⟩) l.length cap (by omega) f aI (.func g) #[] qD w
   (fun w'=> ∃ai bk,(∃aZ,ai=dM e K B el sz aZ∧gm 0 l.length l aZ∧fa lt 0 l.length aZ)∧Pv.Good (fun bl=>fe ν (dM e K B el sz l) bl∨du.heap.size≤bl) w' bk ai.b ai.e∧n3 bk ai∧ij ai∧pA ⟨du,ν,fe ν (dM e K B el sz l),0,cQ (dM e K B el sz l)⟩ w' bk) (by
    rw[←oo];refine ay.mono ?_;rintro e w' ⟨v,r,ai,bk,rfl,⟨rfl,bn⟩,vn,a8,bZ,c7,ee⟩;simp only[a7,cK]at vn;obtain⟨us,rfl,qy⟩:=vn;have:us= #[]:=by apply Array.ext';simpa using qy
    subst this;exact⟨rfl,ai,bk,bn,a8,bZ,c7,ee⟩)
  refine Jx.mono ?_;rintro e w' ⟨rfl,ai,bk,⟨aZ,rfl,E3,zm⟩,a8,bZ,c7,ee⟩;refine⟨.tuple #[],.tuple [],_,bk,rfl,⟨rfl,aZ,rfl,E3.perm,?_⟩,by simp[a7,cK],a8.prMono fun bl h _=>?_,bZ,c7,⟨ee.os.trans jK.os,ee.tape.trans jK.tape,ee.output.trans jK.output,jV jK.size ee.size,fun k ad hm=>?_,fun b o bg=>?_,fun b o bg=>?_,ee.obj,ee.obn,ee.row,ee.obr,ee.trd,fun k j b ae=>⟨(ee.trb k j b ae).1.imp id (fun h=>jV jK.size h),(ee.trb k j b ae).2⟩,ee.trn,fun b o bg=>(ee.sh b o bg).trans (kI.sh b o bg)⟩⟩
  ·have xg:=E3.length;rw[←xg]at zm;exact zm.pairwise
  ·rcases h with h|h
   ·exact .inl h
   ·exact .inr (jV jK.size h)
  ·rw[ee.block k (Nat.lt_of_lt_of_le ad jK.size) hm];exact jK.block k ad (by simp)
  ·obtain⟨aS,bp⟩:=ee.keep b o bg;exact⟨aS,bp.trans (kI.A b o bg).2⟩
  ·rcases ee.fresh b o bg with h|h|h
   ·exact .inl h
   ·exact .inr (.inl h)
   ·exact .inr (.inr (jV jK.size h))
 ·rw[Ee]at ay;cases ay
end
end Go.Proofs.YtahlgcidhnjlbaaGreat
namespace Go.Proofs
open Go.Shelf
def Tryz.lays6_ren:Go.Shelf.Ren:=⟨fun|6=>182|10=>197|11=>198|12=>200|13=>213|14=>214|24=>236|25=>237|26=>231|27=>238|28=>239|29=>240|30=>241|31=>242|32=>243|33=>244|34=>252|35=>253|36=>254|37=>255|38=>256|39=>271|n=>n,fun|20=>20|26=>143|35=>179|0=>0|37=>181|3=>3|41=>192|44=>185|49=>206|51=>208|4=>4|54=>210|53=>209|58=>214|5=>5|9=>9|60=>222|64=>226|66=>235|67=>236|17=>17|32=>176|33=>177|82=>256|12=>12|75=>249|76=>250|77=>251|78=>252|79=>253|80=>254|n=>n,fun|n=>n⟩
theorem Tryz.lays6:Go.Proofs.LaysGg.n6 al Tryz.lays6_ren:={
 mixed:=by kernel_rfl
 f6:=Tryz.func182.trans (e7 some (by kernel_rfl))
 f10:=Tryz.func197.trans (e7 some (by kernel_rfl))
 f11:=Tryz.func198.trans (e7 some (by kernel_rfl))
 f12:=Tryz.func200.trans (e7 some (by kernel_rfl))
 f13:=Tryz.func213.trans (e7 some (by kernel_rfl))
 f14:=Tryz.func214.trans (e7 some (by kernel_rfl))
 f24:=Tryz.func236.trans (e7 some (by kernel_rfl))
 f25:=Tryz.func237.trans (e7 some (by kernel_rfl))
 f26:=Tryz.func231.trans (e7 some (by kernel_rfl))
 f27:=Tryz.func238.trans (e7 some (by kernel_rfl))
 f28:=Tryz.func239.trans (e7 some (by kernel_rfl))
 f29:=Tryz.func240.trans (e7 some (by kernel_rfl))
 f30:=Tryz.func241.trans (e7 some (by kernel_rfl))
 f31:=Tryz.func242.trans (e7 some (by kernel_rfl))
 f32:=Tryz.func243.trans (e7 some (by kernel_rfl))
 f33:=Tryz.func244.trans (e7 some (by kernel_rfl))
 f34:=Tryz.func252.trans (e7 some (by kernel_rfl))
 f35:=Tryz.func253.trans (e7 some (by kernel_rfl))
 f36:=Tryz.func254.trans (e7 some (by kernel_rfl))
 f37:=Tryz.func255.trans (e7 some (by kernel_rfl))
 f38:=Tryz.func256.trans (e7 some (by kernel_rfl))
 f39:=Tryz.func271.trans (e7 some (by kernel_rfl))
 t0:=Tryz.underlying0
 a0:=Tryz.isAgg0
 z0:=Tryz.sizeOf0
 v0:=Tryz.zeroValue0
 i0:=by kernel_rfl
 t3:=Tryz.underlying3
 a3:=Tryz.isAgg3
 z3:=Tryz.sizeOf3
 v3:=Tryz.zeroValue3
 i3:=by kernel_rfl
 t4:=Tryz.underlying4
 a4:=Tryz.isAgg4
 z4:=Tryz.sizeOf4
 v4:=Tryz.zeroValue4
 i4:=by kernel_rfl
 t5:=Tryz.underlying5
 a5:=Tryz.isAgg5
 z5:=Tryz.sizeOf5
 v5:=Tryz.zeroValue5
 i5:=by kernel_rfl
 t9:=Tryz.underlying9
 a9:=Tryz.isAgg9
 z9:=Tryz.sizeOf9
 v9:=Tryz.zeroValue9
 i9:=by kernel_rfl
 t12:=Tryz.underlying12
 a12:=Tryz.isAgg12
 z12:=Tryz.sizeOf12
 v12:=Tryz.zeroValue12
 i12:=by kernel_rfl
 t17:=Tryz.underlying17
 a17:=Tryz.isAgg17
 z17:=Tryz.sizeOf17
 v17:=Tryz.zeroValue17
 i17:=by kernel_rfl
 t20:=Tryz.underlying20
 a20:=Tryz.isAgg20
 z20:=Tryz.sizeOf20
 v20:=Tryz.zeroValue20
 i20:=by kernel_rfl
 t26:=Tryz.underlying143
 a26:=Tryz.isAgg143
 z26:=Tryz.sizeOf143
 v26:=Tryz.zeroValue143
 i26:=by kernel_rfl
 t32:=Tryz.underlying176
 a32:=Tryz.isAgg176
 z32:=Tryz.sizeOf176
 v32:=Tryz.zeroValue176
 i32:=by kernel_rfl
 t33:=Tryz.underlying177
 a33:=Tryz.isAgg177
 z33:=Tryz.sizeOf177
 v33:=Tryz.zeroValue177
 i33:=by kernel_rfl
 t35:=Tryz.underlying179
 a35:=Tryz.isAgg179
 z35:=Tryz.sizeOf179
 v35:=Tryz.zeroValue179
 i35:=by kernel_rfl
 t37:=Tryz.underlying181
 a37:=Tryz.isAgg181
 z37:=Tryz.sizeOf181
 v37:=Tryz.zeroValue181
 i37:=by kernel_rfl
 t41:=Tryz.underlying192
 a41:=Tryz.isAgg192
 z41:=Tryz.sizeOf192
 v41:=Tryz.zeroValue192
 i41:=by kernel_rfl
 t44:=Tryz.underlying185
 a44:=Tryz.isAgg185
 z44:=Tryz.sizeOf185
 v44:=Tryz.zeroValue185
 i44:=by kernel_rfl
 t49:=Tryz.underlying206
 a49:=Tryz.isAgg206
 z49:=Tryz.sizeOf206
 v49:=Tryz.zeroValue206
 i49:=by kernel_rfl
 t51:=Tryz.underlying208
 a51:=Tryz.isAgg208
 z51:=Tryz.sizeOf208
 v51:=Tryz.zeroValue208
 i51:=by kernel_rfl
 t53:=Tryz.underlying209
 a53:=Tryz.isAgg209
 z53:=Tryz.sizeOf209
 v53:=Tryz.zeroValue209
 i53:=by kernel_rfl
 t54:=Tryz.underlying210
 a54:=Tryz.isAgg210
 z54:=Tryz.sizeOf210
 v54:=Tryz.zeroValue210
 i54:=by kernel_rfl
 t58:=Tryz.underlying214
 a58:=Tryz.isAgg214
 z58:=Tryz.sizeOf214
 v58:=Tryz.zeroValue214
 i58:=by kernel_rfl
 t60:=Tryz.underlying222
 a60:=Tryz.isAgg222
 z60:=Tryz.sizeOf222
 v60:=Tryz.zeroValue222
 i60:=by kernel_rfl
 t64:=Tryz.underlying226
 a64:=Tryz.isAgg226
 z64:=Tryz.sizeOf226
 v64:=Tryz.zeroValue226
 i64:=by kernel_rfl
 t66:=Tryz.underlying235
 a66:=Tryz.isAgg235
 z66:=Tryz.sizeOf235
 v66:=Tryz.zeroValue235
 i66:=by kernel_rfl
 t67:=Tryz.underlying236
 a67:=Tryz.isAgg236
 z67:=Tryz.sizeOf236
 v67:=Tryz.zeroValue236
 i67:=by kernel_rfl
 t75:=Tryz.underlying249
 a75:=Tryz.isAgg249
 z75:=Tryz.sizeOf249
 v75:=Tryz.zeroValue249
 i75:=by kernel_rfl
 t76:=Tryz.underlying250
 a76:=Tryz.isAgg250
 z76:=Tryz.sizeOf250
 v76:=Tryz.zeroValue250
 i76:=by kernel_rfl
 t77:=Tryz.underlying251
 a77:=Tryz.isAgg251
 z77:=Tryz.sizeOf251
 v77:=Tryz.zeroValue251
 i77:=by kernel_rfl
 t78:=Tryz.underlying252
 a78:=Tryz.isAgg252
 z78:=Tryz.sizeOf252
 v78:=Tryz.zeroValue252
 i78:=by kernel_rfl
 t79:=Tryz.underlying253
 a79:=Tryz.isAgg253
 z79:=Tryz.sizeOf253
 v79:=Tryz.zeroValue253
 i79:=by kernel_rfl
 t80:=Tryz.underlying254
 a80:=Tryz.isAgg254
 z80:=Tryz.sizeOf254
 v80:=Tryz.zeroValue254
 i80:=by kernel_rfl
 t82:=Tryz.underlying256
 a82:=Tryz.isAgg256
 z82:=Tryz.sizeOf256
 v82:=Tryz.zeroValue256
 i82:=by kernel_rfl}
end Go.Proofs
namespace Go.Proofs.YtahlgcidhnjlbaaGreat
open Go Go.RowKit Go.Lib Go.Pv Go.Proofs
theorem Yt(n:Nat)(h:n<1099511627776):Lib.bitLen n≤1000:=by
 have:∀f x,bitLenAux f x≤f:=by
  intro f;induction f with
  |zero=>intro x;simp[bitLenAux]
  |succ f bS=>
   intro x;rw[bitLenAux];split
   ·omega
   ·have:=bS (x/2);omega
 have:=this 64 n;unfold Lib.bitLen;omega
theorem aiZ{α:Type}[Inhabited α]{lt:α→α→Bool}{l:List α}{b8:Array α}(h:Sort.PermIn 0 l.length l.toArray b8)(ag:Sort.SortedIn lt 0 l.length b8):b8.toList.Perm l∧b8.toList.Pairwise fun x y=>lt y x=false:=by
 obtain⟨kP,_,z3⟩:=h;have ef:b8.size=l.length:=by simpa using kP
 have ak:b8.extract 0 l.length=b8:=by rw[←ef];simp
 have aB:l.toArray.extract 0 l.length=l.toArray:=by simp
 rw[ak,aB]at z3;refine⟨by simpa using z3,?_⟩;rw[pt];intro i j hi af lS;have J:=ag i j (by omega) lS (by simpa[ef]using af);have sp:i<b8.size:=by simpa using hi
 have jh:j<b8.size:=by simpa using af
 rw[getElem!_pos b8 i sp,getElem!_pos b8 j jh]at J;simpa using J
section
variable {α:Type} {e:α→ah} (he:∀S x,aC S (e x)) {K B el sz:Nat}
include he
theorem Re[Inhabited α](Rz:K≠901∧K≠902)(Ry:B≠901∧B≠902)(t:fT)(i en:TypeInfo)(hi:al.info? t=some i)(aQ:i.desc= .slice el)(BT:al.packed t=false)(sq:al.info? el=some en)(ke:Nat)(tO:∀w,(XE el).run al w= .ok ke w)(si:∀n,2≤n→swapperK n en ke=9)
  (g:Nat) (lt:α→α→Bool) (bC:Sort.SWO lt) (l:List α) (au:l.length≤68719476736)
  (xf:∀aZ:List α,aZ.length=l.length→∀(i j:Nat) x y,aZ[i]? =some x→aZ[j]? =some y→bN al g [.int .i64 i,.int .i64 j,.ptr (.obj B) 0] (dM e K B el sz aZ) fun r ai=>r= .bool (lt x y)∧ai=dM e K B el sz aZ)
  (zn:∀aZ:List α,aZ.length=l.length→∀i j:Nat,i<l.length→j<l.length→bN al 230 [.int .i64 i,.int .i64 j,.row sz (.obj K) l.length,.cst (typeHandle al el)] (dM e K B el sz aZ) fun r ai=>r= .tuple []∧ai=dM e K B el sz (gX aZ i j)):
  bN al 182 [.iface t (.row sz (.obj K) l.length),.func g [.ptr (.obj B) 0]] (dM e K B el sz l) fun r ai=>r= .tuple []∧∃aZ,ai=dM e K B el sz aZ∧aZ.Perm l∧aZ.Pairwise fun x y=>lt y x=false:=by
 have BC:al.funcs.findIdx? (·.name== "internal/reflectlite" ++ ".Swapper$" ++toString 1)=some 222:=by kernel_rfl
 have tJ:al.funcs.findIdx? (·.name== "internal/reflectlite" ++ ".Swapper$" ++toString 2)=some 223:=by kernel_rfl
 have Jn:al.funcs.findIdx? (·.name== "internal/reflectlite" ++ ".Swapper$" ++toString 9)=some 230:=by kernel_rfl
 have xk:rE (dM e K B el sz) 901:=fun l=>⟨by simp[dM,Pv.look,Ry.1],by simp[dM,Pv.look,Rz.1]⟩;have xl:rE (dM e K B el sz) 902:=fun l=>⟨by simp[dM,Pv.look,Ry.2],by simp[dM,Pv.look,Rz.2]⟩;have fy:=Yt l.length (by omega);have JR:∃f b2,al.funcs.findIdx? (·.name== "internal/reflectlite" ++ ".Swapper$" ++toString (swapperK l.length en ke))=some f∧(b2=(if swapperK l.length en ke≤2 then []else [ah.row sz (.obj K) l.length,.cst (typeHandle al el)]))∧
   bN al 214 [eV g f [.ptr (.obj B) 0] b2,.int .i64 0,.int .i64 l.length,.int .i64 (Lib.bitLen l.length)] (dM e K B el sz l) fun r ai=>r= .tuple []∧∃aZ,ai=dM e K B el sz aZ∧aZ.Perm l∧aZ.Pairwise fun x y=>lt y x=false:=by
  have eD:=fun aZ=>wC (K:=K) (B:=B) (el:=el) (sz:=sz) he aZ;have key:∀{b6:Nat} {b2:List ah},e1 (dM e K B el sz) l.length g b6 [.ptr (.obj B) 0] b2 lt→bN al 214 [eV g b6 [.ptr (.obj B) 0] b2,.int .i64 0,.int .i64 l.length,.int .i64 (Lib.bitLen l.length)] (dM e K B el sz l) fun r ai=>r= .tuple []∧∃aZ,ai=dM e K B el sz aZ∧aZ.Perm l∧aZ.Pairwise fun x y=>lt y x=false:=by intro b6 b2 H;have:=ac4 H xk xl bC l.length l.toArray (by simp) 0 l.length (Lib.bitLen l.length) (by omega) (by omega) (eR _) (by omega) (.inl rfl);simp only[Int.ofNat_zero,Int.natCast_zero,Int.cast_ofNat_Int]at this;refine bN.mono this ?_;rintro r ai ⟨a6,b8,bz,bU,cT⟩;obtain⟨cN,dq⟩:=aiZ bU cT;exact⟨a6,b8.toList,bz,cN,dq⟩
  rcases(by omega:l.length=0∨l.length=1∨2≤l.length)with bB|J|U
  ·refine⟨222,[],by rw[bB];exact BC,by rw[bB];rfl,key ⟨eD,fun jM gL _ _=>wD jM gL,fun aZ _=>by simp[aJ,aC,inObs,dM,Pv.look],fun aZ _=>by simp[aJ],by simp[dh,cR],rfl,au,fun aZ h=>xf aZ h,fun aZ _ U i j hi=>by omega⟩⟩
  ·refine⟨223,[],by rw[J];exact tJ,by rw[J];rfl,key ⟨eD,fun jM gL _ _=>wD jM gL,fun aZ _=>by simp[aJ,aC,inObs,dM,Pv.look],fun aZ _=>by simp[aJ],by simp[dh,cR],rfl,au,fun aZ h=>xf aZ h,fun aZ _ U i j hi af=>by omega⟩⟩
  ·refine⟨230,_,by rw[si _ U];exact Jn,rfl,?_⟩;rw[si _ U];simp only[show¬((9:Nat)≤2)from by decide,if_false];exact key ⟨eD,fun jM gL _ _=>wD jM gL,fun aZ _=>by simp[aJ,aC,inObs,dM,Pv.look],fun aZ _=>by simp[aJ,aC,inObs,dM,Pv.look],by simp[dh,cR],by simp[dh,cR],au,fun aZ h=>xf aZ h,fun aZ h _ i j hi af=>zn aZ h i j hi af⟩
 obtain⟨f,b2,aI,JN,dc⟩:=JR;intro w ν ba a1 ab aL;have og:=cO.start (wC he l).obj a1 ab aL;have JI:=aL;simp only[cK,a7]at aL;obtain⟨v0,vs1,hv0,⟨u,rfl,⟨b,cap,rfl⟩,eT,n',e6,ak,aB,bf⟩,v1,vs2,hv1,⟨qD,rfl,qu⟩,rfl⟩:=aL;have ko:ba= #[.iface t (.slice (some ⟨b,0,none⟩) l.length cap),.func (.func g) #[] qD]:=by apply Array.ext';rw[hv0,hv1]
 subst ko;have qq:∃fn,al.funcs[(182:Nat)]? =some fn∧fn.body.isSome=true∧(fn.name== "runtime.NumGoroutine")=false:=⟨_,Tryz.func182,by kernel_rfl,by kernel_rfl⟩;refine .inl ⟨qq,?_⟩;obtain⟨du,oo⟩:∃du,du=sliceWorld al Tryz.lays6_ren t (some ⟨b,0,none⟩) l.length cap w:=⟨_,rfl⟩;have jK:w.grownBy du none:=by rw[oo];unfold sliceWorld;exact Ru _ _ _
 have JJ:=og.grown jK;have kI:ld w ν du ν:=⟨fun b o bg=>⟨bg,D7 jK (a1.alt b o bg)⟩,fun _ _ _ h=>h,fun _ n u _ h=>⟨n,u,h,.inl ⟨rfl,rfl⟩⟩,fun b o bg=>vZ (jK.block b (a1.alt b o bg) (by simp)),fun _ _ _ _ h=>h⟩;have rb:Pv.Good (fe ν (dM e K B el sz l)) du ν (dM e K B el sz l).b (dM e K B el sz l).e:=JJ.good.prMono fun bl _ h=>h;have kY:=Gz kI JI;simp only[cK]at kY;obtain⟨a0,Yk,sj,BV,bD,Yl,kW,aeQ,rfl⟩:=kY;simp at sj;obtain⟨rfl,rfl⟩:=sj;simp at kW;subst kW;have JM:a7 du ν (.row sz (.obj K) l.length) (.slice (some ⟨b,0,none⟩) l.length cap):=by simp only[a7]at BV;obtain⟨u,hu,h⟩:=BV;simp at hu;obtain⟨_,rfl⟩:=hu;simp only[a7];exact h
 have qv:cK du ν b2 (sliceBound al el en ke (some ⟨b,0,none⟩) l.length cap).toList:=by
  unfold sliceBound;rw[JN];split
  ·simp[cK]
  ·simp only[cK];exact⟨_,_,rfl,JM,_,_,rfl,by simp[a7],rfl⟩
 have tG:cK du ν [eV g f [.ptr (.obj B) 0] b2,.int .i64 0,.int .i64 l.length,.int .i64 (Lib.bitLen l.length)] (#[.agg #[.func (.func g) #[] qD,.func (.func f) #[] (sliceBound al el en ke (some ⟨b,0,none⟩) l.length cap)],.int .i64 0,.int .i64 l.length,.int .i64 (Lib.bitLen l.length)]:Array Value).toList:=by simp only[cK,eV];refine⟨_,_,rfl,?_,_,_,rfl,by simp[a7],_,_,rfl,by simp[a7],_,_,rfl,by simp[a7],rfl⟩;simp only[a7,cY];exact⟨_,rfl,_,_,rfl,⟨⟨qD,rfl,Gz kI qu⟩,rfl⟩,_,_,rfl,⟨⟨_,rfl,qv⟩,rfl⟩,rfl⟩
 have Jk:=dc du ν _ rb ab tG;have Ee:∀args w,(callFunc 214 args).run al w= .ok (.enter 214 args) w:=enters_of Tryz.func214 (by kernel_rfl) rfl;rcases Jk with⟨_,ay⟩|⟨v,w',ay,_⟩
 ·have Jx:=Any.sort_Slice_of_pdq Tryz.lays6 t el i en hi aQ BT sq ke tO (some ⟨b,0,none⟩) l.length cap (by omega) f aI (.func g) #[] qD w
   (fun w'=> ∃ai bk,(∃aZ,ai=dM e K B el sz aZ∧aZ.Perm l∧aZ.Pairwise fun x y=>lt y x=false)∧Pv.Good (fun bl=>fe ν (dM e K B el sz l) bl∨du.heap.size≤bl) w' bk ai.b ai.e∧n3 bk ai∧ij ai∧pA ⟨du,ν,fe ν (dM e K B el sz l),0,cQ (dM e K B el sz l)⟩ w' bk) (by
    rw[←oo];refine ay.mono ?_;rintro e w' ⟨v,r,ai,bk,rfl,⟨rfl,bn⟩,vn,a8,bZ,c7,ee⟩;simp only[a7,cK]at vn;obtain⟨us,rfl,qy⟩:=vn;have:us= #[]:=by apply Array.ext';simpa using qy
    subst this;exact⟨rfl,ai,bk,bn,a8,bZ,c7,ee⟩)
  refine Jx.mono ?_;rintro e w' ⟨rfl,ai,bk,⟨aZ,rfl,E3,zm⟩,a8,bZ,c7,ee⟩;refine⟨.tuple #[],.tuple [],_,bk,rfl,⟨rfl,aZ,rfl,E3,zm⟩,by simp[a7,cK],a8.prMono fun bl h _=>?_,bZ,c7,⟨ee.os.trans jK.os,ee.tape.trans jK.tape,ee.output.trans jK.output,jV jK.size ee.size,fun k ad hm=>?_,fun b o bg=>?_,fun b o bg=>?_,ee.obj,ee.obn,ee.row,ee.obr,ee.trd,fun k j b ae=>⟨(ee.trb k j b ae).1.imp id (fun h=>jV jK.size h),(ee.trb k j b ae).2⟩,ee.trn,fun b o bg=>(ee.sh b o bg).trans (kI.sh b o bg)⟩⟩
  ·rcases h with h|h
   ·exact .inl h
   ·exact .inr (jV jK.size h)
  ·rw[ee.block k (Nat.lt_of_lt_of_le ad jK.size) hm];exact jK.block k ad (by simp)
  ·obtain⟨aS,bp⟩:=ee.keep b o bg;exact⟨aS,bp.trans (kI.A b o bg).2⟩
  ·rcases ee.fresh b o bg with h|h|h
   ·exact .inl h
   ·exact .inr (.inl h)
   ·exact .inr (.inr (jV jK.size h))
 ·rw[Ee]at ay;cases ay
end
end Go.Proofs.YtahlgcidhnjlbaaGreat
namespace Go.Proofs.YtahlgcidhnjlbaaGreat
open Go Go.Pv Go.Lib
abbrev wB(l:List bj):cI:=dM bj.e 814 815 100 2 l
theorem Ui:∀(S:aH→Prop) (x:bj),aC S x.e:=fun S x=>by simp
theorem Ho(l:List bj):ea (wB l):=wC Ui l
theorem age:Sort.SWO (hB fc):=by
 refine⟨fun x=>?_,fun x y z J U=>?_,fun x y z J U=>?_⟩
 ·simp only[hB,hE];have:=lD.refl x;omega
 ·simp only[hB,fE]at*;exact lD.ltr J (by omega)
 ·simp only[hB,hE]at*;have ak:=lD.neg x y;have aB:=lD.neg y z;have bf:=lD.neg x z;have:=lD.tr z y x (by omega) (by omega);omega
theorem acJ(l:List bj)(i j:Nat)(x y:bj)(au:l.length≤68719476736)(hi:l[i]? =some x)(af:l[j]? =some y):bN al 185 [.int .i64 i,.int .i64 j,.ptr (.obj 815) 0] (wB l) fun r ai=>r= .bool (hB fc x y)∧ai=wB l:=by have ag:=Ho l;obtain⟨lR,hv⟩:=fN.1 hi;obtain⟨dW,pJ⟩:=fN.1 af;unfold wB dM at ag⊢;refine bN.mk mixed jR aax agZ (by simp) ag.obj fun aP cP=>?_;unfold N0;simp[lR,dW,hv,pJ];(with_reducible repeat' first|refine aj ?_|refine aD (AF _ _) ?_|refine aE (AF _ _) ?_|simp[lR,dW,hv,pJ]);refine cS.at _ (.inl rfl) ag (Same.refl _) aR aR ?_;simp[cZ,U3,aX,aY,aV]
noncomputable def Tryz.maT:TypeInfo:=(al.info? 49).get (by kernel_rfl)
noncomputable def Tryz.maE:TypeInfo:=(al.info? 100).get (by kernel_rfl)
theorem Tryz.maK(n:Nat)(U:2≤n):Lib.swapperK n Tryz.maE 25=9:=by
 have a:Tryz.maE.hasPointers=true:=by kernel_rfl
 have b:Tryz.maE.bytes=24:=by kernel_rfl
 have c:(n==0)=false:=by simp;omega
 have d:(n==1)=false:=by simp;omega
 simp[Lib.swapperK,a,b,c,d]
theorem TT{α β:Type}(f:α→β)(l:List α)(i j:Nat):(gX l i j).map f=gX (l.map f) i j:=by
 unfold gX;simp only[List.getElem?_map];cases l[i]? with
 |none=>simp
 |some x=>
  cases l[j]? with
  |none=>simp
  |some y=>simp[List.map_set]
theorem adi(l:List bj)(au:l.length≤68719476736):bN al 182 [.iface 49 (.row 2 (.obj 814) l.length),.func 185 [.ptr (.obj 815) 0]] (wB l) fun r ai=>r= .tuple []∧ai=wB (oC fc l):=by
 refine(Re Ui (K:=814) (B:=815) (sz:=2) (by decide) (by decide) 49 Tryz.maT Tryz.maE (by kernel_rfl) (by kernel_rfl) (by kernel_rfl) (by kernel_rfl) 25 (fun _=>by kernel_rfl) Tryz.maK 185 (hB fc) age l au (fun aZ h i j x y hi af=>acJ aZ i j x y (by omega) hi af) (fun aZ h i j hi af=>?_)).mono ?_
 ·have:=Rn (P:=al) false 230 (fun args W=>run_callFunc_extern Tryz.func230 (by kernel_rfl) (by kernel_rfl) (by kernel_rfl) (e:=Du false) (by kernel_rfl) args W)
   100 Tryz.maE (by kernel_rfl) (fun _=>by kernel_rfl) (Ho aZ) (K:=814) (n:=l.length) (el:=100) (sz:=2) (by kernel_rfl) (xs:=aZ.map bj.e) (by simp[dM,Pv.look,h]) i j hi af
  refine this.mono ?_;rintro r ai ⟨rfl,rfl⟩;refine⟨rfl,?_⟩;simp[dM,cw,TT,h]
 ·rintro r ai ⟨rfl,aZ,rfl,J,U⟩;exact⟨rfl,by rw[Wr lD J U]⟩
def nD(l:List bj):List ah:= .hdm l.length (List.range l.length)::l.flatMap fun m=>[m.e,.bool true]
def kT(m:bj)(l:List bj):List bj:=if m∈l then l else l++[m]
theorem afO(a b:bj):sE (.a [false,true]) a.e b.e=some (decide (a=b)):=by simp only[bj.e,sE,jZ,if_true,nQ];congr 1;rw[p5];cases a;cases b;simp
theorem afP(a:bj):tW (.a [false,true]) a.e=true:=by simp[bj.e,tW,jZ,-HB]
theorem Um(m:bj):∀l:List bj,uh (.a [false,true]) m.e (.bool true) (l.flatMap fun m=>[m.e,.bool true])=some (if m∈l then some (l.flatMap fun m=>[m.e,.bool true])else none)
 |[]=>rfl
 |a::l=>by
  simp only[List.flatMap_cons,bT,bY,uh,afO];by_cases h:m=a
  ·subst h;simp
  ·have cr:decide (m=a)=false:=by simp[h]
   rw[cr];simp only[Um m l];by_cases hm:m∈l
   ·simp[hm]
   ·simp[hm,h]
@[simp] theorem aqb(m:bj)(l:List bj):ov (.a [false,true]) m.e (.bool true) (nD l)=some (nD (kT m l)):=by
 simp only[nD,ov,afP,Bool.true_eq_false,reduceCtorEq,if_false,Um,kT];by_cases h:m∈l
 ·simp[h]
 ·simp[h,List.range_succ]
end Go.Proofs.YtahlgcidhnjlbaaGreat
namespace Go.Proofs.YtahlgcidhnjlbaaGreat
open Go Go.Pv
@[simp] theorem zC(S:aH→Prop)(l:List bj):aJ S (nD l)=True:=by
 refine eq_true ?_;unfold nD;have:∀l:List bj,aJ S (l.flatMap fun m=>[m.e,ah.bool true]):=fun l=>by
  induction l with
  |nil=>simp[aJ]
  |cons x r bS=>simp only[List.flatMap_cons,bT,bY,aJ,afT,aC,true_and];exact bS
 simp only[aJ,aC,true_and];exact this l
@[simp] theorem apT:[ah.hdm 0 []]=nD []:=rfl
def nU(tag:List dB)(l:List bj):cI:=⟨[(.obj 811,[.str tag]),(.obj 812,nD l),(.obj 813,[.gmap (.obj 812)])],[]⟩
theorem DB(tag:List dB)(l:List bj):ea (nU tag l):=by unfold nU;refine ea.of ⟨by intro m;simp[Pv.look],by intro m;simp[Pv.look]⟩ (by simp[aJ,aC,inObs,Pv.look]) (by simp)
theorem Hp(tag:List dB)(l aZ:List bj):Same (nU tag l) (nU tag aZ):=Same.keys (by simp[nU]) (by simp[nU])
theorem acI(tag:List dB)(v:Int)(l:List bj):bN al 184 [.int .i64 v,.ptr (.obj 813) 0,.ptr (.obj 811) 0] (nU tag l) fun r ai=>r= .tuple []∧ai=nU tag (kT ⟨v,tag⟩ l):=by have ag:=DB tag l;have gi:=DB tag (kT ⟨v,tag⟩ l);have e4:=Hp tag l (kT ⟨v,tag⟩ l);unfold nU at ag gi e4⊢;refine bN.mk mixed jR aaw agY (by simp) ag.obj fun aP cP=>?_;unfold NZ;simp;refine cS.at _ (.inr rfl) gi e4 aR aR ?_;simp[cZ,U2,aX,aY,aV]
end Go.Proofs.YtahlgcidhnjlbaaGreat
namespace Go.Proofs.YtahlgcidhnjlbaaGreat
open Go Go.Pv Go.Lib
abbrev uN(l:List bJ):cI:=dM bJ.e 803 804 98 2 l
theorem Te:∀(S:aH→Prop) (x:bJ),aC S x.e:=fun S x=>by simp
theorem Dz(l:List bJ):ea (uN l):=wC Te l
def vG(x y:bJ):Bool:=decide (x.v<y.v)
theorem agd:Sort.SWO vG:=⟨fun x=>by simp[vG],fun x y z J U=>by simp[vG]at*;omega,fun x y z J U=>by simp[vG]at*;omega⟩
theorem acK(l:List bJ)(i j:Nat)(x y:bJ)(au:l.length≤68719476736)(hi:l[i]? =some x)(af:l[j]? =some y):bN al 183 [.int .i64 i,.int .i64 j,.ptr (.obj 804) 0] (uN l) fun r ai=>r= .bool (vG x y)∧ai=uN l:=by have ag:=Dz l;obtain⟨lR,hv⟩:=fN.1 hi;obtain⟨dW,pJ⟩:=fN.1 af;unfold uN dM at ag⊢;refine bN.mk mixed jR aay ag0 (by simp) ag.obj fun aP cP=>?_;unfold N1;simp[lR,dW,hv,pJ];(with_reducible repeat' first|refine aj ?_|simp);refine cS.at _ (.inl rfl) ag (Same.refl _) aR aR ?_;simp[cZ,U4,aX,aY,aV,vG]
noncomputable def Tryz.vkT:TypeInfo:=(al.info? 48).get (by kernel_rfl)
noncomputable def Tryz.vkE:TypeInfo:=(al.info? 98).get (by kernel_rfl)
theorem Tryz.vkK(n:Nat)(U:2≤n):Lib.swapperK n Tryz.vkE 25=9:=by
 have a:Tryz.vkE.hasPointers=false:=by kernel_rfl
 have b:Tryz.vkE.bytes=16:=by kernel_rfl
 have c:(n==0)=false:=by simp;omega
 have d:(n==1)=false:=by simp;omega
 simp[Lib.swapperK,a,b,c,d]
theorem agc{α β:Type}(f:α→β)(l:List α)(i j:Nat):(gX l i j).map f=gX (l.map f) i j:=by
 unfold gX;simp only[List.getElem?_map];cases l[i]? with
 |none=>simp
 |some x=>
  cases l[j]? with
  |none=>simp
  |some y=>simp[List.map_set]
theorem Rm(l:List bJ)(au:l.length≤68719476736):bN al 182 [.iface 48 (.row 2 (.obj 803) l.length),.func 183 [.ptr (.obj 804) 0]] (uN l) fun r ai=>r= .tuple []∧∃aZ,ai=uN aZ∧aZ.Perm l∧aZ.Pairwise fun x y=>vG y x=false:=by
 refine(Re Te (K:=803) (B:=804) (sz:=2) (by decide) (by decide) 48 Tryz.vkT Tryz.vkE (by kernel_rfl) (by kernel_rfl) (by kernel_rfl) (by kernel_rfl) 25 (fun _=>by kernel_rfl) Tryz.vkK 183 vG agd l au (fun aZ h i j x y hi af=>acK aZ i j x y (by omega) hi af) (fun aZ h i j hi af=>?_));have:=Rn (P:=al) false 230 (fun args W=>run_callFunc_extern Tryz.func230 (by kernel_rfl) (by kernel_rfl) (by kernel_rfl) (e:=Du false) (by kernel_rfl) args W)
  98 Tryz.vkE (by kernel_rfl) (fun _=>by kernel_rfl) (Dz aZ) (K:=803) (n:=l.length) (el:=98) (sz:=2) (by kernel_rfl) (xs:=aZ.map bJ.e) (by simp[dM,Pv.look,h]) i j hi af
 refine this.mono ?_;rintro r ai ⟨rfl,rfl⟩;refine⟨rfl,?_⟩;simp[dM,cw,agc,h]
end Go.Proofs.YtahlgcidhnjlbaaGreat
namespace Go.Proofs.YtahlgcidhnjlbaaGreat
open Go Go.Pv
def fS(o:Option (List bJ)):ah:= .tuple [.slice 2 .no ((o.getD []).map bJ.e),.bool o.isSome]
@[simp] theorem apC(S:aH→Prop)(o:Option (List bJ)):aC S (fS o)=True:=by simp[fS]
theorem WX{l:List bJ}(h:iV l):bG al 87 [.slice 2 .no (l.map bJ.e)] (.bool true):=by have:=WW l;simpa only[h,decide_true]using this
theorem ye{t:T}(h:t.fit=true):bG al 64 [t.e] (.bool true):=by have:=alG t;rwa[h]at this
set_option maxRecDepth 4000 in
theorem als{s:List ar}(ag:eA s){l:List bJ}(au:iV l)(t:T)(aN:t.fit=true)(k:Int):
  bG al 118 [.slice 5 .no (s.map ar.e),.slice 2 .no (l.map bJ.e),t.e,.int .i64 k] (fS (if(k=2∨k=3)∧(t.ap (cA s)).size≤5000 then ka l (t.ap (cA s)) k else none)):=by
 have xg:=sD au;have cV:=oL ag;have dH:=ye aN;have dg:=WX au;have fk:=Hb s t ag.len ag.sol.asc ag.fit;generalize ab:t.ap (cA s)=x at fk⊢;generalize dm:(if(k=2∨k=3)∧x.size≤5000 then ka l x k else none)=O;by_cases ad:k=2∨k=3;rotate_left
 ·have gp:(k !=2)=true:=by simp;omega
  have kX:(k !=3)=true:=by simp;omega
  rw[if_neg (fun h=>ad h.1)]at dm;rw[←dm];refine bd jR qY rF fun aP=>?_;unfold qg;simp;(with_reducible repeat' first|refine aj ?_|refine aD cV ?_|refine aE cV ?_|refine aD dH ?_|refine aE dH ?_|refine aD dg ?_|refine aE dg ?_|simp[gp,kX]);simp[bu,jP,aX,aY,aV];simp[fS]
 by_cases br:x.size≤5000;rotate_left
 ·rw[if_neg (fun h=>br h.2)]at dm;rw[←dm];rw[if_neg br,jn br]at fk;refine bd jR qY rF fun aP=>?_;unfold qg;simp;rcases ad with rfl|rfl;all_goals(with_reducible repeat' first|refine aj ?_|refine aD cV ?_|refine aE cV ?_|refine aD dH ?_|refine aE dH ?_|refine aD dg ?_|refine aE dg ?_|refine aD fk ?_|refine aE fk ?_|simp)
  all_goals simp[bu,jP,aX,aY,aV]
  all_goals simp[fS]
 rw[if_pos ⟨ad,br⟩]at dm;rw[if_pos br,jd br]at fk;have EO:(k !=2)=true→(k !=3)=false:=fun h=>by simp at h⊢;omega
 have tN:((k !=2)=false)∨((k !=2)=true∧(k !=3)=false):=by
  rcases ad with rfl|rfl
  ·left;rfl
  ·right;exact⟨rfl,rfl⟩
 clear EO;cases x with
 |var n=>
  have dN:O=match k2 l n with|some bL=>if bL=k then some l else none|none=>some (lz ⟨n,k⟩ l):=by rw[←dm];rfl
  refine bd jR qY rF fun aP=>?_;unfold qg;simp;rcases tN with bn|⟨bn,iS⟩
  ·(with_reducible repeat' first|refine aj ?_|refine aD cV ?_|refine aE cV ?_|refine aD dH ?_|refine aE dH ?_|refine aD dg ?_|refine aE dg ?_|refine aD fk ?_|refine aE fk ?_|simp[bn]);refine dV [3,10,12,55,56] (fun i (_:Unit)=>[(57,.int .i64 i)]) l.length (fun i _=> ∀j y,j<i→l[j]? =some y→y.v≠n) () b1 (fun j y af=>by omega) (fun _ af _=>?_) (fun i _ hi af _=>?_)
   ·have a1:k2 l n=none:=xy.2 fun y aG=>by obtain⟨m,hm,e⟩:=nn aG;exact af m y hm (by rw[cf hm,e])
    rw[a1]at dN;simp only at dN;simp;(with_reducible repeat' first|refine aj ?_|simp);all_goals first|(refine⟨by unfold lim;omega,?_⟩)|skip
    have key:=Rm (l++[⟨n,k⟩]) (by simp;omega);have eD:=Dz (l++[⟨n,k⟩]);have hlen:(l++[(⟨n,k⟩:bJ)]).length=l.length+1:=by simp
    unfold uN dM at key eD;rw[hlen,List.map_append,gG,mC]at key eD;refine c4.ob key eD aR aR (by simp[inObs,Pv.look]) ?_;rintro r ai ⟨rfl,aZ,rfl,J,U⟩;have ss:aZ=lz ⟨n,k⟩ l:=Tf (J.trans ((List.perm_append_comm (l₁:=l) (l₂:=[⟨n,k⟩])).trans (J8 ⟨n,k⟩ l).symm)) (Fc au.asc (xy.1 a1)) U;subst ss;refine⟨Same.keys (by simp) (by simp),?_⟩;rw[dN];simp[cv];(with_reducible repeat' first|refine aj ?_|simp);simp[bu,jP,aX,aY,aV];simp[fS]
   ·obtain⟨b,ae,cJ⟩:=ed hi;by_cases mT:b.v=n
    ·have a1:k2 l n=some b.k:=by rw[←mT];exact Fs au.asc (eK ae)
     rw[a1]at dN;simp only at dN;by_cases n9:b.k=k
     ·rw[if_pos n9]at dN;rw[dN];have w3:(b.k !=k)=false:=by simp[n9]
      have q8:(b.v==n)=true:=by simp[mT]
      simp[hi,cJ];(with_reducible repeat' first|refine aj ?_|simp[cJ,hi,w3,q8,n9,mT]);simp[bu,jP,aX,aY,aV];simp[fS]
     ·rw[if_neg n9]at dN;rw[dN];have w3:(b.k !=k)=true:=by simp[n9]
      have q8:(b.v==n)=true:=by simp[mT]
      simp[hi,cJ];(with_reducible repeat' first|refine aj ?_|simp[cJ,hi,w3,q8,n9,mT]);simp[bu,jP,aX,aY,aV];simp[fS]
    ·have q8:(b.v==n)=false:=by simp[mT]
     simp[hi,cJ];(with_reducible repeat' first|refine aj ?_|simp[cJ,hi,q8,mT]);exact bP.rng () hi (fun j y jh aG=>by
      rcases(by omega:j<i∨j=i)with h|rfl
      ·exact af j y h aG
      ·rw[ae]at aG;cases aG;exact mT) b1
  ·(with_reducible repeat' first|refine aj ?_|refine aD cV ?_|refine aE cV ?_|refine aD dH ?_|refine aE dH ?_|refine aD dg ?_|refine aE dg ?_|refine aD fk ?_|refine aE fk ?_|simp[bn,iS]);refine dV [3,10,12,55,56] (fun i (_:Unit)=>[(57,.int .i64 i)]) l.length (fun i _=> ∀j y,j<i→l[j]? =some y→y.v≠n) () b1 (fun j y af=>by omega) (fun _ af _=>?_) (fun i _ hi af _=>?_)
   ·have a1:k2 l n=none:=xy.2 fun y aG=>by obtain⟨m,hm,e⟩:=nn aG;exact af m y hm (by rw[cf hm,e])
    rw[a1]at dN;simp only at dN;simp;(with_reducible repeat' first|refine aj ?_|simp);all_goals first|(refine⟨by unfold lim;omega,?_⟩)|skip
    have key:=Rm (l++[⟨n,k⟩]) (by simp;omega);have eD:=Dz (l++[⟨n,k⟩]);have hlen:(l++[(⟨n,k⟩:bJ)]).length=l.length+1:=by simp
    unfold uN dM at key eD;rw[hlen,List.map_append,gG,mC]at key eD;refine c4.ob key eD aR aR (by simp[inObs,Pv.look]) ?_;rintro r ai ⟨rfl,aZ,rfl,J,U⟩;have ss:aZ=lz ⟨n,k⟩ l:=Tf (J.trans ((List.perm_append_comm (l₁:=l) (l₂:=[⟨n,k⟩])).trans (J8 ⟨n,k⟩ l).symm)) (Fc au.asc (xy.1 a1)) U;subst ss;refine⟨Same.keys (by simp) (by simp),?_⟩;rw[dN];simp[cv];(with_reducible repeat' first|refine aj ?_|simp);simp[bu,jP,aX,aY,aV];simp[fS]
   ·obtain⟨b,ae,cJ⟩:=ed hi;by_cases mT:b.v=n
    ·have a1:k2 l n=some b.k:=by rw[←mT];exact Fs au.asc (eK ae)
     rw[a1]at dN;simp only at dN;by_cases n9:b.k=k
     ·rw[if_pos n9]at dN;rw[dN];have w3:(b.k !=k)=false:=by simp[n9]
      have q8:(b.v==n)=true:=by simp[mT]
      simp[hi,cJ];(with_reducible repeat' first|refine aj ?_|simp[cJ,hi,w3,q8,n9,mT]);simp[bu,jP,aX,aY,aV];simp[fS]
     ·rw[if_neg n9]at dN;rw[dN];have w3:(b.k !=k)=true:=by simp[n9]
      have q8:(b.v==n)=true:=by simp[mT]
      simp[hi,cJ];(with_reducible repeat' first|refine aj ?_|simp[cJ,hi,w3,q8,n9,mT]);simp[bu,jP,aX,aY,aV];simp[fS]
    ·have q8:(b.v==n)=false:=by simp[mT]
     simp[hi,cJ];(with_reducible repeat' first|refine aj ?_|simp[cJ,hi,q8,mT]);exact bP.rng () hi (fun j y jh aG=>by
      rcases(by omega:j<i∨j=i)with h|rfl
      ·exact af j y h aG
      ·rw[ae]at aG;cases aG;exact mT) b1
 |nil=>
  have dN:O=if T.nil.kind=k then some l else none:=by rw[←dm];rfl
  by_cases hg:T.nil.kind=k
  ·rw[if_pos hg]at dN;rw[dN];refine bd jR qY rF fun aP=>?_;unfold qg;simp;simp at hg;rcases tN with bn|⟨bn,iS⟩
   ·((with_reducible repeat' first|refine aj ?_|refine aD cV ?_|refine aE cV ?_|refine aD dH ?_|refine aE dH ?_|refine aD dg ?_|refine aE dg ?_|refine aD fk ?_|refine aE fk ?_|simp[bn,hg]|((first|apply bM|apply bR|apply bQ)<;>intro h<;>try simp at h))<;>(try exact ch));all_goals simp[bu,jP,aX,aY,aV]
    all_goals simp[fS]
   ·((with_reducible repeat' first|refine aj ?_|refine aD cV ?_|refine aE cV ?_|refine aD dH ?_|refine aE dH ?_|refine aD dg ?_|refine aE dg ?_|refine aD fk ?_|refine aE fk ?_|simp[bn,iS,hg]|((first|apply bM|apply bR|apply bQ)<;>intro h<;>try simp at h))<;>(try exact ch));all_goals simp[bu,jP,aX,aY,aV]
    all_goals simp[fS]
  ·rw[if_neg hg]at dN;rw[dN];refine bd jR qY rF fun aP=>?_;unfold qg;simp;simp at hg;rcases tN with bn|⟨bn,iS⟩
   ·((with_reducible repeat' first|refine aj ?_|refine aD cV ?_|refine aE cV ?_|refine aD dH ?_|refine aE dH ?_|refine aD dg ?_|refine aE dg ?_|refine aD fk ?_|refine aE fk ?_|simp[bn,hg]|((first|apply bM|apply bR|apply bQ)<;>intro h<;>try simp at h))<;>(try exact ch));all_goals simp[bu,jP,aX,aY,aV]
    all_goals simp[fS]
   ·((with_reducible repeat' first|refine aj ?_|refine aD cV ?_|refine aE cV ?_|refine aD dH ?_|refine aE dH ?_|refine aD dg ?_|refine aE dg ?_|refine aD fk ?_|refine aE fk ?_|simp[bn,iS,hg]|((first|apply bM|apply bR|apply bQ)<;>intro h<;>try simp at h))<;>(try exact ch));all_goals simp[bu,jP,aX,aY,aV]
    all_goals simp[fS]
 |sym a=>
  have dN:O=if(T.sym a).kind=k then some l else none:=by rw[←dm];rfl
  by_cases hg:(T.sym a).kind=k
  ·rw[if_pos hg]at dN;rw[dN];refine bd jR qY rF fun aP=>?_;unfold qg;simp;simp at hg;rcases tN with bn|⟨bn,iS⟩
   ·((with_reducible repeat' first|refine aj ?_|refine aD cV ?_|refine aE cV ?_|refine aD dH ?_|refine aE dH ?_|refine aD dg ?_|refine aE dg ?_|refine aD fk ?_|refine aE fk ?_|simp[bn,hg]|((first|apply bM|apply bR|apply bQ)<;>intro h<;>try simp at h))<;>(try exact ch));all_goals simp[bu,jP,aX,aY,aV]
    all_goals simp[fS]
   ·((with_reducible repeat' first|refine aj ?_|refine aD cV ?_|refine aE cV ?_|refine aD dH ?_|refine aE dH ?_|refine aD dg ?_|refine aE dg ?_|refine aD fk ?_|refine aE fk ?_|simp[bn,iS,hg]|((first|apply bM|apply bR|apply bQ)<;>intro h<;>try simp at h))<;>(try exact ch));all_goals simp[bu,jP,aX,aY,aV]
    all_goals simp[fS]
  ·rw[if_neg hg]at dN;rw[dN];refine bd jR qY rF fun aP=>?_;unfold qg;simp;simp at hg;rcases tN with bn|⟨bn,iS⟩
   ·((with_reducible repeat' first|refine aj ?_|refine aD cV ?_|refine aE cV ?_|refine aD dH ?_|refine aE dH ?_|refine aD dg ?_|refine aE dg ?_|refine aD fk ?_|refine aE fk ?_|simp[bn,hg]|((first|apply bM|apply bR|apply bQ)<;>intro h<;>try simp at h))<;>(try exact ch));all_goals simp[bu,jP,aX,aY,aV]
    all_goals simp[fS]
   ·((with_reducible repeat' first|refine aj ?_|refine aD cV ?_|refine aE cV ?_|refine aD dH ?_|refine aE dH ?_|refine aD dg ?_|refine aE dg ?_|refine aD fk ?_|refine aE fk ?_|simp[bn,iS,hg]|((first|apply bM|apply bR|apply bQ)<;>intro h<;>try simp at h))<;>(try exact ch));all_goals simp[bu,jP,aX,aY,aV]
    all_goals simp[fS]
 |num a=>
  have dN:O=if(T.num a).kind=k then some l else none:=by rw[←dm];rfl
  by_cases hg:(T.num a).kind=k
  ·rw[if_pos hg]at dN;rw[dN];refine bd jR qY rF fun aP=>?_;unfold qg;simp;simp at hg;rcases tN with bn|⟨bn,iS⟩
   ·((with_reducible repeat' first|refine aj ?_|refine aD cV ?_|refine aE cV ?_|refine aD dH ?_|refine aE dH ?_|refine aD dg ?_|refine aE dg ?_|refine aD fk ?_|refine aE fk ?_|simp[bn,hg]|((first|apply bM|apply bR|apply bQ)<;>intro h<;>try simp at h))<;>(try exact ch));all_goals simp[bu,jP,aX,aY,aV]
    all_goals simp[fS]
   ·((with_reducible repeat' first|refine aj ?_|refine aD cV ?_|refine aE cV ?_|refine aD dH ?_|refine aE dH ?_|refine aD dg ?_|refine aE dg ?_|refine aD fk ?_|refine aE fk ?_|simp[bn,iS,hg]|((first|apply bM|apply bR|apply bQ)<;>intro h<;>try simp at h))<;>(try exact ch));all_goals simp[bu,jP,aX,aY,aV]
    all_goals simp[fS]
  ·rw[if_neg hg]at dN;rw[dN];refine bd jR qY rF fun aP=>?_;unfold qg;simp;simp at hg;rcases tN with bn|⟨bn,iS⟩
   ·((with_reducible repeat' first|refine aj ?_|refine aD cV ?_|refine aE cV ?_|refine aD dH ?_|refine aE dH ?_|refine aD dg ?_|refine aE dg ?_|refine aD fk ?_|refine aE fk ?_|simp[bn,hg]|((first|apply bM|apply bR|apply bQ)<;>intro h<;>try simp at h))<;>(try exact ch));all_goals simp[bu,jP,aX,aY,aV]
    all_goals simp[fS]
   ·((with_reducible repeat' first|refine aj ?_|refine aD cV ?_|refine aE cV ?_|refine aD dH ?_|refine aE dH ?_|refine aD dg ?_|refine aE dg ?_|refine aD fk ?_|refine aE fk ?_|simp[bn,iS,hg]|((first|apply bM|apply bR|apply bQ)<;>intro h<;>try simp at h))<;>(try exact ch));all_goals simp[bu,jP,aX,aY,aV]
    all_goals simp[fS]
 |pair a b=>
  have dN:O=if(T.pair a b).kind=k then some l else none:=by rw[←dm];rfl
  by_cases hg:(T.pair a b).kind=k
  ·rw[if_pos hg]at dN;rw[dN];refine bd jR qY rF fun aP=>?_;unfold qg;simp;simp at hg;rcases tN with bn|⟨bn,iS⟩
   ·((with_reducible repeat' first|refine aj ?_|refine aD cV ?_|refine aE cV ?_|refine aD dH ?_|refine aE dH ?_|refine aD dg ?_|refine aE dg ?_|refine aD fk ?_|refine aE fk ?_|simp[bn,hg]|((first|apply bM|apply bR|apply bQ)<;>intro h<;>try simp at h))<;>(try exact ch));all_goals simp[bu,jP,aX,aY,aV]
    all_goals simp[fS]
   ·((with_reducible repeat' first|refine aj ?_|refine aD cV ?_|refine aE cV ?_|refine aD dH ?_|refine aE dH ?_|refine aD dg ?_|refine aE dg ?_|refine aD fk ?_|refine aE fk ?_|simp[bn,iS,hg]|((first|apply bM|apply bR|apply bQ)<;>intro h<;>try simp at h))<;>(try exact ch));all_goals simp[bu,jP,aX,aY,aV]
    all_goals simp[fS]
  ·rw[if_neg hg]at dN;rw[dN];refine bd jR qY rF fun aP=>?_;unfold qg;simp;simp at hg;rcases tN with bn|⟨bn,iS⟩
   ·((with_reducible repeat' first|refine aj ?_|refine aD cV ?_|refine aE cV ?_|refine aD dH ?_|refine aE dH ?_|refine aD dg ?_|refine aE dg ?_|refine aD fk ?_|refine aE fk ?_|simp[bn,hg]|((first|apply bM|apply bR|apply bQ)<;>intro h<;>try simp at h))<;>(try exact ch));all_goals simp[bu,jP,aX,aY,aV]
    all_goals simp[fS]
   ·((with_reducible repeat' first|refine aj ?_|refine aD cV ?_|refine aE cV ?_|refine aD dH ?_|refine aE dH ?_|refine aD dg ?_|refine aE dg ?_|refine aD fk ?_|refine aE fk ?_|simp[bn,iS,hg]|((first|apply bM|apply bR|apply bQ)<;>intro h<;>try simp at h))<;>(try exact ch));all_goals simp[bu,jP,aX,aY,aV]
    all_goals simp[fS]
def ja(o:Option (List bj)):ah:= .tuple [.slice 2 .no ((o.getD []).map bj.e),.bool o.isSome]
@[simp] theorem apE(S:aH→Prop)(o:Option (List bj)):aC S (ja o)=True:=by simp[ja]
theorem WZ{l:List bj}(h:hC l):bG al 88 [.slice 2 .no (l.map bj.e)] (.bool true):=by have:=WY l;simpa only[h,decide_true]using this
theorem aly{s:List dB}(h:jy s=true):bG al 160 [.str s] (.bool true):=by have:=s6 s;rwa[h]at this
def Cn(l:List bj):List ah:=l.flatMap fun m=>[m.e,.bool true]
theorem TW(l:List bj):nD l= .hdm l.length (List.range l.length)::Cn l:=rfl
theorem KE(b:Nat):∀(n:Nat) (l:List bj),mw b (List.range' n l.length) (Cn l)=(if n≤b then(l[b-n]?).map fun x=>.tuple [x.e,.bool true]else none)
 |n,[]=>by simp[mw,Cn]
 |n,x::r=>by
  have e:Cn (x::r)=x.e:: .bool true::Cn r:=rfl;simp only[p8,List.range'_succ,e,mw];by_cases h:n=b
  ·subst h;simp
  ·rw[if_neg h,KE b (n+1) r];by_cases U:n≤b
   ·rw[if_pos U,if_pos (by omega)];have:b-n=(b-(n+1))+1:=by omega
    rw[this];simp
   ·rw[if_neg U,if_neg (by omega)]
@[simp] theorem aqo(l:List bj):hN (nD l)=false:=rfl
@[simp] theorem arb(m:aH)(l:List bj):vV m (nD l)=some (cd l.length [] m):=rfl
theorem agq(f:aH→Option (List ah))(fj mk:aH)(n:Nat)(seen:List Nat)(b:Nat)(l:List bj)(x:bj)(hi:f fj=some (cd n (seen++[b]) mk))(hm:f mk=some (nD l))(aw:n=l.length)(ab:l[b]? =some x):pe f (.ptr fj 0)=some (True,.tuple [x.e,.bool true]):=by subst aw;simp only[T6,hi,hm,cd,TW,List.getLast?_append,List.getLast?_singleton,Option.some_or,List.range_eq_range',KE,Nat.zero_le,if_true,Nat.sub_zero,Option.map_map];simp[ab]
theorem ZG{st:bq}{d:Nat}{K:bq→Prop}{fj mk:aH}{n:Nat}{seen:List Nat}{l:List bj}(hi:Pv.look fj st.b=some (cd n seen mk))(hm:Pv.look mk st.b=some (nD l))(aw:n=l.length)
  (J:(∀b,b<l.length→b∈seen)→K {st with t:=Pv.put d (.tuple [.bool false]) st.t}) (U:∀b x,l[b]? =some x→b∉seen→K {st with t:=Pv.put d (.tuple [.bool true,x.e,.bool true]) st.t,b:=cw fj (cd n (seen++[b]) mk) st.b}):
  sd st d (.ptr fj 0) K:=by
 subst aw;simp only[sd,hi,cd,hm,TW,KQ,and_self,true_and];refine⟨fun h=>J fun b ae=>h b (by simpa using ae),fun b k v xi ae=>?_⟩;rw[List.range_eq_range',KE]at xi;simp only[Nat.zero_le,if_true,Nat.sub_zero,gH,ah.tuple.injEq,p6,and_true]at xi;obtain⟨x,ak,aB,bf⟩:=xi;subst aB bf;exact U b x ak ae
theorem agl{m x:bj}{l:List bj}:x∈kT m l↔x=m∨x∈l:=by
 unfold kT;split
 ·constructor
  ·exact .inr
  ·rintro(rfl|h)<;>assumption
 ·simp[or_comm]
theorem X8{m:bj}{l:List bj}(h:l.Nodup):(kT m l).Nodup:=by
 unfold kT;split
 ·exact h
 ·rw[List.nodup_append];exact⟨h,by simp,fun a bE b ae=>by simp at ae;subst ae;intro e;subst e;contradiction⟩
theorem X7(m:bj)(l:List bj):(kT m l).length≤l.length+1:=by unfold kT;split<;>simp
theorem acA(s:List dB)(t:T):∀l:List bj,(t.fold (fun v l=>kT ⟨v,s⟩ l) l).length≤l.length+t.size:=by
 induction t with
 |var n=>intro l;simp only[T.fold,T.size];exact X7 _ _
 |pair a b dQ dR=>intro l;simp only[T.fold,T.size];have:=dQ l;have:=dR (a.fold (fun v l=>kT ⟨v,s⟩ l) l);omega
 |_=>intro l;simp[T.fold,T.size]
theorem acB(s:List dB)(t:T):∀{l:List bj},l.Nodup→(t.fold (fun v l=>kT ⟨v,s⟩ l) l).Nodup:=by
 induction t with
 |var n=>intro l h;exact X8 h
 |pair a b dQ dR=>intro l h;exact dR (dQ h)
 |_=>intro l h;exact h
theorem agm(s:List dB)(t:T)(x:bj):∀{l:List bj},x∈t.fold (fun v l=>kT ⟨v,s⟩ l) l↔x∈l∨(x.s=s∧t.occ x.v=true):=by
 induction t with
 |var n=>
  intro l;simp only[T.fold,agl,T.occ,dL];constructor
  ·rintro(rfl|h)
   ·exact .inr ⟨rfl,rfl⟩
   ·exact .inl h
  ·rintro(h|⟨J,U⟩)
   ·exact .inr h
   ·left;cases x;simp at J U;subst J U;rfl
 |pair a b dQ dR=>
  intro l;simp only[T.fold,dR,dQ,T.occ,mB];constructor
  ·rintro((h|h)|h)
   ·exact .inl h
   ·exact .inr ⟨h.1,.inl h.2⟩
   ·exact .inr ⟨h.1,.inr h.2⟩
  ·rintro(h|⟨J,U|U⟩)
   ·exact .inl (.inl h)
   ·exact .inl (.inr ⟨J,U⟩)
   ·exact .inr ⟨J,U⟩
 |_=>intro l;simp[T.fold,T.occ]
def afx(M:List bj)(k:Nat)(st:bq):Prop:=∃(seen:List Nat) (xs:List bj),seen.Nodup∧(∀b∈seen,b<M.length)∧k=M.length-seen.length∧xs=seen.filterMap (fun b=>M[b]?)∧xs.length=seen.length∧st=⟨[(15,.ptr (.obj 815) 0),(63,.ptr (.loc 2) 0)],[(.obj 812,nD M),(.loc 2,cd M.length seen (.obj 812)),(.obj 815,[.row 2 (.obj 814) xs.length])],[(.obj 814,⟨xs.length,100,2,some (xs.map bj.e)⟩)],3,[.obj 815,.obj 814,.obj 813,.obj 812,.obj 811]⟩
set_option maxRecDepth 4000 in
theorem alr{s:List ar}(ag:eA s){l:List bj}(au:hC l)(xg:l.length≤68719470000)(t:T)(aN:t.fit=true){g:List dB}(a1:jy g=true):
  bG al 120 [.slice 5 .no (s.map ar.e),.slice 2 .no (l.map bj.e),t.e,.str g] (ja (if(t.ap (cA s)).size≤5000 then lL l (t.ap (cA s)) g else none)):=by
 have cV:=oL ag;have dH:=ye aN;have dT:=WZ au;have hM:=aly a1;have fk:=Hb s t ag.len ag.sol.asc ag.fit;generalize ab:t.ap (cA s)=x at fk⊢;generalize dm:(if x.size≤5000 then lL l x g else none)=O;by_cases br:x.size≤5000;rotate_left
 ·rw[if_neg br]at dm;rw[←dm];rw[if_neg br,jn br]at fk;refine bd jR Iw KW fun aP=>?_;unfold DM;simp;(with_reducible repeat' first|refine aj ?_|refine aD cV ?_|refine aE cV ?_|refine aD dH ?_|refine aE dH ?_|refine aD dT ?_|refine aE dT ?_|refine aD hM ?_|refine aE hM ?_|refine aD fk ?_|refine aE fk ?_|simp);simp[bu,F7,aX,aY,aV];simp[ja]
 rw[if_pos br]at dm;rw[if_pos br,jd br]at fk;have zz:=alW g x;cases cM:x.has g;rotate_left
 ·rw[cM]at zz;have dN:O=none:=by rw[←dm];unfold lL;rw[cM];rfl
  rw[dN];refine bd jR Iw KW fun aP=>?_;unfold DM;simp;(with_reducible repeat' first|refine aj ?_|refine aD cV ?_|refine aE cV ?_|refine aD dH ?_|refine aE dH ?_|refine aD dT ?_|refine aE dT ?_|refine aD hM ?_|refine aE hM ?_|refine aD fk ?_|refine aE fk ?_|refine aD zz ?_|refine aE zz ?_|simp);simp[bu,F7,aX,aY,aV];simp[ja]
 rw[cM]at zz;refine bd jR Iw KW fun aP=>?_;unfold DM;simp;(with_reducible repeat' first|refine aj ?_|refine aD cV ?_|refine aE cV ?_|refine aD dH ?_|refine aE dH ?_|refine aD dT ?_|refine aE dT ?_|refine aD hM ?_|refine aE hM ?_|refine aD fk ?_|refine aE fk ?_|refine aD zz ?_|refine aE zz ?_|simp);have BO:l.Nodup:=hF.nodup lD au.asc;have hJ:∀xs:List bj,xs.Perm (x.fold (fun v l=>kT ⟨v,g⟩ l) l)→O=some (oC fc xs):=fun xs bI=>by
  rw[←dm];refine Hw cM ?_ fun y=>?_
  ·have J:=Mj lD xs;have U:(oC fc xs).Nodup:=(((x7 fc xs).trans bI).nodup_iff).2 (acB g x BO);exact(J.and U).imp fun{a b} h=>by have:=mt (lD.zero a b).1 h.2;omega
  ·rw[((x7 fc xs).trans bI).mem_iff,agm]
 have hlen:(x.fold (fun v l=>kT ⟨v,g⟩ l) l).length≤68719475000:=by have:=acA g x l;omega
 rw[show jB []=nD []from rfl];refine hR (fun i (_:Unit)=>⟨[(7,.ptr (.obj 811) 0),(10,.ptr (.loc 1) 0),(12,.ptr (.obj 813) 0),(49,.slice 2 .no (l.map bj.e)),(50,.int .i64 l.length),(51,.int .i64 i)],[(.obj 811,[.str g]),(.loc 1,[.int .i64 x.kind,.int .i64 x.int,.str x.name,.slice 4 .no (x.args.map T.e)]),(.obj 812,nD (l.take i)),(.obj 813,[.gmap (.obj 812)])],[],2,[.obj 813,.obj 812,.obj 811]⟩) l.length (fun _ _=>True) () b1 trivial (fun _ _ _=>?_) (fun i _ hi _ _=>?_)
 ·rw[nP];simp;(with_reducible repeat' first|refine aj ?_|simp);have key:=Rf (nU g) (DB g) (Hp g) 184 [.ptr (.obj 813) 0,.ptr (.obj 811) 0] (by intro a;simp[inObs,nU,Pv.look,aJ,aC]) (by simp) (fun v l=>kT ⟨v,g⟩ l) (fun v a=>acI g v a) x l;refine c4.ob key (DB g l) (by unfold nU;exact aR) (by unfold nU;exact aR) (by simp[inObs,nU,Pv.look]) ?_;rintro r ai ⟨rfl,rfl⟩;refine⟨Hp g _ _,?_⟩;unfold nU;generalize dS:x.fold (fun v l=>kT ⟨v,g⟩ l) l=M at hJ hlen⊢;simp[cv];(with_reducible repeat' first|refine aj ?_|simp);refine o3 (afx M) M.length _ ⟨by simp[fresh,aJ,aC,cd,inObs,Pv.look,zC],dY (by simp[fresh,aJ,aC,cd,inObs,Pv.look,zC]),dZ (by simp[fresh,aJ,aC,dP,inObs,Pv.look,zC]),by simp⟩ ⟨[],[],by simp,by simp,by simp,by simp,by simp,rfl⟩ ?_;rintro k st ⟨seen,xs,aQ,bC,ad,SI,j3,rfl⟩ kG cP;clear kG cP;have hle:=GI aQ bC;simp;refine ZG (mk:= .obj 812) (seen:=seen) (l:=M) (by simp) (by simp) rfl (fun lj=>?_) (fun b y aG ae=>?_)
  ·have vl:=Ma aQ bC lj;rw[←SI]at vl;have dx:=hJ xs vl;simp;(with_reducible repeat' first|refine aj ?_|simp);have key:=adi xs (by omega);have eD:=Ho xs;unfold wB dM at key eD;refine c4.ob key eD aR aR (by simp[inObs,Pv.look]) ?_;rintro r ai ⟨rfl,rfl⟩;refine⟨Same.keys (by simp) (by simp),?_⟩;rw[dx];simp[cv];(with_reducible repeat' first|refine aj ?_|simp);simp[bu,F7,aX,aY,aV];simp[ja]
  ·have zc:∀f:aH→Option (List ah),f (.loc 2)=some (cd M.length (seen++[b]) (.obj 812))→f (.obj 812)=some (nD M)→pe f (.ptr (.loc 2) 0)=some (True,.tuple [y.e,.bool true]):=fun f J U=>agq f (.loc 2) (.obj 812) M.length seen b M y J U rfl aG;have fy:b<M.length:=(fN.1 aG).1;have pL:=Mb aQ bC fy ae;simp[zc];(with_reducible repeat' first|refine aj ?_|simp[zc]);all_goals first|(refine⟨by unfold lim;omega,?_⟩)|skip
   have xd:∀S:aH→Prop,aJ S (xs.map bj.e++[y.e])=True:=fun S=>by
    have e:xs.map bj.e++[y.e]=(xs++[y]).map bj.e:=by simp
    rw[e];simp[-List.map_append]
   refine bP.next (M.length-(seen.length+1)) (by omega) ⟨seen++[b],xs++[y],KU aQ ae,(by simp;intro c ay;rcases ay with ay|rfl;exact bC c ay;exact fy),by simp,by rw[List.filterMap_append,←SI];simp[aG],by simp[j3],rfl⟩ ⟨by simp[fresh,aJ,aC,cd,inObs,Pv.look,zC,xd],dY (by simp[fresh,aJ,aC,cd,inObs,Pv.look,zC,xd]),dZ (by simp[fresh,aJ,aC,dP,inObs,Pv.look,zC,xd]),by simp⟩
 ·obtain⟨b,ae,cJ⟩:=ed hi;have kl:kT b (l.take i)=l.take (i+1):=by
   have J:b∉l.take i:=fun h=>by
    obtain⟨j,af,e⟩:=nn h;have jh:j<i:=by simp at af;omega
    rw[List.getElem_take]at e;have:=(List.nodup_iff_pairwise_ne.1 BO);exact(pt.1 this j i (by omega) hi jh) (by rw[e,cJ])
   rw[List.take_succ,ae];simp[kT,J]
  exact hO
def Og:C:=(aa [be 4 false] (.seq (aa [I 7 0,cn 8 7,bV 9 0] (fw 10 9 8 (.seq (.block 1 (aa [ct 11 5 7 9,aW 12 5 11,dk 6 jA,bK 5 6 12] (aa [aF 13 0 1 6,ax 14 1 13,I 15 1,bo 16 .geq 14 15,I 17 16,aq 17 false (hD 18 1 4 6),aq 17 false (aW 19 4 18),ys 17 false (.bsl 20 4 30 [.t 19]),aq 17 false (cD 21 162 20),b3 17 false 22 1,aq 17 false (bo 23 .gtr 21 22),c2 24 17 23] (aT 24 (aa [be 4 false] .ret) .skip)))) (.region [aU 25 .add 9 1,I 9 25])))) (aa [be 4 true] .ret)))
@[simp] def ajj:List bt:=[.tmp 4]
def Oe:C:=(aa [bV 2 0] (.seq (aa [I 6 0,cD 7 172 6,cu 8 7] (aT 8 (aa [bV 2 (-1)] .ret) .skip)) (aa [c3 (.alloc 3 (some 831) (.int .i64 0)),c3 (.store 1 (.t 3) (gd 0))] (.seq (aa [I 9 0,cn 10 9,bV 11 0] (fw 12 11 10 (.seq (.block 1 (aa [ct 13 4 9 11,aW 14 4 13,dk 5 dO,bK 4 5 14] (.region [aW 15 4 5,b5 16 (.mkf 204 [.t 3]),b7 17 134 15 16]))) (.region [aU 18 .add 11 1,I 11 18])))) (aa [ax 19 1 3,I 2 19] .ret)))))
@[simp] def ajh:List bt:=[.tmp 2]
def N9:C:=(aa [ej 4 2,be 5 false] (.seq (aa [I 11 0,cD 12 86 11,cu 13 12,I 14 13,b3 14 false 15 1,aq 14 false (cD 16 87 15),aq 14 false (cu 17 16),c2 18 14 17] (aT 18 (aa [ej 4 2,be 5 false] .ret) .skip)) (aa [ei 19 2 98 [],I 6 19] (.seq (.seq (.fg false 6 (.region [I 20 1,cn 21 20,bV 22 0])) (fw 23 22 21 (.seq (.block 1 (aa [ct 24 2 20 22,aW 25 2 24,c3 (.alloc 8 none (.agg [.int .i64 0,.int .i64 0])),bK 2 8 25] (.seq (.drawn true 42 [I 27 0,I 28 6,aF 29 0 1 8,ax 30 1 29,cD 31 116 30,aF 32 1 1 8,ax 33 1 32,dn 34 118 [.t 27,.t 28,.t 31,.t 33],I 26 34,cC 35 0 26,cC 36 1 26,I 9 35,I 10 36]) (.seq (aa [I 37 10,cu 38 37] (aT 38 (aa [ej 4 2,be 5 false] .ret) .skip)) (.region [I 39 9,I 6 39]))))) (.region [aU 40 .add 22 1,I 22 40])))) (aa [I 41 6,I 4 41,be 5 true] .ret)))))
@[simp] def Lo:List bt:=[.tmp 4,.tmp 5]
def Oa:C:=(aa [ej 4 2,be 5 false] (.seq (aa [I 11 0,cD 12 86 11,cu 13 12,I 14 13,b3 14 false 15 1,aq 14 false (cD 16 88 15),aq 14 false (cu 17 16),c2 18 14 17] (aT 18 (aa [ej 4 2,be 5 false] .ret) .skip)) (aa [ei 19 2 100 [],I 6 19] (.seq (.seq (.fg false 6 (.region [I 20 1,cn 21 20,bV 22 0])) (fw 23 22 21 (.seq (.block 1 (aa [ct 24 2 20 22,aW 25 2 24,c3 (.alloc 8 none (.agg [.int .i64 0,.str []])),bK 2 8 25] (.seq (.drawn true 42 [I 27 0,I 28 6,aF 29 0 1 8,ax 30 1 29,cD 31 116 30,aF 32 1 1 8,ax 33 1 32,dn 34 120 [.t 27,.t 28,.t 31,.t 33],I 26 34,cC 35 0 26,cC 36 1 26,I 9 35,I 10 36]) (.seq (aa [I 37 10,cu 38 37] (aT 38 (aa [ej 4 2,be 5 false] .ret) .skip)) (.region [I 39 9,I 6 39]))))) (.region [aU 40 .add 22 1,I 22 40])))) (aa [I 41 6,I 4 41,be 5 true] .ret)))))
@[simp] def Lp:List bt:=[.tmp 4,.tmp 5]
def N6:C:=(aa [ej 2 1] (.seq (aa [I 12 0,cn 13 12,bV 14 0] (fw 15 14 13 (.seq (.block 1 (aa [ct 16 1 12 14,ax 17 1 16,I 4 17] (aa [I 18 4,cD 19 86 18,cu 20 19] (aT 20 (aa [ej 2 1] .ret) .skip)))) (.region [aU 21 .add 14 1,I 14 21])))) (aa [c3 (.bslm 22 (some 821) 1 46 []),I 23 0,c3 (.appm 24 none 1 46 (.t 22) (.t 23)),c3 (.alloc 5 (some 822) (.slice 1 .nil [])),bK 1 5 24] (aa [ax 25 1 5,b5 26 (.mkif 47 (.t 25)),b5 27 (.mkf 206 [.t 5]),b7 28 140 26 27] (aa [ei 29 1 46 [],I 6 29] (.seq (aa [ax 30 1 5,cn 31 30,bV 32 0] (.block 2 (.loop (aa [bo 33 .lss 32 31] (.seq (aT 33 .skip (.exit 2)) (.seq (.block 3 (aa [I 34 32,ct 35 1 30 32,ax 36 1 35,I 7 34,I 8 36] (.seq (aa [I 37 7,aU 38 .gtr 37 0,I 39 38,aq 39 true (ax 40 1 5),b3 39 true 41 7,aq 39 true (aU 42 .sub 41 1),aq 39 true (ct 43 1 40 42),aq 39 true (ax 44 1 43),b3 39 true 45 8,aq 39 true (b7 46 207 44 45),aq 39 true (aU 47 .eql 46 0),dz 48 39 47] (aT 48 (.exit 3) .skip)) (aa [be 9 true] (.seq (aa [ax 49 1 5,cn 50 49,bV 51 0] (.block 4 (.loop (aa [bo 52 .lss 51 50] (.seq (aT 52 .skip (.exit 4)) (.seq (.block 5 (aa [ct 53 1 49 51,ax 54 1 53,I 11 54] (aa [I 55 11,I 56 8,b7 57 207 55 56,aU 58 .neq 57 0,I 59 58,b3 59 true 60 11,b3 59 true 61 8,aq 59 true (b7 62 208 60 61),dz 63 59 62] (aT 63 (.region [be 9 false]) .skip)))) (.region [aU 64 .add 51 1,I 51 64]))))))) (aa [I 65 9] (aT 65 (.region [I 66 6,I 67 8,cD 68 168 67,ei 69 1 46 [.t 68],gF 70 1 46 66 69,I 6 70]) .skip))))))) (.region [aU 71 .add 32 1,I 32 71]))))))) (aa [I 72 6,I 2 72] .ret)))))))
@[simp] def ajc:List bt:=[.tmp 2]
def HO:C:=(.region [ax 3 1 1,I 4 0,aU 5 .add 4 1,b5 6 (.max2 (.t 3) (.t 5)),bK 1 1 6])
@[simp] def Lr:List bt:=[]
def N7:C:=(aa [be 5 false] (.seq (.drawn true 16 [ax 6 1 2,I 7 0,ct 8 1 6 7,ax 9 1 8,ax 10 1 2,I 11 1,ct 12 1 10 11,ax 13 1 12,b7 14 207 9 13,aU 15 .lss 14 0,I 5 15]) .ret))
@[simp] def U9:List bt:=[.tmp 5]
def wc:List (Nat×dC):=[
 (3,⟨1,8,.int .i64,.int .i64 0⟩),
 (9,⟨1,16,.str,.str []⟩),
 (27,⟨1,24,.slice 30,.slice 4 .nil []⟩),
 (30,⟨4,56,.struct [(0,3),(1,3),(2,9),(3,27)],.agg [.int .i64 0,.int .i64 0,.str [],.slice 4 .nil []]⟩),
 (46,⟨1,24,.slice 113,.slice 5 .nil []⟩),
 (47,⟨1,24,.slice 46,.slice 1 .nil []⟩),
 (48,⟨1,24,.slice 98,.slice 2 .nil []⟩),
 (49,⟨1,24,.slice 100,.slice 2 .nil []⟩),
 (98,⟨2,16,.struct [(0,3),(1,3)],.agg [.int .i64 0,.int .i64 0]⟩),
 (100,⟨2,24,.struct [(0,3),(1,9)],.agg [.int .i64 0,.str []]⟩),
 (113,⟨5,64,.struct [(0,3),(1,30)],.agg [.int .i64 0,.int .i64 0,.int .i64 0,.str [],.slice 4 .nil []]⟩)]
theorem wg:fM al wc=true:=by kernel_rfl
theorem ahe:bX wc Og ajj 2 Tryz.f89=true:=by kernel_rfl
theorem aaM:al.funcs[(89:Nat)]? =some Tryz.f89:=Tryz.func89
theorem ahd:bX wc Oe ajh 1 Tryz.f162=true:=by kernel_rfl
theorem aaL:al.funcs[(162:Nat)]? =some Tryz.f162:=Tryz.func162
theorem ag8:bX wc N9 Lo 2 Tryz.f163=true:=by kernel_rfl
theorem aaG:al.funcs[(163:Nat)]? =some Tryz.f163:=Tryz.func163
theorem ag9:bX wc Oa Lp 2 Tryz.f164=true:=by kernel_rfl
theorem aaH:al.funcs[(164:Nat)]? =some Tryz.f164:=Tryz.func164
theorem ag5:bX wc N6 ajc 1 Tryz.f167=true:=by kernel_rfl
theorem aaD:al.funcs[(167:Nat)]? =some Tryz.f167:=Tryz.func167
theorem Uw:bX wc HO Lr 2 Tryz.f204=true:=by kernel_rfl
theorem QH:al.funcs[(204:Nat)]? =some Tryz.f204:=Tryz.func204
theorem ag6:bX wc N7 U9 3 Tryz.f206=true:=by kernel_rfl
theorem aaE:al.funcs[(206:Nat)]? =some Tryz.f206:=Tryz.func206
def S1(s:List ar)(l:List bJ)(i:Nat)(a:List bJ):Prop:=iV a∧ga s (l.drop i) a=ga s l []
theorem W1{s:List ar}(ag:eA s){l:List bJ}(au:iV l):bG al 163 [.slice 5 .no (s.map ar.e),.slice 2 .no (l.map bJ.e)] (fS (ga s l [])):=by
 have xg:=sD au;have cV:=oL ag;have dg:=WX au;refine bd wg aaG ag8 fun aP=>?_;unfold N9;simp;(with_reducible repeat' first|refine aj ?_|refine aD cV ?_|refine aE cV ?_|refine aD dg ?_|refine aE dg ?_|simp);refine dV [0,20,21] (fun i (a:List bJ)=>[(6,.slice 2 .no (a.map bJ.e)),(22,.int .i64 i)]) l.length (S1 s l) [] b1 ⟨⟨by simp,by simp⟩,rfl⟩ (fun a af _=>?_) (fun i a hi af _=>?_)
 ·obtain⟨_,af⟩:=af;rw[List.drop_length]at af;simp only[ga]at af;rw[←af];simp;(with_reducible repeat' first|refine aj ?_|simp);simp[bu,Lo,aX,aY,aV];simp[fS]
 ·obtain⟨bE,af⟩:=af;obtain⟨b,ae,cJ⟩:=ed hi;have n7:=au.at' b (eK ae);rw[la hi,cJ]at af;simp only[ga]at af;have gj:=als ag bE (.var b.v) (by simp[T.fit,T.ok,T.size,n7.1]) b.k;have br:((T.var b.v).ap (cA s)).size≤5000:=C4 ag b.v;rw[if_pos ⟨n7.2,br⟩,show(T.var b.v).ap (cA s)=cA s b.v from rfl]at gj;simp[hi,cJ];cases dN:ka a (cA s b.v) b.k with
  |none=>rw[dN]at af gj;simp only at af;rw[←af];simp only[fS]at gj;(with_reducible repeat' first|refine aj ?_|refine aD (kO _) ?_|refine aE (kO _) ?_|refine aD gj ?_|refine aE gj ?_|simp[cJ,hi]);simp[bu,Lo,aX,aY,aV];simp[fS]
  |some bm=>rw[dN]at af gj;simp only[fS]at gj;(with_reducible repeat' first|refine aj ?_|refine aD (kO _) ?_|refine aE (kO _) ?_|refine aD gj ?_|refine aE gj ?_|simp[cJ,hi]);exact bP.rng bm hi ⟨Hv bE (Aq ag n7.1) n7.2 dN,af⟩ b1
def S2(s:List ar)(G:List (List dB))(l:List bj)(i:Nat)(a:List bj):Prop:=hC a∧nI G a∧gb s (l.drop i) a=gb s l []
theorem W2{s:List ar}(ag:eA s){l:List bj}(au:hC l){G:List (List dB)}(jJ:G.length≤687000)(a1:nI G l):bG al 164 [.slice 5 .no (s.map ar.e),.slice 2 .no (l.map bj.e)] (ja (gb s l [])):=by
 have hlen:∀{a:List bj},hC a→nI G a→a.length≤68719470000:=fun J U=>by have:=Co J U;omega
 have xg:=hlen au a1;have cV:=oL ag;have dg:=WZ au;refine bd wg aaH ag9 fun aP=>?_;unfold Oa;simp;(with_reducible repeat' first|refine aj ?_|refine aD cV ?_|refine aE cV ?_|refine aD dg ?_|refine aE dg ?_|simp);refine dV [0,20,21] (fun i (a:List bj)=>[(6,.slice 2 .no (a.map bj.e)),(22,.int .i64 i)]) l.length (S2 s G l) [] b1 ⟨⟨by simp,by simp[hF]⟩,fun x ab=>by simp at ab,rfl⟩ (fun a af _=>?_) (fun i a hi af _=>?_)
 ·obtain⟨_,_,af⟩:=af;rw[List.drop_length]at af;simp only[gb]at af;rw[←af];simp;(with_reducible repeat' first|refine aj ?_|simp);simp[bu,Lp,aX,aY,aV];simp[ja]
 ·obtain⟨bE,B0,af⟩:=af;obtain⟨b,ae,cJ⟩:=ed hi;have n7:=au.at' b (eK ae);have Jh:=a1 b (eK ae);rw[la hi,cJ]at af;simp only[gb]at af;have gj:=alr ag bE (hlen bE B0) (.var b.v) (by simp[T.fit,T.ok,T.size,n7.1]) n7.2;have br:((T.var b.v).ap (cA s)).size≤5000:=C4 ag b.v;rw[if_pos br,show(T.var b.v).ap (cA s)=cA s b.v from rfl]at gj;simp[hi,cJ];cases dN:lL a (cA s b.v) b.s with
  |none=>rw[dN]at af gj;simp only at af;rw[←af];simp only[ja]at gj;(with_reducible repeat' first|refine aj ?_|refine aD (kO _) ?_|refine aE (kO _) ?_|refine aD gj ?_|refine aE gj ?_|simp[cJ,hi]);simp[bu,Lp,aX,aY,aV];simp[ja]
  |some bm=>rw[dN]at af gj;simp only[ja]at gj;(with_reducible repeat' first|refine aj ?_|refine aD (kO _) ?_|refine aE (kO _) ?_|refine aD gj ?_|refine aE gj ?_|simp[cJ,hi]);exact bP.rng bm hi ⟨Hx bE (Aq ag n7.1) n7.2 dN,Hy B0 Jh dN,af⟩ b1
end Go.Proofs.YtahlgcidhnjlbaaGreat
namespace Go.Proofs.YtahlgcidhnjlbaaGreat
open Go Go.Pv Go.Lib
def cE(d:List ar):ah:= .slice 5 .no (d.map ar.e)
@[simp] theorem apn(S:aH→Prop)(d:List ar):aC S (cE d)=True:=by simp[cE]
@[simp] theorem anv(d:List ar):cells (cE d)=[cE d]:=rfl
@[simp] theorem arv(d:List ar):dX (cE d)=true:=rfl
@[simp] theorem arX(d:List ar):dh (cE d)=cE d:=by simp[cE]
theorem Qk:∀(S:aH→Prop) (x:List ar),aC S (cE x):=fun S x=>by simp
theorem Kl(S:aH→Prop):∀l:List (List ar),aJ S (l.map cE)
 |[]=>by simp[aJ]
 |x::xs=>by simp[aJ,Kl S xs]
@[simp] theorem Tz(S:aH→Prop)(l:List (List ar)):aJ S (l.map cE)=True:=eq_true (Kl S l)
@[simp] theorem Mo:∀l:List (List ar),cR (l.map cE)=l.map cE
 |[]=>rfl
 |x::xs=>by simp[cR,Mo xs]
def fW(d:List cW):ah:= .slice 5 .no (d.map cW.e)
@[simp] theorem anz(d:List cW):cells (fW d)=[fW d]:=rfl
@[simp] theorem ary(d:List cW):dX (fW d)=true:=rfl
theorem Ii(d:List ar):fW (d.map ar.b)=cE d:=by simp only[fW,cE,xF]
theorem Ij(l:List (List ar)):(l.map fun d=>d.map ar.b).map fW=l.map cE:=by rw[List.map_map];exact List.map_congr_left fun d _=>Ii d
@[simp] theorem apr(S:aH→Prop)(d:List cW):aC S (fW d)=True:=by simp[fW]
@[simp] theorem ar0(d:List cW):dh (fW d)=fW d:=by simp[fW]
theorem TB(S:aH→Prop):∀l:List (List cW),aJ S (l.map fW)
 |[]=>by simp[aJ]
 |x::xs=>by simp[aJ,TB S xs]
@[simp] theorem api(S:aH→Prop)(l:List (List cW)):aJ S (l.map fW)=True:=eq_true (TB S l)
abbrev ti(l:List (List ar)):cI:=dM cE 821 822 46 1 l
theorem Hl(l:List (List ar)):ea (ti l):=wC Qk l
theorem acL(l:List (List ar))(au:l.length≤68719476736)(i j:Nat)(x y:List ar)(hi:l[i]? =some x)(af:l[j]? =some y):bN al 206 [.int .i64 i,.int .i64 j,.ptr (.obj 822) 0] (ti l) fun r ai=>r= .bool (hB ey x y)∧ai=ti l:=by have ag:=Hl l;obtain⟨lR,hv⟩:=fN.1 hi;obtain⟨dW,pJ⟩:=fN.1 af;have aS:bG al 207 [cE x,cE y] (.int .i64 (ey x y)):=G9 x y;unfold ti dM at ag⊢;refine bN.mk mixed wg aaE ag6 (by simp) ag.obj fun aP cP=>?_;unfold N7;simp[lR,dW,hv,pJ];(with_reducible repeat' first|refine aj ?_|refine aD aS ?_|refine aE aS ?_|simp[lR,dW,hv,pJ]);refine cS.at _ (.inl rfl) ag (Same.refl _) aR aR ?_;simp[cZ,U9,aX,aY,aV,hB]
noncomputable def Tryz.dsT:TypeInfo:=(al.info? 47).get (by kernel_rfl)
noncomputable def Tryz.dsE:TypeInfo:=(al.info? 46).get (by kernel_rfl)
theorem Tryz.dsK(n:Nat)(U:2≤n):Lib.swapperK n Tryz.dsE 23=9:=by
 have a:Tryz.dsE.hasPointers=true:=by kernel_rfl
 have b:Tryz.dsE.bytes=24:=by kernel_rfl
 have c:(n==0)=false:=by simp;omega
 have d:(n==1)=false:=by simp;omega
 simp[Lib.swapperK,a,b,c,d]
theorem adg(l:List (List ar))(au:l.length≤68719476736):bN al 140 [.iface 47 (.row 1 (.obj 821) l.length),.func 206 [.ptr (.obj 822) 0]] (ti l) fun r ai=>r= .tuple []∧ai=ti (oC ey l):=by
 refine(acO Qk (K:=821) (B:=822) (sz:=1) 47 Tryz.dsT Tryz.dsE (by kernel_rfl) (by kernel_rfl) (by kernel_rfl) (by kernel_rfl) 23 (fun _=>by kernel_rfl) Tryz.dsK 206 (hB ey) lC.ltOk l au (fun aZ h i j x y hi af=>acL aZ (by omega) i j x y hi af) (fun aZ h i j hi af=>?_)).mono ?_
 ·have:=Ro (P:=al) false 230 (fun args W=>run_callFunc_extern Tryz.func230 (by kernel_rfl) (by kernel_rfl) (by kernel_rfl) (e:=Du false) (by kernel_rfl) args W)
   46 Tryz.dsE (by kernel_rfl) (.inr ⟨by kernel_rfl,fun _=>by kernel_rfl⟩) (Hl aZ) (K:=821) (n:=l.length) (el:=46) (sz:=1) (by kernel_rfl) (xs:=aZ.map cE) (by simp[dM,Pv.look,h]) i j hi af
  refine this.mono ?_;rintro r ai ⟨rfl,rfl⟩;refine⟨rfl,?_⟩;simp[dM,cw,TT,h]
 ·rintro r ai ⟨rfl,aZ,rfl,J,U⟩;exact⟨rfl,by rw[Wr lC J U]⟩
end Go.Proofs.YtahlgcidhnjlbaaGreat
namespace Go.Proofs.YtahlgcidhnjlbaaGreat
open Go Go.Pv
inductive gQ where
 |s (l:List dB)
 |b (x:ByteArray)
def gQ.e:gQ→ah
 | .s l=>.str l
 | .b x=>.cst (.string x)
def gQ.len:gQ→Int
 | .s l=>l.length
 | .b x=>x.size
def mz(n:Nat):Prop:=lim<n∧n≤9223372036854775807
def gQ.wf:gQ→Prop
 | .s _=>True
 | .b x=>mz x.size
inductive c6 (α:Type) where
 |l (xs:List α)
 |b (p:Option Addr) (n cap:Nat)
def c6.e{α:Type}(sz:Nat)(f:α→ah):c6 α→ah
 | .l xs=>.slice sz .no (xs.map f)
 | .b p n cap=>.cst (.slice p n cap)
def c6.wf{α:Type}(P:α→Prop):c6 α→Prop
 | .l xs=> ∀x∈xs,P x
 | .b _ n _=>mz n
inductive cq where
 |mk (k n:Int) (s:gQ) (a:List cq)
 |big (k n:Int) (s:gQ) (p:Option Addr) (len cap:Nat)
mutual
def cq.e:cq→ah
 | .mk k n s a=>.agg [.int .i64 k,.int .i64 n,s.e,.slice 4 .no (cq.eL a)]
 | .big k n s p len cap=>.agg [.int .i64 k,.int .i64 n,s.e,.cst (.slice p len cap)]
def cq.eL:List cq→List ah
 |[]=>[]
 |x::xs=>x.e::cq.eL xs
end
theorem cq.eL_map:∀l,cq.eL l=l.map cq.e
 |[]=>rfl
 |x::xs=>by simp[cq.eL,cq.eL_map xs]
def cq.kind:cq→Int| .mk k _ _ _=>k| .big k _ _ _ _ _=>k
def cq.num:cq→Int| .mk _ n _ _=>n| .big _ n _ _ _ _=>n
def cq.name:cq→gQ| .mk _ _ s _=>s| .big _ _ s _ _ _=>s
def cq.args:cq→c6 cq| .mk _ _ _ a=>.l a| .big _ _ _ p l c=>.b p l c
theorem cq.e_eq(t:cq):t.e= .agg [.int .i64 t.kind,.int .i64 t.num,t.name.e,t.args.e 4 cq.e]:=by
 cases t with
 |mk k n s a=>simp only[cq.e,cq.eL_map];rfl
 |big=>rfl
@[simp] theorem apv(S:aH→Prop)(s:gQ):aC S s.e=True:=by cases s<;>simp[gQ.e,aC]
@[simp] theorem ar3(s:gQ):dh s.e=s.e:=by cases s<;>simp[gQ.e,dh]
mutual
theorem TD(S:aH→Prop):∀t:cq,aC S t.e
 | .mk k n s a=>by simp[cq.e,aC,aJ,Km S a]
 | .big k n s p l c=>by simp[cq.e,aC,aJ]
theorem Km(S:aH→Prop):∀l:List cq,aJ S (cq.eL l)
 |[]=>by simp[cq.eL,aJ]
 |x::xs=>by simp[cq.eL,aJ,TD S x,Km S xs]
end
mutual
theorem Ww:∀t:cq,dh t.e=t.e
 | .mk k n s a=>by simp[cq.e,dh,cR,Mp a]
 | .big k n s p l c=>by simp[cq.e,dh,cR]
theorem Mp:∀l:List cq,cR (cq.eL l)=cq.eL l
 |[]=>by simp[cq.eL,cR]
 |x::xs=>by simp[cq.eL,cR,Ww x,Mp xs]
end
@[simp] theorem apJ(S:aH→Prop)(t:cq):aC S t.e=True:=eq_true (TD S t)
@[simp] theorem apg(S:aH→Prop)(l:List cq):aJ S (l.map cq.e)=True:=by rw[←cq.eL_map];exact eq_true (Km S l)
@[simp] theorem asb(t:cq):dh t.e=t.e:=Ww t
@[simp] theorem arT(l:List cq):cR (l.map cq.e)=l.map cq.e:=by rw[←cq.eL_map];exact Mp l
@[simp] theorem arQ(t:cq):dX t.e=true:=by rw[cq.e_eq];rfl
@[simp] theorem aoZ(t:cq):Pv.isAgg 4 t.e:=by rw[cq.e_eq];exact⟨_,rfl,rfl⟩
@[simp] theorem anS(t:cq):cells t.e=[.int .i64 t.kind,.int .i64 t.num,t.name.e,t.args.e 4 cq.e]:=by rw[cq.e_eq];rfl
@[simp] theorem apu(S:aH→Prop)(x:c6 cq):aC S (x.e 4 cq.e)=True:=by cases x<;>simp[c6.e,aC]
@[simp] theorem ar2(x:c6 cq):dh (x.e 4 cq.e)=x.e 4 cq.e:=by cases x<;>simp[c6.e,dh]
mutual
def cq.sz:cq→Nat
 | .mk _ _ _ a=>1+cq.szL a
 | .big _ _ _ _ _ _=>1
def cq.szL:List cq→Nat
 |[]=>0
 |x::xs=>x.sz+cq.szL xs
end
theorem cq.szL_mem:∀{l:List cq} {x:cq},x∈l→x.sz≤cq.szL l
 |y::l,x,h=>by
  rcases fU.1 h with rfl|h
  ·simp[cq.szL]
  ·have:=cq.szL_mem h;simp[cq.szL];omega
mutual
def cq.wf:cq→Prop
 | .mk _ _ s a=>s.wf∧cq.wfL a
 | .big _ _ s _ l _=>s.wf∧mz l
def cq.wfL:List cq→Prop
 |[]=>True
 |x::xs=>x.wf∧cq.wfL xs
end
theorem cq.wfL_iff:∀{l:List cq},cq.wfL l↔∀x∈l,x.wf
 |[]=>by simp[cq.wfL]
 |x::l=>by simp[cq.wfL,cq.wfL_iff (l:=l)]
def jQ{α:Type}(f:α→Int→Int):List α→Int→Int
 |[],m=>m
 |x::xs,m=>if f x m<0 then-1 else jQ f xs (f x m)
def oG{α:Type}(f:α→Int→Int)(l:List α)(m:Int):Int:=if m-l.length<0 then-1 else jQ f l (m-l.length)
def gE{α:Type}(f:α→Int→Int):c6 α→Int→Int
 | .l xs,m=>oG f xs m
 | .b _ _ _,_=> -1
theorem WA{α:Type}{f:α→Int→Int}(aI:∀x m,0≤m→ -1≤f x m∧f x m≤m):∀(l:List α) (m:Int),0≤m→ -1≤jQ f l m∧jQ f l m≤m
 |[],m,h=>by simp only[jQ];omega
 |x::xs,m,h=>by
  have J:=aI x m h;simp only[jQ];split
  ·omega
  ·have U:=WA aI xs (f x m) (by omega);omega
theorem alb{α:Type}{f:α→Int→Int}(aI:∀x m,0≤m→ -1≤f x m∧f x m≤m)(l:List α)(m:Int)(h:0≤m): -1≤oG f l m∧oG f l m≤m:=by
 unfold oG;split
 ·omega
 ·have:=WA aI l (m-l.length) (by omega);omega
theorem uE{α:Type}{f:α→Int→Int}(aI:∀x m,0≤m→ -1≤f x m∧f x m≤m)(l:c6 α)(m:Int)(h:0≤m): -1≤gE f l m∧gE f l m≤m:=by
 cases l with
 |l xs=>exact alb aI xs m h
 |b=>simp only[gE];omega
mutual
def gM:cq→Int→Int
 | .mk _ _ s a,m=>if m-s.len<0 then-1 else if m-s.len-a.length<0 then-1 else sW a (m-s.len-a.length)
 | .big _ _ s _ _ _,m=>if m-s.len<0 then-1 else-1
def sW:List cq→Int→Int
 |[],m=>m
 |x::xs,m=>if gM x m<0 then-1 else sW xs (gM x m)
end
theorem WC:∀(l:List cq) (m:Int),sW l m=jQ gM l m
 |[],m=>rfl
 |x::xs,m=>by simp only[sW,jQ,WC xs]
theorem GS(t:cq)(m:Int):gM t m=if m-t.name.len<0 then-1 else gE gM t.args (m-t.name.len):=by
 cases t with
 |mk=>simp only[gM,gE,oG,WC,cq.name,cq.args];rfl
 |big=>simp only[gM,gE,cq.name,cq.args];rfl
theorem gQ.len_nn(s:gQ):0≤s.len:=by cases s<;>simp[gQ.len]
mutual
theorem uF:∀(t:cq) (m:Int),0≤m→ -1≤gM t m∧gM t m≤m
 | .mk _ _ s a,m,h=>by
  have:=s.len_nn;simp only[gM];split
  ·omega
  ·split
   ·omega
   ·have:=WD a (m-s.len-a.length) (by omega);omega
 | .big _ _ s _ _ _,m,h=>by simp only[gM];split<;>omega
theorem WD:∀(l:List cq) (m:Int),0≤m→ -1≤sW l m∧sW l m≤m
 |[],m,h=>by simp only[sW];omega
 |x::xs,m,h=>by
  have J:=uF x m h;simp only[sW];split
  ·omega
  ·have U:=WD xs (gM x m) (by omega);omega
end
theorem gQ.small{s:gQ}(hw:s.wf){m:Int}(bB:m≤1048576)(h:0≤m-s.len):∃l,s= .s l:=by
 cases s with
 |s l=>exact⟨l,rfl⟩
 |b x=>simp only[gQ.wf,mz,lim]at hw;simp only[gQ.len]at h;omega
mutual
def uH:bF→cq
 | .mk k n s a=>.mk k n (.s s) (Ax a)
def Ax:List bF→List cq
 |[]=>[]
 |x::xs=>uH x::Ax xs
end
mutual
theorem GW:∀t:bF,(uH t).e=enc t
 | .mk k n s a=>by simp only[uH,cq.e,enc,WK a];rfl
theorem WK:∀l:List bF,cq.eL (Ax l)=o1 l
 |[]=>rfl
 |x::xs=>by simp only[Ax,cq.eL,o1,GW x,WK xs]
end
mutual
theorem GU:∀(t:cq) (m:Int),t.wf→m≤1048576→0≤m→0≤gM t m→∃u:bF,t=uH u
 | .mk k n s a,m,hw,J,bB,h=>by
  simp only[cq.wf]at hw;simp only[gM]at h;have:=s.len_nn;split at h
  ·omega
  rename_i g;obtain⟨l,rfl⟩:=gQ.small hw.1 J (by omega);split at h
  ·omega
  obtain⟨b,ae⟩:=WE a _ hw.2 (by omega) (by omega) h;exact⟨.mk k n l b,by simp only[uH,ae]⟩
 | .big _ _ s _ _ _,m,_,_,_,h=>by simp only[gM]at h;split at h<;>omega
theorem WE:∀(l:List cq) (m:Int),cq.wfL l→m≤1048576→0≤m→0≤sW l m→∃u:List bF,l=Ax u
 |[],_,_,_,_,_=>⟨[],rfl⟩
 |x::xs,m,hw,J,bB,h=>by
  simp only[cq.wfL]at hw;simp only[sW]at h;have U:=uF x m bB;split at h
  ·omega
  obtain⟨u,hu⟩:=GU x m hw.1 J bB (by omega);obtain⟨v,aK⟩:=WE xs _ hw.2 (by omega) (by omega) h;exact⟨u::v,by simp only[Ax,hu,aK]⟩
end
theorem WB{α β:Type}{f:α→Int→Int}{P:α→Prop}{g:β→α}(hle:∀x m,0≤m→ -1≤f x m∧f x m≤m)(ag:∀x m,P x→m≤1048576→0≤m→0≤f x m→∃y,x=g y):∀(l:List α) (m:Int),(∀x∈l,P x)→m≤1048576→0≤m→0≤jQ f l m→∃u:List β,l=u.map g
 |[],_,_,_,_,_=>⟨[],rfl⟩
 |x::xs,m,hw,J,bB,h=>by
  simp only[jQ]at h;have U:=hle x m bB;split at h
  ·omega
  obtain⟨u,hu⟩:=ag x m (hw x (by simp)) J bB (by omega);obtain⟨v,aK⟩:=WB hle ag xs _ (fun y aG=>hw y (by simp[aG])) (by omega) (by omega) h;exact⟨u::v,by rw[gG,←hu,←aK]⟩
theorem Mt{α β:Type}{f:α→Int→Int}{P:α→Prop}{g:β→α}(hle:∀x m,0≤m→ -1≤f x m∧f x m≤m)(ag:∀x m,P x→m≤1048576→0≤m→0≤f x m→∃y,x=g y)(l:c6 α)(m:Int)(hw:l.wf P)(J:m≤1048576)(bB:0≤m)(h:0≤gE f l m):∃u:List β,l= .l (u.map g):=by
 cases l with
 |b=>simp only[gE]at h;omega
 |l xs=>
  simp only[gE,oG]at h;split at h
  ·omega
  obtain⟨u,hu⟩:=WB hle ag xs _ hw (by omega) (by omega) h;exact⟨u,by rw[hu]⟩
end Go.Proofs.YtahlgcidhnjlbaaGreat
namespace Go.Proofs.YtahlgcidhnjlbaaGreat
open Go Go.Pv Go.ChangeShapes Go.WideShapes Go.ChangeAt Go.RowKit Go.Deep
def qk(W:World):bc:=⟨fun b o=> ∃u,W.cell? ⟨b,o,none⟩=some u,fun _=>none,fun _=>none,fun _ _ _=>eo⟩
theorem TH(W:World)(b:Nat):∀(us:List Value) (off:Nat),(∀i u,us[i]? =some u→W.cell? ⟨b,off+i,none⟩=some u)→lA W (qk W).A b off us
 |[],_,_=>trivial
 |u::us,off,h=>by
  have bB:W.cell? ⟨b,off,none⟩=some u:=by simpa using h 0 u rfl
  exact⟨⟨⟨u,bB⟩,bB⟩,TH W b us (off+1) fun i e6 hu=>by have:=h (i+1) e6 (by simpa using hu);rwa[show off+(i+1)=off+1+i from by omega]at this⟩
section
variable {H:Type} {enc:fT×Value→H} {W:World} {spare:Nat→Bool} {held:Bool}
def reads(W:World)(p:ah)(cs:List Value):Prop:= ∃v:Value,v.cells.toList=cs∧a7 W (qk W) p v∧∀c∈cs,c.oneCell'=true
theorem Ai{W:World}{cg:List ah}{cs:List Value}(h:cY W (qk W) cg cs):reads W (.agg cg) cs:=by
 refine⟨.agg cs.toArray,by simp[po],by simp only[a7];exact⟨cs.toArray,rfl,by simpa using h⟩,?_⟩;have:∀(cg:List ah) (cs:List Value),cY W (qk W) cg cs→∀c∈cs,c.oneCell'=true:=by
  intro cg;induction cg with
  |nil=>intro cs h;simp only[cY]at h;subst h;simp
  |cons p cg bS=>
   intro cs h c ay;simp only[cY]at h;obtain⟨u,us,rfl,J,U⟩:=h;rcases fU.1 ay with rfl|ay
   ·exact J.2
   ·exact bS us U c ay
 exact this cg cs h
def ux(W:World)(p:ah)(v:Value):Prop:=a7 W (qk W) p v∧v.oneCell'=true∧v.cells= #[v]
theorem ux.reads{W:World}{p:ah}{v:Value}(h:ux W p v):reads W p [v]:=⟨v,by rw[h.2.2],h.1,fun c ay=>by simp at ay;subst ay;exact h.2.1⟩
theorem YF{W:World}{wE wG k j:Nat}:W.cell? (((⟨wE,wG,none⟩:Addr).add k).add j)=W.cell? ⟨wE,wG+(k+j),none⟩:=by rw[add_add,Addr.add_lit]
theorem C7{α:Type}{t e:fT}{sz:Nat}(f:α→ah)(Q:α→Prop)(aN:al.underlying t=some (.slice e))(ay:al.cellsOf e=sz)(ef:0<sz){fuel:Nat}
  (adW:∀n cs x,n<fuel→iN enc al W 0 spare held n e cs=some x→∃a:α,Q a∧reads W (f a) cs)
  {cs:List Value} {x:DataW H×List MemPlace} (h:iN enc al W 0 spare held fuel t cs=some x):∃l:c6 α,l.wf Q∧∃v,cs=[v]∧ux W (l.e sz f) v:=by
 rcases DataW.trod_slice aN h with⟨rfl,_⟩|⟨a,len,cap,elems,rest,n,rfl,rfl,_,_,au,hm,hlen,RT,_,_⟩
 ·refine⟨.l [],by simp[c6.wf],_,rfl,?_,rfl,rfl⟩;simp only[c6.e,mC,a7];exact⟨⟨none,0,rfl,by simp,⟨by simp[maxLen],by simp[lim]⟩,.inl (by simp)⟩,fun e=>(by cases e),fun g e=>(by cases e),fun _ _ e=>(by cases e),fun _ e=>(by cases e)⟩
 by_cases EF:lim<len
 ·refine⟨.b (some a) len cap,⟨EF,by unfold maxLen at hm;omega⟩,_,rfl,?_,rfl,rfl⟩;simp only[c6.e,a7]
 rcases Nat.eq_zero_or_pos len with rfl|fp
 ·refine⟨.l [],by simp[c6.wf],_,rfl,?_,rfl,rfl⟩;simp only[c6.e,mC,a7];exact⟨⟨some a,cap,rfl,by simp,⟨hm,by simp[lim]⟩,.inl (by simp)⟩,fun e=>(by cases e),fun g e=>(by cases e),fun _ _ e=>(by cases e),fun _ e=>(by cases e)⟩
 rw[ay]at RT;have gU:∀i,i<len→∃cs',cs'.length=sz∧(∀j,j<sz→W.cell? ((a.add (i*sz)).add j)=cs'[j]?)∧∃b:α,Q b∧reads W (f b) cs':=by intro i hi;have J:=RT i hi;rw[cf (by omega)]at J;obtain⟨cs',U,ao⟩:=mF.1 J;obtain⟨_,a8,bZ⟩:=World.cells?_some U;exact⟨cs',a8,bZ,adW n cs' _ (by omega) ao⟩
 obtain⟨wE,wG,spot⟩:=a;have aeX:spot=none:=by obtain⟨cs',J,U,_⟩:=gU 0 fp;have ao:=U 0 ef;rw[cf (by omega)]at ao;simpa[Addr.add]using World.cell?_spot ao
 subst aeX;have YM:∀d,d≤len→∃xs:List α,xs.length=d∧(∀x∈xs,Q x)∧∃us:List Value,us.length=d*sz∧dA W (qk W) sz (xs.map f) us∧∀j u,us[j]? =some u→W.cell? ⟨wE,wG+((len-d)*sz+j),none⟩=some u:=by
  intro d;induction d with
  |zero=>intro _;exact⟨[],rfl,by simp,[],by simp,by simp[dA],by simp⟩
  |succ d bS=>
   intro aQ;obtain⟨xs,ak,aB,us,bf,dd,gS⟩:=bS (by omega);obtain⟨cs',bH,cj,b,ae,v,v1,v2,v3⟩:=gU (len-(d+1)) (by omega);have hmul:(len-d)*sz=(len-(d+1))*sz+sz:=by rw[show len-d=(len-(d+1))+1 from by omega,Nat.succ_mul]
   refine⟨b::xs,by simp[ak],fun x ab=>?_,cs'++us,by rw[pq,bH,bf,Nat.succ_mul];omega,?_,fun j u af=>?_⟩
   ·rcases fU.1 ab with rfl|ab
    ·exact ae
    ·exact aB x ab
   ·simp only[gG,dA];exact⟨v,us,by rw[v1],⟨v2,by rw[←bH,←v1];simp,by rw[v1];exact v3⟩,dd⟩
   ·rcases Nat.lt_or_ge j sz with bC|tL
    ·rw[List.getElem?_append_left (by omega)]at af;have:=cj j bC;rw[YF]at this;rw[this];exact af
    ·rw[List.getElem?_append_right (by omega),bH]at af;have:=gS (j-sz) u af;rwa[show(len-d)*sz+(j-sz)=(len-(d+1))*sz+j from by omega]at this
 obtain⟨xs,ak,aB,us,bf,dd,gS⟩:=YM len (eR _);refine⟨.l xs,aB,_,rfl,?_,rfl,rfl⟩;simp only[c6.e,a7];refine⟨⟨some ⟨wE,wG,none⟩,cap,by rw[List.length_map,ak],by rw[List.length_map,ak];exact au,⟨hm,by rw[List.length_map,ak];omega⟩,.inr ⟨wE,wG,us,rfl,TH W wE us wG fun i u hu=>?_,dd⟩⟩,fun e=>(by cases e),fun g e=>(by cases e),fun _ _ e=>(by cases e),fun _ e=>(by cases e)⟩;have:=gS i u hu;simpa using this
end
end Go.Proofs.YtahlgcidhnjlbaaGreat
namespace Go.Proofs.YtahlgcidhnjlbaaGreat
open Go Go.Pv
@[simp] def aqQ:List bt:=[.tmp 2]
def tu:C:=(aa [cx 2 0,bV 4 0] (aa [I 5 1,aF 6 2 1 2,ax 7 1 6,b5 8 (.slen (.t 7)),bo 9 .sub 5 8,I 1 9] (.seq (aa [I 10 1,aU 11 .lss 10 0] (aT 11 (aa [bV 4 (-1)] .ret) .skip)) (aa [aF 12 3 1 2,ax 13 1 12,I 14 1,b7 15 16 13 14,I 1 15] (.seq (aa [I 16 1,aU 17 .lss 16 0] (aT 17 (aa [bV 4 (-1)] .ret) .skip)) (aa [I 18 1,I 4 18] .ret))))))
@[simp] def ajG:List bt:=[.tmp 4]
def HX:C:=(aa [bV 4 0] (aa [I 6 1,I 7 0,cn 8 7,bo 9 .sub 6 8,I 1 9] (.seq (aa [I 10 1,aU 11 .lss 10 0] (aT 11 (aa [bV 4 (-1)] .ret) .skip)) (.seq (aa [bV 5 0] (.block 0 (.loop (.seq (aa [I 12 5,I 13 0,cn 14 13,bo 15 .lss 12 14] (aT 15 .skip (.exit 0))) (.seq (.block 1 (aa [I 18 0,I 19 5,ct 20 4 18 19,aW 21 4 20,I 22 1,b7 23 15 21 22,I 1 23] (aa [I 24 1,aU 25 .lss 24 0] (aT 25 (aa [bV 4 (-1)] .ret) .skip)))) (.region [I 16 5,aU 17 .add 16 1,I 5 17])))))) (aa [I 26 1,I 4 26] .ret)))))
@[simp] def ajH:List bt:=[.tmp 4]
def O3:C:=(aa [cx 1 0,dk 2 dO] (aa [dk 3 dO] (aa [aF 4 0 1 1,ax 5 1 4,aF 6 0 1 3,bK 1 6 5] (aa [aF 7 1 1 1,ax 8 1 7,aF 9 1 1 3,bK 1 9 8] (aa [aF 10 2 1 1,ax 11 1 10,aF 12 2 1 3,bK 1 12 11] (aa [aF 13 3 1 1,ax 14 1 13,cD 15 19 14,aF 16 3 1 3,bK 1 16 15] (aa [aW 17 4 3,bK 4 2 17] .ret)))))))
@[simp] def ajP:List bt:=[.cell 2 true 4]
def O4:C:=(aa [ej 2 4] (aa [I 5 0,cn 6 5,c3 (.mks 7 none 4 30 (.agg dO) (.t 6)),I 3 7] (.seq (aa [bV 4 0] (.block 0 (.loop (.seq (aa [I 8 4,I 9 0,cn 10 9,bo 11 .lss 8 10] (aT 11 .skip (.exit 0))) (.seq (.block 1 (.region [I 14 3,I 15 4,I 16 0,I 17 4,ct 18 4 16 17,aW 19 4 18,cD 20 18 19,ct 21 4 14 15,bK 4 21 20])) (.region [I 12 4,aU 13 .add 12 1,I 4 13])))))) (.seq (.pub 3 (.region [I 22 3,I 2 22])) .ret))))
@[simp] def ajQ:List bt:=[.tmp 2]
def OU:C:=(aa [be 4 false] (.seq (aa [I 6 0,cn 7 6,I 8 1,cn 9 8,bo 10 .neq 7 9] (aT 10 (aa [be 4 false] .ret) .skip)) (.seq (aa [bV 5 0] (.block 0 (.loop (.seq (aa [I 11 5,I 12 0,cn 13 12,bo 14 .lss 11 13] (aT 14 .skip (.exit 0))) (.seq (.block 1 (.seq (.drawn true 27 [I 17 0,I 18 5,ct 19 4 17 18,aW 20 4 19,I 21 1,I 22 5,ct 23 4 21 22,aW 24 4 23,b7 25 22 20 24,cu 26 25]) (aT 26 (aa [be 4 false] .ret) .skip))) (.region [I 15 5,aU 16 .add 15 1,I 5 16])))))) (aa [be 4 true] .ret))))
@[simp] def ajy:List bt:=[.tmp 4]
def OT:C:=(aa [cx 2 0,cx 3 1,be 4 false] (.seq (aa [aF 5 0 1 2,ax 6 1 5,aF 7 0 1 3,ax 8 1 7,bo 9 .neq 6 8] (aT 9 (aa [be 4 false] .ret) .skip)) (.seq (aa [aF 10 1 1 2,ax 11 1 10,aF 12 1 1 3,ax 13 1 12,bo 14 .neq 11 13] (aT 14 (aa [be 4 false] .ret) .skip)) (.seq (aa [aF 15 2 1 2,ax 16 1 15,aF 17 2 1 3,ax 18 1 17,bo 19 .neq 16 18] (aT 19 (aa [be 4 false] .ret) .skip)) (.seq (aa [aF 20 3 1 2,ax 21 1 20,aF 22 3 1 3,ax 23 1 22,b7 24 21 21 23,cu 25 24] (aT 25 (aa [be 4 false] .ret) .skip)) (aa [be 4 true] .ret))))))
@[simp] def ajx:List bt:=[.tmp 4]
def yz:C:=(aa [cx 2 0,bV 4 0] (aa [aF 5 1 1 2,ax 6 1 5,I 7 1,b7 8 33 6 7,I 1 8] (.seq (aa [I 9 1,aU 10 .lss 9 0] (aT 10 (aa [bV 4 (-1)] .ret) .skip)) (aa [aF 11 2 1 2,ax 12 1 11,I 13 1,b7 14 72 12 13,I 1 14] (.seq (aa [I 15 1,aU 16 .lss 15 0] (aT 16 (aa [bV 4 (-1)] .ret) .skip)) (aa [aF 17 3 1 2,ax 18 1 17,I 19 1,b7 20 73 18 19,I 1 20] (.seq (aa [I 21 1,aU 22 .lss 21 0] (aT 22 (aa [bV 4 (-1)] .ret) .skip)) (aa [aF 23 4 1 2,ax 24 1 23,I 25 1,b7 26 74 24 25,I 1 26] (.seq (aa [I 27 1,aU 28 .lss 27 0] (aT 28 (aa [bV 4 (-1)] .ret) .skip)) (aa [I 29 1,I 4 29] .ret))))))))))
@[simp] def ajF:List bt:=[.tmp 4]
def O2:C:=(aa [cx 1 0,dk 2 hy] (aa [dk 3 hy] (aa [aF 4 0 1 1,ax 5 1 4,aF 6 0 1 3,bK 1 6 5] (aa [aF 7 1 1 1,ax 8 1 7,cD 9 35 8,aF 10 1 1 3,bK 1 10 9] (aa [aF 11 2 1 1,ax 12 1 11,cD 13 83 12,aF 14 2 1 3,bK 1 14 13] (aa [aF 15 3 1 1,ax 16 1 15,cD 17 84 16,aF 18 3 1 3,bK 1 18 17] (aa [aF 19 4 1 1,ax 20 1 19,cD 21 85 20,aF 22 4 1 3,bK 1 22 21] (aa [aW 23 5 3,bK 5 2 23] .ret))))))))
@[simp] def ajO:List bt:=[.cell 2 true 5]
def OS:C:=(aa [cx 2 0,cx 3 1,be 4 false] (.seq (aa [aF 5 0 1 2,ax 6 1 5,aF 7 0 1 3,ax 8 1 7,bo 9 .neq 6 8] (aT 9 (aa [be 4 false] .ret) .skip)) (.seq (aa [aF 10 1 1 2,ax 11 1 10,aF 12 1 1 3,ax 13 1 12,b7 14 37 11 13,cu 15 14] (aT 15 (aa [be 4 false] .ret) .skip)) (.seq (aa [aF 16 2 1 2,ax 17 1 16,aF 18 2 1 3,ax 19 1 18,b7 20 92 17 19,cu 21 20] (aT 21 (aa [be 4 false] .ret) .skip)) (.seq (aa [aF 22 3 1 2,ax 23 1 22,aF 24 3 1 3,ax 25 1 24,b7 26 93 23 25,cu 27 26] (aT 27 (aa [be 4 false] .ret) .skip)) (.seq (aa [aF 28 4 1 2,ax 29 1 28,aF 30 4 1 3,ax 31 1 30,b7 32 94 29 31,cu 33 32] (aT 33 (aa [be 4 false] .ret) .skip)) (aa [be 4 true] .ret)))))))
@[simp] def ajw:List bt:=[.tmp 4]
def HU:C:=(aa [bV 4 0] (aa [I 6 1,I 7 0,cn 8 7,bo 9 .sub 6 8,I 1 9] (.seq (aa [I 10 1,aU 11 .lss 10 0] (aT 11 (aa [bV 4 (-1)] .ret) .skip)) (.seq (aa [bV 5 0] (.block 0 (.loop (.seq (aa [I 12 5,I 13 0,cn 14 13,bo 15 .lss 12 14] (aT 15 .skip (.exit 0))) (.seq (.block 1 (aa [I 18 0,I 19 5,ct 20 5 18 19,aW 21 5 20,I 22 1,b7 23 97 21 22,I 1 23] (aa [I 24 1,aU 25 .lss 24 0] (aT 25 (aa [bV 4 (-1)] .ret) .skip)))) (.region [I 16 5,aU 17 .add 16 1,I 5 17])))))) (aa [I 26 1,I 4 26] .ret)))))
@[simp] def ajB:List bt:=[.tmp 4]
def OY:C:=(aa [ej 2 5] (aa [I 5 0,cn 6 5,c3 (.mks 7 none 5 113 (.agg jA) (.t 6)),I 3 7] (.seq (aa [bV 4 0] (.block 0 (.loop (.seq (aa [I 8 4,I 9 0,cn 10 9,bo 11 .lss 8 10] (aT 11 .skip (.exit 0))) (.seq (.block 1 (.region [I 14 3,I 15 4,I 16 0,I 17 4,ct 18 5 16 17,aW 19 5 18,cD 20 101 19,ct 21 5 14 15,bK 5 21 20])) (.region [I 12 4,aU 13 .add 12 1,I 4 13])))))) (.seq (.pub 3 (.region [I 22 3,I 2 22])) .ret))))
@[simp] def ajK:List bt:=[.tmp 2]
def OO:C:=(aa [be 4 false] (.seq (aa [I 6 0,cn 7 6,I 8 1,cn 9 8,bo 10 .neq 7 9] (aT 10 (aa [be 4 false] .ret) .skip)) (.seq (aa [bV 5 0] (.block 0 (.loop (.seq (aa [I 11 5,I 12 0,cn 13 12,bo 14 .lss 11 13] (aT 14 .skip (.exit 0))) (.seq (.block 1 (.seq (.drawn true 27 [I 17 0,I 18 5,ct 19 5 17 18,aW 20 5 19,I 21 1,I 22 5,ct 23 5 21 22,aW 24 5 23,b7 25 103 20 24,cu 26 25]) (aT 26 (aa [be 4 false] .ret) .skip))) (.region [I 15 5,aU 16 .add 15 1,I 5 16])))))) (aa [be 4 true] .ret))))
@[simp] def ajs:List bt:=[.tmp 4]
def HV:C:=(aa [bV 4 0] (aa [I 6 1,I 7 0,cn 8 7,bo 9 .sub 6 8,I 1 9] (.seq (aa [I 10 1,aU 11 .lss 10 0] (aT 11 (aa [bV 4 (-1)] .ret) .skip)) (.seq (aa [bV 5 0] (.block 0 (.loop (.seq (aa [I 12 5,I 13 0,cn 14 13,bo 15 .lss 12 14] (aT 15 .skip (.exit 0))) (.seq (.block 1 (aa [I 18 0,I 19 5,ct 20 1 18 19,ax 21 1 20,I 22 1,b7 23 33 21 22,I 1 23] (aa [I 24 1,aU 25 .lss 24 0] (aT 25 (aa [bV 4 (-1)] .ret) .skip)))) (.region [I 16 5,aU 17 .add 16 1,I 5 17])))))) (aa [I 26 1,I 4 26] .ret)))))
@[simp] def ajC:List bt:=[.tmp 4]
def DW:C:=(aa [bV 4 0] (aa [I 5 1,I 6 0,cn 7 6,bo 8 .sub 5 7,I 1 8] (.seq (aa [I 9 1,aU 10 .lss 9 0] (aT 10 (aa [bV 4 (-1)] .ret) .skip)) (aa [I 11 1,I 4 11] .ret))))
@[simp] def ajI:List bt:=[.tmp 4]
def HW:C:=(aa [bV 4 0] (aa [I 6 1,I 7 0,cn 8 7,bo 9 .sub 6 8,I 1 9] (.seq (aa [I 10 1,aU 11 .lss 10 0] (aT 11 (aa [bV 4 (-1)] .ret) .skip)) (.seq (aa [bV 5 0] (.block 0 (.loop (.seq (aa [I 12 5,I 13 0,cn 14 13,bo 15 .lss 12 14] (aT 15 .skip (.exit 0))) (.seq (.block 1 (aa [I 18 0,I 19 5,ct 20 2 18 19,aW 21 2 20,I 22 1,b7 23 144 21 22,I 1 23] (aa [I 24 1,aU 25 .lss 24 0] (aT 25 (aa [bV 4 (-1)] .ret) .skip)))) (.region [I 16 5,aU 17 .add 16 1,I 5 17])))))) (aa [I 26 1,I 4 26] .ret)))))
@[simp] def ajE:List bt:=[.tmp 4]
def OZ:C:=(aa [ej 2 1] (aa [I 5 0,cn 6 5,c3 (.mks 7 none 1 46 (.slice 5 .nil []) (.t 6)),I 3 7] (.seq (aa [bV 4 0] (.block 0 (.loop (.seq (aa [I 8 4,I 9 0,cn 10 9,bo 11 .lss 8 10] (aT 11 .skip (.exit 0))) (.seq (.block 1 (.region [I 14 3,I 15 4,I 16 0,I 17 4,ct 18 1 16 17,ax 19 1 18,cD 20 35 19,ct 21 1 14 15,bK 1 21 20])) (.region [I 12 4,aU 13 .add 12 1,I 4 13])))))) (.seq (.pub 3 (.region [I 22 3,I 2 22])) .ret))))
@[simp] def ajL:List bt:=[.tmp 2]
def O6:C:=(aa [ej 2 2] (aa [I 5 0,cn 6 5,c3 (.mks 7 none 2 98 (.agg [.int .i64 0,.int .i64 0]) (.t 6)),I 3 7] (.seq (aa [bV 4 0] (.block 0 (.loop (.seq (aa [I 8 4,I 9 0,cn 10 9,bo 11 .lss 8 10] (aT 11 .skip (.exit 0))) (.seq (.block 1 (.region [I 14 3,I 15 4,I 16 0,I 17 4,ct 18 2 16 17,aW 19 2 18,cD 20 156 19,ct 21 2 14 15,bK 2 21 20])) (.region [I 12 4,aU 13 .add 12 1,I 4 13])))))) (.seq (.pub 3 (.region [I 22 3,I 2 22])) .ret))))
@[simp] def ajS:List bt:=[.tmp 2]
def O1:C:=(aa [ej 2 2] (aa [I 5 0,cn 6 5,c3 (.mks 7 none 2 100 (.agg [.int .i64 0,.str []]) (.t 6)),I 3 7] (.seq (aa [bV 4 0] (.block 0 (.loop (.seq (aa [I 8 4,I 9 0,cn 10 9,bo 11 .lss 8 10] (aT 11 .skip (.exit 0))) (.seq (.block 1 (.region [I 14 3,I 15 4,I 16 0,I 17 4,ct 18 2 16 17,aW 19 2 18,cD 20 157 19,ct 21 2 14 15,bK 2 21 20])) (.region [I 12 4,aU 13 .add 12 1,I 4 13])))))) (.seq (.pub 3 (.region [I 22 3,I 2 22])) .ret))))
@[simp] def ajN:List bt:=[.tmp 2]
def OP:C:=(aa [be 4 false] (.seq (aa [I 6 0,cn 7 6,I 8 1,cn 9 8,bo 10 .neq 7 9] (aT 10 (aa [be 4 false] .ret) .skip)) (.seq (aa [bV 5 0] (.block 0 (.loop (.seq (aa [I 11 5,I 12 0,cn 13 12,bo 14 .lss 11 13] (aT 14 .skip (.exit 0))) (.seq (.block 1 (.seq (.drawn true 27 [I 17 0,I 18 5,ct 19 1 17 18,ax 20 1 19,I 21 1,I 22 5,ct 23 1 21 22,ax 24 1 23,b7 25 37 20 24,cu 26 25]) (aT 26 (aa [be 4 false] .ret) .skip))) (.region [I 15 5,aU 16 .add 15 1,I 5 16])))))) (aa [be 4 true] .ret))))
@[simp] def ajt:List bt:=[.tmp 4]
def OW:C:=(aa [be 4 false] (.seq (aa [I 6 0,cn 7 6,I 8 1,cn 9 8,bo 10 .neq 7 9] (aT 10 (aa [be 4 false] .ret) .skip)) (.seq (aa [bV 5 0] (.block 0 (.loop (.seq (aa [I 11 5,I 12 0,cn 13 12,bo 14 .lss 11 13] (aT 14 .skip (.exit 0))) (.seq (.block 1 (.seq (.drawn true 27 [I 17 0,I 18 5,ct 19 2 17 18,aW 20 2 19,I 21 1,I 22 5,ct 23 2 21 22,aW 24 2 23,b7 25 170 20 24,cu 26 25]) (aT 26 (aa [be 4 false] .ret) .skip))) (.region [I 15 5,aU 16 .add 15 1,I 5 16])))))) (aa [be 4 true] .ret))))
@[simp] def ajA:List bt:=[.tmp 4]
def OR:C:=(aa [be 4 false] (.seq (aa [I 6 0,cn 7 6,I 8 1,cn 9 8,bo 10 .neq 7 9] (aT 10 (aa [be 4 false] .ret) .skip)) (.seq (aa [bV 5 0] (.block 0 (.loop (.seq (aa [I 11 5,I 12 0,cn 13 12,bo 14 .lss 11 13] (aT 14 .skip (.exit 0))) (.seq (.block 1 (.seq (.drawn true 27 [I 17 0,I 18 5,ct 19 2 17 18,aW 20 2 19,I 21 1,I 22 5,ct 23 2 21 22,aW 24 2 23,b7 25 171 20 24,cu 26 25]) (aT 26 (aa [be 4 false] .ret) .skip))) (.region [I 15 5,aU 16 .add 15 1,I 5 16])))))) (aa [be 4 true] .ret))))
@[simp] def ajv:List bt:=[.tmp 4]
def HT:C:=(aa [cx 2 0,bV 4 0] (aa [hD 5 1 4 2,aW 6 4 5,I 7 1,b7 8 15 6 7,I 1 8] (.seq (aa [I 9 1,aU 10 .lss 9 0] (aT 10 (aa [bV 4 (-1)] .ret) .skip)) (aa [I 11 1,I 4 11] .ret))))
@[simp] def Lw:List bt:=[.tmp 4]
def OX:C:=(aa [cx 1 0,dk 2 jA] (aa [dk 3 jA] (aa [aF 4 0 1 1,ax 5 1 4,aF 6 0 1 3,bK 1 6 5] (aa [hD 7 1 4 1,aW 8 4 7,cD 9 18 8,hD 10 1 4 3,bK 4 10 9] (aa [aW 11 5 3,bK 5 2 11] .ret)))))
@[simp] def ajJ:List bt:=[.cell 2 true 5]
def ON:C:=(aa [cx 2 0,cx 3 1,be 4 false] (.seq (aa [aF 5 0 1 2,ax 6 1 5,aF 7 0 1 3,ax 8 1 7,bo 9 .neq 6 8] (aT 9 (aa [be 4 false] .ret) .skip)) (.seq (aa [hD 10 1 4 2,aW 11 4 10,hD 12 1 4 3,aW 13 4 12,b7 14 22 11 13,cu 15 14] (aT 15 (aa [be 4 false] .ret) .skip)) (aa [be 4 true] .ret))))
@[simp] def ajr:List bt:=[.tmp 4]
def DV:C:=(aa [cx 2 0,bV 4 0] (aa [I 5 1,aF 6 1 1 2,ax 7 1 6,b5 8 (.slen (.t 7)),bo 9 .sub 5 8,I 1 9] (.seq (aa [I 10 1,aU 11 .lss 10 0] (aT 11 (aa [bV 4 (-1)] .ret) .skip)) (aa [I 12 1,I 4 12] .ret))))
@[simp] def ajD:List bt:=[.tmp 4]
def O5:C:=(aa [cx 1 0,c3 (.alloc 2 none (.agg [.int .i64 0,.int .i64 0]))] (aa [c3 (.alloc 3 none (.agg [.int .i64 0,.int .i64 0]))] (aa [aF 4 0 1 1,ax 5 1 4,aF 6 0 1 3,bK 1 6 5] (aa [aF 7 1 1 1,ax 8 1 7,aF 9 1 1 3,bK 1 9 8] (aa [aW 10 2 3,bK 2 2 10] .ret)))))
@[simp] def ajR:List bt:=[.cell 2 true 2]
def O0:C:=(aa [cx 1 0,c3 (.alloc 2 none (.agg [.int .i64 0,.str []]))] (aa [c3 (.alloc 3 none (.agg [.int .i64 0,.str []]))] (aa [aF 4 0 1 1,ax 5 1 4,aF 6 0 1 3,bK 1 6 5] (aa [aF 7 1 1 1,ax 8 1 7,aF 9 1 1 3,bK 1 9 8] (aa [aW 10 2 3,bK 2 2 10] .ret)))))
@[simp] def ajM:List bt:=[.cell 2 true 2]
def OV:C:=(aa [cx 2 0,cx 3 1,be 4 false] (.seq (aa [aF 5 0 1 2,ax 6 1 5,aF 7 0 1 3,ax 8 1 7,bo 9 .neq 6 8] (aT 9 (aa [be 4 false] .ret) .skip)) (.seq (aa [aF 10 1 1 2,ax 11 1 10,aF 12 1 1 3,ax 13 1 12,bo 14 .neq 11 13] (aT 14 (aa [be 4 false] .ret) .skip)) (aa [be 4 true] .ret))))
@[simp] def ajz:List bt:=[.tmp 4]
def OQ:C:=(aa [cx 2 0,cx 3 1,be 4 false] (.seq (aa [aF 5 0 1 2,ax 6 1 5,aF 7 0 1 3,ax 8 1 7,bo 9 .neq 6 8] (aT 9 (aa [be 4 false] .ret) .skip)) (.seq (aa [aF 10 1 1 2,ax 11 1 10,aF 12 1 1 3,ax 13 1 12,bo 14 .neq 11 13] (aT 14 (aa [be 4 false] .ret) .skip)) (aa [be 4 true] .ret))))
@[simp] def aju:List bt:=[.tmp 4]
def im:List (Nat×dC):=[
 (3,⟨1,8,.int .i64,.int .i64 0⟩),
 (4,⟨1,1,.bool,.bool false⟩),
 (9,⟨1,16,.str,.str []⟩),
 (22,⟨1,24,.slice 24,.slice 4 .nil []⟩),
 (24,⟨4,56,.struct [(0,3),(1,3),(2,9),(3,22)],.agg [.int .i64 0,.int .i64 0,.str [],.slice 4 .nil []]⟩),
 (27,⟨1,24,.slice 30,.slice 4 .nil []⟩),
 (30,⟨4,56,.struct [(0,3),(1,3),(2,9),(3,27)],.agg [.int .i64 0,.int .i64 0,.str [],.slice 4 .nil []]⟩),
 (38,⟨1,24,.slice 111,.slice 5 .nil []⟩),
 (39,⟨1,24,.slice 38,.slice 1 .nil []⟩),
 (40,⟨1,24,.slice 158,.slice 2 .nil []⟩),
 (41,⟨1,24,.slice 146,.slice 2 .nil []⟩),
 (43,⟨5,104,.struct [(0,3),(1,38),(2,39),(3,40),(4,41)],.agg [.int .i64 0,.slice 5 .nil [],.slice 1 .nil [],.slice 2 .nil [],.slice 2 .nil []]⟩),
 (46,⟨1,24,.slice 113,.slice 5 .nil []⟩),
 (47,⟨1,24,.slice 46,.slice 1 .nil []⟩),
 (48,⟨1,24,.slice 98,.slice 2 .nil []⟩),
 (49,⟨1,24,.slice 100,.slice 2 .nil []⟩),
 (51,⟨5,104,.struct [(0,3),(1,46),(2,47),(3,48),(4,49)],.agg [.int .i64 0,.slice 5 .nil [],.slice 1 .nil [],.slice 2 .nil [],.slice 2 .nil []]⟩),
 (98,⟨2,16,.struct [(0,3),(1,3)],.agg [.int .i64 0,.int .i64 0]⟩),
 (100,⟨2,24,.struct [(0,3),(1,9)],.agg [.int .i64 0,.str []]⟩),
 (111,⟨5,64,.struct [(0,3),(1,24)],.agg [.int .i64 0,.int .i64 0,.int .i64 0,.str [],.slice 4 .nil []]⟩),
 (113,⟨5,64,.struct [(0,3),(1,30)],.agg [.int .i64 0,.int .i64 0,.int .i64 0,.str [],.slice 4 .nil []]⟩),
 (146,⟨2,24,.struct [(0,3),(1,9)],.agg [.int .i64 0,.str []]⟩),
 (158,⟨2,16,.struct [(0,3),(1,3)],.agg [.int .i64 0,.int .i64 0]⟩)]
theorem fB:fM al im=true:=by kernel_rfl
theorem vM:bX im tu ajG 2 Tryz.f15=true:=by kernel_rfl
theorem u2:al.funcs[(15:Nat)]? =some Tryz.f15:=Tryz.func15
theorem UF:bX im HX ajH 2 Tryz.f16=true:=by kernel_rfl
theorem QQ:al.funcs[(16:Nat)]? =some Tryz.f16:=Tryz.func16
theorem ahX:bX im O3 ajP 1 Tryz.f18=true:=by kernel_rfl
theorem abw:al.funcs[(18:Nat)]? =some Tryz.f18:=Tryz.func18
theorem ahY:bX im O4 ajQ 1 Tryz.f19=true:=by kernel_rfl
theorem abx:al.funcs[(19:Nat)]? =some Tryz.f19:=Tryz.func19
theorem ahO:bX im OU ajy 2 Tryz.f21=true:=by kernel_rfl
theorem abm:al.funcs[(21:Nat)]? =some Tryz.f21:=Tryz.func21
theorem ahN:bX im OT ajx 2 Tryz.f22=true:=by kernel_rfl
theorem abl:al.funcs[(22:Nat)]? =some Tryz.f22:=Tryz.func22
theorem CC:bX im yz ajF 2 Tryz.f26=true:=by kernel_rfl
theorem Be:al.funcs[(26:Nat)]? =some Tryz.f26:=Tryz.func26
theorem ahW:bX im O2 ajO 1 Tryz.f28=true:=by kernel_rfl
theorem abv:al.funcs[(28:Nat)]? =some Tryz.f28:=Tryz.func28
theorem ahM:bX im OS ajw 2 Tryz.f30=true:=by kernel_rfl
theorem abk:al.funcs[(30:Nat)]? =some Tryz.f30:=Tryz.func30
theorem UC:bX im HU ajB 2 Tryz.f33=true:=by kernel_rfl
theorem QN:al.funcs[(33:Nat)]? =some Tryz.f33:=Tryz.func33
theorem ahS:bX im OY ajK 1 Tryz.f35=true:=by kernel_rfl
theorem abq:al.funcs[(35:Nat)]? =some Tryz.f35:=Tryz.func35
theorem ahI:bX im OO ajs 2 Tryz.f37=true:=by kernel_rfl
theorem abg:al.funcs[(37:Nat)]? =some Tryz.f37:=Tryz.func37
theorem UD:bX im HV ajC 2 Tryz.f72=true:=by kernel_rfl
theorem QO:al.funcs[(72:Nat)]? =some Tryz.f72:=Tryz.func72
theorem K6:bX im DW ajI 2 Tryz.f73=true:=by kernel_rfl
theorem IG:al.funcs[(73:Nat)]? =some Tryz.f73:=Tryz.func73
theorem UE:bX im HW ajE 2 Tryz.f74=true:=by kernel_rfl
theorem QP:al.funcs[(74:Nat)]? =some Tryz.f74:=Tryz.func74
theorem ahT:bX im OZ ajL 1 Tryz.f83=true:=by kernel_rfl
theorem abr:al.funcs[(83:Nat)]? =some Tryz.f83:=Tryz.func83
theorem ah0:bX im O6 ajS 1 Tryz.f84=true:=by kernel_rfl
theorem abz:al.funcs[(84:Nat)]? =some Tryz.f84:=Tryz.func84
theorem ahV:bX im O1 ajN 1 Tryz.f85=true:=by kernel_rfl
theorem abu:al.funcs[(85:Nat)]? =some Tryz.f85:=Tryz.func85
theorem ahJ:bX im OP ajt 2 Tryz.f92=true:=by kernel_rfl
theorem abh:al.funcs[(92:Nat)]? =some Tryz.f92:=Tryz.func92
theorem ahQ:bX im OW ajA 2 Tryz.f93=true:=by kernel_rfl
theorem abo:al.funcs[(93:Nat)]? =some Tryz.f93:=Tryz.func93
theorem ahL:bX im OR ajv 2 Tryz.f94=true:=by kernel_rfl
theorem abj:al.funcs[(94:Nat)]? =some Tryz.f94:=Tryz.func94
theorem UB:bX im HT Lw 2 Tryz.f97=true:=by kernel_rfl
theorem QM:al.funcs[(97:Nat)]? =some Tryz.f97:=Tryz.func97
theorem ahR:bX im OX ajJ 1 Tryz.f101=true:=by kernel_rfl
theorem abp:al.funcs[(101:Nat)]? =some Tryz.f101:=Tryz.func101
theorem ahH:bX im ON ajr 2 Tryz.f103=true:=by kernel_rfl
theorem abf:al.funcs[(103:Nat)]? =some Tryz.f103:=Tryz.func103
theorem K5:bX im DV ajD 2 Tryz.f144=true:=by kernel_rfl
theorem IF:al.funcs[(144:Nat)]? =some Tryz.f144:=Tryz.func144
theorem ahZ:bX im O5 ajR 1 Tryz.f156=true:=by kernel_rfl
theorem aby:al.funcs[(156:Nat)]? =some Tryz.f156:=Tryz.func156
theorem ahU:bX im O0 ajM 1 Tryz.f157=true:=by kernel_rfl
theorem abt:al.funcs[(157:Nat)]? =some Tryz.f157:=Tryz.func157
theorem ahP:bX im OV ajz 2 Tryz.f170=true:=by kernel_rfl
theorem abn:al.funcs[(170:Nat)]? =some Tryz.f170:=Tryz.func170
theorem ahK:bX im OQ aju 2 Tryz.f171=true:=by kernel_rfl
theorem abi:al.funcs[(171:Nat)]? =some Tryz.f171:=Tryz.func171
def h5{α:Type}(f:α→ah)(z:ah)(l:List α)(i:Nat):List ah:=(l.take i).map f++qP (l.length-i) z
theorem ou{α:Type}(f:α→ah)(z:ah)(l:List α):h5 f z l 0=qP l.length z:=by simp[h5]
theorem Cs{α:Type}(f:α→ah)(z:ah)(l:List α):h5 f z l l.length=l.map f:=by simp[h5]
theorem Ct{α:Type}(f:α→ah)(z:ah)(l:List α){i:Nat}(hi:i<l.length):(h5 f z l i)[i]? =some z:=by
 unfold h5;have h:((l.take i).map f).length=i:=by simp;omega
 rw[List.getElem?_append_right (by omega),h,Nat.sub_self,List.getElem?_replicate,if_pos (by omega)]
theorem Cu{α:Type}(f:α→ah)(z:ah)(l:List α){i:Nat}{x:α}(ab:l[i]? =some x):(h5 f z l i).set i (f x)=h5 f z l (i+1):=by
 have hi:=(fN.1 ab).1;unfold h5;have h:((l.take i).map f).length=i:=by simp;omega
 rw[List.set_append_right _ _ (by omega),h,Nat.sub_self,oH ab,List.map_append,List.append_assoc];congr 1;obtain⟨m,hm⟩:∃m,l.length-i=m+1:=⟨l.length-i-1,by omega⟩;rw[hm,show l.length-(i+1)=m from by omega,List.replicate_succ,List.set_cons_zero];rfl
theorem To(S:aH→Prop):∀{a b:List ah},aJ S (a++b)↔aJ S a∧aJ S b
 |[],b=>by simp[aJ]
 |x::a,b=>by simp[aJ,To S (a:=a),and_assoc]
theorem Tq{α:Type}(S:aH→Prop)(f:α→ah)(aI:∀x,aC S (f x)):∀l:List α,aJ S (l.map f)
 |[]=>by simp[aJ]
 |x::xs=>by simp[aJ,Tq S f aI xs,aI]
theorem xA(S:aH→Prop)(z:ah)(br:aC S z):∀n,aJ S (qP n z)
 |0=>by simp[aJ]
 |n+1=>by simp[List.replicate_succ,aJ,xA S z br n,br]
theorem Ch{α:Type}(S:aH→Prop)(f:α→ah)(z:ah)(l:List α)(i:Nat)(aI:∀x,aC S (f x))(br:aC S z):aJ S (h5 f z l i):=by unfold h5;rw[To];exact⟨Tq S f aI _,xA S z br _⟩
theorem Xo(l:c6 cq)(hw:∀p n cap,l= .b p n cap→mz n)(aI:∀xs,l= .l xs→∀x∈xs,∀m,0≤m→m≤1048576→bG al 15 [cq.e x,.int .i64 m] (.int .i64 (gM x m)))(m:Int)(bB:0≤m)(J:m≤1048576):bG al 16 [l.e 4 cq.e,.int .i64 m] (.int .i64 (gE gM l m)):=by
 cases l with
 |b p n cap=>
  have aw:=hw p n cap rfl;simp only[mz,lim]at aw;have g:m-n<0:=by omega
  simp only[c6.e,gE];clear hw aI;refine bd fB QQ UF fun aP=>?_;unfold HX;exact b0
 |l l=>
 have aI:=aI l rfl;clear hw;simp only[c6.e,gE];generalize bh:oG gM l m=R;unfold oG at bh;refine bd fB QQ UF fun aP=>?_;unfold HX;have eT:l.length≤68719476736:=by simp[eC,ec,ev,lim]at aP;omega
 simp;by_cases g:m-l.length<0
 ·rw[if_pos g]at bh;subst bh;exact b0
 rw[if_neg g]at bh;(with_reducible repeat' first|refine aj ?_|simp[g]);refine dV [0] (fun i (k:Int)=>[(1,.int .i64 k),(5,.int .i64 i)]) l.length (fun i k=>(0≤k∧k≤1048576)∧jQ gM (l.drop i) k=R) (m-l.length) b1 ⟨⟨by omega,by omega⟩,by simpa using bh⟩ (fun k af _=>?_) (fun i k hi af _=>?_)
 ·obtain⟨_,af⟩:=af;rw[List.drop_length]at af;simp only[jQ]at af;subst af;exact b0
 ·obtain⟨⟨ff,aS⟩,af⟩:=af;obtain⟨x,ab,cy⟩:=ed hi;have key:=aI x (eK ab) k ff aS;have hle:=uF x k ff;rw[sH ab]at af;simp only[jQ]at af;generalize gM x k=q at key hle af;clear ab;by_cases bn:q<0
  ·rw[if_pos bn]at af;subst af;exact b0
  ·rw[if_neg bn]at af;simp[hi,cy];((with_reducible repeat' first|refine aj ?_|refine aD key ?_|refine aE key ?_|simp[hi,cy,bn]|((first|apply bM|apply bR|apply bQ)<;>intro h<;>try simp at h))<;>(try exact ch));all_goals exact bP.rng q hi ⟨⟨by omega,by omega⟩,af⟩ b1
theorem amL(l:List bF)(aI:∀x∈l,bG al 18 [enc x] (enc x)):bG al 19 [.slice 4 .no (l.map enc)] (.slice 4 .no (l.map enc)):=by
 refine bd fB abx ahY fun aP=>?_;unfold O4;have eT:l.length≤68719476736:=by simp[eC,ec,ev,lim]at aP;omega
 simp;all_goals first|(refine⟨by unfold lim;omega,?_⟩)|skip
 (with_reducible repeat' first|refine aj ?_|simp);have fl:∀(S:aH→Prop) (n:Nat),aJ S (qP n (.agg [.int .i64 0,.int .i64 0,.str [],.slice 4 .nil []]))=True:=fun S n=>eq_true (xA S _ (by simp[aC,aJ]) n);refine hR (fun i (_:Unit)=>⟨[(0,.slice 4 .no (l.map enc)),(3,.row 4 (.loc 0) l.length),(4,.int .i64 i)],[],[(.loc 0,⟨l.length,30,4,some (h5 enc (.agg [.int .i64 0,.int .i64 0,.str [],.slice 4 .nil []]) l i)⟩)],1,[]⟩) l.length (fun _ _=>True) () ⟨by simp[fresh,aJ,aC,cd,inObs,Pv.look,ou,fl],dY (by simp[fresh,aJ,aC,cd,inObs,Pv.look,ou,fl]),dZ (by simp[fresh,aJ,aC,dP,inObs,Pv.look,ou,fl]),by simp⟩ trivial (fun _ _ _=>?_) (fun i _ hi _ _=>?_)
 ·rw[Cs];exact b0
 ·obtain⟨x,ab,cy⟩:=ed hi;have key:=aI x (eK ab);have ak:=Ct enc (.agg [.int .i64 0,.int .i64 0,.str [],.slice 4 .nil []]) l hi;have aB:=Cu enc (.agg [.int .i64 0,.int .i64 0,.str [],.slice 4 .nil []]) l ab;have bf:∀S:aH→Prop,aJ S (h5 enc (.agg [.int .i64 0,.int .i64 0,.str [],.slice 4 .nil []]) l (i+1)):=fun S=>Ch S _ _ _ _ (fun x=>by simp) (by simp[aC,aJ]);generalize h5 enc (.agg [.int .i64 0,.int .i64 0,.str [],.slice 4 .nil []]) l i=r0 at ak aB;generalize o8:h5 enc (.agg [.int .i64 0,.int .i64 0,.str [],.slice 4 .nil []]) l (i+1)=dI at aB bf;clear ab;simp[hi,cy];(with_reducible repeat' first|refine aj ?_|refine aD key ?_|refine aE key ?_|simp[hi,cy,ak,aB]);all_goals refine bP.rng () hi trivial ?_
  all_goals rw[o8]
  all_goals first
   |exact⟨by simp[fresh,aJ,aC,cd,inObs,Pv.look,bf],dY (by simp[fresh,aJ,aC,cd,inObs,Pv.look,bf]),dZ (by simp[fresh,aJ,aC,dP,inObs,Pv.look,bf]),by simp⟩
   |exact⟨by simp[fresh,aJ,aC,cd,inObs,Pv.look,bf],dY (by simp[fresh,aJ,aC,cd,inObs,Pv.look,bf]),dZ (by simp[fresh,aJ,aC,dP,inObs,Pv.look,bf];exact aB),by simp⟩
theorem alQ(l:List bF)(aI:∀x∈l,bG al 22 [enc x,enc x] (.bool true)):bG al 21 [.slice 4 .no (l.map enc),.slice 4 .no (l.map enc)] (.bool true):=by
 refine bd fB abm ahO fun aP=>?_;unfold OU;have eT:l.length≤68719476736:=by simp[eC,ec,ev,lim]at aP;omega
 simp;(with_reducible repeat' first|refine aj ?_|simp);refine dV [0,1] (fun i (_:Unit)=>[(5,.int .i64 i)]) l.length (fun _ _=>True) () b1 trivial (fun _ _ _=>?_) (fun i _ hi _ _=>?_)
 ·exact b0
 ·obtain⟨x,ab,cy⟩:=ed hi;have key:=aI x (eK ab);clear ab;exact hO
theorem MT(t:cq)(hw:t.wf):∀m:Int,0≤m→m≤1048576→bG al 15 [t.e,.int .i64 m] (.int .i64 (gM t m)):=by
 suffices H:∀(k:Nat) (t:cq),t.sz≤k→t.wf→∀m:Int,0≤m→m≤1048576→bG al 15 [t.e,.int .i64 m] (.int .i64 (gM t m))from H _ t (eR _) hw
 intro k;clear hw t;induction k with
 |zero=>intro t aN;cases t<;>simp[cq.sz]at aN
 |succ k bS=>
  intro t aN hw m bB J;cases t with
  |mk oI oJ s a=>
   simp only[cq.wf,cq.wfL_iff]at hw;obtain⟨BZ,BA⟩:=hw;have ki:m-s.len<0→gM (.mk oI oJ s a) m= -1:=fun g=>by rw[GS];exact if_pos g
   have kj:¬m-s.len<0→gM (.mk oI oJ s a) m=gE gM (.l a) (m-s.len):=fun g=>by rw[GS];exact if_neg g
   generalize gM (.mk oI oJ s a) m=R at ki kj;have BQ:=s.len_nn;have key:=fun h=>Xo (.l a) (fun p n c e=>by cases e) (fun xs e x ab=>by cases e;exact bS x (by have:=cq.szL_mem ab;simp only[cq.sz]at aN;omega) (BA x ab)) (m-s.len) h (by omega);have hle:=fun h=>uE uF (.l a) (m-s.len) h;simp only[cq.e,cq.eL_map];simp only[c6.e]at key;clear aN BA;cases s with
   |b x=>
    simp only[gQ.wf,mz,lim]at BZ;have g:m-x.size<0:=by omega
    have bh:=ki g;subst bh;clear ki kj;clear key hle bS;simp only[gQ.e];refine bd fB u2 vM fun aP=>?_;unfold tu;exact b0
   |s l=>
    simp only[gQ.len]at ki kj key hle;simp only[gQ.e];by_cases g:m-l.length<0
    ·have bh:=ki g;subst bh;clear ki kj;clear key hle bS;refine bd fB u2 vM fun aP=>?_;unfold tu;have eT:l.length≤68719476736:=by simp[eC,ec,ev,lim]at aP;omega
     exact b0
    ·have bh:=kj g;clear ki kj;have key:=key (by omega);have hle:=hle (by omega);rw[←bh]at key hle;clear bh bS;by_cases bn:R<0
     ·have:R= -1:=by omega
      subst this;refine bd fB u2 vM fun aP=>?_;unfold tu;have eT:l.length≤68719476736:=by simp[eC,ec,ev,lim]at aP;omega
      exact b0
     ·refine bd fB u2 vM fun aP=>?_;unfold tu;have eT:l.length≤68719476736:=by simp[eC,ec,ev,lim]at aP;omega
      exact b0
  |big oI oJ s p n c=>
   simp only[cq.wf]at hw;obtain⟨BZ,BA⟩:=hw;have ki:m-s.len<0→gM (.big oI oJ s p n c) m= -1:=fun g=>by rw[GS];exact if_pos g
   have kj:¬m-s.len<0→gM (.big oI oJ s p n c) m=gE gM (.b p n c) (m-s.len):=fun g=>by rw[GS];exact if_neg g
   generalize gM (.big oI oJ s p n c) m=R at ki kj;have BQ:=s.len_nn;have key:=fun h=>Xo (.b p n c) (fun p n c e=>by cases e;exact BA) (fun xs e=>by cases e) (m-s.len) h (by omega);have hle:=fun h=>uE uF (.b p n c) (m-s.len) h;simp only[cq.e];simp only[c6.e]at key;clear aN BA;cases s with
   |b x=>
    simp only[gQ.wf,mz,lim]at BZ;have g:m-x.size<0:=by omega
    have bh:=ki g;subst bh;clear ki kj;clear key hle bS;simp only[gQ.e];refine bd fB u2 vM fun aP=>?_;unfold tu;exact b0
   |s l=>
    simp only[gQ.len]at ki kj key hle;simp only[gQ.e];by_cases g:m-l.length<0
    ·have bh:=ki g;subst bh;clear ki kj;clear key hle bS;refine bd fB u2 vM fun aP=>?_;unfold tu;have eT:l.length≤68719476736:=by simp[eC,ec,ev,lim]at aP;omega
     exact b0
    ·have bh:=kj g;clear ki kj;have key:=key (by omega);have hle:=hle (by omega);rw[←bh]at key hle;clear bh bS;by_cases bn:R<0
     ·have:R= -1:=by omega
      subst this;refine bd fB u2 vM fun aP=>?_;unfold tu;have eT:l.length≤68719476736:=by simp[eC,ec,ev,lim]at aP;omega
      exact b0
     ·refine bd fB u2 vM fun aP=>?_;unfold tu;have eT:l.length≤68719476736:=by simp[eC,ec,ev,lim]at aP;omega
      exact b0
theorem MU(t:bF):bG al 18 [enc t] (enc t):=by
 suffices H:∀(k:Nat) (t:bF),t.sz≤k→bG al 18 [enc t] (enc t)from H _ t (eR _)
 intro k;induction k with
 |zero=>intro t aN;cases t;simp[bF.sz]at aN
 |succ k bS=>intro t aN;have key:=amL t.args (fun x ab=>bS x (by have:=Mv ab;omega));clear bS;refine bd fB abw ahX fun aP=>?_;unfold O3;exact b0
theorem MH(t:bF):bG al 22 [enc t,enc t] (.bool true):=by
 suffices H:∀(k:Nat) (t:bF),t.sz≤k→bG al 22 [enc t,enc t] (.bool true)from H _ t (eR _)
 intro k;induction k with
 |zero=>intro t aN;cases t;simp[bF.sz]at aN
 |succ k bS=>intro t aN;have key:=alQ t.args (fun x ab=>bS x (by have:=Mv ab;omega));clear bS;refine bd fB abl ahN fun aP=>?_;unfold OT;exact b0
structure e0 where
 v:Int
 t:cq
def e0.e(b:e0):ah:= .agg [.int .i64 b.v,.int .i64 b.t.kind,.int .i64 b.t.num,b.t.name.e,b.t.args.e 4 cq.e]
@[simp] theorem apl(S:aH→Prop)(b:e0):aC S b.e=True:=by simp[e0.e,aC,aJ]
@[simp] theorem arV(b:e0):dh b.e=b.e:=by simp[e0.e,dh,cR]
theorem Ts(S:aH→Prop):∀l:List e0,aJ S (l.map e0.e)
 |[]=>by simp[aJ]
 |x::xs=>by simp[aJ,Ts S xs]
@[simp] theorem apa(S:aH→Prop)(l:List e0):aJ S (l.map e0.e)=True:=eq_true (Ts S l)
@[simp] theorem arp(b:e0):dX b.e=true:=rfl
@[simp] theorem aoS(b:e0):Pv.isAgg 5 b.e:=⟨_,rfl,rfl⟩
@[simp] theorem ans(b:e0):cells b.e=[.int .i64 b.v,.int .i64 b.t.kind,.int .i64 b.t.num,b.t.name.e,b.t.args.e 4 cq.e]:=rfl
structure hd where
 v:Int
 s:gQ
def hd.e(b:hd):ah:= .agg [.int .i64 b.v,b.s.e]
@[simp] theorem apy(S:aH→Prop)(b:hd):aC S b.e=True:=by simp[hd.e,aC,aJ]
@[simp] theorem ar7(b:hd):dh b.e=b.e:=by simp[hd.e,dh,cR]
theorem Tx(S:aH→Prop):∀l:List hd,aJ S (l.map hd.e)
 |[]=>by simp[aJ]
 |x::xs=>by simp[aJ,Tx S xs]
@[simp] theorem apf(S:aH→Prop)(l:List hd):aJ S (l.map hd.e)=True:=eq_true (Tx S l)
@[simp] theorem arI(b:hd):dX b.e=true:=rfl
@[simp] theorem aoX(b:hd):Pv.isAgg 2 b.e:=⟨_,rfl,rfl⟩
@[simp] theorem anK(b:hd):cells b.e=[.int .i64 b.v,b.s.e]:=rfl
def rQ(b:e0)(m:Int):Int:=gM b.t m
theorem Ms(b:e0)(m:Int)(h:0≤m): -1≤rQ b m∧rQ b m≤m:=uF b.t m h
def lG(b:hd)(m:Int):Int:=if m-b.s.len<0 then-1 else m-b.s.len
theorem Dd(b:hd)(m:Int)(h:0≤m): -1≤lG b m∧lG b m≤m:=by have:=b.s.len_nn;unfold lG;split<;>omega
theorem DG(t:cq):ah.agg [.int .i64 t.kind,.int .i64 t.num,t.name.e,t.args.e 4 cq.e]=t.e:=(cq.e_eq t).symm
theorem amw(b:e0)(hw:b.t.wf)(m:Int)(bB:0≤m)(J:m≤1048576):bG al 97 [b.e,.int .i64 m] (.int .i64 (rQ b m)):=by
 have key:=MT b.t hw m bB J;have hle:=uF b.t m bB;unfold rQ;generalize gM b.t m=q at key hle⊢;by_cases bn:q<0
 ·have:q= -1:=by omega
  subst this;refine bd fB QM UB fun aP=>?_;unfold HT;simp[DG];(with_reducible repeat' first|refine aj ?_|refine aD key ?_|refine aE key ?_|simp[DG]);all_goals simp[bu,Lw,aX,aY,aV]
 ·refine bd fB QM UB fun aP=>?_;unfold HT;simp[DG];(with_reducible repeat' first|refine aj ?_|refine aD key ?_|refine aE key ?_|simp[bn,DG]);all_goals simp[bu,Lw,aX,aY,aV]
theorem amF(b:cW):bG al 101 [b.e] b.e:=by have key:=MU b.t;refine bd fB abp ahR fun aP=>?_;unfold OX;exact b0
theorem alK(b:cW):bG al 103 [b.e,b.e] (.bool true):=by have key:=MH b.t;refine bd fB abf ahH fun aP=>?_;unfold ON;exact b0
theorem amz(b:hd)(hw:b.s.wf)(m:Int)(bB:0≤m)(J:m≤1048576):bG al 144 [b.e,.int .i64 m] (.int .i64 (lG b m)):=by
 have ki:m-b.s.len<0→lG b m= -1:=fun g=>if_pos g;have kj:¬m-b.s.len<0→lG b m=m-b.s.len:=fun g=>if_neg g;generalize lG b m=R at ki kj;obtain⟨v,s⟩:=b;simp only[hd.e]at hw ki kj⊢;cases s with
 |b x=>
  simp only[gQ.wf,mz,lim]at hw;have g:m-x.size<0:=by omega
  have bh:=ki g;subst bh;clear ki kj;simp only[gQ.e];refine bd fB IF K5 fun aP=>?_;unfold DV;exact b0
 |s l=>
  simp only[gQ.e];by_cases g:m-l.length<0
  ·have bh:=ki g;subst bh;clear ki kj hw;refine bd fB IF K5 fun aP=>?_;unfold DV;have eT:l.length≤68719476736:=by simp[eC,ec,ev,lim]at aP;omega
   exact b0
  ·have bh:R=m-l.length:=kj g;subst bh;clear ki kj hw;refine bd fB IF K5 fun aP=>?_;unfold DV;have eT:l.length≤68719476736:=by simp[eC,ec,ev,lim]at aP;omega
   exact b0
theorem amM(b:bJ):bG al 156 [b.e] b.e:=by refine bd fB aby ahZ fun aP=>?_;unfold O5;exact b0
theorem amI(b:bj):bG al 157 [b.e] b.e:=by refine bd fB abt ahU fun aP=>?_;unfold O0;exact b0
theorem alR(b:bJ):bG al 170 [b.e,b.e] (.bool true):=by refine bd fB abn ahP fun aP=>?_;unfold OV;exact b0
theorem alN(b:bj):bG al 171 [b.e,b.e] (.bool true):=by refine bd fB abi ahK fun aP=>?_;unfold OQ;exact b0
@[simp high] theorem arh(x y:bj):my x.e 0 [.int .i64 y.v,.str y.s]=y.e:=rfl
@[simp high] theorem arf(x y:bJ):my x.e 0 [.int .i64 y.v,.int .i64 y.k]=y.e:=rfl
theorem amx(l:c6 e0)(hw:∀p n cap,l= .b p n cap→mz n)(aI:∀xs,l= .l xs→∀x∈xs,∀m,0≤m→m≤1048576→bG al 97 [e0.e x,.int .i64 m] (.int .i64 (rQ x m)))(m:Int)(bB:0≤m)(J:m≤1048576):bG al 33 [l.e 5 e0.e,.int .i64 m] (.int .i64 (gE rQ l m)):=by
 cases l with
 |b p n cap=>
  have aw:=hw p n cap rfl;simp only[mz,lim]at aw;have g:m-n<0:=by omega
  simp only[c6.e,gE];clear hw aI;refine bd fB QN UC fun aP=>?_;unfold HU;exact b0
 |l l=>
 have aI:=aI l rfl;clear hw;simp only[c6.e,gE];generalize bh:oG rQ l m=R;unfold oG at bh;refine bd fB QN UC fun aP=>?_;unfold HU;have eT:l.length≤68719476736:=by simp[eC,ec,ev,lim]at aP;omega
 simp;by_cases g:m-l.length<0
 ·rw[if_pos g]at bh;subst bh;exact b0
 rw[if_neg g]at bh;(with_reducible repeat' first|refine aj ?_|simp[g]);refine dV [0] (fun i (k:Int)=>[(1,.int .i64 k),(5,.int .i64 i)]) l.length (fun i k=>(0≤k∧k≤1048576)∧jQ rQ (l.drop i) k=R) (m-l.length) b1 ⟨⟨by omega,by omega⟩,by simpa using bh⟩ (fun k af _=>?_) (fun i k hi af _=>?_)
 ·obtain⟨_,af⟩:=af;rw[List.drop_length]at af;simp only[jQ]at af;subst af;exact b0
 ·obtain⟨⟨ff,aS⟩,af⟩:=af;obtain⟨x,ab,cy⟩:=ed hi;have key:=aI x (eK ab) k ff aS;have hle:=Ms x k ff;rw[sH ab]at af;simp only[jQ]at af;generalize rQ x k=q at key hle af;clear ab;by_cases bn:q<0
  ·rw[if_pos bn]at af;subst af;exact b0
  ·rw[if_neg bn]at af;simp[hi,cy];((with_reducible repeat' first|refine aj ?_|refine aD key ?_|refine aE key ?_|simp[hi,cy,bn]|((first|apply bM|apply bR|apply bQ)<;>intro h<;>try simp at h))<;>(try exact ch));all_goals exact bP.rng q hi ⟨⟨by omega,by omega⟩,af⟩ b1
theorem amG(l:List cW)(aI:∀x∈l,bG al 101 [cW.e x] (cW.e x)):bG al 35 [.slice 5 .no (l.map cW.e)] (.slice 5 .no (l.map cW.e)):=by
 refine bd fB abq ahS fun aP=>?_;unfold OY;have eT:l.length≤68719476736:=by simp[eC,ec,ev,lim]at aP;omega
 simp;all_goals first|(refine⟨by unfold lim;omega,?_⟩)|skip
 (with_reducible repeat' first|refine aj ?_|simp);have fl:∀(S:aH→Prop) (n:Nat),aJ S (qP n (.agg [.int .i64 0,.int .i64 0,.int .i64 0,.str [],.slice 4 .nil []]))=True:=fun S n=>eq_true (xA S _ (by simp[aC,aJ]) n);refine hR (fun i (_:Unit)=>⟨[(0,.slice 5 .no (l.map cW.e)),(3,.row 5 (.loc 0) l.length),(4,.int .i64 i)],[],[(.loc 0,⟨l.length,113,5,some (h5 cW.e (.agg [.int .i64 0,.int .i64 0,.int .i64 0,.str [],.slice 4 .nil []]) l i)⟩)],1,[]⟩) l.length (fun _ _=>True) () ⟨by simp[fresh,aJ,aC,cd,inObs,Pv.look,ou,fl],dY (by simp[fresh,aJ,aC,cd,inObs,Pv.look,ou,fl]),dZ (by simp[fresh,aJ,aC,dP,inObs,Pv.look,ou,fl]),by simp⟩ trivial (fun _ _ _=>?_) (fun i _ hi _ _=>?_)
 ·rw[Cs];exact b0
 ·obtain⟨x,ab,cy⟩:=ed hi;have key:=aI x (eK ab);have ak:=Ct cW.e (.agg [.int .i64 0,.int .i64 0,.int .i64 0,.str [],.slice 4 .nil []]) l hi;have aB:=Cu cW.e (.agg [.int .i64 0,.int .i64 0,.int .i64 0,.str [],.slice 4 .nil []]) l ab;have bf:∀S:aH→Prop,aJ S (h5 cW.e (.agg [.int .i64 0,.int .i64 0,.int .i64 0,.str [],.slice 4 .nil []]) l (i+1)):=fun S=>Ch S _ _ _ _ (fun x=>by simp) (by simp[aC,aJ]);generalize h5 cW.e (.agg [.int .i64 0,.int .i64 0,.int .i64 0,.str [],.slice 4 .nil []]) l i=r0 at ak aB;generalize o8:h5 cW.e (.agg [.int .i64 0,.int .i64 0,.int .i64 0,.str [],.slice 4 .nil []]) l (i+1)=dI at aB bf;clear ab;simp[hi,cy];(with_reducible repeat' first|refine aj ?_|refine aD key ?_|refine aE key ?_|simp[hi,cy,ak,aB]);all_goals refine bP.rng () hi trivial ?_
  all_goals rw[o8]
  all_goals first
   |exact⟨by simp[fresh,aJ,aC,cd,inObs,Pv.look,bf],dY (by simp[fresh,aJ,aC,cd,inObs,Pv.look,bf]),dZ (by simp[fresh,aJ,aC,dP,inObs,Pv.look,bf]),by simp⟩
   |exact⟨by simp[fresh,aJ,aC,cd,inObs,Pv.look,bf],dY (by simp[fresh,aJ,aC,cd,inObs,Pv.look,bf]),dZ (by simp[fresh,aJ,aC,dP,inObs,Pv.look,bf];exact aB),by simp⟩
theorem alL(l:List cW)(aI:∀x∈l,bG al 103 [cW.e x,cW.e x] (.bool true)):bG al 37 [.slice 5 .no (l.map cW.e),.slice 5 .no (l.map cW.e)] (.bool true):=by
 refine bd fB abg ahI fun aP=>?_;unfold OO;have eT:l.length≤68719476736:=by simp[eC,ec,ev,lim]at aP;omega
 simp;(with_reducible repeat' first|refine aj ?_|simp);refine dV [0,1] (fun i (_:Unit)=>[(5,.int .i64 i)]) l.length (fun _ _=>True) () b1 trivial (fun _ _ _=>?_) (fun i _ hi _ _=>?_)
 ·exact b0
 ·obtain⟨x,ab,cy⟩:=ed hi;have key:=aI x (eK ab);clear ab;exact hO
theorem amA(l:c6 hd)(hw:∀p n cap,l= .b p n cap→mz n)(aI:∀xs,l= .l xs→∀x∈xs,∀m,0≤m→m≤1048576→bG al 144 [hd.e x,.int .i64 m] (.int .i64 (lG x m)))(m:Int)(bB:0≤m)(J:m≤1048576):bG al 74 [l.e 2 hd.e,.int .i64 m] (.int .i64 (gE lG l m)):=by
 cases l with
 |b p n cap=>
  have aw:=hw p n cap rfl;simp only[mz,lim]at aw;have g:m-n<0:=by omega
  simp only[c6.e,gE];clear hw aI;refine bd fB QP UE fun aP=>?_;unfold HW;exact b0
 |l l=>
 have aI:=aI l rfl;clear hw;simp only[c6.e,gE];generalize bh:oG lG l m=R;unfold oG at bh;refine bd fB QP UE fun aP=>?_;unfold HW;have eT:l.length≤68719476736:=by simp[eC,ec,ev,lim]at aP;omega
 simp;by_cases g:m-l.length<0
 ·rw[if_pos g]at bh;subst bh;exact b0
 rw[if_neg g]at bh;(with_reducible repeat' first|refine aj ?_|simp[g]);refine dV [0] (fun i (k:Int)=>[(1,.int .i64 k),(5,.int .i64 i)]) l.length (fun i k=>(0≤k∧k≤1048576)∧jQ lG (l.drop i) k=R) (m-l.length) b1 ⟨⟨by omega,by omega⟩,by simpa using bh⟩ (fun k af _=>?_) (fun i k hi af _=>?_)
 ·obtain⟨_,af⟩:=af;rw[List.drop_length]at af;simp only[jQ]at af;subst af;exact b0
 ·obtain⟨⟨ff,aS⟩,af⟩:=af;obtain⟨x,ab,cy⟩:=ed hi;have key:=aI x (eK ab) k ff aS;have hle:=Dd x k ff;rw[sH ab]at af;simp only[jQ]at af;generalize lG x k=q at key hle af;clear ab;by_cases bn:q<0
  ·rw[if_pos bn]at af;subst af;exact b0
  ·rw[if_neg bn]at af;simp[hi,cy];((with_reducible repeat' first|refine aj ?_|refine aD key ?_|refine aE key ?_|simp[hi,cy,bn]|((first|apply bM|apply bR|apply bQ)<;>intro h<;>try simp at h))<;>(try exact ch));all_goals exact bP.rng q hi ⟨⟨by omega,by omega⟩,af⟩ b1
theorem amJ(l:List bj)(aI:∀x∈l,bG al 157 [bj.e x] (bj.e x)):bG al 85 [.slice 2 .no (l.map bj.e)] (.slice 2 .no (l.map bj.e)):=by
 refine bd fB abu ahV fun aP=>?_;unfold O1;have eT:l.length≤68719476736:=by simp[eC,ec,ev,lim]at aP;omega
 simp;all_goals first|(refine⟨by unfold lim;omega,?_⟩)|skip
 (with_reducible repeat' first|refine aj ?_|simp);have fl:∀(S:aH→Prop) (n:Nat),aJ S (qP n ((⟨0,[]⟩:bj).e))=True:=fun S n=>eq_true (xA S _ (by simp[aC,aJ]) n);refine hR (fun i (_:Unit)=>⟨[(0,.slice 2 .no (l.map bj.e)),(3,.row 2 (.loc 0) l.length),(4,.int .i64 i)],[],[(.loc 0,⟨l.length,100,2,some (h5 bj.e ((⟨0,[]⟩:bj).e) l i)⟩)],1,[]⟩) l.length (fun _ _=>True) () ⟨by simp[fresh,aJ,aC,cd,inObs,Pv.look,ou,fl],dY (by simp[fresh,aJ,aC,cd,inObs,Pv.look,ou,fl]),dZ (by simp[fresh,aJ,aC,dP,inObs,Pv.look,ou,fl]),by simp⟩ trivial (fun _ _ _=>?_) (fun i _ hi _ _=>?_)
 ·rw[Cs];exact b0
 ·obtain⟨x,ab,cy⟩:=ed hi;have key:=aI x (eK ab);have ak:=Ct bj.e ((⟨0,[]⟩:bj).e) l hi;have aB:=Cu bj.e ((⟨0,[]⟩:bj).e) l ab;have bf:∀S:aH→Prop,aJ S (h5 bj.e ((⟨0,[]⟩:bj).e) l (i+1)):=fun S=>Ch S _ _ _ _ (fun x=>by simp) (by simp[aC,aJ]);generalize h5 bj.e ((⟨0,[]⟩:bj).e) l i=r0 at ak aB;generalize o8:h5 bj.e ((⟨0,[]⟩:bj).e) l (i+1)=dI at aB bf;clear ab;simp[hi,cy];(with_reducible repeat' first|refine aj ?_|refine aD key ?_|refine aE key ?_|simp[hi,cy,ak,aB,-my]);all_goals refine bP.rng () hi trivial ?_
  all_goals rw[o8]
  all_goals first
   |exact⟨by simp[fresh,aJ,aC,cd,inObs,Pv.look,bf],dY (by simp[fresh,aJ,aC,cd,inObs,Pv.look,bf]),dZ (by simp[fresh,aJ,aC,dP,inObs,Pv.look,bf]),by simp⟩
   |exact⟨by simp[fresh,aJ,aC,cd,inObs,Pv.look,bf],dY (by simp[fresh,aJ,aC,cd,inObs,Pv.look,bf]),dZ (by simp[fresh,aJ,aC,dP,inObs,Pv.look,bf];exact aB),by simp⟩
theorem alO(l:List bj)(aI:∀x∈l,bG al 171 [bj.e x,bj.e x] (.bool true)):bG al 94 [.slice 2 .no (l.map bj.e),.slice 2 .no (l.map bj.e)] (.bool true):=by
 refine bd fB abj ahL fun aP=>?_;unfold OR;have eT:l.length≤68719476736:=by simp[eC,ec,ev,lim]at aP;omega
 simp;(with_reducible repeat' first|refine aj ?_|simp);refine dV [0,1] (fun i (_:Unit)=>[(5,.int .i64 i)]) l.length (fun _ _=>True) () b1 trivial (fun _ _ _=>?_) (fun i _ hi _ _=>?_)
 ·exact b0
 ·obtain⟨x,ab,cy⟩:=ed hi;have key:=aI x (eK ab);clear ab;exact hO
theorem amN(l:List bJ)(aI:∀x∈l,bG al 156 [bJ.e x] (bJ.e x)):bG al 84 [.slice 2 .no (l.map bJ.e)] (.slice 2 .no (l.map bJ.e)):=by
 refine bd fB abz ah0 fun aP=>?_;unfold O6;have eT:l.length≤68719476736:=by simp[eC,ec,ev,lim]at aP;omega
 simp;all_goals first|(refine⟨by unfold lim;omega,?_⟩)|skip
 (with_reducible repeat' first|refine aj ?_|simp);have fl:∀(S:aH→Prop) (n:Nat),aJ S (qP n ((⟨0,0⟩:bJ).e))=True:=fun S n=>eq_true (xA S _ (by simp[aC,aJ]) n);refine hR (fun i (_:Unit)=>⟨[(0,.slice 2 .no (l.map bJ.e)),(3,.row 2 (.loc 0) l.length),(4,.int .i64 i)],[],[(.loc 0,⟨l.length,98,2,some (h5 bJ.e ((⟨0,0⟩:bJ).e) l i)⟩)],1,[]⟩) l.length (fun _ _=>True) () ⟨by simp[fresh,aJ,aC,cd,inObs,Pv.look,ou,fl],dY (by simp[fresh,aJ,aC,cd,inObs,Pv.look,ou,fl]),dZ (by simp[fresh,aJ,aC,dP,inObs,Pv.look,ou,fl]),by simp⟩ trivial (fun _ _ _=>?_) (fun i _ hi _ _=>?_)
 ·rw[Cs];exact b0
 ·obtain⟨x,ab,cy⟩:=ed hi;have key:=aI x (eK ab);have ak:=Ct bJ.e ((⟨0,0⟩:bJ).e) l hi;have aB:=Cu bJ.e ((⟨0,0⟩:bJ).e) l ab;have bf:∀S:aH→Prop,aJ S (h5 bJ.e ((⟨0,0⟩:bJ).e) l (i+1)):=fun S=>Ch S _ _ _ _ (fun x=>by simp) (by simp[aC,aJ]);generalize h5 bJ.e ((⟨0,0⟩:bJ).e) l i=r0 at ak aB;generalize o8:h5 bJ.e ((⟨0,0⟩:bJ).e) l (i+1)=dI at aB bf;clear ab;simp[hi,cy];(with_reducible repeat' first|refine aj ?_|refine aD key ?_|refine aE key ?_|simp[hi,cy,ak,aB,-my]);all_goals refine bP.rng () hi trivial ?_
  all_goals rw[o8]
  all_goals first
   |exact⟨by simp[fresh,aJ,aC,cd,inObs,Pv.look,bf],dY (by simp[fresh,aJ,aC,cd,inObs,Pv.look,bf]),dZ (by simp[fresh,aJ,aC,dP,inObs,Pv.look,bf]),by simp⟩
   |exact⟨by simp[fresh,aJ,aC,cd,inObs,Pv.look,bf],dY (by simp[fresh,aJ,aC,cd,inObs,Pv.look,bf]),dZ (by simp[fresh,aJ,aC,dP,inObs,Pv.look,bf];exact aB),by simp⟩
theorem alS(l:List bJ)(aI:∀x∈l,bG al 170 [bJ.e x,bJ.e x] (.bool true)):bG al 93 [.slice 2 .no (l.map bJ.e),.slice 2 .no (l.map bJ.e)] (.bool true):=by
 refine bd fB abo ahQ fun aP=>?_;unfold OW;have eT:l.length≤68719476736:=by simp[eC,ec,ev,lim]at aP;omega
 simp;(with_reducible repeat' first|refine aj ?_|simp);refine dV [0,1] (fun i (_:Unit)=>[(5,.int .i64 i)]) l.length (fun _ _=>True) () b1 trivial (fun _ _ _=>?_) (fun i _ hi _ _=>?_)
 ·exact b0
 ·obtain⟨x,ab,cy⟩:=ed hi;have key:=aI x (eK ab);clear ab;exact hO
def oF:c6 bJ→Int→Int
 | .l l,m=>if m-l.length<0 then-1 else m-l.length
 | .b _ _ _,_=> -1
theorem Mu(l:c6 bJ)(m:Int)(h:0≤m): -1≤oF l m∧oF l m≤m:=by
 cases l with
 |l l=>simp only[oF];split<;>omega
 |b=>simp only[oF];omega
theorem amC(l:c6 bJ)(hw:∀p n cap,l= .b p n cap→mz n)(m:Int)(bB:0≤m)(J:m≤1048576):bG al 73 [l.e 2 bJ.e,.int .i64 m] (.int .i64 (oF l m)):=by
 cases l with
 |b p n cap=>
  have aw:=hw p n cap rfl;simp only[mz,lim]at aw;have g:m-n<0:=by omega
  simp only[c6.e,oF];clear hw;refine bd fB IG K6 fun aP=>?_;unfold DW;exact b0
 |l l=>
  simp only[c6.e,oF];clear hw;by_cases g:m-l.length<0
  ·rw[if_pos g];refine bd fB IG K6 fun aP=>?_;unfold DW;have eT:l.length≤68719476736:=by simp[eC,ec,ev,lim]at aP;omega
   exact b0
  ·rw[if_neg g];refine bd fB IG K6 fun aP=>?_;unfold DW;have eT:l.length≤68719476736:=by simp[eC,ec,ev,lim]at aP;omega
   exact b0
def kd(d:c6 e0):ah:=d.e 5 e0.e
@[simp] theorem apo(S:aH→Prop)(d:c6 e0):aC S (kd d)=True:=by cases d<;>simp[kd,c6.e,aC]
@[simp] theorem arY(d:c6 e0):dh (kd d)=kd d:=by
 cases d with
 |l l=>
  have:∀l:List e0,cR (l.map e0.e)=l.map e0.e:=by
   intro l;induction l with
   |nil=>rfl
   |cons x l bS=>simp[cR,bS]
  simp[kd,c6.e,dh,this]
 |b=>simp[kd,c6.e,dh]
theorem TA(S:aH→Prop):∀l:List (c6 e0),aJ S (l.map kd)
 |[]=>by simp[aJ]
 |x::xs=>by simp[aJ,TA S xs]
@[simp] theorem aph(S:aH→Prop)(l:List (c6 e0)):aJ S (l.map kd)=True:=eq_true (TA S l)
@[simp] theorem arw(d:c6 e0):dX (kd d)=true:=by cases d<;>rfl
@[simp] theorem anw(d:c6 e0):cells (kd d)=[kd d]:=by cases d<;>rfl
def hW(d:c6 e0)(m:Int):Int:=gE rQ d m
theorem wb(d:c6 e0)(m:Int)(h:0≤m): -1≤hW d m∧hW d m≤m:=uE Ms d m h
def wo(d:c6 e0):Prop:=d.wf fun b=>b.t.wf
@[simp] theorem ak6:∀l:List (List cW),cR (l.map fW)=l.map fW
 |[]=>rfl
 |x::xs=>by simp[cR,ak6 xs]
theorem Xn(d:c6 e0)(hw:wo d)(m:Int)(bB:0≤m)(J:m≤1048576):bG al 33 [kd d,.int .i64 m] (.int .i64 (hW d m)):=amx d (fun p n c e=>by subst e;exact hw) (fun xs e x ab m bB J=>by subst e;exact amw x (hw x ab) m bB J) m bB J
theorem Xp(d:List cW):bG al 35 [fW d] (fW d):=amG d fun x _=>amF x
theorem W5(d:List cW):bG al 37 [fW d,fW d] (.bool true):=alL d fun x _=>alK x
theorem amy(l:c6 (c6 e0))(hw:∀p n cap,l= .b p n cap→mz n)(aI:∀xs,l= .l xs→∀x∈xs,∀m,0≤m→m≤1048576→bG al 33 [kd x,.int .i64 m] (.int .i64 (hW x m)))(m:Int)(bB:0≤m)(J:m≤1048576):bG al 72 [l.e 1 kd,.int .i64 m] (.int .i64 (gE hW l m)):=by
 cases l with
 |b p n cap=>
  have aw:=hw p n cap rfl;simp only[mz,lim]at aw;have g:m-n<0:=by omega
  simp only[c6.e,gE];clear hw aI;refine bd fB QO UD fun aP=>?_;unfold HV;exact b0
 |l l=>
 have aI:=aI l rfl;clear hw;simp only[c6.e,gE];generalize bh:oG hW l m=R;unfold oG at bh;refine bd fB QO UD fun aP=>?_;unfold HV;have eT:l.length≤68719476736:=by simp[eC,ec,ev,lim]at aP;omega
 simp;by_cases g:m-l.length<0
 ·rw[if_pos g]at bh;subst bh;exact b0
 rw[if_neg g]at bh;(with_reducible repeat' first|refine aj ?_|simp[g]);refine dV [0] (fun i (k:Int)=>[(1,.int .i64 k),(5,.int .i64 i)]) l.length (fun i k=>(0≤k∧k≤1048576)∧jQ hW (l.drop i) k=R) (m-l.length) b1 ⟨⟨by omega,by omega⟩,by simpa using bh⟩ (fun k af _=>?_) (fun i k hi af _=>?_)
 ·obtain⟨_,af⟩:=af;rw[List.drop_length]at af;simp only[jQ]at af;subst af;exact b0
 ·obtain⟨⟨ff,aS⟩,af⟩:=af;obtain⟨x,ab,cy⟩:=ed hi;have key:=aI x (eK ab) k ff aS;have hle:=wb x k ff;rw[sH ab]at af;simp only[jQ]at af;generalize hW x k=q at key hle af;clear ab;by_cases bn:q<0
  ·rw[if_pos bn]at af;subst af;exact b0
  ·rw[if_neg bn]at af;simp[hi,cy];((with_reducible repeat' first|refine aj ?_|refine aD key ?_|refine aE key ?_|simp[hi,cy,bn]|((first|apply bM|apply bR|apply bQ)<;>intro h<;>try simp at h))<;>(try exact ch));all_goals exact bP.rng q hi ⟨⟨by omega,by omega⟩,af⟩ b1
theorem amH(l:List (List cW))(aI:∀x∈l,bG al 35 [fW x] (fW x)):bG al 83 [.slice 1 .no (l.map fW)] (.slice 1 .no (l.map fW)):=by
 refine bd fB abr ahT fun aP=>?_;unfold OZ;have eT:l.length≤68719476736:=by simp[eC,ec,ev,lim]at aP;omega
 simp;all_goals first|(refine⟨by unfold lim;omega,?_⟩)|skip
 (with_reducible repeat' first|refine aj ?_|simp);have fl:∀(S:aH→Prop) (n:Nat),aJ S (qP n (.slice 5 .nil []))=True:=fun S n=>eq_true (xA S _ (by simp[aC,aJ]) n);refine hR (fun i (_:Unit)=>⟨[(0,.slice 1 .no (l.map fW)),(3,.row 1 (.loc 0) l.length),(4,.int .i64 i)],[],[(.loc 0,⟨l.length,46,1,some (h5 fW (.slice 5 .nil []) l i)⟩)],1,[]⟩) l.length (fun _ _=>True) () ⟨by simp[fresh,aJ,aC,cd,inObs,Pv.look,ou,fl],dY (by simp[fresh,aJ,aC,cd,inObs,Pv.look,ou,fl]),dZ (by simp[fresh,aJ,aC,dP,inObs,Pv.look,ou,fl]),by simp⟩ trivial (fun _ _ _=>?_) (fun i _ hi _ _=>?_)
 ·rw[Cs];exact b0
 ·obtain⟨x,ab,cy⟩:=ed hi;have key:=aI x (eK ab);have ak:=Ct fW (.slice 5 .nil []) l hi;have aB:=Cu fW (.slice 5 .nil []) l ab;have bf:∀S:aH→Prop,aJ S (h5 fW (.slice 5 .nil []) l (i+1)):=fun S=>Ch S _ _ _ _ (fun x=>by simp) (by simp[aC,aJ]);generalize h5 fW (.slice 5 .nil []) l i=r0 at ak aB;generalize o8:h5 fW (.slice 5 .nil []) l (i+1)=dI at aB bf;clear ab;simp[hi,cy];(with_reducible repeat' first|refine aj ?_|refine aD key ?_|refine aE key ?_|simp[hi,cy,ak,aB]);all_goals refine bP.rng () hi trivial ?_
  all_goals rw[o8]
  all_goals first
   |exact⟨by simp[fresh,aJ,aC,cd,inObs,Pv.look,bf],dY (by simp[fresh,aJ,aC,cd,inObs,Pv.look,bf]),dZ (by simp[fresh,aJ,aC,dP,inObs,Pv.look,bf]),by simp⟩
   |exact⟨by simp[fresh,aJ,aC,cd,inObs,Pv.look,bf],dY (by simp[fresh,aJ,aC,cd,inObs,Pv.look,bf]),dZ (by simp[fresh,aJ,aC,dP,inObs,Pv.look,bf];exact aB),by simp⟩
theorem alM(l:List (List cW))(aI:∀x∈l,bG al 37 [fW x,fW x] (.bool true)):bG al 92 [.slice 1 .no (l.map fW),.slice 1 .no (l.map fW)] (.bool true):=by
 refine bd fB abh ahJ fun aP=>?_;unfold OP;have eT:l.length≤68719476736:=by simp[eC,ec,ev,lim]at aP;omega
 simp;(with_reducible repeat' first|refine aj ?_|simp);refine dV [0,1] (fun i (_:Unit)=>[(5,.int .i64 i)]) l.length (fun _ _=>True) () b1 trivial (fun _ _ _=>?_) (fun i _ hi _ _=>?_)
 ·exact b0
 ·obtain⟨x,ab,cy⟩:=ed hi;have key:=aI x (eK ab);clear ab;exact hO
end Go.Proofs.YtahlgcidhnjlbaaGreat
