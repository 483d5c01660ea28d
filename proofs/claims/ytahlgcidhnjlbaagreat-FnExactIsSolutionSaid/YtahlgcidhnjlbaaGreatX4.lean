/- The laws' copying, counting and comparing of data, II. -/
import Derived.Lib.OwnBridge
import Derived.Shelf.GgSortMore.Stable
import Derived.Shelf.GgSortFunc.SmallK
import Derived.Shelf.GgSortFunc.Slice
import Derived.Ground.GgsProg
import Derived.Test.YtahlgcidhnjlbaaGreatProg
import Derived.ProofKit
import Derived.Carry
import Derived.WalkKit
import Derived.Deep.Slices
import Derived.Test.YtahlgcidhnjlbaaGreatX3
set_option linter.all false
set_option maxHeartbeats 4000000
open Array renaming getElem?_toList→ti
open BitVec renaming ofInt→p2
open Bool renaming eq_iff_iff→p3,false_eq_true→gS,or_eq_true→mA
open Go renaming Program→cD,TypeId→fR
open Go.DataW renaming trod→iO
open Go.Extern.ReflectliteSwapper renaming swap→Dw,swapper→arH
open Go.Extern.ReflectliteValue renaming len→arI,method→arJ,unpack→amn,valueError→amo
open Go.Extern.Rtype renaming kind→WZ
open Go.IntKind renaming bits→nO,signed→r4,u64→hd,wrap→r5
open Go.IntWalk renaming i64_in→oF
open Go.Proofs.Tryz renaming prog→al
open Go.Value renaming cells→pe
open List renaming cons_append→bV,drop_eq_getElem_cons→k6,getElem?_eq_getElem→cf,getElem?_eq_some_iff→fi,getElem_of_mem→nk,length_append→pf,length_cons→p6,map_cons→hf,mem_cons→fY,mem_cons_of_mem→pg,mem_of_getElem?→dL,nil_append→bY,pairwise_iff_getElem→pj,replicate→qP,take_length→pk,take_of_length_le→hz
open List.cons renaming injEq→p4
open Nat renaming add_mul→pn,le_refl→eR,le_trans→j8
open Ne renaming symm→kN
open Option renaming bind_eq_some_iff→mC,isSome_none→l0,map_eq_some_iff→gJ,map_some→nQ
open Option.some renaming injEq→dG
open Prod.mk renaming injEq→jm
open _root_ renaming False→eK,Option→aY,UInt8→dz,beq_iff_eq→dO,congrArg→e2,decide_eq_false→iq,decide_eq_false_iff_not→gz,decide_eq_true→hA,decide_eq_true_eq→fk
namespace Go.Proofs.YtahlgcidhnjlbaaGreat
open Go Go.Pv
variable {α:Type} [Inhabited α] {S:List α→cK} {n g b8:Nat} {lc b3:List ah} {lt:α→α→Bool}
theorem QP(H:eW S n g b8 lc b3 lt)(d:Array α)(aP:d.size=n)(lo hi first:Nat)(J:first+hi≤n)(U:2≤n)(ao:lo≤n):
  bN al 252 [eN g b8 lc b3,.int .i64 lo,.int .i64 hi,.int .i64 first] (S d.toList) fun r ai=>r= .tuple []∧∃cc,ai=S cc.toList∧cc=Sort.siftDown lt hi first lo d∧cc.size=n:=by
 have ag:=H.ok d.toList;have av:d.toList.length=n:=by simpa using aP
 have aA:∀l m,Pv.look (.loc m) (S l).b=none:=fun l=>(H.ok l).obj.1;have hu:∀l m cs,cA (.loc m) cs (S l).b=(S l).b++[(.loc m,cs)]:=fun l m cs=>jT (aA l m);have ax:∀m,aH.loc m∉cV (S d.toList):=jO ag.obj;have hle:=H.le;refine bN.mk mixed nK abb ahH (by simp) ag.obj fun aQ cL=>?_;unfold OW;simp[eN,hu,ax,cJ,aA];refine H.loopA av [2,3,4] (fun(x:Nat×Array α)=>[(8,.int .i64 x.1)]) (·.2) (fun x=>hi-x.1) (fun x=>x.2.size=n∧x.1≤n∧Sort.siftDown lt hi first x.1 x.2=Sort.siftDown lt hi first lo d) (lo,d) aP ⟨aP,ao,rfl⟩ (by simp[cJ,aA]) aR aR (by simp[aB]) ?_;rintro⟨root,cm⟩ ⟨aU,bG,b9⟩;simp only at aU bG b9;have ak:((first:Int)+(2*root+1))=(first+(2*root+1):Nat):=by omega
 have aC:(((first+(2*root+1):Nat):Int)+1)=(first+(2*root+1)+1:Nat):=by omega
 have bk:((first:Int)+root)=(first+root:Nat):=by omega
 have dc:((first:Int)+(2*root+1+1))=(first+(2*root+2):Nat):=by omega
 simp[Pv.look,H.slc,H.ssc];(with_reducible repeat' first|((first|apply bL|apply bQ|apply bP)<;>intro h<;>try simp at h)|refine aj ?_|simp[Pv.look,H.slc,H.ssc])
 ·rw[Sort.siftDown,dif_pos (by omega)]at b9;exact H.retA av aU (.inr rfl) ⟨rfl,cm,rfl,b9,aU⟩
 ·rw[Sort.siftDown,dif_neg (by omega)]at b9;rw[ak,aC];refine H.lessA aU _ _ (by omega) (by omega) fun o=>?_;have au:decide (2*root+1+1<hi)=true:=by simp;omega
  cases ae:lt cm[first+(2*root+1)]! cm[first+(2*root+1)+1]! with
  |true=>
   rw[if_pos (by rw[au,ae];rfl)]at b9;simp;(with_reducible repeat' first|refine aj ?_|simp[Pv.look,H.slc,H.ssc]);rw[bk,dc];refine H.lessA aU _ _ (by omega) (by omega) fun o=>?_;cases aL:lt cm[first+root]! cm[first+(2*root+2)]! with
   |true=>rw[if_neg (by simp[aL]),dif_pos (by omega)]at b9;simp;(with_reducible repeat' first|refine aj ?_|simp[Pv.look,H.slc,H.ssc]);rw[bk,dc];refine H.swapA aU U _ _ (by omega) (by omega) fun o=>?_;simp;(with_reducible repeat' first|refine aj ?_|simp);refine bO.whl (2*root+2,Sort.swp cm (first+root) (first+(2*root+2))) (by simp;omega) ⟨by rw[gH,aU],by simp;omega,b9⟩ (H.weakC av (by simp[gH,aU]) (by simp[aB];omega))
   |false=>rw[if_pos (by simp[aL])]at b9;simp;(with_reducible repeat' first|refine aj ?_|simp);all_goals exact H.retA av aU (.inl rfl) ⟨rfl,cm,rfl,b9,aU⟩
  |false=>
   rw[if_neg (by simp[ae])]at b9;simp;(with_reducible repeat' first|refine aj ?_|simp[Pv.look,H.slc,H.ssc]);rw[bk,ak];refine H.lessA aU _ _ (by omega) (by omega) fun o=>?_;cases aL:lt cm[first+root]! cm[first+(2*root+1)]! with
   |true=>rw[if_neg (by simp[aL])]at b9;simp;(with_reducible repeat' first|refine aj ?_|simp[Pv.look,H.slc,H.ssc]);rw[bk,ak];refine H.swapA aU U _ _ (by omega) (by omega) fun o=>?_;simp;(with_reducible repeat' first|refine aj ?_|simp);refine bO.whl (2*root+1,Sort.swp cm (first+root) (first+(2*root+1))) (by simp;omega) ⟨by rw[gH,aU],by simp;omega,b9⟩ (H.weakC av (by simp[gH,aU]) (by simp[aB]))
   |false=>rw[if_pos (by simp[aL])]at b9;simp;(with_reducible repeat' first|refine aj ?_|simp);all_goals exact H.retA av aU (.inl rfl) ⟨rfl,cm,rfl,b9,aU⟩
 ·rw[Sort.siftDown,dif_neg (by omega)]at b9;have au:decide (2*root+1+1<hi)=false:=by simp;omega
  rw[if_neg (by rw[au];simp)]at b9;rw[bk,ak];refine H.lessA aU _ _ (by omega) (by omega) fun o=>?_;cases aL:lt cm[first+root]! cm[first+(2*root+1)]! with
  |true=>rw[if_neg (by simp[aL])]at b9;simp;(with_reducible repeat' first|refine aj ?_|simp[Pv.look,H.slc,H.ssc]);rw[bk,ak];refine H.swapA aU U _ _ (by omega) (by omega) fun o=>?_;simp;(with_reducible repeat' first|refine aj ?_|simp);refine bO.whl (2*root+1,Sort.swp cm (first+root) (first+(2*root+1))) (by simp;omega) ⟨by rw[gH,aU],by simp;omega,b9⟩ (H.weakC av (by simp[gH,aU]) (by simp[aB]))
  |false=>rw[if_pos (by simp[aL])]at b9;simp;(with_reducible repeat' first|refine aj ?_|simp);all_goals exact H.retA av aU (.inl rfl) ⟨rfl,cm,rfl,b9,aU⟩
theorem acw(H:eW S n g b8 lc b3 lt)(d:Array α)(aP:d.size=n)(a b:Nat)(mO:a<b)(ad:b≤n)(U:2≤n):
  bN al 241 [eN g b8 lc b3,.int .i64 a,.int .i64 b] (S d.toList) fun r ai=>r= .tuple []∧∃cc,ai=S cc.toList∧cc=Sort.reverseRange d a b∧cc.size=n:=by
 have ag:=H.ok d.toList;have av:d.toList.length=n:=by simpa using aP
 have aA:∀l m,Pv.look (.loc m) (S l).b=none:=fun l=>(H.ok l).obj.1;have hu:∀l m cs,cA (.loc m) cs (S l).b=(S l).b++[(.loc m,cs)]:=fun l m cs=>jT (aA l m);have ax:∀m,aH.loc m∉cV (S d.toList):=jO ag.obj;have hle:=H.le;refine bN.mk mixed nK aa9 ahF (by simp) ag.obj fun aQ cL=>?_;unfold OU;simp[eN,hu,ax,cJ,aA];have fl:((b:Int)-1)=(b-1:Nat):=by omega
 (with_reducible repeat' first|refine aj ?_|simp[hu,ax,cJ,aA]);rw[fl];refine H.loopA av [3] (fun(x:(Nat×Nat)×Array α)=>[(6,.int .i64 x.1.1),(7,.int .i64 x.1.2)]) (·.2) (fun x=>x.1.2+1-x.1.1) (fun x=>x.2.size=n∧x.1.2<n∧Sort.reverseLoop x.1.1 x.1.2 x.2=Sort.reverseRange d a b) ((a,b-1),d) aP ⟨aP,by simp;omega,rfl⟩ (by simp[cJ,aA]) aR aR (by simp[aB]) ?_;rintro⟨⟨i,j⟩,cm⟩ ⟨aU,bG,b9⟩;simp only at aU bG b9;rw[Sort.reverseLoop]at b9;simp[Pv.look,H.slc,H.ssc];(with_reducible repeat' first|((first|apply bL|apply bQ|apply bP)<;>intro h<;>try simp at h)|refine aj ?_|simp[Pv.look,H.slc,H.ssc])
 ·rw[if_pos (by omega)]at b9;refine H.swapA aU U _ _ (by omega) (by omega) fun o=>?_;have ak:((i:Int)+1)=(i+1:Nat):=by omega
  have aC:((j:Int)-1)=(j-1:Nat):=by omega
  simp;((with_reducible repeat' first|refine aj ?_|simp|((first|apply bL|apply bQ|apply bP)<;>intro h<;>try simp at h))<;>(try exact cq));rw[ak,aC];refine bO.whl ((i+1,j-1),Sort.swp cm i j) (by simp;omega) ⟨by rw[gH,aU],by simp;omega,b9⟩ (H.weakC av (by simp[gH,aU]) (by simp[aB]))
 ·rw[if_neg (by omega)]at b9;exact H.retA av aU (.inr rfl) ⟨rfl,cm,rfl,b9,aU⟩
theorem acg(H:eW S n g b8 lc b3 lt)(d:Array α)(aP:d.size=n)(a b:Nat)(mO:a≤b)(ad:b≤n)(U:2≤n):
  bN al 238 [eN g b8 lc b3,.int .i64 a,.int .i64 b] (S d.toList) fun r ai=>r= .tuple []∧∃cc,ai=S cc.toList∧cc=Sort.heapSort lt d a b∧cc.size=n:=by
 have ag:=H.ok d.toList;have av:d.toList.length=n:=by simpa using aP
 have aA:∀l m,Pv.look (.loc m) (S l).b=none:=fun l=>(H.ok l).obj.1;have hu:∀l m cs,cA (.loc m) cs (S l).b=(S l).b++[(.loc m,cs)]:=fun l m cs=>jT (aA l m);have ax:∀m,aH.loc m∉cV (S d.toList):=jO ag.obj;have hle:=H.le;refine bN.mk mixed nK aa0 ahw (by simp) ag.obj fun aQ cL=>?_;unfold OL;simp[eN,hu,ax,cJ,aA];(with_reducible repeat' first|refine aj ?_|simp[hu,ax,cJ,aA]);have fl:IntKind.i64.wrap (((b:Int)-a-1).tdiv 2)=(((b-a-1)/2+1:Nat):Int)-1:=by
  have e:((b:Int)-a-1).tdiv 2=(((b-a-1)/2+1:Nat):Int)-1:=by
   rcases Nat.eq_or_lt_of_le mO with h|h
   ·subst h;simp
   ·rw[show((b:Int)-a-1)=((b-a-1:Nat):Int) by omega,Int.tdiv_eq_ediv_of_nonneg (by omega)];omega
  rw[e,oF _ (by omega)]
 rw[fl];refine H.loopA av [3,6,7,8] (fun(x:Nat×Array α)=>[(9,.int .i64 ((x.1:Int)-1))]) (·.2) (fun x=>x.1) (fun x=>x.2.size=n∧x.1≤n∧Sort.heapBuild lt (b-a) a x.1 x.2=Sort.heapBuild lt (b-a) a ((b-a-1)/2+1) d) ((b-a-1)/2+1,d) aP ⟨aP,by simp;omega,rfl⟩ (by simp[cJ,aA]) aR aR (by simp[aB]) ?_;rintro⟨k,cm⟩ ⟨aU,bG,b9⟩;simp only at aU bG b9;have YP:((b:Int)-a)=(b-a:Nat):=by omega
 simp[Pv.look,H.slc,H.ssc];(with_reducible repeat' first|((first|apply bL|apply bQ|apply bP)<;>intro h<;>try simp at h)|refine aj ?_|simp[Pv.look,H.slc,H.ssc])
 ·obtain⟨k,rfl⟩:∃bK,k=bK+1:=⟨k-1,by omega⟩;have H8:(((k+1:Nat):Int)-1)=(k:Nat):=by omega
  rw[Sort.heapBuild]at b9;simp only[h9 H,H.slc,H.ssc,h4,H8,YP];refine H.doFn (lk:=cm.toList) (by simpa using aU) (R:=fun aZ=> ∃cc,aZ=cc.toList∧cc=Sort.siftDown lt (b-a) a k cm∧cc.size=n) ((QP H cm aU k (b-a) a (by omega) U (by omega)).mono fun r ai ⟨a6,cc,bE,bX,cX⟩=>⟨a6,cc.toList,bE,cc,rfl,bX,cX⟩) (by rintro aZ ⟨cc,rfl,_,q⟩;simpa using q) (by simp[aI,aB,H.kdata (lk:=cm.toList) (by simpa using aU)]) ?_;rintro aZ ⟨cc,rfl,a6,bE⟩;simp;((with_reducible repeat' first|refine aj ?_|simp|((first|apply bL|apply bQ|apply bP)<;>intro h<;>try simp at h))<;>(try exact cq));refine bO.whl (k,cc) (by simp) ⟨bE,by simp;omega,by rw[←b9,a6]⟩ (H.weakC av (by simpa using bE) (by simp[aB]))
 ·obtain rfl:k=0:=by omega
  rw[Sort.heapBuild]at b9;have anT:cm.size=n:=aU;refine H.loopA av [3,6,7] (fun(x:Nat×Array α)=>[(10,.int .i64 ((x.1:Int)-1))]) (·.2) (fun x=>x.1) (fun x=>x.2.size=n∧x.1≤b-a∧Sort.heapPop lt a x.1 x.2=Sort.heapPop lt a (b-a) cm) (b-a,cm) aU ⟨aU,by simp,rfl⟩ (by simp[Pv.look]) aR aR (by simp[aB];omega) ?_;rintro⟨k,fF⟩ ⟨hl,vE,gX⟩;simp only at hl vE gX;simp[Pv.look,H.slc,H.ssc];(with_reducible repeat' first|((first|apply bL|apply bQ|apply bP)<;>intro h<;>try simp at h)|refine aj ?_|simp[Pv.look,H.slc,H.ssc])
  ·obtain⟨k,rfl⟩:∃bK,k=bK+1:=⟨k-1,by omega⟩;have H8:(((k+1:Nat):Int)-1)=(k:Nat):=by omega
   have YO:((a:Int)+k)=(a+k:Nat):=by omega
   rw[Sort.heapPop]at gX;simp only[H8,YO];refine H.swapA hl U _ _ (by omega) (by omega) fun o=>?_;have JT:(Sort.swp fF a (a+k)).size=n:=by rw[gH,hl]
   simp;simp only[h9 H,H.slc,H.ssc,h4];refine H.doFn (lk:=(Sort.swp fF a (a+k)).toList) (by simpa using JT) (R:=fun aZ=> ∃cc,aZ=cc.toList∧cc=Sort.siftDown lt k a 0 (Sort.swp fF a (a+k))∧cc.size=n) ((QP H (Sort.swp fF a (a+k)) JT 0 k a (by omega) U (by omega)).mono fun r ai ⟨a6,cc,bE,bX,cX⟩=>⟨a6,cc.toList,bE,cc,rfl,bX,cX⟩) (by rintro aZ ⟨cc,rfl,_,q⟩;simpa using q) (by simp[aI,aB,H.kdata (lk:=(Sort.swp fF a (a+k)).toList) (by simpa using JT)]) ?_;rintro aZ ⟨cc,rfl,a6,bE⟩;simp;((with_reducible repeat' first|refine aj ?_|simp|((first|apply bL|apply bQ|apply bP)<;>intro h<;>try simp at h))<;>(try exact cq));refine bO.whl (k,cc) (by simp) ⟨bE,by simp;omega,by rw[←gX,a6]⟩ (H.weakC av (by simpa using bE) (by simp[aB]))
  ·obtain rfl:k=0:=by omega
   rw[Sort.heapPop]at gX;refine H.retA av hl (.inr rfl) ⟨rfl,fF,rfl,?_,hl⟩;rw[Sort.heapSort,←b9,←gX]
theorem ach(H:eW S n g b8 lc b3 lt)(d:Array α)(aP:d.size=n)(a b:Nat)(mO:a≤b)(ad:b≤n):
  bN al 231 [eN g b8 lc b3,.int .i64 a,.int .i64 b] (S d.toList) fun r ai=>r= .tuple []∧∃cc,ai=S cc.toList∧cc=Sort.insertionSort lt d a b∧cc.size=n:=by
 have ag:=H.ok d.toList;have av:d.toList.length=n:=by simpa using aP
 have aA:∀l m,Pv.look (.loc m) (S l).b=none:=fun l=>(H.ok l).obj.1;have hu:∀l m cs,cA (.loc m) cs (S l).b=(S l).b++[(.loc m,cs)]:=fun l m cs=>jT (aA l m);have ax:∀m,aH.loc m∉cV (S d.toList):=jO ag.obj;have hle:=H.le;refine bN.mk mixed Az Qo T4 (by simp) ag.obj fun aQ cL=>?_;unfold HI;simp[eN,hu,ax,cJ,aA];have fl:((a:Int)+1)=(a+1:Nat):=by omega
 (with_reducible repeat' first|refine aj ?_|simp[hu,ax,cJ,aA]);rw[fl];refine H.loopA av [1,2,3] (fun(x:Nat×Array α)=>[(6,.int .i64 x.1)]) (·.2) (fun x=>b+1-x.1) (fun x=>x.2.size=n∧x.1≤b+1∧Sort.insOuter lt a b x.1 x.2=Sort.insertionSort lt d a b) (a+1,d) aP ⟨aP,by simp;omega,rfl⟩ (by simp[cJ,aA]) aR aR (by simp[aB]) ?_;rintro⟨i,cm⟩ ⟨aU,bG,b9⟩;simp only at aU bG b9;rw[Sort.insOuter]at b9;simp;(with_reducible repeat' first|((first|apply bL|apply bQ|apply bP)<;>intro h<;>try simp at h)|refine aj ?_|simp)
 ·rw[if_pos (by omega)]at b9;refine H.loopA av [1,2,3,6] (fun(x:Nat×Array α)=>[(7,.int .i64 x.1)]) (·.2) (fun x=>x.1) (fun x=>x.2.size=n∧x.1≤i∧Sort.insInner lt a x.1 x.2=Sort.insInner lt a i cm) (i,cm) aU ⟨aU,by simp,rfl⟩ (by simp[Pv.look]) aR aR (by simp[aB]) ?_;rintro⟨j,fF⟩ ⟨hl,vE,gX⟩;simp only at hl vE gX;simp[Pv.look,H.slc,H.ssc];(with_reducible repeat' first|((first|apply bL|apply bQ|apply bP)<;>intro h<;>try simp at h)|refine aj ?_|simp[Pv.look,H.slc,H.ssc])
  ·obtain⟨j,rfl⟩:∃dx,j=dx+1:=⟨j-1,by omega⟩;have nZ:(((j+1:Nat):Int)-1)=(j:Nat):=by omega
   have oR:((i:Int)+1)=(i+1:Nat):=by omega
   have YS:((j:Int)+1)=(j+1:Nat):=by omega
   rw[Sort.insInner]at gX;have au:decide (j+1>a)=true:=by simp;omega
   rw[nZ];refine H.lessA hl _ _ (by omega) (by omega) fun o=>?_;cases ae:lt fF[j+1]! fF[j]! with
   |true=>rw[if_pos (by rw[au,ae];rfl)]at gX;simp;(with_reducible repeat' first|refine aj ?_|simp[Pv.look,H.slc,H.ssc]);rw[YS];refine H.swapA hl (by omega) _ _ (by omega) (by omega) fun o=>?_;simp;(with_reducible repeat' first|refine aj ?_|simp);refine bO.whl (j,Sort.swp fF (j+1) j) (by simp) ⟨by rw[gH,hl],by simp;omega,gX⟩ (H.weakC av (by simp[gH,hl]) (by simp[aB]))
   |false=>rw[if_neg (by simp[ae])]at gX;simp;((with_reducible repeat' first|refine aj ?_|simp|((first|apply bL|apply bQ|apply bP)<;>intro h<;>try simp at h))<;>(try exact cq));rw[oR];refine bO.whl (i+1,fF) (by simp;omega) ⟨hl,by simp;omega,by rw[←b9,←gX]⟩ (H.weakC av (by simpa using hl) (by simp[aB]))
  ·have oR:((i:Int)+1)=(i+1:Nat):=by omega
   have xC:Sort.insInner lt a j fF=fF:=by
    cases j with
    |zero=>rfl
    |succ j=>rw[Sort.insInner,if_neg (by simp;omega)]
   rw[oR];refine bO.whl (i+1,fF) (by simp;omega) ⟨hl,by simp;omega,by rw[←b9,←gX,xC]⟩ (H.weakC av (by simpa using hl) (by simp[aB]))
 ·rw[if_neg (by omega)]at b9;exact H.retA av aU (.inr rfl) ⟨rfl,cm,rfl,b9,aU⟩
end Go.Proofs.YtahlgcidhnjlbaaGreat
namespace Go.Proofs.YtahlgcidhnjlbaaGreat
open Go Go.Pv
variable {α:Type} [Inhabited α] {S:List α→cK} {n g b8:Nat} {lc b3:List ah} {lt:α→α→Bool}
theorem uN{p:α→Bool}{d:Array α}{i j:Nat}(h:¬(i≤j∧p d[j]! =true)):Sort.scanDown p d i j=j:=by
 cases j with
 |zero=>rfl
 |succ j=>rw[Sort.scanDown,if_neg (by simpa using h)]
theorem Ak{p:α→Bool}{d:Array α}{i j:Nat}(h:¬(i≤j∧p d[i]! =true)):Sort.scanUp p d j i=i:=by rw[Sort.scanUp,if_neg (by simpa using h)]
theorem LM{p:α→Bool}{d:Array α}{i j:Nat}(J:i≤j)(U:p d[i]! =true):Sort.scanUp p d j i=Sort.scanUp p d j (i+1):=by rw[Sort.scanUp,if_pos (by simp[J,U])]
theorem LL{p:α→Bool}{d:Array α}{i j:Nat}(J:i≤j+1)(U:p d[j+1]! =true):Sort.scanDown p d i (j+1)=Sort.scanDown p d i j:=by rw[Sort.scanDown,if_pos (by simp[J,U])]
theorem acp(H:eW S n g b8 lc b3 lt)(d:Array α)(aP:d.size=n)(a b pivot:Nat)(ra:a≤pivot)(ad8:pivot<b)(mO:a+1<b)(ad:b≤n):
  bN al 244 [eN g b8 lc b3,.int .i64 a,.int .i64 b,.int .i64 pivot] (S d.toList) fun r ai=>r= .tuple [.int .i64 (Sort.partition lt d a b pivot).1,.bool (Sort.partition lt d a b pivot).2.1]∧∃cc,ai=S cc.toList∧cc=(Sort.partition lt d a b pivot).2.2∧cc.size=n:=by
 obtain⟨R,bf⟩:∃R,R=Sort.partition lt d a b pivot:=⟨_,rfl⟩;rw[←bf];unfold Sort.partition at bf;have ag:=H.ok d.toList;have av:d.toList.length=n:=by simpa using aP
 have aA:∀l m,Pv.look (.loc m) (S l).b=none:=fun l=>(H.ok l).obj.1;have hu:∀l m cs,cA (.loc m) cs (S l).b=(S l).b++[(.loc m,cs)]:=fun l m cs=>jT (aA l m);have ax:∀m,aH.loc m∉cV (S d.toList):=jO ag.obj;have hle:=H.le;refine bN.mk mixed nK aa7 ahD (by simp) ag.obj fun aQ cL=>?_;unfold OS;simp[eN,hu,ax,cJ,aA];rw[H.ssc];refine H.swapA0 aP (by omega) a pivot (by omega) (by omega) fun o=>?_;obtain⟨d1,fm⟩:∃d1,d1=Sort.swp d a pivot:=⟨_,rfl⟩;have s1:d1.size=n:=by rw[fm,gH,aP]
 rw[←fm];simp only[←fm]at bf;have ak:((a:Int)+1)=(a+1:Nat):=by omega
 have aC:((b:Int)-1)=(b-1:Nat):=by omega
 simp;(with_reducible repeat' first|refine aj ?_|simp);rw[ak,aC];refine H.loopA av [1,4,11] (fun(i:Nat)=>[(10,.int .i64 i)]) (fun _=>d1) (fun i=>b+1-i) (fun i=>a+1≤i∧i≤b∧Sort.scanUp (fun x=>lt x d1[a]!) d1 (b-1) i=Sort.scanUp (fun x=>lt x d1[a]!) d1 (b-1) (a+1)) (a+1) s1 ⟨by omega,by omega,rfl⟩ (by simp[Pv.look]) aR aR (by simp[aB]) ?_;rintro i ⟨i1,i2,i3⟩;simp[Pv.look,H.slc];((with_reducible repeat' first|refine aj ?_|simp[Pv.look,H.slc]|((first|apply bL|apply bQ|apply bP)<;>intro h<;>try simp at h))<;>(try exact cq));refine H.lessA s1 i a (by omega) (by omega) fun o=>?_;cases ae:lt d1[i]! d1[a]!;rotate_left
 ·have oR:((i:Int)+1)=(i+1:Nat):=by omega
  simp;(with_reducible repeat' first|refine aj ?_|simp);rw[oR];refine bO.whl (i+1) (by omega) ⟨by omega,by omega,by rw[←i3];exact(LM (p:=fun x=>lt x d1[a]!) (by omega) ae).symm⟩ (H.weakC av (by simpa using s1) (by simp[aB]))
 rotate_left
 ·have i4:Sort.scanUp (fun x=>lt x d1[a]!) d1 (b-1) i=i:=Ak (by simp[ae]);rw[i4]at i3;rw[←i3]at bf;simp;refine H.loopA av [1,4,10] (fun(j:Nat)=>[(11,.int .i64 j)]) (fun _=>d1) (fun j=>j) (fun j=>i≤j+1∧j≤b-1∧Sort.scanDown (fun x=> !lt x d1[a]!) d1 i j=Sort.scanDown (fun x=> !lt x d1[a]!) d1 i (b-1)) (b-1) s1 ⟨by omega,by omega,rfl⟩ (by simp[Pv.look]) aR aR (by simp[aB]) ?_;rintro j ⟨hl,vE,gX⟩;simp[Pv.look,H.slc];((with_reducible repeat' first|refine aj ?_|simp[Pv.look,H.slc,H.ssc]|((first|apply bL|apply bQ|apply bP)<;>intro h<;>try simp at h))<;>(try exact cq))
  ·refine H.lessA s1 j a (by omega) (by omega) fun o=>?_;cases aL:lt d1[j]! d1[a]!
   ·obtain⟨j,rfl⟩:∃dx,j=dx+1:=⟨j-1,by omega⟩;have nZ:(((j+1:Nat):Int)-1)=(j:Nat):=by omega
    simp;(with_reducible repeat' first|refine aj ?_|simp);try rw[nZ]
    refine bO.whl j (by omega) ⟨by omega,by omega,by rw[←gX];exact(LL (p:=fun x=> !lt x d1[a]!) (by omega) (by simp[aL])).symm⟩ (H.weakC av (by simpa using s1) (by simp[aB]))
   ·have xC:Sort.scanDown (fun x=> !lt x d1[a]!) d1 i j=j:=uN (by simp[aL]);have cF:i≠j:=fun e=>by subst e;rw[ae]at aL;cases aL
    rw[xC]at gX;rw[←gX,if_neg (by omega)]at bf;simp;((with_reducible repeat' first|refine aj ?_|simp[Pv.look,H.slc,H.ssc]|((first|apply bL|apply bQ|apply bP)<;>intro h<;>try simp at h))<;>(try exact cq));refine H.swapA s1 (by omega) i j (by omega) (by omega) fun o=>?_;obtain⟨d2,eF⟩:∃d2,d2=Sort.swp d1 i j:=⟨_,rfl⟩;have s2:d2.size=n:=by rw[eF,gH,s1]
    rw[←eF];rw[←eF]at bf;have bk:((i:Int)+1)=(i+1:Nat):=by omega
    have dc:((j:Int)-1)=(j-1:Nat):=by omega
    simp;(with_reducible repeat' first|refine aj ?_|simp);rw[bk,dc];refine H.loopA av [1,4] (fun(x:(Nat×Nat)×Array α)=>[(10,.int .i64 x.1.1),(11,.int .i64 x.1.2)]) (·.2) (fun x=>x.1.2+1-x.1.1) (fun x=>x.2.size=n∧(a+1≤x.1.1∧x.1.1≤x.1.2+1∧x.1.2≤b-1)∧Sort.partLoop lt a x.1.1 x.1.2 x.2=Sort.partLoop lt a (i+1) (j-1) d2) ((i+1,j-1),d2) s2 ⟨s2,⟨by simp;omega,by simp;omega,by simp;omega⟩,rfl⟩ (by simp[Pv.look]) aR aR (by simp[aB]) ?_;rintro⟨⟨vC,dx⟩,cm⟩ ⟨aU,⟨bG,b9,eV⟩,dd⟩;simp only at aU bG b9 eV dd;rw[Sort.partLoop]at dd;generalize mM:Sort.partLoop lt a (i+1) (j-1) d2=G at dd bf;simp;refine H.loopA av [1,4,11] (fun(x:Nat)=>[(10,.int .i64 x)]) (fun _=>cm) (fun x=>b+1-x) (fun x=>vC≤x∧x≤dx+1∧Sort.scanUp (fun x=>lt x cm[a]!) cm dx x=Sort.scanUp (fun x=>lt x cm[a]!) cm dx vC) vC aU ⟨by omega,by omega,rfl⟩ (by simp[Pv.look]) aR aR (by simp[aB]) ?_;rintro p ⟨cO,dp,iJ⟩;simp[Pv.look,H.slc];((with_reducible repeat' first|refine aj ?_|simp[Pv.look,H.slc]|((first|apply bL|apply bQ|apply bP)<;>intro h<;>try simp at h))<;>(try exact cq))
    ·refine H.lessA aU p a (by omega) (by omega) fun o=>?_;cases h6:lt cm[p]! cm[a]!;rotate_left
     ·have oR:((p:Int)+1)=(p+1:Nat):=by omega
      simp;(with_reducible repeat' first|refine aj ?_|simp);rw[oR];refine bO.whl (p+1) (by omega) ⟨by omega,by omega,by rw[←iJ];exact(LM (p:=fun x=>lt x cm[a]!) (by omega) h6).symm⟩ (H.weakC av (by simpa using aU) (by simp[aB]))
     ·have uy:Sort.scanUp (fun x=>lt x cm[a]!) cm dx p=p:=Ak (by simp[h6]);rw[uy]at iJ;simp only[←iJ]at dd;simp;refine H.loopA av [1,4,10] (fun(x:Nat)=>[(11,.int .i64 x)]) (fun _=>cm) (fun x=>x) (fun x=>p≤x+1∧x≤dx∧Sort.scanDown (fun x=> !lt x cm[a]!) cm p x=Sort.scanDown (fun x=> !lt x cm[a]!) cm p dx) dx aU ⟨by omega,by omega,rfl⟩ (by simp[Pv.look]) aR aR (by simp[aB]) ?_;rintro q ⟨a6,bE,bX⟩;simp[Pv.look,H.slc];((with_reducible repeat' first|refine aj ?_|simp[Pv.look,H.slc,H.ssc]|((first|apply bL|apply bQ|apply bP)<;>intro h<;>try simp at h))<;>(try exact cq))
      ·refine H.lessA aU q a (by omega) (by omega) fun o=>?_;cases rv:lt cm[q]! cm[a]!
       ·obtain⟨q,rfl⟩:∃dx,q=dx+1:=⟨q-1,by omega⟩;have nZ:(((q+1:Nat):Int)-1)=(q:Nat):=by omega
        simp;(with_reducible repeat' first|refine aj ?_|simp);try rw[nZ]
        refine bO.whl q (by omega) ⟨by omega,by omega,by rw[←bX];exact(LL (p:=fun x=> !lt x cm[a]!) (by omega) (by simp[rv])).symm⟩ (H.weakC av (by simpa using aU) (by simp[aB]))
       ·have cX:Sort.scanDown (fun x=> !lt x cm[a]!) cm p q=q:=uN (by simp[rv]);have cF:p≠q:=fun e=>by subst e;rw[h6]at rv;cases rv
        rw[cX]at bX;simp only[←bX]at dd;rw[if_neg (by omega),dif_pos (by omega)]at dd;simp;((with_reducible repeat' first|refine aj ?_|simp[Pv.look,H.slc,H.ssc]|((first|apply bL|apply bQ|apply bP)<;>intro h<;>try simp at h))<;>(try exact cq));refine H.swapA aU (by omega) p q (by omega) (by omega) fun o=>?_;have gV:((p:Int)+1)=(p+1:Nat):=by omega
        have hI:((q:Int)-1)=(q-1:Nat):=by omega
        simp;(with_reducible repeat' first|((first|apply bL|apply bQ|apply bP)<;>intro h<;>try simp at h)|refine aj ?_|simp);rw[gV,hI];refine bO.whl ((p+1,q-1),Sort.swp cm p q) (by simp;omega) ⟨by rw[gH,aU],⟨by simp;omega,by simp;omega,by simp;omega⟩,dd⟩ (H.weakC av (by simp[gH,aU]) (by simp[aB]))
      ·have cX:Sort.scanDown (fun x=> !lt x cm[a]!) cm p q=q:=uN (by omega);rw[cX]at bX;simp only[←bX]at dd;rw[if_pos (by omega)]at dd;rw[←dd]at bf;refine H.swapA aU (by omega) q a (by omega) (by omega) fun o=>?_;simp;refine H.retR av (d:=Sort.swp cm q a) (by rw[gH,aU]) (.inl rfl) ?_;simp[cY,CQ,aW,aX,aV];rw[bf];exact⟨⟨rfl,rfl⟩,_,rfl,rfl,by rw[gH,aU]⟩
    ·have uy:Sort.scanUp (fun x=>lt x cm[a]!) cm dx p=p:=Ak (by omega);rw[uy]at iJ;simp only[←iJ]at dd;have cX:Sort.scanDown (fun x=> !lt x cm[a]!) cm p dx=dx:=uN (by omega);rw[cX,if_pos (by omega)]at dd;rw[←dd]at bf;refine H.loopA av [1,4,10] (fun(x:Nat)=>[(11,.int .i64 x)]) (fun _=>cm) (fun x=>x) (fun x=>x=dx) dx aU rfl (by simp[Pv.look]) aR aR (by simp[aB]) ?_;rintro q rfl;simp[Pv.look,H.slc];((with_reducible repeat' first|refine aj ?_|simp[Pv.look,H.slc,H.ssc]|((first|apply bL|apply bQ|apply bP)<;>intro h<;>try simp at h))<;>(try exact cq));refine H.swapA aU (by omega) q a (by omega) (by omega) fun o=>?_;simp;refine H.retR av (d:=Sort.swp cm q a) (by rw[gH,aU]) (.inl rfl) ?_;simp[cY,CQ,aW,aX,aV];rw[bf];exact⟨⟨rfl,rfl⟩,_,rfl,rfl,by rw[gH,aU]⟩
  ·have xC:Sort.scanDown (fun x=> !lt x d1[a]!) d1 i j=j:=uN (by omega);rw[xC]at gX;rw[←gX,if_pos (by omega)]at bf;refine H.swapA s1 (by omega) j a (by omega) (by omega) fun o=>?_;simp;refine H.retR av (d:=Sort.swp d1 j a) (by rw[gH,s1]) (.inl rfl) ?_;simp[cY,CQ,aW,aX,aV];rw[bf];exact⟨⟨rfl,rfl⟩,_,rfl,rfl,by rw[gH,s1]⟩
 ·have i4:Sort.scanUp (fun x=>lt x d1[a]!) d1 (b-1) i=i:=Ak (by omega);rw[i4]at i3;have xC:Sort.scanDown (fun x=> !lt x d1[a]!) d1 i (b-1)=b-1:=uN (by omega);rw[←i3,xC,if_pos (by omega)]at bf;refine H.loopA av [1,4,10] (fun(j:Nat)=>[(11,.int .i64 j)]) (fun _=>d1) (fun j=>j) (fun j=>j=b-1) (b-1) s1 rfl (by simp[Pv.look]) aR aR (by simp[aB]) ?_;rintro j rfl;simp[Pv.look,H.slc];((with_reducible repeat' first|refine aj ?_|simp[Pv.look,H.slc,H.ssc]|((first|apply bL|apply bQ|apply bP)<;>intro h<;>try simp at h))<;>(try exact cq));refine H.swapA s1 (by omega) (b-1) a (by omega) (by omega) fun o=>?_;simp;refine H.retR av (d:=Sort.swp d1 (b-1) a) (by rw[gH,s1]) (.inl rfl) ?_;simp[cY,CQ,aW,aX,aV];rw[bf];exact⟨⟨rfl,rfl⟩,_,rfl,rfl,by rw[gH,s1]⟩
end Go.Proofs.YtahlgcidhnjlbaaGreat
namespace Go.Proofs.YtahlgcidhnjlbaaGreat
open Go Go.Pv
variable {α:Type} [Inhabited α] {S:List α→cK} {n g b8:Nat} {lc b3:List ah} {lt:α→α→Bool}
theorem acq(H:eW S n g b8 lc b3 lt)(d:Array α)(aP:d.size=n)(a b pivot:Nat)(ra:a≤pivot)(ad8:pivot<b)(mO:a+1<b)(ad:b≤n):
  bN al 243 [eN g b8 lc b3,.int .i64 a,.int .i64 b,.int .i64 pivot] (S d.toList) fun r ai=>r= .int .i64 (Sort.partitionEqual lt d a b pivot).1∧∃cc,ai=S cc.toList∧cc=(Sort.partitionEqual lt d a b pivot).2∧cc.size=n:=by
 obtain⟨R,bf⟩:∃R,R=Sort.partitionEqual lt d a b pivot:=⟨_,rfl⟩;rw[←bf];unfold Sort.partitionEqual at bf;have ag:=H.ok d.toList;have av:d.toList.length=n:=by simpa using aP
 have aA:∀l m,Pv.look (.loc m) (S l).b=none:=fun l=>(H.ok l).obj.1;have hu:∀l m cs,cA (.loc m) cs (S l).b=(S l).b++[(.loc m,cs)]:=fun l m cs=>jT (aA l m);have ax:∀m,aH.loc m∉cV (S d.toList):=jO ag.obj;have hle:=H.le;refine bN.mk mixed nK aa6 ahC (by simp) ag.obj fun aQ cL=>?_;unfold OR;simp[eN,hu,ax,cJ,aA];rw[H.ssc];refine H.swapA0 aP (by omega) a pivot (by omega) (by omega) fun o=>?_;obtain⟨d1,fm⟩:∃d1,d1=Sort.swp d a pivot:=⟨_,rfl⟩;have s1:d1.size=n:=by rw[fm,gH,aP]
 rw[←fm];rw[←fm]at bf;have ak:((a:Int)+1)=(a+1:Nat):=by omega
 have aC:((b:Int)-1)=(b-1:Nat):=by omega
 simp;(with_reducible repeat' first|refine aj ?_|simp);rw[ak,aC];refine H.loopA av [1,4] (fun(x:(Nat×Nat)×Array α)=>[(9,.int .i64 x.1.1),(10,.int .i64 x.1.2)]) (·.2) (fun x=>x.1.2+1-x.1.1) (fun x=>x.2.size=n∧(a+1≤x.1.1∧x.1.1≤x.1.2+1∧x.1.2≤b-1)∧Sort.partEqLoop lt a x.1.1 x.1.2 x.2=R) ((a+1,b-1),d1) s1 ⟨s1,⟨by simp,by simp;omega,by simp⟩,bf.symm⟩ (by simp[Pv.look]) aR aR (by simp[aB]) ?_;rintro⟨⟨vC,dx⟩,cm⟩ ⟨aU,⟨bG,b9,eV⟩,dd⟩;simp only at aU bG b9 eV dd;rw[Sort.partEqLoop]at dd;simp;refine H.loopA av [1,4,10] (fun(x:Nat)=>[(9,.int .i64 x)]) (fun _=>cm) (fun x=>b+1-x) (fun x=>vC≤x∧x≤dx+1∧Sort.scanUp (fun x=> !lt cm[a]! x) cm dx x=Sort.scanUp (fun x=> !lt cm[a]! x) cm dx vC) vC aU ⟨by omega,by omega,rfl⟩ (by simp[Pv.look]) aR aR (by simp[aB]) ?_;rintro p ⟨cO,dp,iJ⟩;simp[Pv.look,H.slc];((with_reducible repeat' first|refine aj ?_|simp[Pv.look,H.slc]|((first|apply bL|apply bQ|apply bP)<;>intro h<;>try simp at h))<;>(try exact cq))
 ·refine H.lessA aU a p (by omega) (by omega) fun o=>?_;cases h6:lt cm[a]! cm[p]!
  ·have oR:((p:Int)+1)=(p+1:Nat):=by omega
   simp;(with_reducible repeat' first|refine aj ?_|simp);rw[oR];refine bO.whl (p+1) (by omega) ⟨by omega,by omega,by rw[←iJ];exact(LM (p:=fun x=> !lt cm[a]! x) (by omega) (by simp[h6])).symm⟩ (H.weakC av (by simpa using aU) (by simp[aB]))
  ·have uy:Sort.scanUp (fun x=> !lt cm[a]! x) cm dx p=p:=Ak (by simp[h6]);rw[uy]at iJ;simp only[←iJ]at dd;simp;refine H.loopA av [1,4,9] (fun(x:Nat)=>[(10,.int .i64 x)]) (fun _=>cm) (fun x=>x) (fun x=>p≤x+1∧x≤dx∧Sort.scanDown (fun x=>lt cm[a]! x) cm p x=Sort.scanDown (fun x=>lt cm[a]! x) cm p dx) dx aU ⟨by omega,by omega,rfl⟩ (by simp[Pv.look]) aR aR (by simp[aB]) ?_;rintro q ⟨a6,bE,bX⟩;simp[Pv.look,H.slc];((with_reducible repeat' first|refine aj ?_|simp[Pv.look,H.slc,H.ssc]|((first|apply bL|apply bQ|apply bP)<;>intro h<;>try simp at h))<;>(try exact cq))
   ·refine H.lessA aU a q (by omega) (by omega) fun o=>?_;cases rv:lt cm[a]! cm[q]!;rotate_left
    ·obtain⟨q,rfl⟩:∃dx,q=dx+1:=⟨q-1,by omega⟩;have nZ:(((q+1:Nat):Int)-1)=(q:Nat):=by omega
     simp;(with_reducible repeat' first|refine aj ?_|simp);try rw[nZ]
     refine bO.whl q (by omega) ⟨by omega,by omega,by rw[←bX];exact(LL (p:=fun x=>lt cm[a]! x) (by omega) (by simp[rv])).symm⟩ (H.weakC av (by simpa using aU) (by simp[aB]))
    ·have cX:Sort.scanDown (fun x=>lt cm[a]! x) cm p q=q:=uN (by simp[rv]);have cF:p≠q:=fun e=>by subst e;rw[h6]at rv;cases rv
     rw[cX]at bX;simp only[←bX]at dd;rw[if_neg (by omega),dif_pos (by omega)]at dd;simp;((with_reducible repeat' first|refine aj ?_|simp[Pv.look,H.slc,H.ssc]|((first|apply bL|apply bQ|apply bP)<;>intro h<;>try simp at h))<;>(try exact cq));refine H.swapA aU (by omega) p q (by omega) (by omega) fun o=>?_;have gV:((p:Int)+1)=(p+1:Nat):=by omega
     have hI:((q:Int)-1)=(q-1:Nat):=by omega
     simp;(with_reducible repeat' first|((first|apply bL|apply bQ|apply bP)<;>intro h<;>try simp at h)|refine aj ?_|simp);rw[gV,hI];refine bO.whl ((p+1,q-1),Sort.swp cm p q) (by simp;omega) ⟨by rw[gH,aU],⟨by simp;omega,by simp;omega,by simp;omega⟩,dd⟩ (H.weakC av (by simp[gH,aU]) (by simp[aB]))
   ·have cX:Sort.scanDown (fun x=>lt cm[a]! x) cm p q=q:=uN (by omega);rw[cX]at bX;simp only[←bX]at dd;rw[if_pos (by omega)]at dd;refine H.retR av (d:=cm) aU (.inl rfl) ?_;simp[cY,Le,aW,aX,aV];rw[←dd];exact⟨rfl,_,rfl,rfl,aU⟩
 ·have uy:Sort.scanUp (fun x=> !lt cm[a]! x) cm dx p=p:=Ak (by omega);rw[uy]at iJ;simp only[←iJ]at dd;have cX:Sort.scanDown (fun x=>lt cm[a]! x) cm p dx=dx:=uN (by omega);rw[cX,if_pos (by omega)]at dd;refine H.loopA av [1,4,9] (fun(x:Nat)=>[(10,.int .i64 x)]) (fun _=>cm) (fun x=>x) (fun x=>x=dx) dx aU rfl (by simp[Pv.look]) aR aR (by simp[aB]) ?_;rintro q rfl;simp[Pv.look,H.slc];((with_reducible repeat' first|refine aj ?_|simp[Pv.look,H.slc,H.ssc]|((first|apply bL|apply bQ|apply bP)<;>intro h<;>try simp at h))<;>(try exact cq));refine H.retR av (d:=cm) aU (.inl rfl) ?_;simp[cY,Le,aW,aX,aV];rw[←dd];exact⟨rfl,_,rfl,rfl,aU⟩
end Go.Proofs.YtahlgcidhnjlbaaGreat
namespace Go.Proofs.YtahlgcidhnjlbaaGreat
open Go Go.Pv
variable {α:Type} [Inhabited α] {S:List α→cK} {n g b8:Nat} {lc b3:List ah} {lt:α→α→Bool}
theorem aco(H:eW S n g b8 lc b3 lt)(d:Array α)(aP:d.size=n)(a b:Nat)(mO:a<b)(ad:b≤n)(U:2≤n):
  bN al 242 [eN g b8 lc b3,.int .i64 a,.int .i64 b] (S d.toList) fun r ai=>r= .bool (Sort.partialInsertionSort lt d a b).2∧∃cc,ai=S cc.toList∧cc=(Sort.partialInsertionSort lt d a b).1∧cc.size=n:=by
 obtain⟨R,bf⟩:∃R,R=Sort.partialInsertionSort lt d a b:=⟨_,rfl⟩;rw[←bf];unfold Sort.partialInsertionSort at bf;have ag:=H.ok d.toList;have av:d.toList.length=n:=by simpa using aP
 have aA:∀l m,Pv.look (.loc m) (S l).b=none:=fun l=>(H.ok l).obj.1;have hu:∀l m cs,cA (.loc m) cs (S l).b=(S l).b++[(.loc m,cs)]:=fun l m cs=>jT (aA l m);have ax:∀m,aH.loc m∉cV (S d.toList):=jO ag.obj;have hle:=H.le;refine bN.mk mixed nK aa5 ahB (by simp) ag.obj fun aQ cL=>?_;unfold OQ;simp[eN,hu,ax,cJ,aA];have ak:((a:Int)+1)=(a+1:Nat):=by omega
 (with_reducible repeat' first|refine aj ?_|simp);rw[ak];refine H.loopA av [1,2,3] (fun(x:(Nat×Nat)×Array α)=>[(7,.int .i64 x.1.1),(8,.int .i64 x.1.2)]) (·.2) (fun x=>5-x.1.2) (fun x=>x.2.size=n∧(a+1≤x.1.1∧x.1.1≤b∧x.1.2≤5)∧Sort.partialIns lt a b (5-x.1.2) x.1.1 x.2=R) ((a+1,0),d) aP ⟨aP,⟨by simp,by simp;omega,by simp⟩,bf.symm⟩ (by simp[cJ,aA]) aR aR (by simp[aB]) ?_;rintro⟨⟨i0,s⟩,cm⟩ ⟨aU,⟨bG,b9,eV⟩,dd⟩;simp only at aU bG b9 eV dd;simp;((with_reducible repeat' first|refine aj ?_|simp|((first|apply bL|apply bQ|apply bP)<;>intro h<;>try simp at h))<;>(try exact cq))
 ·obtain⟨m,hm⟩:∃m,5-s=m+1:=⟨5-s-1,by omega⟩;rw[hm,Sort.partialIns]at dd;refine H.loopA av [1,2,3,8] (fun(x:Nat)=>[(7,.int .i64 x)]) (fun _=>cm) (fun x=>b-x) (fun x=>i0≤x∧x≤b∧Sort.scanSorted lt cm b x=Sort.scanSorted lt cm b i0) i0 aU ⟨by omega,by omega,rfl⟩ (by simp[Pv.look]) aR aR (by simp[aB]) ?_;rintro i ⟨i1,i2,i3⟩;rw[Sort.scanSorted]at i3;have oR:((i:Int)+1)=(i+1:Nat):=by omega
  have Ee:((i:Int)-1)=(i-1:Nat):=by omega
  have es:((s:Int)+1)=(s+1:Nat):=by omega
  have em:5-(s+1)=m:=by omega
  simp[Pv.look,H.slc];((with_reducible repeat' first|refine aj ?_|simp[Pv.look,H.slc]|((first|apply bL|apply bQ|apply bP)<;>intro h<;>try simp at h))<;>(try exact cq))
  ·rw[Ee];refine H.lessA aU i (i-1) (by omega) (by omega) fun o=>?_;cases ae:lt cm[i]! cm[i-1]!
   ·rw[if_pos (by simp[ae];omega)]at i3;simp;(with_reducible repeat' first|refine aj ?_|simp);rw[oR];refine bO.whl (i+1) (by omega) ⟨by omega,by omega,i3⟩ (H.weakC av (by simpa using aU) (by simp[aB]))
   ·rw[if_neg (by simp[ae])]at i3;simp only[←i3]at dd;rw[if_neg (by omega)]at dd;have za:(i:Int)≠b:=by omega
    have adx:((i:Int)==b)=false:=by simp;omega
    simp;((with_reducible repeat' first|refine aj ?_|simp[za,adx,Pv.look,H.slc,H.ssc]|((first|apply bL|apply bQ|apply bP)<;>intro h<;>try simp at h))<;>(try exact cq))
    ·rw[if_pos (by omega)]at dd;refine H.retR av (d:=cm) aU (.inl rfl) ?_;simp[cY,F9,aW,aX,aV];rw[←dd];exact⟨rfl,_,rfl,rfl,aU⟩
    ·rw[if_neg (by omega)]at dd;rw[Ee];refine H.swapA aU U i (i-1) (by omega) (by omega) fun o=>?_;obtain⟨d2,eF⟩:∃d2,d2=Sort.swp cm i (i-1):=⟨_,rfl⟩;have s2:d2.size=n:=by rw[eF,gH,aU]
     rw[←eF];simp only[←eF]at dd;by_cases lu:2≤b-i
     ·rw[if_pos lu]at dd;have sG:(2:Int)≤(b:Int)-i:=by omega
      by_cases Bx:2≤i-a
      ·rw[if_pos Bx]at dd;have xc:(2:Int)≤(i:Int)-a:=by omega
       simp;(with_reducible repeat' first|refine aj ?_|simp[xc]);rw[Ee];refine H.loopA av [1,2,3,7,8] (fun(x:Nat×Array α)=>[(9,.int .i64 x.1)]) (·.2) (fun x=>x.1) (fun x=>x.2.size=n∧x.1≤i-1∧Sort.shiftDown lt x.1 x.2=Sort.shiftDown lt (i-1) d2) (i-1,d2) s2 ⟨s2,by simp,rfl⟩ (by simp[Pv.look]) aR aR (by simp[aB]) ?_;rintro⟨j,fF⟩ ⟨hl,vE,gX⟩;simp only at hl vE gX;simp[Pv.look,H.slc,H.ssc];((with_reducible repeat' first|refine aj ?_|simp[Pv.look,H.slc,H.ssc,sG]|((first|apply bL|apply bQ|apply bP)<;>intro h<;>try simp at h))<;>(try exact cq))
       ·obtain⟨j,rfl⟩:∃dx,j=dx+1:=⟨j-1,by omega⟩;have nZ:(((j+1:Nat):Int)-1)=(j:Nat):=by omega
        rw[Sort.shiftDown]at gX;try rw[nZ]
        refine H.lessA hl (j+1) j (by omega) (by omega) fun o=>?_;cases aL:lt fF[j+1]! fF[j]!
        ·rw[if_pos (by simp[aL])]at gX;rw[←gX]at dd;try simp
         try(with_reducible repeat' first|refine aj ?_|simp[Pv.look,H.slc,H.ssc,sG])
         rw[oR];refine H.loopA av [1,2,3,7,8] (fun(x:Nat×Array α)=>[(10,.int .i64 x.1)]) (·.2) (fun x=>b-x.1) (fun x=>x.2.size=n∧(i+1≤x.1∧x.1≤b)∧Sort.shiftUp lt b x.1 x.2=Sort.shiftUp lt b (i+1) fF) (i+1,fF) hl ⟨hl,⟨by simp,by simp;omega⟩,rfl⟩ (by simp[Pv.look]) aR aR (by simp[aB]) ?_;rintro⟨q,mH⟩ ⟨a6,⟨bE,xX⟩,bX⟩;simp only at a6 bE xX bX;rw[Sort.shiftUp]at bX;have eq:((q:Int)-1)=(q-1:Nat):=by omega
         have A6:((q:Int)+1)=(q+1:Nat):=by omega
         simp[Pv.look,H.slc,H.ssc];((with_reducible repeat' first|refine aj ?_|simp[Pv.look,H.slc,H.ssc]|((first|apply bL|apply bQ|apply bP)<;>intro h<;>try simp at h))<;>(try exact cq))
         ·rw[if_pos (by omega)]at bX;rw[eq];refine H.lessA a6 q (q-1) (by omega) (by omega) fun o=>?_;cases bp:lt mH[q]! mH[q-1]!
          ·rw[if_pos (by simp[bp])]at bX;rw[←bX]at dd;simp;(with_reducible repeat' first|refine aj ?_|simp);rw[es];refine bO.whl ((i,s+1),mH) (by simp;omega) ⟨a6,⟨by simp;omega,by simp;omega,by simp;omega⟩,by simp only[em];exact dd⟩ (H.weakC av (by simpa using a6) (by simp[aB]))
          ·rw[if_neg (by simp[bp])]at bX;simp;(with_reducible repeat' first|refine aj ?_|simp[Pv.look,H.slc,H.ssc]);rw[eq];refine H.swapA a6 (by omega) q (q-1) (by omega) (by omega) fun o=>?_;simp;((with_reducible repeat' first|refine aj ?_|simp|((first|apply bL|apply bQ|apply bP)<;>intro h<;>try simp at h))<;>(try exact cq));rw[A6];refine bO.whl (q+1,Sort.swp mH q (q-1)) (by simp;omega) ⟨by rw[gH,a6],⟨by simp;omega,by simp;omega⟩,bX⟩ (H.weakC av (by simp[gH,a6]) (by simp[aB]))
         ·rw[if_neg (by omega)]at bX;rw[←bX]at dd;rw[es];refine bO.whl ((i,s+1),mH) (by simp;omega) ⟨a6,⟨by simp;omega,by simp;omega,by simp;omega⟩,by simp only[em];exact dd⟩ (H.weakC av (by simpa using a6) (by simp[aB]))
        ·rw[if_neg (by simp[aL])]at gX;simp;(with_reducible repeat' first|refine aj ?_|simp[Pv.look,H.slc,H.ssc]);try rw[nZ]
         refine H.swapA hl U (j+1) j (by omega) (by omega) fun o=>?_;simp;((with_reducible repeat' first|refine aj ?_|simp|((first|apply bL|apply bQ|apply bP)<;>intro h<;>try simp at h))<;>(try exact cq));try rw[nZ]
         refine bO.whl (j,Sort.swp fF (j+1) j) (by simp) ⟨by rw[gH,hl],by simp;omega,gX⟩ (H.weakC av (by simp[gH,hl]) (by simp[aB]))
       ·obtain rfl:j=0:=by omega
        rw[Sort.shiftDown]at gX;rw[←gX]at dd;try simp
        try(with_reducible repeat' first|refine aj ?_|simp[Pv.look,H.slc,H.ssc,sG])
        rw[oR];refine H.loopA av [1,2,3,7,8] (fun(x:Nat×Array α)=>[(10,.int .i64 x.1)]) (·.2) (fun x=>b-x.1) (fun x=>x.2.size=n∧(i+1≤x.1∧x.1≤b)∧Sort.shiftUp lt b x.1 x.2=Sort.shiftUp lt b (i+1) fF) (i+1,fF) hl ⟨hl,⟨by simp,by simp;omega⟩,rfl⟩ (by simp[Pv.look]) aR aR (by simp[aB]) ?_;rintro⟨q,mH⟩ ⟨a6,⟨bE,xX⟩,bX⟩;simp only at a6 bE xX bX;rw[Sort.shiftUp]at bX;have eq:((q:Int)-1)=(q-1:Nat):=by omega
        have A6:((q:Int)+1)=(q+1:Nat):=by omega
        simp[Pv.look,H.slc,H.ssc];((with_reducible repeat' first|refine aj ?_|simp[Pv.look,H.slc,H.ssc]|((first|apply bL|apply bQ|apply bP)<;>intro h<;>try simp at h))<;>(try exact cq))
        ·rw[if_pos (by omega)]at bX;rw[eq];refine H.lessA a6 q (q-1) (by omega) (by omega) fun o=>?_;cases bp:lt mH[q]! mH[q-1]!
         ·rw[if_pos (by simp[bp])]at bX;rw[←bX]at dd;simp;(with_reducible repeat' first|refine aj ?_|simp);rw[es];refine bO.whl ((i,s+1),mH) (by simp;omega) ⟨a6,⟨by simp;omega,by simp;omega,by simp;omega⟩,by simp only[em];exact dd⟩ (H.weakC av (by simpa using a6) (by simp[aB]))
         ·rw[if_neg (by simp[bp])]at bX;simp;(with_reducible repeat' first|refine aj ?_|simp[Pv.look,H.slc,H.ssc]);rw[eq];refine H.swapA a6 (by omega) q (q-1) (by omega) (by omega) fun o=>?_;simp;((with_reducible repeat' first|refine aj ?_|simp|((first|apply bL|apply bQ|apply bP)<;>intro h<;>try simp at h))<;>(try exact cq));rw[A6];refine bO.whl (q+1,Sort.swp mH q (q-1)) (by simp;omega) ⟨by rw[gH,a6],⟨by simp;omega,by simp;omega⟩,bX⟩ (H.weakC av (by simp[gH,a6]) (by simp[aB]))
        ·rw[if_neg (by omega)]at bX;rw[←bX]at dd;rw[es];refine bO.whl ((i,s+1),mH) (by simp;omega) ⟨a6,⟨by simp;omega,by simp;omega,by simp;omega⟩,by simp only[em];exact dd⟩ (H.weakC av (by simpa using a6) (by simp[aB]))
      ·rw[if_neg Bx]at dd;have xc:¬(2:Int)≤(i:Int)-a:=by omega
       simp;(with_reducible repeat' first|refine aj ?_|simp[xc,sG]);try simp
       try(with_reducible repeat' first|refine aj ?_|simp[Pv.look,H.slc,H.ssc,sG])
       rw[oR];refine H.loopA av [1,2,3,7,8] (fun(x:Nat×Array α)=>[(10,.int .i64 x.1)]) (·.2) (fun x=>b-x.1) (fun x=>x.2.size=n∧(i+1≤x.1∧x.1≤b)∧Sort.shiftUp lt b x.1 x.2=Sort.shiftUp lt b (i+1) d2) (i+1,d2) s2 ⟨s2,⟨by simp,by simp;omega⟩,rfl⟩ (by simp[Pv.look]) aR aR (by simp[aB]) ?_;rintro⟨q,mH⟩ ⟨a6,⟨bE,xX⟩,bX⟩;simp only at a6 bE xX bX;rw[Sort.shiftUp]at bX;have eq:((q:Int)-1)=(q-1:Nat):=by omega
       have A6:((q:Int)+1)=(q+1:Nat):=by omega
       simp[Pv.look,H.slc,H.ssc];((with_reducible repeat' first|refine aj ?_|simp[Pv.look,H.slc,H.ssc]|((first|apply bL|apply bQ|apply bP)<;>intro h<;>try simp at h))<;>(try exact cq))
       ·rw[if_pos (by omega)]at bX;rw[eq];refine H.lessA a6 q (q-1) (by omega) (by omega) fun o=>?_;cases bp:lt mH[q]! mH[q-1]!
        ·rw[if_pos (by simp[bp])]at bX;rw[←bX]at dd;simp;(with_reducible repeat' first|refine aj ?_|simp);rw[es];refine bO.whl ((i,s+1),mH) (by simp;omega) ⟨a6,⟨by simp;omega,by simp;omega,by simp;omega⟩,by simp only[em];exact dd⟩ (H.weakC av (by simpa using a6) (by simp[aB]))
        ·rw[if_neg (by simp[bp])]at bX;simp;(with_reducible repeat' first|refine aj ?_|simp[Pv.look,H.slc,H.ssc]);rw[eq];refine H.swapA a6 (by omega) q (q-1) (by omega) (by omega) fun o=>?_;simp;((with_reducible repeat' first|refine aj ?_|simp|((first|apply bL|apply bQ|apply bP)<;>intro h<;>try simp at h))<;>(try exact cq));rw[A6];refine bO.whl (q+1,Sort.swp mH q (q-1)) (by simp;omega) ⟨by rw[gH,a6],⟨by simp;omega,by simp;omega⟩,bX⟩ (H.weakC av (by simp[gH,a6]) (by simp[aB]))
       ·rw[if_neg (by omega)]at bX;rw[←bX]at dd;rw[es];refine bO.whl ((i,s+1),mH) (by simp;omega) ⟨a6,⟨by simp;omega,by simp;omega,by simp;omega⟩,by simp only[em];exact dd⟩ (H.weakC av (by simpa using a6) (by simp[aB]))
     ·rw[if_neg lu]at dd;have sG:¬(2:Int)≤(b:Int)-i:=by omega
      by_cases Bx:2≤i-a
      ·rw[if_pos Bx]at dd;have xc:(2:Int)≤(i:Int)-a:=by omega
       simp;(with_reducible repeat' first|refine aj ?_|simp[xc]);rw[Ee];refine H.loopA av [1,2,3,7,8] (fun(x:Nat×Array α)=>[(9,.int .i64 x.1)]) (·.2) (fun x=>x.1) (fun x=>x.2.size=n∧x.1≤i-1∧Sort.shiftDown lt x.1 x.2=Sort.shiftDown lt (i-1) d2) (i-1,d2) s2 ⟨s2,by simp,rfl⟩ (by simp[Pv.look]) aR aR (by simp[aB]) ?_;rintro⟨j,fF⟩ ⟨hl,vE,gX⟩;simp only at hl vE gX;simp[Pv.look,H.slc,H.ssc];((with_reducible repeat' first|refine aj ?_|simp[Pv.look,H.slc,H.ssc,sG]|((first|apply bL|apply bQ|apply bP)<;>intro h<;>try simp at h))<;>(try exact cq))
       ·obtain⟨j,rfl⟩:∃dx,j=dx+1:=⟨j-1,by omega⟩;have nZ:(((j+1:Nat):Int)-1)=(j:Nat):=by omega
        rw[Sort.shiftDown]at gX;try rw[nZ]
        refine H.lessA hl (j+1) j (by omega) (by omega) fun o=>?_;cases aL:lt fF[j+1]! fF[j]!
        ·rw[if_pos (by simp[aL])]at gX;rw[←gX]at dd;try simp
         try(with_reducible repeat' first|refine aj ?_|simp[Pv.look,H.slc,H.ssc,sG])
         rw[es];refine bO.whl ((i,s+1),fF) (by simp;omega) ⟨hl,⟨by simp;omega,by simp;omega,by simp;omega⟩,by simp only[em];exact dd⟩ (H.weakC av (by simpa using hl) (by simp[aB]))
        ·rw[if_neg (by simp[aL])]at gX;simp;(with_reducible repeat' first|refine aj ?_|simp[Pv.look,H.slc,H.ssc]);try rw[nZ]
         refine H.swapA hl U (j+1) j (by omega) (by omega) fun o=>?_;simp;((with_reducible repeat' first|refine aj ?_|simp|((first|apply bL|apply bQ|apply bP)<;>intro h<;>try simp at h))<;>(try exact cq));try rw[nZ]
         refine bO.whl (j,Sort.swp fF (j+1) j) (by simp) ⟨by rw[gH,hl],by simp;omega,gX⟩ (H.weakC av (by simp[gH,hl]) (by simp[aB]))
       ·obtain rfl:j=0:=by omega
        rw[Sort.shiftDown]at gX;rw[←gX]at dd;try simp
        try(with_reducible repeat' first|refine aj ?_|simp[Pv.look,H.slc,H.ssc,sG])
        rw[es];refine bO.whl ((i,s+1),fF) (by simp;omega) ⟨hl,⟨by simp;omega,by simp;omega,by simp;omega⟩,by simp only[em];exact dd⟩ (H.weakC av (by simpa using hl) (by simp[aB]))
      ·rw[if_neg Bx]at dd;have xc:¬(2:Int)≤(i:Int)-a:=by omega
       simp;((with_reducible repeat' first|refine aj ?_|simp[xc,sG]|((first|apply bL|apply bQ|apply bP)<;>intro h<;>try simp at h))<;>(try exact cq));done
  ·rw[if_neg (by simp;omega)]at i3;simp only[←i3]at dd;rw[if_pos (by omega)]at dd;refine H.retR av (d:=cm) aU (.inl rfl) ?_;simp[cY,F9,aW,aX,aV];rw[←dd];exact⟨rfl,_,rfl,rfl,aU⟩
 ·have:5-s=0:=by omega
  rw[this,Sort.partialIns]at dd;refine H.retR av (d:=cm) aU (.inl rfl) ?_;simp[cY,F9,aW,aX,aV];rw[←dd];exact⟨rfl,_,rfl,rfl,aU⟩
end Go.Proofs.YtahlgcidhnjlbaaGreat
namespace Go.Proofs.YtahlgcidhnjlbaaGreat
open Go Go.Pv
variable {α:Type} [Inhabited α] {S:List α→cK} {n g b8:Nat} {lc b3:List ah} {lt:α→α→Bool}
def e3(S:List α→cK)(d:Array α)(v:Nat):cK:=⟨(.obj 901,[.int .i64 v])::(S d.toList).b,(S d.toList).e⟩
def rH(S:List α→cK)(m:Nat):Prop:= ∀l,Pv.look (.obj m) (S l).b=none∧Pv.look (.obj m) (S l).e=none
theorem nn(H:eW S n g b8 lc b3 lt)(d:Array α)(v:Nat):ed (e3 S d v):=by
 have h:=H.ok d.toList;have jg:∀k,inObs (S d.toList) k→inObs (e3 S d v) k:=fun k ab=>by
  rcases ab with ab|ab
  ·refine .inl ?_;simp only[e3,Pv.look];split
   ·rfl
   ·exact ab
  ·exact .inr ab
 refine⟨⟨fun m=>?_,h.obj.2⟩,fun k cs ab=>?_,fun k o ax xs ae=>jM jg _ (h.ke k o ax xs ae)⟩
 ·simp[e3,Pv.look,h.obj.1 m]
 ·simp only[e3,Pv.look]at ab;split at ab
  ·cases ab;simp[aI,aB]
  ·exact jM jg _ (h.kb k cs ab)
theorem sa(d:Array α)(v v':Nat):Same (e3 S d v) (e3 S d v'):=⟨fun k=>by simp only[e3,Pv.look];split<;>rfl,fun _=>rfl⟩
theorem IK(H:eW S n g b8 lc b3 lt)(ab:rH S 901)(d:Array α)(aP:d.size=n)(a b v:Nat)(bt:a<n)(ad:b<n)(aG:v≤1000):
  bN al 271 [eN g b8 lc b3,.int .i64 a,.int .i64 b,.ptr (.obj 901) 0] (e3 S d v) fun r ai=>r= .tuple [.int .i64 (Sort.order2 lt d a b v).1,.int .i64 (Sort.order2 lt d a b v).2.1]∧ai=e3 S d (Sort.order2 lt d a b v).2.2:=by
 have ag:=H.ok d.toList;have av:d.toList.length=n:=by simpa using aP
 have aA:∀l m,Pv.look (.loc m) (S l).b=none:=fun l=>(H.ok l).obj.1;have hu:∀l m cs,cA (.loc m) cs (S l).b=(S l).b++[(.loc m,cs)]:=fun l m cs=>jT (aA l m);have ax:∀m,aH.loc m∉cV (S d.toList):=jO ag.obj;have gp:∀l,Pv.look (.obj 901) (S l).b=none:=fun l=>(ab l).1;have kU:∀l,Pv.look (.obj 901) (S l).e=none:=fun l=>(ab l).2;have hle:=H.le;have km:=nn H d v;obtain⟨R,bf⟩:∃R,R=Sort.order2 lt d a b v:=⟨_,rfl⟩;rw[←bf];unfold Sort.order2 at bf;refine bN.mk mixed nK aa4 ahA (by simp) km.obj fun aQ cL=>?_;unfold OP;have ln:aH.loc 0∉cV (e3 S d v):=jO km.obj 0;generalize tZ:cV (e3 S d v)=ob at ln⊢;unfold e3;simp[eN,hu,ln,cJ,aA,Pv.look,cA];rw[H.slc];refine c6.ob (H.less d.toList av b a _ _ (yx (by omega)) (yx (by omega))) (H.ok _) (fun k cs ae=>?_) (fun _ _ ae=>ae) (by simp[aB,aI,H.klc d.toList av]) ?_
 ·simp only[Pv.look];split
  ·rename_i e;subst e;rw[gp]at ae;cases ae
  ·rw[cJ,ae]
 rintro r ai ⟨rfl,rfl⟩;refine⟨Same.refl _,?_⟩;have hw:cz (S d.toList).b ((aH.obj 901,[ah.int .i64 v])::((S d.toList).b++[(aH.loc 0,[ah.func g lc,ah.func b8 b3])]))=[(aH.obj 901,[ah.int .i64 v]),(aH.loc 0,[ah.func g lc,ah.func b8 b3])]:=by simp only[cz,gp];rw[im,gR];simp[cz,aA]
 rw[hw,gR];have dC:∀(t:List (Nat×ah)) (o:List aH) (v':Nat) (D:List ah) (x y:Nat),Pv.get 8 t= .int .i64 x→Pv.get 9 t= .int .i64 y→R=(x,y,v')→
   cT Ld (e3 S d v) (fun r ai=>r= .tuple [.int .i64 R.1,.int .i64 R.2.1]∧ai=e3 S d R.2.2) .ret ⟨t,(aH.obj 901,[.int .i64 v'])::(aH.loc 0,D)::(S d.toList).b,(S d.toList).e,1,o⟩:=by
  rintro t o v' D x y ae aL rfl;refine cT.at (e3 S d v') (.inl rfl) (nn H d v') (sa _ _ _) (fun k cs au=>?_) (fun _ _ au=>au) ?_
  ·simp only[e3,Pv.look]at au⊢;split at au
   ·rename_i e;rw[if_pos e];exact au
   ·rename_i e;rw[if_neg e];split
    ·rename_i aC;subst aC;rw[aA]at au;cases au
    ·exact au
  ·simp[cY,Ld,aW,aX,aV,ae,aL]
 cases ae:lt d[b]! d[a]! with
 |true=>
  rw[if_pos ae]at bf;simp[Pv.look,cA];(with_reducible repeat' first|refine aj ?_|simp[Pv.look,cA]);have ak:((v:Int)+1)=(v+1:Nat):=by omega
  rw[ak];exact dC _ _ (v+1) _ b a rfl rfl bf
 |false=>rw[if_neg (by simp[ae])]at bf;simp[Pv.look,cA];exact dC _ _ v _ a b rfl rfl bf
theorem TO{s ai:cK}{f:Nat}{args:List ah}{r:ah}(aJ:bN al f args s fun eC dJ=>eC=r∧dJ=ai)(ag:ed s)(e6:Same s ai)(ab:aI (inObs s) args){t:List (Nat×ah)}{D:List ah}{o:List aH}{d:aY Nat}{K:bq→Prop}
  (h:∀o,K ⟨eH d r t,(.loc 0,D)::ai.b,ai.e,1,o⟩):c6 al f args ⟨t,s.b++[(.loc 0,D)],s.e,1,o⟩ d K:=by
 refine c6.ob aJ ag (fun k cs ae=>by rw[cJ,ae]) (fun _ _ ae=>ae) ab ?_;rintro r ai ⟨rfl,rfl⟩;refine⟨e6,?_⟩;have ak:cz s.b (s.b++[(.loc 0,D)])=[(.loc 0,D)]:=by rw[im,gR];simp[cz,ag.obj.1 0]
 have aC:cz s.e s.e=[]:=gR _;simp only[ak,aC];exact h _
theorem Cy{s ai:cK}{f:Nat}{args:List ah}{r:ah}(aJ:bN al f args s fun eC dJ=>eC=r∧dJ=ai)(ag:ed s)(e6:Same s ai)(ab:aI (inObs s) args){t:List (Nat×ah)}{D:List ah}{o:List aH}{d:aY Nat}{K:bq→Prop}
  (h:∀o,K ⟨eH d r t,(.loc 0,D)::ai.b,ai.e,1,o⟩):c6 al f args ⟨t,(.loc 0,D)::s.b,s.e,1,o⟩ d K:=by
 refine c6.ob aJ ag (fun k cs ae=>?_) (fun _ _ ae=>ae) ab ?_
 ·cases k with
  |loc m=>rw[ag.obj.1 m]at ae;cases ae
  |obj m=>simpa[Pv.look]using ae
 rintro r ai ⟨rfl,rfl⟩;refine⟨e6,?_⟩;have ak:cz s.b ((.loc 0,D)::s.b)=[(.loc 0,D)]:=by have:=im s.b [(aH.loc 0,D)] s.b;rw[gR]at this;simpa[cz,ag.obj.1 0]using this
 have aC:cz s.e s.e=[]:=gR _;simp only[ak,aC];exact h _
theorem zV{d:Array α}{a b v n:Nat}(bt:a<n)(ad:b<n):(Sort.order2 lt d a b v).1<n∧(Sort.order2 lt d a b v).2.1<n∧(Sort.order2 lt d a b v).2.2≤v+1:=by unfold Sort.order2;split<;>simp<;>omega
theorem ui(H:eW S n g b8 lc b3 lt){d:Array α}(aP:d.size=n){v:Nat}:aB (inObs (e3 S d v)) (eN g b8 lc b3)∧aB (inObs (e3 S d v)) (.ptr (.obj 901) 0):=by
 refine⟨vJ (fun k ab=>?_) _ (H.kdata (lk:=d.toList) (by simpa using aP)),by simp[aB,inObs,e3,Pv.look]⟩;rcases ab with ab|ab
 ·refine .inl ?_;simp only[e3,Pv.look];split
  ·rfl
  ·exact ab
 ·exact .inr ab
theorem Vw(H:eW S n g b8 lc b3 lt){d:Array α}{v v':Nat}{fc:List bu}{Q:ah→cK→Prop}{t:List (Nat×ah)}{D:List ah}{o:List aH}(h:cY ⟨t,(.loc 0,D)::(e3 S d v').b,(S d.toList).e,1,o⟩ fc fun r=>aB (inObs (e3 S d v')) r∧Q r (e3 S d v')):
  cT fc (e3 S d v) Q .ret ⟨t,(.loc 0,D)::(e3 S d v').b,(S d.toList).e,1,o⟩:=by
 refine cT.at (e3 S d v') (.inl rfl) (nn H d v') (sa _ _ _) (fun k cs ae=>?_) (fun _ _ au=>au) h;cases k with
 |loc m=>rw[(nn H d v').obj.1 m]at ae;cases ae
 |obj m=>simpa[Pv.look]using ae
theorem IG(H:eW S n g b8 lc b3 lt)(ab:rH S 901)(d:Array α)(aP:d.size=n)(a b c v:Nat)(bt:a<n)(ad:b<n)(au:c<n)(aG:v≤900):
  bN al 256 [eN g b8 lc b3,.int .i64 a,.int .i64 b,.int .i64 c,.ptr (.obj 901) 0] (e3 S d v) fun r ai=>r= .int .i64 (Sort.median lt d a b c v).1∧ai=e3 S d (Sort.median lt d a b c v).2:=by
 have km:=nn H d v;have rk:∀v m,Pv.look (.loc m) (e3 S d v).b=none:=fun v=>(nn H d v).obj.1;have JD:∀v m cs,cA (.loc m) cs (e3 S d v).b=(e3 S d v).b++[(.loc m,cs)]:=fun v m cs=>jT (rk v m);have ln:aH.loc 0∉cV (e3 S d v):=jO km.obj 0;obtain⟨R,bf⟩:∃R,R=Sort.median lt d a b c v:=⟨_,rfl⟩;rw[←bf];unfold Sort.median at bf;have a6:=zV (lt:=lt) (d:=d) (v:=v) bt ad;have aU:=IK H ab d aP a b v bt ad (by omega);generalize Sort.order2 lt d a b v=dH at a6 aU bf;obtain⟨r2,kv,v1⟩:=dH;simp only at a6 aU bf;have bE:=zV (lt:=lt) (d:=d) (v:=v1) a6.2.1 au;have bG:=IK H ab d aP kv c v1 a6.2.1 au (by omega);generalize Sort.order2 lt d kv c v1=e8 at bE bG bf;obtain⟨ym,oE,v2⟩:=e8;simp only at bE bG bf;have bX:=zV (lt:=lt) (d:=d) (v:=v2) a6.1 bE.1;have b9:=IK H ab d aP r2 ym v2 a6.1 bE.1 (by omega);generalize Sort.order2 lt d r2 ym v2=kI at bX b9 bf;obtain⟨r3,GY,v3⟩:=kI;simp only at bX b9 bf;refine bN.mk mixed nK aa2 ahy (by simp) km.obj fun aQ cL=>?_;unfold ON;simp[eN,JD,ln,cJ,rk];simp only[h9 H,H.slc,H.ssc,h4];refine TO aU (nn H d v) (sa _ _ _) (by simp[aB,aI,(ui H aP).1];exact(ui H aP).2) fun o=>?_;simp[Pv.look];simp only[h9 H,H.slc,H.ssc,h4];refine Cy bG (nn H d v1) (sa _ _ _) (by simp[aB,aI,(ui H aP).1];exact(ui H aP).2) fun o=>?_;simp[Pv.look];simp only[h9 H,H.slc,H.ssc,h4];refine Cy b9 (nn H d v2) (sa _ _ _) (by simp[aB,aI,(ui H aP).1];exact(ui H aP).2) fun o=>?_;simp;refine Vw H ?_;simp[cY,UW,aW,aX,aV];rw[bf];exact⟨rfl,rfl⟩
theorem IH(H:eW S n g b8 lc b3 lt)(ab:rH S 901)(d:Array α)(aP:d.size=n)(a v:Nat)(bt:a+1<n)(kT:1≤a)(aG:v≤900):
  bN al 255 [eN g b8 lc b3,.int .i64 a,.ptr (.obj 901) 0] (e3 S d v) fun r ai=>r= .int .i64 (Sort.medianAdjacent lt d a v).1∧ai=e3 S d (Sort.medianAdjacent lt d a v).2:=by
 have km:=nn H d v;have rk:∀v m,Pv.look (.loc m) (e3 S d v).b=none:=fun v=>(nn H d v).obj.1;have JD:∀v m cs,cA (.loc m) cs (e3 S d v).b=(e3 S d v).b++[(.loc m,cs)]:=fun v m cs=>jT (rk v m);have ln:aH.loc 0∉cV (e3 S d v):=jO km.obj 0;have hle:=H.le;have aU:=IG H ab d aP (a-1) a (a+1) v (by omega) (by omega) (by omega) aG;unfold Sort.medianAdjacent;refine bN.mk mixed nK aa1 ahx (by simp) km.obj fun aQ cL=>?_;unfold OM;have ak:((a:Int)-1)=(a-1:Nat):=by omega
 have aC:((a:Int)+1)=(a+1:Nat):=by omega
 simp[eN,JD,ln,cJ,rk];(with_reducible repeat' first|refine aj ?_|simp);simp only[h9 H,H.slc,H.ssc,h4,ak,aC];refine TO aU (nn H d v) (sa _ _ _) (by simp[aB,aI,(ui H aP).1];exact(ui H aP).2) fun o=>?_;simp;refine Vw H ?_;simp[cY,UU,aW,aX,aV]
theorem TP{m:Nat}(h:rH S m)(l:List α):aH.obj m∉cV (S l):=fun hm=>by
 rcases Sf hm with J|J
 ·rw[(h l).1]at J;cases J
 ·rw[(h l).2]at J;cases J
theorem Co{d:Array α}{a b c v n:Nat}(bt:a<n)(ad:b<n)(au:c<n):(Sort.median lt d a b c v).1<n∧(Sort.median lt d a b c v).2≤v+3:=by have a6:=zV (lt:=lt) (d:=d) (v:=v) bt ad;have bE:=zV (lt:=lt) (d:=d) (v:=(Sort.order2 lt d a b v).2.2) a6.2.1 au;have bX:=zV (lt:=lt) (d:=d) (v:=(Sort.order2 lt d (Sort.order2 lt d a b v).2.1 c (Sort.order2 lt d a b v).2.2).2.2) a6.1 bE.1;refine⟨bX.2.1,j8 bX.2.2 ?_⟩;omega
def zb:Sort.Hint→Int
 | .unknown=>0
 | .increasing=>1
 | .decreasing=>2
theorem ace(H:eW S n g b8 lc b3 lt)(ab:rH S 901)(d:Array α)(aP:d.size=n)(a b:Nat)(mO:a<b)(ad:b≤n):
  bN al 240 [eN g b8 lc b3,.int .i64 a,.int .i64 b] (S d.toList) fun r ai=>r= .tuple [.int .i64 (Sort.choosePivot lt d a b).1,.int .i64 (zb (Sort.choosePivot lt d a b).2)]∧ai=S d.toList:=by
 have ag:=H.ok d.toList;have av:d.toList.length=n:=by simpa using aP
 have aA:∀l m,Pv.look (.loc m) (S l).b=none:=fun l=>(H.ok l).obj.1;have hu:∀l m cs,cA (.loc m) cs (S l).b=(S l).b++[(.loc m,cs)]:=fun l m cs=>jT (aA l m);have ax:∀m,aH.loc m∉cV (S d.toList):=jO ag.obj;have gp:∀l,Pv.look (.obj 901) (S l).b=none:=fun l=>(ab l).1;have kU:∀l,Pv.look (.obj 901) (S l).e=none:=fun l=>(ab l).2;have hle:=H.le;have ln:=TP ab d.toList;obtain⟨R,bf⟩:∃R,R=Sort.choosePivot lt d a b:=⟨_,rfl⟩;rw[←bf];unfold Sort.choosePivot at bf;refine bN.mk mixed nK aaZ ahv (by simp) ag.obj fun aQ cL=>?_;unfold OK;have xv:∀l D cs,cA (.obj 901) cs ((S l).b++[(.loc 0,D)])=(S l).b++[(.loc 0,D),(.obj 901,cs)]:=fun l D cs=>by rw[AB (gp l)];rfl
 obtain⟨q,br⟩:∃q,q=(b-a)/4:=⟨_,rfl⟩;have dc:IntKind.i64.wrap (((b:Int)-a).tdiv 4)=(q:Nat):=by rw[show((b:Int)-a)=((b-a:Nat):Int) by omega,Int.tdiv_eq_ediv_of_nonneg (by omega),oF _ (by omega)];omega
 simp[eN,hu,xv,ax,ln,cJ,aA,gp,kU,Pv.look,cA];have dC:∀(t:List (Nat×ah)) (o:List aH) (b1:List (aH×List ah)) (x:Nat) (h:Sort.Hint),Pv.get 6 t= .int .i64 x→Pv.get 7 t= .int .i64 (zb h)→R=(x,h)→(∀k cs,Pv.look k (S d.toList).b=some cs→Pv.look k b1=some cs)→
   cT Lc (S d.toList) (fun r ai=>r= .tuple [.int .i64 R.1,.int .i64 (zb R.2)]∧ai=S d.toList) .ret ⟨t,b1,(S d.toList).e,1,o⟩:=by
  rintro t o b1 x h ae aL rfl fP;refine cT.at (S d.toList) (.inl rfl) ag (Same.refl _) fP (fun _ _ au=>au) ?_;simp[cY,Lc,aW,aX,aV,ae,aL]
 have y0:∀(D:List ah) (v:Nat) k cs,Pv.look k (S d.toList).b=some cs→Pv.look k ((.loc 0,D)::(e3 S d v).b)=some cs:=fun D v k cs h=>by
  simp only[e3,Pv.look];split
  ·rename_i e;subst e;rw[aA]at h;cases h
  ·split
   ·rename_i e;subst e;rw[gp]at h;cases h
   ·exact h
 have Rf:∀{f:Nat} {args:List ah} {r:ah} {v:Nat},(bN al f args (e3 S d 0) fun eC dJ=>eC=r∧dJ=e3 S d v)→aI (inObs (e3 S d 0)) args→∀{t:List (Nat×ah)} {D:List ah} {o:List aH} {cc:aY Nat} {K:bq→Prop},(∀o,K ⟨eH cc r t,(.loc 0,D)::(e3 S d v).b,(S d.toList).e,1,o⟩)→
   c6 al f args ⟨t,(S d.toList).b++[(.loc 0,D),(.obj 901,[.int .i64 0])],(S d.toList).e,1,o⟩ cc K:=by
  intro f args r v aJ hh t D o cc K h;refine c6.ob aJ (nn H d 0) (fun k cs ae=>?_) (fun _ _ ae=>ae) hh ?_
  ·simp only[e3,Pv.look]at ae;rw[cJ];split at ae
   ·rename_i e;subst e;rw[gp];simp[Pv.look];simpa using ae
   ·rw[ae]
  rintro r ai ⟨rfl,rfl⟩;refine⟨sa _ _ _,?_⟩;have ak:cz (e3 S d 0).b ((S d.toList).b++[(.loc 0,D),(.obj 901,[.int .i64 0])])=[(.loc 0,D)]:=by
   rw[im];have:cz (e3 S d 0).b (S d.toList).b=[]:=ME _ _ fun k x hm=>by
    have:=uq hm;simp only[e3,Pv.look];split
    ·rfl
    ·exact this
   rw[this];simp[cz,e3,Pv.look,aA]
  have aC:cz (e3 S d 0).e (S d.toList).e=[]:=gR _;simp only[ak,aC];exact h _
 have hh:=fun(v:Nat)=>(ui H aP (v:=v));have f1:((a:Int)+q)=(a+q:Nat):=by omega
 have f2:((a:Int)+q*2)=(a+q*2:Nat):=by omega
 have f3:((a:Int)+q*3)=(a+q*3:Nat):=by omega
 dsimp only at bf;rw[←br,Nat.mul_one]at bf;by_cases nx:b-a<8
 ·have Ev:¬(8:Int)≤(b:Int)-a:=by omega
  (with_reducible repeat' first|refine aj ?_|simp[Ev,dc,hu,xv,ax,ln,cJ,aA,gp,kU,Pv.look,cA]);rw[f2];refine dC _ _ _ (a+q*2) .increasing rfl rfl (by rw[bf,if_neg (by omega)];simp) (fun k cs h=>by rw[cJ,h])
 ·have Ev:(8:Int)≤(b:Int)-a:=by omega
  by_cases anK:b-a<50
  ·have IQ:¬(50:Int)≤(b:Int)-a:=by omega
   (with_reducible repeat' first|refine aj ?_|simp[Ev,IQ,dc,hu,xv,ax,ln,cJ,aA,gp,kU,Pv.look,cA]);simp only[h9 H,H.slc,H.ssc,h4,f1,f2,f3];have aU:=IG H ab d aP (a+q) (a+q*2) (a+q*3) 0 (by omega) (by omega) (by omega) (by omega);have bG:=Co (lt:=lt) (d:=d) (a:=a+q) (b:=a+q*2) (c:=a+q*3) (v:=0) (n:=n) (by omega) (by omega) (by omega);rw[if_pos (by omega),if_neg (by omega)]at bf;generalize Sort.median lt d (a+q) (a+q*2) (a+q*3) 0=m at aU bG bf;obtain⟨x,v⟩:=m;refine Rf aU (by simp[aB,aI,(hh 0).1];exact(hh 0).2) fun o=>?_;have xw:((v:Int)==0)=decide (v=0):=by rw[p3];simp
   have B1:((v:Int)==12)=decide (v=12):=by rw[p3];simp;omega
   simp[Pv.look,e3];rcases(by omega:v=0∨v=12∨(v≠0∧v≠12))with bA|bA|bA
   ·have ae:((v:Int)==0)=true:=by rw[xw];simp[bA]
    (with_reducible repeat' first|refine aj ?_|simp[ae]);all_goals exact dC _ _ _ x .increasing rfl rfl (by rw[bf];simp[bA]) (y0 _ v)
   ·have ae:((v:Int)==0)=false:=by rw[xw];simp[bA]
    have xx:((v:Int)==12)=true:=by rw[B1];simp[bA]
    (with_reducible repeat' first|refine aj ?_|simp[ae,xx]);all_goals exact dC _ _ _ x .decreasing rfl rfl (by rw[bf];simp[bA]) (y0 _ v)
   ·have ae:((v:Int)==0)=false:=by rw[xw];simp[bA.1]
    have xx:((v:Int)==12)=false:=by rw[B1];simp[bA.2]
    (with_reducible repeat' first|refine aj ?_|simp[ae,xx]);all_goals exact dC _ _ _ x .unknown rfl rfl (by rw[bf];simp[bA]) (y0 _ v)
  ·have IQ:(50:Int)≤(b:Int)-a:=by omega
   (with_reducible repeat' first|refine aj ?_|simp[Ev,IQ,dc,hu,xv,ax,ln,cJ,aA,gp,kU,Pv.look,cA]);simp only[h9 H,H.slc,H.ssc,h4,f1,f2,f3];rw[if_pos (by omega),if_pos (by omega)]at bf;have aU:=IH H ab d aP (a+q) 0 (by omega) (by omega) (by omega);have Cb:=Co (lt:=lt) (d:=d) (a:=a+q-1) (b:=a+q) (c:=a+q+1) (v:=0) (n:=n) (by omega) (by omega) (by omega);change (Sort.medianAdjacent lt d (a+q) 0).1<n∧(Sort.medianAdjacent lt d (a+q) 0).2≤0+3 at Cb;generalize Sort.medianAdjacent lt d (a+q) 0=m1 at aU Cb bf;obtain⟨r2,v1⟩:=m1;simp only at aU Cb bf;have bG:=IH H ab d aP (a+q*2) v1 (by omega) (by omega) (by omega);have Cc:=Co (lt:=lt) (d:=d) (a:=a+q*2-1) (b:=a+q*2) (c:=a+q*2+1) (v:=v1) (n:=n) (by omega) (by omega) (by omega);change (Sort.medianAdjacent lt d (a+q*2) v1).1<n∧(Sort.medianAdjacent lt d (a+q*2) v1).2≤v1+3 at Cc;generalize Sort.medianAdjacent lt d (a+q*2) v1=m2 at bG Cc bf;obtain⟨ym,v2⟩:=m2;simp only at bG Cc bf;have b9:=IH H ab d aP (a+q*3) v2 (by omega) (by omega) (by omega);have Cd:=Co (lt:=lt) (d:=d) (a:=a+q*3-1) (b:=a+q*3) (c:=a+q*3+1) (v:=v2) (n:=n) (by omega) (by omega) (by omega);change (Sort.medianAdjacent lt d (a+q*3) v2).1<n∧(Sort.medianAdjacent lt d (a+q*3) v2).2≤v2+3 at Cd;generalize Sort.medianAdjacent lt d (a+q*3) v2=m3 at b9 Cd bf;obtain⟨r3,v3⟩:=m3;simp only at b9 Cd bf;have eV:=IG H ab d aP r2 ym r3 v3 Cb.1 Cc.1 Cd.1 (by omega);have SB:=Co (lt:=lt) (d:=d) (v:=v3) Cb.1 Cc.1 Cd.1;generalize Sort.median lt d r2 ym r3 v3=m4 at eV SB bf;obtain⟨x,v⟩:=m4;simp only at eV SB bf;refine Rf aU (by simp[aB,aI,(hh 0).1];exact(hh 0).2) fun o=>?_;simp[Pv.look];simp only[h9 H,H.slc,H.ssc,h4,f1,f2,f3];refine Cy bG (nn H d v1) (sa _ _ _) (by simp[aB,aI,(hh v1).1];exact(hh v1).2) fun o=>?_;simp[Pv.look];simp only[h9 H,H.slc,H.ssc,h4,f1,f2,f3];refine Cy b9 (nn H d v2) (sa _ _ _) (by simp[aB,aI,(hh v2).1];exact(hh v2).2) fun o=>?_;simp[Pv.look];simp only[h9 H,H.slc,H.ssc,h4,f1,f2,f3];refine Cy eV (nn H d v3) (sa _ _ _) (by simp[aB,aI,(hh v3).1];exact(hh v3).2) fun o=>?_;have xw:((v:Int)==0)=decide (v=0):=by rw[p3];simp
   have B1:((v:Int)==12)=decide (v=12):=by rw[p3];simp;omega
   simp[Pv.look,e3];rcases(by omega:v=0∨v=12∨(v≠0∧v≠12))with bA|bA|bA
   ·have ae:((v:Int)==0)=true:=by rw[xw];simp[bA]
    (with_reducible repeat' first|refine aj ?_|simp[ae]);all_goals exact dC _ _ _ x .increasing rfl rfl (by rw[bf];simp[bA]) (y0 _ v)
   ·have ae:((v:Int)==0)=false:=by rw[xw];simp[bA]
    have xx:((v:Int)==12)=true:=by rw[B1];simp[bA]
    (with_reducible repeat' first|refine aj ?_|simp[ae,xx]);all_goals exact dC _ _ _ x .decreasing rfl rfl (by rw[bf];simp[bA]) (y0 _ v)
   ·have ae:((v:Int)==0)=false:=by rw[xw];simp[bA.1]
    have xx:((v:Int)==12)=false:=by rw[B1];simp[bA.2]
    (with_reducible repeat' first|refine aj ?_|simp[ae,xx]);all_goals exact dC _ _ _ x .unknown rfl rfl (by rw[bf];simp[bA]) (y0 _ v)
end Go.Proofs.YtahlgcidhnjlbaaGreat
namespace Go.Proofs.YtahlgcidhnjlbaaGreat
open Go Go.Pv
variable {α:Type} [Inhabited α] {S:List α→cK} {n g b8:Nat} {lc b3:List ah} {lt:α→α→Bool}
theorem akD:∀x:Nat,x<256→((([0,1,2,2,3,3,3,3,4,4,4,4,4,4,4,4,5,5,5,5,5,5,5,5,5,5,5,5,5,5,5,5,6,6,6,6,6,6,6,6,6,6,6,6,6,6,6,6,6,6,6,6,6,6,6,6,6,6,6,6,6,6,6,6,7,7,7,7,7,7,7,7,7,7,7,7,7,7,7,7,7,7,7,7,7,7,7,7,7,7,7,7,7,7,7,7,7,7,7,7,7,7,7,7,7,7,7,7,7,7,7,7,7,7,7,7,7,7,7,7,7,7,7,7,7,7,7,7,8,8,8,8,8,8,8,8,8,8,8,8,8,8,8,8,8,8,8,8,8,8,8,8,8,8,8,8,8,8,8,8,8,8,8,8,8,8,8,8,8,8,8,8,8,8,8,8,8,8,8,8,8,8,8,8,8,8,8,8,8,8,8,8,8,8,8,8,8,8,8,8,8,8,8,8,8,8,8,8,8,8,8,8,8,8,8,8,8,8,8,8,8,8,8,8,8,8,8,8,8,8,8,8,8,8,8,8,8,8,8,8,8,8,8,8,8,8,8,8,8,8,8,8,8,8,8,8]:List dz)[x]?).getD 0).toNat=Sort.bitsLen x:=by decide+kernel
theorem Bh(x:Int):x.fdiv (2 ^ (min 32 hd.bits))=x/4294967296:=by rw[show(2:Int) ^ (min 32 hd.bits)=4294967296 from by decide,Int.fdiv_eq_ediv_of_nonneg _ (by omega)]
theorem Bg(x:Int):x.fdiv (2 ^ (min 16 hd.bits))=x/65536:=by rw[show(2:Int) ^ (min 16 hd.bits)=65536 from by decide,Int.fdiv_eq_ediv_of_nonneg _ (by omega)]
theorem Bi(x:Int):x.fdiv (2 ^ (min 8 hd.bits))=x/256:=by rw[show(2:Int) ^ (min 8 hd.bits)=256 from by decide,Int.fdiv_eq_ediv_of_nonneg _ (by omega)]
theorem Df(x:Nat)(h:x<256):IntKind.u8.wrap (x:Int)=x:=by simp[r5,nO,r4];omega
theorem Hr(x k:Nat)(h:2 ^ k≤x):Sort.bitsLen x=Sort.bitsLen (x/2 ^ k)+k:=by
 have ae:x≠0:=by have:=Nat.two_pow_pos k;omega
 have br:x/2 ^ k≠0:=by have:=Nat.div_pos h (Nat.two_pow_pos k);omega
 unfold Sort.bitsLen;rw[if_neg ae,if_neg br];have av:=Nat.log2_lt ae (k:=Nat.log2 (x/2 ^ k)+k+1);have J:Nat.log2 (x/2 ^ k)+k≤Nat.log2 x:=by
  rw[Nat.le_log2 ae,Nat.pow_add];have:=Nat.log2_self_le br;calc 2 ^ (x/2 ^ k).log2*2 ^ k≤(x/2 ^ k)*2 ^ k:=Nat.mul_le_mul_right _ this
   _≤x:=Nat.div_mul_le_self x _
 have U:Nat.log2 x<Nat.log2 (x/2 ^ k)+k+1:=by rw[av,show Nat.log2 (x/2 ^ k)+k+1=(Nat.log2 (x/2 ^ k)+1)+k by omega,Nat.pow_add];have:=Nat.lt_log2_self (n:=x/2 ^ k);exact(Nat.div_lt_iff_lt_mul (Nat.two_pow_pos k)).1 this
 omega
set_option maxRecDepth 20000 in
theorem akY(x:Nat)(ae:x<1099511627776):bF al 237 [.int .u64 x] (.int .i64 (Sort.bitsLen x)):=by
 refine bF.mk mixed nK aaW ahs (by simp) (by simp[aB]) fun aQ=>?_;unfold OH;have aO:=akD;generalize Q6:([0,1,2,2,3,3,3,3,4,4,4,4,4,4,4,4,5,5,5,5,5,5,5,5,5,5,5,5,5,5,5,5,6,6,6,6,6,6,6,6,6,6,6,6,6,6,6,6,6,6,6,6,6,6,6,6,6,6,6,6,6,6,6,6,7,7,7,7,7,7,7,7,7,7,7,7,7,7,7,7,7,7,7,7,7,7,7,7,7,7,7,7,7,7,7,7,7,7,7,7,7,7,7,7,7,7,7,7,7,7,7,7,7,7,7,7,7,7,7,7,7,7,7,7,7,7,7,7,8,8,8,8,8,8,8,8,8,8,8,8,8,8,8,8,8,8,8,8,8,8,8,8,8,8,8,8,8,8,8,8,8,8,8,8,8,8,8,8,8,8,8,8,8,8,8,8,8,8,8,8,8,8,8,8,8,8,8,8,8,8,8,8,8,8,8,8,8,8,8,8,8,8,8,8,8,8,8,8,8,8,8,8,8,8,8,8,8,8,8,8,8,8,8,8,8,8,8,8,8,8,8,8,8,8,8,8,8,8,8,8,8,8,8,8,8,8,8,8,8,8,8,8,8,8,8,8]:List dz)=tab at aO⊢;have yY:tab.length=256:=by rw[←Q6];rfl
 clear Q6;simp[yY];have ad:∀y:Nat,y<256→Sort.bitsLen y≤8:=by decide+kernel
 have aei:4294967296≤x→Sort.bitsLen x=Sort.bitsLen (x/4294967296)+32:=fun h=>Hr x 32 h;have RW:∀y,65536≤y→Sort.bitsLen y=Sort.bitsLen (y/65536)+16:=fun y h=>Hr y 16 h;have RZ:∀y,256≤y→Sort.bitsLen y=Sort.bitsLen (y/256)+8:=fun y h=>Hr y 8 h;by_cases J:4294967296≤x
 ·have nv:(4294967296:Int)≤x:=by omega
  have g1:¬(65536:Int)≤(x:Int)/4294967296:=by omega
  have g3:¬(256:Int)≤(x:Int)/4294967296:=by omega
  (with_reducible repeat' first|refine aj ?_|simp[nv,g1,g3,Bh,Bg,Bi,yY]);have aL:x/4294967296<256:=by omega
  have lf:=ad _ aL;have eG:(x:Int)/4294967296=((x/4294967296:Nat):Int):=by omega
  rw[eG,Df _ aL,Int.toNat_natCast];refine⟨by omega,?_⟩;have e:=aO _ aL;rw[e,oF _ (by omega)];refine⟨by unfold sH;omega,?_⟩;simp[bz,Aa,aW,aX,aV];try((rw[aei J])<;>omega)
 ·have nv:¬(4294967296:Int)≤x:=by omega
  by_cases U:65536≤x
  ·have g2:(65536:Int)≤x:=by omega
   by_cases ao:256≤x/65536
   ·have g3:(256:Int)≤(x:Int)/65536:=by omega
    (with_reducible repeat' first|refine aj ?_|simp[nv,g2,g3,Bh,Bg,Bi,yY]);have aL:x/65536/256<256:=by omega
    have lf:=ad _ aL;have eG:(x:Int)/65536/256=((x/65536/256:Nat):Int):=by omega
    rw[eG,Df _ aL,Int.toNat_natCast];refine⟨by omega,?_⟩;have e:=aO _ aL;rw[e,oF _ (by omega)];refine⟨by unfold sH;omega,?_⟩;simp[bz,Aa,aW,aX,aV];try((rw[RW x U,RZ _ ao])<;>omega)
   ·have g3:¬(256:Int)≤(x:Int)/65536:=by omega
    (with_reducible repeat' first|refine aj ?_|simp[nv,g2,g3,Bh,Bg,Bi,yY]);have aL:x/65536<256:=by omega
    have lf:=ad _ aL;have eG:(x:Int)/65536=((x/65536:Nat):Int):=by omega
    rw[eG,Df _ aL,Int.toNat_natCast];refine⟨by omega,?_⟩;have e:=aO _ aL;rw[e,oF _ (by omega)];refine⟨by unfold sH;omega,?_⟩;simp[bz,Aa,aW,aX,aV];try((rw[RW x U])<;>omega)
  ·have g2:¬(65536:Int)≤x:=by omega
   by_cases ao:256≤x
   ·have g3:(256:Int)≤x:=by omega
    (with_reducible repeat' first|refine aj ?_|simp[nv,g2,g3,Bh,Bg,Bi,yY]);have aL:x/256<256:=by omega
    have lf:=ad _ aL;have eG:(x:Int)/256=((x/256:Nat):Int):=by omega
    rw[eG,Df _ aL,Int.toNat_natCast];refine⟨by omega,?_⟩;have e:=aO _ aL;rw[e,oF _ (by omega)];refine⟨by unfold sH;omega,?_⟩;simp[bz,Aa,aW,aX,aV];try((rw[RZ x ao])<;>omega)
   ·have g3:¬(256:Int)≤x:=by omega
    (with_reducible repeat' first|refine aj ?_|simp[nv,g2,g3,Bh,Bg,Bi,yY]);have aL:x<256:=by omega
    have lf:=ad _ aL;have eG:(x:Int)=((x:Nat):Int):=by omega
    rw[eG,Df _ aL,Int.toNat_natCast];refine⟨by omega,?_⟩;have e:=aO _ aL;rw[e,oF _ (by omega)];refine⟨by unfold sH;omega,?_⟩;simp[bz,Aa,aW,aX,aV];try((rw[show Sort.bitsLen x=Sort.bitsLen x from rfl])<;>omega)
theorem akX(x:Nat)(ae:x<1099511627776):bF al 213 [.int .u64 x] (.int .i64 (Sort.bitsLen x)):=by refine bF.mk mixed nK aaV ahr (by simp) (by simp[aB]) fun aQ=>?_;unfold OG;have S7:=akY x ae;exact b5
theorem XQ(x:Nat)(ae:x<1099511627776):Sort.bitsLen x≤40:=by
 unfold Sort.bitsLen;split
 ·omega
 ·rename_i h;have:=(Nat.log2_lt h (k:=40)).2 (by omega);omega
theorem akI{x:Nat}(h:x≠0):2 ^ Sort.bitsLen x≤2*x∧x<2 ^ Sort.bitsLen x:=by unfold Sort.bitsLen;rw[if_neg h];have J:=Nat.log2_self_le h;have U:=Nat.lt_log2_self (n:=x);rw[Nat.pow_succ];rw[Nat.pow_succ]at U;omega
theorem alG(x:Nat)(ae:x<1099511627776):bF al 253 [.int .i64 x] (.int .u64 (1<<<Sort.bitsLen x:Nat)):=by
 have ad:=XQ x ae;have ak:hd.wrap ((x:Nat):Int)=x:=by simp[r5,nO,r4];omega
 have aC:hd.wrap ((Sort.bitsLen x:Nat):Int)=Sort.bitsLen x:=by simp[r5,nO,r4];omega
 refine bF.mk mixed nK aa3 ahz (by simp) (by simp[aB]) fun aQ=>?_;unfold OO;simp[ak];refine c6.val (by simp) (akX x ae) ?_;simp[ak,aC];simp[bz,UX,aW,aX,aV];have hm:min (Sort.bitsLen x) hd.bits=Sort.bitsLen x:=by simp[nO];omega
 have bI:2 ^ Sort.bitsLen x≤2 ^ 40:=Nat.pow_le_pow_right (by omega) ad;rw[hm];have au:((2:Int) ^ Sort.bitsLen x)=((2 ^ Sort.bitsLen x:Nat):Int):=by simp
 have y2:((1<<<Sort.bitsLen x:Nat):Int)=((2 ^ Sort.bitsLen x:Nat):Int):=by rw[Nat.one_shiftLeft]
 have w9:hd.wrap ((2:Int) ^ Sort.bitsLen x)=((1<<<Sort.bitsLen x:Nat):Int):=by rw[au,y2];generalize 2 ^ Sort.bitsLen x=y at bI;simp[r5,nO,r4];omega
 simpa using w9
def mF(r:Nat):cK:=⟨[(.obj 902,[.int .u64 r])],[]⟩
theorem Ha(r:Nat):ed (mF r):=by unfold mF;exact(ed.of ⟨by intro m;simp[Pv.look],by intro m;simp[Pv.look]⟩ (by simp[aI,aB,inObs,Pv.look]) (by simp[aI,aB,inObs,Pv.look]))
theorem MU(a b:Nat):Same (mF a) (mF b):=⟨fun k=>by simp only[mF,Pv.look];split<;>rfl,fun _=>rfl⟩
theorem Hu(a b:Nat)(bt:a<18446744073709551616)(ad:b<18446744073709551616):hd.wrap ((p2 hd.bits (a:Int) ^^^ p2 hd.bits (b:Int)).toNat:Int)=(a ^^^ b:Nat):=by
 have ao:a ^^^ b<18446744073709551616:=Nat.xor_lt_two_pow (n:=64) bt ad;have e:(p2 hd.bits (a:Int) ^^^ p2 hd.bits (b:Int)).toNat=a ^^^ b:=by
  rw[BitVec.toNat_xor,BitVec.toNat_ofInt,BitVec.toNat_ofInt];have ak:((a:Int)%(2 ^ hd.bits:Nat)).toNat=a:=by simp[nO];omega
  have aC:((b:Int)%(2 ^ hd.bits:Nat)).toNat=b:=by simp[nO];omega
  rw[ak,aC]
 rw[e];generalize a ^^^ b=c at ao;simp[r5,nO,r4];omega
theorem ajZ(r:Nat):hd.wrap ((r:Int)*2 ^ (min 13 hd.bits))=(r*8192%18446744073709551616:Nat):=by simp[r5,nO,r4]
theorem aj0(r:Nat):hd.wrap ((r:Int)*2 ^ (min 17 hd.bits))=(r*131072%18446744073709551616:Nat):=by simp[r5,nO,r4]
theorem aj1(r:Nat):((r:Int)).fdiv (2 ^ (min 7 hd.bits))=(r/128:Nat):=by rw[show(2:Int) ^ (min 7 hd.bits)=128 from by decide,Int.fdiv_eq_ediv_of_nonneg _ (by omega)];omega
theorem ab7(r:Nat)(aK:r<18446744073709551616):bN al 254 [.ptr (.obj 902) 0] (mF r) fun eC ai=>eC= .int .u64 (Sort.xorNextN r)∧ai=mF (Sort.xorNextN r):=by
 have ag:=Ha r;unfold mF at ag⊢;refine bN.mk mixed nK abf ahL (by simp) ag.obj fun aQ cL=>?_;unfold O0;obtain⟨m1,RD⟩:∃m,m=r*8192%18446744073709551616:=⟨_,rfl⟩;have s1:=ajZ r;rw[←RD]at s1;have jj:m1<18446744073709551616:=by omega
 obtain⟨bC,kT⟩:∃m,m=r ^^^ m1:=⟨_,rfl⟩;have t1:=Hu r m1 aK jj;rw[←kT]at t1;have S8:bC<18446744073709551616:=by rw[kT];exact Nat.xor_lt_two_pow (n:=64) aK jj
 obtain⟨m2,RE⟩:∃m,m=bC/128:=⟨_,rfl⟩;have s2:=aj1 bC;rw[←RE]at s2;have gO:m2<18446744073709551616:=by omega
 obtain⟨a2,pD⟩:∃m,m=bC ^^^ m2:=⟨_,rfl⟩;have t2:=Hu bC m2 S8 gO;rw[←pD]at t2;have afr:a2<18446744073709551616:=by rw[pD];exact Nat.xor_lt_two_pow (n:=64) S8 gO
 obtain⟨m3,RF⟩:∃m,m=a2*131072%18446744073709551616:=⟨_,rfl⟩;have s3:=aj0 a2;rw[←RF]at s3;have afq:m3<18446744073709551616:=by omega
 obtain⟨a3,Ey⟩:∃m,m=a2 ^^^ m3:=⟨_,rfl⟩;have t3:=Hu a2 m3 afr afq;rw[←Ey]at t3;have bf:Sort.xorNextN r=a3:=by unfold Sort.xorNextN;simp only[←RD,←kT,←RE,←pD,←RF,←Ey]
 rw[bf];simp[-BitVec.toNat_xor,-BitVec.ofInt_natCast,s1,t1,s2,t2,s3,t3];have ba:=Ha a3;have b2:=MU r a3;unfold mF at ba b2;refine cT.at _ (.inl rfl) ba b2 aR aR ?_;simp[cY,U0,aW,aX,aV]
end Go.Proofs.YtahlgcidhnjlbaaGreat
namespace Go.Proofs.YtahlgcidhnjlbaaGreat
open Go Go.Pv
variable {α:Type} [Inhabited α] {S:List α→cK} {n g b8:Nat} {lc b3:List ah} {lt:α→α→Bool}
theorem XI(a b:Nat)(bt:a<18446744073709551616)(ad:b<18446744073709551616):hd.wrap ((p2 hd.bits (a:Int)&&& p2 hd.bits (b:Int)).toNat:Int)=(a&&& b:Nat):=by
 have ao:a&&& b<18446744073709551616:=Nat.lt_of_le_of_lt Nat.and_le_left bt;have e:(p2 hd.bits (a:Int)&&& p2 hd.bits (b:Int)).toNat=a&&& b:=by
  rw[BitVec.toNat_and,BitVec.toNat_ofInt,BitVec.toNat_ofInt];have ak:((a:Int)%(2 ^ hd.bits:Nat)).toNat=a:=by simp[nO];omega
  have aC:((b:Int)%(2 ^ hd.bits:Nat)).toNat=b:=by simp[nO];omega
  rw[ak,aC]
 rw[e];generalize a&&& b=c at ao;simp[r5,nO,r4];omega
def yy(a len M i0:Nat)(d:Array α):Nat→UInt64×Array α
 |0=>(UInt64.ofNat len,d)
 |k+1=>Sort.breakStep a len M (yy a len M i0 d k) (i0+k)
theorem XT(d:Array α)(a b:Nat)(h:8≤b-a):Sort.breakPatterns d a b=(yy a (b-a) (1<<<Sort.bitsLen (b-a)) (a+(b-a)/4*2-1) d 3).2:=by unfold Sort.breakPatterns;simp only[if_pos h,yy];rfl
theorem WR{ob O:List aH}{ai:cK}(gb:ed ai)(di:∀k,inObs ai k→k∈O)(tZ:∀k∈ob,k∈O){st:bq}{dJ:List (Nat×ah)}{L:List (aH×List ah)}{n:Nat}(aO:∀x∈dJ,Pv.get x.1 st.t=x.2∧aB (lV ai n) x.2)(ju:∀x∈L,Pv.look x.1 st.b=some x.2∧lV ai n x.1∧aI (lV ai n) x.2)
  (ad:∀k cs,Pv.look k ai.b=some cs→Pv.look k st.b=some cs) (he:∀k o,Pv.look k ai.e=some o→Pv.look k st.e=some o):ix ob st ⟨dJ,L++ai.b,ai.e,n,O⟩:=by
 have lN:∀{k},lV ai n k→¬fresh n O k:=by
  rintro k (h|⟨m,hm,rfl⟩)
  ·exact fun aJ=>aJ.2 (di k h)
  ·intro aJ;have:=aJ.1;simp at this;omega
 refine⟨fun x ae=>⟨(aO x ae).1,vJ (fun k ab=>lN ab) _ (aO x ae).2⟩,fun k cs ab=>?_,fun k o ax=>?_,tZ⟩
 ·simp only at ab;rw[cJ]at ab;cases av:Pv.look k L with
  |some x=>rw[av]at ab;simp only[dG]at ab;subst ab;obtain⟨J,U,ao⟩:=ju _ (sO av);exact⟨J,lN U,jM (fun k ab=>lN ab) _ ao⟩
  |none=>rw[av]at ab;exact⟨ad k cs ab,lN (.inl (.inl (by simp[ab]))),jM (fun k ab=>lN (.inl ab)) _ (gb.kb k cs ab)⟩
 ·exact⟨he k o ax,lN (.inl (.inr (by simp at ax;simp[ax]))),fun xs ae=>jM (fun k ab=>lN (.inl ab)) _ (gb.ke k o ax xs ae)⟩
theorem MC{amk β:Type}(s:List (aH×β)):∀(l:List (aH×amk)),(∀k x,(k,x)∈l→Pv.look k s=none)→cz s l=l
 |[],_=>rfl
 |(k,x)::r,h=>by have J:=h k x (by simp);simp only[cz,J];rw[MC s r fun k x ae=>h k x (by simp[ae])]
def je(S:List α→cK)(d:Array α)(r:Nat):cK:=⟨(.obj 902,[.int .u64 r])::(S d.toList).b,(S d.toList).e⟩
theorem DF(H:eW S n g b8 lc b3 lt)(d:Array α)(v:Nat):ed (je S d v):=by
 have h:=H.ok d.toList;have jg:∀k,inObs (S d.toList) k→inObs (je S d v) k:=fun k ab=>by
  rcases ab with ab|ab
  ·refine .inl ?_;simp only[je,Pv.look];split
   ·rfl
   ·exact ab
  ·exact .inr ab
 refine⟨⟨fun m=>?_,h.obj.2⟩,fun k cs ab=>?_,fun k o ax xs ae=>jM jg _ (h.ke k o ax xs ae)⟩
 ·simp[je,Pv.look,h.obj.1 m]
 ·simp only[je,Pv.look]at ab;split at ab
  ·cases ab;simp[aI,aB]
  ·exact jM jg _ (h.kb k cs ab)
theorem WQ{ob O:List aH}{d2:Array α}{y:Nat}{D:List ah}(gb:ed (je S d2 y))(di:∀k,inObs (je S d2 y) k→k∈O)(tZ:∀k∈ob,k∈O){st:bq}{dJ:List (Nat×ah)}(aO:∀x∈dJ,Pv.get x.1 st.t=x.2∧aB (lV (je S d2 y) 1) x.2)(bA:Pv.look (.loc 0) st.b=some D)(tM:aI (lV (je S d2 y) 1) D)
  (ad:∀k cs,Pv.look k (je S d2 y).b=some cs→Pv.look k st.b=some cs) (he:∀k o,Pv.look k (je S d2 y).e=some o→Pv.look k st.e=some o):ix ob st ⟨dJ,(.loc 0,D)::(.obj 902,[.int .u64 y])::(S d2.toList).b,(S d2.toList).e,1,O⟩:=
 WR (L:=[(.loc 0,D)]) gb di tZ aO (fun x ae=>by simp only[List.mem_singleton]at ae;subst ae;exact⟨bA,TN _ _ _ (by omega),tM⟩) ad he
theorem acd(H:eW S n g b8 lc b3 lt)(ab:rH S 902)(d:Array α)(aP:d.size=n)(a b:Nat)(mO:a≤b)(ad:b≤n)(nx:8≤b-a):
  bN al 239 [eN g b8 lc b3,.int .i64 a,.int .i64 b] (S d.toList) fun r ai=>r= .tuple []∧∃cc,ai=S cc.toList∧cc=Sort.breakPatterns d a b∧cc.size=n:=by
 have ag:=H.ok d.toList;have av:d.toList.length=n:=by simpa using aP
 have aA:∀l m,Pv.look (.loc m) (S l).b=none:=fun l=>(H.ok l).obj.1;have hu:∀l m cs,cA (.loc m) cs (S l).b=(S l).b++[(.loc m,cs)]:=fun l m cs=>jT (aA l m);have ax:∀m,aH.loc m∉cV (S d.toList):=jO ag.obj;have gp:∀l,Pv.look (.obj 902) (S l).b=none:=fun l=>(ab l).1;have kU:∀l,Pv.look (.obj 902) (S l).e=none:=fun l=>(ab l).2;have hle:=H.le;have ln:=TP ab d.toList;rw[XT d a b nx];obtain⟨len,hlen⟩:∃len,len=b-a:=⟨_,rfl⟩;rw[←hlen];obtain⟨M,gm⟩:∃M,M=1<<<Sort.bitsLen len:=⟨_,rfl⟩;rw[←gm];have anL:len<M∧M≤2*len:=by have:=akI (x:=len) (by omega);rw[gm,Nat.one_shiftLeft];omega
 obtain⟨q,br⟩:∃q,q=len/4:=⟨_,rfl⟩;rw[←br];have xv:∀l D cs,cA (.obj 902) cs ((S l).b++[(.loc 0,D)])=(S l).b++[(.loc 0,D),(.obj 902,cs)]:=fun l D cs=>by rw[AB (gp l)];rfl
 have R7:∀l D x y,cA (.obj 902) y ((S l).b++[(.loc 0,D),(.obj 902,x)])=(S l).b++[(.loc 0,D),(.obj 902,y)]:=fun l D x y=>by rw[AB (gp l)];simp[cA]
 have el:((b:Int)-a)=(len:Nat):=by omega
 have dc:IntKind.i64.wrap ((len:Int).tdiv 4)=(q:Nat):=by rw[Int.tdiv_eq_ediv_of_nonneg (by omega),oF _ (by omega)];omega
 have ew:hd.wrap (len:Int)=len:=by simp[r5,nO,r4];omega
 refine bN.mk mixed nK aaY ahu (by simp) ag.obj fun aQ cL=>?_;unfold OJ;have n3:=alG len (by omega);rw[←gm]at n3;simp[eN,hu,xv,R7,ax,ln,cJ,aA,gp,kU,Pv.look,cA,el,ew];have gV:IntKind.i64.wrap ((len:Int)/4)=(q:Nat):=by rw[oF _ (by omega)];omega
 ((with_reducible repeat' first|refine aj ?_|refine aD n3 ?_|refine aE n3 ?_|simp[el,ew,dc,gV,hu,xv,R7,ax,ln,cJ,aA,gp,kU,Pv.look,cA]|((first|apply bL|apply bQ|apply bP)<;>intro h<;>try simp at h))<;>(try exact cq));obtain⟨i0,BF⟩:∃i0,i0=a+q*2-1:=⟨_,rfl⟩;rw[←BF];have YR:((a:Int)+q*2-1)=(i0:Nat):=by omega
 rw[YR];have di:∀(cm:Array α) r k,inObs (je S cm r) k→cm.size=n→k∈aH.obj 902::cV (S d.toList):=fun cm r k h eT=>by
  have eZ:=H.same d.toList cm.toList av (by simpa using eT);rcases h with h|h
  ·simp only[je,Pv.look]at h;split at h
   ·rename_i e;subst e;simp
   ·exact pg _ (sT (.inl (by rw[eZ.b];exact h)))
  ·exact pg _ (sT (.inr (by rw[eZ.e];exact h)))
 have xi:∀(cm:Array α) r,cm.size=n→aI (lV (je S cm r) 1) [.func g lc,.func b8 b3]:=fun cm r eT=>by
  have J:=H.kdata (lk:=cm.toList) (by simpa using eT);have U:aI (inObs (S cm.toList)) [.func g lc,.func b8 b3]:=by simpa[eN,aB,aI]using J
  refine jM (fun k ab=>.inl ?_) _ U;rcases ab with ab|ab
  ·refine .inl ?_;simp only[je,Pv.look];split
   ·rfl
   ·exact ab
  ·exact .inr ab
 have anY:∀(cm:Array α) r D k cs,Pv.look k (je S cm r).b=some cs→Pv.look k ((.loc 0,D)::(je S cm r).b)=some cs:=fun cm r D k cs h=>by
  cases k with
  |loc m=>rw[(DF H cm r).obj.1 m]at h;cases h
  |obj m=>simpa[Pv.look]using h
 refine n1 (fun(x:Nat×UInt64×Array α)=>⟨[(1,.int .i64 a),(3,.ptr (.loc 0) 0),(6,.int .i64 len),(7,.ptr (.obj 902) 0),(8,.int .u64 M),(9,.int .i64 ((i0+x.1:Nat):Int))],[(.loc 0,[.func g lc,.func b8 b3])]++(je S x.2.2 x.2.1.toNat).b,(je S x.2.2 x.2.1.toNat).e,1,aH.obj 902::cV (S d.toList)⟩) (fun x=>3-x.1)
  (fun x=>x.1≤3∧x.2.2.size=n∧yy a len M i0 d x.1=x.2) (0,UInt64.ofNat len,d) ?_ ⟨by simp,aP,rfl⟩ ?_
 ·refine WR (DF H d _) (fun k h=>di d _ k h aP) (fun k h=>pg _ h) (by simp[aB,inObs,je,Pv.look,lV]) ?_ ?_ aR
  ·intro x ae;simp only[List.mem_singleton]at ae;subst ae;exact⟨by simp[cJ,aA,Pv.look],TN _ _ _ (by omega),xi d _ aP⟩
  ·intro k cs h;simp only[je,Pv.look]at h;rw[cJ];split at h
   ·rename_i e;subst e;rw[gp];have:(UInt64.ofNat len).toNat=len:=by simp;omega
    rw[this]at h;simpa[Pv.look]using h
   ·rw[h]
 rintro⟨k,r,cm⟩ ⟨aU,bG,b9⟩ _;simp only at aU bG b9;have aK:=r.toNat_lt;obtain⟨x,ae⟩:∃x,x=r.toNat:=⟨_,rfl⟩;rw[←ae]at aK⊢;have zh:Sort.xorNextN x<18446744073709551616:=Sort.xorNextN_lt x (by omega);have Jl:(Sort.xorNext r).toNat=Sort.xorNextN x:=by rw[Sort.xorNext_toNat,←ae]
 obtain⟨y,aL⟩:∃y,y=Sort.xorNextN x:=⟨_,rfl⟩;have YL:hd.wrap ((M:Int)-1)=(M-1:Nat):=by simp[r5,nO,r4];omega
 have w7:=XI y (M-1) (by omega) (by omega);obtain⟨z,bp⟩:∃z,z=y&&& (M-1):=⟨_,rfl⟩;rw[←bp]at w7;have an6:z≤M-1:=by rw[bp];exact Nat.and_le_right
 have nu:IntKind.i64.wrap (z:Int)=z:=by rw[oF _ (by omega)]
 by_cases adF:k=3
 ·subst adF;simp[je,Pv.look,gV];((with_reducible repeat' first|refine aj ?_|simp[gV]|((first|apply bL|apply bQ|apply bP)<;>intro h<;>try simp at h))<;>(try exact cq));refine cT.at (S cm.toList) (.inr rfl) (H.ok _) (H.same _ _ av (by simpa using bG)) (fun k cs h=>?_) (fun _ _ h=>h) ?_
  ·simp only[Pv.look];split
   ·rename_i e;subst e;rw[aA]at h;cases h
   ·split
    ·rename_i e;subst e;rw[gp]at h;cases h
    ·exact h
  ·simp[cY,UT,aW,aX,aV];exact⟨cm,rfl,by rw[b9],bG⟩
 ·have qs:((i0+k:Nat):Int)≤(a:Int)+q*2+1:=by omega
  have Rz:((i0:Int)+k)≤(a:Int)+q*2+1:=by omega
  simp[je,Pv.look,gV,Rz,qs];(with_reducible repeat' first|refine aj ?_|simp[gV,Rz,qs,Pv.look]);have an2:=H.same d.toList cm.toList av (by simpa using bG);have aey:∀(fF:Array α) (v:List ah),cz [(aH.obj 902,v)] (S fF.toList).b=(S fF.toList).b:=fun fF v=>MC _ _ fun k x hm=>by
   have:=uq hm;simp only[Pv.look];split
   ·rename_i e;subst e;rw[gp]at this;cases this
   ·rfl
  refine c6.ob (ab7 x (by omega)) (Ha x) (fun k cs h=>?_) (fun k o h=>by simp[mF,Pv.look]at h) (by simp[aB,aI,inObs,mF,Pv.look]) ?_
  ·simp only[mF,Pv.look]at h⊢;split at h
   ·rename_i e;subst e;simpa using h
   ·cases h
  rintro eC ai ⟨rfl,rfl⟩;refine⟨MU _ _,?_⟩;rw[←aL];have ZL:cz (mF x).b ((aH.loc 0,[ah.func g lc,ah.func b8 b3])::(aH.obj 902,[ah.int .u64 x])::(S cm.toList).b)=(aH.loc 0,[ah.func g lc,ah.func b8 b3])::(S cm.toList).b:=by simp[mF,cz,Pv.look,aey]
  have ZM:cz (mF x).e (S cm.toList).e=(S cm.toList).e:=MC _ _ fun _ _ _=>rfl;rw[ZL,ZM,show(mF y).b=[(aH.obj 902,[ah.int .u64 y])]from rfl,show(mF y).e=[]from rfl,List.append_nil];have anJ:∀(v:List ah),Pv.look (.obj 902) ((aH.loc 0,[ah.func g lc,ah.func b8 b3])::((S cm.toList).b++[(aH.obj 902,v)]))=some v:=fun v=>by simp[Pv.look,cJ,gp]
  have Nl:∀o',o'<len→o'=(if z≥len then z-len else z)→Sort.breakStep a len M (r,cm) (i0+k)=(Sort.xorNext r,Sort.swp cm (i0+k) (a+o')):=fun o' J U=>by unfold Sort.breakStep;simp only[Jl,←aL,←bp,←U]
  have PZ:((i0:Int)+k)=((i0+k:Nat):Int):=by omega
  simp only[eH,aH.obj.injEq];simp[-BitVec.toNat_and,-BitVec.ofInt_natCast,YL,w7,nu,Pv.look,H.ssc];by_cases an7:len≤z
  ·have JI:(len:Int)≤z:=by omega
   have Ib:((a:Int)+(z-len))=((a+(z-len):Nat):Int):=by omega
   ((with_reducible repeat' first|refine aj ?_|simp[JI,Pv.look,H.ssc]|((first|apply bL|apply bQ|apply bP)<;>intro h<;>try simp at h))<;>(try exact cq));rw[Ib,PZ];refine c6.ob (H.swap cm.toList (by simpa using bG) (by omega) (i0+k) (a+(z-len)) (by omega) (by omega)) (H.ok _) (fun bK cs h=>?_) (fun _ _ h=>h) (by simp[aB,aI,H.ksc cm.toList (by simpa using bG)]) ?_
   ·simp only[Pv.look];split
    ·rename_i e;subst e;rw[aA]at h;cases h
    ·rw[cJ,h]
   rintro eC ai ⟨rfl,rfl⟩;refine⟨H.same _ _ (by simpa using bG) (by simpa using bG),?_⟩;rw[Fx cm (by omega) (by omega)];obtain⟨d2,eF⟩:∃d2,d2=Sort.swp cm (i0+k) (a+(z-len)):=⟨_,rfl⟩;have s2:d2.size=n:=by rw[eF,gH,bG]
   rw[←eF];have Ig:∀v:List ah,cz (S cm.toList).b ((aH.loc 0,[ah.func g lc,ah.func b8 b3])::((S cm.toList).b++[(aH.obj 902,v)]))=[(aH.loc 0,[ah.func g lc,ah.func b8 b3]),(aH.obj 902,v)]:=fun v=>by simp only[cz,aA];rw[im,gR];simp[cz,gp]
   dsimp only;rw[Ig,gR];simp;(with_reducible repeat' first|refine aj ?_|simp);have H7:((i0:Int)+k+1)=((i0+(k+1):Nat):Int):=by omega
   rw[H7];refine bO.whl (k+1,Sort.xorNext r,d2) (by simp;omega) ⟨by simp;omega,s2,by simp only[yy,b9];rw[Nl (z-len) (by omega) (by rw[if_pos (by omega)]),eF]⟩ ?_;rw[Jl,←aL];refine WQ (DF H d2 y) (fun k h=>di d2 _ k h s2) (fun k h=>pg _ h) (by simp[aB,inObs,je,Pv.look,lV]) (by simp[Pv.look]) (xi d2 _ s2) ?_ (fun _ _ h=>h);intro k cs h;simp only[je,Pv.look]at h⊢;split at h
   ·rename_i e;subst e;simpa using h
   ·rename_i e;split
    ·rename_i aC;subst aC;rw[aA]at h;cases h
    ·exact h
  ·have JI:¬(len:Int)≤z:=by omega
   have Ib:((a:Int)+z)=((a+z:Nat):Int):=by omega
   ((with_reducible repeat' first|refine aj ?_|simp[JI,Pv.look,H.ssc]|((first|apply bL|apply bQ|apply bP)<;>intro h<;>try simp at h))<;>(try exact cq));rw[Ib,PZ];refine c6.ob (H.swap cm.toList (by simpa using bG) (by omega) (i0+k) (a+z) (by omega) (by omega)) (H.ok _) (fun bK cs h=>?_) (fun _ _ h=>h) (by simp[aB,aI,H.ksc cm.toList (by simpa using bG)]) ?_
   ·simp only[Pv.look];split
    ·rename_i e;subst e;rw[aA]at h;cases h
    ·rw[cJ,h]
   rintro eC ai ⟨rfl,rfl⟩;refine⟨H.same _ _ (by simpa using bG) (by simpa using bG),?_⟩;rw[Fx cm (by omega) (by omega)];obtain⟨d2,eF⟩:∃d2,d2=Sort.swp cm (i0+k) (a+z):=⟨_,rfl⟩;have s2:d2.size=n:=by rw[eF,gH,bG]
   rw[←eF];have Ig:∀v:List ah,cz (S cm.toList).b ((aH.loc 0,[ah.func g lc,ah.func b8 b3])::((S cm.toList).b++[(aH.obj 902,v)]))=[(aH.loc 0,[ah.func g lc,ah.func b8 b3]),(aH.obj 902,v)]:=fun v=>by simp only[cz,aA];rw[im,gR];simp[cz,gp]
   dsimp only;rw[Ig,gR];simp;(with_reducible repeat' first|refine aj ?_|simp);have H7:((i0:Int)+k+1)=((i0+(k+1):Nat):Int):=by omega
   rw[H7];refine bO.whl (k+1,Sort.xorNext r,d2) (by simp;omega) ⟨by simp;omega,s2,by simp only[yy,b9];rw[Nl z (by omega) (by rw[if_neg (by omega)]),eF]⟩ ?_;rw[Jl,←aL];refine WQ (DF H d2 y) (fun k h=>di d2 _ k h s2) (fun k h=>pg _ h) (by simp[aB,inObs,je,Pv.look,lV]) (by simp[Pv.look]) (xi d2 _ s2) ?_ (fun _ _ h=>h);intro k cs h;simp only[je,Pv.look]at h⊢;split at h
   ·rename_i e;subst e;simpa using h
   ·rename_i e;split
    ·rename_i aC;subst aC;rw[aA]at h;cases h
    ·exact h
end Go.Proofs.YtahlgcidhnjlbaaGreat
namespace Go.Proofs.YtahlgcidhnjlbaaGreat
open Go Go.Pv
variable {α:Type} [Inhabited α] {S:List α→cK} {n g b8:Nat} {lc b3:List ah} {lt:α→α→Bool}
theorem eW.fnD{d d2:Array α}(H:eW S n g b8 lc b3 lt)(J:d.size=n){f:Nat}{args:List ah}{r:ah}(aJ:bN al f args (S d.toList) fun eC ai=>eC=r∧∃cc,ai=S cc.toList∧cc=d2∧cc.size=n)(ab:aI (inObs (S d.toList)) args){t:List (Nat×ah)}{D:List ah}{o:List aH}{cc:aY Nat}{K:bq→Prop}
  (h:d2.size=n→∀o,K ⟨eH cc r t,(.loc 0,D)::(S d2.toList).b,(S d2.toList).e,1,o⟩):c6 al f args ⟨t,(.loc 0,D)::(S d.toList).b,(S d.toList).e,1,o⟩ cc K:=
 H.call (by simpa using J) (R:=fun eC aZ=>eC=r∧aZ=d2.toList∧d2.size=n) (aJ.mono fun r ai ⟨ak,cc,aC,bk,dc⟩=>⟨cc.toList,aC,ak,by rw[bk],by rw[←bk];exact dc⟩) (fun r aZ ⟨_,e,h⟩=>by rw[e];simpa using h) ab (by rintro eC aZ ⟨rfl,rfl,U⟩;exact h U _)
attribute [local simp] oX
def AN(S:List α→cK)(n g b8:Nat)(lc b3:List ah)(lt:α→α→Bool)(m:Nat):Prop:=
 ∀k,k<m→∀(d:Array α),d.size=n→∀a b vN:Nat,b-a≤k→a≤b→b≤n→vN≤1000→Sort.Below lt a b d→
  bN al 214 [eN g b8 lc b3,.int .i64 a,.int .i64 b,.int .i64 vN] (S d.toList) fun r ai=>r= .tuple []∧∃cc,ai=S cc.toList∧Sort.PermIn a b d cc∧Sort.SortedIn lt a b cc
structure wD (S:List α→cK) (n g b8:Nat) (lc b3:List ah) (lt:α→α→Bool) (bn b1 lim:Nat) (d:Array α) (Q:Exit→bq→Prop):Prop where
 k:∀e,e= .normal∨e= .exit 1→∀(a2 b6:Nat) (w v:Bool) (L:Array α) (t:List (Nat×ah)) (o:List aH),L.size=n→a2≤b6→b6≤n→b6-a2<b1-bn→Sort.Below lt a2 b6 L→(∀R,Sort.PermIn a2 b6 L R→Sort.SortedIn lt a2 b6 R→Sort.PermIn bn b1 d R∧Sort.SortedIn lt bn b1 R)→
  Pv.get 1 t= .int .i64 a2→Pv.get 2 t= .int .i64 b6→Pv.get 3 t= .int .i64 lim→Pv.get 4 t= .ptr (.loc 0) 0→Pv.get 8 t= .bool w→Pv.get 9 t= .bool v→Q e ⟨t,(.loc 0,[.func g lc,.func b8 b3])::(S L.toList).b,(S L.toList).e,1,o⟩
 r:∀(R:Array α) t o,Sort.PermIn bn b1 d R→Sort.SortedIn lt bn b1 R→Q .ret ⟨t,(.loc 0,[.func g lc,.func b8 b3])::(S R.toList).b,(S R.toList).e,1,o⟩
theorem wD.mono{bn b1 lim:Nat}{d cc:Array α}{Q:Exit→bq→Prop}(h:wD S n g b8 lc b3 lt bn b1 lim d Q)(p:Sort.PermIn bn b1 d cc):wD S n g b8 lc b3 lt bn b1 lim cc Q:=⟨fun e he a2 b6 w v L t o ak aC bk dc gV hI=>h.k e he a2 b6 w v L t o ak aC bk dc gV fun R dH e8=>⟨Sort.permIn_trans _ _ _ bn b1 p (hI R dH e8).1,(hI R dH e8).2⟩,fun R t o dH e8=>h.r R t o (Sort.permIn_trans _ _ _ bn b1 p dH) e8⟩
structure yu (t:List (Nat×ah)) (bn b1 lim:Nat):Prop where
 t1:Pv.get 1 t= .int .i64 bn
 t2:Pv.get 2 t= .int .i64 b1
 t3:Pv.get 3 t= .int .i64 lim
 t4:Pv.get 4 t= .ptr (.loc 0) 0
 t10:Pv.get 10 t= .int .i64 ((b1:Int)-bn)
section
variable {bn b1 lim:Nat} {cG:Array α} {t:List (Nat×ah)} {o:List aH} {ob:List aH} {Q:Exit→bq→Prop}
theorem Ui(H:eW S n g b8 lc b3 lt)(bD:Sort.SWO lt)(bU:AN S n g b8 lc b3 lt (b1-bn)){pv:Nat}(T:yu t bn b1 lim)(t11:Pv.get 11 t= .int .i64 pv)(rj:lim≤1000)(ox:cG.size=n)(pG:bn≤pv∧pv<b1)(b9:b1≤n)(sp:12<b1-bn)(tj:Sort.Below lt bn b1 cG)(hU:wD S n g b8 lc b3 lt bn b1 lim cG Q):
  cW al ob HJ Q ⟨t,(.loc 0,[.func g lc,.func b8 b3])::(S cG.toList).b,(S cG.toList).e,1,o⟩:=by
 obtain⟨t1,t2,t3,t4,t10⟩:=T;have sA:∀fF:Array α,fF.size=n→aB (inObs (S fF.toList)) (eN g b8 lc b3):=fun fF h=>H.kdata (lk:=fF.toList) (by simpa using h);have hle:=H.le;unfold HJ;simp[t1,t2,t4,t11,Pv.look,H.slc,H.ssc];simp only[h9 H,H.slc,H.ssc,h4];have qy:=acp H cG ox bn b1 pv pG.1 pG.2 (by omega) b9;have br:Sort.partition lt cG bn b1 pv=((Sort.partition lt cG bn b1 pv).1,(Sort.partition lt cG bn b1 pv).2.1,(Sort.partition lt cG bn b1 pv).2.2):=rfl;generalize (Sort.partition lt cG bn b1 pv).1=mid at qy br;generalize (Sort.partition lt cG bn b1 pv).2.1=ap at qy br;generalize (Sort.partition lt cG bn b1 pv).2.2=d4 at qy br;obtain⟨g1,g2,g3,g4,g5,g6,g7⟩:=Sort.round_part bD (Sort.partition_holds lt) pG.1 pG.2 (by omega) tj br;refine H.fnD ox qy (by simp[aB,aI,sA cG ox]) fun s4 o=>?_;have em:((mid:Int)+1)=(mid+1:Nat):=by omega
 simp[t1,t2,t3,t4,t10];by_cases anZ:mid-bn<b1-mid
 ·have Je:(mid:Int)-bn<b1-mid:=by omega
  (with_reducible repeat' first|refine aj ?_|simp[Je,Pv.look,t1,t2,t3,t4,t10]);simp only[h9 H,H.slc,H.ssc,h4];refine H.doFn (lk:=d4.toList) (by simpa using s4) (R:=fun aZ=> ∃L:Array α,aZ=L.toList∧Sort.PermIn bn mid d4 L∧Sort.SortedIn lt bn mid L) ((bU (mid-bn) (by omega) d4 s4 bn mid lim (eR _) g1 (by omega) rj g4).mono fun r ai ⟨a6,cc,bE,bX,cX⟩=>⟨a6,cc.toList,bE,cc,rfl,bX,cX⟩) (by rintro aZ ⟨L,rfl,q,_⟩;simpa using q.1.trans s4) (by simp[aI,aB,sA d4 s4]) ?_;rintro aZ ⟨L,rfl,cO,dp⟩;obtain⟨kv,oE⟩:=g6 L cO dp;simp;(with_reducible repeat' first|refine aj ?_|simp[t1,t2,t3,t4]);rw[em];exact hU.k _ (.inl rfl) (mid+1) b1 _ ap L _ _ (cO.1.trans s4) (by omega) b9 (by omega) kv oE (by simp) (by simp[t2]) (by simp[t3]) (by simp[t4]) (by simp;rfl) (by simp)
 ·have Je:¬(mid:Int)-bn<b1-mid:=by omega
  (with_reducible repeat' first|refine aj ?_|simp[Je,Pv.look,t1,t2,t3,t4,t10]);simp only[h9 H,H.slc,H.ssc,h4];rw[em];refine H.doFn (lk:=d4.toList) (by simpa using s4) (R:=fun aZ=> ∃L:Array α,aZ=L.toList∧Sort.PermIn (mid+1) b1 d4 L∧Sort.SortedIn lt (mid+1) b1 L) ((bU (b1-(mid+1)) (by omega) d4 s4 (mid+1) b1 lim (eR _) (by omega) b9 rj g5).mono fun r ai ⟨a6,cc,bE,bX,cX⟩=>⟨a6,cc.toList,bE,cc,rfl,bX,cX⟩) (by rintro aZ ⟨L,rfl,q,_⟩;simpa using q.1.trans s4) (by simp[aI,aB,sA d4 s4]) ?_;rintro aZ ⟨L,rfl,cO,dp⟩;obtain⟨kv,oE⟩:=g7 L cO dp;simp;(with_reducible repeat' first|refine aj ?_|simp[t1,t2,t3,t4]);exact hU.k _ (.inl rfl) bn mid _ ap L _ _ (cO.1.trans s4) g1 (by omega) (by omega) kv oE (by simp[t1]) (by simp) (by simp[t3]) (by simp[t4]) (by simp;rfl) (by simp)
theorem aip(H:eW S n g b8 lc b3 lt)(bD:Sort.SWO lt)(bU:AN S n g b8 lc b3 lt (b1-bn)){pv:Nat}(T:yu t bn b1 lim)(t11:Pv.get 11 t= .int .i64 pv){w v:Bool}(t8:Pv.get 8 t= .bool w)(t9:Pv.get 9 t= .bool v)(rj:lim≤1000)(ox:cG.size=n)(pG:bn≤pv∧pv<b1)(b9:b1≤n)(sp:12<b1-bn)(tj:Sort.Below lt bn b1 cG)(hU:wD S n g b8 lc b3 lt bn b1 lim cG Q):
  cW al ob A0 Q ⟨t,(.loc 0,[.func g lc,.func b8 b3])::(S cG.toList).b,(S cG.toList).e,1,o⟩:=by
 obtain⟨t1,t2,t3,t4,t10⟩:=id T;have hle:=H.le;unfold A0;by_cases ss:0<bn
 ·have IX:(0:Int)<bn:=by omega
  simp[t1,t2,t4,t11,ss,IX,Pv.look,H.slc,H.ssc];(with_reducible repeat' first|refine aj ?_|simp[t1,t2,t4,t11,ss,IX,Pv.look,H.slc,H.ssc]);rw[show((bn:Int)-1)=((bn-1:Nat):Int) by omega];refine H.lessA ox (bn-1) pv (by omega) (by omega) fun o=>?_;cases jx:lt cG[bn-1]! cG[pv]!
  ·simp;(with_reducible repeat' first|refine aj ?_|simp[Pv.look,H.slc,H.ssc,t1,t2,t4,t11]);simp only[h9 H,H.slc,H.ssc,h4];have qy:=acq H cG ox bn b1 pv pG.1 pG.2 (by omega) b9;have br:Sort.partitionEqual lt cG bn b1 pv=((Sort.partitionEqual lt cG bn b1 pv).1,(Sort.partitionEqual lt cG bn b1 pv).2):=rfl;generalize (Sort.partitionEqual lt cG bn b1 pv).1=mid at qy br;generalize (Sort.partitionEqual lt cG bn b1 pv).2=d4 at qy br;obtain⟨g1,g2,g3,g4,g5⟩:=Sort.round_eq bD (Sort.partitionEqual_holds lt) ss pG.1 pG.2 (by omega) tj jx br;refine H.fnD ox qy (by simp[aB,aI,H.kdata (lk:=cG.toList) (by simpa using ox)]) fun s4 o=>?_;simp[t1,t2,t3,t4];exact hU.k _ (.inr rfl) mid b1 w v d4 _ _ s4 g2 b9 (by omega) g4 g5 (by simp) (by simp[t2]) (by simp[t3]) (by simp[t4]) (by simp[t8]) (by simp[t9])
  ·simp;exact Ui H bD bU ⟨by simp[t1],by simp[t2],by simp[t3],by simp[t4],by simp[t10]⟩ (by simp[t11]) rj ox pG b9 sp tj hU
 ·have IX:¬(0:Int)<bn:=by omega
  simp[t1,ss];exact Ui H bD bU ⟨by simp[t1],by simp[t2],by simp[t3],by simp[t4],by simp[t10]⟩ (by simp[t11]) rj ox pG b9 sp tj hU
theorem KX(H:eW S n g b8 lc b3 lt)(bD:Sort.SWO lt)(bU:AN S n g b8 lc b3 lt (b1-bn)){pv:Nat}(T:yu t bn b1 lim)(t11:Pv.get 11 t= .int .i64 pv){h:Nat}(t12:Pv.get 12 t= .int .i64 h){w v:Bool}(t8:Pv.get 8 t= .bool w)(t9:Pv.get 9 t= .bool v)(rj:lim≤1000)(ox:cG.size=n)(pG:bn≤pv∧pv<b1)(b9:b1≤n)(sp:12<b1-bn)(tj:Sort.Below lt bn b1 cG)(hU:wD S n g b8 lc b3 lt bn b1 lim cG Q):
  cW al ob HK Q ⟨t,(.loc 0,[.func g lc,.func b8 b3])::(S cG.toList).b,(S cG.toList).e,1,o⟩:=by
 obtain⟨t1,t2,t3,t4,t10⟩:=id T;have hle:=H.le;unfold HK;have next:∀{d5:Array α} {t o},yu t bn b1 lim→Pv.get 11 t= .int .i64 pv→Pv.get 8 t= .bool w→Pv.get 9 t= .bool v→d5.size=n→Sort.Below lt bn b1 d5→Sort.PermIn bn b1 cG d5→cW al ob A0 Q ⟨t,(.loc 0,[.func g lc,.func b8 b3])::(S d5.toList).b,(S d5.toList).e,1,o⟩:=fun ak aC bk dc gV hI qU=>aip H bD bU ak aC bk dc rj gV pG b9 sp hI (hU.mono qU)
 have skip:∀{t o},yu t bn b1 lim→Pv.get 11 t= .int .i64 pv→Pv.get 8 t= .bool w→Pv.get 9 t= .bool v→cW al ob A0 Q ⟨t,(.loc 0,[.func g lc,.func b8 b3])::(S cG.toList).b,(S cG.toList).e,1,o⟩:=fun ak aC bk dc=>next ak aC bk dc ox tj (Sort.permIn_refl _ _ _)
 by_cases au:(w=true∧v=true)∧h=1
 ·obtain⟨⟨rfl,rfl⟩,rfl⟩:=au;simp[t1,t2,t4,t8,t9,t12,Pv.look,H.slc,H.ssc];simp only[h9 H,H.slc,H.ssc,h4];have qy:=aco H cG ox bn b1 (by omega) b9 (by omega);have br:=Sort.partialInsertionSort_holds bD cG bn b1 (by omega) (by omega) tj;generalize (Sort.partialInsertionSort lt cG bn b1).1=d5 at qy br;generalize (Sort.partialInsertionSort lt cG bn b1).2=ok at qy br;refine H.fnD ox qy (by simp[aB,aI,H.kdata (lk:=cG.toList) (by simpa using ox)]) fun ajP o=>?_;cases ok
  ·simp;exact next ⟨by simp[t1],by simp[t2],by simp[t3],by simp[t4],by simp[t10]⟩ (by simp[t11]) (by simp[t8]) (by simp[t9]) ajP (tj.perm (by omega) br.1) br.1
  ·simp;exact hU.r _ _ _ br.1 (br.2 rfl)
 ·cases w
  ·simp[t8,t9,t12];exact skip ⟨by simp[t1],by simp[t2],by simp[t3],by simp[t4],by simp[t10]⟩ (by simp[t11]) (by simp[t8]) (by simp[t9])
  ·cases v
   ·simp[t8,t9,t12];exact skip ⟨by simp[t1],by simp[t2],by simp[t3],by simp[t4],by simp[t10]⟩ (by simp[t11]) (by simp[t8]) (by simp[t9])
   ·have J:((h:Int)==1)=false:=by simp at au⊢;omega
    simp[t8,t9,t12,J];exact skip ⟨by simp[t1],by simp[t2],by simp[t3],by simp[t4],by simp[t10]⟩ (by simp[t11]) (by simp[t8]) (by simp[t9])
theorem Uj(H:eW S n g b8 lc b3 lt)(gp:rH S 901)(bD:Sort.SWO lt)(bU:AN S n g b8 lc b3 lt (b1-bn))(T:yu t bn b1 lim){w v:Bool}(t8:Pv.get 8 t= .bool w)(t9:Pv.get 9 t= .bool v)(rj:lim≤1000)(s1:cG.size=n)(b9:b1≤n)(sp:12<b1-bn)(G0:Sort.Below lt bn b1 cG)(hU:wD S n g b8 lc b3 lt bn b1 lim cG Q):
  cW al ob HL Q ⟨t,(.loc 0,[.func g lc,.func b8 b3])::(S cG.toList).b,(S cG.toList).e,1,o⟩:=by
 obtain⟨t1,t2,t3,t4,t10⟩:=id T;have hle:=H.le;have sA:∀fF:Array α,fF.size=n→aB (inObs (S fF.toList)) (eN g b8 lc b3):=fun fF h=>H.kdata (lk:=fF.toList) (by simpa using h);unfold HL;simp[t1,t2,t4,Pv.look,H.slc,H.ssc];simp only[h9 H,H.slc,H.ssc,h4];have tO:=Sort.choosePivot_holds lt cG bn b1 (by omega);have JV:=ace H gp cG s1 bn b1 (by omega) b9;generalize Sort.choosePivot lt cG bn b1=HW at JV tO;obtain⟨p,hint⟩:=HW;simp only at JV tO;refine H.fnA s1 s1 JV (by simp[aB,aI,sA cG s1]) fun o=>?_;cases hint
 ·simp[zb];exact KX H bD bU ⟨by simp[t1],by simp[t2],by simp[t3],by simp[t4],by simp[t10]⟩ (pv:=p) (by simp) (h:=0) (by simp) (w:=w) (v:=v) (by simp[t8]) (by simp[t9]) rj s1 tO b9 sp G0 hU
 ·simp[zb];exact KX H bD bU ⟨by simp[t1],by simp[t2],by simp[t3],by simp[t4],by simp[t10]⟩ (pv:=p) (by simp) (h:=1) (by simp) (w:=w) (v:=v) (by simp[t8]) (by simp[t9]) rj s1 tO b9 sp G0 hU
 ·simp[zb,t1,t2,t4,Pv.look,H.slc,H.ssc];simp only[h9 H,H.slc,H.ssc,h4];refine H.fnD s1 (acw H cG s1 bn b1 (by omega) b9 (by omega)) (by simp[aB,aI,sA cG s1]) fun s2 o=>?_;have aK:=Sort.reverseRange_holds cG bn b1 (by omega) (by omega);have P2:((b1:Int)-1-(p-bn))=((b1-1)-(p-bn):Nat):=by omega
  simp[t1,t2,P2];(with_reducible repeat' first|refine aj ?_|simp[P2,t1,t2]);exact KX H bD bU ⟨by simp[t1],by simp[t2],by simp[t3],by simp[t4],by simp[t10]⟩ (pv:=(b1-1)-(p-bn)) (by simp) (h:=1) (by simp) (w:=w) (v:=v) (by simp[t8]) (by simp[t9]) rj s2 (by omega) b9 sp (G0.perm (by omega) aK) (hU.mono aK)
end
theorem acr(H:eW S n g b8 lc b3 lt)(gp:rH S 901)(kU:rH S 902)(bD:Sort.SWO lt)(m:Nat):∀(d:Array α) (aP:d.size=n) (a b vN:Nat) (hm:b-a≤m) (mO:a≤b) (ad:b≤n) (eY:vN≤1000) (y1:Sort.Below lt a b d),
  bN al 214 [eN g b8 lc b3,.int .i64 a,.int .i64 b,.int .i64 vN] (S d.toList) fun r ai=>r= .tuple []∧∃cc,ai=S cc.toList∧Sort.PermIn a b d cc∧Sort.SortedIn lt a b cc:=by
 induction m using Nat.strongRecOn with
 |ind m bU=>
 intro d aP a b vN hm mO ad eY y1;have ag:=H.ok d.toList;have av:d.toList.length=n:=by simpa using aP
 have aA:∀l m,Pv.look (.loc m) (S l).b=none:=fun l=>(H.ok l).obj.1;have hu:∀l m cs,cA (.loc m) cs (S l).b=(S l).b++[(.loc m,cs)]:=fun l m cs=>jT (aA l m);have ax:∀m,aH.loc m∉cV (S d.toList):=jO ag.obj;have hle:=H.le;refine bN.mk mixed nK aa8 ahE (by simp) ag.obj fun aQ cL=>?_;unfold OT;simp[eN,hu,ax,cJ,aA];refine H.loopA av [4] (fun(x:((Nat×Nat×Nat)×Bool×Bool)×Array α)=>[(1,.int .i64 x.1.1.1),(2,.int .i64 x.1.1.2.1),(3,.int .i64 x.1.1.2.2),(8,.bool x.1.2.1),(9,.bool x.1.2.2)]) (·.2) (fun x=>x.1.1.2.1-x.1.1.1) (fun x=>x.2.size=n∧(x.1.1.1≤x.1.1.2.1∧x.1.1.2.1≤n∧x.1.1.2.1-x.1.1.1≤m∧x.1.1.2.2≤1000)∧Sort.Below lt x.1.1.1 x.1.1.2.1 x.2∧∀R,Sort.PermIn x.1.1.1 x.1.1.2.1 x.2 R→Sort.SortedIn lt x.1.1.1 x.1.1.2.1 R→Sort.PermIn a b d R∧Sort.SortedIn lt a b R)
  (((a,b,vN),true,true),d) aP ⟨aP,⟨mO,ad,hm,eY⟩,y1,fun R J U=>⟨J,U⟩⟩ (by simp[cJ,aA]) aR aR (by simp[aB]) ?_
 rintro⟨⟨⟨bn,b1,uo⟩,amd,wp⟩,cm⟩ ⟨aU,⟨bG,b9,eV,dd⟩,JU,Ff⟩;simp only at aU bG b9 eV dd JU Ff;have sA:∀fF:Array α,fF.size=n→aB (inObs (S fF.toList)) (eN g b8 lc b3):=fun fF h=>H.kdata (lk:=fF.toList) (by simpa using h);have Gr:∀(R:Array α) t o,Sort.PermIn bn b1 cm R→Sort.SortedIn lt bn b1 R→cT UY (S d.toList) (fun r ai=>r= .tuple []∧∃cc,ai=S cc.toList∧Sort.PermIn a b d cc∧Sort.SortedIn lt a b cc) .ret ⟨t,(.loc 0,[.func g lc,.func b8 b3])::(S R.toList).b,(S R.toList).e,1,o⟩:=fun R t o J U=>by refine H.retA av (by rw[J.1];exact aU) (.inl rfl) ⟨rfl,R,rfl,Ff R J U⟩
 simp;by_cases sp:b1-bn≤12
 ·have Bn:(b1:Int)-bn≤12:=by omega
  (with_reducible repeat' first|refine aj ?_|simp[Bn,Pv.look,H.slc,H.ssc]);simp only[h9 H,H.slc,H.ssc,h4];refine H.fnD aU (ach H cm aU bn b1 bG b9) (by simp[aB,aI,sA cm aU]) fun s2 o=>?_;obtain⟨a6,bE⟩:=Sort.insertionSort_holds bD cm bn b1 bG (by omega);simp;exact Gr _ _ _ a6 bE
 have Bn:¬(b1:Int)-bn≤12:=by omega
 by_cases ze:uo=0
 ·have EM:(((uo:Nat):Int)==0)=true:=by simp[ze]
  (with_reducible repeat' first|refine aj ?_|simp[Bn,EM,Pv.look,H.slc,H.ssc]);simp only[h9 H,H.slc,H.ssc,h4];refine H.fnD aU (acg H cm aU bn b1 bG b9 (by omega)) (by simp[aB,aI,sA cm aU]) fun s2 o=>?_;obtain⟨a6,bE⟩:=Sort.heapSort_holds bD cm bn b1 bG (by omega);simp;exact Gr _ _ _ a6 bE
 have EM:(((uo:Nat):Int)==0)=false:=by simp[ze]
 have Sd:AN S n g b8 lc b3 lt (b1-bn):=fun k ab=>bU k (by omega);cases amd
 ·(with_reducible repeat' first|refine aj ?_|simp[Bn,EM,Pv.look,H.slc,H.ssc]);simp only[h9 H,H.slc,H.ssc,h4];refine H.fnD aU (acd H kU cm aU bn b1 bG b9 (by omega)) (by simp[aB,aI,sA cm aU]) fun s1 o=>?_;have Dz:=Sort.breakPatterns_holds cm bn b1 bG (by omega);generalize Sort.breakPatterns cm bn b1=d1 at s1 Dz;have el:((uo:Int)-1)=(uo-1:Nat):=by omega
  simp[el];(with_reducible repeat' first|refine aj ?_|simp[el,Pv.look]);refine Uj (lim:=uo-1) H gp bD Sd ⟨by simp,by simp,by simp,by simp,by simp⟩ (w:=false) (v:=wp) (by simp) (by simp) (by omega) s1 b9 (by omega) (JU.perm (by omega) Dz) ⟨?_,fun R t o dH e8=>?_⟩
  ·rintro e he a2 b6 w v L t o ak aC bk dc gV hI t1 t2 t3 t4 t8 t9;rcases he with rfl|rfl<;>simp<;>exact bO.whl (((a2,b6,uo-1),w,v),L) (by simp;omega) ⟨ak,⟨aC,bk,by simp;omega,by simp;omega⟩,gV,fun R dH e8=>Ff R (Sort.permIn_trans _ _ _ bn b1 Dz (hI R dH e8).1) (hI R dH e8).2⟩ (H.weakC av (by simpa using ak) (by simp[aB,t1,t2,t3,t4,t8,t9]))
  ·simpa using Gr R t o (Sort.permIn_trans _ _ _ bn b1 Dz dH) e8
 ·(with_reducible repeat' first|refine aj ?_|simp[Bn,EM,Pv.look,H.slc,H.ssc]);refine Uj (lim:=uo) H gp bD Sd ⟨by simp,by simp,by simp,by simp,by simp⟩ (w:=true) (v:=wp) (by simp) (by simp) dd aU b9 (by omega) JU ⟨?_,fun R t o dH e8=>?_⟩
  ·rintro e he a2 b6 w v L t o ak aC bk dc gV hI t1 t2 t3 t4 t8 t9;rcases he with rfl|rfl<;>simp<;>exact bO.whl (((a2,b6,uo),w,v),L) (by simp;omega) ⟨ak,⟨aC,bk,by simp;omega,dd⟩,gV,fun R dH e8=>Ff R (hI R dH e8).1 (hI R dH e8).2⟩ (H.weakC av (by simpa using ak) (by simp[aB,t1,t2,t3,t4,t8,t9]))
  ·simpa using Gr R t o dH e8
end Go.Proofs.YtahlgcidhnjlbaaGreat
namespace Go.Proofs.YtahlgcidhnjlbaaGreat
open Go Go.Pv
variable {α:Type} {S:List α→cK} {n g b8:Nat} {lc b3:List ah} {lt:α→α→Bool}
theorem afN(bD:p9 lt){l lk:List α}{a b i:Nat}(mP:a+1≤i)(za:i≤b)(ad:b≤l.length)(ag:e4 lt (a+1) b l){z:α}(bp:l[a]? =some z)(BH:∀h x,a+1≤h→h<i→l[h]? =some x→lt x z=true)(BE:∀h x,i≤h→h<b→l[h]? =some x→lt x z=false)
  (aK:∀k,lk[k]? =l[hQ a (a+1) i k]?):e4 lt a b lk:=by
 intro p q x y bI kl br ae aL;rw[aK]at ae aL;simp only[hQ]at ae aL;rw[if_neg (by omega)]at ae aL;by_cases a6:q<i-1
 ·rw[if_pos (by omega)]at ae aL;exact ag _ _ _ _ (by omega) (by omega) (by omega) ae aL
 ·rw[if_neg (by omega)]at aL;by_cases bE:q<i
  ·rw[if_pos bE,show q-(i-(a+1))=a by omega,bp]at aL;cases aL;rw[if_pos (by omega)]at ae;exact bD.asym _ _ (BH _ _ (by omega) (by omega) ae)
  ·rw[if_neg bE]at aL;by_cases cO:p<i-1
   ·rw[if_pos (by omega)]at ae;exact ag _ _ _ _ (by omega) (by omega) (by omega) ae aL
   ·rw[if_neg (by omega)]at ae;by_cases dp:p<i
    ·rw[if_pos dp,show p-(i-(a+1))=a by omega,bp]at ae;cases ae;exact BE _ _ (by omega) br aL
    ·rw[if_neg dp]at ae;exact ag _ _ _ _ (by omega) (by omega) br ae aL
theorem afO(bD:p9 lt){l lk:List α}{a m i:Nat}(mP:a≤i)(anW:i≤m)(ad:m+1≤l.length)(ag:e4 lt a m l){z:α}(bp:l[m]? =some z)(BH:∀h x,a≤h→h<i→l[h]? =some x→lt z x=false)(BE:∀h x,i≤h→h<m→l[h]? =some x→lt z x=true)
  (aK:∀k,lk[k]? =l[hQ i m (m+1) k]?):e4 lt a (m+1) lk:=by
 intro p q x y bI kl br ae aL;rw[aK]at ae aL;simp only[hQ]at ae aL;by_cases a6:q<i
 ·rw[if_pos (by omega)]at ae aL;exact ag _ _ _ _ bI kl (by omega) ae aL
 ·rw[if_neg a6]at aL;by_cases bE:q=i
  ·rw[if_pos (by omega),show q+(m-i)=m by omega,bp]at aL;cases aL;rw[if_pos (by omega)]at ae;exact BH _ _ bI (by omega) ae
  ·rw[if_neg (by omega),if_pos (by omega)]at aL;by_cases cO:p<i
   ·rw[if_pos cO]at ae;exact ag _ _ _ _ bI (by omega) (by omega) ae aL
   ·rw[if_neg cO]at ae;by_cases dp:p=i
    ·rw[if_pos (by omega),show p+(m-i)=m by omega,bp]at ae;cases ae;exact bD.asym _ _ (BE _ _ (by omega) (by omega) aL)
    ·rw[if_neg (by omega),if_pos (by omega)]at ae;exact ag _ _ _ _ (by omega) (by omega) (by omega) ae aL
structure Dy (lt:α→α→Bool) (a s m e b mid:Nat) (lk:List α):Prop where
 s1:e4 lt a s lk
 s2:e4 lt s mid lk
 s3:e4 lt mid e lk
 s4:e4 lt e b lk
 cross:∀p q x y,a≤p→p<mid→mid≤q→q<b→lk[p]? =some x→lk[q]? =some y→lt y x=false
theorem e4.le(bD:p9 lt){a b:Nat}{l:List α}(h:e4 lt a b l){i j:Nat}{x y:α}(J:a≤i)(U:i≤j)(ao:j<b)(ae:l[i]? =some x)(aL:l[j]? =some y):lt y x=false:=by
 by_cases e:i=j
 ·subst e;rw[ae]at aL;cases aL;cases Sa:lt x x with
  |false=>rfl
  |true=>have:=bD.asym _ _ Sa;rw[Sa]at this;exact this
 ·exact h _ _ _ _ J (by omega) ao ae aL
theorem afX(bD:p9 lt){l lk:List α}{a m b mid s e:Nat}(has:a≤s)(eZ:s≤m)(an0:m≤e)(anU:e≤b)(ad:b≤l.length)(lq:s+e=mid+m)(J:e4 lt a m l)(U:e4 lt m b l)
  (bH:s=a∨e=b∨ ∃x y,l[s-1]? =some x∧l[e]? =some y∧lt y x=false) (cl:s=m∨e=m∨ ∃x y,l[s]? =some x∧l[e-1]? =some y∧lt y x=true) (aK:∀k,lk[k]? =l[hQ s m e k]?):Dy lt a s m e b mid lk:=by
 have g1:∀p,p<s→lk[p]? =l[p]?:=fun p bI=>by rw[aK];simp[hQ,bI]
 have g2:∀p,s≤p→p<mid→lk[p]? =l[p+(m-s)]?:=fun p ao ba=>by rw[aK];simp only[hQ];rw[if_neg (by omega),if_pos (by omega)]
 have g3:∀p,mid≤p→p<e→lk[p]? =l[p-(e-m)]?:=fun p ao ba=>by rw[aK];simp only[hQ];rw[if_neg (by omega),if_neg (by omega),if_pos (by omega)]
 have g4:∀p,e≤p→lk[p]? =l[p]?:=fun p ao=>by
  rw[aK];simp only[hQ];rw[if_neg (by omega)];by_cases b2:p<s+(e-m)
  ·omega
  ·rw[if_neg b2,if_neg (by omega)]
 refine⟨fun p q x y bI kl br ae aL=>?_,fun p q x y bI kl br ae aL=>?_,fun p q x y bI kl br ae aL=>?_,fun p q x y bI kl br ae aL=>?_,fun p q x y bI ad9 br Jp ae aL=>?_⟩
 ·rw[g1 _ (by omega)]at ae aL;exact J _ _ _ _ bI kl (by omega) ae aL
 ·rw[g2 _ (by omega) (by omega)]at ae aL;exact U _ _ _ _ (by omega) (by omega) (by omega) ae aL
 ·rw[g3 _ (by omega) (by omega)]at ae aL;exact J _ _ _ _ (by omega) (by omega) (by omega) ae aL
 ·rw[g4 _ (by omega)]at ae aL;exact U _ _ _ _ (by omega) (by omega) (by omega) ae aL
 ·by_cases cO:p<s
  ·rw[g1 _ cO]at ae;by_cases a6:q<e
   ·rw[g3 _ br a6]at aL;exact J _ _ _ _ bI (by omega) (by omega) ae aL
   ·rw[g4 _ (by omega)]at aL;rcases bH with bH|bH|⟨u,v,aU,bG,b9⟩
    ·omega
    ·omega
    ·exact bD.ntr _ _ _ (bD.ntr _ _ _ (e4.le bD J bI (by omega) (by omega) ae aU) b9) (e4.le bD U (by omega) (by omega) Jp bG aL)
  ·rw[g2 _ (by omega) ad9]at ae;by_cases a6:q<e
   ·rw[g3 _ br a6]at aL;rcases cl with cl|cl|⟨u,v,aU,bG,b9⟩
    ·omega
    ·omega
    ·exact bD.ntr _ _ _ (bD.ntr _ _ _ (e4.le bD U (by omega) (by omega) (by omega) ae bG) (bD.asym _ _ b9)) (e4.le bD J (by omega) (by omega) (by omega) aU aL)
   ·rw[g4 _ (by omega)]at aL;exact U _ _ _ _ (by omega) (by omega) Jp ae aL
theorem afY{a mid b:Nat}(Bv:a≤mid){lk jj gO:List α}(J:gk a mid lk jj)(s1:e4 lt a mid jj)(U:gk mid b jj gO)(s2:e4 lt mid b gO)(YI:∀p q x y,a≤p→p<mid→mid≤q→q<b→lk[p]? =some x→lk[q]? =some y→lt y x=false):e4 lt a b gO:=by
 intro p q x y bI kl br ae aL;by_cases ao:q<mid
 ·rw[U.out _ (.inl (by omega))]at ae;rw[U.out _ (.inl (by omega))]at aL;exact s1 _ _ _ _ bI kl ao ae aL
 ·by_cases ba:mid≤p
  ·exact s2 _ _ _ _ ba kl br ae aL
  ·rw[U.out _ (.inl (by omega))]at ae;refine U.all (fun y=>lt y x=false) (fun k y gp kU aL=>?_) q y (by omega) br aL;rw[J.out _ (.inr gp)]at aL;exact J.all (fun x=>lt y x=false) (fun bK x adD adE ae=>YI bK k x y adD adE gp kU ae aL) p x bI (by omega) ae
end Go.Proofs.YtahlgcidhnjlbaaGreat
namespace Go.Proofs.YtahlgcidhnjlbaaGreat
open Go Go.Pv
variable {α:Type} {S:List α→cK} {n g b8:Nat} {lc b3:List ah} {lt:α→α→Bool}
def akx(lt:α→α→Bool)(l:List α)(mid m s0 r0:Nat)(x:Nat×Nat):Prop:=s0≤x.1∧x.1≤x.2∧x.2≤r0∧(x.1=s0∨ ∃u v,l[x.1-1]? =some u∧l[mid+m-x.1]? =some v∧lt v u=false)∧(x.2=r0∨ ∃u v,l[x.2]? =some u∧l[mid+m-x.2-1]? =some v∧lt v u=true)
attribute [local simp] oX
def DG(S:List α→cK)(n g b8:Nat)(lc b3:List ah)(lt:α→α→Bool)(d:Nat):Prop:=
 ∀(l:List α) (a m b:Nat),l.length=n→b-a≤d→a<m→m<b→b≤n→e4 lt a m l→e4 lt m b l→
  bN al 232 [eN g b8 lc b3,.int .i64 a,.int .i64 m,.int .i64 b] (S l) fun r ai=>r= .tuple []∧∃aZ,ai=S aZ∧gk a b l aZ∧e4 lt a b aZ
def DH(S:List α→cK)(g b8:Nat)(lc b3:List ah)(lt:α→α→Bool)(a b:Nat)(l:List α)(Q:Exit→bq→Prop):Prop:=∀gO t o,gk a b l gO→e4 lt a b gO→Q .normal ⟨t,(.loc 0,[.func g lc,.func b8 b3])::(S gO).b,(S gO).e,1,o⟩
section
variable {a m b mid i e d:Nat} {l:List α} {t:List (Nat×ah)} {o:List aH} {ob:List aH} {Q:Exit→bq→Prop}
theorem akb(H:eW S n g b8 lc b3 lt)(bU:DG S n g b8 lc b3 lt d)(t3:Pv.get 3 t= .int .i64 b)(t4:Pv.get 4 t= .ptr (.loc 0) 0)(t16:Pv.get 16 t= .int .i64 mid)(t22:Pv.get 22 t= .int .i64 e)(av:l.length=n)(J:mid≤e)(U:e≤b)(ad:b≤n)(aP:b-mid≤d)(RX:e4 lt mid e l)(RY:e4 lt e b l)(hU:DH S g b8 lc b3 lt mid b l Q):
  cW al ob DZ Q ⟨t,(.loc 0,[.func g lc,.func b8 b3])::(S l).b,(S l).e,1,o⟩:=by
 unfold DZ;by_cases lf:mid<e∧e<b
 ·simp[t3,t4,t16,t22,lf.1,lf.2,Pv.look];simp only[h9 H,H.slc,H.ssc,h4];refine H.doFn av (bU l mid e b av aP lf.1 lf.2 ad RX RY) (fun aZ h=>by rw[h.1.length];exact av) (by simp[aI,aB,H.kdata av]) ?_;rintro gO ⟨kL,z2⟩;simp;exact hU _ _ _ kL z2
 ·have pI:e4 lt mid b l:=by
   by_cases oZ:mid<e
   ·rwa[show e=b by omega]at RX
   ·rwa[show e=mid by omega]at RY
  by_cases oZ:mid<e
  ·have ac6:¬e<b:=by omega
   simp[t3,t16,t22,oZ,ac6];exact hU _ _ _ (.refl _) pI
  ·simp[t16,t22,oZ];exact hU _ _ _ (.refl _) pI
theorem akc(H:eW S n g b8 lc b3 lt)(bU:DG S n g b8 lc b3 lt d)(t1:Pv.get 1 t= .int .i64 a)(t3:Pv.get 3 t= .int .i64 b)(t4:Pv.get 4 t= .ptr (.loc 0) 0)(t16:Pv.get 16 t= .int .i64 mid)(t18:Pv.get 18 t= .int .i64 i)(t22:Pv.get 22 t= .int .i64 e)(av:l.length=n)(bA:a≤i∧i≤mid∧a≤m)(J:mid≤e)(U:e≤b)(ad:b≤n)(aP:b-mid≤d)(ma:mid-a≤d)(gm:Dy lt a i m e b mid l)(hU:DH S g b8 lc b3 lt a b l Q):
  cW al ob D0 Q ⟨t,(.loc 0,[.func g lc,.func b8 b3])::(S l).b,(S l).e,1,o⟩:=by
 unfold D0;have next:∀{jj t o},Pv.get 3 t= .int .i64 b→Pv.get 4 t= .ptr (.loc 0) 0→Pv.get 16 t= .int .i64 mid→Pv.get 22 t= .int .i64 e→jj.length=n→gk a mid l jj→e4 lt a mid jj→cW al ob DZ Q ⟨t,(.loc 0,[.func g lc,.func b8 b3])::(S jj).b,(S jj).e,1,o⟩:=fun ak aC bk dc xj cO dp=>by
  refine akb H bU ak aC bk dc xj J U ad aP (fun p q x y J U ao ae aL=>?_) (fun p q x y J U ao ae aL=>?_) fun gO t o a6 bE=>?_
  ·rw[cO.out _ (.inr J)]at ae;rw[cO.out _ (.inr (by omega))]at aL;exact gm.s3 p q x y J U ao ae aL
  ·rw[cO.out _ (.inr (by omega))]at ae;rw[cO.out _ (.inr (by omega))]at aL;exact gm.s4 p q x y J U ao ae aL
  ·exact hU gO t o ((cO.mono (by omega) (by omega)).trans (a6.mono (by omega) (by omega))) (afY (by omega) cO dp a6 bE gm.cross)
 by_cases kT:a<i∧i<mid
 ·simp[t1,t4,t16,t18,kT.1,kT.2,Pv.look];simp only[h9 H,H.slc,H.ssc,h4];refine H.doFn av (bU l a i mid av ma kT.1 kT.2 (by omega) gm.s1 gm.s2) (fun aZ h=>by rw[h.1.length];exact av) (by simp[aI,aB,H.kdata av]) ?_;rintro jj ⟨cO,dp⟩;simp;exact next (by simp[t3]) (by simp[t4]) (by simp[t16]) (by simp[t22]) (by rw[cO.length];exact av) cO dp
 ·have dp:e4 lt a mid l:=by
   by_cases pD:a<i
   ·have:=gm.s1;rwa[show i=mid by omega]at this
   ·have:=gm.s2;rwa[show i=a by omega]at this
  by_cases pD:a<i
  ·have Ey:¬i<mid:=by omega
   simp[t1,t16,t18,pD,Ey];exact next (by simp[t3]) (by simp[t4]) (by simp[t16]) (by simp[t22]) av (.refl _) dp
  ·simp[t1,t18,pD];exact next (by simp[t3]) (by simp[t4]) (by simp[t16]) (by simp[t22]) av (.refl _) dp
theorem akd(H:eW S n g b8 lc b3 lt)(bU:DG S n g b8 lc b3 lt d)(t1:Pv.get 1 t= .int .i64 a)(t2:Pv.get 2 t= .int .i64 m)(t3:Pv.get 3 t= .int .i64 b)(t4:Pv.get 4 t= .ptr (.loc 0) 0)(t16:Pv.get 16 t= .int .i64 mid)(t18:Pv.get 18 t= .int .i64 i)(t22:Pv.get 22 t= .int .i64 e)(av:l.length=n)(bA:a≤i∧i≤mid∧a≤m)(J:mid≤e)(U:e≤b)(ad:b≤n)(aP:b-mid≤d)(ma:mid-a≤d)(RG:∀lk:List α,(∀k,lk[k]? =l[hQ i m e k]?)→Dy lt a i m e b mid lk)(hU:DH S g b8 lc b3 lt a b l Q):
  cW al ob HM Q ⟨t,(.loc 0,[.func g lc,.func b8 b3])::(S l).b,(S l).e,1,o⟩:=by
 unfold HM;have next:∀{lk t o},Pv.get 1 t= .int .i64 a→Pv.get 3 t= .int .i64 b→Pv.get 4 t= .ptr (.loc 0) 0→Pv.get 16 t= .int .i64 mid→Pv.get 18 t= .int .i64 i→Pv.get 22 t= .int .i64 e→lk.length=n→Dy lt a i m e b mid lk→gk a b l lk→cW al ob D0 Q ⟨t,(.loc 0,[.func g lc,.func b8 b3])::(S lk).b,(S lk).e,1,o⟩:=fun ak aC bk dc gV hI hV gm ac3=>akc H bU ak aC bk dc gV hI hV bA J U ad aP ma gm fun gO t o a6 bE=>hU gO t o (ac3.trans a6) bE
 by_cases o1:i<m∧m<e
 ·simp[t2,t4,t18,t22,o1.1,o1.2,Pv.look];simp only[h9 H,H.slc,H.ssc,h4];refine H.doFn av (acx H l av i m e o1.1 o1.2 (by omega)) (fun aZ h=>by rw[h.1.length];exact av) (by simp[aI,aB,H.kdata av]) ?_;rintro lk ⟨a6,bE⟩;simp;exact next (by simp[t1]) (by simp[t3]) (by simp[t4]) (by simp[t16]) (by simp[t18]) (by simp[t22]) (by rw[a6.length];exact av) (RG lk bE) (a6.mono (by omega) (by omega))
 ·have gm:=RG l (fun k=>by
   congr 1;simp only[hQ];repeat' split
   all_goals omega)
  by_cases me:i<m
  ·have aec:¬m<e:=by omega
   simp[t2,t18,t22,me,aec];exact next (by simp[t1]) (by simp[t3]) (by simp[t4]) (by simp[t16]) (by simp[t18]) (by simp[t22]) av gm (.refl _)
  ·simp[t2,t18,me];exact next (by simp[t1]) (by simp[t3]) (by simp[t4]) (by simp[t16]) (by simp[t18]) (by simp[t22]) av gm (.refl _)
theorem VH{bb:List (aH×List ah)}(H:eW S n g b8 lc b3 lt)(vh:Pv.look (.loc 0) bb=some [.func g lc,.func b8 b3])(cL:∀k cs,Pv.look k (S l).b=some cs→Pv.look k bb=some cs)(bD:p9 lt)(bU:DG S n g b8 lc b3 lt d){s0 r0:Nat}(t1:Pv.get 1 t= .int .i64 a)(t2:Pv.get 2 t= .int .i64 m)(t3:Pv.get 3 t= .int .i64 b)(t4:Pv.get 4 t= .ptr (.loc 0) 0)(t16:Pv.get 16 t= .int .i64 mid)(t17:Pv.get 17 t= .int .i64 ((mid:Int)+m))(t18:Pv.get 18 t= .int .i64 s0)(t19:Pv.get 19 t= .int .i64 r0)(av:l.length=n)(bA:a<m∧m<b∧mid=(a+b)/2)(J:mid<m∧s0=mid+m-b∧r0=mid∨m≤mid∧s0=a∧r0=m)(ad:b≤n)(aP:b-a≤d+1)(km:e4 lt a m l)(o2:e4 lt m b l)(hU:DH S g b8 lc b3 lt a b l Q):
  cW al (cV (S l)) HN Q ⟨t,bb,(S l).e,1,o⟩:=by
 have hle:=H.le;unfold HN;simp[t17];(with_reducible repeat' first|refine aj ?_|simp[t17]);refine n1 (fun(x:Nat×Nat)=>⟨[(1,.int .i64 a),(2,.int .i64 m),(3,.int .i64 b),(4,.ptr (.loc 0) 0),(16,.int .i64 mid),(17,.int .i64 (mid+m)),(20,.int .i64 (mid+m-1)),(18,.int .i64 x.1),(19,.int .i64 x.2)],(.loc 0,[.func g lc,.func b8 b3])::(S l).b,(S l).e,1,cV (S l)⟩) (fun x=>x.2-x.1)
  (akx lt l mid m s0 r0) (s0,r0) (H.weak av av (by simp[aB,t1,t2,t3,t4,t16,t17,t18,t19]) vh cL fun _ _ h=>h) ⟨by simp,by simp;omega,by simp,.inl rfl,.inl rfl⟩ ?_
 rintro⟨i,j⟩ ⟨aU,bG,b9,eV,dd⟩ _;simp only at aU bG b9 eV dd;have og:=EA i j (by omega);by_cases lP:i<j
 ·simp[lP];(with_reducible repeat' first|refine aj ?_|simp[Pv.look]);obtain⟨c,au⟩:∃c,c=(i+j)/2:=⟨_,rfl⟩;rw[←au]at og;simp only[og];(with_reducible repeat' first|refine aj ?_|simp[Pv.look]);obtain⟨u,JE⟩:∃u,l[c]? =some u:=⟨_,cf (by omega)⟩;obtain⟨v,JF⟩:∃v,l[mid+m-1-c]? =some v:=⟨_,cf (by omega)⟩;have dc:((mid:Int)+m-1-c)=(mid+m-1-c:Nat):=by omega
  simp only[H.slc,dc];refine H.doLess av (mid+m-1-c) c JF JE ?_;simp;cases ry:lt v u with
  |false=>simp;(with_reducible repeat' first|refine aj ?_|simp);refine bO.whl (c+1,j) (by simp;omega) ⟨by simp;omega,by simp;omega,b9,.inr ⟨u,v,by simpa using JE,?_,ry⟩,dd⟩ (H.weakC av av (by simp[aB]));simp only;rw[show mid+m-(c+1)=mid+m-1-c by omega];exact JF
  |true=>simp;(with_reducible repeat' first|refine aj ?_|simp);refine bO.whl (i,c) (by simp;omega) ⟨aU,by simp;omega,by simp;omega,eV,.inr ⟨u,v,JE,?_,ry⟩⟩ (H.weakC av av (by simp[aB]));simp only;rw[show mid+m-c-1=mid+m-1-c by omega];exact JF
 ·obtain rfl:i=j:=by omega
  obtain⟨e,he⟩:∃e,e=mid+m-i:=⟨_,rfl⟩;have gV:((mid:Int)+m-i)=(e:Nat):=by omega
  have bH:i=a∨e=b∨ ∃x y,l[i-1]? =some x∧l[e]? =some y∧lt y x=false:=by
   rcases eV with eV|⟨u,v,a6,bE,bX⟩
   ·omega
   ·exact .inr (.inr ⟨u,v,a6,by rw[he];exact bE,bX⟩)
  have cl:i=m∨e=m∨ ∃x y,l[i]? =some x∧l[e-1]? =some y∧lt y x=true:=by
   rcases dd with dd|⟨u,v,a6,bE,bX⟩
   ·omega
   ·exact .inr (.inr ⟨u,v,a6,by rw[he];exact bE,bX⟩)
  simp[lP];(with_reducible repeat' first|refine aj ?_|simp);rw[gV];exact akd H bU (a:=a) (m:=m) (b:=b) (mid:=mid) (i:=i) (e:=e) (by simp) (by simp) (by simp) (by simp) (by simp) (by simp) (by simp) av (by omega) (by omega) (by omega) ad (by omega) (by omega) (fun lk aK=>afX bD (by omega) (by omega) (by omega) (by omega) (by omega) (by omega) km o2 bH cl aK) hU
end
theorem QT(H:eW S n g b8 lc b3 lt)(bD:p9 lt)(d:Nat):∀(l:List α) (a m b:Nat),l.length=n→b-a≤d→a<m→m<b→b≤n→e4 lt a m l→e4 lt m b l→
  bN al 232 [eN g b8 lc b3,.int .i64 a,.int .i64 m,.int .i64 b] (S l) fun r ai=>r= .tuple []∧∃aZ,ai=S aZ∧gk a b l aZ∧e4 lt a b aZ:=by
 induction d with
 |zero=>intro l a m b av aP Bv o0;omega
 |succ d bU=>
 intro l a m b av aP Bv o0 ad km o2;have ag:=H.ok l;have aA:∀l m,Pv.look (.loc m) (S l).b=none:=fun l=>(H.ok l).obj.1;have hu:∀l m cs,cA (.loc m) cs (S l).b=(S l).b++[(.loc m,cs)]:=fun l m cs=>jT (aA l m);have ax:∀m,aH.loc m∉cV (S l):=jO ag.obj;have hle:=H.le;refine bN.mk mixed Az abe ahK (by simp) ag.obj fun aQ cL=>?_;unfold OZ;simp[eN,hu,ax,cJ,aA];(with_reducible repeat' first|((first|apply bL|apply bQ|apply bP)<;>intro h<;>try simp at h)|refine aj ?_|simp[hu,ax,cJ,aA])
 ·obtain rfl:m=a+1:=by omega
  have Js:∀k,hQ a (a+1) (a+1) k=k:=by
   intro k;simp only[hQ];repeat' split
   all_goals omega
  obtain⟨z,bp⟩:∃z,l[a]? =some z:=⟨_,cf (by omega)⟩;refine n1 (fun(x:Nat×Nat)=>⟨[(1,.int .i64 a),(4,.ptr (.loc 0) 0),(8,.int .i64 x.1),(9,.int .i64 x.2)],(.loc 0,[.func g lc,.func b8 b3])::(S l).b,(S l).e,1,cV (S l)⟩) (fun x=>x.2-x.1)
   (fun x=>a+1≤x.1∧x.1≤x.2∧x.2≤b∧(∀h y,a+1≤h→h<x.1→l[h]? =some y→lt y z=true)∧(∀h y,x.2≤h→h<b→l[h]? =some y→lt y z=false)) (a+1,b)
   (H.weak av av (by simp[aB]) (by simp[cJ,aA]) aR aR) ⟨by simp,by simp;omega,by simp,fun h y J U=>by simp at U;omega,fun h y J U=>by simp at J;omega⟩ ?_
  rintro⟨i,j⟩ ⟨aU,bG,b9,eV,dd⟩ _;simp only at aU bG b9 eV dd;have hw:=EA i j (by omega);simp[Pv.look];(with_reducible repeat' first|((first|apply bL|apply bQ|apply bP)<;>intro h<;>try simp at h)|refine aj ?_|simp[Pv.look])
  ·obtain⟨c,au⟩:∃c,c=(i+j)/2:=⟨_,rfl⟩;rw[←au]at hw;obtain⟨y,aL⟩:∃y,l[c]? =some y:=⟨_,cf (by omega)⟩;simp only[hw,H.slc];refine H.doLess av c a aL bp ?_;simp;cases ry:lt y z with
   |true=>
    simp;(with_reducible repeat' first|refine aj ?_|simp);refine bO.whl (c+1,j) (by simp;omega) ⟨by simp;omega,by simp;omega,b9,fun h u J U hu=>?_,dd⟩ (H.weakC av av (by simp[aB]));cases e:lt u z with
    |true=>rfl
    |false=>simp only at U;have:=bD.ntr _ _ _ e (e4.le bD o2 J (by omega) (by omega) hu aL);rw[ry]at this;cases this
   |false=>simp;(with_reducible repeat' first|refine aj ?_|simp);refine bO.whl (i,c) (by simp;omega) ⟨aU,by simp;omega,by simp;omega,eV,fun h u J U hu=>?_⟩ (H.weakC av av (by simp[aB]));exact bD.ntr _ _ _ ry (e4.le bD o2 (by omega) J U aL hu)
  ·obtain rfl:i=j:=by omega
   refine n1 (fun(x:Nat×List α)=>⟨[(4,.ptr (.loc 0) 0),(8,.int .i64 i),(11,.int .i64 x.1)],(.loc 0,[.func g lc,.func b8 b3])::(S x.2).b,(S x.2).e,1,cV (S l)⟩) (fun x=>i-x.1)
    (fun x=>x.2.length=n∧a≤x.1∧x.1<i∧gk a b l x.2∧∀k,x.2[k]? =l[hQ a (a+1) (x.1+1) k]?) (a,l)
    (H.weakC av av (by simp[aB])) ⟨av,by simp,by simp;omega,.refl _,fun k=>by simp[Js]⟩ ?_
   rintro⟨k,lk⟩ ⟨a6,bE,bX,cX,c8⟩ _;simp only at a6 bE bX cX c8;simp[Pv.look];((with_reducible repeat' first|refine aj ?_|simp[Pv.look]|((first|apply bL|apply bQ|apply bP)<;>intro h<;>try simp at h))<;>(try exact cq))
   ·have bk:((k:Int)+1)=(k+1:Nat):=by omega
    rw[H.ssc,bk];refine H.doSwap a6 k (k+1) (by omega) (by omega) (by omega) ?_;simp;(with_reducible repeat' first|((first|apply bL|apply bQ|apply bP)<;>intro h<;>try simp at h)|refine aj ?_|simp);refine bO.whl (k+1,gY lk k (k+1)) (by simp;omega) ⟨by simp[a6],by simp;omega,by simp;omega,.step cX (by omega) (by omega) (by omega) (by omega) (by omega) (by omega),fun t=>?_⟩ (H.weakC av (by simp[a6]) (by simp[aB]));rw[zF _ _ _ _ (by omega) (by omega),c8,c8,c8];have:hQ a (a+1) (k+1+1) t=if t=k then hQ a (a+1) (k+1) (k+1)else if t=k+1 then hQ a (a+1) (k+1) k else hQ a (a+1) (k+1) t:=by
     simp only[hQ];repeat' split
     all_goals omega
    rw[this];split
    ·rfl
    ·split<;>rfl
   ·obtain rfl:i=k+1:=by omega
    refine H.ret av a6 (.inl rfl) ⟨rfl,lk,rfl,cX,afN bD (by omega) b9 (by omega) o2 bp eV dd c8⟩
 ·obtain rfl:b=m+1:=by omega
  have Js:∀k,hQ m m (m+1) k=k:=by
   intro k;simp only[hQ];repeat' split
   all_goals omega
  obtain⟨z,bp⟩:∃z,l[m]? =some z:=⟨_,cf (by omega)⟩;refine n1 (fun(x:Nat×Nat)=>⟨[(2,.int .i64 m),(4,.ptr (.loc 0) 0),(12,.int .i64 x.1),(13,.int .i64 x.2)],(.loc 0,[.func g lc,.func b8 b3])::(S l).b,(S l).e,1,cV (S l)⟩) (fun x=>x.2-x.1)
   (fun x=>a≤x.1∧x.1≤x.2∧x.2≤m∧(∀h y,a≤h→h<x.1→l[h]? =some y→lt z y=false)∧(∀h y,x.2≤h→h<m→l[h]? =some y→lt z y=true)) (a,m)
   (H.weak av av (by simp[aB]) (by simp[cJ,aA]) aR aR) ⟨by simp,by simp;omega,by simp,fun h y J U=>by simp at U;omega,fun h y J U=>by simp at J;omega⟩ ?_
  rintro⟨i,j⟩ ⟨aU,bG,b9,eV,dd⟩ _;simp only at aU bG b9 eV dd;have hw:=EA i j (by omega);simp[Pv.look];(with_reducible repeat' first|((first|apply bL|apply bQ|apply bP)<;>intro h<;>try simp at h)|refine aj ?_|simp[Pv.look])
  ·obtain⟨c,au⟩:∃c,c=(i+j)/2:=⟨_,rfl⟩;rw[←au]at hw;obtain⟨y,aL⟩:∃y,l[c]? =some y:=⟨_,cf (by omega)⟩;simp only[hw,H.slc];refine H.doLess av m c bp aL ?_;simp;cases ry:lt z y with
   |false=>simp;((with_reducible repeat' first|refine aj ?_|simp|((first|apply bL|apply bQ|apply bP)<;>intro h<;>try simp at h))<;>(try exact cq));refine bO.whl (c+1,j) (by simp;omega) ⟨by simp;omega,by simp;omega,b9,fun h u J U hu=>?_,dd⟩ (H.weakC av av (by simp[aB]));simp only at U;exact bD.ntr _ _ _ (e4.le bD km J (by omega) (by omega) hu aL) ry
   |true=>
    simp;((with_reducible repeat' first|refine aj ?_|simp|((first|apply bL|apply bQ|apply bP)<;>intro h<;>try simp at h))<;>(try exact cq));refine bO.whl (i,c) (by simp;omega) ⟨aU,by simp;omega,by simp;omega,eV,fun h u J U hu=>?_⟩ (H.weakC av av (by simp[aB]));cases e:lt z u with
    |true=>rfl
    |false=>have:=bD.ntr _ _ _ (e4.le bD km (by omega) J U aL hu) e;rw[ry]at this;cases this
  ·obtain rfl:i=j:=by omega
   refine n1 (fun(x:Nat×List α)=>⟨[(4,.ptr (.loc 0) 0),(12,.int .i64 i),(15,.int .i64 x.1)],(.loc 0,[.func g lc,.func b8 b3])::(S x.2).b,(S x.2).e,1,cV (S l)⟩) (fun x=>x.1)
    (fun x=>x.2.length=n∧i≤x.1∧x.1≤m∧gk a (m+1) l x.2∧∀k,x.2[k]? =l[hQ x.1 m (m+1) k]?) (m,l)
    (H.weakC av av (by simp[aB])) ⟨av,by simp;omega,by simp,.refl _,fun k=>by simp[Js]⟩ ?_
   rintro⟨k,lk⟩ ⟨a6,bE,bX,cX,c8⟩ _;simp only at a6 bE bX cX c8;simp[Pv.look];((with_reducible repeat' first|refine aj ?_|simp[Pv.look]|((first|apply bL|apply bQ|apply bP)<;>intro h<;>try simp at h))<;>(try exact cq))
   ·have bk:((k:Int)-1)=(k-1:Nat):=by omega
    rw[H.ssc,bk];refine H.doSwap a6 k (k-1) (by omega) (by omega) (by omega) ?_;simp;(with_reducible repeat' first|refine aj ?_|simp);refine bO.whl (k-1,gY lk k (k-1)) (by simp;omega) ⟨by simp[a6],by simp;omega,by simp;omega,.step cX (by omega) (by omega) (by omega) (by omega) (by omega) (by omega),fun t=>?_⟩ (H.weakC av (by simp[a6]) (by simp[aB];omega));rw[zF _ _ _ _ (by omega) (by omega),c8,c8,c8];have:hQ (k-1) m (m+1) t=if t=k then hQ k m (m+1) (k-1)else if t=k-1 then hQ k m (m+1) k else hQ k m (m+1) t:=by
     simp only[hQ];repeat' split
     all_goals omega
    rw[this];split
    ·rfl
    ·split<;>rfl
   ·obtain rfl:i=k:=by omega
    refine H.ret av a6 (.inl rfl) ⟨rfl,lk,rfl,cX,afO bD (by omega) b9 (by omega) km bp eV dd c8⟩
 ·obtain⟨mid,Jg⟩:∃mid,mid=(a+b)/2:=⟨_,rfl⟩;have hw:=EA a b (by omega);rw[←Jg]at hw;simp only[hw];(with_reducible repeat' first|((first|apply bL|apply bQ|apply bP)<;>intro h<;>try simp at h)|refine aj ?_|simp[hu,ax,cJ,aA])
  ·exact VH (s0:=mid+m-b) (r0:=mid) H (by simp[cJ,aA]) aR bD bU (a:=a) (m:=m) (b:=b) (mid:=mid) (by simp) (by simp) (by simp) (by simp) (by simp) (by simp) (by simp;omega) (by simp) av ⟨Bv,o0,Jg⟩ (by omega) ad aP km o2 fun gO t o a6 bE=>H.ret av (by rw[a6.length];exact av) (.inr rfl) ⟨rfl,gO,rfl,a6,bE⟩
  ·exact VH (s0:=a) (r0:=m) H (by simp[cJ,aA]) aR bD bU (a:=a) (m:=m) (b:=b) (mid:=mid) (by simp) (by simp) (by simp) (by simp) (by simp) (by simp) (by simp) (by simp) av ⟨Bv,o0,Jg⟩ (by omega) ad aP km o2 fun gO t o a6 bE=>H.ret av (by rw[a6.length];exact av) (.inr rfl) ⟨rfl,gO,rfl,a6,bE⟩
end Go.Proofs.YtahlgcidhnjlbaaGreat
namespace Go.Proofs.YtahlgcidhnjlbaaGreat
open Go Go.Pv
variable {α:Type} {S:List α→cK} {n g b8:Nat} {lc b3:List ah} {lt:α→α→Bool}
def oH(lt:α→α→Bool)(z a b:Nat)(l:List α):Prop:= ∀i j x y,a≤i→i<j→j<b→i/z=j/z→l[i]? =some x→l[j]? =some y→lt y x=false
theorem oH.snoc{z q:Nat}(bp:0<z){l aZ:List α}(h:oH lt z 0 (q*z) l){b:Nat}(ag:gk (q*z) b l aZ)(U:e4 lt (q*z) b aZ):oH lt z 0 b aZ:=by
 intro i j x y hi lP af aP ae aL;by_cases Rw:j<q*z
 ·rw[ag.out _ (.inl (by omega))]at ae;rw[ag.out _ (.inl Rw)]at aL;exact h i j x y hi lP Rw aP ae aL
 ·have ao:q≤j/z:=(Nat.le_div_iff_mul_le bp).2 (by omega);have ba:q*z≤i:=(Nat.le_div_iff_mul_le bp).1 (by omega);exact U i j x y ba lP af ae aL
theorem oH.srt{z q:Nat}(bp:0<z){l:List α}{a b:Nat}(h:oH lt z a b l){c:Nat}(anO:a≤q*z)(au:c≤(q+1)*z)(anQ:c≤b):e4 lt (q*z) c l:=by intro i j x y hi lP af ae aL;have hv:i/z=q:=Nat.div_eq_of_lt_le hi (by omega);have pE:j/z=q:=Nat.div_eq_of_lt_le (by omega) (by omega);exact h i j x y (by omega) lP (by omega) (by omega) ae aL
theorem oH.after{z a b bn b1:Nat}{l aZ:List α}(h:oH lt z a b l)(ag:gk a bn l aZ)(bt:a≤bn)(ad:b1≤b):oH lt z bn b1 aZ:=by intro i j x y hi lP af aP ae aL;rw[ag.out _ (.inr (by omega))]at ae;rw[ag.out _ (.inr (by omega))]at aL;exact h i j x y (by omega) lP (by omega) aP ae aL
theorem IL(H:eW S n g b8 lc b3 lt)(bD:p9 lt)(l:List α)(av:l.length=n):
  bN al 199 [eN g b8 lc b3,.int .i64 n] (S l) fun r ai=>r= .tuple []∧∃aZ,ai=S aZ∧gk 0 n l aZ∧e4 lt 0 n aZ:=by
 have ag:=H.ok l;have aA:∀l m,Pv.look (.loc m) (S l).b=none:=fun l=>(H.ok l).obj.1;have hu:∀l m cs,cA (.loc m) cs (S l).b=(S l).b++[(.loc m,cs)]:=fun l m cs=>jT (aA l m);have ax:∀m,aH.loc m∉cV (S l):=jO ag.obj;have hle:=H.le;refine bN.mk mixed Az abc ahI (by simp) ag.obj fun aQ cL=>?_;unfold OX;simp[eN,hu,ax,cJ,aA];refine n1 (fun(x:Nat×List α)=>⟨[(1,.int .i64 n),(2,.ptr (.loc 0) 0),(4,.int .i64 20),(5,.int .i64 (x.1*20)),(6,.int .i64 (x.1*20+20))],(.loc 0,[.func g lc,.func b8 b3])::(S x.2).b,(S x.2).e,1,cV (S l)⟩) (fun x=>n+20-x.1*20)
  (fun x=>x.2.length=n∧x.1*20≤n∧gk 0 n l x.2∧oH lt 20 0 (x.1*20) x.2) (0,l)
  (H.weak av av (by simp[aB]) (by simp[cJ,aA]) aR aR) ⟨av,by simp,.refl _,fun i j x y J U ao=>by simp at ao⟩ ?_
 rintro⟨q,lk⟩ ⟨J,U,ao,ba⟩ _;simp only at J U ao ba;simp[Pv.look];((with_reducible repeat' first|refine aj ?_|simp[Pv.look]|((first|apply bL|apply bQ|apply bP)<;>intro h<;>try simp at h))<;>(try exact cq))
 ·have ak:((q:Int)*20)=(q*20:Nat):=by omega
  have aC:((q:Int)*20+20)=(q*20+20:Nat):=by omega
  simp only[h9 H,H.slc,H.ssc,h4,aC];simp only[ak];refine H.doFn J (QM H bD lk J (q*20) (q*20+20) (by omega) (by omega)) (fun aZ h=>by rw[h.1.length];exact J) (by simp[aI,aB,H.kdata J]) ?_;rintro aZ ⟨cO,dp⟩;have sB:aZ.length=n:=by rw[cO.length];exact J
  simp;((with_reducible repeat' first|refine aj ?_|simp|((first|apply bL|apply bQ|apply bP)<;>intro h<;>try simp at h))<;>(try exact cq));refine bO.whl (q+1,aZ) (by simp;omega) ⟨sB,by simp;omega,ao.trans (cO.mono (by omega) (by omega)),?_⟩ (H.weakC av sB (by simp[aB];omega));have:=ba.snoc (by omega) cO dp;rwa[show q*20+20=(q+1)*20 by omega]at this
 ·have ak:((q:Int)*20)=(q*20:Nat):=by omega
  simp only[h9 H,H.slc,H.ssc,h4,ak];refine H.doFn J (QM H bD lk J (q*20) n (by omega) (by omega)) (fun aZ h=>by rw[h.1.length];exact J) (by simp[aI,aB,H.kdata J]) ?_;rintro aZ ⟨cO,dp⟩;have sB:aZ.length=n:=by rw[cO.length];exact J
  have e5:=ba.snoc (by omega) cO dp;simp;refine n1 (fun(x:Nat×List α)=>⟨[(1,.int .i64 n),(2,.ptr (.loc 0) 0),(4,.int .i64 x.1)],(.loc 0,[.func g lc,.func b8 b3])::(S x.2).b,(S x.2).e,1,cV (S l)⟩) (fun x=>1099511627776-x.1)
   (fun x=>x.2.length=n∧20≤x.1∧x.1≤2*n+20∧gk 0 n l x.2∧oH lt x.1 0 n x.2) (20,aZ)
   (H.weakC av sB (by simp[aB])) ⟨sB,by simp,by simp,ao.trans (cO.mono (by omega) (by omega)),e5⟩ ?_
  rintro⟨z,Tn⟩ ⟨kL,z2,z3,z4,z5⟩ _;simp only at kL z2 z3 z4 z5;simp[Pv.look];((with_reducible repeat' first|refine aj ?_|simp[Pv.look]|((first|apply bL|apply bQ|apply bP)<;>intro h<;>try simp at h))<;>(try exact cq))
  ·refine n1 (fun(x:Nat×List α)=>⟨[(1,.int .i64 n),(2,.ptr (.loc 0) 0),(4,.int .i64 z),(5,.int .i64 (x.1*(2*z):Nat)),(6,.int .i64 (x.1*(2*z)+2*z:Nat))],(.loc 0,[.func g lc,.func b8 b3])::(S x.2).b,(S x.2).e,1,cV (S l)⟩) (fun x=>n+2*z-x.1*(2*z))
    (fun x=>x.2.length=n∧x.1*(2*z)≤n∧gk 0 n l x.2∧oH lt (2*z) 0 (x.1*(2*z)) x.2∧oH lt z (x.1*(2*z)) n x.2) (0,Tn)
    (H.weakC av kL (by simp[aB])) ⟨kL,by simp,z4,fun i j x y J U ao=>by simp at ao,by simpa using z5⟩ ?_
   rintro⟨p,Ck⟩ ⟨ec,ds,oD,my,Dr⟩ _;simp only at ec ds oD my Dr;obtain⟨A,bg⟩:∃A,A=p*(2*z):=⟨_,rfl⟩;have Ew:A=(2*p)*z:=by rw[bg,Nat.mul_comm 2 p,Nat.mul_assoc]
   have IS:(2*p+1)*z=A+z:=by rw[pn,←Ew,Nat.one_mul]
   have acR:(2*p+2)*z=A+2*z:=by rw[pn,←Ew]
   have yX:(p+1)*(2*z)=A+2*z:=by rw[pn,←bg,Nat.one_mul]
   have km:∀c,c≤A+z→c≤n→e4 lt A c Ck:=fun c au y5=>by have:=oH.srt (q:=2*p) (by omega) Dr (c:=c) (by rw[←Ew,bg];omega) (by rw[IS];exact au) y5;rwa[←Ew]at this
   have o2:∀c,c≤A+2*z→c≤n→e4 lt (A+z) c Ck:=fun c au y5=>by have:=oH.srt (q:=2*p+1) (by omega) Dr (c:=c) (by rw[IS,bg];omega) (by rw[acR];exact au) y5;rwa[IS]at this
   rw[←bg]at ds my Dr;simp only[←bg];simp[Pv.look];((with_reducible repeat' first|refine aj ?_|simp[Pv.look]|((first|apply bL|apply bQ|apply bP)<;>intro h<;>try simp at h))<;>(try exact cq))
   ·have bk:((A:Int)+z)=(A+z:Nat):=by omega
    have dc:((A:Int)+2*z)=(A+2*z:Nat):=by omega
    simp only[h9 H,H.slc,H.ssc,h4,bk,dc];refine H.doFn ec (QT H bD (A+2*z-A) Ck A (A+z) (A+2*z) ec (by omega) (by omega) (by omega) (by omega) (km _ (by omega) (by omega)) (o2 _ (by omega) (by omega))) (fun aZ h=>by rw[h.1.length];exact ec) (by simp[aI,aB,H.kdata ec]) ?_;rintro gO ⟨kv,oE⟩;have nz:gO.length=n:=by rw[kv.length];exact ec
    simp;(with_reducible repeat' first|refine aj ?_|simp);refine bO.whl (p+1,gO) (by simp only[yX,←bg];omega) ⟨nz,by simp only[yX];omega,oD.trans (kv.mono (by omega) (by omega)),?_,?_⟩ ?_
    ·simp only[yX];rw[bg]at my kv oE;have:=my.snoc (by omega) kv oE;rwa[←bg]at this
    ·simp only[yX];exact Dr.after kv (by omega) (by omega)
    ·simp only[yX];have acS:((p:Int)+1)*(2*(z:Int))=(A:Int)+2*z:=by have h:=e2 (Nat.cast:Nat→Int) yX;push_cast at h;exact h
     exact H.weakC av nz (by simp[aB,acS])
   ·have bk:((A:Int)+z)=(A+z:Nat):=by omega
    simp only[h9 H,H.slc,H.ssc,h4,bk];refine H.doFn ec (QT H bD (n-A) Ck A (A+z) n ec (by omega) (by omega) (by omega) (by omega) (km _ (by omega) (by omega)) (o2 _ (by omega) (by omega))) (fun aZ h=>by rw[h.1.length];exact ec) (by simp[aI,aB,H.kdata ec]) ?_;rintro gO ⟨kv,oE⟩;have nz:gO.length=n:=by rw[kv.length];exact ec
    simp;((with_reducible repeat' first|refine aj ?_|simp|((first|apply bL|apply bQ|apply bP)<;>intro h<;>try simp at h))<;>(try exact cq));refine bO.whl (2*z,gO) (by simp;omega) ⟨nz,by simp;omega,by simp;omega,oD.trans (kv.mono (by omega) (by omega)),?_⟩ (H.weakC av nz (by simp[aB];omega));rw[bg]at my kv oE;exact my.snoc (by omega) kv oE
   ·refine bO.whl (2*z,Ck) (by simp;omega) ⟨ec,by simp;omega,by simp;omega,oD,?_⟩ (H.weakC av ec (by simp[aB];omega));have b2:=km n (by omega) (by omega);rw[bg]at my b2;exact my.snoc (by omega) (.refl _) b2
  ·refine H.ret av kL (.inr rfl) ?_;refine⟨rfl,Tn,rfl,z4,fun i j x y J U ao=>z5 i j x y J U ao ?_⟩;rw[Nat.div_eq_of_lt (by omega),Nat.div_eq_of_lt (by omega)]
end Go.Proofs.YtahlgcidhnjlbaaGreat
namespace Go.Proofs.YtahlgcidhnjlbaaGreat
open Go Go.Pv Go.Sort Go.RowKit
theorem ad5{w:World}{base:Nat}{e:fR}{sz:Nat}{v:Value}{n:Nat}{us:List Value}(h:w.ownsRow base e sz v n us)(aG:v≠ .slice none 0 0):
  ∃g cap,v= .slice (some ⟨g,0,none⟩) n cap∧g<w.heap.size∧cap≤maxLen∧n≤cap∧us.length=n*sz∧Holds id w g 0 us.toArray:=by
 rcases h.2 with⟨fl,_⟩|⟨g,cap,cur,rfl,ad,a1,aA,hm,ag,aO⟩
 ·exact absurd fl aG
 ·have bD:g<w.heap.size:=by
   rcases Nat.lt_or_ge g w.heap.size with ca|ca
   ·exact ca
   ·rw[Array.getElem?_eq_none ca]at a1;cases a1
  refine⟨g,cap,rfl,bD,hm,aA,h.1,fun j af=>?_⟩;have jh:j<us.length:=by simpa using af
  have av:=h.1;refine⟨?_,by simp[World.frozen?,a1]⟩;have ak:(cur.toList.take (n*sz))[j]? =us[j]?:=by rw[aO]
  rw[List.getElem?_take,if_pos (by omega),ti,cf jh]at ak;simp only[World.cell?,a1,Nat.zero_add];simp only[l0,gS,if_false];rw[ak];simp[getElem!_pos,jh]
theorem ain{w:World}{base:Nat}{e:fR}{sz g n cap q:Nat}{us:List Value}{F:Array Value}(h:w.ownsRow base e sz (.slice (some ⟨g,0,none⟩) n cap) n us)(gE:F.size=n*sz):
  (putRow id (Sort.ahead w q) g 0 F).ownsRow base e sz (.slice (some ⟨g,0,none⟩) n cap) n F.toList:=by
 rcases h.2 with⟨fl,_⟩|⟨fa,D6,cur,fl,ad,a1,aA,hm,ag,aO⟩
 ·cases fl
 ·injection fl with ak _ bk;injection ak with ak;injection ak with ak;subst ak;subst bk;refine⟨by simpa using gE,.inr ⟨g,cap,putCells id 0 F cur,rfl,ad,?_,aA,hm,by simpa[putCells]using ag,?_⟩⟩
  ·simp[putRow,mapBlock,Sort.ahead,Array.getElem?_modify,a1,onCells]
  ·have hle:n*sz≤cur.size:=by rw[ag];exact Nat.mul_le_mul_right _ aA
   apply List.ext_getElem?;intro j;rw[List.getElem?_take,ti,ti];by_cases af:j<n*sz
   ·have adB:j<cur.size:=by omega
    simp only[if_pos af,putCells,Array.getElem?_mapIdx,Array.getElem?_eq_getElem adB,nQ];rw[if_pos (by omega)];simp[getElem!_pos,show j<F.size by omega]
   ·simp[af];omega
end Go.Proofs.YtahlgcidhnjlbaaGreat
namespace Go.Pv
open Go Go.RowKit Go.Lib Go.Sort Go.Proofs.YtahlgcidhnjlbaaGreat
theorem SO{S:aH→Prop}:∀{l:List ah},aI S l↔∀x∈l,aB S x
 |[]=>by simp[aI]
 |x::r=>by simp only[aI,SO (l:=r),fY,forall_eq_or_imp]
theorem SG{α:Type}{s:cK}{l:List (aH×α)}:lU s l↔∀k,(look k l).isSome→inObs s k:=by
 refine⟨fun h k ab=>zz h k ab,fun h=>?_⟩;have:∀aZ:List (aH×α),(∀x∈aZ,inObs s x.1)→lU s aZ:=by
  intro aZ;induction aZ with
  |nil=>intro _;trivial
  |cons x r bU=>obtain⟨k,x⟩:=x;exact fun h=>⟨h (k,x) (by simp),bU fun y aL=>h y (by simp[aL])⟩
 exact this l fun x ae=>h x.1 (uq (x:=x.2) ae)
theorem Ly{w:World}{ν:bd}{sz:Nat}:∀{xs:List ah} {us:List Value} {i:Nat} {p:ah},dw w ν sz xs us→xs[i]? =some p→∃u,(us.drop (i*sz)).take sz=u.cells.toList∧a8 w ν p u∧u.cells.size=sz∧∀c∈u.cells.toList,c.oneCell'=true
 |[],_,_,_,_,bI=>by simp at bI
 |x::xs,us,0,p,h,bI=>by simp only[dw]at h;obtain⟨u,ck,rfl,⟨J,U,ao⟩,_⟩:=h;simp at bI;subst bI;refine⟨u,?_,J,U,ao⟩;simp only[Nat.zero_mul,List.drop_zero];rw[List.take_append_of_le_length (by simp[U])];exact hz (by simp[U])
 |x::xs,us,i+1,p,h,bI=>by simp only[dw]at h;obtain⟨u,ck,rfl,⟨J,U,ao⟩,b2⟩:=h;obtain⟨v,ak,aC⟩:=Ly (i:=i) b2 (by simpa using bI);refine⟨v,?_,aC⟩;rw[←ak,Nat.succ_mul,Nat.add_comm,←List.drop_drop];congr 2;rw[List.drop_append_of_le_length (by simp[U]),List.drop_of_length_le (by simp[U])];rfl
theorem LP:∀(bc:List Value) (s:Nat) (F:Array Value),s+bc.length≤F.size→(setMany F s bc).toList=F.toList.take s++bc++F.toList.drop (s+bc.length)
 |[],s,F,h=>by simp[setMany]
 |v::r,s,F,h=>by
  simp only[p6]at h;rw[setMany,LP r (s+1) _ (by simp;omega)];have bD:s<F.toList.length:=by simp;omega
  have ak:(F.setIfInBounds s v).toList=F.toList.set s v:=by simp
  rw[ak];have aC:(F.toList.set s v).take (s+1)=F.toList.take s++[v]:=by rw[List.take_succ,List.getElem?_set_self bD,List.take_set_of_le (eR _)];simp
  have bk:(F.toList.set s v).drop (s+1+r.length)=F.toList.drop (s+(v::r).length):=by rw[List.drop_set_of_lt (by omega)];congr 1;simp;omega
  rw[aC,bk];simp
theorem Xu(w:World):Sort.ahead w 0=w:=by simp[Sort.ahead]
theorem QS{P:cD}(w2:Bool)(b8:Nat)(ae:∀args W,(callFunc b8 args).run P W=((Dw w2 args).run P W).andThen fun v w'=>.ok (.value v) w')(e:fR)(ej:TypeInfo)(sy:P.info? e=some ej)(w6:(∀w,(Go.isAgg e).run P w= .ok true w)∨(ej.size=1∧∀w,(Go.isAgg e).run P w= .ok false w)){s:cK}(ag:ed s){K n el sz:Nat}(dX:ej.size=sz){xs:List ah}(ab:look (.obj K) s.e=some ⟨n,el,sz,some xs⟩)
  (i j:Nat) (hi:i<n) (af:j<n):bN P b8 [.int .i64 i,.int .i64 j,.row sz (.obj K) n,.cst (typeHandle P e)] s fun r ai=>r= .tuple []∧ai=⟨s.b,cA (.obj K) ⟨n,el,sz,some (gY xs i j)⟩ s.e⟩:=by
 subst dX;refine bN.sem ag.obj fun w ν bc kG aK=>?_;right;have s0:=aK.slot 0;have s1:=aK.slot 1;have s2:=aK.slot 2;have s3:=aK.slot 3;simp[j6,get,a8]at s0 s1 s2 s3;obtain⟨v,us,a6,bE,bX,cX⟩:=aK.good.own (.obj K) _ ab;obtain⟨c8,nG,uB⟩:=cX _ rfl;simp only at c8 nG a6 bE;obtain⟨⟨g0,XZ,vh⟩,_,n',e1,ak,aC,bk⟩:=s2;rw[a6]at ak;simp only[dG,jm]at ak;obtain⟨rfl,rfl⟩:=ak;have aG:=bk rfl;have cF:v≠ .slice none 0 0:=by rw[←aG,vh];simp
 obtain⟨g,cap,rfl,qq,rf,adt,BB,Bq⟩:=ad5 bE cF;have aev:bc= #[.int .i64 i,.int .i64 j,.slice (some ⟨g,0,none⟩) n cap,typeHandle P e]:=by
  have J:bc.size=4:=by simpa using kG
  apply Array.ext (by simpa using J);intro t U ao;simp at ao;rcases(by omega:t=0∨t=1∨t=2∨t=3)with rfl|rfl|rfl|rfl
  ·simpa[Array.getD,J]using s0
  ·simpa[Array.getD,J]using s1
  ·simpa[Array.getD,J]using aG
  ·simpa[Array.getD,J]using s3
 subst aev;obtain⟨p,bI⟩:∃p,xs[i]? =some p:=⟨_,cf (by omega)⟩;obtain⟨q,br⟩:∃q,xs[j]? =some q:=⟨_,cf (by omega)⟩;obtain⟨u,iL,jl,pZ,yj⟩:=Ly nG bI;obtain⟨x,r2,ym,r3,GX⟩:=Ly nG br;have RH:i*ej.size+ej.size≤n*ej.size:=by have:=Nat.mul_le_mul_right ej.size (show i+1≤n from hi);rwa[pn,Nat.one_mul]at this
 have RI:j*ej.size+ej.size≤n*ej.size:=by have:=Nat.mul_le_mul_right ej.size (show j+1≤n from af);rwa[pn,Nat.one_mul]at this
 have cell:∀t v,us[t]? =some v→w.cell? ⟨g,t,none⟩=some v:=fun t v aO=>by obtain⟨J,U⟩:=fi.1 aO;have:=(Bq t (by simpa using J)).1;simp at this;rw[this];simp[getElem!_pos,J,U]
 have Ep:∀t,t<n*ej.size→w.frozen? ⟨g,t,none⟩=false:=fun t aO=>by have:=(Bq t (by simpa[BB]using aO)).2;simpa using this
 have run:(Dw w2 #[.int .i64 i,.int .i64 j,.slice (some ⟨g,0,none⟩) n cap,typeHandle P e]).run P w= .ok (.tuple #[]) ((w.setCells g (0+i*ej.size) x.cells.toList).setCells g (0+j*ej.size) u.cells.toList):=by
  rcases w6 with w6|⟨Eu,w6⟩
  ·exact run_swap_cells (P:=P) w2 e ej sy w6 g 0 n cap i j hi af u.cells.toList x.cells.toList (by simp[pZ]) (by simp[r3]) yj GX w
     (fun k v aG=>by
      rw[←iL,List.getElem?_take]at aG;split at aG
      ·rw[List.getElem?_drop]at aG;simpa using cell _ _ aG
      ·cases aG)
     (fun k v aG=>by
      rw[←r2,List.getElem?_take]at aG;split at aG
      ·rw[List.getElem?_drop]at aG;simpa using cell _ _ aG
      ·cases aG)
     (fun k ab=>by simpa using Ep (i*ej.size+k) (by omega)) (fun k ab=>by simpa using Ep (j*ej.size+k) (by omega))
  ·rw[Eu]at iL pZ r2 r3⊢;obtain⟨Ea,I1⟩:∃c,u.cells.toList=[c]:=List.length_eq_one_iff.1 (by simpa using pZ);obtain⟨oP,lj⟩:∃c,x.cells.toList=[c]:=List.length_eq_one_iff.1 (by simpa using r3);rw[I1]at iL yj⊢;rw[lj]at r2 GX⊢;simp only[World.setCells,Nat.mul_one]at iL r2⊢;have QV:us[i]? =some Ea:=by have:=e2 (·[0]?) iL;simpa using this
   have QX:us[j]? =some oP:=by have:=e2 (·[0]?) r2;simpa using this
   have:=run_swap_one (P:=P) w2 e ej sy Eu w6 g 0 n cap i j hi af Ea oP (yj Ea (by simp)) (GX oP (by simp)) w (by simpa using cell i Ea QV) (by simpa using cell j oP QX) (by simpa using Ep i (by rw[Eu];omega)) (by simpa using Ep j (by rw[Eu];omega));simpa using this
 have aex:putRow id w g 0 us.toArray=w:=putRow_self id w g 0 _ Bq;have aeo:us.toArray.size=n*ej.size:=by simpa using BB
 have E1:w.setCells g (0+i*ej.size) x.cells.toList=putRow id w g 0 (setMany us.toArray (i*ej.size) x.cells.toList):=by have J:=setCells_putRow w g 0 x.cells.toList (i*ej.size) us.toArray (by simp[r3,BB];exact RH);rw[aex]at J;exact J
 obtain⟨h0,mL⟩:∃h0,h0=setMany us.toArray (i*ej.size) x.cells.toList:=⟨_,rfl⟩;have acX:h0.toList=us.take (i*ej.size)++x.cells.toList++us.drop (i*ej.size+ej.size):=by rw[mL,LP _ _ _ (by simp[r3,BB];exact RH)];simp[r3]
 have IU:h0.size=n*ej.size:=by rw[mL,size_setMany];exact aeo
 have og:(w.setCells g (0+i*ej.size) x.cells.toList).setCells g (0+j*ej.size) u.cells.toList=putRow id w g 0 (setMany h0 (j*ej.size) u.cells.toList):=by rw[E1,←mL,setCells_putRow w g 0 u.cells.toList (j*ej.size) h0 (by simp[pZ,IU];exact RI)]
 obtain⟨ia,Bp⟩:∃ia,ia=setMany h0 (j*ej.size) u.cells.toList:=⟨_,rfl⟩;have acY:ia.toList=h0.toList.take (j*ej.size)++u.cells.toList++h0.toList.drop (j*ej.size+ej.size):=by rw[Bp,LP _ _ _ (by simp[pZ,IU];exact RI)];simp[pZ]
 have acZ:ia.size=n*ej.size:=by rw[Bp,size_setMany];exact IU
 have dH:=Gj nG bI ym r3 GX;rw[←acX]at dH;have e8:=Gj (i:=j) (q:=q) dH (by rw[List.getElem?_set];split;(rename_i e;subst e;rw[if_pos (by omega)]);exact br) jl pZ yj;rw[←acY]at e8;have BY:(xs.set i q).set j p=gY xs i j:=by simp[gY,bI,br]
 rw[BY]at e8;have hlen:(gY xs i j).length=n:=by simpa using c8
 have lp:=ain (q:=0) (F:=ia) bE acZ;rw[Xu]at lp;obtain⟨kv,oE,_⟩:=aK.setRowM (w':=putRow id w g 0 ia) ab rfl a6 (bl:=g) rfl (v':= .slice (some ⟨g,0,none⟩) n cap) rfl (xs':=gY xs i j) (us:=ia.toList) (.inl ⟨hlen,rfl⟩) rfl rfl rfl
  (fun t aO=>by simp[putRow,mapBlock,Array.getElem?_modify,kN aO]) (by simp[putRow,mapBlock]) (by rw[hlen];exact lp) e8
 refine⟨.tuple #[],putRow id w g 0 ia,?_,?_⟩
 ·rw[ae,run,og,←Bp];rfl
 ·have jg:∀k,inObs ⟨s.b,cA (.obj K) ⟨n,el,ej.size,some (gY xs i j)⟩ s.e⟩ k↔inObs s k:=fun k=>by
   unfold inObs;simp only[iH];by_cases c1:aH.obj K=k
   ·subst c1;simp[ab]
   ·simp[c1]
  refine⟨_,_,_,_,.tuple [],⟨s.b,cA (.obj K) ⟨n,el,ej.size,some (gY xs i j)⟩ s.e⟩,rfl,kv,by simp[a8,cP],SG.2 fun k ny=>(jg k).2 (.inl ny),SG.2 fun k ny=>(jg k).2 (.inr ny),fun k cs au=>⟨au,(jg k).2 (.inl (by simp at au;simp[au])),jM (fun k h=>(jg k).2 h) _ (ag.kb k cs au)⟩,fun k o ax=>⟨by simpa[hlen]using ax,?_,fun ys aL=>?_⟩,⟨ag.obj.1,fun m=>?_⟩,by simp[aB,aI],rfl,rfl⟩
  ·exact(.inr (by simp at ax;simp[ax]))
  ·simp only[iH]at ax;split at ax
   ·cases ax;simp only[dG]at aL;subst aL;have RB:=ag.ke _ _ ab xs rfl;refine jM (fun k h=>(jg k).2 h) _ ?_;rw[SO]at RB⊢;exact fun z bp=>RB z ((Tm xs i j).mem_iff.1 bp)
   ·exact jM (fun k h=>(jg k).2 h) _ (ag.ke k o ax ys aL)
  ·simp only[iH];simp[ag.obj.2 m]
theorem QR{P:cD}(w2:Bool)(b8:Nat)(ae:∀args W,(callFunc b8 args).run P W=((Dw w2 args).run P W).andThen fun v w'=>.ok (.value v) w')(e:fR)(ej:TypeInfo)(sy:P.info? e=some ej)(w6:∀w,(Go.isAgg e).run P w= .ok true w){s:cK}(ag:ed s){K n el sz:Nat}(dX:ej.size=sz){xs:List ah}(ab:look (.obj K) s.e=some ⟨n,el,sz,some xs⟩)
  (i j:Nat) (hi:i<n) (af:j<n):bN P b8 [.int .i64 i,.int .i64 j,.row sz (.obj K) n,.cst (typeHandle P e)] s fun r ai=>r= .tuple []∧ai=⟨s.b,cA (.obj K) ⟨n,el,sz,some (gY xs i j)⟩ s.e⟩:=QS w2 b8 ae e ej sy (.inl w6) ag dX ab i j hi af
end Go.Pv
namespace Go.Proofs.YtahlgcidhnjlbaaGreat
open Go Go.RowKit Go.Lib Go.Sort Go.Pv
set_option maxRecDepth 100000 in
theorem aj6(t e:fR)(i ej:TypeInfo)(hi:al.info? t=some i)(aP:i.desc= .slice e)(BR:al.packed t=false)(sy:al.info? e=some ej)(ke:Nat)(tX:∀w,(WZ e).run al w= .ok ke w)
  (p:aY Addr) (n c:Nat) (aA:n<4611686018427387904) (f:Nat) (aJ:al.funcs.findIdx? (·.name== "internal/reflectlite" ++ ".Swapper$" ++toString (swapperK n ej ke))=some f) (Ti:Fn) (J4 qz:Array Value) (w:World) (R:World→Prop)
  (bI:Calls al 199 #[.agg #[.func Ti J4 qz,.func (.func f) #[] (sliceBound al e ej ke p n c)],.int .i64 n] ((w.alloc (.cells #[.slice p n c] t)).alloc (.cells #[typeHandle al t,.pointer (some ⟨w.heap.size,0,none⟩),.int .u64 151] 179)) fun e w'=>e= .returned (.tuple #[])∧R w'):
  Calls al 140 #[.iface t (.slice p n c),.func Ti J4 qz] w fun e w'=>e= .returned (.tuple #[])∧R w':=by
 have aG:=run_valueOf_slice (P:=al) t e i hi aP p n c w;have ag:=fun w=>run_swapper_slice (P:=al) t e i ej hi aP sy ke tX p n c f aJ w;have av:=fun a w bt=>run_valueLen_slice (P:=al) t e i hi aP BR a p n c w bt;unfold sliceBound at bI;generalize (if swapperK n ej ke≤2 then(#[]:Array Value)else #[.slice p n c,typeHandle al e])=B at ag bI;have adw:al.globals.size=0:=by kernel_rfl
 simp only[typeHandle,adw]at aG av bI;have Ed:∀args w,(callFunc 199 args).run al w= .ok (.enter 199 args) w:=enters_of Tryz.func199 (by kernel_rfl) rfl;go_enter Tryz.func140,Tryz.ntmps140;go_wp2;rw[run_callFunc_extern Tryz.func197 (by kernel_rfl) (by kernel_rfl) (by kernel_rfl) (e:=fun args=>amn (args.getD 0 (.tuple #[]))) (by kernel_rfl),
  show Sem.run al ((fun args:Array Value=>amn (args.getD 0 (.tuple #[]))) #[.iface t (.slice p n c)]) w=_ from aG]
 simp only[Result.andThen];rw[Oper.upon_value];go_wp2;rw[run_callFunc_extern Tryz.func198 (by kernel_rfl) (by kernel_rfl) (by kernel_rfl) (e:=arH "internal/reflectlite" (amo "Swapper")) (by kernel_rfl),ag];simp only[Result.andThen];rw[Oper.upon_value];go_wp2;rw[run_callFunc_extern Tryz.func200 (by kernel_rfl) (by kernel_rfl) (by kernel_rfl) (e:=arJ (amo "reflectlite.Value.Len" 0) arI) (by kernel_rfl),
  av _ _ (by simp)]
 simp only[Result.andThen];rw[Oper.upon_value];go_wp2_with (go_at_fn 199;refine bI.mono ?_;rintro e w' ⟨rfl,bf⟩);go_end0;exact⟨rfl,bf⟩
theorem _root_.Go.Pv.Good.prMono{pr CM:Nat→Prop}{w:World}{ν:bd}{b:List (aH×List ah)}{e:List (aH×fK)}(h:Pv.Good pr w ν b e)(bI:∀bl,pr bl→fw ν ⟨b,e⟩ bl→CM bl):Pv.Good CM w ν b e:=by
 refine⟨h.alt,fun k cs ab=>?_,h.inj,fun g o a1=>?_,h.oinj,h.obx,h.one,h.otr⟩
 ·obtain⟨bl,us,el,f1,f2,f3⟩:=h.box k cs ab;exact⟨bl,us,el,f1,bI bl f2 (.inl ⟨k,by simp[ab],f1⟩),f3⟩
 ·obtain⟨v,us,f1,f2,f3,f4⟩:=h.own g o a1;exact⟨v,us,f1,f2,fun bl ad=>⟨bI bl (f3 bl ad).1 (.inr ⟨g,o.n,v,by simp[a1],f1,ad⟩),(f3 bl ad).2⟩,f4⟩
theorem QY(w:World)(gP gG:Obj):w.grownBy ((w.alloc gP).alloc gG) none:=by
 have J:w.heap.size≤(w.alloc gP).heap.size:=by simp
 have U:(w.alloc gP).heap.size≤((w.alloc gP).alloc gG).heap.size:=by simp
 exact⟨rfl,rfl,rfl,j8 J U,fun k ab _=>(Below.heap_alloc _ gG k (Nat.lt_of_lt_of_le ab J)).trans (Below.heap_alloc w gP k ab)⟩
def dQ{α:Type}(e:α→ah)(K B el sz:Nat)(l:List α):cK:=⟨[(.obj B,[.row sz (.obj K) l.length])],[(.obj K,⟨l.length,el,sz,some (l.map e)⟩)]⟩
section
variable {α:Type} {e:α→ah} (he:∀S x,aB S (e x)) {K B el sz:Nat}
include he
theorem aff(S:aH→Prop)(l:List α):aI S (l.map e):=by
 induction l with
 |nil=>simp[aI]
 |cons x r bU=>simp only[hf,aI];exact⟨he S x,bU⟩
theorem wH(l:List α):ed (dQ e K B el sz l):=by unfold dQ;refine ed.of ⟨by intro m;simp[Pv.look],by intro m;simp[Pv.look]⟩ (by simp[aI,aB,inObs,Pv.look]) ?_;intro x ae xs h7;simp at ae;subst ae;simp at h7;subst h7;exact aff he _ l
omit he in
theorem wI(l aZ:List α):Same (dQ e K B el sz l) (dQ e K B el sz aZ):=by
 refine⟨fun k=>?_,fun k=>?_⟩
 ·simp only[dQ,Pv.look];split<;>rfl
 ·simp only[dQ,Pv.look];split<;>rfl
theorem ab9(t:fR)(i ej:TypeInfo)(hi:al.info? t=some i)(aP:i.desc= .slice el)(BR:al.packed t=false)(sy:al.info? el=some ej)(ke:Nat)(tX:∀w,(WZ el).run al w= .ok ke w)(sr:∀n,2≤n→swapperK n ej ke=9)
  (g:Nat) (lt:α→α→Bool) (bD:p9 lt) (l:List α) (av:l.length≤68719476736)
  (xk:∀aZ:List α,aZ.length=l.length→∀(i j:Nat) x y,aZ[i]? =some x→aZ[j]? =some y→bN al g [.int .i64 i,.int .i64 j,.ptr (.obj B) 0] (dQ e K B el sz aZ) fun r ai=>r= .bool (lt x y)∧ai=dQ e K B el sz aZ)
  (zo:∀aZ:List α,aZ.length=l.length→∀i j:Nat,i<l.length→j<l.length→bN al 230 [.int .i64 i,.int .i64 j,.row sz (.obj K) l.length,.cst (typeHandle al el)] (dQ e K B el sz aZ) fun r ai=>r= .tuple []∧ai=dQ e K B el sz (gY aZ i j)):
  bN al 140 [.iface t (.row sz (.obj K) l.length),.func g [.ptr (.obj B) 0]] (dQ e K B el sz l) fun r ai=>r= .tuple []∧∃aZ,ai=dQ e K B el sz aZ∧aZ.Perm l∧aZ.Pairwise fun x y=>lt y x=false:=by
 have By:al.funcs.findIdx? (·.name== "internal/reflectlite" ++ ".Swapper$" ++toString 1)=some 222:=by kernel_rfl
 have tR:al.funcs.findIdx? (·.name== "internal/reflectlite" ++ ".Swapper$" ++toString 2)=some 223:=by kernel_rfl
 have I5:al.funcs.findIdx? (·.name== "internal/reflectlite" ++ ".Swapper$" ++toString 9)=some 230:=by kernel_rfl
 have Jy:∃f b3,al.funcs.findIdx? (·.name== "internal/reflectlite" ++ ".Swapper$" ++toString (swapperK l.length ej ke))=some f∧(b3=(if swapperK l.length ej ke≤2 then []else [ah.row sz (.obj K) l.length,.cst (typeHandle al el)]))∧
   bN al 199 [eN g f [.ptr (.obj B) 0] b3,.int .i64 l.length] (dQ e K B el sz l) fun r ai=>r= .tuple []∧∃aZ,ai=dQ e K B el sz aZ∧gk 0 l.length l aZ∧e4 lt 0 l.length aZ:=by
  have eU:=fun aZ=>wH (K:=K) (B:=B) (el:=el) (sz:=sz) he aZ;rcases(by omega:l.length=0∨l.length=1∨2≤l.length)with bA|J|U
  ·refine⟨222,[],by rw[bA];exact By,by rw[bA];rfl,IL (lt:=lt) ⟨eU,fun jj gO _ _=>wI jj gO,fun aZ _=>by simp[aI,aB,inObs,dQ,Pv.look],fun aZ _=>by simp[aI],by simp[dq,cZ],rfl,av,fun aZ h=>xk aZ h,fun aZ _ U i j hi=>by omega⟩ bD l rfl⟩
  ·refine⟨223,[],by rw[J];exact tR,by rw[J];rfl,IL (lt:=lt) ⟨eU,fun jj gO _ _=>wI jj gO,fun aZ _=>by simp[aI,aB,inObs,dQ,Pv.look],fun aZ _=>by simp[aI],by simp[dq,cZ],rfl,av,fun aZ h=>xk aZ h,fun aZ _ U i j hi af=>by omega⟩ bD l rfl⟩
  ·refine⟨230,_,by rw[sr _ U];exact I5,rfl,?_⟩;rw[sr _ U];simp only[show¬((9:Nat)≤2)from by decide,if_false];exact IL (lt:=lt) ⟨eU,fun jj gO _ _=>wI jj gO,fun aZ _=>by simp[aI,aB,inObs,dQ,Pv.look],fun aZ _=>by simp[aI,aB,inObs,dQ,Pv.look],by simp[dq,cZ],by simp[dq,cZ],av,fun aZ h=>xk aZ h,fun aZ h _ i j hi af=>zo aZ h i j hi af⟩ bD l rfl
 obtain⟨f,b3,aJ,Ju,da⟩:=Jy;intro w ν bc a1 ae aK;have pH:=cS.start (wH he l).obj a1 ae aK;have Jq:=aK;simp only[cP,a8]at aK;obtain⟨v0,vs1,hv0,⟨u,rfl,⟨b,cap,rfl⟩,eY,n',e1,ak,aC,bk⟩,v1,vs2,hv1,⟨qz,rfl,qt⟩,rfl⟩:=aK;have kG:bc= #[.iface t (.slice (some ⟨b,0,none⟩) l.length cap),.func (.func g) #[] qz]:=by apply Array.ext';rw[hv0,hv1]
 subst kG;have qp:∃fn,al.funcs[(140:Nat)]? =some fn∧fn.body.isSome=true∧(fn.name== "runtime.NumGoroutine")=false:=⟨_,Tryz.func140,by kernel_rfl,by kernel_rfl⟩;refine .inl ⟨qp,?_⟩;obtain⟨ds,og⟩:∃ds,ds=(w.alloc (.cells #[.slice (some ⟨b,0,none⟩) l.length cap] t)).alloc (.cells #[typeHandle al t,.pointer (some ⟨w.heap.size,0,none⟩),.int .u64 151] 179):=⟨_,rfl⟩;have jJ:w.grownBy ds none:=by rw[og];exact QY _ _ _
 have Jr:=pH.grown jJ;have kF:k8 w ν ds ν:=⟨fun b o bg=>⟨bg,D7 jJ (a1.alt b o bg)⟩,fun _ _ _ h=>h,fun _ n u _ h=>⟨n,u,h,.inl ⟨rfl,rfl⟩⟩,fun b o bg=>wh (jJ.block b (a1.alt b o bg) (by simp)),fun _ _ _ _ h=>h⟩;have rf:Pv.Good (fw ν (dQ e K B el sz l)) ds ν (dQ e K B el sz l).b (dQ e K B el sz l).e:=Jr.good.prMono fun bl _ h=>h;have kV:=Gp kF Jq;simp only[cP]at kV;obtain⟨a0,XF,ss,BT,bC,XG,kT,aed,rfl⟩:=kV;simp at ss;obtain⟨rfl,rfl⟩:=ss;simp at kT;subst kT;have Jt:a8 ds ν (.row sz (.obj K) l.length) (.slice (some ⟨b,0,none⟩) l.length cap):=by simp only[a8]at BT;obtain⟨u,hu,h⟩:=BT;simp at hu;obtain⟨_,rfl⟩:=hu;simp only[a8];exact h
 have kW:cP ds ν b3 (sliceBound al el ej ke (some ⟨b,0,none⟩) l.length cap).toList:=by
  unfold sliceBound;rw[Ju];split
  ·simp[cP]
  ·simp only[cP];exact⟨_,_,rfl,Jt,_,_,rfl,by simp[a8],rfl⟩
 have tN:cP ds ν [eN g f [.ptr (.obj B) 0] b3,.int .i64 l.length] (#[.agg #[.func (.func g) #[] qz,.func (.func f) #[] (sliceBound al el ej ke (some ⟨b,0,none⟩) l.length cap)],.int .i64 l.length]:Array Value).toList:=by simp only[cP,eN];refine⟨_,_,rfl,?_,_,_,rfl,by simp[a8],rfl⟩;simp only[a8,c5];exact⟨_,rfl,_,_,rfl,⟨⟨qz,rfl,Gp kF qt⟩,rfl⟩,_,_,rfl,⟨⟨_,rfl,kW⟩,rfl⟩,rfl⟩
 have I2:=da ds ν _ rf ae tN;have Ed:∀args w,(callFunc 199 args).run al w= .ok (.enter 199 args) w:=enters_of Tryz.func199 (by kernel_rfl) rfl;rcases I2 with⟨_,au⟩|⟨v,w',au,_⟩
 ·have Jf:=aj6 t el i ej hi aP BR sy ke tX (some ⟨b,0,none⟩) l.length cap (by omega) f aJ (.func g) #[] qz w
   (fun w'=> ∃ai bo,(∃aZ,ai=dQ e K B el sz aZ∧gk 0 l.length l aZ∧e4 lt 0 l.length aZ)∧Pv.Good (fun bl=>fw ν (dQ e K B el sz l) bl∨ds.heap.size≤bl) w' bo ai.b ai.e∧oV bo ai∧iI ai∧p8 ⟨ds,ν,fw ν (dQ e K B el sz l),0,cV (dQ e K B el sz l)⟩ w' bo) (by
    rw[←og];refine au.mono ?_;rintro e w' ⟨v,r,ai,bo,rfl,⟨rfl,br⟩,vu,ba,b2,c7,ef⟩;simp only[a8,cP]at vu;obtain⟨us,rfl,qv⟩:=vu;have:us= #[]:=by apply Array.ext';simpa using qv
    subst this;exact⟨rfl,ai,bo,br,ba,b2,c7,ef⟩)
  refine Jf.mono ?_;rintro e w' ⟨rfl,ai,bo,⟨aZ,rfl,EZ,zn⟩,ba,b2,c7,ef⟩;refine⟨.tuple #[],.tuple [],_,bo,rfl,⟨rfl,aZ,rfl,EZ.perm,?_⟩,by simp[a8,cP],ba.prMono fun bl h _=>?_,b2,c7,⟨ef.os.trans jJ.os,ef.tape.trans jJ.tape,ef.output.trans jJ.output,j8 jJ.size ef.size,fun k ab hm=>?_,fun b o bg=>?_,fun b o bg=>?_,ef.obj,ef.obn,ef.row,ef.obr,ef.trd,fun k j b ad=>⟨(ef.trb k j b ad).1.imp id (fun h=>j8 jJ.size h),(ef.trb k j b ad).2⟩,ef.trn,fun b o bg=>(ef.sh b o bg).trans (kF.sh b o bg)⟩⟩
  ·have xl:=EZ.length;rw[←xl]at zn;exact zn.pairwise
  ·rcases h with h|h
   ·exact .inl h
   ·exact .inr (j8 jJ.size h)
  ·rw[ef.block k (Nat.lt_of_lt_of_le ab jJ.size) hm];exact jJ.block k ab (by simp)
  ·obtain⟨aU,bG⟩:=ef.keep b o bg;exact⟨aU,bG.trans (kF.A b o bg).2⟩
  ·rcases ef.fresh b o bg with h|h|h
   ·exact .inl h
   ·exact .inr (.inl h)
   ·exact .inr (.inr (j8 jJ.size h))
 ·rw[Ed]at au;cases au
end
end Go.Proofs.YtahlgcidhnjlbaaGreat
namespace Go.Proofs
open Go.Shelf
def Tryz.lays6_ren:Go.Shelf.Ren:=⟨fun|6=>182|10=>197|11=>198|12=>200|13=>213|14=>214|24=>236|25=>237|26=>231|27=>238|28=>239|29=>240|30=>241|31=>242|32=>243|33=>244|34=>252|35=>253|36=>254|37=>255|38=>256|39=>271|n=>n,fun|20=>20|26=>143|35=>179|0=>0|37=>181|3=>3|41=>192|44=>185|49=>206|51=>208|4=>4|54=>210|53=>209|58=>214|5=>5|9=>9|60=>222|64=>226|66=>235|67=>236|17=>17|32=>176|33=>177|82=>256|12=>12|75=>249|76=>250|77=>251|78=>252|79=>253|80=>254|n=>n,fun|n=>n⟩
theorem Tryz.lays6:Go.Proofs.LaysGg.n6 al Tryz.lays6_ren:={
 mixed:=by kernel_rfl
 f6:=Tryz.func182.trans (e2 some (by kernel_rfl))
 f10:=Tryz.func197.trans (e2 some (by kernel_rfl))
 f11:=Tryz.func198.trans (e2 some (by kernel_rfl))
 f12:=Tryz.func200.trans (e2 some (by kernel_rfl))
 f13:=Tryz.func213.trans (e2 some (by kernel_rfl))
 f14:=Tryz.func214.trans (e2 some (by kernel_rfl))
 f24:=Tryz.func236.trans (e2 some (by kernel_rfl))
 f25:=Tryz.func237.trans (e2 some (by kernel_rfl))
 f26:=Tryz.func231.trans (e2 some (by kernel_rfl))
 f27:=Tryz.func238.trans (e2 some (by kernel_rfl))
 f28:=Tryz.func239.trans (e2 some (by kernel_rfl))
 f29:=Tryz.func240.trans (e2 some (by kernel_rfl))
 f30:=Tryz.func241.trans (e2 some (by kernel_rfl))
 f31:=Tryz.func242.trans (e2 some (by kernel_rfl))
 f32:=Tryz.func243.trans (e2 some (by kernel_rfl))
 f33:=Tryz.func244.trans (e2 some (by kernel_rfl))
 f34:=Tryz.func252.trans (e2 some (by kernel_rfl))
 f35:=Tryz.func253.trans (e2 some (by kernel_rfl))
 f36:=Tryz.func254.trans (e2 some (by kernel_rfl))
 f37:=Tryz.func255.trans (e2 some (by kernel_rfl))
 f38:=Tryz.func256.trans (e2 some (by kernel_rfl))
 f39:=Tryz.func271.trans (e2 some (by kernel_rfl))
 t0:=Tryz.underlying0
 a0:=Tryz.isAgg0
 z0:=Tryz.sizeOf0
 v0:=Tryz.zeroValue0
 i0:=by kernel_rfl
 t3:=Tryz.underlying3
 a3:=Tryz.isAgg3
 z3:=Tryz.sizeOf3
 v3:=Tryz.zeroValue3
 i3:=by kernel_rfl
 t4:=Tryz.underlying4
 a4:=Tryz.isAgg4
 z4:=Tryz.sizeOf4
 v4:=Tryz.zeroValue4
 i4:=by kernel_rfl
 t5:=Tryz.underlying5
 a5:=Tryz.isAgg5
 z5:=Tryz.sizeOf5
 v5:=Tryz.zeroValue5
 i5:=by kernel_rfl
 t9:=Tryz.underlying9
 a9:=Tryz.isAgg9
 z9:=Tryz.sizeOf9
 v9:=Tryz.zeroValue9
 i9:=by kernel_rfl
 t12:=Tryz.underlying12
 a12:=Tryz.isAgg12
 z12:=Tryz.sizeOf12
 v12:=Tryz.zeroValue12
 i12:=by kernel_rfl
 t17:=Tryz.underlying17
 a17:=Tryz.isAgg17
 z17:=Tryz.sizeOf17
 v17:=Tryz.zeroValue17
 i17:=by kernel_rfl
 t20:=Tryz.underlying20
 a20:=Tryz.isAgg20
 z20:=Tryz.sizeOf20
 v20:=Tryz.zeroValue20
 i20:=by kernel_rfl
 t26:=Tryz.underlying143
 a26:=Tryz.isAgg143
 z26:=Tryz.sizeOf143
 v26:=Tryz.zeroValue143
 i26:=by kernel_rfl
 t32:=Tryz.underlying176
 a32:=Tryz.isAgg176
 z32:=Tryz.sizeOf176
 v32:=Tryz.zeroValue176
 i32:=by kernel_rfl
 t33:=Tryz.underlying177
 a33:=Tryz.isAgg177
 z33:=Tryz.sizeOf177
 v33:=Tryz.zeroValue177
 i33:=by kernel_rfl
 t35:=Tryz.underlying179
 a35:=Tryz.isAgg179
 z35:=Tryz.sizeOf179
 v35:=Tryz.zeroValue179
 i35:=by kernel_rfl
 t37:=Tryz.underlying181
 a37:=Tryz.isAgg181
 z37:=Tryz.sizeOf181
 v37:=Tryz.zeroValue181
 i37:=by kernel_rfl
 t41:=Tryz.underlying192
 a41:=Tryz.isAgg192
 z41:=Tryz.sizeOf192
 v41:=Tryz.zeroValue192
 i41:=by kernel_rfl
 t44:=Tryz.underlying185
 a44:=Tryz.isAgg185
 z44:=Tryz.sizeOf185
 v44:=Tryz.zeroValue185
 i44:=by kernel_rfl
 t49:=Tryz.underlying206
 a49:=Tryz.isAgg206
 z49:=Tryz.sizeOf206
 v49:=Tryz.zeroValue206
 i49:=by kernel_rfl
 t51:=Tryz.underlying208
 a51:=Tryz.isAgg208
 z51:=Tryz.sizeOf208
 v51:=Tryz.zeroValue208
 i51:=by kernel_rfl
 t53:=Tryz.underlying209
 a53:=Tryz.isAgg209
 z53:=Tryz.sizeOf209
 v53:=Tryz.zeroValue209
 i53:=by kernel_rfl
 t54:=Tryz.underlying210
 a54:=Tryz.isAgg210
 z54:=Tryz.sizeOf210
 v54:=Tryz.zeroValue210
 i54:=by kernel_rfl
 t58:=Tryz.underlying214
 a58:=Tryz.isAgg214
 z58:=Tryz.sizeOf214
 v58:=Tryz.zeroValue214
 i58:=by kernel_rfl
 t60:=Tryz.underlying222
 a60:=Tryz.isAgg222
 z60:=Tryz.sizeOf222
 v60:=Tryz.zeroValue222
 i60:=by kernel_rfl
 t64:=Tryz.underlying226
 a64:=Tryz.isAgg226
 z64:=Tryz.sizeOf226
 v64:=Tryz.zeroValue226
 i64:=by kernel_rfl
 t66:=Tryz.underlying235
 a66:=Tryz.isAgg235
 z66:=Tryz.sizeOf235
 v66:=Tryz.zeroValue235
 i66:=by kernel_rfl
 t67:=Tryz.underlying236
 a67:=Tryz.isAgg236
 z67:=Tryz.sizeOf236
 v67:=Tryz.zeroValue236
 i67:=by kernel_rfl
 t75:=Tryz.underlying249
 a75:=Tryz.isAgg249
 z75:=Tryz.sizeOf249
 v75:=Tryz.zeroValue249
 i75:=by kernel_rfl
 t76:=Tryz.underlying250
 a76:=Tryz.isAgg250
 z76:=Tryz.sizeOf250
 v76:=Tryz.zeroValue250
 i76:=by kernel_rfl
 t77:=Tryz.underlying251
 a77:=Tryz.isAgg251
 z77:=Tryz.sizeOf251
 v77:=Tryz.zeroValue251
 i77:=by kernel_rfl
 t78:=Tryz.underlying252
 a78:=Tryz.isAgg252
 z78:=Tryz.sizeOf252
 v78:=Tryz.zeroValue252
 i78:=by kernel_rfl
 t79:=Tryz.underlying253
 a79:=Tryz.isAgg253
 z79:=Tryz.sizeOf253
 v79:=Tryz.zeroValue253
 i79:=by kernel_rfl
 t80:=Tryz.underlying254
 a80:=Tryz.isAgg254
 z80:=Tryz.sizeOf254
 v80:=Tryz.zeroValue254
 i80:=by kernel_rfl
 t82:=Tryz.underlying256
 a82:=Tryz.isAgg256
 z82:=Tryz.sizeOf256
 v82:=Tryz.zeroValue256
 i82:=by kernel_rfl}
end Go.Proofs
namespace Go.Proofs.YtahlgcidhnjlbaaGreat
open Go Go.RowKit Go.Lib Go.Pv Go.Proofs
theorem XP(n:Nat)(h:n<1099511627776):Lib.bitLen n≤1000:=by
 have:∀f x,bitLenAux f x≤f:=by
  intro f;induction f with
  |zero=>intro x;simp[bitLenAux]
  |succ f bU=>
   intro x;rw[bitLenAux];split
   ·omega
   ·have:=bU (x/2);omega
 have:=this 64 n;unfold Lib.bitLen;omega
theorem aiq{α:Type}[Inhabited α]{lt:α→α→Bool}{l:List α}{cc:Array α}(h:Sort.PermIn 0 l.length l.toArray cc)(ag:Sort.SortedIn lt 0 l.length cc):cc.toList.Perm l∧cc.toList.Pairwise fun x y=>lt y x=false:=by
 obtain⟨kL,_,z3⟩:=h;have dX:cc.size=l.length:=by simpa using kL
 have ak:cc.extract 0 l.length=cc:=by rw[←dX];simp
 have aC:l.toArray.extract 0 l.length=l.toArray:=by simp
 rw[ak,aC]at z3;refine⟨by simpa using z3,?_⟩;rw[pj];intro i j hi af lP;have J:=ag i j (by omega) lP (by simpa[dX]using af);have sx:i<cc.size:=by simpa using hi
 have jh:j<cc.size:=by simpa using af
 rw[getElem!_pos cc i sx,getElem!_pos cc j jh]at J;simpa using J
section
variable {α:Type} {e:α→ah} (he:∀S x,aB S (e x)) {K B el sz:Nat}
include he
theorem QJ[Inhabited α](Q3:K≠901∧K≠902)(Q2:B≠901∧B≠902)(t:fR)(i ej:TypeInfo)(hi:al.info? t=some i)(aP:i.desc= .slice el)(BR:al.packed t=false)(sy:al.info? el=some ej)(ke:Nat)(tX:∀w,(WZ el).run al w= .ok ke w)(sr:∀n,2≤n→swapperK n ej ke=9)
  (g:Nat) (lt:α→α→Bool) (bD:Sort.SWO lt) (l:List α) (av:l.length≤68719476736)
  (xk:∀aZ:List α,aZ.length=l.length→∀(i j:Nat) x y,aZ[i]? =some x→aZ[j]? =some y→bN al g [.int .i64 i,.int .i64 j,.ptr (.obj B) 0] (dQ e K B el sz aZ) fun r ai=>r= .bool (lt x y)∧ai=dQ e K B el sz aZ)
  (zo:∀aZ:List α,aZ.length=l.length→∀i j:Nat,i<l.length→j<l.length→bN al 230 [.int .i64 i,.int .i64 j,.row sz (.obj K) l.length,.cst (typeHandle al el)] (dQ e K B el sz aZ) fun r ai=>r= .tuple []∧ai=dQ e K B el sz (gY aZ i j)):
  bN al 182 [.iface t (.row sz (.obj K) l.length),.func g [.ptr (.obj B) 0]] (dQ e K B el sz l) fun r ai=>r= .tuple []∧∃aZ,ai=dQ e K B el sz aZ∧aZ.Perm l∧aZ.Pairwise fun x y=>lt y x=false:=by
 have By:al.funcs.findIdx? (·.name== "internal/reflectlite" ++ ".Swapper$" ++toString 1)=some 222:=by kernel_rfl
 have tR:al.funcs.findIdx? (·.name== "internal/reflectlite" ++ ".Swapper$" ++toString 2)=some 223:=by kernel_rfl
 have I5:al.funcs.findIdx? (·.name== "internal/reflectlite" ++ ".Swapper$" ++toString 9)=some 230:=by kernel_rfl
 have xq:rH (dQ e K B el sz) 901:=fun l=>⟨by simp[dQ,Pv.look,Q2.1],by simp[dQ,Pv.look,Q3.1]⟩;have xr:rH (dQ e K B el sz) 902:=fun l=>⟨by simp[dQ,Pv.look,Q2.2],by simp[dQ,Pv.look,Q3.2]⟩;have e5:=XP l.length (by omega);have Jy:∃f b3,al.funcs.findIdx? (·.name== "internal/reflectlite" ++ ".Swapper$" ++toString (swapperK l.length ej ke))=some f∧(b3=(if swapperK l.length ej ke≤2 then []else [ah.row sz (.obj K) l.length,.cst (typeHandle al el)]))∧
   bN al 214 [eN g f [.ptr (.obj B) 0] b3,.int .i64 0,.int .i64 l.length,.int .i64 (Lib.bitLen l.length)] (dQ e K B el sz l) fun r ai=>r= .tuple []∧∃aZ,ai=dQ e K B el sz aZ∧aZ.Perm l∧aZ.Pairwise fun x y=>lt y x=false:=by
  have eU:=fun aZ=>wH (K:=K) (B:=B) (el:=el) (sz:=sz) he aZ;have key:∀{b8:Nat} {b3:List ah},eW (dQ e K B el sz) l.length g b8 [.ptr (.obj B) 0] b3 lt→bN al 214 [eN g b8 [.ptr (.obj B) 0] b3,.int .i64 0,.int .i64 l.length,.int .i64 (Lib.bitLen l.length)] (dQ e K B el sz l) fun r ai=>r= .tuple []∧∃aZ,ai=dQ e K B el sz aZ∧aZ.Perm l∧aZ.Pairwise fun x y=>lt y x=false:=by intro b8 b3 H;have:=acr H xq xr bD l.length l.toArray (by simp) 0 l.length (Lib.bitLen l.length) (by omega) (by omega) (eR _) (by omega) (.inl rfl);simp only[Int.ofNat_zero,Int.natCast_zero,Int.cast_ofNat_Int]at this;refine bN.mono this ?_;rintro r ai ⟨a6,cc,bE,bX,cX⟩;obtain⟨cO,dp⟩:=aiq bX cX;exact⟨a6,cc.toList,bE,cO,dp⟩
  rcases(by omega:l.length=0∨l.length=1∨2≤l.length)with bA|J|U
  ·refine⟨222,[],by rw[bA];exact By,by rw[bA];rfl,key ⟨eU,fun jj gO _ _=>wI jj gO,fun aZ _=>by simp[aI,aB,inObs,dQ,Pv.look],fun aZ _=>by simp[aI],by simp[dq,cZ],rfl,av,fun aZ h=>xk aZ h,fun aZ _ U i j hi=>by omega⟩⟩
  ·refine⟨223,[],by rw[J];exact tR,by rw[J];rfl,key ⟨eU,fun jj gO _ _=>wI jj gO,fun aZ _=>by simp[aI,aB,inObs,dQ,Pv.look],fun aZ _=>by simp[aI],by simp[dq,cZ],rfl,av,fun aZ h=>xk aZ h,fun aZ _ U i j hi af=>by omega⟩⟩
  ·refine⟨230,_,by rw[sr _ U];exact I5,rfl,?_⟩;rw[sr _ U];simp only[show¬((9:Nat)≤2)from by decide,if_false];exact key ⟨eU,fun jj gO _ _=>wI jj gO,fun aZ _=>by simp[aI,aB,inObs,dQ,Pv.look],fun aZ _=>by simp[aI,aB,inObs,dQ,Pv.look],by simp[dq,cZ],by simp[dq,cZ],av,fun aZ h=>xk aZ h,fun aZ h _ i j hi af=>zo aZ h i j hi af⟩
 obtain⟨f,b3,aJ,Ju,da⟩:=Jy;intro w ν bc a1 ae aK;have pH:=cS.start (wH he l).obj a1 ae aK;have Jq:=aK;simp only[cP,a8]at aK;obtain⟨v0,vs1,hv0,⟨u,rfl,⟨b,cap,rfl⟩,eY,n',e1,ak,aC,bk⟩,v1,vs2,hv1,⟨qz,rfl,qt⟩,rfl⟩:=aK;have kG:bc= #[.iface t (.slice (some ⟨b,0,none⟩) l.length cap),.func (.func g) #[] qz]:=by apply Array.ext';rw[hv0,hv1]
 subst kG;have qp:∃fn,al.funcs[(182:Nat)]? =some fn∧fn.body.isSome=true∧(fn.name== "runtime.NumGoroutine")=false:=⟨_,Tryz.func182,by kernel_rfl,by kernel_rfl⟩;refine .inl ⟨qp,?_⟩;obtain⟨ds,og⟩:∃ds,ds=sliceWorld al Tryz.lays6_ren t (some ⟨b,0,none⟩) l.length cap w:=⟨_,rfl⟩;have jJ:w.grownBy ds none:=by rw[og];unfold sliceWorld;exact QY _ _ _
 have Jr:=pH.grown jJ;have kF:k8 w ν ds ν:=⟨fun b o bg=>⟨bg,D7 jJ (a1.alt b o bg)⟩,fun _ _ _ h=>h,fun _ n u _ h=>⟨n,u,h,.inl ⟨rfl,rfl⟩⟩,fun b o bg=>wh (jJ.block b (a1.alt b o bg) (by simp)),fun _ _ _ _ h=>h⟩;have rf:Pv.Good (fw ν (dQ e K B el sz l)) ds ν (dQ e K B el sz l).b (dQ e K B el sz l).e:=Jr.good.prMono fun bl _ h=>h;have kV:=Gp kF Jq;simp only[cP]at kV;obtain⟨a0,XF,ss,BT,bC,XG,kT,aed,rfl⟩:=kV;simp at ss;obtain⟨rfl,rfl⟩:=ss;simp at kT;subst kT;have Jt:a8 ds ν (.row sz (.obj K) l.length) (.slice (some ⟨b,0,none⟩) l.length cap):=by simp only[a8]at BT;obtain⟨u,hu,h⟩:=BT;simp at hu;obtain⟨_,rfl⟩:=hu;simp only[a8];exact h
 have kW:cP ds ν b3 (sliceBound al el ej ke (some ⟨b,0,none⟩) l.length cap).toList:=by
  unfold sliceBound;rw[Ju];split
  ·simp[cP]
  ·simp only[cP];exact⟨_,_,rfl,Jt,_,_,rfl,by simp[a8],rfl⟩
 have tN:cP ds ν [eN g f [.ptr (.obj B) 0] b3,.int .i64 0,.int .i64 l.length,.int .i64 (Lib.bitLen l.length)] (#[.agg #[.func (.func g) #[] qz,.func (.func f) #[] (sliceBound al el ej ke (some ⟨b,0,none⟩) l.length cap)],.int .i64 0,.int .i64 l.length,.int .i64 (Lib.bitLen l.length)]:Array Value).toList:=by simp only[cP,eN];refine⟨_,_,rfl,?_,_,_,rfl,by simp[a8],_,_,rfl,by simp[a8],_,_,rfl,by simp[a8],rfl⟩;simp only[a8,c5];exact⟨_,rfl,_,_,rfl,⟨⟨qz,rfl,Gp kF qt⟩,rfl⟩,_,_,rfl,⟨⟨_,rfl,kW⟩,rfl⟩,rfl⟩
 have I2:=da ds ν _ rf ae tN;have Ed:∀args w,(callFunc 214 args).run al w= .ok (.enter 214 args) w:=enters_of Tryz.func214 (by kernel_rfl) rfl;rcases I2 with⟨_,au⟩|⟨v,w',au,_⟩
 ·have Jf:=Any.sort_Slice_of_pdq Tryz.lays6 t el i ej hi aP BR sy ke tX (some ⟨b,0,none⟩) l.length cap (by omega) f aJ (.func g) #[] qz w
   (fun w'=> ∃ai bo,(∃aZ,ai=dQ e K B el sz aZ∧aZ.Perm l∧aZ.Pairwise fun x y=>lt y x=false)∧Pv.Good (fun bl=>fw ν (dQ e K B el sz l) bl∨ds.heap.size≤bl) w' bo ai.b ai.e∧oV bo ai∧iI ai∧p8 ⟨ds,ν,fw ν (dQ e K B el sz l),0,cV (dQ e K B el sz l)⟩ w' bo) (by
    rw[←og];refine au.mono ?_;rintro e w' ⟨v,r,ai,bo,rfl,⟨rfl,br⟩,vu,ba,b2,c7,ef⟩;simp only[a8,cP]at vu;obtain⟨us,rfl,qv⟩:=vu;have:us= #[]:=by apply Array.ext';simpa using qv
    subst this;exact⟨rfl,ai,bo,br,ba,b2,c7,ef⟩)
  refine Jf.mono ?_;rintro e w' ⟨rfl,ai,bo,⟨aZ,rfl,EZ,zn⟩,ba,b2,c7,ef⟩;refine⟨.tuple #[],.tuple [],_,bo,rfl,⟨rfl,aZ,rfl,EZ,zn⟩,by simp[a8,cP],ba.prMono fun bl h _=>?_,b2,c7,⟨ef.os.trans jJ.os,ef.tape.trans jJ.tape,ef.output.trans jJ.output,j8 jJ.size ef.size,fun k ab hm=>?_,fun b o bg=>?_,fun b o bg=>?_,ef.obj,ef.obn,ef.row,ef.obr,ef.trd,fun k j b ad=>⟨(ef.trb k j b ad).1.imp id (fun h=>j8 jJ.size h),(ef.trb k j b ad).2⟩,ef.trn,fun b o bg=>(ef.sh b o bg).trans (kF.sh b o bg)⟩⟩
  ·rcases h with h|h
   ·exact .inl h
   ·exact .inr (j8 jJ.size h)
  ·rw[ef.block k (Nat.lt_of_lt_of_le ab jJ.size) hm];exact jJ.block k ab (by simp)
  ·obtain⟨aU,bG⟩:=ef.keep b o bg;exact⟨aU,bG.trans (kF.A b o bg).2⟩
  ·rcases ef.fresh b o bg with h|h|h
   ·exact .inl h
   ·exact .inr (.inl h)
   ·exact .inr (.inr (j8 jJ.size h))
 ·rw[Ed]at au;cases au
end
end Go.Proofs.YtahlgcidhnjlbaaGreat
namespace Go.Proofs.YtahlgcidhnjlbaaGreat
open Go Go.Pv Go.Lib
abbrev wG(l:List bj):cK:=dQ bj.e 814 815 100 2 l
theorem TI:∀(S:aH→Prop) (x:bj),aB S x.e:=fun S x=>by simp
theorem G8(l:List bj):ed (wG l):=wH TI l
theorem afB:Sort.SWO (hG e7):=by
 refine⟨fun x=>?_,fun x y z J U=>?_,fun x y z J U=>?_⟩
 ·simp only[hG,gz];have:=lA.refl x;omega
 ·simp only[hG,fk]at*;exact lA.ltr J (by omega)
 ·simp only[hG,gz]at*;have ak:=lA.neg x y;have aC:=lA.neg y z;have bk:=lA.neg x z;have:=lA.tr z y x (by omega) (by omega);omega
theorem ab4(l:List bj)(i j:Nat)(x y:bj)(av:l.length≤68719476736)(hi:l[i]? =some x)(af:l[j]? =some y):bN al 185 [.int .i64 i,.int .i64 j,.ptr (.obj 815) 0] (wG l) fun r ai=>r= .bool (hG e7 x y)∧ai=wG l:=by have ag:=G8 l;obtain⟨lO,hv⟩:=fi.1 hi;obtain⟨ea,pE⟩:=fi.1 af;unfold wG dQ at ag⊢;refine bN.mk mixed jR ZR agn (by simp) ag.obj fun aQ cL=>?_;unfold Nw;simp[lO,ea,hv,pE];(with_reducible repeat' first|refine aj ?_|refine aD (AD _ _) ?_|refine aE (AD _ _) ?_|simp[lO,ea,hv,pE]);refine cT.at _ (.inl rfl) ag (Same.refl _) aR aR ?_;simp[cY,Ur,aW,aX,aV]
noncomputable def Tryz.maT:TypeInfo:=(al.info? 49).get (by kernel_rfl)
noncomputable def Tryz.maE:TypeInfo:=(al.info? 100).get (by kernel_rfl)
theorem Tryz.maK(n:Nat)(U:2≤n):Lib.swapperK n Tryz.maE 25=9:=by
 have a:Tryz.maE.hasPointers=true:=by kernel_rfl
 have b:Tryz.maE.bytes=24:=by kernel_rfl
 have c:(n==0)=false:=by simp;omega
 have d:(n==1)=false:=by simp;omega
 simp[Lib.swapperK,a,b,c,d]
theorem Tl{α β:Type}(f:α→β)(l:List α)(i j:Nat):(gY l i j).map f=gY (l.map f) i j:=by
 unfold gY;simp only[List.getElem?_map];cases l[i]? with
 |none=>simp
 |some x=>
  cases l[j]? with
  |none=>simp
  |some y=>simp[List.map_set]
theorem acE(l:List bj)(av:l.length≤68719476736):bN al 182 [.iface 49 (.row 2 (.obj 814) l.length),.func 185 [.ptr (.obj 815) 0]] (wG l) fun r ai=>r= .tuple []∧ai=wG (oy e7 l):=by
 refine(QJ TI (K:=814) (B:=815) (sz:=2) (by decide) (by decide) 49 Tryz.maT Tryz.maE (by kernel_rfl) (by kernel_rfl) (by kernel_rfl) (by kernel_rfl) 25 (fun _=>by kernel_rfl) Tryz.maK 185 (hG e7) afB l av (fun aZ h i j x y hi af=>ab4 aZ i j x y (by omega) hi af) (fun aZ h i j hi af=>?_)).mono ?_
 ·have:=QR (P:=al) false 230 (fun args W=>run_callFunc_extern Tryz.func230 (by kernel_rfl) (by kernel_rfl) (by kernel_rfl) (e:=Dw false) (by kernel_rfl) args W)
   100 Tryz.maE (by kernel_rfl) (fun _=>by kernel_rfl) (G8 aZ) (K:=814) (n:=l.length) (el:=100) (sz:=2) (by kernel_rfl) (xs:=aZ.map bj.e) (by simp[dQ,Pv.look,h]) i j hi af
  refine this.mono ?_;rintro r ai ⟨rfl,rfl⟩;refine⟨rfl,?_⟩;simp[dQ,cA,Tl,h]
 ·rintro r ai ⟨rfl,aZ,rfl,J,U⟩;exact⟨rfl,by rw[VP lA J U]⟩
def nE(l:List bj):List ah:= .hdm l.length (List.range l.length)::l.flatMap fun m=>[m.e,.bool true]
def kP(m:bj)(l:List bj):List bj:=if m∈l then l else l++[m]
theorem afb(a b:bj):sL (.a [false,true]) a.e b.e=some (decide (a=b)):=by simp only[bj.e,sL,jW,if_true,nQ];congr 1;rw[p3];cases a;cases b;simp
theorem afc(a:bj):uf (.a [false,true]) a.e=true:=by simp[bj.e,uf,jW,-Hl]
theorem TM(m:bj):∀l:List bj,uw (.a [false,true]) m.e (.bool true) (l.flatMap fun m=>[m.e,.bool true])=some (if m∈l then some (l.flatMap fun m=>[m.e,.bool true])else none)
 |[]=>rfl
 |a::l=>by
  simp only[List.flatMap_cons,bV,bY,uw,afb];by_cases h:m=a
  ·subst h;simp
  ·have ca:decide (m=a)=false:=by simp[h]
   rw[ca];simp only[TM m l];by_cases hm:m∈l
   ·simp[hm]
   ·simp[hm,h]
@[simp] theorem apy(m:bj)(l:List bj):oq (.a [false,true]) m.e (.bool true) (nE l)=some (nE (kP m l)):=by
 simp only[nE,oq,afc,Bool.true_eq_false,reduceCtorEq,if_false,TM,kP];by_cases h:m∈l
 ·simp[h]
 ·simp[h,List.range_succ]
end Go.Proofs.YtahlgcidhnjlbaaGreat
namespace Go.Proofs.YtahlgcidhnjlbaaGreat
open Go Go.Pv
@[simp] theorem zC(S:aH→Prop)(l:List bj):aI S (nE l)=True:=by
 refine eq_true ?_;unfold nE;have:∀l:List bj,aI S (l.flatMap fun m=>[m.e,ah.bool true]):=fun l=>by
  induction l with
  |nil=>simp[aI]
  |cons x r bU=>simp only[List.flatMap_cons,bV,bY,aI,afg,aB,true_and];exact bU
 simp only[aI,aB,true_and];exact this l
@[simp] theorem apf:[ah.hdm 0 []]=nE []:=rfl
def nT(tag:List dz)(l:List bj):cK:=⟨[(.obj 811,[.str tag]),(.obj 812,nE l),(.obj 813,[.gmap (.obj 812)])],[]⟩
theorem DE(tag:List dz)(l:List bj):ed (nT tag l):=by unfold nT;refine ed.of ⟨by intro m;simp[Pv.look],by intro m;simp[Pv.look]⟩ (by simp[aI,aB,inObs,Pv.look]) (by simp)
theorem G9(tag:List dz)(l aZ:List bj):Same (nT tag l) (nT tag aZ):=Same.keys (by simp[nT]) (by simp[nT])
theorem ab3(tag:List dz)(v:Int)(l:List bj):bN al 184 [.int .i64 v,.ptr (.obj 813) 0,.ptr (.obj 811) 0] (nT tag l) fun r ai=>r= .tuple []∧ai=nT tag (kP ⟨v,tag⟩ l):=by have ag:=DE tag l;have gb:=DE tag (kP ⟨v,tag⟩ l);have eZ:=G9 tag l (kP ⟨v,tag⟩ l);unfold nT at ag gb eZ⊢;refine bN.mk mixed jR ZQ agm (by simp) ag.obj fun aQ cL=>?_;unfold Nv;simp;refine cT.at _ (.inr rfl) gb eZ aR aR ?_;simp[cY,Uq,aW,aX,aV]
end Go.Proofs.YtahlgcidhnjlbaaGreat
namespace Go.Proofs.YtahlgcidhnjlbaaGreat
open Go Go.Pv Go.Lib
abbrev uX(l:List bJ):cK:=dQ bJ.e 803 804 98 2 l
theorem SD:∀(S:aH→Prop) (x:bJ),aB S x.e:=fun S x=>by simp
theorem DC(l:List bJ):ed (uX l):=wH SD l
def vO(x y:bJ):Bool:=decide (x.v<y.v)
theorem afA:Sort.SWO vO:=⟨fun x=>by simp[vO],fun x y z J U=>by simp[vO]at*;omega,fun x y z J U=>by simp[vO]at*;omega⟩
theorem ab5(l:List bJ)(i j:Nat)(x y:bJ)(av:l.length≤68719476736)(hi:l[i]? =some x)(af:l[j]? =some y):bN al 183 [.int .i64 i,.int .i64 j,.ptr (.obj 804) 0] (uX l) fun r ai=>r= .bool (vO x y)∧ai=uX l:=by have ag:=DC l;obtain⟨lO,hv⟩:=fi.1 hi;obtain⟨ea,pE⟩:=fi.1 af;unfold uX dQ at ag⊢;refine bN.mk mixed jR ZS ago (by simp) ag.obj fun aQ cL=>?_;unfold Nx;simp[lO,ea,hv,pE];(with_reducible repeat' first|refine aj ?_|simp);refine cT.at _ (.inl rfl) ag (Same.refl _) aR aR ?_;simp[cY,Us,aW,aX,aV,vO]
noncomputable def Tryz.vkT:TypeInfo:=(al.info? 48).get (by kernel_rfl)
noncomputable def Tryz.vkE:TypeInfo:=(al.info? 98).get (by kernel_rfl)
theorem Tryz.vkK(n:Nat)(U:2≤n):Lib.swapperK n Tryz.vkE 25=9:=by
 have a:Tryz.vkE.hasPointers=false:=by kernel_rfl
 have b:Tryz.vkE.bytes=16:=by kernel_rfl
 have c:(n==0)=false:=by simp;omega
 have d:(n==1)=false:=by simp;omega
 simp[Lib.swapperK,a,b,c,d]
theorem afz{α β:Type}(f:α→β)(l:List α)(i j:Nat):(gY l i j).map f=gY (l.map f) i j:=by
 unfold gY;simp only[List.getElem?_map];cases l[i]? with
 |none=>simp
 |some x=>
  cases l[j]? with
  |none=>simp
  |some y=>simp[List.map_set]
theorem QQ(l:List bJ)(av:l.length≤68719476736):bN al 182 [.iface 48 (.row 2 (.obj 803) l.length),.func 183 [.ptr (.obj 804) 0]] (uX l) fun r ai=>r= .tuple []∧∃aZ,ai=uX aZ∧aZ.Perm l∧aZ.Pairwise fun x y=>vO y x=false:=by
 refine(QJ SD (K:=803) (B:=804) (sz:=2) (by decide) (by decide) 48 Tryz.vkT Tryz.vkE (by kernel_rfl) (by kernel_rfl) (by kernel_rfl) (by kernel_rfl) 25 (fun _=>by kernel_rfl) Tryz.vkK 183 vO afA l av (fun aZ h i j x y hi af=>ab5 aZ i j x y (by omega) hi af) (fun aZ h i j hi af=>?_));have:=QR (P:=al) false 230 (fun args W=>run_callFunc_extern Tryz.func230 (by kernel_rfl) (by kernel_rfl) (by kernel_rfl) (e:=Dw false) (by kernel_rfl) args W)
  98 Tryz.vkE (by kernel_rfl) (fun _=>by kernel_rfl) (DC aZ) (K:=803) (n:=l.length) (el:=98) (sz:=2) (by kernel_rfl) (xs:=aZ.map bJ.e) (by simp[dQ,Pv.look,h]) i j hi af
 refine this.mono ?_;rintro r ai ⟨rfl,rfl⟩;refine⟨rfl,?_⟩;simp[dQ,cA,afz,h]
end Go.Proofs.YtahlgcidhnjlbaaGreat
namespace Go.Proofs.YtahlgcidhnjlbaaGreat
open Go Go.Pv
def fQ(o:aY (List bJ)):ah:= .tuple [.slice 2 .no ((o.getD []).map bJ.e),.bool o.isSome]
@[simp] theorem aoY(S:aH→Prop)(o:aY (List bJ)):aB S (fQ o)=True:=by simp[fQ]
theorem Wm{l:List bJ}(h:iW l):bF al 87 [.slice 2 .no (l.map bJ.e)] (.bool true):=by have:=Wl l;simpa only[h,decide_true]using this
theorem Mk{t:T}(h:t.fit=true):bF al 64 [t.e] (.bool true):=by have:=ak4 t;rwa[h]at this
set_option maxRecDepth 4000 in
theorem akR{s:List ar}(ag:eD s){l:List bJ}(av:iW l)(t:T)(aO:t.fit=true)(k:Int):
  bF al 118 [.slice 5 .no (s.map ar.e),.slice 2 .no (l.map bJ.e),t.e,.int .i64 k] (fQ (if(k=2∨k=3)∧(t.ap (bR s)).size≤5000 then ka l (t.ap (bR s)) k else none)):=by
 have xl:=sK av;have de:=pd ag;have dE:=Mk aO;have dk:=Wm av;have fh:=yk s t ag.len ag.sol.asc ag.fit;generalize ae:t.ap (bR s)=x at fh⊢;generalize di:(if(k=2∨k=3)∧x.size≤5000 then ka l x k else none)=O;by_cases ab:k=2∨k=3;rotate_left
 ·have gp:(k !=2)=true:=by simp;omega
  have kU:(k !=3)=true:=by simp;omega
  rw[if_neg (fun h=>ab h.1)]at di;rw[←di];refine bm jR q1 rI fun aQ=>?_;unfold qf;simp;(with_reducible repeat' first|refine aj ?_|refine aD de ?_|refine aE de ?_|refine aD dE ?_|refine aE dE ?_|refine aD dk ?_|refine aE dk ?_|simp[gp,kU]);simp[bz,jP,aW,aX,aV];simp[fQ]
 by_cases bp:x.size≤5000;rotate_left
 ·rw[if_neg (fun h=>bp h.2)]at di;rw[←di];rw[if_neg bp,iq bp]at fh;refine bm jR q1 rI fun aQ=>?_;unfold qf;simp;rcases ab with rfl|rfl;all_goals(with_reducible repeat' first|refine aj ?_|refine aD de ?_|refine aE de ?_|refine aD dE ?_|refine aE dE ?_|refine aD dk ?_|refine aE dk ?_|refine aD fh ?_|refine aE fh ?_|simp)
  all_goals simp[bz,jP,aW,aX,aV]
  all_goals simp[fQ]
 rw[if_pos ⟨ab,bp⟩]at di;rw[if_pos bp,hA bp]at fh;have qs:(k !=2)=true→(k !=3)=false:=fun h=>by simp at h⊢;omega
 have tW:((k !=2)=false)∨((k !=2)=true∧(k !=3)=false):=by
  rcases ab with rfl|rfl
  ·left;rfl
  ·right;exact⟨rfl,rfl⟩
 clear qs;cases x with
 |var n=>
  have dR:O=match kZ l n with|some bK=>if bK=k then some l else none|none=>some (lv ⟨n,k⟩ l):=by rw[←di];rfl
  refine bm jR q1 rI fun aQ=>?_;unfold qf;simp;rcases tW with br|⟨br,jy⟩
  ·(with_reducible repeat' first|refine aj ?_|refine aD de ?_|refine aE de ?_|refine aD dE ?_|refine aE dE ?_|refine aD dk ?_|refine aE dk ?_|refine aD fh ?_|refine aE fh ?_|simp[br]);refine dI [3,10,12,55,56] (fun i (_:Unit)=>[(57,.int .i64 i)]) l.length (fun i _=> ∀j y,j<i→l[j]? =some y→y.v≠n) () bW (fun j y af=>by omega) (fun _ af _=>?_) (fun i _ hi af _=>?_)
   ·have a1:kZ l n=none:=xF.2 fun y aL=>by obtain⟨m,hm,e⟩:=nk aL;exact af m y hm (by rw[cf hm,e])
    rw[a1]at dR;simp only at dR;simp;(with_reducible repeat' first|refine aj ?_|simp);all_goals first|(refine⟨by unfold lim;omega,?_⟩)|skip
    have key:=QQ (l++[⟨n,k⟩]) (by simp;omega);have eU:=DC (l++[⟨n,k⟩]);have hlen:(l++[(⟨n,k⟩:bJ)]).length=l.length+1:=by simp
    unfold uX dQ at key eU;rw[hlen,List.map_append,hf,List.map_nil]at key eU;refine c6.ob key eU aR aR (by simp[inObs,Pv.look]) ?_;rintro r ai ⟨rfl,aZ,rfl,J,U⟩;have sB:aZ=lv ⟨n,k⟩ l:=SE (J.trans ((List.perm_append_comm (l₁:=l) (l₂:=[⟨n,k⟩])).trans (JO ⟨n,k⟩ l).symm)) (E6 av.asc (xF.1 a1)) U;subst sB;refine⟨Same.keys (by simp) (by simp),?_⟩;rw[dR];simp[cz];(with_reducible repeat' first|refine aj ?_|simp);simp[bz,jP,aW,aX,aV];simp[fQ]
   ·obtain⟨b,ad,cy⟩:=dP hi;by_cases mR:b.v=n
    ·have a1:kZ l n=some b.k:=by rw[←mR];exact Fj av.asc (dL ad)
     rw[a1]at dR;simp only at dR;by_cases n5:b.k=k
     ·rw[if_pos n5]at dR;rw[dR];have w8:(b.k !=k)=false:=by simp[n5]
      have rb:(b.v==n)=true:=by simp[mR]
      simp[hi,cy];(with_reducible repeat' first|refine aj ?_|simp[cy,hi,w8,rb,n5,mR]);simp[bz,jP,aW,aX,aV];simp[fQ]
     ·rw[if_neg n5]at dR;rw[dR];have w8:(b.k !=k)=true:=by simp[n5]
      have rb:(b.v==n)=true:=by simp[mR]
      simp[hi,cy];(with_reducible repeat' first|refine aj ?_|simp[cy,hi,w8,rb,n5,mR]);simp[bz,jP,aW,aX,aV];simp[fQ]
    ·have rb:(b.v==n)=false:=by simp[mR]
     simp[hi,cy];(with_reducible repeat' first|refine aj ?_|simp[cy,hi,rb,mR]);exact bO.rng () hi (fun j y jh aL=>by
      rcases(by omega:j<i∨j=i)with h|rfl
      ·exact af j y h aL
      ·rw[ad]at aL;cases aL;exact mR) bW
  ·(with_reducible repeat' first|refine aj ?_|refine aD de ?_|refine aE de ?_|refine aD dE ?_|refine aE dE ?_|refine aD dk ?_|refine aE dk ?_|refine aD fh ?_|refine aE fh ?_|simp[br,jy]);refine dI [3,10,12,55,56] (fun i (_:Unit)=>[(57,.int .i64 i)]) l.length (fun i _=> ∀j y,j<i→l[j]? =some y→y.v≠n) () bW (fun j y af=>by omega) (fun _ af _=>?_) (fun i _ hi af _=>?_)
   ·have a1:kZ l n=none:=xF.2 fun y aL=>by obtain⟨m,hm,e⟩:=nk aL;exact af m y hm (by rw[cf hm,e])
    rw[a1]at dR;simp only at dR;simp;(with_reducible repeat' first|refine aj ?_|simp);all_goals first|(refine⟨by unfold lim;omega,?_⟩)|skip
    have key:=QQ (l++[⟨n,k⟩]) (by simp;omega);have eU:=DC (l++[⟨n,k⟩]);have hlen:(l++[(⟨n,k⟩:bJ)]).length=l.length+1:=by simp
    unfold uX dQ at key eU;rw[hlen,List.map_append,hf,List.map_nil]at key eU;refine c6.ob key eU aR aR (by simp[inObs,Pv.look]) ?_;rintro r ai ⟨rfl,aZ,rfl,J,U⟩;have sB:aZ=lv ⟨n,k⟩ l:=SE (J.trans ((List.perm_append_comm (l₁:=l) (l₂:=[⟨n,k⟩])).trans (JO ⟨n,k⟩ l).symm)) (E6 av.asc (xF.1 a1)) U;subst sB;refine⟨Same.keys (by simp) (by simp),?_⟩;rw[dR];simp[cz];(with_reducible repeat' first|refine aj ?_|simp);simp[bz,jP,aW,aX,aV];simp[fQ]
   ·obtain⟨b,ad,cy⟩:=dP hi;by_cases mR:b.v=n
    ·have a1:kZ l n=some b.k:=by rw[←mR];exact Fj av.asc (dL ad)
     rw[a1]at dR;simp only at dR;by_cases n5:b.k=k
     ·rw[if_pos n5]at dR;rw[dR];have w8:(b.k !=k)=false:=by simp[n5]
      have rb:(b.v==n)=true:=by simp[mR]
      simp[hi,cy];(with_reducible repeat' first|refine aj ?_|simp[cy,hi,w8,rb,n5,mR]);simp[bz,jP,aW,aX,aV];simp[fQ]
     ·rw[if_neg n5]at dR;rw[dR];have w8:(b.k !=k)=true:=by simp[n5]
      have rb:(b.v==n)=true:=by simp[mR]
      simp[hi,cy];(with_reducible repeat' first|refine aj ?_|simp[cy,hi,w8,rb,n5,mR]);simp[bz,jP,aW,aX,aV];simp[fQ]
    ·have rb:(b.v==n)=false:=by simp[mR]
     simp[hi,cy];(with_reducible repeat' first|refine aj ?_|simp[cy,hi,rb,mR]);exact bO.rng () hi (fun j y jh aL=>by
      rcases(by omega:j<i∨j=i)with h|rfl
      ·exact af j y h aL
      ·rw[ad]at aL;cases aL;exact mR) bW
 |nil=>
  have dR:O=if T.nil.kind=k then some l else none:=by rw[←di];rfl
  by_cases hj:T.nil.kind=k
  ·rw[if_pos hj]at dR;rw[dR];refine bm jR q1 rI fun aQ=>?_;unfold qf;simp;simp at hj;rcases tW with br|⟨br,jy⟩
   ·((with_reducible repeat' first|refine aj ?_|refine aD de ?_|refine aE de ?_|refine aD dE ?_|refine aE dE ?_|refine aD dk ?_|refine aE dk ?_|refine aD fh ?_|refine aE fh ?_|simp[br,hj]|((first|apply bL|apply bQ|apply bP)<;>intro h<;>try simp at h))<;>(try exact cq));all_goals simp[bz,jP,aW,aX,aV]
    all_goals simp[fQ]
   ·((with_reducible repeat' first|refine aj ?_|refine aD de ?_|refine aE de ?_|refine aD dE ?_|refine aE dE ?_|refine aD dk ?_|refine aE dk ?_|refine aD fh ?_|refine aE fh ?_|simp[br,jy,hj]|((first|apply bL|apply bQ|apply bP)<;>intro h<;>try simp at h))<;>(try exact cq));all_goals simp[bz,jP,aW,aX,aV]
    all_goals simp[fQ]
  ·rw[if_neg hj]at dR;rw[dR];refine bm jR q1 rI fun aQ=>?_;unfold qf;simp;simp at hj;rcases tW with br|⟨br,jy⟩
   ·((with_reducible repeat' first|refine aj ?_|refine aD de ?_|refine aE de ?_|refine aD dE ?_|refine aE dE ?_|refine aD dk ?_|refine aE dk ?_|refine aD fh ?_|refine aE fh ?_|simp[br,hj]|((first|apply bL|apply bQ|apply bP)<;>intro h<;>try simp at h))<;>(try exact cq));all_goals simp[bz,jP,aW,aX,aV]
    all_goals simp[fQ]
   ·((with_reducible repeat' first|refine aj ?_|refine aD de ?_|refine aE de ?_|refine aD dE ?_|refine aE dE ?_|refine aD dk ?_|refine aE dk ?_|refine aD fh ?_|refine aE fh ?_|simp[br,jy,hj]|((first|apply bL|apply bQ|apply bP)<;>intro h<;>try simp at h))<;>(try exact cq));all_goals simp[bz,jP,aW,aX,aV]
    all_goals simp[fQ]
 |sym a=>
  have dR:O=if(T.sym a).kind=k then some l else none:=by rw[←di];rfl
  by_cases hj:(T.sym a).kind=k
  ·rw[if_pos hj]at dR;rw[dR];refine bm jR q1 rI fun aQ=>?_;unfold qf;simp;simp at hj;rcases tW with br|⟨br,jy⟩
   ·((with_reducible repeat' first|refine aj ?_|refine aD de ?_|refine aE de ?_|refine aD dE ?_|refine aE dE ?_|refine aD dk ?_|refine aE dk ?_|refine aD fh ?_|refine aE fh ?_|simp[br,hj]|((first|apply bL|apply bQ|apply bP)<;>intro h<;>try simp at h))<;>(try exact cq));all_goals simp[bz,jP,aW,aX,aV]
    all_goals simp[fQ]
   ·((with_reducible repeat' first|refine aj ?_|refine aD de ?_|refine aE de ?_|refine aD dE ?_|refine aE dE ?_|refine aD dk ?_|refine aE dk ?_|refine aD fh ?_|refine aE fh ?_|simp[br,jy,hj]|((first|apply bL|apply bQ|apply bP)<;>intro h<;>try simp at h))<;>(try exact cq));all_goals simp[bz,jP,aW,aX,aV]
    all_goals simp[fQ]
  ·rw[if_neg hj]at dR;rw[dR];refine bm jR q1 rI fun aQ=>?_;unfold qf;simp;simp at hj;rcases tW with br|⟨br,jy⟩
   ·((with_reducible repeat' first|refine aj ?_|refine aD de ?_|refine aE de ?_|refine aD dE ?_|refine aE dE ?_|refine aD dk ?_|refine aE dk ?_|refine aD fh ?_|refine aE fh ?_|simp[br,hj]|((first|apply bL|apply bQ|apply bP)<;>intro h<;>try simp at h))<;>(try exact cq));all_goals simp[bz,jP,aW,aX,aV]
    all_goals simp[fQ]
   ·((with_reducible repeat' first|refine aj ?_|refine aD de ?_|refine aE de ?_|refine aD dE ?_|refine aE dE ?_|refine aD dk ?_|refine aE dk ?_|refine aD fh ?_|refine aE fh ?_|simp[br,jy,hj]|((first|apply bL|apply bQ|apply bP)<;>intro h<;>try simp at h))<;>(try exact cq));all_goals simp[bz,jP,aW,aX,aV]
    all_goals simp[fQ]
 |num a=>
  have dR:O=if(T.num a).kind=k then some l else none:=by rw[←di];rfl
  by_cases hj:(T.num a).kind=k
  ·rw[if_pos hj]at dR;rw[dR];refine bm jR q1 rI fun aQ=>?_;unfold qf;simp;simp at hj;rcases tW with br|⟨br,jy⟩
   ·((with_reducible repeat' first|refine aj ?_|refine aD de ?_|refine aE de ?_|refine aD dE ?_|refine aE dE ?_|refine aD dk ?_|refine aE dk ?_|refine aD fh ?_|refine aE fh ?_|simp[br,hj]|((first|apply bL|apply bQ|apply bP)<;>intro h<;>try simp at h))<;>(try exact cq));all_goals simp[bz,jP,aW,aX,aV]
    all_goals simp[fQ]
   ·((with_reducible repeat' first|refine aj ?_|refine aD de ?_|refine aE de ?_|refine aD dE ?_|refine aE dE ?_|refine aD dk ?_|refine aE dk ?_|refine aD fh ?_|refine aE fh ?_|simp[br,jy,hj]|((first|apply bL|apply bQ|apply bP)<;>intro h<;>try simp at h))<;>(try exact cq));all_goals simp[bz,jP,aW,aX,aV]
    all_goals simp[fQ]
  ·rw[if_neg hj]at dR;rw[dR];refine bm jR q1 rI fun aQ=>?_;unfold qf;simp;simp at hj;rcases tW with br|⟨br,jy⟩
   ·((with_reducible repeat' first|refine aj ?_|refine aD de ?_|refine aE de ?_|refine aD dE ?_|refine aE dE ?_|refine aD dk ?_|refine aE dk ?_|refine aD fh ?_|refine aE fh ?_|simp[br,hj]|((first|apply bL|apply bQ|apply bP)<;>intro h<;>try simp at h))<;>(try exact cq));all_goals simp[bz,jP,aW,aX,aV]
    all_goals simp[fQ]
   ·((with_reducible repeat' first|refine aj ?_|refine aD de ?_|refine aE de ?_|refine aD dE ?_|refine aE dE ?_|refine aD dk ?_|refine aE dk ?_|refine aD fh ?_|refine aE fh ?_|simp[br,jy,hj]|((first|apply bL|apply bQ|apply bP)<;>intro h<;>try simp at h))<;>(try exact cq));all_goals simp[bz,jP,aW,aX,aV]
    all_goals simp[fQ]
 |pair a b=>
  have dR:O=if(T.pair a b).kind=k then some l else none:=by rw[←di];rfl
  by_cases hj:(T.pair a b).kind=k
  ·rw[if_pos hj]at dR;rw[dR];refine bm jR q1 rI fun aQ=>?_;unfold qf;simp;simp at hj;rcases tW with br|⟨br,jy⟩
   ·((with_reducible repeat' first|refine aj ?_|refine aD de ?_|refine aE de ?_|refine aD dE ?_|refine aE dE ?_|refine aD dk ?_|refine aE dk ?_|refine aD fh ?_|refine aE fh ?_|simp[br,hj]|((first|apply bL|apply bQ|apply bP)<;>intro h<;>try simp at h))<;>(try exact cq));all_goals simp[bz,jP,aW,aX,aV]
    all_goals simp[fQ]
   ·((with_reducible repeat' first|refine aj ?_|refine aD de ?_|refine aE de ?_|refine aD dE ?_|refine aE dE ?_|refine aD dk ?_|refine aE dk ?_|refine aD fh ?_|refine aE fh ?_|simp[br,jy,hj]|((first|apply bL|apply bQ|apply bP)<;>intro h<;>try simp at h))<;>(try exact cq));all_goals simp[bz,jP,aW,aX,aV]
    all_goals simp[fQ]
  ·rw[if_neg hj]at dR;rw[dR];refine bm jR q1 rI fun aQ=>?_;unfold qf;simp;simp at hj;rcases tW with br|⟨br,jy⟩
   ·((with_reducible repeat' first|refine aj ?_|refine aD de ?_|refine aE de ?_|refine aD dE ?_|refine aE dE ?_|refine aD dk ?_|refine aE dk ?_|refine aD fh ?_|refine aE fh ?_|simp[br,hj]|((first|apply bL|apply bQ|apply bP)<;>intro h<;>try simp at h))<;>(try exact cq));all_goals simp[bz,jP,aW,aX,aV]
    all_goals simp[fQ]
   ·((with_reducible repeat' first|refine aj ?_|refine aD de ?_|refine aE de ?_|refine aD dE ?_|refine aE dE ?_|refine aD dk ?_|refine aE dk ?_|refine aD fh ?_|refine aE fh ?_|simp[br,jy,hj]|((first|apply bL|apply bQ|apply bP)<;>intro h<;>try simp at h))<;>(try exact cq));all_goals simp[bz,jP,aW,aX,aV]
    all_goals simp[fQ]
def ja(o:aY (List bj)):ah:= .tuple [.slice 2 .no ((o.getD []).map bj.e),.bool o.isSome]
@[simp] theorem ao0(S:aH→Prop)(o:aY (List bj)):aB S (ja o)=True:=by simp[ja]
theorem Wo{l:List bj}(h:ik l):bF al 88 [.slice 2 .no (l.map bj.e)] (.bool true):=by have:=Wn l;simpa only[h,decide_true]using this
theorem akU{s:List dz}(h:jA s=true):bF al 160 [.str s] (.bool true):=by have:=td s;rwa[h]at this
def Cm(l:List bj):List ah:=l.flatMap fun m=>[m.e,.bool true]
theorem To(l:List bj):nE l= .hdm l.length (List.range l.length)::Cm l:=rfl
theorem Kl(b:Nat):∀(n:Nat) (l:List bj),mu b (List.range' n l.length) (Cm l)=(if n≤b then(l[b-n]?).map fun x=>.tuple [x.e,.bool true]else none)
 |n,[]=>by simp[mu,Cm]
 |n,x::r=>by
  have e:Cm (x::r)=x.e:: .bool true::Cm r:=rfl;simp only[p6,List.range'_succ,e,mu];by_cases h:n=b
  ·subst h;simp
  ·rw[if_neg h,Kl b (n+1) r];by_cases U:n≤b
   ·rw[if_pos U,if_pos (by omega)];have:b-n=(b-(n+1))+1:=by omega
    rw[this];simp
   ·rw[if_neg U,if_neg (by omega)]
@[simp] theorem apK(l:List bj):hP (nE l)=false:=rfl
@[simp] theorem aqA(m:aH)(l:List bj):wb m (nE l)=some (cn l.length [] m):=rfl
theorem afM(f:aH→aY (List ah))(ff mk:aH)(n:Nat)(seen:List Nat)(b:Nat)(l:List bj)(x:bj)(hi:f ff=some (cn n (seen++[b]) mk))(hm:f mk=some (nE l))(aA:n=l.length)(ae:l[b]? =some x):o6 f (.ptr ff 0)=some (True,.tuple [x.e,.bool true]):=by subst aA;simp only[Ty,hi,hm,cn,To,List.getLast?_append,List.getLast?_singleton,Option.some_or,List.range_eq_range',Kl,Nat.zero_le,if_true,Nat.sub_zero,Option.map_map];simp[ae]
theorem Y0{st:bq}{d:Nat}{K:bq→Prop}{ff mk:aH}{n:Nat}{seen:List Nat}{l:List bj}(hi:Pv.look ff st.b=some (cn n seen mk))(hm:Pv.look mk st.b=some (nE l))(aA:n=l.length)
  (J:(∀b,b<l.length→b∈seen)→K {st with t:=Pv.put d (.tuple [.bool false]) st.t}) (U:∀b x,l[b]? =some x→b∉seen→K {st with t:=Pv.put d (.tuple [.bool true,x.e,.bool true]) st.t,b:=cA ff (cn n (seen++[b]) mk) st.b}):
  sl st d (.ptr ff 0) K:=by
 subst aA;simp only[sl,hi,cn,hm,To,Ky,and_self,true_and];refine⟨fun h=>J fun b ad=>h b (by simpa using ad),fun b k v xo ad=>?_⟩;rw[List.range_eq_range',Kl]at xo;simp only[Nat.zero_le,if_true,Nat.sub_zero,gJ,ah.tuple.injEq,p4,and_true]at xo;obtain⟨x,ak,aC,bk⟩:=xo;subst aC bk;exact U b x ak ad
theorem afH{m x:bj}{l:List bj}:x∈kP m l↔x=m∨x∈l:=by
 unfold kP;split
 ·constructor
  ·exact .inr
  ·rintro(rfl|h)<;>assumption
 ·simp[or_comm]
theorem Xt{m:bj}{l:List bj}(h:l.Nodup):(kP m l).Nodup:=by
 unfold kP;split
 ·exact h
 ·rw[List.nodup_append];exact⟨h,by simp,fun a bt b ad=>by simp at ad;subst ad;intro e;subst e;contradiction⟩
theorem Xs(m:bj)(l:List bj):(kP m l).length≤l.length+1:=by unfold kP;split<;>simp
theorem abV(s:List dz)(t:T):∀l:List bj,(t.fold (fun v l=>kP ⟨v,s⟩ l) l).length≤l.length+t.size:=by
 induction t with
 |var n=>intro l;simp only[T.fold,T.size];exact Xs _ _
 |pair a b dS dT=>intro l;simp only[T.fold,T.size];have:=dS l;have:=dT (a.fold (fun v l=>kP ⟨v,s⟩ l) l);omega
 |_=>intro l;simp[T.fold,T.size]
theorem abW(s:List dz)(t:T):∀{l:List bj},l.Nodup→(t.fold (fun v l=>kP ⟨v,s⟩ l) l).Nodup:=by
 induction t with
 |var n=>intro l h;exact Xt h
 |pair a b dS dT=>intro l h;exact dT (dS h)
 |_=>intro l h;exact h
theorem afI(s:List dz)(t:T)(x:bj):∀{l:List bj},x∈t.fold (fun v l=>kP ⟨v,s⟩ l) l↔x∈l∨(x.s=s∧t.occ x.v=true):=by
 induction t with
 |var n=>
  intro l;simp only[T.fold,afH,T.occ,dO];constructor
  ·rintro(rfl|h)
   ·exact .inr ⟨rfl,rfl⟩
   ·exact .inl h
  ·rintro(h|⟨J,U⟩)
   ·exact .inr h
   ·left;cases x;simp at J U;subst J U;rfl
 |pair a b dS dT=>
  intro l;simp only[T.fold,dT,dS,T.occ,mA];constructor
  ·rintro((h|h)|h)
   ·exact .inl h
   ·exact .inr ⟨h.1,.inl h.2⟩
   ·exact .inr ⟨h.1,.inr h.2⟩
  ·rintro(h|⟨J,U|U⟩)
   ·exact .inl (.inl h)
   ·exact .inl (.inr ⟨J,U⟩)
   ·exact .inr ⟨J,U⟩
 |_=>intro l;simp[T.fold,T.occ]
def aeU(M:List bj)(k:Nat)(st:bq):Prop:=∃(seen:List Nat) (xs:List bj),seen.Nodup∧(∀b∈seen,b<M.length)∧k=M.length-seen.length∧xs=seen.filterMap (fun b=>M[b]?)∧xs.length=seen.length∧st=⟨[(15,.ptr (.obj 815) 0),(63,.ptr (.loc 2) 0)],[(.obj 812,nE M),(.loc 2,cn M.length seen (.obj 812)),(.obj 815,[.row 2 (.obj 814) xs.length])],[(.obj 814,⟨xs.length,100,2,some (xs.map bj.e)⟩)],3,[.obj 815,.obj 814,.obj 813,.obj 812,.obj 811]⟩
set_option maxRecDepth 4000 in
theorem akQ{s:List ar}(ag:eD s){l:List bj}(av:ik l)(xl:l.length≤68719470000)(t:T)(aO:t.fit=true){g:List dz}(a1:jA g=true):
  bF al 120 [.slice 5 .no (s.map ar.e),.slice 2 .no (l.map bj.e),t.e,.str g] (ja (if(t.ap (bR s)).size≤5000 then lI l (t.ap (bR s)) g else none)):=by
 have de:=pd ag;have dE:=Mk aO;have dV:=Wo av;have hO:=akU a1;have fh:=yk s t ag.len ag.sol.asc ag.fit;generalize ae:t.ap (bR s)=x at fh⊢;generalize di:(if x.size≤5000 then lI l x g else none)=O;by_cases bp:x.size≤5000;rotate_left
 ·rw[if_neg bp]at di;rw[←di];rw[if_neg bp,iq bp]at fh;refine bm jR Ih KE fun aQ=>?_;unfold DP;simp;(with_reducible repeat' first|refine aj ?_|refine aD de ?_|refine aE de ?_|refine aD dE ?_|refine aE dE ?_|refine aD dV ?_|refine aE dV ?_|refine aD hO ?_|refine aE hO ?_|refine aD fh ?_|refine aE fh ?_|simp);simp[bz,FY,aW,aX,aV];simp[ja]
 rw[if_pos bp]at di;rw[if_pos bp,hA bp]at fh;have zA:=Wu g x;cases cu:x.has g;rotate_left
 ·rw[cu]at zA;have dR:O=none:=by rw[←di];unfold lI;rw[cu];rfl
  rw[dR];refine bm jR Ih KE fun aQ=>?_;unfold DP;simp;(with_reducible repeat' first|refine aj ?_|refine aD de ?_|refine aE de ?_|refine aD dE ?_|refine aE dE ?_|refine aD dV ?_|refine aE dV ?_|refine aD hO ?_|refine aE hO ?_|refine aD fh ?_|refine aE fh ?_|refine aD zA ?_|refine aE zA ?_|simp);simp[bz,FY,aW,aX,aV];simp[ja]
 rw[cu]at zA;refine bm jR Ih KE fun aQ=>?_;unfold DP;simp;(with_reducible repeat' first|refine aj ?_|refine aD de ?_|refine aE de ?_|refine aD dE ?_|refine aE dE ?_|refine aD dV ?_|refine aE dV ?_|refine aD hO ?_|refine aE hO ?_|refine aD fh ?_|refine aE fh ?_|refine aD zA ?_|refine aE zA ?_|simp);have BK:l.Nodup:=hH.nodup lA av.asc;have h7:∀xs:List bj,xs.Perm (x.fold (fun v l=>kP ⟨v,g⟩ l) l)→O=some (oy e7 xs):=fun xs bI=>by
  rw[←di];refine Hg cu ?_ fun y=>?_
  ·have J:=LV lA xs;have U:(oy e7 xs).Nodup:=(((yd e7 xs).trans bI).nodup_iff).2 (abW g x BK);exact(J.and U).imp fun{a b} h=>by have:=mt (lA.zero a b).1 h.2;omega
  ·rw[((yd e7 xs).trans bI).mem_iff,afI]
 have hlen:(x.fold (fun v l=>kP ⟨v,g⟩ l) l).length≤68719475000:=by have:=abV g x l;omega
 rw[show jC []=nE []from rfl];refine iA (fun i (_:Unit)=>⟨[(7,.ptr (.obj 811) 0),(10,.ptr (.loc 1) 0),(12,.ptr (.obj 813) 0),(49,.slice 2 .no (l.map bj.e)),(50,.int .i64 l.length),(51,.int .i64 i)],[(.obj 811,[.str g]),(.loc 1,[.int .i64 x.kind,.int .i64 x.int,.str x.name,.slice 4 .no (x.args.map T.e)]),(.obj 812,nE (l.take i)),(.obj 813,[.gmap (.obj 812)])],[],2,[.obj 813,.obj 812,.obj 811]⟩) l.length (fun _ _=>True) () bW trivial (fun _ _ _=>?_) (fun i _ hi _ _=>?_)
 ·rw[pk];simp;(with_reducible repeat' first|refine aj ?_|simp);have key:=IE (nT g) (DE g) (G9 g) 184 [.ptr (.obj 813) 0,.ptr (.obj 811) 0] (by intro a;simp[inObs,nT,Pv.look,aI,aB]) (by simp) (fun v l=>kP ⟨v,g⟩ l) (fun v a=>ab3 g v a) x l;refine c6.ob key (DE g l) (by unfold nT;exact aR) (by unfold nT;exact aR) (by simp[inObs,nT,Pv.look]) ?_;rintro r ai ⟨rfl,rfl⟩;refine⟨G9 g _ _,?_⟩;unfold nT;generalize gm:x.fold (fun v l=>kP ⟨v,g⟩ l) l=M at h7 hlen⊢;simp[cz];(with_reducible repeat' first|refine aj ?_|simp);refine oU (aeU M) M.length _ ⟨by simp[fresh,aI,aB,cn,inObs,Pv.look,zC],er (by simp[fresh,aI,aB,cn,inObs,Pv.look,zC]),et (by simp[fresh,aI,aB,dW,inObs,Pv.look,zC]),by simp⟩ ⟨[],[],by simp,by simp,by simp,by simp,by simp,rfl⟩ ?_;rintro k st ⟨seen,xs,aP,bD,ab,R9,j1,rfl⟩ kD cL;clear kD cL;have hle:=Gv aP bD;simp;refine Y0 (mk:= .obj 812) (seen:=seen) (l:=M) (by simp) (by simp) rfl (fun ld=>?_) (fun b y aL ad=>?_)
  ·have vs:=LN aP bD ld;rw[←R9]at vs;have dC:=h7 xs vs;simp;(with_reducible repeat' first|refine aj ?_|simp);have key:=acE xs (by omega);have eU:=G8 xs;unfold wG dQ at key eU;refine c6.ob key eU aR aR (by simp[inObs,Pv.look]) ?_;rintro r ai ⟨rfl,rfl⟩;refine⟨Same.keys (by simp) (by simp),?_⟩;rw[dC];simp[cz];(with_reducible repeat' first|refine aj ?_|simp);simp[bz,FY,aW,aX,aV];simp[ja]
  ·have zg:∀f:aH→aY (List ah),f (.loc 2)=some (cn M.length (seen++[b]) (.obj 812))→f (.obj 812)=some (nE M)→o6 f (.ptr (.loc 2) 0)=some (True,.tuple [y.e,.bool true]):=fun f J U=>afM f (.loc 2) (.obj 812) M.length seen b M y J U rfl aL;have e5:b<M.length:=(fi.1 aL).1;have pI:=LO aP bD e5 ad;simp[zg];(with_reducible repeat' first|refine aj ?_|simp[zg]);all_goals first|(refine⟨by unfold lim;omega,?_⟩)|skip
   have xi:∀S:aH→Prop,aI S (xs.map bj.e++[y.e])=True:=fun S=>by
    have e:xs.map bj.e++[y.e]=(xs++[y]).map bj.e:=by simp
    rw[e];simp[-List.map_append]
   refine bO.next (M.length-(seen.length+1)) (by omega) ⟨seen++[b],xs++[y],KC aP ad,(by simp;intro c au;rcases au with au|rfl;exact bD c au;exact e5),by simp,by rw[List.filterMap_append,←R9];simp[aL],by simp[j1],rfl⟩ ⟨by simp[fresh,aI,aB,cn,inObs,Pv.look,zC,xi],er (by simp[fresh,aI,aB,cn,inObs,Pv.look,zC,xi]),et (by simp[fresh,aI,aB,dW,inObs,Pv.look,zC,xi]),by simp⟩
 ·obtain⟨b,ad,cy⟩:=dP hi;have kk:kP b (l.take i)=l.take (i+1):=by
   have J:b∉l.take i:=fun h=>by
    obtain⟨j,af,e⟩:=nk h;have jh:j<i:=by simp at af;omega
    rw[List.getElem_take]at e;have:=(List.nodup_iff_pairwise_ne.1 BK);exact(pj.1 this j i (by omega) hi jh) (by rw[e,cy])
   rw[List.take_succ,ad];simp[kP,J]
  exact fV
def NM:C:=(aa [be 4 false] (.seq (aa [I 7 0,cb 8 7,bS 9 0] (fe 10 9 8 (.seq (.block 1 (aa [cj 11 5 7 9,a7 12 5 11,dh 6 ij,bM 5 6 12] (aa [aF 13 0 1 6,aw 14 1 13,I 15 1,bh 16 .geq 14 15,I 17 16,aq 17 false (gq 18 1 4 6),aq 17 false (a7 19 4 18),ys 17 false (.bsl 20 4 30 [.t 19]),aq 17 false (cM 21 162 20),bZ 17 false 22 1,aq 17 false (bh 23 .gtr 21 22),c2 24 17 23] (aS 24 (aa [be 4 false] .ret) .skip)))) (.region [aT 25 .add 9 1,I 9 25])))) (aa [be 4 true] .ret)))
@[simp] def aiJ:List bu:=[.tmp 4]
def NL:C:=(aa [bS 2 0] (.seq (aa [I 6 0,cM 7 172 6,cx 8 7] (aS 8 (aa [bS 2 (-1)] .ret) .skip)) (aa [cU (.alloc 3 (some 831) (.int .i64 0)),cU (.store 1 (.t 3) (gr 0))] (.seq (aa [I 9 0,cb 10 9,bS 11 0] (fe 12 11 10 (.seq (.block 1 (aa [cj 13 4 9 11,a7 14 4 13,dh 5 dt,bM 4 5 14] (.region [a7 15 4 5,b7 16 (.mkf 204 [.t 3]),b4 17 134 15 16]))) (.region [aT 18 .add 11 1,I 11 18])))) (aa [aw 19 1 3,I 2 19] .ret)))))
@[simp] def aiH:List bu:=[.tmp 2]
def NH:C:=(aa [eQ 4 2,be 5 false] (.seq (aa [I 11 0,cM 12 86 11,cx 13 12,I 14 13,bZ 14 false 15 1,aq 14 false (cM 16 87 15),aq 14 false (cx 17 16),c2 18 14 17] (aS 18 (aa [eQ 4 2,be 5 false] .ret) .skip)) (aa [fD 19 2 98 [],I 6 19] (.seq (.seq (.fg false 6 (.region [I 20 1,cb 21 20,bS 22 0])) (fe 23 22 21 (.seq (.block 1 (aa [cj 24 2 20 22,a7 25 2 24,cU (.alloc 8 none (.agg [.int .i64 0,.int .i64 0])),bM 2 8 25] (.seq (.drawn true 42 [I 27 0,I 28 6,aF 29 0 1 8,aw 30 1 29,cM 31 116 30,aF 32 1 1 8,aw 33 1 32,dK 34 118 [.t 27,.t 28,.t 31,.t 33],I 26 34,cH 35 0 26,cH 36 1 26,I 9 35,I 10 36]) (.seq (aa [I 37 10,cx 38 37] (aS 38 (aa [eQ 4 2,be 5 false] .ret) .skip)) (.region [I 39 9,I 6 39]))))) (.region [aT 40 .add 22 1,I 22 40])))) (aa [I 41 6,I 4 41,be 5 true] .ret)))))
@[simp] def K3:List bu:=[.tmp 4,.tmp 5]
def NI:C:=(aa [eQ 4 2,be 5 false] (.seq (aa [I 11 0,cM 12 86 11,cx 13 12,I 14 13,bZ 14 false 15 1,aq 14 false (cM 16 88 15),aq 14 false (cx 17 16),c2 18 14 17] (aS 18 (aa [eQ 4 2,be 5 false] .ret) .skip)) (aa [fD 19 2 100 [],I 6 19] (.seq (.seq (.fg false 6 (.region [I 20 1,cb 21 20,bS 22 0])) (fe 23 22 21 (.seq (.block 1 (aa [cj 24 2 20 22,a7 25 2 24,cU (.alloc 8 none (.agg [.int .i64 0,.str []])),bM 2 8 25] (.seq (.drawn true 42 [I 27 0,I 28 6,aF 29 0 1 8,aw 30 1 29,cM 31 116 30,aF 32 1 1 8,aw 33 1 32,dK 34 120 [.t 27,.t 28,.t 31,.t 33],I 26 34,cH 35 0 26,cH 36 1 26,I 9 35,I 10 36]) (.seq (aa [I 37 10,cx 38 37] (aS 38 (aa [eQ 4 2,be 5 false] .ret) .skip)) (.region [I 39 9,I 6 39]))))) (.region [aT 40 .add 22 1,I 22 40])))) (aa [I 41 6,I 4 41,be 5 true] .ret)))))
@[simp] def K4:List bu:=[.tmp 4,.tmp 5]
def ND:C:=(aa [eQ 2 1] (.seq (aa [I 12 0,cb 13 12,bS 14 0] (fe 15 14 13 (.seq (.block 1 (aa [cj 16 1 12 14,aw 17 1 16,I 4 17] (aa [I 18 4,cM 19 86 18,cx 20 19] (aS 20 (aa [eQ 2 1] .ret) .skip)))) (.region [aT 21 .add 14 1,I 14 21])))) (aa [cU (.bslm 22 (some 821) 1 46 []),I 23 0,cU (.appm 24 none 1 46 (.t 22) (.t 23)),cU (.alloc 5 (some 822) (.slice 1 .nil [])),bM 1 5 24] (aa [aw 25 1 5,b7 26 (.mkif 47 (.t 25)),b7 27 (.mkf 206 [.t 5]),b4 28 140 26 27] (aa [fD 29 1 46 [],I 6 29] (.seq (aa [aw 30 1 5,cb 31 30,bS 32 0] (.block 2 (.loop (aa [bh 33 .lss 32 31] (.seq (aS 33 .skip (.exit 2)) (.seq (.block 3 (aa [I 34 32,cj 35 1 30 32,aw 36 1 35,I 7 34,I 8 36] (.seq (aa [I 37 7,aT 38 .gtr 37 0,I 39 38,aq 39 true (aw 40 1 5),bZ 39 true 41 7,aq 39 true (aT 42 .sub 41 1),aq 39 true (cj 43 1 40 42),aq 39 true (aw 44 1 43),bZ 39 true 45 8,aq 39 true (b4 46 207 44 45),aq 39 true (aT 47 .eql 46 0),dy 48 39 47] (aS 48 (.exit 3) .skip)) (aa [be 9 true] (.seq (aa [aw 49 1 5,cb 50 49,bS 51 0] (.block 4 (.loop (aa [bh 52 .lss 51 50] (.seq (aS 52 .skip (.exit 4)) (.seq (.block 5 (aa [cj 53 1 49 51,aw 54 1 53,I 11 54] (aa [I 55 11,I 56 8,b4 57 207 55 56,aT 58 .neq 57 0,I 59 58,bZ 59 true 60 11,bZ 59 true 61 8,aq 59 true (b4 62 208 60 61),dy 63 59 62] (aS 63 (.region [be 9 false]) .skip)))) (.region [aT 64 .add 51 1,I 51 64]))))))) (aa [I 65 9] (aS 65 (.region [I 66 6,I 67 8,cM 68 168 67,fD 69 1 46 [.t 68],iN 70 1 46 66 69,I 6 70]) .skip))))))) (.region [aT 71 .add 32 1,I 32 71]))))))) (aa [I 72 6,I 2 72] .ret)))))))
@[simp] def aiD:List bu:=[.tmp 2]
def Hz:C:=(.region [aw 3 1 1,I 4 0,aT 5 .add 4 1,b7 6 (.max2 (.t 3) (.t 5)),bM 1 1 6])
@[simp] def K6:List bu:=[]
def NF:C:=(aa [be 5 false] (.seq (.drawn true 16 [aw 6 1 2,I 7 0,cj 8 1 6 7,aw 9 1 8,aw 10 1 2,I 11 1,cj 12 1 10 11,aw 13 1 12,b4 14 207 9 13,aT 15 .lss 14 0,I 5 15]) .ret))
@[simp] def Uw:List bu:=[.tmp 5]
def wm:List (Nat×dA):=[
 (3,⟨1,8,.int .i64,.int .i64 0⟩),
 (9,⟨1,16,.str,.str []⟩),
 (27,⟨1,24,.slice 30,.slice 4 .nil []⟩),
 (30,⟨4,56,.struct [(0,3),(1,3),(2,9),(3,27)],.agg [.int .i64 0,.int .i64 0,.str [],.slice 4 .nil []]⟩),
 (46,⟨1,24,.slice 113,.slice 5 .nil []⟩),
 (47,⟨1,24,.slice 46,.slice 1 .nil []⟩),
 (48,⟨1,24,.slice 98,.slice 2 .nil []⟩),
 (49,⟨1,24,.slice 100,.slice 2 .nil []⟩),
 (98,⟨2,16,.struct [(0,3),(1,3)],.agg [.int .i64 0,.int .i64 0]⟩),
 (100,⟨2,24,.struct [(0,3),(1,9)],.agg [.int .i64 0,.str []]⟩),
 (113,⟨5,64,.struct [(0,3),(1,30)],.agg [.int .i64 0,.int .i64 0,.int .i64 0,.str [],.slice 4 .nil []]⟩)]
theorem wu:fL al wm=true:=by kernel_rfl
theorem agC:b0 wm NM aiJ 2 Tryz.f89=true:=by kernel_rfl
theorem Z6:al.funcs[(89:Nat)]? =some Tryz.f89:=Tryz.func89
theorem agB:b0 wm NL aiH 1 Tryz.f162=true:=by kernel_rfl
theorem Z5:al.funcs[(162:Nat)]? =some Tryz.f162:=Tryz.func162
theorem agx:b0 wm NH K3 2 Tryz.f163=true:=by kernel_rfl
theorem Z1:al.funcs[(163:Nat)]? =some Tryz.f163:=Tryz.func163
theorem agy:b0 wm NI K4 2 Tryz.f164=true:=by kernel_rfl
theorem Z2:al.funcs[(164:Nat)]? =some Tryz.f164:=Tryz.func164
theorem agu:b0 wm ND aiD 1 Tryz.f167=true:=by kernel_rfl
theorem ZY:al.funcs[(167:Nat)]? =some Tryz.f167:=Tryz.func167
theorem TV:b0 wm Hz K6 2 Tryz.f204=true:=by kernel_rfl
theorem Qf:al.funcs[(204:Nat)]? =some Tryz.f204:=Tryz.func204
theorem agv:b0 wm NF Uw 3 Tryz.f206=true:=by kernel_rfl
theorem ZZ:al.funcs[(206:Nat)]? =some Tryz.f206:=Tryz.func206
def Sq(s:List ar)(l:List bJ)(i:Nat)(a:List bJ):Prop:=iW a∧fW s (l.drop i) a=fW s l []
theorem Wp{s:List ar}(ag:eD s){l:List bJ}(av:iW l):bF al 163 [.slice 5 .no (s.map ar.e),.slice 2 .no (l.map bJ.e)] (fQ (fW s l [])):=by
 have xl:=sK av;have de:=pd ag;have dk:=Wm av;refine bm wu Z1 agx fun aQ=>?_;unfold NH;simp;(with_reducible repeat' first|refine aj ?_|refine aD de ?_|refine aE de ?_|refine aD dk ?_|refine aE dk ?_|simp);refine dI [0,20,21] (fun i (a:List bJ)=>[(6,.slice 2 .no (a.map bJ.e)),(22,.int .i64 i)]) l.length (Sq s l) [] bW ⟨⟨by simp,by simp⟩,rfl⟩ (fun a af _=>?_) (fun i a hi af _=>?_)
 ·obtain⟨_,af⟩:=af;rw[List.drop_length]at af;simp only[fW]at af;rw[←af];simp;(with_reducible repeat' first|refine aj ?_|simp);simp[bz,K3,aW,aX,aV];simp[fQ]
 ·obtain⟨bt,af⟩:=af;obtain⟨b,ad,cy⟩:=dP hi;have n4:=av.at' b (dL ad);rw[k6 hi,cy]at af;simp only[fW]at af;have gd:=akR ag bt (.var b.v) (by simp[T.fit,T.ok,T.size,n4.1]) b.k;have bp:((T.var b.v).ap (bR s)).size≤5000:=C5 ag b.v;rw[if_pos ⟨n4.2,bp⟩,show(T.var b.v).ap (bR s)=bR s b.v from rfl]at gd;simp[hi,cy];cases dR:ka a (bR s b.v) b.k with
  |none=>rw[dR]at af gd;simp only at af;rw[←af];simp only[fQ]at gd;(with_reducible repeat' first|refine aj ?_|refine aD (jc _) ?_|refine aE (jc _) ?_|refine aD gd ?_|refine aE gd ?_|simp[cy,hi]);simp[bz,K3,aW,aX,aV];simp[fQ]
  |some bn=>rw[dR]at af gd;simp only[fQ]at gd;(with_reducible repeat' first|refine aj ?_|refine aD (jc _) ?_|refine aE (jc _) ?_|refine aD gd ?_|refine aE gd ?_|simp[cy,hi]);exact bO.rng bn hi ⟨Hf bt (Ao ag n4.1) n4.2 dR,af⟩ bW
def Sr(s:List ar)(G:List (List dz))(l:List bj)(i:Nat)(a:List bj):Prop:=ik a∧nJ G a∧fX s (l.drop i) a=fX s l []
theorem Wq{s:List ar}(ag:eD s){l:List bj}(av:ik l){G:List (List dz)}(mM:G.length≤687000)(a1:nJ G l):bF al 164 [.slice 5 .no (s.map ar.e),.slice 2 .no (l.map bj.e)] (ja (fX s l [])):=by
 have hlen:∀{a:List bj},ik a→nJ G a→a.length≤68719470000:=fun J U=>by have:=Cn J U;omega
 have xl:=hlen av a1;have de:=pd ag;have dk:=Wo av;refine bm wu Z2 agy fun aQ=>?_;unfold NI;simp;(with_reducible repeat' first|refine aj ?_|refine aD de ?_|refine aE de ?_|refine aD dk ?_|refine aE dk ?_|simp);refine dI [0,20,21] (fun i (a:List bj)=>[(6,.slice 2 .no (a.map bj.e)),(22,.int .i64 i)]) l.length (Sr s G l) [] bW ⟨⟨by simp,by simp[hH]⟩,fun x ae=>by simp at ae,rfl⟩ (fun a af _=>?_) (fun i a hi af _=>?_)
 ·obtain⟨_,_,af⟩:=af;rw[List.drop_length]at af;simp only[fX]at af;rw[←af];simp;(with_reducible repeat' first|refine aj ?_|simp);simp[bz,K4,aW,aX,aV];simp[ja]
 ·obtain⟨bt,BZ,af⟩:=af;obtain⟨b,ad,cy⟩:=dP hi;have n4:=av.at' b (dL ad);have I0:=a1 b (dL ad);rw[k6 hi,cy]at af;simp only[fX]at af;have gd:=akQ ag bt (hlen bt BZ) (.var b.v) (by simp[T.fit,T.ok,T.size,n4.1]) n4.2;have bp:((T.var b.v).ap (bR s)).size≤5000:=C5 ag b.v;rw[if_pos bp,show(T.var b.v).ap (bR s)=bR s b.v from rfl]at gd;simp[hi,cy];cases dR:lI a (bR s b.v) b.s with
  |none=>rw[dR]at af gd;simp only at af;rw[←af];simp only[ja]at gd;(with_reducible repeat' first|refine aj ?_|refine aD (jc _) ?_|refine aE (jc _) ?_|refine aD gd ?_|refine aE gd ?_|simp[cy,hi]);simp[bz,K4,aW,aX,aV];simp[ja]
  |some bn=>rw[dR]at af gd;simp only[ja]at gd;(with_reducible repeat' first|refine aj ?_|refine aD (jc _) ?_|refine aE (jc _) ?_|refine aD gd ?_|refine aE gd ?_|simp[cy,hi]);exact bO.rng bn hi ⟨Hh bt (Ao ag n4.1) n4.2 dR,Hi BZ I0 dR,af⟩ bW
end Go.Proofs.YtahlgcidhnjlbaaGreat
namespace Go.Proofs.YtahlgcidhnjlbaaGreat
open Go Go.Pv Go.Lib
def cR(d:List ar):ah:= .slice 5 .no (d.map ar.e)
@[simp] theorem aoK(S:aH→Prop)(d:List ar):aB S (cR d)=True:=by simp[cR]
@[simp] theorem amR(d:List ar):cells (cR d)=[cR d]:=rfl
@[simp] theorem aqQ(d:List ar):eb (cR d)=true:=rfl
@[simp] theorem ark(d:List ar):dq (cR d)=cR d:=by simp[cR]
theorem PV:∀(S:aH→Prop) (x:List ar),aB S (cR x):=fun S x=>by simp
theorem J2(S:aH→Prop):∀l:List (List ar),aI S (l.map cR)
 |[]=>by simp[aI]
 |x::xs=>by simp[aI,J2 S xs]
@[simp] theorem S1(S:aH→Prop)(l:List (List ar)):aI S (l.map cR)=True:=eq_true (J2 S l)
@[simp] theorem L0:∀l:List (List ar),cZ (l.map cR)=l.map cR
 |[]=>rfl
 |x::xs=>by simp[cZ,L0 xs]
def fT(d:List cI):ah:= .slice 5 .no (d.map cI.e)
@[simp] theorem amU(d:List cI):cells (fT d)=[fT d]:=rfl
@[simp] theorem aqT(d:List cI):eb (fT d)=true:=rfl
theorem H2(d:List ar):fT (d.map ar.b)=cR d:=by simp only[fT,cR,rD]
theorem H3(l:List (List ar)):(l.map fun d=>d.map ar.b).map fT=l.map cR:=by rw[List.map_map];exact List.map_congr_left fun d _=>H2 d
@[simp] theorem aoN(S:aH→Prop)(d:List cI):aB S (fT d)=True:=by simp[fT]
@[simp] theorem aro(d:List cI):dq (fT d)=fT d:=by simp[fT]
theorem S3(S:aH→Prop):∀l:List (List cI),aI S (l.map fT)
 |[]=>by simp[aI]
 |x::xs=>by simp[aI,S3 S xs]
@[simp] theorem aoF(S:aH→Prop)(l:List (List cI)):aI S (l.map fT)=True:=eq_true (S3 S l)
abbrev ts(l:List (List ar)):cK:=dQ cR 821 822 46 1 l
theorem G4(l:List (List ar)):ed (ts l):=wH PV l
theorem ab6(l:List (List ar))(av:l.length≤68719476736)(i j:Nat)(x y:List ar)(hi:l[i]? =some x)(af:l[j]? =some y):bN al 206 [.int .i64 i,.int .i64 j,.ptr (.obj 822) 0] (ts l) fun r ai=>r= .bool (hG eu x y)∧ai=ts l:=by have ag:=G4 l;obtain⟨lO,hv⟩:=fi.1 hi;obtain⟨ea,pE⟩:=fi.1 af;have aU:bF al 207 [cR x,cR y] (.int .i64 (eu x y)):=GU x y;unfold ts dQ at ag⊢;refine bN.mk mixed wu ZZ agv (by simp) ag.obj fun aQ cL=>?_;unfold NF;simp[lO,ea,hv,pE];(with_reducible repeat' first|refine aj ?_|refine aD aU ?_|refine aE aU ?_|simp[lO,ea,hv,pE]);refine cT.at _ (.inl rfl) ag (Same.refl _) aR aR ?_;simp[cY,Uw,aW,aX,aV,hG]
noncomputable def Tryz.dsT:TypeInfo:=(al.info? 47).get (by kernel_rfl)
noncomputable def Tryz.dsE:TypeInfo:=(al.info? 46).get (by kernel_rfl)
theorem Tryz.dsK(n:Nat)(U:2≤n):Lib.swapperK n Tryz.dsE 23=9:=by
 have a:Tryz.dsE.hasPointers=true:=by kernel_rfl
 have b:Tryz.dsE.bytes=24:=by kernel_rfl
 have c:(n==0)=false:=by simp;omega
 have d:(n==1)=false:=by simp;omega
 simp[Lib.swapperK,a,b,c,d]
theorem acC(l:List (List ar))(av:l.length≤68719476736):bN al 140 [.iface 47 (.row 1 (.obj 821) l.length),.func 206 [.ptr (.obj 822) 0]] (ts l) fun r ai=>r= .tuple []∧ai=ts (oy eu l):=by
 refine(ab9 PV (K:=821) (B:=822) (sz:=1) 47 Tryz.dsT Tryz.dsE (by kernel_rfl) (by kernel_rfl) (by kernel_rfl) (by kernel_rfl) 23 (fun _=>by kernel_rfl) Tryz.dsK 206 (hG eu) lz.ltOk l av (fun aZ h i j x y hi af=>ab6 aZ (by omega) i j x y hi af) (fun aZ h i j hi af=>?_)).mono ?_
 ·have:=QS (P:=al) false 230 (fun args W=>run_callFunc_extern Tryz.func230 (by kernel_rfl) (by kernel_rfl) (by kernel_rfl) (e:=Dw false) (by kernel_rfl) args W)
   46 Tryz.dsE (by kernel_rfl) (.inr ⟨by kernel_rfl,fun _=>by kernel_rfl⟩) (G4 aZ) (K:=821) (n:=l.length) (el:=46) (sz:=1) (by kernel_rfl) (xs:=aZ.map cR) (by simp[dQ,Pv.look,h]) i j hi af
  refine this.mono ?_;rintro r ai ⟨rfl,rfl⟩;refine⟨rfl,?_⟩;simp[dQ,cA,Tl,h]
 ·rintro r ai ⟨rfl,aZ,rfl,J,U⟩;exact⟨rfl,by rw[VP lz J U]⟩
end Go.Proofs.YtahlgcidhnjlbaaGreat
namespace Go.Proofs.YtahlgcidhnjlbaaGreat
open Go Go.Pv
inductive gT where
 |s (l:List dz)
 |b (x:ByteArray)
def gT.e:gT→ah
 | .s l=>.str l
 | .b x=>.cst (.string x)
def gT.len:gT→Int
 | .s l=>l.length
 | .b x=>x.size
def mx(n:Nat):Prop:=lim<n∧n≤9223372036854775807
def gT.wf:gT→Prop
 | .s _=>True
 | .b x=>mx x.size
inductive c0 (α:Type) where
 |l (xs:List α)
 |b (p:aY Addr) (n cap:Nat)
def c0.e{α:Type}(sz:Nat)(f:α→ah):c0 α→ah
 | .l xs=>.slice sz .no (xs.map f)
 | .b p n cap=>.cst (.slice p n cap)
def c0.wf{α:Type}(P:α→Prop):c0 α→Prop
 | .l xs=> ∀x∈xs,P x
 | .b _ n _=>mx n
inductive cw where
 |mk (k n:Int) (s:gT) (a:List cw)
 |big (k n:Int) (s:gT) (p:aY Addr) (len cap:Nat)
mutual
def cw.e:cw→ah
 | .mk k n s a=>.agg [.int .i64 k,.int .i64 n,s.e,.slice 4 .no (cw.eL a)]
 | .big k n s p len cap=>.agg [.int .i64 k,.int .i64 n,s.e,.cst (.slice p len cap)]
def cw.eL:List cw→List ah
 |[]=>[]
 |x::xs=>x.e::cw.eL xs
end
theorem cw.eL_map:∀l,cw.eL l=l.map cw.e
 |[]=>rfl
 |x::xs=>by simp[cw.eL,cw.eL_map xs]
def cw.kind:cw→Int| .mk k _ _ _=>k| .big k _ _ _ _ _=>k
def cw.num:cw→Int| .mk _ n _ _=>n| .big _ n _ _ _ _=>n
def cw.name:cw→gT| .mk _ _ s _=>s| .big _ _ s _ _ _=>s
def cw.args:cw→c0 cw| .mk _ _ _ a=>.l a| .big _ _ _ p l c=>.b p l c
theorem cw.e_eq(t:cw):t.e= .agg [.int .i64 t.kind,.int .i64 t.num,t.name.e,t.args.e 4 cw.e]:=by
 cases t with
 |mk k n s a=>simp only[cw.e,cw.eL_map];rfl
 |big=>rfl
@[simp] theorem aoR(S:aH→Prop)(s:gT):aB S s.e=True:=by cases s<;>simp[gT.e,aB]
@[simp] theorem ars(s:gT):dq s.e=s.e:=by cases s<;>simp[gT.e,dq]
mutual
theorem S5(S:aH→Prop):∀t:cw,aB S t.e
 | .mk k n s a=>by simp[cw.e,aB,aI,J3 S a]
 | .big k n s p l c=>by simp[cw.e,aB,aI]
theorem J3(S:aH→Prop):∀l:List cw,aI S (cw.eL l)
 |[]=>by simp[cw.eL,aI]
 |x::xs=>by simp[cw.eL,aI,S5 S x,J3 S xs]
end
mutual
theorem VV:∀t:cw,dq t.e=t.e
 | .mk k n s a=>by simp[cw.e,dq,cZ,L1 a]
 | .big k n s p l c=>by simp[cw.e,dq,cZ]
theorem L1:∀l:List cw,cZ (cw.eL l)=cw.eL l
 |[]=>by simp[cw.eL,cZ]
 |x::xs=>by simp[cw.eL,cZ,VV x,L1 xs]
end
@[simp] theorem ao5(S:aH→Prop)(t:cw):aB S t.e=True:=eq_true (S5 S t)
@[simp] theorem aoD(S:aH→Prop)(l:List cw):aI S (l.map cw.e)=True:=by rw[←cw.eL_map];exact eq_true (J3 S l)
@[simp] theorem arA(t:cw):dq t.e=t.e:=VV t
@[simp] theorem arf(l:List cw):cZ (l.map cw.e)=l.map cw.e:=by rw[←cw.eL_map];exact L1 l
@[simp] theorem arb(t:cw):eb t.e=true:=by rw[cw.e_eq];rfl
@[simp] theorem aom(t:cw):Pv.isAgg 4 t.e:=by rw[cw.e_eq];exact⟨_,rfl,rfl⟩
@[simp] theorem ane(t:cw):cells t.e=[.int .i64 t.kind,.int .i64 t.num,t.name.e,t.args.e 4 cw.e]:=by rw[cw.e_eq];rfl
@[simp] theorem aoQ(S:aH→Prop)(x:c0 cw):aB S (x.e 4 cw.e)=True:=by cases x<;>simp[c0.e,aB]
@[simp] theorem arq(x:c0 cw):dq (x.e 4 cw.e)=x.e 4 cw.e:=by cases x<;>simp[c0.e,dq]
mutual
def cw.sz:cw→Nat
 | .mk _ _ _ a=>1+cw.szL a
 | .big _ _ _ _ _ _=>1
def cw.szL:List cw→Nat
 |[]=>0
 |x::xs=>x.sz+cw.szL xs
end
theorem cw.szL_mem:∀{l:List cw} {x:cw},x∈l→x.sz≤cw.szL l
 |y::l,x,h=>by
  rcases fY.1 h with rfl|h
  ·simp[cw.szL]
  ·have:=cw.szL_mem h;simp[cw.szL];omega
mutual
def cw.wf:cw→Prop
 | .mk _ _ s a=>s.wf∧cw.wfL a
 | .big _ _ s _ l _=>s.wf∧mx l
def cw.wfL:List cw→Prop
 |[]=>True
 |x::xs=>x.wf∧cw.wfL xs
end
theorem cw.wfL_iff:∀{l:List cw},cw.wfL l↔∀x∈l,x.wf
 |[]=>by simp[cw.wfL]
 |x::l=>by simp[cw.wfL,cw.wfL_iff (l:=l)]
def jQ{α:Type}(f:α→Int→Int):List α→Int→Int
 |[],m=>m
 |x::xs,m=>if f x m<0 then-1 else jQ f xs (f x m)
def oB{α:Type}(f:α→Int→Int)(l:List α)(m:Int):Int:=if m-l.length<0 then-1 else jQ f l (m-l.length)
def gI{α:Type}(f:α→Int→Int):c0 α→Int→Int
 | .l xs,m=>oB f xs m
 | .b _ _ _,_=> -1
theorem VY{α:Type}{f:α→Int→Int}(aJ:∀x m,0≤m→ -1≤f x m∧f x m≤m):∀(l:List α) (m:Int),0≤m→ -1≤jQ f l m∧jQ f l m≤m
 |[],m,h=>by simp only[jQ];omega
 |x::xs,m,h=>by
  have J:=aJ x m h;simp only[jQ];split
  ·omega
  ·have U:=VY aJ xs (f x m) (by omega);omega
theorem akA{α:Type}{f:α→Int→Int}(aJ:∀x m,0≤m→ -1≤f x m∧f x m≤m)(l:List α)(m:Int)(h:0≤m): -1≤oB f l m∧oB f l m≤m:=by
 unfold oB;split
 ·omega
 ·have:=VY aJ l (m-l.length) (by omega);omega
theorem uS{α:Type}{f:α→Int→Int}(aJ:∀x m,0≤m→ -1≤f x m∧f x m≤m)(l:c0 α)(m:Int)(h:0≤m): -1≤gI f l m∧gI f l m≤m:=by
 cases l with
 |l xs=>exact akA aJ xs m h
 |b=>simp only[gI];omega
mutual
def hX:cw→Int→Int
 | .mk _ _ s a,m=>if m-s.len<0 then-1 else if m-s.len-a.length<0 then-1 else s5 a (m-s.len-a.length)
 | .big _ _ s _ _ _,m=>if m-s.len<0 then-1 else-1
def s5:List cw→Int→Int
 |[],m=>m
 |x::xs,m=>if hX x m<0 then-1 else s5 xs (hX x m)
end
theorem V0:∀(l:List cw) (m:Int),s5 l m=jQ hX l m
 |[],m=>rfl
 |x::xs,m=>by simp only[s5,jQ,V0 xs]
theorem GH(t:cw)(m:Int):hX t m=if m-t.name.len<0 then-1 else gI hX t.args (m-t.name.len):=by
 cases t with
 |mk=>simp only[hX,gI,oB,V0,cw.name,cw.args];rfl
 |big=>simp only[hX,gI,cw.name,cw.args];rfl
theorem gT.len_nn(s:gT):0≤s.len:=by cases s<;>simp[gT.len]
mutual
theorem yg:∀(t:cw) (m:Int),0≤m→ -1≤hX t m∧hX t m≤m
 | .mk _ _ s a,m,h=>by
  have:=s.len_nn;simp only[hX];split
  ·omega
  ·split
   ·omega
   ·have:=V1 a (m-s.len-a.length) (by omega);omega
 | .big _ _ s _ _ _,m,h=>by simp only[hX];split<;>omega
theorem V1:∀(l:List cw) (m:Int),0≤m→ -1≤s5 l m∧s5 l m≤m
 |[],m,h=>by simp only[s5];omega
 |x::xs,m,h=>by
  have J:=yg x m h;simp only[s5];split
  ·omega
  ·have U:=V1 xs (hX x m) (by omega);omega
end
theorem gT.small{s:gT}(hw:s.wf){m:Int}(bA:m≤1048576)(h:0≤m-s.len):∃l,s= .s l:=by
 cases s with
 |s l=>exact⟨l,rfl⟩
 |b x=>simp only[gT.wf,mx,lim]at hw;simp only[gT.len]at h;omega
mutual
def yh:bT→cw
 | .mk k n s a=>.mk k n (.s s) (Av a)
def Av:List bT→List cw
 |[]=>[]
 |x::xs=>yh x::Av xs
end
mutual
theorem Wa:∀t:bT,(yh t).e=enc t
 | .mk k n s a=>by simp only[yh,cw.e,enc,V9 a];rfl
theorem V9:∀l:List bT,cw.eL (Av l)=oS l
 |[]=>rfl
 |x::xs=>by simp only[Av,cw.eL,oS,Wa x,V9 xs]
end
mutual
theorem V3:∀(t:cw) (m:Int),t.wf→m≤1048576→0≤m→0≤hX t m→∃u:bT,t=yh u
 | .mk k n s a,m,hw,J,bA,h=>by
  simp only[cw.wf]at hw;simp only[hX]at h;have:=s.len_nn;split at h
  ·omega
  rename_i g;obtain⟨l,rfl⟩:=gT.small hw.1 J (by omega);split at h
  ·omega
  obtain⟨b,ad⟩:=V2 a _ hw.2 (by omega) (by omega) h;exact⟨.mk k n l b,by simp only[yh,ad]⟩
 | .big _ _ s _ _ _,m,_,_,_,h=>by simp only[hX]at h;split at h<;>omega
theorem V2:∀(l:List cw) (m:Int),cw.wfL l→m≤1048576→0≤m→0≤s5 l m→∃u:List bT,l=Av u
 |[],_,_,_,_,_=>⟨[],rfl⟩
 |x::xs,m,hw,J,bA,h=>by
  simp only[cw.wfL]at hw;simp only[s5]at h;have U:=yg x m bA;split at h
  ·omega
  obtain⟨u,hu⟩:=V3 x m hw.1 J bA (by omega);obtain⟨v,aG⟩:=V2 xs _ hw.2 (by omega) (by omega) h;exact⟨u::v,by simp only[Av,hu,aG]⟩
end
theorem VZ{α β:Type}{f:α→Int→Int}{P:α→Prop}{g:β→α}(hle:∀x m,0≤m→ -1≤f x m∧f x m≤m)(ag:∀x m,P x→m≤1048576→0≤m→0≤f x m→∃y,x=g y):∀(l:List α) (m:Int),(∀x∈l,P x)→m≤1048576→0≤m→0≤jQ f l m→∃u:List β,l=u.map g
 |[],_,_,_,_,_=>⟨[],rfl⟩
 |x::xs,m,hw,J,bA,h=>by
  simp only[jQ]at h;have U:=hle x m bA;split at h
  ·omega
  obtain⟨u,hu⟩:=ag x m (hw x (by simp)) J bA (by omega);obtain⟨v,aG⟩:=VZ hle ag xs _ (fun y aL=>hw y (by simp[aL])) (by omega) (by omega) h;exact⟨u::v,by rw[hf,←hu,←aG]⟩
theorem L6{α β:Type}{f:α→Int→Int}{P:α→Prop}{g:β→α}(hle:∀x m,0≤m→ -1≤f x m∧f x m≤m)(ag:∀x m,P x→m≤1048576→0≤m→0≤f x m→∃y,x=g y)(l:c0 α)(m:Int)(hw:l.wf P)(J:m≤1048576)(bA:0≤m)(h:0≤gI f l m):∃u:List β,l= .l (u.map g):=by
 cases l with
 |b=>simp only[gI]at h;omega
 |l xs=>
  simp only[gI,oB]at h;split at h
  ·omega
  obtain⟨u,hu⟩:=VZ hle ag xs _ hw (by omega) (by omega) h;exact⟨u,by rw[hu]⟩
end Go.Proofs.YtahlgcidhnjlbaaGreat
namespace Go.Proofs.YtahlgcidhnjlbaaGreat
open Go Go.Pv Go.ChangeShapes Go.WideShapes Go.ChangeAt Go.RowKit Go.Deep
def qk(W:World):bd:=⟨fun b o=> ∃u,W.cell? ⟨b,o,none⟩=some u,fun _=>none,fun _=>none,fun _ _ _=>eK⟩
theorem S9(W:World)(b:Nat):∀(us:List Value) (off:Nat),(∀i u,us[i]? =some u→W.cell? ⟨b,off+i,none⟩=some u)→lx W (qk W).A b off us
 |[],_,_=>trivial
 |u::us,off,h=>by
  have bA:W.cell? ⟨b,off,none⟩=some u:=by simpa using h 0 u rfl
  exact⟨⟨⟨u,bA⟩,bA⟩,S9 W b us (off+1) fun i e1 hu=>by have:=h (i+1) e1 (by simpa using hu);rwa[show off+(i+1)=off+1+i from by omega]at this⟩
section
variable {H:Type} {enc:fR×Value→H} {W:World} {spare:Nat→Bool} {held:Bool}
def reads(W:World)(p:ah)(cs:List Value):Prop:= ∃v:Value,v.cells.toList=cs∧a8 W (qk W) p v∧∀c∈cs,c.oneCell'=true
theorem CT{W:World}{cv:List ah}{cs:List Value}(h:c5 W (qk W) cv cs):reads W (.agg cv) cs:=by
 refine⟨.agg cs.toArray,by simp[pe],by simp only[a8];exact⟨cs.toArray,rfl,by simpa using h⟩,?_⟩;have:∀(cv:List ah) (cs:List Value),c5 W (qk W) cv cs→∀c∈cs,c.oneCell'=true:=by
  intro cv;induction cv with
  |nil=>intro cs h;simp only[c5]at h;subst h;simp
  |cons p cv bU=>
   intro cs h c au;simp only[c5]at h;obtain⟨u,us,rfl,J,U⟩:=h;rcases fY.1 au with rfl|au
   ·exact J.2
   ·exact bU us U c au
 exact this cv cs h
def uG(W:World)(p:ah)(v:Value):Prop:=a8 W (qk W) p v∧v.oneCell'=true∧v.cells= #[v]
theorem uG.reads{W:World}{p:ah}{v:Value}(h:uG W p v):reads W p [v]:=⟨v,by rw[h.2.2],h.1,fun c au=>by simp at au;subst au;exact h.2.1⟩
theorem X1{W:World}{wJ wL k j:Nat}:W.cell? (((⟨wJ,wL,none⟩:Addr).add k).add j)=W.cell? ⟨wJ,wL+(k+j),none⟩:=by rw[add_add,Addr.add_lit]
theorem C8{α:Type}{t e:fR}{sz:Nat}(f:α→ah)(Q:α→Prop)(aO:al.underlying t=some (.slice e))(au:al.cellsOf e=sz)(dX:0<sz){fuel:Nat}
  (adl:∀n cs x,n<fuel→iO enc al W 0 spare held n e cs=some x→∃a:α,Q a∧reads W (f a) cs)
  {cs:List Value} {x:DataW H×List MemPlace} (h:iO enc al W 0 spare held fuel t cs=some x):∃l:c0 α,l.wf Q∧∃v,cs=[v]∧uG W (l.e sz f) v:=by
 rcases DataW.trod_slice aO h with⟨rfl,_⟩|⟨a,len,cap,elems,rest,n,rfl,rfl,_,_,av,hm,hlen,Rp,_,_⟩
 ·refine⟨.l [],by simp[c0.wf],_,rfl,?_,rfl,rfl⟩;simp only[c0.e,List.map_nil,a8];exact⟨⟨none,0,rfl,by simp,⟨by simp[maxLen],by simp[lim]⟩,.inl (by simp)⟩,fun e=>(by cases e),fun g e=>(by cases e),fun _ _ e=>(by cases e),fun _ e=>(by cases e)⟩
 by_cases EC:lim<len
 ·refine⟨.b (some a) len cap,⟨EC,by unfold maxLen at hm;omega⟩,_,rfl,?_,rfl,rfl⟩;simp only[c0.e,a8]
 rcases Nat.eq_zero_or_pos len with rfl|fp
 ·refine⟨.l [],by simp[c0.wf],_,rfl,?_,rfl,rfl⟩;simp only[c0.e,List.map_nil,a8];exact⟨⟨some a,cap,rfl,by simp,⟨hm,by simp[lim]⟩,.inl (by simp)⟩,fun e=>(by cases e),fun g e=>(by cases e),fun _ _ e=>(by cases e),fun _ e=>(by cases e)⟩
 rw[au]at Rp;have gW:∀i,i<len→∃cs',cs'.length=sz∧(∀j,j<sz→W.cell? ((a.add (i*sz)).add j)=cs'[j]?)∧∃b:α,Q b∧reads W (f b) cs':=by intro i hi;have J:=Rp i hi;rw[cf (by omega)]at J;obtain⟨cs',U,ao⟩:=mC.1 J;obtain⟨_,ba,b2⟩:=World.cells?_some U;exact⟨cs',ba,b2,adl n cs' _ (by omega) ao⟩
 obtain⟨wJ,wL,spot⟩:=a;have ael:spot=none:=by obtain⟨cs',J,U,_⟩:=gW 0 fp;have ao:=U 0 dX;rw[cf (by omega)]at ao;simpa[Addr.add]using World.cell?_spot ao
 subst ael;have X8:∀d,d≤len→∃xs:List α,xs.length=d∧(∀x∈xs,Q x)∧∃us:List Value,us.length=d*sz∧dw W (qk W) sz (xs.map f) us∧∀j u,us[j]? =some u→W.cell? ⟨wJ,wL+((len-d)*sz+j),none⟩=some u:=by
  intro d;induction d with
  |zero=>intro _;exact⟨[],rfl,by simp,[],by simp,by simp[dw],by simp⟩
  |succ d bU=>
   intro aP;obtain⟨xs,ak,aC,us,bk,dc,gV⟩:=bU (by omega);obtain⟨cs',bH,cl,b,ad,v,v1,v2,v3⟩:=gW (len-(d+1)) (by omega);have hmul:(len-d)*sz=(len-(d+1))*sz+sz:=by rw[show len-d=(len-(d+1))+1 from by omega,Nat.succ_mul]
   refine⟨b::xs,by simp[ak],fun x ae=>?_,cs'++us,by rw[pf,bH,bk,Nat.succ_mul];omega,?_,fun j u af=>?_⟩
   ·rcases fY.1 ae with rfl|ae
    ·exact ad
    ·exact aC x ae
   ·simp only[hf,dw];exact⟨v,us,by rw[v1],⟨v2,by rw[←bH,←v1];simp,by rw[v1];exact v3⟩,dc⟩
   ·rcases Nat.lt_or_ge j sz with bD|tT
    ·rw[List.getElem?_append_left (by omega)]at af;have:=cl j bD;rw[X1]at this;rw[this];exact af
    ·rw[List.getElem?_append_right (by omega),bH]at af;have:=gV (j-sz) u af;rwa[show(len-d)*sz+(j-sz)=(len-(d+1))*sz+j from by omega]at this
 obtain⟨xs,ak,aC,us,bk,dc,gV⟩:=X8 len (eR _);refine⟨.l xs,aC,_,rfl,?_,rfl,rfl⟩;simp only[c0.e,a8];refine⟨⟨some ⟨wJ,wL,none⟩,cap,by rw[List.length_map,ak],by rw[List.length_map,ak];exact av,⟨hm,by rw[List.length_map,ak];omega⟩,.inr ⟨wJ,wL,us,rfl,S9 W wJ us wL fun i u hu=>?_,dc⟩⟩,fun e=>(by cases e),fun g e=>(by cases e),fun _ _ e=>(by cases e),fun _ e=>(by cases e)⟩;have:=gV i u hu;simpa using this
end
end Go.Proofs.YtahlgcidhnjlbaaGreat
namespace Go.Proofs.YtahlgcidhnjlbaaGreat
open Go Go.Pv
@[simp] def aqe:List bu:=[.tmp 2]
def tD:C:=(aa [cN 2 0,bS 4 0] (aa [I 5 1,aF 6 2 1 2,aw 7 1 6,b7 8 (.slen (.t 7)),bh 9 .sub 5 8,I 1 9] (.seq (aa [I 10 1,aT 11 .lss 10 0] (aS 11 (aa [bS 4 (-1)] .ret) .skip)) (aa [aF 12 3 1 2,aw 13 1 12,I 14 1,b4 15 16 13 14,I 1 15] (.seq (aa [I 16 1,aT 17 .lss 16 0] (aS 17 (aa [bS 4 (-1)] .ret) .skip)) (aa [I 18 1,I 4 18] .ret))))))
@[simp] def ai4:List bu:=[.tmp 4]
def HH:C:=(aa [bS 4 0] (aa [I 6 1,I 7 0,cb 8 7,bh 9 .sub 6 8,I 1 9] (.seq (aa [I 10 1,aT 11 .lss 10 0] (aS 11 (aa [bS 4 (-1)] .ret) .skip)) (.seq (aa [bS 5 0] (.block 0 (.loop (.seq (aa [I 12 5,I 13 0,cb 14 13,bh 15 .lss 12 14] (aS 15 .skip (.exit 0))) (.seq (.block 1 (aa [I 18 0,I 19 5,cj 20 4 18 19,a7 21 4 20,I 22 1,b4 23 15 21 22,I 1 23] (aa [I 24 1,aT 25 .lss 24 0] (aS 25 (aa [bS 4 (-1)] .ret) .skip)))) (.region [I 16 5,aT 17 .add 16 1,I 5 17])))))) (aa [I 26 1,I 4 26] .ret)))))
@[simp] def ai5:List bu:=[.tmp 4]
def OC:C:=(aa [cN 1 0,dh 2 dt] (aa [dh 3 dt] (aa [aF 4 0 1 1,aw 5 1 4,aF 6 0 1 3,bM 1 6 5] (aa [aF 7 1 1 1,aw 8 1 7,aF 9 1 1 3,bM 1 9 8] (aa [aF 10 2 1 1,aw 11 1 10,aF 12 2 1 3,bM 1 12 11] (aa [aF 13 3 1 1,aw 14 1 13,cM 15 19 14,aF 16 3 1 3,bM 1 16 15] (aa [a7 17 4 3,bM 4 2 17] .ret)))))))
@[simp] def ajd:List bu:=[.cell 2 true 4]
def OD:C:=(aa [eQ 2 4] (aa [I 5 0,cb 6 5,cU (.mks 7 none 4 30 (.agg dt) (.t 6)),I 3 7] (.seq (aa [bS 4 0] (.block 0 (.loop (.seq (aa [I 8 4,I 9 0,cb 10 9,bh 11 .lss 8 10] (aS 11 .skip (.exit 0))) (.seq (.block 1 (.region [I 14 3,I 15 4,I 16 0,I 17 4,cj 18 4 16 17,a7 19 4 18,cM 20 18 19,cj 21 4 14 15,bM 4 21 20])) (.region [I 12 4,aT 13 .add 12 1,I 4 13])))))) (.seq (.pub 3 (.region [I 22 3,I 2 22])) .ret))))
@[simp] def aje:List bu:=[.tmp 2]
def Ot:C:=(aa [be 4 false] (.seq (aa [I 6 0,cb 7 6,I 8 1,cb 9 8,bh 10 .neq 7 9] (aS 10 (aa [be 4 false] .ret) .skip)) (.seq (aa [bS 5 0] (.block 0 (.loop (.seq (aa [I 11 5,I 12 0,cb 13 12,bh 14 .lss 11 13] (aS 14 .skip (.exit 0))) (.seq (.block 1 (.seq (.drawn true 27 [I 17 0,I 18 5,cj 19 4 17 18,a7 20 4 19,I 21 1,I 22 5,cj 23 4 21 22,a7 24 4 23,b4 25 22 20 24,cx 26 25]) (aS 26 (aa [be 4 false] .ret) .skip))) (.region [I 15 5,aT 16 .add 15 1,I 5 16])))))) (aa [be 4 true] .ret))))
@[simp] def aiW:List bu:=[.tmp 4]
def Oq:C:=(aa [cN 2 0,cN 3 1,be 4 false] (.seq (aa [aF 5 0 1 2,aw 6 1 5,aF 7 0 1 3,aw 8 1 7,bh 9 .neq 6 8] (aS 9 (aa [be 4 false] .ret) .skip)) (.seq (aa [aF 10 1 1 2,aw 11 1 10,aF 12 1 1 3,aw 13 1 12,bh 14 .neq 11 13] (aS 14 (aa [be 4 false] .ret) .skip)) (.seq (aa [aF 15 2 1 2,aw 16 1 15,aF 17 2 1 3,aw 18 1 17,bh 19 .neq 16 18] (aS 19 (aa [be 4 false] .ret) .skip)) (.seq (aa [aF 20 3 1 2,aw 21 1 20,aF 22 3 1 3,aw 23 1 22,b4 24 21 21 23,cx 25 24] (aS 25 (aa [be 4 false] .ret) .skip)) (aa [be 4 true] .ret))))))
@[simp] def aiV:List bu:=[.tmp 4]
def yD:C:=(aa [cN 2 0,bS 4 0] (aa [aF 5 1 1 2,aw 6 1 5,I 7 1,b4 8 33 6 7,I 1 8] (.seq (aa [I 9 1,aT 10 .lss 9 0] (aS 10 (aa [bS 4 (-1)] .ret) .skip)) (aa [aF 11 2 1 2,aw 12 1 11,I 13 1,b4 14 72 12 13,I 1 14] (.seq (aa [I 15 1,aT 16 .lss 15 0] (aS 16 (aa [bS 4 (-1)] .ret) .skip)) (aa [aF 17 3 1 2,aw 18 1 17,I 19 1,b4 20 73 18 19,I 1 20] (.seq (aa [I 21 1,aT 22 .lss 21 0] (aS 22 (aa [bS 4 (-1)] .ret) .skip)) (aa [aF 23 4 1 2,aw 24 1 23,I 25 1,b4 26 74 24 25,I 1 26] (.seq (aa [I 27 1,aT 28 .lss 27 0] (aS 28 (aa [bS 4 (-1)] .ret) .skip)) (aa [I 29 1,I 4 29] .ret))))))))))
@[simp] def ai3:List bu:=[.tmp 4]
def OB:C:=(aa [cN 1 0,dh 2 oj] (aa [dh 3 oj] (aa [aF 4 0 1 1,aw 5 1 4,aF 6 0 1 3,bM 1 6 5] (aa [aF 7 1 1 1,aw 8 1 7,cM 9 35 8,aF 10 1 1 3,bM 1 10 9] (aa [aF 11 2 1 1,aw 12 1 11,cM 13 83 12,aF 14 2 1 3,bM 1 14 13] (aa [aF 15 3 1 1,aw 16 1 15,cM 17 84 16,aF 18 3 1 3,bM 1 18 17] (aa [aF 19 4 1 1,aw 20 1 19,cM 21 85 20,aF 22 4 1 3,bM 1 22 21] (aa [a7 23 5 3,bM 5 2 23] .ret))))))))
@[simp] def ajc:List bu:=[.cell 2 true 5]
def Oo:C:=(aa [cN 2 0,cN 3 1,be 4 false] (.seq (aa [aF 5 0 1 2,aw 6 1 5,aF 7 0 1 3,aw 8 1 7,bh 9 .neq 6 8] (aS 9 (aa [be 4 false] .ret) .skip)) (.seq (aa [aF 10 1 1 2,aw 11 1 10,aF 12 1 1 3,aw 13 1 12,b4 14 37 11 13,cx 15 14] (aS 15 (aa [be 4 false] .ret) .skip)) (.seq (aa [aF 16 2 1 2,aw 17 1 16,aF 18 2 1 3,aw 19 1 18,b4 20 92 17 19,cx 21 20] (aS 21 (aa [be 4 false] .ret) .skip)) (.seq (aa [aF 22 3 1 2,aw 23 1 22,aF 24 3 1 3,aw 25 1 24,b4 26 93 23 25,cx 27 26] (aS 27 (aa [be 4 false] .ret) .skip)) (.seq (aa [aF 28 4 1 2,aw 29 1 28,aF 30 4 1 3,aw 31 1 30,b4 32 94 29 31,cx 33 32] (aS 33 (aa [be 4 false] .ret) .skip)) (aa [be 4 true] .ret)))))))
@[simp] def aiU:List bu:=[.tmp 4]
def HE:C:=(aa [bS 4 0] (aa [I 6 1,I 7 0,cb 8 7,bh 9 .sub 6 8,I 1 9] (.seq (aa [I 10 1,aT 11 .lss 10 0] (aS 11 (aa [bS 4 (-1)] .ret) .skip)) (.seq (aa [bS 5 0] (.block 0 (.loop (.seq (aa [I 12 5,I 13 0,cb 14 13,bh 15 .lss 12 14] (aS 15 .skip (.exit 0))) (.seq (.block 1 (aa [I 18 0,I 19 5,cj 20 5 18 19,a7 21 5 20,I 22 1,b4 23 97 21 22,I 1 23] (aa [I 24 1,aT 25 .lss 24 0] (aS 25 (aa [bS 4 (-1)] .ret) .skip)))) (.region [I 16 5,aT 17 .add 16 1,I 5 17])))))) (aa [I 26 1,I 4 26] .ret)))))
@[simp] def aiZ:List bu:=[.tmp 4]
def Ox:C:=(aa [eQ 2 5] (aa [I 5 0,cb 6 5,cU (.mks 7 none 5 113 (.agg ij) (.t 6)),I 3 7] (.seq (aa [bS 4 0] (.block 0 (.loop (.seq (aa [I 8 4,I 9 0,cb 10 9,bh 11 .lss 8 10] (aS 11 .skip (.exit 0))) (.seq (.block 1 (.region [I 14 3,I 15 4,I 16 0,I 17 4,cj 18 5 16 17,a7 19 5 18,cM 20 101 19,cj 21 5 14 15,bM 5 21 20])) (.region [I 12 4,aT 13 .add 12 1,I 4 13])))))) (.seq (.pub 3 (.region [I 22 3,I 2 22])) .ret))))
@[simp] def ai8:List bu:=[.tmp 2]
def Oj:C:=(aa [be 4 false] (.seq (aa [I 6 0,cb 7 6,I 8 1,cb 9 8,bh 10 .neq 7 9] (aS 10 (aa [be 4 false] .ret) .skip)) (.seq (aa [bS 5 0] (.block 0 (.loop (.seq (aa [I 11 5,I 12 0,cb 13 12,bh 14 .lss 11 13] (aS 14 .skip (.exit 0))) (.seq (.block 1 (.seq (.drawn true 27 [I 17 0,I 18 5,cj 19 5 17 18,a7 20 5 19,I 21 1,I 22 5,cj 23 5 21 22,a7 24 5 23,b4 25 103 20 24,cx 26 25]) (aS 26 (aa [be 4 false] .ret) .skip))) (.region [I 15 5,aT 16 .add 15 1,I 5 16])))))) (aa [be 4 true] .ret))))
@[simp] def aiQ:List bu:=[.tmp 4]
def HF:C:=(aa [bS 4 0] (aa [I 6 1,I 7 0,cb 8 7,bh 9 .sub 6 8,I 1 9] (.seq (aa [I 10 1,aT 11 .lss 10 0] (aS 11 (aa [bS 4 (-1)] .ret) .skip)) (.seq (aa [bS 5 0] (.block 0 (.loop (.seq (aa [I 12 5,I 13 0,cb 14 13,bh 15 .lss 12 14] (aS 15 .skip (.exit 0))) (.seq (.block 1 (aa [I 18 0,I 19 5,cj 20 1 18 19,aw 21 1 20,I 22 1,b4 23 33 21 22,I 1 23] (aa [I 24 1,aT 25 .lss 24 0] (aS 25 (aa [bS 4 (-1)] .ret) .skip)))) (.region [I 16 5,aT 17 .add 16 1,I 5 17])))))) (aa [I 26 1,I 4 26] .ret)))))
@[simp] def ai0:List bu:=[.tmp 4]
def DY:C:=(aa [bS 4 0] (aa [I 5 1,I 6 0,cb 7 6,bh 8 .sub 5 7,I 1 8] (.seq (aa [I 9 1,aT 10 .lss 9 0] (aS 10 (aa [bS 4 (-1)] .ret) .skip)) (aa [I 11 1,I 4 11] .ret))))
@[simp] def ai6:List bu:=[.tmp 4]
def HG:C:=(aa [bS 4 0] (aa [I 6 1,I 7 0,cb 8 7,bh 9 .sub 6 8,I 1 9] (.seq (aa [I 10 1,aT 11 .lss 10 0] (aS 11 (aa [bS 4 (-1)] .ret) .skip)) (.seq (aa [bS 5 0] (.block 0 (.loop (.seq (aa [I 12 5,I 13 0,cb 14 13,bh 15 .lss 12 14] (aS 15 .skip (.exit 0))) (.seq (.block 1 (aa [I 18 0,I 19 5,cj 20 2 18 19,a7 21 2 20,I 22 1,b4 23 144 21 22,I 1 23] (aa [I 24 1,aT 25 .lss 24 0] (aS 25 (aa [bS 4 (-1)] .ret) .skip)))) (.region [I 16 5,aT 17 .add 16 1,I 5 17])))))) (aa [I 26 1,I 4 26] .ret)))))
@[simp] def ai2:List bu:=[.tmp 4]
def Oy:C:=(aa [eQ 2 1] (aa [I 5 0,cb 6 5,cU (.mks 7 none 1 46 (.slice 5 .nil []) (.t 6)),I 3 7] (.seq (aa [bS 4 0] (.block 0 (.loop (.seq (aa [I 8 4,I 9 0,cb 10 9,bh 11 .lss 8 10] (aS 11 .skip (.exit 0))) (.seq (.block 1 (.region [I 14 3,I 15 4,I 16 0,I 17 4,cj 18 1 16 17,aw 19 1 18,cM 20 35 19,cj 21 1 14 15,bM 1 21 20])) (.region [I 12 4,aT 13 .add 12 1,I 4 13])))))) (.seq (.pub 3 (.region [I 22 3,I 2 22])) .ret))))
@[simp] def ai9:List bu:=[.tmp 2]
def OF:C:=(aa [eQ 2 2] (aa [I 5 0,cb 6 5,cU (.mks 7 none 2 98 (.agg [.int .i64 0,.int .i64 0]) (.t 6)),I 3 7] (.seq (aa [bS 4 0] (.block 0 (.loop (.seq (aa [I 8 4,I 9 0,cb 10 9,bh 11 .lss 8 10] (aS 11 .skip (.exit 0))) (.seq (.block 1 (.region [I 14 3,I 15 4,I 16 0,I 17 4,cj 18 2 16 17,a7 19 2 18,cM 20 156 19,cj 21 2 14 15,bM 2 21 20])) (.region [I 12 4,aT 13 .add 12 1,I 4 13])))))) (.seq (.pub 3 (.region [I 22 3,I 2 22])) .ret))))
@[simp] def ajg:List bu:=[.tmp 2]
def OA:C:=(aa [eQ 2 2] (aa [I 5 0,cb 6 5,cU (.mks 7 none 2 100 (.agg [.int .i64 0,.str []]) (.t 6)),I 3 7] (.seq (aa [bS 4 0] (.block 0 (.loop (.seq (aa [I 8 4,I 9 0,cb 10 9,bh 11 .lss 8 10] (aS 11 .skip (.exit 0))) (.seq (.block 1 (.region [I 14 3,I 15 4,I 16 0,I 17 4,cj 18 2 16 17,a7 19 2 18,cM 20 157 19,cj 21 2 14 15,bM 2 21 20])) (.region [I 12 4,aT 13 .add 12 1,I 4 13])))))) (.seq (.pub 3 (.region [I 22 3,I 2 22])) .ret))))
@[simp] def ajb:List bu:=[.tmp 2]
def Ol:C:=(aa [be 4 false] (.seq (aa [I 6 0,cb 7 6,I 8 1,cb 9 8,bh 10 .neq 7 9] (aS 10 (aa [be 4 false] .ret) .skip)) (.seq (aa [bS 5 0] (.block 0 (.loop (.seq (aa [I 11 5,I 12 0,cb 13 12,bh 14 .lss 11 13] (aS 14 .skip (.exit 0))) (.seq (.block 1 (.seq (.drawn true 27 [I 17 0,I 18 5,cj 19 1 17 18,aw 20 1 19,I 21 1,I 22 5,cj 23 1 21 22,aw 24 1 23,b4 25 37 20 24,cx 26 25]) (aS 26 (aa [be 4 false] .ret) .skip))) (.region [I 15 5,aT 16 .add 15 1,I 5 16])))))) (aa [be 4 true] .ret))))
@[simp] def aiR:List bu:=[.tmp 4]
def Ov:C:=(aa [be 4 false] (.seq (aa [I 6 0,cb 7 6,I 8 1,cb 9 8,bh 10 .neq 7 9] (aS 10 (aa [be 4 false] .ret) .skip)) (.seq (aa [bS 5 0] (.block 0 (.loop (.seq (aa [I 11 5,I 12 0,cb 13 12,bh 14 .lss 11 13] (aS 14 .skip (.exit 0))) (.seq (.block 1 (.seq (.drawn true 27 [I 17 0,I 18 5,cj 19 2 17 18,a7 20 2 19,I 21 1,I 22 5,cj 23 2 21 22,a7 24 2 23,b4 25 170 20 24,cx 26 25]) (aS 26 (aa [be 4 false] .ret) .skip))) (.region [I 15 5,aT 16 .add 15 1,I 5 16])))))) (aa [be 4 true] .ret))))
@[simp] def aiY:List bu:=[.tmp 4]
def On:C:=(aa [be 4 false] (.seq (aa [I 6 0,cb 7 6,I 8 1,cb 9 8,bh 10 .neq 7 9] (aS 10 (aa [be 4 false] .ret) .skip)) (.seq (aa [bS 5 0] (.block 0 (.loop (.seq (aa [I 11 5,I 12 0,cb 13 12,bh 14 .lss 11 13] (aS 14 .skip (.exit 0))) (.seq (.block 1 (.seq (.drawn true 27 [I 17 0,I 18 5,cj 19 2 17 18,a7 20 2 19,I 21 1,I 22 5,cj 23 2 21 22,a7 24 2 23,b4 25 171 20 24,cx 26 25]) (aS 26 (aa [be 4 false] .ret) .skip))) (.region [I 15 5,aT 16 .add 15 1,I 5 16])))))) (aa [be 4 true] .ret))))
@[simp] def aiT:List bu:=[.tmp 4]
def HD:C:=(aa [cN 2 0,bS 4 0] (aa [gq 5 1 4 2,a7 6 4 5,I 7 1,b4 8 15 6 7,I 1 8] (.seq (aa [I 9 1,aT 10 .lss 9 0] (aS 10 (aa [bS 4 (-1)] .ret) .skip)) (aa [I 11 1,I 4 11] .ret))))
@[simp] def Lb:List bu:=[.tmp 4]
def Ow:C:=(aa [cN 1 0,dh 2 ij] (aa [dh 3 ij] (aa [aF 4 0 1 1,aw 5 1 4,aF 6 0 1 3,bM 1 6 5] (aa [gq 7 1 4 1,a7 8 4 7,cM 9 18 8,gq 10 1 4 3,bM 4 10 9] (aa [a7 11 5 3,bM 5 2 11] .ret)))))
@[simp] def ai7:List bu:=[.cell 2 true 5]
def Oi:C:=(aa [cN 2 0,cN 3 1,be 4 false] (.seq (aa [aF 5 0 1 2,aw 6 1 5,aF 7 0 1 3,aw 8 1 7,bh 9 .neq 6 8] (aS 9 (aa [be 4 false] .ret) .skip)) (.seq (aa [gq 10 1 4 2,a7 11 4 10,gq 12 1 4 3,a7 13 4 12,b4 14 22 11 13,cx 15 14] (aS 15 (aa [be 4 false] .ret) .skip)) (aa [be 4 true] .ret))))
@[simp] def aiP:List bu:=[.tmp 4]
def DX:C:=(aa [cN 2 0,bS 4 0] (aa [I 5 1,aF 6 1 1 2,aw 7 1 6,b7 8 (.slen (.t 7)),bh 9 .sub 5 8,I 1 9] (.seq (aa [I 10 1,aT 11 .lss 10 0] (aS 11 (aa [bS 4 (-1)] .ret) .skip)) (aa [I 12 1,I 4 12] .ret))))
@[simp] def ai1:List bu:=[.tmp 4]
def OE:C:=(aa [cN 1 0,cU (.alloc 2 none (.agg [.int .i64 0,.int .i64 0]))] (aa [cU (.alloc 3 none (.agg [.int .i64 0,.int .i64 0]))] (aa [aF 4 0 1 1,aw 5 1 4,aF 6 0 1 3,bM 1 6 5] (aa [aF 7 1 1 1,aw 8 1 7,aF 9 1 1 3,bM 1 9 8] (aa [a7 10 2 3,bM 2 2 10] .ret)))))
@[simp] def ajf:List bu:=[.cell 2 true 2]
def Oz:C:=(aa [cN 1 0,cU (.alloc 2 none (.agg [.int .i64 0,.str []]))] (aa [cU (.alloc 3 none (.agg [.int .i64 0,.str []]))] (aa [aF 4 0 1 1,aw 5 1 4,aF 6 0 1 3,bM 1 6 5] (aa [aF 7 1 1 1,aw 8 1 7,aF 9 1 1 3,bM 1 9 8] (aa [a7 10 2 3,bM 2 2 10] .ret)))))
@[simp] def aja:List bu:=[.cell 2 true 2]
def Ou:C:=(aa [cN 2 0,cN 3 1,be 4 false] (.seq (aa [aF 5 0 1 2,aw 6 1 5,aF 7 0 1 3,aw 8 1 7,bh 9 .neq 6 8] (aS 9 (aa [be 4 false] .ret) .skip)) (.seq (aa [aF 10 1 1 2,aw 11 1 10,aF 12 1 1 3,aw 13 1 12,bh 14 .neq 11 13] (aS 14 (aa [be 4 false] .ret) .skip)) (aa [be 4 true] .ret))))
@[simp] def aiX:List bu:=[.tmp 4]
def Om:C:=(aa [cN 2 0,cN 3 1,be 4 false] (.seq (aa [aF 5 0 1 2,aw 6 1 5,aF 7 0 1 3,aw 8 1 7,bh 9 .neq 6 8] (aS 9 (aa [be 4 false] .ret) .skip)) (.seq (aa [aF 10 1 1 2,aw 11 1 10,aF 12 1 1 3,aw 13 1 12,bh 14 .neq 11 13] (aS 14 (aa [be 4 false] .ret) .skip)) (aa [be 4 true] .ret))))
@[simp] def aiS:List bu:=[.tmp 4]
def il:List (Nat×dA):=[
 (3,⟨1,8,.int .i64,.int .i64 0⟩),
 (4,⟨1,1,.bool,.bool false⟩),
 (9,⟨1,16,.str,.str []⟩),
 (22,⟨1,24,.slice 24,.slice 4 .nil []⟩),
 (24,⟨4,56,.struct [(0,3),(1,3),(2,9),(3,22)],.agg [.int .i64 0,.int .i64 0,.str [],.slice 4 .nil []]⟩),
 (27,⟨1,24,.slice 30,.slice 4 .nil []⟩),
 (30,⟨4,56,.struct [(0,3),(1,3),(2,9),(3,27)],.agg [.int .i64 0,.int .i64 0,.str [],.slice 4 .nil []]⟩),
 (38,⟨1,24,.slice 111,.slice 5 .nil []⟩),
 (39,⟨1,24,.slice 38,.slice 1 .nil []⟩),
 (40,⟨1,24,.slice 158,.slice 2 .nil []⟩),
 (41,⟨1,24,.slice 146,.slice 2 .nil []⟩),
 (43,⟨5,104,.struct [(0,3),(1,38),(2,39),(3,40),(4,41)],.agg [.int .i64 0,.slice 5 .nil [],.slice 1 .nil [],.slice 2 .nil [],.slice 2 .nil []]⟩),
 (46,⟨1,24,.slice 113,.slice 5 .nil []⟩),
 (47,⟨1,24,.slice 46,.slice 1 .nil []⟩),
 (48,⟨1,24,.slice 98,.slice 2 .nil []⟩),
 (49,⟨1,24,.slice 100,.slice 2 .nil []⟩),
 (51,⟨5,104,.struct [(0,3),(1,46),(2,47),(3,48),(4,49)],.agg [.int .i64 0,.slice 5 .nil [],.slice 1 .nil [],.slice 2 .nil [],.slice 2 .nil []]⟩),
 (98,⟨2,16,.struct [(0,3),(1,3)],.agg [.int .i64 0,.int .i64 0]⟩),
 (100,⟨2,24,.struct [(0,3),(1,9)],.agg [.int .i64 0,.str []]⟩),
 (111,⟨5,64,.struct [(0,3),(1,24)],.agg [.int .i64 0,.int .i64 0,.int .i64 0,.str [],.slice 4 .nil []]⟩),
 (113,⟨5,64,.struct [(0,3),(1,30)],.agg [.int .i64 0,.int .i64 0,.int .i64 0,.str [],.slice 4 .nil []]⟩),
 (146,⟨2,24,.struct [(0,3),(1,9)],.agg [.int .i64 0,.str []]⟩),
 (158,⟨2,16,.struct [(0,3),(1,3)],.agg [.int .i64 0,.int .i64 0]⟩)]
theorem fA:fL al il=true:=by kernel_rfl
theorem vU:b0 il tD ai4 2 Tryz.f15=true:=by kernel_rfl
theorem va:al.funcs[(15:Nat)]? =some Tryz.f15:=Tryz.func15
theorem T3:b0 il HH ai5 2 Tryz.f16=true:=by kernel_rfl
theorem Qn:al.funcs[(16:Nat)]? =some Tryz.f16:=Tryz.func16
theorem ahn:b0 il OC ajd 1 Tryz.f18=true:=by kernel_rfl
theorem aaR:al.funcs[(18:Nat)]? =some Tryz.f18:=Tryz.func18
theorem aho:b0 il OD aje 1 Tryz.f19=true:=by kernel_rfl
theorem aaS:al.funcs[(19:Nat)]? =some Tryz.f19:=Tryz.func19
theorem ahe:b0 il Ot aiW 2 Tryz.f21=true:=by kernel_rfl
theorem aaI:al.funcs[(21:Nat)]? =some Tryz.f21:=Tryz.func21
theorem ahd:b0 il Oq aiV 2 Tryz.f22=true:=by kernel_rfl
theorem aaH:al.funcs[(22:Nat)]? =some Tryz.f22:=Tryz.func22
theorem CB:b0 il yD ai3 2 Tryz.f26=true:=by kernel_rfl
theorem Ba:al.funcs[(26:Nat)]? =some Tryz.f26:=Tryz.func26
theorem ahm:b0 il OB ajc 1 Tryz.f28=true:=by kernel_rfl
theorem aaQ:al.funcs[(28:Nat)]? =some Tryz.f28:=Tryz.func28
theorem ahc:b0 il Oo aiU 2 Tryz.f30=true:=by kernel_rfl
theorem aaG:al.funcs[(30:Nat)]? =some Tryz.f30:=Tryz.func30
theorem T0:b0 il HE aiZ 2 Tryz.f33=true:=by kernel_rfl
theorem Qk:al.funcs[(33:Nat)]? =some Tryz.f33:=Tryz.func33
theorem ahi:b0 il Ox ai8 1 Tryz.f35=true:=by kernel_rfl
theorem aaM:al.funcs[(35:Nat)]? =some Tryz.f35:=Tryz.func35
theorem ag8:b0 il Oj aiQ 2 Tryz.f37=true:=by kernel_rfl
theorem aaC:al.funcs[(37:Nat)]? =some Tryz.f37:=Tryz.func37
theorem T1:b0 il HF ai0 2 Tryz.f72=true:=by kernel_rfl
theorem Ql:al.funcs[(72:Nat)]? =some Tryz.f72:=Tryz.func72
theorem KN:b0 il DY ai6 2 Tryz.f73=true:=by kernel_rfl
theorem Ir:al.funcs[(73:Nat)]? =some Tryz.f73:=Tryz.func73
theorem T2:b0 il HG ai2 2 Tryz.f74=true:=by kernel_rfl
theorem Qm:al.funcs[(74:Nat)]? =some Tryz.f74:=Tryz.func74
theorem ahj:b0 il Oy ai9 1 Tryz.f83=true:=by kernel_rfl
theorem aaN:al.funcs[(83:Nat)]? =some Tryz.f83:=Tryz.func83
theorem ahq:b0 il OF ajg 1 Tryz.f84=true:=by kernel_rfl
theorem aaU:al.funcs[(84:Nat)]? =some Tryz.f84:=Tryz.func84
theorem ahl:b0 il OA ajb 1 Tryz.f85=true:=by kernel_rfl
theorem aaP:al.funcs[(85:Nat)]? =some Tryz.f85:=Tryz.func85
theorem ag9:b0 il Ol aiR 2 Tryz.f92=true:=by kernel_rfl
theorem aaD:al.funcs[(92:Nat)]? =some Tryz.f92:=Tryz.func92
theorem ahg:b0 il Ov aiY 2 Tryz.f93=true:=by kernel_rfl
theorem aaK:al.funcs[(93:Nat)]? =some Tryz.f93:=Tryz.func93
theorem ahb:b0 il On aiT 2 Tryz.f94=true:=by kernel_rfl
theorem aaF:al.funcs[(94:Nat)]? =some Tryz.f94:=Tryz.func94
theorem TZ:b0 il HD Lb 2 Tryz.f97=true:=by kernel_rfl
theorem Qj:al.funcs[(97:Nat)]? =some Tryz.f97:=Tryz.func97
theorem ahh:b0 il Ow ai7 1 Tryz.f101=true:=by kernel_rfl
theorem aaL:al.funcs[(101:Nat)]? =some Tryz.f101:=Tryz.func101
theorem ag7:b0 il Oi aiP 2 Tryz.f103=true:=by kernel_rfl
theorem aaB:al.funcs[(103:Nat)]? =some Tryz.f103:=Tryz.func103
theorem KM:b0 il DX ai1 2 Tryz.f144=true:=by kernel_rfl
theorem Iq:al.funcs[(144:Nat)]? =some Tryz.f144:=Tryz.func144
theorem ahp:b0 il OE ajf 1 Tryz.f156=true:=by kernel_rfl
theorem aaT:al.funcs[(156:Nat)]? =some Tryz.f156:=Tryz.func156
theorem ahk:b0 il Oz aja 1 Tryz.f157=true:=by kernel_rfl
theorem aaO:al.funcs[(157:Nat)]? =some Tryz.f157:=Tryz.func157
theorem ahf:b0 il Ou aiX 2 Tryz.f170=true:=by kernel_rfl
theorem aaJ:al.funcs[(170:Nat)]? =some Tryz.f170:=Tryz.func170
theorem aha:b0 il Om aiS 2 Tryz.f171=true:=by kernel_rfl
theorem aaE:al.funcs[(171:Nat)]? =some Tryz.f171:=Tryz.func171
def h8{α:Type}(f:α→ah)(z:ah)(l:List α)(i:Nat):List ah:=(l.take i).map f++qP (l.length-i) z
theorem oo{α:Type}(f:α→ah)(z:ah)(l:List α):h8 f z l 0=qP l.length z:=by simp[h8]
theorem Cs{α:Type}(f:α→ah)(z:ah)(l:List α):h8 f z l l.length=l.map f:=by simp[h8]
theorem Ct{α:Type}(f:α→ah)(z:ah)(l:List α){i:Nat}(hi:i<l.length):(h8 f z l i)[i]? =some z:=by
 unfold h8;have h:((l.take i).map f).length=i:=by simp;omega
 rw[List.getElem?_append_right (by omega),h,Nat.sub_self,List.getElem?_replicate,if_pos (by omega)]
theorem Cu{α:Type}(f:α→ah)(z:ah)(l:List α){i:Nat}{x:α}(ae:l[i]? =some x):(h8 f z l i).set i (f x)=h8 f z l (i+1):=by
 have hi:=(fi.1 ae).1;unfold h8;have h:((l.take i).map f).length=i:=by simp;omega
 rw[List.set_append_right _ _ (by omega),h,Nat.sub_self,qI ae,List.map_append,List.append_assoc];congr 1;obtain⟨m,hm⟩:∃m,l.length-i=m+1:=⟨l.length-i-1,by omega⟩;rw[hm,show l.length-(i+1)=m from by omega,List.replicate_succ,List.set_cons_zero];rfl
theorem SN(S:aH→Prop):∀{a b:List ah},aI S (a++b)↔aI S a∧aI S b
 |[],b=>by simp[aI]
 |x::a,b=>by simp[aI,SN S (a:=a),and_assoc]
theorem SP{α:Type}(S:aH→Prop)(f:α→ah)(aJ:∀x,aB S (f x)):∀l:List α,aI S (l.map f)
 |[]=>by simp[aI]
 |x::xs=>by simp[aI,SP S f aJ xs,aJ]
theorem xH(S:aH→Prop)(z:ah)(bp:aB S z):∀n,aI S (qP n z)
 |0=>by simp[aI]
 |n+1=>by simp[List.replicate_succ,aI,xH S z bp n,bp]
theorem Cg{α:Type}(S:aH→Prop)(f:α→ah)(z:ah)(l:List α)(i:Nat)(aJ:∀x,aB S (f x))(bp:aB S z):aI S (h8 f z l i):=by unfold h8;rw[SN];exact⟨SP S f aJ _,xH S z bp _⟩
theorem WK(l:c0 cw)(hw:∀p n cap,l= .b p n cap→mx n)(aJ:∀xs,l= .l xs→∀x∈xs,∀m,0≤m→m≤1048576→bF al 15 [cw.e x,.int .i64 m] (.int .i64 (hX x m)))(m:Int)(bA:0≤m)(J:m≤1048576):bF al 16 [l.e 4 cw.e,.int .i64 m] (.int .i64 (gI hX l m)):=by
 cases l with
 |b p n cap=>
  have aA:=hw p n cap rfl;simp only[mx,lim]at aA;have g:m-n<0:=by omega
  simp only[c0.e,gI];clear hw aJ;refine bm fA Qn T3 fun aQ=>?_;unfold HH;exact b5
 |l l=>
 have aJ:=aJ l rfl;clear hw;simp only[c0.e,gI];generalize bf:oB hX l m=R;unfold oB at bf;refine bm fA Qn T3 fun aQ=>?_;unfold HH;have eY:l.length≤68719476736:=by simp[ez,dZ,eo,lim]at aQ;omega
 simp;by_cases g:m-l.length<0
 ·rw[if_pos g]at bf;subst bf;exact b5
 rw[if_neg g]at bf;(with_reducible repeat' first|refine aj ?_|simp[g]);refine dI [0] (fun i (k:Int)=>[(1,.int .i64 k),(5,.int .i64 i)]) l.length (fun i k=>(0≤k∧k≤1048576)∧jQ hX (l.drop i) k=R) (m-l.length) bW ⟨⟨by omega,by omega⟩,by simpa using bf⟩ (fun k af _=>?_) (fun i k hi af _=>?_)
 ·obtain⟨_,af⟩:=af;rw[List.drop_length]at af;simp only[jQ]at af;subst af;exact b5
 ·obtain⟨⟨fb,aU⟩,af⟩:=af;obtain⟨x,ae,cE⟩:=dP hi;have key:=aJ x (dL ae) k fb aU;have hle:=yg x k fb;rw[sN ae]at af;simp only[jQ]at af;generalize hX x k=q at key hle af;clear ae;by_cases br:q<0
  ·rw[if_pos br]at af;subst af;exact b5
  ·rw[if_neg br]at af;simp[hi,cE];((with_reducible repeat' first|refine aj ?_|refine aD key ?_|refine aE key ?_|simp[hi,cE,br]|((first|apply bL|apply bQ|apply bP)<;>intro h<;>try simp at h))<;>(try exact cq));all_goals exact bO.rng q hi ⟨⟨by omega,by omega⟩,af⟩ bW
theorem al9(l:List bT)(aJ:∀x∈l,bF al 18 [enc x] (enc x)):bF al 19 [.slice 4 .no (l.map enc)] (.slice 4 .no (l.map enc)):=by
 refine bm fA aaS aho fun aQ=>?_;unfold OD;have eY:l.length≤68719476736:=by simp[ez,dZ,eo,lim]at aQ;omega
 simp;all_goals first|(refine⟨by unfold lim;omega,?_⟩)|skip
 (with_reducible repeat' first|refine aj ?_|simp);have fl:∀(S:aH→Prop) (n:Nat),aI S (qP n (.agg [.int .i64 0,.int .i64 0,.str [],.slice 4 .nil []]))=True:=fun S n=>eq_true (xH S _ (by simp[aB,aI]) n);refine iA (fun i (_:Unit)=>⟨[(0,.slice 4 .no (l.map enc)),(3,.row 4 (.loc 0) l.length),(4,.int .i64 i)],[],[(.loc 0,⟨l.length,30,4,some (h8 enc (.agg [.int .i64 0,.int .i64 0,.str [],.slice 4 .nil []]) l i)⟩)],1,[]⟩) l.length (fun _ _=>True) () ⟨by simp[fresh,aI,aB,cn,inObs,Pv.look,oo,fl],er (by simp[fresh,aI,aB,cn,inObs,Pv.look,oo,fl]),et (by simp[fresh,aI,aB,dW,inObs,Pv.look,oo,fl]),by simp⟩ trivial (fun _ _ _=>?_) (fun i _ hi _ _=>?_)
 ·rw[Cs];exact b5
 ·obtain⟨x,ae,cE⟩:=dP hi;have key:=aJ x (dL ae);have ak:=Ct enc (.agg [.int .i64 0,.int .i64 0,.str [],.slice 4 .nil []]) l hi;have aC:=Cu enc (.agg [.int .i64 0,.int .i64 0,.str [],.slice 4 .nil []]) l ae;have bk:∀S:aH→Prop,aI S (h8 enc (.agg [.int .i64 0,.int .i64 0,.str [],.slice 4 .nil []]) l (i+1)):=fun S=>Cg S _ _ _ _ (fun x=>by simp) (by simp[aB,aI]);generalize h8 enc (.agg [.int .i64 0,.int .i64 0,.str [],.slice 4 .nil []]) l i=r0 at ak aC;generalize o1:h8 enc (.agg [.int .i64 0,.int .i64 0,.str [],.slice 4 .nil []]) l (i+1)=dH at aC bk;clear ae;simp[hi,cE];(with_reducible repeat' first|refine aj ?_|refine aD key ?_|refine aE key ?_|simp[hi,cE,ak,aC]);all_goals refine bO.rng () hi trivial ?_
  all_goals rw[o1]
  all_goals first
   |exact⟨by simp[fresh,aI,aB,cn,inObs,Pv.look,bk],er (by simp[fresh,aI,aB,cn,inObs,Pv.look,bk]),et (by simp[fresh,aI,aB,dW,inObs,Pv.look,bk]),by simp⟩
   |exact⟨by simp[fresh,aI,aB,cn,inObs,Pv.look,bk],er (by simp[fresh,aI,aB,cn,inObs,Pv.look,bk]),et (by simp[fresh,aI,aB,dW,inObs,Pv.look,bk];exact aC),by simp⟩
theorem ald(l:List bT)(aJ:∀x∈l,bF al 22 [enc x,enc x] (.bool true)):bF al 21 [.slice 4 .no (l.map enc),.slice 4 .no (l.map enc)] (.bool true):=by
 refine bm fA aaI ahe fun aQ=>?_;unfold Ot;have eY:l.length≤68719476736:=by simp[ez,dZ,eo,lim]at aQ;omega
 simp;(with_reducible repeat' first|refine aj ?_|simp);refine dI [0,1] (fun i (_:Unit)=>[(5,.int .i64 i)]) l.length (fun _ _=>True) () bW trivial (fun _ _ _=>?_) (fun i _ hi _ _=>?_)
 ·exact b5
 ·obtain⟨x,ae,cE⟩:=dP hi;have key:=aJ x (dL ae);clear ae;exact fV
theorem alZ(t:cw)(hw:t.wf):∀m:Int,0≤m→m≤1048576→bF al 15 [t.e,.int .i64 m] (.int .i64 (hX t m)):=by
 suffices H:∀(k:Nat) (t:cw),t.sz≤k→t.wf→∀m:Int,0≤m→m≤1048576→bF al 15 [t.e,.int .i64 m] (.int .i64 (hX t m))from H _ t (eR _) hw
 intro k;clear hw t;induction k with
 |zero=>intro t aO;cases t<;>simp[cw.sz]at aO
 |succ k bU=>
  intro t aO hw m bA J;cases t with
  |mk s9 ta s a=>
   simp only[cw.wf,cw.wfL_iff]at hw;obtain⟨BY,Bw⟩:=hw;have kh:m-s.len<0→hX (.mk s9 ta s a) m= -1:=fun g=>by rw[GH];exact if_pos g
   have ki:¬m-s.len<0→hX (.mk s9 ta s a) m=gI hX (.l a) (m-s.len):=fun g=>by rw[GH];exact if_neg g
   generalize hX (.mk s9 ta s a) m=R at kh ki;have BN:=s.len_nn;have key:=fun h=>WK (.l a) (fun p n c e=>by cases e) (fun xs e x ae=>by cases e;exact bU x (by have:=cw.szL_mem ae;simp only[cw.sz]at aO;omega) (Bw x ae)) (m-s.len) h (by omega);have hle:=fun h=>uS yg (.l a) (m-s.len) h;simp only[cw.e,cw.eL_map];simp only[c0.e]at key;clear aO Bw;cases s with
   |b x=>
    simp only[gT.wf,mx,lim]at BY;have g:m-x.size<0:=by omega
    have bf:=kh g;subst bf;clear kh ki;clear key hle bU;simp only[gT.e];refine bm fA va vU fun aQ=>?_;unfold tD;exact b5
   |s l=>
    simp only[gT.len]at kh ki key hle;simp only[gT.e];by_cases g:m-l.length<0
    ·have bf:=kh g;subst bf;clear kh ki;clear key hle bU;refine bm fA va vU fun aQ=>?_;unfold tD;have eY:l.length≤68719476736:=by simp[ez,dZ,eo,lim]at aQ;omega
     exact b5
    ·have bf:=ki g;clear kh ki;have key:=key (by omega);have hle:=hle (by omega);rw[←bf]at key hle;clear bf bU;by_cases br:R<0
     ·have:R= -1:=by omega
      subst this;refine bm fA va vU fun aQ=>?_;unfold tD;have eY:l.length≤68719476736:=by simp[ez,dZ,eo,lim]at aQ;omega
      exact b5
     ·refine bm fA va vU fun aQ=>?_;unfold tD;have eY:l.length≤68719476736:=by simp[ez,dZ,eo,lim]at aQ;omega
      exact b5
  |big s9 ta s p n c=>
   simp only[cw.wf]at hw;obtain⟨BY,Bw⟩:=hw;have kh:m-s.len<0→hX (.big s9 ta s p n c) m= -1:=fun g=>by rw[GH];exact if_pos g
   have ki:¬m-s.len<0→hX (.big s9 ta s p n c) m=gI hX (.b p n c) (m-s.len):=fun g=>by rw[GH];exact if_neg g
   generalize hX (.big s9 ta s p n c) m=R at kh ki;have BN:=s.len_nn;have key:=fun h=>WK (.b p n c) (fun p n c e=>by cases e;exact Bw) (fun xs e=>by cases e) (m-s.len) h (by omega);have hle:=fun h=>uS yg (.b p n c) (m-s.len) h;simp only[cw.e];simp only[c0.e]at key;clear aO Bw;cases s with
   |b x=>
    simp only[gT.wf,mx,lim]at BY;have g:m-x.size<0:=by omega
    have bf:=kh g;subst bf;clear kh ki;clear key hle bU;simp only[gT.e];refine bm fA va vU fun aQ=>?_;unfold tD;exact b5
   |s l=>
    simp only[gT.len]at kh ki key hle;simp only[gT.e];by_cases g:m-l.length<0
    ·have bf:=kh g;subst bf;clear kh ki;clear key hle bU;refine bm fA va vU fun aQ=>?_;unfold tD;have eY:l.length≤68719476736:=by simp[ez,dZ,eo,lim]at aQ;omega
     exact b5
    ·have bf:=ki g;clear kh ki;have key:=key (by omega);have hle:=hle (by omega);rw[←bf]at key hle;clear bf bU;by_cases br:R<0
     ·have:R= -1:=by omega
      subst this;refine bm fA va vU fun aQ=>?_;unfold tD;have eY:l.length≤68719476736:=by simp[ez,dZ,eo,lim]at aQ;omega
      exact b5
     ·refine bm fA va vU fun aQ=>?_;unfold tD;have eY:l.length≤68719476736:=by simp[ez,dZ,eo,lim]at aQ;omega
      exact b5
theorem al8(t:bT):bF al 18 [enc t] (enc t):=by
 suffices H:∀(k:Nat) (t:bT),t.sz≤k→bF al 18 [enc t] (enc t)from H _ t (eR _)
 intro k;induction k with
 |zero=>intro t aO;cases t;simp[bT.sz]at aO
 |succ k bU=>intro t aO;have key:=al9 t.args (fun x ae=>bU x (by have:=L8 ae;omega));clear bU;refine bm fA aaR ahn fun aQ=>?_;unfold OC;exact b5
theorem alc(t:bT):bF al 22 [enc t,enc t] (.bool true):=by
 suffices H:∀(k:Nat) (t:bT),t.sz≤k→bF al 22 [enc t,enc t] (.bool true)from H _ t (eR _)
 intro k;induction k with
 |zero=>intro t aO;cases t;simp[bT.sz]at aO
 |succ k bU=>intro t aO;have key:=ald t.args (fun x ae=>bU x (by have:=L8 ae;omega));clear bU;refine bm fA aaH ahd fun aQ=>?_;unfold Oq;exact b5
structure eM where
 v:Int
 t:cw
def eM.e(b:eM):ah:= .agg [.int .i64 b.v,.int .i64 b.t.kind,.int .i64 b.t.num,b.t.name.e,b.t.args.e 4 cw.e]
@[simp] theorem aoI(S:aH→Prop)(b:eM):aB S b.e=True:=by simp[eM.e,aB,aI]
@[simp] theorem ari(b:eM):dq b.e=b.e:=by simp[eM.e,dq,cZ]
theorem SR(S:aH→Prop):∀l:List eM,aI S (l.map eM.e)
 |[]=>by simp[aI]
 |x::xs=>by simp[aI,SR S xs]
@[simp] theorem aox(S:aH→Prop)(l:List eM):aI S (l.map eM.e)=True:=eq_true (SR S l)
@[simp] theorem aqL(b:eM):eb b.e=true:=rfl
@[simp] theorem aof(b:eM):Pv.isAgg 5 b.e:=⟨_,rfl,rfl⟩
@[simp] theorem amO(b:eM):cells b.e=[.int .i64 b.v,.int .i64 b.t.kind,.int .i64 b.t.num,b.t.name.e,b.t.args.e 4 cw.e]:=rfl
structure hg where
 v:Int
 s:gT
def hg.e(b:hg):ah:= .agg [.int .i64 b.v,b.s.e]
@[simp] theorem aoU(S:aH→Prop)(b:hg):aB S b.e=True:=by simp[hg.e,aB,aI]
@[simp] theorem arw(b:hg):dq b.e=b.e:=by simp[hg.e,dq,cZ]
theorem SZ(S:aH→Prop):∀l:List hg,aI S (l.map hg.e)
 |[]=>by simp[aI]
 |x::xs=>by simp[aI,SZ S xs]
@[simp] theorem aoC(S:aH→Prop)(l:List hg):aI S (l.map hg.e)=True:=eq_true (SZ S l)
@[simp] theorem aq3(b:hg):eb b.e=true:=rfl
@[simp] theorem aok(b:hg):Pv.isAgg 2 b.e:=⟨_,rfl,rfl⟩
@[simp] theorem am5(b:hg):cells b.e=[.int .i64 b.v,b.s.e]:=rfl
def rV(b:eM)(m:Int):Int:=hX b.t m
theorem L4(b:eM)(m:Int)(h:0≤m): -1≤rV b m∧rV b m≤m:=yg b.t m h
def lD(b:hg)(m:Int):Int:=if m-b.s.len<0 then-1 else m-b.s.len
theorem De(b:hg)(m:Int)(h:0≤m): -1≤lD b m∧lD b m≤m:=by have:=b.s.len_nn;unfold lD;split<;>omega
theorem DJ(t:cw):ah.agg [.int .i64 t.kind,.int .i64 t.num,t.name.e,t.args.e 4 cw.e]=t.e:=(cw.e_eq t).symm
theorem alT(b:eM)(hw:b.t.wf)(m:Int)(bA:0≤m)(J:m≤1048576):bF al 97 [b.e,.int .i64 m] (.int .i64 (rV b m)):=by
 have key:=alZ b.t hw m bA J;have hle:=yg b.t m bA;unfold rV;generalize hX b.t m=q at key hle⊢;by_cases br:q<0
 ·have:q= -1:=by omega
  subst this;refine bm fA Qj TZ fun aQ=>?_;unfold HD;simp[DJ];(with_reducible repeat' first|refine aj ?_|refine aD key ?_|refine aE key ?_|simp[DJ]);all_goals simp[bz,Lb,aW,aX,aV]
 ·refine bm fA Qj TZ fun aQ=>?_;unfold HD;simp[DJ];(with_reducible repeat' first|refine aj ?_|refine aD key ?_|refine aE key ?_|simp[br,DJ]);all_goals simp[bz,Lb,aW,aX,aV]
theorem al2(b:cI):bF al 101 [b.e] b.e:=by have key:=al8 b.t;refine bm fA aaL ahh fun aQ=>?_;unfold Ow;exact b5
theorem ak6(b:cI):bF al 103 [b.e,b.e] (.bool true):=by have key:=alc b.t;refine bm fA aaB ag7 fun aQ=>?_;unfold Oi;exact b5
theorem alW(b:hg)(hw:b.s.wf)(m:Int)(bA:0≤m)(J:m≤1048576):bF al 144 [b.e,.int .i64 m] (.int .i64 (lD b m)):=by
 have kh:m-b.s.len<0→lD b m= -1:=fun g=>if_pos g;have ki:¬m-b.s.len<0→lD b m=m-b.s.len:=fun g=>if_neg g;generalize lD b m=R at kh ki;obtain⟨v,s⟩:=b;simp only[hg.e]at hw kh ki⊢;cases s with
 |b x=>
  simp only[gT.wf,mx,lim]at hw;have g:m-x.size<0:=by omega
  have bf:=kh g;subst bf;clear kh ki;simp only[gT.e];refine bm fA Iq KM fun aQ=>?_;unfold DX;exact b5
 |s l=>
  simp only[gT.e];by_cases g:m-l.length<0
  ·have bf:=kh g;subst bf;clear kh ki hw;refine bm fA Iq KM fun aQ=>?_;unfold DX;have eY:l.length≤68719476736:=by simp[ez,dZ,eo,lim]at aQ;omega
   exact b5
  ·have bf:R=m-l.length:=ki g;subst bf;clear kh ki hw;refine bm fA Iq KM fun aQ=>?_;unfold DX;have eY:l.length≤68719476736:=by simp[ez,dZ,eo,lim]at aQ;omega
   exact b5
theorem ama(b:bJ):bF al 156 [b.e] b.e:=by refine bm fA aaT ahp fun aQ=>?_;unfold OE;exact b5
theorem al5(b:bj):bF al 157 [b.e] b.e:=by refine bm fA aaO ahk fun aQ=>?_;unfold Oz;exact b5
theorem ale(b:bJ):bF al 170 [b.e,b.e] (.bool true):=by refine bm fA aaJ ahf fun aQ=>?_;unfold Ou;exact b5
theorem ak9(b:bj):bF al 171 [b.e,b.e] (.bool true):=by refine bm fA aaE aha fun aQ=>?_;unfold Om;exact b5
@[simp high] theorem aqE(x y:bj):mw x.e 0 [.int .i64 y.v,.str y.s]=y.e:=rfl
@[simp high] theorem aqD(x y:bJ):mw x.e 0 [.int .i64 y.v,.int .i64 y.k]=y.e:=rfl
theorem alU(l:c0 eM)(hw:∀p n cap,l= .b p n cap→mx n)(aJ:∀xs,l= .l xs→∀x∈xs,∀m,0≤m→m≤1048576→bF al 97 [eM.e x,.int .i64 m] (.int .i64 (rV x m)))(m:Int)(bA:0≤m)(J:m≤1048576):bF al 33 [l.e 5 eM.e,.int .i64 m] (.int .i64 (gI rV l m)):=by
 cases l with
 |b p n cap=>
  have aA:=hw p n cap rfl;simp only[mx,lim]at aA;have g:m-n<0:=by omega
  simp only[c0.e,gI];clear hw aJ;refine bm fA Qk T0 fun aQ=>?_;unfold HE;exact b5
 |l l=>
 have aJ:=aJ l rfl;clear hw;simp only[c0.e,gI];generalize bf:oB rV l m=R;unfold oB at bf;refine bm fA Qk T0 fun aQ=>?_;unfold HE;have eY:l.length≤68719476736:=by simp[ez,dZ,eo,lim]at aQ;omega
 simp;by_cases g:m-l.length<0
 ·rw[if_pos g]at bf;subst bf;exact b5
 rw[if_neg g]at bf;(with_reducible repeat' first|refine aj ?_|simp[g]);refine dI [0] (fun i (k:Int)=>[(1,.int .i64 k),(5,.int .i64 i)]) l.length (fun i k=>(0≤k∧k≤1048576)∧jQ rV (l.drop i) k=R) (m-l.length) bW ⟨⟨by omega,by omega⟩,by simpa using bf⟩ (fun k af _=>?_) (fun i k hi af _=>?_)
 ·obtain⟨_,af⟩:=af;rw[List.drop_length]at af;simp only[jQ]at af;subst af;exact b5
 ·obtain⟨⟨fb,aU⟩,af⟩:=af;obtain⟨x,ae,cE⟩:=dP hi;have key:=aJ x (dL ae) k fb aU;have hle:=L4 x k fb;rw[sN ae]at af;simp only[jQ]at af;generalize rV x k=q at key hle af;clear ae;by_cases br:q<0
  ·rw[if_pos br]at af;subst af;exact b5
  ·rw[if_neg br]at af;simp[hi,cE];((with_reducible repeat' first|refine aj ?_|refine aD key ?_|refine aE key ?_|simp[hi,cE,br]|((first|apply bL|apply bQ|apply bP)<;>intro h<;>try simp at h))<;>(try exact cq));all_goals exact bO.rng q hi ⟨⟨by omega,by omega⟩,af⟩ bW
theorem al3(l:List cI)(aJ:∀x∈l,bF al 101 [cI.e x] (cI.e x)):bF al 35 [.slice 5 .no (l.map cI.e)] (.slice 5 .no (l.map cI.e)):=by
 refine bm fA aaM ahi fun aQ=>?_;unfold Ox;have eY:l.length≤68719476736:=by simp[ez,dZ,eo,lim]at aQ;omega
 simp;all_goals first|(refine⟨by unfold lim;omega,?_⟩)|skip
 (with_reducible repeat' first|refine aj ?_|simp);have fl:∀(S:aH→Prop) (n:Nat),aI S (qP n (.agg [.int .i64 0,.int .i64 0,.int .i64 0,.str [],.slice 4 .nil []]))=True:=fun S n=>eq_true (xH S _ (by simp[aB,aI]) n);refine iA (fun i (_:Unit)=>⟨[(0,.slice 5 .no (l.map cI.e)),(3,.row 5 (.loc 0) l.length),(4,.int .i64 i)],[],[(.loc 0,⟨l.length,113,5,some (h8 cI.e (.agg [.int .i64 0,.int .i64 0,.int .i64 0,.str [],.slice 4 .nil []]) l i)⟩)],1,[]⟩) l.length (fun _ _=>True) () ⟨by simp[fresh,aI,aB,cn,inObs,Pv.look,oo,fl],er (by simp[fresh,aI,aB,cn,inObs,Pv.look,oo,fl]),et (by simp[fresh,aI,aB,dW,inObs,Pv.look,oo,fl]),by simp⟩ trivial (fun _ _ _=>?_) (fun i _ hi _ _=>?_)
 ·rw[Cs];exact b5
 ·obtain⟨x,ae,cE⟩:=dP hi;have key:=aJ x (dL ae);have ak:=Ct cI.e (.agg [.int .i64 0,.int .i64 0,.int .i64 0,.str [],.slice 4 .nil []]) l hi;have aC:=Cu cI.e (.agg [.int .i64 0,.int .i64 0,.int .i64 0,.str [],.slice 4 .nil []]) l ae;have bk:∀S:aH→Prop,aI S (h8 cI.e (.agg [.int .i64 0,.int .i64 0,.int .i64 0,.str [],.slice 4 .nil []]) l (i+1)):=fun S=>Cg S _ _ _ _ (fun x=>by simp) (by simp[aB,aI]);generalize h8 cI.e (.agg [.int .i64 0,.int .i64 0,.int .i64 0,.str [],.slice 4 .nil []]) l i=r0 at ak aC;generalize o1:h8 cI.e (.agg [.int .i64 0,.int .i64 0,.int .i64 0,.str [],.slice 4 .nil []]) l (i+1)=dH at aC bk;clear ae;simp[hi,cE];(with_reducible repeat' first|refine aj ?_|refine aD key ?_|refine aE key ?_|simp[hi,cE,ak,aC]);all_goals refine bO.rng () hi trivial ?_
  all_goals rw[o1]
  all_goals first
   |exact⟨by simp[fresh,aI,aB,cn,inObs,Pv.look,bk],er (by simp[fresh,aI,aB,cn,inObs,Pv.look,bk]),et (by simp[fresh,aI,aB,dW,inObs,Pv.look,bk]),by simp⟩
   |exact⟨by simp[fresh,aI,aB,cn,inObs,Pv.look,bk],er (by simp[fresh,aI,aB,cn,inObs,Pv.look,bk]),et (by simp[fresh,aI,aB,dW,inObs,Pv.look,bk];exact aC),by simp⟩
theorem ak7(l:List cI)(aJ:∀x∈l,bF al 103 [cI.e x,cI.e x] (.bool true)):bF al 37 [.slice 5 .no (l.map cI.e),.slice 5 .no (l.map cI.e)] (.bool true):=by
 refine bm fA aaC ag8 fun aQ=>?_;unfold Oj;have eY:l.length≤68719476736:=by simp[ez,dZ,eo,lim]at aQ;omega
 simp;(with_reducible repeat' first|refine aj ?_|simp);refine dI [0,1] (fun i (_:Unit)=>[(5,.int .i64 i)]) l.length (fun _ _=>True) () bW trivial (fun _ _ _=>?_) (fun i _ hi _ _=>?_)
 ·exact b5
 ·obtain⟨x,ae,cE⟩:=dP hi;have key:=aJ x (dL ae);clear ae;exact fV
theorem alX(l:c0 hg)(hw:∀p n cap,l= .b p n cap→mx n)(aJ:∀xs,l= .l xs→∀x∈xs,∀m,0≤m→m≤1048576→bF al 144 [hg.e x,.int .i64 m] (.int .i64 (lD x m)))(m:Int)(bA:0≤m)(J:m≤1048576):bF al 74 [l.e 2 hg.e,.int .i64 m] (.int .i64 (gI lD l m)):=by
 cases l with
 |b p n cap=>
  have aA:=hw p n cap rfl;simp only[mx,lim]at aA;have g:m-n<0:=by omega
  simp only[c0.e,gI];clear hw aJ;refine bm fA Qm T2 fun aQ=>?_;unfold HG;exact b5
 |l l=>
 have aJ:=aJ l rfl;clear hw;simp only[c0.e,gI];generalize bf:oB lD l m=R;unfold oB at bf;refine bm fA Qm T2 fun aQ=>?_;unfold HG;have eY:l.length≤68719476736:=by simp[ez,dZ,eo,lim]at aQ;omega
 simp;by_cases g:m-l.length<0
 ·rw[if_pos g]at bf;subst bf;exact b5
 rw[if_neg g]at bf;(with_reducible repeat' first|refine aj ?_|simp[g]);refine dI [0] (fun i (k:Int)=>[(1,.int .i64 k),(5,.int .i64 i)]) l.length (fun i k=>(0≤k∧k≤1048576)∧jQ lD (l.drop i) k=R) (m-l.length) bW ⟨⟨by omega,by omega⟩,by simpa using bf⟩ (fun k af _=>?_) (fun i k hi af _=>?_)
 ·obtain⟨_,af⟩:=af;rw[List.drop_length]at af;simp only[jQ]at af;subst af;exact b5
 ·obtain⟨⟨fb,aU⟩,af⟩:=af;obtain⟨x,ae,cE⟩:=dP hi;have key:=aJ x (dL ae) k fb aU;have hle:=De x k fb;rw[sN ae]at af;simp only[jQ]at af;generalize lD x k=q at key hle af;clear ae;by_cases br:q<0
  ·rw[if_pos br]at af;subst af;exact b5
  ·rw[if_neg br]at af;simp[hi,cE];((with_reducible repeat' first|refine aj ?_|refine aD key ?_|refine aE key ?_|simp[hi,cE,br]|((first|apply bL|apply bQ|apply bP)<;>intro h<;>try simp at h))<;>(try exact cq));all_goals exact bO.rng q hi ⟨⟨by omega,by omega⟩,af⟩ bW
theorem al6(l:List bj)(aJ:∀x∈l,bF al 157 [bj.e x] (bj.e x)):bF al 85 [.slice 2 .no (l.map bj.e)] (.slice 2 .no (l.map bj.e)):=by
 refine bm fA aaP ahl fun aQ=>?_;unfold OA;have eY:l.length≤68719476736:=by simp[ez,dZ,eo,lim]at aQ;omega
 simp;all_goals first|(refine⟨by unfold lim;omega,?_⟩)|skip
 (with_reducible repeat' first|refine aj ?_|simp);have fl:∀(S:aH→Prop) (n:Nat),aI S (qP n ((⟨0,[]⟩:bj).e))=True:=fun S n=>eq_true (xH S _ (by simp[aB,aI]) n);refine iA (fun i (_:Unit)=>⟨[(0,.slice 2 .no (l.map bj.e)),(3,.row 2 (.loc 0) l.length),(4,.int .i64 i)],[],[(.loc 0,⟨l.length,100,2,some (h8 bj.e ((⟨0,[]⟩:bj).e) l i)⟩)],1,[]⟩) l.length (fun _ _=>True) () ⟨by simp[fresh,aI,aB,cn,inObs,Pv.look,oo,fl],er (by simp[fresh,aI,aB,cn,inObs,Pv.look,oo,fl]),et (by simp[fresh,aI,aB,dW,inObs,Pv.look,oo,fl]),by simp⟩ trivial (fun _ _ _=>?_) (fun i _ hi _ _=>?_)
 ·rw[Cs];exact b5
 ·obtain⟨x,ae,cE⟩:=dP hi;have key:=aJ x (dL ae);have ak:=Ct bj.e ((⟨0,[]⟩:bj).e) l hi;have aC:=Cu bj.e ((⟨0,[]⟩:bj).e) l ae;have bk:∀S:aH→Prop,aI S (h8 bj.e ((⟨0,[]⟩:bj).e) l (i+1)):=fun S=>Cg S _ _ _ _ (fun x=>by simp) (by simp[aB,aI]);generalize h8 bj.e ((⟨0,[]⟩:bj).e) l i=r0 at ak aC;generalize o1:h8 bj.e ((⟨0,[]⟩:bj).e) l (i+1)=dH at aC bk;clear ae;simp[hi,cE];(with_reducible repeat' first|refine aj ?_|refine aD key ?_|refine aE key ?_|simp[hi,cE,ak,aC,-mw]);all_goals refine bO.rng () hi trivial ?_
  all_goals rw[o1]
  all_goals first
   |exact⟨by simp[fresh,aI,aB,cn,inObs,Pv.look,bk],er (by simp[fresh,aI,aB,cn,inObs,Pv.look,bk]),et (by simp[fresh,aI,aB,dW,inObs,Pv.look,bk]),by simp⟩
   |exact⟨by simp[fresh,aI,aB,cn,inObs,Pv.look,bk],er (by simp[fresh,aI,aB,cn,inObs,Pv.look,bk]),et (by simp[fresh,aI,aB,dW,inObs,Pv.look,bk];exact aC),by simp⟩
theorem ala(l:List bj)(aJ:∀x∈l,bF al 171 [bj.e x,bj.e x] (.bool true)):bF al 94 [.slice 2 .no (l.map bj.e),.slice 2 .no (l.map bj.e)] (.bool true):=by
 refine bm fA aaF ahb fun aQ=>?_;unfold On;have eY:l.length≤68719476736:=by simp[ez,dZ,eo,lim]at aQ;omega
 simp;(with_reducible repeat' first|refine aj ?_|simp);refine dI [0,1] (fun i (_:Unit)=>[(5,.int .i64 i)]) l.length (fun _ _=>True) () bW trivial (fun _ _ _=>?_) (fun i _ hi _ _=>?_)
 ·exact b5
 ·obtain⟨x,ae,cE⟩:=dP hi;have key:=aJ x (dL ae);clear ae;exact fV
theorem amb(l:List bJ)(aJ:∀x∈l,bF al 156 [bJ.e x] (bJ.e x)):bF al 84 [.slice 2 .no (l.map bJ.e)] (.slice 2 .no (l.map bJ.e)):=by
 refine bm fA aaU ahq fun aQ=>?_;unfold OF;have eY:l.length≤68719476736:=by simp[ez,dZ,eo,lim]at aQ;omega
 simp;all_goals first|(refine⟨by unfold lim;omega,?_⟩)|skip
 (with_reducible repeat' first|refine aj ?_|simp);have fl:∀(S:aH→Prop) (n:Nat),aI S (qP n ((⟨0,0⟩:bJ).e))=True:=fun S n=>eq_true (xH S _ (by simp[aB,aI]) n);refine iA (fun i (_:Unit)=>⟨[(0,.slice 2 .no (l.map bJ.e)),(3,.row 2 (.loc 0) l.length),(4,.int .i64 i)],[],[(.loc 0,⟨l.length,98,2,some (h8 bJ.e ((⟨0,0⟩:bJ).e) l i)⟩)],1,[]⟩) l.length (fun _ _=>True) () ⟨by simp[fresh,aI,aB,cn,inObs,Pv.look,oo,fl],er (by simp[fresh,aI,aB,cn,inObs,Pv.look,oo,fl]),et (by simp[fresh,aI,aB,dW,inObs,Pv.look,oo,fl]),by simp⟩ trivial (fun _ _ _=>?_) (fun i _ hi _ _=>?_)
 ·rw[Cs];exact b5
 ·obtain⟨x,ae,cE⟩:=dP hi;have key:=aJ x (dL ae);have ak:=Ct bJ.e ((⟨0,0⟩:bJ).e) l hi;have aC:=Cu bJ.e ((⟨0,0⟩:bJ).e) l ae;have bk:∀S:aH→Prop,aI S (h8 bJ.e ((⟨0,0⟩:bJ).e) l (i+1)):=fun S=>Cg S _ _ _ _ (fun x=>by simp) (by simp[aB,aI]);generalize h8 bJ.e ((⟨0,0⟩:bJ).e) l i=r0 at ak aC;generalize o1:h8 bJ.e ((⟨0,0⟩:bJ).e) l (i+1)=dH at aC bk;clear ae;simp[hi,cE];(with_reducible repeat' first|refine aj ?_|refine aD key ?_|refine aE key ?_|simp[hi,cE,ak,aC,-mw]);all_goals refine bO.rng () hi trivial ?_
  all_goals rw[o1]
  all_goals first
   |exact⟨by simp[fresh,aI,aB,cn,inObs,Pv.look,bk],er (by simp[fresh,aI,aB,cn,inObs,Pv.look,bk]),et (by simp[fresh,aI,aB,dW,inObs,Pv.look,bk]),by simp⟩
   |exact⟨by simp[fresh,aI,aB,cn,inObs,Pv.look,bk],er (by simp[fresh,aI,aB,cn,inObs,Pv.look,bk]),et (by simp[fresh,aI,aB,dW,inObs,Pv.look,bk];exact aC),by simp⟩
theorem alf(l:List bJ)(aJ:∀x∈l,bF al 170 [bJ.e x,bJ.e x] (.bool true)):bF al 93 [.slice 2 .no (l.map bJ.e),.slice 2 .no (l.map bJ.e)] (.bool true):=by
 refine bm fA aaK ahg fun aQ=>?_;unfold Ov;have eY:l.length≤68719476736:=by simp[ez,dZ,eo,lim]at aQ;omega
 simp;(with_reducible repeat' first|refine aj ?_|simp);refine dI [0,1] (fun i (_:Unit)=>[(5,.int .i64 i)]) l.length (fun _ _=>True) () bW trivial (fun _ _ _=>?_) (fun i _ hi _ _=>?_)
 ·exact b5
 ·obtain⟨x,ae,cE⟩:=dP hi;have key:=aJ x (dL ae);clear ae;exact fV
def oA:c0 bJ→Int→Int
 | .l l,m=>if m-l.length<0 then-1 else m-l.length
 | .b _ _ _,_=> -1
theorem L7(l:c0 bJ)(m:Int)(h:0≤m): -1≤oA l m∧oA l m≤m:=by
 cases l with
 |l l=>simp only[oA];split<;>omega
 |b=>simp only[oA];omega
theorem al0(l:c0 bJ)(hw:∀p n cap,l= .b p n cap→mx n)(m:Int)(bA:0≤m)(J:m≤1048576):bF al 73 [l.e 2 bJ.e,.int .i64 m] (.int .i64 (oA l m)):=by
 cases l with
 |b p n cap=>
  have aA:=hw p n cap rfl;simp only[mx,lim]at aA;have g:m-n<0:=by omega
  simp only[c0.e,oA];clear hw;refine bm fA Ir KN fun aQ=>?_;unfold DY;exact b5
 |l l=>
  simp only[c0.e,oA];clear hw;by_cases g:m-l.length<0
  ·rw[if_pos g];refine bm fA Ir KN fun aQ=>?_;unfold DY;have eY:l.length≤68719476736:=by simp[ez,dZ,eo,lim]at aQ;omega
   exact b5
  ·rw[if_neg g];refine bm fA Ir KN fun aQ=>?_;unfold DY;have eY:l.length≤68719476736:=by simp[ez,dZ,eo,lim]at aQ;omega
   exact b5
def js(d:c0 eM):ah:=d.e 5 eM.e
@[simp] theorem aoL(S:aH→Prop)(d:c0 eM):aB S (js d)=True:=by cases d<;>simp[js,c0.e,aB]
@[simp] theorem arl(d:c0 eM):dq (js d)=js d:=by
 cases d with
 |l l=>
  have:∀l:List eM,cZ (l.map eM.e)=l.map eM.e:=by
   intro l;induction l with
   |nil=>rfl
   |cons x l bU=>simp[cZ,bU]
  simp[js,c0.e,dq,this]
 |b=>simp[js,c0.e,dq]
theorem S2(S:aH→Prop):∀l:List (c0 eM),aI S (l.map js)
 |[]=>by simp[aI]
 |x::xs=>by simp[aI,S2 S xs]
@[simp] theorem aoE(S:aH→Prop)(l:List (c0 eM)):aI S (l.map js)=True:=eq_true (S2 S l)
@[simp] theorem aqR(d:c0 eM):eb (js d)=true:=by cases d<;>rfl
@[simp] theorem amS(d:c0 eM):cells (js d)=[js d]:=by cases d<;>rfl
def hy(d:c0 eM)(m:Int):Int:=gI rV d m
theorem uR(d:c0 eM)(m:Int)(h:0≤m): -1≤hy d m∧hy d m≤m:=uS L4 d m h
def th(d:c0 eM):Prop:=d.wf fun b=>b.t.wf
@[simp] theorem akv:∀l:List (List cI),cZ (l.map fT)=l.map fT
 |[]=>rfl
 |x::xs=>by simp[cZ,akv xs]
theorem Mt(d:c0 eM)(hw:th d)(m:Int)(bA:0≤m)(J:m≤1048576):bF al 33 [js d,.int .i64 m] (.int .i64 (hy d m)):=alU d (fun p n c e=>by subst e;exact hw) (fun xs e x ae m bA J=>by subst e;exact alT x (hw x ae) m bA J) m bA J
theorem Mu(d:List cI):bF al 35 [fT d] (fT d):=al3 d fun x _=>al2 x
theorem Mm(d:List cI):bF al 37 [fT d,fT d] (.bool true):=ak7 d fun x _=>ak6 x
theorem alV(l:c0 (c0 eM))(hw:∀p n cap,l= .b p n cap→mx n)(aJ:∀xs,l= .l xs→∀x∈xs,∀m,0≤m→m≤1048576→bF al 33 [js x,.int .i64 m] (.int .i64 (hy x m)))(m:Int)(bA:0≤m)(J:m≤1048576):bF al 72 [l.e 1 js,.int .i64 m] (.int .i64 (gI hy l m)):=by
 cases l with
 |b p n cap=>
  have aA:=hw p n cap rfl;simp only[mx,lim]at aA;have g:m-n<0:=by omega
  simp only[c0.e,gI];clear hw aJ;refine bm fA Ql T1 fun aQ=>?_;unfold HF;exact b5
 |l l=>
 have aJ:=aJ l rfl;clear hw;simp only[c0.e,gI];generalize bf:oB hy l m=R;unfold oB at bf;refine bm fA Ql T1 fun aQ=>?_;unfold HF;have eY:l.length≤68719476736:=by simp[ez,dZ,eo,lim]at aQ;omega
 simp;by_cases g:m-l.length<0
 ·rw[if_pos g]at bf;subst bf;exact b5
 rw[if_neg g]at bf;(with_reducible repeat' first|refine aj ?_|simp[g]);refine dI [0] (fun i (k:Int)=>[(1,.int .i64 k),(5,.int .i64 i)]) l.length (fun i k=>(0≤k∧k≤1048576)∧jQ hy (l.drop i) k=R) (m-l.length) bW ⟨⟨by omega,by omega⟩,by simpa using bf⟩ (fun k af _=>?_) (fun i k hi af _=>?_)
 ·obtain⟨_,af⟩:=af;rw[List.drop_length]at af;simp only[jQ]at af;subst af;exact b5
 ·obtain⟨⟨fb,aU⟩,af⟩:=af;obtain⟨x,ae,cE⟩:=dP hi;have key:=aJ x (dL ae) k fb aU;have hle:=uR x k fb;rw[sN ae]at af;simp only[jQ]at af;generalize hy x k=q at key hle af;clear ae;by_cases br:q<0
  ·rw[if_pos br]at af;subst af;exact b5
  ·rw[if_neg br]at af;simp[hi,cE];((with_reducible repeat' first|refine aj ?_|refine aD key ?_|refine aE key ?_|simp[hi,cE,br]|((first|apply bL|apply bQ|apply bP)<;>intro h<;>try simp at h))<;>(try exact cq));all_goals exact bO.rng q hi ⟨⟨by omega,by omega⟩,af⟩ bW
theorem al4(l:List (List cI))(aJ:∀x∈l,bF al 35 [fT x] (fT x)):bF al 83 [.slice 1 .no (l.map fT)] (.slice 1 .no (l.map fT)):=by
 refine bm fA aaN ahj fun aQ=>?_;unfold Oy;have eY:l.length≤68719476736:=by simp[ez,dZ,eo,lim]at aQ;omega
 simp;all_goals first|(refine⟨by unfold lim;omega,?_⟩)|skip
 (with_reducible repeat' first|refine aj ?_|simp);have fl:∀(S:aH→Prop) (n:Nat),aI S (qP n (.slice 5 .nil []))=True:=fun S n=>eq_true (xH S _ (by simp[aB,aI]) n);refine iA (fun i (_:Unit)=>⟨[(0,.slice 1 .no (l.map fT)),(3,.row 1 (.loc 0) l.length),(4,.int .i64 i)],[],[(.loc 0,⟨l.length,46,1,some (h8 fT (.slice 5 .nil []) l i)⟩)],1,[]⟩) l.length (fun _ _=>True) () ⟨by simp[fresh,aI,aB,cn,inObs,Pv.look,oo,fl],er (by simp[fresh,aI,aB,cn,inObs,Pv.look,oo,fl]),et (by simp[fresh,aI,aB,dW,inObs,Pv.look,oo,fl]),by simp⟩ trivial (fun _ _ _=>?_) (fun i _ hi _ _=>?_)
 ·rw[Cs];exact b5
 ·obtain⟨x,ae,cE⟩:=dP hi;have key:=aJ x (dL ae);have ak:=Ct fT (.slice 5 .nil []) l hi;have aC:=Cu fT (.slice 5 .nil []) l ae;have bk:∀S:aH→Prop,aI S (h8 fT (.slice 5 .nil []) l (i+1)):=fun S=>Cg S _ _ _ _ (fun x=>by simp) (by simp[aB,aI]);generalize h8 fT (.slice 5 .nil []) l i=r0 at ak aC;generalize o1:h8 fT (.slice 5 .nil []) l (i+1)=dH at aC bk;clear ae;simp[hi,cE];(with_reducible repeat' first|refine aj ?_|refine aD key ?_|refine aE key ?_|simp[hi,cE,ak,aC]);all_goals refine bO.rng () hi trivial ?_
  all_goals rw[o1]
  all_goals first
   |exact⟨by simp[fresh,aI,aB,cn,inObs,Pv.look,bk],er (by simp[fresh,aI,aB,cn,inObs,Pv.look,bk]),et (by simp[fresh,aI,aB,dW,inObs,Pv.look,bk]),by simp⟩
   |exact⟨by simp[fresh,aI,aB,cn,inObs,Pv.look,bk],er (by simp[fresh,aI,aB,cn,inObs,Pv.look,bk]),et (by simp[fresh,aI,aB,dW,inObs,Pv.look,bk];exact aC),by simp⟩
theorem ak8(l:List (List cI))(aJ:∀x∈l,bF al 37 [fT x,fT x] (.bool true)):bF al 92 [.slice 1 .no (l.map fT),.slice 1 .no (l.map fT)] (.bool true):=by
 refine bm fA aaD ag9 fun aQ=>?_;unfold Ol;have eY:l.length≤68719476736:=by simp[ez,dZ,eo,lim]at aQ;omega
 simp;(with_reducible repeat' first|refine aj ?_|simp);refine dI [0,1] (fun i (_:Unit)=>[(5,.int .i64 i)]) l.length (fun _ _=>True) () bW trivial (fun _ _ _=>?_) (fun i _ hi _ _=>?_)
 ·exact b5
 ·obtain⟨x,ae,cE⟩:=dP hi;have key:=aJ x (dL ae);clear ae;exact fV
end Go.Proofs.YtahlgcidhnjlbaaGreat
