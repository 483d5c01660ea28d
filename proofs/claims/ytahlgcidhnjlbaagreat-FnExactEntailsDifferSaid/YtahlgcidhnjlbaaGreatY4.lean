/- The laws' copying, counting and comparing of data, II. -/
import Derived.Lib.OwnBridge
import Derived.Shelf.GgSortMore.Stable
import Derived.Shelf.GgSortFunc.SmallK
import Derived.Shelf.GgSortFunc.Slice
import Derived.Ground.GgsProg
import Derived.Test.YtahlgcidhnjlbaaGreatProg
import Derived.ProofKit
import Derived.Carry
import Derived.WalkKit
import Derived.Deep.Slices
import Derived.Test.YtahlgcidhnjlbaaGreatY3
set_option linter.all false
set_option maxHeartbeats 4000000
open Array renaming getElem?_toList→sV
open BitVec renaming ofInt→pY
open Bool renaming eq_iff_iff→pZ,false_eq_true→gP,or_eq_true→mB
open Go renaming Program→cC,TypeId→fT
open Go.DataW renaming trod→iM
open Go.Extern.ReflectliteSwapper renaming swap→Dm,swapper→arQ
open Go.Extern.ReflectliteValue renaming len→arR,method→arS,unpack→amx,valueError→amy
open Go.Extern.Rtype renaming kind→Xc
open Go.IntKind renaming bits→nJ,signed→rP,u64→hb,wrap→rQ
open Go.IntWalk renaming i64_in→oC
open Go.Proofs.Tryz renaming prog→al
open Go.Value renaming cells→pc
open List renaming cons_append→bU,drop_eq_getElem_cons→k7,getElem?_eq_getElem→cf,getElem?_eq_some_iff→fL,getElem_of_mem→ni,length_append→pd,length_cons→p2,map_cons→gE,map_nil→pe,mem_cons→fU,mem_cons_of_mem→pf,mem_of_getElem?→eG,nil_append→bX,pairwise_iff_getElem→pg,replicate→qK,take_length→nL,take_of_length_le→hl
open List.cons renaming injEq→p0
open Nat renaming add_mul→pj,le_refl→eR,le_trans→j4
open Ne renaming symm→kP
open Option renaming bind_eq_some_iff→lH,isSome_none→j6,map_eq_some_iff→gF,map_some→nM
open Option.some renaming injEq→dG
open Prod.mk renaming injEq→jj
open _root_ renaming False→eQ,Option→aY,UInt8→dz,beq_iff_eq→dL,congrArg→e5,decide_eq_false→jH,decide_eq_false_iff_not→hE,decide_eq_true→jk,decide_eq_true_eq→fH
namespace Go.Proofs.YtahlgcidhnjlbaaGreat
open Go Go.Pv
variable {α:Type} [Inhabited α] {S:List α→cJ} {n g b7:Nat} {lc b1:List ah} {lt:α→α→Bool}
theorem QW(H:e0 S n g b7 lc b1 lt)(d:Array α)(aQ:d.size=n)(lo hi first:Nat)(J:first+hi≤n)(U:2≤n)(ao:lo≤n):
  bQ al 252 [eS g b7 lc b1,.int .i64 lo,.int .i64 hi,.int .i64 first] (S d.toList) fun r ai=>r= .tuple []∧∃b8,ai=S b8.toList∧b8=Sort.siftDown lt hi first lo d∧b8.size=n:=by
 have ag:=H.ok d.toList;have au:d.toList.length=n:=by simpa using aQ
 have aA:∀l m,Pv.look (.loc m) (S l).b=none:=fun l=>(H.ok l).obj.1;have hu:∀l m cs,cx (.loc m) cs (S l).b=(S l).b++[(.loc m,cs)]:=fun l m cs=>jR (aA l m);have aw:∀m,aH.loc m∉cS (S d.toList):=jM ag.obj;have hle:=H.le;refine bQ.mk mixed nF abo ahO (by simp) ag.obj fun aP cQ=>?_;unfold OX;simp[eS,hu,aw,cI,aA];refine H.loopA au [2,3,4] (fun(x:Nat×Array α)=>[(8,.int .i64 x.1)]) (·.2) (fun x=>hi-x.1) (fun x=>x.2.size=n∧x.1≤n∧Sort.siftDown lt hi first x.1 x.2=Sort.siftDown lt hi first lo d) (lo,d) aQ ⟨aQ,ao,rfl⟩ (by simp[cI,aA]) aR aR (by simp[aC]) ?_;rintro⟨root,cj⟩ ⟨aT,bz,b6⟩;simp only at aT bz b6;have ak:((first:Int)+(2*root+1))=(first+(2*root+1):Nat):=by omega
 have aB:(((first+(2*root+1):Nat):Int)+1)=(first+(2*root+1)+1:Nat):=by omega
 have bj:((first:Int)+root)=(first+root:Nat):=by omega
 have de:((first:Int)+(2*root+1+1))=(first+(2*root+2):Nat):=by omega
 simp[Pv.look,H.slc,H.ssc];(with_reducible repeat' first|((first|apply bP|apply bS|apply bR)<;>intro h<;>try simp at h)|refine aj ?_|simp[Pv.look,H.slc,H.ssc])
 ·rw[Sort.siftDown,dif_pos (by omega)]at b6;exact H.retA au aT (.inr rfl) ⟨rfl,cj,rfl,b6,aT⟩
 ·rw[Sort.siftDown,dif_neg (by omega)]at b6;rw[ak,aB];refine H.lessA aT _ _ (by omega) (by omega) fun o=>?_;have ax:decide (2*root+1+1<hi)=true:=by simp;omega
  cases ab:lt cj[first+(2*root+1)]! cj[first+(2*root+1)+1]! with
  |true=>
   rw[if_pos (by rw[ax,ab];rfl)]at b6;simp;(with_reducible repeat' first|refine aj ?_|simp[Pv.look,H.slc,H.ssc]);rw[bj,de];refine H.lessA aT _ _ (by omega) (by omega) fun o=>?_;cases aG:lt cj[first+root]! cj[first+(2*root+2)]! with
   |true=>rw[if_neg (by simp[aG]),dif_pos (by omega)]at b6;simp;(with_reducible repeat' first|refine aj ?_|simp[Pv.look,H.slc,H.ssc]);rw[bj,de];refine H.swapA aT U _ _ (by omega) (by omega) fun o=>?_;simp;(with_reducible repeat' first|refine aj ?_|simp);refine bN.whl (2*root+2,Sort.swp cj (first+root) (first+(2*root+2))) (by simp;omega) ⟨by rw[gC,aT],by simp;omega,b6⟩ (H.weakC au (by simp[gC,aT]) (by simp[aC];omega))
   |false=>rw[if_pos (by simp[aG])]at b6;simp;(with_reducible repeat' first|refine aj ?_|simp);all_goals exact H.retA au aT (.inl rfl) ⟨rfl,cj,rfl,b6,aT⟩
  |false=>
   rw[if_neg (by simp[ab])]at b6;simp;(with_reducible repeat' first|refine aj ?_|simp[Pv.look,H.slc,H.ssc]);rw[bj,ak];refine H.lessA aT _ _ (by omega) (by omega) fun o=>?_;cases aG:lt cj[first+root]! cj[first+(2*root+1)]! with
   |true=>rw[if_neg (by simp[aG])]at b6;simp;(with_reducible repeat' first|refine aj ?_|simp[Pv.look,H.slc,H.ssc]);rw[bj,ak];refine H.swapA aT U _ _ (by omega) (by omega) fun o=>?_;simp;(with_reducible repeat' first|refine aj ?_|simp);refine bN.whl (2*root+1,Sort.swp cj (first+root) (first+(2*root+1))) (by simp;omega) ⟨by rw[gC,aT],by simp;omega,b6⟩ (H.weakC au (by simp[gC,aT]) (by simp[aC]))
   |false=>rw[if_pos (by simp[aG])]at b6;simp;(with_reducible repeat' first|refine aj ?_|simp);all_goals exact H.retA au aT (.inl rfl) ⟨rfl,cj,rfl,b6,aT⟩
 ·rw[Sort.siftDown,dif_neg (by omega)]at b6;have ax:decide (2*root+1+1<hi)=false:=by simp;omega
  rw[if_neg (by rw[ax];simp)]at b6;rw[bj,ak];refine H.lessA aT _ _ (by omega) (by omega) fun o=>?_;cases aG:lt cj[first+root]! cj[first+(2*root+1)]! with
  |true=>rw[if_neg (by simp[aG])]at b6;simp;(with_reducible repeat' first|refine aj ?_|simp[Pv.look,H.slc,H.ssc]);rw[bj,ak];refine H.swapA aT U _ _ (by omega) (by omega) fun o=>?_;simp;(with_reducible repeat' first|refine aj ?_|simp);refine bN.whl (2*root+1,Sort.swp cj (first+root) (first+(2*root+1))) (by simp;omega) ⟨by rw[gC,aT],by simp;omega,b6⟩ (H.weakC au (by simp[gC,aT]) (by simp[aC]))
  |false=>rw[if_pos (by simp[aG])]at b6;simp;(with_reducible repeat' first|refine aj ?_|simp);all_goals exact H.retA au aT (.inl rfl) ⟨rfl,cj,rfl,b6,aT⟩
theorem acG(H:e0 S n g b7 lc b1 lt)(d:Array α)(aQ:d.size=n)(a b:Nat)(mN:a<b)(ae:b≤n)(U:2≤n):
  bQ al 241 [eS g b7 lc b1,.int .i64 a,.int .i64 b] (S d.toList) fun r ai=>r= .tuple []∧∃b8,ai=S b8.toList∧b8=Sort.reverseRange d a b∧b8.size=n:=by
 have ag:=H.ok d.toList;have au:d.toList.length=n:=by simpa using aQ
 have aA:∀l m,Pv.look (.loc m) (S l).b=none:=fun l=>(H.ok l).obj.1;have hu:∀l m cs,cx (.loc m) cs (S l).b=(S l).b++[(.loc m,cs)]:=fun l m cs=>jR (aA l m);have aw:∀m,aH.loc m∉cS (S d.toList):=jM ag.obj;have hle:=H.le;refine bQ.mk mixed nF abm ahM (by simp) ag.obj fun aP cQ=>?_;unfold OV;simp[eS,hu,aw,cI,aA];have fj:((b:Int)-1)=(b-1:Nat):=by omega
 (with_reducible repeat' first|refine aj ?_|simp[hu,aw,cI,aA]);rw[fj];refine H.loopA au [3] (fun(x:(Nat×Nat)×Array α)=>[(6,.int .i64 x.1.1),(7,.int .i64 x.1.2)]) (·.2) (fun x=>x.1.2+1-x.1.1) (fun x=>x.2.size=n∧x.1.2<n∧Sort.reverseLoop x.1.1 x.1.2 x.2=Sort.reverseRange d a b) ((a,b-1),d) aQ ⟨aQ,by simp;omega,rfl⟩ (by simp[cI,aA]) aR aR (by simp[aC]) ?_;rintro⟨⟨i,j⟩,cj⟩ ⟨aT,bz,b6⟩;simp only at aT bz b6;rw[Sort.reverseLoop]at b6;simp[Pv.look,H.slc,H.ssc];(with_reducible repeat' first|((first|apply bP|apply bS|apply bR)<;>intro h<;>try simp at h)|refine aj ?_|simp[Pv.look,H.slc,H.ssc])
 ·rw[if_pos (by omega)]at b6;refine H.swapA aT U _ _ (by omega) (by omega) fun o=>?_;have ak:((i:Int)+1)=(i+1:Nat):=by omega
  have aB:((j:Int)-1)=(j-1:Nat):=by omega
  simp;((with_reducible repeat' first|refine aj ?_|simp|((first|apply bP|apply bS|apply bR)<;>intro h<;>try simp at h))<;>(try exact cp));rw[ak,aB];refine bN.whl ((i+1,j-1),Sort.swp cj i j) (by simp;omega) ⟨by rw[gC,aT],by simp;omega,b6⟩ (H.weakC au (by simp[gC,aT]) (by simp[aC]))
 ·rw[if_neg (by omega)]at b6;exact H.retA au aT (.inr rfl) ⟨rfl,cj,rfl,b6,aT⟩
theorem acs(H:e0 S n g b7 lc b1 lt)(d:Array α)(aQ:d.size=n)(a b:Nat)(mN:a≤b)(ae:b≤n)(U:2≤n):
  bQ al 238 [eS g b7 lc b1,.int .i64 a,.int .i64 b] (S d.toList) fun r ai=>r= .tuple []∧∃b8,ai=S b8.toList∧b8=Sort.heapSort lt d a b∧b8.size=n:=by
 have ag:=H.ok d.toList;have au:d.toList.length=n:=by simpa using aQ
 have aA:∀l m,Pv.look (.loc m) (S l).b=none:=fun l=>(H.ok l).obj.1;have hu:∀l m cs,cx (.loc m) cs (S l).b=(S l).b++[(.loc m,cs)]:=fun l m cs=>jR (aA l m);have aw:∀m,aH.loc m∉cS (S d.toList):=jM ag.obj;have hle:=H.le;refine bQ.mk mixed nF abd ahD (by simp) ag.obj fun aP cQ=>?_;unfold OM;simp[eS,hu,aw,cI,aA];(with_reducible repeat' first|refine aj ?_|simp[hu,aw,cI,aA]);have fj:IntKind.i64.wrap (((b:Int)-a-1).tdiv 2)=(((b-a-1)/2+1:Nat):Int)-1:=by
  have e:((b:Int)-a-1).tdiv 2=(((b-a-1)/2+1:Nat):Int)-1:=by
   rcases Nat.eq_or_lt_of_le mN with h|h
   ·subst h;simp
   ·rw[show((b:Int)-a-1)=((b-a-1:Nat):Int) by omega,Int.tdiv_eq_ediv_of_nonneg (by omega)];omega
  rw[e,oC _ (by omega)]
 rw[fj];refine H.loopA au [3,6,7,8] (fun(x:Nat×Array α)=>[(9,.int .i64 ((x.1:Int)-1))]) (·.2) (fun x=>x.1) (fun x=>x.2.size=n∧x.1≤n∧Sort.heapBuild lt (b-a) a x.1 x.2=Sort.heapBuild lt (b-a) a ((b-a-1)/2+1) d) ((b-a-1)/2+1,d) aQ ⟨aQ,by simp;omega,rfl⟩ (by simp[cI,aA]) aR aR (by simp[aC]) ?_;rintro⟨k,cj⟩ ⟨aT,bz,b6⟩;simp only at aT bz b6;have Y1:((b:Int)-a)=(b-a:Nat):=by omega
 simp[Pv.look,H.slc,H.ssc];(with_reducible repeat' first|((first|apply bP|apply bS|apply bR)<;>intro h<;>try simp at h)|refine aj ?_|simp[Pv.look,H.slc,H.ssc])
 ·obtain⟨k,rfl⟩:∃bM,k=bM+1:=⟨k-1,by omega⟩;have H8:(((k+1:Nat):Int)-1)=(k:Nat):=by omega
  rw[Sort.heapBuild]at b6;simp only[h6 H,H.slc,H.ssc,h1,H8,Y1];refine H.doFn (lk:=cj.toList) (by simpa using aT) (R:=fun a1=> ∃b8,a1=b8.toList∧b8=Sort.siftDown lt (b-a) a k cj∧b8.size=n) ((QW H cj aT k (b-a) a (by omega) U (by omega)).mono fun r ai ⟨a6,b8,bu,bV,cW⟩=>⟨a6,b8.toList,bu,b8,rfl,bV,cW⟩) (by rintro a1 ⟨b8,rfl,_,q⟩;simpa using q) (by simp[aK,aC,H.kdata (lk:=cj.toList) (by simpa using aT)]) ?_;rintro a1 ⟨b8,rfl,a6,bu⟩;simp;((with_reducible repeat' first|refine aj ?_|simp|((first|apply bP|apply bS|apply bR)<;>intro h<;>try simp at h))<;>(try exact cp));refine bN.whl (k,b8) (by simp) ⟨bu,by simp;omega,by rw[←b6,a6]⟩ (H.weakC au (by simpa using bu) (by simp[aC]))
 ·obtain rfl:k=0:=by omega
  rw[Sort.heapBuild]at b6;have an3:cj.size=n:=aT;refine H.loopA au [3,6,7] (fun(x:Nat×Array α)=>[(10,.int .i64 ((x.1:Int)-1))]) (·.2) (fun x=>x.1) (fun x=>x.2.size=n∧x.1≤b-a∧Sort.heapPop lt a x.1 x.2=Sort.heapPop lt a (b-a) cj) (b-a,cj) aT ⟨aT,by simp,rfl⟩ (by simp[Pv.look]) aR aR (by simp[aC];omega) ?_;rintro⟨k,fI⟩ ⟨hh,vm,gU⟩;simp only at hh vm gU;simp[Pv.look,H.slc,H.ssc];(with_reducible repeat' first|((first|apply bP|apply bS|apply bR)<;>intro h<;>try simp at h)|refine aj ?_|simp[Pv.look,H.slc,H.ssc])
  ·obtain⟨k,rfl⟩:∃bM,k=bM+1:=⟨k-1,by omega⟩;have H8:(((k+1:Nat):Int)-1)=(k:Nat):=by omega
   have Y0:((a:Int)+k)=(a+k:Nat):=by omega
   rw[Sort.heapPop]at gU;simp only[H8,Y0];refine H.swapA hh U _ _ (by omega) (by omega) fun o=>?_;have JV:(Sort.swp fI a (a+k)).size=n:=by rw[gC,hh]
   simp;simp only[h6 H,H.slc,H.ssc,h1];refine H.doFn (lk:=(Sort.swp fI a (a+k)).toList) (by simpa using JV) (R:=fun a1=> ∃b8,a1=b8.toList∧b8=Sort.siftDown lt k a 0 (Sort.swp fI a (a+k))∧b8.size=n) ((QW H (Sort.swp fI a (a+k)) JV 0 k a (by omega) U (by omega)).mono fun r ai ⟨a6,b8,bu,bV,cW⟩=>⟨a6,b8.toList,bu,b8,rfl,bV,cW⟩) (by rintro a1 ⟨b8,rfl,_,q⟩;simpa using q) (by simp[aK,aC,H.kdata (lk:=(Sort.swp fI a (a+k)).toList) (by simpa using JV)]) ?_;rintro a1 ⟨b8,rfl,a6,bu⟩;simp;((with_reducible repeat' first|refine aj ?_|simp|((first|apply bP|apply bS|apply bR)<;>intro h<;>try simp at h))<;>(try exact cp));refine bN.whl (k,b8) (by simp) ⟨bu,by simp;omega,by rw[←gU,a6]⟩ (H.weakC au (by simpa using bu) (by simp[aC]))
  ·obtain rfl:k=0:=by omega
   rw[Sort.heapPop]at gU;refine H.retA au hh (.inr rfl) ⟨rfl,fI,rfl,?_,hh⟩;rw[Sort.heapSort,←b6,←gU]
theorem acu(H:e0 S n g b7 lc b1 lt)(d:Array α)(aQ:d.size=n)(a b:Nat)(mN:a≤b)(ae:b≤n):
  bQ al 231 [eS g b7 lc b1,.int .i64 a,.int .i64 b] (S d.toList) fun r ai=>r= .tuple []∧∃b8,ai=S b8.toList∧b8=Sort.insertionSort lt d a b∧b8.size=n:=by
 have ag:=H.ok d.toList;have au:d.toList.length=n:=by simpa using aQ
 have aA:∀l m,Pv.look (.loc m) (S l).b=none:=fun l=>(H.ok l).obj.1;have hu:∀l m cs,cx (.loc m) cs (S l).b=(S l).b++[(.loc m,cs)]:=fun l m cs=>jR (aA l m);have aw:∀m,aH.loc m∉cS (S d.toList):=jM ag.obj;have hle:=H.le;refine bQ.mk mixed Aq Qs Ug (by simp) ag.obj fun aP cQ=>?_;unfold HJ;simp[eS,hu,aw,cI,aA];have fj:((a:Int)+1)=(a+1:Nat):=by omega
 (with_reducible repeat' first|refine aj ?_|simp[hu,aw,cI,aA]);rw[fj];refine H.loopA au [1,2,3] (fun(x:Nat×Array α)=>[(6,.int .i64 x.1)]) (·.2) (fun x=>b+1-x.1) (fun x=>x.2.size=n∧x.1≤b+1∧Sort.insOuter lt a b x.1 x.2=Sort.insertionSort lt d a b) (a+1,d) aQ ⟨aQ,by simp;omega,rfl⟩ (by simp[cI,aA]) aR aR (by simp[aC]) ?_;rintro⟨i,cj⟩ ⟨aT,bz,b6⟩;simp only at aT bz b6;rw[Sort.insOuter]at b6;simp;(with_reducible repeat' first|((first|apply bP|apply bS|apply bR)<;>intro h<;>try simp at h)|refine aj ?_|simp)
 ·rw[if_pos (by omega)]at b6;refine H.loopA au [1,2,3,6] (fun(x:Nat×Array α)=>[(7,.int .i64 x.1)]) (·.2) (fun x=>x.1) (fun x=>x.2.size=n∧x.1≤i∧Sort.insInner lt a x.1 x.2=Sort.insInner lt a i cj) (i,cj) aT ⟨aT,by simp,rfl⟩ (by simp[Pv.look]) aR aR (by simp[aC]) ?_;rintro⟨j,fI⟩ ⟨hh,vm,gU⟩;simp only at hh vm gU;simp[Pv.look,H.slc,H.ssc];(with_reducible repeat' first|((first|apply bP|apply bS|apply bR)<;>intro h<;>try simp at h)|refine aj ?_|simp[Pv.look,H.slc,H.ssc])
  ·obtain⟨j,rfl⟩:∃dA,j=dA+1:=⟨j-1,by omega⟩;have nV:(((j+1:Nat):Int)-1)=(j:Nat):=by omega
   have oO:((i:Int)+1)=(i+1:Nat):=by omega
   have Y4:((j:Int)+1)=(j+1:Nat):=by omega
   rw[Sort.insInner]at gU;have ax:decide (j+1>a)=true:=by simp;omega
   rw[nV];refine H.lessA hh _ _ (by omega) (by omega) fun o=>?_;cases ab:lt fI[j+1]! fI[j]! with
   |true=>rw[if_pos (by rw[ax,ab];rfl)]at gU;simp;(with_reducible repeat' first|refine aj ?_|simp[Pv.look,H.slc,H.ssc]);rw[Y4];refine H.swapA hh (by omega) _ _ (by omega) (by omega) fun o=>?_;simp;(with_reducible repeat' first|refine aj ?_|simp);refine bN.whl (j,Sort.swp fI (j+1) j) (by simp) ⟨by rw[gC,hh],by simp;omega,gU⟩ (H.weakC au (by simp[gC,hh]) (by simp[aC]))
   |false=>rw[if_neg (by simp[ab])]at gU;simp;((with_reducible repeat' first|refine aj ?_|simp|((first|apply bP|apply bS|apply bR)<;>intro h<;>try simp at h))<;>(try exact cp));rw[oO];refine bN.whl (i+1,fI) (by simp;omega) ⟨hh,by simp;omega,by rw[←b6,←gU]⟩ (H.weakC au (by simpa using hh) (by simp[aC]))
  ·have oO:((i:Int)+1)=(i+1:Nat):=by omega
   have xm:Sort.insInner lt a j fI=fI:=by
    cases j with
    |zero=>rfl
    |succ j=>rw[Sort.insInner,if_neg (by simp;omega)]
   rw[oO];refine bN.whl (i+1,fI) (by simp;omega) ⟨hh,by simp;omega,by rw[←b6,←gU,xm]⟩ (H.weakC au (by simpa using hh) (by simp[aC]))
 ·rw[if_neg (by omega)]at b6;exact H.retA au aT (.inr rfl) ⟨rfl,cj,rfl,b6,aT⟩
end Go.Proofs.YtahlgcidhnjlbaaGreat
namespace Go.Proofs.YtahlgcidhnjlbaaGreat
open Go Go.Pv
variable {α:Type} [Inhabited α] {S:List α→cJ} {n g b7:Nat} {lc b1:List ah} {lt:α→α→Bool}
theorem uq{p:α→Bool}{d:Array α}{i j:Nat}(h:¬(i≤j∧p d[j]! =true)):Sort.scanDown p d i j=j:=by
 cases j with
 |zero=>rfl
 |succ j=>rw[Sort.scanDown,if_neg (by simpa using h)]
theorem Ac{p:α→Bool}{d:Array α}{i j:Nat}(h:¬(i≤j∧p d[i]! =true)):Sort.scanUp p d j i=i:=by rw[Sort.scanUp,if_neg (by simpa using h)]
theorem LO{p:α→Bool}{d:Array α}{i j:Nat}(J:i≤j)(U:p d[i]! =true):Sort.scanUp p d j i=Sort.scanUp p d j (i+1):=by rw[Sort.scanUp,if_pos (by simp[J,U])]
theorem LN{p:α→Bool}{d:Array α}{i j:Nat}(J:i≤j+1)(U:p d[j+1]! =true):Sort.scanDown p d i (j+1)=Sort.scanDown p d i j:=by rw[Sort.scanDown,if_pos (by simp[J,U])]
theorem acA(H:e0 S n g b7 lc b1 lt)(d:Array α)(aQ:d.size=n)(a b pivot:Nat)(q3:a≤pivot)(aeh:pivot<b)(mN:a+1<b)(ae:b≤n):
  bQ al 244 [eS g b7 lc b1,.int .i64 a,.int .i64 b,.int .i64 pivot] (S d.toList) fun r ai=>r= .tuple [.int .i64 (Sort.partition lt d a b pivot).1,.bool (Sort.partition lt d a b pivot).2.1]∧∃b8,ai=S b8.toList∧b8=(Sort.partition lt d a b pivot).2.2∧b8.size=n:=by
 obtain⟨R,bh⟩:∃R,R=Sort.partition lt d a b pivot:=⟨_,rfl⟩;rw[←bh];unfold Sort.partition at bh;have ag:=H.ok d.toList;have au:d.toList.length=n:=by simpa using aQ
 have aA:∀l m,Pv.look (.loc m) (S l).b=none:=fun l=>(H.ok l).obj.1;have hu:∀l m cs,cx (.loc m) cs (S l).b=(S l).b++[(.loc m,cs)]:=fun l m cs=>jR (aA l m);have aw:∀m,aH.loc m∉cS (S d.toList):=jM ag.obj;have hle:=H.le;refine bQ.mk mixed nF abk ahK (by simp) ag.obj fun aP cQ=>?_;unfold OT;simp[eS,hu,aw,cI,aA];rw[H.ssc];refine H.swapA0 aQ (by omega) a pivot (by omega) (by omega) fun o=>?_;obtain⟨d1,fk⟩:∃d1,d1=Sort.swp d a pivot:=⟨_,rfl⟩;have s1:d1.size=n:=by rw[fk,gC,aQ]
 rw[←fk];simp only[←fk]at bh;have ak:((a:Int)+1)=(a+1:Nat):=by omega
 have aB:((b:Int)-1)=(b-1:Nat):=by omega
 simp;(with_reducible repeat' first|refine aj ?_|simp);rw[ak,aB];refine H.loopA au [1,4,11] (fun(i:Nat)=>[(10,.int .i64 i)]) (fun _=>d1) (fun i=>b+1-i) (fun i=>a+1≤i∧i≤b∧Sort.scanUp (fun x=>lt x d1[a]!) d1 (b-1) i=Sort.scanUp (fun x=>lt x d1[a]!) d1 (b-1) (a+1)) (a+1) s1 ⟨by omega,by omega,rfl⟩ (by simp[Pv.look]) aR aR (by simp[aC]) ?_;rintro i ⟨i1,i2,i3⟩;simp[Pv.look,H.slc];((with_reducible repeat' first|refine aj ?_|simp[Pv.look,H.slc]|((first|apply bP|apply bS|apply bR)<;>intro h<;>try simp at h))<;>(try exact cp));refine H.lessA s1 i a (by omega) (by omega) fun o=>?_;cases ab:lt d1[i]! d1[a]!;rotate_left
 ·have oO:((i:Int)+1)=(i+1:Nat):=by omega
  simp;(with_reducible repeat' first|refine aj ?_|simp);rw[oO];refine bN.whl (i+1) (by omega) ⟨by omega,by omega,by rw[←i3];exact(LO (p:=fun x=>lt x d1[a]!) (by omega) ab).symm⟩ (H.weakC au (by simpa using s1) (by simp[aC]))
 rotate_left
 ·have i4:Sort.scanUp (fun x=>lt x d1[a]!) d1 (b-1) i=i:=Ac (by simp[ab]);rw[i4]at i3;rw[←i3]at bh;simp;refine H.loopA au [1,4,10] (fun(j:Nat)=>[(11,.int .i64 j)]) (fun _=>d1) (fun j=>j) (fun j=>i≤j+1∧j≤b-1∧Sort.scanDown (fun x=> !lt x d1[a]!) d1 i j=Sort.scanDown (fun x=> !lt x d1[a]!) d1 i (b-1)) (b-1) s1 ⟨by omega,by omega,rfl⟩ (by simp[Pv.look]) aR aR (by simp[aC]) ?_;rintro j ⟨hh,vm,gU⟩;simp[Pv.look,H.slc];((with_reducible repeat' first|refine aj ?_|simp[Pv.look,H.slc,H.ssc]|((first|apply bP|apply bS|apply bR)<;>intro h<;>try simp at h))<;>(try exact cp))
  ·refine H.lessA s1 j a (by omega) (by omega) fun o=>?_;cases aG:lt d1[j]! d1[a]!
   ·obtain⟨j,rfl⟩:∃dA,j=dA+1:=⟨j-1,by omega⟩;have nV:(((j+1:Nat):Int)-1)=(j:Nat):=by omega
    simp;(with_reducible repeat' first|refine aj ?_|simp);try rw[nV]
    refine bN.whl j (by omega) ⟨by omega,by omega,by rw[←gU];exact(LN (p:=fun x=> !lt x d1[a]!) (by omega) (by simp[aG])).symm⟩ (H.weakC au (by simpa using s1) (by simp[aC]))
   ·have xm:Sort.scanDown (fun x=> !lt x d1[a]!) d1 i j=j:=uq (by simp[aG]);have cF:i≠j:=fun e=>by subst e;rw[ab]at aG;cases aG
    rw[xm]at gU;rw[←gU,if_neg (by omega)]at bh;simp;((with_reducible repeat' first|refine aj ?_|simp[Pv.look,H.slc,H.ssc]|((first|apply bP|apply bS|apply bR)<;>intro h<;>try simp at h))<;>(try exact cp));refine H.swapA s1 (by omega) i j (by omega) (by omega) fun o=>?_;obtain⟨d2,eI⟩:∃d2,d2=Sort.swp d1 i j:=⟨_,rfl⟩;have s2:d2.size=n:=by rw[eI,gC,s1]
    rw[←eI];rw[←eI]at bh;have bj:((i:Int)+1)=(i+1:Nat):=by omega
    have de:((j:Int)-1)=(j-1:Nat):=by omega
    simp;(with_reducible repeat' first|refine aj ?_|simp);rw[bj,de];refine H.loopA au [1,4] (fun(x:(Nat×Nat)×Array α)=>[(10,.int .i64 x.1.1),(11,.int .i64 x.1.2)]) (·.2) (fun x=>x.1.2+1-x.1.1) (fun x=>x.2.size=n∧(a+1≤x.1.1∧x.1.1≤x.1.2+1∧x.1.2≤b-1)∧Sort.partLoop lt a x.1.1 x.1.2 x.2=Sort.partLoop lt a (i+1) (j-1) d2) ((i+1,j-1),d2) s2 ⟨s2,⟨by simp;omega,by simp;omega,by simp;omega⟩,rfl⟩ (by simp[Pv.look]) aR aR (by simp[aC]) ?_;rintro⟨⟨vl,dA⟩,cj⟩ ⟨aT,⟨bz,b6,dO⟩,cZ⟩;simp only at aT bz b6 dO cZ;rw[Sort.partLoop]at cZ;generalize kf:Sort.partLoop lt a (i+1) (j-1) d2=G at cZ bh;simp;refine H.loopA au [1,4,11] (fun(x:Nat)=>[(10,.int .i64 x)]) (fun _=>cj) (fun x=>b+1-x) (fun x=>vl≤x∧x≤dA+1∧Sort.scanUp (fun x=>lt x cj[a]!) cj dA x=Sort.scanUp (fun x=>lt x cj[a]!) cj dA vl) vl aT ⟨by omega,by omega,rfl⟩ (by simp[Pv.look]) aR aR (by simp[aC]) ?_;rintro p ⟨cM,dn,iI⟩;simp[Pv.look,H.slc];((with_reducible repeat' first|refine aj ?_|simp[Pv.look,H.slc]|((first|apply bP|apply bS|apply bR)<;>intro h<;>try simp at h))<;>(try exact cp))
    ·refine H.lessA aT p a (by omega) (by omega) fun o=>?_;cases h3:lt cj[p]! cj[a]!;rotate_left
     ·have oO:((p:Int)+1)=(p+1:Nat):=by omega
      simp;(with_reducible repeat' first|refine aj ?_|simp);rw[oO];refine bN.whl (p+1) (by omega) ⟨by omega,by omega,by rw[←iI];exact(LO (p:=fun x=>lt x cj[a]!) (by omega) h3).symm⟩ (H.weakC au (by simpa using aT) (by simp[aC]))
     ·have tZ:Sort.scanUp (fun x=>lt x cj[a]!) cj dA p=p:=Ac (by simp[h3]);rw[tZ]at iI;simp only[←iI]at cZ;simp;refine H.loopA au [1,4,10] (fun(x:Nat)=>[(11,.int .i64 x)]) (fun _=>cj) (fun x=>x) (fun x=>p≤x+1∧x≤dA∧Sort.scanDown (fun x=> !lt x cj[a]!) cj p x=Sort.scanDown (fun x=> !lt x cj[a]!) cj p dA) dA aT ⟨by omega,by omega,rfl⟩ (by simp[Pv.look]) aR aR (by simp[aC]) ?_;rintro q ⟨a6,bu,bV⟩;simp[Pv.look,H.slc];((with_reducible repeat' first|refine aj ?_|simp[Pv.look,H.slc,H.ssc]|((first|apply bP|apply bS|apply bR)<;>intro h<;>try simp at h))<;>(try exact cp))
      ·refine H.lessA aT q a (by omega) (by omega) fun o=>?_;cases ri:lt cj[q]! cj[a]!
       ·obtain⟨q,rfl⟩:∃dA,q=dA+1:=⟨q-1,by omega⟩;have nV:(((q+1:Nat):Int)-1)=(q:Nat):=by omega
        simp;(with_reducible repeat' first|refine aj ?_|simp);try rw[nV]
        refine bN.whl q (by omega) ⟨by omega,by omega,by rw[←bV];exact(LN (p:=fun x=> !lt x cj[a]!) (by omega) (by simp[ri])).symm⟩ (H.weakC au (by simpa using aT) (by simp[aC]))
       ·have cW:Sort.scanDown (fun x=> !lt x cj[a]!) cj p q=q:=uq (by simp[ri]);have cF:p≠q:=fun e=>by subst e;rw[h3]at ri;cases ri
        rw[cW]at bV;simp only[←bV]at cZ;rw[if_neg (by omega),dif_pos (by omega)]at cZ;simp;((with_reducible repeat' first|refine aj ?_|simp[Pv.look,H.slc,H.ssc]|((first|apply bP|apply bS|apply bR)<;>intro h<;>try simp at h))<;>(try exact cp));refine H.swapA aT (by omega) p q (by omega) (by omega) fun o=>?_;have gS:((p:Int)+1)=(p+1:Nat):=by omega
        have hG:((q:Int)-1)=(q-1:Nat):=by omega
        simp;(with_reducible repeat' first|((first|apply bP|apply bS|apply bR)<;>intro h<;>try simp at h)|refine aj ?_|simp);rw[gS,hG];refine bN.whl ((p+1,q-1),Sort.swp cj p q) (by simp;omega) ⟨by rw[gC,aT],⟨by simp;omega,by simp;omega,by simp;omega⟩,cZ⟩ (H.weakC au (by simp[gC,aT]) (by simp[aC]))
      ·have cW:Sort.scanDown (fun x=> !lt x cj[a]!) cj p q=q:=uq (by omega);rw[cW]at bV;simp only[←bV]at cZ;rw[if_pos (by omega)]at cZ;rw[←cZ]at bh;refine H.swapA aT (by omega) q a (by omega) (by omega) fun o=>?_;simp;refine H.retR au (d:=Sort.swp cj q a) (by rw[gC,aT]) (.inl rfl) ?_;simp[cX,CJ,aX,aZ,aW];rw[bh];exact⟨⟨rfl,rfl⟩,_,rfl,rfl,by rw[gC,aT]⟩
    ·have tZ:Sort.scanUp (fun x=>lt x cj[a]!) cj dA p=p:=Ac (by omega);rw[tZ]at iI;simp only[←iI]at cZ;have cW:Sort.scanDown (fun x=> !lt x cj[a]!) cj p dA=dA:=uq (by omega);rw[cW,if_pos (by omega)]at cZ;rw[←cZ]at bh;refine H.loopA au [1,4,10] (fun(x:Nat)=>[(11,.int .i64 x)]) (fun _=>cj) (fun x=>x) (fun x=>x=dA) dA aT rfl (by simp[Pv.look]) aR aR (by simp[aC]) ?_;rintro q rfl;simp[Pv.look,H.slc];((with_reducible repeat' first|refine aj ?_|simp[Pv.look,H.slc,H.ssc]|((first|apply bP|apply bS|apply bR)<;>intro h<;>try simp at h))<;>(try exact cp));refine H.swapA aT (by omega) q a (by omega) (by omega) fun o=>?_;simp;refine H.retR au (d:=Sort.swp cj q a) (by rw[gC,aT]) (.inl rfl) ?_;simp[cX,CJ,aX,aZ,aW];rw[bh];exact⟨⟨rfl,rfl⟩,_,rfl,rfl,by rw[gC,aT]⟩
  ·have xm:Sort.scanDown (fun x=> !lt x d1[a]!) d1 i j=j:=uq (by omega);rw[xm]at gU;rw[←gU,if_pos (by omega)]at bh;refine H.swapA s1 (by omega) j a (by omega) (by omega) fun o=>?_;simp;refine H.retR au (d:=Sort.swp d1 j a) (by rw[gC,s1]) (.inl rfl) ?_;simp[cX,CJ,aX,aZ,aW];rw[bh];exact⟨⟨rfl,rfl⟩,_,rfl,rfl,by rw[gC,s1]⟩
 ·have i4:Sort.scanUp (fun x=>lt x d1[a]!) d1 (b-1) i=i:=Ac (by omega);rw[i4]at i3;have xm:Sort.scanDown (fun x=> !lt x d1[a]!) d1 i (b-1)=b-1:=uq (by omega);rw[←i3,xm,if_pos (by omega)]at bh;refine H.loopA au [1,4,10] (fun(j:Nat)=>[(11,.int .i64 j)]) (fun _=>d1) (fun j=>j) (fun j=>j=b-1) (b-1) s1 rfl (by simp[Pv.look]) aR aR (by simp[aC]) ?_;rintro j rfl;simp[Pv.look,H.slc];((with_reducible repeat' first|refine aj ?_|simp[Pv.look,H.slc,H.ssc]|((first|apply bP|apply bS|apply bR)<;>intro h<;>try simp at h))<;>(try exact cp));refine H.swapA s1 (by omega) (b-1) a (by omega) (by omega) fun o=>?_;simp;refine H.retR au (d:=Sort.swp d1 (b-1) a) (by rw[gC,s1]) (.inl rfl) ?_;simp[cX,CJ,aX,aZ,aW];rw[bh];exact⟨⟨rfl,rfl⟩,_,rfl,rfl,by rw[gC,s1]⟩
end Go.Proofs.YtahlgcidhnjlbaaGreat
namespace Go.Proofs.YtahlgcidhnjlbaaGreat
open Go Go.Pv
variable {α:Type} [Inhabited α] {S:List α→cJ} {n g b7:Nat} {lc b1:List ah} {lt:α→α→Bool}
theorem acB(H:e0 S n g b7 lc b1 lt)(d:Array α)(aQ:d.size=n)(a b pivot:Nat)(q3:a≤pivot)(aeh:pivot<b)(mN:a+1<b)(ae:b≤n):
  bQ al 243 [eS g b7 lc b1,.int .i64 a,.int .i64 b,.int .i64 pivot] (S d.toList) fun r ai=>r= .int .i64 (Sort.partitionEqual lt d a b pivot).1∧∃b8,ai=S b8.toList∧b8=(Sort.partitionEqual lt d a b pivot).2∧b8.size=n:=by
 obtain⟨R,bh⟩:∃R,R=Sort.partitionEqual lt d a b pivot:=⟨_,rfl⟩;rw[←bh];unfold Sort.partitionEqual at bh;have ag:=H.ok d.toList;have au:d.toList.length=n:=by simpa using aQ
 have aA:∀l m,Pv.look (.loc m) (S l).b=none:=fun l=>(H.ok l).obj.1;have hu:∀l m cs,cx (.loc m) cs (S l).b=(S l).b++[(.loc m,cs)]:=fun l m cs=>jR (aA l m);have aw:∀m,aH.loc m∉cS (S d.toList):=jM ag.obj;have hle:=H.le;refine bQ.mk mixed nF abj ahJ (by simp) ag.obj fun aP cQ=>?_;unfold OS;simp[eS,hu,aw,cI,aA];rw[H.ssc];refine H.swapA0 aQ (by omega) a pivot (by omega) (by omega) fun o=>?_;obtain⟨d1,fk⟩:∃d1,d1=Sort.swp d a pivot:=⟨_,rfl⟩;have s1:d1.size=n:=by rw[fk,gC,aQ]
 rw[←fk];rw[←fk]at bh;have ak:((a:Int)+1)=(a+1:Nat):=by omega
 have aB:((b:Int)-1)=(b-1:Nat):=by omega
 simp;(with_reducible repeat' first|refine aj ?_|simp);rw[ak,aB];refine H.loopA au [1,4] (fun(x:(Nat×Nat)×Array α)=>[(9,.int .i64 x.1.1),(10,.int .i64 x.1.2)]) (·.2) (fun x=>x.1.2+1-x.1.1) (fun x=>x.2.size=n∧(a+1≤x.1.1∧x.1.1≤x.1.2+1∧x.1.2≤b-1)∧Sort.partEqLoop lt a x.1.1 x.1.2 x.2=R) ((a+1,b-1),d1) s1 ⟨s1,⟨by simp,by simp;omega,by simp⟩,bh.symm⟩ (by simp[Pv.look]) aR aR (by simp[aC]) ?_;rintro⟨⟨vl,dA⟩,cj⟩ ⟨aT,⟨bz,b6,dO⟩,cZ⟩;simp only at aT bz b6 dO cZ;rw[Sort.partEqLoop]at cZ;simp;refine H.loopA au [1,4,10] (fun(x:Nat)=>[(9,.int .i64 x)]) (fun _=>cj) (fun x=>b+1-x) (fun x=>vl≤x∧x≤dA+1∧Sort.scanUp (fun x=> !lt cj[a]! x) cj dA x=Sort.scanUp (fun x=> !lt cj[a]! x) cj dA vl) vl aT ⟨by omega,by omega,rfl⟩ (by simp[Pv.look]) aR aR (by simp[aC]) ?_;rintro p ⟨cM,dn,iI⟩;simp[Pv.look,H.slc];((with_reducible repeat' first|refine aj ?_|simp[Pv.look,H.slc]|((first|apply bP|apply bS|apply bR)<;>intro h<;>try simp at h))<;>(try exact cp))
 ·refine H.lessA aT a p (by omega) (by omega) fun o=>?_;cases h3:lt cj[a]! cj[p]!
  ·have oO:((p:Int)+1)=(p+1:Nat):=by omega
   simp;(with_reducible repeat' first|refine aj ?_|simp);rw[oO];refine bN.whl (p+1) (by omega) ⟨by omega,by omega,by rw[←iI];exact(LO (p:=fun x=> !lt cj[a]! x) (by omega) (by simp[h3])).symm⟩ (H.weakC au (by simpa using aT) (by simp[aC]))
  ·have tZ:Sort.scanUp (fun x=> !lt cj[a]! x) cj dA p=p:=Ac (by simp[h3]);rw[tZ]at iI;simp only[←iI]at cZ;simp;refine H.loopA au [1,4,9] (fun(x:Nat)=>[(10,.int .i64 x)]) (fun _=>cj) (fun x=>x) (fun x=>p≤x+1∧x≤dA∧Sort.scanDown (fun x=>lt cj[a]! x) cj p x=Sort.scanDown (fun x=>lt cj[a]! x) cj p dA) dA aT ⟨by omega,by omega,rfl⟩ (by simp[Pv.look]) aR aR (by simp[aC]) ?_;rintro q ⟨a6,bu,bV⟩;simp[Pv.look,H.slc];((with_reducible repeat' first|refine aj ?_|simp[Pv.look,H.slc,H.ssc]|((first|apply bP|apply bS|apply bR)<;>intro h<;>try simp at h))<;>(try exact cp))
   ·refine H.lessA aT a q (by omega) (by omega) fun o=>?_;cases ri:lt cj[a]! cj[q]!;rotate_left
    ·obtain⟨q,rfl⟩:∃dA,q=dA+1:=⟨q-1,by omega⟩;have nV:(((q+1:Nat):Int)-1)=(q:Nat):=by omega
     simp;(with_reducible repeat' first|refine aj ?_|simp);try rw[nV]
     refine bN.whl q (by omega) ⟨by omega,by omega,by rw[←bV];exact(LN (p:=fun x=>lt cj[a]! x) (by omega) (by simp[ri])).symm⟩ (H.weakC au (by simpa using aT) (by simp[aC]))
    ·have cW:Sort.scanDown (fun x=>lt cj[a]! x) cj p q=q:=uq (by simp[ri]);have cF:p≠q:=fun e=>by subst e;rw[h3]at ri;cases ri
     rw[cW]at bV;simp only[←bV]at cZ;rw[if_neg (by omega),dif_pos (by omega)]at cZ;simp;((with_reducible repeat' first|refine aj ?_|simp[Pv.look,H.slc,H.ssc]|((first|apply bP|apply bS|apply bR)<;>intro h<;>try simp at h))<;>(try exact cp));refine H.swapA aT (by omega) p q (by omega) (by omega) fun o=>?_;have gS:((p:Int)+1)=(p+1:Nat):=by omega
     have hG:((q:Int)-1)=(q-1:Nat):=by omega
     simp;(with_reducible repeat' first|((first|apply bP|apply bS|apply bR)<;>intro h<;>try simp at h)|refine aj ?_|simp);rw[gS,hG];refine bN.whl ((p+1,q-1),Sort.swp cj p q) (by simp;omega) ⟨by rw[gC,aT],⟨by simp;omega,by simp;omega,by simp;omega⟩,cZ⟩ (H.weakC au (by simp[gC,aT]) (by simp[aC]))
   ·have cW:Sort.scanDown (fun x=>lt cj[a]! x) cj p q=q:=uq (by omega);rw[cW]at bV;simp only[←bV]at cZ;rw[if_pos (by omega)]at cZ;refine H.retR au (d:=cj) aT (.inl rfl) ?_;simp[cX,Lg,aX,aZ,aW];rw[←cZ];exact⟨rfl,_,rfl,rfl,aT⟩
 ·have tZ:Sort.scanUp (fun x=> !lt cj[a]! x) cj dA p=p:=Ac (by omega);rw[tZ]at iI;simp only[←iI]at cZ;have cW:Sort.scanDown (fun x=>lt cj[a]! x) cj p dA=dA:=uq (by omega);rw[cW,if_pos (by omega)]at cZ;refine H.loopA au [1,4,9] (fun(x:Nat)=>[(10,.int .i64 x)]) (fun _=>cj) (fun x=>x) (fun x=>x=dA) dA aT rfl (by simp[Pv.look]) aR aR (by simp[aC]) ?_;rintro q rfl;simp[Pv.look,H.slc];((with_reducible repeat' first|refine aj ?_|simp[Pv.look,H.slc,H.ssc]|((first|apply bP|apply bS|apply bR)<;>intro h<;>try simp at h))<;>(try exact cp));refine H.retR au (d:=cj) aT (.inl rfl) ?_;simp[cX,Lg,aX,aZ,aW];rw[←cZ];exact⟨rfl,_,rfl,rfl,aT⟩
end Go.Proofs.YtahlgcidhnjlbaaGreat
namespace Go.Proofs.YtahlgcidhnjlbaaGreat
open Go Go.Pv
variable {α:Type} [Inhabited α] {S:List α→cJ} {n g b7:Nat} {lc b1:List ah} {lt:α→α→Bool}
theorem acz(H:e0 S n g b7 lc b1 lt)(d:Array α)(aQ:d.size=n)(a b:Nat)(mN:a<b)(ae:b≤n)(U:2≤n):
  bQ al 242 [eS g b7 lc b1,.int .i64 a,.int .i64 b] (S d.toList) fun r ai=>r= .bool (Sort.partialInsertionSort lt d a b).2∧∃b8,ai=S b8.toList∧b8=(Sort.partialInsertionSort lt d a b).1∧b8.size=n:=by
 obtain⟨R,bh⟩:∃R,R=Sort.partialInsertionSort lt d a b:=⟨_,rfl⟩;rw[←bh];unfold Sort.partialInsertionSort at bh;have ag:=H.ok d.toList;have au:d.toList.length=n:=by simpa using aQ
 have aA:∀l m,Pv.look (.loc m) (S l).b=none:=fun l=>(H.ok l).obj.1;have hu:∀l m cs,cx (.loc m) cs (S l).b=(S l).b++[(.loc m,cs)]:=fun l m cs=>jR (aA l m);have aw:∀m,aH.loc m∉cS (S d.toList):=jM ag.obj;have hle:=H.le;refine bQ.mk mixed nF abi ahI (by simp) ag.obj fun aP cQ=>?_;unfold OR;simp[eS,hu,aw,cI,aA];have ak:((a:Int)+1)=(a+1:Nat):=by omega
 (with_reducible repeat' first|refine aj ?_|simp);rw[ak];refine H.loopA au [1,2,3] (fun(x:(Nat×Nat)×Array α)=>[(7,.int .i64 x.1.1),(8,.int .i64 x.1.2)]) (·.2) (fun x=>5-x.1.2) (fun x=>x.2.size=n∧(a+1≤x.1.1∧x.1.1≤b∧x.1.2≤5)∧Sort.partialIns lt a b (5-x.1.2) x.1.1 x.2=R) ((a+1,0),d) aQ ⟨aQ,⟨by simp,by simp;omega,by simp⟩,bh.symm⟩ (by simp[cI,aA]) aR aR (by simp[aC]) ?_;rintro⟨⟨i0,s⟩,cj⟩ ⟨aT,⟨bz,b6,dO⟩,cZ⟩;simp only at aT bz b6 dO cZ;simp;((with_reducible repeat' first|refine aj ?_|simp|((first|apply bP|apply bS|apply bR)<;>intro h<;>try simp at h))<;>(try exact cp))
 ·obtain⟨m,hm⟩:∃m,5-s=m+1:=⟨5-s-1,by omega⟩;rw[hm,Sort.partialIns]at cZ;refine H.loopA au [1,2,3,8] (fun(x:Nat)=>[(7,.int .i64 x)]) (fun _=>cj) (fun x=>b-x) (fun x=>i0≤x∧x≤b∧Sort.scanSorted lt cj b x=Sort.scanSorted lt cj b i0) i0 aT ⟨by omega,by omega,rfl⟩ (by simp[Pv.look]) aR aR (by simp[aC]) ?_;rintro i ⟨i1,i2,i3⟩;rw[Sort.scanSorted]at i3;have oO:((i:Int)+1)=(i+1:Nat):=by omega
  have D4:((i:Int)-1)=(i-1:Nat):=by omega
  have es:((s:Int)+1)=(s+1:Nat):=by omega
  have em:5-(s+1)=m:=by omega
  simp[Pv.look,H.slc];((with_reducible repeat' first|refine aj ?_|simp[Pv.look,H.slc]|((first|apply bP|apply bS|apply bR)<;>intro h<;>try simp at h))<;>(try exact cp))
  ·rw[D4];refine H.lessA aT i (i-1) (by omega) (by omega) fun o=>?_;cases ab:lt cj[i]! cj[i-1]!
   ·rw[if_pos (by simp[ab];omega)]at i3;simp;(with_reducible repeat' first|refine aj ?_|simp);rw[oO];refine bN.whl (i+1) (by omega) ⟨by omega,by omega,i3⟩ (H.weakC au (by simpa using aT) (by simp[aC]))
   ·rw[if_neg (by simp[ab])]at i3;simp only[←i3]at cZ;rw[if_neg (by omega)]at cZ;have yZ:(i:Int)≠b:=by omega
    have adG:((i:Int)==b)=false:=by simp;omega
    simp;((with_reducible repeat' first|refine aj ?_|simp[yZ,adG,Pv.look,H.slc,H.ssc]|((first|apply bP|apply bS|apply bR)<;>intro h<;>try simp at h))<;>(try exact cp))
    ·rw[if_pos (by omega)]at cZ;refine H.retR au (d:=cj) aT (.inl rfl) ?_;simp[cX,F3,aX,aZ,aW];rw[←cZ];exact⟨rfl,_,rfl,rfl,aT⟩
    ·rw[if_neg (by omega)]at cZ;rw[D4];refine H.swapA aT U i (i-1) (by omega) (by omega) fun o=>?_;obtain⟨d2,eI⟩:∃d2,d2=Sort.swp cj i (i-1):=⟨_,rfl⟩;have s2:d2.size=n:=by rw[eI,gC,aT]
     rw[←eI];simp only[←eI]at cZ;by_cases ls:2≤b-i
     ·rw[if_pos ls]at cZ;have sp:(2:Int)≤(b:Int)-i:=by omega
      by_cases Bs:2≤i-a
      ·rw[if_pos Bs]at cZ;have wW:(2:Int)≤(i:Int)-a:=by omega
       simp;(with_reducible repeat' first|refine aj ?_|simp[wW]);rw[D4];refine H.loopA au [1,2,3,7,8] (fun(x:Nat×Array α)=>[(9,.int .i64 x.1)]) (·.2) (fun x=>x.1) (fun x=>x.2.size=n∧x.1≤i-1∧Sort.shiftDown lt x.1 x.2=Sort.shiftDown lt (i-1) d2) (i-1,d2) s2 ⟨s2,by simp,rfl⟩ (by simp[Pv.look]) aR aR (by simp[aC]) ?_;rintro⟨j,fI⟩ ⟨hh,vm,gU⟩;simp only at hh vm gU;simp[Pv.look,H.slc,H.ssc];((with_reducible repeat' first|refine aj ?_|simp[Pv.look,H.slc,H.ssc,sp]|((first|apply bP|apply bS|apply bR)<;>intro h<;>try simp at h))<;>(try exact cp))
       ·obtain⟨j,rfl⟩:∃dA,j=dA+1:=⟨j-1,by omega⟩;have nV:(((j+1:Nat):Int)-1)=(j:Nat):=by omega
        rw[Sort.shiftDown]at gU;try rw[nV]
        refine H.lessA hh (j+1) j (by omega) (by omega) fun o=>?_;cases aG:lt fI[j+1]! fI[j]!
        ·rw[if_pos (by simp[aG])]at gU;rw[←gU]at cZ;try simp
         try(with_reducible repeat' first|refine aj ?_|simp[Pv.look,H.slc,H.ssc,sp])
         rw[oO];refine H.loopA au [1,2,3,7,8] (fun(x:Nat×Array α)=>[(10,.int .i64 x.1)]) (·.2) (fun x=>b-x.1) (fun x=>x.2.size=n∧(i+1≤x.1∧x.1≤b)∧Sort.shiftUp lt b x.1 x.2=Sort.shiftUp lt b (i+1) fI) (i+1,fI) hh ⟨hh,⟨by simp,by simp;omega⟩,rfl⟩ (by simp[Pv.look]) aR aR (by simp[aC]) ?_;rintro⟨q,mH⟩ ⟨a6,⟨bu,xL⟩,bV⟩;simp only at a6 bu xL bV;rw[Sort.shiftUp]at bV;have eq:((q:Int)-1)=(q-1:Nat):=by omega
         have A0:((q:Int)+1)=(q+1:Nat):=by omega
         simp[Pv.look,H.slc,H.ssc];((with_reducible repeat' first|refine aj ?_|simp[Pv.look,H.slc,H.ssc]|((first|apply bP|apply bS|apply bR)<;>intro h<;>try simp at h))<;>(try exact cp))
         ·rw[if_pos (by omega)]at bV;rw[eq];refine H.lessA a6 q (q-1) (by omega) (by omega) fun o=>?_;cases bD:lt mH[q]! mH[q-1]!
          ·rw[if_pos (by simp[bD])]at bV;rw[←bV]at cZ;simp;(with_reducible repeat' first|refine aj ?_|simp);rw[es];refine bN.whl ((i,s+1),mH) (by simp;omega) ⟨a6,⟨by simp;omega,by simp;omega,by simp;omega⟩,by simp only[em];exact cZ⟩ (H.weakC au (by simpa using a6) (by simp[aC]))
          ·rw[if_neg (by simp[bD])]at bV;simp;(with_reducible repeat' first|refine aj ?_|simp[Pv.look,H.slc,H.ssc]);rw[eq];refine H.swapA a6 (by omega) q (q-1) (by omega) (by omega) fun o=>?_;simp;((with_reducible repeat' first|refine aj ?_|simp|((first|apply bP|apply bS|apply bR)<;>intro h<;>try simp at h))<;>(try exact cp));rw[A0];refine bN.whl (q+1,Sort.swp mH q (q-1)) (by simp;omega) ⟨by rw[gC,a6],⟨by simp;omega,by simp;omega⟩,bV⟩ (H.weakC au (by simp[gC,a6]) (by simp[aC]))
         ·rw[if_neg (by omega)]at bV;rw[←bV]at cZ;rw[es];refine bN.whl ((i,s+1),mH) (by simp;omega) ⟨a6,⟨by simp;omega,by simp;omega,by simp;omega⟩,by simp only[em];exact cZ⟩ (H.weakC au (by simpa using a6) (by simp[aC]))
        ·rw[if_neg (by simp[aG])]at gU;simp;(with_reducible repeat' first|refine aj ?_|simp[Pv.look,H.slc,H.ssc]);try rw[nV]
         refine H.swapA hh U (j+1) j (by omega) (by omega) fun o=>?_;simp;((with_reducible repeat' first|refine aj ?_|simp|((first|apply bP|apply bS|apply bR)<;>intro h<;>try simp at h))<;>(try exact cp));try rw[nV]
         refine bN.whl (j,Sort.swp fI (j+1) j) (by simp) ⟨by rw[gC,hh],by simp;omega,gU⟩ (H.weakC au (by simp[gC,hh]) (by simp[aC]))
       ·obtain rfl:j=0:=by omega
        rw[Sort.shiftDown]at gU;rw[←gU]at cZ;try simp
        try(with_reducible repeat' first|refine aj ?_|simp[Pv.look,H.slc,H.ssc,sp])
        rw[oO];refine H.loopA au [1,2,3,7,8] (fun(x:Nat×Array α)=>[(10,.int .i64 x.1)]) (·.2) (fun x=>b-x.1) (fun x=>x.2.size=n∧(i+1≤x.1∧x.1≤b)∧Sort.shiftUp lt b x.1 x.2=Sort.shiftUp lt b (i+1) fI) (i+1,fI) hh ⟨hh,⟨by simp,by simp;omega⟩,rfl⟩ (by simp[Pv.look]) aR aR (by simp[aC]) ?_;rintro⟨q,mH⟩ ⟨a6,⟨bu,xL⟩,bV⟩;simp only at a6 bu xL bV;rw[Sort.shiftUp]at bV;have eq:((q:Int)-1)=(q-1:Nat):=by omega
        have A0:((q:Int)+1)=(q+1:Nat):=by omega
        simp[Pv.look,H.slc,H.ssc];((with_reducible repeat' first|refine aj ?_|simp[Pv.look,H.slc,H.ssc]|((first|apply bP|apply bS|apply bR)<;>intro h<;>try simp at h))<;>(try exact cp))
        ·rw[if_pos (by omega)]at bV;rw[eq];refine H.lessA a6 q (q-1) (by omega) (by omega) fun o=>?_;cases bD:lt mH[q]! mH[q-1]!
         ·rw[if_pos (by simp[bD])]at bV;rw[←bV]at cZ;simp;(with_reducible repeat' first|refine aj ?_|simp);rw[es];refine bN.whl ((i,s+1),mH) (by simp;omega) ⟨a6,⟨by simp;omega,by simp;omega,by simp;omega⟩,by simp only[em];exact cZ⟩ (H.weakC au (by simpa using a6) (by simp[aC]))
         ·rw[if_neg (by simp[bD])]at bV;simp;(with_reducible repeat' first|refine aj ?_|simp[Pv.look,H.slc,H.ssc]);rw[eq];refine H.swapA a6 (by omega) q (q-1) (by omega) (by omega) fun o=>?_;simp;((with_reducible repeat' first|refine aj ?_|simp|((first|apply bP|apply bS|apply bR)<;>intro h<;>try simp at h))<;>(try exact cp));rw[A0];refine bN.whl (q+1,Sort.swp mH q (q-1)) (by simp;omega) ⟨by rw[gC,a6],⟨by simp;omega,by simp;omega⟩,bV⟩ (H.weakC au (by simp[gC,a6]) (by simp[aC]))
        ·rw[if_neg (by omega)]at bV;rw[←bV]at cZ;rw[es];refine bN.whl ((i,s+1),mH) (by simp;omega) ⟨a6,⟨by simp;omega,by simp;omega,by simp;omega⟩,by simp only[em];exact cZ⟩ (H.weakC au (by simpa using a6) (by simp[aC]))
      ·rw[if_neg Bs]at cZ;have wW:¬(2:Int)≤(i:Int)-a:=by omega
       simp;(with_reducible repeat' first|refine aj ?_|simp[wW,sp]);try simp
       try(with_reducible repeat' first|refine aj ?_|simp[Pv.look,H.slc,H.ssc,sp])
       rw[oO];refine H.loopA au [1,2,3,7,8] (fun(x:Nat×Array α)=>[(10,.int .i64 x.1)]) (·.2) (fun x=>b-x.1) (fun x=>x.2.size=n∧(i+1≤x.1∧x.1≤b)∧Sort.shiftUp lt b x.1 x.2=Sort.shiftUp lt b (i+1) d2) (i+1,d2) s2 ⟨s2,⟨by simp,by simp;omega⟩,rfl⟩ (by simp[Pv.look]) aR aR (by simp[aC]) ?_;rintro⟨q,mH⟩ ⟨a6,⟨bu,xL⟩,bV⟩;simp only at a6 bu xL bV;rw[Sort.shiftUp]at bV;have eq:((q:Int)-1)=(q-1:Nat):=by omega
       have A0:((q:Int)+1)=(q+1:Nat):=by omega
       simp[Pv.look,H.slc,H.ssc];((with_reducible repeat' first|refine aj ?_|simp[Pv.look,H.slc,H.ssc]|((first|apply bP|apply bS|apply bR)<;>intro h<;>try simp at h))<;>(try exact cp))
       ·rw[if_pos (by omega)]at bV;rw[eq];refine H.lessA a6 q (q-1) (by omega) (by omega) fun o=>?_;cases bD:lt mH[q]! mH[q-1]!
        ·rw[if_pos (by simp[bD])]at bV;rw[←bV]at cZ;simp;(with_reducible repeat' first|refine aj ?_|simp);rw[es];refine bN.whl ((i,s+1),mH) (by simp;omega) ⟨a6,⟨by simp;omega,by simp;omega,by simp;omega⟩,by simp only[em];exact cZ⟩ (H.weakC au (by simpa using a6) (by simp[aC]))
        ·rw[if_neg (by simp[bD])]at bV;simp;(with_reducible repeat' first|refine aj ?_|simp[Pv.look,H.slc,H.ssc]);rw[eq];refine H.swapA a6 (by omega) q (q-1) (by omega) (by omega) fun o=>?_;simp;((with_reducible repeat' first|refine aj ?_|simp|((first|apply bP|apply bS|apply bR)<;>intro h<;>try simp at h))<;>(try exact cp));rw[A0];refine bN.whl (q+1,Sort.swp mH q (q-1)) (by simp;omega) ⟨by rw[gC,a6],⟨by simp;omega,by simp;omega⟩,bV⟩ (H.weakC au (by simp[gC,a6]) (by simp[aC]))
       ·rw[if_neg (by omega)]at bV;rw[←bV]at cZ;rw[es];refine bN.whl ((i,s+1),mH) (by simp;omega) ⟨a6,⟨by simp;omega,by simp;omega,by simp;omega⟩,by simp only[em];exact cZ⟩ (H.weakC au (by simpa using a6) (by simp[aC]))
     ·rw[if_neg ls]at cZ;have sp:¬(2:Int)≤(b:Int)-i:=by omega
      by_cases Bs:2≤i-a
      ·rw[if_pos Bs]at cZ;have wW:(2:Int)≤(i:Int)-a:=by omega
       simp;(with_reducible repeat' first|refine aj ?_|simp[wW]);rw[D4];refine H.loopA au [1,2,3,7,8] (fun(x:Nat×Array α)=>[(9,.int .i64 x.1)]) (·.2) (fun x=>x.1) (fun x=>x.2.size=n∧x.1≤i-1∧Sort.shiftDown lt x.1 x.2=Sort.shiftDown lt (i-1) d2) (i-1,d2) s2 ⟨s2,by simp,rfl⟩ (by simp[Pv.look]) aR aR (by simp[aC]) ?_;rintro⟨j,fI⟩ ⟨hh,vm,gU⟩;simp only at hh vm gU;simp[Pv.look,H.slc,H.ssc];((with_reducible repeat' first|refine aj ?_|simp[Pv.look,H.slc,H.ssc,sp]|((first|apply bP|apply bS|apply bR)<;>intro h<;>try simp at h))<;>(try exact cp))
       ·obtain⟨j,rfl⟩:∃dA,j=dA+1:=⟨j-1,by omega⟩;have nV:(((j+1:Nat):Int)-1)=(j:Nat):=by omega
        rw[Sort.shiftDown]at gU;try rw[nV]
        refine H.lessA hh (j+1) j (by omega) (by omega) fun o=>?_;cases aG:lt fI[j+1]! fI[j]!
        ·rw[if_pos (by simp[aG])]at gU;rw[←gU]at cZ;try simp
         try(with_reducible repeat' first|refine aj ?_|simp[Pv.look,H.slc,H.ssc,sp])
         rw[es];refine bN.whl ((i,s+1),fI) (by simp;omega) ⟨hh,⟨by simp;omega,by simp;omega,by simp;omega⟩,by simp only[em];exact cZ⟩ (H.weakC au (by simpa using hh) (by simp[aC]))
        ·rw[if_neg (by simp[aG])]at gU;simp;(with_reducible repeat' first|refine aj ?_|simp[Pv.look,H.slc,H.ssc]);try rw[nV]
         refine H.swapA hh U (j+1) j (by omega) (by omega) fun o=>?_;simp;((with_reducible repeat' first|refine aj ?_|simp|((first|apply bP|apply bS|apply bR)<;>intro h<;>try simp at h))<;>(try exact cp));try rw[nV]
         refine bN.whl (j,Sort.swp fI (j+1) j) (by simp) ⟨by rw[gC,hh],by simp;omega,gU⟩ (H.weakC au (by simp[gC,hh]) (by simp[aC]))
       ·obtain rfl:j=0:=by omega
        rw[Sort.shiftDown]at gU;rw[←gU]at cZ;try simp
        try(with_reducible repeat' first|refine aj ?_|simp[Pv.look,H.slc,H.ssc,sp])
        rw[es];refine bN.whl ((i,s+1),fI) (by simp;omega) ⟨hh,⟨by simp;omega,by simp;omega,by simp;omega⟩,by simp only[em];exact cZ⟩ (H.weakC au (by simpa using hh) (by simp[aC]))
      ·rw[if_neg Bs]at cZ;have wW:¬(2:Int)≤(i:Int)-a:=by omega
       simp;((with_reducible repeat' first|refine aj ?_|simp[wW,sp]|((first|apply bP|apply bS|apply bR)<;>intro h<;>try simp at h))<;>(try exact cp));done
  ·rw[if_neg (by simp;omega)]at i3;simp only[←i3]at cZ;rw[if_pos (by omega)]at cZ;refine H.retR au (d:=cj) aT (.inl rfl) ?_;simp[cX,F3,aX,aZ,aW];rw[←cZ];exact⟨rfl,_,rfl,rfl,aT⟩
 ·have:5-s=0:=by omega
  rw[this,Sort.partialIns]at cZ;refine H.retR au (d:=cj) aT (.inl rfl) ?_;simp[cX,F3,aX,aZ,aW];rw[←cZ];exact⟨rfl,_,rfl,rfl,aT⟩
end Go.Proofs.YtahlgcidhnjlbaaGreat
namespace Go.Proofs.YtahlgcidhnjlbaaGreat
open Go Go.Pv
variable {α:Type} [Inhabited α] {S:List α→cJ} {n g b7:Nat} {lc b1:List ah} {lt:α→α→Bool}
def e6(S:List α→cJ)(d:Array α)(v:Nat):cJ:=⟨(.obj 901,[.int .i64 v])::(S d.toList).b,(S d.toList).e⟩
def ry(S:List α→cJ)(m:Nat):Prop:= ∀l,Pv.look (.obj m) (S l).b=none∧Pv.look (.obj m) (S l).e=none
theorem nk(H:e0 S n g b7 lc b1 lt)(d:Array α)(v:Nat):eo (e6 S d v):=by
 have h:=H.ok d.toList;have je:∀k,inObs (S d.toList) k→inObs (e6 S d v) k:=fun k ad=>by
  rcases ad with ad|ad
  ·refine .inl ?_;simp only[e6,Pv.look];split
   ·rfl
   ·exact ad
  ·exact .inr ad
 refine⟨⟨fun m=>?_,h.obj.2⟩,fun k cs ad=>?_,fun k o aw xs ab=>jJ je _ (h.ke k o aw xs ab)⟩
 ·simp[e6,Pv.look,h.obj.1 m]
 ·simp only[e6,Pv.look]at ad;split at ad
  ·cases ad;simp[aK,aC]
  ·exact jJ je _ (h.kb k cs ad)
theorem rU(d:Array α)(v v':Nat):Same (e6 S d v) (e6 S d v'):=⟨fun k=>by simp only[e6,Pv.look];split<;>rfl,fun _=>rfl⟩
theorem IK(H:e0 S n g b7 lc b1 lt)(ad:ry S 901)(d:Array α)(aQ:d.size=n)(a b v:Nat)(bF:a<n)(ae:b<n)(aJ:v≤1000):
  bQ al 271 [eS g b7 lc b1,.int .i64 a,.int .i64 b,.ptr (.obj 901) 0] (e6 S d v) fun r ai=>r= .tuple [.int .i64 (Sort.order2 lt d a b v).1,.int .i64 (Sort.order2 lt d a b v).2.1]∧ai=e6 S d (Sort.order2 lt d a b v).2.2:=by
 have ag:=H.ok d.toList;have au:d.toList.length=n:=by simpa using aQ
 have aA:∀l m,Pv.look (.loc m) (S l).b=none:=fun l=>(H.ok l).obj.1;have hu:∀l m cs,cx (.loc m) cs (S l).b=(S l).b++[(.loc m,cs)]:=fun l m cs=>jR (aA l m);have aw:∀m,aH.loc m∉cS (S d.toList):=jM ag.obj;have gn:∀l,Pv.look (.obj 901) (S l).b=none:=fun l=>(ad l).1;have kV:∀l,Pv.look (.obj 901) (S l).e=none:=fun l=>(ad l).2;have hle:=H.le;have kl:=nk H d v;obtain⟨R,bh⟩:∃R,R=Sort.order2 lt d a b v:=⟨_,rfl⟩;rw[←bh];unfold Sort.order2 at bh;refine bQ.mk mixed nF abh ahH (by simp) kl.obj fun aP cQ=>?_;unfold OQ;have ln:aH.loc 0∉cS (e6 S d v):=jM kl.obj 0;generalize tG:cS (e6 S d v)=ob at ln⊢;unfold e6;simp[eS,hu,ln,cI,aA,Pv.look,cx];rw[H.slc];refine c7.ob (H.less d.toList au b a _ _ (yl (by omega)) (yl (by omega))) (H.ok _) (fun k cs ab=>?_) (fun _ _ ab=>ab) (by simp[aC,aK,H.klc d.toList au]) ?_
 ·simp only[Pv.look];split
  ·rename_i e;subst e;rw[gn]at ab;cases ab
  ·rw[cI,ab]
 rintro r ai ⟨rfl,rfl⟩;refine⟨Same.refl _,?_⟩;have hw:cv (S d.toList).b ((aH.obj 901,[ah.int .i64 v])::((S d.toList).b++[(aH.loc 0,[ah.func g lc,ah.func b7 b1])]))=[(aH.obj 901,[ah.int .i64 v]),(aH.loc 0,[ah.func g lc,ah.func b7 b1])]:=by simp only[cv,gn];rw[im,gN];simp[cv,aA]
 rw[hw,gN];have dD:∀(t:List (Nat×ah)) (o:List aH) (v':Nat) (D:List ah) (x y:Nat),Pv.get 8 t= .int .i64 x→Pv.get 9 t= .int .i64 y→R=(x,y,v')→
   cR Lf (e6 S d v) (fun r ai=>r= .tuple [.int .i64 R.1,.int .i64 R.2.1]∧ai=e6 S d R.2.2) .ret ⟨t,(aH.obj 901,[.int .i64 v'])::(aH.loc 0,D)::(S d.toList).b,(S d.toList).e,1,o⟩:=by
  rintro t o v' D x y ab aG rfl;refine cR.at (e6 S d v') (.inl rfl) (nk H d v') (rU _ _ _) (fun k cs ax=>?_) (fun _ _ ax=>ax) ?_
  ·simp only[e6,Pv.look]at ax⊢;split at ax
   ·rename_i e;rw[if_pos e];exact ax
   ·rename_i e;rw[if_neg e];split
    ·rename_i aB;subst aB;rw[aA]at ax;cases ax
    ·exact ax
  ·simp[cX,Lf,aX,aZ,aW,ab,aG]
 cases ab:lt d[b]! d[a]! with
 |true=>
  rw[if_pos ab]at bh;simp[Pv.look,cx];(with_reducible repeat' first|refine aj ?_|simp[Pv.look,cx]);have ak:((v:Int)+1)=(v+1:Nat):=by omega
  rw[ak];exact dD _ _ (v+1) _ b a rfl rfl bh
 |false=>rw[if_neg (by simp[ab])]at bh;simp[Pv.look,cx];exact dD _ _ v _ a b rfl rfl bh
theorem TY{s ai:cJ}{f:Nat}{args:List ah}{r:ah}(aI:bQ al f args s fun eF dJ=>eF=r∧dJ=ai)(ag:eo s)(e8:Same s ai)(ad:aK (inObs s) args){t:List (Nat×ah)}{D:List ah}{o:List aH}{d:aY Nat}{K:bq→Prop}
  (h:∀o,K ⟨eK d r t,(.loc 0,D)::ai.b,ai.e,1,o⟩):c7 al f args ⟨t,s.b++[(.loc 0,D)],s.e,1,o⟩ d K:=by
 refine c7.ob aI ag (fun k cs ab=>by rw[cI,ab]) (fun _ _ ab=>ab) ad ?_;rintro r ai ⟨rfl,rfl⟩;refine⟨e8,?_⟩;have ak:cv s.b (s.b++[(.loc 0,D)])=[(.loc 0,D)]:=by rw[im,gN];simp[cv,ag.obj.1 0]
 have aB:cv s.e s.e=[]:=gN _;simp only[ak,aB];exact h _
theorem Cr{s ai:cJ}{f:Nat}{args:List ah}{r:ah}(aI:bQ al f args s fun eF dJ=>eF=r∧dJ=ai)(ag:eo s)(e8:Same s ai)(ad:aK (inObs s) args){t:List (Nat×ah)}{D:List ah}{o:List aH}{d:aY Nat}{K:bq→Prop}
  (h:∀o,K ⟨eK d r t,(.loc 0,D)::ai.b,ai.e,1,o⟩):c7 al f args ⟨t,(.loc 0,D)::s.b,s.e,1,o⟩ d K:=by
 refine c7.ob aI ag (fun k cs ab=>?_) (fun _ _ ab=>ab) ad ?_
 ·cases k with
  |loc m=>rw[ag.obj.1 m]at ab;cases ab
  |obj m=>simpa[Pv.look]using ab
 rintro r ai ⟨rfl,rfl⟩;refine⟨e8,?_⟩;have ak:cv s.b ((.loc 0,D)::s.b)=[(.loc 0,D)]:=by have:=im s.b [(aH.loc 0,D)] s.b;rw[gN]at this;simpa[cv,ag.obj.1 0]using this
 have aB:cv s.e s.e=[]:=gN _;simp only[ak,aB];exact h _
theorem zM{d:Array α}{a b v n:Nat}(bF:a<n)(ae:b<n):(Sort.order2 lt d a b v).1<n∧(Sort.order2 lt d a b v).2.1<n∧(Sort.order2 lt d a b v).2.2≤v+1:=by unfold Sort.order2;split<;>simp<;>omega
theorem tO(H:e0 S n g b7 lc b1 lt){d:Array α}(aQ:d.size=n){v:Nat}:aC (inObs (e6 S d v)) (eS g b7 lc b1)∧aC (inObs (e6 S d v)) (.ptr (.obj 901) 0):=by
 refine⟨vr (fun k ad=>?_) _ (H.kdata (lk:=d.toList) (by simpa using aQ)),by simp[aC,inObs,e6,Pv.look]⟩;rcases ad with ad|ad
 ·refine .inl ?_;simp only[e6,Pv.look];split
  ·rfl
  ·exact ad
 ·exact .inr ad
theorem VF(H:e0 S n g b7 lc b1 lt){d:Array α}{v v':Nat}{fe:List bs}{Q:ah→cJ→Prop}{t:List (Nat×ah)}{D:List ah}{o:List aH}(h:cX ⟨t,(.loc 0,D)::(e6 S d v').b,(S d.toList).e,1,o⟩ fe fun r=>aC (inObs (e6 S d v')) r∧Q r (e6 S d v')):
  cR fe (e6 S d v) Q .ret ⟨t,(.loc 0,D)::(e6 S d v').b,(S d.toList).e,1,o⟩:=by
 refine cR.at (e6 S d v') (.inl rfl) (nk H d v') (rU _ _ _) (fun k cs ab=>?_) (fun _ _ ax=>ax) h;cases k with
 |loc m=>rw[(nk H d v').obj.1 m]at ab;cases ab
 |obj m=>simpa[Pv.look]using ab
theorem IG(H:e0 S n g b7 lc b1 lt)(ad:ry S 901)(d:Array α)(aQ:d.size=n)(a b c v:Nat)(bF:a<n)(ae:b<n)(ax:c<n)(aJ:v≤900):
  bQ al 256 [eS g b7 lc b1,.int .i64 a,.int .i64 b,.int .i64 c,.ptr (.obj 901) 0] (e6 S d v) fun r ai=>r= .int .i64 (Sort.median lt d a b c v).1∧ai=e6 S d (Sort.median lt d a b c v).2:=by
 have kl:=nk H d v;have ra:∀v m,Pv.look (.loc m) (e6 S d v).b=none:=fun v=>(nk H d v).obj.1;have JF:∀v m cs,cx (.loc m) cs (e6 S d v).b=(e6 S d v).b++[(.loc m,cs)]:=fun v m cs=>jR (ra v m);have ln:aH.loc 0∉cS (e6 S d v):=jM kl.obj 0;obtain⟨R,bh⟩:∃R,R=Sort.median lt d a b c v:=⟨_,rfl⟩;rw[←bh];unfold Sort.median at bh;have a6:=zM (lt:=lt) (d:=d) (v:=v) bF ae;have aT:=IK H ad d aQ a b v bF ae (by omega);generalize Sort.order2 lt d a b v=dI at a6 aT bh;obtain⟨rN,ku,v1⟩:=dI;simp only at a6 aT bh;have bu:=zM (lt:=lt) (d:=d) (v:=v1) a6.2.1 ax;have bz:=IK H ad d aQ ku c v1 a6.2.1 ax (by omega);generalize Sort.order2 lt d ku c v1=eY at bu bz bh;obtain⟨x9,oB,v2⟩:=eY;simp only at bu bz bh;have bV:=zM (lt:=lt) (d:=d) (v:=v2) a6.1 bu.1;have b6:=IK H ad d aQ rN x9 v2 a6.1 bu.1 (by omega);generalize Sort.order2 lt d rN x9 v2=kJ at bV b6 bh;obtain⟨rO,G0,v3⟩:=kJ;simp only at bV b6 bh;refine bQ.mk mixed nF abf ahF (by simp) kl.obj fun aP cQ=>?_;unfold OO;simp[eS,JF,ln,cI,ra];simp only[h6 H,H.slc,H.ssc,h1];refine TY aT (nk H d v) (rU _ _ _) (by simp[aC,aK,(tO H aQ).1];exact(tO H aQ).2) fun o=>?_;simp[Pv.look];simp only[h6 H,H.slc,H.ssc,h1];refine Cr bz (nk H d v1) (rU _ _ _) (by simp[aC,aK,(tO H aQ).1];exact(tO H aQ).2) fun o=>?_;simp[Pv.look];simp only[h6 H,H.slc,H.ssc,h1];refine Cr b6 (nk H d v2) (rU _ _ _) (by simp[aC,aK,(tO H aQ).1];exact(tO H aQ).2) fun o=>?_;simp;refine VF H ?_;simp[cX,U6,aX,aZ,aW];rw[bh];exact⟨rfl,rfl⟩
theorem IH(H:e0 S n g b7 lc b1 lt)(ad:ry S 901)(d:Array α)(aQ:d.size=n)(a v:Nat)(bF:a+1<n)(kU:1≤a)(aJ:v≤900):
  bQ al 255 [eS g b7 lc b1,.int .i64 a,.ptr (.obj 901) 0] (e6 S d v) fun r ai=>r= .int .i64 (Sort.medianAdjacent lt d a v).1∧ai=e6 S d (Sort.medianAdjacent lt d a v).2:=by
 have kl:=nk H d v;have ra:∀v m,Pv.look (.loc m) (e6 S d v).b=none:=fun v=>(nk H d v).obj.1;have JF:∀v m cs,cx (.loc m) cs (e6 S d v).b=(e6 S d v).b++[(.loc m,cs)]:=fun v m cs=>jR (ra v m);have ln:aH.loc 0∉cS (e6 S d v):=jM kl.obj 0;have hle:=H.le;have aT:=IG H ad d aQ (a-1) a (a+1) v (by omega) (by omega) (by omega) aJ;unfold Sort.medianAdjacent;refine bQ.mk mixed nF abe ahE (by simp) kl.obj fun aP cQ=>?_;unfold ON;have ak:((a:Int)-1)=(a-1:Nat):=by omega
 have aB:((a:Int)+1)=(a+1:Nat):=by omega
 simp[eS,JF,ln,cI,ra];(with_reducible repeat' first|refine aj ?_|simp);simp only[h6 H,H.slc,H.ssc,h1,ak,aB];refine TY aT (nk H d v) (rU _ _ _) (by simp[aC,aK,(tO H aQ).1];exact(tO H aQ).2) fun o=>?_;simp;refine VF H ?_;simp[cX,U5,aX,aZ,aW]
theorem TZ{m:Nat}(h:ry S m)(l:List α):aH.obj m∉cS (S l):=fun hm=>by
 rcases Sp hm with J|J
 ·rw[(h l).1]at J;cases J
 ·rw[(h l).2]at J;cases J
theorem Ci{d:Array α}{a b c v n:Nat}(bF:a<n)(ae:b<n)(ax:c<n):(Sort.median lt d a b c v).1<n∧(Sort.median lt d a b c v).2≤v+3:=by have a6:=zM (lt:=lt) (d:=d) (v:=v) bF ae;have bu:=zM (lt:=lt) (d:=d) (v:=(Sort.order2 lt d a b v).2.2) a6.2.1 ax;have bV:=zM (lt:=lt) (d:=d) (v:=(Sort.order2 lt d (Sort.order2 lt d a b v).2.1 c (Sort.order2 lt d a b v).2.2).2.2) a6.1 bu.1;refine⟨bV.2.1,j4 bV.2.2 ?_⟩;omega
def y0:Sort.Hint→Int
 | .unknown=>0
 | .increasing=>1
 | .decreasing=>2
theorem acq(H:e0 S n g b7 lc b1 lt)(ad:ry S 901)(d:Array α)(aQ:d.size=n)(a b:Nat)(mN:a<b)(ae:b≤n):
  bQ al 240 [eS g b7 lc b1,.int .i64 a,.int .i64 b] (S d.toList) fun r ai=>r= .tuple [.int .i64 (Sort.choosePivot lt d a b).1,.int .i64 (y0 (Sort.choosePivot lt d a b).2)]∧ai=S d.toList:=by
 have ag:=H.ok d.toList;have au:d.toList.length=n:=by simpa using aQ
 have aA:∀l m,Pv.look (.loc m) (S l).b=none:=fun l=>(H.ok l).obj.1;have hu:∀l m cs,cx (.loc m) cs (S l).b=(S l).b++[(.loc m,cs)]:=fun l m cs=>jR (aA l m);have aw:∀m,aH.loc m∉cS (S d.toList):=jM ag.obj;have gn:∀l,Pv.look (.obj 901) (S l).b=none:=fun l=>(ad l).1;have kV:∀l,Pv.look (.obj 901) (S l).e=none:=fun l=>(ad l).2;have hle:=H.le;have ln:=TZ ad d.toList;obtain⟨R,bh⟩:∃R,R=Sort.choosePivot lt d a b:=⟨_,rfl⟩;rw[←bh];unfold Sort.choosePivot at bh;refine bQ.mk mixed nF abc ahC (by simp) ag.obj fun aP cQ=>?_;unfold OL;have xf:∀l D cs,cx (.obj 901) cs ((S l).b++[(.loc 0,D)])=(S l).b++[(.loc 0,D),(.obj 901,cs)]:=fun l D cs=>by rw[Au (gn l)];rfl
 obtain⟨q,bo⟩:∃q,q=(b-a)/4:=⟨_,rfl⟩;have de:IntKind.i64.wrap (((b:Int)-a).tdiv 4)=(q:Nat):=by rw[show((b:Int)-a)=((b-a:Nat):Int) by omega,Int.tdiv_eq_ediv_of_nonneg (by omega),oC _ (by omega)];omega
 simp[eS,hu,xf,aw,ln,cI,aA,gn,kV,Pv.look,cx];have dD:∀(t:List (Nat×ah)) (o:List aH) (bO:List (aH×List ah)) (x:Nat) (h:Sort.Hint),Pv.get 6 t= .int .i64 x→Pv.get 7 t= .int .i64 (y0 h)→R=(x,h)→(∀k cs,Pv.look k (S d.toList).b=some cs→Pv.look k bO=some cs)→
   cR Le (S d.toList) (fun r ai=>r= .tuple [.int .i64 R.1,.int .i64 (y0 R.2)]∧ai=S d.toList) .ret ⟨t,bO,(S d.toList).e,1,o⟩:=by
  rintro t o bO x h ab aG rfl fR;refine cR.at (S d.toList) (.inl rfl) ag (Same.refl _) fR (fun _ _ ax=>ax) ?_;simp[cX,Le,aX,aZ,aW,ab,aG]
 have yQ:∀(D:List ah) (v:Nat) k cs,Pv.look k (S d.toList).b=some cs→Pv.look k ((.loc 0,D)::(e6 S d v).b)=some cs:=fun D v k cs h=>by
  simp only[e6,Pv.look];split
  ·rename_i e;subst e;rw[aA]at h;cases h
  ·split
   ·rename_i e;subst e;rw[gn]at h;cases h
   ·exact h
 have Rm:∀{f:Nat} {args:List ah} {r:ah} {v:Nat},(bQ al f args (e6 S d 0) fun eF dJ=>eF=r∧dJ=e6 S d v)→aK (inObs (e6 S d 0)) args→∀{t:List (Nat×ah)} {D:List ah} {o:List aH} {b8:aY Nat} {K:bq→Prop},(∀o,K ⟨eK b8 r t,(.loc 0,D)::(e6 S d v).b,(S d.toList).e,1,o⟩)→
   c7 al f args ⟨t,(S d.toList).b++[(.loc 0,D),(.obj 901,[.int .i64 0])],(S d.toList).e,1,o⟩ b8 K:=by
  intro f args r v aI hd t D o b8 K h;refine c7.ob aI (nk H d 0) (fun k cs ab=>?_) (fun _ _ ab=>ab) hd ?_
  ·simp only[e6,Pv.look]at ab;rw[cI];split at ab
   ·rename_i e;subst e;rw[gn];simp[Pv.look];simpa using ab
   ·rw[ab]
  rintro r ai ⟨rfl,rfl⟩;refine⟨rU _ _ _,?_⟩;have ak:cv (e6 S d 0).b ((S d.toList).b++[(.loc 0,D),(.obj 901,[.int .i64 0])])=[(.loc 0,D)]:=by
   rw[im];have:cv (e6 S d 0).b (S d.toList).b=[]:=MD _ _ fun k x hm=>by
    have:=tT hm;simp only[e6,Pv.look];split
    ·rfl
    ·exact this
   rw[this];simp[cv,e6,Pv.look,aA]
  have aB:cv (e6 S d 0).e (S d.toList).e=[]:=gN _;simp only[ak,aB];exact h _
 have hd:=fun(v:Nat)=>(tO H aQ (v:=v));have f1:((a:Int)+q)=(a+q:Nat):=by omega
 have f2:((a:Int)+q*2)=(a+q*2:Nat):=by omega
 have f3:((a:Int)+q*3)=(a+q*3:Nat):=by omega
 dsimp only at bh;rw[←bo,Nat.mul_one]at bh;by_cases nu:b-a<8
 ·have El:¬(8:Int)≤(b:Int)-a:=by omega
  (with_reducible repeat' first|refine aj ?_|simp[El,de,hu,xf,aw,ln,cI,aA,gn,kV,Pv.look,cx]);rw[f2];refine dD _ _ _ (a+q*2) .increasing rfl rfl (by rw[bh,if_neg (by omega)];simp) (fun k cs h=>by rw[cI,h])
 ·have El:(8:Int)≤(b:Int)-a:=by omega
  by_cases anU:b-a<50
  ·have IQ:¬(50:Int)≤(b:Int)-a:=by omega
   (with_reducible repeat' first|refine aj ?_|simp[El,IQ,de,hu,xf,aw,ln,cI,aA,gn,kV,Pv.look,cx]);simp only[h6 H,H.slc,H.ssc,h1,f1,f2,f3];have aT:=IG H ad d aQ (a+q) (a+q*2) (a+q*3) 0 (by omega) (by omega) (by omega) (by omega);have bz:=Ci (lt:=lt) (d:=d) (a:=a+q) (b:=a+q*2) (c:=a+q*3) (v:=0) (n:=n) (by omega) (by omega) (by omega);rw[if_pos (by omega),if_neg (by omega)]at bh;generalize Sort.median lt d (a+q) (a+q*2) (a+q*3) 0=m at aT bz bh;obtain⟨x,v⟩:=m;refine Rm aT (by simp[aC,aK,(hd 0).1];exact(hd 0).2) fun o=>?_;have xg:((v:Int)==0)=decide (v=0):=by rw[pZ];simp
   have BV:((v:Int)==12)=decide (v=12):=by rw[pZ];simp;omega
   simp[Pv.look,e6];rcases(by omega:v=0∨v=12∨(v≠0∧v≠12))with bA|bA|bA
   ·have ab:((v:Int)==0)=true:=by rw[xg];simp[bA]
    (with_reducible repeat' first|refine aj ?_|simp[ab]);all_goals exact dD _ _ _ x .increasing rfl rfl (by rw[bh];simp[bA]) (yQ _ v)
   ·have ab:((v:Int)==0)=false:=by rw[xg];simp[bA]
    have xh:((v:Int)==12)=true:=by rw[BV];simp[bA]
    (with_reducible repeat' first|refine aj ?_|simp[ab,xh]);all_goals exact dD _ _ _ x .decreasing rfl rfl (by rw[bh];simp[bA]) (yQ _ v)
   ·have ab:((v:Int)==0)=false:=by rw[xg];simp[bA.1]
    have xh:((v:Int)==12)=false:=by rw[BV];simp[bA.2]
    (with_reducible repeat' first|refine aj ?_|simp[ab,xh]);all_goals exact dD _ _ _ x .unknown rfl rfl (by rw[bh];simp[bA]) (yQ _ v)
  ·have IQ:(50:Int)≤(b:Int)-a:=by omega
   (with_reducible repeat' first|refine aj ?_|simp[El,IQ,de,hu,xf,aw,ln,cI,aA,gn,kV,Pv.look,cx]);simp only[h6 H,H.slc,H.ssc,h1,f1,f2,f3];rw[if_pos (by omega),if_pos (by omega)]at bh;have aT:=IH H ad d aQ (a+q) 0 (by omega) (by omega) (by omega);have B4:=Ci (lt:=lt) (d:=d) (a:=a+q-1) (b:=a+q) (c:=a+q+1) (v:=0) (n:=n) (by omega) (by omega) (by omega);change (Sort.medianAdjacent lt d (a+q) 0).1<n∧(Sort.medianAdjacent lt d (a+q) 0).2≤0+3 at B4;generalize Sort.medianAdjacent lt d (a+q) 0=m1 at aT B4 bh;obtain⟨rN,v1⟩:=m1;simp only at aT B4 bh;have bz:=IH H ad d aQ (a+q*2) v1 (by omega) (by omega) (by omega);have B5:=Ci (lt:=lt) (d:=d) (a:=a+q*2-1) (b:=a+q*2) (c:=a+q*2+1) (v:=v1) (n:=n) (by omega) (by omega) (by omega);change (Sort.medianAdjacent lt d (a+q*2) v1).1<n∧(Sort.medianAdjacent lt d (a+q*2) v1).2≤v1+3 at B5;generalize Sort.medianAdjacent lt d (a+q*2) v1=m2 at bz B5 bh;obtain⟨x9,v2⟩:=m2;simp only at bz B5 bh;have b6:=IH H ad d aQ (a+q*3) v2 (by omega) (by omega) (by omega);have B6:=Ci (lt:=lt) (d:=d) (a:=a+q*3-1) (b:=a+q*3) (c:=a+q*3+1) (v:=v2) (n:=n) (by omega) (by omega) (by omega);change (Sort.medianAdjacent lt d (a+q*3) v2).1<n∧(Sort.medianAdjacent lt d (a+q*3) v2).2≤v2+3 at B6;generalize Sort.medianAdjacent lt d (a+q*3) v2=m3 at b6 B6 bh;obtain⟨rO,v3⟩:=m3;simp only at b6 B6 bh;have dO:=IG H ad d aQ rN x9 rO v3 B4.1 B5.1 B6.1 (by omega);have SK:=Ci (lt:=lt) (d:=d) (v:=v3) B4.1 B5.1 B6.1;generalize Sort.median lt d rN x9 rO v3=m4 at dO SK bh;obtain⟨x,v⟩:=m4;simp only at dO SK bh;refine Rm aT (by simp[aC,aK,(hd 0).1];exact(hd 0).2) fun o=>?_;simp[Pv.look];simp only[h6 H,H.slc,H.ssc,h1,f1,f2,f3];refine Cr bz (nk H d v1) (rU _ _ _) (by simp[aC,aK,(hd v1).1];exact(hd v1).2) fun o=>?_;simp[Pv.look];simp only[h6 H,H.slc,H.ssc,h1,f1,f2,f3];refine Cr b6 (nk H d v2) (rU _ _ _) (by simp[aC,aK,(hd v2).1];exact(hd v2).2) fun o=>?_;simp[Pv.look];simp only[h6 H,H.slc,H.ssc,h1,f1,f2,f3];refine Cr dO (nk H d v3) (rU _ _ _) (by simp[aC,aK,(hd v3).1];exact(hd v3).2) fun o=>?_;have xg:((v:Int)==0)=decide (v=0):=by rw[pZ];simp
   have BV:((v:Int)==12)=decide (v=12):=by rw[pZ];simp;omega
   simp[Pv.look,e6];rcases(by omega:v=0∨v=12∨(v≠0∧v≠12))with bA|bA|bA
   ·have ab:((v:Int)==0)=true:=by rw[xg];simp[bA]
    (with_reducible repeat' first|refine aj ?_|simp[ab]);all_goals exact dD _ _ _ x .increasing rfl rfl (by rw[bh];simp[bA]) (yQ _ v)
   ·have ab:((v:Int)==0)=false:=by rw[xg];simp[bA]
    have xh:((v:Int)==12)=true:=by rw[BV];simp[bA]
    (with_reducible repeat' first|refine aj ?_|simp[ab,xh]);all_goals exact dD _ _ _ x .decreasing rfl rfl (by rw[bh];simp[bA]) (yQ _ v)
   ·have ab:((v:Int)==0)=false:=by rw[xg];simp[bA.1]
    have xh:((v:Int)==12)=false:=by rw[BV];simp[bA.2]
    (with_reducible repeat' first|refine aj ?_|simp[ab,xh]);all_goals exact dD _ _ _ x .unknown rfl rfl (by rw[bh];simp[bA]) (yQ _ v)
end Go.Proofs.YtahlgcidhnjlbaaGreat
namespace Go.Proofs.YtahlgcidhnjlbaaGreat
open Go Go.Pv
variable {α:Type} [Inhabited α] {S:List α→cJ} {n g b7:Nat} {lc b1:List ah} {lt:α→α→Bool}
theorem akM:∀x:Nat,x<256→((([0,1,2,2,3,3,3,3,4,4,4,4,4,4,4,4,5,5,5,5,5,5,5,5,5,5,5,5,5,5,5,5,6,6,6,6,6,6,6,6,6,6,6,6,6,6,6,6,6,6,6,6,6,6,6,6,6,6,6,6,6,6,6,6,7,7,7,7,7,7,7,7,7,7,7,7,7,7,7,7,7,7,7,7,7,7,7,7,7,7,7,7,7,7,7,7,7,7,7,7,7,7,7,7,7,7,7,7,7,7,7,7,7,7,7,7,7,7,7,7,7,7,7,7,7,7,7,7,8,8,8,8,8,8,8,8,8,8,8,8,8,8,8,8,8,8,8,8,8,8,8,8,8,8,8,8,8,8,8,8,8,8,8,8,8,8,8,8,8,8,8,8,8,8,8,8,8,8,8,8,8,8,8,8,8,8,8,8,8,8,8,8,8,8,8,8,8,8,8,8,8,8,8,8,8,8,8,8,8,8,8,8,8,8,8,8,8,8,8,8,8,8,8,8,8,8,8,8,8,8,8,8,8,8,8,8,8,8,8,8,8,8,8,8,8,8,8,8,8,8,8,8,8,8,8,8]:List dz)[x]?).getD 0).toNat=Sort.bitsLen x:=by decide+kernel
theorem Bb(x:Int):x.fdiv (2 ^ (min 32 hb.bits))=x/4294967296:=by rw[show(2:Int) ^ (min 32 hb.bits)=4294967296 from by decide,Int.fdiv_eq_ediv_of_nonneg _ (by omega)]
theorem Ba(x:Int):x.fdiv (2 ^ (min 16 hb.bits))=x/65536:=by rw[show(2:Int) ^ (min 16 hb.bits)=65536 from by decide,Int.fdiv_eq_ediv_of_nonneg _ (by omega)]
theorem Bc(x:Int):x.fdiv (2 ^ (min 8 hb.bits))=x/256:=by rw[show(2:Int) ^ (min 8 hb.bits)=256 from by decide,Int.fdiv_eq_ediv_of_nonneg _ (by omega)]
theorem C7(x:Nat)(h:x<256):IntKind.u8.wrap (x:Int)=x:=by simp[rQ,nJ,rP];omega
theorem Hr(x k:Nat)(h:2 ^ k≤x):Sort.bitsLen x=Sort.bitsLen (x/2 ^ k)+k:=by
 have ab:x≠0:=by have:=Nat.two_pow_pos k;omega
 have bo:x/2 ^ k≠0:=by have:=Nat.div_pos h (Nat.two_pow_pos k);omega
 unfold Sort.bitsLen;rw[if_neg ab,if_neg bo];have au:=Nat.log2_lt ab (k:=Nat.log2 (x/2 ^ k)+k+1);have J:Nat.log2 (x/2 ^ k)+k≤Nat.log2 x:=by
  rw[Nat.le_log2 ab,Nat.pow_add];have:=Nat.log2_self_le bo;calc 2 ^ (x/2 ^ k).log2*2 ^ k≤(x/2 ^ k)*2 ^ k:=Nat.mul_le_mul_right _ this
   _≤x:=Nat.div_mul_le_self x _
 have U:Nat.log2 x<Nat.log2 (x/2 ^ k)+k+1:=by rw[au,show Nat.log2 (x/2 ^ k)+k+1=(Nat.log2 (x/2 ^ k)+1)+k by omega,Nat.pow_add];have:=Nat.lt_log2_self (n:=x/2 ^ k);exact(Nat.div_lt_iff_lt_mul (Nat.two_pow_pos k)).1 this
 omega
set_option maxRecDepth 20000 in
theorem ak6(x:Nat)(ab:x<1099511627776):bH al 237 [.int .u64 x] (.int .i64 (Sort.bitsLen x)):=by
 refine bH.mk mixed nF aa9 ahz (by simp) (by simp[aC]) fun aP=>?_;unfold OI;have aN:=akM;generalize Re:([0,1,2,2,3,3,3,3,4,4,4,4,4,4,4,4,5,5,5,5,5,5,5,5,5,5,5,5,5,5,5,5,6,6,6,6,6,6,6,6,6,6,6,6,6,6,6,6,6,6,6,6,6,6,6,6,6,6,6,6,6,6,6,6,7,7,7,7,7,7,7,7,7,7,7,7,7,7,7,7,7,7,7,7,7,7,7,7,7,7,7,7,7,7,7,7,7,7,7,7,7,7,7,7,7,7,7,7,7,7,7,7,7,7,7,7,7,7,7,7,7,7,7,7,7,7,7,7,8,8,8,8,8,8,8,8,8,8,8,8,8,8,8,8,8,8,8,8,8,8,8,8,8,8,8,8,8,8,8,8,8,8,8,8,8,8,8,8,8,8,8,8,8,8,8,8,8,8,8,8,8,8,8,8,8,8,8,8,8,8,8,8,8,8,8,8,8,8,8,8,8,8,8,8,8,8,8,8,8,8,8,8,8,8,8,8,8,8,8,8,8,8,8,8,8,8,8,8,8,8,8,8,8,8,8,8,8,8,8,8,8,8,8,8,8,8,8,8,8,8,8,8,8,8,8,8]:List dz)=tab at aN⊢;have yP:tab.length=256:=by rw[←Re];rfl
 clear Re;simp[yP];have ae:∀y:Nat,y<256→Sort.bitsLen y≤8:=by decide+kernel
 have aer:4294967296≤x→Sort.bitsLen x=Sort.bitsLen (x/4294967296)+32:=fun h=>Hr x 32 h;have R7:∀y,65536≤y→Sort.bitsLen y=Sort.bitsLen (y/65536)+16:=fun y h=>Hr y 16 h;have Sa:∀y,256≤y→Sort.bitsLen y=Sort.bitsLen (y/256)+8:=fun y h=>Hr y 8 h;by_cases J:4294967296≤x
 ·have nt:(4294967296:Int)≤x:=by omega
  have g1:¬(65536:Int)≤(x:Int)/4294967296:=by omega
  have g3:¬(256:Int)≤(x:Int)/4294967296:=by omega
  (with_reducible repeat' first|refine aj ?_|simp[nt,g1,g3,Bb,Ba,Bc,yP]);have aG:x/4294967296<256:=by omega
  have lg:=ae _ aG;have eJ:(x:Int)/4294967296=((x/4294967296:Nat):Int):=by omega
  rw[eJ,C7 _ aG,Int.toNat_natCast];refine⟨by omega,?_⟩;have e:=aN _ aG;rw[e,oC _ (by omega)];refine⟨by unfold sq;omega,?_⟩;simp[bt,zV,aX,aZ,aW];try((rw[aer J])<;>omega)
 ·have nt:¬(4294967296:Int)≤x:=by omega
  by_cases U:65536≤x
  ·have g2:(65536:Int)≤x:=by omega
   by_cases ao:256≤x/65536
   ·have g3:(256:Int)≤(x:Int)/65536:=by omega
    (with_reducible repeat' first|refine aj ?_|simp[nt,g2,g3,Bb,Ba,Bc,yP]);have aG:x/65536/256<256:=by omega
    have lg:=ae _ aG;have eJ:(x:Int)/65536/256=((x/65536/256:Nat):Int):=by omega
    rw[eJ,C7 _ aG,Int.toNat_natCast];refine⟨by omega,?_⟩;have e:=aN _ aG;rw[e,oC _ (by omega)];refine⟨by unfold sq;omega,?_⟩;simp[bt,zV,aX,aZ,aW];try((rw[R7 x U,Sa _ ao])<;>omega)
   ·have g3:¬(256:Int)≤(x:Int)/65536:=by omega
    (with_reducible repeat' first|refine aj ?_|simp[nt,g2,g3,Bb,Ba,Bc,yP]);have aG:x/65536<256:=by omega
    have lg:=ae _ aG;have eJ:(x:Int)/65536=((x/65536:Nat):Int):=by omega
    rw[eJ,C7 _ aG,Int.toNat_natCast];refine⟨by omega,?_⟩;have e:=aN _ aG;rw[e,oC _ (by omega)];refine⟨by unfold sq;omega,?_⟩;simp[bt,zV,aX,aZ,aW];try((rw[R7 x U])<;>omega)
  ·have g2:¬(65536:Int)≤x:=by omega
   by_cases ao:256≤x
   ·have g3:(256:Int)≤x:=by omega
    (with_reducible repeat' first|refine aj ?_|simp[nt,g2,g3,Bb,Ba,Bc,yP]);have aG:x/256<256:=by omega
    have lg:=ae _ aG;have eJ:(x:Int)/256=((x/256:Nat):Int):=by omega
    rw[eJ,C7 _ aG,Int.toNat_natCast];refine⟨by omega,?_⟩;have e:=aN _ aG;rw[e,oC _ (by omega)];refine⟨by unfold sq;omega,?_⟩;simp[bt,zV,aX,aZ,aW];try((rw[Sa x ao])<;>omega)
   ·have g3:¬(256:Int)≤x:=by omega
    (with_reducible repeat' first|refine aj ?_|simp[nt,g2,g3,Bb,Ba,Bc,yP]);have aG:x<256:=by omega
    have lg:=ae _ aG;have eJ:(x:Int)=((x:Nat):Int):=by omega
    rw[eJ,C7 _ aG,Int.toNat_natCast];refine⟨by omega,?_⟩;have e:=aN _ aG;rw[e,oC _ (by omega)];refine⟨by unfold sq;omega,?_⟩;simp[bt,zV,aX,aZ,aW];try((rw[show Sort.bitsLen x=Sort.bitsLen x from rfl])<;>omega)
theorem ak5(x:Nat)(ab:x<1099511627776):bH al 213 [.int .u64 x] (.int .i64 (Sort.bitsLen x)):=by refine bH.mk mixed nF aa8 ahy (by simp) (by simp[aC]) fun aP=>?_;unfold OH;have Tg:=ak6 x ab;exact b2
theorem X2(x:Nat)(ab:x<1099511627776):Sort.bitsLen x≤40:=by
 unfold Sort.bitsLen;split
 ·omega
 ·rename_i h;have:=(Nat.log2_lt h (k:=40)).2 (by omega);omega
theorem akQ{x:Nat}(h:x≠0):2 ^ Sort.bitsLen x≤2*x∧x<2 ^ Sort.bitsLen x:=by unfold Sort.bitsLen;rw[if_neg h];have J:=Nat.log2_self_le h;have U:=Nat.lt_log2_self (n:=x);rw[Nat.pow_succ];rw[Nat.pow_succ]at U;omega
theorem alV(x:Nat)(ab:x<1099511627776):bH al 253 [.int .i64 x] (.int .u64 (1<<<Sort.bitsLen x:Nat)):=by
 have ae:=X2 x ab;have ak:hb.wrap ((x:Nat):Int)=x:=by simp[rQ,nJ,rP];omega
 have aB:hb.wrap ((Sort.bitsLen x:Nat):Int)=Sort.bitsLen x:=by simp[rQ,nJ,rP];omega
 refine bH.mk mixed nF abg ahG (by simp) (by simp[aC]) fun aP=>?_;unfold OP;simp[ak];refine c7.val (by simp) (ak5 x ab) ?_;simp[ak,aB];simp[bt,U7,aX,aZ,aW];have hm:min (Sort.bitsLen x) hb.bits=Sort.bitsLen x:=by simp[nJ];omega
 have bJ:2 ^ Sort.bitsLen x≤2 ^ 40:=Nat.pow_le_pow_right (by omega) ae;rw[hm];have ax:((2:Int) ^ Sort.bitsLen x)=((2 ^ Sort.bitsLen x:Nat):Int):=by simp
 have yR:((1<<<Sort.bitsLen x:Nat):Int)=((2 ^ Sort.bitsLen x:Nat):Int):=by rw[Nat.one_shiftLeft]
 have wU:hb.wrap ((2:Int) ^ Sort.bitsLen x)=((1<<<Sort.bitsLen x:Nat):Int):=by rw[ax,yR];generalize 2 ^ Sort.bitsLen x=y at bJ;simp[rQ,nJ,rP];omega
 simpa using wU
def mF(r:Nat):cJ:=⟨[(.obj 902,[.int .u64 r])],[]⟩
theorem Hb(r:Nat):eo (mF r):=by unfold mF;exact(eo.of ⟨by intro m;simp[Pv.look],by intro m;simp[Pv.look]⟩ (by simp[aK,aC,inObs,Pv.look]) (by simp[aK,aC,inObs,Pv.look]))
theorem MW(a b:Nat):Same (mF a) (mF b):=⟨fun k=>by simp only[mF,Pv.look];split<;>rfl,fun _=>rfl⟩
theorem Ht(a b:Nat)(bF:a<18446744073709551616)(ae:b<18446744073709551616):hb.wrap ((pY hb.bits (a:Int) ^^^ pY hb.bits (b:Int)).toNat:Int)=(a ^^^ b:Nat):=by
 have ao:a ^^^ b<18446744073709551616:=Nat.xor_lt_two_pow (n:=64) bF ae;have e:(pY hb.bits (a:Int) ^^^ pY hb.bits (b:Int)).toNat=a ^^^ b:=by
  rw[BitVec.toNat_xor,BitVec.toNat_ofInt,BitVec.toNat_ofInt];have ak:((a:Int)%(2 ^ hb.bits:Nat)).toNat=a:=by simp[nJ];omega
  have aB:((b:Int)%(2 ^ hb.bits:Nat)).toNat=b:=by simp[nJ];omega
  rw[ak,aB]
 rw[e];generalize a ^^^ b=c at ao;simp[rQ,nJ,rP];omega
theorem aj8(r:Nat):hb.wrap ((r:Int)*2 ^ (min 13 hb.bits))=(r*8192%18446744073709551616:Nat):=by simp[rQ,nJ,rP]
theorem aj9(r:Nat):hb.wrap ((r:Int)*2 ^ (min 17 hb.bits))=(r*131072%18446744073709551616:Nat):=by simp[rQ,nJ,rP]
theorem aka(r:Nat):((r:Int)).fdiv (2 ^ (min 7 hb.bits))=(r/128:Nat):=by rw[show(2:Int) ^ (min 7 hb.bits)=128 from by decide,Int.fdiv_eq_ediv_of_nonneg _ (by omega)];omega
theorem acj(r:Nat)(aL:r<18446744073709551616):bQ al 254 [.ptr (.obj 902) 0] (mF r) fun eF ai=>eF= .int .u64 (Sort.xorNextN r)∧ai=mF (Sort.xorNextN r):=by
 have ag:=Hb r;unfold mF at ag⊢;refine bQ.mk mixed nF abt ahS (by simp) ag.obj fun aP cQ=>?_;unfold O1;obtain⟨m1,RK⟩:∃m,m=r*8192%18446744073709551616:=⟨_,rfl⟩;have s1:=aj8 r;rw[←RK]at s1;have jK:m1<18446744073709551616:=by omega
 obtain⟨bE,kU⟩:∃m,m=r ^^^ m1:=⟨_,rfl⟩;have t1:=Ht r m1 aL jK;rw[←kU]at t1;have Th:bE<18446744073709551616:=by rw[kU];exact Nat.xor_lt_two_pow (n:=64) aL jK
 obtain⟨m2,RL⟩:∃m,m=bE/128:=⟨_,rfl⟩;have s2:=aka bE;rw[←RL]at s2;have gJ:m2<18446744073709551616:=by omega
 obtain⟨a2,pz⟩:∃m,m=bE ^^^ m2:=⟨_,rfl⟩;have t2:=Ht bE m2 Th gJ;rw[←pz]at t2;have afB:a2<18446744073709551616:=by rw[pz];exact Nat.xor_lt_two_pow (n:=64) Th gJ
 obtain⟨m3,RM⟩:∃m,m=a2*131072%18446744073709551616:=⟨_,rfl⟩;have s3:=aj9 a2;rw[←RM]at s3;have afA:m3<18446744073709551616:=by omega
 obtain⟨a3,Eo⟩:∃m,m=a2 ^^^ m3:=⟨_,rfl⟩;have t3:=Ht a2 m3 afB afA;rw[←Eo]at t3;have bh:Sort.xorNextN r=a3:=by unfold Sort.xorNextN;simp only[←RK,←kU,←RL,←pz,←RM,←Eo]
 rw[bh];simp[-BitVec.toNat_xor,-BitVec.ofInt_natCast,s1,t1,s2,t2,s3,t3];have a8:=Hb a3;have bZ:=MW r a3;unfold mF at a8 bZ;refine cR.at _ (.inl rfl) a8 bZ aR aR ?_;simp[cX,Va,aX,aZ,aW]
end Go.Proofs.YtahlgcidhnjlbaaGreat
namespace Go.Proofs.YtahlgcidhnjlbaaGreat
open Go Go.Pv
variable {α:Type} [Inhabited α] {S:List α→cJ} {n g b7:Nat} {lc b1:List ah} {lt:α→α→Bool}
theorem XV(a b:Nat)(bF:a<18446744073709551616)(ae:b<18446744073709551616):hb.wrap ((pY hb.bits (a:Int)&&& pY hb.bits (b:Int)).toNat:Int)=(a&&& b:Nat):=by
 have ao:a&&& b<18446744073709551616:=Nat.lt_of_le_of_lt Nat.and_le_left bF;have e:(pY hb.bits (a:Int)&&& pY hb.bits (b:Int)).toNat=a&&& b:=by
  rw[BitVec.toNat_and,BitVec.toNat_ofInt,BitVec.toNat_ofInt];have ak:((a:Int)%(2 ^ hb.bits:Nat)).toNat=a:=by simp[nJ];omega
  have aB:((b:Int)%(2 ^ hb.bits:Nat)).toNat=b:=by simp[nJ];omega
  rw[ak,aB]
 rw[e];generalize a&&& b=c at ao;simp[rQ,nJ,rP];omega
def ym(a len M i0:Nat)(d:Array α):Nat→UInt64×Array α
 |0=>(UInt64.ofNat len,d)
 |k+1=>Sort.breakStep a len M (ym a len M i0 d k) (i0+k)
theorem X5(d:Array α)(a b:Nat)(h:8≤b-a):Sort.breakPatterns d a b=(ym a (b-a) (1<<<Sort.bitsLen (b-a)) (a+(b-a)/4*2-1) d 3).2:=by unfold Sort.breakPatterns;simp only[if_pos h,ym];rfl
theorem W5{ob O:List aH}{ai:cJ}(gi:eo ai)(dk:∀k,inObs ai k→k∈O)(tG:∀k∈ob,k∈O){st:bq}{dJ:List (Nat×ah)}{L:List (aH×List ah)}{n:Nat}(aN:∀x∈dJ,Pv.get x.1 st.t=x.2∧aC (lZ ai n) x.2)(jr:∀x∈L,Pv.look x.1 st.b=some x.2∧lZ ai n x.1∧aK (lZ ai n) x.2)
  (ae:∀k cs,Pv.look k ai.b=some cs→Pv.look k st.b=some cs) (he:∀k o,Pv.look k ai.e=some o→Pv.look k st.e=some o):iy ob st ⟨dJ,L++ai.b,ai.e,n,O⟩:=by
 have lP:∀{k},lZ ai n k→¬fresh n O k:=by
  rintro k (h|⟨m,hm,rfl⟩)
  ·exact fun aI=>aI.2 (dk k h)
  ·intro aI;have:=aI.1;simp at this;omega
 refine⟨fun x ab=>⟨(aN x ab).1,vr (fun k ad=>lP ad) _ (aN x ab).2⟩,fun k cs ad=>?_,fun k o aw=>?_,tG⟩
 ·simp only at ad;rw[cI]at ad;cases au:Pv.look k L with
  |some x=>rw[au]at ad;simp only[dG]at ad;subst ad;obtain⟨J,U,ao⟩:=jr _ (sA au);exact⟨J,lP U,jJ (fun k ad=>lP ad) _ ao⟩
  |none=>rw[au]at ad;exact⟨ae k cs ad,lP (.inl (.inl (by simp[ad]))),jJ (fun k ad=>lP (.inl ad)) _ (gi.kb k cs ad)⟩
 ·exact⟨he k o aw,lP (.inl (.inr (by simp at aw;simp[aw]))),fun xs ab=>jJ (fun k ad=>lP (.inl ad)) _ (gi.ke k o aw xs ab)⟩
theorem MB{amt β:Type}(s:List (aH×β)):∀(l:List (aH×amt)),(∀k x,(k,x)∈l→Pv.look k s=none)→cv s l=l
 |[],_=>rfl
 |(k,x)::r,h=>by have J:=h k x (by simp);simp only[cv,J];rw[MB s r fun k x ab=>h k x (by simp[ab])]
def jc(S:List α→cJ)(d:Array α)(r:Nat):cJ:=⟨(.obj 902,[.int .u64 r])::(S d.toList).b,(S d.toList).e⟩
theorem Dv(H:e0 S n g b7 lc b1 lt)(d:Array α)(v:Nat):eo (jc S d v):=by
 have h:=H.ok d.toList;have je:∀k,inObs (S d.toList) k→inObs (jc S d v) k:=fun k ad=>by
  rcases ad with ad|ad
  ·refine .inl ?_;simp only[jc,Pv.look];split
   ·rfl
   ·exact ad
  ·exact .inr ad
 refine⟨⟨fun m=>?_,h.obj.2⟩,fun k cs ad=>?_,fun k o aw xs ab=>jJ je _ (h.ke k o aw xs ab)⟩
 ·simp[jc,Pv.look,h.obj.1 m]
 ·simp only[jc,Pv.look]at ad;split at ad
  ·cases ad;simp[aK,aC]
  ·exact jJ je _ (h.kb k cs ad)
theorem W4{ob O:List aH}{d2:Array α}{y:Nat}{D:List ah}(gi:eo (jc S d2 y))(dk:∀k,inObs (jc S d2 y) k→k∈O)(tG:∀k∈ob,k∈O){st:bq}{dJ:List (Nat×ah)}(aN:∀x∈dJ,Pv.get x.1 st.t=x.2∧aC (lZ (jc S d2 y) 1) x.2)(bA:Pv.look (.loc 0) st.b=some D)(Bj:aK (lZ (jc S d2 y) 1) D)
  (ae:∀k cs,Pv.look k (jc S d2 y).b=some cs→Pv.look k st.b=some cs) (he:∀k o,Pv.look k (jc S d2 y).e=some o→Pv.look k st.e=some o):iy ob st ⟨dJ,(.loc 0,D)::(.obj 902,[.int .u64 y])::(S d2.toList).b,(S d2.toList).e,1,O⟩:=
 W5 (L:=[(.loc 0,D)]) gi dk tG aN (fun x ab=>by simp only[List.mem_singleton]at ab;subst ab;exact⟨bA,TX _ _ _ (by omega),Bj⟩) ae he
theorem acp(H:e0 S n g b7 lc b1 lt)(ad:ry S 902)(d:Array α)(aQ:d.size=n)(a b:Nat)(mN:a≤b)(ae:b≤n)(nu:8≤b-a):
  bQ al 239 [eS g b7 lc b1,.int .i64 a,.int .i64 b] (S d.toList) fun r ai=>r= .tuple []∧∃b8,ai=S b8.toList∧b8=Sort.breakPatterns d a b∧b8.size=n:=by
 have ag:=H.ok d.toList;have au:d.toList.length=n:=by simpa using aQ
 have aA:∀l m,Pv.look (.loc m) (S l).b=none:=fun l=>(H.ok l).obj.1;have hu:∀l m cs,cx (.loc m) cs (S l).b=(S l).b++[(.loc m,cs)]:=fun l m cs=>jR (aA l m);have aw:∀m,aH.loc m∉cS (S d.toList):=jM ag.obj;have gn:∀l,Pv.look (.obj 902) (S l).b=none:=fun l=>(ad l).1;have kV:∀l,Pv.look (.obj 902) (S l).e=none:=fun l=>(ad l).2;have hle:=H.le;have ln:=TZ ad d.toList;rw[X5 d a b nu];obtain⟨len,hlen⟩:∃len,len=b-a:=⟨_,rfl⟩;rw[←hlen];obtain⟨M,dT⟩:∃M,M=1<<<Sort.bitsLen len:=⟨_,rfl⟩;rw[←dT];have anV:len<M∧M≤2*len:=by have:=akQ (x:=len) (by omega);rw[dT,Nat.one_shiftLeft];omega
 obtain⟨q,bo⟩:∃q,q=len/4:=⟨_,rfl⟩;rw[←bo];have xf:∀l D cs,cx (.obj 902) cs ((S l).b++[(.loc 0,D)])=(S l).b++[(.loc 0,D),(.obj 902,cs)]:=fun l D cs=>by rw[Au (gn l)];rfl
 have Sg:∀l D x y,cx (.obj 902) y ((S l).b++[(.loc 0,D),(.obj 902,x)])=(S l).b++[(.loc 0,D),(.obj 902,y)]:=fun l D x y=>by rw[Au (gn l)];simp[cx]
 have el:((b:Int)-a)=(len:Nat):=by omega
 have de:IntKind.i64.wrap ((len:Int).tdiv 4)=(q:Nat):=by rw[Int.tdiv_eq_ediv_of_nonneg (by omega),oC _ (by omega)];omega
 have ew:hb.wrap (len:Int)=len:=by simp[rQ,nJ,rP];omega
 refine bQ.mk mixed nF abb ahB (by simp) ag.obj fun aP cQ=>?_;unfold OK;have nY:=alV len (by omega);rw[←dT]at nY;simp[eS,hu,xf,Sg,aw,ln,cI,aA,gn,kV,Pv.look,cx,el,ew];have gS:IntKind.i64.wrap ((len:Int)/4)=(q:Nat):=by rw[oC _ (by omega)];omega
 ((with_reducible repeat' first|refine aj ?_|refine aD nY ?_|refine aE nY ?_|simp[el,ew,de,gS,hu,xf,Sg,aw,ln,cI,aA,gn,kV,Pv.look,cx]|((first|apply bP|apply bS|apply bR)<;>intro h<;>try simp at h))<;>(try exact cp));obtain⟨i0,BA⟩:∃i0,i0=a+q*2-1:=⟨_,rfl⟩;rw[←BA];have Y3:((a:Int)+q*2-1)=(i0:Nat):=by omega
 rw[Y3];have dk:∀(cj:Array α) r k,inObs (jc S cj r) k→cj.size=n→k∈aH.obj 902::cS (S d.toList):=fun cj r k h eV=>by
  have e2:=H.same d.toList cj.toList au (by simpa using eV);rcases h with h|h
  ·simp only[jc,Pv.look]at h;split at h
   ·rename_i e;subst e;simp
   ·exact pf _ (sF (.inl (by rw[e2.b];exact h)))
  ·exact pf _ (sF (.inr (by rw[e2.e];exact h)))
 have w4:∀(cj:Array α) r,cj.size=n→aK (lZ (jc S cj r) 1) [.func g lc,.func b7 b1]:=fun cj r eV=>by
  have J:=H.kdata (lk:=cj.toList) (by simpa using eV);have U:aK (inObs (S cj.toList)) [.func g lc,.func b7 b1]:=by simpa[eS,aC,aK]using J
  refine jJ (fun k ad=>.inl ?_) _ U;rcases ad with ad|ad
  ·refine .inl ?_;simp only[jc,Pv.look];split
   ·rfl
   ·exact ad
  ·exact .inr ad
 have an8:∀(cj:Array α) r D k cs,Pv.look k (jc S cj r).b=some cs→Pv.look k ((.loc 0,D)::(jc S cj r).b)=some cs:=fun cj r D k cs h=>by
  cases k with
  |loc m=>rw[(Dv H cj r).obj.1 m]at h;cases h
  |obj m=>simpa[Pv.look]using h
 refine nW (fun(x:Nat×UInt64×Array α)=>⟨[(1,.int .i64 a),(3,.ptr (.loc 0) 0),(6,.int .i64 len),(7,.ptr (.obj 902) 0),(8,.int .u64 M),(9,.int .i64 ((i0+x.1:Nat):Int))],[(.loc 0,[.func g lc,.func b7 b1])]++(jc S x.2.2 x.2.1.toNat).b,(jc S x.2.2 x.2.1.toNat).e,1,aH.obj 902::cS (S d.toList)⟩) (fun x=>3-x.1)
  (fun x=>x.1≤3∧x.2.2.size=n∧ym a len M i0 d x.1=x.2) (0,UInt64.ofNat len,d) ?_ ⟨by simp,aQ,rfl⟩ ?_
 ·refine W5 (Dv H d _) (fun k h=>dk d _ k h aQ) (fun k h=>pf _ h) (by simp[aC,inObs,jc,Pv.look,lZ]) ?_ ?_ aR
  ·intro x ab;simp only[List.mem_singleton]at ab;subst ab;exact⟨by simp[cI,aA,Pv.look],TX _ _ _ (by omega),w4 d _ aQ⟩
  ·intro k cs h;simp only[jc,Pv.look]at h;rw[cI];split at h
   ·rename_i e;subst e;rw[gn];have:(UInt64.ofNat len).toNat=len:=by simp;omega
    rw[this]at h;simpa[Pv.look]using h
   ·rw[h]
 rintro⟨k,r,cj⟩ ⟨aT,bz,b6⟩ _;simp only at aT bz b6;have aL:=r.toNat_lt;obtain⟨x,ab⟩:∃x,x=r.toNat:=⟨_,rfl⟩;rw[←ab]at aL⊢;have y6:Sort.xorNextN x<18446744073709551616:=Sort.xorNextN_lt x (by omega);have Jn:(Sort.xorNext r).toNat=Sort.xorNextN x:=by rw[Sort.xorNext_toNat,←ab]
 obtain⟨y,aG⟩:∃y,y=Sort.xorNextN x:=⟨_,rfl⟩;have YX:hb.wrap ((M:Int)-1)=(M-1:Nat):=by simp[rQ,nJ,rP];omega
 have wR:=XV y (M-1) (by omega) (by omega);obtain⟨z,bD⟩:∃z,z=y&&& (M-1):=⟨_,rfl⟩;rw[←bD]at wR;have aog:z≤M-1:=by rw[bD];exact Nat.and_le_right
 have nr:IntKind.i64.wrap (z:Int)=z:=by rw[oC _ (by omega)]
 by_cases adO:k=3
 ·subst adO;simp[jc,Pv.look,gS];((with_reducible repeat' first|refine aj ?_|simp[gS]|((first|apply bP|apply bS|apply bR)<;>intro h<;>try simp at h))<;>(try exact cp));refine cR.at (S cj.toList) (.inr rfl) (H.ok _) (H.same _ _ au (by simpa using bz)) (fun k cs h=>?_) (fun _ _ h=>h) ?_
  ·simp only[Pv.look];split
   ·rename_i e;subst e;rw[aA]at h;cases h
   ·split
    ·rename_i e;subst e;rw[gn]at h;cases h
    ·exact h
  ·simp[cX,U4,aX,aZ,aW];exact⟨cj,rfl,by rw[b6],bz⟩
 ·have EC:((i0+k:Nat):Int)≤(a:Int)+q*2+1:=by omega
  have RG:((i0:Int)+k)≤(a:Int)+q*2+1:=by omega
  simp[jc,Pv.look,gS,RG,EC];(with_reducible repeat' first|refine aj ?_|simp[gS,RG,EC,Pv.look]);have aoc:=H.same d.toList cj.toList au (by simpa using bz);have aeH:∀(fI:Array α) (v:List ah),cv [(aH.obj 902,v)] (S fI.toList).b=(S fI.toList).b:=fun fI v=>MB _ _ fun k x hm=>by
   have:=tT hm;simp only[Pv.look];split
   ·rename_i e;subst e;rw[gn]at this;cases this
   ·rfl
  refine c7.ob (acj x (by omega)) (Hb x) (fun k cs h=>?_) (fun k o h=>by simp[mF,Pv.look]at h) (by simp[aC,aK,inObs,mF,Pv.look]) ?_
  ·simp only[mF,Pv.look]at h⊢;split at h
   ·rename_i e;subst e;simpa using h
   ·cases h
  rintro eF ai ⟨rfl,rfl⟩;refine⟨MW _ _,?_⟩;rw[←aG];have Z0:cv (mF x).b ((aH.loc 0,[ah.func g lc,ah.func b7 b1])::(aH.obj 902,[ah.int .u64 x])::(S cj.toList).b)=(aH.loc 0,[ah.func g lc,ah.func b7 b1])::(S cj.toList).b:=by simp[mF,cv,Pv.look,aeH]
  have Z1:cv (mF x).e (S cj.toList).e=(S cj.toList).e:=MB _ _ fun _ _ _=>rfl;rw[Z0,Z1,show(mF y).b=[(aH.obj 902,[ah.int .u64 y])]from rfl,show(mF y).e=[]from rfl,List.append_nil];have anT:∀(v:List ah),Pv.look (.obj 902) ((aH.loc 0,[ah.func g lc,ah.func b7 b1])::((S cj.toList).b++[(aH.obj 902,v)]))=some v:=fun v=>by simp[Pv.look,cI,gn]
  have Nq:∀o',o'<len→o'=(if z≥len then z-len else z)→Sort.breakStep a len M (r,cj) (i0+k)=(Sort.xorNext r,Sort.swp cj (i0+k) (a+o')):=fun o' J U=>by unfold Sort.breakStep;simp only[Jn,←aG,←bD,←U]
  have P1:((i0:Int)+k)=((i0+k:Nat):Int):=by omega
  simp only[eK,aH.obj.injEq];simp[-BitVec.toNat_and,-BitVec.ofInt_natCast,YX,wR,nr,Pv.look,H.ssc];by_cases aoh:len≤z
  ·have JK:(len:Int)≤z:=by omega
   have Ib:((a:Int)+(z-len))=((a+(z-len):Nat):Int):=by omega
   ((with_reducible repeat' first|refine aj ?_|simp[JK,Pv.look,H.ssc]|((first|apply bP|apply bS|apply bR)<;>intro h<;>try simp at h))<;>(try exact cp));rw[Ib,P1];refine c7.ob (H.swap cj.toList (by simpa using bz) (by omega) (i0+k) (a+(z-len)) (by omega) (by omega)) (H.ok _) (fun bM cs h=>?_) (fun _ _ h=>h) (by simp[aC,aK,H.ksc cj.toList (by simpa using bz)]) ?_
   ·simp only[Pv.look];split
    ·rename_i e;subst e;rw[aA]at h;cases h
    ·rw[cI,h]
   rintro eF ai ⟨rfl,rfl⟩;refine⟨H.same _ _ (by simpa using bz) (by simpa using bz),?_⟩;rw[Fp cj (by omega) (by omega)];obtain⟨d2,eI⟩:∃d2,d2=Sort.swp cj (i0+k) (a+(z-len)):=⟨_,rfl⟩;have s2:d2.size=n:=by rw[eI,gC,bz]
   rw[←eI];have Ig:∀v:List ah,cv (S cj.toList).b ((aH.loc 0,[ah.func g lc,ah.func b7 b1])::((S cj.toList).b++[(aH.obj 902,v)]))=[(aH.loc 0,[ah.func g lc,ah.func b7 b1]),(aH.obj 902,v)]:=fun v=>by simp only[cv,aA];rw[im,gN];simp[cv,gn]
   dsimp only;rw[Ig,gN];simp;(with_reducible repeat' first|refine aj ?_|simp);have H7:((i0:Int)+k+1)=((i0+(k+1):Nat):Int):=by omega
   rw[H7];refine bN.whl (k+1,Sort.xorNext r,d2) (by simp;omega) ⟨by simp;omega,s2,by simp only[ym,b6];rw[Nq (z-len) (by omega) (by rw[if_pos (by omega)]),eI]⟩ ?_;rw[Jn,←aG];refine W4 (Dv H d2 y) (fun k h=>dk d2 _ k h s2) (fun k h=>pf _ h) (by simp[aC,inObs,jc,Pv.look,lZ]) (by simp[Pv.look]) (w4 d2 _ s2) ?_ (fun _ _ h=>h);intro k cs h;simp only[jc,Pv.look]at h⊢;split at h
   ·rename_i e;subst e;simpa using h
   ·rename_i e;split
    ·rename_i aB;subst aB;rw[aA]at h;cases h
    ·exact h
  ·have JK:¬(len:Int)≤z:=by omega
   have Ib:((a:Int)+z)=((a+z:Nat):Int):=by omega
   ((with_reducible repeat' first|refine aj ?_|simp[JK,Pv.look,H.ssc]|((first|apply bP|apply bS|apply bR)<;>intro h<;>try simp at h))<;>(try exact cp));rw[Ib,P1];refine c7.ob (H.swap cj.toList (by simpa using bz) (by omega) (i0+k) (a+z) (by omega) (by omega)) (H.ok _) (fun bM cs h=>?_) (fun _ _ h=>h) (by simp[aC,aK,H.ksc cj.toList (by simpa using bz)]) ?_
   ·simp only[Pv.look];split
    ·rename_i e;subst e;rw[aA]at h;cases h
    ·rw[cI,h]
   rintro eF ai ⟨rfl,rfl⟩;refine⟨H.same _ _ (by simpa using bz) (by simpa using bz),?_⟩;rw[Fp cj (by omega) (by omega)];obtain⟨d2,eI⟩:∃d2,d2=Sort.swp cj (i0+k) (a+z):=⟨_,rfl⟩;have s2:d2.size=n:=by rw[eI,gC,bz]
   rw[←eI];have Ig:∀v:List ah,cv (S cj.toList).b ((aH.loc 0,[ah.func g lc,ah.func b7 b1])::((S cj.toList).b++[(aH.obj 902,v)]))=[(aH.loc 0,[ah.func g lc,ah.func b7 b1]),(aH.obj 902,v)]:=fun v=>by simp only[cv,aA];rw[im,gN];simp[cv,gn]
   dsimp only;rw[Ig,gN];simp;(with_reducible repeat' first|refine aj ?_|simp);have H7:((i0:Int)+k+1)=((i0+(k+1):Nat):Int):=by omega
   rw[H7];refine bN.whl (k+1,Sort.xorNext r,d2) (by simp;omega) ⟨by simp;omega,s2,by simp only[ym,b6];rw[Nq z (by omega) (by rw[if_neg (by omega)]),eI]⟩ ?_;rw[Jn,←aG];refine W4 (Dv H d2 y) (fun k h=>dk d2 _ k h s2) (fun k h=>pf _ h) (by simp[aC,inObs,jc,Pv.look,lZ]) (by simp[Pv.look]) (w4 d2 _ s2) ?_ (fun _ _ h=>h);intro k cs h;simp only[jc,Pv.look]at h⊢;split at h
   ·rename_i e;subst e;simpa using h
   ·rename_i e;split
    ·rename_i aB;subst aB;rw[aA]at h;cases h
    ·exact h
end Go.Proofs.YtahlgcidhnjlbaaGreat
namespace Go.Proofs.YtahlgcidhnjlbaaGreat
open Go Go.Pv
variable {α:Type} [Inhabited α] {S:List α→cJ} {n g b7:Nat} {lc b1:List ah} {lt:α→α→Bool}
theorem e0.fnD{d d2:Array α}(H:e0 S n g b7 lc b1 lt)(J:d.size=n){f:Nat}{args:List ah}{r:ah}(aI:bQ al f args (S d.toList) fun eF ai=>eF=r∧∃b8,ai=S b8.toList∧b8=d2∧b8.size=n)(ad:aK (inObs (S d.toList)) args){t:List (Nat×ah)}{D:List ah}{o:List aH}{b8:aY Nat}{K:bq→Prop}
  (h:d2.size=n→∀o,K ⟨eK b8 r t,(.loc 0,D)::(S d2.toList).b,(S d2.toList).e,1,o⟩):c7 al f args ⟨t,(.loc 0,D)::(S d.toList).b,(S d.toList).e,1,o⟩ b8 K:=
 H.call (by simpa using J) (R:=fun eF a1=>eF=r∧a1=d2.toList∧d2.size=n) (aI.mono fun r ai ⟨ak,b8,aB,bj,de⟩=>⟨b8.toList,aB,ak,by rw[bj],by rw[←bj];exact de⟩) (fun r a1 ⟨_,e,h⟩=>by rw[e];simpa using h) ad (by rintro eF a1 ⟨rfl,rfl,U⟩;exact h U _)
attribute [local simp] oU
def AF(S:List α→cJ)(n g b7:Nat)(lc b1:List ah)(lt:α→α→Bool)(m:Nat):Prop:=
 ∀k,k<m→∀(d:Array α),d.size=n→∀a b vv:Nat,b-a≤k→a≤b→b≤n→vv≤1000→Sort.Below lt a b d→
  bQ al 214 [eS g b7 lc b1,.int .i64 a,.int .i64 b,.int .i64 vv] (S d.toList) fun r ai=>r= .tuple []∧∃b8,ai=S b8.toList∧Sort.PermIn a b d b8∧Sort.SortedIn lt a b b8
structure wi (S:List α→cJ) (n g b7:Nat) (lc b1:List ah) (lt:α→α→Bool) (bn bO lim:Nat) (d:Array α) (Q:Exit→bq→Prop):Prop where
 k:∀e,e= .normal∨e= .exit 1→∀(a2 b4:Nat) (w v:Bool) (L:Array α) (t:List (Nat×ah)) (o:List aH),L.size=n→a2≤b4→b4≤n→b4-a2<bO-bn→Sort.Below lt a2 b4 L→(∀R,Sort.PermIn a2 b4 L R→Sort.SortedIn lt a2 b4 R→Sort.PermIn bn bO d R∧Sort.SortedIn lt bn bO R)→
  Pv.get 1 t= .int .i64 a2→Pv.get 2 t= .int .i64 b4→Pv.get 3 t= .int .i64 lim→Pv.get 4 t= .ptr (.loc 0) 0→Pv.get 8 t= .bool w→Pv.get 9 t= .bool v→Q e ⟨t,(.loc 0,[.func g lc,.func b7 b1])::(S L.toList).b,(S L.toList).e,1,o⟩
 r:∀(R:Array α) t o,Sort.PermIn bn bO d R→Sort.SortedIn lt bn bO R→Q .ret ⟨t,(.loc 0,[.func g lc,.func b7 b1])::(S R.toList).b,(S R.toList).e,1,o⟩
theorem wi.mono{bn bO lim:Nat}{d b8:Array α}{Q:Exit→bq→Prop}(h:wi S n g b7 lc b1 lt bn bO lim d Q)(p:Sort.PermIn bn bO d b8):wi S n g b7 lc b1 lt bn bO lim b8 Q:=⟨fun e he a2 b4 w v L t o ak aB bj de gS hG=>h.k e he a2 b4 w v L t o ak aB bj de gS fun R dI eY=>⟨Sort.permIn_trans _ _ _ bn bO p (hG R dI eY).1,(hG R dI eY).2⟩,fun R t o dI eY=>h.r R t o (Sort.permIn_trans _ _ _ bn bO p dI) eY⟩
structure yh (t:List (Nat×ah)) (bn bO lim:Nat):Prop where
 t1:Pv.get 1 t= .int .i64 bn
 t2:Pv.get 2 t= .int .i64 bO
 t3:Pv.get 3 t= .int .i64 lim
 t4:Pv.get 4 t= .ptr (.loc 0) 0
 t10:Pv.get 10 t= .int .i64 ((bO:Int)-bn)
section
variable {bn bO lim:Nat} {cG:Array α} {t:List (Nat×ah)} {o:List aH} {ob:List aH} {Q:Exit→bq→Prop}
theorem Uu(H:e0 S n g b7 lc b1 lt)(bC:Sort.SWO lt)(bT:AF S n g b7 lc b1 lt (bO-bn)){pv:Nat}(T:yh t bn bO lim)(t11:Pv.get 11 t= .int .i64 pv)(q9:lim≤1000)(oo:cG.size=n)(pB:bn≤pv∧pv<bO)(b6:bO≤n)(r7:12<bO-bn)(sX:Sort.Below lt bn bO cG)(hT:wi S n g b7 lc b1 lt bn bO lim cG Q):
  cU al ob HK Q ⟨t,(.loc 0,[.func g lc,.func b7 b1])::(S cG.toList).b,(S cG.toList).e,1,o⟩:=by
 obtain⟨t1,t2,t3,t4,t10⟩:=T;have sg:∀fI:Array α,fI.size=n→aC (inObs (S fI.toList)) (eS g b7 lc b1):=fun fI h=>H.kdata (lk:=fI.toList) (by simpa using h);have hle:=H.le;unfold HK;simp[t1,t2,t4,t11,Pv.look,H.slc,H.ssc];simp only[h6 H,H.slc,H.ssc,h1];have qw:=acA H cG oo bn bO pv pB.1 pB.2 (by omega) b6;have bo:Sort.partition lt cG bn bO pv=((Sort.partition lt cG bn bO pv).1,(Sort.partition lt cG bn bO pv).2.1,(Sort.partition lt cG bn bO pv).2.2):=rfl;generalize (Sort.partition lt cG bn bO pv).1=mid at qw bo;generalize (Sort.partition lt cG bn bO pv).2.1=ap at qw bo;generalize (Sort.partition lt cG bn bO pv).2.2=d4 at qw bo;obtain⟨g1,g2,g3,g4,g5,g6,g7⟩:=Sort.round_part bC (Sort.partition_holds lt) pB.1 pB.2 (by omega) sX bo;refine H.fnD oo qw (by simp[aC,aK,sg cG oo]) fun s4 o=>?_;have em:((mid:Int)+1)=(mid+1:Nat):=by omega
 simp[t1,t2,t3,t4,t10];by_cases an9:mid-bn<bO-mid
 ·have Jg:(mid:Int)-bn<bO-mid:=by omega
  (with_reducible repeat' first|refine aj ?_|simp[Jg,Pv.look,t1,t2,t3,t4,t10]);simp only[h6 H,H.slc,H.ssc,h1];refine H.doFn (lk:=d4.toList) (by simpa using s4) (R:=fun a1=> ∃L:Array α,a1=L.toList∧Sort.PermIn bn mid d4 L∧Sort.SortedIn lt bn mid L) ((bT (mid-bn) (by omega) d4 s4 bn mid lim (eR _) g1 (by omega) q9 g4).mono fun r ai ⟨a6,b8,bu,bV,cW⟩=>⟨a6,b8.toList,bu,b8,rfl,bV,cW⟩) (by rintro a1 ⟨L,rfl,q,_⟩;simpa using q.1.trans s4) (by simp[aK,aC,sg d4 s4]) ?_;rintro a1 ⟨L,rfl,cM,dn⟩;obtain⟨ku,oB⟩:=g6 L cM dn;simp;(with_reducible repeat' first|refine aj ?_|simp[t1,t2,t3,t4]);rw[em];exact hT.k _ (.inl rfl) (mid+1) bO _ ap L _ _ (cM.1.trans s4) (by omega) b6 (by omega) ku oB (by simp) (by simp[t2]) (by simp[t3]) (by simp[t4]) (by simp;rfl) (by simp)
 ·have Jg:¬(mid:Int)-bn<bO-mid:=by omega
  (with_reducible repeat' first|refine aj ?_|simp[Jg,Pv.look,t1,t2,t3,t4,t10]);simp only[h6 H,H.slc,H.ssc,h1];rw[em];refine H.doFn (lk:=d4.toList) (by simpa using s4) (R:=fun a1=> ∃L:Array α,a1=L.toList∧Sort.PermIn (mid+1) bO d4 L∧Sort.SortedIn lt (mid+1) bO L) ((bT (bO-(mid+1)) (by omega) d4 s4 (mid+1) bO lim (eR _) (by omega) b6 q9 g5).mono fun r ai ⟨a6,b8,bu,bV,cW⟩=>⟨a6,b8.toList,bu,b8,rfl,bV,cW⟩) (by rintro a1 ⟨L,rfl,q,_⟩;simpa using q.1.trans s4) (by simp[aK,aC,sg d4 s4]) ?_;rintro a1 ⟨L,rfl,cM,dn⟩;obtain⟨ku,oB⟩:=g7 L cM dn;simp;(with_reducible repeat' first|refine aj ?_|simp[t1,t2,t3,t4]);exact hT.k _ (.inl rfl) bn mid _ ap L _ _ (cM.1.trans s4) g1 (by omega) (by omega) ku oB (by simp[t1]) (by simp) (by simp[t3]) (by simp[t4]) (by simp;rfl) (by simp)
theorem aiv(H:e0 S n g b7 lc b1 lt)(bC:Sort.SWO lt)(bT:AF S n g b7 lc b1 lt (bO-bn)){pv:Nat}(T:yh t bn bO lim)(t11:Pv.get 11 t= .int .i64 pv){w v:Bool}(t8:Pv.get 8 t= .bool w)(t9:Pv.get 9 t= .bool v)(q9:lim≤1000)(oo:cG.size=n)(pB:bn≤pv∧pv<bO)(b6:bO≤n)(r7:12<bO-bn)(sX:Sort.Below lt bn bO cG)(hT:wi S n g b7 lc b1 lt bn bO lim cG Q):
  cU al ob AU Q ⟨t,(.loc 0,[.func g lc,.func b7 b1])::(S cG.toList).b,(S cG.toList).e,1,o⟩:=by
 obtain⟨t1,t2,t3,t4,t10⟩:=id T;have hle:=H.le;unfold AU;by_cases sa:0<bn
 ·have IY:(0:Int)<bn:=by omega
  simp[t1,t2,t4,t11,sa,IY,Pv.look,H.slc,H.ssc];(with_reducible repeat' first|refine aj ?_|simp[t1,t2,t4,t11,sa,IY,Pv.look,H.slc,H.ssc]);rw[show((bn:Int)-1)=((bn-1:Nat):Int) by omega];refine H.lessA oo (bn-1) pv (by omega) (by omega) fun o=>?_;cases ju:lt cG[bn-1]! cG[pv]!
  ·simp;(with_reducible repeat' first|refine aj ?_|simp[Pv.look,H.slc,H.ssc,t1,t2,t4,t11]);simp only[h6 H,H.slc,H.ssc,h1];have qw:=acB H cG oo bn bO pv pB.1 pB.2 (by omega) b6;have bo:Sort.partitionEqual lt cG bn bO pv=((Sort.partitionEqual lt cG bn bO pv).1,(Sort.partitionEqual lt cG bn bO pv).2):=rfl;generalize (Sort.partitionEqual lt cG bn bO pv).1=mid at qw bo;generalize (Sort.partitionEqual lt cG bn bO pv).2=d4 at qw bo;obtain⟨g1,g2,g3,g4,g5⟩:=Sort.round_eq bC (Sort.partitionEqual_holds lt) sa pB.1 pB.2 (by omega) sX ju bo;refine H.fnD oo qw (by simp[aC,aK,H.kdata (lk:=cG.toList) (by simpa using oo)]) fun s4 o=>?_;simp[t1,t2,t3,t4];exact hT.k _ (.inr rfl) mid bO w v d4 _ _ s4 g2 b6 (by omega) g4 g5 (by simp) (by simp[t2]) (by simp[t3]) (by simp[t4]) (by simp[t8]) (by simp[t9])
  ·simp;exact Uu H bC bT ⟨by simp[t1],by simp[t2],by simp[t3],by simp[t4],by simp[t10]⟩ (by simp[t11]) q9 oo pB b6 r7 sX hT
 ·have IY:¬(0:Int)<bn:=by omega
  simp[t1,sa];exact Uu H bC bT ⟨by simp[t1],by simp[t2],by simp[t3],by simp[t4],by simp[t10]⟩ (by simp[t11]) q9 oo pB b6 r7 sX hT
theorem KY(H:e0 S n g b7 lc b1 lt)(bC:Sort.SWO lt)(bT:AF S n g b7 lc b1 lt (bO-bn)){pv:Nat}(T:yh t bn bO lim)(t11:Pv.get 11 t= .int .i64 pv){h:Nat}(t12:Pv.get 12 t= .int .i64 h){w v:Bool}(t8:Pv.get 8 t= .bool w)(t9:Pv.get 9 t= .bool v)(q9:lim≤1000)(oo:cG.size=n)(pB:bn≤pv∧pv<bO)(b6:bO≤n)(r7:12<bO-bn)(sX:Sort.Below lt bn bO cG)(hT:wi S n g b7 lc b1 lt bn bO lim cG Q):
  cU al ob HL Q ⟨t,(.loc 0,[.func g lc,.func b7 b1])::(S cG.toList).b,(S cG.toList).e,1,o⟩:=by
 obtain⟨t1,t2,t3,t4,t10⟩:=id T;have hle:=H.le;unfold HL;have next:∀{d5:Array α} {t o},yh t bn bO lim→Pv.get 11 t= .int .i64 pv→Pv.get 8 t= .bool w→Pv.get 9 t= .bool v→d5.size=n→Sort.Below lt bn bO d5→Sort.PermIn bn bO cG d5→cU al ob AU Q ⟨t,(.loc 0,[.func g lc,.func b7 b1])::(S d5.toList).b,(S d5.toList).e,1,o⟩:=fun ak aB bj de gS hG qO=>aiv H bC bT ak aB bj de q9 gS pB b6 r7 hG (hT.mono qO)
 have skip:∀{t o},yh t bn bO lim→Pv.get 11 t= .int .i64 pv→Pv.get 8 t= .bool w→Pv.get 9 t= .bool v→cU al ob AU Q ⟨t,(.loc 0,[.func g lc,.func b7 b1])::(S cG.toList).b,(S cG.toList).e,1,o⟩:=fun ak aB bj de=>next ak aB bj de oo sX (Sort.permIn_refl _ _ _)
 by_cases ax:(w=true∧v=true)∧h=1
 ·obtain⟨⟨rfl,rfl⟩,rfl⟩:=ax;simp[t1,t2,t4,t8,t9,t12,Pv.look,H.slc,H.ssc];simp only[h6 H,H.slc,H.ssc,h1];have qw:=acz H cG oo bn bO (by omega) b6 (by omega);have bo:=Sort.partialInsertionSort_holds bC cG bn bO (by omega) (by omega) sX;generalize (Sort.partialInsertionSort lt cG bn bO).1=d5 at qw bo;generalize (Sort.partialInsertionSort lt cG bn bO).2=ok at qw bo;refine H.fnD oo qw (by simp[aC,aK,H.kdata (lk:=cG.toList) (by simpa using oo)]) fun ajZ o=>?_;cases ok
  ·simp;exact next ⟨by simp[t1],by simp[t2],by simp[t3],by simp[t4],by simp[t10]⟩ (by simp[t11]) (by simp[t8]) (by simp[t9]) ajZ (sX.perm (by omega) bo.1) bo.1
  ·simp;exact hT.r _ _ _ bo.1 (bo.2 rfl)
 ·cases w
  ·simp[t8,t9,t12];exact skip ⟨by simp[t1],by simp[t2],by simp[t3],by simp[t4],by simp[t10]⟩ (by simp[t11]) (by simp[t8]) (by simp[t9])
  ·cases v
   ·simp[t8,t9,t12];exact skip ⟨by simp[t1],by simp[t2],by simp[t3],by simp[t4],by simp[t10]⟩ (by simp[t11]) (by simp[t8]) (by simp[t9])
   ·have J:((h:Int)==1)=false:=by simp at ax⊢;omega
    simp[t8,t9,t12,J];exact skip ⟨by simp[t1],by simp[t2],by simp[t3],by simp[t4],by simp[t10]⟩ (by simp[t11]) (by simp[t8]) (by simp[t9])
theorem Uv(H:e0 S n g b7 lc b1 lt)(gn:ry S 901)(bC:Sort.SWO lt)(bT:AF S n g b7 lc b1 lt (bO-bn))(T:yh t bn bO lim){w v:Bool}(t8:Pv.get 8 t= .bool w)(t9:Pv.get 9 t= .bool v)(q9:lim≤1000)(s1:cG.size=n)(b6:bO≤n)(r7:12<bO-bn)(G2:Sort.Below lt bn bO cG)(hT:wi S n g b7 lc b1 lt bn bO lim cG Q):
  cU al ob HM Q ⟨t,(.loc 0,[.func g lc,.func b7 b1])::(S cG.toList).b,(S cG.toList).e,1,o⟩:=by
 obtain⟨t1,t2,t3,t4,t10⟩:=id T;have hle:=H.le;have sg:∀fI:Array α,fI.size=n→aC (inObs (S fI.toList)) (eS g b7 lc b1):=fun fI h=>H.kdata (lk:=fI.toList) (by simpa using h);unfold HM;simp[t1,t2,t4,Pv.look,H.slc,H.ssc];simp only[h6 H,H.slc,H.ssc,h1];have tu:=Sort.choosePivot_holds lt cG bn bO (by omega);have JW:=acq H gn cG s1 bn bO (by omega) b6;generalize Sort.choosePivot lt cG bn bO=HX at JW tu;obtain⟨p,hint⟩:=HX;simp only at JW tu;refine H.fnA s1 s1 JW (by simp[aC,aK,sg cG s1]) fun o=>?_;cases hint
 ·simp[y0];exact KY H bC bT ⟨by simp[t1],by simp[t2],by simp[t3],by simp[t4],by simp[t10]⟩ (pv:=p) (by simp) (h:=0) (by simp) (w:=w) (v:=v) (by simp[t8]) (by simp[t9]) q9 s1 tu b6 r7 G2 hT
 ·simp[y0];exact KY H bC bT ⟨by simp[t1],by simp[t2],by simp[t3],by simp[t4],by simp[t10]⟩ (pv:=p) (by simp) (h:=1) (by simp) (w:=w) (v:=v) (by simp[t8]) (by simp[t9]) q9 s1 tu b6 r7 G2 hT
 ·simp[y0,t1,t2,t4,Pv.look,H.slc,H.ssc];simp only[h6 H,H.slc,H.ssc,h1];refine H.fnD s1 (acG H cG s1 bn bO (by omega) b6 (by omega)) (by simp[aC,aK,sg cG s1]) fun s2 o=>?_;have aL:=Sort.reverseRange_holds cG bn bO (by omega) (by omega);have P4:((bO:Int)-1-(p-bn))=((bO-1)-(p-bn):Nat):=by omega
  simp[t1,t2,P4];(with_reducible repeat' first|refine aj ?_|simp[P4,t1,t2]);exact KY H bC bT ⟨by simp[t1],by simp[t2],by simp[t3],by simp[t4],by simp[t10]⟩ (pv:=(bO-1)-(p-bn)) (by simp) (h:=1) (by simp) (w:=w) (v:=v) (by simp[t8]) (by simp[t9]) q9 s2 (by omega) b6 r7 (G2.perm (by omega) aL) (hT.mono aL)
end
theorem acC(H:e0 S n g b7 lc b1 lt)(gn:ry S 901)(kV:ry S 902)(bC:Sort.SWO lt)(m:Nat):∀(d:Array α) (aQ:d.size=n) (a b vv:Nat) (hm:b-a≤m) (mN:a≤b) (ae:b≤n) (eO:vv≤1000) (wS:Sort.Below lt a b d),
  bQ al 214 [eS g b7 lc b1,.int .i64 a,.int .i64 b,.int .i64 vv] (S d.toList) fun r ai=>r= .tuple []∧∃b8,ai=S b8.toList∧Sort.PermIn a b d b8∧Sort.SortedIn lt a b b8:=by
 induction m using Nat.strongRecOn with
 |ind m bT=>
 intro d aQ a b vv hm mN ae eO wS;have ag:=H.ok d.toList;have au:d.toList.length=n:=by simpa using aQ
 have aA:∀l m,Pv.look (.loc m) (S l).b=none:=fun l=>(H.ok l).obj.1;have hu:∀l m cs,cx (.loc m) cs (S l).b=(S l).b++[(.loc m,cs)]:=fun l m cs=>jR (aA l m);have aw:∀m,aH.loc m∉cS (S d.toList):=jM ag.obj;have hle:=H.le;refine bQ.mk mixed nF abl ahL (by simp) ag.obj fun aP cQ=>?_;unfold OU;simp[eS,hu,aw,cI,aA];refine H.loopA au [4] (fun(x:((Nat×Nat×Nat)×Bool×Bool)×Array α)=>[(1,.int .i64 x.1.1.1),(2,.int .i64 x.1.1.2.1),(3,.int .i64 x.1.1.2.2),(8,.bool x.1.2.1),(9,.bool x.1.2.2)]) (·.2) (fun x=>x.1.1.2.1-x.1.1.1) (fun x=>x.2.size=n∧(x.1.1.1≤x.1.1.2.1∧x.1.1.2.1≤n∧x.1.1.2.1-x.1.1.1≤m∧x.1.1.2.2≤1000)∧Sort.Below lt x.1.1.1 x.1.1.2.1 x.2∧∀R,Sort.PermIn x.1.1.1 x.1.1.2.1 x.2 R→Sort.SortedIn lt x.1.1.1 x.1.1.2.1 R→Sort.PermIn a b d R∧Sort.SortedIn lt a b R)
  (((a,b,vv),true,true),d) aQ ⟨aQ,⟨mN,ae,hm,eO⟩,wS,fun R J U=>⟨J,U⟩⟩ (by simp[cI,aA]) aR aR (by simp[aC]) ?_
 rintro⟨⟨⟨bn,bO,tS⟩,amm,wp⟩,cj⟩ ⟨aT,⟨bz,b6,dO,cZ⟩,B7,E6⟩;simp only at aT bz b6 dO cZ B7 E6;have sg:∀fI:Array α,fI.size=n→aC (inObs (S fI.toList)) (eS g b7 lc b1):=fun fI h=>H.kdata (lk:=fI.toList) (by simpa using h);have Gn:∀(R:Array α) t o,Sort.PermIn bn bO cj R→Sort.SortedIn lt bn bO R→cR U8 (S d.toList) (fun r ai=>r= .tuple []∧∃b8,ai=S b8.toList∧Sort.PermIn a b d b8∧Sort.SortedIn lt a b b8) .ret ⟨t,(.loc 0,[.func g lc,.func b7 b1])::(S R.toList).b,(S R.toList).e,1,o⟩:=fun R t o J U=>by refine H.retA au (by rw[J.1];exact aT) (.inl rfl) ⟨rfl,R,rfl,E6 R J U⟩
 simp;by_cases r7:bO-bn≤12
 ·have Bh:(bO:Int)-bn≤12:=by omega
  (with_reducible repeat' first|refine aj ?_|simp[Bh,Pv.look,H.slc,H.ssc]);simp only[h6 H,H.slc,H.ssc,h1];refine H.fnD aT (acu H cj aT bn bO bz b6) (by simp[aC,aK,sg cj aT]) fun s2 o=>?_;obtain⟨a6,bu⟩:=Sort.insertionSort_holds bC cj bn bO bz (by omega);simp;exact Gn _ _ _ a6 bu
 have Bh:¬(bO:Int)-bn≤12:=by omega
 by_cases y3:tS=0
 ·have EE:(((tS:Nat):Int)==0)=true:=by simp[y3]
  (with_reducible repeat' first|refine aj ?_|simp[Bh,EE,Pv.look,H.slc,H.ssc]);simp only[h6 H,H.slc,H.ssc,h1];refine H.fnD aT (acs H cj aT bn bO bz b6 (by omega)) (by simp[aC,aK,sg cj aT]) fun s2 o=>?_;obtain⟨a6,bu⟩:=Sort.heapSort_holds bC cj bn bO bz (by omega);simp;exact Gn _ _ _ a6 bu
 have EE:(((tS:Nat):Int)==0)=false:=by simp[y3]
 have Sm:AF S n g b7 lc b1 lt (bO-bn):=fun k ad=>bT k (by omega);cases amm
 ·(with_reducible repeat' first|refine aj ?_|simp[Bh,EE,Pv.look,H.slc,H.ssc]);simp only[h6 H,H.slc,H.ssc,h1];refine H.fnD aT (acp H kV cj aT bn bO bz b6 (by omega)) (by simp[aC,aK,sg cj aT]) fun s1 o=>?_;have Dq:=Sort.breakPatterns_holds cj bn bO bz (by omega);generalize Sort.breakPatterns cj bn bO=d1 at s1 Dq;have el:((tS:Int)-1)=(tS-1:Nat):=by omega
  simp[el];(with_reducible repeat' first|refine aj ?_|simp[el,Pv.look]);refine Uv (lim:=tS-1) H gn bC Sm ⟨by simp,by simp,by simp,by simp,by simp⟩ (w:=false) (v:=wp) (by simp) (by simp) (by omega) s1 b6 (by omega) (B7.perm (by omega) Dq) ⟨?_,fun R t o dI eY=>?_⟩
  ·rintro e he a2 b4 w v L t o ak aB bj de gS hG t1 t2 t3 t4 t8 t9;rcases he with rfl|rfl<;>simp<;>exact bN.whl (((a2,b4,tS-1),w,v),L) (by simp;omega) ⟨ak,⟨aB,bj,by simp;omega,by simp;omega⟩,gS,fun R dI eY=>E6 R (Sort.permIn_trans _ _ _ bn bO Dq (hG R dI eY).1) (hG R dI eY).2⟩ (H.weakC au (by simpa using ak) (by simp[aC,t1,t2,t3,t4,t8,t9]))
  ·simpa using Gn R t o (Sort.permIn_trans _ _ _ bn bO Dq dI) eY
 ·(with_reducible repeat' first|refine aj ?_|simp[Bh,EE,Pv.look,H.slc,H.ssc]);refine Uv (lim:=tS) H gn bC Sm ⟨by simp,by simp,by simp,by simp,by simp⟩ (w:=true) (v:=wp) (by simp) (by simp) cZ aT b6 (by omega) B7 ⟨?_,fun R t o dI eY=>?_⟩
  ·rintro e he a2 b4 w v L t o ak aB bj de gS hG t1 t2 t3 t4 t8 t9;rcases he with rfl|rfl<;>simp<;>exact bN.whl (((a2,b4,tS),w,v),L) (by simp;omega) ⟨ak,⟨aB,bj,by simp;omega,cZ⟩,gS,fun R dI eY=>E6 R (hG R dI eY).1 (hG R dI eY).2⟩ (H.weakC au (by simpa using ak) (by simp[aC,t1,t2,t3,t4,t8,t9]))
  ·simpa using Gn R t o dI eY
end Go.Proofs.YtahlgcidhnjlbaaGreat
namespace Go.Proofs.YtahlgcidhnjlbaaGreat
open Go Go.Pv
variable {α:Type} {S:List α→cJ} {n g b7:Nat} {lc b1:List ah} {lt:α→α→Bool}
theorem afX(bC:p6 lt){l lk:List α}{a b i:Nat}(mO:a+1≤i)(yZ:i≤b)(ae:b≤l.length)(ag:e7 lt (a+1) b l){z:α}(bD:l[a]? =some z)(BC:∀h x,a+1≤h→h<i→l[h]? =some x→lt x z=true)(Bz:∀h x,i≤h→h<b→l[h]? =some x→lt x z=false)
  (aL:∀k,lk[k]? =l[hO a (a+1) i k]?):e7 lt a b lk:=by
 intro p q x y bJ kk bo ab aG;rw[aL]at ab aG;simp only[hO]at ab aG;rw[if_neg (by omega)]at ab aG;by_cases a6:q<i-1
 ·rw[if_pos (by omega)]at ab aG;exact ag _ _ _ _ (by omega) (by omega) (by omega) ab aG
 ·rw[if_neg (by omega)]at aG;by_cases bu:q<i
  ·rw[if_pos bu,show q-(i-(a+1))=a by omega,bD]at aG;cases aG;rw[if_pos (by omega)]at ab;exact bC.asym _ _ (BC _ _ (by omega) (by omega) ab)
  ·rw[if_neg bu]at aG;by_cases cM:p<i-1
   ·rw[if_pos (by omega)]at ab;exact ag _ _ _ _ (by omega) (by omega) (by omega) ab aG
   ·rw[if_neg (by omega)]at ab;by_cases dn:p<i
    ·rw[if_pos dn,show p-(i-(a+1))=a by omega,bD]at ab;cases ab;exact Bz _ _ (by omega) bo aG
    ·rw[if_neg dn]at ab;exact ag _ _ _ _ (by omega) (by omega) bo ab aG
theorem afY(bC:p6 lt){l lk:List α}{a m i:Nat}(mO:a≤i)(an6:i≤m)(ae:m+1≤l.length)(ag:e7 lt a m l){z:α}(bD:l[m]? =some z)(BC:∀h x,a≤h→h<i→l[h]? =some x→lt z x=false)(Bz:∀h x,i≤h→h<m→l[h]? =some x→lt z x=true)
  (aL:∀k,lk[k]? =l[hO i m (m+1) k]?):e7 lt a (m+1) lk:=by
 intro p q x y bJ kk bo ab aG;rw[aL]at ab aG;simp only[hO]at ab aG;by_cases a6:q<i
 ·rw[if_pos (by omega)]at ab aG;exact ag _ _ _ _ bJ kk (by omega) ab aG
 ·rw[if_neg a6]at aG;by_cases bu:q=i
  ·rw[if_pos (by omega),show q+(m-i)=m by omega,bD]at aG;cases aG;rw[if_pos (by omega)]at ab;exact BC _ _ bJ (by omega) ab
  ·rw[if_neg (by omega),if_pos (by omega)]at aG;by_cases cM:p<i
   ·rw[if_pos cM]at ab;exact ag _ _ _ _ bJ (by omega) (by omega) ab aG
   ·rw[if_neg cM]at ab;by_cases dn:p=i
    ·rw[if_pos (by omega),show p+(m-i)=m by omega,bD]at ab;cases ab;exact bC.asym _ _ (Bz _ _ (by omega) (by omega) aG)
    ·rw[if_neg (by omega),if_pos (by omega)]at ab;exact ag _ _ _ _ (by omega) (by omega) (by omega) ab aG
structure Dp (lt:α→α→Bool) (a s m e b mid:Nat) (lk:List α):Prop where
 s1:e7 lt a s lk
 s2:e7 lt s mid lk
 s3:e7 lt mid e lk
 s4:e7 lt e b lk
 cross:∀p q x y,a≤p→p<mid→mid≤q→q<b→lk[p]? =some x→lk[q]? =some y→lt y x=false
theorem e7.le(bC:p6 lt){a b:Nat}{l:List α}(h:e7 lt a b l){i j:Nat}{x y:α}(J:a≤i)(U:i≤j)(ao:j<b)(ab:l[i]? =some x)(aG:l[j]? =some y):lt y x=false:=by
 by_cases e:i=j
 ·subst e;rw[ab]at aG;cases aG;cases Sj:lt x x with
  |false=>rfl
  |true=>have:=bC.asym _ _ Sj;rw[Sj]at this;exact this
 ·exact h _ _ _ _ J (by omega) ao ab aG
theorem af6(bC:p6 lt){l lk:List α}{a m b mid s e:Nat}(has:a≤s)(e2:s≤m)(aoa:m≤e)(an4:e≤b)(ae:b≤l.length)(lq:s+e=mid+m)(J:e7 lt a m l)(U:e7 lt m b l)
  (bI:s=a∨e=b∨ ∃x y,l[s-1]? =some x∧l[e]? =some y∧lt y x=false) (ch:s=m∨e=m∨ ∃x y,l[s]? =some x∧l[e-1]? =some y∧lt y x=true) (aL:∀k,lk[k]? =l[hO s m e k]?):Dp lt a s m e b mid lk:=by
 have g1:∀p,p<s→lk[p]? =l[p]?:=fun p bJ=>by rw[aL];simp[hO,bJ]
 have g2:∀p,s≤p→p<mid→lk[p]? =l[p+(m-s)]?:=fun p ao a8=>by rw[aL];simp only[hO];rw[if_neg (by omega),if_pos (by omega)]
 have g3:∀p,mid≤p→p<e→lk[p]? =l[p-(e-m)]?:=fun p ao a8=>by rw[aL];simp only[hO];rw[if_neg (by omega),if_neg (by omega),if_pos (by omega)]
 have g4:∀p,e≤p→lk[p]? =l[p]?:=fun p ao=>by
  rw[aL];simp only[hO];rw[if_neg (by omega)];by_cases bZ:p<s+(e-m)
  ·omega
  ·rw[if_neg bZ,if_neg (by omega)]
 refine⟨fun p q x y bJ kk bo ab aG=>?_,fun p q x y bJ kk bo ab aG=>?_,fun p q x y bJ kk bo ab aG=>?_,fun p q x y bJ kk bo ab aG=>?_,fun p q x y bJ aei bo Jr ab aG=>?_⟩
 ·rw[g1 _ (by omega)]at ab aG;exact J _ _ _ _ bJ kk (by omega) ab aG
 ·rw[g2 _ (by omega) (by omega)]at ab aG;exact U _ _ _ _ (by omega) (by omega) (by omega) ab aG
 ·rw[g3 _ (by omega) (by omega)]at ab aG;exact J _ _ _ _ (by omega) (by omega) (by omega) ab aG
 ·rw[g4 _ (by omega)]at ab aG;exact U _ _ _ _ (by omega) (by omega) (by omega) ab aG
 ·by_cases cM:p<s
  ·rw[g1 _ cM]at ab;by_cases a6:q<e
   ·rw[g3 _ bo a6]at aG;exact J _ _ _ _ bJ (by omega) (by omega) ab aG
   ·rw[g4 _ (by omega)]at aG;rcases bI with bI|bI|⟨u,v,aT,bz,b6⟩
    ·omega
    ·omega
    ·exact bC.ntr _ _ _ (bC.ntr _ _ _ (e7.le bC J bJ (by omega) (by omega) ab aT) b6) (e7.le bC U (by omega) (by omega) Jr bz aG)
  ·rw[g2 _ (by omega) aei]at ab;by_cases a6:q<e
   ·rw[g3 _ bo a6]at aG;rcases ch with ch|ch|⟨u,v,aT,bz,b6⟩
    ·omega
    ·omega
    ·exact bC.ntr _ _ _ (bC.ntr _ _ _ (e7.le bC U (by omega) (by omega) (by omega) ab bz) (bC.asym _ _ b6)) (e7.le bC J (by omega) (by omega) (by omega) aT aG)
   ·rw[g4 _ (by omega)]at aG;exact U _ _ _ _ (by omega) (by omega) Jr ab aG
theorem af7{a mid b:Nat}(Bq:a≤mid){lk jK gJ:List α}(J:gl a mid lk jK)(s1:e7 lt a mid jK)(U:gl mid b jK gJ)(s2:e7 lt mid b gJ)(YU:∀p q x y,a≤p→p<mid→mid≤q→q<b→lk[p]? =some x→lk[q]? =some y→lt y x=false):e7 lt a b gJ:=by
 intro p q x y bJ kk bo ab aG;by_cases ao:q<mid
 ·rw[U.out _ (.inl (by omega))]at ab;rw[U.out _ (.inl (by omega))]at aG;exact s1 _ _ _ _ bJ kk ao ab aG
 ·by_cases a8:mid≤p
  ·exact s2 _ _ _ _ a8 kk bo ab aG
  ·rw[U.out _ (.inl (by omega))]at ab;refine U.all (fun y=>lt y x=false) (fun k y gn kV aG=>?_) q y (by omega) bo aG;rw[J.out _ (.inr gn)]at aG;exact J.all (fun x=>lt y x=false) (fun bM x adM adN ab=>YU bM k x y adM adN gn kV ab aG) p x bJ (by omega) ab
end Go.Proofs.YtahlgcidhnjlbaaGreat
namespace Go.Proofs.YtahlgcidhnjlbaaGreat
open Go Go.Pv
variable {α:Type} {S:List α→cJ} {n g b7:Nat} {lc b1:List ah} {lt:α→α→Bool}
def akG(lt:α→α→Bool)(l:List α)(mid m s0 r0:Nat)(x:Nat×Nat):Prop:=s0≤x.1∧x.1≤x.2∧x.2≤r0∧(x.1=s0∨ ∃u v,l[x.1-1]? =some u∧l[mid+m-x.1]? =some v∧lt v u=false)∧(x.2=r0∨ ∃u v,l[x.2]? =some u∧l[mid+m-x.2-1]? =some v∧lt v u=true)
attribute [local simp] oU
def Dw(S:List α→cJ)(n g b7:Nat)(lc b1:List ah)(lt:α→α→Bool)(d:Nat):Prop:=
 ∀(l:List α) (a m b:Nat),l.length=n→b-a≤d→a<m→m<b→b≤n→e7 lt a m l→e7 lt m b l→
  bQ al 232 [eS g b7 lc b1,.int .i64 a,.int .i64 m,.int .i64 b] (S l) fun r ai=>r= .tuple []∧∃a1,ai=S a1∧gl a b l a1∧e7 lt a b a1
def Dx(S:List α→cJ)(g b7:Nat)(lc b1:List ah)(lt:α→α→Bool)(a b:Nat)(l:List α)(Q:Exit→bq→Prop):Prop:=∀gJ t o,gl a b l gJ→e7 lt a b gJ→Q .normal ⟨t,(.loc 0,[.func g lc,.func b7 b1])::(S gJ).b,(S gJ).e,1,o⟩
section
variable {a m b mid i e d:Nat} {l:List α} {t:List (Nat×ah)} {o:List aH} {ob:List aH} {Q:Exit→bq→Prop}
theorem akk(H:e0 S n g b7 lc b1 lt)(bT:Dw S n g b7 lc b1 lt d)(t3:Pv.get 3 t= .int .i64 b)(t4:Pv.get 4 t= .ptr (.loc 0) 0)(t16:Pv.get 16 t= .int .i64 mid)(t22:Pv.get 22 t= .int .i64 e)(au:l.length=n)(J:mid≤e)(U:e≤b)(ae:b≤n)(aQ:b-mid≤d)(R8:e7 lt mid e l)(R9:e7 lt e b l)(hT:Dx S g b7 lc b1 lt mid b l Q):
  cU al ob DO Q ⟨t,(.loc 0,[.func g lc,.func b7 b1])::(S l).b,(S l).e,1,o⟩:=by
 unfold DO;by_cases lg:mid<e∧e<b
 ·simp[t3,t4,t16,t22,lg.1,lg.2,Pv.look];simp only[h6 H,H.slc,H.ssc,h1];refine H.doFn au (bT l mid e b au aQ lg.1 lg.2 ae R8 R9) (fun a1 h=>by rw[h.1.length];exact au) (by simp[aK,aC,H.kdata au]) ?_;rintro gJ ⟨kN,z2⟩;simp;exact hT _ _ _ kN z2
 ·have pD:e7 lt mid b l:=by
   by_cases oW:mid<e
   ·rwa[show e=b by omega]at R8
   ·rwa[show e=mid by omega]at R9
  by_cases oW:mid<e
  ·have adh:¬e<b:=by omega
   simp[t3,t16,t22,oW,adh];exact hT _ _ _ (.refl _) pD
  ·simp[t16,t22,oW];exact hT _ _ _ (.refl _) pD
theorem akl(H:e0 S n g b7 lc b1 lt)(bT:Dw S n g b7 lc b1 lt d)(t1:Pv.get 1 t= .int .i64 a)(t3:Pv.get 3 t= .int .i64 b)(t4:Pv.get 4 t= .ptr (.loc 0) 0)(t16:Pv.get 16 t= .int .i64 mid)(t18:Pv.get 18 t= .int .i64 i)(t22:Pv.get 22 t= .int .i64 e)(au:l.length=n)(bA:a≤i∧i≤mid∧a≤m)(J:mid≤e)(U:e≤b)(ae:b≤n)(aQ:b-mid≤d)(me:mid-a≤d)(dT:Dp lt a i m e b mid l)(hT:Dx S g b7 lc b1 lt a b l Q):
  cU al ob DP Q ⟨t,(.loc 0,[.func g lc,.func b7 b1])::(S l).b,(S l).e,1,o⟩:=by
 unfold DP;have next:∀{jK t o},Pv.get 3 t= .int .i64 b→Pv.get 4 t= .ptr (.loc 0) 0→Pv.get 16 t= .int .i64 mid→Pv.get 22 t= .int .i64 e→jK.length=n→gl a mid l jK→e7 lt a mid jK→cU al ob DO Q ⟨t,(.loc 0,[.func g lc,.func b7 b1])::(S jK).b,(S jK).e,1,o⟩:=fun ak aB bj de w5 cM dn=>by
  refine akk H bT ak aB bj de w5 J U ae aQ (fun p q x y J U ao ab aG=>?_) (fun p q x y J U ao ab aG=>?_) fun gJ t o a6 bu=>?_
  ·rw[cM.out _ (.inr J)]at ab;rw[cM.out _ (.inr (by omega))]at aG;exact dT.s3 p q x y J U ao ab aG
  ·rw[cM.out _ (.inr (by omega))]at ab;rw[cM.out _ (.inr (by omega))]at aG;exact dT.s4 p q x y J U ao ab aG
  ·exact hT gJ t o ((cM.mono (by omega) (by omega)).trans (a6.mono (by omega) (by omega))) (af7 (by omega) cM dn a6 bu dT.cross)
 by_cases kU:a<i∧i<mid
 ·simp[t1,t4,t16,t18,kU.1,kU.2,Pv.look];simp only[h6 H,H.slc,H.ssc,h1];refine H.doFn au (bT l a i mid au me kU.1 kU.2 (by omega) dT.s1 dT.s2) (fun a1 h=>by rw[h.1.length];exact au) (by simp[aK,aC,H.kdata au]) ?_;rintro jK ⟨cM,dn⟩;simp;exact next (by simp[t3]) (by simp[t4]) (by simp[t16]) (by simp[t22]) (by rw[cM.length];exact au) cM dn
 ·have dn:e7 lt a mid l:=by
   by_cases pz:a<i
   ·have:=dT.s1;rwa[show i=mid by omega]at this
   ·have:=dT.s2;rwa[show i=a by omega]at this
  by_cases pz:a<i
  ·have Eo:¬i<mid:=by omega
   simp[t1,t16,t18,pz,Eo];exact next (by simp[t3]) (by simp[t4]) (by simp[t16]) (by simp[t22]) au (.refl _) dn
  ·simp[t1,t18,pz];exact next (by simp[t3]) (by simp[t4]) (by simp[t16]) (by simp[t22]) au (.refl _) dn
theorem akm(H:e0 S n g b7 lc b1 lt)(bT:Dw S n g b7 lc b1 lt d)(t1:Pv.get 1 t= .int .i64 a)(t2:Pv.get 2 t= .int .i64 m)(t3:Pv.get 3 t= .int .i64 b)(t4:Pv.get 4 t= .ptr (.loc 0) 0)(t16:Pv.get 16 t= .int .i64 mid)(t18:Pv.get 18 t= .int .i64 i)(t22:Pv.get 22 t= .int .i64 e)(au:l.length=n)(bA:a≤i∧i≤mid∧a≤m)(J:mid≤e)(U:e≤b)(ae:b≤n)(aQ:b-mid≤d)(me:mid-a≤d)(RN:∀lk:List α,(∀k,lk[k]? =l[hO i m e k]?)→Dp lt a i m e b mid lk)(hT:Dx S g b7 lc b1 lt a b l Q):
  cU al ob HN Q ⟨t,(.loc 0,[.func g lc,.func b7 b1])::(S l).b,(S l).e,1,o⟩:=by
 unfold HN;have next:∀{lk t o},Pv.get 1 t= .int .i64 a→Pv.get 3 t= .int .i64 b→Pv.get 4 t= .ptr (.loc 0) 0→Pv.get 16 t= .int .i64 mid→Pv.get 18 t= .int .i64 i→Pv.get 22 t= .int .i64 e→lk.length=n→Dp lt a i m e b mid lk→gl a b l lk→cU al ob DP Q ⟨t,(.loc 0,[.func g lc,.func b7 b1])::(S lk).b,(S lk).e,1,o⟩:=fun ak aB bj de gS hG hU dT ade=>akl H bT ak aB bj de gS hG hU bA J U ae aQ me dT fun gJ t o a6 bu=>hT gJ t o (ade.trans a6) bu
 by_cases oX:i<m∧m<e
 ·simp[t2,t4,t18,t22,oX.1,oX.2,Pv.look];simp only[h6 H,H.slc,H.ssc,h1];refine H.doFn au (acH H l au i m e oX.1 oX.2 (by omega)) (fun a1 h=>by rw[h.1.length];exact au) (by simp[aK,aC,H.kdata au]) ?_;rintro lk ⟨a6,bu⟩;simp;exact next (by simp[t1]) (by simp[t3]) (by simp[t4]) (by simp[t16]) (by simp[t18]) (by simp[t22]) (by rw[a6.length];exact au) (RN lk bu) (a6.mono (by omega) (by omega))
 ·have dT:=RN l (fun k=>by
   congr 1;simp only[hO];repeat' split
   all_goals omega)
  by_cases mh:i<m
  ·have ael:¬m<e:=by omega
   simp[t2,t18,t22,mh,ael];exact next (by simp[t1]) (by simp[t3]) (by simp[t4]) (by simp[t16]) (by simp[t18]) (by simp[t22]) au dT (.refl _)
  ·simp[t2,t18,mh];exact next (by simp[t1]) (by simp[t3]) (by simp[t4]) (by simp[t16]) (by simp[t18]) (by simp[t22]) au dT (.refl _)
theorem VQ{bb:List (aH×List ah)}(H:e0 S n g b7 lc b1 lt)(u0:Pv.look (.loc 0) bb=some [.func g lc,.func b7 b1])(cQ:∀k cs,Pv.look k (S l).b=some cs→Pv.look k bb=some cs)(bC:p6 lt)(bT:Dw S n g b7 lc b1 lt d){s0 r0:Nat}(t1:Pv.get 1 t= .int .i64 a)(t2:Pv.get 2 t= .int .i64 m)(t3:Pv.get 3 t= .int .i64 b)(t4:Pv.get 4 t= .ptr (.loc 0) 0)(t16:Pv.get 16 t= .int .i64 mid)(t17:Pv.get 17 t= .int .i64 ((mid:Int)+m))(t18:Pv.get 18 t= .int .i64 s0)(t19:Pv.get 19 t= .int .i64 r0)(au:l.length=n)(bA:a<m∧m<b∧mid=(a+b)/2)(J:mid<m∧s0=mid+m-b∧r0=mid∨m≤mid∧s0=a∧r0=m)(ae:b≤n)(aQ:b-a≤d+1)(kl:e7 lt a m l)(oY:e7 lt m b l)(hT:Dx S g b7 lc b1 lt a b l Q):
  cU al (cS (S l)) HO Q ⟨t,bb,(S l).e,1,o⟩:=by
 have hle:=H.le;unfold HO;simp[t17];(with_reducible repeat' first|refine aj ?_|simp[t17]);refine nW (fun(x:Nat×Nat)=>⟨[(1,.int .i64 a),(2,.int .i64 m),(3,.int .i64 b),(4,.ptr (.loc 0) 0),(16,.int .i64 mid),(17,.int .i64 (mid+m)),(20,.int .i64 (mid+m-1)),(18,.int .i64 x.1),(19,.int .i64 x.2)],(.loc 0,[.func g lc,.func b7 b1])::(S l).b,(S l).e,1,cS (S l)⟩) (fun x=>x.2-x.1)
  (akG lt l mid m s0 r0) (s0,r0) (H.weak au au (by simp[aC,t1,t2,t3,t4,t16,t17,t18,t19]) u0 cQ fun _ _ h=>h) ⟨by simp,by simp;omega,by simp,.inl rfl,.inl rfl⟩ ?_
 rintro⟨i,j⟩ ⟨aT,bz,b6,dO,cZ⟩ _;simp only at aT bz b6 dO cZ;have oa:=Er i j (by omega);by_cases lR:i<j
 ·simp[lR];(with_reducible repeat' first|refine aj ?_|simp[Pv.look]);obtain⟨c,ax⟩:∃c,c=(i+j)/2:=⟨_,rfl⟩;rw[←ax]at oa;simp only[oa];(with_reducible repeat' first|refine aj ?_|simp[Pv.look]);obtain⟨u,JG⟩:∃u,l[c]? =some u:=⟨_,cf (by omega)⟩;obtain⟨v,JH⟩:∃v,l[mid+m-1-c]? =some v:=⟨_,cf (by omega)⟩;have de:((mid:Int)+m-1-c)=(mid+m-1-c:Nat):=by omega
  simp only[H.slc,de];refine H.doLess au (mid+m-1-c) c JH JG ?_;simp;cases rj:lt v u with
  |false=>simp;(with_reducible repeat' first|refine aj ?_|simp);refine bN.whl (c+1,j) (by simp;omega) ⟨by simp;omega,by simp;omega,b6,.inr ⟨u,v,by simpa using JG,?_,rj⟩,cZ⟩ (H.weakC au au (by simp[aC]));simp only;rw[show mid+m-(c+1)=mid+m-1-c by omega];exact JH
  |true=>simp;(with_reducible repeat' first|refine aj ?_|simp);refine bN.whl (i,c) (by simp;omega) ⟨aT,by simp;omega,by simp;omega,dO,.inr ⟨u,v,JG,?_,rj⟩⟩ (H.weakC au au (by simp[aC]));simp only;rw[show mid+m-c-1=mid+m-1-c by omega];exact JH
 ·obtain rfl:i=j:=by omega
  obtain⟨e,he⟩:∃e,e=mid+m-i:=⟨_,rfl⟩;have gS:((mid:Int)+m-i)=(e:Nat):=by omega
  have bI:i=a∨e=b∨ ∃x y,l[i-1]? =some x∧l[e]? =some y∧lt y x=false:=by
   rcases dO with dO|⟨u,v,a6,bu,bV⟩
   ·omega
   ·exact .inr (.inr ⟨u,v,a6,by rw[he];exact bu,bV⟩)
  have ch:i=m∨e=m∨ ∃x y,l[i]? =some x∧l[e-1]? =some y∧lt y x=true:=by
   rcases cZ with cZ|⟨u,v,a6,bu,bV⟩
   ·omega
   ·exact .inr (.inr ⟨u,v,a6,by rw[he];exact bu,bV⟩)
  simp[lR];(with_reducible repeat' first|refine aj ?_|simp);rw[gS];exact akm H bT (a:=a) (m:=m) (b:=b) (mid:=mid) (i:=i) (e:=e) (by simp) (by simp) (by simp) (by simp) (by simp) (by simp) (by simp) au (by omega) (by omega) (by omega) ae (by omega) (by omega) (fun lk aL=>af6 bC (by omega) (by omega) (by omega) (by omega) (by omega) (by omega) kl oY bI ch aL) hT
end
theorem Q0(H:e0 S n g b7 lc b1 lt)(bC:p6 lt)(d:Nat):∀(l:List α) (a m b:Nat),l.length=n→b-a≤d→a<m→m<b→b≤n→e7 lt a m l→e7 lt m b l→
  bQ al 232 [eS g b7 lc b1,.int .i64 a,.int .i64 m,.int .i64 b] (S l) fun r ai=>r= .tuple []∧∃a1,ai=S a1∧gl a b l a1∧e7 lt a b a1:=by
 induction d with
 |zero=>intro l a m b au aQ Bq vb;omega
 |succ d bT=>
 intro l a m b au aQ Bq vb ae kl oY;have ag:=H.ok l;have aA:∀l m,Pv.look (.loc m) (S l).b=none:=fun l=>(H.ok l).obj.1;have hu:∀l m cs,cx (.loc m) cs (S l).b=(S l).b++[(.loc m,cs)]:=fun l m cs=>jR (aA l m);have aw:∀m,aH.loc m∉cS (S l):=jM ag.obj;have hle:=H.le;refine bQ.mk mixed Aq abr ahR (by simp) ag.obj fun aP cQ=>?_;unfold O0;simp[eS,hu,aw,cI,aA];(with_reducible repeat' first|((first|apply bP|apply bS|apply bR)<;>intro h<;>try simp at h)|refine aj ?_|simp[hu,aw,cI,aA])
 ·obtain rfl:m=a+1:=by omega
  have Ju:∀k,hO a (a+1) (a+1) k=k:=by
   intro k;simp only[hO];repeat' split
   all_goals omega
  obtain⟨z,bD⟩:∃z,l[a]? =some z:=⟨_,cf (by omega)⟩;refine nW (fun(x:Nat×Nat)=>⟨[(1,.int .i64 a),(4,.ptr (.loc 0) 0),(8,.int .i64 x.1),(9,.int .i64 x.2)],(.loc 0,[.func g lc,.func b7 b1])::(S l).b,(S l).e,1,cS (S l)⟩) (fun x=>x.2-x.1)
   (fun x=>a+1≤x.1∧x.1≤x.2∧x.2≤b∧(∀h y,a+1≤h→h<x.1→l[h]? =some y→lt y z=true)∧(∀h y,x.2≤h→h<b→l[h]? =some y→lt y z=false)) (a+1,b)
   (H.weak au au (by simp[aC]) (by simp[cI,aA]) aR aR) ⟨by simp,by simp;omega,by simp,fun h y J U=>by simp at U;omega,fun h y J U=>by simp at J;omega⟩ ?_
  rintro⟨i,j⟩ ⟨aT,bz,b6,dO,cZ⟩ _;simp only at aT bz b6 dO cZ;have hw:=Er i j (by omega);simp[Pv.look];(with_reducible repeat' first|((first|apply bP|apply bS|apply bR)<;>intro h<;>try simp at h)|refine aj ?_|simp[Pv.look])
  ·obtain⟨c,ax⟩:∃c,c=(i+j)/2:=⟨_,rfl⟩;rw[←ax]at hw;obtain⟨y,aG⟩:∃y,l[c]? =some y:=⟨_,cf (by omega)⟩;simp only[hw,H.slc];refine H.doLess au c a aG bD ?_;simp;cases rj:lt y z with
   |true=>
    simp;(with_reducible repeat' first|refine aj ?_|simp);refine bN.whl (c+1,j) (by simp;omega) ⟨by simp;omega,by simp;omega,b6,fun h u J U hu=>?_,cZ⟩ (H.weakC au au (by simp[aC]));cases e:lt u z with
    |true=>rfl
    |false=>simp only at U;have:=bC.ntr _ _ _ e (e7.le bC oY J (by omega) (by omega) hu aG);rw[rj]at this;cases this
   |false=>simp;(with_reducible repeat' first|refine aj ?_|simp);refine bN.whl (i,c) (by simp;omega) ⟨aT,by simp;omega,by simp;omega,dO,fun h u J U hu=>?_⟩ (H.weakC au au (by simp[aC]));exact bC.ntr _ _ _ rj (e7.le bC oY (by omega) J U aG hu)
  ·obtain rfl:i=j:=by omega
   refine nW (fun(x:Nat×List α)=>⟨[(4,.ptr (.loc 0) 0),(8,.int .i64 i),(11,.int .i64 x.1)],(.loc 0,[.func g lc,.func b7 b1])::(S x.2).b,(S x.2).e,1,cS (S l)⟩) (fun x=>i-x.1)
    (fun x=>x.2.length=n∧a≤x.1∧x.1<i∧gl a b l x.2∧∀k,x.2[k]? =l[hO a (a+1) (x.1+1) k]?) (a,l)
    (H.weakC au au (by simp[aC])) ⟨au,by simp,by simp;omega,.refl _,fun k=>by simp[Ju]⟩ ?_
   rintro⟨k,lk⟩ ⟨a6,bu,bV,cW,da⟩ _;simp only at a6 bu bV cW da;simp[Pv.look];((with_reducible repeat' first|refine aj ?_|simp[Pv.look]|((first|apply bP|apply bS|apply bR)<;>intro h<;>try simp at h))<;>(try exact cp))
   ·have bj:((k:Int)+1)=(k+1:Nat):=by omega
    rw[H.ssc,bj];refine H.doSwap a6 k (k+1) (by omega) (by omega) (by omega) ?_;simp;(with_reducible repeat' first|((first|apply bP|apply bS|apply bR)<;>intro h<;>try simp at h)|refine aj ?_|simp);refine bN.whl (k+1,gW lk k (k+1)) (by simp;omega) ⟨by simp[a6],by simp;omega,by simp;omega,.step cW (by omega) (by omega) (by omega) (by omega) (by omega) (by omega),fun t=>?_⟩ (H.weakC au (by simp[a6]) (by simp[aC]));rw[zw _ _ _ _ (by omega) (by omega),da,da,da];have:hO a (a+1) (k+1+1) t=if t=k then hO a (a+1) (k+1) (k+1)else if t=k+1 then hO a (a+1) (k+1) k else hO a (a+1) (k+1) t:=by
     simp only[hO];repeat' split
     all_goals omega
    rw[this];split
    ·rfl
    ·split<;>rfl
   ·obtain rfl:i=k+1:=by omega
    refine H.ret au a6 (.inl rfl) ⟨rfl,lk,rfl,cW,afX bC (by omega) b6 (by omega) oY bD dO cZ da⟩
 ·obtain rfl:b=m+1:=by omega
  have Ju:∀k,hO m m (m+1) k=k:=by
   intro k;simp only[hO];repeat' split
   all_goals omega
  obtain⟨z,bD⟩:∃z,l[m]? =some z:=⟨_,cf (by omega)⟩;refine nW (fun(x:Nat×Nat)=>⟨[(2,.int .i64 m),(4,.ptr (.loc 0) 0),(12,.int .i64 x.1),(13,.int .i64 x.2)],(.loc 0,[.func g lc,.func b7 b1])::(S l).b,(S l).e,1,cS (S l)⟩) (fun x=>x.2-x.1)
   (fun x=>a≤x.1∧x.1≤x.2∧x.2≤m∧(∀h y,a≤h→h<x.1→l[h]? =some y→lt z y=false)∧(∀h y,x.2≤h→h<m→l[h]? =some y→lt z y=true)) (a,m)
   (H.weak au au (by simp[aC]) (by simp[cI,aA]) aR aR) ⟨by simp,by simp;omega,by simp,fun h y J U=>by simp at U;omega,fun h y J U=>by simp at J;omega⟩ ?_
  rintro⟨i,j⟩ ⟨aT,bz,b6,dO,cZ⟩ _;simp only at aT bz b6 dO cZ;have hw:=Er i j (by omega);simp[Pv.look];(with_reducible repeat' first|((first|apply bP|apply bS|apply bR)<;>intro h<;>try simp at h)|refine aj ?_|simp[Pv.look])
  ·obtain⟨c,ax⟩:∃c,c=(i+j)/2:=⟨_,rfl⟩;rw[←ax]at hw;obtain⟨y,aG⟩:∃y,l[c]? =some y:=⟨_,cf (by omega)⟩;simp only[hw,H.slc];refine H.doLess au m c bD aG ?_;simp;cases rj:lt z y with
   |false=>simp;((with_reducible repeat' first|refine aj ?_|simp|((first|apply bP|apply bS|apply bR)<;>intro h<;>try simp at h))<;>(try exact cp));refine bN.whl (c+1,j) (by simp;omega) ⟨by simp;omega,by simp;omega,b6,fun h u J U hu=>?_,cZ⟩ (H.weakC au au (by simp[aC]));simp only at U;exact bC.ntr _ _ _ (e7.le bC kl J (by omega) (by omega) hu aG) rj
   |true=>
    simp;((with_reducible repeat' first|refine aj ?_|simp|((first|apply bP|apply bS|apply bR)<;>intro h<;>try simp at h))<;>(try exact cp));refine bN.whl (i,c) (by simp;omega) ⟨aT,by simp;omega,by simp;omega,dO,fun h u J U hu=>?_⟩ (H.weakC au au (by simp[aC]));cases e:lt z u with
    |true=>rfl
    |false=>have:=bC.ntr _ _ _ (e7.le bC kl (by omega) J U aG hu) e;rw[rj]at this;cases this
  ·obtain rfl:i=j:=by omega
   refine nW (fun(x:Nat×List α)=>⟨[(4,.ptr (.loc 0) 0),(12,.int .i64 i),(15,.int .i64 x.1)],(.loc 0,[.func g lc,.func b7 b1])::(S x.2).b,(S x.2).e,1,cS (S l)⟩) (fun x=>x.1)
    (fun x=>x.2.length=n∧i≤x.1∧x.1≤m∧gl a (m+1) l x.2∧∀k,x.2[k]? =l[hO x.1 m (m+1) k]?) (m,l)
    (H.weakC au au (by simp[aC])) ⟨au,by simp;omega,by simp,.refl _,fun k=>by simp[Ju]⟩ ?_
   rintro⟨k,lk⟩ ⟨a6,bu,bV,cW,da⟩ _;simp only at a6 bu bV cW da;simp[Pv.look];((with_reducible repeat' first|refine aj ?_|simp[Pv.look]|((first|apply bP|apply bS|apply bR)<;>intro h<;>try simp at h))<;>(try exact cp))
   ·have bj:((k:Int)-1)=(k-1:Nat):=by omega
    rw[H.ssc,bj];refine H.doSwap a6 k (k-1) (by omega) (by omega) (by omega) ?_;simp;(with_reducible repeat' first|refine aj ?_|simp);refine bN.whl (k-1,gW lk k (k-1)) (by simp;omega) ⟨by simp[a6],by simp;omega,by simp;omega,.step cW (by omega) (by omega) (by omega) (by omega) (by omega) (by omega),fun t=>?_⟩ (H.weakC au (by simp[a6]) (by simp[aC];omega));rw[zw _ _ _ _ (by omega) (by omega),da,da,da];have:hO (k-1) m (m+1) t=if t=k then hO k m (m+1) (k-1)else if t=k-1 then hO k m (m+1) k else hO k m (m+1) t:=by
     simp only[hO];repeat' split
     all_goals omega
    rw[this];split
    ·rfl
    ·split<;>rfl
   ·obtain rfl:i=k:=by omega
    refine H.ret au a6 (.inl rfl) ⟨rfl,lk,rfl,cW,afY bC (by omega) b6 (by omega) kl bD dO cZ da⟩
 ·obtain⟨mid,Ji⟩:∃mid,mid=(a+b)/2:=⟨_,rfl⟩;have hw:=Er a b (by omega);rw[←Ji]at hw;simp only[hw];(with_reducible repeat' first|((first|apply bP|apply bS|apply bR)<;>intro h<;>try simp at h)|refine aj ?_|simp[hu,aw,cI,aA])
  ·exact VQ (s0:=mid+m-b) (r0:=mid) H (by simp[cI,aA]) aR bC bT (a:=a) (m:=m) (b:=b) (mid:=mid) (by simp) (by simp) (by simp) (by simp) (by simp) (by simp) (by simp;omega) (by simp) au ⟨Bq,vb,Ji⟩ (by omega) ae aQ kl oY fun gJ t o a6 bu=>H.ret au (by rw[a6.length];exact au) (.inr rfl) ⟨rfl,gJ,rfl,a6,bu⟩
  ·exact VQ (s0:=a) (r0:=m) H (by simp[cI,aA]) aR bC bT (a:=a) (m:=m) (b:=b) (mid:=mid) (by simp) (by simp) (by simp) (by simp) (by simp) (by simp) (by simp) (by simp) au ⟨Bq,vb,Ji⟩ (by omega) ae aQ kl oY fun gJ t o a6 bu=>H.ret au (by rw[a6.length];exact au) (.inr rfl) ⟨rfl,gJ,rfl,a6,bu⟩
end Go.Proofs.YtahlgcidhnjlbaaGreat
namespace Go.Proofs.YtahlgcidhnjlbaaGreat
open Go Go.Pv
variable {α:Type} {S:List α→cJ} {n g b7:Nat} {lc b1:List ah} {lt:α→α→Bool}
def oE(lt:α→α→Bool)(z a b:Nat)(l:List α):Prop:= ∀i j x y,a≤i→i<j→j<b→i/z=j/z→l[i]? =some x→l[j]? =some y→lt y x=false
theorem oE.snoc{z q:Nat}(bD:0<z){l a1:List α}(h:oE lt z 0 (q*z) l){b:Nat}(ag:gl (q*z) b l a1)(U:e7 lt (q*z) b a1):oE lt z 0 b a1:=by
 intro i j x y hi lR af aQ ab aG;by_cases RD:j<q*z
 ·rw[ag.out _ (.inl (by omega))]at ab;rw[ag.out _ (.inl RD)]at aG;exact h i j x y hi lR RD aQ ab aG
 ·have ao:q≤j/z:=(Nat.le_div_iff_mul_le bD).2 (by omega);have a8:q*z≤i:=(Nat.le_div_iff_mul_le bD).1 (by omega);exact U i j x y a8 lR af ab aG
theorem oE.srt{z q:Nat}(bD:0<z){l:List α}{a b:Nat}(h:oE lt z a b l){c:Nat}(anY:a≤q*z)(ax:c≤(q+1)*z)(an0:c≤b):e7 lt (q*z) c l:=by intro i j x y hi lR af ab aG;have ht:i/z=q:=Nat.div_eq_of_lt_le hi (by omega);have pA:j/z=q:=Nat.div_eq_of_lt_le (by omega) (by omega);exact h i j x y (by omega) lR (by omega) (by omega) ab aG
theorem oE.after{z a b bn bO:Nat}{l a1:List α}(h:oE lt z a b l)(ag:gl a bn l a1)(bF:a≤bn)(ae:bO≤b):oE lt z bn bO a1:=by intro i j x y hi lR af aQ ab aG;rw[ag.out _ (.inr (by omega))]at ab;rw[ag.out _ (.inr (by omega))]at aG;exact h i j x y (by omega) lR (by omega) aQ ab aG
theorem IL(H:e0 S n g b7 lc b1 lt)(bC:p6 lt)(l:List α)(au:l.length=n):
  bQ al 199 [eS g b7 lc b1,.int .i64 n] (S l) fun r ai=>r= .tuple []∧∃a1,ai=S a1∧gl 0 n l a1∧e7 lt 0 n a1:=by
 have ag:=H.ok l;have aA:∀l m,Pv.look (.loc m) (S l).b=none:=fun l=>(H.ok l).obj.1;have hu:∀l m cs,cx (.loc m) cs (S l).b=(S l).b++[(.loc m,cs)]:=fun l m cs=>jR (aA l m);have aw:∀m,aH.loc m∉cS (S l):=jM ag.obj;have hle:=H.le;refine bQ.mk mixed Aq abp ahP (by simp) ag.obj fun aP cQ=>?_;unfold OY;simp[eS,hu,aw,cI,aA];refine nW (fun(x:Nat×List α)=>⟨[(1,.int .i64 n),(2,.ptr (.loc 0) 0),(4,.int .i64 20),(5,.int .i64 (x.1*20)),(6,.int .i64 (x.1*20+20))],(.loc 0,[.func g lc,.func b7 b1])::(S x.2).b,(S x.2).e,1,cS (S l)⟩) (fun x=>n+20-x.1*20)
  (fun x=>x.2.length=n∧x.1*20≤n∧gl 0 n l x.2∧oE lt 20 0 (x.1*20) x.2) (0,l)
  (H.weak au au (by simp[aC]) (by simp[cI,aA]) aR aR) ⟨au,by simp,.refl _,fun i j x y J U ao=>by simp at ao⟩ ?_
 rintro⟨q,lk⟩ ⟨J,U,ao,a8⟩ _;simp only at J U ao a8;simp[Pv.look];((with_reducible repeat' first|refine aj ?_|simp[Pv.look]|((first|apply bP|apply bS|apply bR)<;>intro h<;>try simp at h))<;>(try exact cp))
 ·have ak:((q:Int)*20)=(q*20:Nat):=by omega
  have aB:((q:Int)*20+20)=(q*20+20:Nat):=by omega
  simp only[h6 H,H.slc,H.ssc,h1,aB];simp only[ak];refine H.doFn J (QT H bC lk J (q*20) (q*20+20) (by omega) (by omega)) (fun a1 h=>by rw[h.1.length];exact J) (by simp[aK,aC,H.kdata J]) ?_;rintro a1 ⟨cM,dn⟩;have si:a1.length=n:=by rw[cM.length];exact J
  simp;((with_reducible repeat' first|refine aj ?_|simp|((first|apply bP|apply bS|apply bR)<;>intro h<;>try simp at h))<;>(try exact cp));refine bN.whl (q+1,a1) (by simp;omega) ⟨si,by simp;omega,ao.trans (cM.mono (by omega) (by omega)),?_⟩ (H.weakC au si (by simp[aC];omega));have:=a8.snoc (by omega) cM dn;rwa[show q*20+20=(q+1)*20 by omega]at this
 ·have ak:((q:Int)*20)=(q*20:Nat):=by omega
  simp only[h6 H,H.slc,H.ssc,h1,ak];refine H.doFn J (QT H bC lk J (q*20) n (by omega) (by omega)) (fun a1 h=>by rw[h.1.length];exact J) (by simp[aK,aC,H.kdata J]) ?_;rintro a1 ⟨cM,dn⟩;have si:a1.length=n:=by rw[cM.length];exact J
  have fw:=a8.snoc (by omega) cM dn;simp;refine nW (fun(x:Nat×List α)=>⟨[(1,.int .i64 n),(2,.ptr (.loc 0) 0),(4,.int .i64 x.1)],(.loc 0,[.func g lc,.func b7 b1])::(S x.2).b,(S x.2).e,1,cS (S l)⟩) (fun x=>1099511627776-x.1)
   (fun x=>x.2.length=n∧20≤x.1∧x.1≤2*n+20∧gl 0 n l x.2∧oE lt x.1 0 n x.2) (20,a1)
   (H.weakC au si (by simp[aC])) ⟨si,by simp,by simp,ao.trans (cM.mono (by omega) (by omega)),fw⟩ ?_
  rintro⟨z,Tw⟩ ⟨kN,z2,z3,z4,z5⟩ _;simp only at kN z2 z3 z4 z5;simp[Pv.look];((with_reducible repeat' first|refine aj ?_|simp[Pv.look]|((first|apply bP|apply bS|apply bR)<;>intro h<;>try simp at h))<;>(try exact cp))
  ·refine nW (fun(x:Nat×List α)=>⟨[(1,.int .i64 n),(2,.ptr (.loc 0) 0),(4,.int .i64 z),(5,.int .i64 (x.1*(2*z):Nat)),(6,.int .i64 (x.1*(2*z)+2*z:Nat))],(.loc 0,[.func g lc,.func b7 b1])::(S x.2).b,(S x.2).e,1,cS (S l)⟩) (fun x=>n+2*z-x.1*(2*z))
    (fun x=>x.2.length=n∧x.1*(2*z)≤n∧gl 0 n l x.2∧oE lt (2*z) 0 (x.1*(2*z)) x.2∧oE lt z (x.1*(2*z)) n x.2) (0,Tw)
    (H.weakC au kN (by simp[aC])) ⟨kN,by simp,z4,fun i j x y J U ao=>by simp at ao,by simpa using z5⟩ ?_
   rintro⟨p,Ce⟩ ⟨eD,du,oA,mz,Dg⟩ _;simp only at eD du oA mz Dg;obtain⟨A,bg⟩:∃A,A=p*(2*z):=⟨_,rfl⟩;have Em:A=(2*p)*z:=by rw[bg,Nat.mul_comm 2 p,Nat.mul_assoc]
   have IS:(2*p+1)*z=A+z:=by rw[pj,←Em,Nat.one_mul]
   have ac0:(2*p+2)*z=A+2*z:=by rw[pj,←Em]
   have yO:(p+1)*(2*z)=A+2*z:=by rw[pj,←bg,Nat.one_mul]
   have kl:∀c,c≤A+z→c≤n→e7 lt A c Ce:=fun c ax yU=>by have:=oE.srt (q:=2*p) (by omega) Dg (c:=c) (by rw[←Em,bg];omega) (by rw[IS];exact ax) yU;rwa[←Em]at this
   have oY:∀c,c≤A+2*z→c≤n→e7 lt (A+z) c Ce:=fun c ax yU=>by have:=oE.srt (q:=2*p+1) (by omega) Dg (c:=c) (by rw[IS,bg];omega) (by rw[ac0];exact ax) yU;rwa[IS]at this
   rw[←bg]at du mz Dg;simp only[←bg];simp[Pv.look];((with_reducible repeat' first|refine aj ?_|simp[Pv.look]|((first|apply bP|apply bS|apply bR)<;>intro h<;>try simp at h))<;>(try exact cp))
   ·have bj:((A:Int)+z)=(A+z:Nat):=by omega
    have de:((A:Int)+2*z)=(A+2*z:Nat):=by omega
    simp only[h6 H,H.slc,H.ssc,h1,bj,de];refine H.doFn eD (Q0 H bC (A+2*z-A) Ce A (A+z) (A+2*z) eD (by omega) (by omega) (by omega) (by omega) (kl _ (by omega) (by omega)) (oY _ (by omega) (by omega))) (fun a1 h=>by rw[h.1.length];exact eD) (by simp[aK,aC,H.kdata eD]) ?_;rintro gJ ⟨ku,oB⟩;have n3:gJ.length=n:=by rw[ku.length];exact eD
    simp;(with_reducible repeat' first|refine aj ?_|simp);refine bN.whl (p+1,gJ) (by simp only[yO,←bg];omega) ⟨n3,by simp only[yO];omega,oA.trans (ku.mono (by omega) (by omega)),?_,?_⟩ ?_
    ·simp only[yO];rw[bg]at mz ku oB;have:=mz.snoc (by omega) ku oB;rwa[←bg]at this
    ·simp only[yO];exact Dg.after ku (by omega) (by omega)
    ·simp only[yO];have ac1:((p:Int)+1)*(2*(z:Int))=(A:Int)+2*z:=by have h:=e5 (Nat.cast:Nat→Int) yO;push_cast at h;exact h
     exact H.weakC au n3 (by simp[aC,ac1])
   ·have bj:((A:Int)+z)=(A+z:Nat):=by omega
    simp only[h6 H,H.slc,H.ssc,h1,bj];refine H.doFn eD (Q0 H bC (n-A) Ce A (A+z) n eD (by omega) (by omega) (by omega) (by omega) (kl _ (by omega) (by omega)) (oY _ (by omega) (by omega))) (fun a1 h=>by rw[h.1.length];exact eD) (by simp[aK,aC,H.kdata eD]) ?_;rintro gJ ⟨ku,oB⟩;have n3:gJ.length=n:=by rw[ku.length];exact eD
    simp;((with_reducible repeat' first|refine aj ?_|simp|((first|apply bP|apply bS|apply bR)<;>intro h<;>try simp at h))<;>(try exact cp));refine bN.whl (2*z,gJ) (by simp;omega) ⟨n3,by simp;omega,by simp;omega,oA.trans (ku.mono (by omega) (by omega)),?_⟩ (H.weakC au n3 (by simp[aC];omega));rw[bg]at mz ku oB;exact mz.snoc (by omega) ku oB
   ·refine bN.whl (2*z,Ce) (by simp;omega) ⟨eD,by simp;omega,by simp;omega,oA,?_⟩ (H.weakC au eD (by simp[aC];omega));have bZ:=kl n (by omega) (by omega);rw[bg]at mz bZ;exact mz.snoc (by omega) (.refl _) bZ
  ·refine H.ret au kN (.inr rfl) ?_;refine⟨rfl,Tw,rfl,z4,fun i j x y J U ao=>z5 i j x y J U ao ?_⟩;rw[Nat.div_eq_of_lt (by omega),Nat.div_eq_of_lt (by omega)]
end Go.Proofs.YtahlgcidhnjlbaaGreat
namespace Go.Proofs.YtahlgcidhnjlbaaGreat
open Go Go.Pv Go.Sort Go.RowKit
theorem aee{w:World}{base:Nat}{e:fT}{sz:Nat}{v:Value}{n:Nat}{us:List Value}(h:w.ownsRow base e sz v n us)(aJ:v≠ .slice none 0 0):
  ∃g cap,v= .slice (some ⟨g,0,none⟩) n cap∧g<w.heap.size∧cap≤maxLen∧n≤cap∧us.length=n*sz∧Holds id w g 0 us.toArray:=by
 rcases h.2 with⟨fj,_⟩|⟨g,cap,cur,rfl,ae,a7,aA,hm,ag,aN⟩
 ·exact absurd fj aJ
 ·have bC:g<w.heap.size:=by
   rcases Nat.lt_or_ge g w.heap.size with cr|cr
   ·exact cr
   ·rw[Array.getElem?_eq_none cr]at a7;cases a7
  refine⟨g,cap,rfl,bC,hm,aA,h.1,fun j af=>?_⟩;have jf:j<us.length:=by simpa using af
  have au:=h.1;refine⟨?_,by simp[World.frozen?,a7]⟩;have ak:(cur.toList.take (n*sz))[j]? =us[j]?:=by rw[aN]
  rw[List.getElem?_take,if_pos (by omega),sV,cf jf]at ak;simp only[World.cell?,a7,Nat.zero_add];simp only[j6,gP,if_false];rw[ak];simp[getElem!_pos,jf]
theorem ait{w:World}{base:Nat}{e:fT}{sz g n cap q:Nat}{us:List Value}{F:Array Value}(h:w.ownsRow base e sz (.slice (some ⟨g,0,none⟩) n cap) n us)(gg:F.size=n*sz):
  (putRow id (Sort.ahead w q) g 0 F).ownsRow base e sz (.slice (some ⟨g,0,none⟩) n cap) n F.toList:=by
 rcases h.2 with⟨fj,_⟩|⟨fb,DW,cur,fj,ae,a7,aA,hm,ag,aN⟩
 ·cases fj
 ·injection fj with ak _ bj;injection ak with ak;injection ak with ak;subst ak;subst bj;refine⟨by simpa using gg,.inr ⟨g,cap,putCells id 0 F cur,rfl,ae,?_,aA,hm,by simpa[putCells]using ag,?_⟩⟩
  ·simp[putRow,mapBlock,Sort.ahead,Array.getElem?_modify,a7,onCells]
  ·have hle:n*sz≤cur.size:=by rw[ag];exact Nat.mul_le_mul_right _ aA
   apply List.ext_getElem?;intro j;rw[List.getElem?_take,sV,sV];by_cases af:j<n*sz
   ·have adK:j<cur.size:=by omega
    simp only[if_pos af,putCells,Array.getElem?_mapIdx,Array.getElem?_eq_getElem adK,nM];rw[if_pos (by omega)];simp[getElem!_pos,show j<F.size by omega]
   ·simp[af];omega
end Go.Proofs.YtahlgcidhnjlbaaGreat
namespace Go.Pv
open Go Go.RowKit Go.Lib Go.Sort Go.Proofs.YtahlgcidhnjlbaaGreat
theorem S0{S:aH→Prop}:∀{l:List ah},aK S l↔∀x∈l,aC S x
 |[]=>by simp[aK]
 |x::r=>by simp only[aK,S0 (l:=r),fU,forall_eq_or_imp]
theorem SP{α:Type}{s:cJ}{l:List (aH×α)}:lY s l↔∀k,(look k l).isSome→inObs s k:=by
 refine⟨fun h k ad=>zp h k ad,fun h=>?_⟩;have:∀a1:List (aH×α),(∀x∈a1,inObs s x.1)→lY s a1:=by
  intro a1;induction a1 with
  |nil=>intro _;trivial
  |cons x r bT=>obtain⟨k,x⟩:=x;exact fun h=>⟨h (k,x) (by simp),bT fun y aG=>h y (by simp[aG])⟩
 exact this l fun x ab=>h x.1 (tT (x:=x.2) ab)
theorem Lz{w:World}{ν:bd}{sz:Nat}:∀{xs:List ah} {us:List Value} {i:Nat} {p:ah},dy w ν sz xs us→xs[i]? =some p→∃u,(us.drop (i*sz)).take sz=u.cells.toList∧ba w ν p u∧u.cells.size=sz∧∀c∈u.cells.toList,c.oneCell'=true
 |[],_,_,_,_,bJ=>by simp at bJ
 |x::xs,us,0,p,h,bJ=>by simp only[dy]at h;obtain⟨u,cg,rfl,⟨J,U,ao⟩,_⟩:=h;simp at bJ;subst bJ;refine⟨u,?_,J,U,ao⟩;simp only[Nat.zero_mul,List.drop_zero];rw[List.take_append_of_le_length (by simp[U])];exact hl (by simp[U])
 |x::xs,us,i+1,p,h,bJ=>by simp only[dy]at h;obtain⟨u,cg,rfl,⟨J,U,ao⟩,bZ⟩:=h;obtain⟨v,ak,aB⟩:=Lz (i:=i) bZ (by simpa using bJ);refine⟨v,?_,aB⟩;rw[←ak,Nat.succ_mul,Nat.add_comm,←List.drop_drop];congr 2;rw[List.drop_append_of_le_length (by simp[U]),List.drop_of_length_le (by simp[U])];rfl
theorem LR:∀(bc:List Value) (s:Nat) (F:Array Value),s+bc.length≤F.size→(setMany F s bc).toList=F.toList.take s++bc++F.toList.drop (s+bc.length)
 |[],s,F,h=>by simp[setMany]
 |v::r,s,F,h=>by
  simp only[p2]at h;rw[setMany,LR r (s+1) _ (by simp;omega)];have bC:s<F.toList.length:=by simp;omega
  have ak:(F.setIfInBounds s v).toList=F.toList.set s v:=by simp
  rw[ak];have aB:(F.toList.set s v).take (s+1)=F.toList.take s++[v]:=by rw[List.take_succ,List.getElem?_set_self bC,List.take_set_of_le (eR _)];simp
  have bj:(F.toList.set s v).drop (s+1+r.length)=F.toList.drop (s+(v::r).length):=by rw[List.drop_set_of_lt (by omega)];congr 1;simp;omega
  rw[aB,bj];simp
theorem XH(w:World):Sort.ahead w 0=w:=by simp[Sort.ahead]
theorem QZ{P:cC}(wM:Bool)(b7:Nat)(ab:∀args W,(callFunc b7 args).run P W=((Dm wM args).run P W).andThen fun v w'=>.ok (.value v) w')(e:fT)(ej:TypeInfo)(sf:P.info? e=some ej)(wQ:(∀w,(Go.isAgg e).run P w= .ok true w)∨(ej.size=1∧∀w,(Go.isAgg e).run P w= .ok false w)){s:cJ}(ag:eo s){K n el sz:Nat}(ef:ej.size=sz){xs:List ah}(ad:look (.obj K) s.e=some ⟨n,el,sz,some xs⟩)
  (i j:Nat) (hi:i<n) (af:j<n):bQ P b7 [.int .i64 i,.int .i64 j,.row sz (.obj K) n,.cst (typeHandle P e)] s fun r ai=>r= .tuple []∧ai=⟨s.b,cx (.obj K) ⟨n,el,sz,some (gW xs i j)⟩ s.e⟩:=by
 subst ef;refine bQ.sem ag.obj fun w ν bc kH aL=>?_;right;have s0:=aL.slot 0;have s1:=aL.slot 1;have s2:=aL.slot 2;have s3:=aL.slot 3;simp[j2,get,ba]at s0 s1 s2 s3;obtain⟨v,us,a6,bu,bV,cW⟩:=aL.good.own (.obj K) _ ad;obtain⟨da,nB,uc⟩:=cW _ rfl;simp only at da nB a6 bu;obtain⟨⟨g0,Yb,u0⟩,_,n',e4,ak,aB,bj⟩:=s2;rw[a6]at ak;simp only[dG,jj]at ak;obtain⟨rfl,rfl⟩:=ak;have aJ:=bj rfl;have cF:v≠ .slice none 0 0:=by rw[←aJ,u0];simp
 obtain⟨g,cap,rfl,qn,q6,adC,Bw,Bl⟩:=aee bu cF;have aeE:bc= #[.int .i64 i,.int .i64 j,.slice (some ⟨g,0,none⟩) n cap,typeHandle P e]:=by
  have J:bc.size=4:=by simpa using kH
  apply Array.ext (by simpa using J);intro t U ao;simp at ao;rcases(by omega:t=0∨t=1∨t=2∨t=3)with rfl|rfl|rfl|rfl
  ·simpa[Array.getD,J]using s0
  ·simpa[Array.getD,J]using s1
  ·simpa[Array.getD,J]using aJ
  ·simpa[Array.getD,J]using s3
 subst aeE;obtain⟨p,bJ⟩:∃p,xs[i]? =some p:=⟨_,cf (by omega)⟩;obtain⟨q,bo⟩:∃q,xs[j]? =some q:=⟨_,cf (by omega)⟩;obtain⟨u,h7,iK,pV,x7⟩:=Lz nB bJ;obtain⟨x,rN,x9,rO,GZ⟩:=Lz nB bo;have RO:i*ej.size+ej.size≤n*ej.size:=by have:=Nat.mul_le_mul_right ej.size (show i+1≤n from hi);rwa[pj,Nat.one_mul]at this
 have RP:j*ej.size+ej.size≤n*ej.size:=by have:=Nat.mul_le_mul_right ej.size (show j+1≤n from af);rwa[pj,Nat.one_mul]at this
 have cell:∀t v,us[t]? =some v→w.cell? ⟨g,t,none⟩=some v:=fun t v aN=>by obtain⟨J,U⟩:=fL.1 aN;have:=(Bl t (by simpa using J)).1;simp at this;rw[this];simp[getElem!_pos,J,U]
 have Eg:∀t,t<n*ej.size→w.frozen? ⟨g,t,none⟩=false:=fun t aN=>by have:=(Bl t (by simpa[Bw]using aN)).2;simpa using this
 have run:(Dm wM #[.int .i64 i,.int .i64 j,.slice (some ⟨g,0,none⟩) n cap,typeHandle P e]).run P w= .ok (.tuple #[]) ((w.setCells g (0+i*ej.size) x.cells.toList).setCells g (0+j*ej.size) u.cells.toList):=by
  rcases wQ with wQ|⟨Ek,wQ⟩
  ·exact run_swap_cells (P:=P) wM e ej sf wQ g 0 n cap i j hi af u.cells.toList x.cells.toList (by simp[pV]) (by simp[rO]) x7 GZ w
     (fun k v aJ=>by
      rw[←h7,List.getElem?_take]at aJ;split at aJ
      ·rw[List.getElem?_drop]at aJ;simpa using cell _ _ aJ
      ·cases aJ)
     (fun k v aJ=>by
      rw[←rN,List.getElem?_take]at aJ;split at aJ
      ·rw[List.getElem?_drop]at aJ;simpa using cell _ _ aJ
      ·cases aJ)
     (fun k ad=>by simpa using Eg (i*ej.size+k) (by omega)) (fun k ad=>by simpa using Eg (j*ej.size+k) (by omega))
  ·rw[Ek]at h7 pV rN rO⊢;obtain⟨D0,I2⟩:∃c,u.cells.toList=[c]:=List.length_eq_one_iff.1 (by simpa using pV);obtain⟨oM,ll⟩:∃c,x.cells.toList=[c]:=List.length_eq_one_iff.1 (by simpa using rO);rw[I2]at h7 x7⊢;rw[ll]at rN GZ⊢;simp only[World.setCells,Nat.mul_one]at h7 rN⊢;have Q2:us[i]? =some D0:=by have:=e5 (·[0]?) h7;simpa using this
   have Q4:us[j]? =some oM:=by have:=e5 (·[0]?) rN;simpa using this
   have:=run_swap_one (P:=P) wM e ej sf Ek wQ g 0 n cap i j hi af D0 oM (x7 D0 (by simp)) (GZ oM (by simp)) w (by simpa using cell i D0 Q2) (by simpa using cell j oM Q4) (by simpa using Eg i (by rw[Ek];omega)) (by simpa using Eg j (by rw[Ek];omega));simpa using this
 have aeG:putRow id w g 0 us.toArray=w:=putRow_self id w g 0 _ Bl;have aex:us.toArray.size=n*ej.size:=by simpa using Bw
 have ET:w.setCells g (0+i*ej.size) x.cells.toList=putRow id w g 0 (setMany us.toArray (i*ej.size) x.cells.toList):=by have J:=setCells_putRow w g 0 x.cells.toList (i*ej.size) us.toArray (by simp[rO,Bw];exact RO);rw[aeG]at J;exact J
 obtain⟨hY,mL⟩:∃hY,hY=setMany us.toArray (i*ej.size) x.cells.toList:=⟨_,rfl⟩;have ac6:hY.toList=us.take (i*ej.size)++x.cells.toList++us.drop (i*ej.size+ej.size):=by rw[mL,LR _ _ _ (by simp[rO,Bw];exact RO)];simp[rO]
 have IU:hY.size=n*ej.size:=by rw[mL,size_setMany];exact aex
 have oa:(w.setCells g (0+i*ej.size) x.cells.toList).setCells g (0+j*ej.size) u.cells.toList=putRow id w g 0 (setMany hY (j*ej.size) u.cells.toList):=by rw[ET,←mL,setCells_putRow w g 0 u.cells.toList (j*ej.size) hY (by simp[pV,IU];exact RP)]
 obtain⟨h9,Bk⟩:∃h9,h9=setMany hY (j*ej.size) u.cells.toList:=⟨_,rfl⟩;have ac7:h9.toList=hY.toList.take (j*ej.size)++u.cells.toList++hY.toList.drop (j*ej.size+ej.size):=by rw[Bk,LR _ _ _ (by simp[pV,IU];exact RP)];simp[pV]
 have ac8:h9.size=n*ej.size:=by rw[Bk,size_setMany];exact IU
 have dI:=Gf nB bJ x9 rO GZ;rw[←ac6]at dI;have eY:=Gf (i:=j) (q:=q) dI (by rw[List.getElem?_set];split;(rename_i e;subst e;rw[if_pos (by omega)]);exact bo) iK pV x7;rw[←ac7]at eY;have BS:(xs.set i q).set j p=gW xs i j:=by simp[gW,bJ,bo]
 rw[BS]at eY;have hlen:(gW xs i j).length=n:=by simpa using da
 have lp:=ait (q:=0) (F:=h9) bu ac8;rw[XH]at lp;obtain⟨ku,oB,_⟩:=aL.setRowM (w':=putRow id w g 0 h9) ad rfl a6 (bl:=g) rfl (v':= .slice (some ⟨g,0,none⟩) n cap) rfl (xs':=gW xs i j) (us:=h9.toList) (.inl ⟨hlen,rfl⟩) rfl rfl rfl
  (fun t aN=>by simp[putRow,mapBlock,Array.getElem?_modify,kP aN]) (by simp[putRow,mapBlock]) (by rw[hlen];exact lp) eY
 refine⟨.tuple #[],putRow id w g 0 h9,?_,?_⟩
 ·rw[ab,run,oa,←Bk];rfl
 ·have je:∀k,inObs ⟨s.b,cx (.obj K) ⟨n,el,ej.size,some (gW xs i j)⟩ s.e⟩ k↔inObs s k:=fun k=>by
   unfold inObs;simp only[iG];by_cases c9:aH.obj K=k
   ·subst c9;simp[ad]
   ·simp[c9]
  refine⟨_,_,_,_,.tuple [],⟨s.b,cx (.obj K) ⟨n,el,ej.size,some (gW xs i j)⟩ s.e⟩,rfl,ku,by simp[ba,cN],SP.2 fun k nv=>(je k).2 (.inl nv),SP.2 fun k nv=>(je k).2 (.inr nv),fun k cs ax=>⟨ax,(je k).2 (.inl (by simp at ax;simp[ax])),jJ (fun k h=>(je k).2 h) _ (ag.kb k cs ax)⟩,fun k o aw=>⟨by simpa[hlen]using aw,?_,fun ys aG=>?_⟩,⟨ag.obj.1,fun m=>?_⟩,by simp[aC,aK],rfl,rfl⟩
  ·exact(.inr (by simp at aw;simp[aw]))
  ·simp only[iG]at aw;split at aw
   ·cases aw;simp only[dG]at aG;subst aG;have RI:=ag.ke _ _ ad xs rfl;refine jJ (fun k h=>(je k).2 h) _ ?_;rw[S0]at RI⊢;exact fun z bD=>RI z ((Tv xs i j).mem_iff.1 bD)
   ·exact jJ (fun k h=>(je k).2 h) _ (ag.ke k o aw ys aG)
  ·simp only[iG];simp[ag.obj.2 m]
theorem QY{P:cC}(wM:Bool)(b7:Nat)(ab:∀args W,(callFunc b7 args).run P W=((Dm wM args).run P W).andThen fun v w'=>.ok (.value v) w')(e:fT)(ej:TypeInfo)(sf:P.info? e=some ej)(wQ:∀w,(Go.isAgg e).run P w= .ok true w){s:cJ}(ag:eo s){K n el sz:Nat}(ef:ej.size=sz){xs:List ah}(ad:look (.obj K) s.e=some ⟨n,el,sz,some xs⟩)
  (i j:Nat) (hi:i<n) (af:j<n):bQ P b7 [.int .i64 i,.int .i64 j,.row sz (.obj K) n,.cst (typeHandle P e)] s fun r ai=>r= .tuple []∧ai=⟨s.b,cx (.obj K) ⟨n,el,sz,some (gW xs i j)⟩ s.e⟩:=QZ wM b7 ab e ej sf (.inl wQ) ag ef ad i j hi af
end Go.Pv
namespace Go.Proofs.YtahlgcidhnjlbaaGreat
open Go Go.RowKit Go.Lib Go.Sort Go.Pv
set_option maxRecDepth 100000 in
theorem akf(t e:fT)(i ej:TypeInfo)(hi:al.info? t=some i)(aQ:i.desc= .slice e)(BL:al.packed t=false)(sf:al.info? e=some ej)(ke:Nat)(tE:∀w,(Xc e).run al w= .ok ke w)
  (p:aY Addr) (n c:Nat) (aA:n<4611686018427387904) (f:Nat) (aI:al.funcs.findIdx? (·.name== "internal/reflectlite" ++ ".Swapper$" ++toString (swapperK n ej ke))=some f) (Tr:Fn) (J5 qx:Array Value) (w:World) (R:World→Prop)
  (bJ:Calls al 199 #[.agg #[.func Tr J5 qx,.func (.func f) #[] (sliceBound al e ej ke p n c)],.int .i64 n] ((w.alloc (.cells #[.slice p n c] t)).alloc (.cells #[typeHandle al t,.pointer (some ⟨w.heap.size,0,none⟩),.int .u64 151] 179)) fun e w'=>e= .returned (.tuple #[])∧R w'):
  Calls al 140 #[.iface t (.slice p n c),.func Tr J5 qx] w fun e w'=>e= .returned (.tuple #[])∧R w':=by
 have aJ:=run_valueOf_slice (P:=al) t e i hi aQ p n c w;have ag:=fun w=>run_swapper_slice (P:=al) t e i ej hi aQ sf ke tE p n c f aI w;have au:=fun a w bF=>run_valueLen_slice (P:=al) t e i hi aQ BL a p n c w bF;unfold sliceBound at bJ;generalize (if swapperK n ej ke≤2 then(#[]:Array Value)else #[.slice p n c,typeHandle al e])=B at ag bJ;have adF:al.globals.size=0:=by kernel_rfl
 simp only[typeHandle,adF]at aJ au bJ;have D3:∀args w,(callFunc 199 args).run al w= .ok (.enter 199 args) w:=enters_of Tryz.func199 (by kernel_rfl) rfl;go_enter Tryz.func140,Tryz.ntmps140;go_wp2;rw[run_callFunc_extern Tryz.func197 (by kernel_rfl) (by kernel_rfl) (by kernel_rfl) (e:=fun args=>amx (args.getD 0 (.tuple #[]))) (by kernel_rfl),
  show Sem.run al ((fun args:Array Value=>amx (args.getD 0 (.tuple #[]))) #[.iface t (.slice p n c)]) w=_ from aJ]
 simp only[Result.andThen];rw[Oper.upon_value];go_wp2;rw[run_callFunc_extern Tryz.func198 (by kernel_rfl) (by kernel_rfl) (by kernel_rfl) (e:=arQ "internal/reflectlite" (amy "Swapper")) (by kernel_rfl),ag];simp only[Result.andThen];rw[Oper.upon_value];go_wp2;rw[run_callFunc_extern Tryz.func200 (by kernel_rfl) (by kernel_rfl) (by kernel_rfl) (e:=arS (amy "reflectlite.Value.Len" 0) arR) (by kernel_rfl),
  au _ _ (by simp)]
 simp only[Result.andThen];rw[Oper.upon_value];go_wp2_with (go_at_fn 199;refine bJ.mono ?_;rintro e w' ⟨rfl,bh⟩);go_end0;exact⟨rfl,bh⟩
theorem _root_.Go.Pv.Good.prMono{pr CF:Nat→Prop}{w:World}{ν:bd}{b:List (aH×List ah)}{e:List (aH×fM)}(h:Pv.Good pr w ν b e)(bJ:∀bl,pr bl→fu ν ⟨b,e⟩ bl→CF bl):Pv.Good CF w ν b e:=by
 refine⟨h.alt,fun k cs ad=>?_,h.inj,fun g o a7=>?_,h.oinj,h.obx,h.one,h.otr⟩
 ·obtain⟨bl,us,el,f1,f2,f3⟩:=h.box k cs ad;exact⟨bl,us,el,f1,bJ bl f2 (.inl ⟨k,by simp[ad],f1⟩),f3⟩
 ·obtain⟨v,us,f1,f2,f3,f4⟩:=h.own g o a7;exact⟨v,us,f1,f2,fun bl ae=>⟨bJ bl (f3 bl ae).1 (.inr ⟨g,o.n,v,by simp[a7],f1,ae⟩),(f3 bl ae).2⟩,f4⟩
theorem Q5(w:World)(gK gB:Obj):w.grownBy ((w.alloc gK).alloc gB) none:=by
 have J:w.heap.size≤(w.alloc gK).heap.size:=by simp
 have U:(w.alloc gK).heap.size≤((w.alloc gK).alloc gB).heap.size:=by simp
 exact⟨rfl,rfl,rfl,j4 J U,fun k ad _=>(Below.heap_alloc _ gB k (Nat.lt_of_lt_of_le ad J)).trans (Below.heap_alloc w gK k ad)⟩
def dM{α:Type}(e:α→ah)(K B el sz:Nat)(l:List α):cJ:=⟨[(.obj B,[.row sz (.obj K) l.length])],[(.obj K,⟨l.length,el,sz,some (l.map e)⟩)]⟩
section
variable {α:Type} {e:α→ah} (he:∀S x,aC S (e x)) {K B el sz:Nat}
include he
theorem afp(S:aH→Prop)(l:List α):aK S (l.map e):=by
 induction l with
 |nil=>simp[aK]
 |cons x r bT=>simp only[gE,aK];exact⟨he S x,bT⟩
theorem wo(l:List α):eo (dM e K B el sz l):=by unfold dM;refine eo.of ⟨by intro m;simp[Pv.look],by intro m;simp[Pv.look]⟩ (by simp[aK,aC,inObs,Pv.look]) ?_;intro x ab xs h4;simp at ab;subst ab;simp at h4;subst h4;exact afp he _ l
omit he in
theorem wq(l a1:List α):Same (dM e K B el sz l) (dM e K B el sz a1):=by
 refine⟨fun k=>?_,fun k=>?_⟩
 ·simp only[dM,Pv.look];split<;>rfl
 ·simp only[dM,Pv.look];split<;>rfl
theorem acm(t:fT)(i ej:TypeInfo)(hi:al.info? t=some i)(aQ:i.desc= .slice el)(BL:al.packed t=false)(sf:al.info? el=some ej)(ke:Nat)(tE:∀w,(Xc el).run al w= .ok ke w)(r9:∀n,2≤n→swapperK n ej ke=9)
  (g:Nat) (lt:α→α→Bool) (bC:p6 lt) (l:List α) (au:l.length≤68719476736)
  (w6:∀a1:List α,a1.length=l.length→∀(i j:Nat) x y,a1[i]? =some x→a1[j]? =some y→bQ al g [.int .i64 i,.int .i64 j,.ptr (.obj B) 0] (dM e K B el sz a1) fun r ai=>r= .bool (lt x y)∧ai=dM e K B el sz a1)
  (ze:∀a1:List α,a1.length=l.length→∀i j:Nat,i<l.length→j<l.length→bQ al 230 [.int .i64 i,.int .i64 j,.row sz (.obj K) l.length,.cst (typeHandle al el)] (dM e K B el sz a1) fun r ai=>r= .tuple []∧ai=dM e K B el sz (gW a1 i j)):
  bQ al 140 [.iface t (.row sz (.obj K) l.length),.func g [.ptr (.obj B) 0]] (dM e K B el sz l) fun r ai=>r= .tuple []∧∃a1,ai=dM e K B el sz a1∧a1.Perm l∧a1.Pairwise fun x y=>lt y x=false:=by
 have Bt:al.funcs.findIdx? (·.name== "internal/reflectlite" ++ ".Swapper$" ++toString 1)=some 222:=by kernel_rfl
 have tx:al.funcs.findIdx? (·.name== "internal/reflectlite" ++ ".Swapper$" ++toString 2)=some 223:=by kernel_rfl
 have I7:al.funcs.findIdx? (·.name== "internal/reflectlite" ++ ".Swapper$" ++toString 9)=some 230:=by kernel_rfl
 have JA:∃f b1,al.funcs.findIdx? (·.name== "internal/reflectlite" ++ ".Swapper$" ++toString (swapperK l.length ej ke))=some f∧(b1=(if swapperK l.length ej ke≤2 then []else [ah.row sz (.obj K) l.length,.cst (typeHandle al el)]))∧
   bQ al 199 [eS g f [.ptr (.obj B) 0] b1,.int .i64 l.length] (dM e K B el sz l) fun r ai=>r= .tuple []∧∃a1,ai=dM e K B el sz a1∧gl 0 l.length l a1∧e7 lt 0 l.length a1:=by
  have eW:=fun a1=>wo (K:=K) (B:=B) (el:=el) (sz:=sz) he a1;rcases(by omega:l.length=0∨l.length=1∨2≤l.length)with bA|J|U
  ·refine⟨222,[],by rw[bA];exact Bt,by rw[bA];rfl,IL (lt:=lt) ⟨eW,fun jK gJ _ _=>wq jK gJ,fun a1 _=>by simp[aK,aC,inObs,dM,Pv.look],fun a1 _=>by simp[aK],by simp[ds,cY],rfl,au,fun a1 h=>w6 a1 h,fun a1 _ U i j hi=>by omega⟩ bC l rfl⟩
  ·refine⟨223,[],by rw[J];exact tx,by rw[J];rfl,IL (lt:=lt) ⟨eW,fun jK gJ _ _=>wq jK gJ,fun a1 _=>by simp[aK,aC,inObs,dM,Pv.look],fun a1 _=>by simp[aK],by simp[ds,cY],rfl,au,fun a1 h=>w6 a1 h,fun a1 _ U i j hi af=>by omega⟩ bC l rfl⟩
  ·refine⟨230,_,by rw[r9 _ U];exact I7,rfl,?_⟩;rw[r9 _ U];simp only[show¬((9:Nat)≤2)from by decide,if_false];exact IL (lt:=lt) ⟨eW,fun jK gJ _ _=>wq jK gJ,fun a1 _=>by simp[aK,aC,inObs,dM,Pv.look],fun a1 _=>by simp[aK,aC,inObs,dM,Pv.look],by simp[ds,cY],by simp[ds,cY],au,fun a1 h=>w6 a1 h,fun a1 h _ i j hi af=>ze a1 h i j hi af⟩ bC l rfl
 obtain⟨f,b1,aI,Jw,dd⟩:=JA;intro w ν bc a7 ab aL;have pC:=cP.start (wo he l).obj a7 ab aL;have Js:=aL;simp only[cN,ba]at aL;obtain⟨v0,vs1,hv0,⟨u,rfl,⟨b,cap,rfl⟩,eO,n',e4,ak,aB,bj⟩,v1,vs2,hv1,⟨qx,rfl,qo⟩,rfl⟩:=aL;have kH:bc= #[.iface t (.slice (some ⟨b,0,none⟩) l.length cap),.func (.func g) #[] qx]:=by apply Array.ext';rw[hv0,hv1]
 subst kH;have qm:∃fn,al.funcs[(140:Nat)]? =some fn∧fn.body.isSome=true∧(fn.name== "runtime.NumGoroutine")=false:=⟨_,Tryz.func140,by kernel_rfl,by kernel_rfl⟩;refine .inl ⟨qm,?_⟩;obtain⟨du,oa⟩:∃du,du=(w.alloc (.cells #[.slice (some ⟨b,0,none⟩) l.length cap] t)).alloc (.cells #[typeHandle al t,.pointer (some ⟨w.heap.size,0,none⟩),.int .u64 151] 179):=⟨_,rfl⟩;have jI:w.grownBy du none:=by rw[oa];exact Q5 _ _ _
 have Jt:=pC.grown jI;have kG:k9 w ν du ν:=⟨fun b o bg=>⟨bg,DX jI (a7.alt b o bg)⟩,fun _ _ _ h=>h,fun _ n u _ h=>⟨n,u,h,.inl ⟨rfl,rfl⟩⟩,fun b o bg=>vQ (jI.block b (a7.alt b o bg) (by simp)),fun _ _ _ _ h=>h⟩;have q6:Pv.Good (fu ν (dM e K B el sz l)) du ν (dM e K B el sz l).b (dM e K B el sz l).e:=Jt.good.prMono fun bl _ h=>h;have kW:=Gk kG Js;simp only[cN]at kW;obtain⟨a0,XS,sa,BN,bE,XT,kU,aem,rfl⟩:=kW;simp at sa;obtain⟨rfl,rfl⟩:=sa;simp at kU;subst kU;have Jv:ba du ν (.row sz (.obj K) l.length) (.slice (some ⟨b,0,none⟩) l.length cap):=by simp only[ba]at BN;obtain⟨u,hu,h⟩:=BN;simp at hu;obtain⟨_,rfl⟩:=hu;simp only[ba];exact h
 have qp:cN du ν b1 (sliceBound al el ej ke (some ⟨b,0,none⟩) l.length cap).toList:=by
  unfold sliceBound;rw[Jw];split
  ·simp[cN]
  ·simp only[cN];exact⟨_,_,rfl,Jv,_,_,rfl,by simp[ba],rfl⟩
 have tt:cN du ν [eS g f [.ptr (.obj B) 0] b1,.int .i64 l.length] (#[.agg #[.func (.func g) #[] qx,.func (.func f) #[] (sliceBound al el ej ke (some ⟨b,0,none⟩) l.length cap)],.int .i64 l.length]:Array Value).toList:=by simp only[cN,eS];refine⟨_,_,rfl,?_,_,_,rfl,by simp[ba],rfl⟩;simp only[ba,c5];exact⟨_,rfl,_,_,rfl,⟨⟨qx,rfl,Gk kG qo⟩,rfl⟩,_,_,rfl,⟨⟨_,rfl,qp⟩,rfl⟩,rfl⟩
 have I4:=dd du ν _ q6 ab tt;have D3:∀args w,(callFunc 199 args).run al w= .ok (.enter 199 args) w:=enters_of Tryz.func199 (by kernel_rfl) rfl;rcases I4 with⟨_,ax⟩|⟨v,w',ax,_⟩
 ·have Jh:=akf t el i ej hi aQ BL sf ke tE (some ⟨b,0,none⟩) l.length cap (by omega) f aI (.func g) #[] qx w
   (fun w'=> ∃ai bp,(∃a1,ai=dM e K B el sz a1∧gl 0 l.length l a1∧e7 lt 0 l.length a1)∧Pv.Good (fun bl=>fu ν (dM e K B el sz l) bl∨du.heap.size≤bl) w' bp ai.b ai.e∧oS bp ai∧iH ai∧p5 ⟨du,ν,fu ν (dM e K B el sz l),0,cS (dM e K B el sz l)⟩ w' bp) (by
    rw[←oa];refine ax.mono ?_;rintro e w' ⟨v,r,ai,bp,rfl,⟨rfl,bo⟩,ve,a8,bZ,c4,ee⟩;simp only[ba,cN]at ve;obtain⟨us,rfl,qt⟩:=ve;have:us= #[]:=by apply Array.ext';simpa using qt
    subst this;exact⟨rfl,ai,bp,bo,a8,bZ,c4,ee⟩)
  refine Jh.mono ?_;rintro e w' ⟨rfl,ai,bp,⟨a1,rfl,ER,zd⟩,a8,bZ,c4,ee⟩;refine⟨.tuple #[],.tuple [],_,bp,rfl,⟨rfl,a1,rfl,ER.perm,?_⟩,by simp[ba,cN],a8.prMono fun bl h _=>?_,bZ,c4,⟨ee.os.trans jI.os,ee.tape.trans jI.tape,ee.output.trans jI.output,j4 jI.size ee.size,fun k ad hm=>?_,fun b o bg=>?_,fun b o bg=>?_,ee.obj,ee.obn,ee.row,ee.obr,ee.trd,fun k j b ae=>⟨(ee.trb k j b ae).1.imp id (fun h=>j4 jI.size h),(ee.trb k j b ae).2⟩,ee.trn,fun b o bg=>(ee.sh b o bg).trans (kG.sh b o bg)⟩⟩
  ·have w7:=ER.length;rw[←w7]at zd;exact zd.pairwise
  ·rcases h with h|h
   ·exact .inl h
   ·exact .inr (j4 jI.size h)
  ·rw[ee.block k (Nat.lt_of_lt_of_le ad jI.size) hm];exact jI.block k ad (by simp)
  ·obtain⟨aT,bz⟩:=ee.keep b o bg;exact⟨aT,bz.trans (kG.A b o bg).2⟩
  ·rcases ee.fresh b o bg with h|h|h
   ·exact .inl h
   ·exact .inr (.inl h)
   ·exact .inr (.inr (j4 jI.size h))
 ·rw[D3]at ax;cases ax
end
end Go.Proofs.YtahlgcidhnjlbaaGreat
namespace Go.Proofs
open Go.Shelf
def Tryz.lays6_ren:Go.Shelf.Ren:=⟨fun|6=>182|10=>197|11=>198|12=>200|13=>213|14=>214|24=>236|25=>237|26=>231|27=>238|28=>239|29=>240|30=>241|31=>242|32=>243|33=>244|34=>252|35=>253|36=>254|37=>255|38=>256|39=>271|n=>n,fun|20=>20|26=>143|35=>179|0=>0|37=>181|3=>3|41=>192|44=>185|49=>206|51=>208|4=>4|54=>210|53=>209|58=>214|5=>5|9=>9|60=>222|64=>226|66=>235|67=>236|17=>17|32=>176|33=>177|82=>256|12=>12|75=>249|76=>250|77=>251|78=>252|79=>253|80=>254|n=>n,fun|n=>n⟩
theorem Tryz.lays6:Go.Proofs.LaysGg.n6 al Tryz.lays6_ren:={
 mixed:=by kernel_rfl
 f6:=Tryz.func182.trans (e5 some (by kernel_rfl))
 f10:=Tryz.func197.trans (e5 some (by kernel_rfl))
 f11:=Tryz.func198.trans (e5 some (by kernel_rfl))
 f12:=Tryz.func200.trans (e5 some (by kernel_rfl))
 f13:=Tryz.func213.trans (e5 some (by kernel_rfl))
 f14:=Tryz.func214.trans (e5 some (by kernel_rfl))
 f24:=Tryz.func236.trans (e5 some (by kernel_rfl))
 f25:=Tryz.func237.trans (e5 some (by kernel_rfl))
 f26:=Tryz.func231.trans (e5 some (by kernel_rfl))
 f27:=Tryz.func238.trans (e5 some (by kernel_rfl))
 f28:=Tryz.func239.trans (e5 some (by kernel_rfl))
 f29:=Tryz.func240.trans (e5 some (by kernel_rfl))
 f30:=Tryz.func241.trans (e5 some (by kernel_rfl))
 f31:=Tryz.func242.trans (e5 some (by kernel_rfl))
 f32:=Tryz.func243.trans (e5 some (by kernel_rfl))
 f33:=Tryz.func244.trans (e5 some (by kernel_rfl))
 f34:=Tryz.func252.trans (e5 some (by kernel_rfl))
 f35:=Tryz.func253.trans (e5 some (by kernel_rfl))
 f36:=Tryz.func254.trans (e5 some (by kernel_rfl))
 f37:=Tryz.func255.trans (e5 some (by kernel_rfl))
 f38:=Tryz.func256.trans (e5 some (by kernel_rfl))
 f39:=Tryz.func271.trans (e5 some (by kernel_rfl))
 t0:=Tryz.underlying0
 a0:=Tryz.isAgg0
 z0:=Tryz.sizeOf0
 v0:=Tryz.zeroValue0
 i0:=by kernel_rfl
 t3:=Tryz.underlying3
 a3:=Tryz.isAgg3
 z3:=Tryz.sizeOf3
 v3:=Tryz.zeroValue3
 i3:=by kernel_rfl
 t4:=Tryz.underlying4
 a4:=Tryz.isAgg4
 z4:=Tryz.sizeOf4
 v4:=Tryz.zeroValue4
 i4:=by kernel_rfl
 t5:=Tryz.underlying5
 a5:=Tryz.isAgg5
 z5:=Tryz.sizeOf5
 v5:=Tryz.zeroValue5
 i5:=by kernel_rfl
 t9:=Tryz.underlying9
 a9:=Tryz.isAgg9
 z9:=Tryz.sizeOf9
 v9:=Tryz.zeroValue9
 i9:=by kernel_rfl
 t12:=Tryz.underlying12
 a12:=Tryz.isAgg12
 z12:=Tryz.sizeOf12
 v12:=Tryz.zeroValue12
 i12:=by kernel_rfl
 t17:=Tryz.underlying17
 a17:=Tryz.isAgg17
 z17:=Tryz.sizeOf17
 v17:=Tryz.zeroValue17
 i17:=by kernel_rfl
 t20:=Tryz.underlying20
 a20:=Tryz.isAgg20
 z20:=Tryz.sizeOf20
 v20:=Tryz.zeroValue20
 i20:=by kernel_rfl
 t26:=Tryz.underlying143
 a26:=Tryz.isAgg143
 z26:=Tryz.sizeOf143
 v26:=Tryz.zeroValue143
 i26:=by kernel_rfl
 t32:=Tryz.underlying176
 a32:=Tryz.isAgg176
 z32:=Tryz.sizeOf176
 v32:=Tryz.zeroValue176
 i32:=by kernel_rfl
 t33:=Tryz.underlying177
 a33:=Tryz.isAgg177
 z33:=Tryz.sizeOf177
 v33:=Tryz.zeroValue177
 i33:=by kernel_rfl
 t35:=Tryz.underlying179
 a35:=Tryz.isAgg179
 z35:=Tryz.sizeOf179
 v35:=Tryz.zeroValue179
 i35:=by kernel_rfl
 t37:=Tryz.underlying181
 a37:=Tryz.isAgg181
 z37:=Tryz.sizeOf181
 v37:=Tryz.zeroValue181
 i37:=by kernel_rfl
 t41:=Tryz.underlying192
 a41:=Tryz.isAgg192
 z41:=Tryz.sizeOf192
 v41:=Tryz.zeroValue192
 i41:=by kernel_rfl
 t44:=Tryz.underlying185
 a44:=Tryz.isAgg185
 z44:=Tryz.sizeOf185
 v44:=Tryz.zeroValue185
 i44:=by kernel_rfl
 t49:=Tryz.underlying206
 a49:=Tryz.isAgg206
 z49:=Tryz.sizeOf206
 v49:=Tryz.zeroValue206
 i49:=by kernel_rfl
 t51:=Tryz.underlying208
 a51:=Tryz.isAgg208
 z51:=Tryz.sizeOf208
 v51:=Tryz.zeroValue208
 i51:=by kernel_rfl
 t53:=Tryz.underlying209
 a53:=Tryz.isAgg209
 z53:=Tryz.sizeOf209
 v53:=Tryz.zeroValue209
 i53:=by kernel_rfl
 t54:=Tryz.underlying210
 a54:=Tryz.isAgg210
 z54:=Tryz.sizeOf210
 v54:=Tryz.zeroValue210
 i54:=by kernel_rfl
 t58:=Tryz.underlying214
 a58:=Tryz.isAgg214
 z58:=Tryz.sizeOf214
 v58:=Tryz.zeroValue214
 i58:=by kernel_rfl
 t60:=Tryz.underlying222
 a60:=Tryz.isAgg222
 z60:=Tryz.sizeOf222
 v60:=Tryz.zeroValue222
 i60:=by kernel_rfl
 t64:=Tryz.underlying226
 a64:=Tryz.isAgg226
 z64:=Tryz.sizeOf226
 v64:=Tryz.zeroValue226
 i64:=by kernel_rfl
 t66:=Tryz.underlying235
 a66:=Tryz.isAgg235
 z66:=Tryz.sizeOf235
 v66:=Tryz.zeroValue235
 i66:=by kernel_rfl
 t67:=Tryz.underlying236
 a67:=Tryz.isAgg236
 z67:=Tryz.sizeOf236
 v67:=Tryz.zeroValue236
 i67:=by kernel_rfl
 t75:=Tryz.underlying249
 a75:=Tryz.isAgg249
 z75:=Tryz.sizeOf249
 v75:=Tryz.zeroValue249
 i75:=by kernel_rfl
 t76:=Tryz.underlying250
 a76:=Tryz.isAgg250
 z76:=Tryz.sizeOf250
 v76:=Tryz.zeroValue250
 i76:=by kernel_rfl
 t77:=Tryz.underlying251
 a77:=Tryz.isAgg251
 z77:=Tryz.sizeOf251
 v77:=Tryz.zeroValue251
 i77:=by kernel_rfl
 t78:=Tryz.underlying252
 a78:=Tryz.isAgg252
 z78:=Tryz.sizeOf252
 v78:=Tryz.zeroValue252
 i78:=by kernel_rfl
 t79:=Tryz.underlying253
 a79:=Tryz.isAgg253
 z79:=Tryz.sizeOf253
 v79:=Tryz.zeroValue253
 i79:=by kernel_rfl
 t80:=Tryz.underlying254
 a80:=Tryz.isAgg254
 z80:=Tryz.sizeOf254
 v80:=Tryz.zeroValue254
 i80:=by kernel_rfl
 t82:=Tryz.underlying256
 a82:=Tryz.isAgg256
 z82:=Tryz.sizeOf256
 v82:=Tryz.zeroValue256
 i82:=by kernel_rfl}
end Go.Proofs
namespace Go.Proofs.YtahlgcidhnjlbaaGreat
open Go Go.RowKit Go.Lib Go.Pv Go.Proofs
theorem X1(n:Nat)(h:n<1099511627776):Lib.bitLen n≤1000:=by
 have:∀f x,bitLenAux f x≤f:=by
  intro f;induction f with
  |zero=>intro x;simp[bitLenAux]
  |succ f bT=>
   intro x;rw[bitLenAux];split
   ·omega
   ·have:=bT (x/2);omega
 have:=this 64 n;unfold Lib.bitLen;omega
theorem aiw{α:Type}[Inhabited α]{lt:α→α→Bool}{l:List α}{b8:Array α}(h:Sort.PermIn 0 l.length l.toArray b8)(ag:Sort.SortedIn lt 0 l.length b8):b8.toList.Perm l∧b8.toList.Pairwise fun x y=>lt y x=false:=by
 obtain⟨kN,_,z3⟩:=h;have ef:b8.size=l.length:=by simpa using kN
 have ak:b8.extract 0 l.length=b8:=by rw[←ef];simp
 have aB:l.toArray.extract 0 l.length=l.toArray:=by simp
 rw[ak,aB]at z3;refine⟨by simpa using z3,?_⟩;rw[pg];intro i j hi af lR;have J:=ag i j (by omega) lR (by simpa[ef]using af);have se:i<b8.size:=by simpa using hi
 have jf:j<b8.size:=by simpa using af
 rw[getElem!_pos b8 i se,getElem!_pos b8 j jf]at J;simpa using J
section
variable {α:Type} {e:α→ah} (he:∀S x,aC S (e x)) {K B el sz:Nat}
include he
theorem QP[Inhabited α](Ra:K≠901∧K≠902)(Q9:B≠901∧B≠902)(t:fT)(i ej:TypeInfo)(hi:al.info? t=some i)(aQ:i.desc= .slice el)(BL:al.packed t=false)(sf:al.info? el=some ej)(ke:Nat)(tE:∀w,(Xc el).run al w= .ok ke w)(r9:∀n,2≤n→swapperK n ej ke=9)
  (g:Nat) (lt:α→α→Bool) (bC:Sort.SWO lt) (l:List α) (au:l.length≤68719476736)
  (w6:∀a1:List α,a1.length=l.length→∀(i j:Nat) x y,a1[i]? =some x→a1[j]? =some y→bQ al g [.int .i64 i,.int .i64 j,.ptr (.obj B) 0] (dM e K B el sz a1) fun r ai=>r= .bool (lt x y)∧ai=dM e K B el sz a1)
  (ze:∀a1:List α,a1.length=l.length→∀i j:Nat,i<l.length→j<l.length→bQ al 230 [.int .i64 i,.int .i64 j,.row sz (.obj K) l.length,.cst (typeHandle al el)] (dM e K B el sz a1) fun r ai=>r= .tuple []∧ai=dM e K B el sz (gW a1 i j)):
  bQ al 182 [.iface t (.row sz (.obj K) l.length),.func g [.ptr (.obj B) 0]] (dM e K B el sz l) fun r ai=>r= .tuple []∧∃a1,ai=dM e K B el sz a1∧a1.Perm l∧a1.Pairwise fun x y=>lt y x=false:=by
 have Bt:al.funcs.findIdx? (·.name== "internal/reflectlite" ++ ".Swapper$" ++toString 1)=some 222:=by kernel_rfl
 have tx:al.funcs.findIdx? (·.name== "internal/reflectlite" ++ ".Swapper$" ++toString 2)=some 223:=by kernel_rfl
 have I7:al.funcs.findIdx? (·.name== "internal/reflectlite" ++ ".Swapper$" ++toString 9)=some 230:=by kernel_rfl
 have xb:ry (dM e K B el sz) 901:=fun l=>⟨by simp[dM,Pv.look,Q9.1],by simp[dM,Pv.look,Ra.1]⟩;have xc:ry (dM e K B el sz) 902:=fun l=>⟨by simp[dM,Pv.look,Q9.2],by simp[dM,Pv.look,Ra.2]⟩;have fw:=X1 l.length (by omega);have JA:∃f b1,al.funcs.findIdx? (·.name== "internal/reflectlite" ++ ".Swapper$" ++toString (swapperK l.length ej ke))=some f∧(b1=(if swapperK l.length ej ke≤2 then []else [ah.row sz (.obj K) l.length,.cst (typeHandle al el)]))∧
   bQ al 214 [eS g f [.ptr (.obj B) 0] b1,.int .i64 0,.int .i64 l.length,.int .i64 (Lib.bitLen l.length)] (dM e K B el sz l) fun r ai=>r= .tuple []∧∃a1,ai=dM e K B el sz a1∧a1.Perm l∧a1.Pairwise fun x y=>lt y x=false:=by
  have eW:=fun a1=>wo (K:=K) (B:=B) (el:=el) (sz:=sz) he a1;have key:∀{b7:Nat} {b1:List ah},e0 (dM e K B el sz) l.length g b7 [.ptr (.obj B) 0] b1 lt→bQ al 214 [eS g b7 [.ptr (.obj B) 0] b1,.int .i64 0,.int .i64 l.length,.int .i64 (Lib.bitLen l.length)] (dM e K B el sz l) fun r ai=>r= .tuple []∧∃a1,ai=dM e K B el sz a1∧a1.Perm l∧a1.Pairwise fun x y=>lt y x=false:=by intro b7 b1 H;have:=acC H xb xc bC l.length l.toArray (by simp) 0 l.length (Lib.bitLen l.length) (by omega) (by omega) (eR _) (by omega) (.inl rfl);simp only[Int.ofNat_zero,Int.natCast_zero,Int.cast_ofNat_Int]at this;refine bQ.mono this ?_;rintro r ai ⟨a6,b8,bu,bV,cW⟩;obtain⟨cM,dn⟩:=aiw bV cW;exact⟨a6,b8.toList,bu,cM,dn⟩
  rcases(by omega:l.length=0∨l.length=1∨2≤l.length)with bA|J|U
  ·refine⟨222,[],by rw[bA];exact Bt,by rw[bA];rfl,key ⟨eW,fun jK gJ _ _=>wq jK gJ,fun a1 _=>by simp[aK,aC,inObs,dM,Pv.look],fun a1 _=>by simp[aK],by simp[ds,cY],rfl,au,fun a1 h=>w6 a1 h,fun a1 _ U i j hi=>by omega⟩⟩
  ·refine⟨223,[],by rw[J];exact tx,by rw[J];rfl,key ⟨eW,fun jK gJ _ _=>wq jK gJ,fun a1 _=>by simp[aK,aC,inObs,dM,Pv.look],fun a1 _=>by simp[aK],by simp[ds,cY],rfl,au,fun a1 h=>w6 a1 h,fun a1 _ U i j hi af=>by omega⟩⟩
  ·refine⟨230,_,by rw[r9 _ U];exact I7,rfl,?_⟩;rw[r9 _ U];simp only[show¬((9:Nat)≤2)from by decide,if_false];exact key ⟨eW,fun jK gJ _ _=>wq jK gJ,fun a1 _=>by simp[aK,aC,inObs,dM,Pv.look],fun a1 _=>by simp[aK,aC,inObs,dM,Pv.look],by simp[ds,cY],by simp[ds,cY],au,fun a1 h=>w6 a1 h,fun a1 h _ i j hi af=>ze a1 h i j hi af⟩
 obtain⟨f,b1,aI,Jw,dd⟩:=JA;intro w ν bc a7 ab aL;have pC:=cP.start (wo he l).obj a7 ab aL;have Js:=aL;simp only[cN,ba]at aL;obtain⟨v0,vs1,hv0,⟨u,rfl,⟨b,cap,rfl⟩,eO,n',e4,ak,aB,bj⟩,v1,vs2,hv1,⟨qx,rfl,qo⟩,rfl⟩:=aL;have kH:bc= #[.iface t (.slice (some ⟨b,0,none⟩) l.length cap),.func (.func g) #[] qx]:=by apply Array.ext';rw[hv0,hv1]
 subst kH;have qm:∃fn,al.funcs[(182:Nat)]? =some fn∧fn.body.isSome=true∧(fn.name== "runtime.NumGoroutine")=false:=⟨_,Tryz.func182,by kernel_rfl,by kernel_rfl⟩;refine .inl ⟨qm,?_⟩;obtain⟨du,oa⟩:∃du,du=sliceWorld al Tryz.lays6_ren t (some ⟨b,0,none⟩) l.length cap w:=⟨_,rfl⟩;have jI:w.grownBy du none:=by rw[oa];unfold sliceWorld;exact Q5 _ _ _
 have Jt:=pC.grown jI;have kG:k9 w ν du ν:=⟨fun b o bg=>⟨bg,DX jI (a7.alt b o bg)⟩,fun _ _ _ h=>h,fun _ n u _ h=>⟨n,u,h,.inl ⟨rfl,rfl⟩⟩,fun b o bg=>vQ (jI.block b (a7.alt b o bg) (by simp)),fun _ _ _ _ h=>h⟩;have q6:Pv.Good (fu ν (dM e K B el sz l)) du ν (dM e K B el sz l).b (dM e K B el sz l).e:=Jt.good.prMono fun bl _ h=>h;have kW:=Gk kG Js;simp only[cN]at kW;obtain⟨a0,XS,sa,BN,bE,XT,kU,aem,rfl⟩:=kW;simp at sa;obtain⟨rfl,rfl⟩:=sa;simp at kU;subst kU;have Jv:ba du ν (.row sz (.obj K) l.length) (.slice (some ⟨b,0,none⟩) l.length cap):=by simp only[ba]at BN;obtain⟨u,hu,h⟩:=BN;simp at hu;obtain⟨_,rfl⟩:=hu;simp only[ba];exact h
 have qp:cN du ν b1 (sliceBound al el ej ke (some ⟨b,0,none⟩) l.length cap).toList:=by
  unfold sliceBound;rw[Jw];split
  ·simp[cN]
  ·simp only[cN];exact⟨_,_,rfl,Jv,_,_,rfl,by simp[ba],rfl⟩
 have tt:cN du ν [eS g f [.ptr (.obj B) 0] b1,.int .i64 0,.int .i64 l.length,.int .i64 (Lib.bitLen l.length)] (#[.agg #[.func (.func g) #[] qx,.func (.func f) #[] (sliceBound al el ej ke (some ⟨b,0,none⟩) l.length cap)],.int .i64 0,.int .i64 l.length,.int .i64 (Lib.bitLen l.length)]:Array Value).toList:=by simp only[cN,eS];refine⟨_,_,rfl,?_,_,_,rfl,by simp[ba],_,_,rfl,by simp[ba],_,_,rfl,by simp[ba],rfl⟩;simp only[ba,c5];exact⟨_,rfl,_,_,rfl,⟨⟨qx,rfl,Gk kG qo⟩,rfl⟩,_,_,rfl,⟨⟨_,rfl,qp⟩,rfl⟩,rfl⟩
 have I4:=dd du ν _ q6 ab tt;have D3:∀args w,(callFunc 214 args).run al w= .ok (.enter 214 args) w:=enters_of Tryz.func214 (by kernel_rfl) rfl;rcases I4 with⟨_,ax⟩|⟨v,w',ax,_⟩
 ·have Jh:=Any.sort_Slice_of_pdq Tryz.lays6 t el i ej hi aQ BL sf ke tE (some ⟨b,0,none⟩) l.length cap (by omega) f aI (.func g) #[] qx w
   (fun w'=> ∃ai bp,(∃a1,ai=dM e K B el sz a1∧a1.Perm l∧a1.Pairwise fun x y=>lt y x=false)∧Pv.Good (fun bl=>fu ν (dM e K B el sz l) bl∨du.heap.size≤bl) w' bp ai.b ai.e∧oS bp ai∧iH ai∧p5 ⟨du,ν,fu ν (dM e K B el sz l),0,cS (dM e K B el sz l)⟩ w' bp) (by
    rw[←oa];refine ax.mono ?_;rintro e w' ⟨v,r,ai,bp,rfl,⟨rfl,bo⟩,ve,a8,bZ,c4,ee⟩;simp only[ba,cN]at ve;obtain⟨us,rfl,qt⟩:=ve;have:us= #[]:=by apply Array.ext';simpa using qt
    subst this;exact⟨rfl,ai,bp,bo,a8,bZ,c4,ee⟩)
  refine Jh.mono ?_;rintro e w' ⟨rfl,ai,bp,⟨a1,rfl,ER,zd⟩,a8,bZ,c4,ee⟩;refine⟨.tuple #[],.tuple [],_,bp,rfl,⟨rfl,a1,rfl,ER,zd⟩,by simp[ba,cN],a8.prMono fun bl h _=>?_,bZ,c4,⟨ee.os.trans jI.os,ee.tape.trans jI.tape,ee.output.trans jI.output,j4 jI.size ee.size,fun k ad hm=>?_,fun b o bg=>?_,fun b o bg=>?_,ee.obj,ee.obn,ee.row,ee.obr,ee.trd,fun k j b ae=>⟨(ee.trb k j b ae).1.imp id (fun h=>j4 jI.size h),(ee.trb k j b ae).2⟩,ee.trn,fun b o bg=>(ee.sh b o bg).trans (kG.sh b o bg)⟩⟩
  ·rcases h with h|h
   ·exact .inl h
   ·exact .inr (j4 jI.size h)
  ·rw[ee.block k (Nat.lt_of_lt_of_le ad jI.size) hm];exact jI.block k ad (by simp)
  ·obtain⟨aT,bz⟩:=ee.keep b o bg;exact⟨aT,bz.trans (kG.A b o bg).2⟩
  ·rcases ee.fresh b o bg with h|h|h
   ·exact .inl h
   ·exact .inr (.inl h)
   ·exact .inr (.inr (j4 jI.size h))
 ·rw[D3]at ax;cases ax
end
end Go.Proofs.YtahlgcidhnjlbaaGreat
namespace Go.Proofs.YtahlgcidhnjlbaaGreat
open Go Go.Pv Go.Lib
abbrev wm(l:List bk):cJ:=dM bk.e 814 815 100 2 l
theorem TS:∀(S:aH→Prop) (x:bk),aC S x.e:=fun S x=>by simp
theorem G9(l:List bk):eo (wm l):=wo TS l
theorem afL:Sort.SWO (hA e9):=by
 refine⟨fun x=>?_,fun x y z J U=>?_,fun x y z J U=>?_⟩
 ·simp only[hA,hE];have:=lz.refl x;omega
 ·simp only[hA,fH]at*;exact lz.ltr J (by omega)
 ·simp only[hA,hE]at*;have ak:=lz.neg x y;have aB:=lz.neg y z;have bj:=lz.neg x z;have:=lz.tr z y x (by omega) (by omega);omega
theorem acg(l:List bk)(i j:Nat)(x y:bk)(au:l.length≤68719476736)(hi:l[i]? =some x)(af:l[j]? =some y):bQ al 185 [.int .i64 i,.int .i64 j,.ptr (.obj 815) 0] (wm l) fun r ai=>r= .bool (hA e9 x y)∧ai=wm l:=by have ag:=G9 l;obtain⟨lQ,ht⟩:=fL.1 hi;obtain⟨dX,pA⟩:=fL.1 af;unfold wm dM at ag⊢;refine bQ.mk mixed jP Z6 agw (by simp) ag.obj fun aP cQ=>?_;unfold Nz;simp[lQ,dX,ht,pA];(with_reducible repeat' first|refine aj ?_|refine aD (Av _ _) ?_|refine aE (Av _ _) ?_|simp[lQ,dX,ht,pA]);refine cR.at _ (.inl rfl) ag (Same.refl _) aR aR ?_;simp[cX,UD,aX,aZ,aW]
noncomputable def Tryz.maT:TypeInfo:=(al.info? 49).get (by kernel_rfl)
noncomputable def Tryz.maE:TypeInfo:=(al.info? 100).get (by kernel_rfl)
theorem Tryz.maK(n:Nat)(U:2≤n):Lib.swapperK n Tryz.maE 25=9:=by
 have a:Tryz.maE.hasPointers=true:=by kernel_rfl
 have b:Tryz.maE.bytes=24:=by kernel_rfl
 have c:(n==0)=false:=by simp;omega
 have d:(n==1)=false:=by simp;omega
 simp[Lib.swapperK,a,b,c,d]
theorem Tu{α β:Type}(f:α→β)(l:List α)(i j:Nat):(gW l i j).map f=gW (l.map f) i j:=by
 unfold gW;simp only[List.getElem?_map];cases l[i]? with
 |none=>simp
 |some x=>
  cases l[j]? with
  |none=>simp
  |some y=>simp[List.map_set]
theorem acO(l:List bk)(au:l.length≤68719476736):bQ al 182 [.iface 49 (.row 2 (.obj 814) l.length),.func 185 [.ptr (.obj 815) 0]] (wm l) fun r ai=>r= .tuple []∧ai=wm (oq e9 l):=by
 refine(QP TS (K:=814) (B:=815) (sz:=2) (by decide) (by decide) 49 Tryz.maT Tryz.maE (by kernel_rfl) (by kernel_rfl) (by kernel_rfl) (by kernel_rfl) 25 (fun _=>by kernel_rfl) Tryz.maK 185 (hA e9) afL l au (fun a1 h i j x y hi af=>acg a1 i j x y (by omega) hi af) (fun a1 h i j hi af=>?_)).mono ?_
 ·have:=QY (P:=al) false 230 (fun args W=>run_callFunc_extern Tryz.func230 (by kernel_rfl) (by kernel_rfl) (by kernel_rfl) (e:=Dm false) (by kernel_rfl) args W)
   100 Tryz.maE (by kernel_rfl) (fun _=>by kernel_rfl) (G9 a1) (K:=814) (n:=l.length) (el:=100) (sz:=2) (by kernel_rfl) (xs:=a1.map bk.e) (by simp[dM,Pv.look,h]) i j hi af
  refine this.mono ?_;rintro r ai ⟨rfl,rfl⟩;refine⟨rfl,?_⟩;simp[dM,cx,Tu,h]
 ·rintro r ai ⟨rfl,a1,rfl,J,U⟩;exact⟨rfl,by rw[VW lz J U]⟩
def nz(l:List bk):List ah:= .hdm l.length (List.range l.length)::l.flatMap fun m=>[m.e,.bool true]
def kR(m:bk)(l:List bk):List bk:=if m∈l then l else l++[m]
theorem afl(a b:bk):sv (.a [false,true]) a.e b.e=some (decide (a=b)):=by simp only[bk.e,sv,jU,if_true,nM];congr 1;rw[pZ];cases a;cases b;simp
theorem afm(a:bk):tM (.a [false,true]) a.e=true:=by simp[bk.e,tM,jU,-Hm]
theorem TW(m:bk):∀l:List bk,tX (.a [false,true]) m.e (.bool true) (l.flatMap fun m=>[m.e,.bool true])=some (if m∈l then some (l.flatMap fun m=>[m.e,.bool true])else none)
 |[]=>rfl
 |a::l=>by
  simp only[List.flatMap_cons,bU,bX,tX,afl];by_cases h:m=a
  ·subst h;simp
  ·have cr:decide (m=a)=false:=by simp[h]
   rw[cr];simp only[TW m l];by_cases hm:m∈l
   ·simp[hm]
   ·simp[hm,h]
@[simp] theorem apI(m:bk)(l:List bk):og (.a [false,true]) m.e (.bool true) (nz l)=some (nz (kR m l)):=by
 simp only[nz,og,afm,Bool.true_eq_false,reduceCtorEq,if_false,TW,kR];by_cases h:m∈l
 ·simp[h]
 ·simp[h,List.range_succ]
end Go.Proofs.YtahlgcidhnjlbaaGreat
namespace Go.Proofs.YtahlgcidhnjlbaaGreat
open Go Go.Pv
@[simp] theorem zt(S:aH→Prop)(l:List bk):aK S (nz l)=True:=by
 refine eq_true ?_;unfold nz;have:∀l:List bk,aK S (l.flatMap fun m=>[m.e,ah.bool true]):=fun l=>by
  induction l with
  |nil=>simp[aK]
  |cons x r bT=>simp only[List.flatMap_cons,bU,bX,aK,afq,aC,true_and];exact bT
 simp only[aK,aC,true_and];exact this l
@[simp] theorem apq:[ah.hdm 0 []]=nz []:=rfl
def nP(tag:List dz)(l:List bk):cJ:=⟨[(.obj 811,[.str tag]),(.obj 812,nz l),(.obj 813,[.gmap (.obj 812)])],[]⟩
theorem Du(tag:List dz)(l:List bk):eo (nP tag l):=by unfold nP;refine eo.of ⟨by intro m;simp[Pv.look],by intro m;simp[Pv.look]⟩ (by simp[aK,aC,inObs,Pv.look]) (by simp)
theorem Ha(tag:List dz)(l a1:List bk):Same (nP tag l) (nP tag a1):=Same.keys (by simp[nP]) (by simp[nP])
theorem acf(tag:List dz)(v:Int)(l:List bk):bQ al 184 [.int .i64 v,.ptr (.obj 813) 0,.ptr (.obj 811) 0] (nP tag l) fun r ai=>r= .tuple []∧ai=nP tag (kR ⟨v,tag⟩ l):=by have ag:=Du tag l;have gi:=Du tag (kR ⟨v,tag⟩ l);have e2:=Ha tag l (kR ⟨v,tag⟩ l);unfold nP at ag gi e2⊢;refine bQ.mk mixed jP Z5 agv (by simp) ag.obj fun aP cQ=>?_;unfold Ny;simp;refine cR.at _ (.inr rfl) gi e2 aR aR ?_;simp[cX,UC,aX,aZ,aW]
end Go.Proofs.YtahlgcidhnjlbaaGreat
namespace Go.Proofs.YtahlgcidhnjlbaaGreat
open Go Go.Pv Go.Lib
abbrev uE(l:List bK):cJ:=dM bK.e 803 804 98 2 l
theorem SM:∀(S:aH→Prop) (x:bK),aC S x.e:=fun S x=>by simp
theorem Ds(l:List bK):eo (uE l):=wo SM l
def vw(x y:bK):Bool:=decide (x.v<y.v)
theorem afK:Sort.SWO vw:=⟨fun x=>by simp[vw],fun x y z J U=>by simp[vw]at*;omega,fun x y z J U=>by simp[vw]at*;omega⟩
theorem ach(l:List bK)(i j:Nat)(x y:bK)(au:l.length≤68719476736)(hi:l[i]? =some x)(af:l[j]? =some y):bQ al 183 [.int .i64 i,.int .i64 j,.ptr (.obj 804) 0] (uE l) fun r ai=>r= .bool (vw x y)∧ai=uE l:=by have ag:=Ds l;obtain⟨lQ,ht⟩:=fL.1 hi;obtain⟨dX,pA⟩:=fL.1 af;unfold uE dM at ag⊢;refine bQ.mk mixed jP Z7 agx (by simp) ag.obj fun aP cQ=>?_;unfold NA;simp[lQ,dX,ht,pA];(with_reducible repeat' first|refine aj ?_|simp);refine cR.at _ (.inl rfl) ag (Same.refl _) aR aR ?_;simp[cX,UE,aX,aZ,aW,vw]
noncomputable def Tryz.vkT:TypeInfo:=(al.info? 48).get (by kernel_rfl)
noncomputable def Tryz.vkE:TypeInfo:=(al.info? 98).get (by kernel_rfl)
theorem Tryz.vkK(n:Nat)(U:2≤n):Lib.swapperK n Tryz.vkE 25=9:=by
 have a:Tryz.vkE.hasPointers=false:=by kernel_rfl
 have b:Tryz.vkE.bytes=16:=by kernel_rfl
 have c:(n==0)=false:=by simp;omega
 have d:(n==1)=false:=by simp;omega
 simp[Lib.swapperK,a,b,c,d]
theorem afJ{α β:Type}(f:α→β)(l:List α)(i j:Nat):(gW l i j).map f=gW (l.map f) i j:=by
 unfold gW;simp only[List.getElem?_map];cases l[i]? with
 |none=>simp
 |some x=>
  cases l[j]? with
  |none=>simp
  |some y=>simp[List.map_set]
theorem QX(l:List bK)(au:l.length≤68719476736):bQ al 182 [.iface 48 (.row 2 (.obj 803) l.length),.func 183 [.ptr (.obj 804) 0]] (uE l) fun r ai=>r= .tuple []∧∃a1,ai=uE a1∧a1.Perm l∧a1.Pairwise fun x y=>vw y x=false:=by
 refine(QP SM (K:=803) (B:=804) (sz:=2) (by decide) (by decide) 48 Tryz.vkT Tryz.vkE (by kernel_rfl) (by kernel_rfl) (by kernel_rfl) (by kernel_rfl) 25 (fun _=>by kernel_rfl) Tryz.vkK 183 vw afK l au (fun a1 h i j x y hi af=>ach a1 i j x y (by omega) hi af) (fun a1 h i j hi af=>?_));have:=QY (P:=al) false 230 (fun args W=>run_callFunc_extern Tryz.func230 (by kernel_rfl) (by kernel_rfl) (by kernel_rfl) (e:=Dm false) (by kernel_rfl) args W)
  98 Tryz.vkE (by kernel_rfl) (fun _=>by kernel_rfl) (Ds a1) (K:=803) (n:=l.length) (el:=98) (sz:=2) (by kernel_rfl) (xs:=a1.map bK.e) (by simp[dM,Pv.look,h]) i j hi af
 refine this.mono ?_;rintro r ai ⟨rfl,rfl⟩;refine⟨rfl,?_⟩;simp[dM,cx,afJ,h]
end Go.Proofs.YtahlgcidhnjlbaaGreat
namespace Go.Proofs.YtahlgcidhnjlbaaGreat
open Go Go.Pv
def fS(o:aY (List bK)):ah:= .tuple [.slice 2 .no ((o.getD []).map bK.e),.bool o.isSome]
@[simp] theorem ao8(S:aH→Prop)(o:aY (List bK)):aC S (fS o)=True:=by simp[fS]
theorem Wq{l:List bK}(h:iU l):bH al 87 [.slice 2 .no (l.map bK.e)] (.bool true):=by have:=Wp l;simpa only[h,decide_true]using this
theorem Db{t:T}(h:t.fit=true):bH al 64 [t.e] (.bool true):=by have:=alc t;rwa[h]at this
set_option maxRecDepth 4000 in
theorem akZ{s:List ar}(ag:eM s){l:List bK}(au:iU l)(t:T)(aN:t.fit=true)(k:Int):
  bH al 118 [.slice 5 .no (s.map ar.e),.slice 2 .no (l.map bK.e),t.e,.int .i64 k] (fS (if(k=2∨k=3)∧(t.ap (cB s)).size≤5000 then j7 l (t.ap (cB s)) k else none)):=by
 have w7:=su au;have cV:=pb ag;have dH:=Db aN;have dg:=Wq au;have fi:=GW s t ag.len ag.sol.asc ag.fit;generalize ab:t.ap (cB s)=x at fi⊢;generalize dk:(if(k=2∨k=3)∧x.size≤5000 then j7 l x k else none)=O;by_cases ad:k=2∨k=3;rotate_left
 ·have gn:(k !=2)=true:=by simp;omega
  have kV:(k !=3)=true:=by simp;omega
  rw[if_neg (fun h=>ad h.1)]at dk;rw[←dk];refine bf jP qU rz fun aP=>?_;unfold qc;simp;(with_reducible repeat' first|refine aj ?_|refine aD cV ?_|refine aE cV ?_|refine aD dH ?_|refine aE dH ?_|refine aD dg ?_|refine aE dg ?_|simp[gn,kV]);simp[bt,jN,aX,aZ,aW];simp[fS]
 by_cases bD:x.size≤5000;rotate_left
 ·rw[if_neg (fun h=>bD h.2)]at dk;rw[←dk];rw[if_neg bD,jH bD]at fi;refine bf jP qU rz fun aP=>?_;unfold qc;simp;rcases ad with rfl|rfl;all_goals(with_reducible repeat' first|refine aj ?_|refine aD cV ?_|refine aE cV ?_|refine aD dH ?_|refine aE dH ?_|refine aD dg ?_|refine aE dg ?_|refine aD fi ?_|refine aE fi ?_|simp)
  all_goals simp[bt,jN,aX,aZ,aW]
  all_goals simp[fS]
 rw[if_pos ⟨ad,bD⟩]at dk;rw[if_pos bD,jk bD]at fi;have EC:(k !=2)=true→(k !=3)=false:=fun h=>by simp at h⊢;omega
 have tD:((k !=2)=false)∨((k !=2)=true∧(k !=3)=false):=by
  rcases ad with rfl|rfl
  ·left;rfl
  ·right;exact⟨rfl,rfl⟩
 clear EC;cases x with
 |var n=>
  have dN:O=match k0 l n with|some bM=>if bM=k then some l else none|none=>some (lu ⟨n,k⟩ l):=by rw[←dk];rfl
  refine bf jP qU rz fun aP=>?_;unfold qc;simp;rcases tD with bo|⟨bo,iR⟩
  ·(with_reducible repeat' first|refine aj ?_|refine aD cV ?_|refine aE cV ?_|refine aD dH ?_|refine aE dH ?_|refine aD dg ?_|refine aE dg ?_|refine aD fi ?_|refine aE fi ?_|simp[bo]);refine dW [3,10,12,55,56] (fun i (_:Unit)=>[(57,.int .i64 i)]) l.length (fun i _=> ∀j y,j<i→l[j]? =some y→y.v≠n) () b0 (fun j y af=>by omega) (fun _ af _=>?_) (fun i _ hi af _=>?_)
   ·have a7:k0 l n=none:=xq.2 fun y aG=>by obtain⟨m,hm,e⟩:=ni aG;exact af m y hm (by rw[cf hm,e])
    rw[a7]at dN;simp only at dN;simp;(with_reducible repeat' first|refine aj ?_|simp);all_goals first|(refine⟨by unfold lim;omega,?_⟩)|skip
    have key:=QX (l++[⟨n,k⟩]) (by simp;omega);have eW:=Ds (l++[⟨n,k⟩]);have hlen:(l++[(⟨n,k⟩:bK)]).length=l.length+1:=by simp
    unfold uE dM at key eW;rw[hlen,List.map_append,gE,pe]at key eW;refine c7.ob key eW aR aR (by simp[inObs,Pv.look]) ?_;rintro r ai ⟨rfl,a1,rfl,J,U⟩;have si:a1=lu ⟨n,k⟩ l:=SN (J.trans ((List.perm_append_comm (l₁:=l) (l₂:=[⟨n,k⟩])).trans (JQ ⟨n,k⟩ l).symm)) (EY au.asc (xq.1 a7)) U;subst si;refine⟨Same.keys (by simp) (by simp),?_⟩;rw[dN];simp[cv];(with_reducible repeat' first|refine aj ?_|simp);simp[bt,jN,aX,aZ,aW];simp[fS]
   ·obtain⟨b,ae,cK⟩:=ed hi;by_cases mQ:b.v=n
    ·have a7:k0 l n=some b.k:=by rw[←mQ];exact Fb au.asc (eG ae)
     rw[a7]at dN;simp only at dN;by_cases n1:b.k=k
     ·rw[if_pos n1]at dN;rw[dN];have wT:(b.k !=k)=false:=by simp[n1]
      have q4:(b.v==n)=true:=by simp[mQ]
      simp[hi,cK];(with_reducible repeat' first|refine aj ?_|simp[cK,hi,wT,q4,n1,mQ]);simp[bt,jN,aX,aZ,aW];simp[fS]
     ·rw[if_neg n1]at dN;rw[dN];have wT:(b.k !=k)=true:=by simp[n1]
      have q4:(b.v==n)=true:=by simp[mQ]
      simp[hi,cK];(with_reducible repeat' first|refine aj ?_|simp[cK,hi,wT,q4,n1,mQ]);simp[bt,jN,aX,aZ,aW];simp[fS]
    ·have q4:(b.v==n)=false:=by simp[mQ]
     simp[hi,cK];(with_reducible repeat' first|refine aj ?_|simp[cK,hi,q4,mQ]);exact bN.rng () hi (fun j y jf aG=>by
      rcases(by omega:j<i∨j=i)with h|rfl
      ·exact af j y h aG
      ·rw[ae]at aG;cases aG;exact mQ) b0
  ·(with_reducible repeat' first|refine aj ?_|refine aD cV ?_|refine aE cV ?_|refine aD dH ?_|refine aE dH ?_|refine aD dg ?_|refine aE dg ?_|refine aD fi ?_|refine aE fi ?_|simp[bo,iR]);refine dW [3,10,12,55,56] (fun i (_:Unit)=>[(57,.int .i64 i)]) l.length (fun i _=> ∀j y,j<i→l[j]? =some y→y.v≠n) () b0 (fun j y af=>by omega) (fun _ af _=>?_) (fun i _ hi af _=>?_)
   ·have a7:k0 l n=none:=xq.2 fun y aG=>by obtain⟨m,hm,e⟩:=ni aG;exact af m y hm (by rw[cf hm,e])
    rw[a7]at dN;simp only at dN;simp;(with_reducible repeat' first|refine aj ?_|simp);all_goals first|(refine⟨by unfold lim;omega,?_⟩)|skip
    have key:=QX (l++[⟨n,k⟩]) (by simp;omega);have eW:=Ds (l++[⟨n,k⟩]);have hlen:(l++[(⟨n,k⟩:bK)]).length=l.length+1:=by simp
    unfold uE dM at key eW;rw[hlen,List.map_append,gE,pe]at key eW;refine c7.ob key eW aR aR (by simp[inObs,Pv.look]) ?_;rintro r ai ⟨rfl,a1,rfl,J,U⟩;have si:a1=lu ⟨n,k⟩ l:=SN (J.trans ((List.perm_append_comm (l₁:=l) (l₂:=[⟨n,k⟩])).trans (JQ ⟨n,k⟩ l).symm)) (EY au.asc (xq.1 a7)) U;subst si;refine⟨Same.keys (by simp) (by simp),?_⟩;rw[dN];simp[cv];(with_reducible repeat' first|refine aj ?_|simp);simp[bt,jN,aX,aZ,aW];simp[fS]
   ·obtain⟨b,ae,cK⟩:=ed hi;by_cases mQ:b.v=n
    ·have a7:k0 l n=some b.k:=by rw[←mQ];exact Fb au.asc (eG ae)
     rw[a7]at dN;simp only at dN;by_cases n1:b.k=k
     ·rw[if_pos n1]at dN;rw[dN];have wT:(b.k !=k)=false:=by simp[n1]
      have q4:(b.v==n)=true:=by simp[mQ]
      simp[hi,cK];(with_reducible repeat' first|refine aj ?_|simp[cK,hi,wT,q4,n1,mQ]);simp[bt,jN,aX,aZ,aW];simp[fS]
     ·rw[if_neg n1]at dN;rw[dN];have wT:(b.k !=k)=true:=by simp[n1]
      have q4:(b.v==n)=true:=by simp[mQ]
      simp[hi,cK];(with_reducible repeat' first|refine aj ?_|simp[cK,hi,wT,q4,n1,mQ]);simp[bt,jN,aX,aZ,aW];simp[fS]
    ·have q4:(b.v==n)=false:=by simp[mQ]
     simp[hi,cK];(with_reducible repeat' first|refine aj ?_|simp[cK,hi,q4,mQ]);exact bN.rng () hi (fun j y jf aG=>by
      rcases(by omega:j<i∨j=i)with h|rfl
      ·exact af j y h aG
      ·rw[ae]at aG;cases aG;exact mQ) b0
 |nil=>
  have dN:O=if T.nil.kind=k then some l else none:=by rw[←dk];rfl
  by_cases hf:T.nil.kind=k
  ·rw[if_pos hf]at dN;rw[dN];refine bf jP qU rz fun aP=>?_;unfold qc;simp;simp at hf;rcases tD with bo|⟨bo,iR⟩
   ·((with_reducible repeat' first|refine aj ?_|refine aD cV ?_|refine aE cV ?_|refine aD dH ?_|refine aE dH ?_|refine aD dg ?_|refine aE dg ?_|refine aD fi ?_|refine aE fi ?_|simp[bo,hf]|((first|apply bP|apply bS|apply bR)<;>intro h<;>try simp at h))<;>(try exact cp));all_goals simp[bt,jN,aX,aZ,aW]
    all_goals simp[fS]
   ·((with_reducible repeat' first|refine aj ?_|refine aD cV ?_|refine aE cV ?_|refine aD dH ?_|refine aE dH ?_|refine aD dg ?_|refine aE dg ?_|refine aD fi ?_|refine aE fi ?_|simp[bo,iR,hf]|((first|apply bP|apply bS|apply bR)<;>intro h<;>try simp at h))<;>(try exact cp));all_goals simp[bt,jN,aX,aZ,aW]
    all_goals simp[fS]
  ·rw[if_neg hf]at dN;rw[dN];refine bf jP qU rz fun aP=>?_;unfold qc;simp;simp at hf;rcases tD with bo|⟨bo,iR⟩
   ·((with_reducible repeat' first|refine aj ?_|refine aD cV ?_|refine aE cV ?_|refine aD dH ?_|refine aE dH ?_|refine aD dg ?_|refine aE dg ?_|refine aD fi ?_|refine aE fi ?_|simp[bo,hf]|((first|apply bP|apply bS|apply bR)<;>intro h<;>try simp at h))<;>(try exact cp));all_goals simp[bt,jN,aX,aZ,aW]
    all_goals simp[fS]
   ·((with_reducible repeat' first|refine aj ?_|refine aD cV ?_|refine aE cV ?_|refine aD dH ?_|refine aE dH ?_|refine aD dg ?_|refine aE dg ?_|refine aD fi ?_|refine aE fi ?_|simp[bo,iR,hf]|((first|apply bP|apply bS|apply bR)<;>intro h<;>try simp at h))<;>(try exact cp));all_goals simp[bt,jN,aX,aZ,aW]
    all_goals simp[fS]
 |sym a=>
  have dN:O=if(T.sym a).kind=k then some l else none:=by rw[←dk];rfl
  by_cases hf:(T.sym a).kind=k
  ·rw[if_pos hf]at dN;rw[dN];refine bf jP qU rz fun aP=>?_;unfold qc;simp;simp at hf;rcases tD with bo|⟨bo,iR⟩
   ·((with_reducible repeat' first|refine aj ?_|refine aD cV ?_|refine aE cV ?_|refine aD dH ?_|refine aE dH ?_|refine aD dg ?_|refine aE dg ?_|refine aD fi ?_|refine aE fi ?_|simp[bo,hf]|((first|apply bP|apply bS|apply bR)<;>intro h<;>try simp at h))<;>(try exact cp));all_goals simp[bt,jN,aX,aZ,aW]
    all_goals simp[fS]
   ·((with_reducible repeat' first|refine aj ?_|refine aD cV ?_|refine aE cV ?_|refine aD dH ?_|refine aE dH ?_|refine aD dg ?_|refine aE dg ?_|refine aD fi ?_|refine aE fi ?_|simp[bo,iR,hf]|((first|apply bP|apply bS|apply bR)<;>intro h<;>try simp at h))<;>(try exact cp));all_goals simp[bt,jN,aX,aZ,aW]
    all_goals simp[fS]
  ·rw[if_neg hf]at dN;rw[dN];refine bf jP qU rz fun aP=>?_;unfold qc;simp;simp at hf;rcases tD with bo|⟨bo,iR⟩
   ·((with_reducible repeat' first|refine aj ?_|refine aD cV ?_|refine aE cV ?_|refine aD dH ?_|refine aE dH ?_|refine aD dg ?_|refine aE dg ?_|refine aD fi ?_|refine aE fi ?_|simp[bo,hf]|((first|apply bP|apply bS|apply bR)<;>intro h<;>try simp at h))<;>(try exact cp));all_goals simp[bt,jN,aX,aZ,aW]
    all_goals simp[fS]
   ·((with_reducible repeat' first|refine aj ?_|refine aD cV ?_|refine aE cV ?_|refine aD dH ?_|refine aE dH ?_|refine aD dg ?_|refine aE dg ?_|refine aD fi ?_|refine aE fi ?_|simp[bo,iR,hf]|((first|apply bP|apply bS|apply bR)<;>intro h<;>try simp at h))<;>(try exact cp));all_goals simp[bt,jN,aX,aZ,aW]
    all_goals simp[fS]
 |num a=>
  have dN:O=if(T.num a).kind=k then some l else none:=by rw[←dk];rfl
  by_cases hf:(T.num a).kind=k
  ·rw[if_pos hf]at dN;rw[dN];refine bf jP qU rz fun aP=>?_;unfold qc;simp;simp at hf;rcases tD with bo|⟨bo,iR⟩
   ·((with_reducible repeat' first|refine aj ?_|refine aD cV ?_|refine aE cV ?_|refine aD dH ?_|refine aE dH ?_|refine aD dg ?_|refine aE dg ?_|refine aD fi ?_|refine aE fi ?_|simp[bo,hf]|((first|apply bP|apply bS|apply bR)<;>intro h<;>try simp at h))<;>(try exact cp));all_goals simp[bt,jN,aX,aZ,aW]
    all_goals simp[fS]
   ·((with_reducible repeat' first|refine aj ?_|refine aD cV ?_|refine aE cV ?_|refine aD dH ?_|refine aE dH ?_|refine aD dg ?_|refine aE dg ?_|refine aD fi ?_|refine aE fi ?_|simp[bo,iR,hf]|((first|apply bP|apply bS|apply bR)<;>intro h<;>try simp at h))<;>(try exact cp));all_goals simp[bt,jN,aX,aZ,aW]
    all_goals simp[fS]
  ·rw[if_neg hf]at dN;rw[dN];refine bf jP qU rz fun aP=>?_;unfold qc;simp;simp at hf;rcases tD with bo|⟨bo,iR⟩
   ·((with_reducible repeat' first|refine aj ?_|refine aD cV ?_|refine aE cV ?_|refine aD dH ?_|refine aE dH ?_|refine aD dg ?_|refine aE dg ?_|refine aD fi ?_|refine aE fi ?_|simp[bo,hf]|((first|apply bP|apply bS|apply bR)<;>intro h<;>try simp at h))<;>(try exact cp));all_goals simp[bt,jN,aX,aZ,aW]
    all_goals simp[fS]
   ·((with_reducible repeat' first|refine aj ?_|refine aD cV ?_|refine aE cV ?_|refine aD dH ?_|refine aE dH ?_|refine aD dg ?_|refine aE dg ?_|refine aD fi ?_|refine aE fi ?_|simp[bo,iR,hf]|((first|apply bP|apply bS|apply bR)<;>intro h<;>try simp at h))<;>(try exact cp));all_goals simp[bt,jN,aX,aZ,aW]
    all_goals simp[fS]
 |pair a b=>
  have dN:O=if(T.pair a b).kind=k then some l else none:=by rw[←dk];rfl
  by_cases hf:(T.pair a b).kind=k
  ·rw[if_pos hf]at dN;rw[dN];refine bf jP qU rz fun aP=>?_;unfold qc;simp;simp at hf;rcases tD with bo|⟨bo,iR⟩
   ·((with_reducible repeat' first|refine aj ?_|refine aD cV ?_|refine aE cV ?_|refine aD dH ?_|refine aE dH ?_|refine aD dg ?_|refine aE dg ?_|refine aD fi ?_|refine aE fi ?_|simp[bo,hf]|((first|apply bP|apply bS|apply bR)<;>intro h<;>try simp at h))<;>(try exact cp));all_goals simp[bt,jN,aX,aZ,aW]
    all_goals simp[fS]
   ·((with_reducible repeat' first|refine aj ?_|refine aD cV ?_|refine aE cV ?_|refine aD dH ?_|refine aE dH ?_|refine aD dg ?_|refine aE dg ?_|refine aD fi ?_|refine aE fi ?_|simp[bo,iR,hf]|((first|apply bP|apply bS|apply bR)<;>intro h<;>try simp at h))<;>(try exact cp));all_goals simp[bt,jN,aX,aZ,aW]
    all_goals simp[fS]
  ·rw[if_neg hf]at dN;rw[dN];refine bf jP qU rz fun aP=>?_;unfold qc;simp;simp at hf;rcases tD with bo|⟨bo,iR⟩
   ·((with_reducible repeat' first|refine aj ?_|refine aD cV ?_|refine aE cV ?_|refine aD dH ?_|refine aE dH ?_|refine aD dg ?_|refine aE dg ?_|refine aD fi ?_|refine aE fi ?_|simp[bo,hf]|((first|apply bP|apply bS|apply bR)<;>intro h<;>try simp at h))<;>(try exact cp));all_goals simp[bt,jN,aX,aZ,aW]
    all_goals simp[fS]
   ·((with_reducible repeat' first|refine aj ?_|refine aD cV ?_|refine aE cV ?_|refine aD dH ?_|refine aE dH ?_|refine aD dg ?_|refine aE dg ?_|refine aD fi ?_|refine aE fi ?_|simp[bo,iR,hf]|((first|apply bP|apply bS|apply bR)<;>intro h<;>try simp at h))<;>(try exact cp));all_goals simp[bt,jN,aX,aZ,aW]
    all_goals simp[fS]
def iZ(o:aY (List bk)):ah:= .tuple [.slice 2 .no ((o.getD []).map bk.e),.bool o.isSome]
@[simp] theorem apa(S:aH→Prop)(o:aY (List bk)):aC S (iZ o)=True:=by simp[iZ]
theorem Ws{l:List bk}(h:hB l):bH al 88 [.slice 2 .no (l.map bk.e)] (.bool true):=by have:=Wr l;simpa only[h,decide_true]using this
theorem ak3{s:List dz}(h:jw s=true):bH al 160 [.str s] (.bool true):=by have:=sR s;rwa[h]at this
def Cg(l:List bk):List ah:=l.flatMap fun m=>[m.e,.bool true]
theorem Tx(l:List bk):nz l= .hdm l.length (List.range l.length)::Cg l:=rfl
theorem Km(b:Nat):∀(n:Nat) (l:List bk),mv b (List.range' n l.length) (Cg l)=(if n≤b then(l[b-n]?).map fun x=>.tuple [x.e,.bool true]else none)
 |n,[]=>by simp[mv,Cg]
 |n,x::r=>by
  have e:Cg (x::r)=x.e:: .bool true::Cg r:=rfl;simp only[p2,List.range'_succ,e,mv];by_cases h:n=b
  ·subst h;simp
  ·rw[if_neg h,Km b (n+1) r];by_cases U:n≤b
   ·rw[if_pos U,if_pos (by omega)];have:b-n=(b-(n+1))+1:=by omega
    rw[this];simp
   ·rw[if_neg U,if_neg (by omega)]
@[simp] theorem apU(l:List bk):hM (nz l)=false:=rfl
@[simp] theorem aqJ(m:aH)(l:List bk):vM m (nz l)=some (cd l.length [] m):=rfl
theorem afW(f:aH→aY (List ah))(fh mk:aH)(n:Nat)(seen:List Nat)(b:Nat)(l:List bk)(x:bk)(hi:f fh=some (cd n (seen++[b]) mk))(hm:f mk=some (nz l))(aA:n=l.length)(ab:l[b]? =some x):o3 f (.ptr fh 0)=some (True,.tuple [x.e,.bool true]):=by subst aA;simp only[TH,hi,hm,cd,Tx,List.getLast?_append,List.getLast?_singleton,Option.some_or,List.range_eq_range',Km,Nat.zero_le,if_true,Nat.sub_zero,Option.map_map];simp[ab]
theorem Zf{st:bq}{d:Nat}{K:bq→Prop}{fh mk:aH}{n:Nat}{seen:List Nat}{l:List bk}(hi:Pv.look fh st.b=some (cd n seen mk))(hm:Pv.look mk st.b=some (nz l))(aA:n=l.length)
  (J:(∀b,b<l.length→b∈seen)→K {st with t:=Pv.put d (.tuple [.bool false]) st.t}) (U:∀b x,l[b]? =some x→b∉seen→K {st with t:=Pv.put d (.tuple [.bool true,x.e,.bool true]) st.t,b:=cx fh (cd n (seen++[b]) mk) st.b}):
  r5 st d (.ptr fh 0) K:=by
 subst aA;simp only[r5,hi,cd,hm,Tx,Kz,and_self,true_and];refine⟨fun h=>J fun b ae=>h b (by simpa using ae),fun b k v w9 ae=>?_⟩;rw[List.range_eq_range',Km]at w9;simp only[Nat.zero_le,if_true,Nat.sub_zero,gF,ah.tuple.injEq,p0,and_true]at w9;obtain⟨x,ak,aB,bj⟩:=w9;subst aB bj;exact U b x ak ae
theorem afR{m x:bk}{l:List bk}:x∈kR m l↔x=m∨x∈l:=by
 unfold kR;split
 ·constructor
  ·exact .inr
  ·rintro(rfl|h)<;>assumption
 ·simp[or_comm]
theorem XG{m:bk}{l:List bk}(h:l.Nodup):(kR m l).Nodup:=by
 unfold kR;split
 ·exact h
 ·rw[List.nodup_append];exact⟨h,by simp,fun a bF b ae=>by simp at ae;subst ae;intro e;subst e;contradiction⟩
theorem XF(m:bk)(l:List bk):(kR m l).length≤l.length+1:=by unfold kR;split<;>simp
theorem ab6(s:List dz)(t:T):∀l:List bk,(t.fold (fun v l=>kR ⟨v,s⟩ l) l).length≤l.length+t.size:=by
 induction t with
 |var n=>intro l;simp only[T.fold,T.size];exact XF _ _
 |pair a b dR dS=>intro l;simp only[T.fold,T.size];have:=dR l;have:=dS (a.fold (fun v l=>kR ⟨v,s⟩ l) l);omega
 |_=>intro l;simp[T.fold,T.size]
theorem ab7(s:List dz)(t:T):∀{l:List bk},l.Nodup→(t.fold (fun v l=>kR ⟨v,s⟩ l) l).Nodup:=by
 induction t with
 |var n=>intro l h;exact XG h
 |pair a b dR dS=>intro l h;exact dS (dR h)
 |_=>intro l h;exact h
theorem afS(s:List dz)(t:T)(x:bk):∀{l:List bk},x∈t.fold (fun v l=>kR ⟨v,s⟩ l) l↔x∈l∨(x.s=s∧t.occ x.v=true):=by
 induction t with
 |var n=>
  intro l;simp only[T.fold,afR,T.occ,dL];constructor
  ·rintro(rfl|h)
   ·exact .inr ⟨rfl,rfl⟩
   ·exact .inl h
  ·rintro(h|⟨J,U⟩)
   ·exact .inr h
   ·left;cases x;simp at J U;subst J U;rfl
 |pair a b dR dS=>
  intro l;simp only[T.fold,dS,dR,T.occ,mB];constructor
  ·rintro((h|h)|h)
   ·exact .inl h
   ·exact .inr ⟨h.1,.inl h.2⟩
   ·exact .inr ⟨h.1,.inr h.2⟩
  ·rintro(h|⟨J,U|U⟩)
   ·exact .inl (.inl h)
   ·exact .inl (.inr ⟨J,U⟩)
   ·exact .inr ⟨J,U⟩
 |_=>intro l;simp[T.fold,T.occ]
def ae4(M:List bk)(k:Nat)(st:bq):Prop:=∃(seen:List Nat) (xs:List bk),seen.Nodup∧(∀b∈seen,b<M.length)∧k=M.length-seen.length∧xs=seen.filterMap (fun b=>M[b]?)∧xs.length=seen.length∧st=⟨[(15,.ptr (.obj 815) 0),(63,.ptr (.loc 2) 0)],[(.obj 812,nz M),(.loc 2,cd M.length seen (.obj 812)),(.obj 815,[.row 2 (.obj 814) xs.length])],[(.obj 814,⟨xs.length,100,2,some (xs.map bk.e)⟩)],3,[.obj 815,.obj 814,.obj 813,.obj 812,.obj 811]⟩
set_option maxRecDepth 4000 in
theorem akY{s:List ar}(ag:eM s){l:List bk}(au:hB l)(w7:l.length≤68719470000)(t:T)(aN:t.fit=true){g:List dz}(a7:jw g=true):
  bH al 120 [.slice 5 .no (s.map ar.e),.slice 2 .no (l.map bk.e),t.e,.str g] (iZ (if(t.ap (cB s)).size≤5000 then lJ l (t.ap (cB s)) g else none)):=by
 have cV:=pb ag;have dH:=Db aN;have dU:=Ws au;have hL:=ak3 a7;have fi:=GW s t ag.len ag.sol.asc ag.fit;generalize ab:t.ap (cB s)=x at fi⊢;generalize dk:(if x.size≤5000 then lJ l x g else none)=O;by_cases bD:x.size≤5000;rotate_left
 ·rw[if_neg bD]at dk;rw[←dk];rw[if_neg bD,jH bD]at fi;refine bf jP Ih KF fun aP=>?_;unfold DF;simp;(with_reducible repeat' first|refine aj ?_|refine aD cV ?_|refine aE cV ?_|refine aD dH ?_|refine aE dH ?_|refine aD dU ?_|refine aE dU ?_|refine aD hL ?_|refine aE hL ?_|refine aD fi ?_|refine aE fi ?_|simp);simp[bt,FT,aX,aZ,aW];simp[iZ]
 rw[if_pos bD]at dk;rw[if_pos bD,jk bD]at fi;have zq:=alv g x;cases cO:x.has g;rotate_left
 ·rw[cO]at zq;have dN:O=none:=by rw[←dk];unfold lJ;rw[cO];rfl
  rw[dN];refine bf jP Ih KF fun aP=>?_;unfold DF;simp;(with_reducible repeat' first|refine aj ?_|refine aD cV ?_|refine aE cV ?_|refine aD dH ?_|refine aE dH ?_|refine aD dU ?_|refine aE dU ?_|refine aD hL ?_|refine aE hL ?_|refine aD fi ?_|refine aE fi ?_|refine aD zq ?_|refine aE zq ?_|simp);simp[bt,FT,aX,aZ,aW];simp[iZ]
 rw[cO]at zq;refine bf jP Ih KF fun aP=>?_;unfold DF;simp;(with_reducible repeat' first|refine aj ?_|refine aD cV ?_|refine aE cV ?_|refine aD dH ?_|refine aE dH ?_|refine aD dU ?_|refine aE dU ?_|refine aD hL ?_|refine aE hL ?_|refine aD fi ?_|refine aE fi ?_|refine aD zq ?_|refine aE zq ?_|simp);have BF:l.Nodup:=hF.nodup lz au.asc;have h4:∀xs:List bk,xs.Perm (x.fold (fun v l=>kR ⟨v,g⟩ l) l)→O=some (oq e9 xs):=fun xs bJ=>by
  rw[←dk];refine Hh cO ?_ fun y=>?_
  ·have J:=LY lz xs;have U:(oq e9 xs).Nodup:=(((x3 e9 xs).trans bJ).nodup_iff).2 (ab7 g x BF);exact(J.and U).imp fun{a b} h=>by have:=mt (lz.zero a b).1 h.2;omega
  ·rw[((x3 e9 xs).trans bJ).mem_iff,afS]
 have hlen:(x.fold (fun v l=>kR ⟨v,g⟩ l) l).length≤68719475000:=by have:=ab6 g x l;omega
 rw[show jz []=nz []from rfl];refine hQ (fun i (_:Unit)=>⟨[(7,.ptr (.obj 811) 0),(10,.ptr (.loc 1) 0),(12,.ptr (.obj 813) 0),(49,.slice 2 .no (l.map bk.e)),(50,.int .i64 l.length),(51,.int .i64 i)],[(.obj 811,[.str g]),(.loc 1,[.int .i64 x.kind,.int .i64 x.int,.str x.name,.slice 4 .no (x.args.map T.e)]),(.obj 812,nz (l.take i)),(.obj 813,[.gmap (.obj 812)])],[],2,[.obj 813,.obj 812,.obj 811]⟩) l.length (fun _ _=>True) () b0 trivial (fun _ _ _=>?_) (fun i _ hi _ _=>?_)
 ·rw[nL];simp;(with_reducible repeat' first|refine aj ?_|simp);have key:=QQ (nP g) (Du g) (Ha g) 184 [.ptr (.obj 813) 0,.ptr (.obj 811) 0] (by intro a;simp[inObs,nP,Pv.look,aK,aC]) (by simp) (fun v l=>kR ⟨v,g⟩ l) (fun v a=>acf g v a) x l;refine c7.ob key (Du g l) (by unfold nP;exact aR) (by unfold nP;exact aR) (by simp[inObs,nP,Pv.look]) ?_;rintro r ai ⟨rfl,rfl⟩;refine⟨Ha g _ _,?_⟩;unfold nP;generalize dT:x.fold (fun v l=>kR ⟨v,g⟩ l) l=M at h4 hlen⊢;simp[cv];(with_reducible repeat' first|refine aj ?_|simp);refine oR (ae4 M) M.length _ ⟨by simp[fresh,aK,aC,cd,inObs,Pv.look,zt],dZ (by simp[fresh,aK,aC,cd,inObs,Pv.look,zt]),ea (by simp[fresh,aK,aC,dQ,inObs,Pv.look,zt]),by simp⟩ ⟨[],[],by simp,by simp,by simp,by simp,by simp,rfl⟩ ?_;rintro k st ⟨seen,xs,aQ,bC,ad,Si,jY,rfl⟩ kE cQ;clear kE cQ;have hle:=Gs aQ bC;simp;refine Zf (mk:= .obj 812) (seen:=seen) (l:=M) (by simp) (by simp) rfl (fun lf=>?_) (fun b y aG ae=>?_)
  ·have vc:=LP aQ bC lf;rw[←Si]at vc;have dD:=h4 xs vc;simp;(with_reducible repeat' first|refine aj ?_|simp);have key:=acO xs (by omega);have eW:=G9 xs;unfold wm dM at key eW;refine c7.ob key eW aR aR (by simp[inObs,Pv.look]) ?_;rintro r ai ⟨rfl,rfl⟩;refine⟨Same.keys (by simp) (by simp),?_⟩;rw[dD];simp[cv];(with_reducible repeat' first|refine aj ?_|simp);simp[bt,FT,aX,aZ,aW];simp[iZ]
  ·have y5:∀f:aH→aY (List ah),f (.loc 2)=some (cd M.length (seen++[b]) (.obj 812))→f (.obj 812)=some (nz M)→o3 f (.ptr (.loc 2) 0)=some (True,.tuple [y.e,.bool true]):=fun f J U=>afW f (.loc 2) (.obj 812) M.length seen b M y J U rfl aG;have fw:b<M.length:=(fL.1 aG).1;have pD:=LQ aQ bC fw ae;simp[y5];(with_reducible repeat' first|refine aj ?_|simp[y5]);all_goals first|(refine⟨by unfold lim;omega,?_⟩)|skip
   have w4:∀S:aH→Prop,aK S (xs.map bk.e++[y.e])=True:=fun S=>by
    have e:xs.map bk.e++[y.e]=(xs++[y]).map bk.e:=by simp
    rw[e];simp[-List.map_append]
   refine bN.next (M.length-(seen.length+1)) (by omega) ⟨seen++[b],xs++[y],KD aQ ae,(by simp;intro c ax;rcases ax with ax|rfl;exact bC c ax;exact fw),by simp,by rw[List.filterMap_append,←Si];simp[aG],by simp[jY],rfl⟩ ⟨by simp[fresh,aK,aC,cd,inObs,Pv.look,zt,w4],dZ (by simp[fresh,aK,aC,cd,inObs,Pv.look,zt,w4]),ea (by simp[fresh,aK,aC,dQ,inObs,Pv.look,zt,w4]),by simp⟩
 ·obtain⟨b,ae,cK⟩:=ed hi;have kj:kR b (l.take i)=l.take (i+1):=by
   have J:b∉l.take i:=fun h=>by
    obtain⟨j,af,e⟩:=ni h;have jf:j<i:=by simp at af;omega
    rw[List.getElem_take]at e;have:=(List.nodup_iff_pairwise_ne.1 BF);exact(pg.1 this j i (by omega) hi jf) (by rw[e,cK])
   rw[List.take_succ,ae];simp[kR,J]
  exact hN
def NP:C:=(aa [be 4 false] (.seq (aa [I 7 0,cl 8 7,bW 9 0] (ft 10 9 8 (.seq (.block 1 (aa [cu 11 5 7 9,aV 12 5 11,dj 6 jy,bL 5 6 12] (aa [aF 13 0 1 6,av 14 1 13,I 15 1,bm 16 .geq 14 15,I 17 16,aq 17 false (hC 18 1 4 6),aq 17 false (aV 19 4 18),ys 17 false (.bsl 20 4 30 [.t 19]),aq 17 false (cE 21 162 20),b3 17 false 22 1,aq 17 false (bm 23 .gtr 21 22),c6 24 17 23] (aS 24 (aa [be 4 false] .ret) .skip)))) (.region [aU 25 .add 9 1,I 9 25])))) (aa [be 4 true] .ret)))
@[simp] def aiP:List bs:=[.tmp 4]
def NO:C:=(aa [bW 2 0] (.seq (aa [I 6 0,cE 7 172 6,cw 8 7] (aS 8 (aa [bW 2 (-1)] .ret) .skip)) (aa [c1 (.alloc 3 (some 831) (.int .i64 0)),c1 (.store 1 (.t 3) (gd 0))] (.seq (aa [I 9 0,cl 10 9,bW 11 0] (ft 12 11 10 (.seq (.block 1 (aa [cu 13 4 9 11,aV 14 4 13,dj 5 dP,bL 4 5 14] (.region [aV 15 4 5,b5 16 (.mkf 204 [.t 3]),ca 17 134 15 16]))) (.region [aU 18 .add 11 1,I 11 18])))) (aa [av 19 1 3,I 2 19] .ret)))))
@[simp] def aiN:List bs:=[.tmp 2]
def NJ:C:=(aa [eE 4 2,be 5 false] (.seq (aa [I 11 0,cE 12 86 11,cw 13 12,I 14 13,b3 14 false 15 1,aq 14 false (cE 16 87 15),aq 14 false (cw 17 16),c6 18 14 17] (aS 18 (aa [eE 4 2,be 5 false] .ret) .skip)) (aa [ek 19 2 98 [],I 6 19] (.seq (.seq (.fg false 6 (.region [I 20 1,cl 21 20,bW 22 0])) (ft 23 22 21 (.seq (.block 1 (aa [cu 24 2 20 22,aV 25 2 24,c1 (.alloc 8 none (.agg [.int .i64 0,.int .i64 0])),bL 2 8 25] (.seq (.drawn true 42 [I 27 0,I 28 6,aF 29 0 1 8,av 30 1 29,cE 31 116 30,aF 32 1 1 8,av 33 1 32,dp 34 118 [.t 27,.t 28,.t 31,.t 33],I 26 34,cD 35 0 26,cD 36 1 26,I 9 35,I 10 36]) (.seq (aa [I 37 10,cw 38 37] (aS 38 (aa [eE 4 2,be 5 false] .ret) .skip)) (.region [I 39 9,I 6 39]))))) (.region [aU 40 .add 22 1,I 22 40])))) (aa [I 41 6,I 4 41,be 5 true] .ret)))))
@[simp] def K5:List bs:=[.tmp 4,.tmp 5]
def NK:C:=(aa [eE 4 2,be 5 false] (.seq (aa [I 11 0,cE 12 86 11,cw 13 12,I 14 13,b3 14 false 15 1,aq 14 false (cE 16 88 15),aq 14 false (cw 17 16),c6 18 14 17] (aS 18 (aa [eE 4 2,be 5 false] .ret) .skip)) (aa [ek 19 2 100 [],I 6 19] (.seq (.seq (.fg false 6 (.region [I 20 1,cl 21 20,bW 22 0])) (ft 23 22 21 (.seq (.block 1 (aa [cu 24 2 20 22,aV 25 2 24,c1 (.alloc 8 none (.agg [.int .i64 0,.str []])),bL 2 8 25] (.seq (.drawn true 42 [I 27 0,I 28 6,aF 29 0 1 8,av 30 1 29,cE 31 116 30,aF 32 1 1 8,av 33 1 32,dp 34 120 [.t 27,.t 28,.t 31,.t 33],I 26 34,cD 35 0 26,cD 36 1 26,I 9 35,I 10 36]) (.seq (aa [I 37 10,cw 38 37] (aS 38 (aa [eE 4 2,be 5 false] .ret) .skip)) (.region [I 39 9,I 6 39]))))) (.region [aU 40 .add 22 1,I 22 40])))) (aa [I 41 6,I 4 41,be 5 true] .ret)))))
@[simp] def K6:List bs:=[.tmp 4,.tmp 5]
def NG:C:=(aa [eE 2 1] (.seq (aa [I 12 0,cl 13 12,bW 14 0] (ft 15 14 13 (.seq (.block 1 (aa [cu 16 1 12 14,av 17 1 16,I 4 17] (aa [I 18 4,cE 19 86 18,cw 20 19] (aS 20 (aa [eE 2 1] .ret) .skip)))) (.region [aU 21 .add 14 1,I 14 21])))) (aa [c1 (.bslm 22 (some 821) 1 46 []),I 23 0,c1 (.appm 24 none 1 46 (.t 22) (.t 23)),c1 (.alloc 5 (some 822) (.slice 1 .nil [])),bL 1 5 24] (aa [av 25 1 5,b5 26 (.mkif 47 (.t 25)),b5 27 (.mkf 206 [.t 5]),ca 28 140 26 27] (aa [ek 29 1 46 [],I 6 29] (.seq (aa [av 30 1 5,cl 31 30,bW 32 0] (.block 2 (.loop (aa [bm 33 .lss 32 31] (.seq (aS 33 .skip (.exit 2)) (.seq (.block 3 (aa [I 34 32,cu 35 1 30 32,av 36 1 35,I 7 34,I 8 36] (.seq (aa [I 37 7,aU 38 .gtr 37 0,I 39 38,aq 39 true (av 40 1 5),b3 39 true 41 7,aq 39 true (aU 42 .sub 41 1),aq 39 true (cu 43 1 40 42),aq 39 true (av 44 1 43),b3 39 true 45 8,aq 39 true (ca 46 207 44 45),aq 39 true (aU 47 .eql 46 0),dx 48 39 47] (aS 48 (.exit 3) .skip)) (aa [be 9 true] (.seq (aa [av 49 1 5,cl 50 49,bW 51 0] (.block 4 (.loop (aa [bm 52 .lss 51 50] (.seq (aS 52 .skip (.exit 4)) (.seq (.block 5 (aa [cu 53 1 49 51,av 54 1 53,I 11 54] (aa [I 55 11,I 56 8,ca 57 207 55 56,aU 58 .neq 57 0,I 59 58,b3 59 true 60 11,b3 59 true 61 8,aq 59 true (ca 62 208 60 61),dx 63 59 62] (aS 63 (.region [be 9 false]) .skip)))) (.region [aU 64 .add 51 1,I 51 64]))))))) (aa [I 65 9] (aS 65 (.region [I 66 6,I 67 8,cE 68 168 67,ek 69 1 46 [.t 68],gO 70 1 46 66 69,I 6 70]) .skip))))))) (.region [aU 71 .add 32 1,I 32 71]))))))) (aa [I 72 6,I 2 72] .ret)))))))
@[simp] def aiI:List bs:=[.tmp 2]
def Hz:C:=(.region [av 3 1 1,I 4 0,aU 5 .add 4 1,b5 6 (.max2 (.t 3) (.t 5)),bL 1 1 6])
@[simp] def K8:List bs:=[]
def NH:C:=(aa [be 5 false] (.seq (.drawn true 16 [av 6 1 2,I 7 0,cu 8 1 6 7,av 9 1 8,av 10 1 2,I 11 1,cu 12 1 10 11,av 13 1 12,ca 14 207 9 13,aU 15 .lss 14 0,I 5 15]) .ret))
@[simp] def UI:List bs:=[.tmp 5]
def vV:List (Nat×dB):=[
 (3,⟨1,8,.int .i64,.int .i64 0⟩),
 (9,⟨1,16,.str,.str []⟩),
 (27,⟨1,24,.slice 30,.slice 4 .nil []⟩),
 (30,⟨4,56,.struct [(0,3),(1,3),(2,9),(3,27)],.agg [.int .i64 0,.int .i64 0,.str [],.slice 4 .nil []]⟩),
 (46,⟨1,24,.slice 113,.slice 5 .nil []⟩),
 (47,⟨1,24,.slice 46,.slice 1 .nil []⟩),
 (48,⟨1,24,.slice 98,.slice 2 .nil []⟩),
 (49,⟨1,24,.slice 100,.slice 2 .nil []⟩),
 (98,⟨2,16,.struct [(0,3),(1,3)],.agg [.int .i64 0,.int .i64 0]⟩),
 (100,⟨2,24,.struct [(0,3),(1,9)],.agg [.int .i64 0,.str []]⟩),
 (113,⟨5,64,.struct [(0,3),(1,30)],.agg [.int .i64 0,.int .i64 0,.int .i64 0,.str [],.slice 4 .nil []]⟩)]
theorem vX:fN al vV=true:=by kernel_rfl
theorem agL:bY vV NP aiP 2 Tryz.f89=true:=by kernel_rfl
theorem aal:al.funcs[(89:Nat)]? =some Tryz.f89:=Tryz.func89
theorem agK:bY vV NO aiN 1 Tryz.f162=true:=by kernel_rfl
theorem aak:al.funcs[(162:Nat)]? =some Tryz.f162:=Tryz.func162
theorem agF:bY vV NJ K5 2 Tryz.f163=true:=by kernel_rfl
theorem aaf:al.funcs[(163:Nat)]? =some Tryz.f163:=Tryz.func163
theorem agG:bY vV NK K6 2 Tryz.f164=true:=by kernel_rfl
theorem aag:al.funcs[(164:Nat)]? =some Tryz.f164:=Tryz.func164
theorem agC:bY vV NG aiI 1 Tryz.f167=true:=by kernel_rfl
theorem aac:al.funcs[(167:Nat)]? =some Tryz.f167:=Tryz.func167
theorem T6:bY vV Hz K8 2 Tryz.f204=true:=by kernel_rfl
theorem Qi:al.funcs[(204:Nat)]? =some Tryz.f204:=Tryz.func204
theorem agD:bY vV NH UI 3 Tryz.f206=true:=by kernel_rfl
theorem aad:al.funcs[(206:Nat)]? =some Tryz.f206:=Tryz.func206
def Sz(s:List ar)(l:List bK)(i:Nat)(a:List bK):Prop:=iU a∧ga s (l.drop i) a=ga s l []
theorem Wt{s:List ar}(ag:eM s){l:List bK}(au:iU l):bH al 163 [.slice 5 .no (s.map ar.e),.slice 2 .no (l.map bK.e)] (fS (ga s l [])):=by
 have w7:=su au;have cV:=pb ag;have dg:=Wq au;refine bf vX aaf agF fun aP=>?_;unfold NJ;simp;(with_reducible repeat' first|refine aj ?_|refine aD cV ?_|refine aE cV ?_|refine aD dg ?_|refine aE dg ?_|simp);refine dW [0,20,21] (fun i (a:List bK)=>[(6,.slice 2 .no (a.map bK.e)),(22,.int .i64 i)]) l.length (Sz s l) [] b0 ⟨⟨by simp,by simp⟩,rfl⟩ (fun a af _=>?_) (fun i a hi af _=>?_)
 ·obtain⟨_,af⟩:=af;rw[List.drop_length]at af;simp only[ga]at af;rw[←af];simp;(with_reducible repeat' first|refine aj ?_|simp);simp[bt,K5,aX,aZ,aW];simp[fS]
 ·obtain⟨bF,af⟩:=af;obtain⟨b,ae,cK⟩:=ed hi;have nZ:=au.at' b (eG ae);rw[k7 hi,cK]at af;simp only[ga]at af;have gj:=akZ ag bF (.var b.v) (by simp[T.fit,T.ok,T.size,nZ.1]) b.k;have bD:((T.var b.v).ap (cB s)).size≤5000:=CW ag b.v;rw[if_pos ⟨nZ.2,bD⟩,show(T.var b.v).ap (cB s)=cB s b.v from rfl]at gj;simp[hi,cK];cases dN:j7 a (cB s b.v) b.k with
  |none=>rw[dN]at af gj;simp only at af;rw[←af];simp only[fS]at gj;(with_reducible repeat' first|refine aj ?_|refine aD (kM _) ?_|refine aE (kM _) ?_|refine aD gj ?_|refine aE gj ?_|simp[cK,hi]);simp[bt,K5,aX,aZ,aW];simp[fS]
  |some bn=>rw[dN]at af gj;simp only[fS]at gj;(with_reducible repeat' first|refine aj ?_|refine aD (kM _) ?_|refine aE (kM _) ?_|refine aD gj ?_|refine aE gj ?_|simp[cK,hi]);exact bN.rng bn hi ⟨Hg bF (Ae ag nZ.1) nZ.2 dN,af⟩ b0
def SA(s:List ar)(G:List (List dz))(l:List bk)(i:Nat)(a:List bk):Prop:=hB a∧nE G a∧gb s (l.drop i) a=gb s l []
theorem Wu{s:List ar}(ag:eM s){l:List bk}(au:hB l){G:List (List dz)}(kf:G.length≤687000)(a7:nE G l):bH al 164 [.slice 5 .no (s.map ar.e),.slice 2 .no (l.map bk.e)] (iZ (gb s l [])):=by
 have hlen:∀{a:List bk},hB a→nE G a→a.length≤68719470000:=fun J U=>by have:=Ch J U;omega
 have w7:=hlen au a7;have cV:=pb ag;have dg:=Ws au;refine bf vX aag agG fun aP=>?_;unfold NK;simp;(with_reducible repeat' first|refine aj ?_|refine aD cV ?_|refine aE cV ?_|refine aD dg ?_|refine aE dg ?_|simp);refine dW [0,20,21] (fun i (a:List bk)=>[(6,.slice 2 .no (a.map bk.e)),(22,.int .i64 i)]) l.length (SA s G l) [] b0 ⟨⟨by simp,by simp[hF]⟩,fun x ab=>by simp at ab,rfl⟩ (fun a af _=>?_) (fun i a hi af _=>?_)
 ·obtain⟨_,_,af⟩:=af;rw[List.drop_length]at af;simp only[gb]at af;rw[←af];simp;(with_reducible repeat' first|refine aj ?_|simp);simp[bt,K6,aX,aZ,aW];simp[iZ]
 ·obtain⟨bF,BT,af⟩:=af;obtain⟨b,ae,cK⟩:=ed hi;have nZ:=au.at' b (eG ae);have I1:=a7 b (eG ae);rw[k7 hi,cK]at af;simp only[gb]at af;have gj:=akY ag bF (hlen bF BT) (.var b.v) (by simp[T.fit,T.ok,T.size,nZ.1]) nZ.2;have bD:((T.var b.v).ap (cB s)).size≤5000:=CW ag b.v;rw[if_pos bD,show(T.var b.v).ap (cB s)=cB s b.v from rfl]at gj;simp[hi,cK];cases dN:lJ a (cB s b.v) b.s with
  |none=>rw[dN]at af gj;simp only at af;rw[←af];simp only[iZ]at gj;(with_reducible repeat' first|refine aj ?_|refine aD (kM _) ?_|refine aE (kM _) ?_|refine aD gj ?_|refine aE gj ?_|simp[cK,hi]);simp[bt,K6,aX,aZ,aW];simp[iZ]
  |some bn=>rw[dN]at af gj;simp only[iZ]at gj;(with_reducible repeat' first|refine aj ?_|refine aD (kM _) ?_|refine aE (kM _) ?_|refine aD gj ?_|refine aE gj ?_|simp[cK,hi]);exact bN.rng bn hi ⟨Hi bF (Ae ag nZ.1) nZ.2 dN,Hj BT I1 dN,af⟩ b0
end Go.Proofs.YtahlgcidhnjlbaaGreat
namespace Go.Proofs.YtahlgcidhnjlbaaGreat
open Go Go.Pv Go.Lib
def cH(d:List ar):ah:= .slice 5 .no (d.map ar.e)
@[simp] theorem aoU(S:aH→Prop)(d:List ar):aC S (cH d)=True:=by simp[cH]
@[simp] theorem am1(d:List ar):cells (cH d)=[cH d]:=rfl
@[simp] theorem aqZ(d:List ar):dY (cH d)=true:=rfl
@[simp] theorem arv(d:List ar):ds (cH d)=cH d:=by simp[cH]
theorem PV:∀(S:aH→Prop) (x:List ar),aC S (cH x):=fun S x=>by simp
theorem J3(S:aH→Prop):∀l:List (List ar),aK S (l.map cH)
 |[]=>by simp[aK]
 |x::xs=>by simp[aK,J3 S xs]
@[simp] theorem Ta(S:aH→Prop)(l:List (List ar)):aK S (l.map cH)=True:=eq_true (J3 S l)
@[simp] theorem L3:∀l:List (List ar),cY (l.map cH)=l.map cH
 |[]=>rfl
 |x::xs=>by simp[cY,L3 xs]
def fW(d:List cT):ah:= .slice 5 .no (d.map cT.e)
@[simp] theorem am4(d:List cT):cells (fW d)=[fW d]:=rfl
@[simp] theorem aq2(d:List cT):dY (fW d)=true:=rfl
theorem H3(d:List ar):fW (d.map ar.b)=cH d:=by simp only[fW,cH,xy]
theorem H4(l:List (List ar)):(l.map fun d=>d.map ar.b).map fW=l.map cH:=by rw[List.map_map];exact List.map_congr_left fun d _=>H3 d
@[simp] theorem aoX(S:aH→Prop)(d:List cT):aC S (fW d)=True:=by simp[fW]
@[simp] theorem ary(d:List cT):ds (fW d)=fW d:=by simp[fW]
theorem Tc(S:aH→Prop):∀l:List (List cT),aK S (l.map fW)
 |[]=>by simp[aK]
 |x::xs=>by simp[aK,Tc S xs]
@[simp] theorem aoP(S:aH→Prop)(l:List (List cT)):aK S (l.map fW)=True:=eq_true (Tc S l)
abbrev s8(l:List (List ar)):cJ:=dM cH 821 822 46 1 l
theorem G6(l:List (List ar)):eo (s8 l):=wo PV l
theorem aci(l:List (List ar))(au:l.length≤68719476736)(i j:Nat)(x y:List ar)(hi:l[i]? =some x)(af:l[j]? =some y):bQ al 206 [.int .i64 i,.int .i64 j,.ptr (.obj 822) 0] (s8 l) fun r ai=>r= .bool (hA eu x y)∧ai=s8 l:=by have ag:=G6 l;obtain⟨lQ,ht⟩:=fL.1 hi;obtain⟨dX,pA⟩:=fL.1 af;have aT:bH al 207 [cH x,cH y] (.int .i64 (eu x y)):=GU x y;unfold s8 dM at ag⊢;refine bQ.mk mixed vX aad agD (by simp) ag.obj fun aP cQ=>?_;unfold NH;simp[lQ,dX,ht,pA];(with_reducible repeat' first|refine aj ?_|refine aD aT ?_|refine aE aT ?_|simp[lQ,dX,ht,pA]);refine cR.at _ (.inl rfl) ag (Same.refl _) aR aR ?_;simp[cX,UI,aX,aZ,aW,hA]
noncomputable def Tryz.dsT:TypeInfo:=(al.info? 47).get (by kernel_rfl)
noncomputable def Tryz.dsE:TypeInfo:=(al.info? 46).get (by kernel_rfl)
theorem Tryz.dsK(n:Nat)(U:2≤n):Lib.swapperK n Tryz.dsE 23=9:=by
 have a:Tryz.dsE.hasPointers=true:=by kernel_rfl
 have b:Tryz.dsE.bytes=24:=by kernel_rfl
 have c:(n==0)=false:=by simp;omega
 have d:(n==1)=false:=by simp;omega
 simp[Lib.swapperK,a,b,c,d]
theorem acM(l:List (List ar))(au:l.length≤68719476736):bQ al 140 [.iface 47 (.row 1 (.obj 821) l.length),.func 206 [.ptr (.obj 822) 0]] (s8 l) fun r ai=>r= .tuple []∧ai=s8 (oq eu l):=by
 refine(acm PV (K:=821) (B:=822) (sz:=1) 47 Tryz.dsT Tryz.dsE (by kernel_rfl) (by kernel_rfl) (by kernel_rfl) (by kernel_rfl) 23 (fun _=>by kernel_rfl) Tryz.dsK 206 (hA eu) ly.ltOk l au (fun a1 h i j x y hi af=>aci a1 (by omega) i j x y hi af) (fun a1 h i j hi af=>?_)).mono ?_
 ·have:=QZ (P:=al) false 230 (fun args W=>run_callFunc_extern Tryz.func230 (by kernel_rfl) (by kernel_rfl) (by kernel_rfl) (e:=Dm false) (by kernel_rfl) args W)
   46 Tryz.dsE (by kernel_rfl) (.inr ⟨by kernel_rfl,fun _=>by kernel_rfl⟩) (G6 a1) (K:=821) (n:=l.length) (el:=46) (sz:=1) (by kernel_rfl) (xs:=a1.map cH) (by simp[dM,Pv.look,h]) i j hi af
  refine this.mono ?_;rintro r ai ⟨rfl,rfl⟩;refine⟨rfl,?_⟩;simp[dM,cx,Tu,h]
 ·rintro r ai ⟨rfl,a1,rfl,J,U⟩;exact⟨rfl,by rw[VW ly J U]⟩
end Go.Proofs.YtahlgcidhnjlbaaGreat
namespace Go.Proofs.YtahlgcidhnjlbaaGreat
open Go Go.Pv
inductive gQ where
 |s (l:List dz)
 |b (x:ByteArray)
def gQ.e:gQ→ah
 | .s l=>.str l
 | .b x=>.cst (.string x)
def gQ.len:gQ→Int
 | .s l=>l.length
 | .b x=>x.size
def my(n:Nat):Prop:=lim<n∧n≤9223372036854775807
def gQ.wf:gQ→Prop
 | .s _=>True
 | .b x=>my x.size
inductive c3 (α:Type) where
 |l (xs:List α)
 |b (p:aY Addr) (n cap:Nat)
def c3.e{α:Type}(sz:Nat)(f:α→ah):c3 α→ah
 | .l xs=>.slice sz .no (xs.map f)
 | .b p n cap=>.cst (.slice p n cap)
def c3.wf{α:Type}(P:α→Prop):c3 α→Prop
 | .l xs=> ∀x∈xs,P x
 | .b _ n _=>my n
inductive cq where
 |mk (k n:Int) (s:gQ) (a:List cq)
 |big (k n:Int) (s:gQ) (p:aY Addr) (len cap:Nat)
mutual
def cq.e:cq→ah
 | .mk k n s a=>.agg [.int .i64 k,.int .i64 n,s.e,.slice 4 .no (cq.eL a)]
 | .big k n s p len cap=>.agg [.int .i64 k,.int .i64 n,s.e,.cst (.slice p len cap)]
def cq.eL:List cq→List ah
 |[]=>[]
 |x::xs=>x.e::cq.eL xs
end
theorem cq.eL_map:∀l,cq.eL l=l.map cq.e
 |[]=>rfl
 |x::xs=>by simp[cq.eL,cq.eL_map xs]
def cq.kind:cq→Int| .mk k _ _ _=>k| .big k _ _ _ _ _=>k
def cq.num:cq→Int| .mk _ n _ _=>n| .big _ n _ _ _ _=>n
def cq.name:cq→gQ| .mk _ _ s _=>s| .big _ _ s _ _ _=>s
def cq.args:cq→c3 cq| .mk _ _ _ a=>.l a| .big _ _ _ p l c=>.b p l c
theorem cq.e_eq(t:cq):t.e= .agg [.int .i64 t.kind,.int .i64 t.num,t.name.e,t.args.e 4 cq.e]:=by
 cases t with
 |mk k n s a=>simp only[cq.e,cq.eL_map];rfl
 |big=>rfl
@[simp] theorem ao1(S:aH→Prop)(s:gQ):aC S s.e=True:=by cases s<;>simp[gQ.e,aC]
@[simp] theorem arB(s:gQ):ds s.e=s.e:=by cases s<;>simp[gQ.e,ds]
mutual
theorem Te(S:aH→Prop):∀t:cq,aC S t.e
 | .mk k n s a=>by simp[cq.e,aC,aK,J4 S a]
 | .big k n s p l c=>by simp[cq.e,aC,aK]
theorem J4(S:aH→Prop):∀l:List cq,aK S (cq.eL l)
 |[]=>by simp[cq.eL,aK]
 |x::xs=>by simp[cq.eL,aK,Te S x,J4 S xs]
end
mutual
theorem V1:∀t:cq,ds t.e=t.e
 | .mk k n s a=>by simp[cq.e,ds,cY,L4 a]
 | .big k n s p l c=>by simp[cq.e,ds,cY]
theorem L4:∀l:List cq,cY (cq.eL l)=cq.eL l
 |[]=>by simp[cq.eL,cY]
 |x::xs=>by simp[cq.eL,cY,V1 x,L4 xs]
end
@[simp] theorem apf(S:aH→Prop)(t:cq):aC S t.e=True:=eq_true (Te S t)
@[simp] theorem aoN(S:aH→Prop)(l:List cq):aK S (l.map cq.e)=True:=by rw[←cq.eL_map];exact eq_true (J4 S l)
@[simp] theorem arJ(t:cq):ds t.e=t.e:=V1 t
@[simp] theorem arq(l:List cq):cY (l.map cq.e)=l.map cq.e:=by rw[←cq.eL_map];exact L4 l
@[simp] theorem arn(t:cq):dY t.e=true:=by rw[cq.e_eq];rfl
@[simp] theorem aow(t:cq):Pv.isAgg 4 t.e:=by rw[cq.e_eq];exact⟨_,rfl,rfl⟩
@[simp] theorem ano(t:cq):cells t.e=[.int .i64 t.kind,.int .i64 t.num,t.name.e,t.args.e 4 cq.e]:=by rw[cq.e_eq];rfl
@[simp] theorem ao0(S:aH→Prop)(x:c3 cq):aC S (x.e 4 cq.e)=True:=by cases x<;>simp[c3.e,aC]
@[simp] theorem arA(x:c3 cq):ds (x.e 4 cq.e)=x.e 4 cq.e:=by cases x<;>simp[c3.e,ds]
mutual
def cq.sz:cq→Nat
 | .mk _ _ _ a=>1+cq.szL a
 | .big _ _ _ _ _ _=>1
def cq.szL:List cq→Nat
 |[]=>0
 |x::xs=>x.sz+cq.szL xs
end
theorem cq.szL_mem:∀{l:List cq} {x:cq},x∈l→x.sz≤cq.szL l
 |y::l,x,h=>by
  rcases fU.1 h with rfl|h
  ·simp[cq.szL]
  ·have:=cq.szL_mem h;simp[cq.szL];omega
mutual
def cq.wf:cq→Prop
 | .mk _ _ s a=>s.wf∧cq.wfL a
 | .big _ _ s _ l _=>s.wf∧my l
def cq.wfL:List cq→Prop
 |[]=>True
 |x::xs=>x.wf∧cq.wfL xs
end
theorem cq.wfL_iff:∀{l:List cq},cq.wfL l↔∀x∈l,x.wf
 |[]=>by simp[cq.wfL]
 |x::l=>by simp[cq.wfL,cq.wfL_iff (l:=l)]
def jO{α:Type}(f:α→Int→Int):List α→Int→Int
 |[],m=>m
 |x::xs,m=>if f x m<0 then-1 else jO f xs (f x m)
def ov{α:Type}(f:α→Int→Int)(l:List α)(m:Int):Int:=if m-l.length<0 then-1 else jO f l (m-l.length)
def gD{α:Type}(f:α→Int→Int):c3 α→Int→Int
 | .l xs,m=>ov f xs m
 | .b _ _ _,_=> -1
theorem V5{α:Type}{f:α→Int→Int}(aI:∀x m,0≤m→ -1≤f x m∧f x m≤m):∀(l:List α) (m:Int),0≤m→ -1≤jO f l m∧jO f l m≤m
 |[],m,h=>by simp only[jO];omega
 |x::xs,m,h=>by
  have J:=aI x m h;simp only[jO];split
  ·omega
  ·have U:=V5 aI xs (f x m) (by omega);omega
theorem akJ{α:Type}{f:α→Int→Int}(aI:∀x m,0≤m→ -1≤f x m∧f x m≤m)(l:List α)(m:Int)(h:0≤m): -1≤ov f l m∧ov f l m≤m:=by
 unfold ov;split
 ·omega
 ·have:=V5 aI l (m-l.length) (by omega);omega
theorem uv{α:Type}{f:α→Int→Int}(aI:∀x m,0≤m→ -1≤f x m∧f x m≤m)(l:c3 α)(m:Int)(h:0≤m): -1≤gD f l m∧gD f l m≤m:=by
 cases l with
 |l xs=>exact akJ aI xs m h
 |b=>simp only[gD];omega
mutual
def gL:cq→Int→Int
 | .mk _ _ s a,m=>if m-s.len<0 then-1 else if m-s.len-a.length<0 then-1 else sM a (m-s.len-a.length)
 | .big _ _ s _ _ _,m=>if m-s.len<0 then-1 else-1
def sM:List cq→Int→Int
 |[],m=>m
 |x::xs,m=>if gL x m<0 then-1 else sM xs (gL x m)
end
theorem V7:∀(l:List cq) (m:Int),sM l m=jO gL l m
 |[],m=>rfl
 |x::xs,m=>by simp only[sM,jO,V7 xs]
theorem GC(t:cq)(m:Int):gL t m=if m-t.name.len<0 then-1 else gD gL t.args (m-t.name.len):=by
 cases t with
 |mk=>simp only[gL,gD,ov,V7,cq.name,cq.args];rfl
 |big=>simp only[gL,gD,cq.name,cq.args];rfl
theorem gQ.len_nn(s:gQ):0≤s.len:=by cases s<;>simp[gQ.len]
mutual
theorem uw:∀(t:cq) (m:Int),0≤m→ -1≤gL t m∧gL t m≤m
 | .mk _ _ s a,m,h=>by
  have:=s.len_nn;simp only[gL];split
  ·omega
  ·split
   ·omega
   ·have:=V8 a (m-s.len-a.length) (by omega);omega
 | .big _ _ s _ _ _,m,h=>by simp only[gL];split<;>omega
theorem V8:∀(l:List cq) (m:Int),0≤m→ -1≤sM l m∧sM l m≤m
 |[],m,h=>by simp only[sM];omega
 |x::xs,m,h=>by
  have J:=uw x m h;simp only[sM];split
  ·omega
  ·have U:=V8 xs (gL x m) (by omega);omega
end
theorem gQ.small{s:gQ}(hw:s.wf){m:Int}(bA:m≤1048576)(h:0≤m-s.len):∃l,s= .s l:=by
 cases s with
 |s l=>exact⟨l,rfl⟩
 |b x=>simp only[gQ.wf,my,lim]at hw;simp only[gQ.len]at h;omega
mutual
def uy:bG→cq
 | .mk k n s a=>.mk k n (.s s) (Al a)
def Al:List bG→List cq
 |[]=>[]
 |x::xs=>uy x::Al xs
end
mutual
theorem GG:∀t:bG,(uy t).e=enc t
 | .mk k n s a=>by simp only[uy,cq.e,enc,We a];rfl
theorem We:∀l:List bG,cq.eL (Al l)=oP l
 |[]=>rfl
 |x::xs=>by simp only[Al,cq.eL,oP,GG x,We xs]
end
mutual
theorem GD:∀(t:cq) (m:Int),t.wf→m≤1048576→0≤m→0≤gL t m→∃u:bG,t=uy u
 | .mk k n s a,m,hw,J,bA,h=>by
  simp only[cq.wf]at hw;simp only[gL]at h;have:=s.len_nn;split at h
  ·omega
  rename_i g;obtain⟨l,rfl⟩:=gQ.small hw.1 J (by omega);split at h
  ·omega
  obtain⟨b,ae⟩:=V9 a _ hw.2 (by omega) (by omega) h;exact⟨.mk k n l b,by simp only[uy,ae]⟩
 | .big _ _ s _ _ _,m,_,_,_,h=>by simp only[gL]at h;split at h<;>omega
theorem V9:∀(l:List cq) (m:Int),cq.wfL l→m≤1048576→0≤m→0≤sM l m→∃u:List bG,l=Al u
 |[],_,_,_,_,_=>⟨[],rfl⟩
 |x::xs,m,hw,J,bA,h=>by
  simp only[cq.wfL]at hw;simp only[sM]at h;have U:=uw x m bA;split at h
  ·omega
  obtain⟨u,hu⟩:=GD x m hw.1 J bA (by omega);obtain⟨v,aJ⟩:=V9 xs _ hw.2 (by omega) (by omega) h;exact⟨u::v,by simp only[Al,hu,aJ]⟩
end
theorem V6{α β:Type}{f:α→Int→Int}{P:α→Prop}{g:β→α}(hle:∀x m,0≤m→ -1≤f x m∧f x m≤m)(ag:∀x m,P x→m≤1048576→0≤m→0≤f x m→∃y,x=g y):∀(l:List α) (m:Int),(∀x∈l,P x)→m≤1048576→0≤m→0≤jO f l m→∃u:List β,l=u.map g
 |[],_,_,_,_,_=>⟨[],rfl⟩
 |x::xs,m,hw,J,bA,h=>by
  simp only[jO]at h;have U:=hle x m bA;split at h
  ·omega
  obtain⟨u,hu⟩:=ag x m (hw x (by simp)) J bA (by omega);obtain⟨v,aJ⟩:=V6 hle ag xs _ (fun y aG=>hw y (by simp[aG])) (by omega) (by omega) h;exact⟨u::v,by rw[gE,←hu,←aJ]⟩
theorem L8{α β:Type}{f:α→Int→Int}{P:α→Prop}{g:β→α}(hle:∀x m,0≤m→ -1≤f x m∧f x m≤m)(ag:∀x m,P x→m≤1048576→0≤m→0≤f x m→∃y,x=g y)(l:c3 α)(m:Int)(hw:l.wf P)(J:m≤1048576)(bA:0≤m)(h:0≤gD f l m):∃u:List β,l= .l (u.map g):=by
 cases l with
 |b=>simp only[gD]at h;omega
 |l xs=>
  simp only[gD,ov]at h;split at h
  ·omega
  obtain⟨u,hu⟩:=V6 hle ag xs _ hw (by omega) (by omega) h;exact⟨u,by rw[hu]⟩
end Go.Proofs.YtahlgcidhnjlbaaGreat
namespace Go.Proofs.YtahlgcidhnjlbaaGreat
open Go Go.Pv Go.ChangeShapes Go.WideShapes Go.ChangeAt Go.RowKit Go.Deep
def qh(W:World):bd:=⟨fun b o=> ∃u,W.cell? ⟨b,o,none⟩=some u,fun _=>none,fun _=>none,fun _ _ _=>eQ⟩
theorem Ti(W:World)(b:Nat):∀(us:List Value) (off:Nat),(∀i u,us[i]? =some u→W.cell? ⟨b,off+i,none⟩=some u)→lv W (qh W).A b off us
 |[],_,_=>trivial
 |u::us,off,h=>by
  have bA:W.cell? ⟨b,off,none⟩=some u:=by simpa using h 0 u rfl
  exact⟨⟨⟨u,bA⟩,bA⟩,Ti W b us (off+1) fun i e4 hu=>by have:=h (i+1) e4 (by simpa using hu);rwa[show off+(i+1)=off+1+i from by omega]at this⟩
section
variable {H:Type} {enc:fT×Value→H} {W:World} {spare:Nat→Bool} {held:Bool}
def reads(W:World)(p:ah)(cs:List Value):Prop:= ∃v:Value,v.cells.toList=cs∧ba W (qh W) p v∧∀c∈cs,c.oneCell'=true
theorem z6{W:World}{ct:List ah}{cs:List Value}(h:c5 W (qh W) ct cs):reads W (.agg ct) cs:=by
 refine⟨.agg cs.toArray,by simp[pc],by simp only[ba];exact⟨cs.toArray,rfl,by simpa using h⟩,?_⟩;have:∀(ct:List ah) (cs:List Value),c5 W (qh W) ct cs→∀c∈cs,c.oneCell'=true:=by
  intro ct;induction ct with
  |nil=>intro cs h;simp only[c5]at h;subst h;simp
  |cons p ct bT=>
   intro cs h c ax;simp only[c5]at h;obtain⟨u,us,rfl,J,U⟩:=h;rcases fU.1 ax with rfl|ax
   ·exact J.2
   ·exact bT us U c ax
 exact this ct cs h
def uh(W:World)(p:ah)(v:Value):Prop:=ba W (qh W) p v∧v.oneCell'=true∧v.cells= #[v]
theorem uh.reads{W:World}{p:ah}{v:Value}(h:uh W p v):reads W p [v]:=⟨v,by rw[h.2.2],h.1,fun c ax=>by simp at ax;subst ax;exact h.2.1⟩
theorem Yd{W:World}{wu wx k j:Nat}:W.cell? (((⟨wu,wx,none⟩:Addr).add k).add j)=W.cell? ⟨wu,wx+(k+j),none⟩:=by rw[add_add,Addr.add_lit]
theorem CZ{α:Type}{t e:fT}{sz:Nat}(f:α→ah)(Q:α→Prop)(aN:al.underlying t=some (.slice e))(ax:al.cellsOf e=sz)(ef:0<sz){fuel:Nat}
  (adu:∀n cs x,n<fuel→iM enc al W 0 spare held n e cs=some x→∃a:α,Q a∧reads W (f a) cs)
  {cs:List Value} {x:DataW H×List MemPlace} (h:iM enc al W 0 spare held fuel t cs=some x):∃l:c3 α,l.wf Q∧∃v,cs=[v]∧uh W (l.e sz f) v:=by
 rcases DataW.trod_slice aN h with⟨rfl,_⟩|⟨a,len,cap,elems,rest,n,rfl,rfl,_,_,au,hm,hlen,Rv,_,_⟩
 ·refine⟨.l [],by simp[c3.wf],_,rfl,?_,rfl,rfl⟩;simp only[c3.e,pe,ba];exact⟨⟨none,0,rfl,by simp,⟨by simp[maxLen],by simp[lim]⟩,.inl (by simp)⟩,fun e=>(by cases e),fun g e=>(by cases e),fun _ _ e=>(by cases e),fun _ e=>(by cases e)⟩
 by_cases Et:lim<len
 ·refine⟨.b (some a) len cap,⟨Et,by unfold maxLen at hm;omega⟩,_,rfl,?_,rfl,rfl⟩;simp only[c3.e,ba]
 rcases Nat.eq_zero_or_pos len with rfl|fm
 ·refine⟨.l [],by simp[c3.wf],_,rfl,?_,rfl,rfl⟩;simp only[c3.e,pe,ba];exact⟨⟨some a,cap,rfl,by simp,⟨hm,by simp[lim]⟩,.inl (by simp)⟩,fun e=>(by cases e),fun g e=>(by cases e),fun _ _ e=>(by cases e),fun _ e=>(by cases e)⟩
 rw[ax]at Rv;have gT:∀i,i<len→∃cs',cs'.length=sz∧(∀j,j<sz→W.cell? ((a.add (i*sz)).add j)=cs'[j]?)∧∃b:α,Q b∧reads W (f b) cs':=by intro i hi;have J:=Rv i hi;rw[cf (by omega)]at J;obtain⟨cs',U,ao⟩:=lH.1 J;obtain⟨_,a8,bZ⟩:=World.cells?_some U;exact⟨cs',a8,bZ,adu n cs' _ (by omega) ao⟩
 obtain⟨wu,wx,spot⟩:=a;have aeu:spot=none:=by obtain⟨cs',J,U,_⟩:=gT 0 fm;have ao:=U 0 ef;rw[cf (by omega)]at ao;simpa[Addr.add]using World.cell?_spot ao
 subst aeu;have Yk:∀d,d≤len→∃xs:List α,xs.length=d∧(∀x∈xs,Q x)∧∃us:List Value,us.length=d*sz∧dy W (qh W) sz (xs.map f) us∧∀j u,us[j]? =some u→W.cell? ⟨wu,wx+((len-d)*sz+j),none⟩=some u:=by
  intro d;induction d with
  |zero=>intro _;exact⟨[],rfl,by simp,[],by simp,by simp[dy],by simp⟩
  |succ d bT=>
   intro aQ;obtain⟨xs,ak,aB,us,bj,de,gS⟩:=bT (by omega);obtain⟨cs',bI,ch,b,ae,v,v1,v2,v3⟩:=gT (len-(d+1)) (by omega);have hmul:(len-d)*sz=(len-(d+1))*sz+sz:=by rw[show len-d=(len-(d+1))+1 from by omega,Nat.succ_mul]
   refine⟨b::xs,by simp[ak],fun x ab=>?_,cs'++us,by rw[pd,bI,bj,Nat.succ_mul];omega,?_,fun j u af=>?_⟩
   ·rcases fU.1 ab with rfl|ab
    ·exact ae
    ·exact aB x ab
   ·simp only[gE,dy];exact⟨v,us,by rw[v1],⟨v2,by rw[←bI,←v1];simp,by rw[v1];exact v3⟩,de⟩
   ·rcases Nat.lt_or_ge j sz with bC|tA
    ·rw[List.getElem?_append_left (by omega)]at af;have:=ch j bC;rw[Yd]at this;rw[this];exact af
    ·rw[List.getElem?_append_right (by omega),bI]at af;have:=gS (j-sz) u af;rwa[show(len-d)*sz+(j-sz)=(len-(d+1))*sz+j from by omega]at this
 obtain⟨xs,ak,aB,us,bj,de,gS⟩:=Yk len (eR _);refine⟨.l xs,aB,_,rfl,?_,rfl,rfl⟩;simp only[c3.e,ba];refine⟨⟨some ⟨wu,wx,none⟩,cap,by rw[List.length_map,ak],by rw[List.length_map,ak];exact au,⟨hm,by rw[List.length_map,ak];omega⟩,.inr ⟨wu,wx,us,rfl,Ti W wu us wx fun i u hu=>?_,de⟩⟩,fun e=>(by cases e),fun g e=>(by cases e),fun _ _ e=>(by cases e),fun _ e=>(by cases e)⟩;have:=gS i u hu;simpa using this
end
end Go.Proofs.YtahlgcidhnjlbaaGreat
namespace Go.Proofs.YtahlgcidhnjlbaaGreat
open Go Go.Pv
@[simp] def aqo:List bs:=[.tmp 2]
def tg:C:=(aa [cz 2 0,bW 4 0] (aa [I 5 1,aF 6 2 1 2,av 7 1 6,b5 8 (.slen (.t 7)),bm 9 .sub 5 8,I 1 9] (.seq (aa [I 10 1,aU 11 .lss 10 0] (aS 11 (aa [bW 4 (-1)] .ret) .skip)) (aa [aF 12 3 1 2,av 13 1 12,I 14 1,ca 15 16 13 14,I 1 15] (.seq (aa [I 16 1,aU 17 .lss 16 0] (aS 17 (aa [bW 4 (-1)] .ret) .skip)) (aa [I 18 1,I 4 18] .ret))))))
@[simp] def ajc:List bs:=[.tmp 4]
def HI:C:=(aa [bW 4 0] (aa [I 6 1,I 7 0,cl 8 7,bm 9 .sub 6 8,I 1 9] (.seq (aa [I 10 1,aU 11 .lss 10 0] (aS 11 (aa [bW 4 (-1)] .ret) .skip)) (.seq (aa [bW 5 0] (.block 0 (.loop (.seq (aa [I 12 5,I 13 0,cl 14 13,bm 15 .lss 12 14] (aS 15 .skip (.exit 0))) (.seq (.block 1 (aa [I 18 0,I 19 5,cu 20 4 18 19,aV 21 4 20,I 22 1,ca 23 15 21 22,I 1 23] (aa [I 24 1,aU 25 .lss 24 0] (aS 25 (aa [bW 4 (-1)] .ret) .skip)))) (.region [I 16 5,aU 17 .add 16 1,I 5 17])))))) (aa [I 26 1,I 4 26] .ret)))))
@[simp] def ajd:List bs:=[.tmp 4]
def OD:C:=(aa [cz 1 0,dj 2 dP] (aa [dj 3 dP] (aa [aF 4 0 1 1,av 5 1 4,aF 6 0 1 3,bL 1 6 5] (aa [aF 7 1 1 1,av 8 1 7,aF 9 1 1 3,bL 1 9 8] (aa [aF 10 2 1 1,av 11 1 10,aF 12 2 1 3,bL 1 12 11] (aa [aF 13 3 1 1,av 14 1 13,cE 15 19 14,aF 16 3 1 3,bL 1 16 15] (aa [aV 17 4 3,bL 4 2 17] .ret)))))))
@[simp] def ajl:List bs:=[.cell 2 true 4]
def OE:C:=(aa [eE 2 4] (aa [I 5 0,cl 6 5,c1 (.mks 7 none 4 30 (.agg dP) (.t 6)),I 3 7] (.seq (aa [bW 4 0] (.block 0 (.loop (.seq (aa [I 8 4,I 9 0,cl 10 9,bm 11 .lss 8 10] (aS 11 .skip (.exit 0))) (.seq (.block 1 (.region [I 14 3,I 15 4,I 16 0,I 17 4,cu 18 4 16 17,aV 19 4 18,cE 20 18 19,cu 21 4 14 15,bL 4 21 20])) (.region [I 12 4,aU 13 .add 12 1,I 4 13])))))) (.seq (.pub 3 (.region [I 22 3,I 2 22])) .ret))))
@[simp] def ajm:List bs:=[.tmp 2]
def Ou:C:=(aa [be 4 false] (.seq (aa [I 6 0,cl 7 6,I 8 1,cl 9 8,bm 10 .neq 7 9] (aS 10 (aa [be 4 false] .ret) .skip)) (.seq (aa [bW 5 0] (.block 0 (.loop (.seq (aa [I 11 5,I 12 0,cl 13 12,bm 14 .lss 11 13] (aS 14 .skip (.exit 0))) (.seq (.block 1 (.seq (.drawn true 27 [I 17 0,I 18 5,cu 19 4 17 18,aV 20 4 19,I 21 1,I 22 5,cu 23 4 21 22,aV 24 4 23,ca 25 22 20 24,cw 26 25]) (aS 26 (aa [be 4 false] .ret) .skip))) (.region [I 15 5,aU 16 .add 15 1,I 5 16])))))) (aa [be 4 true] .ret))))
@[simp] def ai4:List bs:=[.tmp 4]
def Ot:C:=(aa [cz 2 0,cz 3 1,be 4 false] (.seq (aa [aF 5 0 1 2,av 6 1 5,aF 7 0 1 3,av 8 1 7,bm 9 .neq 6 8] (aS 9 (aa [be 4 false] .ret) .skip)) (.seq (aa [aF 10 1 1 2,av 11 1 10,aF 12 1 1 3,av 13 1 12,bm 14 .neq 11 13] (aS 14 (aa [be 4 false] .ret) .skip)) (.seq (aa [aF 15 2 1 2,av 16 1 15,aF 17 2 1 3,av 18 1 17,bm 19 .neq 16 18] (aS 19 (aa [be 4 false] .ret) .skip)) (.seq (aa [aF 20 3 1 2,av 21 1 20,aF 22 3 1 3,av 23 1 22,ca 24 21 21 23,cw 25 24] (aS 25 (aa [be 4 false] .ret) .skip)) (aa [be 4 true] .ret))))))
@[simp] def ai3:List bs:=[.tmp 4]
def yr:C:=(aa [cz 2 0,bW 4 0] (aa [aF 5 1 1 2,av 6 1 5,I 7 1,ca 8 33 6 7,I 1 8] (.seq (aa [I 9 1,aU 10 .lss 9 0] (aS 10 (aa [bW 4 (-1)] .ret) .skip)) (aa [aF 11 2 1 2,av 12 1 11,I 13 1,ca 14 72 12 13,I 1 14] (.seq (aa [I 15 1,aU 16 .lss 15 0] (aS 16 (aa [bW 4 (-1)] .ret) .skip)) (aa [aF 17 3 1 2,av 18 1 17,I 19 1,ca 20 73 18 19,I 1 20] (.seq (aa [I 21 1,aU 22 .lss 21 0] (aS 22 (aa [bW 4 (-1)] .ret) .skip)) (aa [aF 23 4 1 2,av 24 1 23,I 25 1,ca 26 74 24 25,I 1 26] (.seq (aa [I 27 1,aU 28 .lss 27 0] (aS 28 (aa [bW 4 (-1)] .ret) .skip)) (aa [I 29 1,I 4 29] .ret))))))))))
@[simp] def ajb:List bs:=[.tmp 4]
def OC:C:=(aa [cz 1 0,dj 2 hv] (aa [dj 3 hv] (aa [aF 4 0 1 1,av 5 1 4,aF 6 0 1 3,bL 1 6 5] (aa [aF 7 1 1 1,av 8 1 7,cE 9 35 8,aF 10 1 1 3,bL 1 10 9] (aa [aF 11 2 1 1,av 12 1 11,cE 13 83 12,aF 14 2 1 3,bL 1 14 13] (aa [aF 15 3 1 1,av 16 1 15,cE 17 84 16,aF 18 3 1 3,bL 1 18 17] (aa [aF 19 4 1 1,av 20 1 19,cE 21 85 20,aF 22 4 1 3,bL 1 22 21] (aa [aV 23 5 3,bL 5 2 23] .ret))))))))
@[simp] def ajk:List bs:=[.cell 2 true 5]
def Oq:C:=(aa [cz 2 0,cz 3 1,be 4 false] (.seq (aa [aF 5 0 1 2,av 6 1 5,aF 7 0 1 3,av 8 1 7,bm 9 .neq 6 8] (aS 9 (aa [be 4 false] .ret) .skip)) (.seq (aa [aF 10 1 1 2,av 11 1 10,aF 12 1 1 3,av 13 1 12,ca 14 37 11 13,cw 15 14] (aS 15 (aa [be 4 false] .ret) .skip)) (.seq (aa [aF 16 2 1 2,av 17 1 16,aF 18 2 1 3,av 19 1 18,ca 20 92 17 19,cw 21 20] (aS 21 (aa [be 4 false] .ret) .skip)) (.seq (aa [aF 22 3 1 2,av 23 1 22,aF 24 3 1 3,av 25 1 24,ca 26 93 23 25,cw 27 26] (aS 27 (aa [be 4 false] .ret) .skip)) (.seq (aa [aF 28 4 1 2,av 29 1 28,aF 30 4 1 3,av 31 1 30,ca 32 94 29 31,cw 33 32] (aS 33 (aa [be 4 false] .ret) .skip)) (aa [be 4 true] .ret)))))))
@[simp] def ai2:List bs:=[.tmp 4]
def HF:C:=(aa [bW 4 0] (aa [I 6 1,I 7 0,cl 8 7,bm 9 .sub 6 8,I 1 9] (.seq (aa [I 10 1,aU 11 .lss 10 0] (aS 11 (aa [bW 4 (-1)] .ret) .skip)) (.seq (aa [bW 5 0] (.block 0 (.loop (.seq (aa [I 12 5,I 13 0,cl 14 13,bm 15 .lss 12 14] (aS 15 .skip (.exit 0))) (.seq (.block 1 (aa [I 18 0,I 19 5,cu 20 5 18 19,aV 21 5 20,I 22 1,ca 23 97 21 22,I 1 23] (aa [I 24 1,aU 25 .lss 24 0] (aS 25 (aa [bW 4 (-1)] .ret) .skip)))) (.region [I 16 5,aU 17 .add 16 1,I 5 17])))))) (aa [I 26 1,I 4 26] .ret)))))
@[simp] def ai7:List bs:=[.tmp 4]
def Oy:C:=(aa [eE 2 5] (aa [I 5 0,cl 6 5,c1 (.mks 7 none 5 113 (.agg jy) (.t 6)),I 3 7] (.seq (aa [bW 4 0] (.block 0 (.loop (.seq (aa [I 8 4,I 9 0,cl 10 9,bm 11 .lss 8 10] (aS 11 .skip (.exit 0))) (.seq (.block 1 (.region [I 14 3,I 15 4,I 16 0,I 17 4,cu 18 5 16 17,aV 19 5 18,cE 20 101 19,cu 21 5 14 15,bL 5 21 20])) (.region [I 12 4,aU 13 .add 12 1,I 4 13])))))) (.seq (.pub 3 (.region [I 22 3,I 2 22])) .ret))))
@[simp] def ajg:List bs:=[.tmp 2]
def Ol:C:=(aa [be 4 false] (.seq (aa [I 6 0,cl 7 6,I 8 1,cl 9 8,bm 10 .neq 7 9] (aS 10 (aa [be 4 false] .ret) .skip)) (.seq (aa [bW 5 0] (.block 0 (.loop (.seq (aa [I 11 5,I 12 0,cl 13 12,bm 14 .lss 11 13] (aS 14 .skip (.exit 0))) (.seq (.block 1 (.seq (.drawn true 27 [I 17 0,I 18 5,cu 19 5 17 18,aV 20 5 19,I 21 1,I 22 5,cu 23 5 21 22,aV 24 5 23,ca 25 103 20 24,cw 26 25]) (aS 26 (aa [be 4 false] .ret) .skip))) (.region [I 15 5,aU 16 .add 15 1,I 5 16])))))) (aa [be 4 true] .ret))))
@[simp] def aiY:List bs:=[.tmp 4]
def HG:C:=(aa [bW 4 0] (aa [I 6 1,I 7 0,cl 8 7,bm 9 .sub 6 8,I 1 9] (.seq (aa [I 10 1,aU 11 .lss 10 0] (aS 11 (aa [bW 4 (-1)] .ret) .skip)) (.seq (aa [bW 5 0] (.block 0 (.loop (.seq (aa [I 12 5,I 13 0,cl 14 13,bm 15 .lss 12 14] (aS 15 .skip (.exit 0))) (.seq (.block 1 (aa [I 18 0,I 19 5,cu 20 1 18 19,av 21 1 20,I 22 1,ca 23 33 21 22,I 1 23] (aa [I 24 1,aU 25 .lss 24 0] (aS 25 (aa [bW 4 (-1)] .ret) .skip)))) (.region [I 16 5,aU 17 .add 16 1,I 5 17])))))) (aa [I 26 1,I 4 26] .ret)))))
@[simp] def ai8:List bs:=[.tmp 4]
def DN:C:=(aa [bW 4 0] (aa [I 5 1,I 6 0,cl 7 6,bm 8 .sub 5 7,I 1 8] (.seq (aa [I 9 1,aU 10 .lss 9 0] (aS 10 (aa [bW 4 (-1)] .ret) .skip)) (aa [I 11 1,I 4 11] .ret))))
@[simp] def aje:List bs:=[.tmp 4]
def HH:C:=(aa [bW 4 0] (aa [I 6 1,I 7 0,cl 8 7,bm 9 .sub 6 8,I 1 9] (.seq (aa [I 10 1,aU 11 .lss 10 0] (aS 11 (aa [bW 4 (-1)] .ret) .skip)) (.seq (aa [bW 5 0] (.block 0 (.loop (.seq (aa [I 12 5,I 13 0,cl 14 13,bm 15 .lss 12 14] (aS 15 .skip (.exit 0))) (.seq (.block 1 (aa [I 18 0,I 19 5,cu 20 2 18 19,aV 21 2 20,I 22 1,ca 23 144 21 22,I 1 23] (aa [I 24 1,aU 25 .lss 24 0] (aS 25 (aa [bW 4 (-1)] .ret) .skip)))) (.region [I 16 5,aU 17 .add 16 1,I 5 17])))))) (aa [I 26 1,I 4 26] .ret)))))
@[simp] def aja:List bs:=[.tmp 4]
def Oz:C:=(aa [eE 2 1] (aa [I 5 0,cl 6 5,c1 (.mks 7 none 1 46 (.slice 5 .nil []) (.t 6)),I 3 7] (.seq (aa [bW 4 0] (.block 0 (.loop (.seq (aa [I 8 4,I 9 0,cl 10 9,bm 11 .lss 8 10] (aS 11 .skip (.exit 0))) (.seq (.block 1 (.region [I 14 3,I 15 4,I 16 0,I 17 4,cu 18 1 16 17,av 19 1 18,cE 20 35 19,cu 21 1 14 15,bL 1 21 20])) (.region [I 12 4,aU 13 .add 12 1,I 4 13])))))) (.seq (.pub 3 (.region [I 22 3,I 2 22])) .ret))))
@[simp] def ajh:List bs:=[.tmp 2]
def OG:C:=(aa [eE 2 2] (aa [I 5 0,cl 6 5,c1 (.mks 7 none 2 98 (.agg [.int .i64 0,.int .i64 0]) (.t 6)),I 3 7] (.seq (aa [bW 4 0] (.block 0 (.loop (.seq (aa [I 8 4,I 9 0,cl 10 9,bm 11 .lss 8 10] (aS 11 .skip (.exit 0))) (.seq (.block 1 (.region [I 14 3,I 15 4,I 16 0,I 17 4,cu 18 2 16 17,aV 19 2 18,cE 20 156 19,cu 21 2 14 15,bL 2 21 20])) (.region [I 12 4,aU 13 .add 12 1,I 4 13])))))) (.seq (.pub 3 (.region [I 22 3,I 2 22])) .ret))))
@[simp] def ajo:List bs:=[.tmp 2]
def OB:C:=(aa [eE 2 2] (aa [I 5 0,cl 6 5,c1 (.mks 7 none 2 100 (.agg [.int .i64 0,.str []]) (.t 6)),I 3 7] (.seq (aa [bW 4 0] (.block 0 (.loop (.seq (aa [I 8 4,I 9 0,cl 10 9,bm 11 .lss 8 10] (aS 11 .skip (.exit 0))) (.seq (.block 1 (.region [I 14 3,I 15 4,I 16 0,I 17 4,cu 18 2 16 17,aV 19 2 18,cE 20 157 19,cu 21 2 14 15,bL 2 21 20])) (.region [I 12 4,aU 13 .add 12 1,I 4 13])))))) (.seq (.pub 3 (.region [I 22 3,I 2 22])) .ret))))
@[simp] def ajj:List bs:=[.tmp 2]
def Om:C:=(aa [be 4 false] (.seq (aa [I 6 0,cl 7 6,I 8 1,cl 9 8,bm 10 .neq 7 9] (aS 10 (aa [be 4 false] .ret) .skip)) (.seq (aa [bW 5 0] (.block 0 (.loop (.seq (aa [I 11 5,I 12 0,cl 13 12,bm 14 .lss 11 13] (aS 14 .skip (.exit 0))) (.seq (.block 1 (.seq (.drawn true 27 [I 17 0,I 18 5,cu 19 1 17 18,av 20 1 19,I 21 1,I 22 5,cu 23 1 21 22,av 24 1 23,ca 25 37 20 24,cw 26 25]) (aS 26 (aa [be 4 false] .ret) .skip))) (.region [I 15 5,aU 16 .add 15 1,I 5 16])))))) (aa [be 4 true] .ret))))
@[simp] def aiZ:List bs:=[.tmp 4]
def Ow:C:=(aa [be 4 false] (.seq (aa [I 6 0,cl 7 6,I 8 1,cl 9 8,bm 10 .neq 7 9] (aS 10 (aa [be 4 false] .ret) .skip)) (.seq (aa [bW 5 0] (.block 0 (.loop (.seq (aa [I 11 5,I 12 0,cl 13 12,bm 14 .lss 11 13] (aS 14 .skip (.exit 0))) (.seq (.block 1 (.seq (.drawn true 27 [I 17 0,I 18 5,cu 19 2 17 18,aV 20 2 19,I 21 1,I 22 5,cu 23 2 21 22,aV 24 2 23,ca 25 170 20 24,cw 26 25]) (aS 26 (aa [be 4 false] .ret) .skip))) (.region [I 15 5,aU 16 .add 15 1,I 5 16])))))) (aa [be 4 true] .ret))))
@[simp] def ai6:List bs:=[.tmp 4]
def Oo:C:=(aa [be 4 false] (.seq (aa [I 6 0,cl 7 6,I 8 1,cl 9 8,bm 10 .neq 7 9] (aS 10 (aa [be 4 false] .ret) .skip)) (.seq (aa [bW 5 0] (.block 0 (.loop (.seq (aa [I 11 5,I 12 0,cl 13 12,bm 14 .lss 11 13] (aS 14 .skip (.exit 0))) (.seq (.block 1 (.seq (.drawn true 27 [I 17 0,I 18 5,cu 19 2 17 18,aV 20 2 19,I 21 1,I 22 5,cu 23 2 21 22,aV 24 2 23,ca 25 171 20 24,cw 26 25]) (aS 26 (aa [be 4 false] .ret) .skip))) (.region [I 15 5,aU 16 .add 15 1,I 5 16])))))) (aa [be 4 true] .ret))))
@[simp] def ai1:List bs:=[.tmp 4]
def HE:C:=(aa [cz 2 0,bW 4 0] (aa [hC 5 1 4 2,aV 6 4 5,I 7 1,ca 8 15 6 7,I 1 8] (.seq (aa [I 9 1,aU 10 .lss 9 0] (aS 10 (aa [bW 4 (-1)] .ret) .skip)) (aa [I 11 1,I 4 11] .ret))))
@[simp] def Ld:List bs:=[.tmp 4]
def Ox:C:=(aa [cz 1 0,dj 2 jy] (aa [dj 3 jy] (aa [aF 4 0 1 1,av 5 1 4,aF 6 0 1 3,bL 1 6 5] (aa [hC 7 1 4 1,aV 8 4 7,cE 9 18 8,hC 10 1 4 3,bL 4 10 9] (aa [aV 11 5 3,bL 5 2 11] .ret)))))
@[simp] def ajf:List bs:=[.cell 2 true 5]
def Oj:C:=(aa [cz 2 0,cz 3 1,be 4 false] (.seq (aa [aF 5 0 1 2,av 6 1 5,aF 7 0 1 3,av 8 1 7,bm 9 .neq 6 8] (aS 9 (aa [be 4 false] .ret) .skip)) (.seq (aa [hC 10 1 4 2,aV 11 4 10,hC 12 1 4 3,aV 13 4 12,ca 14 22 11 13,cw 15 14] (aS 15 (aa [be 4 false] .ret) .skip)) (aa [be 4 true] .ret))))
@[simp] def aiX:List bs:=[.tmp 4]
def DM:C:=(aa [cz 2 0,bW 4 0] (aa [I 5 1,aF 6 1 1 2,av 7 1 6,b5 8 (.slen (.t 7)),bm 9 .sub 5 8,I 1 9] (.seq (aa [I 10 1,aU 11 .lss 10 0] (aS 11 (aa [bW 4 (-1)] .ret) .skip)) (aa [I 12 1,I 4 12] .ret))))
@[simp] def ai9:List bs:=[.tmp 4]
def OF:C:=(aa [cz 1 0,c1 (.alloc 2 none (.agg [.int .i64 0,.int .i64 0]))] (aa [c1 (.alloc 3 none (.agg [.int .i64 0,.int .i64 0]))] (aa [aF 4 0 1 1,av 5 1 4,aF 6 0 1 3,bL 1 6 5] (aa [aF 7 1 1 1,av 8 1 7,aF 9 1 1 3,bL 1 9 8] (aa [aV 10 2 3,bL 2 2 10] .ret)))))
@[simp] def ajn:List bs:=[.cell 2 true 2]
def OA:C:=(aa [cz 1 0,c1 (.alloc 2 none (.agg [.int .i64 0,.str []]))] (aa [c1 (.alloc 3 none (.agg [.int .i64 0,.str []]))] (aa [aF 4 0 1 1,av 5 1 4,aF 6 0 1 3,bL 1 6 5] (aa [aF 7 1 1 1,av 8 1 7,aF 9 1 1 3,bL 1 9 8] (aa [aV 10 2 3,bL 2 2 10] .ret)))))
@[simp] def aji:List bs:=[.cell 2 true 2]
def Ov:C:=(aa [cz 2 0,cz 3 1,be 4 false] (.seq (aa [aF 5 0 1 2,av 6 1 5,aF 7 0 1 3,av 8 1 7,bm 9 .neq 6 8] (aS 9 (aa [be 4 false] .ret) .skip)) (.seq (aa [aF 10 1 1 2,av 11 1 10,aF 12 1 1 3,av 13 1 12,bm 14 .neq 11 13] (aS 14 (aa [be 4 false] .ret) .skip)) (aa [be 4 true] .ret))))
@[simp] def ai5:List bs:=[.tmp 4]
def On:C:=(aa [cz 2 0,cz 3 1,be 4 false] (.seq (aa [aF 5 0 1 2,av 6 1 5,aF 7 0 1 3,av 8 1 7,bm 9 .neq 6 8] (aS 9 (aa [be 4 false] .ret) .skip)) (.seq (aa [aF 10 1 1 2,av 11 1 10,aF 12 1 1 3,av 13 1 12,bm 14 .neq 11 13] (aS 14 (aa [be 4 false] .ret) .skip)) (aa [be 4 true] .ret))))
@[simp] def ai0:List bs:=[.tmp 4]
def ik:List (Nat×dB):=[
 (3,⟨1,8,.int .i64,.int .i64 0⟩),
 (4,⟨1,1,.bool,.bool false⟩),
 (9,⟨1,16,.str,.str []⟩),
 (22,⟨1,24,.slice 24,.slice 4 .nil []⟩),
 (24,⟨4,56,.struct [(0,3),(1,3),(2,9),(3,22)],.agg [.int .i64 0,.int .i64 0,.str [],.slice 4 .nil []]⟩),
 (27,⟨1,24,.slice 30,.slice 4 .nil []⟩),
 (30,⟨4,56,.struct [(0,3),(1,3),(2,9),(3,27)],.agg [.int .i64 0,.int .i64 0,.str [],.slice 4 .nil []]⟩),
 (38,⟨1,24,.slice 111,.slice 5 .nil []⟩),
 (39,⟨1,24,.slice 38,.slice 1 .nil []⟩),
 (40,⟨1,24,.slice 158,.slice 2 .nil []⟩),
 (41,⟨1,24,.slice 146,.slice 2 .nil []⟩),
 (43,⟨5,104,.struct [(0,3),(1,38),(2,39),(3,40),(4,41)],.agg [.int .i64 0,.slice 5 .nil [],.slice 1 .nil [],.slice 2 .nil [],.slice 2 .nil []]⟩),
 (46,⟨1,24,.slice 113,.slice 5 .nil []⟩),
 (47,⟨1,24,.slice 46,.slice 1 .nil []⟩),
 (48,⟨1,24,.slice 98,.slice 2 .nil []⟩),
 (49,⟨1,24,.slice 100,.slice 2 .nil []⟩),
 (51,⟨5,104,.struct [(0,3),(1,46),(2,47),(3,48),(4,49)],.agg [.int .i64 0,.slice 5 .nil [],.slice 1 .nil [],.slice 2 .nil [],.slice 2 .nil []]⟩),
 (98,⟨2,16,.struct [(0,3),(1,3)],.agg [.int .i64 0,.int .i64 0]⟩),
 (100,⟨2,24,.struct [(0,3),(1,9)],.agg [.int .i64 0,.str []]⟩),
 (111,⟨5,64,.struct [(0,3),(1,24)],.agg [.int .i64 0,.int .i64 0,.int .i64 0,.str [],.slice 4 .nil []]⟩),
 (113,⟨5,64,.struct [(0,3),(1,30)],.agg [.int .i64 0,.int .i64 0,.int .i64 0,.str [],.slice 4 .nil []]⟩),
 (146,⟨2,24,.struct [(0,3),(1,9)],.agg [.int .i64 0,.str []]⟩),
 (158,⟨2,16,.struct [(0,3),(1,3)],.agg [.int .i64 0,.int .i64 0]⟩)]
theorem fA:fN al ik=true:=by kernel_rfl
theorem vD:bY ik tg ajc 2 Tryz.f15=true:=by kernel_rfl
theorem uT:al.funcs[(15:Nat)]? =some Tryz.f15:=Tryz.func15
theorem Uf:bY ik HI ajd 2 Tryz.f16=true:=by kernel_rfl
theorem Qr:al.funcs[(16:Nat)]? =some Tryz.f16:=Tryz.func16
theorem ahu:bY ik OD ajl 1 Tryz.f18=true:=by kernel_rfl
theorem aa4:al.funcs[(18:Nat)]? =some Tryz.f18:=Tryz.func18
theorem ahv:bY ik OE ajm 1 Tryz.f19=true:=by kernel_rfl
theorem aa5:al.funcs[(19:Nat)]? =some Tryz.f19:=Tryz.func19
theorem ahl:bY ik Ou ai4 2 Tryz.f21=true:=by kernel_rfl
theorem aaV:al.funcs[(21:Nat)]? =some Tryz.f21:=Tryz.func21
theorem ahk:bY ik Ot ai3 2 Tryz.f22=true:=by kernel_rfl
theorem aaU:al.funcs[(22:Nat)]? =some Tryz.f22:=Tryz.func22
theorem Cu:bY ik yr ajb 2 Tryz.f26=true:=by kernel_rfl
theorem A4:al.funcs[(26:Nat)]? =some Tryz.f26:=Tryz.func26
theorem aht:bY ik OC ajk 1 Tryz.f28=true:=by kernel_rfl
theorem aa3:al.funcs[(28:Nat)]? =some Tryz.f28:=Tryz.func28
theorem ahj:bY ik Oq ai2 2 Tryz.f30=true:=by kernel_rfl
theorem aaT:al.funcs[(30:Nat)]? =some Tryz.f30:=Tryz.func30
theorem Uc:bY ik HF ai7 2 Tryz.f33=true:=by kernel_rfl
theorem Qo:al.funcs[(33:Nat)]? =some Tryz.f33:=Tryz.func33
theorem ahp:bY ik Oy ajg 1 Tryz.f35=true:=by kernel_rfl
theorem aaZ:al.funcs[(35:Nat)]? =some Tryz.f35:=Tryz.func35
theorem ahf:bY ik Ol aiY 2 Tryz.f37=true:=by kernel_rfl
theorem aaP:al.funcs[(37:Nat)]? =some Tryz.f37:=Tryz.func37
theorem Ud:bY ik HG ai8 2 Tryz.f72=true:=by kernel_rfl
theorem Qp:al.funcs[(72:Nat)]? =some Tryz.f72:=Tryz.func72
theorem KN:bY ik DN aje 2 Tryz.f73=true:=by kernel_rfl
theorem Iq:al.funcs[(73:Nat)]? =some Tryz.f73:=Tryz.func73
theorem Ue:bY ik HH aja 2 Tryz.f74=true:=by kernel_rfl
theorem Qq:al.funcs[(74:Nat)]? =some Tryz.f74:=Tryz.func74
theorem ahq:bY ik Oz ajh 1 Tryz.f83=true:=by kernel_rfl
theorem aa0:al.funcs[(83:Nat)]? =some Tryz.f83:=Tryz.func83
theorem ahx:bY ik OG ajo 1 Tryz.f84=true:=by kernel_rfl
theorem aa7:al.funcs[(84:Nat)]? =some Tryz.f84:=Tryz.func84
theorem ahs:bY ik OB ajj 1 Tryz.f85=true:=by kernel_rfl
theorem aa2:al.funcs[(85:Nat)]? =some Tryz.f85:=Tryz.func85
theorem ahg:bY ik Om aiZ 2 Tryz.f92=true:=by kernel_rfl
theorem aaQ:al.funcs[(92:Nat)]? =some Tryz.f92:=Tryz.func92
theorem ahn:bY ik Ow ai6 2 Tryz.f93=true:=by kernel_rfl
theorem aaX:al.funcs[(93:Nat)]? =some Tryz.f93:=Tryz.func93
theorem ahi:bY ik Oo ai1 2 Tryz.f94=true:=by kernel_rfl
theorem aaS:al.funcs[(94:Nat)]? =some Tryz.f94:=Tryz.func94
theorem Ub:bY ik HE Ld 2 Tryz.f97=true:=by kernel_rfl
theorem Qn:al.funcs[(97:Nat)]? =some Tryz.f97:=Tryz.func97
theorem aho:bY ik Ox ajf 1 Tryz.f101=true:=by kernel_rfl
theorem aaY:al.funcs[(101:Nat)]? =some Tryz.f101:=Tryz.func101
theorem ahe:bY ik Oj aiX 2 Tryz.f103=true:=by kernel_rfl
theorem aaO:al.funcs[(103:Nat)]? =some Tryz.f103:=Tryz.func103
theorem KM:bY ik DM ai9 2 Tryz.f144=true:=by kernel_rfl
theorem Ip:al.funcs[(144:Nat)]? =some Tryz.f144:=Tryz.func144
theorem ahw:bY ik OF ajn 1 Tryz.f156=true:=by kernel_rfl
theorem aa6:al.funcs[(156:Nat)]? =some Tryz.f156:=Tryz.func156
theorem ahr:bY ik OA aji 1 Tryz.f157=true:=by kernel_rfl
theorem aa1:al.funcs[(157:Nat)]? =some Tryz.f157:=Tryz.func157
theorem ahm:bY ik Ov ai5 2 Tryz.f170=true:=by kernel_rfl
theorem aaW:al.funcs[(170:Nat)]? =some Tryz.f170:=Tryz.func170
theorem ahh:bY ik On ai0 2 Tryz.f171=true:=by kernel_rfl
theorem aaR:al.funcs[(171:Nat)]? =some Tryz.f171:=Tryz.func171
def h5{α:Type}(f:α→ah)(z:ah)(l:List α)(i:Nat):List ah:=(l.take i).map f++qK (l.length-i) z
theorem oe{α:Type}(f:α→ah)(z:ah)(l:List α):h5 f z l 0=qK l.length z:=by simp[h5]
theorem Cl{α:Type}(f:α→ah)(z:ah)(l:List α):h5 f z l l.length=l.map f:=by simp[h5]
theorem Cm{α:Type}(f:α→ah)(z:ah)(l:List α){i:Nat}(hi:i<l.length):(h5 f z l i)[i]? =some z:=by
 unfold h5;have h:((l.take i).map f).length=i:=by simp;omega
 rw[List.getElem?_append_right (by omega),h,Nat.sub_self,List.getElem?_replicate,if_pos (by omega)]
theorem Cn{α:Type}(f:α→ah)(z:ah)(l:List α){i:Nat}{x:α}(ab:l[i]? =some x):(h5 f z l i).set i (f x)=h5 f z l (i+1):=by
 have hi:=(fL.1 ab).1;unfold h5;have h:((l.take i).map f).length=i:=by simp;omega
 rw[List.set_append_right _ _ (by omega),h,Nat.sub_self,ox ab,List.map_append,List.append_assoc];congr 1;obtain⟨m,hm⟩:∃m,l.length-i=m+1:=⟨l.length-i-1,by omega⟩;rw[hm,show l.length-(i+1)=m from by omega,List.replicate_succ,List.set_cons_zero];rfl
theorem SZ(S:aH→Prop):∀{a b:List ah},aK S (a++b)↔aK S a∧aK S b
 |[],b=>by simp[aK]
 |x::a,b=>by simp[aK,SZ S (a:=a),and_assoc]
theorem S1{α:Type}(S:aH→Prop)(f:α→ah)(aI:∀x,aC S (f x)):∀l:List α,aK S (l.map f)
 |[]=>by simp[aK]
 |x::xs=>by simp[aK,S1 S f aI xs,aI]
theorem xt(S:aH→Prop)(z:ah)(bD:aC S z):∀n,aK S (qK n z)
 |0=>by simp[aK]
 |n+1=>by simp[List.replicate_succ,aK,xt S z bD n,bD]
theorem Ca{α:Type}(S:aH→Prop)(f:α→ah)(z:ah)(l:List α)(i:Nat)(aI:∀x,aC S (f x))(bD:aC S z):aK S (h5 f z l i):=by unfold h5;rw[SZ];exact⟨S1 S f aI _,xt S z bD _⟩
theorem WW(l:c3 cq)(hw:∀p n cap,l= .b p n cap→my n)(aI:∀xs,l= .l xs→∀x∈xs,∀m,0≤m→m≤1048576→bH al 15 [cq.e x,.int .i64 m] (.int .i64 (gL x m)))(m:Int)(bA:0≤m)(J:m≤1048576):bH al 16 [l.e 4 cq.e,.int .i64 m] (.int .i64 (gD gL l m)):=by
 cases l with
 |b p n cap=>
  have aA:=hw p n cap rfl;simp only[my,lim]at aA;have g:m-n<0:=by omega
  simp only[c3.e,gD];clear hw aI;refine bf fA Qr Uf fun aP=>?_;unfold HI;exact b2
 |l l=>
 have aI:=aI l rfl;clear hw;simp only[c3.e,gD];generalize bh:ov gL l m=R;unfold ov at bh;refine bf fA Qr Uf fun aP=>?_;unfold HI;have eO:l.length≤68719476736:=by simp[eB,ec,et,lim]at aP;omega
 simp;by_cases g:m-l.length<0
 ·rw[if_pos g]at bh;subst bh;exact b2
 rw[if_neg g]at bh;(with_reducible repeat' first|refine aj ?_|simp[g]);refine dW [0] (fun i (k:Int)=>[(1,.int .i64 k),(5,.int .i64 i)]) l.length (fun i k=>(0≤k∧k≤1048576)∧jO gL (l.drop i) k=R) (m-l.length) b0 ⟨⟨by omega,by omega⟩,by simpa using bh⟩ (fun k af _=>?_) (fun i k hi af _=>?_)
 ·obtain⟨_,af⟩:=af;rw[List.drop_length]at af;simp only[jO]at af;subst af;exact b2
 ·obtain⟨⟨fc,aT⟩,af⟩:=af;obtain⟨x,ab,cy⟩:=ed hi;have key:=aI x (eG ab) k fc aT;have hle:=uw x k fc;rw[sy ab]at af;simp only[jO]at af;generalize gL x k=q at key hle af;clear ab;by_cases bo:q<0
  ·rw[if_pos bo]at af;subst af;exact b2
  ·rw[if_neg bo]at af;simp[hi,cy];((with_reducible repeat' first|refine aj ?_|refine aD key ?_|refine aE key ?_|simp[hi,cy,bo]|((first|apply bP|apply bS|apply bR)<;>intro h<;>try simp at h))<;>(try exact cp));all_goals exact bN.rng q hi ⟨⟨by omega,by omega⟩,af⟩ b0
theorem ami(l:List bG)(aI:∀x∈l,bH al 18 [enc x] (enc x)):bH al 19 [.slice 4 .no (l.map enc)] (.slice 4 .no (l.map enc)):=by
 refine bf fA aa5 ahv fun aP=>?_;unfold OE;have eO:l.length≤68719476736:=by simp[eB,ec,et,lim]at aP;omega
 simp;all_goals first|(refine⟨by unfold lim;omega,?_⟩)|skip
 (with_reducible repeat' first|refine aj ?_|simp);have fj:∀(S:aH→Prop) (n:Nat),aK S (qK n (.agg [.int .i64 0,.int .i64 0,.str [],.slice 4 .nil []]))=True:=fun S n=>eq_true (xt S _ (by simp[aC,aK]) n);refine hQ (fun i (_:Unit)=>⟨[(0,.slice 4 .no (l.map enc)),(3,.row 4 (.loc 0) l.length),(4,.int .i64 i)],[],[(.loc 0,⟨l.length,30,4,some (h5 enc (.agg [.int .i64 0,.int .i64 0,.str [],.slice 4 .nil []]) l i)⟩)],1,[]⟩) l.length (fun _ _=>True) () ⟨by simp[fresh,aK,aC,cd,inObs,Pv.look,oe,fj],dZ (by simp[fresh,aK,aC,cd,inObs,Pv.look,oe,fj]),ea (by simp[fresh,aK,aC,dQ,inObs,Pv.look,oe,fj]),by simp⟩ trivial (fun _ _ _=>?_) (fun i _ hi _ _=>?_)
 ·rw[Cl];exact b2
 ·obtain⟨x,ab,cy⟩:=ed hi;have key:=aI x (eG ab);have ak:=Cm enc (.agg [.int .i64 0,.int .i64 0,.str [],.slice 4 .nil []]) l hi;have aB:=Cn enc (.agg [.int .i64 0,.int .i64 0,.str [],.slice 4 .nil []]) l ab;have bj:∀S:aH→Prop,aK S (h5 enc (.agg [.int .i64 0,.int .i64 0,.str [],.slice 4 .nil []]) l (i+1)):=fun S=>Ca S _ _ _ _ (fun x=>by simp) (by simp[aC,aK]);generalize h5 enc (.agg [.int .i64 0,.int .i64 0,.str [],.slice 4 .nil []]) l i=r0 at ak aB;generalize oX:h5 enc (.agg [.int .i64 0,.int .i64 0,.str [],.slice 4 .nil []]) l (i+1)=dI at aB bj;clear ab;simp[hi,cy];(with_reducible repeat' first|refine aj ?_|refine aD key ?_|refine aE key ?_|simp[hi,cy,ak,aB]);all_goals refine bN.rng () hi trivial ?_
  all_goals rw[oX]
  all_goals first
   |exact⟨by simp[fresh,aK,aC,cd,inObs,Pv.look,bj],dZ (by simp[fresh,aK,aC,cd,inObs,Pv.look,bj]),ea (by simp[fresh,aK,aC,dQ,inObs,Pv.look,bj]),by simp⟩
   |exact⟨by simp[fresh,aK,aC,cd,inObs,Pv.look,bj],dZ (by simp[fresh,aK,aC,cd,inObs,Pv.look,bj]),ea (by simp[fresh,aK,aC,dQ,inObs,Pv.look,bj];exact aB),by simp⟩
theorem alo(l:List bG)(aI:∀x∈l,bH al 22 [enc x,enc x] (.bool true)):bH al 21 [.slice 4 .no (l.map enc),.slice 4 .no (l.map enc)] (.bool true):=by
 refine bf fA aaV ahl fun aP=>?_;unfold Ou;have eO:l.length≤68719476736:=by simp[eB,ec,et,lim]at aP;omega
 simp;(with_reducible repeat' first|refine aj ?_|simp);refine dW [0,1] (fun i (_:Unit)=>[(5,.int .i64 i)]) l.length (fun _ _=>True) () b0 trivial (fun _ _ _=>?_) (fun i _ hi _ _=>?_)
 ·exact b2
 ·obtain⟨x,ab,cy⟩:=ed hi;have key:=aI x (eG ab);clear ab;exact hN
theorem Mu(t:cq)(hw:t.wf):∀m:Int,0≤m→m≤1048576→bH al 15 [t.e,.int .i64 m] (.int .i64 (gL t m)):=by
 suffices H:∀(k:Nat) (t:cq),t.sz≤k→t.wf→∀m:Int,0≤m→m≤1048576→bH al 15 [t.e,.int .i64 m] (.int .i64 (gL t m))from H _ t (eR _) hw
 intro k;clear hw t;induction k with
 |zero=>intro t aN;cases t<;>simp[cq.sz]at aN
 |succ k bT=>
  intro t aN hw m bA J;cases t with
  |mk o8 o9 s a=>
   simp only[cq.wf,cq.wfL_iff]at hw;obtain⟨BS,Br⟩:=hw;have kg:m-s.len<0→gL (.mk o8 o9 s a) m= -1:=fun g=>by rw[GC];exact if_pos g
   have kh:¬m-s.len<0→gL (.mk o8 o9 s a) m=gD gL (.l a) (m-s.len):=fun g=>by rw[GC];exact if_neg g
   generalize gL (.mk o8 o9 s a) m=R at kg kh;have BI:=s.len_nn;have key:=fun h=>WW (.l a) (fun p n c e=>by cases e) (fun xs e x ab=>by cases e;exact bT x (by have:=cq.szL_mem ab;simp only[cq.sz]at aN;omega) (Br x ab)) (m-s.len) h (by omega);have hle:=fun h=>uv uw (.l a) (m-s.len) h;simp only[cq.e,cq.eL_map];simp only[c3.e]at key;clear aN Br;cases s with
   |b x=>
    simp only[gQ.wf,my,lim]at BS;have g:m-x.size<0:=by omega
    have bh:=kg g;subst bh;clear kg kh;clear key hle bT;simp only[gQ.e];refine bf fA uT vD fun aP=>?_;unfold tg;exact b2
   |s l=>
    simp only[gQ.len]at kg kh key hle;simp only[gQ.e];by_cases g:m-l.length<0
    ·have bh:=kg g;subst bh;clear kg kh;clear key hle bT;refine bf fA uT vD fun aP=>?_;unfold tg;have eO:l.length≤68719476736:=by simp[eB,ec,et,lim]at aP;omega
     exact b2
    ·have bh:=kh g;clear kg kh;have key:=key (by omega);have hle:=hle (by omega);rw[←bh]at key hle;clear bh bT;by_cases bo:R<0
     ·have:R= -1:=by omega
      subst this;refine bf fA uT vD fun aP=>?_;unfold tg;have eO:l.length≤68719476736:=by simp[eB,ec,et,lim]at aP;omega
      exact b2
     ·refine bf fA uT vD fun aP=>?_;unfold tg;have eO:l.length≤68719476736:=by simp[eB,ec,et,lim]at aP;omega
      exact b2
  |big o8 o9 s p n c=>
   simp only[cq.wf]at hw;obtain⟨BS,Br⟩:=hw;have kg:m-s.len<0→gL (.big o8 o9 s p n c) m= -1:=fun g=>by rw[GC];exact if_pos g
   have kh:¬m-s.len<0→gL (.big o8 o9 s p n c) m=gD gL (.b p n c) (m-s.len):=fun g=>by rw[GC];exact if_neg g
   generalize gL (.big o8 o9 s p n c) m=R at kg kh;have BI:=s.len_nn;have key:=fun h=>WW (.b p n c) (fun p n c e=>by cases e;exact Br) (fun xs e=>by cases e) (m-s.len) h (by omega);have hle:=fun h=>uv uw (.b p n c) (m-s.len) h;simp only[cq.e];simp only[c3.e]at key;clear aN Br;cases s with
   |b x=>
    simp only[gQ.wf,my,lim]at BS;have g:m-x.size<0:=by omega
    have bh:=kg g;subst bh;clear kg kh;clear key hle bT;simp only[gQ.e];refine bf fA uT vD fun aP=>?_;unfold tg;exact b2
   |s l=>
    simp only[gQ.len]at kg kh key hle;simp only[gQ.e];by_cases g:m-l.length<0
    ·have bh:=kg g;subst bh;clear kg kh;clear key hle bT;refine bf fA uT vD fun aP=>?_;unfold tg;have eO:l.length≤68719476736:=by simp[eB,ec,et,lim]at aP;omega
     exact b2
    ·have bh:=kh g;clear kg kh;have key:=key (by omega);have hle:=hle (by omega);rw[←bh]at key hle;clear bh bT;by_cases bo:R<0
     ·have:R= -1:=by omega
      subst this;refine bf fA uT vD fun aP=>?_;unfold tg;have eO:l.length≤68719476736:=by simp[eB,ec,et,lim]at aP;omega
      exact b2
     ·refine bf fA uT vD fun aP=>?_;unfold tg;have eO:l.length≤68719476736:=by simp[eB,ec,et,lim]at aP;omega
      exact b2
theorem Mv(t:bG):bH al 18 [enc t] (enc t):=by
 suffices H:∀(k:Nat) (t:bG),t.sz≤k→bH al 18 [enc t] (enc t)from H _ t (eR _)
 intro k;induction k with
 |zero=>intro t aN;cases t;simp[bG.sz]at aN
 |succ k bT=>intro t aN;have key:=ami t.args (fun x ab=>bT x (by have:=Ma ab;omega));clear bT;refine bf fA aa4 ahu fun aP=>?_;unfold OD;exact b2
theorem Mm(t:bG):bH al 22 [enc t,enc t] (.bool true):=by
 suffices H:∀(k:Nat) (t:bG),t.sz≤k→bH al 22 [enc t,enc t] (.bool true)from H _ t (eR _)
 intro k;induction k with
 |zero=>intro t aN;cases t;simp[bG.sz]at aN
 |succ k bT=>intro t aN;have key:=alo t.args (fun x ab=>bT x (by have:=Ma ab;omega));clear bT;refine bf fA aaU ahk fun aP=>?_;unfold Ot;exact b2
structure eZ where
 v:Int
 t:cq
def eZ.e(b:eZ):ah:= .agg [.int .i64 b.v,.int .i64 b.t.kind,.int .i64 b.t.num,b.t.name.e,b.t.args.e 4 cq.e]
@[simp] theorem aoS(S:aH→Prop)(b:eZ):aC S b.e=True:=by simp[eZ.e,aC,aK]
@[simp] theorem art(b:eZ):ds b.e=b.e:=by simp[eZ.e,ds,cY]
theorem S3(S:aH→Prop):∀l:List eZ,aK S (l.map eZ.e)
 |[]=>by simp[aK]
 |x::xs=>by simp[aK,S3 S xs]
@[simp] theorem aoH(S:aH→Prop)(l:List eZ):aK S (l.map eZ.e)=True:=eq_true (S3 S l)
@[simp] theorem aqU(b:eZ):dY b.e=true:=rfl
@[simp] theorem aop(b:eZ):Pv.isAgg 5 b.e:=⟨_,rfl,rfl⟩
@[simp] theorem amY(b:eZ):cells b.e=[.int .i64 b.v,.int .i64 b.t.kind,.int .i64 b.t.num,b.t.name.e,b.t.args.e 4 cq.e]:=rfl
structure hc where
 v:Int
 s:gQ
def hc.e(b:hc):ah:= .agg [.int .i64 b.v,b.s.e]
@[simp] theorem ao4(S:aH→Prop)(b:hc):aC S b.e=True:=by simp[hc.e,aC,aK]
@[simp] theorem arF(b:hc):ds b.e=b.e:=by simp[hc.e,ds,cY]
theorem S8(S:aH→Prop):∀l:List hc,aK S (l.map hc.e)
 |[]=>by simp[aK]
 |x::xs=>by simp[aK,S8 S xs]
@[simp] theorem aoM(S:aH→Prop)(l:List hc):aK S (l.map hc.e)=True:=eq_true (S8 S l)
@[simp] theorem arc(b:hc):dY b.e=true:=rfl
@[simp] theorem aou(b:hc):Pv.isAgg 2 b.e:=⟨_,rfl,rfl⟩
@[simp] theorem ang(b:hc):cells b.e=[.int .i64 b.v,b.s.e]:=rfl
def rJ(b:eZ)(m:Int):Int:=gL b.t m
theorem L7(b:eZ)(m:Int)(h:0≤m): -1≤rJ b m∧rJ b m≤m:=uw b.t m h
def lC(b:hc)(m:Int):Int:=if m-b.s.len<0 then-1 else m-b.s.len
theorem C5(b:hc)(m:Int)(h:0≤m): -1≤lC b m∧lC b m≤m:=by have:=b.s.len_nn;unfold lC;split<;>omega
theorem Dz(t:cq):ah.agg [.int .i64 t.kind,.int .i64 t.num,t.name.e,t.args.e 4 cq.e]=t.e:=(cq.e_eq t).symm
theorem al3(b:eZ)(hw:b.t.wf)(m:Int)(bA:0≤m)(J:m≤1048576):bH al 97 [b.e,.int .i64 m] (.int .i64 (rJ b m)):=by
 have key:=Mu b.t hw m bA J;have hle:=uw b.t m bA;unfold rJ;generalize gL b.t m=q at key hle⊢;by_cases bo:q<0
 ·have:q= -1:=by omega
  subst this;refine bf fA Qn Ub fun aP=>?_;unfold HE;simp[Dz];(with_reducible repeat' first|refine aj ?_|refine aD key ?_|refine aE key ?_|simp[Dz]);all_goals simp[bt,Ld,aX,aZ,aW]
 ·refine bf fA Qn Ub fun aP=>?_;unfold HE;simp[Dz];(with_reducible repeat' first|refine aj ?_|refine aD key ?_|refine aE key ?_|simp[bo,Dz]);all_goals simp[bt,Ld,aX,aZ,aW]
theorem amc(b:cT):bH al 101 [b.e] b.e:=by have key:=Mv b.t;refine bf fA aaY aho fun aP=>?_;unfold Ox;exact b2
theorem alh(b:cT):bH al 103 [b.e,b.e] (.bool true):=by have key:=Mm b.t;refine bf fA aaO ahe fun aP=>?_;unfold Oj;exact b2
theorem al6(b:hc)(hw:b.s.wf)(m:Int)(bA:0≤m)(J:m≤1048576):bH al 144 [b.e,.int .i64 m] (.int .i64 (lC b m)):=by
 have kg:m-b.s.len<0→lC b m= -1:=fun g=>if_pos g;have kh:¬m-b.s.len<0→lC b m=m-b.s.len:=fun g=>if_neg g;generalize lC b m=R at kg kh;obtain⟨v,s⟩:=b;simp only[hc.e]at hw kg kh⊢;cases s with
 |b x=>
  simp only[gQ.wf,my,lim]at hw;have g:m-x.size<0:=by omega
  have bh:=kg g;subst bh;clear kg kh;simp only[gQ.e];refine bf fA Ip KM fun aP=>?_;unfold DM;exact b2
 |s l=>
  simp only[gQ.e];by_cases g:m-l.length<0
  ·have bh:=kg g;subst bh;clear kg kh hw;refine bf fA Ip KM fun aP=>?_;unfold DM;have eO:l.length≤68719476736:=by simp[eB,ec,et,lim]at aP;omega
   exact b2
  ·have bh:R=m-l.length:=kh g;subst bh;clear kg kh hw;refine bf fA Ip KM fun aP=>?_;unfold DM;have eO:l.length≤68719476736:=by simp[eB,ec,et,lim]at aP;omega
   exact b2
theorem amj(b:bK):bH al 156 [b.e] b.e:=by refine bf fA aa6 ahw fun aP=>?_;unfold OF;exact b2
theorem amf(b:bk):bH al 157 [b.e] b.e:=by refine bf fA aa1 ahr fun aP=>?_;unfold OA;exact b2
theorem alp(b:bK):bH al 170 [b.e,b.e] (.bool true):=by refine bf fA aaW ahm fun aP=>?_;unfold Ov;exact b2
theorem alk(b:bk):bH al 171 [b.e,b.e] (.bool true):=by refine bf fA aaR ahh fun aP=>?_;unfold On;exact b2
@[simp high] theorem aqN(x y:bk):mx x.e 0 [.int .i64 y.v,.str y.s]=y.e:=rfl
@[simp high] theorem aqM(x y:bK):mx x.e 0 [.int .i64 y.v,.int .i64 y.k]=y.e:=rfl
theorem al4(l:c3 eZ)(hw:∀p n cap,l= .b p n cap→my n)(aI:∀xs,l= .l xs→∀x∈xs,∀m,0≤m→m≤1048576→bH al 97 [eZ.e x,.int .i64 m] (.int .i64 (rJ x m)))(m:Int)(bA:0≤m)(J:m≤1048576):bH al 33 [l.e 5 eZ.e,.int .i64 m] (.int .i64 (gD rJ l m)):=by
 cases l with
 |b p n cap=>
  have aA:=hw p n cap rfl;simp only[my,lim]at aA;have g:m-n<0:=by omega
  simp only[c3.e,gD];clear hw aI;refine bf fA Qo Uc fun aP=>?_;unfold HF;exact b2
 |l l=>
 have aI:=aI l rfl;clear hw;simp only[c3.e,gD];generalize bh:ov rJ l m=R;unfold ov at bh;refine bf fA Qo Uc fun aP=>?_;unfold HF;have eO:l.length≤68719476736:=by simp[eB,ec,et,lim]at aP;omega
 simp;by_cases g:m-l.length<0
 ·rw[if_pos g]at bh;subst bh;exact b2
 rw[if_neg g]at bh;(with_reducible repeat' first|refine aj ?_|simp[g]);refine dW [0] (fun i (k:Int)=>[(1,.int .i64 k),(5,.int .i64 i)]) l.length (fun i k=>(0≤k∧k≤1048576)∧jO rJ (l.drop i) k=R) (m-l.length) b0 ⟨⟨by omega,by omega⟩,by simpa using bh⟩ (fun k af _=>?_) (fun i k hi af _=>?_)
 ·obtain⟨_,af⟩:=af;rw[List.drop_length]at af;simp only[jO]at af;subst af;exact b2
 ·obtain⟨⟨fc,aT⟩,af⟩:=af;obtain⟨x,ab,cy⟩:=ed hi;have key:=aI x (eG ab) k fc aT;have hle:=L7 x k fc;rw[sy ab]at af;simp only[jO]at af;generalize rJ x k=q at key hle af;clear ab;by_cases bo:q<0
  ·rw[if_pos bo]at af;subst af;exact b2
  ·rw[if_neg bo]at af;simp[hi,cy];((with_reducible repeat' first|refine aj ?_|refine aD key ?_|refine aE key ?_|simp[hi,cy,bo]|((first|apply bP|apply bS|apply bR)<;>intro h<;>try simp at h))<;>(try exact cp));all_goals exact bN.rng q hi ⟨⟨by omega,by omega⟩,af⟩ b0
theorem amd(l:List cT)(aI:∀x∈l,bH al 101 [cT.e x] (cT.e x)):bH al 35 [.slice 5 .no (l.map cT.e)] (.slice 5 .no (l.map cT.e)):=by
 refine bf fA aaZ ahp fun aP=>?_;unfold Oy;have eO:l.length≤68719476736:=by simp[eB,ec,et,lim]at aP;omega
 simp;all_goals first|(refine⟨by unfold lim;omega,?_⟩)|skip
 (with_reducible repeat' first|refine aj ?_|simp);have fj:∀(S:aH→Prop) (n:Nat),aK S (qK n (.agg [.int .i64 0,.int .i64 0,.int .i64 0,.str [],.slice 4 .nil []]))=True:=fun S n=>eq_true (xt S _ (by simp[aC,aK]) n);refine hQ (fun i (_:Unit)=>⟨[(0,.slice 5 .no (l.map cT.e)),(3,.row 5 (.loc 0) l.length),(4,.int .i64 i)],[],[(.loc 0,⟨l.length,113,5,some (h5 cT.e (.agg [.int .i64 0,.int .i64 0,.int .i64 0,.str [],.slice 4 .nil []]) l i)⟩)],1,[]⟩) l.length (fun _ _=>True) () ⟨by simp[fresh,aK,aC,cd,inObs,Pv.look,oe,fj],dZ (by simp[fresh,aK,aC,cd,inObs,Pv.look,oe,fj]),ea (by simp[fresh,aK,aC,dQ,inObs,Pv.look,oe,fj]),by simp⟩ trivial (fun _ _ _=>?_) (fun i _ hi _ _=>?_)
 ·rw[Cl];exact b2
 ·obtain⟨x,ab,cy⟩:=ed hi;have key:=aI x (eG ab);have ak:=Cm cT.e (.agg [.int .i64 0,.int .i64 0,.int .i64 0,.str [],.slice 4 .nil []]) l hi;have aB:=Cn cT.e (.agg [.int .i64 0,.int .i64 0,.int .i64 0,.str [],.slice 4 .nil []]) l ab;have bj:∀S:aH→Prop,aK S (h5 cT.e (.agg [.int .i64 0,.int .i64 0,.int .i64 0,.str [],.slice 4 .nil []]) l (i+1)):=fun S=>Ca S _ _ _ _ (fun x=>by simp) (by simp[aC,aK]);generalize h5 cT.e (.agg [.int .i64 0,.int .i64 0,.int .i64 0,.str [],.slice 4 .nil []]) l i=r0 at ak aB;generalize oX:h5 cT.e (.agg [.int .i64 0,.int .i64 0,.int .i64 0,.str [],.slice 4 .nil []]) l (i+1)=dI at aB bj;clear ab;simp[hi,cy];(with_reducible repeat' first|refine aj ?_|refine aD key ?_|refine aE key ?_|simp[hi,cy,ak,aB]);all_goals refine bN.rng () hi trivial ?_
  all_goals rw[oX]
  all_goals first
   |exact⟨by simp[fresh,aK,aC,cd,inObs,Pv.look,bj],dZ (by simp[fresh,aK,aC,cd,inObs,Pv.look,bj]),ea (by simp[fresh,aK,aC,dQ,inObs,Pv.look,bj]),by simp⟩
   |exact⟨by simp[fresh,aK,aC,cd,inObs,Pv.look,bj],dZ (by simp[fresh,aK,aC,cd,inObs,Pv.look,bj]),ea (by simp[fresh,aK,aC,dQ,inObs,Pv.look,bj];exact aB),by simp⟩
theorem ali(l:List cT)(aI:∀x∈l,bH al 103 [cT.e x,cT.e x] (.bool true)):bH al 37 [.slice 5 .no (l.map cT.e),.slice 5 .no (l.map cT.e)] (.bool true):=by
 refine bf fA aaP ahf fun aP=>?_;unfold Ol;have eO:l.length≤68719476736:=by simp[eB,ec,et,lim]at aP;omega
 simp;(with_reducible repeat' first|refine aj ?_|simp);refine dW [0,1] (fun i (_:Unit)=>[(5,.int .i64 i)]) l.length (fun _ _=>True) () b0 trivial (fun _ _ _=>?_) (fun i _ hi _ _=>?_)
 ·exact b2
 ·obtain⟨x,ab,cy⟩:=ed hi;have key:=aI x (eG ab);clear ab;exact hN
theorem al7(l:c3 hc)(hw:∀p n cap,l= .b p n cap→my n)(aI:∀xs,l= .l xs→∀x∈xs,∀m,0≤m→m≤1048576→bH al 144 [hc.e x,.int .i64 m] (.int .i64 (lC x m)))(m:Int)(bA:0≤m)(J:m≤1048576):bH al 74 [l.e 2 hc.e,.int .i64 m] (.int .i64 (gD lC l m)):=by
 cases l with
 |b p n cap=>
  have aA:=hw p n cap rfl;simp only[my,lim]at aA;have g:m-n<0:=by omega
  simp only[c3.e,gD];clear hw aI;refine bf fA Qq Ue fun aP=>?_;unfold HH;exact b2
 |l l=>
 have aI:=aI l rfl;clear hw;simp only[c3.e,gD];generalize bh:ov lC l m=R;unfold ov at bh;refine bf fA Qq Ue fun aP=>?_;unfold HH;have eO:l.length≤68719476736:=by simp[eB,ec,et,lim]at aP;omega
 simp;by_cases g:m-l.length<0
 ·rw[if_pos g]at bh;subst bh;exact b2
 rw[if_neg g]at bh;(with_reducible repeat' first|refine aj ?_|simp[g]);refine dW [0] (fun i (k:Int)=>[(1,.int .i64 k),(5,.int .i64 i)]) l.length (fun i k=>(0≤k∧k≤1048576)∧jO lC (l.drop i) k=R) (m-l.length) b0 ⟨⟨by omega,by omega⟩,by simpa using bh⟩ (fun k af _=>?_) (fun i k hi af _=>?_)
 ·obtain⟨_,af⟩:=af;rw[List.drop_length]at af;simp only[jO]at af;subst af;exact b2
 ·obtain⟨⟨fc,aT⟩,af⟩:=af;obtain⟨x,ab,cy⟩:=ed hi;have key:=aI x (eG ab) k fc aT;have hle:=C5 x k fc;rw[sy ab]at af;simp only[jO]at af;generalize lC x k=q at key hle af;clear ab;by_cases bo:q<0
  ·rw[if_pos bo]at af;subst af;exact b2
  ·rw[if_neg bo]at af;simp[hi,cy];((with_reducible repeat' first|refine aj ?_|refine aD key ?_|refine aE key ?_|simp[hi,cy,bo]|((first|apply bP|apply bS|apply bR)<;>intro h<;>try simp at h))<;>(try exact cp));all_goals exact bN.rng q hi ⟨⟨by omega,by omega⟩,af⟩ b0
theorem amg(l:List bk)(aI:∀x∈l,bH al 157 [bk.e x] (bk.e x)):bH al 85 [.slice 2 .no (l.map bk.e)] (.slice 2 .no (l.map bk.e)):=by
 refine bf fA aa2 ahs fun aP=>?_;unfold OB;have eO:l.length≤68719476736:=by simp[eB,ec,et,lim]at aP;omega
 simp;all_goals first|(refine⟨by unfold lim;omega,?_⟩)|skip
 (with_reducible repeat' first|refine aj ?_|simp);have fj:∀(S:aH→Prop) (n:Nat),aK S (qK n ((⟨0,[]⟩:bk).e))=True:=fun S n=>eq_true (xt S _ (by simp[aC,aK]) n);refine hQ (fun i (_:Unit)=>⟨[(0,.slice 2 .no (l.map bk.e)),(3,.row 2 (.loc 0) l.length),(4,.int .i64 i)],[],[(.loc 0,⟨l.length,100,2,some (h5 bk.e ((⟨0,[]⟩:bk).e) l i)⟩)],1,[]⟩) l.length (fun _ _=>True) () ⟨by simp[fresh,aK,aC,cd,inObs,Pv.look,oe,fj],dZ (by simp[fresh,aK,aC,cd,inObs,Pv.look,oe,fj]),ea (by simp[fresh,aK,aC,dQ,inObs,Pv.look,oe,fj]),by simp⟩ trivial (fun _ _ _=>?_) (fun i _ hi _ _=>?_)
 ·rw[Cl];exact b2
 ·obtain⟨x,ab,cy⟩:=ed hi;have key:=aI x (eG ab);have ak:=Cm bk.e ((⟨0,[]⟩:bk).e) l hi;have aB:=Cn bk.e ((⟨0,[]⟩:bk).e) l ab;have bj:∀S:aH→Prop,aK S (h5 bk.e ((⟨0,[]⟩:bk).e) l (i+1)):=fun S=>Ca S _ _ _ _ (fun x=>by simp) (by simp[aC,aK]);generalize h5 bk.e ((⟨0,[]⟩:bk).e) l i=r0 at ak aB;generalize oX:h5 bk.e ((⟨0,[]⟩:bk).e) l (i+1)=dI at aB bj;clear ab;simp[hi,cy];(with_reducible repeat' first|refine aj ?_|refine aD key ?_|refine aE key ?_|simp[hi,cy,ak,aB,-mx]);all_goals refine bN.rng () hi trivial ?_
  all_goals rw[oX]
  all_goals first
   |exact⟨by simp[fresh,aK,aC,cd,inObs,Pv.look,bj],dZ (by simp[fresh,aK,aC,cd,inObs,Pv.look,bj]),ea (by simp[fresh,aK,aC,dQ,inObs,Pv.look,bj]),by simp⟩
   |exact⟨by simp[fresh,aK,aC,cd,inObs,Pv.look,bj],dZ (by simp[fresh,aK,aC,cd,inObs,Pv.look,bj]),ea (by simp[fresh,aK,aC,dQ,inObs,Pv.look,bj];exact aB),by simp⟩
theorem alm(l:List bk)(aI:∀x∈l,bH al 171 [bk.e x,bk.e x] (.bool true)):bH al 94 [.slice 2 .no (l.map bk.e),.slice 2 .no (l.map bk.e)] (.bool true):=by
 refine bf fA aaS ahi fun aP=>?_;unfold Oo;have eO:l.length≤68719476736:=by simp[eB,ec,et,lim]at aP;omega
 simp;(with_reducible repeat' first|refine aj ?_|simp);refine dW [0,1] (fun i (_:Unit)=>[(5,.int .i64 i)]) l.length (fun _ _=>True) () b0 trivial (fun _ _ _=>?_) (fun i _ hi _ _=>?_)
 ·exact b2
 ·obtain⟨x,ab,cy⟩:=ed hi;have key:=aI x (eG ab);clear ab;exact hN
theorem amk(l:List bK)(aI:∀x∈l,bH al 156 [bK.e x] (bK.e x)):bH al 84 [.slice 2 .no (l.map bK.e)] (.slice 2 .no (l.map bK.e)):=by
 refine bf fA aa7 ahx fun aP=>?_;unfold OG;have eO:l.length≤68719476736:=by simp[eB,ec,et,lim]at aP;omega
 simp;all_goals first|(refine⟨by unfold lim;omega,?_⟩)|skip
 (with_reducible repeat' first|refine aj ?_|simp);have fj:∀(S:aH→Prop) (n:Nat),aK S (qK n ((⟨0,0⟩:bK).e))=True:=fun S n=>eq_true (xt S _ (by simp[aC,aK]) n);refine hQ (fun i (_:Unit)=>⟨[(0,.slice 2 .no (l.map bK.e)),(3,.row 2 (.loc 0) l.length),(4,.int .i64 i)],[],[(.loc 0,⟨l.length,98,2,some (h5 bK.e ((⟨0,0⟩:bK).e) l i)⟩)],1,[]⟩) l.length (fun _ _=>True) () ⟨by simp[fresh,aK,aC,cd,inObs,Pv.look,oe,fj],dZ (by simp[fresh,aK,aC,cd,inObs,Pv.look,oe,fj]),ea (by simp[fresh,aK,aC,dQ,inObs,Pv.look,oe,fj]),by simp⟩ trivial (fun _ _ _=>?_) (fun i _ hi _ _=>?_)
 ·rw[Cl];exact b2
 ·obtain⟨x,ab,cy⟩:=ed hi;have key:=aI x (eG ab);have ak:=Cm bK.e ((⟨0,0⟩:bK).e) l hi;have aB:=Cn bK.e ((⟨0,0⟩:bK).e) l ab;have bj:∀S:aH→Prop,aK S (h5 bK.e ((⟨0,0⟩:bK).e) l (i+1)):=fun S=>Ca S _ _ _ _ (fun x=>by simp) (by simp[aC,aK]);generalize h5 bK.e ((⟨0,0⟩:bK).e) l i=r0 at ak aB;generalize oX:h5 bK.e ((⟨0,0⟩:bK).e) l (i+1)=dI at aB bj;clear ab;simp[hi,cy];(with_reducible repeat' first|refine aj ?_|refine aD key ?_|refine aE key ?_|simp[hi,cy,ak,aB,-mx]);all_goals refine bN.rng () hi trivial ?_
  all_goals rw[oX]
  all_goals first
   |exact⟨by simp[fresh,aK,aC,cd,inObs,Pv.look,bj],dZ (by simp[fresh,aK,aC,cd,inObs,Pv.look,bj]),ea (by simp[fresh,aK,aC,dQ,inObs,Pv.look,bj]),by simp⟩
   |exact⟨by simp[fresh,aK,aC,cd,inObs,Pv.look,bj],dZ (by simp[fresh,aK,aC,cd,inObs,Pv.look,bj]),ea (by simp[fresh,aK,aC,dQ,inObs,Pv.look,bj];exact aB),by simp⟩
theorem alq(l:List bK)(aI:∀x∈l,bH al 170 [bK.e x,bK.e x] (.bool true)):bH al 93 [.slice 2 .no (l.map bK.e),.slice 2 .no (l.map bK.e)] (.bool true):=by
 refine bf fA aaX ahn fun aP=>?_;unfold Ow;have eO:l.length≤68719476736:=by simp[eB,ec,et,lim]at aP;omega
 simp;(with_reducible repeat' first|refine aj ?_|simp);refine dW [0,1] (fun i (_:Unit)=>[(5,.int .i64 i)]) l.length (fun _ _=>True) () b0 trivial (fun _ _ _=>?_) (fun i _ hi _ _=>?_)
 ·exact b2
 ·obtain⟨x,ab,cy⟩:=ed hi;have key:=aI x (eG ab);clear ab;exact hN
def ou:c3 bK→Int→Int
 | .l l,m=>if m-l.length<0 then-1 else m-l.length
 | .b _ _ _,_=> -1
theorem L9(l:c3 bK)(m:Int)(h:0≤m): -1≤ou l m∧ou l m≤m:=by
 cases l with
 |l l=>simp only[ou];split<;>omega
 |b=>simp only[ou];omega
theorem al9(l:c3 bK)(hw:∀p n cap,l= .b p n cap→my n)(m:Int)(bA:0≤m)(J:m≤1048576):bH al 73 [l.e 2 bK.e,.int .i64 m] (.int .i64 (ou l m)):=by
 cases l with
 |b p n cap=>
  have aA:=hw p n cap rfl;simp only[my,lim]at aA;have g:m-n<0:=by omega
  simp only[c3.e,ou];clear hw;refine bf fA Iq KN fun aP=>?_;unfold DN;exact b2
 |l l=>
  simp only[c3.e,ou];clear hw;by_cases g:m-l.length<0
  ·rw[if_pos g];refine bf fA Iq KN fun aP=>?_;unfold DN;have eO:l.length≤68719476736:=by simp[eB,ec,et,lim]at aP;omega
   exact b2
  ·rw[if_neg g];refine bf fA Iq KN fun aP=>?_;unfold DN;have eO:l.length≤68719476736:=by simp[eB,ec,et,lim]at aP;omega
   exact b2
def j9(d:c3 eZ):ah:=d.e 5 eZ.e
@[simp] theorem aoV(S:aH→Prop)(d:c3 eZ):aC S (j9 d)=True:=by cases d<;>simp[j9,c3.e,aC]
@[simp] theorem arw(d:c3 eZ):ds (j9 d)=j9 d:=by
 cases d with
 |l l=>
  have:∀l:List eZ,cY (l.map eZ.e)=l.map eZ.e:=by
   intro l;induction l with
   |nil=>rfl
   |cons x l bT=>simp[cY,bT]
  simp[j9,c3.e,ds,this]
 |b=>simp[j9,c3.e,ds]
theorem Tb(S:aH→Prop):∀l:List (c3 eZ),aK S (l.map j9)
 |[]=>by simp[aK]
 |x::xs=>by simp[aK,Tb S xs]
@[simp] theorem aoO(S:aH→Prop)(l:List (c3 eZ)):aK S (l.map j9)=True:=eq_true (Tb S l)
@[simp] theorem aq0(d:c3 eZ):dY (j9 d)=true:=by cases d<;>rfl
@[simp] theorem am2(d:c3 eZ):cells (j9 d)=[j9 d]:=by cases d<;>rfl
def hW(d:c3 eZ)(m:Int):Int:=gD rJ d m
theorem vU(d:c3 eZ)(m:Int)(h:0≤m): -1≤hW d m∧hW d m≤m:=uv L7 d m h
def wb(d:c3 eZ):Prop:=d.wf fun b=>b.t.wf
@[simp] theorem akE:∀l:List (List cT),cY (l.map fW)=l.map fW
 |[]=>rfl
 |x::xs=>by simp[cY,akE xs]
theorem WV(d:c3 eZ)(hw:wb d)(m:Int)(bA:0≤m)(J:m≤1048576):bH al 33 [j9 d,.int .i64 m] (.int .i64 (hW d m)):=al4 d (fun p n c e=>by subst e;exact hw) (fun xs e x ab m bA J=>by subst e;exact al3 x (hw x ab) m bA J) m bA J
theorem WX(d:List cT):bH al 35 [fW d] (fW d):=amd d fun x _=>amc x
theorem Wx(d:List cT):bH al 37 [fW d,fW d] (.bool true):=ali d fun x _=>alh x
theorem al5(l:c3 (c3 eZ))(hw:∀p n cap,l= .b p n cap→my n)(aI:∀xs,l= .l xs→∀x∈xs,∀m,0≤m→m≤1048576→bH al 33 [j9 x,.int .i64 m] (.int .i64 (hW x m)))(m:Int)(bA:0≤m)(J:m≤1048576):bH al 72 [l.e 1 j9,.int .i64 m] (.int .i64 (gD hW l m)):=by
 cases l with
 |b p n cap=>
  have aA:=hw p n cap rfl;simp only[my,lim]at aA;have g:m-n<0:=by omega
  simp only[c3.e,gD];clear hw aI;refine bf fA Qp Ud fun aP=>?_;unfold HG;exact b2
 |l l=>
 have aI:=aI l rfl;clear hw;simp only[c3.e,gD];generalize bh:ov hW l m=R;unfold ov at bh;refine bf fA Qp Ud fun aP=>?_;unfold HG;have eO:l.length≤68719476736:=by simp[eB,ec,et,lim]at aP;omega
 simp;by_cases g:m-l.length<0
 ·rw[if_pos g]at bh;subst bh;exact b2
 rw[if_neg g]at bh;(with_reducible repeat' first|refine aj ?_|simp[g]);refine dW [0] (fun i (k:Int)=>[(1,.int .i64 k),(5,.int .i64 i)]) l.length (fun i k=>(0≤k∧k≤1048576)∧jO hW (l.drop i) k=R) (m-l.length) b0 ⟨⟨by omega,by omega⟩,by simpa using bh⟩ (fun k af _=>?_) (fun i k hi af _=>?_)
 ·obtain⟨_,af⟩:=af;rw[List.drop_length]at af;simp only[jO]at af;subst af;exact b2
 ·obtain⟨⟨fc,aT⟩,af⟩:=af;obtain⟨x,ab,cy⟩:=ed hi;have key:=aI x (eG ab) k fc aT;have hle:=vU x k fc;rw[sy ab]at af;simp only[jO]at af;generalize hW x k=q at key hle af;clear ab;by_cases bo:q<0
  ·rw[if_pos bo]at af;subst af;exact b2
  ·rw[if_neg bo]at af;simp[hi,cy];((with_reducible repeat' first|refine aj ?_|refine aD key ?_|refine aE key ?_|simp[hi,cy,bo]|((first|apply bP|apply bS|apply bR)<;>intro h<;>try simp at h))<;>(try exact cp));all_goals exact bN.rng q hi ⟨⟨by omega,by omega⟩,af⟩ b0
theorem ame(l:List (List cT))(aI:∀x∈l,bH al 35 [fW x] (fW x)):bH al 83 [.slice 1 .no (l.map fW)] (.slice 1 .no (l.map fW)):=by
 refine bf fA aa0 ahq fun aP=>?_;unfold Oz;have eO:l.length≤68719476736:=by simp[eB,ec,et,lim]at aP;omega
 simp;all_goals first|(refine⟨by unfold lim;omega,?_⟩)|skip
 (with_reducible repeat' first|refine aj ?_|simp);have fj:∀(S:aH→Prop) (n:Nat),aK S (qK n (.slice 5 .nil []))=True:=fun S n=>eq_true (xt S _ (by simp[aC,aK]) n);refine hQ (fun i (_:Unit)=>⟨[(0,.slice 1 .no (l.map fW)),(3,.row 1 (.loc 0) l.length),(4,.int .i64 i)],[],[(.loc 0,⟨l.length,46,1,some (h5 fW (.slice 5 .nil []) l i)⟩)],1,[]⟩) l.length (fun _ _=>True) () ⟨by simp[fresh,aK,aC,cd,inObs,Pv.look,oe,fj],dZ (by simp[fresh,aK,aC,cd,inObs,Pv.look,oe,fj]),ea (by simp[fresh,aK,aC,dQ,inObs,Pv.look,oe,fj]),by simp⟩ trivial (fun _ _ _=>?_) (fun i _ hi _ _=>?_)
 ·rw[Cl];exact b2
 ·obtain⟨x,ab,cy⟩:=ed hi;have key:=aI x (eG ab);have ak:=Cm fW (.slice 5 .nil []) l hi;have aB:=Cn fW (.slice 5 .nil []) l ab;have bj:∀S:aH→Prop,aK S (h5 fW (.slice 5 .nil []) l (i+1)):=fun S=>Ca S _ _ _ _ (fun x=>by simp) (by simp[aC,aK]);generalize h5 fW (.slice 5 .nil []) l i=r0 at ak aB;generalize oX:h5 fW (.slice 5 .nil []) l (i+1)=dI at aB bj;clear ab;simp[hi,cy];(with_reducible repeat' first|refine aj ?_|refine aD key ?_|refine aE key ?_|simp[hi,cy,ak,aB]);all_goals refine bN.rng () hi trivial ?_
  all_goals rw[oX]
  all_goals first
   |exact⟨by simp[fresh,aK,aC,cd,inObs,Pv.look,bj],dZ (by simp[fresh,aK,aC,cd,inObs,Pv.look,bj]),ea (by simp[fresh,aK,aC,dQ,inObs,Pv.look,bj]),by simp⟩
   |exact⟨by simp[fresh,aK,aC,cd,inObs,Pv.look,bj],dZ (by simp[fresh,aK,aC,cd,inObs,Pv.look,bj]),ea (by simp[fresh,aK,aC,dQ,inObs,Pv.look,bj];exact aB),by simp⟩
theorem alj(l:List (List cT))(aI:∀x∈l,bH al 37 [fW x,fW x] (.bool true)):bH al 92 [.slice 1 .no (l.map fW),.slice 1 .no (l.map fW)] (.bool true):=by
 refine bf fA aaQ ahg fun aP=>?_;unfold Om;have eO:l.length≤68719476736:=by simp[eB,ec,et,lim]at aP;omega
 simp;(with_reducible repeat' first|refine aj ?_|simp);refine dW [0,1] (fun i (_:Unit)=>[(5,.int .i64 i)]) l.length (fun _ _=>True) () b0 trivial (fun _ _ _=>?_) (fun i _ hi _ _=>?_)
 ·exact b2
 ·obtain⟨x,ab,cy⟩:=ed hi;have key:=aI x (eG ab);clear ab;exact hN
end Go.Proofs.YtahlgcidhnjlbaaGreat
