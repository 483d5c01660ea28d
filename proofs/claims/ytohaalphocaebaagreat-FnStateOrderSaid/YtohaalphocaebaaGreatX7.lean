/- FnStateOrder returns true for every input, and the input reads behind the call as it did before. No conditions. -/
import Derived.Test.YtohaalphocaebaaGreatRows
import Derived.Test.YtohaalphocaebaaGreatX6
set_option linter.all false
set_option maxHeartbeats 4000000
open Go renaming TypeId→gL
open Go.ChangeSpec renaming witness6→arV
open Go.OpenClaim renaming holds_of_wide→arZ
open Go.Proofs.Tryz renaming prog→az
open Go.Value renaming cells→oY
open List renaming getElem?_eq_some_iff→fU
open Option renaming map_eq_some_iff→gr
namespace Go.Proofs.YtohaalphocaebaaGreat
open Go Go.Pv Go.ChangeShapes Go.WideShapes Go.ChangeAt Go.RowKit
theorem fnStateOrder_long(a:Option Addr)(len cap:Nat)(h:1048576<len)(hm:len≤9223372036854775807)(w:World):Calls az 4 #[.slice a len cap] w fun e w'=>e= .returned (.bool true)∧w'=w:=by go_enter Tryz.func4,Tryz.ntmps4;go_wp2;go_ret;exact⟨rfl,rfl⟩
set_option maxRecDepth 100000 in
theorem fnStateOrder_any(W:World)(a:Addr)(len cap:Nat)(c0:List Int)(aq:len≤cap)(hm:cap≤maxLen)(aY:c0.length=cap)(mx:∀i,i<c0.length→W.cell? (a.add i)=some (.int .u8 (c0.getD i 0)))(K6:∀n∈c0,(Lit.int .u8 n).wf=true):
  Calls az 4 #[.slice (some a) len cap] W fun e w'=>e= .returned (.bool true)∧Below W.heap.size W w':=by
 by_cases Cv:1048576<len
 ·refine(fnStateOrder_long (some a) len cap Cv (by unfold maxLen at hm;omega) W).mono ?_;rintro e w' ⟨rfl,rfl⟩;exact⟨rfl,Below.refl _ _⟩
 ·have hlen:(c0.take len).length=len:=by simp;omega
  have aE:sM (c0.take len):=fun x ab=>amS (K6 x (List.mem_of_mem_take ab));have iP:=XL (c0.take len) aE;rcases Nat.eq_zero_or_pos len with rfl|fE
  ·refine Jj (ν:=zv 0 0 0) Tryz.func4 (enters_of Tryz.func4 (by kernel_rfl) rfl) iP (fun _ _ _ h=>h) (fun b o h=>by simp[zv]at h) (fun _=>rfl) (fun _=>rfl) ?_;simp only[cK,a6];refine⟨_,_,rfl,⟨⟨some a,cap,by simp[hO],by simp[hO],⟨hm,by simp[hO,lim]⟩,.inl (by simp[hO])⟩,fun e=>(by cases e),fun g e=>(by cases e),fun _ _ e=>(by cases e),fun _ e=>(by cases e)⟩,rfl⟩
  ·obtain⟨BQ,IL,spot⟩:=a;have afF:spot=none:=by simpa[Addr.add]using World.cell?_spot (mx 0 (by omega))
   subst afF;have pY:BQ<W.heap.size:=by
    have:=mx 0 (by omega);rcases Nat.lt_or_ge BQ W.heap.size with h|h
    ·exact h
    ·simp[World.cell?,Addr.add,Array.getElem?_eq_none h]at this
   refine Jj (ν:=zv BQ IL len) Tryz.func4 (enters_of Tryz.func4 (by kernel_rfl) rfl) iP (fun _ _ _ h=>h) (fun b o h=>by simp[zv]at h;omega) (fun _=>rfl) (fun _=>rfl) ?_;simp only[cK,a6];refine⟨_,_,rfl,⟨⟨some ⟨BQ,IL,none⟩,cap,by simp[hlen],by simp[hlen];omega,⟨hm,by simp[hlen,lim];omega⟩,.inr ⟨BQ,IL,(c0.take len).map (Value.int .u8),rfl,?_,O1 _ _ _⟩⟩,fun e=>(by cases e),fun g e=>(by cases e),fun _ _ e=>(by cases e),fun _ e=>(by cases e)⟩,rfl⟩;refine AB _ _ _ _ _ fun i u hu=>?_;simp only[List.getElem?_map,gr]at hu;obtain⟨x,ab,rfl⟩:=hu;have hi:i<len:=by have:=(fU.1 ab).1;omega
   refine⟨⟨rfl,by omega,by omega⟩,?_⟩;have:=mx i (by omega);rw[Addr.add_lit]at this;rw[this];congr 2;rw[List.getElem?_take,if_pos hi]at ab;simp[List.getD,ab]
theorem fnStateOrder_nil(W:World):Calls az 4 #[.slice none 0 0] W fun e w'=>e= .returned (.bool true)∧Below W.heap.size W w':=by refine Jj (ν:=zv 0 0 0) Tryz.func4 (enters_of Tryz.func4 (by kernel_rfl) rfl) (XL [] (by simp[sM])) (fun _ _ _ h=>h) (fun b o h=>by simp[zv]at h) (fun _=>rfl) (fun _=>rfl) ?_;simp only[cK,a6];exact⟨_,_,rfl,⟨⟨none,0,by simp[hO],by simp[hO],⟨by simp[maxLen],by simp[hO,lim]⟩,.inl (by simp[hO])⟩,fun e=>(by cases e),fun g e=>(by cases e),fun _ _ e=>(by cases e),fun _ e=>(by cases e)⟩,rfl⟩
set_option maxRecDepth 100000 in
theorem fnStateOrder_lifted(os:Os)(started:os.Started)(H:Type)(enc:gL×Value→H):
  ReturnsInHanded {} Tryz.checked os 4 .any (Rows.fnStateOrderSpec.pre6 enc az Tryz.f4 Rows.fnStateOrderRow.domain false) (Rows.fnStateOrderSpec.post enc az Tryz.f4 false true false false):=by
 refine returnsInHanded_of_change (C:=Tryz.checked) akP started (by kernel_rfl) Tryz.func4
  (arV (enc:=enc) (C:=Tryz.checked) false ⟨#[],#[.slice none 0 0],[]⟩ 8 (by kernel_rfl) (by kernel_rfl) (by kernel_rfl) (by kernel_rfl)) ?_
 intro W base args eO gs before afO Cr aoG _;have kf:∀(j:Nat) t v,Tryz.f4.params[j]? =some t→args[j]? =some v→Value.okWide az W .any base t v:=afO;have SD:=Cr;obtain⟨p,q,rJ,iP,rfl,aoK,CJ⟩:=Cr;have ba:DataW.TrodAll enc az W 0 (fun _=>true) true Tryz.f4.params.toList args.toList eO p:=rJ;rw[Tryz.params4]at ba kf;obtain⟨v0,d0,rfl,rfl,bD⟩:=trodAll_one ba;obtain⟨rfl,rfl⟩:=trodVars_none iP;have ad1:=bD;obtain⟨a0,len,cap,rfl⟩:=okWide_slice Tryz.underlying22 (kf 0 22 v0 rfl rfl);obtain⟨fuel,aO⟩:=bD;have bm:∀x∈p,x.block<W.heap.size:=fun x ab=>by simpa using SD.lt x (by simpa using ab)
 have aer:Calls az 4 #[.slice a0 len cap] W fun e w'=>e= .returned (.bool true)∧Below W.heap.size W w':=by
  rcases open_ints Tryz.underlying22 Tryz.underlying5 ZH aO with⟨df,ab⟩|⟨a,apJ,B2,c0,df,_,aq,hm,aY,ab,mx,K6⟩
  ·simp[oY]at df;obtain⟨rfl,rfl,rfl⟩:=df;exact fnStateOrder_nil W
  ·simp[oY]at df;obtain⟨rfl,rfl,rfl⟩:=df;simp only[if_true]at aY;exact fnStateOrder_any W a len cap c0 aq hm aY mx K6
 refine aer.mono fun e am5 ⟨he,Cu⟩=>?_;subst he;refine⟨_,rfl,_,_,_,[],p,[],SD,?_,?_,rfl,Cu.frame _,fun h=>by cases h⟩
 ·exact trodAll_mk1 (shut_bool Tryz.underlying4 true)
 ·exact trodAll_mk1 (Below.trod akO (by kernel_rfl) (of_decide_eq_true (by kernel_rfl)) ad1 Cu bm)
theorem fnStateOrder_holds:Rows.FnStateOrderSaid:=
 arZ 4 Tryz.f4 rfl rfl rfl rfl rfl rfl rfl ⟨rfl,rfl,rfl,rfl,rfl⟩ rfl rfl rfl rfl rfl (by kernel_rfl) Tryz.func4 (by kernel_rfl)
  (of_decide_eq_true (by kernel_rfl)) (by unfold Func.isWrapper;first|(rw[if_pos (by decide+kernel)];kernel_rfl)|(rw[if_neg (by decide+kernel)];exact⟨rfl,rfl⟩))
  (fun os started H enc _=>fnStateOrder_lifted os started H enc)
#print axioms fnStateOrder_holds
end Go.Proofs.YtohaalphocaebaaGreat
