/- FnStates returns true for every input, and the input reads behind the call as it did before. No conditions. -/
import Derived.Test.YtohaalphocaebaaGreatRows
import Derived.Test.YtohaalphocaebaaGreatY5
set_option linter.all false
set_option maxHeartbeats 4000000
open Go renaming TypeId→gx
open Go.ChangeSpec renaming witness6→apO
open Go.OpenClaim renaming holds_of_wide→apS
open Go.Proofs.Tryz renaming prog→az
open Go.Value renaming cells→ou
open List renaming getElem?_eq_some_iff→fG
open Option renaming map_eq_some_iff→gd
namespace Go.Proofs.YtohaalphocaebaaGreat
open Go Go.Pv Go.ChangeShapes Go.WideShapes Go.ChangeAt Go.RowKit
theorem fnStates_long(a:Option Addr)(len cap:Nat)(h:1048576<len)(hm:len≤9223372036854775807)(w:World):Calls az 3 #[.slice a len cap] w fun e w'=>e= .returned (.bool true)∧w'=w:=by go_enter Tryz.func3,Tryz.ntmps3;go_wp2;go_ret;exact⟨rfl,rfl⟩
set_option maxRecDepth 100000 in
theorem fnStates_any(W:World)(a:Addr)(len cap:Nat)(c4:List Int)(aq:len≤cap)(hm:cap≤maxLen)(bf:c4.length=cap)(l2:∀i,i<c4.length→W.cell? (a.add i)=some (.int .u8 (c4.getD i 0)))(JG:∀n∈c4,(Lit.int .u8 n).wf=true):
  Calls az 3 #[.slice (some a) len cap] W fun e w'=>e= .returned (.bool true)∧Below W.heap.size W w':=by
 by_cases yD:1048576<len
 ·refine(fnStates_long (some a) len cap yD (by unfold maxLen at hm;omega) W).mono ?_;rintro e w' ⟨rfl,rfl⟩;exact⟨rfl,Below.refl _ _⟩
 ·have hlen:(c4.take len).length=len:=by simp;omega
  have aK:qQ (c4.take len):=fun x ad=>aku (JG x (List.mem_of_mem_take ad));have jd:=Wa (c4.take len) aK;rcases Nat.eq_zero_or_pos len with rfl|fq
  ·refine HO (ν:=ym 0 0 0) Tryz.func3 (enters_of Tryz.func3 (by kernel_rfl) rfl) jd (fun _ _ _ h=>h) (fun b o h=>by simp[ym]at h) (fun _=>rfl) (fun _=>rfl) ?_;simp only[cJ,a6];refine⟨_,_,rfl,⟨⟨some a,cap,by simp[hs],by simp[hs],⟨hm,by simp[hs,lim]⟩,.inl (by simp[hs])⟩,fun e=>(by cases e),fun g e=>(by cases e),fun _ _ e=>(by cases e),fun _ e=>(by cases e)⟩,rfl⟩
  ·obtain⟨AB,Hj,spot⟩:=a;have adF:spot=none:=by simpa[Addr.add]using World.cell?_spot (l2 0 (by omega))
   subst adF;have pw:AB<W.heap.size:=by
    have:=l2 0 (by omega);rcases Nat.lt_or_ge AB W.heap.size with h|h
    ·exact h
    ·simp[World.cell?,Addr.add,Array.getElem?_eq_none h]at this
   refine HO (ν:=ym AB Hj len) Tryz.func3 (enters_of Tryz.func3 (by kernel_rfl) rfl) jd (fun _ _ _ h=>h) (fun b o h=>by simp[ym]at h;omega) (fun _=>rfl) (fun _=>rfl) ?_;simp only[cJ,a6];refine⟨_,_,rfl,⟨⟨some ⟨AB,Hj,none⟩,cap,by simp[hlen],by simp[hlen];omega,⟨hm,by simp[hlen,lim];omega⟩,.inr ⟨AB,Hj,(c4.take len).map (Value.int .u8),rfl,?_,Ns _ _ _⟩⟩,fun e=>(by cases e),fun g e=>(by cases e),fun _ _ e=>(by cases e),fun _ e=>(by cases e)⟩,rfl⟩;refine zi _ _ _ _ _ fun i u hu=>?_;simp only[List.getElem?_map,gd]at hu;obtain⟨x,ad,rfl⟩:=hu;have hi:i<len:=by have:=(fG.1 ad).1;omega
   refine⟨⟨rfl,by omega,by omega⟩,?_⟩;have:=l2 i (by omega);rw[Addr.add_lit]at this;rw[this];congr 2;rw[List.getElem?_take,if_pos hi]at ad;simp[List.getD,ad]
theorem fnStates_nil(W:World):Calls az 3 #[.slice none 0 0] W fun e w'=>e= .returned (.bool true)∧Below W.heap.size W w':=by refine HO (ν:=ym 0 0 0) Tryz.func3 (enters_of Tryz.func3 (by kernel_rfl) rfl) (Wa [] (by simp[qQ])) (fun _ _ _ h=>h) (fun b o h=>by simp[ym]at h) (fun _=>rfl) (fun _=>rfl) ?_;simp only[cJ,a6];exact⟨_,_,rfl,⟨⟨none,0,by simp[hs],by simp[hs],⟨by simp[maxLen],by simp[hs,lim]⟩,.inl (by simp[hs])⟩,fun e=>(by cases e),fun g e=>(by cases e),fun _ _ e=>(by cases e),fun _ e=>(by cases e)⟩,rfl⟩
set_option maxRecDepth 100000 in
theorem fnStates_lifted(os:Os)(started:os.Started)(H:Type)(enc:gx×Value→H):
  ReturnsInHanded {} Tryz.checked os 3 .any (Rows.fnStatesSpec.pre6 enc az Tryz.f3 Rows.fnStatesRow.domain false) (Rows.fnStatesSpec.post enc az Tryz.f3 false true false false):=by
 refine returnsInHanded_of_change (C:=Tryz.checked) aiv started (by kernel_rfl) Tryz.func3
  (apO (enc:=enc) (C:=Tryz.checked) false ⟨#[],#[.slice none 0 0],[]⟩ 8 (by kernel_rfl) (by kernel_rfl) (by kernel_rfl) (by kernel_rfl)) ?_
 intro W base args eH gs before adN Bb ami _;have mG:∀(j:Nat) t v,Tryz.f3.params[j]? =some t→args[j]? =some v→Value.okWide az W .any base t v:=adN;have Q0:=Bb;obtain⟨p,q,q2,jd,rfl,amm,Bv⟩:=Bb;have bd:DataW.TrodAll enc az W 0 (fun _=>true) true Tryz.f3.params.toList args.toList eH p:=q2;rw[Tryz.params3]at bd mG;obtain⟨v0,d0,rfl,rfl,bV⟩:=trodAll_one bd;obtain⟨rfl,rfl⟩:=trodVars_none jd;have ab3:=bV;obtain⟨a0,len,cap,rfl⟩:=okWide_slice Tryz.underlying22 (mG 0 22 v0 rfl rfl);obtain⟨fuel,aQ⟩:=bV;have bq:∀x∈p,x.block<W.heap.size:=fun x ad=>by simpa using Q0.lt x (by simpa using ad)
 have acs:Calls az 3 #[.slice a0 len cap] W fun e w'=>e= .returned (.bool true)∧Below W.heap.size W w':=by
  rcases open_ints Tryz.underlying22 Tryz.underlying5 XZ aQ with⟨da,ad⟩|⟨a,anp,AN,c4,da,_,aq,hm,bf,ad,l2,JG⟩
  ·simp[ou]at da;obtain⟨rfl,rfl,rfl⟩:=da;exact fnStates_nil W
  ·simp[ou]at da;obtain⟨rfl,rfl,rfl⟩:=da;simp only[if_true]at bf;exact fnStates_any W a len cap c4 aq hm bf l2 JG
 refine acs.mono fun e akJ ⟨he,Bg⟩=>?_;subst he;refine⟨_,rfl,_,_,_,[],p,[],Q0,?_,?_,rfl,Bg.frame _,fun h=>by cases h⟩
 ·exact trodAll_mk1 (shut_bool Tryz.underlying4 true)
 ·exact trodAll_mk1 (Below.trod aiu (by kernel_rfl) (of_decide_eq_true (by kernel_rfl)) ab3 Bg bq)
theorem fnStates_holds:Rows.FnStatesSaid:=
 apS 3 Tryz.f3 rfl rfl rfl rfl rfl rfl rfl ⟨rfl,rfl,rfl,rfl,rfl⟩ rfl rfl rfl rfl rfl (by kernel_rfl) Tryz.func3 (by kernel_rfl)
  (of_decide_eq_true (by kernel_rfl)) (by unfold Func.isWrapper;first|(rw[if_pos (by decide+kernel)];kernel_rfl)|(rw[if_neg (by decide+kernel)];exact⟨rfl,rfl⟩))
  (fun os started H enc _=>fnStates_lifted os started H enc)
#print axioms fnStates_holds
end Go.Proofs.YtohaalphocaebaaGreat
