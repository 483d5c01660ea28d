/- FnExactStateImplies returns true for every input, and the input reads behind the call as it did before. No conditions. -/
import Derived.Test.YtahlgcidhnjlbaaGreatRows
import Derived.Test.YtahlgcidhnjlbaaGreatH7
set_option linter.all false
set_option maxHeartbeats 4000000
open Go renaming TypeId→gm
open Go.ChangeSpec renaming witness6→at3
open Go.OpenClaim renaming holds_of_wide→at7
open Go.Proofs.Tryz renaming f10→kR,prog→al
open Go.Proofs.YtahlgcidhnjlbaaGreat.Rows renaming fnExactStateImpliesRow→jZ,fnExactStateImpliesSpec→sB
namespace Go.Proofs.YtahlgcidhnjlbaaGreat
open Go Go.Pv Go.ChangeShapes Go.WideShapes Go.ChangeAt Go.RowKit
set_option maxRecDepth 100000 in
theorem fnExactStateImplies_lifted(os:Os)(started:os.Started)(H:Type)(enc:gm×Value→H):
  ReturnsInHanded {} Tryz.checked os 10 .any (sB.pre6 enc al kR jZ.domain false) (sB.post enc al kR false true false false):=by
 refine returnsInHanded_of_change (C:=Tryz.checked) al9 started (by kernel_rfl) Tryz.func10
  (at3 (enc:=enc) (C:=Tryz.checked) false ⟨#[],#[.agg #[.int .i64 0,.slice none 0 0,.slice none 0 0,.slice none 0 0,.slice none 0 0],.agg #[.int .i64 0,.slice none 0 0,.slice none 0 0,.slice none 0 0,.slice none 0 0]],[]⟩ 8 (by kernel_rfl) (by kernel_rfl) (by kernel_rfl) (by kernel_rfl)) ?_
 intro W base args eT gs before agG Ce aqk _;have mE:∀(j:Nat) t v,kR.params[j]? =some t→args[j]? =some v→Value.okWide al W .any base t v:=agG;have S4:=Ce;obtain⟨p,q,rH,kj,rfl,aqo,CA⟩:=Ce;have bm:DataW.TrodAll enc al W 0 (fun _=>true) true kR.params.toList args.toList eT p:=rH;rw[Tryz.params10]at bm mE;obtain⟨v0,v1,d0,d1,G7,cQ,rfl,rfl,rfl,bD,J⟩:=trodAll_two bm;obtain⟨rfl,rfl⟩:=trodVars_none kj;have fo:=bD;obtain⟨w4,rfl,_⟩:=okWide_struct Tryz.underlying43 (mE 0 43 v0 rfl rfl);obtain⟨n0,f0⟩:=bD;have aP:=J;obtain⟨iB,rfl,_⟩:=okWide_struct Tryz.underlying43 (mE 1 43 v1 rfl rfl);obtain⟨ic,f1⟩:=J;have bE:∀x∈G7++cQ,x.block<W.heap.size:=fun x ab=>by simpa using S4.lt x (by simpa using ab)
 have afn:Calls al 10 #[.agg w4,.agg iB] W fun e w'=>e= .returned (.bool true)∧Below W.heap.size W w':=by obtain⟨r0,w0,fv⟩:=XO f0;obtain⟨cN,eP,ak⟩:=XO f1;refine Z7 (ν:=rr W) Tryz.func10 (enters_of Tryz.func10 (by kernel_rfl) rfl) (anj r0 w0 cN eP) (fun _ _ _ h=>h) (fun b o h=>aa5 h) (fun _=>rfl) (fun _=>rfl) ?_;simp only[cM];exact⟨_,_,rfl,fv,⟨_,_,rfl,ak,rfl⟩⟩
 refine afn.mono fun e aoT ⟨he,zE⟩=>?_;subst he;refine⟨_,rfl,_,_,_,[],G7++cQ,[],S4,?_,?_,rfl,zE.frame _,fun h=>by cases h⟩
 ·exact trodAll_mk1 (shut_bool Tryz.underlying4 true)
 ·exact trodAll_mk2 (Below.trod Xw (by kernel_rfl) (of_decide_eq_true (by kernel_rfl)) fo zE fun x ab=>bE x (by simp[ab])) (Below.trod Xw (by kernel_rfl) (of_decide_eq_true (by kernel_rfl)) aP zE fun x ab=>bE x (by simp[ab]))
theorem fnExactStateImplies_holds:Rows.FnExactStateImpliesSaid:=
 at7 10 kR rfl rfl rfl rfl rfl rfl rfl ⟨rfl,rfl,rfl,rfl,rfl⟩ rfl rfl rfl rfl rfl (by as_aux_lemma=>kernel_rfl) Tryz.func10 aaO
  (of_decide_eq_true (by kernel_rfl)) (by unfold Func.isWrapper;first|(rw[if_pos (by decide+kernel)];kernel_rfl)|(rw[if_neg (by decide+kernel)];exact⟨rfl,rfl⟩))
  (fun os started H enc _=>fnExactStateImplies_lifted os started H enc)
#print axioms fnExactStateImplies_holds
end Go.Proofs.YtahlgcidhnjlbaaGreat
