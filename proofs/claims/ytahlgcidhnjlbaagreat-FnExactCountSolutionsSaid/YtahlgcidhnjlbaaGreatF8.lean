/- FnExactCountSolutions returns true for every input, and the input reads behind the call as it did before. No conditions. -/
import Derived.Test.YtahlgcidhnjlbaaGreatRows
import Derived.Test.YtahlgcidhnjlbaaGreatF7
set_option linter.all false
set_option maxHeartbeats 4000000
open Go renaming TypeId→fZ
open Go.ChangeSpec renaming witness6→atG
open Go.OpenClaim renaming holds_of_wide→atK
open Go.Proofs.Tryz renaming f8→kO,prog→ao
open Go.Proofs.YtahlgcidhnjlbaaGreat.Rows renaming fnExactCountSolutionsRow→jS,fnExactCountSolutionsSpec→su
namespace Go.Proofs.YtahlgcidhnjlbaaGreat
open Go Go.Pv Go.ChangeShapes Go.WideShapes Go.ChangeAt Go.RowKit
set_option maxRecDepth 100000 in
theorem fnExactCountSolutions_lifted(os:Os)(started:os.Started)(H:Type)(enc:fZ×Value→H):
  ReturnsInHanded {} Tryz.checked os 8 .any (su.pre6 enc ao kO jS.domain false) (su.post enc ao kO false true false false):=by
 refine returnsInHanded_of_change (C:=Tryz.checked) alu started (by kernel_rfl) Tryz.func8
  (atG (enc:=enc) (C:=Tryz.checked) false ⟨#[],#[.agg #[.int .i64 0,.slice none 0 0,.slice none 0 0,.slice none 0 0,.slice none 0 0],.slice none 0 0],[]⟩ 8 (by kernel_rfl) (by kernel_rfl) (by kernel_rfl) (by kernel_rfl)) ?_
 intro W base args eH gs before af2 B9 apO _;have mB:∀(j:Nat) t v,kO.params[j]? =some t→args[j]? =some v→Value.okWide ao W .any base t v:=af2;have Sm:=B9;obtain⟨p,q,rH,jq,rfl,apS,Cs⟩:=B9;have bk:DataW.TrodAll enc ao W 0 (fun _=>true) true kO.params.toList args.toList eH p:=rH;rw[Tryz.params8]at bk mB;obtain⟨v0,v1,d0,d1,GN,cP,rfl,rfl,rfl,bn,J⟩:=trodAll_two bk;obtain⟨rfl,rfl⟩:=trodVars_none jq;have fj:=bn;obtain⟨w5,rfl,_⟩:=okWide_struct Tryz.underlying43 (mB 0 43 v0 rfl rfl);obtain⟨n0,f0⟩:=bn;have aU:=J;obtain⟨bD,jv,bL,rfl⟩:=okWide_slice Tryz.underlying22 (mB 1 22 v1 rfl rfl);obtain⟨h2,f1⟩:=J;have bE:∀x∈GN++cP,x.block<W.heap.size:=fun x af=>by simpa using Sm.lt x (by simpa using af)
 have aeL:Calls ao 8 #[.agg w5,.slice bD jv bL] W fun e w'=>e= .returned (.bool true)∧Below W.heap.size W w':=by obtain⟨r0,w0,fo⟩:=ama f0;obtain⟨dM,eg,ak⟩:=amt f1;refine Zu (ν:=qJ W) Tryz.func8 (enters_of Tryz.func8 (by kernel_rfl) rfl) (amM r0 w0 dM eg) (fun _ _ _ h=>h) (fun b o h=>aaq h) (fun _=>rfl) (fun _=>rfl) ?_;simp only[cQ];exact⟨_,_,rfl,fo,⟨_,_,rfl,ak,rfl⟩⟩
 refine aeL.mono fun e aon ⟨he,zF⟩=>?_;subst he;refine⟨_,rfl,_,_,_,[],GN++cP,[],Sm,?_,?_,rfl,zF.frame _,fun h=>by cases h⟩
 ·exact trodAll_mk1 (shut_bool Tryz.underlying4 true)
 ·exact trodAll_mk2 (Below.trod WR (by kernel_rfl) (of_decide_eq_true (by kernel_rfl)) fj zF fun x af=>bE x (by simp[af])) (Below.trod WR (by kernel_rfl) (of_decide_eq_true (by kernel_rfl)) aU zF fun x af=>bE x (by simp[af]))
theorem fnExactCountSolutions_holds:Rows.FnExactCountSolutionsSaid:=
 atK 8 kO rfl rfl rfl rfl rfl rfl rfl ⟨rfl,rfl,rfl,rfl,rfl⟩ rfl rfl rfl rfl rfl (by as_aux_lemma=>kernel_rfl) Tryz.func8 aab
  (of_decide_eq_true (by kernel_rfl)) (by unfold Func.isWrapper;first|(rw[if_pos (by decide+kernel)];kernel_rfl)|(rw[if_neg (by decide+kernel)];exact⟨rfl,rfl⟩))
  (fun os started H enc _=>fnExactCountSolutions_lifted os started H enc)
#print axioms fnExactCountSolutions_holds
end Go.Proofs.YtahlgcidhnjlbaaGreat
