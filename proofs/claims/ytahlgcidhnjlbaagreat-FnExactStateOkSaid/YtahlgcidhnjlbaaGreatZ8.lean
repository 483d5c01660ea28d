/- FnExactStateOk returns true for every input, and the input reads behind the call as it did before. No conditions. -/
import Derived.Test.YtahlgcidhnjlbaaGreatRows
import Derived.Test.YtahlgcidhnjlbaaGreatZ7
set_option linter.all false
set_option maxHeartbeats 4000000
open Go renaming TypeId→fT
open Go.ChangeSpec renaming witness6→apv
open Go.OpenClaim renaming holds_of_wide→apz
open Go.Proofs.Tryz renaming f4→kh,prog→ao
open Go.Proofs.YtahlgcidhnjlbaaGreat.Rows renaming fnExactStateOkRow→jt,fnExactStateOkSpec→rB
namespace Go.Proofs.YtahlgcidhnjlbaaGreat
open Go Go.Pv Go.ChangeShapes Go.WideShapes Go.ChangeAt Go.RowKit
set_option maxRecDepth 100000 in
theorem fnExactStateOk_lifted(os:Os)(started:os.Started)(H:Type)(enc:fT×Value→H):
  ReturnsInHanded {} Tryz.checked os 4 .any (rB.pre6 enc ao kh jt.domain false) (rB.post enc ao kh false true false false):=by
 refine returnsInHanded_of_change (C:=Tryz.checked) aie started (by kernel_rfl) Tryz.func4
  (apv (enc:=enc) (C:=Tryz.checked) false ⟨#[],#[.agg #[.int .i64 0,.slice none 0 0,.slice none 0 0,.slice none 0 0,.slice none 0 0]],[]⟩ 8 (by kernel_rfl) (by kernel_rfl) (by kernel_rfl) (by kernel_rfl)) ?_
 intro W base args ey gs before ac7 AU ame _;have mE:∀(j:Nat) t v,kh.params[j]? =some t→args[j]? =some v→Value.okWide ao W .any base t v:=ac7;have P6:=AU;obtain⟨p,q,qH,jK,rfl,ami,Be⟩:=AU;have bd:DataW.TrodAll enc ao W 0 (fun _=>true) true kh.params.toList args.toList ey p:=qH;rw[Tryz.params4]at bd mE;obtain⟨v0,d0,rfl,rfl,bs⟩:=trodAll_one bd;obtain⟨rfl,rfl⟩:=trodVars_none jK;have e9:=bs;obtain⟨vK,rfl,_⟩:=okWide_struct Tryz.underlying43 (mE 0 43 v0 rfl rfl);obtain⟨n0,f0⟩:=bs;have bu:∀x∈p,x.block<W.heap.size:=fun x ad=>by simpa using P6.lt x (by simpa using ad)
 have abN:Calls ao 4 #[.agg vK] W fun e w'=>e= .returned (.bool true)∧Below W.heap.size W w':=by obtain⟨r0,w0,ff⟩:=aiV f0;refine WO (ν:=qw W) Tryz.func4 (enters_of Tryz.func4 (by kernel_rfl) rfl) (ajp r0 w0) (fun _ _ _ h=>h) (fun b o h=>XK h) (fun _=>rfl) (fun _=>rfl) ?_;simp only[cH];exact⟨_,_,rfl,ff,rfl⟩
 refine abN.mono fun e akO ⟨he,A0⟩=>?_;subst he;refine⟨_,rfl,_,_,_,[],p,[],P6,?_,?_,rfl,A0.frame _,fun h=>by cases h⟩
 ·exact trodAll_mk1 (shut_bool Tryz.underlying4 true)
 ·exact trodAll_mk1 (Below.trod aid (by kernel_rfl) (of_decide_eq_true (by kernel_rfl)) e9 A0 fun x ad=>bu x (by simp[ad]))
theorem fnExactStateOk_holds:Rows.FnExactStateOkSaid:=
 apz 4 kh rfl rfl rfl rfl rfl rfl rfl ⟨rfl,rfl,rfl,rfl,rfl⟩ rfl rfl rfl rfl rfl (by as_aux_lemma=>kernel_rfl) Tryz.func4 Xw
  (of_decide_eq_true (by kernel_rfl)) (by unfold Func.isWrapper;first|(rw[if_pos (by decide+kernel)];kernel_rfl)|(rw[if_neg (by decide+kernel)];exact⟨rfl,rfl⟩))
  (fun os started H enc _=>fnExactStateOk_lifted os started H enc)
#print axioms fnExactStateOk_holds
end Go.Proofs.YtahlgcidhnjlbaaGreat
