/- FnExactEntailsEqual returns true for every input, and the input reads behind the call as it did before. No conditions. -/
import Derived.Test.YtahlgcidhnjlbaaGreatRows
import Derived.Test.YtahlgcidhnjlbaaGreatE7
set_option linter.all false
set_option maxHeartbeats 4000000
open ByteArray renaming empty→amX
open Go renaming TypeId→fT
open Go.ChangeSpec renaming witness6→asi
open Go.OpenClaim renaming holds_of_wide→asn
open Go.Proofs.Tryz renaming f7→kA,prog→al
open Go.Proofs.YtahlgcidhnjlbaaGreat.Rows renaming fnExactEntailsEqualRow→jI,fnExactEntailsEqualSpec→rZ
namespace Go.Proofs.YtahlgcidhnjlbaaGreat
open Go Go.Pv Go.ChangeShapes Go.WideShapes Go.ChangeAt Go.RowKit
set_option maxRecDepth 100000 in
theorem fnExactEntailsEqual_lifted(os:Os)(started:os.Started)(H:Type)(enc:fT×Value→H):
  ReturnsInHanded {} Tryz.checked os 7 .any (rZ.pre6 enc al kA jI.domain false) (rZ.post enc al kA false true false false):=by
 refine returnsInHanded_of_change (C:=Tryz.checked) akj started (by kernel_rfl) Tryz.func7
  (asi (enc:=enc) (C:=Tryz.checked) false ⟨#[],#[.agg #[.int .i64 0,.slice none 0 0,.slice none 0 0,.slice none 0 0,.slice none 0 0],.agg #[.int .i64 0,.int .i64 0,.string amX,.slice none 0 0],.agg #[.int .i64 0,.int .i64 0,.string amX,.slice none 0 0]],[]⟩ 8 (by kernel_rfl) (by kernel_rfl) (by kernel_rfl) (by kernel_rfl)) ?_
 intro W base args eM gs before ae4 Bv aou _;have lX:∀(j:Nat) t v,kA.params[j]? =some t→args[j]? =some v→Value.okWide al W .any base t v:=ae4;have RE:=Bv;obtain⟨p,q,q4,j1,rfl,aoy,BO⟩:=Bv;have bg:DataW.TrodAll enc al W 0 (fun _=>true) true kA.params.toList args.toList eM p:=q4;rw[Tryz.params7]at bg lX;obtain⟨v0,v1,v2,d0,d1,d2,F2,cN,dq,rfl,rfl,rfl,bB,J,U⟩:=trodAll_three bg;obtain⟨rfl,rfl⟩:=trodVars_none j1;have ff:=bB;obtain⟨wh,rfl,_⟩:=okWide_struct Tryz.underlying43 (lX 0 43 v0 rfl rfl);obtain⟨n0,f0⟩:=bB;have aS:=J;obtain⟨h7,rfl,_⟩:=okWide_struct Tryz.underlying24 (lX 1 24 v1 rfl rfl);obtain⟨hV,f1⟩:=J;have bp:=U;obtain⟨iL,rfl,_⟩:=okWide_struct Tryz.underlying24 (lX 2 24 v2 rfl rfl);obtain⟨fZ,f2⟩:=U;have bC:∀x∈F2++cN++dq,x.block<W.heap.size:=fun x ab=>by simpa using RE.lt x (by simpa using ab)
 have adM:Calls al 7 #[.agg wh,.agg h7,.agg iL] W fun e w'=>e= .returned (.bool true)∧Below W.heap.size W w':=by obtain⟨r0,w0,fl⟩:=akY f0;obtain⟨dI,eI,ak⟩:=WI f1;obtain⟨eZ,du,aB⟩:=WI f2;refine YC (ν:=qk W) Tryz.func7 (enters_of Tryz.func7 (by kernel_rfl) rfl) (alx r0 w0 dI eZ eI du) (fun _ _ _ h=>h) (fun b o h=>Zz h) (fun _=>rfl) (fun _=>rfl) ?_;simp only[cK];exact⟨_,_,rfl,fl,⟨_,_,rfl,ak,⟨_,_,rfl,aB,rfl⟩⟩⟩
 refine adM.mono fun e am4 ⟨he,w2⟩=>?_;subst he;refine⟨_,rfl,_,_,_,[],F2++cN++dq,[],RE,?_,?_,rfl,w2.frame _,fun h=>by cases h⟩
 ·exact trodAll_mk1 (shut_bool Tryz.underlying4 true)
 ·rw[List.append_assoc];exact trodAll_mk3 (Below.trod L1 (by kernel_rfl) (of_decide_eq_true (by kernel_rfl)) ff w2 fun x ab=>bC x (by simp[ab])) (Below.trod L1 (by kernel_rfl) (of_decide_eq_true (by kernel_rfl)) aS w2 fun x ab=>bC x (by simp[ab])) (Below.trod L1 (by kernel_rfl) (of_decide_eq_true (by kernel_rfl)) bp w2 fun x ab=>bC x (by simp[ab]))
theorem fnExactEntailsEqual_holds:Rows.FnExactEntailsEqualSaid:=
 asn 7 kA rfl rfl rfl rfl rfl rfl rfl ⟨rfl,rfl,rfl,rfl,rfl⟩ rfl rfl rfl rfl rfl (by as_aux_lemma=>kernel_rfl) Tryz.func7 Zj
  (of_decide_eq_true (by kernel_rfl)) (by unfold Func.isWrapper;first|(rw[if_pos (by decide+kernel)];kernel_rfl)|(rw[if_neg (by decide+kernel)];exact⟨rfl,rfl⟩))
  (fun os started H enc _=>fnExactEntailsEqual_lifted os started H enc)
#print axioms fnExactEntailsEqual_holds
end Go.Proofs.YtahlgcidhnjlbaaGreat
