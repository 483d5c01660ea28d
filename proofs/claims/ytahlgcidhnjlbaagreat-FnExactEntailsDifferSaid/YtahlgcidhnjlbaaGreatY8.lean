/- FnExactEntailsDiffer returns true for every input, and the input reads behind the call as it did before. No conditions. -/
import Derived.Test.YtahlgcidhnjlbaaGreatRows
import Derived.Test.YtahlgcidhnjlbaaGreatY7
set_option linter.all false
set_option maxHeartbeats 4000000
open ByteArray renaming empty→amu
open Go renaming TypeId→fT
open Go.ChangeSpec renaming witness6→arP
open Go.OpenClaim renaming holds_of_wide→arT
open Go.Proofs.Tryz renaming f5→kv,prog→al
open Go.Proofs.YtahlgcidhnjlbaaGreat.Rows renaming fnExactEntailsDifferRow→jG,fnExactEntailsDifferSpec→rR
namespace Go.Proofs.YtahlgcidhnjlbaaGreat
open Go Go.Pv Go.ChangeShapes Go.WideShapes Go.ChangeAt Go.RowKit
set_option maxRecDepth 100000 in
theorem fnExactEntailsDiffer_lifted(os:Os)(started:os.Started)(H:Type)(enc:fT×Value→H):
  ReturnsInHanded {} Tryz.checked os 5 .any (rR.pre6 enc al kv jG.domain false) (rR.post enc al kv false true false false):=by
 refine returnsInHanded_of_change (C:=Tryz.checked) ajR started (by kernel_rfl) Tryz.func5
  (arP (enc:=enc) (C:=Tryz.checked) false ⟨#[],#[.agg #[.int .i64 0,.slice none 0 0,.slice none 0 0,.slice none 0 0,.slice none 0 0],.agg #[.int .i64 0,.int .i64 0,.string amu,.slice none 0 0],.agg #[.int .i64 0,.int .i64 0,.string amu,.slice none 0 0]],[]⟩ 8 (by kernel_rfl) (by kernel_rfl) (by kernel_rfl) (by kernel_rfl)) ?_
 intro W base args eH gs before aeB Bm an1 _;have lW:∀(j:Nat) t v,kv.params[j]? =some t→args[j]? =some v→Value.okWide al W .any base t v:=aeB;have Rg:=Bm;obtain⟨p,q,q0,jW,rfl,an5,BF⟩:=Bm;have bg:DataW.TrodAll enc al W 0 (fun _=>true) true kv.params.toList args.toList eH p:=q0;rw[Tryz.params5]at bg lW;obtain⟨v0,v1,v2,d0,d1,d2,FN,cM,dn,rfl,rfl,rfl,bA,J,U⟩:=trodAll_three bg;obtain⟨rfl,rfl⟩:=trodVars_none jW;have fc:=bA;obtain⟨vY,rfl,_⟩:=okWide_struct Tryz.underlying43 (lW 0 43 v0 rfl rfl);obtain⟨n0,f0⟩:=bA;have aT:=J;obtain⟨h7,rfl,_⟩:=okWide_struct Tryz.underlying24 (lW 1 24 v1 rfl rfl);obtain⟨hV,f1⟩:=J;have bz:=U;obtain⟨iK,rfl,_⟩:=okWide_struct Tryz.underlying24 (lW 2 24 v2 rfl rfl);obtain⟨fZ,f2⟩:=U;have bC:∀x∈FN++cM++dn,x.block<W.heap.size:=fun x ab=>by simpa using Rg.lt x (by simpa using ab)
 have adk:Calls al 5 #[.agg vY,.agg h7,.agg iK] W fun e w'=>e= .returned (.bool true)∧Below W.heap.size W w':=by obtain⟨r0,w0,fj⟩:=akw f0;obtain⟨dI,eD,ak⟩:=Wc f1;obtain⟨eY,du,aB⟩:=Wc f2;refine Ya (ν:=qh W) Tryz.func5 (enters_of Tryz.func5 (by kernel_rfl) rfl) (ak2 r0 w0 dI eY eD du) (fun _ _ _ h=>h) (fun b o h=>Y6 h) (fun _=>rfl) (fun _=>rfl) ?_;simp only[cN];exact⟨_,_,rfl,fj,⟨_,_,rfl,ak,⟨_,_,rfl,aB,rfl⟩⟩⟩
 refine adk.mono fun e amB ⟨he,wS⟩=>?_;subst he;refine⟨_,rfl,_,_,_,[],FN++cM++dn,[],Rg,?_,?_,rfl,wS.frame _,fun h=>by cases h⟩
 ·exact trodAll_mk1 (shut_bool Tryz.underlying4 true)
 ·rw[List.append_assoc];exact trodAll_mk3 (Below.trod LG (by kernel_rfl) (of_decide_eq_true (by kernel_rfl)) fc wS fun x ab=>bC x (by simp[ab])) (Below.trod LG (by kernel_rfl) (of_decide_eq_true (by kernel_rfl)) aT wS fun x ab=>bC x (by simp[ab])) (Below.trod LG (by kernel_rfl) (of_decide_eq_true (by kernel_rfl)) bz wS fun x ab=>bC x (by simp[ab]))
theorem fnExactEntailsDiffer_holds:Rows.FnExactEntailsDifferSaid:=
 arT 5 kv rfl rfl rfl rfl rfl rfl rfl ⟨rfl,rfl,rfl,rfl,rfl⟩ rfl rfl rfl rfl rfl (by as_aux_lemma=>kernel_rfl) Tryz.func5 YR
  (of_decide_eq_true (by kernel_rfl)) (by unfold Func.isWrapper;first|(rw[if_pos (by decide+kernel)];kernel_rfl)|(rw[if_neg (by decide+kernel)];exact⟨rfl,rfl⟩))
  (fun os started H enc _=>fnExactEntailsDiffer_lifted os started H enc)
#print axioms fnExactEntailsDiffer_holds
end Go.Proofs.YtahlgcidhnjlbaaGreat
