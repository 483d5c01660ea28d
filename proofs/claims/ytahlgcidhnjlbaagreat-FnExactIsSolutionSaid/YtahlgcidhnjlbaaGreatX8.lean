/- FnExactIsSolution returns true for every input, and the input reads behind the call as it did before. No conditions. -/
import Derived.Test.YtahlgcidhnjlbaaGreatRows
import Derived.Test.YtahlgcidhnjlbaaGreatX7
set_option linter.all false
set_option maxHeartbeats 4000000
open Go renaming TypeId→fR
open Go.ChangeSpec renaming witness6→arG
open Go.OpenClaim renaming holds_of_wide→arK
open Go.Proofs.Tryz renaming f6→kx,prog→al
open Go.Proofs.YtahlgcidhnjlbaaGreat.Rows renaming fnExactIsSolutionRow→jH,fnExactIsSolutionSpec→r6
namespace Go.Proofs.YtahlgcidhnjlbaaGreat
open Go Go.Pv Go.ChangeShapes Go.WideShapes Go.ChangeAt Go.RowKit
set_option maxRecDepth 100000 in
theorem fnExactIsSolution_lifted(os:Os)(started:os.Started)(H:Type)(enc:fR×Value→H):
  ReturnsInHanded {} Tryz.checked os 6 .any (r6.pre6 enc al kx jH.domain false) (r6.post enc al kx false true false false):=by
 refine returnsInHanded_of_change (C:=Tryz.checked) ajH started (by kernel_rfl) Tryz.func6
  (arG (enc:=enc) (C:=Tryz.checked) false ⟨#[],#[.agg #[.int .i64 0,.slice none 0 0,.slice none 0 0,.slice none 0 0,.slice none 0 0],.slice none 0 0],[]⟩ 8 (by kernel_rfl) (by kernel_rfl) (by kernel_rfl) (by kernel_rfl)) ?_
 intro W base args eE gs before aes Br anR _;have mg:∀(j:Nat) t v,kx.params[j]? =some t→args[j]? =some v→Value.okWide al W .any base t v:=aes;have Q8:=Br;obtain⟨p,q,q7,jY,rfl,anV,BK⟩:=Br;have bg:DataW.TrodAll enc al W 0 (fun _=>true) true kx.params.toList args.toList eE p:=q7;rw[Tryz.params6]at bg mg;obtain⟨v0,v1,d0,d1,FT,cO,rfl,rfl,rfl,bA,J⟩:=trodAll_two bg;obtain⟨rfl,rfl⟩:=trodVars_none jY;have fb:=bA;obtain⟨wv,rfl,_⟩:=okWide_struct Tryz.underlying43 (mg 0 43 v0 rfl rfl);obtain⟨n0,f0⟩:=bA;have aU:=J;obtain⟨bC,jj,bH,rfl⟩:=okWide_slice Tryz.underlying38 (mg 1 38 v1 rfl rfl);obtain⟨hW,f1⟩:=J;have bD:∀x∈FT++cO,x.block<W.heap.size:=fun x ae=>by simpa using Q8.lt x (by simpa using ae)
 have ac9:Calls al 6 #[.agg wv,.slice bC jj bH] W fun e w'=>e= .returned (.bool true)∧Below W.heap.size W w':=by obtain⟨r0,w0,fl⟩:=akn f0;obtain⟨dH,ec,ak⟩:=XN f1;refine XY (ν:=qk W) Tryz.func6 (enters_of Tryz.func6 (by kernel_rfl) rfl) (akT r0 w0 dH ec) (fun _ _ _ h=>h) (fun b o h=>YT h) (fun _=>rfl) (fun _=>rfl) ?_;simp only[cP];exact⟨_,_,rfl,fl,⟨_,_,rfl,ak,rfl⟩⟩
 refine ac9.mono fun e amr ⟨he,y1⟩=>?_;subst he;refine⟨_,rfl,_,_,_,[],FT++cO,[],Q8,?_,?_,rfl,y1.frame _,fun h=>by cases h⟩
 ·exact trodAll_mk1 (shut_bool Tryz.underlying4 true)
 ·exact trodAll_mk2 (Below.trod Vx (by kernel_rfl) (of_decide_eq_true (by kernel_rfl)) fb y1 fun x ae=>bD x (by simp[ae])) (Below.trod Vx (by kernel_rfl) (of_decide_eq_true (by kernel_rfl)) aU y1 fun x ae=>bD x (by simp[ae]))
theorem fnExactIsSolution_holds:Rows.FnExactIsSolutionSaid:=
 arK 6 kx rfl rfl rfl rfl rfl rfl rfl ⟨rfl,rfl,rfl,rfl,rfl⟩ rfl rfl rfl rfl rfl (by as_aux_lemma=>kernel_rfl) Tryz.func6 YF
  (of_decide_eq_true (by kernel_rfl)) (by unfold Func.isWrapper;first|(rw[if_pos (by decide+kernel)];kernel_rfl)|(rw[if_neg (by decide+kernel)];exact⟨rfl,rfl⟩))
  (fun os started H enc _=>fnExactIsSolution_lifted os started H enc)
#print axioms fnExactIsSolution_holds
end Go.Proofs.YtahlgcidhnjlbaaGreat
