/- FnExactAnswerOk returns true for every input, and the input reads behind the call as it did before. No conditions. -/
import Derived.Test.YtohaalphocaebaaGreatRows
import Derived.Test.YtohaalphocaebaaGreatZ7
set_option linter.all false
set_option maxHeartbeats 4000000
open Go renaming TypeId→fV
open Go.ChangeSpec renaming witness6→asZ
open Go.OpenClaim renaming holds_of_wide→as3
open Go.Proofs.Tryz renaming f5→kt,prog→al
open Go.Proofs.YtohaalphocaebaaGreat.Rows renaming fnExactAnswerOkRow→jD,fnExactAnswerOkSpec→r3
namespace Go.Proofs.YtohaalphocaebaaGreat
open Go Go.Pv Go.ChangeShapes Go.WideShapes Go.ChangeAt Go.RowKit
set_option maxRecDepth 100000 in
theorem fnExactAnswerOk_lifted(os:Os)(started:os.Started)(H:Type)(enc:fV×Value→H):
  ReturnsInHanded {} Tryz.checked os 5 .any (r3.pre6 enc al kt jD.domain false) (r3.post enc al kt false true false false):=by
 refine returnsInHanded_of_change (C:=Tryz.checked) akG started (by kernel_rfl) Tryz.func5
  (asZ (enc:=enc) (C:=Tryz.checked) false ⟨#[],#[.agg #[.slice none 0 0,.int .i64 0,.slice none 0 0,.slice none 0 0,.slice none 0 0,.slice none 0 0]],[]⟩ 8 (by kernel_rfl) (by kernel_rfl) (by kernel_rfl) (by kernel_rfl)) ?_
 intro W base args eG gs before afk sr ao2 _;have mU:∀(j:Nat) t v,kt.params[j]? =some t→args[j]? =some v→Value.okWide al W .any base t v:=afk;have RG:=sr;obtain⟨p,q,q7,jW,rfl,ao6,vr⟩:=sr;have bh:DataW.TrodAll enc al W 0 (fun _=>true) true kt.params.toList args.toList eG p:=q7;rw[Tryz.params5]at bh mU;obtain⟨v0,d0,rfl,rfl,bq⟩:=trodAll_one bh;obtain⟨rfl,rfl⟩:=trodVars_none jW;have ff:=bq;obtain⟨wy,rfl,_⟩:=okWide_struct Tryz.underlying51 (mU 0 51 v0 rfl rfl);obtain⟨n0,f0⟩:=bq;have bA:∀x∈p,x.block<W.heap.size:=fun x ad=>by simpa using RG.lt x (by simpa using ad)
 have ad6:Calls al 5 #[.agg wy] W fun e w'=>e= .returned (.bool true)∧Below W.heap.size W w':=by obtain⟨r0,w0,e8⟩:=Yg f0;refine YL (ν:=qW W) Tryz.func5 (enters_of Tryz.func5 (by kernel_rfl) rfl) (al4 r0 w0) (fun _ _ _ h=>h) (fun b o h=>ZH h) (fun _=>rfl) (fun _=>rfl) ?_;simp only[cP];exact⟨_,_,rfl,e8,rfl⟩
 refine ad6.mono fun e anA ⟨he,BG⟩=>?_;subst he;refine⟨_,rfl,_,_,_,[],p,[],RG,?_,?_,rfl,BG.frame _,fun h=>by cases h⟩
 ·exact trodAll_mk1 (shut_bool Tryz.underlying4 true)
 ·exact trodAll_mk1 (Below.trod akF (by kernel_rfl) (of_decide_eq_true (by kernel_rfl)) ff BG fun x ad=>bA x (by simp[ad]))
theorem fnExactAnswerOk_holds:Rows.FnExactAnswerOkSaid:=
 as3 5 kt rfl rfl rfl rfl rfl rfl rfl ⟨rfl,rfl,rfl,rfl,rfl⟩ rfl rfl rfl rfl rfl (by as_aux_lemma=>kernel_rfl) Tryz.func5 Zt
  (of_decide_eq_true (by kernel_rfl)) (by unfold Func.isWrapper;first|(rw[if_pos (by decide+kernel)];kernel_rfl)|(rw[if_neg (by decide+kernel)];exact⟨rfl,rfl⟩))
  (fun os started H enc _=>fnExactAnswerOk_lifted os started H enc)
#print axioms fnExactAnswerOk_holds
end Go.Proofs.YtohaalphocaebaaGreat
