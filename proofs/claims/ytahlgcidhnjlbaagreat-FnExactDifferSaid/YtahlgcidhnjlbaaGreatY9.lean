/- FnExactDiffer returns true for every input, and the input reads behind the call as it did before. No conditions. -/
import Derived.Test.YtahlgcidhnjlbaaGreatRows
import Derived.Test.YtahlgcidhnjlbaaGreatY8
set_option linter.all false
set_option maxHeartbeats 4000000
set_option maxRecDepth 4000
open ByteArray renaming empty->adP
open Go renaming TypeId->gW
open Go.ChangeSpec renaming witness6->ayG
open Go.OpenClaim renaming holds_of_wide->ayK
open Go.Proofs.Tryz renaming f14->lI,prog->au
open Go.Proofs.YtahlgcidhnjlbaaGreat.Rows renaming fnExactDifferRow->kE,fnExactDifferSpec->uq
namespace Go.Proofs.YtahlgcidhnjlbaaGreat
section
open Go Go.Pv Go.ChangeShapes Go.WideShapes Go.ChangeAt Go.RowKit
set_option maxRecDepth 100000 in
theorem fnExactDiffer_lifted(os:Os)(started:os.Started)(H:Type)(enc:gW×Value->H):
  ReturnsInHanded {} Tryz.checked os 14 .any (uq.pre6 enc au lI kE.domain false) (uq.post enc au lI false true false false):=by
 refine returnsInHanded_of_change (C:=Tryz.checked) ara started bi Tryz.func14
  (ayG (enc:=enc) (C:=Tryz.checked) false ⟨#[],#[.agg #[.int .i64 0,.slice none 0 0,.slice none 0 0,.slice none 0 0,.slice none 0 0],.agg #[.int .i64 0,.int .i64 0,.string adP,.slice none 0 0],.agg #[.int .i64 0,.int .i64 0,.string adP,.slice none 0 0]],[]⟩ 8 bi bi bi bi) ?_
 intro W base args ek gs before alJ Ed avy _;have nA:∀(j:Nat) t v,lI.params[j]? =some t->args[j]? =some v->Value.okWide au W .any base t v:=alJ;have WC:=Ed;obtain⟨p,q,ti,kS,rfl,avC,Ex⟩:=Ed;have bj:DataW.TrodAll enc au W 0 (fun _=>true) true lI.params.toList args.toList ek p:=ti;rw[Tryz.params14]at bj nA;obtain⟨v0,v1,v2,d0,d1,d2,tY,c4,dB,rfl,rfl,rfl,bA,J,U⟩:=trodAll_three bj;obtain⟨rfl,rfl⟩:=trodVars_none kS;have fG:=bA;obtain⟨yI,rfl,_⟩:=okWide_struct Tryz.underlying43 (nA 0 43 v0 rfl rfl);obtain⟨n0,f0⟩:=bA;have a7:=J;obtain⟨iW,rfl,_⟩:=okWide_struct Tryz.underlying24 (nA 1 24 v1 rfl rfl);obtain⟨gu,f1⟩:=J;have bD:=U;obtain⟨jn,rfl,_⟩:=okWide_struct Tryz.underlying24 (nA 2 24 v2 rfl rfl);obtain⟨fo,f2⟩:=U;have bO:∀x∈tY++c4++dB,x.block<W.heap.size:=fun x ab=>by simpa using WC.lt x (by simpa using ab)
 have akn:Calls au 14 #[.agg yI,.agg iW,.agg jn] W fun e w'=>e= .returned (.bool true)/\Below W.heap.size W w':=by obtain⟨r0,w0,hD⟩:=arS f0;obtain⟨dK,ff,ao⟩:=acI f1;obtain⟨eE,dM,aC⟩:=acI f2;refine aeT (ν:=sr W) Tryz.func14 (enters_of Tryz.func14 bi rfl) (asr r0 w0 dK eE ff dM) (fun _ _ _ h=>h) (fun b o h=>afU h) (fun _=>rfl) (fun _=>rfl) ?_;simp only[cZ];exact⟨_,_,rfl,hD,⟨_,_,rfl,ao,⟨_,_,rfl,aC,rfl⟩⟩⟩
 refine akn.mono fun e at8 ⟨he,zr⟩=>?_;subst he;refine⟨_,rfl,_,_,_,[],tY++c4++dB,[],WC,?_,?_,rfl,zr.frame _,fun h=>by cases h⟩
 ·exact trodAll_mk1 (shut_bool Tryz.underlying4 true)
 ·rw[List.append_assoc];exact trodAll_mk3 (Below.trod Qn bi (of_decide_eq_true bi) fG zr fun x ab=>bO x (by simp[ab])) (Below.trod Qn bi (of_decide_eq_true bi) a7 zr fun x ab=>bO x (by simp[ab])) (Below.trod Qn bi (of_decide_eq_true bi) bD zr fun x ab=>bO x (by simp[ab]))
theorem fnExactDiffer_holds:Rows.FnExactDifferSaid:=
 ayK 14 lI rfl rfl rfl rfl rfl rfl rfl ⟨rfl,rfl,rfl,rfl,rfl⟩ rfl rfl rfl rfl rfl (by as_aux_lemma=>kernel_rfl) Tryz.func14 afA
  (of_decide_eq_true bi) (by unfold Func.isWrapper;first|(rw[if_pos (by decide+kernel)];kernel_rfl)|(rw[if_neg (by decide+kernel)];exact⟨rfl,rfl⟩))
  (fun os started H enc _=>fnExactDiffer_lifted os started H enc)
#print axioms fnExactDiffer_holds
end
end Go.Proofs.YtahlgcidhnjlbaaGreat
