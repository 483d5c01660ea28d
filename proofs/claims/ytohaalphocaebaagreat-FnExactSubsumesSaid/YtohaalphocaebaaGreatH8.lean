/- FnExactSubsumes returns true for every input, and the input reads behind the call as it did before. No conditions. -/
import Derived.Test.YtohaalphocaebaaGreatRows
import Derived.Test.YtohaalphocaebaaGreatH7
set_option linter.all false
set_option maxHeartbeats 4000000
set_option maxRecDepth 4000
open Go renaming TypeId->gu
open Go.ChangeSpec renaming witness6->awb
open Go.OpenClaim renaming holds_of_wide->awf
open Go.Proofs.Tryz renaming f8->k2,prog->al
open Go.Proofs.YtohaalphocaebaaGreat.Rows renaming fnExactSubsumesRow->kh,fnExactSubsumesSpec->tj
namespace Go.Proofs.YtohaalphocaebaaGreat
section
open Go Go.Pv Go.ChangeShapes Go.WideShapes Go.ChangeAt Go.RowKit
set_option maxRecDepth 100000 in
theorem fnExactSubsumes_lifted(os:Os)(started:os.Started)(H:Type)(enc:gu×Value->H):
  ReturnsInHanded {} Tryz.checked os 8 .any (tj.pre6 enc al k2 kh.domain false) (tj.post enc al k2 false true false false):=by
 refine returnsInHanded_of_change (C:=Tryz.checked) aoU started co Tryz.func8
  (awb (enc:=enc) (C:=Tryz.checked) false ⟨#[],#[.agg #[.slice none 0 0,.int .i64 0,.slice none 0 0,.slice none 0 0,.slice none 0 0,.slice none 0 0],.agg #[.slice none 0 0,.int .i64 0,.slice none 0 0,.slice none 0 0,.slice none 0 0,.slice none 0 0]],[]⟩ 8 co co co co) ?_
 intro W base args e1 gs before ai5 jR ata _;have na:∀(j:Nat) t v,k2.params[j]? =some t->args[j]? =some v->Value.okWide al W .any base t v:=ai5;have UP:=jR;obtain⟨p,q,sk,kC,rfl,ate,oE⟩:=jR;have bm:DataW.TrodAll enc al W 0 (fun _=>true) true k2.params.toList args.toList e1 p:=sk;rw[Tryz.params8]at bm na;obtain⟨v0,v1,d0,d1,H9,cX,rfl,rfl,rfl,br,J⟩:=trodAll_two bm;obtain⟨rfl,rfl⟩:=trodVars_none kC;have dU:=br;obtain⟨xT,rfl,_⟩:=okWide_struct Tryz.underlying51 (na 0 51 v0 rfl rfl);obtain⟨n0,f0⟩:=br;have aS:=J;obtain⟨iO,rfl,_⟩:=okWide_struct Tryz.underlying51 (na 1 51 v1 rfl rfl);obtain⟨iA,f1⟩:=J;have bE:∀x∈H9++cX,x.block<W.heap.size:=fun x ab=>by simpa using UP.lt x (by simpa using ab)
 have ahO:Calls al 8 #[.agg xT,.agg iO] W fun e w'=>e= .returned (.bool true)/\Below W.heap.size W w':=by obtain⟨r0,w0,fp⟩:=Qz f0;obtain⟨dC,ej,ak⟩:=Qz f1;refine ace (Z:=r6 W) Tryz.func8 (enters_of Tryz.func8 co rfl) (aqj r0 w0 dC ej) (fun _ _ _ h=>h) (fun b o h=>adh h) (fun _=>rfl) (fun _=>rfl) ?_;simp only[cY];exact⟨_,_,rfl,fp,⟨_,_,rfl,ak,rfl⟩⟩
 refine ahO.mono fun e Qp ⟨he,AP⟩=>?_;subst he;refine⟨_,rfl,_,_,_,[],H9++cX,[],UP,?_,?_,rfl,AP.frame _,fun h=>by cases h⟩
 ·exact trodAll_mk1 (shut_bool Tryz.underlying4 true)
 ·exact trodAll_mk2 (Below.trod Zm co (of_decide_eq_true co) dU AP fun x ab=>bE x (by simp[ab])) (Below.trod Zm co (of_decide_eq_true co) aS AP fun x ab=>bE x (by simp[ab]))
theorem fnExactSubsumes_holds:Rows.FnExactSubsumesSaid:=
 awf 8 k2 rfl rfl rfl rfl rfl rfl rfl ⟨rfl,rfl,rfl,rfl,rfl⟩ rfl rfl rfl rfl rfl (by as_aux_lemma=>kernel_rfl) Tryz.func8 acZ
  (of_decide_eq_true co) (by unfold Func.isWrapper;first|(rw[if_pos (by decide+kernel)];kernel_rfl)|(rw[if_neg (by decide+kernel)];exact⟨rfl,rfl⟩))
  (fun os started H enc _=>fnExactSubsumes_lifted os started H enc)
#print axioms fnExactSubsumes_holds
end
end Go.Proofs.YtohaalphocaebaaGreat
