/- FnExactHaveKind returns true for every input, and the input reads behind the call as it did before. No conditions. -/
import Derived.Test.YtahlgcidhnjlbaaGreatRows
import Derived.Test.YtahlgcidhnjlbaaGreatE8
set_option linter.all false
set_option maxHeartbeats 4000000
set_option maxRecDepth 4000
open ByteArray renaming empty->atr
open Go renaming TypeId->gT
open Go.ChangeSpec renaming witness6->ayb
open Go.OpenClaim renaming holds_of_wide->ayf
open Go.Proofs.Tryz renaming f11->lF,prog->au
open Go.Proofs.YtahlgcidhnjlbaaGreat.Rows renaming fnExactHaveKindRow->kC,fnExactHaveKindSpec->uc
namespace Go.Proofs.YtahlgcidhnjlbaaGreat
section
open Go Go.Pv Go.ChangeShapes Go.WideShapes Go.ChangeAt Go.RowKit
set_option maxRecDepth 100000 in
theorem fnExactHaveKind_lifted(os:Os)(started:os.Started)(H:Type)(enc:gT×Value->H):
  ReturnsInHanded {} Tryz.checked os 11 .any (uc.pre6 enc au lF kC.domain false) (uc.post enc au lF false true false false):=by
 refine returnsInHanded_of_change (C:=Tryz.checked) aqz started bi Tryz.func11
  (ayb (enc:=enc) (C:=Tryz.checked) false ⟨#[],#[.agg #[.int .i64 0,.slice none 0 0,.slice none 0 0,.slice none 0 0,.slice none 0 0],.agg #[.int .i64 0,.int .i64 0,.string atr,.slice none 0 0],.int .i64 0],[]⟩ 8 bi bi bi bi) ?_
 intro W base args ej gs before ak9 DZ au2 _;have nu:∀(j:Nat) t v,lF.params[j]? =some t->args[j]? =some v->Value.okWide au W .any base t v:=ak9;have V6:=DZ;obtain⟨p,q,s8,kS,rfl,au6,Ei⟩:=DZ;have bj:DataW.TrodAll enc au W 0 (fun _=>true) true lF.params.toList args.toList ej p:=s8;rw[Tryz.params11]at bj nu;obtain⟨v0,v1,v2,d0,d1,d2,tO,c2,dD,rfl,rfl,rfl,bA,J,U⟩:=trodAll_three bj;obtain⟨rfl,rfl⟩:=trodVars_none kS;have fF:=bA;obtain⟨yt,rfl,_⟩:=okWide_struct Tryz.underlying43 (nu 0 43 v0 rfl rfl);obtain⟨n0,f0⟩:=bA;have a7:=J;obtain⟨iX,rfl,_⟩:=okWide_struct Tryz.underlying24 (nu 1 24 v1 rfl rfl);obtain⟨gq,f1⟩:=J;have bK:=U;obtain⟨iN,rfl⟩:=okWide_int Tryz.underlying3 (nu 2 3 v2 rfl rfl);obtain⟨fj,f2⟩:=U;have bO:∀x∈tO++c2++dD,x.block<W.heap.size:=fun x ad=>by simpa using V6.lt x (by simpa using ad)
 have ajR:Calls au 11 #[.agg yt,.agg iX,.int .i64 iN] W fun e w'=>e= .returned (.bool true)/\Below W.heap.size W w':=by
  obtain⟨r0,w0,hD⟩:=arf f0;obtain⟨dL,fc,ao⟩:=arz f1;have aC:aU W (q9 W) (.int .i64 iN) (.int .i64 iN):=by simp only[aU]
  refine aei (ν:=q9 W) Tryz.func11 (enters_of Tryz.func11 bi rfl) (arR r0 w0 dL iN fc) (fun _ _ _ h=>h) (fun b o h=>afn h) (fun _=>rfl) (fun _=>rfl) ?_;simp only[c7];exact⟨_,_,rfl,hD,⟨_,_,rfl,ao,⟨_,_,rfl,aC,rfl⟩⟩⟩
 refine ajR.mono fun e atB ⟨he,zc⟩=>?_;subst he;refine⟨_,rfl,_,_,_,[],tO++c2++dD,[],V6,?_,?_,rfl,zc.frame _,fun h=>by cases h⟩
 ·exact trodAll_mk1 (shut_bool Tryz.underlying4 true)
 ·rw[List.append_assoc];exact trodAll_mk3 (Below.trod P3 bi (of_decide_eq_true bi) fF zc fun x ad=>bO x (by simp[ad])) (Below.trod P3 bi (of_decide_eq_true bi) a7 zc fun x ad=>bO x (by simp[ad])) (Below.trod P3 bi (of_decide_eq_true bi) bK zc fun x ad=>bO x (by simp[ad]))
theorem fnExactHaveKind_holds:Rows.FnExactHaveKindSaid:=
 ayf 11 lF rfl rfl rfl rfl rfl rfl rfl ⟨rfl,rfl,rfl,rfl,rfl⟩ rfl rfl rfl rfl rfl (by as_aux_lemma=>kernel_rfl) Tryz.func11 aeZ
  (of_decide_eq_true bi) (by unfold Func.isWrapper;first|(rw[if_pos (by decide+kernel)];kernel_rfl)|(rw[if_neg (by decide+kernel)];exact⟨rfl,rfl⟩))
  (fun os started H enc _=>fnExactHaveKind_lifted os started H enc)
#print axioms fnExactHaveKind_holds
end
end Go.Proofs.YtahlgcidhnjlbaaGreat
