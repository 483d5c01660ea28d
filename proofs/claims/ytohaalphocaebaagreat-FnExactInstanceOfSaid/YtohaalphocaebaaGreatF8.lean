/- FnExactInstanceOf returns true for every input, and the input reads behind the call as it did before. No conditions. -/
import Derived.Test.YtohaalphocaebaaGreatRows
import Derived.Test.YtohaalphocaebaaGreatF7
set_option linter.all false
set_option maxHeartbeats 4000000
set_option maxRecDepth 4000
open Go renaming TypeId->fZ
open Go.ChangeSpec renaming witness6->avI
open Go.OpenClaim renaming holds_of_wide->avM
open Go.Proofs.Tryz renaming f7->kW,prog->ak
open Go.Proofs.YtohaalphocaebaaGreat.Rows renaming fnExactInstanceOfRow->j6,fnExactInstanceOfSpec->tb
namespace Go.Proofs.YtohaalphocaebaaGreat
section
open Go Go.Pv Go.ChangeShapes Go.WideShapes Go.ChangeAt Go.RowKit
set_option maxRecDepth 100000 in
theorem fnExactInstanceOf_lifted(os:Os)(started:os.Started)(H:Type)(enc:fZ×Value->H):
  ReturnsInHanded {} Tryz.checked os 7 .any (tb.pre6 enc ak kW j6.domain false) (tb.post enc ak kW false true false false):=by
 refine returnsInHanded_of_change (C:=Tryz.checked) aok started (by kernel_rfl) Tryz.func7
  (avI (enc:=enc) (C:=Tryz.checked) false ⟨#[],#[.agg #[.slice none 0 0,.int .i64 0,.slice none 0 0,.slice none 0 0,.slice none 0 0,.slice none 0 0],.slice none 0 0],[]⟩ 8 (by kernel_rfl) (by kernel_rfl) (by kernel_rfl) (by kernel_rfl)) ?_
 intro W base args eV gs before aiA tB asJ _;have mN:∀(j:Nat) t v,kW.params[j]? =some t->args[j]? =some v->Value.okWide ak W .any base t v:=aiA;have Ua:=tB;obtain⟨p,q,sb,kt,rfl,asN,o4⟩:=tB;have bk:DataW.TrodAll enc ak W 0 (fun _=>true) true kW.params.toList args.toList eV p:=sb;rw[Tryz.params7]at bk mN;obtain⟨v0,v1,d0,d1,HO,cV,rfl,rfl,rfl,bs,J⟩:=trodAll_two bk;obtain⟨rfl,rfl⟩:=trodVars_none kt;have fv:=bs;obtain⟨xH,rfl,_⟩:=okWide_struct Tryz.underlying51 (mN 0 51 v0 rfl rfl);obtain⟨n0,f0⟩:=bs;have aU:=J;obtain⟨bC,hX,bK,rfl⟩:=okWide_slice Tryz.underlying43 (mN 1 43 v1 rfl rfl);obtain⟨il,f1⟩:=J;have bD:∀x∈HO++cV,x.block<W.heap.size:=fun x af=>by simpa using Ua.lt x (by simpa using af)
 have ahk:Calls ak 7 #[.agg xH,.slice bC hX bK] W fun e w'=>e= .returned (.bool true)/\Below W.heap.size W w':=by obtain⟨r0,w0,fo⟩:=aa4 f0;obtain⟨dy,dU,al⟩:=apn f1;refine abD (ν:=q2 W) Tryz.func7 (enters_of Tryz.func7 (by kernel_rfl) rfl) (apI r0 w0 dy dU) (fun _ _ _ h=>h) (fun b o h=>acD h) (fun _=>rfl) (fun _=>rfl) ?_;simp only[cW];exact⟨_,_,rfl,fo,⟨_,_,rfl,al,rfl⟩⟩
 refine ahk.mono fun e PH ⟨he,AA⟩=>?_;subst he;refine⟨_,rfl,_,_,_,[],HO++cV,[],Ua,?_,?_,rfl,AA.frame _,fun h=>by cases h⟩
 ·exact trodAll_mk1 (shut_bool Tryz.underlying4 true)
 ·exact trodAll_mk2 (Below.trod YN (by kernel_rfl) (of_decide_eq_true (by kernel_rfl)) fv AA fun x af=>bD x (by simp[af])) (Below.trod YN (by kernel_rfl) (of_decide_eq_true (by kernel_rfl)) aU AA fun x af=>bD x (by simp[af]))
theorem fnExactInstanceOf_holds:Rows.FnExactInstanceOfSaid:=
 avM 7 kW rfl rfl rfl rfl rfl rfl rfl ⟨rfl,rfl,rfl,rfl,rfl⟩ rfl rfl rfl rfl rfl (by as_aux_lemma=>kernel_rfl) Tryz.func7 acn
  (of_decide_eq_true (by kernel_rfl)) (by unfold Func.isWrapper;first|(rw[if_pos (by decide+kernel)];kernel_rfl)|(rw[if_neg (by decide+kernel)];exact⟨rfl,rfl⟩))
  (fun os started H enc _=>fnExactInstanceOf_lifted os started H enc)
#print axioms fnExactInstanceOf_holds
end
end Go.Proofs.YtohaalphocaebaaGreat
