/- FnExactFreshVars returns true for every input, and the input reads behind the call as it did before. No conditions. -/
import Derived.Test.YtahlgcidhnjlbaaGreatRows
import Derived.Test.YtahlgcidhnjlbaaGreatH8
set_option linter.all false
set_option maxHeartbeats 4000000
set_option maxRecDepth 4000
open Go renaming TypeId->gT
open Go.ChangeSpec renaming witness6->aw6
open Go.OpenClaim renaming holds_of_wide->axa
open Go.Proofs.Tryz renaming f9->lz,prog->au
open Go.Proofs.YtahlgcidhnjlbaaGreat.Rows renaming fnExactFreshVarsRow->kv,fnExactFreshVarsSpec->tR
namespace Go.Proofs.YtahlgcidhnjlbaaGreat
section
open Go Go.Pv Go.ChangeShapes Go.WideShapes Go.ChangeAt Go.RowKit
set_option maxRecDepth 100000 in
theorem fnExactFreshVars_lifted(os:Os)(started:os.Started)(H:Type)(enc:gT×Value->H):
  ReturnsInHanded {} Tryz.checked os 9 .any (tR.pre6 enc au lz kv.domain false) (tR.post enc au lz false true false false):=by
 refine returnsInHanded_of_change (C:=Tryz.checked) apG started bi Tryz.func9
  (aw6 (enc:=enc) (C:=Tryz.checked) false ⟨#[],#[.agg #[.int .i64 0,.slice none 0 0,.slice none 0 0,.slice none 0 0,.slice none 0 0],.int .i64 0],[]⟩ 8 bi bi bi bi) ?_
 intro W base args eh gs before ake DD atY _;have nL:∀(j:Nat) t v,lz.params[j]? =some t->args[j]? =some v->Value.okWide au W .any base t v:=ake;have Vk:=DD;obtain⟨p,q,sL,kL,rfl,at2,DW⟩:=DD;have bg:DataW.TrodAll enc au W 0 (fun _=>true) true lz.params.toList args.toList eh p:=sL;rw[Tryz.params9]at bg nL;obtain⟨v0,v1,d0,d1,tz,cY,rfl,rfl,rfl,bz,J⟩:=trodAll_two bg;obtain⟨rfl,rfl⟩:=trodVars_none kL;have fF:=bz;obtain⟨yh,rfl,_⟩:=okWide_struct Tryz.underlying43 (nL 0 43 v0 rfl rfl);obtain⟨n0,f0⟩:=bz;have bj:=J;obtain⟨il,rfl⟩:=okWide_int Tryz.underlying3 (nL 1 3 v1 rfl rfl);obtain⟨fj,f1⟩:=J;have bN:∀x∈tz++cY,x.block<W.heap.size:=fun x ae=>by simpa using Vk.lt x (by simpa using ae)
 have aiX:Calls au 9 #[.agg yh,.int .i64 il] W fun e w'=>e= .returned (.bool true)/\Below W.heap.size W w':=by
  obtain⟨r0,w0,hB⟩:=aqm f0;have al:aU W (rV W) (.int .i64 il) (.int .i64 il):=by simp only[aU]
  refine ads (ν:=rV W) Tryz.func9 (enters_of Tryz.func9 bi rfl) (aqT r0 w0 il) (fun _ _ _ h=>h) (fun b o h=>aeu h) (fun _=>rfl) (fun _=>rfl) ?_;simp only[c1];exact⟨_,_,rfl,hB,⟨_,_,rfl,al,rfl⟩⟩
 refine aiX.mono fun e asz ⟨he,A4⟩=>?_;subst he;refine⟨_,rfl,_,_,_,[],tz++cY,[],Vk,?_,?_,rfl,A4.frame _,fun h=>by cases h⟩
 ·exact trodAll_mk1 (shut_bool Tryz.underlying4 true)
 ·exact trodAll_mk2 (Below.trod aav bi (of_decide_eq_true bi) fF A4 fun x ae=>bN x (by simp[ae])) (Below.trod aav bi (of_decide_eq_true bi) bj A4 fun x ae=>bN x (by simp[ae]))
theorem fnExactFreshVars_holds:Rows.FnExactFreshVarsSaid:=
 axa 9 lz rfl rfl rfl rfl rfl rfl rfl ⟨rfl,rfl,rfl,rfl,rfl⟩ rfl rfl rfl rfl rfl (by as_aux_lemma=>kernel_rfl) Tryz.func9 ad9
  (of_decide_eq_true bi) (by unfold Func.isWrapper;first|(rw[if_pos (by decide+kernel)];kernel_rfl)|(rw[if_neg (by decide+kernel)];exact⟨rfl,rfl⟩))
  (fun os started H enc _=>fnExactFreshVars_lifted os started H enc)
#print axioms fnExactFreshVars_holds
end
end Go.Proofs.YtahlgcidhnjlbaaGreat
