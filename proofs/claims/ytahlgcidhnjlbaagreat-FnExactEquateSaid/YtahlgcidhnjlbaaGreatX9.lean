/- FnExactEquate returns true for every input, and the input reads behind the call as it did before. No conditions. -/
import Derived.Test.YtahlgcidhnjlbaaGreatRows
import Derived.Test.YtahlgcidhnjlbaaGreatX8
set_option linter.all false
set_option maxHeartbeats 4000000
set_option maxRecDepth 4000
open ByteArray renaming empty->ado
open Go renaming TypeId->gU
open Go.ChangeSpec renaming witness6->ayd
open Go.OpenClaim renaming holds_of_wide->ayh
open Go.Proofs.Tryz renaming f13->lF,prog->au
open Go.Proofs.YtahlgcidhnjlbaaGreat.Rows renaming fnExactEquateRow->kB,fnExactEquateSpec->ui
namespace Go.Proofs.YtahlgcidhnjlbaaGreat
section
open Go Go.Pv Go.ChangeShapes Go.WideShapes Go.ChangeAt Go.RowKit
set_option maxRecDepth 100000 in
theorem fnExactEquate_lifted(os:Os)(started:os.Started)(H:Type)(enc:gU×Value->H):
  ReturnsInHanded {} Tryz.checked os 13 .any (ui.pre6 enc au lF kB.domain false) (ui.post enc au lF false true false false):=by
 refine returnsInHanded_of_change (C:=Tryz.checked) aqG started bi Tryz.func13
  (ayd (enc:=enc) (C:=Tryz.checked) false ⟨#[],#[.agg #[.int .i64 0,.slice none 0 0,.slice none 0 0,.slice none 0 0,.slice none 0 0],.agg #[.int .i64 0,.int .i64 0,.string ado,.slice none 0 0],.agg #[.int .i64 0,.int .i64 0,.string ado,.slice none 0 0]],[]⟩ 8 bi bi bi bi) ?_
 intro W base args ej gs before ale D0 au4 _;have nv:∀(j:Nat) t v,lF.params[j]? =some t->args[j]? =some v->Value.okWide au W .any base t v:=ale;have Wd:=D0;obtain⟨p,q,tc,kR,rfl,au8,Ej⟩:=D0;have bk:DataW.TrodAll enc au W 0 (fun _=>true) true lF.params.toList args.toList ej p:=tc;rw[Tryz.params13]at bk nv;obtain⟨v0,v1,v2,d0,d1,d2,tT,c2,dD,rfl,rfl,rfl,bA,J,U⟩:=trodAll_three bk;obtain⟨rfl,rfl⟩:=trodVars_none kR;have fG:=bA;obtain⟨yz,rfl,_⟩:=okWide_struct Tryz.underlying43 (nv 0 43 v0 rfl rfl);obtain⟨n0,f0⟩:=bA;have a8:=J;obtain⟨iW,rfl,_⟩:=okWide_struct Tryz.underlying24 (nv 1 24 v1 rfl rfl);obtain⟨gq,f1⟩:=J;have bN:=U;obtain⟨jm,rfl,_⟩:=okWide_struct Tryz.underlying24 (nv 2 24 v2 rfl rfl);obtain⟨fk,f2⟩:=U;have bO:∀x∈tT++c2++dD,x.block<W.heap.size:=fun x ad=>by simpa using Wd.lt x (by simpa using ad)
 have ajW:Calls au 13 #[.agg yz,.agg iW,.agg jm] W fun e w'=>e= .returned (.bool true)/\Below W.heap.size W w':=by obtain⟨r0,w0,hC⟩:=aro f0;obtain⟨dL,fc,ao⟩:=acd f1;obtain⟨eE,dM,aC⟩:=acd f2;refine aes (ν:=sg W) Tryz.func13 (enters_of Tryz.func13 bi rfl) (arV r0 w0 dL eE fc dM) (fun _ _ _ h=>h) (fun b o h=>afu h) (fun _=>rfl) (fun _=>rfl) ?_;simp only[c7];exact⟨_,_,rfl,hC,⟨_,_,rfl,ao,⟨_,_,rfl,aC,rfl⟩⟩⟩
 refine ajW.mono fun e atD ⟨he,zi⟩=>?_;subst he;refine⟨_,rfl,_,_,_,[],tT++c2++dD,[],Wd,?_,?_,rfl,zi.frame _,fun h=>by cases h⟩
 ·exact trodAll_mk1 (shut_bool Tryz.underlying4 true)
 ·rw[List.append_assoc];exact trodAll_mk3 (Below.trod P3 bi (of_decide_eq_true bi) fG zi fun x ad=>bO x (by simp[ad])) (Below.trod P3 bi (of_decide_eq_true bi) a8 zi fun x ad=>bO x (by simp[ad])) (Below.trod P3 bi (of_decide_eq_true bi) bN zi fun x ad=>bO x (by simp[ad]))
theorem fnExactEquate_holds:Rows.FnExactEquateSaid:=
 ayh 13 lF rfl rfl rfl rfl rfl rfl rfl ⟨rfl,rfl,rfl,rfl,rfl⟩ rfl rfl rfl rfl rfl (by as_aux_lemma=>kernel_rfl) Tryz.func13 ae9
  (of_decide_eq_true bi) (by unfold Func.isWrapper;first|(rw[if_pos (by decide+kernel)];kernel_rfl)|(rw[if_neg (by decide+kernel)];exact⟨rfl,rfl⟩))
  (fun os started H enc _=>fnExactEquate_lifted os started H enc)
#print axioms fnExactEquate_holds
end
end Go.Proofs.YtahlgcidhnjlbaaGreat
