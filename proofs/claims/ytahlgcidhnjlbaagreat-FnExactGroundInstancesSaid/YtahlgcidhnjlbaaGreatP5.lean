/- FnExactGroundInstances returns true for every input, and the input reads behind the call as it did before. No conditions. -/
import Derived.Test.YtahlgcidhnjlbaaGreatRows
import Derived.Test.YtahlgcidhnjlbaaGreatP4
set_option linter.all false
set_option maxHeartbeats 4000000
set_option maxRecDepth 4000
open ByteArray renaming empty->TO
open Go renaming TypeId->ey
open Go.ChangeSpec renaming witness6->XV
open Go.OpenClaim renaming holds_of_wide->XZ
open Go.Proofs.Tryz renaming f3->hn,prog->aG
open Go.Proofs.YtahlgcidhnjlbaaGreat.Rows renaming fnExactGroundInstancesRow->gF,fnExactGroundInstancesSpec->mX
open _root_ renaming if_neg->bH
namespace Go.Proofs.YtahlgcidhnjlbaaGreat
section
open Go Go.Pv Go.ChangeShapes Go.WideShapes Go.ChangeAt Go.RowKit
set_option maxRecDepth 100000 in
theorem fnExactGroundInstances_lifted(os:Os)(started:os.Started)(H:Type)(enc:ey×Value->H):
  ReturnsInHanded {} Tryz.checked os 3 .any (mX.pre6 enc aG hn gF.domain false) (mX.post enc aG hn false true false false):=by
 refine returnsInHanded_of_change (C:=Tryz.checked) Sp started ac Tryz.func3
  (XV (enc:=enc) (C:=Tryz.checked) false ⟨#[],#[.agg #[.int .i64 0,.int .i64 0,.string TO,.slice none 0 0],.slice none 0 0],[]⟩ 8 ac ac ac ac) ?_
 intro W base args cI gs before PB Fj Vj _;have kR:∀(j:Nat) t v,hn.params[j]? =some t->args[j]? =some v->Value.okWide aG W .any base t v:=PB;have Fk:=Fj;obtain⟨p,q,mq,N4,rfl,Vm,Vr⟩:=Fj;have aK:DataW.TrodAll enc aG W 0 (fun _=>true) true hn.params.toList args.toList cI p:=mq;rw[Tryz.params3]at aK kR;obtain⟨v0,v1,d0,d1,mM,dv,rfl,rfl,rfl,bg,I⟩:=trodAll_two aK;obtain⟨rfl,rfl⟩:=trodVars_none N4;have e5:=bg;obtain⟨p8,rfl,_⟩:=okWide_struct Tryz.underlying24 (kR 0 24 v0 rfl rfl);obtain⟨n0,f0⟩:=bg;have bo:=I;obtain⟨bd,eG,cm,rfl⟩:=okWide_slice Tryz.underlying22 (kR 1 22 v1 rfl rfl);obtain⟨fh,f1⟩:=I;have bA:∀x∈mM++dv,x.block<W.heap.size:=fun x ad=>by simpa using Fk.lt x (by simpa using ad)
 have Og:Calls aG 3 #[.agg p8,.slice bd eG cm] W fun e w'=>e= .returned (.bool true)/\Below W.heap.size W w':=by obtain⟨r0,w0,kF⟩:=SZ f0;obtain⟨dB,kq,ai⟩:=S0 f1;refine KA (ν:=lN W) Tryz.func3 (enters_of Tryz.func3 ac rfl) (Td r0 dB w0 kq) (fun _ _ _ h=>h) (fun b o h=>Lu h) (fun _=>rfl) (fun _=>rfl) ?_;simp only[bT];exact⟨_,_,rfl,kF,⟨_,_,rfl,ai,rfl⟩⟩
 refine Og.mono fun e TY ⟨he,zH⟩=>?_;subst he;refine⟨_,rfl,_,_,_,[],mM++dv,[],Fk,?_,?_,rfl,zH.frame _,fun h=>by cases h⟩
 ·exact trodAll_mk1 (shut_bool Tryz.underlying4 true)
 ·exact trodAll_mk2 (Below.trod IE ac (of_decide_eq_true ac) e5 zH fun x ad=>bA x (by simp[ad])) (Below.trod IE ac (of_decide_eq_true ac) bo zH fun x ad=>bA x (by simp[ad]))
theorem fnExactGroundInstances_holds:Rows.FnExactGroundInstancesSaid:=
 XZ 3 hn rfl rfl rfl rfl rfl rfl rfl ⟨rfl,rfl,rfl,rfl,rfl⟩ rfl rfl rfl rfl rfl (by as_aux_lemma=>kernel_rfl) Tryz.func3 Le
  (of_decide_eq_true ac) (by unfold Func.isWrapper;first|(rw[if_pos (by decide+kernel)];kernel_rfl)|(rw[bH (by decide+kernel)];exact⟨rfl,rfl⟩))
  (fun os started H enc _=>fnExactGroundInstances_lifted os started H enc)
#print axioms fnExactGroundInstances_holds
end
end Go.Proofs.YtahlgcidhnjlbaaGreat
