/- FnExactLackSymbol returns true for every input, and the input reads behind the call as it did before. No conditions. -/
import Derived.Test.YtahlgcidhnjlbaaGreatRows
import Derived.Test.YtahlgcidhnjlbaaGreatF8
set_option linter.all false
set_option maxHeartbeats 4000000
set_option maxRecDepth 4000
open ByteArray renaming empty->adi
open Go renaming TypeId->gQ
open Go.ChangeSpec renaming witness6->ayj
open Go.OpenClaim renaming holds_of_wide->ayn
open Go.Proofs.Tryz renaming f12->lG,prog->au
open Go.Proofs.YtahlgcidhnjlbaaGreat.Rows renaming fnExactLackSymbolRow->kD,fnExactLackSymbolSpec->ue
namespace Go.Proofs.YtahlgcidhnjlbaaGreat
section
open Go Go.Pv Go.ChangeShapes Go.WideShapes Go.ChangeAt Go.RowKit
set_option maxRecDepth 100000 in
theorem fnExactLackSymbol_lifted(os:Os)(started:os.Started)(H:Type)(enc:gQ×Value->H):
  ReturnsInHanded {} Tryz.checked os 12 .any (ue.pre6 enc au lG kD.domain false) (ue.post enc au lG false true false false):=by
 refine returnsInHanded_of_change (C:=Tryz.checked) aqK started bi Tryz.func12
  (ayj (enc:=enc) (C:=Tryz.checked) false ⟨#[],#[.agg #[.int .i64 0,.slice none 0 0,.slice none 0 0,.slice none 0 0,.slice none 0 0],.agg #[.int .i64 0,.int .i64 0,.string adi,.slice none 0 0],.string adi],[]⟩ 8 bi bi bi bi) ?_
 intro W base args ej gs before alf D7 ava _;have nt:∀(j:Nat) t v,lG.params[j]? =some t->args[j]? =some v->Value.okWide au W .any base t v:=alf;have V9:=D7;obtain⟨p,q,s7,kS,rfl,ave,Er⟩:=D7;have bj:DataW.TrodAll enc au W 0 (fun _=>true) true lG.params.toList args.toList ej p:=s7;rw[Tryz.params12]at bj nt;obtain⟨v0,v1,v2,d0,d1,d2,tO,c2,dD,rfl,rfl,rfl,bA,J,U⟩:=trodAll_three bj;obtain⟨rfl,rfl⟩:=trodVars_none kS;have fF:=bA;obtain⟨yu,rfl,_⟩:=okWide_struct Tryz.underlying43 (nt 0 43 v0 rfl rfl);obtain⟨n0,f0⟩:=bA;have a8:=J;obtain⟨iZ,rfl,_⟩:=okWide_struct Tryz.underlying24 (nt 1 24 v1 rfl rfl);obtain⟨gr,f1⟩:=J;have bE:=U;obtain⟨jq,rfl⟩:=okWide_string Tryz.underlying9 (nt 2 9 v2 rfl rfl);obtain⟨fl,f2⟩:=U;have bP:∀x∈tO++c2++dD,x.block<W.heap.size:=fun x ad=>by simpa using V9.lt x (by simpa using ad)
 have ajX:Calls au 12 #[.agg yu,.agg iZ,.string jq] W fun e w'=>e= .returned (.bool true)/\Below W.heap.size W w':=by obtain⟨r0,w0,hH⟩:=aru f0;obtain⟨dL,fc,al⟩:=arM f1;obtain⟨eE,dM,aC⟩:=ary f2;refine aem (ν:=rb W) Tryz.func12 (enters_of Tryz.func12 bi rfl) (ar3 r0 w0 dL eE fc dM) (fun _ _ _ h=>h) (fun b o h=>afs h) (fun _=>rfl) (fun _=>rfl) ?_;simp only[c7];exact⟨_,_,rfl,hH,⟨_,_,rfl,al,⟨_,_,rfl,aC,rfl⟩⟩⟩
 refine ajX.mono fun e atK ⟨he,zd⟩=>?_;subst he;refine⟨_,rfl,_,_,_,[],tO++c2++dD,[],V9,?_,?_,rfl,zd.frame _,fun h=>by cases h⟩
 ·exact trodAll_mk1 (shut_bool Tryz.underlying4 true)
 ·rw[List.append_assoc];exact trodAll_mk3 (Below.trod P5 bi (of_decide_eq_true bi) fF zd fun x ad=>bP x (by simp[ad])) (Below.trod P5 bi (of_decide_eq_true bi) a8 zd fun x ad=>bP x (by simp[ad])) (Below.trod P5 bi (of_decide_eq_true bi) bE zd fun x ad=>bP x (by simp[ad]))
theorem fnExactLackSymbol_holds:Rows.FnExactLackSymbolSaid:=
 ayn 12 lG rfl rfl rfl rfl rfl rfl rfl ⟨rfl,rfl,rfl,rfl,rfl⟩ rfl rfl rfl rfl rfl (by as_aux_lemma=>kernel_rfl) Tryz.func12 ae3
  (of_decide_eq_true bi) (by unfold Func.isWrapper;first|(rw[if_pos (by decide+kernel)];kernel_rfl)|(rw[if_neg (by decide+kernel)];exact⟨rfl,rfl⟩))
  (fun os started H enc _=>fnExactLackSymbol_lifted os started H enc)
#print axioms fnExactLackSymbol_holds
end
end Go.Proofs.YtahlgcidhnjlbaaGreat
