/- FnExactFormatCode returns true for every input, and the input reads behind the call as it did before: the tied card. Condition: variables of the library hold what the program's own text lays in them (the card ties them to that text). -/
import Derived.Test.YtlnndmgfngfeiaaGreatDoorRows
import Derived.Test.YtlnndmgfngfeiaaGreatDoorTie
import Derived.Test.YtlnndmgfngfeiaaGreatDoorCards
import Derived.LaidMore
import Derived.SevenTiedAt
import Derived.MakeChecks
import Derived.Test.YtlnndmgfngfeiaaGreatDoorF6
set_option linter.all false
set_option maxHeartbeats 4000000
set_option maxRecDepth 4000
open Go renaming TypeId->eZ
open Go.ChangeSpec renaming witness_shaped->YK
open Go.MakeChecks renaming laidMetH_plain->YM
open Go.OpenClaim renaming holds_of_wide->YN
open Go.Proofs.Tryz renaming f3->h9,prog->aF
open Go.Proofs.YtlnndmgfngfeiaaGreatDoor.Rows renaming fnExactFormatCodeSpec->mR
open List renaming all_eq_true->kZ
open Option.some renaming inj->fo
open _root_ renaming if_neg->bu
namespace Go.Proofs.YtlnndmgfngfeiaaGreatDoor
section
open Go Go.Pv Go.Lib Go.ChangeShapes Go.WideShapes Go.ChangeAt Go.RowKit
def laidL{H:Type}:List (String×DataW H):=[("math/bits.deBruijn32tab",Rows.laid_math_bits_deBruijn32tab),("math/bits.deBruijn64tab",Rows.laid_math_bits_deBruijn64tab),("internal/strconv.uint64pow10",Rows.laid_internal_strconv_uint64pow10)]
theorem gl_laid{W:World}(h:laidMetH aF laidL W):vr W:=by
 rw[YM _ _ _ (by rfl)]at h;have ak:=h.tail.tail;have g0:(aF.globals[0]?).map (·.type)=some 302:=by kernel_rfl
 refine NV (tabIs_of_head (rest:=_) (by kernel_rfl) g0 (n:=20) (e:=267) (by kernel_rfl) (by kernel_rfl) (by kernel_rfl) (by kernel_rfl) ak)
theorem door_met(os:Os)(args:Array Value):laidMetH aF laidL ((World.doorLaid aF 62 os).forCall (fun _ _=>0) ⟨#[],args,[]⟩).memory:=laidMetH_of_parts3 (fuel:=8) (laidMet_of_run' 8 (by kernel_rfl) (by kernel_rfl)) (by kernel_rfl) (by kernel_rfl)
set_option maxRecDepth 100000 in
theorem fnExactFormatCode_lifted(os:Os)(started:os.Started)(H:Type)(enc:eZ×Value->H):
  ReturnsInHanded {} Tryz.checked os 3 .any (fun w args=>(mR.pre enc aF h9 [] false w args/\laidMetH aF laidL w)/\sizedMet enc aF h9 (OpenSpec.ofChange mR) false w args) (mR.post enc aF h9 false true false false):=by
 refine returnsInHanded_of_change_and (C:=Tryz.checked) (X:=fun w _=>laidMetH aF laidL w) (fun _ _ _ ck h=>h.of_heap ck) Sw started (by kernel_rfl) Tryz.func3
  (YK (enc:=enc) (C:=Tryz.checked) (os:=os) (X:=fun w _=>laidMetH aF laidL w) false (World.doorLaid aF 62 os) #[.agg #[.slice none 0 0,.slice none 0 0]] 8 rfl (World.shaped_of_RefB (by kernel_rfl) (by kernel_rfl)) (by kernel_rfl) (by kernel_rfl) (by kernel_rfl) (door_met os _)) ?_
 intro W base args dA gs before PA F2 _ _ r8 _;have aT:=gl_laid r8;have kd:∀(j:Nat) t v,h9.params[j]? =some t->args[j]? =some v->Value.okWide aF W .any base t v:=PA;have F3:=F2;obtain⟨p,q,nS,Od,rfl,OM,Wj⟩:=F2;have aY:DataW.TrodAll enc aF W 0 (fun _=>true) true h9.params.toList args.toList dA p:=nS;rw[Tryz.params3]at aY kd;obtain⟨v0,d0,rfl,rfl,a1⟩:=trodAll_one aY;obtain⟨rfl,rfl⟩:=trodVars_none Od;have eW:=a1;obtain⟨mM,rfl,_⟩:=okWide_struct Tryz.underlying25 (kd 0 25 v0 rfl rfl);obtain⟨n0,f0⟩:=a1;have cM:∀x∈p,x.block<W.heap.size:=fun x ab=>by simpa using F3.lt x (by simpa using ab)
 have Oq:Calls aF 3 #[.agg mM] W fun e w'=>e= .returned (.bool true)/\Below W.heap.size W w':=by obtain⟨hQ,w0,eb⟩:=Le f0;refine Kp (ν:=ma W) Tryz.func3 (enters_of Tryz.func3 (by kernel_rfl) rfl) (Ls aT) (Tq hQ w0) (fun _ _ _ h=>h) (fun b o h=>Lt h) (fun _=>rfl) (fun _=>rfl) ?_;simp only[b4];exact⟨_,_,rfl,eb,rfl⟩
 refine Oq.mono fun e Ut ⟨he,F9⟩=>?_;subst he;refine⟨_,rfl,_,_,_,[],p,[],F3,?_,?_,rfl,F9.frame _,fun h=>by cases h⟩
 ·exact trodAll_mk1 (shut_bool Tryz.underlying4 true)
 ·exact trodAll_mk1 (Below.trod Sv (by kernel_rfl) (of_decide_eq_true (by kernel_rfl)) eW F9 fun x ab=>cM x (by simp[ab]))
theorem fnExactFormatCode_row:Rows.FnExactFormatCodeSaid:=
 YN 3 h9 rfl rfl rfl rfl rfl rfl rfl ⟨rfl,rfl,rfl,rfl,rfl⟩ rfl rfl rfl rfl rfl (by as_aux_lemma=>kernel_rfl) Tryz.func3 La
  (of_decide_eq_true (by kernel_rfl)) (by unfold Func.isWrapper;first|(rw[if_pos (by decide+kernel)];kernel_rfl)|(rw[bu (by decide+kernel)];exact⟨rfl,rfl⟩))
  (fun os started H enc _=>fnExactFormatCode_lifted os started H enc)
theorem fnExactFormatCode_holds:Rows.FnExactFormatCodeCardSaid:=
 Claim7.holds_tied_plain_at .later [] [.data,.data,.data] true Rows.fnExactFormatCodeCard.stood.harness true
  fnExactFormatCode_row (fun _ h=>by cases h) Kv (fun _ h=>by cases h) fnExactFormatCode_row_tie rfl ⟨rfl,rfl⟩ Kt rfl
  (fun f fn av hZ=>by
   obtain rfl:f=3:=fo (Kq.symm.trans av)|>.symm;obtain rfl:fn=h9:=(fo (Tryz.func3.symm.trans hZ)).symm;exact⟨Ks,fun j t aG=>by
    rw[Tryz.params3]at aG;have hm:t∈[25]:=by simpa using Array.mem_of_getElem? aG
    exact(show aF.wantsStandIn t=false by simpa using kZ.1 Ku t hm)⟩)
  Kr
#print axioms fnExactFormatCode_holds
end
end Go.Proofs.YtlnndmgfngfeiaaGreatDoor
