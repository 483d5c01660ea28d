/- FnExactParseGoal returns true for every input, and the input reads behind the call as it did before: the tied card. Condition: variables of the library hold what the program's own text lays in them (the card ties them to that text). -/
import Derived.Test.YtlnndmgfngfeiaaDoorRows
import Derived.Test.YtlnndmgfngfeiaaDoorTie
import Derived.Test.YtlnndmgfngfeiaaDoorCards
import Derived.LaidMore
import Derived.SevenTiedAt
import Derived.MakeChecks
import Derived.Test.YtlnndmgfngfeiaaDoorZg11
set_option linter.all false
set_option maxHeartbeats 4000000
set_option maxRecDepth 4000
open Go renaming TypeId->eO
open Go.ChangeSpec renaming witness_shaped->YP
open Go.MakeChecks renaming laidMetH_plain->YQ
open Go.OpenClaim renaming holds_of_wide->YR
open Go.Proofs.Tryd renaming f3->ie,prog->aP
open Go.Proofs.YtlnndmgfngfeiaaDoor.Rows renaming fnExactParseGoalSpec->nH
open List renaming all_eq_true->kd
open Option.some renaming inj->iL
open _root_ renaming if_neg->bh
namespace Go.Proofs.YtlnndmgfngfeiaaDoor
section
open Go Go.Pv Go.Lib Go.ChangeShapes Go.WideShapes Go.ChangeAt Go.RowKit
def laidL{H:Type}:List (String×DataW H):=[("math/bits.deBruijn32tab",Rows.laid_math_bits_deBruijn32tab),("math/bits.deBruijn64tab",Rows.laid_math_bits_deBruijn64tab),("internal/strconv.uint64pow10",Rows.laid_internal_strconv_uint64pow10),("strconv.ErrRange",Rows.laid_strconv_ErrRange),("strconv.ErrSyntax",Rows.laid_strconv_ErrSyntax)]
theorem gl_laid{W:World}(h:laidMetH aP laidL W):w8 W:=by
 rw[YQ _ _ _ (by rfl)]at h;have ak:=h.tail.tail;have aJ:=ak.tail;have HU:(aP.globals[0]?).map (·.type)=some 74:=by kernel_rfl
 have HW:(aP.globals[1]?).map (·.type)=some 74:=by kernel_rfl
 have kN:(aP.globals[2]?).map (·.type)=some 105:=by kernel_rfl
 refine PA (tabIs_of_head (rest:=_) (by kernel_rfl) kN (n:=20) (e:=85) (by kernel_rfl) (by kernel_rfl) (by kernel_rfl) (by kernel_rfl) ak) (Jy aJ.tail (by kernel_rfl) HU Tryd.underlying74) (Jy aJ (by kernel_rfl) HW Tryd.underlying74)
theorem door_met(os:Os)(args:Array Value):laidMetH aP laidL ((World.doorLaid aP 62 os).forCall (fun _ _=>0) ⟨#[],args,[]⟩).memory:=laidMetH_of_parts3 (fuel:=8) (laidMet_of_run' 8 (by kernel_rfl) (by kernel_rfl)) (by kernel_rfl) (by kernel_rfl)
set_option maxRecDepth 100000 in
theorem fnExactParseGoal_lifted(os:Os)(started:os.Started)(H:Type)(enc:eO×Value->H):
  ReturnsInHanded {} Tryd.checked os 3 .any (fun w args=>(nH.pre enc aP ie [] false w args/\laidMetH aP laidL w)/\sizedMet enc aP ie (OpenSpec.ofChange nH) false w args) (nH.post enc aP ie false true false false):=by
 refine returnsInHanded_of_change_and (C:=Tryd.checked) (X:=fun w _=>laidMetH aP laidL w) (fun _ _ _ bn h=>h.of_heap bn) TC started (by kernel_rfl) Tryd.func3
  (YP (enc:=enc) (C:=Tryd.checked) (os:=os) (X:=fun w _=>laidMetH aP laidL w) false (World.doorLaid aP 62 os) #[.string ⟨#[]⟩] 8 rfl (World.shaped_of_RefB (by kernel_rfl) (by kernel_rfl)) (by kernel_rfl) (by kernel_rfl) (by kernel_rfl) (door_met os _)) ?_
 intro W base args cn gs before Re Ie _ _ lQ _;have aL:=gl_laid lQ;have kv:∀(j:Nat) t v,ie.params[j]? =some t->args[j]? =some v->Value.okWide aP W .any base t v:=Re;have If:=Ie;obtain⟨p,q,oY,PS,rfl,WR,tN⟩:=Ie;have aN:DataW.TrodAll enc aP W 0 (fun _=>true) true ie.params.toList args.toList cn p:=oY;rw[Tryd.params3]at aN kv;obtain⟨v0,d0,rfl,rfl,bR⟩:=trodAll_one aN;obtain⟨rfl,rfl⟩:=trodVars_none PS;have er:=bR;obtain⟨nD,rfl⟩:=okWide_string Tryd.underlying9 (kv 0 9 v0 rfl rfl);obtain⟨n0,f0⟩:=bR;have b4:∀x∈p,x.block<W.heap.size:=fun x ad=>by simpa using If.lt x (by simpa using ad)
 have P0:Calls aP 3 #[.string nD] W fun e w'=>e= .returned (.bool true)/\Below W.heap.size W w':=by obtain⟨AL,w0,rT⟩:=T0 f0;refine Mx (ν:=uR W) Tryd.func3 (enters_of Tryd.func3 (by kernel_rfl) rfl) (Nw aL) (Ul AL w0) (fun _ _ _ h=>h) (fun b o h=>Nx h) (fun _=>rfl) (fun _=>rfl) ?_;simp only[bT];exact⟨_,_,rfl,rT,rfl⟩
 refine P0.mono fun e U8 ⟨he,Ij⟩=>?_;subst he;refine⟨_,rfl,_,_,_,[],p,[],If,?_,?_,rfl,Ij.frame _,fun h=>by cases h⟩
 ·exact trodAll_mk1 (shut_bool Tryd.underlying4 true)
 ·exact trodAll_mk1 (Below.trod TB (by kernel_rfl) (of_decide_eq_true (by kernel_rfl)) er Ij fun x ad=>b4 x (by simp[ad]))
theorem fnExactParseGoal_row:Rows.FnExactParseGoalSaid:=
 YR 3 ie rfl rfl rfl rfl rfl rfl rfl ⟨rfl,rfl,rfl,rfl,rfl⟩ rfl rfl rfl rfl rfl (by as_aux_lemma=>kernel_rfl) Tryd.func3 Nc
  (of_decide_eq_true (by kernel_rfl)) (by unfold Func.isWrapper;first|(rw[if_pos (by decide+kernel)];kernel_rfl)|(rw[bh (by decide+kernel)];exact⟨rfl,rfl⟩))
  (fun os started H enc _=>fnExactParseGoal_lifted os started H enc)
theorem fnExactParseGoal_holds:Rows.FnExactParseGoalCardSaid:=
 Claim7.holds_tied_plain_at .later [] [.data,.data,.data,.sentinel,.sentinel] true Rows.fnExactParseGoalCard.stood.harness true
  fnExactParseGoal_row (fun _ h=>by cases h) ME (fun _ h=>by cases h) fnExactParseGoal_row_tie rfl ⟨rfl,rfl⟩ MC rfl
  (fun f fn aH vd=>by
   obtain rfl:f=3:=iL (Mz.symm.trans aH)|>.symm;obtain rfl:fn=ie:=(iL (Tryd.func3.symm.trans vd)).symm;exact⟨MB,fun j t au=>by
    rw[Tryd.params3]at au;have hm:t∈[9]:=by simpa using Array.mem_of_getElem? au
    exact(show aP.wantsStandIn t=false by simpa using kd.1 MD t hm)⟩)
  MA
#print axioms fnExactParseGoal_holds
end
end Go.Proofs.YtlnndmgfngfeiaaDoor
