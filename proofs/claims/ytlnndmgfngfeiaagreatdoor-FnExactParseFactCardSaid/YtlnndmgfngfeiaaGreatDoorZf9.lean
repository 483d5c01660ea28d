/- FnExactParseFact returns true for every input, and the input reads behind the call as it did before: the tied card. Condition: variables of the library hold what the program's own text lays in them (the card ties them to that text). -/
import Derived.Test.YtlnndmgfngfeiaaGreatDoorRows
import Derived.Test.YtlnndmgfngfeiaaGreatDoorTie
import Derived.Test.YtlnndmgfngfeiaaGreatDoorCards
import Derived.LaidMore
import Derived.SevenTiedAt
import Derived.MakeChecks
import Derived.Test.YtlnndmgfngfeiaaGreatDoorZf8
set_option linter.all false
set_option maxHeartbeats 4000000
set_option maxRecDepth 4000
open Go renaming TypeId->eU
open Go.ChangeSpec renaming witness_shaped->aau
open Go.MakeChecks renaming laidMetH_plain->aav
open Go.OpenClaim renaming holds_of_wide->aaw
open Go.Proofs.Tryz renaming f5->ic,prog->aS
open Go.Proofs.YtlnndmgfngfeiaaGreatDoor.Rows renaming fnExactParseFactSpec->nR
open List renaming all_eq_true->kj
open Option.some renaming inj->iN
open _root_ renaming if_neg->be
namespace Go.Proofs.YtlnndmgfngfeiaaGreatDoor
section
open Go Go.Pv Go.Lib Go.ChangeShapes Go.WideShapes Go.ChangeAt Go.RowKit
def laidL{H:Type}:List (String×DataW H):=[("math/bits.deBruijn32tab",Rows.laid_math_bits_deBruijn32tab),("math/bits.deBruijn64tab",Rows.laid_math_bits_deBruijn64tab),("internal/strconv.uint64pow10",Rows.laid_internal_strconv_uint64pow10),("strconv.ErrRange",Rows.laid_strconv_ErrRange),("strconv.ErrSyntax",Rows.laid_strconv_ErrSyntax)]
theorem gl_laid{W:World}(h:laidMetH aS laidL W):xG W:=by
 rw[aav _ _ _ (by rfl)]at h;have ak:=h.tail.tail;have aK:=ak.tail;have IJ:(aS.globals[1]?).map (·.type)=some 108:=by kernel_rfl
 have IL:(aS.globals[2]?).map (·.type)=some 108:=by kernel_rfl
 have j4:(aS.globals[0]?).map (·.type)=some 302:=by kernel_rfl
 refine QE (tabIs_of_head (rest:=_) (by kernel_rfl) j4 (n:=20) (e:=267) (by kernel_rfl) (by kernel_rfl) (by kernel_rfl) (by kernel_rfl) ak) (Km aK.tail (by kernel_rfl) IJ Tryz.underlying108) (Km aK (by kernel_rfl) IL Tryz.underlying108)
theorem door_met(os:Os)(args:Array Value):laidMetH aS laidL ((World.doorLaid aS 62 os).forCall (fun _ _=>0) ⟨#[],args,[]⟩).memory:=laidMetH_of_parts3 (fuel:=8) (laidMet_of_run' 8 (by kernel_rfl) (by kernel_rfl)) (by kernel_rfl) (by kernel_rfl)
set_option maxRecDepth 100000 in
theorem fnExactParseFact_lifted(os:Os)(started:os.Started)(H:Type)(enc:eU×Value->H):
  ReturnsInHanded {} Tryz.checked os 5 .any (fun w args=>(nR.pre enc aS ic [] false w args/\laidMetH aS laidL w)/\sizedMet enc aS ic (OpenSpec.ofChange nR) false w args) (nR.post enc aS ic false true false false):=by
 refine returnsInHanded_of_change_and (C:=Tryz.checked) (X:=fun w _=>laidMetH aS laidL w) (fun _ _ _ bq h=>h.of_heap bq) U5 started (by kernel_rfl) Tryz.func5
  (aau (enc:=enc) (C:=Tryz.checked) (os:=os) (X:=fun w _=>laidMetH aS laidL w) false (World.doorLaid aS 62 os) #[.string ⟨#[]⟩] 8 rfl (World.shaped_of_RefB (by kernel_rfl) (by kernel_rfl)) (by kernel_rfl) (by kernel_rfl) (by kernel_rfl) (door_met os _)) ?_
 intro W base args cn gs before Si I4 _ _ o8 _;have aP:=gl_laid o8;have kD:∀(j:Nat) t v,ic.params[j]? =some t->args[j]? =some v->Value.okWide aS W .any base t v:=Si;have I5:=I4;obtain⟨p,q,o6,QY,rfl,Yo,um⟩:=I4;have aT:DataW.TrodAll enc aS W 0 (fun _=>true) true ic.params.toList args.toList cn p:=o6;rw[Tryz.params5]at aT kD;obtain⟨v0,d0,rfl,rfl,bN⟩:=trodAll_one aT;obtain⟨rfl,rfl⟩:=trodVars_none QY;have et:=bN;obtain⟨nM,rfl⟩:=okWide_string Tryz.underlying9 (kD 0 9 v0 rfl rfl);obtain⟨n0,f0⟩:=bN;have bU:∀x∈p,x.block<W.heap.size:=fun x ad=>by simpa using I5.lt x (by simpa using ad)
 have Q5:Calls aS 5 #[.string nM] W fun e w'=>e= .returned (.bool true)/\Below W.heap.size W w':=by obtain⟨Bo,w0,sd⟩:=Vv f0;refine No (ν:=vo W) Tryz.func5 (enters_of Tryz.func5 (by kernel_rfl) rfl) (Oo aP) (VR Bo w0) (fun _ _ _ h=>h) (fun b o h=>Oq h) (fun _=>rfl) (fun _=>rfl) ?_;simp only[bP];exact⟨_,_,rfl,sd,rfl⟩
 refine Q5.mono fun e WK ⟨he,I9⟩=>?_;subst he;refine⟨_,rfl,_,_,_,[],p,[],I5,?_,?_,rfl,I9.frame _,fun h=>by cases h⟩
 ·exact trodAll_mk1 (shut_bool Tryz.underlying4 true)
 ·exact trodAll_mk1 (Below.trod U4 (by kernel_rfl) (of_decide_eq_true (by kernel_rfl)) et I9 fun x ad=>bU x (by simp[ad]))
theorem fnExactParseFact_row:Rows.FnExactParseFactSaid:=
 aaw 5 ic rfl rfl rfl rfl rfl rfl rfl ⟨rfl,rfl,rfl,rfl,rfl⟩ rfl rfl rfl rfl rfl (by as_aux_lemma=>kernel_rfl) Tryz.func5 N3
  (of_decide_eq_true (by kernel_rfl)) (by unfold Func.isWrapper;first|(rw[if_pos (by decide+kernel)];kernel_rfl)|(rw[be (by decide+kernel)];exact⟨rfl,rfl⟩))
  (fun os started H enc _=>fnExactParseFact_lifted os started H enc)
theorem fnExactParseFact_holds:Rows.FnExactParseFactCardSaid:=
 Claim7.holds_tied_plain_at .later [] [.data,.data,.data,.sentinel,.sentinel] true Rows.fnExactParseFactCard.stood.harness true
  fnExactParseFact_row (fun _ h=>by cases h) Nu (fun _ h=>by cases h) fnExactParseFact_row_tie rfl ⟨rfl,rfl⟩ Ns rfl
  (fun f fn aH vJ=>by
   obtain rfl:f=5:=iN (Np.symm.trans aH)|>.symm;obtain rfl:fn=ic:=(iN (Tryz.func5.symm.trans vJ)).symm;exact⟨Nr,fun j t au=>by
    rw[Tryz.params5]at au;have hm:t∈[9]:=by simpa using Array.mem_of_getElem? au
    exact(show aS.wantsStandIn t=false by simpa using kj.1 Nt t hm)⟩)
  Nq
#print axioms fnExactParseFact_holds
end
end Go.Proofs.YtlnndmgfngfeiaaGreatDoor
