/- FnExactNumberProgram returns true for every input, and the input reads behind the call as it did before: the tied card. Condition: variables of the library hold what the program's own text lays in them (the card ties them to that text). -/
import Derived.Test.YtlnndmgfngfeiaaGreatDoorRows
import Derived.Test.YtlnndmgfngfeiaaGreatDoorTie
import Derived.Test.YtlnndmgfngfeiaaGreatDoorCards
import Derived.LaidMore
import Derived.SevenTiedAt
import Derived.MakeChecks
import Derived.Test.YtlnndmgfngfeiaaGreatDoorZn14
set_option linter.all false
set_option maxHeartbeats 4000000
set_option maxRecDepth 4000
open Go renaming TypeId->fX
open Go.ChangeSpec renaming witness_shaped->aqf
open Go.MakeChecks renaming laidMetH_plain->aqh
open Go.OpenClaim renaming holds_of_wide->aqi
open Go.Proofs.Tryz renaming f9->kH,prog->aF
open Go.Proofs.YtlnndmgfngfeiaaGreatDoor.Rows renaming fnExactNumberProgramSpec->rv
open List renaming all_eq_true->ji
open Option.some renaming inj->gB
open _root_ renaming if_neg->br
namespace Go.Proofs.YtlnndmgfngfeiaaGreatDoor
section
open Go Go.Pv Go.Lib Go.ChangeShapes Go.WideShapes Go.ChangeAt Go.RowKit
def laidL{H:Type}:List (String×DataW H):=[("math/bits.deBruijn32tab",Rows.laid_math_bits_deBruijn32tab),("math/bits.deBruijn64tab",Rows.laid_math_bits_deBruijn64tab),("internal/strconv.uint64pow10",Rows.laid_internal_strconv_uint64pow10),("strconv.ErrRange",Rows.laid_strconv_ErrRange),("strconv.ErrSyntax",Rows.laid_strconv_ErrSyntax)]
theorem gl_laid{W:World}(h:laidMetH aF laidL W):C8 W:=by
 rw[aqh _ _ _ (by rfl)]at h;have au:=h.tail.tail;have aP:=au.tail;have R5:(aF.globals[1]?).map (·.type)=some 108:=by kernel_rfl
 have R7:(aF.globals[2]?).map (·.type)=some 108:=by kernel_rfl
 have xC:(aF.globals[0]?).map (·.type)=some 302:=by kernel_rfl
 refine ada (tabIs_of_head (rest:=_) (by kernel_rfl) xC (n:=20) (e:=267) (by kernel_rfl) (by kernel_rfl) (by kernel_rfl) (by kernel_rfl) au) (Ur aP.tail (by kernel_rfl) R5 Tryz.underlying108) (Ur aP (by kernel_rfl) R7 Tryz.underlying108)
theorem door_met(os:Os)(args:Array Value):laidMetH aF laidL ((World.doorLaid aF 62 os).forCall (fun _ _=>0) ⟨#[],args,[]⟩).memory:=laidMetH_of_parts3 (fuel:=8) (laidMet_of_run' 8 (by kernel_rfl) (by kernel_rfl)) (by kernel_rfl) (by kernel_rfl)
set_option maxRecDepth 100000 in
theorem fnExactNumberProgram_lifted(os:Os)(started:os.Started)(H:Type)(enc:fX×Value->H):
  ReturnsInHanded {} Tryz.checked os 9 .any (fun w args=>(rv.pre enc aF kH [] false w args/\laidMetH aF laidL w)/\sizedMet enc aF kH (OpenSpec.ofChange rv) false w args) (rv.post enc aF kH false true false false):=by
 refine returnsInHanded_of_change_and (C:=Tryz.checked) (X:=fun w _=>laidMetH aF laidL w) (fun _ _ _ bR h=>h.of_heap bR) aji started (by kernel_rfl) Tryz.func9
  (aqf (enc:=enc) (C:=Tryz.checked) (os:=os) (X:=fun w _=>laidMetH aF laidL w) false (World.doorLaid aF 62 os) #[.agg #[.slice none 0 0]] 8 rfl (World.shaped_of_RefB (by kernel_rfl) (by kernel_rfl)) (by kernel_rfl) (by kernel_rfl) (by kernel_rfl) (door_met os _)) ?_
 intro W base args ds gs before afd Sr _ _ mQ _;have aS:=gl_laid mQ;have nC:∀(j:Nat) t v,kH.params[j]? =some t->args[j]? =some v->Value.okWide aF W .any base t v:=afd;have Ss:=Sr;obtain⟨p,q,td,adB,rfl,aed,wm⟩:=Sr;have bf:DataW.TrodAll enc aF W 0 (fun _=>true) true kH.params.toList args.toList ds p:=td;rw[Tryz.params9]at bf nC;obtain⟨v0,d0,rfl,rfl,bz⟩:=trodAll_one bf;obtain⟨rfl,rfl⟩:=trodVars_none adB;have eN:=bz;obtain⟨l9,rfl,_⟩:=okWide_struct Tryz.underlying92 (nC 0 92 v0 rfl rfl);obtain⟨n0,f0⟩:=bz;have b5:∀x∈p,x.block<W.heap.size:=fun x af=>by simpa using Ss.lt x (by simpa using af)
 have adM:Calls aF 9 #[.agg l9] W fun e w'=>e= .returned (.bool true)/\Below W.heap.size W w':=by obtain⟨kE,w0,kq⟩:=aic f0;refine Y7 (ν:=qM W) Tryz.func9 (enters_of Tryz.func9 (by kernel_rfl) rfl) (aaj aS) (akt kE w0) (fun _ _ _ h=>h) (fun b o h=>aak h) (fun _=>rfl) (fun _=>rfl) ?_;simp only[cz];exact⟨_,_,rfl,kq,rfl⟩
 refine adM.mono fun e alG ⟨he,Sy⟩=>?_;subst he;refine⟨_,rfl,_,_,_,[],p,[],Ss,?_,?_,rfl,Sy.frame _,fun h=>by cases h⟩
 ·exact trodAll_mk1 (shut_bool Tryz.underlying4 true)
 ·exact trodAll_mk1 (Below.trod ajh (by kernel_rfl) (of_decide_eq_true (by kernel_rfl)) eN Sy fun x af=>b5 x (by simp[af]))
theorem fnExactNumberProgram_row:Rows.FnExactNumberProgramSaid:=
 aqi 9 kH rfl rfl rfl rfl rfl rfl rfl ⟨rfl,rfl,rfl,rfl,rfl⟩ rfl rfl rfl rfl rfl (by as_aux_lemma=>kernel_rfl) Tryz.func9 ZU
  (of_decide_eq_true (by kernel_rfl)) (by unfold Func.isWrapper;first|(rw[if_pos (by decide+kernel)];kernel_rfl)|(rw[br (by decide+kernel)];exact⟨rfl,rfl⟩))
  (fun os started H enc _=>fnExactNumberProgram_lifted os started H enc)
theorem fnExactNumberProgram_holds:Rows.FnExactNumberProgramCardSaid:=
 Claim7.holds_tied_plain_at .later [] [.data,.data,.data,.sentinel,.sentinel] true Rows.fnExactNumberProgramCard.stood.harness true
  fnExactNumberProgram_row (fun _ h=>by cases h) Zd (fun _ h=>by cases h) fnExactNumberProgram_row_tie rfl ⟨rfl,rfl⟩ Zb rfl
  (fun f fn aK xP=>by
   obtain rfl:f=9:=gB (Y8.symm.trans aK)|>.symm;obtain rfl:fn=kH:=(gB (Tryz.func9.symm.trans xP)).symm;exact⟨Za,fun j t aE=>by
    rw[Tryz.params9]at aE;have hm:t∈[92]:=by simpa using Array.mem_of_getElem? aE
    exact(show aF.wantsStandIn t=false by simpa using ji.1 Zc t hm)⟩)
  Y9
#print axioms fnExactNumberProgram_holds
end
end Go.Proofs.YtlnndmgfngfeiaaGreatDoor
