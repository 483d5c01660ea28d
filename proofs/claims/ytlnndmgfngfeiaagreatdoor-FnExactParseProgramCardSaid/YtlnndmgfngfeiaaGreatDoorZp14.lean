/- FnExactParseProgram returns true for every input, and the input reads behind the call as it did before: the tied card. Condition: variables of the library hold what the program's own text lays in them (the card ties them to that text). -/
import Derived.Test.YtlnndmgfngfeiaaGreatDoorRows
import Derived.Test.YtlnndmgfngfeiaaGreatDoorTie
import Derived.Test.YtlnndmgfngfeiaaGreatDoorCards
import Derived.LaidMore
import Derived.SevenTiedAt
import Derived.MakeChecks
import Derived.Test.YtlnndmgfngfeiaaGreatDoorZp13
set_option linter.all false
set_option maxHeartbeats 4000000
set_option maxRecDepth 4000
open Go renaming TypeId->fI
open Go.ChangeSpec renaming witness_shaped->aiZ
open Go.MakeChecks renaming laidMetH_plain->ai0
open Go.OpenClaim renaming holds_of_wide->ai1
open Go.Proofs.Tryz renaming f7->jM,prog->aQ
open Go.Proofs.YtlnndmgfngfeiaaGreatDoor.Rows renaming fnExactParseProgramSpec->p9
open List renaming all_eq_true->jy
open Option.some renaming inj->gq
open _root_ renaming if_neg->bq
namespace Go.Proofs.YtlnndmgfngfeiaaGreatDoor
section
open Go Go.Pv Go.Lib Go.ChangeShapes Go.WideShapes Go.ChangeAt Go.RowKit
def laidL{H:Type}:List (String×DataW H):=[("math/bits.deBruijn32tab",Rows.laid_math_bits_deBruijn32tab),("math/bits.deBruijn64tab",Rows.laid_math_bits_deBruijn64tab),("internal/strconv.uint64pow10",Rows.laid_internal_strconv_uint64pow10),("strconv.ErrRange",Rows.laid_strconv_ErrRange),("strconv.ErrSyntax",Rows.laid_strconv_ErrSyntax)]
theorem gl_laid{W:World}(h:laidMetH aQ laidL W):A0 W:=by
 rw[ai0 _ _ _ (by rfl)]at h;have ao:=h.tail.tail;have aO:=ao.tail;have NQ:(aQ.globals[1]?).map (·.type)=some 108:=by kernel_rfl
 have NS:(aQ.globals[2]?).map (·.type)=some 108:=by kernel_rfl
 have pE:(aQ.globals[0]?).map (·.type)=some 302:=by kernel_rfl
 refine Xu (tabIs_of_head (rest:=_) (by kernel_rfl) pE (n:=20) (e:=267) (by kernel_rfl) (by kernel_rfl) (by kernel_rfl) (by kernel_rfl) ao) (PY aO.tail (by kernel_rfl) NQ Tryz.underlying108) (PY aO (by kernel_rfl) NS Tryz.underlying108)
theorem door_met(os:Os)(args:Array Value):laidMetH aQ laidL ((World.doorLaid aQ 62 os).forCall (fun _ _=>0) ⟨#[],args,[]⟩).memory:=laidMetH_of_parts3 (fuel:=8) (laidMet_of_run' 8 (by kernel_rfl) (by kernel_rfl)) (by kernel_rfl) (by kernel_rfl)
set_option maxRecDepth 100000 in
theorem fnExactParseProgram_lifted(os:Os)(started:os.Started)(H:Type)(enc:fI×Value->H):
  ReturnsInHanded {} Tryz.checked os 7 .any (fun w args=>(p9.pre enc aQ jM [] false w args/\laidMetH aQ laidL w)/\sizedMet enc aQ jM (OpenSpec.ofChange p9) false w args) (p9.post enc aQ jM false true false false):=by
 refine returnsInHanded_of_change_and (C:=Tryz.checked) (X:=fun w _=>laidMetH aQ laidL w) (fun _ _ _ bI h=>h.of_heap bI) acU started (by kernel_rfl) Tryz.func7
  (aiZ (enc:=enc) (C:=Tryz.checked) (os:=os) (X:=fun w _=>laidMetH aQ laidL w) false (World.doorLaid aQ 62 os) #[.string ⟨#[]⟩] 8 rfl (World.shaped_of_RefB (by kernel_rfl) (by kernel_rfl)) (by kernel_rfl) (by kernel_rfl) (by kernel_rfl) (door_met os _)) ?_
 intro W base args c1 gs before Zt N9 _ _ lF _;have aR:=gl_laid lF;have mi:∀(j:Nat) t v,jM.params[j]? =some t->args[j]? =some v->Value.okWide aQ W .any base t v:=Zt;have Oa:=N9;obtain⟨p,q,rB,XS,rfl,agK,uo⟩:=N9;have aW:DataW.TrodAll enc aQ W 0 (fun _=>true) true jM.params.toList args.toList c1 p:=rB;rw[Tryz.params7]at aW mi;obtain⟨v0,d0,rfl,rfl,bL⟩:=trodAll_one aW;obtain⟨rfl,rfl⟩:=trodVars_none XS;have eU:=bL;obtain⟨k1,rfl⟩:=okWide_string Tryz.underlying9 (mi 0 9 v0 rfl rfl);obtain⟨n0,f0⟩:=bL;have bS:∀x∈p,x.block<W.heap.size:=fun x af=>by simpa using Oa.lt x (by simpa using af)
 have X4:Calls aQ 7 #[.string k1] W fun e w'=>e= .returned (.bool true)/\Below W.heap.size W w':=by obtain⟨zG,w0,pw⟩:=adr f0;refine TQ (ν:=yK W) Tryz.func7 (enters_of Tryz.func7 (by kernel_rfl) rfl) (UX aR) (adU zG w0) (fun _ _ _ h=>h) (fun b o h=>UY h) (fun _=>rfl) (fun _=>rfl) ?_;simp only[cc];exact⟨_,_,rfl,pw,rfl⟩
 refine X4.mono fun e aeY ⟨he,Oe⟩=>?_;subst he;refine⟨_,rfl,_,_,_,[],p,[],Oa,?_,?_,rfl,Oe.frame _,fun h=>by cases h⟩
 ·exact trodAll_mk1 (shut_bool Tryz.underlying4 true)
 ·exact trodAll_mk1 (Below.trod acT (by kernel_rfl) (of_decide_eq_true (by kernel_rfl)) eU Oe fun x af=>bS x (by simp[af]))
theorem fnExactParseProgram_row:Rows.FnExactParseProgramSaid:=
 ai1 7 jM rfl rfl rfl rfl rfl rfl rfl ⟨rfl,rfl,rfl,rfl,rfl⟩ rfl rfl rfl rfl rfl (by as_aux_lemma=>kernel_rfl) Tryz.func7 Uy
  (of_decide_eq_true (by kernel_rfl)) (by unfold Func.isWrapper;first|(rw[if_pos (by decide+kernel)];kernel_rfl)|(rw[bq (by decide+kernel)];exact⟨rfl,rfl⟩))
  (fun os started H enc _=>fnExactParseProgram_lifted os started H enc)
theorem fnExactParseProgram_holds:Rows.FnExactParseProgramCardSaid:=
 Claim7.holds_tied_plain_at .later [] [.data,.data,.data,.sentinel,.sentinel] true Rows.fnExactParseProgramCard.stood.harness true
  fnExactParseProgram_row (fun _ h=>by cases h) TW (fun _ h=>by cases h) fnExactParseProgram_row_tie rfl ⟨rfl,rfl⟩ TU rfl
  (fun f fn aL vI=>by
   obtain rfl:f=7:=gq (TR.symm.trans aL)|>.symm;obtain rfl:fn=jM:=(gq (Tryz.func7.symm.trans vI)).symm;exact⟨TT,fun j t aD=>by
    rw[Tryz.params7]at aD;have hm:t∈[9]:=by simpa using Array.mem_of_getElem? aD
    exact(show aQ.wantsStandIn t=false by simpa using jy.1 TV t hm)⟩)
  TS
#print axioms fnExactParseProgram_holds
end
end Go.Proofs.YtlnndmgfngfeiaaGreatDoor
