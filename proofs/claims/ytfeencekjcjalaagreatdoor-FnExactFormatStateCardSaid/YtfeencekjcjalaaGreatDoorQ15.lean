/- FnExactFormatState returns true for every input, and the input reads behind the call as it did before: the tied card. Condition: variables of the library hold what the program's own text lays in them (the card ties them to that text). -/
import Derived.Test.YtfeencekjcjalaaGreatDoorRows
import Derived.Test.YtfeencekjcjalaaGreatDoorTie
import Derived.Test.YtfeencekjcjalaaGreatDoorCards
import Derived.LaidMore
import Derived.SevenTiedAt
import Derived.MakeChecks
import Derived.Test.YtfeencekjcjalaaGreatDoorQ14
set_option linter.all false
set_option maxHeartbeats 4000000
set_option maxRecDepth 4000
open Go renaming TypeId->fF
open Go.ChangeSpec renaming witness_shaped->awf
open Go.MakeChecks renaming laidMetH_plain->awk
open Go.OpenClaim renaming holds_of_wide->awl
open Go.Proofs.Tryz renaming f3->kM,prog->ar
open Go.Proofs.YtfeencekjcjalaaGreatDoor.Rows renaming fnExactFormatStateSpec->rz
open List renaming all_eq_true->jL
open Option.some renaming inj->fK
namespace Go.Proofs.YtfeencekjcjalaaGreatDoor
section
open Go Go.Pv Go.Lib Go.ChangeShapes Go.WideShapes Go.ChangeAt Go.RowKit
def laidL{H:Type}:List (String×DataW H):=[("math/bits.deBruijn32tab",Rows.laid_math_bits_deBruijn32tab),("math/bits.deBruijn64tab",Rows.laid_math_bits_deBruijn64tab),("internal/strconv.uint64pow10",Rows.laid_internal_strconv_uint64pow10)]
theorem gl_laid{W:World}(h:laidMetH ar laidL W):DE W:=by
 rw[awk _ _ _ (by rfl)]at h;have ao:=h.tail.tail;have g0:(ar.globals[0]?).map (·.type)=some 230:=by kernel_rfl
 refine ahG (tabIs_of_head (rest:=_) an g0 (n:=20) (e:=211) an an an an ao)
theorem door_met(os:Os)(args:Array Value):laidMetH ar laidL ((World.doorLaid ar 24 os).forCall (fun _ _=>0) ⟨#[],args,[]⟩).memory:=laidMetH_of_parts3 (fuel:=8) (laidMet_of_run' 8 an an) an an
set_option maxRecDepth 100000 in
theorem fnExactFormatState_lifted(os:Os)(started:os.Started)(H:Type)(enc:fF×Value->H):
  ReturnsInHanded {} Tryz.checked os 3 .any (fun w args=>(rz.pre enc ar kM [] false w args/\laidMetH ar laidL w)/\sizedMet enc ar kM (OpenSpec.ofChange rz) false w args) (rz.post enc ar kM false true false false):=by
 refine returnsInHanded_of_change_and (C:=Tryz.checked) (X:=fun w _=>laidMetH ar laidL w) (fun _ _ _ cP h=>h.of_heap cP) aoT started an Tryz.func3
  (awf (enc:=enc) (C:=Tryz.checked) (os:=os) (X:=fun w _=>laidMetH ar laidL w) false (World.doorLaid ar 24 os) #[.agg #[.int .i64 0,.slice none 0 0,.slice none 0 0,.slice none 0 0,.slice none 0 0]] 8 rfl (World.shaped_of_RefB an an) an an an (door_met os _)) ?_
 intro W base args en gs before ajh DN _ _ yV _;have aY:=gl_laid yV;have lN:∀(j:Nat) t v,kM.params[j]? =some t->args[j]? =some v->Value.okWide ar W .any base t v:=ajh;have UY:=DN;obtain⟨p,q,sM,kS,rfl,aif,Ed⟩:=DN;have be:DataW.TrodAll enc ar W 0 (fun _=>true) true kM.params.toList args.toList en p:=sM;rw[Tryz.params3]at be lN;obtain⟨v0,d0,rfl,rfl,bm⟩:=trodAll_one be;obtain⟨rfl,rfl⟩:=trodVars_none kS;have fI:=bm;obtain⟨rn,rfl,_⟩:=okWide_struct Tryz.underlying27 (lN 0 27 v0 rfl rfl);obtain⟨n0,f0⟩:=bm;have bI:∀x∈p,x.block<W.heap.size:=fun x ab=>by simpa using UY.lt x (by simpa using ab)
 have ah3:Calls ar 3 #[.agg rn] W fun e w'=>e= .returned (.bool true)/\Below W.heap.size W w':=by obtain⟨r0,w0,fX⟩:=apC f0;refine acn (Z:=rR W) Tryz.func3 (enters_of Tryz.func3 an rfl) (adt aY) (aqb r0 w0) (fun _ _ _ h=>h) (fun b o h=>adu h) (fun _=>rfl) (fun _=>rfl) ?_;simp only[cH];exact⟨_,_,rfl,fX,rfl⟩
 refine ah3.mono fun e arT ⟨he,DS⟩=>?_;subst he;refine⟨_,rfl,_,_,_,[],p,[],UY,?_,?_,rfl,DS.frame _,fun h=>by cases h⟩
 ·exact trodAll_mk1 (shut_bool Tryz.underlying4 true)
 ·exact trodAll_mk1 (Below.trod aoS an (of_decide_eq_true an) fI DS fun x ab=>bI x (by simp[ab]))
theorem fnExactFormatState_row:Rows.FnExactFormatStateSaid:=
 awl 3 kM rfl rfl rfl rfl rfl rfl rfl ⟨rfl,rfl,rfl,rfl,rfl⟩ rfl rfl rfl rfl rfl (by as_aux_lemma=>kernel_rfl) Tryz.func3 ada
  (of_decide_eq_true an) (by unfold Func.isWrapper;first|(rw[if_pos (by decide+kernel)];kernel_rfl)|(rw[if_neg (by decide+kernel)];exact⟨rfl,rfl⟩))
  (fun os started H enc _=>fnExactFormatState_lifted os started H enc)
theorem fnExactFormatState_holds:Rows.FnExactFormatStateCardSaid:=
 Claim7.holds_tied_plain_at .later [] [.data,.data,.data] true Rows.fnExactFormatStateCard.stood.harness false
  fnExactFormatState_row (fun _ h=>by cases h) acu (fun _ h=>by cases h) fnExactFormatState_row_tie rfl ⟨rfl,rfl⟩ acr rfl
  (fun f fn aG qq=>by
   obtain rfl:f=3:=fK (aco.symm.trans aG)|>.symm;obtain rfl:fn=kM:=(fK (Tryz.func3.symm.trans qq)).symm;exact⟨acq,fun j t aM=>by
    rw[Tryz.params3]at aM;have hm:t∈[27]:=by simpa using Array.mem_of_getElem? aM
    exact(show ar.wantsStandIn t=false by simpa using jL.1 acs t hm)⟩)
  acp
#print axioms fnExactFormatState_holds
end
end Go.Proofs.YtfeencekjcjalaaGreatDoor
