/- FnExactFormatAnswer returns true for every input, and the input reads behind the call as it did before: the tied card. Condition: variables of the library hold what the program's own text lays in them (the card ties them to that text). -/
import Derived.Test.YtfeencekjcjalaaGreatDoorRows
import Derived.Test.YtfeencekjcjalaaGreatDoorTie
import Derived.Test.YtfeencekjcjalaaGreatDoorCards
import Derived.LaidMore
import Derived.SevenTiedAt
import Derived.MakeChecks
import Derived.Test.YtfeencekjcjalaaGreatDoorZq12
set_option linter.all false
set_option maxHeartbeats 4000000
set_option maxRecDepth 4000
open Go renaming TypeId->fF
open Go.ChangeSpec renaming witness_shaped->ayf
open Go.MakeChecks renaming laidMetH_plain->ayk
open Go.OpenClaim renaming holds_of_wide->ayl
open Go.Proofs.Tryz renaming f4->kS,prog->ar
open Go.Proofs.YtfeencekjcjalaaGreatDoor.Rows renaming fnExactFormatAnswerSpec->rP
open List renaming all_eq_true->iW
open Option.some renaming inj->ft
namespace Go.Proofs.YtfeencekjcjalaaGreatDoor
section
open Go Go.Pv Go.Lib Go.ChangeShapes Go.WideShapes Go.ChangeAt Go.RowKit
def laidL{H:Type}:List (String×DataW H):=[("math/bits.deBruijn32tab",Rows.laid_math_bits_deBruijn32tab),("math/bits.deBruijn64tab",Rows.laid_math_bits_deBruijn64tab),("internal/strconv.uint64pow10",Rows.laid_internal_strconv_uint64pow10)]
theorem gl_laid{W:World}(h:laidMetH ar laidL W):DS W:=by
 rw[ayk _ _ _ (by rfl)]at h;have aq:=h.tail.tail;have g0:(ar.globals[0]?).map (·.type)=some 230:=by kernel_rfl
 refine ai6 (tabIs_of_head (rest:=_) an g0 (n:=20) (e:=211) an an an an aq)
theorem door_met(os:Os)(args:Array Value):laidMetH ar laidL ((World.doorLaid ar 24 os).forCall (fun _ _=>0) ⟨#[],args,[]⟩).memory:=laidMetH_of_parts3 (fuel:=8) (laidMet_of_run' 8 an an) an an
set_option maxRecDepth 100000 in
theorem fnExactFormatAnswer_lifted(os:Os)(started:os.Started)(H:Type)(enc:fF×Value->H):
  ReturnsInHanded {} Tryz.checked os 4 .any (fun w args=>(rP.pre enc ar kS [] false w args/\laidMetH ar laidL w)/\sizedMet enc ar kS (OpenSpec.ofChange rP) false w args) (rP.post enc ar kS false true false false):=by
 refine returnsInHanded_of_change_and (C:=Tryz.checked) (X:=fun w _=>laidMetH ar laidL w) (fun _ _ _ cV h=>h.of_heap cV) aqu started an Tryz.func4
  (ayf (enc:=enc) (C:=Tryz.checked) (os:=os) (X:=fun w _=>laidMetH ar laidL w) false (World.doorLaid ar 24 os) #[.agg #[.slice none 0 0,.int .i64 0,.slice none 0 0,.slice none 0 0,.slice none 0 0,.slice none 0 0]] 8 rfl (World.shaped_of_RefB an an) an an an (door_met os _)) ?_
 intro W base args eA gs before akL o4 _ _ zc _;have a1:=gl_laid zc;have lT:∀(j:Nat) t v,kS.params[j]? =some t->args[j]? =some v->Value.okWide ar W .any base t v:=akL;have VS:=o4;obtain⟨p,q,te,k0,rfl,ajJ,xO⟩:=o4;have bj:DataW.TrodAll enc ar W 0 (fun _=>true) true kS.params.toList args.toList eA p:=te;rw[Tryz.params4]at bj lT;obtain⟨v0,d0,rfl,rfl,bm⟩:=trodAll_one bj;obtain⟨rfl,rfl⟩:=trodVars_none k0;have fN:=bm;obtain⟨rH,rfl,_⟩:=okWide_struct Tryz.underlying41 (lT 0 41 v0 rfl rfl);obtain⟨n0,f0⟩:=bm;have bN:∀x∈p,x.block<W.heap.size:=fun x ab=>by simpa using VS.lt x (by simpa using ab)
 have ajw:Calls ar 4 #[.agg rH] W fun e w'=>e= .returned (.bool true)/\Below W.heap.size W w':=by obtain⟨r0,w0,fM⟩:=ac2 f0;refine adD (Z:=r8 W) Tryz.func4 (enters_of Tryz.func4 an rfl) (aeI a1) (ar2 r0 w0) (fun _ _ _ h=>h) (fun b o h=>aeJ h) (fun _=>rfl) (fun _=>rfl) ?_;simp only[cN];exact⟨_,_,rfl,fM,rfl⟩
 refine ajw.mono fun e atM ⟨he,D6⟩=>?_;subst he;refine⟨_,rfl,_,_,_,[],p,[],VS,?_,?_,rfl,D6.frame _,fun h=>by cases h⟩
 ·exact trodAll_mk1 (shut_bool Tryz.underlying4 true)
 ·exact trodAll_mk1 (Below.trod aqt an (of_decide_eq_true an) fN D6 fun x ab=>bN x (by simp[ab]))
theorem fnExactFormatAnswer_row:Rows.FnExactFormatAnswerSaid:=
 ayl 4 kS rfl rfl rfl rfl rfl rfl rfl ⟨rfl,rfl,rfl,rfl,rfl⟩ rfl rfl rfl rfl rfl (by as_aux_lemma=>kernel_rfl) Tryz.func4 aeq
  (of_decide_eq_true an) (by unfold Func.isWrapper;first|(rw[if_pos (by decide+kernel)];kernel_rfl)|(rw[if_neg (by decide+kernel)];exact⟨rfl,rfl⟩))
  (fun os started H enc _=>fnExactFormatAnswer_lifted os started H enc)
theorem fnExactFormatAnswer_holds:Rows.FnExactFormatAnswerCardSaid:=
 Claim7.holds_tied_plain_at .later [] [.data,.data,.data] true Rows.fnExactFormatAnswerCard.stood.harness false
  fnExactFormatAnswer_row (fun _ h=>by cases h) adL (fun _ h=>by cases h) fnExactFormatAnswer_row_tie rfl ⟨rfl,rfl⟩ adJ rfl
  (fun f fn aH qC=>by
   obtain rfl:f=4:=ft (adG.symm.trans aH)|>.symm;obtain rfl:fn=kS:=(ft (Tryz.func4.symm.trans qC)).symm;exact⟨adI,fun j t aM=>by
    rw[Tryz.params4]at aM;have hm:t∈[41]:=by simpa using Array.mem_of_getElem? aM
    exact(show ar.wantsStandIn t=false by simpa using iW.1 adK t hm)⟩)
  adH
#print axioms fnExactFormatAnswer_holds
end
end Go.Proofs.YtfeencekjcjalaaGreatDoor
