/- FnProgramText returns true for every input, and the input reads behind the call as it did before: the tied card. Condition: variables of the library hold what the program's own text lays in them (the card ties them to that text). -/
import Derived.Test.YtlnndmgfngfeiaaGreatDoorRows
import Derived.Test.YtlnndmgfngfeiaaGreatDoorTie
import Derived.Test.YtlnndmgfngfeiaaGreatDoorCards
import Derived.LaidMore
import Derived.SevenTiedAt
import Derived.MakeChecks
import Derived.Test.YtlnndmgfngfeiaaGreatDoorV13
set_option linter.all false
set_option maxHeartbeats 4000000
set_option maxRecDepth 4000
open Go renaming TypeId->fT
open Go.ChangeSpec renaming witness_shaped->amM
open Go.MakeChecks renaming laidMetH_plain->amO
open Go.OpenClaim renaming holds_of_wide->amP
open Go.Proofs.Tryz renaming f8->j2,prog->aQ
open Go.Proofs.YtlnndmgfngfeiaaGreatDoor.Rows renaming fnProgramTextSpec->qC
open Go.Value renaming cells->mf,int->mP
open List renaming all_eq_true->hq,getElem?_eq_some_iff->eV,getElem?_map->pQ
open Nat renaming lt_or_ge->lU
open Option renaming map_eq_some_iff->hc
open Option.some renaming inj->hd
open _root_ renaming Option->a1,if_neg->bo,if_pos->bP
namespace Go.Proofs.YtlnndmgfngfeiaaGreatDoor
section
open Go Go.Pv Go.Lib Go.ChangeShapes Go.WideShapes Go.ChangeAt Go.RowKit
theorem fnProgramText_long(a:a1 Addr)(len cap:Nat)(h:1048576<len)(hm:len<=9223372036854775807)(w:World):Calls aQ 8 #[.slice a len cap] w fun e w'=>e= .returned (.bool true)/\w'=w:=by go_enter Tryz.func8,Tryz.ntmps8;go_wp2;go_ret;exact⟨rfl,rfl⟩
set_option maxRecDepth 100000 in
theorem fnProgramText_any(W:World)(a:Addr)(len cap:Nat)(cd:List Int)(aG:len<=cap)(hm:cap<=maxLen)(cp:cd.length=cap)(mB:∀i,i<cd.length->W.cell? (a.add i)=some (.int .u8 (cd.getD i 0)))(yd:∀n∈cd,(Lit.int .u8 n).wf=true)(aR:tz W):
  Calls aQ 8 #[.slice (some a) len cap] W fun e w'=>e= .returned (.bool true)/\Below W.heap.size W w':=by
 by_cases zE:1048576<len
 ·refine(fnProgramText_long (some a) len cap zE (by unfold maxLen at hm;omega) W).mono ?_;rintro e w' ⟨rfl,rfl⟩;exact⟨rfl,Below.refl _ _⟩
 ·have hlen:(cd.take len).length=len:=by simp;omega
  have aP:tg (cd.take len):=fun x ad=>aiE (yd x (List.mem_of_mem_take ad));have ET:=VB (cd.take len) aP;rcases Nat.eq_zero_or_pos len with rfl|gW
  ·refine HY (ν:=BD 0 0 0) Tryz.func8 (enters_of Tryz.func8 (by kernel_rfl) rfl) (Io aR _ _ _) ET (fun _ _ _ h=>h) (Ip aR (.inl rfl)) (fun _=>rfl) (fun _=>rfl) ?_;simp only[cw,aT];refine⟨_,_,rfl,⟨⟨some a,cap,by simp[iz],by simp[iz],⟨hm,by simp[iz,bs]⟩,.inl (by simp[iz])⟩,fun e=>(by cases e),fun g e=>(by cases e),fun _ _ e=>(by cases e),fun _ e=>(by cases e)⟩,rfl⟩
  ·obtain⟨Bj,Hy,spot⟩:=a;have ada:spot=none:=by simpa[Addr.add]using World.cell?_spot (mB 0 Ω)
   subst ada;have oD:Bj<W.heap.size:=by
    have:=mB 0 Ω;rcases lU Bj W.heap.size with h|h
    ·exact h
    ·simp[World.cell?,Addr.add,Array.getElem?_eq_none h]at this
   refine HY (ν:=BD Bj Hy len) Tryz.func8 (enters_of Tryz.func8 (by kernel_rfl) rfl) (Io aR _ _ _) ET (fun _ _ _ h=>h) (Ip aR (.inr oD)) (fun _=>rfl) (fun _=>rfl) ?_;simp only[cw,aT];refine⟨_,_,rfl,⟨⟨some ⟨Bj,Hy,none⟩,cap,by simp[hlen],by simp[hlen];omega,⟨hm,by simp[hlen,bs];omega⟩,.inr ⟨Bj,Hy,(cd.take len).map (mP .u8),rfl,?_,Nu _ _ _⟩⟩,fun e=>(by cases e),fun g e=>(by cases e),fun _ _ e=>(by cases e),fun _ e=>(by cases e)⟩,rfl⟩;refine yk _ _ _ _ _ fun i u hu=>?_;simp only[pQ,hc]at hu;obtain⟨x,ad,rfl⟩:=hu;have aE:i<len:=by have:=(eV.1 ad).1;omega
   refine⟨.inl ⟨rfl,Ω,Ω⟩,?_⟩;have:=mB i Ω;rw[Addr.add_lit]at this;rw[this];congr 2;rw[List.getElem?_take,bP aE]at ad;simp[List.getD,ad]
theorem fnProgramText_nil(W:World)(aR:tz W):Calls aQ 8 #[.slice none 0 0] W fun e w'=>e= .returned (.bool true)/\Below W.heap.size W w':=by refine HY (ν:=BD 0 0 0) Tryz.func8 (enters_of Tryz.func8 (by kernel_rfl) rfl) (Io aR _ _ _) (VB [] (by simp[tg])) (fun _ _ _ h=>h) (Ip aR (.inl rfl)) (fun _=>rfl) (fun _=>rfl) ?_;simp only[cw,aT];exact⟨_,_,rfl,⟨⟨none,0,by simp[iz],by simp[iz],⟨by simp[maxLen],by simp[iz,bs]⟩,.inl (by simp[iz])⟩,fun e=>(by cases e),fun g e=>(by cases e),fun _ _ e=>(by cases e),fun _ e=>(by cases e)⟩,rfl⟩
def laidL{H:Type}:List (String×DataW H):=[("math/bits.deBruijn32tab",Rows.laid_math_bits_deBruijn32tab),("math/bits.deBruijn64tab",Rows.laid_math_bits_deBruijn64tab),("internal/strconv.uint64pow10",Rows.laid_internal_strconv_uint64pow10),("strconv.ErrRange",Rows.laid_strconv_ErrRange),("strconv.ErrSyntax",Rows.laid_strconv_ErrSyntax)]
theorem gl_laid{W:World}(h:laidMetH aQ laidL W):tz W:=by
 rw[amO _ _ _ (by rfl)]at h;have aA:=h.tail.tail;have aS:=aA.tail;have Ql:(aQ.globals[1]?).map (·.type)=some 108:=by kernel_rfl
 have Qn:(aQ.globals[2]?).map (·.type)=some 108:=by kernel_rfl
 have my:(aQ.globals[0]?).map (·.type)=some 302:=by kernel_rfl
 refine aa4 (tabIs_of_head (rest:=_) (by kernel_rfl) my (n:=20) (e:=267) (by kernel_rfl) (by kernel_rfl) (by kernel_rfl) (by kernel_rfl) aA) (Sn aS.tail (by kernel_rfl) Ql Tryz.underlying108) (Sn aS (by kernel_rfl) Qn Tryz.underlying108)
theorem door_met(os:Os)(args:Array Value):laidMetH aQ laidL ((World.doorLaid aQ 62 os).forCall (fun _ _=>0) ⟨#[],args,[]⟩).memory:=laidMetH_of_parts3 (fuel:=8) (laidMet_of_run' 8 (by kernel_rfl) (by kernel_rfl)) (by kernel_rfl) (by kernel_rfl)
set_option maxRecDepth 100000 in
theorem fnProgramText_lifted(os:Os)(started:os.Started)(H:Type)(enc:fT×Value->H):
  ReturnsInHanded {} Tryz.checked os 8 .any (fun w args=>(qC.pre enc aQ j2 [] false w args/\laidMetH aQ laidL w)/\sizedMet enc aQ j2 (OpenSpec.ofChange qC) false w args) (qC.post enc aQ j2 false true false false):=by
 refine returnsInHanded_of_change_and (C:=Tryz.checked) (X:=fun w _=>laidMetH aQ laidL w) (fun _ _ _ bX h=>h.of_heap bX) ag3 started (by kernel_rfl) Tryz.func8
  (amM (enc:=enc) (C:=Tryz.checked) (os:=os) (X:=fun w _=>laidMetH aQ laidL w) false (World.doorLaid aQ 62 os) #[.slice none 0 0] 8 rfl (World.shaped_of_RefB (by kernel_rfl) (by kernel_rfl)) (by kernel_rfl) (by kernel_rfl) (by kernel_rfl) (door_met os _)) ?_
 intro W base args dV gs before adl QC _ _ nb _;have aR:=gl_laid nb;have mG:∀(j:Nat) t v,j2.params[j]? =some t->args[j]? =some v->Value.okWide aQ W .any base t v:=adl;have QD:=QC;obtain⟨p,q,r4,ET,rfl,ach,akO⟩:=QC;have bq:DataW.TrodAll enc aQ W 0 (fun _=>true) true j2.params.toList args.toList dV p:=r4;rw[Tryz.params8]at bq mG;obtain⟨v0,d0,rfl,rfl,bK⟩:=trodAll_one bq;obtain⟨rfl,rfl⟩:=trodVars_none ET;have abo:=bK;obtain⟨a0,len,cap,rfl⟩:=okWide_slice Tryz.underlying35 (mG 0 35 v0 rfl rfl);obtain⟨fuel,aY⟩:=bK;have bY:∀x∈p,x.block<W.heap.size:=fun x ad=>by simpa using QD.lt x (by simpa using ad)
 have abN:Calls aQ 8 #[.slice a0 len cap] W fun e w'=>e= .returned (.bool true)/\Below W.heap.size W w':=by
  rcases open_ints Tryz.underlying35 Tryz.underlying5 Xa aY with⟨da,ad⟩|⟨a,als,xv,cd,da,_,aG,hm,cp,ad,mB,yd⟩
  ·simp[mf]at da;obtain⟨rfl,rfl,rfl⟩:=da;exact fnProgramText_nil W aR
  ·simp[mf]at da;obtain⟨rfl,rfl,rfl⟩:=da;simp only[if_true]at cp;exact fnProgramText_any W a len cap cd aG hm cp mB yd aR
 refine abN.mono fun e aiQ ⟨he,QJ⟩=>?_;subst he;refine⟨_,rfl,_,_,_,[],p,[],QD,?_,?_,rfl,QJ.frame _,fun h=>by cases h⟩
 ·exact trodAll_mk1 (shut_bool Tryz.underlying4 true)
 ·exact trodAll_mk1 (Below.trod ag2 (by kernel_rfl) (of_decide_eq_true (by kernel_rfl)) abo QJ bY)
theorem fnProgramText_row:Rows.FnProgramTextSaid:=
 amP 8 j2 rfl rfl rfl rfl rfl rfl rfl ⟨rfl,rfl,rfl,rfl,rfl⟩ rfl rfl rfl rfl rfl (by as_aux_lemma=>kernel_rfl) Tryz.func8 XM
  (of_decide_eq_true (by kernel_rfl)) (by unfold Func.isWrapper;first|(rw[bP (by decide+kernel)];kernel_rfl)|(rw[bo (by decide+kernel)];exact⟨rfl,rfl⟩))
  (fun os started H enc _=>fnProgramText_lifted os started H enc)
theorem fnProgramText_holds:Rows.FnProgramTextCardSaid:=
 Claim7.holds_tied_plain_at .later [] [.data,.data,.data,.sentinel,.sentinel] true Rows.fnProgramTextCard.stood.harness true
  fnProgramText_row (fun _ h=>by cases h) W8 (fun _ h=>by cases h) fnProgramText_row_tie rfl ⟨rfl,rfl⟩ W6 rfl
  (fun f fn aY zI=>by
   obtain rfl:f=8:=hd (W3.symm.trans aY)|>.symm;obtain rfl:fn=j2:=(hd (Tryz.func8.symm.trans zI)).symm;exact⟨W5,fun j t aI=>by
    rw[Tryz.params8]at aI;have hm:t∈[35]:=by simpa using Array.mem_of_getElem? aI
    exact(show aQ.wantsStandIn t=false by simpa using hq.1 W7 t hm)⟩)
  W4
#print axioms fnProgramText_holds
end
end Go.Proofs.YtlnndmgfngfeiaaGreatDoor
