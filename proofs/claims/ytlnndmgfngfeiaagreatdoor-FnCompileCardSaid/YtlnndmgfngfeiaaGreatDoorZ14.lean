/- FnCompile returns true for every input, and the input reads behind the call as it did before: the tied card. Condition: variables of the library hold what the program's own text lays in them (the card ties them to that text). -/
import Derived.Test.YtlnndmgfngfeiaaGreatDoorRows
import Derived.Test.YtlnndmgfngfeiaaGreatDoorTie
import Derived.Test.YtlnndmgfngfeiaaGreatDoorCards
import Derived.LaidMore
import Derived.SevenTiedAt
import Derived.MakeChecks
import Derived.Test.YtlnndmgfngfeiaaGreatDoorZ13
set_option linter.all false
set_option maxHeartbeats 4000000
set_option maxRecDepth 4000
open Go renaming TypeId->gx
open Go.ChangeSpec renaming witness_shaped->alb
open Go.MakeChecks renaming laidMetH_plain->ald
open Go.OpenClaim renaming holds_of_wide->ale
open Go.Proofs.Tryz renaming f6->jK,prog->aP
open Go.Proofs.YtlnndmgfngfeiaaGreatDoor.Rows renaming fnCompileSpec->qj
open Go.Value renaming cells->l1,int->mE
open List renaming all_eq_true->gC,getElem?_eq_some_iff->cX,getElem?_map->oG
open Nat renaming lt_or_ge->hS
open Option renaming map_eq_some_iff->hT
open Option.some renaming inj->dZ
open _root_ renaming Option->be,if_neg->bf,if_pos->bN
namespace Go.Proofs.YtlnndmgfngfeiaaGreatDoor
section
open Go Go.Pv Go.Lib Go.ChangeShapes Go.WideShapes Go.ChangeAt Go.RowKit
theorem fnCompile_long(a:be Addr)(len cap:Nat)(h:1048576<len)(hm:len<=9223372036854775807)(w:World):Calls aP 6 #[.slice a len cap] w fun e w'=>e= .returned (.bool true)/\w'=w:=by go_enter Tryz.func6,Tryz.ntmps6;go_wp2;go_ret;exact⟨rfl,rfl⟩
set_option maxRecDepth 100000 in
theorem fnCompile_any(W:World)(a:Addr)(len cap:Nat)(cd:List Int)(aE:len<=cap)(hm:cap<=maxLen)(cn:cd.length=cap)(mh:∀i,i<cd.length->W.cell? (a.add i)=some (.int .u8 (cd.getD i 0)))(xT:∀n∈cd,(Lit.int .u8 n).wf=true)(aO:sR W):
  Calls aP 6 #[.slice (some a) len cap] W fun e w'=>e= .returned (.bool true)/\Below W.heap.size W w':=by
 by_cases xx:1048576<len
 ·refine(fnCompile_long (some a) len cap xx (by unfold maxLen at hm;omega) W).mono ?_;rintro e w' ⟨rfl,rfl⟩;exact⟨rfl,Below.refl _ _⟩
 ·have hlen:(cd.take len).length=len:=by simp;omega
  have a7:rp (cd.take len):=fun x ad=>agR (xT x (List.mem_of_mem_take ad));have Es:=T9 (cd.take len) a7;rcases Nat.eq_zero_or_pos len with rfl|fb
  ·refine Hp (ν:=Bc 0 0 0) Tryz.func6 (enters_of Tryz.func6 (by kernel_rfl) rfl) (HN aO _ _ _) Es (fun _ _ _ h=>h) (HO aO (.inl rfl)) (fun _=>rfl) (fun _=>rfl) ?_;simp only[cD,aR];refine⟨_,_,rfl,⟨⟨some a,cap,by simp[h1],by simp[h1],⟨hm,by simp[h1,bA]⟩,.inl (by simp[h1])⟩,fun e=>(by cases e),fun g e=>(by cases e),fun _ _ e=>(by cases e),fun _ e=>(by cases e)⟩,rfl⟩
  ·obtain⟨AT,GY,spot⟩:=a;have abk:spot=none:=by simpa[Addr.add]using World.cell?_spot (mh 0 Ω)
   subst abk;have n7:AT<W.heap.size:=by
    have:=mh 0 Ω;rcases hS AT W.heap.size with h|h
    ·exact h
    ·simp[World.cell?,Addr.add,Array.getElem?_eq_none h]at this
   refine Hp (ν:=Bc AT GY len) Tryz.func6 (enters_of Tryz.func6 (by kernel_rfl) rfl) (HN aO _ _ _) Es (fun _ _ _ h=>h) (HO aO (.inr n7)) (fun _=>rfl) (fun _=>rfl) ?_;simp only[cD,aR];refine⟨_,_,rfl,⟨⟨some ⟨AT,GY,none⟩,cap,by simp[hlen],by simp[hlen];omega,⟨hm,by simp[hlen,bA];omega⟩,.inr ⟨AT,GY,(cd.take len).map (mE .u8),rfl,?_,Mv _ _ _⟩⟩,fun e=>(by cases e),fun g e=>(by cases e),fun _ _ e=>(by cases e),fun _ e=>(by cases e)⟩,rfl⟩;refine xY _ _ _ _ _ fun i u hu=>?_;simp only[oG,hT]at hu;obtain⟨x,ad,rfl⟩:=hu;have aw:i<len:=by have:=(cX.1 ad).1;omega
   refine⟨.inl ⟨rfl,Ω,Ω⟩,?_⟩;have:=mh i Ω;rw[Addr.add_lit]at this;rw[this];congr 2;rw[List.getElem?_take,bN aw]at ad;simp[List.getD,ad]
theorem fnCompile_nil(W:World)(aO:sR W):Calls aP 6 #[.slice none 0 0] W fun e w'=>e= .returned (.bool true)/\Below W.heap.size W w':=by refine Hp (ν:=Bc 0 0 0) Tryz.func6 (enters_of Tryz.func6 (by kernel_rfl) rfl) (HN aO _ _ _) (T9 [] (by simp[rp])) (fun _ _ _ h=>h) (HO aO (.inl rfl)) (fun _=>rfl) (fun _=>rfl) ?_;simp only[cD,aR];exact⟨_,_,rfl,⟨⟨none,0,by simp[h1],by simp[h1],⟨by simp[maxLen],by simp[h1,bA]⟩,.inl (by simp[h1])⟩,fun e=>(by cases e),fun g e=>(by cases e),fun _ _ e=>(by cases e),fun _ e=>(by cases e)⟩,rfl⟩
def laidL{H:Type}:List (String×DataW H):=[("math/bits.deBruijn32tab",Rows.laid_math_bits_deBruijn32tab),("math/bits.deBruijn64tab",Rows.laid_math_bits_deBruijn64tab),("internal/strconv.uint64pow10",Rows.laid_internal_strconv_uint64pow10)]
theorem gl_laid{W:World}(h:laidMetH aP laidL W):sR W:=by
 rw[ald _ _ _ (by rfl)]at h;have av:=h.tail.tail;have dN:(aP.globals[0]?).map (·.type)=some 302:=by kernel_rfl
 refine Zm (tabIs_of_head (rest:=_) (by kernel_rfl) dN (n:=20) (e:=267) (by kernel_rfl) (by kernel_rfl) (by kernel_rfl) (by kernel_rfl) av)
theorem door_met(os:Os)(args:Array Value):laidMetH aP laidL ((World.doorLaid aP 62 os).forCall (fun _ _=>0) ⟨#[],args,[]⟩).memory:=laidMetH_of_parts3 (fuel:=8) (laidMet_of_run' 8 (by kernel_rfl) (by kernel_rfl)) (by kernel_rfl) (by kernel_rfl)
set_option maxRecDepth 100000 in
theorem fnCompile_lifted(os:Os)(started:os.Started)(H:Type)(enc:gx×Value->H):
  ReturnsInHanded {} Tryz.checked os 6 .any (fun w args=>(qj.pre enc aP jK [] false w args/\laidMetH aP laidL w)/\sizedMet enc aP jK (OpenSpec.ofChange qj) false w args) (qj.post enc aP jK false true false false):=by
 refine returnsInHanded_of_change_and (C:=Tryz.checked) (X:=fun w _=>laidMetH aP laidL w) (fun _ _ _ bK h=>h.of_heap bK) afh started (by kernel_rfl) Tryz.func6
  (alb (enc:=enc) (C:=Tryz.checked) (os:=os) (X:=fun w _=>laidMetH aP laidL w) false (World.doorLaid aP 62 os) #[.slice none 0 0] 8 rfl (World.shaped_of_RefB (by kernel_rfl) (by kernel_rfl)) (by kernel_rfl) (by kernel_rfl) (by kernel_rfl) (door_met os _)) ?_
 intro W base args dP gs before abr PE _ _ mM _;have aO:=gl_laid mM;have mr:∀(j:Nat) t v,jK.params[j]? =some t->args[j]? =some v->Value.okWide aP W .any base t v:=abr;have PF:=PE;obtain⟨p,q,rK,Es,rfl,aaq,ai4⟩:=PE;have bg:DataW.TrodAll enc aP W 0 (fun _=>true) true jK.params.toList args.toList dP p:=rK;rw[Tryz.params6]at bg mr;obtain⟨v0,d0,rfl,rfl,bD⟩:=trodAll_one bg;obtain⟨rfl,rfl⟩:=trodVars_none Es;have ZC:=bD;obtain⟨a0,len,cap,rfl⟩:=okWide_slice Tryz.underlying35 (mr 0 35 v0 rfl rfl);obtain⟨fuel,aM⟩:=bD;have b7:∀x∈p,x.block<W.heap.size:=fun x ad=>by simpa using PF.lt x (by simpa using ad)
 have Iq:Calls aP 6 #[.slice a0 len cap] W fun e w'=>e= .returned (.bool true)/\Below W.heap.size W w':=by
  rcases open_ints Tryz.underlying35 Tryz.underlying5 VB aM with⟨cT,ad⟩|⟨a,ajR,w8,cd,cT,_,aE,hm,cn,ad,mh,xT⟩
  ·simp[l1]at cT;obtain⟨rfl,rfl,rfl⟩:=cT;exact fnCompile_nil W aO
  ·simp[l1]at cT;obtain⟨rfl,rfl,rfl⟩:=cT;simp only[if_true]at cn;exact fnCompile_any W a len cap cd aE hm cn mh xT aO
 refine Iq.mono fun e ag1 ⟨he,PK⟩=>?_;subst he;refine⟨_,rfl,_,_,_,[],p,[],PF,?_,?_,rfl,PK.frame _,fun h=>by cases h⟩
 ·exact trodAll_mk1 (shut_bool Tryz.underlying4 true)
 ·exact trodAll_mk1 (Below.trod afg (by kernel_rfl) (of_decide_eq_true (by kernel_rfl)) ZC PK b7)
theorem fnCompile_row:Rows.FnCompileSaid:=
 ale 6 jK rfl rfl rfl rfl rfl rfl rfl ⟨rfl,rfl,rfl,rfl,rfl⟩ rfl rfl rfl rfl rfl (by as_aux_lemma=>kernel_rfl) Tryz.func6 Wd
  (of_decide_eq_true (by kernel_rfl)) (by unfold Func.isWrapper;first|(rw[bN (by decide+kernel)];kernel_rfl)|(rw[bf (by decide+kernel)];exact⟨rfl,rfl⟩))
  (fun os started H enc _=>fnCompile_lifted os started H enc)
theorem fnCompile_holds:Rows.FnCompileCardSaid:=
 Claim7.holds_tied_plain_at .later [] [.data,.data,.data] true Rows.fnCompileCard.stood.harness true
  fnCompile_row (fun _ h=>by cases h) Vu (fun _ h=>by cases h) fnCompile_row_tie rfl ⟨rfl,rfl⟩ Vs rfl
  (fun f fn aM sU=>by
   obtain rfl:f=6:=dZ (Vp.symm.trans aM)|>.symm;obtain rfl:fn=jK:=(dZ (Tryz.func6.symm.trans sU)).symm;exact⟨Vr,fun j t aI=>by
    rw[Tryz.params6]at aI;have hm:t∈[35]:=by simpa using Array.mem_of_getElem? aI
    exact(show aP.wantsStandIn t=false by simpa using gC.1 Vt t hm)⟩)
  Vq
#print axioms fnCompile_holds
end
end Go.Proofs.YtlnndmgfngfeiaaGreatDoor
