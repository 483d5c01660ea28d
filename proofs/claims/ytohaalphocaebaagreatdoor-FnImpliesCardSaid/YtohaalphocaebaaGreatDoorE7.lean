/- FnImplies returns true for every input, and the input reads behind the call as it did before: the tied card. Condition: three tables of the library hold what the program's own text lays in them (the card ties them to that text). -/
import Derived.Test.YtohaalphocaebaaGreatDoorRows
import Derived.Test.YtohaalphocaebaaGreatDoorTie
import Derived.Test.YtohaalphocaebaaGreatDoorCards
import Derived.LaidMore
import Derived.SevenTiedAt
import Derived.Test.YtohaalphocaebaaGreatDoorE6
set_option linter.all false
set_option maxHeartbeats 4000000
set_option maxRecDepth 4000
open Go renaming TypeId->hl
open Go.ChangeSpec renaming witness_shaped->av1
open Go.OpenClaim renaming holds_of_wide->av5
open Go.Proofs.Tryz renaming prog->aA
open Go.Value renaming cells->p5
open List renaming all_eq_true->fi,getElem?_eq_some_iff->fG
open Option renaming map_eq_some_iff->gB
open Option.some renaming inj->eV
namespace Go.Proofs.YtohaalphocaebaaGreatDoor
section
open Go Go.Pv Go.ChangeShapes Go.WideShapes Go.ChangeAt Go.RowKit
theorem fnImplies_long(a:Option Addr)(len cap:Nat)(h:1048576<len)(hm:len<=9223372036854775807)(w:World):Calls aA 5 #[.slice a len cap] w fun e w'=>e= .returned (.bool true)/\w'=w:=by go_enter Tryz.func5,Tryz.ntmps5;go_wp2;go_ret;exact⟨rfl,rfl⟩
set_option maxRecDepth 100000 in
theorem fnImplies_any(W:World)(a:Addr)(len cap:Nat)(cS:List Int)(aw:len<=cap)(hm:cap<=maxLen)(a8:cS.length=cap)(nz:∀i,i<cS.length->W.cell? (a.add i)=some (.int .u8 (cS.getD i 0)))(Nt:∀n∈cS,(Lit.int .u8 n).wf=true):
  Calls aA 5 #[.slice (some a) len cap] W fun e w'=>e= .returned (.bool true)/\Below W.heap.size W w':=by
 by_cases DT:1048576<len
 ·refine(fnImplies_long (some a) len cap DT (by unfold maxLen at hm;omega) W).mono ?_;rintro e w' ⟨rfl,rfl⟩;exact⟨rfl,Below.refl _ _⟩
 ·have hlen:(cS.take len).length=len:=by simp;omega
  have aD:sv (cS.take len):=fun x ab=>aru (Nt x (List.mem_of_mem_take ab));have gX:=abl (cS.take len) aD;rcases Nat.eq_zero_or_pos len with rfl|fW
  ·refine Lr (Z:=AR 0 0 0) Tryz.func5 (enters_of Tryz.func5 ci rfl) gX (fun _ _ _ h=>h) (fun b o h=>by simp[AR]at h) (fun _=>rfl) (fun _=>rfl) ?_;simp only[cZ,be];refine⟨_,_,rfl,⟨⟨some a,cap,by simp[iv],by simp[iv],⟨hm,by simp[iv,lim]⟩,.inl (by simp[iv])⟩,fun e=>(by cases e),fun g e=>(by cases e),fun _ _ e=>(by cases e),fun _ e=>(by cases e)⟩,rfl⟩
  ·obtain⟨tT,KR,spot⟩:=a;have ajB:spot=none:=by simpa[Addr.add]using World.cell?_spot (nz 0 Ω)
   subst ajB;have qZ:tT<W.heap.size:=by
    have:=nz 0 Ω;rcases Nat.lt_or_ge tT W.heap.size with h|h
    ·exact h
    ·simp[World.cell?,Addr.add,Array.getElem?_eq_none h]at this
   refine Lr (Z:=AR tT KR len) Tryz.func5 (enters_of Tryz.func5 ci rfl) gX (fun _ _ _ h=>h) (fun b o h=>by simp[AR]at h;omega) (fun _=>rfl) (fun _=>rfl) ?_;simp only[cZ,be];refine⟨_,_,rfl,⟨⟨some ⟨tT,KR,none⟩,cap,by simp[hlen],by simp[hlen];omega,⟨hm,by simp[hlen,lim];omega⟩,.inr ⟨tT,KR,(cS.take len).map (Value.int .u8),rfl,?_,RS _ _ _⟩⟩,fun e=>(by cases e),fun g e=>(by cases e),fun _ _ e=>(by cases e),fun _ e=>(by cases e)⟩,rfl⟩;refine BN _ _ _ _ _ fun i u hu=>?_;simp only[List.getElem?_map,gB]at hu;obtain⟨x,ab,rfl⟩:=hu;have hi:i<len:=by have:=(fG.1 ab).1;omega
   refine⟨⟨rfl,Ω,Ω⟩,?_⟩;have:=nz i Ω;rw[Addr.add_lit]at this;rw[this];congr 2;rw[List.getElem?_take,if_pos hi]at ab;simp[List.getD,ab]
theorem fnImplies_nil(W:World):Calls aA 5 #[.slice none 0 0] W fun e w'=>e= .returned (.bool true)/\Below W.heap.size W w':=by refine Lr (Z:=AR 0 0 0) Tryz.func5 (enters_of Tryz.func5 ci rfl) (abl [] (by simp[sv])) (fun _ _ _ h=>h) (fun b o h=>by simp[AR]at h) (fun _=>rfl) (fun _=>rfl) ?_;simp only[cZ,be];exact⟨_,_,rfl,⟨⟨none,0,by simp[iv],by simp[iv],⟨by simp[maxLen],by simp[iv,lim]⟩,.inl (by simp[iv])⟩,fun e=>(by cases e),fun g e=>(by cases e),fun _ _ e=>(by cases e),fun _ e=>(by cases e)⟩,rfl⟩
def laidL{H:Type}:List (String×DataW H):=[("math/bits.deBruijn32tab",Rows.laid_math_bits_deBruijn32tab),("math/bits.deBruijn64tab",Rows.laid_math_bits_deBruijn64tab),("internal/strconv.uint64pow10",Rows.laid_internal_strconv_uint64pow10)]
theorem door_met(os:Os)(args:Array Value):laidMetH aA laidL ((World.doorLaid aA 24 os).forCall (fun _ _=>0) ⟨#[],args,[]⟩).memory:=laidMetH_of_parts3 (fuel:=8) (laidMet_of_run' 8 ci ci) ci ci
set_option maxRecDepth 100000 in
theorem fnImplies_lifted(os:Os)(started:os.Started)(H:Type)(enc:hl×Value->H):
  ReturnsInHanded {} Tryz.checked os 5 .any (fun w args=>(Rows.fnImpliesSpec.pre enc aA Tryz.f5 [] false w args/\laidMetH aA laidL w)/\sizedMet enc aA Tryz.f5 (OpenSpec.ofChange Rows.fnImpliesSpec) false w args) (Rows.fnImpliesSpec.post enc aA Tryz.f5 false true false false):=by
 refine returnsInHanded_of_change_and (C:=Tryz.checked) (X:=fun w _=>laidMetH aA laidL w) (fun _ _ _ cA h=>h.of_heap cA) ao4 started ci Tryz.func5
  (av1 (enc:=enc) (C:=Tryz.checked) (os:=os) (X:=fun w _=>laidMetH aA laidL w) false (World.doorLaid aA 24 os) #[.slice none 0 0] 8 rfl (World.shaped_of_RefB ci ci) ci ci ci (door_met os _)) ?_
 intro W base args e4 gs before ajI yT _ _ _ _;have oj:∀(j:Nat) t v,Tryz.f5.params[j]? =some t->args[j]? =some v->Value.okWide aA W .any base t v:=ajI;have VN:=yT;obtain⟨p,q,sJ,gX,rfl,atl,D8⟩:=yT;have bm:DataW.TrodAll enc aA W 0 (fun _=>true) true Tryz.f5.params.toList args.toList e4 p:=sJ;rw[Tryz.params5]at bm oj;obtain⟨v0,d0,rfl,rfl,bB⟩:=trodAll_one bm;obtain⟨rfl,rfl⟩:=trodVars_none gX;have ahS:=bB;obtain⟨a0,len,cap,rfl⟩:=okWide_slice Tryz.underlying22 (oj 0 22 v0 rfl rfl);obtain⟨fuel,aO⟩:=bB;have bD:∀x∈p,x.block<W.heap.size:=fun x ab=>by simpa using VN.lt x (by simpa using ab)
 have aii:Calls aA 5 #[.slice a0 len cap] W fun e w'=>e= .returned (.bool true)/\Below W.heap.size W w':=by
  rcases open_ints Tryz.underlying22 Tryz.underlying5 adm aO with⟨dj,ab⟩|⟨a,auo,Dk,cS,dj,_,aw,hm,a8,ab,nz,Nt⟩
  ·simp[p5]at dj;obtain⟨rfl,rfl,rfl⟩:=dj;exact fnImplies_nil W
  ·simp[p5]at dj;obtain⟨rfl,rfl,rfl⟩:=dj;simp only[if_true]at a8;exact fnImplies_any W a len cap cS aw hm a8 nz Nt
 refine aii.mono fun e arJ ⟨he,DS⟩=>?_;subst he;refine⟨_,rfl,_,_,_,[],p,[],VN,?_,?_,rfl,DS.frame _,fun h=>by cases h⟩
 ·exact trodAll_mk1 (shut_bool Tryz.underlying4 true)
 ·exact trodAll_mk1 (Below.trod ao3 ci (of_decide_eq_true ci) ahS DS bD)
theorem fnImplies_row:Rows.FnImpliesSaid:=
 av5 5 Tryz.f5 rfl rfl rfl rfl rfl rfl rfl ⟨rfl,rfl,rfl,rfl,rfl⟩ rfl rfl rfl rfl rfl ci Tryz.func5 ci
  (of_decide_eq_true ci) (by unfold Func.isWrapper;first|(rw[if_pos (by decide+kernel)];kernel_rfl)|(rw[if_neg (by decide+kernel)];exact⟨rfl,rfl⟩))
  (fun os started H enc _=>fnImplies_lifted os started H enc)
theorem fnImplies_holds:Rows.FnImpliesCardSaid:=
 Claim7.holds_tied_plain_at .later [] [.data,.data,.data] true Rows.fnImpliesCard.stood.harness false
  fnImplies_row (fun _ h=>by cases h) ci (fun _ h=>by cases h) fnImplies_row_tie rfl ⟨rfl,rfl⟩ ci rfl
  (fun f fn aO qs=>by
   obtain rfl:f=5:=eV ((show aA.funcNamed Rows.fnImpliesRow.func=some 5 by kernel_rfl).symm.trans aO)|>.symm;obtain rfl:fn=Tryz.f5:=(eV (Tryz.func5.symm.trans qs)).symm;exact⟨by kernel_rfl,fun j t aC=>by
    rw[Tryz.params5]at aC;have hm:t∈[22]:=by simpa using Array.mem_of_getElem? aC
    have lI:([22].all fun u=> !aA.wantsStandIn u)=true:=by kernel_rfl
    exact(show aA.wantsStandIn t=false by simpa using fi.1 lI t hm)⟩)
  ci
#print axioms fnImplies_holds
end
end Go.Proofs.YtohaalphocaebaaGreatDoor
