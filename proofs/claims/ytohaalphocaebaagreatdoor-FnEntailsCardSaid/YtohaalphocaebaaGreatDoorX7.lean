/- FnEntails returns true for every input, and the input reads behind the call as it did before: the tied card. Condition: three tables of the library hold what the program's own text lays in them (the card ties them to that text). -/
import Derived.Test.YtohaalphocaebaaGreatDoorRows
import Derived.Test.YtohaalphocaebaaGreatDoorTie
import Derived.Test.YtohaalphocaebaaGreatDoorCards
import Derived.LaidMore
import Derived.SevenTiedAt
import Derived.Test.YtohaalphocaebaaGreatDoorX6
set_option linter.all false
set_option maxHeartbeats 4000000
set_option maxRecDepth 4000
open Go renaming TypeId->hh
open Go.ChangeSpec renaming witness_shaped->avq
open Go.OpenClaim renaming holds_of_wide->avu
open Go.Proofs.Tryz renaming prog->aw
open Go.Value renaming cells->pX
open List renaming all_eq_true->fV,getElem?_eq_some_iff->fD
open Option renaming map_eq_some_iff->gv
open Option.some renaming inj->eZ
namespace Go.Proofs.YtohaalphocaebaaGreatDoor
section
open Go Go.Pv Go.ChangeShapes Go.WideShapes Go.ChangeAt Go.RowKit
theorem fnEntails_long(a:Option Addr)(len cap:Nat)(h:1048576<len)(hm:len<=9223372036854775807)(w:World):Calls aw 4 #[.slice a len cap] w fun e w'=>e= .returned (.bool true)/\w'=w:=by go_enter Tryz.func4,Tryz.ntmps4;go_wp2;go_ret;exact⟨rfl,rfl⟩
set_option maxRecDepth 100000 in
theorem fnEntails_any(W:World)(a:Addr)(len cap:Nat)(cS:List Int)(av:len<=cap)(hm:cap<=maxLen)(bd:cS.length=cap)(nB:∀i,i<cS.length->W.cell? (a.add i)=some (.int .u8 (cS.getD i 0)))(M5:∀n∈cS,(Lit.int .u8 n).wf=true):
  Calls aw 4 #[.slice (some a) len cap] W fun e w'=>e= .returned (.bool true)/\Below W.heap.size W w':=by
 by_cases DG:1048576<len
 ·refine(fnEntails_long (some a) len cap DG (by unfold maxLen at hm;omega) W).mono ?_;rintro e w' ⟨rfl,rfl⟩;exact⟨rfl,Below.refl _ _⟩
 ·have hlen:(cS.take len).length=len:=by simp;omega
  have aG:sk (cS.take len):=fun x ab=>aqS (M5 x (List.mem_of_mem_take ab));have gS:=aaR (cS.take len) aG;rcases Nat.eq_zero_or_pos len with rfl|fR
  ·refine Lc (Z:=AM 0 0 0) Tryz.func4 (enters_of Tryz.func4 co rfl) gS (fun _ _ _ h=>h) (fun b o h=>by simp[AM]at h) (fun _=>rfl) (fun _=>rfl) ?_;simp only[cX,a8];refine⟨_,_,rfl,⟨⟨some a,cap,by simp[ic],by simp[ic],⟨hm,by simp[ic,lim]⟩,.inl (by simp[ic])⟩,fun e=>(by cases e),fun g e=>(by cases e),fun _ _ e=>(by cases e),fun _ e=>(by cases e)⟩,rfl⟩
  ·obtain⟨CX,Ky,spot⟩:=a;have ai2:spot=none:=by simpa[Addr.add]using World.cell?_spot (nB 0 Ω)
   subst ai2;have qM:CX<W.heap.size:=by
    have:=nB 0 Ω;rcases Nat.lt_or_ge CX W.heap.size with h|h
    ·exact h
    ·simp[World.cell?,Addr.add,Array.getElem?_eq_none h]at this
   refine Lc (Z:=AM CX Ky len) Tryz.func4 (enters_of Tryz.func4 co rfl) gS (fun _ _ _ h=>h) (fun b o h=>by simp[AM]at h;omega) (fun _=>rfl) (fun _=>rfl) ?_;simp only[cX,a8];refine⟨_,_,rfl,⟨⟨some ⟨CX,Ky,none⟩,cap,by simp[hlen],by simp[hlen];omega,⟨hm,by simp[hlen,lim];omega⟩,.inr ⟨CX,Ky,(cS.take len).map (Value.int .u8),rfl,?_,Rr _ _ _⟩⟩,fun e=>(by cases e),fun g e=>(by cases e),fun _ _ e=>(by cases e),fun _ e=>(by cases e)⟩,rfl⟩;refine BH _ _ _ _ _ fun i u hu=>?_;simp only[List.getElem?_map,gv]at hu;obtain⟨x,ab,rfl⟩:=hu;have hi:i<len:=by have:=(fD.1 ab).1;omega
   refine⟨⟨rfl,Ω,Ω⟩,?_⟩;have:=nB i Ω;rw[Addr.add_lit]at this;rw[this];congr 2;rw[List.getElem?_take,if_pos hi]at ab;simp[List.getD,ab]
theorem fnEntails_nil(W:World):Calls aw 4 #[.slice none 0 0] W fun e w'=>e= .returned (.bool true)/\Below W.heap.size W w':=by refine Lc (Z:=AM 0 0 0) Tryz.func4 (enters_of Tryz.func4 co rfl) (aaR [] (by simp[sk])) (fun _ _ _ h=>h) (fun b o h=>by simp[AM]at h) (fun _=>rfl) (fun _=>rfl) ?_;simp only[cX,a8];exact⟨_,_,rfl,⟨⟨none,0,by simp[ic],by simp[ic],⟨by simp[maxLen],by simp[ic,lim]⟩,.inl (by simp[ic])⟩,fun e=>(by cases e),fun g e=>(by cases e),fun _ _ e=>(by cases e),fun _ e=>(by cases e)⟩,rfl⟩
def laidL{H:Type}:List (String×DataW H):=[("math/bits.deBruijn32tab",Rows.laid_math_bits_deBruijn32tab),("math/bits.deBruijn64tab",Rows.laid_math_bits_deBruijn64tab),("internal/strconv.uint64pow10",Rows.laid_internal_strconv_uint64pow10)]
theorem door_met(os:Os)(args:Array Value):laidMetH aw laidL ((World.doorLaid aw 24 os).forCall (fun _ _=>0) ⟨#[],args,[]⟩).memory:=laidMetH_of_parts3 (fuel:=8) (laidMet_of_run' 8 co co) co co
set_option maxRecDepth 100000 in
theorem fnEntails_lifted(os:Os)(started:os.Started)(H:Type)(enc:hh×Value->H):
  ReturnsInHanded {} Tryz.checked os 4 .any (fun w args=>(Rows.fnEntailsSpec.pre enc aw Tryz.f4 [] false w args/\laidMetH aw laidL w)/\sizedMet enc aw Tryz.f4 (OpenSpec.ofChange Rows.fnEntailsSpec) false w args) (Rows.fnEntailsSpec.post enc aw Tryz.f4 false true false false):=by
 refine returnsInHanded_of_change_and (C:=Tryz.checked) (X:=fun w _=>laidMetH aw laidL w) (fun _ _ _ cE h=>h.of_heap cE) aoq started co Tryz.func4
  (avq (enc:=enc) (C:=Tryz.checked) (os:=os) (X:=fun w _=>laidMetH aw laidL w) false (World.doorLaid aw 24 os) #[.slice none 0 0] 8 rfl (World.shaped_of_RefB co co) co co co (door_met os _)) ?_
 intro W base args e2 gs before ai9 yP _ _ _ _;have oi:∀(j:Nat) t v,Tryz.f4.params[j]? =some t->args[j]? =some v->Value.okWide aw W .any base t v:=ai9;have Vo:=yP;obtain⟨p,q,sB,gS,rfl,asK,DW⟩:=yP;have be:DataW.TrodAll enc aw W 0 (fun _=>true) true Tryz.f4.params.toList args.toList e2 p:=sB;rw[Tryz.params4]at be oi;obtain⟨v0,d0,rfl,rfl,bz⟩:=trodAll_one be;obtain⟨rfl,rfl⟩:=trodVars_none gS;have ahn:=bz;obtain⟨a0,len,cap,rfl⟩:=okWide_slice Tryz.underlying22 (oi 0 22 v0 rfl rfl);obtain⟨fuel,aN⟩:=bz;have bs:∀x∈p,x.block<W.heap.size:=fun x ab=>by simpa using Vo.lt x (by simpa using ab)
 have ahJ:Calls aw 4 #[.slice a0 len cap] W fun e w'=>e= .returned (.bool true)/\Below W.heap.size W w':=by
  rcases open_ints Tryz.underlying22 Tryz.underlying5 acU aN with⟨dj,ab⟩|⟨a,atK,Da,cS,dj,_,av,hm,bd,ab,nB,M5⟩
  ·simp[pX]at dj;obtain⟨rfl,rfl,rfl⟩:=dj;exact fnEntails_nil W
  ·simp[pX]at dj;obtain⟨rfl,rfl,rfl⟩:=dj;simp only[if_true]at bd;exact fnEntails_any W a len cap cS av hm bd nB M5
 refine ahJ.mono fun e aq7 ⟨he,DF⟩=>?_;subst he;refine⟨_,rfl,_,_,_,[],p,[],Vo,?_,?_,rfl,DF.frame _,fun h=>by cases h⟩
 ·exact trodAll_mk1 (shut_bool Tryz.underlying4 true)
 ·exact trodAll_mk1 (Below.trod aop co (of_decide_eq_true co) ahn DF bs)
theorem fnEntails_row:Rows.FnEntailsSaid:=
 avu 4 Tryz.f4 rfl rfl rfl rfl rfl rfl rfl ⟨rfl,rfl,rfl,rfl,rfl⟩ rfl rfl rfl rfl rfl co Tryz.func4 co
  (of_decide_eq_true co) (by unfold Func.isWrapper;first|(rw[if_pos (by decide+kernel)];kernel_rfl)|(rw[if_neg (by decide+kernel)];exact⟨rfl,rfl⟩))
  (fun os started H enc _=>fnEntails_lifted os started H enc)
theorem fnEntails_holds:Rows.FnEntailsCardSaid:=
 Claim7.holds_tied_plain_at .later [] [.data,.data,.data] true Rows.fnEntailsCard.stood.harness false
  fnEntails_row (fun _ h=>by cases h) co (fun _ h=>by cases h) fnEntails_row_tie rfl ⟨rfl,rfl⟩ co rfl
  (fun f fn aN qg=>by
   obtain rfl:f=4:=eZ ((show aw.funcNamed Rows.fnEntailsRow.func=some 4 by kernel_rfl).symm.trans aN)|>.symm;obtain rfl:fn=Tryz.f4:=(eZ (Tryz.func4.symm.trans qg)).symm;exact⟨by kernel_rfl,fun j t aI=>by
    rw[Tryz.params4]at aI;have hm:t∈[22]:=by simpa using Array.mem_of_getElem? aI
    have lE:([22].all fun u=> !aw.wantsStandIn u)=true:=by kernel_rfl
    exact(show aw.wantsStandIn t=false by simpa using fV.1 lE t hm)⟩)
  co
#print axioms fnEntails_holds
end
end Go.Proofs.YtohaalphocaebaaGreatDoor
