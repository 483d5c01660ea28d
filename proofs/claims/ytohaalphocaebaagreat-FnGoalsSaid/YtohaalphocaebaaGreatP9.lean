/- FnGoals returns true for every input, and the input reads behind the call as it did before. No conditions. -/
import Derived.Test.YtohaalphocaebaaGreatRows
import Derived.Test.YtohaalphocaebaaGreatP8
set_option linter.all false
set_option maxHeartbeats 4000000
set_option maxRecDepth 4000
open Go renaming TypeId->gG
open Go.ChangeSpec renaming witness6->arC
open Go.OpenClaim renaming holds_of_wide->arG
open Go.Proofs.Tryz renaming f9->kL,prog->ay
open Go.Proofs.YtohaalphocaebaaGreat.Rows renaming fnGoalsRow->jR,fnGoalsSpec->sA
open Go.Value renaming cells->oV
open List renaming getElem?_eq_some_iff->fp
open Option renaming map_eq_some_iff->gr
namespace Go.Proofs.YtohaalphocaebaaGreat
section
open Go Go.Pv Go.ChangeShapes Go.WideShapes Go.ChangeAt Go.RowKit
theorem fnGoals_long(a:Option Addr)(len cap:Nat)(h:1048576<len)(hm:len<=9223372036854775807)(w:World):Calls ay 9 #[.slice a len cap] w fun e w'=>e= .returned (.bool true)/\w'=w:=by go_enter Tryz.func9,Tryz.ntmps9;go_wp2;go_ret;exact⟨rfl,rfl⟩
set_option maxRecDepth 100000 in
theorem fnGoals_any(W:World)(a:Addr)(len cap:Nat)(cH:List Int)(au:len<=cap)(hm:cap<=maxLen)(bk:cH.length=cap)(mB:∀i,i<cH.length->W.cell? (a.add i)=some (.int .u8 (cH.getD i 0)))(Kz:∀n∈cH,(Lit.int .u8 n).wf=true):
  Calls ay 9 #[.slice (some a) len cap] W fun e w'=>e= .returned (.bool true)/\Below W.heap.size W w':=by
 by_cases Ca:1048576<len
 ·refine(fnGoals_long (some a) len cap Ca (by unfold maxLen at hm;omega) W).mono ?_;rintro e w' ⟨rfl,rfl⟩;exact⟨rfl,Below.refl _ _⟩
 ·have hlen:(cH.take len).length=len:=by simp;omega
  have aG:sL (cH.take len):=fun x ae=>am9 (Kz x (List.mem_of_mem_take ae));have gx:=Xn (cH.take len) aG;rcases Nat.eq_zero_or_pos len with rfl|fB
  ·refine IL (Z:=zb 0 0 0) Tryz.func9 (enters_of Tryz.func9 co rfl) gx (fun _ _ _ h=>h) (fun b o h=>by simp[zb]at h) (fun _=>rfl) (fun _=>rfl) ?_;simp only[cR,bd];refine⟨_,_,rfl,⟨⟨some a,cap,by simp[hZ],by simp[hZ],⟨hm,by simp[hZ,lim]⟩,.inl (by simp[hZ])⟩,fun e=>(by cases e),fun g e=>(by cases e),fun _ _ e=>(by cases e),fun _ e=>(by cases e)⟩,rfl⟩
  ·obtain⟨Bo,Ih,spot⟩:=a;have afI:spot=none:=by simpa[Addr.add]using World.cell?_spot (mB 0 Ω)
   subst afI;have p0:Bo<W.heap.size:=by
    have:=mB 0 Ω;rcases Nat.lt_or_ge Bo W.heap.size with h|h
    ·exact h
    ·simp[World.cell?,Addr.add,Array.getElem?_eq_none h]at this
   refine IL (Z:=zb Bo Ih len) Tryz.func9 (enters_of Tryz.func9 co rfl) gx (fun _ _ _ h=>h) (fun b o h=>by simp[zb]at h;omega) (fun _=>rfl) (fun _=>rfl) ?_;simp only[cR,bd];refine⟨_,_,rfl,⟨⟨some ⟨Bo,Ih,none⟩,cap,by simp[hlen],by simp[hlen];omega,⟨hm,by simp[hlen,lim];omega⟩,.inr ⟨Bo,Ih,(cH.take len).map (Value.int .u8),rfl,?_,Ow _ _ _⟩⟩,fun e=>(by cases e),fun g e=>(by cases e),fun _ _ e=>(by cases e),fun _ e=>(by cases e)⟩,rfl⟩;refine zZ _ _ _ _ _ fun i u hu=>?_;simp only[List.getElem?_map,gr]at hu;obtain⟨x,ae,rfl⟩:=hu;have hi:i<len:=by have:=(fp.1 ae).1;omega
   refine⟨⟨rfl,Ω,Ω⟩,?_⟩;have:=mB i Ω;rw[Addr.add_lit]at this;rw[this];congr 2;rw[List.getElem?_take,if_pos hi]at ae;simp[List.getD,ae]
theorem fnGoals_nil(W:World):Calls ay 9 #[.slice none 0 0] W fun e w'=>e= .returned (.bool true)/\Below W.heap.size W w':=by refine IL (Z:=zb 0 0 0) Tryz.func9 (enters_of Tryz.func9 co rfl) (Xn [] (by simp[sL])) (fun _ _ _ h=>h) (fun b o h=>by simp[zb]at h) (fun _=>rfl) (fun _=>rfl) ?_;simp only[cR,bd];exact⟨_,_,rfl,⟨⟨none,0,by simp[hZ],by simp[hZ],⟨by simp[maxLen],by simp[hZ,lim]⟩,.inl (by simp[hZ])⟩,fun e=>(by cases e),fun g e=>(by cases e),fun _ _ e=>(by cases e),fun _ e=>(by cases e)⟩,rfl⟩
set_option maxRecDepth 100000 in
theorem fnGoals_lifted(os:Os)(started:os.Started)(H:Type)(enc:gG×Value->H):
  ReturnsInHanded {} Tryz.checked os 9 .any (sA.pre6 enc ay kL jR.domain false) (sA.post enc ay kL false true false false):=by
 refine returnsInHanded_of_change (C:=Tryz.checked) akO started co Tryz.func9
  (arC (enc:=enc) (C:=Tryz.checked) false ⟨#[],#[.slice none 0 0],[]⟩ 8 co co co co) ?_
 intro W base args eJ gs before afQ B5 aoW _;have nl:∀(j:Nat) t v,kL.params[j]? =some t->args[j]? =some v->Value.okWide ay W .any base t v:=afQ;have Sb:=B5;obtain⟨p,q,rF,gx,rfl,ao0,Cr⟩:=B5;have bj:DataW.TrodAll enc ay W 0 (fun _=>true) true kL.params.toList args.toList eJ p:=rF;rw[Tryz.params9]at bj nl;obtain⟨v0,d0,rfl,rfl,bA⟩:=trodAll_one bj;obtain⟨rfl,rfl⟩:=trodVars_none gx;have aea:=bA;obtain⟨a0,len,cap,rfl⟩:=okWide_slice Tryz.underlying22 (nl 0 22 v0 rfl rfl);obtain⟨fuel,aO⟩:=bA;have bt:∀x∈p,x.block<W.heap.size:=fun x ae=>by simpa using Sb.lt x (by simpa using ae)
 have aeA:Calls ay 9 #[.slice a0 len cap] W fun e w'=>e= .returned (.bool true)/\Below W.heap.size W w':=by
  rcases open_ints Tryz.underlying22 Tryz.underlying5 Y3 aO with⟨dg,ae⟩|⟨a,apY,BB,cH,dg,_,au,hm,bk,ae,mB,Kz⟩
  ·simp[oV]at dg;obtain⟨rfl,rfl,rfl⟩:=dg;exact fnGoals_nil W
  ·simp[oV]at dg;obtain⟨rfl,rfl,rfl⟩:=dg;simp only[if_true]at bk;exact fnGoals_any W a len cap cH au hm bk mB Kz
 refine aeA.mono fun e ano ⟨he,B9⟩=>?_;subst he;refine⟨_,rfl,_,_,_,[],p,[],Sb,?_,?_,rfl,B9.frame _,fun h=>by cases h⟩
 ·exact trodAll_mk1 (shut_bool Tryz.underlying4 true)
 ·exact trodAll_mk1 (Below.trod akN co (of_decide_eq_true co) aea B9 bt)
theorem fnGoals_holds:Rows.FnGoalsSaid:=
 arG 9 kL rfl rfl rfl rfl rfl rfl rfl ⟨rfl,rfl,rfl,rfl,rfl⟩ rfl rfl rfl rfl rfl (by as_aux_lemma=>kernel_rfl) Tryz.func9 ZC
  (of_decide_eq_true co) (by unfold Func.isWrapper;first|(rw[if_pos (by decide+kernel)];kernel_rfl)|(rw[if_neg (by decide+kernel)];exact⟨rfl,rfl⟩))
  (fun os started H enc _=>fnGoals_lifted os started H enc)
#print axioms fnGoals_holds
end
end Go.Proofs.YtohaalphocaebaaGreat
