/- FnSolutions returns true for every input, and the input reads behind the call as it did before. No conditions. -/
import Derived.Test.YtohaalphocaebaaGreatRows
import Derived.Test.YtohaalphocaebaaGreatE8
set_option linter.all false
set_option maxHeartbeats 4000000
set_option maxRecDepth 4000
open Go renaming TypeId->ha
open Go.ChangeSpec renaming witness6->avf
open Go.OpenClaim renaming holds_of_wide->avj
open Go.Proofs.Tryz renaming f6->k7,prog->ax
open Go.Proofs.YtohaalphocaebaaGreat.Rows renaming fnSolutionsRow->ka,fnSolutionsSpec->tA
open Go.Value renaming cells->pS
open List renaming getElem?_eq_some_iff->eS,getElem?_map->q5
open Option renaming map_eq_some_iff->gm
namespace Go.Proofs.YtohaalphocaebaaGreat
section
open Go Go.Pv Go.ChangeShapes Go.WideShapes Go.ChangeAt Go.RowKit
theorem fnSolutions_long(a:Option Addr)(len cap:Nat)(h:1048576<len)(hm:len<=9223372036854775807)(w:World):Calls ax 6 #[.slice a len cap] w fun e w'=>e= .returned (.bool true)/\w'=w:=by go_enter Tryz.func6,Tryz.ntmps6;go_wp2;go_ret;exact⟨rfl,rfl⟩
set_option maxRecDepth 100000 in
theorem fnSolutions_any(W:World)(a:Addr)(len cap:Nat)(cX:List Int)(av:len<=cap)(hm:cap<=maxLen)(ba:cX.length=cap)(nj:∀i,i<cX.length->W.cell? (a.add i)=some (.int .u8 (cX.getD i 0)))(Mx:∀n∈cX,(Lit.int .u8 n).wf=true):
  Calls ax 6 #[.slice (some a) len cap] W fun e w'=>e= .returned (.bool true)/\Below W.heap.size W w':=by
 by_cases Df:1048576<len
 ·refine(fnSolutions_long (some a) len cap Df (by unfold maxLen at hm;omega) W).mono ?_;rintro e w' ⟨rfl,rfl⟩;exact⟨rfl,Below.refl _ _⟩
 ·have hlen:(cX.take len).length=len:=by simp;omega
  have aF:rh (cX.take len):=fun x ad=>aqO (Mx x (List.mem_of_mem_take ad));have gN:=aac (cX.take len) aF;rcases Nat.eq_zero_or_pos len with rfl|eW
  ·refine Kz (Z:=Ah 0 0 0) Tryz.func6 (enters_of Tryz.func6 (by kernel_rfl) rfl) gN (fun _ _ _ h=>h) (fun b o h=>by simp[Ah]at h) (fun _=>rfl) (fun _=>rfl) ?_;simp only[cT,bc];refine⟨_,_,rfl,⟨⟨some a,cap,by simp[hP],by simp[hP],⟨hm,by simp[hP,lim]⟩,.inl (by simp[hP])⟩,fun e=>(by cases e),fun g e=>(by cases e),fun _ _ e=>(by cases e),fun _ e=>(by cases e)⟩,rfl⟩
  ·obtain⟨Cw,JZ,spot⟩:=a;have aiZ:spot=none:=by simpa[Addr.add]using World.cell?_spot (nj 0 Ω)
   subst aiZ;have qI:Cw<W.heap.size:=by
    have:=nj 0 Ω;rcases Nat.lt_or_ge Cw W.heap.size with h|h
    ·exact h
    ·simp[World.cell?,Addr.add,Array.getElem?_eq_none h]at this
   refine Kz (Z:=Ah Cw JZ len) Tryz.func6 (enters_of Tryz.func6 (by kernel_rfl) rfl) gN (fun _ _ _ h=>h) (fun b o h=>by simp[Ah]at h;omega) (fun _=>rfl) (fun _=>rfl) ?_;simp only[cT,bc];refine⟨_,_,rfl,⟨⟨some ⟨Cw,JZ,none⟩,cap,by simp[hlen],by simp[hlen];omega,⟨hm,by simp[hlen,lim];omega⟩,.inr ⟨Cw,JZ,(cX.take len).map (Value.int .u8),rfl,?_,QP _ _ _⟩⟩,fun e=>(by cases e),fun g e=>(by cases e),fun _ _ e=>(by cases e),fun _ e=>(by cases e)⟩,rfl⟩;refine Bd _ _ _ _ _ fun i u hu=>?_;simp only[q5,gm]at hu;obtain⟨x,ad,rfl⟩:=hu;have hi:i<len:=by have:=(eS.1 ad).1;omega
   refine⟨⟨rfl,Ω,Ω⟩,?_⟩;have:=nj i Ω;rw[Addr.add_lit]at this;rw[this];congr 2;rw[List.getElem?_take,if_pos hi]at ad;simp[List.getD,ad]
theorem fnSolutions_nil(W:World):Calls ax 6 #[.slice none 0 0] W fun e w'=>e= .returned (.bool true)/\Below W.heap.size W w':=by refine Kz (Z:=Ah 0 0 0) Tryz.func6 (enters_of Tryz.func6 (by kernel_rfl) rfl) (aac [] (by simp[rh])) (fun _ _ _ h=>h) (fun b o h=>by simp[Ah]at h) (fun _=>rfl) (fun _=>rfl) ?_;simp only[cT,bc];exact⟨_,_,rfl,⟨⟨none,0,by simp[hP],by simp[hP],⟨by simp[maxLen],by simp[hP,lim]⟩,.inl (by simp[hP])⟩,fun e=>(by cases e),fun g e=>(by cases e),fun _ _ e=>(by cases e),fun _ e=>(by cases e)⟩,rfl⟩
set_option maxRecDepth 100000 in
theorem fnSolutions_lifted(os:Os)(started:os.Started)(H:Type)(enc:ha×Value->H):
  ReturnsInHanded {} Tryz.checked os 6 .any (tA.pre6 enc ax k7 ka.domain false) (tA.post enc ax k7 false true false false):=by
 refine returnsInHanded_of_change (C:=Tryz.checked) aow started (by kernel_rfl) Tryz.func6
  (avf (enc:=enc) (C:=Tryz.checked) false ⟨#[],#[.slice none 0 0],[]⟩ 8 (by kernel_rfl) (by kernel_rfl) (by kernel_rfl) (by kernel_rfl)) ?_
 intro W base args eU gs before ai8 C9 asG _;have nV:∀(j:Nat) t v,k7.params[j]? =some t->args[j]? =some v->Value.okWide ax W .any base t v:=ai8;have UD:=C9;obtain⟨p,q,sv,gN,rfl,asK,Dv⟩:=C9;have bg:DataW.TrodAll enc ax W 0 (fun _=>true) true k7.params.toList args.toList eU p:=sv;rw[Tryz.params6]at bg nV;obtain⟨v0,d0,rfl,rfl,bE⟩:=trodAll_one bg;obtain⟨rfl,rfl⟩:=trodVars_none gN;have ahl:=bE;obtain⟨a0,len,cap,rfl⟩:=okWide_slice Tryz.underlying22 (nV 0 22 v0 rfl rfl);obtain⟨fuel,aQ⟩:=bE;have bz:∀x∈p,x.block<W.heap.size:=fun x ad=>by simpa using UD.lt x (by simpa using ad)
 have ahH:Calls ax 6 #[.slice a0 len cap] W fun e w'=>e= .returned (.bool true)/\Below W.heap.size W w':=by
  rcases open_ints Tryz.underlying22 Tryz.underlying5 acf aQ with⟨dn,ad⟩|⟨a,atD,CJ,cX,dn,_,av,hm,ba,ad,nj,Mx⟩
  ·simp[pS]at dn;obtain⟨rfl,rfl,rfl⟩:=dn;exact fnSolutions_nil W
  ·simp[pS]at dn;obtain⟨rfl,rfl,rfl⟩:=dn;simp only[if_true]at ba;exact fnSolutions_any W a len cap cX av hm ba nj Mx
 refine ahH.mono fun e aq3 ⟨he,De⟩=>?_;subst he;refine⟨_,rfl,_,_,_,[],p,[],UD,?_,?_,rfl,De.frame _,fun h=>by cases h⟩
 ·exact trodAll_mk1 (shut_bool Tryz.underlying4 true)
 ·exact trodAll_mk1 (Below.trod aov (by kernel_rfl) (of_decide_eq_true (by kernel_rfl)) ahl De bz)
theorem fnSolutions_holds:Rows.FnSolutionsSaid:=
 avj 6 k7 rfl rfl rfl rfl rfl rfl rfl ⟨rfl,rfl,rfl,rfl,rfl⟩ rfl rfl rfl rfl rfl (by as_aux_lemma=>kernel_rfl) Tryz.func6 acQ
  (of_decide_eq_true (by kernel_rfl)) (by unfold Func.isWrapper;first|(rw[if_pos (by decide+kernel)];kernel_rfl)|(rw[if_neg (by decide+kernel)];exact⟨rfl,rfl⟩))
  (fun os started H enc _=>fnSolutions_lifted os started H enc)
#print axioms fnSolutions_holds
end
end Go.Proofs.YtohaalphocaebaaGreat
