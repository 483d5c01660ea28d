/- FnCompose returns true for every input, and the input reads behind the call as it did before: the tied card. Condition: variables of the library hold what the program's own text lays in them (the card ties them to that text). -/
import Derived.Test.YtlnndmgfngfeiaaGreatDoorRows
import Derived.Test.YtlnndmgfngfeiaaGreatDoorTie
import Derived.Test.YtlnndmgfngfeiaaGreatDoorCards
import Derived.LaidMore
import Derived.SevenTiedAt
import Derived.MakeChecks
import Derived.Test.YtlnndmgfngfeiaaGreatDoorX6
set_option linter.all false
set_option maxHeartbeats 4000000
set_option maxRecDepth 4000
open Go renaming TypeId->eb
open Go.ChangeSpec renaming witness_shaped->S9
open Go.MakeChecks renaming laidMetH_plain->Tc
open Go.OpenClaim renaming holds_of_wide->Td
open Go.Proofs.Tryz renaming f4->gr,prog->aI
open Go.Proofs.YtlnndmgfngfeiaaGreatDoor.Rows renaming fnComposeSpec->ks
open Go.Value renaming cells->h3,int->kt
open List renaming all_eq_true->ld,getElem?_eq_some_iff->fG
open Option renaming map_eq_some_iff->hv
open Option.some renaming inj->p3
open _root_ renaming Option->aW,if_neg->bT,if_pos->cX
namespace Go.Proofs.YtlnndmgfngfeiaaGreatDoor
section
open Go Go.Pv Go.Lib Go.ChangeShapes Go.WideShapes Go.ChangeAt Go.RowKit
theorem fnCompose_long(a:aW Addr)(len cap:Nat)(h:1048576<len)(hm:len<=9223372036854775807)(w:World):Calls aI 4 #[.slice a len cap] w fun e w'=>e= .returned (.bool true)/\w'=w:=by go_enter Tryz.func4,Tryz.ntmps4;go_wp2;go_ret;exact⟨rfl,rfl⟩
set_option maxRecDepth 100000 in
theorem fnCompose_any(W:World)(a:Addr)(len cap:Nat)(eT:List Int)(ar:len<=cap)(hm:cap<=maxLen)(ed:eT.length=cap)(hD:∀i,i<eT.length->W.cell? (a.add i)=some (.int .u8 (eT.getD i 0)))(yv:∀n∈eT,(Lit.int .u8 n).wf=true)(aG:ml W):
  Calls aI 4 #[.slice (some a) len cap] W fun e w'=>e= .returned (.bool true)/\Below W.heap.size W w':=by
 by_cases C7:1048576<len
 ·refine(fnCompose_long (some a) len cap C7 (by unfold maxLen at hm;omega) W).mono ?_;rintro e w' ⟨rfl,rfl⟩;exact⟨rfl,Below.refl _ _⟩
 ·have hlen:(eT.take len).length=len:=by simp;omega
  have aY:lp (eT.take len):=fun x ad=>PX (yv x (List.mem_of_mem_take ad));have uy:=Gk (eT.take len) aY;rcases Nat.eq_zero_or_pos len with rfl|gO
  ·refine wU (ν:=r5 0 0 0) Tryz.func4 (enters_of Tryz.func4 (by kernel_rfl) rfl) (xc aG _ _ _) uy (fun _ _ _ h=>h) (xd aG (.inl rfl)) (fun _=>rfl) (fun _=>rfl) ?_;simp only[bG,aw];refine⟨_,_,rfl,⟨⟨some a,cap,by simp[fc],by simp[fc],⟨hm,by simp[fc,bF]⟩,.inl (by simp[fc])⟩,fun e=>(by cases e),fun g e=>(by cases e),fun _ _ e=>(by cases e),fun _ e=>(by cases e)⟩,rfl⟩
  ·obtain⟨rP,wF,spot⟩:=a;have Mk:spot=none:=by simpa[Addr.add]using World.cell?_spot (hD 0 Ω)
   subst Mk;have hU:rP<W.heap.size:=by
    have:=hD 0 Ω;rcases Nat.lt_or_ge rP W.heap.size with h|h
    ·exact h
    ·simp[World.cell?,Addr.add,Array.getElem?_eq_none h]at this
   refine wU (ν:=r5 rP wF len) Tryz.func4 (enters_of Tryz.func4 (by kernel_rfl) rfl) (xc aG _ _ _) uy (fun _ _ _ h=>h) (xd aG (.inr hU)) (fun _=>rfl) (fun _=>rfl) ?_;simp only[bG,aw];refine⟨_,_,rfl,⟨⟨some ⟨rP,wF,none⟩,cap,by simp[hlen],by simp[hlen];omega,⟨hm,by simp[hlen,bF];omega⟩,.inr ⟨rP,wF,(eT.take len).map (kt .u8),rfl,?_,A1 _ _ _⟩⟩,fun e=>(by cases e),fun g e=>(by cases e),fun _ _ e=>(by cases e),fun _ e=>(by cases e)⟩,rfl⟩;refine pw _ _ _ _ _ fun i u hu=>?_;simp only[List.getElem?_map,hv]at hu;obtain⟨x,ad,rfl⟩:=hu;have aM:i<len:=by have:=(fG.1 ad).1;omega
   refine⟨.inl ⟨rfl,Ω,Ω⟩,?_⟩;have:=hD i Ω;rw[Addr.add_lit]at this;rw[this];congr 2;rw[List.getElem?_take,cX aM]at ad;simp[List.getD,ad]
theorem fnCompose_nil(W:World)(aG:ml W):Calls aI 4 #[.slice none 0 0] W fun e w'=>e= .returned (.bool true)/\Below W.heap.size W w':=by refine wU (ν:=r5 0 0 0) Tryz.func4 (enters_of Tryz.func4 (by kernel_rfl) rfl) (xc aG _ _ _) (Gk [] (by simp[lp])) (fun _ _ _ h=>h) (xd aG (.inl rfl)) (fun _=>rfl) (fun _=>rfl) ?_;simp only[bG,aw];exact⟨_,_,rfl,⟨⟨none,0,by simp[fc],by simp[fc],⟨by simp[maxLen],by simp[fc,bF]⟩,.inl (by simp[fc])⟩,fun e=>(by cases e),fun g e=>(by cases e),fun _ _ e=>(by cases e),fun _ e=>(by cases e)⟩,rfl⟩
def laidL{H:Type}:List (String×DataW H):=[("math/bits.deBruijn32tab",Rows.laid_math_bits_deBruijn32tab),("math/bits.deBruijn64tab",Rows.laid_math_bits_deBruijn64tab),("internal/strconv.uint64pow10",Rows.laid_internal_strconv_uint64pow10),("strconv.ErrRange",Rows.laid_strconv_ErrRange),("strconv.ErrSyntax",Rows.laid_strconv_ErrSyntax)]
theorem gl_laid{W:World}(h:laidMetH aI laidL W):ml W:=by
 rw[Tc _ _ _ (by rfl)]at h;have aj:=h.tail.tail;have aO:=aj.tail;have CS:(aI.globals[1]?).map (·.type)=some 108:=by kernel_rfl
 have CU:(aI.globals[2]?).map (·.type)=some 108:=by kernel_rfl
 have g0:(aI.globals[0]?).map (·.type)=some 302:=by kernel_rfl
 refine KR (tabIs_of_head (rest:=_) (by kernel_rfl) g0 (n:=20) (e:=267) (by kernel_rfl) (by kernel_rfl) (by kernel_rfl) (by kernel_rfl) aj) (Ef aO.tail (by kernel_rfl) CS Tryz.underlying108) (Ef aO (by kernel_rfl) CU Tryz.underlying108)
theorem door_met(os:Os)(args:Array Value):laidMetH aI laidL ((World.doorLaid aI 62 os).forCall (fun _ _=>0) ⟨#[],args,[]⟩).memory:=laidMetH_of_parts3 (fuel:=8) (laidMet_of_run' 8 (by kernel_rfl) (by kernel_rfl)) (by kernel_rfl) (by kernel_rfl)
set_option maxRecDepth 100000 in
theorem fnCompose_lifted(os:Os)(started:os.Started)(H:Type)(enc:eb×Value->H):
  ReturnsInHanded {} Tryz.checked os 4 .any (fun w args=>(ks.pre enc aI gr [] false w args/\laidMetH aI laidL w)/\sizedMet enc aI gr (OpenSpec.ofChange ks) false w args) (ks.post enc aI gr false true false false):=by
 refine returnsInHanded_of_change_and (C:=Tryz.checked) (X:=fun w _=>laidMetH aI laidL w) (fun _ _ _ bP h=>h.of_heap bP) O6 started (by kernel_rfl) Tryz.func4
  (S9 (enc:=enc) (C:=Tryz.checked) (os:=os) (X:=fun w _=>laidMetH aI laidL w) false (World.doorLaid aI 62 os) #[.slice none 0 0] 8 rfl (World.shaped_of_RefB (by kernel_rfl) (by kernel_rfl)) (by kernel_rfl) (by kernel_rfl) (by kernel_rfl) (door_met os _)) ?_
 intro W base args cx gs before Ms C1 _ _ o3 _;have aG:=gl_laid o3;have ie:∀(j:Nat) t v,gr.params[j]? =some t->args[j]? =some v->Value.okWide aI W .any base t v:=Ms;have C2:=C1;obtain⟨p,q,lv,uy,rfl,Lu,Dt⟩:=C1;have aQ:DataW.TrodAll enc aI W 0 (fun _=>true) true gr.params.toList args.toList cx p:=lv;rw[Tryz.params4]at aQ ie;obtain⟨v0,d0,rfl,rfl,ck⟩:=trodAll_one aQ;obtain⟨rfl,rfl⟩:=trodVars_none uy;have KT:=ck;obtain⟨a0,len,cap,rfl⟩:=okWide_slice Tryz.underlying35 (ie 0 35 v0 rfl rfl);obtain⟨fuel,aF⟩:=ck;have bS:∀x∈p,x.block<W.heap.size:=fun x ad=>by simpa using C2.lt x (by simpa using ad)
 have Lb:Calls aI 4 #[.slice a0 len cap] W fun e w'=>e= .returned (.bool true)/\Below W.heap.size W w':=by
  rcases open_ints Tryz.underlying35 Tryz.underlying5 HH aF with⟨b0,ad⟩|⟨a,RX,nU,eT,b0,_,ar,hm,ed,ad,hD,yv⟩
  ·simp[h3]at b0;obtain⟨rfl,rfl,rfl⟩:=b0;exact fnCompose_nil W aG
  ·simp[h3]at b0;obtain⟨rfl,rfl,rfl⟩:=b0;simp only[if_true]at ed;exact fnCompose_any W a len cap eT ar hm ed hD yv aG
 refine Lb.mono fun e P8 ⟨he,C6⟩=>?_;subst he;refine⟨_,rfl,_,_,_,[],p,[],C2,?_,?_,rfl,C6.frame _,fun h=>by cases h⟩
 ·exact trodAll_mk1 (shut_bool Tryz.underlying4 true)
 ·exact trodAll_mk1 (Below.trod O5 (by kernel_rfl) (of_decide_eq_true (by kernel_rfl)) KT C6 bS)
theorem fnCompose_row:Rows.FnComposeSaid:=
 Td 4 gr rfl rfl rfl rfl rfl rfl rfl ⟨rfl,rfl,rfl,rfl,rfl⟩ rfl rfl rfl rfl rfl (by as_aux_lemma=>kernel_rfl) Tryz.func4 Ii
  (of_decide_eq_true (by kernel_rfl)) (by unfold Func.isWrapper;first|(rw[cX (by decide+kernel)];kernel_rfl)|(rw[bT (by decide+kernel)];exact⟨rfl,rfl⟩))
  (fun os started H enc _=>fnCompose_lifted os started H enc)
theorem fnCompose_holds:Rows.FnComposeCardSaid:=
 Claim7.holds_tied_plain_at .later [] [.data,.data,.data,.sentinel,.sentinel] true Rows.fnComposeCard.stood.harness true
  fnCompose_row (fun _ h=>by cases h) HG (fun _ h=>by cases h) fnCompose_row_tie rfl ⟨rfl,rfl⟩ HE rfl
  (fun f fn aF o8=>by
   obtain rfl:f=4:=p3 (HB.symm.trans aF)|>.symm;obtain rfl:fn=gr:=(p3 (Tryz.func4.symm.trans o8)).symm;exact⟨HD,fun j t az=>by
    rw[Tryz.params4]at az;have hm:t∈[35]:=by simpa using Array.mem_of_getElem? az
    exact(show aI.wantsStandIn t=false by simpa using ld.1 HF t hm)⟩)
  HC
#print axioms fnCompose_holds
end
end Go.Proofs.YtlnndmgfngfeiaaGreatDoor
