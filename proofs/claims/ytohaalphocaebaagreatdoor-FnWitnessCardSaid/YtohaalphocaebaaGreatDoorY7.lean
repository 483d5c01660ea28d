/- FnWitness returns true for every input, and the input reads behind the call as it did before: the tied card. Condition: three tables of the library hold what the program's own text lays in them (the card ties them to that text). -/
import Derived.Test.YtohaalphocaebaaGreatDoorRows
import Derived.Test.YtohaalphocaebaaGreatDoorTie
import Derived.Test.YtohaalphocaebaaGreatDoorCards
import Derived.LaidMore
import Derived.SevenTiedAt
import Derived.Test.YtohaalphocaebaaGreatDoorY6
set_option linter.all false
set_option maxHeartbeats 4000000
set_option maxRecDepth 4000
open Go renaming TypeId->gP
open Go.ChangeSpec renaming witness_shaped->arY
open Go.OpenClaim renaming holds_of_wide->ar2
open Go.Proofs.Tryz renaming prog->az
open Go.Value renaming cells->pe
open List renaming all_eq_true->fM,getElem?_eq_some_iff->fb
open Option renaming map_eq_some_iff->gk
open Option.some renaming inj->eJ
namespace Go.Proofs.YtohaalphocaebaaGreatDoor
section
open Go Go.Pv Go.ChangeShapes Go.WideShapes Go.ChangeAt Go.RowKit
theorem fnWitness_long(a:Option Addr)(len cap:Nat)(h:1048576<len)(hm:len<=9223372036854775807)(w:World):Calls az 3 #[.slice a len cap] w fun e w'=>e= .returned (.bool true)/\w'=w:=by go_enter Tryz.func3,Tryz.ntmps3;go_wp2;go_ret;exact⟨rfl,rfl⟩
set_option maxRecDepth 100000 in
theorem fnWitness_any(W:World)(a:Addr)(len cap:Nat)(cN:List Int)(av:len<=cap)(hm:cap<=maxLen)(bf:cN.length=cap)(mM:∀i,i<cN.length->W.cell? (a.add i)=some (.int .u8 (cN.getD i 0)))(Ld:∀n∈cN,(Lit.int .u8 n).wf=true):
  Calls az 3 #[.slice (some a) len cap] W fun e w'=>e= .returned (.bool true)/\Below W.heap.size W w':=by
 by_cases CJ:1048576<len
 ·refine(fnWitness_long (some a) len cap CJ (by unfold maxLen at hm;omega) W).mono ?_;rintro e w' ⟨rfl,rfl⟩;exact⟨rfl,Below.refl _ _⟩
 ·have hlen:(cN.take len).length=len:=by simp;omega
  have aN:uH (cN.take len):=fun x ae=>anr (Ld x (List.mem_of_mem_take ae));have jA:=X1 (cN.take len) aN;rcases Nat.eq_zero_or_pos len with rfl|fA
  ·refine Jt (Z:=zO 0 0 0) Tryz.func3 (enters_of Tryz.func3 ci rfl) jA (fun _ _ _ h=>h) (fun b o h=>by simp[zO]at h) (fun _=>rfl) (fun _=>rfl) ?_;simp only[cX,bd];refine⟨_,_,rfl,⟨⟨some a,cap,by simp[iQ],by simp[iQ],⟨hm,by simp[iQ,lim]⟩,.inl (by simp[iQ])⟩,fun e=>(by cases e),fun g e=>(by cases e),fun _ _ e=>(by cases e),fun _ e=>(by cases e)⟩,rfl⟩
  ·obtain⟨B2,IX,spot⟩:=a;have afQ:spot=none:=by simpa[Addr.add]using World.cell?_spot (mM 0 Ω)
   subst afQ;have qd:B2<W.heap.size:=by
    have:=mM 0 Ω;rcases Nat.lt_or_ge B2 W.heap.size with h|h
    ·exact h
    ·simp[World.cell?,Addr.add,Array.getElem?_eq_none h]at this
   refine Jt (Z:=zO B2 IX len) Tryz.func3 (enters_of Tryz.func3 ci rfl) jA (fun _ _ _ h=>h) (fun b o h=>by simp[zO]at h;omega) (fun _=>rfl) (fun _=>rfl) ?_;simp only[cX,bd];refine⟨_,_,rfl,⟨⟨some ⟨B2,IX,none⟩,cap,by simp[hlen],by simp[hlen];omega,⟨hm,by simp[hlen,lim];omega⟩,.inr ⟨B2,IX,(cN.take len).map (Value.int .u8),rfl,?_,Pc _ _ _⟩⟩,fun e=>(by cases e),fun g e=>(by cases e),fun _ _ e=>(by cases e),fun _ e=>(by cases e)⟩,rfl⟩;refine AP _ _ _ _ _ fun i u hu=>?_;simp only[List.getElem?_map,gk]at hu;obtain⟨x,ae,rfl⟩:=hu;have hi:i<len:=by have:=(fb.1 ae).1;omega
   refine⟨⟨rfl,Ω,Ω⟩,?_⟩;have:=mM i Ω;rw[Addr.add_lit]at this;rw[this];congr 2;rw[List.getElem?_take,if_pos hi]at ae;simp[List.getD,ae]
theorem fnWitness_nil(W:World):Calls az 3 #[.slice none 0 0] W fun e w'=>e= .returned (.bool true)/\Below W.heap.size W w':=by refine Jt (Z:=zO 0 0 0) Tryz.func3 (enters_of Tryz.func3 ci rfl) (X1 [] (by simp[uH])) (fun _ _ _ h=>h) (fun b o h=>by simp[zO]at h) (fun _=>rfl) (fun _=>rfl) ?_;simp only[cX,bd];exact⟨_,_,rfl,⟨⟨none,0,by simp[iQ],by simp[iQ],⟨by simp[maxLen],by simp[iQ,lim]⟩,.inl (by simp[iQ])⟩,fun e=>(by cases e),fun g e=>(by cases e),fun _ _ e=>(by cases e),fun _ e=>(by cases e)⟩,rfl⟩
def laidL{H:Type}:List (String×DataW H):=[("math/bits.deBruijn32tab",Rows.laid_math_bits_deBruijn32tab),("math/bits.deBruijn64tab",Rows.laid_math_bits_deBruijn64tab),("internal/strconv.uint64pow10",Rows.laid_internal_strconv_uint64pow10)]
theorem door_met(os:Os)(args:Array Value):laidMetH az laidL ((World.doorLaid az 24 os).forCall (fun _ _=>0) ⟨#[],args,[]⟩).memory:=laidMetH_of_parts3 (fuel:=8) (laidMet_of_run' 8 ci ci) ci ci
set_option maxRecDepth 100000 in
theorem fnWitness_lifted(os:Os)(started:os.Started)(H:Type)(enc:gP×Value->H):
  ReturnsInHanded {} Tryz.checked os 3 .any (fun w args=>(Rows.fnWitnessSpec.pre enc az Tryz.f3 [] false w args/\laidMetH az laidL w)/\sizedMet enc az Tryz.f3 (OpenSpec.ofChange Rows.fnWitnessSpec) false w args) (Rows.fnWitnessSpec.post enc az Tryz.f3 false true false false):=by
 refine returnsInHanded_of_change_and (C:=Tryz.checked) (X:=fun w _=>laidMetH az laidL w) (fun _ _ _ cu h=>h.of_heap cu) ak3 started ci Tryz.func3
  (arY (enc:=enc) (C:=Tryz.checked) (os:=os) (X:=fun w _=>laidMetH az laidL w) false (World.doorLaid az 24 os) #[.slice none 0 0] 8 rfl (World.shaped_of_RefB ci ci) ci ci ci (door_met os _)) ?_
 intro W base args eP gs before afX x7 _ _ _ _;have nH:∀(j:Nat) t v,Tryz.f3.params[j]? =some t->args[j]? =some v->Value.okWide az W .any base t v:=afX;have SR:=x7;obtain⟨p,q,r1,jA,rfl,api,CZ⟩:=x7;have bg:DataW.TrodAll enc az W 0 (fun _=>true) true Tryz.f3.params.toList args.toList eP p:=r1;rw[Tryz.params3]at bg nH;obtain⟨v0,d0,rfl,rfl,bE⟩:=trodAll_one bg;obtain⟨rfl,rfl⟩:=trodVars_none jA;have aeg:=bE;obtain⟨a0,len,cap,rfl⟩:=okWide_slice Tryz.underlying22 (nH 0 22 v0 rfl rfl);obtain⟨fuel,aR⟩:=bE;have bs:∀x∈p,x.block<W.heap.size:=fun x ae=>by simpa using SR.lt x (by simpa using ae)
 have aeB:Calls az 3 #[.slice a0 len cap] W fun e w'=>e= .returned (.bool true)/\Below W.heap.size W w':=by
  rcases open_ints Tryz.underlying22 Tryz.underlying5 ZO aR with⟨di,ae⟩|⟨a,aqj,Cf,cN,di,_,av,hm,bf,ae,mM,Ld⟩
  ·simp[pe]at di;obtain⟨rfl,rfl,rfl⟩:=di;exact fnWitness_nil W
  ·simp[pe]at di;obtain⟨rfl,rfl,rfl⟩:=di;simp only[if_true]at bf;exact fnWitness_any W a len cap cN av hm bf mM Ld
 refine aeB.mono fun e anJ ⟨he,CI⟩=>?_;subst he;refine⟨_,rfl,_,_,_,[],p,[],SR,?_,?_,rfl,CI.frame _,fun h=>by cases h⟩
 ·exact trodAll_mk1 (shut_bool Tryz.underlying4 true)
 ·exact trodAll_mk1 (Below.trod ak2 ci (of_decide_eq_true ci) aeg CI bs)
theorem fnWitness_row:Rows.FnWitnessSaid:=
 ar2 3 Tryz.f3 rfl rfl rfl rfl rfl rfl rfl ⟨rfl,rfl,rfl,rfl,rfl⟩ rfl rfl rfl rfl rfl ci Tryz.func3 ci
  (of_decide_eq_true ci) (by unfold Func.isWrapper;first|(rw[if_pos (by decide+kernel)];kernel_rfl)|(rw[if_neg (by decide+kernel)];exact⟨rfl,rfl⟩))
  (fun os started H enc _=>fnWitness_lifted os started H enc)
theorem fnWitness_holds:Rows.FnWitnessCardSaid:=
 Claim7.holds_tied_plain_at .later [] [.data,.data,.data] true Rows.fnWitnessCard.stood.harness false
  fnWitness_row (fun _ h=>by cases h) ci (fun _ h=>by cases h) fnWitness_row_tie rfl ⟨rfl,rfl⟩ ci rfl
  (fun f fn aR pL=>by
   obtain rfl:f=3:=eJ ((show az.funcNamed Rows.fnWitnessRow.func=some 3 by kernel_rfl).symm.trans aR)|>.symm;obtain rfl:fn=Tryz.f3:=(eJ (Tryz.func3.symm.trans pL)).symm;exact⟨by kernel_rfl,fun j t aM=>by
    rw[Tryz.params3]at aM;have hm:t∈[22]:=by simpa using Array.mem_of_getElem? aM
    have k3:([22].all fun u=> !az.wantsStandIn u)=true:=by kernel_rfl
    exact(show az.wantsStandIn t=false by simpa using fM.1 k3 t hm)⟩)
  ci
#print axioms fnWitness_holds
end
end Go.Proofs.YtohaalphocaebaaGreatDoor
