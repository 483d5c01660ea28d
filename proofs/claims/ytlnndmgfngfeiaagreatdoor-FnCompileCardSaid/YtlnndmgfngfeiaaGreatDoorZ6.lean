/- made by mk2.py: the code of the functions, and the checks against the program's own form. -/
import Derived.Shelf.Strings.Builder1
import Derived.Shelf.Strconv.Itoa3
import Derived.Shelf.Strconv.AtoiAll
import Derived.Ground.NamesProg
import Derived.Test.YtlnndmgfngfeiaaGreatDoorProg
import Derived.ProofKit
import Derived.WalkKit
import Derived.Lib.ItoaLen
import Derived.Test.YtlnndmgfngfeiaaGreatDoorZ5
set_option linter.all false
set_option maxHeartbeats 4000000
set_option maxRecDepth 4000
open Bool renaming and_eq_true->bB,false_eq_true->iR,true_and->mD
open Go renaming Program->bW
open Go.Extern.AbiNoEscape renaming same->alc
open Go.IntKind renaming i64->iF
open Go.IntWalk renaming i64_in->lx
open Go.Lib renaming itoa->b8
open Go.Proofs.Tryz renaming prog->aP
open Go.Value renaming cells->l1,int->mE
open List renaming all_eq_true->gC,append_assoc->l2,cons_append->iT,getElem?_append_left->mF,getElem?_append_right->rb,getElem?_eq_getElem->bO,getElem?_eq_some_iff->cX,getElem?_map->oG,length_append->dF,length_cons->e3,length_map->qk,length_nil->nj,length_pos_iff->re,map_cons->eQ,mem_append->iG,mem_append_left->rf,mem_cons->gH,mem_map->pv,mem_of_getElem?->eR,take_add_one->jw,take_length->jl,take_of_length_le->pw,take_succ_cons->pz
open Nat renaming le_refl->da,lt_or_ge->hS,zero_add->nk
open Option renaming isSome_iff_exists->fv,map_eq_some_iff->hT
open Option.some renaming inj->dZ,injEq->dL
open Prod.mk renaming injEq->gp
open UInt8 renaming ofNat->pA
open _root_ renaming False->dK,Option->be,UInt8->aF,beq_eq_false_iff_ne->jL,beq_iff_eq->dO,congrArg->fT,decide_eq_false->ly,decide_eq_true->k2,decide_eq_true_eq->ef,if_neg->bf,if_pos->bN
namespace Go.Pv
open Go Go.RowKit
theorem YL(w:World)(a:Addr)(n:Nat):(w.freeze a n).os=w.os/\(w.freeze a n).tape=w.tape/\(w.freeze a n).output=w.output/\(w.freeze a n).heap.size=w.heap.size/\∀j,j≠a.block->(w.freeze a n).heap[j]? =w.heap[j]?:=by
 unfold World.freeze;split
 ·exact⟨rfl,rfl,rfl,rfl,fun _ _=>rfl⟩
 ·exact⟨rfl,rfl,rfl,Ψ,fun j al=>by simp only[Array.getElem?_modify];rw[bf (Ne.symm al)]⟩
theorem ct.dropRow{C:eH}{st:bb}{a:Act}{w w':World}{ν:aT}(h:ct C st a w ν){g:aJ}{o:dw}(aO:look g st.e=some o){xs:List ag}(ad:o.xs=some xs){n:Nat}{v:Value}(aS:ν.ow g=some (n,v)){bl:Nat}(er:v.ownBlock=some bl)
  (vT:w'.os=w.os) (B2:w'.tape=w.tape) (BP:w'.output=w.output) (ka:∀j,j≠bl->w'.heap[j]? =w.heap[j]?) (ev:w'.heap.size=w.heap.size):ct C {st with e:=bu [(g,o)] st.e} a w' ν:=by
 obtain⟨v0,us,b9,cx,dp,c6⟩:=h.good.own g o aO;rw[aS]at b9;simp only[dL,gp]at b9;obtain⟨wv,rfl⟩:=b9;obtain⟨_,_,E0⟩:=c6 xs ad;have bg:∀b o,ν.A b o->b≠bl:=fun b o bg e=>E0 bl er o (e▸bg);have aj:lA w ν w' ν:=⟨fun b o tY=>⟨tY,World.cell?_of_block (ka b (bg b o tY))⟩,fun _ _ _ h=>h,fun g n u _ aO=>⟨n,u,aO,.inl ⟨rfl,rfl⟩⟩,fun b o tY=>yp (ka b (bg b o tY)),fun _ _ _ _ h=>h⟩;have aE:∀k p,look k (bu [(g,o)] st.e)=some p->k≠g/\look k st.e=some p:=by
  intro k p aa;rw[te]at aa;by_cases e:g=k
  ·subst e;simp[look]at aa
  ·simp[look,e]at aa;exact⟨Ne.symm e,aa⟩
 have zu:∀k,(look k (bu [(g,o)] st.e)).isSome->k≠g/\(look k st.e).isSome:=by intro k aa;obtain⟨p,bq⟩:=fv.1 aa;exact⟨(aE k p bq).1,by simp[(aE k p bq).2]⟩
 refine h.over aj rfl ⟨fun b o af=>by rw[ev];exact h.good.alt b o af,fun k cs aa=>?_,h.good.inj,fun k p aa=>?_,fun k bz n n' u e7 b I J=>h.good.oinj k bz n n' u e7 b (zu k I).2 (zu bz J).2,fun k j n u b I J=>h.good.obx k j n u b (zu k I).2 J,h.good.one,fun b af=>h.good.otr b (af.imp id fun⟨k,n,u,I,J⟩=>⟨k,n,u,(zu k I).2,J⟩)⟩
  ⟨vT.trans h.fr.os,B2.trans h.fr.tape,BP.trans h.fr.output,by rw[ev];exact h.fr.size,fun k aa hm=>?_,fun b o tY=>?_,h.fr.fresh,h.fr.obj,h.fr.obn,h.fr.row,h.fr.obr,h.fr.trd,fun k j b af=>⟨(h.fr.trb k j b af).1,by rw[ev];exact(h.fr.trb k j b af).2⟩,h.fr.trn,fun b o tY=>(aj.sh b o (h.fr.keep b o tY).1).trans (h.fr.sh b o tY),h.fr.nrow⟩ h.new
 ·obtain⟨b,bF,el,g1,g2,g3,g4,g5⟩:=h.good.box k cs aa;refine⟨b,bF,el,g1,g2,g3,?_,pe aj g5⟩;rw[ka b fun e=>h.good.obx g k n v b (by simp[aO]) (by simp[aa]) aS (by rw[e];exact er) g1];exact g4
 ·obtain⟨cE,gz⟩:=aE k p aa;obtain⟨u,bF,aq,aU,bR,ds⟩:=h.good.own k p gz;refine⟨u,bF,aq,⟨aU.1,?_⟩,bR,qY aj (fun _ _ _ h=>h) ds⟩;rcases aU.2 with aU|⟨hD,cap,cur,f1,f2,f3,f4⟩
  ·exact .inl aU
  ·refine .inr ⟨hD,cap,cur,f1,f2,?_,f4⟩;rw[ka hD fun e=>cE (h.good.oinj k g _ _ _ _ bl (by simp[gz]) (by simp[aO]) aq aS (by rw[f1,<-e];rfl) er)];exact f3
 ·have bq:=(dp bl er).1;rw[ka k fun e=>by subst e;exact bq.elim hm (fun J=>Ω)];exact h.fr.block k aa hm
 ·obtain⟨dh,ed⟩:=h.fr.keep b o tY;exact⟨dh,(aj.A b o dh).2.trans ed⟩
theorem Th{w:World}{ν:aT}:∀{l:List aF} {us:List Value},cI w ν 1 (fK l) us->us=Lib.byteCells l
 |[],us,h=>by simpa[fK,cI,Lib.byteCells]using h
 |x::xs,us,h=>by simp only[fK,eQ,cI]at h;obtain⟨u,bF,rfl,⟨I,_,_⟩,J⟩:=h;simp only[aR]at I;subst I;have:=Th (l:=xs) J;rw[this];simp[Lib.byteCells,l1]
end Go.Pv
namespace Go.Proofs
open Go.Shelf Go.RowKit
variable {P:bW} {hz:Ren}
set_option maxRecDepth 100000 in
theorem Any.Builder_String_ex(L:Lays.n169 P hz)(X:Builder.Extra P hz)(b:Nat)(l:List aF)(w:World)(bD:l≠[])(p:Value)(g cap:Nat)(cur:Array Value)(ub:w.heap[b]? =some (.cells #[p,.slice (some ⟨g,0,none⟩) l.length cap] (hz.t 72) (0,0)))
  (kc:w.ownsRow 0 (hz.t 5) 1 (.slice (some ⟨g,0,none⟩) l.length cap) l.length (Lib.byteCells l)) (aO:w.heap[g]? =some (.cells cur (hz.t 5) (0,0))) (rN:l.length<=cap) (zp:cap<=maxLen) (EB:cur.size=cap*1):
  Calls P (hz.f 169) #[.pointer (some ⟨b,0,none⟩)] w fun e w'=>e= .returned (.string ⟨l.toArray⟩)/\w'=w.drew.freeze ⟨g,0,none⟩ l.length:=by
 have vM:l.length≠0:=by simpa using bD
 have cJ:w.drew.cell? ⟨b,1,none⟩=some (.slice (some ⟨g,0,none⟩) l.length cap):=by have:w.drew.heap[b]? =some (.cells #[p,.slice (some ⟨g,0,none⟩) l.length cap] (hz.t 72) (0,0)):=ub;rw[Lib.cell_of_heap this];rfl
 have aiD:(Builtin.unsafeSliceData_ #[(hz.t 37)] (hz.t 127) #[.slice (some ⟨g,0,none⟩) l.length cap]).run P w.drew= .ok (.pointer (some ⟨g,0,none⟩)) w.drew:=Lib.run_unsafeSliceData_row _ _ _ _ _ _ Ω
 have aiF:(Builtin.unsafeString_ #[(hz.t 127),(hz.t 3)] (hz.t 9) #[.pointer (some ⟨g,0,none⟩),.int .i64 l.length]).run P w.drew= .ok (.string ⟨l.toArray⟩) (w.drew.freeze ⟨g,0,none⟩ l.length):=by refine Lib.run_unsafeString_row w.drew (hz.t 127) (hz.t 3) (hz.t 9) (hz.t 5) L.t127 X.cellsByte g cur.size (by have aar:w.drew.heap[g]? =some (.cells cur (hz.t 5) (0,0)):=aO;simp[World.shape?,aar]) l bD Ω (by unfold maxLen at zp;omega) ?_;intro j x ad;have:=kc.cells (g:=g) rfl j (.int .u8 x.toNat) (by simp[Lib.byteCells,ad]);exact this
 have mixed:=L.mixed;have t72:=L.t72;have a72:=L.a72;have z72:=L.z72;have v72:=L.v72;have ak5:=run_underlying L.t72;have t70:=L.t70;have a70:=L.a70;have z70:=L.z70;have v70:=L.v70;have ak4:=run_underlying L.t70;have t37:=L.t37;have a37:=L.a37;have z37:=L.z37;have v37:=L.v37;have ak2:=run_underlying L.t37;have t127:=L.t127;have a127:=L.a127;have z127:=L.z127;have v127:=L.v127;have ak1:=run_underlying L.t127;have t3:=L.t3;have a3:=L.a3;have z3:=L.z3;have v3:=L.v3;have As:=run_underlying L.t3;have t9:=L.t9;have a9:=L.a9;have z9:=L.z9;have v9:=L.v9;have ak6:=run_underlying L.t9;have t5:=X.t5;have a5:=X.a5;have z5:=X.z5;have v5:=X.v5;have ak3:=run_underlying X.t5;go_enter L.f169,Body.n169_ntmps hz;go_wp2;go_region_o;all_goals(go_wp2;go_ret;exact⟨rfl,rfl⟩)
end Go.Proofs
namespace Go.Proofs
section
open Go.Shelf
def Tryz.lays169_ren:Go.Shelf.Ren:=⟨fun|169=>66|n=>n,fun|70=>104|9=>9|0=>0|72=>106|37=>35|127=>181|3=>3|5=>5|n=>n,fun|n=>n⟩
theorem Tryz.lays169:Go.Proofs.Lays.n169 aP Tryz.lays169_ren:={
 mixed:=by kernel_rfl
 f169:=Tryz.func66.trans (fT some (by kernel_rfl))
 t0:=Tryz.underlying0
 a0:=Tryz.isAgg0
 z0:=Tryz.sizeOf0
 v0:=Tryz.zeroValue0
 t3:=Tryz.underlying3
 a3:=Tryz.isAgg3
 z3:=Tryz.sizeOf3
 v3:=Tryz.zeroValue3
 t9:=Tryz.underlying9
 a9:=Tryz.isAgg9
 z9:=Tryz.sizeOf9
 v9:=Tryz.zeroValue9
 t37:=Tryz.underlying35
 a37:=Tryz.isAgg35
 z37:=Tryz.sizeOf35
 v37:=Tryz.zeroValue35
 t70:=Tryz.underlying104
 a70:=Tryz.isAgg104
 z70:=Tryz.sizeOf104
 v70:=Tryz.zeroValue104
 t72:=Tryz.underlying106
 a72:=Tryz.isAgg106
 z72:=Tryz.sizeOf106
 v72:=Tryz.zeroValue106
 t127:=Tryz.underlying181
 a127:=Tryz.isAgg181
 z127:=Tryz.sizeOf181
 v127:=Tryz.zeroValue181}
theorem Tryz.builderE:Builder.Extra aP Tryz.lays169_ren:={
 sizeBuilder:=by kernel_rfl
 liesBuilder:=by kernel_rfl
 t5:=Tryz.underlying5
 a5:=Tryz.isAgg5
 z5:=Tryz.sizeOf5
 v5:=Tryz.zeroValue5
 infoByte:=by kernel_rfl
 cellsByte:=by kernel_rfl
 sizeByte:=by kernel_rfl
 neB5:=by decide}
def Tryz.laysM171_ren:Go.Shelf.Ren:=⟨fun|171=>136|243=>192|246=>229|283=>261|284=>262|285=>263|286=>264|129=>241|317=>278|318=>279|319=>280|320=>281|337=>296|338=>297|n=>n,fun|3=>3|9=>9|2=>2|4=>4|171=>284|0=>0|53=>267|37=>35|5=>5|173=>286|212=>302|51=>265|20=>20|213=>303|46=>209|232=>326|233=>327|n=>n,fun|17=>0|18=>3|19=>4|n=>n⟩
theorem Tryz.laysM171:Go.Proofs.LaysM.n171 aP Tryz.laysM171_ren:={
 mixed:=by kernel_rfl
 f129:=Tryz.func241.trans (fT some (by kernel_rfl))
 f171:=Tryz.func136.trans (fT some (by kernel_rfl))
 f243:=Tryz.func192.trans (fT some (by kernel_rfl))
 f246:=Tryz.func229.trans (fT some (by kernel_rfl))
 f283:=Tryz.func261.trans (fT some (by kernel_rfl))
 f284:=Tryz.func262.trans (fT some (by kernel_rfl))
 f285:=Tryz.func263.trans (fT some (by kernel_rfl))
 f286:=Tryz.func264.trans (fT some (by kernel_rfl))
 f317:=Tryz.func278.trans (fT some (by kernel_rfl))
 f318:=Tryz.func279.trans (fT some (by kernel_rfl))
 f319:=Tryz.func280.trans (fT some (by kernel_rfl))
 f320:=Tryz.func281.trans (fT some (by kernel_rfl))
 f337:=Tryz.func296.trans (fT some (by kernel_rfl))
 f338:=Tryz.func297.trans (fT some (by kernel_rfl))
 t0:=Tryz.underlying0
 a0:=Tryz.isAgg0
 z0:=Tryz.sizeOf0
 v0:=Tryz.zeroValue0
 t2:=Tryz.underlying2
 a2:=Tryz.isAgg2
 z2:=Tryz.sizeOf2
 v2:=Tryz.zeroValue2
 t3:=Tryz.underlying3
 a3:=Tryz.isAgg3
 z3:=Tryz.sizeOf3
 v3:=Tryz.zeroValue3
 t4:=Tryz.underlying4
 a4:=Tryz.isAgg4
 z4:=Tryz.sizeOf4
 v4:=Tryz.zeroValue4
 t5:=Tryz.underlying5
 a5:=Tryz.isAgg5
 z5:=Tryz.sizeOf5
 v5:=Tryz.zeroValue5
 t9:=Tryz.underlying9
 a9:=Tryz.isAgg9
 z9:=Tryz.sizeOf9
 v9:=Tryz.zeroValue9
 t20:=Tryz.underlying20
 a20:=Tryz.isAgg20
 z20:=Tryz.sizeOf20
 v20:=Tryz.zeroValue20
 t37:=Tryz.underlying35
 a37:=Tryz.isAgg35
 z37:=Tryz.sizeOf35
 v37:=Tryz.zeroValue35
 t46:=Tryz.underlying209
 a46:=Tryz.isAgg209
 z46:=Tryz.sizeOf209
 v46:=Tryz.zeroValue209
 t51:=Tryz.underlying265
 a51:=Tryz.isAgg265
 z51:=Tryz.sizeOf265
 v51:=Tryz.zeroValue265
 t53:=Tryz.underlying267
 a53:=Tryz.isAgg267
 z53:=Tryz.sizeOf267
 v53:=Tryz.zeroValue267
 t171:=Tryz.underlying284
 a171:=Tryz.isAgg284
 z171:=Tryz.sizeOf284
 v171:=Tryz.zeroValue284
 t173:=Tryz.underlying286
 a173:=Tryz.isAgg286
 z173:=Tryz.sizeOf286
 v173:=Tryz.zeroValue286
 t212:=Tryz.underlying302
 a212:=Tryz.isAgg302
 z212:=Tryz.sizeOf302
 v212:=Tryz.zeroValue302
 t213:=Tryz.underlying303
 a213:=Tryz.isAgg303
 z213:=Tryz.sizeOf303
 t232:=Tryz.underlying326
 a232:=Tryz.isAgg326
 z232:=Tryz.sizeOf326
 v232:=Tryz.zeroValue326
 t233:=Tryz.underlying327
 a233:=Tryz.isAgg327
 z233:=Tryz.sizeOf327
 v233:=Tryz.zeroValue327
 g17:=by kernel_rfl
 g18:=by kernel_rfl
 g19:=by kernel_rfl
 i0:=by kernel_rfl
 i2:=by kernel_rfl
 i3:=by kernel_rfl
 i4:=by kernel_rfl
 i5:=by kernel_rfl
 i9:=by kernel_rfl
 i20:=by kernel_rfl
 i37:=by kernel_rfl
 i46:=by kernel_rfl
 i51:=by kernel_rfl
 i53:=by kernel_rfl
 i171:=by kernel_rfl
 i173:=by kernel_rfl
 i212:=by kernel_rfl
 i232:=by kernel_rfl
 i233:=by kernel_rfl
 m17:=by kernel_rfl
 m18:=by kernel_rfl
 m19:=by kernel_rfl}
end
end Go.Proofs
namespace Go.Proofs.YtlnndmgfngfeiaaGreatDoor
section
open Go Go.Pv
def Ho:C:=(ae [cA 4 0,bm 5 (.mov (.c (.junk)))] (ae [ab 6 0,cW 7 135 6] (ae [ab 8 0,ab 9 0,ko 10 9,a6 11 1 1 10,aW 12 1 11,ab 13 1,cd (.apps 14 5 (.t 12) (.t 13)),ko 15 8,a6 16 1 1 15,bM 1 16 14] (ae [ab 17 1,bm 18 (.slen (.t 17)),ab 4 18,bm 5 (.mov (.c (.junk)))] .ret))))
@[simp] def KE:List cp:=[.tmp 4,.tmp 5]
def MB:C:=(ae [bm 2 (.mov (.c (.str [])))] (ae [ab 3 0,cW 4 136 3,ab 2 4] .ret))
@[simp] def aeA:List cp:=[.tmp 2]
def MC:C:=(ae [eA 1 0,bm 2 (.mov (.c (.str [])))] (.seq (ae [bH 4 4 1,cW 5 77 4,eP 6 5] (bt 6 (ae [bm 2 (.mov (.c (.str [])))] .ret) .skip)) (ae [bm 7 (.build [.nilp,.slice 1 .nil []] []),cd (.box 8 (some 861) (.t 7)),ab 3 8] (ae [ab 9 3,bH 10 4 1,dJ 11 153 9 10] (ae [ab 12 3,⟨none,.opn (some 13) (.c (.func 66 [])) [.t 12]⟩,ab 2 13] .ret)))))
@[simp] def SI:List cp:=[.tmp 2]
def MF:C:=(ae [bm 4 (.mov (.c (.str [])))] (ae [cd (.bslm 8 none 1 5 []),ab 5 8] (.seq (ae [ab 9 0,cy 10 9,cA 11 0] (ir 12 11 10 (.seq (.block 1 (ae [ab 13 11,di 14 1 9 11,aW 15 1 14,ab 6 13,ab 7 15] (.seq (ae [ab 16 6,a1 17 .gtr 16 0] (bt 17 (.region [ab 18 5,ab 19 1,cd (.apps 20 5 (.t 18) (.t 19)),ab 5 20]) .skip)) (.region [ab 21 5,ab 22 7,cd (.apps 23 5 (.t 21) (.t 22)),ab 5 23])))) (.region [a1 24 .add 11 1,ab 11 24])))) (.seq (.pub 5 (.region [ab 25 5,bm 26 (.b2s (.t 25)),ab 4 26])) .ret))))
@[simp] def SJ:List cp:=[.tmp 4]
def rq:C:=(ae [eA 3 1] (ae [a6 4 0 1 3,aW 5 1 4] (.block 0 (ae [a1 7 .eql 5 0,ab 6 7] (bt 6 (.region [ab 8 0,⟨none,.call (some 9) (.c (.func 62 [])) [.t 8,(.c (.str [40,41]))]⟩]) (ae [a1 11 .eql 5 1,ab 10 11] (bt 10 (.region [ab 12 0,a6 13 1 1 3,aW 14 1 13,cW 15 63 14,bm 16 (.bin .add false (.c (.str [63])) (.t 15)),dJ 17 62 12 16]) (ae [a1 19 .eql 5 2,ab 18 19] (bt 18 (.region [ab 20 0,a6 21 2 1 3,aW 22 1 21,dJ 23 62 20 22]) (ae [a1 25 .eql 5 3,ab 24 25] (bt 24 (.region [ab 26 0,a6 27 1 1 3,aW 28 1 27,cW 29 63 28,dJ 30 62 26 29]) (ae [a1 32 .eql 5 4,ab 31 32] (bt 31 (ae [ab 33 0,⟨none,.call (some 34) (.c (.func 62 [])) [.t 33,(.c (.str [40]))]⟩] (ae [ab 35 0,a6 36 3 1 3,aW 37 1 36,k0 38 4 37 0,bH 39 4 38,dJ 40 153 35 39] (ae [a6 41 3 1 3,aW 42 1 41,k0 43 4 42 1,bH 44 4 43,bM 4 3 44] (.seq (.block 1 (.loop (.seq (ae [a6 45 0 1 3,aW 46 1 45,a1 47 .eql 46 4] (bt 47 .skip (.exit 1))) (.block 2 (ae [ab 48 0,⟨none,.call (some 49) (.c (.func 62 [])) [.t 48,(.c (.str [32]))]⟩] (ae [ab 50 0,a6 51 3 1 3,aW 52 1 51,k0 53 4 52 0,bH 54 4 53,dJ 55 153 50 54] (.region [a6 56 3 1 3,aW 57 1 56,k0 58 4 57 1,bH 59 4 58,bM 4 3 59]))))))) (.seq (ae [a6 60 0 1 3,aW 61 1 60,a1 62 .neq 61 0] (bt 62 (ae [ab 63 0,⟨none,.call (some 64) (.c (.func 62 [])) [.t 63,(.c (.str [32,46,32]))]⟩] (.region [ab 65 0,bH 66 4 3,dJ 67 153 65 66])) .skip)) (.region [ab 68 0,⟨none,.call (some 69) (.c (.func 62 [])) [.t 68,(.c (.str [41]))]⟩])))))) .skip)))))))))))))
@[simp] def nc:List cp:=[]
def Aq:List (Nat×du):=[
 (3,⟨1,8,.int .i64,.int .i64 0⟩),
 (5,⟨1,1,.int .u8,.int .u8 0⟩),
 (9,⟨1,16,.str,.str []⟩),
 (35,⟨1,24,.slice 5,.slice 1 .nil []⟩),
 (38,⟨1,24,.slice 40,.slice 4 .nil []⟩),
 (40,⟨4,56,.struct [(0,3),(1,3),(2,9),(3,38)],.agg [.int .i64 0,.int .i64 0,.str [],.slice 4 .nil []]⟩),
 (70,⟨1,24,.slice 9,.slice 1 .nil []⟩),
 (104,⟨1,8,.other,.nilp⟩),
 (106,⟨2,32,.struct [(0,104),(1,35)],.agg [.nilp,.slice 1 .nil []]⟩),
 (108,⟨1,16,.iface,.junk⟩)]
theorem oE:fS aP Aq=true:=by kernel_rfl
theorem Sm:cF Aq Ho KE 2 Tryz.f62=true:=by kernel_rfl
theorem OU:aP.funcs[(62:Nat)]? =some Tryz.f62:=Tryz.func62
theorem adm:cF Aq MB aeA 1 Tryz.f63=true:=by kernel_rfl
theorem Xx:aP.funcs[(63:Nat)]? =some Tryz.f63:=Tryz.func63
theorem adn:cF Aq MC SI 1 Tryz.f85=true:=by kernel_rfl
theorem Xy:aP.funcs[(85:Nat)]? =some Tryz.f85:=Tryz.func85
theorem adq:cF Aq MF SJ 2 Tryz.f87=true:=by kernel_rfl
theorem XB:aP.funcs[(87:Nat)]? =some Tryz.f87:=Tryz.func87
theorem tj:cF Aq rq nc 2 Tryz.f153=true:=by kernel_rfl
theorem sO:aP.funcs[(153:Nat)]? =some Tryz.f153:=Tryz.func153
def aQ:ag:= .ptr (.obj 861) 0
def bj:dM:=⟨[(.obj 861,[.nilp,.slice 1 .nil []])],[]⟩
def sy:dM:=⟨[(.obj 861,[aQ,.slice 1 .nil []])],[]⟩
def aN(l:List aF):dM:=⟨[(.obj 861,[aQ,.row 1 (.obj 862) l.length])],[(.obj 862,⟨l.length,5,1,some (fK l)⟩)]⟩
theorem dz(S:aJ->Prop)(l:List aF):ai S (fK l):=by
 induction l with
 |nil=>simp[fK,ai]
 |cons x r a8=>simp only[fK,eQ,ai,ak]at a8⊢;exact⟨trivial,a8⟩
theorem wJ:fq bj:=by unfold bj;exact fq.of ⟨by intro m;simp[Pv.look],by intro m;simp[Pv.look]⟩ (by simp[ai,ak]) Ψ
theorem UH:fq sy:=by unfold sy;exact fq.of ⟨by intro m;simp[Pv.look],by intro m;simp[Pv.look]⟩ (by simp[ai,ak,aQ,ah,Pv.look]) Ψ
theorem iU(l:List aF):fq (aN l):=by unfold aN;refine fq.of ⟨by intro m;simp[Pv.look],by intro m;simp[Pv.look]⟩ (by simp[ai,ak,aQ,ah,Pv.look]) ?_;intro x ad xs ao;simp at ad;subst ad;simp at ao;subst ao;exact dz _ l
theorem LY(l cQ:List aF):fJ (aN l) (aN cQ):=⟨fun k=>by simp only[aN,Pv.look];split<;>rfl,fun k=>by simp only[aN,Pv.look];split<;>rfl⟩
theorem u2:(aP.info? 106).map (·.size)=some 2:=by kernel_rfl
theorem acw:liesAt aP aP.depth 106 (2/aP.cellsOf 106) 0 106 1=true:=by kernel_rfl
set_option maxRecDepth 100000 in
theorem Wi(b:Nat)(w:World)(bD:w.cell? ⟨b,0,none⟩=some (.pointer (some ⟨b,0,none⟩))):
  Calls aP 135 #[.pointer (some ⟨b,0,none⟩)] w fun e w'=>e= .returned (.tuple #[])/\w'=w:=by
 obtain⟨j,al,_⟩:=hT.1 u2;go_enter Tryz.func135,Tryz.ntmps135;go_wp2;rw[Lib.run_neq_ptr_same w _ Tryz.underlying104 al];go_wp2;go_end0;exact⟨rfl,rfl⟩
set_option maxRecDepth 100000 in
theorem Wh(b:Nat)(w:World)(bD:w.cell? ⟨b,0,none⟩=some (.pointer none))(dQ:w.shape? b=some (106,2))(aaq:w.frozen? ⟨b,0,none⟩=false):
  Calls aP 135 #[.pointer (some ⟨b,0,none⟩)] w fun e w'=>e= .returned (.tuple #[])/\w'=w.setCell ⟨b,0,none⟩ (.pointer (some ⟨b,0,none⟩)):=by
 obtain⟨j,al,um⟩:=hT.1 u2;go_enter Tryz.func135,Tryz.ntmps135;go_wp2;rw[Lib.run_to_unsafe w ⟨b,0,none⟩ Tryz.underlying104 Tryz.underlying227 al (by rw[um];decide) dQ (Nat.zero_lt_succ 1)];simp only[Result.andThen];rw[Oper.upon_value];go_wp2;rw[run_callFunc_extern Tryz.func191 (by kernel_rfl) (by kernel_rfl) (by kernel_rfl) (e:=alc) (by kernel_rfl)];rw[Lib.run_noEscape];simp only[Result.andThen];rw[Oper.upon_value];go_wp2;rw[Lib.run_from_unsafe w ⟨b,0,none⟩ Tryz.underlying227 Tryz.underlying104 al dQ acw];simp only[Result.andThen];rw[Oper.upon_value];go_wp2;go_end0;exact⟨rfl,rfl⟩
theorem Us{vs:Array Value}(h:vs.size=1):vs= #[vs.getD 0 undef]:=by apply Array.ext (by simpa using h);intro i I J;simp at J;subst J;simp[Array.getD,h]
theorem YW:bT aP 135 [aQ] bj fun r aC=>r= .tuple []/\aC=sy:=by
 refine bT.sem wJ.obj fun w ν vs gl gh hr=>?_;refine .inl ⟨⟨Tryz.f135,Tryz.func135,by kernel_rfl,by kernel_rfl⟩,?_⟩;obtain⟨bl,us,el,aq,aU,bR,ds,hn⟩:=hr.good.box (.obj 861) _ (show Pv.look (.obj 861) bj.b=some [.nilp,.slice 1 .nil []]from rfl);have xA:=el.2 rfl;rw[p5 (by rfl)]at ds;rw[pc (by rfl)]at hn;simp only[cG,aR]at hn;obtain⟨iq,Au,I,⟨rfl,_⟩,h7,pn,rfl,⟨⟨_,aK,_⟩,_⟩,rfl⟩:=hn;obtain rfl:=aK trivial;have jV:us= #[.pointer none,.slice none 0 0]:=by rw[<-Array.toList_inj];simpa using I
 subst jV;have lR:=hr.slot 0;simp only[ki,Pv.get,if_true,aQ,aR]at lR;obtain⟨b,af,aS⟩:=lR;rw[aq]at af;cases af;have uq:=Us (by simpa using gh);rw[aS]at uq;clear aS;subst uq;have dQ:w.shape? bl=some (106,2):=by have:(106:Nat)=C6:=rfl;rw[this];simp[World.shape?,ds,xA]
 refine(Wh bl w (by simp[World.cell?,ds]) dQ (by simp[World.frozen?,ds])).mono ?_;rintro e w' ⟨rfl,rfl⟩;have pS:=(hr.setBox (w':=w.setCell ⟨bl,0,none⟩ (.pointer (some ⟨bl,0,none⟩))) (cs':=[aQ,.slice 1 .nil []]) (show Pv.look (.obj 861) bj.b=some [.nilp,.slice 1 .nil []]from rfl) aq (us:= #[.pointer (some ⟨bl,0,none⟩),.slice none 0 0]) (el:=el) rfl rfl rfl (fun j al=>RowKit.Below.heap_setCell _ _ _ _ (fun e=>al (by simp[e]))) (by simp[World.setCell])
  (by rw[p5 (by rfl)];simp[World.setCell,Array.getElem?_modify,ds]) (by rw[pc (by rfl)];simp only[cG];exact⟨_,_,rfl,⟨by simp only[aQ,aR];exact⟨bl,aq,rfl⟩,rfl⟩,_,_,rfl,⟨by simp[aR,maxLen,bA];exact⟨none,0,⟨rfl,rfl⟩,Ω⟩,rfl⟩,rfl⟩)).1
 refine⟨_,_,_,_,.tuple [],sy,rfl,pS,by simp[aR,cD],by simp[bj,sy,fB,ah,Pv.look],by simp[bj,fB],?_,?_,UH.obj,by simp[ak,ai],rfl,rfl⟩
 ·refine cb ?_;simp[bj,sy,cR,Pv.look,ah,ai,ak,aQ]
 ·refine cc ?_;simp[sy]
theorem YX(l:List aF):bT aP 135 [aQ] (aN l) fun r aC=>r= .tuple []/\aC=aN l:=by
 refine bT.sem (iU l).obj fun w ν vs gl gh hr=>?_;refine .inl ⟨⟨Tryz.f135,Tryz.func135,by kernel_rfl,by kernel_rfl⟩,?_⟩;obtain⟨bl,us,el,aq,aU,bR,ds,hn⟩:=hr.good.box (.obj 861) _ (show Pv.look (.obj 861) (aN l).b=some [aQ,.row 1 (.obj 862) l.length]from rfl);rw[p5 (by rfl)]at ds;rw[pc (by rfl)]at hn;simp only[cG,aR,aQ]at hn;obtain⟨iq,Au,I,⟨⟨bQ,mN,rfl⟩,_⟩,h7,pn,rfl,_,rfl⟩:=hn;rw[aq]at mN;cases mN;have lR:=hr.slot 0;simp only[ki,Pv.get,if_true,aQ,aR]at lR;obtain⟨b,af,aS⟩:=lR;rw[aq]at af;cases af;have uq:=Us (by simpa using gh);rw[aS]at uq;clear aS;subst uq;have bD:us[0]? =some (.pointer (some ⟨bl,0,none⟩)):=by rw[<-Array.getElem?_toList,I];rfl
 refine(Wi bl w (by simp[World.cell?,ds,bD])).mono ?_;rintro e w' ⟨rfl,rfl⟩;refine⟨_,_,_,_,.tuple [],aN l,rfl,hr,by simp[aR,cD],by simp[aN,fB,ah,Pv.look],by simp[aN,fB,ah,Pv.look],?_,?_,(iU l).obj,by simp[ak,ai],rfl,rfl⟩
 ·refine cb ?_;simp[aN,Pv.look,ah,ai,ak,aQ]
 ·intro k o aa;exact⟨aa,.inr (by simp[aa]),(iU l).ke k o aa⟩
theorem RX(l:List aF)(aE:l≠[]){ob:List aJ}{st:bb}{d:be Nat}{K:bb->Prop}(af:Pv.look (.obj 861) st.b=some [aQ,.row 1 (.obj 862) l.length])(he:Pv.look (.obj 862) st.e=some ⟨l.length,5,1,some (fK l)⟩)
  (dk:K ⟨e6 d (.str l) st.t,st.b,bu [(aJ.obj 862,(⟨l.length,5,1,some (fK l)⟩:dw))] st.e,st.n,st.o⟩):AI aP ob 66 [aQ] st d K:=by
 intro C a w ν vs lG hr n5 a7;refine .inl ⟨⟨Tryz.f66,Tryz.func66,by kernel_rfl,by kernel_rfl⟩,?_⟩;obtain⟨bl,us,el,aq,aU,bR,ds,hn⟩:=hr.good.box (.obj 861) _ af;have xA:=el.2 rfl;rw[p5 (by rfl)]at ds;rw[pc (by rfl)]at hn;simp only[cG,aR,aQ]at hn;obtain⟨iq,Au,I,⟨⟨bQ,mN,rfl⟩,_⟩,h7,pn,rfl,⟨⟨⟨g,cap,rfl⟩,fW,n',u,lZ,kh,ou⟩,_⟩,rfl⟩:=hn;rw[aq]at mN;cases mN;obtain⟨v,cs,b9,cx,dp,c6⟩:=hr.good.own (.obj 862) _ he;rw[b9]at lZ;simp only[dL,gp]at lZ;obtain⟨rfl,rfl⟩:=lZ;obtain rfl:=ou rfl;obtain⟨cH,iD,p6⟩:=c6 _ rfl;obtain rfl:=Th iD;simp only at cx;rcases cx.2 with⟨h,_⟩|⟨eK,w8,cur,ao,_,aO,hI,fV,jb,aiJ⟩
 ·cases h
 cases ao;have jV:us= #[.pointer (some ⟨bl,0,none⟩),.slice (some ⟨g,0,none⟩) l.length cap]:=by rw[<-Array.toList_inj];simpa using I
 subst jV;simp only[aQ,cD,aR]at n5;obtain⟨tC,ws,b4,⟨b3,sS,rfl⟩,rfl⟩:=n5;rw[aq]at sS;cases sS;have uq:vs= #[.pointer (some ⟨bl,0,none⟩)]:=by rw[<-Array.toList_inj];simpa using b4
 rw[uq];have kQ:(Tryz.lays169_ren.t 72:Nat)=C6:=by kernel_rfl
 have Qu:(Tryz.lays169_ren.t 5:Nat)=5:=by kernel_rfl
 have vR:l.length≠0:=by simpa using aE
 refine(Go.Proofs.Any.Builder_String_ex Tryz.lays169 Tryz.builderE bl l w aE _ g cap cur (by rw[kQ,<-xA];exact ds) (by rw[Qu];exact cx) (by rw[Qu];exact aO) hI fV jb).mono ?_;rintro e w' ⟨rfl,rfl⟩;obtain⟨Dg,z2,z3,z4,z5⟩:=YL w.drew ⟨g,0,none⟩ l.length;have lL:=hr.dropRow (w':=w.drew.freeze ⟨g,0,none⟩ l.length) he rfl b9 rfl Dg z2 z3 z5 z4;exact⟨_,_,ν,rfl,dk,lL.put a7 (by simp only[aR];exact⟨trivial,fW⟩)⟩
theorem cg.sem{f:FuncId}{fn:Func}(aM:aP.funcs[f]? =some fn)(af:fn.body.isSome=true)(aK:(fn.name== "runtime.NumGoroutine")=false){args:List ag}{r:ag}(hr:ak (fun _=>dK) r)
  (h:∀(w:World) (ν:aT) (vs:Array Value),nQ w ν->(∀b o,ν.A b o->b<w.heap.size)->cD w ν args vs.toList->Calls aP f vs w fun e w'=> ∃v,e= .returned v/\(∀ν',(∀b o,ν.A b o->ν'.A b o)->aR w' ν' r v)/\w.grownBy w' none):cg aP f args r:=by
 refine bT.sem wi fun w ν vs gl gh pR=>?_;have n5:cD w ν args vs.toList:=by
  have cn:args.length=vs.toList.length:=by simpa using gh.symm
  have:∀(l:List ag) (us:List Value),l.length=us.length->(∀i p,l[i]? =some p->aR w ν p (us.getD i undef))->cD w ν l us:=by
   intro l;induction l with
   |nil=>intro us h _;cases us<;>simp at h⊢;simp[cD]
   |cons p l a8=>
    intro us h aw;cases us with
    |nil=>simp at h
    |cons u us=>simp only[cD];exact⟨u,us,rfl,by simpa using aw 0 p rfl,a8 us (by simpa using h) fun i q bG=>by simpa using aw (i+1) q (by simpa using bG)⟩
  refine this _ _ cn fun i p bq=>?_;have ao:=pR.slot i;have aw:=(cX.1 bq).1;rw[Ei,bN Ω]at ao;have:args.getD i .junk=p:=by simp[List.getD,bq]
  simp only[Nat.sub_zero,this]at ao;simpa[Array.getD_eq_getD_getElem?]using ao
 refine .inl ⟨⟨fn,aM,af,aK⟩,(h w ν vs gl pR.good.alt n5).mono ?_⟩;rintro e w' ⟨v,rfl,aS,aO⟩;exact⟨v,_,_,ν,r,⟨[],[]⟩,rfl,pR.grown aO,aS ν fun _ _ h=>h,trivial,trivial,fun k cs aa=>by simp[Pv.look]at aa,fun k cs aa=>by simp[Pv.look]at aa,wi,uA (fun _ h=>h.elim) _ hr,rfl,rfl⟩
theorem QJ{n:Int}(h:aZ n):(b8 n).length<=bA:=by unfold aZ at h;have:=Lib.itoa_length_le n Ω Ω;unfold bA;omega
theorem Zz(w:World)(k:Nat)(os:Array Obj):w.grownBy (Sort.grow (w.drewN k) os) none:=⟨rfl,rfl,rfl,Ψ,fun j al _=>Sort.heap_grow_old _ _ al⟩
theorem Pn(i:Nat)(aw:i<20):(0,i,20,fun v=>v=mE .u64 ((10 ^ i:Nat):Int))∈zh:=by unfold zh;exact rf _ (pv.2 ⟨i,List.mem_range.2 aw,rfl⟩)
theorem afY{w:World}{ν:aT}(h:nQ w ν):Lib.TabIs aP w "internal/strconv.uint64pow10" .u64 Lib.pow10Tab:=by
 have aO:aP.globalNamed "internal/strconv.uint64pow10" =some 0:=by kernel_rfl
 obtain⟨_,_,el,dQ⟩:=h _ (Pn 0 Ω);unfold Lib.TabIs;simp only[World.var?,aO,Option.bind_some];unfold Pv.shape at dQ;simp only at dQ;split at dQ
 ·rename_i cur eJ fz hw;rw[hw];simp only[dL,gp]at dQ;simp only[dL];apply Array.ext
  ·simp[dQ.1,Lib.pow10Tab]
  ·intro i I J;obtain⟨_,⟨v,aS,bq⟩,_⟩:=h _ (Pn i Ω);simp only at aS bq;subst bq;have aD:cur[i]? =some (mE .u64 ((10 ^ i:Nat):Int)):=by simpa[World.cell?,hw]using aS
   rw[Array.getElem?_eq_getElem I]at aD;rw[dZ aD];simp[Lib.pow10Tab]
 ·cases dQ
theorem af9(n:Int)(h:aZ n):cg aP 136 [.int .i64 n] (.str (b8 n)):=by
 refine cg.sem Tryz.func136 (by kernel_rfl) (by kernel_rfl) (by simp[ak]) fun w ν vs gl bg n5=>?_;simp only[cD,aR]at n5;obtain⟨v,us,b4,rfl,rfl⟩:=n5;have gh:vs= #[.int .i64 n]:=by rw[<-Array.toList_inj];simpa using b4
 subst gh;unfold aZ at h;refine(Any.strconv_Itoa Tryz.laysM171 n Ω Ω w (afY gl)).mono ?_;rintro e w' ⟨rfl,k,os,rfl⟩;exact⟨_,rfl,fun ν' _=>by simp only[aR];exact⟨trivial,QJ (by unfold aZ;omega)⟩,Zz w k os⟩
theorem UG:fJ bj sy:=⟨fun k=>by simp only[bj,sy,Pv.look];split<;>rfl,fun k=>rfl⟩
theorem bI.two{P:bW}{n:Nat}{args:List ag}{st:bb}{d:be Nat}{K:bb->Prop}{s:dM}{Q:ag->dM->Prop}(aM:bT P n args s Q)(ao:fq s)(af:∀k cs,Pv.look k s.b=some cs->Pv.look k st.b=some cs)(he:∀k o,Pv.look k s.e=some o->Pv.look k st.e=some o)
  (aa:ai (ah s) args) (h:∀r aC,Q r aC->((∀m,(Pv.look (.obj m) aC.b).isSome->(Pv.look (.obj m) s.b).isSome\/ .obj m∉st.o)/\(∀m,(Pv.look (.obj m) aC.e).isSome->(Pv.look (.obj m) s.e).isSome\/ .obj m∉st.o))/\K ⟨e6 d r st.t,bu s.b st.b++aC.b,bu s.e st.e++aC.e,st.n,st.o++fY aC⟩):bI P n args st d K:=
 .inl ⟨s,Q,fun k cs aD=>⟨af k cs aD,.inl (by simp[aD]),ao.kb k cs aD⟩,fun k o aj=>⟨he k o aj,.inr (by simp[aj]),ao.ke k o aj⟩,ao.obj,aa,aM,fun r aC bG=>h r aC bG⟩
theorem w1(a b:List aF):fK (a++b)=fK a++fK b:=by simp[fK]
theorem YT(t:List aF)(aI:t≠[])(aE:t.length<=bA):bT aP 62 [aQ,.str t] bj fun r aC=>r= .tuple [.int .i64 t.length,.junk]/\aC=aN t:=by have ao:=wJ;simp only[bj]at ao⊢;refine bT.mk mixed oE OU Sm Ψ ao.obj fun aG b5=>?_;unfold Ho;simp[aQ];refine bI.ob YW wJ (by simp only[bj];exact aH) (by simp only[bj];exact aH) (by simp[ah,Pv.look,bj,aQ,ai,ak]) ?_;rintro r aC ⟨rfl,rfl⟩;refine⟨UG,?_⟩;simp[bu,bj,sy,aQ,aI,aE];refine ck.new (aN t) (.inl rfl) (iU t) (by simp[fB,aN,ah,Pv.look]) (by simp only[aN,aQ];exact aH) (by simp only[aN,aQ];exact aH) ?_;simp[cz,KE,bn,bp,bk,aN,aQ,ah,Pv.look,ak,ai]
theorem YU(l t:List aF)(aE:(l++t).length<=bA):bT aP 62 [aQ,.str t] (aN l) fun r aC=>r= .tuple [.int .i64 t.length,.junk]/\aC=aN (l++t):=by
 have ao:=iU l;have o1:l.length+t.length<=bA:=by simpa using aE
 have er:(fK l).length=l.length:=by simp[fK]
 simp only[aN]at ao⊢;refine bT.mk mixed oE OU Sm Ψ ao.obj fun aG b5=>?_;unfold Ho;simp[aQ];refine bI.ob (YX l) (iU l) (by simp only[aN,aQ];exact aH) (by simp only[aN,aQ];exact aH) (by simp[ah,Pv.look,aN,aQ,ai,ak]) ?_;rintro r aC ⟨rfl,rfl⟩;refine⟨fJ.refl _,?_⟩;simp[bu,aN,aQ,o1,er];refine ck.at (aN (l++t)) (.inl rfl) (iU _) (LY l (l++t)) (by simp only[aN,aQ];exact aH) (by simp only[aN,aQ,w1];exact aH) ?_;simp[cz,KE,bn,bp,bk,aN,aQ,ah,Pv.look,ak,ai]
theorem qh(n:Int)(h:aZ n):cg aP 63 [.int .i64 n] (.str (b8 n)):=by have k:=af9 n h;refine bJ oE Xx adm fun aG=>?_;unfold MB;exact bZ
def bo:be (List aF)->dM
 |none=>bj
 |some l=>aN l
theorem LZ:∀o,fq (bo o)
 |none=>wJ
 |some l=>iU l
theorem bI.bd{P:bW}{n:Nat}{args:List ag}{st:bb}{d:be Nat}{K:bb->Prop}{o:be (List aF)}{r:ag}{cQ:List aF}(aM:bT P n args (bo o) fun dt aC=>dt=r/\aC=aN cQ)(af:∀k cs,Pv.look k (bo o).b=some cs->Pv.look k st.b=some cs)(he:∀k p,Pv.look k (bo o).e=some p->Pv.look k st.e=some p)
  (aa:ai (ah (bo o)) args) (aK:o=none->aJ.obj 862∉st.o) (h:K ⟨e6 d r st.t,bu (bo o).b st.b++(aN cQ).b,bu (bo o).e st.e++(aN cQ).e,st.n,st.o++[.obj 861,.obj 862]⟩):bI P n args st d K:=by
 refine bI.two aM (LZ o) af he aa ?_;rintro dt aC ⟨rfl,rfl⟩;refine⟨⟨fun m hm=>.inl ?_,fun m hm=>?_⟩,h⟩
 ·simp only[aN,Pv.look]at hm;split at hm
  ·rename_i e;rw[<-e];cases o<;>simp[bo,bj,aN,Pv.look]
  ·cases hm
 ·simp only[aN,Pv.look]at hm;split at hm
  ·rename_i e;rw[<-e];cases o with
   |none=>exact .inr (aK rfl)
   |some l=>exact .inl (by simp[bo,aN,Pv.look])
  ·cases hm
theorem gf(o:be (List aF))(t:List aF)(aI:o=none->t≠[])(aE:(o.getD []++t).length<=bA):bT aP 62 [aQ,.str t] (bo o) fun r aC=>r= .tuple [.int .i64 t.length,.junk]/\aC=aN (o.getD []++t):=by
 cases o with
 |none=>exact YT t (aI rfl) (by simpa using aE)
 |some l=>exact YU l t aE
theorem s9(n:Int):b8 n≠[]:=by
 unfold b8;split
 ·simp
 ·exact nZ _
def nl(l:List aF)(u:T):bb:=⟨[(0,.ptr (.obj 861) 0),(3,.ptr (.loc 0) 0)],(aN l).b++[(.loc 0,cells u.e)],(aN l).e,1,[.obj 861,.obj 862]⟩
theorem Zj(n:Nat):∀t:T,t.size<=n->t.ok=true->∀o:be (List aF),(o.getD []++dB t).length<=bA->bT aP 153 [aQ,t.e] (bo o) fun r aC=>r= .tuple []/\aC=aN (o.getD []++dB t):=by
 induction n with
 |zero=>intro t h;have:=t.size_pos;omega
 |succ n a8=>
  intro t aK ec o aE;have ao:=LZ o;have cE:(40:aF)=40:=rfl;cases t with
  |nil=>
   clear a8;simp only[dB]at aE⊢;cases o with
   |none=>simp only[bo,bj,aN,Option.getD]at ao aE⊢;refine bT.mk mixed oE sO tj Ψ ao.obj fun aG b5=>?_;unfold rq;clear aG b5;simp[aQ];(with_reducible repeat' first|refine aA ?_|simp);refine bI.bd (o:=_) (gf (none) ([40,41]) (by simp[s9,cE]) aE) (by simp only[bo,bj,aN,aQ];exact aH) (by simp only[bo,bj,aN,aQ];exact aH) (by simp[ah,Pv.look,bo,bj,aN,aQ,ai,ak]) Ψ ?_;simp[bu,bo,bj,aN,aQ];refine ck.new (aN ([]++([40,41]))) Ψ (iU _) (by simp[fB,aN,ah,Pv.look]) (by simp only[aN,aQ];exact aH) (by simp only[aN,aQ];exact aH) ?_;simp[cz,nc,bn,bp,bk,aN,aQ,ah,Pv.look,ak,ai]
   |some l=>simp only[bo,bj,aN,Option.getD]at ao aE⊢;refine bT.mk mixed oE sO tj Ψ ao.obj fun aG b5=>?_;unfold rq;clear aG b5;simp[aQ];(with_reducible repeat' first|refine aA ?_|simp);refine bI.bd (o:=_) (gf (some l) ([40,41]) (by simp[s9,cE]) aE) (by simp only[bo,bj,aN,aQ];exact aH) (by simp only[bo,bj,aN,aQ];exact aH) (by simp[ah,Pv.look,bo,bj,aN,aQ,ai,ak]) Ψ ?_;simp[bu,bo,bj,aN,aQ];refine ck.new (aN (l++([40,41]))) Ψ (iU _) (by simp[fB,aN,ah,Pv.look]) (by simp only[aN,aQ];exact aH) (by simp only[aN,aQ];exact aH) ?_;simp[cz,nc,bn,bp,bk,aN,aQ,ah,Pv.look,ak,ai]
  |var v=>
   clear a8;have fh:aZ v:=by simp[T.ok]at ec;unfold aZ;omega
   have cZ:=qh v fh;have ie:=QJ fh;have P1:(b8 v).length+1<=bA:=by have:=Lib.itoa_length_le v (by unfold aZ at fh;omega) (by unfold aZ at fh;omega);unfold bA;omega
   simp only[dB]at aE⊢;cases o with
   |none=>simp only[bo,bj,aN,Option.getD]at ao aE⊢;refine bT.mk mixed oE sO tj Ψ ao.obj fun aG b5=>?_;unfold rq;clear aG b5;simp[aQ];(with_reducible repeat' first|refine aA ?_|refine aX cZ ?_|refine aY cZ ?_|simp[P1]);refine bI.bd (o:=_) (gf (none) (63::b8 v) (by simp[s9,cE]) aE) (by simp only[bo,bj,aN,aQ];exact aH) (by simp only[bo,bj,aN,aQ];exact aH) (by simp[ah,Pv.look,bo,bj,aN,aQ,ai,ak]) Ψ ?_;simp[bu,bo,bj,aN,aQ];refine ck.new (aN ([]++(63::b8 v))) Ψ (iU _) (by simp[fB,aN,ah,Pv.look]) (by simp only[aN,aQ];exact aH) (by simp only[aN,aQ];exact aH) ?_;simp[cz,nc,bn,bp,bk,aN,aQ,ah,Pv.look,ak,ai]
   |some l=>simp only[bo,bj,aN,Option.getD]at ao aE⊢;refine bT.mk mixed oE sO tj Ψ ao.obj fun aG b5=>?_;unfold rq;clear aG b5;simp[aQ];(with_reducible repeat' first|refine aA ?_|refine aX cZ ?_|refine aY cZ ?_|simp[P1]);refine bI.bd (o:=_) (gf (some l) (63::b8 v) (by simp[s9,cE]) aE) (by simp only[bo,bj,aN,aQ];exact aH) (by simp only[bo,bj,aN,aQ];exact aH) (by simp[ah,Pv.look,bo,bj,aN,aQ,ai,ak]) Ψ ?_;simp[bu,bo,bj,aN,aQ];refine ck.new (aN (l++(63::b8 v))) Ψ (iU _) (by simp[fB,aN,ah,Pv.look]) (by simp only[aN,aQ];exact aH) (by simp only[aN,aQ];exact aH) ?_;simp[cz,nc,bn,bp,bk,aN,aQ,ah,Pv.look,ak,ai]
  |sym s=>
   clear a8;have cE:s≠[]:=RK (by simpa[T.ok]using ec);simp only[dB]at aE⊢;cases o with
   |none=>simp only[bo,bj,aN,Option.getD]at ao aE⊢;refine bT.mk mixed oE sO tj Ψ ao.obj fun aG b5=>?_;unfold rq;clear aG b5;simp[aQ];(with_reducible repeat' first|refine aA ?_|simp);refine bI.bd (o:=_) (gf (none) (s) (by simp[s9,cE]) aE) (by simp only[bo,bj,aN,aQ];exact aH) (by simp only[bo,bj,aN,aQ];exact aH) (by simp[ah,Pv.look,bo,bj,aN,aQ,ai,ak]) Ψ ?_;simp[bu,bo,bj,aN,aQ];refine ck.new (aN ([]++(s))) Ψ (iU _) (by simp[fB,aN,ah,Pv.look]) (by simp only[aN,aQ];exact aH) (by simp only[aN,aQ];exact aH) ?_;simp[cz,nc,bn,bp,bk,aN,aQ,ah,Pv.look,ak,ai]
   |some l=>simp only[bo,bj,aN,Option.getD]at ao aE⊢;refine bT.mk mixed oE sO tj Ψ ao.obj fun aG b5=>?_;unfold rq;clear aG b5;simp[aQ];(with_reducible repeat' first|refine aA ?_|simp);refine bI.bd (o:=_) (gf (some l) (s) (by simp[s9,cE]) aE) (by simp only[bo,bj,aN,aQ];exact aH) (by simp only[bo,bj,aN,aQ];exact aH) (by simp[ah,Pv.look,bo,bj,aN,aQ,ai,ak]) Ψ ?_;simp[bu,bo,bj,aN,aQ];refine ck.new (aN (l++(s))) Ψ (iU _) (by simp[fB,aN,ah,Pv.look]) (by simp only[aN,aQ];exact aH) (by simp only[aN,aQ];exact aH) ?_;simp[cz,nc,bn,bp,bk,aN,aQ,ah,Pv.look,ak,ai]
  |num v=>
   clear a8;have fh:aZ v:=by simp[T.ok]at ec;unfold aZ;omega
   have cZ:=qh v fh;simp only[dB]at aE⊢;cases o with
   |none=>simp only[bo,bj,aN,Option.getD]at ao aE⊢;refine bT.mk mixed oE sO tj Ψ ao.obj fun aG b5=>?_;unfold rq;clear aG b5;simp[aQ];(with_reducible repeat' first|refine aA ?_|refine aX cZ ?_|refine aY cZ ?_|simp);refine bI.bd (o:=_) (gf (none) (b8 v) (by simp[s9,cE]) aE) (by simp only[bo,bj,aN,aQ];exact aH) (by simp only[bo,bj,aN,aQ];exact aH) (by simp[ah,Pv.look,bo,bj,aN,aQ,ai,ak]) Ψ ?_;simp[bu,bo,bj,aN,aQ];refine ck.new (aN ([]++(b8 v))) Ψ (iU _) (by simp[fB,aN,ah,Pv.look]) (by simp only[aN,aQ];exact aH) (by simp only[aN,aQ];exact aH) ?_;simp[cz,nc,bn,bp,bk,aN,aQ,ah,Pv.look,ak,ai]
   |some l=>simp only[bo,bj,aN,Option.getD]at ao aE⊢;refine bT.mk mixed oE sO tj Ψ ao.obj fun aG b5=>?_;unfold rq;clear aG b5;simp[aQ];(with_reducible repeat' first|refine aA ?_|refine aX cZ ?_|refine aY cZ ?_|simp);refine bI.bd (o:=_) (gf (some l) (b8 v) (by simp[s9,cE]) aE) (by simp only[bo,bj,aN,aQ];exact aH) (by simp only[bo,bj,aN,aQ];exact aH) (by simp[ah,Pv.look,bo,bj,aN,aQ,ai,ak]) Ψ ?_;simp[bu,bo,bj,aN,aQ];refine ck.new (aN (l++(b8 v))) Ψ (iU _) (by simp[fB,aN,ah,Pv.look]) (by simp only[aN,aQ];exact aH) (by simp only[aN,aQ];exact aH) ?_;simp[cz,nc,bn,bp,bk,aN,aQ,ah,Pv.look,ak,ai]
  |pair a b=>
   simp only[T.size]at aK;simp only[T.ok,bB]at ec;have EM:=a8 a Ω ec.1;have oa:(o.getD []).length+(1+((dB a).length+(fA b).length))<=bA:=by simpa[dB,Nat.add_comm 1]using aE
   simp only[dB]at aE⊢;obtain⟨GA,dm⟩:∃GA,GA=o.getD []++40::(dB a++fA b):=⟨_,rfl⟩;rw[<-dm]at aE⊢;have ev:=b.size_pos;cases o with
   |none=>
    have kw:=gf none [40] Ψ (by unfold bA;simp);have Cg:=EM (some [40]) (by simp at oa⊢;omega);simp only[bo,bj,aN,Option.getD]at ao⊢;refine bT.mk mixed oE sO tj Ψ ao.obj fun aG b5=>?_;unfold rq;clear aG b5;simp[aQ];(with_reducible repeat' first|refine aA ?_|simp);refine bI.bd (o:=_) (kw) (by simp only[bo,bj,aN,aQ];exact aH) (by simp only[bo,bj,aN,aQ];exact aH) (by simp[ah,Pv.look,bo,bj,aN,aQ,ai,ak]) Ψ ?_;simp[bu,bo,bj,aN,aQ];(with_reducible repeat' first|refine aA ?_|simp);refine bI.bd (o:=_) (Cg) (by simp only[bo,bj,aN,aQ];exact aH) (by simp only[bo,bj,aN,aQ];exact aH) (by simp[ah,Pv.look,bo,bj,aN,aQ,ai,ak]) Ψ ?_;simp[bu,bo,bj,aN,aQ];(with_reducible repeat' first|refine aA ?_|simp);refine gZ (fun x:T×List aF=>nl x.2 x.1) (fun x=>x.1.size) (fun x=>x.1.ok=true/\x.1.size<=n/\x.2++fA x.1=GA) (b,[]++40::dB a) (by simp[nl,aN,aQ];exact⟨by simp[fresh,ai,ak,bc,ah,Pv.look,dz],cb (by simp[fresh,ai,ak,bc,ah,Pv.look,dz]),cc (by simp[fresh,ai,ak,b6,ah,Pv.look,dz]),Ψ⟩) ⟨ec.2,(by show b.size<=n;omega),by rw[dm];simp⟩ ?_;rintro⟨u,acc⟩ ⟨og,rV,B5⟩ sT;clear sT kw Cg EM dm oa;simp only at og rV B5;subst B5;cases u with
    |pair x y=>
     simp only[T.size]at rV;simp only[T.ok,bB]at og;have j9:acc.length+(1+((dB x).length+(fA y).length))<=bA:=by simpa[fA,Nat.add_comm 1]using aE
     have kw:=gf (some acc) [32] Ψ (by simp;omega);have eM:=a8 x Ω og.1 (some (acc++[32])) (by simp;omega);simp[nl,aN,aQ];(with_reducible repeat' first|refine aA ?_|simp);refine bI.bd (o:=_) (kw) (by simp only[bo,bj,aN,aQ];exact aH) (by simp only[bo,bj,aN,aQ];exact aH) (by simp[ah,Pv.look,bo,bj,aN,aQ,ai,ak]) Ψ ?_;simp[bu,bo,bj,aN,aQ];(with_reducible repeat' first|refine aA ?_|simp);refine bI.bd (o:=_) (eM) (by simp only[bo,bj,aN,aQ];exact aH) (by simp only[bo,bj,aN,aQ];exact aH) (by simp[ah,Pv.look,bo,bj,aN,aQ,ai,ak]) Ψ ?_;simp[bu,bo,bj,aN,aQ];(with_reducible repeat' first|refine aA ?_|simp);refine bP.whl (y,acc++32::dB x) (by show y.size<1+x.size+y.size;omega) ⟨og.2,(by show y.size<=n;omega),by simp[fA]⟩ ?_;simp[nl,aN,aQ];exact⟨by simp[fresh,ai,ak,bc,ah,Pv.look,dz],cb (by simp[fresh,ai,ak,bc,ah,Pv.look,dz]),cc (by simp[fresh,ai,ak,b6,ah,Pv.look,dz]),Ψ⟩
    |nil=>have kw:=gf (some acc) [41] Ψ (by simpa[fA]using aE);simp only[fA];simp[nl,aN,aQ];(with_reducible repeat' first|refine aA ?_|simp);refine bI.bd (o:=_) (kw) (by simp only[bo,bj,aN,aQ];exact aH) (by simp only[bo,bj,aN,aQ];exact aH) (by simp[ah,Pv.look,bo,bj,aN,aQ,ai,ak]) Ψ ?_;simp[bu,bo,bj,aN,aQ];refine ck.new (aN (acc++[41])) Ψ (iU _) (by simp[fB,aN,ah,Pv.look]) (by simp only[aN,aQ];exact aH) (by simp only[aN,aQ];exact aH) ?_;simp[cz,nc,bn,bp,bk,aN,aQ,ah,Pv.look,ak,ai]
    |var v=>
     have j9:acc.length+(3+((dB (T.var v)).length+1))<=bA:=by simp[fA,dB]at aE⊢;omega
     have kw:=gf (some acc) [32,46,32] Ψ (by simp;omega);have eM:=a8 (T.var v) rV og (some (acc++[32,46,32])) (by simp;omega);have fo:=gf (some (acc++[32,46,32]++dB (T.var v))) [41] Ψ (by simp;omega);have he:acc++fA (T.var v)=acc++[32,46,32]++dB (T.var v)++[41]:=by simp[fA,dB]
     rw[he];simp[nl,aN,aQ];(with_reducible repeat' first|refine aA ?_|simp);refine bI.bd (o:=_) (kw) (by simp only[bo,bj,aN,aQ];exact aH) (by simp only[bo,bj,aN,aQ];exact aH) (by simp[ah,Pv.look,bo,bj,aN,aQ,ai,ak]) Ψ ?_;simp[bu,bo,bj,aN,aQ];(with_reducible repeat' first|refine aA ?_|simp);refine bI.bd (o:=_) (eM) (by simp only[bo,bj,aN,aQ];exact aH) (by simp only[bo,bj,aN,aQ];exact aH) (by simp[ah,Pv.look,bo,bj,aN,aQ,ai,ak]) Ψ ?_;simp[bu,bo,bj,aN,aQ];(with_reducible repeat' first|refine aA ?_|simp);refine bI.bd (o:=_) (fo) (by simp only[bo,bj,aN,aQ];exact aH) (by simp only[bo,bj,aN,aQ];exact aH) (by simp[ah,Pv.look,bo,bj,aN,aQ,ai,ak]) Ψ ?_;simp[bu,bo,bj,aN,aQ];refine ck.new (aN (acc++[32,46,32]++dB (T.var v)++[41])) Ψ (iU _) (by simp[fB,aN,ah,Pv.look]) (by simp only[aN,aQ];exact aH) (by simp only[aN,aQ];exact aH) ?_;simp[cz,nc,bn,bp,bk,aN,aQ,ah,Pv.look,ak,ai]
    |sym v=>
     have j9:acc.length+(3+((dB (T.sym v)).length+1))<=bA:=by simp[fA,dB]at aE⊢;omega
     have kw:=gf (some acc) [32,46,32] Ψ (by simp;omega);have eM:=a8 (T.sym v) rV og (some (acc++[32,46,32])) (by simp;omega);have fo:=gf (some (acc++[32,46,32]++dB (T.sym v))) [41] Ψ (by simp;omega);have he:acc++fA (T.sym v)=acc++[32,46,32]++dB (T.sym v)++[41]:=by simp[fA,dB]
     rw[he];simp[nl,aN,aQ];(with_reducible repeat' first|refine aA ?_|simp);refine bI.bd (o:=_) (kw) (by simp only[bo,bj,aN,aQ];exact aH) (by simp only[bo,bj,aN,aQ];exact aH) (by simp[ah,Pv.look,bo,bj,aN,aQ,ai,ak]) Ψ ?_;simp[bu,bo,bj,aN,aQ];(with_reducible repeat' first|refine aA ?_|simp);refine bI.bd (o:=_) (eM) (by simp only[bo,bj,aN,aQ];exact aH) (by simp only[bo,bj,aN,aQ];exact aH) (by simp[ah,Pv.look,bo,bj,aN,aQ,ai,ak]) Ψ ?_;simp[bu,bo,bj,aN,aQ];(with_reducible repeat' first|refine aA ?_|simp);refine bI.bd (o:=_) (fo) (by simp only[bo,bj,aN,aQ];exact aH) (by simp only[bo,bj,aN,aQ];exact aH) (by simp[ah,Pv.look,bo,bj,aN,aQ,ai,ak]) Ψ ?_;simp[bu,bo,bj,aN,aQ];refine ck.new (aN (acc++[32,46,32]++dB (T.sym v)++[41])) Ψ (iU _) (by simp[fB,aN,ah,Pv.look]) (by simp only[aN,aQ];exact aH) (by simp only[aN,aQ];exact aH) ?_;simp[cz,nc,bn,bp,bk,aN,aQ,ah,Pv.look,ak,ai]
    |num v=>
     have j9:acc.length+(3+((dB (T.num v)).length+1))<=bA:=by simp[fA,dB]at aE⊢;omega
     have kw:=gf (some acc) [32,46,32] Ψ (by simp;omega);have eM:=a8 (T.num v) rV og (some (acc++[32,46,32])) (by simp;omega);have fo:=gf (some (acc++[32,46,32]++dB (T.num v))) [41] Ψ (by simp;omega);have he:acc++fA (T.num v)=acc++[32,46,32]++dB (T.num v)++[41]:=by simp[fA,dB]
     rw[he];simp[nl,aN,aQ];(with_reducible repeat' first|refine aA ?_|simp);refine bI.bd (o:=_) (kw) (by simp only[bo,bj,aN,aQ];exact aH) (by simp only[bo,bj,aN,aQ];exact aH) (by simp[ah,Pv.look,bo,bj,aN,aQ,ai,ak]) Ψ ?_;simp[bu,bo,bj,aN,aQ];(with_reducible repeat' first|refine aA ?_|simp);refine bI.bd (o:=_) (eM) (by simp only[bo,bj,aN,aQ];exact aH) (by simp only[bo,bj,aN,aQ];exact aH) (by simp[ah,Pv.look,bo,bj,aN,aQ,ai,ak]) Ψ ?_;simp[bu,bo,bj,aN,aQ];(with_reducible repeat' first|refine aA ?_|simp);refine bI.bd (o:=_) (fo) (by simp only[bo,bj,aN,aQ];exact aH) (by simp only[bo,bj,aN,aQ];exact aH) (by simp[ah,Pv.look,bo,bj,aN,aQ,ai,ak]) Ψ ?_;simp[bu,bo,bj,aN,aQ];refine ck.new (aN (acc++[32,46,32]++dB (T.num v)++[41])) Ψ (iU _) (by simp[fB,aN,ah,Pv.look]) (by simp only[aN,aQ];exact aH) (by simp only[aN,aQ];exact aH) ?_;simp[cz,nc,bn,bp,bk,aN,aQ,ah,Pv.look,ak,ai]
   |some l=>
    have kw:=gf (some l) [40] Ψ (by simp at oa⊢;omega);have Cg:=EM (some (l++[40])) (by simp at oa⊢;omega);simp only[bo,bj,aN,Option.getD]at ao⊢;refine bT.mk mixed oE sO tj Ψ ao.obj fun aG b5=>?_;unfold rq;clear aG b5;simp[aQ];(with_reducible repeat' first|refine aA ?_|simp);refine bI.bd (o:=_) (kw) (by simp only[bo,bj,aN,aQ];exact aH) (by simp only[bo,bj,aN,aQ];exact aH) (by simp[ah,Pv.look,bo,bj,aN,aQ,ai,ak]) Ψ ?_;simp[bu,bo,bj,aN,aQ];(with_reducible repeat' first|refine aA ?_|simp);refine bI.bd (o:=_) (Cg) (by simp only[bo,bj,aN,aQ];exact aH) (by simp only[bo,bj,aN,aQ];exact aH) (by simp[ah,Pv.look,bo,bj,aN,aQ,ai,ak]) Ψ ?_;simp[bu,bo,bj,aN,aQ];(with_reducible repeat' first|refine aA ?_|simp);refine gZ (fun x:T×List aF=>nl x.2 x.1) (fun x=>x.1.size) (fun x=>x.1.ok=true/\x.1.size<=n/\x.2++fA x.1=GA) (b,l++40::dB a) (by simp[nl,aN,aQ];exact⟨by simp[fresh,ai,ak,bc,ah,Pv.look,dz],cb (by simp[fresh,ai,ak,bc,ah,Pv.look,dz]),cc (by simp[fresh,ai,ak,b6,ah,Pv.look,dz]),Ψ⟩) ⟨ec.2,(by show b.size<=n;omega),by rw[dm];simp⟩ ?_;rintro⟨u,acc⟩ ⟨og,rV,B5⟩ sT;clear sT kw Cg EM dm oa;simp only at og rV B5;subst B5;cases u with
    |pair x y=>
     simp only[T.size]at rV;simp only[T.ok,bB]at og;have j9:acc.length+(1+((dB x).length+(fA y).length))<=bA:=by simpa[fA,Nat.add_comm 1]using aE
     have kw:=gf (some acc) [32] Ψ (by simp;omega);have eM:=a8 x Ω og.1 (some (acc++[32])) (by simp;omega);simp[nl,aN,aQ];(with_reducible repeat' first|refine aA ?_|simp);refine bI.bd (o:=_) (kw) (by simp only[bo,bj,aN,aQ];exact aH) (by simp only[bo,bj,aN,aQ];exact aH) (by simp[ah,Pv.look,bo,bj,aN,aQ,ai,ak]) Ψ ?_;simp[bu,bo,bj,aN,aQ];(with_reducible repeat' first|refine aA ?_|simp);refine bI.bd (o:=_) (eM) (by simp only[bo,bj,aN,aQ];exact aH) (by simp only[bo,bj,aN,aQ];exact aH) (by simp[ah,Pv.look,bo,bj,aN,aQ,ai,ak]) Ψ ?_;simp[bu,bo,bj,aN,aQ];(with_reducible repeat' first|refine aA ?_|simp);refine bP.whl (y,acc++32::dB x) (by show y.size<1+x.size+y.size;omega) ⟨og.2,(by show y.size<=n;omega),by simp[fA]⟩ ?_;simp[nl,aN,aQ];exact⟨by simp[fresh,ai,ak,bc,ah,Pv.look,dz],cb (by simp[fresh,ai,ak,bc,ah,Pv.look,dz]),cc (by simp[fresh,ai,ak,b6,ah,Pv.look,dz]),Ψ⟩
    |nil=>have kw:=gf (some acc) [41] Ψ (by simpa[fA]using aE);simp only[fA];simp[nl,aN,aQ];(with_reducible repeat' first|refine aA ?_|simp);refine bI.bd (o:=_) (kw) (by simp only[bo,bj,aN,aQ];exact aH) (by simp only[bo,bj,aN,aQ];exact aH) (by simp[ah,Pv.look,bo,bj,aN,aQ,ai,ak]) Ψ ?_;simp[bu,bo,bj,aN,aQ];refine ck.new (aN (acc++[41])) Ψ (iU _) (by simp[fB,aN,ah,Pv.look]) (by simp only[aN,aQ];exact aH) (by simp only[aN,aQ];exact aH) ?_;simp[cz,nc,bn,bp,bk,aN,aQ,ah,Pv.look,ak,ai]
    |var v=>
     have j9:acc.length+(3+((dB (T.var v)).length+1))<=bA:=by simp[fA,dB]at aE⊢;omega
     have kw:=gf (some acc) [32,46,32] Ψ (by simp;omega);have eM:=a8 (T.var v) rV og (some (acc++[32,46,32])) (by simp;omega);have fo:=gf (some (acc++[32,46,32]++dB (T.var v))) [41] Ψ (by simp;omega);have he:acc++fA (T.var v)=acc++[32,46,32]++dB (T.var v)++[41]:=by simp[fA,dB]
     rw[he];simp[nl,aN,aQ];(with_reducible repeat' first|refine aA ?_|simp);refine bI.bd (o:=_) (kw) (by simp only[bo,bj,aN,aQ];exact aH) (by simp only[bo,bj,aN,aQ];exact aH) (by simp[ah,Pv.look,bo,bj,aN,aQ,ai,ak]) Ψ ?_;simp[bu,bo,bj,aN,aQ];(with_reducible repeat' first|refine aA ?_|simp);refine bI.bd (o:=_) (eM) (by simp only[bo,bj,aN,aQ];exact aH) (by simp only[bo,bj,aN,aQ];exact aH) (by simp[ah,Pv.look,bo,bj,aN,aQ,ai,ak]) Ψ ?_;simp[bu,bo,bj,aN,aQ];(with_reducible repeat' first|refine aA ?_|simp);refine bI.bd (o:=_) (fo) (by simp only[bo,bj,aN,aQ];exact aH) (by simp only[bo,bj,aN,aQ];exact aH) (by simp[ah,Pv.look,bo,bj,aN,aQ,ai,ak]) Ψ ?_;simp[bu,bo,bj,aN,aQ];refine ck.new (aN (acc++[32,46,32]++dB (T.var v)++[41])) Ψ (iU _) (by simp[fB,aN,ah,Pv.look]) (by simp only[aN,aQ];exact aH) (by simp only[aN,aQ];exact aH) ?_;simp[cz,nc,bn,bp,bk,aN,aQ,ah,Pv.look,ak,ai]
    |sym v=>
     have j9:acc.length+(3+((dB (T.sym v)).length+1))<=bA:=by simp[fA,dB]at aE⊢;omega
     have kw:=gf (some acc) [32,46,32] Ψ (by simp;omega);have eM:=a8 (T.sym v) rV og (some (acc++[32,46,32])) (by simp;omega);have fo:=gf (some (acc++[32,46,32]++dB (T.sym v))) [41] Ψ (by simp;omega);have he:acc++fA (T.sym v)=acc++[32,46,32]++dB (T.sym v)++[41]:=by simp[fA,dB]
     rw[he];simp[nl,aN,aQ];(with_reducible repeat' first|refine aA ?_|simp);refine bI.bd (o:=_) (kw) (by simp only[bo,bj,aN,aQ];exact aH) (by simp only[bo,bj,aN,aQ];exact aH) (by simp[ah,Pv.look,bo,bj,aN,aQ,ai,ak]) Ψ ?_;simp[bu,bo,bj,aN,aQ];(with_reducible repeat' first|refine aA ?_|simp);refine bI.bd (o:=_) (eM) (by simp only[bo,bj,aN,aQ];exact aH) (by simp only[bo,bj,aN,aQ];exact aH) (by simp[ah,Pv.look,bo,bj,aN,aQ,ai,ak]) Ψ ?_;simp[bu,bo,bj,aN,aQ];(with_reducible repeat' first|refine aA ?_|simp);refine bI.bd (o:=_) (fo) (by simp only[bo,bj,aN,aQ];exact aH) (by simp only[bo,bj,aN,aQ];exact aH) (by simp[ah,Pv.look,bo,bj,aN,aQ,ai,ak]) Ψ ?_;simp[bu,bo,bj,aN,aQ];refine ck.new (aN (acc++[32,46,32]++dB (T.sym v)++[41])) Ψ (iU _) (by simp[fB,aN,ah,Pv.look]) (by simp only[aN,aQ];exact aH) (by simp only[aN,aQ];exact aH) ?_;simp[cz,nc,bn,bp,bk,aN,aQ,ah,Pv.look,ak,ai]
    |num v=>
     have j9:acc.length+(3+((dB (T.num v)).length+1))<=bA:=by simp[fA,dB]at aE⊢;omega
     have kw:=gf (some acc) [32,46,32] Ψ (by simp;omega);have eM:=a8 (T.num v) rV og (some (acc++[32,46,32])) (by simp;omega);have fo:=gf (some (acc++[32,46,32]++dB (T.num v))) [41] Ψ (by simp;omega);have he:acc++fA (T.num v)=acc++[32,46,32]++dB (T.num v)++[41]:=by simp[fA,dB]
     rw[he];simp[nl,aN,aQ];(with_reducible repeat' first|refine aA ?_|simp);refine bI.bd (o:=_) (kw) (by simp only[bo,bj,aN,aQ];exact aH) (by simp only[bo,bj,aN,aQ];exact aH) (by simp[ah,Pv.look,bo,bj,aN,aQ,ai,ak]) Ψ ?_;simp[bu,bo,bj,aN,aQ];(with_reducible repeat' first|refine aA ?_|simp);refine bI.bd (o:=_) (eM) (by simp only[bo,bj,aN,aQ];exact aH) (by simp only[bo,bj,aN,aQ];exact aH) (by simp[ah,Pv.look,bo,bj,aN,aQ,ai,ak]) Ψ ?_;simp[bu,bo,bj,aN,aQ];(with_reducible repeat' first|refine aA ?_|simp);refine bI.bd (o:=_) (fo) (by simp only[bo,bj,aN,aQ];exact aH) (by simp only[bo,bj,aN,aQ];exact aH) (by simp[ah,Pv.look,bo,bj,aN,aQ,ai,ak]) Ψ ?_;simp[bu,bo,bj,aN,aQ];refine ck.new (aN (acc++[32,46,32]++dB (T.num v)++[41])) Ψ (iU _) (by simp[fB,aN,ah,Pv.look]) (by simp only[aN,aQ];exact aH) (by simp only[aN,aQ];exact aH) ?_;simp[cz,nc,bn,bp,bk,aN,aQ,ah,Pv.look,ak,ai]
end
end Go.Proofs.YtlnndmgfngfeiaaGreatDoor
namespace Go.Pv
section
open Go Go.Lib
theorem KO{s:List aF}(h:fw s=true):gM s=true:=by unfold fw at h;simp only[bB]at h;exact h.2
theorem afA{k:Int}{s:List aF}{t:List ba}{g:List Gm}(h:(Gm.mk k s t g).shape=true):
  (∀x∈t,x.fits=true)/\qc g=true/\((k=0\/k=1)/\s=[]/\t=[]/\g=[]\/(2<=k/\k<=6)/\s=[]/\g=[]\/k=9/\fw s=true/\g=[]\/(k=7\/k=8\/k=10)/\s=[]/\t=[]):=by
 simp only[Gm.shape,bB]at h;obtain⟨I,J⟩:=h;refine⟨fun x ad=>gC.1 I x ad,?_⟩;split at J
 ·rename_i aa;simp only[bB,dO,List.isEmpty_iff,ef]at J;obtain⟨⟨⟨rfl,rfl⟩,av⟩,_⟩:=J;refine⟨rfl,?_⟩;by_cases fG:k=0\/k=1
  ·refine .inl ⟨fG,rfl,?_,rfl⟩;rcases fG with rfl|rfl<;>simpa[kU]using av
  ·exact .inr (.inl ⟨Ω,rfl,rfl⟩)
 ·split at J
  ·rename_i _ aa;simp only[bB,List.isEmpty_iff]at J;obtain⟨⟨av,rfl⟩,_⟩:=J;exact⟨rfl,.inr (.inr (.inl ⟨aa,av,rfl⟩))⟩
  ·split at J
   ·rename_i _ _ aa;simp only[bB,List.isEmpty_iff,dO]at J;obtain⟨⟨⟨rfl,rfl⟩,_⟩,av⟩:=J;exact⟨av,.inr (.inr (.inr ⟨Ω,rfl,rfl⟩))⟩
   ·split at J
    ·rename_i _ _ _ aa;simp only[bB,List.isEmpty_iff,dO]at J;obtain⟨⟨⟨rfl,rfl⟩,_⟩,av⟩:=J;exact⟨av,.inr (.inr (.inr ⟨Ω,rfl,rfl⟩))⟩
    ·cases J
end
section
open Go
def cut(n:Nat):Int:=if 5001<(n:Int)then 5001 else n
section
variable {V:List Int} {ph:Int->be T} {hz:Int->Int} {r:Int->Nat}
end
end
section
open Go
section
variable {V:List Int} {ph:Int->be T} {hz:Int->Int} {r:Int->Nat}
end
end
section
open Go
end
section
open Go Go.Lib
theorem FH{s:List aF}(h:gM s=true):s.length<=12:=by obtain⟨c,r,rfl,_,_,av⟩:=zJ h;simp;omega
mutual
theorem D5:∀t:T,t.ok=true->(dB t).length<=26*t.size
 | .nil,_=>by simp[dB,T.size]
 | .var n,h=>by simp only[T.ok,ef]at h;have:=itoa_length_le n Ω Ω;simp only[dB,T.size,e3];omega
 | .sym s,h=>by have:=FH (s:=s) (by simpa[T.ok]using h);simp only[dB,T.size];omega
 | .num n,h=>by simp only[T.ok,ef]at h;have:=itoa_length_le n Ω Ω;simp only[dB,T.size];omega
 | .pair a b,h=>by simp only[T.ok,bB]at h;have I:=D5 a h.1;have J:=Oy b h.2;simp only[dB,T.size,e3,dF];omega
theorem Oy:∀t:T,t.ok=true->(fA t).length<=26*t.size
 | .nil,_=>by simp[fA,T.size]
 | .var n,h=>by simp only[T.ok,ef]at h;have:=itoa_length_le n Ω Ω;simp only[fA,T.size,e3,dF,nj];omega
 | .sym s,h=>by have:=FH (s:=s) (by simpa[T.ok]using h);simp only[fA,T.size,e3,dF,nj];omega
 | .num n,h=>by simp only[T.ok,ef]at h;have:=itoa_length_le n Ω Ω;simp only[fA,T.size,e3,dF,nj];omega
 | .pair a b,h=>by simp only[T.ok,bB]at h;have I:=D5 a h.1;have J:=Oy b h.2;simp only[fA,T.size,e3,dF];omega
end
structure L2 (s t:List jM):Prop where
 sa:LX s
 sv:∀b∈s,4<=b.v/\b.v<8
 so:∀b∈s,b.t.ok=true/\b.t.size<=16/\∀w,b.t.occ w=true->0<=w/\w<4
 ta:LX t
 tk:∃k:Int,∀b∈t,0<=b.v/\b.v<4/\k<=b.v/\∀w,b.t.occ w=true->0<=w/\w<k
 to:∀b∈t,b.t.ok=true/\b.t.size<=16
def AU(t:List jM)(b:jM):jM:=⟨b.v,b.t.ap (afs t)⟩
section
variable {s t:List jM} (h:L2 s t)
include h
end
section
variable {s t:List jM} (h:L2 s t)
include h
end
end
end Go.Pv
namespace Go.Proofs.YtlnndmgfngfeiaaGreatDoor
section
open Go Go.Pv
theorem Xw(t:T)(h:t.ok=true):dB t≠[]:=by
 cases t with
 |sym s=>simp only[dB];exact RK (by simpa[T.ok]using h)
 |num n=>simp only[dB];exact s9 n
 |_=>simp[dB]
theorem Xv{t:T}(h:t.fit=true):(dB t).length<=bA:=by
 have I:=D5 t (vy h);have J:t.size<=5000:=by unfold T.fit at h;simp at h;exact h.2
 unfold bA;omega
theorem af8(t:T)(h:t.fit=true):cg aP 85 [t.e] (.str (dB t)):=by have dm:=agd t;rw[h]at dm;have kw:=Zj t.size t (da _) (vy h) none (by simpa using Xv h);have cE:=Xw t (vy h);refine bJ oE Xy adn fun aG=>?_;unfold MC;simp;((with_reducible repeat' first|refine aA ?_|refine aX dm ?_|refine aY dm ?_|simp|((first|apply cu|apply cw|apply cv)<;>intro h<;>try simp at h))<;>(try exact cK));refine bI.bd (o:=none) kw (by simp only[bo,bj,aN,aQ];exact aH) (by simp only[bo,bj,aN,aQ];exact aH) (by simp[ah,Pv.look,bo,bj,aN,aQ,ai,ak]) Ψ ?_;simp[bu,bo,bj,aN,aQ];refine RX (dB t) cE (by simp[aQ,Pv.look]) (by simp[Pv.look]) ?_;simp;simp[b1,SI,bn,bp,bk]
theorem Ua(t:ba)(h:t.fits=true):cg aP 85 [enc t] (.str (ji t)):=by obtain⟨x,rfl,ad⟩:=ba.fits_ex h;rw[Lk,sM];exact af8 x ad
theorem Ms:∀l:List aF,oQ (fK l)=some l
 |[]=>rfl
 |c::l=>by have:=Ms l;simp only[fK,eQ,oQ]at this⊢;rw[this];simp
def de(l:List (List aF)):List ag:=l.map ag.str
@[simp]theorem eo(S:aJ->Prop)(l:List (List aF)):ai S (de l)=True:=by
 apply eq_true;induction l with
 |nil=>simp[de,ai]
 |cons x r a8=>simp only[de,eQ,ai,ak]at a8⊢;exact⟨trivial,a8⟩
@[simp]theorem afR(l:List (List aF)):cO (de l)=de l:=by
 induction l with
 |nil=>rfl
 |cons x r a8=>simp only[de,eQ,cO,dr]at a8⊢;rw[a8]
@[simp]theorem akZ(l:List (List aF)):(de l).length=l.length:=by simp[de]
theorem mB{l:List (List aF)}{i:Nat}(h:i<l.length):∀cr,(de l)[i]'cr= .str l[i]:=fun _=>by simp[de]
theorem br(S:aJ->Prop):∀a b:List ag,ai S (a++b)=(ai S a/\ai S b)
 |[],b=>by simp[ai]
 |x::a,b=>by simp only[iT,ai,br S a b,and_assoc]
theorem QV(b:List aF):∀(l:List (List aF)) (k:Nat),(gv b (l.take k)).length<=(gv b l).length
 |[],k=>by simp
 |[x],k=>by cases k<;>simp[gv]
 |x::y::r,0=>by simp[gv]
 |x::y::r,1=>by simp[gv]
 |x::y::r,k+2=>by have:=QV b (y::r) (k+1);simp only[pz,gv,dF]at this⊢;omega
theorem Uc(l:List (List aF))(b:List aF)(aE:(gv b l).length<=bA):cg aP 87 [.slice 1 .no (de l),.str b] (.str (gv b l)):=by
 refine bJ oE XB adq fun aG=>?_;unfold MF;have af:l.length<=bA/\b.length<=bA:=by simpa[j1,iW,jA]using aG
 clear aG;simp;((with_reducible repeat' first|refine aA ?_|simp|((first|apply cu|apply cw|apply cv)<;>intro h<;>try simp at h))<;>(try exact cK));refine fM (fun i (acc:List aF)=>⟨[(1,.str b),(9,.slice 1 .no (de l)),(10,.int .i64 l.length),(5,.row 1 (.loc 0) acc.length),(11,.int .i64 i)],[],[(.loc 0,⟨acc.length,5,1,some (fK acc)⟩)],1,[]⟩) l.length (fun i acc=>acc=gv b (l.take i)) [] (by simp[show fK []=[]from rfl];exact⟨by simp[fresh,ai,ak,bc,ah,Pv.look,dz],cb (by simp[fresh,ai,ak,bc,ah,Pv.look,dz]),cc (by simp[fresh,ai,ak,b6,ah,Pv.look,dz]),Ψ⟩) (by simp[gv]) (fun acc al _=>?_) (fun i acc aw al _=>?_)
 ·rw[pw (da _)]at al;subst al;simp;(with_reducible repeat' first|refine aA ?_|simp);simp[vc,uM,Ms];simp[b1,SJ,bn,bp,bk]
 ·obtain⟨x,ad⟩:∃x,l[i]? =some x:=⟨_,bO aw⟩;have B0:∀h,(de l)[i]'h= .str x:=fun h=>by rw[mB aw,bO aw]at*;cases ad;rfl
  have hle:=QV b l (i+1);have zs:=ab8 b l ad;rw[zs]at hle;have er:(fK acc).length=acc.length:=by simp[fK]
  have b2:aZ ((i:Int)+1):=by unfold aZ;have:=af.1;unfold bA at this;omega
  by_cases bD:i=0
  ·rw[bN bD]at hle zs;have Bm:¬0<i:=Ω
   have ft:acc=[]:=by rw[al,bD];simp[gv]
   have hI:acc.length+x.length<=bA:=by rw[ft];simp;omega
   simp[aw,B0];(with_reducible repeat' first|refine aA ?_|simp[aw,B0,Bm,er,hI]);refine bP.rng (acc++x) aw (by rw[ft];exact zs.symm) ?_;exact⟨by simp[fresh,ai,ak,bc,ah,Pv.look,dz,w1,br],cb (by simp[fresh,ai,ak,bc,ah,Pv.look,dz,w1,br]),cc (by simp[fresh,ai,ak,b6,ah,Pv.look,dz,w1,br]),Ψ⟩
  ·rw[bf bD]at hle zs;have Bm:0<i:=Ω
   rw[<-al]at hle zs;simp only[dF]at hle;have hI:acc.length+b.length<=bA:=Ω
   have fV:acc.length+b.length+x.length<=bA:=Ω
   have ZT:(fK acc++fK b).length=acc.length+b.length:=by simp[fK]
   simp[aw,B0];(with_reducible repeat' first|refine aA ?_|simp[aw,B0,Bm,er,hI,fV,ZT]);refine bP.rng (acc++b++x) aw zs.symm ?_;exact⟨by simp[fresh,ai,ak,bc,ah,Pv.look,dz,w1,Nat.add_assoc,br],cb (by simp[fresh,ai,ak,bc,ah,Pv.look,dz,w1,Nat.add_assoc,br]),cc (by simp[fresh,ai,ak,b6,ah,Pv.look,dz,w1,Nat.add_assoc,br]),Ψ⟩
theorem GF(d:Nat)(h:d<10):IntKind.u8.wrap (48+(d:Int))=((48+d:Nat):Int):=by rcases(by omega:d=0\/d=1\/d=2\/d=3\/d=4\/d=5\/d=6\/d=7\/d=8\/d=9)with rfl|rfl|rfl|rfl|rfl|rfl|rfl|rfl|rfl|rfl<;>rfl
theorem Oh(d:Nat):pA (48+(d:Int)).toNat=48+pA d:=by rw[show(48+(d:Int)).toNat=48+d by omega];simp
theorem Og(d:Nat)(h:d<10):pA (IntKind.u8.wrap (48+(d:Int))).toNat=48+pA d:=by rw[GF d h,Int.toNat_natCast];simp
theorem Oa(m:Nat)(h:m<18446744073709551616):(Lib.decDigits m).length<=25:=by
 have:∀(k:Nat) (m:Nat),m<10 ^ (k+1)->(Lib.decDigits m).length<=k+1:=by
  intro k;induction k with
  |zero=>intro m hm;rw[sJ (by simpa using hm)];simp
  |succ k a8=>
   intro m hm;by_cases h:m<10
   ·rw[sJ h];simp
   ·rw[vv Ω,dF];have:=a8 (m/10) (by rw[Nat.pow_succ]at hm;omega);simp;omega
 exact this 24 m Ω
theorem afo(m:Nat)(h:m<=9223372036854775807):cg aP 57 [.int .i64 m] (.str (Lib.decDigits m)):=by
 have bD:¬(m:Int)<0:=Ω
 have kz:=Oa m Ω;generalize bh:Lib.decDigits m=R at kz;refine bJ lv HZ Kj fun aG=>?_;unfold DF;clear aG;simp;(with_reducible repeat' first|refine aA ?_|simp[bD]);refine gZ (fun(x:Nat×List aF)=>⟨[(0,.int .i64 x.1),(3,.str x.2)],[],[],0,[]⟩) (fun x=>x.1) (fun x=>x.1<=9223372036854775807/\Lib.decDigits x.1++x.2=R) (m,[]) (by simp;exact c8) ⟨h,by simp[bh]⟩ ?_;rintro⟨j,o⟩ ⟨I,J⟩ _;simp only at I J;have qL:o.length<=25:=by rw[<-J]at kz;simp at kz;omega
 have ig:1+o.length<=bA:=by unfold bA;omega
 have j9:o.length+1<=bA:=by unfold bA;omega
 by_cases al:9<j
 ·have a7:(j:Int).tdiv 10=(j/10:Nat):=by rw[Int.tdiv_eq_ediv_of_nonneg Ω];omega
  have hm:(j:Int).tmod 10=(j%10:Nat):=by rw[Int.tmod_eq_emod_of_nonneg Ω];omega
  have xS:=GF (j%10) Ω;have fh:aZ (48+((j%10:Nat):Int)):=by unfold aZ;omega
  have hw:iF.wrap ((j/10:Nat):Int)=((j/10:Nat):Int):=lx _ Ω;have Jn:iF.wrap ((j%10:Nat):Int)=((j%10:Nat):Int):=lx _ Ω;have B7:iF.wrap ((j:Int)/10)=(j:Int)/10:=lx _ Ω;have B8:pA (IntKind.u8.wrap (48+(j:Int)%10)).toNat=48+pA (j%10):=by have:=Og (j%10) Ω;rwa[Int.natCast_emod]at this
  have kO:(9:Int)<j:=Ω
  rw[vv Ω]at J;simp[kO,al];(with_reducible repeat' first|refine aA ?_|simp[a7,hm,xS,fh,hw,Jn,ig,j9]);refine bP.whl (j/10,pA (48+j%10)::o) (by simp;omega) ⟨by simp;omega,by rw[<-J];simp⟩ ⟨by simp[fresh,ai,ak,bc,ah,Pv.look,B7,B8],cb (by simp[fresh,ai,ak,bc,ah,Pv.look,B7,B8]),cc (by simp[fresh,ai,ak,b6,ah,Pv.look,B7,B8]),Ψ⟩
 ·have kO:¬(9:Int)<j:=Ω
  have xS:=GF j Ω;have fh:aZ (48+(j:Int)):=by unfold aZ;omega
  rw[sJ Ω]at J;subst J;simp[kO,al];(with_reducible repeat' first|refine aA ?_|simp[xS,fh,ig,j9]);simp[b1,F6,bn,bp,bk];exact Oh j
theorem afn:∀m:Nat,1<=m->m<=9223372036854775808->cg aP 57 [.int .i64 (-(m:Int))] (.str (45::Lib.decDigits m)):=by
 intro m;induction m using Nat.strongRecOn with
 |_ m a8=>
 intro I J;have bD:0<m:=Ω
 have kz:=Oa m Ω;have a7:(-(m:Int)).tdiv 10= -((m/10:Nat):Int):=by rw[Int.neg_tdiv,Int.tdiv_eq_ediv_of_nonneg Ω];omega
 have hm:(-(m:Int)).tmod 10= -((m%10:Nat):Int):=by rw[Int.neg_tmod,Int.tmod_eq_emod_of_nonneg Ω];omega
 have hw:iF.wrap (-((m/10:Nat):Int))= -((m/10:Nat):Int):=lx _ Ω;have Jn:iF.wrap (-((m%10:Nat):Int))= -((m%10:Nat):Int):=lx _ Ω;by_cases ao:m<10
 ·have cn:m/10=0:=Ω
  have xS:=GF m ao;have fh:aZ (48+(m:Int)):=by unfold aZ;omega
  have qG:(-(m:Int)).tdiv 10=0:=by rw[a7,cn];rfl
  have abu:iF.wrap 0=0:=rfl;have xR:(48:Int)- -(m:Int)=48+m:=Ω
  rw[sJ ao];refine bJ lv HZ Kj fun aG=>?_;unfold DF;clear aG;simp;(with_reducible repeat' first|refine aA ?_|simp[bD,qG,abu,xR,xS,fh]);simp[b1,F6,bn,bp,bk];exact Oh m
 ·have bg:(-(m:Int)).tdiv 10= -((m:Int)/10):=by rw[a7];simp
  have hB:(-(m:Int)).tmod 10= -((m:Int)%10):=by rw[hm];simp
  have B7:iF.wrap (-((m:Int)/10))= -((m:Int)/10):=lx _ Ω;have B8:iF.wrap (-((m:Int)%10))= -((m:Int)%10):=lx _ Ω;have aa4:((-((m:Int)/10))==0)=false:=jL.2 Ω;have cB:=a8 (m/10) Ω Ω Ω;rw[Int.natCast_ediv]at cB;have xS:pA (IntKind.u8.wrap (48+(m:Int)%10)).toNat=48+pA (m%10):=by have:=Og (m%10) Ω;rwa[Int.natCast_emod]at this
  have fh:aZ (48+(m:Int)%10):=by unfold aZ;omega
  have xR:(48:Int)- -((m:Int)%10)=48+(m:Int)%10:=Ω
  rw[vv Ω]at kz⊢;simp at kz;have ig:(Lib.decDigits (m/10)).length+1+1<=bA:=by unfold bA;omega
  clear a7 hm hw Jn a8 kz;refine bJ lv HZ Kj fun aG=>?_;unfold DF;clear aG;simp;(with_reducible repeat' first|refine aA ?_|refine aX cB ?_|refine aY cB ?_|simp[bD,bg,hB,B7,B8,aa4,xR,xS,fh,ig]);simp[b1,F6,bn,bp,bk]
theorem yw(n:Int)(h:aZ n):cg aP 57 [.int .i64 n] (.str (b8 n)):=by
 unfold aZ at h;unfold b8;by_cases bD:n<0
 ·rw[bN bD];have:=afn n.natAbs Ω Ω;rwa[show-(n.natAbs:Int)=n by omega]at this
 ·rw[bf bD];have:=afo n.toNat Ω;rwa[show(n.toNat:Int)=n by omega]at this
mutual
def _root_.Go.Pv.Gm.w:Gm->Nat
 | .mk _ _ t g=>1+ba.szL t+El g
def El:List Gm->Nat
 |[]=>0
 |x::xs=>x.w+El xs
end
theorem Pw:∀l:List Gm,El l=(l.map Gm.w).sum
 |[]=>rfl
 |x::l=>by simp[El,Pw l]
theorem TS:∀l:List ba,ba.szL l=(l.map ba.sz).sum
 |[]=>rfl
 |x::l=>by simp[ba.szL,TS l]
theorem Dc(g:Gm):g.w=1+(g.ts.map ba.sz).sum+(g.gs.map Gm.w).sum:=by rw[<-Pw,<-TS];cases g;rfl
theorem ab7(L:List (List aF)):(gv [32] L).length<=(L.map fun x=>x.length+1).sum:=by
 induction L with
 |nil=>simp[gv]
 |cons x r a8=>
  cases r with
  |nil=>simp[gv]
  |cons y r=>simp only[gv,dF,eQ,List.sum_cons,List.length_singleton]at a8⊢;omega
theorem afX{t:ba}(h:t.fits=true):(ji t).length<=26*t.sz:=by
 obtain⟨x,rfl,J⟩:=ba.fits_ex h;have:=D5 x (vy J);rw[Lk];have e:x.tm.sz=x.size:=by
  clear this J h;induction x with
  |pair a b s7 s8=>simp[T.tm,ba.sz,ba.szL,T.size,s7,s8];omega
  |_=>rfl
 omega
theorem y5(g:Gm):fl g=if g.kind=0\/g.kind=1 then kM g.kind else 40::(gv [32] ((if g.kind=9 then g.name else kM g.kind)::(g.ts.map ji++g.gs.map fl))++[41]):=by cases g;simp only[fl,HU,Gm.kind,Gm.name,Gm.ts,Gm.gs];rfl
theorem PR(k:Int):(kM k).length<=12:=by
 unfold kM;repeat' split
 all_goals decide
theorem K8{g:Gm}(h:g.shape=true):g.name.length<=12:=by
 rw[pg,bB]at h;obtain⟨_,h⟩:=h;split at h
 ·simp at h;rw[h.1.1.1];simp
 ·split at h
  ·simp at h;have:=h.1.1;unfold fw at this;rw[bB]at this;exact FH this.2
  ·split at h
   ·simp at h;rw[h.1.1.1];simp
   ·split at h
    ·simp at h;rw[h.1.1.1];simp
    ·cases h
theorem Lj{α:Type}{f g:α->Nat}{k:Nat}:∀{l:List α},(∀x∈l,f x<=k*g x)->(l.map f).sum<=k*(l.map g).sum
 |[],_=>by simp
 |x::l,h=>by have I:=h x Ψ;have J:=Lj (l:=l) fun y bC=>h y (by simp[bC]);simp only[eQ,List.sum_cons,Nat.mul_add];omega
theorem HV:∀(n:Nat) (g:Gm),g.sz<=n->g.shape=true->(fl g).length+1<=30*g.w:=by
 intro n;induction n with
 |zero=>intro g aO;have:=g.sz_pos;omega
 |succ n a8=>
  intro g aO ao;rw[y5,Dc];split
  ·have:=PR g.kind;omega
  ·have I:(if g.kind=9 then g.name else kM g.kind).length<=12:=by
    split
    ·exact K8 ao
    ·exact PR _
   have J:=ab7 ((if g.kind=9 then g.name else kM g.kind)::(g.ts.map ji++g.gs.map fl));have av:((g.ts.map ji).map fun x=>x.length+1).sum<=27*(g.ts.map ba.sz).sum:=by
    rw[List.map_map];refine Lj fun t aI=>?_;have:=afX (se ao t aI);have bq:1<=t.sz:=by cases t;simp[ba.sz]
    simp only[Function.comp];omega
   have aV:((g.gs.map fl).map fun x=>x.length+1).sum<=30*(g.gs.map Gm.w).sum:=by rw[List.map_map];exact Lj fun x ad=>a8 x (by have:=g.gs_lt ad;omega) (qd ao x ad)
   simp only[eQ,List.map_append,List.sum_cons,List.sum_append]at J;simp only[e3,dF,nj];omega
abbrev TU:List (Int×ag):=np 10 (.str [110,111,116]) (np 8 (.str [111,114]) (np 7 (.str [97,110,100]) (np 6 (.str [97,98,115,101,110,116]) (np 5 (.str [110,117,109,98,101,114]) (np 4 (.str [115,121,109,98,111,108]) (np 3 (.str [47,61]) (np 2 (.str [61]) [])))))))
theorem FC(f:aJ->be (List ag))(m:aJ)(k:Int)(hm:f m=some (lY TU)):qQ f .i (.str []) false (.gmap m) (.int .i64 k)=some (True,.str (if k=0\/k=1 then []else kM k)):=by
 rw[mW _ _ _ _ false k hm];have e:TU=[(2,.str [61]),(3,.str [47,61]),(4,.str [115,121,109,98,111,108]),(5,.str [110,117,109,98,101,114]),(6,.str [97,98,115,101,110,116]),(7,.str [97,110,100]),(8,.str [111,114]),(10,.str [110,111,116])]:=rfl;rw[e];by_cases J:k=2
 ·subst J;rfl
 by_cases av:k=3
 ·subst av;rfl
 by_cases aV:k=4
 ·subst aV;rfl
 by_cases bE:k=5
 ·subst bE;rfl
 by_cases ch:k=6
 ·subst ch;rfl
 by_cases dD:k=7
 ·subst dD;rfl
 by_cases fa:k=8
 ·subst fa;rfl
 by_cases e9:k=10
 ·subst e9;rfl
 have h:(if k=0\/k=1 then([]:List aF)else kM k)=[]:=by
  split
  ·rfl
  ·rename_i h;rw[not_or]at h;simp[kM,J,av,aV,bE,ch,dD,fa,e9,h.1,h.2]
 rw[h];simp[vn,J,av,aV,bE,ch,dD,fa,e9]
def sE(g:Gm)(i:Nat)(p:List (List aF)):bb:=⟨[(1,.ptr (.loc 0) 0),(4,.slice 1 (.own (.loc 2)) (de p)),(27,.slice 4 .no (g.ts.map enc)),(28,.int .i64 g.ts.length),(29,.int .i64 i)],[(.loc 0,[.int .i64 g.kind,.str g.name,.slice 4 .no (g.ts.map enc),.slice 4 .no (g.gs.map Gm.e)])],[(.loc 2,⟨p.length,9,1,none⟩)],3,[]⟩
def sF(g:Gm)(i:Nat)(p:List (List aF)):bb:=⟨[(4,.slice 1 (.own (.loc 2)) (de p)),(40,.slice 4 .no (g.gs.map Gm.e)),(41,.int .i64 g.gs.length),(42,.int .i64 i)],[],[(.loc 2,⟨p.length,9,1,none⟩)],3,[]⟩
theorem FA{α β:Type}(f:α->β){l:List α}{i:Nat}{x:α}(h:l[i]? =some x):(l.map f).take (i+1)=(l.map f).take i++[f x]:=by rw[jw,oG,h];simp
theorem qf(x:List aF)(l:List (List aF)):de (x::l)= .str x::de l:=rfl
theorem q3:de []=[]:=rfl
theorem u3(a b:List (List aF)):de (a++b)=de a++de b:=List.map_append
theorem JL{α:Type}(f:α->Nat){x:α}:∀{l:List α},x∈l->f x<=(l.map f).sum
 |y::l,h=>by
  simp only[eQ,List.sum_cons];rcases gH.1 h with rfl|h
  ·omega
  ·have:=JL f h;omega
theorem eG(S:aJ->Prop)(l:List (List aF)):ai S (l.map ag.str)=True:=eo S l
theorem GB:∀(n:Nat) (g:Gm),g.sz<=n->g.shape=true->g.w<=100000000->cg aP 65 [g.e] (.str (fl g)):=by
 intro n;induction n with
 |zero=>intro g aO;have:=g.sz_pos;omega
 |succ n a8=>
 intro g aO ao hw;refine bJ kk XI adx fun aG=>?_;unfold MM;clear aG;simp;by_cases bD:g.kind=0
 ·rw[show fl g=ng by rw[y5,bD];rfl];(with_reducible repeat' first|refine aA ?_|simp[FC,bD,-mW]);simp[b1,Ku,bn,bp,bk];rfl
 by_cases I:g.kind=1
 ·rw[show fl g=nP by rw[y5,I];rfl];(with_reducible repeat' first|refine aA ?_|simp[FC,I,-mW]);simp[b1,Ku,bn,bp,bk];rfl
 have vH:(g.kind==0)=false:=jL.2 bD;have mN:(g.kind==1)=false:=jL.2 I;have lQ:=u0 ao;have Ih:¬(g.kind=0\/g.kind=1):=fun h=>h.elim bD I;by_cases eb:g.kind=9
 ·(with_reducible repeat' first|refine aA ?_|simp[FC,eb,-mW]);refine fM (sE g) g.ts.length (fun i p=>p=g.name::(g.ts.map ji).take i) [g.name] (by simp[sE,qf,q3,eb];exact c8) Ψ (fun p al _=>?_) (fun i p aw al _=>?_)
  ·rw[<-qk (f:=ji),jl]at al;subst al;simp[sE];(with_reducible repeat' first|refine aA ?_|simp);refine fM (sF g) g.gs.length (fun i p=>p=g.name::(g.ts.map ji++(g.gs.map fl).take i)) (g.name::g.ts.map ji) (by simp[sF,qf];exact c8) Ψ (fun p al _=>?_) (fun i p aw al _=>?_)
   ·rw[<-qk (f:=fl),jl]at al;have BA:fl g=40::(gv [32] p++[41]):=by rw[y5,bf Ih,al];simp[eb,eb]
    have oY:=HV g.sz g (da _) ao;rw[BA]at oY⊢;simp only[e3,dF,nj]at oY;have ig:(gv [32] p).length<=bA:=by unfold bA;omega
    have j9:(gv [32] p).length+1<=bA:=by unfold bA;omega
    have aaN:(gv [32] p).length+1+1<=bA:=by unfold bA;omega
    have aaO:1+(gv [32] p).length<=bA:=by unfold bA;omega
    have aaP:1+(gv [32] p).length+1<=bA:=by unfold bA;omega
    have rZ:=Uc p [32] ig;clear al BA oY a8;simp[sF];exact bZ
   ·obtain⟨x,ad,dn⟩:=gd aw;have oh:=eR ad;have eM:=a8 x (by have:=g.gs_lt oh;omega) (qd ao x oh) (by rw[Dc]at hw;have:=JL Gm.w oh;omega)
    have gS:p.length+1<=bA:=by rw[al];simp;unfold bA;omega
    have b2:aZ ((i:Int)+1):=by unfold aZ;omega
    have aK:p++[fl x]=g.name::(g.ts.map ji++(g.gs.map fl).take (i+1)):=by rw[al,FA fl ad];simp
    clear a8 al ad;simp[sF,aw,dn];(with_reducible repeat' first|refine aA ?_|refine aX eM ?_|refine aY eM ?_|simp[aw,dn,gS,b2]);refine bP.rng (p++[fl x]) aw aK (by simp[sF,u3,qf,q3];exact⟨by simp[fresh,ai,ak,bc,ah,Pv.look,br],cb (by simp[fresh,ai,ak,bc,ah,Pv.look,br]),cc (by simp[fresh,ai,ak,b6,ah,Pv.look,br]),Ψ⟩)
  ·obtain⟨x,ad,dn⟩:=gd aw;have eM:=Ua x (se ao x (eR ad));have gS:p.length+1<=bA:=by rw[al];simp;unfold bA;omega
   have b2:aZ ((i:Int)+1):=by unfold aZ;omega
   have aK:p++[ji x]=g.name::(g.ts.map ji).take (i+1):=by rw[al,FA ji ad];simp
   clear a8 al ad;simp[sE,aw,dn];(with_reducible repeat' first|refine aA ?_|refine aX eM ?_|refine aY eM ?_|simp[aw,dn,gS,b2]);refine bP.rng (p++[ji x]) aw aK (by simp[sE,u3,qf,q3];exact⟨by simp[fresh,ai,ak,bc,ah,Pv.look,br],cb (by simp[fresh,ai,ak,bc,ah,Pv.look,br]),cc (by simp[fresh,ai,ak,b6,ah,Pv.look,br]),Ψ⟩)
 ·have PJ:(g.kind==9)=false:=jL.2 eb;(with_reducible repeat' first|refine aA ?_|simp[FC,vH,mN,PJ,Ih,-mW]);refine fM (sE g) g.ts.length (fun i p=>p=kM g.kind::(g.ts.map ji).take i) [kM g.kind] (by simp[sE,qf,q3,eb];exact c8) Ψ (fun p al _=>?_) (fun i p aw al _=>?_)
  ·rw[<-qk (f:=ji),jl]at al;subst al;simp[sE];(with_reducible repeat' first|refine aA ?_|simp);refine fM (sF g) g.gs.length (fun i p=>p=kM g.kind::(g.ts.map ji++(g.gs.map fl).take i)) (kM g.kind::g.ts.map ji) (by simp[sF,qf];exact c8) Ψ (fun p al _=>?_) (fun i p aw al _=>?_)
   ·rw[<-qk (f:=fl),jl]at al;have BA:fl g=40::(gv [32] p++[41]):=by rw[y5,bf Ih,al];simp[PJ,eb]
    have oY:=HV g.sz g (da _) ao;rw[BA]at oY⊢;simp only[e3,dF,nj]at oY;have ig:(gv [32] p).length<=bA:=by unfold bA;omega
    have j9:(gv [32] p).length+1<=bA:=by unfold bA;omega
    have aaN:(gv [32] p).length+1+1<=bA:=by unfold bA;omega
    have aaO:1+(gv [32] p).length<=bA:=by unfold bA;omega
    have aaP:1+(gv [32] p).length+1<=bA:=by unfold bA;omega
    have rZ:=Uc p [32] ig;clear al BA oY a8;simp[sF];exact bZ
   ·obtain⟨x,ad,dn⟩:=gd aw;have oh:=eR ad;have eM:=a8 x (by have:=g.gs_lt oh;omega) (qd ao x oh) (by rw[Dc]at hw;have:=JL Gm.w oh;omega)
    have gS:p.length+1<=bA:=by rw[al];simp;unfold bA;omega
    have b2:aZ ((i:Int)+1):=by unfold aZ;omega
    have aK:p++[fl x]=kM g.kind::(g.ts.map ji++(g.gs.map fl).take (i+1)):=by rw[al,FA fl ad];simp
    clear a8 al ad;simp[sF,aw,dn];(with_reducible repeat' first|refine aA ?_|refine aX eM ?_|refine aY eM ?_|simp[aw,dn,gS,b2]);refine bP.rng (p++[fl x]) aw aK (by simp[sF,u3,qf,q3];exact⟨by simp[fresh,ai,ak,bc,ah,Pv.look,br],cb (by simp[fresh,ai,ak,bc,ah,Pv.look,br]),cc (by simp[fresh,ai,ak,b6,ah,Pv.look,br]),Ψ⟩)
  ·obtain⟨x,ad,dn⟩:=gd aw;have eM:=Ua x (se ao x (eR ad));have gS:p.length+1<=bA:=by rw[al];simp;unfold bA;omega
   have b2:aZ ((i:Int)+1):=by unfold aZ;omega
   have aK:p++[ji x]=kM g.kind::(g.ts.map ji).take (i+1):=by rw[al,FA ji ad];simp
   clear a8 al ad;simp[sE,aw,dn];(with_reducible repeat' first|refine aA ?_|refine aX eM ?_|refine aY eM ?_|simp[aw,dn,gS,b2]);refine bP.rng (p++[ji x]) aw aK (by simp[sE,u3,qf,q3];exact⟨by simp[fresh,ai,ak,bc,ah,Pv.look,br],cb (by simp[fresh,ai,ak,bc,ah,Pv.look,br]),cc (by simp[fresh,ai,ak,b6,ah,Pv.look,br]),Ψ⟩)
theorem Tt:de ju=[.str [116,114,117,101],.str [102,97,105,108],.str [115,121,109,98,111,108],.str [110,117,109,98,101,114],.str [97,98,115,101,110,116],.str [97,110,100],.str [111,114],.str [110,111,116],.str [100,101,102,105,110,101]]:=rfl
theorem Up(s:List aF):cg aP 128 [.str s] (.bool (fw s)):=by
 have bX:=gP s;generalize bh:fw s=R;refine bJ lv XZ adO fun aG=>?_;unfold M3;clear aG;simp[<-Tt];refine⟨by rw[Tt];simp[qs],?_⟩;refine fM (fun i (_:Unit)=>⟨[(0,.str s),(5,.slice 1 (.own (.loc 0)) (de ju)),(6,.int .i64 ju.length),(7,.int .i64 i)],[],[(.loc 0,⟨9,9,1,none⟩)],1,[]⟩) ju.length (nF (fun w=>w !=s) ju) () c8 (fun k b aa=>Ω) (fun _ al _=>?_) (fun i _ aw al _=>?_)
 ·have aK:ju.contains s=false:=by
   have:=(show nF (fun w=>w !=s) ju ju.length ()from al).fin;rw[gC]at this;cases aD:ju.contains s with
   |false=>rfl
   |true=>
    have I:s∈ju:=by simpa using aD
    have:=this s I;simp at this
  have:R=gM s:=by rw[<-bh,fw,aK];rfl
  rw[this];clear bh al;exact bZ
 ·have ie:i<ju.length:=aw;obtain⟨w,hw⟩:∃w,ju[i]? =some w:=⟨_,bO ie⟩;have abw:∀h,((de ju)[i]'h)= .str w:=fun h=>by rw[mB ie];rw[bO ie]at hw;rw[dZ hw]
  have aiS:(i:Int)<9:=by have h:i<9:=ie;omega
  have b2:aZ ((i:Int)+1):=by unfold aZ;omega
  have aaQ:i<(de ju).length:=ie;have B0:(de ju)[i]? =some (.str w):=by rw[bO aaQ,abw]
  by_cases he:w=s
  ·have:R=false:=by
    rw[<-bh,fw];have:ju.contains s=true:=by rw[<-he];simpa using eR hw
    rw[this];rfl
   subst this;subst he;clear bh al;exact bZ
  ·have aK:=al.step hw (by simpa using he);have aiM:(w==s)=false:=by simpa using he
   clear bh al;exact qU
def wD(k:Int)(n:Int):Int:=if k=9 then n else kU k
def hdS(g:Gm):Prop:=(g.ts.length:Int)=wD g.kind g.ts.length/\g.ts.length<=4/\(g.kind<7->g.gs=[])/\g.gs.length<=8
def sg(g:Gm):Bool:=if g.kind=6 then(match g.ts with|x::_=>decide (x.kind=2)|[]=>false)else if g.kind=9 then g.gs.isEmpty&&fw g.name else if g.kind=10 then(match g.gs with|[x]=>decide (x.kind=9)|_=>false)else true
theorem acT(k:Int):0<=kU k/\kU k<=2:=by
 unfold kU;repeat' split
 all_goals omega
theorem TI(g:Gm):g.shape=true↔(0<=g.kind/\g.kind<=10)/\(g.kind≠9->g.name=[])/\g.ts.all ba.fits=true/\hdS g/\g.gs.all Gm.shape=true/\sg g=true:=by
 rw[pg,bB];have aK:=acT g.kind;unfold hdS wD sg;by_cases I:0<=g.kind/\g.kind<=6
 ·rw[bN I,bf (show¬g.kind=9 by omega)];by_cases ch:g.kind=6
  ·simp[ch];constructor
   ·rintro⟨a,⟨⟨b,c⟩,d⟩,e⟩;rw[c]at*;refine⟨b,a,⟨d,by rw[ch]at aK;omega,rfl,Ψ⟩,Ψ,e⟩
   ·rintro⟨a,b,⟨c,d,e,_⟩,_,f⟩;exact⟨b,⟨⟨a,e⟩,c⟩,f⟩
  ·have Cv:¬g.kind=9:=Ω
   have n10:¬g.kind=10:=Ω
   simp[ch,Cv,n10];constructor
   ·rintro⟨a,⟨b,c⟩,d⟩;rw[c];exact⟨Ω,b,a,⟨d,Ω,fun _=>rfl,Ψ⟩,Ψ⟩
   ·rintro⟨_,a,b,⟨c,d,e,_⟩,_⟩;exact⟨b,⟨a,e Ω⟩,c⟩
 ·rw[bf I];by_cases eb:g.kind=9
  ·simp[eb];intro _;constructor
   ·rintro⟨⟨b,c⟩,d⟩;rw[c];exact⟨⟨d,Ψ⟩,Ψ,rfl,b⟩
   ·rintro⟨⟨b,c⟩,d,e,f⟩;exact⟨⟨f,e⟩,b⟩
  ·rw[bf eb];by_cases xr:g.kind=7\/g.kind=8
   ·rw[bN xr];have cn:kU g.kind=0:=by rcases xr with h|h<;>rw[h]<;>rfl
    rw[cn];rcases xr with h|h;all_goals
     simp[h]
     constructor
     ·rintro⟨a,⟨⟨b,c⟩,d⟩,e⟩
      rw[c];exact⟨b,Ψ,⟨rfl,Ψ,d⟩,e⟩
     ·rintro⟨a,b,⟨c,d,e⟩,f⟩
      exact⟨b,⟨⟨a,c⟩,e⟩,f⟩
   ·rw[bf xr];by_cases e9:g.kind=10
    ·simp[e9,kU];constructor
     ·rintro⟨a,⟨⟨b,c⟩,d⟩,e⟩;rw[c];refine⟨b,Ψ,⟨rfl,Ψ,?_⟩,e,d⟩;split at d
      ·rename_i x ad;rw[ad];simp
      ·cases d
     ·rintro⟨a,b,⟨c,d,e⟩,f,h⟩;exact⟨b,⟨⟨a,c⟩,h⟩,f⟩
    ·rw[bf e9];constructor
     ·rintro⟨_,h⟩;cases h
     ·rintro⟨h,_⟩;omega
theorem afw(g:Gm)(h:¬(0<=g.kind/\g.kind<=10)):cg aP 211 [g.e] (.bool false):=by have dx:=ee g.kind 0 10;rw[ly h]at dx;refine bJ lv sP tl fun aG=>?_;unfold rr;clear aG;exact bZ
theorem afy(g:Gm)(h:0<=g.kind/\g.kind<=10)(eb:¬g.kind=9)(aK:g.name.isEmpty=false):cg aP 211 [g.e] (.bool false):=by
 have dx:=ee g.kind 0 10;rw[k2 h]at dx;have xt:(g.kind !=9)=true:=by simpa using eb
 refine bJ lv sP tl fun aG=>?_;unfold rr;clear aG;exact bZ
theorem afz(g:Gm)(h:0<=g.kind/\g.kind<=10)(aK:g.kind≠9->g.name.isEmpty=true)(aI:g.ts.all ba.fits=false):cg aP 211 [g.e] (.bool false):=by
 have dx:=ee g.kind 0 10;rw[k2 h]at dx;have ek:=LF g.ts;rw[aI]at ek;by_cases eb:g.kind=9
 ·have xt:(g.kind !=9)=false:=by simpa using eb
  refine bJ lv sP tl fun aG=>?_;unfold rr;clear aG;simp;((with_reducible repeat' first|refine aA ?_|refine aX dx ?_|refine aY dx ?_|refine aX ek ?_|refine aY ek ?_|simp[xt]|((first|apply cu|apply cw|apply cv)<;>intro h<;>try simp at h))<;>(try exact cK));simp[b1,Ab,bn,bp,bk]
 ·have xt:(g.kind !=9)=true:=by simpa using eb
  have hb:=aK eb;refine bJ lv sP tl fun aG=>?_;unfold rr;clear aG;exact bZ
set_option maxRecDepth 8000 in
theorem afv(g:Gm)(h:0<=g.kind/\g.kind<=10)(aK:g.kind≠9->g.name.isEmpty=true)(aI:g.ts.all ba.fits=true)(hB:¬hdS g):cg aP 211 [g.e] (.bool false):=by
 have dx:=ee g.kind 0 10;rw[k2 h]at dx;have ek:=LF g.ts;rw[aI]at ek;have o0:g.kind=0\/g.kind=1\/g.kind=2\/g.kind=3\/g.kind=4\/g.kind=5\/g.kind=6\/g.kind=7\/g.kind=8\/g.kind=9\/g.kind=10:=Ω
 have hb:g.kind≠9->g.name.isEmpty=true:=aK;have xH:∀l:List Gm,decide ((0:Int)<l.length)= !l.isEmpty:=fun l=>by cases l<;>simp
 clear h aI aK;have En:¬((g.ts.length:Int)=wD g.kind g.ts.length/\g.ts.length<=4/\(g.kind<7->g.gs=[])/\g.gs.length<=8):=hB;clear hB;by_cases eb:g.kind=9
 ·rw[eb]at En dx;simp[wD]at En;clear o0 hb;refine bJ lv sP tl fun aG=>?_;unfold rr;clear aG;simp;simp[eb];((with_reducible repeat' first|refine aA ?_|refine aX dx ?_|refine aY dx ?_|refine aX ek ?_|refine aY ek ?_|simp[eb,xH]|((first|apply cu|apply cw|apply cv)<;>intro h<;>try simp at h))<;>(try exact cK));all_goals first|(simp[b1,Ab,bn,bp,bk];done)|(exfalso;clear dx ek;simp_all;done)|(exfalso;clear dx ek;simp_all;omega)|(exfalso;clear dx ek;grind)
 have o0:g.kind=0\/g.kind=1\/g.kind=2\/g.kind=3\/g.kind=4\/g.kind=5\/g.kind=6\/g.kind=7\/g.kind=8\/g.kind=10:=Ω
 rcases o0 with aa|aa|aa|aa|aa|aa|aa|aa|aa|aa;all_goals
  rw[aa]at En
  simp[wD,kU]at En
  have hM:=hb Ω
  rw[aa]at dx
  refine bJ lv sP tl fun aG=>?_;unfold rr
  clear aG
  simp
  simp[aa]
  ((with_reducible repeat' first|refine aA ?_|refine aX dx ?_|refine aY dx ?_|refine aX ek ?_|refine aY ek ?_|simp[aa,hM,xH]|((first|apply cu|apply cw|apply cv)<;>intro h<;>try simp at h))<;>(try exact cK))
  all_goals first|(simp[b1,Ab,bn,bp,bk];done)|(exfalso;clear dx ek;simp_all;done)|(exfalso;clear dx ek;simp_all;omega)|(exfalso;clear dx ek;grind)
def jn(g:Gm)(i:Nat)(_:Unit):bb:=⟨[(1,.ptr (.loc 0) 0),(61,.slice 4 .no (g.gs.map Gm.e)),(62,.int .i64 g.gs.length),(63,.int .i64 i)],[(.loc 0,[.int .i64 g.kind,.str g.name,.slice 4 .no (g.ts.map enc),.slice 4 .no (g.gs.map Gm.e)])],[],2,[]⟩
set_option maxRecDepth 8000 in
theorem afx(g:Gm)(h:0<=g.kind/\g.kind<=10)(aK:g.kind≠9->g.name.isEmpty=true)(aI:g.ts.all ba.fits=true)(hB:hdS g)(a8:∀x∈g.gs,cg aP 211 [x.e] (.bool x.shape)):cg aP 211 [g.e] (.bool (g.gs.all Gm.shape&&sg g)):=by
 have dx:=ee g.kind 0 10;rw[k2 h]at dx;have ek:=LF g.ts;rw[aI]at ek;have o0:g.kind=0\/g.kind=1\/g.kind=2\/g.kind=3\/g.kind=4\/g.kind=5\/g.kind=6\/g.kind=7\/g.kind=8\/g.kind=9\/g.kind=10:=Ω
 have hb:g.kind≠9->g.name.isEmpty=true:=aK;have xH:∀l:List Gm,decide ((0:Int)<l.length)= !l.isEmpty:=fun l=>by cases l<;>simp
 clear h aI aK;obtain⟨bQ,b3,eV,l7⟩:=hB;have qv:¬(4:Int)<g.ts.length:=Ω
 have pF:¬(8:Int)<g.gs.length:=Ω
 generalize bh:(g.gs.all Gm.shape&&sg g)=R;have zr:g.gs.length<=1000000:=Ω
 by_cases eb:g.kind=9
 ·rw[eb]at dx;clear o0 hb;refine bJ lv sP tl fun aG=>?_;unfold rr;clear aG;simp;simp[eb];(with_reducible repeat' first|refine aA ?_|refine aX dx ?_|refine aY dx ?_|refine aX ek ?_|refine aY ek ?_|simp[eb,xH,qv,pF]);refine fM (jn g) g.gs.length (nF Gm.shape g.gs) () (by simp[jn,eb];exact c8) (fun k b aa=>Ω) (fun _ al _=>?_) (fun i _ aw al _=>?_);rotate_left
  ·obtain⟨y,bC,h3⟩:=gd aw;have ht:=a8 y (eR bC);have b2:aZ ((i:Int)+1):=by unfold aZ;omega
   cases hd:y.shape
   ·have dm:R=false:=by rw[<-bh,vm bC hd];rfl
    subst dm;rw[hd]at ht;clear bh al a8;simp[jn,eb,aw,h3];exact bZ
   ·have gr:=al.step bC hd;rw[hd]at ht;clear bh al a8;simp[jn,eb,aw,h3];(with_reducible repeat' first|refine aA ?_|refine aX ht ?_|refine aY ht ?_|simp[aw,h3,b2]);refine bP.rng () aw gr (by simp[jn,eb];exact c8)
  have dm:R=(g.gs.isEmpty&&fw g.name):=by rw[<-bh,al.fin];simp[sg,eb]
  subst dm;clear bh al a8;have fc:=Up g.name;cases cn:g.gs.isEmpty
  ·have abC:((g.gs.length:Int)==0)=false:=by rw[Cj,cn]
   simp[jn,eb];have pY:=fc;exact bZ
  ·have abC:((g.gs.length:Int)==0)=true:=by rw[Cj,cn]
   simp[jn,eb];have pY:=fc;exact bZ
 have hM:=hb eb;have Mi:g.kind<7->¬0<g.gs.length:=fun h=>by rw[eV h];simp
 clear eV hb;by_cases ch:g.kind=6
 ·rw[ch]at bQ dx;simp only[wD,kU,Int.reduceEq,reduceIte]at bQ;have eV:=Mi Ω;refine bJ lv sP tl fun aG=>?_;unfold rr;clear aG;simp;simp[ch];(with_reducible repeat' first|refine aA ?_|refine aX dx ?_|refine aY dx ?_|refine aX ek ?_|refine aY ek ?_|simp[ch,hM,xH,bQ,eV,qv,pF]);refine fM (jn g) g.gs.length (nF Gm.shape g.gs) () (by simp[jn,ch];exact c8) (fun k b aa=>Ω) (fun _ al _=>?_) (fun i _ aw al _=>?_);rotate_left
  ·obtain⟨y,bC,h3⟩:=gd aw;have ht:=a8 y (eR bC);have b2:aZ ((i:Int)+1):=by unfold aZ;omega
   cases hd:y.shape
   ·have dm:R=false:=by rw[<-bh,vm bC hd];rfl
    subst dm;rw[hd]at ht;clear bh al a8;simp[jn,ch,aw,h3];exact bZ
   ·have gr:=al.step bC hd;rw[hd]at ht;clear bh al a8;simp[jn,ch,aw,h3];(with_reducible repeat' first|refine aA ?_|refine aX ht ?_|refine aY ht ?_|simp[aw,h3,b2]);refine bP.rng () aw gr (by simp[jn,ch];exact c8)
  obtain⟨x,y,e⟩:∃x y,g.ts=[x,y]:=T2 Ω;have dm:R=decide (x.kind=2):=by rw[<-bh,al.fin];simp[sg,ch,e]
  subst dm;clear bh al a8;simp[jn,ch,e];(with_reducible repeat' first|refine aA ?_|simp[ch]);simp[b1,Ab,bn,bp,bk];rfl
 by_cases e9:g.kind=10
 ·rw[e9]at bQ dx;simp only[wD,kU,Int.reduceEq,reduceIte]at bQ;refine bJ lv sP tl fun aG=>?_;unfold rr;clear aG;simp;simp[e9];(with_reducible repeat' first|refine aA ?_|refine aX dx ?_|refine aY dx ?_|refine aX ek ?_|refine aY ek ?_|simp[e9,hM,xH,bQ,qv,pF]);refine fM (jn g) g.gs.length (nF Gm.shape g.gs) () (by simp[jn,e9];exact c8) (fun k b aa=>Ω) (fun _ al _=>?_) (fun i _ aw al _=>?_);rotate_left
  ·obtain⟨y,bC,h3⟩:=gd aw;have ht:=a8 y (eR bC);have b2:aZ ((i:Int)+1):=by unfold aZ;omega
   cases hd:y.shape
   ·have dm:R=false:=by rw[<-bh,vm bC hd];rfl
    subst dm;rw[hd]at ht;clear bh al a8;simp[jn,e9,aw,h3];exact bZ
   ·have gr:=al.step bC hd;rw[hd]at ht;clear bh al a8;simp[jn,e9,aw,h3];(with_reducible repeat' first|refine aA ?_|refine aX ht ?_|refine aY ht ?_|simp[aw,h3,b2]);refine bP.rng () aw gr (by simp[jn,e9];exact c8)
  by_cases mn:g.gs.length=1
  ·obtain⟨x,e⟩:=List.length_eq_one_iff.1 mn;have dm:R=decide (x.kind=9):=by rw[<-bh,al.fin];simp[sg,e9,e]
   subst dm;clear bh al a8;simp[jn,e9,e];(with_reducible repeat' first|refine aA ?_|simp[e9]);simp[b1,Ab,bn,bp,bk];rfl
  ·have dm:R=false:=by
    rw[<-bh,al.fin];simp[sg,e9];split
    ·rename_i x ad;rw[ad]at mn;simp at mn
    ·rfl
   subst dm;have aiN:((g.gs.length:Int)==1)=false:=jL.2 Ω;clear bh al a8;simp[jn,e9];exact bZ
 have o0:g.kind=0\/g.kind=1\/g.kind=2\/g.kind=3\/g.kind=4\/g.kind=5\/g.kind=7\/g.kind=8:=Ω
 rcases o0 with aa|aa|aa|aa|aa|aa|aa|aa;all_goals
  rw[aa]at bQ dx
  simp only[wD,kU,Int.reduceEq,reduceIte]at bQ
  have eV:=Mi
  simp only[aa,Int.reduceLT,forall_const,false_imp_iff]at eV
  refine bJ lv sP tl fun aG=>?_;unfold rr
  clear aG
  simp
  simp[aa]
  (with_reducible repeat' first|refine aA ?_|refine aX dx ?_|refine aY dx ?_|refine aX ek ?_|refine aY ek ?_|simp[aa,hM,xH,bQ,eV,qv,pF])
  refine fM (jn g) g.gs.length (nF Gm.shape g.gs) () (by simp[jn,aa];exact c8) (fun k b aa=>Ω) (fun _ al _=>?_) (fun i _ aw al _=>?_)
  rotate_left
  ·obtain⟨y,bC,h3⟩:=gd aw
   have ht:=a8 y (eR bC)
   have b2:aZ ((i:Int)+1):=by unfold aZ;omega
   cases hd:y.shape
   ·have dm:R=false:=by rw[<-bh,vm bC hd];rfl
    subst dm
    rw[hd]at ht
    clear bh al a8
    simp[jn,aa,aw,h3]
    exact bZ
   ·have gr:=al.step bC hd
    rw[hd]at ht
    clear bh al a8
    simp[jn,aa,aw,h3]
    (with_reducible repeat' first|refine aA ?_|refine aX ht ?_|refine aY ht ?_|simp[aw,h3,b2])
    refine bP.rng () aw gr (by simp[jn,aa];exact c8)
  have dm:R=true:=by rw[<-bh,al.fin];simp[sg,aa]
  subst dm
  clear bh al a8
  simp[jn,aa]
  exact bZ
end
end Go.Proofs.YtlnndmgfngfeiaaGreatDoor

namespace Go.Proofs.YtlnndmgfngfeiaaGreatDoor
section
open Go Go.Pv
def ln(n:Int):List Int->List Int
 |[]=>[n]
 |c::l=>if c<n then c::ln n l else if c=n then c::l else n::c::l
def sx(l:List Int):Prop:=l.Pairwise (· < ·)
theorem QC(n:Int):∀(l:List Int) (k:Nat),(∀i c,i<k->l[i]? =some c->c<n)->(∀c,l[k]? =some c->n<=c)->k<=l.length->ln n l=if l[k]? =some n then l else l.take k++n::l.drop k
 |[],k,_,_,aa=>by simp at aa;subst aa;rfl
 |c::l,0,_,J,_=>by
  have:=J c rfl;by_cases e:c=n
  ·simp[ln,e]
  ·have av:¬c<n:=Ω
   simp[ln,av,e]
 |c::l,k+1,I,J,aa=>by have bD:=I 0 c Ω rfl;simp only[ln,bN bD,pz,List.drop_succ_cons,iT,List.getElem?_cons_succ];rw[QC n l k (fun i d aw a7=>I (i+1) d Ω (by simpa using a7)) (fun d a7=>J d (by simpa using a7)) (by simpa using aa)];split<;>rfl
theorem JV{n m:Int}:∀{l:List Int},m∈ln n l↔m=n\/m∈l
 |[]=>by simp[ln]
 |c::l=>by
  simp only[ln];split
  ·simp only[gH,JV (l:=l)];constructor
   ·rintro(h|h|h)
    ·exact .inr (.inl h)
    ·exact .inl h
    ·exact .inr (.inr h)
   ·rintro(h|h|h)
    ·exact .inr (.inl h)
    ·exact .inl h
    ·exact .inr (.inr h)
  ·split
   ·rename_i h;subst h;simp
   ·simp
theorem Jw{n:Int}:∀{l:List Int},sx l->sx (ln n l)
 |[],_=>by simp[ln,sx]
 |c::l,h=>by
  obtain⟨I,J⟩:=List.pairwise_cons.1 h;simp only[ln];split
  ·rename_i av;refine List.pairwise_cons.2 ⟨fun m hm=>?_,Jw J⟩;rcases JV.1 hm with rfl|hm
   ·exact av
   ·exact I m hm
  ·split
   ·exact h
   ·refine List.pairwise_cons.2 ⟨fun m hm=>?_,h⟩;rcases gH.1 hm with rfl|hm
    ·omega
    ·have:=I m hm;omega
theorem QD(n:Int):∀l:List Int,(ln n l).length<=l.length+1
 |[]=>by simp[ln]
 |c::l=>by
  have:=QD n l;simp only[ln];split
  ·simp;omega
  ·split<;>simp
theorem QG(l:List Int)(i:Nat):(dX l)[i]? =(l[i]?).map (ag.int .i64):=by simp[dX]
theorem yt:∀l:List Int,cO (dX l)=dX l
 |[]=>by simp[dX,cO]
 |a::l=>by have:=yt l;simp only[dX,eQ,cO,dr]at this⊢;rw[this]
theorem Fg(l:List Int)(n:Int)(k:Nat):cO (List.take k (dX l)++ag.int .i64 n::List.drop k (List.take l.length (dX l)))=dX (List.take k l++n::List.drop k l):=by
 have e:List.take l.length (dX l)=dX l:=pw (by simp[dX]);have aU:List.take k (dX l)++ag.int .i64 n::List.drop k (dX l)=dX (List.take k l++n::List.drop k l):=by simp only[dX,List.map_append,eQ,List.map_take,List.map_drop]
 rw[e,aU];exact yt _
theorem agp(l:List Int)(n:Int)(aE:l.length<=1000000)(b4:sx l):cg aP 212 [.slice 1 .no (dX l),.int .i64 n] (.slice 1 .no (dX (ln n l))):=by
 refine bJ iQ Yd ad2 fun aG=>?_;unfold Nj;simp;refine Ov [0,1] (fun(k:Nat)=>[(5,.int .i64 k)]) (fun k=>k) (fun k=>k<=l.length/\∀c,l[k]? =some c->n<=c) l.length c8 ⟨Ω,fun c h=>by simp at h⟩ (fun k al _=>?_);obtain⟨aa,al⟩:=al;have kN:(∀c,0<k->l[k-1]? =some c->c<n)->ln n l=if l[k]? =some n then l else l.take k++n::l.drop k:=fun h=>QC n l k (fun i c aw aD=>by
  obtain⟨d,a7⟩:∃d,l[k-1]? =some d:=⟨_,bO Ω⟩;have I:=h d Ω a7;rcases hS i (k-1)with J|J
  ·have BD:=(cX.1 aD);have zq:=(cX.1 a7);have:=List.pairwise_iff_getElem.1 b4 i (k-1) BD.1 zq.1 J;rw[BD.2,zq.2]at this;omega
  ·have:i=k-1:=Ω
   subst this;rw[a7]at aD;cases aD;exact I) al aa
 have lK:∀c,l[k]? =some c->∀h,((dX l)[k]'h)= .int .i64 c:=fun c h cr=>by have:=QG l k;rw[h,bO cr]at this;exact dZ this
 have hK:(0<k->∃d,l[k-1]? =some d/\d<n)->∀P:Prop,(ln n l=(if l[k]? =some n then l else l.take k++n::l.drop k)->P)->P:=fun h P gL=>gL (kN fun c bD aD=>by obtain⟨d,a7,I⟩:=h bD;rw[a7]at aD;cases aD;exact I)
 rcases Nat.eq_zero_or_pos k with bD|fb
 ·have cn:decide ((0:Int)<k)=false:=by simp;omega
  refine hK (fun h=>Ω) _ fun e=>?_;by_cases dW:k<l.length
  ·obtain⟨c,aD⟩:∃c,l[k]? =some c:=⟨_,bO dW⟩;have mP:=lK c aD;rw[aD]at e;by_cases q:c=n
   ·have iC:(c==n)=true:=by simp[q]
    rw[bN (by rw[q])]at e;rw[e];simp[cn,dW];((with_reducible repeat' first|refine aA ?_|simp[cn,dW,mP,iC]|((first|apply cu|apply cw|apply cv)<;>intro h<;>try simp at h))<;>(try exact cK));all_goals simp[b1,yf,bn,bp,bk]
   ·have iC:(c==n)=false:=by simp[q]
    rw[bf (by simp[q])]at e;rw[e];simp[cn,dW];((with_reducible repeat' first|refine aA ?_|simp[cn,dW,mP,iC]|((first|apply cu|apply cw|apply cv)<;>intro h<;>try simp at h))<;>(try exact cK));all_goals simp[b1,yf,bn,bp,bk]
    all_goals exact Fg l n k
  ·rw[List.getElem?_eq_none Ω]at e;simp only[reduceCtorEq,if_false]at e;rw[e];simp[cn,dW];((with_reducible repeat' first|refine aA ?_|simp[cn,dW]|((first|apply cu|apply cw|apply cv)<;>intro h<;>try simp at h))<;>(try exact cK));all_goals simp[b1,yf,bn,bp,bk]
   all_goals exact Fg l n k
 ·obtain⟨d,a7⟩:∃d,l[k-1]? =some d:=⟨_,bO Ω⟩;have aq:((k:Int)-1).toNat=k-1:=Ω
  have aU:∀h,((dX l)[k-1]'h)= .int .i64 d:=fun cr=>by have:=QG l (k-1);rw[a7,bO cr]at this;exact dZ this
  have sZ:(0:Int)<k:=Ω
  have vL:k-1<l.length:=Ω
  by_cases af:n<=d
  ·simp[fb,sZ,aq,aU,af,vL];(with_reducible repeat' first|refine aA ?_|simp[fb,sZ,aq,aU,af,vL]);refine bP.whl (k-1) Ω ⟨Ω,fun c aD=>by rw[a7]at aD;cases aD;exact af⟩ ?_;have bR:((k-1:Nat):Int)=(k:Int)-1:=Ω
   simp[bR];exact c8
  ·refine hK (fun _=>⟨d,a7,Ω⟩) _ fun e=>?_;by_cases dW:k<l.length
   ·obtain⟨c,aD⟩:∃c,l[k]? =some c:=⟨_,bO dW⟩;have mP:=lK c aD;rw[aD]at e;by_cases q:c=n
    ·have iC:(c==n)=true:=by simp[q]
     rw[bN (by rw[q])]at e;rw[e];simp[fb,sZ,aq,aU,af,vL,dW];((with_reducible repeat' first|refine aA ?_|simp[fb,sZ,aq,aU,af,vL,dW,mP,iC]|((first|apply cu|apply cw|apply cv)<;>intro h<;>try simp at h))<;>(try exact cK));all_goals simp[b1,yf,bn,bp,bk]
    ·have iC:(c==n)=false:=by simp[q]
     rw[bf (by simp[q])]at e;rw[e];simp[fb,sZ,aq,aU,af,vL,dW];(with_reducible repeat' first|refine aA ?_|simp[fb,sZ,aq,aU,af,vL,dW,mP,iC]);all_goals simp[b1,yf,bn,bp,bk]
     all_goals exact Fg l n k
   ·rw[List.getElem?_eq_none Ω]at e;simp only[reduceCtorEq,if_false]at e;rw[e];simp[fb,sZ,aq,aU,af,vL,dW];(with_reducible repeat' first|refine aA ?_|simp[fb,sZ,aq,aU,af,vL,dW]);all_goals simp[b1,yf,bn,bp,bk]
    all_goals exact Fg l n k
def kl:T->List Int->List Int
 | .var n,l=>ln n l
 | .pair a b,l=>kl b (kl a l)
 |_,l=>l
theorem LG:∀(t:T) {l:List Int},sx l->sx (kl t l)
 | .var _,_,h=>Jw h
 | .pair a b,_,h=>LG b (LG a h)
 | .nil,_,h=>h
 | .sym _,_,h=>h
 | .num _,_,h=>h
theorem LH:∀(t:T) (l:List Int),(kl t l).length<=l.length+t.size
 | .var n,l=>by have:=QD n l;simp only[kl,T.size];omega
 | .pair a b,l=>by have I:=LH a l;have J:=LH b (kl a l);simp only[kl,T.size];omega
 | .nil,l=>by simp[kl]
 | .sym _,l=>by simp[kl]
 | .num _,l=>by simp[kl]
theorem LC:∀(t:T) (l:List Int),l.length+t.size<=1000000->sx l->cg aP 156 [t.e,.slice 1 .no (dX l)] (.slice 1 .no (dX (kl t l)))
 | .var n,l,aE,b4=>by
  simp only[T.size]at aE;have key:=agp l n Ω b4;refine bJ iQ Bf Cz fun aG=>?_;unfold yT;simp;(with_reducible repeat' first|refine aA ?_|refine aX key ?_|refine aY key ?_|simp);all_goals simp[b1,Aa,bn,bp,bk]
  all_goals simp[kl,yt]
 | .pair a b,l,aE,b4=>by
  simp only[T.size]at aE;have ajQ:=LH a l;have dh:=LC a l Ω b4;have ed:=LC b (kl a l) Ω (LG a b4);refine bJ iQ Bf Cz fun aG=>?_;unfold yT;simp;refine Bd [15,16] (fun i (_:Unit)=>[(1,.slice 1 .no (dX (if i=0 then l else if i=1 then kl a l else kl b (kl a l)))),(17,.int .i64 i)]) 2 (fun _ _=>True) () c8 trivial (fun _ _ _=>?_) (fun i _ aw _ _=>?_)
  ·simp;(with_reducible repeat' first|refine aA ?_|simp);simp[b1,Aa,bn,bp,bk];simp[kl,yt]
  ·rcases(by omega:i=0\/i=1)with rfl|rfl
   ·simp;((with_reducible repeat' first|refine aA ?_|refine aX dh ?_|refine aY dh ?_|simp|((first|apply cu|apply cw|apply cv)<;>intro h<;>try simp at h))<;>(try exact cK));exact bP.rng () aw trivial c8
   ·simp;((with_reducible repeat' first|refine aA ?_|refine aX ed ?_|refine aY ed ?_|simp|((first|apply cu|apply cw|apply cv)<;>intro h<;>try simp at h))<;>(try exact cK));exact bP.rng () aw trivial c8
 | .nil,l,aE,b4=>by refine bJ iQ Bf Cz fun aG=>?_;unfold yT;simp;refine Bd [15,16] (fun i (_:Unit)=>[(1,.slice 1 .no (dX l)),(17,.int .i64 i)]) 0 (fun _ _=>True) () c8 trivial (fun _ _ _=>?_) (fun i _ aw _ _=>Ω);simp;((with_reducible repeat' first|refine aA ?_|simp|((first|apply cu|apply cw|apply cv)<;>intro h<;>try simp at h))<;>(try exact cK));simp[b1,Aa,bn,bp,bk];simp[kl,yt]
 | .sym _,l,aE,b4=>by refine bJ iQ Bf Cz fun aG=>?_;unfold yT;simp;refine Bd [15,16] (fun i (_:Unit)=>[(1,.slice 1 .no (dX l)),(17,.int .i64 i)]) 0 (fun _ _=>True) () c8 trivial (fun _ _ _=>?_) (fun i _ aw _ _=>Ω);simp;(with_reducible repeat' first|refine aA ?_|simp);simp[b1,Aa,bn,bp,bk];simp[kl,yt]
 | .num _,l,aE,b4=>by refine bJ iQ Bf Cz fun aG=>?_;unfold yT;simp;refine Bd [15,16] (fun i (_:Unit)=>[(1,.slice 1 .no (dX l)),(17,.int .i64 i)]) 0 (fun _ _=>True) () c8 trivial (fun _ _ _=>?_) (fun i _ aw _ _=>Ω);simp;(with_reducible repeat' first|refine aA ?_|simp);simp[b1,Aa,bn,bp,bk];simp[kl,yt]
theorem agt:∀(n:Nat) (g:Gm),g.sz<=n->cg aP 211 [g.e] (.bool g.shape):=by
 intro n;induction n with
 |zero=>intro g aO;have:=g.sz_pos;omega
 |succ n a8=>
 intro g aO;have no:∀h:¬((0<=g.kind/\g.kind<=10)/\(g.kind≠9->g.name=[])/\g.ts.all ba.fits=true/\hdS g/\g.gs.all Gm.shape=true/\sg g=true),g.shape=false:=fun h=>by
  cases ao:g.shape with
  |false=>rfl
  |true=>exact absurd ((TI g).1 ao) h
 by_cases I:0<=g.kind/\g.kind<=10;rotate_left
 ·rw[no fun h=>I h.1];exact afw g I
 by_cases J:g.kind≠9->g.name=[];rotate_left
 ·rw[no fun h=>J h.2.1];rw[Classical.not_imp]at J;exact afy g I J.1 (by simpa using J.2)
 have tV:g.kind≠9->g.name.isEmpty=true:=fun h=>by simpa using J h
 cases av:g.ts.all ba.fits
 ·rw[no fun h=>by rw[av]at h;cases h.2.2.1];exact afz g I tV av
 by_cases aV:hdS g;rotate_left
 ·rw[no fun h=>aV h.2.2.2.1];exact afv g I tV av aV
 have aE:=afx g I tV av aV fun x ad=>a8 x (by have:=g.gs_lt ad;omega);have he:(g.gs.all Gm.shape&&sg g)=g.shape:=by rw[Bool.eq_iff_iff,bB,TI];exact⟨fun h=>⟨I,J,av,aV,h.1,h.2⟩,fun h=>⟨h.2.2.2.2.1,h.2.2.2.2.2⟩⟩
 rwa[he]at aE
theorem Uo(g:Gm):cg aP 155 [g.e] (.bool (g.fits 80)):=by
 have e5:=Uj g.sz g (da _) 80 Ω Ω;have gU:=agt g.sz g (da _);have aD:=(HB g 80 Ω).1;by_cases h:g.sz<=80
 ·have I:k8 g 80<=80:=aD.2 Ω;have aM:g.fits 80=g.shape:=by unfold Gm.fits;rw[k2 h,Bool.and_true]
  rw[aM];refine bJ lv OL Sd fun aG=>?_;unfold Hf;clear aG;simp;((with_reducible repeat' first|refine aA ?_|refine aX e5 ?_|refine aY e5 ?_|refine aX gU ?_|refine aY gU ?_|simp[I]|((first|apply cu|apply cw|apply cv)<;>intro h<;>try simp at h))<;>(try exact cK));simp[b1,Kx,bn,bp,bk]
 ·have I:¬k8 g 80<=80:=fun cr=>h (by have:=aD.1 cr;omega);have aM:g.fits 80=false:=by unfold Gm.fits;rw[ly h,Bool.and_false]
  rw[aM];refine bJ lv OL Sd fun aG=>?_;unfold Hf;clear aG;simp;((with_reducible repeat' first|refine aA ?_|refine aX e5 ?_|refine aY e5 ?_|refine aX gU ?_|refine aY gU ?_|simp[I]|((first|apply cu|apply cw|apply cv)<;>intro h<;>try simp at h))<;>(try exact cK));simp[b1,Kx,bn,bp,bk]
def hX(vs:List Int)(l:List Int):List Int:=vs.foldl (fun l v=>ln v l) l
theorem Ff(a b l:List Int):hX (a++b) l=hX b (hX a l):=List.foldl_append
theorem QF(vs:List Int):∀(l:List Int) (v:Int),v∈hX vs l↔v∈l\/v∈vs:=by
 induction vs with
 |nil=>intro l v;simp[hX]
 |cons x vs a8=>
  intro l v;show v∈hX vs (ln x l)↔_;rw[a8,JV];simp only[gH];constructor
  ·rintro((h|h)|h)
   ·exact .inr (.inl h)
   ·exact .inl h
   ·exact .inr (.inr h)
  ·rintro(h|h|h)
   ·exact .inl (.inr h)
   ·exact .inl (.inl h)
   ·exact .inr h
theorem QE(vs:List Int):∀{l:List Int},sx l->sx (hX vs l):=by
 induction vs with
 |nil=>intro l h;exact h
 |cons x vs a8=>intro l h;exact a8 (Jw h)
theorem agM(t:T):∀l:List Int,kl t l=hX t.tm.vs l:=by
 induction t with
 |pair a b s7 s8=>
  intro l;have:(T.pair a b).tm.vs=a.tm.vs++b.tm.vs:=by simp[T.tm,ba.vs,ba.vsL]
  rw[this,Ff,<-s7,<-s8];rfl
 |var n=>intro l;simp[T.tm,ba.vs,kl,hX]
 |_=>intro l;simp[T.tm,ba.vs,ba.vsL,kl,hX]
def o6(l:List Int):Prop:=sx l/\∀v∈l,0<=v/\v<=100000
theorem o6.len{l:List Int}(h:o6 l):l.length<=100001:=J7 (h.1.imp fun xw=>Int.ne_of_lt xw) h.2
theorem o6.ins{l vs:List Int}(h:o6 l)(aS:∀v∈vs,0<=v/\v<=100000):o6 (hX vs l):=⟨QE vs h.1,fun v hm=>by rcases(QF vs l v).1 hm with cr|cr;exact h.2 v cr;exact aS v cr⟩
theorem agq{t:ba}(aI:t.fits=true){l:List Int}(aE:o6 l):cg aP 156 [enc t,.slice 1 .no (dX l)] (.slice 1 .no (dX (hX t.vs l))):=by
 obtain⟨x,rfl,ad⟩:=ba.fits_ex aI;rw[sM,<-agM];have bE:x.size<=5000:=by simp only[T.fit,bB,ef]at ad;exact ad.2
 exact LC x l (by have:=aE.len;omega) aE.1
theorem agP{t:ba}(aI:t.fits=true):∀v∈t.vs,0<=v/\v<=100000:=by obtain⟨x,rfl,ad⟩:=ba.fits_ex aI;exact Ut x (vy ad)
theorem abK{ts:List ba}{i:Nat}{t:ba}(h:ts[i]? =some t)(l:List Int):hX (ba.vsL (ts.take (i+1))) l=hX t.vs (hX (ba.vsL (ts.take i)) l):=by rw[jw,h,yy,yy,<-Ff];simp
theorem abJ{gs:List Gm}{i:Nat}{g:Gm}(h:gs[i]? =some g)(l:List Int):hX (Gm.vsL (gs.take (i+1))) l=hX g.vs (hX (Gm.vsL (gs.take i)) l):=by rw[jw,h,xq,xq,<-Ff];simp
def AP(g:Gm)(l:List Int)(i:Nat)(_:Unit):bb:=⟨[(1,.slice 1 .no (dX (hX (ba.vsL (g.ts.take i)) l))),(2,.ptr (.loc 0) 0),(10,.slice 4 .no (g.ts.map enc)),(11,.int .i64 g.ts.length),(12,.int .i64 i)],[(.loc 0,[.int .i64 g.kind,.str g.name,.slice 4 .no (g.ts.map enc),.slice 4 .no (g.gs.map Gm.e)])],[],1,[]⟩
def AQ(g:Gm)(l:List Int)(i:Nat)(_:Unit):bb:=⟨[(1,.slice 1 .no (dX (hX (Gm.vsL (g.gs.take i)) l))),(21,.slice 4 .no (g.gs.map Gm.e)),(22,.int .i64 g.gs.length),(23,.int .i64 i)],[],[],1,[]⟩
theorem o6.tk{g:Gm}(ao:g.shape=true){l:List Int}(h:o6 l)(i:Nat):o6 (hX (ba.vsL (g.ts.take i)) l):=h.ins fun v aS=>by rw[yy,List.mem_flatMap]at aS;obtain⟨t,aI,aS⟩:=aS;exact agP (se ao t (List.mem_of_mem_take aI)) v aS
theorem o6.gk{g:Gm}(ao:g.shape=true){l:List Int}(h:o6 l)(i:Nat):o6 (hX (Gm.vsL (g.gs.take i)) l):=h.ins fun v aS=>by rw[xq,List.mem_flatMap]at aS;obtain⟨t,aI,aS⟩:=aS;exact Ek t.sz t (da _) (qd ao t (List.mem_of_mem_take aI)) v aS
theorem agu:∀(n:Nat) (g:Gm),g.sz<=n->g.shape=true->∀l:List Int,o6 l->cg aP 89 [g.e,.slice 1 .no (dX l)] (.slice 1 .no (dX (hX g.vs l))):=by
 intro n;induction n with
 |zero=>intro g aO;have:=g.sz_pos;omega
 |succ n a8=>
 intro g aO ao l aE;have lQ:=u0 ao;rw[Ig,Ff];refine bJ lv Yl aea fun aG=>?_;unfold Nt;clear aG;simp;refine fM (AP g l) g.ts.length (fun _ _=>True) () (by simp[AP,ba.vsL,hX];exact c8) trivial (fun _ _ _=>?_) (fun i _ aw _ _=>?_)
 ·have ig:=aE.tk ao g.ts.length;rw[jl]at ig;simp[AP];generalize hX (ba.vsL g.ts) l=kf at ig⊢;(with_reducible repeat' first|refine aA ?_|simp);refine fM (AQ g kf) g.gs.length (fun _ _=>True) () (by simp[AQ,Gm.vsL,hX];exact c8) trivial (fun _ _ _=>?_) (fun i _ aw _ _=>?_)
  ·simp[AQ];exact bZ
  ·obtain⟨b,af,lI⟩:=gd aw;have b2:aZ ((i:Int)+1):=by unfold aZ;omega
   have hm:=eR af;have eM:=a8 b (by have:=g.gs_lt hm;omega) (qd ao b hm) _ (ig.gk ao i);rw[<-abJ af]at eM;clear a8;simp[AQ,aw,lI];(with_reducible repeat' first|refine aA ?_|refine aX eM ?_|refine aY eM ?_|simp[aw,lI,b2]);refine bP.rng () aw trivial (by simp[AQ];exact c8)
 ·obtain⟨b,af,lI⟩:=gd aw;have b2:aZ ((i:Int)+1):=by unfold aZ;omega
  have eM:=agq (se ao b (eR af)) (aE.tk ao i);rw[<-abK af]at eM;clear a8;simp[AP,aw,lI];(with_reducible repeat' first|refine aA ?_|refine aX eM ?_|refine aY eM ?_|simp[aw,lI,b2]);refine bP.rng () aw trivial (by simp[AP];exact c8)
def rO:List (List aF):=[ng,nP,yA,yz,sq,sn,sj,sk,sp,[],sl]
theorem aae:de rO=[.str [116,114,117,101],.str [102,97,105,108],.str [61],.str [47,61],.str [115,121,109,98,111,108],.str [110,117,109,98,101,114],.str [97,98,115,101,110,116],.str [97,110,100],.str [111,114],.str [],.str [110,111,116]]:=rfl
theorem agy:cg aP 131 [] (.slice 1 .no (de rO)):=by rw[aae];refine bJ lv Yp aee fun aG=>?_;unfold Nx;clear aG;exact bZ
def _root_.Go.Pv.Ix.e(x:Ix):ag:= .agg [.int .i64 x.op,.int .i64 x.a,.int .i64 x.b,.int .i64 x.g.kind,.str x.g.name,.slice 4 .no (x.g.ts.map enc),.slice 4 .no (x.g.gs.map Gm.e)]
theorem Ix.e_eq(x:Ix):x.e= .agg [.int .i64 x.op,.int .i64 x.a,.int .i64 x.b,.int .i64 x.g.kind,.str x.g.name,.slice 4 .no (x.g.ts.map enc),.slice 4 .no (x.g.gs.map Gm.e)]:=rfl
@[simp]theorem Rj(S:aJ->Prop)(x:Ix):ak S x.e=True:=by simp[Ix.e_eq,ak,ai]
theorem Rf(S:aJ->Prop):∀l:List Ix,ai S (l.map Ix.e)
 |[]=>trivial
 |x::l=>by simp only[eQ,ai,Rj,true_and];exact Rf S l
@[simp]theorem ajC(S:aJ->Prop)(l:List Ix):ai S (l.map Ix.e)=True:=eq_true (Rf S l)
@[simp]theorem TP(x:Ix):dr x.e=x.e:=by simp[Ix.e_eq,dr,cO]
@[simp]theorem afO:∀l:List Ix,cO (l.map Ix.e)=l.map Ix.e
 |[]=>rfl
 |x::l=>by simp only[eQ,cO,TP,afO l]
@[simp]theorem akJ(x:Ix):ez x.e=true:=rfl
@[simp]theorem ahY(x:Ix):cells x.e=[.int .i64 x.op,.int .i64 x.a,.int .i64 x.b,.int .i64 x.g.kind,.str x.g.name,.slice 4 .no (x.g.ts.map enc),.slice 4 .no (x.g.gs.map Gm.e)]:=rfl
@[simp]theorem GU(x:Ix):ag.agg [.int .i64 x.op,.int .i64 x.a,.int .i64 x.b,.int .i64 x.g.kind,.str x.g.name,.slice 4 .no (x.g.ts.map enc),.slice 4 .no (x.g.gs.map Gm.e)]=x.e:=rfl
@[simp]theorem aiw(off:Nat)(eD:Bool)(sz:Nat)(x:Ix):rD off eD sz x.e=if eD then some (off+sz<=7,.agg (([.int .i64 x.op,.int .i64 x.a,.int .i64 x.b,.int .i64 x.g.kind,.str x.g.name,.slice 4 .no (x.g.ts.map enc),.slice 4 .no (x.g.gs.map Gm.e)].drop off).take sz))else(([.int .i64 x.op,.int .i64 x.a,.int .i64 x.b,.int .i64 x.g.kind,.str x.g.name,.slice 4 .no (x.g.ts.map enc),.slice 4 .no (x.g.gs.map Gm.e)]:List ag)[off]?).map fun p=>(True,p):=rfl
@[simp]theorem aim(off:Nat)(eD:Bool)(sz:Nat)(x:Ix):n2 off eD sz (.eptr x.e)=if eD then some (off+sz<=7,.eptr (.agg (([.int .i64 x.op,.int .i64 x.a,.int .i64 x.b,.int .i64 x.g.kind,.str x.g.name,.slice 4 .no (x.g.ts.map enc),.slice 4 .no (x.g.gs.map Gm.e)].drop off).take sz)))else(([.int .i64 x.op,.int .i64 x.a,.int .i64 x.b,.int .i64 x.g.kind,.str x.g.name,.slice 4 .no (x.g.ts.map enc),.slice 4 .no (x.g.gs.map Gm.e)]:List ag)[off]?).map fun p=>(ez p=true/\cells p=[p],.eptr p):=rfl
@[simp]theorem ajo(x:Ix):Pv.isAgg 7 x.e:=⟨_,rfl,rfl⟩
def _root_.Go.Pv.Ey.e(x:Ey):ag:= .agg [.str x.name,.int .i64 x.pos,.int .i64 x.ar,.int .i64 x.vars]
theorem Ey.e_eq(x:Ey):x.e= .agg [.str x.name,.int .i64 x.pos,.int .i64 x.ar,.int .i64 x.vars]:=rfl
@[simp]theorem acf(S:aJ->Prop)(x:Ey):ak S x.e=True:=by simp[Ey.e_eq,ak,ai]
theorem Re(S:aJ->Prop):∀l:List Ey,ai S (l.map Ey.e)
 |[]=>trivial
 |x::l=>by simp only[eQ,ai,acf,true_and];exact Re S l
@[simp]theorem ajB(S:aJ->Prop)(l:List Ey):ai S (l.map Ey.e)=True:=eq_true (Re S l)
@[simp]theorem afS(x:Ey):dr x.e=x.e:=by simp[Ey.e_eq,dr,cO]
@[simp]theorem afN:∀l:List Ey,cO (l.map Ey.e)=l.map Ey.e
 |[]=>rfl
 |x::l=>by simp only[eQ,cO,afS,afN l]
@[simp]theorem akD(x:Ey):ez x.e=true:=rfl
@[simp]theorem ahS(x:Ey):cells x.e=[.str x.name,.int .i64 x.pos,.int .i64 x.ar,.int .i64 x.vars]:=rfl
@[simp]theorem ahb(x:Ey):ag.agg [.str x.name,.int .i64 x.pos,.int .i64 x.ar,.int .i64 x.vars]=x.e:=rfl
@[simp]theorem aiv(off:Nat)(eD:Bool)(sz:Nat)(x:Ey):rD off eD sz x.e=if eD then some (off+sz<=4,.agg (([.str x.name,.int .i64 x.pos,.int .i64 x.ar,.int .i64 x.vars].drop off).take sz))else(([.str x.name,.int .i64 x.pos,.int .i64 x.ar,.int .i64 x.vars]:List ag)[off]?).map fun p=>(True,p):=rfl
@[simp]theorem aik(off:Nat)(eD:Bool)(sz:Nat)(x:Ey):n2 off eD sz (.eptr x.e)=if eD then some (off+sz<=4,.eptr (.agg (([.str x.name,.int .i64 x.pos,.int .i64 x.ar,.int .i64 x.vars].drop off).take sz)))else(([.str x.name,.int .i64 x.pos,.int .i64 x.ar,.int .i64 x.vars]:List ag)[off]?).map fun p=>(ez p=true/\cells p=[p],.eptr p):=rfl
@[simp]theorem ajm(x:Ey):Pv.isAgg 4 x.e:=⟨_,rfl,rfl⟩
def _root_.Go.Pv.Cd.e(c:Cd):ag:= .agg [.slice 7 .no (c.is.map Ix.e),.slice 4 .no (c.es.map Ey.e)]
theorem Cd.e_eq(c:Cd):c.e= .agg [.slice 7 .no (c.is.map Ix.e),.slice 4 .no (c.es.map Ey.e)]:=rfl
@[simp]theorem ajF(S:aJ->Prop)(c:Cd):ak S c.e=True:=by simp[Cd.e_eq,ak,ai]
@[simp]theorem akU(c:Cd):dr c.e=c.e:=by simp[Cd.e_eq,dr,cO]
@[simp]theorem akx(c:Cd):ez c.e=true:=rfl
@[simp]theorem ahO(c:Cd):cells c.e=[.slice 7 .no (c.is.map Ix.e),.slice 4 .no (c.es.map Ey.e)]:=rfl
@[simp]theorem GS(c:Cd):ag.agg [.slice 7 .no (c.is.map Ix.e),.slice 4 .no (c.es.map Ey.e)]=c.e:=rfl
@[simp]theorem aiu(off:Nat)(eD:Bool)(sz:Nat)(c:Cd):rD off eD sz c.e=if eD then some (off+sz<=2,.agg (([.slice 7 .no (c.is.map Ix.e),.slice 4 .no (c.es.map Ey.e)].drop off).take sz))else(([.slice 7 .no (c.is.map Ix.e),.slice 4 .no (c.es.map Ey.e)]:List ag)[off]?).map fun p=>(True,p):=rfl
@[simp]theorem aii(off:Nat)(eD:Bool)(sz:Nat)(c:Cd):n2 off eD sz (.eptr c.e)=if eD then some (off+sz<=2,.eptr (.agg (([.slice 7 .no (c.is.map Ix.e),.slice 4 .no (c.es.map Ey.e)].drop off).take sz)))else(([.slice 7 .no (c.is.map Ix.e),.slice 4 .no (c.es.map Ey.e)]:List ag)[off]?).map fun p=>(ez p=true/\cells p=[p],.eptr p):=rfl
theorem agN{g:Gm}(ao:g.shape=true)(vars:Int):mC g vars=true↔hX g.vs []=[]\/ ∃u m,hX g.vs []=u++[m]/\m<vars:=by
 rw[Da];have b4:=QE g.vs (l:=[]) .nil;have hm:∀v,v∈hX g.vs []↔v∈g.vs:=fun v=>by simp[QF]
 constructor
 ·intro h;rcases List.eq_nil_or_concat (hX g.vs [])with e|⟨u,m,e⟩
  ·exact .inl e
  ·right;rw[List.concat_eq_append]at e;exact⟨u,m,e,h m ((hm m).1 (by rw[e];simp))⟩
 ·rintro(e|⟨u,m,e,b7⟩) v aS
  ·rw[<-hm,e]at aS;cases aS
  ·rw[<-hm,e]at aS;rw[e]at b4;rcases iG.1 aS with h|h
   ·have:=(List.pairwise_append.1 b4).2.2 v h m Ψ;omega
   ·simp at h;omega
theorem QH{u:List Int}{m:Int}:∀h,(dX (u++[m]))[u.length]'h= .int .i64 m:=fun h=>by simp[dX]
end
end Go.Proofs.YtlnndmgfngfeiaaGreatDoor
namespace Go.Pv
section
open Go Go.Lib
def dN:Gm:= .mk 0 [] [] []
mutual
def db:Gm->Nat
 | .mk k _ _ gs=>if k=0 then 0 else if k=7 then jQ gs else if k=8 then(if gs.isEmpty then 1 else iJ gs)else 1
def jQ:List Gm->Nat
 |[]=>0
 |x::xs=>db x+jQ xs
def iJ:List Gm->Nat
 |[]=>0
 |x::xs=>(if xs.isEmpty then 1+db x else db x+2)+iJ xs
end
mutual
def fj:Gm->Nat->List Ix
 | .mk k s t gs,p=>if k=0 then []else if k=1 then [⟨4,0,0,dN⟩]else if k=9 then [⟨5,0,0,.mk k s t gs⟩]else if k=7 then kK gs p
  else if k=8 then(if gs.isEmpty then [⟨4,0,0,dN⟩]else nW gs 0 p (p+iJ gs))else [⟨0,0,0,.mk k s t gs⟩]
def kK:List Gm->Nat->List Ix
 |[],_=>[]
 |x::xs,p=>fj x p++kK xs (p+db x)
def nW:List Gm->Nat->Nat->Nat->List Ix
 |[],_,_,_=>[]
 |x::xs,k,p,en=>(if xs.isEmpty then⟨2,0,k,dN⟩::fj x (p+1)else⟨1,((p+db x+2:Nat):Int),k,dN⟩::(fj x (p+1)++[⟨3,(en:Int),0,dN⟩]))++nW xs (k+1) (p+db x+2) en
end
mutual
theorem j2:∀(g:Gm) (p:Nat),(fj g p).length=db g
 | .mk k s t gs,p=>by
  simp only[fj,db];by_cases bD:k=0
  ·simp[bD]
  by_cases I:k=1
  ·simp[I]
  by_cases eb:k=9
  ·simp[eb]
  by_cases dD:k=7
  ·simp[dD,Dy gs p]
  by_cases fa:k=8
  ·simp only[fa];cases gs with
   |nil=>simp
   |cons x xs=>simp[My (x::xs)]
  simp[bD,I,dD,fa,eb]
theorem Dy:∀(l:List Gm) (p:Nat),(kK l p).length=jQ l
 |[],_=>rfl
 |x::xs,p=>by simp[kK,jQ,j2 x,Dy xs]
theorem My:∀(l:List Gm) (k p en:Nat),(nW l k p en).length=iJ l
 |[],_,_,_=>rfl
 |x::xs,k,p,en=>by
  simp only[nW,iJ,dF,My xs];split
  ·simp[j2 x];omega
  ·simp[j2 x]
end
theorem DJ(g:Gm):db g=if g.kind=0 then 0 else if g.kind=7 then jQ g.gs else if g.kind=8 then(if g.gs.isEmpty then 1 else iJ g.gs)else 1:=by cases g;rfl
theorem Dz(g:Gm)(p:Nat):fj g p=if g.kind=0 then []else if g.kind=1 then [⟨4,0,0,dN⟩]else if g.kind=9 then [⟨5,0,0,g⟩]else if g.kind=7 then kK g.gs p
  else if g.kind=8 then(if g.gs.isEmpty then [⟨4,0,0,dN⟩]else nW g.gs 0 p (p+iJ g.gs))else [⟨0,0,0,g⟩]:=by cases g;rfl
mutual
def nI:Gm->Bool
 | .mk k _ _ gs=>k !=10&&r6 gs
def r6:List Gm->Bool
 |[]=>true
 |x::xs=>nI x&&r6 xs
end
theorem RN:∀{l:List Gm},r6 l=true->∀x∈l,nI x=true
 |[],_,x,h=>by simp at h
 |y::l,h,x,ad=>by
  simp only[r6,bB]at h;rcases gH.1 ad with rfl|ad
  ·exact h.1
  ·exact RN h.2 x ad
structure rj (P:List Rl) (n:Int) (g:Gm):Prop where
 fit:g.fits 80=true
 vb:yx g n
 cf:g.cf P=true
 nn:nI g=true
theorem Ur{v:Int}:∀{l:List Gm} {x:Gm},x∈l->v∈x.vs->v∈Gm.vsL l
 |y::l,x,h,aS=>by
  simp only[Gm.vsL,iG];rcases gH.1 h with rfl|h
  ·exact .inl aS
  ·exact .inr (Ur h aS)
theorem NN{P:List Rl}:∀{l:List Gm},Gm.cfL P l=true->∀x∈l,x.cf P=true
 |[],_,x,h=>by simp at h
 |y::l,h,x,ad=>by
  simp only[Gm.cfL,bB]at h;rcases gH.1 ad with rfl|ad
  ·exact h.1
  ·exact NN h.2 x ad
theorem rj.sub{P:List Rl}{n:Int}{g:Gm}(h:rj P n g)(aa:g.kind=7\/g.kind=8):∀x∈g.gs,rj P n x:=by
 obtain⟨I,J,av,aV⟩:=h;intro x ad;cases g with
 |mk k s t gs=>
  simp only[Gm.kind]at aa;simp only[Gm.gs]at ad;have ao:qc gs=true:=by simp only[Gm.fits,Gm.shape,bB]at I;have bE:=I.1.2;rw[bf Ω,bf Ω,bN aa]at bE;simp only[bB]at bE;exact bE.2
  have cn:(Gm.mk k s t gs).sz<=80:=by simp only[Gm.fits,bB,ef]at I;exact I.2
  have ai9:x.sz<=iu gs:=If ad;refine⟨?_,?_,?_,?_⟩
  ·unfold Gm.fits;rw[Gs ao x ad,mD,ef];simp only[Gm.sz]at cn;omega
  ·intro v aS;exact J v (by simp only[Gm.vs,iG];exact .inr (Ur ad aS))
  ·simp only[Gm.cf]at av;rw[bf Ω]at av;exact NN av x ad
  ·simp only[nI,bB]at aV;exact RN aV.2 x ad
theorem YG{g:Gm}{n:Nat}(h:g.fits n=true)(aa:g.kind=8):g.gs.length<=8:=by
 cases g with
 |mk k s t gs=>simp only[Gm.kind]at aa;subst aa;simp only[Gm.fits,Gm.shape,bB]at h;have bE:=h.1.2;simp at bE;exact bE.1.2
theorem YF{g:Gm}{n:Nat}(h:g.fits n=true):0<=g.kind/\g.kind<=10:=by
 cases g with
 |mk k s t gs=>
  simp only[Gm.fits,Gm.shape,bB]at h;have bE:=h.1.2;simp only[Gm.kind];split at bE
  ·omega
  split at bE
  ·omega
  split at bE
  ·omega
  split at bE
  ·omega
  ·cases bE
def NB(es:List Ey)(P:List Rl):Prop:= ∀(s:List aF) (r:Rl),P.find? (fun r=>r.name==s)=some r->∃(k:Nat) (f:Ey),iY es s=(k:Nat)/\es[k]? =some f/\f.ar=r.ar
def lz(is:List Ix)(p:Nat)(l:List Ix):Prop:= ∀(j:Nat) x,l[j]? =some x->is[p+j]? =some x
theorem lz.left{is:List Ix}{p:Nat}{a b:List Ix}(h:lz is p (a++b)):lz is p a:=fun j x ad=>h j x (by rw[mF (cX.1 ad).1];exact ad)
theorem lz.right{is:List Ix}{p:Nat}{a b:List Ix}(h:lz is p (a++b)):lz is (p+a.length) b:=fun j x ad=>by have:=h (a.length+j) x (by rw[rb Ω];simpa using ad);rwa[<-Nat.add_assoc]at this
theorem lz.tail{is:List Ix}{p:Nat}{a:Ix}{b:List Ix}(h:lz is p (a::b)):lz is (p+1) b:=lz.right (a:=[a]) h
theorem lz.head{is:List Ix}{p:Nat}{a:Ix}{b:List Ix}(h:lz is p (a::b)):is[p]? =some a:=h 0 a rfl
def ri(c:Cd)(e:Ey)(en:Int)(p:Nat)(l:List Ix):Prop:= ∀(j:Nat) x,l[j]? =some x->rY c e en ((p+j:Nat):Int) x/\x.op≠6
theorem ri.app{c:Cd}{e:Ey}{en:Int}{p:Nat}{a b:List Ix}(I:ri c e en p a)(J:ri c e en (p+a.length) b):ri c e en p (a++b):=fun j x ad=>by
 rcases hS j a.length with h|h
 ·rw[mF h]at ad;exact I j x ad
 ·rw[rb h]at ad;have:=J _ x ad;rwa[show p+a.length+(j-a.length)=p+j from by omega]at this
theorem ri.one{c:Cd}{e:Ey}{en:Int}{p:Nat}{x:Ix}(h:rY c e en (p:Int) x/\x.op≠6):ri c e en p [x]:=fun j y bC=>by have:=(cX.1 bC).1;simp at this;subst this;simp at bC;subst bC;exact h
theorem ri.nil{c:Cd}{e:Ey}{en:Int}{p:Nat}:ri c e en p []:=fun j x ad=>by simp at ad
theorem QQ{c:Cd}{e:Ey}{en at':Int}:rY c e en at' ⟨4,0,0,dN⟩/\(⟨4,0,0,dN⟩:Ix).op≠6:=by simp[rY,x5,dN,Gm.kind,Gm.name,Gm.ts,Gm.gs]
theorem Vl{xs:List Gm}{k p en:Nat}(h:xs≠[]):∃y r,nW xs k p en=y::r/\(y.op=1\/y.op=2)/\y.b=k:=by
 cases xs with
 |nil=>exact absurd rfl h
 |cons x xs=>
  simp only[nW];split
  ·exact⟨_,_,rfl,.inr rfl,rfl⟩
  ·exact⟨_,_,rfl,.inl rfl,rfl⟩
section
variable {c:Cd} {P:List Rl} {e:Ey} {en:Int} (aD:NB c.es P)
include aD
theorem adj:∀(n:Nat) (g:Gm),g.sz<=n->rj P e.vars g->∀p:Nat,e.pos<=p->((p+db g:Nat):Int)<en->lz c.is p (fj g p)->ri c e en p (fj g p):=by
 intro n;induction n with
 |zero=>intro g aO;have:=g.sz_pos;omega
 |succ n a8=>
 intro g aO lG p bq ml bK;have aiU:=YF lG.fit;rw[Dz]at bK⊢;rw[DJ]at ml;by_cases gN:g.kind=0
 ·rw[bN gN];exact .nil
 rw[bf gN]at bK ml⊢;by_cases dh:g.kind=1
 ·rw[bN dh];exact .one QQ
 rw[bf dh]at bK⊢;by_cases tb:g.kind=9
 ·rw[bN tb];refine .one ⟨?_,Ψ⟩;obtain⟨r,hr,rM⟩:∃r,P.find? (fun r=>r.name==g.name)=some r/\r.ar=g.ts.length:=by
   have:=lG.cf;cases g with
   |mk k s t gs=>
    simp only[Gm.kind]at tb;simp only[Gm.cf,bN tb]at this;split at this
    ·rename_i r hr;exact⟨r,hr,by simpa[Gm.ts]using this⟩
    ·cases this
  obtain⟨k,f,aa,aM,aam⟩:=aD g.name r hr;refine⟨fun I J=>absurd rfl J,fun h=>by simp at h,fun _=>⟨rfl,rfl,lG.fit,tb,lG.vb,k,f,aa,aM,by rw[aam,rM]⟩,?_⟩;simp
 rw[bf tb]at bK⊢;by_cases JB:g.kind=7
 ·rw[bN JB]at bK ml⊢;have xR:=lG.sub (.inl JB);have key:∀(l:List Gm),(∀x∈l,x.sz<=n/\rj P e.vars x)->∀q:Nat,e.pos<=q->((q+jQ l:Nat):Int)<en->lz c.is q (kK l q)->ri c e en q (kK l q):=by
   intro l;induction l with
   |nil=>intro _ q _ _ _;exact .nil
   |cons x xs Js=>intro ad q bG BV uj;simp only[kK]at uj⊢;simp only[jQ]at BV;have I:=ad x Ψ;refine .app (a8 x I.1 I.2 q bG Ω uj.left) ?_;rw[j2];refine Js (fun y bC=>ad y (by simp[bC])) (q+db x) Ω Ω ?_;have:=uj.right;rwa[j2]at this
  exact key g.gs (fun x ad=>⟨by have:=g.gs_lt ad;omega,xR x ad⟩) p bq ml bK
 rw[bf JB]at bK ml⊢;by_cases Fp:g.kind=8
 ·rw[bN Fp]at bK ml⊢;by_cases he:g.gs.isEmpty=true
  ·rw[bN he];exact .one QQ
  rw[bf he]at bK ml⊢;have xR:=lG.sub (.inr Fp);have aiV:=YG lG.fit Fp;have key:∀(l:List Gm) (k q:Nat),(∀x∈l,x.sz<=n/\rj P e.vars x)->k+l.length<=8->e.pos<=q->q+iJ l=p+iJ g.gs->lz c.is q (nW l k q (p+iJ g.gs))->ri c e en q (nW l k q (p+iJ g.gs)):=by
   intro l;induction l with
   |nil=>intro k q _ _ _ _ _;exact .nil
   |cons x xs Js=>
    intro k q ad P3 bG BV uj;have I:=ad x Ψ;simp only[iJ]at BV;by_cases ey:xs.isEmpty=true
    ·have Cb:xs=[]:=by simpa using ey
     subst Cb;simp only[nW,ey,if_true,List.append_nil]at uj⊢;simp only[ey,if_true,iJ]at BV;refine .app (a:=[_]) (.one ⟨?_,Ψ⟩) ?_
     ·simp only[List.length_singleton,e3]at P3;refine⟨fun _ _=>rfl,fun h=>by simp at h,fun h=>by simp at h,fun h=>by simp at h,fun _=>⟨rfl,Ψ,by simp;omega⟩,fun h=>by simp at h,fun h=>by simp at h,fun h=>by simp at h,Ψ,Ψ⟩
     ·exact a8 x I.1 I.2 (q+1) Ω Ω uj.tail
    ·have Cb:xs≠[]:=by simpa using ey
     have xP:xs≠[]->1<=iJ xs:=by
      intro h;cases xs with
      |nil=>exact absurd rfl h
      |cons y ys=>simp only[iJ];split<;>omega
     have ai5:=xP Cb;simp only[nW,ey,if_false,iR]at uj⊢;simp only[ey,if_false,iR]at BV;have af:(fj x (q+1)).length=db x:=j2 x _;have BX:=uj.right;simp only[e3,dF,nj,af]at BX;rw[show q+(db x+(0+1)+1)=q+db x+2 from by omega]at BX;obtain⟨y,r,bC,Fb,jH⟩:=Vl (k:=k+1) (p:=q+db x+2) (en:=p+iJ g.gs) Cb;have h3:c.is[q+db x+2]? =some y:=by rw[bC]at BX;exact BX.head
     simp only[e3]at P3;have mu:1<=xs.length:=re.2 Cb;refine .app ?_ ?_
     ·refine .app (a:=[_]) (.one ⟨?_,Ψ⟩) (.app ?_ ?_)
      ·refine⟨fun _ _=>rfl,fun h=>by simp at h,fun h=>by simp at h,fun _=>⟨⟨by simp;omega,by simp;omega,by simp;omega⟩,⟨Ψ,by simp;omega⟩,y,(by show c.is[(((q+db x+2:Nat):Int)).toNat]? =some y;rw[Int.toNat_natCast];exact h3),Fb,by simp[jH]⟩,fun h=>by simp at h,fun h=>by simp at h,fun h=>by simp at h,fun h=>by simp at h,Ψ,Ψ⟩
      ·exact a8 x I.1 I.2 (q+1) Ω Ω uj.left.tail.left
      ·refine .one ⟨?_,Ψ⟩;rw[af];refine⟨fun _ _=>rfl,fun h=>by simp at h,fun h=>by simp at h,fun h=>by simp at h,fun h=>by simp at h,fun _=>⟨⟨by simp;omega,by simp;omega,by simp;omega⟩,rfl⟩,fun h=>by simp at h,fun h=>by simp at h,Ψ,Ψ⟩
     ·simp only[e3,dF,nj,af];rw[show q+(db x+(0+1)+1)=q+db x+2 from by omega];exact Js (k+1) (q+db x+2) (fun y bC=>ad y (by simp[bC])) Ω Ω Ω BX
  exact key g.gs 0 p (fun x ad=>⟨by have:=g.gs_lt ad;omega,xR x ad⟩) Ω bq rfl bK
 ·rw[bf Fp];have ajr:g.kind≠10:=by
   have:=lG.nn;cases g with
   |mk k s t gs=>simp only[nI,bB,bne_iff_ne]at this;exact this.1
  refine .one ⟨?_,Ψ⟩;refine⟨fun h=>absurd rfl h,fun _=>⟨rfl,rfl,lG.fit,by simp only;omega,by simp only;omega,lG.vb⟩,?_⟩;simp
end
structure jO where
 name:List aF
 ar:Int
 vars:Int
 body:Gm
def fL:List jO->Nat->List Ix
 |[],_=>[]
 |x::xs,p=>fj x.body p++(⟨6,0,0,dN⟩::fL xs (p+db x.body+1))
def jC:List jO->Nat->List Ey
 |[],_=>[]
 |x::xs,p=>⟨x.name,p,x.ar,x.vars⟩::jC xs (p+db x.body+1)
def fR(P:List Rl)(g:Gm)(n:Int):List jO:=P.map (fun r=>⟨r.name,r.ar,r.ar+r.loc,r.body⟩)++[⟨[],0,n,g⟩]
def k6(P:List Rl)(g:Gm)(n:Int):Cd:=⟨fL (fR P g n) 0,jC (fR P g n) 0⟩
theorem w9:∀(l:List jO) (p:Nat),(jC l p).length=l.length
 |[],_=>rfl
 |x::xs,p=>by simp[jC,w9 xs]
def jz:List jO->Nat->Nat->Nat
 |[],p,_=>p
 |_::_,p,0=>p
 |x::xs,p,i+1=>jz xs (p+db x.body+1) i
theorem yX:∀{l:List jO} {p i:Nat} {x:jO},l[i]? =some x->(jC l p)[i]? =some ⟨x.name,(jz l p i:Nat),x.ar,x.vars⟩
 |y::l,p,0,x,h=>by simp at h;subst h;rfl
 |y::l,p,i+1,x,h=>by simp only[jC,List.getElem?_cons_succ,jz];exact yX (by simpa using h)
 |[],p,i,x,h=>by simp at h
theorem NQ:∀(l:List jO) (p:Nat),p+(fL l p).length=jz l p l.length
 |[],p=>rfl
 |x::xs,p=>by have:=NQ xs (p+db x.body+1);simp only[fL,dF,e3,j2,jz];omega
theorem GQ:∀{l:List jO} {p i:Nat} {x:jO},l[i]? =some x->jz l p (i+1)=jz l p i+db x.body+1
 |y::l,p,0,x,h=>by simp at h;subst h;cases l<;>rfl
 |y::l,p,i+1,x,h=>by show jz l _ (i+1)=jz l _ i+_+1;exact GQ (by simpa using h)
 |[],p,i,x,h=>by simp at h
theorem NP:∀{l:List jO} {p i:Nat} {x:jO},l[i]? =some x->∀(is:List Ix),lz is p (fL l p)->lz is (jz l p i) (fj x.body (jz l p i)++[⟨6,0,0,dN⟩])
 |y::l,p,0,x,h,is,bK=>by simp at h;subst h;simp only[fL]at bK;refine lz.left (b:=fL l (p+db y.body+1)) ?_;rw[l2];exact bK
 |y::l,p,i+1,x,h,is,bK=>by simp only[fL]at bK;have J:=bK.right.tail;rw[j2]at J;exact NP (l:=l) (by simpa using h) is J
 |[],p,i,x,h,_,_=>by simp at h
theorem Kq{P:List Rl}{g:Gm}{n:Int}{i:Nat}{x:jO}(h:(fR P g n)[i]? =some x):(∃r,P[i]? =some r/\x=⟨r.name,r.ar,r.ar+r.loc,r.body⟩)\/(i=P.length/\x=⟨[],0,n,g⟩):=by
 unfold fR at h;rcases hS i P.length with aw|aw
 ·rw[mF (by simpa using aw),oG]at h;obtain⟨r,hr,rfl⟩:=hT.1 h;exact .inl ⟨r,hr,rfl⟩
 ·rw[rb (by simpa using aw)]at h;have:=(cX.1 h).1;simp at this;have:i=P.length:=Ω
  subst this;simp at h;exact .inr ⟨rfl,h.symm⟩
theorem Sx{P:List Rl}{g:Gm}{n:Int}{i:Nat}{r:Rl}(h:P[i]? =some r):(fR P g n)[i]? =some ⟨r.name,r.ar,r.ar+r.loc,r.body⟩:=by unfold fR;have:=(cX.1 h).1;rw[mF (by simpa using this),oG,h];rfl
theorem CJ(P:List Rl)(g:Gm)(n:Int):(fR P g n).length=P.length+1:=by simp[fR]
theorem YE{P:List Rl}(aK:(P.map Rl.name).Nodup){s:List aF}{r:Rl}(h:P.find? (fun r=>r.name==s)=some r):∃i,P[i]? =some r/\r.name=s/\∀(j:Nat) q,j<i->P[j]? =some q->q.name≠s:=by obtain⟨I,aS9,eE,rfl,J⟩:=List.find?_eq_some_iff_append.1 h;refine⟨aS9.length,Ψ,by simpa using I,fun j q al bG=>?_⟩;rw[mF al]at bG;have:=J q (eR bG);simpa using this
theorem Om{P:List Rl}{g:Gm}{n:Int}{s:List aF}{i:Nat}{r:Rl}(h:P[i]? =some r)(hr:r.name=s)(aM:∀(j:Nat) q,j<i->P[j]? =some q->q.name≠s)(p:Nat):iY (jC (fR P g n) p) s=(i:Nat)/\∃f,(jC (fR P g n) p)[i]? =some f/\f.ar=r.ar:=by
 have he:=yX (p:=p) (Sx (g:=g) (n:=n) h);refine⟨DZ he hr fun j f al PU=>?_,_,he,rfl⟩;have eS:j<P.length:=by have:=(cX.1 h).1;omega
 obtain⟨q,bG⟩:∃q,P[j]? =some q:=⟨_,bO eS⟩;rw[yX (Sx bG)]at PU;cases PU;exact aM j q al bG
theorem Vy{P:List Rl}{g:Gm}{n:Int}(gL:il P=true)(mo:∀r∈P,nI r.body=true)(aO:rj P n g)(bD:0<=n)(I:n<=100000):lE (k6 P g n):=by
 simp only[il,bB,ef,gC]at gL;obtain⟨⟨aiC,pO⟩,hP3⟩:=gL;have Iq:NB (k6 P g n).es P:=fun s r hr=>by obtain⟨i,aw,abf,aM⟩:=YE pO hr;obtain⟨I,f,J,av⟩:=Om (g:=g) (n:=n) aw abf aM 0;exact⟨i,f,I,J,av⟩
 have Z0:∀(i:Nat) (x:jO),(fR P g n)[i]? =some x->rj P x.vars x.body:=fun i x ad=>by
  rcases Kq ad with⟨r,hr,rfl⟩|⟨_,rfl⟩
  ·have hm:=eR hr;have:=hP3 r hm;simp only[Rl.ok,bB,ef,gC]at this;obtain⟨⟨⟨⟨⟨b9,cx⟩,dp⟩,c6⟩,cH⟩,iD⟩:=this;refine⟨?_,fun v aS=>cH v aS,iD,mo r hm⟩;simp only[Gm.fits,bB,ef]at c6⊢;exact⟨c6.1,Ω⟩
  ·exact aO
 have hK:∀(i:Nat) (x:jO),(fR P g n)[i]? =some x->(k6 P g n).fin i=((jz (fR P g n) 0 i+db x.body+1:Nat):Int):=fun i x ad=>by
  have aw:=(cX.1 ad).1;rw[<-GQ ad];rcases hS (i+1) (fR P g n).length with h|h
  ·obtain⟨y,bC⟩:∃y,(fR P g n)[i+1]? =some y:=⟨_,bO h⟩;rw[Cd.fin_of (yX bC)]
  ·rw[Cd.fin_last (by show(jC _ _).length<=_;rw[w9];exact h)];have J:=NQ (fR P g n) 0;rw[nk]at J;show((fL (fR P g n) 0).length:Int)=_;rw[J,show i+1=(fR P g n).length from by omega]
 have oX:∀(i:Nat) (e:Ey),(k6 P g n).es[i]? =some e->∃x,(fR P g n)[i]? =some x/\e=⟨x.name,(jz (fR P g n) 0 i:Nat),x.ar,x.vars⟩:=fun i e he=>by
  have aw:i<(fR P g n).length:=by have:=(cX.1 he).1;have J:(k6 P g n).es.length=(fR P g n).length:=w9 _ _;omega
  obtain⟨x,ad⟩:∃x,(fR P g n)[i]? =some x:=⟨_,bO aw⟩;have:(k6 P g n).es[i]? =_:=yX ad;rw[this]at he;cases he;exact⟨x,ad,rfl⟩
 have PY:∀(i:Nat) (x:jO),(fR P g n)[i]? =some x->lz (k6 P g n).is (jz (fR P g n) 0 i) (fj x.body (jz (fR P g n) 0 i)++[⟨6,0,0,dN⟩]):=fun i x ad=>NP ad _ fun j y bC=>by rw[nk];exact bC
 have hlen:(k6 P g n).es.length=P.length+1:=(w9 _ _).trans (CJ P g n);refine⟨?_,fun i e he=>?_,fun i e he=>?_⟩
 ·obtain⟨x,ad⟩:∃x,(fR P g n)[0]? =some x:=⟨_,bO (by rw[CJ];omega)⟩;refine⟨_,yX ad,?_⟩;show((jz (fR P g n) 0 0:Nat):Int)=0;cases fR P g n<;>rfl
 ·obtain⟨x,ad,rfl⟩:=oX i e he;have aw:=(cX.1 ad).1;rw[CJ]at aw;have fb:((jz (fR P g n) 0 i:Nat):Int)<(k6 P g n).is.length:=by have:=PY i x ad (db x.body) ⟨6,0,0,dN⟩ (by rw[rb (by rw[j2];exact da _),j2];simp);have:=(cX.1 this).1;omega
  have Qj:∀p,0<i->(k6 P g n).es[i-1]? =some p->p.pos<((jz (fR P g n) 0 i:Nat):Int):=fun p n8 bq=>by obtain⟨y,bC,rfl⟩:=oX _ _ bq;have:=GQ (p:=0) bC;rw[show i-1+1=i from by omega]at this;rw[this];simp only;omega
  rcases Kq ad with⟨r,hr,rfl⟩|⟨rfl,rfl⟩
  ·have hm:=eR hr;have aiT:=(cX.1 hr).1;have:=hP3 r hm;simp only[Rl.ok,bB,ef,gC]at this;obtain⟨⟨⟨⟨⟨b9,cx⟩,dp⟩,c6⟩,cH⟩,iD⟩:=this;refine⟨fun h=>by rw[hlen]at h;omega,fun _=>⟨b9,?_⟩,cx,⟨by simp only;omega,by simp only;omega⟩,⟨Ψ,fb⟩,Qj⟩;refine(Om (g:=g) (n:=n) hr rfl (fun j q al bG cE=>?_) 0).1;have eS:=(cX.1 bG).1;have I:(P.map Rl.name)[j]? =some q.name:=by rw[oG,bG];rfl
   have J:(P.map Rl.name)[i]? =some r.name:=by rw[oG,hr];rfl
   rw[cE]at I;obtain⟨bV,a2⟩:=cX.1 I;obtain⟨bQ,b3⟩:=cX.1 J;have:=(List.pairwise_iff_getElem.1 pO) j i bV bQ al;exact this (a2.trans b3.symm)
  ·refine⟨fun _=>⟨rfl,rfl⟩,fun h=>by rw[hlen]at h;omega,Ψ,⟨by simpa using bD,by simpa using I⟩,⟨Ψ,fb⟩,Qj⟩
 ·obtain⟨x,ad,rfl⟩:=oX i e he;have bK:=PY i x ad;have aM:=hK i x ad;have j4:=adj (c:=k6 P g n) (e:=⟨x.name,(jz (fR P g n) 0 i:Nat),x.ar,x.vars⟩) (en:=(k6 P g n).fin i) Iq x.body.sz x.body (da _) (Z0 i x ad) (jz (fR P g n) 0 i) Ψ (by rw[aM];omega) bK.left;have nx:=bK (db x.body) ⟨6,0,0,dN⟩ (by rw[rb (by rw[j2];exact da _),j2];simp);refine⟨fun y bC=>?_,fun k y fO fG bC=>?_⟩
  ·rw[aM]at bC;rw[show(((jz (fR P g n) 0 i+db x.body+1:Nat):Int)-1).toNat=jz (fR P g n) 0 i+db x.body from by omega,nx]at bC;cases bC;rfl
  ·simp only at fO;rw[aM]at fG;obtain⟨d,rfl⟩:∃d,k=jz (fR P g n) 0 i+d:=⟨k-jz (fR P g n) 0 i,Ω⟩;rcases hS d (db x.body)with a7|a7
   ·obtain⟨z,cn⟩:∃z,(fj x.body (jz (fR P g n) 0 i))[d]? =some z:=⟨_,bO (by rw[j2];exact a7)⟩;have J:=bK.left d z cn;rw[bC]at J;cases J;exact(j4 d y cn).1
   ·have:d=db x.body:=Ω
    subst this;rw[nx]at bC;cases bC;refine⟨fun _ _=>rfl,?_⟩;rw[aM];simp
end
end Go.Pv
namespace Go.Proofs.YtlnndmgfngfeiaaGreatDoor
section
open Go Go.Pv
def Hh:C:=(ae [cd (.alloc 2 none (.agg [.slice 7 .nil []])),cl 3 false] (ae [ab 14 0,cW 15 107 14,ab 13 15,hx 16 0 13,hx 17 1 13,ab 4 16,ab 5 17] (.seq (ae [ab 18 5,eP 19 18] (bt 19 (ae [bm 20 (.build [.slice 7 .nil []] []),bM 1 2 20,cl 3 false] .ret) .skip)) (ae [bm 21 (.build [.slice 7 .nil []] []),cd (.alloc 6 none (.agg [.slice 7 .nil []])),bM 1 6 21] (ae [cA 7 0] (ae [cA 8 0] (.seq (ae [ab 22 4,cy 23 22,cA 24 0] (ir 25 24 23 (.seq (.block 1 (ae [ab 26 24,di 27 1 22 24,aW 28 1 27,ab 9 26,ab 10 28] (.seq (ae [ab 29 10,bm 30 (.bin .eql false (.t 29) (.c (.str [40])))] (bt 30 (.region [ab 31 8,a1 32 .add 31 1,ab 8 32]) .skip)) (.seq (ae [ab 33 10,bm 34 (.bin .eql false (.t 33) (.c (.str [41])))] (bt 34 (.region [ab 35 8,a1 36 .sub 35 1,ab 8 36]) .skip)) (.seq (ae [ab 37 8,a1 38 .gtr 37 0] (bt 38 (.exit 1) .skip)) (ae [ab 40 4,ab 41 7,ab 42 9,a1 43 .add 42 1,bm 44 (.lsl 1 (.t 40) (some (.t 41)) (some (.t 43))),cW 45 108 44,ab 39 45,hx 46 0 39,hx 47 1 39,cd (.alloc 11 none (.agg [.str [],.int .i64 0,.int .i64 0,.int .i64 0,.str [],.slice 4 .nil [],.slice 4 .nil []])),bM 7 11 46,ab 12 47] (.seq (ae [ab 48 12,eP 49 48] (bt 49 (ae [bm 50 (.build [.slice 7 .nil []] []),bM 1 2 50,cl 3 false] .ret) .skip)) (ae [a6 51 0 1 6,aW 52 1 51,bH 53 7 11,ff 54 7 86 [.t 53],kp 55 7 86 52 54,a6 56 0 1 6,bM 1 56 55] (.region [ab 57 9,a1 58 .add 57 1,ab 7 58]))))))))) (.region [a1 59 .add 24 1,ab 24 59])))) (.seq (ae [ab 60 8,a1 61 .neq 60 0,ab 62 61,aB 62 false (bH 63 1 6),aB 62 false (cW 64 109 63),aB 62 false (eP 65 64),c7 66 62 65] (bt 66 (ae [bm 67 (.build [.slice 7 .nil []] []),bM 1 2 67,cl 3 false] .ret) .skip)) (ae [bH 68 1 6,bM 1 2 68,cl 3 true] .ret)))))))))
@[simp] def qV:List cp:=[.cell 2 true 1,.tmp 3]
def M4:C:=(ae [bm 2 (.mov (.c (.str [])))] (ae [ff 7 1 9 [],ab 3 7] (.seq (ae [ab 8 0] (.block 0 (ae [bm 10 (.bin .eql false (.t 8) (.c (.str [108,105,115,116,115]))),ab 9 10] (bt 9 (.region [cd (.bsl 11 1 9 [(.c (.str (40::100::101::102::105::110::101::32::40::97::112::112::101::110::100::32::63::97::32::63::98::32::63::99::41::32::40::111::114::32::40::97::110::100::32::40::61::32::63::97::32::40::41::41::32::40::61::32::63::98::32::63::99::41::41::32::40::97::110::100::32::40::61::32::63::97::32::40::63::120::32::46::32::63::121::41::41::32::40::61::32::63::99::32::40::63::120::32::46::32::63::122::41::41::32::40::97::112::112::101::110::100::32::63::121::32::63::98::32::63::122::41::41::41::41::[]))),(.c (.str (40::100::101::102::105::110::101::32::40::109::101::109::98::101::114::32::63::120::32::63::108::41::32::40::111::114::32::40::61::32::63::108::32::40::63::120::32::46::32::63::114::41::41::32::40::97::110::100::32::40::61::32::63::108::32::40::63::121::32::46::32::63::114::41::41::32::40::109::101::109::98::101::114::32::63::120::32::63::114::41::41::41::41::[])))]),ab 3 11]) (ae [bm 13 (.bin .eql false (.t 8) (.c (.str [103,114,97,112,104]))),ab 12 13] (bt 12 (.region [cd (.bsl 14 1 9 [(.c (.str (40::100::101::102::105::110::101::32::40::101::100::103::101::32::63::97::32::63::98::41::32::40::111::114::32::40::97::110::100::32::40::61::32::63::97::32::97::41::32::40::61::32::63::98::32::98::41::41::32::40::97::110::100::32::40::61::32::63::97::32::98::41::32::40::61::32::63::98::32::99::41::41::32::40::97::110::100::32::40::61::32::63::97::32::99::41::32::40::61::32::63::98::32::97::41::41::41::41::[]))),(.c (.str (40::100::101::102::105::110::101::32::40::112::97::116::104::32::63::97::32::63::98::41::32::40::111::114::32::40::101::100::103::101::32::63::97::32::63::98::41::32::40::97::110::100::32::40::112::97::116::104::32::63::97::32::63::99::41::32::40::101::100::103::101::32::63::99::32::63::98::41::41::41::41::[])))]),ab 3 14]) (ae [bm 16 (.bin .eql false (.t 8) (.c (.str [115,101,116,115]))),ab 15 16] (bt 15 (.region [cd (.bsl 17 1 9 [(.c (.str (40::100::101::102::105::110::101::32::40::111::117::116::115::105::100::101::32::63::120::32::63::108::41::32::40::111::114::32::40::61::32::63::108::32::40::41::41::32::40::97::110::100::32::40::61::32::63::108::32::40::63::121::32::46::32::63::114::41::41::32::40::47::61::32::63::120::32::63::121::41::32::40::111::117::116::115::105::100::101::32::63::120::32::63::114::41::41::41::41::[]))),(.c (.str (40::100::101::102::105::110::101::32::40::100::105::115::116::105::110::99::116::32::63::108::41::32::40::111::114::32::40::61::32::63::108::32::40::41::41::32::40::97::110::100::32::40::61::32::63::108::32::40::63::120::32::46::32::63::114::41::41::32::40::111::117::116::115::105::100::101::32::63::120::32::63::114::41::32::40::100::105::115::116::105::110::99::116::32::63::114::41::41::41::41::[])))]),ab 3 17]) (ae [bm 19 (.bin .eql false (.t 8) (.c (.str [103,97,109,101,115]))),ab 18 19] (bt 18 (.region [cd (.bsl 20 1 9 [(.c (.str (40::100::101::102::105::110::101::32::40::109::111::118::101::32::63::97::32::63::98::41::32::40::111::114::32::40::97::110::100::32::40::61::32::63::97::32::97::41::32::40::61::32::63::98::32::98::41::41::32::40::97::110::100::32::40::61::32::63::97::32::98::41::32::40::61::32::63::98::32::97::41::41::32::40::97::110::100::32::40::61::32::63::97::32::98::41::32::40::61::32::63::98::32::99::41::41::41::41::[]))),(.c (.str (40::100::101::102::105::110::101::32::40::119::105::110::32::63::97::41::32::40::97::110::100::32::40::109::111::118::101::32::63::97::32::63::98::41::32::40::110::111::116::32::40::119::105::110::32::63::98::41::41::41::41::[])))]),ab 3 20]) .skip)))))))))) (ae [bm 4 (.mov (.c (.str [])))] (.seq (ae [ab 21 3,cy 22 21,cA 23 0] (.block 1 (.loop (ae [cC 24 .lss 23 22] (.seq (bt 24 .skip (.exit 1)) (.seq (.block 2 (ae [di 25 1 21 23,aW 26 1 25,ab 6 26] (.region [ab 27 4,ab 28 6,cC 29 .add 27 28,ff 30 1 5 [(.c (.int .u8 10))],bm 31 (.b2s (.t 30)),cC 32 .add 29 31,ab 4 32]))) (.region [a1 33 .add 23 1,ab 23 33]))))))) (ae [ab 34 4,ab 2 34] .ret))))))
@[simp] def CQ:List cp:=[.tmp 2]
def Ny:C:=(ae [bm 2 (.mov (.c (.str [])))] (ae [ab 3 0,cd (.bsl 4 1 9 [(.c (.str [108,105,115,116,115])),(.c (.str [103,114,97,112,104])),(.c (.str [115,101,116,115])),(.c (.str [103,97,109,101,115]))]),dJ 5 163 3 4,ab 2 5] .ret))
@[simp] def S3:List cp:=[.tmp 2]
def M1:C:=(ae [eA 1 0,cl 2 false] (ae [bH 3 1 1,eg 4 164 [.t 3,(.c (.bool false))],ab 2 4] .ret))
@[simp] def aeU:List cp:=[.tmp 2]
def M2:C:=(ae [eA 1 0,cl 2 false] (ae [bH 3 1 1,eg 4 164 [.t 3,(.c (.bool true))],ab 2 4] .ret))
@[simp] def aeV:List cp:=[.tmp 2]
def yV:C:=(ae [cd (.alloc 2 none (.agg [.str [],.int .i64 0,.int .i64 0,.int .i64 0,.str [],.slice 4 .nil [],.slice 4 .nil []])),cl 3 false] (ae [ab 13 0,cW 14 173 13,ab 12 14,hx 15 0 12,hx 16 1 12,hx 17 2 12,ab 4 15,ab 5 16,ab 6 17] (.seq (ae [ab 18 6,eP 19 18,ab 20 19,cj 20 false 21 4,aB 20 false (cy 22 21),aB 20 false (a1 23 .lss 22 6),c7 24 20 23,ab 25 24,cj 25 false 26 4,aB 25 false (k0 27 1 26 1),aB 25 false (aW 28 1 27),kF 25 false 29 (.bin .neq false (.t 28) (.c (.str [100,101,102,105,110,101]))),c7 30 25 29,ab 31 30,cj 31 false 32 4,aB 31 false (k0 33 1 32 2),aB 31 false (aW 34 1 33),kF 31 false 35 (.bin .neq false (.t 34) (.c (.str [40]))),c7 36 31 35] (bt 36 (ae [bm 37 (.build [.str [],.int .i64 0,.int .i64 0,.int .i64 0,.str [],.slice 4 .nil [],.slice 4 .nil []] []),bM 7 2 37,cl 3 false] .ret) .skip)) (ae [ab 38 4,k0 39 1 38 3,aW 40 1 39,bm 41 (.build [.str [],.int .i64 0,.int .i64 0,.int .i64 0,.str [],.slice 4 .nil [],.slice 4 .nil []] [(0,1,(.t 40))]),cd (.alloc 7 none (.agg [.str [],.int .i64 0,.int .i64 0,.int .i64 0,.str [],.slice 4 .nil [],.slice 4 .nil []])),bM 7 7 41] (ae [cA 8 4] (.seq (.block 0 (.loop (.seq (.seq (.drawn true 99 [ab 42 8,ab 43 4,cy 44 43,cC 45 .lss 42 44,ab 46 45,cj 46 true 47 4,cj 46 true 48 8,aB 46 true (di 49 1 47 48),aB 46 true (aW 50 1 49),aB 46 true (a6 51 1 1 7),aB 46 true (aW 52 1 51),aB 46 true (cW 53 57 52),kF 46 true 54 (.bin .add false (.c (.str [63])) (.t 53)),aB 46 true (cC 55 .eql 50 54),dq 56 46 55]) (bt 56 .skip (.exit 0))) (.block 1 (ae [a6 57 1 1 7,aW 58 1 57,a1 59 .add 58 1,a6 60 1 1 7,bM 1 60 59] (.region [ab 61 8,a1 62 .add 61 1,ab 8 62])))))) (.seq (ae [ab 63 8,ab 64 4,cy 65 64,cC 66 .geq 63 65,ab 67 66,cj 67 false 68 4,cj 67 false 69 8,aB 67 false (di 70 1 68 69),aB 67 false (aW 71 1 70),kF 67 false 72 (.bin .neq false (.t 71) (.c (.str [41]))),c7 73 67 72] (bt 73 (ae [bm 74 (.build [.str [],.int .i64 0,.int .i64 0,.int .i64 0,.str [],.slice 4 .nil [],.slice 4 .nil []] []),bM 7 2 74,cl 3 false] .ret) .skip)) (ae [ab 76 4,ab 77 8,a1 78 .add 77 1,dJ 79 154 76 78,ab 75 79,hx 80 0 75,hx 81 1 75,hx 82 2 75,cd (.alloc 9 none (.agg [.int .i64 0,.str [],.slice 4 .nil [],.slice 4 .nil []])),bM 4 9 80,ab 10 81,ab 11 82] (ae [ab 83 5,a6 84 1 1 7,aW 85 1 84,cC 86 .sub 83 85,a6 87 2 1 7,bM 1 87 86] (ae [bH 88 4 9,hP 89 3 4 7,bM 4 89 88] (ae [bH 90 7 7,ab 91 11,ab 92 91,cj 92 true 93 10,cj 92 true 94 4,aB 92 true (cy 95 94),aB 92 true (a1 96 .sub 95 1),aB 92 true (cC 97 .eql 93 96),dq 98 92 97,bM 7 2 90,ab 3 98] .ret)))))))))))
@[simp] def tq:List cp:=[.cell 2 true 7,.tmp 3]
def Hi:C:=(ae [eA 1 0,cl 2 false] (.seq (ae [a6 5 0 1 1,aW 6 1 5,cy 7 6,a1 8 .gtr 7 8] (bt 8 (ae [cl 2 false] .ret) .skip)) (.seq (ae [a6 9 0 1 1,aW 10 1 9,cy 11 10,cA 12 0] (ir 13 12 11 (.seq (.block 1 (ae [ab 14 12,di 15 7 10 12,bH 16 7 15,cd (.alloc 4 none (.agg [.str [],.int .i64 0,.int .i64 0,.int .i64 0,.str [],.slice 4 .nil [],.slice 4 .nil []])),ab 3 14,bM 7 4 16] (ae (bH 17 1 1::a6 18 0 1 4::aW 19 1 18::dJ 20 174 17 19::ab 21 3::cC 22 .neq 20 21::ab 23 22::aB 23 false (a6 24 0 1 4)::aB 23 false (aW 25 1 24)::aB 23 false (cW 26 128 25)::aB 23 false (eP 27 26)::c7 28 23 27::ab 29 28::aB 29 false (a6 30 1 1 4)::aB 29 false (aW 31 1 30)::aB 29 false (eg 32 127 [.t 31,(ca 0),(ca 4)])::aB 29 false (eP 33 32)::c7 34 29 33::ab 35 34::aB 35 false (a6 36 2 1 4)::aB 35 false (aW 37 1 36)::aB 35 false (eg 38 127 [.t 37,(ca 0),(ca 8)])::aB 35 false (eP 39 38)::c7 40 35 39::ab 41 40::aB 41 false (bH 42 1 1)::aB 41 false (hP 43 3 4 4)::aB 41 false (bH 44 4 43)::aB 41 false (a6 45 1 1 4)::aB 41 false (aW 46 1 45)::aB 41 false (a6 47 2 1 4)::aB 41 false (aW 48 1 47)::aB 41 false (cC 49 .add 46 48)::aB 41 false (eg 50 175 [.t 42,.t 44,.t 49])::aB 41 false (eP 51 50)::c7 52 41 51::ab 53 52::aB 53 false (hP 54 3 4 4)::aB 53 false (bH 55 4 54)::aB 53 false (cW 56 176 55)::aB 53 false (a1 57 .gtr 56 60)::c7 58 53 57::[]) (bt 58 (ae [cl 2 false] .ret) .skip)))) (.region [a1 59 .add 12 1,ab 12 59])))) (ae [cl 2 true] .ret))))
@[simp] def aeZ:List cp:=[.tmp 2]
def Hl:C:=(ae [eA 2 0,cl 4 false] (.seq (ae [bH 7 1 2,cW 8 109 7,eP 9 8] (bt 9 (ae [cl 4 false] .ret) .skip)) (.seq (ae [a6 10 0 1 2,aW 11 1 10,cy 12 11,cA 13 0] (ir 14 13 12 (.seq (.block 1 (ae [di 15 7 11 13,bH 16 7 15,cd (.alloc 6 none (.agg [.str [],.int .i64 0,.int .i64 0,.int .i64 0,.str [],.slice 4 .nil [],.slice 4 .nil []])),bM 7 6 16] (ae [hP 17 3 4 6,bH 18 4 17,ab 19 1,dJ 20 214 18 19,eP 21 20] (bt 21 (ae [cl 4 false] .ret) .skip)))) (.region [a1 22 .add 13 1,ab 13 22])))) (ae [cl 4 true] .ret))))
@[simp] def ae8:List cp:=[.tmp 4]
def Nz:C:=(ae [ps 2 1,cA 3 0,cl 4 false] (ae [ff 12 1 9 [],ab 5 12] (ae [ff 13 1 9 [],ab 6 13] (.seq (ae [ab 14 0,cy 15 14,cA 16 0] (ir 17 16 15 (.seq (.block 1 (ae [di 18 1 14 16,aW 19 1 18,ab 8 19] (.seq (ae [ab 20 8,bm 21 (.sidx (.t 20) (ca 0)),bm 22 (.bin .neq false (.t 21) (.c (.int .u8 63)))] (bt 22 (ae [ab 23 6,ab 24 8,ff 25 1 9 [.t 24],kp 26 1 9 23 25,ab 6 26] (.exit 1)) .skip)) (ae [ab 28 8,bm 29 (.ssl (.t 28) (some (ca 1)) none),cW 30 221 29,ab 27 30,hx 31 0 27,hx 32 1 27,ab 9 31,ab 10 32] (.seq (ae [ab 33 8,bm 34 (.ssl (.t 33) (some (ca 1)) none),cW 35 188 34,eP 36 35,ab 37 36,cj 37 true 38 10,cj 37 true 39 38,cj 39 true 40 9,aB 39 true (eg 41 127 [.t 40,(ca 0),(ca 100000)]),aB 37 true (dq 42 39 41),aB 37 true (eP 43 42),dq 44 37 43] (bt 44 (ae [ps 2 1,cA 3 0,cl 4 false] .ret) .skip)) (ae [cA 11 0] (.seq (.block 2 (.loop (.seq (ae [ab 45 11,ab 46 5,cy 47 46,cC 48 .lss 45 47,ab 49 48,cj 49 true 50 5,cj 49 true 51 11,aB 49 true (di 52 1 50 51),aB 49 true (aW 53 1 52),cj 49 true 54 8,aB 49 true (cC 55 .neq 53 54),dq 56 49 55] (bt 56 .skip (.exit 2))) (.block 3 (.region [ab 57 11,a1 58 .add 57 1,ab 11 58]))))) (.seq (ae [ab 59 11,ab 60 5,cy 61 60,cC 62 .eql 59 61] (bt 62 (.region [ab 63 5,ab 64 8,ff 65 1 9 [.t 64],kp 66 1 9 63 65,ab 5 66]) .skip)) (.region [ab 67 6,ab 68 11,cW 69 57 68,bm 70 (.bin .add false (.c (.str [63])) (.t 69)),ff 71 1 9 [.t 70],kp 72 1 9 67 71,ab 6 72]))))))))) (.region [a1 73 .add 16 1,ab 16 73])))) (ae [ab 74 6,ab 75 5,cy 76 75,ab 2 74,ab 3 76,cl 4 true] .ret)))))
@[simp] def afd:List cp:=[.tmp 2,.tmp 3,.tmp 4]
def Nv:C:=(ae [eA 2 0,cA 4 0] (.seq (ae [a6 7 0 1 2,aW 8 1 7,cy 9 8,cA 10 0] (ir 11 10 9 (.seq (.block 1 (ae [ab 12 10,di 13 7 8 10,bH 14 7 13,cd (.alloc 6 none (.agg [.str [],.int .i64 0,.int .i64 0,.int .i64 0,.str [],.slice 4 .nil [],.slice 4 .nil []])),ab 5 12,bM 7 6 14] (ae [a6 15 0 1 6,aW 16 1 15,ab 17 1,cC 18 .eql 16 17] (bt 18 (ae [ab 19 5,ab 4 19] .ret) .skip)))) (.region [a1 20 .add 10 1,ab 10 20])))) (ae [cA 4 (-1)] .ret)))
@[simp] def afa:List cp:=[.tmp 4]
def yU:C:=(ae [eA 3 0,eA 4 1,cl 6 false] (.seq (ae [bH 8 4 4,cW 9 155 8,eP 10 9,ab 11 10,aB 11 false (bH 12 1 3),aB 11 false (bH 13 4 4),aB 11 false (dJ 14 222 12 13),aB 11 false (eP 15 14),c7 16 11 15] (bt 16 (ae [cl 6 false] .ret) .skip)) (ae [bH 17 4 4,eg 18 89 [.t 17,(.c (.slice 1 .nil []))],ab 7 18] (ae [ab 19 7,cy 20 19,a1 21 .eql 20 0,ab 22 21,cj 22 false 23 7,cj 22 false 24 7,aB 22 false (cy 25 24),aB 22 false (a1 26 .sub 25 1),aB 22 false (di 27 1 23 26),aB 22 false (aW 28 1 27),cj 22 false 29 2,aB 22 false (cC 30 .lss 28 29),c7 31 22 30,ab 6 31] .ret))))
@[simp] def KC:List cp:=[.tmp 6]
def Hg:C:=(ae [eA 1 0,cA 2 0] (.seq (ae [bH 3 4 1,cW 4 155 3,eP 5 4] (bt 5 (ae [cA 2 0] .ret) .skip)) (ae [bH 6 4 1,eg 7 210 [.t 6,(ca 80)],ab 2 7] .ret)))
@[simp] def aeT:List cp:=[.tmp 2]
def Nw:C:=(ae [eA 2 0,cl 4 false] (.seq (ae [a6 7 3 1 2,aW 8 1 7,cy 9 8,cA 10 0] (ir 11 10 9 (.seq (.block 1 (ae [di 12 4 8 10,bH 13 4 12,cd (.alloc 6 none (.agg [.int .i64 0,.str [],.slice 4 .nil [],.slice 4 .nil []])),bM 4 6 13] (ae [bH 14 4 6,ab 15 1,dJ 16 214 14 15,eP 17 16] (bt 17 (ae [cl 4 false] .ret) .skip)))) (.region [a1 18 .add 10 1,ab 10 18])))) (ae [a6 19 0 1 2,aW 20 1 19,a1 21 .neq 20 10,ab 22 21,cj 22 true 23 1,cj 22 true 24 23,aB 24 true (a6 25 0 1 2),aB 24 true (aW 26 1 25),aB 24 true (eg 27 127 [.t 26,(ca 3),(ca 6)]),aB 22 true (dq 28 24 27),aB 22 true (eP 29 28),dq 30 22 29,ab 4 30] .ret)))
@[simp] def afb:List cp:=[.tmp 4]
def DG:C:=(ae [eA 2 0,eA 3 1,cl 4 false] (.seq (ae [a6 8 0 1 3,aW 9 1 8,a1 10 .eql 9 9] (bt 10 (ae [bH 11 1 2,a6 12 1 1 3,aW 13 1 12,dJ 14 174 11 13,ab 5 14] (.seq (.drawn true 41 [ab 15 5,a1 16 .geq 15 0,ab 17 16,aB 17 true (a6 18 0 1 2),aB 17 true (aW 19 1 18),cj 17 true 20 5,aB 17 true (di 21 7 19 20),aB 17 true (a6 22 1 1 21),aB 17 true (aW 23 1 22),aB 17 true (a6 24 2 1 3),aB 17 true (aW 25 1 24),aB 17 true (cy 26 25),aB 17 true (cC 27 .eql 23 26),dq 28 17 27,ab 4 28]) .ret)) .skip)) (.seq (ae [a6 29 3 1 3,aW 30 1 29,cy 31 30,cA 32 0] (ir 33 32 31 (.seq (.block 1 (ae [di 34 4 30 32,bH 35 4 34,cd (.alloc 7 none (.agg [.int .i64 0,.str [],.slice 4 .nil [],.slice 4 .nil []])),bM 4 7 35] (ae [bH 36 1 2,bH 37 4 7,dJ 38 222 36 37,eP 39 38] (bt 39 (ae [cl 4 false] .ret) .skip)))) (.region [a1 40 .add 32 1,ab 32 40])))) (ae [cl 4 true] .ret))))
@[simp] def ae9:List cp:=[.tmp 4]
def oC:List (Nat×du):=[
 (3,⟨1,8,.int .i64,.int .i64 0⟩),
 (5,⟨1,1,.int .u8,.int .u8 0⟩),
 (9,⟨1,16,.str,.str []⟩),
 (35,⟨1,24,.slice 5,.slice 1 .nil []⟩),
 (38,⟨1,24,.slice 40,.slice 4 .nil []⟩),
 (59,⟨1,24,.slice 86,.slice 7 .nil []⟩),
 (61,⟨1,24,.struct [(0,59)],.agg [.slice 7 .nil []]⟩),
 (63,⟨1,24,.slice 65,.slice 4 .nil []⟩),
 (65,⟨4,72,.struct [(0,3),(1,9),(2,38),(3,63)],.agg [.int .i64 0,.str [],.slice 4 .nil [],.slice 4 .nil []]⟩),
 (70,⟨1,24,.slice 9,.slice 1 .nil []⟩),
 (86,⟨7,104,.struct [(0,9),(1,3),(2,3),(3,65)],.agg [.str [],.int .i64 0,.int .i64 0,.int .i64 0,.str [],.slice 4 .nil [],.slice 4 .nil []]⟩),
 (136,⟨1,24,.slice 3,.slice 1 .nil []⟩)]
theorem h6:fS aP oC=true:=by kernel_rfl
theorem Sf:cF oC Hh qV 1 Tryz.f37=true:=by kernel_rfl
theorem ON:aP.funcs[(37:Nat)]? =some Tryz.f37:=Tryz.func37
theorem FV:cF oC M4 CQ 1 Tryz.f94=true:=by kernel_rfl
theorem D7:aP.funcs[(94:Nat)]? =some Tryz.f94:=Tryz.func94
theorem aef:cF oC Ny S3 1 Tryz.f95=true:=by kernel_rfl
theorem Yq:aP.funcs[(95:Nat)]? =some Tryz.f95:=Tryz.func95
theorem adM:cF oC M1 aeU 1 Tryz.f97=true:=by kernel_rfl
theorem XX:aP.funcs[(97:Nat)]? =some Tryz.f97:=Tryz.func97
theorem adN:cF oC M2 aeV 1 Tryz.f98=true:=by kernel_rfl
theorem XY:aP.funcs[(98:Nat)]? =some Tryz.f98:=Tryz.func98
theorem CB:cF oC yV tq 1 Tryz.f108=true:=by kernel_rfl
theorem Bh:aP.funcs[(108:Nat)]? =some Tryz.f108:=Tryz.func108
theorem Sg:cF oC Hi aeZ 1 Tryz.f109=true:=by kernel_rfl
theorem OO:aP.funcs[(109:Nat)]? =some Tryz.f109:=Tryz.func109
theorem Sj:cF oC Hl ae8 2 Tryz.f164=true:=by kernel_rfl
theorem OR:aP.funcs[(164:Nat)]? =some Tryz.f164:=Tryz.func164
theorem aeg:cF oC Nz afd 1 Tryz.f173=true:=by kernel_rfl
theorem Yr:aP.funcs[(173:Nat)]? =some Tryz.f173:=Tryz.func173
theorem aec:cF oC Nv afa 2 Tryz.f174=true:=by kernel_rfl
theorem Yn:aP.funcs[(174:Nat)]? =some Tryz.f174:=Tryz.func174
theorem CA:cF oC yU KC 3 Tryz.f175=true:=by kernel_rfl
theorem Bg:aP.funcs[(175:Nat)]? =some Tryz.f175:=Tryz.func175
theorem Se:cF oC Hg aeT 1 Tryz.f176=true:=by kernel_rfl
theorem OM:aP.funcs[(176:Nat)]? =some Tryz.f176:=Tryz.func176
theorem aed:cF oC Nw afb 2 Tryz.f214=true:=by kernel_rfl
theorem Yo:aP.funcs[(214:Nat)]? =some Tryz.f214:=Tryz.func214
theorem Kk:cF oC DG ae9 2 Tryz.f222=true:=by kernel_rfl
theorem H0:aP.funcs[(222:Nat)]? =some Tryz.f222:=Tryz.func222
end
end Go.Proofs.YtlnndmgfngfeiaaGreatDoor
