/- From a contract of a law of bytes to its row. -/
import Derived.Test.YtlnndmgfngfeiaaGreatDoorProg
import Derived.ProofKit
import Derived.WalkKit
import Derived.Lib.ItoaNum
import Derived.Lib.AtoiAll
import Derived.Lib.ItoaLen
import Derived.Shelf.SlSortFuncK.WholeK
import Derived.Shelf.GgSortFunc.Tiny
import Derived.Ground.GgsProg
import Derived.Deep.QuietTactic
import Derived.Lib.OwnBridge
import Derived.Carry
import Derived.Lib.LaidTab
import Derived.Stop.LaidErr
import Derived.Test.YtlnndmgfngfeiaaGreatDoorX2
set_option linter.all false
set_option maxHeartbeats 4000000
set_option maxRecDepth 4000
open Array renaming getElem?_toList->lZ
open BitVec renaming ofInt->lb
open Bool renaming and_eq_true->bt,false_eq_true->hO
open ByteArray renaming size->Ap
open Go renaming Program->bj,TypeId->eb
open Go.Extern.AbiNoEscape renaming same->Ta
open Go.Extern.ReflectliteSwapper renaming swap->Tb
open Go.IntKind renaming i64->kr
open Go.Proofs.Tryz renaming f4->gr,prog->aI
open Go.Value renaming cells->h3,int->kt
open List renaming all_eq_true->ld,append_assoc->jb,cons_append->cN,flatMap_cons->lf,getElem?_append_left->lg,getElem?_eq_getElem->eo,getElem?_eq_some_iff->fG,length_append->e0,length_cons->ir,map_cons->eU,mem_append->ht,mem_append_left->lh,mem_cons->ft,mem_map->ku,nil_append->dx,size_toArray->lj
open List.Perm renaming eq_of_pairwise->Tg
open List.cons renaming injEq->tG
open Nat renaming le_refl->dY,mul_le_mul_right->l1
open Option renaming getD->jD,map_eq_some_iff->hv,map_some->l2
open Option.some renaming inj->p3,injEq->cR
open Prod.mk renaming injEq->fQ
open _root_ renaming ByteArray->gT,False->cU,Option->aW,UInt8->aX,beq_iff_eq->cI,congrArg->cB,decide_eq_true_eq->eu,if_neg->bT,if_pos->cX
namespace Go.Proofs.YtlnndmgfngfeiaaGreatDoor
section
open Go Go.Pv
def wT:C:=(ao [dH 4 0,bC 5 (.mov (.c (.junk)))] (ao [ag 6 0,cZ 7 135 6] (ao [ag 8 0,ag 9 0,fO 10 9,bB 11 1 1 10,bm 12 1 11,ag 13 1,eT (.apps 14 5 (.t 12) (.t 13)),fO 15 8,bB 16 1 1 15,bZ 1 16 14] (ao [ag 17 1,bC 18 (.slen (.t 17)),ag 4 18,bC 5 (.mov (.c (.junk)))] .ret))))
@[simp] def zn:List cm:=[.tmp 4,.tmp 5]
def A6:C:=(ao [bC 2 (.mov (.c (.str [])))] (ao [ag 3 0,cZ 4 136 3,ag 2 4] .ret))
@[simp] def OT:List cm:=[.tmp 2]
def wP:C:=(ao [ja 2 1,cA 3 false] (.seq (ao [ag 9 0,bC 10 (.slen (.t 9)),bI 11 .gtr 10 100000] (bK 11 (ao [ja 2 1,cA 3 false] .ret) .skip)) (.seq (ao [dH 4 0] (.block 0 (.loop (.seq (ao [ag 12 4,ag 13 0,bC 14 (.slen (.t 13)),ek 15 .lss 12 14] (bK 15 .skip (.exit 0))) (.seq (.block 1 (ao [ag 18 0,ag 19 4,bC 20 (.sidx (.t 18) (.t 19)),bC 21 (.bin .neq false (.t 20) (.c (.int .u8 10))),ag 22 21,cQ 22 true 23 0,cQ 22 true 24 4,bc 22 true (bC 25 (.sidx (.t 23) (.t 24))),bc 22 true (bC 26 (.bin .lss false (.t 25) (.c (.int .u8 32)))),cQ 22 true 27 26,cQ 27 false 28 0,cQ 27 false 29 4,bc 27 false (bC 30 (.sidx (.t 28) (.t 29))),bc 27 false (bC 31 (.bin .gtr false (.t 30) (.c (.int .u8 126)))),bc 22 true (eC 32 27 31),gp 33 22 32] (bK 33 (ao [ja 2 1,cA 3 false] .ret) .skip))) (.region [ag 16 4,bI 17 .add 16 1,ag 4 17])))))) (ao [iq 34 1 9 [],ag 5 34] (.seq (ao [dH 6 0] (.block 2 (.loop (.seq (ao [ag 35 6,ag 36 0,bC 37 (.slen (.t 36)),ek 38 .lss 35 37] (bK 38 .skip (.exit 2))) (.block 3 (ao [ag 39 0,ag 40 6,bC 41 (.sidx (.t 39) (.t 40)),ag 7 41] (.block 4 (ao [ag 88 7,bC 89 (.bin .eql false (.t 88) (.c (.int .u8 32))),ag 90 89,cQ 90 false 91 7,bc 90 false (bC 92 (.bin .eql false (.t 91) (.c (.int .u8 10)))),eC 93 90 92,ag 87 93] (bK 87 (.region [ag 94 6,bI 95 .add 94 1,ag 6 95]) (ao [ag 97 7,bC 98 (.bin .eql false (.t 97) (.c (.int .u8 59))),ag 96 98] (bK 96 (.block 7 (.loop (.seq (ao [ag 99 6,ag 100 0,bC 101 (.slen (.t 100)),ek 102 .lss 99 101,ag 103 102,cQ 103 true 104 0,cQ 103 true 105 6,bc 103 true (bC 106 (.sidx (.t 104) (.t 105))),bc 103 true (bC 107 (.bin .neq false (.t 106) (.c (.int .u8 10)))),gp 108 103 107] (bK 108 .skip (.exit 7))) (.block 8 (.region [ag 109 6,bI 110 .add 109 1,ag 6 110]))))) (ao [ag 112 7,bC 113 (.bin .eql false (.t 112) (.c (.int .u8 40))),ag 114 113,cQ 114 false 115 7,bc 114 false (bC 116 (.bin .eql false (.t 115) (.c (.int .u8 41)))),eC 117 114 116,ag 111 117] (bK 111 (ao [ag 118 5,ag 119 0,ag 120 6,ag 121 6,bI 122 .add 121 1,bC 123 (.ssl (.t 119) (some (.t 120)) (some (.t 122))),iq 124 1 9 [.t 123],pY 125 1 9 118 124,ag 5 125] (.region [ag 126 6,bI 127 .add 126 1,ag 6 127])) (ao [ag 42 6,ag 8 42] (.seq (.block 5 (.loop (.seq (ao (ag 43 8::ag 44 0::bC 45 (.slen (.t 44))::ek 46 .lss 43 45::ag 47 46::cQ 47 true 48 0::cQ 47 true 49 8::bc 47 true (bC 50 (.sidx (.t 48) (.t 49)))::bc 47 true (bC 51 (.bin .neq false (.t 50) (.c (.int .u8 32))))::gp 52 47 51::ag 53 52::cQ 53 true 54 0::cQ 53 true 55 8::bc 53 true (bC 56 (.sidx (.t 54) (.t 55)))::bc 53 true (bC 57 (.bin .neq false (.t 56) (.c (.int .u8 10))))::gp 58 53 57::ag 59 58::cQ 59 true 60 0::cQ 59 true 61 8::bc 59 true (bC 62 (.sidx (.t 60) (.t 61)))::bc 59 true (bC 63 (.bin .neq false (.t 62) (.c (.int .u8 40))))::gp 64 59 63::ag 65 64::cQ 65 true 66 0::cQ 65 true 67 8::bc 65 true (bC 68 (.sidx (.t 66) (.t 67)))::bc 65 true (bC 69 (.bin .neq false (.t 68) (.c (.int .u8 41))))::gp 70 65 69::ag 71 70::cQ 71 true 72 0::cQ 71 true 73 8::bc 71 true (bC 74 (.sidx (.t 72) (.t 73)))::bc 71 true (bC 75 (.bin .neq false (.t 74) (.c (.int .u8 59))))::gp 76 71 75::[]) (bK 76 .skip (.exit 5))) (.block 6 (.region [ag 77 8,bI 78 .add 77 1,ag 8 78]))))) (ao [ag 79 5,ag 80 0,ag 81 6,ag 82 8,bC 83 (.ssl (.t 80) (some (.t 81)) (some (.t 82))),iq 84 1 9 [.t 83],pY 85 1 9 79 84,ag 5 85] (.region [ag 86 8,ag 6 86]))))))))))))))))) (.seq (ao [ag 128 5,fC 129 128,bI 130 .gtr 129 20000] (bK 130 (ao [ja 2 1,cA 3 false] .ret) .skip)) (ao [ag 131 5,ag 2 131,cA 3 true] .ret)))))))
@[simp] def q8:List cm:=[.tmp 2,.tmp 3]
def A8:C:=(ao [hf 1 0,bC 2 (.mov (.c (.str [])))] (.seq (ao [ct 4 4 1,cZ 5 77 4,eY 6 5] (bK 6 (ao [bC 2 (.mov (.c (.str [])))] .ret) .skip)) (ao [bC 7 (.build [.nilp,.slice 1 .nil []] []),eT (.box 8 (some 861) (.t 7)),ag 3 8] (ao [ag 9 3,ct 10 4 1,du 11 153 9 10] (ao [ag 12 3,⟨none,.opn (some 13) (.c (.func 66 [])) [.t 12]⟩,ag 2 13] .ret)))))
@[simp] def E1:List cm:=[.tmp 2]
def Bw:C:=(ao [ea 2 cp] (ao [ag 3 0,gF 4 cp [(0,1,(eF 1)),(1,1,(.t 3))],bZ 4 2 4] .ret))
@[simp] def O1:List cm:=[.cell 2 true 4]
def Ba:C:=(ao [bC 4 (.mov (.c (.str [])))] (ao [eT (.bslm 8 none 1 5 []),ag 5 8] (.seq (ao [ag 9 0,fC 10 9,dH 11 0] (oM 12 11 10 (.seq (.block 1 (ao [ag 13 11,hc 14 1 9 11,bm 15 1 14,ag 6 13,ag 7 15] (.seq (ao [ag 16 6,bI 17 .gtr 16 0] (bK 17 (.region [ag 18 5,ag 19 1,eT (.apps 20 5 (.t 18) (.t 19)),ag 5 20]) .skip)) (.region [ag 21 5,ag 22 7,eT (.apps 23 5 (.t 21) (.t 22)),ag 5 23])))) (.region [bI 24 .add 11 1,ag 11 24])))) (.seq (.pub 5 (.region [ag 25 5,bC 26 (.b2s (.t 25)),ag 4 26])) .ret))))
@[simp] def E2:List cm:=[.tmp 4]
def lq:C:=(ao [hf 3 1] (ao [bB 4 0 1 3,bm 5 1 4] (.block 0 (ao [bI 7 .eql 5 0,ag 6 7] (bK 6 (.region [ag 8 0,⟨none,.call (some 9) (.c (.func 62 [])) [.t 8,(.c (.str [40,41]))]⟩]) (ao [bI 11 .eql 5 1,ag 10 11] (bK 10 (.region [ag 12 0,bB 13 1 1 3,bm 14 1 13,cZ 15 63 14,bC 16 (.bin .add false (.c (.str [63])) (.t 15)),du 17 62 12 16]) (ao [bI 19 .eql 5 2,ag 18 19] (bK 18 (.region [ag 20 0,bB 21 2 1 3,bm 22 1 21,du 23 62 20 22]) (ao [bI 25 .eql 5 3,ag 24 25] (bK 24 (.region [ag 26 0,bB 27 1 1 3,bm 28 1 27,cZ 29 63 28,du 30 62 26 29]) (ao [bI 32 .eql 5 4,ag 31 32] (bK 31 (ao [ag 33 0,⟨none,.call (some 34) (.c (.func 62 [])) [.t 33,(.c (.str [40]))]⟩] (ao [ag 35 0,bB 36 3 1 3,bm 37 1 36,im 38 4 37 0,ct 39 4 38,du 40 153 35 39] (ao [bB 41 3 1 3,bm 42 1 41,im 43 4 42 1,ct 44 4 43,bZ 4 3 44] (.seq (.block 1 (.loop (.seq (ao [bB 45 0 1 3,bm 46 1 45,bI 47 .eql 46 4] (bK 47 .skip (.exit 1))) (.block 2 (ao [ag 48 0,⟨none,.call (some 49) (.c (.func 62 [])) [.t 48,(.c (.str [32]))]⟩] (ao [ag 50 0,bB 51 3 1 3,bm 52 1 51,im 53 4 52 0,ct 54 4 53,du 55 153 50 54] (.region [bB 56 3 1 3,bm 57 1 56,im 58 4 57 1,ct 59 4 58,bZ 4 3 59]))))))) (.seq (ao [bB 60 0 1 3,bm 61 1 60,bI 62 .neq 61 0] (bK 62 (ao [ag 63 0,⟨none,.call (some 64) (.c (.func 62 [])) [.t 63,(.c (.str [32,46,32]))]⟩] (.region [ag 65 0,ct 66 4 3,du 67 153 65 66])) .skip)) (.region [ag 68 0,⟨none,.call (some 69) (.c (.func 62 [])) [.t 68,(.c (.str [41]))]⟩])))))) .skip)))))))))))))
@[simp] def iF:List cm:=[]
def rV:C:=(ao [dH 2 0,cA 3 false] (ao [ag 7 0,cZ 8 223 7,ag 6 8,en 9 0 6,en 10 1 6,ag 4 9,ag 5 10] (.seq (ao [ag 11 5,bC 12 (.isn true (.t 11)),ag 13 12,cQ 13 false 14 4,bc 13 false (cZ 15 136 14),cQ 13 false 16 0,bc 13 false (ek 17 .neq 15 16),eC 18 13 17] (bK 18 (ao [dH 2 0,cA 3 false] .ret) .skip)) (ao [ag 19 4,ag 2 19,cA 3 true] .ret))))
@[simp] def E4:List cm:=[.tmp 2,.tmp 3]
def Bi:C:=(ao [ea 2 cp] (ao [gF 5 cp [],ea 3 cp,bZ 4 3 5] (.seq (ao [ag 6 0,fC 7 6,bI 8 .sub 7 1,ag 4 8] (.block 0 (.loop (.seq (ao [ag 9 4,bI 10 .geq 9 0] (bK 10 .skip (.exit 0))) (.seq (.block 1 (.drawn true 20 [ag 13 0,ag 14 4,hc 15 4 13 14,ct 16 4 15,ct 17 4 3,du 18 206 16 17,bZ 4 3 18])) (.region [ag 11 4,bI 12 .sub 11 1,ag 4 12])))))) (ao [ct 19 4 3,bZ 4 2 19] .ret))))
@[simp] def E9:List cm:=[.cell 2 true 4]
def Bt:C:=(ao [ea 2 cp] (ao [ag 3 0,gF 4 cp [(0,1,(eF 2)),(2,1,(.t 3))],bZ 4 2 4] .ret))
@[simp] def OY:List cm:=[.cell 2 true 4]
def Bl:C:=(ao [ea 2 cp] (ao [ag 3 0,gF 4 cp [(0,1,(eF 3)),(1,1,(.t 3))],bZ 4 2 4] .ret))
@[simp] def OX:List cm:=[.cell 2 true 4]
def k5:List (Nat×cw):=[
 (3,⟨1,8,.int .i64,.int .i64 0⟩),
 (5,⟨1,1,.int .u8,.int .u8 0⟩),
 (9,⟨1,16,.str,.str []⟩),
 (35,⟨1,24,.slice 5,.slice 1 .nil []⟩),
 (38,⟨1,24,.slice 40,.slice 4 .nil []⟩),
 (40,⟨4,56,.struct [(0,3),(1,3),(2,9),(3,38)],.agg [.int .i64 0,.int .i64 0,.str [],.slice 4 .nil []]⟩),
 (70,⟨1,24,.slice 9,.slice 1 .nil []⟩),
 (104,⟨1,8,.other,.nilp⟩),
 (106,⟨2,32,.struct [(0,104),(1,35)],.agg [.nilp,.slice 1 .nil []]⟩),
 (108,⟨1,16,.iface,.junk⟩)]
theorem gq:eD aI k5=true:=by kernel_rfl
theorem EL:cM k5 wT zn 2 Tryz.f62=true:=by kernel_rfl
theorem Cr:aI.funcs[(62:Nat)]? =some Tryz.f62:=Tryz.func62
theorem NM:cM k5 A6 OT 1 Tryz.f63=true:=by kernel_rfl
theorem Jx:aI.funcs[(63:Nat)]? =some Tryz.f63:=Tryz.func63
theorem EH:cM k5 wP q8 1 Tryz.f82=true:=by kernel_rfl
theorem Cn:aI.funcs[(82:Nat)]? =some Tryz.f82:=Tryz.func82
theorem NO:cM k5 A8 E1 1 Tryz.f85=true:=by kernel_rfl
theorem Jz:aI.funcs[(85:Nat)]? =some Tryz.f85:=Tryz.func85
theorem Oc:cM k5 Bw O1 1 Tryz.f86=true:=by kernel_rfl
theorem JX:aI.funcs[(86:Nat)]? =some Tryz.f86:=Tryz.func86
theorem NQ:cM k5 Ba E2 2 Tryz.f87=true:=by kernel_rfl
theorem JB:aI.funcs[(87:Nat)]? =some Tryz.f87:=Tryz.func87
theorem mC:cM k5 lq iF 2 Tryz.f153=true:=by kernel_rfl
theorem mh:aI.funcs[(153:Nat)]? =some Tryz.f153:=Tryz.func153
theorem vw:cM k5 rV E4 1 Tryz.f179=true:=by kernel_rfl
theorem ug:aI.funcs[(179:Nat)]? =some Tryz.f179:=Tryz.func179
theorem NY:cM k5 Bi E9 1 Tryz.f205=true:=by kernel_rfl
theorem JJ:aI.funcs[(205:Nat)]? =some Tryz.f205:=Tryz.func205
theorem N9:cM k5 Bt OY 1 Tryz.f207=true:=by kernel_rfl
theorem JU:aI.funcs[(207:Nat)]? =some Tryz.f207:=Tryz.func207
theorem N1:cM k5 Bl OX 1 Tryz.f208=true:=by kernel_rfl
theorem JM:aI.funcs[(208:Nat)]? =some Tryz.f208:=Tryz.func208
def aL:ae:= .ptr (.obj 861) 0
def a7:cr:=⟨[(.obj 861,[.nilp,.slice 1 .nil []])],[]⟩
def l4:cr:=⟨[(.obj 861,[aL,.slice 1 .nil []])],[]⟩
def aE(l:List aX):cr:=⟨[(.obj 861,[aL,.row 1 (.obj 862) l.length])],[(.obj 862,⟨l.length,5,1,some (dZ l)⟩)]⟩
theorem hb(S:av->Prop)(l:List aX):aD S (dZ l):=by
 induction l with
 |nil=>simp[dZ,aD]
 |cons x r bz=>simp only[dZ,eU,aD,aB]at bz⊢;exact⟨trivial,bz⟩
theorem tH:dE a7:=by unfold a7;exact dE.of ⟨by intro m;simp[Pv.look],by intro m;simp[Pv.look]⟩ (by simp[aD,aB]) Ψ
theorem GQ:dE l4:=by unfold l4;exact dE.of ⟨by intro m;simp[Pv.look],by intro m;simp[Pv.look]⟩ (by simp[aD,aB,aL,au,Pv.look]) Ψ
theorem gu(l:List aX):dE (aE l):=by unfold aE;refine dE.of ⟨by intro m;simp[Pv.look],by intro m;simp[Pv.look]⟩ (by simp[aD,aB,aL,au,Pv.look]) ?_;intro x ad xs af;simp at ad;subst ad;simp at af;subst af;exact hb _ l
theorem GR(l eA:List aX):Same (aE l) (aE eA):=⟨fun k=>by simp only[aE,Pv.look];split<;>rfl,fun k=>by simp only[aE,Pv.look];split<;>rfl⟩
theorem nJ:(aI.info? 106).map (·.size)=some 2:=by kernel_rfl
theorem M5:liesAt aI aI.depth 106 (2/aI.cellsOf 106) 0 106 1=true:=by kernel_rfl
set_option maxRecDepth 100000 in
theorem Il(b:Nat)(w:World)(ck:w.cell? ⟨b,0,none⟩=some (.pointer (some ⟨b,0,none⟩))):
  Calls aI 135 #[.pointer (some ⟨b,0,none⟩)] w fun e w'=>e= .returned (.tuple #[])/\w'=w:=by
 obtain⟨j,aC,_⟩:=hv.1 nJ;go_enter Tryz.func135,Tryz.ntmps135;go_wp2;rw[Lib.run_neq_ptr_same w _ Tryz.underlying104 aC];go_wp2;go_end0;exact⟨rfl,rfl⟩
set_option maxRecDepth 100000 in
theorem Ik(b:Nat)(w:World)(ck:w.cell? ⟨b,0,none⟩=some (.pointer none))(lE:w.shape? b=some (106,2))(Lu:w.frozen? ⟨b,0,none⟩=false):
  Calls aI 135 #[.pointer (some ⟨b,0,none⟩)] w fun e w'=>e= .returned (.tuple #[])/\w'=w.setCell ⟨b,0,none⟩ (.pointer (some ⟨b,0,none⟩)):=by
 obtain⟨j,aC,LG⟩:=hv.1 nJ;go_enter Tryz.func135,Tryz.ntmps135;go_wp2;rw[Lib.run_to_unsafe w ⟨b,0,none⟩ Tryz.underlying104 Tryz.underlying227 aC (by rw[LG];decide) lE (Nat.zero_lt_succ 1)];simp only[Result.andThen];rw[Oper.upon_value];go_wp2;rw[run_callFunc_extern Tryz.func191 (by kernel_rfl) (by kernel_rfl) (by kernel_rfl) (e:=Ta) (by kernel_rfl)];rw[Lib.run_noEscape];simp only[Result.andThen];rw[Oper.upon_value];go_wp2;rw[Lib.run_from_unsafe w ⟨b,0,none⟩ Tryz.underlying227 Tryz.underlying104 aC lE M5];simp only[Result.andThen];rw[Oper.upon_value];go_wp2;go_end0;exact⟨rfl,rfl⟩
theorem GC{aV:Array Value}(h:aV.size=1):aV= #[aV.getD 0 undef]:=by apply Array.ext (by simpa using h);intro i I J;simp at J;subst J;simp[Array.getD,h]
theorem KA:br aI 135 [aL] a7 fun r ah=>r= .tuple []/\ah=l4:=by
 refine br.sem tH.obj fun w ν aV gl hk hr=>?_;refine .inl ⟨⟨Tryz.f135,Tryz.func135,by kernel_rfl,by kernel_rfl⟩,?_⟩;obtain⟨bl,us,el,ai,aK,bu,cP,fX⟩:=hr.good.box (.obj 861) _ (show Pv.look (.obj 861) a7.b=some [.nilp,.slice 1 .nil []]from rfl);have xR:=el.2 rfl;rw[kn (by rfl)]at cP;rw[jT (by rfl)]at fX;simp only[bL,aw]at fX;obtain⟨fU,rz,I,⟨rfl,_⟩,fN,jY,rfl,⟨⟨_,aU,_⟩,_⟩,rfl⟩:=fX;obtain rfl:=aU trivial;have mv:us= #[.pointer none,.slice none 0 0]:=by rw[<-Array.toList_inj];simpa using I
 subst mv;have hW:=hr.slot 0;simp only[gC,Pv.get,if_true,aL,aw]at hW;obtain⟨b,aa,aH⟩:=hW;rw[ai]at aa;cases aa;have po:=GC (by simpa using hk);rw[aH]at po;clear aH;subst po;have lE:w.shape? bl=some (106,2):=by have:(106:Nat)=tA:=rfl;rw[this];simp[World.shape?,cP,xR]
 refine(Ik bl w (by simp[World.cell?,cP]) lE (by simp[World.frozen?,cP])).mono ?_;rintro e w' ⟨rfl,rfl⟩;have oj:=(hr.setBox (w':=w.setCell ⟨bl,0,none⟩ (.pointer (some ⟨bl,0,none⟩))) (cs':=[aL,.slice 1 .nil []]) (show Pv.look (.obj 861) a7.b=some [.nilp,.slice 1 .nil []]from rfl) ai (us:= #[.pointer (some ⟨bl,0,none⟩),.slice none 0 0]) (el:=el) rfl rfl rfl (fun j aC=>RowKit.Below.heap_setCell _ _ _ _ (fun e=>aC (by simp[e]))) (by simp[World.setCell])
  (by rw[kn (by rfl)];simp[World.setCell,Array.getElem?_modify,cP]) (by rw[jT (by rfl)];simp only[bL];exact⟨_,_,rfl,⟨by simp only[aL,aw];exact⟨bl,ai,rfl⟩,rfl⟩,_,_,rfl,⟨by simp[aw,maxLen,bF];exact⟨none,0,⟨rfl,rfl⟩,Ω⟩,rfl⟩,rfl⟩)).1
 refine⟨_,_,_,_,.tuple [],l4,rfl,oj,by simp[aw,bG],by simp[a7,l4,ej,au,Pv.look],by simp[a7,ej],?_,?_,GQ.obj,by simp[aB,aD],rfl,rfl⟩
 ·refine e9 ?_;simp[a7,l4,bV,Pv.look,au,aD,aB,aL]
 ·refine ff ?_;simp[l4]
theorem KB(l:List aX):br aI 135 [aL] (aE l) fun r ah=>r= .tuple []/\ah=aE l:=by
 refine br.sem (gu l).obj fun w ν aV gl hk hr=>?_;refine .inl ⟨⟨Tryz.f135,Tryz.func135,by kernel_rfl,by kernel_rfl⟩,?_⟩;obtain⟨bl,us,el,ai,aK,bu,cP,fX⟩:=hr.good.box (.obj 861) _ (show Pv.look (.obj 861) (aE l).b=some [aL,.row 1 (.obj 862) l.length]from rfl);rw[kn (by rfl)]at cP;rw[jT (by rfl)]at fX;simp only[bL,aw,aL]at fX;obtain⟨fU,rz,I,⟨⟨bJ,iO,rfl⟩,_⟩,fN,jY,rfl,_,rfl⟩:=fX;rw[ai]at iO;cases iO;have hW:=hr.slot 0;simp only[gC,Pv.get,if_true,aL,aw]at hW;obtain⟨b,aa,aH⟩:=hW;rw[ai]at aa;cases aa;have po:=GC (by simpa using hk);rw[aH]at po;clear aH;subst po;have ck:us[0]? =some (.pointer (some ⟨bl,0,none⟩)):=by rw[<-lZ,I];rfl
 refine(Il bl w (by simp[World.cell?,cP,ck])).mono ?_;rintro e w' ⟨rfl,rfl⟩;refine⟨_,_,_,_,.tuple [],aE l,rfl,hr,by simp[aw,bG],by simp[aE,ej,au,Pv.look],by simp[aE,ej,au,Pv.look],?_,?_,(gu l).obj,by simp[aB,aD],rfl,rfl⟩
 ·refine e9 ?_;simp[aE,Pv.look,au,aD,aB,aL]
 ·intro k o U;exact⟨U,.inr (by simp[U]),(gu l).ke k o U⟩
theorem NF(l:List aX)(ar:l≠[]){ob:List av}{st:aS}{d:aW Nat}{K:aS->Prop}(aa:Pv.look (.obj 861) st.b=some [aL,.row 1 (.obj 862) l.length])(he:Pv.look (.obj 862) st.e=some ⟨l.length,5,1,some (dZ l)⟩)
  (ch:K ⟨dB d (.str l) st.t,st.b,ba [(av.obj 862,(⟨l.length,5,1,some (dZ l)⟩:cC))] st.e,st.n,st.o⟩):rK aI ob 66 [aL] st d K:=by
 intro C a w ν aV Re hr ia aY;refine .inl ⟨⟨Tryz.f66,Tryz.func66,by kernel_rfl,by kernel_rfl⟩,?_⟩;obtain⟨bl,us,el,ai,aK,bu,cP,fX⟩:=hr.good.box (.obj 861) _ aa;have xR:=el.2 rfl;rw[kn (by rfl)]at cP;rw[jT (by rfl)]at fX;simp only[bL,aw,aL]at fX;obtain⟨fU,rz,I,⟨⟨bJ,iO,rfl⟩,_⟩,fN,jY,rfl,⟨⟨⟨g,cap,rfl⟩,jq,n',u,hY,gQ,jw⟩,_⟩,rfl⟩:=fX;rw[ai]at iO;cases iO;obtain⟨v,cs,bY,cz,dV,cY⟩:=hr.good.own (.obj 862) _ he;rw[bY]at hY;simp only[cR,fQ]at hY;obtain⟨rfl,rfl⟩:=hY;obtain rfl:=jw rfl;obtain⟨cc,hM,lQ⟩:=cY _ rfl;obtain rfl:=FF hM;simp only at cz;rcases cz.2 with⟨h,_⟩|⟨dh,nU,cur,af,_,aG,kJ,j7,ly,Rl⟩
 ·cases h
 cases af;have mv:us= #[.pointer (some ⟨bl,0,none⟩),.slice (some ⟨g,0,none⟩) l.length cap]:=by rw[<-Array.toList_inj];simpa using I
 subst mv;simp only[aL,bG,aw]at ia;obtain⟨Ac,ws,bE,⟨bQ,mm,rfl⟩,rfl⟩:=ia;rw[ai]at mm;cases mm;have po:aV= #[.pointer (some ⟨bl,0,none⟩)]:=by rw[<-Array.toList_inj];simpa using bE
 rw[po];have hj:(Tryz.lays169_ren.t 72:Nat)=tA:=by kernel_rfl
 have DK:(Tryz.lays169_ren.t 5:Nat)=5:=by kernel_rfl
 have Ds:l.length≠0:=by simpa using ar
 refine(Go.Proofs.Any.Builder_String_ex Tryz.lays169 Tryz.builderE bl l w ar _ g cap cur (by rw[hj,<-xR];exact cP) (by rw[DK];exact cz) (by rw[DK];exact aG) kJ j7 ly).mono ?_;rintro e w' ⟨rfl,rfl⟩;obtain⟨pZ,z2,z3,z4,z5⟩:=Ko w.drew ⟨g,0,none⟩ l.length;have mo:=hr.dropRow (w':=w.drew.freeze ⟨g,0,none⟩ l.length) he rfl bY rfl pZ z2 z3 z5 z4;exact⟨_,_,ν,rfl,ch,mo.put aY (by simp only[aw];exact⟨trivial,jq⟩)⟩
end
end Go.Proofs.YtlnndmgfngfeiaaGreatDoor
namespace Go.Pv
section
open Go Go.Lib
theorem ET:∀(a b:List aX) (acc:Nat),parseUint10 acc (a++b)=match parseUint10 acc a with| .ok v=>parseUint10 v b|x=>x
 |[],b,acc=>rfl
 |c::r,b,acc=>by
  simp only[cN,parseUint10];split
  ·split
   ·rfl
   ·split
    ·rfl
    ·exact ET r b _
  ·rfl
theorem w2{u:Nat}(h:u<10):decDigits u=[UInt8.ofNat (48+u)]:=by rw[decDigits,dif_pos h]
theorem wZ{u:Nat}(h:10<=u):decDigits u=decDigits (u/10)++[UInt8.ofNat (48+u%10)]:=by rw[decDigits,dif_neg Ω]
theorem w3{d:Nat}(h:d<10):(UInt8.ofNat (48+d)).toNat=48+d:=by rw[UInt8.toNat_ofNat'];omega
theorem OG(u:Nat)(h:u<18446744073709551616):parseUint10 0 (decDigits u)= .ok u:=by
 induction u using Nat.strongRecOn with
 |_ u bz=>
  have step:∀v d,d<10->v*10+d<18446744073709551616->parseUint10 v [UInt8.ofNat (48+d)]= .ok (v*10+d):=by intro v d aY aH;simp only[parseUint10,w3 aY];rw[cX Ω,bT Ω,bT Ω];congr 1;omega
  by_cases hu:u<10
  ·rw[w2 hu,step 0 u hu Ω];congr 1;omega
  ·rw[wZ Ω,ET,bz (u/10) Ω Ω];simp only;rw[step _ _ (Nat.mod_lt _ Ω) Ω];congr 1;omega
theorem tV(u:Nat):decDigits u≠[]:=by
 by_cases hu:u<10
 ·rw[w2 hu];simp
 ·rw[wZ Ω];simp
theorem w1(u:Nat):∀c∈decDigits u,48<=c.toNat/\c.toNat<=57:=by
 induction u using Nat.strongRecOn with
 |_ u bz=>
  by_cases hu:u<10
  ·rw[w2 hu];intro c al;rw[List.mem_singleton.1 al,w3 hu];omega
  ·rw[wZ Ω];intro c al;rcases ht.1 al with h|h
   ·exact bz _ Ω c h
   ·rw[List.mem_singleton.1 h,w3 (Nat.mod_lt _ Ω)];omega
theorem ES{u:Nat}(h:u<18446744073709551616):parseMag (decDigits u)= .ok u:=by unfold parseMag;rw[bT (tV u)];exact OG u h
theorem Hp{n:Int}(h:c1 n):atoiAll (itoa n)= .ok n:=by
 unfold c1 at h;unfold itoa;by_cases aU:n<0
 ·rw[cX aU];simp only[atoiAll];rw[cX Ψ,ES Ω];simp only;rw[bT Ψ,bT (by simp;omega),cX Ψ];congr 1;omega
 ·rw[bT aU];obtain⟨c,r,al⟩:∃c r,decDigits n.toNat=c::r:=by
   cases aY:decDigits n.toNat with
   |nil=>exact absurd aY (tV _)
   |cons c r=>exact⟨c,r,rfl⟩
  have hm:=w1 n.toNat c (by rw[al];simp);have be:=ES (u:=n.toNat) Ω;rw[al]at be⊢;simp only[atoiAll];rw[bT Ω,be];simp only;rw[bT Ω,bT Ω,bT Ω];congr 1;omega
theorem Ho{s:List aX}{n:Int}(h:atoiAll s= .ok n):c1 n:=by
 unfold atoiAll at h;unfold c1;split at h
 ·cases h
 ·rename_i c r;simp only at h;split at h
  ·cases h
  ·cases h
  ·split at h
   ·cases h
   ·split at h
    ·cases h
    ·injection h with h;split at h<;>omega
def kY(s:List aX):aW Int:=match atoiAll s with
 | .ok n=>if itoa n=s then some n else none
 |_=>none
theorem EP{s:List aX}{n:Int}:kY s=some n↔c1 n/\itoa n=s:=by
 unfold kY;constructor
 ·intro h;rcases bE:atoiAll s with m|_|_
  ·rw[bE]at h;simp only at h;split at h
   ·rename_i e;cases h;exact⟨Ho bE,e⟩
   ·cases h
  ·rw[bE]at h;cases h
  ·rw[bE]at h;cases h
 ·rintro⟨I,rfl⟩;rw[Hp I];simp
theorem sR(n:Int):∀c∈itoa n,c.toNat=45\/48<=c.toNat/\c.toNat<=57:=by
 intro c al;unfold itoa at al;split at al
 ·rcases ft.1 al with rfl|al
  ·exact .inl rfl
  ·exact .inr (w1 _ c al)
 ·exact .inr (w1 _ c al)
theorem jP(n:Int):itoa n≠[]:=by
 unfold itoa;split
 ·simp
 ·exact tV _
end
end Go.Pv
namespace Go.Proofs.YtlnndmgfngfeiaaGreatDoor
section
open Go Go.Pv
theorem c8.sem{f:FuncId}{fn:Func}(aF:aI.funcs[f]? =some fn)(aa:fn.body.isSome=true)(aU:(fn.name== "runtime.NumGoroutine")=false){args:List ae}{r:ae}(hr:aB (fun _=>cU) r)
  (h:∀(w:World) (ν:aA) (aV:Array Value),jc w ν->(∀b o,ν.A b o->b<w.heap.size)->bG w ν args aV.toList->Calls aI f aV w fun e w'=> ∃v,e= .returned v/\(∀ν',(∀b o,ν.A b o->ν'.A b o)->aw w' ν' r v)/\w.grownBy w' none):c8 aI f args r:=by
 refine br.sem pF fun w ν aV gl hk kf=>?_;have ia:bG w ν args aV.toList:=by
  have ed:args.length=aV.toList.length:=by simpa using hk.symm
  have:∀(l:List ae) (us:List Value),l.length=us.length->(∀i p,l[i]? =some p->aw w ν p (us.getD i undef))->bG w ν l us:=by
   intro l;induction l with
   |nil=>intro us h _;cases us<;>simp at h⊢;simp[bG]
   |cons p l bz=>
    intro us h aM;cases us with
    |nil=>simp at h
    |cons u us=>simp only[bG];exact⟨u,us,rfl,by simpa using aM 0 p rfl,bz us (by simpa using h) fun i q bD=>by simpa using aM (i+1) q (by simpa using bD)⟩
  refine this _ _ ed fun i p be=>?_;have af:=kf.slot i;have aM:=(fG.1 be).1;rw[ur,cX Ω]at af;have:args.getD i .junk=p:=by simp[List.getD,be]
  simp only[Nat.sub_zero,this]at af;simpa[Array.getD_eq_getD_getElem?]using af
 refine .inl ⟨⟨fn,aF,aa,aU⟩,(h w ν aV gl kf.good.alt ia).mono ?_⟩;rintro e w' ⟨v,rfl,aH,aG⟩;exact⟨v,_,_,ν,r,⟨[],[]⟩,rfl,kf.grown aG,aH ν fun _ _ h=>h,trivial,trivial,fun k cs U=>by simp[Pv.look]at U,fun k cs U=>by simp[Pv.look]at U,pF,ot (fun _ h=>h.elim) _ hr,rfl,rfl⟩
theorem DR{n:Int}(h:c1 n):(Lib.itoa n).length<=bF:=by unfold c1 at h;have:=Lib.itoa_length_le n Ω Ω;unfold bF;omega
theorem KS(w:World)(k:Nat)(os:Array Obj):w.grownBy (Sort.grow (w.drewN k) os) none:=⟨rfl,rfl,rfl,Ψ,fun j aC _=>Sort.heap_grow_old _ _ aC⟩
theorem xA{w w':World}(h:RowKit.Below w.heap.size w w'):w.grownBy w' none:=⟨h.os,h.tape,h.output,h.size,fun k U _=>h.block k U⟩
theorem CV(i:Nat)(aM:i<20):(0,i,20,fun v=>v=kt .u64 ((10 ^ i:Nat):Int))∈n4:=by unfold n4;exact lh _ (ku.2 ⟨i,List.mem_range.2 aM,rfl⟩)
theorem Ps{w:World}{ν:aA}(h:jc w ν):Lib.TabIs aI w "internal/strconv.uint64pow10" .u64 Lib.pow10Tab:=by
 have aG:aI.globalNamed "internal/strconv.uint64pow10" =some 0:=by kernel_rfl
 obtain⟨_,_,el,lE⟩:=h _ (CV 0 Ω);unfold Lib.TabIs;simp only[World.var?,aG,Option.bind_some];unfold Pv.shape at lE;simp only at lE;split at lE
 ·rename_i cur dc fz hw;rw[hw];simp only[cR,fQ]at lE;simp only[cR];apply Array.ext
  ·simp[lE.1,Lib.pow10Tab]
  ·intro i I J;obtain⟨_,⟨v,aH,be⟩,_⟩:=h _ (CV i Ω);simp only at aH be;subst be;have al:cur[i]? =some (kt .u64 ((10 ^ i:Nat):Int)):=by simpa[World.cell?,hw]using aH
   rw[Array.getElem?_eq_getElem I]at al;rw[p3 al];simp[Lib.pow10Tab]
 ·cases lE
theorem Gp(n:Int)(h:c1 n):c8 aI 136 [.int .i64 n] (.str (Lib.itoa n)):=by
 refine c8.sem Tryz.func136 (by kernel_rfl) (by kernel_rfl) (by simp[aB]) fun w ν aV gl aQ ia=>?_;simp only[bG,aw]at ia;obtain⟨v,us,bE,rfl,rfl⟩:=ia;have hk:aV= #[.int .i64 n]:=by rw[<-Array.toList_inj];simpa using bE
 subst hk;unfold c1 at h;refine(Any.strconv_Itoa Tryz.laysM171 n Ω Ω w (Ps gl)).mono ?_;rintro e w' ⟨rfl,k,os,rfl⟩;exact⟨_,rfl,fun ν' _=>by simp only[aw];exact⟨trivial,DR (by unfold c1;omega)⟩,KS w k os⟩
def oP(s:List aX):ae:=match Lib.atoiAll s with
 | .ok v=>.tuple [.int .i64 v,.cst .nilIface]
 | .range=>.tuple [.int .i64 (Lib.atoiSat s),.iface (Tryz.laysC172_ren.t 168) .junk]
 |_=>.tuple [.int .i64 0,.iface (Tryz.laysC172_ren.t 168) .junk]
theorem PC(s:List aX)(ar:s.length<=bF):c8 aI 223 [.str s] (oP s):=by
 have U:aB (fun _=>cU) (oP s):=by unfold oP;split<;>simp[aB,aD]
 refine c8.sem Tryz.func223 (by kernel_rfl) (by kernel_rfl) U fun w ν aV gl aQ ia=>?_;simp only[bG,aw]at ia;obtain⟨v,us,bE,⟨rfl,_⟩,rfl⟩:=ia;have hk:aV= #[.string ⟨s.toArray⟩]:=by rw[<-Array.toList_inj];simpa using bE
 subst hk;have ed:(⟨s.toArray⟩:gT).size=s.length:=by simp[Ap]
 unfold bF at ar;obtain⟨_,⟨ai,xP,SS,Sh,rfl⟩,_⟩:=gl (1,0,1,fun v=> ∃t p,v= .iface t p) (by unfold n4;simp);obtain⟨_,⟨aK,xQ,SU,Si,rfl⟩,_⟩:=gl (2,0,1,fun v=> ∃t p,v= .iface t p) (by unfold n4;simp);rcases h:Lib.atoiAll s with v|_|_
 ·refine(Any.strconv_Atoi_ok Tryz.laysC172 ⟨s.toArray⟩ Ω v (by simpa using h) w).mono ?_;rintro e w' ⟨rfl,hw⟩;refine⟨_,rfl,fun ν' _=>?_,?_⟩
  ·unfold oP;rw[h];simp only[aw,bG];exact⟨_,rfl,_,_,rfl,rfl,_,_,rfl,rfl,rfl⟩
  ·rcases hw with rfl|⟨t,rfl⟩
   ·exact⟨rfl,rfl,rfl,dY _,fun _ _ _=>rfl⟩
   ·exact xA (Lib.bytesWorld_below _ _ _)
 ·refine(Any.strconv_Atoi_syntax Tryz.laysC172 ⟨s.toArray⟩ Ω (by simpa using h) _ w xP (.inr ⟨_,_,rfl⟩)).mono ?_;rintro e w' ⟨N,rfl,_,_,aa⟩;exact⟨_,rfl,fun ν' _=>by unfold oP;rw[h];simp only[aw,bG];exact⟨_,rfl,_,_,rfl,rfl,_,_,rfl,⟨_,rfl,trivial⟩,rfl⟩,xA aa⟩
 ·refine(Any.strconv_Atoi_range Tryz.laysC172 ⟨s.toArray⟩ Ω (by simpa using h) _ w xQ (.inr ⟨_,_,rfl⟩)).mono ?_;rintro e w' ⟨N,rfl,_,_,aa⟩;exact⟨_,rfl,fun ν' _=>by unfold oP;rw[h];simp only[aw,bG];exact⟨_,rfl,_,_,rfl,rfl,_,_,rfl,⟨_,rfl,trivial⟩,rfl⟩,xA aa⟩
theorem GP:Same a7 l4:=⟨fun k=>by simp only[a7,l4,Pv.look];split<;>rfl,fun k=>rfl⟩
theorem bh.two{P:bj}{n:Nat}{args:List ae}{st:aS}{d:aW Nat}{K:aS->Prop}{s:cr}{Q:ae->cr->Prop}(aF:br P n args s Q)(af:dE s)(aa:∀k cs,Pv.look k s.b=some cs->Pv.look k st.b=some cs)(he:∀k o,Pv.look k s.e=some o->Pv.look k st.e=some o)
  (U:aD (au s) args) (h:∀r ah,Q r ah->((∀m,(Pv.look (.obj m) ah.b).isSome->(Pv.look (.obj m) s.b).isSome\/ .obj m∉st.o)/\(∀m,(Pv.look (.obj m) ah.e).isSome->(Pv.look (.obj m) s.e).isSome\/ .obj m∉st.o))/\K ⟨dB d r st.t,ba s.b st.b++ah.b,ba s.e st.e++ah.e,st.n,st.o++dG ah⟩):bh P n args st d K:=
 .inl ⟨s,Q,fun k cs al=>⟨aa k cs al,.inl (by simp[al]),af.kb k cs al⟩,fun k o ab=>⟨he k o ab,.inr (by simp[ab]),af.ke k o ab⟩,af.obj,U,aF,fun r ah bD=>h r ah bD⟩
theorem oT(a b:List aX):dZ (a++b)=dZ a++dZ b:=by simp[dZ]
theorem Kx(t:List aX)(az:t≠[])(ar:t.length<=bF):br aI 62 [aL,.str t] a7 fun r ah=>r= .tuple [.int .i64 t.length,.junk]/\ah=aE t:=by have af:=tH;simp only[a7]at af⊢;refine br.mk mixed gq Cr EL Ψ af.obj fun bn cb=>?_;unfold wT;simp[aL];refine bh.ob KA tH (by simp only[a7];exact ak) (by simp only[a7];exact ak) (by simp[au,Pv.look,a7,aL,aD,aB]) ?_;rintro r ah ⟨rfl,rfl⟩;refine⟨GP,?_⟩;simp[ba,a7,l4,aL,az,ar];refine b4.new (aE t) (.inl rfl) (gu t) (by simp[ej,aE,au,Pv.look]) (by simp only[aE,aL];exact ak) (by simp only[aE,aL];exact ak) ?_;simp[cg,zn,bq,bA,bp,aE,aL,au,Pv.look,aB,aD]
theorem Ky(l t:List aX)(ar:(l++t).length<=bF):br aI 62 [aL,.str t] (aE l) fun r ah=>r= .tuple [.int .i64 t.length,.junk]/\ah=aE (l++t):=by
 have af:=gu l;have kc:l.length+t.length<=bF:=by simpa using ar
 have dd:(dZ l).length=l.length:=by simp[dZ]
 simp only[aE]at af⊢;refine br.mk mixed gq Cr EL Ψ af.obj fun bn cb=>?_;unfold wT;simp[aL];refine bh.ob (KB l) (gu l) (by simp only[aE,aL];exact ak) (by simp only[aE,aL];exact ak) (by simp[au,Pv.look,aE,aL,aD,aB]) ?_;rintro r ah ⟨rfl,rfl⟩;refine⟨Same.refl _,?_⟩;simp[ba,aE,aL,kc,dd];refine b4.at (aE (l++t)) (.inl rfl) (gu _) (GR l (l++t)) (by simp only[aE,aL];exact ak) (by simp only[aE,aL,oT];exact ak) ?_;simp[cg,zn,bq,bA,bp,aE,aL,au,Pv.look,aB,aD]
theorem Gl(n:Int)(h:c1 n):c8 aI 63 [.int .i64 n] (.str (Lib.itoa n)):=by have k:=Gp n h;refine dS gq Jx NM fun bn=>?_;unfold A6;exact ij
end
end Go.Proofs.YtlnndmgfngfeiaaGreatDoor
namespace Go.Pv
section
open Go Go.Lib
def kC(c:aX):Bool:=c==32||c==10||c==40||c==41||c==59
def mA(c:aX):Bool:= !(c==10)
def fx(c:aX):Bool:= !kC c
theorem tX{α:Type}(p:α->Bool):∀l:List α,(l.dropWhile p).length<=l.length
 |[]=>by simp
 |x::r=>by
  simp only[List.dropWhile];split
  ·have:=tX p r;simp;omega
  ·simp
def ee:List aX->List (List aX)
 |[]=>[]
 |c::r=>if c=32\/c=10 then ee r else if c=59 then ee (r.dropWhile mA)else if c=40\/c=41 then [c]::ee r else(c::r.takeWhile fx)::ee (r.dropWhile fx)
termination_by l=>l.length
decreasing_by
 all_goals simp
 all_goals exact Nat.lt_succ_of_le (tX _ _)
theorem rq:ee []=[]:=by rw[ee]
theorem rp(c:aX)(r:List aX):ee (c::r)=if c=32\/c=10 then ee r else if c=59 then ee (r.dropWhile mA)else if c=40\/c=41 then [c]::ee r else(c::r.takeWhile fx)::ee (r.dropWhile fx):=by rw[ee]
def kW(c:aX):Bool:=c==10||(decide (32<=c.toNat)&&decide (c.toNat<=126))
def iI(s:List aX):aW (List (List aX)):=if s.length<=100000/\(∀c∈s,kW c=true)/\(ee s).length<=20000 then some (ee s)else none
theorem jJ{α:Type}{l:List α}{i:Nat}{x:α}(h:l[i]? =some x):l.drop i=x::l.drop (i+1):=by obtain⟨aM,rfl⟩:=fG.1 h;exact List.drop_eq_getElem_cons aM
theorem tz:∀(n:Nat) (s:List aX),s.length<=n->∀t∈ee s,t≠[]
 |_,[],_=>by simp[rq]
 |0,_::_,h=>by simp at h
 |n+1,c::r,h=>by
  rw[rp];simp at h;have I:=tX mA r;have J:=tX fx r;split
  ·exact tz n r h
  ·split
   ·exact tz n _ Ω
   ·split
    ·intro t az;rcases ft.1 az with rfl|az
     ·simp
     ·exact tz n r h t az
    ·intro t az;rcases ft.1 az with rfl|az
     ·simp
     ·exact tz n _ Ω t az
def gd:List T->T->T
 |[],t=>t
 |x::r,t=>.pair x (gd r t)
theorem Na(a b:List T)(t:T):gd (a++b) t=gd a (gd b t):=by
 induction a with
 |nil=>rfl
 |cons x r bz=>simp[gd,bz]
def e8(w:List aX):aW T:=
 match w with
 |63::r=>match kY r with
  |some n=>if 0<=n/\n<=100000 then some (.var n)else none
  |none=>none
 |w=>if ha w then some (.sym w)else(kY w).map .num
mutual
def gB(at':List aX->aW T):Nat->List (List aX)->aW (T×List (List aX))
 |0,_=>none
 |_+1,[]=>none
 |n+1,w::r=>if w=[40]then cv at' n r []else if w=[41]\/w=[46]then none else(at' w).map fun t=>(t,r)
def cv(at':List aX->aW T):Nat->List (List aX)->List T->aW (T×List (List aX))
 |0,_,_=>none
 |_+1,[],_=>none
 |n+1,w::r,acc=>if w=[41]then some (gd acc .nil,r)
  else if w=[46]then(if acc=[]then none else match gB at' n r with
   |some (t,v::dW)=>if v=[41]then some (gd acc t,dW)else none
   |_=>none)
  else match gB at' n (w::r)with
   |some (t,dW)=>cv at' n dW (acc++[t])
   |none=>none
end
mutual
theorem q9{at':List aX->aW T}:∀(n:Nat) (l:List (List aX)) (t:T) (r:List (List aX)),gB at' n l=some (t,r)->r<:+l/\r.length<l.length
 |0,_,_,_,h=>by simp[gB]at h
 |_+1,[],_,_,h=>by simp[gB]at h
 |n+1,w::l,t,r,h=>by
  simp only[gB]at h;split at h
  ·obtain⟨I,J⟩:=DS n l [] t r h;exact⟨I.trans (List.suffix_cons _ _),by simp;omega⟩
  ·split at h
   ·cases h
   ·cases bE:at' w with
    |none=>rw[bE]at h;cases h
    |some x=>rw[bE]at h;cases h;exact⟨List.suffix_cons _ _,Ψ⟩
theorem DS{at':List aX->aW T}:∀(n:Nat) (l:List (List aX)) (acc:List T) (t:T) (r:List (List aX)),cv at' n l acc=some (t,r)->r<:+l/\r.length<l.length
 |0,_,_,_,_,h=>by simp[cv]at h
 |_+1,[],_,_,_,h=>by simp[cv]at h
 |n+1,w::l,acc,t,r,h=>by
  simp only[cv]at h;split at h
  ·cases h;exact⟨List.suffix_cons _ _,Ψ⟩
  ·split at h
   ·split at h
    ·cases h
    ·split at h
     ·rename_i x v dW hr;split at h
      ·cases h;obtain⟨I,J⟩:=q9 n l x (v::r) hr;simp at J;exact⟨((List.suffix_cons _ _).trans I).trans (List.suffix_cons _ _),by simp;omega⟩
      ·cases h
     ·cases h
   ·split at h
    ·rename_i x dW hr;obtain⟨I,J⟩:=q9 n (w::l) x dW hr;obtain⟨aj,aO⟩:=DS n dW _ t r h;exact⟨aj.trans I,Ω⟩
    ·cases h
end
theorem Iq{α:Type}{l r:List α}(h:r<:+l):l.drop (l.length-r.length)=r:=by obtain⟨p,rfl⟩:=h;simp
mutual
def b2:T->List aX
 | .nil=>[40,41]
 | .var n=>63::itoa n
 | .sym s=>s
 | .num n=>itoa n
 | .pair a b=>40::(b2 a++dm b)
def dm:T->List aX
 | .nil=>[41]
 | .pair a b=>32::(b2 a++dm b)
 | .var n=>32::46::32::63::(itoa n++[41])
 | .sym s=>32::46::32::(s++[41])
 | .num n=>32::46::32::(itoa n++[41])
end
mutual
def cT:T->List (List aX)
 | .nil=>[[40],[41]]
 | .var n=>[63::itoa n]
 | .sym s=>[s]
 | .num n=>[itoa n]
 | .pair a b=>[40]::(cT a++eE b)
def eE:T->List (List aX)
 | .nil=>[[41]]
 | .pair a b=>cT a++eE b
 | .var n=>[[46],63::itoa n,[41]]
 | .sym s=>[[46],s,[41]]
 | .num n=>[[46],itoa n,[41]]
end
def iu:List aX->Prop
 |[]=>True
 |c::_=>kC c=true
theorem F7:∀(w r:List aX),(∀c∈w,fx c=true)->iu r->(w++r).takeWhile fx=w/\(w++r).dropWhile fx=r
 |[],[],_,_=>by simp
 |[],c::r,_,h=>by
  have:fx c=false:=by simp only[iu]at h;simp[fx,h]
  simp[this]
 |c::w,r,h,he=>by have I:=h c Ψ;obtain⟨J,aj⟩:=F7 w r (fun x ad=>h x (by simp[ad])) he;simp[I,J,aj]
theorem qN(c:aX):fx c=true↔ ¬(c=32\/c=10)/\¬c=59/\¬(c=40\/c=41):=by unfold fx kC;simp;grind
theorem pV{w r:List aX}(h:∀c∈w,fx c=true)(hw:w≠[])(he:iu r):ee (w++r)=w::ee r:=by
 cases w with
 |nil=>exact absurd rfl hw
 |cons c w=>obtain⟨I,J,aj⟩:=(qN c).1 (h c Ψ);obtain⟨aO,bs⟩:=F7 w r (fun x ad=>h x (by simp[ad])) he;rw[cN,rp,bT I,bT J,bT aj,aO,bs]
theorem sQ(n:Int):∀c∈itoa n,fx c=true:=by intro c al;rw[qN];have:=sR n c al;refine⟨?_,?_,?_⟩<;>(intro e;first|(rcases e with rfl|rfl<;>revert this<;>decide)|(subst e;revert this;decide))
theorem MB{c:aX}(h:lH c=true):fx c=true:=by rw[qN];refine⟨?_,?_,?_⟩<;>(intro e;first|(rcases e with rfl|rfl<;>revert h<;>decide)|(subst e;revert h;decide))
theorem M9{c:aX}(h:low c=true):fx c=true:=by rw[qN];refine⟨?_,?_,?_⟩<;>(intro e;first|(rcases e with rfl|rfl<;>revert h<;>decide)|(subst e;revert h;decide))
theorem qX{s:List aX}(h:ha s=true):∃c r,s=c::r/\low c=true/\(∀x∈r,lH x=true)/\r.length<=11:=by
 unfold ha at h;simp only[bt,eu,ld]at h;cases s with
 |nil=>simp at h
 |cons c r=>exact⟨c,r,rfl,by simpa using h.1.2,by simpa using h.2,by have:=h.1.1.2;simp at this;omega⟩
theorem u7{s:List aX}(h:ha s=true):∀c∈s,fx c=true:=by
 obtain⟨c,r,rfl,I,J,_⟩:=qX h;intro x ad;rcases ft.1 ad with rfl|ad
 ·exact M9 I
 ·exact MB (J x ad)
theorem vn{s:List aX}(h:ha s=true):s≠[]:=by obtain⟨c,r,rfl,_⟩:=qX h;simp
theorem rr{c:aX}(h:c=40\/c=41)(r:List aX):ee (c::r)=[c]::ee r:=by rw[rp,bT (by rcases h with rfl|rfl<;>decide),bT (by rcases h with rfl|rfl<;>decide),cX h]
theorem rs(r:List aX):ee (32::r)=ee r:=by rw[rp,cX (by decide)]
theorem zU(r:List aX):ee (32::46::32::r)=[46]::ee r:=by rw[rs];have:=pV (w:=[46]) (r:=32::r) (by decide) Ψ (by simp[iu,kC]);rw[List.singleton_append]at this;rw[this,rs]
theorem Cj(t:T)(r:List aX):iu (dm t++r):=by cases t<;>simp[dm,iu,kC]
theorem wm(n:Int):∀c∈63::itoa n,fx c=true:=by
 intro c al;rcases ft.1 al with rfl|al
 ·decide
 ·exact sQ n c al
mutual
theorem pU:∀(t:T) (r:List aX),t.ok=true->iu r->ee (b2 t++r)=cT t++ee r
 | .nil,r,_,_=>by simp[b2,cT,rr]
 | .var n,r,_,he=>by simp only[b2,cT];rw[pV (wm n) Ψ he];rfl
 | .sym s,r,h,he=>by simp only[b2,cT,T.ok]at h⊢;rw[pV (u7 h) (vn h) he];rfl
 | .num n,r,_,he=>by simp only[b2,cT];rw[pV (sQ n) (jP n) he];rfl
 | .pair a b,r,h,he=>by simp only[T.ok,bt]at h;simp only[b2,cT,cN,jb];rw[rr (.inl rfl),pU a _ h.1 (Cj b r),Ga b r h.2]
theorem Ga:∀(t:T) (r:List aX),t.ok=true->ee (dm t++r)=eE t++ee r
 | .nil,r,_=>by simp[dm,eE,rr]
 | .var n,r,_=>by simp only[dm,eE,cN,jb,dx];rw[zU,<-cN,pV (wm n) Ψ (by simp[iu,kC]),rr (.inr rfl)]
 | .sym s,r,h=>by simp only[T.ok]at h;simp only[dm,eE,cN,jb,dx];rw[zU,pV (u7 h) (vn h) (by simp[iu,kC]),rr (.inr rfl)]
 | .num n,r,_=>by simp only[dm,eE,cN,jb,dx];rw[zU,pV (sQ n) (jP n) (by simp[iu,kC]),rr (.inr rfl)]
 | .pair a b,r,h=>by simp only[T.ok,bt]at h;simp only[dm,eE,cN,jb];rw[rs,pU a _ h.1 (Cj b r),Ga b r h.2]
end
theorem Hn{n:Int}(h:0<=n/\n<=100000):e8 (63::itoa n)=some (.var n):=by have:kY (itoa n)=some n:=EP.2 ⟨by unfold c1;omega,rfl⟩;simp[e8,this,h]
theorem Ns{s:List aX}(h:ha s=true):∀r,s≠63::r:=by obtain⟨c,r,rfl,I,_⟩:=qX h;intro dW e;simp only[tG]at e;obtain⟨rfl,_⟩:=e;revert I;decide
theorem Hm{s:List aX}(h:ha s=true):e8 s=some (.sym s):=by
 have:=Ns h;unfold e8;split
 ·rename_i r;exact absurd rfl (this r)
 ·simp[h]
theorem ND{n:Int}:ha (itoa n)=false:=by
 cases aa:ha (itoa n)with
 |false=>rfl
 |true=>obtain⟨c,r,I,J,_⟩:=qX aa;have:=sR n c (by rw[I];simp);unfold low at J;simp at J;omega
theorem Hl{n:Int}(h:c1 n):e8 (itoa n)=some (.num n):=by
 have I:∀r,itoa n≠63::r:=fun r e=>by have:=sR n 63 (by rw[e];simp);revert this;decide
 have J:kY (itoa n)=some n:=EP.2 ⟨h,rfl⟩;unfold e8;split
 ·rename_i r e;exact absurd e (I r)
 ·simp[ND,J]
theorem q1{w:List aX}(h:∀c∈w,fx c=true):w≠[40]/\w≠[41]:=by constructor<;>(rintro rfl;have:=h _ (List.mem_singleton.2 rfl);revert this;decide)
theorem Eu(n:Int):itoa n≠[46]:=fun e=>by have:=sR n 46 (by rw[e];simp);revert this;decide
theorem Er{s:List aX}(h:ha s=true):s≠[46]:=by rintro rfl;revert h;decide
theorem Ae:∀t:T,1<=(cT t).length
 | .nil=>by simp[cT]
 | .var _=>by simp[cT]
 | .sym _=>by simp[cT]
 | .num _=>by simp[cT]
 | .pair _ _=>by simp[cT]
theorem PW:∀t:T,1<=(eE t).length
 | .nil=>by simp[eE]
 | .var _=>by simp[eE]
 | .sym _=>by simp[eE]
 | .num _=>by simp[eE]
 | .pair a _=>by have:=Ae a;simp[eE];omega
mutual
theorem ti:∀(t:T) (r:List (List aX)) (n:Nat),t.ok=true->(cT t).length<=n->gB e8 n (cT t++r)=some (t,r)
 | .nil,r,n,_,aU=>by obtain⟨n,rfl⟩:∃m,n=m+2:=⟨n-2,by simp[cT]at aU;omega⟩;simp[cT,gB,cv,gd]
 | .var m,r,n,h,aU=>by obtain⟨n,rfl⟩:∃m,n=m+1:=⟨n-1,by simp[cT]at aU;omega⟩;have I:=q1 (wm m);simp only[T.ok,eu]at h;simp[cT,gB,I,jP,Hn h]
 | .sym s,r,n,h,aU=>by obtain⟨n,rfl⟩:∃m,n=m+1:=⟨n-1,by simp[cT]at aU;omega⟩;simp only[T.ok]at h;have I:=q1 (u7 h);simp[cT,gB,I,Er h,Hm h]
 | .num m,r,n,h,aU=>by obtain⟨n,rfl⟩:∃m,n=m+1:=⟨n-1,by simp[cT]at aU;omega⟩;simp only[T.ok,eu]at h;have I:=q1 (sQ m);simp[cT,gB,I,Eu,Hl (n:=m) (by unfold c1;omega)]
 | .pair a b,r,n,h,aU=>by obtain⟨n,rfl⟩:∃m,n=m+1:=⟨n-1,by simp[cT]at aU;omega⟩;simp only[T.ok,bt]at h;have:=DT a b [] r n h.1 h.2 (by simp[cT]at aU;omega);simp only[cT,cN,jb,gB,if_true];rw[this];simp[gd]
termination_by _ _ n=>(n,0)
theorem DT:∀(a b:T) (acc:List T) (r:List (List aX)) (n:Nat),a.ok=true->b.ok=true->(cT a).length+(eE b).length<=n->cv e8 n (cT a++(eE b++r)) acc=some (gd acc (.pair a b),r)
 |a,b,acc,r,n,bE,aa,aU=>by
  obtain⟨n,rfl⟩:∃m,n=m+1:=⟨n-1,by have:=Ae a;omega⟩;obtain⟨w,l,hw,Mv,yt⟩:∃w l,cT a=w::l/\w≠[41]/\w≠[46]:=by
   cases a with
   |nil=>exact⟨_,_,rfl,by decide,by decide⟩
   |var m=>exact⟨_,_,rfl,(q1 (wm m)).2,by simp[jP]⟩
   |sym s=>exact⟨_,_,rfl,(q1 (u7 bE)).2,Er bE⟩
   |num m=>exact⟨_,_,rfl,(q1 (sQ m)).2,Eu m⟩
   |pair x y=>exact⟨_,_,rfl,by decide,by decide⟩
  have I:=ti a (eE b++r) n bE (by have:=PW b;omega);rw[hw,cN]at I⊢;simp only[cv];rw[bT Mv,bT yt,I];simp only;rw[MQ b (acc++[a]) r n aa (by have:=Ae a;omega) Ψ,Na];rfl
termination_by _ _ _ _ n=>(n,0)
theorem MQ:∀(b:T) (acc:List T) (r:List (List aX)) (n:Nat),b.ok=true->(eE b).length<=n->acc≠[]->cv e8 n (eE b++r) acc=some (gd acc b,r)
 | .nil,acc,r,n,_,aU,_=>by obtain⟨n,rfl⟩:∃m,n=m+1:=⟨n-1,by simp[eE]at aU;omega⟩;simp[eE,cv]
 | .var m,acc,r,n,h,aU,bE=>by obtain⟨n,rfl⟩:∃m,n=m+1:=⟨n-1,by simp[eE]at aU;omega⟩;have I:=ti (.var m) ([41]::r) n h (by simp[eE]at aU;simp[cT];omega);simp only[cT,List.singleton_append]at I;simp[eE,cv,bE,I]
 | .sym m,acc,r,n,h,aU,bE=>by obtain⟨n,rfl⟩:∃m,n=m+1:=⟨n-1,by simp[eE]at aU;omega⟩;have I:=ti (.sym m) ([41]::r) n h (by simp[eE]at aU;simp[cT];omega);simp only[cT,List.singleton_append]at I;simp[eE,cv,bE,I]
 | .num m,acc,r,n,h,aU,bE=>by obtain⟨n,rfl⟩:∃m,n=m+1:=⟨n-1,by simp[eE]at aU;omega⟩;have I:=ti (.num m) ([41]::r) n h (by simp[eE]at aU;simp[cT];omega);simp only[cT,List.singleton_append]at I;simp[eE,cv,bE,I]
 | .pair x y,acc,r,n,h,aU,bE=>by simp only[T.ok,bt]at h;simp only[eE,jb];exact DT x y acc r n h.1 h.2 (by simp[eE]at aU;omega)
termination_by _ _ _ n=>(n,1)
end
end
end Go.Pv
namespace Go.Proofs.YtlnndmgfngfeiaaGreatDoor
section
open Go Go.Pv
def bb:aW (List aX)->cr
 |none=>a7
 |some l=>aE l
theorem Aq:∀o,dE (bb o)
 |none=>tH
 |some l=>gu l
theorem bh.bd{P:bj}{n:Nat}{args:List ae}{st:aS}{d:aW Nat}{K:aS->Prop}{o:aW (List aX)}{r:ae}{eA:List aX}(aF:br P n args (bb o) fun dW ah=>dW=r/\ah=aE eA)(aa:∀k cs,Pv.look k (bb o).b=some cs->Pv.look k st.b=some cs)(he:∀k p,Pv.look k (bb o).e=some p->Pv.look k st.e=some p)
  (U:aD (au (bb o)) args) (aU:o=none->av.obj 862∉st.o) (h:K ⟨dB d r st.t,ba (bb o).b st.b++(aE eA).b,ba (bb o).e st.e++(aE eA).e,st.n,st.o++[.obj 861,.obj 862]⟩):bh P n args st d K:=by
 refine bh.two aF (Aq o) aa he U ?_;rintro dW ah ⟨rfl,rfl⟩;refine⟨⟨fun m hm=>.inl ?_,fun m hm=>?_⟩,h⟩
 ·simp only[aE,Pv.look]at hm;split at hm
  ·rename_i e;rw[<-e];cases o<;>simp[bb,a7,aE,Pv.look]
  ·cases hm
 ·simp only[aE,Pv.look]at hm;split at hm
  ·rename_i e;rw[<-e];cases o with
   |none=>exact .inr (aU rfl)
   |some l=>exact .inl (by simp[bb,aE,Pv.look])
  ·cases hm
theorem fY(o:aW (List aX))(t:List aX)(az:o=none->t≠[])(ar:(o.getD []++t).length<=bF):br aI 62 [aL,.str t] (bb o) fun r ah=>r= .tuple [.int .i64 t.length,.junk]/\ah=aE (o.getD []++t):=by
 cases o with
 |none=>exact Kx t (az rfl) (by simpa using ar)
 |some l=>exact Ky l t ar
theorem jP(n:Int):Lib.itoa n≠[]:=by
 unfold Lib.itoa;split
 ·simp
 ·exact tV _
def iM(l:List aX)(u:T):aS:=⟨[(0,.ptr (.obj 861) 0),(3,.ptr (.loc 0) 0)],(aE l).b++[(.loc 0,cells u.e)],(aE l).e,1,[.obj 861,.obj 862]⟩
theorem KP(n:Nat):∀t:T,t.size<=n->t.ok=true->∀o:aW (List aX),(o.getD []++b2 t).length<=bF->br aI 153 [aL,t.e] (bb o) fun r ah=>r= .tuple []/\ah=aE (o.getD []++b2 t):=by
 induction n with
 |zero=>intro t h;have:=t.size_pos;omega
 |succ n bz=>
  intro t aU ez o ar;have af:=Aq o;have cD:(40:aX)=40:=rfl;cases t with
  |nil=>
   clear bz;simp only[b2]at ar⊢;cases o with
   |none=>simp only[bb,a7,aE,jD]at af ar⊢;refine br.mk mixed gq mh mC Ψ af.obj fun bn cb=>?_;unfold lq;clear bn cb;simp[aL];(with_reducible repeat' first|refine a6 ?_|simp);refine bh.bd (o:=_) (fY (none) ([40,41]) (by simp[jP,cD]) ar) (by simp only[bb,a7,aE,aL];exact ak) (by simp only[bb,a7,aE,aL];exact ak) (by simp[au,Pv.look,bb,a7,aE,aL,aD,aB]) Ψ ?_;simp[ba,bb,a7,aE,aL];refine b4.new (aE ([]++([40,41]))) Ψ (gu _) (by simp[ej,aE,au,Pv.look]) (by simp only[aE,aL];exact ak) (by simp only[aE,aL];exact ak) ?_;simp[cg,iF,bq,bA,bp,aE,aL,au,Pv.look,aB,aD]
   |some l=>simp only[bb,a7,aE,jD]at af ar⊢;refine br.mk mixed gq mh mC Ψ af.obj fun bn cb=>?_;unfold lq;clear bn cb;simp[aL];(with_reducible repeat' first|refine a6 ?_|simp);refine bh.bd (o:=_) (fY (some l) ([40,41]) (by simp[jP,cD]) ar) (by simp only[bb,a7,aE,aL];exact ak) (by simp only[bb,a7,aE,aL];exact ak) (by simp[au,Pv.look,bb,a7,aE,aL,aD,aB]) Ψ ?_;simp[ba,bb,a7,aE,aL];refine b4.new (aE (l++([40,41]))) Ψ (gu _) (by simp[ej,aE,au,Pv.look]) (by simp only[aE,aL];exact ak) (by simp only[aE,aL];exact ak) ?_;simp[cg,iF,bq,bA,bp,aE,aL,au,Pv.look,aB,aD]
  |var v=>
   clear bz;have qt:c1 v:=by simp[T.ok]at ez;unfold c1;omega
   have kT:=Gl v qt;have uJ:=DR qt;have Di:(Lib.itoa v).length+1<=bF:=by have:=Lib.itoa_length_le v (by unfold c1 at qt;omega) (by unfold c1 at qt;omega);unfold bF;omega
   simp only[b2]at ar⊢;cases o with
   |none=>simp only[bb,a7,aE,jD]at af ar⊢;refine br.mk mixed gq mh mC Ψ af.obj fun bn cb=>?_;unfold lq;clear bn cb;simp[aL];(with_reducible repeat' first|refine a6 ?_|refine b8 kT ?_|refine b9 kT ?_|simp[Di]);refine bh.bd (o:=_) (fY (none) (63::Lib.itoa v) (by simp[jP,cD]) ar) (by simp only[bb,a7,aE,aL];exact ak) (by simp only[bb,a7,aE,aL];exact ak) (by simp[au,Pv.look,bb,a7,aE,aL,aD,aB]) Ψ ?_;simp[ba,bb,a7,aE,aL];refine b4.new (aE ([]++(63::Lib.itoa v))) Ψ (gu _) (by simp[ej,aE,au,Pv.look]) (by simp only[aE,aL];exact ak) (by simp only[aE,aL];exact ak) ?_;simp[cg,iF,bq,bA,bp,aE,aL,au,Pv.look,aB,aD]
   |some l=>simp only[bb,a7,aE,jD]at af ar⊢;refine br.mk mixed gq mh mC Ψ af.obj fun bn cb=>?_;unfold lq;clear bn cb;simp[aL];(with_reducible repeat' first|refine a6 ?_|refine b8 kT ?_|refine b9 kT ?_|simp[Di]);refine bh.bd (o:=_) (fY (some l) (63::Lib.itoa v) (by simp[jP,cD]) ar) (by simp only[bb,a7,aE,aL];exact ak) (by simp only[bb,a7,aE,aL];exact ak) (by simp[au,Pv.look,bb,a7,aE,aL,aD,aB]) Ψ ?_;simp[ba,bb,a7,aE,aL];refine b4.new (aE (l++(63::Lib.itoa v))) Ψ (gu _) (by simp[ej,aE,au,Pv.look]) (by simp only[aE,aL];exact ak) (by simp only[aE,aL];exact ak) ?_;simp[cg,iF,bq,bA,bp,aE,aL,au,Pv.look,aB,aD]
  |sym s=>
   clear bz;have cD:s≠[]:=vn (by simpa[T.ok]using ez);simp only[b2]at ar⊢;cases o with
   |none=>simp only[bb,a7,aE,jD]at af ar⊢;refine br.mk mixed gq mh mC Ψ af.obj fun bn cb=>?_;unfold lq;clear bn cb;simp[aL];(with_reducible repeat' first|refine a6 ?_|simp);refine bh.bd (o:=_) (fY (none) (s) (by simp[jP,cD]) ar) (by simp only[bb,a7,aE,aL];exact ak) (by simp only[bb,a7,aE,aL];exact ak) (by simp[au,Pv.look,bb,a7,aE,aL,aD,aB]) Ψ ?_;simp[ba,bb,a7,aE,aL];refine b4.new (aE ([]++(s))) Ψ (gu _) (by simp[ej,aE,au,Pv.look]) (by simp only[aE,aL];exact ak) (by simp only[aE,aL];exact ak) ?_;simp[cg,iF,bq,bA,bp,aE,aL,au,Pv.look,aB,aD]
   |some l=>simp only[bb,a7,aE,jD]at af ar⊢;refine br.mk mixed gq mh mC Ψ af.obj fun bn cb=>?_;unfold lq;clear bn cb;simp[aL];(with_reducible repeat' first|refine a6 ?_|simp);refine bh.bd (o:=_) (fY (some l) (s) (by simp[jP,cD]) ar) (by simp only[bb,a7,aE,aL];exact ak) (by simp only[bb,a7,aE,aL];exact ak) (by simp[au,Pv.look,bb,a7,aE,aL,aD,aB]) Ψ ?_;simp[ba,bb,a7,aE,aL];refine b4.new (aE (l++(s))) Ψ (gu _) (by simp[ej,aE,au,Pv.look]) (by simp only[aE,aL];exact ak) (by simp only[aE,aL];exact ak) ?_;simp[cg,iF,bq,bA,bp,aE,aL,au,Pv.look,aB,aD]
  |num v=>
   clear bz;have qt:c1 v:=by simp[T.ok]at ez;unfold c1;omega
   have kT:=Gl v qt;simp only[b2]at ar⊢;cases o with
   |none=>simp only[bb,a7,aE,jD]at af ar⊢;refine br.mk mixed gq mh mC Ψ af.obj fun bn cb=>?_;unfold lq;clear bn cb;simp[aL];(with_reducible repeat' first|refine a6 ?_|refine b8 kT ?_|refine b9 kT ?_|simp);refine bh.bd (o:=_) (fY (none) (Lib.itoa v) (by simp[jP,cD]) ar) (by simp only[bb,a7,aE,aL];exact ak) (by simp only[bb,a7,aE,aL];exact ak) (by simp[au,Pv.look,bb,a7,aE,aL,aD,aB]) Ψ ?_;simp[ba,bb,a7,aE,aL];refine b4.new (aE ([]++(Lib.itoa v))) Ψ (gu _) (by simp[ej,aE,au,Pv.look]) (by simp only[aE,aL];exact ak) (by simp only[aE,aL];exact ak) ?_;simp[cg,iF,bq,bA,bp,aE,aL,au,Pv.look,aB,aD]
   |some l=>simp only[bb,a7,aE,jD]at af ar⊢;refine br.mk mixed gq mh mC Ψ af.obj fun bn cb=>?_;unfold lq;clear bn cb;simp[aL];(with_reducible repeat' first|refine a6 ?_|refine b8 kT ?_|refine b9 kT ?_|simp);refine bh.bd (o:=_) (fY (some l) (Lib.itoa v) (by simp[jP,cD]) ar) (by simp only[bb,a7,aE,aL];exact ak) (by simp only[bb,a7,aE,aL];exact ak) (by simp[au,Pv.look,bb,a7,aE,aL,aD,aB]) Ψ ?_;simp[ba,bb,a7,aE,aL];refine b4.new (aE (l++(Lib.itoa v))) Ψ (gu _) (by simp[ej,aE,au,Pv.look]) (by simp only[aE,aL];exact ak) (by simp only[aE,aL];exact ak) ?_;simp[cg,iF,bq,bA,bp,aE,aL,au,Pv.look,aB,aD]
  |pair a b=>
   simp only[T.size]at aU;simp only[T.ok,bt]at ez;have uL:=bz a Ω ez.1;have qF:(o.getD []).length+(1+((b2 a).length+(dm b).length))<=bF:=by simpa[b2,Nat.add_comm 1]using ar
   simp only[b2]at ar⊢;obtain⟨we,nc⟩:∃we,we=o.getD []++40::(b2 a++dm b):=⟨_,rfl⟩;rw[<-nc]at ar⊢;have dt:=b.size_pos;cases o with
   |none=>
    have kw:=fY none [40] Ψ (by unfold bF;simp);have sT:=uL (some [40]) (by simp at qF⊢;omega);simp only[bb,a7,aE,jD]at af⊢;refine br.mk mixed gq mh mC Ψ af.obj fun bn cb=>?_;unfold lq;clear bn cb;simp[aL];(with_reducible repeat' first|refine a6 ?_|simp);refine bh.bd (o:=_) (kw) (by simp only[bb,a7,aE,aL];exact ak) (by simp only[bb,a7,aE,aL];exact ak) (by simp[au,Pv.look,bb,a7,aE,aL,aD,aB]) Ψ ?_;simp[ba,bb,a7,aE,aL];(with_reducible repeat' first|refine a6 ?_|simp);refine bh.bd (o:=_) (sT) (by simp only[bb,a7,aE,aL];exact ak) (by simp only[bb,a7,aE,aL];exact ak) (by simp[au,Pv.look,bb,a7,aE,aL,aD,aB]) Ψ ?_;simp[ba,bb,a7,aE,aL];(with_reducible repeat' first|refine a6 ?_|simp);refine kH (fun x:T×List aX=>iM x.2 x.1) (fun x=>x.1.size) (fun x=>x.1.ok=true/\x.1.size<=n/\x.2++dm x.1=we) (b,[]++40::b2 a) (by simp[iM,aE,aL];exact⟨by simp[fresh,aD,aB,c6,au,Pv.look,hb],e9 (by simp[fresh,aD,aB,c6,au,Pv.look,hb]),ff (by simp[fresh,aD,aB,eQ,au,Pv.look,hb]),Ψ⟩) ⟨ez.2,(by show b.size<=n;omega),by rw[nc];simp⟩ ?_;rintro⟨u,acc⟩ ⟨jt,lF,sK⟩ jL;clear jL kw sT uL nc qF;simp only at jt lF sK;subst sK;cases u with
    |pair x y=>
     simp only[T.size]at lF;simp only[T.ok,bt]at jt;have ix:acc.length+(1+((b2 x).length+(dm y).length))<=bF:=by simpa[dm,Nat.add_comm 1]using ar
     have kw:=fY (some acc) [32] Ψ (by simp;omega);have jv:=bz x Ω jt.1 (some (acc++[32])) (by simp;omega);simp[iM,aE,aL];(with_reducible repeat' first|refine a6 ?_|simp);refine bh.bd (o:=_) (kw) (by simp only[bb,a7,aE,aL];exact ak) (by simp only[bb,a7,aE,aL];exact ak) (by simp[au,Pv.look,bb,a7,aE,aL,aD,aB]) Ψ ?_;simp[ba,bb,a7,aE,aL];(with_reducible repeat' first|refine a6 ?_|simp);refine bh.bd (o:=_) (jv) (by simp only[bb,a7,aE,aL];exact ak) (by simp only[bb,a7,aE,aL];exact ak) (by simp[au,Pv.look,bb,a7,aE,aL,aD,aB]) Ψ ?_;simp[ba,bb,a7,aE,aL];(with_reducible repeat' first|refine a6 ?_|simp);refine dD.whl (y,acc++32::b2 x) (by show y.size<1+x.size+y.size;omega) ⟨jt.2,(by show y.size<=n;omega),by simp[dm]⟩ ?_;simp[iM,aE,aL];exact⟨by simp[fresh,aD,aB,c6,au,Pv.look,hb],e9 (by simp[fresh,aD,aB,c6,au,Pv.look,hb]),ff (by simp[fresh,aD,aB,eQ,au,Pv.look,hb]),Ψ⟩
    |nil=>have kw:=fY (some acc) [41] Ψ (by simpa[dm]using ar);simp only[dm];simp[iM,aE,aL];(with_reducible repeat' first|refine a6 ?_|simp);refine bh.bd (o:=_) (kw) (by simp only[bb,a7,aE,aL];exact ak) (by simp only[bb,a7,aE,aL];exact ak) (by simp[au,Pv.look,bb,a7,aE,aL,aD,aB]) Ψ ?_;simp[ba,bb,a7,aE,aL];refine b4.new (aE (acc++[41])) Ψ (gu _) (by simp[ej,aE,au,Pv.look]) (by simp only[aE,aL];exact ak) (by simp only[aE,aL];exact ak) ?_;simp[cg,iF,bq,bA,bp,aE,aL,au,Pv.look,aB,aD]
    |var v=>
     have ix:acc.length+(3+((b2 (T.var v)).length+1))<=bF:=by simp[dm,b2]at ar⊢;omega
     have kw:=fY (some acc) [32,46,32] Ψ (by simp;omega);have jv:=bz (T.var v) lF jt (some (acc++[32,46,32])) (by simp;omega);have dv:=fY (some (acc++[32,46,32]++b2 (T.var v))) [41] Ψ (by simp;omega);have he:acc++dm (T.var v)=acc++[32,46,32]++b2 (T.var v)++[41]:=by simp[dm,b2]
     rw[he];simp[iM,aE,aL];(with_reducible repeat' first|refine a6 ?_|simp);refine bh.bd (o:=_) (kw) (by simp only[bb,a7,aE,aL];exact ak) (by simp only[bb,a7,aE,aL];exact ak) (by simp[au,Pv.look,bb,a7,aE,aL,aD,aB]) Ψ ?_;simp[ba,bb,a7,aE,aL];(with_reducible repeat' first|refine a6 ?_|simp);refine bh.bd (o:=_) (jv) (by simp only[bb,a7,aE,aL];exact ak) (by simp only[bb,a7,aE,aL];exact ak) (by simp[au,Pv.look,bb,a7,aE,aL,aD,aB]) Ψ ?_;simp[ba,bb,a7,aE,aL];(with_reducible repeat' first|refine a6 ?_|simp);refine bh.bd (o:=_) (dv) (by simp only[bb,a7,aE,aL];exact ak) (by simp only[bb,a7,aE,aL];exact ak) (by simp[au,Pv.look,bb,a7,aE,aL,aD,aB]) Ψ ?_;simp[ba,bb,a7,aE,aL];refine b4.new (aE (acc++[32,46,32]++b2 (T.var v)++[41])) Ψ (gu _) (by simp[ej,aE,au,Pv.look]) (by simp only[aE,aL];exact ak) (by simp only[aE,aL];exact ak) ?_;simp[cg,iF,bq,bA,bp,aE,aL,au,Pv.look,aB,aD]
    |sym v=>
     have ix:acc.length+(3+((b2 (T.sym v)).length+1))<=bF:=by simp[dm,b2]at ar⊢;omega
     have kw:=fY (some acc) [32,46,32] Ψ (by simp;omega);have jv:=bz (T.sym v) lF jt (some (acc++[32,46,32])) (by simp;omega);have dv:=fY (some (acc++[32,46,32]++b2 (T.sym v))) [41] Ψ (by simp;omega);have he:acc++dm (T.sym v)=acc++[32,46,32]++b2 (T.sym v)++[41]:=by simp[dm,b2]
     rw[he];simp[iM,aE,aL];(with_reducible repeat' first|refine a6 ?_|simp);refine bh.bd (o:=_) (kw) (by simp only[bb,a7,aE,aL];exact ak) (by simp only[bb,a7,aE,aL];exact ak) (by simp[au,Pv.look,bb,a7,aE,aL,aD,aB]) Ψ ?_;simp[ba,bb,a7,aE,aL];(with_reducible repeat' first|refine a6 ?_|simp);refine bh.bd (o:=_) (jv) (by simp only[bb,a7,aE,aL];exact ak) (by simp only[bb,a7,aE,aL];exact ak) (by simp[au,Pv.look,bb,a7,aE,aL,aD,aB]) Ψ ?_;simp[ba,bb,a7,aE,aL];(with_reducible repeat' first|refine a6 ?_|simp);refine bh.bd (o:=_) (dv) (by simp only[bb,a7,aE,aL];exact ak) (by simp only[bb,a7,aE,aL];exact ak) (by simp[au,Pv.look,bb,a7,aE,aL,aD,aB]) Ψ ?_;simp[ba,bb,a7,aE,aL];refine b4.new (aE (acc++[32,46,32]++b2 (T.sym v)++[41])) Ψ (gu _) (by simp[ej,aE,au,Pv.look]) (by simp only[aE,aL];exact ak) (by simp only[aE,aL];exact ak) ?_;simp[cg,iF,bq,bA,bp,aE,aL,au,Pv.look,aB,aD]
    |num v=>
     have ix:acc.length+(3+((b2 (T.num v)).length+1))<=bF:=by simp[dm,b2]at ar⊢;omega
     have kw:=fY (some acc) [32,46,32] Ψ (by simp;omega);have jv:=bz (T.num v) lF jt (some (acc++[32,46,32])) (by simp;omega);have dv:=fY (some (acc++[32,46,32]++b2 (T.num v))) [41] Ψ (by simp;omega);have he:acc++dm (T.num v)=acc++[32,46,32]++b2 (T.num v)++[41]:=by simp[dm,b2]
     rw[he];simp[iM,aE,aL];(with_reducible repeat' first|refine a6 ?_|simp);refine bh.bd (o:=_) (kw) (by simp only[bb,a7,aE,aL];exact ak) (by simp only[bb,a7,aE,aL];exact ak) (by simp[au,Pv.look,bb,a7,aE,aL,aD,aB]) Ψ ?_;simp[ba,bb,a7,aE,aL];(with_reducible repeat' first|refine a6 ?_|simp);refine bh.bd (o:=_) (jv) (by simp only[bb,a7,aE,aL];exact ak) (by simp only[bb,a7,aE,aL];exact ak) (by simp[au,Pv.look,bb,a7,aE,aL,aD,aB]) Ψ ?_;simp[ba,bb,a7,aE,aL];(with_reducible repeat' first|refine a6 ?_|simp);refine bh.bd (o:=_) (dv) (by simp only[bb,a7,aE,aL];exact ak) (by simp only[bb,a7,aE,aL];exact ak) (by simp[au,Pv.look,bb,a7,aE,aL,aD,aB]) Ψ ?_;simp[ba,bb,a7,aE,aL];refine b4.new (aE (acc++[32,46,32]++b2 (T.num v)++[41])) Ψ (gu _) (by simp[ej,aE,au,Pv.look]) (by simp only[aE,aL];exact ak) (by simp only[aE,aL];exact ak) ?_;simp[cg,iF,bq,bA,bp,aE,aL,au,Pv.look,aB,aD]
   |some l=>
    have kw:=fY (some l) [40] Ψ (by simp at qF⊢;omega);have sT:=uL (some (l++[40])) (by simp at qF⊢;omega);simp only[bb,a7,aE,jD]at af⊢;refine br.mk mixed gq mh mC Ψ af.obj fun bn cb=>?_;unfold lq;clear bn cb;simp[aL];(with_reducible repeat' first|refine a6 ?_|simp);refine bh.bd (o:=_) (kw) (by simp only[bb,a7,aE,aL];exact ak) (by simp only[bb,a7,aE,aL];exact ak) (by simp[au,Pv.look,bb,a7,aE,aL,aD,aB]) Ψ ?_;simp[ba,bb,a7,aE,aL];(with_reducible repeat' first|refine a6 ?_|simp);refine bh.bd (o:=_) (sT) (by simp only[bb,a7,aE,aL];exact ak) (by simp only[bb,a7,aE,aL];exact ak) (by simp[au,Pv.look,bb,a7,aE,aL,aD,aB]) Ψ ?_;simp[ba,bb,a7,aE,aL];(with_reducible repeat' first|refine a6 ?_|simp);refine kH (fun x:T×List aX=>iM x.2 x.1) (fun x=>x.1.size) (fun x=>x.1.ok=true/\x.1.size<=n/\x.2++dm x.1=we) (b,l++40::b2 a) (by simp[iM,aE,aL];exact⟨by simp[fresh,aD,aB,c6,au,Pv.look,hb],e9 (by simp[fresh,aD,aB,c6,au,Pv.look,hb]),ff (by simp[fresh,aD,aB,eQ,au,Pv.look,hb]),Ψ⟩) ⟨ez.2,(by show b.size<=n;omega),by rw[nc];simp⟩ ?_;rintro⟨u,acc⟩ ⟨jt,lF,sK⟩ jL;clear jL kw sT uL nc qF;simp only at jt lF sK;subst sK;cases u with
    |pair x y=>
     simp only[T.size]at lF;simp only[T.ok,bt]at jt;have ix:acc.length+(1+((b2 x).length+(dm y).length))<=bF:=by simpa[dm,Nat.add_comm 1]using ar
     have kw:=fY (some acc) [32] Ψ (by simp;omega);have jv:=bz x Ω jt.1 (some (acc++[32])) (by simp;omega);simp[iM,aE,aL];(with_reducible repeat' first|refine a6 ?_|simp);refine bh.bd (o:=_) (kw) (by simp only[bb,a7,aE,aL];exact ak) (by simp only[bb,a7,aE,aL];exact ak) (by simp[au,Pv.look,bb,a7,aE,aL,aD,aB]) Ψ ?_;simp[ba,bb,a7,aE,aL];(with_reducible repeat' first|refine a6 ?_|simp);refine bh.bd (o:=_) (jv) (by simp only[bb,a7,aE,aL];exact ak) (by simp only[bb,a7,aE,aL];exact ak) (by simp[au,Pv.look,bb,a7,aE,aL,aD,aB]) Ψ ?_;simp[ba,bb,a7,aE,aL];(with_reducible repeat' first|refine a6 ?_|simp);refine dD.whl (y,acc++32::b2 x) (by show y.size<1+x.size+y.size;omega) ⟨jt.2,(by show y.size<=n;omega),by simp[dm]⟩ ?_;simp[iM,aE,aL];exact⟨by simp[fresh,aD,aB,c6,au,Pv.look,hb],e9 (by simp[fresh,aD,aB,c6,au,Pv.look,hb]),ff (by simp[fresh,aD,aB,eQ,au,Pv.look,hb]),Ψ⟩
    |nil=>have kw:=fY (some acc) [41] Ψ (by simpa[dm]using ar);simp only[dm];simp[iM,aE,aL];(with_reducible repeat' first|refine a6 ?_|simp);refine bh.bd (o:=_) (kw) (by simp only[bb,a7,aE,aL];exact ak) (by simp only[bb,a7,aE,aL];exact ak) (by simp[au,Pv.look,bb,a7,aE,aL,aD,aB]) Ψ ?_;simp[ba,bb,a7,aE,aL];refine b4.new (aE (acc++[41])) Ψ (gu _) (by simp[ej,aE,au,Pv.look]) (by simp only[aE,aL];exact ak) (by simp only[aE,aL];exact ak) ?_;simp[cg,iF,bq,bA,bp,aE,aL,au,Pv.look,aB,aD]
    |var v=>
     have ix:acc.length+(3+((b2 (T.var v)).length+1))<=bF:=by simp[dm,b2]at ar⊢;omega
     have kw:=fY (some acc) [32,46,32] Ψ (by simp;omega);have jv:=bz (T.var v) lF jt (some (acc++[32,46,32])) (by simp;omega);have dv:=fY (some (acc++[32,46,32]++b2 (T.var v))) [41] Ψ (by simp;omega);have he:acc++dm (T.var v)=acc++[32,46,32]++b2 (T.var v)++[41]:=by simp[dm,b2]
     rw[he];simp[iM,aE,aL];(with_reducible repeat' first|refine a6 ?_|simp);refine bh.bd (o:=_) (kw) (by simp only[bb,a7,aE,aL];exact ak) (by simp only[bb,a7,aE,aL];exact ak) (by simp[au,Pv.look,bb,a7,aE,aL,aD,aB]) Ψ ?_;simp[ba,bb,a7,aE,aL];(with_reducible repeat' first|refine a6 ?_|simp);refine bh.bd (o:=_) (jv) (by simp only[bb,a7,aE,aL];exact ak) (by simp only[bb,a7,aE,aL];exact ak) (by simp[au,Pv.look,bb,a7,aE,aL,aD,aB]) Ψ ?_;simp[ba,bb,a7,aE,aL];(with_reducible repeat' first|refine a6 ?_|simp);refine bh.bd (o:=_) (dv) (by simp only[bb,a7,aE,aL];exact ak) (by simp only[bb,a7,aE,aL];exact ak) (by simp[au,Pv.look,bb,a7,aE,aL,aD,aB]) Ψ ?_;simp[ba,bb,a7,aE,aL];refine b4.new (aE (acc++[32,46,32]++b2 (T.var v)++[41])) Ψ (gu _) (by simp[ej,aE,au,Pv.look]) (by simp only[aE,aL];exact ak) (by simp only[aE,aL];exact ak) ?_;simp[cg,iF,bq,bA,bp,aE,aL,au,Pv.look,aB,aD]
    |sym v=>
     have ix:acc.length+(3+((b2 (T.sym v)).length+1))<=bF:=by simp[dm,b2]at ar⊢;omega
     have kw:=fY (some acc) [32,46,32] Ψ (by simp;omega);have jv:=bz (T.sym v) lF jt (some (acc++[32,46,32])) (by simp;omega);have dv:=fY (some (acc++[32,46,32]++b2 (T.sym v))) [41] Ψ (by simp;omega);have he:acc++dm (T.sym v)=acc++[32,46,32]++b2 (T.sym v)++[41]:=by simp[dm,b2]
     rw[he];simp[iM,aE,aL];(with_reducible repeat' first|refine a6 ?_|simp);refine bh.bd (o:=_) (kw) (by simp only[bb,a7,aE,aL];exact ak) (by simp only[bb,a7,aE,aL];exact ak) (by simp[au,Pv.look,bb,a7,aE,aL,aD,aB]) Ψ ?_;simp[ba,bb,a7,aE,aL];(with_reducible repeat' first|refine a6 ?_|simp);refine bh.bd (o:=_) (jv) (by simp only[bb,a7,aE,aL];exact ak) (by simp only[bb,a7,aE,aL];exact ak) (by simp[au,Pv.look,bb,a7,aE,aL,aD,aB]) Ψ ?_;simp[ba,bb,a7,aE,aL];(with_reducible repeat' first|refine a6 ?_|simp);refine bh.bd (o:=_) (dv) (by simp only[bb,a7,aE,aL];exact ak) (by simp only[bb,a7,aE,aL];exact ak) (by simp[au,Pv.look,bb,a7,aE,aL,aD,aB]) Ψ ?_;simp[ba,bb,a7,aE,aL];refine b4.new (aE (acc++[32,46,32]++b2 (T.sym v)++[41])) Ψ (gu _) (by simp[ej,aE,au,Pv.look]) (by simp only[aE,aL];exact ak) (by simp only[aE,aL];exact ak) ?_;simp[cg,iF,bq,bA,bp,aE,aL,au,Pv.look,aB,aD]
    |num v=>
     have ix:acc.length+(3+((b2 (T.num v)).length+1))<=bF:=by simp[dm,b2]at ar⊢;omega
     have kw:=fY (some acc) [32,46,32] Ψ (by simp;omega);have jv:=bz (T.num v) lF jt (some (acc++[32,46,32])) (by simp;omega);have dv:=fY (some (acc++[32,46,32]++b2 (T.num v))) [41] Ψ (by simp;omega);have he:acc++dm (T.num v)=acc++[32,46,32]++b2 (T.num v)++[41]:=by simp[dm,b2]
     rw[he];simp[iM,aE,aL];(with_reducible repeat' first|refine a6 ?_|simp);refine bh.bd (o:=_) (kw) (by simp only[bb,a7,aE,aL];exact ak) (by simp only[bb,a7,aE,aL];exact ak) (by simp[au,Pv.look,bb,a7,aE,aL,aD,aB]) Ψ ?_;simp[ba,bb,a7,aE,aL];(with_reducible repeat' first|refine a6 ?_|simp);refine bh.bd (o:=_) (jv) (by simp only[bb,a7,aE,aL];exact ak) (by simp only[bb,a7,aE,aL];exact ak) (by simp[au,Pv.look,bb,a7,aE,aL,aD,aB]) Ψ ?_;simp[ba,bb,a7,aE,aL];(with_reducible repeat' first|refine a6 ?_|simp);refine bh.bd (o:=_) (dv) (by simp only[bb,a7,aE,aL];exact ak) (by simp only[bb,a7,aE,aL];exact ak) (by simp[au,Pv.look,bb,a7,aE,aL,aD,aB]) Ψ ?_;simp[ba,bb,a7,aE,aL];refine b4.new (aE (acc++[32,46,32]++b2 (T.num v)++[41])) Ψ (gu _) (by simp[ej,aE,au,Pv.look]) (by simp only[aE,aL];exact ak) (by simp only[aE,aL];exact ak) ?_;simp[cg,iF,bq,bA,bp,aE,aL,au,Pv.look,aB,aD]
end
end Go.Proofs.YtlnndmgfngfeiaaGreatDoor
namespace Go.Pv
section
open Go Go.Lib
def Pz(tr:List (List aX)->aW (T×List (List aX))):Prop:= ∀l t r,tr l=some (t,r)->r<:+l/\r.length<l.length
def Sf:aW (T×List (List aX))->aW (T×List (List aX))
 |some (t,r)=>if t.ok then some (t,r)else none
 |none=>none
def jW(l:List (List aX)):aW (T×List (List aX)):=match gB e8 (2*l.length+1) l with
 |some (t,r)=>if t.fit then some (t,r)else none
 |none=>none
theorem mi{t:T}(h:t.fit=true):t.ok=true:=by unfold T.fit at h;simp only[bt]at h;exact h.1
theorem Py:Pz jW:=fun l t r h=>by
 unfold jW at h;split at h
 ·rename_i x y hr;split at h
  ·cases h;exact q9 _ _ _ _ hr
  ·cases h
 ·cases h
def fo(b:List aX):List (List aX)->List aX
 |[]=>[]
 |[x]=>x
 |x::y::r=>x++b++fo b (y::r)
theorem DX(b:List aX)(x:List aX):∀l:List (List aX),l≠[]->fo b (l++[x])=fo b l++b++x
 |[],h=>absurd rfl h
 |[y],_=>by simp[fo]
 |y::z::r,_=>by have:=DX b x (z::r) Ψ;simp only[cN,fo]at this⊢;rw[this];simp
theorem MT(b:List aX)(l:List (List aX)){k:Nat}{x:List aX}(h:l[k]? =some x):fo b (l.take (k+1))=if k=0 then x else fo b (l.take k)++b++x:=by
 have U:=(fG.1 h).1;have az:l.take (k+1)=l.take k++[x]:=by rw[List.take_add_one,h];rfl
 rw[az];by_cases ck:k=0
 ·subst ck;simp[fo]
 ·rw[bT ck,DX];intro e;have:=cB List.length e;rw[List.length_take]at this;simp only[List.length_nil]at this;omega
theorem Ge{t:T}(h:t.fit=true)(r:List (List aX)):jW (cT t++r)=some (t,r):=by unfold jW;rw[ti t r _ (mi h) (by simp;omega)];simp[h]
def h4(l:List aN):List (List aX):=l.flatMap fun b=>[b2 (.var b.v),b2 b.t]
def h7(l:List aN):List aX:=fo [32] (h4 l)
def mF:Nat->List (List aX)->aW (List aN)
 |_,[]=>some []
 |0,_::_=>none
 |n+1,w::l=>match jW (w::l)with
  |some (.var v,r)=>match jW r with
   |some (t,dW)=>(mF n dW).map (⟨v,t⟩:: ·)
   |none=>none
  |_=>none
theorem rC{v:Int}(h:0<=v/\v<=100000):(T.var v).fit=true:=by unfold T.fit T.ok T.size;simp[h]
theorem Fz:∀(l:List aN) (n:Nat),(∀b∈l,(0<=b.v/\b.v<=100000)/\b.t.fit=true)->l.length<=n->mF n (l.flatMap fun b=>cT (.var b.v)++cT b.t)=some l
 |[],n,_,_=>by cases n<;>rfl
 |b::l,0,_,h=>by simp at h
 |b::l,n+1,aa,h=>by have I:=aa b Ψ;have bz:=Fz l n (fun x ad=>aa x (by simp[ad])) (by simpa using h);have ai:=Ge (rC I.1) (cT b.t++l.flatMap fun b=>cT (.var b.v)++cT b.t);have aK:=Ge I.2 (l.flatMap fun b=>cT (.var b.v)++cT b.t);simp only[lf,jb];generalize (l.flatMap fun b=>cT (.var b.v)++cT b.t)=R at ai aK bz⊢;simp only[cT,List.singleton_append]at ai⊢;simp only[mF,ai,aK,bz];rfl
def PU(s:List aX):Bool:=ha s||(match kY s with|some n=>decide (0<=n/\n<=100000)|none=>false)
def num:List (List aX)->List (List aX)->aW (List (List aX)×List (List aX))
 |ns,[]=>some ([],ns)
 |ns,w::r=>match w with
  |63::s=>if PU s then(num (if w∈ns then ns else ns++[w]) r).map fun x=>((63::itoa (ns.idxOf w))::x.1,x.2)else none
  |_=>(num ns r).map fun x=>(w::x.1,x.2)
theorem B9:iu []:=trivial
def jR(s:List aX):Prop:= ∀c∈s,kW c=true
theorem pH{a b:List aX}(bE:jR a)(aa:jR b):jR (a++b):=fun c h=>(ht.1 h).elim (bE c) (aa c)
theorem jS{x:aX}{b:List aX}(bE:kW x=true)(aa:jR b):jR (x::b):=fun c h=>by
 rcases ft.1 h with rfl|h
 ·exact bE
 ·exact aa c h
theorem y1(n:Int):jR (itoa n):=fun c h=>by have:=sR n c h;simp only[kW,Bool.or_eq_true,cI,bt,eu];exact .inr Ω
theorem Ez{s:List aX}(h:ha s=true):jR s:=fun c al=>by
 obtain⟨x,r,rfl,I,J,_⟩:=qX h;have:lH c=true:=by
  rcases ft.1 al with rfl|al
  ·unfold lH;rw[I];rfl
  ·exact J c al
 simp only[lH,low,Bool.or_eq_true,eu,cI]at this;simp only[kW,Bool.or_eq_true,cI,bt,eu];omega
theorem EA(n:Int):jR (63::itoa n):=jS (by decide) (y1 n)
theorem q2{x:aX}(h:kW x=true):jR [x]:=jS h (fun _ h=>by cases h)
mutual
theorem vu:∀t:T,t.ok=true->jR (b2 t)
 | .nil,_=>by rw[b2];exact jS (by decide) (q2 (by decide))
 | .var n,_=>by rw[b2];exact EA n
 | .sym s,h=>by rw[b2];exact Ez (by simpa[T.ok]using h)
 | .num n,_=>by rw[b2];exact y1 n
 | .pair a b,h=>by simp only[T.ok,bt]at h;rw[b2];exact jS (by decide) (pH (vu a h.1) (Ex b h.2))
theorem Ex:∀t:T,t.ok=true->jR (dm t)
 | .nil,_=>by rw[dm];exact q2 (by decide)
 | .var n,_=>by rw[dm];exact jS (by decide) (jS (by decide) (jS (by decide) (pH (EA n) (q2 (by decide)))))
 | .sym s,h=>by rw[dm];exact jS (by decide) (jS (by decide) (jS (by decide) (pH (Ez (by simpa[T.ok]using h)) (q2 (by decide)))))
 | .num n,_=>by rw[dm];exact jS (by decide) (jS (by decide) (jS (by decide) (pH (y1 n) (q2 (by decide)))))
 | .pair a b,h=>by simp only[T.ok,bt]at h;rw[dm];exact jS (by decide) (pH (vu a h.1) (Ex b h.2))
end
theorem Ey:∀l:List (List aX),(∀x∈l,jR x)->jR (fo [32] l)
 |[],_=>fun _ h=>by cases h
 |[x],h=>h x Ψ
 |x::y::r,h=>by rw[fo];exact pH (pH (h x Ψ) (q2 (by decide))) (Ey (y::r) fun z ed=>h z (by simp only[ft]at ed⊢;exact .inr ed))
end
section
open Go Go.Lib
theorem Es{s:List aX}(h:ha s=true):s.length<=12:=by obtain⟨c,r,rfl,_,_,aj⟩:=qX h;simp;omega
mutual
theorem r7:∀t:T,t.ok=true->(b2 t).length<=26*t.size
 | .nil,_=>by simp[b2,T.size]
 | .var n,h=>by simp only[T.ok,eu]at h;have:=itoa_length_le n Ω Ω;simp only[b2,T.size,ir];omega
 | .sym s,h=>by have:=Es (s:=s) (by simpa[T.ok]using h);simp only[b2,T.size];omega
 | .num n,h=>by simp only[T.ok,eu]at h;have:=itoa_length_le n Ω Ω;simp only[b2,T.size];omega
 | .pair a b,h=>by simp only[T.ok,bt]at h;have I:=r7 a h.1;have J:=Ck b h.2;simp only[b2,T.size,ir,e0];omega
theorem Ck:∀t:T,t.ok=true->(dm t).length<=26*t.size
 | .nil,_=>by simp[dm,T.size]
 | .var n,h=>by simp only[T.ok,eu]at h;have:=itoa_length_le n Ω Ω;simp only[dm,T.size,ir,e0,List.length_nil];omega
 | .sym s,h=>by have:=Es (s:=s) (by simpa[T.ok]using h);simp only[dm,T.size,ir,e0,List.length_nil];omega
 | .num n,h=>by simp only[T.ok,eu]at h;have:=itoa_length_le n Ω Ω;simp only[dm,T.size,ir,e0,List.length_nil];omega
 | .pair a b,h=>by simp only[T.ok,bt]at h;have I:=r7 a h.1;have J:=Ck b h.2;simp only[dm,T.size,ir,e0];omega
end
mutual
theorem Ad:∀t:T,(cT t).length<=3*t.size
 | .nil=>by simp[cT,T.size]
 | .var n=>by simp[cT,T.size]
 | .sym s=>by simp[cT,T.size]
 | .num n=>by simp[cT,T.size]
 | .pair a b=>by have I:=Ad a;have J:=GF b;simp only[cT,T.size,ir,e0];omega
theorem GF:∀t:T,(eE t).length<=3*t.size
 | .nil=>by simp[eE,T.size]
 | .var n=>by simp[eE,T.size]
 | .sym s=>by simp[eE,T.size]
 | .num n=>by simp[eE,T.size]
 | .pair a b=>by have I:=Ad a;have J:=GF b;simp only[eE,T.size,e0];omega
end
structure fh (s t:List aN):Prop where
 sa:gU s
 sv:∀b∈s,4<=b.v/\b.v<8
 so:∀b∈s,b.t.ok=true/\b.t.size<=16/\∀w,b.t.occ w=true->0<=w/\w<4
 ta:gU t
 tk:∃k:Int,∀b∈t,0<=b.v/\b.v<4/\k<=b.v/\∀w,b.t.occ w=true->0<=w/\w<k
 to:∀b∈t,b.t.ok=true/\b.t.size<=16
def jh(t:List aN)(b:aN):aN:=⟨b.v,b.t.ap (cK t)⟩
def fF(s t:List aN):List aN:=t++s.map (jh t)
theorem AH{s:List aN}(h:gU s){a:Int}{n:Nat}(aH:∀b∈s,a<=b.v/\b.v<a+n):s.length<=n:=by
 induction n generalizing s a with
 |zero=>
  cases s with
  |nil=>simp
  |cons b r=>have:=aH b Ψ;omega
 |succ n bz=>
  cases s with
  |nil=>simp
  |cons b r=>
   have be:=List.pairwise_cons.1 h;have:=bz (s:=r) (a:=a+1) be.2 fun c al=>by have I:=be.1 c al;have J:=aH b Ψ;have aj:=aH c (by simp[al]);omega
   simp;omega
theorem AM(a b:List aN)(v:Int):eJ (a++b) v=(eJ a v).or (eJ b v):=by
 induction a with
 |nil=>rfl
 |cons x r bz=>rw[cN,oR,oR,bz];split<;>rfl
theorem AL(t s:List aN)(v:Int):eJ (s.map (jh t)) v=(eJ s v).map fun x=>x.ap (cK t):=by
 induction s with
 |nil=>rfl
 |cons x r bz=>rw[eU,oR,oR,bz];show(if x.v=v then _ else _)=_;split<;>rfl
section
variable {s t:List aN} (h:fh s t)
include h
theorem fh.tf:nR t:=by
 obtain⟨k,U⟩:=h.tk;refine⟨h.ta,fun b aa w hw=>?_,fun b aa w hw=>?_⟩
 ·rw[qf];intro c al e;have I:=U b aa;have J:=U c al;have:=I.2.2.2 w hw;omega
 ·have I:=U b aa;have:=I.2.2.2 w (by rw[hw];simp[T.occ]);omega
theorem fh.sf:nR s:=by
 refine⟨h.sa,fun b aa w hw=>?_,fun b aa w hw=>?_⟩
 ·rw[qf];intro c al e;have I:=(h.so b aa).2.2 w hw;have J:=h.sv c al;omega
 ·have I:=(h.so b aa).2.2 w (by rw[hw];simp[T.occ]);have:=h.sv b aa;omega
theorem fh.sg_u(v:Int):cK (fF s t) v=(cK s v).ap (cK t):=by
 have ck:∀b∈t,b.v<4:=by obtain⟨k,U⟩:=h.tk;exact fun b aa=>(U b aa).2.1
 unfold fF;rw[cK,AM,AL];cases af:eJ s v with
 |none=>
  have:cK s v= .var v:=by simp[cK,af]
  rw[this];show _=cK t v;rw[cK];cases eJ t v<;>rfl
 |some x=>
  have aH:=h.sv _ (nS af);have az:eJ t v=none:=by rw[qf];intro b aa e;have:=ck b aa;simp only at aH;omega
  rw[az];simp[cK,af]
theorem fh.ap_u(x:T):(x.ap (cK s)).ap (cK t)=x.ap (cK (fF s t)):=by rw[Ha];exact wG fun v _=>(h.sg_u v).symm
theorem fh.asc:gU (fF s t):=by
 unfold fF gU;rw[List.pairwise_append];refine⟨h.ta,?_,fun a bE b aa=>?_⟩
 ·rw[List.pairwise_map];exact h.sa
 ·obtain⟨c,al,rfl⟩:=ku.1 aa;obtain⟨k,U⟩:=h.tk;have I:=U a bE;have J:=h.sv c al;show a.v<c.v;omega
theorem fh.occ_t{x:T}(ad:∀w,x.occ w=true->0<=w/\w<4){w:Int}(hw:(x.ap (cK t)).occ w=true):(0<=w/\w<4)/\eJ t w=none:=by
 have aF:=Pe h.tf hw;refine⟨?_,aF⟩;obtain⟨v,I,J⟩:=Ev.1 hw;have aH:=ad v I;unfold cK at J;cases aa:eJ t v with
 |none=>rw[aa]at J;simp[T.occ]at J;omega
 |some y=>rw[aa]at J;obtain⟨k,U⟩:=h.tk;have:=U _ (nS aa);have aj:=this.2.2.2 w J;simp only at this;omega
theorem fh.solved:nR (fF s t):=by
 obtain⟨k,U⟩:=h.tk;have DI:∀w:Int,w<4->eJ (s.map (jh t)) w=none:=fun w hw=>by
  rw[AL];have:eJ s w=none:=by rw[qf];intro b aa e;have:=h.sv b aa;omega
  rw[this];rfl
 refine⟨h.asc,fun b aa w hw=>?_,fun b aa w hw=>?_⟩
 ·unfold fF at aa⊢;rw[AM];rcases ht.1 aa with aa|aa
  ·have I:=U b aa;have J:=I.2.2.2 w hw;rw[h.tf.free b aa w hw,DI w Ω];rfl
  ·obtain⟨c,al,rfl⟩:=ku.1 aa;obtain⟨I,J⟩:=h.occ_t (h.so c al).2.2 hw;rw[J,DI w I.2];rfl
 ·unfold fF at aa;rcases ht.1 aa with aa|aa
  ·exact h.tf.ori b aa w hw
  ·obtain⟨c,al,rfl⟩:=ku.1 aa;have om:(c.t.ap (cK t)).occ w=true:=by have:c.t.ap (cK t)= .var w:=hw;rw[this];simp[T.occ]
   have I:=(h.occ_t (h.so c al).2.2 om).1;have J:=h.sv c al;show w<c.v;omega
theorem fh.okT:pI t:=by obtain⟨k,U⟩:=h.tk;exact fun b aa=>⟨by have:=U b aa;omega,(h.to b aa).1⟩
theorem fh.okS':pI s:=fun b aa=>⟨by have:=h.sv b aa;omega,(h.so b aa).1⟩
theorem fh.ok:pI (fF s t):=by
 intro b aa;unfold fF at aa;rcases ht.1 aa with aa|aa
 ·exact h.okT b aa
 ·obtain⟨c,al,rfl⟩:=ku.1 aa;exact⟨(h.okS' c al).1,F0 h.okT (h.so c al).1⟩
end
theorem rR{la:Int->T}{m:Nat}(hm:1<=m)(yw:∀v,(la v).size<=m):∀t:T,(t.ap la).size<=t.size*m
 | .nil| .sym _| .num _=>by simp[T.ap,T.size];omega
 | .var v=>by simp only[T.ap,T.size];have:=yw v;omega
 | .pair a b=>by have I:=rR hm yw a;have J:=rR hm yw b;simp only[T.ap,T.size,Nat.add_mul];omega
theorem F1{s:List aN}{m:Nat}(hm:1<=m)(h:∀b∈s,b.t.size<=m)(v:Int):(cK s v).size<=m:=by
 unfold cK;cases e:eJ s v with
 |none=>simpa[T.size]using hm
 |some x=>exact h _ (nS e)
section
variable {s t:List aN} (h:fh s t)
include h
theorem fh.tsz(v:Int):(cK t v).size<=16:=F1 Ω (fun b aa=>(h.to b aa).2) v
theorem fh.ssz(v:Int):(cK s v).size<=16:=F1 Ω (fun b aa=>(h.so b aa).2.1) v
theorem fh.usz:∀b∈fF s t,b.t.size<=256:=by
 intro b aa;unfold fF at aa;rcases ht.1 aa with aa|aa
 ·have:=(h.to b aa).2;omega
 ·obtain⟨c,al,rfl⟩:=ku.1 aa;have I:=rR Ω h.tsz c.t;have J:=(h.so c al).2.1;have aj:c.t.size*16<=16*16:=l1 _ J;show(c.t.ap (cK t)).size<=256;omega
theorem fh.len:s.length<=4/\t.length<=4:=by obtain⟨k,U⟩:=h.tk;exact⟨AH h.sa (a:=4) (n:=4) fun b aa=>by have:=h.sv b aa;omega,AH h.ta (a:=0) (n:=4) fun b aa=>by have:=U b aa;omega⟩
theorem fh.ulen:(fF s t).length<=8:=by have:=h.len;simp[fF];omega
theorem fh.fits:p7 (fF s t):=⟨by have:=h.ulen;omega,fun b aa=>by have:=h.usz b aa;omega⟩
theorem fh.fitS':p7 s:=⟨by have:=h.len;omega,fun b aa=>by have:=(h.so b aa).2.1;omega⟩
theorem fh.fitT:p7 t:=⟨by have:=h.len;omega,fun b aa=>by have:=(h.to b aa).2;omega⟩
theorem fh.keep:∀b∈s,b.t.ap (cK t)≠ .var b.v:=by
 intro b aa e;have hw:(b.t.ap (cK t)).occ b.v=true:=by rw[e];simp[T.occ]
 have I:=(h.occ_t (h.so b aa).2.2 hw).1;have:=h.sv b aa;omega
theorem fh.free:∀b∈t,eJ s b.v=none:=by obtain⟨k,U⟩:=h.tk;intro b aa;rw[qf];intro c al e;have:=U b aa;have:=h.sv c al;omega
theorem fh.mg:∀b∈s,(T.var b.v).ap (cK (fF s t))=b.t.ap (cK (fF s t)):=by intro b aa;rw[<-h.ap_u,<-h.ap_u];congr 1;show cK s b.v=_;rw[cK,AN h.sa aa,Pd h.sf fun w hw=>h.sf.free b aa w hw];rfl
end
theorem Hv{l:List aN}(aa:∀b∈l,(0<=b.v/\b.v<=100000)/\b.t.fit=true):∀r:List aX,iu r->l≠[]->ee (h7 l++r)=(l.flatMap fun b=>cT (.var b.v)++cT b.t)++ee r:=by
 induction l with
 |nil=>intro r _ h;exact absurd rfl h
 |cons b l bz=>
  intro r he _;have I:=aa b Ψ;by_cases ar:l=[]
  ·subst ar;simp only[h7,h4,lf,List.flatMap_nil,List.append_nil,fo,jb,cN,dx];rw[pU _ _ (mi (rC I.1)) (by simp[iu,kC]),rs,pU _ _ (mi I.2) he]
  ·have J:=bz (fun c al=>aa c (by simp[al])) r he ar;have aC:h4 l≠[]:=by
    cases l with
    |nil=>exact absurd rfl ar
    |cons c l=>simp[h4]
   obtain⟨y,eA,b6⟩:∃y eA,h4 l=y::eA:=List.exists_cons_of_ne_nil aC;have e:h7 (b::l)=b2 (.var b.v)++([32]++(b2 b.t++([32]++h7 l))):=by show fo [32] (b2 (.var b.v)::b2 b.t::h4 l)=_;rw[h7,b6];simp only[fo,jb]
   rw[e];simp only[jb,cN,dx];rw[pU _ _ (mi (rC I.1)) (by simp[iu,kC]),rs,pU _ _ (mi I.2) (by simp[iu,kC]),rs,J];simp
theorem Ch{l:List aN}{m:Nat}(aa:∀b∈l,(0<=b.v/\b.v<=100000)/\b.t.ok=true/\b.t.size<=m):(h7 l).length<=l.length*(26*m+28):=by
 have key:∀L:List (List aX),(fo [32] L).length<=(L.map fun x=>x.length+1).sum:=by
  intro L;induction L with
  |nil=>simp[fo]
  |cons x r bz=>
   cases r with
   |nil=>simp[fo]
   |cons y r=>simp only[fo,e0,eU,List.sum_cons,List.length_singleton]at bz⊢;omega
 refine Nat.le_trans (key _) ?_;clear key;induction l with
 |nil=>simp[h4]
 |cons b l bz=>
  have I:=aa b Ψ;have J:=bz fun c al=>aa c (by simp[al]);have aj:=r7 b.t I.2.1;have aO:(b2 (.var b.v)).length<=26:=by have:=r7 (.var b.v) (mi (rC I.1));simpa[T.size]using this
  have bs:26*b.t.size<=26*m:=Nat.mul_le_mul_left _ I.2.2;simp only[h4,lf,cN,dx,eU,List.sum_cons,ir,Nat.add_mul]at J⊢;omega
theorem NH{l:List aN}(aa:∀b∈l,(0<=b.v/\b.v<=100000)/\b.t.ok=true):jR (h7 l):=by
 unfold h7;refine Ey _ fun x ad=>?_;obtain⟨b,dd,ad⟩:=List.mem_flatMap.1 ad;have:=aa b dd;simp only[ft,List.not_mem_nil,or_false]at ad;rcases ad with rfl|rfl
 ·exact vu _ (mi (rC this.1))
 ·exact vu _ this.2
def vC(s:List aX):aW (List aN):=match iI s with
 |none=>none
 |some l=>mF l.length l
theorem OF{l:List aN}(ar:l.length<=8)(aa:∀b∈l,(0<=b.v/\b.v<=100000)/\b.t.ok=true/\b.t.size<=256):vC (h7 l)=some l:=by
 have aF:∀b∈l,(0<=b.v/\b.v<=100000)/\b.t.fit=true:=fun b ad=>⟨(aa b ad).1,by have:=aa b ad;unfold T.fit;rw[this.2.1];simp;omega⟩
 have hlen:=Ch (m:=256) aa;have I:(h7 l).length<=8*6684:=Nat.le_trans hlen (l1 _ ar);have az:ee (h7 l)=l.flatMap fun b=>cT (.var b.v)++cT b.t:=by
  by_cases ck:l=[]
  ·subst ck;simp[h7,h4,fo,rq]
  ·have:=Hv aF [] B9 ck;simpa[rq]using this
 have hw:∀b∈l,(cT (.var b.v)++cT b.t).length<=800:=by intro b ad;have J:=pU b.t [] (aa b ad).2.1 B9;simp only[List.append_nil,rq]at J;have aj:=Ad b.t;have:=(aa b ad).2.2;simp only[e0,cT,List.length_singleton];omega
 have aU:(ee (h7 l)).length<=20000:=by
  rw[az];have:∀l:List aN,(∀b∈l,(cT (.var b.v)++cT b.t).length<=800)->(l.flatMap fun b=>cT (.var b.v)++cT b.t).length<=l.length*800:=by
   intro l;induction l with
   |nil=>intro _;simp
   |cons b l bz=>intro hw;have J:=bz fun c al=>hw c (by simp[al]);have aj:=hw b Ψ;rw[lf,e0,ir,Nat.add_mul];omega
  have J:=this l hw;have aj:l.length*800<=8*800:=l1 _ ar;omega
 unfold vC;have:iI (h7 l)=some (ee (h7 l)):=by unfold iI;rw[cX ⟨Ω,NH fun b ad=>⟨(aa b ad).1,(aa b ad).2.1⟩,aU⟩]
 rw[this];simp only;rw[az];refine Fz l _ aF ?_;clear az aU this I hlen hw aF aa ar;induction l with
 |nil=>simp
 |cons b l bz=>have I:(cT (.var b.v)).length=1:=rfl;rw[lf,e0,e0,ir,I];omega
end
end Go.Pv
namespace Go.Proofs.YtlnndmgfngfeiaaGreatDoor
section
open Go Go.Pv
theorem Ju(t:T)(h:t.ok=true):b2 t≠[]:=by
 cases t with
 |sym s=>simp only[b2];exact vn (by simpa[T.ok]using h)
 |num n=>simp only[b2];exact jP n
 |_=>simp[b2]
theorem Jt{t:T}(h:t.fit=true):(b2 t).length<=bF:=by
 have I:=r7 t (mi h);have J:t.size<=5000:=by unfold T.fit at h;simp at h;exact h.2
 unfold bF;omega
theorem Gm(t:T)(h:t.fit=true):c8 aI 85 [t.e] (.str (b2 t)):=by have nc:=z6 t;rw[h]at nc;have kw:=KP t.size t (dY _) (mi h) none (by simpa using Jt h);have cD:=Ju t (mi h);refine dS gq Jz NO fun bn=>?_;unfold A8;simp;((with_reducible repeat' first|refine a6 ?_|refine b8 nc ?_|refine b9 nc ?_|simp|((first|apply dz|apply dN|apply dM)<;>intro h<;>try simp at h))<;>(try exact iJ));refine bh.bd (o:=none) kw (by simp only[bb,a7,aE,aL];exact ak) (by simp only[bb,a7,aE,aL];exact ak) (by simp[au,Pv.look,bb,a7,aE,aL,aD,aB]) Ψ ?_;simp[ba,bb,a7,aE,aL];refine NF (b2 t) cD (by simp[aL,Pv.look]) (by simp[Pv.look]) ?_;simp;simp[dy,E1,bq,bA,bp]
theorem AY:∀l:List aX,jH (dZ l)=some l
 |[]=>rfl
 |c::l=>by have:=AY l;simp only[dZ,eU,jH]at this⊢;rw[this];simp
def fE(l:List (List aX)):List ae:=l.map ae.str
@[simp]theorem MX(S:av->Prop)(l:List (List aX)):aD S (fE l)=True:=by
 apply eq_true;induction l with
 |nil=>simp[fE,aD]
 |cons x r bz=>simp only[fE,eU,aD,aB]at bz⊢;exact⟨trivial,bz⟩
@[simp]theorem SM(l:List (List aX)):bR (fE l)=fE l:=by
 induction l with
 |nil=>rfl
 |cons x r bz=>simp only[fE,eU,bR,b7]at bz⊢;rw[bz]
@[simp]theorem SR(l:List (List aX)):(fE l).length=l.length:=by simp[fE]
theorem F5{l:List (List aX)}{i:Nat}(h:i<l.length):∀b3,(fE l)[i]'b3= .str l[i]:=fun _=>by simp[fE]
theorem dO(S:av->Prop):∀a b:List ae,aD S (a++b)=(aD S a/\aD S b)
 |[],b=>by simp[aD]
 |x::a,b=>by simp only[cN,aD,dO S a b,and_assoc]
theorem DW(b:List aX):∀(l:List (List aX)) (k:Nat),(fo b (l.take k)).length<=(fo b l).length
 |[],k=>by simp
 |[x],k=>by cases k<;>simp[fo]
 |x::y::r,0=>by simp[fo]
 |x::y::r,1=>by simp[fo]
 |x::y::r,k+2=>by have:=DW b (y::r) (k+1);simp only[List.take_succ_cons,fo,e0]at this⊢;omega
theorem PF(l:List (List aX))(b:List aX)(ar:(fo b l).length<=bF):c8 aI 87 [.slice 1 .no (fE l),.str b] (.str (fo b l)):=by
 refine dS gq JB NQ fun bn=>?_;unfold Ba;have aa:l.length<=bF/\b.length<=bF:=by simpa[mO,kB,ln]using bn
 clear bn;simp;((with_reducible repeat' first|refine a6 ?_|simp|((first|apply dz|apply dN|apply dM)<;>intro h<;>try simp at h))<;>(try exact iJ));refine oW (fun i (acc:List aX)=>⟨[(1,.str b),(9,.slice 1 .no (fE l)),(10,.int .i64 l.length),(5,.row 1 (.loc 0) acc.length),(11,.int .i64 i)],[],[(.loc 0,⟨acc.length,5,1,some (dZ acc)⟩)],1,[]⟩) l.length (fun i acc=>acc=fo b (l.take i)) [] (by simp[show dZ []=[]from rfl];exact⟨by simp[fresh,aD,aB,c6,au,Pv.look,hb],e9 (by simp[fresh,aD,aB,c6,au,Pv.look,hb]),ff (by simp[fresh,aD,aB,eQ,au,Pv.look,hb]),Ψ⟩) (by simp[fo]) (fun acc aC _=>?_) (fun i acc aM aC _=>?_)
 ·rw[List.take_of_length_le (dY _)]at aC;subst aC;simp;(with_reducible repeat' first|refine a6 ?_|simp);simp[nP,nz,AY];simp[dy,E2,bq,bA,bp]
 ·obtain⟨x,ad⟩:∃x,l[i]? =some x:=⟨_,eo aM⟩;have fm:∀h,(fE l)[i]'h= .str x:=fun h=>by rw[F5 aM,eo aM]at*;cases ad;rfl
  have hle:=DW b l (i+1);have qD:=MT b l ad;rw[qD]at hle;have dd:(dZ acc).length=acc.length:=by simp[dZ]
  have fk:c1 ((i:Int)+1):=by unfold c1;have:=aa.1;unfold bF at this;omega
  by_cases ck:i=0
  ·rw[cX ck]at hle qD;have sd:¬0<i:=Ω
   have uA:acc=[]:=by rw[aC,ck];simp[fo]
   have kJ:acc.length+x.length<=bF:=by rw[uA];simp;omega
   simp[aM,fm];(with_reducible repeat' first|refine a6 ?_|simp[aM,fm,sd,dd,kJ]);refine dD.rng (acc++x) aM (by rw[uA];exact qD.symm) ?_;exact⟨by simp[fresh,aD,aB,c6,au,Pv.look,hb,oT,dO],e9 (by simp[fresh,aD,aB,c6,au,Pv.look,hb,oT,dO]),ff (by simp[fresh,aD,aB,eQ,au,Pv.look,hb,oT,dO]),Ψ⟩
  ·rw[bT ck]at hle qD;have sd:0<i:=Ω
   rw[<-aC]at hle qD;simp only[e0]at hle;have kJ:acc.length+b.length<=bF:=Ω
   have j7:acc.length+b.length+x.length<=bF:=Ω
   have K9:(dZ acc++dZ b).length=acc.length+b.length:=by simp[dZ]
   simp[aM,fm];(with_reducible repeat' first|refine a6 ?_|simp[aM,fm,sd,dd,kJ,j7,K9]);refine dD.rng (acc++b++x) aM qD.symm ?_;exact⟨by simp[fresh,aD,aB,c6,au,Pv.look,hb,oT,Nat.add_assoc,dO],e9 (by simp[fresh,aD,aB,c6,au,Pv.look,hb,oT,Nat.add_assoc,dO]),ff (by simp[fresh,aD,aB,eQ,au,Pv.look,hb,oT,Nat.add_assoc,dO]),Ψ⟩
def vz(o:aW Int):ae:= .tuple [.int .i64 (o.getD 0),.bool o.isSome]
theorem Gq(s:List aX)(ar:s.length<=bF):c8 aI 179 [.str s] (vz (kY s)):=by
 have kS:=PC s ar;unfold oP at kS;unfold kY vz;rcases h:Lib.atoiAll s with v|_|_
 ·rw[h]at kS;obtain⟨Hr,bJ⟩:=Lib.atoiAll_bounds h;have yC:=Gp v (by unfold c1;omega);simp only at kS⊢;by_cases he:Lib.itoa v=s
  ·rw[cX he];rw[he]at yC;refine dS gq ug vw fun bn=>?_;unfold rV;exact ij
  ·rw[bT he];refine dS gq ug vw fun bn=>?_;unfold rV;simp;((with_reducible repeat' first|refine a6 ?_|refine b8 kS ?_|refine b9 kS ?_|refine b8 yC ?_|refine b9 yC ?_|simp[he]|((first|apply dz|apply dN|apply dM)<;>intro h<;>try simp at h))<;>(try exact iJ));simp[dy,E4,bq,bA,bp]
 ·rw[h]at kS;simp only at kS⊢;refine dS gq ug vw fun bn=>?_;unfold rV;exact ij
 ·rw[h]at kS;simp only at kS⊢;refine dS gq ug vw fun bn=>?_;unfold rV;exact ij
theorem iZ(v:Int):c8 aI 86 [.int .i64 v] (T.var v).e:=by refine dS gq JX Oc fun bn=>?_;unfold Bw;exact ij
theorem GA(g:List aX):c8 aI 207 [.str g] (T.sym g).e:=by refine dS gq JU N9 fun bn=>?_;unfold Bt;exact ij
theorem wi(k:Int):c8 aI 208 [.int .i64 k] (T.num k).e:=by refine dS gq JM N1 fun bn=>?_;unfold Bl;exact ij
theorem Ei{l:List T}{i:Nat}{x:T}(h:l[i]? =some x)(t:T):gd (l.drop i) t= .pair x (gd (l.drop (i+1)) t):=by rw[jJ h];rfl
def qP(l:List T)(k:Nat):List ae:=if k=l.length then cp else cells (gd (l.drop k) .nil).e
theorem M4(l:List T){k:Nat}(h:k<=l.length):∃a b c d,qP l k=[.int .i64 a,.int .i64 b,.str c,d]/\(∀S:av->Prop,aB S d=True)/\ae.agg [.int .i64 a,.int .i64 b,.str c,b7 d]=(gd (l.drop k) .nil).e:=by
 unfold qP;split
 ·rename_i h;rw[h,List.drop_length];exact⟨0,0,[],.slice 4 .nil [],rfl,fun S=>by simp[aB,aD],rfl⟩
 ·rw[HJ];refine⟨_,_,_,_,rfl,fun S=>by simp[aB],?_⟩;simp[b7]
theorem PQ(l:List T):c8 aI 205 [.slice 4 .no (l.map T.e)] (gd l .nil).e:=by
 refine dS gq JJ NY fun bn=>?_;unfold Bi;have aa:l.length<=bF:=by simpa[mO,kB,ln]using bn
 have o5:c1 ((l.length:Int)-1):=by unfold c1;unfold bF at aa;omega
 clear bn;simp[o5];(with_reducible repeat' first|refine a6 ?_|simp[o5]);refine kH (fun j:Int=>⟨[(0,.slice 4 .no (l.map T.e)),(2,.ptr (.loc 0) 0),(3,.ptr (.loc 1) 0),(4,.int .i64 j)],[(.loc 0,cp),(.loc 1,qP l (j+1).toNat)],[],2,[]⟩) (fun j=>(j+1).toNat) (fun j=> -1<=j/\j<l.length) (l.length-1) (by simp[qP];exact⟨by simp[fresh,aD,aB,c6,au,Pv.look,cp],e9 (by simp[fresh,aD,aB,c6,au,Pv.look,cp]),ff (by simp[fresh,aD,aB,eQ,au,Pv.look,cp]),Ψ⟩) ⟨Ω,Ω⟩ ?_;rintro j ⟨Rt,Ru⟩ _;obtain⟨k,U⟩:∃k,k=(j+1).toNat:=⟨_,rfl⟩;have uM:k<=l.length:=Ω
 simp only[<-U];obtain⟨cZ,P1,h2,P2,ed,DP,dT⟩:=M4 l uM;rw[ed];have sw:c1 (j-1):=by unfold c1;unfold bF at aa;omega
 by_cases nj:0<=j
 ·obtain⟨n,rfl⟩:∃n:Nat,j=n:=⟨j.toNat,Ω⟩;obtain rfl:k=n+1:=Ω
  have aU:n<l.length:=Ω
  obtain⟨x,ad,DM⟩:=lr aU;have ig:=wj x (gd (l.drop (n+1)) .nil);simp[aU,DM];(with_reducible repeat' first|refine a6 ?_|refine b8 ig ?_|refine b9 ig ?_|simp[aU,DM,dT,DP,sw]);refine dD.whl ((n:Int)-1) Ω ⟨Ω,Ω⟩ ?_;have ai:((n:Int)-1+1).toNat=n:=Ω
  have aK:qP l n=cells (gd (l.drop n) .nil).e:=by unfold qP;rw[bT Ω]
  rw[ai,aK,Ei ad];exact⟨by simp[fresh,aD,aB,c6,au,Pv.look,cp],e9 (by simp[fresh,aD,aB,c6,au,Pv.look,cp]),ff (by simp[fresh,aD,aB,eQ,au,Pv.look,cp]),Ψ⟩
 ·obtain rfl:j= -1:=Ω
  obtain rfl:k=0:=Ω
  have Ml:ae.agg [ae.int kr cZ,ae.int kr P1,ae.str h2,b7 P2]=(gd l .nil).e:=dT;simp;simp[dy,E9,bq,bA,bp,b7,bR,Ml,DP,aB,aD]
def pC(t:List aN)(b:aN):Bool:=decide (cK t b.v=b.t.ap (cK t))
def pE(s t:List aN):Bool:=s.all (pC t)
theorem Pf{t:List aN}(az:jz t)(v:Int):(cK t v).size<=5000:=by
 unfold cK;cases e:eJ t v with
 |none=>simp[T.size]
 |some x=>exact az.fits.2 _ (nS e)
theorem PR(s:List aN){t:List aN}(af:s.length<=1000000)(az:jz t):c8 aI 81 [.slice 5 .no (s.map aN.e),.slice 5 .no (t.map aN.e)] (.bool (pE s t)):=by
 refine dS tB JK NZ fun bn=>?_;unfold Bj;simp;refine IZ [1,11,12] (fun i (_:Unit)=>[(13,.int .i64 i)]) s.length (sS (pC t) s) () gE (fun k b U=>Ω) (fun _ aC _=>?_) (fun i _ aM aC _=>?_)
 ·have:pE s t=true:=by rw[pE,ld];intro b aa;obtain⟨k,U,e⟩:=List.getElem_of_mem aa;exact aC k b U (by rw[eo U,e])
  rw[this];exact ij
 ·obtain⟨b,aH,fm⟩:=lr aM;have lx:pC t b=false->pE s t=false:=fun h=>by rw[Bool.eq_false_iff];intro b3;rw[pE,ld]at b3;rw[b3 b (List.mem_of_getElem? aH)]at h;cases h
  have cl:=wk t (.var b.v) az.len az.sol.asc az.fit;have cy:=wk t b.t az.len az.sol.asc az.fit;have u3:=Pf az b.v;have DN:((T.var b.v).ap (cK t)).size<=5000:=u3;rw[cX DN,decide_eq_true DN]at cl;rw[show(T.var b.v).ap (cK t)=cK t b.v from rfl]at cl;simp[aM,fm];by_cases ed:(b.t.ap (cK t)).size<=5000
  ·rw[cX ed,decide_eq_true ed]at cy;by_cases he:cK t b.v=b.t.ap (cK t)
   ·rw[he]at cl;((with_reducible repeat' first|refine a6 ?_|refine b8 (iZ _) ?_|refine b9 (iZ _) ?_|refine b8 cl ?_|refine b9 cl ?_|refine b8 cy ?_|refine b9 cy ?_|refine b8 (rA _ _) ?_|refine b9 (rA _ _) ?_|simp[fm,aM,he]|((first|apply dz|apply dN|apply dM)<;>intro h<;>try simp at h))<;>(try exact iJ));exact dD.rng () aM (aC.step aH (by simp[pC,he])) gE
   ·rw[lx (by simp[pC,he])];((with_reducible repeat' first|refine a6 ?_|refine b8 (iZ _) ?_|refine b9 (iZ _) ?_|refine b8 cl ?_|refine b9 cl ?_|refine b8 cy ?_|refine b9 cy ?_|refine b8 (rA _ _) ?_|refine b9 (rA _ _) ?_|simp[fm,aM,he]|((first|apply dz|apply dN|apply dM)<;>intro h<;>try simp at h))<;>(try exact iJ));simp[dy,zh,bq,bA,bp]
  ·rw[bT ed,decide_eq_false ed]at cy;rw[lx (by simp only[pC,decide_eq_false_iff_not];intro e;rw[<-e]at ed;exact ed u3)];((with_reducible repeat' first|refine a6 ?_|refine b8 (iZ _) ?_|refine b9 (iZ _) ?_|refine b8 cl ?_|refine b9 cl ?_|refine b8 cy ?_|refine b9 cy ?_|refine b8 (rA _ _) ?_|refine b9 (rA _ _) ?_|simp[fm,aM]|((first|apply dz|apply dN|apply dM)<;>intro h<;>try simp at h))<;>(try exact iJ));simp[dy,zh,bq,bA,bp]
def wR:C:=(ao [cA 2 false] (.seq (ao [ag 16 0,fC 17 16,bI 18 .gtr 17 1048576] (bK 18 (ao [cA 2 true] .ret) .skip)) (ao [ag 19 0,h2 20 15 [.t 19,(eF 0)],ag 3 20] (ao [ag 21 0,h2 22 16 [.t 21,(eF 20)],ag 4 22] (ao [ag 23 0,h2 24 17 [.t 23,(eF 40),(eF 8),(eF 8)],ea 5 cp,bZ 4 5 24] (ao [ag 26 3,ag 27 4,du 28 18 26 27,ag 25 28,en 29 0 25,en 30 1 25,ag 6 29,ag 7 30] (ao [ag 32 3,ct 33 4 5,du 34 19 32 33,ag 31 34,en 35 0 31,en 36 1 31,ea 8 cp,bZ 4 8 35,ag 9 36] (.seq (ao [ag 37 7,eY 38 37,ag 39 38,cQ 39 false 40 6,bc 39 false (cZ 41 20 40),bc 39 false (eY 42 41),eC 43 39 42,ag 44 43,cQ 44 false 45 3,cQ 44 false 46 6,bc 44 false (du 47 21 45 46),bc 44 false (eY 48 47),eC 49 44 48] (bK 49 (ao [cA 2 false] .ret) .skip)) (ao [ag 51 4,ct 52 4 8,du 53 19 51 52,ag 50 53,en 54 0 50,en 55 1 50,ea 10 cp,bZ 4 10 54,ag 11 55] (ao [ag 57 6,ct 58 4 5,du 59 19 57 58,ag 56 59,en 60 0 56,en 61 1 56,ea 12 cp,bZ 4 12 60,ag 13 61] (ao [ag 63 6,cZ 64 23 63,cZ 65 22 64,ag 62 65,en 66 0 62,en 67 1 62,ag 14 66,ag 15 67] (ao [ag 68 9,ag 69 68,cQ 69 true 70 11,gp 71 69 70,ag 72 13,bC 73 (.beq false none (.t 71) (.t 72)),ag 74 73,cQ 74 true 75 13,bc 74 true (eY 76 75),cQ 74 true 77 76,bc 77 false (ct 78 4 10),bc 77 false (ct 79 4 12),bc 77 false (du 80 24 78 79),bc 74 true (eC 81 77 80),gp 82 74 81,ag 83 82,cQ 83 true 84 15,gp 85 83 84,ag 86 85,cQ 86 true 87 14,cQ 86 true 88 6,bc 86 true (du 89 25 87 88),gp 90 86 89,ag 2 90] .ret))))))))))))
@[simp] def Fh:List cm:=[.tmp 2]
def BB:C:=(ao [ja 4 5] (ao [ag 5 0,ag 6 1,du 7 70 5 6,cZ 8 69 7,ag 4 8] .ret))
@[simp] def Fl:List cm:=[.tmp 4]
def BA:C:=(ao [ja 4 5] (ao [ag 5 0,ag 6 1,du 7 70 5 6,cZ 8 71 7,ag 4 8] .ret))
@[simp] def Fk:List cm:=[.tmp 4]
def A5:C:=(ao [ja 4 5,cA 5 false] (.seq (ao [ag 13 0,cZ 14 20 13,eY 15 14,ag 16 15,cQ 16 false 17 1,bc 16 false (cZ 18 20 17),bc 16 false (eY 19 18),eC 20 16 19] (bK 20 (ao [ja 4 5,cA 5 false] .ret) .skip)) (ao [eT (.bslm 21 (some 872) 5 120 []),ag 6 21] (.seq (ao [ag 22 0,fC 23 22,dH 24 0] (oM 25 24 23 (.seq (.block 1 (ao [hc 26 5 22 24,ct 27 5 26,ea 8 kV,bZ 5 8 27] (ao [ag 29 1,lR 30 1 4 8,ct 31 4 30,du 32 73 29 31,ag 28 32,en 33 0 28,en 34 1 28,ea 9 cp,bZ 4 9 33,ag 10 34] (.seq (ao [ag 35 10,eY 36 35] (bK 36 (ao [ja 4 5,cA 5 false] .ret) .skip)) (ao [bB 37 0 1 9,bm 38 1 37,bI 39 .neq 38 1,ag 40 39,bc 40 false (bB 41 1 1 9),bc 40 false (bm 42 1 41),bc 40 false (bB 43 0 1 8),bc 40 false (bm 44 1 43),bc 40 false (ek 45 .neq 42 44),eC 46 40 45] (bK 46 (.region [ag 47 6,bB 48 0 1 8,bm 49 1 48,ct 50 4 9,gF 51 kV [(0,1,(.t 49)),(1,4,(.t 50))],iq 52 5 120 [.t 51],eT (.appm 53 none 5 120 (.t 47) (.t 52)),ag 6 53]) .skip)))))) (.region [bI 54 .add 24 1,ag 24 54])))) (.seq (ao [ag 55 1,fC 56 55,dH 57 0] (.block 2 (.loop (ao [ek 58 .lss 57 56] (.seq (bK 58 .skip (.exit 2)) (.seq (.block 3 (ao [hc 59 5 55 57,ct 60 5 59,ea 12 kV,bZ 5 12 60] (ao [ag 61 0,bB 62 0 1 12,bm 63 1 62,du 64 74 61 63,bI 65 .lss 64 0] (bK 65 (.drawn true 82 [ag 66 6,bB 67 0 1 12,bm 68 1 67,lR 69 1 4 12,ct 70 4 69,cZ 71 75 70,gF 72 kV [(0,1,(.t 68)),(1,4,(.t 71))],iq 73 5 120 [.t 72],eT (.appm 74 none 5 120 (.t 66) (.t 73)),ag 6 74]) .skip)))) (.region [bI 75 .add 57 1,ag 57 75]))))))) (ao [ag 76 6,cZ 77 76 76] (.seq (.seq (.pub 6 (.region [ag 78 6,cZ 79 20 78,eY 80 79])) (bK 80 (ao [ja 4 5,cA 5 false] .ret) .skip)) (ao [ag 81 6,ag 4 81,cA 5 true] .ret))))))))
@[simp] def EZ:List cm:=[.tmp 4,.tmp 5]
def A4:C:=(ao [hf 3 1,ea 4 cp,cA 5 false] (.seq (ao [ag 6 0,cZ 7 20 6,eY 8 7,ag 9 8,bc 9 false (ct 10 4 3),bc 9 false (cZ 11 77 10),bc 9 false (eY 12 11),eC 13 9 12] (bK 13 (ao [gF 14 cp [],bZ 4 4 14,cA 5 false] .ret) .skip)) (ao [ag 15 0,ct 16 4 3,du 17 73 15 16,en 18 0 17,en 19 1 17,bZ 4 4 18,ag 5 19] .ret)))
@[simp] def OS:List cm:=[.cell 4 true 4,.tmp 5]
def Bb:C:=(ao [cA 4 false] (ao [ag 5 0,cZ 6 20 5,ag 7 6,cQ 7 true 8 1,bc 7 true (cZ 9 20 8),gp 10 7 9,ag 11 10,cQ 11 true 12 0,cQ 11 true 13 1,bc 11 true (du 14 81 12 13),gp 15 11 14,ag 4 15] .ret))
@[simp] def E3:List cm:=[.tmp 4]
def By:C:=(ao [hf 2 0,hf 3 1,cA 4 false] (.seq (ao [bB 7 0 1 2,bm 8 1 7,bB 9 0 1 3,bm 10 1 9,ek 11 .neq 8 10,ag 12 11,bc 12 false (bB 13 1 1 2),bc 12 false (bm 14 1 13),bc 12 false (bB 15 1 1 3),bc 12 false (bm 16 1 15),bc 12 false (ek 17 .neq 14 16),eC 18 12 17,ag 19 18,bc 19 false (bB 20 2 1 2),bc 19 false (bm 21 1 20),bc 19 false (bB 22 2 1 3),bc 19 false (bm 23 1 22),bc 19 false (ek 24 .neq 21 23),eC 25 19 24,ag 26 25,bc 26 false (bB 27 3 1 2),bc 26 false (bm 28 1 27),bc 26 false (fC 29 28),bc 26 false (bB 30 3 1 3),bc 26 false (bm 31 1 30),bc 26 false (fC 32 31),bc 26 false (ek 33 .neq 29 32),eC 34 26 33] (bK 34 (ao [cA 4 false] .ret) .skip)) (.seq (ao [bB 35 3 1 2,bm 36 1 35,fC 37 36,dH 38 0] (oM 39 38 37 (.seq (.block 1 (ao [ag 40 38,hc 41 4 36 38,ct 42 4 41,ea 6 cp,ag 5 40,bZ 4 6 42] (.seq (.drawn true 52 [ct 43 4 6,bB 44 3 1 3,bm 45 1 44,ag 46 5,hc 47 4 45 46,ct 48 4 47,du 49 24 43 48,eY 50 49]) (bK 50 (ao [cA 4 false] .ret) .skip)))) (.region [bI 51 .add 38 1,ag 38 51])))) (ao [cA 4 true] .ret))))
@[simp] def th:List cm:=[.tmp 4]
def Bx:C:=(ao [cA 4 false] (.seq (ao [ag 7 0,fC 8 7,ag 9 1,fC 10 9,ek 11 .neq 8 10] (bK 11 (ao [cA 4 false] .ret) .skip)) (.seq (ao [ag 12 0,fC 13 12,dH 14 0] (oM 15 14 13 (.seq (.block 1 (ao [ag 16 14,hc 17 5 12 14,ct 18 5 17,ea 6 kV,ag 5 16,bZ 5 6 18] (.seq (.drawn true 39 [bB 19 0 1 6,bm 20 1 19,ag 21 1,ag 22 5,hc 23 5 21 22,bB 24 0 1 23,bm 25 1 24,ek 26 .neq 20 25,ag 27 26,bc 27 false (lR 28 1 4 6),bc 27 false (ct 29 4 28),cQ 27 false 30 1,cQ 27 false 31 5,bc 27 false (hc 32 5 30 31),bc 27 false (lR 33 1 4 32),bc 27 false (ct 34 4 33),bc 27 false (du 35 24 29 34),bc 27 false (eY 36 35),eC 37 27 36]) (bK 37 (ao [cA 4 false] .ret) .skip)))) (.region [bI 38 .add 14 1,ag 14 38])))) (ao [cA 4 true] .ret))))
@[simp] def Fi:List cm:=[.tmp 4]
def BM:C:=(ao [ja 2 5] (ao [iq 5 5 120 [],ag 3 5] (.seq (ao [dH 4 4] (.block 0 (.loop (.seq (ao [ag 6 4,bI 7 .lss 6 8] (bK 7 .skip (.exit 0))) (.seq (.block 1 (ao [ag 10 0,h2 11 96 [.t 10,(eF 2)]] (bK 11 (.region [ag 12 3,ag 13 4,ag 14 0,h2 15 72 [.t 14,(eF 6),(eF 4)],gF 16 kV [(0,1,(.t 13)),(1,4,(.t 15))],iq 17 5 120 [.t 16],pY 18 5 120 12 17,ag 3 18]) .skip))) (.region [ag 8 4,bI 9 .add 8 1,ag 4 9])))))) (ao [ag 19 3,ag 2 19] .ret))))
@[simp] def Fw:List cm:=[.tmp 2]
def BN:C:=(ao [ja 2 5] (ao [ag 6 0,h2 7 140 [.t 6,(eF 4)],ag 3 7] (ao [iq 8 5 120 [],ag 4 8] (.seq (ao [ag 9 3,ag 5 9] (.block 0 (.loop (.seq (ao [ag 10 5,bI 11 .lss 10 4] (bK 11 .skip (.exit 0))) (.seq (.block 1 (ao [ag 14 0,h2 15 96 [.t 14,(eF 2)]] (bK 15 (.region [ag 16 4,ag 17 5,ag 18 0,ag 19 3,h2 20 72 [.t 18,(eF 5),.t 19],gF 21 kV [(0,1,(.t 17)),(1,4,(.t 20))],iq 22 5 120 [.t 21],pY 23 5 120 16 22,ag 4 23]) .skip))) (.region [ag 12 5,bI 13 .add 12 1,ag 5 13])))))) (ao [ag 24 4,ag 2 24] .ret)))))
@[simp] def Fx:List cm:=[.tmp 2]
def Bs:C:=(ao [eT (.box 1 (some 307) (.t 0))] (.region [bm 2 1 1,bC 3 (.mkif 36 (.t 2)),bC 4 (.mkf 149 [.t 1]),du 5 148 3 4]))
@[simp] def Ff:List cm:=[]
def k6:List (Nat×cw):=[
 (3,⟨1,8,.int .i64,.int .i64 0⟩),
 (4,⟨1,1,.bool,.bool false⟩),
 (9,⟨1,16,.str,.str []⟩),
 (35,⟨1,24,.slice 5,.slice 1 .nil []⟩),
 (36,⟨1,24,.slice 120,.slice 5 .nil []⟩),
 (38,⟨1,24,.slice 40,.slice 4 .nil []⟩),
 (40,⟨4,56,.struct [(0,3),(1,3),(2,9),(3,38)],.agg [.int .i64 0,.int .i64 0,.str [],.slice 4 .nil []]⟩),
 (120,⟨5,64,.struct [(0,3),(1,40)],.agg [.int .i64 0,.int .i64 0,.int .i64 0,.str [],.slice 4 .nil []]⟩)]
theorem k7:eD aI k6=true:=by kernel_rfl
theorem EJ:cM k6 wR Fh 1 gr=true:=by kernel_rfl
theorem Cp:aI.funcs[(4:Nat)]? =some gr:=Tryz.func4
theorem Oi:cM k6 BB Fl 2 Tryz.f15=true:=by kernel_rfl
theorem J2:aI.funcs[(15:Nat)]? =some Tryz.f15:=Tryz.func15
theorem Oh:cM k6 BA Fk 2 Tryz.f16=true:=by kernel_rfl
theorem J1:aI.funcs[(16:Nat)]? =some Tryz.f16:=Tryz.func16
theorem NL:cM k6 A5 EZ 2 Tryz.f18=true:=by kernel_rfl
theorem Jw:aI.funcs[(18:Nat)]? =some Tryz.f18:=Tryz.func18
theorem NK:cM k6 A4 OS 2 Tryz.f19=true:=by kernel_rfl
theorem Jv:aI.funcs[(19:Nat)]? =some Tryz.f19:=Tryz.func19
theorem NR:cM k6 Bb E3 2 Tryz.f21=true:=by kernel_rfl
theorem JC:aI.funcs[(21:Nat)]? =some Tryz.f21:=Tryz.func21
theorem Oe:cM k6 By th 2 Tryz.f24=true:=by kernel_rfl
theorem JZ:aI.funcs[(24:Nat)]? =some Tryz.f24:=Tryz.func24
theorem Od:cM k6 Bx Fi 2 Tryz.f25=true:=by kernel_rfl
theorem JY:aI.funcs[(25:Nat)]? =some Tryz.f25:=Tryz.func25
theorem Ox:cM k6 BM Fw 1 Tryz.f69=true:=by kernel_rfl
theorem Kd:aI.funcs[(69:Nat)]? =some Tryz.f69:=Tryz.func69
theorem Oy:cM k6 BN Fx 1 Tryz.f71=true:=by kernel_rfl
theorem Ke:aI.funcs[(71:Nat)]? =some Tryz.f71:=Tryz.func71
theorem N8:cM k6 Bs Ff 1 Tryz.f76=true:=by kernel_rfl
theorem JT:aI.funcs[(76:Nat)]? =some Tryz.f76:=Tryz.func76
end
end Go.Proofs.YtlnndmgfngfeiaaGreatDoor
namespace Go.Proofs
section
open Go.Shelf
def Tryz.lays6_ren:Go.Shelf.Ren:=⟨fun|6=>148|10=>199|11=>200|12=>201|13=>202|14=>203|24=>240|25=>241|26=>242|27=>243|28=>244|29=>245|30=>246|31=>247|32=>248|33=>249|34=>265|35=>266|36=>267|37=>268|38=>269|39=>282|n=>n,fun|20=>20|26=>193|35=>235|0=>0|37=>237|3=>3|41=>209|44=>243|49=>265|51=>267|4=>4|54=>270|53=>269|58=>214|5=>5|9=>9|60=>288|64=>292|66=>304|67=>305|17=>17|32=>227|33=>233|82=>341|12=>12|75=>335|76=>336|77=>337|78=>181|79=>338|80=>339|n=>n,fun|n=>n⟩
theorem Tryz.lays6:Go.Proofs.LaysGg.n6 aI Tryz.lays6_ren:={
 mixed:=by kernel_rfl
 f6:=Tryz.func148.trans (cB some (by kernel_rfl))
 f10:=Tryz.func199.trans (cB some (by kernel_rfl))
 f11:=Tryz.func200.trans (cB some (by kernel_rfl))
 f12:=Tryz.func201.trans (cB some (by kernel_rfl))
 f13:=Tryz.func202.trans (cB some (by kernel_rfl))
 f14:=Tryz.func203.trans (cB some (by kernel_rfl))
 f24:=Tryz.func240.trans (cB some (by kernel_rfl))
 f25:=Tryz.func241.trans (cB some (by kernel_rfl))
 f26:=Tryz.func242.trans (cB some (by kernel_rfl))
 f27:=Tryz.func243.trans (cB some (by kernel_rfl))
 f28:=Tryz.func244.trans (cB some (by kernel_rfl))
 f29:=Tryz.func245.trans (cB some (by kernel_rfl))
 f30:=Tryz.func246.trans (cB some (by kernel_rfl))
 f31:=Tryz.func247.trans (cB some (by kernel_rfl))
 f32:=Tryz.func248.trans (cB some (by kernel_rfl))
 f33:=Tryz.func249.trans (cB some (by kernel_rfl))
 f34:=Tryz.func265.trans (cB some (by kernel_rfl))
 f35:=Tryz.func266.trans (cB some (by kernel_rfl))
 f36:=Tryz.func267.trans (cB some (by kernel_rfl))
 f37:=Tryz.func268.trans (cB some (by kernel_rfl))
 f38:=Tryz.func269.trans (cB some (by kernel_rfl))
 f39:=Tryz.func282.trans (cB some (by kernel_rfl))
 t0:=Tryz.underlying0
 a0:=Tryz.isAgg0
 z0:=Tryz.sizeOf0
 v0:=Tryz.zeroValue0
 i0:=by kernel_rfl
 t3:=Tryz.underlying3
 a3:=Tryz.isAgg3
 z3:=Tryz.sizeOf3
 v3:=Tryz.zeroValue3
 i3:=by kernel_rfl
 t4:=Tryz.underlying4
 a4:=Tryz.isAgg4
 z4:=Tryz.sizeOf4
 v4:=Tryz.zeroValue4
 i4:=by kernel_rfl
 t5:=Tryz.underlying5
 a5:=Tryz.isAgg5
 z5:=Tryz.sizeOf5
 v5:=Tryz.zeroValue5
 i5:=by kernel_rfl
 t9:=Tryz.underlying9
 a9:=Tryz.isAgg9
 z9:=Tryz.sizeOf9
 v9:=Tryz.zeroValue9
 i9:=by kernel_rfl
 t12:=Tryz.underlying12
 a12:=Tryz.isAgg12
 z12:=Tryz.sizeOf12
 v12:=Tryz.zeroValue12
 i12:=by kernel_rfl
 t17:=Tryz.underlying17
 a17:=Tryz.isAgg17
 z17:=Tryz.sizeOf17
 v17:=Tryz.zeroValue17
 i17:=by kernel_rfl
 t20:=Tryz.underlying20
 a20:=Tryz.isAgg20
 z20:=Tryz.sizeOf20
 v20:=Tryz.zeroValue20
 i20:=by kernel_rfl
 t26:=Tryz.underlying193
 a26:=Tryz.isAgg193
 z26:=Tryz.sizeOf193
 v26:=Tryz.zeroValue193
 i26:=by kernel_rfl
 t32:=Tryz.underlying227
 a32:=Tryz.isAgg227
 z32:=Tryz.sizeOf227
 v32:=Tryz.zeroValue227
 i32:=by kernel_rfl
 t33:=Tryz.underlying233
 a33:=Tryz.isAgg233
 z33:=Tryz.sizeOf233
 v33:=Tryz.zeroValue233
 i33:=by kernel_rfl
 t35:=Tryz.underlying235
 a35:=Tryz.isAgg235
 z35:=Tryz.sizeOf235
 v35:=Tryz.zeroValue235
 i35:=by kernel_rfl
 t37:=Tryz.underlying237
 a37:=Tryz.isAgg237
 z37:=Tryz.sizeOf237
 v37:=Tryz.zeroValue237
 i37:=by kernel_rfl
 t41:=Tryz.underlying209
 a41:=Tryz.isAgg209
 z41:=Tryz.sizeOf209
 v41:=Tryz.zeroValue209
 i41:=by kernel_rfl
 t44:=Tryz.underlying243
 a44:=Tryz.isAgg243
 z44:=Tryz.sizeOf243
 v44:=Tryz.zeroValue243
 i44:=by kernel_rfl
 t49:=Tryz.underlying265
 a49:=Tryz.isAgg265
 z49:=Tryz.sizeOf265
 v49:=Tryz.zeroValue265
 i49:=by kernel_rfl
 t51:=Tryz.underlying267
 a51:=Tryz.isAgg267
 z51:=Tryz.sizeOf267
 v51:=Tryz.zeroValue267
 i51:=by kernel_rfl
 t53:=Tryz.underlying269
 a53:=Tryz.isAgg269
 z53:=Tryz.sizeOf269
 v53:=Tryz.zeroValue269
 i53:=by kernel_rfl
 t54:=Tryz.underlying270
 a54:=Tryz.isAgg270
 z54:=Tryz.sizeOf270
 v54:=Tryz.zeroValue270
 i54:=by kernel_rfl
 t58:=Tryz.underlying214
 a58:=Tryz.isAgg214
 z58:=Tryz.sizeOf214
 v58:=Tryz.zeroValue214
 i58:=by kernel_rfl
 t60:=Tryz.underlying288
 a60:=Tryz.isAgg288
 z60:=Tryz.sizeOf288
 v60:=Tryz.zeroValue288
 i60:=by kernel_rfl
 t64:=Tryz.underlying292
 a64:=Tryz.isAgg292
 z64:=Tryz.sizeOf292
 v64:=Tryz.zeroValue292
 i64:=by kernel_rfl
 t66:=Tryz.underlying304
 a66:=Tryz.isAgg304
 z66:=Tryz.sizeOf304
 v66:=Tryz.zeroValue304
 i66:=by kernel_rfl
 t67:=Tryz.underlying305
 a67:=Tryz.isAgg305
 z67:=Tryz.sizeOf305
 v67:=Tryz.zeroValue305
 i67:=by kernel_rfl
 t75:=Tryz.underlying335
 a75:=Tryz.isAgg335
 z75:=Tryz.sizeOf335
 v75:=Tryz.zeroValue335
 i75:=by kernel_rfl
 t76:=Tryz.underlying336
 a76:=Tryz.isAgg336
 z76:=Tryz.sizeOf336
 v76:=Tryz.zeroValue336
 i76:=by kernel_rfl
 t77:=Tryz.underlying337
 a77:=Tryz.isAgg337
 z77:=Tryz.sizeOf337
 v77:=Tryz.zeroValue337
 i77:=by kernel_rfl
 t78:=Tryz.underlying181
 a78:=Tryz.isAgg181
 z78:=Tryz.sizeOf181
 v78:=Tryz.zeroValue181
 i78:=by kernel_rfl
 t79:=Tryz.underlying338
 a79:=Tryz.isAgg338
 z79:=Tryz.sizeOf338
 v79:=Tryz.zeroValue338
 i79:=by kernel_rfl
 t80:=Tryz.underlying339
 a80:=Tryz.isAgg339
 z80:=Tryz.sizeOf339
 v80:=Tryz.zeroValue339
 i80:=by kernel_rfl
 t82:=Tryz.underlying341
 a82:=Tryz.isAgg341
 z82:=Tryz.sizeOf341
 v82:=Tryz.zeroValue341
 i82:=by kernel_rfl}
end
section
open Go.Shelf Go.RowKit Go.Lib Go.Sort
noncomputable def Tryz.svT:TypeInfo:=(aI.info? 36).get (by kernel_rfl)
noncomputable def Tryz.svE:TypeInfo:=(aI.info? 120).get (by kernel_rfl)
theorem Tryz.svK(n:Nat)(J:2<=n):Lib.swapperK n Tryz.svE 25=9:=by
 have a:Tryz.svE.hasPointers=true:=by kernel_rfl
 have b:Tryz.svE.bytes=64:=by kernel_rfl
 have c:(n==0)=false:=by simp;omega
 have d:(n==1)=false:=by simp;omega
 simp[Lib.swapperK,a,b,c,d]
theorem Tryz.less(hS off c mK size:Nat)(W:World)(G:Nat->Int)(af:W.cell? ⟨mK,0,none⟩=some (.slice (some ⟨hS,off,none⟩) size c))
  (al:∀t,t<size->W.cell? ⟨hS,off+t*5,none⟩=some (.int .i64 (G t))) (i j:Nat) (aM:i<size) (aC:j<size) (_hsz:size<4611686018427387904):
  Calls aI 149 #[.int .i64 i,.int .i64 j,.pointer (some ⟨mK,0,none⟩)] W fun e w'=>e= .returned (.bool (decide (G i<G j)))/\∃q,w'=W.drewN q:=by
 have ci:=al i aM;have QV:=al j aC;go_enter Tryz.func149,Tryz.ntmps149;go_wp2;go_quiet (fail);go_wp2;go_ret;exact⟨rfl,_,rfl⟩
def Ax:Type:={x:List Value//x.length=4/\∀v∈x,v.oneCell'=true}
instance:Inhabited Ax:=⟨⟨[.int .i64 0,.int .i64 0,.int .i64 0,.int .i64 0],rfl,by intro v aH;simp at aH;subst aH;rfl⟩⟩
def dJ:Type:=Int×Ax
instance:Inhabited dJ:=⟨(0,default)⟩
def dJ.enc(x:dJ):List Value:= .int .i64 x.1::x.2.1
def dJ.lt(a b:dJ):Bool:=decide (a.1<b.1)
theorem dJ.swo:SWO dJ.lt where
 irrefl:=fun x=>by simp[dJ.lt]
 trans:=fun x y z I J=>by simp[dJ.lt]at*;omega
 ntrans:=fun x y z I J=>by simp[dJ.lt]at*;omega
theorem Tryz.sort_Slice_bindings(hS off c mK:Nat)(d:Array dJ)(J:2<=d.size)(dt:d.size<4611686018427387904)(w:World)(ux:HoldsK dJ.enc 5 w hS off d)(hU:hS<w.heap.size)
  (KW:w.cell? ⟨mK,0,none⟩=some (.slice (some ⟨hS,off,none⟩) d.size c)) (KV:mK<w.heap.size) (qu:mK≠hS):
  Calls aI 148 #[.iface 36 (.slice (some ⟨hS,off,none⟩) d.size c),.func (.func 149) #[] #[.pointer (some ⟨mK,0,none⟩)]] w fun e w'=>e= .returned (.tuple #[])/\∃dR n os,PermIn 0 d.size d dR/\SortedIn dJ.lt 0 d.size dR/\w'=grow (putRowK dJ.enc 5 (Sort.ahead w n) hS off dR) os:=by
 have LN:LessReadsK aI 149 #[.pointer (some ⟨mK,0,none⟩)] dJ.enc 5 dJ.lt hS off d.size w:=by
  intro m os r1 af i j aM aC;have e:sortWorldK dJ.enc 5 w hS off m r1 os=putRowK dJ.enc 5 (grow (Sort.ahead w m) os) hS off r1:=by unfold sortWorldK;rw[putRowK_grow _ _ (Sort.ahead w m) _ hS off _ hU]
  have KZ:HoldsK dJ.enc 5 (grow (Sort.ahead w m) os) hS off d:=holdsK_grow _ _ _ _ hS off d hU (holdsK_ahead _ _ _ _ _ _ _ ux);refine Tryz.less hS off c mK d.size _ (fun t=>r1[t]!.1) ?_ (fun t az=>?_) i j aM aC Ω
  ·rw[e,cell?_putRowK_other _ _ _ hS off r1 _ (by exact qu),cell?_grow _ _ _ (by exact KV)];exact KW
  ·rw[e];exact((holdsK_putRowK _ _ _ hS off d r1 KZ af).cell (i:=t) (c:=0) Ω Ω).1
 exact Any.sort_Slice_cells_sorted Tryz.lays6 36 120 Tryz.svT Tryz.svE (by kernel_rfl) (by kernel_rfl) (by kernel_rfl) (by kernel_rfl) 25 (fun _=>by kernel_rfl) dJ.enc 5 (fun x=>by simp[dJ.enc,x.2.2.1]) (by kernel_rfl) (fun _=>by kernel_rfl)
  (fun x v aH=>by
   simp only[dJ.enc,ft]at aH;rcases aH with rfl|aH
   ·rfl
   ·exact x.2.2.2 v aH) dJ.lt dJ.swo 149 _
  (enters_of Tryz.func149 (by kernel_rfl) rfl) hS off c d J dt 239 (by rw[Tryz.svK _ J];kernel_rfl) false
  (fun args W=>run_callFunc_extern Tryz.func239 (by kernel_rfl) (by kernel_rfl) (by kernel_rfl) (e:=Tb false) (by kernel_rfl) args W) w LN ux hU
theorem Tryz.sort_Slice_few(p:aW Addr)(n c:Nat)(I:n<=1)(yK:Fn)(yI yJ:Array Value)(w:World):
  Calls aI 148 #[.iface 36 (.slice p n c),.func yK yI yJ] w fun e w'=>e= .returned (.tuple #[])/\∃os,w'=grow w os:=by
 rcases(by omega:n=0\/n=1)with rfl|rfl
 ·exact Any.sort_Slice_tiny Tryz.lays6 36 120 Tryz.svT Tryz.svE (by kernel_rfl) (by kernel_rfl) (by kernel_rfl) (by kernel_rfl) 25 (fun _=>by kernel_rfl) p 0 c I 231 (by kernel_rfl) yK yI yJ w
 ·exact Any.sort_Slice_tiny Tryz.lays6 36 120 Tryz.svT Tryz.svE (by kernel_rfl) (by kernel_rfl) (by kernel_rfl) (by kernel_rfl) 25 (fun _=>by kernel_rfl) p 1 c I 232 (by kernel_rfl) yK yI yJ w
end
end Go.Proofs
namespace Go.Proofs.YtlnndmgfngfeiaaGreatDoor
section
open Go Go.Pv Go.Sort Go.RowKit
theorem L5{w:World}{base:Nat}{e:eb}{sz:Nat}{v:Value}{n:Nat}{us:List Value}(h:w.ownsRow base e sz v n us)(aH:v≠ .slice none 0 0):
  ∃g cap,v= .slice (some ⟨g,0,none⟩) n cap/\g<w.heap.size/\cap<=maxLen/\n<=cap/\us.length=n*sz/\Holds id w g 0 us.toArray:=by
 rcases h.2 with⟨me,_⟩|⟨g,cap,cur,rfl,aa,aG,aU,hm,af,az⟩
 ·exact absurd me aH
 ·have bS:g<w.heap.size:=by
   rcases Nat.lt_or_ge g w.heap.size with b3|b3
   ·exact b3
   ·rw[Array.getElem?_eq_none b3]at aG;cases aG
  refine⟨g,cap,rfl,bS,hm,aU,h.1,fun j aC=>?_⟩;have iQ:j<us.length:=by simpa using aC
  have ar:=h.1;refine⟨?_,by simp[World.frozen?,aG]⟩;have ai:(cur.toList.take (n*sz))[j]? =us[j]?:=by rw[az]
  rw[List.getElem?_take,cX Ω,lZ,eo iQ]at ai;simp only[World.cell?,aG,Nat.zero_add];simp only[Option.isSome_none,hO,if_false];rw[ai];simp[getElem!_pos,iQ]
theorem OC{w:World}{base:Nat}{e:eb}{sz g n cap q:Nat}{us:List Value}{F:Array Value}(h:w.ownsRow base e sz (.slice (some ⟨g,0,none⟩) n cap) n us)(eM:F.size=n*sz):
  (putRow id (Sort.ahead w q) g 0 F).ownsRow base e sz (.slice (some ⟨g,0,none⟩) n cap) n F.toList:=by
 rcases h.2 with⟨me,_⟩|⟨dh,nU,cur,me,aa,aG,aU,hm,af,az⟩
 ·cases me
 ·injection me with ai _ bu;injection ai with ai;injection ai with ai;subst ai;subst bu;refine⟨by simpa using eM,.inr ⟨g,cap,putCells id 0 F cur,rfl,aa,?_,aU,hm,by simpa[putCells]using af,?_⟩⟩
  ·simp[putRow,mapBlock,Sort.ahead,Array.getElem?_modify,aG,onCells]
  ·have hle:n*sz<=cur.size:=by rw[af];exact l1 _ aU
   apply List.ext_getElem?;intro j;rw[List.getElem?_take,lZ,lZ];by_cases aC:j<n*sz
   ·have LD:j<cur.size:=Ω
    simp only[cX aC,putCells,Array.getElem?_mapIdx,Array.getElem?_eq_getElem LD,l2];rw[cX Ω];simp[getElem!_pos,show j<F.size by omega]
   ·simp[aC];omega
theorem Cx{k:Nat}(U:0<k):∀(cx:List dJ),(∀x∈cx,x.enc.length=k)->∀t,t<cx.length*k->(cx.flatMap dJ.enc)[t]! =((cx[t/k]!).enc)[t%k]!
 |[],_,t,h=>by simp at h
 |x::r,ar,t,h=>by
  have ad:=ar x Ψ;by_cases az:t<k
  ·have I:t/k=0:=Nat.div_eq_of_lt az;have J:t%k=t:=Nat.mod_eq_of_lt az;simp only[lf,I,J,List.getElem!_cons_zero];rw[List.getElem!_eq_getElem?_getD,List.getElem!_eq_getElem?_getD,lg Ω]
  ·have I:t/k=(t-k)/k+1:=by rw[<-Nat.add_div_right _ U];congr 1;omega
   have J:t%k=(t-k)%k:=by rw[<-Nat.add_mod_right (t-k) k];congr 1;omega
   have bz:=Cx U r (fun y b6=>ar y (by simp[b6])) (t-k) (by simp[Nat.add_mul]at h;omega);rw[I,J];simp only[lf,List.getElem!_cons_succ];rw[<-bz,List.getElem!_eq_getElem?_getD,List.getElem!_eq_getElem?_getD,List.getElem?_append_right Ω,ad]
theorem w9(x:dJ):x.enc.length=5:=by simp[dJ.enc,x.2.2.1]
theorem xp:∀cx:List dJ,(cx.flatMap dJ.enc).length=cx.length*5
 |[]=>rfl
 |x::r=>by rw[lf,e0,xp r,w9];simp;omega
theorem Cu(cx:List dJ):flatK dJ.enc 5 cx.toArray=(cx.flatMap dJ.enc).toArray:=by refine ext_get! (by rw[size_flatK,lj,lj,xp]) fun t az=>?_;rw[get_flatK _ _ _ _ (by simpa using az)];have:=Cx (k:=5) Ω cx (fun x _=>w9 x) t (by simpa using az);simp only[List.getElem!_toArray];rw[this]
def zu(w:World)(ν:aA)(b:aN)(x:dJ):Prop:=(∃u:Value,u.cells.toList=x.enc/\aw w ν b.e u)/\x.1=b.v
theorem FE{w:World}{ν:aA}:∀{l:List aN} {us:List Value},bN w ν 5 (l.map aN.e) us->∃a8:List (aN×dJ),a8.map (·.1)=l/\us=(a8.map (·.2)).flatMap dJ.enc/\∀p∈a8,zu w ν p.1 p.2
 |[],us,h=>⟨[],rfl,by simpa[bN]using h,Ψ⟩
 |b::l,us,h=>by
  simp only[eU,bN]at h;obtain⟨u,a1,rfl,⟨I,J,aj⟩,aO⟩:=h;obtain⟨a8,bY,rfl,dV⟩:=FE aO;have qq:=I;simp only[aN.e,aw,bL]at qq;obtain⟨aV,rfl,rD,dX,ai,⟨rfl,_⟩,_⟩:=qq;have al:(Value.agg aV).cells.toList= .int .i64 b.v::dX:=by simp[h3,ai]
  have hlen:dX.length=4:=by
   have:(Value.agg aV).cells.toList.length=5:=by simpa using J
   rw[al]at this;simpa using this
  refine⟨(b,(b.v,⟨dX,hlen,fun v aH=>aj v (by rw[al];simp[aH])⟩))::a8,by simp[bY],by rw[eU,lf];exact cB (· ++_) al,?_⟩;intro p be;rcases ft.1 be with rfl|be
  ·exact⟨⟨_,al,I⟩,rfl⟩
  ·exact dV p be
theorem AK{w:World}{ν:aA}:∀{a8:List (aN×dJ)},(∀p∈a8,zu w ν p.1 p.2)->bN w ν 5 ((a8.map (·.1)).map aN.e) ((a8.map (·.2)).flatMap dJ.enc)
 |[],_=>by simp[bN]
 |p::a8,h=>by
  obtain⟨⟨u,I,J⟩,_⟩:=h p Ψ;simp only[eU,bN,lf];refine⟨u,_,by rw[I],⟨J,?_,?_⟩,AK fun p be=>h p (by simp[be])⟩
  ·have:u.cells.toList.length=5:=by rw[I];exact w9 _
   simpa using this
  ·rw[I];intro c al;simp only[dJ.enc,ft]at al;rcases al with rfl|al
   ·rfl
   ·exact p.2.2.2.2 c al
theorem OI{α β:Type}(f:α->β){d dR:List β}(h:dR.Perm d):∀a8:List α,a8.map f=d->∃gA:List α,gA.Perm a8/\gA.map f=dR:=by
 induction h with
 |nil=>intro a8 h;exact⟨a8,.refl _,h⟩
 |cons x _ bz=>
  intro a8 h;cases a8 with
  |nil=>cases h
  |cons p a8=>simp only[eU,tG]at h;obtain⟨gA,I,J⟩:=bz a8 h.2;exact⟨p::gA,I.cons p,by simp[h.1,J]⟩
 |swap x y l=>
  intro a8 h;match a8,h with
  |p::q::a8,h=>simp only[eU,tG]at h;exact⟨q::p::a8,.swap _ _ _,by simp[h]⟩
 |trans _ _ u5 u6=>intro a8 h;obtain⟨OL,I,J⟩:=u6 a8 h;obtain⟨OK,aj,aO⟩:=u5 OL J;exact⟨OK,aj.trans I,aO⟩
def kp(l:List aN):List aN:=l.mergeSort fun x y=>decide (x.v<=y.v)
theorem Pj(l:List aN):(kp l).length=l.length:=List.length_mergeSort l
theorem F2{l eA:List aN}(be:eA.Perm l)(aY:(l.map (·.v)).Nodup)(af:eA.Pairwise fun x y=>x.v<=y.v):eA=kp l:=by
 have az:∀a b c:aN,(decide (a.v<=b.v))=true->(decide (b.v<=c.v))=true->(decide (a.v<=c.v))=true:=by intro a b c;simp;omega
 have u0:∀a b:aN,(decide (a.v<=b.v)||decide (b.v<=a.v))=true:=by intro a b;simp;omega
 have J:=List.pairwise_mergeSort az u0 l;refine Tg (le:=fun x y:aN=>x.v<=y.v) (fun x y ad b6 I J=>?_) af (J.imp Ψ) (be.trans (List.mergeSort_perm l _).symm);have ju:x∈l:=be.mem_iff.1 ad;have Mz:y∈l:=(List.mergeSort_perm l _).mem_iff.1 b6;have x3:∀(l:List aN),(l.map (·.v)).Nodup->∀x y,x∈l->y∈l->x.v=y.v->x=y:=by
  intro l;induction l with
  |nil=>intro _ x y ad;cases ad
  |cons a r bz=>
   intro aY x y ad b6 he;simp only[eU,List.nodup_cons,ku,not_exists,not_and]at aY;rcases ft.1 ad with pq|pq<;>rcases ft.1 b6 with hy2|hy2
   ·rw[pq,hy2]
   ·subst pq;exact absurd he.symm (aY.1 y hy2)
   ·subst hy2;exact absurd he (aY.1 x pq)
   ·exact bz aY.2 x y pq hy2 he
 exact x3 l aY x y ju Mz Ω
def fR(K B:Nat)(l:List aN):cr:=⟨[(.obj B,[.row 5 (.obj K) l.length])],[(.obj K,⟨l.length,120,5,some (l.map aN.e)⟩)]⟩
theorem qa(K B:Nat)(l:List aN):dE (fR K B l):=by unfold fR;refine dE.of ⟨by intro m;simp[Pv.look],by intro m;simp[Pv.look]⟩ (by simp[aD,aB,au,Pv.look]) ?_;intro x ad ys b6;simp at ad;subst ad;simp at b6;subst b6;simp
theorem G5(K B:Nat)(l eA:List aN):Same (fR K B l) (fR K B eA):=by
 refine⟨fun k=>?_,fun k=>?_⟩
 ·simp only[fR,Pv.look];split<;>rfl
 ·simp only[fR,Pv.look];split<;>rfl
theorem KN(K B:Nat)(l:List aN)(ar:l.length<=1000000)(aY:(l.map (·.v)).Nodup):br aI 148 [.iface 36 (.row 5 (.obj K) l.length),.func 149 [.ptr (.obj B) 0]] (fR K B l) fun r ah=>r= .tuple []/\ah=fR K B (kp l):=by
 refine br.sem (qa K B l).obj fun w ν aV _ hk hr=>?_;refine .inl ⟨⟨Tryz.f148,Tryz.func148,by kernel_rfl,by kernel_rfl⟩,?_⟩;have hW:=hr.slot 0;have yi:=hr.slot 1;simp[gC,Pv.get]at hW yi;have gK:Pv.look (.obj K) (fR K B l).e=some ⟨l.length,120,5,some (l.map aN.e)⟩:=by simp[fR,Pv.look]
 have Dq:Pv.look (.obj B) (fR K B l).b=some [.row 5 (.obj K) l.length]:=by simp[fR,Pv.look]
 obtain⟨v,us,bY,cz,dV,cY⟩:=hr.good.own (.obj K) _ gK;obtain⟨cc,hM,lQ⟩:=cY _ rfl;obtain⟨bl,AX,Qm,bJ,bQ,ey,qd,AI⟩:=hr.good.box (.obj B) _ Dq;simp only[aw,bG]at hW yi;obtain⟨u,hu,⟨g0,BS,C5⟩,_,n',dq,ai,aK,bu⟩:=hW;rw[bY]at ai;simp only[cR,fQ]at ai;obtain⟨rfl,rfl⟩:=ai;have aH:=bu rfl;subst aH;obtain⟨cq,aF,f1,f2,f3,⟨fb,f4,f5⟩,f6⟩:=yi;rw[bJ]at f4;simp only[cR]at f4;subst f4;simp only[eZ,bL]at AI;obtain⟨cO,c2,c3,⟨⟨_,_,R9,SX,c4,_,c5⟩,_⟩,jj⟩:=AI;rw[bY]at c4;simp only[cR,fQ]at c4;obtain⟨rfl,rfl⟩:=c4;have kJ:=c5 rfl;have cD:u≠ .slice none 0 0:=by rw[C5];simp
 obtain⟨g,cap,rfl,jN,qA,Ro,Rp,ux⟩:=L5 cz cD;have Mu:aV= #[.iface 36 (.slice (some ⟨g,0,none⟩) l.length cap),.func (.func 149) #[] #[.pointer (some ⟨bl,0,none⟩)]]:=by
  have I:aV.size=2:=by simpa using hk
  have qz:cq= #[.pointer (some ⟨bl,0,none⟩)]:=by apply Array.ext';simp[f3,f5,f6]
  apply Array.ext (by simpa using I);intro i J aj;simp at aj;rcases(by omega:i=0\/i=1)with rfl|rfl
  ·simpa[Array.getD,I]using hu
  ·rw[<-qz];simpa[Array.getD,I]using aF
 have Lx:bl≠g:=fun e=>hr.good.obx (.obj K) (.obj B) _ _ g (by simp[gK]) (by simp[Dq]) bY rfl (by rw[bJ,e]);have hD:w.cell? ⟨bl,0,none⟩=some (.slice (some ⟨g,0,none⟩) l.length cap):=by
  simp only[fq]at qd;simp only[World.cell?,qd];have:AX[0]? =some cO:=by
   have I:AX.toList[0]? =some cO:=by rw[c3];rfl
   simpa using I
  simp[this,kJ]
 have C8:bl<w.heap.size:=(Array.getElem?_eq_some_iff.1 qd).1;subst Mu;by_cases J:2<=l.length
 ·obtain⟨a8,gf,rfl,s4⟩:=FE hM;have gm:(a8.map (·.2)).length=l.length:=by rw[<-gf];simp
  have KY:HoldsK dJ.enc 5 w g 0 (a8.map (·.2)).toArray:=by unfold HoldsK;rw[Cu];exact ux
  have al:=Tryz.sort_Slice_bindings g 0 cap bl (a8.map (·.2)).toArray (by simp only[lj,gm];exact J) (by simp only[lj,gm];omega) w KY jN (by simp only[lj,gm];exact hD) C8 Lx;simp only[lj,gm]at al;refine al.mono ?_;rintro e w' ⟨rfl,dR,n,os,L9,Mi,rfl⟩;obtain⟨pZ,_,z3⟩:=L9;have P4:dR.toList.Perm (a8.map (·.2)):=by
   have ai:dR.extract 0 l.length=dR:=by
    have:l.length=dR.size:=by rw[pZ];simpa using gm.symm
    rw[this];simp
   have aK:(a8.map (·.2)).toArray.extract 0 l.length=(a8.map (·.2)).toArray:=by
    have:l.length=(a8.map (·.2)).toArray.size:=by simpa using gm.symm
    rw[this];exact Array.extract_size
   rw[ai,aK]at z3;simpa using z3
  obtain⟨gA,rE,pX⟩:=OI (·.2) P4 a8 rfl;have ye:∀p∈gA,zu w ν p.1 p.2:=fun p be=>s4 p (rE.mem_iff.1 be);have kc:(gA.map (·.1)).Perm l:=by rw[<-gf];exact rE.map _
  have Mj:(gA.map (·.1)).Pairwise fun x y=>x.v<=y.v:=by
   rw[List.pairwise_iff_getElem];intro i j aM aC qC;have qB:i<gA.length:=by simpa using aM
   have iQ:j<gA.length:=by simpa using aC
   have Rn:dR.size=gA.length:=by rw[<-Array.length_toList,<-pX];simp
   have uQ:gA.length=l.length:=by have:=kc.length_eq;simpa using this
   have af:=Mi i j Ω qC Ω;have hF:∀t (az:t<gA.length),dR[t]! =gA[t].2:=by
    intro t az;rw[getElem!_pos dR t Ω];have I:dR.toList[t]? =some gA[t].2:=by rw[<-pX];simp[az]
    have J:dR.toList[t]? =some dR[t]:=by simp
    rw[J]at I;simpa using I
   rw[hF i qB,hF j iQ]at af;have dX:=(ye gA[i] Ψ).2;have fD:=(ye gA[j] Ψ).2;simp only[dJ.lt,decide_eq_false_iff_not]at af;simp only[List.getElem_map];omega
  have jo:gA.map (·.1)=kp l:=F2 kc aY Mj;have qL:=Pj l;have xD:(flatK dJ.enc 5 dR)=((gA.map (·.2)).flatMap dJ.enc).toArray:=by rw[pX,<-Cu]
  have DF:=AK ye;rw[jo]at DF;have LM:((gA.map (·.2)).flatMap dJ.enc).length=l.length*5:=by rw[xp];have:=kc.length_eq;simp at this;simp[this]
  have gN:=OC (q:=n) (F:=flatK dJ.enc 5 dR) cz (by rw[xD];simpa using LM);rw[xD]at gN;obtain⟨rD,Ag,_⟩:=hr.setRowM (w':=Sort.putRowK dJ.enc 5 (Sort.ahead w n) g 0 dR) gK rfl bY (bl:=g) rfl (v':= .slice (some ⟨g,0,none⟩) l.length cap) rfl (xs':=(kp l).map aN.e) (us:=(gA.map (·.2)).flatMap dJ.enc) (.inl ⟨by simp[qL],rfl⟩) rfl rfl rfl
   (fun j aC=>by simp[Sort.putRowK,Sort.putRow,Sort.mapBlock,Sort.ahead,Array.getElem?_modify,Ne.symm aC]) (by simp[Sort.putRowK,Sort.putRow,Sort.mapBlock,Sort.ahead]) (by unfold Sort.putRowK;rw[xD];simpa[qL]using gN) DF
  have Ah:=rD.grown (w':=Sort.grow (Sort.putRowK dJ.enc 5 (Sort.ahead w n) g 0 dR) os) ⟨rfl,rfl,rfl,Ψ,fun k U _=>Sort.heap_grow_old _ _ U⟩;refine⟨_,_,_,_,.tuple [],fR K B (kp l),rfl,Ah,by simp[aw,bG],by simp[fR,ej,au,Pv.look],?_,?_,?_,(qa K B _).obj,by simp[aB,aD],rfl,rfl⟩
  ·simp[fR,ej,au,Pv.look]
  ·intro k cs U;have hm:=nu U;simp[fR]at hm;obtain⟨rfl,rfl⟩:=hm;exact⟨by simp[fR,Pv.look,qL],.inl (by simp[U]),by simp[aD,aB,au,fR,Pv.look]⟩
  ·intro k o U;have hm:=nu U;simp[fR]at hm;obtain⟨rfl,rfl⟩:=hm;refine⟨by simp[fR,Pv.look,bV,qL],.inr (by simp[U]),fun ys b6=>?_⟩;simp at b6;subst b6;simp
 ·have iU:kp l=l:=by
   match l,J with
   |[],_=>simp[kp]
   |[x],_=>simp[kp]
   |x::y::r,h=>simp at h
  have al:=Tryz.sort_Slice_few (some ⟨g,0,none⟩) l.length cap Ω (.func 149) #[] #[.pointer (some ⟨bl,0,none⟩)] w;refine al.mono ?_;rintro e w' ⟨rfl,os,rfl⟩;have Ah:=hr.grown (w':=Sort.grow w os) ⟨rfl,rfl,rfl,Ψ,fun k U _=>Sort.heap_grow_old _ _ U⟩;rw[iU];refine⟨_,_,_,_,.tuple [],fR K B l,rfl,Ah,by simp[aw,bG],by simp[fR,ej,au,Pv.look],?_,?_,?_,(qa K B _).obj,by simp[aB,aD],rfl,rfl⟩
  ·simp[fR,ej,au,Pv.look]
  ·exact fun k cs U=>⟨U,.inl (by simp[U]),(qa K B l).kb k cs U⟩
  ·exact fun k o U=>⟨U,.inr (by simp[U]),(qa K B l).ke k o U⟩
def kz(K:Nat)(l:List aN):cr:=⟨[],[(.obj K,⟨l.length,120,5,some (l.map aN.e)⟩)]⟩
theorem wB(K:Nat)(l:List aN):dE (kz K l):=by unfold kz;refine dE.of ⟨by intro m;simp[Pv.look],by intro m;simp[Pv.look]⟩ Ψ ?_;intro x ad ys b6;simp at ad;subst ad;simp at b6;subst b6;simp
theorem Ay(K:Nat)(l eA:List aN):Same (kz K l) (kz K eA):=by refine⟨fun k=>rfl,fun k=>?_⟩;simp only[kz,Pv.look];split<;>rfl
theorem KM(K:Nat)(ch:K≠307)(l:List aN)(ar:l.length<=1000000)(aY:(l.map (·.v)).Nodup):br aI 76 [.row 5 (.obj K) l.length] (kz K l) fun r ah=>r= .tuple []/\ah=kz K (kp l):=by
 have af:=wB K l;have nm:=wB K (kp l);have iU:=Ay K l (kp l);have K1:(307=K)=cU:=by simp;omega
 unfold kz at af nm iU⊢;refine br.mk mixed k7 JT N8 Ψ af.obj fun bn cb=>?_;unfold Bs;simp[ch,K1];refine bh.ob (KN K 307 l ar aY) (qa K 307 l) (by unfold fR;exact ak) (by unfold fR;exact ak) (by simp[au,fR,Pv.look]) ?_;rintro r ah ⟨rfl,rfl⟩;refine⟨G5 K 307 _ _,?_⟩;unfold fR;simp[ba];refine b4.at _ (.inr rfl) nm iU ak ak ?_;simp[cg,Ff,bq,bA,bp]
end
section
open Go Go.Pv
theorem r2{s t:List aN}(h:fh s t):jz s:=⟨h.okS',h.sf,h.fitS'⟩
theorem r3{s t:List aN}(h:fh s t):jz t:=⟨h.okT,h.tf,h.fitT⟩
theorem nY{s t:List aN}(h:fh s t):jz (fF s t):=⟨h.ok,h.solved,h.fits⟩
theorem zZ{s:List aN}(af:jz s)(x:T)(ad:x.fit=true)(ed:(x.ap (cK s)).size<=5000):c8 aI 19 [.slice 5 .no (s.map aN.e),x.e] (.tuple [(x.ap (cK s)).e,.bool true]):=by have cl:=nN af;have cy:=z6 x;rw[ad]at cy;have gy:=wk s x af.len af.sol.asc af.fit;rw[cX ed,decide_eq_true ed]at gy;refine dS k7 Jv NK fun bn=>?_;unfold A4;exact ij
theorem PJ{s t:List aN}(h:fh s t):c8 aI 21 [.slice 5 .no (s.map aN.e),.slice 5 .no ((fF s t).map aN.e)] (.bool true):=by
 have cl:=nN (r2 h);have cy:=nN (nY h);have gy:=PR s (r2 h).len (nY h);have hm:pE s (fF s t)=true:=by rw[pE,ld];intro b aa;have:=h.mg b aa;simp only[pC,eu];exact this
 rw[hm]at gy;refine dS k7 JC NR fun bn=>?_;unfold Bb;clear bn;simp;(with_reducible repeat' first|((first|apply dz|apply dN|apply dM)<;>intro h<;>try simp at h)|refine a6 ?_|refine b8 cl ?_|refine b9 cl ?_|refine b8 cy ?_|refine b9 cy ?_|refine b8 gy ?_|refine b9 gy ?_|simp);all_goals simp[dy,E3,bq,bA,bp]
def lP(s t:List aN):List aN:=s.map (jh t)++t
theorem OJ{s t:List aN}(h:fh s t):kp (lP s t)=fF s t/\((lP s t).map (·.v)).Nodup:=by have be:(fF s t).Perm (lP s t):=List.perm_append_comm;have aU:((lP s t).map (·.v)).Nodup:=(be.map _).nodup_iff.1 (Hk h.asc);exact⟨(F2 be aU (h.asc.imp fun h=>Ω)).symm,aU⟩
theorem PD{s t:List aN}(h:fh s t):c8 aI 18 [.slice 5 .no (s.map aN.e),.slice 5 .no (t.map aN.e)] (.tuple [.slice 5 .no ((fF s t).map aN.e),.bool true]):=by
 have cl:=nN (r2 h);have cy:=nN (r3 h);have gy:=nN (nY h);obtain⟨js,Dt⟩:=OJ h;have hlen:=h.len;have pt:=KM 872 Ω (lP s t) (by simp[lP];omega) Dt;rw[js]at pt;have K3:s.length<=1000000:=Ω
 have gm:(lP s t).length=s.length+t.length:=by simp[lP]
 refine dS k7 Jw NL fun bn=>?_;unfold A5;clear bn;simp;((with_reducible repeat' first|refine a6 ?_|refine b8 cl ?_|refine b9 cl ?_|refine b8 cy ?_|refine b9 cy ?_|simp|((first|apply dz|apply dN|apply dM)<;>intro h<;>try simp at h))<;>(try exact iJ));refine oW (fun i (out:List aN)=>⟨[(0,.slice 5 .no (s.map aN.e)),(1,.slice 5 .no (t.map aN.e)),(22,.slice 5 .no (s.map aN.e)),(23,.int .i64 s.length),(6,.row 5 (.obj 872) out.length),(24,.int .i64 i)],[],[(.obj 872,⟨out.length,120,5,some (out.map aN.e)⟩)],0,[.obj 872]⟩) s.length (fun i out=>out=(s.map (jh t)).take i) [] (by simp;exact gE) Ψ (fun out aC _=>?_) (fun i out aM aC _=>?_);rotate_left
 ·obtain⟨b,aH,fm⟩:=lr aM;have uE:=List.mem_of_getElem? aH;have sF:out.length<=4:=by rw[aC];simp;omega
  have uW:out.length+1<=bF:=by unfold bF;omega
  have ig:=wk t b.t (r3 h).len (r3 h).sol.asc (r3 h).fit;have ed:(b.t.ap (cK t)).size<=5000:=by have:=h.usz (jh t b) (by unfold fF;exact List.mem_append_right _ (List.mem_map_of_mem uE));simp only[jh]at this;omega
  rw[cX ed,decide_eq_true ed]at ig;have cD:=h.keep b uE;have sl:jh t b=⟨b.v,b.t.ap (cK t)⟩:=rfl;have oe:out++[⟨b.v,b.t.ap (cK t)⟩]=(s.map (jh t)).take (i+1):=by rw[aC,List.take_add_one,List.getElem?_map,aH];simp[sl]
  generalize b.t.ap (cK t)=y at ig cD oe;clear ed sl;by_cases U:y.kind=1
  ·obtain⟨z,rfl⟩:∃z,y= .var z:=by cases y<;>simp[T.kind]at U⊢
   have u2:(z !=b.v)=true:=by simp only[bne_iff_ne];exact fun e=>cD (by rw[e])
   have sn:ae.agg [.int .i64 b.v,.int .i64 1,.int .i64 z,.str [],.slice 4 .no []]=(⟨b.v,.var z⟩:aN).e:=rfl;simp[aM,fm];(with_reducible repeat' first|refine a6 ?_|refine b8 ig ?_|refine b9 ig ?_|simp[aM,fm,u2,uW]);refine dD.rng (out++[⟨b.v,.var z⟩]) aM oe ?_;simp;exact⟨by simp[fresh,aD,aB,c6,au,Pv.look,dO,sn],e9 (by simp[fresh,aD,aB,c6,au,Pv.look,dO,sn]),ff (by simp[fresh,aD,aB,eQ,au,Pv.look,dO,sn]),Ψ⟩
  ·have sx:(y.kind !=1)=true:=by simp only[bne_iff_ne];exact U
   simp[aM,fm];(with_reducible repeat' first|refine a6 ?_|refine b8 ig ?_|refine b9 ig ?_|simp[aM,fm,sx,uW]);refine dD.rng (out++[⟨b.v,y⟩]) aM oe ?_;simp;exact⟨by simp[fresh,aD,aB,c6,au,Pv.look,dO],e9 (by simp[fresh,aD,aB,c6,au,Pv.look,dO]),ff (by simp[fresh,aD,aB,eQ,au,Pv.look,dO]),Ψ⟩
 rw[List.take_of_length_le Ψ]at aC;simp;(with_reducible repeat' first|refine a6 ?_|simp);clear cl cy;refine oW (fun i (out:List aN)=>⟨[(0,.slice 5 .no (s.map aN.e)),(55,.slice 5 .no (t.map aN.e)),(56,.int .i64 t.length),(6,.row 5 (.obj 872) out.length),(57,.int .i64 i)],[],[(.obj 872,⟨out.length,120,5,some (out.map aN.e)⟩)],0,[.obj 872]⟩) t.length (fun i out=>out=s.map (jh t)++t.take i) out (by simp;exact gE) (by simp[aC]) (fun out aC _=>?_) (fun i out aM aC _=>?_);rotate_left
 ·obtain⟨b,aH,fm⟩:=lr aM;have uE:=List.mem_of_getElem? aH;have sF:out.length<=8:=by rw[aC];simp;omega
  have uW:out.length+1<=bF:=by unfold bF;omega
  have D6:=pW s b.v K3;have aF:=(Cz (r2 h).sol.asc b.v).2 (h.free b uE);have D3:=z7 b.t;simp[aM,fm];(with_reducible repeat' first|refine a6 ?_|refine b8 D6 ?_|refine b9 D6 ?_|refine b8 D3 ?_|refine b9 D3 ?_|simp[aM,fm,aF,uW]);refine dD.rng (out++[b]) aM (by rw[aC,List.take_add_one,aH];simp) ?_;simp;exact⟨by simp[fresh,aD,aB,c6,au,Pv.look,dO],e9 (by simp[fresh,aD,aB,c6,au,Pv.look,dO]),ff (by simp[fresh,aD,aB,eQ,au,Pv.look,dO]),Ψ⟩
 ·rw[List.take_of_length_le (dY _)]at aC;have Mb:out=lP s t:=aC;subst Mb;simp;refine bh.ob pt (wB _ _) (by simp only[kz];exact ak) (by simp only[kz];exact ak) (by simp[au,Pv.look,kz,aD,aB]) ?_;rintro r ah ⟨rfl,rfl⟩;refine⟨Ay _ _ _,?_⟩;have sy:(fF s t).length=(lP s t).length:=by simp[fF,lP];omega
  simp[ba,kz,sy,nP];(with_reducible repeat' first|refine a6 ?_|refine b8 gy ?_|refine b9 gy ?_|simp[sy]);all_goals simp[dy,EZ,bq,bA,bp,b7,bR]
def Bc:C:=(ao [ja 2 5,cA 3 false] (ao [ag 13 0,cZ 14 82 13,ag 12 14,en 15 0 12,en 16 1 12,ag 4 15,ag 5 16] (.seq (ao [ag 17 5,eY 18 17] (bK 18 (ao [ja 2 5,cA 3 false] .ret) .skip)) (ao [ag 19 4,bC 20 (.build [.slice 1 .nil [],.int .i64 0] [(0,1,(.t 19))]),eT (.box 21 (some 871) (.t 20)),ag 6 21] (ao [iq 22 5 120 [],ag 7 22] (.seq (.block 0 (.loop (.seq (ao [ag 23 6,cZ 24 83 23,eY 25 24] (bK 25 .skip (.exit 0))) (.block 1 (ao [ag 27 6,cZ 28 84 27,ag 26 28,en 29 0 26,en 30 1 26,ea 8 cp,bZ 4 8 29,ag 9 30] (ao [ag 32 6,cZ 33 84 32,ag 31 33,en 34 0 31,en 35 1 31,ea 10 cp,bZ 4 10 34,ag 11 35] (.seq (ao [ag 36 9,eY 37 36,ag 38 37,cQ 38 false 39 11,bc 38 false (eY 40 39),eC 41 38 40,ag 42 41,bc 42 false (bB 43 0 1 8),bc 42 false (bm 44 1 43),bc 42 false (bI 45 .neq 44 1),eC 46 42 45] (bK 46 (ao [ja 2 5,cA 3 false] .ret) .skip)) (.region [ag 47 7,bB 48 1 1 8,bm 49 1 48,ct 50 4 10,gF 51 kV [(0,1,(.t 49)),(1,4,(.t 50))],iq 52 5 120 [.t 51],pY 53 5 120 47 52,ag 7 53])))))))) (.seq (ao [ag 54 7,cZ 55 20 54,eY 56 55] (bK 56 (ao [ja 2 5,cA 3 false] .ret) .skip)) (ao [ag 57 7,ag 2 57,cA 3 true] .ret))))))))
@[simp] def OU:List cm:=[.tmp 2,.tmp 3]
def A7:C:=(ao [bC 2 (.mov (.c (.str [])))] (.seq (ao [ag 6 0,cZ 7 20 6,eY 8 7] (bK 8 (ao [bC 2 (.mov (.c (.str [])))] .ret) .skip)) (ao [iq 9 1 9 [],ag 3 9] (.seq (ao [ag 10 0,fC 11 10,dH 12 0] (oM 13 12 11 (.seq (.block 1 (ao [hc 14 5 10 12,ct 15 5 14,ea 5 kV,bZ 5 5 15] (.drawn true 29 [ag 16 3,bB 17 0 1 5,bm 18 1 17,cZ 19 86 18,cZ 20 85 19,lR 21 1 4 5,ct 22 4 21,cZ 23 85 22,iq 24 1 9 [.t 20,.t 23],pY 25 1 9 16 24,ag 3 25]))) (.region [bI 26 .add 12 1,ag 12 26])))) (ao [ag 27 3,⟨none,.call (some 28) (.c (.func 87 [])) [.t 27,(.c (.str [32]))]⟩,ag 2 28] .ret)))))
@[simp] def E0:List cm:=[.tmp 2]
def Bu:C:=(ao [cA 2 false] (.seq (.drawn true 13 [ag 3 0,fO 4 3,bB 5 1 1 4,bm 6 1 5,ag 7 0,fO 8 7,bB 9 0 1 8,bm 10 1 9,fC 11 10,ek 12 .eql 6 11,ag 2 12]) .ret))
@[simp] def Fg:List cm:=[.tmp 2]
def tS:C:=(ao [ea 2 cp,cA 3 false] (ao [ag 7 0,cZ 8 152 7,ag 6 8,en 9 0 6,en 10 1 6,ea 4 cp,bZ 4 4 9,ag 5 10] (.seq (ao [ag 11 5,eY 12 11,ag 13 12,bc 13 false (ct 14 4 4),bc 13 false (cZ 15 77 14),bc 13 false (eY 16 15),eC 17 13 16] (bK 17 (ao [gF 18 cp [],bZ 4 2 18,cA 3 false] .ret) .skip)) (ao [ct 19 4 4,bZ 4 2 19,cA 3 true] .ret))))
@[simp] def OZ:List cm:=[.cell 2 true 4,.tmp 3]
def mR:C:=(ao [ea 2 cp,cA 3 false] (.seq (ao [ag 15 0,cZ 16 83 15] (bK 16 (ao [gF 17 cp [],bZ 4 2 17,cA 3 false] .ret) .skip)) (ao [ag 18 0,cZ 19 178 18,ag 4 19] (.seq (ao [ag 20 4,bC 21 (.bin .eql false (.t 20) (.c (.str [40])))] (bK 21 (ao [ag 22 0,fO 23 22,bB 24 1 1 23,bm 25 1 24,bI 26 .add 25 1,fO 27 22,bB 28 1 1 27,bZ 1 28 26] (ao [iq 29 4 40 [],ag 5 29] (.block 0 (.loop (.block 1 (.seq (ao [ag 30 0,⟨none,.call (some 31) (.c (.func 177 [])) [.t 30,(.c (.str [41]))]⟩] (bK 31 (ao [ag 32 5,cZ 33 205 32,bZ 4 2 33,cA 3 true] .ret) .skip)) (.seq (ao [ag 34 0,cZ 35 178 34,bC 36 (.bin .eql false (.t 35) (.c (.str [46]))),ag 37 36,cQ 37 true 38 0,bc 37 true (cZ 39 83 38),bc 37 true (eY 40 39),gp 41 37 40] (bK 41 (ao [ag 42 0,fO 43 42,bB 44 1 1 43,bm 45 1 44,bI 46 .add 45 1,fO 47 42,bB 48 1 1 47,bZ 1 48 46] (ao [ag 50 0,cZ 51 152 50,ag 49 51,en 52 0 49,en 53 1 49,ea 6 cp,bZ 4 6 52,ag 7 53] (.seq (ao [ag 54 7,eY 55 54,ag 56 55,cQ 56 false 57 5,bc 56 false (fC 58 57),bc 56 false (bI 59 .eql 58 0),eC 60 56 59,ag 61 60,cQ 61 false 62 0,⟨(some (61,false)),.call (some 63) (.c (.func 177 [])) [.t 62,(.c (.str [41]))]⟩,bc 61 false (eY 64 63),eC 65 61 64] (bK 65 (ao [gF 66 cp [],bZ 4 2 66,cA 3 false] .ret) .skip)) (.seq (ao [ag 67 5,fC 68 67,bI 69 .sub 68 1,ag 8 69] (.block 2 (.loop (.seq (ao [ag 70 8,bI 71 .geq 70 0] (bK 71 .skip (.exit 2))) (.seq (.block 3 (.drawn true 132 [ag 74 5,ag 75 8,hc 76 4 74 75,ct 77 4 76,ct 78 4 6,du 79 206 77 78,bZ 4 6 79])) (.region [ag 72 8,bI 73 .sub 72 1,ag 8 73])))))) (ao [ct 80 4 6,bZ 4 2 80,cA 3 true] .ret))))) .skip)) (ao [ag 82 0,cZ 83 152 82,ag 81 83,en 84 0 81,en 85 1 81,ea 9 cp,bZ 4 9 84,ag 10 85] (.seq (ao [ag 86 10,eY 87 86] (bK 87 (ao [gF 88 cp [],bZ 4 2 88,cA 3 false] .ret) .skip)) (.region [ag 89 5,ct 90 4 9,iq 91 4 40 [.t 90],pY 92 4 40 89 91,ag 5 92])))))))))) .skip)) (ao [ag 93 0,fO 94 93,bB 95 1 1 94,bm 96 1 95,bI 97 .add 96 1,fO 98 93,bB 99 1 1 98,bZ 1 99 97] (.seq (ao [ag 100 4,bC 101 (.sidx (.t 100) (eF 0)),bC 102 (.bin .eql false (.t 101) (.c (.int .u8 63)))] (bK 102 (ao [ag 104 4,bC 105 (.ssl (.t 104) (some (eF 1)) none),cZ 106 179 105,ag 103 106,en 107 0 103,en 108 1 103,ag 11 107,ag 12 108] (ao [ag 109 11,cZ 110 86 109,ag 111 12,ag 112 111,cQ 112 true 113 11,bc 112 true (bI 114 .geq 113 0),gp 115 112 114,ag 116 115,cQ 116 true 117 11,bc 116 true (bI 118 .leq 117 100000),gp 119 116 118,bZ 4 2 110,ag 3 119] .ret)) .skip)) (.seq (ao [ag 120 4,cZ 121 170 120] (bK 121 (ao [ag 122 4,cZ 123 207 122,bZ 4 2 123,cA 3 true] .ret) .skip)) (ao [ag 125 4,cZ 126 179 125,ag 124 126,en 127 0 124,en 128 1 124,ag 13 127,ag 14 128] (ao [ag 129 13,cZ 130 208 129,ag 131 14,bZ 4 2 130,ag 3 131] .ret)))))))))
@[simp] def O0:List cm:=[.cell 2 true 4,.tmp 3]
def rW:C:=(ao [cA 4 false] (.seq (.seq (.drawn false 28 [ag 5 0,cZ 6 178 5,ag 7 1,ek 8 .eql 6 7,ag 9 8,cQ 9 true 10 0,bc 9 true (fO 11 10),bc 9 true (bB 12 1 1 11),bc 9 true (bC 13 (.loadB false 1 (.t 12))),cQ 9 true 14 0,bc 9 true (fO 15 14),bc 9 true (bB 16 0 1 15),bc 9 true (bC 17 (.loadB false 1 (.t 16))),bc 9 true (fC 18 17),bc 9 true (ek 19 .lss 13 18),gp 20 9 19]) (bK 20 (ao [ag 21 0,fO 22 21,bB 23 1 1 22,bm 24 1 23,bI 25 .add 24 1,fO 26 21,bB 27 1 1 26,bZ 1 27 25] (ao [cA 4 true] .ret)) .skip)) (ao [cA 4 false] .ret)))
@[simp] def tg:List cm:=[.tmp 4]
def Bv:C:=(ao [bC 2 (.mov (.c (.str [])))] (.seq (.seq (.drawn true 23 [ag 3 0,fO 4 3,bB 5 1 1 4,bm 6 1 5,ag 7 0,fO 8 7,bB 9 0 1 8,bm 10 1 9,fC 11 10,ek 12 .lss 6 11]) (bK 12 (.seq (.drawn true 23 [ag 13 0,fO 14 13,bB 15 0 1 14,bm 16 1 15,ag 17 0,fO 18 17,bB 19 1 1 18,bm 20 1 19,hc 21 1 16 20,bm 22 1 21,ag 2 22]) .ret) .skip)) (ao [bC 2 (.mov (.c (.str [])))] .ret)))
@[simp] def zk:List cm:=[.tmp 2]
def oL:List (Nat×cw):=[
 (3,⟨1,8,.int .i64,.int .i64 0⟩),
 (9,⟨1,16,.str,.str []⟩),
 (36,⟨1,24,.slice 120,.slice 5 .nil []⟩),
 (38,⟨1,24,.slice 40,.slice 4 .nil []⟩),
 (40,⟨4,56,.struct [(0,3),(1,3),(2,9),(3,38)],.agg [.int .i64 0,.int .i64 0,.str [],.slice 4 .nil []]⟩),
 (70,⟨1,24,.slice 9,.slice 1 .nil []⟩),
 (120,⟨5,64,.struct [(0,3),(1,40)],.agg [.int .i64 0,.int .i64 0,.int .i64 0,.str [],.slice 4 .nil []]⟩),
 (131,⟨2,32,.struct [(0,70),(1,3)],.agg [.slice 1 .nil [],.int .i64 0]⟩)]
theorem h1:eD aI oL=true:=by kernel_rfl
theorem NS:cM oL Bc OU 1 Tryz.f22=true:=by kernel_rfl
theorem JD:aI.funcs[(22:Nat)]? =some Tryz.f22:=Tryz.func22
theorem NN:cM oL A7 E0 1 Tryz.f23=true:=by kernel_rfl
theorem Jy:aI.funcs[(23:Nat)]? =some Tryz.f23:=Tryz.func23
theorem Oa:cM oL Bu Fg 1 Tryz.f83=true:=by kernel_rfl
theorem JV:aI.funcs[(83:Nat)]? =some Tryz.f83:=Tryz.func83
theorem za:cM oL tS OZ 1 Tryz.f84=true:=by kernel_rfl
theorem xm:aI.funcs[(84:Nat)]? =some Tryz.f84:=Tryz.func84
theorem oD:cM oL mR O0 1 Tryz.f152=true:=by kernel_rfl
theorem n1:aI.funcs[(152:Nat)]? =some Tryz.f152:=Tryz.func152
theorem vx:cM oL rW tg 2 Tryz.f177=true:=by kernel_rfl
theorem uh:aI.funcs[(177:Nat)]? =some Tryz.f177:=Tryz.func177
theorem Ob:cM oL Bv zk 1 Tryz.f178=true:=by kernel_rfl
theorem JW:aI.funcs[(178:Nat)]? =some Tryz.f178:=Tryz.func178
end
section
open Go Go.Pv
def aZ:ae:= .ptr (.obj 871) 0
def aq(l:List (List aX))(i:Nat):cr:=⟨[(.obj 871,[.slice 1 .no (fE l),.int .i64 i])],[]⟩
theorem bU(l:List (List aX))(i:Nat):dE (aq l i):=by unfold aq;exact dE.of ⟨by intro m;simp[Pv.look],by intro m;simp[Pv.look]⟩ (by simp[aD,aB]) Ψ
theorem ev(l eA:List (List aX))(i j:Nat):Same (aq l i) (aq eA j):=Same.keys (by simp[aq]) (by simp[aq])
section
variable (l:List (List aX)) (i:Nat)
theorem CJ:br aI 83 [aZ] (aq l i) fun r ah=>r= .bool ((i:Int)==l.length)/\ah=aq l i:=by have af:=bU l i;simp only[aq]at af⊢;refine br.mk mixed h1 JV Oa Ψ af.obj fun bn cb=>?_;unfold Bu;simp[aZ];refine b4.at (aq l i) Ψ (bU _ _) (Same.refl _) (by simp only[aq];exact ak) (by simp only[aq];exact ak) ?_;simp[cg,Fg,bq,bA,bp,aq,au,Pv.look,aB,aD]
theorem xx:br aI 178 [aZ] (aq l i) fun r ah=>r= .str (l[i]?.getD [])/\ah=aq l i:=by
 have af:=bU l i;simp only[aq]at af⊢;refine br.mk mixed h1 JW Ob Ψ af.obj fun bn cb=>?_;unfold Bv;simp[aZ];by_cases h:i<l.length
 ·obtain⟨x,ad⟩:∃x,l[i]? =some x:=⟨_,eo h⟩;have fm:∀h,(fE l)[i]'h= .str x:=fun b3=>by rw[F5 h,eo h]at*;cases ad;rfl
  rw[ad];simp[h,fm];refine b4.at (aq l i) Ψ (bU _ _) (Same.refl _) (by simp only[aq];exact ak) (by simp only[aq];exact ak) ?_;simp[cg,zk,bq,bA,bp,aq,au,Pv.look,aB,aD]
 ·rw[List.getElem?_eq_none Ω];simp[h];refine b4.at (aq l i) Ψ (bU _ _) (Same.refl _) (by simp only[aq];exact ak) (by simp only[aq];exact ak) ?_;simp[cg,zk,bq,bA,bp,aq,au,Pv.look,aB,aD]
theorem CO(aM:i<=1000000)(s:List aX):br aI 177 [aZ,.str s] (aq l i) fun r ah=>r= .bool (decide (l[i]? =some s))/\ah=aq l (if l[i]? =some s then i+1 else i):=by
 have af:=bU l i;have ig:=xx l i;have fk:c1 ((i:Int)+1):=by unfold c1;omega
 by_cases h:i<l.length
 ·obtain⟨x,ad⟩:∃x,l[i]? =some x:=⟨_,eo h⟩;rw[ad]at ig⊢;simp only[jD]at ig;by_cases iA:x=s
  ·subst iA;simp only[if_true,decide_true,aq]at af⊢;refine br.mk mixed h1 uh vx Ψ af.obj fun bn cb=>?_;unfold rW;simp[aZ];(refine iL.ob (ig) (by first|exact bU _|exact bU ‹_› _) (by first|exact bU _|exact bU ‹_› _) (Same.keys (by simp[aq]) (by simp[aq])) (by simp only[aq,cN,dx];exact ak) (by simp only[aq,cN,dx];exact ak) (by simp[au,Pv.look,aq]) ?_;simp[ba,aq]);(with_reducible repeat' first|refine a6 ?_|simp[h,fk]);refine b4.at (aq l (i+1)) Ψ (bU _ _) (ev _ _ _ _) (by simp only[aq];exact ak) (by simp only[aq];exact ak) ?_;simp[cg,tg,bq,bA,bp,aq,au,Pv.look,aB,aD]
  ·have cD:¬(some x=some s):=by simpa using iA
   simp only[cD,if_false,decide_false,aq]at af⊢;refine br.mk mixed h1 uh vx Ψ af.obj fun bn cb=>?_;unfold rW;simp[aZ];(refine iL.ob (ig) (by first|exact bU _|exact bU ‹_› _) (by first|exact bU _|exact bU ‹_› _) (Same.keys (by simp[aq]) (by simp[aq])) (by simp only[aq,cN,dx];exact ak) (by simp only[aq,cN,dx];exact ak) (by simp[au,Pv.look,aq]) ?_;simp[ba,aq]);((with_reducible repeat' first|refine a6 ?_|simp[iA]|((first|apply dz|apply dN|apply dM)<;>intro h<;>try simp at h))<;>(try exact iJ));refine b4.at (aq l i) Ψ (bU _ _) (ev _ _ _ _) (by simp only[aq];exact ak) (by simp only[aq];exact ak) ?_;simp[cg,tg,bq,bA,bp,aq,au,Pv.look,aB,aD]
 ·rw[List.getElem?_eq_none Ω]at ig⊢;simp only[jD]at ig;have cD:¬((none:aW (List aX))=some s):=by simp
  simp only[cD,if_false,decide_false,aq]at af⊢;cases s with
  |nil=>refine br.mk mixed h1 uh vx Ψ af.obj fun bn cb=>?_;unfold rW;simp[aZ];(refine iL.ob (ig) (by first|exact bU _|exact bU ‹_› _) (by first|exact bU _|exact bU ‹_› _) (Same.keys (by simp[aq]) (by simp[aq])) (by simp only[aq,cN,dx];exact ak) (by simp only[aq,cN,dx];exact ak) (by simp[au,Pv.look,aq]) ?_;simp[ba,aq]);((with_reducible repeat' first|refine a6 ?_|simp[h]|((first|apply dz|apply dN|apply dM)<;>intro h<;>try simp at h))<;>(try exact iJ));refine b4.at (aq l i) Ψ (bU _ _) (ev _ _ _ _) (by simp only[aq];exact ak) (by simp only[aq];exact ak) ?_;simp[cg,tg,bq,bA,bp,aq,au,Pv.look,aB,aD]
  |cons c s=>refine br.mk mixed h1 uh vx Ψ af.obj fun bn cb=>?_;unfold rW;simp[aZ];(refine iL.ob (ig) (by first|exact bU _|exact bU ‹_› _) (by first|exact bU _|exact bU ‹_› _) (Same.keys (by simp[aq]) (by simp[aq])) (by simp only[aq,cN,dx];exact ak) (by simp only[aq,cN,dx];exact ak) (by simp[au,Pv.look,aq]) ?_;simp[ba,aq]);((with_reducible repeat' first|refine a6 ?_|simp[h]|((first|apply dz|apply dN|apply dM)<;>intro h<;>try simp at h))<;>(try exact iJ));refine b4.at (aq l i) Ψ (bU _ _) (ev _ _ _ _) (by simp only[aq];exact ak) (by simp only[aq];exact ak) ?_;simp[cg,tg,bq,bA,bp,aq,au,Pv.look,aB,aD]
end
end
section
open Go Go.Pv
def mH(l:List (List aX))(o:aW (T×List (List aX)))(r:ae)(ah:cr):Prop:=match o with
 |some (t,rest)=>r= .tuple [t.e,.bool true]/\ah=aq l (l.length-rest.length)
 |none=> ∃(x:T) (j:Nat),j<=l.length/\r= .tuple [x.e,.bool false]/\ah=aq l j
theorem k4{l:List (List aX)}{j:Nat}(h:j<=l.length)(x:T):mH l none (.tuple [x.e,.bool false]) (aq l j):=⟨x,j,h,rfl,rfl⟩
theorem ru{l:List (List aX)}{j:Nat}{t:T}{rest:List (List aX)}(h:l.length-rest.length=j):mH l (some (t,rest)) (.tuple [t.e,.bool true]) (aq l j):=⟨rfl,by rw[h]⟩
theorem b4.tm{l:List (List aX)}{i:Nat}{o:aW (T×List (List aX))}{st:aS}{e:Exit}(j:Nat)(x:T)(b:Bool)(j8:e= .ret\/e= .normal)(n7:mH l o (.tuple [x.e,.bool b]) (aq l j))(aa:∀k cs,Pv.look k (aq l j).b=some cs->Pv.look k st.b=some cs)(nb:∀k p,Pv.look k (aq l j).e=some p->Pv.look k st.e=some p)
  (h:cg st [.cell 2 true 4,.tmp 3] fun r=>r= .tuple [x.e,.bool b]):b4 [.cell 2 true 4,.tmp 3] (aq l i) (mH l o) e st:=by
 refine b4.at (aq l j) j8 (bU _ _) (ev _ _ _ _) aa nb ?_;unfold cg at h⊢;split at h
 ·rename_i c a8 hr;refine⟨h.1,?_⟩;rw[h.2];exact⟨by simp[aB,aD],n7⟩
 ·exact h.elim
theorem w6{l:List (List aX)}{i:Nat}{w:List aX}(h:l[i]? =some w):l.length-(l.drop (i+1)).length=i+1:=by have:=(fG.1 h).1;simp;omega
theorem mT{l:List (List aX)}{i:Nat}(h:i<l.length):br aI 83 [aZ] (aq l i) fun r ah=>r= .bool false/\ah=aq l i:=by have:=CJ l i;rwa[show((i:Int)==l.length)=false by simp;omega]at this
theorem B4(l:List (List aX)):br aI 83 [aZ] (aq l l.length) fun r ah=>r= .bool true/\ah=aq l l.length:=by have:=CJ l l.length;rwa[beq_self_eq_true]at this
theorem km{l:List (List aX)}{i:Nat}{w:List aX}(h:l[i]? =some w):br aI 178 [aZ] (aq l i) fun r ah=>r= .str w/\ah=aq l i:=by have:=xx l i;rwa[h]at this
theorem CP(l:List (List aX)):br aI 152 [aZ] (aq l l.length) (mH l none):=by have af:=bU l l.length;have lJ:=B4 l;simp only[aq]at af;refine br.mk mixed h1 n1 oD Ψ af.obj fun bn cb=>?_;unfold mR;clear bn cb;simp[aZ,aq];(refine bh.ob (lJ) (by first|exact bU _|exact bU ‹_› _) (by simp only[aq,aZ,cN,dx];exact ak) (by simp only[aq,aZ,cN,dx];exact ak) (by simp[au,Pv.look,aq,aZ]) ?_;rintro r ah ⟨rfl,rfl⟩;refine⟨(Same.keys (by simp[aq,aZ]) (by simp[aq,aZ])),?_⟩;simp[ba,aq,aZ]);(with_reducible repeat' first|refine a6 ?_|simp);refine b4.tm (l.length) (.nil) false Ψ (k4 (dY _) _) (by simp only[aq];exact ak) (by simp only[aq];exact ak) ?_;simp[cg,bq,bA,bp,b7,bR]
theorem Kz(l:List (List aX))(ar:l.length<=100000){i:Nat}{w:List aX}(ad:l[i]? =some w)(hw:w≠[])(DL:w.length<=bF)(be:w≠[40]):br aI 152 [aZ] (aq l i) (mH l ((e8 w).map fun t=>(t,l.drop (i+1)))):=by
 have af:=bU l i;have aM:=(fG.1 ad).1;have aY:=w6 ad;have fk:c1 ((i:Int)+1):=by unfold c1;omega
 obtain⟨c,w',rfl⟩:∃c w',w=c::w':=List.exists_cons_of_ne_nil hw;by_cases al:c=63
 ·subst al;have Mw:w'.length<=bF:=by simp at DL;omega
  have ga:=Gq w' Mw;unfold vz at ga;simp only[e8];cases aU:kY w' with
  |none=>rw[aU]at ga;simp only[jD,Option.isSome]at ga;simp only[Option.map_none];simp only[aq]at af;refine br.mk mixed h1 n1 oD Ψ af.obj fun bn cb=>?_;unfold mR;clear bn cb;simp[aZ,aq];(refine bh.ob (mT aM) (by first|exact bU _|exact bU ‹_› _) (by simp only[aq,aZ,cN,dx];exact ak) (by simp only[aq,aZ,cN,dx];exact ak) (by simp[au,Pv.look,aq,aZ]) ?_;rintro r ah ⟨rfl,rfl⟩;refine⟨(Same.keys (by simp[aq,aZ]) (by simp[aq,aZ])),?_⟩;simp[ba,aq,aZ]);(with_reducible repeat' first|refine a6 ?_|simp);(refine bh.ob (km ad) (by first|exact bU _|exact bU ‹_› _) (by simp only[aq,aZ,cN,dx];exact ak) (by simp only[aq,aZ,cN,dx];exact ak) (by simp[au,Pv.look,aq,aZ]) ?_;rintro r ah ⟨rfl,rfl⟩;refine⟨(Same.keys (by simp[aq,aZ]) (by simp[aq,aZ])),?_⟩;simp[ba,aq,aZ]);(with_reducible repeat' first|refine a6 ?_|refine b8 ga ?_|refine b9 ga ?_|refine b8 (iZ _) ?_|refine b9 (iZ _) ?_|simp[fk]);refine b4.tm (i+1) (.var 0) false Ψ (k4 Ω _) (by simp only[aq];exact ak) (by simp only[aq];exact ak) ?_;simp[cg,bq,bA,bp,b7,bR]
  |some v=>
   rw[aU]at ga;simp only[jD,Option.isSome]at ga;simp only;by_cases aH:0<=v/\v<=100000
   ·rw[cX aH];simp only[l2];simp only[aq]at af;refine br.mk mixed h1 n1 oD Ψ af.obj fun bn cb=>?_;unfold mR;clear bn cb;simp[aZ,aq];(refine bh.ob (mT aM) (by first|exact bU _|exact bU ‹_› _) (by simp only[aq,aZ,cN,dx];exact ak) (by simp only[aq,aZ,cN,dx];exact ak) (by simp[au,Pv.look,aq,aZ]) ?_;rintro r ah ⟨rfl,rfl⟩;refine⟨(Same.keys (by simp[aq,aZ]) (by simp[aq,aZ])),?_⟩;simp[ba,aq,aZ]);(with_reducible repeat' first|refine a6 ?_|simp);(refine bh.ob (km ad) (by first|exact bU _|exact bU ‹_› _) (by simp only[aq,aZ,cN,dx];exact ak) (by simp only[aq,aZ,cN,dx];exact ak) (by simp[au,Pv.look,aq,aZ]) ?_;rintro r ah ⟨rfl,rfl⟩;refine⟨(Same.keys (by simp[aq,aZ]) (by simp[aq,aZ])),?_⟩;simp[ba,aq,aZ]);(with_reducible repeat' first|refine a6 ?_|refine b8 ga ?_|refine b9 ga ?_|refine b8 (iZ _) ?_|refine b9 (iZ _) ?_|simp[fk,aH.1,aH.2]);refine b4.tm (i+1) (.var v) true Ψ (ru aY) (by simp only[aq];exact ak) (by simp only[aq];exact ak) ?_;simp[cg,bq,bA,bp,b7,bR]
   ·rw[bT aH];simp only[Option.map_none];simp only[aq]at af;refine br.mk mixed h1 n1 oD Ψ af.obj fun bn cb=>?_;unfold mR;clear bn cb;simp[aZ,aq];(refine bh.ob (mT aM) (by first|exact bU _|exact bU ‹_› _) (by simp only[aq,aZ,cN,dx];exact ak) (by simp only[aq,aZ,cN,dx];exact ak) (by simp[au,Pv.look,aq,aZ]) ?_;rintro r ah ⟨rfl,rfl⟩;refine⟨(Same.keys (by simp[aq,aZ]) (by simp[aq,aZ])),?_⟩;simp[ba,aq,aZ]);(with_reducible repeat' first|refine a6 ?_|simp);(refine bh.ob (km ad) (by first|exact bU _|exact bU ‹_› _) (by simp only[aq,aZ,cN,dx];exact ak) (by simp only[aq,aZ,cN,dx];exact ak) (by simp[au,Pv.look,aq,aZ]) ?_;rintro r ah ⟨rfl,rfl⟩;refine⟨(Same.keys (by simp[aq,aZ]) (by simp[aq,aZ])),?_⟩;simp[ba,aq,aZ]);by_cases ck:0<=v
    ·have I:¬v<=100000:=fun h=>aH ⟨ck,h⟩;(with_reducible repeat' first|refine a6 ?_|refine b8 ga ?_|refine b9 ga ?_|refine b8 (iZ _) ?_|refine b9 (iZ _) ?_|simp[fk,ck,I]);refine b4.tm (i+1) (.var v) false Ψ (k4 Ω _) (by simp only[aq];exact ak) (by simp only[aq];exact ak) ?_;simp[cg,bq,bA,bp,b7,bR]
    ·(with_reducible repeat' first|refine a6 ?_|refine b8 ga ?_|refine b9 ga ?_|refine b8 (iZ _) ?_|refine b9 (iZ _) ?_|simp[fk,ck]);refine b4.tm (i+1) (.var v) false Ψ (k4 Ω _) (by simp only[aq];exact ak) (by simp only[aq];exact ak) ?_;simp[cg,bq,bA,bp,b7,bR]
 ·have bE:e8 (c::w')=if ha (c::w')then some (.sym (c::w'))else(kY (c::w')).map .num:=by
   unfold e8;split
   ·rename_i e;cases e;exact absurd rfl al
   ·rfl
  have xI:¬c.toNat=63:=fun h=>al (UInt8.toNat_inj.1 (by simpa using h));have xJ:((c.toNat:Int)==63)=false:=beq_eq_false_iff_ne.2 Ω;have qG:(c==40&&w'.isEmpty)=false:=by
   rw[Bool.and_eq_false_iff];by_cases h:c=40
   ·right;cases w' with
    |nil=>exact absurd (by rw[h]) be
    |cons=>rfl
   ·left;simpa using h
  have oo:=Gn (c::w');rw[bE];by_cases pg:ha (c::w')=true
  ·rw[cX pg];rw[pg]at oo;simp only[l2];simp only[aq]at af;refine br.mk mixed h1 n1 oD Ψ af.obj fun bn cb=>?_;unfold mR;clear bn cb;simp[aZ,aq];(refine bh.ob (mT aM) (by first|exact bU _|exact bU ‹_› _) (by simp only[aq,aZ,cN,dx];exact ak) (by simp only[aq,aZ,cN,dx];exact ak) (by simp[au,Pv.look,aq,aZ]) ?_;rintro r ah ⟨rfl,rfl⟩;refine⟨(Same.keys (by simp[aq,aZ]) (by simp[aq,aZ])),?_⟩;simp[ba,aq,aZ]);(with_reducible repeat' first|refine a6 ?_|simp);(refine bh.ob (km ad) (by first|exact bU _|exact bU ‹_› _) (by simp only[aq,aZ,cN,dx];exact ak) (by simp only[aq,aZ,cN,dx];exact ak) (by simp[au,Pv.look,aq,aZ]) ?_;rintro r ah ⟨rfl,rfl⟩;refine⟨(Same.keys (by simp[aq,aZ]) (by simp[aq,aZ])),?_⟩;simp[ba,aq,aZ]);(with_reducible repeat' first|refine a6 ?_|refine b8 oo ?_|refine b9 oo ?_|refine b8 (GA _) ?_|refine b9 (GA _) ?_|simp[fk,xJ,qG]);refine b4.tm (i+1) (.sym (c::w')) true Ψ (ru aY) (by simp only[aq];exact ak) (by simp only[aq];exact ak) ?_;simp[cg,bq,bA,bp,b7,bR]
  ·rw[bT pg];rw[Bool.not_eq_true]at pg;rw[pg]at oo;have ga:=Gq (c::w') DL;unfold vz at ga;cases aU:kY (c::w')with
   |none=>rw[aU]at ga;simp only[jD,Option.isSome]at ga;simp only[Option.map_none];simp only[aq]at af;refine br.mk mixed h1 n1 oD Ψ af.obj fun bn cb=>?_;unfold mR;clear bn cb;simp[aZ,aq];(refine bh.ob (mT aM) (by first|exact bU _|exact bU ‹_› _) (by simp only[aq,aZ,cN,dx];exact ak) (by simp only[aq,aZ,cN,dx];exact ak) (by simp[au,Pv.look,aq,aZ]) ?_;rintro r ah ⟨rfl,rfl⟩;refine⟨(Same.keys (by simp[aq,aZ]) (by simp[aq,aZ])),?_⟩;simp[ba,aq,aZ]);(with_reducible repeat' first|refine a6 ?_|simp);(refine bh.ob (km ad) (by first|exact bU _|exact bU ‹_› _) (by simp only[aq,aZ,cN,dx];exact ak) (by simp only[aq,aZ,cN,dx];exact ak) (by simp[au,Pv.look,aq,aZ]) ?_;rintro r ah ⟨rfl,rfl⟩;refine⟨(Same.keys (by simp[aq,aZ]) (by simp[aq,aZ])),?_⟩;simp[ba,aq,aZ]);(with_reducible repeat' first|refine a6 ?_|refine b8 oo ?_|refine b9 oo ?_|refine b8 ga ?_|refine b9 ga ?_|refine b8 (wi _) ?_|refine b9 (wi _) ?_|simp[fk,xJ,qG]);refine b4.tm (i+1) (.num 0) false Ψ (k4 Ω _) (by simp only[aq];exact ak) (by simp only[aq];exact ak) ?_;simp[cg,bq,bA,bp,b7,bR]
   |some v=>rw[aU]at ga;simp only[jD,Option.isSome]at ga;simp only[l2];simp only[aq]at af;refine br.mk mixed h1 n1 oD Ψ af.obj fun bn cb=>?_;unfold mR;clear bn cb;simp[aZ,aq];(refine bh.ob (mT aM) (by first|exact bU _|exact bU ‹_› _) (by simp only[aq,aZ,cN,dx];exact ak) (by simp only[aq,aZ,cN,dx];exact ak) (by simp[au,Pv.look,aq,aZ]) ?_;rintro r ah ⟨rfl,rfl⟩;refine⟨(Same.keys (by simp[aq,aZ]) (by simp[aq,aZ])),?_⟩;simp[ba,aq,aZ]);(with_reducible repeat' first|refine a6 ?_|simp);(refine bh.ob (km ad) (by first|exact bU _|exact bU ‹_› _) (by simp only[aq,aZ,cN,dx];exact ak) (by simp only[aq,aZ,cN,dx];exact ak) (by simp[au,Pv.look,aq,aZ]) ?_;rintro r ah ⟨rfl,rfl⟩;refine⟨(Same.keys (by simp[aq,aZ]) (by simp[aq,aZ])),?_⟩;simp[ba,aq,aZ]);(with_reducible repeat' first|refine a6 ?_|refine b8 oo ?_|refine b9 oo ?_|refine b8 ga ?_|refine b9 ga ?_|refine b8 (wi _) ?_|refine b9 (wi _) ?_|simp[fk,xJ,qG]);refine b4.tm (i+1) (.num v) true Ψ (ru aY) (by simp only[aq];exact ak) (by simp only[aq];exact ak) ?_;simp[cg,bq,bA,bp,b7,bR]
theorem F9{l:List (List aX)}{i:Nat}{s:List aX}(aM:i<=1000000)(h:l[i]? =some s):br aI 177 [aZ,.str s] (aq l i) fun r ah=>r= .bool true/\ah=aq l (i+1):=by have:=CO l i aM s;rwa[cX h,decide_eq_true h]at this
theorem zQ{l:List (List aX)}{i:Nat}{s:List aX}(aM:i<=1000000)(h:l[i]?≠some s):br aI 177 [aZ,.str s] (aq l i) fun r ah=>r= .bool false/\ah=aq l i:=by have:=CO l i aM s;rwa[bT h,decide_eq_false h]at this
theorem OH(l:List (List aX)):br aI 178 [aZ] (aq l l.length) fun r ah=>r= .str []/\ah=aq l l.length:=by have:=xx l l.length;rwa[List.getElem?_eq_none (dY _)]at this
theorem zS{l:List (List aX)}{i p:Nat}{t:T}{rest:List (List aX)}(h:br aI 152 [aZ] (aq l i) (mH l (some (t,rest))))(be:l.length-rest.length=p):br aI 152 [aZ] (aq l i) fun r ah=>r= .tuple [t.e,.bool true]/\ah=aq l p:=h.mono fun r ah bD=>by rw[<-be];exact bD
theorem vV{l rest:List (List aX)}{j:Nat}(h:rest<:+l.drop j):rest=l.drop (l.length-rest.length)/\rest.length<=l.length-j:=by have I:rest<:+l:=h.trans (List.drop_suffix j l);exact⟨(Iq I).symm,by have:=h.length_le;simpa using this⟩
def ll(l:List (List aX))(x:List T×Nat×Nat):aS:=⟨[(0,.ptr (.obj 871) 0),(2,.ptr (.loc 0) 0),(5,.slice 4 (.own (.loc 1)) (x.1.map T.e))],[(.loc 0,cp),(.obj 871,[.slice 1 .no (fE l),.int .i64 x.2.1])],[(.loc 1,⟨x.1.length,40,4,none⟩)],2,[.obj 871]⟩
def rN(l:List (List aX))(acc:List T)(t:T)(p:Nat)(m:Int):aS:=⟨[(2,.ptr (.loc 0) 0),(5,.slice 4 (.own (.loc 1)) (acc.map T.e)),(6,.ptr (.loc 2) 0),(8,.int .i64 m)],[(.loc 0,cp),(.loc 2,cells (gd (acc.drop (m+1).toNat) t).e),(.obj 871,[.slice 1 .no (fE l),.int .i64 (p+1:Nat)])],[(.loc 1,⟨acc.length,40,4,none⟩)],3,[.obj 871]⟩
theorem KO(l:List (List aX))(ar:l.length<=100000)(hw:∀w∈l,w≠[]/\w.length<=bF):∀n i:Nat,i<=l.length->2*(l.length-i)+1<=n->br aI 152 [aZ] (aq l i) (mH l (gB e8 n (l.drop i))):=by
 intro n;induction n using Nat.strongRecOn with
 |_ n bz=>
 intro i uJ aU;obtain⟨n,rfl⟩:∃m,n=m+1:=⟨n-1,Ω⟩;rcases Nat.eq_or_lt_of_le uJ with rfl|aM
 ·rw[List.drop_length];exact CP l
 obtain⟨w,ad⟩:∃w,l[i]? =some w:=⟨_,eo aM⟩;have yu:=hw w (List.mem_of_getElem? ad);rw[jJ ad];by_cases be:w=[40];rotate_left
 ·have hr:gB e8 (n+1) (w::l.drop (i+1))=(e8 w).map fun t=>(t,l.drop (i+1)):=by
   simp only[gB,bT be];split
   ·rename_i h;rcases h with rfl|rfl<;>rfl
   ·rfl
  rw[hr];exact Kz l ar ad yu.1 yu.2 be
 subst be;have hr:gB e8 (n+1) ([40]::l.drop (i+1))=cv e8 n (l.drop (i+1)) []:=by simp[gB]
 rw[hr];have af:=bU l i;have fk:c1 ((i:Int)+1):=by unfold c1;omega
 obtain⟨R,hT⟩:∃R,R=cv e8 n (l.drop (i+1)) []:=⟨_,rfl⟩;rw[<-hT];simp only[aq]at af;refine br.mk mixed h1 n1 oD Ψ af.obj fun bn cb=>?_;unfold mR;clear bn cb;simp[aZ,aq];(refine bh.ob (mT aM) (by first|exact bU _|exact bU ‹_› _) (by simp only[aq,aZ,cN,dx];exact ak) (by simp only[aq,aZ,cN,dx];exact ak) (by simp[au,Pv.look,aq,aZ]) ?_;rintro r ah ⟨rfl,rfl⟩;refine⟨(Same.keys (by simp[aq,aZ]) (by simp[aq,aZ])),?_⟩;simp[ba,aq,aZ]);(with_reducible repeat' first|refine a6 ?_|simp);(refine bh.ob (km ad) (by first|exact bU _|exact bU ‹_› _) (by simp only[aq,aZ,cN,dx];exact ak) (by simp only[aq,aZ,cN,dx];exact ak) (by simp[au,Pv.look,aq,aZ]) ?_;rintro r ah ⟨rfl,rfl⟩;refine⟨(Same.keys (by simp[aq,aZ]) (by simp[aq,aZ])),?_⟩;simp[ba,aq,aZ]);(with_reducible repeat' first|refine a6 ?_|simp[fk]);refine kH (ll l) (fun x=>l.length-x.2.1) (fun x=>x.2.1<=l.length/\2*(l.length-x.2.1)+2<=x.2.2/\x.2.2<=n/\cv e8 x.2.2 (l.drop x.2.1) x.1=R/\x.1.length<=x.2.1) ([],i+1,n) (by simp[ll];exact⟨by simp[fresh,aD,aB,c6,au,Pv.look,cp],e9 (by simp[fresh,aD,aB,c6,au,Pv.look,cp]),ff (by simp[fresh,aD,aB,eQ,au,Pv.look,cp]),Ψ⟩) ⟨aM,by simp;omega,dY _,hT.symm,Ψ⟩ ?_;rintro⟨acc,j,k⟩ ⟨aC,U,x5,Dk,uA⟩ _;simp only at aC U x5 Dk uA;clear hT hr fk ad yu;subst Dk;obtain⟨k,rfl⟩:∃m,k=m+1:=⟨k-1,Ω⟩;have x4:j<=1000000:=Ω
 rcases Nat.eq_or_lt_of_le aC with rfl|nl
 ·rw[List.drop_length];simp only[cv];have e6:=zQ (l:=l) (i:=l.length) (s:=[41]) x4 Ψ;have ke:=CP l;simp[ll];refine bh.ob (e6) (bU _ _) (by simp only[aq];exact ak) (by simp only[aq];exact ak) (by simp[au,Pv.look,aq,aZ,aD,aB]) ?_;rintro r ah ⟨rfl,rfl⟩;refine⟨ev _ _ _ _,?_⟩;simp[ba,aq,aZ];(with_reducible repeat' first|refine a6 ?_|simp);refine bh.ob (OH l) (bU _ _) (by simp only[aq];exact ak) (by simp only[aq];exact ak) (by simp[au,Pv.look,aq,aZ,aD,aB]) ?_;rintro r ah ⟨rfl,rfl⟩;refine⟨ev _ _ _ _,?_⟩;simp[ba,aq,aZ];(with_reducible repeat' first|refine a6 ?_|simp);refine bh.ob (ke) (bU _ _) (by simp only[aq];exact ak) (by simp only[aq];exact ak) (by simp[au,Pv.look,aq,aZ,aD,aB]) ?_;rintro r ah ⟨x,q,bD,rfl,rfl⟩;refine⟨ev _ _ _ _,?_⟩;simp[ba,aq,aZ];(with_reducible repeat' first|refine a6 ?_|simp);refine b4.tm (q) (.nil) false Ψ (k4 bD _) (by simp only[aq];exact ak) (by simp only[aq];exact ak) ?_;simp[cg,bq,bA,bp,b7,bR]
 obtain⟨v,aH⟩:∃v,l[j]? =some v:=⟨_,eo nl⟩;rw[jJ aH];have uK:c1 ((j:Int)+1):=by unfold c1;omega
 by_cases uv:v=[41]
 ·subst uv;have qB:cv e8 (k+1) ([41]::l.drop (j+1)) acc=some (gd acc .nil,l.drop (j+1)):=by simp[cv]
  rw[qB];have e6:=F9 x4 aH;have Ec:=PQ acc;have aY:=w6 aH;simp[ll];refine bh.ob (e6) (bU _ _) (by simp only[aq];exact ak) (by simp only[aq];exact ak) (by simp[au,Pv.look,aq,aZ,aD,aB]) ?_;rintro r ah ⟨rfl,rfl⟩;refine⟨ev _ _ _ _,?_⟩;simp[ba,aq,aZ];(with_reducible repeat' first|refine a6 ?_|refine b8 Ec ?_|refine b9 Ec ?_|simp);refine b4.tm (j+1) (gd acc .nil) true Ψ (ru aY) (by simp only[aq];exact ak) (by simp only[aq];exact ak) ?_;simp[cg,bq,bA,bp,b7,bR]
 have e6:=zQ x4 (show l[j]?≠some [41] by rw[aH];simpa using uv);by_cases uw:v=[46]
 ·subst uw;have lJ:=mT nl;have iV:=bz k Ω (j+1) Ω Ω;cases hI:gB e8 k (l.drop (j+1))with
  |none=>
   rw[hI]at iV;have he:cv e8 (k+1) ([46]::l.drop (j+1)) acc=none:=by simp[cv,hI]
   rw[he];simp[ll];refine bh.ob (e6) (bU _ _) (by simp only[aq];exact ak) (by simp only[aq];exact ak) (by simp[au,Pv.look,aq,aZ,aD,aB]) ?_;rintro r ah ⟨rfl,rfl⟩;refine⟨ev _ _ _ _,?_⟩;simp[ba,aq,aZ];(with_reducible repeat' first|refine a6 ?_|simp);refine bh.ob (km aH) (bU _ _) (by simp only[aq];exact ak) (by simp only[aq];exact ak) (by simp[au,Pv.look,aq,aZ,aD,aB]) ?_;rintro r ah ⟨rfl,rfl⟩;refine⟨ev _ _ _ _,?_⟩;simp[ba,aq,aZ];(with_reducible repeat' first|refine a6 ?_|simp);refine bh.ob (lJ) (bU _ _) (by simp only[aq];exact ak) (by simp only[aq];exact ak) (by simp[au,Pv.look,aq,aZ,aD,aB]) ?_;rintro r ah ⟨rfl,rfl⟩;refine⟨ev _ _ _ _,?_⟩;simp[ba,aq,aZ];(with_reducible repeat' first|refine a6 ?_|simp[uK]);refine bh.ob (iV) (bU _ _) (by simp only[aq];exact ak) (by simp only[aq];exact ak) (by simp[au,Pv.look,aq,aZ,aD,aB]) ?_;rintro r ah ⟨x,q,bD,rfl,rfl⟩;refine⟨ev _ _ _ _,?_⟩;simp[ba,aq,aZ];(with_reducible repeat' first|refine a6 ?_|simp);refine b4.tm (q) (.nil) false Ψ (k4 bD _) (by simp only[aq];exact ak) (by simp only[aq];exact ak) ?_;simp[cg,bq,bA,bp,b7,bR]
  |some tr=>
   obtain⟨t,rest⟩:=tr;rw[hI]at iV;obtain⟨kN,qK⟩:=vV (q9 k _ _ _ hI).1;obtain⟨p,be⟩:∃p,p=l.length-rest.length:=⟨_,rfl⟩;rw[<-be]at kN;have nq:=zS iV be.symm;have gm:p<=l.length:=Ω
   by_cases bE:acc=[]
   ·subst bE;rw[show cv e8 (k+1) ([46]::l.drop (j+1)) []=none by simp[cv]];simp[ll];refine bh.ob (e6) (bU _ _) (by simp only[aq];exact ak) (by simp only[aq];exact ak) (by simp[au,Pv.look,aq,aZ,aD,aB]) ?_;rintro r ah ⟨rfl,rfl⟩;refine⟨ev _ _ _ _,?_⟩;simp[ba,aq,aZ];(with_reducible repeat' first|refine a6 ?_|simp);refine bh.ob (km aH) (bU _ _) (by simp only[aq];exact ak) (by simp only[aq];exact ak) (by simp[au,Pv.look,aq,aZ,aD,aB]) ?_;rintro r ah ⟨rfl,rfl⟩;refine⟨ev _ _ _ _,?_⟩;simp[ba,aq,aZ];(with_reducible repeat' first|refine a6 ?_|simp);refine bh.ob (lJ) (bU _ _) (by simp only[aq];exact ak) (by simp only[aq];exact ak) (by simp[au,Pv.look,aq,aZ,aD,aB]) ?_;rintro r ah ⟨rfl,rfl⟩;refine⟨ev _ _ _ _,?_⟩;simp[ba,aq,aZ];(with_reducible repeat' first|refine a6 ?_|simp[uK]);refine bh.ob (nq) (bU _ _) (by simp only[aq];exact ak) (by simp only[aq];exact ak) (by simp[au,Pv.look,aq,aZ,aD,aB]) ?_;rintro r ah ⟨rfl,rfl⟩;refine⟨ev _ _ _ _,?_⟩;simp[ba,aq,aZ];(with_reducible repeat' first|refine a6 ?_|simp);refine b4.tm (p) (.nil) false Ψ (k4 gm _) (by simp only[aq];exact ak) (by simp only[aq];exact ak) ?_;simp[cg,bq,bA,bp,b7,bR]
   ·have o4:0<acc.length:=List.length_pos_iff.2 bE;have Rh:¬acc.length=0:=Ω
    have Ri:acc.length<=100000:=Ω
    have uz:((acc.length:Int)==0)=false:=beq_eq_false_iff_ne.2 Ω;by_cases sg:l[p]? =some [41]
    ·have vd:=F9 (show p<=1000000 by omega) sg;have uZ:rest=[41]::l.drop (p+1):=by rw[kN];exact jJ sg
     rw[show cv e8 (k+1) ([46]::l.drop (j+1)) acc=some (gd acc t,l.drop (p+1)) by simp[cv,hI,uZ,bE]];have aY:=w6 sg;have o5:c1 ((acc.length:Int)-1):=by unfold c1;omega
     simp[ll];refine bh.ob (e6) (bU _ _) (by simp only[aq];exact ak) (by simp only[aq];exact ak) (by simp[au,Pv.look,aq,aZ,aD,aB]) ?_;rintro r ah ⟨rfl,rfl⟩;refine⟨ev _ _ _ _,?_⟩;simp[ba,aq,aZ];(with_reducible repeat' first|refine a6 ?_|simp);refine bh.ob (km aH) (bU _ _) (by simp only[aq];exact ak) (by simp only[aq];exact ak) (by simp[au,Pv.look,aq,aZ,aD,aB]) ?_;rintro r ah ⟨rfl,rfl⟩;refine⟨ev _ _ _ _,?_⟩;simp[ba,aq,aZ];(with_reducible repeat' first|refine a6 ?_|simp);refine bh.ob (lJ) (bU _ _) (by simp only[aq];exact ak) (by simp only[aq];exact ak) (by simp[au,Pv.look,aq,aZ,aD,aB]) ?_;rintro r ah ⟨rfl,rfl⟩;refine⟨ev _ _ _ _,?_⟩;simp[ba,aq,aZ];(with_reducible repeat' first|refine a6 ?_|simp[uK]);refine bh.ob (nq) (bU _ _) (by simp only[aq];exact ak) (by simp only[aq];exact ak) (by simp[au,Pv.look,aq,aZ,aD,aB]) ?_;rintro r ah ⟨rfl,rfl⟩;refine⟨ev _ _ _ _,?_⟩;simp[ba,aq,aZ];(with_reducible repeat' first|refine a6 ?_|simp[uz]);refine bh.ob (vd) (bU _ _) (by simp only[aq];exact ak) (by simp only[aq];exact ak) (by simp[au,Pv.look,aq,aZ,aD,aB]) ?_;rintro r ah ⟨rfl,rfl⟩;refine⟨ev _ _ _ _,?_⟩;simp[ba,aq,aZ];(with_reducible repeat' first|refine a6 ?_|simp[o5]);refine kH (rN l acc t p) (fun m=>(m+1).toNat) (fun m=> -1<=m/\m<acc.length) ((acc.length:Int)-1) (by simp[rN,gd,o5];exact⟨by simp[fresh,aD,aB,c6,au,Pv.look,cp],e9 (by simp[fresh,aD,aB,c6,au,Pv.look,cp]),ff (by simp[fresh,aD,aB,eQ,au,Pv.look,cp]),Ψ⟩) ⟨Ω,Ω⟩ ?_;rintro m ⟨Rw,Rx⟩ _;clear e6 vd iV nq lJ hI uZ kN;have LS:c1 (m-1):=by unfold c1;omega
     by_cases nj:0<=m
     ·obtain⟨m,rfl⟩:∃a:Nat,m=a:=⟨m.toNat,Ω⟩;have x7:m<acc.length:=Ω
      obtain⟨y,b6,u2⟩:=lr x7;have me:((m:Int)+1).toNat=m+1:=Ω
      have ai:((m:Int)-1+1).toNat=m:=Ω
      have Ed:=wj y (gd (acc.drop (m+1)) t);simp[rN,me,x7,u2];(with_reducible repeat' first|refine a6 ?_|refine b8 Ed ?_|refine b9 Ed ?_|simp[x7,u2,LS]);refine dD.whl ((m:Int)-1) Ω ⟨Ω,Ω⟩ ?_;simp only[rN,ai];rw[Ei b6];simp;exact⟨by simp[fresh,aD,aB,c6,au,Pv.look,cp],e9 (by simp[fresh,aD,aB,c6,au,Pv.look,cp]),ff (by simp[fresh,aD,aB,eQ,au,Pv.look,cp]),Ψ⟩
     ·obtain rfl:m= -1:=Ω
      simp[rN];(with_reducible repeat' first|refine a6 ?_|simp);refine b4.tm (p+1) (gd acc t) true Ψ (ru aY) (by simp only[aq];exact ak) (by simp only[aq];exact ak) ?_;simp[cg,bq,bA,bp,b7,bR]
    ·have vd:=zQ (show p<=1000000 by omega) sg;have iz:cv e8 (k+1) ([46]::l.drop (j+1)) acc=none:=by
      cases rest with
      |nil=>simp[cv,hI,bE]
      |cons v r=>
       have:l[p]? =some v:=by rw[<-List.head?_drop,<-kN];rfl
       have Mr:¬v=[41]:=by rintro rfl;exact sg this
       simp[cv,hI,bE,Mr]
     rw[iz];simp[ll];refine bh.ob (e6) (bU _ _) (by simp only[aq];exact ak) (by simp only[aq];exact ak) (by simp[au,Pv.look,aq,aZ,aD,aB]) ?_;rintro r ah ⟨rfl,rfl⟩;refine⟨ev _ _ _ _,?_⟩;simp[ba,aq,aZ];(with_reducible repeat' first|refine a6 ?_|simp);refine bh.ob (km aH) (bU _ _) (by simp only[aq];exact ak) (by simp only[aq];exact ak) (by simp[au,Pv.look,aq,aZ,aD,aB]) ?_;rintro r ah ⟨rfl,rfl⟩;refine⟨ev _ _ _ _,?_⟩;simp[ba,aq,aZ];(with_reducible repeat' first|refine a6 ?_|simp);refine bh.ob (lJ) (bU _ _) (by simp only[aq];exact ak) (by simp only[aq];exact ak) (by simp[au,Pv.look,aq,aZ,aD,aB]) ?_;rintro r ah ⟨rfl,rfl⟩;refine⟨ev _ _ _ _,?_⟩;simp[ba,aq,aZ];(with_reducible repeat' first|refine a6 ?_|simp[uK]);refine bh.ob (nq) (bU _ _) (by simp only[aq];exact ak) (by simp only[aq];exact ak) (by simp[au,Pv.look,aq,aZ,aD,aB]) ?_;rintro r ah ⟨rfl,rfl⟩;refine⟨ev _ _ _ _,?_⟩;simp[ba,aq,aZ];(with_reducible repeat' first|refine a6 ?_|simp[uz]);refine bh.ob (vd) (bU _ _) (by simp only[aq];exact ak) (by simp only[aq];exact ak) (by simp[au,Pv.look,aq,aZ,aD,aB]) ?_;rintro r ah ⟨rfl,rfl⟩;refine⟨ev _ _ _ _,?_⟩;simp[ba,aq,aZ];(with_reducible repeat' first|refine a6 ?_|simp);refine b4.tm (p) (.nil) false Ψ (k4 gm _) (by simp only[aq];exact ak) (by simp only[aq];exact ak) ?_;simp[cg,bq,bA,bp,b7,bR]
 ·have iV:=bz k Ω j aC Ω;have fZ:(v==[46])=false:=beq_eq_false_iff_ne.2 uw;rw[jJ aH]at iV;cases hI:gB e8 k (v::l.drop (j+1))with
  |none=>rw[hI]at iV;rw[show cv e8 (k+1) (v::l.drop (j+1)) acc=none by simp[cv,hI,uv,uw]];simp[ll];refine bh.ob (e6) (bU _ _) (by simp only[aq];exact ak) (by simp only[aq];exact ak) (by simp[au,Pv.look,aq,aZ,aD,aB]) ?_;rintro r ah ⟨rfl,rfl⟩;refine⟨ev _ _ _ _,?_⟩;simp[ba,aq,aZ];(with_reducible repeat' first|refine a6 ?_|simp);refine bh.ob (km aH) (bU _ _) (by simp only[aq];exact ak) (by simp only[aq];exact ak) (by simp[au,Pv.look,aq,aZ,aD,aB]) ?_;rintro r ah ⟨rfl,rfl⟩;refine⟨ev _ _ _ _,?_⟩;simp[ba,aq,aZ];(with_reducible repeat' first|refine a6 ?_|simp[fZ]);refine bh.ob (iV) (bU _ _) (by simp only[aq];exact ak) (by simp only[aq];exact ak) (by simp[au,Pv.look,aq,aZ,aD,aB]) ?_;rintro r ah ⟨x,q,bD,rfl,rfl⟩;refine⟨ev _ _ _ _,?_⟩;simp[ba,aq,aZ];(with_reducible repeat' first|refine a6 ?_|simp);refine b4.tm (q) (.nil) false Ψ (k4 bD _) (by simp only[aq];exact ak) (by simp only[aq];exact ak) ?_;simp[cg,bq,bA,bp,b7,bR]
  |some tr=>
   obtain⟨t,rest⟩:=tr;rw[hI]at iV;obtain⟨DG,DH⟩:=q9 k _ _ _ hI;rw[<-jJ aH]at DG DH;obtain⟨kN,qK⟩:=vV DG;obtain⟨p,be⟩:∃p,p=l.length-rest.length:=⟨_,rfl⟩;rw[<-be]at kN;have nq:=zS iV be.symm;have gm:p<=l.length:=Ω
   have Rz:j<p:=by simp at DH;omega
   rw[show cv e8 (k+1) (v::l.drop (j+1)) acc=cv e8 k rest (acc++[t]) by simp[cv,hI,uv,uw]];have o4:acc.length+1<=bF:=by unfold bF;omega
   simp[ll];refine bh.ob (e6) (bU _ _) (by simp only[aq];exact ak) (by simp only[aq];exact ak) (by simp[au,Pv.look,aq,aZ,aD,aB]) ?_;rintro r ah ⟨rfl,rfl⟩;refine⟨ev _ _ _ _,?_⟩;simp[ba,aq,aZ];(with_reducible repeat' first|refine a6 ?_|simp);refine bh.ob (km aH) (bU _ _) (by simp only[aq];exact ak) (by simp only[aq];exact ak) (by simp[au,Pv.look,aq,aZ,aD,aB]) ?_;rintro r ah ⟨rfl,rfl⟩;refine⟨ev _ _ _ _,?_⟩;simp[ba,aq,aZ];(with_reducible repeat' first|refine a6 ?_|simp[fZ]);refine bh.ob (nq) (bU _ _) (by simp only[aq];exact ak) (by simp only[aq];exact ak) (by simp[au,Pv.look,aq,aZ,aD,aB]) ?_;rintro r ah ⟨rfl,rfl⟩;refine⟨ev _ _ _ _,?_⟩;simp[ba,aq,aZ];(with_reducible repeat' first|refine a6 ?_|simp[o4]);refine dD.whl (acc++[t],p,k) (by simp;omega) ⟨gm,by simp;omega,by simp;omega,by simp[<-kN],by simp;omega⟩ ?_;simp[ll];exact⟨by simp[fresh,aD,aB,c6,au,Pv.look,cp,dO],e9 (by simp[fresh,aD,aB,c6,au,Pv.look,cp,dO]),ff (by simp[fresh,aD,aB,eQ,au,Pv.look,cp,dO]),Ψ⟩
theorem CM(l:List (List aX))(ar:l.length<=100000)(hw:∀w∈l,w≠[]/\w.length<=bF)(i:Nat)(aM:i<=l.length):br aI 84 [aZ] (aq l i) (mH l (jW (l.drop i))):=by
 have af:=bU l i;have iV:=KO l ar hw (2*(l.length-i)+1) i aM (dY _);cases hI:gB e8 (2*(l.length-i)+1) (l.drop i)with
 |none=>rw[hI]at iV;rw[show jW (l.drop i)=none by unfold jW;rw[List.length_drop,hI]];simp only[aq]at af;refine br.mk mixed h1 xm za Ψ af.obj fun bn cb=>?_;unfold tS;clear bn cb;simp[aZ,aq];refine bh.ob (iV) (bU _ _) (by simp only[aq];exact ak) (by simp only[aq];exact ak) (by simp[au,Pv.look,aq,aZ,aD,aB]) ?_;rintro r ah ⟨x,q,bD,rfl,rfl⟩;refine⟨ev _ _ _ _,?_⟩;simp[ba,aq,aZ];(with_reducible repeat' first|refine a6 ?_|simp);refine b4.tm (q) (.nil) false Ψ (k4 bD _) (by simp only[aq];exact ak) (by simp only[aq];exact ak) ?_;simp[cg,bq,bA,bp,b7,bR]
 |some tr=>
  obtain⟨t,rest⟩:=tr;rw[hI]at iV;obtain⟨kN,qK⟩:=vV (q9 _ _ _ _ hI).1;have nq:=zS iV rfl;have lI:=z6 t;rw[show jW (l.drop i)=if t.fit then some (t,rest)else none by unfold jW;rw[List.length_drop,hI]];simp only[aq]at af;by_cases aF:t.fit=true
  ·rw[cX aF];rw[aF]at lI;refine br.mk mixed h1 xm za Ψ af.obj fun bn cb=>?_;unfold tS;clear bn cb;simp[aZ,aq];refine bh.ob (nq) (bU _ _) (by simp only[aq];exact ak) (by simp only[aq];exact ak) (by simp[au,Pv.look,aq,aZ,aD,aB]) ?_;rintro r ah ⟨rfl,rfl⟩;refine⟨ev _ _ _ _,?_⟩;simp[ba,aq,aZ];(with_reducible repeat' first|refine a6 ?_|refine b8 lI ?_|refine b9 lI ?_|simp);refine b4.tm (l.length-rest.length) (t) true Ψ (ru rfl) (by simp only[aq];exact ak) (by simp only[aq];exact ak) ?_;simp[cg,bq,bA,bp,b7,bR]
  ·rw[bT aF];rw[Bool.not_eq_true]at aF;rw[aF]at lI;refine br.mk mixed h1 xm za Ψ af.obj fun bn cb=>?_;unfold tS;clear bn cb;simp[aZ,aq];refine bh.ob (nq) (bU _ _) (by simp only[aq];exact ak) (by simp only[aq];exact ak) (by simp[au,Pv.look,aq,aZ,aD,aB]) ?_;rintro r ah ⟨rfl,rfl⟩;refine⟨ev _ _ _ _,?_⟩;simp[ba,aq,aZ];(with_reducible repeat' first|refine a6 ?_|refine b8 lI ?_|refine b9 lI ?_|simp);refine b4.tm (l.length-rest.length) (.nil) false Ψ (k4 Ω _) (by simp only[aq];exact ak) (by simp only[aq];exact ak) ?_;simp[cg,bq,bA,bp,b7,bR]
theorem FZ{α:Type}{p:α->Bool}{s:List α}{i k:Nat}(ib:i<=k)(U:k<=s.length)(j6:∀c∈(s.drop i).take (k-i),p c=true)(j9:∀c,s[k]? =some c->p c=false):(s.drop i).takeWhile p=(s.drop i).take (k-i)/\(s.drop i).dropWhile p=s.drop k:=by
 have I:s.drop i=(s.drop i).take (k-i)++s.drop k:=by have:=(List.take_append_drop (k-i) (s.drop i)).symm;rwa[List.drop_drop,show i+(k-i)=k by omega]at this
 have J:(s.drop k).takeWhile p=[]/\(s.drop k).dropWhile p=s.drop k:=by
  cases h:s.drop k with
  |nil=>simp
  |cons c r=>
   have:s[k]? =some c:=by rw[<-List.head?_drop,h];rfl
   have al:=j9 c this;simp[al]
 constructor
 ·conv=>lhs;rw[I]
  rw[List.takeWhile_append_of_pos j6,J.1,List.append_nil]
 ·conv=>lhs;rw[I]
  rw[List.dropWhile_append_of_pos j6,J.2]
def nL(o:aW (List (List aX))):ae:=match o with
 |some l=>.tuple [.slice 1 .no (fE l),.bool true]
 |none=>.tuple [.slice 1 .no [],.bool false]
theorem NI(c:aX):kW c=true↔(c.toNat:Int)=10\/(32<=(c.toNat:Int)/\(c.toNat:Int)<=126):=by
 unfold kW;simp only[Bool.or_eq_true,cI,bt,eu];have:c=10↔c.toNat=10:=by rw[<-UInt8.toNat_inj];rfl
 rw[this];omega
theorem rv{c d:aX}(h:c≠d):((c.toNat:Int)==(d.toNat:Int))=false:=beq_eq_false_iff_ne.2 fun e=>h (UInt8.toNat_inj.1 Ω)
theorem ry{c d:aX}(h:c≠d):((c.toNat:Int) !=(d.toNat:Int))=true:=by simp only[bne,rv h];rfl
theorem kU(S:av->Prop)(l:List (List aX)):aD S (l.map ae.str)=True:=MX S l
theorem PM(s:List aX)(af:s.length<=bF):c8 aI 82 [.str s] (nL (iI s)):=by
 by_cases I:s.length<=100000;rotate_left
 ·have:iI s=none:=by unfold iI;rw[bT (fun h=>I h.1)]
  rw[this,nL];have qq:(100000:Int)<s.length:=Ω
  refine dS gq Cn EH fun bn=>?_;unfold wP;simp[qq];simp[dy,q8,bq,bA,bp]
 have qq:¬(100000:Int)<s.length:=Ω
 generalize hT:nL (iI s)=R;have K2:aB (fun _=>cU) R:=by rw[<-hT];unfold nL;split<;>simp[aB,aD]
 refine dS gq Cn EH (fun bn=>?_) (hr:=K2);unfold wP;clear bn;simp[qq];refine kH (fun i:Nat=>⟨[(0,.str s),(4,.int .i64 i)],[],[],0,[]⟩) (fun i=>s.length-i) (fun i=>i<=s.length/\∀c∈s.take i,kW c=true) 0 gE ⟨Ω,Ψ⟩ ?_;rintro i ⟨aM,ez⟩ _;rcases Nat.eq_or_lt_of_le aM with rfl|bS
 ·rw[List.take_length]at ez;have j6:∀c∈s,kW c=true:=ez;simp;refine kH (fun x:List (List aX)×Nat=>⟨[(0,.str s),(5,.slice 1 (.own (.loc 0)) (fE x.1)),(6,.int .i64 x.2)],[],[(.loc 0,⟨x.1.length,9,1,none⟩)],1,[]⟩) (fun x=>s.length-x.2) (fun x=>x.2<=s.length/\x.1++ee (s.drop x.2)=ee s/\x.1.length<=x.2) ([],0) (by simp[fE];exact gE) ⟨Ψ,Ψ,Ψ⟩ ?_;rintro⟨out,i⟩ ⟨aM,hinv,sF⟩ _;simp only at aM hinv sF;rcases Nat.eq_or_lt_of_le aM with rfl|bS
  ·rw[List.drop_length,rq,List.append_nil]at hinv;subst hinv;by_cases aU:(ee s).length<=20000
   ·have jr:¬(20000:Int)<(ee s).length:=Ω
    have az:iI s=some (ee s):=by unfold iI;rw[cX ⟨I,j6,aU⟩]
    simp[jr];rw[<-hT,az,nL];simp[dy,q8,bq,bA,bp]
   ·have jr:(20000:Int)<(ee s).length:=Ω
    have az:iI s=none:=by unfold iI;rw[bT fun h=>aU h.2.2]
    simp[jr];rw[<-hT,az,nL];simp[dy,q8,bq,bA,bp]
  ·obtain⟨c,al,ng⟩:=lr bS;have fk:c1 ((i:Int)+1):=by unfold c1;omega
   have Dz:out.length+1<=bF:=by unfold bF;omega
   rw[jJ al,rp]at hinv;by_cases kO:c=32\/c=10
   ·rw[cX kO]at hinv;rcases kO with rfl|rfl;all_goals
     simp[bS,ng,al,fk]
     refine dD.whl (out,i+1) (by simp;omega) ⟨bS,hinv,by simp;omega⟩ gE
   rw[bT kO]at hinv;have n32:((c.toNat:Int)==32)=false:=rv (d:=32) fun h=>kO (.inl h);have n10:((c.toNat:Int)==10)=false:=rv (d:=10) fun h=>kO (.inr h);by_cases si:c=59
   ·rw[cX si]at hinv;subst si;simp[bS,ng,al,fk];refine kH (fun k:Nat=>⟨[(0,.str s),(5,.slice 1 (.own (.loc 0)) (fE out)),(6,.int .i64 k)],[],[(.loc 0,⟨out.length,9,1,none⟩)],1,[]⟩) (fun k=>s.length-k) (fun k=>i<=k/\k<=s.length/\∀c∈(s.drop i).take (k-i),mA c=true) i gE ⟨dY _,aM,Ψ⟩ ?_;rintro k ⟨ss,pb,su⟩ _;have j9:(∀c,s[k]? =some c->mA c=false)->i<k->k<=s.length/\out++ee (s.drop k)=ee s/\out.length<=k:=by intro he ib;refine⟨pb,?_,Ω⟩;have aY:=(FZ ss pb su he).2;rw[jJ al]at aY;rw[<-hinv,<-aY];rfl
    have ib:(∀c,s[k]? =some c->mA c=false)->i<k:=by
     intro he;rcases Nat.lt_or_ge i k with h|h
     ·exact h
     ·have:k=i:=Ω
      subst this;exact absurd (he 59 al) (by decide)
    rcases Nat.eq_or_lt_of_le pb with rfl|hklt
    ·have he:∀c,s[s.length]? =some c->mA c=false:=fun c h=>by simp at h
     simp;refine dD.whl (out,s.length) (by simp;omega) (j9 he (ib he)) gE
    ·obtain⟨d,aY,hdi⟩:=lr hklt;have sw:c1 ((k:Int)+1):=by unfold c1;omega
     by_cases qs:d=10
     ·subst qs;have he:∀c,s[k]? =some c->mA c=false:=fun c h=>by rw[aY]at h;cases h;rfl
      simp[hklt,hdi,aY];refine dD.whl (out,k) (by have:=ib he;simp;omega) (j9 he (ib he)) gE
     ·have aU:((d.toNat:Int) !=10)=true:=ry (d:=10) qs;simp[hklt,hdi,aY,aU,sw];refine dD.whl (k+1) Ω ⟨Ω,hklt,fun x ad=>?_⟩ gE;rw[show k+1-i=(k-i)+1 by omega,List.take_add_one,List.getElem?_drop,show i+(k-i)=k by omega,aY]at ad;rcases ht.1 ad with ad|ad
      ·exact su x ad
      ·simp at ad;subst ad;simp[mA,qs]
   rw[bT si]at hinv;have Nr:((c.toNat:Int)==59)=false:=rv (d:=59) si;by_cases qH:c=40\/c=41
   ·rw[cX qH]at hinv;have Mo:(s.take (i+1)).drop i=[c]:=by rw[List.drop_take,jJ al];simp
    have hle:(i:Int)<=i+1:=Ω
    rcases qH with rfl|rfl;all_goals
     simp[bS,ng,al,fk,Mo,hle,Dz]
     refine⟨Ω,?_⟩
     refine dD.whl (out++[[_]],i+1) (by simp;omega) ⟨bS,(by simpa using hinv),by simp;omega⟩ (by simp[fE];exact⟨by simp[fresh,aD,aB,c6,au,Pv.look,dO,kU],e9 (by simp[fresh,aD,aB,c6,au,Pv.look,dO,kU]),ff (by simp[fresh,aD,aB,eQ,au,Pv.look,dO,kU]),Ψ⟩)
   rw[bT qH]at hinv;have Np:((c.toNat:Int)==40)=false:=rv (d:=40) fun h=>qH (.inl h);have Nq:((c.toNat:Int)==41)=false:=rv (d:=41) fun h=>qH (.inr h);have xL:fx c=true:=(qN c).2 ⟨kO,si,qH⟩;simp[bS,ng,al,n32,n10,Nr,Np,Nq];refine kH (fun k:Nat=>⟨[(0,.str s),(5,.slice 1 (.own (.loc 0)) (fE out)),(6,.int .i64 i),(8,.int .i64 k)],[],[(.loc 0,⟨out.length,9,1,none⟩)],1,[]⟩) (fun k=>s.length-k) (fun k=>i<=k/\k<=s.length/\∀c∈(s.drop i).take (k-i),fx c=true) i gE ⟨dY _,aM,Ψ⟩ ?_;rintro k ⟨ss,pb,su⟩ _;have ib:(∀c,s[k]? =some c->fx c=false)->i<k:=by
    intro he;rcases Nat.lt_or_ge i k with h|h
    ·exact h
    ·have:k=i:=Ω
     subst this;have:=he _ al;rw[xL]at this;cases this
   have j9:(∀c,s[k]? =some c->fx c=false)->k<=s.length/\(out++[(s.take k).drop i])++ee (s.drop k)=ee s/\(out++[(s.take k).drop i]).length<=k:=by intro he;have Rs:=ib he;refine⟨pb,?_,by simp;omega⟩;obtain⟨az,aY⟩:=FZ ss pb su he;rw[jJ al,List.takeWhile_cons,cX xL]at az;rw[jJ al,List.dropWhile_cons,cX xL]at aY;rw[az,aY,<-jJ al]at hinv;rw[List.drop_take,jb];exact hinv
   have DA:out.length+1<=bF:=Dz;have oa:(i:Int)<=k:=Ω
   have Dm:(k:Int)<=s.length:=Ω
   rcases Nat.eq_or_lt_of_le pb with rfl|hklt
   ·have he:∀c,s[s.length]? =some c->fx c=false:=fun c h=>by simp at h
    have fm:=ib he;simp[oa,Dm,DA];refine dD.whl (out++[(s.take s.length).drop i],s.length) (by simp;omega) (j9 he) (by simp[fE];exact⟨by simp[fresh,aD,aB,c6,au,Pv.look,dO,kU],e9 (by simp[fresh,aD,aB,c6,au,Pv.look,dO,kU]),ff (by simp[fresh,aD,aB,eQ,au,Pv.look,dO,kU]),Ψ⟩)
   ·obtain⟨d,aY,hdi⟩:=lr hklt;have sw:c1 ((k:Int)+1):=by unfold c1;omega
    by_cases hw:fx d=true
    ·obtain⟨Ac,PV,GD⟩:=(qN d).1 hw;have m32:((d.toNat:Int) !=32)=true:=ry (d:=32) fun h=>Ac (.inl h);have m10:((d.toNat:Int) !=10)=true:=ry (d:=10) fun h=>Ac (.inr h);have Nf:((d.toNat:Int) !=59)=true:=ry (d:=59) PV;have Nc:((d.toNat:Int) !=40)=true:=ry (d:=40) fun h=>GD (.inl h);have Nd:((d.toNat:Int) !=41)=true:=ry (d:=41) fun h=>GD (.inr h);simp[hklt,hdi,aY,m32,m10,Nf,Nc,Nd,sw];refine dD.whl (k+1) Ω ⟨Ω,hklt,fun x ad=>?_⟩ gE;rw[show k+1-i=(k-i)+1 by omega,List.take_add_one,List.getElem?_drop,show i+(k-i)=k by omega,aY]at ad;rcases ht.1 ad with ad|ad
     ·exact su x ad
     ·simp at ad;subst ad;exact hw
    ·rw[Bool.not_eq_true]at hw;have he:∀c,s[k]? =some c->fx c=false:=fun c h=>by rw[aY]at h;cases h;exact hw
     have kK:d=32\/d=10\/d=40\/d=41\/d=59:=by
      unfold fx kC at hw;simp at hw;by_cases bk:d=32
      ·exact .inl bk
      by_cases a2:d=10
      ·exact .inr (.inl a2)
      by_cases a3:d=40
      ·exact .inr (.inr (.inl a3))
      by_cases a4:d=41
      ·exact .inr (.inr (.inr (.inl a4)))
      exact .inr (.inr (.inr (.inr (hw bk a2 a3 a4))))
     have nb:=j9 he;have fm:=ib he;rcases kK with rfl|rfl|rfl|rfl|rfl;all_goals
      simp[hklt,hdi,aY,oa,Dm,DA]
      refine dD.whl (out++[(s.take k).drop i],k) (by simp;omega) nb (by simp[fE];exact⟨by simp[fresh,aD,aB,c6,au,Pv.look,dO,kU],e9 (by simp[fresh,aD,aB,c6,au,Pv.look,dO,kU]),ff (by simp[fresh,aD,aB,eQ,au,Pv.look,dO,kU]),Ψ⟩)
 ·obtain⟨c,al,ng⟩:=lr bS;have fk:c1 ((i:Int)+1):=by unfold c1;omega
  have kL:=NI c;by_cases qs:(c.toNat:Int)=10
  ·have sB:((c.toNat:Int) !=10)=false:=by simpa using qs
   simp[bS,ng,al,sB,fk];refine dD.whl (i+1) Ω ⟨bS,fun x ad=>?_⟩ gE;rw[List.take_add_one,al]at ad;rcases ht.1 ad with ad|ad
   ·exact ez x ad
   ·simp at ad;subst ad;rw[kL];omega
  ·have sB:((c.toNat:Int) !=10)=true:=by simpa using qs
   by_cases xC:(c.toNat:Int)<32
   ·have lx:kW c=false:=by rw[Bool.eq_false_iff];intro h;rw[kL]at h;omega
    simp[bS,ng,al,sB,xC,fk];have az:iI s=none:=by unfold iI;rw[bT];intro h;have:=h.2.1 c (List.mem_of_getElem? al);rw[lx]at this;cases this
    rw[<-hT,az,nL];simp[dy,q8,bq,bA,bp]
   ·by_cases CY:126<(c.toNat:Int)
    ·have lx:kW c=false:=by rw[Bool.eq_false_iff];intro h;rw[kL]at h;omega
     simp[bS,ng,al,sB,xC,CY,fk];have az:iI s=none:=by unfold iI;rw[bT];intro h;have:=h.2.1 c (List.mem_of_getElem? al);rw[lx]at this;cases this
     rw[<-hT,az,nL];simp[dy,q8,bq,bA,bp]
    ·simp[bS,ng,al,sB,xC,CY,fk];refine dD.whl (i+1) Ω ⟨bS,fun x ad=>?_⟩ gE;rw[List.take_add_one,al]at ad;rcases ht.1 ad with ad|ad
     ·exact ez x ad
     ·simp at ad;subst ad;rw[kL];omega
theorem FY{l:List aN}(h:jz l):∀b∈l,(0<=b.v/\b.v<=100000)/\b.t.ok=true/\b.t.size<=5000:=fun b aa=>⟨(h.ok b aa).1,(h.ok b aa).2,h.fits.2 b aa⟩
theorem Ci{l:List aN}(h:jz l):(h7 l).length<=bF:=by have I:=Ch (m:=5000) (FY h);have J:=h.fits.1;have aj:l.length*(26*5000+28)<=400*(26*5000+28):=l1 _ J;unfold bF;omega
theorem Hu{l:List aN}{i:Nat}{b:aN}(h:l[i]? =some b):h4 (l.take (i+1))=h4 (l.take i)++[b2 (.var b.v),b2 b.t]:=by rw[List.take_add_one,h];simp[h4]
theorem Ht(l:List aN):(h4 l).length=2*l.length:=by
 induction l with
 |nil=>rfl
 |cons b l bz=>simp only[h4,lf,e0,ir,List.length_nil]at bz⊢;omega
theorem PE{l:List aN}(h:jz l):c8 aI 23 [.slice 5 .no (l.map aN.e)] (.str (h7 l)):=by
 have cl:=nN h;have DZ:=PF (h4 l) [32] (Ci h);have qF:=h.fits.1;refine dS h1 Jy NN fun bn=>?_;unfold A7;clear bn;simp;(with_reducible repeat' first|refine a6 ?_|refine b8 cl ?_|refine b9 cl ?_|simp);refine oW (fun i (p:List (List aX))=>⟨[(10,.slice 5 .no (l.map aN.e)),(11,.int .i64 l.length),(3,.slice 1 (.own (.loc 0)) (fE p)),(12,.int .i64 i)],[],[(.loc 0,⟨p.length,9,1,none⟩)],1,[]⟩) l.length (fun i p=>p=h4 (l.take i)) [] (by simp[show fE []=[]from rfl];exact gE) (by simp[h4]) (fun p aC _=>?_) (fun i p aM aC _=>?_)
 ·rw[List.take_of_length_le (dY _)]at aC;subst aC;simp;(with_reducible repeat' first|refine a6 ?_|refine b8 DZ ?_|refine b9 DZ ?_|simp);all_goals simp[dy,E0,bq,bA,bp,h7]
 ·obtain⟨b,aH,fm⟩:=lr aM;have aa:=FY h b (List.mem_of_getElem? aH);have gm:p.length+2<=bF:=by rw[aC,Ht];simp;unfold bF;omega
  have dv:=Gm (.var b.v) (rC aa.1);have e6:=Gm b.t (by unfold T.fit;rw[aa.2.1];simpa using aa.2.2);have oe:p++[b2 (.var b.v),b2 b.t]=h4 (l.take (i+1)):=by rw[Hu aH,aC]
  simp[aM,fm];(with_reducible repeat' first|refine a6 ?_|refine b8 (iZ b.v) ?_|refine b9 (iZ b.v) ?_|refine b8 dv ?_|refine b9 dv ?_|refine b8 e6 ?_|refine b9 e6 ?_|simp[aM,fm,gm]);refine dD.rng (p++[b2 (.var b.v),b2 b.t]) aM oe ?_;simp[fE];exact⟨by simp[fresh,aD,aB,c6,au,Pv.look,dO,kU],e9 (by simp[fresh,aD,aB,c6,au,Pv.look,dO,kU]),ff (by simp[fresh,aD,aB,eQ,au,Pv.look,dO,kU]),Ψ⟩
theorem tx:∀(n:Nat) (s:List aX),s.length<=n->∀t∈ee s,t.length<=s.length
 |_,[],_=>by rw[rq];simp
 |0,_::_,h=>by simp at h
 |n+1,c::r,h=>by
  simp only[ir]at h;have aY:(r.dropWhile mA).length<=r.length:=(List.dropWhile_suffix _).length_le;have hw:(r.dropWhile fx).length<=r.length:=(List.dropWhile_suffix _).length_le;have az:(r.takeWhile fx).length<=r.length:=(List.takeWhile_prefix _).length_le;rw[rp];split
  ·intro t az;have:=tx n r Ω t az;simp;omega
  ·split
   ·intro t az;have:=tx n _ Ω t az;simp;omega
   ·split
    ·intro t az;simp only[ft]at az;rcases az with rfl|az
     ·simp
     ·have:=tx n r Ω t az;simp;omega
    ·intro t az;simp only[ft]at az;rcases az with rfl|az
     ·simp;omega
     ·have:=tx n _ Ω t az;simp;omega
theorem Px{s:List aX}{l:List (List aX)}(h:iI s=some l):l.length<=20000/\∀w∈l,w≠[]/\w.length<=bF:=by
 unfold iI at h;split at h
 ·rename_i al;cases h;refine⟨al.2.2,fun w hw=>⟨tz _ s (dY _) w hw,?_⟩⟩;have:=tx _ s (dY _) w hw;unfold bF;omega
 ·cases h
theorem O2{n:Nat}{w:List aX}{l:List (List aX)}{cJ:List aN}(h:mF n (w::l)=some cJ):∃m v r t dW mP,n=m+1/\jW (w::l)=some (.var v,r)/\jW r=some (t,dW)/\mF m dW=some mP/\cJ=⟨v,t⟩::mP:=by
 cases n with
 |zero=>simp[mF]at h
 |succ m=>
  simp only[mF]at h;split at h
  ·rename_i v r I;split at h
   ·rename_i t dW J;rw[hv]at h;obtain⟨mP,aj,aO⟩:=h;exact⟨m,v,r,t,dW,mP,rfl,I,J,aj,aO.symm⟩
   ·cases h
  ·cases h
theorem Gd{l rest:List (List aX)}{i:Nat}{t:T}(h:jW (l.drop i)=some (t,rest))(aM:i<=l.length):∃p,p<=l.length/\i<p/\rest=l.drop p/\l.length-rest.length=p:=by obtain⟨I,J⟩:=Py _ _ _ h;obtain⟨bk,a2⟩:=vV I;simp at J;exact⟨l.length-rest.length,Ω,Ω,bk,rfl⟩
theorem ED{l:List (List aX)}{i p:Nat}{t:T}{rest:List (List aX)}(h:br aI 84 [aZ] (aq l i) (mH l (some (t,rest))))(be:l.length-rest.length=p):br aI 84 [aZ] (aq l i) fun r ah=>r= .tuple [t.e,.bool true]/\ah=aq l p:=h.mono fun r ah bD=>by rw[<-be];exact bD
def rM(l:List (List aX))(x:List aN×Nat×Nat):aS:=⟨[(6,.ptr (.obj 871) 0),(7,.slice 5 (.own (.loc 0)) (x.1.map aN.e))],[(.obj 871,[.slice 1 .no (fE l),.int .i64 x.2.1])],[(.loc 0,⟨x.1.length,120,5,none⟩)],1,[.obj 871]⟩
theorem PK{s:List aX}(af:s.length<=bF){cJ:List aN}(hr:vC s=some cJ)(aa:jz cJ):c8 aI 22 [.str s] (.tuple [.slice 5 .no (cJ.map aN.e),.bool true]):=by
 have lI:=PM s af;have pt:=nN aa;unfold vC at hr;split at hr
 ·cases hr
 rename_i l ar;rw[ar]at lI;simp only[nL]at lI;obtain⟨Dn,ix⟩:=Px ar;refine dS h1 JD NS fun bn=>?_;unfold Bc;clear bn;simp;(with_reducible repeat' first|refine a6 ?_|refine b8 lI ?_|refine b9 lI ?_|simp);refine kH (rM l) (fun x=>l.length-x.2.1) (fun x=>x.2.1<=l.length/\∃mP,mF x.2.2 (l.drop x.2.1)=some mP/\x.1++mP=cJ) ([],0,l.length) (by simp[rM];exact gE) ⟨Ψ,cJ,hr,rfl⟩ ?_;rintro⟨out,i,k⟩ ⟨aM,mP,iP,lD⟩ _;simp only at aM iP lD;rcases Nat.eq_or_lt_of_le aM with rfl|bS
 ·have he:mP=[]:=by rw[List.drop_length]at iP;cases k<;>(simp[mF]at iP;exact iP)
  rw[he,List.append_nil]at lD;subst lD;have lJ:=B4 l;simp[rM];refine bh.ob (lJ) (bU _ _) (by simp only[aq];exact ak) (by simp only[aq];exact ak) (by simp[au,Pv.look,aq,aZ,aD,aB]) ?_;rintro r ah ⟨rfl,rfl⟩;refine⟨ev _ _ _ _,?_⟩;simp[ba,aq,aZ];exact ij
 ·obtain⟨w,ad⟩:∃w,l[i]? =some w:=⟨_,eo bS⟩;have lJ:=mT bS;rw[jJ ad]at iP;obtain⟨m,v,r,t,dW,Hy,rfl,I,J,aj,aO⟩:=O2 iP;rw[<-jJ ad]at I;obtain⟨p,DB,Ry,rfl,L7⟩:=Gd I aM;obtain⟨q,yd,RA,rfl,Mc⟩:=Gd J DB;have cl:=CM l Ω ix i aM;rw[I]at cl;have MU:=ED cl L7;have cy:=CM l Ω ix p DB;rw[J]at cy;have MV:=ED cy Mc;have sF:out.length+1<=bF:=by have:=aa.fits.1;rw[<-lD,aO]at this;simp at this;unfold bF;omega
  simp[rM];refine bh.ob (lJ) (bU _ _) (by simp only[aq];exact ak) (by simp only[aq];exact ak) (by simp[au,Pv.look,aq,aZ,aD,aB]) ?_;rintro r ah ⟨rfl,rfl⟩;refine⟨ev _ _ _ _,?_⟩;simp[ba,aq,aZ];(with_reducible repeat' first|refine a6 ?_|simp);refine bh.ob (MU) (bU _ _) (by simp only[aq];exact ak) (by simp only[aq];exact ak) (by simp[au,Pv.look,aq,aZ,aD,aB]) ?_;rintro r ah ⟨rfl,rfl⟩;refine⟨ev _ _ _ _,?_⟩;simp[ba,aq,aZ];(with_reducible repeat' first|refine a6 ?_|simp);refine bh.ob (MV) (bU _ _) (by simp only[aq];exact ak) (by simp only[aq];exact ak) (by simp[au,Pv.look,aq,aZ,aD,aB]) ?_;rintro r ah ⟨rfl,rfl⟩;refine⟨ev _ _ _ _,?_⟩;simp[ba,aq,aZ];(with_reducible repeat' first|refine a6 ?_|simp[sF]);refine dD.whl (out++[⟨v,t⟩],q,m) (by simp;omega) ⟨yd,Hy,aj,by rw[<-lD,aO];simp⟩ ?_;simp[rM];exact⟨by simp[fresh,aD,aB,c6,au,Pv.look,dO],e9 (by simp[fresh,aD,aB,c6,au,Pv.look,dO]),ff (by simp[fresh,aD,aB,eQ,au,Pv.look,dO]),Ψ⟩
def BC:C:=(ao [ea 8 cp] (ao [ag 9 0,ag 10 1,du 11 70 9 10,ag 12 2,ag 13 3,h2 14 72 [.t 11,.t 12,.t 13],bZ 4 8 14] .ret))
@[simp] def Fm:List cm:=[.cell 8 true 4]
def BO:C:=(ao [bC 4 (.mov (.c (.nilp)))] (ao [ag 7 0,cZ 8 139 7,ag 5 8] (.seq (ao [dH 6 0] (.block 0 (.loop (.seq (ao [ag 9 6,ag 10 1,ek 11 .lss 9 10] (bK 11 .skip (.exit 0))) (.seq (.block 1 (.region [ag 14 5,cZ 15 106 14])) (.region [ag 12 6,bI 13 .add 12 1,ag 6 13])))))) (ao [ag 16 5,ag 4 16] .ret))))
@[simp] def Fy:List cm:=[.tmp 4]
def BH:C:=(ao [ea 6 cp] (ao [ag 9 0,h2 10 140 [.t 9,(eF 8)],ag 7 10] (.seq (ao [ag 11 1,bI 12 .gtr 11 2,ag 13 12,cQ 13 true 14 7,bc 13 true (bI 15 .geq 14 3),gp 16 13 15] (bK 16 (ao [ag 17 0,ag 18 1,bI 19 .quo 18 2,ag 20 2,h2 21 72 [.t 17,.t 19,.t 20],ea 8 cp,bZ 4 8 21] (.seq (.drawn false 42 [ct 22 4 8,ag 23 0,ag 24 1,bI 25 .quo 24 2,ag 26 2,h2 27 72 [.t 23,.t 25,.t 26],du 28 141 22 27,bZ 4 6 28]) .ret)) .skip)) (.seq (ao [ag 29 2,bI 30 .gtr 29 0,ag 31 30,cQ 31 true 32 7,bc 31 true (bI 33 .rem 32 2),bc 31 true (bI 34 .eql 33 0),gp 35 31 34] (bK 35 (ao [ag 36 0,ag 37 2,du 38 140 36 37,cZ 39 142 38,bZ 4 6 39] .ret) .skip)) (ao [ag 40 0,cZ 41 143 40,bZ 4 6 41] .ret)))))
@[simp] def vM:List cm:=[.cell 6 true 4]
def BF:C:=(ao [cA 4 false] (ao [ag 5 0,ag 6 1,du 7 140 5 6,bI 8 .eql 7 0,ag 4 8] .ret))
@[simp] def Fp:List cm:=[.tmp 4]
def wS:C:=(ao [dH 2 0] (ao [ag 4 0,ag 5 0,fO 6 5,bB 7 2 1 6,bm 8 1 7,bC 9 (.bin .mul true (.t 8) (eF 6364136223846793005)),bC 10 (.bin .add true (.t 9) (eF 1442695040888963407)),fO 11 4,bB 12 2 1 11,bZ 1 12 10] (.seq (.drawn true 58 [ag 13 0,fO 14 13,bB 15 2 1 14,bm 16 1 15,bC 17 (.bin .shr false (.t 16) (.c (.int .u64 33))),ag 18 0,fO 19 18,bB 20 2 1 19,bm 21 1 20,bC 22 (.bin .shr false (.t 21) (.c (.int .u64 45))),ek 23 .xor 17 22,bI 24 .and 23 255,ag 3 24]) (.seq (.seq (.drawn true 58 [ag 25 0,fO 26 25,bB 27 1 1 26,bm 28 1 27,ag 29 0,fO 30 29,bB 31 0 1 30,bm 32 1 31,fC 33 32,ek 34 .lss 28 33]) (bK 34 (.seq (.drawn true 58 [ag 35 3,ag 36 0,fO 37 36,bB 38 0 1 37,bm 39 1 38,ag 40 0,fO 41 40,bB 42 1 1 41,bm 43 1 42,hc 44 1 39 43,bm 45 1 44,bC 46 (.conv .i64 (.t 45)),ek 47 .add 35 46,bI 48 .and 47 255,ag 3 48]) (.region [ag 49 0,ag 50 0,fO 51 50,bB 52 1 1 51,bm 53 1 52,bI 54 .add 53 1,fO 55 49,bB 56 1 1 55,bZ 1 56 54])) .skip)) (ao [ag 57 3,ag 2 57] .ret)))))
@[simp] def zm:List cm:=[.tmp 2]
def BE:C:=(ao [bC 2 (.mov (.c (.nilp)))] (ao [ag 5 0,fC 6 5,bC 7 (.bin .add false (eF 90411) (.t 6)),ag 3 7] (.seq (ao [dH 4 0] (.block 0 (.loop (.seq (ao [ag 8 4,ag 9 0,fC 10 9,ek 11 .lss 8 10,ag 12 11,cQ 12 true 13 4,bc 12 true (bI 14 .lss 13 4000),gp 15 12 14] (bK 15 .skip (.exit 0))) (.seq (.block 1 (.region [ag 18 3,bI 19 .mul 18 131,ag 20 0,ag 21 4,hc 22 1 20 21,bm 23 1 22,bC 24 (.conv .i64 (.t 23)),ek 25 .add 19 24,bI 26 .add 25 7,bI 27 .and 26 1073741823,ag 3 27])) (.region [ag 16 4,bI 17 .add 16 1,ag 4 17])))))) (ao [ag 28 0,ag 29 3,bC 30 (.build [.slice 1 .nil [],.int .i64 0,.int .i64 0] [(0,1,(.t 28)),(2,1,(.t 29))]),eT (.box 31 (some 401) (.t 30)),ag 2 31] .ret))))
@[simp] def Fo:List cm:=[.tmp 2]
def BD:C:=(ao [dH 4 0] (.seq (ao [ag 5 1,bI 6 .leq 5 0] (bK 6 (ao [dH 4 0] .ret) .skip)) (ao [ag 7 0,cZ 8 106 7,ag 9 1,ek 10 .rem 8 9,ag 4 10] .ret)))
@[simp] def zl:List cm:=[.tmp 4]
def BG:C:=(ao [ea 2 cp] (ao [ag 4 0,h2 5 140 [.t 4,(eF 7)],ag 3 5] (.seq (ao [ag 6 3,bI 7 .lss 6 2] (bK 7 (ao [ag 8 3,cZ 9 194 8,bZ 4 2 9] .ret) .skip)) (.seq (ao [ag 10 3,bI 11 .lss 10 5] (bK 11 (ao [eT (.bsl 12 1 9 [(.c (.str [97])),(.c (.str [98])),(.c (.str [99]))]),ag 13 3,bI 14 .sub 13 2,hc 15 1 12 14,bm 16 1 15,cZ 17 195 16,bZ 4 2 17] .ret) .skip)) (ao [gF 18 cp [],bZ 4 2 18] .ret)))))
@[simp] def Fq:List cm:=[.cell 2 true 4]
def BI:C:=(ao [ea 2 cp] (ao [ag 3 0,gF 4 cp [(0,1,(eF 3)),(1,1,(.t 3))],bZ 4 2 4] .ret))
@[simp] def Fs:List cm:=[.cell 2 true 4]
def BK:C:=(ao [ea 2 cp] (ao [ag 3 0,gF 4 cp [(0,1,(eF 2)),(2,1,(.t 3))],bZ 4 2 4] .ret))
@[simp] def Fu:List cm:=[.cell 2 true 4]
def lV:List (Nat×cw):=[
 (3,⟨1,8,.int .i64,.int .i64 0⟩),
 (5,⟨1,1,.int .u8,.int .u8 0⟩),
 (9,⟨1,16,.str,.str []⟩),
 (35,⟨1,24,.slice 5,.slice 1 .nil []⟩),
 (38,⟨1,24,.slice 40,.slice 4 .nil []⟩),
 (40,⟨4,56,.struct [(0,3),(1,3),(2,9),(3,38)],.agg [.int .i64 0,.int .i64 0,.str [],.slice 4 .nil []]⟩),
 (70,⟨1,24,.slice 9,.slice 1 .nil []⟩),
 (208,⟨3,40,.struct [(0,35),(1,3),(2,3)],.agg [.slice 1 .nil [],.int .i64 0,.int .i64 0]⟩)]
theorem lW:eD aI lV=true:=by kernel_rfl
theorem Oj:cM lV BC Fm 4 Tryz.f17=true:=by kernel_rfl
theorem J3:aI.funcs[(17:Nat)]? =some Tryz.f17:=Tryz.func17
theorem Oz:cM lV BO Fy 2 Tryz.f70=true:=by kernel_rfl
theorem Kf:aI.funcs[(70:Nat)]? =some Tryz.f70:=Tryz.func70
theorem Oq:cM lV BH vM 3 Tryz.f72=true:=by kernel_rfl
theorem J8:aI.funcs[(72:Nat)]? =some Tryz.f72:=Tryz.func72
theorem On:cM lV BF Fp 2 Tryz.f96=true:=by kernel_rfl
theorem J6:aI.funcs[(96:Nat)]? =some Tryz.f96:=Tryz.func96
theorem EK:cM lV wS zm 1 Tryz.f106=true:=by kernel_rfl
theorem Cq:aI.funcs[(106:Nat)]? =some Tryz.f106:=Tryz.func106
theorem Om:cM lV BE Fo 1 Tryz.f139=true:=by kernel_rfl
theorem J5:aI.funcs[(139:Nat)]? =some Tryz.f139:=Tryz.func139
theorem Ol:cM lV BD zl 2 Tryz.f140=true:=by kernel_rfl
theorem J4:aI.funcs[(140:Nat)]? =some Tryz.f140:=Tryz.func140
theorem Oo:cM lV BG Fq 1 Tryz.f143=true:=by kernel_rfl
theorem J7:aI.funcs[(143:Nat)]? =some Tryz.f143:=Tryz.func143
theorem Ot:cM lV BI Fs 1 Tryz.f194=true:=by kernel_rfl
theorem J9:aI.funcs[(194:Nat)]? =some Tryz.f194:=Tryz.func194
theorem Ov:cM lV BK Fu 1 Tryz.f195=true:=by kernel_rfl
theorem Kb:aI.funcs[(195:Nat)]? =some Tryz.f195:=Tryz.func195
end
section
open Go Go.Pv
structure cf where
 d:List Int
 i:Nat
 h:Int
def fc(d:List Int):List ae:=d.map (ae.int .u8)
def cf.e(c:cf):List ae:=[.slice 1 .no (fc c.d),.int .i64 c.i,.int .i64 c.h]
def bg(c:cf):cr:=⟨[(.obj 401,c.e)],[]⟩
@[simp]theorem RN(S:av->Prop)(d:List Int):aD S (fc d)=True:=by
 apply eq_true;induction d with
 |nil=>simp[-aP,-aJ,fc,aD]
 |cons x r bz=>simp only[fc,eU,aD,aB]at bz⊢;exact⟨trivial,bz⟩
@[simp]theorem SP(d:List Int):bR (fc d)=fc d:=by
 induction d with
 |nil=>rfl
 |cons x r bz=>simp only[fc,eU,bR,b7]at bz⊢;rw[bz]
@[simp]theorem QE(d:List Int):(fc d).length=d.length:=by simp[-aP,-aJ,fc]
theorem wL{d:List Int}{i:Nat}{x:Int}(h:d[i]? =some x):(fc d)[i]? =some (.int .u8 x):=by simp[-aP,-aJ,fc,h]
theorem eG(c:cf):dE (bg c):=by unfold bg;exact dE.of ⟨by intro m;simp[-aP,-aJ,Pv.look],by intro m;simp[-aP,-aJ,Pv.look]⟩ (by simp[-aP,-aJ,cf.e,aD,aB]) (by simp[-aP,-aJ])
theorem fI(c fe:cf):Same (bg c) (bg fe):=by refine⟨fun k=>?_,fun k=>rfl⟩;simp only[bg,Pv.look];split<;>rfl
def lp(d:List Int):Prop:= ∀x∈d,0<=x/\x<256
def qZ(h:Int):Int:=kr.wrap (kr.wrap (h*6364136223846793005)+1442695040888963407)
def oO(k:IntKind)(a b:Int):Int:=k.wrap (lb k.bits a&&& lb k.bits b).toNat
def GL(k:IntKind)(a b:Int):Int:=k.wrap (lb k.bits a ^^^ lb k.bits b).toNat
def zJ(k:IntKind)(a b:Int):Int:=a.fdiv (2 ^ (min b.toNat k.bits))
section
variable (a b:Int)
@[simp]theorem Qn:aJ .add false (.int .i64 a) (.int .i64 b)=some (c1 (a+b),.int .i64 (a+b)):=by unfold aJ aP;simp[-aP,-aJ]
@[simp]theorem Qo:aJ .add true (.int .i64 a) (.int .i64 b)=some (True,.int .i64 (kr.wrap (a+b))):=rfl
@[simp]theorem QB:aJ .sub false (.int .i64 a) (.int .i64 b)=some (c1 (a-b),.int .i64 (a-b)):=by unfold aJ aP;simp[-aP,-aJ]
@[simp]theorem Qv:aJ .mul false (.int .i64 a) (.int .i64 b)=some (c1 (a*b),.int .i64 (a*b)):=by unfold aJ aP;simp[-aP,-aJ]
@[simp]theorem Qw:aJ .mul true (.int .i64 a) (.int .i64 b)=some (True,.int .i64 (kr.wrap (a*b))):=rfl
@[simp]theorem Qy:aJ .quo false (.int .i64 a) (.int .i64 b)=some (b≠0,.int .i64 (kr.wrap (a.tdiv b))):=rfl
@[simp]theorem Qz:aJ .rem false (.int .i64 a) (.int .i64 b)=some (b≠0,.int .i64 (a.tmod b)):=rfl
@[simp]theorem Qq:aJ .eql false (.int .i64 a) (.int .i64 b)=some (True,.bool (a==b)):=rfl
@[simp]theorem Qx:aJ .neq false (.int .i64 a) (.int .i64 b)=some (True,.bool (a !=b)):=rfl
@[simp]theorem Qu:aJ .lss false (.int .i64 a) (.int .i64 b)=some (True,.bool (decide (a<b))):=rfl
@[simp]theorem Qt:aJ .leq false (.int .i64 a) (.int .i64 b)=some (True,.bool (decide (a<=b))):=rfl
@[simp]theorem Qs:aJ .gtr false (.int .i64 a) (.int .i64 b)=some (True,.bool (decide (b<a))):=rfl
@[simp]theorem Qr:aJ .geq false (.int .i64 a) (.int .i64 b)=some (True,.bool (decide (b<=a))):=rfl
@[simp]theorem Qp:aJ .and false (.int .i64 a) (.int .i64 b)=some (True,.int .i64 (oO .i64 a b)):=rfl
@[simp]theorem QC:aJ .xor false (.int .i64 a) (.int .i64 b)=some (True,.int .i64 (GL .i64 a b)):=rfl
@[simp]theorem QA(k:IntKind):aJ .shr false (.int .i64 a) (.int k b)=some (0<=b,.int .i64 (zJ .i64 a b)):=rfl
end
theorem wE(x m:Int)(ck:0<=m)(I:m<9223372036854775807):0<=oO .i64 x m/\oO .i64 x m<=m:=by
 have hm:(lb 64 m).toNat=m.toNat:=by rw[BitVec.toNat_ofInt];omega
 have h:(lb 64 x&&& lb 64 m).toNat<=m.toNat:=by rw[BitVec.toNat_and,hm];exact Nat.and_le_right
 unfold oO;rw[show kr.bits=64 from rfl,IntWalk.i64_in _ Ω];omega
def pD(h:Int):Int:=oO .i64 (GL .i64 (zJ .i64 h 33) (zJ .i64 h 45)) 255
theorem Ep(h:Int):0<=pD h/\pD h<=255:=wE _ _ Ω Ω
def cf.byte(c:cf):Int:=match c.d[c.i]? with|some x=>oO .i64 (pD (qZ c.h)+x) 255|none=>pD (qZ c.h)
def cf.next(c:cf):cf:=⟨c.d,if c.i<c.d.length then c.i+1 else c.i,qZ c.h⟩
theorem cf.byte_le(c:cf):0<=c.byte/\c.byte<=255:=by
 unfold cf.byte;split
 ·exact wE _ _ Ω Ω
 ·exact Ep _
structure cf.ok (c:cf):Prop where
 d:lp c.d
 l:c.d.length<=10000000
 i:c.i<=c.d.length
theorem cf.ok.next{c:cf}(h:c.ok):c.next.ok:=⟨h.d,h.l,by have:=h.i;simp only[cf.next];split<;>omega⟩
theorem CK(c:cf)(al:c.ok):br aI 106 [.ptr (.obj 401) 0] (bg c) fun r ah=>r= .int .i64 c.byte/\ah=bg c.next:=by
 have af:=eG c;have nm:=eG c.next;have iU:=fI c c.next;obtain⟨d,i,h⟩:=c;obtain⟨aY,ar,aM⟩:=al;simp only at aY ar aM;have LU:=Ep (qZ h);simp only[pD]at LU;by_cases bS:i<d.length
 ·obtain⟨x,ad⟩:∃x,d[i]? =some x:=⟨_,eo bS⟩;have gk:∀h,(fc d)[i]'h= .int .u8 x:=fun h=>by have:=wL ad;rw[eo h]at this;simpa using this
  have pq:=aY x (List.mem_of_getElem? ad);have hw:kr.wrap x=x:=IntWalk.i64_in _ Ω;simp only[bg,cf.e,cf.next,bS,if_true]at af nm iU⊢;refine br.mk mixed lW Cq EK (by simp[-aP,-aJ]) af.obj fun bn cb=>?_;unfold wS;simp[-aP,-aJ,bS,gk,hw,<-qZ.eq_1];(with_reducible repeat' first|((first|apply dz|apply dN|apply dM)<;>intro h<;>try simp[-aP,-aJ]at h)|refine a6 ?_|simp[-aP,-aJ]);refine b4.at _ (.inl rfl) nm iU ak ak ?_;simp[-aP,-aJ,cg,zm,bq,bA,bp];simp[-aP,-aJ,cf.byte,ad,pD]
 ·have ad:d[i]? =none:=by simp[-aP,-aJ];omega
  simp only[bg,cf.e,cf.next,bS,if_false]at af nm iU⊢;refine br.mk mixed lW Cq EK (by simp[-aP,-aJ]) af.obj fun bn cb=>?_;unfold wS;simp[-aP,-aJ,bS,<-qZ.eq_1];(with_reducible repeat' first|((first|apply dz|apply dN|apply dM)<;>intro h<;>try simp[-aP,-aJ]at h)|refine a6 ?_|simp[-aP,-aJ]);refine b4.at _ (.inl rfl) nm iU ak ak ?_;simp[-aP,-aJ,cg,zm,bq,bA,bp];simp[-aP,-aJ,cf.byte,ad,pD]
end
section
open Go Go.Pv
def cf.below(c:cf)(n:Int):Int:=if n<=0 then 0 else c.byte.tmod n
def cf.belowC(c:cf)(n:Int):cf:=if n<=0 then c else c.next
theorem cf.ok.below{c:cf}(h:c.ok)(n:Int):(c.belowC n).ok:=by unfold cf.belowC;split;exact h;exact h.next
theorem cf.below_le(c:cf)(n:Int)(aU:0<n):0<=c.below n/\c.below n<n:=by have:=c.byte_le;unfold cf.below;rw[bT Ω];exact⟨Int.tmod_nonneg _ this.1,Int.tmod_lt_of_pos _ aU⟩
theorem sc(c:cf)(al:c.ok)(n:Int):br aI 140 [.ptr (.obj 401) 0,.int .i64 n] (bg c) fun r ah=>r= .int .i64 (c.below n)/\ah=bg (c.belowC n):=by
 have af:=eG c;have iU:=fI c;refine br.mk mixed lW J4 Ol (by simp[-aP,-aJ]) af.obj fun bn cb=>?_;unfold BD;unfold bg;simp[-aP,-aJ];(with_reducible repeat' first|((first|apply dz|apply dN|apply dM)<;>intro h<;>try simp[-aP,-aJ]at h)|refine a6 ?_|simp[-aP,-aJ])
 ·(refine b4.at (bg (c)) (.inl rfl) (eG _) (fI _ _) (by unfold bg;exact ak) (by unfold bg;exact ak) ?_;simp[-aP,-aJ,cg,zl,bq,bA,bp,bg]);simp[-aP,-aJ,cf.below,cf.belowC,h]
 ·(refine bh.ob (CK c al) (eG _) (by unfold bg;exact ak) (by unfold bg;exact ak) (by simp[-aP,-aJ,au,bg,Pv.look]) ?_;rintro r ah ⟨rfl,rfl⟩;refine⟨fI _ _,?_⟩;unfold bg;simp[-aP,-aJ,ba]);((with_reducible repeat' first|refine a6 ?_|simp[-aP,-aJ]|((first|apply dz|apply dN|apply dM)<;>intro h<;>try simp[-aP,-aJ]at h))<;>(try exact iJ));(refine b4.at (bg (c.next)) (.inl rfl) (eG _) (fI _ _) (by unfold bg;exact ak) (by unfold bg;exact ak) ?_;simp[-aP,-aJ,cg,zl,bq,bA,bp,bg]);have:¬n<=0:=Ω
  simp[-aP,-aJ,cf.below,cf.belowC,this]
theorem CL(c:cf)(al:c.ok)(n:Int):br aI 96 [.ptr (.obj 401) 0,.int .i64 n] (bg c) fun r ah=>r= .bool (c.below n==0)/\ah=bg (c.belowC n):=by have af:=eG c;refine br.mk mixed lW J6 On (by simp[-aP,-aJ]) af.obj fun bn cb=>?_;unfold BF;unfold bg;simp[-aP,-aJ];(refine bh.ob (sc c al n) (eG _) (by unfold bg;exact ak) (by unfold bg;exact ak) (by simp[-aP,-aJ,au,bg,Pv.look]) ?_;rintro r ah ⟨rfl,rfl⟩;refine⟨fI _ _,?_⟩;unfold bg;simp[-aP,-aJ,ba]);(refine b4.at (bg (c.belowC n)) (.inl rfl) (eG _) (fI _ _) (by unfold bg;exact ak) (by unfold bg;exact ak) ?_;simp[-aP,-aJ,cg,Fp,bq,bA,bp,bg])
theorem Gu(n:Int):c8 aI 142 [.int .i64 n] (T.var n).e:=by refine dS fs Kc Ow fun bn=>?_;unfold BL;simp[-aP,-aJ];simp[-aP,-aJ,dy,Fv,bq,bA,bp]
theorem Gr(n:Int):c8 aI 194 [.int .i64 n] (T.num n).e:=by refine dS lW J9 Ot fun bn=>?_;unfold BI;simp[-aP,-aJ];simp[-aP,-aJ,dy,Fs,bq,bA,bp]
theorem Gt(s:List aX):c8 aI 195 [.str s] (T.sym s).e:=by refine dS lW Kb Ov fun bn=>?_;unfold BK;simp[-aP,-aJ];simp[-aP,-aJ,dy,Fu,bq,bA,bp]
def oQ(k:Int):T:=if k<2 then .num k else if k<5 then .sym (([[97],[98],[99]]:List (List aX)).getD (k-2).toNat [])else .nil
theorem KF(c:cf)(al:c.ok):br aI 143 [.ptr (.obj 401) 0] (bg c) fun r ah=>r=(oQ (c.below 7)).e/\ah=bg c.next:=by
 have af:=eG c;have aa:=c.below_le 7 Ω;have ya:c.belowC 7=c.next:=by simp[-aP,-aJ,cf.belowC]
 refine br.mk mixed lW J7 Oo (by simp[-aP,-aJ]) af.obj fun bn cb=>?_;unfold BG;unfold bg;simp[-aP,-aJ];(refine bh.ob (sc c al 7) (eG _) (by unfold bg;exact ak) (by unfold bg;exact ak) (by simp[-aP,-aJ,au,bg,Pv.look]) ?_;rintro r ah ⟨rfl,rfl⟩;refine⟨fI _ _,?_⟩;unfold bg;simp[-aP,-aJ,ba]);rw[ya];generalize U:c.below 7=k at aa⊢;obtain⟨aT,rfl⟩:∃aT:Nat,k=aT:=⟨k.toNat,Ω⟩;rcases(by omega:aT=0\/aT=1\/aT=2\/aT=3\/aT=4\/aT=5\/aT=6)with rfl|rfl|rfl|rfl|rfl|rfl|rfl;all_goals simp[-aP,-aJ]
 all_goals(with_reducible repeat' first|refine a6 ?_|refine b8 (Gr _) ?_|refine b9 (Gr _) ?_|refine b8 (Gt _) ?_|refine b9 (Gt _) ?_|simp[-aP,-aJ])
 all_goals(refine b4.at (bg (c.next)) (.inl rfl) (eG _) (fI _ _) (by unfold bg;exact ak) (by unfold bg;exact ak) ?_;simp[-aP,-aJ,cg,Fq,bq,bA,bp,bg])
 all_goals simp[-aP,-aJ,oQ]
def eL(size:Nat)(vars:Int)(c:cf):T×cf:=
 if 2<size/\3<=c.below 8 then
  (.pair (eL (size/2) vars c.next).1 (eL (size/2) vars (eL (size/2) vars c.next).2).1,(eL (size/2) vars (eL (size/2) vars c.next).2).2)
 else if 0<vars/\(c.below 8).tmod 2=0 then(.var (c.next.below vars),c.next.belowC vars)
 else(oQ (c.next.below 7),c.next.next)
termination_by size
theorem B6(size:Nat)(vars:Int):∀c:cf,c.ok->(eL size vars c).2.ok:=by
 induction size using Nat.strongRecOn with
 |ind size bz=>
  intro c al;rw[eL];split
  ·rename_i h;exact bz _ Ω _ (bz _ Ω _ al.next)
  ·split
   ·exact al.next.below _
   ·exact al.next.next
theorem xv(vars:Int)(aH:vars<=1000000)(size:Nat)(ed:size<=1000000):∀(c:cf),c.ok->br aI 72 [.ptr (.obj 401) 0,.int .i64 size,.int .i64 vars] (bg c) fun r ah=>r=(eL size vars c).1.e/\ah=bg (eL size vars c).2:=by
 induction size using Nat.strongRecOn with
 |ind size bz=>
  intro c al;have af:=eG c;have aa:=c.below_le 8 Ω;have ya:c.belowC 8=c.next:=by simp[-aP,-aJ,cf.belowC]
  obtain⟨z,DO⟩:∃z,z=size/2:=⟨_,rfl⟩;have hdiv:kr.wrap ((size:Int)/2)=(z:Int):=by rw[IntWalk.i64_in _ Ω];omega
  have Ll:∀h:2<size/\3<=c.below 8,eL size vars c=(.pair (eL z vars c.next).1 (eL z vars (eL z vars c.next).2).1,(eL z vars (eL z vars c.next).2).2):=fun h=>by rw[eL,cX h,DO]
  have Ln:∀(h:¬(2<size/\3<=c.below 8)) (b3:0<vars/\(c.below 8).tmod 2=0),eL size vars c=(.var (c.next.below vars),c.next.belowC vars):=fun h b3=>by rw[eL,bT h,cX b3]
  have Lj:∀(h:¬(2<size/\3<=c.below 8)) (b3:¬(0<vars/\(c.below 8).tmod 2=0)),eL size vars c=(oQ (c.next.below 7),c.next.next):=fun h b3=>by rw[eL,bT h,bT b3]
  have DQ:2<size->∀c:cf,c.ok->br aI 72 [.ptr (.obj 401) 0,.int .i64 z,.int .i64 vars] (bg c) fun r ah=>r=(eL z vars c).1.e/\ah=bg (eL z vars c).2:=fun h=>bz z Ω Ω;clear bz;refine br.mk mixed lW J8 Oq (by simp[-aP,-aJ]) af.obj fun bn cb=>?_;unfold BH;unfold bg;simp[-aP,-aJ];(refine bh.ob (sc c al 8) (eG _) (by unfold bg;exact ak) (by unfold bg;exact ak) (by simp[-aP,-aJ,au,bg,Pv.look]) ?_;rintro r ah ⟨rfl,rfl⟩;refine⟨fI _ _,?_⟩;unfold bg;simp[-aP,-aJ,ba]);rw[ya];(with_reducible repeat' first|((first|apply dz|apply dN|apply dM)<;>intro h<;>try simp[-aP,-aJ]at h)|refine a6 ?_|simp[-aP,-aJ,hdiv])
  ·rename_i J;(refine bh.ob (DQ Ω c.next al.next) (eG _) (by unfold bg;exact ak) (by unfold bg;exact ak) (by simp[-aP,-aJ,au,bg,Pv.look]) ?_;rintro r ah ⟨rfl,rfl⟩;refine⟨fI _ _,?_⟩;unfold bg;simp[-aP,-aJ,ba]);((with_reducible repeat' first|refine a6 ?_|simp[-aP,-aJ,hdiv]|((first|apply dz|apply dN|apply dM)<;>intro h<;>try simp[-aP,-aJ]at h))<;>(try exact iJ));(refine iL.ob (DQ Ω (eL z vars c.next).2 (B6 _ _ _ al.next)) (eG _) (eG _) (fI _ _) (by unfold bg;exact ak) (by unfold bg;exact ak) (by simp[-aP,-aJ,au,bg,Pv.look]) ?_;unfold bg;simp[-aP,-aJ,ba]);(with_reducible repeat' first|refine a6 ?_|refine b8 (Gs _ _) ?_|refine b9 (Gs _ _) ?_|simp[-aP,-aJ]);rw[Ll Ω];(refine b4.at (bg ((eL z vars (eL z vars c.next).2).2)) (.inl rfl) (eG _) (fI _ _) (by unfold bg;exact ak) (by unfold bg;exact ak) ?_;simp[-aP,-aJ,cg,vM,bq,bA,bp,bg])
  all_goals first
   |(rw[Ln Ω ⟨Ω,by assumption⟩];(refine bh.ob (sc c.next al.next vars) (eG _) (by unfold bg;exact ak) (by unfold bg;exact ak) (by simp[-aP,-aJ,au,bg,Pv.look]) ?_;rintro r ah ⟨rfl,rfl⟩;refine⟨fI _ _,?_⟩;unfold bg;simp[-aP,-aJ,ba]);(with_reducible repeat' first|refine a6 ?_|refine b8 (Gu _) ?_|refine b9 (Gu _) ?_|simp[-aP,-aJ]);(refine b4.at (bg (c.next.belowC vars)) (.inl rfl) (eG _) (fI _ _) (by unfold bg;exact ak) (by unfold bg;exact ak) ?_;simp[-aP,-aJ,cg,vM,bq,bA,bp,bg]);done)
   |(rw[Lj Ω (by rintro⟨I,J⟩;first|omega|contradiction|(simp_all;done))];(refine bh.ob (KF c.next al.next) (eG _) (by unfold bg;exact ak) (by unfold bg;exact ak) (by simp[-aP,-aJ,au,bg,Pv.look]) ?_;rintro r ah ⟨rfl,rfl⟩;refine⟨fI _ _,?_⟩;unfold bg;simp[-aP,-aJ,ba]);(with_reducible repeat' first|refine a6 ?_|simp[-aP,-aJ]);(refine b4.at (bg (c.next.next)) (.inl rfl) (eG _) (fI _ _) (by unfold bg;exact ak) (by unfold bg;exact ak) ?_;simp[-aP,-aJ,cg,vM,bq,bA,bp,bg]);done)
def rk:List Int->Int->Int
 |[],h=>h
 |x::r,h=>rk r (oO .i64 (h*131+x+7) 1073741823)
def oz(d:List Int):cf:=⟨d,0,rk (d.take 4000) (90411+d.length)⟩
def ML(d:List Int)(k:Nat)(st:aS):Prop:=∃(i:Nat) (h:Int),i<=d.length/\i<=4000/\k=d.length-i/\0<=h/\h<=2000000000/\rk ((d.take 4000).drop i) h=rk (d.take 4000) (90411+d.length)/\st=⟨[(0,.slice 1 .no (fc d)),(3,.int .i64 h),(4,.int .i64 i)],[],[],0,[]⟩
theorem KE(d:List Int)(aY:lp d)(ar:d.length<=10000000):br aI 139 [.slice 1 .no (fc d)] ⟨[],[]⟩ fun r ah=>r= .ptr (.obj 401) 0/\ah=bg (oz d):=by
 have af:dE ⟨[],[]⟩:=(dE.of ⟨by intro m;simp[-aP,-aJ,Pv.look],by intro m;simp[-aP,-aJ,Pv.look]⟩ (by simp[-aP,-aJ,aD,aB,au,Pv.look]) (by simp[-aP,-aJ,aD,aB,au,Pv.look]));refine br.mk mixed lW J5 Om (by simp[-aP,-aJ]) af.obj fun bn cb=>?_;unfold BE;simp[-aP,-aJ];(with_reducible repeat' first|refine a6 ?_|simp[-aP,-aJ]);refine nZ (ML d) d.length _ ⟨by simp[-aP,-aJ],by simp[-aP,-aJ,iG],by simp[-aP,-aJ,iH],by simp[-aP,-aJ]⟩ ⟨0,90411+d.length,Ω,Ω,Ω,Ω,Ω,by simp[-aP,-aJ],rfl⟩ ?_;rintro k st ⟨i,g,aM,Rr,U,ck,I,yg,rfl⟩ jL cb;clear jL cb;have j9:¬(i<d.length/\i<4000)->g=rk (d.take 4000) (90411+d.length):=by intro aU;rw[List.drop_of_length_le (by simp[-aP,-aJ];omega)]at yg;exact yg
 have hG:¬(i<d.length/\i<4000)->oz d=⟨d,0,g⟩:=fun aU=>by simp[-aP,-aJ,oz,j9 aU]
 simp[-aP,-aJ];(with_reducible repeat' first|((first|apply dz|apply dN|apply dM)<;>intro h<;>try simp[-aP,-aJ]at h)|refine a6 ?_|simp[-aP,-aJ])
 ·have bS:i<d.length:=Ω
  obtain⟨x,ad⟩:∃x,d[i]? =some x:=⟨_,eo bS⟩;have gk:∀h,(fc d)[i]'h= .int .u8 x:=fun h=>by have:=wL ad;rw[eo h]at this;simpa using this
  have pq:=aY x (List.mem_of_getElem? ad);have hw:kr.wrap x=x:=IntWalk.i64_in _ Ω;have o4:=wE (g*131+x+7) 1073741823 Ω Ω;simp[-aP,-aJ,wL ad,hw];(with_reducible repeat' first|refine a6 ?_|simp[-aP,-aJ]);refine dD.next (d.length-(i+1)) Ω ⟨i+1,_,Ω,Ω,rfl,o4.1,Ω,?_,rfl⟩ ⟨by simp[-aP,-aJ],by simp[-aP,-aJ,iG],by simp[-aP,-aJ,iH],by simp[-aP,-aJ]⟩;rw[<-yg,List.drop_eq_getElem_cons (l:=d.take 4000) (i:=i) (by simp[-aP,-aJ];omega)];have:(d.take 4000)[i]'(by simp[-aP,-aJ];omega)=x:=by have:=ad;rw[eo bS]at this;simpa using this
  rw[this,rk]
 all_goals rw[hG Ω]
 all_goals refine b4.new (bg ⟨d,0,g⟩) (.inl rfl) (eG _) (by simp[-aP,-aJ,ej]) (by unfold bg;exact ak) (by unfold bg;exact ak) ?_
 all_goals simp[-aP,-aJ,cg,Fo,bq,bA,bp,bg,au,Pv.look]
def lU:Nat->cf->cf
 |0,c=>c
 |n+1,c=>(lU n c).next
theorem zK{c:cf}(h:c.ok):∀n,(lU n c).ok
 |0=>h
 |n+1=>(zK h n).next
theorem Et{d:List Int}(aY:lp d)(ar:d.length<=10000000):(oz d).ok:=⟨aY,ar,by simp[-aP,-aJ,oz]⟩
def kD(d:List Int)(n:Nat):cf:=lU n (oz d)
theorem wX{d:List Int}(aY:lp d)(ar:d.length<=10000000)(n:Nat):(kD d n).ok:=zK (Et aY ar) n
theorem gz(S:av->Prop)(c:cf):aD S c.e:=by simp[-aP,-aJ,cf.e,aD,aB]
def MJ(c:cf)(n:Nat)(k:Nat)(st:aS):Prop:=∃i:Nat,i<=n/\k=n-i/\st=⟨[(1,.int .i64 n),(5,.ptr (.obj 401) 0),(6,.int .i64 i)],[(.obj 401,(lU i c).e)],[],0,[.obj 401]⟩
theorem xw(d:List Int)(aY:lp d)(ar:d.length<=10000000)(n:Nat)(aU:n<=1000000):br aI 70 [.slice 1 .no (fc d),.int .i64 n] ⟨[],[]⟩ fun r ah=>r= .ptr (.obj 401) 0/\ah=bg (kD d n):=by
 unfold kD;have af:dE ⟨[],[]⟩:=(dE.of ⟨by intro m;simp[-aP,-aJ,Pv.look],by intro m;simp[-aP,-aJ,Pv.look]⟩ (by simp[-aP,-aJ,aD,aB,au,Pv.look]) (by simp[-aP,-aJ,aD,aB,au,Pv.look]));refine br.mk mixed lW Kf Oz (by simp[-aP,-aJ]) af.obj fun bn cb=>?_;unfold BO;simp[-aP,-aJ];refine bh.new (KE d aY ar) af ak ak (by simp[-aP,-aJ]) ?_;rintro r ah ⟨rfl,rfl⟩;refine⟨fun m _=>.inr (by simp[-aP,-aJ]),?_⟩;unfold bg;simp[-aP,-aJ,ba];refine nZ (MJ (oz d) n) n _ ⟨by simp[-aP,-aJ,fresh,aD,aB,c6,au,Pv.look,gz,lU],e9 (by simp[-aP,-aJ,fresh,aD,aB,c6,au,Pv.look,gz,lU]),ff (by simp[-aP,-aJ,fresh,aD,aB,eQ,au,Pv.look,gz,lU]),by simp[-aP,-aJ]⟩ ⟨0,Ω,rfl,rfl⟩ ?_;rintro k st ⟨i,aM,U,rfl⟩ jL cb;clear jL cb;simp[-aP,-aJ];(with_reducible repeat' first|((first|apply dz|apply dN|apply dM)<;>intro h<;>try simp[-aP,-aJ]at h)|refine a6 ?_|simp[-aP,-aJ])
 ·(refine bh.ob (CK _ (zK (Et aY ar) i)) (eG _) (by unfold bg;exact ak) (by unfold bg;exact ak) (by simp[-aP,-aJ,au,bg,Pv.look]) ?_;rintro r ah ⟨rfl,rfl⟩;refine⟨fI _ _,?_⟩;unfold bg;simp[-aP,-aJ,ba]);(with_reducible repeat' first|((first|apply dz|apply dN|apply dM)<;>intro h<;>try simp[-aP,-aJ]at h)|refine a6 ?_|simp[-aP,-aJ]);refine dD.next (n-(i+1)) Ω ⟨i+1,Ω,rfl,rfl⟩ ⟨by simp[-aP,-aJ,fresh,aD,aB,c6,au,Pv.look,gz,lU],e9 (by simp[-aP,-aJ,fresh,aD,aB,c6,au,Pv.look,gz,lU]),ff (by simp[-aP,-aJ,fresh,aD,aB,eQ,au,Pv.look,gz,lU]),by simp[-aP,-aJ]⟩
 ·obtain rfl:i=n:=Ω
  refine b4.new (bg (lU i (oz d))) (.inl rfl) (eG _) (by simp[-aP,-aJ,ej]) (by unfold bg;exact ak) (by unfold bg;exact ak) ?_;simp[-aP,-aJ,cg,Fy,bq,bA,bp,bg,au,Pv.look]
theorem PI(d:List Int)(aY:lp d)(ar:d.length<=10000000)(n:Nat)(aU:n<=1000000)(size:Nat)(ed:size<=1000000)(vars:Int)(aH:vars<=1000000):c8 aI 17 [.slice 1 .no (fc d),.int .i64 n,.int .i64 size,.int .i64 vars] (eL size vars (kD d n)).1.e:=by refine dS lW J3 Oj fun bn=>?_;unfold BC;simp[-aP,-aJ];refine bh.new (xw d aY ar n aU) ((dE.of ⟨by intro m;simp[-aP,-aJ,Pv.look],by intro m;simp[-aP,-aJ,Pv.look]⟩ (by simp[-aP,-aJ,aD,aB,au,Pv.look]) (by simp[-aP,-aJ,aD,aB,au,Pv.look]))) ak ak (by simp[-aP,-aJ]) ?_;rintro r ah ⟨rfl,rfl⟩;refine⟨fun m _=>.inr (by simp[-aP,-aJ]),?_⟩;unfold bg;simp[-aP,-aJ,ba];(refine bh.ob (xv vars aH size ed _ (wX aY ar n)) (eG _) (by unfold bg;exact ak) (by unfold bg;exact ak) (by simp[-aP,-aJ,au,bg,Pv.look]) ?_;rintro r ah ⟨rfl,rfl⟩;refine⟨fI _ _,?_⟩;unfold bg;simp[-aP,-aJ,ba]);simp[-aP,-aJ,dy,Fm,bq,bA,bp]
/-What is drawn. -/
theorem Hq(k:Int)(ck:0<=k)(I:k<7):(oQ k).ok=true/\(∀v,(oQ k).occ v=false)/\(oQ k).size=1:=by obtain⟨n,rfl⟩:∃n:Nat,k=n:=⟨k.toNat,Ω⟩;rcases(by omega:n=0\/n=1\/n=2\/n=3\/n=4\/n=5\/n=6)with rfl|rfl|rfl|rfl|rfl|rfl|rfl<;>refine⟨?_,fun v=>?_,?_⟩<;>first|rfl|decide
theorem B5(vars:Int)(aH:vars<=100001)(n:Nat):∀c:cf,(eL n vars c).1.ok=true/\(∀v,(eL n vars c).1.occ v=true->0<=v/\v<vars)/\(eL n vars c).1.size<=2*n-1+(if n=0 then 1 else 0):=by
 induction n using Nat.strongRecOn with
 |ind n bz=>
  intro c;have eW:=c.next.below_le 7 Ω;rw[eL];split
  ·rename_i h;obtain⟨bk,a2,a3⟩:=bz (n/2) Ω c.next;obtain⟨bJ,bQ,ey⟩:=bz (n/2) Ω (eL (n/2) vars c.next).2;refine⟨by simp[T.ok,bk,bJ],fun v aH=>?_,?_⟩
   ·simp only[T.occ,Bool.or_eq_true]at aH;rcases aH with aH|aH
    ·exact a2 v aH
    ·exact bQ v aH
   ·simp only[T.size];split at a3<;>split at ey<;>split<;>omega
  ·split
   ·rename_i h;have:=c.next.below_le vars h.1;refine⟨by simp[T.ok];omega,fun v aH=>?_,by simp only[T.size];split<;>omega⟩;simp[T.occ]at aH;omega
   ·obtain⟨bk,a2,a3⟩:=Hq _ eW.1 eW.2;refine⟨bk,fun v aH=>?_,?_⟩
    ·simp only[a2 v]at aH;cases aH
    ·simp only[a3];split<;>omega
def nT(m:Nat)(vars v:Int)(x:List aN×cf):List aN×cf:=if x.2.below 2=0 then(x.1++[⟨v,(eL m vars (x.2.belowC 2)).1⟩],(eL m vars (x.2.belowC 2)).2)else(x.1,x.2.belowC 2)
def fW(m:Nat)(vars v:Int):Nat->List aN×cf->List aN×cf
 |0,x=>x
 |n+1,x=>nT m vars (v+n) (fW m vars v n x)
theorem Hz{m:Nat}{vars v:Int}{x:List aN×cf}(h:x.2.ok):(nT m vars v x).2.ok:=by
 unfold nT;split
 ·exact B6 _ _ _ (h.below 2)
 ·show(x.2.belowC 2).ok;exact h.below 2
theorem wK{m:Nat}{vars v:Int}{x:List aN×cf}(h:x.2.ok):∀n,(fW m vars v n x).2.ok
 |0=>h
 |n+1=>Hz (wK h n)
theorem tK{m:Nat}(hm:0<m){vars v:Int}(aH:vars<=100001){x:List aN×cf}:∀n,∀b∈(fW m vars v n x).1,b∈x.1\/(v<=b.v/\b.v<v+n)/\b.t.ok=true/\b.t.size<=2*m-1/\∀w,b.t.occ w=true->0<=w/\w<vars
 |0,b,h=>.inl h
 |n+1,b,h=>by
  have bz:=tK hm aH (x:=x) (v:=v) n;simp only[fW,nT]at h;split at h
  ·rcases ht.1 h with h|h
   ·rcases bz b h with h|⟨I,J⟩
    ·exact .inl h
    ·exact .inr ⟨Ω,J⟩
   ·simp[-aP,-aJ]at h;subst h;obtain⟨d1,d2,d3⟩:=B5 vars aH m ((fW m vars v n x).2.belowC 2);rw[bT Ω]at d3;exact .inr ⟨by simp[-aP,-aJ];omega,d1,Ω,d2⟩
  ·rcases bz b h with h|⟨I,J⟩
   ·exact .inl h
   ·exact .inr ⟨Ω,J⟩
theorem wI{m:Nat}(hm:0<m){vars v:Int}(aH:vars<=100001){x:List aN×cf}(bE:gU x.1)(ad:∀b∈x.1,b.v<v):∀n,gU (fW m vars v n x).1
 |0=>bE
 |n+1=>by
  have bz:=wI hm aH bE ad n;have hi:=tK hm aH (x:=x) (v:=v) n;simp only[fW,nT];split
  ·refine List.pairwise_append.2 ⟨bz,by simp[-aP,-aJ],fun a h b aa=>?_⟩;simp[-aP,-aJ]at aa;subst aa;rcases hi a h with h|⟨I,_⟩
   ·have:=ad a h;simp[-aP,-aJ];omega
   ·simp[-aP,-aJ];omega
  ·exact bz
def rn(c:cf):List aN×cf:=fW 6 4 4 4 ([],c)
def qT(c:cf):List aN×cf:=fW 5 (c.below 4) (c.below 4) (4-(c.below 4).toNat) ([],c.belowC 4)
theorem Pr(c e:cf):fh (rn c).1 (qT e).1:=by
 have aO:=e.below_le 4 Ω;have m1:=tK (m:=6) Ω (vars:=4) (v:=4) Ω (x:=(([],c):List aN×cf)) 4;have m2:=tK (m:=5) Ω (vars:=e.below 4) (v:=e.below 4) Ω (x:=(([],e.belowC 4):List aN×cf)) (4-(e.below 4).toNat);refine⟨wI Ω Ω .nil (by simp[-aP,-aJ]) 4,fun b aa=>?_,fun b aa=>?_,wI Ω Ω .nil (by simp[-aP,-aJ]) _,⟨e.below 4,fun b aa=>?_⟩,fun b aa=>?_⟩
 ·rcases m1 b aa with h|⟨I,J⟩
  ·simp[-aP,-aJ]at h
  ·omega
 ·rcases m1 b aa with h|⟨I,J,aj,aO⟩
  ·simp[-aP,-aJ]at h
  ·exact⟨J,Ω,aO⟩
 ·rcases m2 b aa with h|⟨I,J,aj,aO⟩
  ·simp[-aP,-aJ]at h
  ·exact⟨Ω,Ω,I.1,aO⟩
 ·rcases m2 b aa with h|⟨I,J,aj,aO⟩
  ·simp[-aP,-aJ]at h
  ·exact⟨J,Ω⟩
theorem AS{m:Nat}{vars v:Int}{x:List aN×cf}(h:x.2.below 2=0):nT m vars v x=(x.1++[⟨v,(eL m vars (x.2.belowC 2)).1⟩],(eL m vars (x.2.belowC 2)).2):=cX h
theorem AR{m:Nat}{vars v:Int}{x:List aN×cf}(h:¬x.2.below 2=0):nT m vars v x=(x.1,x.2.belowC 2):=bT h
def p5(x:List aN×cf)(i:Int):aS:=⟨[(0,.ptr (.obj 401) 0),(3,.slice 5 (.own (.loc 0)) (x.1.map aN.e)),(4,.int .i64 i)],[(.obj 401,x.2.e)],[(.loc 0,⟨x.1.length,120,5,none⟩)],1,[.obj 401]⟩
def p4(k:Nat)(x:List aN×cf)(i:Int):aS:=⟨[(0,.ptr (.obj 401) 0),(3,.int .i64 k),(4,.slice 5 (.own (.loc 0)) (x.1.map aN.e)),(5,.int .i64 i)],[(.obj 401,x.2.e)],[(.loc 0,⟨x.1.length,120,5,none⟩)],1,[.obj 401]⟩
theorem wJ{m:Nat}{vars v:Int}{x:List aN×cf}:∀n,(fW m vars v n x).1.length<=x.1.length+n
 |0=>dY _
 |n+1=>by
  have:=wJ (m:=m) (vars:=vars) (v:=v) (x:=x) n;simp only[fW,nT];split
  ·simp[-aP,-aJ];omega
  ·simp[-aP,-aJ];omega
theorem KG(c:cf)(al:c.ok):br aI 69 [.ptr (.obj 401) 0] (bg c) fun r ah=>r= .slice 5 .no ((rn c).1.map aN.e)/\ah=bg (rn c).2:=by
 have af:=eG c;refine br.mk mixed k7 Kd Ox (by simp[-aP,-aJ]) af.obj fun bn cb=>?_;unfold BM;clear bn cb;unfold bg;simp[-aP,-aJ];refine kH (fun n:Nat=>p5 (fW 6 4 4 n ([],c)) (4+n)) (fun n=>4-n) (fun n=>n<=4) 0 (by simp[-aP,-aJ,p5,fW];exact⟨by simp[-aP,-aJ,fresh,aD,aB,c6,au,Pv.look,gz],e9 (by simp[-aP,-aJ,fresh,aD,aB,c6,au,Pv.look,gz]),ff (by simp[-aP,-aJ,fresh,aD,aB,eQ,au,Pv.look,gz]),by simp[-aP,-aJ]⟩) Ω ?_;rintro n aU _;have ad:=wK (m:=6) (vars:=4) (v:=4) (x:=([],c)) al n;have ar:=wJ (m:=6) (vars:=4) (v:=4) (x:=([],c)) n;simp[-aP,-aJ]at ar;by_cases aO:n<4
 ·have fk:c1 (4+(n:Int)+1):=by unfold c1;omega
  have jm:(4:Int)+n<8:=Ω
  have uQ:(fW 6 4 4 n ([],c)).1.length+1<=bF:=by unfold bF;omega
  simp[-aP,-aJ,p5,jm];(refine bh.ob (CL _ ad 2) (eG _) (by unfold bg;exact ak) (by unfold bg;exact ak) (by simp[-aP,-aJ,au,bg,Pv.look]) ?_;rintro r ah ⟨rfl,rfl⟩;refine⟨fI _ _,?_⟩;unfold bg;simp[-aP,-aJ,ba]);by_cases aa:(fW 6 4 4 n ([],c)).2.below 2=0
  ·simp[-aP,-aJ,aa];(refine bh.ob (xv 4 Ω 6 Ω _ (ad.below 2)) (eG _) (by unfold bg;exact ak) (by unfold bg;exact ak) (by simp[-aP,-aJ,au,bg,Pv.look]) ?_;rintro r ah ⟨rfl,rfl⟩;refine⟨fI _ _,?_⟩;unfold bg;simp[-aP,-aJ,ba]);simp[-aP,-aJ,uQ,fk];refine dD.whl (n+1) Ω Ω ?_;simp[-aP,-aJ,p5,fW,AS aa,show(4:Int)+((n:Int)+1)=4+n+1 by omega];exact⟨by simp[-aP,-aJ,fresh,aD,aB,c6,au,Pv.look,gz,dO],e9 (by simp[-aP,-aJ,fresh,aD,aB,c6,au,Pv.look,gz,dO]),ff (by simp[-aP,-aJ,fresh,aD,aB,eQ,au,Pv.look,gz,dO]),by simp[-aP,-aJ]⟩
  ·have ep:((fW 6 4 4 n ([],c)).2.below 2==0)=false:=beq_eq_false_iff_ne.2 aa;simp[-aP,-aJ,ep,fk];refine dD.whl (n+1) Ω Ω ?_;simp[-aP,-aJ,p5,fW,AR aa,show(4:Int)+((n:Int)+1)=4+n+1 by omega];exact⟨by simp[-aP,-aJ,fresh,aD,aB,c6,au,Pv.look,gz,dO],e9 (by simp[-aP,-aJ,fresh,aD,aB,c6,au,Pv.look,gz,dO]),ff (by simp[-aP,-aJ,fresh,aD,aB,eQ,au,Pv.look,gz,dO]),by simp[-aP,-aJ]⟩
 ·obtain rfl:n=4:=Ω
  simp[-aP,-aJ,p5];(refine b4.at (bg ((rn c).2)) (.inl rfl) (eG _) (fI _ _) (by unfold bg;exact ak) (by unfold bg;exact ak) ?_;simp[-aP,-aJ,cg,Fw,bq,bA,bp,bg]);rfl
theorem KH(c:cf)(al:c.ok):br aI 71 [.ptr (.obj 401) 0] (bg c) fun r ah=>r= .slice 5 .no ((qT c).1.map aN.e)/\ah=bg (qT c).2:=by
 have af:=eG c;have U:=c.below_le 4 Ω;have j7:=al.below 4;obtain⟨k,pc⟩:∃k:Nat,c.below 4=k:=⟨(c.below 4).toNat,Ω⟩;rw[pc]at U;simp only[qT,pc,Int.toNat_natCast];generalize lA:c.belowC 4=c2 at j7⊢;refine br.mk mixed k7 Ke Oy (by simp[-aP,-aJ]) af.obj fun bn cb=>?_;unfold BN;clear bn cb;unfold bg;simp[-aP,-aJ];(refine bh.ob (sc c al 4) (eG _) (by unfold bg;exact ak) (by unfold bg;exact ak) (by simp[-aP,-aJ,au,bg,Pv.look]) ?_;rintro r ah ⟨rfl,rfl⟩;refine⟨fI _ _,?_⟩;unfold bg;simp[-aP,-aJ,ba]);simp[-aP,-aJ,pc,lA];refine kH (fun n:Nat=>p4 k (fW 5 k k n ([],c2)) (k+n)) (fun n=>4-(k+n)) (fun n=>k+n<=4) 0 (by simp[-aP,-aJ,p4,fW];exact⟨by simp[-aP,-aJ,fresh,aD,aB,c6,au,Pv.look,gz],e9 (by simp[-aP,-aJ,fresh,aD,aB,c6,au,Pv.look,gz]),ff (by simp[-aP,-aJ,fresh,aD,aB,eQ,au,Pv.look,gz]),by simp[-aP,-aJ]⟩) Ω ?_;rintro n aU _;have ad:=wK (m:=5) (vars:=k) (v:=k) (x:=([],c2)) j7 n;have ar:=wJ (m:=5) (vars:=k) (v:=k) (x:=([],c2)) n;simp[-aP,-aJ]at ar;by_cases aO:k+n<4
 ·have fk:c1 ((k:Int)+(n:Int)+1):=by unfold c1;omega
  have jm:(k:Int)+n<4:=Ω
  have uQ:(fW 5 k k n ([],c2)).1.length+1<=bF:=by unfold bF;omega
  simp[-aP,-aJ,p4,jm];(refine bh.ob (CL _ ad 2) (eG _) (by unfold bg;exact ak) (by unfold bg;exact ak) (by simp[-aP,-aJ,au,bg,Pv.look]) ?_;rintro r ah ⟨rfl,rfl⟩;refine⟨fI _ _,?_⟩;unfold bg;simp[-aP,-aJ,ba]);by_cases aa:(fW 5 k k n ([],c2)).2.below 2=0
  ·simp[-aP,-aJ,aa];(refine bh.ob (xv k Ω 5 Ω _ (ad.below 2)) (eG _) (by unfold bg;exact ak) (by unfold bg;exact ak) (by simp[-aP,-aJ,au,bg,Pv.look]) ?_;rintro r ah ⟨rfl,rfl⟩;refine⟨fI _ _,?_⟩;unfold bg;simp[-aP,-aJ,ba]);simp[-aP,-aJ,uQ,fk];refine dD.whl (n+1) Ω Ω ?_;simp[-aP,-aJ,p4,fW,AS aa,show(k:Int)+((n:Int)+1)=k+n+1 by omega];exact⟨by simp[-aP,-aJ,fresh,aD,aB,c6,au,Pv.look,gz,dO],e9 (by simp[-aP,-aJ,fresh,aD,aB,c6,au,Pv.look,gz,dO]),ff (by simp[-aP,-aJ,fresh,aD,aB,eQ,au,Pv.look,gz,dO]),by simp[-aP,-aJ]⟩
  ·have ep:((fW 5 k k n ([],c2)).2.below 2==0)=false:=beq_eq_false_iff_ne.2 aa;simp[-aP,-aJ,ep,fk];refine dD.whl (n+1) Ω Ω ?_;simp[-aP,-aJ,p4,fW,AR aa,show(k:Int)+((n:Int)+1)=k+n+1 by omega];exact⟨by simp[-aP,-aJ,fresh,aD,aB,c6,au,Pv.look,gz,dO],e9 (by simp[-aP,-aJ,fresh,aD,aB,c6,au,Pv.look,gz,dO]),ff (by simp[-aP,-aJ,fresh,aD,aB,eQ,au,Pv.look,gz,dO]),by simp[-aP,-aJ]⟩
 ·obtain rfl:n=4-k:=Ω
  have jm:¬(k:Int)+(4-k:Nat)<4:=Ω
  simp[-aP,-aJ,p4,jm];(refine b4.at (bg ((fW 5 k k (4-k) ([],c2)).2)) (.inl rfl) (eG _) (fI _ _) (by unfold bg;exact ak) (by unfold bg;exact ak) ?_;simp[-aP,-aJ,cg,Fx,bq,bA,bp,bg])
theorem PH(d:List Int)(aY:lp d)(ar:d.length<=10000000)(n:Nat)(aU:n<=1000000):c8 aI 15 [.slice 1 .no (fc d),.int .i64 n] (.slice 5 .no ((rn (kD d n)).1.map aN.e)):=by refine dS k7 J2 Oi fun bn=>?_;unfold BB;simp[-aP,-aJ];refine bh.new (xw d aY ar n aU) ((dE.of ⟨by intro m;simp[-aP,-aJ,Pv.look],by intro m;simp[-aP,-aJ,Pv.look]⟩ (by simp[-aP,-aJ,aD,aB,au,Pv.look]) (by simp[-aP,-aJ,aD,aB,au,Pv.look]))) ak ak (by simp[-aP,-aJ]) ?_;rintro r ah ⟨rfl,rfl⟩;refine⟨fun m _=>.inr (by simp[-aP,-aJ]),?_⟩;unfold bg;simp[-aP,-aJ,ba];(refine bh.ob (KG _ (wX aY ar n)) (eG _) (by unfold bg;exact ak) (by unfold bg;exact ak) (by simp[-aP,-aJ,au,bg,Pv.look]) ?_;rintro r ah ⟨rfl,rfl⟩;refine⟨fI _ _,?_⟩;unfold bg;simp[-aP,-aJ,ba]);simp[-aP,-aJ,dy,Fl,bq,bA,bp]
theorem PG(d:List Int)(aY:lp d)(ar:d.length<=10000000)(n:Nat)(aU:n<=1000000):c8 aI 16 [.slice 1 .no (fc d),.int .i64 n] (.slice 5 .no ((qT (kD d n)).1.map aN.e)):=by refine dS k7 J1 Oh fun bn=>?_;unfold BA;simp[-aP,-aJ];refine bh.new (xw d aY ar n aU) ((dE.of ⟨by intro m;simp[-aP,-aJ,Pv.look],by intro m;simp[-aP,-aJ,Pv.look]⟩ (by simp[-aP,-aJ,aD,aB,au,Pv.look]) (by simp[-aP,-aJ,aD,aB,au,Pv.look]))) ak ak (by simp[-aP,-aJ]) ?_;rintro r ah ⟨rfl,rfl⟩;refine⟨fun m _=>.inr (by simp[-aP,-aJ]),?_⟩;unfold bg;simp[-aP,-aJ,ba];(refine bh.ob (KH _ (wX aY ar n)) (eG _) (by unfold bg;exact ak) (by unfold bg;exact ak) (by simp[-aP,-aJ,au,bg,Pv.look]) ?_;rintro r ah ⟨rfl,rfl⟩;refine⟨fI _ _,?_⟩;unfold bg;simp[-aP,-aJ,ba]);simp[-aP,-aJ,dy,Fk,bq,bA,bp]
theorem G6{t u:T}(I:t.kind=u.kind)(J:t.int=u.int)(aj:t.name=u.name)(aO:t.args=u.args):t=u:=by cases t<;>cases u<;>simp_all
def MM(t u:T)(k:Nat)(st:aS):Prop:=∃i:Nat,i<=t.args.length/\k=t.args.length-i/\t.args.take i=u.args.take i/\st=⟨[(3,.ptr (.loc 1) 0),(36,.slice 4 .no (t.args.map T.e)),(37,.int .i64 t.args.length),(38,.int .i64 i)],[(.loc 1,[.int .i64 u.kind,.int .i64 u.int,.str u.name,.slice 4 .no (u.args.map T.e)])],[],2,[]⟩
theorem Gz(t:T)(bz:∀x∈t.args,∀u:T,c8 aI 24 [x.e,u.e] (.bool (decide (x=u))))(u:T):c8 aI 24 [t.e,u.e] (.bool (decide (t=u))):=by
 have hle:t.args.length<=2:=by cases t<;>simp
 refine dS k7 JZ Oe fun bn=>?_;unfold By;simp;(with_reducible repeat' first|((first|apply dz|apply dN|apply dM)<;>intro h<;>try simp at h)|refine a6 ?_|simp)
 ·simp[dy,th,bq,bA,bp];intro e;subst e;simp_all
 ·refine nZ (MM t u) t.args.length _ gE ⟨0,Ω,Ω,Ψ,rfl⟩ ?_;rintro k st ⟨i,aM,U,yn,rfl⟩ jL cb;clear jL cb;by_cases bS:i<t.args.length
  ·have sy:i<u.args.length:=Ω
   simp[bS,sy];(with_reducible repeat' first|((first|apply dz|apply dN|apply dM)<;>intro h<;>try simp at h)|refine a6 ?_|refine b8 (bz _ (List.getElem_mem bS) _) ?_|refine b9 (bz _ (List.getElem_mem bS) _) ?_|simp)
   ·simp[dy,th,bq,bA,bp];intro e;subst e;simp_all
   ·refine dD.next (t.args.length-(i+1)) Ω ⟨i+1,Ω,rfl,?_,rfl⟩ gE;rw[List.take_succ,List.take_succ,yn,eo bS,eo sy,h]
  ·simp[bS];(with_reducible repeat' first|refine a6 ?_|simp);simp[dy,th,bq,bA,bp];have:t.args=u.args:=by rw[List.take_of_length_le Ω,List.take_of_length_le Ω]at yn;exact yn
   simp_all;exact G6 (by assumption) (by assumption) (by assumption) (by assumption)
 all_goals simp[dy,th,bq,bA,bp]
 all_goals(intro e;subst e;simp_all)
theorem Gy(t:T):∀u:T,c8 aI 24 [t.e,u.e] (.bool (decide (t=u))):=by
 induction t with
 |pair a b gY gZ=>
  refine Gz _ fun x ad=>?_;simp at ad;rcases ad with rfl|rfl
  ·exact gY
  ·exact gZ
 |_=>exact Gz _ fun x ad=>by simp at ad
theorem PO(l:List aN)(ar:l.length<=1000000):c8 aI 25 [.slice 5 .no (l.map aN.e),.slice 5 .no (l.map aN.e)] (.bool true):=by
 refine dS k7 JY Od fun bn=>?_;unfold Bx;clear bn;simp;refine oW (fun i (_:Unit)=>⟨[(1,.slice 5 .no (l.map aN.e)),(12,.slice 5 .no (l.map aN.e)),(13,.int .i64 l.length),(14,.int .i64 i)],[],[],0,[]⟩) l.length (fun _ _=>True) () (by simp;exact gE) trivial (fun p aC _=>?_) (fun i p aM aC _=>?_)
 ·simp;simp[dy,Fi,bq,bA,bp]
 ·obtain⟨b,aH,fm⟩:=lr aM;have fk:c1 ((i:Int)+1):=by unfold c1;omega
  have bo:=Gy b.t b.t;rw[decide_eq_true rfl]at bo;simp[aM,fm];(with_reducible repeat' first|refine a6 ?_|refine b8 bo ?_|refine b9 bo ?_|simp[aM,fm,fk]);refine dD.rng () aM trivial gE
theorem Gk(d:List Int)(aY:lp d):c8 aI 4 [.slice 1 .no (fc d)] (.bool true):=by
 by_cases C7:1048576<d.length
 ·have Rk:(1048576:Int)<d.length:=Ω
  refine dS k7 Cp EJ fun bn=>?_;unfold wR;exact ij
 ·have ar:d.length<=10000000:=Ω
  have K7:¬(1048576:Int)<d.length:=Ω
  have pt:=PH d aY ar 0 Ω;have yD:=PG d aY ar 20 Ω;have yE:=PI d aY ar 40 Ω 8 Ω 8 Ω;have h:=Pr (kD d 0) (kD d 20);have ad:=B5 8 Ω 8 (kD d 40);generalize (rn (kD d 0)).1=s at pt h;generalize (qT (kD d 20)).1=t at yD h;generalize (eL 8 8 (kD d 40)).1=x at yE ad;obtain⟨rD,-,Ag⟩:=ad;rw[bT Ω]at Ag;have Ai:x.fit=true:=by unfold T.fit;rw[rD];simp;omega
  have xG:=h.ap_u x;have bk:(x.ap (cK s)).ok=true:=F0 h.okS' rD;have a2:=rR Ω h.ssz x;have a3:(x.ap (cK s)).size<=240:=Ω
  have AA:(x.ap (cK s)).fit=true:=by unfold T.fit;rw[bk];simp;omega
  have bQ:=rR Ω h.tsz (x.ap (cK s));have ey:((x.ap (cK s)).ap (cK t)).size<=5000:=Ω
  have DY:=PD h;have kS:=zZ (r2 h) x Ai Ω;have D0:=PJ h;have yB:=zZ (r3 h) _ AA ey;have D2:=zZ (nY h) x Ai (by rw[<-xG];exact ey);have D1:=nN (nY h);have kT:=PE (nY h);have ga:=PK (Ci (nY h)) (OF h.ulen fun b aa=>⟨(h.ok b aa).1,(h.ok b aa).2,h.usz b aa⟩) (nY h);have kb:=PO (fF s t) (by have:=h.ulen;omega);rw[xG]at yB;have bo:=Gy (x.ap (cK (fF s t))) (x.ap (cK (fF s t)));rw[decide_eq_true rfl]at bo;clear xG bk a2 a3 AA bQ ey rD Ag Ai h;refine dS k7 Cp EJ fun bn=>?_;unfold wR;clear bn;simp;(with_reducible repeat' first|refine a6 ?_|refine b8 pt ?_|refine b9 pt ?_|refine b8 yD ?_|refine b9 yD ?_|refine b8 yE ?_|refine b9 yE ?_|refine b8 DY ?_|refine b9 DY ?_|refine b8 kS ?_|refine b9 kS ?_|refine b8 D1 ?_|refine b9 D1 ?_|refine b8 D0 ?_|refine b9 D0 ?_|refine b8 yB ?_|refine b9 yB ?_|refine b8 D2 ?_|refine b9 D2 ?_|refine b8 kT ?_|refine b9 kT ?_|refine b8 ga ?_|refine b9 ga ?_|refine b8 bo ?_|refine b9 bo ?_|refine b8 kb ?_|refine b9 kb ?_|simp[K7]);simp[dy,Fh,bq,bA,bp]
end
section
open Go Go.Pv Go.ChangeShapes Go.WideShapes Go.ChangeAt Go.RowKit
theorem O6:ownKnob aI.godebug=none:=by kernel_rfl
theorem O5:laidOutB aI=true:=by kernel_rfl
theorem HH:aI.cellsOf 5=1:=by kernel_rfl
theorem A1(w:World)(ν:aA):∀xs:List Int,bN w ν 1 (fc xs) (xs.map (kt .u8))
 |[]=>by simp[fc,bN]
 |x::xs=>by simp only[fc,eU,bN];exact⟨.int .u8 x,_,rfl,⟨by simp[aw],rfl,by intro c al;simp[h3]at al;subst al;rfl⟩,A1 w ν xs⟩
def xz(b o:Nat):Prop:= ∃x∈n4,x.1=b/\x.2.1=o
def ml(w:World):Prop:= ∀x∈n4,(∃v,w.cell? ⟨x.1,x.2.1,none⟩=some v/\x.2.2.2 v)/\∃el,Pv.shape w x.1=some (x.2.2.1,el)
theorem ml.lt{w:World}(h:ml w){b o:Nat}(aG:xz b o):b<w.heap.size:=by
 obtain⟨x,ad,rfl,rfl⟩:=aG;obtain⟨⟨v,aH,_⟩,_⟩:=h x ad;rcases Nat.lt_or_ge x.1 w.heap.size with h|h
 ·exact h
 ·simp[World.cell?,Array.getElem?_eq_none h]at aH
theorem ml.gl{w:World}(h:ml w){ν:aA}(aQ:∀b o,xz b o->ν.A b o):jc w ν:=fun x ad=>⟨aQ _ _ ⟨x,ad,rfl,rfl⟩,h x ad⟩
theorem z8{w:World}{n:String}{g:Nat}{cs:Array Value}(aG:aI.globalNamed n=some g)(h:w.var? aI n=some cs):∃el,Pv.shape w g=some (cs.size,el):=by
 simp only[World.var?,aG,Option.bind_some]at h;unfold Pv.shape;split at h
 ·rename_i c t fz e;cases h;rw[e];exact⟨_,rfl⟩
 ·cases h
theorem KR{w:World}(az:Lib.TabIs aI w "internal/strconv.uint64pow10" .u64 Lib.pow10Tab)(af:∃u v,w.var? aI "strconv.ErrSyntax" =some #[.iface u v])(hr:∃u v,w.var? aI "strconv.ErrRange" =some #[.iface u v]):ml w:=by
 have g0:aI.globalNamed "internal/strconv.uint64pow10" =some 0:=by kernel_rfl
 have g1:aI.globalNamed "strconv.ErrSyntax" =some 1:=by kernel_rfl
 have g2:aI.globalNamed "strconv.ErrRange" =some 2:=by kernel_rfl
 obtain⟨fU,v1,I⟩:=af;obtain⟨fN,v2,J⟩:=hr;intro x ad;unfold n4 at ad;rcases ht.1 ad with ad|ad
 ·obtain⟨i,aM,rfl⟩:=ku.1 ad;have aM:=List.mem_range.1 aM;refine⟨⟨_,az.cell g0 i (by simpa[Lib.pow10Tab]using aM),?_⟩,?_⟩
  ·show kt .u64 _=_;rw[Lib.pow10Tab_at i aM]
  ·obtain⟨el,h⟩:=z8 g0 az;exact⟨el,by simpa[Lib.pow10Tab]using h⟩
 ·simp only[ft,List.not_mem_nil,or_false]at ad;rcases ad with rfl|rfl
  ·refine⟨⟨.iface fU v1,by simpa using World.var?_cell g1 I 0,_,_,rfl⟩,?_⟩;obtain⟨el,h⟩:=z8 g1 I;exact⟨el,by simpa using h⟩
  ·refine⟨⟨.iface fN v2,by simpa using World.var?_cell g2 J 0,_,_,rfl⟩,?_⟩;obtain⟨el,h⟩:=z8 g2 J;exact⟨el,by simpa using h⟩
theorem Ef{n NC:String}{d:DataW Unit}{r:List (String×DataW Unit)}{W:World}{g:Nat}{cV:eb}{ms:Array (String×eb)}(h:laidMet aI ((n,.iface NC d)::r) W)
  (aG:aI.globalNamed n=some g) (az:(aI.globals[g]?).map (·.type)=some cV) (aM:aI.underlying cV=some (.interface ms)):∃u v,W.var? aI n=some #[.iface u v]:=by
 obtain⟨a8,⟨g0,t0,Io,f0,EO,zf,Lw,Mp,u1,Lh,_,me⟩,_,_⟩:=h;obtain rfl:=p3 (aG.symm.trans Lw);obtain rfl:=p3 (az.symm.trans Mp);obtain⟨RW⟩:=Io;obtain⟨_,u,v,al,_,_⟩:=iface_of_trod aM Lh;simp only at al;subst al;exact⟨u,v,u1⟩
def r5(b off n:Nat):aA:=⟨fun dL o=>(dL=b/\off<=o/\o<off+n)\/xz dL o,fun _=>none,fun _=>none,fun _ _ _=>cU⟩
theorem xd{w:World}(hm:ml w){b off n:Nat}(aa:n=0\/b<w.heap.size):∀dL o,(r5 b off n).A dL o->dL<w.heap.size:=by
 rintro dL o (⟨rfl,I,J⟩|h)
 ·rcases aa with rfl|aa
  ·omega
  ·exact aa
 ·exact hm.lt h
theorem xc{w:World}(hm:ml w)(b off n:Nat):jc w (r5 b off n):=hm.gl fun _ _ h=>.inr h
theorem pw(w:World)(A:Nat->Nat->Prop)(b:Nat):∀(us:List Value) (off:Nat),(∀i u,us[i]? =some u->A b (off+i)/\w.cell? ⟨b,off+i,none⟩=some u)->gP w A b off us
 |[],_,_=>trivial
 |u::us,off,h=>⟨by simpa using h 0 u rfl,pw w A b us (off+1) fun i dq hu=>by have:=h (i+1) dq (by simpa using hu);rwa[show off+(i+1)=off+1+i from by omega]at this⟩
theorem wU{f:FuncId}{fn:Func}(o8:aI.funcs[f]? =some fn)(It:∀args w,(callFunc f args).run aI w= .ok (.enter f args) w){w:World}{ν:aA}{args:List ae}{aV:Array Value}(gl:jc w ν)(h:c8 aI f args (.bool true))(az:∀k j b,¬ν.tr k j b)(aQ:∀b o,ν.A b o->b<w.heap.size)(aa:∀k,ν.bx k=none)(ab:∀k,ν.ow k=none)(hr:bG w ν args aV.toList):
  Calls aI f aV w fun e w'=>e= .returned (.bool true)/\Below w.heap.size w w':=by
 have aG:Pv.Good (eg ν ⟨[],[]⟩) w ν [] []:=⟨aQ,fun k cs U=>by simp[Pv.look]at U,fun k aT bl I=>by simp[Pv.look]at I,fun g o U=>by simp[Pv.look]at U,fun g dh n n' v v' bl I=>by simp[Pv.look]at I,fun g k n v bl I=>by simp[Pv.look]at I,fun k=>.inl (aa k),fun _ _ k j=>az k j _⟩;rcases h w ν aV gl aG (fun k=>⟨fun _=>aa k,fun _=>ab k,az k⟩) hr with⟨_,al⟩|⟨v,w',al,_⟩
 ·refine al.mono ?_;rintro e w' ⟨v,r,ah,ν',rfl,⟨rfl,rfl⟩,hJ,_,_,_,ka⟩;simp only[aw]at hJ;subst hJ;refine⟨rfl,ka.os,ka.tape,ka.output,ka.size,fun k U=>ka.block k U ?_⟩;simp[eg,Pv.look]
 ·rw[It]at al;cases al
theorem PX{n:Int}(h:(Lit.int .u8 n).wf=true):0<=n/\n<256:=by simp[Lit.wf,IntKind.min,IntKind.max,IntKind.signed,IntKind.bits]at h;omega
end
end Go.Proofs.YtlnndmgfngfeiaaGreatDoor
