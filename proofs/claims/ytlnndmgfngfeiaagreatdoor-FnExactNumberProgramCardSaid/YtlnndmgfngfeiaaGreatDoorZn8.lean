/- Contracts of the reference: a goal's variables. -/
import Derived.Test.YtlnndmgfngfeiaaGreatDoorProg
import Derived.Test.YtlnndmgfngfeiaaGreatDoorZn7
set_option linter.all false
set_option maxHeartbeats 4000000
set_option maxRecDepth 4000
open Bool renaming and_eq_true->bJ,false_eq_true->kG
open Go.IntKind renaming i64->lL
open Go.IntWalk renaming i64_in->ou
open Go.Proofs.Tryz renaming prog->aF
open List renaming all_eq_true->ji,append_assoc->lr,cons_append->dF,drop_eq_getElem_cons->pR,drop_length->jR,getElem?_drop->mb,getElem?_eq_getElem->cL,getElem?_eq_some_iff->fo,length_append->gx,length_cons->gg,length_drop->hX,length_nil->mJ,length_pos_iff->sJ,map_cons->fF,mem_append->hl,mem_cons->gy,mem_of_getElem?->e1,take_add_one->k3,take_length->hE,take_of_length_le->vB,take_succ_cons->sK
open Nat renaming eq_or_lt_of_le->jS,le_refl->cc,lt_or_ge->mc,zero_le->pT
open Option renaming getD_some->qD,isSome_none->uu,map_none->vC,map_some->lM
open Option.some renaming inj->gB
open UInt8 renaming ofNat->oW
open _root_ renaming False->dr,Option->aW,UInt8->aj,beq_eq_false_iff_ne->jj,beq_iff_eq->eA,decide_eq_true->oX,decide_eq_true_eq->fs,if_neg->br
namespace Go.Proofs.YtlnndmgfngfeiaaGreatDoor
section
open Go Go.Pv
def Fx:C:=(ag [bh 2 (.mov (.c (.str [])))] (.seq (ag [aa 4 0,a7 5 .lss 4 0] (bb 5 (.seq (ag [aa 6 0,a7 7 .quo 6 10,a7 8 .eql 7 0] (bb 8 (ag [aa 9 0,bh 10 (.bin .sub false (de 48) (.t 9)),bh 11 (.conv .u8 (.t 10)),gU 12 1 5 [.t 11],bh 13 (.b2s (.t 12)),bh 14 (.bin .add false (.c (.str [45])) (.t 13)),aa 2 14] .ret) .skip)) (.seq (.drawn true 44 [aa 15 0,a7 16 .quo 15 10,cl 17 57 16,aa 18 0,a7 19 .rem 18 10,bh 20 (.bin .sub false (de 48) (.t 19)),bh 21 (.conv .u8 (.t 20)),gU 22 1 5 [.t 21],bh 23 (.b2s (.t 22)),cj 24 .add 17 23,aa 2 24]) .ret)) .skip)) (ag [bh 3 (.mov (.c (.str [])))] (.seq (.block 0 (.loop (.seq (ag [aa 25 0,a7 26 .gtr 25 9] (bb 26 .skip (.exit 0))) (.block 1 (ag [aa 27 0,a7 28 .rem 27 10,bh 29 (.bin .add false (de 48) (.t 28)),bh 30 (.conv .u8 (.t 29)),gU 31 1 5 [.t 30],bh 32 (.b2s (.t 31)),aa 33 3,cj 34 .add 32 33,aa 3 34] (.region [aa 35 0,a7 36 .quo 35 10,aa 0 36])))))) (ag [aa 37 0,bh 38 (.bin .add false (de 48) (.t 37)),bh 39 (.conv .u8 (.t 38)),gU 40 1 5 [.t 39],bh 41 (.b2s (.t 40)),aa 42 3,cj 43 .add 41 42,aa 2 43] .ret)))))
@[simp] def HK:List ca:=[.tmp 2]
def Fz:C:=(ag [fm 1 0,bh 2 (.mov (.c (.str [])))] (.seq (.drawn true 53 [lq 9 131 [],a6 10 0 1 1,a8 11 1 10,cP 12 1 9 11,a8 13 1 12,a6 14 1 1 1,a8 15 1 14,cj 16 .add 13 15,aa 3 16]) (.seq (ag [a6 17 0 1 1,a8 18 1 17,a7 19 .leq 18 1] (bb 19 (ag [aa 20 3,aa 2 20] .ret) .skip)) (ag [aa 21 3,gU 22 1 9 [.t 21],aa 4 22] (.seq (ag [a6 23 2 1 1,a8 24 1 23,cT 25 24,bU 26 0] (k0 27 26 25 (.seq (.block 1 (ag [cP 28 4 24 26,bO 29 4 28,hv 6 dd,bF 4 6 29] (.region [aa 30 4,bO 31 4 6,cl 32 132 31,gU 33 1 9 [.t 32],kZ 34 1 9 30 33,aa 4 34]))) (.region [a7 35 .add 26 1,aa 26 35])))) (.seq (ag [a6 36 3 1 1,a8 37 1 36,cT 38 37,bU 39 0] (.block 2 (.loop (ag [cj 40 .lss 39 38] (.seq (bb 40 .skip (.exit 2)) (.seq (.block 3 (ag [cP 41 4 37 39,bO 42 4 41,c7 (.alloc 8 none (.agg [.int .i64 0,.str [],.slice 4 .nil [],.slice 4 .nil []])),bF 4 8 42] (.region [aa 43 4,bO 44 4 8,cl 45 58 44,gU 46 1 9 [.t 45],kZ 47 1 9 43 46,aa 4 47]))) (.region [a7 48 .add 39 1,aa 39 48]))))))) (ag [aa 49 4,⟨none,.call (some 50) (.c (.func 59 [])) [.t 49,(.c (.str [32]))]⟩,bh 51 (.bin .add false (.c (.str [40])) (.t 50)),bh 52 (.bin .add false (.t 51) (.c (.str [41]))),aa 2 52] .ret)))))))
@[simp] def Wi:List ca:=[.tmp 2]
def P1:C:=(ag [bh 4 (.mov (.c (.str [])))] (ag [bh 5 (.mov (.c (.str [])))] (.seq (ag [aa 8 0,cT 9 8,bU 10 0] (k0 11 10 9 (.seq (.block 1 (ag [aa 12 10,cP 13 1 8 10,a8 14 1 13,aa 6 12,aa 7 14] (.seq (ag [aa 15 6,a7 16 .gtr 15 0] (bb 16 (.region [aa 17 5,aa 18 1,cj 19 .add 17 18,aa 5 19]) .skip)) (.region [aa 20 5,aa 21 7,cj 22 .add 20 21,aa 5 22])))) (.region [a7 23 .add 10 1,aa 10 23])))) (ag [aa 24 5,aa 4 24] .ret))))
@[simp] def aiO:List ca:=[.tmp 4]
def Qb:C:=(ag [fm 2 0,ng 4 1] (.seq (ag [a6 9 2 1 2,a8 10 1 9,cT 11 10,bU 12 0] (k0 13 12 11 (.seq (.block 1 (ag [cP 14 4 10 12,bO 15 4 14,hv 6 dd,bF 4 6 15] (.region [bO 16 4 6,aa 17 1,eb 18 156 16 17,aa 1 18]))) (.region [a7 19 .add 12 1,aa 12 19])))) (.seq (ag [a6 20 3 1 2,a8 21 1 20,cT 22 21,bU 23 0] (.block 2 (.loop (ag [cj 24 .lss 23 22] (.seq (bb 24 .skip (.exit 2)) (.seq (.block 3 (ag [cP 25 4 21 23,bO 26 4 25,c7 (.alloc 8 none (.agg [.int .i64 0,.str [],.slice 4 .nil [],.slice 4 .nil []])),bF 4 8 26] (.region [bO 27 4 8,aa 28 1,eb 29 89 27 28,aa 1 29]))) (.region [a7 30 .add 23 1,aa 23 30]))))))) (ag [aa 31 1,aa 4 31] .ret))))
@[simp] def aiX:List ca:=[.tmp 4]
def P0:C:=(ag [bK 2 false] (.seq (ag [c7 (.bsl 5 1 9 [(.c (.str [116,114,117,101])),(.c (.str [102,97,105,108])),(.c (.str [115,121,109,98,111,108])),(.c (.str [110,117,109,98,101,114])),(.c (.str [97,98,115,101,110,116])),(.c (.str [97,110,100])),(.c (.str [111,114])),(.c (.str [110,111,116])),(.c (.str [100,101,102,105,110,101]))]),cT 6 5,bU 7 0] (k0 8 7 6 (.seq (.block 1 (ag [cP 9 1 5 7,a8 10 1 9,aa 4 10] (ag [aa 11 4,aa 12 0,cj 13 .eql 11 12] (bb 13 (ag [bK 2 false] .ret) .skip)))) (.region [a7 14 .add 7 1,aa 7 14])))) (ag [aa 15 0,cl 16 188 15,aa 2 16] .ret)))
@[simp] def aiN:List ca:=[.tmp 2]
def Qd:C:=(ag [ng 0 1] (ag [c7 (.bsl 1 1 9 [(.c (.str [116,114,117,101])),(.c (.str [102,97,105,108])),(.c (.str [61])),(.c (.str [47,61])),(.c (.str [115,121,109,98,111,108])),(.c (.str [110,117,109,98,101,114])),(.c (.str [97,98,115,101,110,116])),(.c (.str [97,110,100])),(.c (.str [111,114])),(.c (.str [])),(.c (.str [110,111,116]))]),aa 0 1] .ret))
@[simp] def ai0:List ca:=[.tmp 0]
def Az:C:=(ag [fm 1 0,bh 2 (.mov (.c (.str [])))] (.seq (ag [a6 4 0 1 1,a8 5 1 4] (.block 0 (ag [a7 7 .eql 5 0,aa 6 7] (bb 6 (ag [bh 2 (.mov (.c (.str [40,41])))] .ret) (ag [a7 9 .eql 5 1,aa 8 9] (bb 8 (ag [a6 10 1 1 1,a8 11 1 10,cl 12 57 11,bh 13 (.bin .add false (.c (.str [63])) (.t 12)),aa 2 13] .ret) (ag [a7 15 .eql 5 2,aa 14 15] (bb 14 (ag [a6 16 2 1 1,a8 17 1 16,aa 2 17] .ret) (ag [a7 19 .eql 5 3,aa 18 19] (bb 18 (ag [a6 20 1 1 1,a8 21 1 20,cl 22 57 21,aa 2 22] .ret) .skip)))))))))) (ag [a6 23 3 1 1,a8 24 1 23,ma 25 4 24 0,bO 26 4 25,cl 27 132 26,bh 28 (.bin .add false (.c (.str [40])) (.t 27)),aa 3 28] (.seq (ag [a6 29 3 1 1,a8 30 1 29,ma 31 4 30 1,bO 32 4 31,bF 4 1 32] (.block 1 (.loop (.seq (ag [a6 33 0 1 1,a8 34 1 33,a7 35 .eql 34 4] (bb 35 .skip (.exit 1))) (.seq (.block 2 (.region [aa 40 3,bh 41 (.bin .add false (.t 40) (.c (.str [32]))),a6 42 3 1 1,a8 43 1 42,ma 44 4 43 0,bO 45 4 44,cl 46 132 45,cj 47 .add 41 46,aa 3 47])) (.region [a6 36 3 1 1,a8 37 1 36,ma 38 4 37 1,bO 39 4 38,bF 4 1 39])))))) (.seq (ag [a6 48 0 1 1,a8 49 1 48,a7 50 .neq 49 0] (bb 50 (.region [aa 51 3,bh 52 (.bin .add false (.t 51) (.c (.str [32,46,32]))),bO 53 4 1,cl 54 132 53,cj 55 .add 52 54,aa 3 55]) .skip)) (ag [aa 56 3,bh 57 (.bin .add false (.t 56) (.c (.str [41]))),aa 2 57] .ret))))))
@[simp] def MU:List ca:=[.tmp 2]
def Jh:C:=(ag [fm 1 0,bK 2 false] (ag [bO 3 4 1,lq 4 210 [.t 3,(de 80)],a7 5 .leq 4 80,aa 6 5,aO 6 true (bO 7 4 1),aO 6 true (cl 8 211 7),fx 9 6 8,aa 2 9] .ret))
@[simp] def MS:List ca:=[.tmp 2]
def Qa:C:=(ag [fm 2 0,bU 4 0] (ag [bU 5 1] (.seq (ag [a6 8 3 1 2,a8 9 1 8,cT 10 9,bU 11 0] (k0 12 11 10 (.seq (.block 1 (ag [cP 13 4 9 11,bO 14 4 13,c7 (.alloc 7 none (.agg [.int .i64 0,.str [],.slice 4 .nil [],.slice 4 .nil []])),bF 4 7 14] (.seq (ag [aa 15 5,aa 16 1,cj 17 .gtr 15 16] (bb 17 (ag [aa 18 5,aa 4 18] .ret) .skip)) (.region [aa 19 5,bO 20 4 7,aa 21 1,aa 22 5,cj 23 .sub 21 22,eb 24 210 20 23,cj 25 .add 19 24,aa 5 25])))) (.region [a7 26 .add 11 1,aa 11 26])))) (ag [aa 27 5,aa 4 27] .ret))))
@[simp] def aiW:List ca:=[.tmp 4]
def sR:C:=(ag [fm 1 0,bK 2 false] (.seq (ag [a6 6 0 1 1,a8 7 1 6,lq 8 127 [.t 7,(de 0),(de 10)],dK 9 8,aa 10 9,aO 10 false (a6 11 0 1 1),aO 10 false (a8 12 1 11),aO 10 false (a7 13 .neq 12 9),b4 10 false 14 13,aO 14 true (a6 15 1 1 1),aO 14 true (a8 16 1 15),mI 14 true 17 (.bin .neq false (.t 16) (.c (.str []))),aO 10 false (fx 18 14 17),dA 19 10 18,aa 20 19,aO 20 false (a6 21 2 1 1),aO 20 false (a8 22 1 21),aO 20 false (cl 23 253 22),aO 20 false (dK 24 23),dA 25 20 24] (bb 25 (ag [bK 2 false] .ret) .skip)) (ag [a6 26 2 1 1,a8 27 1 26,cT 28 27,gU 29 1 3 [(de 0),(de 0),(de 2),(de 2),(de 1),(de 1),(de 2),(de 0),(de 0),.t 28,(de 0)],a6 30 0 1 1,a8 31 1 30,cP 32 1 29 31,a8 33 1 32,aa 3 33] (.seq (ag [a6 34 2 1 1,a8 35 1 34,cT 36 35,aa 37 3,cj 38 .neq 36 37,aa 39 38,b4 39 false 40 3,aO 39 false (a7 41 .gtr 40 4),dA 42 39 41,aa 43 42,aO 43 false (a6 44 0 1 1),aO 43 false (a8 45 1 44),aO 43 false (a7 46 .lss 45 7),b4 43 false 47 46,aO 47 true (a6 48 3 1 1),aO 47 true (a8 49 1 48),aO 47 true (cT 50 49),aO 47 true (a7 51 .gtr 50 0),aO 43 false (fx 52 47 51),dA 53 43 52,aa 54 53,aO 54 false (a6 55 3 1 1),aO 54 false (a8 56 1 55),aO 54 false (cT 57 56),aO 54 false (a7 58 .gtr 57 8),dA 59 54 58] (bb 59 (ag [bK 2 false] .ret) .skip)) (.seq (ag [a6 60 3 1 1,a8 61 1 60,cT 62 61,bU 63 0] (k0 64 63 62 (.seq (.block 1 (ag [cP 65 4 61 63,bO 66 4 65,c7 (.alloc 5 none (.agg [.int .i64 0,.str [],.slice 4 .nil [],.slice 4 .nil []])),bF 4 5 66] (ag [bO 67 4 5,cl 68 211 67,dK 69 68] (bb 69 (ag [bK 2 false] .ret) .skip)))) (.region [a7 70 .add 63 1,aa 63 70])))) (.seq (ag [a6 71 0 1 1,a8 72 1 71] (.block 2 (ag [a7 74 .eql 72 6,aa 73 74] (bb 73 (ag [a6 75 2 1 1,a8 76 1 75,ma 77 4 76 0,a6 78 0 1 77,a8 79 1 78,a7 80 .eql 79 2,aa 2 80] .ret) (ag [a7 82 .eql 72 9,aa 81 82] (bb 81 (ag [a6 83 3 1 1,a8 84 1 83,cT 85 84,a7 86 .eql 85 0,aa 87 86,aO 87 true (a6 88 1 1 1),aO 87 true (a8 89 1 88),aO 87 true (cl 90 128 89),fx 91 87 90,aa 2 91] .ret) (ag [a7 93 .eql 72 10,aa 92 93] (bb 92 (ag [a6 94 3 1 1,a8 95 1 94,cT 96 95,a7 97 .eql 96 1,aa 98 97,aO 98 true (a6 99 3 1 1),aO 98 true (a8 100 1 99),aO 98 true (ma 101 4 100 0),aO 98 true (a6 102 0 1 101),aO 98 true (a8 103 1 102),aO 98 true (a7 104 .eql 103 9),fx 105 98 104,aa 2 105] .ret) .skip)))))))) (ag [bK 2 true] .ret)))))))
@[simp] def BU:List ca:=[.tmp 2]
def P4:C:=(ag [bK 2 false] (.seq (ag [aa 5 0,cT 6 5,bU 7 0] (k0 8 7 6 (.seq (.block 1 (ag [cP 9 4 5 7,bO 10 4 9,hv 4 dd,bF 4 4 10] (ag [bO 11 4 4,cl 12 271 11,dK 13 12] (bb 13 (ag [bK 2 false] .ret) .skip)))) (.region [a7 14 .add 7 1,aa 7 14])))) (ag [bK 2 true] .ret)))
@[simp] def aiT:List ca:=[.tmp 2]
def ss:List (Nat×dh):=[
 (3,⟨1,8,.int .i64,.int .i64 0⟩),
 (5,⟨1,1,.int .u8,.int .u8 0⟩),
 (9,⟨1,16,.str,.str []⟩),
 (35,⟨1,24,.slice 5,.slice 1 .nil []⟩),
 (38,⟨1,24,.slice 40,.slice 4 .nil []⟩),
 (40,⟨4,56,.struct [(0,3),(1,3),(2,9),(3,38)],.agg [.int .i64 0,.int .i64 0,.str [],.slice 4 .nil []]⟩),
 (63,⟨1,24,.slice 65,.slice 4 .nil []⟩),
 (65,⟨4,72,.struct [(0,3),(1,9),(2,38),(3,63)],.agg [.int .i64 0,.str [],.slice 4 .nil [],.slice 4 .nil []]⟩),
 (70,⟨1,24,.slice 9,.slice 1 .nil []⟩),
 (136,⟨1,24,.slice 3,.slice 1 .nil []⟩)]
theorem jx:eW aF ss=true:=by kernel_rfl
theorem MB:cJ ss Fx HK 1 Tryz.f57=true:=by kernel_rfl
theorem J4:aF.funcs[(57:Nat)]? =some Tryz.f57:=Tryz.func57
theorem MD:cJ ss Fz Wi 1 Tryz.f58=true:=by kernel_rfl
theorem J6:aF.funcs[(58:Nat)]? =some Tryz.f58:=Tryz.func58
theorem ahK:cJ ss P1 aiO 2 Tryz.f59=true:=by kernel_rfl
theorem ab7:aF.funcs[(59:Nat)]? =some Tryz.f59:=Tryz.func59
theorem ahU:cJ ss Qb aiX 2 Tryz.f89=true:=by kernel_rfl
theorem aci:aF.funcs[(89:Nat)]? =some Tryz.f89:=Tryz.func89
theorem ahJ:cJ ss P0 aiN 1 Tryz.f128=true:=by kernel_rfl
theorem ab6:aF.funcs[(128:Nat)]? =some Tryz.f128:=Tryz.func128
theorem ahW:cJ ss Qd ai0 0 Tryz.f131=true:=by kernel_rfl
theorem ack:aF.funcs[(131:Nat)]? =some Tryz.f131:=Tryz.func131
theorem En:cJ ss Az MU 1 Tryz.f132=true:=by kernel_rfl
theorem C2:aF.funcs[(132:Nat)]? =some Tryz.f132:=Tryz.func132
theorem Vq:cJ ss Jh MS 1 Tryz.f155=true:=by kernel_rfl
theorem Rt:aF.funcs[(155:Nat)]? =some Tryz.f155:=Tryz.func155
theorem ahT:cJ ss Qa aiW 2 Tryz.f210=true:=by kernel_rfl
theorem ach:aF.funcs[(210:Nat)]? =some Tryz.f210:=Tryz.func210
theorem vg:cJ ss sR BU 1 Tryz.f211=true:=by kernel_rfl
theorem uQ:aF.funcs[(211:Nat)]? =some Tryz.f211:=Tryz.func211
theorem ahN:cJ ss P4 aiT 1 Tryz.f253=true:=by kernel_rfl
theorem aca:aF.funcs[(253:Nat)]? =some Tryz.f253:=Tryz.func253
theorem Iv(d:Nat)(h:d<10):IntKind.u8.wrap (48+(d:Int))=((48+d:Nat):Int):=by rcases(by omega:d=0\/d=1\/d=2\/d=3\/d=4\/d=5\/d=6\/d=7\/d=8\/d=9)with rfl|rfl|rfl|rfl|rfl|rfl|rfl|rfl|rfl|rfl<;>rfl
theorem QL(d:Nat):oW (48+(d:Int)).toNat=48+oW d:=by rw[show(48+(d:Int)).toNat=48+d by omega];simp
theorem QK(d:Nat)(h:d<10):oW (IntKind.u8.wrap (48+(d:Int))).toNat=48+oW d:=by rw[Iv d h,Int.toNat_natCast];simp
theorem QF(m:Nat)(h:m<18446744073709551616):(Lib.decDigits m).length<=25:=by
 have:∀(k:Nat) (m:Nat),m<10 ^ (k+1)->(Lib.decDigits m).length<=k+1:=by
  intro k;induction k with
  |zero=>intro m hm;rw[uK (by simpa using hm)];simp
  |succ k aX=>
   intro m hm;by_cases h:m<10
   ·rw[uK h];simp
   ·rw[xt Ω,gx];have:=aX (m/10) (by rw[Nat.pow_succ]at hm;omega);simp;omega
 exact this 24 m Ω
theorem ajs(m:Nat)(h:m<=9223372036854775807):bW aF 57 [.int .i64 m] (.str (Lib.decDigits m)):=by
 have bz:¬(m:Int)<0:=Ω
 have nA:=QF m Ω;generalize bt:Lib.decDigits m=R at nA;refine bI jx J4 MB fun aG=>?_;unfold Fx;clear aG;simp;(with_reducible repeat' first|refine av ?_|simp[bz]);refine hR (fun(x:Nat×List aj)=>⟨[(0,.int .i64 x.1),(3,.str x.2)],[],[],0,[]⟩) (fun x=>x.1) (fun x=>x.1<=9223372036854775807/\Lib.decDigits x.1++x.2=R) (m,[]) (by simp;exact cW) ⟨h,by simp[bt]⟩ ?_;rintro⟨j,o⟩ ⟨I,J⟩ _;simp only at I J;have uZ:o.length<=25:=by rw[<-J]at nA;simp at nA;omega
 have fJ:1+o.length<=aR:=by unfold aR;omega
 have fe:o.length+1<=aR:=by unfold aR;omega
 by_cases ai:9<j
 ·have aI:(j:Int).tdiv 10=(j/10:Nat):=by rw[Int.tdiv_eq_ediv_of_nonneg Ω];omega
  have hm:(j:Int).tmod 10=(j%10:Nat):=by rw[Int.tmod_eq_emod_of_nonneg Ω];omega
  have zy:=Iv (j%10) Ω;have eX:aY (48+((j%10:Nat):Int)):=by unfold aY;omega
  have hw:lL.wrap ((j/10:Nat):Int)=((j/10:Nat):Int):=ou _ Ω;have DW:lL.wrap ((j%10:Nat):Int)=((j%10:Nat):Int):=ou _ Ω;have DX:lL.wrap ((j:Int)/10)=(j:Int)/10:=ou _ Ω;have DY:oW (IntKind.u8.wrap (48+(j:Int)%10)).toNat=48+oW (j%10):=by have:=QK (j%10) Ω;rwa[Int.natCast_emod]at this
  have mr:(9:Int)<j:=Ω
  rw[xt Ω]at J;simp[mr,ai];(with_reducible repeat' first|refine av ?_|simp[aI,hm,zy,eX,hw,DW,fJ,fe]);refine b1.whl (j/10,oW (48+j%10)::o) (by simp;omega) ⟨by simp;omega,by rw[<-J];simp⟩ ⟨by simp[fresh,kinL,kin,bu,ak,Pv.look,DX,DY],cG (by simp[fresh,kinL,kin,bu,ak,Pv.look,DX,DY]),cI (by simp[fresh,kinL,kin,cw,ak,Pv.look,DX,DY]),Ψ⟩
 ·have mr:¬(9:Int)<j:=Ω
  have zy:=Iv j Ω;have eX:aY (48+(j:Int)):=by unfold aY;omega
  rw[uK Ω]at J;subst J;simp[mr,ai];(with_reducible repeat' first|refine av ?_|simp[zy,eX,fJ,fe]);simp[cn,HK,ba,bg,aT];exact QL j
theorem ajr:∀m:Nat,1<=m->m<=9223372036854775808->bW aF 57 [.int .i64 (-(m:Int))] (.str (45::Lib.decDigits m)):=by
 intro m;induction m using Nat.strongRecOn with
 |_ m aX=>
 intro I J;have bz:0<m:=Ω
 have nA:=QF m Ω;have aI:(-(m:Int)).tdiv 10= -((m/10:Nat):Int):=by rw[Int.neg_tdiv,Int.tdiv_eq_ediv_of_nonneg Ω];omega
 have hm:(-(m:Int)).tmod 10= -((m%10:Nat):Int):=by rw[Int.neg_tmod,Int.tmod_eq_emod_of_nonneg Ω];omega
 have hw:lL.wrap (-((m/10:Nat):Int))= -((m/10:Nat):Int):=ou _ Ω;have DW:lL.wrap (-((m%10:Nat):Int))= -((m%10:Nat):Int):=ou _ Ω;by_cases az:m<10
 ·have cK:m/10=0:=Ω
  have zy:=Iv m az;have eX:aY (48+(m:Int)):=by unfold aY;omega
  have oF:(-(m:Int)).tdiv 10=0:=by rw[aI,cK];rfl
  have afg:lL.wrap 0=0:=rfl;have DP:(48:Int)- -(m:Int)=48+m:=Ω
  rw[uK az];refine bI jx J4 MB fun aG=>?_;unfold Fx;clear aG;simp;(with_reducible repeat' first|refine av ?_|simp[bz,oF,afg,DP,zy,eX]);simp[cn,HK,ba,bg,aT];exact QL m
 ·have bf:(-(m:Int)).tdiv 10= -((m:Int)/10):=by rw[aI];simp
  have hB:(-(m:Int)).tmod 10= -((m:Int)%10):=by rw[hm];simp
  have DX:lL.wrap (-((m:Int)/10))= -((m:Int)/10):=ou _ Ω;have DY:lL.wrap (-((m:Int)%10))= -((m:Int)%10):=ou _ Ω;have aeN:((-((m:Int)/10))==0)=false:=jj.2 Ω;have dD:=aX (m/10) Ω Ω Ω;rw[Int.natCast_ediv]at dD;have zy:oW (IntKind.u8.wrap (48+(m:Int)%10)).toNat=48+oW (m%10):=by have:=QK (m%10) Ω;rwa[Int.natCast_emod]at this
  have eX:aY (48+(m:Int)%10):=by unfold aY;omega
  have DP:(48:Int)- -((m:Int)%10)=48+(m:Int)%10:=Ω
  rw[xt Ω]at nA⊢;simp at nA;have fJ:(Lib.decDigits (m/10)).length+1+1<=aR:=by unfold aR;omega
  clear aI hm hw DW aX nA;refine bI jx J4 MB fun aG=>?_;unfold Fx;clear aG;simp;(with_reducible repeat' first|refine av ?_|refine aZ dD ?_|refine a1 dD ?_|simp[bz,bf,hB,DX,DY,aeN,DP,zy,eX,fJ]);simp[cn,HK,ba,bg,aT]
theorem vx(n:Int)(h:aY n):bW aF 57 [.int .i64 n] (.str (Lib.itoa n)):=by
 unfold aY at h;unfold Lib.itoa;by_cases bz:n<0
 ·rw[if_pos bz];have:=ajr n.natAbs Ω Ω;rwa[show-(n.natAbs:Int)=n by omega]at this
 ·rw[br bz];have:=ajs n.toNat Ω;rwa[show(n.toNat:Int)=n by omega]at this
theorem X9(l:List (List aj))(b:List aj)(aD:(fl b l).length<=aR):bW aF 59 [.slice 1 .no (b6 l),.str b] (.str (fl b l)):=by
 refine bI jx ab7 ahK fun aG=>?_;unfold P1;have ah:l.length<=aR/\b.length<=aR:=by simpa[gr,gz,gu]using aG
 clear aG;simp;(with_reducible repeat' first|refine av ?_|simp);refine fA (fun i (acc:List aj)=>⟨[(1,.str b),(5,.str acc),(8,.slice 1 .no (b6 l)),(9,.int .i64 l.length),(10,.int .i64 i)],[],[],0,[]⟩) l.length (fun i acc=>acc=fl b (l.take i)) [] (by simp;exact cW) (by simp[fl]) (fun acc ai _=>?_) (fun i acc aw ai _=>?_)
 ·rw[hE]at ai;subst ai;exact bY
 ·obtain⟨x,af⟩:∃x,l[i]? =some x:=⟨_,cL aw⟩;have db:∀h,((b6 l)[i]'h)= .str x:=fun h=>by rw[l8 aw];rw[cL aw]at af;rw[gB af]
  have bZ:aY ((i:Int)+1):=by unfold aY;unfold aR at ah;omega
  have hle:=LB b l (i+1);have eU:=TZ b l af;by_cases bz:i=0
  ·rw[if_pos bz]at eU;have iF:acc=[]:=by rw[ai,bz];simp[fl]
   have aS:¬0<i:=Ω
   have fJ:x.length<=aR:=by rw[eU]at hle;omega
   subst iF;simp[aw,db];(with_reducible repeat' first|refine av ?_|simp[aw,db,aS,fJ,bZ]);refine b1.rng x aw eU.symm cW
  ·rw[br bz,<-ai]at eU;have aS:0<i:=Ω
   rw[eU]at hle;simp only[gx]at hle;have fJ:acc.length+b.length<=aR:=Ω
   have fe:acc.length+b.length+x.length<=aR:=Ω
   have pw:acc.length+(b.length+x.length)<=aR:=Ω
   simp[aw,db];(with_reducible repeat' first|refine av ?_|simp[aw,db,aS,fJ,fe,pw,bZ]);refine b1.rng (acc++b++x) aw eU.symm (by simp only[lr];exact cW)
def P3:C:=(ag [bK 6 false] (ag [aa 7 0,aa 8 1,cj 9 .geq 7 8,aa 10 9,b4 10 true 11 0,b4 10 true 12 2,aO 10 true (cj 13 .leq 11 12),fx 14 10 13,aa 6 14] .ret))
@[simp] def Wf:List ca:=[.tmp 6]
def Ay:C:=(ag [fm 2 0,ng 4 1] (.seq (ag [a6 7 0 1 2,a8 8 1 7,a7 9 .eql 8 1] (bb 9 (ag [aa 10 1,a6 11 1 1 2,a8 12 1 11,eb 13 212 10 12,aa 4 13] .ret) .skip)) (.seq (ag [a6 14 3 1 2,a8 15 1 14,cT 16 15,bU 17 0] (k0 18 17 16 (.seq (.block 1 (ag [cP 19 4 15 17,bO 20 4 19,hv 6 dd,bF 4 6 20] (.region [bO 21 4 6,aa 22 1,eb 23 156 21 22,aa 1 23]))) (.region [a7 24 .add 17 1,aa 17 24])))) (ag [aa 25 1,aa 4 25] .ret))))
@[simp] def BT:List ca:=[.tmp 4]
def PZ:C:=(ag [bK 2 false] (.seq (ag [bU 3 0] (.block 0 (.loop (.seq (ag [aa 5 3,aa 6 0,bh 7 (.slen (.t 6)),cj 8 .lss 5 7] (bb 8 .skip (.exit 0))) (.seq (.block 1 (ag [aa 11 0,aa 12 3,bh 13 (.sidx (.t 11) (.t 12)),bh 14 (.bin .geq false (.t 13) (.c (.int .u8 97))),aa 15 14,b4 15 true 16 0,b4 15 true 17 3,aO 15 true (bh 18 (.sidx (.t 16) (.t 17))),aO 15 true (bh 19 (.bin .leq false (.t 18) (.c (.int .u8 122)))),fx 20 15 19,aa 4 20] (ag [aa 21 4,dK 22 21,aa 23 22,b4 23 true 24 3,aO 23 true (a7 25 .eql 24 0),b4 23 true 26 25,b4 26 false 27 0,b4 26 false 28 3,aO 26 false (bh 29 (.sidx (.t 27) (.t 28))),aO 26 false (bh 30 (.bin .neq false (.t 29) (.c (.int .u8 45)))),b4 26 false 31 30,b4 31 true 32 0,b4 31 true 33 3,aO 31 true (bh 34 (.sidx (.t 32) (.t 33))),aO 31 true (bh 35 (.conv .i64 (.t 34))),aO 31 true (lq 36 127 [.t 35,(de 48),(de 57)]),aO 31 true (dK 37 36),aO 26 false (fx 38 31 37),aO 23 true (dA 39 26 38),fx 40 23 39] (bb 40 (ag [bK 2 false] .ret) .skip)))) (.region [aa 9 3,a7 10 .add 9 1,aa 3 10])))))) (ag [aa 41 0,bh 42 (.slen (.t 41)),lq 43 127 [.t 42,(de 1),(de 12)],aa 2 43] .ret)))
@[simp] def BS:List ca:=[.tmp 2]
def P6:C:=(ag [ng 4 1] (ag [aa 7 0,cT 8 7,aa 5 8] (.seq (.block 0 (.loop (.seq (ag [aa 9 5,a7 10 .gtr 9 0,aa 11 10,b4 11 true 12 0,b4 11 true 13 5,aO 11 true (a7 14 .sub 13 1),aO 11 true (cP 15 1 12 14),aO 11 true (a8 16 1 15),b4 11 true 17 1,aO 11 true (cj 18 .geq 16 17),fx 19 11 18] (bb 19 .skip (.exit 0))) (.block 1 (.region [aa 20 5,a7 21 .sub 20 1,aa 5 21]))))) (.seq (ag [aa 22 5,aa 23 0,cT 24 23,cj 25 .lss 22 24,aa 26 25,b4 26 true 27 0,b4 26 true 28 5,aO 26 true (cP 29 1 27 28),aO 26 true (a8 30 1 29),b4 26 true 31 1,aO 26 true (cj 32 .eql 30 31),fx 33 26 32] (bb 33 (ag [aa 34 0,aa 4 34] .ret) .skip)) (ag [gU 35 1 3 [],aa 36 0,aa 37 5,bh 38 (.lsl 1 (.t 36) none (some (.t 37))),kZ 39 1 3 35 38,aa 6 39] (ag [aa 40 6,aa 41 1,gU 42 1 3 [.t 41],kZ 43 1 3 40 42,aa 6 43] (ag [aa 44 6,aa 45 0,aa 46 5,bh 47 (.lsl 1 (.t 45) (some (.t 46)) none),kZ 48 1 3 44 47,aa 4 48] .ret)))))))
@[simp] def zP:List ca:=[.tmp 4]
def mM:C:=(ag [fm 1 0,bK 2 false] (.seq (ag (a6 3 0 1 1::a8 4 1 3::a7 5 .neq 4 1::aa 6 5::aO 6 true (a6 7 0 1 1)::aO 6 true (a8 8 1 7)::aO 6 true (a7 9 .neq 8 3)::fx 10 6 9::aa 11 10::aO 11 true (a6 12 1 1 1)::aO 11 true (a8 13 1 12)::aO 11 true (a7 14 .neq 13 0)::fx 15 11 14::aa 16 15::aO 16 false (a6 17 0 1 1)::aO 16 false (a8 18 1 17)::aO 16 false (a7 19 .neq 18 2)::b4 16 false 20 19::aO 20 true (a6 21 2 1 1)::aO 20 true (a8 22 1 21)::mI 20 true 23 (.bin .neq false (.t 22) (.c (.str [])))::aO 16 false (fx 24 20 23)::dA 25 16 24::aa 26 25::aO 26 false (a6 27 0 1 1)::aO 26 false (a8 28 1 27)::aO 26 false (a7 29 .neq 28 4)::b4 26 false 30 29::aO 30 true (a6 31 3 1 1)::aO 30 true (a8 32 1 31)::aO 30 true (cT 33 32)::aO 30 true (a7 34 .gtr 33 0)::aO 26 false (fx 35 30 34)::dA 36 26 35::[]) (bb 36 (ag [bK 2 false] .ret) .skip)) (.seq (ag [a6 37 0 1 1,a8 38 1 37] (.block 0 (ag [a7 40 .eql 38 0,aa 39 40] (bb 39 (ag [bK 2 true] .ret) (ag [a7 42 .eql 38 1,aa 41 42] (bb 41 (ag [a6 43 1 1 1,a8 44 1 43,lq 45 127 [.t 44,(de 0),(de 100000)],aa 2 45] .ret) (ag [a7 47 .eql 38 2,aa 46 47] (bb 46 (ag [a6 48 2 1 1,a8 49 1 48,cl 50 188 49,aa 2 50] .ret) (ag [a7 52 .eql 38 3,aa 51 52] (bb 51 (ag [a6 53 1 1 1,a8 54 1 53,lq 55 127 [.t 54,(de (-1000000000)),(de 1000000000)],aa 2 55] .ret) (ag [a7 57 .eql 38 4,aa 56 57] (bb 56 (ag [a6 58 3 1 1,a8 59 1 58,cT 60 59,a7 61 .eql 60 2,aa 62 61,aO 62 true (a6 63 3 1 1),aO 62 true (a8 64 1 63),aO 62 true (ma 65 4 64 0),aO 62 true (bO 66 4 65),aO 62 true (cl 67 270 66),fx 68 62 67,aa 69 68,aO 69 true (a6 70 3 1 1),aO 69 true (a8 71 1 70),aO 69 true (ma 72 4 71 1),aO 69 true (bO 73 4 72),aO 69 true (cl 74 270 73),fx 75 69 74,aa 2 75] .ret) .skip)))))))))))) (ag [bK 2 false] .ret))))
@[simp] def mD:List ca:=[.tmp 2]
def P2:C:=(ag [fm 1 0,bK 2 false] (ag [bO 3 4 1,lq 4 283 [.t 3,(de 5000)],a7 5 .leq 4 5000,aa 6 5,aO 6 true (bO 7 4 1),aO 6 true (cl 8 270 7),fx 9 6 8,aa 2 9] .ret))
@[simp] def aiR:List ca:=[.tmp 2]
def P5:C:=(ag [fm 2 0,bU 4 0] (ag [bU 5 1] (.seq (ag [a6 8 3 1 2,a8 9 1 8,cT 10 9,bU 11 0] (k0 12 11 10 (.seq (.block 1 (ag [cP 13 4 9 11,bO 14 4 13,hv 7 dd,bF 4 7 14] (.seq (ag [aa 15 5,aa 16 1,cj 17 .gtr 15 16] (bb 17 (ag [aa 18 5,aa 4 18] .ret) .skip)) (.region [aa 19 5,bO 20 4 7,aa 21 1,aa 22 5,cj 23 .sub 21 22,eb 24 283 20 23,cj 25 .add 19 24,aa 5 25])))) (.region [a7 26 .add 11 1,aa 11 26])))) (ag [aa 27 5,aa 4 27] .ret))))
@[simp] def MT:List ca:=[.tmp 4]
def yy:List (Nat×dh):=[
 (3,⟨1,8,.int .i64,.int .i64 0⟩),
 (5,⟨1,1,.int .u8,.int .u8 0⟩),
 (9,⟨1,16,.str,.str []⟩),
 (38,⟨1,24,.slice 40,.slice 4 .nil []⟩),
 (40,⟨4,56,.struct [(0,3),(1,3),(2,9),(3,38)],.agg [.int .i64 0,.int .i64 0,.str [],.slice 4 .nil []]⟩),
 (136,⟨1,24,.slice 3,.slice 1 .nil []⟩)]
theorem jP:eW aF yy=true:=by kernel_rfl
theorem ahM:cJ yy P3 Wf 3 Tryz.f127=true:=by kernel_rfl
theorem ab9:aF.funcs[(127:Nat)]? =some Tryz.f127:=Tryz.func127
theorem Em:cJ yy Ay BT 2 Tryz.f156=true:=by kernel_rfl
theorem C1:aF.funcs[(156:Nat)]? =some Tryz.f156:=Tryz.func156
theorem ahI:cJ yy PZ BS 1 Tryz.f188=true:=by kernel_rfl
theorem ab5:aF.funcs[(188:Nat)]? =some Tryz.f188:=Tryz.func188
theorem ahP:cJ yy P6 zP 2 Tryz.f212=true:=by kernel_rfl
theorem acd:aF.funcs[(212:Nat)]? =some Tryz.f212:=Tryz.func212
theorem nJ:cJ yy mM mD 1 Tryz.f270=true:=by kernel_rfl
theorem nv:aF.funcs[(270:Nat)]? =some Tryz.f270:=Tryz.func270
theorem ahL:cJ yy P2 aiR 1 Tryz.f271=true:=by kernel_rfl
theorem ab8:aF.funcs[(271:Nat)]? =some Tryz.f271:=Tryz.func271
theorem ahO:cJ yy P5 MT 2 Tryz.f283=true:=by kernel_rfl
theorem acb:aF.funcs[(283:Nat)]? =some Tryz.f283:=Tryz.func283
mutual
def mN:Tm->Int->Int
 | .mk _ _ _ args,m=>cntLS args 1 m
def cntLS:List Tm->Int->Int->Int
 |[],n,_=>n
 |x::xs,n,m=>if m<n then n else cntLS xs (n+mN x (m-n)) m
end
mutual
theorem JC:∀(t:Tm) (m:Int),0<=m->1<=mN t m/\mN t m<=m+1
 | .mk _ _ _ args,m,h=>by simp only[mN];exact Qy args 1 m h Ω Ω
theorem Qy:∀(l:List Tm) (n m:Int),0<=m->1<=n->n<=m+1->1<=cntLS l n m/\cntLS l n m<=m+1
 |[],n,m,_,I,J=>by simp only[cntLS];exact⟨I,J⟩
 |x::xs,n,m,bz,I,J=>by
  simp only[cntLS];split
  ·exact⟨I,J⟩
  ·have:=JC x (m-n) Ω;exact Qy xs _ m bz Ω Ω
end
theorem JB:∀(t:T) (m:Int),0<=m->(mN t.tm m<=m↔(t.size:Int)<=m)/\((t.size:Int)<=m->mN t.tm m=t.size)
 | .pair a b,m,h=>by
  have bL:=T.size_pos a;have ah:=T.size_pos b;simp only[T.tm,mN,cntLS,T.size];by_cases I:m<1
  ·rw[if_pos I];exact⟨Ω,fun h=>Ω⟩
  ·rw[br I];obtain⟨bH,a2⟩:=JB a (m-1) Ω;have a3:=JC a.tm (m-1) Ω;by_cases J:(a.size:Int)<=m-1
   ·have e:=a2 J;rw[e];by_cases au:m<1+(a.size:Int)
    ·omega
    ·rw[br au];obtain⟨cq,cE⟩:=JB b (m-(1+a.size)) Ω;refine⟨Ω,fun h=>?_⟩;rw[cE Ω];omega
   ·have:¬mN a.tm (m-1)<=m-1:=fun h=>J (bH.1 h);rw[if_pos Ω];exact⟨Ω,fun h=>Ω⟩
 | .nil,m,h=>by simp[T.tm,mN,cntLS,T.size]
 | .var _,m,h=>by simp[T.tm,mN,cntLS,T.size]
 | .sym _,m,h=>by simp[T.tm,mN,cntLS,T.size]
 | .num _,m,h=>by simp[T.tm,mN,cntLS,T.size]
theorem ZY(t:Tm)(m:Int):mN t m=cntLS t.args 1 m:=by cases t;rfl
theorem akI(t:Tm):∀m:Int,0<=m->m<=1000000->bW aF 283 [enc t,.int .i64 m] (.int .i64 (mN t m)):=by
 suffices H:∀(k:Nat) (t:Tm),t.sz<=k->∀m:Int,0<=m->m<=1000000->bW aF 283 [enc t,.int .i64 m] (.int .i64 (mN t m))from H _ t (cc _)
 intro k;induction k with
 |zero=>intro t aE;cases t;simp[Tm.sz]at aE
 |succ k aX=>
  intro t aE m bz I;refine bI jP acb ahO fun aG=>?_;unfold P5;have e5:t.args.length<=68719476736:=by rw[AN]at aG;simp[gr,gz,gu,aR]at aG;omega
  simp;refine sZ [1,9,10] (fun i (n:Int)=>[(5,.int .i64 n),(11,.int .i64 i)]) t.args.length (fun i n=>(1<=n/\n<=m+1)/\cntLS (t.args.drop i) n m=mN t m) 1 cW ⟨Ω,by simp[ZY]⟩ (fun n ai _=>?_) (fun i n aw ai _=>?_)
  ·simp;(with_reducible repeat' first|refine av ?_|simp);simp[cn,MT,ba,bg,aT];have:=ai.2;simp[cntLS]at this;exact this
  ·obtain⟨⟨mT,qa⟩,ai⟩:=ai;obtain⟨x,af,db⟩:=fQ aw;have aI:t.args.drop i=x::t.args.drop (i+1):=by rw[pR aw,db]
   have dz:x.sz<=k:=by have:=NO (e1 af);omega
   rw[aI]at ai;simp only[cntLS]at ai;simp[aw,db];by_cases ah:m<n
   ·rw[if_pos ah]at ai;(with_reducible repeat' first|refine av ?_|simp[ah]);simp[cn,MT,ba,bg,aT];exact ai
   ·rw[br ah]at ai;have aH:=JC x (m-n) Ω;((with_reducible repeat' first|refine av ?_|refine aZ (aX x dz (m-n) Ω Ω) ?_|refine a1 (aX x dz (m-n) Ω Ω) ?_|simp[ah]|((first|apply dt|apply dx|apply dw)<;>intro h<;>try simp at h))<;>(try exact dQ));exact b1.rng (n+mN x (m-n)) aw ⟨Ω,ai⟩ cW
theorem e0(n lo aw:Int):bW aF 127 [.int .i64 n,.int .i64 lo,.int .i64 aw] (.bool (decide (lo<=n/\n<=aw))):=by
 refine bI jP ab9 ahM fun aG=>?_;unfold P3;simp;((with_reducible repeat' first|refine av ?_|simp|((first|apply dt|apply dx|apply dw)<;>intro h<;>try simp at h))<;>(try exact dQ));all_goals simp[cn,Wf,ba,bg,aT]
 all_goals first|omega|(simp;done)|(simp;omega)
def shp:Tm->Bool
 | .mk k n s [a,b]=>k==4&&n==0&&s==[]&&shp a&&shp b
 | .mk k n s []=>l1 k n s
 |_=>false
theorem B6:∀x:T,shp x.tm=x.ok
 | .nil=>by simp[T.tm,shp,l1,T.ok]
 | .var _=>by simp[T.tm,shp,l1,T.ok]
 | .sym _=>by simp[T.tm,shp,l1,T.ok]
 | .num _=>by simp[T.tm,shp,l1,T.ok]
 | .pair a b=>by simp[T.tm,shp,T.ok,B6 a,B6 b]
theorem ajG:∀(m:Nat) (t:Tm),t.sz<=m->shp t=true->∃x:T,x.tm=t:=by
 intro m;induction m with
 |zero=>intro t aE;cases t;simp[Tm.sz]at aE
 |succ m aX=>
  rintro⟨k,n,s,args⟩ aE h;match args with
  |[a,b]=>
   simp[Tm.sz,Tm.szL]at aE;simp only[shp,bJ,eA]at h;obtain⟨⟨⟨⟨rfl,rfl⟩,au⟩,I⟩,J⟩:=h;obtain⟨x,rfl⟩:=aX a Ω I;obtain⟨y,rfl⟩:=aX b Ω J;have:s=[]:=by simpa using au
   subst this;exact⟨.pair x y,rfl⟩
  |[]=>
   simp only[shp,l1]at h;split at h
   ·subst_vars;simp at h;exact⟨.nil,by simp[T.tm,h]⟩
   split at h
   ·subst_vars;simp at h;exact⟨.var n,by simp[T.tm,h]⟩
   split at h
   ·subst_vars;simp at h;exact⟨.sym s,by simp[T.tm,h]⟩
   split at h
   ·subst_vars;simp at h;exact⟨.num n,by simp[T.tm,h]⟩
   ·simp at h
  |[_]=>simp[shp]at h
  |_::_::_::_=>simp[shp]at h
theorem acr(t:Tm):t.fits=(decide (mN t 5000<=5000)&&shp t):=by
 by_cases h:shp t=true
 ·obtain⟨x,rfl⟩:=ajG _ t (cc _) h;have:=(JB x 5000 Ω).1;rw[Tm.fits_T,T.fit,h];rw[B6]at h;simp[h,this];omega
 ·have bz:t.fits=false:=by
   cases aK:t.fits with
   |false=>rfl
   |true=>obtain⟨x,rfl,af⟩:=Tm.fits_ex aK;rw[B6]at h;simp[T.fit]at af;exact absurd af.1 h
  simp at h;rw[bz,h];simp
def Ly(s:List aj)(i:Nat):Prop:=i<=s.length/\∀k,k<i->mw (s.getD k 0)=true/\(k=0->low (s.getD k 0)=true)
theorem afC{s:List aj}(h:Ly s s.length):gb s=decide (1<=s.length/\s.length<=12):=by
 unfold gb;by_cases aD:1<=s.length
 ·have I:=(h.2 0 Ω).2 rfl;have J:(s.drop 1).all mw=true:=by rw[ji];intro b ah;obtain⟨i,aw,e⟩:=List.getElem_of_mem ah;simp at aw e;have:=(h.2 (i+1) Ω).1;rw[List.getD_eq_getElem?_getD,cL Ω]at this;simp only[qD]at this;rw[<-e];exact this
  rw[I,J];simp
 ·have:decide (1<=s.length/\s.length<=12)=false:=by simp;omega
  rw[this];simp
theorem afB{s:List aj}{i:Nat}(aw:i<s.length)(h:mw (s.getD i 0)=false\/(i=0/\low (s.getD i 0)=false)):gb s=false:=by
 cases e:gb s with
 |false=>rfl
 |true=>
  exfalso;simp only[gb,bJ,ji]at e;obtain⟨⟨_,ao⟩,aL⟩:=e;rcases h with h|⟨rfl,h⟩
  ·by_cases bz:i=0
   ·subst bz;rw[mw,ao]at h;simp at h
   ·have:=aL (s.getD i 0) (by rw[List.getD_eq_getElem?_getD,cL aw];simp only[qD];refine List.mem_iff_getElem.2 ⟨i-1,by simp;omega,?_⟩;simp[show i-1+1=i from by omega])
    rw[this]at h;cases h
  ·rw[ao]at h;cases h
theorem hQ(s:List aj):bW aF 188 [.str s] (.bool (gb s)):=by
 generalize bt:gb s=R;refine bI jP ab5 ahI fun aG=>?_;unfold PZ;have e5:s.length<=68719476736:=by simp[gr,gz,gu,aR]at aG;omega
 simp;refine Q1 [0] (fun(i:Nat)=>[(3,.int .i64 i)]) (fun i=>s.length-i) (Ly s) 0 cW ⟨Ω,fun k ab=>Ω⟩ (fun i ai _=>?_);have lV:=ai.1;by_cases aw:i<s.length
 ·have hJ:=afB aw;rw[bt]at hJ;obtain⟨c,aH,fT⟩:=fQ aw;have Ko:s.getD i 0=c:=by simp[List.getD_eq_getElem?_getD,aH]
  rw[Ko]at hJ;have e7:mw c=true->(i=0->low c=true)->Ly s (i+1):=fun I J=>⟨Ω,fun k ab=>by
   rcases(by omega:k<i\/k=i)with h|rfl
   ·exact ai.2 k h
   ·rw[Ko];exact⟨I,J⟩⟩
  have hw:lL.wrap (c.toNat:Int)=c.toNat:=ou _ (by have:=c.toNat_lt;omega);simp[aw,fT,aH];by_cases b0:(97:Int)<=c.toNat
  ·by_cases cS:(c.toNat:Int)<=122
   ·have aD:low c=true:=by simp[low];omega
    (with_reducible repeat' first|refine av ?_|refine aZ (e0 _ _ _) ?_|refine a1 (e0 _ _ _) ?_|simp[aw,fT,aH,b0,cS]);exact b1.whl (i+1) Ω (e7 (by simp[mw,aD]) (fun _=>aD)) cW
   ·have aD:low c=false:=by simp[low];omega
    by_cases bz:i=0
    ·rw[hJ (.inr ⟨bz,aD⟩)];have s9:((i:Int)==0)=true:=by simp[bz]
     (with_reducible repeat' first|refine av ?_|refine aZ (e0 _ _ _) ?_|refine a1 (e0 _ _ _) ?_|simp[aw,fT,aH,b0,cS,s9,hw]);simp[cn,BS,ba,bg,aT]
    ·have s9:((i:Int)==0)=false:=by simp[bz]
     by_cases dT:(c.toNat:Int)=45
     ·have wT:((c.toNat:Int) !=45)=false:=by simp[dT]
      (with_reducible repeat' first|refine av ?_|refine aZ (e0 _ _ _) ?_|refine a1 (e0 _ _ _) ?_|simp[aw,fT,aH,b0,cS,s9,hw,dT,wT]);all_goals exact b1.whl (i+1) Ω (e7 (by simp[mw];omega) (fun h=>absurd h bz)) cW
     ·have wT:((c.toNat:Int) !=45)=true:=by simp[dT]
      by_cases dY:(48:Int)<=c.toNat/\(c.toNat:Int)<=57
      ·(with_reducible repeat' first|refine av ?_|refine aZ (e0 _ _ _) ?_|refine a1 (e0 _ _ _) ?_|simp[aw,fT,aH,b0,cS,s9,hw,dT,wT,dY]);all_goals exact b1.whl (i+1) Ω (e7 (by simp[mw];omega) (fun h=>absurd h bz)) cW
      ·rw[hJ (.inl (by simp[mw,aD];omega))];(with_reducible repeat' first|refine av ?_|refine aZ (e0 _ _ _) ?_|refine a1 (e0 _ _ _) ?_|simp[aw,fT,aH,b0,cS,s9,hw,dT,wT,dY]);simp[cn,BS,ba,bg,aT]
  ·have aD:low c=false:=by simp[low];omega
   by_cases bz:i=0
   ·rw[hJ (.inr ⟨bz,aD⟩)];have s9:((i:Int)==0)=true:=by simp[bz]
    (with_reducible repeat' first|refine av ?_|refine aZ (e0 _ _ _) ?_|refine a1 (e0 _ _ _) ?_|simp[aw,fT,aH,b0,s9,hw]);simp[cn,BS,ba,bg,aT]
   ·have s9:((i:Int)==0)=false:=by simp[bz]
    by_cases dT:(c.toNat:Int)=45
    ·have wT:((c.toNat:Int) !=45)=false:=by simp[dT]
     (with_reducible repeat' first|refine av ?_|refine aZ (e0 _ _ _) ?_|refine a1 (e0 _ _ _) ?_|simp[aw,fT,aH,b0,s9,hw,dT,wT]);all_goals exact b1.whl (i+1) Ω (e7 (by simp[mw];omega) (fun h=>absurd h bz)) cW
    ·have wT:((c.toNat:Int) !=45)=true:=by simp[dT]
     by_cases dY:(48:Int)<=c.toNat/\(c.toNat:Int)<=57
     ·(with_reducible repeat' first|refine av ?_|refine aZ (e0 _ _ _) ?_|refine a1 (e0 _ _ _) ?_|simp[aw,fT,aH,b0,s9,hw,dT,wT,dY]);all_goals exact b1.whl (i+1) Ω (e7 (by simp[mw];omega) (fun h=>absurd h bz)) cW
     ·rw[hJ (.inl (by simp[mw,aD];omega))];(with_reducible repeat' first|refine av ?_|refine aZ (e0 _ _ _) ?_|refine a1 (e0 _ _ _) ?_|simp[aw,fT,aH,b0,s9,hw,dT,wT,dY]);simp[cn,BS,ba,bg,aT]
 ·have:i=s.length:=Ω
  subst this;rw[afC ai]at bt;simp[aw];(with_reducible repeat' first|refine av ?_|refine aZ (e0 _ _ _) ?_|refine a1 (e0 _ _ _) ?_|simp[aw]);simp[cn,BS,ba,bg,aT];rw[<-bt,Bool.eq_iff_iff];simp;omega
def Jm:C:=(ag [ng 2 1,bK 3 false] (.seq (ag [aa 8 0,bh 9 (.slen (.t 8)),a7 10 .gtr 9 100000] (bb 10 (ag [ng 2 1,bK 3 false] .ret) .skip)) (ag [gU 11 1 9 [],aa 4 11] (ag [bU 5 0] (.seq (.block 0 (.loop (.seq (ag [aa 12 5,aa 13 0,bh 14 (.slen (.t 13)),cj 15 .lss 12 14] (bb 15 .skip (.exit 0))) (.block 1 (ag [aa 16 5,a7 17 .add 16 1,aa 6 17] (.seq (ag [aa 18 0,aa 19 5,bh 20 (.sidx (.t 18) (.t 19)),bh 21 (.bin .eql false (.t 20) (.c (.int .u8 59)))] (bb 21 (.block 2 (.loop (.seq (ag [aa 22 6,aa 23 0,bh 24 (.slen (.t 23)),cj 25 .lss 22 24,aa 26 25,b4 26 true 27 0,b4 26 true 28 6,aO 26 true (bh 29 (.sidx (.t 27) (.t 28))),aO 26 true (bh 30 (.bin .neq false (.t 29) (.c (.int .u8 10)))),fx 31 26 30] (bb 31 .skip (.exit 2))) (.block 3 (.region [aa 32 6,a7 33 .add 32 1,aa 6 33]))))) (ag [aa 34 0,aa 35 5,bh 36 (.sidx (.t 34) (.t 35)),cl 37 172 36,dK 38 37] (bb 38 (.seq (.block 4 (.loop (.seq (ag [aa 39 6,aa 40 0,bh 41 (.slen (.t 40)),cj 42 .lss 39 41,aa 43 42,b4 43 true 44 0,b4 43 true 45 6,aO 43 true (bh 46 (.sidx (.t 44) (.t 45))),aO 43 true (cl 47 172 46),aO 43 true (dK 48 47),fx 49 43 48] (bb 49 .skip (.exit 4))) (.block 5 (.region [aa 50 6,a7 51 .add 50 1,aa 6 51]))))) (.region [aa 52 4,aa 53 0,aa 54 5,aa 55 6,bh 56 (.ssl (.t 53) (some (.t 54)) (some (.t 55))),gU 57 1 9 [.t 56],kZ 58 1 9 52 57,aa 4 58])) (ag [aa 59 0,aa 60 5,bh 61 (.sidx (.t 59) (.t 60)),bh 62 (.bin .eql false (.t 61) (.c (.int .u8 40))),aa 63 62,b4 63 false 64 0,b4 63 false 65 5,aO 63 false (bh 66 (.sidx (.t 64) (.t 65))),aO 63 false (bh 67 (.bin .eql false (.t 66) (.c (.int .u8 41)))),dA 68 63 67] (bb 68 (.region [aa 69 4,aa 70 0,aa 71 5,aa 72 6,bh 73 (.ssl (.t 70) (some (.t 71)) (some (.t 72))),gU 74 1 9 [.t 73],kZ 75 1 9 69 74,aa 4 75]) .skip)))))) (.region [aa 76 6,aa 5 76]))))))) (.seq (ag [bU 7 0] (.block 6 (.loop (.seq (ag [aa 77 7,aa 78 0,bh 79 (.slen (.t 78)),cj 80 .lss 77 79] (bb 80 .skip (.exit 6))) (.seq (.block 7 (ag [aa 83 0,aa 84 7,bh 85 (.sidx (.t 83) (.t 84)),bh 86 (.bin .neq false (.t 85) (.c (.int .u8 10))),aa 87 86,b4 87 true 88 0,b4 87 true 89 7,aO 87 true (bh 90 (.sidx (.t 88) (.t 89))),aO 87 true (bh 91 (.conv .i64 (.t 90))),aO 87 true (lq 92 127 [.t 91,(de 32),(de 126)]),aO 87 true (dK 93 92),fx 94 87 93] (bb 94 (ag [ng 2 1,bK 3 false] .ret) .skip))) (.region [aa 81 7,a7 82 .add 81 1,aa 7 82])))))) (.seq (ag [aa 95 4,cT 96 95,a7 97 .gtr 96 20000] (bb 97 (ag [ng 2 1,bK 3 false] .ret) .skip)) (ag [aa 98 4,aa 2 98,bK 3 true] .ret))))))))
@[simp] def HM:List ca:=[.tmp 2,.tmp 3]
def xq:C:=(ag [c7 (.alloc 4 none (.agg [.int .i64 0,.str [],.slice 4 .nil [],.slice 4 .nil []])),bU 5 0,bK 6 false] (.seq (ag [aa 16 1,aa 17 0,cT 18 17,cj 19 .lss 16 18,aa 20 19,b4 20 true 21 0,b4 20 true 22 1,aO 20 true (cP 23 1 21 22),aO 20 true (a8 24 1 23),mI 20 true 25 (.bin .eql false (.t 24) (.c (.str [116,114,117,101]))),fx 26 20 25] (bb 26 (ag [bh 27 (.build [.int .i64 0,.str [],.slice 4 .nil [],.slice 4 .nil []] []),aa 28 1,a7 29 .add 28 1,bF 4 4 27,aa 5 29,bK 6 true] .ret) .skip)) (.seq (ag [aa 30 1,aa 31 0,cT 32 31,cj 33 .lss 30 32,aa 34 33,b4 34 true 35 0,b4 34 true 36 1,aO 34 true (cP 37 1 35 36),aO 34 true (a8 38 1 37),mI 34 true 39 (.bin .eql false (.t 38) (.c (.str [102,97,105,108]))),fx 40 34 39] (bb 40 (ag [bh 41 (.build [.int .i64 0,.str [],.slice 4 .nil [],.slice 4 .nil []] [(0,1,(de 1))]),aa 42 1,a7 43 .add 42 1,bF 4 4 41,aa 5 43,bK 6 true] .ret) .skip)) (.seq (ag [aa 44 1,a7 45 .add 44 1,aa 46 0,cT 47 46,cj 48 .geq 45 47,aa 49 48,b4 49 false 50 0,b4 49 false 51 1,aO 49 false (cP 52 1 50 51),aO 49 false (a8 53 1 52),mI 49 false 54 (.bin .neq false (.t 53) (.c (.str [40]))),dA 55 49 54] (bb 55 (ag [bh 56 (.build [.int .i64 0,.str [],.slice 4 .nil [],.slice 4 .nil []] []),bF 4 4 56,bU 5 0,bK 6 false] .ret) .skip)) (ag [aa 57 0,aa 58 1,a7 59 .add 58 1,cP 60 1 57 59,a8 61 1 60,bh 62 (.build [.int .i64 0,.str [],.slice 4 .nil [],.slice 4 .nil []] [(0,1,(de 9)),(1,1,(.t 61))]),c7 (.alloc 7 none (.agg [.int .i64 0,.str [],.slice 4 .nil [],.slice 4 .nil []])),bF 4 7 62] (.seq (ag [lq 63 131 [],cT 64 63,bU 65 0] (k0 66 65 64 (.seq (.block 1 (ag [aa 67 65,cP 68 1 63 65,a8 69 1 68,aa 8 67,aa 9 69] (ag [aa 70 9,aa 71 0,aa 72 1,a7 73 .add 72 1,cP 74 1 71 73,a8 75 1 74,cj 76 .eql 70 75] (bb 76 (.region [aa 77 8,bh 78 (.build [.int .i64 0,.str [],.slice 4 .nil [],.slice 4 .nil []] [(0,1,(.t 77))]),bF 4 7 78]) .skip)))) (.region [a7 79 .add 65 1,aa 65 79])))) (ag [aa 80 1,a7 81 .add 80 2,aa 1 81] (.seq (.block 2 (.loop (.seq (ag [aa 82 1,aa 83 0,cT 84 83,cj 85 .lss 82 84,aa 86 85,b4 86 true 87 0,b4 86 true 88 1,aO 86 true (cP 89 1 87 88),aO 86 true (a8 90 1 89),mI 86 true 91 (.bin .neq false (.t 90) (.c (.str [41]))),fx 92 86 91] (bb 92 .skip (.exit 2))) (.block 3 (ag [a6 93 0 1 7,a8 94 1 93,a7 95 .eql 94 7,aa 96 95,aO 96 false (a6 97 0 1 7),aO 96 false (a8 98 1 97),aO 96 false (a7 99 .eql 98 8),dA 100 96 99,aa 101 100,aO 101 false (a6 102 0 1 7),aO 101 false (a8 103 1 102),aO 101 false (a7 104 .eql 103 10),dA 105 101 104] (bb 105 (ag [aa 107 0,aa 108 1,eb 109 154 107 108,aa 106 109,dZ 110 0 106,dZ 111 1 106,dZ 112 2 106,c7 (.alloc 10 none (.agg [.int .i64 0,.str [],.slice 4 .nil [],.slice 4 .nil []])),bF 4 10 110,aa 11 111,aa 12 112] (.seq (ag [aa 113 12,dK 114 113] (bb 114 (ag [bh 115 (.build [.int .i64 0,.str [],.slice 4 .nil [],.slice 4 .nil []] []),bF 4 4 115,bU 5 0,bK 6 false] .ret) .skip)) (ag [a6 116 3 1 7,a8 117 1 116,bO 118 4 10,gU 119 4 65 [.t 118],kZ 120 4 65 117 119,a6 121 3 1 7,bF 1 121 120] (.region [aa 122 11,aa 1 122])))) (ag [aa 124 0,aa 125 1,eb 126 209 124 125,aa 123 126,dZ 127 0 123,dZ 128 1 123,dZ 129 2 123,hv 13 dd,bF 4 13 127,aa 14 128,aa 15 129] (.seq (ag [aa 130 15,dK 131 130] (bb 131 (ag [bh 132 (.build [.int .i64 0,.str [],.slice 4 .nil [],.slice 4 .nil []] []),bF 4 4 132,bU 5 0,bK 6 false] .ret) .skip)) (ag [a6 133 2 1 7,a8 134 1 133,bO 135 4 13,gU 136 4 40 [.t 135],kZ 137 4 40 134 136,a6 138 2 1 7,bF 1 138 137] (.region [aa 139 14,aa 1 139])))))))))) (.seq (.fz true 7 (.drawn true 152 [bh 140 (.loadZ true 4 (.t 7)),aa 141 1,a7 142 .add 141 1,aa 143 1,aa 144 0,cT 145 144,cj 146 .lss 143 145,aa 147 146,aO 147 true (a6 148 0 1 7),aO 147 true (bh 149 (.loadZ false 1 (.t 148))),aO 147 true (a7 150 .gtr 149 1),fx 151 147 150,bF 4 4 140,aa 5 142,aa 6 151])) .ret)))))))))
@[simp] def l5:List ca:=[.cell 4 true 4,.tmp 5,.tmp 6]
def yZ:C:=(ag [bK 2 false] (ag [aa 3 0,bh 4 (.bin .eql false (.t 3) (.c (.int .u8 32))),aa 5 4,b4 5 false 6 0,aO 5 false (bh 7 (.bin .eql false (.t 6) (.c (.int .u8 10)))),dA 8 5 7,aa 9 8,b4 9 false 10 0,aO 9 false (bh 11 (.bin .eql false (.t 10) (.c (.int .u8 40)))),dA 12 9 11,aa 13 12,b4 13 false 14 0,aO 13 false (bh 15 (.bin .eql false (.t 14) (.c (.int .u8 41)))),dA 16 13 15,aa 17 16,b4 17 false 18 0,aO 17 false (bh 19 (.bin .eql false (.t 18) (.c (.int .u8 59)))),dA 20 17 19,aa 2 20] .ret))
@[simp] def aiS:List ca:=[.tmp 2]
def y0:C:=(ag [hv 4 dd,bU 5 0,bK 6 false] (.seq (ag [aa 17 1,aa 18 0,cT 19 18,cj 20 .geq 17 19,aa 21 20,b4 21 false 22 0,b4 21 false 23 1,aO 21 false (cP 24 1 22 23),aO 21 false (a8 25 1 24),mI 21 false 26 (.bin .eql false (.t 25) (.c (.str [41]))),dA 27 21 26,aa 28 27,b4 28 false 29 0,b4 28 false 30 1,aO 28 false (cP 31 1 29 30),aO 28 false (a8 32 1 31),mI 28 false 33 (.bin .eql false (.t 32) (.c (.str [46]))),dA 34 28 33] (bb 34 (ag [lJ 35 dd [],bF 4 4 35,bU 5 0,bK 6 false] .ret) .skip)) (.seq (ag [aa 36 0,aa 37 1,cP 38 1 36 37,a8 39 1 38,bh 40 (.bin .neq false (.t 39) (.c (.str [40])))] (bb 40 (ag [aa 42 0,aa 43 1,cP 44 1 42 43,a8 45 1 44,cl 46 251 45,aa 41 46,dZ 47 0 41,dZ 48 1 41,hv 7 dd,bF 4 7 47,aa 8 48] (ag [bO 49 4 7,aa 50 1,a7 51 .add 50 1,aa 52 8,bF 4 4 49,aa 5 51,aa 6 52] .ret)) .skip)) (ag [gU 53 4 40 [],aa 9 53] (ag [aa 54 1,a7 55 .add 54 1,aa 1 55] (.seq (.block 0 (.loop (.seq (ag [aa 56 1,aa 57 0,cT 58 57,cj 59 .lss 56 58,aa 60 59,b4 60 true 61 0,b4 60 true 62 1,aO 60 true (cP 63 1 61 62),aO 60 true (a8 64 1 63),mI 60 true 65 (.bin .neq false (.t 64) (.c (.str [41]))),fx 66 60 65,aa 67 66,b4 67 true 68 0,b4 67 true 69 1,aO 67 true (cP 70 1 68 69),aO 67 true (a8 71 1 70),mI 67 true 72 (.bin .neq false (.t 71) (.c (.str [46]))),fx 73 67 72] (bb 73 .skip (.exit 0))) (.block 1 (ag [aa 75 0,aa 76 1,eb 77 209 75 76,aa 74 77,dZ 78 0 74,dZ 79 1 74,dZ 80 2 74,hv 10 dd,bF 4 10 78,aa 11 79,aa 12 80] (.seq (ag [aa 81 12,dK 82 81] (bb 82 (ag [lJ 83 dd [],bF 4 4 83,bU 5 0,bK 6 false] .ret) .skip)) (ag [aa 84 9,bO 85 4 10,gU 86 4 40 [.t 85],kZ 87 4 40 84 86,aa 9 87] (.region [aa 88 11,aa 1 88])))))))) (ag [lJ 89 dd [],hv 13 dd,bF 4 13 89] (.seq (ag [aa 90 1,aa 91 0,cT 92 91,cj 93 .lss 90 92,aa 94 93,b4 94 true 95 0,b4 94 true 96 1,aO 94 true (cP 97 1 95 96),aO 94 true (a8 98 1 97),mI 94 true 99 (.bin .eql false (.t 98) (.c (.str [46]))),fx 100 94 99] (bb 100 (ag [aa 102 0,aa 103 1,a7 104 .add 103 1,eb 105 209 102 104,aa 101 105,dZ 106 0 101,dZ 107 1 101,dZ 108 2 101,hv 14 dd,bF 4 14 106,aa 15 107,aa 16 108] (.seq (ag [aa 109 16,dK 110 109,aa 111 110,b4 111 false 112 9,aO 111 false (cT 113 112),aO 111 false (a7 114 .eql 113 0),dA 115 111 114] (bb 115 (ag [lJ 116 dd [],bF 4 4 116,bU 5 0,bK 6 false] .ret) .skip)) (ag [bO 117 4 14,bF 4 13 117] (.region [aa 118 15,aa 1 118])))) .skip)) (.seq (ag [aa 119 1,aa 120 0,cT 121 120,cj 122 .geq 119 121,aa 123 122,b4 123 false 124 0,b4 123 false 125 1,aO 123 false (cP 126 1 124 125),aO 123 false (a8 127 1 126),mI 123 false 128 (.bin .neq false (.t 127) (.c (.str [41]))),dA 129 123 128] (bb 129 (ag [lJ 130 dd [],bF 4 4 130,bU 5 0,bK 6 false] .ret) .skip)) (ag [aa 131 9,bO 132 4 13,eb 133 252 131 132,aa 134 1,a7 135 .add 134 1,bF 4 4 133,aa 5 135,bK 6 true] .ret))))))))))
@[simp] def ym:List ca:=[.cell 4 true 4,.tmp 5,.tmp 6]
def yY:C:=(ag [bU 2 0,bK 3 false] (ag [aa 9 0,bh 10 (.slen (.t 9)),a7 11 .gtr 10 0,aa 12 11,b4 12 true 13 0,aO 12 true (bh 14 (.sidx (.t 13) (de 0))),aO 12 true (bh 15 (.bin .eql false (.t 14) (.c (.int .u8 45)))),fx 16 12 15,aa 4 16] (ag [aa 17 0,aa 5 17] (.seq (ag [aa 18 4] (bb 18 (.region [aa 19 0,bh 20 (.ssl (.t 19) (some (de 1)) none),aa 5 20]) .skip)) (.seq (ag [aa 21 5,bh 22 (.slen (.t 21)),a7 23 .lss 22 1,aa 24 23,b4 24 false 25 5,aO 24 false (bh 26 (.slen (.t 25))),aO 24 false (a7 27 .gtr 26 19),dA 28 24 27] (bb 28 (ag [bU 2 0,bK 3 false] .ret) .skip)) (ag [bU 6 0] (.seq (ag [bU 7 0] (.block 0 (.loop (.seq (ag [aa 29 7,aa 30 5,bh 31 (.slen (.t 30)),cj 32 .lss 29 31] (bb 32 .skip (.exit 0))) (.seq (.block 1 (ag [aa 35 5,aa 36 7,bh 37 (.sidx (.t 35) (.t 36)),bh 38 (.conv .i64 (.t 37)),a7 39 .sub 38 48,aa 8 39] (.seq (ag [aa 40 8,lq 41 127 [.t 40,(de 0),(de 9)],dK 42 41,aa 43 42,b4 43 false 44 6,b4 43 false 45 8,aO 43 false (bh 46 (.bin .add false (de (-9223372036854775808)) (.t 45))),aO 43 false (a7 47 .quo 46 10),aO 43 false (cj 48 .lss 44 47),dA 49 43 48] (bb 49 (ag [bU 2 0,bK 3 false] .ret) .skip)) (.region [aa 50 6,a7 51 .mul 50 10,aa 52 8,cj 53 .sub 51 52,aa 6 53])))) (.region [aa 33 7,a7 34 .add 33 1,aa 7 34])))))) (.seq (ag [aa 54 4,dK 55 54] (bb 55 (.seq (ag [aa 56 6,a7 57 .eql 56 (-9223372036854775808)] (bb 57 (ag [bU 2 0,bK 3 false] .ret) .skip)) (.region [aa 58 6,bh 59 (.neg (.t 58)),aa 6 59])) .skip)) (.seq (ag [aa 60 6,cl 61 57 60,aa 62 0,cj 63 .neq 61 62] (bb 63 (ag [bU 2 0,bK 3 false] .ret) .skip)) (ag [aa 64 6,aa 2 64,bK 3 true] .ret))))))))))
@[simp] def HL:List ca:=[.tmp 2,.tmp 3]
def xp:C:=(ag [hv 2 dd,bK 3 false] (.seq (ag [aa 7 0,cl 8 188 7] (bb 8 (ag [aa 9 0,cl 10 195 9,bF 4 2 10,bK 3 true] .ret) .skip)) (ag [lJ 11 dd [(0,1,(de 3))],hv 4 dd,bF 4 4 11] (.seq (ag [aa 12 0,bh 13 (.slen (.t 12)),a7 14 .gtr 13 0,aa 15 14,b4 15 true 16 0,aO 15 true (bh 17 (.sidx (.t 16) (de 0))),aO 15 true (bh 18 (.bin .eql false (.t 17) (.c (.int .u8 63)))),fx 19 15 18] (bb 19 (ag [a6 20 0 1 4,c7 (.store 1 (.t 20) (de 1))] (.region [aa 21 0,bh 22 (.ssl (.t 21) (some (de 1)) none),aa 0 22])) .skip)) (ag [aa 24 0,cl 25 221 24,aa 23 25,dZ 26 0 23,dZ 27 1 23,aa 5 26,aa 6 27] (ag [aa 28 5,a6 29 1 1 4,bF 1 29 28] (.seq (ag [aa 30 6,dK 31 30,aa 32 31,aO 32 false (bO 33 4 4),aO 32 false (cl 34 270 33),aO 32 false (dK 35 34),dA 36 32 35] (bb 36 (ag [lJ 37 dd [],bF 4 2 37,bK 3 false] .ret) .skip)) (ag [bO 38 4 4,bF 4 2 38,bK 3 true] .ret))))))))
@[simp] def aiV:List ca:=[.cell 2 true 4,.tmp 3]
def P7:C:=(ag [fm 3 1,hv 4 dd] (.seq (ag [aa 6 0,cT 7 6,a7 8 .sub 7 1,aa 5 8] (.block 0 (.loop (.seq (ag [aa 9 5,a7 10 .geq 9 0] (bb 10 .skip (.exit 0))) (.seq (.block 1 (.drawn true 20 [aa 13 0,aa 14 5,cP 15 4 13 14,bO 16 4 15,bO 17 4 3,eb 18 141 16 17,bF 4 3 18])) (.region [aa 11 5,a7 12 .sub 11 1,aa 5 12])))))) (ag [bO 19 4 3,bF 4 4 19] .ret)))
@[simp] def aiU:List ca:=[.cell 4 true 4]
def yz:List (Nat×dh):=[
 (3,⟨1,8,.int .i64,.int .i64 0⟩),
 (5,⟨1,1,.int .u8,.int .u8 0⟩),
 (9,⟨1,16,.str,.str []⟩),
 (38,⟨1,24,.slice 40,.slice 4 .nil []⟩),
 (40,⟨4,56,.struct [(0,3),(1,3),(2,9),(3,38)],.agg [.int .i64 0,.int .i64 0,.str [],.slice 4 .nil []]⟩),
 (63,⟨1,24,.slice 65,.slice 4 .nil []⟩),
 (65,⟨4,72,.struct [(0,3),(1,9),(2,38),(3,63)],.agg [.int .i64 0,.str [],.slice 4 .nil [],.slice 4 .nil []]⟩),
 (70,⟨1,24,.slice 9,.slice 1 .nil []⟩)]
theorem h8:eW aF yz=true:=by kernel_rfl
theorem Vv:cJ yz Jm HM 1 Tryz.f107=true:=by kernel_rfl
theorem Ry:aF.funcs[(107:Nat)]? =some Tryz.f107:=Tryz.func107
theorem zN:cJ yz xq l5 2 Tryz.f154=true:=by kernel_rfl
theorem y9:aF.funcs[(154:Nat)]? =some Tryz.f154:=Tryz.func154
theorem BJ:cJ yz yZ aiS 1 Tryz.f172=true:=by kernel_rfl
theorem AS:aF.funcs[(172:Nat)]? =some Tryz.f172:=Tryz.func172
theorem BK:cJ yz y0 ym 2 Tryz.f209=true:=by kernel_rfl
theorem AT:aF.funcs[(209:Nat)]? =some Tryz.f209:=Tryz.func209
theorem BI:cJ yz yY HL 1 Tryz.f221=true:=by kernel_rfl
theorem AR:aF.funcs[(221:Nat)]? =some Tryz.f221:=Tryz.func221
theorem zM:cJ yz xp aiV 1 Tryz.f251=true:=by kernel_rfl
theorem y8:aF.funcs[(251:Nat)]? =some Tryz.f251:=Tryz.func251
theorem ahQ:cJ yz P7 aiU 2 Tryz.f252=true:=by kernel_rfl
theorem ace:aF.funcs[(252:Nat)]? =some Tryz.f252:=Tryz.func252
theorem Ci(c:aj):bW aF 172 [.int .u8 c.toNat] (.bool (o8 c)):=by
 by_cases bH:c=32
 ·subst bH;rw[show o8 _=true from rfl];refine bI h8 AS BJ fun aG=>?_;unfold yZ;clear aG;exact bY
 by_cases a2:c=10
 ·subst a2;rw[show o8 _=true from rfl];refine bI h8 AS BJ fun aG=>?_;unfold yZ;clear aG;exact bY
 by_cases a3:c=40
 ·subst a3;rw[show o8 _=true from rfl];refine bI h8 AS BJ fun aG=>?_;unfold yZ;clear aG;exact bY
 by_cases a4:c=41
 ·subst a4;rw[show o8 _=true from rfl];refine bI h8 AS BJ fun aG=>?_;unfold yZ;clear aG;exact bY
 by_cases a5:c=59
 ·subst a5;rw[show o8 _=true from rfl];refine bI h8 AS BJ fun aG=>?_;unfold yZ;clear aG;exact bY
 have ah:o8 c=false:=by unfold o8;simp[bH,a2,a3,a4,a5]
 have m1:((c.toNat:Int)==32)=false:=qw (d:=32) bH;have m2:((c.toNat:Int)==10)=false:=qw (d:=10) a2;have m3:((c.toNat:Int)==40)=false:=qw (d:=40) a3;have m4:((c.toNat:Int)==41)=false:=qw (d:=41) a4;have m5:((c.toNat:Int)==59)=false:=qw (d:=59) a5;rw[ah];refine bI h8 AS BJ fun aG=>?_;unfold yZ;clear aG;exact bY
def nU(s:List aj)(x:List (List aj)×Nat):aU:=⟨[(0,.str s),(4,.slice 1 (.own (.loc 0)) (b6 x.1)),(5,.int .i64 x.2)],[],[(.loc 0,⟨x.1.length,9,1,none⟩)],1,[]⟩
def rG(s:List aj)(out:List (List aj))(i:Nat)(k:Nat):aU:=⟨[(0,.str s),(4,.slice 1 (.own (.loc 0)) (b6 out)),(5,.int .i64 i),(6,.int .i64 k)],[],[(.loc 0,⟨out.length,9,1,none⟩)],1,[]⟩
def vG(s:List aj)(out:List (List aj))(k:Nat):aU:=⟨[(0,.str s),(4,.slice 1 (.own (.loc 0)) (b6 out)),(7,.int .i64 k)],[],[(.loc 0,⟨out.length,9,1,none⟩)],1,[]⟩
set_option maxRecDepth 8000 in
theorem ak6(s:List aj)(az:s.length<=aR):bW aF 107 [.str s] (nf (jw s)):=by
 by_cases I:s.length<=100000;rotate_left
 ·have:jw s=none:=by unfold jw;rw[br (fun h=>I h.1)]
  rw[this,nf];have A0:(100000:Int)<s.length:=Ω
  refine bI h8 Ry Vv fun aG=>?_;unfold Jm;clear aG;exact bY
 have A0:¬(100000:Int)<s.length:=Ω
 generalize bt:nf (jw s)=R;have qU:kin (fun _=>dr) R:=by rw[<-bt];unfold nf;split<;>simp[kin,kinL]
 refine bI h8 Ry Vv (fun aG=>?_) (hr:=qU);unfold Jm;clear aG;simp[A0];refine hR (nU s) (fun x=>s.length-x.2) (fun x=>x.2<=s.length/\x.1++hO (s.drop x.2)=hO s/\x.1.length<=x.2) ([],0) (by simp[nU,b6];exact cW) ⟨Ψ,Ψ,Ψ⟩ ?_;rintro⟨out,i⟩ ⟨aw,hinv,uZ⟩ _;simp only at aw hinv uZ;rcases jS aw with rfl|b5
 ·rw[jR,Il,List.append_nil]at hinv;subst hinv;simp[nU];refine hR (vG s (hO s)) (fun k=>s.length-k) (fun k=>k<=s.length/\∀c∈s.take k,tU c=true) 0 (by simp[vG];exact⟨by simp[fresh,kinL,kin,bu,ak,Pv.look,cv,e8],cG (by simp[fresh,kinL,kin,bu,ak,Pv.look,cv,e8]),cI (by simp[fresh,kinL,kin,cw,ak,Pv.look,cv,e8]),Ψ⟩) ⟨Ω,Ψ⟩ ?_;rintro k ⟨ab,dM⟩ _;rcases jS ab with rfl|b5
  ·rw[hE]at dM;have mm:∀c∈s,tU c=true:=dM;by_cases aM:(hO s).length<=20000
   ·have hz:¬(20000:Int)<(hO s).length:=Ω
    have aE:jw s=some (hO s):=by unfold jw;rw[if_pos ⟨I,mm,aM⟩]
    simp[vG];(with_reducible repeat' first|refine av ?_|simp[hz]);rw[<-bt,aE,nf];simp[cn,HM,ba,bg,aT]
   ·have hz:(20000:Int)<(hO s).length:=Ω
    have aE:jw s=none:=by unfold jw;rw[br fun h=>aM h.2.2]
    simp[vG];(with_reducible repeat' first|refine av ?_|simp[hz]);rw[<-bt,aE,nf];simp[cn,HM,ba,bg,aT]
  ·obtain⟨c,aH,fT⟩:=fQ b5;have bZ:aY ((k:Int)+1):=by unfold aY;omega
   have la:=U3 c;have eO:=e0 c.toNat 32 126;have hw:lL.wrap (c.toNat:Int)=c.toNat:=ou _ (by have:=c.toNat_lt;omega);by_cases tx:tU c=true
   ·have DD:∀x∈s.take (k+1),tU x=true:=fun x af=>by
     rw[k3,aH]at af;rcases hl.1 af with af|af
     ·exact dM x af
     ·simp at af;subst af;exact tx
    rcases la.1 tx with fN|Dc
    ·have oJ:((c.toNat:Int) !=10)=false:=by simpa using fN
     clear dM la tx;simp[vG,b5,fT,aH];(with_reducible repeat' first|refine av ?_|refine aZ eO ?_|refine a1 eO ?_|simp[b5,fT,aH,oJ,bZ,hw]);refine b1.whl (k+1) Ω ⟨b5,DD⟩ (by simp[vG];exact⟨by simp[fresh,kinL,kin,bu,ak,Pv.look,cv,e8],cG (by simp[fresh,kinL,kin,bu,ak,Pv.look,cv,e8]),cI (by simp[fresh,kinL,kin,cw,ak,Pv.look,cv,e8]),Ψ⟩)
    ·have oJ:((c.toNat:Int) !=10)=true:=bne_iff_ne.2 Ω;rw[oX Dc]at eO;clear dM la tx;simp[vG,b5,fT,aH];(with_reducible repeat' first|refine av ?_|refine aZ eO ?_|refine a1 eO ?_|simp[b5,fT,aH,oJ,bZ,hw]);refine b1.whl (k+1) Ω ⟨b5,DD⟩ (by simp[vG];exact⟨by simp[fresh,kinL,kin,bu,ak,Pv.look,cv,e8],cG (by simp[fresh,kinL,kin,bu,ak,Pv.look,cv,e8]),cI (by simp[fresh,kinL,kin,cw,ak,Pv.look,cv,e8]),Ψ⟩)
   ·have aE:jw s=none:=by unfold jw;rw[br];intro h;exact tx (h.2.1 c (e1 aH))
    have oJ:((c.toNat:Int) !=10)=true:=bne_iff_ne.2 fun e=>tx (la.2 (.inl e));rw[decide_eq_false fun e=>tx (la.2 (.inr e))]at eO;clear dM la tx;simp[vG,b5,fT,aH];(with_reducible repeat' first|refine av ?_|refine aZ eO ?_|refine a1 eO ?_|simp[b5,fT,aH,oJ,bZ,hw]);rw[<-bt,aE,nf];simp[cn,HM,ba,bg,aT]
 obtain⟨c,aH,fT⟩:=fQ b5;have bZ:aY ((i:Int)+1):=by unfold aY;omega
 have zu:out.length+1<=aR:=by unfold aR;omega
 have n9:=Ci c;rw[fM aH,Ik]at hinv;by_cases mu:c=32\/c=10
 ·rw[if_pos mu]at hinv;rcases mu with rfl|rfl
  ·have n9:bW aF 172 [.int .u8 32] (.bool true):=Ci 32;simp[nU,b5,fT,aH];(with_reducible repeat' first|refine av ?_|refine aZ n9 ?_|refine a1 n9 ?_|simp[b5,fT,aH,bZ]);refine b1.whl (out,i+1) (by simp;omega) ⟨b5,hinv,by simp;omega⟩ (by simp[nU];exact⟨by simp[fresh,kinL,kin,bu,ak,Pv.look,cv,e8],cG (by simp[fresh,kinL,kin,bu,ak,Pv.look,cv,e8]),cI (by simp[fresh,kinL,kin,cw,ak,Pv.look,cv,e8]),Ψ⟩)
  ·have n9:bW aF 172 [.int .u8 10] (.bool true):=Ci 10;simp[nU,b5,fT,aH];(with_reducible repeat' first|refine av ?_|refine aZ n9 ?_|refine a1 n9 ?_|simp[b5,fT,aH,bZ]);refine b1.whl (out,i+1) (by simp;omega) ⟨b5,hinv,by simp;omega⟩ (by simp[nU];exact⟨by simp[fresh,kinL,kin,bu,ak,Pv.look,cv,e8],cG (by simp[fresh,kinL,kin,bu,ak,Pv.look,cv,e8]),cI (by simp[fresh,kinL,kin,cw,ak,Pv.look,cv,e8]),Ψ⟩)
 rw[br mu]at hinv;by_cases tc:c=59
 ·rw[if_pos tc]at hinv;subst tc;clear n9;simp[nU,b5,fT,aH];(with_reducible repeat' first|refine av ?_|simp[b5,fT,aH,bZ]);refine hR (rG s out i) (fun k=>s.length-k) (fun k=>i+1<=k/\k<=s.length/\∀c∈(s.drop (i+1)).take (k-(i+1)),qk c=true) (i+1) (by simp[rG];exact⟨by simp[fresh,kinL,kin,bu,ak,Pv.look,cv,e8],cG (by simp[fresh,kinL,kin,bu,ak,Pv.look,cv,e8]),cI (by simp[fresh,kinL,kin,cw,ak,Pv.look,cv,e8]),Ψ⟩) ⟨cc _,b5,Ψ⟩ ?_;rintro k ⟨hI,gj,ih⟩ _;have jG:(∀c,s[k]? =some c->qk c=false)->k<=s.length/\out++hO (s.drop k)=hO s/\out.length<=k:=by intro he;refine⟨gj,?_,Ω⟩;rw[<-(H6 hI gj ih he).2];exact hinv
  rcases jS gj with rfl|jm
  ·have cH:=jG fun c h=>by simp at h
   clear jG ih;simp[rG];(with_reducible repeat' first|refine av ?_|simp);refine b1.whl (out,s.length) (by simp;omega) cH (by simp[nU];exact⟨by simp[fresh,kinL,kin,bu,ak,Pv.look,cv,e8],cG (by simp[fresh,kinL,kin,bu,ak,Pv.look,cv,e8]),cI (by simp[fresh,kinL,kin,cw,ak,Pv.look,cv,e8]),Ψ⟩)
  ·obtain⟨d,aI,hdi⟩:=fQ jm;have lW:aY ((k:Int)+1):=by unfold aY;omega
   by_cases fN:d=10
   ·subst fN;have cH:=jG fun c h=>by rw[aI]at h;cases h;rfl
    clear jG ih;simp[rG,jm,hdi,aI];(with_reducible repeat' first|refine av ?_|simp[jm,hdi,aI]);refine b1.whl (out,k) (by simp;omega) cH (by simp[nU];exact⟨by simp[fresh,kinL,kin,bu,ak,Pv.look,cv,e8],cG (by simp[fresh,kinL,kin,bu,ak,Pv.look,cv,e8]),cI (by simp[fresh,kinL,kin,cw,ak,Pv.look,cv,e8]),Ψ⟩)
   ·have aM:((d.toNat:Int) !=10)=true:=yD (d:=10) fN;have eU:∀c∈(s.drop (i+1)).take (k+1-(i+1)),qk c=true:=fun x af=>by
     rw[show k+1-(i+1)=(k-(i+1))+1 by omega,k3,mb,show i+1+(k-(i+1))=k by omega,aI]at af;rcases hl.1 af with af|af
     ·exact ih x af
     ·simp at af;subst af;simp[qk,fN]
    clear jG ih;simp[rG,jm,hdi,aI];(with_reducible repeat' first|refine av ?_|simp[jm,hdi,aI,aM,lW]);refine b1.whl (k+1) Ω ⟨Ω,jm,eU⟩ (by simp[rG];exact⟨by simp[fresh,kinL,kin,bu,ak,Pv.look,cv,e8],cG (by simp[fresh,kinL,kin,bu,ak,Pv.look,cv,e8]),cI (by simp[fresh,kinL,kin,cw,ak,Pv.look,cv,e8]),Ψ⟩)
 rw[br tc]at hinv;have Mh:((c.toNat:Int)==59)=false:=qw (d:=59) tc;have hle:(i:Int)<=i+1:=Ω
 have Dy:(i:Int)+1<=s.length:=Ω
 by_cases tz:c=40\/c=41
 ·rw[if_pos tz]at hinv;have u2:(s.take (i+1)).drop i=[c]:=by rw[List.drop_take,fM aH];simp
  rcases tz with rfl|rfl
  ·have n9:bW aF 172 [.int .u8 40] (.bool true):=Ci 40;simp[nU,b5,fT,aH];(with_reducible repeat' first|refine av ?_|refine aZ n9 ?_|refine a1 n9 ?_|simp[b5,fT,aH,bZ,u2,hle,Dy,zu]);refine b1.whl (out++[[40]],i+1) (by simp;omega) ⟨b5,(by simpa using hinv),by simp;omega⟩ (by simp[nU,b6];exact⟨by simp[fresh,kinL,kin,bu,ak,Pv.look,cv,e8],cG (by simp[fresh,kinL,kin,bu,ak,Pv.look,cv,e8]),cI (by simp[fresh,kinL,kin,cw,ak,Pv.look,cv,e8]),Ψ⟩)
  ·have n9:bW aF 172 [.int .u8 41] (.bool true):=Ci 41;simp[nU,b5,fT,aH];(with_reducible repeat' first|refine av ?_|refine aZ n9 ?_|refine a1 n9 ?_|simp[b5,fT,aH,bZ,u2,hle,Dy,zu]);refine b1.whl (out++[[41]],i+1) (by simp;omega) ⟨b5,(by simpa using hinv),by simp;omega⟩ (by simp[nU,b6];exact⟨by simp[fresh,kinL,kin,bu,ak,Pv.look,cv,e8],cG (by simp[fresh,kinL,kin,bu,ak,Pv.look,cv,e8]),cI (by simp[fresh,kinL,kin,cw,ak,Pv.look,cv,e8]),Ψ⟩)
 rw[br tz]at hinv;have Dm:iT c=true:=(Bl c).2 ⟨mu,tc,tz⟩;have Km:o8 c=false:=by simpa[iT]using Dm
 rw[Km]at n9;simp[nU,b5,fT,aH];(with_reducible repeat' first|refine av ?_|refine aZ n9 ?_|refine a1 n9 ?_|simp[b5,fT,aH,Mh,bZ]);refine hR (rG s out i) (fun k=>s.length-k) (fun k=>i+1<=k/\k<=s.length/\∀c∈(s.drop (i+1)).take (k-(i+1)),iT c=true) (i+1) (by simp[rG];exact⟨by simp[fresh,kinL,kin,bu,ak,Pv.look,cv,e8],cG (by simp[fresh,kinL,kin,bu,ak,Pv.look,cv,e8]),cI (by simp[fresh,kinL,kin,cw,ak,Pv.look,cv,e8]),Ψ⟩) ⟨cc _,b5,Ψ⟩ ?_;rintro k ⟨hI,gj,ih⟩ _;have jG:(∀c,s[k]? =some c->iT c=false)->k<=s.length/\(out++[(s.take k).drop i])++hO (s.drop k)=hO s/\(out++[(s.take k).drop i]).length<=k:=by intro he;refine⟨gj,?_,by simp;omega⟩;obtain⟨aE,aI⟩:=H6 hI gj ih he;rw[aE,aI]at hinv;rw[List.drop_take,fM aH,show k-i=(k-(i+1))+1 from by omega,sK,lr];exact hinv
 have eT:(i:Int)<=k:=Ω
 have wj:(k:Int)<=s.length:=Ω
 clear hinv n9;rcases jS gj with rfl|jm
 ·have cH:=jG fun c h=>by simp at h
  clear jG ih;simp[rG];(with_reducible repeat' first|refine av ?_|simp[eT,wj,zu]);refine b1.whl (out++[(s.take s.length).drop i],s.length) (by simp;omega) cH (by simp[nU,b6];exact⟨by simp[fresh,kinL,kin,bu,ak,Pv.look,cv,e8],cG (by simp[fresh,kinL,kin,bu,ak,Pv.look,cv,e8]),cI (by simp[fresh,kinL,kin,cw,ak,Pv.look,cv,e8]),Ψ⟩)
 ·obtain⟨d,aI,hdi⟩:=fQ jm;have lW:aY ((k:Int)+1):=by unfold aY;omega
  have kB:=Ci d;cases hw:iT d
  ·have Kl:o8 d=true:=by simpa[iT]using hw
   rw[Kl]at kB;have cH:=jG fun c h=>by rw[aI]at h;cases h;exact hw
   clear jG ih;simp[rG,jm,hdi,aI];(with_reducible repeat' first|refine av ?_|refine aZ kB ?_|refine a1 kB ?_|simp[jm,hdi,aI,eT,wj,zu]);refine b1.whl (out++[(s.take k).drop i],k) (by simp;omega) cH (by simp[nU,b6];exact⟨by simp[fresh,kinL,kin,bu,ak,Pv.look,cv,e8],cG (by simp[fresh,kinL,kin,bu,ak,Pv.look,cv,e8]),cI (by simp[fresh,kinL,kin,cw,ak,Pv.look,cv,e8]),Ψ⟩)
  ·have Kl:o8 d=false:=by simpa[iT]using hw
   rw[Kl]at kB;have eU:∀c∈(s.drop (i+1)).take (k+1-(i+1)),iT c=true:=fun x af=>by
    rw[show k+1-(i+1)=(k-(i+1))+1 by omega,k3,mb,show i+1+(k-(i+1))=k by omega,aI]at af;rcases hl.1 af with af|af
    ·exact ih x af
    ·simp at af;subst af;exact hw
   clear jG ih;simp[rG,jm,hdi,aI];(with_reducible repeat' first|refine av ?_|refine aZ kB ?_|refine a1 kB ?_|simp[jm,hdi,aI,lW]);refine b1.whl (k+1) Ω ⟨Ω,jm,eU⟩ (by simp[rG];exact⟨by simp[fresh,kinL,kin,bu,ak,Pv.look,cv,e8],cG (by simp[fresh,kinL,kin,bu,ak,Pv.look,cv,e8]),cI (by simp[fresh,kinL,kin,cw,ak,Pv.look,cv,e8]),Ψ⟩)
def BL(o:aW Int):ae:= .tuple [.int .i64 (o.getD 0),.bool o.isSome]
def lA(l:List aj):Int:=l.foldl (fun a c=>a*10+((c.toNat:Int)-48)) 0
def vR(l:List aj):Prop:= ∀c∈l,48<=c.toNat/\c.toNat<=57
theorem AG(l:List aj)(c:aj):lA (l++[c])=lA l*10+((c.toNat:Int)-48):=by simp[lA]
theorem sW(u:Nat):lA (Lib.decDigits u)=u:=by
 induction u using Nat.strongRecOn with
 |_ u aX=>
  by_cases hu:u<10
  ·rw[uK hu];simp only[lA,List.foldl_cons,List.foldl_nil,CV hu];omega
  ·rw[xt Ω,AG,aX _ Ω,CV (Nat.mod_lt _ Ω)];omega
theorem sU(u:Nat):vR (Lib.decDigits u):=CU u
theorem CX{l:List aj}(h:vR l):∀k,0<=lA (l.take k)/\lA (l.take k)<=lA (l.take (k+1)):=by
 intro k;induction k with
 |zero=>
  cases l with
  |nil=>simp[lA]
  |cons c r=>have:=h c Ψ;simp[lA];omega
 |succ k aX=>
  rcases mc (k+1) l.length with ab|ab
  ·obtain⟨c,aH⟩:∃c,l[k+1]? =some c:=⟨_,cL ab⟩;have aI:=h c (e1 aH);have e:l.take (k+1+1)=l.take (k+1)++[c]:=by rw[k3,aH];rfl
   rw[e,AG];omega
  ·rw[vB (by omega:l.length<=k+1+1),vB ab]at*;omega
theorem FO{l:List aj}(h:vR l){k m:Nat}(p9:k<=m):lA (l.take k)<=lA (l.take m):=by
 induction m with
 |zero=>rw[show k=0 by omega];exact Int.le_refl _
 |succ m aX=>
  rcases jS p9 with rfl|b5
  ·exact Int.le_refl _
  ·have:=aX Ω;have:=(CX h m).2;omega
def yr(s:List aj):Bool:=match s with|c::_=>c==45|[]=>false
def By(s:List aj):List aj:=if yr s then s.drop 1 else s
theorem si{s:List aj}{n:Int}(h:Lib.itoa n=s):By s=Lib.decDigits n.natAbs/\(yr s=true↔n<0):=by
 subst h;unfold Lib.itoa;by_cases aM:n<0
 ·rw[if_pos aM];have:yr (45::Lib.decDigits n.natAbs)=true:=rfl;simp[By,this,aM]
 ·rw[br aM,show n.natAbs=n.toNat by omega];have:yr (Lib.decDigits n.toNat)=false:=by
   cases aI:Lib.decDigits n.toNat with
   |nil=>rfl
   |cons c r=>have:=CU n.toNat c (by rw[aI];simp);simp only[yr,jj];rintro rfl;revert this;decide
  simp[By,this,aM]
theorem sS{u:Nat}(h:u<=9223372036854775808):(Lib.decDigits u).length<=19:=by have:=FG 19 u Ω;omega
def nT(s t:List aj)(neg:Bool)(k:Nat)(acc:Int):aU:=⟨[(0,.str s),(4,.bool neg),(5,.str t),(6,.int .i64 acc),(7,.int .i64 k)],[],[],0,[]⟩
theorem Oa(s:List aj):bW aF 221 [.str s] (BL (gH s)):=by
 generalize bt:BL (gH s)=R;have qU:kin (fun _=>dr) R:=by rw[<-bt];simp[BL,kin,kinL]
 cases n8:yr s
 ·have rU:By s=s:=by unfold By;rw[n8];rfl
  have SJ:(s=[]->dr)->∃c r,s=c::r/\((c.toNat:Int)==45)=false:=by
   cases s with
   |nil=>intro h;exact absurd rfl h
   |cons c r=>exact fun _=>⟨c,r,rfl,qw (d:=45) (by simpa[yr]using n8)⟩
  by_cases oI:s.length<1
  ·have az:s=[]:=List.length_eq_zero_iff.1 Ω;have aV:gH s=none:=tW fun m hm hit=>by
    obtain⟨ao,aL⟩:=si hit;have h3:¬m<0:=fun h=>by rw[aL.2 h]at n8;cases n8
    rw[rU]at ao;have gT:=hm;unfold aY at gT;have gv:=sU m.natAbs;have lT:=sW m.natAbs;have lQ:=sS (u:=m.natAbs) Ω;have b7:=pa m.natAbs;rw[<-ao]at gv lT lQ b7;exact b7 az
   have:R= .tuple [.int .i64 0,.bool false]:=by rw[<-bt,aV];rfl
   subst this;subst az;clear bt;refine bI h8 AR BI (fun aG=>?_);unfold yY;clear aG;exact bY
  have hp:0<s.length:=Ω
  have u1:(0:Int)<s.length:=Ω
  have KG:¬(s.length:Int)<1:=Ω
  obtain⟨c0,kE,SA,adt⟩:=SJ (fun h=>by rw[h]at hp;simp at hp);have wa:s[0]? =some c0:=by rw[SA];rfl
  have adJ:∀h,(s[0]'h)=c0:=fun h=>by rw[cL hp]at wa;exact gB wa
  clear SJ SA;by_cases fJ:19<s.length
  ·have aV:gH s=none:=tW fun m hm hit=>by
    obtain⟨ao,aL⟩:=si hit;have h3:¬m<0:=fun h=>by rw[aL.2 h]at n8;cases n8
    rw[rU]at ao;have gT:=hm;unfold aY at gT;have gv:=sU m.natAbs;have lT:=sW m.natAbs;have lQ:=sS (u:=m.natAbs) Ω;have b7:=pa m.natAbs;rw[<-ao]at gv lT lQ b7;omega
   have:R= .tuple [.int .i64 0,.bool false]:=by rw[<-bt,aV];rfl
   subst this;have Dv:(19:Int)<s.length:=Ω
   clear bt aV;refine bI h8 AR BI (fun aG=>?_);unfold yY;clear aG;exact bY
  have Dv:¬(19:Int)<s.length:=Ω
  refine bI h8 AR BI (fun aG=>?_) (hr:=qU);unfold yY;clear aG;simp;(with_reducible repeat' first|refine av ?_|simp[hp,u1,wa,adJ,adt,KG,Dv,fJ]);refine fA (nT s s false) s.length (fun k acc=>acc= -lA (s.take k)/\vR (s.take k)/\ -9223372036854775808<=acc) 0 (by simp[nT];exact cW) ⟨by simp[lA],by simp[vR],Ω⟩ (fun acc ai _=>?_) (fun k acc ab ai _=>?_)
  ·obtain⟨lV,ig,Dt⟩:=ai;rw[hE]at lV ig;have oF:0<=lA s:=by have:=(CX ig 0).1;have:=FO ig (pT s.length);rw[hE]at this;omega
   by_cases GG:acc= -9223372036854775808
   ·have aV:gH s=none:=tW fun m hm hit=>by
     obtain⟨ao,aL⟩:=si hit;have h3:¬m<0:=fun h=>by rw[aL.2 h]at n8;cases n8
     rw[rU]at ao;have gT:=hm;unfold aY at gT;have gv:=sU m.natAbs;have lT:=sW m.natAbs;have lQ:=sS (u:=m.natAbs) Ω;have b7:=pa m.natAbs;rw[<-ao]at gv lT lQ b7;omega
    have:R= .tuple [.int .i64 0,.bool false]:=by rw[<-bt,aV];rfl
    subst this;clear bt aV lV ig;simp[nT];exact bY
   ·have eX:aY (-acc):=by unfold aY;omega
    have SX:(acc== -9223372036854775808)=false:=jj.2 GG;have rY:lL.wrap (-acc)= -acc:=ou _ Ω;have dp:=vx (-acc) eX;by_cases he:Lib.itoa (-acc)=s
    ·have:R= .tuple [.int .i64 (-acc),.bool true]:=by rw[<-bt,zO.2 ⟨eX,he⟩];rfl
     subst this;rw[he]at dp;clear bt lV ig;simp[nT];((with_reducible repeat' first|refine av ?_|refine aZ dp ?_|refine a1 dp ?_|simp[SX,rY,eX]|((first|apply dt|apply dx|apply dw)<;>intro h<;>try simp at h))<;>(try exact dQ));simp[cn,HL,ba,bg,aT]
    ·have aV:gH s=none:=tW fun m hm hit=>by
      obtain⟨ao,aL⟩:=si hit;have h3:¬m<0:=fun h=>by rw[aL.2 h]at n8;cases n8
      rw[rU]at ao;have gT:=hm;unfold aY at gT;have gv:=sU m.natAbs;have lT:=sW m.natAbs;have lQ:=sS (u:=m.natAbs) Ω;have b7:=pa m.natAbs;rw[<-ao]at gv lT lQ b7;exact he (by have:m= -acc:=Ω;rw[<-this];exact hit)
     have:R= .tuple [.int .i64 0,.bool false]:=by rw[<-bt,aV];rfl
     subst this;have Dp:(Lib.itoa (-acc) !=s)=true:=by simpa using he
     clear bt aV lV ig;simp[nT];((with_reducible repeat' first|refine av ?_|refine aZ dp ?_|refine a1 dp ?_|simp[SX,rY,eX,Dp]|((first|apply dt|apply dx|apply dw)<;>intro h<;>try simp at h))<;>(try exact dQ));simp[cn,HL,ba,bg,aT]
  ·obtain⟨lV,ig,Dt⟩:=ai;obtain⟨c,aH,fT⟩:=fQ ab;have xN:=c.toNat_lt;have hw:lL.wrap (c.toNat:Int)=c.toNat:=ou _ Ω;have Kr:aY ((c.toNat:Int)-48):=by unfold aY;omega
   have lW:aY ((k:Int)+1):=by unfold aY;omega
   have eO:=e0 ((c.toNat:Int)-48) 0 9;have e:s.take (k+1)=s.take k++[c]:=by rw[k3,aH];rfl
   by_cases Dn:48<=c.toNat/\c.toNat<=57
   ·have oF:=(CX ig k).1;rw[List.take_take,Nat.min_self]at oF;have n4:aY (-9223372036854775808+((c.toNat:Int)-48)):=by unfold aY;omega
    have bp:(-9223372036854775808+((c.toNat:Int)-48)).tdiv 10= -((9223372036854775808-((c.toNat:Int)-48))/10):=by rw[show(-9223372036854775808+((c.toNat:Int)-48))= -(9223372036854775808-((c.toNat:Int)-48)) by omega,Int.neg_tdiv,Int.tdiv_eq_ediv_of_nonneg Ω]
    rw[oX Ω]at eO;have KV:lL.wrap ((-9223372036854775808+((c.toNat:Int)-48)).tdiv 10)= -((9223372036854775808-((c.toNat:Int)-48))/10):=by rw[bp];exact ou _ Ω
    by_cases mU:acc< -((9223372036854775808-((c.toNat:Int)-48))/10)
    ·have Dj:9223372036854775808<lA (s.take (k+1)):=by rw[e,AG];omega
     have aV:gH s=none:=tW fun m hm hit=>by
      obtain⟨ao,aL⟩:=si hit;have h3:¬m<0:=fun h=>by rw[aL.2 h]at n8;cases n8
      rw[rU]at ao;have gT:=hm;unfold aY at gT;have gv:=sU m.natAbs;have lT:=sW m.natAbs;have lQ:=sS (u:=m.natAbs) Ω;have b7:=pa m.natAbs;rw[<-ao]at gv lT lQ b7;have:=FO gv (show k+1<=s.length by omega);rw[hE]at this;omega
     have:R= .tuple [.int .i64 0,.bool false]:=by rw[<-bt,aV];rfl
     subst this;clear bt aV lV ig Dj bp;simp[nT,ab,fT,aH];exact bY
    ·have I:aY (acc*10):=by unfold aY;omega
     have J:aY (acc*10-((c.toNat:Int)-48)):=by unfold aY;omega
     have jk:acc*10-((c.toNat:Int)-48)= -lA (s.take (k+1))/\vR (s.take (k+1))/\ -9223372036854775808<=acc*10-((c.toNat:Int)-48):=by
      refine⟨by rw[e,AG];omega,fun x af=>?_,Ω⟩;rw[e]at af;rcases hl.1 af with af|af
      ·exact ig x af
      ·simp at af;subst af;exact Dn
     clear bt lV ig bp;simp[nT,ab,fT,aH];(with_reducible repeat' first|refine av ?_|refine aZ eO ?_|refine a1 eO ?_|simp[ab,fT,aH,hw,Kr,n4,KV,mU,I,J,lW]);refine b1.rng (acc*10-((c.toNat:Int)-48)) ab jk (by simp[nT];exact cW)
   ·rw[decide_eq_false Ω]at eO;have aV:gH s=none:=tW fun m hm hit=>by
     obtain⟨ao,aL⟩:=si hit;have h3:¬m<0:=fun h=>by rw[aL.2 h]at n8;cases n8
     rw[rU]at ao;have gT:=hm;unfold aY at gT;have gv:=sU m.natAbs;have lT:=sW m.natAbs;have lQ:=sS (u:=m.natAbs) Ω;have b7:=pa m.natAbs;rw[<-ao]at gv lT lQ b7;exact Dn (gv c (e1 aH))
    have:R= .tuple [.int .i64 0,.bool false]:=by rw[<-bt,aV];rfl
    subst this;clear bt aV lV ig;simp[nT,ab,fT,aH];exact bY
 ·obtain⟨t,rfl⟩:∃t',s=45::t':=by
   cases s with
   |nil=>cases n8
   |cons c r=>exact⟨r,by simp[yr]at n8;rw[n8]⟩
  have rU:By (45::t)=t:=rfl;by_cases oI:t.length<1
  ·have aE:t=[]:=List.length_eq_zero_iff.1 Ω;have aV:gH (45::t)=none:=tW fun m hm hit=>by obtain⟨ao,aL⟩:=si hit;have h3:m<0:=aL.1 rfl;rw[rU]at ao;have gT:=hm;unfold aY at gT;have gv:=sU m.natAbs;have lT:=sW m.natAbs;have lQ:=sS (u:=m.natAbs) Ω;have b7:=pa m.natAbs;rw[<-ao]at gv lT lQ b7;exact b7 aE
   have:R= .tuple [.int .i64 0,.bool false]:=by rw[<-bt,aV];rfl
   subst this;subst aE;clear bt;refine bI h8 AR BI (fun aG=>?_);unfold yY;clear aG;exact bY
  have KG:¬(t.length:Int)<1:=Ω
  have aex:¬t=[]:=fun h=>by rw[h]at oI;simp at oI
  have zv:(0:Int)<(t.length:Int)+1:=Ω
  have xY:(1:Int)<=(t.length:Int)+1:=Ω
  by_cases fJ:19<t.length
  ·have aV:gH (45::t)=none:=tW fun m hm hit=>by obtain⟨ao,aL⟩:=si hit;have h3:m<0:=aL.1 rfl;rw[rU]at ao;have gT:=hm;unfold aY at gT;have gv:=sU m.natAbs;have lT:=sW m.natAbs;have lQ:=sS (u:=m.natAbs) Ω;have b7:=pa m.natAbs;rw[<-ao]at gv lT lQ b7;omega
   have:R= .tuple [.int .i64 0,.bool false]:=by rw[<-bt,aV];rfl
   subst this;have Dv:(19:Int)<t.length:=Ω
   clear bt aV;refine bI h8 AR BI (fun aG=>?_);unfold yY;clear aG;exact bY
  have Dv:¬(19:Int)<t.length:=Ω
  refine bI h8 AR BI (fun aG=>?_) (hr:=qU);unfold yY;clear aG;simp;(with_reducible repeat' first|refine av ?_|simp[zv,xY,KG,aex,Dv,fJ]);refine fA (nT (45::t) t true) t.length (fun k acc=>acc= -lA (t.take k)/\vR (t.take k)/\ -9223372036854775808<=acc) 0 (by simp[nT];exact cW) ⟨by simp[lA],by simp[vR],Ω⟩ (fun acc ai _=>?_) (fun k acc ab ai _=>?_)
  ·obtain⟨lV,ig,Dt⟩:=ai;rw[hE]at lV ig;have oF:0<=lA t:=by have:=(CX ig 0).1;have:=FO ig (pT t.length);rw[hE]at this;omega
   have eX:aY acc:=by unfold aY;omega
   have dp:=vx (acc) eX;by_cases he:Lib.itoa (acc)=(45::t)
   ·have:R= .tuple [.int .i64 (acc),.bool true]:=by rw[<-bt,zO.2 ⟨eX,he⟩];rfl
    subst this;rw[he]at dp;clear bt lV ig;simp[nT];exact bY
   ·have aV:gH (45::t)=none:=tW fun m hm hit=>by obtain⟨ao,aL⟩:=si hit;have h3:m<0:=aL.1 rfl;rw[rU]at ao;have gT:=hm;unfold aY at gT;have gv:=sU m.natAbs;have lT:=sW m.natAbs;have lQ:=sS (u:=m.natAbs) Ω;have b7:=pa m.natAbs;rw[<-ao]at gv lT lQ b7;exact he (by have:m=acc:=Ω;rw[<-this];exact hit)
    have:R= .tuple [.int .i64 0,.bool false]:=by rw[<-bt,aV];rfl
    subst this;have Dp:(Lib.itoa (acc) !=(45::t))=true:=by simpa using he
    clear bt aV lV ig;simp[nT];((with_reducible repeat' first|refine av ?_|refine aZ dp ?_|refine a1 dp ?_|simp[eX,Dp]|((first|apply dt|apply dx|apply dw)<;>intro h<;>try simp at h))<;>(try exact dQ));simp[cn,HL,ba,bg,aT]
  ·obtain⟨lV,ig,Dt⟩:=ai;obtain⟨c,aH,fT⟩:=fQ ab;have xN:=c.toNat_lt;have hw:lL.wrap (c.toNat:Int)=c.toNat:=ou _ Ω;have Kr:aY ((c.toNat:Int)-48):=by unfold aY;omega
   have lW:aY ((k:Int)+1):=by unfold aY;omega
   have eO:=e0 ((c.toNat:Int)-48) 0 9;have e:t.take (k+1)=t.take k++[c]:=by rw[k3,aH];rfl
   by_cases Dn:48<=c.toNat/\c.toNat<=57
   ·have oF:=(CX ig k).1;rw[List.take_take,Nat.min_self]at oF;have n4:aY (-9223372036854775808+((c.toNat:Int)-48)):=by unfold aY;omega
    have bp:(-9223372036854775808+((c.toNat:Int)-48)).tdiv 10= -((9223372036854775808-((c.toNat:Int)-48))/10):=by rw[show(-9223372036854775808+((c.toNat:Int)-48))= -(9223372036854775808-((c.toNat:Int)-48)) by omega,Int.neg_tdiv,Int.tdiv_eq_ediv_of_nonneg Ω]
    rw[oX Ω]at eO;have KV:lL.wrap ((-9223372036854775808+((c.toNat:Int)-48)).tdiv 10)= -((9223372036854775808-((c.toNat:Int)-48))/10):=by rw[bp];exact ou _ Ω
    by_cases mU:acc< -((9223372036854775808-((c.toNat:Int)-48))/10)
    ·have Dj:9223372036854775808<lA (t.take (k+1)):=by rw[e,AG];omega
     have aV:gH (45::t)=none:=tW fun m hm hit=>by obtain⟨ao,aL⟩:=si hit;have h3:m<0:=aL.1 rfl;rw[rU]at ao;have gT:=hm;unfold aY at gT;have gv:=sU m.natAbs;have lT:=sW m.natAbs;have lQ:=sS (u:=m.natAbs) Ω;have b7:=pa m.natAbs;rw[<-ao]at gv lT lQ b7;have:=FO gv (show k+1<=t.length by omega);rw[hE]at this;omega
     have:R= .tuple [.int .i64 0,.bool false]:=by rw[<-bt,aV];rfl
     subst this;clear bt aV lV ig Dj bp;simp[nT,ab,fT,aH];exact bY
    ·have I:aY (acc*10):=by unfold aY;omega
     have J:aY (acc*10-((c.toNat:Int)-48)):=by unfold aY;omega
     have jk:acc*10-((c.toNat:Int)-48)= -lA (t.take (k+1))/\vR (t.take (k+1))/\ -9223372036854775808<=acc*10-((c.toNat:Int)-48):=by
      refine⟨by rw[e,AG];omega,fun x af=>?_,Ω⟩;rw[e]at af;rcases hl.1 af with af|af
      ·exact ig x af
      ·simp at af;subst af;exact Dn
     clear bt lV ig bp;simp[nT,ab,fT,aH];(with_reducible repeat' first|refine av ?_|refine aZ eO ?_|refine a1 eO ?_|simp[ab,fT,aH,hw,Kr,n4,KV,mU,I,J,lW]);refine b1.rng (acc*10-((c.toNat:Int)-48)) ab jk (by simp[nT];exact cW)
   ·rw[decide_eq_false Ω]at eO;have aV:gH (45::t)=none:=tW fun m hm hit=>by obtain⟨ao,aL⟩:=si hit;have h3:m<0:=aL.1 rfl;rw[rU]at ao;have gT:=hm;unfold aY at gT;have gv:=sU m.natAbs;have lT:=sW m.natAbs;have lQ:=sS (u:=m.natAbs) Ω;have b7:=pa m.natAbs;rw[<-ao]at gv lT lQ b7;exact Dn (gv c (e1 aH))
    have:R= .tuple [.int .i64 0,.bool false]:=by rw[<-bt,aV];rfl
    subst this;clear bt aV lV ig;simp[nT,ab,fT,aH];exact bY
def w2:List Tm->Bool
 |[a,b]=>shp a&&shp b
 |_=>false
theorem ajF(k n:Int)(s:List aj)(args:List Tm):shp ⟨k,n,s,args⟩=if k≠1/\k≠3/\n≠0 then false else if k≠2/\s≠[]then false else if k≠4/\args≠[]then false else if k=0 then true else if k=1 then decide (0<=n/\n<=100000)else if k=2 then gb s else if k=3 then decide (-1000000000<=n/\n<=1000000000)else if k=4 then w2 args else false:=by
 by_cases eN:k=0
 ·subst eN;match args with
  |[]=>by_cases aM:n=0<;>by_cases az:s=[]<;>simp[shp,l1,aM,az]
  |[a]=>simp[shp]
  |[a,b]=>simp[shp]
  |_::_::_::_=>simp[shp]
 by_cases cD:k=1
 ·subst cD;match args with
  |[]=>by_cases az:s=[]<;>simp[shp,l1,az]
  |[a]=>simp[shp]
  |[a,b]=>simp[shp]
  |_::_::_::_=>simp[shp]
 by_cases dI:k=2
 ·subst dI;match args with
  |[]=>by_cases aM:n=0<;>simp[shp,l1,aM]
  |[a]=>simp[shp]
  |[a,b]=>simp[shp]
  |_::_::_::_=>simp[shp]
 by_cases hA:k=3
 ·subst hA;match args with
  |[]=>by_cases az:s=[]<;>simp[shp,l1,az]
  |[a]=>simp[shp]
  |[a,b]=>simp[shp]
  |_::_::_::_=>simp[shp]
 by_cases kz:k=4
 ·subst kz;match args with
  |[]=>simp[shp,l1,w2]
  |[a]=>simp[shp,w2]
  |[a,b]=>by_cases aM:n=0<;>by_cases az:s=[]<;>simp[shp,w2,aM,az]
  |_::_::_::_=>simp[shp,w2]
 ·match args with
  |[]=>simp[shp,l1,eN,cD,dI,hA,kz]
  |[a]=>simp[shp,eN,cD,dI,hA,kz]
  |[a,b]=>simp[shp,eN,cD,dI,hA,kz]
  |_::_::_::_=>simp[shp,eN,cD,dI,hA,kz]
set_option maxRecDepth 8000 in
theorem N8(m:Nat):∀(t:Tm),t.sz<=m->bW aF 270 [enc t] (.bool (shp t)):=by
 induction m with
 |zero=>intro t aE;cases t;simp[Tm.sz]at aE
 |succ m aX=>
 rintro⟨k,n,s,args⟩ aE;generalize bt:shp ⟨k,n,s,args⟩=R;have cH:=ajF k n s args;rw[bt]at cH;by_cases cq:k≠1/\k≠3/\n≠0
 ·rw[if_pos cq]at cH;obtain⟨cD,hA,n0⟩:=cq;have Bn:(k !=1)=true:=by simp[cD]
  have Bo:(k !=3)=true:=by simp[hA]
  have Mg:(n !=0)=true:=by simp[n0]
  subst cH;refine bI jP nv nJ fun aG=>?_;unfold mM;simp[Tm.kind,Tm.num,Tm.name,Tm.args];(with_reducible repeat' first|refine av ?_|refine aZ (e0 _ _ _) ?_|refine a1 (e0 _ _ _) ?_|refine aZ (hQ _) ?_|refine a1 (hQ _) ?_|simp[Bn,Bo,Mg]);all_goals simp[cn,mD,ba,bg,aT]
 rw[br cq]at cH;have CI:(if k !=1 then k !=3 else false)=true->(n !=0)=false:=by intro h;simp at h⊢;exact Classical.byContradiction fun aM=>cq ⟨h.1,h.2,aM⟩
 by_cases cE:k≠2/\s≠[]
 ·rw[if_pos cE]at cH;have G3:(k !=2)=true:=by simp[cE.1]
  have Nq:s.isEmpty=false:=by simp[cE.2]
  by_cases cD:k=1
  ·subst cD;subst cH;refine bI jP nv nJ fun aG=>?_;unfold mM;simp[Tm.kind,Tm.num,Tm.name,Tm.args];(with_reducible repeat' first|refine av ?_|refine aZ (e0 _ _ _) ?_|refine a1 (e0 _ _ _) ?_|refine aZ (hQ _) ?_|refine a1 (hQ _) ?_|simp[Nq]);all_goals simp[cn,mD,ba,bg,aT]
  by_cases hA:k=3
  ·subst hA;subst cH;refine bI jP nv nJ fun aG=>?_;unfold mM;simp[Tm.kind,Tm.num,Tm.name,Tm.args];(with_reducible repeat' first|refine av ?_|refine aZ (e0 _ _ _) ?_|refine a1 (e0 _ _ _) ?_|refine aZ (hQ _) ?_|refine a1 (hQ _) ?_|simp[Nq]);all_goals simp[cn,mD,ba,bg,aT]
  have Bn:(k !=1)=true:=by simp[cD]
  have Bo:(k !=3)=true:=by simp[hA]
  have Mg:(n !=0)=false:=CI (by simp[cD,hA]);subst cH;refine bI jP nv nJ fun aG=>?_;unfold mM;simp[Tm.kind,Tm.num,Tm.name,Tm.args];(with_reducible repeat' first|refine av ?_|refine aZ (e0 _ _ _) ?_|refine a1 (e0 _ _ _) ?_|refine aZ (hQ _) ?_|refine a1 (hQ _) ?_|simp[Bn,Bo,Mg,G3,Nq]);all_goals simp[cn,mD,ba,bg,aT]
 rw[br cE]at cH;by_cases eN:k=0
 ·subst eN;have n0:n=0:=by simpa using CI (by decide)
  have iJ:s=[]:=Classical.byContradiction fun h=>cE ⟨Ω,h⟩;subst n0 iJ;by_cases a0:args=[];rotate_left
  ·rw[if_pos ⟨Ω,a0⟩]at cH;have vI:(0:Int)<args.length:=by have:=sJ.2 a0;omega
   subst cH;refine bI jP nv nJ fun aG=>?_;unfold mM;simp[Tm.kind,Tm.num,Tm.name,Tm.args];((with_reducible repeat' first|refine av ?_|refine aZ (e0 _ _ _) ?_|refine a1 (e0 _ _ _) ?_|refine aZ (hQ _) ?_|refine a1 (hQ _) ?_|simp[Int.natCast_nonneg,vI]|((first|apply dt|apply dx|apply dw)<;>intro h<;>try simp at h))<;>(try exact dQ));all_goals simp[cn,mD,ba,bg,aT]
  rw[br (by simp[a0])]at cH;subst a0;simp at cH;subst cH;refine bI jP nv nJ fun aG=>?_;unfold mM;simp[Tm.kind,Tm.num,Tm.name,Tm.args];(with_reducible repeat' first|refine av ?_|refine aZ (e0 _ _ _) ?_|refine a1 (e0 _ _ _) ?_|refine aZ (hQ _) ?_|refine a1 (hQ _) ?_|simp[Int.natCast_nonneg]);all_goals simp[cn,mD,ba,bg,aT]
 by_cases cD:k=1
 ·subst cD;have iJ:s=[]:=Classical.byContradiction fun h=>cE ⟨Ω,h⟩;subst iJ;by_cases a0:args=[];rotate_left
  ·rw[if_pos ⟨Ω,a0⟩]at cH;have vI:(0:Int)<args.length:=by have:=sJ.2 a0;omega
   subst cH;refine bI jP nv nJ fun aG=>?_;unfold mM;simp[Tm.kind,Tm.num,Tm.name,Tm.args];((with_reducible repeat' first|refine av ?_|refine aZ (e0 _ _ _) ?_|refine a1 (e0 _ _ _) ?_|refine aZ (hQ _) ?_|refine a1 (hQ _) ?_|simp[Int.natCast_nonneg,vI]|((first|apply dt|apply dx|apply dw)<;>intro h<;>try simp at h))<;>(try exact dQ));all_goals simp[cn,mD,ba,bg,aT]
  rw[br (by simp[a0])]at cH;subst a0;simp at cH;subst cH;refine bI jP nv nJ fun aG=>?_;unfold mM;simp[Tm.kind,Tm.num,Tm.name,Tm.args];(with_reducible repeat' first|refine av ?_|refine aZ (e0 _ _ _) ?_|refine a1 (e0 _ _ _) ?_|refine aZ (hQ _) ?_|refine a1 (hQ _) ?_|simp[Int.natCast_nonneg]);all_goals simp[cn,mD,ba,bg,aT]
 by_cases dI:k=2
 ·subst dI;have n0:n=0:=by simpa using CI (by decide)
  subst n0;by_cases a0:args=[];rotate_left
  ·rw[if_pos ⟨Ω,a0⟩]at cH;have vI:(0:Int)<args.length:=by have:=sJ.2 a0;omega
   subst cH;refine bI jP nv nJ fun aG=>?_;unfold mM;simp[Tm.kind,Tm.num,Tm.name,Tm.args];((with_reducible repeat' first|refine av ?_|refine aZ (e0 _ _ _) ?_|refine a1 (e0 _ _ _) ?_|refine aZ (hQ _) ?_|refine a1 (hQ _) ?_|simp[Int.natCast_nonneg,vI]|((first|apply dt|apply dx|apply dw)<;>intro h<;>try simp at h))<;>(try exact dQ));all_goals simp[cn,mD,ba,bg,aT]
  rw[br (by simp[a0])]at cH;subst a0;simp at cH;subst cH;refine bI jP nv nJ fun aG=>?_;unfold mM;simp[Tm.kind,Tm.num,Tm.name,Tm.args];(with_reducible repeat' first|refine av ?_|refine aZ (e0 _ _ _) ?_|refine a1 (e0 _ _ _) ?_|refine aZ (hQ _) ?_|refine a1 (hQ _) ?_|simp[Int.natCast_nonneg]);all_goals simp[cn,mD,ba,bg,aT]
 by_cases hA:k=3
 ·subst hA;have iJ:s=[]:=Classical.byContradiction fun h=>cE ⟨Ω,h⟩;subst iJ;by_cases a0:args=[];rotate_left
  ·rw[if_pos ⟨Ω,a0⟩]at cH;have vI:(0:Int)<args.length:=by have:=sJ.2 a0;omega
   subst cH;refine bI jP nv nJ fun aG=>?_;unfold mM;simp[Tm.kind,Tm.num,Tm.name,Tm.args];((with_reducible repeat' first|refine av ?_|refine aZ (e0 _ _ _) ?_|refine a1 (e0 _ _ _) ?_|refine aZ (hQ _) ?_|refine a1 (hQ _) ?_|simp[Int.natCast_nonneg,vI]|((first|apply dt|apply dx|apply dw)<;>intro h<;>try simp at h))<;>(try exact dQ));all_goals simp[cn,mD,ba,bg,aT]
  rw[br (by simp[a0])]at cH;subst a0;simp at cH;subst cH;refine bI jP nv nJ fun aG=>?_;unfold mM;simp[Tm.kind,Tm.num,Tm.name,Tm.args];(with_reducible repeat' first|refine av ?_|refine aZ (e0 _ _ _) ?_|refine a1 (e0 _ _ _) ?_|refine aZ (hQ _) ?_|refine a1 (hQ _) ?_|simp[Int.natCast_nonneg]);all_goals simp[cn,mD,ba,bg,aT]
 by_cases kz:k=4
 ·subst kz;have n0:n=0:=by simpa using CI (by decide)
  have iJ:s=[]:=Classical.byContradiction fun h=>cE ⟨Ω,h⟩;subst n0 iJ;simp at cH;match args,cH with
  |[a,b],cH=>
   simp[Tm.sz,Tm.szL]at aE;have bL:=aX a Ω;have ah:=aX b Ω;simp only[w2]at cH;subst cH;refine bI jP nv nJ fun aG=>?_;unfold mM;simp[Tm.kind,Tm.num,Tm.name,Tm.args];cases q:shp a with
   |true=>rw[q]at bL;(with_reducible repeat' first|refine av ?_|refine aZ bL ?_|refine a1 bL ?_|refine aZ ah ?_|refine a1 ah ?_|simp[Int.natCast_nonneg]);all_goals simp[cn,mD,ba,bg,aT]
   |false=>rw[q]at bL;(with_reducible repeat' first|refine av ?_|refine aZ bL ?_|refine a1 bL ?_|refine aZ ah ?_|refine a1 ah ?_|simp[Int.natCast_nonneg]);all_goals simp[cn,mD,ba,bg,aT]
  |[],cH=>simp only[w2]at cH;subst cH;refine bI jP nv nJ fun aG=>?_;unfold mM;simp[Tm.kind,Tm.num,Tm.name,Tm.args];(with_reducible repeat' first|refine av ?_|refine aZ (e0 _ _ _) ?_|refine a1 (e0 _ _ _) ?_|refine aZ (hQ _) ?_|refine a1 (hQ _) ?_|simp[Int.natCast_nonneg]);all_goals simp[cn,mD,ba,bg,aT]
  |[_],cH=>simp only[w2]at cH;subst cH;refine bI jP nv nJ fun aG=>?_;unfold mM;simp[Tm.kind,Tm.num,Tm.name,Tm.args];(with_reducible repeat' first|refine av ?_|refine aZ (e0 _ _ _) ?_|refine a1 (e0 _ _ _) ?_|refine aZ (hQ _) ?_|refine a1 (hQ _) ?_|simp[Int.natCast_nonneg]);all_goals simp[cn,mD,ba,bg,aT]
  |_::_::_::l,cH=>
   simp only[w2]at cH;have aD:((l.length:Int)+1+1+1==2)=false:=by simp;omega
   subst cH;refine bI jP nv nJ fun aG=>?_;unfold mM;simp[Tm.kind,Tm.num,Tm.name,Tm.args];(with_reducible repeat' first|refine av ?_|refine aZ (e0 _ _ _) ?_|refine a1 (e0 _ _ _) ?_|refine aZ (hQ _) ?_|refine a1 (hQ _) ?_|simp[aD]);all_goals simp[cn,mD,ba,bg,aT]
 have n0:(n !=0)=false:=CI (by simp[cD,hA]);have iJ:s=[]:=Classical.byContradiction fun h=>cE ⟨dI,h⟩;subst iJ;have T0:(k==0)=false:=by simp[eN]
 have Bn:(k==1)=false:=by simp[cD]
 have G3:(k==2)=false:=by simp[dI]
 have Bo:(k==3)=false:=by simp[hA]
 have T4:(k==4)=false:=by simp[kz]
 have T1:(k !=1)=true:=by simp[cD]
 have T2:(k !=2)=true:=by simp[dI]
 have T3:(k !=3)=true:=by simp[hA]
 have T5:(k !=4)=true:=by simp[kz]
 by_cases a0:args=[]
 ·subst a0;simp[eN,cD,dI,hA,kz]at cH;subst cH;refine bI jP nv nJ fun aG=>?_;unfold mM;simp[Tm.kind,Tm.num,Tm.name,Tm.args];(with_reducible repeat' first|refine av ?_|refine aZ (e0 _ _ _) ?_|refine a1 (e0 _ _ _) ?_|refine aZ (hQ _) ?_|refine a1 (hQ _) ?_|simp[T0,Bn,G3,Bo,T4,T1,T2,T3,T5,n0]);all_goals simp[cn,mD,ba,bg,aT]
 ·rw[if_pos ⟨kz,a0⟩]at cH;have vI:(0:Int)<args.length:=by have:=sJ.2 a0;omega
  subst cH;refine bI jP nv nJ fun aG=>?_;unfold mM;simp[Tm.kind,Tm.num,Tm.name,Tm.args];((with_reducible repeat' first|refine av ?_|refine aZ (e0 _ _ _) ?_|refine a1 (e0 _ _ _) ?_|refine aZ (hQ _) ?_|refine a1 (hQ _) ?_|simp[vI,T0,Bn,G3,Bo,T4,T1,T2,T3,T5,n0]|((first|apply dt|apply dx|apply dw)<;>intro h<;>try simp at h))<;>(try exact dQ));all_goals simp[cn,mD,ba,bg,aT]
theorem ak5(t:Tm):bW aF 271 [enc t] (.bool t.fits):=by
 rw[acr];have aH:=akI t 5000 Ω Ω;have az:=N8 t.sz t (cc _);refine bI jP ab8 ahL fun aG=>?_;unfold P2;simp;by_cases q:mN t 5000<=5000
 ·exact bY
 ·exact bY
def P9:C:=(ag [hv 2 dd] (ag [aa 3 0,lJ 4 dd [(0,1,(de 2)),(2,1,(.t 3))],bF 4 2 4] .ret))
@[simp] def Wh:List ca:=[.cell 2 true 4]
def XK:List (Nat×dh):=[
 (3,⟨1,8,.int .i64,.int .i64 0⟩),
 (5,⟨1,1,.int .u8,.int .u8 0⟩),
 (9,⟨1,16,.str,.str []⟩),
 (35,⟨1,24,.slice 5,.slice 1 .nil []⟩),
 (38,⟨1,24,.slice 40,.slice 4 .nil []⟩),
 (40,⟨4,56,.struct [(0,3),(1,3),(2,9),(3,38)],.agg [.int .i64 0,.int .i64 0,.str [],.slice 4 .nil []]⟩),
 (70,⟨1,24,.slice 9,.slice 1 .nil []⟩),
 (208,⟨3,40,.struct [(0,35),(1,3),(2,3)],.agg [.slice 1 .nil [],.int .i64 0,.int .i64 0]⟩)]
theorem akn:eW aF XK=true:=by kernel_rfl
theorem ahS:cJ XK P9 Wh 1 Tryz.f195=true:=by kernel_rfl
theorem acg:aF.funcs[(195:Nat)]? =some Tryz.f195:=Tryz.func195
end
section
open Go Go.Pv
def YO(k:IntKind)(a b:Int):Int:=k.wrap (BitVec.ofInt k.bits a&&& BitVec.ofInt k.bits b).toNat
def alo(k:IntKind)(a b:Int):Int:=k.wrap (BitVec.ofInt k.bits a ^^^ BitVec.ofInt k.bits b).toNat
def ajH(k:IntKind)(a b:Int):Int:=a.fdiv (2 ^ (min b.toNat k.bits))
section
variable (a b:Int)
@[simp]theorem al8:mg .add true (.int .i64 a) (.int .i64 b)=some (True,.int .i64 (lL.wrap (a+b))):=rfl
@[simp]theorem amf:mg .mul true (.int .i64 a) (.int .i64 b)=some (True,.int .i64 (lL.wrap (a*b))):=rfl
@[simp]theorem amh:mg .quo false (.int .i64 a) (.int .i64 b)=some (b≠0,.int .i64 (lL.wrap (a.tdiv b))):=rfl
@[simp]theorem ami:mg .rem false (.int .i64 a) (.int .i64 b)=some (b≠0,.int .i64 (a.tmod b)):=rfl
@[simp]theorem ama:mg .eql false (.int .i64 a) (.int .i64 b)=some (True,.bool (a==b)):=rfl
@[simp]theorem amg:mg .neq false (.int .i64 a) (.int .i64 b)=some (True,.bool (a !=b)):=rfl
@[simp]theorem ame:mg .lss false (.int .i64 a) (.int .i64 b)=some (True,.bool (decide (a<b))):=rfl
@[simp]theorem amd:mg .leq false (.int .i64 a) (.int .i64 b)=some (True,.bool (decide (a<=b))):=rfl
@[simp]theorem amc:mg .gtr false (.int .i64 a) (.int .i64 b)=some (True,.bool (decide (b<a))):=rfl
@[simp]theorem amb:mg .geq false (.int .i64 a) (.int .i64 b)=some (True,.bool (decide (b<=a))):=rfl
@[simp]theorem al9:mg .and false (.int .i64 a) (.int .i64 b)=some (True,.int .i64 (YO .i64 a b)):=rfl
@[simp]theorem amk:mg .xor false (.int .i64 a) (.int .i64 b)=some (True,.int .i64 (alo .i64 a b)):=rfl
@[simp]theorem amj(k:IntKind):mg .shr false (.int .i64 a) (.int k b)=some (0<=b,.int .i64 (ajH .i64 a b)):=rfl
end
end
section
open Go Go.Pv
theorem akL(s:List aj):bW aF 195 [.str s] (T.sym s).e:=by refine bI akn acg ahS fun aG=>?_;unfold P9;simp[-Bm,-mg];simp[-Bm,-mg,cn,Wh,ba,bg,aT]
def IN(o:aW T):ae:= .tuple [(o.getD .nil).e,.bool o.isSome]
theorem ak8(n:Int):bW aF 270 [(T.var n).e] (.bool (decide (0<=n/\n<=100000))):=by
 have h:=N8 1 (Tm.mk 1 n [] []) (by simp[Tm.sz,Tm.szL]);have e:shp (Tm.mk 1 n [] [])=decide (0<=n/\n<=100000):=by have:=B6 (.var n);simpa[T.tm,T.ok]using this
 rw[e]at h;exact h
theorem ak7(n:Int):bW aF 270 [(T.num n).e] (.bool (T.ok (.num n))):=by have h:=N8 1 (Tm.mk 3 n [] []) (by simp[Tm.sz,Tm.szL]);have e:shp (Tm.mk 3 n [] [])=T.ok (.num n):=B6 (.num n);rw[e]at h;exact h
theorem YX(r:List aj):im (63::r)=match gH r with|some n=>if 0<=n/\n<=100000 then some (.var n)else none|none=>none:=by
 unfold im eG;simp only;cases gH r with
 |none=>rfl
 |some n=>
  simp only;by_cases h:0<=n/\n<=100000
  ·rw[if_pos h];simp only;rw[if_pos (by simp[T.ok,h])]
  ·rw[br h]
theorem YW{w:List aj}(h:∀r,w≠63::r):im w=if gb w then some (.sym w)else match gH w with|some n=>if T.ok (.num n)then some (.num n)else none|none=>none:=by
 unfold im;have:eG w=if gb w then some (.sym w)else(gH w).map .num:=by
  unfold eG;split
  ·rename_i r;exact absurd rfl (h r)
  ·rfl
 rw[this];by_cases aM:gb w=true
 ·rw[if_pos aM,if_pos aM];simp[T.ok,aM]
 ·rw[br aM,br aM];cases gH w with
  |none=>rfl
  |some n=>rfl
theorem agB{r:List aj}:gb (63::r)=false:=by
 cases h:gb (63::r)with
 |false=>rfl
 |true=>obtain⟨x,cZ,e,I,_⟩:=BC h;cases e;revert I;decide
theorem akN(w:List aj)(hw:w≠[]):bW aF 251 [.str w] (IN (im w)):=by
 have c1:=hQ w;have tK:=akL w;unfold IN;obtain⟨c,r,rfl⟩:∃c r,w=c::r:=by
  cases w with
  |nil=>exact absurd rfl hw
  |cons c r=>exact⟨c,r,rfl⟩
 have zv:(0:Int)<(r.length:Int)+1:=Ω
 have xY:(1:Int)<=(r.length:Int)+1:=Ω
 by_cases A2:c=63
 ·subst A2;rw[agB]at c1;have cA:=Oa r;rw[YX];unfold BL at cA;cases aV:gH r with
  |none=>rw[aV]at cA;simp only[Option.getD_none,uu]at cA⊢;clear tK;refine bI h8 y8 zM fun aG=>?_;unfold xp;clear aG;exact bY
  |some n=>
   rw[aV]at cA;have jJ:=ak8 n;by_cases aM:0<=n/\n<=100000
   ·rw[oX aM]at jJ;simp only[if_pos aM,qD,Option.isSome_some]at cA⊢;clear tK aM;refine bI h8 y8 zM fun aG=>?_;unfold xp;clear aG;exact bY
   ·rw[decide_eq_false aM]at jJ;simp only[br aM,qD,Option.isSome_some,Option.getD_none,uu]at cA⊢;clear tK aM;refine bI h8 y8 zM fun aG=>?_;unfold xp;clear aG;exact bY
 ·have ah:((c.toNat:Int)==63)=false:=qw (d:=63) A2;rw[YW fun cZ e=>A2 (by cases e;rfl)];cases fV:gb (c::r)
  ·rw[fV]at c1;have cA:=Oa (c::r);unfold BL at cA;rw[br Ψ];cases aV:gH (c::r)with
   |none=>rw[aV]at cA;simp only[Option.getD_none,uu]at cA⊢;clear tK;refine bI h8 y8 zM fun aG=>?_;unfold xp;clear aG;exact bY
   |some n=>
    rw[aV]at cA;have jJ:=ak7 n;cases aq:T.ok (.num n)
    ·rw[aq]at jJ;simp only[aq,kG,if_false,qD,Option.isSome_some,Option.getD_none,uu]at cA⊢;clear tK;refine bI h8 y8 zM fun aG=>?_;unfold xp;clear aG;exact bY
    ·rw[aq]at jJ;simp only[aq,if_true,qD,Option.isSome_some]at cA⊢;clear tK;refine bI h8 y8 zM fun aG=>?_;unfold xp;clear aG;exact bY
  ·rw[fV]at c1;rw[if_pos rfl];simp only[qD,Option.isSome_some];refine bI h8 y8 zM fun aG=>?_;unfold xp;clear aG;exact bY
def Cz(l:List T)(j:Int)(t:T):aU:=⟨[(0,.slice 4 .no (l.map T.e)),(3,.ptr (.loc 0) 0),(4,.ptr (.loc 1) 0),(5,.int .i64 j)],[(.loc 0,cells t.e),(.loc 1,[.int .i64 0,.int .i64 0,.str [],.slice 4 .nil []])],[],2,[]⟩
theorem X0(l:List T)(t:T):bW aF 252 [.slice 4 .no (l.map T.e),t.e] (fD l t).e:=by
 refine bI h8 ace ahQ fun aG=>?_;unfold P7;have ah:l.length<=aR:=by simp[gr,gz,gu]at aG;exact aG.1
 have uV:aY ((l.length:Int)-1):=by unfold aY;unfold aR at ah;omega
 clear aG;simp;(with_reducible repeat' first|refine av ?_|simp[uV]);refine hR (fun x:Int×T=>Cz l x.1 x.2) (fun x=>(x.1+1).toNat) (fun x=> -1<=x.1/\x.1<l.length/\fD (l.take (x.1+1).toNat) x.2=fD l t) ((l.length:Int)-1,t) (by simp[Cz];exact cW) ⟨by simp;omega,by simp;omega,Ψ⟩ ?_;rintro⟨j,u⟩ ⟨SQ,lV,ig⟩ _;simp only at SQ lV ig;by_cases je:0<=j
 ·obtain⟨n,rfl⟩:∃n:Nat,j=n:=⟨j.toNat,Ω⟩;have aM:n<l.length:=Ω
  obtain⟨x,af,db⟩:=fQ aM;have lW:aY ((n:Int)-1):=by unfold aY;unfold aR at ah;omega
  have cA:=akK x u;have eU: -1<=(n:Int)-1/\(n:Int)-1<l.length/\fD (l.take ((n:Int)-1+1).toNat) (.pair x u)=fD l t:=by refine⟨Ω,Ω,?_⟩;rw[<-ig,show((n:Int)-1+1).toNat=n by omega,show((n:Int)+1).toNat=n+1 by omega,k3,af,Uy];rfl
  clear ig;simp[Cz];(with_reducible repeat' first|refine av ?_|refine aZ cA ?_|refine a1 cA ?_|simp[aM,db,af,lW]);refine b1.whl ((n:Int)-1,.pair x u) (by simp<;>omega) eU (by simp[Cz];exact cW)
 ·have:j= -1:=Ω
  subst this;have e:u=fD l t:=by simpa[fD]using ig
  subst e;clear ig;simp[Cz];exact bY
theorem HY{l rest:List (List aj)}{j:Nat}(h:rest<:+l.drop j):rest=l.drop (l.length-rest.length)/\rest.length<=l.length-j:=by
 have I:rest<:+l:=h.trans (List.drop_suffix j l);have J:l.drop (l.length-rest.length)=rest:=by obtain⟨p,rfl⟩:=I;simp
 exact⟨J.symm,by have:=h.length_le;simpa using this⟩
def rb(l:List (List aj))(i:Nat):Int:=match l[i]? with
 |some w=>if w=[40]\/w=[41]\/w=[46]then 0 else i+1
 |none=>0
def kV(l:List (List aj))(k:Int)(o:aW (T×List (List aj))):ae:=match o with
 |some (t,r)=>.tuple [t.e,.int .i64 (l.length-r.length:Nat),.bool true]
 |none=>.tuple [T.nil.e,.int .i64 k,.bool false]
def rF(l:List (List aj))(x:List T×Nat×Nat):aU:=⟨[(0,.slice 1 .no (b6 l)),(1,.int .i64 x.2.1),(4,.ptr (.loc 0) 0),(9,.slice 4 (.own (.loc 1)) (x.1.map T.e))],[(.loc 0,[.int .i64 0,.int .i64 0,.str [],.slice 4 .nil []])],[(.loc 1,⟨x.1.length,40,4,none⟩)],2,[]⟩
theorem wM{a b:List aj}(h:a≠b):(a==b)=false:=by simpa using h
theorem r5{a b:List aj}(h:a≠b):(a !=b)=true:=by simpa using h
set_option maxRecDepth 8000 in
theorem akP(l:List (List aj))(aD:l.length<=100000)(hw:∀w∈l,w≠[]):∀n i:Nat,i<=l.length->2*(l.length-i)+1<=n->bW aF 209 [.slice 1 .no (b6 l),.int .i64 i] (kV l (rb l i) (rd im n (l.drop i))):=by
 intro n;induction n using Nat.strongRecOn with
 |_ n aX=>
 intro i hH aM;obtain⟨n,rfl⟩:∃m,n=m+1:=⟨n-1,Ω⟩;rcases jS hH with rfl|aw
 ·have e:kV l (rb l l.length) (rd im (n+1) (l.drop l.length))= .tuple [T.nil.e,.int .i64 0,.bool false]:=by rw[jR];simp[rd,kV,rb]
  rw[e];clear aX;refine bI h8 AT BK fun aG=>?_;unfold y0;clear aG;exact bY
 obtain⟨w,af⟩:∃v,l[i]? =some v:=⟨_,cL aw⟩;have fh:∀h,((b6 l)[i]'h)= .str w:=fun h=>by rw[l8 aw];rw[cL aw]at af;rw[gB af]
 have qd:=hw w (e1 af);have je:¬(l.length:Int)<=i:=Ω
 rw[fM af];by_cases fa:w=[41]
 ·subst fa;have e:kV l (rb l i) (rd im (n+1) ([41]::l.drop (i+1)))= .tuple [T.nil.e,.int .i64 0,.bool false]:=by simp[rd,kV,rb,af]
  rw[e];clear aX;refine bI h8 AT BK fun aG=>?_;unfold y0;clear aG;exact bY
 by_cases mO:w=[46]
 ·subst mO;have e:kV l (rb l i) (rd im (n+1) ([46]::l.drop (i+1)))= .tuple [T.nil.e,.int .i64 0,.bool false]:=by simp[rd,kV,rb,af]
  rw[e];clear aX;refine bI h8 AT BK fun aG=>?_;unfold y0;clear aG;exact bY
 have r4:=wM fa;have Hk:=wM mO;have bZ:aY ((i:Int)+1):=by unfold aY;omega
 by_cases pk:w=[40];rotate_left
 ·have tR:=r5 pk;have fS:=akN w qd;have ao:rb l i=(i:Int)+1:=by unfold rb;rw[af];simp[pk,fa,mO]
  have aL:rd im (n+1) (w::l.drop (i+1))=(im w).map fun t=>(t,l.drop (i+1)):=by simp[rd,pk,fa,mO]
  rw[ao,aL];unfold IN at fS;cases bL:im w with
  |none=>rw[bL]at fS;simp only[vC,kV,Option.getD_none,uu]at fS⊢;clear aX;refine bI h8 AT BK fun aG=>?_;unfold y0;clear aG;simp;((with_reducible repeat' first|refine av ?_|refine aZ fS ?_|refine a1 fS ?_|simp[je,aw,fh,af,tR,r4,Hk,bZ]|((first|apply dt|apply dx|apply dw)<;>intro h<;>try simp at h))<;>(try exact dQ));all_goals simp[cn,ym,ba,bg,aT]
  |some t=>
   rw[bL]at fS;have aV:((l.length-(l.drop (i+1)).length:Nat):Int)=(i:Int)+1:=by rw[hX];omega
   simp only[lM,kV,qD,Option.isSome_some,aV]at fS⊢;clear aX aV;refine bI h8 AT BK fun aG=>?_;unfold y0;clear aG;simp;((with_reducible repeat' first|refine av ?_|refine aZ fS ?_|refine a1 fS ?_|simp[je,aw,fh,af,tR,r4,Hk,bZ]|((first|apply dt|apply dx|apply dw)<;>intro h<;>try simp at h))<;>(try exact dQ));all_goals simp[cn,ym,ba,bg,aT]
 subst pk;have ao:rb l i=0:=by unfold rb;rw[af];simp
 have aL:rd im (n+1) ([40]::l.drop (i+1))=bM im n (l.drop (i+1)) []:=by simp[rd]
 rw[ao,aL];obtain⟨R,bt⟩:∃R,R=kV l 0 (bM im n (l.drop (i+1)) []):=⟨_,rfl⟩;rw[<-bt];have qU:kin (fun _=>dr) R:=by rw[bt];unfold kV;split<;>simp[kin,kinL]
 refine bI h8 AT BK (fun aG=>?_) (hr:=qU);unfold y0;clear aG;simp;((with_reducible repeat' first|refine av ?_|simp[je,aw,fh,af,r4,Hk,bZ]|((first|apply dt|apply dx|apply dw)<;>intro h<;>try simp at h))<;>(try exact dQ));refine hR (rF l) (fun x=>l.length-x.2.1) (fun x=>x.2.1<=l.length/\2*(l.length-x.2.1)+2<=x.2.2/\x.2.2<=n/\kV l 0 (bM im x.2.2 (l.drop x.2.1) x.1)=R/\x.1.length<=x.2.1) ([],i+1,n) (by simp[rF];exact cW) ⟨aw,by simp;omega,cc _,bt.symm,Ψ⟩ ?_;rintro⟨acc,j,k⟩ ⟨ai,ab,k8,eg,iF⟩ _;simp only at ai ab k8 eg iF;clear bt bZ fh af qd je r4 Hk ao aL fa mO;obtain⟨k,rfl⟩:∃m,k=m+1:=⟨k-1,Ω⟩;rcases jS ai with rfl|fU
 ·rw[jR]at eg;simp only[bM,kV]at eg;subst eg;clear aX;simp[rF];((with_reducible repeat' first|refine av ?_|simp|((first|apply dt|apply dx|apply dw)<;>intro h<;>try simp at h))<;>(try exact dQ));all_goals simp[cn,ym,ba,bg,aT]
 obtain⟨v,aN⟩:∃v,l[j]? =some v:=⟨_,cL fU⟩;have gF:∀h,((b6 l)[j]'h)= .str v:=fun h=>by rw[l8 fU];rw[cL fU]at aN;rw[gB aN]
 have hy:aY ((j:Int)+1):=by unfold aY;omega
 have Du:¬(l.length:Int)<=j:=Ω
 rw[fM aN]at eg;by_cases fa:v=[41]
 ·subst fa;have aV:((l.length-(l.drop (j+1)).length:Nat):Int)=(j:Int)+1:=by rw[hX];omega
  have he:bM im (k+1) ([41]::l.drop (j+1)) acc=some (fD acc .nil,l.drop (j+1)):=by simp[bM]
  rw[he]at eg;simp only[kV,aV]at eg;subst eg;have Br:=X0 acc .nil;clear aX;simp[rF];exact bY
 have r4:=wM fa;have oc:=r5 fa;by_cases mO:v=[46]
 ·subst mO;have dD:=aX k Ω (j+1) Ω Ω;have Kn:((j+1:Nat):Int)=(j:Int)+1:=Ω
  rw[Kn]at dD;cases du:rd im k (l.drop (j+1))with
  |none=>
   rw[du]at dD;have he:bM im (k+1) ([46]::l.drop (j+1)) acc=none:=by simp[bM,du]
   rw[he]at eg;simp only[kV]at eg dD;subst eg;clear aX;simp[rF];exact bY
  |some tr=>
   obtain⟨t,rest⟩:=tr;rw[du]at dD;obtain⟨gn,oO⟩:=HY (re k _ _ _ du).1;obtain⟨p,aV⟩:∃p,p=l.length-rest.length:=⟨_,rfl⟩;have eM:p<=l.length:=Ω
   simp only[kV,<-aV]at dD;rw[<-aV]at gn;by_cases A6:acc=[]
   ·have he:bM im (k+1) ([46]::l.drop (j+1)) acc=none:=by simp[bM,A6]
    rw[he]at eg;simp only[kV]at eg;subst eg;subst A6;clear aX;simp[rF];((with_reducible repeat' first|refine av ?_|refine aZ dD ?_|refine a1 dD ?_|simp[fU,gF,aN,Du,hy,oc]|((first|apply dt|apply dx|apply dw)<;>intro h<;>try simp at h))<;>(try exact dQ));all_goals simp[cn,ym,ba,bg,aT]
   have Su:((acc.length:Int)==0)=false:=jj.2 (by have:=sJ.2 A6;omega);rcases jS eM with hpe|eM
   ·have he:bM im (k+1) ([46]::l.drop (j+1)) acc=none:=by
     have:rest=[]:=by rw[gn,hpe,jR]
     simp[bM,du,A6,this]
    rw[he]at eg;simp only[kV]at eg;subst eg;rw[hpe]at dD;clear aX;simp[rF];exact bY
   obtain⟨u,hu⟩:∃v,l[p]? =some v:=⟨_,cL eM⟩;have kR:∀h,((b6 l)[p]'h)= .str u:=fun h=>by rw[l8 eM];rw[cL eM]at hu;rw[gB hu]
   have Tb:¬(l.length:Int)<=p:=Ω
   have S9:aY ((p:Int)+1):=by unfold aY;omega
   rw[fM hu]at gn;by_cases Lb:u=[41]
   ·subst Lb;have KS:((l.length-(l.drop (p+1)).length:Nat):Int)=(p:Int)+1:=by rw[hX];omega
    have he:bM im (k+1) ([46]::l.drop (j+1)) acc=some (fD acc t,l.drop (p+1)):=by simp[bM,du,A6,gn]
    rw[he]at eg;simp only[kV,KS]at eg;subst eg;have Br:=X0 acc t;clear aX;simp[rF];((with_reducible repeat' first|refine av ?_|refine aZ dD ?_|refine a1 dD ?_|refine aZ Br ?_|refine a1 Br ?_|simp[fU,gF,aN,Du,hy,oc,Su,eM,kR,hu,Tb,S9]|((first|apply dt|apply dx|apply dw)<;>intro h<;>try simp at h))<;>(try exact dQ));all_goals simp[cn,ym,ba,bg,aT]
   ·have agy:=r5 Lb;have he:bM im (k+1) ([46]::l.drop (j+1)) acc=none:=by simp[bM,du,A6,gn,Lb]
    rw[he]at eg;simp only[kV]at eg;subst eg;clear aX;simp[rF];((with_reducible repeat' first|refine av ?_|refine aZ dD ?_|refine a1 dD ?_|simp[fU,gF,aN,Du,hy,oc,Su,eM,kR,hu,Tb,S9,agy]|((first|apply dt|apply dx|apply dw)<;>intro h<;>try simp at h))<;>(try exact dQ));all_goals simp[cn,ym,ba,bg,aT]
 have UB:=r5 mO;have dD:=aX k Ω j Ω Ω;rw[fM aN]at dD;have he:bM im (k+1) (v::l.drop (j+1)) acc=match rd im k (v::l.drop (j+1))with
   |some (t,cZ)=>bM im k cZ (acc++[t])
   |none=>none:=by
  conv=>lhs;unfold bM
  rw[br fa,br mO];cases rd im k (v::l.drop (j+1))<;>rfl
 rw[he]at eg;cases du:rd im k (v::l.drop (j+1))with
 |none=>rw[du]at dD eg;simp only[kV]at eg dD;subst eg;clear aX he;generalize rb l j=q at dD;simp[rF];((with_reducible repeat' first|refine av ?_|refine aZ dD ?_|refine a1 dD ?_|simp[fU,gF,aN,Du,oc,UB]|((first|apply dt|apply dx|apply dw)<;>intro h<;>try simp at h))<;>(try exact dQ));all_goals simp[cn,ym,ba,bg,aT]
 |some tr=>
  obtain⟨t,rest⟩:=tr;rw[du]at dD eg;obtain⟨gn,oO⟩:=HY (j:=j) (by rw[fM aN];exact(re k _ _ _ du).1);have DN:=(re k _ _ _ du).2;have Tg:rest.length<l.length-j:=by simp at DN;omega
  obtain⟨p,aV⟩:∃p,p=l.length-rest.length:=⟨_,rfl⟩;simp only[kV,<-aV]at dD;simp only at eg;rw[<-aV]at gn;rw[gn]at eg;have iG:acc.length+1<=aR:=by unfold aR;omega
  clear aX he;simp[rF];((with_reducible repeat' first|refine av ?_|refine aZ dD ?_|refine a1 dD ?_|simp[fU,gF,aN,Du,oc,UB,iG]|((first|apply dt|apply dx|apply dw)<;>intro h<;>try simp at h))<;>(try exact dQ));refine b1.whl (acc++[t],p,k) (by show l.length-p<l.length-j;omega) ⟨by show p<=l.length;omega,by show 2*(l.length-p)+2<=k;omega,by show k<=n;omega,eg,by simp;omega⟩ (by simp[rF];exact⟨by simp[fresh,kinL,kin,bu,ak,Pv.look,cv],cG (by simp[fresh,kinL,kin,bu,ak,Pv.look,cv]),cI (by simp[fresh,kinL,kin,cw,ak,Pv.look,cv]),Ψ⟩)
theorem Oc(l:List Tm):bW aF 253 [.slice 4 .no (l.map enc)] (.bool (l.all Tm.fits)):=by
 generalize bt:l.all Tm.fits=R;refine bI jx aca ahN fun aG=>?_;unfold P4;have e5:l.length<=68719476736:=by simp[gr,gz,gu,aR]at aG;omega
 clear aG;simp;refine fA (fun i (_:Unit)=>⟨[(5,.slice 4 .no (l.map enc)),(6,.int .i64 l.length),(7,.int .i64 i)],[],[],0,[]⟩) l.length (pB Tm.fits l) () cW (fun k b ab=>Ω) (fun _ ai _=>?_) (fun i _ aw ai _=>?_)
 ·have:R=true:=by rw[<-bt];exact ai.fin
  subst this;clear ai bt;exact bY
 ·obtain⟨t,aE,afa⟩:=fQ aw;have cN:=ak5 t;cases g:t.fits
  ·rw[g]at cN;have:R=false:=by rw[<-bt];exact yQ aE g
   subst this;clear aE ai bt;exact bY
  ·rw[g]at cN;have aM:=ai.step aE g;clear aE ai bt;exact tZ
mutual
def mh:Gm->Int->Int
 | .mk _ _ _ gs,m=>o9 gs 1 m
def o9:List Gm->Int->Int->Int
 |[],n,_=>n
 |x::xs,n,m=>if m<n then n else o9 xs (n+mh x (m-n)) m
end
mutual
theorem Jz:∀(t:Gm) (m:Int),0<=m->1<=mh t m/\mh t m<=m+1
 | .mk _ _ _ gs,m,h=>by simp only[mh];exact Qw gs 1 m h Ω Ω
theorem Qw:∀(l:List Gm) (n m:Int),0<=m->1<=n->n<=m+1->1<=o9 l n m/\o9 l n m<=m+1
 |[],n,m,_,I,J=>by simp only[o9];exact⟨I,J⟩
 |x::xs,n,m,bz,I,J=>by
  simp only[o9];split
  ·exact⟨I,J⟩
  ·have:=Jz x (m-n) Ω;exact Qw xs _ m bz Ω Ω
end
mutual
theorem JA:∀(t:Gm) (m:Int),0<=m->(mh t m<=m↔(t.sz:Int)<=m)/\((t.sz:Int)<=m->mh t m=t.sz)
 | .mk _ _ _ gs,m,h=>by have:=Qx gs 1 m h Ω;simp only[mh,Gm.sz];exact⟨this.1.trans Ω,fun h=>by rw[this.2 Ω];omega⟩
theorem Qx:∀(l:List Gm) (n m:Int),0<=m->1<=n->(o9 l n m<=m↔n+(p2 l:Int)<=m)/\(n+(p2 l:Int)<=m->o9 l n m=n+p2 l)
 |[],n,m,_,I=>by simp[o9,p2]
 |x::xs,n,m,bz,I=>by
  simp only[o9,p2];have aV:=x.sz_pos;by_cases hm:m<n
  ·rw[if_pos hm];exact⟨Ω,fun h=>Ω⟩
  ·rw[br hm];obtain⟨bH,a2⟩:=JA x (m-n) Ω;have a3:=Jz x (m-n) Ω;obtain⟨cq,cE⟩:=Qx xs (n+mh x (m-n)) m bz Ω;by_cases af:(x.sz:Int)<=m-n
   ·rw[a2 af]at cq cE⊢;exact⟨cq.trans Ω,fun h=>by rw[cE Ω];omega⟩
   ·have:¬mh x (m-n)<=m-n:=fun h=>af (bH.1 h);exact⟨cq.trans ⟨fun h=>Ω,fun h=>Ω⟩,fun h=>Ω⟩
end
theorem ZX(g:Gm)(m:Int):mh g m=o9 g.gs 1 m:=by cases g;rfl
theorem X2:∀(k:Nat) (t:Gm),t.sz<=k->∀m:Int,0<=m->m<=1000000->bW aF 210 [t.e,.int .i64 m] (.int .i64 (mh t m)):=by
 intro k;induction k with
 |zero=>intro t aE;have:=t.sz_pos;omega
 |succ k aX=>
  intro t aE m bz I;refine bI jx ach ahT fun aG=>?_;unfold Qa;have e5:t.gs.length<=68719476736:=by rw[Gm.e_eq]at aG;simp[gr,gz,gu,aR]at aG;omega
  clear aG;simp;refine fA (fun i (n:Int)=>⟨[(1,.int .i64 m),(5,.int .i64 n),(9,.slice 4 .no (t.gs.map Gm.e)),(10,.int .i64 t.gs.length),(11,.int .i64 i)],[],[],0,[]⟩) t.gs.length (fun i n=>(1<=n/\n<=m+1)/\o9 (t.gs.drop i) n m=mh t m) 1 (by simp;exact cW) ⟨Ω,by simp[ZX]⟩ (fun n ai _=>?_) (fun i n aw ai _=>?_)
  ·have he:n=mh t m:=by have:=ai.2;simp[o9]at this;exact this
   subst he;clear ai;exact bY
  ·obtain⟨⟨mT,qa⟩,ai⟩:=ai;obtain⟨x,af,db⟩:=fQ aw;have aI:t.gs.drop i=x::t.gs.drop (i+1):=by rw[pR aw,db]
   have dz:x.sz<=k:=by have:=t.gs_lt (e1 af);omega
   have bZ:aY ((i:Int)+1):=by unfold aY;omega
   rw[aI]at ai;simp only[o9]at ai;by_cases ah:m<n
   ·rw[if_pos ah]at ai;subst ai;clear aX;exact bY
   ·rw[br ah]at ai;have aH:=Jz x (m-n) Ω;have eY:=aX x dz (m-n) Ω Ω;have eX:aY (m-n):=by unfold aY;omega
    have ani:aY (n+mh x (m-n)):=by unfold aY;omega
    have jk:(1<=n+mh x (m-n)/\n+mh x (m-n)<=m+1)/\o9 (t.gs.drop (i+1)) (n+mh x (m-n)) m=mh t m:=⟨Ω,ai⟩;clear aX;have tM:=eY;exact tZ
def xj(x:List aj×T):aU:=⟨[(1,.ptr (.loc 0) 0),(3,.str x.1)],[(.loc 0,cells x.2.e)],[],1,[]⟩
theorem akO:∀(n:Nat) (t:T),t.size<=n->t.ok=true->(cM t).length<=aR->bW aF 132 [t.e] (.str (cM t)):=by
 intro n;induction n with
 |zero=>intro t aE;cases t<;>simp[T.size]at aE
 |succ n aX=>
 intro t aE dM e5;cases t with
 |nil=>refine bI jx C2 En fun aG=>?_;unfold Az;clear aG;simp;(with_reducible repeat' first|refine av ?_|simp);simp[cn,MU,ba,bg,aT];rfl
 |var m=>
  have hr:0<=m/\m<=100000:=by simpa[T.ok]using dM
  have eO:=vx m (by unfold aY;omega);have aD:=e5;simp only[cM,gg]at aD⊢;have fJ:1+(Lib.itoa m).length<=aR:=Ω
  refine bI jx C2 En fun aG=>?_;unfold Az;clear aG;exact bY
 |sym s=>refine bI jx C2 En fun aG=>?_;unfold Az;clear aG;simp;(with_reducible repeat' first|refine av ?_|simp);simp[cn,MU,ba,bg,aT];rfl
 |num m=>
  have hr: -1000000000<=m/\m<=1000000000:=by simpa[T.ok]using dM
  have eO:=vx m (by unfold aY;omega);simp only[cM];refine bI jx C2 En fun aG=>?_;unfold Az;clear aG;exact bY
 |pair a b=>
  simp only[T.size]at aE;have tx:a.ok=true/\b.ok=true:=by simpa[T.ok]using dM
  have he:cM (.pair a b)=(40::cM a)++fB b:=by simp[cM]
  generalize hw:cM (.pair a b)=W at e5 he⊢;have A5:(40::cM a).length<=aR:=by rw[he]at e5;simp only[gx]at e5;omega
  have tL:=aX a Ω tx.1 (by simp at A5;omega);simp only[gg]at A5;have St:1+(cM a).length<=aR:=Ω
  refine bI jx C2 En fun aG=>?_;unfold Az;clear aG;simp;(with_reducible repeat' first|refine av ?_|refine aZ tL ?_|refine a1 tL ?_|simp[A5,St]);refine hR xj (fun x=>x.2.size) (fun x=>x.1++fB x.2=W/\x.2.size<=n/\x.2.ok=true) (40::cM a,b) (by simp[xj];exact cW) ⟨by simpa using he.symm,by simp;omega,tx.2⟩ ?_;rintro⟨s,u⟩ ⟨I,J,au⟩ _;simp only at I J au;have jY:s.length+(fB u).length<=aR:=by rw[<-I]at e5;simpa using e5
  subst I;clear hw he tL A5 St;cases u with
  |pair x y=>
   simp only[T.size]at J;have S7:x.ok=true/\y.ok=true:=by simpa[T.ok]using au
   simp only[fB,gg,gx]at jY;have eY:=aX x Ω S7.1 Ω;have fJ:s.length+1<=aR:=Ω
   have fe:s.length+1+(cM x).length<=aR:=Ω
   have pw:s.length+(1+(cM x).length)<=aR:=Ω
   have qX:s.length+((cM x).length+1)<=aR:=Ω
   simp[xj];(with_reducible repeat' first|refine av ?_|refine aZ eY ?_|refine a1 eY ?_|simp[fJ,fe,pw,qX]);refine b1.whl (s++32::cM x,y) (by simp[T.size];omega) ⟨by simp[fB],by simp;omega,S7.2⟩ (by simp[xj];exact cW)
  |nil=>simp only[fB,gg,mJ]at jY⊢;simp[xj];exact bY
  |var m=>
   have e:fB (T.var m)=32::46::32::(cM (T.var m)++[41]):=by simp[fB,cM]
   have aK:(fB (T.var m)).length=(cM (T.var m)).length+4:=by rw[e];simp
   rw[aK]at jY;have eY:=aX _ J au Ω;rw[e];have fJ:s.length+3<=aR:=Ω
   have fe:s.length+3+(cM (T.var m)).length<=aR:=Ω
   have pw:s.length+((cM (T.var m)).length+3)<=aR:=Ω
   have qX:s.length+((cM (T.var m)).length+3)+1<=aR:=Ω
   have wk:s.length+3+(cM (T.var m)).length+1<=aR:=Ω
   have Dw:s.length+((cM (T.var m)).length+1+1+1)<=aR:=Ω
   have Dx:s.length+((cM (T.var m)).length+1+1+1)+1<=aR:=Ω
   generalize cM (T.var m)=w at eY fJ fe pw qX wk Dw Dx⊢;simp[xj];have tM:=eY;exact bY
  |sym m=>
   have e:fB (T.sym m)=32::46::32::(cM (T.sym m)++[41]):=by simp[fB,cM]
   have aK:(fB (T.sym m)).length=(cM (T.sym m)).length+4:=by rw[e];simp
   rw[aK]at jY;have eY:=aX _ J au Ω;rw[e];have fJ:s.length+3<=aR:=Ω
   have fe:s.length+3+(cM (T.sym m)).length<=aR:=Ω
   have pw:s.length+((cM (T.sym m)).length+3)<=aR:=Ω
   have qX:s.length+((cM (T.sym m)).length+3)+1<=aR:=Ω
   have wk:s.length+3+(cM (T.sym m)).length+1<=aR:=Ω
   have Dw:s.length+((cM (T.sym m)).length+1+1+1)<=aR:=Ω
   have Dx:s.length+((cM (T.sym m)).length+1+1+1)+1<=aR:=Ω
   generalize cM (T.sym m)=w at eY fJ fe pw qX wk Dw Dx⊢;simp[xj];have tM:=eY;exact bY
  |num m=>
   have e:fB (T.num m)=32::46::32::(cM (T.num m)++[41]):=by simp[fB,cM]
   have aK:(fB (T.num m)).length=(cM (T.num m)).length+4:=by rw[e];simp
   rw[aK]at jY;have eY:=aX _ J au Ω;rw[e];have fJ:s.length+3<=aR:=Ω
   have fe:s.length+3+(cM (T.num m)).length<=aR:=Ω
   have pw:s.length+((cM (T.num m)).length+3)<=aR:=Ω
   have qX:s.length+((cM (T.num m)).length+3)+1<=aR:=Ω
   have wk:s.length+3+(cM (T.num m)).length+1<=aR:=Ω
   have Dw:s.length+((cM (T.num m)).length+1+1+1)<=aR:=Ω
   have Dx:s.length+((cM (T.num m)).length+1+1+1)+1<=aR:=Ω
   generalize cM (T.num m)=w at eY fJ fe pw qX wk Dw Dx⊢;simp[xj];have tM:=eY;exact bY
theorem WG:b6 kl=[.str [116,114,117,101],.str [102,97,105,108],.str [115,121,109,98,111,108],.str [110,117,109,98,101,114],.str [97,98,115,101,110,116],.str [97,110,100],.str [111,114],.str [110,111,116],.str [100,101,102,105,110,101]]:=rfl
theorem X8(s:List aj):bW aF 128 [.str s] (.bool (gG s)):=by
 have c1:=hQ s;generalize bt:gG s=R;refine bI jx ab6 ahJ fun aG=>?_;unfold P0;clear aG;simp[<-WG];refine⟨by rw[WG];simp[rJ],?_⟩;refine fA (fun i (_:Unit)=>⟨[(0,.str s),(5,.slice 1 (.own (.loc 0)) (b6 kl)),(6,.int .i64 kl.length),(7,.int .i64 i)],[],[(.loc 0,⟨9,9,1,none⟩)],1,[]⟩) kl.length (pB (fun w=>w !=s) kl) () cW (fun k b ab=>Ω) (fun _ ai _=>?_) (fun i _ aw ai _=>?_)
 ·have aM:kl.contains s=false:=by
   have:=(show pB (fun w=>w !=s) kl kl.length ()from ai).fin;rw[ji]at this;cases aH:kl.contains s with
   |false=>rfl
   |true=>
    have I:s∈kl:=by simpa using aH
    have:=this s I;simp at this
  have:R=gb s:=by rw[<-bt,gG,aM];rfl
  rw[this];clear bt ai;exact bY
 ·have hH:i<kl.length:=aw;obtain⟨w,hw⟩:∃w,kl[i]? =some w:=⟨_,cL hH⟩;have afi:∀h,((b6 kl)[i]'h)= .str w:=fun h=>by rw[l8 hH];rw[cL hH]at hw;rw[gB hw]
  have anC:(i:Int)<9:=by have h:i<9:=hH;omega
  have bZ:aY ((i:Int)+1):=by unfold aY;omega
  have aeA:i<(b6 kl).length:=hH;have wz:(b6 kl)[i]? =some (.str w):=by rw[cL aeA,afi]
  by_cases he:w=s
  ·have:R=false:=by
    rw[<-bt,gG];have:kl.contains s=true:=by rw[<-he];simpa using e1 hw
    rw[this];rfl
   subst this;subst he;clear bt ai;exact bY
  ·have aM:=ai.step hw (by simpa using he);have anv:(w==s)=false:=by simpa using he
   clear bt ai;exact tZ
def yu(k:Int)(n:Int):Int:=if k=9 then n else l2 k
def hdS(g:Gm):Prop:=(g.ts.length:Int)=yu g.kind g.ts.length/\g.ts.length<=4/\(g.kind<7->g.gs=[])/\g.gs.length<=8
def uj(g:Gm):Bool:=if g.kind=6 then(match g.ts with|x::_=>decide (x.kind=2)|[]=>false)else if g.kind=9 then g.gs.isEmpty&&gG g.name else if g.kind=10 then(match g.gs with|[x]=>decide (x.kind=9)|_=>false)else true
theorem agA(k:Int):0<=l2 k/\l2 k<=2:=by
 unfold l2;repeat' split
 all_goals omega
theorem Ny(g:Gm):g.shape=true↔(0<=g.kind/\g.kind<=10)/\(g.kind≠9->g.name=[])/\g.ts.all Tm.fits=true/\hdS g/\g.gs.all Gm.shape=true/\uj g=true:=by
 rw[pK,bJ];have aM:=agA g.kind;unfold hdS yu uj;by_cases I:0<=g.kind/\g.kind<=6
 ·rw[if_pos I,br (show¬g.kind=9 by omega)];by_cases cy:g.kind=6
  ·simp[cy];constructor
   ·rintro⟨a,⟨⟨b,c⟩,d⟩,e⟩;rw[c]at*;refine⟨b,a,⟨d,by rw[cy]at aM;omega,rfl,Ψ⟩,Ψ,e⟩
   ·rintro⟨a,b,⟨c,d,e,_⟩,_,f⟩;exact⟨b,⟨⟨a,e⟩,c⟩,f⟩
  ·have agz:¬g.kind=9:=Ω
   have n10:¬g.kind=10:=Ω
   simp[cy,agz,n10];constructor
   ·rintro⟨a,⟨b,c⟩,d⟩;rw[c];exact⟨Ω,b,a,⟨d,Ω,fun _=>rfl,Ψ⟩,Ψ⟩
   ·rintro⟨_,a,b,⟨c,d,e,_⟩,_⟩;exact⟨b,⟨a,e Ω⟩,c⟩
 ·rw[br I];by_cases ec:g.kind=9
  ·simp[ec];intro _;constructor
   ·rintro⟨⟨b,c⟩,d⟩;rw[c];exact⟨⟨d,Ψ⟩,Ψ,rfl,b⟩
   ·rintro⟨⟨b,c⟩,d,e,f⟩;exact⟨⟨f,e⟩,b⟩
  ·rw[br ec];by_cases zf:g.kind=7\/g.kind=8
   ·rw[if_pos zf];have cK:l2 g.kind=0:=by rcases zf with h|h<;>rw[h]<;>rfl
    rw[cK];rcases zf with h|h;all_goals
     simp[h]
     constructor
     ·rintro⟨a,⟨⟨b,c⟩,d⟩,e⟩
      rw[c];exact⟨b,Ψ,⟨rfl,Ψ,d⟩,e⟩
     ·rintro⟨a,b,⟨c,d,e⟩,f⟩
      exact⟨b,⟨⟨a,c⟩,e⟩,f⟩
   ·rw[br zf];by_cases fN:g.kind=10
    ·simp[fN,l2];constructor
     ·rintro⟨a,⟨⟨b,c⟩,d⟩,e⟩;rw[c];refine⟨b,Ψ,⟨rfl,Ψ,?_⟩,e,d⟩;split at d
      ·rename_i x af;rw[af];simp
      ·cases d
     ·rintro⟨a,b,⟨c,d,e⟩,f,h⟩;exact⟨b,⟨⟨a,c⟩,h⟩,f⟩
    ·rw[br fN];constructor
     ·rintro⟨_,h⟩;cases h
     ·rintro⟨h,_⟩;omega
theorem ajz(g:Gm)(h:¬(0<=g.kind/\g.kind<=10)):bW aF 211 [g.e] (.bool false):=by have eO:=e0 g.kind 0 10;rw[decide_eq_false h]at eO;refine bI jx uQ vg fun aG=>?_;unfold sR;clear aG;exact bY
theorem ajB(g:Gm)(h:0<=g.kind/\g.kind<=10)(ec:¬g.kind=9)(aM:g.name.isEmpty=false):bW aF 211 [g.e] (.bool false):=by
 have eO:=e0 g.kind 0 10;rw[oX h]at eO;have zg:(g.kind !=9)=true:=by simpa using ec
 refine bI jx uQ vg fun aG=>?_;unfold sR;clear aG;exact bY
theorem ajC(g:Gm)(h:0<=g.kind/\g.kind<=10)(aM:g.kind≠9->g.name.isEmpty=true)(aE:g.ts.all Tm.fits=false):bW aF 211 [g.e] (.bool false):=by
 have eO:=e0 g.kind 0 10;rw[oX h]at eO;have fS:=Oc g.ts;rw[aE]at fS;by_cases ec:g.kind=9
 ·have zg:(g.kind !=9)=false:=by simpa using ec
  refine bI jx uQ vg fun aG=>?_;unfold sR;clear aG;simp;((with_reducible repeat' first|refine av ?_|refine aZ eO ?_|refine a1 eO ?_|refine aZ fS ?_|refine a1 fS ?_|simp[zg]|((first|apply dt|apply dx|apply dw)<;>intro h<;>try simp at h))<;>(try exact dQ));simp[cn,BU,ba,bg,aT]
 ·have zg:(g.kind !=9)=true:=by simpa using ec
  have hz:=aM ec;refine bI jx uQ vg fun aG=>?_;unfold sR;clear aG;exact bY
set_option maxRecDepth 8000 in
theorem ajy(g:Gm)(h:0<=g.kind/\g.kind<=10)(aM:g.kind≠9->g.name.isEmpty=true)(aE:g.ts.all Tm.fits=true)(hB:¬hdS g):bW aF 211 [g.e] (.bool false):=by
 have eO:=e0 g.kind 0 10;rw[oX h]at eO;have fS:=Oc g.ts;rw[aE]at fS;have p8:g.kind=0\/g.kind=1\/g.kind=2\/g.kind=3\/g.kind=4\/g.kind=5\/g.kind=6\/g.kind=7\/g.kind=8\/g.kind=9\/g.kind=10:=Ω
 have hz:g.kind≠9->g.name.isEmpty=true:=aM;have zp:∀l:List Gm,decide ((0:Int)<l.length)= !l.isEmpty:=fun l=>by cases l<;>simp
 clear h aE aM;have Gh:¬((g.ts.length:Int)=yu g.kind g.ts.length/\g.ts.length<=4/\(g.kind<7->g.gs=[])/\g.gs.length<=8):=hB;clear hB;by_cases ec:g.kind=9
 ·rw[ec]at Gh eO;simp[yu]at Gh;clear p8 hz;refine bI jx uQ vg fun aG=>?_;unfold sR;clear aG;simp;simp[ec];((with_reducible repeat' first|refine av ?_|refine aZ eO ?_|refine a1 eO ?_|refine aZ fS ?_|refine a1 fS ?_|simp[ec,zp]|((first|apply dt|apply dx|apply dw)<;>intro h<;>try simp at h))<;>(try exact dQ));all_goals first|(simp[cn,BU,ba,bg,aT];done)|(exfalso;clear eO fS;simp_all;done)|(exfalso;clear eO fS;simp_all;omega)|(exfalso;clear eO fS;grind)
 have p8:g.kind=0\/g.kind=1\/g.kind=2\/g.kind=3\/g.kind=4\/g.kind=5\/g.kind=6\/g.kind=7\/g.kind=8\/g.kind=10:=Ω
 rcases p8 with ab|ab|ab|ab|ab|ab|ab|ab|ab|ab;all_goals
  rw[ab]at Gh
  simp[yu,l2]at Gh
  have fV:=hz Ω
  rw[ab]at eO
  refine bI jx uQ vg fun aG=>?_;unfold sR
  clear aG
  simp
  simp[ab]
  ((with_reducible repeat' first|refine av ?_|refine aZ eO ?_|refine a1 eO ?_|refine aZ fS ?_|refine a1 fS ?_|simp[ab,fV,zp]|((first|apply dt|apply dx|apply dw)<;>intro h<;>try simp at h))<;>(try exact dQ))
  all_goals first|(simp[cn,BU,ba,bg,aT];done)|(exfalso;clear eO fS;simp_all;done)|(exfalso;clear eO fS;simp_all;omega)|(exfalso;clear eO fS;grind)
def j7(g:Gm)(i:Nat)(_:Unit):aU:=⟨[(1,.ptr (.loc 0) 0),(61,.slice 4 .no (g.gs.map Gm.e)),(62,.int .i64 g.gs.length),(63,.int .i64 i)],[(.loc 0,[.int .i64 g.kind,.str g.name,.slice 4 .no (g.ts.map enc),.slice 4 .no (g.gs.map Gm.e)])],[],2,[]⟩
set_option maxRecDepth 8000 in
theorem ajA(g:Gm)(h:0<=g.kind/\g.kind<=10)(aM:g.kind≠9->g.name.isEmpty=true)(aE:g.ts.all Tm.fits=true)(hB:hdS g)(aX:∀x∈g.gs,bW aF 211 [x.e] (.bool x.shape)):bW aF 211 [g.e] (.bool (g.gs.all Gm.shape&&uj g)):=by
 have eO:=e0 g.kind 0 10;rw[oX h]at eO;have fS:=Oc g.ts;rw[aE]at fS;have p8:g.kind=0\/g.kind=1\/g.kind=2\/g.kind=3\/g.kind=4\/g.kind=5\/g.kind=6\/g.kind=7\/g.kind=8\/g.kind=9\/g.kind=10:=Ω
 have hz:g.kind≠9->g.name.isEmpty=true:=aM;have zp:∀l:List Gm,decide ((0:Int)<l.length)= !l.isEmpty:=fun l=>by cases l<;>simp
 clear h aE aM;obtain⟨cq,cE,gD,yU⟩:=hB;have xm:¬(4:Int)<g.ts.length:=Ω
 have Fp:¬(8:Int)<g.gs.length:=Ω
 generalize bt:(g.gs.all Gm.shape&&uj g)=R;have aej:g.gs.length<=1000000:=Ω
 by_cases ec:g.kind=9
 ·rw[ec]at eO;clear p8 hz;refine bI jx uQ vg fun aG=>?_;unfold sR;clear aG;simp;simp[ec];(with_reducible repeat' first|refine av ?_|refine aZ eO ?_|refine a1 eO ?_|refine aZ fS ?_|refine a1 fS ?_|simp[ec,zp,xm,Fp]);refine fA (j7 g) g.gs.length (pB Gm.shape g.gs) () (by simp[j7,ec];exact cW) (fun k b ab=>Ω) (fun _ ai _=>?_) (fun i _ aw ai _=>?_);rotate_left
  ·obtain⟨y,bG,h4⟩:=fQ aw;have ky:=aX y (e1 bG);have bZ:aY ((i:Int)+1):=by unfold aY;omega
   cases ht:y.shape
   ·have h1:R=false:=by rw[<-bt,yQ bG ht];rfl
    subst h1;rw[ht]at ky;clear bt ai aX;simp[j7,ec,aw,h4];exact bY
   ·have jk:=ai.step bG ht;rw[ht]at ky;clear bt ai aX;simp[j7,ec,aw,h4];(with_reducible repeat' first|refine av ?_|refine aZ ky ?_|refine a1 ky ?_|simp[aw,h4,bZ]);refine b1.rng () aw jk (by simp[j7,ec];exact cW)
  have h1:R=(g.gs.isEmpty&&gG g.name):=by rw[<-bt,ai.fin];simp[uj,ec]
  subst h1;clear bt ai aX;have lg:=X8 g.name;cases cK:g.gs.isEmpty
  ·have afo:((g.gs.length:Int)==0)=false:=by rw[Ha,cK]
   simp[j7,ec];have tM:=lg;exact bY
  ·have afo:((g.gs.length:Int)==0)=true:=by rw[Ha,cK]
   simp[j7,ec];have tM:=lg;exact bY
 have fV:=hz ec;have O7:g.kind<7->¬0<g.gs.length:=fun h=>by rw[gD h];simp
 clear gD hz;by_cases cy:g.kind=6
 ·rw[cy]at cq eO;simp only[yu,l2,Int.reduceEq,reduceIte]at cq;have gD:=O7 Ω;refine bI jx uQ vg fun aG=>?_;unfold sR;clear aG;simp;simp[cy];(with_reducible repeat' first|refine av ?_|refine aZ eO ?_|refine a1 eO ?_|refine aZ fS ?_|refine a1 fS ?_|simp[cy,fV,zp,cq,gD,xm,Fp]);refine fA (j7 g) g.gs.length (pB Gm.shape g.gs) () (by simp[j7,cy];exact cW) (fun k b ab=>Ω) (fun _ ai _=>?_) (fun i _ aw ai _=>?_);rotate_left
  ·obtain⟨y,bG,h4⟩:=fQ aw;have ky:=aX y (e1 bG);have bZ:aY ((i:Int)+1):=by unfold aY;omega
   cases ht:y.shape
   ·have h1:R=false:=by rw[<-bt,yQ bG ht];rfl
    subst h1;rw[ht]at ky;clear bt ai aX;simp[j7,cy,aw,h4];exact bY
   ·have jk:=ai.step bG ht;rw[ht]at ky;clear bt ai aX;simp[j7,cy,aw,h4];(with_reducible repeat' first|refine av ?_|refine aZ ky ?_|refine a1 ky ?_|simp[aw,h4,bZ]);refine b1.rng () aw jk (by simp[j7,cy];exact cW)
  obtain⟨x,y,e⟩:∃x y,g.ts=[x,y]:=XI Ω;have h1:R=decide (x.kind=2):=by rw[<-bt,ai.fin];simp[uj,cy,e]
  subst h1;clear bt ai aX;simp[j7,cy,e];(with_reducible repeat' first|refine av ?_|simp[cy]);simp[cn,BU,ba,bg,aT];rfl
 by_cases fN:g.kind=10
 ·rw[fN]at cq eO;simp only[yu,l2,Int.reduceEq,reduceIte]at cq;refine bI jx uQ vg fun aG=>?_;unfold sR;clear aG;simp;simp[fN];(with_reducible repeat' first|refine av ?_|refine aZ eO ?_|refine a1 eO ?_|refine aZ fS ?_|refine a1 fS ?_|simp[fN,fV,zp,cq,xm,Fp]);refine fA (j7 g) g.gs.length (pB Gm.shape g.gs) () (by simp[j7,fN];exact cW) (fun k b ab=>Ω) (fun _ ai _=>?_) (fun i _ aw ai _=>?_);rotate_left
  ·obtain⟨y,bG,h4⟩:=fQ aw;have ky:=aX y (e1 bG);have bZ:aY ((i:Int)+1):=by unfold aY;omega
   cases ht:y.shape
   ·have h1:R=false:=by rw[<-bt,yQ bG ht];rfl
    subst h1;rw[ht]at ky;clear bt ai aX;simp[j7,fN,aw,h4];exact bY
   ·have jk:=ai.step bG ht;rw[ht]at ky;clear bt ai aX;simp[j7,fN,aw,h4];(with_reducible repeat' first|refine av ?_|refine aZ ky ?_|refine a1 ky ?_|simp[aw,h4,bZ]);refine b1.rng () aw jk (by simp[j7,fN];exact cW)
  by_cases nB:g.gs.length=1
  ·obtain⟨x,e⟩:=List.length_eq_one_iff.1 nB;have h1:R=decide (x.kind=9):=by rw[<-bt,ai.fin];simp[uj,fN,e]
   subst h1;clear bt ai aX;simp[j7,fN,e];(with_reducible repeat' first|refine av ?_|simp[fN]);simp[cn,BU,ba,bg,aT];rfl
  ·have h1:R=false:=by
    rw[<-bt,ai.fin];simp[uj,fN];split
    ·rename_i x af;rw[af]at nB;simp at nB
    ·rfl
   subst h1;have anx:((g.gs.length:Int)==1)=false:=jj.2 Ω;clear bt ai aX;simp[j7,fN];exact bY
 have p8:g.kind=0\/g.kind=1\/g.kind=2\/g.kind=3\/g.kind=4\/g.kind=5\/g.kind=7\/g.kind=8:=Ω
 rcases p8 with ab|ab|ab|ab|ab|ab|ab|ab;all_goals
  rw[ab]at cq eO
  simp only[yu,l2,Int.reduceEq,reduceIte]at cq
  have gD:=O7
  simp only[ab,Int.reduceLT,forall_const,false_imp_iff]at gD
  refine bI jx uQ vg fun aG=>?_;unfold sR
  clear aG
  simp
  simp[ab]
  (with_reducible repeat' first|refine av ?_|refine aZ eO ?_|refine a1 eO ?_|refine aZ fS ?_|refine a1 fS ?_|simp[ab,fV,zp,cq,gD,xm,Fp])
  refine fA (j7 g) g.gs.length (pB Gm.shape g.gs) () (by simp[j7,ab];exact cW) (fun k b ab=>Ω) (fun _ ai _=>?_) (fun i _ aw ai _=>?_)
  rotate_left
  ·obtain⟨y,bG,h4⟩:=fQ aw
   have ky:=aX y (e1 bG)
   have bZ:aY ((i:Int)+1):=by unfold aY;omega
   cases ht:y.shape
   ·have h1:R=false:=by rw[<-bt,yQ bG ht];rfl
    subst h1
    rw[ht]at ky
    clear bt ai aX
    simp[j7,ab,aw,h4]
    exact bY
   ·have jk:=ai.step bG ht
    rw[ht]at ky
    clear bt ai aX
    simp[j7,ab,aw,h4]
    (with_reducible repeat' first|refine av ?_|refine aZ ky ?_|refine a1 ky ?_|simp[aw,h4,bZ])
    refine b1.rng () aw jk (by simp[j7,ab];exact cW)
  have h1:R=true:=by rw[<-bt,ai.fin];simp[uj,ab]
  subst h1
  clear bt ai aX
  simp[j7,ab]
  exact bY
end
end Go.Proofs.YtlnndmgfngfeiaaGreatDoor

namespace Go.Proofs.YtlnndmgfngfeiaaGreatDoor
section
open Go Go.Pv
def mx(n:Int):List Int->List Int
 |[]=>[n]
 |c::l=>if c<n then c::mx n l else if c=n then c::l else n::c::l
def uv(l:List Int):Prop:=l.Pairwise (· < ·)
theorem Tw(n:Int):∀(l:List Int) (k:Nat),(∀i c,i<k->l[i]? =some c->c<n)->(∀c,l[k]? =some c->n<=c)->k<=l.length->mx n l=if l[k]? =some n then l else l.take k++n::l.drop k
 |[],k,_,_,ab=>by simp at ab;subst ab;rfl
 |c::l,0,_,J,_=>by
  have:=J c rfl;by_cases e:c=n
  ·simp[mx,e]
  ·have au:¬c<n:=Ω
   simp[mx,au,e]
 |c::l,k+1,I,J,ab=>by have bz:=I 0 c Ω rfl;simp only[mx,if_pos bz,sK,List.drop_succ_cons,dF,List.getElem?_cons_succ];rw[Tw n l k (fun i d aw aI=>I (i+1) d Ω (by simpa using aI)) (fun d aI=>J d (by simpa using aI)) (by simpa using ab)];split<;>rfl
theorem L4{n m:Int}:∀{l:List Int},m∈mx n l↔m=n\/m∈l
 |[]=>by simp[mx]
 |c::l=>by
  simp only[mx];split
  ·simp only[gy,L4 (l:=l)];constructor
   ·rintro(h|h|h)
    ·exact .inr (.inl h)
    ·exact .inl h
    ·exact .inr (.inr h)
   ·rintro(h|h|h)
    ·exact .inr (.inl h)
    ·exact .inl h
    ·exact .inr (.inr h)
  ·split
   ·rename_i h;subst h;simp
   ·simp
theorem Lu{n:Int}:∀{l:List Int},uv l->uv (mx n l)
 |[],_=>by simp[mx,uv]
 |c::l,h=>by
  obtain⟨I,J⟩:=List.pairwise_cons.1 h;simp only[mx];split
  ·rename_i au;refine List.pairwise_cons.2 ⟨fun m hm=>?_,Lu J⟩;rcases L4.1 hm with rfl|hm
   ·exact au
   ·exact I m hm
  ·split
   ·exact h
   ·refine List.pairwise_cons.2 ⟨fun m hm=>?_,h⟩;rcases gy.1 hm with rfl|hm
    ·omega
    ·have:=I m hm;omega
theorem Tx(n:Int):∀l:List Int,(mx n l).length<=l.length+1
 |[]=>by simp[mx]
 |c::l=>by
  have:=Tx n l;simp only[mx];split
  ·simp;omega
  ·split<;>simp
theorem TA(l:List Int)(i:Nat):(eP l)[i]? =(l[i]?).map (ae.int .i64):=by simp[eP]
theorem z1:∀l:List Int,bC (eP l)=eP l
 |[]=>by simp[eP,bC]
 |a::l=>by have:=z1 l;simp only[eP,fF,bC,bD]at this⊢;rw[this]
theorem GV(l:List Int)(n:Int)(k:Nat):bC (List.take k (eP l)++ae.int .i64 n::List.drop k (List.take l.length (eP l)))=eP (List.take k l++n::List.drop k l):=by
 have e:List.take l.length (eP l)=eP l:=vB (by simp[eP]);have aL:List.take k (eP l)++ae.int .i64 n::List.drop k (eP l)=eP (List.take k l++n::List.drop k l):=by simp only[eP,List.map_append,fF,List.map_take,List.map_drop]
 rw[e,aL];exact z1 _
theorem akJ(l:List Int)(n:Int)(aD:l.length<=1000000)(bL:uv l):bW aF 212 [.slice 1 .no (eP l),.int .i64 n] (.slice 1 .no (eP (mx n l))):=by
 refine bI jP acd ahP fun aG=>?_;unfold P6;simp;refine Q1 [0,1] (fun(k:Nat)=>[(5,.int .i64 k)]) (fun k=>k) (fun k=>k<=l.length/\∀c,l[k]? =some c->n<=c) l.length cW ⟨Ω,fun c h=>by simp at h⟩ (fun k ai _=>?_);obtain⟨ab,ai⟩:=ai;have jG:(∀c,0<k->l[k-1]? =some c->c<n)->mx n l=if l[k]? =some n then l else l.take k++n::l.drop k:=fun h=>Tw n l k (fun i c aw aH=>by
  obtain⟨d,aI⟩:∃d,l[k-1]? =some d:=⟨_,cL Ω⟩;have I:=h d Ω aI;rcases mc i (k-1)with J|J
  ·have wh:=(fo.1 aH);have p6:=(fo.1 aI);have:=List.pairwise_iff_getElem.1 bL i (k-1) wh.1 p6.1 J;rw[wh.2,p6.2]at this;omega
  ·have:i=k-1:=Ω
   subst this;rw[aI]at aH;cases aH;exact I) ai ab
 have ny:∀c,l[k]? =some c->∀h,((eP l)[k]'h)= .int .i64 c:=fun c h cu=>by have:=TA l k;rw[h,cL cu]at this;exact gB this
 have mn:(0<k->∃d,l[k-1]? =some d/\d<n)->∀P:Prop,(mx n l=(if l[k]? =some n then l else l.take k++n::l.drop k)->P)->P:=fun h P k5=>k5 (jG fun c bz aH=>by obtain⟨d,aI,I⟩:=h bz;rw[aI]at aH;cases aH;exact I)
 rcases Nat.eq_zero_or_pos k with bz|hp
 ·have cK:decide ((0:Int)<k)=false:=by simp;omega
  refine mn (fun h=>Ω) _ fun e=>?_;by_cases ga:k<l.length
  ·obtain⟨c,aH⟩:∃c,l[k]? =some c:=⟨_,cL ga⟩;have lR:=ny c aH;rw[aH]at e;by_cases q:c=n
   ·have q':(c==n)=true:=by simp[q]
    rw[if_pos (by rw[q])]at e;rw[e];simp[cK,ga];((with_reducible repeat' first|refine av ?_|simp[cK,ga,lR,q']|((first|apply dt|apply dx|apply dw)<;>intro h<;>try simp at h))<;>(try exact dQ));all_goals simp[cn,zP,ba,bg,aT]
   ·have q':(c==n)=false:=by simp[q]
    rw[br (by simp[q])]at e;rw[e];simp[cK,ga];((with_reducible repeat' first|refine av ?_|simp[cK,ga,lR,q']|((first|apply dt|apply dx|apply dw)<;>intro h<;>try simp at h))<;>(try exact dQ));all_goals simp[cn,zP,ba,bg,aT]
    all_goals exact GV l n k
  ·rw[List.getElem?_eq_none Ω]at e;simp only[reduceCtorEq,if_false]at e;rw[e];simp[cK,ga];((with_reducible repeat' first|refine av ?_|simp[cK,ga]|((first|apply dt|apply dx|apply dw)<;>intro h<;>try simp at h))<;>(try exact dQ));all_goals simp[cn,zP,ba,bg,aT]
   all_goals exact GV l n k
 ·obtain⟨d,aI⟩:∃d,l[k-1]? =some d:=⟨_,cL Ω⟩;have ao:((k:Int)-1).toNat=k-1:=Ω
  have aL:∀h,((eP l)[k-1]'h)= .int .i64 d:=fun cu=>by have:=TA l (k-1);rw[aI,cL cu]at this;exact gB this
  have u1:(0:Int)<k:=Ω
  have xS:k-1<l.length:=Ω
  by_cases ah:n<=d
  ·simp[hp,u1,ao,aL,ah,xS];(with_reducible repeat' first|refine av ?_|simp[hp,u1,ao,aL,ah,xS]);refine b1.whl (k-1) Ω ⟨Ω,fun c aH=>by rw[aI]at aH;cases aH;exact ah⟩ ?_;have bB:((k-1:Nat):Int)=(k:Int)-1:=Ω
   simp[bB];exact cW
  ·refine mn (fun _=>⟨d,aI,Ω⟩) _ fun e=>?_;by_cases ga:k<l.length
   ·obtain⟨c,aH⟩:∃c,l[k]? =some c:=⟨_,cL ga⟩;have lR:=ny c aH;rw[aH]at e;by_cases q:c=n
    ·have q':(c==n)=true:=by simp[q]
     rw[if_pos (by rw[q])]at e;rw[e];simp[hp,u1,ao,aL,ah,xS,ga];((with_reducible repeat' first|refine av ?_|simp[hp,u1,ao,aL,ah,xS,ga,lR,q']|((first|apply dt|apply dx|apply dw)<;>intro h<;>try simp at h))<;>(try exact dQ));all_goals simp[cn,zP,ba,bg,aT]
    ·have q':(c==n)=false:=by simp[q]
     rw[br (by simp[q])]at e;rw[e];simp[hp,u1,ao,aL,ah,xS,ga];(with_reducible repeat' first|refine av ?_|simp[hp,u1,ao,aL,ah,xS,ga,lR,q']);all_goals simp[cn,zP,ba,bg,aT]
     all_goals exact GV l n k
   ·rw[List.getElem?_eq_none Ω]at e;simp only[reduceCtorEq,if_false]at e;rw[e];simp[hp,u1,ao,aL,ah,xS,ga];(with_reducible repeat' first|refine av ?_|simp[hp,u1,ao,aL,ah,xS,ga]);all_goals simp[cn,zP,ba,bg,aT]
    all_goals exact GV l n k
def ln:T->List Int->List Int
 | .var n,l=>mx n l
 | .pair a b,l=>ln b (ln a l)
 |_,l=>l
theorem Og:∀(t:T) {l:List Int},uv l->uv (ln t l)
 | .var _,_,h=>Lu h
 | .pair a b,_,h=>Og b (Og a h)
 | .nil,_,h=>h
 | .sym _,_,h=>h
 | .num _,_,h=>h
theorem Oh:∀(t:T) (l:List Int),(ln t l).length<=l.length+t.size
 | .var n,l=>by have:=Tx n l;simp only[ln,T.size];omega
 | .pair a b,l=>by have I:=Oh a l;have J:=Oh b (ln a l);simp only[ln,T.size];omega
 | .nil,l=>by simp[ln]
 | .sym _,l=>by simp[ln]
 | .num _,l=>by simp[ln]
theorem N9:∀(t:T) (l:List Int),l.length+t.size<=1000000->uv l->bW aF 156 [t.e,.slice 1 .no (eP l)] (.slice 1 .no (eP (ln t l)))
 | .var n,l,aD,bL=>by
  simp only[T.size]at aD;have key:=akJ l n Ω bL;refine bI jP C1 Em fun aG=>?_;unfold Ay;simp;(with_reducible repeat' first|refine av ?_|refine aZ key ?_|refine a1 key ?_|simp);all_goals simp[cn,BT,ba,bg,aT]
  all_goals simp[ln,z1]
 | .pair a b,l,aD,bL=>by
  simp only[T.size]at aD;have aoB:=Oh a l;have cD:=N9 a l Ω bL;have dI:=N9 b (ln a l) Ω (Og a bL);refine bI jP C1 Em fun aG=>?_;unfold Ay;simp;refine sZ [15,16] (fun i (_:Unit)=>[(1,.slice 1 .no (eP (if i=0 then l else if i=1 then ln a l else ln b (ln a l)))),(17,.int .i64 i)]) 2 (fun _ _=>True) () cW trivial (fun _ _ _=>?_) (fun i _ aw _ _=>?_)
  ·simp;(with_reducible repeat' first|refine av ?_|simp);simp[cn,BT,ba,bg,aT];simp[ln,z1]
  ·rcases(by omega:i=0\/i=1)with rfl|rfl
   ·simp;((with_reducible repeat' first|refine av ?_|refine aZ cD ?_|refine a1 cD ?_|simp|((first|apply dt|apply dx|apply dw)<;>intro h<;>try simp at h))<;>(try exact dQ));exact b1.rng () aw trivial cW
   ·simp;((with_reducible repeat' first|refine av ?_|refine aZ dI ?_|refine a1 dI ?_|simp|((first|apply dt|apply dx|apply dw)<;>intro h<;>try simp at h))<;>(try exact dQ));exact b1.rng () aw trivial cW
 | .nil,l,aD,bL=>by refine bI jP C1 Em fun aG=>?_;unfold Ay;simp;refine sZ [15,16] (fun i (_:Unit)=>[(1,.slice 1 .no (eP l)),(17,.int .i64 i)]) 0 (fun _ _=>True) () cW trivial (fun _ _ _=>?_) (fun i _ aw _ _=>Ω);simp;((with_reducible repeat' first|refine av ?_|simp|((first|apply dt|apply dx|apply dw)<;>intro h<;>try simp at h))<;>(try exact dQ));simp[cn,BT,ba,bg,aT];simp[ln,z1]
 | .sym _,l,aD,bL=>by refine bI jP C1 Em fun aG=>?_;unfold Ay;simp;refine sZ [15,16] (fun i (_:Unit)=>[(1,.slice 1 .no (eP l)),(17,.int .i64 i)]) 0 (fun _ _=>True) () cW trivial (fun _ _ _=>?_) (fun i _ aw _ _=>Ω);simp;(with_reducible repeat' first|refine av ?_|simp);simp[cn,BT,ba,bg,aT];simp[ln,z1]
 | .num _,l,aD,bL=>by refine bI jP C1 Em fun aG=>?_;unfold Ay;simp;refine sZ [15,16] (fun i (_:Unit)=>[(1,.slice 1 .no (eP l)),(17,.int .i64 i)]) 0 (fun _ _=>True) () cW trivial (fun _ _ _=>?_) (fun i _ aw _ _=>Ω);simp;(with_reducible repeat' first|refine av ?_|simp);simp[cn,BT,ba,bg,aT];simp[ln,z1]
theorem akQ:∀(n:Nat) (g:Gm),g.sz<=n->bW aF 211 [g.e] (.bool g.shape):=by
 intro n;induction n with
 |zero=>intro g aS;have:=g.sz_pos;omega
 |succ n aX=>
 intro g aS;have no:∀h:¬((0<=g.kind/\g.kind<=10)/\(g.kind≠9->g.name=[])/\g.ts.all Tm.fits=true/\hdS g/\g.gs.all Gm.shape=true/\uj g=true),g.shape=false:=fun h=>by
  cases az:g.shape with
  |false=>rfl
  |true=>exact absurd ((Ny g).1 az) h
 by_cases I:0<=g.kind/\g.kind<=10;rotate_left
 ·rw[no fun h=>I h.1];exact ajz g I
 by_cases J:g.kind≠9->g.name=[];rotate_left
 ·rw[no fun h=>J h.2.1];rw[Classical.not_imp]at J;exact ajB g I J.1 (by simpa using J.2)
 have vW:g.kind≠9->g.name.isEmpty=true:=fun h=>by simpa using J h
 cases au:g.ts.all Tm.fits
 ·rw[no fun h=>by rw[au]at h;cases h.2.2.1];exact ajC g I vW au
 by_cases aP:hdS g;rotate_left
 ·rw[no fun h=>aP h.2.2.2.1];exact ajy g I vW au aP
 have aD:=ajA g I vW au aP fun x af=>aX x (by have:=g.gs_lt af;omega);have he:(g.gs.all Gm.shape&&uj g)=g.shape:=by rw[Bool.eq_iff_iff,bJ,Ny];exact⟨fun h=>⟨I,J,au,aP,h.1,h.2⟩,fun h=>⟨h.2.2.2.2.1,h.2.2.2.2.2⟩⟩
 rwa[he]at aD
theorem X7(g:Gm):bW aF 155 [g.e] (.bool (g.fits 80)):=by
 have kA:=X2 g.sz g (cc _) 80 Ω Ω;have tK:=akQ g.sz g (cc _);have aH:=(JA g 80 Ω).1;by_cases h:g.sz<=80
 ·have I:mh g 80<=80:=aH.2 Ω;have aK:g.fits 80=g.shape:=by unfold Gm.fits;rw[oX h,Bool.and_true]
  rw[aK];refine bI jx Rt Vq fun aG=>?_;unfold Jh;clear aG;simp;((with_reducible repeat' first|refine av ?_|refine aZ kA ?_|refine a1 kA ?_|refine aZ tK ?_|refine a1 tK ?_|simp[I]|((first|apply dt|apply dx|apply dw)<;>intro h<;>try simp at h))<;>(try exact dQ));simp[cn,MS,ba,bg,aT]
 ·have I:¬mh g 80<=80:=fun cu=>h (by have:=aH.1 cu;omega);have aK:g.fits 80=false:=by unfold Gm.fits;rw[decide_eq_false h,Bool.and_false]
  rw[aK];refine bI jx Rt Vq fun aG=>?_;unfold Jh;clear aG;simp;((with_reducible repeat' first|refine av ?_|refine aZ kA ?_|refine a1 kA ?_|refine aZ tK ?_|refine a1 tK ?_|simp[I]|((first|apply dt|apply dx|apply dw)<;>intro h<;>try simp at h))<;>(try exact dQ));simp[cn,MS,ba,bg,aT]
def iI(vs:List Int)(l:List Int):List Int:=vs.foldl (fun l v=>mx v l) l
theorem GU(a b l:List Int):iI (a++b) l=iI b (iI a l):=List.foldl_append
theorem Tz(vs:List Int):∀(l:List Int) (v:Int),v∈iI vs l↔v∈l\/v∈vs:=by
 induction vs with
 |nil=>intro l v;simp[iI]
 |cons x vs aX=>
  intro l v;show v∈iI vs (mx x l)↔_;rw[aX,L4];simp only[gy];constructor
  ·rintro((h|h)|h)
   ·exact .inr (.inl h)
   ·exact .inl h
   ·exact .inr (.inr h)
  ·rintro(h|h|h)
   ·exact .inl (.inr h)
   ·exact .inl (.inl h)
   ·exact .inr h
theorem Ty(vs:List Int):∀{l:List Int},uv l->uv (iI vs l):=by
 induction vs with
 |nil=>intro l h;exact h
 |cons x vs aX=>intro l h;exact aX (Lu h)
theorem alf(t:T):∀l:List Int,ln t l=iI t.tm.vs l:=by
 induction t with
 |pair a b tH tI=>
  intro l;have:(T.pair a b).tm.vs=a.tm.vs++b.tm.vs:=by simp[T.tm,Tm.vs,Tm.vsL]
  rw[this,GU,<-tH,<-tI];rfl
 |var n=>intro l;simp[T.tm,Tm.vs,ln,iI]
 |_=>intro l;simp[T.tm,Tm.vs,Tm.vsL,ln,iI]
def qf(l:List Int):Prop:=uv l/\∀v∈l,0<=v/\v<=100000
theorem qf.len{l:List Int}(h:qf l):l.length<=100001:=Ms (h.1.imp fun pn=>Int.ne_of_lt pn) h.2
theorem qf.ins{l vs:List Int}(h:qf l)(aN:∀v∈vs,0<=v/\v<=100000):qf (iI vs l):=⟨Ty vs h.1,fun v hm=>by rcases(Tz vs l v).1 hm with cu|cu;exact h.2 v cu;exact aN v cu⟩
theorem akM{t:Tm}(aE:t.fits=true){l:List Int}(aD:qf l):bW aF 156 [enc t,.slice 1 .no (eP l)] (.slice 1 .no (eP (iI t.vs l))):=by
 obtain⟨x,rfl,af⟩:=Tm.fits_ex aE;rw[sX,<-alf];have bA:x.size<=5000:=by simp only[T.fit,bJ,fs]at af;exact af.2
 exact N9 x l (by have:=aD.len;omega) aD.1
theorem ali{t:Tm}(aE:t.fits=true):∀v∈t.vs,0<=v/\v<=100000:=by obtain⟨x,rfl,af⟩:=Tm.fits_ex aE;exact Yg x (uR af)
theorem afu{ts:List Tm}{i:Nat}{t:Tm}(h:ts[i]? =some t)(l:List Int):iI (Tm.vsL (ts.take (i+1))) l=iI t.vs (iI (Tm.vsL (ts.take i)) l):=by rw[k3,h,Ad,Ad,<-GU];simp
theorem aft{gs:List Gm}{i:Nat}{g:Gm}(h:gs[i]? =some g)(l:List Int):iI (Gm.vsL (gs.take (i+1))) l=iI g.vs (iI (Gm.vsL (gs.take i)) l):=by rw[k3,h,ze,ze,<-GU];simp
def CA(g:Gm)(l:List Int)(i:Nat)(_:Unit):aU:=⟨[(1,.slice 1 .no (eP (iI (Tm.vsL (g.ts.take i)) l))),(2,.ptr (.loc 0) 0),(10,.slice 4 .no (g.ts.map enc)),(11,.int .i64 g.ts.length),(12,.int .i64 i)],[(.loc 0,[.int .i64 g.kind,.str g.name,.slice 4 .no (g.ts.map enc),.slice 4 .no (g.gs.map Gm.e)])],[],1,[]⟩
def CB(g:Gm)(l:List Int)(i:Nat)(_:Unit):aU:=⟨[(1,.slice 1 .no (eP (iI (Gm.vsL (g.gs.take i)) l))),(21,.slice 4 .no (g.gs.map Gm.e)),(22,.int .i64 g.gs.length),(23,.int .i64 i)],[],[],1,[]⟩
theorem qf.tk{g:Gm}(az:g.shape=true){l:List Int}(h:qf l)(i:Nat):qf (iI (Tm.vsL (g.ts.take i)) l):=h.ins fun v aN=>by rw[Ad,List.mem_flatMap]at aN;obtain⟨t,aE,aN⟩:=aN;exact ali (sf az t (List.mem_of_mem_take aE)) v aN
theorem qf.gk{g:Gm}(az:g.shape=true){l:List Int}(h:qf l)(i:Nat):qf (iI (Gm.vsL (g.gs.take i)) l):=h.ins fun v aN=>by rw[ze,List.mem_flatMap]at aN;obtain⟨t,aE,aN⟩:=aN;exact Gf t.sz t (cc _) (shape_gs az t (List.mem_of_mem_take aE)) v aN
theorem akR:∀(n:Nat) (g:Gm),g.sz<=n->g.shape=true->∀l:List Int,qf l->bW aF 89 [g.e,.slice 1 .no (eP l)] (.slice 1 .no (eP (iI g.vs l))):=by
 intro n;induction n with
 |zero=>intro g aS;have:=g.sz_pos;omega
 |succ n aX=>
 intro g aS az l aD;have jY:=ET az;rw[Ki,GU];refine bI jx aci ahU fun aG=>?_;unfold Qb;clear aG;simp;refine fA (CA g l) g.ts.length (fun _ _=>True) () (by simp[CA,Tm.vsL,iI];exact cW) trivial (fun _ _ _=>?_) (fun i _ aw _ _=>?_)
 ·have fJ:=aD.tk az g.ts.length;rw[hE]at fJ;simp[CA];generalize iI (Tm.vsL g.ts) l=fK at fJ⊢;(with_reducible repeat' first|refine av ?_|simp);refine fA (CB g fK) g.gs.length (fun _ _=>True) () (by simp[CB,Gm.vsL,iI];exact cW) trivial (fun _ _ _=>?_) (fun i _ aw _ _=>?_)
  ·simp[CB];exact bY
  ·obtain⟨b,ah,p4⟩:=fQ aw;have bZ:aY ((i:Int)+1):=by unfold aY;omega
   have hm:=e1 ah;have eY:=aX b (by have:=g.gs_lt hm;omega) (shape_gs az b hm) _ (fJ.gk az i);rw[<-aft ah]at eY;clear aX;simp[CB,aw,p4];(with_reducible repeat' first|refine av ?_|refine aZ eY ?_|refine a1 eY ?_|simp[aw,p4,bZ]);refine b1.rng () aw trivial (by simp[CB];exact cW)
 ·obtain⟨b,ah,p4⟩:=fQ aw;have bZ:aY ((i:Int)+1):=by unfold aY;omega
  have eY:=akM (sf az b (e1 ah)) (aD.tk az i);rw[<-afu ah]at eY;clear aX;simp[CA,aw,p4];(with_reducible repeat' first|refine av ?_|refine aZ eY ?_|refine a1 eY ?_|simp[aw,p4,bZ]);refine b1.rng () aw trivial (by simp[CA];exact cW)
end
end Go.Proofs.YtlnndmgfngfeiaaGreatDoor
