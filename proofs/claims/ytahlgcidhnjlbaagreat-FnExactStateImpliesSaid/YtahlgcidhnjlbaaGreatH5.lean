/- From a contract to the row. -/
import Derived.Test.YtahlgcidhnjlbaaGreatProg
import Derived.ProofKit
import Derived.Carry
import Derived.WalkKit
import Derived.Test.YtahlgcidhnjlbaaGreatH4
set_option linter.all false
set_option maxHeartbeats 4000000
open Bool renaming and_eq_true→cE,eq_iff_iff→qu,false_eq_true→hb,not_eq_true'→sx,or_eq_true→mT
open Go renaming TypeId→gm
open Go.DataW renaming trod→jt
open Go.IntWalk renaming i64_in→o8
open Go.Op renaming bytesLess→hC
open Go.Proofs.Tryz renaming prog→al
open Go.Value renaming cells→pR
open List renaming all_eq_true→hs,cons_append→bX,drop→nM,drop_eq_getElem_cons→lv,getElem?_eq_getElem→cl,getElem?_eq_none→qw,getElem?_eq_some_iff→fV,getElem_of_mem→nN,length_cons→pT,length_drop→sC,map_cons→gS,map_nil→mU,mem_append→ka,mem_cons→gf,mem_filter→mV,mem_map→iC,mem_of_getElem?→dZ,nil_append→b3,pairwise_cons→mW,pairwise_iff_getElem→pU,take→lY,take_length→mn,take_of_length_le→hD
open List.Pairwise renaming filter→Y9
open List.cons renaming injEq→qv
open Nat renaming le_refl→eY,le_trans→kc
open Option renaming getD_none→hO,getD_some→h5,isSome_none→ht,isSome_some→kS
open Option.some renaming inj→fq,injEq→dM
open _root_ renaming False→eA,UInt8→dm,beq_iff_eq→dS,decide_eq_false→h6,decide_eq_false_iff_not→hR,decide_eq_true→gU,decide_eq_true_eq→fK
namespace Go.Proofs.YtahlgcidhnjlbaaGreat
open Go Go.Pv
def QO:C:=(aa [cw 1 0,bd 2 false] (aa [aS 3 4 1,c8 4 123 [.t 3,(fI 5000)],aV 5 .leq 4 5000,I 6 5,aq 6 true (aS 7 4 1),aq 6 true (cA 8 124 7),dD 9 6 8,I 2 9] .ret))
@[simp] def alQ:List bB:=[.tmp 2]
def zh:C:=(aa [cw 2 0,eu 4 1] (.seq (aa [aB 7 0 1 2,av 8 1 7,aV 9 .eql 8 1] (aU 9 (aa [I 10 1,aB 11 1 1 2,av 12 1 11,b8 13 126 10 12,I 4 13] .ret) .skip)) (.seq (aa [aB 14 3 1 2,av 15 1 14,cg 16 15,bU 17 0] (fp 18 17 16 (.seq (.block 1 (aa [cp 19 4 15 17,aS 20 4 19,cO 6 dY,bz 4 6 20] (.region [aS 21 4 6,I 22 1,b8 23 58 21 22,I 1 23]))) (.region [aV 24 .add 17 1,I 17 24])))) (aa [I 25 1,I 4 25] .ret))))
@[simp] def A1:List bB:=[.tmp 4]
def QY:C:=(aa [cw 3 1,cO 4 dY,bd 5 false] (aa [I 7 0,aS 8 4 3,b8 9 127 7 8,cO 6 dY,bz 4 6 9] (.seq (.drawn true 13 [aS 10 4 6,aS 11 4 6,cA 12 128 11,bz 4 4 10,I 5 12]) .ret)))
@[simp] def W5:List bB:=[.cell 4 true 4,.tmp 5]
def QP:C:=(aa [bd 6 false] (aa [I 7 0,I 8 1,bn 9 .geq 7 8,I 10 9,b6 10 true 11 0,b6 10 true 12 2,aq 10 true (bn 13 .leq 11 12),dD 14 10 13,I 6 14] .ret))
@[simp] def W0:List bB:=[.tmp 6]
def Jf:C:=(aa [bd 2 false] (.seq (aa [I 9 0,cA 10 145 9,cd 11 10] (aU 11 (aa [bd 2 false] .ret) .skip)) (.seq (aa [I 12 0,cg 13 12,bU 14 0] (fp 15 14 13 (.seq (.block 1 (aa [cp 16 5 12 14,aS 17 5 16,cO 4 iK,bz 5 4 17] (.seq (aa [gY 18 1 4 4,aB 19 0 1 18,av 20 1 19,aV 21 .eql 20 1,I 22 21,aq 22 true (gY 23 1 4 4),aq 22 true (aB 24 1 1 23),aq 22 true (av 25 1 24),aq 22 true (aB 26 0 1 4),aq 22 true (av 27 1 26),aq 22 true (bn 28 .geq 25 27),dD 29 22 28] (aU 29 (aa [bd 2 false] .ret) .skip)) (aa [gY 30 1 4 4,aS 31 4 30,c8 32 58 [.t 31,(.c (.slice 1 .nil []))],cg 33 32,bU 34 0] (.block 2 (.loop (aa [bn 35 .lss 34 33] (.seq (aU 35 .skip (.exit 2)) (.seq (.block 3 (aa [cp 36 1 32 34,av 37 1 36,I 6 37] (aa [I 39 0,I 40 6,b8 41 146 39 40,I 38 41,cn 42 0 38,cn 43 1 38,cO 7 dY,bz 4 7 42,I 8 43] (aa [I 44 8] (aU 44 (aa [bd 2 false] .ret) .skip))))) (.region [aV 45 .add 34 1,I 34 45])))))))))) (.region [aV 46 .add 14 1,I 14 46])))) (aa [bd 2 true] .ret))))
@[simp] def MT:List bB:=[.tmp 2]
def QJ:C:=(aa [bd 2 false] (.seq (aa [bU 3 0] (.block 0 (.loop (.seq (aa [I 5 3,I 6 0,b9 7 (.slen (.t 6)),bn 8 .lss 5 7] (aU 8 .skip (.exit 0))) (.seq (.block 1 (aa [I 11 0,I 12 3,b9 13 (.sidx (.t 11) (.t 12)),b9 14 (.bin .geq false (.t 13) (.c (.int .u8 97))),I 15 14,b6 15 true 16 0,b6 15 true 17 3,aq 15 true (b9 18 (.sidx (.t 16) (.t 17))),aq 15 true (b9 19 (.bin .leq false (.t 18) (.c (.int .u8 122)))),dD 20 15 19,I 4 20] (aa [I 21 4,cd 22 21,I 23 22,b6 23 true 24 3,aq 23 true (aV 25 .eql 24 0),b6 23 true 26 25,b6 26 false 27 0,b6 26 false 28 3,aq 26 false (b9 29 (.sidx (.t 27) (.t 28))),aq 26 false (b9 30 (.bin .neq false (.t 29) (.c (.int .u8 45)))),b6 26 false 31 30,b6 31 true 32 0,b6 31 true 33 3,aq 31 true (b9 34 (.sidx (.t 32) (.t 33))),aq 31 true (b9 35 (.conv .i64 (.t 34))),aq 31 true (c8 36 75 [.t 35,(fI 48),(fI 57)]),aq 31 true (cd 37 36),aq 26 false (dD 38 31 37),aq 23 true (cU 39 26 38),dD 40 23 39] (aU 40 (aa [bd 2 false] .ret) .skip)))) (.region [I 9 3,aV 10 .add 9 1,I 3 10])))))) (aa [I 41 0,b9 42 (.slen (.t 41)),c8 43 75 [.t 42,(fI 1),(fI 12)],I 2 43] .ret)))
@[simp] def AY:List bB:=[.tmp 2]
def QQ:C:=(aa [cw 2 0,bU 4 0] (aa [bU 5 1] (.seq (aa [aB 8 3 1 2,av 9 1 8,cg 10 9,bU 11 0] (fp 12 11 10 (.seq (.block 1 (aa [cp 13 4 9 11,aS 14 4 13,cO 7 dY,bz 4 7 14] (.seq (aa [I 15 5,I 16 1,bn 17 .gtr 15 16] (aU 17 (aa [I 18 5,I 4 18] .ret) .skip)) (.region [I 19 5,aS 20 4 7,I 21 1,I 22 5,bn 23 .sub 21 22,b8 24 123 20 23,bn 25 .add 19 24,I 5 25])))) (.region [aV 26 .add 11 1,I 11 26])))) (aa [I 27 5,I 4 27] .ret))))
@[simp] def MU:List bB:=[.tmp 4]
def l1:C:=(aa [cw 1 0,bd 2 false] (.seq (aa [aB 3 0 1 1,av 4 1 3,aV 5 .neq 4 1,I 6 5,aq 6 true (aB 7 0 1 1),aq 6 true (av 8 1 7),aq 6 true (aV 9 .neq 8 3),dD 10 6 9,I 11 10,aq 11 true (aB 12 1 1 1),aq 11 true (av 13 1 12),aq 11 true (aV 14 .neq 13 0),dD 15 11 14,I 16 15,aq 16 false (aB 17 0 1 1),aq 16 false (av 18 1 17),aq 16 false (aV 19 .neq 18 2),b6 16 false 20 19,aq 20 true (aB 21 2 1 1),aq 20 true (av 22 1 21),xa 20 true 23 (.bin .neq false (.t 22) (.c (.str []))),aq 16 false (dD 24 20 23),cU 25 16 24,I 26 25,aq 26 false (aB 27 0 1 1),aq 26 false (av 28 1 27),aq 26 false (aV 29 .neq 28 4),b6 26 false 30 29,aq 30 true (aB 31 3 1 1),aq 30 true (av 32 1 31),aq 30 true (cg 33 32),aq 30 true (aV 34 .gtr 33 0),aq 26 false (dD 35 30 34),cU 36 26 35] (aU 36 (aa [bd 2 false] .ret) .skip)) (.seq (aa [aB 37 0 1 1,av 38 1 37] (.block 0 (aa [aV 40 .eql 38 0,I 39 40] (aU 39 (aa [bd 2 true] .ret) (aa [aV 42 .eql 38 1,I 41 42] (aU 41 (aa [aB 43 1 1 1,av 44 1 43,c8 45 75 [.t 44,(fI 0),(fI 100000)],I 2 45] .ret) (aa [aV 47 .eql 38 2,I 46 47] (aU 46 (aa [aB 48 2 1 1,av 49 1 48,cA 50 119 49,I 2 50] .ret) (aa [aV 52 .eql 38 3,I 51 52] (aU 51 (aa [aB 53 1 1 1,av 54 1 53,c8 55 75 [.t 54,(fI (-1000000000)),(fI 1000000000)],I 2 55] .ret) (aa [aV 57 .eql 38 4,I 56 57] (aU 56 (aa [aB 58 3 1 1,av 59 1 58,cg 60 59,aV 61 .eql 60 2,I 62 61,aq 62 true (aB 63 3 1 1),aq 62 true (av 64 1 63),aq 62 true (jY 65 4 64 0),aq 62 true (aS 66 4 65),aq 62 true (cA 67 124 66),dD 68 62 67,I 69 68,aq 69 true (aB 70 3 1 1),aq 69 true (av 71 1 70),aq 69 true (jY 72 4 71 1),aq 69 true (aS 73 4 72),aq 69 true (cA 74 124 73),dD 75 69 74,I 2 75] .ret) .skip)))))))))))) (aa [bd 2 false] .ret))))
@[simp] def lU:List bB:=[.tmp 2]
def QS:C:=(aa [eu 4 1] (aa [I 7 0,cg 8 7,I 5 8] (.seq (.block 0 (.loop (.seq (aa [I 9 5,aV 10 .gtr 9 0,I 11 10,b6 11 true 12 0,b6 11 true 13 5,aq 11 true (aV 14 .sub 13 1),aq 11 true (cp 15 1 12 14),aq 11 true (av 16 1 15),b6 11 true 17 1,aq 11 true (bn 18 .geq 16 17),dD 19 11 18] (aU 19 .skip (.exit 0))) (.block 1 (.region [I 20 5,aV 21 .sub 20 1,I 5 21]))))) (.seq (aa [I 22 5,I 23 0,cg 24 23,bn 25 .lss 22 24,I 26 25,b6 26 true 27 0,b6 26 true 28 5,aq 26 true (cp 29 1 27 28),aq 26 true (av 30 1 29),b6 26 true 31 1,aq 26 true (bn 32 .eql 30 31),dD 33 26 32] (aU 33 (aa [I 34 0,I 4 34] .ret) .skip)) (aa [eb 35 1 3 [],I 36 0,I 37 5,b9 38 (.lsl 1 (.t 36) none (some (.t 37))),gR 39 1 3 35 38,I 6 39] (aa [I 40 6,I 41 1,eb 42 1 3 [.t 41],gR 43 1 3 40 42,I 6 43] (aa [I 44 6,I 45 0,I 46 5,b9 47 (.lsl 1 (.t 45) (some (.t 46)) none),gR 48 1 3 44 47,I 4 48] .ret)))))))
@[simp] def yB:List bB:=[.tmp 4]
def E1:C:=(aa [cw 3 1,cO 4 dY] (.seq (aa [aB 7 0 1 3,av 8 1 7,aV 9 .eql 8 1] (aU 9 (aa [I 11 0,aB 12 1 1 3,av 13 1 12,b8 14 146 11 13,I 10 14,cn 15 0 10,cn 16 1 10,cO 5 dY,bz 4 5 15,I 6 16] (aa [I 17 6] (aU 17 (aa [aS 18 4 5,bz 4 4 18] .ret) .skip))) .skip)) (.seq (aa [aB 19 0 1 3,av 20 1 19,aV 21 .eql 20 4] (aU 21 (.seq (.drawn true 36 [I 22 0,aB 23 3 1 3,av 24 1 23,jY 25 4 24 0,aS 26 4 25,b8 27 127 22 26,I 28 0,aB 29 3 1 3,av 30 1 29,jY 31 4 30 1,aS 32 4 31,b8 33 127 28 32,b8 34 189 27 33,bz 4 4 34]) .ret) .skip)) (aa [aS 35 4 3,bz 4 4 35] .ret))))
@[simp] def Ho:List bB:=[.cell 4 true 4]
def QR:C:=(aa [cw 1 0,bd 2 false] (aa [aS 3 4 1,c8 4 123 [.t 3,(fI 5000)],aV 5 .leq 4 5000,I 2 5] .ret))
@[simp] def W1:List bB:=[.tmp 2]
def Q2:C:=(aa [bd 2 false] (.seq (aa [I 5 0,cg 6 5,bU 7 0] (fp 8 7 6 (.seq (.block 1 (aa [I 9 7,cp 10 5 5 7,aS 11 5 10,cO 4 iK,I 3 9,bz 5 4 11] (.seq (.drawn true 41 [I 12 3,aV 13 .gtr 12 0,I 14 13,b6 14 true 15 0,b6 14 true 16 3,aq 14 true (aV 17 .sub 16 1),aq 14 true (cp 18 5 15 17),aq 14 true (aB 19 0 1 18),aq 14 true (av 20 1 19),aq 14 true (aB 21 0 1 4),aq 14 true (av 22 1 21),aq 14 true (bn 23 .geq 20 22),dD 24 14 23,I 25 24,aq 25 false (aB 26 0 1 4),aq 25 false (av 27 1 26),aq 25 false (c8 28 75 [.t 27,(fI 0),(fI 100000)]),aq 25 false (cd 29 28),cU 30 25 29,I 31 30,aq 31 false (gY 32 1 4 4),aq 31 false (aS 33 4 32),aq 31 false (cA 34 56 33),aq 31 false (cd 35 34),cU 36 31 35]) (aU 36 (aa [bd 2 false] .ret) .skip)))) (.region [aV 37 .add 7 1,I 7 37])))) (aa [I 38 0,cg 39 38,aV 40 .leq 39 400,I 2 40] .ret)))
@[simp] def MY:List bB:=[.tmp 2]
def Q0:C:=(aa [cO 4 dY,bd 5 false] (.seq (aa [I 8 0,cg 9 8,bU 10 0] (fp 11 10 9 (.seq (.block 1 (aa [cp 12 5 8 10,aS 13 5 12,cO 7 iK,bz 5 7 13] (aa [aB 14 0 1 7,av 15 1 14,I 16 1,bn 17 .eql 15 16] (aU 17 (aa [gY 18 1 4 7,aS 19 4 18,bz 4 4 19,bd 5 true] .ret) .skip)))) (.region [aV 20 .add 10 1,I 10 20])))) (aa [ha 21 dY [],bz 4 4 21,bd 5 false] .ret)))
@[simp] def MW:List bB:=[.cell 4 true 4,.tmp 5]
def Q4:C:=(aa [eu 4 5,bd 5 false] (aa [eb 10 4 30 [],I 6 10] (aa [eb 11 4 30 [],I 7 11] (.seq (aa [I 12 1,cg 13 12,bU 14 0] (fp 15 14 13 (.seq (.block 1 (aa [cp 16 5 12 14,aS 17 5 16,cO 9 iK,bz 5 9 17] (aa [I 18 6,aB 19 0 1 9,av 20 1 19,cA 21 114 20,eb 22 4 30 [.t 21],gR 23 4 30 18 22,I 6 23] (.region [I 24 7,gY 25 1 4 9,aS 26 4 25,eb 27 4 30 [.t 26],gR 28 4 30 24 27,I 7 28])))) (.region [aV 29 .add 14 1,I 14 29])))) (aa [I 30 0,I 31 6,I 32 7,c8 33 202 [.t 30,.t 31,.t 32],cn 34 0 33,cn 35 1 33,I 4 34,I 5 35] .ret)))))
@[simp] def W6:List bB:=[.tmp 4,.tmp 5]
def sI:C:=(aa [cw 4 1,cw 5 2,eu 6 5,bd 7 false] (aa [I 12 0,aS 13 4 4,b8 14 201 12 13,bz 4 4 14] (aa [I 15 0,aS 16 4 5,b8 17 201 15 16,bz 4 5 17] (.seq (aa [aB 18 0 1 4,av 19 1 18,aV 20 .eql 19 1,I 21 20,aq 21 true (aB 22 0 1 5),aq 21 true (av 23 1 22),aq 21 true (aV 24 .eql 23 1),dD 25 21 24,I 26 25,aq 26 true (aB 27 1 1 4),aq 26 true (av 28 1 27),aq 26 true (aB 29 1 1 5),aq 26 true (av 30 1 29),aq 26 true (bn 31 .lss 28 30),dD 32 26 31] (aU 32 (aa [I 33 0,aB 34 1 1 5,av 35 1 34,aS 36 4 4,c8 37 212 [.t 33,.t 35,.t 36],cn 38 0 37,cn 39 1 37,I 6 38,I 7 39] .ret) .skip)) (.seq (aa [aB 40 0 1 4,av 41 1 40,aV 42 .eql 41 1,I 43 42,aq 43 true (aB 44 0 1 5),aq 43 true (av 45 1 44),aq 43 true (aV 46 .eql 45 1),dD 47 43 46,I 48 47,aq 48 true (aB 49 1 1 4),aq 48 true (av 50 1 49),aq 48 true (aB 51 1 1 5),aq 48 true (av 52 1 51),aq 48 true (bn 53 .eql 50 52),dD 54 48 53] (aU 54 (aa [I 55 0,I 6 55,bd 7 true] .ret) .skip)) (.seq (aa [aB 56 0 1 4,av 57 1 56,aV 58 .eql 57 1] (aU 58 (aa [I 59 0,aB 60 1 1 4,av 61 1 60,aS 62 4 5,c8 63 212 [.t 59,.t 61,.t 62],cn 64 0 63,cn 65 1 63,I 6 64,I 7 65] .ret) .skip)) (.seq (aa [aB 66 0 1 5,av 67 1 66,aV 68 .eql 67 1] (aU 68 (aa [I 69 0,aB 70 1 1 5,av 71 1 70,aS 72 4 4,c8 73 212 [.t 69,.t 71,.t 72],cn 74 0 73,cn 75 1 73,I 6 74,I 7 75] .ret) .skip)) (.seq (aa [aB 76 0 1 4,av 77 1 76,aB 78 0 1 5,av 79 1 78,bn 80 .neq 77 79,I 81 80,aq 81 false (aB 82 1 1 4),aq 81 false (av 83 1 82),aq 81 false (aB 84 1 1 5),aq 81 false (av 85 1 84),aq 81 false (bn 86 .neq 83 85),cU 87 81 86,I 88 87,aq 88 false (aB 89 2 1 4),aq 88 false (av 90 1 89),aq 88 false (aB 91 2 1 5),aq 88 false (av 92 1 91),aq 88 false (bn 93 .neq 90 92),cU 94 88 93] (aU 94 (aa [eu 6 5,bd 7 false] .ret) .skip)) (.seq (aa [aB 95 3 1 4,av 96 1 95,cg 97 96,bU 98 0] (fp 99 98 97 (.seq (.block 1 (aa [I 100 98,cp 101 4 96 98,aS 102 4 101,cO 9 dY,I 8 100,bz 4 9 102] (.seq (.drawn true 119 [I 104 0,aS 105 4 9,aB 106 3 1 5,av 107 1 106,I 108 8,cp 109 4 107 108,aS 110 4 109,c8 111 180 [.t 104,.t 105,.t 110],I 103 111,cn 112 0 103,cn 113 1 103,I 10 112,I 11 113]) (.seq (aa [I 114 11,cd 115 114] (aU 115 (aa [eu 6 5,bd 7 false] .ret) .skip)) (.region [I 116 10,I 0 116]))))) (.region [aV 117 .add 98 1,I 98 117])))) (aa [I 118 0,I 6 118,bd 7 true] .ret))))))))))
@[simp] def sg:List bB:=[.tmp 6,.tmp 7]
def E2:C:=(aa [cw 3 1,cO 4 dY] (.seq (aa [aB 7 0 1 3,av 8 1 7,aV 9 .eql 8 1] (aU 9 (aa [I 11 0,aB 12 1 1 3,av 13 1 12,b8 14 146 11 13,I 10 14,cn 15 0 10,cn 16 1 10,cO 5 dY,bz 4 5 15,I 6 16] (aa [I 17 6] (aU 17 (aa [aS 18 4 5,bz 4 4 18] .ret) .skip))) .skip)) (aa [aS 19 4 3,bz 4 4 19] .ret)))
@[simp] def Hp:List bB:=[.cell 4 true 4]
def Q3:C:=(aa [eu 6 5,bd 7 false] (.seq (aa [I 12 1,cg 13 12,bU 14 0] (fp 15 14 13 (.seq (.block 1 (aa [I 16 14,cp 17 4 12 14,aS 18 4 17,cO 9 dY,I 8 16,bz 4 9 18] (.seq (.drawn true 34 [I 20 0,aS 21 4 9,I 22 2,I 23 8,cp 24 4 22 23,aS 25 4 24,c8 26 180 [.t 20,.t 21,.t 25],I 19 26,cn 27 0 19,cn 28 1 19,I 10 27,I 11 28]) (.seq (aa [I 29 11,cd 30 29] (aU 30 (aa [eu 6 5,bd 7 false] .ret) .skip)) (.region [I 31 10,I 0 31]))))) (.region [aV 32 .add 14 1,I 14 32])))) (aa [I 33 0,I 6 33,bd 7 true] .ret)))
@[simp] def MZ:List bB:=[.tmp 6,.tmp 7]
def BN:C:=(aa [cw 5 2,eu 6 5,bd 7 false] (aa [I 15 0,aS 16 4 5,b8 17 60 15 16,I 14 17,cn 18 0 14,cn 19 1 14,cO 8 dY,bz 4 8 18,I 9 19] (.seq (aa [I 20 9,cd 21 20,I 22 21,b6 22 false 23 1,aq 22 false (aS 24 4 8),aq 22 false (b8 25 233 23 24),cU 26 22 25,I 27 26,b6 27 false 28 0,aq 27 false (cg 29 28),aq 27 false (aV 30 .geq 29 400),cU 31 27 30] (aU 31 (aa [eu 6 5,bd 7 false] .ret) .skip)) (aa [eb 32 5 113 [],I 10 32] (.seq (aa [I 33 0,cg 34 33,bU 35 0] (fp 36 35 34 (.seq (.block 1 (aa [cp 37 5 33 35,aS 38 5 37,cO 12 iK,bz 5 12 38] (aa [gY 39 1 4 12,aS 40 4 39,I 41 1,aS 42 4 8,c8 43 234 [.t 40,.t 41,.t 42],cO 13 dY,bz 4 13 43] (.seq (aa [aS 44 4 13,cA 45 128 44,cd 46 45] (aU 46 (aa [eu 6 5,bd 7 false] .ret) .skip)) (.region [I 47 10,aB 48 0 1 12,av 49 1 48,aS 50 4 13,ha 51 iK [(0,1,(.t 49)),(1,4,(.t 50))],eb 52 5 113 [.t 51],gR 53 5 113 47 52,I 10 53]))))) (.region [aV 54 .add 35 1,I 35 54])))) (aa [I 55 10,I 56 1,aS 57 4 8,ha 58 iK [(0,1,(.t 56)),(1,4,(.t 57))],b8 59 235 55 58,I 6 59,bd 7 true] .ret))))))
@[simp] def A2:List bB:=[.tmp 6,.tmp 7]
def QT:C:=(aa [cw 3 1,bd 4 false] (.seq (aa [aB 7 3 1 3,av 8 1 7,cg 9 8,bU 10 0] (fp 11 10 9 (.seq (.block 1 (aa [cp 12 4 8 10,aS 13 4 12,cO 6 dY,bz 4 6 13] (aa [I 14 0,aS 15 4 6,b8 16 233 14 15] (aU 16 (aa [bd 4 true] .ret) .skip)))) (.region [aV 17 .add 10 1,I 10 17])))) (aa [aB 18 0 1 3,av 19 1 18,aV 20 .eql 19 1,I 21 20,aq 21 true (aB 22 1 1 3),aq 21 true (av 23 1 22),b6 21 true 24 0,aq 21 true (bn 25 .eql 23 24),dD 26 21 25,I 4 26] .ret)))
@[simp] def MV:List bB:=[.tmp 4]
def E0:C:=(aa [cw 3 0,cw 5 2,cO 6 dY] (.seq (aa [aB 7 0 1 3,av 8 1 7,aV 9 .eql 8 1,I 10 9,aq 10 true (aB 11 1 1 3),aq 10 true (av 12 1 11),b6 10 true 13 1,aq 10 true (bn 14 .eql 12 13),dD 15 10 14] (aU 15 (aa [aS 16 4 5,bz 4 6 16] .ret) .skip)) (.seq (aa [aB 17 0 1 3,av 18 1 17,aV 19 .eql 18 4] (aU 19 (.seq (.drawn true 36 [aB 20 3 1 3,av 21 1 20,jY 22 4 21 0,aS 23 4 22,I 24 1,aS 25 4 5,c8 26 234 [.t 23,.t 24,.t 25],aB 27 3 1 3,av 28 1 27,jY 29 4 28 1,aS 30 4 29,I 31 1,aS 32 4 5,c8 33 234 [.t 30,.t 31,.t 32],b8 34 189 26 33,bz 4 6 34]) .ret) .skip)) (aa [aS 35 4 3,bz 4 6 35] .ret))))
@[simp] def Hn:List bB:=[.cell 6 true 4]
def Q1:C:=(aa [cw 3 1,eu 4 5] (aa [I 7 0,cg 8 7,I 5 8] (.seq (.block 0 (.loop (.seq (.seq (.drawn true 38 [I 9 5,aV 10 .gtr 9 0,I 11 10,b6 11 true 12 0,b6 11 true 13 5,aq 11 true (aV 14 .sub 13 1),aq 11 true (cp 15 5 12 14),aq 11 true (aB 16 0 1 15),aq 11 true (av 17 1 16),aq 11 true (aB 18 0 1 3),aq 11 true (av 19 1 18),aq 11 true (bn 20 .gtr 17 19),dD 21 11 20]) (aU 21 .skip (.exit 0))) (.block 1 (.region [I 22 5,aV 23 .sub 22 1,I 5 23]))))) (aa [eb 24 5 113 [],I 25 0,I 26 5,b9 27 (.lsl 5 (.t 25) none (some (.t 26))),gR 28 5 113 24 27,I 6 28] (aa [I 29 6,aS 30 5 3,eb 31 5 113 [.t 30],gR 32 5 113 29 31,I 6 32] (aa [I 33 6,I 34 0,I 35 5,b9 36 (.lsl 5 (.t 34) (some (.t 35)) none),gR 37 5 113 33 36,I 4 37] .ret))))))
@[simp] def MX:List bB:=[.tmp 4]
def k5:List (Nat×dI):=[
 (3,⟨1,8,.int .i64,.int .i64 0⟩),
 (5,⟨1,1,.int .u8,.int .u8 0⟩),
 (9,⟨1,16,.str,.str []⟩),
 (27,⟨1,24,.slice 30,.slice 4 .nil []⟩),
 (30,⟨4,56,.struct [(0,3),(1,3),(2,9),(3,27)],.agg [.int .i64 0,.int .i64 0,.str [],.slice 4 .nil []]⟩),
 (46,⟨1,24,.slice 113,.slice 5 .nil []⟩),
 (76,⟨1,24,.slice 3,.slice 1 .nil []⟩),
 (113,⟨5,64,.struct [(0,3),(1,30)],.agg [.int .i64 0,.int .i64 0,.int .i64 0,.str [],.slice 4 .nil []]⟩)]
theorem eO:fU al k5=true:=by kernel_rfl
theorem aj8:bY k5 QO alQ 1 Tryz.f56=true:=by kernel_rfl
theorem adD:al.funcs[(56:Nat)]? =some Tryz.f56:=Tryz.func56
theorem Dn:bY k5 zh A1 2 Tryz.f58=true:=by kernel_rfl
theorem BY:al.funcs[(58:Nat)]? =some Tryz.f58:=Tryz.func58
theorem aki:bY k5 QY W5 2 Tryz.f60=true:=by kernel_rfl
theorem adN:al.funcs[(60:Nat)]? =some Tryz.f60:=Tryz.func60
theorem aj9:bY k5 QP W0 3 Tryz.f75=true:=by kernel_rfl
theorem adE:al.funcs[(75:Nat)]? =some Tryz.f75:=Tryz.func75
theorem V5:bY k5 Jf MT 1 Tryz.f76=true:=by kernel_rfl
theorem Sg:al.funcs[(76:Nat)]? =some Tryz.f76:=Tryz.func76
theorem aj3:bY k5 QJ AY 1 Tryz.f119=true:=by kernel_rfl
theorem ady:al.funcs[(119:Nat)]? =some Tryz.f119:=Tryz.func119
theorem aka:bY k5 QQ MU 2 Tryz.f123=true:=by kernel_rfl
theorem adF:al.funcs[(123:Nat)]? =some Tryz.f123:=Tryz.func123
theorem mO:bY k5 l1 lU 1 Tryz.f124=true:=by kernel_rfl
theorem my:al.funcs[(124:Nat)]? =some Tryz.f124:=Tryz.func124
theorem akc:bY k5 QS yB 2 Tryz.f126=true:=by kernel_rfl
theorem adH:al.funcs[(126:Nat)]? =some Tryz.f126:=Tryz.func126
theorem Mq:bY k5 E1 Ho 2 Tryz.f127=true:=by kernel_rfl
theorem JT:al.funcs[(127:Nat)]? =some Tryz.f127:=Tryz.func127
theorem akb:bY k5 QR W1 1 Tryz.f128=true:=by kernel_rfl
theorem adG:al.funcs[(128:Nat)]? =some Tryz.f128:=Tryz.func128
theorem akm:bY k5 Q2 MY 1 Tryz.f145=true:=by kernel_rfl
theorem adR:al.funcs[(145:Nat)]? =some Tryz.f145:=Tryz.func145
theorem akk:bY k5 Q0 MW 2 Tryz.f146=true:=by kernel_rfl
theorem adP:al.funcs[(146:Nat)]? =some Tryz.f146:=Tryz.func146
theorem ako:bY k5 Q4 W6 2 Tryz.f152=true:=by kernel_rfl
theorem adT:al.funcs[(152:Nat)]? =some Tryz.f152:=Tryz.func152
theorem u4:bY k5 sI sg 3 Tryz.f180=true:=by kernel_rfl
theorem uu:al.funcs[(180:Nat)]? =some Tryz.f180:=Tryz.func180
theorem Mr:bY k5 E2 Hp 2 Tryz.f201=true:=by kernel_rfl
theorem JU:al.funcs[(201:Nat)]? =some Tryz.f201:=Tryz.func201
theorem akn:bY k5 Q3 MZ 3 Tryz.f202=true:=by kernel_rfl
theorem adS:al.funcs[(202:Nat)]? =some Tryz.f202:=Tryz.func202
theorem G1:bY k5 BN A2 3 Tryz.f212=true:=by kernel_rfl
theorem Fp:al.funcs[(212:Nat)]? =some Tryz.f212:=Tryz.func212
theorem akd:bY k5 QT MV 2 Tryz.f233=true:=by kernel_rfl
theorem adI:al.funcs[(233:Nat)]? =some Tryz.f233:=Tryz.func233
theorem Mp:bY k5 E0 Hn 3 Tryz.f234=true:=by kernel_rfl
theorem JS:al.funcs[(234:Nat)]? =some Tryz.f234:=Tryz.func234
theorem akl:bY k5 Q1 MX 2 Tryz.f235=true:=by kernel_rfl
theorem adQ:al.funcs[(235:Nat)]? =some Tryz.f235:=Tryz.func235
mutual
def lA:bI→Int→Int
 | .mk _ _ _ args,m=>oA args 1 m
def oA:List bI→Int→Int→Int
 |[],n,_=>n
 |x::xs,n,m=>if m<n then n else oA xs (n+lA x (m-n)) m
end
mutual
theorem Jk:∀(t:bI) (m:Int),0≤m→1≤lA t m∧lA t m≤m+1
 | .mk _ _ _ args,m,h=>by simp only[lA];exact Rv args 1 m h (by omega) (by omega)
theorem Rv:∀(l:List bI) (n m:Int),0≤m→1≤n→n≤m+1→1≤oA l n m∧oA l n m≤m+1
 |[],n,m,_,J,U=>by simp only[oA];exact⟨J,U⟩
 |x::xs,n,m,bD,J,U=>by
  simp only[oA];split
  ·exact⟨J,U⟩
  ·have:=Jk x (m-n) (by omega);exact Rv xs _ m bD (by omega) (by omega)
end
theorem E8:∀(t:T) (m:Int),0≤m→(lA t.tm m≤m↔(t.size:Int)≤m)∧((t.size:Int)≤m→lA t.tm m=t.size)
 | .pair a b,m,h=>by
  have br:=T.size_pos a;have ae:=T.size_pos b;simp only[T.tm,lA,oA,T.size];by_cases J:m<1
  ·rw[if_pos J];exact⟨by omega,fun h=>by omega⟩
  ·rw[if_neg J];obtain⟨bG,a2⟩:=E8 a (m-1) (by omega);have a3:=Jk a.tm (m-1) (by omega);by_cases U:(a.size:Int)≤m-1
   ·have e:=a2 U;rw[e];by_cases ar:m<1+(a.size:Int)
    ·omega
    ·rw[if_neg ar];obtain⟨b1,b2⟩:=E8 b (m-(1+a.size)) (by omega);refine⟨by omega,fun h=>?_⟩;rw[b2 (by omega)];omega
   ·have:¬lA a.tm (m-1)≤m-1:=fun h=>U (bG.1 h);rw[if_pos (by omega)];exact⟨by omega,fun h=>by omega⟩
 | .nil,m,h=>by simp[T.tm,lA,oA,T.size]
 | .var _,m,h=>by simp[T.tm,lA,oA,T.size]
 | .sym _,m,h=>by simp[T.tm,lA,oA,T.size]
 | .num _,m,h=>by simp[T.tm,lA,oA,T.size]
theorem aaP(t:bI)(m:Int):lA t m=oA t.args 1 m:=by cases t;rfl
theorem YC(t:bI):∀m:Int,0≤m→m≤1000000→bt al 123 [enc t,.int .i64 m] (.int .i64 (lA t m)):=by
 suffices H:∀(k:Nat) (t:bI),t.sz≤k→∀m:Int,0≤m→m≤1000000→bt al 123 [enc t,.int .i64 m] (.int .i64 (lA t m))from H _ t (eY _)
 intro k;induction k with
 |zero=>intro t aL;cases t;simp[bI.sz]at aL
 |succ k bZ=>
  intro t aL m bD J;refine bc eO adF aka fun aN=>?_;unfold QQ;have eV:t.args.length≤68719476736:=by rw[vG]at aN;simp[ey,ea,en,lim]at aN;omega
  simp;refine dR [1,9,10] (fun i (n:Int)=>[(5,.int .i64 n),(11,.int .i64 i)]) t.args.length (fun i n=>(1≤n∧n≤m+1)∧oA (t.args.drop i) n m=lA t m) 1 bW ⟨by omega,by simp[aaP]⟩ (fun n af _=>?_) (fun i n hi af _=>?_)
  ·simp;(with_reducible repeat' first|refine aj ?_|simp);simp[bu,MU,aY,aZ,aW];have:=af.2;simp[oA]at this;exact this
  ·obtain⟨⟨rT,Cz⟩,af⟩:=af;obtain⟨x,ab,cD⟩:=dP hi;have aR:t.args.drop i=x::t.args.drop (i+1):=by rw[lv hi,cD]
   have ep:x.sz≤k:=by have:=NP (dZ ab);omega
   rw[aR]at af;simp only[oA]at af;simp[hi,cD];by_cases ae:m<n
   ·rw[if_pos ae]at af;(with_reducible repeat' first|refine aj ?_|simp[ae]);simp[bu,MU,aY,aZ,aW];exact af
   ·rw[if_neg ae]at af;have ay:=Jk x (m-n) (by omega);((with_reducible repeat' first|refine aj ?_|refine aD (bZ x ep (m-n) (by omega) (by omega)) ?_|refine aE (bZ x ep (m-n) (by omega) (by omega)) ?_|simp[ae]|((first|apply bK|apply bM|apply bL)<;>intro h<;>try simp at h))<;>(try exact cc));exact bT.rng (n+lA x (m-n)) hi ⟨by omega,af⟩ bW
theorem Bk(t:T):bt al 128 [t.e] (.bool (decide (t.size≤5000))):=by
 have ay:=(E8 t 5000 (by omega)).1;have key:=YC t.tm 5000 (by omega) (by omega);rw[hU]at key;refine bc eO adG akb fun aN=>?_;unfold QR;simp;(with_reducible repeat' first|refine aj ?_|refine aD key ?_|refine aE key ?_|simp);simp[bu,W1,aY,aZ,aW];have:(lA t.tm 5000≤5000)=(t.size≤5000):=by rw[ay];simp;omega
 simp[this]
def ag7(l:List ao)(v:Int)(k:Nat)(st:bs):Prop:=∃i:Nat,i≤l.length∧k=l.length-i∧ds l v=ds (l.drop i) v∧st=⟨[(1,.int .i64 v),(4,.ptr (.loc 0) 0),(8,.slice 5 .no (l.map ao.e)),(9,.int .i64 l.length),(10,.int .i64 i)],[(.loc 0,[.int .i64 0,.int .i64 0,.str [],.slice 4 .nil []])],[],1,[]⟩
set_option maxRecDepth 4000 in
theorem vp(l:List ao)(v:Int)(aw:l.length≤1000000):bt al 146 [.slice 5 .no (l.map ao.e),.int .i64 v] (.tuple [((ds l v).getD .nil).e,.bool (ds l v).isSome]):=by
 refine bc eO adP akk fun aN=>?_;unfold Q0;simp;refine pA (ag7 l v) l.length _ bW ⟨0,by omega,rfl,by simp,rfl⟩ ?_;rintro k st ⟨i,hi,ad,aX,rfl⟩ kX cT;clear kX cT;by_cases bE:i<l.length
 ·obtain⟨b,ae⟩:∃b,l[i]? =some b:=⟨_,cl bE⟩;have Th:l.drop i=b::l.drop (i+1):=by rw[lv bE];rw[cl bE]at ae;simp at ae;rw[ae]
  have cG:∀h,l[i]'h=b:=fun h=>by rw[cl h]at ae;simpa using ae
  simp[cG,bE];(with_reducible repeat' first|((first|apply bK|apply bM|apply bL)<;>intro h<;>try simp at h)|refine aj ?_|simp[cG])
  ·have:ds l v=some b.t:=by rw[aX,Th];simp[ds,h]
   simp[bu,MW,aY,aZ,aW];simp[this]
  ·refine bT.next (l.length-(i+1)) (by omega) ⟨i+1,by omega,rfl,?_,rfl⟩ bW;rw[aX,Th];simp[ds,h]
 ·have:ds l v=none:=by rw[aX,List.drop_of_length_le (by omega)];simp[ds]
  simp[bE];(with_reducible repeat' first|((first|apply bK|apply bM|apply bL)<;>intro h<;>try simp at h)|refine aj ?_|simp);simp[bu,MW,aY,aZ,aW];simp[this]
theorem anO(l:List ao)(aw:l.length≤1000000)(t:T):bt al 127 [.slice 5 .no (l.map ao.e),t.e] (t.sub (ds l)).e:=by
 induction t with
 |pair a b dW dX=>
  refine bc eO JT Mq fun aN=>?_;unfold E1;simp;(with_reducible repeat' first|refine aj ?_|refine aD dW ?_|refine aE dW ?_|refine aD dX ?_|refine aE dX ?_|refine aD (H9 _ _) ?_|refine aE (H9 _ _) ?_|simp);all_goals simp[bu,Ho,aY,aZ,aW]
  all_goals simp[T.sub]
 |var n=>
  refine bc eO JT Mq fun aN=>?_;unfold E1;simp;((with_reducible repeat' first|refine aj ?_|refine aD (vp l n aw) ?_|refine aE (vp l n aw) ?_|simp|((first|apply bK|apply bM|apply bL)<;>intro h<;>try simp at h))<;>(try exact cc));all_goals simp[bu,Ho,aY,aZ,aW]
  all_goals cases ae:ds l n<;>simp_all[T.sub]
 |_=>
  refine bc eO JT Mq fun aN=>?_;unfold E1;simp;(with_reducible repeat' first|refine aj ?_|simp);all_goals simp[bu,Ho,aY,aZ,aW]
  all_goals simp[T.sub]
theorem YF(l:List ao)(aw:l.length≤1000000)(t:T):bt al 127 [.slice 5 .no (l.map ao.e),t.e] (t.ap (b7 l)).e:=by have:=anO l aw t;rw[XU]at this;exact this
theorem D8(l:List ao)(aw:l.length≤1000000)(t:T):bt al 60 [.slice 5 .no (l.map ao.e),t.e] (.tuple [(t.ap (b7 l)).e,.bool (decide ((t.ap (b7 l)).size≤5000))]):=by refine bc eO adN aki fun aN=>?_;unfold QY;simp;(with_reducible repeat' first|refine aj ?_|refine aD (YF l aw t) ?_|refine aE (YF l aw t) ?_|refine aD (Bk _) ?_|refine aE (Bk _) ?_|simp);simp[bu,W5,aY,aZ,aW]
def wH(v:Int)(l:List T):Bool:=l.any (T.occ v)
theorem VM(v:Int)(t:T):t.occ v=(wH v t.args||(t.kind==1&&t.int==v)):=by cases t<;>simp[T.occ,wH]
theorem w5(v:Int)(t:T):bt al 233 [.int .i64 v,t.e] (.bool (t.occ v)):=by
 suffices H:∀(k:Nat) (t:T),t.size≤k→bt al 233 [.int .i64 v,t.e] (.bool (t.occ v))from H _ t (eY _)
 intro k;induction k with
 |zero=>intro t aL;have:=T.size_pos t;omega
 |succ k bZ=>
  intro t aL;have rL:t.args.length≤2:=by cases t<;>simp
  refine bc eO adI akd fun aN=>?_;unfold QT;simp;refine dR [0,3,8,9] (fun i (_:Unit)=>[(10,.int .i64 i)]) t.args.length (fun i _=>wH v (t.args.drop i)=wH v t.args) () bW (by simp) (fun _ af _=>?_) (fun i _ hi af _=>?_)
  ·have bD:wH v t.args=false:=by rw[←af];simp[wH]
   rw[VM,bD];simp;((with_reducible repeat' first|refine aj ?_|simp|((first|apply bK|apply bM|apply bL)<;>intro h<;>try simp at h))<;>(try exact cc));all_goals simp[bu,MV,aY,aZ,aW]
   all_goals simp_all
  ·obtain⟨x,ab,cD⟩:=dP hi;have aR:t.args.drop i=x::t.args.drop (i+1):=by rw[lv hi,cD]
   have ep:x.size≤k:=by have hm:=dZ ab;have:=T.size_pos x;cases t<;>simp at hm;rcases hm with rfl|rfl<;>simp[T.size]at aL<;>omega
   simp only[aR,wH,List.any_cons]at af;simp[hi,cD];cases ax:x.occ v with
   |true=>
    rw[ax]at af;simp at af;have bD:t.occ v=true:=by rw[VM];simp[wH];left;simpa using af
    (with_reducible repeat' first|refine aj ?_|refine aD (bZ x ep) ?_|refine aE (bZ x ep) ?_|simp[ax]);simp[bu,MV,aY,aZ,aW];simp[bD]
   |false=>rw[ax]at af;have UZ:=bZ x ep;exact gI
theorem Ia(v:Int)(x t:T):bt al 234 [t.e,.int .i64 v,x.e] (t.ap (Go.Pv.one v x)).e:=by
 induction t with
 |pair a b dW dX=>
  refine bc eO JS Mp fun aN=>?_;unfold E0;simp;(with_reducible repeat' first|refine aj ?_|refine aD dW ?_|refine aE dW ?_|refine aD dX ?_|refine aE dX ?_|refine aD (H9 _ _) ?_|refine aE (H9 _ _) ?_|simp);all_goals simp[bu,Hn,aY,aZ,aW]
  all_goals simp[T.ap]
 |var n=>
  refine bc eO JS Mp fun aN=>?_;unfold E0;simp;((with_reducible repeat' first|refine aj ?_|simp|((first|apply bK|apply bM|apply bL)<;>intro h<;>try simp at h))<;>(try exact cc));all_goals simp[bu,Hn,aY,aZ,aW]
  all_goals simp_all[T.ap,Go.Pv.one]
 |_=>
  refine bc eO JS Mp fun aN=>?_;unfold E0;simp;(with_reducible repeat' first|refine aj ?_|simp);all_goals simp[bu,Hn,aY,aZ,aW]
  all_goals simp[T.ap]
theorem Ic(s:List ao)(aw:s.length≤1000000)(t:T):bt al 201 [.slice 5 .no (s.map ao.e),t.e] (hq s t).e:=by
 cases t with
 |var n=>
  cases ae:ds s n with
  |none=>refine bc eO JU Mr fun aN=>?_;unfold E2;simp;(with_reducible repeat' first|refine aj ?_|refine aD (vp s n aw) ?_|refine aE (vp s n aw) ?_|simp[ae]);simp[bu,Hp,aY,aZ,aW];simp[hq,b7,ae]
  |some x=>refine bc eO JU Mr fun aN=>?_;unfold E2;simp;(with_reducible repeat' first|refine aj ?_|refine aD (vp s n aw) ?_|refine aE (vp s n aw) ?_|simp[ae]);simp[bu,Hp,aY,aZ,aW];simp[hq,b7,ae]
 |_=>refine bc eO JU Mr fun aN=>?_;unfold E2;simp;(with_reducible repeat' first|refine aj ?_|simp);simp[bu,Hp,aY,aZ,aW];simp[hq]
theorem Ue(b:ao):∀(s:List ao) (k:Nat),(∀i c,i<k→s[i]? =some c→c.v≤b.v)→(∀c,s[k]? =some c→b.v<c.v)→k≤s.length→oT b s=s.take k++b::s.drop k
 |[],k,_,_,ad=>by simp at ad;subst ad;rfl
 |c::s,0,_,U,_=>by have:=U c rfl;simp[oT,this]
 |c::s,k+1,J,U,ad=>by have:=J 0 c (by omega) rfl;simp only[oT,if_neg (by omega:¬b.v<c.v),List.take_succ_cons,List.drop_succ_cons,bX];rw[Ue b s k (fun i d hi aR=>J (i+1) d (by omega) (by simpa using aR)) (fun d aR=>U d (by simpa using aR)) (by simpa using ad)]
theorem anN(s:List ao)(b:ao)(aw:s.length≤1000000)(br:iP s):bt al 235 [.slice 5 .no (s.map ao.e),b.e] (.slice 5 .no ((oT b s).map ao.e)):=by
 refine bc eO adQ akl fun aN=>?_;unfold Q1;simp;refine vH [0,3] (fun(k:Nat)=>[(5,.int .i64 k)]) (fun k=>k) (fun k=>k≤s.length∧∀c,s[k]? =some c→b.v<c.v) s.length bW ⟨by omega,fun c h=>by simp at h⟩ (fun k af _=>?_);obtain⟨ad,af⟩:=af;have vT:(∀c,0<k→s[k-1]? =some c→c.v≤b.v)→oT b s=s.take k++b::s.drop k:=fun h=>Ue b s k (fun i c hi ay=>by
  obtain⟨d,aR⟩:∃d,s[k-1]? =some d:=⟨_,cl (by omega)⟩;have J:=h d (by omega) aR;rcases Nat.lt_or_ge i (k-1)with U|U
  ·have sW:=(fV.1 ay);have mB:=(fV.1 aR);have:=pU.1 br i (k-1) sW.1 mB.1 U;rw[sW.2,mB.2]at this;omega
  ·have:i=k-1:=by omega
   subst this;rw[aR]at ay;cases ay;exact J) af ad
 rcases Nat.eq_zero_or_pos k with rfl|fy
 ·have e:=vT fun c h=>by omega
  rw[e];simp;(with_reducible repeat' first|refine aj ?_|simp);simp[bu,MX,aY,aZ,aW];try simp[hD]
 ·obtain⟨d,aR⟩:∃d,s[k-1]? =some d:=⟨_,cl (by omega)⟩;have ak:((k:Int)-1).toNat=k-1:=by omega
  have aC:∀h,(s[k-1]'h)=d:=fun h=>by rw[cl h]at aR;exact fq aR
  have ja:(0:Int)<k:=by omega
  by_cases ae:b.v<d.v
  ·simp[fy,ja,ak,aC,ae,aR];(with_reducible repeat' first|refine aj ?_|simp[fy,ja,ak,aC,ae,aR]);refine bT.whl (k-1) (by omega) ⟨by omega,fun c ay=>by rw[aR]at ay;cases ay;exact ae⟩ ?_;have bk:((k-1:Nat):Int)=(k:Int)-1:=by omega
   simp[bk];exact bW
  ·have e:=vT fun c _ ay=>by rw[aR]at ay;cases ay;omega
   rw[e];simp[fy,ja,ak,aC,ae,aR];(with_reducible repeat' first|refine aj ?_|simp[fy,ja,ak,aC,ae,aR]);simp[bu,MX,aY,aZ,aW];have dg:lY s.length (s.map ao.e)=s.map ao.e:=hD (by simp);rw[dg,←List.map_take,←List.map_drop,←gS,←List.map_append];exact XR _
def ND(v:Int)(x:T)(b:ao):ao:=⟨b.v,b.t.ap (Go.Pv.one v x)⟩
def ahh(s:List ao)(v:Int)(x:T)(i:Nat)(out:List ao):Prop:=out=(s.take i).map (ND v x)∧∀b∈s.take i,(b.t.ap (Go.Pv.one v x)).size≤5000
theorem anR(s:List ao)(v:Int)(t:T)(aw:s.length≤1000000)(br:iP s):bt al 212 [.slice 5 .no (s.map ao.e),.int .i64 v,t.e] (fc (nR s v t)):=by
 obtain⟨x,ab⟩:∃x,x=t.ap (b7 s):=⟨_,rfl⟩;have rM:=D8 s aw t;rw[←ab]at rM;obtain⟨o,ax⟩:∃o,o=nR s v t:=⟨_,rfl⟩;have agR:x.size≤5000→x.occ v=false→s.length<400→(∀b∈s,(b.t.ap (Go.Pv.one v x)).size≤5000)→o=some (mu s v x):=fun a7 bF b0 cZ=>by rw[ax,nR,←ab,if_pos ⟨a7,bF,b0,cZ⟩]
 have dt:¬(x.size≤5000∧x.occ v=false∧s.length<400∧∀b∈s,(b.t.ap (Go.Pv.one v x)).size≤5000)→o=none:=fun q=>by rw[ax,nR,←ab,if_neg q]
 rw[←ax];clear ax;by_cases J:x.size≤5000;rotate_left
 ·rw[dt fun h=>J h.1];refine bc eO Fp G1 fun aN=>?_;unfold BN;simp;(with_reducible repeat' first|refine aj ?_|refine aD rM ?_|refine aE rM ?_|refine aD (w5 _ _) ?_|refine aE (w5 _ _) ?_|simp[J]);simp[bu,A2,aY,aZ,aW];simp[fc]
 cases U:x.occ v with
 |true=>rw[dt fun h=>by rw[U]at h;cases h.2.1];refine bc eO Fp G1 fun aN=>?_;unfold BN;simp;(with_reducible repeat' first|refine aj ?_|refine aD rM ?_|refine aE rM ?_|refine aD (w5 _ _) ?_|refine aE (w5 _ _) ?_|simp[J,U]);simp[bu,A2,aY,aZ,aW];simp[fc]
 |false=>
 by_cases ar:s.length<400;rotate_left
 ·rw[dt fun h=>ar h.2.2.1];have sQ:(400:Int)≤s.length:=by omega
  refine bc eO Fp G1 fun aN=>?_;unfold BN;simp;(with_reducible repeat' first|refine aj ?_|refine aD rM ?_|refine aE rM ?_|refine aD (w5 _ _) ?_|refine aE (w5 _ _) ?_|simp[J,U,sQ]);simp[bu,A2,aY,aZ,aW];simp[fc]
 have sQ:¬(400:Int)≤s.length:=by omega
 refine bc eO Fp G1 fun aN=>?_;unfold BN;simp;(with_reducible repeat' first|refine aj ?_|refine aD rM ?_|refine aE rM ?_|refine aD (w5 _ _) ?_|refine aE (w5 _ _) ?_|simp[J,U,sQ]);refine hH (α:=List ao) (fun i out=>⟨[(1,.int .i64 v),(8,.ptr (.loc 1) 0),(33,.slice 5 .no (s.map ao.e)),(34,.int .i64 s.length),(10,.slice 5 (.own (.loc 2)) (out.map ao.e)),(35,.int .i64 i)],[(.loc 1,[.int .i64 x.kind,.int .i64 x.int,.str x.name,.slice 4 .no (x.args.map T.e)])],[(.loc 2,⟨out.length,113,5,none⟩)],3,[]⟩) s.length (ahh s v x) [] bW ⟨by simp,by simp⟩ (fun out af _=>?_) (fun i out hi af _=>?_)
 ·obtain⟨dK,p5⟩:=af;rw[hD (eY _)]at dK p5;have afg:iP out:=by rw[dK,iP,List.pairwise_map];exact br
  have zV:out.length≤1000000:=by rw[dK];simpa using aw
  rw[agR J U ar p5];have key:=anN out ⟨v,x⟩ zV afg;simp;(with_reducible repeat' first|refine aj ?_|refine aD key ?_|refine aE key ?_|simp);simp[bu,A2,aY,aZ,aW];simp[fc,mu,dK];rfl
 ·obtain⟨dK,p5⟩:=af;obtain⟨b,aK,gj⟩:=dP hi;have wc:s.take (i+1)=s.take i++[b]:=by rw[List.take_succ,aK];rfl
  have zV:out.length≤1000000:=by rw[dK];simp;omega
  simp[hi,gj];by_cases bq:(b.t.ap (Go.Pv.one v x)).size≤5000
  ·(with_reducible repeat' first|refine aj ?_|refine aD (Ia _ _ _) ?_|refine aE (Ia _ _ _) ?_|refine aD (Bk _) ?_|refine aE (Bk _) ?_|simp[gj,hi,bq]);all_goals first|(refine⟨by unfold lim;omega,?_⟩)|skip
   (with_reducible repeat' first|refine aj ?_|simp);refine bT.rng (out++[ND v x b]) hi ⟨by rw[wc,dK,List.map_append];rfl,fun c ay=>?_⟩ ?_
   ·rw[wc]at ay;rcases ka.1 ay with ay|ay
    ·exact p5 c ay
    ·simp at ay;subst ay;exact bq
   ·simp[ND];exact⟨by simp[fresh,aJ,aF,ck,inObs,Pv.look,jm],ee (by simp[fresh,aJ,aF,ck,inObs,Pv.look,jm]),ef (by simp[fresh,aJ,aF,dV,inObs,Pv.look,jm]),by simp⟩
  ·rw[dt fun h=>bq (h.2.2.2 b (dZ aK))];(with_reducible repeat' first|refine aj ?_|refine aD (Ia _ _ _) ?_|refine aE (Ia _ _ _) ?_|refine aD (Bk _) ?_|refine aE (Bk _) ?_|simp[gj,hi,bq]);simp[bu,A2,aY,aZ,aW];simp[fc]
theorem ana{s:List ao}(ag:fM s)(aI:hE s){n:Nat}{a b:T}{o:Option (List ao)}(h:kP n s a b=some o):iT s [(a,b)] o:=by obtain⟨n',o',J,U⟩:=H5 ag aI a b;have ak:=D3 (Nat.le_max_left n n') h;have aC:=D3 (Nat.le_max_right n n') J;rw[ak]at aC;cases aC;exact U
def Bh(n:Nat):List (T×T)→List ao→Option (Option (List ao))
 |[],s=>some (some s)
 |e::r,s=>match kP n s e.1 e.2 with
  |none=>none
  |some none=>some none
  |some (some s1)=>Bh n r s1
def yh(x y:T):Bool:=x.kind==y.kind&&x.int==y.int&&x.name==y.name
theorem am8(n:Nat)(s:List ao){x y:T}(ab:x.kind≠1)(aG:y.kind≠1):j8 (kP n) s x y=if yh x y then Bh n (x.args.zip y.args) s else some none:=by
 cases x<;>cases y<;>simp[j8,yh,Bh]at ab aG⊢
 ·rename_i a b;split<;>simp_all
 ·rename_i a b;split<;>simp_all
 ·rename_i bG a2 b1 b2;cases kP n s bG b1 with
  |none=>rfl
  |some o=>cases o with
   |none=>rfl
   |some s1=>
    simp only
    cases kP n s1 a2 b2 with
    |none=>rfl
    |some o=>cases o<;>rfl
theorem ahK{x y:T}(h:yh x y=true):x.args.length=y.args.length:=by cases x<;>cases y<;>simp[yh]at h⊢
@[simp] theorem apP(o:Option (List ao)):zo 0 (fc o)=some (True,.slice 5 .no ((o.getD []).map ao.e)):=rfl
@[simp] theorem apQ(o:Option (List ao)):zo 1 (fc o)=some (True,.bool o.isSome):=rfl
set_option maxRecDepth 4000 in
theorem anU(n:Nat):∀(s:List ao) (a b:T) (o:Option (List ao)),fM s→hE s→kP n s a b=some o→bt al 180 [.slice 5 .no (s.map ao.e),a.e,b.e] (fc o):=by
 induction n with
 |zero=>intro s a b o _ _ h;simp[kP]at h
 |succ n bZ=>
  intro s a b o ag aI he;have aw:s.length≤1000000:=by have:=aI.1;omega
  have eP:=Ic s aw a;have dC:=Ic s aw b;simp only[kP]at he;generalize hq s a=x at he eP;generalize hq s b=y at he dC;have ae:=fun v t=>anR s v t aw ag.asc;have qM:∀z:T,¬z.kind=1→(z.kind==1)=false:=fun z h=>by simp[h]
  by_cases ab:x.kind=1
  ·obtain⟨i,rfl⟩:∃i,x= .var i:=by cases x<;>simp at ab;exact⟨_,rfl⟩
   by_cases aG:y.kind=1
   ·obtain⟨j,rfl⟩:∃j,y= .var j:=by cases y<;>simp at aG;exact⟨_,rfl⟩
    simp only[j8,dM]at he;subst he;rcases Int.lt_trichotomy i j with h|h|h
    ·rw[if_pos h];have key:=ae j (.var i);refine bc eO uu u4 fun aN=>?_;unfold sI;simp;(with_reducible repeat' first|refine aj ?_|refine aD eP ?_|refine aE eP ?_|refine aD dC ?_|refine aE dC ?_|refine aD key ?_|refine aE key ?_|simp[h]);simp[bu,sg,aY,aZ,aW];simp[fc]
    ·subst h;rw[if_neg (by omega),if_pos rfl];have bD:¬i<i:=by omega
     refine bc eO uu u4 fun aN=>?_;unfold sI;simp;(with_reducible repeat' first|refine aj ?_|refine aD eP ?_|refine aE eP ?_|refine aD dC ?_|refine aE dC ?_|simp[bD]);simp[bu,sg,aY,aZ,aW];simp[fc]
    ·rw[if_neg (by omega),if_neg (by omega)];have key:=ae i (.var j);have bD:¬i<j:=by omega
     have U:¬i=j:=by omega
     refine bc eO uu u4 fun aN=>?_;unfold sI;simp;((with_reducible repeat' first|refine aj ?_|refine aD eP ?_|refine aE eP ?_|refine aD dC ?_|refine aE dC ?_|refine aD key ?_|refine aE key ?_|simp[bD,U]|((first|apply bK|apply bM|apply bL)<;>intro h<;>try simp at h))<;>(try exact cc));simp[bu,sg,aY,aZ,aW];simp[fc]
   ·have vS:nR s i y=o:=by cases y<;>first|(simp at aG;done)|exact fq he
    subst vS;have key:=ae i y;refine bc eO uu u4 fun aN=>?_;unfold sI;simp;(with_reducible repeat' first|refine aj ?_|refine aD eP ?_|refine aE eP ?_|refine aD dC ?_|refine aE dC ?_|refine aD key ?_|refine aE key ?_|simp[qM y aG]);simp[bu,sg,aY,aZ,aW];simp[fc]
  ·by_cases aG:y.kind=1
   ·obtain⟨j,rfl⟩:∃j,y= .var j:=by cases y<;>simp at aG;exact⟨_,rfl⟩
    have vS:nR s j x=o:=by cases x<;>first|(simp at ab;done)|exact fq he
    subst vS;have key:=ae j x;refine bc eO uu u4 fun aN=>?_;unfold sI;simp;(with_reducible repeat' first|refine aj ?_|refine aD eP ?_|refine aE eP ?_|refine aD dC ?_|refine aE dC ?_|refine aD key ?_|refine aE key ?_|simp[qM x ab]);simp[bu,sg,aY,aZ,aW];simp[fc]
   ·rw[am8 n s ab aG]at he;cases hle:yh x y with
    |false=>
     rw[hle]at he;simp at he;subst he;have KE:(x.kind !=y.kind)=true∨((x.kind !=y.kind)=false∧((x.int !=y.int)=true∨((x.int !=y.int)=false∧(x.name !=y.name)=true))):=by simp only[yh]at hle;simp only[bne];cases ak:(x.kind==y.kind)<;>cases aC:(x.int==y.int)<;>cases bk:(x.name==y.name)<;>simp_all
     rcases KE with a7|⟨a7,bF|⟨bF,b0⟩⟩
     ·refine bc eO uu u4 fun aN=>?_;unfold sI;simp;(with_reducible repeat' first|refine aj ?_|refine aD eP ?_|refine aE eP ?_|refine aD dC ?_|refine aE dC ?_|simp[qM x ab,qM y aG,a7]);simp[bu,sg,aY,aZ,aW];simp[fc]
     ·refine bc eO uu u4 fun aN=>?_;unfold sI;simp;(with_reducible repeat' first|refine aj ?_|refine aD eP ?_|refine aE eP ?_|refine aD dC ?_|refine aE dC ?_|simp[qM x ab,qM y aG,a7,bF]);simp[bu,sg,aY,aZ,aW];simp[fc]
     ·refine bc eO uu u4 fun aN=>?_;unfold sI;simp;have Ha:¬x.name=y.name:=by simpa using b0
      have akN:decide (x.name=y.name)=false:=by simp[Ha]
      ((with_reducible repeat' first|refine aj ?_|refine aD eP ?_|refine aE eP ?_|refine aD dC ?_|refine aE dC ?_|simp[qM x ab,qM y aG,a7,bF,b0,Ha,akN]|((first|apply bK|apply bM|apply bL)<;>intro h<;>try simp at h))<;>(try exact cc));simp[bu,sg,aY,aZ,aW];simp[fc]
    |true=>
     rw[hle,if_pos rfl]at he;have KE:(x.kind !=y.kind)=false∧(x.int !=y.int)=false∧(x.name !=y.name)=false:=by simp only[yh]at hle;simp only[bne];cases ak:(x.kind==y.kind)<;>cases aC:(x.int==y.int)<;>cases bk:(x.name==y.name)<;>simp_all
     obtain⟨a7,bF,b0⟩:=KE;have hlen:=ahK hle;have Ha:x.name=y.name:=by simpa using b0
     have rL:x.args.length≤2:=by cases x<;>simp
     refine bc eO uu u4 fun aN=>?_;unfold sI;simp;(with_reducible repeat' first|refine aj ?_|refine aD eP ?_|refine aE eP ?_|refine aD dC ?_|refine aE dC ?_|simp[qM x ab,qM y aG,a7,bF,Ha]);refine hH (α:=List ao) (fun i ai=>⟨[(5,.ptr (.loc 1) 0),(96,.slice 4 .no (x.args.map T.e)),(97,.int .i64 x.args.length),(0,.slice 5 .no (ai.map ao.e)),(98,.int .i64 i)],[(.loc 1,[.int .i64 y.kind,.int .i64 y.int,.str y.name,.slice 4 .no (y.args.map T.e)])],[],2,[]⟩) x.args.length (fun i ai=>(fM ai∧hE ai)∧Bh n ((x.args.zip y.args).drop i) ai=some o) s bW ⟨⟨ag,aI⟩,by simpa using he⟩ (fun ai af _=>?_) (fun i ai hi af _=>?_)
     ·obtain⟨_,af⟩:=af;rw[List.drop_eq_nil_of_le (by simp[hlen])]at af;simp[Bh]at af;subst af;simp;(with_reducible repeat' first|refine aj ?_|simp);simp[bu,sg,aY,aZ,aW];simp[fc]
     ·obtain⟨⟨g1,g2⟩,af⟩:=af;obtain⟨bG,br⟩:∃a,x.args[i]? =some a:=⟨_,cl hi⟩;obtain⟨b1,gb⟩:∃b,y.args[i]? =some b:=⟨_,cl (by omega)⟩;have np:∀h,(x.args[i]'h)=bG:=fun h=>by rw[cl hi]at br;exact fq br
      have cG:∀h,(y.args[i]'h)=b1:=fun h=>by rw[cl h]at gb;exact fq gb
      have rR:i<y.args.length:=by omega
      have aR:(x.args.zip y.args).drop i=(bG,b1)::(x.args.zip y.args).drop (i+1):=by rw[lv (by simp;omega)];simp[np,cG]
      rw[aR]at af;simp only[Bh]at af;simp[hi,np,cG,rR];cases hu:kP n ai bG b1 with
      |none=>rw[hu]at af;cases af
      |some gG=>
       have key:=bZ ai bG b1 gG g1 g2 hu;rw[hu]at af;cases gG with
       |none=>simp at af;subst af;(with_reducible repeat' first|refine aj ?_|refine aD key ?_|refine aE key ?_|simp[np,cG,hi,rR]);simp[bu,sg,aY,aZ,aW];simp[fc]
       |some s1=>have agF:=ana g1 g2 hu;(with_reducible repeat' first|refine aj ?_|refine aD key ?_|refine aE key ?_|simp[np,cG,hi,rR]);refine bT.rng s1 hi ⟨agF.1,af⟩ ?_;exact bW
theorem N5(s:List ao)(a b:T)(ag:fM s)(aI:hE s):bt al 180 [.slice 5 .no (s.map ao.e),a.e,b.e] (fc (mgu s [(a,b)])):=by obtain⟨n,o,J,U⟩:=H5 ag aI a b;rw[r9 U];exact anU n s a b o ag aI J
def ahg(s:List ao)(E:List (T×T))(i:Nat)(ai:List ao):Prop:=(fM ai∧hE ai)∧mgu ai (E.drop i)=mgu s E
theorem anQ(s:List ao)(l r:List T)(aw:l.length=r.length)(ag:fM s)(aI:hE s)(xU:l.length≤1000000):bt al 202 [.slice 5 .no (s.map ao.e),.slice 4 .no (l.map T.e),.slice 4 .no (r.map T.e)] (fc (mgu s (l.zip r))):=by
 refine bc eO adS akn fun aN=>?_;unfold Q3;simp;refine hH (α:=List ao) (fun i ai=>⟨[(2,.slice 4 .no (r.map T.e)),(12,.slice 4 .no (l.map T.e)),(13,.int .i64 l.length),(0,.slice 5 .no (ai.map ao.e)),(14,.int .i64 i)],[],[],0,[]⟩) l.length (ahg s (l.zip r)) s bW ⟨⟨ag,aI⟩,by simp⟩ (fun ai af _=>?_) (fun i ai hi af _=>?_)
 ·obtain⟨⟨g1,g2⟩,af⟩:=af;rw[List.drop_eq_nil_of_le (by simp[aw]),GP g1 g2]at af;rw[←af];simp;(with_reducible repeat' first|refine aj ?_|simp);simp[bu,MZ,aY,aZ,aW];simp[fc]
 ·obtain⟨⟨g1,g2⟩,af⟩:=af;obtain⟨a,br⟩:∃a,l[i]? =some a:=⟨_,cl hi⟩;obtain⟨b,gb⟩:∃b,r[i]? =some b:=⟨_,cl (by omega)⟩;have np:∀h,(l[i]'h)=a:=fun h=>by rw[cl hi]at br;exact fq br
  have cG:∀h,(r[i]'h)=b:=fun h=>by rw[cl h]at gb;exact fq gb
  have rR:i<r.length:=by omega
  have aR:(l.zip r).drop i=(a,b)::(l.zip r).drop (i+1):=by rw[lv (by simp;omega)];simp[np,cG]
  rw[aR,LY g1 g2]at af;simp[hi,np,cG,rR];have key:=N5 ai a b g1 g2;cases hu:mgu ai [(a,b)]with
  |none=>rw[hu]at af key;simp only at af;rw[←af];(with_reducible repeat' first|refine aj ?_|refine aD key ?_|refine aE key ?_|simp[np,cG,hi,rR]);simp[bu,MZ,aY,aZ,aW];simp[fc]
  |some s1=>have pH:=Aw g1 g2 hu;rw[hu]at af key;(with_reducible repeat' first|refine aj ?_|refine aD key ?_|refine aE key ?_|simp[np,cG,hi,rR]);refine bT.rng s1 hi ⟨pH,af⟩ ?_;exact bW
theorem js(n:Int):bt al 114 [.int .i64 n] (T.var n).e:=by refine bc fQ adM akh fun aN=>?_;unfold QX;exact bO
def ahk(t:List ao)(i:Nat)(p:List T×List T):Prop:=p.1=(t.take i).map (fun b=>T.var b.v)∧p.2=(t.take i).map (·.t)
theorem anS(s t:List ao)(ag:fM s)(aI:hE s)(aL:t.length≤1000000):bt al 152 [.slice 5 .no (s.map ao.e),.slice 5 .no (t.map ao.e)] (fc (mgu s (hG t))):=by
 have bq:(t.map fun b=>T.var b.v).zip (t.map (·.t))=hG t:=by rw[hG,List.zip_map']
 refine bc eO adT ako fun aN=>?_;unfold Q4;simp;refine hH (α:=List T×List T) (fun i p=>⟨[(0,.slice 5 .no (s.map ao.e)),(12,.slice 5 .no (t.map ao.e)),(13,.int .i64 t.length),(6,.slice 4 (.own (.loc 0)) (p.1.map T.e)),(7,.slice 4 (.own (.loc 1)) (p.2.map T.e)),(14,.int .i64 i)],[],[(.loc 0,⟨p.1.length,30,4,none⟩),(.loc 1,⟨p.2.length,30,4,none⟩)],2,[]⟩) t.length (ahk t) ([],[]) bW ⟨by simp,by simp⟩ (fun p af _=>?_) (fun i p hi af _=>?_)
 ·obtain⟨A,B⟩:=p;obtain⟨bm,kW⟩:=af;simp only at bm kW⊢;rw[hD (eY _)]at bm kW;have key:=anQ s A B (by rw[bm,kW];simp) ag aI (by rw[bm];simpa using aL);rw[bm,kW,bq,←bm,←kW]at key;simp;(with_reducible repeat' first|refine aj ?_|refine aD key ?_|refine aE key ?_|simp);simp[bu,W6,aY,aZ,aW];simp[fc]
 ·obtain⟨A,B⟩:=p;obtain⟨bm,kW⟩:=af;simp only at bm kW⊢;obtain⟨b,aK,gj⟩:=dP hi;have wc:t.take (i+1)=t.take i++[b]:=by rw[List.take_succ,aK];rfl
  have ae5:A.length≤1000000:=by rw[bm];simp;omega
  have ae6:B.length≤1000000:=by rw[kW];simp;omega
  simp[hi,gj];(with_reducible repeat' first|refine aj ?_|refine aD (js _) ?_|refine aE (js _) ?_|simp[gj,hi]);all_goals first|(refine⟨by unfold lim;omega,?_⟩)|skip
  (with_reducible repeat' first|refine aj ?_|simp);all_goals first|(refine⟨by unfold lim;omega,?_⟩)|skip
  (with_reducible repeat' first|refine aj ?_|simp);refine bT.rng (A++[.var b.v],B++[b.t]) hi ⟨by rw[wc,bm];simp,by rw[wc,kW];simp⟩ ?_;simp;exact⟨by simp[fresh,aJ,aF,ck,inObs,Pv.look,jm],ee (by simp[fresh,aJ,aF,ck,inObs,Pv.look,jm]),ef (by simp[fresh,aJ,aF,dV,inObs,Pv.look,jm]),by simp⟩
theorem dA(n lo hi:Int):bt al 75 [.int .i64 n,.int .i64 lo,.int .i64 hi] (.bool (decide (lo≤n∧n≤hi))):=by
 refine bc eO adE aj9 fun aN=>?_;unfold QP;simp;((with_reducible repeat' first|refine aj ?_|simp|((first|apply bK|apply bM|apply bL)<;>intro h<;>try simp at h))<;>(try exact cc));all_goals simp[bu,W0,aY,aZ,aW]
 all_goals first|omega|(simp;done)|(simp;omega)
def shp:bI→Bool
 | .mk k n s [a,b]=>k==4&&n==0&&s==[]&&shp a&&shp b
 | .mk k n s []=>ln k n s
 |_=>false
theorem HR:∀x:T,shp x.tm=x.ok
 | .nil=>by simp[T.tm,shp,ln,T.ok]
 | .var _=>by simp[T.tm,shp,ln,T.ok]
 | .sym _=>by simp[T.tm,shp,ln,T.ok]
 | .num _=>by simp[T.tm,shp,ln,T.ok]
 | .pair a b=>by simp[T.tm,shp,T.ok,HR a,HR b]
theorem amu:∀(m:Nat) (t:bI),t.sz≤m→shp t=true→∃x:T,x.tm=t:=by
 intro m;induction m with
 |zero=>intro t aL;cases t;simp[bI.sz]at aL
 |succ m bZ=>
  rintro⟨k,n,s,args⟩ aL h;match args with
  |[a,b]=>
   simp[bI.sz,bI.szL]at aL;simp only[shp,cE,dS]at h;obtain⟨⟨⟨⟨rfl,rfl⟩,ar⟩,J⟩,U⟩:=h;obtain⟨x,rfl⟩:=bZ a (by omega) J;obtain⟨y,rfl⟩:=bZ b (by omega) U;have:s=[]:=by simpa using ar
   subst this;exact⟨.pair x y,rfl⟩
  |[]=>
   simp only[shp,ln]at h;split at h
   ·subst_vars;simp at h;exact⟨.nil,by simp[T.tm,h]⟩
   split at h
   ·subst_vars;simp at h;exact⟨.var n,by simp[T.tm,h]⟩
   split at h
   ·subst_vars;simp at h;exact⟨.sym s,by simp[T.tm,h]⟩
   split at h
   ·subst_vars;simp at h;exact⟨.num n,by simp[T.tm,h]⟩
   ·simp at h
  |[_]=>simp[shp]at h
  |_::_::_::_=>simp[shp]at h
theorem ad7(t:bI):t.fits=(decide (lA t 5000≤5000)&&shp t):=by
 by_cases h:shp t=true
 ·obtain⟨x,rfl⟩:=amu _ t (eY _) h;have:=(E8 x 5000 (by omega)).1;rw[bI.fits_T,T.fit,h];rw[HR]at h;simp[h,this];omega
 ·have bD:t.fits=false:=by
   cases aI:t.fits with
   |false=>rfl
   |true=>obtain⟨x,rfl,ab⟩:=bI.fits_ex aI;rw[HR]at h;simp[T.fit]at ab;exact absurd ab.1 h
  simp at h;rw[bD,h];simp
def Li(s:List dm)(i:Nat):Prop:=i≤s.length∧∀k,k<i→mF (s.getD k 0)=true∧(k=0→low (s.getD k 0)=true)
theorem ahe{s:List dm}(h:Li s s.length):iv s=decide (1≤s.length∧s.length≤12):=by
 unfold iv;by_cases aw:1≤s.length
 ·have J:=(h.2 0 (by omega)).2 rfl;have U:(s.drop 1).all mF=true:=by rw[hs];intro b ae;obtain⟨i,hi,e⟩:=nN ae;simp at hi e;have:=(h.2 (i+1) (by omega)).1;rw[List.getD_eq_getElem?_getD,cl (by omega)]at this;simp only[h5]at this;rw[←e];exact this
  rw[J,U];simp
 ·have:decide (1≤s.length∧s.length≤12)=false:=by simp;omega
  rw[this];simp
theorem ahd{s:List dm}{i:Nat}(hi:i<s.length)(h:mF (s.getD i 0)=false∨(i=0∧low (s.getD i 0)=false)):iv s=false:=by
 cases e:iv s with
 |false=>rfl
 |true=>
  exfalso;simp only[iv,cE,hs]at e;obtain⟨⟨_,ak⟩,aC⟩:=e;rcases h with h|⟨rfl,h⟩
  ·by_cases bD:i=0
   ·subst bD;rw[mF,ak]at h;simp at h
   ·have:=aC (s.getD i 0) (by rw[List.getD_eq_getElem?_getD,cl hi];simp only[h5];refine List.mem_iff_getElem.2 ⟨i-1,by simp;omega,?_⟩;simp[show i-1+1=i from by omega])
    rw[this]at h;cases h
  ·rw[ak]at h;cases h
theorem gQ(s:List dm):bt al 119 [.str s] (.bool (iv s)):=by
 generalize bg:iv s=R;refine bc eO ady aj3 fun aN=>?_;unfold QJ;have eV:s.length≤68719476736:=by simp[ey,ea,en,lim]at aN;omega
 simp;refine vH [0] (fun(i:Nat)=>[(3,.int .i64 i)]) (fun i=>s.length-i) (Li s) 0 bW ⟨by omega,fun k ad=>by omega⟩ (fun i af _=>?_);have dK:=af.1;by_cases hi:i<s.length
 ·have dt:=ahd hi;rw[bg]at dt;obtain⟨c,ay,kk⟩:=dP hi;have Tb:s.getD i 0=c:=by simp[List.getD_eq_getElem?_getD,ay]
  rw[Tb]at dt;have cY:mF c=true→(i=0→low c=true)→Li s (i+1):=fun J U=>⟨by omega,fun k ad=>by
   rcases(by omega:k<i∨k=i)with h|rfl
   ·exact af.2 k h
   ·rw[Tb];exact⟨J,U⟩⟩
  have hw:IntKind.i64.wrap (c.toNat:Int)=c.toNat:=o8 _ (by have:=c.toNat_lt;omega);simp[hi,kk,ay];by_cases a7:(97:Int)≤c.toNat
  ·by_cases bF:(c.toNat:Int)≤122
   ·have aw:low c=true:=by simp[low];omega
    (with_reducible repeat' first|refine aj ?_|refine aD (dA _ _ _) ?_|refine aE (dA _ _ _) ?_|simp[hi,kk,ay,a7,bF]);exact bT.whl (i+1) (by omega) (cY (by simp[mF,aw]) (fun _=>aw)) bW
   ·have aw:low c=false:=by simp[low];omega
    by_cases bD:i=0
    ·rw[dt (.inr ⟨bD,aw⟩)];have rG:((i:Int)==0)=true:=by simp[bD]
     (with_reducible repeat' first|refine aj ?_|refine aD (dA _ _ _) ?_|refine aE (dA _ _ _) ?_|simp[hi,kk,ay,a7,bF,rG,hw]);simp[bu,AY,aY,aZ,aW]
    ·have rG:((i:Int)==0)=false:=by simp[bD]
     by_cases b0:(c.toNat:Int)=45
     ·have sf:((c.toNat:Int) !=45)=false:=by simp[b0]
      (with_reducible repeat' first|refine aj ?_|refine aD (dA _ _ _) ?_|refine aE (dA _ _ _) ?_|simp[hi,kk,ay,a7,bF,rG,hw,b0,sf]);all_goals exact bT.whl (i+1) (by omega) (cY (by simp[mF];omega) (fun h=>absurd h bD)) bW
     ·have sf:((c.toNat:Int) !=45)=true:=by simp[b0]
      by_cases cZ:(48:Int)≤c.toNat∧(c.toNat:Int)≤57
      ·(with_reducible repeat' first|refine aj ?_|refine aD (dA _ _ _) ?_|refine aE (dA _ _ _) ?_|simp[hi,kk,ay,a7,bF,rG,hw,b0,sf,cZ]);all_goals exact bT.whl (i+1) (by omega) (cY (by simp[mF];omega) (fun h=>absurd h bD)) bW
      ·rw[dt (.inl (by simp[mF,aw];omega))];(with_reducible repeat' first|refine aj ?_|refine aD (dA _ _ _) ?_|refine aE (dA _ _ _) ?_|simp[hi,kk,ay,a7,bF,rG,hw,b0,sf,cZ]);simp[bu,AY,aY,aZ,aW]
  ·have aw:low c=false:=by simp[low];omega
   by_cases bD:i=0
   ·rw[dt (.inr ⟨bD,aw⟩)];have rG:((i:Int)==0)=true:=by simp[bD]
    (with_reducible repeat' first|refine aj ?_|refine aD (dA _ _ _) ?_|refine aE (dA _ _ _) ?_|simp[hi,kk,ay,a7,rG,hw]);simp[bu,AY,aY,aZ,aW]
   ·have rG:((i:Int)==0)=false:=by simp[bD]
    by_cases b0:(c.toNat:Int)=45
    ·have sf:((c.toNat:Int) !=45)=false:=by simp[b0]
     (with_reducible repeat' first|refine aj ?_|refine aD (dA _ _ _) ?_|refine aE (dA _ _ _) ?_|simp[hi,kk,ay,a7,rG,hw,b0,sf]);all_goals exact bT.whl (i+1) (by omega) (cY (by simp[mF];omega) (fun h=>absurd h bD)) bW
    ·have sf:((c.toNat:Int) !=45)=true:=by simp[b0]
     by_cases cZ:(48:Int)≤c.toNat∧(c.toNat:Int)≤57
     ·(with_reducible repeat' first|refine aj ?_|refine aD (dA _ _ _) ?_|refine aE (dA _ _ _) ?_|simp[hi,kk,ay,a7,rG,hw,b0,sf,cZ]);all_goals exact bT.whl (i+1) (by omega) (cY (by simp[mF];omega) (fun h=>absurd h bD)) bW
     ·rw[dt (.inl (by simp[mF,aw];omega))];(with_reducible repeat' first|refine aj ?_|refine aD (dA _ _ _) ?_|refine aE (dA _ _ _) ?_|simp[hi,kk,ay,a7,rG,hw,b0,sf,cZ]);simp[bu,AY,aY,aZ,aW]
 ·have:i=s.length:=by omega
  subst this;rw[ahe af]at bg;simp[hi];(with_reducible repeat' first|refine aj ?_|refine aD (dA _ _ _) ?_|refine aE (dA _ _ _) ?_|simp[hi]);simp[bu,AY,aY,aZ,aW];rw[←bg,qu];simp;omega
def vk:List bI→Bool
 |[a,b]=>shp a&&shp b
 |_=>false
theorem amt(k n:Int)(s:List dm)(args:List bI):shp ⟨k,n,s,args⟩=if k≠1∧k≠3∧n≠0 then false else if k≠2∧s≠[]then false else if k≠4∧args≠[]then false else if k=0 then true else if k=1 then decide (0≤n∧n≤100000)else if k=2 then iv s else if k=3 then decide (-1000000000≤n∧n≤1000000000)else if k=4 then vk args else false:=by
 by_cases fo:k=0
 ·subst fo;match args with
  |[]=>by_cases au:n=0<;>by_cases ag:s=[]<;>simp[shp,ln,au,ag]
  |[a]=>simp[shp]
  |[a,b]=>simp[shp]
  |_::_::_::_=>simp[shp]
 by_cases aP:k=1
 ·subst aP;match args with
  |[]=>by_cases ag:s=[]<;>simp[shp,ln,ag]
  |[a]=>simp[shp]
  |[a,b]=>simp[shp]
  |_::_::_::_=>simp[shp]
 by_cases a6:k=2
 ·subst a6;match args with
  |[]=>by_cases au:n=0<;>simp[shp,ln,au]
  |[a]=>simp[shp]
  |[a,b]=>simp[shp]
  |_::_::_::_=>simp[shp]
 by_cases bR:k=3
 ·subst bR;match args with
  |[]=>by_cases ag:s=[]<;>simp[shp,ln,ag]
  |[a]=>simp[shp]
  |[a,b]=>simp[shp]
  |_::_::_::_=>simp[shp]
 by_cases dq:k=4
 ·subst dq;match args with
  |[]=>simp[shp,ln,vk]
  |[a]=>simp[shp,vk]
  |[a,b]=>by_cases au:n=0<;>by_cases ag:s=[]<;>simp[shp,vk,au,ag]
  |_::_::_::_=>simp[shp,vk]
 ·match args with
  |[]=>simp[shp,ln,fo,aP,a6,bR,dq]
  |[a]=>simp[shp,fo,aP,a6,bR,dq]
  |[a,b]=>simp[shp,fo,aP,a6,bR,dq]
  |_::_::_::_=>simp[shp,fo,aP,a6,bR,dq]
set_option maxRecDepth 8000 in
theorem anL(m:Nat):∀(t:bI),t.sz≤m→bt al 124 [enc t] (.bool (shp t)):=by
 induction m with
 |zero=>intro t aL;cases t;simp[bI.sz]at aL
 |succ m bZ=>
 rintro⟨k,n,s,args⟩ aL;generalize bg:shp ⟨k,n,s,args⟩=R;have dG:=amt k n s args;rw[bg]at dG;by_cases b1:k≠1∧k≠3∧n≠0
 ·rw[if_pos b1]at dG;obtain⟨aP,bR,n0⟩:=b1;have Ai:(k !=1)=true:=by simp[aP]
  have Aj:(k !=3)=true:=by simp[bR]
  have L3:(n !=0)=true:=by simp[n0]
  subst dG;refine bc eO my mO fun aN=>?_;unfold l1;simp[bI.kind,bI.num,bI.name,bI.args];(with_reducible repeat' first|refine aj ?_|refine aD (dA _ _ _) ?_|refine aE (dA _ _ _) ?_|refine aD (gQ _) ?_|refine aE (gQ _) ?_|simp[Ai,Aj,L3]);all_goals simp[bu,lU,aY,aZ,aW]
 rw[if_neg b1]at dG;have BD:(if k !=1 then k !=3 else false)=true→(n !=0)=false:=by intro h;simp at h⊢;exact Classical.byContradiction fun au=>b1 ⟨h.1,h.2,au⟩
 by_cases b2:k≠2∧s≠[]
 ·rw[if_pos b2]at dG;have Gp:(k !=2)=true:=by simp[b2.1]
  have Nj:s.isEmpty=false:=by simp[b2.2]
  by_cases aP:k=1
  ·subst aP;subst dG;refine bc eO my mO fun aN=>?_;unfold l1;simp[bI.kind,bI.num,bI.name,bI.args];(with_reducible repeat' first|refine aj ?_|refine aD (dA _ _ _) ?_|refine aE (dA _ _ _) ?_|refine aD (gQ _) ?_|refine aE (gQ _) ?_|simp[Nj]);all_goals simp[bu,lU,aY,aZ,aW]
  by_cases bR:k=3
  ·subst bR;subst dG;refine bc eO my mO fun aN=>?_;unfold l1;simp[bI.kind,bI.num,bI.name,bI.args];(with_reducible repeat' first|refine aj ?_|refine aD (dA _ _ _) ?_|refine aE (dA _ _ _) ?_|refine aD (gQ _) ?_|refine aE (gQ _) ?_|simp[Nj]);all_goals simp[bu,lU,aY,aZ,aW]
  have Ai:(k !=1)=true:=by simp[aP]
  have Aj:(k !=3)=true:=by simp[bR]
  have L3:(n !=0)=false:=BD (by simp[aP,bR]);subst dG;refine bc eO my mO fun aN=>?_;unfold l1;simp[bI.kind,bI.num,bI.name,bI.args];(with_reducible repeat' first|refine aj ?_|refine aD (dA _ _ _) ?_|refine aE (dA _ _ _) ?_|refine aD (gQ _) ?_|refine aE (gQ _) ?_|simp[Ai,Aj,L3,Gp,Nj]);all_goals simp[bu,lU,aY,aZ,aW]
 rw[if_neg b2]at dG;by_cases fo:k=0
 ·subst fo;have n0:n=0:=by simpa using BD (by decide)
  have s0:s=[]:=Classical.byContradiction fun h=>b2 ⟨by omega,h⟩;subst n0 s0;by_cases a0:args=[];rotate_left
  ·rw[if_pos ⟨by omega,a0⟩]at dG;have tY:(0:Int)<args.length:=by have:=List.length_pos_iff.2 a0;omega
   subst dG;refine bc eO my mO fun aN=>?_;unfold l1;simp[bI.kind,bI.num,bI.name,bI.args];((with_reducible repeat' first|refine aj ?_|refine aD (dA _ _ _) ?_|refine aE (dA _ _ _) ?_|refine aD (gQ _) ?_|refine aE (gQ _) ?_|simp[Int.natCast_nonneg,tY]|((first|apply bK|apply bM|apply bL)<;>intro h<;>try simp at h))<;>(try exact cc));all_goals simp[bu,lU,aY,aZ,aW]
  rw[if_neg (by simp[a0])]at dG;subst a0;simp at dG;subst dG;refine bc eO my mO fun aN=>?_;unfold l1;simp[bI.kind,bI.num,bI.name,bI.args];(with_reducible repeat' first|refine aj ?_|refine aD (dA _ _ _) ?_|refine aE (dA _ _ _) ?_|refine aD (gQ _) ?_|refine aE (gQ _) ?_|simp[Int.natCast_nonneg]);all_goals simp[bu,lU,aY,aZ,aW]
 by_cases aP:k=1
 ·subst aP;have s0:s=[]:=Classical.byContradiction fun h=>b2 ⟨by omega,h⟩;subst s0;by_cases a0:args=[];rotate_left
  ·rw[if_pos ⟨by omega,a0⟩]at dG;have tY:(0:Int)<args.length:=by have:=List.length_pos_iff.2 a0;omega
   subst dG;refine bc eO my mO fun aN=>?_;unfold l1;simp[bI.kind,bI.num,bI.name,bI.args];((with_reducible repeat' first|refine aj ?_|refine aD (dA _ _ _) ?_|refine aE (dA _ _ _) ?_|refine aD (gQ _) ?_|refine aE (gQ _) ?_|simp[Int.natCast_nonneg,tY]|((first|apply bK|apply bM|apply bL)<;>intro h<;>try simp at h))<;>(try exact cc));all_goals simp[bu,lU,aY,aZ,aW]
  rw[if_neg (by simp[a0])]at dG;subst a0;simp at dG;subst dG;refine bc eO my mO fun aN=>?_;unfold l1;simp[bI.kind,bI.num,bI.name,bI.args];(with_reducible repeat' first|refine aj ?_|refine aD (dA _ _ _) ?_|refine aE (dA _ _ _) ?_|refine aD (gQ _) ?_|refine aE (gQ _) ?_|simp[Int.natCast_nonneg]);all_goals simp[bu,lU,aY,aZ,aW]
 by_cases a6:k=2
 ·subst a6;have n0:n=0:=by simpa using BD (by decide)
  subst n0;by_cases a0:args=[];rotate_left
  ·rw[if_pos ⟨by omega,a0⟩]at dG;have tY:(0:Int)<args.length:=by have:=List.length_pos_iff.2 a0;omega
   subst dG;refine bc eO my mO fun aN=>?_;unfold l1;simp[bI.kind,bI.num,bI.name,bI.args];((with_reducible repeat' first|refine aj ?_|refine aD (dA _ _ _) ?_|refine aE (dA _ _ _) ?_|refine aD (gQ _) ?_|refine aE (gQ _) ?_|simp[Int.natCast_nonneg,tY]|((first|apply bK|apply bM|apply bL)<;>intro h<;>try simp at h))<;>(try exact cc));all_goals simp[bu,lU,aY,aZ,aW]
  rw[if_neg (by simp[a0])]at dG;subst a0;simp at dG;subst dG;refine bc eO my mO fun aN=>?_;unfold l1;simp[bI.kind,bI.num,bI.name,bI.args];(with_reducible repeat' first|refine aj ?_|refine aD (dA _ _ _) ?_|refine aE (dA _ _ _) ?_|refine aD (gQ _) ?_|refine aE (gQ _) ?_|simp[Int.natCast_nonneg]);all_goals simp[bu,lU,aY,aZ,aW]
 by_cases bR:k=3
 ·subst bR;have s0:s=[]:=Classical.byContradiction fun h=>b2 ⟨by omega,h⟩;subst s0;by_cases a0:args=[];rotate_left
  ·rw[if_pos ⟨by omega,a0⟩]at dG;have tY:(0:Int)<args.length:=by have:=List.length_pos_iff.2 a0;omega
   subst dG;refine bc eO my mO fun aN=>?_;unfold l1;simp[bI.kind,bI.num,bI.name,bI.args];((with_reducible repeat' first|refine aj ?_|refine aD (dA _ _ _) ?_|refine aE (dA _ _ _) ?_|refine aD (gQ _) ?_|refine aE (gQ _) ?_|simp[Int.natCast_nonneg,tY]|((first|apply bK|apply bM|apply bL)<;>intro h<;>try simp at h))<;>(try exact cc));all_goals simp[bu,lU,aY,aZ,aW]
  rw[if_neg (by simp[a0])]at dG;subst a0;simp at dG;subst dG;refine bc eO my mO fun aN=>?_;unfold l1;simp[bI.kind,bI.num,bI.name,bI.args];(with_reducible repeat' first|refine aj ?_|refine aD (dA _ _ _) ?_|refine aE (dA _ _ _) ?_|refine aD (gQ _) ?_|refine aE (gQ _) ?_|simp[Int.natCast_nonneg]);all_goals simp[bu,lU,aY,aZ,aW]
 by_cases dq:k=4
 ·subst dq;have n0:n=0:=by simpa using BD (by decide)
  have s0:s=[]:=Classical.byContradiction fun h=>b2 ⟨by omega,h⟩;subst n0 s0;simp at dG;match args,dG with
  |[a,b],dG=>
   simp[bI.sz,bI.szL]at aL;have br:=bZ a (by omega);have ae:=bZ b (by omega);simp only[vk]at dG;subst dG;refine bc eO my mO fun aN=>?_;unfold l1;simp[bI.kind,bI.num,bI.name,bI.args];cases q:shp a with
   |true=>rw[q]at br;(with_reducible repeat' first|refine aj ?_|refine aD br ?_|refine aE br ?_|refine aD ae ?_|refine aE ae ?_|simp[Int.natCast_nonneg]);all_goals simp[bu,lU,aY,aZ,aW]
   |false=>rw[q]at br;(with_reducible repeat' first|refine aj ?_|refine aD br ?_|refine aE br ?_|refine aD ae ?_|refine aE ae ?_|simp[Int.natCast_nonneg]);all_goals simp[bu,lU,aY,aZ,aW]
  |[],dG=>simp only[vk]at dG;subst dG;refine bc eO my mO fun aN=>?_;unfold l1;simp[bI.kind,bI.num,bI.name,bI.args];(with_reducible repeat' first|refine aj ?_|refine aD (dA _ _ _) ?_|refine aE (dA _ _ _) ?_|refine aD (gQ _) ?_|refine aE (gQ _) ?_|simp[Int.natCast_nonneg]);all_goals simp[bu,lU,aY,aZ,aW]
  |[_],dG=>simp only[vk]at dG;subst dG;refine bc eO my mO fun aN=>?_;unfold l1;simp[bI.kind,bI.num,bI.name,bI.args];(with_reducible repeat' first|refine aj ?_|refine aD (dA _ _ _) ?_|refine aE (dA _ _ _) ?_|refine aD (gQ _) ?_|refine aE (gQ _) ?_|simp[Int.natCast_nonneg]);all_goals simp[bu,lU,aY,aZ,aW]
  |_::_::_::l,dG=>
   simp only[vk]at dG;have aw:((l.length:Int)+1+1+1==2)=false:=by simp;omega
   subst dG;refine bc eO my mO fun aN=>?_;unfold l1;simp[bI.kind,bI.num,bI.name,bI.args];(with_reducible repeat' first|refine aj ?_|refine aD (dA _ _ _) ?_|refine aE (dA _ _ _) ?_|refine aD (gQ _) ?_|refine aE (gQ _) ?_|simp[aw]);all_goals simp[bu,lU,aY,aZ,aW]
 have n0:(n !=0)=false:=BD (by simp[aP,bR]);have s0:s=[]:=Classical.byContradiction fun h=>b2 ⟨a6,h⟩;subst s0;have Uq:(k==0)=false:=by simp[fo]
 have Ai:(k==1)=false:=by simp[aP]
 have Gp:(k==2)=false:=by simp[a6]
 have Aj:(k==3)=false:=by simp[bR]
 have Uu:(k==4)=false:=by simp[dq]
 have Ur:(k !=1)=true:=by simp[aP]
 have Us:(k !=2)=true:=by simp[a6]
 have Ut:(k !=3)=true:=by simp[bR]
 have Uv:(k !=4)=true:=by simp[dq]
 by_cases a0:args=[]
 ·subst a0;simp[fo,aP,a6,bR,dq]at dG;subst dG;refine bc eO my mO fun aN=>?_;unfold l1;simp[bI.kind,bI.num,bI.name,bI.args];(with_reducible repeat' first|refine aj ?_|refine aD (dA _ _ _) ?_|refine aE (dA _ _ _) ?_|refine aD (gQ _) ?_|refine aE (gQ _) ?_|simp[Uq,Ai,Gp,Aj,Uu,Ur,Us,Ut,Uv,n0]);all_goals simp[bu,lU,aY,aZ,aW]
 ·rw[if_pos ⟨dq,a0⟩]at dG;have tY:(0:Int)<args.length:=by have:=List.length_pos_iff.2 a0;omega
  subst dG;refine bc eO my mO fun aN=>?_;unfold l1;simp[bI.kind,bI.num,bI.name,bI.args];((with_reducible repeat' first|refine aj ?_|refine aD (dA _ _ _) ?_|refine aE (dA _ _ _) ?_|refine aD (gQ _) ?_|refine aE (gQ _) ?_|simp[tY,Uq,Ai,Gp,Aj,Uu,Ur,Us,Ut,Uv,n0]|((first|apply bK|apply bM|apply bL)<;>intro h<;>try simp at h))<;>(try exact cc));all_goals simp[bu,lU,aY,aZ,aW]
theorem w6(t:bI):bt al 56 [enc t] (.bool t.fits):=by
 rw[ad7];have ay:=YC t 5000 (by omega) (by omega);have ag:=anL t.sz t (eY _);refine bc eO adD aj8 fun aN=>?_;unfold QO;simp;by_cases q:lA t 5000≤5000
 ·exact bO
 ·exact bO
def QK:C:=(aa [bd 2 false] (.seq (aa [I 5 0,cg 6 5,bU 7 0] (fp 8 7 6 (.seq (.block 1 (aa [I 9 7,cp 10 2 5 7,aS 11 2 10,c4 (.alloc 4 none (.agg [.int .i64 0,.int .i64 0])),I 3 9,bz 2 4 11] (.seq (.drawn true 42 [I 12 3,aV 13 .gtr 12 0,I 14 13,b6 14 true 15 0,b6 14 true 16 3,aq 14 true (aV 17 .sub 16 1),aq 14 true (cp 18 2 15 17),aq 14 true (aB 19 0 1 18),aq 14 true (av 20 1 19),aq 14 true (aB 21 0 1 4),aq 14 true (av 22 1 21),aq 14 true (bn 23 .geq 20 22),dD 24 14 23,I 25 24,aq 25 false (aB 26 0 1 4),aq 25 false (av 27 1 26),aq 25 false (c8 28 75 [.t 27,(fI 0),(fI 100000)]),aq 25 false (cd 29 28),cU 30 25 29,I 31 30,aq 31 false (aB 32 1 1 4),aq 31 false (av 33 1 32),aq 31 false (aV 34 .neq 33 2),b6 31 false 35 34,aq 35 true (aB 36 1 1 4),aq 35 true (av 37 1 36),aq 35 true (aV 38 .neq 37 3),aq 31 false (dD 39 35 38),cU 40 31 39]) (aU 40 (aa [bd 2 false] .ret) .skip)))) (.region [aV 41 .add 7 1,I 7 41])))) (aa [bd 2 true] .ret)))
@[simp] def DC:List bB:=[.tmp 2]
def QM:C:=(aa [bd 2 false] (.seq (aa [I 5 0,cg 6 5,bU 7 0] (fp 8 7 6 (.seq (.block 1 (aa [I 9 7,cp 10 2 5 7,aS 11 2 10,c4 (.alloc 4 none (.agg [.int .i64 0,.str []])),I 3 9,bz 2 4 11] (.seq (.drawn true 37 [I 12 3,aV 13 .gtr 12 0,I 14 13,b6 14 true 15 0,b6 14 true 16 3,aq 14 true (aV 17 .sub 16 1),aq 14 true (cp 18 2 15 17),aq 14 true (aS 19 2 18),aq 14 true (aS 20 2 4),aq 14 true (b8 21 147 19 20),aq 14 true (cd 22 21),dD 23 14 22,I 24 23,aq 24 false (aB 25 0 1 4),aq 24 false (av 26 1 25),aq 24 false (c8 27 75 [.t 26,(fI 0),(fI 100000)]),aq 24 false (cd 28 27),cU 29 24 28,I 30 29,aq 30 false (aB 31 1 1 4),aq 30 false (av 32 1 31),aq 30 false (cA 33 119 32),aq 30 false (cd 34 33),cU 35 30 34]) (aU 35 (aa [bd 2 false] .ret) .skip)))) (.region [aV 36 .add 7 1,I 7 36])))) (aa [bd 2 true] .ret)))
@[simp] def AZ:List bB:=[.tmp 2]
def E3:C:=(aa [cw 2 0,cw 3 1,bd 4 false] (aa [aB 5 0 1 2,av 6 1 5,aB 7 0 1 3,av 8 1 7,bn 9 .lss 6 8,I 10 9,aq 10 false (aB 11 0 1 2),aq 10 false (av 12 1 11),aq 10 false (aB 13 0 1 3),aq 10 false (av 14 1 13),aq 10 false (bn 15 .eql 12 14),b6 10 false 16 15,aq 16 true (aB 17 1 1 2),aq 16 true (av 18 1 17),aq 16 true (aB 19 1 1 3),aq 16 true (av 20 1 19),aq 16 true (bn 21 .lss 18 20),aq 10 false (dD 22 16 21),cU 23 10 22,I 4 23] .ret))
@[simp] def alY:List bB:=[.tmp 4]
def Ra:C:=(aa [eu 4 2,bd 5 false] (aa [eb 10 2 98 [],I 6 10] (aa [bd 7 true] (.seq (.seq (.fg false 6 (.region [I 11 1,cg 12 11,bU 13 0])) (fp 14 13 12 (.seq (.block 1 (aa [cp 15 2 11 13,aS 16 2 15,c4 (.alloc 9 none (.agg [.int .i64 0,.int .i64 0])),bz 2 9 16] (.seq (.drawn true 33 [I 18 6,I 19 0,aB 20 0 1 9,av 21 1 20,cA 22 114 21,b8 23 201 19 22,aB 24 1 1 9,av 25 1 24,c8 26 151 [.t 18,.t 23,.t 25],I 17 26,cn 27 0 17,cn 28 1 17,I 6 27,I 7 28]) (aa [I 29 7,cd 30 29] (aU 30 (aa [eu 4 2,bd 5 false] .ret) .skip))))) (.region [aV 31 .add 13 1,I 13 31])))) (aa [I 32 6,I 4 32,bd 5 true] .ret)))))
@[simp] def M0:List bB:=[.tmp 4,.tmp 5]
def Rb:C:=(aa [eu 4 2,bd 5 false] (aa [eb 10 2 100 [],I 6 10] (aa [bd 7 true] (.seq (.seq (.fg false 6 (.region [I 11 1,cg 12 11,bU 13 0])) (fp 14 13 12 (.seq (.block 1 (aa [cp 15 2 11 13,aS 16 2 15,c4 (.alloc 9 none (.agg [.int .i64 0,.str []])),bz 2 9 16] (.seq (.drawn true 33 [I 18 6,I 19 0,aB 20 0 1 9,av 21 1 20,cA 22 114 21,b8 23 201 19 22,aB 24 1 1 9,av 25 1 24,c8 26 181 [.t 18,.t 23,.t 25],I 17 26,cn 27 0 17,cn 28 1 17,I 6 27,I 7 28]) (aa [I 29 7,cd 30 29] (aU 30 (aa [eu 4 2,bd 5 false] .ret) .skip))))) (.region [aV 31 .add 13 1,I 13 31])))) (aa [I 32 6,I 4 32,bd 5 true] .ret)))))
@[simp] def M2:List bB:=[.tmp 4,.tmp 5]
def zj:C:=(aa [cw 4 1,eu 6 2,bd 7 false] (.seq (aa [aB 10 0 1 4,av 11 1 10,aV 12 .neq 11 1] (aU 12 (.seq (.drawn true 73 [I 13 0,aB 14 0 1 4,av 15 1 14,I 16 2,bn 17 .eql 15 16,I 6 13,I 7 17]) .ret) .skip)) (aa [bU 8 0] (.seq (.block 0 (.loop (.seq (.seq (.drawn true 73 [I 18 8,I 19 0,cg 20 19,bn 21 .lss 18 20,I 22 21,b6 22 true 23 0,b6 22 true 24 8,aq 22 true (cp 25 2 23 24),aq 22 true (aB 26 0 1 25),aq 22 true (av 27 1 26),aq 22 true (aB 28 1 1 4),aq 22 true (av 29 1 28),aq 22 true (bn 30 .lss 27 29),dD 31 22 30]) (aU 31 .skip (.exit 0))) (.block 1 (.region [I 32 8,aV 33 .add 32 1,I 8 33]))))) (.seq (.seq (.drawn true 73 [I 34 8,I 35 0,cg 36 35,bn 37 .lss 34 36,I 38 37,b6 38 true 39 0,b6 38 true 40 8,aq 38 true (cp 41 2 39 40),aq 38 true (aB 42 0 1 41),aq 38 true (av 43 1 42),aq 38 true (aB 44 1 1 4),aq 38 true (av 45 1 44),aq 38 true (bn 46 .eql 43 45),dD 47 38 46]) (aU 47 (.seq (.drawn true 73 [I 48 0,I 49 0,I 50 8,cp 51 2 49 50,aB 52 1 1 51,av 53 1 52,I 54 2,bn 55 .eql 53 54,I 6 48,I 7 55]) .ret) .skip)) (aa [eb 56 2 98 [],I 57 0,I 58 8,b9 59 (.lsl 2 (.t 57) none (some (.t 58))),gR 60 2 98 56 59,I 9 60] (aa [I 61 9,aB 62 1 1 4,av 63 1 62,I 64 2,b9 65 (.build [.int .i64 0,.int .i64 0] [(0,1,(.t 63)),(1,1,(.t 64))]),eb 66 2 98 [.t 65],gR 67 2 98 61 66,I 9 67] (aa [I 68 9,I 69 0,I 70 8,b9 71 (.lsl 2 (.t 69) (some (.t 70)) none),gR 72 2 98 68 71,I 6 72,bd 7 true] .ret))))))))
@[simp] def wQ:List bB:=[.tmp 6,.tmp 7]
def Jg:C:=(aa [cw 4 1,eu 6 2,bd 7 false] (.seq (aa [aS 13 4 4,I 14 2,b8 15 210 13 14] (aU 15 (aa [eu 6 2,bd 7 false] .ret) .skip)) (.seq (aa [aS 16 4 4,c8 17 58 [.t 16,(.c (.slice 1 .nil []))],cg 18 17,bU 19 0] (fp 20 19 18 (.seq (.block 1 (aa [cp 21 1 17 19,av 22 1 21,I 9 22] (aa [I 23 9,I 24 2,b9 25 (.build [.int .i64 0,.str []] [(0,1,(.t 23)),(1,1,(.t 24))]),c4 (.alloc 10 none (.agg [.int .i64 0,.str []])),bz 2 10 25] (aa [bU 11 0] (.seq (.block 2 (.loop (.seq (.seq (.drawn true 68 [I 26 11,I 27 0,cg 28 27,bn 29 .lss 26 28,I 30 29,b6 30 true 31 0,b6 30 true 32 11,aq 30 true (cp 33 2 31 32),aq 30 true (aS 34 2 33),aq 30 true (aS 35 2 10),aq 30 true (b8 36 147 34 35),dD 37 30 36]) (aU 37 .skip (.exit 2))) (.block 3 (.region [I 38 11,aV 39 .add 38 1,I 11 39]))))) (.seq (.drawn true 68 [I 40 11,I 41 0,cg 42 41,bn 43 .eql 40 42,I 44 43,aq 44 false (aS 45 2 10),b6 44 false 46 0,b6 44 false 47 11,aq 44 false (cp 48 2 46 47),aq 44 false (aS 49 2 48),aq 44 false (b8 50 147 45 49),cU 51 44 50]) (aU 51 (aa [eb 52 2 100 [],I 53 0,I 54 11,b9 55 (.lsl 2 (.t 53) none (some (.t 54))),gR 56 2 100 52 55,I 12 56] (aa [I 57 12,aS 58 2 10,eb 59 2 100 [.t 58],gR 60 2 100 57 59,I 12 60] (.region [I 61 12,I 62 0,I 63 11,b9 64 (.lsl 2 (.t 62) (some (.t 63)) none),gR 65 2 100 61 64,I 0 65]))) .skip))))))) (.fg false 0 (.region [aV 66 .add 19 1,I 19 66]))))) (aa [I 67 0,I 6 67,bd 7 true] .ret))))
@[simp] def M1:List bB:=[.tmp 6,.tmp 7]
def zi:C:=(aa [cw 2 0,bd 4 false] (.seq (aa [aB 7 3 1 2,av 8 1 7,cg 9 8,bU 10 0] (fp 11 10 9 (.seq (.block 1 (aa [cp 12 4 8 10,aS 13 4 12,cO 6 dY,bz 4 6 13] (aa [aS 14 4 6,I 15 1,b8 16 210 14 15] (aU 16 (aa [bd 4 true] .ret) .skip)))) (.region [aV 17 .add 10 1,I 10 17])))) (aa [aB 18 0 1 2,av 19 1 18,aV 20 .eql 19 2,I 21 20,aq 21 true (aB 22 2 1 2),aq 21 true (av 23 1 22),b6 21 true 24 1,aq 21 true (bn 25 .eql 23 24),dD 26 21 25,I 4 26] .ret)))
@[simp] def wP:List bB:=[.tmp 4]
def vo:List (Nat×dI):=[
 (3,⟨1,8,.int .i64,.int .i64 0⟩),
 (9,⟨1,16,.str,.str []⟩),
 (27,⟨1,24,.slice 30,.slice 4 .nil []⟩),
 (30,⟨4,56,.struct [(0,3),(1,3),(2,9),(3,27)],.agg [.int .i64 0,.int .i64 0,.str [],.slice 4 .nil []]⟩),
 (48,⟨1,24,.slice 98,.slice 2 .nil []⟩),
 (49,⟨1,24,.slice 100,.slice 2 .nil []⟩),
 (76,⟨1,24,.slice 3,.slice 1 .nil []⟩),
 (98,⟨2,16,.struct [(0,3),(1,3)],.agg [.int .i64 0,.int .i64 0]⟩),
 (100,⟨2,24,.struct [(0,3),(1,9)],.agg [.int .i64 0,.str []]⟩)]
theorem ml:fU al vo=true:=by kernel_rfl
theorem aj4:bY vo QK DC 1 Tryz.f78=true:=by kernel_rfl
theorem adz:al.funcs[(78:Nat)]? =some Tryz.f78:=Tryz.func78
theorem aj6:bY vo QM AZ 1 Tryz.f79=true:=by kernel_rfl
theorem adB:al.funcs[(79:Nat)]? =some Tryz.f79:=Tryz.func79
theorem Ms:bY vo E3 alY 2 Tryz.f147=true:=by kernel_rfl
theorem JV:al.funcs[(147:Nat)]? =some Tryz.f147:=Tryz.func147
theorem aku:bY vo Ra M0 2 Tryz.f149=true:=by kernel_rfl
theorem adZ:al.funcs[(149:Nat)]? =some Tryz.f149:=Tryz.func149
theorem akv:bY vo Rb M2 2 Tryz.f150=true:=by kernel_rfl
theorem ad0:al.funcs[(150:Nat)]? =some Tryz.f150:=Tryz.func150
theorem Dq:bY vo zj wQ 3 Tryz.f151=true:=by kernel_rfl
theorem B0:al.funcs[(151:Nat)]? =some Tryz.f151:=Tryz.func151
theorem V6:bY vo Jg M1 3 Tryz.f181=true:=by kernel_rfl
theorem Sh:al.funcs[(181:Nat)]? =some Tryz.f181:=Tryz.func181
theorem Dp:bY vo zi wP 2 Tryz.f210=true:=by kernel_rfl
theorem BZ:al.funcs[(210:Nat)]? =some Tryz.f210:=Tryz.func210
open Classical in
theorem aoh(l:List bJ):bt al 78 [.slice 2 .no (l.map bJ.e)] (.bool (decide (jl l))):=by
 generalize bg:decide (jl l)=R;refine bc ml adz aj4 fun aN=>?_;unfold QK;have eV:l.length≤68719476736:=by simp[ey,ea,en,lim]at aN;omega
 simp;refine dR [0,5,6] (fun i (_:Unit)=>[(7,.int .i64 i)]) l.length (fun i _=> ∀j,j<i→il mf ny l j) () bW (fun k ad=>by omega) (fun _ af _=>?_) (fun i _ hi af _=>?_)
 ·have:R=true:=by rw[←bg,fK,Gt];exact af
  rw[this];exact bO
 ·obtain⟨b,ae⟩:∃b,l[i]? =some b:=⟨_,cl hi⟩;obtain⟨c,ay⟩:∃c,l[i-1]? =some c:=⟨_,cl (by omega)⟩;have cG:∀h,(l[i]'h)=b:=fun h=>by rw[cl hi]at ae;exact fq ae
  have dt:¬il mf ny l i→R=false:=fun h=>by rw[←bg,hR];exact fun cx=>h (Gt.1 cx i hi)
  have cY:il mf ny l i→∀j,j<i+1→il mf ny l j:=fun h j jy=>by
   by_cases e:j=i
   ·rw[e];exact h
   ·exact af j (by omega)
  have pD:il mf ny l i→mf b:=fun h=>(h b ae).1;have bE:il mf ny l i→0<i→c.v<b.v:=fun h bD=>(h b ae).2 c bD ay;have eJ:mf b→(0<i→c.v<b.v)→il mf ny l i:=fun J U bP gb=>by rw[ae]at gb;cases gb;exact⟨J,fun ct bD hh=>by rw[ay]at hh;cases hh;exact U bD⟩
  unfold mf at pD eJ;by_cases g0:0<i∧¬c.v<b.v
  ·rw[dt (fun h=>g0.2 (bE h g0.1))];have aqb:=g0.1;have vL:b.v≤c.v:=by omega
   exact bO
  have aR:(decide (0<i)&&decide (b.v≤c.v))=false:=by simp;intro h;by_cases cP:c.v<b.v;exact cP;exact absurd ⟨h,cP⟩ g0
  by_cases g1:0≤b.v∧b.v≤100000;rotate_left
  ·rw[dt (fun h=>g1 (pD h).1)];have lb:decide (0≤b.v∧b.v≤100000)=false:=by simp only[hR];exact g1
   by_cases bD:0<i
   ·have vL:¬b.v≤c.v:=by simp[bD]at aR;omega
    simp[hi,cG,ay];(with_reducible repeat' first|refine aj ?_|refine aD (dA _ _ _) ?_|refine aE (dA _ _ _) ?_|simp[cG,ay,hi,bD,vL,lb,g1]);all_goals simp[bu,DC,aY,aZ,aW]
   ·obtain rfl:i=0:=by omega
    simp[hi,cG,ay];(with_reducible repeat' first|refine aj ?_|refine aD (dA _ _ _) ?_|refine aE (dA _ _ _) ?_|simp[cG,ay,hi,lb,g1]);all_goals simp[bu,DC,aY,aZ,aW]
  have lb:decide (0≤b.v∧b.v≤100000)=true:=by simp only[fK];exact g1
  by_cases g2:b.k=2∨b.k=3;rotate_left
  ·rw[dt (fun h=>g2 (pD h).2)];have g21:(b.k !=2)=true:=by simp;omega
   have g22:(b.k !=3)=true:=by simp;omega
   by_cases bD:0<i
   ·have vL:¬b.v≤c.v:=by simp[bD]at aR;omega
    simp[hi,cG,ay];(with_reducible repeat' first|refine aj ?_|refine aD (dA _ _ _) ?_|refine aE (dA _ _ _) ?_|simp[cG,ay,hi,bD,vL,lb,g1,g21,g22]);all_goals simp[bu,DC,aY,aZ,aW]
   ·obtain rfl:i=0:=by omega
    simp[hi,cG,ay];(with_reducible repeat' first|refine aj ?_|refine aD (dA _ _ _) ?_|refine aE (dA _ _ _) ?_|simp[cG,ay,hi,lb,g1,g21,g22]);all_goals simp[bu,DC,aY,aZ,aW]
  have c7:=cY (eJ ⟨g1,g2⟩ fun bD=>by simp[bD]at aR;omega);have aei:((b.k !=2)=false)∨((b.k !=2)=true∧(b.k !=3)=false):=by
   rcases g2 with h|h
   ·left;simp[h]
   ·right;simp[h]
  rcases aei with g21|⟨g21,g22⟩
  ·by_cases bD:0<i
   ·have vL:¬b.v≤c.v:=by simp[bD]at aR;omega
    simp[hi,cG,ay];(with_reducible repeat' first|refine aj ?_|refine aD (dA _ _ _) ?_|refine aE (dA _ _ _) ?_|simp[cG,ay,hi,bD,vL,lb,g1,g21]);all_goals exact bT.rng () hi c7 bW
   ·obtain rfl:i=0:=by omega
    simp[hi,cG,ay];(with_reducible repeat' first|refine aj ?_|refine aD (dA _ _ _) ?_|refine aE (dA _ _ _) ?_|simp[cG,ay,hi,lb,g1,g21]);all_goals exact bT.rng () hi c7 bW
  ·by_cases bD:0<i
   ·have vL:¬b.v≤c.v:=by simp[bD]at aR;omega
    simp[hi,cG,ay];(with_reducible repeat' first|refine aj ?_|refine aD (dA _ _ _) ?_|refine aE (dA _ _ _) ?_|simp[cG,ay,hi,bD,vL,lb,g1,g21,g22]);all_goals exact bT.rng () hi c7 bW
   ·obtain rfl:i=0:=by omega
    simp[hi,cG,ay];(with_reducible repeat' first|refine aj ?_|refine aD (dA _ _ _) ?_|refine aE (dA _ _ _) ?_|simp[cG,ay,hi,lb,g1,g21,g22]);all_goals exact bT.rng () hi c7 bW
theorem lX(a b:bj):bt al 147 [a.e,b.e] (.bool (hQ fl a b)):=by
 rw[←VD];have bg:tn a b=(decide (a.v<b.v)||(a.v==b.v&&hC a.s b.s)):=rfl;rcases Int.lt_trichotomy a.v b.v with h|h|h
 ·have:tn a b=true:=by rw[bg];simp[h]
  rw[this];refine bc ml JV Ms fun aN=>?_;unfold E3;exact bO
 ·have J:¬a.v<b.v:=by omega
  have U:(a.v==b.v)=true:=by simp[h]
  have:tn a b=hC a.s b.s:=by rw[bg];simp[h]
  rw[this];refine bc ml JV Ms fun aN=>?_;unfold E3;exact bO
 ·have J:¬a.v<b.v:=by omega
  have U:¬a.v=b.v:=by omega
  have ar:(a.v==b.v)=false:=by simp[U]
  have:tn a b=false:=by rw[bg];simp[J,U]
  rw[this];refine bc ml JV Ms fun aN=>?_;unfold E3;exact bO
def Un(l:List c3)(i:Nat)(_:Unit):Prop:= ∀j,j<i→AI l j
open Classical in
theorem anP(l:List c3):bt al 145 [.slice 5 .no (l.map c3.e)] (.bool (decide (y7 l))):=by
 generalize bg:decide (y7 l)=R;refine bc eO adR akm fun aN=>?_;unfold Q2;have eV:l.length≤68719476736:=by simp[ey,ea,en,lim]at aN;omega
 simp;refine dR [0,5,6] (fun i (_:Unit)=>[(7,.int .i64 i)]) l.length (Un l) () bW (fun k ad=>by omega) (fun _ af _=>?_) (fun i _ hi af _=>?_)
 ·have:R=decide (l.length≤400):=by rw[←bg,decide_eq_decide];exact⟨fun h=>h.1,fun h=>⟨h,fun j jy=>af j jy⟩⟩
  rw[this];simp;(with_reducible repeat' first|refine aj ?_|simp);simp[bu,MY,aY,aZ,aW];all_goals(first|done|omega|(simp;done)|(simp;omega))
 ·obtain⟨b,ae⟩:∃b,l[i]? =some b:=⟨_,cl hi⟩;obtain⟨c,ay⟩:∃c,l[i-1]? =some c:=⟨_,cl (by omega)⟩;have cG:∀h,(l[i]'h)=b:=fun h=>by rw[cl hi]at ae;exact fq ae
  have dt:¬AI l i→R=false:=fun h=>by rw[←bg,hR];exact fun cx=>h (cx.2 i hi)
  have cY:AI l i→Un l (i+1) ():=fun h j jy=>by
   by_cases e:j=i
   ·rw[e];exact h
   ·exact af j (by omega)
  simp[hi,cG,ay];((with_reducible repeat' first|refine aj ?_|refine aD (dA _ _ _) ?_|refine aE (dA _ _ _) ?_|refine aD (w6 _) ?_|refine aE (w6 _) ?_|simp[cG,ay,hi]|((first|apply bK|apply bM|apply bL)<;>intro h<;>try simp at h))<;>(try exact cc));all_goals first
   |(have au:¬AI l i:=by(intro cx;have J:=cx b ae;have U:=J.2.1 c;have ar:=J.2.2;first|omega|(have a8:=U (by omega) ay;omega)|(rw[ar]at h;cases h)|(simp_all;done)|(simp_all;omega))
     rw[dt au]
     simp[bu,MY,aY,aZ,aW]
     done)
   |(refine bT.rng () hi (cY fun bP gb=>?_) ?_
     ·rw[ae]at gb;cases gb
      refine⟨?_,fun ct bD hh=>?_,?_⟩
      ·omega
      ·rw[ay]at hh;cases hh;omega
      ·first|assumption|simp_all
     ·exact bW)
def mH(n:Int):List Int→List Int
 |[]=>[n]
 |c::l=>if c<n then c::mH n l else if c=n then c::l else n::c::l
def tP(l:List Int):Prop:=l.Pairwise (· < ·)
theorem Ug(n:Int):∀(l:List Int) (k:Nat),(∀i c,i<k→l[i]? =some c→c<n)→(∀c,l[k]? =some c→n≤c)→k≤l.length→mH n l=if l[k]? =some n then l else l.take k++n::l.drop k
 |[],k,_,_,ad=>by simp at ad;subst ad;rfl
 |c::l,0,_,U,_=>by
  have:=U c rfl;by_cases e:c=n
  ·simp[mH,e]
  ·have ar:¬c<n:=by omega
   simp[mH,ar,e]
 |c::l,k+1,J,U,ad=>by have bD:=J 0 c (by omega) rfl;simp only[mH,if_pos bD,List.take_succ_cons,List.drop_succ_cons,bX,List.getElem?_cons_succ];rw[Ug n l k (fun i d hi aR=>J (i+1) d (by omega) (by simpa using aR)) (fun d aR=>U d (by simpa using aR)) (by simpa using ad)];split<;>rfl
theorem LU{n m:Int}:∀{l:List Int},m∈mH n l↔m=n∨m∈l
 |[]=>by simp[mH]
 |c::l=>by
  simp only[mH];split
  ·simp only[gf,LU (l:=l)];constructor
   ·rintro(h|h|h)
    ·exact .inr (.inl h)
    ·exact .inl h
    ·exact .inr (.inr h)
   ·rintro(h|h|h)
    ·exact .inr (.inl h)
    ·exact .inl h
    ·exact .inr (.inr h)
  ·split
   ·rename_i h;subst h;simp
   ·simp
theorem Uf{n:Int}:∀{l:List Int},tP l→tP (mH n l)
 |[],_=>by simp[mH,tP]
 |c::l,h=>by
  obtain⟨J,U⟩:=mW.1 h;simp only[mH];split
  ·rename_i ar;refine mW.2 ⟨fun m hm=>?_,Uf U⟩;rcases LU.1 hm with rfl|hm
   ·exact ar
   ·exact J m hm
  ·split
   ·exact h
   ·refine mW.2 ⟨fun m hm=>?_,h⟩;rcases gf.1 hm with rfl|hm
    ·omega
    ·have:=J m hm;omega
theorem Uh(n:Int):∀l:List Int,(mH n l).length≤l.length+1
 |[]=>by simp[mH]
 |c::l=>by
  have:=Uh n l;simp only[mH];split
  ·simp;omega
  ·split<;>simp
theorem CS(l:List Int)(i:Nat):(eC l)[i]? =(l[i]?).map (ah.int .i64):=by simp[eC]
theorem e5(l:List Int):(eC l).length=l.length:=by simp[eC]
theorem yP:∀l:List Int,cW (eC l)=eC l
 |[]=>by simp[eC,cW]
 |a::l=>by have:=yP l;simp only[eC,gS,cW,dr]at this⊢;rw[this]
theorem Gj(l:List Int)(n:Int)(k:Nat):cW (lY k (eC l)++ah.int .i64 n::nM k (lY l.length (eC l)))=eC (lY k l++n::nM k l):=by
 have e:lY l.length (eC l)=eC l:=hD (by simp[eC]);have aC:lY k (eC l)++ah.int .i64 n::nM k (eC l)=eC (lY k l++n::nM k l):=by simp only[eC,List.map_append,gS,List.map_take,List.map_drop]
 rw[e,aC];exact yP _
theorem anK(l:List Int)(n:Int)(aw:l.length≤1000000)(br:tP l):bt al 126 [.slice 1 .no (eC l),.int .i64 n] (.slice 1 .no (eC (mH n l))):=by
 refine bc eO adH akc fun aN=>?_;unfold QS;simp;refine vH [0,1] (fun(k:Nat)=>[(5,.int .i64 k)]) (fun k=>k) (fun k=>k≤l.length∧∀c,l[k]? =some c→n≤c) l.length bW ⟨by omega,fun c h=>by simp at h⟩ (fun k af _=>?_);obtain⟨ad,af⟩:=af;have vT:(∀c,0<k→l[k-1]? =some c→c<n)→mH n l=if l[k]? =some n then l else l.take k++n::l.drop k:=fun h=>Ug n l k (fun i c hi ay=>by
  obtain⟨d,aR⟩:∃d,l[k-1]? =some d:=⟨_,cl (by omega)⟩;have J:=h d (by omega) aR;rcases Nat.lt_or_ge i (k-1)with U|U
  ·have sW:=(fV.1 ay);have mB:=(fV.1 aR);have:=pU.1 br i (k-1) sW.1 mB.1 U;rw[sW.2,mB.2]at this;omega
  ·have:i=k-1:=by omega
   subst this;rw[aR]at ay;cases ay;exact J) af ad
 have lH:∀c,l[k]? =some c→∀h,((eC l)[k]'h)= .int .i64 c:=fun c h cx=>by have:=CS l k;rw[h,cl cx]at this;exact fq this
 have c7:(0<k→∃d,l[k-1]? =some d∧d<n)→∀P:Prop,(mH n l=(if l[k]? =some n then l else l.take k++n::l.drop k)→P)→P:=fun h P nl=>nl (vT fun c bD ay=>by obtain⟨d,aR,J⟩:=h bD;rw[aR]at ay;cases ay;exact J)
 rcases Nat.eq_zero_or_pos k with bD|fy
 ·have bq:decide ((0:Int)<k)=false:=by simp;omega
  refine c7 (fun h=>by omega) _ fun e=>?_;by_cases iJ:k<l.length
  ·obtain⟨c,ay⟩:∃c,l[k]? =some c:=⟨_,cl iJ⟩;have hh:=lH c ay;rw[ay]at e;by_cases q:c=n
   ·have gH:(c==n)=true:=by simp[q]
    rw[if_pos (by rw[q])]at e;rw[e];simp[bq,iJ];((with_reducible repeat' first|refine aj ?_|simp[bq,iJ,hh,gH]|((first|apply bK|apply bM|apply bL)<;>intro h<;>try simp at h))<;>(try exact cc));all_goals simp[bu,yB,aY,aZ,aW]
   ·have gH:(c==n)=false:=by simp[q]
    rw[if_neg (by simp[q])]at e;rw[e];simp[bq,iJ];((with_reducible repeat' first|refine aj ?_|simp[bq,iJ,hh,gH]|((first|apply bK|apply bM|apply bL)<;>intro h<;>try simp at h))<;>(try exact cc));all_goals simp[bu,yB,aY,aZ,aW]
    all_goals exact Gj l n k
  ·rw[qw (by omega)]at e;simp only[reduceCtorEq,if_false]at e;rw[e];simp[bq,iJ];((with_reducible repeat' first|refine aj ?_|simp[bq,iJ]|((first|apply bK|apply bM|apply bL)<;>intro h<;>try simp at h))<;>(try exact cc));all_goals simp[bu,yB,aY,aZ,aW]
   all_goals exact Gj l n k
 ·obtain⟨d,aR⟩:∃d,l[k-1]? =some d:=⟨_,cl (by omega)⟩;have ak:((k:Int)-1).toNat=k-1:=by omega
  have aC:∀h,((eC l)[k-1]'h)= .int .i64 d:=fun cx=>by have:=CS l (k-1);rw[aR,cl cx]at this;exact fq this
  have ja:(0:Int)<k:=by omega
  have l8:k-1<l.length:=by omega
  by_cases ae:n≤d
  ·simp[fy,ja,ak,aC,ae,l8];(with_reducible repeat' first|refine aj ?_|simp[fy,ja,ak,aC,ae,l8]);refine bT.whl (k-1) (by omega) ⟨by omega,fun c ay=>by rw[aR]at ay;cases ay;exact ae⟩ ?_;have bk:((k-1:Nat):Int)=(k:Int)-1:=by omega
   simp[bk];exact bW
  ·refine c7 (fun _=>⟨d,aR,by omega⟩) _ fun e=>?_;by_cases iJ:k<l.length
   ·obtain⟨c,ay⟩:∃c,l[k]? =some c:=⟨_,cl iJ⟩;have hh:=lH c ay;rw[ay]at e;by_cases q:c=n
    ·have gH:(c==n)=true:=by simp[q]
     rw[if_pos (by rw[q])]at e;rw[e];simp[fy,ja,ak,aC,ae,l8,iJ];((with_reducible repeat' first|refine aj ?_|simp[fy,ja,ak,aC,ae,l8,iJ,hh,gH]|((first|apply bK|apply bM|apply bL)<;>intro h<;>try simp at h))<;>(try exact cc));all_goals simp[bu,yB,aY,aZ,aW]
    ·have gH:(c==n)=false:=by simp[q]
     rw[if_neg (by simp[q])]at e;rw[e];simp[fy,ja,ak,aC,ae,l8,iJ];(with_reducible repeat' first|refine aj ?_|simp[fy,ja,ak,aC,ae,l8,iJ,hh,gH]);all_goals simp[bu,yB,aY,aZ,aW]
     all_goals exact Gj l n k
   ·rw[qw (by omega)]at e;simp only[reduceCtorEq,if_false]at e;rw[e];simp[fy,ja,ak,aC,ae,l8,iJ];(with_reducible repeat' first|refine aj ?_|simp[fy,ja,ak,aC,ae,l8,iJ]);all_goals simp[bu,yB,aY,aZ,aW]
    all_goals exact Gj l n k
def iN:T→List Int→List Int
 | .var n,l=>mH n l
 | .pair a b,l=>iN b (iN a l)
 |_,l=>l
theorem Og:∀(t:T) {l:List Int},tP l→tP (iN t l)
 | .var _,_,h=>Uf h
 | .pair a b,_,h=>Og b (Og a h)
 | .nil,_,h=>h
 | .sym _,_,h=>h
 | .num _,_,h=>h
theorem GO{m:Int}:∀(t:T) {l:List Int},m∈iN t l↔t.occ m=true∨m∈l
 | .var n,l=>by simp only[iN,LU,T.occ,dS];constructor<;>rintro(h|h)<;>first|exact .inr h|exact .inl h.symm
 | .pair a b,l=>by
  simp only[iN,GO b,GO a,T.occ,mT];constructor
  ·rintro(h|h|h)
   ·exact .inl (.inr h)
   ·exact .inl (.inl h)
   ·exact .inr h
  ·rintro((h|h)|h)
   ·exact .inr (.inl h)
   ·exact .inl h
   ·exact .inr (.inr h)
 | .nil,l=>by simp[iN,T.occ]
 | .sym _,l=>by simp[iN,T.occ]
 | .num _,l=>by simp[iN,T.occ]
theorem Ea:∀(t:T) (l:List Int),(iN t l).length≤l.length+t.size
 | .var n,l=>by have:=Uh n l;simp only[iN,T.size];omega
 | .pair a b,l=>by have J:=Ea a l;have U:=Ea b (iN a l);simp only[iN,T.size];omega
 | .nil,l=>by simp[iN]
 | .sym _,l=>by simp[iN]
 | .num _,l=>by simp[iN]
theorem Ib:∀(t:T) (l:List Int),l.length+t.size≤1000000→tP l→bt al 58 [t.e,.slice 1 .no (eC l)] (.slice 1 .no (eC (iN t l)))
 | .var n,l,aw,br=>by
  simp only[T.size]at aw;have key:=anK l n (by omega) br;refine bc eO BY Dn fun aN=>?_;unfold zh;simp;(with_reducible repeat' first|refine aj ?_|refine aD key ?_|refine aE key ?_|simp);all_goals simp[bu,A1,aY,aZ,aW]
  all_goals simp[iN,yP]
 | .pair a b,l,aw,br=>by
  simp only[T.size]at aw;have Ly:=Ea a l;have aP:=Ib a l (by omega) br;have a6:=Ib b (iN a l) (by omega) (Og a br);refine bc eO BY Dn fun aN=>?_;unfold zh;simp;refine dR [15,16] (fun i (_:Unit)=>[(1,.slice 1 .no (eC (if i=0 then l else if i=1 then iN a l else iN b (iN a l)))),(17,.int .i64 i)]) 2 (fun _ _=>True) () bW trivial (fun _ _ _=>?_) (fun i _ hi _ _=>?_)
  ·simp;(with_reducible repeat' first|refine aj ?_|simp);simp[bu,A1,aY,aZ,aW];simp[iN,yP]
  ·rcases(by omega:i=0∨i=1)with rfl|rfl
   ·simp;((with_reducible repeat' first|refine aj ?_|refine aD aP ?_|refine aE aP ?_|simp|((first|apply bK|apply bM|apply bL)<;>intro h<;>try simp at h))<;>(try exact cc));exact bT.rng () hi trivial bW
   ·simp;((with_reducible repeat' first|refine aj ?_|refine aD a6 ?_|refine aE a6 ?_|simp|((first|apply bK|apply bM|apply bL)<;>intro h<;>try simp at h))<;>(try exact cc));exact bT.rng () hi trivial bW
 | .nil,l,aw,br=>by refine bc eO BY Dn fun aN=>?_;unfold zh;simp;refine dR [15,16] (fun i (_:Unit)=>[(1,.slice 1 .no (eC l)),(17,.int .i64 i)]) 0 (fun _ _=>True) () bW trivial (fun _ _ _=>?_) (fun i _ hi _ _=>by omega);simp;((with_reducible repeat' first|refine aj ?_|simp|((first|apply bK|apply bM|apply bL)<;>intro h<;>try simp at h))<;>(try exact cc));simp[bu,A1,aY,aZ,aW];simp[iN,yP]
 | .sym _,l,aw,br=>by refine bc eO BY Dn fun aN=>?_;unfold zh;simp;refine dR [15,16] (fun i (_:Unit)=>[(1,.slice 1 .no (eC l)),(17,.int .i64 i)]) 0 (fun _ _=>True) () bW trivial (fun _ _ _=>?_) (fun i _ hi _ _=>by omega);simp;(with_reducible repeat' first|refine aj ?_|simp);simp[bu,A1,aY,aZ,aW];simp[iN,yP]
 | .num _,l,aw,br=>by refine bc eO BY Dn fun aN=>?_;unfold zh;simp;refine dR [15,16] (fun i (_:Unit)=>[(1,.slice 1 .no (eC l)),(17,.int .i64 i)]) 0 (fun _ _=>True) () bW trivial (fun _ _ _=>?_) (fun i _ hi _ _=>by omega);simp;(with_reducible repeat' first|refine aj ?_|simp);simp[bu,A1,aY,aZ,aW];simp[iN,yP]
def ahj(s:List dm)(a b:T)(i:Nat)(_:Unit):Prop:=(1≤i→a.has s=false)∧(2≤i→b.has s=false)
theorem N7(s:List dm):∀t:T,bt al 210 [t.e,.str s] (.bool (t.has s))
 | .pair a b=>by
  have dW:=N7 s a;have dX:=N7 s b;refine bc ml BZ Dp fun aN=>?_;unfold zi;simp;refine dR [1,2,8,9] (fun i (_:Unit)=>[(10,.int .i64 i)]) 2 (ahj s a b) () bW ⟨fun h=>by omega,fun h=>by omega⟩ (fun _ af _=>?_) (fun i _ hi af _=>?_)
  ·simp;(with_reducible repeat' first|refine aj ?_|simp);simp[bu,wP,aY,aZ,aW];simp[T.has,af.1,af.2]
  ·rcases(by omega:i=0∨i=1)with rfl|rfl
   ·cases br:a.has s
    ·rw[br]at dW;simp;((with_reducible repeat' first|refine aj ?_|refine aD dW ?_|refine aE dW ?_|simp|((first|apply bK|apply bM|apply bL)<;>intro h<;>try simp at h))<;>(try exact cc));exact bT.rng () hi ⟨fun _=>br,fun h=>by omega⟩ bW
    ·rw[br]at dW;simp;((with_reducible repeat' first|refine aj ?_|refine aD dW ?_|refine aE dW ?_|simp|((first|apply bK|apply bM|apply bL)<;>intro h<;>try simp at h))<;>(try exact cc));simp[bu,wP,aY,aZ,aW];simp[T.has,br]
   ·cases ae:b.has s
    ·rw[ae]at dX;simp;((with_reducible repeat' first|refine aj ?_|refine aD dX ?_|refine aE dX ?_|simp|((first|apply bK|apply bM|apply bL)<;>intro h<;>try simp at h))<;>(try exact cc));exact bT.rng () hi ⟨fun _=>af.1 (by omega),fun _=>ae⟩ bW
    ·rw[ae]at dX;simp;((with_reducible repeat' first|refine aj ?_|refine aD dX ?_|refine aE dX ?_|simp|((first|apply bK|apply bM|apply bL)<;>intro h<;>try simp at h))<;>(try exact cc));simp[bu,wP,aY,aZ,aW];simp[T.has,ae]
 | .sym n=>by
  refine bc ml BZ Dp fun aN=>?_;unfold zi;simp;refine dR [1,2,8,9] (fun i (_:Unit)=>[(10,.int .i64 i)]) 0 (fun i _=>True) () bW trivial (fun _ af _=>?_) (fun i _ hi af _=>by omega);simp;(with_reducible repeat' first|refine aj ?_|simp);all_goals simp[bu,wP,aY,aZ,aW]
  all_goals simp[T.has]
 | .num n=>by
  refine bc ml BZ Dp fun aN=>?_;unfold zi;simp;refine dR [1,2,8,9] (fun i (_:Unit)=>[(10,.int .i64 i)]) 0 (fun i _=>True) () bW trivial (fun _ af _=>?_) (fun i _ hi af _=>by omega);simp;(with_reducible repeat' first|refine aj ?_|simp);all_goals simp[bu,wP,aY,aZ,aW]
  all_goals simp[T.has]
 | .var n=>by
  refine bc ml BZ Dp fun aN=>?_;unfold zi;simp;refine dR [1,2,8,9] (fun i (_:Unit)=>[(10,.int .i64 i)]) 0 (fun i _=>True) () bW trivial (fun _ af _=>?_) (fun i _ hi af _=>by omega);simp;(with_reducible repeat' first|refine aj ?_|simp);all_goals simp[bu,wP,aY,aZ,aW]
  all_goals simp[T.has]
 | .nil=>by
  refine bc ml BZ Dp fun aN=>?_;unfold zi;simp;refine dR [1,2,8,9] (fun i (_:Unit)=>[(10,.int .i64 i)]) 0 (fun i _=>True) () bW trivial (fun _ af _=>?_) (fun i _ hi af _=>by omega);simp;(with_reducible repeat' first|refine aj ?_|simp);all_goals simp[bu,wP,aY,aZ,aW]
  all_goals simp[T.has]
def nF(l:List bJ)(o:Option (List bJ)):ah:= .tuple [.slice 2 .no ((o.getD l).map bJ.e),.bool o.isSome]
@[simp] theorem arx(S:aH→Prop)(l:List bJ)(o:Option (List bJ)):aF S (nF l o)=True:=by simp[nF]
def wq(l:List bJ)(n:Int)(i:Nat):Prop:=i≤l.length∧∀j y,j<i→l[j]? =some y→y.v<n
theorem wq.none{l:List bJ}{n:Int}{i:Nat}(h:wq l n i)(br:l.Pairwise fun x y=>x.v<y.v)(ay:∀c,l[i]? =some c→n<c.v):ll l n=none:=yd.2 fun x ab=>by
 obtain⟨j,dK,rfl⟩:=nN ab;have e:=cl dK;rcases Nat.lt_or_ge j i with J|J
 ·have:=h.2 j _ J e;omega
 ·have FQ:i<l.length:=by omega
  have aC:=cl FQ;have ar:=ay _ aC;rcases Nat.lt_or_ge i j with U|U
  ·have:=pU.1 br i j FQ dK U;omega
  ·obtain rfl:i=j:=by omega
   omega
theorem wq.ins{l:List bJ}{n k:Int}{i:Nat}(h:wq l n i)(ay:∀c,l[i]? =some c→n<c.v):lP ⟨n,k⟩ l=l.take i++⟨n,k⟩::l.drop i:=Ui ⟨n,k⟩ l i (fun j y J U=>h.2 j y J U) (fun y aG=>by have:=ay y aG;simp;omega) h.1
theorem wq.step{l:List bJ}{n:Int}{i:Nat}{b:bJ}(h:wq l n i)(ae:l[i]? =some b)(au:b.v<n):wq l n (i+1):=⟨(fV.1 ae).1,fun j y J U=>by
 rcases(by omega:j<i∨j=i)with ar|rfl
 ·exact h.2 j y ar U
 ·rw[ae]at U;cases U;exact au⟩
theorem anZ(l:List bJ)(aw:l.length≤1000000)(br:l.Pairwise fun x y=>x.v<y.v)(n k:Int):bt al 151 [.slice 2 .no (l.map bJ.e),(T.var n).e,.int .i64 k] (nF l (iV l (.var n) k)):=by
 generalize du:iV l (.var n) k=O;have dU:(match ll l n with|some bH=>if bH=k then some l else none|none=>some (lP ⟨n,k⟩ l))=O:=by rw[←du];rfl
 clear du;refine bc ml B0 Dq fun aN=>?_;unfold zj;simp;refine vH [0,2,4] (fun(i:Nat)=>[(8,.int .i64 i)]) (fun i=>l.length-i) (wq l n) 0 bW ⟨by omega,fun j y h=>by omega⟩ (fun i af _=>?_);have ad:=af.1;by_cases hi:i<l.length
 ·obtain⟨b,ae,cG⟩:=dP hi;rcases Int.lt_trichotomy b.v n with h|h|h
  ·have ag:=af.step ae h;clear dU af ae br;simp[hi,cG,h];((with_reducible repeat' first|refine aj ?_|simp[hi,cG,h]|((first|apply bK|apply bM|apply bL)<;>intro h<;>try simp at h))<;>(try exact cc));exact bT.whl (i+1) (by omega) ag bW
  ·have aX:ll l n=some b.k:=by rw[←h];exact Gv br (dZ ae)
   have J:¬b.v<n:=by omega
   have U:(b.v==n)=true:=by simp[h]
   rw[aX]at dU;simp only at dU;subst dU;clear af ae br aX;simp[hi,cG,J,U];(with_reducible repeat' first|refine aj ?_|simp[hi,cG,J,U]);all_goals simp[bu,wQ,aY,aZ,aW]
   all_goals(by_cases e:b.k=k<;>simp[nF,e])
  ·have J:¬b.v<n:=by omega
   have U:(b.v==n)=false:=by simp;omega
   have ay:∀c,l[i]? =some c→n<c.v:=fun c ay=>by rw[ae]at ay;cases ay;exact h
   rw[af.none br ay]at dU;simp only[af.ins ay]at dU;subst dU;clear af ae br ay;simp[hi,cG,J,U];(with_reducible repeat' first|refine aj ?_|simp[hi,cG,J,U]);all_goals simp[bu,wQ,aY,aZ,aW]
   all_goals simp[nF]
   rw[hD (by simp:(l.map bJ.e).length≤l.length),←List.map_take,←List.map_drop,←gS,←List.map_append];exact NG _
 ·have ay:∀c,l[i]? =some c→n<c.v:=fun c ay=>by rw[qw (by omega)]at ay;cases ay
  rw[af.none br ay]at dU;simp only[af.ins ay]at dU;have FQ:i=l.length:=by omega
  clear af br ay;subst dU;subst FQ;simp;(with_reducible repeat' first|refine aj ?_|simp);all_goals simp[bu,wQ,aY,aZ,aW]
  all_goals simp[nF]
  rw[hD (by simp:(l.map bJ.e).length≤l.length),show [(⟨n,k⟩:bJ).e]=[(⟨n,k⟩:bJ)].map bJ.e from rfl,←List.map_append];exact NG _
theorem N8(l:List bJ)(aw:l.length≤1000000)(br:l.Pairwise fun x y=>x.v<y.v)(t:T)(k:Int):bt al 151 [.slice 2 .no (l.map bJ.e),t.e,.int .i64 k] (nF l (iV l t k)):=by
 cases t with
 |var n=>exact anZ l aw br n k
 |nil=>
  refine bc ml B0 Dq fun aN=>?_;unfold zj;simp;(with_reducible repeat' first|refine aj ?_|simp);all_goals simp[bu,wQ,aY,aZ,aW]
  all_goals(by_cases e:0=k<;>simp[nF,iV,e])
 |sym n=>
  refine bc ml B0 Dq fun aN=>?_;unfold zj;simp;(with_reducible repeat' first|refine aj ?_|simp);all_goals simp[bu,wQ,aY,aZ,aW]
  all_goals(by_cases e:2=k<;>simp[nF,iV,e])
 |num n=>
  refine bc ml B0 Dq fun aN=>?_;unfold zj;simp;(with_reducible repeat' first|refine aj ?_|simp);all_goals simp[bu,wQ,aY,aZ,aW]
  all_goals(by_cases e:3=k<;>simp[nF,iV,e])
 |pair a b=>
  refine bc ml B0 Dq fun aN=>?_;unfold zj;simp;(with_reducible repeat' first|refine aj ?_|simp);all_goals simp[bu,wQ,aY,aZ,aW]
  all_goals(by_cases e:4=k<;>simp[nF,iV,e])
theorem YZ(s:List ao)(v:Int):hq s (.var v)=b7 s v:=rfl
theorem N9{s:List ao}(ag:eE s){l:List bJ}(aw:jl l):bt al 149 [.slice 5 .no (s.map ao.e),.slice 2 .no (l.map bJ.e)] (fP (gk s l [])):=by
 have xW:=nZ aw;refine bc ml adZ aku fun aN=>?_;unfold Ra;simp;refine dR [0,11,12] (fun i (a:List bJ)=>[(6,.slice 2 .no (a.map bJ.e)),(13,.int .i64 i)]) l.length (Ul s l) [] bW ⟨⟨by simp,by simp⟩,rfl⟩ (fun a af _=>?_) (fun i a hi af _=>?_)
 ·obtain⟨_,af⟩:=af;rw[List.drop_length]at af;simp only[gk]at af;rw[←af];simp;(with_reducible repeat' first|refine aj ?_|simp);simp[bu,M0,aY,aZ,aW];simp[fP]
 ·obtain⟨br,af⟩:=af;obtain⟨b,ae,cG⟩:=dP hi;have oG:=aw.at' b (dZ ae);rw[lv hi,cG]at af;simp only[gk]at af;have lj:=Ic s ag.len (.var b.v);rw[YZ]at lj;have ed:=N8 a (by have:=nZ br;omega) br.asc (b7 s b.v) b.k;simp[hi,cG];cases dU:iV a (b7 s b.v) b.k with
  |none=>rw[dU]at af ed;simp only at af;rw[←af];simp only[nF]at ed;(with_reducible repeat' first|refine aj ?_|refine aD (js _) ?_|refine aE (js _) ?_|refine aD lj ?_|refine aE lj ?_|refine aD ed ?_|refine aE ed ?_|simp[cG,hi]);simp[bu,M0,aY,aZ,aW];simp[fP]
  |some bp=>rw[dU]at af ed;simp only[nF]at ed;(with_reducible repeat' first|refine aj ?_|refine aD (js _) ?_|refine aE (js _) ?_|refine aD lj ?_|refine aE lj ?_|refine aD ed ?_|refine aE ed ?_|simp[cG,hi]);exact bT.rng bp hi ⟨Ex br (A9 ag oG.1) oG.2 dU,af⟩ bW
open Classical in
theorem aoj(l:List bj):bt al 79 [.slice 2 .no (l.map bj.e)] (.bool (decide (gA l))):=by
 generalize bg:decide (gA l)=R;refine bc ml adB aj6 fun aN=>?_;unfold QM;have eV:l.length≤68719476736:=by simp[ey,ea,en,lim]at aN;omega
 simp;refine dR [0,5,6] (fun i (_:Unit)=>[(7,.int .i64 i)]) l.length (fun i _=> ∀j,j<i→il kn kJ l j) () bW (fun k ad=>by omega) (fun _ af _=>?_) (fun i _ hi af _=>?_)
 ·have:R=true:=by rw[←bg,fK,GJ];exact af
  rw[this];exact bO
 ·obtain⟨b,ae⟩:∃b,l[i]? =some b:=⟨_,cl hi⟩;obtain⟨c,ay⟩:∃c,l[i-1]? =some c:=⟨_,cl (by omega)⟩;have cG:∀h,(l[i]'h)=b:=fun h=>by rw[cl hi]at ae;exact fq ae
  have dt:¬il kn kJ l i→R=false:=fun h=>by rw[←bg,hR];exact fun cx=>h (GJ.1 cx i hi)
  have cY:il kn kJ l i→∀j,j<i+1→il kn kJ l j:=fun h j jy=>by
   by_cases e:j=i
   ·rw[e];exact h
   ·exact af j (by omega)
  have dB:∀p:Prop,(p→eA)→(il kn kJ l i→p)→R=false:=fun p J U=>dt fun h=>J (U h);have pD:il kn kJ l i→kn b:=fun h=>(h b ae).1;have bE:il kn kJ l i→0<i→hQ fl c b=true:=fun h bD=>by simpa[hQ,kJ]using(h b ae).2 c bD ay
  have eJ:kn b→(0<i→hQ fl c b=true)→il kn kJ l i:=fun J U bP gb=>by rw[ae]at gb;cases gb;exact⟨J,fun ct bD hh=>by rw[ay]at hh;cases hh;simpa[hQ,kJ]using U bD⟩
  unfold kn at pD eJ;by_cases g4:0<i
  ·cases g5:hQ fl c b
   ·rw[dB _ (fun h=>by rw[h]at g5;cases g5) (fun h=>bE h g4)];simp[hi,cG,ay];(with_reducible repeat' first|refine aj ?_|refine aD (lX _ _) ?_|refine aE (lX _ _) ?_|simp[cG,ay,hi,g4,g5]);all_goals simp[bu,AZ,aY,aZ,aW]
   ·by_cases g1:0≤b.v∧b.v≤100000;rotate_left
    ·rw[dB _ (fun h=>g1 h) (fun h=>(pD h).1)];have lb:decide (0≤b.v∧b.v≤100000)=false:=by simp only[hR];exact g1
     simp[hi,cG,ay];(with_reducible repeat' first|refine aj ?_|refine aD (lX _ _) ?_|refine aE (lX _ _) ?_|refine aD (dA _ _ _) ?_|refine aE (dA _ _ _) ?_|simp[cG,ay,hi,g4,g5,lb,g1]);all_goals simp[bu,AZ,aY,aZ,aW]
    have lb:decide (0≤b.v∧b.v≤100000)=true:=by simp only[fK];exact g1
    cases g3:iv b.s
    ·rw[dB _ (fun h=>by rw[h]at g3;cases g3) (fun h=>(pD h).2)];have cf:=gQ b.s;rw[g3]at cf;simp[hi,cG,ay];(with_reducible repeat' first|refine aj ?_|refine aD (lX _ _) ?_|refine aE (lX _ _) ?_|refine aD (dA _ _ _) ?_|refine aE (dA _ _ _) ?_|refine aD cf ?_|refine aE cf ?_|simp[cG,ay,hi,g4,g5,lb,g1]);all_goals simp[bu,AZ,aY,aZ,aW]
    have cf:=gQ b.s;rw[g3]at cf;have c7:=cY (eJ ⟨g1,g3⟩ fun _=>g5);simp[hi,cG,ay];(with_reducible repeat' first|refine aj ?_|refine aD (lX _ _) ?_|refine aE (lX _ _) ?_|refine aD (dA _ _ _) ?_|refine aE (dA _ _ _) ?_|refine aD cf ?_|refine aE cf ?_|simp[cG,ay,hi,g4,g5,lb,g1]);all_goals exact bT.rng () hi c7 bW
  ·obtain rfl:i=0:=by omega
   by_cases g1:0≤b.v∧b.v≤100000;rotate_left
   ·rw[dB _ (fun h=>g1 h) (fun h=>(pD h).1)];have lb:decide (0≤b.v∧b.v≤100000)=false:=by simp only[hR];exact g1
    simp[hi,cG,ay];(with_reducible repeat' first|refine aj ?_|refine aD (lX _ _) ?_|refine aE (lX _ _) ?_|refine aD (dA _ _ _) ?_|refine aE (dA _ _ _) ?_|simp[cG,ay,hi,g4,lb,g1]);all_goals simp[bu,AZ,aY,aZ,aW]
   have lb:decide (0≤b.v∧b.v≤100000)=true:=by simp only[fK];exact g1
   cases g3:iv b.s
   ·rw[dB _ (fun h=>by rw[h]at g3;cases g3) (fun h=>(pD h).2)];have cf:=gQ b.s;rw[g3]at cf;simp[hi,cG,ay];(with_reducible repeat' first|refine aj ?_|refine aD (lX _ _) ?_|refine aE (lX _ _) ?_|refine aD (dA _ _ _) ?_|refine aE (dA _ _ _) ?_|refine aD cf ?_|refine aE cf ?_|simp[cG,ay,hi,g4,lb,g1]);all_goals simp[bu,AZ,aY,aZ,aW]
   have cf:=gQ b.s;rw[g3]at cf;have c7:=cY (eJ ⟨g1,g3⟩ fun h=>absurd h g4);simp[hi,cG,ay];(with_reducible repeat' first|refine aj ?_|refine aD (lX _ _) ?_|refine aE (lX _ _) ?_|refine aD (dA _ _ _) ?_|refine aE (dA _ _ _) ?_|refine aD cf ?_|refine aE cf ?_|simp[cG,ay,hi,g4,lb,g1]);all_goals exact bT.rng () hi c7 bW
def pB(s:List dm)(be:List Int)(l:List bj):List bj:=be.foldl (fun a v=>km fl ⟨v,s⟩ a) l
theorem J0(s:List dm):∀(be:List Int) {l:List bj},hS fl l→hS fl (pB s be l)
 |[],_,h=>h
 |v::be,_,h=>J0 s be (Le lT h)
theorem Vo(s:List dm){x:bj}:∀(be:List Int) {l:List bj},x∈pB s be l↔x∈l∨(x.s=s∧x.v∈be)
 |[],l=>by simp[pB]
 |v::be,l=>by
  have:=Vo s (x:=x) be (l:=km fl ⟨v,s⟩ l);rw[show pB s (v::be) l=pB s be (km fl ⟨v,s⟩ l)from rfl,this,GM lT,gf];constructor
  ·rintro((rfl|h)|⟨J,U⟩)
   ·exact .inr ⟨rfl,.inl rfl⟩
   ·exact .inl h
   ·exact .inr ⟨J,.inr U⟩
  ·rintro(h|⟨J,U|U⟩)
   ·exact .inl (.inr h)
   ·refine .inl (.inl ?_);cases x;simp_all
   ·exact .inr ⟨J,U⟩
theorem Ss(s:List dm):∀(be:List Int) (l:List bj),(pB s be l).length≤l.length+be.length
 |[],l=>by simp[pB]
 |v::be,l=>by have J:=Ss s be (km fl ⟨v,s⟩ l);have U:=Lg (c:=fl) (⟨v,s⟩:bj) l;rw[show pB s (v::be) l=pB s be (km fl ⟨v,s⟩ l)from rfl];simp only[pT];omega
theorem aea{t:T}{s:List dm}(cP:t.has s=false){l:List bj}(br:hS fl l):jK l t s=some (pB s (iN t []) l):=IC cP (J0 s _ br) fun x=>by rw[Vo,GO];simp
def CW(l:List bj)(be:List Int)(s:List dm)(i:Nat)(a:List bj):Prop:=a=pB s (be.take i) l
def Ah(a:List bj)(m:bj)(k:Nat):Prop:=k≤a.length∧∀j y,j<k→a[j]? =some y→fl y m<0
theorem Ah.step{a:List bj}{m:bj}{k:Nat}{b:bj}(h:Ah a m k)(ae:a[k]? =some b)(au:fl b m<0):Ah a m (k+1):=⟨(fV.1 ae).1,fun j y J U=>by
 rcases(by omega:j<k∨j=k)with ar|rfl
 ·exact h.2 j y ar U
 ·rw[ae]at U;cases U;exact au⟩
theorem Ah.fin{a:List bj}{m:bj}{k:Nat}(h:Ah a m k)(ay:∀y,a[k]? =some y→0≤fl y m):km fl m a=if(match a[k]? with|some y=>decide (fl y m=0)|none=>false)=true then a else a.take k++m::a.drop k:=(Lf lT m a k (fun j y J U=>h.2 j y J U) ay h.1).trans (by cases a[k]?<;>rfl)
theorem VB(a:List bj)(k:Nat)(m:bj):lY k (a.map bj.e)++m.e::nM k (a.map bj.e)=(a.take k++m::a.drop k).map bj.e:=by simp
theorem AB(a:List bj)(k:Nat)(m:bj):cW (lY k (a.map bj.e)++m.e::nM k (a.map bj.e))=lY k (a.map bj.e)++m.e::nM k (a.map bj.e):=by rw[VB,NH]
theorem AA(S:aH→Prop)(a:List bj)(k:Nat)(m:bj):aJ S (lY k (a.map bj.e)++m.e::nM k (a.map bj.e))=True:=by rw[VB,UR]
theorem VA(a:List bj)(m:bj):a.map bj.e++[m.e]=(a++[m]).map bj.e:=by simp
theorem Az(a:List bj)(m:bj):cW (a.map bj.e++[m.e])=a.map bj.e++[m.e]:=by rw[VA,NH]
theorem Ay(S:aH→Prop)(a:List bj)(m:bj):aJ S (a.map bj.e++[m.e])=True:=by rw[VA,UR]
theorem YI(l:List bj)(aw:l.length≤68719470000)(t:T)(aL:t.size≤5000)(s:List dm)(br:hS fl l):bt al 181 [.slice 2 .no (l.map bj.e),t.e,.str s] (h3 (jK l t s)):=by
 have kF:=N7 s t;cases cP:t.has s;rotate_left
 ·have bD:jK l t s=none:=by simp[jK,cP]
  rw[bD];rw[cP]at kF;refine bc ml Sh V6 fun aN=>?_;unfold Jg;simp;(with_reducible repeat' first|refine aj ?_|refine aD kF ?_|refine aE kF ?_|simp);all_goals simp[bu,M1,aY,aZ,aW]
  all_goals simp[h3]
 ·rw[cP]at kF;have dU:=aea cP br;have oR:=Ea t [];have qd:=Ib t [] (by simp;omega) (by simp[tP]);have Km:eC []=[]:=rfl;rw[Km]at qd;rw[dU];clear dU cP;generalize iN t []=be at qd oR⊢;have kE:be.length≤5000:=by simp at oR;omega
  generalize gp:pB s be l=F;refine bc ml Sh V6 fun aN=>?_;unfold Jg;simp;(with_reducible repeat' first|refine aj ?_|refine aD kF ?_|refine aE kF ?_|refine aD qd ?_|refine aE qd ?_|simp[e5]);refine dR [2,17,18] (fun i (a:List bj)=>[(0,.slice 2 .no (a.map bj.e)),(19,.int .i64 i)]) be.length (CW l be s) l ⟨by simp[fresh,aJ,aF,ck,inObs,Pv.look,e5],ee (by simp[fresh,aJ,aF,ck,inObs,Pv.look,e5]),ef (by simp[fresh,aJ,aF,dV,inObs,Pv.look,e5]),by simp⟩ (by simp[CW,pB]) (fun a af _=>?_) (fun i a hi af _=>?_)
  ·rw[CW,mn,gp]at af;subst af;simp[e5];(with_reducible repeat' first|refine aj ?_|simp[e5]);all_goals simp[bu,M1,aY,aZ,aW]
   all_goals simp[h3]
  ·obtain⟨v,aK⟩:∃v,be[i]? =some v:=⟨_,cl hi⟩;have qX:∀h,((eC be)[i]'h)= .int .i64 v:=fun cx=>by have:=CS be i;rw[aK,cl cx]at this;exact fq this
   have rK:hS fl a:=by rw[af];exact J0 s _ br
   have rL:a.length≤68719475000:=by have:=Ss s (be.take i) l;rw[af];simp at this⊢;omega
   have fx:CW l be s (i+1) (km fl ⟨v,s⟩ a):=by rw[CW,List.take_succ,aK,af];simp[pB]
   generalize hm:(⟨v,s⟩:bj)=m at fx;have af7:m.v=v:=by rw[←hm]
   have uJ:m.s=s:=by rw[←hm]
   subst af7;subst uJ;clear af gp;simp[hi,qX,e5];(with_reducible repeat' first|refine aj ?_|simp[hi,qX,e5]);refine vH [0,2,10,17,18,19] (fun(k:Nat)=>[(11,.int .i64 k)]) (fun k=>a.length-k) (Ah a m) 0 ⟨by simp[fresh,aJ,aF,ck,inObs,Pv.look,e5],ee (by simp[fresh,aJ,aF,ck,inObs,Pv.look,e5]),ef (by simp[fresh,aJ,aF,dV,inObs,Pv.look,e5]),by simp⟩ ⟨by omega,fun j y h=>by omega⟩ (fun k af _=>?_);have ad:=af.1;by_cases hy:k<a.length
   ·obtain⟨b,ae,cG⟩:=dP hy;cases bE:hQ fl b m
    ·have uF:0≤fl b m:=by simpa[hQ]using bE
     have c7:=af.fin (fun y aG=>by rw[ae]at aG;cases aG;exact uF);rw[ae]at c7;cases FP:hQ fl m b
     ·have hle:0≤fl m b:=by simpa[hQ]using FP
      have bD:fl b m=0:=by have:=lT.neg b m;omega
      rw[if_pos (by simp[bD])]at c7;rw[c7]at fx;clear af ae c7 rL rK;simp[hy,cG];((with_reducible repeat' first|refine aj ?_|refine aD (lX _ _) ?_|refine aE (lX _ _) ?_|simp[hy,cG,bE,FP]|((first|apply bK|apply bM|apply bL)<;>intro h<;>try simp at h))<;>(try exact cc));all_goals exact bT.rng a hi fx ⟨by simp[fresh,aJ,aF,ck,inObs,Pv.look,e5],ee (by simp[fresh,aJ,aF,ck,inObs,Pv.look,e5]),ef (by simp[fresh,aJ,aF,dV,inObs,Pv.look,e5]),by simp⟩
     ·have hle:fl m b<0:=by simpa[hQ]using FP
      have bD:¬fl b m=0:=by have:=lT.neg b m;omega
      rw[if_neg (by simp[bD])]at c7;rw[c7]at fx;clear af ae c7 rK;simp[hy,cG];((with_reducible repeat' first|refine aj ?_|refine aD (lX _ _) ?_|refine aE (lX _ _) ?_|simp[hy,cG,bE,FP]|((first|apply bK|apply bM|apply bL)<;>intro h<;>try simp at h))<;>(try exact cc));all_goals first|(refine⟨by unfold lim;omega,?_⟩)|skip
      all_goals(with_reducible repeat' first|refine aj ?_|simp)
      all_goals first|(refine⟨by unfold lim;omega,?_⟩)|skip
      all_goals((with_reducible repeat' first|refine aj ?_|simp|((first|apply bK|apply bM|apply bL)<;>intro h<;>try simp at h))<;>(try exact cc))
      all_goals exact bT.rng _ hi fx ⟨by simp[fresh,aJ,aF,ck,inObs,Pv.look,e5,hD,AB,AA,Az,Ay],ee (by simp[fresh,aJ,aF,ck,inObs,Pv.look,e5,hD,AB,AA,Az,Ay]),ef (by simp[fresh,aJ,aF,dV,inObs,Pv.look,e5,hD,AB,AA,Az,Ay]),by simp⟩
    ·have vZ:fl b m<0:=by simpa[hQ]using bE
     have ag:=af.step ae vZ;clear af ae rK fx;simp[hy,cG];((with_reducible repeat' first|refine aj ?_|refine aD (lX _ _) ?_|refine aE (lX _ _) ?_|simp[hy,cG,bE]|((first|apply bK|apply bM|apply bL)<;>intro h<;>try simp at h))<;>(try exact cc));all_goals exact bT.whl (k+1) (by omega) ag ⟨by simp[fresh,aJ,aF,ck,inObs,Pv.look,e5],ee (by simp[fresh,aJ,aF,ck,inObs,Pv.look,e5]),ef (by simp[fresh,aJ,aF,dV,inObs,Pv.look,e5]),by simp⟩
   ·have c7:=af.fin (fun y aG=>by rw[qw (by omega)]at aG;cases aG);rw[qw (by omega)]at c7;simp only[hb,if_false]at c7;rw[c7]at fx;have iJ:k=a.length:=by omega
    clear af c7 rK;subst iJ;simp;(with_reducible repeat' first|refine aj ?_|simp);all_goals first|(refine⟨by unfold lim;omega,?_⟩)|skip
    all_goals(with_reducible repeat' first|refine aj ?_|simp)
    all_goals first|(refine⟨by unfold lim;omega,?_⟩)|skip
    all_goals(with_reducible repeat' first|refine aj ?_|simp)
    all_goals exact bT.rng _ hi fx ⟨by simp[fresh,aJ,aF,ck,inObs,Pv.look,e5,hD,AB,AA,Az,Ay],ee (by simp[fresh,aJ,aF,ck,inObs,Pv.look,e5,hD,AB,AA,Az,Ay]),ef (by simp[fresh,aJ,aF,dV,inObs,Pv.look,e5,hD,AB,AA,Az,Ay]),by simp⟩
theorem Oa{s:List ao}(ag:eE s){l:List bj}(aw:gA l){G:List (List dm)}(hg:G.length≤687000)(aX:nI G l):bt al 150 [.slice 5 .no (s.map ao.e),.slice 2 .no (l.map bj.e)] (h3 (gl s l [])):=by
 have hlen:∀{a:List bj},gA a→nI G a→a.length≤68719470000:=fun J U=>by have:=C9 J U;omega
 have xW:=hlen aw aX;refine bc ml ad0 akv fun aN=>?_;unfold Rb;simp;refine dR [0,11,12] (fun i (a:List bj)=>[(6,.slice 2 .no (a.map bj.e)),(13,.int .i64 i)]) l.length (Um s G l) [] bW ⟨⟨by simp,by simp[hS]⟩,fun x ab=>by simp at ab,rfl⟩ (fun a af _=>?_) (fun i a hi af _=>?_)
 ·obtain⟨_,_,af⟩:=af;rw[List.drop_length]at af;simp only[gl]at af;rw[←af];simp;(with_reducible repeat' first|refine aj ?_|simp);simp[bu,M2,aY,aZ,aW];simp[h3]
 ·obtain⟨br,CM,af⟩:=af;obtain⟨b,ae,cG⟩:=dP hi;have oG:=aw.at' b (dZ ae);have Kq:=aX b (dZ ae);rw[lv hi,cG]at af;simp only[gl]at af;have lj:=Ic s ag.len (.var b.v);rw[YZ]at lj;have ed:=YI a (hlen br CM) (b7 s b.v) (DR ag b.v) b.s br.asc;simp[hi,cG];cases dU:jK a (b7 s b.v) b.s with
  |none=>rw[dU]at af ed;simp only at af;rw[←af];simp only[h3]at ed;(with_reducible repeat' first|refine aj ?_|refine aD (js _) ?_|refine aE (js _) ?_|refine aD lj ?_|refine aE lj ?_|refine aD ed ?_|refine aE ed ?_|simp[cG,hi]);simp[bu,M2,aY,aZ,aW];simp[h3]
  |some bp=>rw[dU]at af ed;simp only[h3]at ed;(with_reducible repeat' first|refine aj ?_|refine aD (js _) ?_|refine aE (js _) ?_|refine aD lj ?_|refine aE lj ?_|refine aD ed ?_|refine aE ed ?_|simp[cG,hi]);exact bT.rng bp hi ⟨Ey br (A9 ag oG.1) oG.2 dU,Ez CM Kq dU,af⟩ bW
theorem amW{s:List ao}(ax:qm s)(br:iP s)(aI:hE s):gL (s.map ao.b)=s.all (mq s):=by
 rw[qu,hs,re,←XI br];constructor
 ·rintro⟨ai,J,U,ar,a8⟩;rw[vu J];exact ar
 ·intro ar;exact⟨s,rfl,ax,ar,aI⟩
theorem ZS{s:List ao}(br:iP s)(b:ao):mq s b=true↔(∀v∈iN b.t [],ds s v=none)∧(b.t.kind==1&&decide (b.v≤b.t.int))=false:=by unfold mq;rw[cE,St br];simp only[true_and,sx,GO,List.not_mem_nil,or_false]
def CV(s:List ao)(be:List Int)(i:Nat)(_:Unit):Prop:= ∀v∈be.take i,ds s v=none
theorem CV.step{s:List ao}{be:List Int}{i:Nat}(h:CV s be i ()){v:Int}(aK:be[i]? =some v)(au:ds s v=none):CV s be (i+1) ():=fun w hw=>by
 rw[List.take_succ,aK]at hw;simp only[ka,Option.toList_some,List.mem_singleton]at hw;rcases hw with hw|rfl
 ·exact h w hw
 ·exact au
theorem Od(l:List c3):bt al 76 [.slice 5 .no (l.map c3.e)] (.bool (gL l)):=by
 have aK:=anP l;by_cases h:y7 l;rotate_left
 ·have bD:gL l=false:=by unfold gL;simp only[hR];rintro⟨s,J,U,ar,a8⟩;exact h (Ih.2 ⟨s,J,U,ar.asc,a8⟩)
  rw[bD];refine bc eO Sg V5 fun aN=>?_;unfold Jf;exact bO
 ·obtain⟨s,rfl,ax,br,aI⟩:=Ih.1 h;have aw:s.length≤1000000:=by have:=aI.1;omega
  rw[amW ax br aI];rw[yk]at aK⊢;simp only[h,decide_true]at aK;clear h;generalize bg:s.all (mq s)=R;refine bc eO Sg V5 fun aN=>?_;unfold Jf;simp;(with_reducible repeat' first|refine aj ?_|refine aD aK ?_|refine aE aK ?_|simp);refine dR [0,12,13] (fun i (_:Unit)=>[(14,.int .i64 i)]) s.length (k0 (mq s) s) () bW (fun k b ad=>by omega) (fun _ af _=>?_) (fun i _ hi af _=>?_)
  ·have:R=true:=by rw[←bg,hs];intro b ae;obtain⟨k,ad,e⟩:=nN ae;exact af k b ad (by rw[cl ad,e])
   rw[this];exact bO
  ·obtain⟨b,ae,cG⟩:=dP hi;have dB:¬mq s b=true→R=false:=fun h=>by rw[←bg,Bool.eq_false_iff];intro cx;rw[hs]at cx;exact h (cx b (dZ ae))
   have rQ:mq s b=true→k0 (mq s) s (i+1) ():=fun h=>af.step ae h;have uG:=ZS br b;have ep:=aI.2 b (dZ ae);have oR:=Ea b.t [];have qd:=Ib b.t [] (by simp;omega) (by simp[tP]);have Km:eC []=[]:=rfl;rw[Km]at qd;generalize iN b.t []=be at qd oR uG;have kE:be.length≤5000:=by simp at oR;omega
   rw[uG]at dB rQ;clear uG af oR ae;simp[hi,cG];cases ad:(b.t.kind==1&&decide (b.v≤b.t.int));rotate_left
   ·rw[dB (by rw[ad];simp)];rw[cE]at ad;have gy:=ad.1;have lf:b.v≤b.t.int:=of_decide_eq_true ad.2;exact bO
   ·rw[ad]at dB rQ;simp only[and_true]at dB rQ;cases gy:(b.t.kind==1)
    ·clear ad;(with_reducible repeat' first|refine aj ?_|refine aD qd ?_|refine aE qd ?_|simp[cG,hi,e5,gy]);refine dR [0,12,13,14,32,33] (fun j (_:Unit)=>[(34,.int .i64 j)]) be.length (CV s be) () ⟨by simp[fresh,aJ,aF,ck,inObs,Pv.look,e5],ee (by simp[fresh,aJ,aF,ck,inObs,Pv.look,e5]),ef (by simp[fresh,aJ,aF,dV,inObs,Pv.look,e5]),by simp⟩ (fun v aK=>by simp at aK) (fun _ af _=>?_) (fun j _ dK af _=>?_)
     ·have aX:=rQ (fun v aK=>af v (by rwa[mn]));simp[e5];(with_reducible repeat' first|refine aj ?_|simp[e5]);exact bT.rng () hi aX ⟨by simp[fresh,aJ,aF,ck,inObs,Pv.look,e5],ee (by simp[fresh,aJ,aF,ck,inObs,Pv.look,e5]),ef (by simp[fresh,aJ,aF,dV,inObs,Pv.look,e5]),by simp⟩
     ·obtain⟨v,aK⟩:∃v,be[j]? =some v:=⟨_,cl dK⟩;have qX:∀h,((eC be)[j]'h)= .int .i64 v:=fun cx=>by have:=CS be j;rw[aK,cl cx]at this;exact fq this
      have jR:=vp s v aw;cases hj:ds s v with
      |none=>have au:=af.step aK hj;rw[hj]at jR;simp only[hO,ht]at jR;clear af rQ dB hj;simp[dK,qX,e5];(with_reducible repeat' first|refine aj ?_|refine aD jR ?_|refine aE jR ?_|simp[dK,qX,e5]);exact bT.rng () dK au ⟨by simp[fresh,aJ,aF,ck,inObs,Pv.look,e5],ee (by simp[fresh,aJ,aF,ck,inObs,Pv.look,e5]),ef (by simp[fresh,aJ,aF,dV,inObs,Pv.look,e5]),by simp⟩
      |some x=>rw[dB (fun h=>by have:=h v (dZ aK);rw[hj]at this;cases this)];rw[hj]at jR;simp only[h5,kS]at jR;clear af rQ dB hj;simp[dK,qX,e5];(with_reducible repeat' first|refine aj ?_|refine aD jR ?_|refine aE jR ?_|simp[dK,qX,e5]);simp[bu,MT,aY,aZ,aW]
    ·have lf:¬b.v≤b.t.int:=by rw[gy]at ad;simpa using ad
     clear ad;(with_reducible repeat' first|refine aj ?_|refine aD qd ?_|refine aE qd ?_|simp[cG,hi,e5,gy,lf]);refine dR [0,12,13,14,32,33] (fun j (_:Unit)=>[(34,.int .i64 j)]) be.length (CV s be) () ⟨by simp[fresh,aJ,aF,ck,inObs,Pv.look,e5],ee (by simp[fresh,aJ,aF,ck,inObs,Pv.look,e5]),ef (by simp[fresh,aJ,aF,dV,inObs,Pv.look,e5]),by simp⟩ (fun v aK=>by simp at aK) (fun _ af _=>?_) (fun j _ dK af _=>?_)
     ·have aX:=rQ (fun v aK=>af v (by rwa[mn]));simp[e5];(with_reducible repeat' first|refine aj ?_|simp[e5]);exact bT.rng () hi aX ⟨by simp[fresh,aJ,aF,ck,inObs,Pv.look,e5],ee (by simp[fresh,aJ,aF,ck,inObs,Pv.look,e5]),ef (by simp[fresh,aJ,aF,dV,inObs,Pv.look,e5]),by simp⟩
     ·obtain⟨v,aK⟩:∃v,be[j]? =some v:=⟨_,cl dK⟩;have qX:∀h,((eC be)[j]'h)= .int .i64 v:=fun cx=>by have:=CS be j;rw[aK,cl cx]at this;exact fq this
      have jR:=vp s v aw;cases hj:ds s v with
      |none=>have au:=af.step aK hj;rw[hj]at jR;simp only[hO,ht]at jR;clear af rQ dB hj;simp[dK,qX,e5];(with_reducible repeat' first|refine aj ?_|refine aD jR ?_|refine aE jR ?_|simp[dK,qX,e5]);exact bT.rng () dK au ⟨by simp[fresh,aJ,aF,ck,inObs,Pv.look,e5],ee (by simp[fresh,aJ,aF,ck,inObs,Pv.look,e5]),ef (by simp[fresh,aJ,aF,dV,inObs,Pv.look,e5]),by simp⟩
      |some x=>rw[dB (fun h=>by have:=h v (dZ aK);rw[hj]at this;cases this)];rw[hj]at jR;simp only[h5,kS]at jR;clear af rQ dB hj;simp[dK,qX,e5];(with_reducible repeat' first|refine aj ?_|refine aD jR ?_|refine aE jR ?_|simp[dK,qX,e5]);simp[bu,MT,aY,aZ,aW]
theorem YN{s:List ao}(h:eE s):bt al 76 [.slice 5 .no (s.map ao.e)] (.bool true):=by have:=Od (s.map ao.b);rw[yk,re.2 ⟨s,rfl,h.ok,h.sol,h.fits⟩]at this;exact this
def Q6:C:=(aa [bd 2 false] (.seq (aa [I 5 0,cg 6 5,bU 7 0] (fp 8 7 6 (.seq (.block 1 (aa [cp 9 1 5 7,av 10 1 9,I 4 10] (aa [I 11 4,cA 12 76 11,cd 13 12] (aU 13 (aa [bd 2 false] .ret) .skip)))) (.region [aV 14 .add 7 1,I 7 14])))) (aa [bd 2 true] .ret)))
@[simp] def alV:List bB:=[.tmp 2]
def Re:C:=(aa [bd 4 false] (.seq (aa [I 7 0,cg 8 7,bU 9 0] (fp 10 9 8 (.seq (.block 1 (aa [cp 11 5 7 9,aS 12 5 11,cO 6 iK,bz 5 6 12] (aa [aB 13 0 1 6,av 14 1 13,I 15 1,bn 16 .geq 14 15,I 17 16,aq 17 false (gY 18 1 4 6),aq 17 false (aS 19 4 18),b6 17 false 20 1,aq 17 false (b8 21 148 19 20),aq 17 false (cd 22 21),cU 23 17 22] (aU 23 (aa [bd 4 false] .ret) .skip)))) (.region [aV 24 .add 9 1,I 9 24])))) (aa [bd 4 true] .ret)))
@[simp] def al0:List bB:=[.tmp 4]
def zk:C:=(aa [cw 2 0,bd 4 false] (.seq (aa [aB 7 3 1 2,av 8 1 7,cg 9 8,bU 10 0] (fp 11 10 9 (.seq (.block 1 (aa [cp 12 4 8 10,aS 13 4 12,cO 6 dY,bz 4 6 13] (aa [aS 14 4 6,I 15 1,b8 16 148 14 15,cd 17 16] (aU 17 (aa [bd 4 false] .ret) .skip)))) (.region [aV 18 .add 10 1,I 10 18])))) (aa [aB 19 0 1 2,av 20 1 19,aV 21 .neq 20 1,I 22 21,aq 22 false (aB 23 1 1 2),aq 22 false (av 24 1 23),b6 22 false 25 1,aq 22 false (bn 26 .lss 24 25),cU 27 22 26,I 4 27] .ret)))
@[simp] def wR:List bB:=[.tmp 4]
def Q5:C:=(aa [eu 4 5] (aa [eb 10 5 113 [],I 5 10] (.seq (aa [I 11 1,cg 12 11,bU 13 0] (fp 14 13 12 (.seq (.block 1 (aa [cp 15 5 11 13,aS 16 5 15,cO 7 iK,bz 5 7 16] (aa [I 18 0,aB 19 0 1 7,av 20 1 19,b8 21 146 18 20,I 17 21,cn 22 0 17,cn 23 1 17,cO 8 dY,bz 4 8 22,I 9 23] (aa [I 24 9,cd 25 24] (aU 25 (.region [I 26 5,aS 27 5 7,eb 28 5 113 [.t 27],gR 29 5 113 26 28,I 5 29]) .skip))))) (.region [aV 30 .add 13 1,I 13 30])))) (aa [I 31 5,I 4 31] .ret))))
@[simp] def alU:List bB:=[.tmp 4]
def Q9:C:=(aa [eu 2 1] (aa [eb 11 1 46 [],I 3 11] (.seq (.seq (.fg false 3 (.region [I 12 0,cg 13 12,bU 14 0])) (fp 15 14 13 (.seq (.block 1 (aa [cp 16 1 12 14,av 17 1 16,I 5 17] (aa [bd 6 true] (.seq (aa [I 18 0,cg 19 18,bU 20 0] (.block 2 (.loop (aa [bn 21 .lss 20 19] (.seq (aU 21 .skip (.exit 2)) (.seq (.block 3 (aa [cp 22 1 18 20,av 23 1 22,I 8 23] (.region [I 24 6,I 25 24,b6 25 true 26 8,b6 25 true 27 5,aq 25 true (b8 28 155 26 27),aq 25 true (aV 29 .eql 28 0),b6 25 true 30 29,b6 30 false 31 8,b6 30 false 32 5,aq 30 false (b8 33 203 31 32),aq 30 false (cd 34 33),aq 25 true (cU 35 30 34),dD 36 25 35,I 6 36]))) (.region [aV 37 .add 20 1,I 20 37]))))))) (aa [I 38 3,cg 39 38,I 9 39] (.seq (.block 4 (.loop (.seq (aa [I 40 9,aV 41 .gtr 40 0,I 42 41,b6 42 true 43 3,b6 42 true 44 9,aq 42 true (aV 45 .sub 44 1),aq 42 true (cp 46 1 43 45),aq 42 true (av 47 1 46),b6 42 true 48 5,aq 42 true (b8 49 155 47 48),aq 42 true (aV 50 .geq 49 0),dD 51 42 50] (aU 51 .skip (.exit 4))) (.block 5 (.region [I 52 9,aV 53 .sub 52 1,I 9 53]))))) (aa [I 54 6,I 55 54,b6 55 true 56 9,b6 55 true 57 3,aq 55 true (cg 58 57),aq 55 true (bn 59 .eql 56 58),b6 55 true 60 59,b6 60 false 61 3,b6 60 false 62 9,aq 60 false (cp 63 1 61 62),aq 60 false (av 64 1 63),b6 60 false 65 5,aq 60 false (b8 66 155 64 65),aq 60 false (aV 67 .neq 66 0),aq 55 true (cU 68 60 67),dD 69 55 68] (aU 69 (aa [eb 70 1 46 [],I 71 3,I 72 9,b9 73 (.lsl 1 (.t 71) none (some (.t 72))),gR 74 1 46 70 73,I 10 74] (aa [I 75 10,I 76 5,eb 77 1 46 [.t 76],gR 78 1 46 75 77,I 10 78] (.region [I 79 10,I 80 3,I 81 9,b9 82 (.lsl 1 (.t 80) (some (.t 81)) none),gR 83 1 46 79 82,I 3 83]))) .skip)))))))) (.fg false 3 (.region [aV 84 .add 14 1,I 14 84]))))) (aa [I 85 3,I 2 85] .ret))))
@[simp] def alX:List bB:=[.tmp 2]
def Q7:C:=(aa [bU 4 0] (.seq (aa [bU 5 0] (.block 0 (.loop (.seq (aa [I 7 5,I 8 0,cg 9 8,bn 10 .lss 7 9,I 11 10,b6 11 true 12 5,b6 11 true 13 1,aq 11 true (cg 14 13),aq 11 true (bn 15 .lss 12 14),dD 16 11 15] (aU 16 .skip (.exit 0))) (.seq (.block 1 (.seq (.seq (.drawn true 67 [I 19 0,I 20 5,cp 21 5 19 20,aB 22 0 1 21,av 23 1 22,I 24 1,I 25 5,cp 26 5 24 25,aB 27 0 1 26,av 28 1 27,bn 29 .neq 23 28]) (aU 29 (.seq (.drawn true 67 [I 30 0,I 31 5,cp 32 5 30 31,aB 33 0 1 32,av 34 1 33,I 35 1,I 36 5,cp 37 5 35 36,aB 38 0 1 37,av 39 1 38,bn 40 .lss 34 39,cA 41 188 40,I 4 41]) .ret) .skip)) (.seq (.drawn true 67 [I 42 0,I 43 5,cp 44 5 42 43,gY 45 1 4 44,aS 46 4 45,I 47 1,I 48 5,cp 49 5 47 48,gY 50 1 4 49,aS 51 4 50,b8 52 125 46 51,I 6 52]) (aa [I 53 6,aV 54 .neq 53 0] (aU 54 (aa [I 55 6,I 4 55] .ret) .skip))))) (.region [I 17 5,aV 18 .add 17 1,I 5 18])))))) (.seq (aa [I 56 0,cg 57 56,I 58 1,cg 59 58,bn 60 .neq 57 59] (aU 60 (aa [I 61 0,cg 62 61,I 63 1,cg 64 63,bn 65 .lss 62 64,cA 66 188 65,I 4 66] .ret) .skip)) (aa [bU 4 0] .ret))))
@[simp] def DD:List bB:=[.tmp 4]
def QN:C:=(aa [bd 4 false] (.seq (aa [I 11 0,cA 12 76 11,cd 13 12,I 14 13,b6 14 false 15 1,aq 14 false (cA 16 76 15),aq 14 false (cd 17 16),cU 18 14 17] (aU 18 (aa [bd 4 false] .ret) .skip)) (.seq (aa [I 19 0,cg 20 19,bU 21 0] (fp 22 21 20 (.seq (.block 1 (aa [cp 23 5 19 21,aS 24 5 23,cO 6 iK,bz 5 6 24] (aa [I 26 1,aB 27 0 1 6,av 28 1 27,cA 29 114 28,b8 30 60 26 29,I 25 30,cn 31 0 25,cn 32 1 25,cO 7 dY,bz 4 7 31,I 8 32] (aa [I 34 1,gY 35 1 4 6,aS 36 4 35,b8 37 60 34 36,I 33 37,cn 38 0 33,cn 39 1 33,cO 9 dY,bz 4 9 38,I 10 39] (aa [I 40 8,cd 41 40,I 42 41,b6 42 false 43 10,aq 42 false (cd 44 43),cU 45 42 44,I 46 45,aq 46 false (aS 47 4 7),aq 46 false (aS 48 4 9),aq 46 false (b8 49 129 47 48),aq 46 false (cd 50 49),cU 51 46 50] (aU 51 (aa [bd 4 false] .ret) .skip)))))) (.region [aV 52 .add 21 1,I 21 52])))) (aa [bd 4 true] .ret))))
@[simp] def MR:List bB:=[.tmp 4]
def w2:List (Nat×dI):=[
 (3,⟨1,8,.int .i64,.int .i64 0⟩),
 (27,⟨1,24,.slice 30,.slice 4 .nil []⟩),
 (30,⟨4,56,.struct [(0,3),(1,3),(2,9),(3,27)],.agg [.int .i64 0,.int .i64 0,.str [],.slice 4 .nil []]⟩),
 (46,⟨1,24,.slice 113,.slice 5 .nil []⟩),
 (47,⟨1,24,.slice 46,.slice 1 .nil []⟩),
 (113,⟨5,64,.struct [(0,3),(1,30)],.agg [.int .i64 0,.int .i64 0,.int .i64 0,.str [],.slice 4 .nil []]⟩)]
theorem sr:fU al w2=true:=by kernel_rfl
theorem akq:bY w2 Q6 alV 1 Tryz.f77=true:=by kernel_rfl
theorem adV:al.funcs[(77:Nat)]? =some Tryz.f77:=Tryz.func77
theorem akx:bY w2 Re al0 2 Tryz.f80=true:=by kernel_rfl
theorem ad2:al.funcs[(80:Nat)]? =some Tryz.f80:=Tryz.func80
theorem Dr:bY w2 zk wR 2 Tryz.f148=true:=by kernel_rfl
theorem B1:al.funcs[(148:Nat)]? =some Tryz.f148:=Tryz.func148
theorem akp:bY w2 Q5 alU 2 Tryz.f153=true:=by kernel_rfl
theorem adU:al.funcs[(153:Nat)]? =some Tryz.f153:=Tryz.func153
theorem akt:bY w2 Q9 alX 1 Tryz.f154=true:=by kernel_rfl
theorem adY:al.funcs[(154:Nat)]? =some Tryz.f154:=Tryz.func154
theorem akr:bY w2 Q7 DD 2 Tryz.f155=true:=by kernel_rfl
theorem adW:al.funcs[(155:Nat)]? =some Tryz.f155:=Tryz.func155
theorem aj7:bY w2 QN MR 2 Tryz.f203=true:=by kernel_rfl
theorem adC:al.funcs[(203:Nat)]? =some Tryz.f203:=Tryz.func203
@[simp] def asr:List bB:=[.tmp 4]
@[simp] def asw:List bB:=[.tmp 2]
@[simp] def asD:List bB:=[.tmp 4]
@[simp] def asz:List bB:=[.tmp 4]
@[simp] def asx:List bB:=[.tmp 2]
def BM:C:=(aa [cw 2 0,cw 3 1,bU 4 0] (.seq (aa [aB 7 0 1 2,av 8 1 7,aB 9 0 1 3,av 10 1 9,bn 11 .neq 8 10] (aU 11 (aa [aB 12 0 1 2,av 13 1 12,aB 14 0 1 3,av 15 1 14,bn 16 .lss 13 15,cA 17 188 16,I 4 17] .ret) .skip)) (.seq (aa [aB 18 1 1 2,av 19 1 18,aB 20 1 1 3,av 21 1 20,bn 22 .neq 19 21] (aU 22 (aa [aB 23 1 1 2,av 24 1 23,aB 25 1 1 3,av 26 1 25,bn 27 .lss 24 26,cA 28 188 27,I 4 28] .ret) .skip)) (.seq (aa [aB 29 2 1 2,av 30 1 29,aB 31 2 1 3,av 32 1 31,bn 33 .neq 30 32] (aU 33 (aa [aB 34 2 1 2,av 35 1 34,aB 36 2 1 3,av 37 1 36,bn 38 .lss 35 37,cA 39 188 38,I 4 39] .ret) .skip)) (.seq (aa [bU 5 0] (.block 0 (.loop (.seq (aa [I 40 5,aB 41 3 1 2,av 42 1 41,cg 43 42,bn 44 .lss 40 43,I 45 44,b6 45 true 46 5,aq 45 true (aB 47 3 1 3),aq 45 true (av 48 1 47),aq 45 true (cg 49 48),aq 45 true (bn 50 .lss 46 49),dD 51 45 50] (aU 51 .skip (.exit 0))) (.seq (.block 1 (.seq (.drawn true 68 [aB 54 3 1 2,av 55 1 54,I 56 5,cp 57 4 55 56,aS 58 4 57,aB 59 3 1 3,av 60 1 59,I 61 5,cp 62 4 60 61,aS 63 4 62,b8 64 125 58 63,I 6 64]) (aa [I 65 6,aV 66 .neq 65 0] (aU 66 (aa [I 67 6,I 4 67] .ret) .skip)))) (.region [I 52 5,aV 53 .add 52 1,I 5 53])))))) (aa [bU 4 0] .ret))))))
@[simp] def A0:List bB:=[.tmp 4]
def QV:C:=(aa [cw 2 0,cw 3 1,bd 4 false] (aa [aS 5 4 2,aS 6 4 3,b8 7 125 5 6,aV 8 .eql 7 0,I 4 8] .ret))
@[simp] def W3:List bB:=[.tmp 4]
@[simp] def ass:List bB:=[.tmp 2]
@[simp] def asy:List bB:=[.tmp 5]
@[simp] def asA:List bB:=[.tmp 2]
def QW:C:=(aa [bU 2 0] (.seq (aa [I 3 0] (aU 3 (aa [bU 2 (-1)] .ret) .skip)) (aa [bU 2 1] .ret)))
@[simp] def W4:List bB:=[.tmp 2]
@[simp] def asB:List bB:=[]
def H2:List (Nat×dI):=[
 (3,⟨1,8,.int .i64,.int .i64 0⟩),
 (4,⟨1,1,.bool,.bool false⟩),
 (9,⟨1,16,.str,.str []⟩),
 (27,⟨1,24,.slice 30,.slice 4 .nil []⟩),
 (30,⟨4,56,.struct [(0,3),(1,3),(2,9),(3,27)],.agg [.int .i64 0,.int .i64 0,.str [],.slice 4 .nil []]⟩),
 (46,⟨1,24,.slice 113,.slice 5 .nil []⟩),
 (47,⟨1,24,.slice 46,.slice 1 .nil []⟩),
 (76,⟨1,24,.slice 3,.slice 1 .nil []⟩),
 (113,⟨5,64,.struct [(0,3),(1,30)],.agg [.int .i64 0,.int .i64 0,.int .i64 0,.str [],.slice 4 .nil []]⟩)]
theorem Bf:fU al H2=true:=by kernel_rfl
theorem G0:bY H2 BM A0 2 Tryz.f125=true:=by kernel_rfl
theorem Fo:al.funcs[(125:Nat)]? =some Tryz.f125:=Tryz.func125
theorem akf:bY H2 QV W3 2 Tryz.f129=true:=by kernel_rfl
theorem adK:al.funcs[(129:Nat)]? =some Tryz.f129:=Tryz.func129
theorem akg:bY H2 QW W4 1 Tryz.f188=true:=by kernel_rfl
theorem adL:al.funcs[(188:Nat)]? =some Tryz.f188:=Tryz.func188
theorem Zs{t u:T}(J:t.kind=u.kind)(U:t.int=u.int)(ar:t.name=u.name)(a8:t.args=u.args):t=u:=by cases t<;>cases u<;>simp_all
theorem rh(b:Bool):bt al 188 [.bool b] (.int .i64 (if b then-1 else 1)):=by
 refine bc Bf adL akg fun aN=>?_;unfold QW;simp;((with_reducible repeat' first|refine aj ?_|simp|((first|apply bK|apply bM|apply bL)<;>intro h<;>try simp at h))<;>(try exact cc));all_goals simp[bu,W4,aY,aZ,aW]
 all_goals simp_all
theorem akA{a b:T}(br:a.args=[]∨b.args=[])(J:a.kind=b.kind)(U:a.int=b.int):eD a b=kL a.name b.name:=by cases a<;>cases b<;>simp_all[eD]
def CU(a b:T)(i:Nat)(_:Unit):Prop:=a.args.take i=b.args.take i
set_option maxRecDepth 4000 in
theorem YA(a:T)(bZ:∀x∈a.args,∀b:T,bt al 125 [x.e,b.e] (.int .i64 (eD x b)))(b:T):bt al 125 [a.e,b.e] (.int .i64 (eD a b)):=by
 have hle:a.args.length≤2:=by cases a<;>simp
 by_cases ad:a.kind=b.kind
 ·by_cases hi:a.int=b.int
  ·by_cases au:a.name=b.name
   ·have hlen:a.args.length=b.args.length:=by cases a<;>cases b<;>simp at ad⊢
    refine bc Bf Fo G0 fun aN=>?_;unfold BM;simp[ad,hi,au];refine dR [2,3] (fun i (_:Unit)=>[(5,.int .i64 i)]) a.args.length (CU a b) () bW (by simp[CU]) (fun _ af _=>?_) (fun i _ bE af _=>?_)
    ·simp;(with_reducible repeat' first|refine aj ?_|simp);simp[bu,A0,aY,aZ,aW];unfold CU at af;rw[hD (by omega),hD (by omega)]at af;exact((q6 a b).2 (Zs ad hi au af)).symm
    ·have qS:i<b.args.length:=by omega
     obtain⟨x,ab⟩:∃x,x=a.args[i]:=⟨_,rfl⟩;obtain⟨y,aG⟩:∃y,y=b.args[i]:=⟨_,rfl⟩;have pI:=bZ x (by rw[ab];exact List.getElem_mem bE) y;simp[bE,qS,←ab,←aG];(with_reducible repeat' first|((first|apply bK|apply bM|apply bL)<;>intro h<;>try simp at h)|refine aj ?_|refine aD pI ?_|refine aE pI ?_|simp)
     ·simp[bu,A0,aY,aZ,aW];unfold CU at af;cases a with
      |pair bG a2=>
       cases b with
       |pair b1 b2=>
        simp at bE af ab aG;rcases(by omega:i=0∨i=1)with rfl|rfl
        ·simp at ab aG;subst ab aG;simp[eD,h]
        ·simp at af ab aG;subst ab aG af;simp[eD,(q6 bG bG).2 rfl]
       |_=>simp at ad
      |_=>simp at bE
     ·refine bT.rng () bE ?_ bW;unfold CU at af⊢;rw[List.take_succ,List.take_succ,af,cl bE,cl qS,←ab,←aG,(q6 x y).1 h]
   ·refine bc Bf Fo G0 fun aN=>?_;unfold BM;simp[ad,hi,au];((with_reducible repeat' first|refine aj ?_|refine aD (rh _) ?_|refine aE (rh _) ?_|simp|((first|apply bK|apply bM|apply bL)<;>intro h<;>try simp at h))<;>(try exact cc));simp[bu,A0,aY,aZ,aW];have:a.args=[]∨b.args=[]:=by cases a<;>cases b<;>simp at ad au⊢
    rw[akA this ad hi,kL,if_neg au]
  ·refine bc Bf Fo G0 fun aN=>?_;unfold BM;simp[ad,hi];((with_reducible repeat' first|refine aj ?_|refine aD (rh _) ?_|refine aE (rh _) ?_|simp|((first|apply bK|apply bM|apply bL)<;>intro h<;>try simp at h))<;>(try exact cc));simp[bu,A0,aY,aZ,aW];cases a<;>cases b<;>simp at ad hi
   ·rw[Wc];simp[eH];split<;>(try split)<;>omega
   ·rw[Wb];simp[eH];split<;>(try split)<;>omega
 ·refine bc Bf Fo G0 fun aN=>?_;unfold BM;simp[ad];((with_reducible repeat' first|refine aj ?_|refine aD (rh _) ?_|refine aE (rh _) ?_|simp|((first|apply bK|apply bM|apply bL)<;>intro h<;>try simp at h))<;>(try exact cc));simp[bu,A0,aY,aZ,aW];rw[sd ad];simp[eH];split<;>(try split)<;>omega
theorem H8(a:T):∀b:T,bt al 125 [a.e,b.e] (.int .i64 (eD a b)):=by
 induction a with
 |pair x y pI r3=>
  refine YA _ fun z bq=>?_;simp at bq;rcases bq with rfl|rfl
  ·exact pI
  ·exact r3
 |_=>exact YA _ fun x ab=>by simp at ab
theorem YD(a b:T):bt al 129 [a.e,b.e] (.bool (decide (a=b))):=by refine bc Bf adK akf fun aN=>?_;unfold QV;simp;(with_reducible repeat' first|refine aj ?_|refine aD (H8 _ _) ?_|refine aE (H8 _ _) ?_|simp);simp[bu,W3,aY,aZ,aW];have:=q6 a b;by_cases h:eD a b=0<;>simp_all
theorem anT{s t:List ao}(ag:eE s)(aL:eE t):bt al 153 [.slice 5 .no (s.map ao.e),.slice 5 .no (t.map ao.e)] (.slice 5 .no ((eM s t).map ao.e)):=by
 have agD:=aL.len;generalize bg:eM s t=R;refine bc sr adU akp fun aN=>?_;unfold Q5;simp;refine hH (α:=List ao) (fun i out=>⟨[(0,.slice 5 .no (s.map ao.e)),(11,.slice 5 .no (t.map ao.e)),(12,.int .i64 t.length),(5,.slice 5 (.own (.loc 0)) (out.map ao.e)),(13,.int .i64 i)],[],[(.loc 0,⟨out.length,113,5,none⟩)],1,[]⟩) t.length (qZ s t) [] bW (by simp[qZ,eM]) (fun out af _=>?_) (fun i out hi af _=>?_)
 ·rw[qZ,hD (eY _),bg]at af;rw[←af];exact bO
 ·obtain⟨b,aK,gj⟩:=dP hi;have zV:out.length≤1000000:=by
   have:out.length≤(t.take i).length:=by rw[af];exact List.length_filter_le _ _
   simp at this;omega
  have jR:=vp s b.v ag.len;cases ae:ds s b.v with
  |none=>
   have au:qZ s t (i+1) (out++[b]):=by rw[qZ,mQ aK,eM,List.filter_append,af];simp[eM,ae]
   rw[ae]at jR;simp only[hO,ht]at jR;clear af aK ae;simp[hi,gj];(with_reducible repeat' first|refine aj ?_|refine aD jR ?_|refine aE jR ?_|simp[gj,hi]);all_goals first|(refine⟨by unfold lim;omega,?_⟩)|skip
   (with_reducible repeat' first|refine aj ?_|simp);refine bT.rng (out++[b]) hi au ?_;simp;exact⟨by simp[fresh,aJ,aF,ck,inObs,Pv.look,jm],ee (by simp[fresh,aJ,aF,ck,inObs,Pv.look,jm]),ef (by simp[fresh,aJ,aF,dV,inObs,Pv.look,jm]),by simp⟩
  |some x=>
   have au:qZ s t (i+1) out:=by rw[qZ,mQ aK,eM,List.filter_append,af];simp[eM,ae]
   rw[ae]at jR;simp only[h5,kS]at jR;clear af aK ae;simp[hi,gj];(with_reducible repeat' first|refine aj ?_|refine aD jR ?_|refine aE jR ?_|simp[gj,hi]);refine bT.rng out hi au ?_;exact bW
theorem anr{s t:List ao}(ag:eE s)(aL:eE t):bt al 203 [.slice 5 .no (s.map ao.e),.slice 5 .no (t.map ao.e)] (.bool (nA s t)):=by
 have p8:=ag.len;generalize bg:nA s t=R;have c2:=YN ag;have dO:=YN aL;refine bc sr adC aj7 fun aN=>?_;unfold QN;simp;(with_reducible repeat' first|refine aj ?_|refine aD c2 ?_|refine aE c2 ?_|refine aD dO ?_|refine aE dO ?_|simp);refine dR [1,19,20] (fun i (_:Unit)=>[(21,.int .i64 i)]) s.length (k0 (r8 t) s) () bW (fun k b ad=>by omega) (fun _ af _=>?_) (fun i _ hi af _=>?_)
 ·have:R=true:=by rw[←bg,nA,hs];intro b ae;obtain⟨k,ad,e⟩:=nN ae;exact af k b ad (by rw[cl ad,e])
  rw[this];exact bO
 ·obtain⟨b,aK,gj⟩:=dP hi;have dB:r8 t b=false→R=false:=fun h=>by rw[←bg,Bool.eq_false_iff];intro cx;rw[nA,hs]at cx;rw[cx b (dZ aK)]at h;cases h
  have aP:=D8 t aL.len (.var b.v);have a6:=D8 t aL.len b.t;have x6:=DR aL b.v;have Ge:((T.var b.v).ap (b7 t)).size≤5000:=x6;rw[gU Ge]at aP;rw[show(T.var b.v).ap (b7 t)=b7 t b.v from rfl]at aP;by_cases bq:(b.t.ap (b7 t)).size≤5000
  ·rw[gU bq]at a6;by_cases he:b7 t b.v=b.t.ap (b7 t)
   ·have au:=af.step aK (by simp[r8,he]);have eR:=YD (b7 t b.v) (b.t.ap (b7 t));rw[gU he]at eR;clear af aK;simp[hi,gj];(with_reducible repeat' first|refine aj ?_|refine aD (js _) ?_|refine aE (js _) ?_|refine aD aP ?_|refine aE aP ?_|refine aD a6 ?_|refine aE a6 ?_|refine aD eR ?_|refine aE eR ?_|simp[gj,hi]);exact bT.rng () hi au bW
   ·rw[dB (by simp[r8,he])];have eR:=YD (b7 t b.v) (b.t.ap (b7 t));rw[h6 he]at eR;clear af aK;simp[hi,gj];(with_reducible repeat' first|refine aj ?_|refine aD (js _) ?_|refine aE (js _) ?_|refine aD aP ?_|refine aE aP ?_|refine aD a6 ?_|refine aE a6 ?_|refine aD eR ?_|refine aE eR ?_|simp[gj,hi]);simp[bu,MR,aY,aZ,aW]
  ·rw[h6 bq]at a6;rw[dB (by simp only[r8,hR];intro e;rw[←e]at bq;exact bq x6)];clear af aK;simp[hi,gj];(with_reducible repeat' first|refine aj ?_|refine aD (js _) ?_|refine aE (js _) ?_|refine aD aP ?_|refine aE aP ?_|refine aD a6 ?_|refine aE a6 ?_|simp[gj,hi]);simp[bu,MR,aY,aZ,aW]
theorem N6(d e:List ao):bt al 155 [.slice 5 .no (d.map ao.e),.slice 5 .no (e.map ao.e)] (.int .i64 (eG d e)):=by
 generalize bg:eG d e=R;refine bc sr adW akr fun aN=>?_;unfold Q7;have aR:d.length≤68719476736:=by simp[ey,ea,en,lim]at aN;omega
 have he:e.length≤68719476736:=by simp[ey,ea,en,lim]at aN;omega
 simp;refine vH [0,1] (fun(i:Nat)=>[(5,.int .i64 i)]) (fun i=>d.length-i) (Lj d e) 0 bW ⟨by omega,by omega,by simp⟩ (fun i af _=>?_);obtain⟨J,U,ar⟩:=af;rw[bg]at ar;by_cases hi:i<d.length
 ·by_cases hL:i<e.length
  ·obtain⟨x,ab⟩:∃x,d[i]? =some x:=⟨_,cl hi⟩;obtain⟨y,aG⟩:∃y,e[i]? =some y:=⟨_,cl hL⟩;have cD:∀h,(d[i]'h)=x:=fun h=>by rw[cl hi]at ab;exact fq ab
   have eW:∀h,(e[i]'h)=y:=fun h=>by rw[cl hL]at aG;exact fq aG
   have zI:d.drop i=x::d.drop (i+1):=by rw[lv hi,cD]
   have zJ:e.drop i=y::e.drop (i+1):=by rw[lv hL,eW]
   rw[zI,zJ]at ar;rw[V9]at ar;by_cases a7:x.v=y.v
   ·have q0:eH x.v y.v=0:=(ko.zero _ _).2 a7;have tA:(x.v !=y.v)=false:=by simp[a7]
    rw[if_pos q0]at ar;by_cases bF:eD x.t y.t=0
    ·rw[if_pos bF]at ar;have au:Lj d e (i+1):=⟨by omega,by omega,by rw[bg];exact ar⟩;have kF:=H8 x.t y.t;rw[bF]at kF;clear zI zJ ab aG ar q0;simp[hi,hL,cD,eW];((with_reducible repeat' first|refine aj ?_|refine aD kF ?_|refine aE kF ?_|simp[cD,eW,hi,hL,a7,tA]|((first|apply bK|apply bM|apply bL)<;>intro h<;>try simp at h))<;>(try exact cc));all_goals exact bT.whl (i+1) (by omega) au bW
    ·rw[if_neg bF]at ar;have kF:=H8 x.t y.t;have yx:(eD x.t y.t !=0)=true:=by simp[bF]
     clear zI zJ ab aG q0;simp[hi,hL,cD,eW];(with_reducible repeat' first|refine aj ?_|refine aD kF ?_|refine aE kF ?_|simp[cD,eW,hi,hL,a7,tA,bF,yx]);all_goals simp[bu,DD,aY,aZ,aW]
     all_goals exact ar
   ·have q0:¬eH x.v y.v=0:=fun h=>a7 ((ko.zero _ _).1 h);have tA:(x.v !=y.v)=true:=by simp[a7]
    rw[if_neg q0]at ar;have dk:R=if decide (x.v<y.v)=true then-1 else 1:=by rw[←ar];unfold eH;simp only[fK];(repeat' split)<;>omega
    clear zI zJ ab aG ar q0;rw[dk];simp[hi,hL,cD,eW];(with_reducible repeat' first|refine aj ?_|refine aD (rh _) ?_|refine aE (rh _) ?_|simp[cD,eW,hi,hL,a7,tA]);all_goals simp[bu,DD,aY,aZ,aW]
  ·have hle:e.length<d.length:=by omega
   have:(1:Int)=R:=by rw[←ar,eG,C4 _ _ _ (.inr (List.drop_eq_nil_of_le (by omega)))];simp only[sC];unfold eH;(repeat' split)<;>omega
   have cH:¬(d.length:Int)=e.length:=by omega
   have KK:((d.length:Int) !=e.length)=true:=by simp;omega
   have jO:¬(d.length:Int)<e.length:=by omega
   have CB:¬d.length<e.length:=by omega
   have agb:¬d.length=e.length:=by omega
   clear ar;rw[←this];simp[hi,hL];(with_reducible repeat' first|refine aj ?_|refine aD (rh _) ?_|refine aE (rh _) ?_|simp[hi,hL,cH,KK,jO,CB,agb]);all_goals simp[bu,DD,aY,aZ,aW]
   all_goals(try simp[CB])
 ·have e2:i=d.length:=by omega
  by_cases aw:d.length=e.length
  ·have:(0:Int)=R:=by rw[←ar,eG,C4 _ _ _ (.inl (List.drop_eq_nil_of_le (by omega)))];simp only[sC];unfold eH;(repeat' split)<;>omega
   clear ar;rw[←this];exact bO
  ·have:(-1:Int)=R:=by rw[←ar,eG,C4 _ _ _ (.inl (List.drop_eq_nil_of_le (by omega)))];simp only[sC];unfold eH;(repeat' split)<;>omega
   have cH:¬(d.length:Int)=e.length:=by omega
   have KK:((d.length:Int) !=e.length)=true:=by simp;omega
   have jO:(d.length:Int)<e.length:=by omega
   have CB:d.length<e.length:=by omega
   clear ar;rw[←this];simp[hi];(with_reducible repeat' first|refine aj ?_|refine aD (rh _) ?_|refine aE (rh _) ?_|simp[hi,cH,KK,jO,CB,aw]);all_goals simp[bu,DD,aY,aZ,aW]
   all_goals(try simp[CB])
def ahi(n:Int)(a b:T)(i:Nat)(_:Unit):Prop:=(1≤i→dw n a=true)∧(2≤i→dw n b=true)
theorem vq(n:Int):∀t:T,bt al 148 [t.e,.int .i64 n] (.bool (dw n t))
 | .pair a b=>by
  have dW:=vq n a;have dX:=vq n b;refine bc sr B1 Dr fun aN=>?_;unfold zk;simp;refine dR [1,2,8,9] (fun i (_:Unit)=>[(10,.int .i64 i)]) 2 (ahi n a b) () bW ⟨fun h=>by omega,fun h=>by omega⟩ (fun _ af _=>?_) (fun i _ hi af _=>?_)
  ·simp;(with_reducible repeat' first|refine aj ?_|simp);simp[bu,wR,aY,aZ,aW];simp[dw,af.1,af.2]
  ·rcases(by omega:i=0∨i=1)with rfl|rfl
   ·cases br:dw n a
    ·rw[br]at dW;simp;(with_reducible repeat' first|refine aj ?_|refine aD dW ?_|refine aE dW ?_|simp);simp[bu,wR,aY,aZ,aW];simp[dw,br]
    ·rw[br]at dW;simp;((with_reducible repeat' first|refine aj ?_|refine aD dW ?_|refine aE dW ?_|simp|((first|apply bK|apply bM|apply bL)<;>intro h<;>try simp at h))<;>(try exact cc));exact bT.rng () hi ⟨fun _=>br,fun h=>by omega⟩ bW
   ·cases ae:dw n b
    ·rw[ae]at dX;simp;((with_reducible repeat' first|refine aj ?_|refine aD dX ?_|refine aE dX ?_|simp|((first|apply bK|apply bM|apply bL)<;>intro h<;>try simp at h))<;>(try exact cc));simp[bu,wR,aY,aZ,aW];simp[dw,ae]
    ·rw[ae]at dX;simp;((with_reducible repeat' first|refine aj ?_|refine aD dX ?_|refine aE dX ?_|simp|((first|apply bK|apply bM|apply bL)<;>intro h<;>try simp at h))<;>(try exact cc));exact bT.rng () hi ⟨fun _=>af.1 (by omega),fun _=>ae⟩ bW
 | .sym v=>by
  refine bc sr B1 Dr fun aN=>?_;unfold zk;simp;refine dR [1,2,8,9] (fun i (_:Unit)=>[(10,.int .i64 i)]) 0 (fun i _=>True) () bW trivial (fun _ af _=>?_) (fun i _ hi af _=>by omega);simp;((with_reducible repeat' first|refine aj ?_|simp|((first|apply bK|apply bM|apply bL)<;>intro h<;>try simp at h))<;>(try exact cc));all_goals simp[bu,wR,aY,aZ,aW]
  all_goals simp[dw]
 | .num v=>by
  refine bc sr B1 Dr fun aN=>?_;unfold zk;simp;refine dR [1,2,8,9] (fun i (_:Unit)=>[(10,.int .i64 i)]) 0 (fun i _=>True) () bW trivial (fun _ af _=>?_) (fun i _ hi af _=>by omega);simp;(with_reducible repeat' first|refine aj ?_|simp);all_goals simp[bu,wR,aY,aZ,aW]
  all_goals simp[dw]
 | .var v=>by
  refine bc sr B1 Dr fun aN=>?_;unfold zk;simp;refine dR [1,2,8,9] (fun i (_:Unit)=>[(10,.int .i64 i)]) 0 (fun i _=>True) () bW trivial (fun _ af _=>?_) (fun i _ hi af _=>by omega);simp;(with_reducible repeat' first|refine aj ?_|simp);all_goals simp[bu,wR,aY,aZ,aW]
  all_goals simp[dw]
 | .nil=>by
  refine bc sr B1 Dr fun aN=>?_;unfold zk;simp;refine dR [1,2,8,9] (fun i (_:Unit)=>[(10,.int .i64 i)]) 0 (fun i _=>True) () bW trivial (fun _ af _=>?_) (fun i _ hi af _=>by omega);simp;(with_reducible repeat' first|refine aj ?_|simp);all_goals simp[bu,wR,aY,aZ,aW]
  all_goals simp[dw]
theorem YJ(s:List ao)(n:Int):bt al 80 [.slice 5 .no (s.map ao.e),.int .i64 n] (.bool (s.all (kV n))):=by
 generalize bg:s.all (kV n)=R;refine bc sr ad2 akx fun aN=>?_;unfold Re;have eV:s.length≤68719476736:=by simp[ey,ea,en,lim]at aN;omega
 simp;refine dR [1,7,8] (fun i (_:Unit)=>[(9,.int .i64 i)]) s.length (k0 (kV n) s) () bW (fun k b ad=>by omega) (fun _ af _=>?_) (fun i _ hi af _=>?_)
 ·have:R=true:=by rw[←bg,hs];intro b ae;obtain⟨k,ad,e⟩:=nN ae;exact af k b ad (by rw[cl ad,e])
  rw[this];exact bO
 ·obtain⟨b,aK,gj⟩:=dP hi;have dB:kV n b=false→R=false:=fun h=>by rw[←bg,Bool.eq_false_iff];intro cx;rw[hs]at cx;rw[cx b (dZ aK)]at h;cases h
  have fO:=vq n b.t;by_cases J:b.v<n
  ·have nU:¬n≤b.v:=by omega
   cases U:dw n b.t
   ·rw[dB (by simp[kV,U])];rw[U]at fO;clear af aK;exact bO
   ·have au:=af.step aK (by simp[kV,J,U]);rw[U]at fO;clear af aK;exact gI
  ·have nU:n≤b.v:=by omega
   rw[dB (by simp[kV,J])];clear af aK;exact bO
theorem anV(l:List (List c3)):bt al 77 [.slice 1 .no (l.map gh)] (.bool (l.all gL)):=by
 generalize bg:l.all gL=R;refine bc sr adV akq fun aN=>?_;unfold Q6;have eV:l.length≤68719476736:=by simp[ey,ea,en,lim]at aN;omega
 simp;refine dR [5,6] (fun i (_:Unit)=>[(7,.int .i64 i)]) l.length (k0 gL l) () bW (fun k b ad=>by omega) (fun _ af _=>?_) (fun i _ hi af _=>?_)
 ·have:R=true:=by rw[←bg,hs];intro b ae;obtain⟨k,ad,e⟩:=nN ae;exact af k b ad (by rw[cl ad,e])
  rw[this];exact bO
 ·obtain⟨b,aK,gj⟩:=dP hi;have c2:bt al 76 [gh b] (.bool (gL b)):=Od b;cases ae:gL b
  ·have:R=false:=by rw[←bg,Bool.eq_false_iff];intro cx;rw[hs]at cx;rw[cx b (dZ aK)]at ae;cases ae
   rw[this];rw[ae]at c2;clear af aK;exact bO
  ·have au:=af.step aK ae;rw[ae]at c2;clear af aK;exact gI
theorem RB(a:List (List ao))(k:Nat)(m:List ao):lY k (a.map cC)++cC m::nM k (a.map cC)=(a.take k++m::a.drop k).map cC:=by simp
theorem qJ(a:List (List ao))(k:Nat)(m:List ao):cW (lY k (a.map cC)++cC m::nM k (a.map cC))=lY k (a.map cC)++cC m::nM k (a.map cC):=by rw[RB,NI]
theorem qI(S:aH→Prop)(a:List (List ao))(k:Nat)(m:List ao):aJ S (lY k (a.map cC)++cC m::nM k (a.map cC))=True:=by rw[RB,US]
theorem Fb(a:List (List ao))(m:List ao):a.map cC++[cC m]=(a++[m]).map cC:=by simp
theorem pq(a:List (List ao))(m:List ao):cW (a.map cC++[cC m])=a.map cC++[cC m]:=by rw[Fb,NI]
theorem qH(S:aH→Prop)(a:List (List ao))(m:List ao):aJ S (a.map cC++[cC m])=True:=by rw[Fb,US]
theorem YH(L:List (List ao))(jL:∀d∈L,eE d):bt al 154 [.slice 1 .no (L.map cC)] (.slice 1 .no ((k1 L).map cC)):=by
 generalize bg:k1 L=R;rw[aii]at bg;refine bc sr adY akt fun aN=>?_;unfold Q9;have eV:L.length≤68719476736:=by simp[ey,ea,en,lim]at aN;omega
 simp;refine dR [0,12,13] (fun i (a:List (List ao))=>[(3,.slice 1 .no (a.map cC)),(14,.int .i64 i)]) L.length (yb L) [] bW (by simp[yb]) (fun a af _=>?_) (fun i a hi af _=>?_)
 ·rw[yb,mn,bg]at af;subst af;exact bO
 ·obtain⟨e,he,Ku⟩:=dP hi;have rK:hS eG a:=by rw[af];exact LZ _ (by simp[hS])
  have rL:a.length≤i:=by have:=Vy (L:=L) (L.take i) [];rw[af];simp at this⊢;omega
  have fx:=af.step he;have lM:=jL e (dZ he);have a6:∀d,bt al 155 [cC d,cC e] (.int .i64 (eG d e)):=fun d=>N6 d e;clear af he;simp[hi,Ku];(with_reducible repeat' first|refine aj ?_|simp[hi,Ku]);refine dR [0,3,5,12,13,14,18,19] (fun j (b:Bool)=>[(6,.bool b),(20,.int .i64 j)]) L.length (qa L e) true bW (by simp[qa]) (fun keep af _=>?_) (fun j keep dK af _=>?_)
  ·rw[qa,mn]at af;have Tv:keep=jb L e:=af;rw[qk,←Tv]at fx;clear af Tv;simp;(with_reducible repeat' first|refine aj ?_|simp);refine vH [0,3,5,6,12,13,14] (fun(k:Nat)=>[(9,.int .i64 k)]) (fun k=>k) (Gm a e) a.length bW ⟨by omega,fun c h=>by simp at h⟩ (fun k af _=>?_);have ad:=af.1;rcases Nat.eq_zero_or_pos k with bD|fy
   ·have bq:decide ((0:Int)<k)=false:=by simp;omega
    have r2:¬(0:Int)<k:=by omega
    have c7:=af.fin rK fun d h=>by omega
    clear af rK;cases keep with
    |false=>simp only[hb,if_false]at fx;clear c7;exact gI
    |true=>
     simp only[if_true]at fx;by_cases hy:k<a.length
     ·obtain⟨c,ay,kk⟩:=dP hy;rw[ay]at c7;by_cases q:eG c e=0
      ·rw[if_pos (by simp[q])]at c7;rw[c7]at fx;clear c7 ay;simp[hy,kk,bq,r2];((with_reducible repeat' first|refine aj ?_|refine aD (a6 _) ?_|refine aE (a6 _) ?_|simp[hy,kk,q,bq,r2]|((first|apply bK|apply bM|apply bL)<;>intro h<;>try simp at h))<;>(try exact cc));all_goals exact bT.rng a hi fx bW
      ·rw[if_neg (by simp[q])]at c7;have gH:(eG c e !=0)=true:=by simp[q]
       rw[c7]at fx;clear c7 ay;simp[hy,kk,bq,r2];((with_reducible repeat' first|refine aj ?_|refine aD (a6 _) ?_|refine aE (a6 _) ?_|simp[hy,kk,q,gH,bq,r2]|((first|apply bK|apply bM|apply bL)<;>intro h<;>try simp at h))<;>(try exact cc));all_goals first|(refine⟨by unfold lim;omega,?_⟩)|skip
       all_goals(with_reducible repeat' first|refine aj ?_|simp)
       all_goals first|(refine⟨by unfold lim;omega,?_⟩)|skip
       all_goals((with_reducible repeat' first|refine aj ?_|simp|((first|apply bK|apply bM|apply bL)<;>intro h<;>try simp at h))<;>(try exact cc))
       all_goals exact bT.rng _ hi fx ⟨by simp[fresh,aJ,aF,ck,inObs,Pv.look,hD,qJ,qI,pq,qH],ee (by simp[fresh,aJ,aF,ck,inObs,Pv.look,hD,qJ,qI,pq,qH]),ef (by simp[fresh,aJ,aF,dV,inObs,Pv.look,hD,qJ,qI,pq,qH]),by simp⟩
     ·rw[qw (by omega)]at c7;simp only[hb,if_false]at c7;rw[c7]at fx;have iJ:k=a.length:=by omega
      have sV:a.take k++e::a.drop k=a++[e]:=by rw[iJ];simp
      rw[sV]at fx;clear c7 sV;simp[hy,bq,r2];((with_reducible repeat' first|refine aj ?_|refine aD (a6 _) ?_|refine aE (a6 _) ?_|simp[hy,iJ,bq,r2]|((first|apply bK|apply bM|apply bL)<;>intro h<;>try simp at h))<;>(try exact cc));all_goals first|(refine⟨by unfold lim;omega,?_⟩)|skip
      all_goals(with_reducible repeat' first|refine aj ?_|simp)
      all_goals first|(refine⟨by unfold lim;omega,?_⟩)|skip
      all_goals((with_reducible repeat' first|refine aj ?_|simp|((first|apply bK|apply bM|apply bL)<;>intro h<;>try simp at h))<;>(try exact cc))
      all_goals exact bT.rng _ hi fx ⟨by simp[fresh,aJ,aF,ck,inObs,Pv.look,hD,qJ,qI,pq,qH],ee (by simp[fresh,aJ,aF,ck,inObs,Pv.look,hD,qJ,qI,pq,qH]),ef (by simp[fresh,aJ,aF,dV,inObs,Pv.look,hD,qJ,qI,pq,qH]),by simp⟩
   ·obtain⟨d,aR⟩:∃d,a[k-1]? =some d:=⟨_,cl (by omega)⟩;have ak:((k:Int)-1).toNat=k-1:=by omega
    have aC:∀h,(a[k-1]'h)=d:=fun h=>by rw[cl h]at aR;exact fq aR
    have ja:(0:Int)<k:=by omega
    have l8:k-1<a.length:=by omega
    by_cases ae:0≤eG d e
    ·have ag:Gm a e (k-1):=⟨by omega,fun c ay=>by rw[aR]at ay;cases ay;exact ae⟩;clear af rK fx aR;simp[fy,ja,ak,aC,ae,l8];((with_reducible repeat' first|refine aj ?_|refine aD (a6 _) ?_|refine aE (a6 _) ?_|simp[fy,ja,ak,aC,ae,l8]|((first|apply bK|apply bM|apply bL)<;>intro h<;>try simp at h))<;>(try exact cc));refine bT.whl (k-1) (by omega) ag ?_;have bk:((k-1:Nat):Int)=(k:Int)-1:=by omega
     simp[bk];exact bW
    ·have c7:=af.fin rK fun ca _ mB=>by rw[aR]at mB;cases mB;omega
     clear af rK aR;cases keep with
     |false=>simp only[hb,if_false]at fx;clear c7;simp[fy,ja,ak,aC,ae,l8];(with_reducible repeat' first|refine aj ?_|refine aD (a6 _) ?_|refine aE (a6 _) ?_|simp[fy,ja,ak,aC,ae,l8]);all_goals exact bT.rng a hi fx bW
     |true=>
      simp only[if_true]at fx;by_cases hy:k<a.length
      ·obtain⟨c,ay,kk⟩:=dP hy;rw[ay]at c7;by_cases q:eG c e=0
       ·rw[if_pos (by simp[q])]at c7;rw[c7]at fx;clear c7 ay;simp[hy,kk,fy,ja,ak,aC,ae,l8];((with_reducible repeat' first|refine aj ?_|refine aD (a6 _) ?_|refine aE (a6 _) ?_|simp[hy,kk,q,fy,ja,ak,aC,ae,l8]|((first|apply bK|apply bM|apply bL)<;>intro h<;>try simp at h))<;>(try exact cc));all_goals exact bT.rng a hi fx bW
       ·rw[if_neg (by simp[q])]at c7;have gH:(eG c e !=0)=true:=by simp[q]
        rw[c7]at fx;clear c7 ay;simp[hy,kk,fy,ja,ak,aC,ae,l8];((with_reducible repeat' first|refine aj ?_|refine aD (a6 _) ?_|refine aE (a6 _) ?_|simp[hy,kk,q,gH,fy,ja,ak,aC,ae,l8]|((first|apply bK|apply bM|apply bL)<;>intro h<;>try simp at h))<;>(try exact cc));all_goals first|(refine⟨by unfold lim;omega,?_⟩)|skip
        all_goals(with_reducible repeat' first|refine aj ?_|simp)
        all_goals first|(refine⟨by unfold lim;omega,?_⟩)|skip
        all_goals((with_reducible repeat' first|refine aj ?_|simp|((first|apply bK|apply bM|apply bL)<;>intro h<;>try simp at h))<;>(try exact cc))
        all_goals exact bT.rng _ hi fx ⟨by simp[fresh,aJ,aF,ck,inObs,Pv.look,hD,qJ,qI,pq,qH],ee (by simp[fresh,aJ,aF,ck,inObs,Pv.look,hD,qJ,qI,pq,qH]),ef (by simp[fresh,aJ,aF,dV,inObs,Pv.look,hD,qJ,qI,pq,qH]),by simp⟩
      ·rw[qw (by omega)]at c7;simp only[hb,if_false]at c7;rw[c7]at fx;have iJ:k=a.length:=by omega
       have sV:a.take k++e::a.drop k=a++[e]:=by rw[iJ];simp
       rw[sV]at fx;clear c7 sV;simp[hy,fy,ja,ak,aC,ae,l8];((with_reducible repeat' first|refine aj ?_|refine aD (a6 _) ?_|refine aE (a6 _) ?_|simp[hy,iJ,fy,ja,ak,aC,ae,l8]|((first|apply bK|apply bM|apply bL)<;>intro h<;>try simp at h))<;>(try exact cc));all_goals first|(refine⟨by unfold lim;omega,?_⟩)|skip
       all_goals(with_reducible repeat' first|refine aj ?_|simp)
       all_goals first|(refine⟨by unfold lim;omega,?_⟩)|skip
       all_goals(with_reducible repeat' first|refine aj ?_|simp)
       all_goals exact bT.rng _ hi fx ⟨by simp[fresh,aJ,aF,ck,inObs,Pv.look,hD,qJ,qI,pq,qH],ee (by simp[fresh,aJ,aF,ck,inObs,Pv.look,hD,qJ,qI,pq,qH]),ef (by simp[fresh,aJ,aF,dV,inObs,Pv.look,hD,qJ,qI,pq,qH]),by simp⟩
  ·obtain⟨d,aR,hdi⟩:=dP dK;have au:=af.step aR;have mc:=jL d (dZ aR);have dN:bt al 203 [cC d,cC e] (.bool (nA d e)):=anr mc lM;clear af aR fx rK;cases keep with
   |false=>simp only[Bool.false_and]at au;exact gI
   |true=>
    simp only[Bool.true_and,wz]at au;by_cases q:eG d e=0
    ·rw[gU ((lS.zero _ _).1 q),Bool.true_or]at au;simp[dK,hdi];(with_reducible repeat' first|refine aj ?_|refine aD (a6 _) ?_|refine aE (a6 _) ?_|simp[dK,hdi,q]);all_goals exact bT.rng true dK au bW
    ·rw[h6 (fun h=>q ((lS.zero _ _).2 h)),Bool.false_or]at au;have gH:(eG d e==0)=false:=by simp[q]
     cases aX:nA d e
     ·rw[aX]at au dN;simp[dK,hdi];(with_reducible repeat' first|refine aj ?_|refine aD (a6 _) ?_|refine aE (a6 _) ?_|refine aD dN ?_|refine aE dN ?_|simp[dK,hdi,q,gH]);all_goals exact bT.rng true dK au bW
     ·rw[aX]at au dN;simp[dK,hdi];(with_reducible repeat' first|refine aj ?_|refine aD (a6 _) ?_|refine aE (a6 _) ?_|refine aD dN ?_|refine aE dN ?_|simp[dK,hdi,q,gH]);all_goals exact bT.rng false dK au bW
theorem mI.fst{s:List (List ao)}{t:List ao}{acc:List (List ao)}(h:mI s 0 acc)(aL:s[0]? =some t):mI s 1 (if jb s t=true then acc++[t]else acc):=by
 unfold mI at*;rw[ti aL]at h;have e:(if(1:Nat)=0 then none else s[1-1]?)=some t:=by simpa using aL
 have cx:acc++(t::cI (some t) (s.drop 1)).filter (jb s)=(cI none s).filter (jb s):=by rw[←h];simp[cI]
 rw[e,←cx];by_cases ad:jb s t=true<;>simp[ad]
theorem mI.eq{s:List (List ao)}{i:Nat}{t:List ao}{acc:List (List ao)}(h:mI s i acc)(hi:i≠0)(bQ:s[i-1]? =some t)(aL:s[i]? =some t):mI s (i+1) acc:=by
 unfold mI at*;rw[if_neg hi,bQ,ti aL]at h;have e:(if i+1=0 then none else s[i+1-1]?)=some t:=by rw[if_neg (by omega)];exact aL
 rw[e,←h];simp[cI]
theorem mI.ne{s:List (List ao)}{i:Nat}{p t:List ao}{acc:List (List ao)}(h:mI s i acc)(hi:i≠0)(bQ:s[i-1]? =some p)(aL:s[i]? =some t)(au:¬p=t):mI s (i+1) (if jb s t=true then acc++[t]else acc):=by
 unfold mI at*;rw[if_neg hi,bQ,ti aL]at h;have e:(if i+1=0 then none else s[i+1-1]?)=some t:=by rw[if_neg (by omega)];exact aL
 have aR:cI (some p) (t::s.drop (i+1))=t::cI (some t) (s.drop (i+1)):=by simp[cI,au]
 rw[aR]at h;rw[e,←h];by_cases ad:jb s t=true<;>simp[ad]
theorem amN(l:List (List ao)):(o0 eG l).length=l.length:=(yO eG l).length_eq
theorem ye(S:aH→Prop)(l:List (List ao))(d:List ao):aJ S (l.map cC++[cC d])=True:=by have:=Lv S (l++[d]);rw[List.map_append]at this;exact eq_true this
set_option maxRecDepth 4000 in
theorem anq(l:List (List ao))(jL:∀d∈l,eE d):bt al 167 [.slice 1 .no (l.map cC)] (.slice 1 .no ((k1 l).map cC)):=by
 generalize bg:k1 l=R;rw[aih]at bg;refine bc w3 acd aiM fun aN=>?_;unfold Pq;have eV:l.length≤68719476736:=by simp[ey,ea,en,lim]at aN;omega
 simp;refine dR [0,12,13] (fun i (_:Unit)=>[(14,.int .i64 i)]) l.length (fun _ _=>True) () bW trivial (fun _ _ _=>?_) (fun i _ hi _ _=>?_);rotate_left
 ·obtain⟨e,he,Ku⟩:=dP hi;have c2:bt al 86 [cC e] (.bool true):=o5 (jL e (dZ he));exact gI
 simp;(with_reducible repeat' first|refine aj ?_|simp);all_goals first|(refine⟨by unfold lim;omega,?_⟩)|skip
 all_goals(with_reducible repeat' first|refine aj ?_|simp)
 refine c9.ob (aeP l eV) (Ir l) (by unfold tW dT;exact aT) (by unfold tW dT;exact aT) (by simp[inObs,dT,Pv.look]) ?_;rintro r ai ⟨rfl,rfl⟩;refine⟨xj _ _,?_⟩;obtain⟨s,CK⟩:∃s,s=o0 eG l:=⟨_,rfl⟩;have p8:s.length=l.length:=by rw[CK];exact amN l
 have ag:∀d∈s,eE d:=fun d aR=>jL d (by rw[CK,XL]at aR;exact aR);rw[←CK]at bg;rw[←CK];clear CK;simp[tW,dT,cz];refine hH (fun i (acc:List (List ao))=>⟨[(5,.ptr (.obj 822) 0),(6,.slice 1 (.own (.loc 0)) (acc.map cC)),(30,.row 1 (.obj 821) s.length),(31,.int .i64 s.length),(32,.int .i64 i)],[(.obj 822,[.row 1 (.obj 821) s.length])],[(.loc 0,⟨acc.length,46,1,none⟩),(.obj 821,⟨s.length,46,1,some (s.map cC)⟩)],1,[.obj 821,.obj 822]⟩) s.length (fun i acc=>acc.length≤i∧mI s i acc) [] bW ⟨by simp,by simp[mI]⟩ (fun acc af _=>?_) (fun i acc hi af _=>?_)
 ·have af:=af.2;rw[mI,List.drop_length]at af;have:acc=R:=by rw[←bg];simpa[cI]using af
  subst this;exact bO
 ·obtain⟨aqg,af⟩:=af;have rL:acc.length≤68719476735:=by omega
  obtain⟨t,qV,aL⟩:=dP hi;have cY:=ag t (dZ qV);have kF:bt al 168 [cC t] (cC t):=D7 t cY.len;have jQ:(if jb s t=true then acc++[t]else acc).length≤acc.length+1:=by split<;>simp
  rcases Nat.eq_zero_or_pos i with rfl|fy
  ·have TH:=af.fst qV;have fx:(if jb s t=true then acc++[t]else acc).length≤0+1∧mI s (0+1) (if jb s t=true then acc++[t]else acc):=⟨kc jQ (by omega),TH⟩;clear af TH qV;simp[hi,aL];(with_reducible repeat' first|refine aj ?_|simp[hi,aL]);refine dR [5,6,8,30,31,32,49,50] (fun j (b:Bool)=>[(9,.bool b),(51,.int .i64 j)]) s.length (qa s t) true bW (by simp[qa]) (fun keep af _=>?_) (fun j keep dK af _=>?_)
   ·rw[qa,mn,←Uz]at af;rw[←af]at fx;clear af;cases keep with
    |false=>simp only[hb,if_false]at fx;simp;((with_reducible repeat' first|refine aj ?_|simp|((first|apply bK|apply bM|apply bL)<;>intro h<;>try simp at h))<;>(try exact cc));all_goals exact bT.rng acc hi fx bW
    |true=>
     simp only[if_true]at fx;clear jQ;simp;((with_reducible repeat' first|refine aj ?_|refine aD kF ?_|refine aE kF ?_|simp|((first|apply bK|apply bM|apply bL)<;>intro h<;>try simp at h))<;>(try exact cc));all_goals first|(refine⟨by unfold lim;omega,?_⟩)|skip
     all_goals(with_reducible repeat' first|refine aj ?_|simp)
     all_goals exact bT.rng (acc++[t]) hi fx ⟨by simp[fresh,aJ,aF,ck,inObs,Pv.look,ye],ee (by simp[fresh,aJ,aF,ck,inObs,Pv.look,ye]),ef (by simp[fresh,aJ,aF,dV,inObs,Pv.look,ye]),by simp⟩
   ·obtain⟨d,aR,hdi⟩:=dP dK;have au:=af.step aR;have mc:=ag d (dZ aR);have dN:bt al 208 [cC d,cC t] (.bool (nA d t)):=YK d mc.len cY;have oU:bt al 207 [cC d,cC t] (.int .i64 (eG d t)):=Ie d t;clear af aR fx;by_cases q:eG d t=0
    ·rw[wz,gU ((lS.zero _ _).1 q),Bool.true_or,Bool.and_true]at au;rw[q]at oU;simp[dK,hdi];((with_reducible repeat' first|refine aj ?_|refine aD oU ?_|refine aE oU ?_|simp[dK,hdi]|((first|apply bK|apply bM|apply bL)<;>intro h<;>try simp at h))<;>(try exact cc));all_goals exact bT.rng keep dK au bW
    ·rw[wz,h6 (fun h=>q ((lS.zero _ _).2 h)),Bool.false_or]at au;have gH:(eG d t !=0)=true:=by simp[q]
     cases aX:nA d t
     ·rw[aX]at au dN;simp only[Bool.not_false,Bool.and_true]at au;simp[dK,hdi];((with_reducible repeat' first|refine aj ?_|refine aD oU ?_|refine aE oU ?_|refine aD dN ?_|refine aE dN ?_|simp[dK,hdi,q,gH]|((first|apply bK|apply bM|apply bL)<;>intro h<;>try simp at h))<;>(try exact cc));all_goals exact bT.rng keep dK au bW
     ·rw[aX]at au dN;simp only[Bool.not_true,Bool.and_false]at au;simp[dK,hdi];((with_reducible repeat' first|refine aj ?_|refine aD oU ?_|refine aE oU ?_|refine aD dN ?_|refine aE dN ?_|simp[dK,hdi,q,gH]|((first|apply bK|apply bM|apply bL)<;>intro h<;>try simp at h))<;>(try exact cc));all_goals exact bT.rng false dK au bW
  ·obtain⟨p,zY⟩:∃p,s[i-1]? =some p:=⟨_,cl (by omega)⟩;have ak:((i:Int)-1).toNat=i-1:=by omega
   have aC:∀h,(s[i-1]'h)=p:=fun h=>by rw[cl h]at zY;exact fq zY
   have bk:¬i=0:=by omega
   have dg:i-1<s.length:=by omega
   have ja:(0:Int)<i:=by omega
   have jl:bt al 207 [cC p,cC t] (.int .i64 (eG p t)):=Ie p t;by_cases F5:p=t
   ·have fx:acc.length≤i+1∧mI s (i+1) acc:=⟨by omega,af.eq bk (by rw[zY,F5]) qV⟩;rw[(lS.zero _ _).2 F5]at jl;clear af qV zY;simp[hi,aL,ak,aC,dg,ja];((with_reducible repeat' first|refine aj ?_|refine aD jl ?_|refine aE jl ?_|simp[hi,aL,ak,aC,dg,fy,ja]|((first|apply bK|apply bM|apply bL)<;>intro h<;>try simp at h))<;>(try exact cc));all_goals exact bT.rng acc hi fx bW
   ·have fx:(if jb s t=true then acc++[t]else acc).length≤i+1∧mI s (i+1) (if jb s t=true then acc++[t]else acc):=⟨kc jQ (by omega),af.ne bk zY qV F5⟩;have q0:¬eG p t=0:=fun h=>F5 ((lS.zero _ _).1 h);have Wl:(eG p t==0)=false:=by simp[q0]
    clear af qV zY;simp[hi,aL,ak,aC,dg,ja];((with_reducible repeat' first|refine aj ?_|refine aD jl ?_|refine aE jl ?_|simp[hi,aL,ak,aC,dg,fy,ja,q0,Wl]|((first|apply bK|apply bM|apply bL)<;>intro h<;>try simp at h))<;>(try exact cc));refine dR [5,6,8,30,31,32,49,50] (fun j (b:Bool)=>[(9,.bool b),(51,.int .i64 j)]) s.length (qa s t) true bW (by simp[qa]) (fun keep af _=>?_) (fun j keep dK af _=>?_)
    ·rw[qa,mn,←Uz]at af;rw[←af]at fx;clear af;cases keep with
     |false=>simp only[hb,if_false]at fx;simp;((with_reducible repeat' first|refine aj ?_|simp|((first|apply bK|apply bM|apply bL)<;>intro h<;>try simp at h))<;>(try exact cc));all_goals exact bT.rng acc hi fx bW
     |true=>
      simp only[if_true]at fx;clear jQ;simp;(with_reducible repeat' first|refine aj ?_|refine aD kF ?_|refine aE kF ?_|simp);all_goals first|(refine⟨by unfold lim;omega,?_⟩)|skip
      all_goals(with_reducible repeat' first|refine aj ?_|simp)
      all_goals exact bT.rng (acc++[t]) hi fx ⟨by simp[fresh,aJ,aF,ck,inObs,Pv.look,ye],ee (by simp[fresh,aJ,aF,ck,inObs,Pv.look,ye]),ef (by simp[fresh,aJ,aF,dV,inObs,Pv.look,ye]),by simp⟩
    ·obtain⟨d,aR,hdi⟩:=dP dK;have au:=af.step aR;have mc:=ag d (dZ aR);have dN:bt al 208 [cC d,cC t] (.bool (nA d t)):=YK d mc.len cY;have oU:bt al 207 [cC d,cC t] (.int .i64 (eG d t)):=Ie d t;clear af aR fx;by_cases q:eG d t=0
     ·rw[wz,gU ((lS.zero _ _).1 q),Bool.true_or,Bool.and_true]at au;rw[q]at oU;simp[dK,hdi];((with_reducible repeat' first|refine aj ?_|refine aD oU ?_|refine aE oU ?_|simp[dK,hdi]|((first|apply bK|apply bM|apply bL)<;>intro h<;>try simp at h))<;>(try exact cc));all_goals exact bT.rng keep dK au bW
     ·rw[wz,h6 (fun h=>q ((lS.zero _ _).2 h)),Bool.false_or]at au;have gH:(eG d t !=0)=true:=by simp[q]
      cases aX:nA d t
      ·rw[aX]at au dN;simp only[Bool.not_false,Bool.and_true]at au;simp[dK,hdi];((with_reducible repeat' first|refine aj ?_|refine aD oU ?_|refine aE oU ?_|refine aD dN ?_|refine aE dN ?_|simp[dK,hdi,q,gH]|((first|apply bK|apply bM|apply bL)<;>intro h<;>try simp at h))<;>(try exact cc));all_goals exact bT.rng keep dK au bW
      ·rw[aX]at au dN;simp only[Bool.not_true,Bool.and_false]at au;simp[dK,hdi];((with_reducible repeat' first|refine aj ?_|refine aD oU ?_|refine aE oU ?_|refine aD dN ?_|refine aE dN ?_|simp[dK,hdi,q,gH]|((first|apply bK|apply bM|apply bL)<;>intro h<;>try simp at h))<;>(try exact cc));all_goals exact bT.rng false dK au bW
theorem aou(l:List T)(h:∀t∈l,t.fit=true):bt al 172 [.slice 4 .no (l.map T.e)] (.bool true):=by
 refine bc fQ R8 VX fun aN=>?_;unfold I2;have eV:l.length≤68719476736:=by simp[ey,ea,en,lim]at aN;omega
 simp;refine dR [5,6] (fun i (_:Unit)=>[(7,.int .i64 i)]) l.length (fun _ _=>True) () bW trivial (fun _ _ _=>?_) (fun i _ hi _ _=>?_)
 ·exact bO
 ·obtain⟨t,aL,qV⟩:=dP hi;have dO:=yV (h t (dZ aL));clear aL;exact gI
def iR(m:Int):cL:=⟨[(.obj 831,[.int .i64 m])],[]⟩
theorem vt(m:Int):ej (iR m):=by unfold iR;exact ej.of ⟨by intro m;simp[Pv.look],by intro m;simp[Pv.look]⟩ (by simp) (by simp)
theorem Zq(a b:Int):Same (iR a) (iR b):=Same.keys (by simp[iR]) (by simp[iR])
theorem aer(v m gz:Int)(h:Ec v m=some gz):bV al 204 [.int .i64 v,.ptr (.obj 831) 0] (iR m) fun r ai=>r= .tuple []∧ai=iR gz:=by
 unfold Ec at h;split at h;rotate_left
 ·cases h
 rename_i aK;cases h;have ag:=vt m;simp only[iR]at ag⊢;by_cases hm:m<v+1
 ·rw[ri,if_pos hm];refine bV.mk mixed w3 R3 VS (by simp) ag.obj fun aN cT=>?_;unfold IX;simp;(with_reducible repeat' first|refine aj ?_|simp[hm]);(refine cX.at (iR (v+1)) (by simp) (by first|exact vt _|exact vt ‹_› _) (Same.keys (by simp[iR]) (by simp[iR])) (by simp only[iR,bX,b3];exact aT) (by simp only[iR,bX,b3];exact aT) ?_;simp[c6,MI,aY,aZ,aW,inObs,Pv.look,iR])
 ·rw[ri,if_neg hm];refine bV.mk mixed w3 R3 VS (by simp) ag.obj fun aN cT=>?_;unfold IX;simp;(with_reducible repeat' first|refine aj ?_|simp[hm]);(refine cX.at (iR m) (by simp) (by first|exact vt _|exact vt ‹_› _) (Same.keys (by simp[iR]) (by simp[iR])) (by simp only[iR,bX,b3];exact aT) (by simp only[iR,bX,b3];exact aT) ?_;simp[c6,MI,aY,aZ,aW,inObs,Pv.look,iR])
def w8(l:List T):Int:=l.foldl (fun m t=>t.fold ri m) 0
def Gn(l:List T)(i:Nat)(m:Int):Prop:=m=w8 (l.take i)
theorem Yt(l:List T)(h:∀t∈l,t.fit=true):bt al 162 [.slice 4 .no (l.map T.e)] (.int .i64 (w8 l)):=by
 have dO:=aou l h;generalize bg:w8 l=R;refine bc w3 acm aiU fun aN=>?_;unfold Pz;have eV:l.length≤68719476736:=by simp[ey,ea,en,lim]at aN;omega
 simp;(with_reducible repeat' first|refine aj ?_|refine aD dO ?_|refine aE dO ?_|simp);refine hH (fun i (m:Int)=>⟨[(3,.ptr (.obj 831) 0),(9,.slice 4 .no (l.map T.e)),(10,.int .i64 l.length),(11,.int .i64 i)],[(.obj 831,[.int .i64 m])],[],0,[.obj 831]⟩) l.length (Gn l) 0 bW rfl (fun m af _=>?_) (fun i m hi af _=>?_)
 ·rw[Gn,mn,bg]at af;subst af;exact bO
 ·obtain⟨t,aL,qV⟩:=dP hi;have afE:t.ok=true:=by have:=h t (dZ aL);simp only[T.fit,cE]at this;exact this.1
  have au:Gn l (i+1) (t.fold ri m):=by rw[Gn,mQ aL,w8,List.foldl_append,af];rfl
  have key:=J5 iR vt Zq 204 [.ptr (.obj 831) 0] (fun a=>by simp[iR,inObs,Pv.look]) (by simp) Ec (fun v a bp h=>aer v a bp h) t m _ (Oh t m afE);clear af aL;simp[hi,qV];(with_reducible repeat' first|refine aj ?_|simp[qV,hi]);(refine c9.ob (key) (by first|exact vt _|exact vt ‹_› _) (by simp only[iR,bX,b3];exact aT) (by simp only[iR,bX,b3];exact aT) (by simp[inObs,Pv.look,iR]) ?_;rintro r ai ⟨rfl,rfl⟩;refine⟨(Same.keys (by simp[iR]) (by simp[iR])),?_⟩;simp[cz,iR]);(with_reducible repeat' first|refine aj ?_|simp);refine bT.rng (t.fold ri m) hi au ?_;exact bW
theorem Yu{s:List ao}(ag:eE s){n:Int}(au:0≤n):bt al 89 [.slice 5 .no (s.map ao.e),.int .i64 n] (.bool (s.all (kV n))):=by
 have p8:=ag.len;generalize bg:s.all (kV n)=R;refine bc w3 acn aiV fun aN=>?_;unfold PA;simp;refine dR [1,7,8] (fun i (_:Unit)=>[(9,.int .i64 i)]) s.length (k0 (kV n) s) () bW (fun k b ad=>by omega) (fun _ af _=>?_) (fun i _ hi af _=>?_)
 ·have:R=true:=by rw[←bg,hs];intro b ae;obtain⟨k,ad,e⟩:=nN ae;exact af k b ad (by rw[cl ad,e])
  rw[this];exact bO
 ·obtain⟨b,aK,gj⟩:=dP hi;have dB:kV n b=false→R=false:=fun h=>by rw[←bg,Bool.eq_false_iff];intro cx;rw[hs]at cx;rw[cx b (dZ aK)]at h;cases h
  have fO:=Yt [b.t] (fun t aL=>by simp at aL;subst aL;exact ag.fit b (dZ aK));have hle:=Ii (n:=n) b.t 0;rw[show w8 [b.t]=b.t.fold ri 0 from rfl]at fO;simp only[gS,mU]at fO;generalize b.t.fold ri 0=m at fO hle;by_cases J:b.v<n
  ·have nU:¬n≤b.v:=by omega
   cases U:dw n b.t
   ·have ar:n<m:=by rw[U]at hle;simp at hle;omega
    rw[dB (by simp[kV,U])];clear af aK hle;exact bO
   ·have ar:¬n<m:=by rw[U]at hle;simp[au]at hle;omega
    have zU:=af.step aK (by simp[kV,J,U]);clear af aK hle;exact gI
  ·have nU:n≤b.v:=by omega
   rw[dB (by simp[kV,J])];clear af aK hle;exact bO
def vz:C:=(aa [cw 1 0,bd 2 false] (.seq (aa [aB 11 0 1 1,av 12 1 11,aV 13 .lss 12 0,I 14 13,aq 14 false (aB 15 0 1 1),aq 14 false (av 16 1 15),aq 14 false (aV 17 .gtr 16 100000),cU 18 14 17,I 19 18,aq 19 false (aB 20 1 1 1),aq 19 false (av 21 1 20),aq 19 false (cA 22 86 21),aq 19 false (cd 23 22),cU 24 19 23,I 25 24,aq 25 false (aB 26 3 1 1),aq 25 false (av 27 1 26),aq 25 false (cA 28 87 27),aq 25 false (cd 29 28),cU 30 25 29,I 31 30,aq 31 false (aB 32 4 1 1),aq 31 false (av 33 1 32),aq 31 false (cA 34 88 33),aq 31 false (cd 35 34),cU 36 31 35,I 37 36,aq 37 false (aB 38 1 1 1),aq 37 false (av 39 1 38),aq 37 false (aB 40 0 1 1),aq 37 false (av 41 1 40),aq 37 false (b8 42 89 39 41),aq 37 false (cd 43 42),cU 44 37 43] (aU 44 (aa [bd 2 false] .ret) .skip)) (.seq (aa [aB 45 2 1 1,av 46 1 45,cg 47 46,bU 48 0] (fp 49 48 47 (.seq (.block 1 (aa [cp 50 1 46 48,av 51 1 50,I 4 51] (aa [I 52 4,cA 53 86 52,cd 54 53,I 55 54,b6 55 false 56 4,aq 55 false (aB 57 0 1 1),aq 55 false (av 58 1 57),aq 55 false (b8 59 89 56 58),aq 55 false (cd 60 59),cU 61 55 60] (aU 61 (aa [bd 2 false] .ret) .skip)))) (.region [aV 62 .add 48 1,I 48 62])))) (.seq (aa [aB 63 3 1 1,av 64 1 63,cg 65 64,bU 66 0] (.block 2 (.loop (aa [bn 67 .lss 66 65] (.seq (aU 67 .skip (.exit 2)) (.seq (.block 3 (aa [cp 68 2 64 66,aS 69 2 68,c4 (.alloc 6 none (.agg [.int .i64 0,.int .i64 0])),bz 2 6 69] (aa [aB 70 0 1 6,av 71 1 70,aB 72 0 1 1,av 73 1 72,bn 74 .geq 71 73] (aU 74 (aa [bd 2 false] .ret) .skip)))) (.region [aV 75 .add 66 1,I 66 75]))))))) (.seq (aa [aB 76 4 1 1,av 77 1 76,cg 78 77,bU 79 0] (.block 4 (.loop (aa [bn 80 .lss 79 78] (.seq (aU 80 .skip (.exit 4)) (.seq (.block 5 (aa [cp 81 2 77 79,aS 82 2 81,c4 (.alloc 8 none (.agg [.int .i64 0,.str []])),bz 2 8 82] (aa [aB 83 0 1 8,av 84 1 83,aB 85 0 1 1,av 86 1 85,bn 87 .geq 84 86] (aU 87 (aa [bd 2 false] .ret) .skip)))) (.region [aV 88 .add 79 1,I 79 88]))))))) (aa [aS 90 5 1,cA 91 90 90,I 89 91,cn 92 0 89,cn 93 1 89,cO 9 eF,bz 5 9 92,I 10 93] (aa [I 94 10,I 95 94,aq 95 true (aS 96 5 9),aq 95 true (aS 97 5 1),aq 95 true (b8 98 91 96 97),dD 99 95 98,I 2 99] .ret)))))))
@[simp] def akX:List bB:=[.tmp 2]
def ET:C:=(aa [cw 1 0,cO 2 eF,bd 3 false] (aa [aB 26 1 1 1,av 27 1 26,aB 28 3 1 1,av 29 1 28,b8 30 163 27 29,I 25 30,cn 31 0 25,cn 32 1 25,I 4 31,I 5 32] (aa [aB 34 1 1 1,av 35 1 34,aB 36 4 1 1,av 37 1 36,b8 38 164 35 37,I 33 38,cn 39 0 33,cn 40 1 33,I 6 39,I 7 40] (.seq (aa [I 41 5,cd 42 41,I 43 42,b6 43 false 44 7,aq 43 false (cd 45 44),cU 46 43 45] (aU 46 (aa [ha 47 eF [],bz 5 2 47,bd 3 false] .ret) .skip)) (aa [c4 (.mkmap 48 none),I 8 48] (.seq (aa [I 49 4,cg 50 49,bU 51 0] (fp 52 51 50 (.seq (.block 1 (aa [cp 53 2 49 51,aS 54 2 53,c4 (.alloc 10 none (.agg [.int .i64 0,.int .i64 0])),bz 2 10 54] (aa [aB 55 1 1 10,av 56 1 55,aV 57 .eql 56 3] (aU 57 (.region [I 58 8,aB 59 0 1 10,av 60 1 59,c4 (.mput .i (.t 58) (.t 60) (.c (.bool true)))]) .skip)))) (.region [aV 61 .add 51 1,I 51 61])))) (aa [eb 62 2 100 [],I 11 62] (.seq (aa [I 63 6,cg 64 63,bU 65 0] (.block 2 (.loop (aa [bn 66 .lss 65 64] (.seq (aU 66 .skip (.exit 2)) (.seq (.block 3 (aa [cp 67 2 63 65,aS 68 2 67,c4 (.alloc 13 none (.agg [.int .i64 0,.str []])),bz 2 13 68] (aa [I 69 8,aB 70 0 1 13,av 71 1 70,b9 72 (.mget .i (.bool false) false (.t 69) (.t 71)),cd 73 72] (aU 73 (.region [I 74 11,aS 75 2 13,eb 76 2 100 [.t 75],gR 77 2 100 74 76,I 11 77]) .skip)))) (.region [aV 78 .add 65 1,I 65 78]))))))) (aa [eb 79 1 46 [],I 14 79] (.seq (aa [aB 80 2 1 1,av 81 1 80,cg 82 81,bU 83 0] (.block 4 (.loop (aa [bn 84 .lss 83 82] (.seq (aU 84 .skip (.exit 4)) (.seq (.block 5 (aa [cp 85 1 81 83,av 86 1 85,I 16 86] (aa [aB 88 1 1 1,av 89 1 88,I 90 16,b8 91 165 89 90,I 87 91,cn 92 0 87,cn 93 1 87,I 17 92,I 18 93] (.seq (aa [I 94 18,cd 95 94] (aU 95 (.exit 5) .skip)) (aa [I 97 17,I 98 4,b8 99 163 97 98,I 96 99,cn 100 0 96,cn 101 1 96,I 19 100,I 20 101] (aa [I 103 17,I 104 11,b8 105 164 103 104,I 102 105,cn 106 0 102,cn 107 1 102,I 21 106,I 22 107] (.seq (aa [I 108 20,cd 109 108,I 110 109,b6 110 false 111 22,aq 110 false (cd 112 111),cU 113 110 112] (aU 113 (.exit 5) .skip)) (aa [aB 114 1 1 1,av 115 1 114,I 116 17,b8 117 166 115 116,I 23 117] (.seq (aa [I 118 23,cg 119 118,aV 120 .eql 119 0] (aU 120 (aa [ha 121 eF [],bz 5 2 121,bd 3 false] .ret) .skip)) (.region [I 122 14,I 123 23,eb 124 1 46 [.t 123],gR 125 1 46 122 124,I 14 125])))))))))) (.region [aV 126 .add 83 1,I 83 126]))))))) (aa [I 127 14,cA 128 167 127,I 24 128] (.seq (aa [I 129 24,cg 130 129,aV 131 .gtr 130 30] (aU 131 (aa [ha 132 eF [],bz 5 2 132,bd 3 false] .ret) .skip)) (.seq (.drawn true 142 [aB 133 0 1 1,av 134 1 133,aB 135 1 1 1,av 136 1 135,cA 137 168 136,I 138 24,I 139 4,I 140 11,ha 141 eF [(0,1,(.t 134)),(1,1,(.t 137)),(2,1,(.t 138)),(3,1,(.t 139)),(4,1,(.t 140))],bz 5 2 141,bd 3 true]) .ret)))))))))))))
@[simp] def AW:List bB:=[.cell 2 true 5,.tmp 3]
def xr:C:=(aa [cw 2 0,cw 3 1,bd 4 false] (.seq (aa [aB 8 0 1 2,av 9 1 8,aB 10 0 1 3,av 11 1 10,bn 12 .neq 9 11,I 13 12,aq 13 false (aB 14 1 1 2),aq 13 false (av 15 1 14),aq 13 false (aB 16 1 1 3),aq 13 false (av 17 1 16),aq 13 false (b8 18 169 15 17),aq 13 false (cd 19 18),cU 20 13 19,I 21 20,aq 21 false (aB 22 2 1 2),aq 21 false (av 23 1 22),aq 21 false (cg 24 23),aq 21 false (aB 25 2 1 3),aq 21 false (av 26 1 25),aq 21 false (cg 27 26),aq 21 false (bn 28 .neq 24 27),cU 29 21 28,I 30 29,aq 30 false (aB 31 3 1 2),aq 30 false (av 32 1 31),aq 30 false (cg 33 32),aq 30 false (aB 34 3 1 3),aq 30 false (av 35 1 34),aq 30 false (cg 36 35),aq 30 false (bn 37 .neq 33 36),cU 38 30 37,I 39 38,aq 39 false (aB 40 4 1 2),aq 39 false (av 41 1 40),aq 39 false (cg 42 41),aq 39 false (aB 43 4 1 3),aq 39 false (av 44 1 43),aq 39 false (cg 45 44),aq 39 false (bn 46 .neq 42 45),cU 47 39 46] (aU 47 (aa [bd 4 false] .ret) .skip)) (.seq (aa [aB 48 2 1 2,av 49 1 48,cg 50 49,bU 51 0] (fp 52 51 50 (.seq (.block 1 (aa [I 53 51,I 5 53] (.seq (.drawn true 103 [aB 54 2 1 2,av 55 1 54,I 56 5,cp 57 1 55 56,av 58 1 57,aB 59 2 1 3,av 60 1 59,I 61 5,cp 62 1 60 61,av 63 1 62,b8 64 169 58 63,cd 65 64]) (aU 65 (aa [bd 4 false] .ret) .skip)))) (.region [aV 66 .add 51 1,I 51 66])))) (.seq (aa [aB 67 3 1 2,av 68 1 67,cg 69 68,bU 70 0] (.block 2 (.loop (aa [bn 71 .lss 70 69] (.seq (aU 71 .skip (.exit 2)) (.seq (.block 3 (aa [I 72 70,I 6 72] (.seq (.drawn true 103 [aB 73 3 1 2,av 74 1 73,I 75 6,cp 76 2 74 75,aS 77 2 76,aB 78 3 1 3,av 79 1 78,I 80 6,cp 81 2 79 80,aS 82 2 81,b9 83 (.beq true (some [false,false]) (.t 77) (.t 82))]) (aU 83 (aa [bd 4 false] .ret) .skip)))) (.region [aV 84 .add 70 1,I 70 84]))))))) (.seq (aa [aB 85 4 1 2,av 86 1 85,cg 87 86,bU 88 0] (.block 4 (.loop (aa [bn 89 .lss 88 87] (.seq (aU 89 .skip (.exit 4)) (.seq (.block 5 (aa [I 90 88,I 7 90] (.seq (.drawn true 103 [aB 91 4 1 2,av 92 1 91,I 93 7,cp 94 2 92 93,aS 95 2 94,aB 96 4 1 3,av 97 1 96,I 98 7,cp 99 2 97 98,aS 100 2 99,b9 101 (.beq true (some [false,true]) (.t 95) (.t 100))]) (aU 101 (aa [bd 4 false] .ret) .skip)))) (.region [aV 102 .add 88 1,I 88 102]))))))) (aa [bd 4 true] .ret))))))
@[simp] def Hl:List bB:=[.tmp 4]
def H3:List (Nat×dI):=[
 (3,⟨1,8,.int .i64,.int .i64 0⟩),
 (4,⟨1,1,.bool,.bool false⟩),
 (9,⟨1,16,.str,.str []⟩),
 (46,⟨1,24,.slice 113,.slice 5 .nil []⟩),
 (47,⟨1,24,.slice 46,.slice 1 .nil []⟩),
 (48,⟨1,24,.slice 98,.slice 2 .nil []⟩),
 (49,⟨1,24,.slice 100,.slice 2 .nil []⟩),
 (51,⟨5,104,.struct [(0,3),(1,46),(2,47),(3,48),(4,49)],.agg [.int .i64 0,.slice 5 .nil [],.slice 1 .nil [],.slice 2 .nil [],.slice 2 .nil []]⟩),
 (98,⟨2,16,.struct [(0,3),(1,3)],.agg [.int .i64 0,.int .i64 0]⟩),
 (100,⟨2,24,.struct [(0,3),(1,9)],.agg [.int .i64 0,.str []]⟩),
 (136,⟨1,8,.map 3 4,.junk⟩)]
theorem oc:fU al H3=true:=by kernel_rfl
theorem yp:bY H3 vz akX 1 Tryz.f29=true:=by kernel_rfl
theorem xu:al.funcs[(29:Nat)]? =some Tryz.f29:=Tryz.func29
theorem Mk:bY H3 ET AW 1 Tryz.f90=true:=by kernel_rfl
theorem JN:al.funcs[(90:Nat)]? =some Tryz.f90:=Tryz.func90
theorem AL:bY H3 xr Hl 2 Tryz.f91=true:=by kernel_rfl
theorem zr:al.funcs[(91:Nat)]? =some Tryz.f91:=Tryz.func91
def bS.e(s:bS):ah:= .agg [.int .i64 s.n,.slice 5 .no (s.b.map ao.e),.slice 1 .no (s.d.map cC),.slice 2 .no (s.k.map bJ.e),.slice 2 .no (s.m.map bj.e)]
@[simp] theorem arB(S:aH→Prop)(s:bS):aF S s.e=True:=by simp[bS.e,aF,aJ]
def e3(o:Option bS):ah:= .tuple [(o.getD gd).e,.bool o.isSome]
@[simp] theorem arz(S:aH→Prop)(o:Option bS):aF S (e3 o)=True:=by simp[e3,aF,aJ]
def uO(k:List bJ)(i:Nat)(l:List (Int×Bool)):Prop:= ∀v,(tg v l).getD false=(k.take i).any fun x=>x.v==v&&x.k==3
theorem uO.put{k:List bJ}{i:Nat}{l:List (Int×Bool)}(h:uO k i l){x:bJ}(ab:k[i]? =some x)(ar:x.k=3):uO k (i+1) (e0 x.v true l):=fun v=>by
 rw[nJ,mQ ab,List.any_append,←h v];by_cases e:v=x.v
 ·rw[if_pos e];simp[e,ar]
 ·rw[if_neg e];have:(x.v==v)=false:=by simp;exact fun h=>e h.symm
  simp[this]
theorem uO.skip{k:List bJ}{i:Nat}{l:List (Int×Bool)}(h:uO k i l){x:bJ}(ab:k[i]? =some x)(ar:¬x.k=3):uO k (i+1) l:=fun v=>by
 rw[mQ ab,List.any_append,←h v];have:(x.k==3)=false:=by simp[ar]
 simp[this]
theorem uO.fin{k:List bJ}{l:List (Int×Bool)}(h:uO k k.length l)(ad:jl k)(x:bj):(tg x.v l).getD false= !kK k x:=by rw[h x.v,mn,ZE ad.asc,kK,bne,Bool.not_not]
def tc(k:List bJ)(m:List bj)(i:Nat)(a:List bj):Prop:=a=(m.take i).filter (kK k)
theorem tc.step{k:List bJ}{m:List bj}{i:Nat}{a:List bj}(h:tc k m i a){x:bj}(ab:m[i]? =some x):tc k m (i+1) (if kK k x=true then a++[x]else a):=by
 rw[tc,mQ ab,List.filter_append,←h];by_cases e:kK k x=true
 ·rw[if_pos e];simp[e]
 ·rw[if_neg e];simp[e]
theorem Am(S:aH→Prop)(l:List bj)(d:bj):aJ S (l.map bj.e++[d.e])=True:=by have:=Lu S (l++[d]);rw[List.map_append]at this;exact eq_true this
theorem Vh{k:List bJ}{m:List bj}(h:gA m):gA (m.filter (kK k)):=⟨fun x ab=>h.at' x (mV.1 ab).1,Y9 _ h.asc⟩
theorem NR{G:List (List dm)}{k:List bJ}{m:List bj}(h:nI G m):nI G (m.filter (kK k)):=fun x ab=>h x (mV.1 ab).1
theorem qb.skip{b:List ao}{k:List bJ}{m:List bj}{D:List (List ao)}{i:Nat}{a:List (List ao)}(h:qb b k m D i a){d:List ao}(aR:D[i]? =some d)(he:∀r,gN b k m (d::r)=gN b k m r):qb b k m D (i+1) a:=⟨by have:=h.1;omega,h.2.1,by rw[←h.2.2,ti aR,he]⟩
theorem qb.snoc{b:List ao}{k:List bJ}{m:List bj}{D:List (List ao)}{i:Nat}{a:List (List ao)}(h:qb b k m D i a){d x:List ao}(aR:D[i]? =some d)(ab:eE x)(he:∀r,gN b k m (d::r)=(gN b k m r).map (x:: ·)):qb b k m D (i+1) (a++[x]):=
 ⟨by have:=h.1;simp;omega,fun y aG=>by
  rcases ka.1 aG with aG|aG
  ·exact h.2.1 y aG
  ·simp at aG;subst aG;exact ab,by
  rw[←h.2.2,ti aR,he,Option.map_map];congr 1;funext r;simp⟩
theorem qb.stop{b:List ao}{k:List bJ}{m:List bj}{D:List (List ao)}{i:Nat}{a:List (List ao)}(h:qb b k m D i a){d:List ao}(aR:D[i]? =some d)(he:∀r,gN b k m (d::r)=none):gN b k m D=none:=by rw[←h.2.2,ti aR,he];rfl
theorem qb.fin{b:List ao}{k:List bJ}{m:List bj}{D:List (List ao)}{a:List (List ao)}(h:qb b k m D D.length a):gN b k m D=some a:=by rw[←h.2.2,List.drop_length];simp[gN]
theorem tf(S:aH→Prop)(l:List (List ao))(d:List ao):aJ S (l.map cC++[.slice 5 .no (d.map ao.e)])=True:=ye S l d
theorem BT{d:List ao}(aR:eE d):∀e∈hG d,e.1.ok=true∧e.2.ok=true:=fun e he=>by obtain⟨c,ay,rfl⟩:=iC.1 he;have:=aR.ok c ay;exact⟨by simpa[T.ok]using this.1,this.2⟩
set_option maxRecDepth 4000 in
theorem Bn{s:bS}(h:ix s){G:List (List dm)}(hg:G.length≤687000)(aX:nI G s.m):bt al 90 [s.e] (e3 (gJ s)):=by
 generalize du:gJ s=O;have kH:=Yq h.b h.k;have kI:=Yr h.b h.m hg aX;have jA:=fun k=>Hu (acc:=[]) (a:=k) h.b h.k.at' ⟨by simp,by simp⟩;have ql:=fun m=>Hv (acc:=[]) (a:=m) h.b h.m.at' ⟨by simp,by simp[hS]⟩;have nj:=fun m=>Hw (acc:=[]) (a:=m) (s:=s.b) aX (fun x ab=>by simp at ab);have ae:=h.b;have aR:=h.d;clear h aX;unfold gJ at du;obtain⟨n,b,d,fo,m0⟩:=s;simp only at kH kI jA ql nj ae aR du;have fs:=ae.len;simp only[bS.e];generalize gk b fo []=ok at kH du jA;generalize gl b m0 []=om at kI du ql nj;cases ok with
 |none=>
  simp only at du;subst du;simp only[fP]at kH;simp only[h3]at kI;clear jA ql nj;refine bc oc JN Mk fun aN=>?_;unfold ET;simp;(with_reducible repeat' first|refine aj ?_|refine aD kH ?_|refine aE kH ?_|refine aD kI ?_|refine aE kI ?_|simp);all_goals simp[bu,AW,aY,aZ,aW]
  all_goals simp[e3,gd,bS.e]
 |some k=>
  simp only at du;cases om with
  |none=>
   simp only at du;subst du;simp only[fP]at kH;simp only[h3]at kI;clear jA ql nj;refine bc oc JN Mk fun aN=>?_;unfold ET;simp;(with_reducible repeat' first|refine aj ?_|refine aD kH ?_|refine aE kH ?_|refine aD kI ?_|refine aE kI ?_|simp);all_goals simp[bu,AW,aY,aZ,aW]
   all_goals simp[e3,gd,bS.e]
  |some m=>
   simp only at du;have vV:=jA k rfl;have xX:=ql m rfl;have xP:=nj m rfl;have iJ:=nZ vV;have lI:m.length≤68719470000:=by have:=C9 xX xP;omega
   have zR:=Vh (k:=k) xX;have zL:=NR (k:=k) xP;have af5:(m.filter (kK k)).length≤68719470000:=kc (List.length_filter_le _ _) lI;simp only[fP,h5,kS]at kH;simp only[h3,h5,kS]at kI;clear jA ql nj;refine bc oc JN Mk fun aN=>?_;unfold ET;have Ks:d.length≤68719476736:=by simp[ey,ea,en,lim]at aN;omega
   simp;(with_reducible repeat' first|refine aj ?_|refine aD kH ?_|refine aE kH ?_|refine aD kI ?_|refine aE kI ?_|simp);refine hH (fun i (l:List (Int×Bool))=>⟨[(1,.ptr (.loc 0) 0),(2,.ptr (.loc 1) 0),(4,.slice 2 .no (k.map bJ.e)),(6,.slice 2 .no (m.map bj.e)),(8,.gmap (.loc 2)),(49,.slice 2 .no (k.map bJ.e)),(50,.int .i64 k.length),(51,.int .i64 i)],[(.loc 0,[.int .i64 n,.slice 5 .no (b.map ao.e),.slice 1 .no (d.map cC),.slice 2 .no (fo.map bJ.e),.slice 2 .no (m0.map bj.e)]),(.loc 1,[.int .i64 0,.slice 5 .nil [],.slice 1 .nil [],.slice 2 .nil [],.slice 2 .nil []]),(.loc 2,qh l)],[],3,[]⟩) k.length (uO k) [] ⟨by simp[fresh,aJ,aF,ck,inObs,Pv.look,LJ],ee (by simp[fresh,aJ,aF,ck,inObs,Pv.look,LJ]),ef (by simp[fresh,aJ,aF,dV,inObs,Pv.look,LJ]),by simp⟩ (fun v=>by simp[tg]) (fun l af _=>?_) (fun i l hi af _=>?_);rotate_left
   ·obtain⟨x,ab,cD⟩:=dP hi;by_cases ar:x.k=3
    ·have au:=af.put ab ar;clear af ab;exact gI
    ·have au:=af.skip ab ar;have sQ:(x.k==3)=false:=by simp[ar]
     clear af ab;exact gI
   have hints:=af.fin vV;clear af;simp;(with_reducible repeat' first|refine aj ?_|simp);refine hH (fun i (a:List bj)=>⟨[(1,.ptr (.loc 0) 0),(2,.ptr (.loc 1) 0),(4,.slice 2 .no (k.map bJ.e)),(8,.gmap (.loc 2)),(11,.slice 2 (.own (.loc 3)) (a.map bj.e)),(63,.slice 2 .no (m.map bj.e)),(64,.int .i64 m.length),(65,.int .i64 i)],[(.loc 0,[.int .i64 n,.slice 5 .no (b.map ao.e),.slice 1 .no (d.map cC),.slice 2 .no (fo.map bJ.e),.slice 2 .no (m0.map bj.e)]),(.loc 1,[.int .i64 0,.slice 5 .nil [],.slice 1 .nil [],.slice 2 .nil [],.slice 2 .nil []]),(.loc 2,qh l)],[(.loc 3,⟨a.length,100,2,none⟩)],4,[]⟩) m.length (tc k m) [] bW (by simp[tc]) (fun a af _=>?_) (fun i a hi af _=>?_);rotate_left
   ·obtain⟨x,ab,cD⟩:=dP hi;have rL:a.length≤68719470000:=by
     have:a.length≤(m.take i).length:=by rw[af];exact List.length_filter_le _ _
     simp at this;omega
    have au:=af.step ab;have bh:=hints x;cases aI:kK k x
    ·rw[aI]at au bh;simp only[hb,if_false,Bool.not_false]at au bh;clear af ab aI;simp[hi,cD];((with_reducible repeat' first|refine aj ?_|simp[hi,cD,bh]|((first|apply bK|apply bM|apply bL)<;>intro h<;>try simp at h))<;>(try exact cc));all_goals exact bT.rng a hi au bW
    ·rw[aI]at au bh;simp only[if_true,Bool.not_true]at au bh;clear af ab aI;simp[hi,cD];((with_reducible repeat' first|refine aj ?_|simp[hi,cD,bh]|((first|apply bK|apply bM|apply bL)<;>intro h<;>try simp at h))<;>(try exact cc));all_goals first|(refine⟨by unfold lim;omega,?_⟩)|skip
     all_goals(with_reducible repeat' first|refine aj ?_|simp)
     all_goals exact bT.rng (a++[x]) hi au ⟨by simp[fresh,aJ,aF,ck,inObs,Pv.look,Am],ee (by simp[fresh,aJ,aF,ck,inObs,Pv.look,Am]),ef (by simp[fresh,aJ,aF,dV,inObs,Pv.look,Am]),by simp⟩
   rw[tc,mn]at af;rw[←af]at zR zL af5 du;clear af hints iJ xX xP;simp;(with_reducible repeat' first|refine aj ?_|simp);refine hH (fun i (L:List (List ao))=>⟨[(1,.ptr (.loc 0) 0),(2,.ptr (.loc 1) 0),(4,.slice 2 .no (k.map bJ.e)),(11,.slice 2 (.own (.loc 3)) (a.map bj.e)),(14,.slice 1 (.own (.loc 4)) (L.map cC)),(81,.slice 1 .no (d.map cC)),(82,.int .i64 d.length),(83,.int .i64 i)],[(.loc 0,[.int .i64 n,.slice 5 .no (b.map ao.e),.slice 1 .no (d.map cC),.slice 2 .no (fo.map bJ.e),.slice 2 .no (m0.map bj.e)]),(.loc 1,[.int .i64 0,.slice 5 .nil [],.slice 1 .nil [],.slice 2 .nil [],.slice 2 .nil []])],[(.loc 3,⟨a.length,100,2,none⟩),(.loc 4,⟨L.length,46,1,none⟩)],5,[]⟩) d.length (qb b k a d) [] bW ⟨by simp,by simp,by simp⟩ (fun L af _=>?_) (fun i L hi af _=>?_)
   ·have jL:=af.fin;have vO:=af.2.1;rw[jL]at du;simp only at du;have nx:=anq L vO;have kF:bt al 168 [.slice 5 .no (b.map ao.e)] (.slice 5 .no (b.map ao.e)):=D7 b fs;clear af jL vO;generalize k1 L=M at nx du;by_cases lC:M.length≤30
    ·have oE:¬(30:Int)<M.length:=by omega
     rw[if_pos lC]at du;subst du;simp;(with_reducible repeat' first|refine aj ?_|refine aD nx ?_|refine aE nx ?_|refine aD kF ?_|refine aE kF ?_|simp[lC,oE]);all_goals simp[bu,AW,aY,aZ,aW]
     all_goals simp[e3,bS.e]
    ·have oE:(30:Int)<M.length:=by omega
     rw[if_neg lC]at du;subst du;simp;(with_reducible repeat' first|refine aj ?_|refine aD nx ?_|refine aE nx ?_|refine aD kF ?_|refine aE kF ?_|simp[lC,oE]);all_goals simp[bu,AW,aY,aZ,aW]
     all_goals simp[e3,gd,bS.e]
   ·obtain⟨x,ab,cD⟩:=dP hi;have hY:=aR x (dZ ab);have S0:=af.1;have h0:bt al 165 [.slice 5 .no (b.map ao.e),cC x] (fc (mgu b (hG x))):=anm ae hY;simp only[fc]at h0;cases hu:mgu b (hG x)with
    |none=>have au:=af.skip ab fun r=>LC hu;rw[hu]at h0;simp only[hO,ht]at h0;clear af ab du;exact gI
    |some y=>
     have jj:=ae.mgu (BT hY) hu;rw[hu]at h0;simp only[h5,kS]at h0;have c1:=Yq jj vV;have dN:=Yr jj zR hg zL;have h1:=Yp ae jj;simp only[fP]at c1;simp only[h3]at dN;by_cases jM:gk y k []=none∨gl y a []=none
     ·have au:=af.skip ab fun r=>LB hu jM;clear af ab du hu;rcases jM with e|e
      ·rw[e]at c1;simp only[hO,ht]at c1;exact gI
      ·rw[e]at dN;simp only[hO,ht]at dN;cases (gk y k []).isSome
       ·simp[hi,cD];((with_reducible repeat' first|refine aj ?_|refine aD h0 ?_|refine aE h0 ?_|refine aD c1 ?_|refine aE c1 ?_|refine aD dN ?_|refine aE dN ?_|simp[hi,cD]|((first|apply bK|apply bM|apply bL)<;>intro h<;>try simp at h))<;>(try exact cc));all_goals exact bT.rng L hi au bW
       ·simp[hi,cD];((with_reducible repeat' first|refine aj ?_|refine aD h0 ?_|refine aE h0 ?_|refine aD c1 ?_|refine aE c1 ?_|refine aD dN ?_|refine aE dN ?_|simp[hi,cD]|((first|apply bK|apply bM|apply bL)<;>intro h<;>try simp at h))<;>(try exact cc));all_goals exact bT.rng L hi au bW
     ·have ak:(gk y k []).isSome=true:=by cases e:gk y k []with|none=>exact absurd (.inl e) jM|some _=>rfl
      have aC:(gl y a []).isSome=true:=by cases e:gl y a []with|none=>exact absurd (.inr e) jM|some _=>rfl
      rw[ak]at c1;rw[aC]at dN;by_cases cH:eM b y=[]
      ·have ag:=af.stop ab fun r=>LA hu jM cH;rw[ag]at du;simp only at du;subst du;rw[cH]at h1;simp only[mU]at h1;clear af ab hu jM;simp[hi,cD];((with_reducible repeat' first|refine aj ?_|refine aD h0 ?_|refine aE h0 ?_|refine aD c1 ?_|refine aE c1 ?_|refine aD dN ?_|refine aE dN ?_|refine aD h1 ?_|refine aE h1 ?_|simp[hi,cD]|((first|apply bK|apply bM|apply bL)<;>intro h<;>try simp at h))<;>(try exact cc));all_goals simp[bu,AW,aY,aZ,aW]
       all_goals simp[e3,gd,bS.e]
      ·have au:=af.snoc ab (Dg (b:=b) jj) fun r=>LD hu jM cH;have vX:¬((eM b y).length:Int)=0:=by have:(eM b y).length≠0:=fun h=>cH (List.length_eq_zero_iff.1 h);omega
       have vY:(((eM b y).length:Int)==0)=false:=by simp[cH]
       have Gs:bt al 166 [.slice 5 .no (b.map ao.e),.slice 5 .no (y.map ao.e)] (cC (eM b y)):=h1;clear af ab hu jM du h1;generalize eM b y=z at Gs au vX vY cH;simp only[cC]at Gs;simp[hi,cD];(with_reducible repeat' first|refine aj ?_|refine aD h0 ?_|refine aE h0 ?_|refine aD c1 ?_|refine aE c1 ?_|refine aD dN ?_|refine aE dN ?_|refine aD Gs ?_|refine aE Gs ?_|simp[hi,cD,vX,vY,cH]);all_goals first|(refine⟨by unfold lim;omega,?_⟩)|skip
       all_goals(with_reducible repeat' first|refine aj ?_|simp)
       all_goals exact bT.rng (L++[z]) hi au ⟨by simp[fresh,aJ,aF,ck,inObs,Pv.look,tf,cC],ee (by simp[fresh,aJ,aF,ck,inObs,Pv.look,tf,cC]),ef (by simp[fresh,aJ,aF,dV,inObs,Pv.look,tf,cC]),by simp⟩
@[simp] theorem ao8(neg:Bool)(x y:bJ):iF neg (some [false,false]) x.e y.e=some (True,.bool (if neg then !decide (x=y)else decide (x=y))):=by
 have h:(x.v==y.v&&(x.k==y.k&&true))=decide (x=y):=by rw[qu];simp only[Bool.and_true,cE,dS,fK];cases x;cases y;simp
 rw[←h];rfl
@[simp] theorem ao9(neg:Bool)(x y:bj):iF neg (some [false,true]) x.e y.e=some (True,.bool (if neg then !decide (x=y)else decide (x=y))):=by
 have h:(x.v==y.v&&(x.s==y.s&&true))=decide (x=y):=by rw[qu];simp only[Bool.and_true,cE,dS,fK];cases x;cases y;simp
 rw[←h];rfl
theorem anH(x y:List ao)(h:x.length≤1000000):bt al 169 [cC x,cC y] (.bool (decide (x=y))):=N2 x y h
set_option maxRecDepth 4000 in
theorem Oe(a c:bS)(nn:a.b.length≤1000000)(Ch:∀x∈a.d,x.length≤1000000):bt al 91 [a.e,c.e] (.bool (decide (a=c))):=by
 obtain⟨n,b,d,k,m⟩:=a;obtain⟨n',bP,ca,bH,gz⟩:=c;simp only at nn Ch;generalize bg:decide ((⟨n,b,d,k,m⟩:bS)=⟨n',bP,ca,bH,gz⟩)=R;simp only[bS.mk.injEq,bS.e]at bg⊢;by_cases a7:n=n';rotate_left
 ·have ga:R=false:=by rw[←bg];simp[a7]
  have tA:(n !=n')=true:=by simp[a7]
  rw[ga];clear bg ga;refine bc oc zr AL fun aN=>?_;unfold xr;exact bO
 subst a7;have eR:=N2 b bP nn;by_cases bF:b=bP;rotate_left
 ·have ga:R=false:=by rw[←bg];simp[bF]
  rw[h6 bF]at eR;rw[ga];clear bg ga;refine bc oc zr AL fun aN=>?_;unfold xr;exact bO
 subst bF;rw[gU rfl]at eR;by_cases b0:d.length=ca.length;rotate_left
 ·have ga:R=false:=by rw[←bg];simp only[hR];rintro⟨_,_,rfl,_⟩;exact b0 rfl
  have sf:((d.length:Int) !=ca.length)=true:=by simp;omega
  rw[ga];clear bg ga;refine bc oc zr AL fun aN=>?_;unfold xr;exact bO
 by_cases cZ:k.length=bH.length;rotate_left
 ·have ga:R=false:=by rw[←bg];simp only[hR];rintro⟨_,_,_,rfl,_⟩;exact cZ rfl
  have akO:((k.length:Int) !=bH.length)=true:=by simp;omega
  rw[ga];clear bg ga;refine bc oc zr AL fun aN=>?_;unfold xr;exact bO
 by_cases df:m.length=gz.length;rotate_left
 ·have ga:R=false:=by rw[←bg];simp only[hR];rintro⟨_,_,_,_,rfl⟩;exact df rfl
  have akP:((m.length:Int) !=gz.length)=true:=by simp;omega
  rw[ga];clear bg ga;refine bc oc zr AL fun aN=>?_;unfold xr;exact bO
 have x0:d≠ca→R=false:=fun h=>by rw[←bg];simp[h]
 have x1:k≠bH→R=false:=fun h=>by rw[←bg];simp[h]
 have KL:m≠gz→R=false:=fun h=>by rw[←bg];simp[h]
 refine bc oc zr AL fun aN=>?_;unfold xr;have afW:ca.length≤68719476736:=by simp[ey,ea,en,lim]at aN;omega
 have afX:bH.length≤68719476736:=by simp[ey,ea,en,lim]at aN;omega
 have afY:gz.length≤68719476736:=by simp[ey,ea,en,lim]at aN;omega
 clear aN;simp;(with_reducible repeat' first|refine aj ?_|refine aD eR ?_|refine aE eR ?_|simp[b0,cZ,df]);have dt:=x0;refine dR [2,3,50] (fun i (_:Unit)=>[(51,.int .i64 i)]) ca.length (rs d ca) () bW (fun k ad=>by omega) (fun _ af _=>?_) (fun i _ hi af _=>?_);rotate_left
 ·obtain⟨x,ab⟩:∃x,d[i]? =some x:=⟨_,cl (by omega)⟩;obtain⟨y,aG⟩:∃y,ca[i]? =some y:=⟨_,cl hi⟩;have gq:i<d.length:=by omega
  have cD:∀h,(d[i]'h)=x:=fun h=>by rw[cl gq]at ab;exact fq ab
  have eW:∀h,(ca[i]'h)=y:=fun h=>by rw[cl hi]at aG;exact fq aG
  have eR:=anH x y (Ch x (dZ ab));by_cases q:x=y
  ·subst q;have au:=af.step ab aG;rw[gU rfl]at eR;clear af ab aG;simp[hi,gq,cD,eW,-iF];(with_reducible repeat' first|refine aj ?_|refine aD eR ?_|refine aE eR ?_|simp[cD,eW,hi,gq,-iF]);all_goals exact bT.rng () hi au bW
  ·rw[dt (fun h=>q (by rw[h]at ab;rw[ab]at aG;exact fq aG))];rw[h6 q]at eR;clear af ab aG;simp[hi,gq,cD,eW,-iF];(with_reducible repeat' first|refine aj ?_|refine aD eR ?_|refine aE eR ?_|simp[cD,eW,hi,gq,q,-iF]);all_goals simp[bu,Hl,aY,aZ,aW]
 have dG:=af.fin b0;subst dG;clear af dt x0 b0;simp;(with_reducible repeat' first|refine aj ?_|simp[cZ]);have dt:=x1;refine dR [2,3,69] (fun i (_:Unit)=>[(70,.int .i64 i)]) bH.length (rs k bH) () bW (fun k ad=>by omega) (fun _ af _=>?_) (fun i _ hi af _=>?_);rotate_left
 ·obtain⟨x,ab⟩:∃x,k[i]? =some x:=⟨_,cl (by omega)⟩;obtain⟨y,aG⟩:∃y,bH[i]? =some y:=⟨_,cl hi⟩;have gq:i<k.length:=by omega
  have cD:∀h,(k[i]'h)=x:=fun h=>by rw[cl gq]at ab;exact fq ab
  have eW:∀h,(bH[i]'h)=y:=fun h=>by rw[cl hi]at aG;exact fq aG
  have eR:=True.intro;by_cases q:x=y
  ·subst q;have au:=af.step ab aG;skip;clear af ab aG;simp[hi,gq,cD,eW,-iF];(with_reducible repeat' first|refine aj ?_|refine aD eR ?_|refine aE eR ?_|simp[cD,eW,hi,gq,-iF]);all_goals exact bT.rng () hi au bW
  ·rw[dt (fun h=>q (by rw[h]at ab;rw[ab]at aG;exact fq aG))];skip;clear af ab aG;simp[hi,gq,cD,eW,-iF];(with_reducible repeat' first|refine aj ?_|refine aD eR ?_|refine aE eR ?_|simp[cD,eW,hi,gq,q,-iF]);all_goals simp[bu,Hl,aY,aZ,aW]
 have dG:=af.fin cZ;subst dG;clear af dt x1 cZ;simp;(with_reducible repeat' first|refine aj ?_|simp[df]);have dt:=KL;refine dR [2,3,87] (fun i (_:Unit)=>[(88,.int .i64 i)]) gz.length (rs m gz) () bW (fun k ad=>by omega) (fun _ af _=>?_) (fun i _ hi af _=>?_);rotate_left
 ·obtain⟨x,ab⟩:∃x,m[i]? =some x:=⟨_,cl (by omega)⟩;obtain⟨y,aG⟩:∃y,gz[i]? =some y:=⟨_,cl hi⟩;have gq:i<m.length:=by omega
  have cD:∀h,(m[i]'h)=x:=fun h=>by rw[cl gq]at ab;exact fq ab
  have eW:∀h,(gz[i]'h)=y:=fun h=>by rw[cl hi]at aG;exact fq aG
  have eR:=True.intro;by_cases q:x=y
  ·subst q;have au:=af.step ab aG;skip;clear af ab aG;simp[hi,gq,cD,eW,-iF];(with_reducible repeat' first|refine aj ?_|refine aD eR ?_|refine aE eR ?_|simp[cD,eW,hi,gq,-iF]);all_goals exact bT.rng () hi au bW
  ·rw[dt (fun h=>q (by rw[h]at ab;rw[ab]at aG;exact fq aG))];skip;clear af ab aG;simp[hi,gq,cD,eW,-iF];(with_reducible repeat' first|refine aj ?_|refine aD eR ?_|refine aE eR ?_|simp[cD,eW,hi,gq,q,-iF]);all_goals simp[bu,Hl,aY,aZ,aW]
 have dG:=af.fin df;subst dG;have ga:R=true:=by rw[←bg];simp
 rw[ga];exact bO
def eQ.e(r:eQ):ah:= .agg [.int .i64 r.n,.slice 5 .no (r.b.map c3.e),.slice 1 .no (r.d.map gh),.slice 2 .no (r.k.map bJ.e),.slice 2 .no (r.m.map bj.e)]
theorem nH(s:bS):s.r.e=s.e:=by simp only[bS.r,eQ.e,bS.e,yk,Jr]
@[simp] theorem arA(S:aH→Prop)(r:eQ):aF S r.e=True:=by simp[eQ.e,aF,aJ]
theorem anu(x:List c3):bt al 86 [gh x] (.bool (gL x)):=N0 x
open Classical in
set_option maxRecDepth 4000 in
theorem D6(r:eQ)(ec:gA r.m→fX r.m):bt al 29 [r.e] (.bool (decide (gK r))):=by
 generalize bg:decide (gK r)=R;have dt:¬M4 r→R=false:=fun h=>by rw[←bg,hR];exact fun cx=>h cx.raw
 obtain⟨n,b,d,k,m⟩:=r;simp only[eQ.e]at ec⊢;by_cases g1:n<0
 ·rw[dt fun h=>by have:=h.n.1;simp only at this;omega];refine bc oc xu yp fun aN=>?_;unfold vz;exact bO
 by_cases g2:100000<n
 ·rw[dt fun h=>by have:=h.n.2;simp only at this;omega];refine bc oc xu yp fun aN=>?_;unfold vz;exact bO
 have fO:bt al 86 [.slice 5 .no (b.map c3.e)] (.bool (gL b)):=N0 b;cases g3:gL b
 ·rw[dt fun h=>by obtain⟨s,ak,aC,_⟩:=h.b;have:=re.2 (wX.2 ⟨s,ak,aC⟩);simp only at this;rw[g3]at this;cases this]
  rw[g3]at fO;refine bc oc xu yp fun aN=>?_;unfold vz;exact bO
 rw[g3]at fO;obtain⟨s,rfl,ag⟩:=wX.1 (re.1 g3);clear g3;rw[yk]at fO⊢;have c1:=Yl k;by_cases g4:jl k;rotate_left
 ·rw[dt fun h=>g4 h.k];rw[h6 g4]at c1;refine bc oc xu yp fun aN=>?_;unfold vz;exact bO
 rw[gU g4]at c1;have dN:=Yn m;by_cases g5:gA m;rotate_left
 ·rw[dt fun h=>g5 h.m];rw[h6 g5]at dN;refine bc oc xu yp fun aN=>?_;unfold vz;exact bO
 rw[gU g5]at dN;have lj:=Yu ag (n:=n) (by omega);cases g6:s.all (kV n)
 ·rw[dt fun h=>by obtain⟨ai,ak,_,bk⟩:=h.b;have dg:=vu ak;subst dg;rw[vw.2 bk]at g6;cases g6]
  rw[g6]at lj;refine bc oc xu yp fun aN=>?_;unfold vz;exact bO
 rw[g6]at lj;have cT:=vw.1 g6;clear g6;have Cy:=ec g5;have lI:=Cy.len g5;refine bc oc xu yp fun aN=>?_;unfold vz;have Ks:d.length≤68719476736:=by simp[ey,ea,en,lim]at aN;omega
 have iJ:=nZ g4;clear aN ec;simp;(with_reducible repeat' first|refine aj ?_|refine aD fO ?_|refine aE fO ?_|refine aD c1 ?_|refine aE c1 ?_|refine aD dN ?_|refine aE dN ?_|refine aD lj ?_|refine aE lj ?_|simp[g1,g2]);refine dR [1,46,47] (fun i (_:Unit)=>[(48,.int .i64 i)]) d.length (r4 (ki n) d) () bW (fun k b ad=>by omega) (fun _ af _=>?_) (fun i _ hi af _=>?_);rotate_left
 ·obtain⟨x,ab,cD⟩:=dP hi;have CQ:=dZ ab;have c2:=anu x;cases mA:gL x
  ·rw[dt fun h=>by obtain⟨ai,ak,aC,_⟩:=h.d x CQ;rw[re.2 (wX.2 ⟨ai,ak,aC⟩)]at mA;cases mA]
   rw[mA]at c2;clear af ab CQ;exact bO
  ·rw[mA]at c2;obtain⟨y,rfl,aG⟩:=wX.1 (re.1 mA);clear mA;rw[Jq]at c2;have mJ:bt al 89 [cC y,.int .i64 n] (.bool (y.all (kV n))):=Yu aG (n:=n) (by omega);have aqx:∀h,gh (d[i]'h)=cC y:=fun h=>by rw[cD h,Jq]
   cases rF:y.all (kV n)
   ·rw[dt fun h=>by obtain⟨ai,ak,_,bk⟩:=h.d _ CQ;have dg:=vu ak;subst dg;rw[vw.2 bk]at rF;cases rF]
    rw[rF]at mJ;clear af ab CQ cD;exact bO
   ·rw[rF]at mJ;have au:=af.step ab ⟨y,rfl,aG,vw.1 rF⟩;clear af ab CQ cD;exact gI
 obtain⟨D,rfl,uz,Kf⟩:=RC af.fin;clear af;simp only[Jr];simp;(with_reducible repeat' first|refine aj ?_|simp);refine dR [1,64,65] (fun i (_:Unit)=>[(66,.int .i64 i)]) k.length (r4 (fun x=>x.v<n) k) () bW (fun k b ad=>by omega) (fun _ af _=>?_) (fun i _ hi af _=>?_);rotate_left
 ·obtain⟨x,ab,cD⟩:=dP hi;by_cases mA:x.v<n
  ·have xE:¬n≤x.v:=by omega
   have au:=af.step ab mA;clear af ab;exact gI
  ·have xE:n≤x.v:=by omega
   rw[dt fun h=>mA (h.kb x (dZ ab))];clear af ab;exact bO
 have xQ:=af.fin;clear af;simp;(with_reducible repeat' first|refine aj ?_|simp);have xR:=xQ;refine dR [1,77,78] (fun i (_:Unit)=>[(79,.int .i64 i)]) m.length (r4 (fun x=>x.v<n) m) () bW (fun k b ad=>by omega) (fun _ af _=>?_) (fun i _ hi af _=>?_);rotate_left
 ·obtain⟨x,ab,cD⟩:=dP hi;by_cases mA:x.v<n
  ·have xE:¬n≤x.v:=by omega
   have au:=af.step ab mA;clear af ab;exact gI
  ·have xE:n≤x.v:=by omega
   rw[dt fun h=>mA (h.mb x (dZ ab))];clear af ab;exact bO
 have xQ:=af.fin;clear af;simp;(with_reducible repeat' first|refine aj ?_|simp);have l9:=xQ;have cY:ix ⟨n,s,D,k,m⟩:=⟨by simp only;omega,ag,uz,g4,g5,cT,Kf,xR,l9⟩;have uG:=XN cY;obtain⟨G,hg,aX⟩:=Cy;have dO:=Bn cY hg aX;have lg:gK ⟨n,s.map ao.b,D.map fun x=>x.map ao.b,k,m⟩↔gJ ⟨n,s,D,k,m⟩=some ⟨n,s,D,k,m⟩:=uG;clear uG dt;simp only[e3]at dO;cases lM:gJ ⟨n,s,D,k,m⟩with
 |none=>
  rw[lM]at dO lg;have ga:R=false:=by rw[←bg,hR,lg];simp
  rw[ga];simp only[hO,ht,bS.e]at dO;clear bg ga lg;exact bO
 |some t=>
  have Aa:=yK cY lM;rw[lM]at dO lg;have kG:=Oe t ⟨n,s,D,k,m⟩ Aa.1.1.b.len (fun x ab=>(Aa.1.1.d x ab).len);have ga:R=decide (t=⟨n,s,D,k,m⟩):=by rw[←bg,decide_eq_decide,lg];simp
  rw[ga];simp only[h5,kS]at dO;simp only[bS.e]at dO kG;clear bg ga lg Aa;generalize decide (t=(⟨n,s,D,k,m⟩:bS))=Q at kG⊢;obtain⟨iA,kN,kO,iz,tm⟩:=t;simp only at dO kG;exact bO
def vC:C:=(aa [cw 1 0,bd 2 false] (.seq (aa [aB 11 0 1 1,av 12 1 11,c8 13 75 [.t 12,(fI 0),(fI 100000)],cd 14 13,I 15 14,aq 15 false (aB 16 1 1 1),aq 15 false (av 17 1 16),aq 15 false (cA 18 76 17),aq 15 false (cd 19 18),cU 20 15 19,I 21 20,aq 21 false (aB 22 2 1 1),aq 21 false (av 23 1 22),aq 21 false (cA 24 77 23),aq 21 false (cd 25 24),cU 26 21 25,I 27 26,aq 27 false (aB 28 3 1 1),aq 27 false (av 29 1 28),aq 27 false (cA 30 78 29),aq 27 false (cd 31 30),cU 32 27 31,I 33 32,aq 33 false (aB 34 4 1 1),aq 33 false (av 35 1 34),aq 33 false (cA 36 79 35),aq 33 false (cd 37 36),cU 38 33 37,I 39 38,aq 39 false (aB 40 1 1 1),aq 39 false (av 41 1 40),aq 39 false (aB 42 0 1 1),aq 39 false (av 43 1 42),aq 39 false (b8 44 80 41 43),aq 39 false (cd 45 44),cU 46 39 45] (aU 46 (aa [bd 2 false] .ret) .skip)) (.seq (aa [aB 47 2 1 1,av 48 1 47,cg 49 48,bU 50 0] (fp 51 50 49 (.seq (.block 1 (aa [cp 52 1 48 50,av 53 1 52,I 4 53] (aa [I 54 4,aB 55 0 1 1,av 56 1 55,b8 57 80 54 56,cd 58 57] (aU 58 (aa [bd 2 false] .ret) .skip)))) (.region [aV 59 .add 50 1,I 50 59])))) (.seq (aa [aB 60 3 1 1,av 61 1 60,cg 62 61,bU 63 0] (.block 2 (.loop (aa [bn 64 .lss 63 62] (.seq (aU 64 .skip (.exit 2)) (.seq (.block 3 (aa [cp 65 2 61 63,aS 66 2 65,c4 (.alloc 6 none (.agg [.int .i64 0,.int .i64 0])),bz 2 6 66] (aa [aB 67 0 1 6,av 68 1 67,aB 69 0 1 1,av 70 1 69,bn 71 .geq 68 70] (aU 71 (aa [bd 2 false] .ret) .skip)))) (.region [aV 72 .add 63 1,I 63 72]))))))) (.seq (aa [aB 73 4 1 1,av 74 1 73,cg 75 74,bU 76 0] (.block 4 (.loop (aa [bn 77 .lss 76 75] (.seq (aU 77 .skip (.exit 4)) (.seq (.block 5 (aa [cp 78 2 74 76,aS 79 2 78,c4 (.alloc 8 none (.agg [.int .i64 0,.str []])),bz 2 8 79] (aa [aB 80 0 1 8,av 81 1 80,aB 82 0 1 1,av 83 1 82,bn 84 .geq 81 83] (aU 84 (aa [bd 2 false] .ret) .skip)))) (.region [aV 85 .add 76 1,I 76 85]))))))) (aa [aS 87 5 1,cA 88 81 87,I 86 88,cn 89 0 86,cn 90 1 86,cO 9 eF,bz 5 9 89,I 10 90] (aa [I 91 10,I 92 91,aq 92 true (aS 93 5 9),aq 92 true (aS 94 5 1),aq 92 true (b8 95 82 93 94),dD 96 92 95,I 2 96] .ret)))))))
@[simp] def alP:List bB:=[.tmp 2]
def E4:C:=(aa [cw 1 0,cO 2 eF,bd 3 false] (aa [aB 20 1 1 1,av 21 1 20,aB 22 3 1 1,av 23 1 22,b8 24 149 21 23,I 19 24,cn 25 0 19,cn 26 1 19,I 4 25,I 5 26] (aa [aB 28 1 1 1,av 29 1 28,aB 30 4 1 1,av 31 1 30,b8 32 150 29 31,I 27 32,cn 33 0 27,cn 34 1 27,I 6 33,I 7 34] (.seq (aa [I 35 5,cd 36 35,I 37 36,b6 37 false 38 7,aq 37 false (cd 39 38),cU 40 37 39] (aU 40 (aa [ha 41 eF [],bz 5 2 41,bd 3 false] .ret) .skip)) (aa [aB 42 0 1 1,av 43 1 42,aB 44 1 1 1,av 45 1 44,I 46 4,ha 47 eF [(0,1,(.t 43)),(1,1,(.t 45)),(3,1,(.t 46))],cO 8 eF,bz 5 8 47] (.seq (aa [I 48 6,cg 49 48,bU 50 0] (fp 51 50 49 (.seq (.block 1 (aa [cp 52 2 48 50,aS 53 2 52,c4 (.alloc 10 none (.agg [.int .i64 0,.str []])),bz 2 10 53] (aa [I 55 4,aB 56 0 1 10,av 57 1 56,cA 58 114 57,c8 59 151 [.t 55,.t 58,(fI 2)],I 54 59,cn 60 0 54,cn 61 1 54,I 11 60,I 12 61] (aa [I 62 12] (aU 62 (.region [aB 63 4 1 8,av 64 1 63,aS 65 2 10,eb 66 2 100 [.t 65],gR 67 2 100 64 66,aB 68 4 1 8,bz 1 68 67]) .skip))))) (.region [aV 69 .add 50 1,I 50 69])))) (aa [eb 70 1 46 [],I 13 70] (.seq (aa [aB 71 2 1 1,av 72 1 71,cg 73 72,bU 74 0] (.block 2 (.loop (aa [bn 75 .lss 74 73] (.seq (aU 75 .skip (.exit 2)) (.seq (.block 3 (aa [cp 76 1 72 74,av 77 1 76,I 15 77] (aa [aB 79 1 1 1,av 80 1 79,I 81 15,b8 82 152 80 81,I 78 82,cn 83 0 78,cn 84 1 78,I 16 83,I 17 84] (.seq (aa [I 85 17] (aU 85 (aa [I 87 16,aB 88 3 1 8,av 89 1 88,b8 90 149 87 89,I 86 90,cn 91 0 86,cn 92 1 86,I 5 92] (.region [I 94 16,aB 95 4 1 8,av 96 1 95,b8 97 150 94 96,I 93 97,cn 98 0 93,cn 99 1 93,I 7 99])) .skip)) (.seq (aa [I 100 17,cd 101 100,I 102 101,b6 102 false 103 5,aq 102 false (cd 104 103),cU 105 102 104,I 106 105,b6 106 false 107 7,aq 106 false (cd 108 107),cU 109 106 108] (aU 109 (aa [bd 5 true] (aa [bd 7 true] (.exit 3))) .skip)) (aa [aB 110 1 1 1,av 111 1 110,I 112 16,b8 113 153 111 112,I 18 113] (.seq (aa [I 114 18,cg 115 114,aV 116 .eql 115 0] (aU 116 (aa [ha 117 eF [],bz 5 2 117,bd 3 false] .ret) .skip)) (.region [I 118 13,I 119 18,eb 120 1 46 [.t 119],gR 121 1 46 118 120,I 13 121])))))))) (.region [aV 122 .add 74 1,I 74 122]))))))) (aa [I 123 13,cA 124 154 123,aB 125 2 1 8,bz 1 125 124] (.seq (.fz true 8 (.drawn true 131 [b9 126 (.loadZ true 5 (.t 8)),aB 127 2 1 8,b9 128 (.loadZ false 1 (.t 127)),cg 129 128,aV 130 .leq 129 30,bz 5 2 126,I 3 130])) .ret))))))))))
@[simp] def vc:List bB:=[.cell 2 true 5,.tmp 3]
def xt:C:=(aa [cw 2 0,cw 3 1,bd 4 false] (.seq (aa [aB 11 0 1 2,av 12 1 11,aB 13 0 1 3,av 14 1 13,bn 15 .neq 12 14,I 16 15,aq 16 false (aB 17 1 1 2),aq 16 false (av 18 1 17),aq 16 false (aB 19 1 1 3),aq 16 false (av 20 1 19),aq 16 false (b8 21 155 18 20),aq 16 false (aV 22 .neq 21 0),cU 23 16 22,I 24 23,aq 24 false (aB 25 2 1 2),aq 24 false (av 26 1 25),aq 24 false (cg 27 26),aq 24 false (aB 28 2 1 3),aq 24 false (av 29 1 28),aq 24 false (cg 30 29),aq 24 false (bn 31 .neq 27 30),cU 32 24 31,I 33 32,aq 33 false (aB 34 3 1 2),aq 33 false (av 35 1 34),aq 33 false (cg 36 35),aq 33 false (aB 37 3 1 3),aq 33 false (av 38 1 37),aq 33 false (cg 39 38),aq 33 false (bn 40 .neq 36 39),cU 41 33 40,I 42 41,aq 42 false (aB 43 4 1 2),aq 42 false (av 44 1 43),aq 42 false (cg 45 44),aq 42 false (aB 46 4 1 3),aq 42 false (av 47 1 46),aq 42 false (cg 48 47),aq 42 false (bn 49 .neq 45 48),cU 50 42 49] (aU 50 (aa [bd 4 false] .ret) .skip)) (.seq (aa [aB 51 2 1 2,av 52 1 51,cg 53 52,bU 54 0] (fp 55 54 53 (.seq (.block 1 (aa [I 56 54,cp 57 1 52 54,av 58 1 57,I 5 56,I 6 58] (aa [I 59 6,aB 60 2 1 3,av 61 1 60,I 62 5,cp 63 1 61 62,av 64 1 63,b8 65 155 59 64,aV 66 .neq 65 0] (aU 66 (aa [bd 4 false] .ret) .skip)))) (.region [aV 67 .add 54 1,I 54 67])))) (.seq (aa [aB 68 3 1 2,av 69 1 68,cg 70 69,bU 71 0] (.block 2 (.loop (aa [bn 72 .lss 71 70] (.seq (aU 72 .skip (.exit 2)) (.seq (.block 3 (aa [I 73 71,cp 74 2 69 71,aS 75 2 74,c4 (.alloc 8 none (.agg [.int .i64 0,.int .i64 0])),I 7 73,bz 2 8 75] (.seq (.drawn true 100 [aS 76 2 8,aB 77 3 1 3,av 78 1 77,I 79 7,cp 80 2 78 79,aS 81 2 80,b9 82 (.beq true (some [false,false]) (.t 76) (.t 81))]) (aU 82 (aa [bd 4 false] .ret) .skip)))) (.region [aV 83 .add 71 1,I 71 83]))))))) (.seq (aa [aB 84 4 1 2,av 85 1 84,cg 86 85,bU 87 0] (.block 4 (.loop (aa [bn 88 .lss 87 86] (.seq (aU 88 .skip (.exit 4)) (.seq (.block 5 (aa [I 89 87,cp 90 2 85 87,aS 91 2 90,c4 (.alloc 10 none (.agg [.int .i64 0,.str []])),I 9 89,bz 2 10 91] (.seq (.drawn true 100 [aS 92 2 10,aB 93 4 1 3,av 94 1 93,I 95 9,cp 96 2 94 95,aS 97 2 96,b9 98 (.beq true (some [false,true]) (.t 92) (.t 97))]) (aU 98 (aa [bd 4 false] .ret) .skip)))) (.region [aV 99 .add 87 1,I 87 99]))))))) (aa [bd 4 true] .ret))))))
@[simp] def Hr:List bB:=[.tmp 4]
def H4:List (Nat×dI):=[
 (3,⟨1,8,.int .i64,.int .i64 0⟩),
 (9,⟨1,16,.str,.str []⟩),
 (46,⟨1,24,.slice 113,.slice 5 .nil []⟩),
 (47,⟨1,24,.slice 46,.slice 1 .nil []⟩),
 (48,⟨1,24,.slice 98,.slice 2 .nil []⟩),
 (49,⟨1,24,.slice 100,.slice 2 .nil []⟩),
 (51,⟨5,104,.struct [(0,3),(1,46),(2,47),(3,48),(4,49)],.agg [.int .i64 0,.slice 5 .nil [],.slice 1 .nil [],.slice 2 .nil [],.slice 2 .nil []]⟩),
 (98,⟨2,16,.struct [(0,3),(1,3)],.agg [.int .i64 0,.int .i64 0]⟩),
 (100,⟨2,24,.struct [(0,3),(1,9)],.agg [.int .i64 0,.str []]⟩)]
theorem od:fU al H4=true:=by kernel_rfl
theorem yt:bY H4 vC alP 1 Tryz.f27=true:=by kernel_rfl
theorem xx:al.funcs[(27:Nat)]? =some Tryz.f27:=Tryz.func27
theorem Mt:bY H4 E4 vc 1 Tryz.f81=true:=by kernel_rfl
theorem JW:al.funcs[(81:Nat)]? =some Tryz.f81:=Tryz.func81
theorem AM:bY H4 xt Hr 2 Tryz.f82=true:=by kernel_rfl
theorem zs:al.funcs[(82:Nat)]? =some Tryz.f82:=Tryz.func82
noncomputable def n5(s:bS):ah:= .tuple [(sk s).e,.bool (gJ s).isSome]
@[simp] theorem arv(S:aH→Prop)(s:bS):aF S (n5 s)=True:=by simp[n5,aF,aJ]
theorem anY{k:List bJ}(ad:jl k)(v:Int):bt al 151 [.slice 2 .no (k.map bJ.e),(T.var v).e,.int .i64 2] (nF k (iV k (.var v) 2)):=N8 k (by have:=nZ ad;omega) ad.asc (.var v) 2
theorem N4{b y:List ao}(ae:eE b)(aG:eE y):bt al 153 [.slice 5 .no (b.map ao.e),.slice 5 .no (y.map ao.e)] (cC (eM b y)):=anT ae aG
theorem YG{b x:List ao}(ae:eE b)(ab:eE x):bt al 152 [.slice 5 .no (b.map ao.e),cC x] (fc (mgu b (hG x))):=anS b x ae.sol ae.fits ab.len
def LM(a:List bj):ah:=match a with
 |[]=>.slice 2 .nil []
 |_::_=>.slice 2 (.own (.loc 5)) (a.map bj.e)
def LL(a:List bj):List (aH×fL):=match a with
 |[]=>[]
 |_::_=>[(.loc 5,⟨a.length,100,2,none⟩)]
def LK(a:List bj):Nat:=match a with
 |[]=>3
 |_::_=>6
@[simp] theorem arT:LM []= .slice 2 .nil []:=rfl
@[simp] theorem arS(x:bj)(a:List bj):LM (x::a)= .slice 2 (.own (.loc 5)) (x.e::a.map bj.e):=rfl
@[simp] theorem arR:LL []=[]:=rfl
@[simp] theorem arQ(x:bj)(a:List bj):LL (x::a)=[(.loc 5,⟨a.length+1,100,2,none⟩)]:=rfl
@[simp] theorem arP:LK []=3:=rfl
@[simp] theorem arO(x:bj)(a:List bj):LK (x::a)=6:=rfl
set_option maxRecDepth 4000 in
theorem Bl{s:bS}(h:ix s){G:List (List dm)}(hg:G.length≤687000)(aX:nI G s.m):bt al 81 [s.e] (n5 s):=by
 unfold n5;generalize du:gJ s=O;generalize dk:sk s=SS;have kH:=N9 h.b h.k;have kI:=Oa h.b h.m hg aX;have jA:=fun k=>Hu (acc:=[]) (a:=k) h.b h.k.at' ⟨by simp,by simp⟩;have ql:=fun m=>Hv (acc:=[]) (a:=m) h.b h.m.at' ⟨by simp,by simp[hS]⟩;have nj:=fun m=>Hw (acc:=[]) (a:=m) (s:=s.b) aX (fun x ab=>by simp at ab);have ae:=h.b;have aR:=h.d;clear h aX;unfold gJ at du;unfold sk at dk;obtain⟨n,b,d,fo,m0⟩:=s;simp only at kH kI jA ql nj ae aR du dk;have fs:=ae.len;simp only[bS.e];generalize gk b fo []=ok at kH du dk jA;generalize gl b m0 []=om at kI du dk ql nj;cases ok with
 |none=>
  simp only at du dk;subst du;subst dk;simp only[fP]at kH;simp only[h3]at kI;clear jA ql nj;refine bc od JW Mt fun aN=>?_;unfold E4;simp;(with_reducible repeat' first|refine aj ?_|refine aD kH ?_|refine aE kH ?_|refine aD kI ?_|refine aE kI ?_|simp);all_goals simp[bu,vc,aY,aZ,aW]
  all_goals simp[gd,bS.e]
 |some k=>
  simp only at du dk;cases om with
  |none=>
   simp only at du dk;subst du;subst dk;simp only[fP]at kH;simp only[h3]at kI;clear jA ql nj;refine bc od JW Mt fun aN=>?_;unfold E4;simp;(with_reducible repeat' first|refine aj ?_|refine aD kH ?_|refine aE kH ?_|refine aD kI ?_|refine aE kI ?_|simp);all_goals simp[bu,vc,aY,aZ,aW]
   all_goals simp[gd,bS.e]
  |some m=>
   simp only at du dk;have vV:=jA k rfl;have xX:=ql m rfl;have xP:=nj m rfl;have lI:m.length≤68719470000:=by have:=C9 xX xP;omega
   have zR:=Vh (k:=k) xX;have zL:=NR (k:=k) xP;simp only[fP,h5,kS]at kH;simp only[h3,h5,kS]at kI;clear jA ql nj;refine bc od JW Mt fun aN=>?_;unfold E4;have Ks:d.length≤68719476736:=by simp[ey,ea,en,lim]at aN;omega
   clear aN;simp;(with_reducible repeat' first|refine aj ?_|refine aD kH ?_|refine aE kH ?_|refine aD kI ?_|refine aE kI ?_|simp);refine hH (fun i (a:List bj)=>⟨[(1,.ptr (.loc 0) 0),(2,.ptr (.loc 1) 0),(4,.slice 2 .no (k.map bJ.e)),(8,.ptr (.loc 2) 0),(48,.slice 2 .no (m.map bj.e)),(49,.int .i64 m.length),(50,.int .i64 i)],[(.loc 0,[.int .i64 n,.slice 5 .no (b.map ao.e),.slice 1 .no (d.map cC),.slice 2 .no (fo.map bJ.e),.slice 2 .no (m0.map bj.e)]),(.loc 1,[.int .i64 0,.slice 5 .nil [],.slice 1 .nil [],.slice 2 .nil [],.slice 2 .nil []]),(.loc 2,[.int .i64 n,.slice 5 .no (b.map ao.e),.slice 1 .nil [],.slice 2 .no (k.map bJ.e),LM a])],LL a,LK a,[]⟩) m.length (tc k m) [] bW (by simp[tc]) (fun a af _=>?_) (fun i a hi af _=>?_);rotate_left
   ·obtain⟨x,ab,cD⟩:=dP hi;have rL:a.length≤68719470000:=by
     have:a.length≤(m.take i).length:=by rw[af];exact List.length_filter_le _ _
     simp at this;omega
    have au:=af.step ab;have mJ:=anY vV x.v;have bh:(iV k (.var x.v) 2).isSome=kK k x:=ZA vV x.v;simp only[nF,bh]at mJ;clear bh;generalize (iV k (.var x.v) 2).getD k=kz at mJ;cases aI:kK k x
    ·rw[aI]at au mJ;simp only[hb,if_false]at au;clear af ab aI;cases a with
     |nil=>simp[hi,cD];(with_reducible repeat' first|refine aj ?_|refine aD (js _) ?_|refine aE (js _) ?_|refine aD mJ ?_|refine aE mJ ?_|simp[hi,cD]);all_goals exact bT.rng [] hi au bW
     |cons y ys=>simp[hi,cD];(with_reducible repeat' first|refine aj ?_|refine aD (js _) ?_|refine aE (js _) ?_|refine aD mJ ?_|refine aE mJ ?_|simp[hi,cD]);all_goals exact bT.rng (y::ys) hi au bW
    ·rw[aI]at au mJ;simp only[if_true]at au;clear af ab aI;cases a with
     |nil=>
      simp[hi,cD];(with_reducible repeat' first|refine aj ?_|refine aD (js _) ?_|refine aE (js _) ?_|refine aD mJ ?_|refine aE mJ ?_|simp[hi,cD]);all_goals first|(refine⟨by unfold lim;omega,?_⟩)|skip
      all_goals(with_reducible repeat' first|refine aj ?_|simp)
      all_goals exact bT.rng [x] hi au bW
     |cons y ys=>
      simp only[pT]at rL;simp[hi,cD];(with_reducible repeat' first|refine aj ?_|refine aD (js _) ?_|refine aE (js _) ?_|refine aD mJ ?_|refine aE mJ ?_|simp[hi,cD]);all_goals first|(refine⟨by unfold lim;omega,?_⟩)|skip
      all_goals(with_reducible repeat' first|refine aj ?_|simp)
      all_goals exact bT.rng (y::ys++[x]) hi au ⟨by simp[fresh,aJ,aF,ck,inObs,Pv.look,Am],ee (by simp[fresh,aJ,aF,ck,inObs,Pv.look,Am]),ef (by simp[fresh,aJ,aF,dV,inObs,Pv.look,Am]),by simp⟩
   rw[tc,mn]at af;rw[←af]at zR zL du dk;clear af xX xP;cases a with
   |nil=>
    simp;(with_reducible repeat' first|refine aj ?_|simp);refine hH (fun i (L:List (List ao))=>⟨[(1,.ptr (.loc 0) 0),(2,.ptr (.loc 1) 0),(8,.ptr (.loc 2) 0),(13,.slice 1 (.own (.loc 3)) (L.map cC)),(72,.slice 1 .no (d.map cC)),(73,.int .i64 d.length),(74,.int .i64 i)],[(.loc 0,[.int .i64 n,.slice 5 .no (b.map ao.e),.slice 1 .no (d.map cC),.slice 2 .no (fo.map bJ.e),.slice 2 .no (m0.map bj.e)]),(.loc 1,[.int .i64 0,.slice 5 .nil [],.slice 1 .nil [],.slice 2 .nil [],.slice 2 .nil []]),(.loc 2,[.int .i64 n,.slice 5 .no (b.map ao.e),.slice 1 .nil [],.slice 2 .no (k.map bJ.e),.slice 2 .nil []])],[(.loc 3,⟨L.length,46,1,none⟩)],3+1,[]⟩) d.length (qb b k [] d) [] bW ⟨by simp,by simp,by simp⟩ (fun L af _=>?_) (fun i L hi af _=>?_)
    ·have jL:=af.fin;have vO:=af.2.1;rw[jL]at du dk;simp only at du dk;have nx:=YH L vO;clear af jL vO;generalize k1 L=M at nx du dk;subst dk;by_cases lC:M.length≤30
     ·have oE:(M.length:Int)≤30:=by omega
      rw[if_pos lC]at du;subst du;simp;(with_reducible repeat' first|refine aj ?_|refine aD nx ?_|refine aE nx ?_|simp[lC,oE]);all_goals simp[bu,vc,aY,aZ,aW]
      all_goals try simp[bS.e,lC,oE]
      all_goals first|exact⟨_,rfl,rfl⟩|skip
     ·have oE:¬(M.length:Int)≤30:=by omega
      rw[if_neg lC]at du;subst du;simp;(with_reducible repeat' first|refine aj ?_|refine aD nx ?_|refine aE nx ?_|simp[lC,oE]);all_goals simp[bu,vc,aY,aZ,aW]
      all_goals try simp[bS.e,lC,oE]
      all_goals first|exact⟨_,rfl,rfl⟩|skip
    ·obtain⟨x,ab,cD⟩:=dP hi;have hY:=aR x (dZ ab);have S0:=af.1;have h0:=YG ae hY;simp only[fc]at h0;cases hu:mgu b (hG x)with
     |none=>have au:=af.skip ab fun r=>LC hu;rw[hu]at h0;simp only[hO,ht]at h0;clear af ab du dk;exact gI
     |some y=>
      have jj:=ae.mgu (BT hY) hu;rw[hu]at h0;simp only[h5,kS]at h0;have c1:=N9 jj vV;have dN:=Oa jj zR hg zL;have h1:=N4 ae jj;simp only[fP]at c1;simp only[h3,mU,gS]at dN;by_cases jM:gk y k []=none∨gl y [] []=none
      ·have au:=af.skip ab fun r=>LB hu jM;clear af ab du dk hu h1;rcases jM with e|e
       ·rw[e]at c1;simp only[hO,ht]at c1;exact gI
       ·rw[e]at dN;simp only[hO,ht]at dN;generalize (gk y k []).isSome=a7 at c1;cases a7
        ·exact gI
        ·exact gI
      ·have ak:(gk y k []).isSome=true:=by cases e:gk y k []with|none=>exact absurd (.inl e) jM|some _=>rfl
       have aC:(gl y [] []).isSome=true:=by cases e:gl y [] []with|none=>exact absurd (.inr e) jM|some _=>rfl
       rw[ak]at c1;rw[aC]at dN;by_cases cH:eM b y=[]
       ·have ag:=af.stop ab fun r=>LA hu jM cH;rw[ag]at du dk;simp only at du dk;subst du;subst dk;rw[cH]at h1;simp only[cC,mU]at h1;clear af ab hu jM;simp[hi,cD];(with_reducible repeat' first|refine aj ?_|refine aD h0 ?_|refine aE h0 ?_|refine aD c1 ?_|refine aE c1 ?_|refine aD dN ?_|refine aE dN ?_|refine aD h1 ?_|refine aE h1 ?_|simp[hi,cD]);all_goals simp[bu,vc,aY,aZ,aW]
        all_goals try simp[gd,bS.e]
       ·have au:=af.snoc ab (Dg (b:=b) jj) fun r=>LD hu jM cH;have vX:¬((eM b y).length:Int)=0:=by have:(eM b y).length≠0:=fun h=>cH (List.length_eq_zero_iff.1 h);omega
        have vY:(((eM b y).length:Int)==0)=false:=by simp[cH]
        clear af ab hu jM du dk;generalize eM b y=z at h1 au vX vY cH;simp only[cC]at h1;simp[hi,cD];(with_reducible repeat' first|refine aj ?_|refine aD h0 ?_|refine aE h0 ?_|refine aD c1 ?_|refine aE c1 ?_|refine aD dN ?_|refine aE dN ?_|refine aD h1 ?_|refine aE h1 ?_|simp[hi,cD,vX,vY,cH]);all_goals first|(refine⟨by unfold lim;omega,?_⟩)|skip
        all_goals(with_reducible repeat' first|refine aj ?_|simp)
        all_goals exact bT.rng (L++[z]) hi au ⟨by simp[fresh,aJ,aF,ck,inObs,Pv.look,tf,cC],ee (by simp[fresh,aJ,aF,ck,inObs,Pv.look,tf,cC]),ef (by simp[fresh,aJ,aF,dV,inObs,Pv.look,tf,cC]),by simp⟩
   |cons Eg Eh=>
    simp;(with_reducible repeat' first|refine aj ?_|simp);refine hH (fun i (L:List (List ao))=>⟨[(1,.ptr (.loc 0) 0),(2,.ptr (.loc 1) 0),(8,.ptr (.loc 2) 0),(13,.slice 1 (.own (.loc 6)) (L.map cC)),(72,.slice 1 .no (d.map cC)),(73,.int .i64 d.length),(74,.int .i64 i)],[(.loc 0,[.int .i64 n,.slice 5 .no (b.map ao.e),.slice 1 .no (d.map cC),.slice 2 .no (fo.map bJ.e),.slice 2 .no (m0.map bj.e)]),(.loc 1,[.int .i64 0,.slice 5 .nil [],.slice 1 .nil [],.slice 2 .nil [],.slice 2 .nil []]),(.loc 2,[.int .i64 n,.slice 5 .no (b.map ao.e),.slice 1 .nil [],.slice 2 .no (k.map bJ.e),.slice 2 (.own (.loc 5)) (Eg.e::Eh.map bj.e)])],[(.loc 6,⟨L.length,46,1,none⟩)],6+1,[]⟩) d.length (qb b k (Eg::Eh) d) [] bW ⟨by simp,by simp,by simp⟩ (fun L af _=>?_) (fun i L hi af _=>?_)
    ·have jL:=af.fin;have vO:=af.2.1;rw[jL]at du dk;simp only at du dk;have nx:=YH L vO;clear af jL vO;generalize k1 L=M at nx du dk;subst dk;by_cases lC:M.length≤30
     ·have oE:(M.length:Int)≤30:=by omega
      rw[if_pos lC]at du;subst du;simp;(with_reducible repeat' first|refine aj ?_|refine aD nx ?_|refine aE nx ?_|simp[lC,oE]);all_goals simp[bu,vc,aY,aZ,aW]
      all_goals try simp[bS.e,lC,oE]
      all_goals first|exact⟨_,rfl,rfl⟩|skip
     ·have oE:¬(M.length:Int)≤30:=by omega
      rw[if_neg lC]at du;subst du;simp;(with_reducible repeat' first|refine aj ?_|refine aD nx ?_|refine aE nx ?_|simp[lC,oE]);all_goals simp[bu,vc,aY,aZ,aW]
      all_goals try simp[bS.e,lC,oE]
      all_goals first|exact⟨_,rfl,rfl⟩|skip
    ·obtain⟨x,ab,cD⟩:=dP hi;have hY:=aR x (dZ ab);have S0:=af.1;have h0:=YG ae hY;simp only[fc]at h0;cases hu:mgu b (hG x)with
     |none=>have au:=af.skip ab fun r=>LC hu;rw[hu]at h0;simp only[hO,ht]at h0;clear af ab du dk;exact gI
     |some y=>
      have jj:=ae.mgu (BT hY) hu;rw[hu]at h0;simp only[h5,kS]at h0;have c1:=N9 jj vV;have dN:=Oa jj zR hg zL;have h1:=N4 ae jj;simp only[fP]at c1;simp only[h3,mU,gS]at dN;by_cases jM:gk y k []=none∨gl y (Eg::Eh) []=none
      ·have au:=af.skip ab fun r=>LB hu jM;clear af ab du dk hu h1;rcases jM with e|e
       ·rw[e]at c1;simp only[hO,ht]at c1;exact gI
       ·rw[e]at dN;simp only[hO,ht]at dN;generalize (gk y k []).isSome=a7 at c1;cases a7
        ·exact gI
        ·exact gI
      ·have ak:(gk y k []).isSome=true:=by cases e:gk y k []with|none=>exact absurd (.inl e) jM|some _=>rfl
       have aC:(gl y (Eg::Eh) []).isSome=true:=by cases e:gl y (Eg::Eh) []with|none=>exact absurd (.inr e) jM|some _=>rfl
       rw[ak]at c1;rw[aC]at dN;by_cases cH:eM b y=[]
       ·have ag:=af.stop ab fun r=>LA hu jM cH;rw[ag]at du dk;simp only at du dk;subst du;subst dk;rw[cH]at h1;simp only[cC,mU]at h1;clear af ab hu jM;simp[hi,cD];(with_reducible repeat' first|refine aj ?_|refine aD h0 ?_|refine aE h0 ?_|refine aD c1 ?_|refine aE c1 ?_|refine aD dN ?_|refine aE dN ?_|refine aD h1 ?_|refine aE h1 ?_|simp[hi,cD]);all_goals simp[bu,vc,aY,aZ,aW]
        all_goals try simp[gd,bS.e]
       ·have au:=af.snoc ab (Dg (b:=b) jj) fun r=>LD hu jM cH;have vX:¬((eM b y).length:Int)=0:=by have:(eM b y).length≠0:=fun h=>cH (List.length_eq_zero_iff.1 h);omega
        have vY:(((eM b y).length:Int)==0)=false:=by simp[cH]
        clear af ab hu jM du dk;generalize eM b y=z at h1 au vX vY cH;simp only[cC]at h1;simp[hi,cD];(with_reducible repeat' first|refine aj ?_|refine aD h0 ?_|refine aE h0 ?_|refine aD c1 ?_|refine aE c1 ?_|refine aD dN ?_|refine aE dN ?_|refine aD h1 ?_|refine aE h1 ?_|simp[hi,cD,vX,vY,cH]);all_goals first|(refine⟨by unfold lim;omega,?_⟩)|skip
        all_goals(with_reducible repeat' first|refine aj ?_|simp)
        all_goals exact bT.rng (L++[z]) hi au ⟨by simp[fresh,aJ,aF,ck,inObs,Pv.look,tf,cC],ee (by simp[fresh,aJ,aF,ck,inObs,Pv.look,tf,cC]),ef (by simp[fresh,aJ,aF,dV,inObs,Pv.look,tf,cC]),by simp⟩
theorem anW(x y:List ao):bt al 155 [cC x,cC y] (.int .i64 (eG x y)):=N6 x y
theorem an8{x y:List ao}(h:¬x=y):(eG x y !=0)=true:=by have:¬eG x y=0:=fun e=>h ((lS.zero _ _).1 e);simp[this]
set_option maxRecDepth 4000 in
theorem Ob(a c:bS):bt al 82 [a.e,c.e] (.bool (decide (a=c))):=by
 obtain⟨n,b,d,k,m⟩:=a;obtain⟨n',bP,ca,bH,gz⟩:=c;generalize bg:decide ((⟨n,b,d,k,m⟩:bS)=⟨n',bP,ca,bH,gz⟩)=R;simp only[bS.mk.injEq,bS.e]at bg⊢;by_cases a7:n=n';rotate_left
 ·have ga:R=false:=by rw[←bg];simp[a7]
  have tA:(n !=n')=true:=by simp[a7]
  rw[ga];clear bg ga;refine bc od zs AM fun aN=>?_;unfold xt;exact bO
 subst a7;have eR:=N6 b bP;by_cases bF:b=bP;rotate_left
 ·have ga:R=false:=by rw[←bg];simp[bF]
  have q0:¬eG b bP=0:=fun h=>bF ((lS.zero _ _).1 h);have Wl:(eG b bP !=0)=true:=by simp[q0]
  rw[ga];clear bg ga;refine bc od zs AM fun aN=>?_;unfold xt;exact bO
 subst bF;rw[(lS.zero b b).2 rfl]at eR;by_cases b0:d.length=ca.length;rotate_left
 ·have ga:R=false:=by rw[←bg];simp only[hR];rintro⟨_,_,rfl,_⟩;exact b0 rfl
  have sf:((d.length:Int) !=ca.length)=true:=by simp;omega
  rw[ga];clear bg ga;refine bc od zs AM fun aN=>?_;unfold xt;exact bO
 by_cases cZ:k.length=bH.length;rotate_left
 ·have ga:R=false:=by rw[←bg];simp only[hR];rintro⟨_,_,_,rfl,_⟩;exact cZ rfl
  have akO:((k.length:Int) !=bH.length)=true:=by simp;omega
  rw[ga];clear bg ga;refine bc od zs AM fun aN=>?_;unfold xt;exact bO
 by_cases df:m.length=gz.length;rotate_left
 ·have ga:R=false:=by rw[←bg];simp only[hR];rintro⟨_,_,_,_,rfl⟩;exact df rfl
  have akP:((m.length:Int) !=gz.length)=true:=by simp;omega
  rw[ga];clear bg ga;refine bc od zs AM fun aN=>?_;unfold xt;exact bO
 have x0:d≠ca→R=false:=fun h=>by rw[←bg];simp[h]
 have x1:k≠bH→R=false:=fun h=>by rw[←bg];simp[h]
 have KL:m≠gz→R=false:=fun h=>by rw[←bg];simp[h]
 refine bc od zs AM fun aN=>?_;unfold xt;have afW:ca.length≤68719476736:=by simp[ey,ea,en,lim]at aN;omega
 have afX:bH.length≤68719476736:=by simp[ey,ea,en,lim]at aN;omega
 have afY:gz.length≤68719476736:=by simp[ey,ea,en,lim]at aN;omega
 clear aN;simp;(with_reducible repeat' first|refine aj ?_|refine aD eR ?_|refine aE eR ?_|simp[b0,cZ,df]);have dt:=x0;refine dR [2,3,52,53] (fun i (_:Unit)=>[(54,.int .i64 i)]) ca.length (rs d ca) () bW (fun k ad=>by omega) (fun _ af _=>?_) (fun i _ hi af _=>?_);rotate_left
 ·obtain⟨x,ab⟩:∃x,d[i]? =some x:=⟨_,cl (by omega)⟩;obtain⟨y,aG⟩:∃y,ca[i]? =some y:=⟨_,cl hi⟩;have gq:i<d.length:=by omega
  have cD:∀h,(d[i]'h)=x:=fun h=>by rw[cl gq]at ab;exact fq ab
  have eW:∀h,(ca[i]'h)=y:=fun h=>by rw[cl hi]at aG;exact fq aG
  have eR:=anW x y;by_cases q:x=y
  ·subst q;have au:=af.step ab aG;rw[(lS.zero _ _).2 rfl]at eR;clear af ab aG;simp[hi,gq,cD,eW,-iF];(with_reducible repeat' first|refine aj ?_|refine aD eR ?_|refine aE eR ?_|simp[cD,eW,hi,gq,-iF]);all_goals exact bT.rng () hi au bW
  ·rw[dt (fun h=>q (by rw[h]at ab;rw[ab]at aG;exact fq aG))];have q0:=an8 q;clear af ab aG;simp[hi,gq,cD,eW,-iF];(with_reducible repeat' first|refine aj ?_|refine aD eR ?_|refine aE eR ?_|simp[cD,eW,hi,gq,q,q0,-iF]);all_goals simp[bu,Hr,aY,aZ,aW]
 have dG:=af.fin b0;subst dG;clear af dt x0 b0;simp;(with_reducible repeat' first|refine aj ?_|simp[cZ]);have dt:=x1;refine dR [2,3,69,70] (fun i (_:Unit)=>[(71,.int .i64 i)]) bH.length (rs k bH) () bW (fun k ad=>by omega) (fun _ af _=>?_) (fun i _ hi af _=>?_);rotate_left
 ·obtain⟨x,ab⟩:∃x,k[i]? =some x:=⟨_,cl (by omega)⟩;obtain⟨y,aG⟩:∃y,bH[i]? =some y:=⟨_,cl hi⟩;have gq:i<k.length:=by omega
  have cD:∀h,(k[i]'h)=x:=fun h=>by rw[cl gq]at ab;exact fq ab
  have eW:∀h,(bH[i]'h)=y:=fun h=>by rw[cl hi]at aG;exact fq aG
  have eR:=True.intro;by_cases q:x=y
  ·subst q;have au:=af.step ab aG;skip;clear af ab aG;simp[hi,gq,cD,eW,-iF];(with_reducible repeat' first|refine aj ?_|refine aD eR ?_|refine aE eR ?_|simp[cD,eW,hi,gq,-iF]);all_goals exact bT.rng () hi au bW
  ·rw[dt (fun h=>q (by rw[h]at ab;rw[ab]at aG;exact fq aG))];skip;clear af ab aG;simp[hi,gq,cD,eW,-iF];(with_reducible repeat' first|refine aj ?_|refine aD eR ?_|refine aE eR ?_|simp[cD,eW,hi,gq,q,q,-iF]);all_goals simp[bu,Hr,aY,aZ,aW]
 have dG:=af.fin cZ;subst dG;clear af dt x1 cZ;simp;(with_reducible repeat' first|refine aj ?_|simp[df]);have dt:=KL;refine dR [3,85,86] (fun i (_:Unit)=>[(87,.int .i64 i)]) gz.length (rs m gz) () bW (fun k ad=>by omega) (fun _ af _=>?_) (fun i _ hi af _=>?_);rotate_left
 ·obtain⟨x,ab⟩:∃x,m[i]? =some x:=⟨_,cl (by omega)⟩;obtain⟨y,aG⟩:∃y,gz[i]? =some y:=⟨_,cl hi⟩;have gq:i<m.length:=by omega
  have cD:∀h,(m[i]'h)=x:=fun h=>by rw[cl gq]at ab;exact fq ab
  have eW:∀h,(gz[i]'h)=y:=fun h=>by rw[cl hi]at aG;exact fq aG
  have eR:=True.intro;by_cases q:x=y
  ·subst q;have au:=af.step ab aG;skip;clear af ab aG;simp[hi,gq,cD,eW,-iF];(with_reducible repeat' first|refine aj ?_|refine aD eR ?_|refine aE eR ?_|simp[cD,eW,hi,gq,-iF]);all_goals exact bT.rng () hi au bW
  ·rw[dt (fun h=>q (by rw[h]at ab;rw[ab]at aG;exact fq aG))];skip;clear af ab aG;simp[hi,gq,cD,eW,-iF];(with_reducible repeat' first|refine aj ?_|refine aD eR ?_|refine aE eR ?_|simp[cD,eW,hi,gq,q,q,-iF]);all_goals simp[bu,Hr,aY,aZ,aW]
 have dG:=af.fin df;subst dG;have ga:R=true:=by rw[←bg];simp
 rw[ga];exact bO
@[simp] theorem amU:∀l:List (List c3),cW (l.map gh)=l.map gh
 |[]=>rfl
 |x::xs=>by simp[cW,amU xs]
theorem XV:∀{d:List (List c3)},d.all gL=true→∃D:List (List ao),d=(D.map fun x=>x.map ao.b)∧∀x∈D,eE x
 |[],_=>⟨[],rfl,by simp⟩
 |x::d,h=>by
  rw[List.all_cons,cE]at h;obtain⟨D,J,U⟩:=XV h.2;obtain⟨s,ak,aC⟩:=wX.1 (re.1 h.1);refine⟨s::D,by rw[J,ak];rfl,fun y aG=>?_⟩;rcases gf.1 aG with rfl|aG
  ·exact aC
  ·exact U y aG
open Classical in
set_option maxRecDepth 4000 in
theorem yW(r:eQ)(ec:gA r.m→fX r.m):bt al 27 [r.e] (.bool (decide (gK r))):=by
 generalize bg:decide (gK r)=R;have dt:¬M4 r→R=false:=fun h=>by rw[←bg,hR];exact fun cx=>h cx.raw
 obtain⟨n,b,d,k,m⟩:=r;simp only[eQ.e]at ec⊢;have Gr:=dA n 0 100000;by_cases g1:0≤n∧n≤100000;rotate_left
 ·rw[dt fun h=>g1 h.n];rw[h6 g1]at Gr;refine bc od xx yt fun aN=>?_;unfold vC;exact bO
 rw[gU g1]at Gr;have fO:bt al 76 [.slice 5 .no (b.map c3.e)] (.bool (gL b)):=Od b;cases g3:gL b
 ·rw[dt fun h=>by obtain⟨s,ak,aC,_⟩:=h.b;have:=re.2 (wX.2 ⟨s,ak,aC⟩);simp only at this;rw[g3]at this;cases this]
  rw[g3]at fO;refine bc od xx yt fun aN=>?_;unfold vC;exact bO
 rw[g3]at fO;obtain⟨s,rfl,ag⟩:=wX.1 (re.1 g3);clear g3;rw[yk]at fO⊢;have ed:=anV d;cases vM:d.all gL
 ·rw[dt fun h=>by
   have:d.all gL=true:=by rw[hs];intro x ab;obtain⟨s,ak,aC,_⟩:=h.d x ab;exact re.2 (wX.2 ⟨s,ak,aC⟩)
   rw[vM]at this;cases this]
  rw[vM]at ed;refine bc od xx yt fun aN=>?_;unfold vC;exact bO
 rw[vM]at ed;obtain⟨D,rfl,uz⟩:=XV vM;clear vM;rw[Jr]at ed⊢;have c1:=aoh k;by_cases g4:jl k;rotate_left
 ·rw[dt fun h=>g4 h.k];rw[h6 g4]at c1;refine bc od xx yt fun aN=>?_;unfold vC;exact bO
 rw[gU g4]at c1;have dN:=aoj m;by_cases g5:gA m;rotate_left
 ·rw[dt fun h=>g5 h.m];rw[h6 g5]at dN;refine bc od xx yt fun aN=>?_;unfold vC;exact bO
 rw[gU g5]at dN;have lj:=YJ s n;cases g6:s.all (kV n)
 ·rw[dt fun h=>by obtain⟨ai,ak,_,bk⟩:=h.b;have dg:=vu ak;subst dg;rw[vw.2 bk]at g6;cases g6]
  rw[g6]at lj;refine bc od xx yt fun aN=>?_;unfold vC;exact bO
 rw[g6]at lj;have cT:=vw.1 g6;clear g6;have Cy:=ec g5;have lI:=Cy.len g5;refine bc od xx yt fun aN=>?_;unfold vC;have Ks:D.length≤68719476736:=by simp[ey,ea,en,lim]at aN;omega
 have iJ:=nZ g4;clear aN ec;simp;(with_reducible repeat' first|refine aj ?_|refine aD Gr ?_|refine aE Gr ?_|refine aD fO ?_|refine aE fO ?_|refine aD ed ?_|refine aE ed ?_|refine aD c1 ?_|refine aE c1 ?_|refine aD dN ?_|refine aE dN ?_|refine aD lj ?_|refine aE lj ?_|simp);refine dR [1,48,49] (fun i (_:Unit)=>[(50,.int .i64 i)]) D.length (r4 (fun x=>pk x n) D) () bW (fun k b ad=>by omega) (fun _ af _=>?_) (fun i _ hi af _=>?_);rotate_left
 ·obtain⟨y,aG,eW⟩:=dP hi;have K9:=dZ aG;have mJ:bt al 80 [cC y,.int .i64 n] (.bool (y.all (kV n))):=YJ y n;cases rF:y.all (kV n)
  ·rw[dt fun h=>by obtain⟨ai,ak,_,bk⟩:=h.d _ (List.mem_map_of_mem K9);have dg:=vu ak;subst dg;rw[vw.2 bk]at rF;cases rF]
   rw[rF]at mJ;clear af aG K9;exact bO
  ·rw[rF]at mJ;have au:=af.step aG (vw.1 rF);clear af aG K9;exact gI
 have Kf:=af.fin;clear af;simp;(with_reducible repeat' first|refine aj ?_|simp);refine dR [1,61,62] (fun i (_:Unit)=>[(63,.int .i64 i)]) k.length (r4 (fun x=>x.v<n) k) () bW (fun k b ad=>by omega) (fun _ af _=>?_) (fun i _ hi af _=>?_);rotate_left
 ·obtain⟨x,ab,cD⟩:=dP hi;by_cases mA:x.v<n
  ·have xE:¬n≤x.v:=by omega
   have au:=af.step ab mA;clear af ab;exact gI
  ·have xE:n≤x.v:=by omega
   rw[dt fun h=>mA (h.kb x (dZ ab))];clear af ab;exact bO
 have xQ:=af.fin;clear af;simp;(with_reducible repeat' first|refine aj ?_|simp);have xR:=xQ;refine dR [1,74,75] (fun i (_:Unit)=>[(76,.int .i64 i)]) m.length (r4 (fun x=>x.v<n) m) () bW (fun k b ad=>by omega) (fun _ af _=>?_) (fun i _ hi af _=>?_);rotate_left
 ·obtain⟨x,ab,cD⟩:=dP hi;by_cases mA:x.v<n
  ·have xE:¬n≤x.v:=by omega
   have au:=af.step ab mA;clear af ab;exact gI
  ·have xE:n≤x.v:=by omega
   rw[dt fun h=>mA (h.mb x (dZ ab))];clear af ab;exact bO
 have xQ:=af.fin;clear af;simp;(with_reducible repeat' first|refine aj ?_|simp);have l9:=xQ;have cY:ix ⟨n,s,D,k,m⟩:=⟨g1,ag,uz,g4,g5,cT,Kf,xR,l9⟩;have uG:=XN cY;obtain⟨G,hg,aX⟩:=Cy;have dO:=Bl cY hg aX;have lg:gK ⟨n,s.map ao.b,D.map fun x=>x.map ao.b,k,m⟩↔gJ ⟨n,s,D,k,m⟩=some ⟨n,s,D,k,m⟩:=uG;clear uG dt;simp only[n5]at dO;generalize Kl:sk ⟨n,s,D,k,m⟩=t at dO;have kG:=Ob t ⟨n,s,D,k,m⟩;cases lM:gJ ⟨n,s,D,k,m⟩with
 |none=>
  rw[lM]at dO lg;have ga:R=false:=by rw[←bg,hR,lg];simp
  rw[ga];obtain⟨iA,kN,kO,iz,tm⟩:=t;simp only[ht,bS.e]at dO;clear bg ga lg Kl kG;exact bO
 |some dE=>
  have ak:=HQ lM;rw[Kl]at ak;subst ak;rw[lM]at dO lg;have ga:R=decide (t=⟨n,s,D,k,m⟩):=by rw[←bg,decide_eq_decide,lg];simp
  rw[ga];simp only[kS]at dO;simp only[bS.e]at dO kG;clear bg ga lg lM;generalize decide (t=(⟨n,s,D,k,m⟩:bS))=Q at kG⊢;clear Kl;obtain⟨iA,kN,kO,iz,tm⟩:=t;simp only at dO kG;exact bO
def pY(d:dc (dc e6)):ah:=d.e 1 ks
def qf(k:dc bJ):ah:=k.e 2 bJ.e
def qj(m:dc hv):ah:=m.e 2 hv.e
@[simp] theorem ari(S:aH→Prop)(d:dc (dc e6)):aF S (pY d)=True:=by cases d<;>simp[pY,dc.e,aF]
@[simp] theorem atK(d:dc (dc e6)):dr (pY d)=pY d:=by
 cases d with
 |l l=>
  have:∀l:List (dc e6),cW (l.map ks)=l.map ks:=by
   intro l;induction l with
   |nil=>rfl
   |cons x l bZ=>simp[cW,bZ]
  simp[pY,dc.e,dr,this]
 |b=>simp[pY,dc.e,dr]
@[simp] theorem ati(d:dc (dc e6)):ei (pY d)=true:=by cases d<;>rfl
@[simp] theorem apm(d:dc (dc e6)):cells (pY d)=[pY d]:=by cases d<;>rfl
@[simp] theorem arq(S:aH→Prop)(d:dc bJ):aF S (qf d)=True:=by cases d<;>simp[qf,dc.e,aF]
@[simp] theorem atS(d:dc bJ):dr (qf d)=qf d:=by
 cases d with
 |l l=>
  have:∀l:List bJ,cW (l.map bJ.e)=l.map bJ.e:=by
   intro l;induction l with
   |nil=>rfl
   |cons x l bZ=>simp[cW,bZ]
  simp[qf,dc.e,dr,this]
 |b=>simp[qf,dc.e,dr]
@[simp] theorem ats(d:dc bJ):ei (qf d)=true:=by cases d<;>rfl
@[simp] theorem apz(d:dc bJ):cells (qf d)=[qf d]:=by cases d<;>rfl
@[simp] theorem art(S:aH→Prop)(d:dc hv):aF S (qj d)=True:=by cases d<;>simp[qj,dc.e,aF]
@[simp] theorem atU(d:dc hv):dr (qj d)=qj d:=by
 cases d with
 |l l=>
  have:∀l:List hv,cW (l.map hv.e)=l.map hv.e:=by
   intro l;induction l with
   |nil=>rfl
   |cons x l bZ=>simp[cW,bZ]
  simp[qj,dc.e,dr,this]
 |b=>simp[qj,dc.e,dr]
@[simp] theorem atu(d:dc hv):ei (qj d)=true:=by cases d<;>rfl
@[simp] theorem apB(d:dc hv):cells (qj d)=[qj d]:=by cases d<;>rfl
structure na where
 n:Int
 b:dc e6
 d:dc (dc e6)
 k:dc bJ
 m:dc hv
def na.e(r:na):ah:= .agg [.int .i64 r.n,ks r.b,pY r.d,qf r.k,qj r.m]
structure na.wf (r:na):Prop where
 b:w9 r.b
 d:r.d.wf w9
 k:∀p n cap,r.k= .b p n cap→mR n
 m:r.m.wf fun x=>x.s.wf
def qo(r:na)(m:Int):Int:=if ie r.b m<0 then-1 else if gP ie r.d (ie r.b m)<0 then-1 else if o2 r.k (gP ie r.d (ie r.b m))<0 then-1 else if gP lW r.m (o2 r.k (gP ie r.d (ie r.b m)))<0 then-1 else gP lW r.m (o2 r.k (gP ie r.d (ie r.b m)))
def zb(b:c3):e6:=⟨b.v,yS b.t⟩
def ym(b:bj):hv:=⟨b.v,.s b.s⟩
theorem Z3(b:c3):(zb b).e=b.e:=by have h:=X8 b.t;rw[cy.e_eq,vG]at h;simp only[ah.agg.injEq,qv,and_true,true_and]at h;obtain⟨J,U,ar,a8⟩:=h;show ah.agg [_,_,_,_,_]=ah.agg [_,_,_,_,_];rw[show(zb b).t=yS b.t from rfl,J,U,ar,a8];rfl
theorem aij(b:bj):(ym b).e=b.e:=rfl
theorem Z4(l:List c3):(l.map zb).map e6.e=l.map c3.e:=by rw[List.map_map];exact List.map_congr_left fun b _=>Z3 b
theorem aik(l:List bj):(l.map ym).map hv.e=l.map bj.e:=by rw[List.map_map];exact List.map_congr_left fun b _=>aij b
def uk(d:List c3):dc e6:= .l (d.map zb)
theorem RH(d:List c3):ks (uk d)=gh d:=by simp only[ks,uk,dc.e,gh,Z4]
theorem aaW(l:List (List c3)):(l.map uk).map ks=l.map gh:=by rw[List.map_map];exact List.map_congr_left fun b _=>RH b
def eQ.h(r:eQ):na:=⟨r.n,uk r.b,.l (r.d.map uk),.l r.k,.l (r.m.map ym)⟩
theorem XP(r:eQ):r.h.e=r.e:=by simp only[na.e,eQ.h,eQ.e,RH,pY,qf,qj,dc.e,aaW,aik];rfl
theorem amY(x:e6)(m:Int)(hw:x.t.wf)(J:m≤1048576)(bD:0≤m)(h:0≤sq x m):∃y,x=zb y:=by obtain⟨u,hu⟩:=X2 x.t m hw J bD h;exact⟨⟨x.v,u⟩,by cases x;simp only[zb]at hu⊢;rw[hu]⟩
theorem amZ(x:hv)(m:Int)(hw:x.s.wf)(J:m≤1048576)(bD:0≤m)(h:0≤lW x m):∃y,x=ym y:=by
 unfold lW at h;split at h
 ·omega
 ·obtain⟨l,aw⟩:=hc.small hw J h;exact⟨⟨x.v,l⟩,by cases x;simp only[ym]at aw⊢;rw[aw]⟩
theorem XW(x:dc e6)(m:Int)(hw:w9 x)(J:m≤1048576)(bD:0≤m)(h:0≤ie x m):∃y,x=uk y:=NN (P:=fun b:e6=>b.t.wf) NM amY x m (show dc.wf (fun b:e6=>b.t.wf) x from hw) J bD h
theorem X3:∀(l:List bj) (m:Int),(∀x∈l,1≤x.s.length)→0≤j6 lW (l.map ym) m→(l.length:Int)≤m
 |[],m,_,h=>by simpa[j6]using h
 |x::l,m,J,h=>by
  simp only[gS,j6]at h;split at h
  ·omega
  ·rename_i U;have ar:=X3 l _ (fun y aG=>J y (by simp[aG])) h;have a8:=J x (by simp);have b4:lW (ym x) m=if m-x.s.length<0 then-1 else m-x.s.length:=rfl
   rw[b4]at U ar;split at ar
   ·rename_i dd;rw[if_pos dd]at U;omega
   ·simp only[pT];omega
theorem aiu{s:List dm}(h:iv s=true):1≤s.length:=by
 cases s with
 |nil=>simp[iv]at h
 |cons c s=>simp
theorem YQ(r:na)(hw:r.wf)(m:Int)(bD:0≤m)(J:m≤1048576):bt al 26 [r.e,.int .i64 m] (.int .i64 (qo r m)):=by
 generalize bg:qo r m=R;obtain⟨n,b,d,k,l⟩:=r;obtain⟨eP,dC,o6,mS⟩:=hw;simp only at eP dC o6 mS;unfold qo at bg;simp only[na.e]at bg⊢;have aP:=YP b eP m bD J;have b1:=wZ b m bD;generalize ie b m=a7 at bg aP b1;have a6:_→bt al 72 [pY d,.int .i64 a7] (.int .i64 (gP ie d a7)):=fun h=>aoo d (fun p n c e=>by subst e;exact dC) (fun xs e x ab m bD J=>by subst e;exact YP x (dC x ab) m bD J) a7 h (by omega);have b2:=fun h=>vl wZ d a7 h;generalize gP ie d a7=bF at bg a6 b2;have bR:_→_→bt al 73 [qf k,.int .i64 bF] (.int .i64 (o2 k bF)):=fun h cx=>aos k o6 bF h cx;have fN:=fun h=>NO k bF h;generalize o2 k bF=b0 at bg bR fN;have dq:_→_→bt al 74 [qj l,.int .i64 b0] (.int .i64 (gP lW l b0)):=fun h cx=>aoq l (fun p n c e=>by subst e;exact mS) (fun xs e x ab m bD J=>by subst e;exact aop x (mS x ab) m bD J) b0 h cx;have ov:=fun h=>vl D0 l b0 h;generalize gP lW l b0=cZ at bg dq ov;clear eP dC o6 mS;by_cases g1:a7<0
 ·rw[if_pos g1]at bg;subst bg;clear a6 bR dq;refine bc fH BW Dl fun aN=>?_;unfold zf;exact bO
 rw[if_neg g1]at bg;have a6:=a6 (by omega);have b2:=b2 (by omega);by_cases g2:bF<0
 ·rw[if_pos g2]at bg;subst bg;clear bR dq;refine bc fH BW Dl fun aN=>?_;unfold zf;exact bO
 rw[if_neg g2]at bg;have bR:=bR (by omega) (by omega);have fN:=fN (by omega);by_cases g3:b0<0
 ·rw[if_pos g3]at bg;subst bg;clear dq;refine bc fH BW Dl fun aN=>?_;unfold zf;exact bO
 rw[if_neg g3]at bg;have dq:=dq (by omega) (by omega);have ov:=ov (by omega);by_cases g4:cZ<0
 ·rw[if_pos g4]at bg;subst bg;refine bc fH BW Dl fun aN=>?_;unfold zf;exact bO
 rw[if_neg g4]at bg;subst bg;refine bc fH BW Dl fun aN=>?_;unfold zf;exact bO
theorem YT(r:eQ):bt al 28 [r.e] r.e:=by obtain⟨n,b,d,k,l⟩:=r;simp only[eQ.e];have aP:bt al 35 [.slice 5 .no (b.map c3.e)] (.slice 5 .no (b.map c3.e)):=YS b;have a6:=aox d fun x _=>YS x;have bR:=aoD k fun x _=>aoC x;have dq:=aoz l fun x _=>aoy x;refine bc fH ac5 ajC fun aN=>?_;unfold Qi;exact bO
theorem Yx(r:eQ):bt al 30 [r.e,r.e] (.bool true):=by obtain⟨n,b,d,k,l⟩:=r;simp only[eQ.e];have aP:bt al 37 [.slice 5 .no (b.map c3.e),.slice 5 .no (b.map c3.e)] (.bool true):=Yw b;have a6:=anA d fun x _=>Yw x;have bR:=anG k fun x _=>anF x;have dq:=anC l fun x _=>anB x;refine bc fH acV ajs fun aN=>?_;unfold P8;exact bO
end Go.Proofs.YtahlgcidhnjlbaaGreat
namespace Go.Proofs.YtahlgcidhnjlbaaGreat
open Go Go.Pv Go.ChangeShapes Go.WideShapes Go.ChangeAt Go.RowKit Go.Deep
section
variable {H:Type} {enc:gm×Value→H} {W:World} {spare:Nat→Bool} {held:Bool} {cs:List Value} {x:DataW H×List MemPlace} {fuel:Nat}
theorem BP:al.cellsOf 3=1:=by kernel_rfl
theorem Rs:al.cellsOf 9=1:=by kernel_rfl
theorem Ji:al.cellsOf 24=4:=by kernel_rfl
theorem aag:al.cellsOf 22=1:=by kernel_rfl
theorem Ro:al.cellsOf 111=5:=by kernel_rfl
theorem Rp:al.cellsOf 38=1:=by kernel_rfl
theorem aac:al.cellsOf 39=1:=by kernel_rfl
theorem Rq:al.cellsOf 158=2:=by kernel_rfl
theorem aad:al.cellsOf 40=1:=by kernel_rfl
theorem Rr:al.cellsOf 146=2:=by kernel_rfl
theorem aae:al.cellsOf 41=1:=by kernel_rfl
theorem aaf:al.cellsOf 43=5:=by kernel_rfl
theorem x8(h:jt enc al W 0 spare held fuel 3 cs=some x):∃(n:Int) (v:Value),cs=[v]∧ve W (.int .i64 n) v:=by obtain⟨n,rfl,_,_⟩:=DataW.trod_int Tryz.underlying3 h;exact⟨n,_,rfl,by simp only[ba],rfl,rfl⟩
theorem XQ(h:jt enc al W 0 spare held fuel 9 cs=some x):∃(s:hc) (v:Value),s.wf∧cs=[v]∧ve W s.e v:=by
 obtain⟨s,rfl,_,hm⟩:=DataW.trod_string Tryz.underlying9 h;by_cases ag:lim<s.size
 ·exact⟨.b s,_,⟨ag,by unfold maxLen at hm;omega⟩,rfl,by simp only[hc.e,ba],rfl,rfl⟩
 ·refine⟨.s s.data.toList,_,trivial,rfl,?_,rfl,rfl⟩;simp only[hc.e,ba];refine⟨by simp,?_⟩;have:s.data.toList.length=s.size:=rfl;omega
theorem U4{α:Type}:∀{cs:List α},cs.length=2→∃a b,cs=[a,b]
 |[a,b],_=>⟨a,b,rfl⟩
theorem ahL{α:Type}:∀{cs:List α},cs.length=4→∃a b c d,cs=[a,b,c,d]
 |[a,b,c,d],_=>⟨a,b,c,d,rfl⟩
theorem U5{α:Type}:∀{cs:List α},cs.length=5→∃a b c d e,cs=[a,b,c,d,e]
 |[a,b,c,d,e],_=>⟨a,b,c,d,e,rfl⟩
theorem am2:∀(fuel:Nat) (cs:List Value) (x:DataW H×List MemPlace),jt enc al W 0 spare held fuel 24 cs=some x→∃t:cy,t.wf∧c5 W (rr W) [.int .i64 t.kind,.int .i64 t.num,t.name.e,t.args.e 4 cy.e] cs:=by
 intro fuel;induction fuel using Nat.strongRecOn with
 |ind fuel bZ=>
  intro cs x h;obtain⟨xs,n,rfl,_,hlen,kl,aI⟩:=DataW.trod_struct Tryz.underlying24 h;rw[Ji]at hlen;obtain⟨iW,bN,cq,dj,rfl⟩:=ahL hlen;have Gd:xs.length=4:=kl;have f0:jt enc al W 0 spare held n 3 (([iW,bN,cq,dj].drop 0).take (al.cellsOf 3))=xs[0]?:=aI 0 _ rfl;have f1:jt enc al W 0 spare held n 3 (([iW,bN,cq,dj].drop 1).take (al.cellsOf 3))=xs[1]?:=aI 1 _ rfl;have f2:jt enc al W 0 spare held n 9 (([iW,bN,cq,dj].drop 2).take (al.cellsOf 9))=xs[2]?:=aI 2 _ rfl;have f3:jt enc al W 0 spare held n 22 (([iW,bN,cq,dj].drop 3).take (al.cellsOf 22))=xs[3]?:=aI 3 _ rfl;simp only[BP,Rs,aag,nM,lY]at f0 f1 f2 f3;rw[cl (by omega)]at f0 f1 f2 f3;obtain⟨k,v0,fv,r0⟩:=x8 f0;obtain⟨m,v1,ak,cN⟩:=x8 f1;obtain⟨s,v2,dC,aC,dx⟩:=XQ f2;obtain⟨l,o6,v3,bk,k2⟩:=DU cy.e cy.wf Tryz.underlying22 Ji (by omega) (fun n' cs' Ef au cx=>by obtain⟨t,t1,t2⟩:=bZ n' (by omega) cs' Ef cx;exact⟨t,t1,by rw[cy.e_eq];exact DE t2⟩) f3
  simp only[qv,and_true]at fv ak aC bk;subst fv ak aC bk;cases l with
  |l a=>
   refine⟨.mk k m s a,?_,?_⟩
   ·simp only[cy.wf,cy.wfL_iff];exact⟨dC,o6⟩
   ·simp only[c5,cy.kind,cy.num,cy.name,cy.args];exact⟨_,_,rfl,⟨r0.1,r0.2.1⟩,_,_,rfl,⟨cN.1,cN.2.1⟩,_,_,rfl,⟨dx.1,dx.2.1⟩,_,_,rfl,⟨k2.1,k2.2.1⟩,rfl⟩
  |b p a1 c=>
   refine⟨.big k m s p a1 c,?_,?_⟩
   ·simp only[cy.wf];exact⟨dC,o6⟩
   ·simp only[c5,cy.kind,cy.num,cy.name,cy.args];exact⟨_,_,rfl,⟨r0.1,r0.2.1⟩,_,_,rfl,⟨cN.1,cN.2.1⟩,_,_,rfl,⟨dx.1,dx.2.1⟩,_,_,rfl,⟨k2.1,k2.2.1⟩,rfl⟩
theorem ZV(h:jt enc al W 0 spare held fuel 111 cs=some x):∃b:e6,b.t.wf∧reads W b.e cs:=by obtain⟨xs,n,rfl,_,hlen,kl,aI⟩:=DataW.trod_struct Tryz.underlying111 h;rw[Ro]at hlen;obtain⟨iW,bN,cq,dj,iH,rfl⟩:=U5 hlen;have Gd:xs.length=2:=kl;have f0:jt enc al W 0 spare held n 3 (([iW,bN,cq,dj,iH].drop 0).take (al.cellsOf 3))=xs[0]?:=aI 0 _ rfl;have f1:jt enc al W 0 spare held n 24 (([iW,bN,cq,dj,iH].drop 1).take (al.cellsOf 24))=xs[1]?:=aI 1 _ rfl;simp only[BP,Ji,nM,lY]at f0 f1;rw[cl (by omega)]at f0 f1;obtain⟨k,v0,fv,r0⟩:=x8 f0;obtain⟨t,eP,cN⟩:=am2 _ _ _ f1;simp only[qv,and_true]at fv;subst fv;refine⟨⟨k,t⟩,eP,DE ?_⟩;rw[c5];exact⟨_,_,rfl,⟨r0.1,r0.2.1⟩,cN⟩
theorem ahB(h:jt enc al W 0 spare held fuel 158 cs=some x):∃b:bJ,True∧reads W b.e cs:=by obtain⟨xs,n,rfl,_,hlen,kl,aI⟩:=DataW.trod_struct Tryz.underlying158 h;rw[Rq]at hlen;obtain⟨iW,bN,rfl⟩:=U4 hlen;have Gd:xs.length=2:=kl;have f0:jt enc al W 0 spare held n 3 (([iW,bN].drop 0).take (al.cellsOf 3))=xs[0]?:=aI 0 _ rfl;have f1:jt enc al W 0 spare held n 3 (([iW,bN].drop 1).take (al.cellsOf 3))=xs[1]?:=aI 1 _ rfl;simp only[BP,nM,lY]at f0 f1;rw[cl (by omega)]at f0 f1;obtain⟨k,v0,fv,r0⟩:=x8 f0;obtain⟨m,v1,ak,cN⟩:=x8 f1;simp only[qv,and_true]at fv ak;subst fv ak;refine⟨⟨k,m⟩,trivial,DE ?_⟩;simp only[c5];exact⟨_,_,rfl,⟨r0.1,r0.2.1⟩,_,_,rfl,⟨cN.1,cN.2.1⟩,rfl⟩
theorem ahW(h:jt enc al W 0 spare held fuel 146 cs=some x):∃b:hv,b.s.wf∧reads W b.e cs:=by obtain⟨xs,n,rfl,_,hlen,kl,aI⟩:=DataW.trod_struct Tryz.underlying146 h;rw[Rr]at hlen;obtain⟨iW,bN,rfl⟩:=U4 hlen;have Gd:xs.length=2:=kl;have f0:jt enc al W 0 spare held n 3 (([iW,bN].drop 0).take (al.cellsOf 3))=xs[0]?:=aI 0 _ rfl;have f1:jt enc al W 0 spare held n 9 (([iW,bN].drop 1).take (al.cellsOf 9))=xs[1]?:=aI 1 _ rfl;simp only[BP,Rs,nM,lY]at f0 f1;rw[cl (by omega)]at f0 f1;obtain⟨k,v0,fv,r0⟩:=x8 f0;obtain⟨s,v1,eP,ak,cN⟩:=XQ f1;simp only[qv,and_true]at fv ak;subst fv ak;refine⟨⟨k,s⟩,eP,DE ?_⟩;simp only[c5];exact⟨_,_,rfl,⟨r0.1,r0.2.1⟩,_,_,rfl,⟨cN.1,cN.2.1⟩,rfl⟩
theorem O5(h:jt enc al W 0 spare held fuel 38 cs=some x):∃d:dc e6,w9 d∧∃v,cs=[v]∧ve W (ks d) v:=DU e6.e (fun b=>b.t.wf) Tryz.underlying38 Ro (by omega) (fun _ _ _ _ cx=>ZV cx) h
theorem ZW(h:jt enc al W 0 spare held fuel 39 cs=some x):∃d:dc (dc e6),d.wf w9∧∃v,cs=[v]∧ve W (pY d) v:=DU ks w9 Tryz.underlying39 Rp (by omega) (fun _ _ _ _ cx=>by obtain⟨d,w,v,rfl,r⟩:=O5 cx;exact⟨d,w,r.reads⟩) h
theorem ahE(h:jt enc al W 0 spare held fuel 40 cs=some x):∃d:dc bJ,d.wf (fun _=>True)∧∃v,cs=[v]∧ve W (qf d) v:=DU bJ.e (fun _=>True) Tryz.underlying40 Rq (by omega) (fun _ _ _ _ cx=>ahB cx) h
theorem ahX(h:jt enc al W 0 spare held fuel 41 cs=some x):∃d:dc hv,d.wf (fun b=>b.s.wf)∧∃v,cs=[v]∧ve W (qj d) v:=DU hv.e (fun b=>b.s.wf) Tryz.underlying41 Rr (by omega) (fun _ _ _ _ cx=>ahW cx) h
theorem amP(h:jt enc al W 0 spare held fuel 43 cs=some x):∃r:na,r.wf∧reads W r.e cs:=by obtain⟨xs,n,rfl,_,hlen,kl,aI⟩:=DataW.trod_struct Tryz.underlying43 h;rw[aaf]at hlen;obtain⟨iW,bN,cq,dj,iH,rfl⟩:=U5 hlen;have Gd:xs.length=5:=kl;have f0:jt enc al W 0 spare held n 3 (([iW,bN,cq,dj,iH].drop 0).take (al.cellsOf 3))=xs[0]?:=aI 0 _ rfl;have f1:jt enc al W 0 spare held n 38 (([iW,bN,cq,dj,iH].drop 1).take (al.cellsOf 38))=xs[1]?:=aI 1 _ rfl;have f2:jt enc al W 0 spare held n 39 (([iW,bN,cq,dj,iH].drop 2).take (al.cellsOf 39))=xs[2]?:=aI 2 _ rfl;have f3:jt enc al W 0 spare held n 40 (([iW,bN,cq,dj,iH].drop 3).take (al.cellsOf 40))=xs[3]?:=aI 3 _ rfl;have f4:jt enc al W 0 spare held n 41 (([iW,bN,cq,dj,iH].drop 4).take (al.cellsOf 41))=xs[4]?:=aI 4 _ rfl;simp only[BP,Rp,aac,aad,aae,nM,lY]at f0 f1 f2 f3 f4;rw[cl (by omega)]at f0 f1 f2 f3 f4;obtain⟨k,v0,fv,r0⟩:=x8 f0;obtain⟨d1,eP,v1,ak,cN⟩:=O5 f1;obtain⟨d2,dC,v2,aC,dx⟩:=ZW f2;obtain⟨d3,o6,v3,bk,k2⟩:=ahE f3;obtain⟨d4,mS,v4,dg,Wm⟩:=ahX f4;simp only[qv,and_true]at fv ak aC bk dg;subst fv ak aC bk dg;refine⟨⟨k,d1,d2,d3,d4⟩,⟨eP,dC,fun p n c e=>by simp only at e;subst e;exact o6,mS⟩,DE ?_⟩;simp only[c5];exact⟨_,_,rfl,⟨r0.1,r0.2.1⟩,_,_,rfl,⟨cN.1,cN.2.1⟩,_,_,rfl,⟨dx.1,dx.2.1⟩,_,_,rfl,⟨k2.1,k2.2.1⟩,_,_,rfl,⟨Wm.1,Wm.2.1⟩,rfl⟩
end
end Go.Proofs.YtahlgcidhnjlbaaGreat
namespace Go.Proofs.YtahlgcidhnjlbaaGreat
open Go Go.Pv Go.ChangeShapes Go.WideShapes Go.ChangeAt Go.RowKit
theorem al9:ownKnob al.godebug=none:=by kernel_rfl
theorem Xw:laidOutB al=true:=by kernel_rfl
theorem Z7{f:FuncId}{fn:Func}(qP:al.funcs[f]? =some fn)(Jt:∀args w,(callFunc f args).run al w= .ok (.enter f args) w){w:World}{ν:bf}{args:List ah}{be:Array Value}(h:bt al f args (.bool true))(aL:∀k j b,¬ν.tr k j b)(bm:∀b o,ν.A b o→b<w.heap.size)(ae:∀k,ν.bx k=none)(ax:∀k,ν.ow k=none)(aM:cM w ν args be.toList):
  Calls al f be w fun e w'=>e= .returned (.bool true)∧Below w.heap.size w w':=by
 have aX:Pv.Good (fm ν ⟨[],[]⟩) w ν [] []:=⟨bm,fun k cs ad=>by simp[Pv.look]at ad,fun k bH bl J=>by simp[Pv.look]at J,fun g o ad=>by simp[Pv.look]at ad,fun g e9 n n' v v' bl J=>by simp[Pv.look]at J,fun g k n v bl J=>by simp[Pv.look]at J,fun k=>.inl (ae k),fun _ _ k j=>aL k j _⟩;rcases h w ν be aX (fun k=>⟨fun _=>ae k,fun _=>ax k,aL k⟩) aM with⟨_,ay⟩|⟨v,w',ay,_⟩
 ·refine ay.mono ?_;rintro e w' ⟨v,r,ai,bo,rfl,⟨rfl,rfl⟩,lL,_,_,_,l5⟩;simp only[ba]at lL;subst lL;refine⟨rfl,l5.os,l5.tape,l5.output,l5.size,fun k ad=>l5.block k ad ?_⟩;simp[fm,Pv.look]
 ·rw[Jt]at ay;cases ay
theorem aa5{W:World}{b o:Nat}(h:(rr W).A b o):b<W.heap.size:=by
 obtain⟨u,hu⟩:=h;rcases Nat.lt_or_ge b W.heap.size with h|h
 ·exact h
 ·simp[World.cell?,Array.getElem?_eq_none h]at hu
theorem al3{W:World}{cm:List ah}{us:Array Value}(h:reads W (.agg cm) us.toList):ba W (rr W) (.agg cm) (.agg us):=by
 obtain⟨v,J,U,_⟩:=h;have ar:=U;simp only[ba]at ar;obtain⟨ws,rfl,_⟩:=ar;have:ws=us:=by
  have:ws.toList=us.toList:=by simpa[pR]using J
  exact Array.toList_inj.1 this
 rw[←this];exact U
theorem XO{H:Type}{enc:gm×Value→H}{W:World}{spare:Nat→Bool}{held:Bool}{us:Array Value}{x:DataW H×List MemPlace}{fuel:Nat}(h:jt enc al W 0 spare held fuel 43 us.toList=some x):∃r:na,r.wf∧ba W (rr W) r.e (.agg us):=by obtain⟨r,aM,agt⟩:=amP h;exact⟨r,aM,al3 agt⟩
end Go.Proofs.YtahlgcidhnjlbaaGreat
