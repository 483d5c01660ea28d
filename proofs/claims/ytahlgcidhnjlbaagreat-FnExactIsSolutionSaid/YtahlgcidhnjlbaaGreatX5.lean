/- From a contract to the row. -/
import Derived.Test.YtahlgcidhnjlbaaGreatProg
import Derived.ProofKit
import Derived.Carry
import Derived.WalkKit
import Derived.Test.YtahlgcidhnjlbaaGreatX4
set_option linter.all false
set_option maxHeartbeats 4000000
open Bool renaming and_eq_true→cC,eq_iff_iff→p3,false_eq_true→gS,or_eq_true→mA
open Go renaming TypeId→fR
open Go.DataW renaming trod→iO
open Go.IntWalk renaming i64_in→oF
open Go.Op renaming bytesLess→ho
open Go.Proofs.Tryz renaming prog→al
open Go.Value renaming cells→pe
open List renaming all_eq_true→gh,cons_append→bV,drop→nj,drop_eq_getElem_cons→k6,getElem?_eq_getElem→cf,getElem?_eq_none→p5,getElem?_eq_some_iff→fi,getElem_of_mem→nk,length_cons→p6,length_drop→r7,map_cons→hf,mem_append→ky,mem_cons→fY,mem_filter→nl,mem_map→iP,mem_of_getElem?→dL,nil_append→bY,pairwise_cons→mB,pairwise_iff_getElem→pj,take→lG,take_length→pk,take_of_length_le→hz
open List.Pairwise renaming filter→W0
open List.cons renaming injEq→p4
open Nat renaming le_refl→eR,le_trans→j8
open Option renaming getD_none→nm,getD_some→j9,isSome_none→l0,isSome_some→po
open Option.some renaming inj→fj,injEq→dG
open _root_ renaming False→eK,Option→aY,UInt8→dz,beq_iff_eq→dO,decide_eq_false→iq,decide_eq_false_iff_not→gz,decide_eq_true→hA,decide_eq_true_eq→fk
namespace Go.Proofs.YtahlgcidhnjlbaaGreat
open Go Go.Pv
def O7:C:=(aa [cN 1 0,be 2 false] (aa [a7 3 4 1,dK 4 123 [.t 3,(gr 5000)],aT 5 .leq 4 5000,I 6 5,aq 6 true (a7 7 4 1),aq 6 true (cM 8 124 7),dy 9 6 8,I 2 9] .ret))
@[simp] def ajt:List bu:=[.tmp 2]
def yF:C:=(aa [cN 2 0,eQ 4 1] (.seq (aa [aF 7 0 1 2,aw 8 1 7,aT 9 .eql 8 1] (aS 9 (aa [I 10 1,aF 11 1 1 2,aw 12 1 11,b4 13 126 10 12,I 4 13] .ret) .skip)) (.seq (aa [aF 14 3 1 2,aw 15 1 14,cb 16 15,bS 17 0] (fe 18 17 16 (.seq (.block 1 (aa [cj 19 4 15 17,a7 20 4 19,dh 6 dt,bM 4 6 20] (.region [a7 21 4 6,I 22 1,b4 23 58 21 22,I 1 23]))) (.region [aT 24 .add 17 1,I 17 24])))) (aa [I 25 1,I 4 25] .ret))))
@[simp] def Ae:List bu:=[.tmp 4]
def Pj:C:=(aa [cN 3 1,dh 4 dt,be 5 false] (aa [I 7 0,a7 8 4 3,b4 9 127 7 8,dh 6 dt,bM 4 6 9] (.seq (.drawn true 13 [a7 10 4 6,a7 11 4 6,cM 12 128 11,bM 4 4 10,I 5 12]) .ret)))
@[simp] def U7:List bu:=[.cell 4 true 4,.tmp 5]
def O9:C:=(aa [be 6 false] (aa [I 7 0,I 8 1,bh 9 .geq 7 8,I 10 9,bZ 10 true 11 0,bZ 10 true 12 2,aq 10 true (bh 13 .leq 11 12),dy 14 10 13,I 6 14] .ret))
@[simp] def U2:List bu:=[.tmp 6]
def HQ:C:=(aa [be 2 false] (.seq (aa [I 9 0,cM 10 145 9,cx 11 10] (aS 11 (aa [be 2 false] .ret) .skip)) (.seq (aa [I 12 0,cb 13 12,bS 14 0] (fe 15 14 13 (.seq (.block 1 (aa [cj 16 5 12 14,a7 17 5 16,dh 4 ij,bM 5 4 17] (.seq (aa [gq 18 1 4 4,aF 19 0 1 18,aw 20 1 19,aT 21 .eql 20 1,I 22 21,aq 22 true (gq 23 1 4 4),aq 22 true (aF 24 1 1 23),aq 22 true (aw 25 1 24),aq 22 true (aF 26 0 1 4),aq 22 true (aw 27 1 26),aq 22 true (bh 28 .geq 25 27),dy 29 22 28] (aS 29 (aa [be 2 false] .ret) .skip)) (aa [gq 30 1 4 4,a7 31 4 30,dK 32 58 [.t 31,(.c (.slice 1 .nil []))],cb 33 32,bS 34 0] (.block 2 (.loop (aa [bh 35 .lss 34 33] (.seq (aS 35 .skip (.exit 2)) (.seq (.block 3 (aa [cj 36 1 32 34,aw 37 1 36,I 6 37] (aa [I 39 0,I 40 6,b4 41 146 39 40,I 38 41,cH 42 0 38,cH 43 1 38,dh 7 dt,bM 4 7 42,I 8 43] (aa [I 44 8] (aS 44 (aa [be 2 false] .ret) .skip))))) (.region [aT 45 .add 34 1,I 34 45])))))))))) (.region [aT 46 .add 14 1,I 14 46])))) (aa [be 2 true] .ret))))
@[simp] def Lh:List bu:=[.tmp 2]
def O3:C:=(aa [be 2 false] (.seq (aa [bS 3 0] (.block 0 (.loop (.seq (aa [I 5 3,I 6 0,b7 7 (.slen (.t 6)),bh 8 .lss 5 7] (aS 8 .skip (.exit 0))) (.seq (.block 1 (aa [I 11 0,I 12 3,b7 13 (.sidx (.t 11) (.t 12)),b7 14 (.bin .geq false (.t 13) (.c (.int .u8 97))),I 15 14,bZ 15 true 16 0,bZ 15 true 17 3,aq 15 true (b7 18 (.sidx (.t 16) (.t 17))),aq 15 true (b7 19 (.bin .leq false (.t 18) (.c (.int .u8 122)))),dy 20 15 19,I 4 20] (aa [I 21 4,cx 22 21,I 23 22,bZ 23 true 24 3,aq 23 true (aT 25 .eql 24 0),bZ 23 true 26 25,bZ 26 false 27 0,bZ 26 false 28 3,aq 26 false (b7 29 (.sidx (.t 27) (.t 28))),aq 26 false (b7 30 (.bin .neq false (.t 29) (.c (.int .u8 45)))),bZ 26 false 31 30,bZ 31 true 32 0,bZ 31 true 33 3,aq 31 true (b7 34 (.sidx (.t 32) (.t 33))),aq 31 true (b7 35 (.conv .i64 (.t 34))),aq 31 true (dK 36 75 [.t 35,(gr 48),(gr 57)]),aq 31 true (cx 37 36),aq 26 false (dy 38 31 37),aq 23 true (c2 39 26 38),dy 40 23 39] (aS 40 (aa [be 2 false] .ret) .skip)))) (.region [I 9 3,aT 10 .add 9 1,I 3 10])))))) (aa [I 41 0,b7 42 (.slen (.t 41)),dK 43 75 [.t 42,(gr 1),(gr 12)],I 2 43] .ret)))
@[simp] def Ab:List bu:=[.tmp 2]
def Pa:C:=(aa [cN 2 0,bS 4 0] (aa [bS 5 1] (.seq (aa [aF 8 3 1 2,aw 9 1 8,cb 10 9,bS 11 0] (fe 12 11 10 (.seq (.block 1 (aa [cj 13 4 9 11,a7 14 4 13,dh 7 dt,bM 4 7 14] (.seq (aa [I 15 5,I 16 1,bh 17 .gtr 15 16] (aS 17 (aa [I 18 5,I 4 18] .ret) .skip)) (.region [I 19 5,a7 20 4 7,I 21 1,I 22 5,bh 23 .sub 21 22,b4 24 123 20 23,bh 25 .add 19 24,I 5 25])))) (.region [aT 26 .add 11 1,I 11 26])))) (aa [I 27 5,I 4 27] .ret))))
@[simp] def Li:List bu:=[.tmp 4]
def lK:C:=(aa [cN 1 0,be 2 false] (.seq (aa [aF 3 0 1 1,aw 4 1 3,aT 5 .neq 4 1,I 6 5,aq 6 true (aF 7 0 1 1),aq 6 true (aw 8 1 7),aq 6 true (aT 9 .neq 8 3),dy 10 6 9,I 11 10,aq 11 true (aF 12 1 1 1),aq 11 true (aw 13 1 12),aq 11 true (aT 14 .neq 13 0),dy 15 11 14,I 16 15,aq 16 false (aF 17 0 1 1),aq 16 false (aw 18 1 17),aq 16 false (aT 19 .neq 18 2),bZ 16 false 20 19,aq 20 true (aF 21 2 1 1),aq 20 true (aw 22 1 21),wz 20 true 23 (.bin .neq false (.t 22) (.c (.str []))),aq 16 false (dy 24 20 23),c2 25 16 24,I 26 25,aq 26 false (aF 27 0 1 1),aq 26 false (aw 28 1 27),aq 26 false (aT 29 .neq 28 4),bZ 26 false 30 29,aq 30 true (aF 31 3 1 1),aq 30 true (aw 32 1 31),aq 30 true (cb 33 32),aq 30 true (aT 34 .gtr 33 0),aq 26 false (dy 35 30 34),c2 36 26 35] (aS 36 (aa [be 2 false] .ret) .skip)) (.seq (aa [aF 37 0 1 1,aw 38 1 37] (.block 0 (aa [aT 40 .eql 38 0,I 39 40] (aS 39 (aa [be 2 true] .ret) (aa [aT 42 .eql 38 1,I 41 42] (aS 41 (aa [aF 43 1 1 1,aw 44 1 43,dK 45 75 [.t 44,(gr 0),(gr 100000)],I 2 45] .ret) (aa [aT 47 .eql 38 2,I 46 47] (aS 46 (aa [aF 48 2 1 1,aw 49 1 48,cM 50 119 49,I 2 50] .ret) (aa [aT 52 .eql 38 3,I 51 52] (aS 51 (aa [aF 53 1 1 1,aw 54 1 53,dK 55 75 [.t 54,(gr (-1000000000)),(gr 1000000000)],I 2 55] .ret) (aa [aT 57 .eql 38 4,I 56 57] (aS 56 (aa [aF 58 3 1 1,aw 59 1 58,cb 60 59,aT 61 .eql 60 2,I 62 61,aq 62 true (aF 63 3 1 1),aq 62 true (aw 64 1 63),aq 62 true (jG 65 4 64 0),aq 62 true (a7 66 4 65),aq 62 true (cM 67 124 66),dy 68 62 67,I 69 68,aq 69 true (aF 70 3 1 1),aq 69 true (aw 71 1 70),aq 69 true (jG 72 4 71 1),aq 69 true (a7 73 4 72),aq 69 true (cM 74 124 73),dy 75 69 74,I 2 75] .ret) .skip)))))))))))) (aa [be 2 false] .ret))))
@[simp] def lB:List bu:=[.tmp 2]
def Pc:C:=(aa [eQ 4 1] (aa [I 7 0,cb 8 7,I 5 8] (.seq (.block 0 (.loop (.seq (aa [I 9 5,aT 10 .gtr 9 0,I 11 10,bZ 11 true 12 0,bZ 11 true 13 5,aq 11 true (aT 14 .sub 13 1),aq 11 true (cj 15 1 12 14),aq 11 true (aw 16 1 15),bZ 11 true 17 1,aq 11 true (bh 18 .geq 16 17),dy 19 11 18] (aS 19 .skip (.exit 0))) (.block 1 (.region [I 20 5,aT 21 .sub 20 1,I 5 21]))))) (.seq (aa [I 22 5,I 23 0,cb 24 23,bh 25 .lss 22 24,I 26 25,bZ 26 true 27 0,bZ 26 true 28 5,aq 26 true (cj 29 1 27 28),aq 26 true (aw 30 1 29),bZ 26 true 31 1,aq 26 true (bh 32 .eql 30 31),dy 33 26 32] (aS 33 (aa [I 34 0,I 4 34] .ret) .skip)) (aa [fD 35 1 3 [],I 36 0,I 37 5,b7 38 (.lsl 1 (.t 36) none (some (.t 37))),iN 39 1 3 35 38,I 6 39] (aa [I 40 6,I 41 1,fD 42 1 3 [.t 41],iN 43 1 3 40 42,I 6 43] (aa [I 44 6,I 45 0,I 46 5,b7 47 (.lsl 1 (.t 45) (some (.t 46)) none),iN 48 1 3 44 47,I 4 48] .ret)))))))
@[simp] def x1:List bu:=[.tmp 4]
def D2:C:=(aa [cN 3 1,dh 4 dt] (.seq (aa [aF 7 0 1 3,aw 8 1 7,aT 9 .eql 8 1] (aS 9 (aa [I 11 0,aF 12 1 1 3,aw 13 1 12,b4 14 146 11 13,I 10 14,cH 15 0 10,cH 16 1 10,dh 5 dt,bM 4 5 15,I 6 16] (aa [I 17 6] (aS 17 (aa [a7 18 4 5,bM 4 4 18] .ret) .skip))) .skip)) (.seq (aa [aF 19 0 1 3,aw 20 1 19,aT 21 .eql 20 4] (aS 21 (.seq (.drawn true 36 [I 22 0,aF 23 3 1 3,aw 24 1 23,jG 25 4 24 0,a7 26 4 25,b4 27 127 22 26,I 28 0,aF 29 3 1 3,aw 30 1 29,jG 31 4 30 1,a7 32 4 31,b4 33 127 28 32,b4 34 189 27 33,bM 4 4 34]) .ret) .skip)) (aa [a7 35 4 3,bM 4 4 35] .ret))))
@[simp] def Gb:List bu:=[.cell 4 true 4]
def Pb:C:=(aa [cN 1 0,be 2 false] (aa [a7 3 4 1,dK 4 123 [.t 3,(gr 5000)],aT 5 .leq 4 5000,I 2 5] .ret))
@[simp] def U3:List bu:=[.tmp 2]
def Pm:C:=(aa [be 2 false] (.seq (aa [I 5 0,cb 6 5,bS 7 0] (fe 8 7 6 (.seq (.block 1 (aa [I 9 7,cj 10 5 5 7,a7 11 5 10,dh 4 ij,I 3 9,bM 5 4 11] (.seq (.drawn true 41 [I 12 3,aT 13 .gtr 12 0,I 14 13,bZ 14 true 15 0,bZ 14 true 16 3,aq 14 true (aT 17 .sub 16 1),aq 14 true (cj 18 5 15 17),aq 14 true (aF 19 0 1 18),aq 14 true (aw 20 1 19),aq 14 true (aF 21 0 1 4),aq 14 true (aw 22 1 21),aq 14 true (bh 23 .geq 20 22),dy 24 14 23,I 25 24,aq 25 false (aF 26 0 1 4),aq 25 false (aw 27 1 26),aq 25 false (dK 28 75 [.t 27,(gr 0),(gr 100000)]),aq 25 false (cx 29 28),c2 30 25 29,I 31 30,aq 31 false (gq 32 1 4 4),aq 31 false (a7 33 4 32),aq 31 false (cM 34 56 33),aq 31 false (cx 35 34),c2 36 31 35]) (aS 36 (aa [be 2 false] .ret) .skip)))) (.region [aT 37 .add 7 1,I 7 37])))) (aa [I 38 0,cb 39 38,aT 40 .leq 39 400,I 2 40] .ret)))
@[simp] def Lm:List bu:=[.tmp 2]
def Pk:C:=(aa [dh 4 dt,be 5 false] (.seq (aa [I 8 0,cb 9 8,bS 10 0] (fe 11 10 9 (.seq (.block 1 (aa [cj 12 5 8 10,a7 13 5 12,dh 7 ij,bM 5 7 13] (aa [aF 14 0 1 7,aw 15 1 14,I 16 1,bh 17 .eql 15 16] (aS 17 (aa [gq 18 1 4 7,a7 19 4 18,bM 4 4 19,be 5 true] .ret) .skip)))) (.region [aT 20 .add 10 1,I 10 20])))) (aa [j7 21 dt [],bM 4 4 21,be 5 false] .ret)))
@[simp] def Lk:List bu:=[.cell 4 true 4,.tmp 5]
def Po:C:=(aa [eQ 4 5,be 5 false] (aa [fD 10 4 30 [],I 6 10] (aa [fD 11 4 30 [],I 7 11] (.seq (aa [I 12 1,cb 13 12,bS 14 0] (fe 15 14 13 (.seq (.block 1 (aa [cj 16 5 12 14,a7 17 5 16,dh 9 ij,bM 5 9 17] (aa [I 18 6,aF 19 0 1 9,aw 20 1 19,cM 21 114 20,fD 22 4 30 [.t 21],iN 23 4 30 18 22,I 6 23] (.region [I 24 7,gq 25 1 4 9,a7 26 4 25,fD 27 4 30 [.t 26],iN 28 4 30 24 27,I 7 28])))) (.region [aT 29 .add 14 1,I 14 29])))) (aa [I 30 0,I 31 6,I 32 7,dK 33 202 [.t 30,.t 31,.t 32],cH 34 0 33,cH 35 1 33,I 4 34,I 5 35] .ret)))))
@[simp] def U8:List bu:=[.tmp 4,.tmp 5]
def sf:C:=(aa [cN 4 1,cN 5 2,eQ 6 5,be 7 false] (aa [I 12 0,a7 13 4 4,b4 14 201 12 13,bM 4 4 14] (aa [I 15 0,a7 16 4 5,b4 17 201 15 16,bM 4 5 17] (.seq (aa [aF 18 0 1 4,aw 19 1 18,aT 20 .eql 19 1,I 21 20,aq 21 true (aF 22 0 1 5),aq 21 true (aw 23 1 22),aq 21 true (aT 24 .eql 23 1),dy 25 21 24,I 26 25,aq 26 true (aF 27 1 1 4),aq 26 true (aw 28 1 27),aq 26 true (aF 29 1 1 5),aq 26 true (aw 30 1 29),aq 26 true (bh 31 .lss 28 30),dy 32 26 31] (aS 32 (aa [I 33 0,aF 34 1 1 5,aw 35 1 34,a7 36 4 4,dK 37 212 [.t 33,.t 35,.t 36],cH 38 0 37,cH 39 1 37,I 6 38,I 7 39] .ret) .skip)) (.seq (aa [aF 40 0 1 4,aw 41 1 40,aT 42 .eql 41 1,I 43 42,aq 43 true (aF 44 0 1 5),aq 43 true (aw 45 1 44),aq 43 true (aT 46 .eql 45 1),dy 47 43 46,I 48 47,aq 48 true (aF 49 1 1 4),aq 48 true (aw 50 1 49),aq 48 true (aF 51 1 1 5),aq 48 true (aw 52 1 51),aq 48 true (bh 53 .eql 50 52),dy 54 48 53] (aS 54 (aa [I 55 0,I 6 55,be 7 true] .ret) .skip)) (.seq (aa [aF 56 0 1 4,aw 57 1 56,aT 58 .eql 57 1] (aS 58 (aa [I 59 0,aF 60 1 1 4,aw 61 1 60,a7 62 4 5,dK 63 212 [.t 59,.t 61,.t 62],cH 64 0 63,cH 65 1 63,I 6 64,I 7 65] .ret) .skip)) (.seq (aa [aF 66 0 1 5,aw 67 1 66,aT 68 .eql 67 1] (aS 68 (aa [I 69 0,aF 70 1 1 5,aw 71 1 70,a7 72 4 4,dK 73 212 [.t 69,.t 71,.t 72],cH 74 0 73,cH 75 1 73,I 6 74,I 7 75] .ret) .skip)) (.seq (aa [aF 76 0 1 4,aw 77 1 76,aF 78 0 1 5,aw 79 1 78,bh 80 .neq 77 79,I 81 80,aq 81 false (aF 82 1 1 4),aq 81 false (aw 83 1 82),aq 81 false (aF 84 1 1 5),aq 81 false (aw 85 1 84),aq 81 false (bh 86 .neq 83 85),c2 87 81 86,I 88 87,aq 88 false (aF 89 2 1 4),aq 88 false (aw 90 1 89),aq 88 false (aF 91 2 1 5),aq 88 false (aw 92 1 91),aq 88 false (bh 93 .neq 90 92),c2 94 88 93] (aS 94 (aa [eQ 6 5,be 7 false] .ret) .skip)) (.seq (aa [aF 95 3 1 4,aw 96 1 95,cb 97 96,bS 98 0] (fe 99 98 97 (.seq (.block 1 (aa [I 100 98,cj 101 4 96 98,a7 102 4 101,dh 9 dt,I 8 100,bM 4 9 102] (.seq (.drawn true 119 [I 104 0,a7 105 4 9,aF 106 3 1 5,aw 107 1 106,I 108 8,cj 109 4 107 108,a7 110 4 109,dK 111 180 [.t 104,.t 105,.t 110],I 103 111,cH 112 0 103,cH 113 1 103,I 10 112,I 11 113]) (.seq (aa [I 114 11,cx 115 114] (aS 115 (aa [eQ 6 5,be 7 false] .ret) .skip)) (.region [I 116 10,I 0 116]))))) (.region [aT 117 .add 98 1,I 98 117])))) (aa [I 118 0,I 6 118,be 7 true] .ret))))))))))
@[simp] def rM:List bu:=[.tmp 6,.tmp 7]
def D3:C:=(aa [cN 3 1,dh 4 dt] (.seq (aa [aF 7 0 1 3,aw 8 1 7,aT 9 .eql 8 1] (aS 9 (aa [I 11 0,aF 12 1 1 3,aw 13 1 12,b4 14 146 11 13,I 10 14,cH 15 0 10,cH 16 1 10,dh 5 dt,bM 4 5 15,I 6 16] (aa [I 17 6] (aS 17 (aa [a7 18 4 5,bM 4 4 18] .ret) .skip))) .skip)) (aa [a7 19 4 3,bM 4 4 19] .ret)))
@[simp] def Gc:List bu:=[.cell 4 true 4]
def Pn:C:=(aa [eQ 6 5,be 7 false] (.seq (aa [I 12 1,cb 13 12,bS 14 0] (fe 15 14 13 (.seq (.block 1 (aa [I 16 14,cj 17 4 12 14,a7 18 4 17,dh 9 dt,I 8 16,bM 4 9 18] (.seq (.drawn true 34 [I 20 0,a7 21 4 9,I 22 2,I 23 8,cj 24 4 22 23,a7 25 4 24,dK 26 180 [.t 20,.t 21,.t 25],I 19 26,cH 27 0 19,cH 28 1 19,I 10 27,I 11 28]) (.seq (aa [I 29 11,cx 30 29] (aS 30 (aa [eQ 6 5,be 7 false] .ret) .skip)) (.region [I 31 10,I 0 31]))))) (.region [aT 32 .add 14 1,I 14 32])))) (aa [I 33 0,I 6 33,be 7 true] .ret)))
@[simp] def Ln:List bu:=[.tmp 6,.tmp 7]
def A3:C:=(aa [cN 5 2,eQ 6 5,be 7 false] (aa [I 15 0,a7 16 4 5,b4 17 60 15 16,I 14 17,cH 18 0 14,cH 19 1 14,dh 8 dt,bM 4 8 18,I 9 19] (.seq (aa [I 20 9,cx 21 20,I 22 21,bZ 22 false 23 1,aq 22 false (a7 24 4 8),aq 22 false (b4 25 233 23 24),c2 26 22 25,I 27 26,bZ 27 false 28 0,aq 27 false (cb 29 28),aq 27 false (aT 30 .geq 29 400),c2 31 27 30] (aS 31 (aa [eQ 6 5,be 7 false] .ret) .skip)) (aa [fD 32 5 113 [],I 10 32] (.seq (aa [I 33 0,cb 34 33,bS 35 0] (fe 36 35 34 (.seq (.block 1 (aa [cj 37 5 33 35,a7 38 5 37,dh 12 ij,bM 5 12 38] (aa [gq 39 1 4 12,a7 40 4 39,I 41 1,a7 42 4 8,dK 43 234 [.t 40,.t 41,.t 42],dh 13 dt,bM 4 13 43] (.seq (aa [a7 44 4 13,cM 45 128 44,cx 46 45] (aS 46 (aa [eQ 6 5,be 7 false] .ret) .skip)) (.region [I 47 10,aF 48 0 1 12,aw 49 1 48,a7 50 4 13,j7 51 ij [(0,1,(.t 49)),(1,4,(.t 50))],fD 52 5 113 [.t 51],iN 53 5 113 47 52,I 10 53]))))) (.region [aT 54 .add 35 1,I 35 54])))) (aa [I 55 10,I 56 1,a7 57 4 8,j7 58 ij [(0,1,(.t 56)),(1,4,(.t 57))],b4 59 235 55 58,I 6 59,be 7 true] .ret))))))
@[simp] def Af:List bu:=[.tmp 6,.tmp 7]
def Pd:C:=(aa [cN 3 1,be 4 false] (.seq (aa [aF 7 3 1 3,aw 8 1 7,cb 9 8,bS 10 0] (fe 11 10 9 (.seq (.block 1 (aa [cj 12 4 8 10,a7 13 4 12,dh 6 dt,bM 4 6 13] (aa [I 14 0,a7 15 4 6,b4 16 233 14 15] (aS 16 (aa [be 4 true] .ret) .skip)))) (.region [aT 17 .add 10 1,I 10 17])))) (aa [aF 18 0 1 3,aw 19 1 18,aT 20 .eql 19 1,I 21 20,aq 21 true (aF 22 1 1 3),aq 21 true (aw 23 1 22),bZ 21 true 24 0,aq 21 true (bh 25 .eql 23 24),dy 26 21 25,I 4 26] .ret)))
@[simp] def Lj:List bu:=[.tmp 4]
def D1:C:=(aa [cN 3 0,cN 5 2,dh 6 dt] (.seq (aa [aF 7 0 1 3,aw 8 1 7,aT 9 .eql 8 1,I 10 9,aq 10 true (aF 11 1 1 3),aq 10 true (aw 12 1 11),bZ 10 true 13 1,aq 10 true (bh 14 .eql 12 13),dy 15 10 14] (aS 15 (aa [a7 16 4 5,bM 4 6 16] .ret) .skip)) (.seq (aa [aF 17 0 1 3,aw 18 1 17,aT 19 .eql 18 4] (aS 19 (.seq (.drawn true 36 [aF 20 3 1 3,aw 21 1 20,jG 22 4 21 0,a7 23 4 22,I 24 1,a7 25 4 5,dK 26 234 [.t 23,.t 24,.t 25],aF 27 3 1 3,aw 28 1 27,jG 29 4 28 1,a7 30 4 29,I 31 1,a7 32 4 5,dK 33 234 [.t 30,.t 31,.t 32],b4 34 189 26 33,bM 4 6 34]) .ret) .skip)) (aa [a7 35 4 3,bM 4 6 35] .ret))))
@[simp] def Ga:List bu:=[.cell 6 true 4]
def Pl:C:=(aa [cN 3 1,eQ 4 5] (aa [I 7 0,cb 8 7,I 5 8] (.seq (.block 0 (.loop (.seq (.seq (.drawn true 38 [I 9 5,aT 10 .gtr 9 0,I 11 10,bZ 11 true 12 0,bZ 11 true 13 5,aq 11 true (aT 14 .sub 13 1),aq 11 true (cj 15 5 12 14),aq 11 true (aF 16 0 1 15),aq 11 true (aw 17 1 16),aq 11 true (aF 18 0 1 3),aq 11 true (aw 19 1 18),aq 11 true (bh 20 .gtr 17 19),dy 21 11 20]) (aS 21 .skip (.exit 0))) (.block 1 (.region [I 22 5,aT 23 .sub 22 1,I 5 23]))))) (aa [fD 24 5 113 [],I 25 0,I 26 5,b7 27 (.lsl 5 (.t 25) none (some (.t 26))),iN 28 5 113 24 27,I 6 28] (aa [I 29 6,a7 30 5 3,fD 31 5 113 [.t 30],iN 32 5 113 29 31,I 6 32] (aa [I 33 6,I 34 0,I 35 5,b7 36 (.lsl 5 (.t 34) (some (.t 35)) none),iN 37 5 113 33 36,I 4 37] .ret))))))
@[simp] def Ll:List bu:=[.tmp 4]
def kK:List (Nat×dA):=[
 (3,⟨1,8,.int .i64,.int .i64 0⟩),
 (5,⟨1,1,.int .u8,.int .u8 0⟩),
 (9,⟨1,16,.str,.str []⟩),
 (27,⟨1,24,.slice 30,.slice 4 .nil []⟩),
 (30,⟨4,56,.struct [(0,3),(1,3),(2,9),(3,27)],.agg [.int .i64 0,.int .i64 0,.str [],.slice 4 .nil []]⟩),
 (46,⟨1,24,.slice 113,.slice 5 .nil []⟩),
 (76,⟨1,24,.slice 3,.slice 1 .nil []⟩),
 (113,⟨5,64,.struct [(0,3),(1,30)],.agg [.int .i64 0,.int .i64 0,.int .i64 0,.str [],.slice 4 .nil []]⟩)]
theorem eB:fL al kK=true:=by kernel_rfl
theorem ahS:b0 kK O7 ajt 1 Tryz.f56=true:=by kernel_rfl
theorem abm:al.funcs[(56:Nat)]? =some Tryz.f56:=Tryz.func56
theorem CD:b0 kK yF Ae 2 Tryz.f58=true:=by kernel_rfl
theorem Bc:al.funcs[(58:Nat)]? =some Tryz.f58:=Tryz.func58
theorem ah3:b0 kK Pj U7 2 Tryz.f60=true:=by kernel_rfl
theorem aby:al.funcs[(60:Nat)]? =some Tryz.f60:=Tryz.func60
theorem ahU:b0 kK O9 U2 3 Tryz.f75=true:=by kernel_rfl
theorem abo:al.funcs[(75:Nat)]? =some Tryz.f75:=Tryz.func75
theorem T7:b0 kK HQ Lh 1 Tryz.f76=true:=by kernel_rfl
theorem Qr:al.funcs[(76:Nat)]? =some Tryz.f76:=Tryz.func76
theorem ahO:b0 kK O3 Ab 1 Tryz.f119=true:=by kernel_rfl
theorem abi:al.funcs[(119:Nat)]? =some Tryz.f119:=Tryz.func119
theorem ahV:b0 kK Pa Li 2 Tryz.f123=true:=by kernel_rfl
theorem abp:al.funcs[(123:Nat)]? =some Tryz.f123:=Tryz.func123
theorem mv:b0 kK lK lB 1 Tryz.f124=true:=by kernel_rfl
theorem l8:al.funcs[(124:Nat)]? =some Tryz.f124:=Tryz.func124
theorem ahX:b0 kK Pc x1 2 Tryz.f126=true:=by kernel_rfl
theorem abr:al.funcs[(126:Nat)]? =some Tryz.f126:=Tryz.func126
theorem KP:b0 kK D2 Gb 2 Tryz.f127=true:=by kernel_rfl
theorem It:al.funcs[(127:Nat)]? =some Tryz.f127:=Tryz.func127
theorem ahW:b0 kK Pb U3 1 Tryz.f128=true:=by kernel_rfl
theorem abq:al.funcs[(128:Nat)]? =some Tryz.f128:=Tryz.func128
theorem ah6:b0 kK Pm Lm 1 Tryz.f145=true:=by kernel_rfl
theorem abB:al.funcs[(145:Nat)]? =some Tryz.f145:=Tryz.func145
theorem ah4:b0 kK Pk Lk 2 Tryz.f146=true:=by kernel_rfl
theorem abz:al.funcs[(146:Nat)]? =some Tryz.f146:=Tryz.func146
theorem ah8:b0 kK Po U8 2 Tryz.f152=true:=by kernel_rfl
theorem abD:al.funcs[(152:Nat)]? =some Tryz.f152:=Tryz.func152
theorem ux:b0 kK sf rM 3 Tryz.f180=true:=by kernel_rfl
theorem tI:al.funcs[(180:Nat)]? =some Tryz.f180:=Tryz.func180
theorem KQ:b0 kK D3 Gc 2 Tryz.f201=true:=by kernel_rfl
theorem Iu:al.funcs[(201:Nat)]? =some Tryz.f201:=Tryz.func201
theorem ah7:b0 kK Pn Ln 3 Tryz.f202=true:=by kernel_rfl
theorem abC:al.funcs[(202:Nat)]? =some Tryz.f202:=Tryz.func202
theorem FN:b0 kK A3 Af 3 Tryz.f212=true:=by kernel_rfl
theorem Ek:al.funcs[(212:Nat)]? =some Tryz.f212:=Tryz.func212
theorem ahY:b0 kK Pd Lj 2 Tryz.f233=true:=by kernel_rfl
theorem abt:al.funcs[(233:Nat)]? =some Tryz.f233:=Tryz.func233
theorem KO:b0 kK D1 Ga 3 Tryz.f234=true:=by kernel_rfl
theorem Is:al.funcs[(234:Nat)]? =some Tryz.f234:=Tryz.func234
theorem ah5:b0 kK Pl Ll 2 Tryz.f235=true:=by kernel_rfl
theorem abA:al.funcs[(235:Nat)]? =some Tryz.f235:=Tryz.func235
mutual
def k9:bT→Int→Int
 | .mk _ _ _ args,m=>nY args 1 m
def nY:List bT→Int→Int→Int
 |[],n,_=>n
 |x::xs,n,m=>if m<n then n else nY xs (n+k9 x (m-n)) m
end
mutual
theorem HV:∀(t:bT) (m:Int),0≤m→1≤k9 t m∧k9 t m≤m+1
 | .mk _ _ _ args,m,h=>by simp only[k9];exact PL args 1 m h (by omega) (by omega)
theorem PL:∀(l:List bT) (n m:Int),0≤m→1≤n→n≤m+1→1≤nY l n m∧nY l n m≤m+1
 |[],n,m,_,J,U=>by simp only[nY];exact⟨J,U⟩
 |x::xs,n,m,bA,J,U=>by
  simp only[nY];split
  ·exact⟨J,U⟩
  ·have:=HV x (m-n) (by omega);exact PL xs _ m bA (by omega) (by omega)
end
theorem D8:∀(t:T) (m:Int),0≤m→(k9 t.tm m≤m↔(t.size:Int)≤m)∧((t.size:Int)≤m→k9 t.tm m=t.size)
 | .pair a b,m,h=>by
  have bt:=T.size_pos a;have ad:=T.size_pos b;simp only[T.tm,k9,nY,T.size];by_cases J:m<1
  ·rw[if_pos J];exact⟨by omega,fun h=>by omega⟩
  ·rw[if_neg J];obtain⟨bC,a2⟩:=D8 a (m-1) (by omega);have a3:=HV a.tm (m-1) (by omega);by_cases U:(a.size:Int)≤m-1
   ·have e:=a2 U;rw[e];by_cases ao:m<1+(a.size:Int)
    ·omega
    ·rw[if_neg ao];obtain⟨ch,b6⟩:=D8 b (m-(1+a.size)) (by omega);refine⟨by omega,fun h=>?_⟩;rw[b6 (by omega)];omega
   ·have:¬k9 a.tm (m-1)≤m-1:=fun h=>U (bC.1 h);rw[if_pos (by omega)];exact⟨by omega,fun h=>by omega⟩
 | .nil,m,h=>by simp[T.tm,k9,nY,T.size]
 | .var _,m,h=>by simp[T.tm,k9,nY,T.size]
 | .sym _,m,h=>by simp[T.tm,k9,nY,T.size]
 | .num _,m,h=>by simp[T.tm,k9,nY,T.size]
theorem YG(t:bT)(m:Int):k9 t m=nY t.args 1 m:=by cases t;rfl
theorem Ww(t:bT):∀m:Int,0≤m→m≤1000000→bF al 123 [enc t,.int .i64 m] (.int .i64 (k9 t m)):=by
 suffices H:∀(k:Nat) (t:bT),t.sz≤k→∀m:Int,0≤m→m≤1000000→bF al 123 [enc t,.int .i64 m] (.int .i64 (k9 t m))from H _ t (eR _)
 intro k;induction k with
 |zero=>intro t aO;cases t;simp[bT.sz]at aO
 |succ k bU=>
  intro t aO m bA J;refine bm eB abp ahV fun aQ=>?_;unfold Pa;have eY:t.args.length≤68719476736:=by rw[u7]at aQ;simp[ez,dZ,eo,lim]at aQ;omega
  simp;refine dI [1,9,10] (fun i (n:Int)=>[(5,.int .i64 n),(11,.int .i64 i)]) t.args.length (fun i n=>(1≤n∧n≤m+1)∧nY (t.args.drop i) n m=k9 t m) 1 bW ⟨by omega,by simp[YG]⟩ (fun n af _=>?_) (fun i n hi af _=>?_)
  ·simp;(with_reducible repeat' first|refine aj ?_|simp);simp[bz,Li,aW,aX,aV];have:=af.2;simp[nY]at this;exact this
  ·obtain⟨⟨rk,BJ⟩,af⟩:=af;obtain⟨x,ae,cE⟩:=dP hi;have aP:t.args.drop i=x::t.args.drop (i+1):=by rw[k6 hi,cE]
   have dX:x.sz≤k:=by have:=L8 (dL ae);omega
   rw[aP]at af;simp only[nY]at af;simp[hi,cE];by_cases ad:m<n
   ·rw[if_pos ad]at af;(with_reducible repeat' first|refine aj ?_|simp[ad]);simp[bz,Li,aW,aX,aV];exact af
   ·rw[if_neg ad]at af;have au:=HV x (m-n) (by omega);((with_reducible repeat' first|refine aj ?_|refine aD (bU x dX (m-n) (by omega) (by omega)) ?_|refine aE (bU x dX (m-n) (by omega) (by omega)) ?_|simp[ad]|((first|apply bL|apply bQ|apply bP)<;>intro h<;>try simp at h))<;>(try exact cq));exact bO.rng (n+k9 x (m-n)) hi ⟨by omega,af⟩ bW
theorem AE(t:T):bF al 128 [t.e] (.bool (decide (t.size≤5000))):=by
 have au:=(D8 t 5000 (by omega)).1;have key:=Ww t.tm 5000 (by omega) (by omega);rw[qW]at key;refine bm eB abq ahW fun aQ=>?_;unfold Pb;simp;(with_reducible repeat' first|refine aj ?_|refine aD key ?_|refine aE key ?_|simp);simp[bz,U3,aW,aX,aV];have:(k9 t.tm 5000≤5000)=(t.size≤5000):=by rw[au];simp;omega
 simp[this]
def aeS(l:List ar)(v:Int)(k:Nat)(st:bq):Prop:=∃i:Nat,i≤l.length∧k=l.length-i∧df l v=df (l.drop i) v∧st=⟨[(1,.int .i64 v),(4,.ptr (.loc 0) 0),(8,.slice 5 .no (l.map ar.e)),(9,.int .i64 l.length),(10,.int .i64 i)],[(.loc 0,[.int .i64 0,.int .i64 0,.str [],.slice 4 .nil []])],[],1,[]⟩
set_option maxRecDepth 4000 in
theorem qN(l:List ar)(v:Int)(av:l.length≤1000000):bF al 146 [.slice 5 .no (l.map ar.e),.int .i64 v] (.tuple [((df l v).getD .nil).e,.bool (df l v).isSome]):=by
 refine bm eB abz ah4 fun aQ=>?_;unfold Pk;simp;refine oU (aeS l v) l.length _ bW ⟨0,by omega,rfl,by simp,rfl⟩ ?_;rintro k st ⟨i,hi,ab,a1,rfl⟩ kD cL;clear kD cL;by_cases bD:i<l.length
 ·obtain⟨b,ad⟩:∃b,l[i]? =some b:=⟨_,cf bD⟩;have Rm:l.drop i=b::l.drop (i+1):=by rw[k6 bD];rw[cf bD]at ad;simp at ad;rw[ad]
  have cy:∀h,l[i]'h=b:=fun h=>by rw[cf h]at ad;simpa using ad
  simp[cy,bD];(with_reducible repeat' first|((first|apply bL|apply bQ|apply bP)<;>intro h<;>try simp at h)|refine aj ?_|simp[cy])
  ·have:df l v=some b.t:=by rw[a1,Rm];simp[df,h]
   simp[bz,Lk,aW,aX,aV];simp[this]
  ·refine bO.next (l.length-(i+1)) (by omega) ⟨i+1,by omega,rfl,?_,rfl⟩ bW;rw[a1,Rm];simp[df,h]
 ·have:df l v=none:=by rw[a1,List.drop_of_length_le (by omega)];simp[df]
  simp[bD];(with_reducible repeat' first|((first|apply bL|apply bQ|apply bP)<;>intro h<;>try simp at h)|refine aj ?_|simp);simp[bz,Lk,aW,aX,aV];simp[this]
theorem alp(l:List ar)(av:l.length≤1000000)(t:T):bF al 127 [.slice 5 .no (l.map ar.e),t.e] (t.sub (df l)).e:=by
 induction t with
 |pair a b dS dT=>
  refine bm eB It KP fun aQ=>?_;unfold D2;simp;(with_reducible repeat' first|refine aj ?_|refine aD dS ?_|refine aE dS ?_|refine aD dT ?_|refine aE dT ?_|refine aD (GO _ _) ?_|refine aE (GO _ _) ?_|simp);all_goals simp[bz,Gb,aW,aX,aV]
  all_goals simp[T.sub]
 |var n=>
  refine bm eB It KP fun aQ=>?_;unfold D2;simp;((with_reducible repeat' first|refine aj ?_|refine aD (qN l n av) ?_|refine aE (qN l n av) ?_|simp|((first|apply bL|apply bQ|apply bP)<;>intro h<;>try simp at h))<;>(try exact cq));all_goals simp[bz,Gb,aW,aX,aV]
  all_goals cases ad:df l n<;>simp_all[T.sub]
 |_=>
  refine bm eB It KP fun aQ=>?_;unfold D2;simp;(with_reducible repeat' first|refine aj ?_|simp);all_goals simp[bz,Gb,aW,aX,aV]
  all_goals simp[T.sub]
theorem Wx(l:List ar)(av:l.length≤1000000)(t:T):bF al 127 [.slice 5 .no (l.map ar.e),t.e] (t.ap (bR l)).e:=by have:=alp l av t;rw[VW]at this;exact this
theorem Dk(l:List ar)(av:l.length≤1000000)(t:T):bF al 60 [.slice 5 .no (l.map ar.e),t.e] (.tuple [(t.ap (bR l)).e,.bool (decide ((t.ap (bR l)).size≤5000))]):=by refine bm eB aby ah3 fun aQ=>?_;unfold Pj;simp;(with_reducible repeat' first|refine aj ?_|refine aD (Wx l av t) ?_|refine aE (Wx l av t) ?_|refine aD (AE _) ?_|refine aE (AE _) ?_|simp);simp[bz,U7,aW,aX,aV]
def vS(v:Int)(l:List T):Bool:=l.any (T.occ v)
theorem TR(v:Int)(t:T):t.occ v=(vS v t.args||(t.kind==1&&t.int==v)):=by cases t<;>simp[T.occ,vS]
theorem wx(v:Int)(t:T):bF al 233 [.int .i64 v,t.e] (.bool (t.occ v)):=by
 suffices H:∀(k:Nat) (t:T),t.size≤k→bF al 233 [.int .i64 v,t.e] (.bool (t.occ v))from H _ t (eR _)
 intro k;induction k with
 |zero=>intro t aO;have:=T.size_pos t;omega
 |succ k bU=>
  intro t aO;have q9:t.args.length≤2:=by cases t<;>simp
  refine bm eB abt ahY fun aQ=>?_;unfold Pd;simp;refine dI [0,3,8,9] (fun i (_:Unit)=>[(10,.int .i64 i)]) t.args.length (fun i _=>vS v (t.args.drop i)=vS v t.args) () bW (by simp) (fun _ af _=>?_) (fun i _ hi af _=>?_)
  ·have bA:vS v t.args=false:=by rw[←af];simp[vS]
   rw[TR,bA];simp;((with_reducible repeat' first|refine aj ?_|simp|((first|apply bL|apply bQ|apply bP)<;>intro h<;>try simp at h))<;>(try exact cq));all_goals simp[bz,Lj,aW,aX,aV]
   all_goals simp_all
  ·obtain⟨x,ae,cE⟩:=dP hi;have aP:t.args.drop i=x::t.args.drop (i+1):=by rw[k6 hi,cE]
   have dX:x.size≤k:=by have hm:=dL ae;have:=T.size_pos x;cases t<;>simp at hm;rcases hm with rfl|rfl<;>simp[T.size]at aO<;>omega
   simp only[aP,vS,List.any_cons]at af;simp[hi,cE];cases ax:x.occ v with
   |true=>
    rw[ax]at af;simp at af;have bA:t.occ v=true:=by rw[TR];simp[vS];left;simpa using af
    (with_reducible repeat' first|refine aj ?_|refine aD (bU x dX) ?_|refine aE (bU x dX) ?_|simp[ax]);simp[bz,Lj,aW,aX,aV];simp[bA]
   |false=>rw[ax]at af;have S7:=bU x dX;exact fV
theorem GP(v:Int)(x t:T):bF al 234 [t.e,.int .i64 v,x.e] (t.ap (Go.Pv.one v x)).e:=by
 induction t with
 |pair a b dS dT=>
  refine bm eB Is KO fun aQ=>?_;unfold D1;simp;(with_reducible repeat' first|refine aj ?_|refine aD dS ?_|refine aE dS ?_|refine aD dT ?_|refine aE dT ?_|refine aD (GO _ _) ?_|refine aE (GO _ _) ?_|simp);all_goals simp[bz,Ga,aW,aX,aV]
  all_goals simp[T.ap]
 |var n=>
  refine bm eB Is KO fun aQ=>?_;unfold D1;simp;((with_reducible repeat' first|refine aj ?_|simp|((first|apply bL|apply bQ|apply bP)<;>intro h<;>try simp at h))<;>(try exact cq));all_goals simp[bz,Ga,aW,aX,aV]
  all_goals simp_all[T.ap,Go.Pv.one]
 |_=>
  refine bm eB Is KO fun aQ=>?_;unfold D1;simp;(with_reducible repeat' first|refine aj ?_|simp);all_goals simp[bz,Ga,aW,aX,aV]
  all_goals simp[T.ap]
theorem GR(s:List ar)(av:s.length≤1000000)(t:T):bF al 201 [.slice 5 .no (s.map ar.e),t.e] (hc s t).e:=by
 cases t with
 |var n=>
  cases ad:df s n with
  |none=>refine bm eB Iu KQ fun aQ=>?_;unfold D3;simp;(with_reducible repeat' first|refine aj ?_|refine aD (qN s n av) ?_|refine aE (qN s n av) ?_|simp[ad]);simp[bz,Gc,aW,aX,aV];simp[hc,bR,ad]
  |some x=>refine bm eB Iu KQ fun aQ=>?_;unfold D3;simp;(with_reducible repeat' first|refine aj ?_|refine aD (qN s n av) ?_|refine aE (qN s n av) ?_|simp[ad]);simp[bz,Gc,aW,aX,aV];simp[hc,bR,ad]
 |_=>refine bm eB Iu KQ fun aQ=>?_;unfold D3;simp;(with_reducible repeat' first|refine aj ?_|simp);simp[bz,Gc,aW,aX,aV];simp[hc]
theorem Si(b:ar):∀(s:List ar) (k:Nat),(∀i c,i<k→s[i]? =some c→c.v≤b.v)→(∀c,s[k]? =some c→b.v<c.v)→k≤s.length→oh b s=s.take k++b::s.drop k
 |[],k,_,_,ab=>by simp at ab;subst ab;rfl
 |c::s,0,_,U,_=>by have:=U c rfl;simp[oh,this]
 |c::s,k+1,J,U,ab=>by have:=J 0 c (by omega) rfl;simp only[oh,if_neg (by omega:¬b.v<c.v),List.take_succ_cons,List.drop_succ_cons,bV];rw[Si b s k (fun i d hi aP=>J (i+1) d (by omega) (by simpa using aP)) (fun d aP=>U d (by simpa using aP)) (by simpa using ab)]
theorem alo(s:List ar)(b:ar)(av:s.length≤1000000)(bt:hB s):bF al 235 [.slice 5 .no (s.map ar.e),b.e] (.slice 5 .no ((oh b s).map ar.e)):=by
 refine bm eB abA ah5 fun aQ=>?_;unfold Pl;simp;refine u9 [0,3] (fun(k:Nat)=>[(5,.int .i64 k)]) (fun k=>k) (fun k=>k≤s.length∧∀c,s[k]? =some c→b.v<c.v) s.length bW ⟨by omega,fun c h=>by simp at h⟩ (fun k af _=>?_);obtain⟨ab,af⟩:=af;have vk:(∀c,0<k→s[k-1]? =some c→c.v≤b.v)→oh b s=s.take k++b::s.drop k:=fun h=>Si b s k (fun i c hi au=>by
  obtain⟨d,aP⟩:∃d,s[k-1]? =some d:=⟨_,cf (by omega)⟩;have J:=h d (by omega) aP;rcases Nat.lt_or_ge i (k-1)with U|U
  ·have sx:=(fi.1 au);have ma:=(fi.1 aP);have:=pj.1 bt i (k-1) sx.1 ma.1 U;rw[sx.2,ma.2]at this;omega
  ·have:i=k-1:=by omega
   subst this;rw[aP]at au;cases au;exact J) af ab
 rcases Nat.eq_zero_or_pos k with rfl|fp
 ·have e:=vk fun c h=>by omega
  rw[e];simp;(with_reducible repeat' first|refine aj ?_|simp);simp[bz,Ll,aW,aX,aV];try simp[hz]
 ·obtain⟨d,aP⟩:∃d,s[k-1]? =some d:=⟨_,cf (by omega)⟩;have ak:((k:Int)-1).toNat=k-1:=by omega
  have aC:∀h,(s[k-1]'h)=d:=fun h=>by rw[cf h]at aP;exact fj aP
  have iE:(0:Int)<k:=by omega
  by_cases ad:b.v<d.v
  ·simp[fp,iE,ak,aC,ad,aP];(with_reducible repeat' first|refine aj ?_|simp[fp,iE,ak,aC,ad,aP]);refine bO.whl (k-1) (by omega) ⟨by omega,fun c au=>by rw[aP]at au;cases au;exact ad⟩ ?_;have bk:((k-1:Nat):Int)=(k:Int)-1:=by omega
   simp[bk];exact bW
  ·have e:=vk fun c _ au=>by rw[aP]at au;cases au;omega
   rw[e];simp[fp,iE,ak,aC,ad,aP];(with_reducible repeat' first|refine aj ?_|simp[fp,iE,ak,aC,ad,aP]);simp[bz,Ll,aW,aX,aV];have dc:lG s.length (s.map ar.e)=s.map ar.e:=hz (by simp);rw[dc,←List.map_take,←List.map_drop,←hf,←List.map_append];exact VT _
def LW(v:Int)(x:T)(b:ar):ar:=⟨b.v,b.t.ap (Go.Pv.one v x)⟩
def ae2(s:List ar)(v:Int)(x:T)(i:Nat)(out:List ar):Prop:=out=(s.take i).map (LW v x)∧∀b∈s.take i,(b.t.ap (Go.Pv.one v x)).size≤5000
theorem alr(s:List ar)(v:Int)(t:T)(av:s.length≤1000000)(bt:hB s):bF al 212 [.slice 5 .no (s.map ar.e),.int .i64 v,t.e] (gg (nr s v t)):=by
 obtain⟨x,ae⟩:∃x,x=t.ap (bR s):=⟨_,rfl⟩;have ra:=Dk s av t;rw[←ae]at ra;obtain⟨o,ax⟩:∃o,o=nr s v t:=⟨_,rfl⟩;have hM:x.size≤5000→x.occ v=false→s.length<400→(∀b∈s,(b.t.ap (Go.Pv.one v x)).size≤5000)→o=some (l5 s v x):=fun a6 bE bX cX=>by rw[ax,nr,←ae,if_pos ⟨a6,bE,bX,cX⟩]
 have cB:¬(x.size≤5000∧x.occ v=false∧s.length<400∧∀b∈s,(b.t.ap (Go.Pv.one v x)).size≤5000)→o=none:=fun q=>by rw[ax,nr,←ae,if_neg q]
 rw[←ax];clear ax;by_cases J:x.size≤5000;rotate_left
 ·rw[cB fun h=>J h.1];refine bm eB Ek FN fun aQ=>?_;unfold A3;simp;(with_reducible repeat' first|refine aj ?_|refine aD ra ?_|refine aE ra ?_|refine aD (wx _ _) ?_|refine aE (wx _ _) ?_|simp[J]);simp[bz,Af,aW,aX,aV];simp[gg]
 cases U:x.occ v with
 |true=>rw[cB fun h=>by rw[U]at h;cases h.2.1];refine bm eB Ek FN fun aQ=>?_;unfold A3;simp;(with_reducible repeat' first|refine aj ?_|refine aD ra ?_|refine aE ra ?_|refine aD (wx _ _) ?_|refine aE (wx _ _) ?_|simp[J,U]);simp[bz,Af,aW,aX,aV];simp[gg]
 |false=>
 by_cases ao:s.length<400;rotate_left
 ·rw[cB fun h=>ao h.2.2.1];have sq:(400:Int)≤s.length:=by omega
  refine bm eB Ek FN fun aQ=>?_;unfold A3;simp;(with_reducible repeat' first|refine aj ?_|refine aD ra ?_|refine aE ra ?_|refine aD (wx _ _) ?_|refine aE (wx _ _) ?_|simp[J,U,sq]);simp[bz,Af,aW,aX,aV];simp[gg]
 have sq:¬(400:Int)≤s.length:=by omega
 refine bm eB Ek FN fun aQ=>?_;unfold A3;simp;(with_reducible repeat' first|refine aj ?_|refine aD ra ?_|refine aE ra ?_|refine aD (wx _ _) ?_|refine aE (wx _ _) ?_|simp[J,U,sq]);refine iA (α:=List ar) (fun i out=>⟨[(1,.int .i64 v),(8,.ptr (.loc 1) 0),(33,.slice 5 .no (s.map ar.e)),(34,.int .i64 s.length),(10,.slice 5 (.own (.loc 2)) (out.map ar.e)),(35,.int .i64 i)],[(.loc 1,[.int .i64 x.kind,.int .i64 x.int,.str x.name,.slice 4 .no (x.args.map T.e)])],[(.loc 2,⟨out.length,113,5,none⟩)],3,[]⟩) s.length (ae2 s v x) [] bW ⟨by simp,by simp⟩ (fun out af _=>?_) (fun i out hi af _=>?_)
 ·obtain⟨ea,pE⟩:=af;rw[hz (eR _)]at ea pE;have ac5:hB out:=by rw[ea,hB,List.pairwise_map];exact bt
  have BP:out.length≤1000000:=by rw[ea];simpa using av
  rw[hM J U ao pE];have key:=alo out ⟨v,x⟩ BP ac5;simp;(with_reducible repeat' first|refine aj ?_|refine aD key ?_|refine aE key ?_|simp);simp[bz,Af,aW,aX,aV];simp[gg,l5,ea];rfl
 ·obtain⟨ea,pE⟩:=af;obtain⟨b,aG,gx⟩:=dP hi;have vw:s.take (i+1)=s.take i++[b]:=by rw[List.take_succ,aG];rfl
  have BP:out.length≤1000000:=by rw[ea];simp;omega
  simp[hi,gx];by_cases bp:(b.t.ap (Go.Pv.one v x)).size≤5000
  ·(with_reducible repeat' first|refine aj ?_|refine aD (GP _ _ _) ?_|refine aE (GP _ _ _) ?_|refine aD (AE _) ?_|refine aE (AE _) ?_|simp[gx,hi,bp]);all_goals first|(refine⟨by unfold lim;omega,?_⟩)|skip
   (with_reducible repeat' first|refine aj ?_|simp);refine bO.rng (out++[LW v x b]) hi ⟨by rw[vw,ea,List.map_append];rfl,fun c au=>?_⟩ ?_
   ·rw[vw]at au;rcases ky.1 au with au|au
    ·exact pE c au
    ·simp at au;subst au;exact bp
   ·simp[LW];exact⟨by simp[fresh,aI,aB,cn,inObs,Pv.look,jL],er (by simp[fresh,aI,aB,cn,inObs,Pv.look,jL]),et (by simp[fresh,aI,aB,dW,inObs,Pv.look,jL]),by simp⟩
  ·rw[cB fun h=>bp (h.2.2.2 b (dL aG))];(with_reducible repeat' first|refine aj ?_|refine aD (GP _ _ _) ?_|refine aE (GP _ _ _) ?_|refine aD (AE _) ?_|refine aE (AE _) ?_|simp[gx,hi,bp]);simp[bz,Af,aW,aX,aV];simp[gg]
theorem akM{s:List ar}(ag:fB s)(aJ:gi s){n:Nat}{a b:T}{o:aY (List ar)}(h:ku n s a b=some o):iw s [(a,b)] o:=by obtain⟨n',o',J,U⟩:=GL ag aJ a b;have ak:=Dg (Nat.le_max_left n n') h;have aC:=Dg (Nat.le_max_right n n') J;rw[ak]at aC;cases aC;exact U
def AA(n:Nat):List (T×T)→List ar→aY (aY (List ar))
 |[],s=>some (some s)
 |e::r,s=>match ku n s e.1 e.2 with
  |none=>none
  |some none=>some none
  |some (some s1)=>AA n r s1
def xJ(x y:T):Bool:=x.kind==y.kind&&x.int==y.int&&x.name==y.name
theorem akK(n:Nat)(s:List ar){x y:T}(ae:x.kind≠1)(aL:y.kind≠1):jS (ku n) s x y=if xJ x y then AA n (x.args.zip y.args) s else some none:=by
 cases x<;>cases y<;>simp[jS,xJ,AA]at ae aL⊢
 ·rename_i a b;split<;>simp_all
 ·rename_i a b;split<;>simp_all
 ·rename_i bC a2 ch b6;cases ku n s bC ch with
  |none=>rfl
  |some o=>cases o with
   |none=>rfl
   |some s1=>
    simp only
    cases ku n s1 a2 b6 with
    |none=>rfl
    |some o=>cases o<;>rfl
theorem afs{x y:T}(h:xJ x y=true):x.args.length=y.args.length:=by cases x<;>cases y<;>simp[xJ]at h⊢
@[simp] theorem anl(o:aY (List ar)):yM 0 (gg o)=some (True,.slice 5 .no ((o.getD []).map ar.e)):=rfl
@[simp] theorem anm(o:aY (List ar)):yM 1 (gg o)=some (True,.bool o.isSome):=rfl
set_option maxRecDepth 4000 in
theorem alw(n:Nat):∀(s:List ar) (a b:T) (o:aY (List ar)),fB s→gi s→ku n s a b=some o→bF al 180 [.slice 5 .no (s.map ar.e),a.e,b.e] (gg o):=by
 induction n with
 |zero=>intro s a b o _ _ h;simp[ku]at h
 |succ n bU=>
  intro s a b o ag aJ he;have av:s.length≤1000000:=by have:=aJ.1;omega
  have ec:=GR s av a;have ds:=GR s av b;simp only[ku]at he;generalize hc s a=x at he ec;generalize hc s b=y at he ds;have ad:=fun v t=>alr s v t av ag.asc;have qm:∀z:T,¬z.kind=1→(z.kind==1)=false:=fun z h=>by simp[h]
  by_cases ae:x.kind=1
  ·obtain⟨i,rfl⟩:∃i,x= .var i:=by cases x<;>simp at ae;exact⟨_,rfl⟩
   by_cases aL:y.kind=1
   ·obtain⟨j,rfl⟩:∃j,y= .var j:=by cases y<;>simp at aL;exact⟨_,rfl⟩
    simp only[jS,dG]at he;subst he;rcases Int.lt_trichotomy i j with h|h|h
    ·rw[if_pos h];have key:=ad j (.var i);refine bm eB tI ux fun aQ=>?_;unfold sf;simp;(with_reducible repeat' first|refine aj ?_|refine aD ec ?_|refine aE ec ?_|refine aD ds ?_|refine aE ds ?_|refine aD key ?_|refine aE key ?_|simp[h]);simp[bz,rM,aW,aX,aV];simp[gg]
    ·subst h;rw[if_neg (by omega),if_pos rfl];have bA:¬i<i:=by omega
     refine bm eB tI ux fun aQ=>?_;unfold sf;simp;(with_reducible repeat' first|refine aj ?_|refine aD ec ?_|refine aE ec ?_|refine aD ds ?_|refine aE ds ?_|simp[bA]);simp[bz,rM,aW,aX,aV];simp[gg]
    ·rw[if_neg (by omega),if_neg (by omega)];have key:=ad i (.var j);have bA:¬i<j:=by omega
     have U:¬i=j:=by omega
     refine bm eB tI ux fun aQ=>?_;unfold sf;simp;((with_reducible repeat' first|refine aj ?_|refine aD ec ?_|refine aE ec ?_|refine aD ds ?_|refine aE ds ?_|refine aD key ?_|refine aE key ?_|simp[bA,U]|((first|apply bL|apply bQ|apply bP)<;>intro h<;>try simp at h))<;>(try exact cq));simp[bz,rM,aW,aX,aV];simp[gg]
   ·have vj:nr s i y=o:=by cases y<;>first|(simp at aL;done)|exact fj he
    subst vj;have key:=ad i y;refine bm eB tI ux fun aQ=>?_;unfold sf;simp;(with_reducible repeat' first|refine aj ?_|refine aD ec ?_|refine aE ec ?_|refine aD ds ?_|refine aE ds ?_|refine aD key ?_|refine aE key ?_|simp[qm y aL]);simp[bz,rM,aW,aX,aV];simp[gg]
  ·by_cases aL:y.kind=1
   ·obtain⟨j,rfl⟩:∃j,y= .var j:=by cases y<;>simp at aL;exact⟨_,rfl⟩
    have vj:nr s j x=o:=by cases x<;>first|(simp at ae;done)|exact fj he
    subst vj;have key:=ad j x;refine bm eB tI ux fun aQ=>?_;unfold sf;simp;(with_reducible repeat' first|refine aj ?_|refine aD ec ?_|refine aE ec ?_|refine aD ds ?_|refine aE ds ?_|refine aD key ?_|refine aE key ?_|simp[qm x ae]);simp[bz,rM,aW,aX,aV];simp[gg]
   ·rw[akK n s ae aL]at he;cases hle:xJ x y with
    |false=>
     rw[hle]at he;simp at he;subst he;have Jd:(x.kind !=y.kind)=true∨((x.kind !=y.kind)=false∧((x.int !=y.int)=true∨((x.int !=y.int)=false∧(x.name !=y.name)=true))):=by simp only[xJ]at hle;simp only[bne];cases ak:(x.kind==y.kind)<;>cases aC:(x.int==y.int)<;>cases bk:(x.name==y.name)<;>simp_all
     rcases Jd with a6|⟨a6,bE|⟨bE,bX⟩⟩
     ·refine bm eB tI ux fun aQ=>?_;unfold sf;simp;(with_reducible repeat' first|refine aj ?_|refine aD ec ?_|refine aE ec ?_|refine aD ds ?_|refine aE ds ?_|simp[qm x ae,qm y aL,a6]);simp[bz,rM,aW,aX,aV];simp[gg]
     ·refine bm eB tI ux fun aQ=>?_;unfold sf;simp;(with_reducible repeat' first|refine aj ?_|refine aD ec ?_|refine aE ec ?_|refine aD ds ?_|refine aE ds ?_|simp[qm x ae,qm y aL,a6,bE]);simp[bz,rM,aW,aX,aV];simp[gg]
     ·refine bm eB tI ux fun aQ=>?_;unfold sf;simp;have FX:¬x.name=y.name:=by simpa using bX
      have aix:decide (x.name=y.name)=false:=by simp[FX]
      ((with_reducible repeat' first|refine aj ?_|refine aD ec ?_|refine aE ec ?_|refine aD ds ?_|refine aE ds ?_|simp[qm x ae,qm y aL,a6,bE,bX,FX,aix]|((first|apply bL|apply bQ|apply bP)<;>intro h<;>try simp at h))<;>(try exact cq));simp[bz,rM,aW,aX,aV];simp[gg]
    |true=>
     rw[hle,if_pos rfl]at he;have Jd:(x.kind !=y.kind)=false∧(x.int !=y.int)=false∧(x.name !=y.name)=false:=by simp only[xJ]at hle;simp only[bne];cases ak:(x.kind==y.kind)<;>cases aC:(x.int==y.int)<;>cases bk:(x.name==y.name)<;>simp_all
     obtain⟨a6,bE,bX⟩:=Jd;have hlen:=afs hle;have FX:x.name=y.name:=by simpa using bX
     have q9:x.args.length≤2:=by cases x<;>simp
     refine bm eB tI ux fun aQ=>?_;unfold sf;simp;(with_reducible repeat' first|refine aj ?_|refine aD ec ?_|refine aE ec ?_|refine aD ds ?_|refine aE ds ?_|simp[qm x ae,qm y aL,a6,bE,FX]);refine iA (α:=List ar) (fun i ai=>⟨[(5,.ptr (.loc 1) 0),(96,.slice 4 .no (x.args.map T.e)),(97,.int .i64 x.args.length),(0,.slice 5 .no (ai.map ar.e)),(98,.int .i64 i)],[(.loc 1,[.int .i64 y.kind,.int .i64 y.int,.str y.name,.slice 4 .no (y.args.map T.e)])],[],2,[]⟩) x.args.length (fun i ai=>(fB ai∧gi ai)∧AA n ((x.args.zip y.args).drop i) ai=some o) s bW ⟨⟨ag,aJ⟩,by simpa using he⟩ (fun ai af _=>?_) (fun i ai hi af _=>?_)
     ·obtain⟨_,af⟩:=af;rw[List.drop_eq_nil_of_le (by simp[hlen])]at af;simp[AA]at af;subst af;simp;(with_reducible repeat' first|refine aj ?_|simp);simp[bz,rM,aW,aX,aV];simp[gg]
     ·obtain⟨⟨g1,g2⟩,af⟩:=af;obtain⟨bC,bt⟩:∃a,x.args[i]? =some a:=⟨_,cf hi⟩;obtain⟨ch,fP⟩:∃b,y.args[i]? =some b:=⟨_,cf (by omega)⟩;have mP:∀h,(x.args[i]'h)=bC:=fun h=>by rw[cf hi]at bt;exact fj bt
      have cy:∀h,(y.args[i]'h)=ch:=fun h=>by rw[cf h]at fP;exact fj fP
      have ri:i<y.args.length:=by omega
      have aP:(x.args.zip y.args).drop i=(bC,ch)::(x.args.zip y.args).drop (i+1):=by rw[k6 (by simp;omega)];simp[mP,cy]
      rw[aP]at af;simp only[AA]at af;simp[hi,mP,cy,ri];cases hu:ku n ai bC ch with
      |none=>rw[hu]at af;cases af
      |some gP=>
       have key:=bU ai bC ch gP g1 g2 hu;rw[hu]at af;cases gP with
       |none=>simp at af;subst af;(with_reducible repeat' first|refine aj ?_|refine aD key ?_|refine aE key ?_|simp[mP,cy,hi,ri]);simp[bz,rM,aW,aX,aV];simp[gg]
       |some s1=>have aer:=akM g1 g2 hu;(with_reducible repeat' first|refine aj ?_|refine aD key ?_|refine aE key ?_|simp[mP,cy,hi,ri]);refine bO.rng s1 hi ⟨aer.1,af⟩ ?_;exact bW
theorem alv(s:List ar)(a b:T)(ag:fB s)(aJ:gi s):bF al 180 [.slice 5 .no (s.map ar.e),a.e,b.e] (gg (mgu s [(a,b)])):=by obtain⟨n,o,J,U⟩:=GL ag aJ a b;rw[rG U];exact alw n s a b o ag aJ J
def ae1(s:List ar)(E:List (T×T))(i:Nat)(ai:List ar):Prop:=(fB ai∧gi ai)∧mgu ai (E.drop i)=mgu s E
theorem alq(s:List ar)(l r:List T)(av:l.length=r.length)(ag:fB s)(aJ:gi s)(xj:l.length≤1000000):bF al 202 [.slice 5 .no (s.map ar.e),.slice 4 .no (l.map T.e),.slice 4 .no (r.map T.e)] (gg (mgu s (l.zip r))):=by
 refine bm eB abC ah7 fun aQ=>?_;unfold Pn;simp;refine iA (α:=List ar) (fun i ai=>⟨[(2,.slice 4 .no (r.map T.e)),(12,.slice 4 .no (l.map T.e)),(13,.int .i64 l.length),(0,.slice 5 .no (ai.map ar.e)),(14,.int .i64 i)],[],[],0,[]⟩) l.length (ae1 s (l.zip r)) s bW ⟨⟨ag,aJ⟩,by simp⟩ (fun ai af _=>?_) (fun i ai hi af _=>?_)
 ·obtain⟨⟨g1,g2⟩,af⟩:=af;rw[List.drop_eq_nil_of_le (by simp[av]),Kt g1 g2]at af;rw[←af];simp;(with_reducible repeat' first|refine aj ?_|simp);simp[bz,Ln,aW,aX,aV];simp[gg]
 ·obtain⟨⟨g1,g2⟩,af⟩:=af;obtain⟨a,bt⟩:∃a,l[i]? =some a:=⟨_,cf hi⟩;obtain⟨b,fP⟩:∃b,r[i]? =some b:=⟨_,cf (by omega)⟩;have mP:∀h,(l[i]'h)=a:=fun h=>by rw[cf hi]at bt;exact fj bt
  have cy:∀h,(r[i]'h)=b:=fun h=>by rw[cf h]at fP;exact fj fP
  have ri:i<r.length:=by omega
  have aP:(l.zip r).drop i=(a,b)::(l.zip r).drop (i+1):=by rw[k6 (by simp;omega)];simp[mP,cy]
  rw[aP,Ks g1 g2]at af;simp[hi,mP,cy,ri];have key:=alv ai a b g1 g2;cases hu:mgu ai [(a,b)]with
  |none=>rw[hu]at af key;simp only at af;rw[←af];(with_reducible repeat' first|refine aj ?_|refine aD key ?_|refine aE key ?_|simp[mP,cy,hi,ri]);simp[bz,Ln,aW,aX,aV];simp[gg]
  |some s1=>have o3:=zH g1 g2 hu;rw[hu]at af key;(with_reducible repeat' first|refine aj ?_|refine aD key ?_|refine aE key ?_|simp[mP,cy,hi,ri]);refine bO.rng s1 hi ⟨o3,af⟩ ?_;exact bW
theorem jU(n:Int):bF al 114 [.int .i64 n] (T.var n).e:=by refine bm fH abx ah2 fun aQ=>?_;unfold Ph;exact b5
def ae5(t:List ar)(i:Nat)(p:List T×List T):Prop:=p.1=(t.take i).map (fun b=>T.var b.v)∧p.2=(t.take i).map (·.t)
theorem als(s t:List ar)(ag:fB s)(aJ:gi s)(aO:t.length≤1000000):bF al 152 [.slice 5 .no (s.map ar.e),.slice 5 .no (t.map ar.e)] (gg (mgu s (hD t))):=by
 have bp:(t.map fun b=>T.var b.v).zip (t.map (·.t))=hD t:=by rw[hD,List.zip_map']
 refine bm eB abD ah8 fun aQ=>?_;unfold Po;simp;refine iA (α:=List T×List T) (fun i p=>⟨[(0,.slice 5 .no (s.map ar.e)),(12,.slice 5 .no (t.map ar.e)),(13,.int .i64 t.length),(6,.slice 4 (.own (.loc 0)) (p.1.map T.e)),(7,.slice 4 (.own (.loc 1)) (p.2.map T.e)),(14,.int .i64 i)],[],[(.loc 0,⟨p.1.length,30,4,none⟩),(.loc 1,⟨p.2.length,30,4,none⟩)],2,[]⟩) t.length (ae5 t) ([],[]) bW ⟨by simp,by simp⟩ (fun p af _=>?_) (fun i p hi af _=>?_)
 ·obtain⟨A,B⟩:=p;obtain⟨bg,jt⟩:=af;simp only at bg jt⊢;rw[hz (eR _)]at bg jt;have key:=alq s A B (by rw[bg,jt];simp) ag aJ (by rw[bg];simpa using aO);rw[bg,jt,bp,←bg,←jt]at key;simp;(with_reducible repeat' first|refine aj ?_|refine aD key ?_|refine aE key ?_|simp);simp[bz,U8,aW,aX,aV];simp[gg]
 ·obtain⟨A,B⟩:=p;obtain⟨bg,jt⟩:=af;simp only at bg jt⊢;obtain⟨b,aG,gx⟩:=dP hi;have vw:t.take (i+1)=t.take i++[b]:=by rw[List.take_succ,aG];rfl
  have acT:A.length≤1000000:=by rw[bg];simp;omega
  have acU:B.length≤1000000:=by rw[jt];simp;omega
  simp[hi,gx];(with_reducible repeat' first|refine aj ?_|refine aD (jU _) ?_|refine aE (jU _) ?_|simp[gx,hi]);all_goals first|(refine⟨by unfold lim;omega,?_⟩)|skip
  (with_reducible repeat' first|refine aj ?_|simp);all_goals first|(refine⟨by unfold lim;omega,?_⟩)|skip
  (with_reducible repeat' first|refine aj ?_|simp);refine bO.rng (A++[.var b.v],B++[b.t]) hi ⟨by rw[vw,bg];simp,by rw[vw,jt];simp⟩ ?_;simp;exact⟨by simp[fresh,aI,aB,cn,inObs,Pv.look,jL],er (by simp[fresh,aI,aB,cn,inObs,Pv.look,jL]),et (by simp[fresh,aI,aB,dW,inObs,Pv.look,jL]),by simp⟩
theorem dr(n lo hi:Int):bF al 75 [.int .i64 n,.int .i64 lo,.int .i64 hi] (.bool (decide (lo≤n∧n≤hi))):=by
 refine bm eB abo ahU fun aQ=>?_;unfold O9;simp;((with_reducible repeat' first|refine aj ?_|simp|((first|apply bL|apply bQ|apply bP)<;>intro h<;>try simp at h))<;>(try exact cq));all_goals simp[bz,U2,aW,aX,aV]
 all_goals first|omega|(simp;done)|(simp;omega)
def shp:bT→Bool
 | .mk k n s [a,b]=>k==4&&n==0&&s==[]&&shp a&&shp b
 | .mk k n s []=>k0 k n s
 |_=>false
theorem Gx:∀x:T,shp x.tm=x.ok
 | .nil=>by simp[T.tm,shp,k0,T.ok]
 | .var _=>by simp[T.tm,shp,k0,T.ok]
 | .sym _=>by simp[T.tm,shp,k0,T.ok]
 | .num _=>by simp[T.tm,shp,k0,T.ok]
 | .pair a b=>by simp[T.tm,shp,T.ok,Gx a,Gx b]
theorem aj3:∀(m:Nat) (t:bT),t.sz≤m→shp t=true→∃x:T,x.tm=t:=by
 intro m;induction m with
 |zero=>intro t aO;cases t;simp[bT.sz]at aO
 |succ m bU=>
  rintro⟨k,n,s,args⟩ aO h;match args with
  |[a,b]=>
   simp[bT.sz,bT.szL]at aO;simp only[shp,cC,dO]at h;obtain⟨⟨⟨⟨rfl,rfl⟩,ao⟩,J⟩,U⟩:=h;obtain⟨x,rfl⟩:=bU a (by omega) J;obtain⟨y,rfl⟩:=bU b (by omega) U;have:s=[]:=by simpa using ao
   subst this;exact⟨.pair x y,rfl⟩
  |[]=>
   simp only[shp,k0]at h;split at h
   ·subst_vars;simp at h;exact⟨.nil,by simp[T.tm,h]⟩
   split at h
   ·subst_vars;simp at h;exact⟨.var n,by simp[T.tm,h]⟩
   split at h
   ·subst_vars;simp at h;exact⟨.sym s,by simp[T.tm,h]⟩
   split at h
   ·subst_vars;simp at h;exact⟨.num n,by simp[T.tm,h]⟩
   ·simp at h
  |[_]=>simp[shp]at h
  |_::_::_::_=>simp[shp]at h
theorem abR(t:bT):t.fits=(decide (k9 t 5000≤5000)&&shp t):=by
 by_cases h:shp t=true
 ·obtain⟨x,rfl⟩:=aj3 _ t (eR _) h;have:=(D8 x 5000 (by omega)).1;rw[bT.fits_T,T.fit,h];rw[Gx]at h;simp[h,this];omega
 ·have bA:t.fits=false:=by
   cases aJ:t.fits with
   |false=>rfl
   |true=>obtain⟨x,rfl,ae⟩:=bT.fits_ex aJ;rw[Gx]at h;simp[T.fit]at ae;exact absurd ae.1 h
  simp at h;rw[bA,h];simp
def JP(s:List dz)(i:Nat):Prop:=i≤s.length∧∀k,k<i→mh (s.getD k 0)=true∧(k=0→low (s.getD k 0)=true)
theorem aeZ{s:List dz}(h:JP s s.length):jA s=decide (1≤s.length∧s.length≤12):=by
 unfold jA;by_cases av:1≤s.length
 ·have J:=(h.2 0 (by omega)).2 rfl;have U:(s.drop 1).all mh=true:=by rw[gh];intro b ad;obtain⟨i,hi,e⟩:=nk ad;simp at hi e;have:=(h.2 (i+1) (by omega)).1;rw[List.getD_eq_getElem?_getD,cf (by omega)]at this;simp only[j9]at this;rw[←e];exact this
  rw[J,U];simp
 ·have:decide (1≤s.length∧s.length≤12)=false:=by simp;omega
  rw[this];simp
theorem aeY{s:List dz}{i:Nat}(hi:i<s.length)(h:mh (s.getD i 0)=false∨(i=0∧low (s.getD i 0)=false)):jA s=false:=by
 cases e:jA s with
 |false=>rfl
 |true=>
  exfalso;simp only[jA,cC,gh]at e;obtain⟨⟨_,ak⟩,aC⟩:=e;rcases h with h|⟨rfl,h⟩
  ·by_cases bA:i=0
   ·subst bA;rw[mh,ak]at h;simp at h
   ·have:=aC (s.getD i 0) (by rw[List.getD_eq_getElem?_getD,cf hi];simp only[j9];refine List.mem_iff_getElem.2 ⟨i-1,by simp;omega,?_⟩;simp[show i-1+1=i from by omega])
    rw[this]at h;cases h
  ·rw[ak]at h;cases h
theorem gQ(s:List dz):bF al 119 [.str s] (.bool (jA s)):=by
 generalize bf:jA s=R;refine bm eB abi ahO fun aQ=>?_;unfold O3;have eY:s.length≤68719476736:=by simp[ez,dZ,eo,lim]at aQ;omega
 simp;refine u9 [0] (fun(i:Nat)=>[(3,.int .i64 i)]) (fun i=>s.length-i) (JP s) 0 bW ⟨by omega,fun k ab=>by omega⟩ (fun i af _=>?_);have ea:=af.1;by_cases hi:i<s.length
 ·have cB:=aeY hi;rw[bf]at cB;obtain⟨c,au,jZ⟩:=dP hi;have Rg:s.getD i 0=c:=by simp[List.getD_eq_getElem?_getD,au]
  rw[Rg]at cB;have da:mh c=true→(i=0→low c=true)→JP s (i+1):=fun J U=>⟨by omega,fun k ab=>by
   rcases(by omega:k<i∨k=i)with h|rfl
   ·exact af.2 k h
   ·rw[Rg];exact⟨J,U⟩⟩
  have hw:IntKind.i64.wrap (c.toNat:Int)=c.toNat:=oF _ (by have:=c.toNat_lt;omega);simp[hi,jZ,au];by_cases a6:(97:Int)≤c.toNat
  ·by_cases bE:(c.toNat:Int)≤122
   ·have av:low c=true:=by simp[low];omega
    (with_reducible repeat' first|refine aj ?_|refine aD (dr _ _ _) ?_|refine aE (dr _ _ _) ?_|simp[hi,jZ,au,a6,bE]);exact bO.whl (i+1) (by omega) (da (by simp[mh,av]) (fun _=>av)) bW
   ·have av:low c=false:=by simp[low];omega
    by_cases bA:i=0
    ·rw[cB (.inr ⟨bA,av⟩)];have q6:((i:Int)==0)=true:=by simp[bA]
     (with_reducible repeat' first|refine aj ?_|refine aD (dr _ _ _) ?_|refine aE (dr _ _ _) ?_|simp[hi,jZ,au,a6,bE,q6,hw]);simp[bz,Ab,aW,aX,aV]
    ·have q6:((i:Int)==0)=false:=by simp[bA]
     by_cases bX:(c.toNat:Int)=45
     ·have rL:((c.toNat:Int) !=45)=false:=by simp[bX]
      (with_reducible repeat' first|refine aj ?_|refine aD (dr _ _ _) ?_|refine aE (dr _ _ _) ?_|simp[hi,jZ,au,a6,bE,q6,hw,bX,rL]);all_goals exact bO.whl (i+1) (by omega) (da (by simp[mh];omega) (fun h=>absurd h bA)) bW
     ·have rL:((c.toNat:Int) !=45)=true:=by simp[bX]
      by_cases cX:(48:Int)≤c.toNat∧(c.toNat:Int)≤57
      ·(with_reducible repeat' first|refine aj ?_|refine aD (dr _ _ _) ?_|refine aE (dr _ _ _) ?_|simp[hi,jZ,au,a6,bE,q6,hw,bX,rL,cX]);all_goals exact bO.whl (i+1) (by omega) (da (by simp[mh];omega) (fun h=>absurd h bA)) bW
      ·rw[cB (.inl (by simp[mh,av];omega))];(with_reducible repeat' first|refine aj ?_|refine aD (dr _ _ _) ?_|refine aE (dr _ _ _) ?_|simp[hi,jZ,au,a6,bE,q6,hw,bX,rL,cX]);simp[bz,Ab,aW,aX,aV]
  ·have av:low c=false:=by simp[low];omega
   by_cases bA:i=0
   ·rw[cB (.inr ⟨bA,av⟩)];have q6:((i:Int)==0)=true:=by simp[bA]
    (with_reducible repeat' first|refine aj ?_|refine aD (dr _ _ _) ?_|refine aE (dr _ _ _) ?_|simp[hi,jZ,au,a6,q6,hw]);simp[bz,Ab,aW,aX,aV]
   ·have q6:((i:Int)==0)=false:=by simp[bA]
    by_cases bX:(c.toNat:Int)=45
    ·have rL:((c.toNat:Int) !=45)=false:=by simp[bX]
     (with_reducible repeat' first|refine aj ?_|refine aD (dr _ _ _) ?_|refine aE (dr _ _ _) ?_|simp[hi,jZ,au,a6,q6,hw,bX,rL]);all_goals exact bO.whl (i+1) (by omega) (da (by simp[mh];omega) (fun h=>absurd h bA)) bW
    ·have rL:((c.toNat:Int) !=45)=true:=by simp[bX]
     by_cases cX:(48:Int)≤c.toNat∧(c.toNat:Int)≤57
     ·(with_reducible repeat' first|refine aj ?_|refine aD (dr _ _ _) ?_|refine aE (dr _ _ _) ?_|simp[hi,jZ,au,a6,q6,hw,bX,rL,cX]);all_goals exact bO.whl (i+1) (by omega) (da (by simp[mh];omega) (fun h=>absurd h bA)) bW
     ·rw[cB (.inl (by simp[mh,av];omega))];(with_reducible repeat' first|refine aj ?_|refine aD (dr _ _ _) ?_|refine aE (dr _ _ _) ?_|simp[hi,jZ,au,a6,q6,hw,bX,rL,cX]);simp[bz,Ab,aW,aX,aV]
 ·have:i=s.length:=by omega
  subst this;rw[aeZ af]at bf;simp[hi];(with_reducible repeat' first|refine aj ?_|refine aD (dr _ _ _) ?_|refine aE (dr _ _ _) ?_|simp[hi]);simp[bz,Ab,aW,aX,aV];rw[←bf,p3];simp;omega
def uO:List bT→Bool
 |[a,b]=>shp a&&shp b
 |_=>false
theorem aj2(k n:Int)(s:List dz)(args:List bT):shp ⟨k,n,s,args⟩=if k≠1∧k≠3∧n≠0 then false else if k≠2∧s≠[]then false else if k≠4∧args≠[]then false else if k=0 then true else if k=1 then decide (0≤n∧n≤100000)else if k=2 then jA s else if k=3 then decide (-1000000000≤n∧n≤1000000000)else if k=4 then uO args else false:=by
 by_cases fb:k=0
 ·subst fb;match args with
  |[]=>by_cases aA:n=0<;>by_cases ag:s=[]<;>simp[shp,k0,aA,ag]
  |[a]=>simp[shp]
  |[a,b]=>simp[shp]
  |_::_::_::_=>simp[shp]
 by_cases aU:k=1
 ·subst aU;match args with
  |[]=>by_cases ag:s=[]<;>simp[shp,k0,ag]
  |[a]=>simp[shp]
  |[a,b]=>simp[shp]
  |_::_::_::_=>simp[shp]
 by_cases bG:k=2
 ·subst bG;match args with
  |[]=>by_cases aA:n=0<;>simp[shp,k0,aA]
  |[a]=>simp[shp]
  |[a,b]=>simp[shp]
  |_::_::_::_=>simp[shp]
 by_cases b9:k=3
 ·subst b9;match args with
  |[]=>by_cases ag:s=[]<;>simp[shp,k0,ag]
  |[a]=>simp[shp]
  |[a,b]=>simp[shp]
  |_::_::_::_=>simp[shp]
 by_cases eV:k=4
 ·subst eV;match args with
  |[]=>simp[shp,k0,uO]
  |[a]=>simp[shp,uO]
  |[a,b]=>by_cases aA:n=0<;>by_cases ag:s=[]<;>simp[shp,uO,aA,ag]
  |_::_::_::_=>simp[shp,uO]
 ·match args with
  |[]=>simp[shp,k0,fb,aU,bG,b9,eV]
  |[a]=>simp[shp,fb,aU,bG,b9,eV]
  |[a,b]=>simp[shp,fb,aU,bG,b9,eV]
  |_::_::_::_=>simp[shp,fb,aU,bG,b9,eV]
set_option maxRecDepth 8000 in
theorem aln(m:Nat):∀(t:bT),t.sz≤m→bF al 124 [enc t] (.bool (shp t)):=by
 induction m with
 |zero=>intro t aO;cases t;simp[bT.sz]at aO
 |succ m bU=>
 rintro⟨k,n,s,args⟩ aO;generalize bf:shp ⟨k,n,s,args⟩=R;have dv:=aj2 k n s args;rw[bf]at dv;by_cases ch:k≠1∧k≠3∧n≠0
 ·rw[if_pos ch]at dv;obtain⟨aU,b9,n0⟩:=ch;have zx:(k !=1)=true:=by simp[aU]
  have zy:(k !=3)=true:=by simp[b9]
  have Kx:(n !=0)=true:=by simp[n0]
  subst dv;refine bm eB l8 mv fun aQ=>?_;unfold lK;simp[bT.kind,bT.num,bT.name,bT.args];(with_reducible repeat' first|refine aj ?_|refine aD (dr _ _ _) ?_|refine aE (dr _ _ _) ?_|refine aD (gQ _) ?_|refine aE (gQ _) ?_|simp[zx,zy,Kx]);all_goals simp[bz,lB,aW,aX,aV]
 rw[if_neg ch]at dv;have AV:(if k !=1 then k !=3 else false)=true→(n !=0)=false:=by intro h;simp at h⊢;exact Classical.byContradiction fun aA=>ch ⟨h.1,h.2,aA⟩
 by_cases b6:k≠2∧s≠[]
 ·rw[if_pos b6]at dv;have Fe:(k !=2)=true:=by simp[b6.1]
  have LG:s.isEmpty=false:=by simp[b6.2]
  by_cases aU:k=1
  ·subst aU;subst dv;refine bm eB l8 mv fun aQ=>?_;unfold lK;simp[bT.kind,bT.num,bT.name,bT.args];(with_reducible repeat' first|refine aj ?_|refine aD (dr _ _ _) ?_|refine aE (dr _ _ _) ?_|refine aD (gQ _) ?_|refine aE (gQ _) ?_|simp[LG]);all_goals simp[bz,lB,aW,aX,aV]
  by_cases b9:k=3
  ·subst b9;subst dv;refine bm eB l8 mv fun aQ=>?_;unfold lK;simp[bT.kind,bT.num,bT.name,bT.args];(with_reducible repeat' first|refine aj ?_|refine aD (dr _ _ _) ?_|refine aE (dr _ _ _) ?_|refine aD (gQ _) ?_|refine aE (gQ _) ?_|simp[LG]);all_goals simp[bz,lB,aW,aX,aV]
  have zx:(k !=1)=true:=by simp[aU]
  have zy:(k !=3)=true:=by simp[b9]
  have Kx:(n !=0)=false:=AV (by simp[aU,b9]);subst dv;refine bm eB l8 mv fun aQ=>?_;unfold lK;simp[bT.kind,bT.num,bT.name,bT.args];(with_reducible repeat' first|refine aj ?_|refine aD (dr _ _ _) ?_|refine aE (dr _ _ _) ?_|refine aD (gQ _) ?_|refine aE (gQ _) ?_|simp[zx,zy,Kx,Fe,LG]);all_goals simp[bz,lB,aW,aX,aV]
 rw[if_neg b6]at dv;by_cases fb:k=0
 ·subst fb;have n0:n=0:=by simpa using AV (by decide)
  have s0:s=[]:=Classical.byContradiction fun h=>b6 ⟨by omega,h⟩;subst n0 s0;by_cases a0:args=[];rotate_left
  ·rw[if_pos ⟨by omega,a0⟩]at dv;have tv:(0:Int)<args.length:=by have:=List.length_pos_iff.2 a0;omega
   subst dv;refine bm eB l8 mv fun aQ=>?_;unfold lK;simp[bT.kind,bT.num,bT.name,bT.args];((with_reducible repeat' first|refine aj ?_|refine aD (dr _ _ _) ?_|refine aE (dr _ _ _) ?_|refine aD (gQ _) ?_|refine aE (gQ _) ?_|simp[Int.natCast_nonneg,tv]|((first|apply bL|apply bQ|apply bP)<;>intro h<;>try simp at h))<;>(try exact cq));all_goals simp[bz,lB,aW,aX,aV]
  rw[if_neg (by simp[a0])]at dv;subst a0;simp at dv;subst dv;refine bm eB l8 mv fun aQ=>?_;unfold lK;simp[bT.kind,bT.num,bT.name,bT.args];(with_reducible repeat' first|refine aj ?_|refine aD (dr _ _ _) ?_|refine aE (dr _ _ _) ?_|refine aD (gQ _) ?_|refine aE (gQ _) ?_|simp[Int.natCast_nonneg]);all_goals simp[bz,lB,aW,aX,aV]
 by_cases aU:k=1
 ·subst aU;have s0:s=[]:=Classical.byContradiction fun h=>b6 ⟨by omega,h⟩;subst s0;by_cases a0:args=[];rotate_left
  ·rw[if_pos ⟨by omega,a0⟩]at dv;have tv:(0:Int)<args.length:=by have:=List.length_pos_iff.2 a0;omega
   subst dv;refine bm eB l8 mv fun aQ=>?_;unfold lK;simp[bT.kind,bT.num,bT.name,bT.args];((with_reducible repeat' first|refine aj ?_|refine aD (dr _ _ _) ?_|refine aE (dr _ _ _) ?_|refine aD (gQ _) ?_|refine aE (gQ _) ?_|simp[Int.natCast_nonneg,tv]|((first|apply bL|apply bQ|apply bP)<;>intro h<;>try simp at h))<;>(try exact cq));all_goals simp[bz,lB,aW,aX,aV]
  rw[if_neg (by simp[a0])]at dv;subst a0;simp at dv;subst dv;refine bm eB l8 mv fun aQ=>?_;unfold lK;simp[bT.kind,bT.num,bT.name,bT.args];(with_reducible repeat' first|refine aj ?_|refine aD (dr _ _ _) ?_|refine aE (dr _ _ _) ?_|refine aD (gQ _) ?_|refine aE (gQ _) ?_|simp[Int.natCast_nonneg]);all_goals simp[bz,lB,aW,aX,aV]
 by_cases bG:k=2
 ·subst bG;have n0:n=0:=by simpa using AV (by decide)
  subst n0;by_cases a0:args=[];rotate_left
  ·rw[if_pos ⟨by omega,a0⟩]at dv;have tv:(0:Int)<args.length:=by have:=List.length_pos_iff.2 a0;omega
   subst dv;refine bm eB l8 mv fun aQ=>?_;unfold lK;simp[bT.kind,bT.num,bT.name,bT.args];((with_reducible repeat' first|refine aj ?_|refine aD (dr _ _ _) ?_|refine aE (dr _ _ _) ?_|refine aD (gQ _) ?_|refine aE (gQ _) ?_|simp[Int.natCast_nonneg,tv]|((first|apply bL|apply bQ|apply bP)<;>intro h<;>try simp at h))<;>(try exact cq));all_goals simp[bz,lB,aW,aX,aV]
  rw[if_neg (by simp[a0])]at dv;subst a0;simp at dv;subst dv;refine bm eB l8 mv fun aQ=>?_;unfold lK;simp[bT.kind,bT.num,bT.name,bT.args];(with_reducible repeat' first|refine aj ?_|refine aD (dr _ _ _) ?_|refine aE (dr _ _ _) ?_|refine aD (gQ _) ?_|refine aE (gQ _) ?_|simp[Int.natCast_nonneg]);all_goals simp[bz,lB,aW,aX,aV]
 by_cases b9:k=3
 ·subst b9;have s0:s=[]:=Classical.byContradiction fun h=>b6 ⟨by omega,h⟩;subst s0;by_cases a0:args=[];rotate_left
  ·rw[if_pos ⟨by omega,a0⟩]at dv;have tv:(0:Int)<args.length:=by have:=List.length_pos_iff.2 a0;omega
   subst dv;refine bm eB l8 mv fun aQ=>?_;unfold lK;simp[bT.kind,bT.num,bT.name,bT.args];((with_reducible repeat' first|refine aj ?_|refine aD (dr _ _ _) ?_|refine aE (dr _ _ _) ?_|refine aD (gQ _) ?_|refine aE (gQ _) ?_|simp[Int.natCast_nonneg,tv]|((first|apply bL|apply bQ|apply bP)<;>intro h<;>try simp at h))<;>(try exact cq));all_goals simp[bz,lB,aW,aX,aV]
  rw[if_neg (by simp[a0])]at dv;subst a0;simp at dv;subst dv;refine bm eB l8 mv fun aQ=>?_;unfold lK;simp[bT.kind,bT.num,bT.name,bT.args];(with_reducible repeat' first|refine aj ?_|refine aD (dr _ _ _) ?_|refine aE (dr _ _ _) ?_|refine aD (gQ _) ?_|refine aE (gQ _) ?_|simp[Int.natCast_nonneg]);all_goals simp[bz,lB,aW,aX,aV]
 by_cases eV:k=4
 ·subst eV;have n0:n=0:=by simpa using AV (by decide)
  have s0:s=[]:=Classical.byContradiction fun h=>b6 ⟨by omega,h⟩;subst n0 s0;simp at dv;match args,dv with
  |[a,b],dv=>
   simp[bT.sz,bT.szL]at aO;have bt:=bU a (by omega);have ad:=bU b (by omega);simp only[uO]at dv;subst dv;refine bm eB l8 mv fun aQ=>?_;unfold lK;simp[bT.kind,bT.num,bT.name,bT.args];cases q:shp a with
   |true=>rw[q]at bt;(with_reducible repeat' first|refine aj ?_|refine aD bt ?_|refine aE bt ?_|refine aD ad ?_|refine aE ad ?_|simp[Int.natCast_nonneg]);all_goals simp[bz,lB,aW,aX,aV]
   |false=>rw[q]at bt;(with_reducible repeat' first|refine aj ?_|refine aD bt ?_|refine aE bt ?_|refine aD ad ?_|refine aE ad ?_|simp[Int.natCast_nonneg]);all_goals simp[bz,lB,aW,aX,aV]
  |[],dv=>simp only[uO]at dv;subst dv;refine bm eB l8 mv fun aQ=>?_;unfold lK;simp[bT.kind,bT.num,bT.name,bT.args];(with_reducible repeat' first|refine aj ?_|refine aD (dr _ _ _) ?_|refine aE (dr _ _ _) ?_|refine aD (gQ _) ?_|refine aE (gQ _) ?_|simp[Int.natCast_nonneg]);all_goals simp[bz,lB,aW,aX,aV]
  |[_],dv=>simp only[uO]at dv;subst dv;refine bm eB l8 mv fun aQ=>?_;unfold lK;simp[bT.kind,bT.num,bT.name,bT.args];(with_reducible repeat' first|refine aj ?_|refine aD (dr _ _ _) ?_|refine aE (dr _ _ _) ?_|refine aD (gQ _) ?_|refine aE (gQ _) ?_|simp[Int.natCast_nonneg]);all_goals simp[bz,lB,aW,aX,aV]
  |_::_::_::l,dv=>
   simp only[uO]at dv;have av:((l.length:Int)+1+1+1==2)=false:=by simp;omega
   subst dv;refine bm eB l8 mv fun aQ=>?_;unfold lK;simp[bT.kind,bT.num,bT.name,bT.args];(with_reducible repeat' first|refine aj ?_|refine aD (dr _ _ _) ?_|refine aE (dr _ _ _) ?_|refine aD (gQ _) ?_|refine aE (gQ _) ?_|simp[av]);all_goals simp[bz,lB,aW,aX,aV]
 have n0:(n !=0)=false:=AV (by simp[aU,b9]);have s0:s=[]:=Classical.byContradiction fun h=>b6 ⟨bG,h⟩;subst s0;have Sv:(k==0)=false:=by simp[fb]
 have zx:(k==1)=false:=by simp[aU]
 have Fe:(k==2)=false:=by simp[bG]
 have zy:(k==3)=false:=by simp[b9]
 have Sz:(k==4)=false:=by simp[eV]
 have Sw:(k !=1)=true:=by simp[aU]
 have Sx:(k !=2)=true:=by simp[bG]
 have Sy:(k !=3)=true:=by simp[b9]
 have SA:(k !=4)=true:=by simp[eV]
 by_cases a0:args=[]
 ·subst a0;simp[fb,aU,bG,b9,eV]at dv;subst dv;refine bm eB l8 mv fun aQ=>?_;unfold lK;simp[bT.kind,bT.num,bT.name,bT.args];(with_reducible repeat' first|refine aj ?_|refine aD (dr _ _ _) ?_|refine aE (dr _ _ _) ?_|refine aD (gQ _) ?_|refine aE (gQ _) ?_|simp[Sv,zx,Fe,zy,Sz,Sw,Sx,Sy,SA,n0]);all_goals simp[bz,lB,aW,aX,aV]
 ·rw[if_pos ⟨eV,a0⟩]at dv;have tv:(0:Int)<args.length:=by have:=List.length_pos_iff.2 a0;omega
  subst dv;refine bm eB l8 mv fun aQ=>?_;unfold lK;simp[bT.kind,bT.num,bT.name,bT.args];((with_reducible repeat' first|refine aj ?_|refine aD (dr _ _ _) ?_|refine aE (dr _ _ _) ?_|refine aD (gQ _) ?_|refine aE (gQ _) ?_|simp[tv,Sv,zx,Fe,zy,Sz,Sw,Sx,Sy,SA,n0]|((first|apply bL|apply bQ|apply bP)<;>intro h<;>try simp at h))<;>(try exact cq));all_goals simp[bz,lB,aW,aX,aV]
theorem Dl(t:bT):bF al 56 [enc t] (.bool t.fits):=by
 rw[abR];have au:=Ww t 5000 (by omega) (by omega);have ag:=aln t.sz t (eR _);refine bm eB abm ahS fun aQ=>?_;unfold O7;simp;by_cases q:k9 t 5000≤5000
 ·exact b5
 ·exact b5
def O4:C:=(aa [be 2 false] (.seq (aa [I 5 0,cb 6 5,bS 7 0] (fe 8 7 6 (.seq (.block 1 (aa [I 9 7,cj 10 2 5 7,a7 11 2 10,cU (.alloc 4 none (.agg [.int .i64 0,.int .i64 0])),I 3 9,bM 2 4 11] (.seq (.drawn true 42 [I 12 3,aT 13 .gtr 12 0,I 14 13,bZ 14 true 15 0,bZ 14 true 16 3,aq 14 true (aT 17 .sub 16 1),aq 14 true (cj 18 2 15 17),aq 14 true (aF 19 0 1 18),aq 14 true (aw 20 1 19),aq 14 true (aF 21 0 1 4),aq 14 true (aw 22 1 21),aq 14 true (bh 23 .geq 20 22),dy 24 14 23,I 25 24,aq 25 false (aF 26 0 1 4),aq 25 false (aw 27 1 26),aq 25 false (dK 28 75 [.t 27,(gr 0),(gr 100000)]),aq 25 false (cx 29 28),c2 30 25 29,I 31 30,aq 31 false (aF 32 1 1 4),aq 31 false (aw 33 1 32),aq 31 false (aT 34 .neq 33 2),bZ 31 false 35 34,aq 35 true (aF 36 1 1 4),aq 35 true (aw 37 1 36),aq 35 true (aT 38 .neq 37 3),aq 31 false (dy 39 35 38),c2 40 31 39]) (aS 40 (aa [be 2 false] .ret) .skip)))) (.region [aT 41 .add 7 1,I 7 41])))) (aa [be 2 true] .ret)))
@[simp] def CR:List bu:=[.tmp 2]
def O5:C:=(aa [be 2 false] (.seq (aa [I 5 0,cb 6 5,bS 7 0] (fe 8 7 6 (.seq (.block 1 (aa [I 9 7,cj 10 2 5 7,a7 11 2 10,cU (.alloc 4 none (.agg [.int .i64 0,.str []])),I 3 9,bM 2 4 11] (.seq (.drawn true 37 [I 12 3,aT 13 .gtr 12 0,I 14 13,bZ 14 true 15 0,bZ 14 true 16 3,aq 14 true (aT 17 .sub 16 1),aq 14 true (cj 18 2 15 17),aq 14 true (a7 19 2 18),aq 14 true (a7 20 2 4),aq 14 true (b4 21 147 19 20),aq 14 true (cx 22 21),dy 23 14 22,I 24 23,aq 24 false (aF 25 0 1 4),aq 24 false (aw 26 1 25),aq 24 false (dK 27 75 [.t 26,(gr 0),(gr 100000)]),aq 24 false (cx 28 27),c2 29 24 28,I 30 29,aq 30 false (aF 31 1 1 4),aq 30 false (aw 32 1 31),aq 30 false (cM 33 119 32),aq 30 false (cx 34 33),c2 35 30 34]) (aS 35 (aa [be 2 false] .ret) .skip)))) (.region [aT 36 .add 7 1,I 7 36])))) (aa [be 2 true] .ret)))
@[simp] def Ac:List bu:=[.tmp 2]
def D4:C:=(aa [cN 2 0,cN 3 1,be 4 false] (aa [aF 5 0 1 2,aw 6 1 5,aF 7 0 1 3,aw 8 1 7,bh 9 .lss 6 8,I 10 9,aq 10 false (aF 11 0 1 2),aq 10 false (aw 12 1 11),aq 10 false (aF 13 0 1 3),aq 10 false (aw 14 1 13),aq 10 false (bh 15 .eql 12 14),bZ 10 false 16 15,aq 16 true (aF 17 1 1 2),aq 16 true (aw 18 1 17),aq 16 true (aF 19 1 1 3),aq 16 true (aw 20 1 19),aq 16 true (bh 21 .lss 18 20),aq 10 false (dy 22 16 21),c2 23 10 22,I 4 23] .ret))
@[simp] def ajA:List bu:=[.tmp 4]
def Pt:C:=(aa [eQ 4 2,be 5 false] (aa [fD 10 2 98 [],I 6 10] (aa [be 7 true] (.seq (.seq (.fg false 6 (.region [I 11 1,cb 12 11,bS 13 0])) (fe 14 13 12 (.seq (.block 1 (aa [cj 15 2 11 13,a7 16 2 15,cU (.alloc 9 none (.agg [.int .i64 0,.int .i64 0])),bM 2 9 16] (.seq (.drawn true 33 [I 18 6,I 19 0,aF 20 0 1 9,aw 21 1 20,cM 22 114 21,b4 23 201 19 22,aF 24 1 1 9,aw 25 1 24,dK 26 151 [.t 18,.t 23,.t 25],I 17 26,cH 27 0 17,cH 28 1 17,I 6 27,I 7 28]) (aa [I 29 7,cx 30 29] (aS 30 (aa [eQ 4 2,be 5 false] .ret) .skip))))) (.region [aT 31 .add 13 1,I 13 31])))) (aa [I 32 6,I 4 32,be 5 true] .ret)))))
@[simp] def Lo:List bu:=[.tmp 4,.tmp 5]
def Pu:C:=(aa [eQ 4 2,be 5 false] (aa [fD 10 2 100 [],I 6 10] (aa [be 7 true] (.seq (.seq (.fg false 6 (.region [I 11 1,cb 12 11,bS 13 0])) (fe 14 13 12 (.seq (.block 1 (aa [cj 15 2 11 13,a7 16 2 15,cU (.alloc 9 none (.agg [.int .i64 0,.str []])),bM 2 9 16] (.seq (.drawn true 33 [I 18 6,I 19 0,aF 20 0 1 9,aw 21 1 20,cM 22 114 21,b4 23 201 19 22,aF 24 1 1 9,aw 25 1 24,dK 26 181 [.t 18,.t 23,.t 25],I 17 26,cH 27 0 17,cH 28 1 17,I 6 27,I 7 28]) (aa [I 29 7,cx 30 29] (aS 30 (aa [eQ 4 2,be 5 false] .ret) .skip))))) (.region [aT 31 .add 13 1,I 13 31])))) (aa [I 32 6,I 4 32,be 5 true] .ret)))))
@[simp] def Lq:List bu:=[.tmp 4,.tmp 5]
def yH:C:=(aa [cN 4 1,eQ 6 2,be 7 false] (.seq (aa [aF 10 0 1 4,aw 11 1 10,aT 12 .neq 11 1] (aS 12 (.seq (.drawn true 73 [I 13 0,aF 14 0 1 4,aw 15 1 14,I 16 2,bh 17 .eql 15 16,I 6 13,I 7 17]) .ret) .skip)) (aa [bS 8 0] (.seq (.block 0 (.loop (.seq (.seq (.drawn true 73 [I 18 8,I 19 0,cb 20 19,bh 21 .lss 18 20,I 22 21,bZ 22 true 23 0,bZ 22 true 24 8,aq 22 true (cj 25 2 23 24),aq 22 true (aF 26 0 1 25),aq 22 true (aw 27 1 26),aq 22 true (aF 28 1 1 4),aq 22 true (aw 29 1 28),aq 22 true (bh 30 .lss 27 29),dy 31 22 30]) (aS 31 .skip (.exit 0))) (.block 1 (.region [I 32 8,aT 33 .add 32 1,I 8 33]))))) (.seq (.seq (.drawn true 73 [I 34 8,I 35 0,cb 36 35,bh 37 .lss 34 36,I 38 37,bZ 38 true 39 0,bZ 38 true 40 8,aq 38 true (cj 41 2 39 40),aq 38 true (aF 42 0 1 41),aq 38 true (aw 43 1 42),aq 38 true (aF 44 1 1 4),aq 38 true (aw 45 1 44),aq 38 true (bh 46 .eql 43 45),dy 47 38 46]) (aS 47 (.seq (.drawn true 73 [I 48 0,I 49 0,I 50 8,cj 51 2 49 50,aF 52 1 1 51,aw 53 1 52,I 54 2,bh 55 .eql 53 54,I 6 48,I 7 55]) .ret) .skip)) (aa [fD 56 2 98 [],I 57 0,I 58 8,b7 59 (.lsl 2 (.t 57) none (some (.t 58))),iN 60 2 98 56 59,I 9 60] (aa [I 61 9,aF 62 1 1 4,aw 63 1 62,I 64 2,b7 65 (.build [.int .i64 0,.int .i64 0] [(0,1,(.t 63)),(1,1,(.t 64))]),fD 66 2 98 [.t 65],iN 67 2 98 61 66,I 9 67] (aa [I 68 9,I 69 0,I 70 8,b7 71 (.lsl 2 (.t 69) (some (.t 70)) none),iN 72 2 98 68 71,I 6 72,be 7 true] .ret))))))))
@[simp] def v8:List bu:=[.tmp 6,.tmp 7]
def HR:C:=(aa [cN 4 1,eQ 6 2,be 7 false] (.seq (aa [a7 13 4 4,I 14 2,b4 15 210 13 14] (aS 15 (aa [eQ 6 2,be 7 false] .ret) .skip)) (.seq (aa [a7 16 4 4,dK 17 58 [.t 16,(.c (.slice 1 .nil []))],cb 18 17,bS 19 0] (fe 20 19 18 (.seq (.block 1 (aa [cj 21 1 17 19,aw 22 1 21,I 9 22] (aa [I 23 9,I 24 2,b7 25 (.build [.int .i64 0,.str []] [(0,1,(.t 23)),(1,1,(.t 24))]),cU (.alloc 10 none (.agg [.int .i64 0,.str []])),bM 2 10 25] (aa [bS 11 0] (.seq (.block 2 (.loop (.seq (.seq (.drawn true 68 [I 26 11,I 27 0,cb 28 27,bh 29 .lss 26 28,I 30 29,bZ 30 true 31 0,bZ 30 true 32 11,aq 30 true (cj 33 2 31 32),aq 30 true (a7 34 2 33),aq 30 true (a7 35 2 10),aq 30 true (b4 36 147 34 35),dy 37 30 36]) (aS 37 .skip (.exit 2))) (.block 3 (.region [I 38 11,aT 39 .add 38 1,I 11 39]))))) (.seq (.drawn true 68 [I 40 11,I 41 0,cb 42 41,bh 43 .eql 40 42,I 44 43,aq 44 false (a7 45 2 10),bZ 44 false 46 0,bZ 44 false 47 11,aq 44 false (cj 48 2 46 47),aq 44 false (a7 49 2 48),aq 44 false (b4 50 147 45 49),c2 51 44 50]) (aS 51 (aa [fD 52 2 100 [],I 53 0,I 54 11,b7 55 (.lsl 2 (.t 53) none (some (.t 54))),iN 56 2 100 52 55,I 12 56] (aa [I 57 12,a7 58 2 10,fD 59 2 100 [.t 58],iN 60 2 100 57 59,I 12 60] (.region [I 61 12,I 62 0,I 63 11,b7 64 (.lsl 2 (.t 62) (some (.t 63)) none),iN 65 2 100 61 64,I 0 65]))) .skip))))))) (.fg false 0 (.region [aT 66 .add 19 1,I 19 66]))))) (aa [I 67 0,I 6 67,be 7 true] .ret))))
@[simp] def Lp:List bu:=[.tmp 6,.tmp 7]
def yG:C:=(aa [cN 2 0,be 4 false] (.seq (aa [aF 7 3 1 2,aw 8 1 7,cb 9 8,bS 10 0] (fe 11 10 9 (.seq (.block 1 (aa [cj 12 4 8 10,a7 13 4 12,dh 6 dt,bM 4 6 13] (aa [a7 14 4 6,I 15 1,b4 16 210 14 15] (aS 16 (aa [be 4 true] .ret) .skip)))) (.region [aT 17 .add 10 1,I 10 17])))) (aa [aF 18 0 1 2,aw 19 1 18,aT 20 .eql 19 2,I 21 20,aq 21 true (aF 22 2 1 2),aq 21 true (aw 23 1 22),bZ 21 true 24 1,aq 21 true (bh 25 .eql 23 24),dy 26 21 25,I 4 26] .ret)))
@[simp] def v7:List bu:=[.tmp 4]
def uV:List (Nat×dA):=[
 (3,⟨1,8,.int .i64,.int .i64 0⟩),
 (9,⟨1,16,.str,.str []⟩),
 (27,⟨1,24,.slice 30,.slice 4 .nil []⟩),
 (30,⟨4,56,.struct [(0,3),(1,3),(2,9),(3,27)],.agg [.int .i64 0,.int .i64 0,.str [],.slice 4 .nil []]⟩),
 (48,⟨1,24,.slice 98,.slice 2 .nil []⟩),
 (49,⟨1,24,.slice 100,.slice 2 .nil []⟩),
 (76,⟨1,24,.slice 3,.slice 1 .nil []⟩),
 (98,⟨2,16,.struct [(0,3),(1,3)],.agg [.int .i64 0,.int .i64 0]⟩),
 (100,⟨2,24,.struct [(0,3),(1,9)],.agg [.int .i64 0,.str []]⟩)]
theorem lY:fL al uV=true:=by kernel_rfl
theorem ahP:b0 uV O4 CR 1 Tryz.f78=true:=by kernel_rfl
theorem abj:al.funcs[(78:Nat)]? =some Tryz.f78:=Tryz.func78
theorem ahQ:b0 uV O5 Ac 1 Tryz.f79=true:=by kernel_rfl
theorem abk:al.funcs[(79:Nat)]? =some Tryz.f79:=Tryz.func79
theorem KR:b0 uV D4 ajA 2 Tryz.f147=true:=by kernel_rfl
theorem Iv:al.funcs[(147:Nat)]? =some Tryz.f147:=Tryz.func147
theorem aid:b0 uV Pt Lo 2 Tryz.f149=true:=by kernel_rfl
theorem abI:al.funcs[(149:Nat)]? =some Tryz.f149:=Tryz.func149
theorem aie:b0 uV Pu Lq 2 Tryz.f150=true:=by kernel_rfl
theorem abJ:al.funcs[(150:Nat)]? =some Tryz.f150:=Tryz.func150
theorem CF:b0 uV yH v8 3 Tryz.f151=true:=by kernel_rfl
theorem Be:al.funcs[(151:Nat)]? =some Tryz.f151:=Tryz.func151
theorem T8:b0 uV HR Lp 3 Tryz.f181=true:=by kernel_rfl
theorem Qs:al.funcs[(181:Nat)]? =some Tryz.f181:=Tryz.func181
theorem CE:b0 uV yG v7 2 Tryz.f210=true:=by kernel_rfl
theorem Bd:al.funcs[(210:Nat)]? =some Tryz.f210:=Tryz.func210
end Go.Proofs.YtahlgcidhnjlbaaGreat
namespace Go.Proofs.YtahlgcidhnjlbaaGreat
open Go Go.Pv
open Classical in
theorem alM(l:List bJ):bF al 78 [.slice 2 .no (l.map bJ.e)] (.bool (decide (iW l))):=by
 generalize bf:decide (iW l)=R;refine bm lY abj ahP fun aQ=>?_;unfold O4;have eY:l.length≤68719476736:=by simp[ez,dZ,eo,lim]at aQ;omega
 simp;refine dI [0,5,6] (fun i (_:Unit)=>[(7,.int .i64 i)]) l.length (fun i _=> ∀j,j<i→h3 lT mW l j) () bW (fun k ab=>by omega) (fun _ af _=>?_) (fun i _ hi af _=>?_)
 ·have:R=true:=by rw[←bf,fk,Fi];exact af
  rw[this];exact b5
 ·obtain⟨b,ad⟩:∃b,l[i]? =some b:=⟨_,cf hi⟩;obtain⟨c,au⟩:∃c,l[i-1]? =some c:=⟨_,cf (by omega)⟩;have cy:∀h,(l[i]'h)=b:=fun h=>by rw[cf hi]at ad;exact fj ad
  have cB:¬h3 lT mW l i→R=false:=fun h=>by rw[←bf,gz];exact fun ca=>h (Fi.1 ca i hi)
  have da:h3 lT mW l i→∀j,j<i+1→h3 lT mW l j:=fun h j jh=>by
   by_cases e:j=i
   ·rw[e];exact h
   ·exact af j (by omega)
  have oY:h3 lT mW l i→lT b:=fun h=>(h b ad).1;have bD:h3 lT mW l i→0<i→c.v<b.v:=fun h bA=>(h b ad).2 c bA au;have eU:lT b→(0<i→c.v<b.v)→h3 lT mW l i:=fun J U b1 fP=>by rw[ad]at fP;cases fP;exact⟨J,fun cr bA hq=>by rw[au]at hq;cases hq;exact U bA⟩
  unfold lT at oY eU;by_cases g0:0<i∧¬c.v<b.v
  ·rw[cB (fun h=>g0.2 (bD h g0.1))];have anI:=g0.1;have vd:b.v≤c.v:=by omega
   exact b5
  have aP:(decide (0<i)&&decide (b.v≤c.v))=false:=by simp;intro h;by_cases cu:c.v<b.v;exact cu;exact absurd ⟨h,cu⟩ g0
  by_cases g1:0≤b.v∧b.v≤100000;rotate_left
  ·rw[cB (fun h=>g1 (oY h).1)];have kS:decide (0≤b.v∧b.v≤100000)=false:=by simp only[gz];exact g1
   by_cases bA:0<i
   ·have vd:¬b.v≤c.v:=by simp[bA]at aP;omega
    simp[hi,cy,au];(with_reducible repeat' first|refine aj ?_|refine aD (dr _ _ _) ?_|refine aE (dr _ _ _) ?_|simp[cy,au,hi,bA,vd,kS,g1]);all_goals simp[bz,CR,aW,aX,aV]
   ·obtain rfl:i=0:=by omega
    simp[hi,cy,au];(with_reducible repeat' first|refine aj ?_|refine aD (dr _ _ _) ?_|refine aE (dr _ _ _) ?_|simp[cy,au,hi,kS,g1]);all_goals simp[bz,CR,aW,aX,aV]
  have kS:decide (0≤b.v∧b.v≤100000)=true:=by simp only[fk];exact g1
  by_cases g2:b.k=2∨b.k=3;rotate_left
  ·rw[cB (fun h=>g2 (oY h).2)];have g21:(b.k !=2)=true:=by simp;omega
   have g22:(b.k !=3)=true:=by simp;omega
   by_cases bA:0<i
   ·have vd:¬b.v≤c.v:=by simp[bA]at aP;omega
    simp[hi,cy,au];(with_reducible repeat' first|refine aj ?_|refine aD (dr _ _ _) ?_|refine aE (dr _ _ _) ?_|simp[cy,au,hi,bA,vd,kS,g1,g21,g22]);all_goals simp[bz,CR,aW,aX,aV]
   ·obtain rfl:i=0:=by omega
    simp[hi,cy,au];(with_reducible repeat' first|refine aj ?_|refine aD (dr _ _ _) ?_|refine aE (dr _ _ _) ?_|simp[cy,au,hi,kS,g1,g21,g22]);all_goals simp[bz,CR,aW,aX,aV]
  have dC:=da (eU ⟨g1,g2⟩ fun bA=>by simp[bA]at aP;omega);have w1:((b.k !=2)=false)∨((b.k !=2)=true∧(b.k !=3)=false):=by
   rcases g2 with h|h
   ·left;simp[h]
   ·right;simp[h]
  rcases w1 with g21|⟨g21,g22⟩
  ·by_cases bA:0<i
   ·have vd:¬b.v≤c.v:=by simp[bA]at aP;omega
    simp[hi,cy,au];(with_reducible repeat' first|refine aj ?_|refine aD (dr _ _ _) ?_|refine aE (dr _ _ _) ?_|simp[cy,au,hi,bA,vd,kS,g1,g21]);all_goals exact bO.rng () hi dC bW
   ·obtain rfl:i=0:=by omega
    simp[hi,cy,au];(with_reducible repeat' first|refine aj ?_|refine aD (dr _ _ _) ?_|refine aE (dr _ _ _) ?_|simp[cy,au,hi,kS,g1,g21]);all_goals exact bO.rng () hi dC bW
  ·by_cases bA:0<i
   ·have vd:¬b.v≤c.v:=by simp[bA]at aP;omega
    simp[hi,cy,au];(with_reducible repeat' first|refine aj ?_|refine aD (dr _ _ _) ?_|refine aE (dr _ _ _) ?_|simp[cy,au,hi,bA,vd,kS,g1,g21,g22]);all_goals exact bO.rng () hi dC bW
   ·obtain rfl:i=0:=by omega
    simp[hi,cy,au];(with_reducible repeat' first|refine aj ?_|refine aD (dr _ _ _) ?_|refine aE (dr _ _ _) ?_|simp[cy,au,hi,kS,g1,g21,g22]);all_goals exact bO.rng () hi dC bW
theorem lF(a b:bj):bF al 147 [a.e,b.e] (.bool (hG e7 a b)):=by
 rw[←TJ];have bf:sR a b=(decide (a.v<b.v)||(a.v==b.v&&ho a.s b.s)):=rfl;rcases Int.lt_trichotomy a.v b.v with h|h|h
 ·have:sR a b=true:=by rw[bf];simp[h]
  rw[this];refine bm lY Iv KR fun aQ=>?_;unfold D4;exact b5
 ·have J:¬a.v<b.v:=by omega
  have U:(a.v==b.v)=true:=by simp[h]
  have:sR a b=ho a.s b.s:=by rw[bf];simp[h]
  rw[this];refine bm lY Iv KR fun aQ=>?_;unfold D4;exact b5
 ·have J:¬a.v<b.v:=by omega
  have U:¬a.v=b.v:=by omega
  have ao:(a.v==b.v)=false:=by simp[U]
  have:sR a b=false:=by rw[bf];simp[J,U]
  rw[this];refine bm lY Iv KR fun aQ=>?_;unfold D4;exact b5
end Go.Proofs.YtahlgcidhnjlbaaGreat
namespace Go.Proofs.YtahlgcidhnjlbaaGreat
open Go Go.Pv
def Ss(l:List cI)(i:Nat)(_:Unit):Prop:= ∀j,j<i→zQ l j
open Classical in
theorem Wy(l:List cI):bF al 145 [.slice 5 .no (l.map cI.e)] (.bool (decide (tu l))):=by
 generalize bf:decide (tu l)=R;refine bm eB abB ah6 fun aQ=>?_;unfold Pm;have eY:l.length≤68719476736:=by simp[ez,dZ,eo,lim]at aQ;omega
 simp;refine dI [0,5,6] (fun i (_:Unit)=>[(7,.int .i64 i)]) l.length (Ss l) () bW (fun k ab=>by omega) (fun _ af _=>?_) (fun i _ hi af _=>?_)
 ·have:R=decide (l.length≤400):=by rw[←bf,decide_eq_decide];exact⟨fun h=>h.1,fun h=>⟨h,fun j jh=>af j jh⟩⟩
  rw[this];simp;(with_reducible repeat' first|refine aj ?_|simp);simp[bz,Lm,aW,aX,aV];all_goals(first|done|omega|(simp;done)|(simp;omega))
 ·obtain⟨b,ad⟩:∃b,l[i]? =some b:=⟨_,cf hi⟩;obtain⟨c,au⟩:∃c,l[i-1]? =some c:=⟨_,cf (by omega)⟩;have cy:∀h,(l[i]'h)=b:=fun h=>by rw[cf hi]at ad;exact fj ad
  have cB:¬zQ l i→R=false:=fun h=>by rw[←bf,gz];exact fun ca=>h (ca.2 i hi)
  have da:zQ l i→Ss l (i+1) ():=fun h j jh=>by
   by_cases e:j=i
   ·rw[e];exact h
   ·exact af j (by omega)
  simp[hi,cy,au];((with_reducible repeat' first|refine aj ?_|refine aD (dr _ _ _) ?_|refine aE (dr _ _ _) ?_|refine aD (Dl _) ?_|refine aE (Dl _) ?_|simp[cy,au,hi]|((first|apply bL|apply bQ|apply bP)<;>intro h<;>try simp at h))<;>(try exact cq));all_goals first
   |(have aA:¬zQ l i:=by(intro ca;have J:=ca b ad;have U:=J.2.1 c;have ao:=J.2.2;first|omega|(have ba:=U (by omega) au;omega)|(rw[ao]at h;cases h)|(simp_all;done)|(simp_all;omega))
     rw[cB aA]
     simp[bz,Lm,aW,aX,aV]
     done)
   |(refine bO.rng () hi (da fun b1 fP=>?_) ?_
     ·rw[ad]at fP;cases fP
      refine⟨?_,fun cr bA hq=>?_,?_⟩
      ·omega
      ·rw[au]at hq;cases hq;omega
      ·first|assumption|simp_all
     ·exact bW)
def mj(n:Int):List Int→List Int
 |[]=>[n]
 |c::l=>if c<n then c::mj n l else if c=n then c::l else n::c::l
def r9(l:List Int):Prop:=l.Pairwise (· < ·)
theorem Sk(n:Int):∀(l:List Int) (k:Nat),(∀i c,i<k→l[i]? =some c→c<n)→(∀c,l[k]? =some c→n≤c)→k≤l.length→mj n l=if l[k]? =some n then l else l.take k++n::l.drop k
 |[],k,_,_,ab=>by simp at ab;subst ab;rfl
 |c::l,0,_,U,_=>by
  have:=U c rfl;by_cases e:c=n
  ·simp[mj,e]
  ·have ao:¬c<n:=by omega
   simp[mj,ao,e]
 |c::l,k+1,J,U,ab=>by have bA:=J 0 c (by omega) rfl;simp only[mj,if_pos bA,List.take_succ_cons,List.drop_succ_cons,bV,List.getElem?_cons_succ];rw[Sk n l k (fun i d hi aP=>J (i+1) d (by omega) (by simpa using aP)) (fun d aP=>U d (by simpa using aP)) (by simpa using ab)];split<;>rfl
theorem Ko{n m:Int}:∀{l:List Int},m∈mj n l↔m=n∨m∈l
 |[]=>by simp[mj]
 |c::l=>by
  simp only[mj];split
  ·simp only[fY,Ko (l:=l)];constructor
   ·rintro(h|h|h)
    ·exact .inr (.inl h)
    ·exact .inl h
    ·exact .inr (.inr h)
   ·rintro(h|h|h)
    ·exact .inr (.inl h)
    ·exact .inl h
    ·exact .inr (.inr h)
  ·split
   ·rename_i h;subst h;simp
   ·simp
theorem Sj{n:Int}:∀{l:List Int},r9 l→r9 (mj n l)
 |[],_=>by simp[mj,r9]
 |c::l,h=>by
  obtain⟨J,U⟩:=mB.1 h;simp only[mj];split
  ·rename_i ao;refine mB.2 ⟨fun m hm=>?_,Sj U⟩;rcases Ko.1 hm with rfl|hm
   ·exact ao
   ·exact J m hm
  ·split
   ·exact h
   ·refine mB.2 ⟨fun m hm=>?_,h⟩;rcases fY.1 hm with rfl|hm
    ·omega
    ·have:=J m hm;omega
theorem Sl(n:Int):∀l:List Int,(mj n l).length≤l.length+1
 |[]=>by simp[mj]
 |c::l=>by
  have:=Sl n l;simp only[mj];split
  ·simp;omega
  ·split<;>simp
theorem B5(l:List Int)(i:Nat):(ek l)[i]? =(l[i]?).map (ah.int .i64):=by simp[ek]
theorem eP(l:List Int):(ek l).length=l.length:=by simp[ek]
theorem ye:∀l:List Int,cZ (ek l)=ek l
 |[]=>by simp[ek,cZ]
 |a::l=>by have:=ye l;simp only[ek,hf,cZ,dq]at this⊢;rw[this]
theorem E8(l:List Int)(n:Int)(k:Nat):cZ (lG k (ek l)++ah.int .i64 n::nj k (lG l.length (ek l)))=ek (lG k l++n::nj k l):=by
 have e:lG l.length (ek l)=ek l:=hz (by simp[ek]);have aC:lG k (ek l)++ah.int .i64 n::nj k (ek l)=ek (lG k l++n::nj k l):=by simp only[ek,List.map_append,hf,List.map_take,List.map_drop]
 rw[e,aC];exact ye _
theorem alm(l:List Int)(n:Int)(av:l.length≤1000000)(bt:r9 l):bF al 126 [.slice 1 .no (ek l),.int .i64 n] (.slice 1 .no (ek (mj n l))):=by
 refine bm eB abr ahX fun aQ=>?_;unfold Pc;simp;refine u9 [0,1] (fun(k:Nat)=>[(5,.int .i64 k)]) (fun k=>k) (fun k=>k≤l.length∧∀c,l[k]? =some c→n≤c) l.length bW ⟨by omega,fun c h=>by simp at h⟩ (fun k af _=>?_);obtain⟨ab,af⟩:=af;have vk:(∀c,0<k→l[k-1]? =some c→c<n)→mj n l=if l[k]? =some n then l else l.take k++n::l.drop k:=fun h=>Sk n l k (fun i c hi au=>by
  obtain⟨d,aP⟩:∃d,l[k-1]? =some d:=⟨_,cf (by omega)⟩;have J:=h d (by omega) aP;rcases Nat.lt_or_ge i (k-1)with U|U
  ·have sx:=(fi.1 au);have ma:=(fi.1 aP);have:=pj.1 bt i (k-1) sx.1 ma.1 U;rw[sx.2,ma.2]at this;omega
  ·have:i=k-1:=by omega
   subst this;rw[aP]at au;cases au;exact J) af ab
 have lj:∀c,l[k]? =some c→∀h,((ek l)[k]'h)= .int .i64 c:=fun c h ca=>by have:=B5 l k;rw[h,cf ca]at this;exact fj this
 have dC:(0<k→∃d,l[k-1]? =some d∧d<n)→∀P:Prop,(mj n l=(if l[k]? =some n then l else l.take k++n::l.drop k)→P)→P:=fun h P ac2=>ac2 (vk fun c bA au=>by obtain⟨d,aP,J⟩:=h bA;rw[aP]at au;cases au;exact J)
 rcases Nat.eq_zero_or_pos k with bA|fp
 ·have bp:decide ((0:Int)<k)=false:=by simp;omega
  refine dC (fun h=>by omega) _ fun e=>?_;by_cases hE:k<l.length
  ·obtain⟨c,au⟩:∃c,l[k]? =some c:=⟨_,cf hE⟩;have hq:=lj c au;rw[au]at e;by_cases q:c=n
   ·have gB:(c==n)=true:=by simp[q]
    rw[if_pos (by rw[q])]at e;rw[e];simp[bp,hE];((with_reducible repeat' first|refine aj ?_|simp[bp,hE,hq,gB]|((first|apply bL|apply bQ|apply bP)<;>intro h<;>try simp at h))<;>(try exact cq));all_goals simp[bz,x1,aW,aX,aV]
   ·have gB:(c==n)=false:=by simp[q]
    rw[if_neg (by simp[q])]at e;rw[e];simp[bp,hE];((with_reducible repeat' first|refine aj ?_|simp[bp,hE,hq,gB]|((first|apply bL|apply bQ|apply bP)<;>intro h<;>try simp at h))<;>(try exact cq));all_goals simp[bz,x1,aW,aX,aV]
    all_goals exact E8 l n k
  ·rw[p5 (by omega)]at e;simp only[reduceCtorEq,if_false]at e;rw[e];simp[bp,hE];((with_reducible repeat' first|refine aj ?_|simp[bp,hE]|((first|apply bL|apply bQ|apply bP)<;>intro h<;>try simp at h))<;>(try exact cq));all_goals simp[bz,x1,aW,aX,aV]
   all_goals exact E8 l n k
 ·obtain⟨d,aP⟩:∃d,l[k-1]? =some d:=⟨_,cf (by omega)⟩;have ak:((k:Int)-1).toNat=k-1:=by omega
  have aC:∀h,((ek l)[k-1]'h)= .int .i64 d:=fun ca=>by have:=B5 l (k-1);rw[aP,cf ca]at this;exact fj this
  have iE:(0:Int)<k:=by omega
  have lQ:k-1<l.length:=by omega
  by_cases ad:n≤d
  ·simp[fp,iE,ak,aC,ad,lQ];(with_reducible repeat' first|refine aj ?_|simp[fp,iE,ak,aC,ad,lQ]);refine bO.whl (k-1) (by omega) ⟨by omega,fun c au=>by rw[aP]at au;cases au;exact ad⟩ ?_;have bk:((k-1:Nat):Int)=(k:Int)-1:=by omega
   simp[bk];exact bW
  ·refine dC (fun _=>⟨d,aP,by omega⟩) _ fun e=>?_;by_cases hE:k<l.length
   ·obtain⟨c,au⟩:∃c,l[k]? =some c:=⟨_,cf hE⟩;have hq:=lj c au;rw[au]at e;by_cases q:c=n
    ·have gB:(c==n)=true:=by simp[q]
     rw[if_pos (by rw[q])]at e;rw[e];simp[fp,iE,ak,aC,ad,lQ,hE];((with_reducible repeat' first|refine aj ?_|simp[fp,iE,ak,aC,ad,lQ,hE,hq,gB]|((first|apply bL|apply bQ|apply bP)<;>intro h<;>try simp at h))<;>(try exact cq));all_goals simp[bz,x1,aW,aX,aV]
    ·have gB:(c==n)=false:=by simp[q]
     rw[if_neg (by simp[q])]at e;rw[e];simp[fp,iE,ak,aC,ad,lQ,hE];(with_reducible repeat' first|refine aj ?_|simp[fp,iE,ak,aC,ad,lQ,hE,hq,gB]);all_goals simp[bz,x1,aW,aX,aV]
     all_goals exact E8 l n k
   ·rw[p5 (by omega)]at e;simp only[reduceCtorEq,if_false]at e;rw[e];simp[fp,iE,ak,aC,ad,lQ,hE];(with_reducible repeat' first|refine aj ?_|simp[fp,iE,ak,aC,ad,lQ,hE]);all_goals simp[bz,x1,aW,aX,aV]
    all_goals exact E8 l n k
def hY:T→List Int→List Int
 | .var n,l=>mj n l
 | .pair a b,l=>hY b (hY a l)
 |_,l=>l
theorem Mv:∀(t:T) {l:List Int},r9 l→r9 (hY t l)
 | .var _,_,h=>Sj h
 | .pair a b,_,h=>Mv b (Mv a h)
 | .nil,_,h=>h
 | .sym _,_,h=>h
 | .num _,_,h=>h
theorem Cq{m:Int}:∀(t:T) {l:List Int},m∈hY t l↔t.occ m=true∨m∈l
 | .var n,l=>by simp only[hY,Ko,T.occ,dO];constructor<;>rintro(h|h)<;>first|exact .inr h|exact .inl h.symm
 | .pair a b,l=>by
  simp only[hY,Cq b,Cq a,T.occ,mA];constructor
  ·rintro(h|h|h)
   ·exact .inl (.inr h)
   ·exact .inl (.inl h)
   ·exact .inr h
  ·rintro((h|h)|h)
   ·exact .inr (.inl h)
   ·exact .inl h
   ·exact .inr (.inr h)
 | .nil,l=>by simp[hY,T.occ]
 | .sym _,l=>by simp[hY,T.occ]
 | .num _,l=>by simp[hY,T.occ]
theorem AH:∀(t:T) (l:List Int),(hY t l).length≤l.length+t.size
 | .var n,l=>by have:=Sl n l;simp only[hY,T.size];omega
 | .pair a b,l=>by have J:=AH a l;have U:=AH b (hY a l);simp only[hY,T.size];omega
 | .nil,l=>by simp[hY]
 | .sym _,l=>by simp[hY]
 | .num _,l=>by simp[hY]
theorem Dj:∀(t:T) (l:List Int),l.length+t.size≤1000000→r9 l→bF al 58 [t.e,.slice 1 .no (ek l)] (.slice 1 .no (ek (hY t l)))
 | .var n,l,av,bt=>by
  simp only[T.size]at av;have key:=alm l n (by omega) bt;refine bm eB Bc CD fun aQ=>?_;unfold yF;simp;(with_reducible repeat' first|refine aj ?_|refine aD key ?_|refine aE key ?_|simp);all_goals simp[bz,Ae,aW,aX,aV]
  all_goals simp[hY,ye]
 | .pair a b,l,av,bt=>by
  simp only[T.size]at av;have J4:=AH a l;have aU:=Dj a l (by omega) bt;have bG:=Dj b (hY a l) (by omega) (Mv a bt);refine bm eB Bc CD fun aQ=>?_;unfold yF;simp;refine dI [15,16] (fun i (_:Unit)=>[(1,.slice 1 .no (ek (if i=0 then l else if i=1 then hY a l else hY b (hY a l)))),(17,.int .i64 i)]) 2 (fun _ _=>True) () bW trivial (fun _ _ _=>?_) (fun i _ hi _ _=>?_)
  ·simp;(with_reducible repeat' first|refine aj ?_|simp);simp[bz,Ae,aW,aX,aV];simp[hY,ye]
  ·rcases(by omega:i=0∨i=1)with rfl|rfl
   ·simp;((with_reducible repeat' first|refine aj ?_|refine aD aU ?_|refine aE aU ?_|simp|((first|apply bL|apply bQ|apply bP)<;>intro h<;>try simp at h))<;>(try exact cq));exact bO.rng () hi trivial bW
   ·simp;((with_reducible repeat' first|refine aj ?_|refine aD bG ?_|refine aE bG ?_|simp|((first|apply bL|apply bQ|apply bP)<;>intro h<;>try simp at h))<;>(try exact cq));exact bO.rng () hi trivial bW
 | .nil,l,av,bt=>by refine bm eB Bc CD fun aQ=>?_;unfold yF;simp;refine dI [15,16] (fun i (_:Unit)=>[(1,.slice 1 .no (ek l)),(17,.int .i64 i)]) 0 (fun _ _=>True) () bW trivial (fun _ _ _=>?_) (fun i _ hi _ _=>by omega);simp;((with_reducible repeat' first|refine aj ?_|simp|((first|apply bL|apply bQ|apply bP)<;>intro h<;>try simp at h))<;>(try exact cq));simp[bz,Ae,aW,aX,aV];simp[hY,ye]
 | .sym _,l,av,bt=>by refine bm eB Bc CD fun aQ=>?_;unfold yF;simp;refine dI [15,16] (fun i (_:Unit)=>[(1,.slice 1 .no (ek l)),(17,.int .i64 i)]) 0 (fun _ _=>True) () bW trivial (fun _ _ _=>?_) (fun i _ hi _ _=>by omega);simp;(with_reducible repeat' first|refine aj ?_|simp);simp[bz,Ae,aW,aX,aV];simp[hY,ye]
 | .num _,l,av,bt=>by refine bm eB Bc CD fun aQ=>?_;unfold yF;simp;refine dI [15,16] (fun i (_:Unit)=>[(1,.slice 1 .no (ek l)),(17,.int .i64 i)]) 0 (fun _ _=>True) () bW trivial (fun _ _ _=>?_) (fun i _ hi _ _=>by omega);simp;(with_reducible repeat' first|refine aj ?_|simp);simp[bz,Ae,aW,aX,aV];simp[hY,ye]
def ae4(s:List dz)(a b:T)(i:Nat)(_:Unit):Prop:=(1≤i→a.has s=false)∧(2≤i→b.has s=false)
theorem GS(s:List dz):∀t:T,bF al 210 [t.e,.str s] (.bool (t.has s))
 | .pair a b=>by
  have dS:=GS s a;have dT:=GS s b;refine bm lY Bd CE fun aQ=>?_;unfold yG;simp;refine dI [1,2,8,9] (fun i (_:Unit)=>[(10,.int .i64 i)]) 2 (ae4 s a b) () bW ⟨fun h=>by omega,fun h=>by omega⟩ (fun _ af _=>?_) (fun i _ hi af _=>?_)
  ·simp;(with_reducible repeat' first|refine aj ?_|simp);simp[bz,v7,aW,aX,aV];simp[T.has,af.1,af.2]
  ·rcases(by omega:i=0∨i=1)with rfl|rfl
   ·cases bt:a.has s
    ·rw[bt]at dS;simp;((with_reducible repeat' first|refine aj ?_|refine aD dS ?_|refine aE dS ?_|simp|((first|apply bL|apply bQ|apply bP)<;>intro h<;>try simp at h))<;>(try exact cq));exact bO.rng () hi ⟨fun _=>bt,fun h=>by omega⟩ bW
    ·rw[bt]at dS;simp;((with_reducible repeat' first|refine aj ?_|refine aD dS ?_|refine aE dS ?_|simp|((first|apply bL|apply bQ|apply bP)<;>intro h<;>try simp at h))<;>(try exact cq));simp[bz,v7,aW,aX,aV];simp[T.has,bt]
   ·cases ad:b.has s
    ·rw[ad]at dT;simp;((with_reducible repeat' first|refine aj ?_|refine aD dT ?_|refine aE dT ?_|simp|((first|apply bL|apply bQ|apply bP)<;>intro h<;>try simp at h))<;>(try exact cq));exact bO.rng () hi ⟨fun _=>af.1 (by omega),fun _=>ad⟩ bW
    ·rw[ad]at dT;simp;((with_reducible repeat' first|refine aj ?_|refine aD dT ?_|refine aE dT ?_|simp|((first|apply bL|apply bQ|apply bP)<;>intro h<;>try simp at h))<;>(try exact cq));simp[bz,v7,aW,aX,aV];simp[T.has,ad]
 | .sym n=>by
  refine bm lY Bd CE fun aQ=>?_;unfold yG;simp;refine dI [1,2,8,9] (fun i (_:Unit)=>[(10,.int .i64 i)]) 0 (fun i _=>True) () bW trivial (fun _ af _=>?_) (fun i _ hi af _=>by omega);simp;(with_reducible repeat' first|refine aj ?_|simp);all_goals simp[bz,v7,aW,aX,aV]
  all_goals simp[T.has]
 | .num n=>by
  refine bm lY Bd CE fun aQ=>?_;unfold yG;simp;refine dI [1,2,8,9] (fun i (_:Unit)=>[(10,.int .i64 i)]) 0 (fun i _=>True) () bW trivial (fun _ af _=>?_) (fun i _ hi af _=>by omega);simp;(with_reducible repeat' first|refine aj ?_|simp);all_goals simp[bz,v7,aW,aX,aV]
  all_goals simp[T.has]
 | .var n=>by
  refine bm lY Bd CE fun aQ=>?_;unfold yG;simp;refine dI [1,2,8,9] (fun i (_:Unit)=>[(10,.int .i64 i)]) 0 (fun i _=>True) () bW trivial (fun _ af _=>?_) (fun i _ hi af _=>by omega);simp;(with_reducible repeat' first|refine aj ?_|simp);all_goals simp[bz,v7,aW,aX,aV]
  all_goals simp[T.has]
 | .nil=>by
  refine bm lY Bd CE fun aQ=>?_;unfold yG;simp;refine dI [1,2,8,9] (fun i (_:Unit)=>[(10,.int .i64 i)]) 0 (fun i _=>True) () bW trivial (fun _ af _=>?_) (fun i _ hi af _=>by omega);simp;(with_reducible repeat' first|refine aj ?_|simp);all_goals simp[bz,v7,aW,aX,aV]
  all_goals simp[T.has]
def ou(l:List bJ)(o:aY (List bJ)):ah:= .tuple [.slice 2 .no ((o.getD l).map bJ.e),.bool o.isSome]
@[simp] theorem aoZ(S:aH→Prop)(l:List bJ)(o:aY (List bJ)):aB S (ou l o)=True:=by simp[ou]
def vF(l:List bJ)(n:Int)(i:Nat):Prop:=i≤l.length∧∀j y,j<i→l[j]? =some y→y.v<n
theorem vF.none{l:List bJ}{n:Int}{i:Nat}(h:vF l n i)(bt:l.Pairwise fun x y=>x.v<y.v)(au:∀c,l[i]? =some c→n<c.v):kZ l n=none:=xF.2 fun x ae=>by
 obtain⟨j,ea,rfl⟩:=nk ae;have e:=cf ea;rcases Nat.lt_or_ge j i with J|J
 ·have:=h.2 j _ J e;omega
 ·have EI:i<l.length:=by omega
  have aC:=cf EI;have ao:=au _ aC;rcases Nat.lt_or_ge i j with U|U
  ·have:=pj.1 bt i j EI ea U;omega
  ·obtain rfl:i=j:=by omega
   omega
theorem vF.ins{l:List bJ}{n k:Int}{i:Nat}(h:vF l n i)(au:∀c,l[i]? =some c→n<c.v):lv ⟨n,k⟩ l=l.take i++⟨n,k⟩::l.drop i:=Sm ⟨n,k⟩ l i (fun j y J U=>h.2 j y J U) (fun y aL=>by have:=au y aL;simp;omega) h.1
theorem vF.step{l:List bJ}{n:Int}{i:Nat}{b:bJ}(h:vF l n i)(ad:l[i]? =some b)(aA:b.v<n):vF l n (i+1):=⟨(fi.1 ad).1,fun j y J U=>by
 rcases(by omega:j<i∨j=i)with ao|rfl
 ·exact h.2 j y ao U
 ·rw[ad]at U;cases U;exact aA⟩
theorem alA(l:List bJ)(av:l.length≤1000000)(bt:l.Pairwise fun x y=>x.v<y.v)(n k:Int):bF al 151 [.slice 2 .no (l.map bJ.e),(T.var n).e,.int .i64 k] (ou l (ka l (.var n) k)):=by
 generalize di:ka l (.var n) k=O;have dR:(match kZ l n with|some bK=>if bK=k then some l else none|none=>some (lv ⟨n,k⟩ l))=O:=by rw[←di];rfl
 clear di;refine bm lY Be CF fun aQ=>?_;unfold yH;simp;refine u9 [0,2,4] (fun(i:Nat)=>[(8,.int .i64 i)]) (fun i=>l.length-i) (vF l n) 0 bW ⟨by omega,fun j y h=>by omega⟩ (fun i af _=>?_);have ab:=af.1;by_cases hi:i<l.length
 ·obtain⟨b,ad,cy⟩:=dP hi;rcases Int.lt_trichotomy b.v n with h|h|h
  ·have ag:=af.step ad h;clear dR af ad bt;simp[hi,cy,h];((with_reducible repeat' first|refine aj ?_|simp[hi,cy,h]|((first|apply bL|apply bQ|apply bP)<;>intro h<;>try simp at h))<;>(try exact cq));exact bO.whl (i+1) (by omega) ag bW
  ·have a1:kZ l n=some b.k:=by rw[←h];exact Fj bt (dL ad)
   have J:¬b.v<n:=by omega
   have U:(b.v==n)=true:=by simp[h]
   rw[a1]at dR;simp only at dR;subst dR;clear af ad bt a1;simp[hi,cy,J,U];(with_reducible repeat' first|refine aj ?_|simp[hi,cy,J,U]);all_goals simp[bz,v8,aW,aX,aV]
   all_goals(by_cases e:b.k=k<;>simp[ou,e])
  ·have J:¬b.v<n:=by omega
   have U:(b.v==n)=false:=by simp;omega
   have au:∀c,l[i]? =some c→n<c.v:=fun c au=>by rw[ad]at au;cases au;exact h
   rw[af.none bt au]at dR;simp only[af.ins au]at dR;subst dR;clear af ad bt au;simp[hi,cy,J,U];(with_reducible repeat' first|refine aj ?_|simp[hi,cy,J,U]);all_goals simp[bz,v8,aW,aX,aV]
   all_goals simp[ou]
   rw[hz (by simp:(l.map bJ.e).length≤l.length),←List.map_take,←List.map_drop,←hf,←List.map_append];exact LY _
 ·have au:∀c,l[i]? =some c→n<c.v:=fun c au=>by rw[p5 (by omega)]at au;cases au
  rw[af.none bt au]at dR;simp only[af.ins au]at dR;have EI:i=l.length:=by omega
  clear af bt au;subst dR;subst EI;simp;(with_reducible repeat' first|refine aj ?_|simp);all_goals simp[bz,v8,aW,aX,aV]
  all_goals simp[ou]
  rw[hz (by simp:(l.map bJ.e).length≤l.length),show [(⟨n,k⟩:bJ).e]=[(⟨n,k⟩:bJ)].map bJ.e from rfl,←List.map_append];exact LY _
theorem WC(l:List bJ)(av:l.length≤1000000)(bt:l.Pairwise fun x y=>x.v<y.v)(t:T)(k:Int):bF al 151 [.slice 2 .no (l.map bJ.e),t.e,.int .i64 k] (ou l (ka l t k)):=by
 cases t with
 |var n=>exact alA l av bt n k
 |nil=>
  refine bm lY Be CF fun aQ=>?_;unfold yH;simp;(with_reducible repeat' first|refine aj ?_|simp);all_goals simp[bz,v8,aW,aX,aV]
  all_goals(by_cases e:0=k<;>simp[ou,ka,e])
 |sym n=>
  refine bm lY Be CF fun aQ=>?_;unfold yH;simp;(with_reducible repeat' first|refine aj ?_|simp);all_goals simp[bz,v8,aW,aX,aV]
  all_goals(by_cases e:2=k<;>simp[ou,ka,e])
 |num n=>
  refine bm lY Be CF fun aQ=>?_;unfold yH;simp;(with_reducible repeat' first|refine aj ?_|simp);all_goals simp[bz,v8,aW,aX,aV]
  all_goals(by_cases e:3=k<;>simp[ou,ka,e])
 |pair a b=>
  refine bm lY Be CF fun aQ=>?_;unfold yH;simp;(with_reducible repeat' first|refine aj ?_|simp);all_goals simp[bz,v8,aW,aX,aV]
  all_goals(by_cases e:4=k<;>simp[ou,ka,e])
theorem WO(s:List ar)(v:Int):hc s (.var v)=bR s v:=rfl
theorem Mo{s:List ar}(ag:eD s){l:List bJ}(av:iW l):bF al 149 [.slice 5 .no (s.map ar.e),.slice 2 .no (l.map bJ.e)] (fQ (fW s l [])):=by
 have xl:=sK av;refine bm lY abI aid fun aQ=>?_;unfold Pt;simp;refine dI [0,11,12] (fun i (a:List bJ)=>[(6,.slice 2 .no (a.map bJ.e)),(13,.int .i64 i)]) l.length (Sq s l) [] bW ⟨⟨by simp,by simp⟩,rfl⟩ (fun a af _=>?_) (fun i a hi af _=>?_)
 ·obtain⟨_,af⟩:=af;rw[List.drop_length]at af;simp only[fW]at af;rw[←af];simp;(with_reducible repeat' first|refine aj ?_|simp);simp[bz,Lo,aW,aX,aV];simp[fQ]
 ·obtain⟨bt,af⟩:=af;obtain⟨b,ad,cy⟩:=dP hi;have n4:=av.at' b (dL ad);rw[k6 hi,cy]at af;simp only[fW]at af;have kY:=GR s ag.len (.var b.v);rw[WO]at kY;have gd:=WC a (by have:=sK bt;omega) bt.asc (bR s b.v) b.k;simp[hi,cy];cases dR:ka a (bR s b.v) b.k with
  |none=>rw[dR]at af gd;simp only at af;rw[←af];simp only[ou]at gd;(with_reducible repeat' first|refine aj ?_|refine aD (jU _) ?_|refine aE (jU _) ?_|refine aD kY ?_|refine aE kY ?_|refine aD gd ?_|refine aE gd ?_|simp[cy,hi]);simp[bz,Lo,aW,aX,aV];simp[fQ]
  |some bn=>rw[dR]at af gd;simp only[ou]at gd;(with_reducible repeat' first|refine aj ?_|refine aD (jU _) ?_|refine aE (jU _) ?_|refine aD kY ?_|refine aE kY ?_|refine aD gd ?_|refine aE gd ?_|simp[cy,hi]);exact bO.rng bn hi ⟨Hf bt (Ao ag n4.1) n4.2 dR,af⟩ bW
end Go.Proofs.YtahlgcidhnjlbaaGreat
namespace Go.Proofs.YtahlgcidhnjlbaaGreat
open Go Go.Pv
open Classical in
theorem alN(l:List bj):bF al 79 [.slice 2 .no (l.map bj.e)] (.bool (decide (ik l))):=by
 generalize bf:decide (ik l)=R;refine bm lY abk ahQ fun aQ=>?_;unfold O5;have eY:l.length≤68719476736:=by simp[ez,dZ,eo,lim]at aQ;omega
 simp;refine dI [0,5,6] (fun i (_:Unit)=>[(7,.int .i64 i)]) l.length (fun i _=> ∀j,j<i→h3 j3 kr l j) () bW (fun k ab=>by omega) (fun _ af _=>?_) (fun i _ hi af _=>?_)
 ·have:R=true:=by rw[←bf,fk,Fy];exact af
  rw[this];exact b5
 ·obtain⟨b,ad⟩:∃b,l[i]? =some b:=⟨_,cf hi⟩;obtain⟨c,au⟩:∃c,l[i-1]? =some c:=⟨_,cf (by omega)⟩;have cy:∀h,(l[i]'h)=b:=fun h=>by rw[cf hi]at ad;exact fj ad
  have cB:¬h3 j3 kr l i→R=false:=fun h=>by rw[←bf,gz];exact fun ca=>h (Fy.1 ca i hi)
  have da:h3 j3 kr l i→∀j,j<i+1→h3 j3 kr l j:=fun h j jh=>by
   by_cases e:j=i
   ·rw[e];exact h
   ·exact af j (by omega)
  have eS:∀p:Prop,(p→eK)→(h3 j3 kr l i→p)→R=false:=fun p J U=>cB fun h=>J (U h);have oY:h3 j3 kr l i→j3 b:=fun h=>(h b ad).1;have bD:h3 j3 kr l i→0<i→hG e7 c b=true:=fun h bA=>by simpa[hG,kr]using(h b ad).2 c bA au
  have eU:j3 b→(0<i→hG e7 c b=true)→h3 j3 kr l i:=fun J U b1 fP=>by rw[ad]at fP;cases fP;exact⟨J,fun cr bA hq=>by rw[au]at hq;cases hq;simpa[hG,kr]using U bA⟩
  unfold j3 at oY eU;by_cases g4:0<i
  ·cases g5:hG e7 c b
   ·rw[eS _ (fun h=>by rw[h]at g5;cases g5) (fun h=>bD h g4)];simp[hi,cy,au];(with_reducible repeat' first|refine aj ?_|refine aD (lF _ _) ?_|refine aE (lF _ _) ?_|simp[cy,au,hi,g4,g5]);all_goals simp[bz,Ac,aW,aX,aV]
   ·by_cases g1:0≤b.v∧b.v≤100000;rotate_left
    ·rw[eS _ (fun h=>g1 h) (fun h=>(oY h).1)];have kS:decide (0≤b.v∧b.v≤100000)=false:=by simp only[gz];exact g1
     simp[hi,cy,au];(with_reducible repeat' first|refine aj ?_|refine aD (lF _ _) ?_|refine aE (lF _ _) ?_|refine aD (dr _ _ _) ?_|refine aE (dr _ _ _) ?_|simp[cy,au,hi,g4,g5,kS,g1]);all_goals simp[bz,Ac,aW,aX,aV]
    have kS:decide (0≤b.v∧b.v≤100000)=true:=by simp only[fk];exact g1
    cases g3:jA b.s
    ·rw[eS _ (fun h=>by rw[h]at g3;cases g3) (fun h=>(oY h).2)];have cd:=gQ b.s;rw[g3]at cd;simp[hi,cy,au];(with_reducible repeat' first|refine aj ?_|refine aD (lF _ _) ?_|refine aE (lF _ _) ?_|refine aD (dr _ _ _) ?_|refine aE (dr _ _ _) ?_|refine aD cd ?_|refine aE cd ?_|simp[cy,au,hi,g4,g5,kS,g1]);all_goals simp[bz,Ac,aW,aX,aV]
    have cd:=gQ b.s;rw[g3]at cd;have dC:=da (eU ⟨g1,g3⟩ fun _=>g5);simp[hi,cy,au];(with_reducible repeat' first|refine aj ?_|refine aD (lF _ _) ?_|refine aE (lF _ _) ?_|refine aD (dr _ _ _) ?_|refine aE (dr _ _ _) ?_|refine aD cd ?_|refine aE cd ?_|simp[cy,au,hi,g4,g5,kS,g1]);all_goals exact bO.rng () hi dC bW
  ·obtain rfl:i=0:=by omega
   by_cases g1:0≤b.v∧b.v≤100000;rotate_left
   ·rw[eS _ (fun h=>g1 h) (fun h=>(oY h).1)];have kS:decide (0≤b.v∧b.v≤100000)=false:=by simp only[gz];exact g1
    simp[hi,cy,au];(with_reducible repeat' first|refine aj ?_|refine aD (lF _ _) ?_|refine aE (lF _ _) ?_|refine aD (dr _ _ _) ?_|refine aE (dr _ _ _) ?_|simp[cy,au,hi,g4,kS,g1]);all_goals simp[bz,Ac,aW,aX,aV]
   have kS:decide (0≤b.v∧b.v≤100000)=true:=by simp only[fk];exact g1
   cases g3:jA b.s
   ·rw[eS _ (fun h=>by rw[h]at g3;cases g3) (fun h=>(oY h).2)];have cd:=gQ b.s;rw[g3]at cd;simp[hi,cy,au];(with_reducible repeat' first|refine aj ?_|refine aD (lF _ _) ?_|refine aE (lF _ _) ?_|refine aD (dr _ _ _) ?_|refine aE (dr _ _ _) ?_|refine aD cd ?_|refine aE cd ?_|simp[cy,au,hi,g4,kS,g1]);all_goals simp[bz,Ac,aW,aX,aV]
   have cd:=gQ b.s;rw[g3]at cd;have dC:=da (eU ⟨g1,g3⟩ fun h=>absurd h g4);simp[hi,cy,au];(with_reducible repeat' first|refine aj ?_|refine aD (lF _ _) ?_|refine aE (lF _ _) ?_|refine aD (dr _ _ _) ?_|refine aE (dr _ _ _) ?_|refine aD cd ?_|refine aE cd ?_|simp[cy,au,hi,g4,kS,g1]);all_goals exact bO.rng () hi dC bW
def oW(s:List dz)(bc:List Int)(l:List bj):List bj:=bc.foldl (fun a v=>j2 e7 ⟨v,s⟩ a) l
theorem Iz(s:List dz):∀(bc:List Int) {l:List bj},hH e7 l→hH e7 (oW s bc l)
 |[],_,h=>h
 |v::bc,_,h=>Iz s bc (JL lA h)
theorem Tw(s:List dz){x:bj}:∀(bc:List Int) {l:List bj},x∈oW s bc l↔x∈l∨(x.s=s∧x.v∈bc)
 |[],l=>by simp[oW]
 |v::bc,l=>by
  have:=Tw s (x:=x) bc (l:=j2 e7 ⟨v,s⟩ l);rw[show oW s (v::bc) l=oW s bc (j2 e7 ⟨v,s⟩ l)from rfl,this,FB lA,fY];constructor
  ·rintro((rfl|h)|⟨J,U⟩)
   ·exact .inr ⟨rfl,.inl rfl⟩
   ·exact .inl h
   ·exact .inr ⟨J,.inr U⟩
  ·rintro(h|⟨J,U|U⟩)
   ·exact .inl (.inr h)
   ·refine .inl (.inl ?_);cases x;simp_all
   ·exact .inr ⟨J,U⟩
theorem QB(s:List dz):∀(bc:List Int) (l:List bj),(oW s bc l).length≤l.length+bc.length
 |[],l=>by simp[oW]
 |v::bc,l=>by have J:=QB s bc (j2 e7 ⟨v,s⟩ l);have U:=JN (c:=e7) (⟨v,s⟩:bj) l;rw[show oW s (v::bc) l=oW s bc (j2 e7 ⟨v,s⟩ l)from rfl];simp only[p6];omega
theorem abU{t:T}{s:List dz}(cu:t.has s=false){l:List bj}(bt:hH e7 l):lI l t s=some (oW s (hY t []) l):=Hg cu (Iz s _ bt) fun x=>by rw[Tw,Cq];simp
end Go.Proofs.YtahlgcidhnjlbaaGreat
namespace Go.Proofs.YtahlgcidhnjlbaaGreat
open Go Go.Pv
def B9(l:List bj)(bc:List Int)(s:List dz)(i:Nat)(a:List bj):Prop:=a=oW s (bc.take i) l
def zw(a:List bj)(m:bj)(k:Nat):Prop:=k≤a.length∧∀j y,j<k→a[j]? =some y→e7 y m<0
theorem zw.step{a:List bj}{m:bj}{k:Nat}{b:bj}(h:zw a m k)(ad:a[k]? =some b)(aA:e7 b m<0):zw a m (k+1):=⟨(fi.1 ad).1,fun j y J U=>by
 rcases(by omega:j<k∨j=k)with ao|rfl
 ·exact h.2 j y ao U
 ·rw[ad]at U;cases U;exact aA⟩
theorem zw.fin{a:List bj}{m:bj}{k:Nat}(h:zw a m k)(au:∀y,a[k]? =some y→0≤e7 y m):j2 e7 m a=if(match a[k]? with|some y=>decide (e7 y m=0)|none=>false)=true then a else a.take k++m::a.drop k:=(JM lA m a k (fun j y J U=>h.2 j y J U) au h.1).trans (by cases a[k]?<;>rfl)
theorem TH(a:List bj)(k:Nat)(m:bj):lG k (a.map bj.e)++m.e::nj k (a.map bj.e)=(a.take k++m::a.drop k).map bj.e:=by simp
theorem zM(a:List bj)(k:Nat)(m:bj):cZ (lG k (a.map bj.e)++m.e::nj k (a.map bj.e))=lG k (a.map bj.e)++m.e::nj k (a.map bj.e):=by rw[TH,LZ]
theorem zL(S:aH→Prop)(a:List bj)(k:Nat)(m:bj):aI S (lG k (a.map bj.e)++m.e::nj k (a.map bj.e))=True:=by rw[TH,S0]
theorem TG(a:List bj)(m:bj):a.map bj.e++[m.e]=(a++[m]).map bj.e:=by simp
theorem zK(a:List bj)(m:bj):cZ (a.map bj.e++[m.e])=a.map bj.e++[m.e]:=by rw[TG,LZ]
theorem zJ(S:aH→Prop)(a:List bj)(m:bj):aI S (a.map bj.e++[m.e])=True:=by rw[TG,S0]
theorem alB(l:List bj)(av:l.length≤68719470000)(t:T)(aO:t.size≤5000)(s:List dz)(bt:hH e7 l):bF al 181 [.slice 2 .no (l.map bj.e),t.e,.str s] (ja (lI l t s)):=by
 have ko:=GS s t;cases cu:t.has s;rotate_left
 ·have bA:lI l t s=none:=by simp[lI,cu]
  rw[bA];rw[cu]at ko;refine bm lY Qs T8 fun aQ=>?_;unfold HR;simp;(with_reducible repeat' first|refine aj ?_|refine aD ko ?_|refine aE ko ?_|simp);all_goals simp[bz,Lp,aW,aX,aV]
  all_goals simp[ja]
 ·rw[cu]at ko;have dR:=abU cu bt;have iT:=AH t [];have fq:=Dj t [] (by simp;omega) (by simp[r9]);have yZ:ek []=[]:=rfl;rw[yZ]at fq;rw[dR];clear dR cu;generalize hY t []=bc at fq iT⊢;have kG:bc.length≤5000:=by simp at iT;omega
  generalize gE:oW s bc l=F;refine bm lY Qs T8 fun aQ=>?_;unfold HR;simp;(with_reducible repeat' first|refine aj ?_|refine aD ko ?_|refine aE ko ?_|refine aD fq ?_|refine aE fq ?_|simp[eP]);refine dI [2,17,18] (fun i (a:List bj)=>[(0,.slice 2 .no (a.map bj.e)),(19,.int .i64 i)]) bc.length (B9 l bc s) l ⟨by simp[fresh,aI,aB,cn,inObs,Pv.look,eP],er (by simp[fresh,aI,aB,cn,inObs,Pv.look,eP]),et (by simp[fresh,aI,aB,dW,inObs,Pv.look,eP]),by simp⟩ (by simp[B9,oW]) (fun a af _=>?_) (fun i a hi af _=>?_)
  ·rw[B9,pk,gE]at af;subst af;simp[eP];(with_reducible repeat' first|refine aj ?_|simp[eP]);all_goals simp[bz,Lp,aW,aX,aV]
   all_goals simp[ja]
  ·obtain⟨v,aG⟩:∃v,bc[i]? =some v:=⟨_,cf hi⟩;have qw:∀h,((ek bc)[i]'h)= .int .i64 v:=fun ca=>by have:=B5 bc i;rw[aG,cf ca]at this;exact fj this
   have q8:hH e7 a:=by rw[af];exact Iz s _ bt
   have q9:a.length≤68719475000:=by have:=QB s (bc.take i) l;rw[af];simp at this⊢;omega
   have fo:B9 l bc s (i+1) (j2 e7 ⟨v,s⟩ a):=by rw[B9,List.take_succ,aG,af];simp[oW]
   generalize hm:(⟨v,s⟩:bj)=m at fo;have adT:m.v=v:=by rw[←hm]
   have tY:m.s=s:=by rw[←hm]
   subst adT;subst tY;clear af gE;simp[hi,qw,eP];(with_reducible repeat' first|refine aj ?_|simp[hi,qw,eP]);refine u9 [0,2,10,17,18,19] (fun(k:Nat)=>[(11,.int .i64 k)]) (fun k=>a.length-k) (zw a m) 0 ⟨by simp[fresh,aI,aB,cn,inObs,Pv.look,eP],er (by simp[fresh,aI,aB,cn,inObs,Pv.look,eP]),et (by simp[fresh,aI,aB,dW,inObs,Pv.look,eP]),by simp⟩ ⟨by omega,fun j y h=>by omega⟩ (fun k af _=>?_);have ab:=af.1;by_cases hh:k<a.length
   ·obtain⟨b,ad,cy⟩:=dP hh;cases bD:hG e7 b m
    ·have tT:0≤e7 b m:=by simpa[hG]using bD
     have dC:=af.fin (fun y aL=>by rw[ad]at aL;cases aL;exact tT);rw[ad]at dC;cases EH:hG e7 m b
     ·have hle:0≤e7 m b:=by simpa[hG]using EH
      have bA:e7 b m=0:=by have:=lA.neg b m;omega
      rw[if_pos (by simp[bA])]at dC;rw[dC]at fo;clear af ad dC q9 q8;simp[hh,cy];((with_reducible repeat' first|refine aj ?_|refine aD (lF _ _) ?_|refine aE (lF _ _) ?_|simp[hh,cy,bD,EH]|((first|apply bL|apply bQ|apply bP)<;>intro h<;>try simp at h))<;>(try exact cq));all_goals exact bO.rng a hi fo ⟨by simp[fresh,aI,aB,cn,inObs,Pv.look,eP],er (by simp[fresh,aI,aB,cn,inObs,Pv.look,eP]),et (by simp[fresh,aI,aB,dW,inObs,Pv.look,eP]),by simp⟩
     ·have hle:e7 m b<0:=by simpa[hG]using EH
      have bA:¬e7 b m=0:=by have:=lA.neg b m;omega
      rw[if_neg (by simp[bA])]at dC;rw[dC]at fo;clear af ad dC q8;simp[hh,cy];((with_reducible repeat' first|refine aj ?_|refine aD (lF _ _) ?_|refine aE (lF _ _) ?_|simp[hh,cy,bD,EH]|((first|apply bL|apply bQ|apply bP)<;>intro h<;>try simp at h))<;>(try exact cq));all_goals first|(refine⟨by unfold lim;omega,?_⟩)|skip
      all_goals(with_reducible repeat' first|refine aj ?_|simp)
      all_goals first|(refine⟨by unfold lim;omega,?_⟩)|skip
      all_goals((with_reducible repeat' first|refine aj ?_|simp|((first|apply bL|apply bQ|apply bP)<;>intro h<;>try simp at h))<;>(try exact cq))
      all_goals exact bO.rng _ hi fo ⟨by simp[fresh,aI,aB,cn,inObs,Pv.look,eP,hz,zM,zL,zK,zJ],er (by simp[fresh,aI,aB,cn,inObs,Pv.look,eP,hz,zM,zL,zK,zJ]),et (by simp[fresh,aI,aB,dW,inObs,Pv.look,eP,hz,zM,zL,zK,zJ]),by simp⟩
    ·have vq:e7 b m<0:=by simpa[hG]using bD
     have ag:=af.step ad vq;clear af ad q8 fo;simp[hh,cy];((with_reducible repeat' first|refine aj ?_|refine aD (lF _ _) ?_|refine aE (lF _ _) ?_|simp[hh,cy,bD]|((first|apply bL|apply bQ|apply bP)<;>intro h<;>try simp at h))<;>(try exact cq));all_goals exact bO.whl (k+1) (by omega) ag ⟨by simp[fresh,aI,aB,cn,inObs,Pv.look,eP],er (by simp[fresh,aI,aB,cn,inObs,Pv.look,eP]),et (by simp[fresh,aI,aB,dW,inObs,Pv.look,eP]),by simp⟩
   ·have dC:=af.fin (fun y aL=>by rw[p5 (by omega)]at aL;cases aL);rw[p5 (by omega)]at dC;simp only[gS,if_false]at dC;rw[dC]at fo;have hE:k=a.length:=by omega
    clear af dC q8;subst hE;simp;(with_reducible repeat' first|refine aj ?_|simp);all_goals first|(refine⟨by unfold lim;omega,?_⟩)|skip
    all_goals(with_reducible repeat' first|refine aj ?_|simp)
    all_goals first|(refine⟨by unfold lim;omega,?_⟩)|skip
    all_goals(with_reducible repeat' first|refine aj ?_|simp)
    all_goals exact bO.rng _ hi fo ⟨by simp[fresh,aI,aB,cn,inObs,Pv.look,eP,hz,zM,zL,zK,zJ],er (by simp[fresh,aI,aB,cn,inObs,Pv.look,eP,hz,zM,zL,zK,zJ]),et (by simp[fresh,aI,aB,dW,inObs,Pv.look,eP,hz,zM,zL,zK,zJ]),by simp⟩
theorem Mp{s:List ar}(ag:eD s){l:List bj}(av:ik l){G:List (List dz)}(mM:G.length≤687000)(a1:nJ G l):bF al 150 [.slice 5 .no (s.map ar.e),.slice 2 .no (l.map bj.e)] (ja (fX s l [])):=by
 have hlen:∀{a:List bj},ik a→nJ G a→a.length≤68719470000:=fun J U=>by have:=Cn J U;omega
 have xl:=hlen av a1;refine bm lY abJ aie fun aQ=>?_;unfold Pu;simp;refine dI [0,11,12] (fun i (a:List bj)=>[(6,.slice 2 .no (a.map bj.e)),(13,.int .i64 i)]) l.length (Sr s G l) [] bW ⟨⟨by simp,by simp[hH]⟩,fun x ae=>by simp at ae,rfl⟩ (fun a af _=>?_) (fun i a hi af _=>?_)
 ·obtain⟨_,_,af⟩:=af;rw[List.drop_length]at af;simp only[fX]at af;rw[←af];simp;(with_reducible repeat' first|refine aj ?_|simp);simp[bz,Lq,aW,aX,aV];simp[ja]
 ·obtain⟨bt,BZ,af⟩:=af;obtain⟨b,ad,cy⟩:=dP hi;have n4:=av.at' b (dL ad);have I0:=a1 b (dL ad);rw[k6 hi,cy]at af;simp only[fX]at af;have kY:=GR s ag.len (.var b.v);rw[WO]at kY;have gd:=alB a (hlen bt BZ) (bR s b.v) (C5 ag b.v) b.s bt.asc;simp[hi,cy];cases dR:lI a (bR s b.v) b.s with
  |none=>rw[dR]at af gd;simp only at af;rw[←af];simp only[ja]at gd;(with_reducible repeat' first|refine aj ?_|refine aD (jU _) ?_|refine aE (jU _) ?_|refine aD kY ?_|refine aE kY ?_|refine aD gd ?_|refine aE gd ?_|simp[cy,hi]);simp[bz,Lq,aW,aX,aV];simp[ja]
  |some bn=>rw[dR]at af gd;simp only[ja]at gd;(with_reducible repeat' first|refine aj ?_|refine aD (jU _) ?_|refine aE (jU _) ?_|refine aD kY ?_|refine aE kY ?_|refine aD gd ?_|refine aE gd ?_|simp[cy,hi]);exact bO.rng bn hi ⟨Hh bt (Ao ag n4.1) n4.2 dR,Hi BZ I0 dR,af⟩ bW
theorem akw{s:List ar}(ax:j4 s)(bt:hB s)(aJ:gi s):gC (s.map ar.b)=s.all (l3 s):=by
 rw[p3,gh,qH,←VL bt];constructor
 ·rintro⟨ai,J,U,ao,ba⟩;rw[ps J];exact ao
 ·intro ao;exact⟨s,rfl,ax,ao,aJ⟩
theorem XJ{s:List ar}(bt:hB s)(b:ar):l3 s b=true↔(∀v∈hY b.t [],df s v=none)∧(b.t.kind==1&&decide (b.v≤b.t.int))=false:=by unfold l3;rw[cC,QC bt];simp only[true_and,Bool.not_eq_true',Cq,List.not_mem_nil,or_false]
def B8(s:List ar)(bc:List Int)(i:Nat)(_:Unit):Prop:= ∀v∈bc.take i,df s v=none
theorem B8.step{s:List ar}{bc:List Int}{i:Nat}(h:B8 s bc i ()){v:Int}(aG:bc[i]? =some v)(aA:df s v=none):B8 s bc (i+1) ():=fun w hw=>by
 rw[List.take_succ,aG]at hw;simp only[ky,Option.toList_some,List.mem_singleton]at hw;rcases hw with hw|rfl
 ·exact h w hw
 ·exact aA
theorem Mr(l:List cI):bF al 76 [.slice 5 .no (l.map cI.e)] (.bool (gC l)):=by
 have aG:=Wy l;by_cases h:tu l;rotate_left
 ·have bA:gC l=false:=by unfold gC;simp only[gz];rintro⟨s,J,U,ao,ba⟩;exact h (tg.2 ⟨s,J,U,ao.asc,ba⟩)
  rw[bA];refine bm eB Qr T7 fun aQ=>?_;unfold HQ;exact b5
 ·obtain⟨s,rfl,ax,bt,aJ⟩:=tg.1 h;have av:s.length≤1000000:=by have:=aJ.1;omega
  rw[akw ax bt aJ];rw[rD]at aG⊢;simp only[h,decide_true]at aG;clear h;generalize bf:s.all (l3 s)=R;refine bm eB Qr T7 fun aQ=>?_;unfold HQ;simp;(with_reducible repeat' first|refine aj ?_|refine aD aG ?_|refine aE aG ?_|simp);refine dI [0,12,13] (fun i (_:Unit)=>[(14,.int .i64 i)]) s.length (kn (l3 s) s) () bW (fun k b ab=>by omega) (fun _ af _=>?_) (fun i _ hi af _=>?_)
  ·have:R=true:=by rw[←bf,gh];intro b ad;obtain⟨k,ab,e⟩:=nk ad;exact af k b ab (by rw[cf ab,e])
   rw[this];exact b5
  ·obtain⟨b,ad,cy⟩:=dP hi;have eS:¬l3 s b=true→R=false:=fun h=>by rw[←bf,Bool.eq_false_iff];intro ca;rw[gh]at ca;exact h (ca b (dL ad))
   have rh:l3 s b=true→kn (l3 s) s (i+1) ():=fun h=>af.step ad h;have tV:=XJ bt b;have dX:=aJ.2 b (dL ad);have iT:=AH b.t [];have fq:=Dj b.t [] (by simp;omega) (by simp[r9]);have yZ:ek []=[]:=rfl;rw[yZ]at fq;generalize hY b.t []=bc at fq iT tV;have kG:bc.length≤5000:=by simp at iT;omega
   rw[tV]at eS rh;clear tV af iT ad;simp[hi,cy];cases ab:(b.t.kind==1&&decide (b.v≤b.t.int));rotate_left
   ·rw[eS (by rw[ab];simp)];rw[cC]at ab;have gp:=ab.1;have kU:b.v≤b.t.int:=of_decide_eq_true ab.2;exact b5
   ·rw[ab]at eS rh;simp only[and_true]at eS rh;cases gp:(b.t.kind==1)
    ·clear ab;(with_reducible repeat' first|refine aj ?_|refine aD fq ?_|refine aE fq ?_|simp[cy,hi,eP,gp]);refine dI [0,12,13,14,32,33] (fun j (_:Unit)=>[(34,.int .i64 j)]) bc.length (B8 s bc) () ⟨by simp[fresh,aI,aB,cn,inObs,Pv.look,eP],er (by simp[fresh,aI,aB,cn,inObs,Pv.look,eP]),et (by simp[fresh,aI,aB,dW,inObs,Pv.look,eP]),by simp⟩ (fun v aG=>by simp at aG) (fun _ af _=>?_) (fun j _ ea af _=>?_)
     ·have a1:=rh (fun v aG=>af v (by rwa[pk]));simp[eP];(with_reducible repeat' first|refine aj ?_|simp[eP]);exact bO.rng () hi a1 ⟨by simp[fresh,aI,aB,cn,inObs,Pv.look,eP],er (by simp[fresh,aI,aB,cn,inObs,Pv.look,eP]),et (by simp[fresh,aI,aB,dW,inObs,Pv.look,eP]),by simp⟩
     ·obtain⟨v,aG⟩:∃v,bc[j]? =some v:=⟨_,cf ea⟩;have qw:∀h,((ek bc)[j]'h)= .int .i64 v:=fun ca=>by have:=B5 bc j;rw[aG,cf ca]at this;exact fj this
      have jB:=qN s v av;cases gW:df s v with
      |none=>have aA:=af.step aG gW;rw[gW]at jB;simp only[nm,l0]at jB;clear af rh eS gW;simp[ea,qw,eP];(with_reducible repeat' first|refine aj ?_|refine aD jB ?_|refine aE jB ?_|simp[ea,qw,eP]);exact bO.rng () ea aA ⟨by simp[fresh,aI,aB,cn,inObs,Pv.look,eP],er (by simp[fresh,aI,aB,cn,inObs,Pv.look,eP]),et (by simp[fresh,aI,aB,dW,inObs,Pv.look,eP]),by simp⟩
      |some x=>rw[eS (fun h=>by have:=h v (dL aG);rw[gW]at this;cases this)];rw[gW]at jB;simp only[j9,po]at jB;clear af rh eS gW;simp[ea,qw,eP];(with_reducible repeat' first|refine aj ?_|refine aD jB ?_|refine aE jB ?_|simp[ea,qw,eP]);simp[bz,Lh,aW,aX,aV]
    ·have kU:¬b.v≤b.t.int:=by rw[gp]at ab;simpa using ab
     clear ab;(with_reducible repeat' first|refine aj ?_|refine aD fq ?_|refine aE fq ?_|simp[cy,hi,eP,gp,kU]);refine dI [0,12,13,14,32,33] (fun j (_:Unit)=>[(34,.int .i64 j)]) bc.length (B8 s bc) () ⟨by simp[fresh,aI,aB,cn,inObs,Pv.look,eP],er (by simp[fresh,aI,aB,cn,inObs,Pv.look,eP]),et (by simp[fresh,aI,aB,dW,inObs,Pv.look,eP]),by simp⟩ (fun v aG=>by simp at aG) (fun _ af _=>?_) (fun j _ ea af _=>?_)
     ·have a1:=rh (fun v aG=>af v (by rwa[pk]));simp[eP];(with_reducible repeat' first|refine aj ?_|simp[eP]);exact bO.rng () hi a1 ⟨by simp[fresh,aI,aB,cn,inObs,Pv.look,eP],er (by simp[fresh,aI,aB,cn,inObs,Pv.look,eP]),et (by simp[fresh,aI,aB,dW,inObs,Pv.look,eP]),by simp⟩
     ·obtain⟨v,aG⟩:∃v,bc[j]? =some v:=⟨_,cf ea⟩;have qw:∀h,((ek bc)[j]'h)= .int .i64 v:=fun ca=>by have:=B5 bc j;rw[aG,cf ca]at this;exact fj this
      have jB:=qN s v av;cases gW:df s v with
      |none=>have aA:=af.step aG gW;rw[gW]at jB;simp only[nm,l0]at jB;clear af rh eS gW;simp[ea,qw,eP];(with_reducible repeat' first|refine aj ?_|refine aD jB ?_|refine aE jB ?_|simp[ea,qw,eP]);exact bO.rng () ea aA ⟨by simp[fresh,aI,aB,cn,inObs,Pv.look,eP],er (by simp[fresh,aI,aB,cn,inObs,Pv.look,eP]),et (by simp[fresh,aI,aB,dW,inObs,Pv.look,eP]),by simp⟩
      |some x=>rw[eS (fun h=>by have:=h v (dL aG);rw[gW]at this;cases this)];rw[gW]at jB;simp only[j9,po]at jB;clear af rh eS gW;simp[ea,qw,eP];(with_reducible repeat' first|refine aj ?_|refine aD jB ?_|refine aE jB ?_|simp[ea,qw,eP]);simp[bz,Lh,aW,aX,aV]
theorem Ms{s:List ar}(h:eD s):bF al 76 [.slice 5 .no (s.map ar.e)] (.bool true):=by have:=Mr (s.map ar.b);rw[rD,qH.2 ⟨s,rfl,h.ok,h.sol,h.fits⟩]at this;exact this
def Pq:C:=(aa [be 2 false] (.seq (aa [I 5 0,cb 6 5,bS 7 0] (fe 8 7 6 (.seq (.block 1 (aa [cj 9 1 5 7,aw 10 1 9,I 4 10] (aa [I 11 4,cM 12 76 11,cx 13 12] (aS 13 (aa [be 2 false] .ret) .skip)))) (.region [aT 14 .add 7 1,I 7 14])))) (aa [be 2 true] .ret)))
@[simp] def ajy:List bu:=[.tmp 2]
def Pw:C:=(aa [be 4 false] (.seq (aa [I 7 0,cb 8 7,bS 9 0] (fe 10 9 8 (.seq (.block 1 (aa [cj 11 5 7 9,a7 12 5 11,dh 6 ij,bM 5 6 12] (aa [aF 13 0 1 6,aw 14 1 13,I 15 1,bh 16 .geq 14 15,I 17 16,aq 17 false (gq 18 1 4 6),aq 17 false (a7 19 4 18),bZ 17 false 20 1,aq 17 false (b4 21 148 19 20),aq 17 false (cx 22 21),c2 23 17 22] (aS 23 (aa [be 4 false] .ret) .skip)))) (.region [aT 24 .add 9 1,I 9 24])))) (aa [be 4 true] .ret)))
@[simp] def ajB:List bu:=[.tmp 4]
def yI:C:=(aa [cN 2 0,be 4 false] (.seq (aa [aF 7 3 1 2,aw 8 1 7,cb 9 8,bS 10 0] (fe 11 10 9 (.seq (.block 1 (aa [cj 12 4 8 10,a7 13 4 12,dh 6 dt,bM 4 6 13] (aa [a7 14 4 6,I 15 1,b4 16 148 14 15,cx 17 16] (aS 17 (aa [be 4 false] .ret) .skip)))) (.region [aT 18 .add 10 1,I 10 18])))) (aa [aF 19 0 1 2,aw 20 1 19,aT 21 .neq 20 1,I 22 21,aq 22 false (aF 23 1 1 2),aq 22 false (aw 24 1 23),bZ 22 false 25 1,aq 22 false (bh 26 .lss 24 25),c2 27 22 26,I 4 27] .ret)))
@[simp] def wa:List bu:=[.tmp 4]
def Pp:C:=(aa [eQ 4 5] (aa [fD 10 5 113 [],I 5 10] (.seq (aa [I 11 1,cb 12 11,bS 13 0] (fe 14 13 12 (.seq (.block 1 (aa [cj 15 5 11 13,a7 16 5 15,dh 7 ij,bM 5 7 16] (aa [I 18 0,aF 19 0 1 7,aw 20 1 19,b4 21 146 18 20,I 17 21,cH 22 0 17,cH 23 1 17,dh 8 dt,bM 4 8 22,I 9 23] (aa [I 24 9,cx 25 24] (aS 25 (.region [I 26 5,a7 27 5 7,fD 28 5 113 [.t 27],iN 29 5 113 26 28,I 5 29]) .skip))))) (.region [aT 30 .add 13 1,I 13 30])))) (aa [I 31 5,I 4 31] .ret))))
@[simp] def ajx:List bu:=[.tmp 4]
def Ps:C:=(aa [eQ 2 1] (aa [fD 11 1 46 [],I 3 11] (.seq (.seq (.fg false 3 (.region [I 12 0,cb 13 12,bS 14 0])) (fe 15 14 13 (.seq (.block 1 (aa [cj 16 1 12 14,aw 17 1 16,I 5 17] (aa [be 6 true] (.seq (aa [I 18 0,cb 19 18,bS 20 0] (.block 2 (.loop (aa [bh 21 .lss 20 19] (.seq (aS 21 .skip (.exit 2)) (.seq (.block 3 (aa [cj 22 1 18 20,aw 23 1 22,I 8 23] (.region [I 24 6,I 25 24,bZ 25 true 26 8,bZ 25 true 27 5,aq 25 true (b4 28 155 26 27),aq 25 true (aT 29 .eql 28 0),bZ 25 true 30 29,bZ 30 false 31 8,bZ 30 false 32 5,aq 30 false (b4 33 203 31 32),aq 30 false (cx 34 33),aq 25 true (c2 35 30 34),dy 36 25 35,I 6 36]))) (.region [aT 37 .add 20 1,I 20 37]))))))) (aa [I 38 3,cb 39 38,I 9 39] (.seq (.block 4 (.loop (.seq (aa [I 40 9,aT 41 .gtr 40 0,I 42 41,bZ 42 true 43 3,bZ 42 true 44 9,aq 42 true (aT 45 .sub 44 1),aq 42 true (cj 46 1 43 45),aq 42 true (aw 47 1 46),bZ 42 true 48 5,aq 42 true (b4 49 155 47 48),aq 42 true (aT 50 .geq 49 0),dy 51 42 50] (aS 51 .skip (.exit 4))) (.block 5 (.region [I 52 9,aT 53 .sub 52 1,I 9 53]))))) (aa [I 54 6,I 55 54,bZ 55 true 56 9,bZ 55 true 57 3,aq 55 true (cb 58 57),aq 55 true (bh 59 .eql 56 58),bZ 55 true 60 59,bZ 60 false 61 3,bZ 60 false 62 9,aq 60 false (cj 63 1 61 62),aq 60 false (aw 64 1 63),bZ 60 false 65 5,aq 60 false (b4 66 155 64 65),aq 60 false (aT 67 .neq 66 0),aq 55 true (c2 68 60 67),dy 69 55 68] (aS 69 (aa [fD 70 1 46 [],I 71 3,I 72 9,b7 73 (.lsl 1 (.t 71) none (some (.t 72))),iN 74 1 46 70 73,I 10 74] (aa [I 75 10,I 76 5,fD 77 1 46 [.t 76],iN 78 1 46 75 77,I 10 78] (.region [I 79 10,I 80 3,I 81 9,b7 82 (.lsl 1 (.t 80) (some (.t 81)) none),iN 83 1 46 79 82,I 3 83]))) .skip)))))))) (.fg false 3 (.region [aT 84 .add 14 1,I 14 84]))))) (aa [I 85 3,I 2 85] .ret))))
@[simp] def ajz:List bu:=[.tmp 2]
def Pr:C:=(aa [bS 4 0] (.seq (aa [bS 5 0] (.block 0 (.loop (.seq (aa [I 7 5,I 8 0,cb 9 8,bh 10 .lss 7 9,I 11 10,bZ 11 true 12 5,bZ 11 true 13 1,aq 11 true (cb 14 13),aq 11 true (bh 15 .lss 12 14),dy 16 11 15] (aS 16 .skip (.exit 0))) (.seq (.block 1 (.seq (.seq (.drawn true 67 [I 19 0,I 20 5,cj 21 5 19 20,aF 22 0 1 21,aw 23 1 22,I 24 1,I 25 5,cj 26 5 24 25,aF 27 0 1 26,aw 28 1 27,bh 29 .neq 23 28]) (aS 29 (.seq (.drawn true 67 [I 30 0,I 31 5,cj 32 5 30 31,aF 33 0 1 32,aw 34 1 33,I 35 1,I 36 5,cj 37 5 35 36,aF 38 0 1 37,aw 39 1 38,bh 40 .lss 34 39,cM 41 188 40,I 4 41]) .ret) .skip)) (.seq (.drawn true 67 [I 42 0,I 43 5,cj 44 5 42 43,gq 45 1 4 44,a7 46 4 45,I 47 1,I 48 5,cj 49 5 47 48,gq 50 1 4 49,a7 51 4 50,b4 52 125 46 51,I 6 52]) (aa [I 53 6,aT 54 .neq 53 0] (aS 54 (aa [I 55 6,I 4 55] .ret) .skip))))) (.region [I 17 5,aT 18 .add 17 1,I 5 18])))))) (.seq (aa [I 56 0,cb 57 56,I 58 1,cb 59 58,bh 60 .neq 57 59] (aS 60 (aa [I 61 0,cb 62 61,I 63 1,cb 64 63,bh 65 .lss 62 64,cM 66 188 65,I 4 66] .ret) .skip)) (aa [bS 4 0] .ret))))
@[simp] def CS:List bu:=[.tmp 4]
def O6:C:=(aa [be 4 false] (.seq (aa [I 11 0,cM 12 76 11,cx 13 12,I 14 13,bZ 14 false 15 1,aq 14 false (cM 16 76 15),aq 14 false (cx 17 16),c2 18 14 17] (aS 18 (aa [be 4 false] .ret) .skip)) (.seq (aa [I 19 0,cb 20 19,bS 21 0] (fe 22 21 20 (.seq (.block 1 (aa [cj 23 5 19 21,a7 24 5 23,dh 6 ij,bM 5 6 24] (aa [I 26 1,aF 27 0 1 6,aw 28 1 27,cM 29 114 28,b4 30 60 26 29,I 25 30,cH 31 0 25,cH 32 1 25,dh 7 dt,bM 4 7 31,I 8 32] (aa [I 34 1,gq 35 1 4 6,a7 36 4 35,b4 37 60 34 36,I 33 37,cH 38 0 33,cH 39 1 33,dh 9 dt,bM 4 9 38,I 10 39] (aa [I 40 8,cx 41 40,I 42 41,bZ 42 false 43 10,aq 42 false (cx 44 43),c2 45 42 44,I 46 45,aq 46 false (a7 47 4 7),aq 46 false (a7 48 4 9),aq 46 false (b4 49 129 47 48),aq 46 false (cx 50 49),c2 51 46 50] (aS 51 (aa [be 4 false] .ret) .skip)))))) (.region [aT 52 .add 21 1,I 21 52])))) (aa [be 4 true] .ret))))
@[simp] def Lg:List bu:=[.tmp 4]
def wo:List (Nat×dA):=[
 (3,⟨1,8,.int .i64,.int .i64 0⟩),
 (27,⟨1,24,.slice 30,.slice 4 .nil []⟩),
 (30,⟨4,56,.struct [(0,3),(1,3),(2,9),(3,27)],.agg [.int .i64 0,.int .i64 0,.str [],.slice 4 .nil []]⟩),
 (46,⟨1,24,.slice 113,.slice 5 .nil []⟩),
 (47,⟨1,24,.slice 46,.slice 1 .nil []⟩),
 (113,⟨5,64,.struct [(0,3),(1,30)],.agg [.int .i64 0,.int .i64 0,.int .i64 0,.str [],.slice 4 .nil []]⟩)]
theorem rW:fL al wo=true:=by kernel_rfl
theorem aia:b0 wo Pq ajy 1 Tryz.f77=true:=by kernel_rfl
theorem abF:al.funcs[(77:Nat)]? =some Tryz.f77:=Tryz.func77
theorem aif:b0 wo Pw ajB 2 Tryz.f80=true:=by kernel_rfl
theorem abK:al.funcs[(80:Nat)]? =some Tryz.f80:=Tryz.func80
theorem CG:b0 wo yI wa 2 Tryz.f148=true:=by kernel_rfl
theorem Bf:al.funcs[(148:Nat)]? =some Tryz.f148:=Tryz.func148
theorem ah9:b0 wo Pp ajx 2 Tryz.f153=true:=by kernel_rfl
theorem abE:al.funcs[(153:Nat)]? =some Tryz.f153:=Tryz.func153
theorem aic:b0 wo Ps ajz 1 Tryz.f154=true:=by kernel_rfl
theorem abH:al.funcs[(154:Nat)]? =some Tryz.f154:=Tryz.func154
theorem aib:b0 wo Pr CS 2 Tryz.f155=true:=by kernel_rfl
theorem abG:al.funcs[(155:Nat)]? =some Tryz.f155:=Tryz.func155
theorem ahR:b0 wo O6 Lg 2 Tryz.f203=true:=by kernel_rfl
theorem abl:al.funcs[(203:Nat)]? =some Tryz.f203:=Tryz.func203
@[simp] def apU:List bu:=[.tmp 4]
@[simp] def ap2:List bu:=[.tmp 2]
@[simp] def ap8:List bu:=[.tmp 4]
@[simp] def ap5:List bu:=[.tmp 4]
@[simp] def ap3:List bu:=[.tmp 2]
def A2:C:=(aa [cN 2 0,cN 3 1,bS 4 0] (.seq (aa [aF 7 0 1 2,aw 8 1 7,aF 9 0 1 3,aw 10 1 9,bh 11 .neq 8 10] (aS 11 (aa [aF 12 0 1 2,aw 13 1 12,aF 14 0 1 3,aw 15 1 14,bh 16 .lss 13 15,cM 17 188 16,I 4 17] .ret) .skip)) (.seq (aa [aF 18 1 1 2,aw 19 1 18,aF 20 1 1 3,aw 21 1 20,bh 22 .neq 19 21] (aS 22 (aa [aF 23 1 1 2,aw 24 1 23,aF 25 1 1 3,aw 26 1 25,bh 27 .lss 24 26,cM 28 188 27,I 4 28] .ret) .skip)) (.seq (aa [aF 29 2 1 2,aw 30 1 29,aF 31 2 1 3,aw 32 1 31,bh 33 .neq 30 32] (aS 33 (aa [aF 34 2 1 2,aw 35 1 34,aF 36 2 1 3,aw 37 1 36,bh 38 .lss 35 37,cM 39 188 38,I 4 39] .ret) .skip)) (.seq (aa [bS 5 0] (.block 0 (.loop (.seq (aa [I 40 5,aF 41 3 1 2,aw 42 1 41,cb 43 42,bh 44 .lss 40 43,I 45 44,bZ 45 true 46 5,aq 45 true (aF 47 3 1 3),aq 45 true (aw 48 1 47),aq 45 true (cb 49 48),aq 45 true (bh 50 .lss 46 49),dy 51 45 50] (aS 51 .skip (.exit 0))) (.seq (.block 1 (.seq (.drawn true 68 [aF 54 3 1 2,aw 55 1 54,I 56 5,cj 57 4 55 56,a7 58 4 57,aF 59 3 1 3,aw 60 1 59,I 61 5,cj 62 4 60 61,a7 63 4 62,b4 64 125 58 63,I 6 64]) (aa [I 65 6,aT 66 .neq 65 0] (aS 66 (aa [I 67 6,I 4 67] .ret) .skip)))) (.region [I 52 5,aT 53 .add 52 1,I 5 53])))))) (aa [bS 4 0] .ret))))))
@[simp] def Ad:List bu:=[.tmp 4]
def Pf:C:=(aa [cN 2 0,cN 3 1,be 4 false] (aa [a7 5 4 2,a7 6 4 3,b4 7 125 5 6,aT 8 .eql 7 0,I 4 8] .ret))
@[simp] def U5:List bu:=[.tmp 4]
@[simp] def apW:List bu:=[.tmp 2]
@[simp] def ap4:List bu:=[.tmp 5]
def N1:C:=(aa [cN 1 0,be 2 false] (aa [cU (.alloc 3 (some 501) (.bool false)),cU (.store 1 (.t 3) (.c (.bool true)))] (aa [a7 4 4 1,b7 5 (.mkf 211 [.t 3]),b4 6 134 4 5] (aa [aw 7 1 3,I 2 7] .ret))))
@[simp] def UK:List bu:=[.tmp 2]
def Pg:C:=(aa [bS 2 0] (.seq (aa [I 3 0] (aS 3 (aa [bS 2 (-1)] .ret) .skip)) (aa [bS 2 1] .ret)))
@[simp] def U6:List bu:=[.tmp 2]
def N2:C:=(.region [cU (.store 1 (.t 1) (.c (.bool false)))])
@[simp] def UL:List bu:=[]
def Ax:List (Nat×dA):=[
 (3,⟨1,8,.int .i64,.int .i64 0⟩),
 (4,⟨1,1,.bool,.bool false⟩),
 (9,⟨1,16,.str,.str []⟩),
 (27,⟨1,24,.slice 30,.slice 4 .nil []⟩),
 (30,⟨4,56,.struct [(0,3),(1,3),(2,9),(3,27)],.agg [.int .i64 0,.int .i64 0,.str [],.slice 4 .nil []]⟩),
 (46,⟨1,24,.slice 113,.slice 5 .nil []⟩),
 (47,⟨1,24,.slice 46,.slice 1 .nil []⟩),
 (76,⟨1,24,.slice 3,.slice 1 .nil []⟩),
 (113,⟨5,64,.struct [(0,3),(1,30)],.agg [.int .i64 0,.int .i64 0,.int .i64 0,.str [],.slice 4 .nil []]⟩)]
theorem wq:fL al Ax=true:=by kernel_rfl
theorem FM:b0 Ax A2 Ad 2 Tryz.f125=true:=by kernel_rfl
theorem Ej:al.funcs[(125:Nat)]? =some Tryz.f125:=Tryz.func125
theorem ah0:b0 Ax Pf U5 2 Tryz.f129=true:=by kernel_rfl
theorem abv:al.funcs[(129:Nat)]? =some Tryz.f129:=Tryz.func129
theorem agR:b0 Ax N1 UK 1 Tryz.f175=true:=by kernel_rfl
theorem aal:al.funcs[(175:Nat)]? =some Tryz.f175:=Tryz.func175
theorem ah1:b0 Ax Pg U6 1 Tryz.f188=true:=by kernel_rfl
theorem abw:al.funcs[(188:Nat)]? =some Tryz.f188:=Tryz.func188
theorem agS:b0 Ax N2 UL 2 Tryz.f211=true:=by kernel_rfl
theorem aam:al.funcs[(211:Nat)]? =some Tryz.f211:=Tryz.func211
theorem Xj{t u:T}(J:t.kind=u.kind)(U:t.int=u.int)(ao:t.name=u.name)(ba:t.args=u.args):t=u:=by cases t<;>cases u<;>simp_all
theorem qM(b:Bool):bF al 188 [.bool b] (.int .i64 (if b then-1 else 1)):=by
 refine bm wq abw ah1 fun aQ=>?_;unfold Pg;simp;((with_reducible repeat' first|refine aj ?_|simp|((first|apply bL|apply bQ|apply bP)<;>intro h<;>try simp at h))<;>(try exact cq));all_goals simp[bz,U6,aW,aX,aV]
 all_goals simp_all
theorem aik{a b:T}(bt:a.args=[]∨b.args=[])(J:a.kind=b.kind)(U:a.int=b.int):ep a b=kt a.name b.name:=by cases a<;>cases b<;>simp_all[ep]
def B7(a b:T)(i:Nat)(_:Unit):Prop:=a.args.take i=b.args.take i
set_option maxRecDepth 4000 in
theorem Wv(a:T)(bU:∀x∈a.args,∀b:T,bF al 125 [x.e,b.e] (.int .i64 (ep x b)))(b:T):bF al 125 [a.e,b.e] (.int .i64 (ep a b)):=by
 have hle:a.args.length≤2:=by cases a<;>simp
 by_cases ab:a.kind=b.kind
 ·by_cases hi:a.int=b.int
  ·by_cases aA:a.name=b.name
   ·have hlen:a.args.length=b.args.length:=by cases a<;>cases b<;>simp at ab⊢
    refine bm wq Ej FM fun aQ=>?_;unfold A2;simp[ab,hi,aA];refine dI [2,3] (fun i (_:Unit)=>[(5,.int .i64 i)]) a.args.length (B7 a b) () bW (by simp[B7]) (fun _ af _=>?_) (fun i _ bD af _=>?_)
    ·simp;(with_reducible repeat' first|refine aj ?_|simp);simp[bz,Ad,aW,aX,aV];unfold B7 at af;rw[hz (by omega),hz (by omega)]at af;exact((qB a b).2 (Xj ab hi aA af)).symm
    ·have qt:i<b.args.length:=by omega
     obtain⟨x,ae⟩:∃x,x=a.args[i]:=⟨_,rfl⟩;obtain⟨y,aL⟩:∃y,y=b.args[i]:=⟨_,rfl⟩;have nC:=bU x (by rw[ae];exact List.getElem_mem bD) y;simp[bD,qt,←ae,←aL];(with_reducible repeat' first|((first|apply bL|apply bQ|apply bP)<;>intro h<;>try simp at h)|refine aj ?_|refine aD nC ?_|refine aE nC ?_|simp)
     ·simp[bz,Ad,aW,aX,aV];unfold B7 at af;cases a with
      |pair bC a2=>
       cases b with
       |pair ch b6=>
        simp at bD af ae aL;rcases(by omega:i=0∨i=1)with rfl|rfl
        ·simp at ae aL;subst ae aL;simp[ep,h]
        ·simp at af ae aL;subst ae aL af;simp[ep,(qB bC bC).2 rfl]
       |_=>simp at ab
      |_=>simp at bD
     ·refine bO.rng () bD ?_ bW;unfold B7 at af⊢;rw[List.take_succ,List.take_succ,af,cf bD,cf qt,←ae,←aL,(qB x y).1 h]
   ·refine bm wq Ej FM fun aQ=>?_;unfold A2;simp[ab,hi,aA];((with_reducible repeat' first|refine aj ?_|refine aD (qM _) ?_|refine aE (qM _) ?_|simp|((first|apply bL|apply bQ|apply bP)<;>intro h<;>try simp at h))<;>(try exact cq));simp[bz,Ad,aW,aX,aV];have:a.args=[]∨b.args=[]:=by cases a<;>cases b<;>simp at ab aA⊢
    rw[aik this ab hi,kt,if_neg aA]
  ·refine bm wq Ej FM fun aQ=>?_;unfold A2;simp[ab,hi];((with_reducible repeat' first|refine aj ?_|refine aD (qM _) ?_|refine aE (qM _) ?_|simp|((first|apply bL|apply bQ|apply bP)<;>intro h<;>try simp at h))<;>(try exact cq));simp[bz,Ad,aW,aX,aV];cases a<;>cases b<;>simp at ab hi
   ·rw[Ue];simp[ev];split<;>(try split)<;>omega
   ·rw[Ud];simp[ev];split<;>(try split)<;>omega
 ·refine bm wq Ej FM fun aQ=>?_;unfold A2;simp[ab];((with_reducible repeat' first|refine aj ?_|refine aD (qM _) ?_|refine aE (qM _) ?_|simp|((first|apply bL|apply bQ|apply bP)<;>intro h<;>try simp at h))<;>(try exact cq));simp[bz,Ad,aW,aX,aV];rw[rJ ab];simp[ev];split<;>(try split)<;>omega
theorem GN(a:T):∀b:T,bF al 125 [a.e,b.e] (.int .i64 (ep a b)):=by
 induction a with
 |pair x y nC pJ=>
  refine Wv _ fun z bp=>?_;simp at bp;rcases bp with rfl|rfl
  ·exact nC
  ·exact pJ
 |_=>exact Wv _ fun x ae=>by simp at ae
theorem GQ(a b:T):bF al 129 [a.e,b.e] (.bool (decide (a=b))):=by refine bm wq abv ah0 fun aQ=>?_;unfold Pf;simp;(with_reducible repeat' first|refine aj ?_|refine aD (GN _ _) ?_|refine aE (GN _ _) ?_|simp);simp[bz,U5,aW,aX,aV];have:=qB a b;by_cases h:ep a b=0<;>simp_all
theorem alu{s t:List ar}(ag:eD s)(aO:eD t):bF al 153 [.slice 5 .no (s.map ar.e),.slice 5 .no (t.map ar.e)] (.slice 5 .no ((gy s t).map ar.e)):=by
 have aep:=aO.len;generalize bf:gy s t=R;refine bm rW abE ah9 fun aQ=>?_;unfold Pp;simp;refine iA (α:=List ar) (fun i out=>⟨[(0,.slice 5 .no (s.map ar.e)),(11,.slice 5 .no (t.map ar.e)),(12,.int .i64 t.length),(5,.slice 5 (.own (.loc 0)) (out.map ar.e)),(13,.int .i64 i)],[],[(.loc 0,⟨out.length,113,5,none⟩)],1,[]⟩) t.length (qx s t) [] bW (by simp[qx,gy]) (fun out af _=>?_) (fun i out hi af _=>?_)
 ·rw[qx,hz (eR _),bf]at af;rw[←af];exact b5
 ·obtain⟨b,aG,gx⟩:=dP hi;have BP:out.length≤1000000:=by
   have:out.length≤(t.take i).length:=by rw[af];exact List.length_filter_le _ _
   simp at this;omega
  have jB:=qN s b.v ag.len;cases ad:df s b.v with
  |none=>
   have aA:qx s t (i+1) (out++[b]):=by rw[qx,qI aG,gy,List.filter_append,af];simp[gy,ad]
   rw[ad]at jB;simp only[nm,l0]at jB;clear af aG ad;simp[hi,gx];(with_reducible repeat' first|refine aj ?_|refine aD jB ?_|refine aE jB ?_|simp[gx,hi]);all_goals first|(refine⟨by unfold lim;omega,?_⟩)|skip
   (with_reducible repeat' first|refine aj ?_|simp);refine bO.rng (out++[b]) hi aA ?_;simp;exact⟨by simp[fresh,aI,aB,cn,inObs,Pv.look,jL],er (by simp[fresh,aI,aB,cn,inObs,Pv.look,jL]),et (by simp[fresh,aI,aB,dW,inObs,Pv.look,jL]),by simp⟩
  |some x=>
   have aA:qx s t (i+1) out:=by rw[qx,qI aG,gy,List.filter_append,af];simp[gy,ad]
   rw[ad]at jB;simp only[j9,po]at jB;clear af aG ad;simp[hi,gx];(with_reducible repeat' first|refine aj ?_|refine aD jB ?_|refine aE jB ?_|simp[gx,hi]);refine bO.rng out hi aA ?_;exact bW
theorem ak0{s t:List ar}(ag:eD s)(aO:eD t):bF al 203 [.slice 5 .no (s.map ar.e),.slice 5 .no (t.map ar.e)] (.bool (mY s t)):=by
 have pI:=ag.len;generalize bf:mY s t=R;have de:=Ms ag;have dE:=Ms aO;refine bm rW abl ahR fun aQ=>?_;unfold O6;simp;(with_reducible repeat' first|refine aj ?_|refine aD de ?_|refine aE de ?_|refine aD dE ?_|refine aE dE ?_|simp);refine dI [1,19,20] (fun i (_:Unit)=>[(21,.int .i64 i)]) s.length (kn (rF t) s) () bW (fun k b ab=>by omega) (fun _ af _=>?_) (fun i _ hi af _=>?_)
 ·have:R=true:=by rw[←bf,mY,gh];intro b ad;obtain⟨k,ab,e⟩:=nk ad;exact af k b ab (by rw[cf ab,e])
  rw[this];exact b5
 ·obtain⟨b,aG,gx⟩:=dP hi;have eS:rF t b=false→R=false:=fun h=>by rw[←bf,Bool.eq_false_iff];intro ca;rw[mY,gh]at ca;rw[ca b (dL aG)]at h;cases h
  have aU:=Dk t aO.len (.var b.v);have bG:=Dk t aO.len b.t;have xy:=C5 aO b.v;have E3:((T.var b.v).ap (bR t)).size≤5000:=xy;rw[hA E3]at aU;rw[show(T.var b.v).ap (bR t)=bR t b.v from rfl]at aU;by_cases bp:(b.t.ap (bR t)).size≤5000
  ·rw[hA bp]at bG;by_cases he:bR t b.v=b.t.ap (bR t)
   ·have aA:=af.step aG (by simp[rF,he]);have fy:=GQ (bR t b.v) (b.t.ap (bR t));rw[hA he]at fy;clear af aG;simp[hi,gx];(with_reducible repeat' first|refine aj ?_|refine aD (jU _) ?_|refine aE (jU _) ?_|refine aD aU ?_|refine aE aU ?_|refine aD bG ?_|refine aE bG ?_|refine aD fy ?_|refine aE fy ?_|simp[gx,hi]);exact bO.rng () hi aA bW
   ·rw[eS (by simp[rF,he])];have fy:=GQ (bR t b.v) (b.t.ap (bR t));rw[iq he]at fy;clear af aG;simp[hi,gx];(with_reducible repeat' first|refine aj ?_|refine aD (jU _) ?_|refine aE (jU _) ?_|refine aD aU ?_|refine aE aU ?_|refine aD bG ?_|refine aE bG ?_|refine aD fy ?_|refine aE fy ?_|simp[gx,hi]);simp[bz,Lg,aW,aX,aV]
  ·rw[iq bp]at bG;rw[eS (by simp only[rF,gz];intro e;rw[←e]at bp;exact bp xy)];clear af aG;simp[hi,gx];(with_reducible repeat' first|refine aj ?_|refine aD (jU _) ?_|refine aE (jU _) ?_|refine aD aU ?_|refine aE aU ?_|refine aD bG ?_|refine aE bG ?_|simp[gx,hi]);simp[bz,Lg,aW,aX,aV]
theorem Mn(d e:List ar):bF al 155 [.slice 5 .no (d.map ar.e),.slice 5 .no (e.map ar.e)] (.int .i64 (eu d e)):=by
 generalize bf:eu d e=R;refine bm rW abG aib fun aQ=>?_;unfold Pr;have aP:d.length≤68719476736:=by simp[ez,dZ,eo,lim]at aQ;omega
 have he:e.length≤68719476736:=by simp[ez,dZ,eo,lim]at aQ;omega
 simp;refine u9 [0,1] (fun(i:Nat)=>[(5,.int .i64 i)]) (fun i=>d.length-i) (JQ d e) 0 bW ⟨by omega,by omega,by simp⟩ (fun i af _=>?_);obtain⟨J,U,ao⟩:=af;rw[bf]at ao;by_cases hi:i<d.length
 ·by_cases hv:i<e.length
  ·obtain⟨x,ae⟩:∃x,d[i]? =some x:=⟨_,cf hi⟩;obtain⟨y,aL⟩:∃y,e[i]? =some y:=⟨_,cf hv⟩;have cE:∀h,(d[i]'h)=x:=fun h=>by rw[cf hi]at ae;exact fj ae
   have eG:∀h,(e[i]'h)=y:=fun h=>by rw[cf hv]at aL;exact fj aL
   have y6:d.drop i=x::d.drop (i+1):=by rw[k6 hi,cE]
   have y7:e.drop i=y::e.drop (i+1):=by rw[k6 hv,eG]
   rw[y6,y7]at ao;rw[Ub]at ao;by_cases a6:x.v=y.v
   ·have ot:ev x.v y.v=0:=(j5.zero _ _).2 a6;have sW:(x.v !=y.v)=false:=by simp[a6]
    rw[if_pos ot]at ao;by_cases bE:ep x.t y.t=0
    ·rw[if_pos bE]at ao;have aA:JQ d e (i+1):=⟨by omega,by omega,by rw[bf];exact ao⟩;have ko:=GN x.t y.t;rw[bE]at ko;clear y6 y7 ae aL ao ot;simp[hi,hv,cE,eG];((with_reducible repeat' first|refine aj ?_|refine aD ko ?_|refine aE ko ?_|simp[cE,eG,hi,hv,a6,sW]|((first|apply bL|apply bQ|apply bP)<;>intro h<;>try simp at h))<;>(try exact cq));all_goals exact bO.whl (i+1) (by omega) aA bW
    ·rw[if_neg bE]at ao;have ko:=GN x.t y.t;have xX:(ep x.t y.t !=0)=true:=by simp[bE]
     clear y6 y7 ae aL ot;simp[hi,hv,cE,eG];(with_reducible repeat' first|refine aj ?_|refine aD ko ?_|refine aE ko ?_|simp[cE,eG,hi,hv,a6,sW,bE,xX]);all_goals simp[bz,CS,aW,aX,aV]
     all_goals exact ao
   ·have ot:¬ev x.v y.v=0:=fun h=>a6 ((j5.zero _ _).1 h);have sW:(x.v !=y.v)=true:=by simp[a6]
    rw[if_neg ot]at ao;have dB:R=if decide (x.v<y.v)=true then-1 else 1:=by rw[←ao];unfold ev;simp only[fk];(repeat' split)<;>omega
    clear y6 y7 ae aL ao ot;rw[dB];simp[hi,hv,cE,eG];(with_reducible repeat' first|refine aj ?_|refine aD (qM _) ?_|refine aE (qM _) ?_|simp[cE,eG,hi,hv,a6,sW]);all_goals simp[bz,CS,aW,aX,aV]
  ·have hle:e.length<d.length:=by omega
   have:(1:Int)=R:=by rw[←ao,eu,Ci _ _ _ (.inr (List.drop_eq_nil_of_le (by omega)))];simp only[r7];unfold ev;(repeat' split)<;>omega
   have cF:¬(d.length:Int)=e.length:=by omega
   have Jj:((d.length:Int) !=e.length)=true:=by simp;omega
   have jx:¬(d.length:Int)<e.length:=by omega
   have BL:¬d.length<e.length:=by omega
   have adX:¬d.length=e.length:=by omega
   clear ao;rw[←this];simp[hi,hv];(with_reducible repeat' first|refine aj ?_|refine aD (qM _) ?_|refine aE (qM _) ?_|simp[hi,hv,cF,Jj,jx,BL,adX]);all_goals simp[bz,CS,aW,aX,aV]
   all_goals(try simp[BL])
 ·have eO:i=d.length:=by omega
  by_cases av:d.length=e.length
  ·have:(0:Int)=R:=by rw[←ao,eu,Ci _ _ _ (.inl (List.drop_eq_nil_of_le (by omega)))];simp only[r7];unfold ev;(repeat' split)<;>omega
   clear ao;rw[←this];exact b5
  ·have:(-1:Int)=R:=by rw[←ao,eu,Ci _ _ _ (.inl (List.drop_eq_nil_of_le (by omega)))];simp only[r7];unfold ev;(repeat' split)<;>omega
   have cF:¬(d.length:Int)=e.length:=by omega
   have Jj:((d.length:Int) !=e.length)=true:=by simp;omega
   have jx:(d.length:Int)<e.length:=by omega
   have BL:d.length<e.length:=by omega
   clear ao;rw[←this];simp[hi];(with_reducible repeat' first|refine aj ?_|refine aD (qM _) ?_|refine aE (qM _) ?_|simp[hi,cF,Jj,jx,BL,av]);all_goals simp[bz,CS,aW,aX,aV]
   all_goals(try simp[BL])
def ae3(n:Int)(a b:T)(i:Nat)(_:Unit):Prop:=(1≤i→iy n a=true)∧(2≤i→iy n b=true)
theorem Mq(n:Int):∀t:T,bF al 148 [t.e,.int .i64 n] (.bool (iy n t))
 | .pair a b=>by
  have dS:=Mq n a;have dT:=Mq n b;refine bm rW Bf CG fun aQ=>?_;unfold yI;simp;refine dI [1,2,8,9] (fun i (_:Unit)=>[(10,.int .i64 i)]) 2 (ae3 n a b) () bW ⟨fun h=>by omega,fun h=>by omega⟩ (fun _ af _=>?_) (fun i _ hi af _=>?_)
  ·simp;(with_reducible repeat' first|refine aj ?_|simp);simp[bz,wa,aW,aX,aV];simp[iy,af.1,af.2]
  ·rcases(by omega:i=0∨i=1)with rfl|rfl
   ·cases bt:iy n a
    ·rw[bt]at dS;simp;(with_reducible repeat' first|refine aj ?_|refine aD dS ?_|refine aE dS ?_|simp);simp[bz,wa,aW,aX,aV];simp[iy,bt]
    ·rw[bt]at dS;simp;((with_reducible repeat' first|refine aj ?_|refine aD dS ?_|refine aE dS ?_|simp|((first|apply bL|apply bQ|apply bP)<;>intro h<;>try simp at h))<;>(try exact cq));exact bO.rng () hi ⟨fun _=>bt,fun h=>by omega⟩ bW
   ·cases ad:iy n b
    ·rw[ad]at dT;simp;((with_reducible repeat' first|refine aj ?_|refine aD dT ?_|refine aE dT ?_|simp|((first|apply bL|apply bQ|apply bP)<;>intro h<;>try simp at h))<;>(try exact cq));simp[bz,wa,aW,aX,aV];simp[iy,ad]
    ·rw[ad]at dT;simp;((with_reducible repeat' first|refine aj ?_|refine aD dT ?_|refine aE dT ?_|simp|((first|apply bL|apply bQ|apply bP)<;>intro h<;>try simp at h))<;>(try exact cq));exact bO.rng () hi ⟨fun _=>af.1 (by omega),fun _=>ad⟩ bW
 | .sym v=>by
  refine bm rW Bf CG fun aQ=>?_;unfold yI;simp;refine dI [1,2,8,9] (fun i (_:Unit)=>[(10,.int .i64 i)]) 0 (fun i _=>True) () bW trivial (fun _ af _=>?_) (fun i _ hi af _=>by omega);simp;((with_reducible repeat' first|refine aj ?_|simp|((first|apply bL|apply bQ|apply bP)<;>intro h<;>try simp at h))<;>(try exact cq));all_goals simp[bz,wa,aW,aX,aV]
  all_goals simp[iy]
 | .num v=>by
  refine bm rW Bf CG fun aQ=>?_;unfold yI;simp;refine dI [1,2,8,9] (fun i (_:Unit)=>[(10,.int .i64 i)]) 0 (fun i _=>True) () bW trivial (fun _ af _=>?_) (fun i _ hi af _=>by omega);simp;(with_reducible repeat' first|refine aj ?_|simp);all_goals simp[bz,wa,aW,aX,aV]
  all_goals simp[iy]
 | .var v=>by
  refine bm rW Bf CG fun aQ=>?_;unfold yI;simp;refine dI [1,2,8,9] (fun i (_:Unit)=>[(10,.int .i64 i)]) 0 (fun i _=>True) () bW trivial (fun _ af _=>?_) (fun i _ hi af _=>by omega);simp;(with_reducible repeat' first|refine aj ?_|simp);all_goals simp[bz,wa,aW,aX,aV]
  all_goals simp[iy]
 | .nil=>by
  refine bm rW Bf CG fun aQ=>?_;unfold yI;simp;refine dI [1,2,8,9] (fun i (_:Unit)=>[(10,.int .i64 i)]) 0 (fun i _=>True) () bW trivial (fun _ af _=>?_) (fun i _ hi af _=>by omega);simp;(with_reducible repeat' first|refine aj ?_|simp);all_goals simp[bz,wa,aW,aX,aV]
  all_goals simp[iy]
theorem WD(s:List ar)(n:Int):bF al 80 [.slice 5 .no (s.map ar.e),.int .i64 n] (.bool (s.all (kC n))):=by
 generalize bf:s.all (kC n)=R;refine bm rW abK aif fun aQ=>?_;unfold Pw;have eY:s.length≤68719476736:=by simp[ez,dZ,eo,lim]at aQ;omega
 simp;refine dI [1,7,8] (fun i (_:Unit)=>[(9,.int .i64 i)]) s.length (kn (kC n) s) () bW (fun k b ab=>by omega) (fun _ af _=>?_) (fun i _ hi af _=>?_)
 ·have:R=true:=by rw[←bf,gh];intro b ad;obtain⟨k,ab,e⟩:=nk ad;exact af k b ab (by rw[cf ab,e])
  rw[this];exact b5
 ·obtain⟨b,aG,gx⟩:=dP hi;have eS:kC n b=false→R=false:=fun h=>by rw[←bf,Bool.eq_false_iff];intro ca;rw[gh]at ca;rw[ca b (dL aG)]at h;cases h
  have mm:=Mq n b.t;by_cases J:b.v<n
  ·have nv:¬n≤b.v:=by omega
   cases U:iy n b.t
   ·rw[eS (by simp[kC,U])];rw[U]at mm;clear af aG;exact b5
   ·have aA:=af.step aG (by simp[kC,J,U]);rw[U]at mm;clear af aG;exact fV
  ·have nv:n≤b.v:=by omega
   rw[eS (by simp[kC,J])];clear af aG;exact b5
theorem alx(l:List (List cI)):bF al 77 [.slice 1 .no (l.map fT)] (.bool (l.all gC)):=by
 generalize bf:l.all gC=R;refine bm rW abF aia fun aQ=>?_;unfold Pq;have eY:l.length≤68719476736:=by simp[ez,dZ,eo,lim]at aQ;omega
 simp;refine dI [5,6] (fun i (_:Unit)=>[(7,.int .i64 i)]) l.length (kn gC l) () bW (fun k b ab=>by omega) (fun _ af _=>?_) (fun i _ hi af _=>?_)
 ·have:R=true:=by rw[←bf,gh];intro b ad;obtain⟨k,ab,e⟩:=nk ad;exact af k b ab (by rw[cf ab,e])
  rw[this];exact b5
 ·obtain⟨b,aG,gx⟩:=dP hi;have de:bF al 76 [fT b] (.bool (gC b)):=Mr b;cases ad:gC b
  ·have:R=false:=by rw[←bf,Bool.eq_false_iff];intro ca;rw[gh]at ca;rw[ca b (dL aG)]at ad;cases ad
   rw[this];rw[ad]at de;clear af aG;exact b5
  ·have aA:=af.step aG ad;rw[ad]at de;clear af aG;exact fV
theorem PT(a:List (List ar))(k:Nat)(m:List ar):lG k (a.map cR)++cR m::nj k (a.map cR)=(a.take k++m::a.drop k).map cR:=by simp
theorem qj(a:List (List ar))(k:Nat)(m:List ar):cZ (lG k (a.map cR)++cR m::nj k (a.map cR))=lG k (a.map cR)++cR m::nj k (a.map cR):=by rw[PT,L0]
theorem qi(S:aH→Prop)(a:List (List ar))(k:Nat)(m:List ar):aI S (lG k (a.map cR)++cR m::nj k (a.map cR))=True:=by rw[PT,S1]
theorem PS(a:List (List ar))(m:List ar):a.map cR++[cR m]=(a++[m]).map cR:=by simp
theorem qh(a:List (List ar))(m:List ar):cZ (a.map cR++[cR m])=a.map cR++[cR m]:=by rw[PS,L0]
theorem qg(S:aH→Prop)(a:List (List ar))(m:List ar):aI S (a.map cR++[cR m])=True:=by rw[PS,S1]
theorem WB(L:List (List ar))(ju:∀d∈L,eD d):bF al 154 [.slice 1 .no (L.map cR)] (.slice 1 .no ((kH L).map cR)):=by
 generalize bf:kH L=R;rw[af1]at bf;refine bm rW abH aic fun aQ=>?_;unfold Ps;have eY:L.length≤68719476736:=by simp[ez,dZ,eo,lim]at aQ;omega
 simp;refine dI [0,12,13] (fun i (a:List (List ar))=>[(3,.slice 1 .no (a.map cR)),(14,.int .i64 i)]) L.length (xD L) [] bW (by simp[xD]) (fun a af _=>?_) (fun i a hi af _=>?_)
 ·rw[xD,pk,bf]at af;subst af;exact b5
 ·obtain⟨e,he,I3⟩:=dP hi;have q8:hH eu a:=by rw[af];exact Ku _ (by simp[hH])
  have q9:a.length≤i:=by have:=TE (L:=L) (L.take i) [];rw[af];simp at this⊢;omega
  have fo:=af.step he;have lq:=ju e (dL he);have bG:∀d,bF al 155 [cR d,cR e] (.int .i64 (eu d e)):=fun d=>Mn d e;clear af he;simp[hi,I3];(with_reducible repeat' first|refine aj ?_|simp[hi,I3]);refine dI [0,3,5,12,13,14,18,19] (fun j (b:Bool)=>[(6,.bool b),(20,.int .i64 j)]) L.length (pL L e) true bW (by simp[pL]) (fun keep af _=>?_) (fun j keep ea af _=>?_)
  ·rw[pL,pk]at af;have RA:keep=iG L e:=af;rw[pU,←RA]at fo;clear af RA;simp;(with_reducible repeat' first|refine aj ?_|simp);refine u9 [0,3,5,6,12,13,14] (fun(k:Nat)=>[(9,.int .i64 k)]) (fun k=>k) (Fb a e) a.length bW ⟨by omega,fun c h=>by simp at h⟩ (fun k af _=>?_);have ab:=af.1;rcases Nat.eq_zero_or_pos k with bA|fp
   ·have bp:decide ((0:Int)<k)=false:=by simp;omega
    have rz:¬(0:Int)<k:=by omega
    have dC:=af.fin q8 fun d h=>by omega
    clear af q8;cases keep with
    |false=>simp only[gS,if_false]at fo;clear dC;exact fV
    |true=>
     simp only[if_true]at fo;by_cases hh:k<a.length
     ·obtain⟨c,au,jZ⟩:=dP hh;rw[au]at dC;by_cases q:eu c e=0
      ·rw[if_pos (by simp[q])]at dC;rw[dC]at fo;clear dC au;simp[hh,jZ,bp,rz];((with_reducible repeat' first|refine aj ?_|refine aD (bG _) ?_|refine aE (bG _) ?_|simp[hh,jZ,q,bp,rz]|((first|apply bL|apply bQ|apply bP)<;>intro h<;>try simp at h))<;>(try exact cq));all_goals exact bO.rng a hi fo bW
      ·rw[if_neg (by simp[q])]at dC;have gB:(eu c e !=0)=true:=by simp[q]
       rw[dC]at fo;clear dC au;simp[hh,jZ,bp,rz];((with_reducible repeat' first|refine aj ?_|refine aD (bG _) ?_|refine aE (bG _) ?_|simp[hh,jZ,q,gB,bp,rz]|((first|apply bL|apply bQ|apply bP)<;>intro h<;>try simp at h))<;>(try exact cq));all_goals first|(refine⟨by unfold lim;omega,?_⟩)|skip
       all_goals(with_reducible repeat' first|refine aj ?_|simp)
       all_goals first|(refine⟨by unfold lim;omega,?_⟩)|skip
       all_goals((with_reducible repeat' first|refine aj ?_|simp|((first|apply bL|apply bQ|apply bP)<;>intro h<;>try simp at h))<;>(try exact cq))
       all_goals exact bO.rng _ hi fo ⟨by simp[fresh,aI,aB,cn,inObs,Pv.look,hz,qj,qi,qh,qg],er (by simp[fresh,aI,aB,cn,inObs,Pv.look,hz,qj,qi,qh,qg]),et (by simp[fresh,aI,aB,dW,inObs,Pv.look,hz,qj,qi,qh,qg]),by simp⟩
     ·rw[p5 (by omega)]at dC;simp only[gS,if_false]at dC;rw[dC]at fo;have hE:k=a.length:=by omega
      have sw:a.take k++e::a.drop k=a++[e]:=by rw[hE];simp
      rw[sw]at fo;clear dC sw;simp[hh,bp,rz];((with_reducible repeat' first|refine aj ?_|refine aD (bG _) ?_|refine aE (bG _) ?_|simp[hh,hE,bp,rz]|((first|apply bL|apply bQ|apply bP)<;>intro h<;>try simp at h))<;>(try exact cq));all_goals first|(refine⟨by unfold lim;omega,?_⟩)|skip
      all_goals(with_reducible repeat' first|refine aj ?_|simp)
      all_goals first|(refine⟨by unfold lim;omega,?_⟩)|skip
      all_goals((with_reducible repeat' first|refine aj ?_|simp|((first|apply bL|apply bQ|apply bP)<;>intro h<;>try simp at h))<;>(try exact cq))
      all_goals exact bO.rng _ hi fo ⟨by simp[fresh,aI,aB,cn,inObs,Pv.look,hz,qj,qi,qh,qg],er (by simp[fresh,aI,aB,cn,inObs,Pv.look,hz,qj,qi,qh,qg]),et (by simp[fresh,aI,aB,dW,inObs,Pv.look,hz,qj,qi,qh,qg]),by simp⟩
   ·obtain⟨d,aP⟩:∃d,a[k-1]? =some d:=⟨_,cf (by omega)⟩;have ak:((k:Int)-1).toNat=k-1:=by omega
    have aC:∀h,(a[k-1]'h)=d:=fun h=>by rw[cf h]at aP;exact fj aP
    have iE:(0:Int)<k:=by omega
    have lQ:k-1<a.length:=by omega
    by_cases ad:0≤eu d e
    ·have ag:Fb a e (k-1):=⟨by omega,fun c au=>by rw[aP]at au;cases au;exact ad⟩;clear af q8 fo aP;simp[fp,iE,ak,aC,ad,lQ];((with_reducible repeat' first|refine aj ?_|refine aD (bG _) ?_|refine aE (bG _) ?_|simp[fp,iE,ak,aC,ad,lQ]|((first|apply bL|apply bQ|apply bP)<;>intro h<;>try simp at h))<;>(try exact cq));refine bO.whl (k-1) (by omega) ag ?_;have bk:((k-1:Nat):Int)=(k:Int)-1:=by omega
     simp[bk];exact bW
    ·have dC:=af.fin q8 fun cc _ ma=>by rw[aP]at ma;cases ma;omega
     clear af q8 aP;cases keep with
     |false=>simp only[gS,if_false]at fo;clear dC;simp[fp,iE,ak,aC,ad,lQ];(with_reducible repeat' first|refine aj ?_|refine aD (bG _) ?_|refine aE (bG _) ?_|simp[fp,iE,ak,aC,ad,lQ]);all_goals exact bO.rng a hi fo bW
     |true=>
      simp only[if_true]at fo;by_cases hh:k<a.length
      ·obtain⟨c,au,jZ⟩:=dP hh;rw[au]at dC;by_cases q:eu c e=0
       ·rw[if_pos (by simp[q])]at dC;rw[dC]at fo;clear dC au;simp[hh,jZ,fp,iE,ak,aC,ad,lQ];((with_reducible repeat' first|refine aj ?_|refine aD (bG _) ?_|refine aE (bG _) ?_|simp[hh,jZ,q,fp,iE,ak,aC,ad,lQ]|((first|apply bL|apply bQ|apply bP)<;>intro h<;>try simp at h))<;>(try exact cq));all_goals exact bO.rng a hi fo bW
       ·rw[if_neg (by simp[q])]at dC;have gB:(eu c e !=0)=true:=by simp[q]
        rw[dC]at fo;clear dC au;simp[hh,jZ,fp,iE,ak,aC,ad,lQ];((with_reducible repeat' first|refine aj ?_|refine aD (bG _) ?_|refine aE (bG _) ?_|simp[hh,jZ,q,gB,fp,iE,ak,aC,ad,lQ]|((first|apply bL|apply bQ|apply bP)<;>intro h<;>try simp at h))<;>(try exact cq));all_goals first|(refine⟨by unfold lim;omega,?_⟩)|skip
        all_goals(with_reducible repeat' first|refine aj ?_|simp)
        all_goals first|(refine⟨by unfold lim;omega,?_⟩)|skip
        all_goals((with_reducible repeat' first|refine aj ?_|simp|((first|apply bL|apply bQ|apply bP)<;>intro h<;>try simp at h))<;>(try exact cq))
        all_goals exact bO.rng _ hi fo ⟨by simp[fresh,aI,aB,cn,inObs,Pv.look,hz,qj,qi,qh,qg],er (by simp[fresh,aI,aB,cn,inObs,Pv.look,hz,qj,qi,qh,qg]),et (by simp[fresh,aI,aB,dW,inObs,Pv.look,hz,qj,qi,qh,qg]),by simp⟩
      ·rw[p5 (by omega)]at dC;simp only[gS,if_false]at dC;rw[dC]at fo;have hE:k=a.length:=by omega
       have sw:a.take k++e::a.drop k=a++[e]:=by rw[hE];simp
       rw[sw]at fo;clear dC sw;simp[hh,fp,iE,ak,aC,ad,lQ];((with_reducible repeat' first|refine aj ?_|refine aD (bG _) ?_|refine aE (bG _) ?_|simp[hh,hE,fp,iE,ak,aC,ad,lQ]|((first|apply bL|apply bQ|apply bP)<;>intro h<;>try simp at h))<;>(try exact cq));all_goals first|(refine⟨by unfold lim;omega,?_⟩)|skip
       all_goals(with_reducible repeat' first|refine aj ?_|simp)
       all_goals first|(refine⟨by unfold lim;omega,?_⟩)|skip
       all_goals(with_reducible repeat' first|refine aj ?_|simp)
       all_goals exact bO.rng _ hi fo ⟨by simp[fresh,aI,aB,cn,inObs,Pv.look,hz,qj,qi,qh,qg],er (by simp[fresh,aI,aB,cn,inObs,Pv.look,hz,qj,qi,qh,qg]),et (by simp[fresh,aI,aB,dW,inObs,Pv.look,hz,qj,qi,qh,qg]),by simp⟩
  ·obtain⟨d,aP,hdi⟩:=dP ea;have aA:=af.step aP;have jK:=ju d (dL aP);have dV:bF al 203 [cR d,cR e] (.bool (mY d e)):=ak0 jK lq;clear af aP fo q8;cases keep with
   |false=>simp only[Bool.false_and]at aA;exact fV
   |true=>
    simp only[Bool.true_and,vK]at aA;by_cases q:eu d e=0
    ·rw[hA ((lz.zero _ _).1 q),Bool.true_or]at aA;simp[ea,hdi];(with_reducible repeat' first|refine aj ?_|refine aD (bG _) ?_|refine aE (bG _) ?_|simp[ea,hdi,q]);all_goals exact bO.rng true ea aA bW
    ·rw[iq (fun h=>q ((lz.zero _ _).2 h)),Bool.false_or]at aA;have gB:(eu d e==0)=false:=by simp[q]
     cases a1:mY d e
     ·rw[a1]at aA dV;simp[ea,hdi];(with_reducible repeat' first|refine aj ?_|refine aD (bG _) ?_|refine aE (bG _) ?_|refine aD dV ?_|refine aE dV ?_|simp[ea,hdi,q,gB]);all_goals exact bO.rng true ea aA bW
     ·rw[a1]at aA dV;simp[ea,hdi];(with_reducible repeat' first|refine aj ?_|refine aD (bG _) ?_|refine aE (bG _) ?_|refine aD dV ?_|refine aE dV ?_|simp[ea,hdi,q,gB]);all_goals exact bO.rng false ea aA bW
theorem ml.fst{s:List (List ar)}{t:List ar}{acc:List (List ar)}(h:ml s 0 acc)(aO:s[0]? =some t):ml s 1 (if iG s t=true then acc++[t]else acc):=by
 unfold ml at*;rw[sN aO]at h;have e:(if(1:Nat)=0 then none else s[1-1]?)=some t:=by simpa using aO
 have ca:acc++(t::cG (some t) (s.drop 1)).filter (iG s)=(cG none s).filter (iG s):=by rw[←h];simp[cG]
 rw[e,←ca];by_cases ab:iG s t=true<;>simp[ab]
theorem ml.eq{s:List (List ar)}{i:Nat}{t:List ar}{acc:List (List ar)}(h:ml s i acc)(hi:i≠0)(bI:s[i-1]? =some t)(aO:s[i]? =some t):ml s (i+1) acc:=by
 unfold ml at*;rw[if_neg hi,bI,sN aO]at h;have e:(if i+1=0 then none else s[i+1-1]?)=some t:=by rw[if_neg (by omega)];exact aO
 rw[e,←h];simp[cG]
theorem ml.ne{s:List (List ar)}{i:Nat}{p t:List ar}{acc:List (List ar)}(h:ml s i acc)(hi:i≠0)(bI:s[i-1]? =some p)(aO:s[i]? =some t)(aA:¬p=t):ml s (i+1) (if iG s t=true then acc++[t]else acc):=by
 unfold ml at*;rw[if_neg hi,bI,sN aO]at h;have e:(if i+1=0 then none else s[i+1-1]?)=some t:=by rw[if_neg (by omega)];exact aO
 have aP:cG (some p) (t::s.drop (i+1))=t::cG (some t) (s.drop (i+1)):=by simp[cG,aA]
 rw[aP]at h;rw[e,←h];by_cases ab:iG s t=true<;>simp[ab]
theorem akl(l:List (List ar)):(oy eu l).length=l.length:=(yd eu l).length_eq
theorem xG(S:aH→Prop)(l:List (List ar))(d:List ar):aI S (l.map cR++[cR d])=True:=by have:=J2 S (l++[d]);rw[List.map_append]at this;exact eq_true this
set_option maxRecDepth 4000 in
theorem akZ(l:List (List ar))(ju:∀d∈l,eD d):bF al 167 [.slice 1 .no (l.map cR)] (.slice 1 .no ((kH l).map cR)):=by
 generalize bf:kH l=R;rw[af0]at bf;refine bm wu ZY agu fun aQ=>?_;unfold ND;have eY:l.length≤68719476736:=by simp[ez,dZ,eo,lim]at aQ;omega
 simp;refine dI [0,12,13] (fun i (_:Unit)=>[(14,.int .i64 i)]) l.length (fun _ _=>True) () bW trivial (fun _ _ _=>?_) (fun i _ hi _ _=>?_);rotate_left
 ·obtain⟨e,he,I3⟩:=dP hi;have de:bF al 86 [cR e] (.bool true):=pd (ju e (dL he));exact fV
 simp;(with_reducible repeat' first|refine aj ?_|simp);all_goals first|(refine⟨by unfold lim;omega,?_⟩)|skip
 all_goals(with_reducible repeat' first|refine aj ?_|simp)
 refine c6.ob (acC l eY) (G4 l) (by unfold ts dQ;exact aR) (by unfold ts dQ;exact aR) (by simp[inObs,dQ,Pv.look]) ?_;rintro r ai ⟨rfl,rfl⟩;refine⟨wI _ _,?_⟩;obtain⟨s,BX⟩:∃s,s=oy eu l:=⟨_,rfl⟩;have pI:s.length=l.length:=by rw[BX];exact akl l
 have ag:∀d∈s,eD d:=fun d aP=>ju d (by rw[BX,VO]at aP;exact aP);rw[←BX]at bf;rw[←BX];clear BX;simp[ts,dQ,cz];refine iA (fun i (acc:List (List ar))=>⟨[(5,.ptr (.obj 822) 0),(6,.slice 1 (.own (.loc 0)) (acc.map cR)),(30,.row 1 (.obj 821) s.length),(31,.int .i64 s.length),(32,.int .i64 i)],[(.obj 822,[.row 1 (.obj 821) s.length])],[(.loc 0,⟨acc.length,46,1,none⟩),(.obj 821,⟨s.length,46,1,some (s.map cR)⟩)],1,[.obj 821,.obj 822]⟩) s.length (fun i acc=>acc.length≤i∧ml s i acc) [] bW ⟨by simp,by simp[ml]⟩ (fun acc af _=>?_) (fun i acc hi af _=>?_)
 ·have af:=af.2;rw[ml,List.drop_length]at af;have:acc=R:=by rw[←bf];simpa[cG]using af
  subst this;exact b5
 ·obtain⟨anN,af⟩:=af;have q9:acc.length≤68719476735:=by omega
  obtain⟨t,rr,aO⟩:=dP hi;have da:=ag t (dL rr);have ko:bF al 168 [cR t] (cR t):=Ws t da.len;have jz:(if iG s t=true then acc++[t]else acc).length≤acc.length+1:=by split<;>simp
  rcases Nat.eq_zero_or_pos i with rfl|fp
  ·have RK:=af.fst rr;have fo:(if iG s t=true then acc++[t]else acc).length≤0+1∧ml s (0+1) (if iG s t=true then acc++[t]else acc):=⟨j8 jz (by omega),RK⟩;clear af RK rr;simp[hi,aO];(with_reducible repeat' first|refine aj ?_|simp[hi,aO]);refine dI [5,6,8,30,31,32,49,50] (fun j (b:Bool)=>[(9,.bool b),(51,.int .i64 j)]) s.length (pL s t) true bW (by simp[pL]) (fun keep af _=>?_) (fun j keep ea af _=>?_)
   ·rw[pL,pk,←SF]at af;rw[←af]at fo;clear af;cases keep with
    |false=>simp only[gS,if_false]at fo;simp;((with_reducible repeat' first|refine aj ?_|simp|((first|apply bL|apply bQ|apply bP)<;>intro h<;>try simp at h))<;>(try exact cq));all_goals exact bO.rng acc hi fo bW
    |true=>
     simp only[if_true]at fo;clear jz;simp;((with_reducible repeat' first|refine aj ?_|refine aD ko ?_|refine aE ko ?_|simp|((first|apply bL|apply bQ|apply bP)<;>intro h<;>try simp at h))<;>(try exact cq));all_goals first|(refine⟨by unfold lim;omega,?_⟩)|skip
     all_goals(with_reducible repeat' first|refine aj ?_|simp)
     all_goals exact bO.rng (acc++[t]) hi fo ⟨by simp[fresh,aI,aB,cn,inObs,Pv.look,xG],er (by simp[fresh,aI,aB,cn,inObs,Pv.look,xG]),et (by simp[fresh,aI,aB,dW,inObs,Pv.look,xG]),by simp⟩
   ·obtain⟨d,aP,hdi⟩:=dP ea;have aA:=af.step aP;have jK:=ag d (dL aP);have dV:bF al 208 [cR d,cR t] (.bool (mY d t)):=WE d jK.len da;have oi:bF al 207 [cR d,cR t] (.int .i64 (eu d t)):=GU d t;clear af aP fo;by_cases q:eu d t=0
    ·rw[vK,hA ((lz.zero _ _).1 q),Bool.true_or,Bool.and_true]at aA;rw[q]at oi;simp[ea,hdi];((with_reducible repeat' first|refine aj ?_|refine aD oi ?_|refine aE oi ?_|simp[ea,hdi]|((first|apply bL|apply bQ|apply bP)<;>intro h<;>try simp at h))<;>(try exact cq));all_goals exact bO.rng keep ea aA bW
    ·rw[vK,iq (fun h=>q ((lz.zero _ _).2 h)),Bool.false_or]at aA;have gB:(eu d t !=0)=true:=by simp[q]
     cases a1:mY d t
     ·rw[a1]at aA dV;simp only[Bool.not_false,Bool.and_true]at aA;simp[ea,hdi];((with_reducible repeat' first|refine aj ?_|refine aD oi ?_|refine aE oi ?_|refine aD dV ?_|refine aE dV ?_|simp[ea,hdi,q,gB]|((first|apply bL|apply bQ|apply bP)<;>intro h<;>try simp at h))<;>(try exact cq));all_goals exact bO.rng keep ea aA bW
     ·rw[a1]at aA dV;simp only[Bool.not_true,Bool.and_false]at aA;simp[ea,hdi];((with_reducible repeat' first|refine aj ?_|refine aD oi ?_|refine aE oi ?_|refine aD dV ?_|refine aE dV ?_|simp[ea,hdi,q,gB]|((first|apply bL|apply bQ|apply bP)<;>intro h<;>try simp at h))<;>(try exact cq));all_goals exact bO.rng false ea aA bW
  ·obtain⟨p,zk⟩:∃p,s[i-1]? =some p:=⟨_,cf (by omega)⟩;have ak:((i:Int)-1).toNat=i-1:=by omega
   have aC:∀h,(s[i-1]'h)=p:=fun h=>by rw[cf h]at zk;exact fj zk
   have bk:¬i=0:=by omega
   have dc:i-1<s.length:=by omega
   have iE:(0:Int)<i:=by omega
   have iW:bF al 207 [cR p,cR t] (.int .i64 (eu p t)):=GU p t;by_cases EW:p=t
   ·have fo:acc.length≤i+1∧ml s (i+1) acc:=⟨by omega,af.eq bk (by rw[zk,EW]) rr⟩;rw[(lz.zero _ _).2 EW]at iW;clear af rr zk;simp[hi,aO,ak,aC,dc,iE];((with_reducible repeat' first|refine aj ?_|refine aD iW ?_|refine aE iW ?_|simp[hi,aO,ak,aC,dc,fp,iE]|((first|apply bL|apply bQ|apply bP)<;>intro h<;>try simp at h))<;>(try exact cq));all_goals exact bO.rng acc hi fo bW
   ·have fo:(if iG s t=true then acc++[t]else acc).length≤i+1∧ml s (i+1) (if iG s t=true then acc++[t]else acc):=⟨j8 jz (by omega),af.ne bk zk rr EW⟩;have ot:¬eu p t=0:=fun h=>EW ((lz.zero _ _).1 h);have Uo:(eu p t==0)=false:=by simp[ot]
    clear af rr zk;simp[hi,aO,ak,aC,dc,iE];((with_reducible repeat' first|refine aj ?_|refine aD iW ?_|refine aE iW ?_|simp[hi,aO,ak,aC,dc,fp,iE,ot,Uo]|((first|apply bL|apply bQ|apply bP)<;>intro h<;>try simp at h))<;>(try exact cq));refine dI [5,6,8,30,31,32,49,50] (fun j (b:Bool)=>[(9,.bool b),(51,.int .i64 j)]) s.length (pL s t) true bW (by simp[pL]) (fun keep af _=>?_) (fun j keep ea af _=>?_)
    ·rw[pL,pk,←SF]at af;rw[←af]at fo;clear af;cases keep with
     |false=>simp only[gS,if_false]at fo;simp;((with_reducible repeat' first|refine aj ?_|simp|((first|apply bL|apply bQ|apply bP)<;>intro h<;>try simp at h))<;>(try exact cq));all_goals exact bO.rng acc hi fo bW
     |true=>
      simp only[if_true]at fo;clear jz;simp;(with_reducible repeat' first|refine aj ?_|refine aD ko ?_|refine aE ko ?_|simp);all_goals first|(refine⟨by unfold lim;omega,?_⟩)|skip
      all_goals(with_reducible repeat' first|refine aj ?_|simp)
      all_goals exact bO.rng (acc++[t]) hi fo ⟨by simp[fresh,aI,aB,cn,inObs,Pv.look,xG],er (by simp[fresh,aI,aB,cn,inObs,Pv.look,xG]),et (by simp[fresh,aI,aB,dW,inObs,Pv.look,xG]),by simp⟩
    ·obtain⟨d,aP,hdi⟩:=dP ea;have aA:=af.step aP;have jK:=ag d (dL aP);have dV:bF al 208 [cR d,cR t] (.bool (mY d t)):=WE d jK.len da;have oi:bF al 207 [cR d,cR t] (.int .i64 (eu d t)):=GU d t;clear af aP fo;by_cases q:eu d t=0
     ·rw[vK,hA ((lz.zero _ _).1 q),Bool.true_or,Bool.and_true]at aA;rw[q]at oi;simp[ea,hdi];((with_reducible repeat' first|refine aj ?_|refine aD oi ?_|refine aE oi ?_|simp[ea,hdi]|((first|apply bL|apply bQ|apply bP)<;>intro h<;>try simp at h))<;>(try exact cq));all_goals exact bO.rng keep ea aA bW
     ·rw[vK,iq (fun h=>q ((lz.zero _ _).2 h)),Bool.false_or]at aA;have gB:(eu d t !=0)=true:=by simp[q]
      cases a1:mY d t
      ·rw[a1]at aA dV;simp only[Bool.not_false,Bool.and_true]at aA;simp[ea,hdi];((with_reducible repeat' first|refine aj ?_|refine aD oi ?_|refine aE oi ?_|refine aD dV ?_|refine aE dV ?_|simp[ea,hdi,q,gB]|((first|apply bL|apply bQ|apply bP)<;>intro h<;>try simp at h))<;>(try exact cq));all_goals exact bO.rng keep ea aA bW
      ·rw[a1]at aA dV;simp only[Bool.not_true,Bool.and_false]at aA;simp[ea,hdi];((with_reducible repeat' first|refine aj ?_|refine aD oi ?_|refine aE oi ?_|refine aD dV ?_|refine aE dV ?_|simp[ea,hdi,q,gB]|((first|apply bL|apply bQ|apply bP)<;>intro h<;>try simp at h))<;>(try exact cq));all_goals exact bO.rng false ea aA bW
theorem al1(l:List T)(h:∀t∈l,t.fit=true):bF al 172 [.slice 4 .no (l.map T.e)] (.bool true):=by
 refine bm fH aaz ag5 fun aQ=>?_;unfold Og;have eY:l.length≤68719476736:=by simp[ez,dZ,eo,lim]at aQ;omega
 simp;refine dI [5,6] (fun i (_:Unit)=>[(7,.int .i64 i)]) l.length (fun _ _=>True) () bW trivial (fun _ _ _=>?_) (fun i _ hi _ _=>?_)
 ·exact b5
 ·obtain⟨t,aO,rr⟩:=dP hi;have dE:=Mk (h t (dL aO));clear aO;exact fV
def iu(m:Int):cK:=⟨[(.obj 831,[.int .i64 m])],[]⟩
theorem uY(m:Int):ed (iu m):=by unfold iu;exact ed.of ⟨by intro m;simp[Pv.look],by intro m;simp[Pv.look]⟩ (by simp) (by simp)
theorem Xh(a b:Int):Same (iu a) (iu b):=Same.keys (by simp[iu]) (by simp[iu])
theorem acb(v m hn:Int)(h:Dq v m=some hn):bN al 204 [.int .i64 v,.ptr (.obj 831) 0] (iu m) fun r ai=>r= .tuple []∧ai=iu hn:=by
 unfold Dq at h;split at h;rotate_left
 ·cases h
 rename_i aG;cases h;have ag:=uY m;simp only[iu]at ag⊢;by_cases hm:m<v+1
 ·rw[rZ,if_pos hm];refine bN.mk mixed wu Qf TV (by simp) ag.obj fun aQ cL=>?_;unfold Hz;simp;(with_reducible repeat' first|refine aj ?_|simp[hm]);(refine cT.at (iu (v+1)) (by simp) (by first|exact uY _|exact uY ‹_› _) (Same.keys (by simp[iu]) (by simp[iu])) (by simp only[iu,bV,bY];exact aR) (by simp only[iu,bV,bY];exact aR) ?_;simp[cY,K6,aW,aX,aV,inObs,Pv.look,iu])
 ·rw[rZ,if_neg hm];refine bN.mk mixed wu Qf TV (by simp) ag.obj fun aQ cL=>?_;unfold Hz;simp;(with_reducible repeat' first|refine aj ?_|simp[hm]);(refine cT.at (iu m) (by simp) (by first|exact uY _|exact uY ‹_› _) (Same.keys (by simp[iu]) (by simp[iu])) (by simp only[iu,bV,bY];exact aR) (by simp only[iu,bV,bY];exact aR) ?_;simp[cY,K6,aW,aX,aV,inObs,Pv.look,iu])
def Dp(l:List T):Int:=l.foldl (fun m t=>t.fold rZ m) 0
def Fc(l:List T)(i:Nat)(m:Int):Prop:=m=Dp (l.take i)
theorem ak5(l:List T)(h:∀t∈l,t.fit=true):bF al 162 [.slice 4 .no (l.map T.e)] (.int .i64 (Dp l)):=by
 have dE:=al1 l h;generalize bf:Dp l=R;refine bm wu Z5 agB fun aQ=>?_;unfold NL;have eY:l.length≤68719476736:=by simp[ez,dZ,eo,lim]at aQ;omega
 simp;(with_reducible repeat' first|refine aj ?_|refine aD dE ?_|refine aE dE ?_|simp);refine iA (fun i (m:Int)=>⟨[(3,.ptr (.obj 831) 0),(9,.slice 4 .no (l.map T.e)),(10,.int .i64 l.length),(11,.int .i64 i)],[(.obj 831,[.int .i64 m])],[],0,[.obj 831]⟩) l.length (Fc l) 0 bW rfl (fun m af _=>?_) (fun i m hi af _=>?_)
 ·rw[Fc,pk,bf]at af;subst af;exact b5
 ·obtain⟨t,aO,rr⟩:=dP hi;have ads:t.ok=true:=by have:=h t (dL aO);simp only[T.fit,cC]at this;exact this.1
  have aA:Fc l (i+1) (t.fold rZ m):=by rw[Fc,qI aO,Dp,List.foldl_append,af];rfl
  have key:=IF iu uY Xh 204 [.ptr (.obj 831) 0] (fun a=>by simp[iu,inObs,Pv.look]) (by simp) Dq (fun v a bn h=>acb v a bn h) t m _ (Mw t m ads);clear af aO;simp[hi,rr];(with_reducible repeat' first|refine aj ?_|simp[rr,hi]);(refine c6.ob (key) (by first|exact uY _|exact uY ‹_› _) (by simp only[iu,bV,bY];exact aR) (by simp only[iu,bV,bY];exact aR) (by simp[inObs,Pv.look,iu]) ?_;rintro r ai ⟨rfl,rfl⟩;refine⟨(Same.keys (by simp[iu]) (by simp[iu])),?_⟩;simp[cz,iu]);(with_reducible repeat' first|refine aj ?_|simp);refine bO.rng (t.fold rZ m) hi aA ?_;exact bW
theorem Wr{s:List ar}(ag:eD s){n:Int}(aA:0≤n):bF al 89 [.slice 5 .no (s.map ar.e),.int .i64 n] (.bool (s.all (kC n))):=by
 have pI:=ag.len;generalize bf:s.all (kC n)=R;refine bm wu Z6 agC fun aQ=>?_;unfold NM;simp;refine dI [1,7,8] (fun i (_:Unit)=>[(9,.int .i64 i)]) s.length (kn (kC n) s) () bW (fun k b ab=>by omega) (fun _ af _=>?_) (fun i _ hi af _=>?_)
 ·have:R=true:=by rw[←bf,gh];intro b ad;obtain⟨k,ab,e⟩:=nk ad;exact af k b ab (by rw[cf ab,e])
  rw[this];exact b5
 ·obtain⟨b,aG,gx⟩:=dP hi;have eS:kC n b=false→R=false:=fun h=>by rw[←bf,Bool.eq_false_iff];intro ca;rw[gh]at ca;rw[ca b (dL aG)]at h;cases h
  have mm:=ak5 [b.t] (fun t aO=>by simp at aO;subst aO;exact ag.fit b (dL aG));have hle:=Mx (n:=n) b.t 0;rw[show Dp [b.t]=b.t.fold rZ 0 from rfl]at mm;simp only[hf,List.map_nil]at mm;generalize b.t.fold rZ 0=m at mm hle;by_cases J:b.v<n
  ·have nv:¬n≤b.v:=by omega
   cases U:iy n b.t
   ·have ao:n<m:=by rw[U]at hle;simp at hle;omega
    rw[eS (by simp[kC,U])];clear af aG hle;exact b5
   ·have ao:¬n<m:=by rw[U]at hle;simp[aA]at hle;omega
    have zh:=af.step aG (by simp[kC,J,U]);clear af aG hle;exact fV
  ·have nv:n≤b.v:=by omega
   rw[eS (by simp[kC,J])];clear af aG hle;exact b5
def u1:C:=(aa [cN 1 0,be 2 false] (.seq (aa [aF 11 0 1 1,aw 12 1 11,aT 13 .lss 12 0,I 14 13,aq 14 false (aF 15 0 1 1),aq 14 false (aw 16 1 15),aq 14 false (aT 17 .gtr 16 100000),c2 18 14 17,I 19 18,aq 19 false (aF 20 1 1 1),aq 19 false (aw 21 1 20),aq 19 false (cM 22 86 21),aq 19 false (cx 23 22),c2 24 19 23,I 25 24,aq 25 false (aF 26 3 1 1),aq 25 false (aw 27 1 26),aq 25 false (cM 28 87 27),aq 25 false (cx 29 28),c2 30 25 29,I 31 30,aq 31 false (aF 32 4 1 1),aq 31 false (aw 33 1 32),aq 31 false (cM 34 88 33),aq 31 false (cx 35 34),c2 36 31 35,I 37 36,aq 37 false (aF 38 1 1 1),aq 37 false (aw 39 1 38),aq 37 false (aF 40 0 1 1),aq 37 false (aw 41 1 40),aq 37 false (b4 42 89 39 41),aq 37 false (cx 43 42),c2 44 37 43] (aS 44 (aa [be 2 false] .ret) .skip)) (.seq (aa [aF 45 2 1 1,aw 46 1 45,cb 47 46,bS 48 0] (fe 49 48 47 (.seq (.block 1 (aa [cj 50 1 46 48,aw 51 1 50,I 4 51] (aa [I 52 4,cM 53 86 52,cx 54 53,I 55 54,bZ 55 false 56 4,aq 55 false (aF 57 0 1 1),aq 55 false (aw 58 1 57),aq 55 false (b4 59 89 56 58),aq 55 false (cx 60 59),c2 61 55 60] (aS 61 (aa [be 2 false] .ret) .skip)))) (.region [aT 62 .add 48 1,I 48 62])))) (.seq (aa [aF 63 3 1 1,aw 64 1 63,cb 65 64,bS 66 0] (.block 2 (.loop (aa [bh 67 .lss 66 65] (.seq (aS 67 .skip (.exit 2)) (.seq (.block 3 (aa [cj 68 2 64 66,a7 69 2 68,cU (.alloc 6 none (.agg [.int .i64 0,.int .i64 0])),bM 2 6 69] (aa [aF 70 0 1 6,aw 71 1 70,aF 72 0 1 1,aw 73 1 72,bh 74 .geq 71 73] (aS 74 (aa [be 2 false] .ret) .skip)))) (.region [aT 75 .add 66 1,I 66 75]))))))) (.seq (aa [aF 76 4 1 1,aw 77 1 76,cb 78 77,bS 79 0] (.block 4 (.loop (aa [bh 80 .lss 79 78] (.seq (aS 80 .skip (.exit 4)) (.seq (.block 5 (aa [cj 81 2 77 79,a7 82 2 81,cU (.alloc 8 none (.agg [.int .i64 0,.str []])),bM 2 8 82] (aa [aF 83 0 1 8,aw 84 1 83,aF 85 0 1 1,aw 86 1 85,bh 87 .geq 84 86] (aS 87 (aa [be 2 false] .ret) .skip)))) (.region [aT 88 .add 79 1,I 79 88]))))))) (aa [a7 90 5 1,cM 91 90 90,I 89 91,cH 92 0 89,cH 93 1 89,dh 9 oj,bM 5 9 92,I 10 93] (aa [I 94 10,I 95 94,aq 95 true (a7 96 5 9),aq 95 true (a7 97 5 1),aq 95 true (b4 98 91 96 97),dy 99 95 98,I 2 99] .ret)))))))
@[simp] def aiF:List bu:=[.tmp 2]
def DV:C:=(aa [cN 1 0,dh 2 oj,be 3 false] (aa [aF 26 1 1 1,aw 27 1 26,aF 28 3 1 1,aw 29 1 28,b4 30 163 27 29,I 25 30,cH 31 0 25,cH 32 1 25,I 4 31,I 5 32] (aa [aF 34 1 1 1,aw 35 1 34,aF 36 4 1 1,aw 37 1 36,b4 38 164 35 37,I 33 38,cH 39 0 33,cH 40 1 33,I 6 39,I 7 40] (.seq (aa [I 41 5,cx 42 41,I 43 42,bZ 43 false 44 7,aq 43 false (cx 45 44),c2 46 43 45] (aS 46 (aa [j7 47 oj [],bM 5 2 47,be 3 false] .ret) .skip)) (aa [cU (.mkmap 48 none),I 8 48] (.seq (aa [I 49 4,cb 50 49,bS 51 0] (fe 52 51 50 (.seq (.block 1 (aa [cj 53 2 49 51,a7 54 2 53,cU (.alloc 10 none (.agg [.int .i64 0,.int .i64 0])),bM 2 10 54] (aa [aF 55 1 1 10,aw 56 1 55,aT 57 .eql 56 3] (aS 57 (.region [I 58 8,aF 59 0 1 10,aw 60 1 59,cU (.mput .i (.t 58) (.t 60) (.c (.bool true)))]) .skip)))) (.region [aT 61 .add 51 1,I 51 61])))) (aa [fD 62 2 100 [],I 11 62] (.seq (aa [I 63 6,cb 64 63,bS 65 0] (.block 2 (.loop (aa [bh 66 .lss 65 64] (.seq (aS 66 .skip (.exit 2)) (.seq (.block 3 (aa [cj 67 2 63 65,a7 68 2 67,cU (.alloc 13 none (.agg [.int .i64 0,.str []])),bM 2 13 68] (aa [I 69 8,aF 70 0 1 13,aw 71 1 70,b7 72 (.mget .i (.bool false) false (.t 69) (.t 71)),cx 73 72] (aS 73 (.region [I 74 11,a7 75 2 13,fD 76 2 100 [.t 75],iN 77 2 100 74 76,I 11 77]) .skip)))) (.region [aT 78 .add 65 1,I 65 78]))))))) (aa [fD 79 1 46 [],I 14 79] (.seq (aa [aF 80 2 1 1,aw 81 1 80,cb 82 81,bS 83 0] (.block 4 (.loop (aa [bh 84 .lss 83 82] (.seq (aS 84 .skip (.exit 4)) (.seq (.block 5 (aa [cj 85 1 81 83,aw 86 1 85,I 16 86] (aa [aF 88 1 1 1,aw 89 1 88,I 90 16,b4 91 165 89 90,I 87 91,cH 92 0 87,cH 93 1 87,I 17 92,I 18 93] (.seq (aa [I 94 18,cx 95 94] (aS 95 (.exit 5) .skip)) (aa [I 97 17,I 98 4,b4 99 163 97 98,I 96 99,cH 100 0 96,cH 101 1 96,I 19 100,I 20 101] (aa [I 103 17,I 104 11,b4 105 164 103 104,I 102 105,cH 106 0 102,cH 107 1 102,I 21 106,I 22 107] (.seq (aa [I 108 20,cx 109 108,I 110 109,bZ 110 false 111 22,aq 110 false (cx 112 111),c2 113 110 112] (aS 113 (.exit 5) .skip)) (aa [aF 114 1 1 1,aw 115 1 114,I 116 17,b4 117 166 115 116,I 23 117] (.seq (aa [I 118 23,cb 119 118,aT 120 .eql 119 0] (aS 120 (aa [j7 121 oj [],bM 5 2 121,be 3 false] .ret) .skip)) (.region [I 122 14,I 123 23,fD 124 1 46 [.t 123],iN 125 1 46 122 124,I 14 125])))))))))) (.region [aT 126 .add 83 1,I 83 126]))))))) (aa [I 127 14,cM 128 167 127,I 24 128] (.seq (aa [I 129 24,cb 130 129,aT 131 .gtr 130 30] (aS 131 (aa [j7 132 oj [],bM 5 2 132,be 3 false] .ret) .skip)) (.seq (.drawn true 142 [aF 133 0 1 1,aw 134 1 133,aF 135 1 1 1,aw 136 1 135,cM 137 168 136,I 138 24,I 139 4,I 140 11,j7 141 oj [(0,1,(.t 134)),(1,1,(.t 137)),(2,1,(.t 138)),(3,1,(.t 139)),(4,1,(.t 140))],bM 5 2 141,be 3 true]) .ret)))))))))))))
@[simp] def z8:List bu:=[.cell 2 true 5,.tmp 3]
def wQ:C:=(aa [cN 2 0,cN 3 1,be 4 false] (.seq (aa [aF 8 0 1 2,aw 9 1 8,aF 10 0 1 3,aw 11 1 10,bh 12 .neq 9 11,I 13 12,aq 13 false (aF 14 1 1 2),aq 13 false (aw 15 1 14),aq 13 false (aF 16 1 1 3),aq 13 false (aw 17 1 16),aq 13 false (b4 18 169 15 17),aq 13 false (cx 19 18),c2 20 13 19,I 21 20,aq 21 false (aF 22 2 1 2),aq 21 false (aw 23 1 22),aq 21 false (cb 24 23),aq 21 false (aF 25 2 1 3),aq 21 false (aw 26 1 25),aq 21 false (cb 27 26),aq 21 false (bh 28 .neq 24 27),c2 29 21 28,I 30 29,aq 30 false (aF 31 3 1 2),aq 30 false (aw 32 1 31),aq 30 false (cb 33 32),aq 30 false (aF 34 3 1 3),aq 30 false (aw 35 1 34),aq 30 false (cb 36 35),aq 30 false (bh 37 .neq 33 36),c2 38 30 37,I 39 38,aq 39 false (aF 40 4 1 2),aq 39 false (aw 41 1 40),aq 39 false (cb 42 41),aq 39 false (aF 43 4 1 3),aq 39 false (aw 44 1 43),aq 39 false (cb 45 44),aq 39 false (bh 46 .neq 42 45),c2 47 39 46] (aS 47 (aa [be 4 false] .ret) .skip)) (.seq (aa [aF 48 2 1 2,aw 49 1 48,cb 50 49,bS 51 0] (fe 52 51 50 (.seq (.block 1 (aa [I 53 51,I 5 53] (.seq (.drawn true 103 [aF 54 2 1 2,aw 55 1 54,I 56 5,cj 57 1 55 56,aw 58 1 57,aF 59 2 1 3,aw 60 1 59,I 61 5,cj 62 1 60 61,aw 63 1 62,b4 64 169 58 63,cx 65 64]) (aS 65 (aa [be 4 false] .ret) .skip)))) (.region [aT 66 .add 51 1,I 51 66])))) (.seq (aa [aF 67 3 1 2,aw 68 1 67,cb 69 68,bS 70 0] (.block 2 (.loop (aa [bh 71 .lss 70 69] (.seq (aS 71 .skip (.exit 2)) (.seq (.block 3 (aa [I 72 70,I 6 72] (.seq (.drawn true 103 [aF 73 3 1 2,aw 74 1 73,I 75 6,cj 76 2 74 75,a7 77 2 76,aF 78 3 1 3,aw 79 1 78,I 80 6,cj 81 2 79 80,a7 82 2 81,b7 83 (.beq true (some [false,false]) (.t 77) (.t 82))]) (aS 83 (aa [be 4 false] .ret) .skip)))) (.region [aT 84 .add 70 1,I 70 84]))))))) (.seq (aa [aF 85 4 1 2,aw 86 1 85,cb 87 86,bS 88 0] (.block 4 (.loop (aa [bh 89 .lss 88 87] (.seq (aS 89 .skip (.exit 4)) (.seq (.block 5 (aa [I 90 88,I 7 90] (.seq (.drawn true 103 [aF 91 4 1 2,aw 92 1 91,I 93 7,cj 94 2 92 93,a7 95 2 94,aF 96 4 1 3,aw 97 1 96,I 98 7,cj 99 2 97 98,a7 100 2 99,b7 101 (.beq true (some [false,true]) (.t 95) (.t 100))]) (aS 101 (aa [be 4 false] .ret) .skip)))) (.region [aT 102 .add 88 1,I 88 102]))))))) (aa [be 4 true] .ret))))))
@[simp] def F8:List bu:=[.tmp 4]
def GJ:List (Nat×dA):=[
 (3,⟨1,8,.int .i64,.int .i64 0⟩),
 (4,⟨1,1,.bool,.bool false⟩),
 (9,⟨1,16,.str,.str []⟩),
 (46,⟨1,24,.slice 113,.slice 5 .nil []⟩),
 (47,⟨1,24,.slice 46,.slice 1 .nil []⟩),
 (48,⟨1,24,.slice 98,.slice 2 .nil []⟩),
 (49,⟨1,24,.slice 100,.slice 2 .nil []⟩),
 (51,⟨5,104,.struct [(0,3),(1,46),(2,47),(3,48),(4,49)],.agg [.int .i64 0,.slice 5 .nil [],.slice 1 .nil [],.slice 2 .nil [],.slice 2 .nil []]⟩),
 (98,⟨2,16,.struct [(0,3),(1,3)],.agg [.int .i64 0,.int .i64 0]⟩),
 (100,⟨2,24,.struct [(0,3),(1,9)],.agg [.int .i64 0,.str []]⟩),
 (136,⟨1,8,.map 3 4,.junk⟩)]
theorem nL:fL al GJ=true:=by kernel_rfl
theorem xR:b0 GJ u1 aiF 1 Tryz.f29=true:=by kernel_rfl
theorem wS:al.funcs[(29:Nat)]? =some Tryz.f29:=Tryz.func29
theorem KK:b0 GJ DV z8 1 Tryz.f90=true:=by kernel_rfl
theorem Io:al.funcs[(90:Nat)]? =some Tryz.f90:=Tryz.func90
theorem zT:b0 GJ wQ F8 2 Tryz.f91=true:=by kernel_rfl
theorem yP:al.funcs[(91:Nat)]? =some Tryz.f91:=Tryz.func91
def dN.e(s:dN):ah:= .agg [.int .i64 s.n,.slice 5 .no (s.b.map ar.e),.slice 1 .no (s.d.map cR),.slice 2 .no (s.k.map bJ.e),.slice 2 .no (s.m.map bj.e)]
@[simp] theorem ao3(S:aH→Prop)(s:dN):aB S s.e=True:=by simp[dN.e,aB,aI]
def uJ(o:aY dN):ah:= .tuple [(o.getD qO).e,.bool o.isSome]
@[simp] theorem ao1(S:aH→Prop)(o:aY dN):aB S (uJ o)=True:=by simp[uJ,aB,aI]
def ud(k:List bJ)(i:Nat)(l:List (Int×Bool)):Prop:= ∀v,(c3 v l).getD false=(k.take i).any fun x=>x.v==v&&x.k==3
theorem ud.put{k:List bJ}{i:Nat}{l:List (Int×Bool)}(h:ud k i l){x:bJ}(ae:k[i]? =some x)(ao:x.k=3):ud k (i+1) (eJ x.v true l):=fun v=>by
 rw[ng,qI ae,List.any_append,←h v];by_cases e:v=x.v
 ·rw[if_pos e];simp[e,ao]
 ·rw[if_neg e];have:(x.v==v)=false:=by simp;exact fun h=>e h.symm
  simp[this]
theorem ud.skip{k:List bJ}{i:Nat}{l:List (Int×Bool)}(h:ud k i l){x:bJ}(ae:k[i]? =some x)(ao:¬x.k=3):ud k (i+1) l:=fun v=>by
 rw[qI ae,List.any_append,←h v];have:(x.k==3)=false:=by simp[ao]
 simp[this]
theorem ud.fin{k:List bJ}{l:List (Int×Bool)}(h:ud k k.length l)(ab:iW k)(x:bj):(c3 x.v l).getD false= !ks k x:=by rw[h x.v,pk,Xv ab.asc,ks,bne,Bool.not_not]
def sI(k:List bJ)(m:List bj)(i:Nat)(a:List bj):Prop:=a=(m.take i).filter (ks k)
theorem sI.step{k:List bJ}{m:List bj}{i:Nat}{a:List bj}(h:sI k m i a){x:bj}(ae:m[i]? =some x):sI k m (i+1) (if ks k x=true then a++[x]else a):=by
 rw[sI,qI ae,List.filter_append,←h];by_cases e:ks k x=true
 ·rw[if_pos e];simp[e]
 ·rw[if_neg e];simp[e]
theorem zB(S:aH→Prop)(l:List bj)(d:bj):aI S (l.map bj.e++[d.e])=True:=by have:=J1 S (l++[d]);rw[List.map_append]at this;exact eq_true this
theorem Tp{k:List bJ}{m:List bj}(h:ik m):ik (m.filter (ks k)):=⟨fun x ae=>h.at' x (nl.1 ae).1,W0 _ h.asc⟩
theorem V5{G:List (List dz)}{k:List bJ}{m:List bj}(h:nJ G m):nJ G (m.filter (ks k)):=fun x ae=>h x (nl.1 ae).1
theorem pM.skip{b:List ar}{k:List bJ}{m:List bj}{D:List (List ar)}{i:Nat}{a:List (List ar)}(h:pM b k m D i a){d:List ar}(aP:D[i]? =some d)(he:∀r,gF b k m (d::r)=gF b k m r):pM b k m D (i+1) a:=⟨by have:=h.1;omega,h.2.1,by rw[←h.2.2,sN aP,he]⟩
theorem pM.snoc{b:List ar}{k:List bJ}{m:List bj}{D:List (List ar)}{i:Nat}{a:List (List ar)}(h:pM b k m D i a){d x:List ar}(aP:D[i]? =some d)(ae:eD x)(he:∀r,gF b k m (d::r)=(gF b k m r).map (x:: ·)):pM b k m D (i+1) (a++[x]):=
 ⟨by have:=h.1;simp;omega,fun y aL=>by
  rcases ky.1 aL with aL|aL
  ·exact h.2.1 y aL
  ·simp at aL;subst aL;exact ae,by
  rw[←h.2.2,sN aP,he,Option.map_map];congr 1;funext r;simp⟩
theorem pM.stop{b:List ar}{k:List bJ}{m:List bj}{D:List (List ar)}{i:Nat}{a:List (List ar)}(h:pM b k m D i a){d:List ar}(aP:D[i]? =some d)(he:∀r,gF b k m (d::r)=none):gF b k m D=none:=by rw[←h.2.2,sN aP,he];rfl
theorem pM.fin{b:List ar}{k:List bJ}{m:List bj}{D:List (List ar)}{a:List (List ar)}(h:pM b k m D D.length a):gF b k m D=some a:=by rw[←h.2.2,List.drop_length];simp[gF]
theorem ug(S:aH→Prop)(l:List (List ar))(d:List ar):aI S (l.map cR++[.slice 5 .no (d.map ar.e)])=True:=xG S l d
theorem A7{d:List ar}(aP:eD d):∀e∈hD d,e.1.ok=true∧e.2.ok=true:=fun e he=>by obtain⟨c,au,rfl⟩:=iP.1 he;have:=aP.ok c au;exact⟨by simpa[T.ok]using this.1,this.2⟩
set_option maxRecDepth 4000 in
theorem alR{s:dN}(h:uP s){G:List (List dz)}(mM:G.length≤687000)(a1:nJ G s.m):bF al 90 [s.e] (uJ (nf s)):=by
 generalize di:nf s=O;have kp:=Wp h.b h.k;have kq:=Wq h.b h.m mM a1;have nD:=fun k=>Gf (acc:=[]) (a:=k) h.b h.k.at' ⟨by simp,by simp⟩;have pV:=fun m=>Gg (acc:=[]) (a:=m) h.b h.m.at' ⟨by simp,by simp[hH]⟩;have mK:=fun m=>Lt (acc:=[]) (a:=m) (s:=s.b) a1 (fun x ae=>by simp at ae);have ad:=h.b;have aP:=h.d;clear h a1;unfold nf at di;obtain⟨n,b,d,fb,m0⟩:=s;simp only at kp kq nD pV mK ad aP di;have e5:=ad.len;simp only[dN.e];generalize fW b fb []=ok at kp di nD;generalize fX b m0 []=om at kq di pV mK;cases ok with
 |none=>
  simp only at di;subst di;simp only[fQ]at kp;simp only[ja]at kq;clear nD pV mK;refine bm nL Io KK fun aQ=>?_;unfold DV;simp;(with_reducible repeat' first|refine aj ?_|refine aD kp ?_|refine aE kp ?_|refine aD kq ?_|refine aE kq ?_|simp);all_goals simp[bz,z8,aW,aX,aV]
  all_goals simp[uJ,qO,dN.e]
 |some k=>
  simp only at di;cases om with
  |none=>
   simp only at di;subst di;simp only[fQ]at kp;simp only[ja]at kq;clear nD pV mK;refine bm nL Io KK fun aQ=>?_;unfold DV;simp;(with_reducible repeat' first|refine aj ?_|refine aD kp ?_|refine aE kp ?_|refine aD kq ?_|refine aE kq ?_|simp);all_goals simp[bz,z8,aW,aX,aV]
   all_goals simp[uJ,qO,dN.e]
  |some m=>
   simp only at di;have vm:=nD k rfl;have xm:=pV m rfl;have xf:=mK m rfl;have hE:=sK vm;have ll:m.length≤68719470000:=by have:=Cn xm xf;omega
   have zf:=Tp (k:=k) xm;have y9:=V5 (k:=k) xf;have adR:(m.filter (ks k)).length≤68719470000:=j8 (List.length_filter_le _ _) ll;simp only[fQ,j9,po]at kp;simp only[ja,j9,po]at kq;clear nD pV mK;refine bm nL Io KK fun aQ=>?_;unfold DV;have xb:d.length≤68719476736:=by simp[ez,dZ,eo,lim]at aQ;omega
   simp;(with_reducible repeat' first|refine aj ?_|refine aD kp ?_|refine aE kp ?_|refine aD kq ?_|refine aE kq ?_|simp);refine iA (fun i (l:List (Int×Bool))=>⟨[(1,.ptr (.loc 0) 0),(2,.ptr (.loc 1) 0),(4,.slice 2 .no (k.map bJ.e)),(6,.slice 2 .no (m.map bj.e)),(8,.gmap (.loc 2)),(49,.slice 2 .no (k.map bJ.e)),(50,.int .i64 k.length),(51,.int .i64 i)],[(.loc 0,[.int .i64 n,.slice 5 .no (b.map ar.e),.slice 1 .no (d.map cR),.slice 2 .no (fb.map bJ.e),.slice 2 .no (m0.map bj.e)]),(.loc 1,[.int .i64 0,.slice 5 .nil [],.slice 1 .nil [],.slice 2 .nil [],.slice 2 .nil []]),(.loc 2,pR l)],[],3,[]⟩) k.length (ud k) [] ⟨by simp[fresh,aI,aB,cn,inObs,Pv.look,Ke],er (by simp[fresh,aI,aB,cn,inObs,Pv.look,Ke]),et (by simp[fresh,aI,aB,dW,inObs,Pv.look,Ke]),by simp⟩ (fun v=>by simp[c3]) (fun l af _=>?_) (fun i l hi af _=>?_);rotate_left
   ·obtain⟨x,ae,cE⟩:=dP hi;by_cases ao:x.k=3
    ·have aA:=af.put ae ao;clear af ae;exact fV
    ·have aA:=af.skip ae ao;have sq:(x.k==3)=false:=by simp[ao]
     clear af ae;exact fV
   have hints:=af.fin vm;clear af;simp;(with_reducible repeat' first|refine aj ?_|simp);refine iA (fun i (a:List bj)=>⟨[(1,.ptr (.loc 0) 0),(2,.ptr (.loc 1) 0),(4,.slice 2 .no (k.map bJ.e)),(8,.gmap (.loc 2)),(11,.slice 2 (.own (.loc 3)) (a.map bj.e)),(63,.slice 2 .no (m.map bj.e)),(64,.int .i64 m.length),(65,.int .i64 i)],[(.loc 0,[.int .i64 n,.slice 5 .no (b.map ar.e),.slice 1 .no (d.map cR),.slice 2 .no (fb.map bJ.e),.slice 2 .no (m0.map bj.e)]),(.loc 1,[.int .i64 0,.slice 5 .nil [],.slice 1 .nil [],.slice 2 .nil [],.slice 2 .nil []]),(.loc 2,pR l)],[(.loc 3,⟨a.length,100,2,none⟩)],4,[]⟩) m.length (sI k m) [] bW (by simp[sI]) (fun a af _=>?_) (fun i a hi af _=>?_);rotate_left
   ·obtain⟨x,ae,cE⟩:=dP hi;have q9:a.length≤68719470000:=by
     have:a.length≤(m.take i).length:=by rw[af];exact List.length_filter_le _ _
     simp at this;omega
    have aA:=af.step ae;have br:=hints x;cases aJ:ks k x
    ·rw[aJ]at aA br;simp only[gS,if_false,Bool.not_false]at aA br;clear af ae aJ;simp[hi,cE];((with_reducible repeat' first|refine aj ?_|simp[hi,cE,br]|((first|apply bL|apply bQ|apply bP)<;>intro h<;>try simp at h))<;>(try exact cq));all_goals exact bO.rng a hi aA bW
    ·rw[aJ]at aA br;simp only[if_true,Bool.not_true]at aA br;clear af ae aJ;simp[hi,cE];((with_reducible repeat' first|refine aj ?_|simp[hi,cE,br]|((first|apply bL|apply bQ|apply bP)<;>intro h<;>try simp at h))<;>(try exact cq));all_goals first|(refine⟨by unfold lim;omega,?_⟩)|skip
     all_goals(with_reducible repeat' first|refine aj ?_|simp)
     all_goals exact bO.rng (a++[x]) hi aA ⟨by simp[fresh,aI,aB,cn,inObs,Pv.look,zB],er (by simp[fresh,aI,aB,cn,inObs,Pv.look,zB]),et (by simp[fresh,aI,aB,dW,inObs,Pv.look,zB]),by simp⟩
   rw[sI,pk]at af;rw[←af]at zf y9 adR di;clear af hints hE xm xf;simp;(with_reducible repeat' first|refine aj ?_|simp);refine iA (fun i (L:List (List ar))=>⟨[(1,.ptr (.loc 0) 0),(2,.ptr (.loc 1) 0),(4,.slice 2 .no (k.map bJ.e)),(11,.slice 2 (.own (.loc 3)) (a.map bj.e)),(14,.slice 1 (.own (.loc 4)) (L.map cR)),(81,.slice 1 .no (d.map cR)),(82,.int .i64 d.length),(83,.int .i64 i)],[(.loc 0,[.int .i64 n,.slice 5 .no (b.map ar.e),.slice 1 .no (d.map cR),.slice 2 .no (fb.map bJ.e),.slice 2 .no (m0.map bj.e)]),(.loc 1,[.int .i64 0,.slice 5 .nil [],.slice 1 .nil [],.slice 2 .nil [],.slice 2 .nil []])],[(.loc 3,⟨a.length,100,2,none⟩),(.loc 4,⟨L.length,46,1,none⟩)],5,[]⟩) d.length (pM b k a d) [] bW ⟨by simp,by simp,by simp⟩ (fun L af _=>?_) (fun i L hi af _=>?_)
   ·have ju:=af.fin;have vg:=af.2.1;rw[ju]at di;simp only at di;have mV:=akZ L vg;have ko:bF al 168 [.slice 5 .no (b.map ar.e)] (.slice 5 .no (b.map ar.e)):=Ws b e5;clear af ju vg;generalize kH L=M at mV di;by_cases lb:M.length≤30
    ·have n2:¬(30:Int)<M.length:=by omega
     rw[if_pos lb]at di;subst di;simp;(with_reducible repeat' first|refine aj ?_|refine aD mV ?_|refine aE mV ?_|refine aD ko ?_|refine aE ko ?_|simp[lb,n2]);all_goals simp[bz,z8,aW,aX,aV]
     all_goals simp[uJ,dN.e]
    ·have n2:(30:Int)<M.length:=by omega
     rw[if_neg lb]at di;subst di;simp;(with_reducible repeat' first|refine aj ?_|refine aD mV ?_|refine aE mV ?_|refine aD ko ?_|refine aE ko ?_|simp[lb,n2]);all_goals simp[bz,z8,aW,aX,aV]
     all_goals simp[uJ,qO,dN.e]
   ·obtain⟨x,ae,cE⟩:=dP hi;have h7:=aP x (dL ae);have Q5:=af.1;have hN:bF al 165 [.slice 5 .no (b.map ar.e),cR x] (gg (mgu b (hD x))):=akW ad h7;simp only[gg]at hN;cases hu:mgu b (hD x)with
    |none=>have aA:=af.skip ae fun r=>J8 hu;rw[hu]at hN;simp only[nm,l0]at hN;clear af ae di;exact fV
    |some y=>
     have iU:=ad.mgu (A7 h7) hu;rw[hu]at hN;simp only[j9,po]at hN;have dk:=Wp iU vm;have dV:=Wq iU zf mM y9;have hO:=ak1 ad iU;simp only[fQ]at dk;simp only[ja]at dV;by_cases jv:fW y k []=none∨fX y a []=none
     ·have aA:=af.skip ae fun r=>J7 hu jv;clear af ae di hu;rcases jv with e|e
      ·rw[e]at dk;simp only[nm,l0]at dk;exact fV
      ·rw[e]at dV;simp only[nm,l0]at dV;cases (fW y k []).isSome
       ·simp[hi,cE];((with_reducible repeat' first|refine aj ?_|refine aD hN ?_|refine aE hN ?_|refine aD dk ?_|refine aE dk ?_|refine aD dV ?_|refine aE dV ?_|simp[hi,cE]|((first|apply bL|apply bQ|apply bP)<;>intro h<;>try simp at h))<;>(try exact cq));all_goals exact bO.rng L hi aA bW
       ·simp[hi,cE];((with_reducible repeat' first|refine aj ?_|refine aD hN ?_|refine aE hN ?_|refine aD dk ?_|refine aE dk ?_|refine aD dV ?_|refine aE dV ?_|simp[hi,cE]|((first|apply bL|apply bQ|apply bP)<;>intro h<;>try simp at h))<;>(try exact cq));all_goals exact bO.rng L hi aA bW
     ·have ak:(fW y k []).isSome=true:=by cases e:fW y k []with|none=>exact absurd (.inl e) jv|some _=>rfl
      have aC:(fX y a []).isSome=true:=by cases e:fX y a []with|none=>exact absurd (.inr e) jv|some _=>rfl
      rw[ak]at dk;rw[aC]at dV;by_cases cF:gy b y=[]
      ·have ag:=af.stop ae fun r=>J6 hu jv cF;rw[ag]at di;simp only at di;subst di;rw[cF]at hO;simp only[List.map_nil]at hO;clear af ae hu jv;simp[hi,cE];((with_reducible repeat' first|refine aj ?_|refine aD hN ?_|refine aE hN ?_|refine aD dk ?_|refine aE dk ?_|refine aD dV ?_|refine aE dV ?_|refine aD hO ?_|refine aE hO ?_|simp[hi,cE]|((first|apply bL|apply bQ|apply bP)<;>intro h<;>try simp at h))<;>(try exact cq));all_goals simp[bz,z8,aW,aX,aV]
       all_goals simp[uJ,qO,dN.e]
      ·have aA:=af.snoc ae (FG (b:=b) iU) fun r=>J9 hu jv cF;have vo:¬((gy b y).length:Int)=0:=by have:(gy b y).length≠0:=fun h=>cF (List.length_eq_zero_iff.1 h);omega
       have vp:(((gy b y).length:Int)==0)=false:=by simp[cF]
       have Fh:bF al 166 [.slice 5 .no (b.map ar.e),.slice 5 .no (y.map ar.e)] (cR (gy b y)):=hO;clear af ae hu jv di hO;generalize gy b y=z at Fh aA vo vp cF;simp only[cR]at Fh;simp[hi,cE];(with_reducible repeat' first|refine aj ?_|refine aD hN ?_|refine aE hN ?_|refine aD dk ?_|refine aE dk ?_|refine aD dV ?_|refine aE dV ?_|refine aD Fh ?_|refine aE Fh ?_|simp[hi,cE,vo,vp,cF]);all_goals first|(refine⟨by unfold lim;omega,?_⟩)|skip
       all_goals(with_reducible repeat' first|refine aj ?_|simp)
       all_goals exact bO.rng (L++[z]) hi aA ⟨by simp[fresh,aI,aB,cn,inObs,Pv.look,ug,cR],er (by simp[fresh,aI,aB,cn,inObs,Pv.look,ug,cR]),et (by simp[fresh,aI,aB,dW,inObs,Pv.look,ug,cR]),by simp⟩
@[simp] theorem amG(neg:Bool)(x y:bJ):ic neg (some [false,false]) x.e y.e=some (True,.bool (if neg then !decide (x=y)else decide (x=y))):=by
 have h:(x.v==y.v&&(x.k==y.k&&true))=decide (x=y):=by rw[p3];simp only[Bool.and_true,cC,dO,fk];cases x;cases y;simp
 rw[←h];rfl
@[simp] theorem amH(neg:Bool)(x y:bj):ic neg (some [false,true]) x.e y.e=some (True,.bool (if neg then !decide (x=y)else decide (x=y))):=by
 have h:(x.v==y.v&&(x.s==y.s&&true))=decide (x=y):=by rw[p3];simp only[Bool.and_true,cC,dO,fk];cases x;cases y;simp
 rw[←h];rfl
theorem alg(x y:List ar)(h:x.length≤1000000):bF al 169 [cR x,cR y] (.bool (decide (x=y))):=Wt x y h
set_option maxRecDepth 4000 in
theorem alQ(a c:dN)(mO:a.b.length≤1000000)(Bu:∀x∈a.d,x.length≤1000000):bF al 91 [a.e,c.e] (.bool (decide (a=c))):=by
 obtain⟨n,b,d,k,m⟩:=a;obtain⟨n',b1,cc,bK,hn⟩:=c;simp only at mO Bu;generalize bf:decide ((⟨n,b,d,k,m⟩:dN)=⟨n',b1,cc,bK,hn⟩)=R;simp only[dN.mk.injEq,dN.e]at bf⊢;by_cases a6:n=n';rotate_left
 ·have fO:R=false:=by rw[←bf];simp[a6]
  have sW:(n !=n')=true:=by simp[a6]
  rw[fO];clear bf fO;refine bm nL yP zT fun aQ=>?_;unfold wQ;exact b5
 subst a6;have fy:=Wt b b1 mO;by_cases bE:b=b1;rotate_left
 ·have fO:R=false:=by rw[←bf];simp[bE]
  rw[iq bE]at fy;rw[fO];clear bf fO;refine bm nL yP zT fun aQ=>?_;unfold wQ;exact b5
 subst bE;rw[hA rfl]at fy;by_cases bX:d.length=cc.length;rotate_left
 ·have fO:R=false:=by rw[←bf];simp only[gz];rintro⟨_,_,rfl,_⟩;exact bX rfl
  have rL:((d.length:Int) !=cc.length)=true:=by simp;omega
  rw[fO];clear bf fO;refine bm nL yP zT fun aQ=>?_;unfold wQ;exact b5
 by_cases cX:k.length=bK.length;rotate_left
 ·have fO:R=false:=by rw[←bf];simp only[gz];rintro⟨_,_,_,rfl,_⟩;exact cX rfl
  have aiy:((k.length:Int) !=bK.length)=true:=by simp;omega
  rw[fO];clear bf fO;refine bm nL yP zT fun aQ=>?_;unfold wQ;exact b5
 by_cases c8:m.length=hn.length;rotate_left
 ·have fO:R=false:=by rw[←bf];simp only[gz];rintro⟨_,_,_,_,rfl⟩;exact c8 rfl
  have aiz:((m.length:Int) !=hn.length)=true:=by simp;omega
  rw[fO];clear bf fO;refine bm nL yP zT fun aQ=>?_;unfold wQ;exact b5
 have xq:d≠cc→R=false:=fun h=>by rw[←bf];simp[h]
 have xr:k≠bK→R=false:=fun h=>by rw[←bf];simp[h]
 have Jk:m≠hn→R=false:=fun h=>by rw[←bf];simp[h]
 refine bm nL yP zT fun aQ=>?_;unfold wQ;have adI:cc.length≤68719476736:=by simp[ez,dZ,eo,lim]at aQ;omega
 have adJ:bK.length≤68719476736:=by simp[ez,dZ,eo,lim]at aQ;omega
 have adK:hn.length≤68719476736:=by simp[ez,dZ,eo,lim]at aQ;omega
 clear aQ;simp;(with_reducible repeat' first|refine aj ?_|refine aD fy ?_|refine aE fy ?_|simp[bX,cX,c8]);have cB:=xq;refine dI [2,3,50] (fun i (_:Unit)=>[(51,.int .i64 i)]) cc.length (qX d cc) () bW (fun k ab=>by omega) (fun _ af _=>?_) (fun i _ hi af _=>?_);rotate_left
 ·obtain⟨x,ae⟩:∃x,d[i]? =some x:=⟨_,cf (by omega)⟩;obtain⟨y,aL⟩:∃y,cc[i]? =some y:=⟨_,cf hi⟩;have ga:i<d.length:=by omega
  have cE:∀h,(d[i]'h)=x:=fun h=>by rw[cf ga]at ae;exact fj ae
  have eG:∀h,(cc[i]'h)=y:=fun h=>by rw[cf hi]at aL;exact fj aL
  have fy:=alg x y (Bu x (dL ae));by_cases q:x=y
  ·subst q;have aA:=af.step ae aL;rw[hA rfl]at fy;clear af ae aL;simp[hi,ga,cE,eG,-ic];(with_reducible repeat' first|refine aj ?_|refine aD fy ?_|refine aE fy ?_|simp[cE,eG,hi,ga,-ic]);all_goals exact bO.rng () hi aA bW
  ·rw[cB (fun h=>q (by rw[h]at ae;rw[ae]at aL;exact fj aL))];rw[iq q]at fy;clear af ae aL;simp[hi,ga,cE,eG,-ic];(with_reducible repeat' first|refine aj ?_|refine aD fy ?_|refine aE fy ?_|simp[cE,eG,hi,ga,q,-ic]);all_goals simp[bz,F8,aW,aX,aV]
 have dv:=af.fin bX;subst dv;clear af cB xq bX;simp;(with_reducible repeat' first|refine aj ?_|simp[cX]);have cB:=xr;refine dI [2,3,69] (fun i (_:Unit)=>[(70,.int .i64 i)]) bK.length (qX k bK) () bW (fun k ab=>by omega) (fun _ af _=>?_) (fun i _ hi af _=>?_);rotate_left
 ·obtain⟨x,ae⟩:∃x,k[i]? =some x:=⟨_,cf (by omega)⟩;obtain⟨y,aL⟩:∃y,bK[i]? =some y:=⟨_,cf hi⟩;have ga:i<k.length:=by omega
  have cE:∀h,(k[i]'h)=x:=fun h=>by rw[cf ga]at ae;exact fj ae
  have eG:∀h,(bK[i]'h)=y:=fun h=>by rw[cf hi]at aL;exact fj aL
  have fy:=True.intro;by_cases q:x=y
  ·subst q;have aA:=af.step ae aL;skip;clear af ae aL;simp[hi,ga,cE,eG,-ic];(with_reducible repeat' first|refine aj ?_|refine aD fy ?_|refine aE fy ?_|simp[cE,eG,hi,ga,-ic]);all_goals exact bO.rng () hi aA bW
  ·rw[cB (fun h=>q (by rw[h]at ae;rw[ae]at aL;exact fj aL))];skip;clear af ae aL;simp[hi,ga,cE,eG,-ic];(with_reducible repeat' first|refine aj ?_|refine aD fy ?_|refine aE fy ?_|simp[cE,eG,hi,ga,q,-ic]);all_goals simp[bz,F8,aW,aX,aV]
 have dv:=af.fin cX;subst dv;clear af cB xr cX;simp;(with_reducible repeat' first|refine aj ?_|simp[c8]);have cB:=Jk;refine dI [2,3,87] (fun i (_:Unit)=>[(88,.int .i64 i)]) hn.length (qX m hn) () bW (fun k ab=>by omega) (fun _ af _=>?_) (fun i _ hi af _=>?_);rotate_left
 ·obtain⟨x,ae⟩:∃x,m[i]? =some x:=⟨_,cf (by omega)⟩;obtain⟨y,aL⟩:∃y,hn[i]? =some y:=⟨_,cf hi⟩;have ga:i<m.length:=by omega
  have cE:∀h,(m[i]'h)=x:=fun h=>by rw[cf ga]at ae;exact fj ae
  have eG:∀h,(hn[i]'h)=y:=fun h=>by rw[cf hi]at aL;exact fj aL
  have fy:=True.intro;by_cases q:x=y
  ·subst q;have aA:=af.step ae aL;skip;clear af ae aL;simp[hi,ga,cE,eG,-ic];(with_reducible repeat' first|refine aj ?_|refine aD fy ?_|refine aE fy ?_|simp[cE,eG,hi,ga,-ic]);all_goals exact bO.rng () hi aA bW
  ·rw[cB (fun h=>q (by rw[h]at ae;rw[ae]at aL;exact fj aL))];skip;clear af ae aL;simp[hi,ga,cE,eG,-ic];(with_reducible repeat' first|refine aj ?_|refine aD fy ?_|refine aE fy ?_|simp[cE,eG,hi,ga,q,-ic]);all_goals simp[bz,F8,aW,aX,aV]
 have dv:=af.fin c8;subst dv;have fO:R=true:=by rw[←bf];simp
 rw[fO];exact b5
def h2.e(r:h2):ah:= .agg [.int .i64 r.n,.slice 5 .no (r.b.map cI.e),.slice 1 .no (r.d.map fT),.slice 2 .no (r.k.map bJ.e),.slice 2 .no (r.m.map bj.e)]
theorem VR(s:dN):s.r.e=s.e:=by simp only[dN.r,h2.e,dN.e,rD,H3]
@[simp] theorem ao2(S:aH→Prop)(r:h2):aB S r.e=True:=by simp[h2.e,aB,aI]
theorem ak3(x:List cI):bF al 86 [fT x] (.bool (gC x)):=Mi x
open Classical in
set_option maxRecDepth 4000 in
theorem ak2(r:h2)(gm:ik r.m→s8 r.m):bF al 29 [r.e] (.bool (decide (rT r))):=by
 generalize bf:decide (rT r)=R;have cB:¬Lr r→R=false:=fun h=>by rw[←bf,gz];exact fun ca=>h ca.raw
 obtain⟨n,b,d,k,m⟩:=r;simp only[h2.e]at gm⊢;by_cases g1:n<0
 ·rw[cB fun h=>by have:=h.n.1;simp only at this;omega];refine bm nL wS xR fun aQ=>?_;unfold u1;exact b5
 by_cases g2:100000<n
 ·rw[cB fun h=>by have:=h.n.2;simp only at this;omega];refine bm nL wS xR fun aQ=>?_;unfold u1;exact b5
 have mm:bF al 86 [.slice 5 .no (b.map cI.e)] (.bool (gC b)):=Mi b;cases g3:gC b
 ·rw[cB fun h=>by obtain⟨s,ak,aC,_⟩:=h.b;have:=qH.2 (wj.2 ⟨s,ak,aC⟩);simp only at this;rw[g3]at this;cases this]
  rw[g3]at mm;refine bm nL wS xR fun aQ=>?_;unfold u1;exact b5
 rw[g3]at mm;obtain⟨s,rfl,ag⟩:=wj.1 (qH.1 g3);clear g3;rw[rD]at mm⊢;have dk:=Wl k;by_cases g4:iW k;rotate_left
 ·rw[cB fun h=>g4 h.k];rw[iq g4]at dk;refine bm nL wS xR fun aQ=>?_;unfold u1;exact b5
 rw[hA g4]at dk;have dV:=Wn m;by_cases g5:ik m;rotate_left
 ·rw[cB fun h=>g5 h.m];rw[iq g5]at dV;refine bm nL wS xR fun aQ=>?_;unfold u1;exact b5
 rw[hA g5]at dV;have kY:=Wr ag (n:=n) (by omega);cases g6:s.all (kC n)
 ·rw[cB fun h=>by obtain⟨ai,ak,_,bk⟩:=h.b;have dc:=ps ak;subst dc;rw[u0.2 bk]at g6;cases g6]
  rw[g6]at kY;refine bm nL wS xR fun aQ=>?_;unfold u1;exact b5
 rw[g6]at kY;have cL:=u0.1 g6;clear g6;have BI:=gm g5;have ll:=BI.len g5;refine bm nL wS xR fun aQ=>?_;unfold u1;have xb:d.length≤68719476736:=by simp[ez,dZ,eo,lim]at aQ;omega
 have hE:=sK g4;clear aQ gm;simp;(with_reducible repeat' first|refine aj ?_|refine aD mm ?_|refine aE mm ?_|refine aD dk ?_|refine aE dk ?_|refine aD dV ?_|refine aE dV ?_|refine aD kY ?_|refine aE kY ?_|simp[g1,g2]);refine dI [1,46,47] (fun i (_:Unit)=>[(48,.int .i64 i)]) d.length (rA (jX n) d) () bW (fun k b ab=>by omega) (fun _ af _=>?_) (fun i _ hi af _=>?_);rotate_left
 ·obtain⟨x,ae,cE⟩:=dP hi;have B3:=dL ae;have de:=ak3 x;cases l9:gC x
  ·rw[cB fun h=>by obtain⟨ai,ak,aC,_⟩:=h.d x B3;rw[qH.2 (wj.2 ⟨ai,ak,aC⟩)]at l9;cases l9]
   rw[l9]at de;clear af ae B3;exact b5
  ·rw[l9]at de;obtain⟨y,rfl,aL⟩:=wj.1 (qH.1 l9);clear l9;rw[H2]at de;have mn:bF al 89 [cR y,.int .i64 n] (.bool (y.all (kC n))):=Wr aL (n:=n) (by omega);have an3:∀h,fT (d[i]'h)=cR y:=fun h=>by rw[cE h,H2]
   cases q5:y.all (kC n)
   ·rw[cB fun h=>by obtain⟨ai,ak,_,bk⟩:=h.d _ B3;have dc:=ps ak;subst dc;rw[u0.2 bk]at q5;cases q5]
    rw[q5]at mn;clear af ae B3 cE;exact b5
   ·rw[q5]at mn;have aA:=af.step ae ⟨y,rfl,aL,u0.1 q5⟩;clear af ae B3 cE;exact fV
 obtain⟨D,rfl,tM,IT⟩:=PU af.fin;clear af;simp only[H3];simp;(with_reducible repeat' first|refine aj ?_|simp);refine dI [1,64,65] (fun i (_:Unit)=>[(66,.int .i64 i)]) k.length (rA (fun x=>x.v<n) k) () bW (fun k b ab=>by omega) (fun _ af _=>?_) (fun i _ hi af _=>?_);rotate_left
 ·obtain⟨x,ae,cE⟩:=dP hi;by_cases l9:x.v<n
  ·have w4:¬n≤x.v:=by omega
   have aA:=af.step ae l9;clear af ae;exact fV
  ·have w4:n≤x.v:=by omega
   rw[cB fun h=>l9 (h.kb x (dL ae))];clear af ae;exact b5
 have xg:=af.fin;clear af;simp;(with_reducible repeat' first|refine aj ?_|simp);have pF:=xg;refine dI [1,77,78] (fun i (_:Unit)=>[(79,.int .i64 i)]) m.length (rA (fun x=>x.v<n) m) () bW (fun k b ab=>by omega) (fun _ af _=>?_) (fun i _ hi af _=>?_);rotate_left
 ·obtain⟨x,ae,cE⟩:=dP hi;by_cases l9:x.v<n
  ·have w4:¬n≤x.v:=by omega
   have aA:=af.step ae l9;clear af ae;exact fV
  ·have w4:n≤x.v:=by omega
   rw[cB fun h=>l9 (h.mb x (dL ae))];clear af ae;exact b5
 have xg:=af.fin;clear af;simp;(with_reducible repeat' first|refine aj ?_|simp);have o0:=xg;have da:uP ⟨n,s,D,k,m⟩:=⟨by simp only;omega,ag,tM,g4,g5,cL,IT,pF,o0⟩;have tV:=VQ da;obtain⟨G,mM,a1⟩:=BI;have dE:=alR da mM a1;have kV:rT ⟨n,s.map ar.b,D.map fun x=>x.map ar.b,k,m⟩↔nf ⟨n,s,D,k,m⟩=some ⟨n,s,D,k,m⟩:=tV;clear tV cB;simp only[uJ]at dE;cases lq:nf ⟨n,s,D,k,m⟩with
 |none=>
  rw[lq]at dE kV;have fO:R=false:=by rw[←bf,gz,kV];simp
  rw[fO];simp only[nm,l0,dN.e]at dE;clear bf fO kV;exact b5
 |some t=>
  have zp:=ajV da lq;rw[lq]at dE kV;have vG:=alQ t ⟨n,s,D,k,m⟩ zp.1.1.b.len (fun x ae=>(zp.1.1.d x ae).len);have fO:R=decide (t=⟨n,s,D,k,m⟩):=by rw[←bf,decide_eq_decide,kV];simp
  rw[fO];simp only[j9,po]at dE;simp only[dN.e]at dE vG;clear bf fO kV zp;generalize decide (t=(⟨n,s,D,k,m⟩:dN))=Q at vG⊢;obtain⟨ta,V7,V8,s9,tm⟩:=t;simp only at dE vG;exact b5
def u4:C:=(aa [cN 1 0,be 2 false] (.seq (aa [aF 11 0 1 1,aw 12 1 11,dK 13 75 [.t 12,(gr 0),(gr 100000)],cx 14 13,I 15 14,aq 15 false (aF 16 1 1 1),aq 15 false (aw 17 1 16),aq 15 false (cM 18 76 17),aq 15 false (cx 19 18),c2 20 15 19,I 21 20,aq 21 false (aF 22 2 1 1),aq 21 false (aw 23 1 22),aq 21 false (cM 24 77 23),aq 21 false (cx 25 24),c2 26 21 25,I 27 26,aq 27 false (aF 28 3 1 1),aq 27 false (aw 29 1 28),aq 27 false (cM 30 78 29),aq 27 false (cx 31 30),c2 32 27 31,I 33 32,aq 33 false (aF 34 4 1 1),aq 33 false (aw 35 1 34),aq 33 false (cM 36 79 35),aq 33 false (cx 37 36),c2 38 33 37,I 39 38,aq 39 false (aF 40 1 1 1),aq 39 false (aw 41 1 40),aq 39 false (aF 42 0 1 1),aq 39 false (aw 43 1 42),aq 39 false (b4 44 80 41 43),aq 39 false (cx 45 44),c2 46 39 45] (aS 46 (aa [be 2 false] .ret) .skip)) (.seq (aa [aF 47 2 1 1,aw 48 1 47,cb 49 48,bS 50 0] (fe 51 50 49 (.seq (.block 1 (aa [cj 52 1 48 50,aw 53 1 52,I 4 53] (aa [I 54 4,aF 55 0 1 1,aw 56 1 55,b4 57 80 54 56,cx 58 57] (aS 58 (aa [be 2 false] .ret) .skip)))) (.region [aT 59 .add 50 1,I 50 59])))) (.seq (aa [aF 60 3 1 1,aw 61 1 60,cb 62 61,bS 63 0] (.block 2 (.loop (aa [bh 64 .lss 63 62] (.seq (aS 64 .skip (.exit 2)) (.seq (.block 3 (aa [cj 65 2 61 63,a7 66 2 65,cU (.alloc 6 none (.agg [.int .i64 0,.int .i64 0])),bM 2 6 66] (aa [aF 67 0 1 6,aw 68 1 67,aF 69 0 1 1,aw 70 1 69,bh 71 .geq 68 70] (aS 71 (aa [be 2 false] .ret) .skip)))) (.region [aT 72 .add 63 1,I 63 72]))))))) (.seq (aa [aF 73 4 1 1,aw 74 1 73,cb 75 74,bS 76 0] (.block 4 (.loop (aa [bh 77 .lss 76 75] (.seq (aS 77 .skip (.exit 4)) (.seq (.block 5 (aa [cj 78 2 74 76,a7 79 2 78,cU (.alloc 8 none (.agg [.int .i64 0,.str []])),bM 2 8 79] (aa [aF 80 0 1 8,aw 81 1 80,aF 82 0 1 1,aw 83 1 82,bh 84 .geq 81 83] (aS 84 (aa [be 2 false] .ret) .skip)))) (.region [aT 85 .add 76 1,I 76 85]))))))) (aa [a7 87 5 1,cM 88 81 87,I 86 88,cH 89 0 86,cH 90 1 86,dh 9 oj,bM 5 9 89,I 10 90] (aa [I 91 10,I 92 91,aq 92 true (a7 93 5 9),aq 92 true (a7 94 5 1),aq 92 true (b4 95 82 93 94),dy 96 92 95,I 2 96] .ret)))))))
@[simp] def ajs:List bu:=[.tmp 2]
def D5:C:=(aa [cN 1 0,dh 2 oj,be 3 false] (aa [aF 20 1 1 1,aw 21 1 20,aF 22 3 1 1,aw 23 1 22,b4 24 149 21 23,I 19 24,cH 25 0 19,cH 26 1 19,I 4 25,I 5 26] (aa [aF 28 1 1 1,aw 29 1 28,aF 30 4 1 1,aw 31 1 30,b4 32 150 29 31,I 27 32,cH 33 0 27,cH 34 1 27,I 6 33,I 7 34] (.seq (aa [I 35 5,cx 36 35,I 37 36,bZ 37 false 38 7,aq 37 false (cx 39 38),c2 40 37 39] (aS 40 (aa [j7 41 oj [],bM 5 2 41,be 3 false] .ret) .skip)) (aa [aF 42 0 1 1,aw 43 1 42,aF 44 1 1 1,aw 45 1 44,I 46 4,j7 47 oj [(0,1,(.t 43)),(1,1,(.t 45)),(3,1,(.t 46))],dh 8 oj,bM 5 8 47] (.seq (aa [I 48 6,cb 49 48,bS 50 0] (fe 51 50 49 (.seq (.block 1 (aa [cj 52 2 48 50,a7 53 2 52,cU (.alloc 10 none (.agg [.int .i64 0,.str []])),bM 2 10 53] (aa [I 55 4,aF 56 0 1 10,aw 57 1 56,cM 58 114 57,dK 59 151 [.t 55,.t 58,(gr 2)],I 54 59,cH 60 0 54,cH 61 1 54,I 11 60,I 12 61] (aa [I 62 12] (aS 62 (.region [aF 63 4 1 8,aw 64 1 63,a7 65 2 10,fD 66 2 100 [.t 65],iN 67 2 100 64 66,aF 68 4 1 8,bM 1 68 67]) .skip))))) (.region [aT 69 .add 50 1,I 50 69])))) (aa [fD 70 1 46 [],I 13 70] (.seq (aa [aF 71 2 1 1,aw 72 1 71,cb 73 72,bS 74 0] (.block 2 (.loop (aa [bh 75 .lss 74 73] (.seq (aS 75 .skip (.exit 2)) (.seq (.block 3 (aa [cj 76 1 72 74,aw 77 1 76,I 15 77] (aa [aF 79 1 1 1,aw 80 1 79,I 81 15,b4 82 152 80 81,I 78 82,cH 83 0 78,cH 84 1 78,I 16 83,I 17 84] (.seq (aa [I 85 17] (aS 85 (aa [I 87 16,aF 88 3 1 8,aw 89 1 88,b4 90 149 87 89,I 86 90,cH 91 0 86,cH 92 1 86,I 5 92] (.region [I 94 16,aF 95 4 1 8,aw 96 1 95,b4 97 150 94 96,I 93 97,cH 98 0 93,cH 99 1 93,I 7 99])) .skip)) (.seq (aa [I 100 17,cx 101 100,I 102 101,bZ 102 false 103 5,aq 102 false (cx 104 103),c2 105 102 104,I 106 105,bZ 106 false 107 7,aq 106 false (cx 108 107),c2 109 106 108] (aS 109 (aa [be 5 true] (aa [be 7 true] (.exit 3))) .skip)) (aa [aF 110 1 1 1,aw 111 1 110,I 112 16,b4 113 153 111 112,I 18 113] (.seq (aa [I 114 18,cb 115 114,aT 116 .eql 115 0] (aS 116 (aa [j7 117 oj [],bM 5 2 117,be 3 false] .ret) .skip)) (.region [I 118 13,I 119 18,fD 120 1 46 [.t 119],iN 121 1 46 118 120,I 13 121])))))))) (.region [aT 122 .add 74 1,I 74 122]))))))) (aa [I 123 13,cM 124 154 123,aF 125 2 1 8,bM 1 125 124] (.seq (.fz true 8 (.drawn true 131 [b7 126 (.loadZ true 5 (.t 8)),aF 127 2 1 8,b7 128 (.loadZ false 1 (.t 127)),cb 129 128,aT 130 .leq 129 30,bM 5 2 126,I 3 130])) .ret))))))))))
@[simp] def uE:List bu:=[.cell 2 true 5,.tmp 3]
def wR:C:=(aa [cN 2 0,cN 3 1,be 4 false] (.seq (aa [aF 11 0 1 2,aw 12 1 11,aF 13 0 1 3,aw 14 1 13,bh 15 .neq 12 14,I 16 15,aq 16 false (aF 17 1 1 2),aq 16 false (aw 18 1 17),aq 16 false (aF 19 1 1 3),aq 16 false (aw 20 1 19),aq 16 false (b4 21 155 18 20),aq 16 false (aT 22 .neq 21 0),c2 23 16 22,I 24 23,aq 24 false (aF 25 2 1 2),aq 24 false (aw 26 1 25),aq 24 false (cb 27 26),aq 24 false (aF 28 2 1 3),aq 24 false (aw 29 1 28),aq 24 false (cb 30 29),aq 24 false (bh 31 .neq 27 30),c2 32 24 31,I 33 32,aq 33 false (aF 34 3 1 2),aq 33 false (aw 35 1 34),aq 33 false (cb 36 35),aq 33 false (aF 37 3 1 3),aq 33 false (aw 38 1 37),aq 33 false (cb 39 38),aq 33 false (bh 40 .neq 36 39),c2 41 33 40,I 42 41,aq 42 false (aF 43 4 1 2),aq 42 false (aw 44 1 43),aq 42 false (cb 45 44),aq 42 false (aF 46 4 1 3),aq 42 false (aw 47 1 46),aq 42 false (cb 48 47),aq 42 false (bh 49 .neq 45 48),c2 50 42 49] (aS 50 (aa [be 4 false] .ret) .skip)) (.seq (aa [aF 51 2 1 2,aw 52 1 51,cb 53 52,bS 54 0] (fe 55 54 53 (.seq (.block 1 (aa [I 56 54,cj 57 1 52 54,aw 58 1 57,I 5 56,I 6 58] (aa [I 59 6,aF 60 2 1 3,aw 61 1 60,I 62 5,cj 63 1 61 62,aw 64 1 63,b4 65 155 59 64,aT 66 .neq 65 0] (aS 66 (aa [be 4 false] .ret) .skip)))) (.region [aT 67 .add 54 1,I 54 67])))) (.seq (aa [aF 68 3 1 2,aw 69 1 68,cb 70 69,bS 71 0] (.block 2 (.loop (aa [bh 72 .lss 71 70] (.seq (aS 72 .skip (.exit 2)) (.seq (.block 3 (aa [I 73 71,cj 74 2 69 71,a7 75 2 74,cU (.alloc 8 none (.agg [.int .i64 0,.int .i64 0])),I 7 73,bM 2 8 75] (.seq (.drawn true 100 [a7 76 2 8,aF 77 3 1 3,aw 78 1 77,I 79 7,cj 80 2 78 79,a7 81 2 80,b7 82 (.beq true (some [false,false]) (.t 76) (.t 81))]) (aS 82 (aa [be 4 false] .ret) .skip)))) (.region [aT 83 .add 71 1,I 71 83]))))))) (.seq (aa [aF 84 4 1 2,aw 85 1 84,cb 86 85,bS 87 0] (.block 4 (.loop (aa [bh 88 .lss 87 86] (.seq (aS 88 .skip (.exit 4)) (.seq (.block 5 (aa [I 89 87,cj 90 2 85 87,a7 91 2 90,cU (.alloc 10 none (.agg [.int .i64 0,.str []])),I 9 89,bM 2 10 91] (.seq (.drawn true 100 [a7 92 2 10,aF 93 4 1 3,aw 94 1 93,I 95 9,cj 96 2 94 95,a7 97 2 96,b7 98 (.beq true (some [false,true]) (.t 92) (.t 97))]) (aS 98 (aa [be 4 false] .ret) .skip)))) (.region [aT 99 .add 87 1,I 87 99]))))))) (aa [be 4 true] .ret))))))
@[simp] def Gd:List bu:=[.tmp 4]
def GK:List (Nat×dA):=[
 (3,⟨1,8,.int .i64,.int .i64 0⟩),
 (9,⟨1,16,.str,.str []⟩),
 (46,⟨1,24,.slice 113,.slice 5 .nil []⟩),
 (47,⟨1,24,.slice 46,.slice 1 .nil []⟩),
 (48,⟨1,24,.slice 98,.slice 2 .nil []⟩),
 (49,⟨1,24,.slice 100,.slice 2 .nil []⟩),
 (51,⟨5,104,.struct [(0,3),(1,46),(2,47),(3,48),(4,49)],.agg [.int .i64 0,.slice 5 .nil [],.slice 1 .nil [],.slice 2 .nil [],.slice 2 .nil []]⟩),
 (98,⟨2,16,.struct [(0,3),(1,3)],.agg [.int .i64 0,.int .i64 0]⟩),
 (100,⟨2,24,.struct [(0,3),(1,9)],.agg [.int .i64 0,.str []]⟩)]
theorem nM:fL al GK=true:=by kernel_rfl
theorem xU:b0 GK u4 ajs 1 Tryz.f27=true:=by kernel_rfl
theorem wV:al.funcs[(27:Nat)]? =some Tryz.f27:=Tryz.func27
theorem KS:b0 GK D5 uE 1 Tryz.f81=true:=by kernel_rfl
theorem Iw:al.funcs[(81:Nat)]? =some Tryz.f81:=Tryz.func81
theorem zU:b0 GK wR Gd 2 Tryz.f82=true:=by kernel_rfl
theorem yQ:al.funcs[(82:Nat)]? =some Tryz.f82:=Tryz.func82
noncomputable def CZ(s:dN):ah:= .tuple [(Al s).e,.bool (nf s).isSome]
@[simp] theorem aoX(S:aH→Prop)(s:dN):aB S (CZ s)=True:=by simp[CZ,aB,aI]
theorem alz{k:List bJ}(ab:iW k)(v:Int):bF al 151 [.slice 2 .no (k.map bJ.e),(T.var v).e,.int .i64 2] (ou k (ka k (.var v) 2)):=WC k (by have:=sK ab;omega) ab.asc (.var v) 2
theorem WA{b y:List ar}(ad:eD b)(aL:eD y):bF al 153 [.slice 5 .no (b.map ar.e),.slice 5 .no (y.map ar.e)] (cR (gy b y)):=alu ad aL
theorem Wz{b x:List ar}(ad:eD b)(ae:eD x):bF al 152 [.slice 5 .no (b.map ar.e),cR x] (gg (mgu b (hD x))):=als b x ad.sol ad.fits ae.len
def Kh(a:List bj):ah:=match a with
 |[]=>.slice 2 .nil []
 |_::_=>.slice 2 (.own (.loc 5)) (a.map bj.e)
def Kg(a:List bj):List (aH×fK):=match a with
 |[]=>[]
 |_::_=>[(.loc 5,⟨a.length,100,2,none⟩)]
def Kf(a:List bj):Nat:=match a with
 |[]=>3
 |_::_=>6
@[simp] theorem apl:Kh []= .slice 2 .nil []:=rfl
@[simp] theorem apk(x:bj)(a:List bj):Kh (x::a)= .slice 2 (.own (.loc 5)) (x.e::a.map bj.e):=rfl
@[simp] theorem apj:Kg []=[]:=rfl
@[simp] theorem api(x:bj)(a:List bj):Kg (x::a)=[(.loc 5,⟨a.length+1,100,2,none⟩)]:=rfl
@[simp] theorem aph:Kf []=3:=rfl
@[simp] theorem apg(x:bj)(a:List bj):Kf (x::a)=6:=rfl
set_option maxRecDepth 4000 in
theorem alD{s:dN}(h:uP s){G:List (List dz)}(mM:G.length≤687000)(a1:nJ G s.m):bF al 81 [s.e] (CZ s):=by
 unfold CZ;generalize di:nf s=O;generalize dB:Al s=SS;have kp:=Mo h.b h.k;have kq:=Mp h.b h.m mM a1;have nD:=fun k=>Gf (acc:=[]) (a:=k) h.b h.k.at' ⟨by simp,by simp⟩;have pV:=fun m=>Gg (acc:=[]) (a:=m) h.b h.m.at' ⟨by simp,by simp[hH]⟩;have mK:=fun m=>Lt (acc:=[]) (a:=m) (s:=s.b) a1 (fun x ae=>by simp at ae);have ad:=h.b;have aP:=h.d;clear h a1;unfold nf at di;unfold Al at dB;obtain⟨n,b,d,fb,m0⟩:=s;simp only at kp kq nD pV mK ad aP di dB;have e5:=ad.len;simp only[dN.e];generalize fW b fb []=ok at kp di dB nD;generalize fX b m0 []=om at kq di dB pV mK;cases ok with
 |none=>
  simp only at di dB;subst di;subst dB;simp only[fQ]at kp;simp only[ja]at kq;clear nD pV mK;refine bm nM Iw KS fun aQ=>?_;unfold D5;simp;(with_reducible repeat' first|refine aj ?_|refine aD kp ?_|refine aE kp ?_|refine aD kq ?_|refine aE kq ?_|simp);all_goals simp[bz,uE,aW,aX,aV]
  all_goals simp[qO,dN.e]
 |some k=>
  simp only at di dB;cases om with
  |none=>
   simp only at di dB;subst di;subst dB;simp only[fQ]at kp;simp only[ja]at kq;clear nD pV mK;refine bm nM Iw KS fun aQ=>?_;unfold D5;simp;(with_reducible repeat' first|refine aj ?_|refine aD kp ?_|refine aE kp ?_|refine aD kq ?_|refine aE kq ?_|simp);all_goals simp[bz,uE,aW,aX,aV]
   all_goals simp[qO,dN.e]
  |some m=>
   simp only at di dB;have vm:=nD k rfl;have xm:=pV m rfl;have xf:=mK m rfl;have ll:m.length≤68719470000:=by have:=Cn xm xf;omega
   have zf:=Tp (k:=k) xm;have y9:=V5 (k:=k) xf;simp only[fQ,j9,po]at kp;simp only[ja,j9,po]at kq;clear nD pV mK;refine bm nM Iw KS fun aQ=>?_;unfold D5;have xb:d.length≤68719476736:=by simp[ez,dZ,eo,lim]at aQ;omega
   clear aQ;simp;(with_reducible repeat' first|refine aj ?_|refine aD kp ?_|refine aE kp ?_|refine aD kq ?_|refine aE kq ?_|simp);refine iA (fun i (a:List bj)=>⟨[(1,.ptr (.loc 0) 0),(2,.ptr (.loc 1) 0),(4,.slice 2 .no (k.map bJ.e)),(8,.ptr (.loc 2) 0),(48,.slice 2 .no (m.map bj.e)),(49,.int .i64 m.length),(50,.int .i64 i)],[(.loc 0,[.int .i64 n,.slice 5 .no (b.map ar.e),.slice 1 .no (d.map cR),.slice 2 .no (fb.map bJ.e),.slice 2 .no (m0.map bj.e)]),(.loc 1,[.int .i64 0,.slice 5 .nil [],.slice 1 .nil [],.slice 2 .nil [],.slice 2 .nil []]),(.loc 2,[.int .i64 n,.slice 5 .no (b.map ar.e),.slice 1 .nil [],.slice 2 .no (k.map bJ.e),Kh a])],Kg a,Kf a,[]⟩) m.length (sI k m) [] bW (by simp[sI]) (fun a af _=>?_) (fun i a hi af _=>?_);rotate_left
   ·obtain⟨x,ae,cE⟩:=dP hi;have q9:a.length≤68719470000:=by
     have:a.length≤(m.take i).length:=by rw[af];exact List.length_filter_le _ _
     simp at this;omega
    have aA:=af.step ae;have mn:=alz vm x.v;have br:(ka k (.var x.v) 2).isSome=ks k x:=Xr vm x.v;simp only[ou,br]at mn;clear br;generalize (ka k (.var x.v) 2).getD k=kz at mn;cases aJ:ks k x
    ·rw[aJ]at aA mn;simp only[gS,if_false]at aA;clear af ae aJ;cases a with
     |nil=>simp[hi,cE];(with_reducible repeat' first|refine aj ?_|refine aD (jU _) ?_|refine aE (jU _) ?_|refine aD mn ?_|refine aE mn ?_|simp[hi,cE]);all_goals exact bO.rng [] hi aA bW
     |cons y ys=>simp[hi,cE];(with_reducible repeat' first|refine aj ?_|refine aD (jU _) ?_|refine aE (jU _) ?_|refine aD mn ?_|refine aE mn ?_|simp[hi,cE]);all_goals exact bO.rng (y::ys) hi aA bW
    ·rw[aJ]at aA mn;simp only[if_true]at aA;clear af ae aJ;cases a with
     |nil=>
      simp[hi,cE];(with_reducible repeat' first|refine aj ?_|refine aD (jU _) ?_|refine aE (jU _) ?_|refine aD mn ?_|refine aE mn ?_|simp[hi,cE]);all_goals first|(refine⟨by unfold lim;omega,?_⟩)|skip
      all_goals(with_reducible repeat' first|refine aj ?_|simp)
      all_goals exact bO.rng [x] hi aA bW
     |cons y ys=>
      simp only[p6]at q9;simp[hi,cE];(with_reducible repeat' first|refine aj ?_|refine aD (jU _) ?_|refine aE (jU _) ?_|refine aD mn ?_|refine aE mn ?_|simp[hi,cE]);all_goals first|(refine⟨by unfold lim;omega,?_⟩)|skip
      all_goals(with_reducible repeat' first|refine aj ?_|simp)
      all_goals exact bO.rng (y::ys++[x]) hi aA ⟨by simp[fresh,aI,aB,cn,inObs,Pv.look,zB],er (by simp[fresh,aI,aB,cn,inObs,Pv.look,zB]),et (by simp[fresh,aI,aB,dW,inObs,Pv.look,zB]),by simp⟩
   rw[sI,pk]at af;rw[←af]at zf y9 di dB;clear af xm xf;cases a with
   |nil=>
    simp;(with_reducible repeat' first|refine aj ?_|simp);refine iA (fun i (L:List (List ar))=>⟨[(1,.ptr (.loc 0) 0),(2,.ptr (.loc 1) 0),(8,.ptr (.loc 2) 0),(13,.slice 1 (.own (.loc 3)) (L.map cR)),(72,.slice 1 .no (d.map cR)),(73,.int .i64 d.length),(74,.int .i64 i)],[(.loc 0,[.int .i64 n,.slice 5 .no (b.map ar.e),.slice 1 .no (d.map cR),.slice 2 .no (fb.map bJ.e),.slice 2 .no (m0.map bj.e)]),(.loc 1,[.int .i64 0,.slice 5 .nil [],.slice 1 .nil [],.slice 2 .nil [],.slice 2 .nil []]),(.loc 2,[.int .i64 n,.slice 5 .no (b.map ar.e),.slice 1 .nil [],.slice 2 .no (k.map bJ.e),.slice 2 .nil []])],[(.loc 3,⟨L.length,46,1,none⟩)],3+1,[]⟩) d.length (pM b k [] d) [] bW ⟨by simp,by simp,by simp⟩ (fun L af _=>?_) (fun i L hi af _=>?_)
    ·have ju:=af.fin;have vg:=af.2.1;rw[ju]at di dB;simp only at di dB;have mV:=WB L vg;clear af ju vg;generalize kH L=M at mV di dB;subst dB;by_cases lb:M.length≤30
     ·have n2:(M.length:Int)≤30:=by omega
      rw[if_pos lb]at di;subst di;simp;(with_reducible repeat' first|refine aj ?_|refine aD mV ?_|refine aE mV ?_|simp[lb,n2]);all_goals simp[bz,uE,aW,aX,aV]
      all_goals try simp[dN.e,lb,n2]
      all_goals first|exact⟨_,rfl,rfl⟩|skip
     ·have n2:¬(M.length:Int)≤30:=by omega
      rw[if_neg lb]at di;subst di;simp;(with_reducible repeat' first|refine aj ?_|refine aD mV ?_|refine aE mV ?_|simp[lb,n2]);all_goals simp[bz,uE,aW,aX,aV]
      all_goals try simp[dN.e,lb,n2]
      all_goals first|exact⟨_,rfl,rfl⟩|skip
    ·obtain⟨x,ae,cE⟩:=dP hi;have h7:=aP x (dL ae);have Q5:=af.1;have hN:=Wz ad h7;simp only[gg]at hN;cases hu:mgu b (hD x)with
     |none=>have aA:=af.skip ae fun r=>J8 hu;rw[hu]at hN;simp only[nm,l0]at hN;clear af ae di dB;exact fV
     |some y=>
      have iU:=ad.mgu (A7 h7) hu;rw[hu]at hN;simp only[j9,po]at hN;have dk:=Mo iU vm;have dV:=Mp iU zf mM y9;have hO:=WA ad iU;simp only[fQ]at dk;simp only[ja,List.map_nil,hf]at dV;by_cases jv:fW y k []=none∨fX y [] []=none
      ·have aA:=af.skip ae fun r=>J7 hu jv;clear af ae di dB hu hO;rcases jv with e|e
       ·rw[e]at dk;simp only[nm,l0]at dk;exact fV
       ·rw[e]at dV;simp only[nm,l0]at dV;generalize (fW y k []).isSome=a6 at dk;cases a6
        ·exact fV
        ·exact fV
      ·have ak:(fW y k []).isSome=true:=by cases e:fW y k []with|none=>exact absurd (.inl e) jv|some _=>rfl
       have aC:(fX y [] []).isSome=true:=by cases e:fX y [] []with|none=>exact absurd (.inr e) jv|some _=>rfl
       rw[ak]at dk;rw[aC]at dV;by_cases cF:gy b y=[]
       ·have ag:=af.stop ae fun r=>J6 hu jv cF;rw[ag]at di dB;simp only at di dB;subst di;subst dB;rw[cF]at hO;simp only[cR,List.map_nil]at hO;clear af ae hu jv;simp[hi,cE];(with_reducible repeat' first|refine aj ?_|refine aD hN ?_|refine aE hN ?_|refine aD dk ?_|refine aE dk ?_|refine aD dV ?_|refine aE dV ?_|refine aD hO ?_|refine aE hO ?_|simp[hi,cE]);all_goals simp[bz,uE,aW,aX,aV]
        all_goals try simp[qO,dN.e]
       ·have aA:=af.snoc ae (FG (b:=b) iU) fun r=>J9 hu jv cF;have vo:¬((gy b y).length:Int)=0:=by have:(gy b y).length≠0:=fun h=>cF (List.length_eq_zero_iff.1 h);omega
        have vp:(((gy b y).length:Int)==0)=false:=by simp[cF]
        clear af ae hu jv di dB;generalize gy b y=z at hO aA vo vp cF;simp only[cR]at hO;simp[hi,cE];(with_reducible repeat' first|refine aj ?_|refine aD hN ?_|refine aE hN ?_|refine aD dk ?_|refine aE dk ?_|refine aD dV ?_|refine aE dV ?_|refine aD hO ?_|refine aE hO ?_|simp[hi,cE,vo,vp,cF]);all_goals first|(refine⟨by unfold lim;omega,?_⟩)|skip
        all_goals(with_reducible repeat' first|refine aj ?_|simp)
        all_goals exact bO.rng (L++[z]) hi aA ⟨by simp[fresh,aI,aB,cn,inObs,Pv.look,ug,cR],er (by simp[fresh,aI,aB,cn,inObs,Pv.look,ug,cR]),et (by simp[fresh,aI,aB,dW,inObs,Pv.look,ug,cR]),by simp⟩
   |cons Dt Du=>
    simp;(with_reducible repeat' first|refine aj ?_|simp);refine iA (fun i (L:List (List ar))=>⟨[(1,.ptr (.loc 0) 0),(2,.ptr (.loc 1) 0),(8,.ptr (.loc 2) 0),(13,.slice 1 (.own (.loc 6)) (L.map cR)),(72,.slice 1 .no (d.map cR)),(73,.int .i64 d.length),(74,.int .i64 i)],[(.loc 0,[.int .i64 n,.slice 5 .no (b.map ar.e),.slice 1 .no (d.map cR),.slice 2 .no (fb.map bJ.e),.slice 2 .no (m0.map bj.e)]),(.loc 1,[.int .i64 0,.slice 5 .nil [],.slice 1 .nil [],.slice 2 .nil [],.slice 2 .nil []]),(.loc 2,[.int .i64 n,.slice 5 .no (b.map ar.e),.slice 1 .nil [],.slice 2 .no (k.map bJ.e),.slice 2 (.own (.loc 5)) (Dt.e::Du.map bj.e)])],[(.loc 6,⟨L.length,46,1,none⟩)],6+1,[]⟩) d.length (pM b k (Dt::Du) d) [] bW ⟨by simp,by simp,by simp⟩ (fun L af _=>?_) (fun i L hi af _=>?_)
    ·have ju:=af.fin;have vg:=af.2.1;rw[ju]at di dB;simp only at di dB;have mV:=WB L vg;clear af ju vg;generalize kH L=M at mV di dB;subst dB;by_cases lb:M.length≤30
     ·have n2:(M.length:Int)≤30:=by omega
      rw[if_pos lb]at di;subst di;simp;(with_reducible repeat' first|refine aj ?_|refine aD mV ?_|refine aE mV ?_|simp[lb,n2]);all_goals simp[bz,uE,aW,aX,aV]
      all_goals try simp[dN.e,lb,n2]
      all_goals first|exact⟨_,rfl,rfl⟩|skip
     ·have n2:¬(M.length:Int)≤30:=by omega
      rw[if_neg lb]at di;subst di;simp;(with_reducible repeat' first|refine aj ?_|refine aD mV ?_|refine aE mV ?_|simp[lb,n2]);all_goals simp[bz,uE,aW,aX,aV]
      all_goals try simp[dN.e,lb,n2]
      all_goals first|exact⟨_,rfl,rfl⟩|skip
    ·obtain⟨x,ae,cE⟩:=dP hi;have h7:=aP x (dL ae);have Q5:=af.1;have hN:=Wz ad h7;simp only[gg]at hN;cases hu:mgu b (hD x)with
     |none=>have aA:=af.skip ae fun r=>J8 hu;rw[hu]at hN;simp only[nm,l0]at hN;clear af ae di dB;exact fV
     |some y=>
      have iU:=ad.mgu (A7 h7) hu;rw[hu]at hN;simp only[j9,po]at hN;have dk:=Mo iU vm;have dV:=Mp iU zf mM y9;have hO:=WA ad iU;simp only[fQ]at dk;simp only[ja,List.map_nil,hf]at dV;by_cases jv:fW y k []=none∨fX y (Dt::Du) []=none
      ·have aA:=af.skip ae fun r=>J7 hu jv;clear af ae di dB hu hO;rcases jv with e|e
       ·rw[e]at dk;simp only[nm,l0]at dk;exact fV
       ·rw[e]at dV;simp only[nm,l0]at dV;generalize (fW y k []).isSome=a6 at dk;cases a6
        ·exact fV
        ·exact fV
      ·have ak:(fW y k []).isSome=true:=by cases e:fW y k []with|none=>exact absurd (.inl e) jv|some _=>rfl
       have aC:(fX y (Dt::Du) []).isSome=true:=by cases e:fX y (Dt::Du) []with|none=>exact absurd (.inr e) jv|some _=>rfl
       rw[ak]at dk;rw[aC]at dV;by_cases cF:gy b y=[]
       ·have ag:=af.stop ae fun r=>J6 hu jv cF;rw[ag]at di dB;simp only at di dB;subst di;subst dB;rw[cF]at hO;simp only[cR,List.map_nil]at hO;clear af ae hu jv;simp[hi,cE];(with_reducible repeat' first|refine aj ?_|refine aD hN ?_|refine aE hN ?_|refine aD dk ?_|refine aE dk ?_|refine aD dV ?_|refine aE dV ?_|refine aD hO ?_|refine aE hO ?_|simp[hi,cE]);all_goals simp[bz,uE,aW,aX,aV]
        all_goals try simp[qO,dN.e]
       ·have aA:=af.snoc ae (FG (b:=b) iU) fun r=>J9 hu jv cF;have vo:¬((gy b y).length:Int)=0:=by have:(gy b y).length≠0:=fun h=>cF (List.length_eq_zero_iff.1 h);omega
        have vp:(((gy b y).length:Int)==0)=false:=by simp[cF]
        clear af ae hu jv di dB;generalize gy b y=z at hO aA vo vp cF;simp only[cR]at hO;simp[hi,cE];(with_reducible repeat' first|refine aj ?_|refine aD hN ?_|refine aE hN ?_|refine aD dk ?_|refine aE dk ?_|refine aD dV ?_|refine aE dV ?_|refine aD hO ?_|refine aE hO ?_|simp[hi,cE,vo,vp,cF]);all_goals first|(refine⟨by unfold lim;omega,?_⟩)|skip
        all_goals(with_reducible repeat' first|refine aj ?_|simp)
        all_goals exact bO.rng (L++[z]) hi aA ⟨by simp[fresh,aI,aB,cn,inObs,Pv.look,ug,cR],er (by simp[fresh,aI,aB,cn,inObs,Pv.look,ug,cR]),et (by simp[fresh,aI,aB,dW,inObs,Pv.look,ug,cR]),by simp⟩
theorem aly(x y:List ar):bF al 155 [cR x,cR y] (.int .i64 (eu x y)):=Mn x y
theorem alF{x y:List ar}(h:¬x=y):(eu x y !=0)=true:=by have:¬eu x y=0:=fun e=>h ((lz.zero _ _).1 e);simp[this]
set_option maxRecDepth 4000 in
theorem alC(a c:dN):bF al 82 [a.e,c.e] (.bool (decide (a=c))):=by
 obtain⟨n,b,d,k,m⟩:=a;obtain⟨n',b1,cc,bK,hn⟩:=c;generalize bf:decide ((⟨n,b,d,k,m⟩:dN)=⟨n',b1,cc,bK,hn⟩)=R;simp only[dN.mk.injEq,dN.e]at bf⊢;by_cases a6:n=n';rotate_left
 ·have fO:R=false:=by rw[←bf];simp[a6]
  have sW:(n !=n')=true:=by simp[a6]
  rw[fO];clear bf fO;refine bm nM yQ zU fun aQ=>?_;unfold wR;exact b5
 subst a6;have fy:=Mn b b1;by_cases bE:b=b1;rotate_left
 ·have fO:R=false:=by rw[←bf];simp[bE]
  have ot:¬eu b b1=0:=fun h=>bE ((lz.zero _ _).1 h);have Uo:(eu b b1 !=0)=true:=by simp[ot]
  rw[fO];clear bf fO;refine bm nM yQ zU fun aQ=>?_;unfold wR;exact b5
 subst bE;rw[(lz.zero b b).2 rfl]at fy;by_cases bX:d.length=cc.length;rotate_left
 ·have fO:R=false:=by rw[←bf];simp only[gz];rintro⟨_,_,rfl,_⟩;exact bX rfl
  have rL:((d.length:Int) !=cc.length)=true:=by simp;omega
  rw[fO];clear bf fO;refine bm nM yQ zU fun aQ=>?_;unfold wR;exact b5
 by_cases cX:k.length=bK.length;rotate_left
 ·have fO:R=false:=by rw[←bf];simp only[gz];rintro⟨_,_,_,rfl,_⟩;exact cX rfl
  have aiy:((k.length:Int) !=bK.length)=true:=by simp;omega
  rw[fO];clear bf fO;refine bm nM yQ zU fun aQ=>?_;unfold wR;exact b5
 by_cases c8:m.length=hn.length;rotate_left
 ·have fO:R=false:=by rw[←bf];simp only[gz];rintro⟨_,_,_,_,rfl⟩;exact c8 rfl
  have aiz:((m.length:Int) !=hn.length)=true:=by simp;omega
  rw[fO];clear bf fO;refine bm nM yQ zU fun aQ=>?_;unfold wR;exact b5
 have xq:d≠cc→R=false:=fun h=>by rw[←bf];simp[h]
 have xr:k≠bK→R=false:=fun h=>by rw[←bf];simp[h]
 have Jk:m≠hn→R=false:=fun h=>by rw[←bf];simp[h]
 refine bm nM yQ zU fun aQ=>?_;unfold wR;have adI:cc.length≤68719476736:=by simp[ez,dZ,eo,lim]at aQ;omega
 have adJ:bK.length≤68719476736:=by simp[ez,dZ,eo,lim]at aQ;omega
 have adK:hn.length≤68719476736:=by simp[ez,dZ,eo,lim]at aQ;omega
 clear aQ;simp;(with_reducible repeat' first|refine aj ?_|refine aD fy ?_|refine aE fy ?_|simp[bX,cX,c8]);have cB:=xq;refine dI [2,3,52,53] (fun i (_:Unit)=>[(54,.int .i64 i)]) cc.length (qX d cc) () bW (fun k ab=>by omega) (fun _ af _=>?_) (fun i _ hi af _=>?_);rotate_left
 ·obtain⟨x,ae⟩:∃x,d[i]? =some x:=⟨_,cf (by omega)⟩;obtain⟨y,aL⟩:∃y,cc[i]? =some y:=⟨_,cf hi⟩;have ga:i<d.length:=by omega
  have cE:∀h,(d[i]'h)=x:=fun h=>by rw[cf ga]at ae;exact fj ae
  have eG:∀h,(cc[i]'h)=y:=fun h=>by rw[cf hi]at aL;exact fj aL
  have fy:=aly x y;by_cases q:x=y
  ·subst q;have aA:=af.step ae aL;rw[(lz.zero _ _).2 rfl]at fy;clear af ae aL;simp[hi,ga,cE,eG,-ic];(with_reducible repeat' first|refine aj ?_|refine aD fy ?_|refine aE fy ?_|simp[cE,eG,hi,ga,-ic]);all_goals exact bO.rng () hi aA bW
  ·rw[cB (fun h=>q (by rw[h]at ae;rw[ae]at aL;exact fj aL))];have ot:=alF q;clear af ae aL;simp[hi,ga,cE,eG,-ic];(with_reducible repeat' first|refine aj ?_|refine aD fy ?_|refine aE fy ?_|simp[cE,eG,hi,ga,q,ot,-ic]);all_goals simp[bz,Gd,aW,aX,aV]
 have dv:=af.fin bX;subst dv;clear af cB xq bX;simp;(with_reducible repeat' first|refine aj ?_|simp[cX]);have cB:=xr;refine dI [2,3,69,70] (fun i (_:Unit)=>[(71,.int .i64 i)]) bK.length (qX k bK) () bW (fun k ab=>by omega) (fun _ af _=>?_) (fun i _ hi af _=>?_);rotate_left
 ·obtain⟨x,ae⟩:∃x,k[i]? =some x:=⟨_,cf (by omega)⟩;obtain⟨y,aL⟩:∃y,bK[i]? =some y:=⟨_,cf hi⟩;have ga:i<k.length:=by omega
  have cE:∀h,(k[i]'h)=x:=fun h=>by rw[cf ga]at ae;exact fj ae
  have eG:∀h,(bK[i]'h)=y:=fun h=>by rw[cf hi]at aL;exact fj aL
  have fy:=True.intro;by_cases q:x=y
  ·subst q;have aA:=af.step ae aL;skip;clear af ae aL;simp[hi,ga,cE,eG,-ic];(with_reducible repeat' first|refine aj ?_|refine aD fy ?_|refine aE fy ?_|simp[cE,eG,hi,ga,-ic]);all_goals exact bO.rng () hi aA bW
  ·rw[cB (fun h=>q (by rw[h]at ae;rw[ae]at aL;exact fj aL))];skip;clear af ae aL;simp[hi,ga,cE,eG,-ic];(with_reducible repeat' first|refine aj ?_|refine aD fy ?_|refine aE fy ?_|simp[cE,eG,hi,ga,q,q,-ic]);all_goals simp[bz,Gd,aW,aX,aV]
 have dv:=af.fin cX;subst dv;clear af cB xr cX;simp;(with_reducible repeat' first|refine aj ?_|simp[c8]);have cB:=Jk;refine dI [3,85,86] (fun i (_:Unit)=>[(87,.int .i64 i)]) hn.length (qX m hn) () bW (fun k ab=>by omega) (fun _ af _=>?_) (fun i _ hi af _=>?_);rotate_left
 ·obtain⟨x,ae⟩:∃x,m[i]? =some x:=⟨_,cf (by omega)⟩;obtain⟨y,aL⟩:∃y,hn[i]? =some y:=⟨_,cf hi⟩;have ga:i<m.length:=by omega
  have cE:∀h,(m[i]'h)=x:=fun h=>by rw[cf ga]at ae;exact fj ae
  have eG:∀h,(hn[i]'h)=y:=fun h=>by rw[cf hi]at aL;exact fj aL
  have fy:=True.intro;by_cases q:x=y
  ·subst q;have aA:=af.step ae aL;skip;clear af ae aL;simp[hi,ga,cE,eG,-ic];(with_reducible repeat' first|refine aj ?_|refine aD fy ?_|refine aE fy ?_|simp[cE,eG,hi,ga,-ic]);all_goals exact bO.rng () hi aA bW
  ·rw[cB (fun h=>q (by rw[h]at ae;rw[ae]at aL;exact fj aL))];skip;clear af ae aL;simp[hi,ga,cE,eG,-ic];(with_reducible repeat' first|refine aj ?_|refine aD fy ?_|refine aE fy ?_|simp[cE,eG,hi,ga,q,q,-ic]);all_goals simp[bz,Gd,aW,aX,aV]
 have dv:=af.fin c8;subst dv;have fO:R=true:=by rw[←bf];simp
 rw[fO];exact b5
@[simp] theorem aku:∀l:List (List cI),cZ (l.map fT)=l.map fT
 |[]=>rfl
 |x::xs=>by simp[cZ,aku xs]
theorem VX:∀{d:List (List cI)},d.all gC=true→∃D:List (List ar),d=(D.map fun x=>x.map ar.b)∧∀x∈D,eD x
 |[],_=>⟨[],rfl,by simp⟩
 |x::d,h=>by
  rw[List.all_cons,cC]at h;obtain⟨D,J,U⟩:=VX h.2;obtain⟨s,ak,aC⟩:=wj.1 (qH.1 h.1);refine⟨s::D,by rw[J,ak];rfl,fun y aL=>?_⟩;rcases fY.1 aL with rfl|aL
  ·exact aC
  ·exact U y aL
open Classical in
set_option maxRecDepth 4000 in
theorem alO(r:h2)(gm:ik r.m→s8 r.m):bF al 27 [r.e] (.bool (decide (rT r))):=by
 generalize bf:decide (rT r)=R;have cB:¬Lr r→R=false:=fun h=>by rw[←bf,gz];exact fun ca=>h ca.raw
 obtain⟨n,b,d,k,m⟩:=r;simp only[h2.e]at gm⊢;have Fg:=dr n 0 100000;by_cases g1:0≤n∧n≤100000;rotate_left
 ·rw[cB fun h=>g1 h.n];rw[iq g1]at Fg;refine bm nM wV xU fun aQ=>?_;unfold u4;exact b5
 rw[hA g1]at Fg;have mm:bF al 76 [.slice 5 .no (b.map cI.e)] (.bool (gC b)):=Mr b;cases g3:gC b
 ·rw[cB fun h=>by obtain⟨s,ak,aC,_⟩:=h.b;have:=qH.2 (wj.2 ⟨s,ak,aC⟩);simp only at this;rw[g3]at this;cases this]
  rw[g3]at mm;refine bm nM wV xU fun aQ=>?_;unfold u4;exact b5
 rw[g3]at mm;obtain⟨s,rfl,ag⟩:=wj.1 (qH.1 g3);clear g3;rw[rD]at mm⊢;have gd:=alx d;cases ve:d.all gC
 ·rw[cB fun h=>by
   have:d.all gC=true:=by rw[gh];intro x ae;obtain⟨s,ak,aC,_⟩:=h.d x ae;exact qH.2 (wj.2 ⟨s,ak,aC⟩)
   rw[ve]at this;cases this]
  rw[ve]at gd;refine bm nM wV xU fun aQ=>?_;unfold u4;exact b5
 rw[ve]at gd;obtain⟨D,rfl,tM⟩:=VX ve;clear ve;rw[H3]at gd⊢;have dk:=alM k;by_cases g4:iW k;rotate_left
 ·rw[cB fun h=>g4 h.k];rw[iq g4]at dk;refine bm nM wV xU fun aQ=>?_;unfold u4;exact b5
 rw[hA g4]at dk;have dV:=alN m;by_cases g5:ik m;rotate_left
 ·rw[cB fun h=>g5 h.m];rw[iq g5]at dV;refine bm nM wV xU fun aQ=>?_;unfold u4;exact b5
 rw[hA g5]at dV;have kY:=WD s n;cases g6:s.all (kC n)
 ·rw[cB fun h=>by obtain⟨ai,ak,_,bk⟩:=h.b;have dc:=ps ak;subst dc;rw[u0.2 bk]at g6;cases g6]
  rw[g6]at kY;refine bm nM wV xU fun aQ=>?_;unfold u4;exact b5
 rw[g6]at kY;have cL:=u0.1 g6;clear g6;have BI:=gm g5;have ll:=BI.len g5;refine bm nM wV xU fun aQ=>?_;unfold u4;have xb:D.length≤68719476736:=by simp[ez,dZ,eo,lim]at aQ;omega
 have hE:=sK g4;clear aQ gm;simp;(with_reducible repeat' first|refine aj ?_|refine aD Fg ?_|refine aE Fg ?_|refine aD mm ?_|refine aE mm ?_|refine aD gd ?_|refine aE gd ?_|refine aD dk ?_|refine aE dk ?_|refine aD dV ?_|refine aE dV ?_|refine aD kY ?_|refine aE kY ?_|simp);refine dI [1,48,49] (fun i (_:Unit)=>[(50,.int .i64 i)]) D.length (rA (fun x=>pt x n) D) () bW (fun k b ab=>by omega) (fun _ af _=>?_) (fun i _ hi af _=>?_);rotate_left
 ·obtain⟨y,aL,eG⟩:=dP hi;have JG:=dL aL;have mn:bF al 80 [cR y,.int .i64 n] (.bool (y.all (kC n))):=WD y n;cases q5:y.all (kC n)
  ·rw[cB fun h=>by obtain⟨ai,ak,_,bk⟩:=h.d _ (List.mem_map_of_mem JG);have dc:=ps ak;subst dc;rw[u0.2 bk]at q5;cases q5]
   rw[q5]at mn;clear af aL JG;exact b5
  ·rw[q5]at mn;have aA:=af.step aL (u0.1 q5);clear af aL JG;exact fV
 have IT:=af.fin;clear af;simp;(with_reducible repeat' first|refine aj ?_|simp);refine dI [1,61,62] (fun i (_:Unit)=>[(63,.int .i64 i)]) k.length (rA (fun x=>x.v<n) k) () bW (fun k b ab=>by omega) (fun _ af _=>?_) (fun i _ hi af _=>?_);rotate_left
 ·obtain⟨x,ae,cE⟩:=dP hi;by_cases l9:x.v<n
  ·have w4:¬n≤x.v:=by omega
   have aA:=af.step ae l9;clear af ae;exact fV
  ·have w4:n≤x.v:=by omega
   rw[cB fun h=>l9 (h.kb x (dL ae))];clear af ae;exact b5
 have xg:=af.fin;clear af;simp;(with_reducible repeat' first|refine aj ?_|simp);have pF:=xg;refine dI [1,74,75] (fun i (_:Unit)=>[(76,.int .i64 i)]) m.length (rA (fun x=>x.v<n) m) () bW (fun k b ab=>by omega) (fun _ af _=>?_) (fun i _ hi af _=>?_);rotate_left
 ·obtain⟨x,ae,cE⟩:=dP hi;by_cases l9:x.v<n
  ·have w4:¬n≤x.v:=by omega
   have aA:=af.step ae l9;clear af ae;exact fV
  ·have w4:n≤x.v:=by omega
   rw[cB fun h=>l9 (h.mb x (dL ae))];clear af ae;exact b5
 have xg:=af.fin;clear af;simp;(with_reducible repeat' first|refine aj ?_|simp);have o0:=xg;have da:uP ⟨n,s,D,k,m⟩:=⟨g1,ag,tM,g4,g5,cL,IT,pF,o0⟩;have tV:=VQ da;obtain⟨G,mM,a1⟩:=BI;have dE:=alD da mM a1;have kV:rT ⟨n,s.map ar.b,D.map fun x=>x.map ar.b,k,m⟩↔nf ⟨n,s,D,k,m⟩=some ⟨n,s,D,k,m⟩:=tV;clear tV cB;simp only[CZ]at dE;generalize IW:Al ⟨n,s,D,k,m⟩=t at dE;have vG:=alC t ⟨n,s,D,k,m⟩;cases lq:nf ⟨n,s,D,k,m⟩with
 |none=>
  rw[lq]at dE kV;have fO:R=false:=by rw[←bf,gz,kV];simp
  rw[fO];obtain⟨ta,V7,V8,s9,tm⟩:=t;simp only[l0,dN.e]at dE;clear bf fO kV IW vG;exact b5
 |some dJ=>
  have ak:=ajW lq;rw[IW]at ak;subst ak;rw[lq]at dE kV;have fO:R=decide (t=⟨n,s,D,k,m⟩):=by rw[←bf,decide_eq_decide,kV];simp
  rw[fO];simp only[po]at dE;simp only[dN.e]at dE vG;clear bf fO kV lq;generalize decide (t=(⟨n,s,D,k,m⟩:dN))=Q at vG⊢;clear IW;obtain⟨ta,V7,V8,s9,tm⟩:=t;simp only at dE vG;exact b5
def pw(d:c0 (c0 eM)):ah:=d.e 1 js
def pP(k:c0 bJ):ah:=k.e 2 bJ.e
def pT(m:c0 hg):ah:=m.e 2 hg.e
@[simp] theorem aoM(S:aH→Prop)(d:c0 (c0 eM)):aB S (pw d)=True:=by cases d<;>simp[pw,c0.e,aB]
@[simp] theorem arn(d:c0 (c0 eM)):dq (pw d)=pw d:=by
 cases d with
 |l l=>
  have:∀l:List (c0 eM),cZ (l.map js)=l.map js:=by
   intro l;induction l with
   |nil=>rfl
   |cons x l bU=>simp[cZ,bU]
  simp[pw,c0.e,dq,this]
 |b=>simp[pw,c0.e,dq]
@[simp] theorem aqS(d:c0 (c0 eM)):eb (pw d)=true:=by cases d<;>rfl
@[simp] theorem amT(d:c0 (c0 eM)):cells (pw d)=[pw d]:=by cases d<;>rfl
@[simp] theorem aoT(S:aH→Prop)(d:c0 bJ):aB S (pP d)=True:=by cases d<;>simp[pP,c0.e,aB]
@[simp] theorem arv(d:c0 bJ):dq (pP d)=pP d:=by
 cases d with
 |l l=>
  have:∀l:List bJ,cZ (l.map bJ.e)=l.map bJ.e:=by
   intro l;induction l with
   |nil=>rfl
   |cons x l bU=>simp[cZ,bU]
  simp[pP,c0.e,dq,this]
 |b=>simp[pP,c0.e,dq]
@[simp] theorem aq2(d:c0 bJ):eb (pP d)=true:=by cases d<;>rfl
@[simp] theorem am4(d:c0 bJ):cells (pP d)=[pP d]:=by cases d<;>rfl
@[simp] theorem aoV(S:aH→Prop)(d:c0 hg):aB S (pT d)=True:=by cases d<;>simp[pT,c0.e,aB]
@[simp] theorem arx(d:c0 hg):dq (pT d)=pT d:=by
 cases d with
 |l l=>
  have:∀l:List hg,cZ (l.map hg.e)=l.map hg.e:=by
   intro l;induction l with
   |nil=>rfl
   |cons x l bU=>simp[cZ,bU]
  simp[pT,c0.e,dq,this]
 |b=>simp[pT,c0.e,dq]
@[simp] theorem aq4(d:c0 hg):eb (pT d)=true:=by cases d<;>rfl
@[simp] theorem am6(d:c0 hg):cells (pT d)=[pT d]:=by cases d<;>rfl
structure nU where
 n:Int
 b:c0 eM
 d:c0 (c0 eM)
 k:c0 bJ
 m:c0 hg
def nU.e(r:nU):ah:= .agg [.int .i64 r.n,js r.b,pw r.d,pP r.k,pT r.m]
structure nU.wf (r:nU):Prop where
 b:th r.b
 d:r.d.wf th
 k:∀p n cap,r.k= .b p n cap→mx n
 m:r.m.wf fun x=>x.s.wf
def s6(r:nU)(m:Int):Int:=if hy r.b m<0 then-1 else if gI hy r.d (hy r.b m)<0 then-1 else if oA r.k (gI hy r.d (hy r.b m))<0 then-1 else if gI lD r.m (oA r.k (gI hy r.d (hy r.b m)))<0 then-1 else gI lD r.m (oA r.k (gI hy r.d (hy r.b m)))
def yz(b:cI):eM:=⟨b.v,yh b.t⟩
def xN(b:bj):hg:=⟨b.v,.s b.s⟩
theorem XU(b:cI):(yz b).e=b.e:=by have h:=Wa b.t;rw[cw.e_eq,u7]at h;simp only[ah.agg.injEq,p4,and_true,true_and]at h;obtain⟨J,U,ao,ba⟩:=h;show ah.agg [_,_,_,_,_]=ah.agg [_,_,_,_,_];rw[show(yz b).t=yh b.t from rfl,J,U,ao,ba];rfl
theorem af2(b:bj):(xN b).e=b.e:=rfl
theorem XV(l:List cI):(l.map yz).map eM.e=l.map cI.e:=by rw[List.map_map];exact List.map_congr_left fun b _=>XU b
theorem af3(l:List bj):(l.map xN).map hg.e=l.map bj.e:=by rw[List.map_map];exact List.map_congr_left fun b _=>af2 b
def qT(d:List cI):c0 eM:= .l (d.map yz)
theorem H4(d:List cI):js (qT d)=fT d:=by simp only[js,qT,c0.e,fT,XV]
theorem YK(l:List (List cI)):(l.map qT).map js=l.map fT:=by rw[List.map_map];exact List.map_congr_left fun b _=>H4 b
def h2.h(r:h2):nU:=⟨r.n,qT r.b,.l (r.d.map qT),.l r.k,.l (r.m.map xN)⟩
theorem akp(r:h2):r.h.e=r.e:=by simp only[nU.e,h2.h,h2.e,H4,pw,pP,pT,c0.e,YK,af3];rfl
theorem aky(x:eM)(m:Int)(hw:x.t.wf)(J:m≤1048576)(bA:0≤m)(h:0≤rV x m):∃y,x=yz y:=by obtain⟨u,hu⟩:=V3 x.t m hw J bA h;exact⟨⟨x.v,u⟩,by cases x;simp only[yz]at hu⊢;rw[hu]⟩
theorem akz(x:hg)(m:Int)(hw:x.s.wf)(J:m≤1048576)(bA:0≤m)(h:0≤lD x m):∃y,x=xN y:=by
 unfold lD at h;split at h
 ·omega
 ·obtain⟨l,av⟩:=gT.small hw J h;exact⟨⟨x.v,l⟩,by cases x;simp only[xN]at av⊢;rw[av]⟩
theorem L5(x:c0 eM)(m:Int)(hw:th x)(J:m≤1048576)(bA:0≤m)(h:0≤hy x m):∃y,x=qT y:=L6 (P:=fun b:eM=>b.t.wf) L4 aky x m (show c0.wf (fun b:eM=>b.t.wf) x from hw) J bA h
theorem V4:∀(l:List bj) (m:Int),(∀x∈l,1≤x.s.length)→0≤jQ lD (l.map xN) m→(l.length:Int)≤m
 |[],m,_,h=>by simpa[jQ]using h
 |x::l,m,J,h=>by
  simp only[hf,jQ]at h;split at h
  ·omega
  ·rename_i U;have ao:=V4 l _ (fun y aL=>J y (by simp[aL])) h;have ba:=J x (by simp);have b2:lD (xN x) m=if m-x.s.length<0 then-1 else m-x.s.length:=rfl
   rw[b2]at U ao;split at ao
   ·rename_i c7;rw[if_pos c7]at U;omega
   ·simp only[p6];omega
theorem agc{s:List dz}(h:jA s=true):1≤s.length:=by
 cases s with
 |nil=>simp[jA]at h
 |cons c s=>simp
theorem akC{r:nU}(hw:r.wf)(h:0≤s6 r 1048576):∃u:h2,r=u.h∧(ik u.m→s8 u.m):=by
 obtain⟨n,b,d,k,l⟩:=r;obtain⟨ec,ds,oD,my⟩:=hw;simp only at ec ds oD my;unfold s6 at h;simp only at h;have ch:=uR b 1048576 (by omega);split at h
 ·omega
 have b6:=uS uR d (hy b 1048576) (by omega);split at h
 ·omega
 have fC:=L7 k (gI hy d (hy b 1048576)) (by omega);split at h
 ·omega
 split at h
 ·omega
 obtain⟨b1,rfl⟩:=L5 b 1048576 ec (by omega) (by omega) (by omega);obtain⟨cc,rfl⟩:=L6 uR (P:=th) L5 d (hy (qT b1) 1048576) ds (by omega) (by omega) (by omega);generalize gI hy (.l (cc.map qT)) (hy (qT b1) 1048576)=bE at*;cases k with
 |b=>simp only[oA]at*;omega
 |l bK=>
  generalize oA (.l bK) bE=bX at*;have nW:=uS De l bX (by omega);obtain⟨hn,rfl⟩:=L6 De (P:=fun x=>x.s.wf) akz l bX my (by omega) (by omega) (by omega);refine⟨⟨n,b1,cc,bK,hn⟩,rfl,fun hm=>s8.of ?_⟩;simp only at hm⊢;simp only[gI,oB]at h;split at h
  ·omega
  ·have:=V4 hn _ (fun x ae=>agc (hm.at' x ae).2) h;simp only[List.length_map]at this;omega
theorem alY(r:nU)(hw:r.wf)(m:Int)(bA:0≤m)(J:m≤1048576):bF al 26 [r.e,.int .i64 m] (.int .i64 (s6 r m)):=by
 generalize bf:s6 r m=R;obtain⟨n,b,d,k,l⟩:=r;obtain⟨ec,ds,oD,my⟩:=hw;simp only at ec ds oD my;unfold s6 at bf;simp only[nU.e]at bf⊢;have aU:=Mt b ec m bA J;have ch:=uR b m bA;generalize hy b m=a6 at bf aU ch;have bG:_→bF al 72 [pw d,.int .i64 a6] (.int .i64 (gI hy d a6)):=fun h=>alV d (fun p n c e=>by subst e;exact ds) (fun xs e x ae m bA J=>by subst e;exact Mt x (ds x ae) m bA J) a6 h (by omega);have b6:=fun h=>uS uR d a6 h;generalize gI hy d a6=bE at bf bG b6;have b9:_→_→bF al 73 [pP k,.int .i64 bE] (.int .i64 (oA k bE)):=fun h ca=>al0 k oD bE h ca;have fC:=fun h=>L7 k bE h;generalize oA k bE=bX at bf b9 fC;have eV:_→_→bF al 74 [pT l,.int .i64 bX] (.int .i64 (gI lD l bX)):=fun h ca=>alX l (fun p n c e=>by subst e;exact my) (fun xs e x ae m bA J=>by subst e;exact alW x (my x ae) m bA J) bX h ca;have nW:=fun h=>uS De l bX h;generalize gI lD l bX=cX at bf eV nW;clear ec ds oD my;by_cases g1:a6<0
 ·rw[if_pos g1]at bf;subst bf;clear bG b9 eV;refine bm fA Ba CB fun aQ=>?_;unfold yD;exact b5
 rw[if_neg g1]at bf;have bG:=bG (by omega);have b6:=b6 (by omega);by_cases g2:bE<0
 ·rw[if_pos g2]at bf;subst bf;clear b9 eV;refine bm fA Ba CB fun aQ=>?_;unfold yD;exact b5
 rw[if_neg g2]at bf;have b9:=b9 (by omega) (by omega);have fC:=fC (by omega);by_cases g3:bX<0
 ·rw[if_pos g3]at bf;subst bf;clear eV;refine bm fA Ba CB fun aQ=>?_;unfold yD;exact b5
 rw[if_neg g3]at bf;have eV:=eV (by omega) (by omega);have nW:=nW (by omega);by_cases g4:cX<0
 ·rw[if_pos g4]at bf;subst bf;refine bm fA Ba CB fun aQ=>?_;unfold yD;exact b5
 rw[if_neg g4]at bf;subst bf;refine bm fA Ba CB fun aQ=>?_;unfold yD;exact b5
theorem al7(r:h2):bF al 28 [r.e] r.e:=by obtain⟨n,b,d,k,l⟩:=r;simp only[h2.e];have aU:bF al 35 [.slice 5 .no (b.map cI.e)] (.slice 5 .no (b.map cI.e)):=Mu b;have bG:=al4 d fun x _=>Mu x;have b9:=amb k fun x _=>ama x;have eV:=al6 l fun x _=>al5 x;refine bm fA aaQ ahm fun aQ=>?_;unfold OB;exact b5
theorem alb(r:h2):bF al 30 [r.e,r.e] (.bool true):=by obtain⟨n,b,d,k,l⟩:=r;simp only[h2.e];have aU:bF al 37 [.slice 5 .no (b.map cI.e),.slice 5 .no (b.map cI.e)] (.bool true):=Mm b;have bG:=ak8 d fun x _=>Mm x;have b9:=alf k fun x _=>ale x;have eV:=ala l fun x _=>ak9 x;refine bm fA aaG ahc fun aQ=>?_;unfold Oo;exact b5
end Go.Proofs.YtahlgcidhnjlbaaGreat
namespace Go.Proofs.YtahlgcidhnjlbaaGreat
open Go Go.Pv Go.ChangeShapes Go.WideShapes Go.ChangeAt Go.RowKit Go.Deep
section
variable {H:Type} {enc:fR×Value→H} {W:World} {spare:Nat→Bool} {held:Bool} {cs:List Value} {x:DataW H×List MemPlace} {fuel:Nat}
theorem A4:al.cellsOf 3=1:=by kernel_rfl
theorem PI:al.cellsOf 9=1:=by kernel_rfl
theorem HT:al.cellsOf 24=4:=by kernel_rfl
theorem X7:al.cellsOf 22=1:=by kernel_rfl
theorem PE:al.cellsOf 111=5:=by kernel_rfl
theorem PF:al.cellsOf 38=1:=by kernel_rfl
theorem X3:al.cellsOf 39=1:=by kernel_rfl
theorem PG:al.cellsOf 158=2:=by kernel_rfl
theorem X4:al.cellsOf 40=1:=by kernel_rfl
theorem PH:al.cellsOf 146=2:=by kernel_rfl
theorem X5:al.cellsOf 41=1:=by kernel_rfl
theorem X6:al.cellsOf 43=5:=by kernel_rfl
theorem xA(h:iO enc al W 0 spare held fuel 3 cs=some x):∃(n:Int) (v:Value),cs=[v]∧uG W (.int .i64 n) v:=by obtain⟨n,rfl,_,_⟩:=DataW.trod_int Tryz.underlying3 h;exact⟨n,_,rfl,by simp only[a8],rfl,rfl⟩
theorem VS(h:iO enc al W 0 spare held fuel 9 cs=some x):∃(s:gT) (v:Value),s.wf∧cs=[v]∧uG W s.e v:=by
 obtain⟨s,rfl,_,hm⟩:=DataW.trod_string Tryz.underlying9 h;by_cases ag:lim<s.size
 ·exact⟨.b s,_,⟨ag,by unfold maxLen at hm;omega⟩,rfl,by simp only[gT.e,a8],rfl,rfl⟩
 ·refine⟨.s s.data.toList,_,trivial,rfl,?_,rfl,rfl⟩;simp only[gT.e,a8];refine⟨by simp,?_⟩;have:s.data.toList.length=s.size:=rfl;omega
theorem Tc{α:Type}:∀{cs:List α},cs.length=2→∃a b,cs=[a,b]
 |[a,b],_=>⟨a,b,rfl⟩
theorem aft{α:Type}:∀{cs:List α},cs.length=4→∃a b c d,cs=[a,b,c,d]
 |[a,b,c,d],_=>⟨a,b,c,d,rfl⟩
theorem Td{α:Type}:∀{cs:List α},cs.length=5→∃a b c d e,cs=[a,b,c,d,e]
 |[a,b,c,d,e],_=>⟨a,b,c,d,e,rfl⟩
theorem akE:∀(fuel:Nat) (cs:List Value) (x:DataW H×List MemPlace),iO enc al W 0 spare held fuel 24 cs=some x→∃t:cw,t.wf∧c5 W (qk W) [.int .i64 t.kind,.int .i64 t.num,t.name.e,t.args.e 4 cw.e] cs:=by
 intro fuel;induction fuel using Nat.strongRecOn with
 |ind fuel bU=>
  intro cs x h;obtain⟨xs,n,rfl,_,hlen,j1,aJ⟩:=DataW.trod_struct Tryz.underlying24 h;rw[HT]at hlen;obtain⟨iz,bH,cl,c9,rfl⟩:=aft hlen;have E2:xs.length=4:=j1;have f0:iO enc al W 0 spare held n 3 (([iz,bH,cl,c9].drop 0).take (al.cellsOf 3))=xs[0]?:=aJ 0 _ rfl;have f1:iO enc al W 0 spare held n 3 (([iz,bH,cl,c9].drop 1).take (al.cellsOf 3))=xs[1]?:=aJ 1 _ rfl;have f2:iO enc al W 0 spare held n 9 (([iz,bH,cl,c9].drop 2).take (al.cellsOf 9))=xs[2]?:=aJ 2 _ rfl;have f3:iO enc al W 0 spare held n 22 (([iz,bH,cl,c9].drop 3).take (al.cellsOf 22))=xs[3]?:=aJ 3 _ rfl;simp only[A4,PI,X7,nj,lG]at f0 f1 f2 f3;rw[cf (by omega)]at f0 f1 f2 f3;obtain⟨k,v0,fl,r0⟩:=xA f0;obtain⟨m,v1,ak,dH⟩:=xA f1;obtain⟨s,v2,ds,aC,e8⟩:=VS f2;obtain⟨l,oD,v3,bk,kI⟩:=C8 cw.e cw.wf Tryz.underlying22 HT (by omega) (fun n' cs' GW aA ca=>by obtain⟨t,t1,t2⟩:=bU n' (by omega) cs' GW ca;exact⟨t,t1,by rw[cw.e_eq];exact CT t2⟩) f3
  simp only[p4,and_true]at fl ak aC bk;subst fl ak aC bk;cases l with
  |l a=>
   refine⟨.mk k m s a,?_,?_⟩
   ·simp only[cw.wf,cw.wfL_iff];exact⟨ds,oD⟩
   ·simp only[c5,cw.kind,cw.num,cw.name,cw.args];exact⟨_,_,rfl,⟨r0.1,r0.2.1⟩,_,_,rfl,⟨dH.1,dH.2.1⟩,_,_,rfl,⟨e8.1,e8.2.1⟩,_,_,rfl,⟨kI.1,kI.2.1⟩,rfl⟩
  |b p aZ c=>
   refine⟨.big k m s p aZ c,?_,?_⟩
   ·simp only[cw.wf];exact⟨ds,oD⟩
   ·simp only[c5,cw.kind,cw.num,cw.name,cw.args];exact⟨_,_,rfl,⟨r0.1,r0.2.1⟩,_,_,rfl,⟨dH.1,dH.2.1⟩,_,_,rfl,⟨e8.1,e8.2.1⟩,_,_,rfl,⟨kI.1,kI.2.1⟩,rfl⟩
theorem XM(h:iO enc al W 0 spare held fuel 111 cs=some x):∃b:eM,b.t.wf∧reads W b.e cs:=by obtain⟨xs,n,rfl,_,hlen,j1,aJ⟩:=DataW.trod_struct Tryz.underlying111 h;rw[PE]at hlen;obtain⟨iz,bH,cl,c9,ig,rfl⟩:=Td hlen;have E2:xs.length=2:=j1;have f0:iO enc al W 0 spare held n 3 (([iz,bH,cl,c9,ig].drop 0).take (al.cellsOf 3))=xs[0]?:=aJ 0 _ rfl;have f1:iO enc al W 0 spare held n 24 (([iz,bH,cl,c9,ig].drop 1).take (al.cellsOf 24))=xs[1]?:=aJ 1 _ rfl;simp only[A4,HT,nj,lG]at f0 f1;rw[cf (by omega)]at f0 f1;obtain⟨k,v0,fl,r0⟩:=xA f0;obtain⟨t,ec,dH⟩:=akE _ _ _ f1;simp only[p4,and_true]at fl;subst fl;refine⟨⟨k,t⟩,ec,CT ?_⟩;rw[c5];exact⟨_,_,rfl,⟨r0.1,r0.2.1⟩,dH⟩
theorem afk(h:iO enc al W 0 spare held fuel 158 cs=some x):∃b:bJ,True∧reads W b.e cs:=by obtain⟨xs,n,rfl,_,hlen,j1,aJ⟩:=DataW.trod_struct Tryz.underlying158 h;rw[PG]at hlen;obtain⟨iz,bH,rfl⟩:=Tc hlen;have E2:xs.length=2:=j1;have f0:iO enc al W 0 spare held n 3 (([iz,bH].drop 0).take (al.cellsOf 3))=xs[0]?:=aJ 0 _ rfl;have f1:iO enc al W 0 spare held n 3 (([iz,bH].drop 1).take (al.cellsOf 3))=xs[1]?:=aJ 1 _ rfl;simp only[A4,nj,lG]at f0 f1;rw[cf (by omega)]at f0 f1;obtain⟨k,v0,fl,r0⟩:=xA f0;obtain⟨m,v1,ak,dH⟩:=xA f1;simp only[p4,and_true]at fl ak;subst fl ak;refine⟨⟨k,m⟩,trivial,CT ?_⟩;simp only[c5];exact⟨_,_,rfl,⟨r0.1,r0.2.1⟩,_,_,rfl,⟨dH.1,dH.2.1⟩,rfl⟩
theorem afE(h:iO enc al W 0 spare held fuel 146 cs=some x):∃b:hg,b.s.wf∧reads W b.e cs:=by obtain⟨xs,n,rfl,_,hlen,j1,aJ⟩:=DataW.trod_struct Tryz.underlying146 h;rw[PH]at hlen;obtain⟨iz,bH,rfl⟩:=Tc hlen;have E2:xs.length=2:=j1;have f0:iO enc al W 0 spare held n 3 (([iz,bH].drop 0).take (al.cellsOf 3))=xs[0]?:=aJ 0 _ rfl;have f1:iO enc al W 0 spare held n 9 (([iz,bH].drop 1).take (al.cellsOf 9))=xs[1]?:=aJ 1 _ rfl;simp only[A4,PI,nj,lG]at f0 f1;rw[cf (by omega)]at f0 f1;obtain⟨k,v0,fl,r0⟩:=xA f0;obtain⟨s,v1,ec,ak,dH⟩:=VS f1;simp only[p4,and_true]at fl ak;subst fl ak;refine⟨⟨k,s⟩,ec,CT ?_⟩;simp only[c5];exact⟨_,_,rfl,⟨r0.1,r0.2.1⟩,_,_,rfl,⟨dH.1,dH.2.1⟩,rfl⟩
theorem Hq(h:iO enc al W 0 spare held fuel 38 cs=some x):∃d:c0 eM,th d∧∃v,cs=[v]∧uG W (js d) v:=C8 eM.e (fun b=>b.t.wf) Tryz.underlying38 PE (by omega) (fun _ _ _ _ ca=>XM ca) h
theorem XO(h:iO enc al W 0 spare held fuel 39 cs=some x):∃d:c0 (c0 eM),d.wf th∧∃v,cs=[v]∧uG W (pw d) v:=C8 js th Tryz.underlying39 PF (by omega) (fun _ _ _ _ ca=>by obtain⟨d,w,v,rfl,r⟩:=Hq ca;exact⟨d,w,r.reads⟩) h
theorem afn(h:iO enc al W 0 spare held fuel 40 cs=some x):∃d:c0 bJ,d.wf (fun _=>True)∧∃v,cs=[v]∧uG W (pP d) v:=C8 bJ.e (fun _=>True) Tryz.underlying40 PG (by omega) (fun _ _ _ _ ca=>afk ca) h
theorem afF(h:iO enc al W 0 spare held fuel 41 cs=some x):∃d:c0 hg,d.wf (fun b=>b.s.wf)∧∃v,cs=[v]∧uG W (pT d) v:=C8 hg.e (fun b=>b.s.wf) Tryz.underlying41 PH (by omega) (fun _ _ _ _ ca=>afE ca) h
theorem ako(h:iO enc al W 0 spare held fuel 43 cs=some x):∃r:nU,r.wf∧reads W r.e cs:=by obtain⟨xs,n,rfl,_,hlen,j1,aJ⟩:=DataW.trod_struct Tryz.underlying43 h;rw[X6]at hlen;obtain⟨iz,bH,cl,c9,ig,rfl⟩:=Td hlen;have E2:xs.length=5:=j1;have f0:iO enc al W 0 spare held n 3 (([iz,bH,cl,c9,ig].drop 0).take (al.cellsOf 3))=xs[0]?:=aJ 0 _ rfl;have f1:iO enc al W 0 spare held n 38 (([iz,bH,cl,c9,ig].drop 1).take (al.cellsOf 38))=xs[1]?:=aJ 1 _ rfl;have f2:iO enc al W 0 spare held n 39 (([iz,bH,cl,c9,ig].drop 2).take (al.cellsOf 39))=xs[2]?:=aJ 2 _ rfl;have f3:iO enc al W 0 spare held n 40 (([iz,bH,cl,c9,ig].drop 3).take (al.cellsOf 40))=xs[3]?:=aJ 3 _ rfl;have f4:iO enc al W 0 spare held n 41 (([iz,bH,cl,c9,ig].drop 4).take (al.cellsOf 41))=xs[4]?:=aJ 4 _ rfl;simp only[A4,PF,X3,X4,X5,nj,lG]at f0 f1 f2 f3 f4;rw[cf (by omega)]at f0 f1 f2 f3 f4;obtain⟨k,v0,fl,r0⟩:=xA f0;obtain⟨d1,ec,v1,ak,dH⟩:=Hq f1;obtain⟨d2,ds,v2,aC,e8⟩:=XO f2;obtain⟨d3,oD,v3,bk,kI⟩:=afn f3;obtain⟨d4,my,v4,dc,Up⟩:=afF f4;simp only[p4,and_true]at fl ak aC bk dc;subst fl ak aC bk dc;refine⟨⟨k,d1,d2,d3,d4⟩,⟨ec,ds,fun p n c e=>by simp only at e;subst e;exact oD,my⟩,CT ?_⟩;simp only[c5];exact⟨_,_,rfl,⟨r0.1,r0.2.1⟩,_,_,rfl,⟨dH.1,dH.2.1⟩,_,_,rfl,⟨e8.1,e8.2.1⟩,_,_,rfl,⟨kI.1,kI.2.1⟩,_,_,rfl,⟨Up.1,Up.2.1⟩,rfl⟩
end
end Go.Proofs.YtahlgcidhnjlbaaGreat
namespace Go.Proofs.YtahlgcidhnjlbaaGreat
open Go Go.Pv Go.ChangeShapes Go.WideShapes Go.ChangeAt Go.RowKit
theorem ajH:ownKnob al.godebug=none:=by kernel_rfl
theorem Vx:laidOutB al=true:=by kernel_rfl
theorem XY{f:FuncId}{fn:Func}(qp:al.funcs[f]? =some fn)(YQ:∀args w,(callFunc f args).run al w= .ok (.enter f args) w){w:World}{ν:bd}{args:List ah}{bc:Array Value}(h:bF al f args (.bool true))(aO:∀k j b,¬ν.tr k j b)(bg:∀b o,ν.A b o→b<w.heap.size)(ad:∀k,ν.bx k=none)(ax:∀k,ν.ow k=none)(aK:cP w ν args bc.toList):
  Calls al f bc w fun e w'=>e= .returned (.bool true)∧Below w.heap.size w w':=by
 have a1:Pv.Good (fw ν ⟨[],[]⟩) w ν [] []:=⟨bg,fun k cs ab=>by simp[Pv.look]at ab,fun k bK bl J=>by simp[Pv.look]at J,fun g o ab=>by simp[Pv.look]at ab,fun g fa n n' v v' bl J=>by simp[Pv.look]at J,fun g k n v bl J=>by simp[Pv.look]at J,fun k=>.inl (ad k),fun _ _ k j=>aO k j _⟩;rcases h w ν bc a1 (fun k=>⟨fun _=>ad k,fun _=>ax k,aO k⟩) aK with⟨_,au⟩|⟨v,w',au,_⟩
 ·refine au.mono ?_;rintro e w' ⟨v,r,ai,bo,rfl,⟨rfl,rfl⟩,mf,_,_,_,lN⟩;simp only[a8]at mf;subst mf;refine⟨rfl,lN.os,lN.tape,lN.output,lN.size,fun k ab=>lN.block k ab ?_⟩;simp[fw,Pv.look]
 ·rw[YQ]at au;cases au
theorem YT{W:World}{b o:Nat}(h:(qk W).A b o):b<W.heap.size:=by
 obtain⟨u,hu⟩:=h;rcases Nat.lt_or_ge b W.heap.size with h|h
 ·exact h
 ·simp[World.cell?,Array.getElem?_eq_none h]at hu
theorem ajE{W:World}{cv:List ah}{us:Array Value}(h:reads W (.agg cv) us.toList):a8 W (qk W) (.agg cv) (.agg us):=by
 obtain⟨v,J,U,_⟩:=h;have ao:=U;simp only[a8]at ao;obtain⟨ws,rfl,_⟩:=ao;have:ws=us:=by
  have:ws.toList=us.toList:=by simpa[pe]using J
  exact Array.toList_inj.1 this
 rw[←this];exact U
theorem akn{H:Type}{enc:fR×Value→H}{W:World}{spare:Nat→Bool}{held:Bool}{us:Array Value}{x:DataW H×List MemPlace}{fuel:Nat}(h:iO enc al W 0 spare held fuel 43 us.toList=some x):∃r:nU,r.wf∧a8 W (qk W) r.e (.agg us):=by obtain⟨r,aK,aee⟩:=ako h;exact⟨r,aK,ajE aee⟩
theorem XN{H:Type}{enc:fR×Value→H}{W:World}{spare:Nat→Bool}{held:Bool}{v:Value}{x:DataW H×List MemPlace}{fuel:Nat}(h:iO enc al W 0 spare held fuel 38 [v]=some x):∃d:c0 eM,th d∧a8 W (qk W) (js d) v:=by obtain⟨d,aP,u,e,aK⟩:=Hq h;cases e;exact⟨d,aP,aK.1⟩
end Go.Proofs.YtahlgcidhnjlbaaGreat
