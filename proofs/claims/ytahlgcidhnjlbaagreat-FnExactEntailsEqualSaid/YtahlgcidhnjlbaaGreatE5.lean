/- From a contract to the row. -/
import Derived.Test.YtahlgcidhnjlbaaGreatProg
import Derived.ProofKit
import Derived.Carry
import Derived.WalkKit
import Derived.Test.YtahlgcidhnjlbaaGreatE4
set_option linter.all false
set_option maxHeartbeats 4000000
open Bool renaming and_eq_true→cz,eq_iff_iff→p5,false_eq_true→gP,not_eq_true'→rW,or_eq_true→mB
open Go renaming TypeId→fT
open Go.DataW renaming trod→iN
open Go.IntWalk renaming i64_in→oO
open Go.Op renaming bytesLess→hl
open Go.Proofs.Tryz renaming prog→al
open Go.Value renaming cells→po
open List renaming all_eq_true→jc,cons_append→bT,drop→nm,drop_eq_getElem_cons→la,getElem?_eq_getElem→cf,getElem?_eq_none→p7,getElem?_eq_some_iff→fN,getElem_of_mem→nn,length_cons→p8,length_drop→r1,map_cons→gG,map_nil→mC,mem_append→jU,mem_cons→fU,mem_filter→mD,mem_map→h8,mem_of_getElem?→eK,nil_append→bY,pairwise_cons→mE,pairwise_iff_getElem→pt,take→lJ,take_length→nP,take_of_length_le→hn
open List.Pairwise renaming filter→XF
open List.cons renaming injEq→p6
open Nat renaming le_refl→eR,le_trans→jV
open Option renaming getD_none→kB,getD_some→j9,isSome_none→jW,isSome_some→pz
open Option.some renaming inj→fh,injEq→dG
open _root_ renaming False→eo,UInt8→dB,beq_iff_eq→dL,decide_eq_false→jn,decide_eq_false_iff_not→hE,decide_eq_true→jd,decide_eq_true_eq→fE
namespace Go.Proofs.YtahlgcidhnjlbaaGreat
open Go Go.Pv
def Py:C:=(aa [cx 1 0,be 2 false] (aa [aW 3 4 1,dn 4 123 [.t 3,(gd 5000)],aU 5 .leq 4 5000,I 6 5,aq 6 true (aW 7 4 1),aq 6 true (cD 8 124 7),dz 9 6 8,I 2 9] .ret))
@[simp] def aj4:List bt:=[.tmp 2]
def yB:C:=(aa [cx 2 0,ej 4 1] (.seq (aa [aF 7 0 1 2,ax 8 1 7,aU 9 .eql 8 1] (aT 9 (aa [I 10 1,aF 11 1 1 2,ax 12 1 11,b7 13 126 10 12,I 4 13] .ret) .skip)) (.seq (aa [aF 14 3 1 2,ax 15 1 14,cn 16 15,bV 17 0] (fw 18 17 16 (.seq (.block 1 (aa [ct 19 4 15 17,aW 20 4 19,dk 6 dO,bK 4 6 20] (.region [aW 21 4 6,I 22 1,b7 23 58 21 22,I 1 23]))) (.region [aU 24 .add 17 1,I 17 24])))) (aa [I 25 1,I 4 25] .ret))))
@[simp] def Ag:List bt:=[.tmp 4]
def PI:C:=(aa [cx 3 1,dk 4 dO,be 5 false] (aa [I 7 0,aW 8 4 3,b7 9 127 7 8,dk 6 dO,bK 4 6 9] (.seq (.drawn true 13 [aW 10 4 6,aW 11 4 6,cD 12 128 11,bK 4 4 10,I 5 12]) .ret)))
@[simp] def VH:List bt:=[.cell 4 true 4,.tmp 5]
def Pz:C:=(aa [be 6 false] (aa [I 7 0,I 8 1,bo 9 .geq 7 8,I 10 9,b3 10 true 11 0,b3 10 true 12 2,aq 10 true (bo 13 .leq 11 12),dz 14 10 13,I 6 14] .ret))
@[simp] def VC:List bt:=[.tmp 6]
def H6:C:=(aa [be 2 false] (.seq (aa [I 9 0,cD 10 145 9,cu 11 10] (aT 11 (aa [be 2 false] .ret) .skip)) (.seq (aa [I 12 0,cn 13 12,bV 14 0] (fw 15 14 13 (.seq (.block 1 (aa [ct 16 5 12 14,aW 17 5 16,dk 4 jA,bK 5 4 17] (.seq (aa [hD 18 1 4 4,aF 19 0 1 18,ax 20 1 19,aU 21 .eql 20 1,I 22 21,aq 22 true (hD 23 1 4 4),aq 22 true (aF 24 1 1 23),aq 22 true (ax 25 1 24),aq 22 true (aF 26 0 1 4),aq 22 true (ax 27 1 26),aq 22 true (bo 28 .geq 25 27),dz 29 22 28] (aT 29 (aa [be 2 false] .ret) .skip)) (aa [hD 30 1 4 4,aW 31 4 30,dn 32 58 [.t 31,(.c (.slice 1 .nil []))],cn 33 32,bV 34 0] (.block 2 (.loop (aa [bo 35 .lss 34 33] (.seq (aT 35 .skip (.exit 2)) (.seq (.block 3 (aa [ct 36 1 32 34,ax 37 1 36,I 6 37] (aa [I 39 0,I 40 6,b7 41 146 39 40,I 38 41,cC 42 0 38,cC 43 1 38,dk 7 dO,bK 4 7 42,I 8 43] (aa [I 44 8] (aT 44 (aa [be 2 false] .ret) .skip))))) (.region [aU 45 .add 34 1,I 34 45])))))))))) (.region [aU 46 .add 14 1,I 14 46])))) (aa [be 2 true] .ret))))
@[simp] def LB:List bt:=[.tmp 2]
def Pt:C:=(aa [be 2 false] (.seq (aa [bV 3 0] (.block 0 (.loop (.seq (aa [I 5 3,I 6 0,b5 7 (.slen (.t 6)),bo 8 .lss 5 7] (aT 8 .skip (.exit 0))) (.seq (.block 1 (aa [I 11 0,I 12 3,b5 13 (.sidx (.t 11) (.t 12)),b5 14 (.bin .geq false (.t 13) (.c (.int .u8 97))),I 15 14,b3 15 true 16 0,b3 15 true 17 3,aq 15 true (b5 18 (.sidx (.t 16) (.t 17))),aq 15 true (b5 19 (.bin .leq false (.t 18) (.c (.int .u8 122)))),dz 20 15 19,I 4 20] (aa [I 21 4,cu 22 21,I 23 22,b3 23 true 24 3,aq 23 true (aU 25 .eql 24 0),b3 23 true 26 25,b3 26 false 27 0,b3 26 false 28 3,aq 26 false (b5 29 (.sidx (.t 27) (.t 28))),aq 26 false (b5 30 (.bin .neq false (.t 29) (.c (.int .u8 45)))),b3 26 false 31 30,b3 31 true 32 0,b3 31 true 33 3,aq 31 true (b5 34 (.sidx (.t 32) (.t 33))),aq 31 true (b5 35 (.conv .i64 (.t 34))),aq 31 true (dn 36 75 [.t 35,(gd 48),(gd 57)]),aq 31 true (cu 37 36),aq 26 false (dz 38 31 37),aq 23 true (c2 39 26 38),dz 40 23 39] (aT 40 (aa [be 2 false] .ret) .skip)))) (.region [I 9 3,aU 10 .add 9 1,I 3 10])))))) (aa [I 41 0,b5 42 (.slen (.t 41)),dn 43 75 [.t 42,(gd 1),(gd 12)],I 2 43] .ret)))
@[simp] def Ad:List bt:=[.tmp 2]
def PA:C:=(aa [cx 2 0,bV 4 0] (aa [bV 5 1] (.seq (aa [aF 8 3 1 2,ax 9 1 8,cn 10 9,bV 11 0] (fw 12 11 10 (.seq (.block 1 (aa [ct 13 4 9 11,aW 14 4 13,dk 7 dO,bK 4 7 14] (.seq (aa [I 15 5,I 16 1,bo 17 .gtr 15 16] (aT 17 (aa [I 18 5,I 4 18] .ret) .skip)) (.region [I 19 5,aW 20 4 7,I 21 1,I 22 5,bo 23 .sub 21 22,b7 24 123 20 23,bo 25 .add 19 24,I 5 25])))) (.region [aU 26 .add 11 1,I 11 26])))) (aa [I 27 5,I 4 27] .ret))))
@[simp] def LC:List bt:=[.tmp 4]
def lN:C:=(aa [cx 1 0,be 2 false] (.seq (aa [aF 3 0 1 1,ax 4 1 3,aU 5 .neq 4 1,I 6 5,aq 6 true (aF 7 0 1 1),aq 6 true (ax 8 1 7),aq 6 true (aU 9 .neq 8 3),dz 10 6 9,I 11 10,aq 11 true (aF 12 1 1 1),aq 11 true (ax 13 1 12),aq 11 true (aU 14 .neq 13 0),dz 15 11 14,I 16 15,aq 16 false (aF 17 0 1 1),aq 16 false (ax 18 1 17),aq 16 false (aU 19 .neq 18 2),b3 16 false 20 19,aq 20 true (aF 21 2 1 1),aq 20 true (ax 22 1 21),wq 20 true 23 (.bin .neq false (.t 22) (.c (.str []))),aq 16 false (dz 24 20 23),c2 25 16 24,I 26 25,aq 26 false (aF 27 0 1 1),aq 26 false (ax 28 1 27),aq 26 false (aU 29 .neq 28 4),b3 26 false 30 29,aq 30 true (aF 31 3 1 1),aq 30 true (ax 32 1 31),aq 30 true (cn 33 32),aq 30 true (aU 34 .gtr 33 0),aq 26 false (dz 35 30 34),c2 36 26 35] (aT 36 (aa [be 2 false] .ret) .skip)) (.seq (aa [aF 37 0 1 1,ax 38 1 37] (.block 0 (aa [aU 40 .eql 38 0,I 39 40] (aT 39 (aa [be 2 true] .ret) (aa [aU 42 .eql 38 1,I 41 42] (aT 41 (aa [aF 43 1 1 1,ax 44 1 43,dn 45 75 [.t 44,(gd 0),(gd 100000)],I 2 45] .ret) (aa [aU 47 .eql 38 2,I 46 47] (aT 46 (aa [aF 48 2 1 1,ax 49 1 48,cD 50 119 49,I 2 50] .ret) (aa [aU 52 .eql 38 3,I 51 52] (aT 51 (aa [aF 53 1 1 1,ax 54 1 53,dn 55 75 [.t 54,(gd (-1000000000)),(gd 1000000000)],I 2 55] .ret) (aa [aU 57 .eql 38 4,I 56 57] (aT 56 (aa [aF 58 3 1 1,ax 59 1 58,cn 60 59,aU 61 .eql 60 2,I 62 61,aq 62 true (aF 63 3 1 1),aq 62 true (ax 64 1 63),aq 62 true (jH 65 4 64 0),aq 62 true (aW 66 4 65),aq 62 true (cD 67 124 66),dz 68 62 67,I 69 68,aq 69 true (aF 70 3 1 1),aq 69 true (ax 71 1 70),aq 69 true (jH 72 4 71 1),aq 69 true (aW 73 4 72),aq 69 true (cD 74 124 73),dz 75 69 74,I 2 75] .ret) .skip)))))))))))) (aa [be 2 false] .ret))))
@[simp] def lE:List bt:=[.tmp 2]
def PC:C:=(aa [ej 4 1] (aa [I 7 0,cn 8 7,I 5 8] (.seq (.block 0 (.loop (.seq (aa [I 9 5,aU 10 .gtr 9 0,I 11 10,b3 11 true 12 0,b3 11 true 13 5,aq 11 true (aU 14 .sub 13 1),aq 11 true (ct 15 1 12 14),aq 11 true (ax 16 1 15),b3 11 true 17 1,aq 11 true (bo 18 .geq 16 17),dz 19 11 18] (aT 19 .skip (.exit 0))) (.block 1 (.region [I 20 5,aU 21 .sub 20 1,I 5 21]))))) (.seq (aa [I 22 5,I 23 0,cn 24 23,bo 25 .lss 22 24,I 26 25,b3 26 true 27 0,b3 26 true 28 5,aq 26 true (ct 29 1 27 28),aq 26 true (ax 30 1 29),b3 26 true 31 1,aq 26 true (bo 32 .eql 30 31),dz 33 26 32] (aT 33 (aa [I 34 0,I 4 34] .ret) .skip)) (aa [ei 35 1 3 [],I 36 0,I 37 5,b5 38 (.lsl 1 (.t 36) none (some (.t 37))),gF 39 1 3 35 38,I 6 39] (aa [I 40 6,I 41 1,ei 42 1 3 [.t 41],gF 43 1 3 40 42,I 6 43] (aa [I 44 6,I 45 0,I 46 5,b5 47 (.lsl 1 (.t 45) (some (.t 46)) none),gF 48 1 3 44 47,I 4 48] .ret)))))))
@[simp] def xV:List bt:=[.tmp 4]
def D1:C:=(aa [cx 3 1,dk 4 dO] (.seq (aa [aF 7 0 1 3,ax 8 1 7,aU 9 .eql 8 1] (aT 9 (aa [I 11 0,aF 12 1 1 3,ax 13 1 12,b7 14 146 11 13,I 10 14,cC 15 0 10,cC 16 1 10,dk 5 dO,bK 4 5 15,I 6 16] (aa [I 17 6] (aT 17 (aa [aW 18 4 5,bK 4 4 18] .ret) .skip))) .skip)) (.seq (aa [aF 19 0 1 3,ax 20 1 19,aU 21 .eql 20 4] (aT 21 (.seq (.drawn true 36 [I 22 0,aF 23 3 1 3,ax 24 1 23,jH 25 4 24 0,aW 26 4 25,b7 27 127 22 26,I 28 0,aF 29 3 1 3,ax 30 1 29,jH 31 4 30 1,aW 32 4 31,b7 33 127 28 32,b7 34 189 27 33,bK 4 4 34]) .ret) .skip)) (aa [aW 35 4 3,bK 4 4 35] .ret))))
@[simp] def Gj:List bt:=[.cell 4 true 4]
def PB:C:=(aa [cx 1 0,be 2 false] (aa [aW 3 4 1,dn 4 123 [.t 3,(gd 5000)],aU 5 .leq 4 5000,I 2 5] .ret))
@[simp] def VD:List bt:=[.tmp 2]
def PM:C:=(aa [be 2 false] (.seq (aa [I 5 0,cn 6 5,bV 7 0] (fw 8 7 6 (.seq (.block 1 (aa [I 9 7,ct 10 5 5 7,aW 11 5 10,dk 4 jA,I 3 9,bK 5 4 11] (.seq (.drawn true 41 [I 12 3,aU 13 .gtr 12 0,I 14 13,b3 14 true 15 0,b3 14 true 16 3,aq 14 true (aU 17 .sub 16 1),aq 14 true (ct 18 5 15 17),aq 14 true (aF 19 0 1 18),aq 14 true (ax 20 1 19),aq 14 true (aF 21 0 1 4),aq 14 true (ax 22 1 21),aq 14 true (bo 23 .geq 20 22),dz 24 14 23,I 25 24,aq 25 false (aF 26 0 1 4),aq 25 false (ax 27 1 26),aq 25 false (dn 28 75 [.t 27,(gd 0),(gd 100000)]),aq 25 false (cu 29 28),c2 30 25 29,I 31 30,aq 31 false (hD 32 1 4 4),aq 31 false (aW 33 4 32),aq 31 false (cD 34 56 33),aq 31 false (cu 35 34),c2 36 31 35]) (aT 36 (aa [be 2 false] .ret) .skip)))) (.region [aU 37 .add 7 1,I 7 37])))) (aa [I 38 0,cn 39 38,aU 40 .leq 39 400,I 2 40] .ret)))
@[simp] def LH:List bt:=[.tmp 2]
def PK:C:=(aa [dk 4 dO,be 5 false] (.seq (aa [I 8 0,cn 9 8,bV 10 0] (fw 11 10 9 (.seq (.block 1 (aa [ct 12 5 8 10,aW 13 5 12,dk 7 jA,bK 5 7 13] (aa [aF 14 0 1 7,ax 15 1 14,I 16 1,bo 17 .eql 15 16] (aT 17 (aa [hD 18 1 4 7,aW 19 4 18,bK 4 4 19,be 5 true] .ret) .skip)))) (.region [aU 20 .add 10 1,I 10 20])))) (aa [iu 21 dO [],bK 4 4 21,be 5 false] .ret)))
@[simp] def LF:List bt:=[.cell 4 true 4,.tmp 5]
def PO:C:=(aa [ej 4 5,be 5 false] (aa [ei 10 4 30 [],I 6 10] (aa [ei 11 4 30 [],I 7 11] (.seq (aa [I 12 1,cn 13 12,bV 14 0] (fw 15 14 13 (.seq (.block 1 (aa [ct 16 5 12 14,aW 17 5 16,dk 9 jA,bK 5 9 17] (aa [I 18 6,aF 19 0 1 9,ax 20 1 19,cD 21 114 20,ei 22 4 30 [.t 21],gF 23 4 30 18 22,I 6 23] (.region [I 24 7,hD 25 1 4 9,aW 26 4 25,ei 27 4 30 [.t 26],gF 28 4 30 24 27,I 7 28])))) (.region [aU 29 .add 14 1,I 14 29])))) (aa [I 30 0,I 31 6,I 32 7,dn 33 202 [.t 30,.t 31,.t 32],cC 34 0 33,cC 35 1 33,I 4 34,I 5 35] .ret)))))
@[simp] def VJ:List bt:=[.tmp 4,.tmp 5]
def r8:C:=(aa [cx 4 1,cx 5 2,ej 6 5,be 7 false] (aa [I 12 0,aW 13 4 4,b7 14 201 12 13,bK 4 4 14] (aa [I 15 0,aW 16 4 5,b7 17 201 15 16,bK 4 5 17] (.seq (aa [aF 18 0 1 4,ax 19 1 18,aU 20 .eql 19 1,I 21 20,aq 21 true (aF 22 0 1 5),aq 21 true (ax 23 1 22),aq 21 true (aU 24 .eql 23 1),dz 25 21 24,I 26 25,aq 26 true (aF 27 1 1 4),aq 26 true (ax 28 1 27),aq 26 true (aF 29 1 1 5),aq 26 true (ax 30 1 29),aq 26 true (bo 31 .lss 28 30),dz 32 26 31] (aT 32 (aa [I 33 0,aF 34 1 1 5,ax 35 1 34,aW 36 4 4,dn 37 212 [.t 33,.t 35,.t 36],cC 38 0 37,cC 39 1 37,I 6 38,I 7 39] .ret) .skip)) (.seq (aa [aF 40 0 1 4,ax 41 1 40,aU 42 .eql 41 1,I 43 42,aq 43 true (aF 44 0 1 5),aq 43 true (ax 45 1 44),aq 43 true (aU 46 .eql 45 1),dz 47 43 46,I 48 47,aq 48 true (aF 49 1 1 4),aq 48 true (ax 50 1 49),aq 48 true (aF 51 1 1 5),aq 48 true (ax 52 1 51),aq 48 true (bo 53 .eql 50 52),dz 54 48 53] (aT 54 (aa [I 55 0,I 6 55,be 7 true] .ret) .skip)) (.seq (aa [aF 56 0 1 4,ax 57 1 56,aU 58 .eql 57 1] (aT 58 (aa [I 59 0,aF 60 1 1 4,ax 61 1 60,aW 62 4 5,dn 63 212 [.t 59,.t 61,.t 62],cC 64 0 63,cC 65 1 63,I 6 64,I 7 65] .ret) .skip)) (.seq (aa [aF 66 0 1 5,ax 67 1 66,aU 68 .eql 67 1] (aT 68 (aa [I 69 0,aF 70 1 1 5,ax 71 1 70,aW 72 4 4,dn 73 212 [.t 69,.t 71,.t 72],cC 74 0 73,cC 75 1 73,I 6 74,I 7 75] .ret) .skip)) (.seq (aa [aF 76 0 1 4,ax 77 1 76,aF 78 0 1 5,ax 79 1 78,bo 80 .neq 77 79,I 81 80,aq 81 false (aF 82 1 1 4),aq 81 false (ax 83 1 82),aq 81 false (aF 84 1 1 5),aq 81 false (ax 85 1 84),aq 81 false (bo 86 .neq 83 85),c2 87 81 86,I 88 87,aq 88 false (aF 89 2 1 4),aq 88 false (ax 90 1 89),aq 88 false (aF 91 2 1 5),aq 88 false (ax 92 1 91),aq 88 false (bo 93 .neq 90 92),c2 94 88 93] (aT 94 (aa [ej 6 5,be 7 false] .ret) .skip)) (.seq (aa [aF 95 3 1 4,ax 96 1 95,cn 97 96,bV 98 0] (fw 99 98 97 (.seq (.block 1 (aa [I 100 98,ct 101 4 96 98,aW 102 4 101,dk 9 dO,I 8 100,bK 4 9 102] (.seq (.drawn true 119 [I 104 0,aW 105 4 9,aF 106 3 1 5,ax 107 1 106,I 108 8,ct 109 4 107 108,aW 110 4 109,dn 111 180 [.t 104,.t 105,.t 110],I 103 111,cC 112 0 103,cC 113 1 103,I 10 112,I 11 113]) (.seq (aa [I 114 11,cu 115 114] (aT 115 (aa [ej 6 5,be 7 false] .ret) .skip)) (.region [I 116 10,I 0 116]))))) (.region [aU 117 .add 98 1,I 98 117])))) (aa [I 118 0,I 6 118,be 7 true] .ret))))))))))
@[simp] def rJ:List bt:=[.tmp 6,.tmp 7]
def D2:C:=(aa [cx 3 1,dk 4 dO] (.seq (aa [aF 7 0 1 3,ax 8 1 7,aU 9 .eql 8 1] (aT 9 (aa [I 11 0,aF 12 1 1 3,ax 13 1 12,b7 14 146 11 13,I 10 14,cC 15 0 10,cC 16 1 10,dk 5 dO,bK 4 5 15,I 6 16] (aa [I 17 6] (aT 17 (aa [aW 18 4 5,bK 4 4 18] .ret) .skip))) .skip)) (aa [aW 19 4 3,bK 4 4 19] .ret)))
@[simp] def Gk:List bt:=[.cell 4 true 4]
def PN:C:=(aa [ej 6 5,be 7 false] (.seq (aa [I 12 1,cn 13 12,bV 14 0] (fw 15 14 13 (.seq (.block 1 (aa [I 16 14,ct 17 4 12 14,aW 18 4 17,dk 9 dO,I 8 16,bK 4 9 18] (.seq (.drawn true 34 [I 20 0,aW 21 4 9,I 22 2,I 23 8,ct 24 4 22 23,aW 25 4 24,dn 26 180 [.t 20,.t 21,.t 25],I 19 26,cC 27 0 19,cC 28 1 19,I 10 27,I 11 28]) (.seq (aa [I 29 11,cu 30 29] (aT 30 (aa [ej 6 5,be 7 false] .ret) .skip)) (.region [I 31 10,I 0 31]))))) (.region [aU 32 .add 14 1,I 14 32])))) (aa [I 33 0,I 6 33,be 7 true] .ret)))
@[simp] def LI:List bt:=[.tmp 6,.tmp 7]
def A5:C:=(aa [cx 5 2,ej 6 5,be 7 false] (aa [I 15 0,aW 16 4 5,b7 17 60 15 16,I 14 17,cC 18 0 14,cC 19 1 14,dk 8 dO,bK 4 8 18,I 9 19] (.seq (aa [I 20 9,cu 21 20,I 22 21,b3 22 false 23 1,aq 22 false (aW 24 4 8),aq 22 false (b7 25 233 23 24),c2 26 22 25,I 27 26,b3 27 false 28 0,aq 27 false (cn 29 28),aq 27 false (aU 30 .geq 29 400),c2 31 27 30] (aT 31 (aa [ej 6 5,be 7 false] .ret) .skip)) (aa [ei 32 5 113 [],I 10 32] (.seq (aa [I 33 0,cn 34 33,bV 35 0] (fw 36 35 34 (.seq (.block 1 (aa [ct 37 5 33 35,aW 38 5 37,dk 12 jA,bK 5 12 38] (aa [hD 39 1 4 12,aW 40 4 39,I 41 1,aW 42 4 8,dn 43 234 [.t 40,.t 41,.t 42],dk 13 dO,bK 4 13 43] (.seq (aa [aW 44 4 13,cD 45 128 44,cu 46 45] (aT 46 (aa [ej 6 5,be 7 false] .ret) .skip)) (.region [I 47 10,aF 48 0 1 12,ax 49 1 48,aW 50 4 13,iu 51 jA [(0,1,(.t 49)),(1,4,(.t 50))],ei 52 5 113 [.t 51],gF 53 5 113 47 52,I 10 53]))))) (.region [aU 54 .add 35 1,I 35 54])))) (aa [I 55 10,I 56 1,aW 57 4 8,iu 58 jA [(0,1,(.t 56)),(1,4,(.t 57))],b7 59 235 55 58,I 6 59,be 7 true] .ret))))))
@[simp] def Ah:List bt:=[.tmp 6,.tmp 7]
def PD:C:=(aa [cx 3 1,be 4 false] (.seq (aa [aF 7 3 1 3,ax 8 1 7,cn 9 8,bV 10 0] (fw 11 10 9 (.seq (.block 1 (aa [ct 12 4 8 10,aW 13 4 12,dk 6 dO,bK 4 6 13] (aa [I 14 0,aW 15 4 6,b7 16 233 14 15] (aT 16 (aa [be 4 true] .ret) .skip)))) (.region [aU 17 .add 10 1,I 10 17])))) (aa [aF 18 0 1 3,ax 19 1 18,aU 20 .eql 19 1,I 21 20,aq 21 true (aF 22 1 1 3),aq 21 true (ax 23 1 22),b3 21 true 24 0,aq 21 true (bo 25 .eql 23 24),dz 26 21 25,I 4 26] .ret)))
@[simp] def LD:List bt:=[.tmp 4]
def D0:C:=(aa [cx 3 0,cx 5 2,dk 6 dO] (.seq (aa [aF 7 0 1 3,ax 8 1 7,aU 9 .eql 8 1,I 10 9,aq 10 true (aF 11 1 1 3),aq 10 true (ax 12 1 11),b3 10 true 13 1,aq 10 true (bo 14 .eql 12 13),dz 15 10 14] (aT 15 (aa [aW 16 4 5,bK 4 6 16] .ret) .skip)) (.seq (aa [aF 17 0 1 3,ax 18 1 17,aU 19 .eql 18 4] (aT 19 (.seq (.drawn true 36 [aF 20 3 1 3,ax 21 1 20,jH 22 4 21 0,aW 23 4 22,I 24 1,aW 25 4 5,dn 26 234 [.t 23,.t 24,.t 25],aF 27 3 1 3,ax 28 1 27,jH 29 4 28 1,aW 30 4 29,I 31 1,aW 32 4 5,dn 33 234 [.t 30,.t 31,.t 32],b7 34 189 26 33,bK 4 6 34]) .ret) .skip)) (aa [aW 35 4 3,bK 4 6 35] .ret))))
@[simp] def Gi:List bt:=[.cell 6 true 4]
def PL:C:=(aa [cx 3 1,ej 4 5] (aa [I 7 0,cn 8 7,I 5 8] (.seq (.block 0 (.loop (.seq (.seq (.drawn true 38 [I 9 5,aU 10 .gtr 9 0,I 11 10,b3 11 true 12 0,b3 11 true 13 5,aq 11 true (aU 14 .sub 13 1),aq 11 true (ct 15 5 12 14),aq 11 true (aF 16 0 1 15),aq 11 true (ax 17 1 16),aq 11 true (aF 18 0 1 3),aq 11 true (ax 19 1 18),aq 11 true (bo 20 .gtr 17 19),dz 21 11 20]) (aT 21 .skip (.exit 0))) (.block 1 (.region [I 22 5,aU 23 .sub 22 1,I 5 23]))))) (aa [ei 24 5 113 [],I 25 0,I 26 5,b5 27 (.lsl 5 (.t 25) none (some (.t 26))),gF 28 5 113 24 27,I 6 28] (aa [I 29 6,aW 30 5 3,ei 31 5 113 [.t 30],gF 32 5 113 29 31,I 6 32] (aa [I 33 6,I 34 0,I 35 5,b5 36 (.lsl 5 (.t 34) (some (.t 35)) none),gF 37 5 113 33 36,I 4 37] .ret))))))
@[simp] def LG:List bt:=[.tmp 4]
def kN:List (Nat×dC):=[
 (3,⟨1,8,.int .i64,.int .i64 0⟩),
 (5,⟨1,1,.int .u8,.int .u8 0⟩),
 (9,⟨1,16,.str,.str []⟩),
 (27,⟨1,24,.slice 30,.slice 4 .nil []⟩),
 (30,⟨4,56,.struct [(0,3),(1,3),(2,9),(3,27)],.agg [.int .i64 0,.int .i64 0,.str [],.slice 4 .nil []]⟩),
 (46,⟨1,24,.slice 113,.slice 5 .nil []⟩),
 (76,⟨1,24,.slice 3,.slice 1 .nil []⟩),
 (113,⟨5,64,.struct [(0,3),(1,30)],.agg [.int .i64 0,.int .i64 0,.int .i64 0,.str [],.slice 4 .nil []]⟩)]
theorem eH:fM al kN=true:=by kernel_rfl
theorem air:bX kN Py aj4 1 Tryz.f56=true:=by kernel_rfl
theorem abZ:al.funcs[(56:Nat)]? =some Tryz.f56:=Tryz.func56
theorem CE:bX kN yB Ag 2 Tryz.f58=true:=by kernel_rfl
theorem Bg:al.funcs[(58:Nat)]? =some Tryz.f58:=Tryz.func58
theorem aiB:bX kN PI VH 2 Tryz.f60=true:=by kernel_rfl
theorem ab9:al.funcs[(60:Nat)]? =some Tryz.f60:=Tryz.func60
theorem ais:bX kN Pz VC 3 Tryz.f75=true:=by kernel_rfl
theorem ab0:al.funcs[(75:Nat)]? =some Tryz.f75:=Tryz.func75
theorem UI:bX kN H6 LB 1 Tryz.f76=true:=by kernel_rfl
theorem QT:al.funcs[(76:Nat)]? =some Tryz.f76:=Tryz.func76
theorem ain:bX kN Pt Ad 1 Tryz.f119=true:=by kernel_rfl
theorem abV:al.funcs[(119:Nat)]? =some Tryz.f119:=Tryz.func119
theorem ait:bX kN PA LC 2 Tryz.f123=true:=by kernel_rfl
theorem ab1:al.funcs[(123:Nat)]? =some Tryz.f123:=Tryz.func123
theorem mx:bX kN lN lE 1 Tryz.f124=true:=by kernel_rfl
theorem mc:al.funcs[(124:Nat)]? =some Tryz.f124:=Tryz.func124
theorem aiv:bX kN PC xV 2 Tryz.f126=true:=by kernel_rfl
theorem ab3:al.funcs[(126:Nat)]? =some Tryz.f126:=Tryz.func126
theorem K9:bX kN D1 Gj 2 Tryz.f127=true:=by kernel_rfl
theorem IK:al.funcs[(127:Nat)]? =some Tryz.f127:=Tryz.func127
theorem aiu:bX kN PB VD 1 Tryz.f128=true:=by kernel_rfl
theorem ab2:al.funcs[(128:Nat)]? =some Tryz.f128:=Tryz.func128
theorem aiF:bX kN PM LH 1 Tryz.f145=true:=by kernel_rfl
theorem ace:al.funcs[(145:Nat)]? =some Tryz.f145:=Tryz.func145
theorem aiD:bX kN PK LF 2 Tryz.f146=true:=by kernel_rfl
theorem acb:al.funcs[(146:Nat)]? =some Tryz.f146:=Tryz.func146
theorem aiH:bX kN PO VJ 2 Tryz.f152=true:=by kernel_rfl
theorem acg:al.funcs[(152:Nat)]? =some Tryz.f152:=Tryz.func152
theorem uj:bX kN r8 rJ 3 Tryz.f180=true:=by kernel_rfl
theorem tB:al.funcs[(180:Nat)]? =some Tryz.f180:=Tryz.func180
theorem La:bX kN D2 Gk 2 Tryz.f201=true:=by kernel_rfl
theorem IL:al.funcs[(201:Nat)]? =some Tryz.f201:=Tryz.func201
theorem aiG:bX kN PN LI 3 Tryz.f202=true:=by kernel_rfl
theorem acf:al.funcs[(202:Nat)]? =some Tryz.f202:=Tryz.func202
theorem FW:bX kN A5 Ah 3 Tryz.f212=true:=by kernel_rfl
theorem El:al.funcs[(212:Nat)]? =some Tryz.f212:=Tryz.func212
theorem aiw:bX kN PD LD 2 Tryz.f233=true:=by kernel_rfl
theorem ab4:al.funcs[(233:Nat)]? =some Tryz.f233:=Tryz.func233
theorem K8:bX kN D0 Gi 3 Tryz.f234=true:=by kernel_rfl
theorem IJ:al.funcs[(234:Nat)]? =some Tryz.f234:=Tryz.func234
theorem aiE:bX kN PL LG 2 Tryz.f235=true:=by kernel_rfl
theorem acd:al.funcs[(235:Nat)]? =some Tryz.f235:=Tryz.func235
mutual
def lf:bF→Int→Int
 | .mk _ _ _ args,m=>nZ args 1 m
def nZ:List bF→Int→Int→Int
 |[],n,_=>n
 |x::xs,n,m=>if m<n then n else nZ xs (n+lf x (m-n)) m
end
mutual
theorem Ib:∀(t:bF) (m:Int),0≤m→1≤lf t m∧lf t m≤m+1
 | .mk _ _ _ args,m,h=>by simp only[lf];exact Qc args 1 m h (by omega) (by omega)
theorem Qc:∀(l:List bF) (n m:Int),0≤m→1≤n→n≤m+1→1≤nZ l n m∧nZ l n m≤m+1
 |[],n,m,_,J,U=>by simp only[nZ];exact⟨J,U⟩
 |x::xs,n,m,bB,J,U=>by
  simp only[nZ];split
  ·exact⟨J,U⟩
  ·have:=Ib x (m-n) (by omega);exact Qc xs _ m bB (by omega) (by omega)
end
theorem D8:∀(t:T) (m:Int),0≤m→(lf t.tm m≤m↔(t.size:Int)≤m)∧((t.size:Int)≤m→lf t.tm m=t.size)
 | .pair a b,m,h=>by
  have bE:=T.size_pos a;have ae:=T.size_pos b;simp only[T.tm,lf,nZ,T.size];by_cases J:m<1
  ·rw[if_pos J];exact⟨by omega,fun h=>by omega⟩
  ·rw[if_neg J];obtain⟨bD,a2⟩:=D8 a (m-1) (by omega);have a3:=Ib a.tm (m-1) (by omega);by_cases U:(a.size:Int)≤m-1
   ·have e:=a2 U;rw[e];by_cases ao:m<1+(a.size:Int)
    ·omega
    ·rw[if_neg ao];obtain⟨cc,b4⟩:=D8 b (m-(1+a.size)) (by omega);refine⟨by omega,fun h=>?_⟩;rw[b4 (by omega)];omega
   ·have:¬lf a.tm (m-1)≤m-1:=fun h=>U (bD.1 h);rw[if_pos (by omega)];exact⟨by omega,fun h=>by omega⟩
 | .nil,m,h=>by simp[T.tm,lf,nZ,T.size]
 | .var _,m,h=>by simp[T.tm,lf,nZ,T.size]
 | .sym _,m,h=>by simp[T.tm,lf,nZ,T.size]
 | .num _,m,h=>by simp[T.tm,lf,nZ,T.size]
theorem Zk(t:bF)(m:Int):lf t m=nZ t.args 1 m:=by cases t;rfl
theorem W9(t:bF):∀m:Int,0≤m→m≤1000000→bG al 123 [enc t,.int .i64 m] (.int .i64 (lf t m)):=by
 suffices H:∀(k:Nat) (t:bF),t.sz≤k→∀m:Int,0≤m→m≤1000000→bG al 123 [enc t,.int .i64 m] (.int .i64 (lf t m))from H _ t (eR _)
 intro k;induction k with
 |zero=>intro t aN;cases t;simp[bF.sz]at aN
 |succ k bS=>
  intro t aN m bB J;refine bd eH ab1 ait fun aP=>?_;unfold PA;have eT:t.args.length≤68719476736:=by rw[u0]at aP;simp[eC,ec,ev,lim]at aP;omega
  simp;refine dV [1,9,10] (fun i (n:Int)=>[(5,.int .i64 n),(11,.int .i64 i)]) t.args.length (fun i n=>(1≤n∧n≤m+1)∧nZ (t.args.drop i) n m=lf t m) 1 b1 ⟨by omega,by simp[Zk]⟩ (fun n af _=>?_) (fun i n hi af _=>?_)
  ·simp;(with_reducible repeat' first|refine aj ?_|simp);simp[bu,LC,aX,aY,aV];have:=af.2;simp[nZ]at this;exact this
  ·obtain⟨⟨ri,BN⟩,af⟩:=af;obtain⟨x,ab,cy⟩:=ed hi;have aQ:t.args.drop i=x::t.args.drop (i+1):=by rw[la hi,cy]
   have ef:x.sz≤k:=by have:=Mv (eK ab);omega
   rw[aQ]at af;simp only[nZ]at af;simp[hi,cy];by_cases ae:m<n
   ·rw[if_pos ae]at af;(with_reducible repeat' first|refine aj ?_|simp[ae]);simp[bu,LC,aX,aY,aV];exact af
   ·rw[if_neg ae]at af;have ay:=Ib x (m-n) (by omega);((with_reducible repeat' first|refine aj ?_|refine aD (bS x ef (m-n) (by omega) (by omega)) ?_|refine aE (bS x ef (m-n) (by omega) (by omega)) ?_|simp[ae]|((first|apply bM|apply bR|apply bQ)<;>intro h<;>try simp at h))<;>(try exact ch));exact bP.rng (n+lf x (m-n)) hi ⟨by omega,af⟩ b1
theorem AG(t:T):bG al 128 [t.e] (.bool (decide (t.size≤5000))):=by
 have ay:=(D8 t 5000 (by omega)).1;have key:=W9 t.tm 5000 (by omega) (by omega);rw[iR]at key;refine bd eH ab2 aiu fun aP=>?_;unfold PB;simp;(with_reducible repeat' first|refine aj ?_|refine aD key ?_|refine aE key ?_|simp);simp[bu,VD,aX,aY,aV];have:(lf t.tm 5000≤5000)=(t.size≤5000):=by rw[ay];simp;omega
 simp[this]
def afv(l:List ar)(v:Int)(k:Nat)(st:bq):Prop:=∃i:Nat,i≤l.length∧k=l.length-i∧di l v=di (l.drop i) v∧st=⟨[(1,.int .i64 v),(4,.ptr (.loc 0) 0),(8,.slice 5 .no (l.map ar.e)),(9,.int .i64 l.length),(10,.int .i64 i)],[(.loc 0,[.int .i64 0,.int .i64 0,.str [],.slice 4 .nil []])],[],1,[]⟩
set_option maxRecDepth 4000 in
theorem uK(l:List ar)(v:Int)(au:l.length≤1000000):bG al 146 [.slice 5 .no (l.map ar.e),.int .i64 v] (.tuple [((di l v).getD .nil).e,.bool (di l v).isSome]):=by
 refine bd eH acb aiD fun aP=>?_;unfold PK;simp;refine o3 (afv l v) l.length _ b1 ⟨0,by omega,rfl,by simp,rfl⟩ ?_;rintro k st ⟨i,hi,ad,a1,rfl⟩ kG cP;clear kG cP;by_cases bC:i<l.length
 ·obtain⟨b,ae⟩:∃b,l[i]? =some b:=⟨_,cf bC⟩;have RR:l.drop i=b::l.drop (i+1):=by rw[la bC];rw[cf bC]at ae;simp at ae;rw[ae]
  have cJ:∀h,l[i]'h=b:=fun h=>by rw[cf h]at ae;simpa using ae
  simp[cJ,bC];(with_reducible repeat' first|((first|apply bM|apply bR|apply bQ)<;>intro h<;>try simp at h)|refine aj ?_|simp[cJ])
  ·have:di l v=some b.t:=by rw[a1,RR];simp[di,h]
   simp[bu,LF,aX,aY,aV];simp[this]
  ·refine bP.next (l.length-(i+1)) (by omega) ⟨i+1,by omega,rfl,?_,rfl⟩ b1;rw[a1,RR];simp[di,h]
 ·have:di l v=none:=by rw[a1,List.drop_of_length_le (by omega)];simp[di]
  simp[bC];(with_reducible repeat' first|((first|apply bM|apply bR|apply bQ)<;>intro h<;>try simp at h)|refine aj ?_|simp);simp[bu,LF,aX,aY,aV];simp[this]
theorem al1(l:List ar)(au:l.length≤1000000)(t:T):bG al 127 [.slice 5 .no (l.map ar.e),t.e] (t.sub (di l)).e:=by
 induction t with
 |pair a b dQ dR=>
  refine bd eH IK K9 fun aP=>?_;unfold D1;simp;(with_reducible repeat' first|refine aj ?_|refine aD dQ ?_|refine aE dQ ?_|refine aD dR ?_|refine aE dR ?_|refine aD (G5 _ _) ?_|refine aE (G5 _ _) ?_|simp);all_goals simp[bu,Gj,aX,aY,aV]
  all_goals simp[T.sub]
 |var n=>
  refine bd eH IK K9 fun aP=>?_;unfold D1;simp;((with_reducible repeat' first|refine aj ?_|refine aD (uK l n au) ?_|refine aE (uK l n au) ?_|simp|((first|apply bM|apply bR|apply bQ)<;>intro h<;>try simp at h))<;>(try exact ch));all_goals simp[bu,Gj,aX,aY,aV]
  all_goals cases ae:di l n<;>simp_all[T.sub]
 |_=>
  refine bd eH IK K9 fun aP=>?_;unfold D1;simp;(with_reducible repeat' first|refine aj ?_|simp);all_goals simp[bu,Gj,aX,aY,aV]
  all_goals simp[T.sub]
theorem Xc(l:List ar)(au:l.length≤1000000)(t:T):bG al 127 [.slice 5 .no (l.map ar.e),t.e] (t.ap (cA l)).e:=by have:=al1 l au t;rw[Wx]at this;exact this
theorem MJ(l:List ar)(au:l.length≤1000000)(t:T):bG al 60 [.slice 5 .no (l.map ar.e),t.e] (.tuple [(t.ap (cA l)).e,.bool (decide ((t.ap (cA l)).size≤5000))]):=by refine bd eH ab9 aiB fun aP=>?_;unfold PI;simp;(with_reducible repeat' first|refine aj ?_|refine aD (Xc l au t) ?_|refine aE (Xc l au t) ?_|refine aD (AG _) ?_|refine aE (AG _) ?_|simp);simp[bu,VH,aX,aY,aV]
def vK(v:Int)(l:List T):Bool:=l.any (T.occ v)
theorem Ur(v:Int)(t:T):t.occ v=(vK v t.args||(t.kind==1&&t.int==v)):=by cases t<;>simp[T.occ,vK]
theorem wi(v:Int)(t:T):bG al 233 [.int .i64 v,t.e] (.bool (t.occ v)):=by
 suffices H:∀(k:Nat) (t:T),t.size≤k→bG al 233 [.int .i64 v,t.e] (.bool (t.occ v))from H _ t (eR _)
 intro k;induction k with
 |zero=>intro t aN;have:=T.size_pos t;omega
 |succ k bS=>
  intro t aN;have q6:t.args.length≤2:=by cases t<;>simp
  refine bd eH ab4 aiw fun aP=>?_;unfold PD;simp;refine dV [0,3,8,9] (fun i (_:Unit)=>[(10,.int .i64 i)]) t.args.length (fun i _=>vK v (t.args.drop i)=vK v t.args) () b1 (by simp) (fun _ af _=>?_) (fun i _ hi af _=>?_)
  ·have bB:vK v t.args=false:=by rw[←af];simp[vK]
   rw[Ur,bB];simp;((with_reducible repeat' first|refine aj ?_|simp|((first|apply bM|apply bR|apply bQ)<;>intro h<;>try simp at h))<;>(try exact ch));all_goals simp[bu,LD,aX,aY,aV]
   all_goals simp_all
  ·obtain⟨x,ab,cy⟩:=ed hi;have aQ:t.args.drop i=x::t.args.drop (i+1):=by rw[la hi,cy]
   have ef:x.size≤k:=by have hm:=eK ab;have:=T.size_pos x;cases t<;>simp at hm;rcases hm with rfl|rfl<;>simp[T.size]at aN<;>omega
   simp only[aQ,vK,List.any_cons]at af;simp[hi,cy];cases av:x.occ v with
   |true=>
    rw[av]at af;simp at af;have bB:t.occ v=true:=by rw[Ur];simp[vK];left;simpa using af
    (with_reducible repeat' first|refine aj ?_|refine aD (bS x ef) ?_|refine aE (bS x ef) ?_|simp[av]);simp[bu,LD,aX,aY,aV];simp[bB]
   |false=>rw[av]at af;have TF:=bS x ef;exact hO
theorem G6(v:Int)(x t:T):bG al 234 [t.e,.int .i64 v,x.e] (t.ap (Go.Pv.one v x)).e:=by
 induction t with
 |pair a b dQ dR=>
  refine bd eH IJ K8 fun aP=>?_;unfold D0;simp;(with_reducible repeat' first|refine aj ?_|refine aD dQ ?_|refine aE dQ ?_|refine aD dR ?_|refine aE dR ?_|refine aD (G5 _ _) ?_|refine aE (G5 _ _) ?_|simp);all_goals simp[bu,Gi,aX,aY,aV]
  all_goals simp[T.ap]
 |var n=>
  refine bd eH IJ K8 fun aP=>?_;unfold D0;simp;((with_reducible repeat' first|refine aj ?_|simp|((first|apply bM|apply bR|apply bQ)<;>intro h<;>try simp at h))<;>(try exact ch));all_goals simp[bu,Gi,aX,aY,aV]
  all_goals simp_all[T.ap,Go.Pv.one]
 |_=>
  refine bd eH IJ K8 fun aP=>?_;unfold D0;simp;(with_reducible repeat' first|refine aj ?_|simp);all_goals simp[bu,Gi,aX,aY,aV]
  all_goals simp[T.ap]
theorem G8(s:List ar)(au:s.length≤1000000)(t:T):bG al 201 [.slice 5 .no (s.map ar.e),t.e] (hb s t).e:=by
 cases t with
 |var n=>
  cases ae:di s n with
  |none=>refine bd eH IL La fun aP=>?_;unfold D2;simp;(with_reducible repeat' first|refine aj ?_|refine aD (uK s n au) ?_|refine aE (uK s n au) ?_|simp[ae]);simp[bu,Gk,aX,aY,aV];simp[hb,cA,ae]
  |some x=>refine bd eH IL La fun aP=>?_;unfold D2;simp;(with_reducible repeat' first|refine aj ?_|refine aD (uK s n au) ?_|refine aE (uK s n au) ?_|simp[ae]);simp[bu,Gk,aX,aY,aV];simp[hb,cA,ae]
 |_=>refine bd eH IL La fun aP=>?_;unfold D2;simp;(with_reducible repeat' first|refine aj ?_|simp);simp[bu,Gk,aX,aY,aV];simp[hb]
theorem SR(b:ar):∀(s:List ar) (k:Nat),(∀i c,i<k→s[i]? =some c→c.v≤b.v)→(∀c,s[k]? =some c→b.v<c.v)→k≤s.length→oq b s=s.take k++b::s.drop k
 |[],k,_,_,ad=>by simp at ad;subst ad;rfl
 |c::s,0,_,U,_=>by have:=U c rfl;simp[oq,this]
 |c::s,k+1,J,U,ad=>by have:=J 0 c (by omega) rfl;simp only[oq,if_neg (by omega:¬b.v<c.v),List.take_succ_cons,List.drop_succ_cons,bT];rw[SR b s k (fun i d hi aQ=>J (i+1) d (by omega) (by simpa using aQ)) (fun d aQ=>U d (by simpa using aQ)) (by simpa using ad)]
theorem al0(s:List ar)(b:ar)(au:s.length≤1000000)(bE:iv s):bG al 235 [.slice 5 .no (s.map ar.e),b.e] (.slice 5 .no ((oq b s).map ar.e)):=by
 refine bd eH acd aiE fun aP=>?_;unfold PL;simp;refine u1 [0,3] (fun(k:Nat)=>[(5,.int .i64 k)]) (fun k=>k) (fun k=>k≤s.length∧∀c,s[k]? =some c→b.v<c.v) s.length b1 ⟨by omega,fun c h=>by simp at h⟩ (fun k af _=>?_);obtain⟨ad,af⟩:=af;have vd:(∀c,0<k→s[k-1]? =some c→c.v≤b.v)→oq b s=s.take k++b::s.drop k:=fun h=>SR b s k (fun i c hi ay=>by
  obtain⟨d,aQ⟩:∃d,s[k-1]? =some d:=⟨_,cf (by omega)⟩;have J:=h d (by omega) aQ;rcases Nat.lt_or_ge i (k-1)with U|U
  ·have sp:=(fN.1 ay);have mg:=(fN.1 aQ);have:=pt.1 bE i (k-1) sp.1 mg.1 U;rw[sp.2,mg.2]at this;omega
  ·have:i=k-1:=by omega
   subst this;rw[aQ]at ay;cases ay;exact J) af ad
 rcases Nat.eq_zero_or_pos k with rfl|fp
 ·have e:=vd fun c h=>by omega
  rw[e];simp;(with_reducible repeat' first|refine aj ?_|simp);simp[bu,LG,aX,aY,aV];try simp[hn]
 ·obtain⟨d,aQ⟩:∃d,s[k-1]? =some d:=⟨_,cf (by omega)⟩;have ak:((k:Int)-1).toNat=k-1:=by omega
  have aB:∀h,(s[k-1]'h)=d:=fun h=>by rw[cf h]at aQ;exact fh aQ
  have iG:(0:Int)<k:=by omega
  by_cases ae:b.v<d.v
  ·simp[fp,iG,ak,aB,ae,aQ];(with_reducible repeat' first|refine aj ?_|simp[fp,iG,ak,aB,ae,aQ]);refine bP.whl (k-1) (by omega) ⟨by omega,fun c ay=>by rw[aQ]at ay;cases ay;exact ae⟩ ?_;have bf:((k-1:Nat):Int)=(k:Int)-1:=by omega
   simp[bf];exact b1
  ·have e:=vd fun c _ ay=>by rw[aQ]at ay;cases ay;omega
   rw[e];simp[fp,iG,ak,aB,ae,aQ];(with_reducible repeat' first|refine aj ?_|simp[fp,iG,ak,aB,ae,aQ]);simp[bu,LG,aX,aY,aV];have dd:lJ s.length (s.map ar.e)=s.map ar.e:=hn (by simp);rw[dd,←List.map_take,←List.map_drop,←gG,←List.map_append];exact Wu _
def Mk(v:Int)(x:T)(b:ar):ar:=⟨b.v,b.t.ap (Go.Pv.one v x)⟩
def afF(s:List ar)(v:Int)(x:T)(i:Nat)(out:List ar):Prop:=out=(s.take i).map (Mk v x)∧∀b∈s.take i,(b.t.ap (Go.Pv.one v x)).size≤5000
theorem al4(s:List ar)(v:Int)(t:T)(au:s.length≤1000000)(bE:iv s):bG al 212 [.slice 5 .no (s.map ar.e),.int .i64 v,t.e] (fs (nt s v t)):=by
 obtain⟨x,ab⟩:∃x,x=t.ap (cA s):=⟨_,rfl⟩;have q7:=MJ s au t;rw[←ab]at q7;obtain⟨o,av⟩:∃o,o=nt s v t:=⟨_,rfl⟩;have aff:x.size≤5000→x.occ v=false→s.length<400→(∀b∈s,(b.t.ap (Go.Pv.one v x)).size≤5000)→o=some (l8 s v x):=fun a6 bz bU cT=>by rw[av,nt,←ab,if_pos ⟨a6,bz,bU,cT⟩]
 have dj:¬(x.size≤5000∧x.occ v=false∧s.length<400∧∀b∈s,(b.t.ap (Go.Pv.one v x)).size≤5000)→o=none:=fun q=>by rw[av,nt,←ab,if_neg q]
 rw[←av];clear av;by_cases J:x.size≤5000;rotate_left
 ·rw[dj fun h=>J h.1];refine bd eH El FW fun aP=>?_;unfold A5;simp;(with_reducible repeat' first|refine aj ?_|refine aD q7 ?_|refine aE q7 ?_|refine aD (wi _ _) ?_|refine aE (wi _ _) ?_|simp[J]);simp[bu,Ah,aX,aY,aV];simp[fs]
 cases U:x.occ v with
 |true=>rw[dj fun h=>by rw[U]at h;cases h.2.1];refine bd eH El FW fun aP=>?_;unfold A5;simp;(with_reducible repeat' first|refine aj ?_|refine aD q7 ?_|refine aE q7 ?_|refine aD (wi _ _) ?_|refine aE (wi _ _) ?_|simp[J,U]);simp[bu,Ah,aX,aY,aV];simp[fs]
 |false=>
 by_cases ao:s.length<400;rotate_left
 ·rw[dj fun h=>ao h.2.2.1];have sg:(400:Int)≤s.length:=by omega
  refine bd eH El FW fun aP=>?_;unfold A5;simp;(with_reducible repeat' first|refine aj ?_|refine aD q7 ?_|refine aE q7 ?_|refine aD (wi _ _) ?_|refine aE (wi _ _) ?_|simp[J,U,sg]);simp[bu,Ah,aX,aY,aV];simp[fs]
 have sg:¬(400:Int)≤s.length:=by omega
 refine bd eH El FW fun aP=>?_;unfold A5;simp;(with_reducible repeat' first|refine aj ?_|refine aD q7 ?_|refine aE q7 ?_|refine aD (wi _ _) ?_|refine aE (wi _ _) ?_|simp[J,U,sg]);refine hR (α:=List ar) (fun i out=>⟨[(1,.int .i64 v),(8,.ptr (.loc 1) 0),(33,.slice 5 .no (s.map ar.e)),(34,.int .i64 s.length),(10,.slice 5 (.own (.loc 2)) (out.map ar.e)),(35,.int .i64 i)],[(.loc 1,[.int .i64 x.kind,.int .i64 x.int,.str x.name,.slice 4 .no (x.args.map T.e)])],[(.loc 2,⟨out.length,113,5,none⟩)],3,[]⟩) s.length (afF s v x) [] b1 ⟨by simp,by simp⟩ (fun out af _=>?_) (fun i out hi af _=>?_)
 ·obtain⟨dW,pJ⟩:=af;rw[hn (eR _)]at dW pJ;have adI:iv out:=by rw[dW,iv,List.pairwise_map];exact bE
  have zf:out.length≤1000000:=by rw[dW];simpa using au
  rw[aff J U ao pJ];have key:=al0 out ⟨v,x⟩ zf adI;simp;(with_reducible repeat' first|refine aj ?_|refine aD key ?_|refine aE key ?_|simp);simp[bu,Ah,aX,aY,aV];simp[fs,l8,dW];rfl
 ·obtain⟨dW,pJ⟩:=af;obtain⟨b,aK,fY⟩:=ed hi;have vp:s.take (i+1)=s.take i++[b]:=by rw[List.take_succ,aK];rfl
  have zf:out.length≤1000000:=by rw[dW];simp;omega
  simp[hi,fY];by_cases br:(b.t.ap (Go.Pv.one v x)).size≤5000
  ·(with_reducible repeat' first|refine aj ?_|refine aD (G6 _ _ _) ?_|refine aE (G6 _ _ _) ?_|refine aD (AG _) ?_|refine aE (AG _) ?_|simp[fY,hi,br]);all_goals first|(refine⟨by unfold lim;omega,?_⟩)|skip
   (with_reducible repeat' first|refine aj ?_|simp);refine bP.rng (out++[Mk v x b]) hi ⟨by rw[vp,dW,List.map_append];rfl,fun c ay=>?_⟩ ?_
   ·rw[vp]at ay;rcases jU.1 ay with ay|ay
    ·exact pJ c ay
    ·simp at ay;subst ay;exact br
   ·simp[Mk];exact⟨by simp[fresh,aJ,aC,cd,inObs,Pv.look,iW],dY (by simp[fresh,aJ,aC,cd,inObs,Pv.look,iW]),dZ (by simp[fresh,aJ,aC,dP,inObs,Pv.look,iW]),by simp⟩
  ·rw[dj fun h=>br (h.2.2.2 b (eK aK))];(with_reducible repeat' first|refine aj ?_|refine aD (G6 _ _ _) ?_|refine aE (G6 _ _ _) ?_|refine aD (AG _) ?_|refine aE (AG _) ?_|simp[fY,hi,br]);simp[bu,Ah,aX,aY,aV];simp[fs]
theorem aln{s:List ar}(ag:fG s)(aI:ho s){n:Nat}{a b:T}{o:Option (List ar)}(h:kx n s a b=some o):iz s [(a,b)] o:=by obtain⟨n',o',J,U⟩:=G0 ag aI a b;have ak:=Dg (Nat.le_max_left n n') h;have aB:=Dg (Nat.le_max_right n n') J;rw[ak]at aB;cases aB;exact U
def AD(n:Nat):List (T×T)→List ar→Option (Option (List ar))
 |[],s=>some (some s)
 |e::r,s=>match kx n s e.1 e.2 with
  |none=>none
  |some none=>some none
  |some (some s1)=>AD n r s1
def xC(x y:T):Bool:=x.kind==y.kind&&x.int==y.int&&x.name==y.name
theorem alk(n:Nat)(s:List ar){x y:T}(ab:x.kind≠1)(aG:y.kind≠1):jS (kx n) s x y=if xC x y then AD n (x.args.zip y.args) s else some none:=by
 cases x<;>cases y<;>simp[jS,xC,AD]at ab aG⊢
 ·rename_i a b;split<;>simp_all
 ·rename_i a b;split<;>simp_all
 ·rename_i bD a2 cc b4;cases kx n s bD cc with
  |none=>rfl
  |some o=>cases o with
   |none=>rfl
   |some s1=>
    simp only
    cases kx n s1 a2 b4 with
    |none=>rfl
    |some o=>cases o<;>rfl
theorem af5{x y:T}(h:xC x y=true):x.args.length=y.args.length:=by cases x<;>cases y<;>simp[xC]at h⊢
@[simp] theorem anZ(o:Option (List ar)):yI 0 (fs o)=some (True,.slice 5 .no ((o.getD []).map ar.e)):=rfl
@[simp] theorem an0(o:Option (List ar)):yI 1 (fs o)=some (True,.bool o.isSome):=rfl
set_option maxRecDepth 4000 in
theorem al7(n:Nat):∀(s:List ar) (a b:T) (o:Option (List ar)),fG s→ho s→kx n s a b=some o→bG al 180 [.slice 5 .no (s.map ar.e),a.e,b.e] (fs o):=by
 induction n with
 |zero=>intro s a b o _ _ h;simp[kx]at h
 |succ n bS=>
  intro s a b o ag aI he;have au:s.length≤1000000:=by have:=aI.1;omega
  have eI:=G8 s au a;have du:=G8 s au b;simp only[kx]at he;generalize hb s a=x at he eI;generalize hb s b=y at he du;have ae:=fun v t=>al4 s v t au ag.asc;have qn:∀z:T,¬z.kind=1→(z.kind==1)=false:=fun z h=>by simp[h]
  by_cases ab:x.kind=1
  ·obtain⟨i,rfl⟩:∃i,x= .var i:=by cases x<;>simp at ab;exact⟨_,rfl⟩
   by_cases aG:y.kind=1
   ·obtain⟨j,rfl⟩:∃j,y= .var j:=by cases y<;>simp at aG;exact⟨_,rfl⟩
    simp only[jS,dG]at he;subst he;rcases Int.lt_trichotomy i j with h|h|h
    ·rw[if_pos h];have key:=ae j (.var i);refine bd eH tB uj fun aP=>?_;unfold r8;simp;(with_reducible repeat' first|refine aj ?_|refine aD eI ?_|refine aE eI ?_|refine aD du ?_|refine aE du ?_|refine aD key ?_|refine aE key ?_|simp[h]);simp[bu,rJ,aX,aY,aV];simp[fs]
    ·subst h;rw[if_neg (by omega),if_pos rfl];have bB:¬i<i:=by omega
     refine bd eH tB uj fun aP=>?_;unfold r8;simp;(with_reducible repeat' first|refine aj ?_|refine aD eI ?_|refine aE eI ?_|refine aD du ?_|refine aE du ?_|simp[bB]);simp[bu,rJ,aX,aY,aV];simp[fs]
    ·rw[if_neg (by omega),if_neg (by omega)];have key:=ae i (.var j);have bB:¬i<j:=by omega
     have U:¬i=j:=by omega
     refine bd eH tB uj fun aP=>?_;unfold r8;simp;((with_reducible repeat' first|refine aj ?_|refine aD eI ?_|refine aE eI ?_|refine aD du ?_|refine aE du ?_|refine aD key ?_|refine aE key ?_|simp[bB,U]|((first|apply bM|apply bR|apply bQ)<;>intro h<;>try simp at h))<;>(try exact ch));simp[bu,rJ,aX,aY,aV];simp[fs]
   ·have vc:nt s i y=o:=by cases y<;>first|(simp at aG;done)|exact fh he
    subst vc;have key:=ae i y;refine bd eH tB uj fun aP=>?_;unfold r8;simp;(with_reducible repeat' first|refine aj ?_|refine aD eI ?_|refine aE eI ?_|refine aD du ?_|refine aE du ?_|refine aD key ?_|refine aE key ?_|simp[qn y aG]);simp[bu,rJ,aX,aY,aV];simp[fs]
  ·by_cases aG:y.kind=1
   ·obtain⟨j,rfl⟩:∃j,y= .var j:=by cases y<;>simp at aG;exact⟨_,rfl⟩
    have vc:nt s j x=o:=by cases x<;>first|(simp at ab;done)|exact fh he
    subst vc;have key:=ae j x;refine bd eH tB uj fun aP=>?_;unfold r8;simp;(with_reducible repeat' first|refine aj ?_|refine aD eI ?_|refine aE eI ?_|refine aD du ?_|refine aE du ?_|refine aD key ?_|refine aE key ?_|simp[qn x ab]);simp[bu,rJ,aX,aY,aV];simp[fs]
   ·rw[alk n s ab aG]at he;cases hle:xC x y with
    |false=>
     rw[hle]at he;simp at he;subst he;have Jv:(x.kind !=y.kind)=true∨((x.kind !=y.kind)=false∧((x.int !=y.int)=true∨((x.int !=y.int)=false∧(x.name !=y.name)=true))):=by simp only[xC]at hle;simp only[bne];cases ak:(x.kind==y.kind)<;>cases aB:(x.int==y.int)<;>cases bf:(x.name==y.name)<;>simp_all
     rcases Jv with a6|⟨a6,bz|⟨bz,bU⟩⟩
     ·refine bd eH tB uj fun aP=>?_;unfold r8;simp;(with_reducible repeat' first|refine aj ?_|refine aD eI ?_|refine aE eI ?_|refine aD du ?_|refine aE du ?_|simp[qn x ab,qn y aG,a6]);simp[bu,rJ,aX,aY,aV];simp[fs]
     ·refine bd eH tB uj fun aP=>?_;unfold r8;simp;(with_reducible repeat' first|refine aj ?_|refine aD eI ?_|refine aE eI ?_|refine aD du ?_|refine aE du ?_|simp[qn x ab,qn y aG,a6,bz]);simp[bu,rJ,aX,aY,aV];simp[fs]
     ·refine bd eH tB uj fun aP=>?_;unfold r8;simp;have F6:¬x.name=y.name:=by simpa using bU
      have ai6:decide (x.name=y.name)=false:=by simp[F6]
      ((with_reducible repeat' first|refine aj ?_|refine aD eI ?_|refine aE eI ?_|refine aD du ?_|refine aE du ?_|simp[qn x ab,qn y aG,a6,bz,bU,F6,ai6]|((first|apply bM|apply bR|apply bQ)<;>intro h<;>try simp at h))<;>(try exact ch));simp[bu,rJ,aX,aY,aV];simp[fs]
    |true=>
     rw[hle,if_pos rfl]at he;have Jv:(x.kind !=y.kind)=false∧(x.int !=y.int)=false∧(x.name !=y.name)=false:=by simp only[xC]at hle;simp only[bne];cases ak:(x.kind==y.kind)<;>cases aB:(x.int==y.int)<;>cases bf:(x.name==y.name)<;>simp_all
     obtain⟨a6,bz,bU⟩:=Jv;have hlen:=af5 hle;have F6:x.name=y.name:=by simpa using bU
     have q6:x.args.length≤2:=by cases x<;>simp
     refine bd eH tB uj fun aP=>?_;unfold r8;simp;(with_reducible repeat' first|refine aj ?_|refine aD eI ?_|refine aE eI ?_|refine aD du ?_|refine aE du ?_|simp[qn x ab,qn y aG,a6,bz,F6]);refine hR (α:=List ar) (fun i ai=>⟨[(5,.ptr (.loc 1) 0),(96,.slice 4 .no (x.args.map T.e)),(97,.int .i64 x.args.length),(0,.slice 5 .no (ai.map ar.e)),(98,.int .i64 i)],[(.loc 1,[.int .i64 y.kind,.int .i64 y.int,.str y.name,.slice 4 .no (y.args.map T.e)])],[],2,[]⟩) x.args.length (fun i ai=>(fG ai∧ho ai)∧AD n ((x.args.zip y.args).drop i) ai=some o) s b1 ⟨⟨ag,aI⟩,by simpa using he⟩ (fun ai af _=>?_) (fun i ai hi af _=>?_)
     ·obtain⟨_,af⟩:=af;rw[List.drop_eq_nil_of_le (by simp[hlen])]at af;simp[AD]at af;subst af;simp;(with_reducible repeat' first|refine aj ?_|simp);simp[bu,rJ,aX,aY,aV];simp[fs]
     ·obtain⟨⟨g1,g2⟩,af⟩:=af;obtain⟨bD,bE⟩:∃a,x.args[i]? =some a:=⟨_,cf hi⟩;obtain⟨cc,fR⟩:∃b,y.args[i]? =some b:=⟨_,cf (by omega)⟩;have mR:∀h,(x.args[i]'h)=bD:=fun h=>by rw[cf hi]at bE;exact fh bE
      have cJ:∀h,(y.args[i]'h)=cc:=fun h=>by rw[cf h]at fR;exact fh fR
      have rf:i<y.args.length:=by omega
      have aQ:(x.args.zip y.args).drop i=(bD,cc)::(x.args.zip y.args).drop (i+1):=by rw[la (by simp;omega)];simp[mR,cJ]
      rw[aQ]at af;simp only[AD]at af;simp[hi,mR,cJ,rf];cases hu:kx n ai bD cc with
      |none=>rw[hu]at af;cases af
      |some gy=>
       have key:=bS ai bD cc gy g1 g2 hu;rw[hu]at af;cases gy with
       |none=>simp at af;subst af;(with_reducible repeat' first|refine aj ?_|refine aD key ?_|refine aE key ?_|simp[mR,cJ,hi,rf]);simp[bu,rJ,aX,aY,aV];simp[fs]
       |some s1=>have ae3:=aln g1 g2 hu;(with_reducible repeat' first|refine aj ?_|refine aD key ?_|refine aE key ?_|simp[mR,cJ,hi,rf]);refine bP.rng s1 hi ⟨ae3.1,af⟩ ?_;exact b1
theorem Xe(s:List ar)(a b:T)(ag:fG s)(aI:ho s):bG al 180 [.slice 5 .no (s.map ar.e),a.e,b.e] (fs (mgu s [(a,b)])):=by obtain⟨n,o,J,U⟩:=G0 ag aI a b;rw[rD U];exact al7 n s a b o ag aI J
def afE(s:List ar)(E:List (T×T))(i:Nat)(ai:List ar):Prop:=(fG ai∧ho ai)∧mgu ai (E.drop i)=mgu s E
theorem al3(s:List ar)(l r:List T)(au:l.length=r.length)(ag:fG s)(aI:ho s)(xe:l.length≤1000000):bG al 202 [.slice 5 .no (s.map ar.e),.slice 4 .no (l.map T.e),.slice 4 .no (r.map T.e)] (fs (mgu s (l.zip r))):=by
 refine bd eH acf aiG fun aP=>?_;unfold PN;simp;refine hR (α:=List ar) (fun i ai=>⟨[(2,.slice 4 .no (r.map T.e)),(12,.slice 4 .no (l.map T.e)),(13,.int .i64 l.length),(0,.slice 5 .no (ai.map ar.e)),(14,.int .i64 i)],[],[],0,[]⟩) l.length (afE s (l.zip r)) s b1 ⟨⟨ag,aI⟩,by simp⟩ (fun ai af _=>?_) (fun i ai hi af _=>?_)
 ·obtain⟨⟨g1,g2⟩,af⟩:=af;rw[List.drop_eq_nil_of_le (by simp[au]),FL g1 g2]at af;rw[←af];simp;(with_reducible repeat' first|refine aj ?_|simp);simp[bu,LI,aX,aY,aV];simp[fs]
 ·obtain⟨⟨g1,g2⟩,af⟩:=af;obtain⟨a,bE⟩:∃a,l[i]? =some a:=⟨_,cf hi⟩;obtain⟨b,fR⟩:∃b,r[i]? =some b:=⟨_,cf (by omega)⟩;have mR:∀h,(l[i]'h)=a:=fun h=>by rw[cf hi]at bE;exact fh bE
  have cJ:∀h,(r[i]'h)=b:=fun h=>by rw[cf h]at fR;exact fh fR
  have rf:i<r.length:=by omega
  have aQ:(l.zip r).drop i=(a,b)::(l.zip r).drop (i+1):=by rw[la (by simp;omega)];simp[mR,cJ]
  rw[aQ,KL g1 g2]at af;simp[hi,mR,cJ,rf];have key:=Xe ai a b g1 g2;cases hu:mgu ai [(a,b)]with
  |none=>rw[hu]at af key;simp only at af;rw[←af];(with_reducible repeat' first|refine aj ?_|refine aD key ?_|refine aE key ?_|simp[mR,cJ,hi,rf]);simp[bu,LI,aX,aY,aV];simp[fs]
  |some s1=>have pa:=zH g1 g2 hu;rw[hu]at af key;(with_reducible repeat' first|refine aj ?_|refine aD key ?_|refine aE key ?_|simp[mR,cJ,hi,rf]);refine bP.rng s1 hi ⟨pa,af⟩ ?_;exact b1
theorem j8(n:Int):bG al 114 [.int .i64 n] (T.var n).e:=by refine bd fI ab8 aiA fun aP=>?_;unfold PH;exact b0
def afI(t:List ar)(i:Nat)(p:List T×List T):Prop:=p.1=(t.take i).map (fun b=>T.var b.v)∧p.2=(t.take i).map (·.t)
theorem al5(s t:List ar)(ag:fG s)(aI:ho s)(aN:t.length≤1000000):bG al 152 [.slice 5 .no (s.map ar.e),.slice 5 .no (t.map ar.e)] (fs (mgu s (hq t))):=by
 have br:(t.map fun b=>T.var b.v).zip (t.map (·.t))=hq t:=by rw[hq,List.zip_map']
 refine bd eH acg aiH fun aP=>?_;unfold PO;simp;refine hR (α:=List T×List T) (fun i p=>⟨[(0,.slice 5 .no (s.map ar.e)),(12,.slice 5 .no (t.map ar.e)),(13,.int .i64 t.length),(6,.slice 4 (.own (.loc 0)) (p.1.map T.e)),(7,.slice 4 (.own (.loc 1)) (p.2.map T.e)),(14,.int .i64 i)],[],[(.loc 0,⟨p.1.length,30,4,none⟩),(.loc 1,⟨p.2.length,30,4,none⟩)],2,[]⟩) t.length (afI t) ([],[]) b1 ⟨by simp,by simp⟩ (fun p af _=>?_) (fun i p hi af _=>?_)
 ·obtain⟨A,B⟩:=p;obtain⟨bg,kF⟩:=af;simp only at bg kF⊢;rw[hn (eR _)]at bg kF;have key:=al3 s A B (by rw[bg,kF];simp) ag aI (by rw[bg];simpa using aN);rw[bg,kF,br,←bg,←kF]at key;simp;(with_reducible repeat' first|refine aj ?_|refine aD key ?_|refine aE key ?_|simp);simp[bu,VJ,aX,aY,aV];simp[fs]
 ·obtain⟨A,B⟩:=p;obtain⟨bg,kF⟩:=af;simp only at bg kF⊢;obtain⟨b,aK,fY⟩:=ed hi;have vp:t.take (i+1)=t.take i++[b]:=by rw[List.take_succ,aK];rfl
  have adw:A.length≤1000000:=by rw[bg];simp;omega
  have adx:B.length≤1000000:=by rw[kF];simp;omega
  simp[hi,fY];(with_reducible repeat' first|refine aj ?_|refine aD (j8 _) ?_|refine aE (j8 _) ?_|simp[fY,hi]);all_goals first|(refine⟨by unfold lim;omega,?_⟩)|skip
  (with_reducible repeat' first|refine aj ?_|simp);all_goals first|(refine⟨by unfold lim;omega,?_⟩)|skip
  (with_reducible repeat' first|refine aj ?_|simp);refine bP.rng (A++[.var b.v],B++[b.t]) hi ⟨by rw[vp,bg];simp,by rw[vp,kF];simp⟩ ?_;simp;exact⟨by simp[fresh,aJ,aC,cd,inObs,Pv.look,iW],dY (by simp[fresh,aJ,aC,cd,inObs,Pv.look,iW]),dZ (by simp[fresh,aJ,aC,dP,inObs,Pv.look,iW]),by simp⟩
theorem dt(n lo hi:Int):bG al 75 [.int .i64 n,.int .i64 lo,.int .i64 hi] (.bool (decide (lo≤n∧n≤hi))):=by
 refine bd eH ab0 ais fun aP=>?_;unfold Pz;simp;((with_reducible repeat' first|refine aj ?_|simp|((first|apply bM|apply bR|apply bQ)<;>intro h<;>try simp at h))<;>(try exact ch));all_goals simp[bu,VC,aX,aY,aV]
 all_goals first|omega|(simp;done)|(simp;omega)
def shp:bF→Bool
 | .mk k n s [a,b]=>k==4&&n==0&&s==[]&&shp a&&shp b
 | .mk k n s []=>k4 k n s
 |_=>false
theorem GK:∀x:T,shp x.tm=x.ok
 | .nil=>by simp[T.tm,shp,k4,T.ok]
 | .var _=>by simp[T.tm,shp,k4,T.ok]
 | .sym _=>by simp[T.tm,shp,k4,T.ok]
 | .num _=>by simp[T.tm,shp,k4,T.ok]
 | .pair a b=>by simp[T.tm,shp,T.ok,GK a,GK b]
theorem akE:∀(m:Nat) (t:bF),t.sz≤m→shp t=true→∃x:T,x.tm=t:=by
 intro m;induction m with
 |zero=>intro t aN;cases t;simp[bF.sz]at aN
 |succ m bS=>
  rintro⟨k,n,s,args⟩ aN h;match args with
  |[a,b]=>
   simp[bF.sz,bF.szL]at aN;simp only[shp,cz,dL]at h;obtain⟨⟨⟨⟨rfl,rfl⟩,ao⟩,J⟩,U⟩:=h;obtain⟨x,rfl⟩:=bS a (by omega) J;obtain⟨y,rfl⟩:=bS b (by omega) U;have:s=[]:=by simpa using ao
   subst this;exact⟨.pair x y,rfl⟩
  |[]=>
   simp only[shp,k4]at h;split at h
   ·subst_vars;simp at h;exact⟨.nil,by simp[T.tm,h]⟩
   split at h
   ·subst_vars;simp at h;exact⟨.var n,by simp[T.tm,h]⟩
   split at h
   ·subst_vars;simp at h;exact⟨.sym s,by simp[T.tm,h]⟩
   split at h
   ·subst_vars;simp at h;exact⟨.num n,by simp[T.tm,h]⟩
   ·simp at h
  |[_]=>simp[shp]at h
  |_::_::_::_=>simp[shp]at h
theorem acw(t:bF):t.fits=(decide (lf t 5000≤5000)&&shp t):=by
 by_cases h:shp t=true
 ·obtain⟨x,rfl⟩:=akE _ t (eR _) h;have:=(D8 x 5000 (by omega)).1;rw[bF.fits_T,T.fit,h];rw[GK]at h;simp[h,this];omega
 ·have bB:t.fits=false:=by
   cases aI:t.fits with
   |false=>rfl
   |true=>obtain⟨x,rfl,ab⟩:=bF.fits_ex aI;rw[GK]at h;simp[T.fit]at ab;exact absurd ab.1 h
  simp at h;rw[bB,h];simp
def J9(s:List dB)(i:Nat):Prop:=i≤s.length∧∀k,k<i→ml (s.getD k 0)=true∧(k=0→low (s.getD k 0)=true)
theorem afC{s:List dB}(h:J9 s s.length):jy s=decide (1≤s.length∧s.length≤12):=by
 unfold jy;by_cases au:1≤s.length
 ·have J:=(h.2 0 (by omega)).2 rfl;have U:(s.drop 1).all ml=true:=by rw[jc];intro b ae;obtain⟨i,hi,e⟩:=nn ae;simp at hi e;have:=(h.2 (i+1) (by omega)).1;rw[List.getD_eq_getElem?_getD,cf (by omega)]at this;simp only[j9]at this;rw[←e];exact this
  rw[J,U];simp
 ·have:decide (1≤s.length∧s.length≤12)=false:=by simp;omega
  rw[this];simp
theorem afB{s:List dB}{i:Nat}(hi:i<s.length)(h:ml (s.getD i 0)=false∨(i=0∧low (s.getD i 0)=false)):jy s=false:=by
 cases e:jy s with
 |false=>rfl
 |true=>
  exfalso;simp only[jy,cz,jc]at e;obtain⟨⟨_,ak⟩,aB⟩:=e;rcases h with h|⟨rfl,h⟩
  ·by_cases bB:i=0
   ·subst bB;rw[ml,ak]at h;simp at h
   ·have:=aB (s.getD i 0) (by rw[List.getD_eq_getElem?_getD,cf hi];simp only[j9];refine List.mem_iff_getElem.2 ⟨i-1,by simp;omega,?_⟩;simp[show i-1+1=i from by omega])
    rw[this]at h;cases h
  ·rw[ak]at h;cases h
theorem gN(s:List dB):bG al 119 [.str s] (.bool (jy s)):=by
 generalize bh:jy s=R;refine bd eH abV ain fun aP=>?_;unfold Pt;have eT:s.length≤68719476736:=by simp[eC,ec,ev,lim]at aP;omega
 simp;refine u1 [0] (fun(i:Nat)=>[(3,.int .i64 i)]) (fun i=>s.length-i) (J9 s) 0 b1 ⟨by omega,fun k ad=>by omega⟩ (fun i af _=>?_);have dW:=af.1;by_cases hi:i<s.length
 ·have dj:=afB hi;rw[bh]at dj;obtain⟨c,ay,j2⟩:=ed hi;have RL:s.getD i 0=c:=by simp[List.getD_eq_getElem?_getD,ay]
  rw[RL]at dj;have dc:ml c=true→(i=0→low c=true)→J9 s (i+1):=fun J U=>⟨by omega,fun k ad=>by
   rcases(by omega:k<i∨k=i)with h|rfl
   ·exact af.2 k h
   ·rw[RL];exact⟨J,U⟩⟩
  have hw:IntKind.i64.wrap (c.toNat:Int)=c.toNat:=oO _ (by have:=c.toNat_lt;omega);simp[hi,j2,ay];by_cases a6:(97:Int)≤c.toNat
  ·by_cases bz:(c.toNat:Int)≤122
   ·have au:low c=true:=by simp[low];omega
    (with_reducible repeat' first|refine aj ?_|refine aD (dt _ _ _) ?_|refine aE (dt _ _ _) ?_|simp[hi,j2,ay,a6,bz]);exact bP.whl (i+1) (by omega) (dc (by simp[ml,au]) (fun _=>au)) b1
   ·have au:low c=false:=by simp[low];omega
    by_cases bB:i=0
    ·rw[dj (.inr ⟨bB,au⟩)];have q3:((i:Int)==0)=true:=by simp[bB]
     (with_reducible repeat' first|refine aj ?_|refine aD (dt _ _ _) ?_|refine aE (dt _ _ _) ?_|simp[hi,j2,ay,a6,bz,q3,hw]);simp[bu,Ad,aX,aY,aV]
    ·have q3:((i:Int)==0)=false:=by simp[bB]
     by_cases bU:(c.toNat:Int)=45
     ·have rI:((c.toNat:Int) !=45)=false:=by simp[bU]
      (with_reducible repeat' first|refine aj ?_|refine aD (dt _ _ _) ?_|refine aE (dt _ _ _) ?_|simp[hi,j2,ay,a6,bz,q3,hw,bU,rI]);all_goals exact bP.whl (i+1) (by omega) (dc (by simp[ml];omega) (fun h=>absurd h bB)) b1
     ·have rI:((c.toNat:Int) !=45)=true:=by simp[bU]
      by_cases cT:(48:Int)≤c.toNat∧(c.toNat:Int)≤57
      ·(with_reducible repeat' first|refine aj ?_|refine aD (dt _ _ _) ?_|refine aE (dt _ _ _) ?_|simp[hi,j2,ay,a6,bz,q3,hw,bU,rI,cT]);all_goals exact bP.whl (i+1) (by omega) (dc (by simp[ml];omega) (fun h=>absurd h bB)) b1
      ·rw[dj (.inl (by simp[ml,au];omega))];(with_reducible repeat' first|refine aj ?_|refine aD (dt _ _ _) ?_|refine aE (dt _ _ _) ?_|simp[hi,j2,ay,a6,bz,q3,hw,bU,rI,cT]);simp[bu,Ad,aX,aY,aV]
  ·have au:low c=false:=by simp[low];omega
   by_cases bB:i=0
   ·rw[dj (.inr ⟨bB,au⟩)];have q3:((i:Int)==0)=true:=by simp[bB]
    (with_reducible repeat' first|refine aj ?_|refine aD (dt _ _ _) ?_|refine aE (dt _ _ _) ?_|simp[hi,j2,ay,a6,q3,hw]);simp[bu,Ad,aX,aY,aV]
   ·have q3:((i:Int)==0)=false:=by simp[bB]
    by_cases bU:(c.toNat:Int)=45
    ·have rI:((c.toNat:Int) !=45)=false:=by simp[bU]
     (with_reducible repeat' first|refine aj ?_|refine aD (dt _ _ _) ?_|refine aE (dt _ _ _) ?_|simp[hi,j2,ay,a6,q3,hw,bU,rI]);all_goals exact bP.whl (i+1) (by omega) (dc (by simp[ml];omega) (fun h=>absurd h bB)) b1
    ·have rI:((c.toNat:Int) !=45)=true:=by simp[bU]
     by_cases cT:(48:Int)≤c.toNat∧(c.toNat:Int)≤57
     ·(with_reducible repeat' first|refine aj ?_|refine aD (dt _ _ _) ?_|refine aE (dt _ _ _) ?_|simp[hi,j2,ay,a6,q3,hw,bU,rI,cT]);all_goals exact bP.whl (i+1) (by omega) (dc (by simp[ml];omega) (fun h=>absurd h bB)) b1
     ·rw[dj (.inl (by simp[ml,au];omega))];(with_reducible repeat' first|refine aj ?_|refine aD (dt _ _ _) ?_|refine aE (dt _ _ _) ?_|simp[hi,j2,ay,a6,q3,hw,bU,rI,cT]);simp[bu,Ad,aX,aY,aV]
 ·have:i=s.length:=by omega
  subst this;rw[afC af]at bh;simp[hi];(with_reducible repeat' first|refine aj ?_|refine aD (dt _ _ _) ?_|refine aE (dt _ _ _) ?_|simp[hi]);simp[bu,Ad,aX,aY,aV];rw[←bh,p5];simp;omega
def uD:List bF→Bool
 |[a,b]=>shp a&&shp b
 |_=>false
theorem akD(k n:Int)(s:List dB)(args:List bF):shp ⟨k,n,s,args⟩=if k≠1∧k≠3∧n≠0 then false else if k≠2∧s≠[]then false else if k≠4∧args≠[]then false else if k=0 then true else if k=1 then decide (0≤n∧n≤100000)else if k=2 then jy s else if k=3 then decide (-1000000000≤n∧n≤1000000000)else if k=4 then uD args else false:=by
 by_cases ff:k=0
 ·subst ff;match args with
  |[]=>by_cases aw:n=0<;>by_cases ag:s=[]<;>simp[shp,k4,aw,ag]
  |[a]=>simp[shp]
  |[a,b]=>simp[shp]
  |_::_::_::_=>simp[shp]
 by_cases aS:k=1
 ·subst aS;match args with
  |[]=>by_cases ag:s=[]<;>simp[shp,k4,ag]
  |[a]=>simp[shp]
  |[a,b]=>simp[shp]
  |_::_::_::_=>simp[shp]
 by_cases bp:k=2
 ·subst bp;match args with
  |[]=>by_cases aw:n=0<;>simp[shp,k4,aw]
  |[a]=>simp[shp]
  |[a,b]=>simp[shp]
  |_::_::_::_=>simp[shp]
 by_cases bW:k=3
 ·subst bW;match args with
  |[]=>by_cases ag:s=[]<;>simp[shp,k4,ag]
  |[a]=>simp[shp]
  |[a,b]=>simp[shp]
  |_::_::_::_=>simp[shp]
 by_cases dy:k=4
 ·subst dy;match args with
  |[]=>simp[shp,k4,uD]
  |[a]=>simp[shp,uD]
  |[a,b]=>by_cases aw:n=0<;>by_cases ag:s=[]<;>simp[shp,uD,aw,ag]
  |_::_::_::_=>simp[shp,uD]
 ·match args with
  |[]=>simp[shp,k4,ff,aS,bp,bW,dy]
  |[a]=>simp[shp,ff,aS,bp,bW,dy]
  |[a,b]=>simp[shp,ff,aS,bp,bW,dy]
  |_::_::_::_=>simp[shp,ff,aS,bp,bW,dy]
set_option maxRecDepth 8000 in
theorem alY(m:Nat):∀(t:bF),t.sz≤m→bG al 124 [enc t] (.bool (shp t)):=by
 induction m with
 |zero=>intro t aN;cases t;simp[bF.sz]at aN
 |succ m bS=>
 rintro⟨k,n,s,args⟩ aN;generalize bh:shp ⟨k,n,s,args⟩=R;have dw:=akD k n s args;rw[bh]at dw;by_cases cc:k≠1∧k≠3∧n≠0
 ·rw[if_pos cc]at dw;obtain⟨aS,bW,n0⟩:=cc;have zw:(k !=1)=true:=by simp[aS]
  have zx:(k !=3)=true:=by simp[bW]
  have KP:(n !=0)=true:=by simp[n0]
  subst dw;refine bd eH mc mx fun aP=>?_;unfold lN;simp[bF.kind,bF.num,bF.name,bF.args];(with_reducible repeat' first|refine aj ?_|refine aD (dt _ _ _) ?_|refine aE (dt _ _ _) ?_|refine aD (gN _) ?_|refine aE (gN _) ?_|simp[zw,zx,KP]);all_goals simp[bu,lE,aX,aY,aV]
 rw[if_neg cc]at dw;have AW:(if k !=1 then k !=3 else false)=true→(n !=0)=false:=by intro h;simp at h⊢;exact Classical.byContradiction fun aw=>cc ⟨h.1,h.2,aw⟩
 by_cases b4:k≠2∧s≠[]
 ·rw[if_pos b4]at dw;have Fk:(k !=2)=true:=by simp[b4.1]
  have L3:s.isEmpty=false:=by simp[b4.2]
  by_cases aS:k=1
  ·subst aS;subst dw;refine bd eH mc mx fun aP=>?_;unfold lN;simp[bF.kind,bF.num,bF.name,bF.args];(with_reducible repeat' first|refine aj ?_|refine aD (dt _ _ _) ?_|refine aE (dt _ _ _) ?_|refine aD (gN _) ?_|refine aE (gN _) ?_|simp[L3]);all_goals simp[bu,lE,aX,aY,aV]
  by_cases bW:k=3
  ·subst bW;subst dw;refine bd eH mc mx fun aP=>?_;unfold lN;simp[bF.kind,bF.num,bF.name,bF.args];(with_reducible repeat' first|refine aj ?_|refine aD (dt _ _ _) ?_|refine aE (dt _ _ _) ?_|refine aD (gN _) ?_|refine aE (gN _) ?_|simp[L3]);all_goals simp[bu,lE,aX,aY,aV]
  have zw:(k !=1)=true:=by simp[aS]
  have zx:(k !=3)=true:=by simp[bW]
  have KP:(n !=0)=false:=AW (by simp[aS,bW]);subst dw;refine bd eH mc mx fun aP=>?_;unfold lN;simp[bF.kind,bF.num,bF.name,bF.args];(with_reducible repeat' first|refine aj ?_|refine aD (dt _ _ _) ?_|refine aE (dt _ _ _) ?_|refine aD (gN _) ?_|refine aE (gN _) ?_|simp[zw,zx,KP,Fk,L3]);all_goals simp[bu,lE,aX,aY,aV]
 rw[if_neg b4]at dw;by_cases ff:k=0
 ·subst ff;have n0:n=0:=by simpa using AW (by decide)
  have s0:s=[]:=Classical.byContradiction fun h=>b4 ⟨by omega,h⟩;subst n0 s0;by_cases a0:args=[];rotate_left
  ·rw[if_pos ⟨by omega,a0⟩]at dw;have tk:(0:Int)<args.length:=by have:=List.length_pos_iff.2 a0;omega
   subst dw;refine bd eH mc mx fun aP=>?_;unfold lN;simp[bF.kind,bF.num,bF.name,bF.args];((with_reducible repeat' first|refine aj ?_|refine aD (dt _ _ _) ?_|refine aE (dt _ _ _) ?_|refine aD (gN _) ?_|refine aE (gN _) ?_|simp[Int.natCast_nonneg,tk]|((first|apply bM|apply bR|apply bQ)<;>intro h<;>try simp at h))<;>(try exact ch));all_goals simp[bu,lE,aX,aY,aV]
  rw[if_neg (by simp[a0])]at dw;subst a0;simp at dw;subst dw;refine bd eH mc mx fun aP=>?_;unfold lN;simp[bF.kind,bF.num,bF.name,bF.args];(with_reducible repeat' first|refine aj ?_|refine aD (dt _ _ _) ?_|refine aE (dt _ _ _) ?_|refine aD (gN _) ?_|refine aE (gN _) ?_|simp[Int.natCast_nonneg]);all_goals simp[bu,lE,aX,aY,aV]
 by_cases aS:k=1
 ·subst aS;have s0:s=[]:=Classical.byContradiction fun h=>b4 ⟨by omega,h⟩;subst s0;by_cases a0:args=[];rotate_left
  ·rw[if_pos ⟨by omega,a0⟩]at dw;have tk:(0:Int)<args.length:=by have:=List.length_pos_iff.2 a0;omega
   subst dw;refine bd eH mc mx fun aP=>?_;unfold lN;simp[bF.kind,bF.num,bF.name,bF.args];((with_reducible repeat' first|refine aj ?_|refine aD (dt _ _ _) ?_|refine aE (dt _ _ _) ?_|refine aD (gN _) ?_|refine aE (gN _) ?_|simp[Int.natCast_nonneg,tk]|((first|apply bM|apply bR|apply bQ)<;>intro h<;>try simp at h))<;>(try exact ch));all_goals simp[bu,lE,aX,aY,aV]
  rw[if_neg (by simp[a0])]at dw;subst a0;simp at dw;subst dw;refine bd eH mc mx fun aP=>?_;unfold lN;simp[bF.kind,bF.num,bF.name,bF.args];(with_reducible repeat' first|refine aj ?_|refine aD (dt _ _ _) ?_|refine aE (dt _ _ _) ?_|refine aD (gN _) ?_|refine aE (gN _) ?_|simp[Int.natCast_nonneg]);all_goals simp[bu,lE,aX,aY,aV]
 by_cases bp:k=2
 ·subst bp;have n0:n=0:=by simpa using AW (by decide)
  subst n0;by_cases a0:args=[];rotate_left
  ·rw[if_pos ⟨by omega,a0⟩]at dw;have tk:(0:Int)<args.length:=by have:=List.length_pos_iff.2 a0;omega
   subst dw;refine bd eH mc mx fun aP=>?_;unfold lN;simp[bF.kind,bF.num,bF.name,bF.args];((with_reducible repeat' first|refine aj ?_|refine aD (dt _ _ _) ?_|refine aE (dt _ _ _) ?_|refine aD (gN _) ?_|refine aE (gN _) ?_|simp[Int.natCast_nonneg,tk]|((first|apply bM|apply bR|apply bQ)<;>intro h<;>try simp at h))<;>(try exact ch));all_goals simp[bu,lE,aX,aY,aV]
  rw[if_neg (by simp[a0])]at dw;subst a0;simp at dw;subst dw;refine bd eH mc mx fun aP=>?_;unfold lN;simp[bF.kind,bF.num,bF.name,bF.args];(with_reducible repeat' first|refine aj ?_|refine aD (dt _ _ _) ?_|refine aE (dt _ _ _) ?_|refine aD (gN _) ?_|refine aE (gN _) ?_|simp[Int.natCast_nonneg]);all_goals simp[bu,lE,aX,aY,aV]
 by_cases bW:k=3
 ·subst bW;have s0:s=[]:=Classical.byContradiction fun h=>b4 ⟨by omega,h⟩;subst s0;by_cases a0:args=[];rotate_left
  ·rw[if_pos ⟨by omega,a0⟩]at dw;have tk:(0:Int)<args.length:=by have:=List.length_pos_iff.2 a0;omega
   subst dw;refine bd eH mc mx fun aP=>?_;unfold lN;simp[bF.kind,bF.num,bF.name,bF.args];((with_reducible repeat' first|refine aj ?_|refine aD (dt _ _ _) ?_|refine aE (dt _ _ _) ?_|refine aD (gN _) ?_|refine aE (gN _) ?_|simp[Int.natCast_nonneg,tk]|((first|apply bM|apply bR|apply bQ)<;>intro h<;>try simp at h))<;>(try exact ch));all_goals simp[bu,lE,aX,aY,aV]
  rw[if_neg (by simp[a0])]at dw;subst a0;simp at dw;subst dw;refine bd eH mc mx fun aP=>?_;unfold lN;simp[bF.kind,bF.num,bF.name,bF.args];(with_reducible repeat' first|refine aj ?_|refine aD (dt _ _ _) ?_|refine aE (dt _ _ _) ?_|refine aD (gN _) ?_|refine aE (gN _) ?_|simp[Int.natCast_nonneg]);all_goals simp[bu,lE,aX,aY,aV]
 by_cases dy:k=4
 ·subst dy;have n0:n=0:=by simpa using AW (by decide)
  have s0:s=[]:=Classical.byContradiction fun h=>b4 ⟨by omega,h⟩;subst n0 s0;simp at dw;match args,dw with
  |[a,b],dw=>
   simp[bF.sz,bF.szL]at aN;have bE:=bS a (by omega);have ae:=bS b (by omega);simp only[uD]at dw;subst dw;refine bd eH mc mx fun aP=>?_;unfold lN;simp[bF.kind,bF.num,bF.name,bF.args];cases q:shp a with
   |true=>rw[q]at bE;(with_reducible repeat' first|refine aj ?_|refine aD bE ?_|refine aE bE ?_|refine aD ae ?_|refine aE ae ?_|simp[Int.natCast_nonneg]);all_goals simp[bu,lE,aX,aY,aV]
   |false=>rw[q]at bE;(with_reducible repeat' first|refine aj ?_|refine aD bE ?_|refine aE bE ?_|refine aD ae ?_|refine aE ae ?_|simp[Int.natCast_nonneg]);all_goals simp[bu,lE,aX,aY,aV]
  |[],dw=>simp only[uD]at dw;subst dw;refine bd eH mc mx fun aP=>?_;unfold lN;simp[bF.kind,bF.num,bF.name,bF.args];(with_reducible repeat' first|refine aj ?_|refine aD (dt _ _ _) ?_|refine aE (dt _ _ _) ?_|refine aD (gN _) ?_|refine aE (gN _) ?_|simp[Int.natCast_nonneg]);all_goals simp[bu,lE,aX,aY,aV]
  |[_],dw=>simp only[uD]at dw;subst dw;refine bd eH mc mx fun aP=>?_;unfold lN;simp[bF.kind,bF.num,bF.name,bF.args];(with_reducible repeat' first|refine aj ?_|refine aD (dt _ _ _) ?_|refine aE (dt _ _ _) ?_|refine aD (gN _) ?_|refine aE (gN _) ?_|simp[Int.natCast_nonneg]);all_goals simp[bu,lE,aX,aY,aV]
  |_::_::_::l,dw=>
   simp only[uD]at dw;have au:((l.length:Int)+1+1+1==2)=false:=by simp;omega
   subst dw;refine bd eH mc mx fun aP=>?_;unfold lN;simp[bF.kind,bF.num,bF.name,bF.args];(with_reducible repeat' first|refine aj ?_|refine aD (dt _ _ _) ?_|refine aE (dt _ _ _) ?_|refine aD (gN _) ?_|refine aE (gN _) ?_|simp[au]);all_goals simp[bu,lE,aX,aY,aV]
 have n0:(n !=0)=false:=AW (by simp[aS,bW]);have s0:s=[]:=Classical.byContradiction fun h=>b4 ⟨bp,h⟩;subst s0;have S6:(k==0)=false:=by simp[ff]
 have zw:(k==1)=false:=by simp[aS]
 have Fk:(k==2)=false:=by simp[bp]
 have zx:(k==3)=false:=by simp[bW]
 have Ta:(k==4)=false:=by simp[dy]
 have S7:(k !=1)=true:=by simp[aS]
 have S8:(k !=2)=true:=by simp[bp]
 have S9:(k !=3)=true:=by simp[bW]
 have Tb:(k !=4)=true:=by simp[dy]
 by_cases a0:args=[]
 ·subst a0;simp[ff,aS,bp,bW,dy]at dw;subst dw;refine bd eH mc mx fun aP=>?_;unfold lN;simp[bF.kind,bF.num,bF.name,bF.args];(with_reducible repeat' first|refine aj ?_|refine aD (dt _ _ _) ?_|refine aE (dt _ _ _) ?_|refine aD (gN _) ?_|refine aE (gN _) ?_|simp[S6,zw,Fk,zx,Ta,S7,S8,S9,Tb,n0]);all_goals simp[bu,lE,aX,aY,aV]
 ·rw[if_pos ⟨dy,a0⟩]at dw;have tk:(0:Int)<args.length:=by have:=List.length_pos_iff.2 a0;omega
  subst dw;refine bd eH mc mx fun aP=>?_;unfold lN;simp[bF.kind,bF.num,bF.name,bF.args];((with_reducible repeat' first|refine aj ?_|refine aD (dt _ _ _) ?_|refine aE (dt _ _ _) ?_|refine aD (gN _) ?_|refine aE (gN _) ?_|simp[tk,S6,zw,Fk,zx,Ta,S7,S8,S9,Tb,n0]|((first|apply bM|apply bR|apply bQ)<;>intro h<;>try simp at h))<;>(try exact ch));all_goals simp[bu,lE,aX,aY,aV]
theorem wj(t:bF):bG al 56 [enc t] (.bool t.fits):=by
 rw[acw];have ay:=W9 t 5000 (by omega) (by omega);have ag:=alY t.sz t (eR _);refine bd eH abZ air fun aP=>?_;unfold Py;simp;by_cases q:lf t 5000≤5000
 ·exact b0
 ·exact b0
def Pu:C:=(aa [be 2 false] (.seq (aa [I 5 0,cn 6 5,bV 7 0] (fw 8 7 6 (.seq (.block 1 (aa [I 9 7,ct 10 2 5 7,aW 11 2 10,c3 (.alloc 4 none (.agg [.int .i64 0,.int .i64 0])),I 3 9,bK 2 4 11] (.seq (.drawn true 42 [I 12 3,aU 13 .gtr 12 0,I 14 13,b3 14 true 15 0,b3 14 true 16 3,aq 14 true (aU 17 .sub 16 1),aq 14 true (ct 18 2 15 17),aq 14 true (aF 19 0 1 18),aq 14 true (ax 20 1 19),aq 14 true (aF 21 0 1 4),aq 14 true (ax 22 1 21),aq 14 true (bo 23 .geq 20 22),dz 24 14 23,I 25 24,aq 25 false (aF 26 0 1 4),aq 25 false (ax 27 1 26),aq 25 false (dn 28 75 [.t 27,(gd 0),(gd 100000)]),aq 25 false (cu 29 28),c2 30 25 29,I 31 30,aq 31 false (aF 32 1 1 4),aq 31 false (ax 33 1 32),aq 31 false (aU 34 .neq 33 2),b3 31 false 35 34,aq 35 true (aF 36 1 1 4),aq 35 true (ax 37 1 36),aq 35 true (aU 38 .neq 37 3),aq 31 false (dz 39 35 38),c2 40 31 39]) (aT 40 (aa [be 2 false] .ret) .skip)))) (.region [aU 41 .add 7 1,I 7 41])))) (aa [be 2 true] .ret)))
@[simp] def CS:List bt:=[.tmp 2]
def Pw:C:=(aa [be 2 false] (.seq (aa [I 5 0,cn 6 5,bV 7 0] (fw 8 7 6 (.seq (.block 1 (aa [I 9 7,ct 10 2 5 7,aW 11 2 10,c3 (.alloc 4 none (.agg [.int .i64 0,.str []])),I 3 9,bK 2 4 11] (.seq (.drawn true 37 [I 12 3,aU 13 .gtr 12 0,I 14 13,b3 14 true 15 0,b3 14 true 16 3,aq 14 true (aU 17 .sub 16 1),aq 14 true (ct 18 2 15 17),aq 14 true (aW 19 2 18),aq 14 true (aW 20 2 4),aq 14 true (b7 21 147 19 20),aq 14 true (cu 22 21),dz 23 14 22,I 24 23,aq 24 false (aF 25 0 1 4),aq 24 false (ax 26 1 25),aq 24 false (dn 27 75 [.t 26,(gd 0),(gd 100000)]),aq 24 false (cu 28 27),c2 29 24 28,I 30 29,aq 30 false (aF 31 1 1 4),aq 30 false (ax 32 1 31),aq 30 false (cD 33 119 32),aq 30 false (cu 34 33),c2 35 30 34]) (aT 35 (aa [be 2 false] .ret) .skip)))) (.region [aU 36 .add 7 1,I 7 36])))) (aa [be 2 true] .ret)))
@[simp] def Ae:List bt:=[.tmp 2]
def D3:C:=(aa [cx 2 0,cx 3 1,be 4 false] (aa [aF 5 0 1 2,ax 6 1 5,aF 7 0 1 3,ax 8 1 7,bo 9 .lss 6 8,I 10 9,aq 10 false (aF 11 0 1 2),aq 10 false (ax 12 1 11),aq 10 false (aF 13 0 1 3),aq 10 false (ax 14 1 13),aq 10 false (bo 15 .eql 12 14),b3 10 false 16 15,aq 16 true (aF 17 1 1 2),aq 16 true (ax 18 1 17),aq 16 true (aF 19 1 1 3),aq 16 true (ax 20 1 19),aq 16 true (bo 21 .lss 18 20),aq 10 false (dz 22 16 21),c2 23 10 22,I 4 23] .ret))
@[simp] def akc:List bt:=[.tmp 4]
def PV:C:=(aa [ej 4 2,be 5 false] (aa [ei 10 2 98 [],I 6 10] (aa [be 7 true] (.seq (.seq (.fg false 6 (.region [I 11 1,cn 12 11,bV 13 0])) (fw 14 13 12 (.seq (.block 1 (aa [ct 15 2 11 13,aW 16 2 15,c3 (.alloc 9 none (.agg [.int .i64 0,.int .i64 0])),bK 2 9 16] (.seq (.drawn true 33 [I 18 6,I 19 0,aF 20 0 1 9,ax 21 1 20,cD 22 114 21,b7 23 201 19 22,aF 24 1 1 9,ax 25 1 24,dn 26 151 [.t 18,.t 23,.t 25],I 17 26,cC 27 0 17,cC 28 1 17,I 6 27,I 7 28]) (aa [I 29 7,cu 30 29] (aT 30 (aa [ej 4 2,be 5 false] .ret) .skip))))) (.region [aU 31 .add 13 1,I 13 31])))) (aa [I 32 6,I 4 32,be 5 true] .ret)))))
@[simp] def LJ:List bt:=[.tmp 4,.tmp 5]
def PW:C:=(aa [ej 4 2,be 5 false] (aa [ei 10 2 100 [],I 6 10] (aa [be 7 true] (.seq (.seq (.fg false 6 (.region [I 11 1,cn 12 11,bV 13 0])) (fw 14 13 12 (.seq (.block 1 (aa [ct 15 2 11 13,aW 16 2 15,c3 (.alloc 9 none (.agg [.int .i64 0,.str []])),bK 2 9 16] (.seq (.drawn true 33 [I 18 6,I 19 0,aF 20 0 1 9,ax 21 1 20,cD 22 114 21,b7 23 201 19 22,aF 24 1 1 9,ax 25 1 24,dn 26 181 [.t 18,.t 23,.t 25],I 17 26,cC 27 0 17,cC 28 1 17,I 6 27,I 7 28]) (aa [I 29 7,cu 30 29] (aT 30 (aa [ej 4 2,be 5 false] .ret) .skip))))) (.region [aU 31 .add 13 1,I 13 31])))) (aa [I 32 6,I 4 32,be 5 true] .ret)))))
@[simp] def LL:List bt:=[.tmp 4,.tmp 5]
def yD:C:=(aa [cx 4 1,ej 6 2,be 7 false] (.seq (aa [aF 10 0 1 4,ax 11 1 10,aU 12 .neq 11 1] (aT 12 (.seq (.drawn true 73 [I 13 0,aF 14 0 1 4,ax 15 1 14,I 16 2,bo 17 .eql 15 16,I 6 13,I 7 17]) .ret) .skip)) (aa [bV 8 0] (.seq (.block 0 (.loop (.seq (.seq (.drawn true 73 [I 18 8,I 19 0,cn 20 19,bo 21 .lss 18 20,I 22 21,b3 22 true 23 0,b3 22 true 24 8,aq 22 true (ct 25 2 23 24),aq 22 true (aF 26 0 1 25),aq 22 true (ax 27 1 26),aq 22 true (aF 28 1 1 4),aq 22 true (ax 29 1 28),aq 22 true (bo 30 .lss 27 29),dz 31 22 30]) (aT 31 .skip (.exit 0))) (.block 1 (.region [I 32 8,aU 33 .add 32 1,I 8 33]))))) (.seq (.seq (.drawn true 73 [I 34 8,I 35 0,cn 36 35,bo 37 .lss 34 36,I 38 37,b3 38 true 39 0,b3 38 true 40 8,aq 38 true (ct 41 2 39 40),aq 38 true (aF 42 0 1 41),aq 38 true (ax 43 1 42),aq 38 true (aF 44 1 1 4),aq 38 true (ax 45 1 44),aq 38 true (bo 46 .eql 43 45),dz 47 38 46]) (aT 47 (.seq (.drawn true 73 [I 48 0,I 49 0,I 50 8,ct 51 2 49 50,aF 52 1 1 51,ax 53 1 52,I 54 2,bo 55 .eql 53 54,I 6 48,I 7 55]) .ret) .skip)) (aa [ei 56 2 98 [],I 57 0,I 58 8,b5 59 (.lsl 2 (.t 57) none (some (.t 58))),gF 60 2 98 56 59,I 9 60] (aa [I 61 9,aF 62 1 1 4,ax 63 1 62,I 64 2,b5 65 (.build [.int .i64 0,.int .i64 0] [(0,1,(.t 63)),(1,1,(.t 64))]),ei 66 2 98 [.t 65],gF 67 2 98 61 66,I 9 67] (aa [I 68 9,I 69 0,I 70 8,b5 71 (.lsl 2 (.t 69) (some (.t 70)) none),gF 72 2 98 68 71,I 6 72,be 7 true] .ret))))))))
@[simp] def vT:List bt:=[.tmp 6,.tmp 7]
def H7:C:=(aa [cx 4 1,ej 6 2,be 7 false] (.seq (aa [aW 13 4 4,I 14 2,b7 15 210 13 14] (aT 15 (aa [ej 6 2,be 7 false] .ret) .skip)) (.seq (aa [aW 16 4 4,dn 17 58 [.t 16,(.c (.slice 1 .nil []))],cn 18 17,bV 19 0] (fw 20 19 18 (.seq (.block 1 (aa [ct 21 1 17 19,ax 22 1 21,I 9 22] (aa [I 23 9,I 24 2,b5 25 (.build [.int .i64 0,.str []] [(0,1,(.t 23)),(1,1,(.t 24))]),c3 (.alloc 10 none (.agg [.int .i64 0,.str []])),bK 2 10 25] (aa [bV 11 0] (.seq (.block 2 (.loop (.seq (.seq (.drawn true 68 [I 26 11,I 27 0,cn 28 27,bo 29 .lss 26 28,I 30 29,b3 30 true 31 0,b3 30 true 32 11,aq 30 true (ct 33 2 31 32),aq 30 true (aW 34 2 33),aq 30 true (aW 35 2 10),aq 30 true (b7 36 147 34 35),dz 37 30 36]) (aT 37 .skip (.exit 2))) (.block 3 (.region [I 38 11,aU 39 .add 38 1,I 11 39]))))) (.seq (.drawn true 68 [I 40 11,I 41 0,cn 42 41,bo 43 .eql 40 42,I 44 43,aq 44 false (aW 45 2 10),b3 44 false 46 0,b3 44 false 47 11,aq 44 false (ct 48 2 46 47),aq 44 false (aW 49 2 48),aq 44 false (b7 50 147 45 49),c2 51 44 50]) (aT 51 (aa [ei 52 2 100 [],I 53 0,I 54 11,b5 55 (.lsl 2 (.t 53) none (some (.t 54))),gF 56 2 100 52 55,I 12 56] (aa [I 57 12,aW 58 2 10,ei 59 2 100 [.t 58],gF 60 2 100 57 59,I 12 60] (.region [I 61 12,I 62 0,I 63 11,b5 64 (.lsl 2 (.t 62) (some (.t 63)) none),gF 65 2 100 61 64,I 0 65]))) .skip))))))) (.fg false 0 (.region [aU 66 .add 19 1,I 19 66]))))) (aa [I 67 0,I 6 67,be 7 true] .ret))))
@[simp] def LK:List bt:=[.tmp 6,.tmp 7]
def yC:C:=(aa [cx 2 0,be 4 false] (.seq (aa [aF 7 3 1 2,ax 8 1 7,cn 9 8,bV 10 0] (fw 11 10 9 (.seq (.block 1 (aa [ct 12 4 8 10,aW 13 4 12,dk 6 dO,bK 4 6 13] (aa [aW 14 4 6,I 15 1,b7 16 210 14 15] (aT 16 (aa [be 4 true] .ret) .skip)))) (.region [aU 17 .add 10 1,I 10 17])))) (aa [aF 18 0 1 2,ax 19 1 18,aU 20 .eql 19 2,I 21 20,aq 21 true (aF 22 2 1 2),aq 21 true (ax 23 1 22),b3 21 true 24 1,aq 21 true (bo 25 .eql 23 24),dz 26 21 25,I 4 26] .ret)))
@[simp] def vS:List bt:=[.tmp 4]
def uJ:List (Nat×dC):=[
 (3,⟨1,8,.int .i64,.int .i64 0⟩),
 (9,⟨1,16,.str,.str []⟩),
 (27,⟨1,24,.slice 30,.slice 4 .nil []⟩),
 (30,⟨4,56,.struct [(0,3),(1,3),(2,9),(3,27)],.agg [.int .i64 0,.int .i64 0,.str [],.slice 4 .nil []]⟩),
 (48,⟨1,24,.slice 98,.slice 2 .nil []⟩),
 (49,⟨1,24,.slice 100,.slice 2 .nil []⟩),
 (76,⟨1,24,.slice 3,.slice 1 .nil []⟩),
 (98,⟨2,16,.struct [(0,3),(1,3)],.agg [.int .i64 0,.int .i64 0]⟩),
 (100,⟨2,24,.struct [(0,3),(1,9)],.agg [.int .i64 0,.str []]⟩)]
theorem l3:fM al uJ=true:=by kernel_rfl
theorem aio:bX uJ Pu CS 1 Tryz.f78=true:=by kernel_rfl
theorem abW:al.funcs[(78:Nat)]? =some Tryz.f78:=Tryz.func78
theorem aip:bX uJ Pw Ae 1 Tryz.f79=true:=by kernel_rfl
theorem abX:al.funcs[(79:Nat)]? =some Tryz.f79:=Tryz.func79
theorem Lb:bX uJ D3 akc 2 Tryz.f147=true:=by kernel_rfl
theorem IM:al.funcs[(147:Nat)]? =some Tryz.f147:=Tryz.func147
theorem aiN:bX uJ PV LJ 2 Tryz.f149=true:=by kernel_rfl
theorem acn:al.funcs[(149:Nat)]? =some Tryz.f149:=Tryz.func149
theorem aiO:bX uJ PW LL 2 Tryz.f150=true:=by kernel_rfl
theorem aco:al.funcs[(150:Nat)]? =some Tryz.f150:=Tryz.func150
theorem CG:bX uJ yD vT 3 Tryz.f151=true:=by kernel_rfl
theorem Bi:al.funcs[(151:Nat)]? =some Tryz.f151:=Tryz.func151
theorem UJ:bX uJ H7 LK 3 Tryz.f181=true:=by kernel_rfl
theorem QU:al.funcs[(181:Nat)]? =some Tryz.f181:=Tryz.func181
theorem CF:bX uJ yC vS 2 Tryz.f210=true:=by kernel_rfl
theorem Bh:al.funcs[(210:Nat)]? =some Tryz.f210:=Tryz.func210
end Go.Proofs.YtahlgcidhnjlbaaGreat
namespace Go.Proofs.YtahlgcidhnjlbaaGreat
open Go Go.Pv
open Classical in
theorem amt(l:List bJ):bG al 78 [.slice 2 .no (l.map bJ.e)] (.bool (decide (iV l))):=by
 generalize bh:decide (iV l)=R;refine bd l3 abW aio fun aP=>?_;unfold Pu;have eT:l.length≤68719476736:=by simp[eC,ec,ev,lim]at aP;omega
 simp;refine dV [0,5,6] (fun i (_:Unit)=>[(7,.int .i64 i)]) l.length (fun i _=> ∀j,j<i→h0 lY mY l j) () b1 (fun k ad=>by omega) (fun _ af _=>?_) (fun i _ hi af _=>?_)
 ·have:R=true:=by rw[←bh,fE,Fp];exact af
  rw[this];exact b0
 ·obtain⟨b,ae⟩:∃b,l[i]? =some b:=⟨_,cf hi⟩;obtain⟨c,ay⟩:∃c,l[i-1]? =some c:=⟨_,cf (by omega)⟩;have cJ:∀h,(l[i]'h)=b:=fun h=>by rw[cf hi]at ae;exact fh ae
  have dj:¬h0 lY mY l i→R=false:=fun h=>by rw[←bh,hE];exact fun cr=>h (Fp.1 cr i hi)
  have dc:h0 lY mY l i→∀j,j<i+1→h0 lY mY l j:=fun h j jh=>by
   by_cases e:j=i
   ·rw[e];exact h
   ·exact af j (by omega)
  have o6:h0 lY mY l i→lY b:=fun h=>(h b ae).1;have bC:h0 lY mY l i→0<i→c.v<b.v:=fun h bB=>(h b ae).2 c bB ay;have eD:lY b→(0<i→c.v<b.v)→h0 lY mY l i:=fun J U bO fR=>by rw[ae]at fR;cases fR;exact⟨J,fun cl bB gT=>by rw[ay]at gT;cases gT;exact U bB⟩
  unfold lY at o6 eD;by_cases g0:0<i∧¬c.v<b.v
  ·rw[dj (fun h=>g0.2 (bC h g0.1))];have aol:=g0.1;have u5:b.v≤c.v:=by omega
   exact b0
  have aQ:(decide (0<i)&&decide (b.v≤c.v))=false:=by simp;intro h;by_cases cM:c.v<b.v;exact cM;exact absurd ⟨h,cM⟩ g0
  by_cases g1:0≤b.v∧b.v≤100000;rotate_left
  ·rw[dj (fun h=>g1 (o6 h).1)];have kV:decide (0≤b.v∧b.v≤100000)=false:=by simp only[hE];exact g1
   by_cases bB:0<i
   ·have u5:¬b.v≤c.v:=by simp[bB]at aQ;omega
    simp[hi,cJ,ay];(with_reducible repeat' first|refine aj ?_|refine aD (dt _ _ _) ?_|refine aE (dt _ _ _) ?_|simp[cJ,ay,hi,bB,u5,kV,g1]);all_goals simp[bu,CS,aX,aY,aV]
   ·obtain rfl:i=0:=by omega
    simp[hi,cJ,ay];(with_reducible repeat' first|refine aj ?_|refine aD (dt _ _ _) ?_|refine aE (dt _ _ _) ?_|simp[cJ,ay,hi,kV,g1]);all_goals simp[bu,CS,aX,aY,aV]
  have kV:decide (0≤b.v∧b.v≤100000)=true:=by simp only[fE];exact g1
  by_cases g2:b.k=2∨b.k=3;rotate_left
  ·rw[dj (fun h=>g2 (o6 h).2)];have g21:(b.k !=2)=true:=by simp;omega
   have g22:(b.k !=3)=true:=by simp;omega
   by_cases bB:0<i
   ·have u5:¬b.v≤c.v:=by simp[bB]at aQ;omega
    simp[hi,cJ,ay];(with_reducible repeat' first|refine aj ?_|refine aD (dt _ _ _) ?_|refine aE (dt _ _ _) ?_|simp[cJ,ay,hi,bB,u5,kV,g1,g21,g22]);all_goals simp[bu,CS,aX,aY,aV]
   ·obtain rfl:i=0:=by omega
    simp[hi,cJ,ay];(with_reducible repeat' first|refine aj ?_|refine aD (dt _ _ _) ?_|refine aE (dt _ _ _) ?_|simp[cJ,ay,hi,kV,g1,g21,g22]);all_goals simp[bu,CS,aX,aY,aV]
  have dx:=dc (eD ⟨g1,g2⟩ fun bB=>by simp[bB]at aQ;omega);have acH:((b.k !=2)=false)∨((b.k !=2)=true∧(b.k !=3)=false):=by
   rcases g2 with h|h
   ·left;simp[h]
   ·right;simp[h]
  rcases acH with g21|⟨g21,g22⟩
  ·by_cases bB:0<i
   ·have u5:¬b.v≤c.v:=by simp[bB]at aQ;omega
    simp[hi,cJ,ay];(with_reducible repeat' first|refine aj ?_|refine aD (dt _ _ _) ?_|refine aE (dt _ _ _) ?_|simp[cJ,ay,hi,bB,u5,kV,g1,g21]);all_goals exact bP.rng () hi dx b1
   ·obtain rfl:i=0:=by omega
    simp[hi,cJ,ay];(with_reducible repeat' first|refine aj ?_|refine aD (dt _ _ _) ?_|refine aE (dt _ _ _) ?_|simp[cJ,ay,hi,kV,g1,g21]);all_goals exact bP.rng () hi dx b1
  ·by_cases bB:0<i
   ·have u5:¬b.v≤c.v:=by simp[bB]at aQ;omega
    simp[hi,cJ,ay];(with_reducible repeat' first|refine aj ?_|refine aD (dt _ _ _) ?_|refine aE (dt _ _ _) ?_|simp[cJ,ay,hi,bB,u5,kV,g1,g21,g22]);all_goals exact bP.rng () hi dx b1
   ·obtain rfl:i=0:=by omega
    simp[hi,cJ,ay];(with_reducible repeat' first|refine aj ?_|refine aD (dt _ _ _) ?_|refine aE (dt _ _ _) ?_|simp[cJ,ay,hi,kV,g1,g21,g22]);all_goals exact bP.rng () hi dx b1
theorem lH(a b:bj):bG al 147 [a.e,b.e] (.bool (hB fc a b)):=by
 rw[←Uj];have bh:sL a b=(decide (a.v<b.v)||(a.v==b.v&&hl a.s b.s)):=rfl;rcases Int.lt_trichotomy a.v b.v with h|h|h
 ·have:sL a b=true:=by rw[bh];simp[h]
  rw[this];refine bd l3 IM Lb fun aP=>?_;unfold D3;exact b0
 ·have J:¬a.v<b.v:=by omega
  have U:(a.v==b.v)=true:=by simp[h]
  have:sL a b=hl a.s b.s:=by rw[bh];simp[h]
  rw[this];refine bd l3 IM Lb fun aP=>?_;unfold D3;exact b0
 ·have J:¬a.v<b.v:=by omega
  have U:¬a.v=b.v:=by omega
  have ao:(a.v==b.v)=false:=by simp[U]
  have:sL a b=false:=by rw[bh];simp[J,U]
  rw[this];refine bd l3 IM Lb fun aP=>?_;unfold D3;exact b0
end Go.Proofs.YtahlgcidhnjlbaaGreat
namespace Go.Proofs.YtahlgcidhnjlbaaGreat
open Go Go.Pv
def S3(l:List cW)(i:Nat)(_:Unit):Prop:= ∀j,j<i→zR l j
open Classical in
theorem al2(l:List cW):bG al 145 [.slice 5 .no (l.map cW.e)] (.bool (decide (yq l))):=by
 generalize bh:decide (yq l)=R;refine bd eH ace aiF fun aP=>?_;unfold PM;have eT:l.length≤68719476736:=by simp[eC,ec,ev,lim]at aP;omega
 simp;refine dV [0,5,6] (fun i (_:Unit)=>[(7,.int .i64 i)]) l.length (S3 l) () b1 (fun k ad=>by omega) (fun _ af _=>?_) (fun i _ hi af _=>?_)
 ·have:R=decide (l.length≤400):=by rw[←bh,decide_eq_decide];exact⟨fun h=>h.1,fun h=>⟨h,fun j jh=>af j jh⟩⟩
  rw[this];simp;(with_reducible repeat' first|refine aj ?_|simp);simp[bu,LH,aX,aY,aV];all_goals(first|done|omega|(simp;done)|(simp;omega))
 ·obtain⟨b,ae⟩:∃b,l[i]? =some b:=⟨_,cf hi⟩;obtain⟨c,ay⟩:∃c,l[i-1]? =some c:=⟨_,cf (by omega)⟩;have cJ:∀h,(l[i]'h)=b:=fun h=>by rw[cf hi]at ae;exact fh ae
  have dj:¬zR l i→R=false:=fun h=>by rw[←bh,hE];exact fun cr=>h (cr.2 i hi)
  have dc:zR l i→S3 l (i+1) ():=fun h j jh=>by
   by_cases e:j=i
   ·rw[e];exact h
   ·exact af j (by omega)
  simp[hi,cJ,ay];((with_reducible repeat' first|refine aj ?_|refine aD (dt _ _ _) ?_|refine aE (dt _ _ _) ?_|refine aD (wj _) ?_|refine aE (wj _) ?_|simp[cJ,ay,hi]|((first|apply bM|apply bR|apply bQ)<;>intro h<;>try simp at h))<;>(try exact ch));all_goals first
   |(have aw:¬zR l i:=by(intro cr;have J:=cr b ae;have U:=J.2.1 c;have ao:=J.2.2;first|omega|(have a8:=U (by omega) ay;omega)|(rw[ao]at h;cases h)|(simp_all;done)|(simp_all;omega))
     rw[dj aw]
     simp[bu,LH,aX,aY,aV]
     done)
   |(refine bP.rng () hi (dc fun bO fR=>?_) ?_
     ·rw[ae]at fR;cases fR
      refine⟨?_,fun cl bB gT=>?_,?_⟩
      ·omega
      ·rw[ay]at gT;cases gT;omega
      ·first|assumption|simp_all
     ·exact b1)
def mn(n:Int):List Int→List Int
 |[]=>[n]
 |c::l=>if c<n then c::mn n l else if c=n then c::l else n::c::l
def tb(l:List Int):Prop:=l.Pairwise (· < ·)
theorem SV(n:Int):∀(l:List Int) (k:Nat),(∀i c,i<k→l[i]? =some c→c<n)→(∀c,l[k]? =some c→n≤c)→k≤l.length→mn n l=if l[k]? =some n then l else l.take k++n::l.drop k
 |[],k,_,_,ad=>by simp at ad;subst ad;rfl
 |c::l,0,_,U,_=>by
  have:=U c rfl;by_cases e:c=n
  ·simp[mn,e]
  ·have ao:¬c<n:=by omega
   simp[mn,ao,e]
 |c::l,k+1,J,U,ad=>by have bB:=J 0 c (by omega) rfl;simp only[mn,if_pos bB,List.take_succ_cons,List.drop_succ_cons,bT,List.getElem?_cons_succ];rw[SV n l k (fun i d hi aQ=>J (i+1) d (by omega) (by simpa using aQ)) (fun d aQ=>U d (by simpa using aQ)) (by simpa using ad)];split<;>rfl
theorem KH{n m:Int}:∀{l:List Int},m∈mn n l↔m=n∨m∈l
 |[]=>by simp[mn]
 |c::l=>by
  simp only[mn];split
  ·simp only[fU,KH (l:=l)];constructor
   ·rintro(h|h|h)
    ·exact .inr (.inl h)
    ·exact .inl h
    ·exact .inr (.inr h)
   ·rintro(h|h|h)
    ·exact .inr (.inl h)
    ·exact .inl h
    ·exact .inr (.inr h)
  ·split
   ·rename_i h;subst h;simp
   ·simp
theorem SU{n:Int}:∀{l:List Int},tb l→tb (mn n l)
 |[],_=>by simp[mn,tb]
 |c::l,h=>by
  obtain⟨J,U⟩:=mE.1 h;simp only[mn];split
  ·rename_i ao;refine mE.2 ⟨fun m hm=>?_,SU U⟩;rcases KH.1 hm with rfl|hm
   ·exact ao
   ·exact J m hm
  ·split
   ·exact h
   ·refine mE.2 ⟨fun m hm=>?_,h⟩;rcases fU.1 hm with rfl|hm
    ·omega
    ·have:=J m hm;omega
theorem SX(n:Int):∀l:List Int,(mn n l).length≤l.length+1
 |[]=>by simp[mn]
 |c::l=>by
  have:=SX n l;simp only[mn];split
  ·simp;omega
  ·split<;>simp
theorem B6(l:List Int)(i:Nat):(et l)[i]? =(l[i]?).map (ah.int .i64):=by simp[et]
theorem eY(l:List Int):(et l).length=l.length:=by simp[et]
theorem x8:∀l:List Int,cR (et l)=et l
 |[]=>by simp[et,cR]
 |a::l=>by have:=x8 l;simp only[et,gG,cR,dh]at this⊢;rw[this]
theorem Ff(l:List Int)(n:Int)(k:Nat):cR (lJ k (et l)++ah.int .i64 n::nm k (lJ l.length (et l)))=et (lJ k l++n::nm k l):=by
 have e:lJ l.length (et l)=et l:=hn (by simp[et]);have aB:lJ k (et l)++ah.int .i64 n::nm k (et l)=et (lJ k l++n::nm k l):=by simp only[et,List.map_append,gG,List.map_take,List.map_drop]
 rw[e,aB];exact x8 _
theorem alX(l:List Int)(n:Int)(au:l.length≤1000000)(bE:tb l):bG al 126 [.slice 1 .no (et l),.int .i64 n] (.slice 1 .no (et (mn n l))):=by
 refine bd eH ab3 aiv fun aP=>?_;unfold PC;simp;refine u1 [0,1] (fun(k:Nat)=>[(5,.int .i64 k)]) (fun k=>k) (fun k=>k≤l.length∧∀c,l[k]? =some c→n≤c) l.length b1 ⟨by omega,fun c h=>by simp at h⟩ (fun k af _=>?_);obtain⟨ad,af⟩:=af;have vd:(∀c,0<k→l[k-1]? =some c→c<n)→mn n l=if l[k]? =some n then l else l.take k++n::l.drop k:=fun h=>SV n l k (fun i c hi ay=>by
  obtain⟨d,aQ⟩:∃d,l[k-1]? =some d:=⟨_,cf (by omega)⟩;have J:=h d (by omega) aQ;rcases Nat.lt_or_ge i (k-1)with U|U
  ·have sp:=(fN.1 ay);have mg:=(fN.1 aQ);have:=pt.1 bE i (k-1) sp.1 mg.1 U;rw[sp.2,mg.2]at this;omega
  ·have:i=k-1:=by omega
   subst this;rw[aQ]at ay;cases ay;exact J) af ad
 have lq:∀c,l[k]? =some c→∀h,((et l)[k]'h)= .int .i64 c:=fun c h cr=>by have:=B6 l k;rw[h,cf cr]at this;exact fh this
 have dx:(0<k→∃d,l[k-1]? =some d∧d<n)→∀P:Prop,(mn n l=(if l[k]? =some n then l else l.take k++n::l.drop k)→P)→P:=fun h P adF=>adF (vd fun c bB ay=>by obtain⟨d,aQ,J⟩:=h bB;rw[aQ]at ay;cases ay;exact J)
 rcases Nat.eq_zero_or_pos k with bB|fp
 ·have br:decide ((0:Int)<k)=false:=by simp;omega
  refine dx (fun h=>by omega) _ fun e=>?_;by_cases ih:k<l.length
  ·obtain⟨c,ay⟩:∃c,l[k]? =some c:=⟨_,cf ih⟩;have gT:=lq c ay;rw[ay]at e;by_cases q:c=n
   ·have gz:(c==n)=true:=by simp[q]
    rw[if_pos (by rw[q])]at e;rw[e];simp[br,ih];((with_reducible repeat' first|refine aj ?_|simp[br,ih,gT,gz]|((first|apply bM|apply bR|apply bQ)<;>intro h<;>try simp at h))<;>(try exact ch));all_goals simp[bu,xV,aX,aY,aV]
   ·have gz:(c==n)=false:=by simp[q]
    rw[if_neg (by simp[q])]at e;rw[e];simp[br,ih];((with_reducible repeat' first|refine aj ?_|simp[br,ih,gT,gz]|((first|apply bM|apply bR|apply bQ)<;>intro h<;>try simp at h))<;>(try exact ch));all_goals simp[bu,xV,aX,aY,aV]
    all_goals exact Ff l n k
  ·rw[p7 (by omega)]at e;simp only[reduceCtorEq,if_false]at e;rw[e];simp[br,ih];((with_reducible repeat' first|refine aj ?_|simp[br,ih]|((first|apply bM|apply bR|apply bQ)<;>intro h<;>try simp at h))<;>(try exact ch));all_goals simp[bu,xV,aX,aY,aV]
   all_goals exact Ff l n k
 ·obtain⟨d,aQ⟩:∃d,l[k-1]? =some d:=⟨_,cf (by omega)⟩;have ak:((k:Int)-1).toNat=k-1:=by omega
  have aB:∀h,((et l)[k-1]'h)= .int .i64 d:=fun cr=>by have:=B6 l (k-1);rw[aQ,cf cr]at this;exact fh this
  have iG:(0:Int)<k:=by omega
  have lT:k-1<l.length:=by omega
  by_cases ae:n≤d
  ·simp[fp,iG,ak,aB,ae,lT];(with_reducible repeat' first|refine aj ?_|simp[fp,iG,ak,aB,ae,lT]);refine bP.whl (k-1) (by omega) ⟨by omega,fun c ay=>by rw[aQ]at ay;cases ay;exact ae⟩ ?_;have bf:((k-1:Nat):Int)=(k:Int)-1:=by omega
   simp[bf];exact b1
  ·refine dx (fun _=>⟨d,aQ,by omega⟩) _ fun e=>?_;by_cases ih:k<l.length
   ·obtain⟨c,ay⟩:∃c,l[k]? =some c:=⟨_,cf ih⟩;have gT:=lq c ay;rw[ay]at e;by_cases q:c=n
    ·have gz:(c==n)=true:=by simp[q]
     rw[if_pos (by rw[q])]at e;rw[e];simp[fp,iG,ak,aB,ae,lT,ih];((with_reducible repeat' first|refine aj ?_|simp[fp,iG,ak,aB,ae,lT,ih,gT,gz]|((first|apply bM|apply bR|apply bQ)<;>intro h<;>try simp at h))<;>(try exact ch));all_goals simp[bu,xV,aX,aY,aV]
    ·have gz:(c==n)=false:=by simp[q]
     rw[if_neg (by simp[q])]at e;rw[e];simp[fp,iG,ak,aB,ae,lT,ih];(with_reducible repeat' first|refine aj ?_|simp[fp,iG,ak,aB,ae,lT,ih,gT,gz]);all_goals simp[bu,xV,aX,aY,aV]
     all_goals exact Ff l n k
   ·rw[p7 (by omega)]at e;simp only[reduceCtorEq,if_false]at e;rw[e];simp[fp,iG,ak,aB,ae,lT,ih];(with_reducible repeat' first|refine aj ?_|simp[fp,iG,ak,aB,ae,lT,ih]);all_goals simp[bu,xV,aX,aY,aV]
    all_goals exact Ff l n k
def iq:T→List Int→List Int
 | .var n,l=>mn n l
 | .pair a b,l=>iq b (iq a l)
 |_,l=>l
theorem MV:∀(t:T) {l:List Int},tb l→tb (iq t l)
 | .var _,_,h=>SU h
 | .pair a b,_,h=>MV b (MV a h)
 | .nil,_,h=>h
 | .sym _,_,h=>h
 | .num _,_,h=>h
theorem FK{m:Int}:∀(t:T) {l:List Int},m∈iq t l↔t.occ m=true∨m∈l
 | .var n,l=>by simp only[iq,KH,T.occ,dL];constructor<;>rintro(h|h)<;>first|exact .inr h|exact .inl h.symm
 | .pair a b,l=>by
  simp only[iq,FK b,FK a,T.occ,mB];constructor
  ·rintro(h|h|h)
   ·exact .inl (.inr h)
   ·exact .inl (.inl h)
   ·exact .inr h
  ·rintro((h|h)|h)
   ·exact .inr (.inl h)
   ·exact .inl h
   ·exact .inr (.inr h)
 | .nil,l=>by simp[iq,T.occ]
 | .sym _,l=>by simp[iq,T.occ]
 | .num _,l=>by simp[iq,T.occ]
theorem Dk:∀(t:T) (l:List Int),(iq t l).length≤l.length+t.size
 | .var n,l=>by have:=SX n l;simp only[iq,T.size];omega
 | .pair a b,l=>by have J:=Dk a l;have U:=Dk b (iq a l);simp only[iq,T.size];omega
 | .nil,l=>by simp[iq]
 | .sym _,l=>by simp[iq]
 | .num _,l=>by simp[iq]
theorem G7:∀(t:T) (l:List Int),l.length+t.size≤1000000→tb l→bG al 58 [t.e,.slice 1 .no (et l)] (.slice 1 .no (et (iq t l)))
 | .var n,l,au,bE=>by
  simp only[T.size]at au;have key:=alX l n (by omega) bE;refine bd eH Bg CE fun aP=>?_;unfold yB;simp;(with_reducible repeat' first|refine aj ?_|refine aD key ?_|refine aE key ?_|simp);all_goals simp[bu,Ag,aX,aY,aV]
  all_goals simp[iq,x8]
 | .pair a b,l,au,bE=>by
  simp only[T.size]at au;have Kn:=Dk a l;have aS:=G7 a l (by omega) bE;have bp:=G7 b (iq a l) (by omega) (MV a bE);refine bd eH Bg CE fun aP=>?_;unfold yB;simp;refine dV [15,16] (fun i (_:Unit)=>[(1,.slice 1 .no (et (if i=0 then l else if i=1 then iq a l else iq b (iq a l)))),(17,.int .i64 i)]) 2 (fun _ _=>True) () b1 trivial (fun _ _ _=>?_) (fun i _ hi _ _=>?_)
  ·simp;(with_reducible repeat' first|refine aj ?_|simp);simp[bu,Ag,aX,aY,aV];simp[iq,x8]
  ·rcases(by omega:i=0∨i=1)with rfl|rfl
   ·simp;((with_reducible repeat' first|refine aj ?_|refine aD aS ?_|refine aE aS ?_|simp|((first|apply bM|apply bR|apply bQ)<;>intro h<;>try simp at h))<;>(try exact ch));exact bP.rng () hi trivial b1
   ·simp;((with_reducible repeat' first|refine aj ?_|refine aD bp ?_|refine aE bp ?_|simp|((first|apply bM|apply bR|apply bQ)<;>intro h<;>try simp at h))<;>(try exact ch));exact bP.rng () hi trivial b1
 | .nil,l,au,bE=>by refine bd eH Bg CE fun aP=>?_;unfold yB;simp;refine dV [15,16] (fun i (_:Unit)=>[(1,.slice 1 .no (et l)),(17,.int .i64 i)]) 0 (fun _ _=>True) () b1 trivial (fun _ _ _=>?_) (fun i _ hi _ _=>by omega);simp;((with_reducible repeat' first|refine aj ?_|simp|((first|apply bM|apply bR|apply bQ)<;>intro h<;>try simp at h))<;>(try exact ch));simp[bu,Ag,aX,aY,aV];simp[iq,x8]
 | .sym _,l,au,bE=>by refine bd eH Bg CE fun aP=>?_;unfold yB;simp;refine dV [15,16] (fun i (_:Unit)=>[(1,.slice 1 .no (et l)),(17,.int .i64 i)]) 0 (fun _ _=>True) () b1 trivial (fun _ _ _=>?_) (fun i _ hi _ _=>by omega);simp;(with_reducible repeat' first|refine aj ?_|simp);simp[bu,Ag,aX,aY,aV];simp[iq,x8]
 | .num _,l,au,bE=>by refine bd eH Bg CE fun aP=>?_;unfold yB;simp;refine dV [15,16] (fun i (_:Unit)=>[(1,.slice 1 .no (et l)),(17,.int .i64 i)]) 0 (fun _ _=>True) () b1 trivial (fun _ _ _=>?_) (fun i _ hi _ _=>by omega);simp;(with_reducible repeat' first|refine aj ?_|simp);simp[bu,Ag,aX,aY,aV];simp[iq,x8]
def afH(s:List dB)(a b:T)(i:Nat)(_:Unit):Prop:=(1≤i→a.has s=false)∧(2≤i→b.has s=false)
theorem MM(s:List dB):∀t:T,bG al 210 [t.e,.str s] (.bool (t.has s))
 | .pair a b=>by
  have dQ:=MM s a;have dR:=MM s b;refine bd l3 Bh CF fun aP=>?_;unfold yC;simp;refine dV [1,2,8,9] (fun i (_:Unit)=>[(10,.int .i64 i)]) 2 (afH s a b) () b1 ⟨fun h=>by omega,fun h=>by omega⟩ (fun _ af _=>?_) (fun i _ hi af _=>?_)
  ·simp;(with_reducible repeat' first|refine aj ?_|simp);simp[bu,vS,aX,aY,aV];simp[T.has,af.1,af.2]
  ·rcases(by omega:i=0∨i=1)with rfl|rfl
   ·cases bE:a.has s
    ·rw[bE]at dQ;simp;((with_reducible repeat' first|refine aj ?_|refine aD dQ ?_|refine aE dQ ?_|simp|((first|apply bM|apply bR|apply bQ)<;>intro h<;>try simp at h))<;>(try exact ch));exact bP.rng () hi ⟨fun _=>bE,fun h=>by omega⟩ b1
    ·rw[bE]at dQ;simp;((with_reducible repeat' first|refine aj ?_|refine aD dQ ?_|refine aE dQ ?_|simp|((first|apply bM|apply bR|apply bQ)<;>intro h<;>try simp at h))<;>(try exact ch));simp[bu,vS,aX,aY,aV];simp[T.has,bE]
   ·cases ae:b.has s
    ·rw[ae]at dR;simp;((with_reducible repeat' first|refine aj ?_|refine aD dR ?_|refine aE dR ?_|simp|((first|apply bM|apply bR|apply bQ)<;>intro h<;>try simp at h))<;>(try exact ch));exact bP.rng () hi ⟨fun _=>af.1 (by omega),fun _=>ae⟩ b1
    ·rw[ae]at dR;simp;((with_reducible repeat' first|refine aj ?_|refine aD dR ?_|refine aE dR ?_|simp|((first|apply bM|apply bR|apply bQ)<;>intro h<;>try simp at h))<;>(try exact ch));simp[bu,vS,aX,aY,aV];simp[T.has,ae]
 | .sym n=>by
  refine bd l3 Bh CF fun aP=>?_;unfold yC;simp;refine dV [1,2,8,9] (fun i (_:Unit)=>[(10,.int .i64 i)]) 0 (fun i _=>True) () b1 trivial (fun _ af _=>?_) (fun i _ hi af _=>by omega);simp;(with_reducible repeat' first|refine aj ?_|simp);all_goals simp[bu,vS,aX,aY,aV]
  all_goals simp[T.has]
 | .num n=>by
  refine bd l3 Bh CF fun aP=>?_;unfold yC;simp;refine dV [1,2,8,9] (fun i (_:Unit)=>[(10,.int .i64 i)]) 0 (fun i _=>True) () b1 trivial (fun _ af _=>?_) (fun i _ hi af _=>by omega);simp;(with_reducible repeat' first|refine aj ?_|simp);all_goals simp[bu,vS,aX,aY,aV]
  all_goals simp[T.has]
 | .var n=>by
  refine bd l3 Bh CF fun aP=>?_;unfold yC;simp;refine dV [1,2,8,9] (fun i (_:Unit)=>[(10,.int .i64 i)]) 0 (fun i _=>True) () b1 trivial (fun _ af _=>?_) (fun i _ hi af _=>by omega);simp;(with_reducible repeat' first|refine aj ?_|simp);all_goals simp[bu,vS,aX,aY,aV]
  all_goals simp[T.has]
 | .nil=>by
  refine bd l3 Bh CF fun aP=>?_;unfold yC;simp;refine dV [1,2,8,9] (fun i (_:Unit)=>[(10,.int .i64 i)]) 0 (fun i _=>True) () b1 trivial (fun _ af _=>?_) (fun i _ hi af _=>by omega);simp;(with_reducible repeat' first|refine aj ?_|simp);all_goals simp[bu,vS,aX,aY,aV]
  all_goals simp[T.has]
def oz(l:List bJ)(o:Option (List bJ)):ah:= .tuple [.slice 2 .no ((o.getD l).map bJ.e),.bool o.isSome]
@[simp] theorem apD(S:aH→Prop)(l:List bJ)(o:Option (List bJ)):aC S (oz l o)=True:=by simp[oz]
def vw(l:List bJ)(n:Int)(i:Nat):Prop:=i≤l.length∧∀j y,j<i→l[j]? =some y→y.v<n
theorem vw.none{l:List bJ}{n:Int}{i:Nat}(h:vw l n i)(bE:l.Pairwise fun x y=>x.v<y.v)(ay:∀c,l[i]? =some c→n<c.v):k2 l n=none:=xy.2 fun x ab=>by
 obtain⟨j,dW,rfl⟩:=nn ab;have e:=cf dW;rcases Nat.lt_or_ge j i with J|J
 ·have:=h.2 j _ J e;omega
 ·have EL:i<l.length:=by omega
  have aB:=cf EL;have ao:=ay _ aB;rcases Nat.lt_or_ge i j with U|U
  ·have:=pt.1 bE i j EL dW U;omega
  ·obtain rfl:i=j:=by omega
   omega
theorem vw.ins{l:List bJ}{n k:Int}{i:Nat}(h:vw l n i)(ay:∀c,l[i]? =some c→n<c.v):lz ⟨n,k⟩ l=l.take i++⟨n,k⟩::l.drop i:=SY ⟨n,k⟩ l i (fun j y J U=>h.2 j y J U) (fun y aG=>by have:=ay y aG;simp;omega) h.1
theorem vw.step{l:List bJ}{n:Int}{i:Nat}{b:bJ}(h:vw l n i)(ae:l[i]? =some b)(aw:b.v<n):vw l n (i+1):=⟨(fN.1 ae).1,fun j y J U=>by
 rcases(by omega:j<i∨j=i)with ao|rfl
 ·exact h.2 j y ao U
 ·rw[ae]at U;cases U;exact aw⟩
theorem amc(l:List bJ)(au:l.length≤1000000)(bE:l.Pairwise fun x y=>x.v<y.v)(n k:Int):bG al 151 [.slice 2 .no (l.map bJ.e),(T.var n).e,.int .i64 k] (oz l (ka l (.var n) k)):=by
 generalize dm:ka l (.var n) k=O;have dN:(match k2 l n with|some bL=>if bL=k then some l else none|none=>some (lz ⟨n,k⟩ l))=O:=by rw[←dm];rfl
 clear dm;refine bd l3 Bi CG fun aP=>?_;unfold yD;simp;refine u1 [0,2,4] (fun(i:Nat)=>[(8,.int .i64 i)]) (fun i=>l.length-i) (vw l n) 0 b1 ⟨by omega,fun j y h=>by omega⟩ (fun i af _=>?_);have ad:=af.1;by_cases hi:i<l.length
 ·obtain⟨b,ae,cJ⟩:=ed hi;rcases Int.lt_trichotomy b.v n with h|h|h
  ·have ag:=af.step ae h;clear dN af ae bE;simp[hi,cJ,h];((with_reducible repeat' first|refine aj ?_|simp[hi,cJ,h]|((first|apply bM|apply bR|apply bQ)<;>intro h<;>try simp at h))<;>(try exact ch));exact bP.whl (i+1) (by omega) ag b1
  ·have a1:k2 l n=some b.k:=by rw[←h];exact Fs bE (eK ae)
   have J:¬b.v<n:=by omega
   have U:(b.v==n)=true:=by simp[h]
   rw[a1]at dN;simp only at dN;subst dN;clear af ae bE a1;simp[hi,cJ,J,U];(with_reducible repeat' first|refine aj ?_|simp[hi,cJ,J,U]);all_goals simp[bu,vT,aX,aY,aV]
   all_goals(by_cases e:b.k=k<;>simp[oz,e])
  ·have J:¬b.v<n:=by omega
   have U:(b.v==n)=false:=by simp;omega
   have ay:∀c,l[i]? =some c→n<c.v:=fun c ay=>by rw[ae]at ay;cases ay;exact h
   rw[af.none bE ay]at dN;simp only[af.ins ay]at dN;subst dN;clear af ae bE ay;simp[hi,cJ,J,U];(with_reducible repeat' first|refine aj ?_|simp[hi,cJ,J,U]);all_goals simp[bu,vT,aX,aY,aV]
   all_goals simp[oz]
   rw[hn (by simp:(l.map bJ.e).length≤l.length),←List.map_take,←List.map_drop,←gG,←List.map_append];exact Mm _
 ·have ay:∀c,l[i]? =some c→n<c.v:=fun c ay=>by rw[p7 (by omega)]at ay;cases ay
  rw[af.none bE ay]at dN;simp only[af.ins ay]at dN;have EL:i=l.length:=by omega
  clear af bE ay;subst dN;subst EL;simp;(with_reducible repeat' first|refine aj ?_|simp);all_goals simp[bu,vT,aX,aY,aV]
  all_goals simp[oz]
  rw[hn (by simp:(l.map bJ.e).length≤l.length),show [(⟨n,k⟩:bJ).e]=[(⟨n,k⟩:bJ)].map bJ.e from rfl,←List.map_append];exact Mm _
theorem Xg(l:List bJ)(au:l.length≤1000000)(bE:l.Pairwise fun x y=>x.v<y.v)(t:T)(k:Int):bG al 151 [.slice 2 .no (l.map bJ.e),t.e,.int .i64 k] (oz l (ka l t k)):=by
 cases t with
 |var n=>exact amc l au bE n k
 |nil=>
  refine bd l3 Bi CG fun aP=>?_;unfold yD;simp;(with_reducible repeat' first|refine aj ?_|simp);all_goals simp[bu,vT,aX,aY,aV]
  all_goals(by_cases e:0=k<;>simp[oz,ka,e])
 |sym n=>
  refine bd l3 Bi CG fun aP=>?_;unfold yD;simp;(with_reducible repeat' first|refine aj ?_|simp);all_goals simp[bu,vT,aX,aY,aV]
  all_goals(by_cases e:2=k<;>simp[oz,ka,e])
 |num n=>
  refine bd l3 Bi CG fun aP=>?_;unfold yD;simp;(with_reducible repeat' first|refine aj ?_|simp);all_goals simp[bu,vT,aX,aY,aV]
  all_goals(by_cases e:3=k<;>simp[oz,ka,e])
 |pair a b=>
  refine bd l3 Bi CG fun aP=>?_;unfold yD;simp;(with_reducible repeat' first|refine aj ?_|simp);all_goals simp[bu,vT,aX,aY,aV]
  all_goals(by_cases e:4=k<;>simp[oz,ka,e])
theorem Xv(s:List ar)(v:Int):hb s (.var v)=cA s v:=rfl
theorem MN{s:List ar}(ag:eA s){l:List bJ}(au:iV l):bG al 149 [.slice 5 .no (s.map ar.e),.slice 2 .no (l.map bJ.e)] (fS (ga s l [])):=by
 have xg:=sD au;refine bd l3 acn aiN fun aP=>?_;unfold PV;simp;refine dV [0,11,12] (fun i (a:List bJ)=>[(6,.slice 2 .no (a.map bJ.e)),(13,.int .i64 i)]) l.length (S1 s l) [] b1 ⟨⟨by simp,by simp⟩,rfl⟩ (fun a af _=>?_) (fun i a hi af _=>?_)
 ·obtain⟨_,af⟩:=af;rw[List.drop_length]at af;simp only[ga]at af;rw[←af];simp;(with_reducible repeat' first|refine aj ?_|simp);simp[bu,LJ,aX,aY,aV];simp[fS]
 ·obtain⟨bE,af⟩:=af;obtain⟨b,ae,cJ⟩:=ed hi;have n7:=au.at' b (eK ae);rw[la hi,cJ]at af;simp only[ga]at af;have k1:=G8 s ag.len (.var b.v);rw[Xv]at k1;have gj:=Xg a (by have:=sD bE;omega) bE.asc (cA s b.v) b.k;simp[hi,cJ];cases dN:ka a (cA s b.v) b.k with
  |none=>rw[dN]at af gj;simp only at af;rw[←af];simp only[oz]at gj;(with_reducible repeat' first|refine aj ?_|refine aD (j8 _) ?_|refine aE (j8 _) ?_|refine aD k1 ?_|refine aE k1 ?_|refine aD gj ?_|refine aE gj ?_|simp[cJ,hi]);simp[bu,LJ,aX,aY,aV];simp[fS]
  |some bm=>rw[dN]at af gj;simp only[oz]at gj;(with_reducible repeat' first|refine aj ?_|refine aD (j8 _) ?_|refine aE (j8 _) ?_|refine aD k1 ?_|refine aE k1 ?_|refine aD gj ?_|refine aE gj ?_|simp[cJ,hi]);exact bP.rng bm hi ⟨Hv bE (Aq ag n7.1) n7.2 dN,af⟩ b1
end Go.Proofs.YtahlgcidhnjlbaaGreat
namespace Go.Proofs.YtahlgcidhnjlbaaGreat
open Go Go.Pv
open Classical in
theorem amu(l:List bj):bG al 79 [.slice 2 .no (l.map bj.e)] (.bool (decide (hC l))):=by
 generalize bh:decide (hC l)=R;refine bd l3 abX aip fun aP=>?_;unfold Pw;have eT:l.length≤68719476736:=by simp[eC,ec,ev,lim]at aP;omega
 simp;refine dV [0,5,6] (fun i (_:Unit)=>[(7,.int .i64 i)]) l.length (fun i _=> ∀j,j<i→h0 j5 ks l j) () b1 (fun k ad=>by omega) (fun _ af _=>?_) (fun i _ hi af _=>?_)
 ·have:R=true:=by rw[←bh,fE,FF];exact af
  rw[this];exact b0
 ·obtain⟨b,ae⟩:∃b,l[i]? =some b:=⟨_,cf hi⟩;obtain⟨c,ay⟩:∃c,l[i-1]? =some c:=⟨_,cf (by omega)⟩;have cJ:∀h,(l[i]'h)=b:=fun h=>by rw[cf hi]at ae;exact fh ae
  have dj:¬h0 j5 ks l i→R=false:=fun h=>by rw[←bh,hE];exact fun cr=>h (FF.1 cr i hi)
  have dc:h0 j5 ks l i→∀j,j<i+1→h0 j5 ks l j:=fun h j jh=>by
   by_cases e:j=i
   ·rw[e];exact h
   ·exact af j (by omega)
  have gr:∀p:Prop,(p→eo)→(h0 j5 ks l i→p)→R=false:=fun p J U=>dj fun h=>J (U h);have o6:h0 j5 ks l i→j5 b:=fun h=>(h b ae).1;have bC:h0 j5 ks l i→0<i→hB fc c b=true:=fun h bB=>by simpa[hB,ks]using(h b ae).2 c bB ay
  have eD:j5 b→(0<i→hB fc c b=true)→h0 j5 ks l i:=fun J U bO fR=>by rw[ae]at fR;cases fR;exact⟨J,fun cl bB gT=>by rw[ay]at gT;cases gT;simpa[hB,ks]using U bB⟩
  unfold j5 at o6 eD;by_cases g4:0<i
  ·cases g5:hB fc c b
   ·rw[gr _ (fun h=>by rw[h]at g5;cases g5) (fun h=>bC h g4)];simp[hi,cJ,ay];(with_reducible repeat' first|refine aj ?_|refine aD (lH _ _) ?_|refine aE (lH _ _) ?_|simp[cJ,ay,hi,g4,g5]);all_goals simp[bu,Ae,aX,aY,aV]
   ·by_cases g1:0≤b.v∧b.v≤100000;rotate_left
    ·rw[gr _ (fun h=>g1 h) (fun h=>(o6 h).1)];have kV:decide (0≤b.v∧b.v≤100000)=false:=by simp only[hE];exact g1
     simp[hi,cJ,ay];(with_reducible repeat' first|refine aj ?_|refine aD (lH _ _) ?_|refine aE (lH _ _) ?_|refine aD (dt _ _ _) ?_|refine aE (dt _ _ _) ?_|simp[cJ,ay,hi,g4,g5,kV,g1]);all_goals simp[bu,Ae,aX,aY,aV]
    have kV:decide (0≤b.v∧b.v≤100000)=true:=by simp only[fE];exact g1
    cases g3:jy b.s
    ·rw[gr _ (fun h=>by rw[h]at g3;cases g3) (fun h=>(o6 h).2)];have b9:=gN b.s;rw[g3]at b9;simp[hi,cJ,ay];(with_reducible repeat' first|refine aj ?_|refine aD (lH _ _) ?_|refine aE (lH _ _) ?_|refine aD (dt _ _ _) ?_|refine aE (dt _ _ _) ?_|refine aD b9 ?_|refine aE b9 ?_|simp[cJ,ay,hi,g4,g5,kV,g1]);all_goals simp[bu,Ae,aX,aY,aV]
    have b9:=gN b.s;rw[g3]at b9;have dx:=dc (eD ⟨g1,g3⟩ fun _=>g5);simp[hi,cJ,ay];(with_reducible repeat' first|refine aj ?_|refine aD (lH _ _) ?_|refine aE (lH _ _) ?_|refine aD (dt _ _ _) ?_|refine aE (dt _ _ _) ?_|refine aD b9 ?_|refine aE b9 ?_|simp[cJ,ay,hi,g4,g5,kV,g1]);all_goals exact bP.rng () hi dx b1
  ·obtain rfl:i=0:=by omega
   by_cases g1:0≤b.v∧b.v≤100000;rotate_left
   ·rw[gr _ (fun h=>g1 h) (fun h=>(o6 h).1)];have kV:decide (0≤b.v∧b.v≤100000)=false:=by simp only[hE];exact g1
    simp[hi,cJ,ay];(with_reducible repeat' first|refine aj ?_|refine aD (lH _ _) ?_|refine aE (lH _ _) ?_|refine aD (dt _ _ _) ?_|refine aE (dt _ _ _) ?_|simp[cJ,ay,hi,g4,kV,g1]);all_goals simp[bu,Ae,aX,aY,aV]
   have kV:decide (0≤b.v∧b.v≤100000)=true:=by simp only[fE];exact g1
   cases g3:jy b.s
   ·rw[gr _ (fun h=>by rw[h]at g3;cases g3) (fun h=>(o6 h).2)];have b9:=gN b.s;rw[g3]at b9;simp[hi,cJ,ay];(with_reducible repeat' first|refine aj ?_|refine aD (lH _ _) ?_|refine aE (lH _ _) ?_|refine aD (dt _ _ _) ?_|refine aE (dt _ _ _) ?_|refine aD b9 ?_|refine aE b9 ?_|simp[cJ,ay,hi,g4,kV,g1]);all_goals simp[bu,Ae,aX,aY,aV]
   have b9:=gN b.s;rw[g3]at b9;have dx:=dc (eD ⟨g1,g3⟩ fun h=>absurd h g4);simp[hi,cJ,ay];(with_reducible repeat' first|refine aj ?_|refine aD (lH _ _) ?_|refine aE (lH _ _) ?_|refine aD (dt _ _ _) ?_|refine aE (dt _ _ _) ?_|refine aD b9 ?_|refine aE b9 ?_|simp[cJ,ay,hi,g4,kV,g1]);all_goals exact bP.rng () hi dx b1
def o4(s:List dB)(ba:List Int)(l:List bj):List bj:=ba.foldl (fun a v=>j4 fc ⟨v,s⟩ a) l
theorem IU(s:List dB):∀(ba:List Int) {l:List bj},hF fc l→hF fc (o4 s ba l)
 |[],_,h=>h
 |v::ba,_,h=>IU s ba (J5 lD h)
theorem T4(s:List dB){x:bj}:∀(ba:List Int) {l:List bj},x∈o4 s ba l↔x∈l∨(x.s=s∧x.v∈ba)
 |[],l=>by simp[o4]
 |v::ba,l=>by
  have:=T4 s (x:=x) ba (l:=j4 fc ⟨v,s⟩ l);rw[show o4 s (v::ba) l=o4 s ba (j4 fc ⟨v,s⟩ l)from rfl,this,FI lD,fU];constructor
  ·rintro((rfl|h)|⟨J,U⟩)
   ·exact .inr ⟨rfl,.inl rfl⟩
   ·exact .inl h
   ·exact .inr ⟨J,.inr U⟩
  ·rintro(h|⟨J,U|U⟩)
   ·exact .inl (.inr h)
   ·refine .inl (.inl ?_);cases x;simp_all
   ·exact .inr ⟨J,U⟩
theorem Q5(s:List dB):∀(ba:List Int) (l:List bj),(o4 s ba l).length≤l.length+ba.length
 |[],l=>by simp[o4]
 |v::ba,l=>by have J:=Q5 s ba (j4 fc ⟨v,s⟩ l);have U:=J7 (c:=fc) (⟨v,s⟩:bj) l;rw[show o4 s (v::ba) l=o4 s ba (j4 fc ⟨v,s⟩ l)from rfl];simp only[p8];omega
theorem acz{t:T}{s:List dB}(cM:t.has s=false){l:List bj}(bE:hF fc l):lL l t s=some (o4 s (iq t []) l):=Hw cM (IU s _ bE) fun x=>by rw[T4,FK];simp
end Go.Proofs.YtahlgcidhnjlbaaGreat
namespace Go.Proofs.YtahlgcidhnjlbaaGreat
open Go Go.Pv
def Ca(l:List bj)(ba:List Int)(s:List dB)(i:Nat)(a:List bj):Prop:=a=o4 s (ba.take i) l
def zv(a:List bj)(m:bj)(k:Nat):Prop:=k≤a.length∧∀j y,j<k→a[j]? =some y→fc y m<0
theorem zv.step{a:List bj}{m:bj}{k:Nat}{b:bj}(h:zv a m k)(ae:a[k]? =some b)(aw:fc b m<0):zv a m (k+1):=⟨(fN.1 ae).1,fun j y J U=>by
 rcases(by omega:j<k∨j=k)with ao|rfl
 ·exact h.2 j y ao U
 ·rw[ae]at U;cases U;exact aw⟩
theorem zv.fin{a:List bj}{m:bj}{k:Nat}(h:zv a m k)(ay:∀y,a[k]? =some y→0≤fc y m):j4 fc m a=if(match a[k]? with|some y=>decide (fc y m=0)|none=>false)=true then a else a.take k++m::a.drop k:=(J6 lD m a k (fun j y J U=>h.2 j y J U) ay h.1).trans (by cases a[k]?<;>rfl)
theorem Uh(a:List bj)(k:Nat)(m:bj):lJ k (a.map bj.e)++m.e::nm k (a.map bj.e)=(a.take k++m::a.drop k).map bj.e:=by simp
theorem zM(a:List bj)(k:Nat)(m:bj):cR (lJ k (a.map bj.e)++m.e::nm k (a.map bj.e))=lJ k (a.map bj.e)++m.e::nm k (a.map bj.e):=by rw[Uh,Mn]
theorem zL(S:aH→Prop)(a:List bj)(k:Nat)(m:bj):aJ S (lJ k (a.map bj.e)++m.e::nm k (a.map bj.e))=True:=by rw[Uh,Ty]
theorem Ug(a:List bj)(m:bj):a.map bj.e++[m.e]=(a++[m]).map bj.e:=by simp
theorem zK(a:List bj)(m:bj):cR (a.map bj.e++[m.e])=a.map bj.e++[m.e]:=by rw[Ug,Mn]
theorem zJ(S:aH→Prop)(a:List bj)(m:bj):aJ S (a.map bj.e++[m.e])=True:=by rw[Ug,Ty]
theorem amd(l:List bj)(au:l.length≤68719470000)(t:T)(aN:t.size≤5000)(s:List dB)(bE:hF fc l):bG al 181 [.slice 2 .no (l.map bj.e),t.e,.str s] (ja (lL l t s)):=by
 have kp:=MM s t;cases cM:t.has s;rotate_left
 ·have bB:lL l t s=none:=by simp[lL,cM]
  rw[bB];rw[cM]at kp;refine bd l3 QU UJ fun aP=>?_;unfold H7;simp;(with_reducible repeat' first|refine aj ?_|refine aD kp ?_|refine aE kp ?_|simp);all_goals simp[bu,LK,aX,aY,aV]
  all_goals simp[ja]
 ·rw[cM]at kp;have dN:=acz cM bE;have oj:=Dk t [];have pQ:=G7 t [] (by simp;omega) (by simp[tb]);have Jd:et []=[]:=rfl;rw[Jd]at pQ;rw[dN];clear dN cM;generalize iq t []=ba at pQ oj⊢;have ko:ba.length≤5000:=by simp at oj;omega
  generalize gg:o4 s ba l=F;refine bd l3 QU UJ fun aP=>?_;unfold H7;simp;(with_reducible repeat' first|refine aj ?_|refine aD kp ?_|refine aE kp ?_|refine aD pQ ?_|refine aE pQ ?_|simp[eY]);refine dV [2,17,18] (fun i (a:List bj)=>[(0,.slice 2 .no (a.map bj.e)),(19,.int .i64 i)]) ba.length (Ca l ba s) l ⟨by simp[fresh,aJ,aC,cd,inObs,Pv.look,eY],dY (by simp[fresh,aJ,aC,cd,inObs,Pv.look,eY]),dZ (by simp[fresh,aJ,aC,dP,inObs,Pv.look,eY]),by simp⟩ (by simp[Ca,o4]) (fun a af _=>?_) (fun i a hi af _=>?_)
  ·rw[Ca,nP,gg]at af;subst af;simp[eY];(with_reducible repeat' first|refine aj ?_|simp[eY]);all_goals simp[bu,LK,aX,aY,aV]
   all_goals simp[ja]
  ·obtain⟨v,aK⟩:∃v,ba[i]? =some v:=⟨_,cf hi⟩;have qz:∀h,((et ba)[i]'h)= .int .i64 v:=fun cr=>by have:=B6 ba i;rw[aK,cf cr]at this;exact fh this
   have q5:hF fc a:=by rw[af];exact IU s _ bE
   have q6:a.length≤68719475000:=by have:=Q5 s (ba.take i) l;rw[af];simp at this⊢;omega
   have fo:Ca l ba s (i+1) (j4 fc ⟨v,s⟩ a):=by rw[Ca,List.take_succ,aK,af];simp[o4]
   generalize hm:(⟨v,s⟩:bj)=m at fo;have aew:m.v=v:=by rw[←hm]
   have tP:m.s=s:=by rw[←hm]
   subst aew;subst tP;clear af gg;simp[hi,qz,eY];(with_reducible repeat' first|refine aj ?_|simp[hi,qz,eY]);refine u1 [0,2,10,17,18,19] (fun(k:Nat)=>[(11,.int .i64 k)]) (fun k=>a.length-k) (zv a m) 0 ⟨by simp[fresh,aJ,aC,cd,inObs,Pv.look,eY],dY (by simp[fresh,aJ,aC,cd,inObs,Pv.look,eY]),dZ (by simp[fresh,aJ,aC,dP,inObs,Pv.look,eY]),by simp⟩ ⟨by omega,fun j y h=>by omega⟩ (fun k af _=>?_);have ad:=af.1;by_cases hf:k<a.length
   ·obtain⟨b,ae,cJ⟩:=ed hf;cases bC:hB fc b m
    ·have tL:0≤fc b m:=by simpa[hB]using bC
     have dx:=af.fin (fun y aG=>by rw[ae]at aG;cases aG;exact tL);rw[ae]at dx;cases EK:hB fc m b
     ·have hle:0≤fc m b:=by simpa[hB]using EK
      have bB:fc b m=0:=by have:=lD.neg b m;omega
      rw[if_pos (by simp[bB])]at dx;rw[dx]at fo;clear af ae dx q6 q5;simp[hf,cJ];((with_reducible repeat' first|refine aj ?_|refine aD (lH _ _) ?_|refine aE (lH _ _) ?_|simp[hf,cJ,bC,EK]|((first|apply bM|apply bR|apply bQ)<;>intro h<;>try simp at h))<;>(try exact ch));all_goals exact bP.rng a hi fo ⟨by simp[fresh,aJ,aC,cd,inObs,Pv.look,eY],dY (by simp[fresh,aJ,aC,cd,inObs,Pv.look,eY]),dZ (by simp[fresh,aJ,aC,dP,inObs,Pv.look,eY]),by simp⟩
     ·have hle:fc m b<0:=by simpa[hB]using EK
      have bB:¬fc b m=0:=by have:=lD.neg b m;omega
      rw[if_neg (by simp[bB])]at dx;rw[dx]at fo;clear af ae dx q5;simp[hf,cJ];((with_reducible repeat' first|refine aj ?_|refine aD (lH _ _) ?_|refine aE (lH _ _) ?_|simp[hf,cJ,bC,EK]|((first|apply bM|apply bR|apply bQ)<;>intro h<;>try simp at h))<;>(try exact ch));all_goals first|(refine⟨by unfold lim;omega,?_⟩)|skip
      all_goals(with_reducible repeat' first|refine aj ?_|simp)
      all_goals first|(refine⟨by unfold lim;omega,?_⟩)|skip
      all_goals((with_reducible repeat' first|refine aj ?_|simp|((first|apply bM|apply bR|apply bQ)<;>intro h<;>try simp at h))<;>(try exact ch))
      all_goals exact bP.rng _ hi fo ⟨by simp[fresh,aJ,aC,cd,inObs,Pv.look,eY,hn,zM,zL,zK,zJ],dY (by simp[fresh,aJ,aC,cd,inObs,Pv.look,eY,hn,zM,zL,zK,zJ]),dZ (by simp[fresh,aJ,aC,dP,inObs,Pv.look,eY,hn,zM,zL,zK,zJ]),by simp⟩
    ·have vj:fc b m<0:=by simpa[hB]using bC
     have ag:=af.step ae vj;clear af ae q5 fo;simp[hf,cJ];((with_reducible repeat' first|refine aj ?_|refine aD (lH _ _) ?_|refine aE (lH _ _) ?_|simp[hf,cJ,bC]|((first|apply bM|apply bR|apply bQ)<;>intro h<;>try simp at h))<;>(try exact ch));all_goals exact bP.whl (k+1) (by omega) ag ⟨by simp[fresh,aJ,aC,cd,inObs,Pv.look,eY],dY (by simp[fresh,aJ,aC,cd,inObs,Pv.look,eY]),dZ (by simp[fresh,aJ,aC,dP,inObs,Pv.look,eY]),by simp⟩
   ·have dx:=af.fin (fun y aG=>by rw[p7 (by omega)]at aG;cases aG);rw[p7 (by omega)]at dx;simp only[gP,if_false]at dx;rw[dx]at fo;have ih:k=a.length:=by omega
    clear af dx q5;subst ih;simp;(with_reducible repeat' first|refine aj ?_|simp);all_goals first|(refine⟨by unfold lim;omega,?_⟩)|skip
    all_goals(with_reducible repeat' first|refine aj ?_|simp)
    all_goals first|(refine⟨by unfold lim;omega,?_⟩)|skip
    all_goals(with_reducible repeat' first|refine aj ?_|simp)
    all_goals exact bP.rng _ hi fo ⟨by simp[fresh,aJ,aC,cd,inObs,Pv.look,eY,hn,zM,zL,zK,zJ],dY (by simp[fresh,aJ,aC,cd,inObs,Pv.look,eY,hn,zM,zL,zK,zJ]),dZ (by simp[fresh,aJ,aC,dP,inObs,Pv.look,eY,hn,zM,zL,zK,zJ]),by simp⟩
theorem MO{s:List ar}(ag:eA s){l:List bj}(au:hC l){G:List (List dB)}(jJ:G.length≤687000)(a1:nI G l):bG al 150 [.slice 5 .no (s.map ar.e),.slice 2 .no (l.map bj.e)] (ja (gb s l [])):=by
 have hlen:∀{a:List bj},hC a→nI G a→a.length≤68719470000:=fun J U=>by have:=Co J U;omega
 have xg:=hlen au a1;refine bd l3 aco aiO fun aP=>?_;unfold PW;simp;refine dV [0,11,12] (fun i (a:List bj)=>[(6,.slice 2 .no (a.map bj.e)),(13,.int .i64 i)]) l.length (S2 s G l) [] b1 ⟨⟨by simp,by simp[hF]⟩,fun x ab=>by simp at ab,rfl⟩ (fun a af _=>?_) (fun i a hi af _=>?_)
 ·obtain⟨_,_,af⟩:=af;rw[List.drop_length]at af;simp only[gb]at af;rw[←af];simp;(with_reducible repeat' first|refine aj ?_|simp);simp[bu,LL,aX,aY,aV];simp[ja]
 ·obtain⟨bE,B0,af⟩:=af;obtain⟨b,ae,cJ⟩:=ed hi;have n7:=au.at' b (eK ae);have Jh:=a1 b (eK ae);rw[la hi,cJ]at af;simp only[gb]at af;have k1:=G8 s ag.len (.var b.v);rw[Xv]at k1;have gj:=amd a (hlen bE B0) (cA s b.v) (C4 ag b.v) b.s bE.asc;simp[hi,cJ];cases dN:lL a (cA s b.v) b.s with
  |none=>rw[dN]at af gj;simp only at af;rw[←af];simp only[ja]at gj;(with_reducible repeat' first|refine aj ?_|refine aD (j8 _) ?_|refine aE (j8 _) ?_|refine aD k1 ?_|refine aE k1 ?_|refine aD gj ?_|refine aE gj ?_|simp[cJ,hi]);simp[bu,LL,aX,aY,aV];simp[ja]
  |some bm=>rw[dN]at af gj;simp only[ja]at gj;(with_reducible repeat' first|refine aj ?_|refine aD (j8 _) ?_|refine aE (j8 _) ?_|refine aD k1 ?_|refine aE k1 ?_|refine aD gj ?_|refine aE gj ?_|simp[cJ,hi]);exact bP.rng bm hi ⟨Hx bE (Aq ag n7.1) n7.2 dN,Hy B0 Jh dN,af⟩ b1
theorem ak7{s:List ar}(av:pZ s)(bE:iv s)(aI:ho s):gA (s.map ar.b)=s.all (l6 s):=by
 rw[p5,jc,qL,←Wn bE];constructor
 ·rintro⟨ai,J,U,ao,a8⟩;rw[uP J];exact ao
 ·intro ao;exact⟨s,rfl,av,ao,aI⟩
theorem Yo{s:List ar}(bE:iv s)(b:ar):l6 s b=true↔(∀v∈iq b.t [],di s v=none)∧(b.t.kind==1&&decide (b.v≤b.t.int))=false:=by unfold l6;rw[cz,Q6 bE];simp only[true_and,rW,FK,List.not_mem_nil,or_false]
def B9(s:List ar)(ba:List Int)(i:Nat)(_:Unit):Prop:= ∀v∈ba.take i,di s v=none
theorem B9.step{s:List ar}{ba:List Int}{i:Nat}(h:B9 s ba i ()){v:Int}(aK:ba[i]? =some v)(aw:di s v=none):B9 s ba (i+1) ():=fun w hw=>by
 rw[List.take_succ,aK]at hw;simp only[jU,Option.toList_some,List.mem_singleton]at hw;rcases hw with hw|rfl
 ·exact h w hw
 ·exact aw
theorem MR(l:List cW):bG al 76 [.slice 5 .no (l.map cW.e)] (.bool (gA l)):=by
 have aK:=al2 l;by_cases h:yq l;rotate_left
 ·have bB:gA l=false:=by unfold gA;simp only[hE];rintro⟨s,J,U,ao,a8⟩;exact h (Hc.2 ⟨s,J,U,ao.asc,a8⟩)
  rw[bB];refine bd eH QT UI fun aP=>?_;unfold H6;exact b0
 ·obtain⟨s,rfl,av,bE,aI⟩:=Hc.1 h;have au:s.length≤1000000:=by have:=aI.1;omega
  rw[ak7 av bE aI];rw[xF]at aK⊢;simp only[h,decide_true]at aK;clear h;generalize bh:s.all (l6 s)=R;refine bd eH QT UI fun aP=>?_;unfold H6;simp;(with_reducible repeat' first|refine aj ?_|refine aD aK ?_|refine aE aK ?_|simp);refine dV [0,12,13] (fun i (_:Unit)=>[(14,.int .i64 i)]) s.length (pd (l6 s) s) () b1 (fun k b ad=>by omega) (fun _ af _=>?_) (fun i _ hi af _=>?_)
  ·have:R=true:=by rw[←bh,jc];intro b ae;obtain⟨k,ad,e⟩:=nn ae;exact af k b ad (by rw[cf ad,e])
   rw[this];exact b0
  ·obtain⟨b,ae,cJ⟩:=ed hi;have gr:¬l6 s b=true→R=false:=fun h=>by rw[←bh,Bool.eq_false_iff];intro cr;rw[jc]at cr;exact h (cr b (eK ae))
   have re:l6 s b=true→pd (l6 s) s (i+1) ():=fun h=>af.step ae h;have tM:=Yo bE b;have ef:=aI.2 b (eK ae);have oj:=Dk b.t [];have pQ:=G7 b.t [] (by simp;omega) (by simp[tb]);have Jd:et []=[]:=rfl;rw[Jd]at pQ;generalize iq b.t []=ba at pQ oj tM;have ko:ba.length≤5000:=by simp at oj;omega
   rw[tM]at gr re;clear tM af oj ae;simp[hi,cJ];cases ad:(b.t.kind==1&&decide (b.v≤b.t.int));rotate_left
   ·rw[gr (by rw[ad];simp)];rw[cz]at ad;have gp:=ad.1;have kX:b.v≤b.t.int:=of_decide_eq_true ad.2;exact b0
   ·rw[ad]at gr re;simp only[and_true]at gr re;cases gp:(b.t.kind==1)
    ·clear ad;(with_reducible repeat' first|refine aj ?_|refine aD pQ ?_|refine aE pQ ?_|simp[cJ,hi,eY,gp]);refine dV [0,12,13,14,32,33] (fun j (_:Unit)=>[(34,.int .i64 j)]) ba.length (B9 s ba) () ⟨by simp[fresh,aJ,aC,cd,inObs,Pv.look,eY],dY (by simp[fresh,aJ,aC,cd,inObs,Pv.look,eY]),dZ (by simp[fresh,aJ,aC,dP,inObs,Pv.look,eY]),by simp⟩ (fun v aK=>by simp at aK) (fun _ af _=>?_) (fun j _ dW af _=>?_)
     ·have a1:=re (fun v aK=>af v (by rwa[nP]));simp[eY];(with_reducible repeat' first|refine aj ?_|simp[eY]);exact bP.rng () hi a1 ⟨by simp[fresh,aJ,aC,cd,inObs,Pv.look,eY],dY (by simp[fresh,aJ,aC,cd,inObs,Pv.look,eY]),dZ (by simp[fresh,aJ,aC,dP,inObs,Pv.look,eY]),by simp⟩
     ·obtain⟨v,aK⟩:∃v,ba[j]? =some v:=⟨_,cf dW⟩;have qz:∀h,((et ba)[j]'h)= .int .i64 v:=fun cr=>by have:=B6 ba j;rw[aK,cf cr]at this;exact fh this
      have jz:=uK s v au;cases gU:di s v with
      |none=>have aw:=af.step aK gU;rw[gU]at jz;simp only[kB,jW]at jz;clear af re gr gU;simp[dW,qz,eY];(with_reducible repeat' first|refine aj ?_|refine aD jz ?_|refine aE jz ?_|simp[dW,qz,eY]);exact bP.rng () dW aw ⟨by simp[fresh,aJ,aC,cd,inObs,Pv.look,eY],dY (by simp[fresh,aJ,aC,cd,inObs,Pv.look,eY]),dZ (by simp[fresh,aJ,aC,dP,inObs,Pv.look,eY]),by simp⟩
      |some x=>rw[gr (fun h=>by have:=h v (eK aK);rw[gU]at this;cases this)];rw[gU]at jz;simp only[j9,pz]at jz;clear af re gr gU;simp[dW,qz,eY];(with_reducible repeat' first|refine aj ?_|refine aD jz ?_|refine aE jz ?_|simp[dW,qz,eY]);simp[bu,LB,aX,aY,aV]
    ·have kX:¬b.v≤b.t.int:=by rw[gp]at ad;simpa using ad
     clear ad;(with_reducible repeat' first|refine aj ?_|refine aD pQ ?_|refine aE pQ ?_|simp[cJ,hi,eY,gp,kX]);refine dV [0,12,13,14,32,33] (fun j (_:Unit)=>[(34,.int .i64 j)]) ba.length (B9 s ba) () ⟨by simp[fresh,aJ,aC,cd,inObs,Pv.look,eY],dY (by simp[fresh,aJ,aC,cd,inObs,Pv.look,eY]),dZ (by simp[fresh,aJ,aC,dP,inObs,Pv.look,eY]),by simp⟩ (fun v aK=>by simp at aK) (fun _ af _=>?_) (fun j _ dW af _=>?_)
     ·have a1:=re (fun v aK=>af v (by rwa[nP]));simp[eY];(with_reducible repeat' first|refine aj ?_|simp[eY]);exact bP.rng () hi a1 ⟨by simp[fresh,aJ,aC,cd,inObs,Pv.look,eY],dY (by simp[fresh,aJ,aC,cd,inObs,Pv.look,eY]),dZ (by simp[fresh,aJ,aC,dP,inObs,Pv.look,eY]),by simp⟩
     ·obtain⟨v,aK⟩:∃v,ba[j]? =some v:=⟨_,cf dW⟩;have qz:∀h,((et ba)[j]'h)= .int .i64 v:=fun cr=>by have:=B6 ba j;rw[aK,cf cr]at this;exact fh this
      have jz:=uK s v au;cases gU:di s v with
      |none=>have aw:=af.step aK gU;rw[gU]at jz;simp only[kB,jW]at jz;clear af re gr gU;simp[dW,qz,eY];(with_reducible repeat' first|refine aj ?_|refine aD jz ?_|refine aE jz ?_|simp[dW,qz,eY]);exact bP.rng () dW aw ⟨by simp[fresh,aJ,aC,cd,inObs,Pv.look,eY],dY (by simp[fresh,aJ,aC,cd,inObs,Pv.look,eY]),dZ (by simp[fresh,aJ,aC,dP,inObs,Pv.look,eY]),by simp⟩
      |some x=>rw[gr (fun h=>by have:=h v (eK aK);rw[gU]at this;cases this)];rw[gU]at jz;simp only[j9,pz]at jz;clear af re gr gU;simp[dW,qz,eY];(with_reducible repeat' first|refine aj ?_|refine aD jz ?_|refine aE jz ?_|simp[dW,qz,eY]);simp[bu,LB,aX,aY,aV]
theorem Xl{s:List ar}(h:eA s):bG al 76 [.slice 5 .no (s.map ar.e)] (.bool true):=by have:=MR (s.map ar.b);rw[xF,qL.2 ⟨s,rfl,h.ok,h.sol,h.fits⟩]at this;exact this
def PR:C:=(aa [be 2 false] (.seq (aa [I 5 0,cn 6 5,bV 7 0] (fw 8 7 6 (.seq (.block 1 (aa [ct 9 1 5 7,ax 10 1 9,I 4 10] (aa [I 11 4,cD 12 76 11,cu 13 12] (aT 13 (aa [be 2 false] .ret) .skip)))) (.region [aU 14 .add 7 1,I 7 14])))) (aa [be 2 true] .ret)))
@[simp] def aj9:List bt:=[.tmp 2]
def PY:C:=(aa [be 4 false] (.seq (aa [I 7 0,cn 8 7,bV 9 0] (fw 10 9 8 (.seq (.block 1 (aa [ct 11 5 7 9,aW 12 5 11,dk 6 jA,bK 5 6 12] (aa [aF 13 0 1 6,ax 14 1 13,I 15 1,bo 16 .geq 14 15,I 17 16,aq 17 false (hD 18 1 4 6),aq 17 false (aW 19 4 18),b3 17 false 20 1,aq 17 false (b7 21 148 19 20),aq 17 false (cu 22 21),c2 23 17 22] (aT 23 (aa [be 4 false] .ret) .skip)))) (.region [aU 24 .add 9 1,I 9 24])))) (aa [be 4 true] .ret)))
@[simp] def ake:List bt:=[.tmp 4]
def yE:C:=(aa [cx 2 0,be 4 false] (.seq (aa [aF 7 3 1 2,ax 8 1 7,cn 9 8,bV 10 0] (fw 11 10 9 (.seq (.block 1 (aa [ct 12 4 8 10,aW 13 4 12,dk 6 dO,bK 4 6 13] (aa [aW 14 4 6,I 15 1,b7 16 148 14 15,cu 17 16] (aT 17 (aa [be 4 false] .ret) .skip)))) (.region [aU 18 .add 10 1,I 10 18])))) (aa [aF 19 0 1 2,ax 20 1 19,aU 21 .neq 20 1,I 22 21,aq 22 false (aF 23 1 1 2),aq 22 false (ax 24 1 23),b3 22 false 25 1,aq 22 false (bo 26 .lss 24 25),c2 27 22 26,I 4 27] .ret)))
@[simp] def vU:List bt:=[.tmp 4]
def PQ:C:=(aa [ej 4 5] (aa [ei 10 5 113 [],I 5 10] (.seq (aa [I 11 1,cn 12 11,bV 13 0] (fw 14 13 12 (.seq (.block 1 (aa [ct 15 5 11 13,aW 16 5 15,dk 7 jA,bK 5 7 16] (aa [I 18 0,aF 19 0 1 7,ax 20 1 19,b7 21 146 18 20,I 17 21,cC 22 0 17,cC 23 1 17,dk 8 dO,bK 4 8 22,I 9 23] (aa [I 24 9,cu 25 24] (aT 25 (.region [I 26 5,aW 27 5 7,ei 28 5 113 [.t 27],gF 29 5 113 26 28,I 5 29]) .skip))))) (.region [aU 30 .add 13 1,I 13 30])))) (aa [I 31 5,I 4 31] .ret))))
@[simp] def aj8:List bt:=[.tmp 4]
def PU:C:=(aa [ej 2 1] (aa [ei 11 1 46 [],I 3 11] (.seq (.seq (.fg false 3 (.region [I 12 0,cn 13 12,bV 14 0])) (fw 15 14 13 (.seq (.block 1 (aa [ct 16 1 12 14,ax 17 1 16,I 5 17] (aa [be 6 true] (.seq (aa [I 18 0,cn 19 18,bV 20 0] (.block 2 (.loop (aa [bo 21 .lss 20 19] (.seq (aT 21 .skip (.exit 2)) (.seq (.block 3 (aa [ct 22 1 18 20,ax 23 1 22,I 8 23] (.region [I 24 6,I 25 24,b3 25 true 26 8,b3 25 true 27 5,aq 25 true (b7 28 155 26 27),aq 25 true (aU 29 .eql 28 0),b3 25 true 30 29,b3 30 false 31 8,b3 30 false 32 5,aq 30 false (b7 33 203 31 32),aq 30 false (cu 34 33),aq 25 true (c2 35 30 34),dz 36 25 35,I 6 36]))) (.region [aU 37 .add 20 1,I 20 37]))))))) (aa [I 38 3,cn 39 38,I 9 39] (.seq (.block 4 (.loop (.seq (aa [I 40 9,aU 41 .gtr 40 0,I 42 41,b3 42 true 43 3,b3 42 true 44 9,aq 42 true (aU 45 .sub 44 1),aq 42 true (ct 46 1 43 45),aq 42 true (ax 47 1 46),b3 42 true 48 5,aq 42 true (b7 49 155 47 48),aq 42 true (aU 50 .geq 49 0),dz 51 42 50] (aT 51 .skip (.exit 4))) (.block 5 (.region [I 52 9,aU 53 .sub 52 1,I 9 53]))))) (aa [I 54 6,I 55 54,b3 55 true 56 9,b3 55 true 57 3,aq 55 true (cn 58 57),aq 55 true (bo 59 .eql 56 58),b3 55 true 60 59,b3 60 false 61 3,b3 60 false 62 9,aq 60 false (ct 63 1 61 62),aq 60 false (ax 64 1 63),b3 60 false 65 5,aq 60 false (b7 66 155 64 65),aq 60 false (aU 67 .neq 66 0),aq 55 true (c2 68 60 67),dz 69 55 68] (aT 69 (aa [ei 70 1 46 [],I 71 3,I 72 9,b5 73 (.lsl 1 (.t 71) none (some (.t 72))),gF 74 1 46 70 73,I 10 74] (aa [I 75 10,I 76 5,ei 77 1 46 [.t 76],gF 78 1 46 75 77,I 10 78] (.region [I 79 10,I 80 3,I 81 9,b5 82 (.lsl 1 (.t 80) (some (.t 81)) none),gF 83 1 46 79 82,I 3 83]))) .skip)))))))) (.fg false 3 (.region [aU 84 .add 14 1,I 14 84]))))) (aa [I 85 3,I 2 85] .ret))))
@[simp] def akb:List bt:=[.tmp 2]
def PS:C:=(aa [bV 4 0] (.seq (aa [bV 5 0] (.block 0 (.loop (.seq (aa [I 7 5,I 8 0,cn 9 8,bo 10 .lss 7 9,I 11 10,b3 11 true 12 5,b3 11 true 13 1,aq 11 true (cn 14 13),aq 11 true (bo 15 .lss 12 14),dz 16 11 15] (aT 16 .skip (.exit 0))) (.seq (.block 1 (.seq (.seq (.drawn true 67 [I 19 0,I 20 5,ct 21 5 19 20,aF 22 0 1 21,ax 23 1 22,I 24 1,I 25 5,ct 26 5 24 25,aF 27 0 1 26,ax 28 1 27,bo 29 .neq 23 28]) (aT 29 (.seq (.drawn true 67 [I 30 0,I 31 5,ct 32 5 30 31,aF 33 0 1 32,ax 34 1 33,I 35 1,I 36 5,ct 37 5 35 36,aF 38 0 1 37,ax 39 1 38,bo 40 .lss 34 39,cD 41 188 40,I 4 41]) .ret) .skip)) (.seq (.drawn true 67 [I 42 0,I 43 5,ct 44 5 42 43,hD 45 1 4 44,aW 46 4 45,I 47 1,I 48 5,ct 49 5 47 48,hD 50 1 4 49,aW 51 4 50,b7 52 125 46 51,I 6 52]) (aa [I 53 6,aU 54 .neq 53 0] (aT 54 (aa [I 55 6,I 4 55] .ret) .skip))))) (.region [I 17 5,aU 18 .add 17 1,I 5 18])))))) (.seq (aa [I 56 0,cn 57 56,I 58 1,cn 59 58,bo 60 .neq 57 59] (aT 60 (aa [I 61 0,cn 62 61,I 63 1,cn 64 63,bo 65 .lss 62 64,cD 66 188 65,I 4 66] .ret) .skip)) (aa [bV 4 0] .ret))))
@[simp] def CT:List bt:=[.tmp 4]
def Px:C:=(aa [be 4 false] (.seq (aa [I 11 0,cD 12 76 11,cu 13 12,I 14 13,b3 14 false 15 1,aq 14 false (cD 16 76 15),aq 14 false (cu 17 16),c2 18 14 17] (aT 18 (aa [be 4 false] .ret) .skip)) (.seq (aa [I 19 0,cn 20 19,bV 21 0] (fw 22 21 20 (.seq (.block 1 (aa [ct 23 5 19 21,aW 24 5 23,dk 6 jA,bK 5 6 24] (aa [I 26 1,aF 27 0 1 6,ax 28 1 27,cD 29 114 28,b7 30 60 26 29,I 25 30,cC 31 0 25,cC 32 1 25,dk 7 dO,bK 4 7 31,I 8 32] (aa [I 34 1,hD 35 1 4 6,aW 36 4 35,b7 37 60 34 36,I 33 37,cC 38 0 33,cC 39 1 33,dk 9 dO,bK 4 9 38,I 10 39] (aa [I 40 8,cu 41 40,I 42 41,b3 42 false 43 10,aq 42 false (cu 44 43),c2 45 42 44,I 46 45,aq 46 false (aW 47 4 7),aq 46 false (aW 48 4 9),aq 46 false (b7 49 129 47 48),aq 46 false (cu 50 49),c2 51 46 50] (aT 51 (aa [be 4 false] .ret) .skip)))))) (.region [aU 52 .add 21 1,I 21 52])))) (aa [be 4 true] .ret))))
@[simp] def LA:List bt:=[.tmp 4]
def we:List (Nat×dC):=[
 (3,⟨1,8,.int .i64,.int .i64 0⟩),
 (27,⟨1,24,.slice 30,.slice 4 .nil []⟩),
 (30,⟨4,56,.struct [(0,3),(1,3),(2,9),(3,27)],.agg [.int .i64 0,.int .i64 0,.str [],.slice 4 .nil []]⟩),
 (46,⟨1,24,.slice 113,.slice 5 .nil []⟩),
 (47,⟨1,24,.slice 46,.slice 1 .nil []⟩),
 (113,⟨5,64,.struct [(0,3),(1,30)],.agg [.int .i64 0,.int .i64 0,.int .i64 0,.str [],.slice 4 .nil []]⟩)]
theorem rR:fM al we=true:=by kernel_rfl
theorem aiJ:bX we PR aj9 1 Tryz.f77=true:=by kernel_rfl
theorem aci:al.funcs[(77:Nat)]? =some Tryz.f77:=Tryz.func77
theorem aiQ:bX we PY ake 2 Tryz.f80=true:=by kernel_rfl
theorem acq:al.funcs[(80:Nat)]? =some Tryz.f80:=Tryz.func80
theorem CH:bX we yE vU 2 Tryz.f148=true:=by kernel_rfl
theorem Bj:al.funcs[(148:Nat)]? =some Tryz.f148:=Tryz.func148
theorem aiI:bX we PQ aj8 2 Tryz.f153=true:=by kernel_rfl
theorem ach:al.funcs[(153:Nat)]? =some Tryz.f153:=Tryz.func153
theorem aiM:bX we PU akb 1 Tryz.f154=true:=by kernel_rfl
theorem acm:al.funcs[(154:Nat)]? =some Tryz.f154:=Tryz.func154
theorem aiK:bX we PS CT 2 Tryz.f155=true:=by kernel_rfl
theorem acj:al.funcs[(155:Nat)]? =some Tryz.f155:=Tryz.func155
theorem aiq:bX we Px LA 2 Tryz.f203=true:=by kernel_rfl
theorem abY:al.funcs[(203:Nat)]? =some Tryz.f203:=Tryz.func203
@[simp] def aqw:List bt:=[.tmp 4]
@[simp] def aqE:List bt:=[.tmp 2]
@[simp] def aqL:List bt:=[.tmp 4]
@[simp] def aqH:List bt:=[.tmp 4]
@[simp] def aqF:List bt:=[.tmp 2]
def A4:C:=(aa [cx 2 0,cx 3 1,bV 4 0] (.seq (aa [aF 7 0 1 2,ax 8 1 7,aF 9 0 1 3,ax 10 1 9,bo 11 .neq 8 10] (aT 11 (aa [aF 12 0 1 2,ax 13 1 12,aF 14 0 1 3,ax 15 1 14,bo 16 .lss 13 15,cD 17 188 16,I 4 17] .ret) .skip)) (.seq (aa [aF 18 1 1 2,ax 19 1 18,aF 20 1 1 3,ax 21 1 20,bo 22 .neq 19 21] (aT 22 (aa [aF 23 1 1 2,ax 24 1 23,aF 25 1 1 3,ax 26 1 25,bo 27 .lss 24 26,cD 28 188 27,I 4 28] .ret) .skip)) (.seq (aa [aF 29 2 1 2,ax 30 1 29,aF 31 2 1 3,ax 32 1 31,bo 33 .neq 30 32] (aT 33 (aa [aF 34 2 1 2,ax 35 1 34,aF 36 2 1 3,ax 37 1 36,bo 38 .lss 35 37,cD 39 188 38,I 4 39] .ret) .skip)) (.seq (aa [bV 5 0] (.block 0 (.loop (.seq (aa [I 40 5,aF 41 3 1 2,ax 42 1 41,cn 43 42,bo 44 .lss 40 43,I 45 44,b3 45 true 46 5,aq 45 true (aF 47 3 1 3),aq 45 true (ax 48 1 47),aq 45 true (cn 49 48),aq 45 true (bo 50 .lss 46 49),dz 51 45 50] (aT 51 .skip (.exit 0))) (.seq (.block 1 (.seq (.drawn true 68 [aF 54 3 1 2,ax 55 1 54,I 56 5,ct 57 4 55 56,aW 58 4 57,aF 59 3 1 3,ax 60 1 59,I 61 5,ct 62 4 60 61,aW 63 4 62,b7 64 125 58 63,I 6 64]) (aa [I 65 6,aU 66 .neq 65 0] (aT 66 (aa [I 67 6,I 4 67] .ret) .skip)))) (.region [I 52 5,aU 53 .add 52 1,I 5 53])))))) (aa [bV 4 0] .ret))))))
@[simp] def Af:List bt:=[.tmp 4]
def PF:C:=(aa [cx 2 0,cx 3 1,be 4 false] (aa [aW 5 4 2,aW 6 4 3,b7 7 125 5 6,aU 8 .eql 7 0,I 4 8] .ret))
@[simp] def VF:List bt:=[.tmp 4]
@[simp] def aqy:List bt:=[.tmp 2]
@[simp] def aqG:List bt:=[.tmp 5]
@[simp] def aqI:List bt:=[.tmp 2]
def PG:C:=(aa [bV 2 0] (.seq (aa [I 3 0] (aT 3 (aa [bV 2 (-1)] .ret) .skip)) (aa [bV 2 1] .ret)))
@[simp] def VG:List bt:=[.tmp 2]
@[simp] def aqJ:List bt:=[]
def GX:List (Nat×dC):=[
 (3,⟨1,8,.int .i64,.int .i64 0⟩),
 (4,⟨1,1,.bool,.bool false⟩),
 (9,⟨1,16,.str,.str []⟩),
 (27,⟨1,24,.slice 30,.slice 4 .nil []⟩),
 (30,⟨4,56,.struct [(0,3),(1,3),(2,9),(3,27)],.agg [.int .i64 0,.int .i64 0,.str [],.slice 4 .nil []]⟩),
 (46,⟨1,24,.slice 113,.slice 5 .nil []⟩),
 (47,⟨1,24,.slice 46,.slice 1 .nil []⟩),
 (76,⟨1,24,.slice 3,.slice 1 .nil []⟩),
 (113,⟨5,64,.struct [(0,3),(1,30)],.agg [.int .i64 0,.int .i64 0,.int .i64 0,.str [],.slice 4 .nil []]⟩)]
theorem AA:fM al GX=true:=by kernel_rfl
theorem FV:bX GX A4 Af 2 Tryz.f125=true:=by kernel_rfl
theorem Ek:al.funcs[(125:Nat)]? =some Tryz.f125:=Tryz.func125
theorem aiy:bX GX PF VF 2 Tryz.f129=true:=by kernel_rfl
theorem ab6:al.funcs[(129:Nat)]? =some Tryz.f129:=Tryz.func129
theorem aiz:bX GX PG VG 1 Tryz.f188=true:=by kernel_rfl
theorem ab7:al.funcs[(188:Nat)]? =some Tryz.f188:=Tryz.func188
theorem XY{t u:T}(J:t.kind=u.kind)(U:t.int=u.int)(ao:t.name=u.name)(a8:t.args=u.args):t=u:=by cases t<;>cases u<;>simp_all
theorem qN(b:Bool):bG al 188 [.bool b] (.int .i64 (if b then-1 else 1)):=by
 refine bd AA ab7 aiz fun aP=>?_;unfold PG;simp;((with_reducible repeat' first|refine aj ?_|simp|((first|apply bM|apply bR|apply bQ)<;>intro h<;>try simp at h))<;>(try exact ch));all_goals simp[bu,VG,aX,aY,aV]
 all_goals simp_all
theorem aiT{a b:T}(bE:a.args=[]∨b.args=[])(J:a.kind=b.kind)(U:a.int=b.int):eu a b=ku a.name b.name:=by cases a<;>cases b<;>simp_all[eu]
def B8(a b:T)(i:Nat)(_:Unit):Prop:=a.args.take i=b.args.take i
set_option maxRecDepth 4000 in
theorem W7(a:T)(bS:∀x∈a.args,∀b:T,bG al 125 [x.e,b.e] (.int .i64 (eu x b)))(b:T):bG al 125 [a.e,b.e] (.int .i64 (eu a b)):=by
 have hle:a.args.length≤2:=by cases a<;>simp
 by_cases ad:a.kind=b.kind
 ·by_cases hi:a.int=b.int
  ·by_cases aw:a.name=b.name
   ·have hlen:a.args.length=b.args.length:=by cases a<;>cases b<;>simp at ad⊢
    refine bd AA Ek FV fun aP=>?_;unfold A4;simp[ad,hi,aw];refine dV [2,3] (fun i (_:Unit)=>[(5,.int .i64 i)]) a.args.length (B8 a b) () b1 (by simp[B8]) (fun _ af _=>?_) (fun i _ bC af _=>?_)
    ·simp;(with_reducible repeat' first|refine aj ?_|simp);simp[bu,Af,aX,aY,aV];unfold B8 at af;rw[hn (by omega),hn (by omega)]at af;exact((qF a b).2 (XY ad hi aw af)).symm
    ·have qu:i<b.args.length:=by omega
     obtain⟨x,ab⟩:∃x,x=a.args[i]:=⟨_,rfl⟩;obtain⟨y,aG⟩:∃y,y=b.args[i]:=⟨_,rfl⟩;have pb:=bS x (by rw[ab];exact List.getElem_mem bC) y;simp[bC,qu,←ab,←aG];(with_reducible repeat' first|((first|apply bM|apply bR|apply bQ)<;>intro h<;>try simp at h)|refine aj ?_|refine aD pb ?_|refine aE pb ?_|simp)
     ·simp[bu,Af,aX,aY,aV];unfold B8 at af;cases a with
      |pair bD a2=>
       cases b with
       |pair cc b4=>
        simp at bC af ab aG;rcases(by omega:i=0∨i=1)with rfl|rfl
        ·simp at ab aG;subst ab aG;simp[eu,h]
        ·simp at af ab aG;subst ab aG af;simp[eu,(qF bD bD).2 rfl]
       |_=>simp at ad
      |_=>simp at bC
     ·refine bP.rng () bC ?_ b1;unfold B8 at af⊢;rw[List.take_succ,List.take_succ,af,cf bC,cf qu,←ab,←aG,(qF x y).1 h]
   ·refine bd AA Ek FV fun aP=>?_;unfold A4;simp[ad,hi,aw];((with_reducible repeat' first|refine aj ?_|refine aD (qN _) ?_|refine aE (qN _) ?_|simp|((first|apply bM|apply bR|apply bQ)<;>intro h<;>try simp at h))<;>(try exact ch));simp[bu,Af,aX,aY,aV];have:a.args=[]∨b.args=[]:=by cases a<;>cases b<;>simp at ad aw⊢
    rw[aiT this ad hi,ku,if_neg aw]
  ·refine bd AA Ek FV fun aP=>?_;unfold A4;simp[ad,hi];((with_reducible repeat' first|refine aj ?_|refine aD (qN _) ?_|refine aE (qN _) ?_|simp|((first|apply bM|apply bR|apply bQ)<;>intro h<;>try simp at h))<;>(try exact ch));simp[bu,Af,aX,aY,aV];cases a<;>cases b<;>simp at ad hi
   ·rw[UP];simp[ez];split<;>(try split)<;>omega
   ·rw[UO];simp[ez];split<;>(try split)<;>omega
 ·refine bd AA Ek FV fun aP=>?_;unfold A4;simp[ad];((with_reducible repeat' first|refine aj ?_|refine aD (qN _) ?_|refine aE (qN _) ?_|simp|((first|apply bM|apply bR|apply bQ)<;>intro h<;>try simp at h))<;>(try exact ch));simp[bu,Af,aX,aY,aV];rw[rG ad];simp[ez];split<;>(try split)<;>omega
theorem G4(a:T):∀b:T,bG al 125 [a.e,b.e] (.int .i64 (eu a b)):=by
 induction a with
 |pair x y pb rv=>
  refine W7 _ fun z br=>?_;simp at br;rcases br with rfl|rfl
  ·exact pb
  ·exact rv
 |_=>exact W7 _ fun x ab=>by simp at ab
theorem Xa(a b:T):bG al 129 [a.e,b.e] (.bool (decide (a=b))):=by refine bd AA ab6 aiy fun aP=>?_;unfold PF;simp;(with_reducible repeat' first|refine aj ?_|refine aD (G4 _ _) ?_|refine aE (G4 _ _) ?_|simp);simp[bu,VF,aX,aY,aV];have:=qF a b;by_cases h:eu a b=0<;>simp_all
theorem al6{s t:List ar}(ag:eA s)(aN:eA t):bG al 153 [.slice 5 .no (s.map ar.e),.slice 5 .no (t.map ar.e)] (.slice 5 .no ((eF s t).map ar.e)):=by
 have ae1:=aN.len;generalize bh:eF s t=R;refine bd rR ach aiI fun aP=>?_;unfold PQ;simp;refine hR (α:=List ar) (fun i out=>⟨[(0,.slice 5 .no (s.map ar.e)),(11,.slice 5 .no (t.map ar.e)),(12,.int .i64 t.length),(5,.slice 5 (.own (.loc 0)) (out.map ar.e)),(13,.int .i64 i)],[],[(.loc 0,⟨out.length,113,5,none⟩)],1,[]⟩) t.length (qB s t) [] b1 (by simp[qB,eF]) (fun out af _=>?_) (fun i out hi af _=>?_)
 ·rw[qB,hn (eR _),bh]at af;rw[←af];exact b0
 ·obtain⟨b,aK,fY⟩:=ed hi;have zf:out.length≤1000000:=by
   have:out.length≤(t.take i).length:=by rw[af];exact List.length_filter_le _ _
   simp at this;omega
  have jz:=uK s b.v ag.len;cases ae:di s b.v with
  |none=>
   have aw:qB s t (i+1) (out++[b]):=by rw[qB,oH aK,eF,List.filter_append,af];simp[eF,ae]
   rw[ae]at jz;simp only[kB,jW]at jz;clear af aK ae;simp[hi,fY];(with_reducible repeat' first|refine aj ?_|refine aD jz ?_|refine aE jz ?_|simp[fY,hi]);all_goals first|(refine⟨by unfold lim;omega,?_⟩)|skip
   (with_reducible repeat' first|refine aj ?_|simp);refine bP.rng (out++[b]) hi aw ?_;simp;exact⟨by simp[fresh,aJ,aC,cd,inObs,Pv.look,iW],dY (by simp[fresh,aJ,aC,cd,inObs,Pv.look,iW]),dZ (by simp[fresh,aJ,aC,dP,inObs,Pv.look,iW]),by simp⟩
  |some x=>
   have aw:qB s t (i+1) out:=by rw[qB,oH aK,eF,List.filter_append,af];simp[eF,ae]
   rw[ae]at jz;simp only[j9,pz]at jz;clear af aK ae;simp[hi,fY];(with_reducible repeat' first|refine aj ?_|refine aD jz ?_|refine aE jz ?_|simp[fY,hi]);refine bP.rng out hi aw ?_;exact b1
theorem alD{s t:List ar}(ag:eA s)(aN:eA t):bG al 203 [.slice 5 .no (s.map ar.e),.slice 5 .no (t.map ar.e)] (.bool (na s t)):=by
 have pL:=ag.len;generalize bh:na s t=R;have cV:=Xl ag;have dH:=Xl aN;refine bd rR abY aiq fun aP=>?_;unfold Px;simp;(with_reducible repeat' first|refine aj ?_|refine aD cV ?_|refine aE cV ?_|refine aD dH ?_|refine aE dH ?_|simp);refine dV [1,19,20] (fun i (_:Unit)=>[(21,.int .i64 i)]) s.length (pd (rC t) s) () b1 (fun k b ad=>by omega) (fun _ af _=>?_) (fun i _ hi af _=>?_)
 ·have:R=true:=by rw[←bh,na,jc];intro b ae;obtain⟨k,ad,e⟩:=nn ae;exact af k b ad (by rw[cf ad,e])
  rw[this];exact b0
 ·obtain⟨b,aK,fY⟩:=ed hi;have gr:rC t b=false→R=false:=fun h=>by rw[←bh,Bool.eq_false_iff];intro cr;rw[na,jc]at cr;rw[cr b (eK aK)]at h;cases h
  have aS:=MJ t aN.len (.var b.v);have bp:=MJ t aN.len b.t;have xq:=C4 aN b.v;have E9:((T.var b.v).ap (cA t)).size≤5000:=xq;rw[jd E9]at aS;rw[show(T.var b.v).ap (cA t)=cA t b.v from rfl]at aS;by_cases br:(b.t.ap (cA t)).size≤5000
  ·rw[jd br]at bp;by_cases he:cA t b.v=b.t.ap (cA t)
   ·have aw:=af.step aK (by simp[rC,he]);have fA:=Xa (cA t b.v) (b.t.ap (cA t));rw[jd he]at fA;clear af aK;simp[hi,fY];(with_reducible repeat' first|refine aj ?_|refine aD (j8 _) ?_|refine aE (j8 _) ?_|refine aD aS ?_|refine aE aS ?_|refine aD bp ?_|refine aE bp ?_|refine aD fA ?_|refine aE fA ?_|simp[fY,hi]);exact bP.rng () hi aw b1
   ·rw[gr (by simp[rC,he])];have fA:=Xa (cA t b.v) (b.t.ap (cA t));rw[jn he]at fA;clear af aK;simp[hi,fY];(with_reducible repeat' first|refine aj ?_|refine aD (j8 _) ?_|refine aE (j8 _) ?_|refine aD aS ?_|refine aE aS ?_|refine aD bp ?_|refine aE bp ?_|refine aD fA ?_|refine aE fA ?_|simp[fY,hi]);simp[bu,LA,aX,aY,aV]
  ·rw[jn br]at bp;rw[gr (by simp only[rC,hE];intro e;rw[←e]at br;exact br xq)];clear af aK;simp[hi,fY];(with_reducible repeat' first|refine aj ?_|refine aD (j8 _) ?_|refine aE (j8 _) ?_|refine aD aS ?_|refine aE aS ?_|refine aD bp ?_|refine aE bp ?_|simp[fY,hi]);simp[bu,LA,aX,aY,aV]
theorem ML(d e:List ar):bG al 155 [.slice 5 .no (d.map ar.e),.slice 5 .no (e.map ar.e)] (.int .i64 (ey d e)):=by
 generalize bh:ey d e=R;refine bd rR acj aiK fun aP=>?_;unfold PS;have aQ:d.length≤68719476736:=by simp[eC,ec,ev,lim]at aP;omega
 have he:e.length≤68719476736:=by simp[eC,ec,ev,lim]at aP;omega
 simp;refine u1 [0,1] (fun(i:Nat)=>[(5,.int .i64 i)]) (fun i=>d.length-i) (Ka d e) 0 b1 ⟨by omega,by omega,by simp⟩ (fun i af _=>?_);obtain⟨J,U,ao⟩:=af;rw[bh]at ao;by_cases hi:i<d.length
 ·by_cases hv:i<e.length
  ·obtain⟨x,ab⟩:∃x,d[i]? =some x:=⟨_,cf hi⟩;obtain⟨y,aG⟩:∃y,e[i]? =some y:=⟨_,cf hv⟩;have cy:∀h,(d[i]'h)=x:=fun h=>by rw[cf hi]at ab;exact fh ab
   have eP:∀h,(e[i]'h)=y:=fun h=>by rw[cf hv]at aG;exact fh aG
   have y2:d.drop i=x::d.drop (i+1):=by rw[la hi,cy]
   have y3:e.drop i=y::e.drop (i+1):=by rw[la hv,eP]
   rw[y2,y3]at ao;rw[UM]at ao;by_cases a6:x.v=y.v
   ·have oy:ez x.v y.v=0:=(j6.zero _ _).2 a6;have sQ:(x.v !=y.v)=false:=by simp[a6]
    rw[if_pos oy]at ao;by_cases bz:eu x.t y.t=0
    ·rw[if_pos bz]at ao;have aw:Ka d e (i+1):=⟨by omega,by omega,by rw[bh];exact ao⟩;have kp:=G4 x.t y.t;rw[bz]at kp;clear y2 y3 ab aG ao oy;simp[hi,hv,cy,eP];((with_reducible repeat' first|refine aj ?_|refine aD kp ?_|refine aE kp ?_|simp[cy,eP,hi,hv,a6,sQ]|((first|apply bM|apply bR|apply bQ)<;>intro h<;>try simp at h))<;>(try exact ch));all_goals exact bP.whl (i+1) (by omega) aw b1
    ·rw[if_neg bz]at ao;have kp:=G4 x.t y.t;have xR:(eu x.t y.t !=0)=true:=by simp[bz]
     clear y2 y3 ab aG oy;simp[hi,hv,cy,eP];(with_reducible repeat' first|refine aj ?_|refine aD kp ?_|refine aE kp ?_|simp[cy,eP,hi,hv,a6,sQ,bz,xR]);all_goals simp[bu,CT,aX,aY,aV]
     all_goals exact ao
   ·have oy:¬ez x.v y.v=0:=fun h=>a6 ((j6.zero _ _).1 h);have sQ:(x.v !=y.v)=true:=by simp[a6]
    rw[if_neg oy]at ao;have dE:R=if decide (x.v<y.v)=true then-1 else 1:=by rw[←ao];unfold ez;simp only[fE];(repeat' split)<;>omega
    clear y2 y3 ab aG ao oy;rw[dE];simp[hi,hv,cy,eP];(with_reducible repeat' first|refine aj ?_|refine aD (qN _) ?_|refine aE (qN _) ?_|simp[cy,eP,hi,hv,a6,sQ]);all_goals simp[bu,CT,aX,aY,aV]
  ·have hle:e.length<d.length:=by omega
   have:(1:Int)=R:=by rw[←ao,ey,Cj _ _ _ (.inr (List.drop_eq_nil_of_le (by omega)))];simp only[r1];unfold ez;(repeat' split)<;>omega
   have cF:¬(d.length:Int)=e.length:=by omega
   have JB:((d.length:Int) !=e.length)=true:=by simp;omega
   have jw:¬(d.length:Int)<e.length:=by omega
   have BP:¬d.length<e.length:=by omega
   have aeA:¬d.length=e.length:=by omega
   clear ao;rw[←this];simp[hi,hv];(with_reducible repeat' first|refine aj ?_|refine aD (qN _) ?_|refine aE (qN _) ?_|simp[hi,hv,cF,JB,jw,BP,aeA]);all_goals simp[bu,CT,aX,aY,aV]
   all_goals(try simp[BP])
 ·have eW:i=d.length:=by omega
  by_cases au:d.length=e.length
  ·have:(0:Int)=R:=by rw[←ao,ey,Cj _ _ _ (.inl (List.drop_eq_nil_of_le (by omega)))];simp only[r1];unfold ez;(repeat' split)<;>omega
   clear ao;rw[←this];exact b0
  ·have:(-1:Int)=R:=by rw[←ao,ey,Cj _ _ _ (.inl (List.drop_eq_nil_of_le (by omega)))];simp only[r1];unfold ez;(repeat' split)<;>omega
   have cF:¬(d.length:Int)=e.length:=by omega
   have JB:((d.length:Int) !=e.length)=true:=by simp;omega
   have jw:(d.length:Int)<e.length:=by omega
   have BP:d.length<e.length:=by omega
   clear ao;rw[←this];simp[hi];(with_reducible repeat' first|refine aj ?_|refine aD (qN _) ?_|refine aE (qN _) ?_|simp[hi,cF,JB,jw,BP,au]);all_goals simp[bu,CT,aX,aY,aV]
   all_goals(try simp[BP])
def afG(n:Int)(a b:T)(i:Nat)(_:Unit):Prop:=(1≤i→er n a=true)∧(2≤i→er n b=true)
theorem uL(n:Int):∀t:T,bG al 148 [t.e,.int .i64 n] (.bool (er n t))
 | .pair a b=>by
  have dQ:=uL n a;have dR:=uL n b;refine bd rR Bj CH fun aP=>?_;unfold yE;simp;refine dV [1,2,8,9] (fun i (_:Unit)=>[(10,.int .i64 i)]) 2 (afG n a b) () b1 ⟨fun h=>by omega,fun h=>by omega⟩ (fun _ af _=>?_) (fun i _ hi af _=>?_)
  ·simp;(with_reducible repeat' first|refine aj ?_|simp);simp[bu,vU,aX,aY,aV];simp[er,af.1,af.2]
  ·rcases(by omega:i=0∨i=1)with rfl|rfl
   ·cases bE:er n a
    ·rw[bE]at dQ;simp;(with_reducible repeat' first|refine aj ?_|refine aD dQ ?_|refine aE dQ ?_|simp);simp[bu,vU,aX,aY,aV];simp[er,bE]
    ·rw[bE]at dQ;simp;((with_reducible repeat' first|refine aj ?_|refine aD dQ ?_|refine aE dQ ?_|simp|((first|apply bM|apply bR|apply bQ)<;>intro h<;>try simp at h))<;>(try exact ch));exact bP.rng () hi ⟨fun _=>bE,fun h=>by omega⟩ b1
   ·cases ae:er n b
    ·rw[ae]at dR;simp;((with_reducible repeat' first|refine aj ?_|refine aD dR ?_|refine aE dR ?_|simp|((first|apply bM|apply bR|apply bQ)<;>intro h<;>try simp at h))<;>(try exact ch));simp[bu,vU,aX,aY,aV];simp[er,ae]
    ·rw[ae]at dR;simp;((with_reducible repeat' first|refine aj ?_|refine aD dR ?_|refine aE dR ?_|simp|((first|apply bM|apply bR|apply bQ)<;>intro h<;>try simp at h))<;>(try exact ch));exact bP.rng () hi ⟨fun _=>af.1 (by omega),fun _=>ae⟩ b1
 | .sym v=>by
  refine bd rR Bj CH fun aP=>?_;unfold yE;simp;refine dV [1,2,8,9] (fun i (_:Unit)=>[(10,.int .i64 i)]) 0 (fun i _=>True) () b1 trivial (fun _ af _=>?_) (fun i _ hi af _=>by omega);simp;((with_reducible repeat' first|refine aj ?_|simp|((first|apply bM|apply bR|apply bQ)<;>intro h<;>try simp at h))<;>(try exact ch));all_goals simp[bu,vU,aX,aY,aV]
  all_goals simp[er]
 | .num v=>by
  refine bd rR Bj CH fun aP=>?_;unfold yE;simp;refine dV [1,2,8,9] (fun i (_:Unit)=>[(10,.int .i64 i)]) 0 (fun i _=>True) () b1 trivial (fun _ af _=>?_) (fun i _ hi af _=>by omega);simp;(with_reducible repeat' first|refine aj ?_|simp);all_goals simp[bu,vU,aX,aY,aV]
  all_goals simp[er]
 | .var v=>by
  refine bd rR Bj CH fun aP=>?_;unfold yE;simp;refine dV [1,2,8,9] (fun i (_:Unit)=>[(10,.int .i64 i)]) 0 (fun i _=>True) () b1 trivial (fun _ af _=>?_) (fun i _ hi af _=>by omega);simp;(with_reducible repeat' first|refine aj ?_|simp);all_goals simp[bu,vU,aX,aY,aV]
  all_goals simp[er]
 | .nil=>by
  refine bd rR Bj CH fun aP=>?_;unfold yE;simp;refine dV [1,2,8,9] (fun i (_:Unit)=>[(10,.int .i64 i)]) 0 (fun i _=>True) () b1 trivial (fun _ af _=>?_) (fun i _ hi af _=>by omega);simp;(with_reducible repeat' first|refine aj ?_|simp);all_goals simp[bu,vU,aX,aY,aV]
  all_goals simp[er]
theorem Xh(s:List ar)(n:Int):bG al 80 [.slice 5 .no (s.map ar.e),.int .i64 n] (.bool (s.all (kE n))):=by
 generalize bh:s.all (kE n)=R;refine bd rR acq aiQ fun aP=>?_;unfold PY;have eT:s.length≤68719476736:=by simp[eC,ec,ev,lim]at aP;omega
 simp;refine dV [1,7,8] (fun i (_:Unit)=>[(9,.int .i64 i)]) s.length (pd (kE n) s) () b1 (fun k b ad=>by omega) (fun _ af _=>?_) (fun i _ hi af _=>?_)
 ·have:R=true:=by rw[←bh,jc];intro b ae;obtain⟨k,ad,e⟩:=nn ae;exact af k b ad (by rw[cf ad,e])
  rw[this];exact b0
 ·obtain⟨b,aK,fY⟩:=ed hi;have gr:kE n b=false→R=false:=fun h=>by rw[←bh,Bool.eq_false_iff];intro cr;rw[jc]at cr;rw[cr b (eK aK)]at h;cases h
  have k0:=uL n b.t;by_cases J:b.v<n
  ·have ny:¬n≤b.v:=by omega
   cases U:er n b.t
   ·rw[gr (by simp[kE,U])];rw[U]at k0;clear af aK;exact b0
   ·have aw:=af.step aK (by simp[kE,J,U]);rw[U]at k0;clear af aK;exact hO
  ·have ny:n≤b.v:=by omega
   rw[gr (by simp[kE,J])];clear af aK;exact b0
theorem al8(l:List (List cW)):bG al 77 [.slice 1 .no (l.map fW)] (.bool (l.all gA)):=by
 generalize bh:l.all gA=R;refine bd rR aci aiJ fun aP=>?_;unfold PR;have eT:l.length≤68719476736:=by simp[eC,ec,ev,lim]at aP;omega
 simp;refine dV [5,6] (fun i (_:Unit)=>[(7,.int .i64 i)]) l.length (pd gA l) () b1 (fun k b ad=>by omega) (fun _ af _=>?_) (fun i _ hi af _=>?_)
 ·have:R=true:=by rw[←bh,jc];intro b ae;obtain⟨k,ad,e⟩:=nn ae;exact af k b ad (by rw[cf ad,e])
  rw[this];exact b0
 ·obtain⟨b,aK,fY⟩:=ed hi;have cV:bG al 76 [fW b] (.bool (gA b)):=MR b;cases ae:gA b
  ·have:R=false:=by rw[←bh,Bool.eq_false_iff];intro cr;rw[jc]at cr;rw[cr b (eK aK)]at ae;cases ae
   rw[this];rw[ae]at cV;clear af aK;exact b0
  ·have aw:=af.step aK ae;rw[ae]at cV;clear af aK;exact hO
theorem Qi(a:List (List ar))(k:Nat)(m:List ar):lJ k (a.map cE)++cE m::nm k (a.map cE)=(a.take k++m::a.drop k).map cE:=by simp
theorem qj(a:List (List ar))(k:Nat)(m:List ar):cR (lJ k (a.map cE)++cE m::nm k (a.map cE))=lJ k (a.map cE)++cE m::nm k (a.map cE):=by rw[Qi,Mo]
theorem qi(S:aH→Prop)(a:List (List ar))(k:Nat)(m:List ar):aJ S (lJ k (a.map cE)++cE m::nm k (a.map cE))=True:=by rw[Qi,Tz]
theorem Eb(a:List (List ar))(m:List ar):a.map cE++[cE m]=(a++[m]).map cE:=by simp
theorem oY(a:List (List ar))(m:List ar):cR (a.map cE++[cE m])=a.map cE++[cE m]:=by rw[Eb,Mo]
theorem qh(S:aH→Prop)(a:List (List ar))(m:List ar):aJ S (a.map cE++[cE m])=True:=by rw[Eb,Tz]
theorem Xf(L:List (List ar))(jt:∀d∈L,eA d):bG al 154 [.slice 1 .no (L.map cE)] (.slice 1 .no ((kJ L).map cE)):=by
 generalize bh:kJ L=R;rw[agD]at bh;refine bd rR acm aiM fun aP=>?_;unfold PU;have eT:L.length≤68719476736:=by simp[eC,ec,ev,lim]at aP;omega
 simp;refine dV [0,12,13] (fun i (a:List (List ar))=>[(3,.slice 1 .no (a.map cE)),(14,.int .i64 i)]) L.length (xw L) [] b1 (by simp[xw]) (fun a af _=>?_) (fun i a hi af _=>?_)
 ·rw[xw,nP,bh]at af;subst af;exact b0
 ·obtain⟨e,he,Jl⟩:=ed hi;have q5:hF ey a:=by rw[af];exact KM _ (by simp[hF])
  have q6:a.length≤i:=by have:=Ue (L:=L) (L.take i) [];rw[af];simp at this⊢;omega
  have fo:=af.step he;have lv:=jt e (eK he);have bp:∀d,bG al 155 [cE d,cE e] (.int .i64 (ey d e)):=fun d=>ML d e;clear af he;simp[hi,Jl];(with_reducible repeat' first|refine aj ?_|simp[hi,Jl]);refine dV [0,3,5,12,13,14,18,19] (fun j (b:Bool)=>[(6,.bool b),(20,.int .i64 j)]) L.length (pN L e) true b1 (by simp[pN]) (fun keep af _=>?_) (fun j keep dW af _=>?_)
  ·rw[pN,nP]at af;have R7:keep=iH L e:=af;rw[pX,←R7]at fo;clear af R7;simp;(with_reducible repeat' first|refine aj ?_|simp);refine u1 [0,3,5,6,12,13,14] (fun(k:Nat)=>[(9,.int .i64 k)]) (fun k=>k) (Fi a e) a.length b1 ⟨by omega,fun c h=>by simp at h⟩ (fun k af _=>?_);have ad:=af.1;rcases Nat.eq_zero_or_pos k with bB|fp
   ·have br:decide ((0:Int)<k)=false:=by simp;omega
    have rs:¬(0:Int)<k:=by omega
    have dx:=af.fin q5 fun d h=>by omega
    clear af q5;cases keep with
    |false=>simp only[gP,if_false]at fo;clear dx;exact hO
    |true=>
     simp only[if_true]at fo;by_cases hf:k<a.length
     ·obtain⟨c,ay,j2⟩:=ed hf;rw[ay]at dx;by_cases q:ey c e=0
      ·rw[if_pos (by simp[q])]at dx;rw[dx]at fo;clear dx ay;simp[hf,j2,br,rs];((with_reducible repeat' first|refine aj ?_|refine aD (bp _) ?_|refine aE (bp _) ?_|simp[hf,j2,q,br,rs]|((first|apply bM|apply bR|apply bQ)<;>intro h<;>try simp at h))<;>(try exact ch));all_goals exact bP.rng a hi fo b1
      ·rw[if_neg (by simp[q])]at dx;have gz:(ey c e !=0)=true:=by simp[q]
       rw[dx]at fo;clear dx ay;simp[hf,j2,br,rs];((with_reducible repeat' first|refine aj ?_|refine aD (bp _) ?_|refine aE (bp _) ?_|simp[hf,j2,q,gz,br,rs]|((first|apply bM|apply bR|apply bQ)<;>intro h<;>try simp at h))<;>(try exact ch));all_goals first|(refine⟨by unfold lim;omega,?_⟩)|skip
       all_goals(with_reducible repeat' first|refine aj ?_|simp)
       all_goals first|(refine⟨by unfold lim;omega,?_⟩)|skip
       all_goals((with_reducible repeat' first|refine aj ?_|simp|((first|apply bM|apply bR|apply bQ)<;>intro h<;>try simp at h))<;>(try exact ch))
       all_goals exact bP.rng _ hi fo ⟨by simp[fresh,aJ,aC,cd,inObs,Pv.look,hn,qj,qi,oY,qh],dY (by simp[fresh,aJ,aC,cd,inObs,Pv.look,hn,qj,qi,oY,qh]),dZ (by simp[fresh,aJ,aC,dP,inObs,Pv.look,hn,qj,qi,oY,qh]),by simp⟩
     ·rw[p7 (by omega)]at dx;simp only[gP,if_false]at dx;rw[dx]at fo;have ih:k=a.length:=by omega
      have sn:a.take k++e::a.drop k=a++[e]:=by rw[ih];simp
      rw[sn]at fo;clear dx sn;simp[hf,br,rs];((with_reducible repeat' first|refine aj ?_|refine aD (bp _) ?_|refine aE (bp _) ?_|simp[hf,ih,br,rs]|((first|apply bM|apply bR|apply bQ)<;>intro h<;>try simp at h))<;>(try exact ch));all_goals first|(refine⟨by unfold lim;omega,?_⟩)|skip
      all_goals(with_reducible repeat' first|refine aj ?_|simp)
      all_goals first|(refine⟨by unfold lim;omega,?_⟩)|skip
      all_goals((with_reducible repeat' first|refine aj ?_|simp|((first|apply bM|apply bR|apply bQ)<;>intro h<;>try simp at h))<;>(try exact ch))
      all_goals exact bP.rng _ hi fo ⟨by simp[fresh,aJ,aC,cd,inObs,Pv.look,hn,qj,qi,oY,qh],dY (by simp[fresh,aJ,aC,cd,inObs,Pv.look,hn,qj,qi,oY,qh]),dZ (by simp[fresh,aJ,aC,dP,inObs,Pv.look,hn,qj,qi,oY,qh]),by simp⟩
   ·obtain⟨d,aQ⟩:∃d,a[k-1]? =some d:=⟨_,cf (by omega)⟩;have ak:((k:Int)-1).toNat=k-1:=by omega
    have aB:∀h,(a[k-1]'h)=d:=fun h=>by rw[cf h]at aQ;exact fh aQ
    have iG:(0:Int)<k:=by omega
    have lT:k-1<a.length:=by omega
    by_cases ae:0≤ey d e
    ·have ag:Fi a e (k-1):=⟨by omega,fun c ay=>by rw[aQ]at ay;cases ay;exact ae⟩;clear af q5 fo aQ;simp[fp,iG,ak,aB,ae,lT];((with_reducible repeat' first|refine aj ?_|refine aD (bp _) ?_|refine aE (bp _) ?_|simp[fp,iG,ak,aB,ae,lT]|((first|apply bM|apply bR|apply bQ)<;>intro h<;>try simp at h))<;>(try exact ch));refine bP.whl (k-1) (by omega) ag ?_;have bf:((k-1:Nat):Int)=(k:Int)-1:=by omega
     simp[bf];exact b1
    ·have dx:=af.fin q5 fun b8 _ mg=>by rw[aQ]at mg;cases mg;omega
     clear af q5 aQ;cases keep with
     |false=>simp only[gP,if_false]at fo;clear dx;simp[fp,iG,ak,aB,ae,lT];(with_reducible repeat' first|refine aj ?_|refine aD (bp _) ?_|refine aE (bp _) ?_|simp[fp,iG,ak,aB,ae,lT]);all_goals exact bP.rng a hi fo b1
     |true=>
      simp only[if_true]at fo;by_cases hf:k<a.length
      ·obtain⟨c,ay,j2⟩:=ed hf;rw[ay]at dx;by_cases q:ey c e=0
       ·rw[if_pos (by simp[q])]at dx;rw[dx]at fo;clear dx ay;simp[hf,j2,fp,iG,ak,aB,ae,lT];((with_reducible repeat' first|refine aj ?_|refine aD (bp _) ?_|refine aE (bp _) ?_|simp[hf,j2,q,fp,iG,ak,aB,ae,lT]|((first|apply bM|apply bR|apply bQ)<;>intro h<;>try simp at h))<;>(try exact ch));all_goals exact bP.rng a hi fo b1
       ·rw[if_neg (by simp[q])]at dx;have gz:(ey c e !=0)=true:=by simp[q]
        rw[dx]at fo;clear dx ay;simp[hf,j2,fp,iG,ak,aB,ae,lT];((with_reducible repeat' first|refine aj ?_|refine aD (bp _) ?_|refine aE (bp _) ?_|simp[hf,j2,q,gz,fp,iG,ak,aB,ae,lT]|((first|apply bM|apply bR|apply bQ)<;>intro h<;>try simp at h))<;>(try exact ch));all_goals first|(refine⟨by unfold lim;omega,?_⟩)|skip
        all_goals(with_reducible repeat' first|refine aj ?_|simp)
        all_goals first|(refine⟨by unfold lim;omega,?_⟩)|skip
        all_goals((with_reducible repeat' first|refine aj ?_|simp|((first|apply bM|apply bR|apply bQ)<;>intro h<;>try simp at h))<;>(try exact ch))
        all_goals exact bP.rng _ hi fo ⟨by simp[fresh,aJ,aC,cd,inObs,Pv.look,hn,qj,qi,oY,qh],dY (by simp[fresh,aJ,aC,cd,inObs,Pv.look,hn,qj,qi,oY,qh]),dZ (by simp[fresh,aJ,aC,dP,inObs,Pv.look,hn,qj,qi,oY,qh]),by simp⟩
      ·rw[p7 (by omega)]at dx;simp only[gP,if_false]at dx;rw[dx]at fo;have ih:k=a.length:=by omega
       have sn:a.take k++e::a.drop k=a++[e]:=by rw[ih];simp
       rw[sn]at fo;clear dx sn;simp[hf,fp,iG,ak,aB,ae,lT];((with_reducible repeat' first|refine aj ?_|refine aD (bp _) ?_|refine aE (bp _) ?_|simp[hf,ih,fp,iG,ak,aB,ae,lT]|((first|apply bM|apply bR|apply bQ)<;>intro h<;>try simp at h))<;>(try exact ch));all_goals first|(refine⟨by unfold lim;omega,?_⟩)|skip
       all_goals(with_reducible repeat' first|refine aj ?_|simp)
       all_goals first|(refine⟨by unfold lim;omega,?_⟩)|skip
       all_goals(with_reducible repeat' first|refine aj ?_|simp)
       all_goals exact bP.rng _ hi fo ⟨by simp[fresh,aJ,aC,cd,inObs,Pv.look,hn,qj,qi,oY,qh],dY (by simp[fresh,aJ,aC,cd,inObs,Pv.look,hn,qj,qi,oY,qh]),dZ (by simp[fresh,aJ,aC,dP,inObs,Pv.look,hn,qj,qi,oY,qh]),by simp⟩
  ·obtain⟨d,aQ,hdi⟩:=ed dW;have aw:=af.step aQ;have lV:=jt d (eK aQ);have dT:bG al 203 [cE d,cE e] (.bool (na d e)):=alD lV lv;clear af aQ fo q5;cases keep with
   |false=>simp only[Bool.false_and]at aw;exact hO
   |true=>
    simp only[Bool.true_and,vC]at aw;by_cases q:ey d e=0
    ·rw[jd ((lC.zero _ _).1 q),Bool.true_or]at aw;simp[dW,hdi];(with_reducible repeat' first|refine aj ?_|refine aD (bp _) ?_|refine aE (bp _) ?_|simp[dW,hdi,q]);all_goals exact bP.rng true dW aw b1
    ·rw[jn (fun h=>q ((lC.zero _ _).2 h)),Bool.false_or]at aw;have gz:(ey d e==0)=false:=by simp[q]
     cases a1:na d e
     ·rw[a1]at aw dT;simp[dW,hdi];(with_reducible repeat' first|refine aj ?_|refine aD (bp _) ?_|refine aE (bp _) ?_|refine aD dT ?_|refine aE dT ?_|simp[dW,hdi,q,gz]);all_goals exact bP.rng true dW aw b1
     ·rw[a1]at aw dT;simp[dW,hdi];(with_reducible repeat' first|refine aj ?_|refine aD (bp _) ?_|refine aE (bp _) ?_|refine aD dT ?_|refine aE dT ?_|simp[dW,hdi,q,gz]);all_goals exact bP.rng false dW aw b1
theorem mo.fst{s:List (List ar)}{t:List ar}{acc:List (List ar)}(h:mo s 0 acc)(aN:s[0]? =some t):mo s 1 (if iH s t=true then acc++[t]else acc):=by
 unfold mo at*;rw[sH aN]at h;have e:(if(1:Nat)=0 then none else s[1-1]?)=some t:=by simpa using aN
 have cr:acc++(t::cG (some t) (s.drop 1)).filter (iH s)=(cG none s).filter (iH s):=by rw[←h];simp[cG]
 rw[e,←cr];by_cases ad:iH s t=true<;>simp[ad]
theorem mo.eq{s:List (List ar)}{i:Nat}{t:List ar}{acc:List (List ar)}(h:mo s i acc)(hi:i≠0)(bI:s[i-1]? =some t)(aN:s[i]? =some t):mo s (i+1) acc:=by
 unfold mo at*;rw[if_neg hi,bI,sH aN]at h;have e:(if i+1=0 then none else s[i+1-1]?)=some t:=by rw[if_neg (by omega)];exact aN
 rw[e,←h];simp[cG]
theorem mo.ne{s:List (List ar)}{i:Nat}{p t:List ar}{acc:List (List ar)}(h:mo s i acc)(hi:i≠0)(bI:s[i-1]? =some p)(aN:s[i]? =some t)(aw:¬p=t):mo s (i+1) (if iH s t=true then acc++[t]else acc):=by
 unfold mo at*;rw[if_neg hi,bI,sH aN]at h;have e:(if i+1=0 then none else s[i+1-1]?)=some t:=by rw[if_neg (by omega)];exact aN
 have aQ:cG (some p) (t::s.drop (i+1))=t::cG (some t) (s.drop (i+1)):=by simp[cG,aw]
 rw[aQ]at h;rw[e,←h];by_cases ad:iH s t=true<;>simp[ad]
theorem akW(l:List (List ar)):(oC ey l).length=l.length:=(x7 ey l).length_eq
theorem xz(S:aH→Prop)(l:List (List ar))(d:List ar):aJ S (l.map cE++[cE d])=True:=by have:=Kl S (l++[d]);rw[List.map_append]at this;exact eq_true this
set_option maxRecDepth 4000 in
theorem alC(l:List (List ar))(jt:∀d∈l,eA d):bG al 167 [.slice 1 .no (l.map cE)] (.slice 1 .no ((kJ l).map cE)):=by
 generalize bh:kJ l=R;rw[agC]at bh;refine bd wg aaD ag5 fun aP=>?_;unfold N6;have eT:l.length≤68719476736:=by simp[eC,ec,ev,lim]at aP;omega
 simp;refine dV [0,12,13] (fun i (_:Unit)=>[(14,.int .i64 i)]) l.length (fun _ _=>True) () b1 trivial (fun _ _ _=>?_) (fun i _ hi _ _=>?_);rotate_left
 ·obtain⟨e,he,Jl⟩:=ed hi;have cV:bG al 86 [cE e] (.bool true):=oL (jt e (eK he));exact hO
 simp;(with_reducible repeat' first|refine aj ?_|simp);all_goals first|(refine⟨by unfold lim;omega,?_⟩)|skip
 all_goals(with_reducible repeat' first|refine aj ?_|simp)
 refine c4.ob (adg l eT) (Hl l) (by unfold ti dM;exact aR) (by unfold ti dM;exact aR) (by simp[inObs,dM,Pv.look]) ?_;rintro r ai ⟨rfl,rfl⟩;refine⟨wD _ _,?_⟩;obtain⟨s,BY⟩:∃s,s=oC ey l:=⟨_,rfl⟩;have pL:s.length=l.length:=by rw[BY];exact akW l
 have ag:∀d∈s,eA d:=fun d aQ=>jt d (by rw[BY,Wq]at aQ;exact aQ);rw[←BY]at bh;rw[←BY];clear BY;simp[ti,dM,cv];refine hR (fun i (acc:List (List ar))=>⟨[(5,.ptr (.obj 822) 0),(6,.slice 1 (.own (.loc 0)) (acc.map cE)),(30,.row 1 (.obj 821) s.length),(31,.int .i64 s.length),(32,.int .i64 i)],[(.obj 822,[.row 1 (.obj 821) s.length])],[(.loc 0,⟨acc.length,46,1,none⟩),(.obj 821,⟨s.length,46,1,some (s.map cE)⟩)],1,[.obj 821,.obj 822]⟩) s.length (fun i acc=>acc.length≤i∧mo s i acc) [] b1 ⟨by simp,by simp[mo]⟩ (fun acc af _=>?_) (fun i acc hi af _=>?_)
 ·have af:=af.2;rw[mo,List.drop_length]at af;have:acc=R:=by rw[←bh];simpa[cG]using af
  subst this;exact b0
 ·obtain⟨aoq,af⟩:=af;have q6:acc.length≤68719476735:=by omega
  obtain⟨t,qx,aN⟩:=ed hi;have dc:=ag t (eK qx);have kp:bG al 168 [cE t] (cE t):=G3 t dc.len;have jx:(if iH s t=true then acc++[t]else acc).length≤acc.length+1:=by split<;>simp
  rcases Nat.eq_zero_or_pos i with rfl|fp
  ·have Sj:=af.fst qx;have fo:(if iH s t=true then acc++[t]else acc).length≤0+1∧mo s (0+1) (if iH s t=true then acc++[t]else acc):=⟨jV jx (by omega),Sj⟩;clear af Sj qx;simp[hi,aN];(with_reducible repeat' first|refine aj ?_|simp[hi,aN]);refine dV [5,6,8,30,31,32,49,50] (fun j (b:Bool)=>[(9,.bool b),(51,.int .i64 j)]) s.length (pN s t) true b1 (by simp[pN]) (fun keep af _=>?_) (fun j keep dW af _=>?_)
   ·rw[pN,nP,←Tg]at af;rw[←af]at fo;clear af;cases keep with
    |false=>simp only[gP,if_false]at fo;simp;((with_reducible repeat' first|refine aj ?_|simp|((first|apply bM|apply bR|apply bQ)<;>intro h<;>try simp at h))<;>(try exact ch));all_goals exact bP.rng acc hi fo b1
    |true=>
     simp only[if_true]at fo;clear jx;simp;((with_reducible repeat' first|refine aj ?_|refine aD kp ?_|refine aE kp ?_|simp|((first|apply bM|apply bR|apply bQ)<;>intro h<;>try simp at h))<;>(try exact ch));all_goals first|(refine⟨by unfold lim;omega,?_⟩)|skip
     all_goals(with_reducible repeat' first|refine aj ?_|simp)
     all_goals exact bP.rng (acc++[t]) hi fo ⟨by simp[fresh,aJ,aC,cd,inObs,Pv.look,xz],dY (by simp[fresh,aJ,aC,cd,inObs,Pv.look,xz]),dZ (by simp[fresh,aJ,aC,dP,inObs,Pv.look,xz]),by simp⟩
   ·obtain⟨d,aQ,hdi⟩:=ed dW;have aw:=af.step aQ;have lV:=ag d (eK aQ);have dT:bG al 208 [cE d,cE t] (.bool (na d t)):=Xi d lV.len dc;have ot:bG al 207 [cE d,cE t] (.int .i64 (ey d t)):=G9 d t;clear af aQ fo;by_cases q:ey d t=0
    ·rw[vC,jd ((lC.zero _ _).1 q),Bool.true_or,Bool.and_true]at aw;rw[q]at ot;simp[dW,hdi];((with_reducible repeat' first|refine aj ?_|refine aD ot ?_|refine aE ot ?_|simp[dW,hdi]|((first|apply bM|apply bR|apply bQ)<;>intro h<;>try simp at h))<;>(try exact ch));all_goals exact bP.rng keep dW aw b1
    ·rw[vC,jn (fun h=>q ((lC.zero _ _).2 h)),Bool.false_or]at aw;have gz:(ey d t !=0)=true:=by simp[q]
     cases a1:na d t
     ·rw[a1]at aw dT;simp only[Bool.not_false,Bool.and_true]at aw;simp[dW,hdi];((with_reducible repeat' first|refine aj ?_|refine aD ot ?_|refine aE ot ?_|refine aD dT ?_|refine aE dT ?_|simp[dW,hdi,q,gz]|((first|apply bM|apply bR|apply bQ)<;>intro h<;>try simp at h))<;>(try exact ch));all_goals exact bP.rng keep dW aw b1
     ·rw[a1]at aw dT;simp only[Bool.not_true,Bool.and_false]at aw;simp[dW,hdi];((with_reducible repeat' first|refine aj ?_|refine aD ot ?_|refine aE ot ?_|refine aD dT ?_|refine aE dT ?_|simp[dW,hdi,q,gz]|((first|apply bM|apply bR|apply bQ)<;>intro h<;>try simp at h))<;>(try exact ch));all_goals exact bP.rng false dW aw b1
  ·obtain⟨p,zi⟩:∃p,s[i-1]? =some p:=⟨_,cf (by omega)⟩;have ak:((i:Int)-1).toNat=i-1:=by omega
   have aB:∀h,(s[i-1]'h)=p:=fun h=>by rw[cf h]at zi;exact fh zi
   have bf:¬i=0:=by omega
   have dd:i-1<s.length:=by omega
   have iG:(0:Int)<i:=by omega
   have iV:bG al 207 [cE p,cE t] (.int .i64 (ey p t)):=G9 p t;by_cases E0:p=t
   ·have fo:acc.length≤i+1∧mo s (i+1) acc:=⟨by omega,af.eq bf (by rw[zi,E0]) qx⟩;rw[(lC.zero _ _).2 E0]at iV;clear af qx zi;simp[hi,aN,ak,aB,dd,iG];((with_reducible repeat' first|refine aj ?_|refine aD iV ?_|refine aE iV ?_|simp[hi,aN,ak,aB,dd,fp,iG]|((first|apply bM|apply bR|apply bQ)<;>intro h<;>try simp at h))<;>(try exact ch));all_goals exact bP.rng acc hi fo b1
   ·have fo:(if iH s t=true then acc++[t]else acc).length≤i+1∧mo s (i+1) (if iH s t=true then acc++[t]else acc):=⟨jV jx (by omega),af.ne bf zi qx E0⟩;have oy:¬ey p t=0:=fun h=>E0 ((lC.zero _ _).1 h);have U0:(ey p t==0)=false:=by simp[oy]
    clear af qx zi;simp[hi,aN,ak,aB,dd,iG];((with_reducible repeat' first|refine aj ?_|refine aD iV ?_|refine aE iV ?_|simp[hi,aN,ak,aB,dd,fp,iG,oy,U0]|((first|apply bM|apply bR|apply bQ)<;>intro h<;>try simp at h))<;>(try exact ch));refine dV [5,6,8,30,31,32,49,50] (fun j (b:Bool)=>[(9,.bool b),(51,.int .i64 j)]) s.length (pN s t) true b1 (by simp[pN]) (fun keep af _=>?_) (fun j keep dW af _=>?_)
    ·rw[pN,nP,←Tg]at af;rw[←af]at fo;clear af;cases keep with
     |false=>simp only[gP,if_false]at fo;simp;((with_reducible repeat' first|refine aj ?_|simp|((first|apply bM|apply bR|apply bQ)<;>intro h<;>try simp at h))<;>(try exact ch));all_goals exact bP.rng acc hi fo b1
     |true=>
      simp only[if_true]at fo;clear jx;simp;(with_reducible repeat' first|refine aj ?_|refine aD kp ?_|refine aE kp ?_|simp);all_goals first|(refine⟨by unfold lim;omega,?_⟩)|skip
      all_goals(with_reducible repeat' first|refine aj ?_|simp)
      all_goals exact bP.rng (acc++[t]) hi fo ⟨by simp[fresh,aJ,aC,cd,inObs,Pv.look,xz],dY (by simp[fresh,aJ,aC,cd,inObs,Pv.look,xz]),dZ (by simp[fresh,aJ,aC,dP,inObs,Pv.look,xz]),by simp⟩
    ·obtain⟨d,aQ,hdi⟩:=ed dW;have aw:=af.step aQ;have lV:=ag d (eK aQ);have dT:bG al 208 [cE d,cE t] (.bool (na d t)):=Xi d lV.len dc;have ot:bG al 207 [cE d,cE t] (.int .i64 (ey d t)):=G9 d t;clear af aQ fo;by_cases q:ey d t=0
     ·rw[vC,jd ((lC.zero _ _).1 q),Bool.true_or,Bool.and_true]at aw;rw[q]at ot;simp[dW,hdi];((with_reducible repeat' first|refine aj ?_|refine aD ot ?_|refine aE ot ?_|simp[dW,hdi]|((first|apply bM|apply bR|apply bQ)<;>intro h<;>try simp at h))<;>(try exact ch));all_goals exact bP.rng keep dW aw b1
     ·rw[vC,jn (fun h=>q ((lC.zero _ _).2 h)),Bool.false_or]at aw;have gz:(ey d t !=0)=true:=by simp[q]
      cases a1:na d t
      ·rw[a1]at aw dT;simp only[Bool.not_false,Bool.and_true]at aw;simp[dW,hdi];((with_reducible repeat' first|refine aj ?_|refine aD ot ?_|refine aE ot ?_|refine aD dT ?_|refine aE dT ?_|simp[dW,hdi,q,gz]|((first|apply bM|apply bR|apply bQ)<;>intro h<;>try simp at h))<;>(try exact ch));all_goals exact bP.rng keep dW aw b1
      ·rw[a1]at aw dT;simp only[Bool.not_true,Bool.and_false]at aw;simp[dW,hdi];((with_reducible repeat' first|refine aj ?_|refine aD ot ?_|refine aE ot ?_|refine aD dT ?_|refine aE dT ?_|simp[dW,hdi,q,gz]|((first|apply bM|apply bR|apply bQ)<;>intro h<;>try simp at h))<;>(try exact ch));all_goals exact bP.rng false dW aw b1
theorem amE(l:List T)(h:∀t∈l,t.fit=true):bG al 172 [.slice 4 .no (l.map T.e)] (.bool true):=by
 refine bd fI QL UA fun aP=>?_;unfold HS;have eT:l.length≤68719476736:=by simp[eC,ec,ev,lim]at aP;omega
 simp;refine dV [5,6] (fun i (_:Unit)=>[(7,.int .i64 i)]) l.length (fun _ _=>True) () b1 trivial (fun _ _ _=>?_) (fun i _ hi _ _=>?_)
 ·exact b0
 ·obtain⟨t,aN,qx⟩:=ed hi;have dH:=ye (h t (eK aN));clear aN;exact hO
def ix(m:Int):cI:=⟨[(.obj 831,[.int .i64 m])],[]⟩
theorem uO(m:Int):ea (ix m):=by unfold ix;exact ea.of ⟨by intro m;simp[Pv.look],by intro m;simp[Pv.look]⟩ (by simp) (by simp)
theorem XW(a b:Int):Same (ix a) (ix b):=Same.keys (by simp[ix]) (by simp[ix])
theorem acQ(v m hk:Int)(h:Dm v m=some hk):bN al 204 [.int .i64 v,.ptr (.obj 831) 0] (ix m) fun r ai=>r= .tuple []∧ai=ix hk:=by
 unfold Dm at h;split at h;rotate_left
 ·cases h
 rename_i aK;cases h;have ag:=uO m;simp only[ix]at ag⊢;by_cases hm:m<v+1
 ·rw[qO,if_pos hm];refine bN.mk mixed wg QH Uw (by simp) ag.obj fun aP cP=>?_;unfold HO;simp;(with_reducible repeat' first|refine aj ?_|simp[hm]);(refine cS.at (ix (v+1)) (by simp) (by first|exact uO _|exact uO ‹_› _) (Same.keys (by simp[ix]) (by simp[ix])) (by simp only[ix,bT,bY];exact aR) (by simp only[ix,bT,bY];exact aR) ?_;simp[cZ,Lr,aX,aY,aV,inObs,Pv.look,ix])
 ·rw[qO,if_neg hm];refine bN.mk mixed wg QH Uw (by simp) ag.obj fun aP cP=>?_;unfold HO;simp;(with_reducible repeat' first|refine aj ?_|simp[hm]);(refine cS.at (ix m) (by simp) (by first|exact uO _|exact uO ‹_› _) (Same.keys (by simp[ix]) (by simp[ix])) (by simp only[ix,bT,bY];exact aR) (by simp only[ix,bT,bY];exact aR) ?_;simp[cZ,Lr,aX,aY,aV,inObs,Pv.look,ix])
def wm(l:List T):Int:=l.foldl (fun m t=>t.fold qO m) 0
def Fj(l:List T)(i:Nat)(m:Int):Prop:=m=wm (l.take i)
theorem W3(l:List T)(h:∀t∈l,t.fit=true):bG al 162 [.slice 4 .no (l.map T.e)] (.int .i64 (wm l)):=by
 have dH:=amE l h;generalize bh:wm l=R;refine bd wg aaL ahd fun aP=>?_;unfold Oe;have eT:l.length≤68719476736:=by simp[eC,ec,ev,lim]at aP;omega
 simp;(with_reducible repeat' first|refine aj ?_|refine aD dH ?_|refine aE dH ?_|simp);refine hR (fun i (m:Int)=>⟨[(3,.ptr (.obj 831) 0),(9,.slice 4 .no (l.map T.e)),(10,.int .i64 l.length),(11,.int .i64 i)],[(.obj 831,[.int .i64 m])],[],0,[.obj 831]⟩) l.length (Fj l) 0 b1 rfl (fun m af _=>?_) (fun i m hi af _=>?_)
 ·rw[Fj,nP,bh]at af;subst af;exact b0
 ·obtain⟨t,aN,qx⟩:=ed hi;have ad3:t.ok=true:=by have:=h t (eK aN);simp only[T.fit,cz]at this;exact this.1
  have aw:Fj l (i+1) (t.fold qO m):=by rw[Fj,oH aN,wm,List.foldl_append,af];rfl
  have key:=I0 ix uO XW 204 [.ptr (.obj 831) 0] (fun a=>by simp[ix,inObs,Pv.look]) (by simp) Dm (fun v a bm h=>acQ v a bm h) t m _ (MW t m ad3);clear af aN;simp[hi,qx];(with_reducible repeat' first|refine aj ?_|simp[qx,hi]);(refine c4.ob (key) (by first|exact uO _|exact uO ‹_› _) (by simp only[ix,bT,bY];exact aR) (by simp only[ix,bT,bY];exact aR) (by simp[inObs,Pv.look,ix]) ?_;rintro r ai ⟨rfl,rfl⟩;refine⟨(Same.keys (by simp[ix]) (by simp[ix])),?_⟩;simp[cv,ix]);(with_reducible repeat' first|refine aj ?_|simp);refine bP.rng (t.fold qO m) hi aw ?_;exact b1
theorem W4{s:List ar}(ag:eA s){n:Int}(aw:0≤n):bG al 89 [.slice 5 .no (s.map ar.e),.int .i64 n] (.bool (s.all (kE n))):=by
 have pL:=ag.len;generalize bh:s.all (kE n)=R;refine bd wg aaM ahe fun aP=>?_;unfold Og;simp;refine dV [1,7,8] (fun i (_:Unit)=>[(9,.int .i64 i)]) s.length (pd (kE n) s) () b1 (fun k b ad=>by omega) (fun _ af _=>?_) (fun i _ hi af _=>?_)
 ·have:R=true:=by rw[←bh,jc];intro b ae;obtain⟨k,ad,e⟩:=nn ae;exact af k b ad (by rw[cf ad,e])
  rw[this];exact b0
 ·obtain⟨b,aK,fY⟩:=ed hi;have gr:kE n b=false→R=false:=fun h=>by rw[←bh,Bool.eq_false_iff];intro cr;rw[jc]at cr;rw[cr b (eK aK)]at h;cases h
  have k0:=W3 [b.t] (fun t aN=>by simp at aN;subst aN;exact ag.fit b (eK aK));have hle:=Hd (n:=n) b.t 0;rw[show wm [b.t]=b.t.fold qO 0 from rfl]at k0;simp only[gG,mC]at k0;generalize b.t.fold qO 0=m at k0 hle;by_cases J:b.v<n
  ·have ny:¬n≤b.v:=by omega
   cases U:er n b.t
   ·have ao:n<m:=by rw[U]at hle;simp at hle;omega
    rw[gr (by simp[kE,U])];clear af aK hle;exact b0
   ·have ao:¬n<m:=by rw[U]at hle;simp[aw]at hle;omega
    have ze:=af.step aK (by simp[kE,J,U]);clear af aK hle;exact hO
  ·have ny:n≤b.v:=by omega
   rw[gr (by simp[kE,J])];clear af aK hle;exact b0
def uS:C:=(aa [cx 1 0,be 2 false] (.seq (aa [aF 11 0 1 1,ax 12 1 11,aU 13 .lss 12 0,I 14 13,aq 14 false (aF 15 0 1 1),aq 14 false (ax 16 1 15),aq 14 false (aU 17 .gtr 16 100000),c2 18 14 17,I 19 18,aq 19 false (aF 20 1 1 1),aq 19 false (ax 21 1 20),aq 19 false (cD 22 86 21),aq 19 false (cu 23 22),c2 24 19 23,I 25 24,aq 25 false (aF 26 3 1 1),aq 25 false (ax 27 1 26),aq 25 false (cD 28 87 27),aq 25 false (cu 29 28),c2 30 25 29,I 31 30,aq 31 false (aF 32 4 1 1),aq 31 false (ax 33 1 32),aq 31 false (cD 34 88 33),aq 31 false (cu 35 34),c2 36 31 35,I 37 36,aq 37 false (aF 38 1 1 1),aq 37 false (ax 39 1 38),aq 37 false (aF 40 0 1 1),aq 37 false (ax 41 1 40),aq 37 false (b7 42 89 39 41),aq 37 false (cu 43 42),c2 44 37 43] (aT 44 (aa [be 2 false] .ret) .skip)) (.seq (aa [aF 45 2 1 1,ax 46 1 45,cn 47 46,bV 48 0] (fw 49 48 47 (.seq (.block 1 (aa [ct 50 1 46 48,ax 51 1 50,I 4 51] (aa [I 52 4,cD 53 86 52,cu 54 53,I 55 54,b3 55 false 56 4,aq 55 false (aF 57 0 1 1),aq 55 false (ax 58 1 57),aq 55 false (b7 59 89 56 58),aq 55 false (cu 60 59),c2 61 55 60] (aT 61 (aa [be 2 false] .ret) .skip)))) (.region [aU 62 .add 48 1,I 48 62])))) (.seq (aa [aF 63 3 1 1,ax 64 1 63,cn 65 64,bV 66 0] (.block 2 (.loop (aa [bo 67 .lss 66 65] (.seq (aT 67 .skip (.exit 2)) (.seq (.block 3 (aa [ct 68 2 64 66,aW 69 2 68,c3 (.alloc 6 none (.agg [.int .i64 0,.int .i64 0])),bK 2 6 69] (aa [aF 70 0 1 6,ax 71 1 70,aF 72 0 1 1,ax 73 1 72,bo 74 .geq 71 73] (aT 74 (aa [be 2 false] .ret) .skip)))) (.region [aU 75 .add 66 1,I 66 75]))))))) (.seq (aa [aF 76 4 1 1,ax 77 1 76,cn 78 77,bV 79 0] (.block 4 (.loop (aa [bo 80 .lss 79 78] (.seq (aT 80 .skip (.exit 4)) (.seq (.block 5 (aa [ct 81 2 77 79,aW 82 2 81,c3 (.alloc 8 none (.agg [.int .i64 0,.str []])),bK 2 8 82] (aa [aF 83 0 1 8,ax 84 1 83,aF 85 0 1 1,ax 86 1 85,bo 87 .geq 84 86] (aT 87 (aa [be 2 false] .ret) .skip)))) (.region [aU 88 .add 79 1,I 79 88]))))))) (aa [aW 90 5 1,cD 91 90 90,I 89 91,cC 92 0 89,cC 93 1 89,dk 9 hy,bK 5 9 92,I 10 93] (aa [I 94 10,I 95 94,aq 95 true (aW 96 5 9),aq 95 true (aW 97 5 1),aq 95 true (b7 98 91 96 97),dz 99 95 98,I 2 99] .ret)))))))
@[simp] def aje:List bt:=[.tmp 2]
def DU:C:=(aa [cx 1 0,dk 2 hy,be 3 false] (aa [aF 26 1 1 1,ax 27 1 26,aF 28 3 1 1,ax 29 1 28,b7 30 163 27 29,I 25 30,cC 31 0 25,cC 32 1 25,I 4 31,I 5 32] (aa [aF 34 1 1 1,ax 35 1 34,aF 36 4 1 1,ax 37 1 36,b7 38 164 35 37,I 33 38,cC 39 0 33,cC 40 1 33,I 6 39,I 7 40] (.seq (aa [I 41 5,cu 42 41,I 43 42,b3 43 false 44 7,aq 43 false (cu 45 44),c2 46 43 45] (aT 46 (aa [iu 47 hy [],bK 5 2 47,be 3 false] .ret) .skip)) (aa [c3 (.mkmap 48 none),I 8 48] (.seq (aa [I 49 4,cn 50 49,bV 51 0] (fw 52 51 50 (.seq (.block 1 (aa [ct 53 2 49 51,aW 54 2 53,c3 (.alloc 10 none (.agg [.int .i64 0,.int .i64 0])),bK 2 10 54] (aa [aF 55 1 1 10,ax 56 1 55,aU 57 .eql 56 3] (aT 57 (.region [I 58 8,aF 59 0 1 10,ax 60 1 59,c3 (.mput .i (.t 58) (.t 60) (.c (.bool true)))]) .skip)))) (.region [aU 61 .add 51 1,I 51 61])))) (aa [ei 62 2 100 [],I 11 62] (.seq (aa [I 63 6,cn 64 63,bV 65 0] (.block 2 (.loop (aa [bo 66 .lss 65 64] (.seq (aT 66 .skip (.exit 2)) (.seq (.block 3 (aa [ct 67 2 63 65,aW 68 2 67,c3 (.alloc 13 none (.agg [.int .i64 0,.str []])),bK 2 13 68] (aa [I 69 8,aF 70 0 1 13,ax 71 1 70,b5 72 (.mget .i (.bool false) false (.t 69) (.t 71)),cu 73 72] (aT 73 (.region [I 74 11,aW 75 2 13,ei 76 2 100 [.t 75],gF 77 2 100 74 76,I 11 77]) .skip)))) (.region [aU 78 .add 65 1,I 65 78]))))))) (aa [ei 79 1 46 [],I 14 79] (.seq (aa [aF 80 2 1 1,ax 81 1 80,cn 82 81,bV 83 0] (.block 4 (.loop (aa [bo 84 .lss 83 82] (.seq (aT 84 .skip (.exit 4)) (.seq (.block 5 (aa [ct 85 1 81 83,ax 86 1 85,I 16 86] (aa [aF 88 1 1 1,ax 89 1 88,I 90 16,b7 91 165 89 90,I 87 91,cC 92 0 87,cC 93 1 87,I 17 92,I 18 93] (.seq (aa [I 94 18,cu 95 94] (aT 95 (.exit 5) .skip)) (aa [I 97 17,I 98 4,b7 99 163 97 98,I 96 99,cC 100 0 96,cC 101 1 96,I 19 100,I 20 101] (aa [I 103 17,I 104 11,b7 105 164 103 104,I 102 105,cC 106 0 102,cC 107 1 102,I 21 106,I 22 107] (.seq (aa [I 108 20,cu 109 108,I 110 109,b3 110 false 111 22,aq 110 false (cu 112 111),c2 113 110 112] (aT 113 (.exit 5) .skip)) (aa [aF 114 1 1 1,ax 115 1 114,I 116 17,b7 117 166 115 116,I 23 117] (.seq (aa [I 118 23,cn 119 118,aU 120 .eql 119 0] (aT 120 (aa [iu 121 hy [],bK 5 2 121,be 3 false] .ret) .skip)) (.region [I 122 14,I 123 23,ei 124 1 46 [.t 123],gF 125 1 46 122 124,I 14 125])))))))))) (.region [aU 126 .add 83 1,I 83 126]))))))) (aa [I 127 14,cD 128 167 127,I 24 128] (.seq (aa [I 129 24,cn 130 129,aU 131 .gtr 130 30] (aT 131 (aa [iu 132 hy [],bK 5 2 132,be 3 false] .ret) .skip)) (.seq (.drawn true 142 [aF 133 0 1 1,ax 134 1 133,aF 135 1 1 1,ax 136 1 135,cD 137 168 136,I 138 24,I 139 4,I 140 11,iu 141 hy [(0,1,(.t 134)),(1,1,(.t 137)),(2,1,(.t 138)),(3,1,(.t 139)),(4,1,(.t 140))],bK 5 2 141,be 3 true]) .ret)))))))))))))
@[simp] def Ab:List bt:=[.cell 2 true 5,.tmp 3]
def wL:C:=(aa [cx 2 0,cx 3 1,be 4 false] (.seq (aa [aF 8 0 1 2,ax 9 1 8,aF 10 0 1 3,ax 11 1 10,bo 12 .neq 9 11,I 13 12,aq 13 false (aF 14 1 1 2),aq 13 false (ax 15 1 14),aq 13 false (aF 16 1 1 3),aq 13 false (ax 17 1 16),aq 13 false (b7 18 169 15 17),aq 13 false (cu 19 18),c2 20 13 19,I 21 20,aq 21 false (aF 22 2 1 2),aq 21 false (ax 23 1 22),aq 21 false (cn 24 23),aq 21 false (aF 25 2 1 3),aq 21 false (ax 26 1 25),aq 21 false (cn 27 26),aq 21 false (bo 28 .neq 24 27),c2 29 21 28,I 30 29,aq 30 false (aF 31 3 1 2),aq 30 false (ax 32 1 31),aq 30 false (cn 33 32),aq 30 false (aF 34 3 1 3),aq 30 false (ax 35 1 34),aq 30 false (cn 36 35),aq 30 false (bo 37 .neq 33 36),c2 38 30 37,I 39 38,aq 39 false (aF 40 4 1 2),aq 39 false (ax 41 1 40),aq 39 false (cn 42 41),aq 39 false (aF 43 4 1 3),aq 39 false (ax 44 1 43),aq 39 false (cn 45 44),aq 39 false (bo 46 .neq 42 45),c2 47 39 46] (aT 47 (aa [be 4 false] .ret) .skip)) (.seq (aa [aF 48 2 1 2,ax 49 1 48,cn 50 49,bV 51 0] (fw 52 51 50 (.seq (.block 1 (aa [I 53 51,I 5 53] (.seq (.drawn true 103 [aF 54 2 1 2,ax 55 1 54,I 56 5,ct 57 1 55 56,ax 58 1 57,aF 59 2 1 3,ax 60 1 59,I 61 5,ct 62 1 60 61,ax 63 1 62,b7 64 169 58 63,cu 65 64]) (aT 65 (aa [be 4 false] .ret) .skip)))) (.region [aU 66 .add 51 1,I 51 66])))) (.seq (aa [aF 67 3 1 2,ax 68 1 67,cn 69 68,bV 70 0] (.block 2 (.loop (aa [bo 71 .lss 70 69] (.seq (aT 71 .skip (.exit 2)) (.seq (.block 3 (aa [I 72 70,I 6 72] (.seq (.drawn true 103 [aF 73 3 1 2,ax 74 1 73,I 75 6,ct 76 2 74 75,aW 77 2 76,aF 78 3 1 3,ax 79 1 78,I 80 6,ct 81 2 79 80,aW 82 2 81,b5 83 (.beq true (some [false,false]) (.t 77) (.t 82))]) (aT 83 (aa [be 4 false] .ret) .skip)))) (.region [aU 84 .add 70 1,I 70 84]))))))) (.seq (aa [aF 85 4 1 2,ax 86 1 85,cn 87 86,bV 88 0] (.block 4 (.loop (aa [bo 89 .lss 88 87] (.seq (aT 89 .skip (.exit 4)) (.seq (.block 5 (aa [I 90 88,I 7 90] (.seq (.drawn true 103 [aF 91 4 1 2,ax 92 1 91,I 93 7,ct 94 2 92 93,aW 95 2 94,aF 96 4 1 3,ax 97 1 96,I 98 7,ct 99 2 97 98,aW 100 2 99,b5 101 (.beq true (some [false,true]) (.t 95) (.t 100))]) (aT 101 (aa [be 4 false] .ret) .skip)))) (.region [aU 102 .add 88 1,I 88 102]))))))) (aa [be 4 true] .ret))))))
@[simp] def Gg:List bt:=[.tmp 4]
def GY:List (Nat×dC):=[
 (3,⟨1,8,.int .i64,.int .i64 0⟩),
 (4,⟨1,1,.bool,.bool false⟩),
 (9,⟨1,16,.str,.str []⟩),
 (46,⟨1,24,.slice 113,.slice 5 .nil []⟩),
 (47,⟨1,24,.slice 46,.slice 1 .nil []⟩),
 (48,⟨1,24,.slice 98,.slice 2 .nil []⟩),
 (49,⟨1,24,.slice 100,.slice 2 .nil []⟩),
 (51,⟨5,104,.struct [(0,3),(1,46),(2,47),(3,48),(4,49)],.agg [.int .i64 0,.slice 5 .nil [],.slice 1 .nil [],.slice 2 .nil [],.slice 2 .nil []]⟩),
 (98,⟨2,16,.struct [(0,3),(1,3)],.agg [.int .i64 0,.int .i64 0]⟩),
 (100,⟨2,24,.struct [(0,3),(1,9)],.agg [.int .i64 0,.str []]⟩),
 (136,⟨1,8,.map 3 4,.junk⟩)]
theorem nK:fM al GY=true:=by kernel_rfl
theorem xK:bX GY uS aje 1 Tryz.f29=true:=by kernel_rfl
theorem wN:al.funcs[(29:Nat)]? =some Tryz.f29:=Tryz.func29
theorem K4:bX GY DU Ab 1 Tryz.f90=true:=by kernel_rfl
theorem IE:al.funcs[(90:Nat)]? =some Tryz.f90:=Tryz.func90
theorem zU:bX GY wL Gg 2 Tryz.f91=true:=by kernel_rfl
theorem yL:al.funcs[(91:Nat)]? =some Tryz.f91:=Tryz.func91
def cX.e(s:cX):ah:= .agg [.int .i64 s.n,.slice 5 .no (s.b.map ar.e),.slice 1 .no (s.d.map cE),.slice 2 .no (s.k.map bJ.e),.slice 2 .no (s.m.map bj.e)]
@[simp] theorem apH(S:aH→Prop)(s:cX):aC S s.e=True:=by simp[cX.e,aC,aJ]
def jj(o:Option cX):ah:= .tuple [(o.getD lI).e,.bool o.isSome]
@[simp] theorem apF(S:aH→Prop)(o:Option cX):aC S (jj o)=True:=by simp[jj,aC,aJ]
def tU(k:List bJ)(i:Nat)(l:List (Int×Bool)):Prop:= ∀v,(c1 v l).getD false=(k.take i).any fun x=>x.v==v&&x.k==3
theorem tU.put{k:List bJ}{i:Nat}{l:List (Int×Bool)}(h:tU k i l){x:bJ}(ab:k[i]? =some x)(ao:x.k=3):tU k (i+1) (eU x.v true l):=fun v=>by
 rw[ni,oH ab,List.any_append,←h v];by_cases e:v=x.v
 ·rw[if_pos e];simp[e,ao]
 ·rw[if_neg e];have:(x.v==v)=false:=by simp;exact fun h=>e h.symm
  simp[this]
theorem tU.skip{k:List bJ}{i:Nat}{l:List (Int×Bool)}(h:tU k i l){x:bJ}(ab:k[i]? =some x)(ao:¬x.k=3):tU k (i+1) l:=fun v=>by
 rw[oH ab,List.any_append,←h v];have:(x.k==3)=false:=by simp[ao]
 simp[this]
theorem tU.fin{k:List bJ}{l:List (Int×Bool)}(h:tU k k.length l)(ad:iV k)(x:bj):(c1 x.v l).getD false= !kt k x:=by rw[h x.v,nP,Ya ad.asc,kt,bne,Bool.not_not]
def sB(k:List bJ)(m:List bj)(i:Nat)(a:List bj):Prop:=a=(m.take i).filter (kt k)
theorem sB.step{k:List bJ}{m:List bj}{i:Nat}{a:List bj}(h:sB k m i a){x:bj}(ab:m[i]? =some x):sB k m (i+1) (if kt k x=true then a++[x]else a):=by
 rw[sB,oH ab,List.filter_append,←h];by_cases e:kt k x=true
 ·rw[if_pos e];simp[e]
 ·rw[if_neg e];simp[e]
theorem zB(S:aH→Prop)(l:List bj)(d:bj):aJ S (l.map bj.e++[d.e])=True:=by have:=Kk S (l++[d]);rw[List.map_append]at this;exact eq_true this
theorem TX{k:List bJ}{m:List bj}(h:hC m):hC (m.filter (kt k)):=⟨fun x ab=>h.at' x (mD.1 ab).1,XF _ h.asc⟩
theorem Mx{G:List (List dB)}{k:List bJ}{m:List bj}(h:nI G m):nI G (m.filter (kt k)):=fun x ab=>h x (mD.1 ab).1
theorem pO.skip{b:List ar}{k:List bJ}{m:List bj}{D:List (List ar)}{i:Nat}{a:List (List ar)}(h:pO b k m D i a){d:List ar}(aQ:D[i]? =some d)(he:∀r,gC b k m (d::r)=gC b k m r):pO b k m D (i+1) a:=⟨by have:=h.1;omega,h.2.1,by rw[←h.2.2,sH aQ,he]⟩
theorem pO.snoc{b:List ar}{k:List bJ}{m:List bj}{D:List (List ar)}{i:Nat}{a:List (List ar)}(h:pO b k m D i a){d x:List ar}(aQ:D[i]? =some d)(ab:eA x)(he:∀r,gC b k m (d::r)=(gC b k m r).map (x:: ·)):pO b k m D (i+1) (a++[x]):=
 ⟨by have:=h.1;simp;omega,fun y aG=>by
  rcases jU.1 aG with aG|aG
  ·exact h.2.1 y aG
  ·simp at aG;subst aG;exact ab,by
  rw[←h.2.2,sH aQ,he,Option.map_map];congr 1;funext r;simp⟩
theorem pO.stop{b:List ar}{k:List bJ}{m:List bj}{D:List (List ar)}{i:Nat}{a:List (List ar)}(h:pO b k m D i a){d:List ar}(aQ:D[i]? =some d)(he:∀r,gC b k m (d::r)=none):gC b k m D=none:=by rw[←h.2.2,sH aQ,he];rfl
theorem pO.fin{b:List ar}{k:List bJ}{m:List bj}{D:List (List ar)}{a:List (List ar)}(h:pO b k m D D.length a):gC b k m D=some a:=by rw[←h.2.2,List.drop_length];simp[gC]
theorem sF(S:aH→Prop)(l:List (List ar))(d:List ar):aJ S (l.map cE++[.slice 5 .no (d.map ar.e)])=True:=xz S l d
theorem Bb{d:List ar}(aQ:eA d):∀e∈hq d,e.1.ok=true∧e.2.ok=true:=fun e he=>by obtain⟨c,ay,rfl⟩:=h8.1 he;have:=aQ.ok c ay;exact⟨by simpa[T.ok]using this.1,this.2⟩
set_option maxRecDepth 4000 in
theorem MS{s:cX}(h:oD s){G:List (List dB)}(jJ:G.length≤687000)(a1:nI G s.m):bG al 90 [s.e] (jj (ik s)):=by
 generalize dm:ik s=O;have kq:=W1 h.b h.k;have kr:=W2 h.b h.m jJ a1;have k3:=fun k=>Gq (acc:=[]) (a:=k) h.b h.k.at' ⟨by simp,by simp⟩;have pY:=fun m=>Gr (acc:=[]) (a:=m) h.b h.m.at' ⟨by simp,by simp[hF]⟩;have mN:=fun m=>Gs (acc:=[]) (a:=m) (s:=s.b) a1 (fun x ab=>by simp at ab);have ae:=h.b;have aQ:=h.d;clear h a1;unfold ik at dm;obtain⟨n,b,d,ff,m0⟩:=s;simp only at kq kr k3 pY mN ae aQ dm;have fy:=ae.len;simp only[cX.e];generalize ga b ff []=ok at kq dm k3;generalize gb b m0 []=om at kr dm pY mN;cases ok with
 |none=>
  simp only at dm;subst dm;simp only[fS]at kq;simp only[ja]at kr;clear k3 pY mN;refine bd nK IE K4 fun aP=>?_;unfold DU;simp;(with_reducible repeat' first|refine aj ?_|refine aD kq ?_|refine aE kq ?_|refine aD kr ?_|refine aE kr ?_|simp);all_goals simp[bu,Ab,aX,aY,aV]
  all_goals simp[jj,lI,cX.e]
 |some k=>
  simp only at dm;cases om with
  |none=>
   simp only at dm;subst dm;simp only[fS]at kq;simp only[ja]at kr;clear k3 pY mN;refine bd nK IE K4 fun aP=>?_;unfold DU;simp;(with_reducible repeat' first|refine aj ?_|refine aD kq ?_|refine aE kq ?_|refine aD kr ?_|refine aE kr ?_|simp);all_goals simp[bu,Ab,aX,aY,aV]
   all_goals simp[jj,lI,cX.e]
  |some m=>
   simp only at dm;have vf:=k3 k rfl;have xh:=pY m rfl;have w9:=mN m rfl;have ih:=sD vf;have mi:m.length≤68719470000:=by have:=Co xh w9;omega
   have zb:=TX (k:=k) xh;have y5:=Mx (k:=k) w9;have aeu:(m.filter (kt k)).length≤68719470000:=jV (List.length_filter_le _ _) mi;simp only[fS,j9,pz]at kq;simp only[ja,j9,pz]at kr;clear k3 pY mN;refine bd nK IE K4 fun aP=>?_;unfold DU;have Jj:d.length≤68719476736:=by simp[eC,ec,ev,lim]at aP;omega
   simp;(with_reducible repeat' first|refine aj ?_|refine aD kq ?_|refine aE kq ?_|refine aD kr ?_|refine aE kr ?_|simp);refine hR (fun i (l:List (Int×Bool))=>⟨[(1,.ptr (.loc 0) 0),(2,.ptr (.loc 1) 0),(4,.slice 2 .no (k.map bJ.e)),(6,.slice 2 .no (m.map bj.e)),(8,.gmap (.loc 2)),(49,.slice 2 .no (k.map bJ.e)),(50,.int .i64 k.length),(51,.int .i64 i)],[(.loc 0,[.int .i64 n,.slice 5 .no (b.map ar.e),.slice 1 .no (d.map cE),.slice 2 .no (ff.map bJ.e),.slice 2 .no (m0.map bj.e)]),(.loc 1,[.int .i64 0,.slice 5 .nil [],.slice 1 .nil [],.slice 2 .nil [],.slice 2 .nil []]),(.loc 2,pU l)],[],3,[]⟩) k.length (tU k) [] ⟨by simp[fresh,aJ,aC,cd,inObs,Pv.look,Kx],dY (by simp[fresh,aJ,aC,cd,inObs,Pv.look,Kx]),dZ (by simp[fresh,aJ,aC,dP,inObs,Pv.look,Kx]),by simp⟩ (fun v=>by simp[c1]) (fun l af _=>?_) (fun i l hi af _=>?_);rotate_left
   ·obtain⟨x,ab,cy⟩:=ed hi;by_cases ao:x.k=3
    ·have aw:=af.put ab ao;clear af ab;exact hO
    ·have aw:=af.skip ab ao;have sg:(x.k==3)=false:=by simp[ao]
     clear af ab;exact hO
   have hints:=af.fin vf;clear af;simp;(with_reducible repeat' first|refine aj ?_|simp);refine hR (fun i (a:List bj)=>⟨[(1,.ptr (.loc 0) 0),(2,.ptr (.loc 1) 0),(4,.slice 2 .no (k.map bJ.e)),(8,.gmap (.loc 2)),(11,.slice 2 (.own (.loc 3)) (a.map bj.e)),(63,.slice 2 .no (m.map bj.e)),(64,.int .i64 m.length),(65,.int .i64 i)],[(.loc 0,[.int .i64 n,.slice 5 .no (b.map ar.e),.slice 1 .no (d.map cE),.slice 2 .no (ff.map bJ.e),.slice 2 .no (m0.map bj.e)]),(.loc 1,[.int .i64 0,.slice 5 .nil [],.slice 1 .nil [],.slice 2 .nil [],.slice 2 .nil []]),(.loc 2,pU l)],[(.loc 3,⟨a.length,100,2,none⟩)],4,[]⟩) m.length (sB k m) [] b1 (by simp[sB]) (fun a af _=>?_) (fun i a hi af _=>?_);rotate_left
   ·obtain⟨x,ab,cy⟩:=ed hi;have q6:a.length≤68719470000:=by
     have:a.length≤(m.take i).length:=by rw[af];exact List.length_filter_le _ _
     simp at this;omega
    have aw:=af.step ab;have bn:=hints x;cases aI:kt k x
    ·rw[aI]at aw bn;simp only[gP,if_false,Bool.not_false]at aw bn;clear af ab aI;simp[hi,cy];((with_reducible repeat' first|refine aj ?_|simp[hi,cy,bn]|((first|apply bM|apply bR|apply bQ)<;>intro h<;>try simp at h))<;>(try exact ch));all_goals exact bP.rng a hi aw b1
    ·rw[aI]at aw bn;simp only[if_true,Bool.not_true]at aw bn;clear af ab aI;simp[hi,cy];((with_reducible repeat' first|refine aj ?_|simp[hi,cy,bn]|((first|apply bM|apply bR|apply bQ)<;>intro h<;>try simp at h))<;>(try exact ch));all_goals first|(refine⟨by unfold lim;omega,?_⟩)|skip
     all_goals(with_reducible repeat' first|refine aj ?_|simp)
     all_goals exact bP.rng (a++[x]) hi aw ⟨by simp[fresh,aJ,aC,cd,inObs,Pv.look,zB],dY (by simp[fresh,aJ,aC,cd,inObs,Pv.look,zB]),dZ (by simp[fresh,aJ,aC,dP,inObs,Pv.look,zB]),by simp⟩
   rw[sB,nP]at af;rw[←af]at zb y5 aeu dm;clear af hints ih xh w9;simp;(with_reducible repeat' first|refine aj ?_|simp);refine hR (fun i (L:List (List ar))=>⟨[(1,.ptr (.loc 0) 0),(2,.ptr (.loc 1) 0),(4,.slice 2 .no (k.map bJ.e)),(11,.slice 2 (.own (.loc 3)) (a.map bj.e)),(14,.slice 1 (.own (.loc 4)) (L.map cE)),(81,.slice 1 .no (d.map cE)),(82,.int .i64 d.length),(83,.int .i64 i)],[(.loc 0,[.int .i64 n,.slice 5 .no (b.map ar.e),.slice 1 .no (d.map cE),.slice 2 .no (ff.map bJ.e),.slice 2 .no (m0.map bj.e)]),(.loc 1,[.int .i64 0,.slice 5 .nil [],.slice 1 .nil [],.slice 2 .nil [],.slice 2 .nil []])],[(.loc 3,⟨a.length,100,2,none⟩),(.loc 4,⟨L.length,46,1,none⟩)],5,[]⟩) d.length (pO b k a d) [] b1 ⟨by simp,by simp,by simp⟩ (fun L af _=>?_) (fun i L hi af _=>?_)
   ·have jt:=af.fin;have u9:=af.2.1;rw[jt]at dm;simp only at dm;have mX:=alC L u9;have kp:bG al 168 [.slice 5 .no (b.map ar.e)] (.slice 5 .no (b.map ar.e)):=G3 b fy;clear af jt u9;generalize kJ L=M at mX dm;by_cases lh:M.length≤30
    ·have n4:¬(30:Int)<M.length:=by omega
     rw[if_pos lh]at dm;subst dm;simp;(with_reducible repeat' first|refine aj ?_|refine aD mX ?_|refine aE mX ?_|refine aD kp ?_|refine aE kp ?_|simp[lh,n4]);all_goals simp[bu,Ab,aX,aY,aV]
     all_goals simp[jj,cX.e]
    ·have n4:(30:Int)<M.length:=by omega
     rw[if_neg lh]at dm;subst dm;simp;(with_reducible repeat' first|refine aj ?_|refine aD mX ?_|refine aE mX ?_|refine aD kp ?_|refine aE kp ?_|simp[lh,n4]);all_goals simp[bu,Ab,aX,aY,aV]
     all_goals simp[jj,lI,cX.e]
   ·obtain⟨x,ab,cy⟩:=ed hi;have hJ:=aQ x (eK ab);have RB:=af.1;have hL:bG al 165 [.slice 5 .no (b.map ar.e),cE x] (fs (mgu b (hq x))):=alz ae hJ;simp only[fs]at hL;cases hu:mgu b (hq x)with
    |none=>have aw:=af.skip ab fun r=>Kr hu;rw[hu]at hL;simp only[kB,jW]at hL;clear af ab dm;exact hO
    |some y=>
     have iT:=ae.mgu (Bb hJ) hu;rw[hu]at hL;simp only[j9,pz]at hL;have dg:=W1 iT vf;have dT:=W2 iT zb jJ y5;have hM:=W0 ae iT;simp only[fS]at dg;simp only[ja]at dT;by_cases ju:ga y k []=none∨gb y a []=none
     ·have aw:=af.skip ab fun r=>Kq hu ju;clear af ab dm hu;rcases ju with e|e
      ·rw[e]at dg;simp only[kB,jW]at dg;exact hO
      ·rw[e]at dT;simp only[kB,jW]at dT;cases (ga y k []).isSome
       ·simp[hi,cy];((with_reducible repeat' first|refine aj ?_|refine aD hL ?_|refine aE hL ?_|refine aD dg ?_|refine aE dg ?_|refine aD dT ?_|refine aE dT ?_|simp[hi,cy]|((first|apply bM|apply bR|apply bQ)<;>intro h<;>try simp at h))<;>(try exact ch));all_goals exact bP.rng L hi aw b1
       ·simp[hi,cy];((with_reducible repeat' first|refine aj ?_|refine aD hL ?_|refine aE hL ?_|refine aD dg ?_|refine aE dg ?_|refine aD dT ?_|refine aE dT ?_|simp[hi,cy]|((first|apply bM|apply bR|apply bQ)<;>intro h<;>try simp at h))<;>(try exact ch));all_goals exact bP.rng L hi aw b1
     ·have ak:(ga y k []).isSome=true:=by cases e:ga y k []with|none=>exact absurd (.inl e) ju|some _=>rfl
      have aB:(gb y a []).isSome=true:=by cases e:gb y a []with|none=>exact absurd (.inr e) ju|some _=>rfl
      rw[ak]at dg;rw[aB]at dT;by_cases cF:eF b y=[]
      ·have ag:=af.stop ab fun r=>Kp hu ju cF;rw[ag]at dm;simp only at dm;subst dm;rw[cF]at hM;simp only[mC]at hM;clear af ab hu ju;simp[hi,cy];((with_reducible repeat' first|refine aj ?_|refine aD hL ?_|refine aE hL ?_|refine aD dg ?_|refine aE dg ?_|refine aD dT ?_|refine aE dT ?_|refine aD hM ?_|refine aE hM ?_|simp[hi,cy]|((first|apply bM|apply bR|apply bQ)<;>intro h<;>try simp at h))<;>(try exact ch));all_goals simp[bu,Ab,aX,aY,aV]
       all_goals simp[jj,lI,cX.e]
      ·have aw:=af.snoc ab (Cw (b:=b) iT) fun r=>Ks hu ju cF;have vh:¬((eF b y).length:Int)=0:=by have:(eF b y).length≠0:=fun h=>cF (List.length_eq_zero_iff.1 h);omega
       have vi:(((eF b y).length:Int)==0)=false:=by simp[cF]
       have Fo:bG al 166 [.slice 5 .no (b.map ar.e),.slice 5 .no (y.map ar.e)] (cE (eF b y)):=hM;clear af ab hu ju dm hM;generalize eF b y=z at Fo aw vh vi cF;simp only[cE]at Fo;simp[hi,cy];(with_reducible repeat' first|refine aj ?_|refine aD hL ?_|refine aE hL ?_|refine aD dg ?_|refine aE dg ?_|refine aD dT ?_|refine aE dT ?_|refine aD Fo ?_|refine aE Fo ?_|simp[hi,cy,vh,vi,cF]);all_goals first|(refine⟨by unfold lim;omega,?_⟩)|skip
       all_goals(with_reducible repeat' first|refine aj ?_|simp)
       all_goals exact bP.rng (L++[z]) hi aw ⟨by simp[fresh,aJ,aC,cd,inObs,Pv.look,sF,cE],dY (by simp[fresh,aJ,aC,cd,inObs,Pv.look,sF,cE]),dZ (by simp[fresh,aJ,aC,dP,inObs,Pv.look,sF,cE]),by simp⟩
@[simp] theorem ank(neg:Bool)(x y:bJ):ib neg (some [false,false]) x.e y.e=some (True,.bool (if neg then !decide (x=y)else decide (x=y))):=by
 have h:(x.v==y.v&&(x.k==y.k&&true))=decide (x=y):=by rw[p5];simp only[Bool.and_true,cz,dL,fE];cases x;cases y;simp
 rw[←h];rfl
@[simp] theorem anl(neg:Bool)(x y:bj):ib neg (some [false,true]) x.e y.e=some (True,.bool (if neg then !decide (x=y)else decide (x=y))):=by
 have h:(x.v==y.v&&(x.s==y.s&&true))=decide (x=y):=by rw[p5];simp only[Bool.and_true,cz,dL,fE];cases x;cases y;simp
 rw[←h];rfl
theorem alT(x y:List ar)(h:x.length≤1000000):bG al 169 [cE x,cE y] (.bool (decide (x=y))):=MI x y h
set_option maxRecDepth 4000 in
theorem amv(a c:cX)(mQ:a.b.length≤1000000)(By:∀x∈a.d,x.length≤1000000):bG al 91 [a.e,c.e] (.bool (decide (a=c))):=by
 obtain⟨n,b,d,k,m⟩:=a;obtain⟨n',bO,b8,bL,hk⟩:=c;simp only at mQ By;generalize bh:decide ((⟨n,b,d,k,m⟩:cX)=⟨n',bO,b8,bL,hk⟩)=R;simp only[cX.mk.injEq,cX.e]at bh⊢;by_cases a6:n=n';rotate_left
 ·have fQ:R=false:=by rw[←bh];simp[a6]
  have sQ:(n !=n')=true:=by simp[a6]
  rw[fQ];clear bh fQ;refine bd nK yL zU fun aP=>?_;unfold wL;exact b0
 subst a6;have fA:=MI b bO mQ;by_cases bz:b=bO;rotate_left
 ·have fQ:R=false:=by rw[←bh];simp[bz]
  rw[jn bz]at fA;rw[fQ];clear bh fQ;refine bd nK yL zU fun aP=>?_;unfold wL;exact b0
 subst bz;rw[jd rfl]at fA;by_cases bU:d.length=b8.length;rotate_left
 ·have fQ:R=false:=by rw[←bh];simp only[hE];rintro⟨_,_,rfl,_⟩;exact bU rfl
  have rI:((d.length:Int) !=b8.length)=true:=by simp;omega
  rw[fQ];clear bh fQ;refine bd nK yL zU fun aP=>?_;unfold wL;exact b0
 by_cases cT:k.length=bL.length;rotate_left
 ·have fQ:R=false:=by rw[←bh];simp only[hE];rintro⟨_,_,_,rfl,_⟩;exact cT rfl
  have ai7:((k.length:Int) !=bL.length)=true:=by simp;omega
  rw[fQ];clear bh fQ;refine bd nK yL zU fun aP=>?_;unfold wL;exact b0
 by_cases c8:m.length=hk.length;rotate_left
 ·have fQ:R=false:=by rw[←bh];simp only[hE];rintro⟨_,_,_,_,rfl⟩;exact c8 rfl
  have ai8:((m.length:Int) !=hk.length)=true:=by simp;omega
  rw[fQ];clear bh fQ;refine bd nK yL zU fun aP=>?_;unfold wL;exact b0
 have xk:d≠b8→R=false:=fun h=>by rw[←bh];simp[h]
 have xl:k≠bL→R=false:=fun h=>by rw[←bh];simp[h]
 have JC:m≠hk→R=false:=fun h=>by rw[←bh];simp[h]
 refine bd nK yL zU fun aP=>?_;unfold wL;have ael:b8.length≤68719476736:=by simp[eC,ec,ev,lim]at aP;omega
 have aem:bL.length≤68719476736:=by simp[eC,ec,ev,lim]at aP;omega
 have aen:hk.length≤68719476736:=by simp[eC,ec,ev,lim]at aP;omega
 clear aP;simp;(with_reducible repeat' first|refine aj ?_|refine aD fA ?_|refine aE fA ?_|simp[bU,cT,c8]);have dj:=xk;refine dV [2,3,50] (fun i (_:Unit)=>[(51,.int .i64 i)]) b8.length (qV d b8) () b1 (fun k ad=>by omega) (fun _ af _=>?_) (fun i _ hi af _=>?_);rotate_left
 ·obtain⟨x,ab⟩:∃x,d[i]? =some x:=⟨_,cf (by omega)⟩;obtain⟨y,aG⟩:∃y,b8[i]? =some y:=⟨_,cf hi⟩;have gh:i<d.length:=by omega
  have cy:∀h,(d[i]'h)=x:=fun h=>by rw[cf gh]at ab;exact fh ab
  have eP:∀h,(b8[i]'h)=y:=fun h=>by rw[cf hi]at aG;exact fh aG
  have fA:=alT x y (By x (eK ab));by_cases q:x=y
  ·subst q;have aw:=af.step ab aG;rw[jd rfl]at fA;clear af ab aG;simp[hi,gh,cy,eP,-ib];(with_reducible repeat' first|refine aj ?_|refine aD fA ?_|refine aE fA ?_|simp[cy,eP,hi,gh,-ib]);all_goals exact bP.rng () hi aw b1
  ·rw[dj (fun h=>q (by rw[h]at ab;rw[ab]at aG;exact fh aG))];rw[jn q]at fA;clear af ab aG;simp[hi,gh,cy,eP,-ib];(with_reducible repeat' first|refine aj ?_|refine aD fA ?_|refine aE fA ?_|simp[cy,eP,hi,gh,q,-ib]);all_goals simp[bu,Gg,aX,aY,aV]
 have dw:=af.fin bU;subst dw;clear af dj xk bU;simp;(with_reducible repeat' first|refine aj ?_|simp[cT]);have dj:=xl;refine dV [2,3,69] (fun i (_:Unit)=>[(70,.int .i64 i)]) bL.length (qV k bL) () b1 (fun k ad=>by omega) (fun _ af _=>?_) (fun i _ hi af _=>?_);rotate_left
 ·obtain⟨x,ab⟩:∃x,k[i]? =some x:=⟨_,cf (by omega)⟩;obtain⟨y,aG⟩:∃y,bL[i]? =some y:=⟨_,cf hi⟩;have gh:i<k.length:=by omega
  have cy:∀h,(k[i]'h)=x:=fun h=>by rw[cf gh]at ab;exact fh ab
  have eP:∀h,(bL[i]'h)=y:=fun h=>by rw[cf hi]at aG;exact fh aG
  have fA:=True.intro;by_cases q:x=y
  ·subst q;have aw:=af.step ab aG;skip;clear af ab aG;simp[hi,gh,cy,eP,-ib];(with_reducible repeat' first|refine aj ?_|refine aD fA ?_|refine aE fA ?_|simp[cy,eP,hi,gh,-ib]);all_goals exact bP.rng () hi aw b1
  ·rw[dj (fun h=>q (by rw[h]at ab;rw[ab]at aG;exact fh aG))];skip;clear af ab aG;simp[hi,gh,cy,eP,-ib];(with_reducible repeat' first|refine aj ?_|refine aD fA ?_|refine aE fA ?_|simp[cy,eP,hi,gh,q,-ib]);all_goals simp[bu,Gg,aX,aY,aV]
 have dw:=af.fin cT;subst dw;clear af dj xl cT;simp;(with_reducible repeat' first|refine aj ?_|simp[c8]);have dj:=JC;refine dV [2,3,87] (fun i (_:Unit)=>[(88,.int .i64 i)]) hk.length (qV m hk) () b1 (fun k ad=>by omega) (fun _ af _=>?_) (fun i _ hi af _=>?_);rotate_left
 ·obtain⟨x,ab⟩:∃x,m[i]? =some x:=⟨_,cf (by omega)⟩;obtain⟨y,aG⟩:∃y,hk[i]? =some y:=⟨_,cf hi⟩;have gh:i<m.length:=by omega
  have cy:∀h,(m[i]'h)=x:=fun h=>by rw[cf gh]at ab;exact fh ab
  have eP:∀h,(hk[i]'h)=y:=fun h=>by rw[cf hi]at aG;exact fh aG
  have fA:=True.intro;by_cases q:x=y
  ·subst q;have aw:=af.step ab aG;skip;clear af ab aG;simp[hi,gh,cy,eP,-ib];(with_reducible repeat' first|refine aj ?_|refine aD fA ?_|refine aE fA ?_|simp[cy,eP,hi,gh,-ib]);all_goals exact bP.rng () hi aw b1
  ·rw[dj (fun h=>q (by rw[h]at ab;rw[ab]at aG;exact fh aG))];skip;clear af ab aG;simp[hi,gh,cy,eP,-ib];(with_reducible repeat' first|refine aj ?_|refine aD fA ?_|refine aE fA ?_|simp[cy,eP,hi,gh,q,-ib]);all_goals simp[bu,Gg,aX,aY,aV]
 have dw:=af.fin c8;subst dw;have fQ:R=true:=by rw[←bh];simp
 rw[fQ];exact b0
def fi.e(r:fi):ah:= .agg [.int .i64 r.n,.slice 5 .no (r.b.map cW.e),.slice 1 .no (r.d.map fW),.slice 2 .no (r.k.map bJ.e),.slice 2 .no (r.m.map bj.e)]
theorem Aw(s:cX):s.r.e=s.e:=by simp only[cX.r,fi.e,cX.e,xF,Ij]
@[simp] theorem apG(S:aH→Prop)(r:fi):aC S r.e=True:=by simp[fi.e,aC,aJ]
theorem alF(x:List cW):bG al 86 [fW x] (.bool (gA x)):=MG x
open Classical in
set_option maxRecDepth 4000 in
theorem alE(r:fi)(dS:hC r.m→jG r.m):bG al 29 [r.e] (.bool (decide (il r))):=by
 generalize bh:decide (il r)=R;have dj:¬LN r→R=false:=fun h=>by rw[←bh,hE];exact fun cr=>h cr.raw
 obtain⟨n,b,d,k,m⟩:=r;simp only[fi.e]at dS⊢;by_cases g1:n<0
 ·rw[dj fun h=>by have:=h.n.1;simp only at this;omega];refine bd nK wN xK fun aP=>?_;unfold uS;exact b0
 by_cases g2:100000<n
 ·rw[dj fun h=>by have:=h.n.2;simp only at this;omega];refine bd nK wN xK fun aP=>?_;unfold uS;exact b0
 have k0:bG al 86 [.slice 5 .no (b.map cW.e)] (.bool (gA b)):=MG b;cases g3:gA b
 ·rw[dj fun h=>by obtain⟨s,ak,aB,_⟩:=h.b;have:=qL.2 (v8.2 ⟨s,ak,aB⟩);simp only at this;rw[g3]at this;cases this]
  rw[g3]at k0;refine bd nK wN xK fun aP=>?_;unfold uS;exact b0
 rw[g3]at k0;obtain⟨s,rfl,ag⟩:=v8.1 (qL.1 g3);clear g3;rw[xF]at k0⊢;have dg:=WW k;by_cases g4:iV k;rotate_left
 ·rw[dj fun h=>g4 h.k];rw[jn g4]at dg;refine bd nK wN xK fun aP=>?_;unfold uS;exact b0
 rw[jd g4]at dg;have dT:=WY m;by_cases g5:hC m;rotate_left
 ·rw[dj fun h=>g5 h.m];rw[jn g5]at dT;refine bd nK wN xK fun aP=>?_;unfold uS;exact b0
 rw[jd g5]at dT;have k1:=W4 ag (n:=n) (by omega);cases g6:s.all (kE n)
 ·rw[dj fun h=>by obtain⟨ai,ak,_,bf⟩:=h.b;have dd:=uP ak;subst dd;rw[uR.2 bf]at g6;cases g6]
  rw[g6]at k1;refine bd nK wN xK fun aP=>?_;unfold uS;exact b0
 rw[g6]at k1;have cP:=uR.1 g6;clear g6;have BM:=dS g5;have mi:=BM.len g5;refine bd nK wN xK fun aP=>?_;unfold uS;have Jj:d.length≤68719476736:=by simp[eC,ec,ev,lim]at aP;omega
 have ih:=sD g4;clear aP dS;simp;(with_reducible repeat' first|refine aj ?_|refine aD k0 ?_|refine aE k0 ?_|refine aD dg ?_|refine aE dg ?_|refine aD dT ?_|refine aE dT ?_|refine aD k1 ?_|refine aE k1 ?_|simp[g1,g2]);refine dV [1,46,47] (fun i (_:Unit)=>[(48,.int .i64 i)]) d.length (ry (j0 n) d) () b1 (fun k b ad=>by omega) (fun _ af _=>?_) (fun i _ hi af _=>?_);rotate_left
 ·obtain⟨x,ab,cy⟩:=ed hi;have B4:=eK ab;have cV:=alF x;cases mf:gA x
  ·rw[dj fun h=>by obtain⟨ai,ak,aB,_⟩:=h.d x B4;rw[qL.2 (v8.2 ⟨ai,ak,aB⟩)]at mf;cases mf]
   rw[mf]at cV;clear af ab B4;exact b0
  ·rw[mf]at cV;obtain⟨y,rfl,aG⟩:=v8.1 (qL.1 mf);clear mf;rw[Ii]at cV;have mq:bG al 89 [cE y,.int .i64 n] (.bool (y.all (kE n))):=W4 aG (n:=n) (by omega);have aoG:∀h,fW (d[i]'h)=cE y:=fun h=>by rw[cy h,Ii]
   cases q2:y.all (kE n)
   ·rw[dj fun h=>by obtain⟨ai,ak,_,bf⟩:=h.d _ B4;have dd:=uP ak;subst dd;rw[uR.2 bf]at q2;cases q2]
    rw[q2]at mq;clear af ab B4 cy;exact b0
   ·rw[q2]at mq;have aw:=af.step ab ⟨y,rfl,aG,uR.1 q2⟩;clear af ab B4 cy;exact hO
 obtain⟨D,rfl,tF,Ja⟩:=Qj af.fin;clear af;simp only[Ij];simp;(with_reducible repeat' first|refine aj ?_|simp);refine dV [1,64,65] (fun i (_:Unit)=>[(66,.int .i64 i)]) k.length (ry (fun x=>x.v<n) k) () b1 (fun k b ad=>by omega) (fun _ af _=>?_) (fun i _ hi af _=>?_);rotate_left
 ·obtain⟨x,ab,cy⟩:=ed hi;by_cases mf:x.v<n
  ·have wX:¬n≤x.v:=by omega
   have aw:=af.step ab mf;clear af ab;exact hO
  ·have wX:n≤x.v:=by omega
   rw[dj fun h=>mf (h.kb x (eK ab))];clear af ab;exact b0
 have xa:=af.fin;clear af;simp;(with_reducible repeat' first|refine aj ?_|simp);have xb:=xa;refine dV [1,77,78] (fun i (_:Unit)=>[(79,.int .i64 i)]) m.length (ry (fun x=>x.v<n) m) () b1 (fun k b ad=>by omega) (fun _ af _=>?_) (fun i _ hi af _=>?_);rotate_left
 ·obtain⟨x,ab,cy⟩:=ed hi;by_cases mf:x.v<n
  ·have wX:¬n≤x.v:=by omega
   have aw:=af.step ab mf;clear af ab;exact hO
  ·have wX:n≤x.v:=by omega
   rw[dj fun h=>mf (h.mb x (eK ab))];clear af ab;exact b0
 have xa:=af.fin;clear af;simp;(with_reducible repeat' first|refine aj ?_|simp);have vk:=xa;have dc:oD ⟨n,s,D,k,m⟩:=⟨by simp only;omega,ag,tF,g4,g5,cP,Ja,xb,vk⟩;have tM:=Ws dc;obtain⟨G,jJ,a1⟩:=BM;have dH:=MS dc jJ a1;have kY:il ⟨n,s.map ar.b,D.map fun x=>x.map ar.b,k,m⟩↔ik ⟨n,s,D,k,m⟩=some ⟨n,s,D,k,m⟩:=tM;clear tM dj;simp only[jj]at dH;cases lv:ik ⟨n,s,D,k,m⟩with
 |none=>
  rw[lv]at dH kY;have fQ:R=false:=by rw[←bh,hE,kY];simp
  rw[fQ];simp only[kB,jW,cX.e]at dH;clear bh fQ kY;exact b0
 |some t=>
  have zo:=Md dc lv;rw[lv]at dH kY;have vx:=amv t ⟨n,s,D,k,m⟩ zo.1.1.b.len (fun x ab=>(zo.1.1.d x ab).len);have fQ:R=decide (t=⟨n,s,D,k,m⟩):=by rw[←bh,decide_eq_decide,kY];simp
  rw[fQ];simp only[j9,pz]at dH;simp only[cX.e]at dH vx;clear bh fQ kY zo;generalize decide (t=(⟨n,s,D,k,m⟩:cX))=Q at vx⊢;obtain⟨oJ,ya,yb,oI,tm⟩:=t;simp only at dH vx;exact b0
def uV:C:=(aa [cx 1 0,be 2 false] (.seq (aa [aF 11 0 1 1,ax 12 1 11,dn 13 75 [.t 12,(gd 0),(gd 100000)],cu 14 13,I 15 14,aq 15 false (aF 16 1 1 1),aq 15 false (ax 17 1 16),aq 15 false (cD 18 76 17),aq 15 false (cu 19 18),c2 20 15 19,I 21 20,aq 21 false (aF 22 2 1 1),aq 21 false (ax 23 1 22),aq 21 false (cD 24 77 23),aq 21 false (cu 25 24),c2 26 21 25,I 27 26,aq 27 false (aF 28 3 1 1),aq 27 false (ax 29 1 28),aq 27 false (cD 30 78 29),aq 27 false (cu 31 30),c2 32 27 31,I 33 32,aq 33 false (aF 34 4 1 1),aq 33 false (ax 35 1 34),aq 33 false (cD 36 79 35),aq 33 false (cu 37 36),c2 38 33 37,I 39 38,aq 39 false (aF 40 1 1 1),aq 39 false (ax 41 1 40),aq 39 false (aF 42 0 1 1),aq 39 false (ax 43 1 42),aq 39 false (b7 44 80 41 43),aq 39 false (cu 45 44),c2 46 39 45] (aT 46 (aa [be 2 false] .ret) .skip)) (.seq (aa [aF 47 2 1 1,ax 48 1 47,cn 49 48,bV 50 0] (fw 51 50 49 (.seq (.block 1 (aa [ct 52 1 48 50,ax 53 1 52,I 4 53] (aa [I 54 4,aF 55 0 1 1,ax 56 1 55,b7 57 80 54 56,cu 58 57] (aT 58 (aa [be 2 false] .ret) .skip)))) (.region [aU 59 .add 50 1,I 50 59])))) (.seq (aa [aF 60 3 1 1,ax 61 1 60,cn 62 61,bV 63 0] (.block 2 (.loop (aa [bo 64 .lss 63 62] (.seq (aT 64 .skip (.exit 2)) (.seq (.block 3 (aa [ct 65 2 61 63,aW 66 2 65,c3 (.alloc 6 none (.agg [.int .i64 0,.int .i64 0])),bK 2 6 66] (aa [aF 67 0 1 6,ax 68 1 67,aF 69 0 1 1,ax 70 1 69,bo 71 .geq 68 70] (aT 71 (aa [be 2 false] .ret) .skip)))) (.region [aU 72 .add 63 1,I 63 72]))))))) (.seq (aa [aF 73 4 1 1,ax 74 1 73,cn 75 74,bV 76 0] (.block 4 (.loop (aa [bo 77 .lss 76 75] (.seq (aT 77 .skip (.exit 4)) (.seq (.block 5 (aa [ct 78 2 74 76,aW 79 2 78,c3 (.alloc 8 none (.agg [.int .i64 0,.str []])),bK 2 8 79] (aa [aF 80 0 1 8,ax 81 1 80,aF 82 0 1 1,ax 83 1 82,bo 84 .geq 81 83] (aT 84 (aa [be 2 false] .ret) .skip)))) (.region [aU 85 .add 76 1,I 76 85]))))))) (aa [aW 87 5 1,cD 88 81 87,I 86 88,cC 89 0 86,cC 90 1 86,dk 9 hy,bK 5 9 89,I 10 90] (aa [I 91 10,I 92 91,aq 92 true (aW 93 5 9),aq 92 true (aW 94 5 1),aq 92 true (b7 95 82 93 94),dz 96 92 95,I 2 96] .ret)))))))
@[simp] def aj3:List bt:=[.tmp 2]
def D5:C:=(aa [cx 1 0,dk 2 hy,be 3 false] (aa [aF 20 1 1 1,ax 21 1 20,aF 22 3 1 1,ax 23 1 22,b7 24 149 21 23,I 19 24,cC 25 0 19,cC 26 1 19,I 4 25,I 5 26] (aa [aF 28 1 1 1,ax 29 1 28,aF 30 4 1 1,ax 31 1 30,b7 32 150 29 31,I 27 32,cC 33 0 27,cC 34 1 27,I 6 33,I 7 34] (.seq (aa [I 35 5,cu 36 35,I 37 36,b3 37 false 38 7,aq 37 false (cu 39 38),c2 40 37 39] (aT 40 (aa [iu 41 hy [],bK 5 2 41,be 3 false] .ret) .skip)) (aa [aF 42 0 1 1,ax 43 1 42,aF 44 1 1 1,ax 45 1 44,I 46 4,iu 47 hy [(0,1,(.t 43)),(1,1,(.t 45)),(3,1,(.t 46))],dk 8 hy,bK 5 8 47] (.seq (aa [I 48 6,cn 49 48,bV 50 0] (fw 51 50 49 (.seq (.block 1 (aa [ct 52 2 48 50,aW 53 2 52,c3 (.alloc 10 none (.agg [.int .i64 0,.str []])),bK 2 10 53] (aa [I 55 4,aF 56 0 1 10,ax 57 1 56,cD 58 114 57,dn 59 151 [.t 55,.t 58,(gd 2)],I 54 59,cC 60 0 54,cC 61 1 54,I 11 60,I 12 61] (aa [I 62 12] (aT 62 (.region [aF 63 4 1 8,ax 64 1 63,aW 65 2 10,ei 66 2 100 [.t 65],gF 67 2 100 64 66,aF 68 4 1 8,bK 1 68 67]) .skip))))) (.region [aU 69 .add 50 1,I 50 69])))) (aa [ei 70 1 46 [],I 13 70] (.seq (aa [aF 71 2 1 1,ax 72 1 71,cn 73 72,bV 74 0] (.block 2 (.loop (aa [bo 75 .lss 74 73] (.seq (aT 75 .skip (.exit 2)) (.seq (.block 3 (aa [ct 76 1 72 74,ax 77 1 76,I 15 77] (aa [aF 79 1 1 1,ax 80 1 79,I 81 15,b7 82 152 80 81,I 78 82,cC 83 0 78,cC 84 1 78,I 16 83,I 17 84] (.seq (aa [I 85 17] (aT 85 (aa [I 87 16,aF 88 3 1 8,ax 89 1 88,b7 90 149 87 89,I 86 90,cC 91 0 86,cC 92 1 86,I 5 92] (.region [I 94 16,aF 95 4 1 8,ax 96 1 95,b7 97 150 94 96,I 93 97,cC 98 0 93,cC 99 1 93,I 7 99])) .skip)) (.seq (aa [I 100 17,cu 101 100,I 102 101,b3 102 false 103 5,aq 102 false (cu 104 103),c2 105 102 104,I 106 105,b3 106 false 107 7,aq 106 false (cu 108 107),c2 109 106 108] (aT 109 (aa [be 5 true] (aa [be 7 true] (.exit 3))) .skip)) (aa [aF 110 1 1 1,ax 111 1 110,I 112 16,b7 113 153 111 112,I 18 113] (.seq (aa [I 114 18,cn 115 114,aU 116 .eql 115 0] (aT 116 (aa [iu 117 hy [],bK 5 2 117,be 3 false] .ret) .skip)) (.region [I 118 13,I 119 18,ei 120 1 46 [.t 119],gF 121 1 46 118 120,I 13 121])))))))) (.region [aU 122 .add 74 1,I 74 122]))))))) (aa [I 123 13,cD 124 154 123,aF 125 2 1 8,bK 1 125 124] (.seq (.fz true 8 (.drawn true 131 [b5 126 (.loadZ true 5 (.t 8)),aF 127 2 1 8,b5 128 (.loadZ false 1 (.t 127)),cn 129 128,aU 130 .leq 129 30,bK 5 2 126,I 3 130])) .ret))))))))))
@[simp] def uv:List bt:=[.cell 2 true 5,.tmp 3]
def wM:C:=(aa [cx 2 0,cx 3 1,be 4 false] (.seq (aa [aF 11 0 1 2,ax 12 1 11,aF 13 0 1 3,ax 14 1 13,bo 15 .neq 12 14,I 16 15,aq 16 false (aF 17 1 1 2),aq 16 false (ax 18 1 17),aq 16 false (aF 19 1 1 3),aq 16 false (ax 20 1 19),aq 16 false (b7 21 155 18 20),aq 16 false (aU 22 .neq 21 0),c2 23 16 22,I 24 23,aq 24 false (aF 25 2 1 2),aq 24 false (ax 26 1 25),aq 24 false (cn 27 26),aq 24 false (aF 28 2 1 3),aq 24 false (ax 29 1 28),aq 24 false (cn 30 29),aq 24 false (bo 31 .neq 27 30),c2 32 24 31,I 33 32,aq 33 false (aF 34 3 1 2),aq 33 false (ax 35 1 34),aq 33 false (cn 36 35),aq 33 false (aF 37 3 1 3),aq 33 false (ax 38 1 37),aq 33 false (cn 39 38),aq 33 false (bo 40 .neq 36 39),c2 41 33 40,I 42 41,aq 42 false (aF 43 4 1 2),aq 42 false (ax 44 1 43),aq 42 false (cn 45 44),aq 42 false (aF 46 4 1 3),aq 42 false (ax 47 1 46),aq 42 false (cn 48 47),aq 42 false (bo 49 .neq 45 48),c2 50 42 49] (aT 50 (aa [be 4 false] .ret) .skip)) (.seq (aa [aF 51 2 1 2,ax 52 1 51,cn 53 52,bV 54 0] (fw 55 54 53 (.seq (.block 1 (aa [I 56 54,ct 57 1 52 54,ax 58 1 57,I 5 56,I 6 58] (aa [I 59 6,aF 60 2 1 3,ax 61 1 60,I 62 5,ct 63 1 61 62,ax 64 1 63,b7 65 155 59 64,aU 66 .neq 65 0] (aT 66 (aa [be 4 false] .ret) .skip)))) (.region [aU 67 .add 54 1,I 54 67])))) (.seq (aa [aF 68 3 1 2,ax 69 1 68,cn 70 69,bV 71 0] (.block 2 (.loop (aa [bo 72 .lss 71 70] (.seq (aT 72 .skip (.exit 2)) (.seq (.block 3 (aa [I 73 71,ct 74 2 69 71,aW 75 2 74,c3 (.alloc 8 none (.agg [.int .i64 0,.int .i64 0])),I 7 73,bK 2 8 75] (.seq (.drawn true 100 [aW 76 2 8,aF 77 3 1 3,ax 78 1 77,I 79 7,ct 80 2 78 79,aW 81 2 80,b5 82 (.beq true (some [false,false]) (.t 76) (.t 81))]) (aT 82 (aa [be 4 false] .ret) .skip)))) (.region [aU 83 .add 71 1,I 71 83]))))))) (.seq (aa [aF 84 4 1 2,ax 85 1 84,cn 86 85,bV 87 0] (.block 4 (.loop (aa [bo 88 .lss 87 86] (.seq (aT 88 .skip (.exit 4)) (.seq (.block 5 (aa [I 89 87,ct 90 2 85 87,aW 91 2 90,c3 (.alloc 10 none (.agg [.int .i64 0,.str []])),I 9 89,bK 2 10 91] (.seq (.drawn true 100 [aW 92 2 10,aF 93 4 1 3,ax 94 1 93,I 95 9,ct 96 2 94 95,aW 97 2 96,b5 98 (.beq true (some [false,true]) (.t 92) (.t 97))]) (aT 98 (aa [be 4 false] .ret) .skip)))) (.region [aU 99 .add 87 1,I 87 99]))))))) (aa [be 4 true] .ret))))))
@[simp] def Gm:List bt:=[.tmp 4]
def GZ:List (Nat×dC):=[
 (3,⟨1,8,.int .i64,.int .i64 0⟩),
 (9,⟨1,16,.str,.str []⟩),
 (46,⟨1,24,.slice 113,.slice 5 .nil []⟩),
 (47,⟨1,24,.slice 46,.slice 1 .nil []⟩),
 (48,⟨1,24,.slice 98,.slice 2 .nil []⟩),
 (49,⟨1,24,.slice 100,.slice 2 .nil []⟩),
 (51,⟨5,104,.struct [(0,3),(1,46),(2,47),(3,48),(4,49)],.agg [.int .i64 0,.slice 5 .nil [],.slice 1 .nil [],.slice 2 .nil [],.slice 2 .nil []]⟩),
 (98,⟨2,16,.struct [(0,3),(1,3)],.agg [.int .i64 0,.int .i64 0]⟩),
 (100,⟨2,24,.struct [(0,3),(1,9)],.agg [.int .i64 0,.str []]⟩)]
theorem nL:fM al GZ=true:=by kernel_rfl
theorem xN:bX GZ uV aj3 1 Tryz.f27=true:=by kernel_rfl
theorem wQ:al.funcs[(27:Nat)]? =some Tryz.f27:=Tryz.func27
theorem Ld:bX GZ D5 uv 1 Tryz.f81=true:=by kernel_rfl
theorem IP:al.funcs[(81:Nat)]? =some Tryz.f81:=Tryz.func81
theorem zV:bX GZ wM Gm 2 Tryz.f82=true:=by kernel_rfl
theorem yM:al.funcs[(82:Nat)]? =some Tryz.f82:=Tryz.func82
noncomputable def sT(s:cX):ah:= .tuple [(vY s).e,.bool (ik s).isSome]
@[simp] theorem apB(S:aH→Prop)(s:cX):aC S (sT s)=True:=by simp[sT,aC,aJ]
theorem amb{k:List bJ}(ad:iV k)(v:Int):bG al 151 [.slice 2 .no (k.map bJ.e),(T.var v).e,.int .i64 2] (oz k (ka k (.var v) 2)):=Xg k (by have:=sD ad;omega) ad.asc (.var v) 2
theorem MK{b y:List ar}(ae:eA b)(aG:eA y):bG al 153 [.slice 5 .no (b.map ar.e),.slice 5 .no (y.map ar.e)] (cE (eF b y)):=al6 ae aG
theorem Xd{b x:List ar}(ae:eA b)(ab:eA x):bG al 152 [.slice 5 .no (b.map ar.e),cE x] (fs (mgu b (hq x))):=al5 b x ae.sol ae.fits ab.len
def KA(a:List bj):ah:=match a with
 |[]=>.slice 2 .nil []
 |_::_=>.slice 2 (.own (.loc 5)) (a.map bj.e)
def Kz(a:List bj):List (aH×fF):=match a with
 |[]=>[]
 |_::_=>[(.loc 5,⟨a.length,100,2,none⟩)]
def Ky(a:List bj):Nat:=match a with
 |[]=>3
 |_::_=>6
@[simp] theorem apZ:KA []= .slice 2 .nil []:=rfl
@[simp] theorem apY(x:bj)(a:List bj):KA (x::a)= .slice 2 (.own (.loc 5)) (x.e::a.map bj.e):=rfl
@[simp] theorem apX:Kz []=[]:=rfl
@[simp] theorem apW(x:bj)(a:List bj):Kz (x::a)=[(.loc 5,⟨a.length+1,100,2,none⟩)]:=rfl
@[simp] theorem apV:Ky []=3:=rfl
@[simp] theorem apU(x:bj)(a:List bj):Ky (x::a)=6:=rfl
set_option maxRecDepth 4000 in
theorem MP{s:cX}(h:oD s){G:List (List dB)}(jJ:G.length≤687000)(a1:nI G s.m):bG al 81 [s.e] (sT s):=by
 unfold sT;generalize dm:ik s=O;generalize dE:vY s=SS;have kq:=MN h.b h.k;have kr:=MO h.b h.m jJ a1;have k3:=fun k=>Gq (acc:=[]) (a:=k) h.b h.k.at' ⟨by simp,by simp⟩;have pY:=fun m=>Gr (acc:=[]) (a:=m) h.b h.m.at' ⟨by simp,by simp[hF]⟩;have mN:=fun m=>Gs (acc:=[]) (a:=m) (s:=s.b) a1 (fun x ab=>by simp at ab);have ae:=h.b;have aQ:=h.d;clear h a1;unfold ik at dm;unfold vY at dE;obtain⟨n,b,d,ff,m0⟩:=s;simp only at kq kr k3 pY mN ae aQ dm dE;have fy:=ae.len;simp only[cX.e];generalize ga b ff []=ok at kq dm dE k3;generalize gb b m0 []=om at kr dm dE pY mN;cases ok with
 |none=>
  simp only at dm dE;subst dm;subst dE;simp only[fS]at kq;simp only[ja]at kr;clear k3 pY mN;refine bd nL IP Ld fun aP=>?_;unfold D5;simp;(with_reducible repeat' first|refine aj ?_|refine aD kq ?_|refine aE kq ?_|refine aD kr ?_|refine aE kr ?_|simp);all_goals simp[bu,uv,aX,aY,aV]
  all_goals simp[lI,cX.e]
 |some k=>
  simp only at dm dE;cases om with
  |none=>
   simp only at dm dE;subst dm;subst dE;simp only[fS]at kq;simp only[ja]at kr;clear k3 pY mN;refine bd nL IP Ld fun aP=>?_;unfold D5;simp;(with_reducible repeat' first|refine aj ?_|refine aD kq ?_|refine aE kq ?_|refine aD kr ?_|refine aE kr ?_|simp);all_goals simp[bu,uv,aX,aY,aV]
   all_goals simp[lI,cX.e]
  |some m=>
   simp only at dm dE;have vf:=k3 k rfl;have xh:=pY m rfl;have w9:=mN m rfl;have mi:m.length≤68719470000:=by have:=Co xh w9;omega
   have zb:=TX (k:=k) xh;have y5:=Mx (k:=k) w9;simp only[fS,j9,pz]at kq;simp only[ja,j9,pz]at kr;clear k3 pY mN;refine bd nL IP Ld fun aP=>?_;unfold D5;have Jj:d.length≤68719476736:=by simp[eC,ec,ev,lim]at aP;omega
   clear aP;simp;(with_reducible repeat' first|refine aj ?_|refine aD kq ?_|refine aE kq ?_|refine aD kr ?_|refine aE kr ?_|simp);refine hR (fun i (a:List bj)=>⟨[(1,.ptr (.loc 0) 0),(2,.ptr (.loc 1) 0),(4,.slice 2 .no (k.map bJ.e)),(8,.ptr (.loc 2) 0),(48,.slice 2 .no (m.map bj.e)),(49,.int .i64 m.length),(50,.int .i64 i)],[(.loc 0,[.int .i64 n,.slice 5 .no (b.map ar.e),.slice 1 .no (d.map cE),.slice 2 .no (ff.map bJ.e),.slice 2 .no (m0.map bj.e)]),(.loc 1,[.int .i64 0,.slice 5 .nil [],.slice 1 .nil [],.slice 2 .nil [],.slice 2 .nil []]),(.loc 2,[.int .i64 n,.slice 5 .no (b.map ar.e),.slice 1 .nil [],.slice 2 .no (k.map bJ.e),KA a])],Kz a,Ky a,[]⟩) m.length (sB k m) [] b1 (by simp[sB]) (fun a af _=>?_) (fun i a hi af _=>?_);rotate_left
   ·obtain⟨x,ab,cy⟩:=ed hi;have q6:a.length≤68719470000:=by
     have:a.length≤(m.take i).length:=by rw[af];exact List.length_filter_le _ _
     simp at this;omega
    have aw:=af.step ab;have mq:=amb vf x.v;have bn:(ka k (.var x.v) 2).isSome=kt k x:=X6 vf x.v;simp only[oz,bn]at mq;clear bn;generalize (ka k (.var x.v) 2).getD k=kz at mq;cases aI:kt k x
    ·rw[aI]at aw mq;simp only[gP,if_false]at aw;clear af ab aI;cases a with
     |nil=>simp[hi,cy];(with_reducible repeat' first|refine aj ?_|refine aD (j8 _) ?_|refine aE (j8 _) ?_|refine aD mq ?_|refine aE mq ?_|simp[hi,cy]);all_goals exact bP.rng [] hi aw b1
     |cons y ys=>simp[hi,cy];(with_reducible repeat' first|refine aj ?_|refine aD (j8 _) ?_|refine aE (j8 _) ?_|refine aD mq ?_|refine aE mq ?_|simp[hi,cy]);all_goals exact bP.rng (y::ys) hi aw b1
    ·rw[aI]at aw mq;simp only[if_true]at aw;clear af ab aI;cases a with
     |nil=>
      simp[hi,cy];(with_reducible repeat' first|refine aj ?_|refine aD (j8 _) ?_|refine aE (j8 _) ?_|refine aD mq ?_|refine aE mq ?_|simp[hi,cy]);all_goals first|(refine⟨by unfold lim;omega,?_⟩)|skip
      all_goals(with_reducible repeat' first|refine aj ?_|simp)
      all_goals exact bP.rng [x] hi aw b1
     |cons y ys=>
      simp only[p8]at q6;simp[hi,cy];(with_reducible repeat' first|refine aj ?_|refine aD (j8 _) ?_|refine aE (j8 _) ?_|refine aD mq ?_|refine aE mq ?_|simp[hi,cy]);all_goals first|(refine⟨by unfold lim;omega,?_⟩)|skip
      all_goals(with_reducible repeat' first|refine aj ?_|simp)
      all_goals exact bP.rng (y::ys++[x]) hi aw ⟨by simp[fresh,aJ,aC,cd,inObs,Pv.look,zB],dY (by simp[fresh,aJ,aC,cd,inObs,Pv.look,zB]),dZ (by simp[fresh,aJ,aC,dP,inObs,Pv.look,zB]),by simp⟩
   rw[sB,nP]at af;rw[←af]at zb y5 dm dE;clear af xh w9;cases a with
   |nil=>
    simp;(with_reducible repeat' first|refine aj ?_|simp);refine hR (fun i (L:List (List ar))=>⟨[(1,.ptr (.loc 0) 0),(2,.ptr (.loc 1) 0),(8,.ptr (.loc 2) 0),(13,.slice 1 (.own (.loc 3)) (L.map cE)),(72,.slice 1 .no (d.map cE)),(73,.int .i64 d.length),(74,.int .i64 i)],[(.loc 0,[.int .i64 n,.slice 5 .no (b.map ar.e),.slice 1 .no (d.map cE),.slice 2 .no (ff.map bJ.e),.slice 2 .no (m0.map bj.e)]),(.loc 1,[.int .i64 0,.slice 5 .nil [],.slice 1 .nil [],.slice 2 .nil [],.slice 2 .nil []]),(.loc 2,[.int .i64 n,.slice 5 .no (b.map ar.e),.slice 1 .nil [],.slice 2 .no (k.map bJ.e),.slice 2 .nil []])],[(.loc 3,⟨L.length,46,1,none⟩)],3+1,[]⟩) d.length (pO b k [] d) [] b1 ⟨by simp,by simp,by simp⟩ (fun L af _=>?_) (fun i L hi af _=>?_)
    ·have jt:=af.fin;have u9:=af.2.1;rw[jt]at dm dE;simp only at dm dE;have mX:=Xf L u9;clear af jt u9;generalize kJ L=M at mX dm dE;subst dE;by_cases lh:M.length≤30
     ·have n4:(M.length:Int)≤30:=by omega
      rw[if_pos lh]at dm;subst dm;simp;(with_reducible repeat' first|refine aj ?_|refine aD mX ?_|refine aE mX ?_|simp[lh,n4]);all_goals simp[bu,uv,aX,aY,aV]
      all_goals try simp[cX.e,lh,n4]
      all_goals first|exact⟨_,rfl,rfl⟩|skip
     ·have n4:¬(M.length:Int)≤30:=by omega
      rw[if_neg lh]at dm;subst dm;simp;(with_reducible repeat' first|refine aj ?_|refine aD mX ?_|refine aE mX ?_|simp[lh,n4]);all_goals simp[bu,uv,aX,aY,aV]
      all_goals try simp[cX.e,lh,n4]
      all_goals first|exact⟨_,rfl,rfl⟩|skip
    ·obtain⟨x,ab,cy⟩:=ed hi;have hJ:=aQ x (eK ab);have RB:=af.1;have hL:=Xd ae hJ;simp only[fs]at hL;cases hu:mgu b (hq x)with
     |none=>have aw:=af.skip ab fun r=>Kr hu;rw[hu]at hL;simp only[kB,jW]at hL;clear af ab dm dE;exact hO
     |some y=>
      have iT:=ae.mgu (Bb hJ) hu;rw[hu]at hL;simp only[j9,pz]at hL;have dg:=MN iT vf;have dT:=MO iT zb jJ y5;have hM:=MK ae iT;simp only[fS]at dg;simp only[ja,mC,gG]at dT;by_cases ju:ga y k []=none∨gb y [] []=none
      ·have aw:=af.skip ab fun r=>Kq hu ju;clear af ab dm dE hu hM;rcases ju with e|e
       ·rw[e]at dg;simp only[kB,jW]at dg;exact hO
       ·rw[e]at dT;simp only[kB,jW]at dT;generalize (ga y k []).isSome=a6 at dg;cases a6
        ·exact hO
        ·exact hO
      ·have ak:(ga y k []).isSome=true:=by cases e:ga y k []with|none=>exact absurd (.inl e) ju|some _=>rfl
       have aB:(gb y [] []).isSome=true:=by cases e:gb y [] []with|none=>exact absurd (.inr e) ju|some _=>rfl
       rw[ak]at dg;rw[aB]at dT;by_cases cF:eF b y=[]
       ·have ag:=af.stop ab fun r=>Kp hu ju cF;rw[ag]at dm dE;simp only at dm dE;subst dm;subst dE;rw[cF]at hM;simp only[cE,mC]at hM;clear af ab hu ju;simp[hi,cy];(with_reducible repeat' first|refine aj ?_|refine aD hL ?_|refine aE hL ?_|refine aD dg ?_|refine aE dg ?_|refine aD dT ?_|refine aE dT ?_|refine aD hM ?_|refine aE hM ?_|simp[hi,cy]);all_goals simp[bu,uv,aX,aY,aV]
        all_goals try simp[lI,cX.e]
       ·have aw:=af.snoc ab (Cw (b:=b) iT) fun r=>Ks hu ju cF;have vh:¬((eF b y).length:Int)=0:=by have:(eF b y).length≠0:=fun h=>cF (List.length_eq_zero_iff.1 h);omega
        have vi:(((eF b y).length:Int)==0)=false:=by simp[cF]
        clear af ab hu ju dm dE;generalize eF b y=z at hM aw vh vi cF;simp only[cE]at hM;simp[hi,cy];(with_reducible repeat' first|refine aj ?_|refine aD hL ?_|refine aE hL ?_|refine aD dg ?_|refine aE dg ?_|refine aD dT ?_|refine aE dT ?_|refine aD hM ?_|refine aE hM ?_|simp[hi,cy,vh,vi,cF]);all_goals first|(refine⟨by unfold lim;omega,?_⟩)|skip
        all_goals(with_reducible repeat' first|refine aj ?_|simp)
        all_goals exact bP.rng (L++[z]) hi aw ⟨by simp[fresh,aJ,aC,cd,inObs,Pv.look,sF,cE],dY (by simp[fresh,aJ,aC,cd,inObs,Pv.look,sF,cE]),dZ (by simp[fresh,aJ,aC,dP,inObs,Pv.look,sF,cE]),by simp⟩
   |cons Dr Ds=>
    simp;(with_reducible repeat' first|refine aj ?_|simp);refine hR (fun i (L:List (List ar))=>⟨[(1,.ptr (.loc 0) 0),(2,.ptr (.loc 1) 0),(8,.ptr (.loc 2) 0),(13,.slice 1 (.own (.loc 6)) (L.map cE)),(72,.slice 1 .no (d.map cE)),(73,.int .i64 d.length),(74,.int .i64 i)],[(.loc 0,[.int .i64 n,.slice 5 .no (b.map ar.e),.slice 1 .no (d.map cE),.slice 2 .no (ff.map bJ.e),.slice 2 .no (m0.map bj.e)]),(.loc 1,[.int .i64 0,.slice 5 .nil [],.slice 1 .nil [],.slice 2 .nil [],.slice 2 .nil []]),(.loc 2,[.int .i64 n,.slice 5 .no (b.map ar.e),.slice 1 .nil [],.slice 2 .no (k.map bJ.e),.slice 2 (.own (.loc 5)) (Dr.e::Ds.map bj.e)])],[(.loc 6,⟨L.length,46,1,none⟩)],6+1,[]⟩) d.length (pO b k (Dr::Ds) d) [] b1 ⟨by simp,by simp,by simp⟩ (fun L af _=>?_) (fun i L hi af _=>?_)
    ·have jt:=af.fin;have u9:=af.2.1;rw[jt]at dm dE;simp only at dm dE;have mX:=Xf L u9;clear af jt u9;generalize kJ L=M at mX dm dE;subst dE;by_cases lh:M.length≤30
     ·have n4:(M.length:Int)≤30:=by omega
      rw[if_pos lh]at dm;subst dm;simp;(with_reducible repeat' first|refine aj ?_|refine aD mX ?_|refine aE mX ?_|simp[lh,n4]);all_goals simp[bu,uv,aX,aY,aV]
      all_goals try simp[cX.e,lh,n4]
      all_goals first|exact⟨_,rfl,rfl⟩|skip
     ·have n4:¬(M.length:Int)≤30:=by omega
      rw[if_neg lh]at dm;subst dm;simp;(with_reducible repeat' first|refine aj ?_|refine aD mX ?_|refine aE mX ?_|simp[lh,n4]);all_goals simp[bu,uv,aX,aY,aV]
      all_goals try simp[cX.e,lh,n4]
      all_goals first|exact⟨_,rfl,rfl⟩|skip
    ·obtain⟨x,ab,cy⟩:=ed hi;have hJ:=aQ x (eK ab);have RB:=af.1;have hL:=Xd ae hJ;simp only[fs]at hL;cases hu:mgu b (hq x)with
     |none=>have aw:=af.skip ab fun r=>Kr hu;rw[hu]at hL;simp only[kB,jW]at hL;clear af ab dm dE;exact hO
     |some y=>
      have iT:=ae.mgu (Bb hJ) hu;rw[hu]at hL;simp only[j9,pz]at hL;have dg:=MN iT vf;have dT:=MO iT zb jJ y5;have hM:=MK ae iT;simp only[fS]at dg;simp only[ja,mC,gG]at dT;by_cases ju:ga y k []=none∨gb y (Dr::Ds) []=none
      ·have aw:=af.skip ab fun r=>Kq hu ju;clear af ab dm dE hu hM;rcases ju with e|e
       ·rw[e]at dg;simp only[kB,jW]at dg;exact hO
       ·rw[e]at dT;simp only[kB,jW]at dT;generalize (ga y k []).isSome=a6 at dg;cases a6
        ·exact hO
        ·exact hO
      ·have ak:(ga y k []).isSome=true:=by cases e:ga y k []with|none=>exact absurd (.inl e) ju|some _=>rfl
       have aB:(gb y (Dr::Ds) []).isSome=true:=by cases e:gb y (Dr::Ds) []with|none=>exact absurd (.inr e) ju|some _=>rfl
       rw[ak]at dg;rw[aB]at dT;by_cases cF:eF b y=[]
       ·have ag:=af.stop ab fun r=>Kp hu ju cF;rw[ag]at dm dE;simp only at dm dE;subst dm;subst dE;rw[cF]at hM;simp only[cE,mC]at hM;clear af ab hu ju;simp[hi,cy];(with_reducible repeat' first|refine aj ?_|refine aD hL ?_|refine aE hL ?_|refine aD dg ?_|refine aE dg ?_|refine aD dT ?_|refine aE dT ?_|refine aD hM ?_|refine aE hM ?_|simp[hi,cy]);all_goals simp[bu,uv,aX,aY,aV]
        all_goals try simp[lI,cX.e]
       ·have aw:=af.snoc ab (Cw (b:=b) iT) fun r=>Ks hu ju cF;have vh:¬((eF b y).length:Int)=0:=by have:(eF b y).length≠0:=fun h=>cF (List.length_eq_zero_iff.1 h);omega
        have vi:(((eF b y).length:Int)==0)=false:=by simp[cF]
        clear af ab hu ju dm dE;generalize eF b y=z at hM aw vh vi cF;simp only[cE]at hM;simp[hi,cy];(with_reducible repeat' first|refine aj ?_|refine aD hL ?_|refine aE hL ?_|refine aD dg ?_|refine aE dg ?_|refine aD dT ?_|refine aE dT ?_|refine aD hM ?_|refine aE hM ?_|simp[hi,cy,vh,vi,cF]);all_goals first|(refine⟨by unfold lim;omega,?_⟩)|skip
        all_goals(with_reducible repeat' first|refine aj ?_|simp)
        all_goals exact bP.rng (L++[z]) hi aw ⟨by simp[fresh,aJ,aC,cd,inObs,Pv.look,sF,cE],dY (by simp[fresh,aJ,aC,cd,inObs,Pv.look,sF,cE]),dZ (by simp[fresh,aJ,aC,dP,inObs,Pv.look,sF,cE]),by simp⟩
theorem al9(x y:List ar):bG al 155 [cE x,cE y] (.int .i64 (ey x y)):=ML x y
theorem aml{x y:List ar}(h:¬x=y):(ey x y !=0)=true:=by have:¬ey x y=0:=fun e=>h ((lC.zero _ _).1 e);simp[this]
set_option maxRecDepth 4000 in
theorem amg(a c:cX):bG al 82 [a.e,c.e] (.bool (decide (a=c))):=by
 obtain⟨n,b,d,k,m⟩:=a;obtain⟨n',bO,b8,bL,hk⟩:=c;generalize bh:decide ((⟨n,b,d,k,m⟩:cX)=⟨n',bO,b8,bL,hk⟩)=R;simp only[cX.mk.injEq,cX.e]at bh⊢;by_cases a6:n=n';rotate_left
 ·have fQ:R=false:=by rw[←bh];simp[a6]
  have sQ:(n !=n')=true:=by simp[a6]
  rw[fQ];clear bh fQ;refine bd nL yM zV fun aP=>?_;unfold wM;exact b0
 subst a6;have fA:=ML b bO;by_cases bz:b=bO;rotate_left
 ·have fQ:R=false:=by rw[←bh];simp[bz]
  have oy:¬ey b bO=0:=fun h=>bz ((lC.zero _ _).1 h);have U0:(ey b bO !=0)=true:=by simp[oy]
  rw[fQ];clear bh fQ;refine bd nL yM zV fun aP=>?_;unfold wM;exact b0
 subst bz;rw[(lC.zero b b).2 rfl]at fA;by_cases bU:d.length=b8.length;rotate_left
 ·have fQ:R=false:=by rw[←bh];simp only[hE];rintro⟨_,_,rfl,_⟩;exact bU rfl
  have rI:((d.length:Int) !=b8.length)=true:=by simp;omega
  rw[fQ];clear bh fQ;refine bd nL yM zV fun aP=>?_;unfold wM;exact b0
 by_cases cT:k.length=bL.length;rotate_left
 ·have fQ:R=false:=by rw[←bh];simp only[hE];rintro⟨_,_,_,rfl,_⟩;exact cT rfl
  have ai7:((k.length:Int) !=bL.length)=true:=by simp;omega
  rw[fQ];clear bh fQ;refine bd nL yM zV fun aP=>?_;unfold wM;exact b0
 by_cases c8:m.length=hk.length;rotate_left
 ·have fQ:R=false:=by rw[←bh];simp only[hE];rintro⟨_,_,_,_,rfl⟩;exact c8 rfl
  have ai8:((m.length:Int) !=hk.length)=true:=by simp;omega
  rw[fQ];clear bh fQ;refine bd nL yM zV fun aP=>?_;unfold wM;exact b0
 have xk:d≠b8→R=false:=fun h=>by rw[←bh];simp[h]
 have xl:k≠bL→R=false:=fun h=>by rw[←bh];simp[h]
 have JC:m≠hk→R=false:=fun h=>by rw[←bh];simp[h]
 refine bd nL yM zV fun aP=>?_;unfold wM;have ael:b8.length≤68719476736:=by simp[eC,ec,ev,lim]at aP;omega
 have aem:bL.length≤68719476736:=by simp[eC,ec,ev,lim]at aP;omega
 have aen:hk.length≤68719476736:=by simp[eC,ec,ev,lim]at aP;omega
 clear aP;simp;(with_reducible repeat' first|refine aj ?_|refine aD fA ?_|refine aE fA ?_|simp[bU,cT,c8]);have dj:=xk;refine dV [2,3,52,53] (fun i (_:Unit)=>[(54,.int .i64 i)]) b8.length (qV d b8) () b1 (fun k ad=>by omega) (fun _ af _=>?_) (fun i _ hi af _=>?_);rotate_left
 ·obtain⟨x,ab⟩:∃x,d[i]? =some x:=⟨_,cf (by omega)⟩;obtain⟨y,aG⟩:∃y,b8[i]? =some y:=⟨_,cf hi⟩;have gh:i<d.length:=by omega
  have cy:∀h,(d[i]'h)=x:=fun h=>by rw[cf gh]at ab;exact fh ab
  have eP:∀h,(b8[i]'h)=y:=fun h=>by rw[cf hi]at aG;exact fh aG
  have fA:=al9 x y;by_cases q:x=y
  ·subst q;have aw:=af.step ab aG;rw[(lC.zero _ _).2 rfl]at fA;clear af ab aG;simp[hi,gh,cy,eP,-ib];(with_reducible repeat' first|refine aj ?_|refine aD fA ?_|refine aE fA ?_|simp[cy,eP,hi,gh,-ib]);all_goals exact bP.rng () hi aw b1
  ·rw[dj (fun h=>q (by rw[h]at ab;rw[ab]at aG;exact fh aG))];have oy:=aml q;clear af ab aG;simp[hi,gh,cy,eP,-ib];(with_reducible repeat' first|refine aj ?_|refine aD fA ?_|refine aE fA ?_|simp[cy,eP,hi,gh,q,oy,-ib]);all_goals simp[bu,Gm,aX,aY,aV]
 have dw:=af.fin bU;subst dw;clear af dj xk bU;simp;(with_reducible repeat' first|refine aj ?_|simp[cT]);have dj:=xl;refine dV [2,3,69,70] (fun i (_:Unit)=>[(71,.int .i64 i)]) bL.length (qV k bL) () b1 (fun k ad=>by omega) (fun _ af _=>?_) (fun i _ hi af _=>?_);rotate_left
 ·obtain⟨x,ab⟩:∃x,k[i]? =some x:=⟨_,cf (by omega)⟩;obtain⟨y,aG⟩:∃y,bL[i]? =some y:=⟨_,cf hi⟩;have gh:i<k.length:=by omega
  have cy:∀h,(k[i]'h)=x:=fun h=>by rw[cf gh]at ab;exact fh ab
  have eP:∀h,(bL[i]'h)=y:=fun h=>by rw[cf hi]at aG;exact fh aG
  have fA:=True.intro;by_cases q:x=y
  ·subst q;have aw:=af.step ab aG;skip;clear af ab aG;simp[hi,gh,cy,eP,-ib];(with_reducible repeat' first|refine aj ?_|refine aD fA ?_|refine aE fA ?_|simp[cy,eP,hi,gh,-ib]);all_goals exact bP.rng () hi aw b1
  ·rw[dj (fun h=>q (by rw[h]at ab;rw[ab]at aG;exact fh aG))];skip;clear af ab aG;simp[hi,gh,cy,eP,-ib];(with_reducible repeat' first|refine aj ?_|refine aD fA ?_|refine aE fA ?_|simp[cy,eP,hi,gh,q,q,-ib]);all_goals simp[bu,Gm,aX,aY,aV]
 have dw:=af.fin cT;subst dw;clear af dj xl cT;simp;(with_reducible repeat' first|refine aj ?_|simp[c8]);have dj:=JC;refine dV [3,85,86] (fun i (_:Unit)=>[(87,.int .i64 i)]) hk.length (qV m hk) () b1 (fun k ad=>by omega) (fun _ af _=>?_) (fun i _ hi af _=>?_);rotate_left
 ·obtain⟨x,ab⟩:∃x,m[i]? =some x:=⟨_,cf (by omega)⟩;obtain⟨y,aG⟩:∃y,hk[i]? =some y:=⟨_,cf hi⟩;have gh:i<m.length:=by omega
  have cy:∀h,(m[i]'h)=x:=fun h=>by rw[cf gh]at ab;exact fh ab
  have eP:∀h,(hk[i]'h)=y:=fun h=>by rw[cf hi]at aG;exact fh aG
  have fA:=True.intro;by_cases q:x=y
  ·subst q;have aw:=af.step ab aG;skip;clear af ab aG;simp[hi,gh,cy,eP,-ib];(with_reducible repeat' first|refine aj ?_|refine aD fA ?_|refine aE fA ?_|simp[cy,eP,hi,gh,-ib]);all_goals exact bP.rng () hi aw b1
  ·rw[dj (fun h=>q (by rw[h]at ab;rw[ab]at aG;exact fh aG))];skip;clear af ab aG;simp[hi,gh,cy,eP,-ib];(with_reducible repeat' first|refine aj ?_|refine aD fA ?_|refine aE fA ?_|simp[cy,eP,hi,gh,q,q,-ib]);all_goals simp[bu,Gm,aX,aY,aV]
 have dw:=af.fin c8;subst dw;have fQ:R=true:=by rw[←bh];simp
 rw[fQ];exact b0
@[simp] theorem ak5:∀l:List (List cW),cR (l.map fW)=l.map fW
 |[]=>rfl
 |x::xs=>by simp[cR,ak5 xs]
theorem Wy:∀{d:List (List cW)},d.all gA=true→∃D:List (List ar),d=(D.map fun x=>x.map ar.b)∧∀x∈D,eA x
 |[],_=>⟨[],rfl,by simp⟩
 |x::d,h=>by
  rw[List.all_cons,cz]at h;obtain⟨D,J,U⟩:=Wy h.2;obtain⟨s,ak,aB⟩:=v8.1 (qL.1 h.1);refine⟨s::D,by rw[J,ak];rfl,fun y aG=>?_⟩;rcases fU.1 aG with rfl|aG
  ·exact aB
  ·exact U y aG
open Classical in
set_option maxRecDepth 4000 in
theorem MQ(r:fi)(dS:hC r.m→jG r.m):bG al 27 [r.e] (.bool (decide (il r))):=by
 generalize bh:decide (il r)=R;have dj:¬LN r→R=false:=fun h=>by rw[←bh,hE];exact fun cr=>h cr.raw
 obtain⟨n,b,d,k,m⟩:=r;simp only[fi.e]at dS⊢;have Fm:=dt n 0 100000;by_cases g1:0≤n∧n≤100000;rotate_left
 ·rw[dj fun h=>g1 h.n];rw[jn g1]at Fm;refine bd nL wQ xN fun aP=>?_;unfold uV;exact b0
 rw[jd g1]at Fm;have k0:bG al 76 [.slice 5 .no (b.map cW.e)] (.bool (gA b)):=MR b;cases g3:gA b
 ·rw[dj fun h=>by obtain⟨s,ak,aB,_⟩:=h.b;have:=qL.2 (v8.2 ⟨s,ak,aB⟩);simp only at this;rw[g3]at this;cases this]
  rw[g3]at k0;refine bd nL wQ xN fun aP=>?_;unfold uV;exact b0
 rw[g3]at k0;obtain⟨s,rfl,ag⟩:=v8.1 (qL.1 g3);clear g3;rw[xF]at k0⊢;have gj:=al8 d;cases u6:d.all gA
 ·rw[dj fun h=>by
   have:d.all gA=true:=by rw[jc];intro x ab;obtain⟨s,ak,aB,_⟩:=h.d x ab;exact qL.2 (v8.2 ⟨s,ak,aB⟩)
   rw[u6]at this;cases this]
  rw[u6]at gj;refine bd nL wQ xN fun aP=>?_;unfold uV;exact b0
 rw[u6]at gj;obtain⟨D,rfl,tF⟩:=Wy u6;clear u6;rw[Ij]at gj⊢;have dg:=amt k;by_cases g4:iV k;rotate_left
 ·rw[dj fun h=>g4 h.k];rw[jn g4]at dg;refine bd nL wQ xN fun aP=>?_;unfold uV;exact b0
 rw[jd g4]at dg;have dT:=amu m;by_cases g5:hC m;rotate_left
 ·rw[dj fun h=>g5 h.m];rw[jn g5]at dT;refine bd nL wQ xN fun aP=>?_;unfold uV;exact b0
 rw[jd g5]at dT;have k1:=Xh s n;cases g6:s.all (kE n)
 ·rw[dj fun h=>by obtain⟨ai,ak,_,bf⟩:=h.b;have dd:=uP ak;subst dd;rw[uR.2 bf]at g6;cases g6]
  rw[g6]at k1;refine bd nL wQ xN fun aP=>?_;unfold uV;exact b0
 rw[g6]at k1;have cP:=uR.1 g6;clear g6;have BM:=dS g5;have mi:=BM.len g5;refine bd nL wQ xN fun aP=>?_;unfold uV;have Jj:D.length≤68719476736:=by simp[eC,ec,ev,lim]at aP;omega
 have ih:=sD g4;clear aP dS;simp;(with_reducible repeat' first|refine aj ?_|refine aD Fm ?_|refine aE Fm ?_|refine aD k0 ?_|refine aE k0 ?_|refine aD gj ?_|refine aE gj ?_|refine aD dg ?_|refine aE dg ?_|refine aD dT ?_|refine aE dT ?_|refine aD k1 ?_|refine aE k1 ?_|simp);refine dV [1,48,49] (fun i (_:Unit)=>[(50,.int .i64 i)]) D.length (ry (fun x=>pC x n) D) () b1 (fun k b ad=>by omega) (fun _ af _=>?_) (fun i _ hi af _=>?_);rotate_left
 ·obtain⟨y,aG,eP⟩:=ed hi;have J0:=eK aG;have mq:bG al 80 [cE y,.int .i64 n] (.bool (y.all (kE n))):=Xh y n;cases q2:y.all (kE n)
  ·rw[dj fun h=>by obtain⟨ai,ak,_,bf⟩:=h.d _ (List.mem_map_of_mem J0);have dd:=uP ak;subst dd;rw[uR.2 bf]at q2;cases q2]
   rw[q2]at mq;clear af aG J0;exact b0
  ·rw[q2]at mq;have aw:=af.step aG (uR.1 q2);clear af aG J0;exact hO
 have Ja:=af.fin;clear af;simp;(with_reducible repeat' first|refine aj ?_|simp);refine dV [1,61,62] (fun i (_:Unit)=>[(63,.int .i64 i)]) k.length (ry (fun x=>x.v<n) k) () b1 (fun k b ad=>by omega) (fun _ af _=>?_) (fun i _ hi af _=>?_);rotate_left
 ·obtain⟨x,ab,cy⟩:=ed hi;by_cases mf:x.v<n
  ·have wX:¬n≤x.v:=by omega
   have aw:=af.step ab mf;clear af ab;exact hO
  ·have wX:n≤x.v:=by omega
   rw[dj fun h=>mf (h.kb x (eK ab))];clear af ab;exact b0
 have xa:=af.fin;clear af;simp;(with_reducible repeat' first|refine aj ?_|simp);have xb:=xa;refine dV [1,74,75] (fun i (_:Unit)=>[(76,.int .i64 i)]) m.length (ry (fun x=>x.v<n) m) () b1 (fun k b ad=>by omega) (fun _ af _=>?_) (fun i _ hi af _=>?_);rotate_left
 ·obtain⟨x,ab,cy⟩:=ed hi;by_cases mf:x.v<n
  ·have wX:¬n≤x.v:=by omega
   have aw:=af.step ab mf;clear af ab;exact hO
  ·have wX:n≤x.v:=by omega
   rw[dj fun h=>mf (h.mb x (eK ab))];clear af ab;exact b0
 have xa:=af.fin;clear af;simp;(with_reducible repeat' first|refine aj ?_|simp);have vk:=xa;have dc:oD ⟨n,s,D,k,m⟩:=⟨g1,ag,tF,g4,g5,cP,Ja,xb,vk⟩;have tM:=Ws dc;obtain⟨G,jJ,a1⟩:=BM;have dH:=MP dc jJ a1;have kY:il ⟨n,s.map ar.b,D.map fun x=>x.map ar.b,k,m⟩↔ik ⟨n,s,D,k,m⟩=some ⟨n,s,D,k,m⟩:=tM;clear tM dj;simp only[sT]at dH;generalize Jc:vY ⟨n,s,D,k,m⟩=t at dH;have vx:=amg t ⟨n,s,D,k,m⟩;cases lv:ik ⟨n,s,D,k,m⟩with
 |none=>
  rw[lv]at dH kY;have fQ:R=false:=by rw[←bh,hE,kY];simp
  rw[fQ];obtain⟨oJ,ya,yb,oI,tm⟩:=t;simp only[jW,cX.e]at dH;clear bh fQ kY Jc vx;exact b0
 |some dJ=>
  have ak:=Me lv;rw[Jc]at ak;subst ak;rw[lv]at dH kY;have fQ:R=decide (t=⟨n,s,D,k,m⟩):=by rw[←bh,decide_eq_decide,kY];simp
  rw[fQ];simp only[pz]at dH;simp only[cX.e]at dH vx;clear bh fQ kY lv;generalize decide (t=(⟨n,s,D,k,m⟩:cX))=Q at vx⊢;clear Jc;obtain⟨oJ,ya,yb,oI,tm⟩:=t;simp only at dH vx;exact b0
def pD(d:c6 (c6 e0)):ah:=d.e 1 kd
def pS(k:c6 bJ):ah:=k.e 2 bJ.e
def pW(m:c6 hd):ah:=m.e 2 hd.e
@[simp] theorem apq(S:aH→Prop)(d:c6 (c6 e0)):aC S (pD d)=True:=by cases d<;>simp[pD,c6.e,aC]
@[simp] theorem arZ(d:c6 (c6 e0)):dh (pD d)=pD d:=by
 cases d with
 |l l=>
  have:∀l:List (c6 e0),cR (l.map kd)=l.map kd:=by
   intro l;induction l with
   |nil=>rfl
   |cons x l bS=>simp[cR,bS]
  simp[pD,c6.e,dh,this]
 |b=>simp[pD,c6.e,dh]
@[simp] theorem arx(d:c6 (c6 e0)):dX (pD d)=true:=by cases d<;>rfl
@[simp] theorem anx(d:c6 (c6 e0)):cells (pD d)=[pD d]:=by cases d<;>rfl
@[simp] theorem apx(S:aH→Prop)(d:c6 bJ):aC S (pS d)=True:=by cases d<;>simp[pS,c6.e,aC]
@[simp] theorem ar6(d:c6 bJ):dh (pS d)=pS d:=by
 cases d with
 |l l=>
  have:∀l:List bJ,cR (l.map bJ.e)=l.map bJ.e:=by
   intro l;induction l with
   |nil=>rfl
   |cons x l bS=>simp[cR,bS]
  simp[pS,c6.e,dh,this]
 |b=>simp[pS,c6.e,dh]
@[simp] theorem arH(d:c6 bJ):dX (pS d)=true:=by cases d<;>rfl
@[simp] theorem anJ(d:c6 bJ):cells (pS d)=[pS d]:=by cases d<;>rfl
@[simp] theorem apz(S:aH→Prop)(d:c6 hd):aC S (pW d)=True:=by cases d<;>simp[pW,c6.e,aC]
@[simp] theorem ar8(d:c6 hd):dh (pW d)=pW d:=by
 cases d with
 |l l=>
  have:∀l:List hd,cR (l.map hd.e)=l.map hd.e:=by
   intro l;induction l with
   |nil=>rfl
   |cons x l bS=>simp[cR,bS]
  simp[pW,c6.e,dh,this]
 |b=>simp[pW,c6.e,dh]
@[simp] theorem arJ(d:c6 hd):dX (pW d)=true:=by cases d<;>rfl
@[simp] theorem anL(d:c6 hd):cells (pW d)=[pW d]:=by cases d<;>rfl
structure nV where
 n:Int
 b:c6 e0
 d:c6 (c6 e0)
 k:c6 bJ
 m:c6 hd
def nV.e(r:nV):ah:= .agg [.int .i64 r.n,kd r.b,pD r.d,pS r.k,pW r.m]
structure nV.wf (r:nV):Prop where
 b:wo r.b
 d:r.d.wf wo
 k:∀p n cap,r.k= .b p n cap→mz n
 m:r.m.wf fun x=>x.s.wf
def sX(r:nV)(m:Int):Int:=if hW r.b m<0 then-1 else if gE hW r.d (hW r.b m)<0 then-1 else if oF r.k (gE hW r.d (hW r.b m))<0 then-1 else if gE lG r.m (oF r.k (gE hW r.d (hW r.b m)))<0 then-1 else gE lG r.m (oF r.k (gE hW r.d (hW r.b m)))
def yv(b:cW):e0:=⟨b.v,uH b.t⟩
def xH(b:bj):hd:=⟨b.v,.s b.s⟩
theorem Yy(b:cW):(yv b).e=b.e:=by have h:=GW b.t;rw[cq.e_eq,u0]at h;simp only[ah.agg.injEq,p6,and_true,true_and]at h;obtain⟨J,U,ao,a8⟩:=h;show ah.agg [_,_,_,_,_]=ah.agg [_,_,_,_,_];rw[show(yv b).t=uH b.t from rfl,J,U,ao,a8];rfl
theorem agE(b:bj):(xH b).e=b.e:=rfl
theorem Yz(l:List cW):(l.map yv).map e0.e=l.map cW.e:=by rw[List.map_map];exact List.map_congr_left fun b _=>Yy b
theorem agF(l:List bj):(l.map xH).map hd.e=l.map bj.e:=by rw[List.map_map];exact List.map_congr_left fun b _=>agE b
def tv(d:List cW):c6 e0:= .l (d.map yv)
theorem Qo(d:List cW):kd (tv d)=fW d:=by simp only[kd,tv,c6.e,fW,Yz]
theorem Zq(l:List (List cW)):(l.map tv).map kd=l.map fW:=by rw[List.map_map];exact List.map_congr_left fun b _=>Qo b
def fi.h(r:fi):nV:=⟨r.n,tv r.b,.l (r.d.map tv),.l r.k,.l (r.m.map xH)⟩
theorem ak0(r:fi):r.h.e=r.e:=by simp only[nV.e,fi.h,fi.e,Qo,pD,pS,pW,c6.e,Zq,agF];rfl
theorem ak9(x:e0)(m:Int)(hw:x.t.wf)(J:m≤1048576)(bB:0≤m)(h:0≤rQ x m):∃y,x=yv y:=by obtain⟨u,hu⟩:=GU x.t m hw J bB h;exact⟨⟨x.v,u⟩,by cases x;simp only[yv]at hu⊢;rw[hu]⟩
theorem ala(x:hd)(m:Int)(hw:x.s.wf)(J:m≤1048576)(bB:0≤m)(h:0≤lG x m):∃y,x=xH y:=by
 unfold lG at h;split at h
 ·omega
 ·obtain⟨l,au⟩:=gQ.small hw J h;exact⟨⟨x.v,l⟩,by cases x;simp only[xH]at au⊢;rw[au]⟩
theorem Wz(x:c6 e0)(m:Int)(hw:wo x)(J:m≤1048576)(bB:0≤m)(h:0≤hW x m):∃y,x=tv y:=Mt (P:=fun b:e0=>b.t.wf) Ms ak9 x m (show c6.wf (fun b:e0=>b.t.wf) x from hw) J bB h
theorem WG:∀(l:List bj) (m:Int),(∀x∈l,1≤x.s.length)→0≤jQ lG (l.map xH) m→(l.length:Int)≤m
 |[],m,_,h=>by simpa[jQ]using h
 |x::l,m,J,h=>by
  simp only[gG,jQ]at h;split at h
  ·omega
  ·rename_i U;have ao:=WG l _ (fun y aG=>J y (by simp[aG])) h;have a8:=J x (by simp);have bZ:lG (xH x) m=if m-x.s.length<0 then-1 else m-x.s.length:=rfl
   rw[bZ]at U ao;split at ao
   ·rename_i c7;rw[if_pos c7]at U;omega
   ·simp only[p8];omega
theorem agO{s:List dB}(h:jy s=true):1≤s.length:=by
 cases s with
 |nil=>simp[jy]at h
 |cons c s=>simp
theorem ald{r:nV}(hw:r.wf)(h:0≤sX r 1048576):∃u:fi,r=u.h∧(hC u.m→jG u.m):=by
 obtain⟨n,b,d,k,l⟩:=r;obtain⟨eI,du,oM,mA⟩:=hw;simp only at eI du oM mA;unfold sX at h;simp only at h;have cc:=wb b 1048576 (by omega);split at h
 ·omega
 have b4:=uE wb d (hW b 1048576) (by omega);split at h
 ·omega
 have fH:=Mu k (gE hW d (hW b 1048576)) (by omega);split at h
 ·omega
 split at h
 ·omega
 obtain⟨bO,rfl⟩:=Wz b 1048576 eI (by omega) (by omega) (by omega);obtain⟨b8,rfl⟩:=Mt wb (P:=wo) Wz d (hW (tv bO) 1048576) du (by omega) (by omega) (by omega);generalize gE hW (.l (b8.map tv)) (hW (tv bO) 1048576)=bz at*;cases k with
 |b=>simp only[oF]at*;omega
 |l bL=>
  generalize oF (.l bL) bz=bU at*;have nX:=uE Dd l bU (by omega);obtain⟨hk,rfl⟩:=Mt Dd (P:=fun x=>x.s.wf) ala l bU mA (by omega) (by omega) (by omega);refine⟨⟨n,bO,b8,bL,hk⟩,rfl,fun hm=>jG.of ?_⟩;simp only at hm⊢;simp only[gE,oG]at h;split at h
  ·omega
  ·have:=WG hk _ (fun x ab=>agO (hm.at' x ab).2) h;simp only[List.length_map]at this;omega
theorem amB(r:nV)(hw:r.wf)(m:Int)(bB:0≤m)(J:m≤1048576):bG al 26 [r.e,.int .i64 m] (.int .i64 (sX r m)):=by
 generalize bh:sX r m=R;obtain⟨n,b,d,k,l⟩:=r;obtain⟨eI,du,oM,mA⟩:=hw;simp only at eI du oM mA;unfold sX at bh;simp only[nV.e]at bh⊢;have aS:=Xn b eI m bB J;have cc:=wb b m bB;generalize hW b m=a6 at bh aS cc;have bp:_→bG al 72 [pD d,.int .i64 a6] (.int .i64 (gE hW d a6)):=fun h=>amy d (fun p n c e=>by subst e;exact du) (fun xs e x ab m bB J=>by subst e;exact Xn x (du x ab) m bB J) a6 h (by omega);have b4:=fun h=>uE wb d a6 h;generalize gE hW d a6=bz at bh bp b4;have bW:_→_→bG al 73 [pS k,.int .i64 bz] (.int .i64 (oF k bz)):=fun h cr=>amC k oM bz h cr;have fH:=fun h=>Mu k bz h;generalize oF k bz=bU at bh bW fH;have dy:_→_→bG al 74 [pW l,.int .i64 bU] (.int .i64 (gE lG l bU)):=fun h cr=>amA l (fun p n c e=>by subst e;exact mA) (fun xs e x ab m bB J=>by subst e;exact amz x (mA x ab) m bB J) bU h cr;have nX:=fun h=>uE Dd l bU h;generalize gE lG l bU=cT at bh dy nX;clear eI du oM mA;by_cases g1:a6<0
 ·rw[if_pos g1]at bh;subst bh;clear bp bW dy;refine bd fB Be CC fun aP=>?_;unfold yz;exact b0
 rw[if_neg g1]at bh;have bp:=bp (by omega);have b4:=b4 (by omega);by_cases g2:bz<0
 ·rw[if_pos g2]at bh;subst bh;clear bW dy;refine bd fB Be CC fun aP=>?_;unfold yz;exact b0
 rw[if_neg g2]at bh;have bW:=bW (by omega) (by omega);have fH:=fH (by omega);by_cases g3:bU<0
 ·rw[if_pos g3]at bh;subst bh;clear dy;refine bd fB Be CC fun aP=>?_;unfold yz;exact b0
 rw[if_neg g3]at bh;have dy:=dy (by omega) (by omega);have nX:=nX (by omega);by_cases g4:cT<0
 ·rw[if_pos g4]at bh;subst bh;refine bd fB Be CC fun aP=>?_;unfold yz;exact b0
 rw[if_neg g4]at bh;subst bh;refine bd fB Be CC fun aP=>?_;unfold yz;exact b0
theorem amK(r:fi):bG al 28 [r.e] r.e:=by obtain⟨n,b,d,k,l⟩:=r;simp only[fi.e];have aS:bG al 35 [.slice 5 .no (b.map cW.e)] (.slice 5 .no (b.map cW.e)):=Xp b;have bp:=amH d fun x _=>Xp x;have bW:=amN k fun x _=>amM x;have dy:=amJ l fun x _=>amI x;refine bd fB abv ahW fun aP=>?_;unfold O2;exact b0
theorem alP(r:fi):bG al 30 [r.e,r.e] (.bool true):=by obtain⟨n,b,d,k,l⟩:=r;simp only[fi.e];have aS:bG al 37 [.slice 5 .no (b.map cW.e),.slice 5 .no (b.map cW.e)] (.bool true):=W5 b;have bp:=alM d fun x _=>W5 x;have bW:=alS k fun x _=>alR x;have dy:=alO l fun x _=>alN x;refine bd fB abk ahM fun aP=>?_;unfold OS;exact b0
end Go.Proofs.YtahlgcidhnjlbaaGreat
namespace Go.Proofs.YtahlgcidhnjlbaaGreat
open Go Go.Pv Go.ChangeShapes Go.WideShapes Go.ChangeAt Go.RowKit Go.Deep
section
variable {H:Type} {enc:fT×Value→H} {W:World} {spare:Nat→Bool} {held:Bool} {cs:List Value} {x:DataW H×List MemPlace} {fuel:Nat}
theorem A7:al.cellsOf 3=1:=by kernel_rfl
theorem P9:al.cellsOf 9=1:=by kernel_rfl
theorem H9:al.cellsOf 24=4:=by kernel_rfl
theorem YL:al.cellsOf 22=1:=by kernel_rfl
theorem P5:al.cellsOf 111=5:=by kernel_rfl
theorem P6:al.cellsOf 38=1:=by kernel_rfl
theorem YH:al.cellsOf 39=1:=by kernel_rfl
theorem P7:al.cellsOf 158=2:=by kernel_rfl
theorem YI:al.cellsOf 40=1:=by kernel_rfl
theorem P8:al.cellsOf 146=2:=by kernel_rfl
theorem YJ:al.cellsOf 41=1:=by kernel_rfl
theorem YK:al.cellsOf 43=5:=by kernel_rfl
theorem xt(h:iN enc al W 0 spare held fuel 3 cs=some x):∃(n:Int) (v:Value),cs=[v]∧ux W (.int .i64 n) v:=by obtain⟨n,rfl,_,_⟩:=DataW.trod_int Tryz.underlying3 h;exact⟨n,_,rfl,by simp only[a7],rfl,rfl⟩
theorem Wt(h:iN enc al W 0 spare held fuel 9 cs=some x):∃(s:gQ) (v:Value),s.wf∧cs=[v]∧ux W s.e v:=by
 obtain⟨s,rfl,_,hm⟩:=DataW.trod_string Tryz.underlying9 h;by_cases ag:lim<s.size
 ·exact⟨.b s,_,⟨ag,by unfold maxLen at hm;omega⟩,rfl,by simp only[gQ.e,a7],rfl,rfl⟩
 ·refine⟨.s s.data.toList,_,trivial,rfl,?_,rfl,rfl⟩;simp only[gQ.e,a7];refine⟨by simp,?_⟩;have:s.data.toList.length=s.size:=rfl;omega
theorem TK{α:Type}:∀{cs:List α},cs.length=2→∃a b,cs=[a,b]
 |[a,b],_=>⟨a,b,rfl⟩
theorem af6{α:Type}:∀{cs:List α},cs.length=4→∃a b c d,cs=[a,b,c,d]
 |[a,b,c,d],_=>⟨a,b,c,d,rfl⟩
theorem TL{α:Type}:∀{cs:List α},cs.length=5→∃a b c d e,cs=[a,b,c,d,e]
 |[a,b,c,d,e],_=>⟨a,b,c,d,e,rfl⟩
theorem WJ:∀(fuel:Nat) (cs:List Value) (x:DataW H×List MemPlace),iN enc al W 0 spare held fuel 24 cs=some x→∃t:cq,t.wf∧cY W (qk W) [.int .i64 t.kind,.int .i64 t.num,t.name.e,t.args.e 4 cq.e] cs:=by
 intro fuel;induction fuel using Nat.strongRecOn with
 |ind fuel bS=>
  intro cs x h;obtain⟨xs,n,rfl,_,hlen,j3,aI⟩:=DataW.trod_struct Tryz.underlying24 h;rw[H9]at hlen;obtain⟨iC,bH,cj,da,rfl⟩:=af6 hlen;have E8:xs.length=4:=j3;have f0:iN enc al W 0 spare held n 3 (([iC,bH,cj,da].drop 0).take (al.cellsOf 3))=xs[0]?:=aI 0 _ rfl;have f1:iN enc al W 0 spare held n 3 (([iC,bH,cj,da].drop 1).take (al.cellsOf 3))=xs[1]?:=aI 1 _ rfl;have f2:iN enc al W 0 spare held n 9 (([iC,bH,cj,da].drop 2).take (al.cellsOf 9))=xs[2]?:=aI 2 _ rfl;have f3:iN enc al W 0 spare held n 22 (([iC,bH,cj,da].drop 3).take (al.cellsOf 22))=xs[3]?:=aI 3 _ rfl;simp only[A7,P9,YL,nm,lJ]at f0 f1 f2 f3;rw[cf (by omega)]at f0 f1 f2 f3;obtain⟨k,v0,fl,r0⟩:=xt f0;obtain⟨m,v1,ak,dI⟩:=xt f1;obtain⟨s,v2,du,aB,eZ⟩:=Wt f2;obtain⟨l,oM,v3,bf,kK⟩:=C7 cq.e cq.wf Tryz.underlying22 H9 (by omega) (fun n' cs' Dq aw cr=>by obtain⟨t,t1,t2⟩:=bS n' (by omega) cs' Dq cr;exact⟨t,t1,by rw[cq.e_eq];exact Ai t2⟩) f3
  simp only[p6,and_true]at fl ak aB bf;subst fl ak aB bf;cases l with
  |l a=>
   refine⟨.mk k m s a,?_,?_⟩
   ·simp only[cq.wf,cq.wfL_iff];exact⟨du,oM⟩
   ·simp only[cY,cq.kind,cq.num,cq.name,cq.args];exact⟨_,_,rfl,⟨r0.1,r0.2.1⟩,_,_,rfl,⟨dI.1,dI.2.1⟩,_,_,rfl,⟨eZ.1,eZ.2.1⟩,_,_,rfl,⟨kK.1,kK.2.1⟩,rfl⟩
  |b p aZ c=>
   refine⟨.big k m s p aZ c,?_,?_⟩
   ·simp only[cq.wf];exact⟨du,oM⟩
   ·simp only[cY,cq.kind,cq.num,cq.name,cq.args];exact⟨_,_,rfl,⟨r0.1,r0.2.1⟩,_,_,rfl,⟨dI.1,dI.2.1⟩,_,_,rfl,⟨eZ.1,eZ.2.1⟩,_,_,rfl,⟨kK.1,kK.2.1⟩,rfl⟩
theorem Yr(h:iN enc al W 0 spare held fuel 111 cs=some x):∃b:e0,b.t.wf∧reads W b.e cs:=by obtain⟨xs,n,rfl,_,hlen,j3,aI⟩:=DataW.trod_struct Tryz.underlying111 h;rw[P5]at hlen;obtain⟨iC,bH,cj,da,ie,rfl⟩:=TL hlen;have E8:xs.length=2:=j3;have f0:iN enc al W 0 spare held n 3 (([iC,bH,cj,da,ie].drop 0).take (al.cellsOf 3))=xs[0]?:=aI 0 _ rfl;have f1:iN enc al W 0 spare held n 24 (([iC,bH,cj,da,ie].drop 1).take (al.cellsOf 24))=xs[1]?:=aI 1 _ rfl;simp only[A7,H9,nm,lJ]at f0 f1;rw[cf (by omega)]at f0 f1;obtain⟨k,v0,fl,r0⟩:=xt f0;obtain⟨t,eI,dI⟩:=WJ _ _ _ f1;simp only[p6,and_true]at fl;subst fl;refine⟨⟨k,t⟩,eI,Ai ?_⟩;rw[cY];exact⟨_,_,rfl,⟨r0.1,r0.2.1⟩,dI⟩
theorem afX(h:iN enc al W 0 spare held fuel 158 cs=some x):∃b:bJ,True∧reads W b.e cs:=by obtain⟨xs,n,rfl,_,hlen,j3,aI⟩:=DataW.trod_struct Tryz.underlying158 h;rw[P7]at hlen;obtain⟨iC,bH,rfl⟩:=TK hlen;have E8:xs.length=2:=j3;have f0:iN enc al W 0 spare held n 3 (([iC,bH].drop 0).take (al.cellsOf 3))=xs[0]?:=aI 0 _ rfl;have f1:iN enc al W 0 spare held n 3 (([iC,bH].drop 1).take (al.cellsOf 3))=xs[1]?:=aI 1 _ rfl;simp only[A7,nm,lJ]at f0 f1;rw[cf (by omega)]at f0 f1;obtain⟨k,v0,fl,r0⟩:=xt f0;obtain⟨m,v1,ak,dI⟩:=xt f1;simp only[p6,and_true]at fl ak;subst fl ak;refine⟨⟨k,m⟩,trivial,Ai ?_⟩;simp only[cY];exact⟨_,_,rfl,⟨r0.1,r0.2.1⟩,_,_,rfl,⟨dI.1,dI.2.1⟩,rfl⟩
theorem agi(h:iN enc al W 0 spare held fuel 146 cs=some x):∃b:hd,b.s.wf∧reads W b.e cs:=by obtain⟨xs,n,rfl,_,hlen,j3,aI⟩:=DataW.trod_struct Tryz.underlying146 h;rw[P8]at hlen;obtain⟨iC,bH,rfl⟩:=TK hlen;have E8:xs.length=2:=j3;have f0:iN enc al W 0 spare held n 3 (([iC,bH].drop 0).take (al.cellsOf 3))=xs[0]?:=aI 0 _ rfl;have f1:iN enc al W 0 spare held n 9 (([iC,bH].drop 1).take (al.cellsOf 9))=xs[1]?:=aI 1 _ rfl;simp only[A7,P9,nm,lJ]at f0 f1;rw[cf (by omega)]at f0 f1;obtain⟨k,v0,fl,r0⟩:=xt f0;obtain⟨s,v1,eI,ak,dI⟩:=Wt f1;simp only[p6,and_true]at fl ak;subst fl ak;refine⟨⟨k,s⟩,eI,Ai ?_⟩;simp only[cY];exact⟨_,_,rfl,⟨r0.1,r0.2.1⟩,_,_,rfl,⟨dI.1,dI.2.1⟩,rfl⟩
theorem NM(h:iN enc al W 0 spare held fuel 38 cs=some x):∃d:c6 e0,wo d∧∃v,cs=[v]∧ux W (kd d) v:=C7 e0.e (fun b=>b.t.wf) Tryz.underlying38 P5 (by omega) (fun _ _ _ _ cr=>Yr cr) h
theorem Ys(h:iN enc al W 0 spare held fuel 39 cs=some x):∃d:c6 (c6 e0),d.wf wo∧∃v,cs=[v]∧ux W (pD d) v:=C7 kd wo Tryz.underlying39 P6 (by omega) (fun _ _ _ _ cr=>by obtain⟨d,w,v,rfl,r⟩:=NM cr;exact⟨d,w,r.reads⟩) h
theorem af0(h:iN enc al W 0 spare held fuel 40 cs=some x):∃d:c6 bJ,d.wf (fun _=>True)∧∃v,cs=[v]∧ux W (pS d) v:=C7 bJ.e (fun _=>True) Tryz.underlying40 P7 (by omega) (fun _ _ _ _ cr=>afX cr) h
theorem agj(h:iN enc al W 0 spare held fuel 41 cs=some x):∃d:c6 hd,d.wf (fun b=>b.s.wf)∧∃v,cs=[v]∧ux W (pW d) v:=C7 hd.e (fun b=>b.s.wf) Tryz.underlying41 P8 (by omega) (fun _ _ _ _ cr=>agi cr) h
theorem akZ(h:iN enc al W 0 spare held fuel 43 cs=some x):∃r:nV,r.wf∧reads W r.e cs:=by obtain⟨xs,n,rfl,_,hlen,j3,aI⟩:=DataW.trod_struct Tryz.underlying43 h;rw[YK]at hlen;obtain⟨iC,bH,cj,da,ie,rfl⟩:=TL hlen;have E8:xs.length=5:=j3;have f0:iN enc al W 0 spare held n 3 (([iC,bH,cj,da,ie].drop 0).take (al.cellsOf 3))=xs[0]?:=aI 0 _ rfl;have f1:iN enc al W 0 spare held n 38 (([iC,bH,cj,da,ie].drop 1).take (al.cellsOf 38))=xs[1]?:=aI 1 _ rfl;have f2:iN enc al W 0 spare held n 39 (([iC,bH,cj,da,ie].drop 2).take (al.cellsOf 39))=xs[2]?:=aI 2 _ rfl;have f3:iN enc al W 0 spare held n 40 (([iC,bH,cj,da,ie].drop 3).take (al.cellsOf 40))=xs[3]?:=aI 3 _ rfl;have f4:iN enc al W 0 spare held n 41 (([iC,bH,cj,da,ie].drop 4).take (al.cellsOf 41))=xs[4]?:=aI 4 _ rfl;simp only[A7,P6,YH,YI,YJ,nm,lJ]at f0 f1 f2 f3 f4;rw[cf (by omega)]at f0 f1 f2 f3 f4;obtain⟨k,v0,fl,r0⟩:=xt f0;obtain⟨d1,eI,v1,ak,dI⟩:=NM f1;obtain⟨d2,du,v2,aB,eZ⟩:=Ys f2;obtain⟨d3,oM,v3,bf,kK⟩:=af0 f3;obtain⟨d4,mA,v4,dd,U1⟩:=agj f4;simp only[p6,and_true]at fl ak aB bf dd;subst fl ak aB bf dd;refine⟨⟨k,d1,d2,d3,d4⟩,⟨eI,du,fun p n c e=>by simp only at e;subst e;exact oM,mA⟩,Ai ?_⟩;simp only[cY];exact⟨_,_,rfl,⟨r0.1,r0.2.1⟩,_,_,rfl,⟨dI.1,dI.2.1⟩,_,_,rfl,⟨eZ.1,eZ.2.1⟩,_,_,rfl,⟨kK.1,kK.2.1⟩,_,_,rfl,⟨U1.1,U1.2.1⟩,rfl⟩
end
end Go.Proofs.YtahlgcidhnjlbaaGreat
namespace Go.Proofs.YtahlgcidhnjlbaaGreat
open Go Go.Pv Go.ChangeShapes Go.WideShapes Go.ChangeAt Go.RowKit
theorem akj:ownKnob al.godebug=none:=by kernel_rfl
theorem L1:laidOutB al=true:=by kernel_rfl
theorem YC{f:FuncId}{fn:Func}(qq:al.funcs[f]? =some fn)(Il:∀args w,(callFunc f args).run al w= .ok (.enter f args) w){w:World}{ν:bc}{args:List ah}{ba:Array Value}(h:bG al f args (.bool true))(aN:∀k j b,¬ν.tr k j b)(bg:∀b o,ν.A b o→b<w.heap.size)(ae:∀k,ν.bx k=none)(av:∀k,ν.ow k=none)(aL:cK w ν args ba.toList):
  Calls al f ba w fun e w'=>e= .returned (.bool true)∧Below w.heap.size w w':=by
 have a1:Pv.Good (fe ν ⟨[],[]⟩) w ν [] []:=⟨bg,fun k cs ad=>by simp[Pv.look]at ad,fun k bL bl J=>by simp[Pv.look]at J,fun g o ad=>by simp[Pv.look]at ad,fun g e3 n n' v v' bl J=>by simp[Pv.look]at J,fun g k n v bl J=>by simp[Pv.look]at J,fun k=>.inl (ae k),fun _ _ k j=>aN k j _⟩;rcases h w ν ba a1 (fun k=>⟨fun _=>ae k,fun _=>av k,aN k⟩) aL with⟨_,ay⟩|⟨v,w',ay,_⟩
 ·refine ay.mono ?_;rintro e w' ⟨v,r,ai,bk,rfl,⟨rfl,rfl⟩,lu,_,_,_,lQ⟩;simp only[a7]at lu;subst lu;refine⟨rfl,lQ.os,lQ.tape,lQ.output,lQ.size,fun k ad=>lQ.block k ad ?_⟩;simp[fe,Pv.look]
 ·rw[Il]at ay;cases ay
theorem Zz{W:World}{b o:Nat}(h:(qk W).A b o):b<W.heap.size:=by
 obtain⟨u,hu⟩:=h;rcases Nat.lt_or_ge b W.heap.size with h|h
 ·exact h
 ·simp[World.cell?,Array.getElem?_eq_none h]at hu
theorem VL{W:World}{cg:List ah}{us:Array Value}(h:reads W (.agg cg) us.toList):a7 W (qk W) (.agg cg) (.agg us):=by
 obtain⟨v,J,U,_⟩:=h;have ao:=U;simp only[a7]at ao;obtain⟨ws,rfl,_⟩:=ao;have:ws=us:=by
  have:ws.toList=us.toList:=by simpa[po]using J
  exact Array.toList_inj.1 this
 rw[←this];exact U
theorem WI{H:Type}{enc:fT×Value→H}{W:World}{spare:Nat→Bool}{held:Bool}{us:Array Value}{x:DataW H×List MemPlace}{fuel:Nat}(h:iN enc al W 0 spare held fuel 24 us.toList=some x):∃t:cq,t.wf∧a7 W (qk W) t.e (.agg us):=by obtain⟨t,J,U⟩:=WJ fuel _ x h;exact⟨t,J,by rw[cq.e_eq];exact VL (Ai U)⟩
theorem akY{H:Type}{enc:fT×Value→H}{W:World}{spare:Nat→Bool}{held:Bool}{us:Array Value}{x:DataW H×List MemPlace}{fuel:Nat}(h:iN enc al W 0 spare held fuel 43 us.toList=some x):∃r:nV,r.wf∧a7 W (qk W) r.e (.agg us):=by obtain⟨r,aL,aeR⟩:=akZ h;exact⟨r,aL,VL aeR⟩
end Go.Proofs.YtahlgcidhnjlbaaGreat
