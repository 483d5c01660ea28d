/- From a contract to the row. -/
import Derived.Test.YtahlgcidhnjlbaaGreatProg
import Derived.ProofKit
import Derived.Carry
import Derived.WalkKit
import Derived.Test.YtahlgcidhnjlbaaGreatY4
set_option linter.all false
set_option maxHeartbeats 4000000
open Bool renaming and_eq_true→cA,eq_iff_iff→pZ,false_eq_true→gP,or_eq_true→mB
open Go renaming TypeId→fT
open Go.DataW renaming trod→iM
open Go.IntWalk renaming i64_in→oC
open Go.Op renaming bytesLess→hk
open Go.Proofs.Tryz renaming prog→al
open Go.Value renaming cells→pc
open List renaming all_eq_true→jb,cons_append→bU,drop→nh,drop_eq_getElem_cons→k7,getElem?_eq_getElem→cf,getElem?_eq_none→p1,getElem?_eq_some_iff→fL,getElem_of_mem→ni,length_cons→p2,length_drop→rS,map_cons→gE,map_nil→pe,mem_append→kx,mem_cons→fU,mem_filter→nj,mem_map→h8,mem_of_getElem?→eG,nil_append→bX,pairwise_cons→mC,pairwise_iff_getElem→pg,take→lG,take_length→nL,take_of_length_le→hl
open List.Pairwise renaming filter→Xd
open List.cons renaming injEq→p0
open Nat renaming le_refl→eR,le_trans→j4
open Option renaming getD_none→kQ,getD_some→ky,isSome_none→j6,isSome_some→p3
open Option.some renaming inj→fB,injEq→dG
open _root_ renaming False→eQ,Option→aY,UInt8→dz,beq_iff_eq→dL,decide_eq_false→jH,decide_eq_false_iff_not→hE,decide_eq_true→jk,decide_eq_true_eq→fH
namespace Go.Proofs.YtahlgcidhnjlbaaGreat
open Go Go.Pv
def O6:C:=(aa [cz 1 0,be 2 false] (aa [aV 3 4 1,dp 4 123 [.t 3,(gd 5000)],aU 5 .leq 4 5000,I 6 5,aq 6 true (aV 7 4 1),aq 6 true (cE 8 124 7),dx 9 6 8,I 2 9] .ret))
@[simp] def ajA:List bs:=[.tmp 2]
def yu:C:=(aa [cz 2 0,eE 4 1] (.seq (aa [aF 7 0 1 2,av 8 1 7,aU 9 .eql 8 1] (aS 9 (aa [I 10 1,aF 11 1 1 2,av 12 1 11,ca 13 126 10 12,I 4 13] .ret) .skip)) (.seq (aa [aF 14 3 1 2,av 15 1 14,cl 16 15,bW 17 0] (ft 18 17 16 (.seq (.block 1 (aa [cu 19 4 15 17,aV 20 4 19,dj 6 dP,bL 4 6 20] (.region [aV 21 4 6,I 22 1,ca 23 58 21 22,I 1 23]))) (.region [aU 24 .add 17 1,I 17 24])))) (aa [I 25 1,I 4 25] .ret))))
@[simp] def zZ:List bs:=[.tmp 4]
def Pg:C:=(aa [cz 3 1,dj 4 dP,be 5 false] (aa [I 7 0,aV 8 4 3,ca 9 127 7 8,dj 6 dP,bL 4 6 9] (.seq (.drawn true 13 [aV 10 4 6,aV 11 4 6,cE 12 128 11,bL 4 4 10,I 5 12]) .ret)))
@[simp] def Vg:List bs:=[.cell 4 true 4,.tmp 5]
def O7:C:=(aa [be 6 false] (aa [I 7 0,I 8 1,bm 9 .geq 7 8,I 10 9,b3 10 true 11 0,b3 10 true 12 2,aq 10 true (bm 13 .leq 11 12),dx 14 10 13,I 6 14] .ret))
@[simp] def Vb:List bs:=[.tmp 6]
def HQ:C:=(aa [be 2 false] (.seq (aa [I 9 0,cE 10 145 9,cw 11 10] (aS 11 (aa [be 2 false] .ret) .skip)) (.seq (aa [I 12 0,cl 13 12,bW 14 0] (ft 15 14 13 (.seq (.block 1 (aa [cu 16 5 12 14,aV 17 5 16,dj 4 jy,bL 5 4 17] (.seq (aa [hC 18 1 4 4,aF 19 0 1 18,av 20 1 19,aU 21 .eql 20 1,I 22 21,aq 22 true (hC 23 1 4 4),aq 22 true (aF 24 1 1 23),aq 22 true (av 25 1 24),aq 22 true (aF 26 0 1 4),aq 22 true (av 27 1 26),aq 22 true (bm 28 .geq 25 27),dx 29 22 28] (aS 29 (aa [be 2 false] .ret) .skip)) (aa [hC 30 1 4 4,aV 31 4 30,dp 32 58 [.t 31,(.c (.slice 1 .nil []))],cl 33 32,bW 34 0] (.block 2 (.loop (aa [bm 35 .lss 34 33] (.seq (aS 35 .skip (.exit 2)) (.seq (.block 3 (aa [cu 36 1 32 34,av 37 1 36,I 6 37] (aa [I 39 0,I 40 6,ca 41 146 39 40,I 38 41,cD 42 0 38,cD 43 1 38,dj 7 dP,bL 4 7 42,I 8 43] (aa [I 44 8] (aS 44 (aa [be 2 false] .ret) .skip))))) (.region [aU 45 .add 34 1,I 34 45])))))))))) (.region [aU 46 .add 14 1,I 14 46])))) (aa [be 2 true] .ret))))
@[simp] def Li:List bs:=[.tmp 2]
def O2:C:=(aa [be 2 false] (.seq (aa [bW 3 0] (.block 0 (.loop (.seq (aa [I 5 3,I 6 0,b5 7 (.slen (.t 6)),bm 8 .lss 5 7] (aS 8 .skip (.exit 0))) (.seq (.block 1 (aa [I 11 0,I 12 3,b5 13 (.sidx (.t 11) (.t 12)),b5 14 (.bin .geq false (.t 13) (.c (.int .u8 97))),I 15 14,b3 15 true 16 0,b3 15 true 17 3,aq 15 true (b5 18 (.sidx (.t 16) (.t 17))),aq 15 true (b5 19 (.bin .leq false (.t 18) (.c (.int .u8 122)))),dx 20 15 19,I 4 20] (aa [I 21 4,cw 22 21,I 23 22,b3 23 true 24 3,aq 23 true (aU 25 .eql 24 0),b3 23 true 26 25,b3 26 false 27 0,b3 26 false 28 3,aq 26 false (b5 29 (.sidx (.t 27) (.t 28))),aq 26 false (b5 30 (.bin .neq false (.t 29) (.c (.int .u8 45)))),b3 26 false 31 30,b3 31 true 32 0,b3 31 true 33 3,aq 31 true (b5 34 (.sidx (.t 32) (.t 33))),aq 31 true (b5 35 (.conv .i64 (.t 34))),aq 31 true (dp 36 75 [.t 35,(gd 48),(gd 57)]),aq 31 true (cw 37 36),aq 26 false (dx 38 31 37),aq 23 true (c6 39 26 38),dx 40 23 39] (aS 40 (aa [be 2 false] .ret) .skip)))) (.region [I 9 3,aU 10 .add 9 1,I 3 10])))))) (aa [I 41 0,b5 42 (.slen (.t 41)),dp 43 75 [.t 42,(gd 1),(gd 12)],I 2 43] .ret)))
@[simp] def zW:List bs:=[.tmp 2]
def O8:C:=(aa [cz 2 0,bW 4 0] (aa [bW 5 1] (.seq (aa [aF 8 3 1 2,av 9 1 8,cl 10 9,bW 11 0] (ft 12 11 10 (.seq (.block 1 (aa [cu 13 4 9 11,aV 14 4 13,dj 7 dP,bL 4 7 14] (.seq (aa [I 15 5,I 16 1,bm 17 .gtr 15 16] (aS 17 (aa [I 18 5,I 4 18] .ret) .skip)) (.region [I 19 5,aV 20 4 7,I 21 1,I 22 5,bm 23 .sub 21 22,ca 24 123 20 23,bm 25 .add 19 24,I 5 25])))) (.region [aU 26 .add 11 1,I 11 26])))) (aa [I 27 5,I 4 27] .ret))))
@[simp] def Lj:List bs:=[.tmp 4]
def lM:C:=(aa [cz 1 0,be 2 false] (.seq (aa [aF 3 0 1 1,av 4 1 3,aU 5 .neq 4 1,I 6 5,aq 6 true (aF 7 0 1 1),aq 6 true (av 8 1 7),aq 6 true (aU 9 .neq 8 3),dx 10 6 9,I 11 10,aq 11 true (aF 12 1 1 1),aq 11 true (av 13 1 12),aq 11 true (aU 14 .neq 13 0),dx 15 11 14,I 16 15,aq 16 false (aF 17 0 1 1),aq 16 false (av 18 1 17),aq 16 false (aU 19 .neq 18 2),b3 16 false 20 19,aq 20 true (aF 21 2 1 1),aq 20 true (av 22 1 21),wc 20 true 23 (.bin .neq false (.t 22) (.c (.str []))),aq 16 false (dx 24 20 23),c6 25 16 24,I 26 25,aq 26 false (aF 27 0 1 1),aq 26 false (av 28 1 27),aq 26 false (aU 29 .neq 28 4),b3 26 false 30 29,aq 30 true (aF 31 3 1 1),aq 30 true (av 32 1 31),aq 30 true (cl 33 32),aq 30 true (aU 34 .gtr 33 0),aq 26 false (dx 35 30 34),c6 36 26 35] (aS 36 (aa [be 2 false] .ret) .skip)) (.seq (aa [aF 37 0 1 1,av 38 1 37] (.block 0 (aa [aU 40 .eql 38 0,I 39 40] (aS 39 (aa [be 2 true] .ret) (aa [aU 42 .eql 38 1,I 41 42] (aS 41 (aa [aF 43 1 1 1,av 44 1 43,dp 45 75 [.t 44,(gd 0),(gd 100000)],I 2 45] .ret) (aa [aU 47 .eql 38 2,I 46 47] (aS 46 (aa [aF 48 2 1 1,av 49 1 48,cE 50 119 49,I 2 50] .ret) (aa [aU 52 .eql 38 3,I 51 52] (aS 51 (aa [aF 53 1 1 1,av 54 1 53,dp 55 75 [.t 54,(gd (-1000000000)),(gd 1000000000)],I 2 55] .ret) (aa [aU 57 .eql 38 4,I 56 57] (aS 56 (aa [aF 58 3 1 1,av 59 1 58,cl 60 59,aU 61 .eql 60 2,I 62 61,aq 62 true (aF 63 3 1 1),aq 62 true (av 64 1 63),aq 62 true (jF 65 4 64 0),aq 62 true (aV 66 4 65),aq 62 true (cE 67 124 66),dx 68 62 67,I 69 68,aq 69 true (aF 70 3 1 1),aq 69 true (av 71 1 70),aq 69 true (jF 72 4 71 1),aq 69 true (aV 73 4 72),aq 69 true (cE 74 124 73),dx 75 69 74,I 2 75] .ret) .skip)))))))))))) (aa [be 2 false] .ret))))
@[simp] def lA:List bs:=[.tmp 2]
def Pa:C:=(aa [eE 4 1] (aa [I 7 0,cl 8 7,I 5 8] (.seq (.block 0 (.loop (.seq (aa [I 9 5,aU 10 .gtr 9 0,I 11 10,b3 11 true 12 0,b3 11 true 13 5,aq 11 true (aU 14 .sub 13 1),aq 11 true (cu 15 1 12 14),aq 11 true (av 16 1 15),b3 11 true 17 1,aq 11 true (bm 18 .geq 16 17),dx 19 11 18] (aS 19 .skip (.exit 0))) (.block 1 (.region [I 20 5,aU 21 .sub 20 1,I 5 21]))))) (.seq (aa [I 22 5,I 23 0,cl 24 23,bm 25 .lss 22 24,I 26 25,b3 26 true 27 0,b3 26 true 28 5,aq 26 true (cu 29 1 27 28),aq 26 true (av 30 1 29),b3 26 true 31 1,aq 26 true (bm 32 .eql 30 31),dx 33 26 32] (aS 33 (aa [I 34 0,I 4 34] .ret) .skip)) (aa [ek 35 1 3 [],I 36 0,I 37 5,b5 38 (.lsl 1 (.t 36) none (some (.t 37))),gO 39 1 3 35 38,I 6 39] (aa [I 40 6,I 41 1,ek 42 1 3 [.t 41],gO 43 1 3 40 42,I 6 43] (aa [I 44 6,I 45 0,I 46 5,b5 47 (.lsl 1 (.t 45) (some (.t 46)) none),gO 48 1 3 44 47,I 4 48] .ret)))))))
@[simp] def xP:List bs:=[.tmp 4]
def DS:C:=(aa [cz 3 1,dj 4 dP] (.seq (aa [aF 7 0 1 3,av 8 1 7,aU 9 .eql 8 1] (aS 9 (aa [I 11 0,aF 12 1 1 3,av 13 1 12,ca 14 146 11 13,I 10 14,cD 15 0 10,cD 16 1 10,dj 5 dP,bL 4 5 15,I 6 16] (aa [I 17 6] (aS 17 (aa [aV 18 4 5,bL 4 4 18] .ret) .skip))) .skip)) (.seq (aa [aF 19 0 1 3,av 20 1 19,aU 21 .eql 20 4] (aS 21 (.seq (.drawn true 36 [I 22 0,aF 23 3 1 3,av 24 1 23,jF 25 4 24 0,aV 26 4 25,ca 27 127 22 26,I 28 0,aF 29 3 1 3,av 30 1 29,jF 31 4 30 1,aV 32 4 31,ca 33 127 28 32,ca 34 189 27 33,bL 4 4 34]) .ret) .skip)) (aa [aV 35 4 3,bL 4 4 35] .ret))))
@[simp] def F5:List bs:=[.cell 4 true 4]
def O9:C:=(aa [cz 1 0,be 2 false] (aa [aV 3 4 1,dp 4 123 [.t 3,(gd 5000)],aU 5 .leq 4 5000,I 2 5] .ret))
@[simp] def Vc:List bs:=[.tmp 2]
def Pl:C:=(aa [be 2 false] (.seq (aa [I 5 0,cl 6 5,bW 7 0] (ft 8 7 6 (.seq (.block 1 (aa [I 9 7,cu 10 5 5 7,aV 11 5 10,dj 4 jy,I 3 9,bL 5 4 11] (.seq (.drawn true 41 [I 12 3,aU 13 .gtr 12 0,I 14 13,b3 14 true 15 0,b3 14 true 16 3,aq 14 true (aU 17 .sub 16 1),aq 14 true (cu 18 5 15 17),aq 14 true (aF 19 0 1 18),aq 14 true (av 20 1 19),aq 14 true (aF 21 0 1 4),aq 14 true (av 22 1 21),aq 14 true (bm 23 .geq 20 22),dx 24 14 23,I 25 24,aq 25 false (aF 26 0 1 4),aq 25 false (av 27 1 26),aq 25 false (dp 28 75 [.t 27,(gd 0),(gd 100000)]),aq 25 false (cw 29 28),c6 30 25 29,I 31 30,aq 31 false (hC 32 1 4 4),aq 31 false (aV 33 4 32),aq 31 false (cE 34 56 33),aq 31 false (cw 35 34),c6 36 31 35]) (aS 36 (aa [be 2 false] .ret) .skip)))) (.region [aU 37 .add 7 1,I 7 37])))) (aa [I 38 0,cl 39 38,aU 40 .leq 39 400,I 2 40] .ret)))
@[simp] def Ln:List bs:=[.tmp 2]
def Pj:C:=(aa [dj 4 dP,be 5 false] (.seq (aa [I 8 0,cl 9 8,bW 10 0] (ft 11 10 9 (.seq (.block 1 (aa [cu 12 5 8 10,aV 13 5 12,dj 7 jy,bL 5 7 13] (aa [aF 14 0 1 7,av 15 1 14,I 16 1,bm 17 .eql 15 16] (aS 17 (aa [hC 18 1 4 7,aV 19 4 18,bL 4 4 19,be 5 true] .ret) .skip)))) (.region [aU 20 .add 10 1,I 10 20])))) (aa [iq 21 dP [],bL 4 4 21,be 5 false] .ret)))
@[simp] def Ll:List bs:=[.cell 4 true 4,.tmp 5]
def Pn:C:=(aa [eE 4 5,be 5 false] (aa [ek 10 4 30 [],I 6 10] (aa [ek 11 4 30 [],I 7 11] (.seq (aa [I 12 1,cl 13 12,bW 14 0] (ft 15 14 13 (.seq (.block 1 (aa [cu 16 5 12 14,aV 17 5 16,dj 9 jy,bL 5 9 17] (aa [I 18 6,aF 19 0 1 9,av 20 1 19,cE 21 114 20,ek 22 4 30 [.t 21],gO 23 4 30 18 22,I 6 23] (.region [I 24 7,hC 25 1 4 9,aV 26 4 25,ek 27 4 30 [.t 26],gO 28 4 30 24 27,I 7 28])))) (.region [aU 29 .add 14 1,I 14 29])))) (aa [I 30 0,I 31 6,I 32 7,dp 33 202 [.t 30,.t 31,.t 32],cD 34 0 33,cD 35 1 33,I 4 34,I 5 35] .ret)))))
@[simp] def Vh:List bs:=[.tmp 4,.tmp 5]
def rZ:C:=(aa [cz 4 1,cz 5 2,eE 6 5,be 7 false] (aa [I 12 0,aV 13 4 4,ca 14 201 12 13,bL 4 4 14] (aa [I 15 0,aV 16 4 5,ca 17 201 15 16,bL 4 5 17] (.seq (aa [aF 18 0 1 4,av 19 1 18,aU 20 .eql 19 1,I 21 20,aq 21 true (aF 22 0 1 5),aq 21 true (av 23 1 22),aq 21 true (aU 24 .eql 23 1),dx 25 21 24,I 26 25,aq 26 true (aF 27 1 1 4),aq 26 true (av 28 1 27),aq 26 true (aF 29 1 1 5),aq 26 true (av 30 1 29),aq 26 true (bm 31 .lss 28 30),dx 32 26 31] (aS 32 (aa [I 33 0,aF 34 1 1 5,av 35 1 34,aV 36 4 4,dp 37 212 [.t 33,.t 35,.t 36],cD 38 0 37,cD 39 1 37,I 6 38,I 7 39] .ret) .skip)) (.seq (aa [aF 40 0 1 4,av 41 1 40,aU 42 .eql 41 1,I 43 42,aq 43 true (aF 44 0 1 5),aq 43 true (av 45 1 44),aq 43 true (aU 46 .eql 45 1),dx 47 43 46,I 48 47,aq 48 true (aF 49 1 1 4),aq 48 true (av 50 1 49),aq 48 true (aF 51 1 1 5),aq 48 true (av 52 1 51),aq 48 true (bm 53 .eql 50 52),dx 54 48 53] (aS 54 (aa [I 55 0,I 6 55,be 7 true] .ret) .skip)) (.seq (aa [aF 56 0 1 4,av 57 1 56,aU 58 .eql 57 1] (aS 58 (aa [I 59 0,aF 60 1 1 4,av 61 1 60,aV 62 4 5,dp 63 212 [.t 59,.t 61,.t 62],cD 64 0 63,cD 65 1 63,I 6 64,I 7 65] .ret) .skip)) (.seq (aa [aF 66 0 1 5,av 67 1 66,aU 68 .eql 67 1] (aS 68 (aa [I 69 0,aF 70 1 1 5,av 71 1 70,aV 72 4 4,dp 73 212 [.t 69,.t 71,.t 72],cD 74 0 73,cD 75 1 73,I 6 74,I 7 75] .ret) .skip)) (.seq (aa [aF 76 0 1 4,av 77 1 76,aF 78 0 1 5,av 79 1 78,bm 80 .neq 77 79,I 81 80,aq 81 false (aF 82 1 1 4),aq 81 false (av 83 1 82),aq 81 false (aF 84 1 1 5),aq 81 false (av 85 1 84),aq 81 false (bm 86 .neq 83 85),c6 87 81 86,I 88 87,aq 88 false (aF 89 2 1 4),aq 88 false (av 90 1 89),aq 88 false (aF 91 2 1 5),aq 88 false (av 92 1 91),aq 88 false (bm 93 .neq 90 92),c6 94 88 93] (aS 94 (aa [eE 6 5,be 7 false] .ret) .skip)) (.seq (aa [aF 95 3 1 4,av 96 1 95,cl 97 96,bW 98 0] (ft 99 98 97 (.seq (.block 1 (aa [I 100 98,cu 101 4 96 98,aV 102 4 101,dj 9 dP,I 8 100,bL 4 9 102] (.seq (.drawn true 119 [I 104 0,aV 105 4 9,aF 106 3 1 5,av 107 1 106,I 108 8,cu 109 4 107 108,aV 110 4 109,dp 111 180 [.t 104,.t 105,.t 110],I 103 111,cD 112 0 103,cD 113 1 103,I 10 112,I 11 113]) (.seq (aa [I 114 11,cw 115 114] (aS 115 (aa [eE 6 5,be 7 false] .ret) .skip)) (.region [I 116 10,I 0 116]))))) (.region [aU 117 .add 98 1,I 98 117])))) (aa [I 118 0,I 6 118,be 7 true] .ret))))))))))
@[simp] def rD:List bs:=[.tmp 6,.tmp 7]
def DT:C:=(aa [cz 3 1,dj 4 dP] (.seq (aa [aF 7 0 1 3,av 8 1 7,aU 9 .eql 8 1] (aS 9 (aa [I 11 0,aF 12 1 1 3,av 13 1 12,ca 14 146 11 13,I 10 14,cD 15 0 10,cD 16 1 10,dj 5 dP,bL 4 5 15,I 6 16] (aa [I 17 6] (aS 17 (aa [aV 18 4 5,bL 4 4 18] .ret) .skip))) .skip)) (aa [aV 19 4 3,bL 4 4 19] .ret)))
@[simp] def F6:List bs:=[.cell 4 true 4]
def Pm:C:=(aa [eE 6 5,be 7 false] (.seq (aa [I 12 1,cl 13 12,bW 14 0] (ft 15 14 13 (.seq (.block 1 (aa [I 16 14,cu 17 4 12 14,aV 18 4 17,dj 9 dP,I 8 16,bL 4 9 18] (.seq (.drawn true 34 [I 20 0,aV 21 4 9,I 22 2,I 23 8,cu 24 4 22 23,aV 25 4 24,dp 26 180 [.t 20,.t 21,.t 25],I 19 26,cD 27 0 19,cD 28 1 19,I 10 27,I 11 28]) (.seq (aa [I 29 11,cw 30 29] (aS 30 (aa [eE 6 5,be 7 false] .ret) .skip)) (.region [I 31 10,I 0 31]))))) (.region [aU 32 .add 14 1,I 14 32])))) (aa [I 33 0,I 6 33,be 7 true] .ret)))
@[simp] def Lo:List bs:=[.tmp 6,.tmp 7]
def AW:C:=(aa [cz 5 2,eE 6 5,be 7 false] (aa [I 15 0,aV 16 4 5,ca 17 60 15 16,I 14 17,cD 18 0 14,cD 19 1 14,dj 8 dP,bL 4 8 18,I 9 19] (.seq (aa [I 20 9,cw 21 20,I 22 21,b3 22 false 23 1,aq 22 false (aV 24 4 8),aq 22 false (ca 25 233 23 24),c6 26 22 25,I 27 26,b3 27 false 28 0,aq 27 false (cl 29 28),aq 27 false (aU 30 .geq 29 400),c6 31 27 30] (aS 31 (aa [eE 6 5,be 7 false] .ret) .skip)) (aa [ek 32 5 113 [],I 10 32] (.seq (aa [I 33 0,cl 34 33,bW 35 0] (ft 36 35 34 (.seq (.block 1 (aa [cu 37 5 33 35,aV 38 5 37,dj 12 jy,bL 5 12 38] (aa [hC 39 1 4 12,aV 40 4 39,I 41 1,aV 42 4 8,dp 43 234 [.t 40,.t 41,.t 42],dj 13 dP,bL 4 13 43] (.seq (aa [aV 44 4 13,cE 45 128 44,cw 46 45] (aS 46 (aa [eE 6 5,be 7 false] .ret) .skip)) (.region [I 47 10,aF 48 0 1 12,av 49 1 48,aV 50 4 13,iq 51 jy [(0,1,(.t 49)),(1,4,(.t 50))],ek 52 5 113 [.t 51],gO 53 5 113 47 52,I 10 53]))))) (.region [aU 54 .add 35 1,I 35 54])))) (aa [I 55 10,I 56 1,aV 57 4 8,iq 58 jy [(0,1,(.t 56)),(1,4,(.t 57))],ca 59 235 55 58,I 6 59,be 7 true] .ret))))))
@[simp] def z1:List bs:=[.tmp 6,.tmp 7]
def Pb:C:=(aa [cz 3 1,be 4 false] (.seq (aa [aF 7 3 1 3,av 8 1 7,cl 9 8,bW 10 0] (ft 11 10 9 (.seq (.block 1 (aa [cu 12 4 8 10,aV 13 4 12,dj 6 dP,bL 4 6 13] (aa [I 14 0,aV 15 4 6,ca 16 233 14 15] (aS 16 (aa [be 4 true] .ret) .skip)))) (.region [aU 17 .add 10 1,I 10 17])))) (aa [aF 18 0 1 3,av 19 1 18,aU 20 .eql 19 1,I 21 20,aq 21 true (aF 22 1 1 3),aq 21 true (av 23 1 22),b3 21 true 24 0,aq 21 true (bm 25 .eql 23 24),dx 26 21 25,I 4 26] .ret)))
@[simp] def Lk:List bs:=[.tmp 4]
def DR:C:=(aa [cz 3 0,cz 5 2,dj 6 dP] (.seq (aa [aF 7 0 1 3,av 8 1 7,aU 9 .eql 8 1,I 10 9,aq 10 true (aF 11 1 1 3),aq 10 true (av 12 1 11),b3 10 true 13 1,aq 10 true (bm 14 .eql 12 13),dx 15 10 14] (aS 15 (aa [aV 16 4 5,bL 4 6 16] .ret) .skip)) (.seq (aa [aF 17 0 1 3,av 18 1 17,aU 19 .eql 18 4] (aS 19 (.seq (.drawn true 36 [aF 20 3 1 3,av 21 1 20,jF 22 4 21 0,aV 23 4 22,I 24 1,aV 25 4 5,dp 26 234 [.t 23,.t 24,.t 25],aF 27 3 1 3,av 28 1 27,jF 29 4 28 1,aV 30 4 29,I 31 1,aV 32 4 5,dp 33 234 [.t 30,.t 31,.t 32],ca 34 189 26 33,bL 4 6 34]) .ret) .skip)) (aa [aV 35 4 3,bL 4 6 35] .ret))))
@[simp] def F4:List bs:=[.cell 6 true 4]
def Pk:C:=(aa [cz 3 1,eE 4 5] (aa [I 7 0,cl 8 7,I 5 8] (.seq (.block 0 (.loop (.seq (.seq (.drawn true 38 [I 9 5,aU 10 .gtr 9 0,I 11 10,b3 11 true 12 0,b3 11 true 13 5,aq 11 true (aU 14 .sub 13 1),aq 11 true (cu 15 5 12 14),aq 11 true (aF 16 0 1 15),aq 11 true (av 17 1 16),aq 11 true (aF 18 0 1 3),aq 11 true (av 19 1 18),aq 11 true (bm 20 .gtr 17 19),dx 21 11 20]) (aS 21 .skip (.exit 0))) (.block 1 (.region [I 22 5,aU 23 .sub 22 1,I 5 23]))))) (aa [ek 24 5 113 [],I 25 0,I 26 5,b5 27 (.lsl 5 (.t 25) none (some (.t 26))),gO 28 5 113 24 27,I 6 28] (aa [I 29 6,aV 30 5 3,ek 31 5 113 [.t 30],gO 32 5 113 29 31,I 6 32] (aa [I 33 6,I 34 0,I 35 5,b5 36 (.lsl 5 (.t 34) (some (.t 35)) none),gO 37 5 113 33 36,I 4 37] .ret))))))
@[simp] def Lm:List bs:=[.tmp 4]
def kL:List (Nat×dB):=[
 (3,⟨1,8,.int .i64,.int .i64 0⟩),
 (5,⟨1,1,.int .u8,.int .u8 0⟩),
 (9,⟨1,16,.str,.str []⟩),
 (27,⟨1,24,.slice 30,.slice 4 .nil []⟩),
 (30,⟨4,56,.struct [(0,3),(1,3),(2,9),(3,27)],.agg [.int .i64 0,.int .i64 0,.str [],.slice 4 .nil []]⟩),
 (46,⟨1,24,.slice 113,.slice 5 .nil []⟩),
 (76,⟨1,24,.slice 3,.slice 1 .nil []⟩),
 (113,⟨5,64,.struct [(0,3),(1,30)],.agg [.int .i64 0,.int .i64 0,.int .i64 0,.str [],.slice 4 .nil []]⟩)]
theorem eC:fN al kL=true:=by kernel_rfl
theorem ahX:bY kL O6 ajA 1 Tryz.f56=true:=by kernel_rfl
theorem aby:al.funcs[(56:Nat)]? =some Tryz.f56:=Tryz.func56
theorem Cw:bY kL yu zZ 2 Tryz.f58=true:=by kernel_rfl
theorem A6:al.funcs[(58:Nat)]? =some Tryz.f58:=Tryz.func58
theorem ah7:bY kL Pg Vg 2 Tryz.f60=true:=by kernel_rfl
theorem abI:al.funcs[(60:Nat)]? =some Tryz.f60:=Tryz.func60
theorem ahY:bY kL O7 Vb 3 Tryz.f75=true:=by kernel_rfl
theorem abz:al.funcs[(75:Nat)]? =some Tryz.f75:=Tryz.func75
theorem Ui:bY kL HQ Li 1 Tryz.f76=true:=by kernel_rfl
theorem Qu:al.funcs[(76:Nat)]? =some Tryz.f76:=Tryz.func76
theorem ahT:bY kL O2 zW 1 Tryz.f119=true:=by kernel_rfl
theorem abu:al.funcs[(119:Nat)]? =some Tryz.f119:=Tryz.func119
theorem ahZ:bY kL O8 Lj 2 Tryz.f123=true:=by kernel_rfl
theorem abA:al.funcs[(123:Nat)]? =some Tryz.f123:=Tryz.func123
theorem mw:bY kL lM lA 1 Tryz.f124=true:=by kernel_rfl
theorem l9:al.funcs[(124:Nat)]? =some Tryz.f124:=Tryz.func124
theorem ah1:bY kL Pa xP 2 Tryz.f126=true:=by kernel_rfl
theorem abC:al.funcs[(126:Nat)]? =some Tryz.f126:=Tryz.func126
theorem KQ:bY kL DS F5 2 Tryz.f127=true:=by kernel_rfl
theorem It:al.funcs[(127:Nat)]? =some Tryz.f127:=Tryz.func127
theorem ah0:bY kL O9 Vc 1 Tryz.f128=true:=by kernel_rfl
theorem abB:al.funcs[(128:Nat)]? =some Tryz.f128:=Tryz.func128
theorem aib:bY kL Pl Ln 1 Tryz.f145=true:=by kernel_rfl
theorem abM:al.funcs[(145:Nat)]? =some Tryz.f145:=Tryz.func145
theorem ah9:bY kL Pj Ll 2 Tryz.f146=true:=by kernel_rfl
theorem abK:al.funcs[(146:Nat)]? =some Tryz.f146:=Tryz.func146
theorem aid:bY kL Pn Vh 2 Tryz.f152=true:=by kernel_rfl
theorem abO:al.funcs[(152:Nat)]? =some Tryz.f152:=Tryz.func152
theorem tY:bY kL rZ rD 3 Tryz.f180=true:=by kernel_rfl
theorem tn:al.funcs[(180:Nat)]? =some Tryz.f180:=Tryz.func180
theorem KR:bY kL DT F6 2 Tryz.f201=true:=by kernel_rfl
theorem Iu:al.funcs[(201:Nat)]? =some Tryz.f201:=Tryz.func201
theorem aic:bY kL Pm Lo 3 Tryz.f202=true:=by kernel_rfl
theorem abN:al.funcs[(202:Nat)]? =some Tryz.f202:=Tryz.func202
theorem FH:bY kL AW z1 3 Tryz.f212=true:=by kernel_rfl
theorem Ea:al.funcs[(212:Nat)]? =some Tryz.f212:=Tryz.func212
theorem ah2:bY kL Pb Lk 2 Tryz.f233=true:=by kernel_rfl
theorem abD:al.funcs[(233:Nat)]? =some Tryz.f233:=Tryz.func233
theorem KP:bY kL DR F4 3 Tryz.f234=true:=by kernel_rfl
theorem Is:al.funcs[(234:Nat)]? =some Tryz.f234:=Tryz.func234
theorem aia:bY kL Pk Lm 2 Tryz.f235=true:=by kernel_rfl
theorem abL:al.funcs[(235:Nat)]? =some Tryz.f235:=Tryz.func235
mutual
def la:bG→Int→Int
 | .mk _ _ _ args,m=>nU args 1 m
def nU:List bG→Int→Int→Int
 |[],n,_=>n
 |x::xs,n,m=>if m<n then n else nU xs (n+la x (m-n)) m
end
mutual
theorem HW:∀(t:bG) (m:Int),0≤m→1≤la t m∧la t m≤m+1
 | .mk _ _ _ args,m,h=>by simp only[la];exact PL args 1 m h (by omega) (by omega)
theorem PL:∀(l:List bG) (n m:Int),0≤m→1≤n→n≤m+1→1≤nU l n m∧nU l n m≤m+1
 |[],n,m,_,J,U=>by simp only[nU];exact⟨J,U⟩
 |x::xs,n,m,bA,J,U=>by
  simp only[nU];split
  ·exact⟨J,U⟩
  ·have:=HW x (m-n) (by omega);exact PL xs _ m bA (by omega) (by omega)
end
theorem DY:∀(t:T) (m:Int),0≤m→(la t.tm m≤m↔(t.size:Int)≤m)∧((t.size:Int)≤m→la t.tm m=t.size)
 | .pair a b,m,h=>by
  have bF:=T.size_pos a;have ae:=T.size_pos b;simp only[T.tm,la,nU,T.size];by_cases J:m<1
  ·rw[if_pos J];exact⟨by omega,fun h=>by omega⟩
  ·rw[if_neg J];obtain⟨bE,a2⟩:=DY a (m-1) (by omega);have a3:=HW a.tm (m-1) (by omega);by_cases U:(a.size:Int)≤m-1
   ·have e:=a2 U;rw[e];by_cases ao:m<1+(a.size:Int)
    ·omega
    ·rw[if_neg ao];obtain⟨cc,b4⟩:=DY b (m-(1+a.size)) (by omega);refine⟨by omega,fun h=>?_⟩;rw[b4 (by omega)];omega
   ·have:¬la a.tm (m-1)≤m-1:=fun h=>U (bE.1 h);rw[if_pos (by omega)];exact⟨by omega,fun h=>by omega⟩
 | .nil,m,h=>by simp[T.tm,la,nU,T.size]
 | .var _,m,h=>by simp[T.tm,la,nU,T.size]
 | .sym _,m,h=>by simp[T.tm,la,nU,T.size]
 | .num _,m,h=>by simp[T.tm,la,nU,T.size]
theorem YS(t:bG)(m:Int):la t m=nU t.args 1 m:=by cases t;rfl
theorem WC(t:bG):∀m:Int,0≤m→m≤1000000→bH al 123 [enc t,.int .i64 m] (.int .i64 (la t m)):=by
 suffices H:∀(k:Nat) (t:bG),t.sz≤k→∀m:Int,0≤m→m≤1000000→bH al 123 [enc t,.int .i64 m] (.int .i64 (la t m))from H _ t (eR _)
 intro k;induction k with
 |zero=>intro t aN;cases t;simp[bG.sz]at aN
 |succ k bT=>
  intro t aN m bA J;refine bf eC abA ahZ fun aP=>?_;unfold O8;have eO:t.args.length≤68719476736:=by rw[uR]at aP;simp[eB,ec,et,lim]at aP;omega
  simp;refine dW [1,9,10] (fun i (n:Int)=>[(5,.int .i64 n),(11,.int .i64 i)]) t.args.length (fun i n=>(1≤n∧n≤m+1)∧nU (t.args.drop i) n m=la t m) 1 b0 ⟨by omega,by simp[YS]⟩ (fun n af _=>?_) (fun i n hi af _=>?_)
  ·simp;(with_reducible repeat' first|refine aj ?_|simp);simp[bt,Lj,aX,aZ,aW];have:=af.2;simp[nU]at this;exact this
  ·obtain⟨⟨ra,BE⟩,af⟩:=af;obtain⟨x,ab,cy⟩:=ed hi;have aQ:t.args.drop i=x::t.args.drop (i+1):=by rw[k7 hi,cy]
   have ef:x.sz≤k:=by have:=Ma (eG ab);omega
   rw[aQ]at af;simp only[nU]at af;simp[hi,cy];by_cases ae:m<n
   ·rw[if_pos ae]at af;(with_reducible repeat' first|refine aj ?_|simp[ae]);simp[bt,Lj,aX,aZ,aW];exact af
   ·rw[if_neg ae]at af;have ax:=HW x (m-n) (by omega);((with_reducible repeat' first|refine aj ?_|refine aD (bT x ef (m-n) (by omega) (by omega)) ?_|refine aE (bT x ef (m-n) (by omega) (by omega)) ?_|simp[ae]|((first|apply bP|apply bS|apply bR)<;>intro h<;>try simp at h))<;>(try exact cp));exact bN.rng (n+la x (m-n)) hi ⟨by omega,af⟩ b0
theorem Aw(t:T):bH al 128 [t.e] (.bool (decide (t.size≤5000))):=by
 have ax:=(DY t 5000 (by omega)).1;have key:=WC t.tm 5000 (by omega) (by omega);rw[iQ]at key;refine bf eC abB ah0 fun aP=>?_;unfold O9;simp;(with_reducible repeat' first|refine aj ?_|refine aD key ?_|refine aE key ?_|simp);simp[bt,Vc,aX,aZ,aW];have:(la t.tm 5000≤5000)=(t.size≤5000):=by rw[ax];simp;omega
 simp[this]
def ae2(l:List ar)(v:Int)(k:Nat)(st:bq):Prop:=∃i:Nat,i≤l.length∧k=l.length-i∧dh l v=dh (l.drop i) v∧st=⟨[(1,.int .i64 v),(4,.ptr (.loc 0) 0),(8,.slice 5 .no (l.map ar.e)),(9,.int .i64 l.length),(10,.int .i64 i)],[(.loc 0,[.int .i64 0,.int .i64 0,.str [],.slice 4 .nil []])],[],1,[]⟩
set_option maxRecDepth 4000 in
theorem uB(l:List ar)(v:Int)(au:l.length≤1000000):bH al 146 [.slice 5 .no (l.map ar.e),.int .i64 v] (.tuple [((dh l v).getD .nil).e,.bool (dh l v).isSome]):=by
 refine bf eC abK ah9 fun aP=>?_;unfold Pj;simp;refine oR (ae2 l v) l.length _ b0 ⟨0,by omega,rfl,by simp,rfl⟩ ?_;rintro k st ⟨i,hi,ad,a7,rfl⟩ kE cQ;clear kE cQ;by_cases bC:i<l.length
 ·obtain⟨b,ae⟩:∃b,l[i]? =some b:=⟨_,cf bC⟩;have Rt:l.drop i=b::l.drop (i+1):=by rw[k7 bC];rw[cf bC]at ae;simp at ae;rw[ae]
  have cK:∀h,l[i]'h=b:=fun h=>by rw[cf h]at ae;simpa using ae
  simp[cK,bC];(with_reducible repeat' first|((first|apply bP|apply bS|apply bR)<;>intro h<;>try simp at h)|refine aj ?_|simp[cK])
  ·have:dh l v=some b.t:=by rw[a7,Rt];simp[dh,h]
   simp[bt,Ll,aX,aZ,aW];simp[this]
  ·refine bN.next (l.length-(i+1)) (by omega) ⟨i+1,by omega,rfl,?_,rfl⟩ b0;rw[a7,Rt];simp[dh,h]
 ·have:dh l v=none:=by rw[a7,List.drop_of_length_le (by omega)];simp[dh]
  simp[bC];(with_reducible repeat' first|((first|apply bP|apply bS|apply bR)<;>intro h<;>try simp at h)|refine aj ?_|simp);simp[bt,Ll,aX,aZ,aW];simp[this]
theorem alA(l:List ar)(au:l.length≤1000000)(t:T):bH al 127 [.slice 5 .no (l.map ar.e),t.e] (t.sub (dh l)).e:=by
 induction t with
 |pair a b dR dS=>
  refine bf eC It KQ fun aP=>?_;unfold DS;simp;(with_reducible repeat' first|refine aj ?_|refine aD dR ?_|refine aE dR ?_|refine aD dS ?_|refine aE dS ?_|refine aD (GP _ _) ?_|refine aE (GP _ _) ?_|simp);all_goals simp[bt,F5,aX,aZ,aW]
  all_goals simp[T.sub]
 |var n=>
  refine bf eC It KQ fun aP=>?_;unfold DS;simp;((with_reducible repeat' first|refine aj ?_|refine aD (uB l n au) ?_|refine aE (uB l n au) ?_|simp|((first|apply bP|apply bS|apply bR)<;>intro h<;>try simp at h))<;>(try exact cp));all_goals simp[bt,F5,aX,aZ,aW]
  all_goals cases ae:dh l n<;>simp_all[T.sub]
 |_=>
  refine bf eC It KQ fun aP=>?_;unfold DS;simp;(with_reducible repeat' first|refine aj ?_|simp);all_goals simp[bt,F5,aX,aZ,aW]
  all_goals simp[T.sub]
theorem WG(l:List ar)(au:l.length≤1000000)(t:T):bH al 127 [.slice 5 .no (l.map ar.e),t.e] (t.ap (cB l)).e:=by have:=alA l au t;rw[V2]at this;exact this
theorem Mn(l:List ar)(au:l.length≤1000000)(t:T):bH al 60 [.slice 5 .no (l.map ar.e),t.e] (.tuple [(t.ap (cB l)).e,.bool (decide ((t.ap (cB l)).size≤5000))]):=by refine bf eC abI ah7 fun aP=>?_;unfold Pg;simp;(with_reducible repeat' first|refine aj ?_|refine aD (WG l au t) ?_|refine aE (WG l au t) ?_|refine aD (Aw _) ?_|refine aE (Aw _) ?_|simp);simp[bt,Vg,aX,aZ,aW]
def vB(v:Int)(l:List T):Bool:=l.any (T.occ v)
theorem T1(v:Int)(t:T):t.occ v=(vB v t.args||(t.kind==1&&t.int==v)):=by cases t<;>simp[T.occ,vB]
theorem vZ(v:Int)(t:T):bH al 233 [.int .i64 v,t.e] (.bool (t.occ v)):=by
 suffices H:∀(k:Nat) (t:T),t.size≤k→bH al 233 [.int .i64 v,t.e] (.bool (t.occ v))from H _ t (eR _)
 intro k;induction k with
 |zero=>intro t aN;have:=T.size_pos t;omega
 |succ k bT=>
  intro t aN;have q2:t.args.length≤2:=by cases t<;>simp
  refine bf eC abD ah2 fun aP=>?_;unfold Pb;simp;refine dW [0,3,8,9] (fun i (_:Unit)=>[(10,.int .i64 i)]) t.args.length (fun i _=>vB v (t.args.drop i)=vB v t.args) () b0 (by simp) (fun _ af _=>?_) (fun i _ hi af _=>?_)
  ·have bA:vB v t.args=false:=by rw[←af];simp[vB]
   rw[T1,bA];simp;((with_reducible repeat' first|refine aj ?_|simp|((first|apply bP|apply bS|apply bR)<;>intro h<;>try simp at h))<;>(try exact cp));all_goals simp[bt,Lk,aX,aZ,aW]
   all_goals simp_all
  ·obtain⟨x,ab,cy⟩:=ed hi;have aQ:t.args.drop i=x::t.args.drop (i+1):=by rw[k7 hi,cy]
   have ef:x.size≤k:=by have hm:=eG ab;have:=T.size_pos x;cases t<;>simp at hm;rcases hm with rfl|rfl<;>simp[T.size]at aN<;>omega
   simp only[aQ,vB,List.any_cons]at af;simp[hi,cy];cases aw:x.occ v with
   |true=>
    rw[aw]at af;simp at af;have bA:t.occ v=true:=by rw[T1];simp[vB];left;simpa using af
    (with_reducible repeat' first|refine aj ?_|refine aD (bT x ef) ?_|refine aE (bT x ef) ?_|simp[aw]);simp[bt,Lk,aX,aZ,aW];simp[bA]
   |false=>rw[aw]at af;have Tg:=bT x ef;exact hN
theorem GQ(v:Int)(x t:T):bH al 234 [t.e,.int .i64 v,x.e] (t.ap (Go.Pv.one v x)).e:=by
 induction t with
 |pair a b dR dS=>
  refine bf eC Is KP fun aP=>?_;unfold DR;simp;(with_reducible repeat' first|refine aj ?_|refine aD dR ?_|refine aE dR ?_|refine aD dS ?_|refine aE dS ?_|refine aD (GP _ _) ?_|refine aE (GP _ _) ?_|simp);all_goals simp[bt,F4,aX,aZ,aW]
  all_goals simp[T.ap]
 |var n=>
  refine bf eC Is KP fun aP=>?_;unfold DR;simp;((with_reducible repeat' first|refine aj ?_|simp|((first|apply bP|apply bS|apply bR)<;>intro h<;>try simp at h))<;>(try exact cp));all_goals simp[bt,F4,aX,aZ,aW]
  all_goals simp_all[T.ap,Go.Pv.one]
 |_=>
  refine bf eC Is KP fun aP=>?_;unfold DR;simp;(with_reducible repeat' first|refine aj ?_|simp);all_goals simp[bt,F4,aX,aZ,aW]
  all_goals simp[T.ap]
theorem GS(s:List ar)(au:s.length≤1000000)(t:T):bH al 201 [.slice 5 .no (s.map ar.e),t.e] (ha s t).e:=by
 cases t with
 |var n=>
  cases ae:dh s n with
  |none=>refine bf eC Iu KR fun aP=>?_;unfold DT;simp;(with_reducible repeat' first|refine aj ?_|refine aD (uB s n au) ?_|refine aE (uB s n au) ?_|simp[ae]);simp[bt,F6,aX,aZ,aW];simp[ha,cB,ae]
  |some x=>refine bf eC Iu KR fun aP=>?_;unfold DT;simp;(with_reducible repeat' first|refine aj ?_|refine aD (uB s n au) ?_|refine aE (uB s n au) ?_|simp[ae]);simp[bt,F6,aX,aZ,aW];simp[ha,cB,ae]
 |_=>refine bf eC Iu KR fun aP=>?_;unfold DT;simp;(with_reducible repeat' first|refine aj ?_|simp);simp[bt,F6,aX,aZ,aW];simp[ha]
theorem Ss(b:ar):∀(s:List ar) (k:Nat),(∀i c,i<k→s[i]? =some c→c.v≤b.v)→(∀c,s[k]? =some c→b.v<c.v)→k≤s.length→oc b s=s.take k++b::s.drop k
 |[],k,_,_,ad=>by simp at ad;subst ad;rfl
 |c::s,0,_,U,_=>by have:=U c rfl;simp[oc,this]
 |c::s,k+1,J,U,ad=>by have:=J 0 c (by omega) rfl;simp only[oc,if_neg (by omega:¬b.v<c.v),List.take_succ_cons,List.drop_succ_cons,bU];rw[Ss b s k (fun i d hi aQ=>J (i+1) d (by omega) (by simpa using aQ)) (fun d aQ=>U d (by simpa using aQ)) (by simpa using ad)]
theorem alz(s:List ar)(b:ar)(au:s.length≤1000000)(bF:ir s):bH al 235 [.slice 5 .no (s.map ar.e),b.e] (.slice 5 .no ((oc b s).map ar.e)):=by
 refine bf eC abL aia fun aP=>?_;unfold Pk;simp;refine uS [0,3] (fun(k:Nat)=>[(5,.int .i64 k)]) (fun k=>k) (fun k=>k≤s.length∧∀c,s[k]? =some c→b.v<c.v) s.length b0 ⟨by omega,fun c h=>by simp at h⟩ (fun k af _=>?_);obtain⟨ad,af⟩:=af;have u3:(∀c,0<k→s[k-1]? =some c→c.v≤b.v)→oc b s=s.take k++b::s.drop k:=fun h=>Ss b s k (fun i c hi ax=>by
  obtain⟨d,aQ⟩:∃d,s[k-1]? =some d:=⟨_,cf (by omega)⟩;have J:=h d (by omega) aQ;rcases Nat.lt_or_ge i (k-1)with U|U
  ·have se:=(fL.1 ax);have me:=(fL.1 aQ);have:=pg.1 bF i (k-1) se.1 me.1 U;rw[se.2,me.2]at this;omega
  ·have:i=k-1:=by omega
   subst this;rw[aQ]at ax;cases ax;exact J) af ad
 rcases Nat.eq_zero_or_pos k with rfl|fm
 ·have e:=u3 fun c h=>by omega
  rw[e];simp;(with_reducible repeat' first|refine aj ?_|simp);simp[bt,Lm,aX,aZ,aW];try simp[hl]
 ·obtain⟨d,aQ⟩:∃d,s[k-1]? =some d:=⟨_,cf (by omega)⟩;have ak:((k:Int)-1).toNat=k-1:=by omega
  have aB:∀h,(s[k-1]'h)=d:=fun h=>by rw[cf h]at aQ;exact fB aQ
  have iD:(0:Int)<k:=by omega
  by_cases ae:b.v<d.v
  ·simp[fm,iD,ak,aB,ae,aQ];(with_reducible repeat' first|refine aj ?_|simp[fm,iD,ak,aB,ae,aQ]);refine bN.whl (k-1) (by omega) ⟨by omega,fun c ax=>by rw[aQ]at ax;cases ax;exact ae⟩ ?_;have bj:((k-1:Nat):Int)=(k:Int)-1:=by omega
   simp[bj];exact b0
  ·have e:=u3 fun c _ ax=>by rw[aQ]at ax;cases ax;omega
   rw[e];simp[fm,iD,ak,aB,ae,aQ];(with_reducible repeat' first|refine aj ?_|simp[fm,iD,ak,aB,ae,aQ]);simp[bt,Lm,aX,aZ,aW];have de:lG s.length (s.map ar.e)=s.map ar.e:=hl (by simp);rw[de,←List.map_take,←List.map_drop,←gE,←List.map_append];exact VZ _
def LZ(v:Int)(x:T)(b:ar):ar:=⟨b.v,b.t.ap (Go.Pv.one v x)⟩
def afc(s:List ar)(v:Int)(x:T)(i:Nat)(out:List ar):Prop:=out=(s.take i).map (LZ v x)∧∀b∈s.take i,(b.t.ap (Go.Pv.one v x)).size≤5000
theorem alD(s:List ar)(v:Int)(t:T)(au:s.length≤1000000)(bF:ir s):bH al 212 [.slice 5 .no (s.map ar.e),.int .i64 v,t.e] (fy (nn s v t)):=by
 obtain⟨x,ab⟩:∃x,x=t.ap (cB s):=⟨_,rfl⟩;have q3:=Mn s au t;rw[←ab]at q3;obtain⟨o,aw⟩:∃o,o=nn s v t:=⟨_,rfl⟩;have aeN:x.size≤5000→x.occ v=false→s.length<400→(∀b∈s,(b.t.ap (Go.Pv.one v x)).size≤5000)→o=some (l6 s v x):=fun a6 bu bV cW=>by rw[aw,nn,←ab,if_pos ⟨a6,bu,bV,cW⟩]
 have di:¬(x.size≤5000∧x.occ v=false∧s.length<400∧∀b∈s,(b.t.ap (Go.Pv.one v x)).size≤5000)→o=none:=fun q=>by rw[aw,nn,←ab,if_neg q]
 rw[←aw];clear aw;by_cases J:x.size≤5000;rotate_left
 ·rw[di fun h=>J h.1];refine bf eC Ea FH fun aP=>?_;unfold AW;simp;(with_reducible repeat' first|refine aj ?_|refine aD q3 ?_|refine aE q3 ?_|refine aD (vZ _ _) ?_|refine aE (vZ _ _) ?_|simp[J]);simp[bt,z1,aX,aZ,aW];simp[fy]
 cases U:x.occ v with
 |true=>rw[di fun h=>by rw[U]at h;cases h.2.1];refine bf eC Ea FH fun aP=>?_;unfold AW;simp;(with_reducible repeat' first|refine aj ?_|refine aD q3 ?_|refine aE q3 ?_|refine aD (vZ _ _) ?_|refine aE (vZ _ _) ?_|simp[J,U]);simp[bt,z1,aX,aZ,aW];simp[fy]
 |false=>
 by_cases ao:s.length<400;rotate_left
 ·rw[di fun h=>ao h.2.2.1];have r8:(400:Int)≤s.length:=by omega
  refine bf eC Ea FH fun aP=>?_;unfold AW;simp;(with_reducible repeat' first|refine aj ?_|refine aD q3 ?_|refine aE q3 ?_|refine aD (vZ _ _) ?_|refine aE (vZ _ _) ?_|simp[J,U,r8]);simp[bt,z1,aX,aZ,aW];simp[fy]
 have r8:¬(400:Int)≤s.length:=by omega
 refine bf eC Ea FH fun aP=>?_;unfold AW;simp;(with_reducible repeat' first|refine aj ?_|refine aD q3 ?_|refine aE q3 ?_|refine aD (vZ _ _) ?_|refine aE (vZ _ _) ?_|simp[J,U,r8]);refine hQ (α:=List ar) (fun i out=>⟨[(1,.int .i64 v),(8,.ptr (.loc 1) 0),(33,.slice 5 .no (s.map ar.e)),(34,.int .i64 s.length),(10,.slice 5 (.own (.loc 2)) (out.map ar.e)),(35,.int .i64 i)],[(.loc 1,[.int .i64 x.kind,.int .i64 x.int,.str x.name,.slice 4 .no (x.args.map T.e)])],[(.loc 2,⟨out.length,113,5,none⟩)],3,[]⟩) s.length (afc s v x) [] b0 ⟨by simp,by simp⟩ (fun out af _=>?_) (fun i out hi af _=>?_)
 ·obtain⟨dX,pA⟩:=af;rw[hl (eR _)]at dX pA;have adg:ir out:=by rw[dX,ir,List.pairwise_map];exact bF
  have y7:out.length≤1000000:=by rw[dX];simpa using au
  rw[aeN J U ao pA];have key:=alz out ⟨v,x⟩ y7 adg;simp;(with_reducible repeat' first|refine aj ?_|refine aD key ?_|refine aE key ?_|simp);simp[bt,z1,aX,aZ,aW];simp[fy,l6,dX];rfl
 ·obtain⟨dX,pA⟩:=af;obtain⟨b,aJ,fY⟩:=ed hi;have vg:s.take (i+1)=s.take i++[b]:=by rw[List.take_succ,aJ];rfl
  have y7:out.length≤1000000:=by rw[dX];simp;omega
  simp[hi,fY];by_cases bD:(b.t.ap (Go.Pv.one v x)).size≤5000
  ·(with_reducible repeat' first|refine aj ?_|refine aD (GQ _ _ _) ?_|refine aE (GQ _ _ _) ?_|refine aD (Aw _) ?_|refine aE (Aw _) ?_|simp[fY,hi,bD]);all_goals first|(refine⟨by unfold lim;omega,?_⟩)|skip
   (with_reducible repeat' first|refine aj ?_|simp);refine bN.rng (out++[LZ v x b]) hi ⟨by rw[vg,dX,List.map_append];rfl,fun c ax=>?_⟩ ?_
   ·rw[vg]at ax;rcases kx.1 ax with ax|ax
    ·exact pA c ax
    ·simp at ax;subst ax;exact bD
   ·simp[LZ];exact⟨by simp[fresh,aK,aC,cd,inObs,Pv.look,iV],dZ (by simp[fresh,aK,aC,cd,inObs,Pv.look,iV]),ea (by simp[fresh,aK,aC,dQ,inObs,Pv.look,iV]),by simp⟩
  ·rw[di fun h=>bD (h.2.2.2 b (eG aJ))];(with_reducible repeat' first|refine aj ?_|refine aD (GQ _ _ _) ?_|refine aE (GQ _ _ _) ?_|refine aD (Aw _) ?_|refine aE (Aw _) ?_|simp[fY,hi,bD]);simp[bt,z1,aX,aZ,aW];simp[fy]
theorem akU{s:List ar}(ag:fC s)(aI:hn s){n:Nat}{a b:T}{o:aY (List ar)}(h:kt n s a b=some o):ix s [(a,b)] o:=by obtain⟨n',o',J,U⟩:=GK ag aI a b;have ak:=C8 (Nat.le_max_left n n') h;have aB:=C8 (Nat.le_max_right n n') J;rw[ak]at aB;cases aB;exact U
def Ar(n:Nat):List (T×T)→List ar→aY (aY (List ar))
 |[],s=>some (some s)
 |e::r,s=>match kt n s e.1 e.2 with
  |none=>none
  |some none=>some none
  |some (some s1)=>Ar n r s1
def xv(x y:T):Bool:=x.kind==y.kind&&x.int==y.int&&x.name==y.name
theorem akS(n:Nat)(s:List ar){x y:T}(ab:x.kind≠1)(aG:y.kind≠1):jQ (kt n) s x y=if xv x y then Ar n (x.args.zip y.args) s else some none:=by
 cases x<;>cases y<;>simp[jQ,xv,Ar]at ab aG⊢
 ·rename_i a b;split<;>simp_all
 ·rename_i a b;split<;>simp_all
 ·rename_i bE a2 cc b4;cases kt n s bE cc with
  |none=>rfl
  |some o=>cases o with
   |none=>rfl
   |some s1=>
    simp only
    cases kt n s1 a2 b4 with
    |none=>rfl
    |some o=>cases o<;>rfl
theorem afC{x y:T}(h:xv x y=true):x.args.length=y.args.length:=by cases x<;>cases y<;>simp[xv]at h⊢
@[simp] theorem anv(o:aY (List ar)):yB 0 (fy o)=some (True,.slice 5 .no ((o.getD []).map ar.e)):=rfl
@[simp] theorem anw(o:aY (List ar)):yB 1 (fy o)=some (True,.bool o.isSome):=rfl
set_option maxRecDepth 4000 in
theorem alG(n:Nat):∀(s:List ar) (a b:T) (o:aY (List ar)),fC s→hn s→kt n s a b=some o→bH al 180 [.slice 5 .no (s.map ar.e),a.e,b.e] (fy o):=by
 induction n with
 |zero=>intro s a b o _ _ h;simp[kt]at h
 |succ n bT=>
  intro s a b o ag aI he;have au:s.length≤1000000:=by have:=aI.1;omega
  have eD:=GS s au a;have du:=GS s au b;simp only[kt]at he;generalize ha s a=x at he eD;generalize ha s b=y at he du;have ae:=fun v t=>alD s v t au ag.asc;have qj:∀z:T,¬z.kind=1→(z.kind==1)=false:=fun z h=>by simp[h]
  by_cases ab:x.kind=1
  ·obtain⟨i,rfl⟩:∃i,x= .var i:=by cases x<;>simp at ab;exact⟨_,rfl⟩
   by_cases aG:y.kind=1
   ·obtain⟨j,rfl⟩:∃j,y= .var j:=by cases y<;>simp at aG;exact⟨_,rfl⟩
    simp only[jQ,dG]at he;subst he;rcases Int.lt_trichotomy i j with h|h|h
    ·rw[if_pos h];have key:=ae j (.var i);refine bf eC tn tY fun aP=>?_;unfold rZ;simp;(with_reducible repeat' first|refine aj ?_|refine aD eD ?_|refine aE eD ?_|refine aD du ?_|refine aE du ?_|refine aD key ?_|refine aE key ?_|simp[h]);simp[bt,rD,aX,aZ,aW];simp[fy]
    ·subst h;rw[if_neg (by omega),if_pos rfl];have bA:¬i<i:=by omega
     refine bf eC tn tY fun aP=>?_;unfold rZ;simp;(with_reducible repeat' first|refine aj ?_|refine aD eD ?_|refine aE eD ?_|refine aD du ?_|refine aE du ?_|simp[bA]);simp[bt,rD,aX,aZ,aW];simp[fy]
    ·rw[if_neg (by omega),if_neg (by omega)];have key:=ae i (.var j);have bA:¬i<j:=by omega
     have U:¬i=j:=by omega
     refine bf eC tn tY fun aP=>?_;unfold rZ;simp;((with_reducible repeat' first|refine aj ?_|refine aD eD ?_|refine aE eD ?_|refine aD du ?_|refine aE du ?_|refine aD key ?_|refine aE key ?_|simp[bA,U]|((first|apply bP|apply bS|apply bR)<;>intro h<;>try simp at h))<;>(try exact cp));simp[bt,rD,aX,aZ,aW];simp[fy]
   ·have u2:nn s i y=o:=by cases y<;>first|(simp at aG;done)|exact fB he
    subst u2;have key:=ae i y;refine bf eC tn tY fun aP=>?_;unfold rZ;simp;(with_reducible repeat' first|refine aj ?_|refine aD eD ?_|refine aE eD ?_|refine aD du ?_|refine aE du ?_|refine aD key ?_|refine aE key ?_|simp[qj y aG]);simp[bt,rD,aX,aZ,aW];simp[fy]
  ·by_cases aG:y.kind=1
   ·obtain⟨j,rfl⟩:∃j,y= .var j:=by cases y<;>simp at aG;exact⟨_,rfl⟩
    have u2:nn s j x=o:=by cases x<;>first|(simp at ab;done)|exact fB he
    subst u2;have key:=ae j x;refine bf eC tn tY fun aP=>?_;unfold rZ;simp;(with_reducible repeat' first|refine aj ?_|refine aD eD ?_|refine aE eD ?_|refine aD du ?_|refine aE du ?_|refine aD key ?_|refine aE key ?_|simp[qj x ab]);simp[bt,rD,aX,aZ,aW];simp[fy]
   ·rw[akS n s ab aG]at he;cases hle:xv x y with
    |false=>
     rw[hle]at he;simp at he;subst he;have Jf:(x.kind !=y.kind)=true∨((x.kind !=y.kind)=false∧((x.int !=y.int)=true∨((x.int !=y.int)=false∧(x.name !=y.name)=true))):=by simp only[xv]at hle;simp only[bne];cases ak:(x.kind==y.kind)<;>cases aB:(x.int==y.int)<;>cases bj:(x.name==y.name)<;>simp_all
     rcases Jf with a6|⟨a6,bu|⟨bu,bV⟩⟩
     ·refine bf eC tn tY fun aP=>?_;unfold rZ;simp;(with_reducible repeat' first|refine aj ?_|refine aD eD ?_|refine aE eD ?_|refine aD du ?_|refine aE du ?_|simp[qj x ab,qj y aG,a6]);simp[bt,rD,aX,aZ,aW];simp[fy]
     ·refine bf eC tn tY fun aP=>?_;unfold rZ;simp;(with_reducible repeat' first|refine aj ?_|refine aD eD ?_|refine aE eD ?_|refine aD du ?_|refine aE du ?_|simp[qj x ab,qj y aG,a6,bu]);simp[bt,rD,aX,aZ,aW];simp[fy]
     ·refine bf eC tn tY fun aP=>?_;unfold rZ;simp;have FR:¬x.name=y.name:=by simpa using bV
      have aiD:decide (x.name=y.name)=false:=by simp[FR]
      ((with_reducible repeat' first|refine aj ?_|refine aD eD ?_|refine aE eD ?_|refine aD du ?_|refine aE du ?_|simp[qj x ab,qj y aG,a6,bu,bV,FR,aiD]|((first|apply bP|apply bS|apply bR)<;>intro h<;>try simp at h))<;>(try exact cp));simp[bt,rD,aX,aZ,aW];simp[fy]
    |true=>
     rw[hle,if_pos rfl]at he;have Jf:(x.kind !=y.kind)=false∧(x.int !=y.int)=false∧(x.name !=y.name)=false:=by simp only[xv]at hle;simp only[bne];cases ak:(x.kind==y.kind)<;>cases aB:(x.int==y.int)<;>cases bj:(x.name==y.name)<;>simp_all
     obtain⟨a6,bu,bV⟩:=Jf;have hlen:=afC hle;have FR:x.name=y.name:=by simpa using bV
     have q2:x.args.length≤2:=by cases x<;>simp
     refine bf eC tn tY fun aP=>?_;unfold rZ;simp;(with_reducible repeat' first|refine aj ?_|refine aD eD ?_|refine aE eD ?_|refine aD du ?_|refine aE du ?_|simp[qj x ab,qj y aG,a6,bu,FR]);refine hQ (α:=List ar) (fun i ai=>⟨[(5,.ptr (.loc 1) 0),(96,.slice 4 .no (x.args.map T.e)),(97,.int .i64 x.args.length),(0,.slice 5 .no (ai.map ar.e)),(98,.int .i64 i)],[(.loc 1,[.int .i64 y.kind,.int .i64 y.int,.str y.name,.slice 4 .no (y.args.map T.e)])],[],2,[]⟩) x.args.length (fun i ai=>(fC ai∧hn ai)∧Ar n ((x.args.zip y.args).drop i) ai=some o) s b0 ⟨⟨ag,aI⟩,by simpa using he⟩ (fun ai af _=>?_) (fun i ai hi af _=>?_)
     ·obtain⟨_,af⟩:=af;rw[List.drop_eq_nil_of_le (by simp[hlen])]at af;simp[Ar]at af;subst af;simp;(with_reducible repeat' first|refine aj ?_|simp);simp[bt,rD,aX,aZ,aW];simp[fy]
     ·obtain⟨⟨g1,g2⟩,af⟩:=af;obtain⟨bE,bF⟩:∃a,x.args[i]? =some a:=⟨_,cf hi⟩;obtain⟨cc,fR⟩:∃b,y.args[i]? =some b:=⟨_,cf (by omega)⟩;have mO:∀h,(x.args[i]'h)=bE:=fun h=>by rw[cf hi]at bF;exact fB bF
      have cK:∀h,(y.args[i]'h)=cc:=fun h=>by rw[cf h]at fR;exact fB fR
      have q8:i<y.args.length:=by omega
      have aQ:(x.args.zip y.args).drop i=(bE,cc)::(x.args.zip y.args).drop (i+1):=by rw[k7 (by simp;omega)];simp[mO,cK]
      rw[aQ]at af;simp only[Ar]at af;simp[hi,mO,cK,q8];cases hu:kt n ai bE cc with
      |none=>rw[hu]at af;cases af
      |some gK=>
       have key:=bT ai bE cc gK g1 g2 hu;rw[hu]at af;cases gK with
       |none=>simp at af;subst af;(with_reducible repeat' first|refine aj ?_|refine aD key ?_|refine aE key ?_|simp[mO,cK,hi,q8]);simp[bt,rD,aX,aZ,aW];simp[fy]
       |some s1=>have aeA:=akU g1 g2 hu;(with_reducible repeat' first|refine aj ?_|refine aD key ?_|refine aE key ?_|simp[mO,cK,hi,q8]);refine bN.rng s1 hi ⟨aeA.1,af⟩ ?_;exact b0
theorem WJ(s:List ar)(a b:T)(ag:fC s)(aI:hn s):bH al 180 [.slice 5 .no (s.map ar.e),a.e,b.e] (fy (mgu s [(a,b)])):=by obtain⟨n,o,J,U⟩:=GK ag aI a b;rw[rv U];exact alG n s a b o ag aI J
def afb(s:List ar)(E:List (T×T))(i:Nat)(ai:List ar):Prop:=(fC ai∧hn ai)∧mgu ai (E.drop i)=mgu s E
theorem alC(s:List ar)(l r:List T)(au:l.length=r.length)(ag:fC s)(aI:hn s)(w5:l.length≤1000000):bH al 202 [.slice 5 .no (s.map ar.e),.slice 4 .no (l.map T.e),.slice 4 .no (r.map T.e)] (fy (mgu s (l.zip r))):=by
 refine bf eC abN aic fun aP=>?_;unfold Pm;simp;refine hQ (α:=List ar) (fun i ai=>⟨[(2,.slice 4 .no (r.map T.e)),(12,.slice 4 .no (l.map T.e)),(13,.int .i64 l.length),(0,.slice 5 .no (ai.map ar.e)),(14,.int .i64 i)],[],[],0,[]⟩) l.length (afb s (l.zip r)) s b0 ⟨⟨ag,aI⟩,by simp⟩ (fun ai af _=>?_) (fun i ai hi af _=>?_)
 ·obtain⟨⟨g1,g2⟩,af⟩:=af;rw[List.drop_eq_nil_of_le (by simp[au]),Ku g1 g2]at af;rw[←af];simp;(with_reducible repeat' first|refine aj ?_|simp);simp[bt,Lo,aX,aZ,aW];simp[fy]
 ·obtain⟨⟨g1,g2⟩,af⟩:=af;obtain⟨a,bF⟩:∃a,l[i]? =some a:=⟨_,cf hi⟩;obtain⟨b,fR⟩:∃b,r[i]? =some b:=⟨_,cf (by omega)⟩;have mO:∀h,(l[i]'h)=a:=fun h=>by rw[cf hi]at bF;exact fB bF
  have cK:∀h,(r[i]'h)=b:=fun h=>by rw[cf h]at fR;exact fB fR
  have q8:i<r.length:=by omega
  have aQ:(l.zip r).drop i=(a,b)::(l.zip r).drop (i+1):=by rw[k7 (by simp;omega)];simp[mO,cK]
  rw[aQ,Kt g1 g2]at af;simp[hi,mO,cK,q8];have key:=WJ ai a b g1 g2;cases hu:mgu ai [(a,b)]with
  |none=>rw[hu]at af key;simp only at af;rw[←af];(with_reducible repeat' first|refine aj ?_|refine aD key ?_|refine aE key ?_|simp[mO,cK,hi,q8]);simp[bt,Lo,aX,aZ,aW];simp[fy]
  |some s1=>have oZ:=zy g1 g2 hu;rw[hu]at af key;(with_reducible repeat' first|refine aj ?_|refine aD key ?_|refine aE key ?_|simp[mO,cK,hi,q8]);refine bN.rng s1 hi ⟨oZ,af⟩ ?_;exact b0
theorem j3(n:Int):bH al 114 [.int .i64 n] (T.var n).e:=by refine bf fE abH ah6 fun aP=>?_;unfold Pf;exact b2
def aff(t:List ar)(i:Nat)(p:List T×List T):Prop:=p.1=(t.take i).map (fun b=>T.var b.v)∧p.2=(t.take i).map (·.t)
theorem alE(s t:List ar)(ag:fC s)(aI:hn s)(aN:t.length≤1000000):bH al 152 [.slice 5 .no (s.map ar.e),.slice 5 .no (t.map ar.e)] (fy (mgu s (hz t))):=by
 have bD:(t.map fun b=>T.var b.v).zip (t.map (·.t))=hz t:=by rw[hz,List.zip_map']
 refine bf eC abO aid fun aP=>?_;unfold Pn;simp;refine hQ (α:=List T×List T) (fun i p=>⟨[(0,.slice 5 .no (s.map ar.e)),(12,.slice 5 .no (t.map ar.e)),(13,.int .i64 t.length),(6,.slice 4 (.own (.loc 0)) (p.1.map T.e)),(7,.slice 4 (.own (.loc 1)) (p.2.map T.e)),(14,.int .i64 i)],[],[(.loc 0,⟨p.1.length,30,4,none⟩),(.loc 1,⟨p.2.length,30,4,none⟩)],2,[]⟩) t.length (aff t) ([],[]) b0 ⟨by simp,by simp⟩ (fun p af _=>?_) (fun i p hi af _=>?_)
 ·obtain⟨A,B⟩:=p;obtain⟨bg,kD⟩:=af;simp only at bg kD⊢;rw[hl (eR _)]at bg kD;have key:=alC s A B (by rw[bg,kD];simp) ag aI (by rw[bg];simpa using aN);rw[bg,kD,bD,←bg,←kD]at key;simp;(with_reducible repeat' first|refine aj ?_|refine aD key ?_|refine aE key ?_|simp);simp[bt,Vh,aX,aZ,aW];simp[fy]
 ·obtain⟨A,B⟩:=p;obtain⟨bg,kD⟩:=af;simp only at bg kD⊢;obtain⟨b,aJ,fY⟩:=ed hi;have vg:t.take (i+1)=t.take i++[b]:=by rw[List.take_succ,aJ];rfl
  have ac2:A.length≤1000000:=by rw[bg];simp;omega
  have ac3:B.length≤1000000:=by rw[kD];simp;omega
  simp[hi,fY];(with_reducible repeat' first|refine aj ?_|refine aD (j3 _) ?_|refine aE (j3 _) ?_|simp[fY,hi]);all_goals first|(refine⟨by unfold lim;omega,?_⟩)|skip
  (with_reducible repeat' first|refine aj ?_|simp);all_goals first|(refine⟨by unfold lim;omega,?_⟩)|skip
  (with_reducible repeat' first|refine aj ?_|simp);refine bN.rng (A++[.var b.v],B++[b.t]) hi ⟨by rw[vg,bg];simp,by rw[vg,kD];simp⟩ ?_;simp;exact⟨by simp[fresh,aK,aC,cd,inObs,Pv.look,iV],dZ (by simp[fresh,aK,aC,cd,inObs,Pv.look,iV]),ea (by simp[fresh,aK,aC,dQ,inObs,Pv.look,iV]),by simp⟩
theorem dt(n lo hi:Int):bH al 75 [.int .i64 n,.int .i64 lo,.int .i64 hi] (.bool (decide (lo≤n∧n≤hi))):=by
 refine bf eC abz ahY fun aP=>?_;unfold O7;simp;((with_reducible repeat' first|refine aj ?_|simp|((first|apply bP|apply bS|apply bR)<;>intro h<;>try simp at h))<;>(try exact cp));all_goals simp[bt,Vb,aX,aZ,aW]
 all_goals first|omega|(simp;done)|(simp;omega)
def shp:bG→Bool
 | .mk k n s [a,b]=>k==4&&n==0&&s==[]&&shp a&&shp b
 | .mk k n s []=>k2 k n s
 |_=>false
theorem Gu:∀x:T,shp x.tm=x.ok
 | .nil=>by simp[T.tm,shp,k2,T.ok]
 | .var _=>by simp[T.tm,shp,k2,T.ok]
 | .sym _=>by simp[T.tm,shp,k2,T.ok]
 | .num _=>by simp[T.tm,shp,k2,T.ok]
 | .pair a b=>by simp[T.tm,shp,T.ok,Gu a,Gu b]
theorem akc:∀(m:Nat) (t:bG),t.sz≤m→shp t=true→∃x:T,x.tm=t:=by
 intro m;induction m with
 |zero=>intro t aN;cases t;simp[bG.sz]at aN
 |succ m bT=>
  rintro⟨k,n,s,args⟩ aN h;match args with
  |[a,b]=>
   simp[bG.sz,bG.szL]at aN;simp only[shp,cA,dL]at h;obtain⟨⟨⟨⟨rfl,rfl⟩,ao⟩,J⟩,U⟩:=h;obtain⟨x,rfl⟩:=bT a (by omega) J;obtain⟨y,rfl⟩:=bT b (by omega) U;have:s=[]:=by simpa using ao
   subst this;exact⟨.pair x y,rfl⟩
  |[]=>
   simp only[shp,k2]at h;split at h
   ·subst_vars;simp at h;exact⟨.nil,by simp[T.tm,h]⟩
   split at h
   ·subst_vars;simp at h;exact⟨.var n,by simp[T.tm,h]⟩
   split at h
   ·subst_vars;simp at h;exact⟨.sym s,by simp[T.tm,h]⟩
   split at h
   ·subst_vars;simp at h;exact⟨.num n,by simp[T.tm,h]⟩
   ·simp at h
  |[_]=>simp[shp]at h
  |_::_::_::_=>simp[shp]at h
theorem ab2(t:bG):t.fits=(decide (la t 5000≤5000)&&shp t):=by
 by_cases h:shp t=true
 ·obtain⟨x,rfl⟩:=akc _ t (eR _) h;have:=(DY x 5000 (by omega)).1;rw[bG.fits_T,T.fit,h];rw[Gu]at h;simp[h,this];omega
 ·have bA:t.fits=false:=by
   cases aI:t.fits with
   |false=>rfl
   |true=>obtain⟨x,rfl,ab⟩:=bG.fits_ex aI;rw[Gu]at h;simp[T.fit]at ab;exact absurd ab.1 h
  simp at h;rw[bA,h];simp
def JR(s:List dz)(i:Nat):Prop:=i≤s.length∧∀k,k<i→mj (s.getD k 0)=true∧(k=0→low (s.getD k 0)=true)
theorem ae9{s:List dz}(h:JR s s.length):jw s=decide (1≤s.length∧s.length≤12):=by
 unfold jw;by_cases au:1≤s.length
 ·have J:=(h.2 0 (by omega)).2 rfl;have U:(s.drop 1).all mj=true:=by rw[jb];intro b ae;obtain⟨i,hi,e⟩:=ni ae;simp at hi e;have:=(h.2 (i+1) (by omega)).1;rw[List.getD_eq_getElem?_getD,cf (by omega)]at this;simp only[ky]at this;rw[←e];exact this
  rw[J,U];simp
 ·have:decide (1≤s.length∧s.length≤12)=false:=by simp;omega
  rw[this];simp
theorem ae8{s:List dz}{i:Nat}(hi:i<s.length)(h:mj (s.getD i 0)=false∨(i=0∧low (s.getD i 0)=false)):jw s=false:=by
 cases e:jw s with
 |false=>rfl
 |true=>
  exfalso;simp only[jw,cA,jb]at e;obtain⟨⟨_,ak⟩,aB⟩:=e;rcases h with h|⟨rfl,h⟩
  ·by_cases bA:i=0
   ·subst bA;rw[mj,ak]at h;simp at h
   ·have:=aB (s.getD i 0) (by rw[List.getD_eq_getElem?_getD,cf hi];simp only[ky];refine List.mem_iff_getElem.2 ⟨i-1,by simp;omega,?_⟩;simp[show i-1+1=i from by omega])
    rw[this]at h;cases h
  ·rw[ak]at h;cases h
theorem gM(s:List dz):bH al 119 [.str s] (.bool (jw s)):=by
 generalize bh:jw s=R;refine bf eC abu ahT fun aP=>?_;unfold O2;have eO:s.length≤68719476736:=by simp[eB,ec,et,lim]at aP;omega
 simp;refine uS [0] (fun(i:Nat)=>[(3,.int .i64 i)]) (fun i=>s.length-i) (JR s) 0 b0 ⟨by omega,fun k ad=>by omega⟩ (fun i af _=>?_);have dX:=af.1;by_cases hi:i<s.length
 ·have di:=ae8 hi;rw[bh]at di;obtain⟨c,ax,jX⟩:=ed hi;have Rn:s.getD i 0=c:=by simp[List.getD_eq_getElem?_getD,ax]
  rw[Rn]at di;have dd:mj c=true→(i=0→low c=true)→JR s (i+1):=fun J U=>⟨by omega,fun k ad=>by
   rcases(by omega:k<i∨k=i)with h|rfl
   ·exact af.2 k h
   ·rw[Rn];exact⟨J,U⟩⟩
  have hw:IntKind.i64.wrap (c.toNat:Int)=c.toNat:=oC _ (by have:=c.toNat_lt;omega);simp[hi,jX,ax];by_cases a6:(97:Int)≤c.toNat
  ·by_cases bu:(c.toNat:Int)≤122
   ·have au:low c=true:=by simp[low];omega
    (with_reducible repeat' first|refine aj ?_|refine aD (dt _ _ _) ?_|refine aE (dt _ _ _) ?_|simp[hi,jX,ax,a6,bu]);exact bN.whl (i+1) (by omega) (dd (by simp[mj,au]) (fun _=>au)) b0
   ·have au:low c=false:=by simp[low];omega
    by_cases bA:i=0
    ·rw[di (.inr ⟨bA,au⟩)];have qZ:((i:Int)==0)=true:=by simp[bA]
     (with_reducible repeat' first|refine aj ?_|refine aD (dt _ _ _) ?_|refine aE (dt _ _ _) ?_|simp[hi,jX,ax,a6,bu,qZ,hw]);simp[bt,zW,aX,aZ,aW]
    ·have qZ:((i:Int)==0)=false:=by simp[bA]
     by_cases bV:(c.toNat:Int)=45
     ·have rC:((c.toNat:Int) !=45)=false:=by simp[bV]
      (with_reducible repeat' first|refine aj ?_|refine aD (dt _ _ _) ?_|refine aE (dt _ _ _) ?_|simp[hi,jX,ax,a6,bu,qZ,hw,bV,rC]);all_goals exact bN.whl (i+1) (by omega) (dd (by simp[mj];omega) (fun h=>absurd h bA)) b0
     ·have rC:((c.toNat:Int) !=45)=true:=by simp[bV]
      by_cases cW:(48:Int)≤c.toNat∧(c.toNat:Int)≤57
      ·(with_reducible repeat' first|refine aj ?_|refine aD (dt _ _ _) ?_|refine aE (dt _ _ _) ?_|simp[hi,jX,ax,a6,bu,qZ,hw,bV,rC,cW]);all_goals exact bN.whl (i+1) (by omega) (dd (by simp[mj];omega) (fun h=>absurd h bA)) b0
      ·rw[di (.inl (by simp[mj,au];omega))];(with_reducible repeat' first|refine aj ?_|refine aD (dt _ _ _) ?_|refine aE (dt _ _ _) ?_|simp[hi,jX,ax,a6,bu,qZ,hw,bV,rC,cW]);simp[bt,zW,aX,aZ,aW]
  ·have au:low c=false:=by simp[low];omega
   by_cases bA:i=0
   ·rw[di (.inr ⟨bA,au⟩)];have qZ:((i:Int)==0)=true:=by simp[bA]
    (with_reducible repeat' first|refine aj ?_|refine aD (dt _ _ _) ?_|refine aE (dt _ _ _) ?_|simp[hi,jX,ax,a6,qZ,hw]);simp[bt,zW,aX,aZ,aW]
   ·have qZ:((i:Int)==0)=false:=by simp[bA]
    by_cases bV:(c.toNat:Int)=45
    ·have rC:((c.toNat:Int) !=45)=false:=by simp[bV]
     (with_reducible repeat' first|refine aj ?_|refine aD (dt _ _ _) ?_|refine aE (dt _ _ _) ?_|simp[hi,jX,ax,a6,qZ,hw,bV,rC]);all_goals exact bN.whl (i+1) (by omega) (dd (by simp[mj];omega) (fun h=>absurd h bA)) b0
    ·have rC:((c.toNat:Int) !=45)=true:=by simp[bV]
     by_cases cW:(48:Int)≤c.toNat∧(c.toNat:Int)≤57
     ·(with_reducible repeat' first|refine aj ?_|refine aD (dt _ _ _) ?_|refine aE (dt _ _ _) ?_|simp[hi,jX,ax,a6,qZ,hw,bV,rC,cW]);all_goals exact bN.whl (i+1) (by omega) (dd (by simp[mj];omega) (fun h=>absurd h bA)) b0
     ·rw[di (.inl (by simp[mj,au];omega))];(with_reducible repeat' first|refine aj ?_|refine aD (dt _ _ _) ?_|refine aE (dt _ _ _) ?_|simp[hi,jX,ax,a6,qZ,hw,bV,rC,cW]);simp[bt,zW,aX,aZ,aW]
 ·have:i=s.length:=by omega
  subst this;rw[ae9 af]at bh;simp[hi];(with_reducible repeat' first|refine aj ?_|refine aD (dt _ _ _) ?_|refine aE (dt _ _ _) ?_|simp[hi]);simp[bt,zW,aX,aZ,aW];rw[←bh,pZ];simp;omega
def ur:List bG→Bool
 |[a,b]=>shp a&&shp b
 |_=>false
theorem akb(k n:Int)(s:List dz)(args:List bG):shp ⟨k,n,s,args⟩=if k≠1∧k≠3∧n≠0 then false else if k≠2∧s≠[]then false else if k≠4∧args≠[]then false else if k=0 then true else if k=1 then decide (0≤n∧n≤100000)else if k=2 then jw s else if k=3 then decide (-1000000000≤n∧n≤1000000000)else if k=4 then ur args else false:=by
 by_cases fc:k=0
 ·subst fc;match args with
  |[]=>by_cases aA:n=0<;>by_cases ag:s=[]<;>simp[shp,k2,aA,ag]
  |[a]=>simp[shp]
  |[a,b]=>simp[shp]
  |_::_::_::_=>simp[shp]
 by_cases aT:k=1
 ·subst aT;match args with
  |[]=>by_cases ag:s=[]<;>simp[shp,k2,ag]
  |[a]=>simp[shp]
  |[a,b]=>simp[shp]
  |_::_::_::_=>simp[shp]
 by_cases bz:k=2
 ·subst bz;match args with
  |[]=>by_cases aA:n=0<;>simp[shp,k2,aA]
  |[a]=>simp[shp]
  |[a,b]=>simp[shp]
  |_::_::_::_=>simp[shp]
 by_cases b6:k=3
 ·subst b6;match args with
  |[]=>by_cases ag:s=[]<;>simp[shp,k2,ag]
  |[a]=>simp[shp]
  |[a,b]=>simp[shp]
  |_::_::_::_=>simp[shp]
 by_cases dO:k=4
 ·subst dO;match args with
  |[]=>simp[shp,k2,ur]
  |[a]=>simp[shp,ur]
  |[a,b]=>by_cases aA:n=0<;>by_cases ag:s=[]<;>simp[shp,ur,aA,ag]
  |_::_::_::_=>simp[shp,ur]
 ·match args with
  |[]=>simp[shp,k2,fc,aT,bz,b6,dO]
  |[a]=>simp[shp,fc,aT,bz,b6,dO]
  |[a,b]=>simp[shp,fc,aT,bz,b6,dO]
  |_::_::_::_=>simp[shp,fc,aT,bz,b6,dO]
set_option maxRecDepth 8000 in
theorem alx(m:Nat):∀(t:bG),t.sz≤m→bH al 124 [enc t] (.bool (shp t)):=by
 induction m with
 |zero=>intro t aN;cases t;simp[bG.sz]at aN
 |succ m bT=>
 rintro⟨k,n,s,args⟩ aN;generalize bh:shp ⟨k,n,s,args⟩=R;have dw:=akb k n s args;rw[bh]at dw;by_cases cc:k≠1∧k≠3∧n≠0
 ·rw[if_pos cc]at dw;obtain⟨aT,b6,n0⟩:=cc;have zn:(k !=1)=true:=by simp[aT]
  have zo:(k !=3)=true:=by simp[b6]
  have Ky:(n !=0)=true:=by simp[n0]
  subst dw;refine bf eC l9 mw fun aP=>?_;unfold lM;simp[bG.kind,bG.num,bG.name,bG.args];(with_reducible repeat' first|refine aj ?_|refine aD (dt _ _ _) ?_|refine aE (dt _ _ _) ?_|refine aD (gM _) ?_|refine aE (gM _) ?_|simp[zn,zo,Ky]);all_goals simp[bt,lA,aX,aZ,aW]
 rw[if_neg cc]at dw;have AN:(if k !=1 then k !=3 else false)=true→(n !=0)=false:=by intro h;simp at h⊢;exact Classical.byContradiction fun aA=>cc ⟨h.1,h.2,aA⟩
 by_cases b4:k≠2∧s≠[]
 ·rw[if_pos b4]at dw;have E5:(k !=2)=true:=by simp[b4.1]
  have LI:s.isEmpty=false:=by simp[b4.2]
  by_cases aT:k=1
  ·subst aT;subst dw;refine bf eC l9 mw fun aP=>?_;unfold lM;simp[bG.kind,bG.num,bG.name,bG.args];(with_reducible repeat' first|refine aj ?_|refine aD (dt _ _ _) ?_|refine aE (dt _ _ _) ?_|refine aD (gM _) ?_|refine aE (gM _) ?_|simp[LI]);all_goals simp[bt,lA,aX,aZ,aW]
  by_cases b6:k=3
  ·subst b6;subst dw;refine bf eC l9 mw fun aP=>?_;unfold lM;simp[bG.kind,bG.num,bG.name,bG.args];(with_reducible repeat' first|refine aj ?_|refine aD (dt _ _ _) ?_|refine aE (dt _ _ _) ?_|refine aD (gM _) ?_|refine aE (gM _) ?_|simp[LI]);all_goals simp[bt,lA,aX,aZ,aW]
  have zn:(k !=1)=true:=by simp[aT]
  have zo:(k !=3)=true:=by simp[b6]
  have Ky:(n !=0)=false:=AN (by simp[aT,b6]);subst dw;refine bf eC l9 mw fun aP=>?_;unfold lM;simp[bG.kind,bG.num,bG.name,bG.args];(with_reducible repeat' first|refine aj ?_|refine aD (dt _ _ _) ?_|refine aE (dt _ _ _) ?_|refine aD (gM _) ?_|refine aE (gM _) ?_|simp[zn,zo,Ky,E5,LI]);all_goals simp[bt,lA,aX,aZ,aW]
 rw[if_neg b4]at dw;by_cases fc:k=0
 ·subst fc;have n0:n=0:=by simpa using AN (by decide)
  have s0:s=[]:=Classical.byContradiction fun h=>b4 ⟨by omega,h⟩;subst n0 s0;by_cases a0:args=[];rotate_left
  ·rw[if_pos ⟨by omega,a0⟩]at dw;have ta:(0:Int)<args.length:=by have:=List.length_pos_iff.2 a0;omega
   subst dw;refine bf eC l9 mw fun aP=>?_;unfold lM;simp[bG.kind,bG.num,bG.name,bG.args];((with_reducible repeat' first|refine aj ?_|refine aD (dt _ _ _) ?_|refine aE (dt _ _ _) ?_|refine aD (gM _) ?_|refine aE (gM _) ?_|simp[Int.natCast_nonneg,ta]|((first|apply bP|apply bS|apply bR)<;>intro h<;>try simp at h))<;>(try exact cp));all_goals simp[bt,lA,aX,aZ,aW]
  rw[if_neg (by simp[a0])]at dw;subst a0;simp at dw;subst dw;refine bf eC l9 mw fun aP=>?_;unfold lM;simp[bG.kind,bG.num,bG.name,bG.args];(with_reducible repeat' first|refine aj ?_|refine aD (dt _ _ _) ?_|refine aE (dt _ _ _) ?_|refine aD (gM _) ?_|refine aE (gM _) ?_|simp[Int.natCast_nonneg]);all_goals simp[bt,lA,aX,aZ,aW]
 by_cases aT:k=1
 ·subst aT;have s0:s=[]:=Classical.byContradiction fun h=>b4 ⟨by omega,h⟩;subst s0;by_cases a0:args=[];rotate_left
  ·rw[if_pos ⟨by omega,a0⟩]at dw;have ta:(0:Int)<args.length:=by have:=List.length_pos_iff.2 a0;omega
   subst dw;refine bf eC l9 mw fun aP=>?_;unfold lM;simp[bG.kind,bG.num,bG.name,bG.args];((with_reducible repeat' first|refine aj ?_|refine aD (dt _ _ _) ?_|refine aE (dt _ _ _) ?_|refine aD (gM _) ?_|refine aE (gM _) ?_|simp[Int.natCast_nonneg,ta]|((first|apply bP|apply bS|apply bR)<;>intro h<;>try simp at h))<;>(try exact cp));all_goals simp[bt,lA,aX,aZ,aW]
  rw[if_neg (by simp[a0])]at dw;subst a0;simp at dw;subst dw;refine bf eC l9 mw fun aP=>?_;unfold lM;simp[bG.kind,bG.num,bG.name,bG.args];(with_reducible repeat' first|refine aj ?_|refine aD (dt _ _ _) ?_|refine aE (dt _ _ _) ?_|refine aD (gM _) ?_|refine aE (gM _) ?_|simp[Int.natCast_nonneg]);all_goals simp[bt,lA,aX,aZ,aW]
 by_cases bz:k=2
 ·subst bz;have n0:n=0:=by simpa using AN (by decide)
  subst n0;by_cases a0:args=[];rotate_left
  ·rw[if_pos ⟨by omega,a0⟩]at dw;have ta:(0:Int)<args.length:=by have:=List.length_pos_iff.2 a0;omega
   subst dw;refine bf eC l9 mw fun aP=>?_;unfold lM;simp[bG.kind,bG.num,bG.name,bG.args];((with_reducible repeat' first|refine aj ?_|refine aD (dt _ _ _) ?_|refine aE (dt _ _ _) ?_|refine aD (gM _) ?_|refine aE (gM _) ?_|simp[Int.natCast_nonneg,ta]|((first|apply bP|apply bS|apply bR)<;>intro h<;>try simp at h))<;>(try exact cp));all_goals simp[bt,lA,aX,aZ,aW]
  rw[if_neg (by simp[a0])]at dw;subst a0;simp at dw;subst dw;refine bf eC l9 mw fun aP=>?_;unfold lM;simp[bG.kind,bG.num,bG.name,bG.args];(with_reducible repeat' first|refine aj ?_|refine aD (dt _ _ _) ?_|refine aE (dt _ _ _) ?_|refine aD (gM _) ?_|refine aE (gM _) ?_|simp[Int.natCast_nonneg]);all_goals simp[bt,lA,aX,aZ,aW]
 by_cases b6:k=3
 ·subst b6;have s0:s=[]:=Classical.byContradiction fun h=>b4 ⟨by omega,h⟩;subst s0;by_cases a0:args=[];rotate_left
  ·rw[if_pos ⟨by omega,a0⟩]at dw;have ta:(0:Int)<args.length:=by have:=List.length_pos_iff.2 a0;omega
   subst dw;refine bf eC l9 mw fun aP=>?_;unfold lM;simp[bG.kind,bG.num,bG.name,bG.args];((with_reducible repeat' first|refine aj ?_|refine aD (dt _ _ _) ?_|refine aE (dt _ _ _) ?_|refine aD (gM _) ?_|refine aE (gM _) ?_|simp[Int.natCast_nonneg,ta]|((first|apply bP|apply bS|apply bR)<;>intro h<;>try simp at h))<;>(try exact cp));all_goals simp[bt,lA,aX,aZ,aW]
  rw[if_neg (by simp[a0])]at dw;subst a0;simp at dw;subst dw;refine bf eC l9 mw fun aP=>?_;unfold lM;simp[bG.kind,bG.num,bG.name,bG.args];(with_reducible repeat' first|refine aj ?_|refine aD (dt _ _ _) ?_|refine aE (dt _ _ _) ?_|refine aD (gM _) ?_|refine aE (gM _) ?_|simp[Int.natCast_nonneg]);all_goals simp[bt,lA,aX,aZ,aW]
 by_cases dO:k=4
 ·subst dO;have n0:n=0:=by simpa using AN (by decide)
  have s0:s=[]:=Classical.byContradiction fun h=>b4 ⟨by omega,h⟩;subst n0 s0;simp at dw;match args,dw with
  |[a,b],dw=>
   simp[bG.sz,bG.szL]at aN;have bF:=bT a (by omega);have ae:=bT b (by omega);simp only[ur]at dw;subst dw;refine bf eC l9 mw fun aP=>?_;unfold lM;simp[bG.kind,bG.num,bG.name,bG.args];cases q:shp a with
   |true=>rw[q]at bF;(with_reducible repeat' first|refine aj ?_|refine aD bF ?_|refine aE bF ?_|refine aD ae ?_|refine aE ae ?_|simp[Int.natCast_nonneg]);all_goals simp[bt,lA,aX,aZ,aW]
   |false=>rw[q]at bF;(with_reducible repeat' first|refine aj ?_|refine aD bF ?_|refine aE bF ?_|refine aD ae ?_|refine aE ae ?_|simp[Int.natCast_nonneg]);all_goals simp[bt,lA,aX,aZ,aW]
  |[],dw=>simp only[ur]at dw;subst dw;refine bf eC l9 mw fun aP=>?_;unfold lM;simp[bG.kind,bG.num,bG.name,bG.args];(with_reducible repeat' first|refine aj ?_|refine aD (dt _ _ _) ?_|refine aE (dt _ _ _) ?_|refine aD (gM _) ?_|refine aE (gM _) ?_|simp[Int.natCast_nonneg]);all_goals simp[bt,lA,aX,aZ,aW]
  |[_],dw=>simp only[ur]at dw;subst dw;refine bf eC l9 mw fun aP=>?_;unfold lM;simp[bG.kind,bG.num,bG.name,bG.args];(with_reducible repeat' first|refine aj ?_|refine aD (dt _ _ _) ?_|refine aE (dt _ _ _) ?_|refine aD (gM _) ?_|refine aE (gM _) ?_|simp[Int.natCast_nonneg]);all_goals simp[bt,lA,aX,aZ,aW]
  |_::_::_::l,dw=>
   simp only[ur]at dw;have au:((l.length:Int)+1+1+1==2)=false:=by simp;omega
   subst dw;refine bf eC l9 mw fun aP=>?_;unfold lM;simp[bG.kind,bG.num,bG.name,bG.args];(with_reducible repeat' first|refine aj ?_|refine aD (dt _ _ _) ?_|refine aE (dt _ _ _) ?_|refine aD (gM _) ?_|refine aE (gM _) ?_|simp[au]);all_goals simp[bt,lA,aX,aZ,aW]
 have n0:(n !=0)=false:=AN (by simp[aT,b6]);have s0:s=[]:=Classical.byContradiction fun h=>b4 ⟨bz,h⟩;subst s0;have SE:(k==0)=false:=by simp[fc]
 have zn:(k==1)=false:=by simp[aT]
 have E5:(k==2)=false:=by simp[bz]
 have zo:(k==3)=false:=by simp[b6]
 have SI:(k==4)=false:=by simp[dO]
 have SF:(k !=1)=true:=by simp[aT]
 have SG:(k !=2)=true:=by simp[bz]
 have SH:(k !=3)=true:=by simp[b6]
 have SJ:(k !=4)=true:=by simp[dO]
 by_cases a0:args=[]
 ·subst a0;simp[fc,aT,bz,b6,dO]at dw;subst dw;refine bf eC l9 mw fun aP=>?_;unfold lM;simp[bG.kind,bG.num,bG.name,bG.args];(with_reducible repeat' first|refine aj ?_|refine aD (dt _ _ _) ?_|refine aE (dt _ _ _) ?_|refine aD (gM _) ?_|refine aE (gM _) ?_|simp[SE,zn,E5,zo,SI,SF,SG,SH,SJ,n0]);all_goals simp[bt,lA,aX,aZ,aW]
 ·rw[if_pos ⟨dO,a0⟩]at dw;have ta:(0:Int)<args.length:=by have:=List.length_pos_iff.2 a0;omega
  subst dw;refine bf eC l9 mw fun aP=>?_;unfold lM;simp[bG.kind,bG.num,bG.name,bG.args];((with_reducible repeat' first|refine aj ?_|refine aD (dt _ _ _) ?_|refine aE (dt _ _ _) ?_|refine aD (gM _) ?_|refine aE (gM _) ?_|simp[ta,SE,zn,E5,zo,SI,SF,SG,SH,SJ,n0]|((first|apply bP|apply bS|apply bR)<;>intro h<;>try simp at h))<;>(try exact cp));all_goals simp[bt,lA,aX,aZ,aW]
theorem v7(t:bG):bH al 56 [enc t] (.bool t.fits):=by
 rw[ab2];have ax:=WC t 5000 (by omega) (by omega);have ag:=alx t.sz t (eR _);refine bf eC aby ahX fun aP=>?_;unfold O6;simp;by_cases q:la t 5000≤5000
 ·exact b2
 ·exact b2
def O3:C:=(aa [be 2 false] (.seq (aa [I 5 0,cl 6 5,bW 7 0] (ft 8 7 6 (.seq (.block 1 (aa [I 9 7,cu 10 2 5 7,aV 11 2 10,c1 (.alloc 4 none (.agg [.int .i64 0,.int .i64 0])),I 3 9,bL 2 4 11] (.seq (.drawn true 42 [I 12 3,aU 13 .gtr 12 0,I 14 13,b3 14 true 15 0,b3 14 true 16 3,aq 14 true (aU 17 .sub 16 1),aq 14 true (cu 18 2 15 17),aq 14 true (aF 19 0 1 18),aq 14 true (av 20 1 19),aq 14 true (aF 21 0 1 4),aq 14 true (av 22 1 21),aq 14 true (bm 23 .geq 20 22),dx 24 14 23,I 25 24,aq 25 false (aF 26 0 1 4),aq 25 false (av 27 1 26),aq 25 false (dp 28 75 [.t 27,(gd 0),(gd 100000)]),aq 25 false (cw 29 28),c6 30 25 29,I 31 30,aq 31 false (aF 32 1 1 4),aq 31 false (av 33 1 32),aq 31 false (aU 34 .neq 33 2),b3 31 false 35 34,aq 35 true (aF 36 1 1 4),aq 35 true (av 37 1 36),aq 35 true (aU 38 .neq 37 3),aq 31 false (dx 39 35 38),c6 40 31 39]) (aS 40 (aa [be 2 false] .ret) .skip)))) (.region [aU 41 .add 7 1,I 7 41])))) (aa [be 2 true] .ret)))
@[simp] def CK:List bs:=[.tmp 2]
def O4:C:=(aa [be 2 false] (.seq (aa [I 5 0,cl 6 5,bW 7 0] (ft 8 7 6 (.seq (.block 1 (aa [I 9 7,cu 10 2 5 7,aV 11 2 10,c1 (.alloc 4 none (.agg [.int .i64 0,.str []])),I 3 9,bL 2 4 11] (.seq (.drawn true 37 [I 12 3,aU 13 .gtr 12 0,I 14 13,b3 14 true 15 0,b3 14 true 16 3,aq 14 true (aU 17 .sub 16 1),aq 14 true (cu 18 2 15 17),aq 14 true (aV 19 2 18),aq 14 true (aV 20 2 4),aq 14 true (ca 21 147 19 20),aq 14 true (cw 22 21),dx 23 14 22,I 24 23,aq 24 false (aF 25 0 1 4),aq 24 false (av 26 1 25),aq 24 false (dp 27 75 [.t 26,(gd 0),(gd 100000)]),aq 24 false (cw 28 27),c6 29 24 28,I 30 29,aq 30 false (aF 31 1 1 4),aq 30 false (av 32 1 31),aq 30 false (cE 33 119 32),aq 30 false (cw 34 33),c6 35 30 34]) (aS 35 (aa [be 2 false] .ret) .skip)))) (.region [aU 36 .add 7 1,I 7 36])))) (aa [be 2 true] .ret)))
@[simp] def zX:List bs:=[.tmp 2]
def DU:C:=(aa [cz 2 0,cz 3 1,be 4 false] (aa [aF 5 0 1 2,av 6 1 5,aF 7 0 1 3,av 8 1 7,bm 9 .lss 6 8,I 10 9,aq 10 false (aF 11 0 1 2),aq 10 false (av 12 1 11),aq 10 false (aF 13 0 1 3),aq 10 false (av 14 1 13),aq 10 false (bm 15 .eql 12 14),b3 10 false 16 15,aq 16 true (aF 17 1 1 2),aq 16 true (av 18 1 17),aq 16 true (aF 19 1 1 3),aq 16 true (av 20 1 19),aq 16 true (bm 21 .lss 18 20),aq 10 false (dx 22 16 21),c6 23 10 22,I 4 23] .ret))
@[simp] def ajI:List bs:=[.tmp 4]
def Pt:C:=(aa [eE 4 2,be 5 false] (aa [ek 10 2 98 [],I 6 10] (aa [be 7 true] (.seq (.seq (.fg false 6 (.region [I 11 1,cl 12 11,bW 13 0])) (ft 14 13 12 (.seq (.block 1 (aa [cu 15 2 11 13,aV 16 2 15,c1 (.alloc 9 none (.agg [.int .i64 0,.int .i64 0])),bL 2 9 16] (.seq (.drawn true 33 [I 18 6,I 19 0,aF 20 0 1 9,av 21 1 20,cE 22 114 21,ca 23 201 19 22,aF 24 1 1 9,av 25 1 24,dp 26 151 [.t 18,.t 23,.t 25],I 17 26,cD 27 0 17,cD 28 1 17,I 6 27,I 7 28]) (aa [I 29 7,cw 30 29] (aS 30 (aa [eE 4 2,be 5 false] .ret) .skip))))) (.region [aU 31 .add 13 1,I 13 31])))) (aa [I 32 6,I 4 32,be 5 true] .ret)))))
@[simp] def Lp:List bs:=[.tmp 4,.tmp 5]
def Pu:C:=(aa [eE 4 2,be 5 false] (aa [ek 10 2 100 [],I 6 10] (aa [be 7 true] (.seq (.seq (.fg false 6 (.region [I 11 1,cl 12 11,bW 13 0])) (ft 14 13 12 (.seq (.block 1 (aa [cu 15 2 11 13,aV 16 2 15,c1 (.alloc 9 none (.agg [.int .i64 0,.str []])),bL 2 9 16] (.seq (.drawn true 33 [I 18 6,I 19 0,aF 20 0 1 9,av 21 1 20,cE 22 114 21,ca 23 201 19 22,aF 24 1 1 9,av 25 1 24,dp 26 181 [.t 18,.t 23,.t 25],I 17 26,cD 27 0 17,cD 28 1 17,I 6 27,I 7 28]) (aa [I 29 7,cw 30 29] (aS 30 (aa [eE 4 2,be 5 false] .ret) .skip))))) (.region [aU 31 .add 13 1,I 13 31])))) (aa [I 32 6,I 4 32,be 5 true] .ret)))))
@[simp] def Lr:List bs:=[.tmp 4,.tmp 5]
def yw:C:=(aa [cz 4 1,eE 6 2,be 7 false] (.seq (aa [aF 10 0 1 4,av 11 1 10,aU 12 .neq 11 1] (aS 12 (.seq (.drawn true 73 [I 13 0,aF 14 0 1 4,av 15 1 14,I 16 2,bm 17 .eql 15 16,I 6 13,I 7 17]) .ret) .skip)) (aa [bW 8 0] (.seq (.block 0 (.loop (.seq (.seq (.drawn true 73 [I 18 8,I 19 0,cl 20 19,bm 21 .lss 18 20,I 22 21,b3 22 true 23 0,b3 22 true 24 8,aq 22 true (cu 25 2 23 24),aq 22 true (aF 26 0 1 25),aq 22 true (av 27 1 26),aq 22 true (aF 28 1 1 4),aq 22 true (av 29 1 28),aq 22 true (bm 30 .lss 27 29),dx 31 22 30]) (aS 31 .skip (.exit 0))) (.block 1 (.region [I 32 8,aU 33 .add 32 1,I 8 33]))))) (.seq (.seq (.drawn true 73 [I 34 8,I 35 0,cl 36 35,bm 37 .lss 34 36,I 38 37,b3 38 true 39 0,b3 38 true 40 8,aq 38 true (cu 41 2 39 40),aq 38 true (aF 42 0 1 41),aq 38 true (av 43 1 42),aq 38 true (aF 44 1 1 4),aq 38 true (av 45 1 44),aq 38 true (bm 46 .eql 43 45),dx 47 38 46]) (aS 47 (.seq (.drawn true 73 [I 48 0,I 49 0,I 50 8,cu 51 2 49 50,aF 52 1 1 51,av 53 1 52,I 54 2,bm 55 .eql 53 54,I 6 48,I 7 55]) .ret) .skip)) (aa [ek 56 2 98 [],I 57 0,I 58 8,b5 59 (.lsl 2 (.t 57) none (some (.t 58))),gO 60 2 98 56 59,I 9 60] (aa [I 61 9,aF 62 1 1 4,av 63 1 62,I 64 2,b5 65 (.build [.int .i64 0,.int .i64 0] [(0,1,(.t 63)),(1,1,(.t 64))]),ek 66 2 98 [.t 65],gO 67 2 98 61 66,I 9 67] (aa [I 68 9,I 69 0,I 70 8,b5 71 (.lsl 2 (.t 69) (some (.t 70)) none),gO 72 2 98 68 71,I 6 72,be 7 true] .ret))))))))
@[simp] def vK:List bs:=[.tmp 6,.tmp 7]
def HR:C:=(aa [cz 4 1,eE 6 2,be 7 false] (.seq (aa [aV 13 4 4,I 14 2,ca 15 210 13 14] (aS 15 (aa [eE 6 2,be 7 false] .ret) .skip)) (.seq (aa [aV 16 4 4,dp 17 58 [.t 16,(.c (.slice 1 .nil []))],cl 18 17,bW 19 0] (ft 20 19 18 (.seq (.block 1 (aa [cu 21 1 17 19,av 22 1 21,I 9 22] (aa [I 23 9,I 24 2,b5 25 (.build [.int .i64 0,.str []] [(0,1,(.t 23)),(1,1,(.t 24))]),c1 (.alloc 10 none (.agg [.int .i64 0,.str []])),bL 2 10 25] (aa [bW 11 0] (.seq (.block 2 (.loop (.seq (.seq (.drawn true 68 [I 26 11,I 27 0,cl 28 27,bm 29 .lss 26 28,I 30 29,b3 30 true 31 0,b3 30 true 32 11,aq 30 true (cu 33 2 31 32),aq 30 true (aV 34 2 33),aq 30 true (aV 35 2 10),aq 30 true (ca 36 147 34 35),dx 37 30 36]) (aS 37 .skip (.exit 2))) (.block 3 (.region [I 38 11,aU 39 .add 38 1,I 11 39]))))) (.seq (.drawn true 68 [I 40 11,I 41 0,cl 42 41,bm 43 .eql 40 42,I 44 43,aq 44 false (aV 45 2 10),b3 44 false 46 0,b3 44 false 47 11,aq 44 false (cu 48 2 46 47),aq 44 false (aV 49 2 48),aq 44 false (ca 50 147 45 49),c6 51 44 50]) (aS 51 (aa [ek 52 2 100 [],I 53 0,I 54 11,b5 55 (.lsl 2 (.t 53) none (some (.t 54))),gO 56 2 100 52 55,I 12 56] (aa [I 57 12,aV 58 2 10,ek 59 2 100 [.t 58],gO 60 2 100 57 59,I 12 60] (.region [I 61 12,I 62 0,I 63 11,b5 64 (.lsl 2 (.t 62) (some (.t 63)) none),gO 65 2 100 61 64,I 0 65]))) .skip))))))) (.fg false 0 (.region [aU 66 .add 19 1,I 19 66]))))) (aa [I 67 0,I 6 67,be 7 true] .ret))))
@[simp] def Lq:List bs:=[.tmp 6,.tmp 7]
def yv:C:=(aa [cz 2 0,be 4 false] (.seq (aa [aF 7 3 1 2,av 8 1 7,cl 9 8,bW 10 0] (ft 11 10 9 (.seq (.block 1 (aa [cu 12 4 8 10,aV 13 4 12,dj 6 dP,bL 4 6 13] (aa [aV 14 4 6,I 15 1,ca 16 210 14 15] (aS 16 (aa [be 4 true] .ret) .skip)))) (.region [aU 17 .add 10 1,I 10 17])))) (aa [aF 18 0 1 2,av 19 1 18,aU 20 .eql 19 2,I 21 20,aq 21 true (aF 22 2 1 2),aq 21 true (av 23 1 22),b3 21 true 24 1,aq 21 true (bm 25 .eql 23 24),dx 26 21 25,I 4 26] .ret)))
@[simp] def vJ:List bs:=[.tmp 4]
def uA:List (Nat×dB):=[
 (3,⟨1,8,.int .i64,.int .i64 0⟩),
 (9,⟨1,16,.str,.str []⟩),
 (27,⟨1,24,.slice 30,.slice 4 .nil []⟩),
 (30,⟨4,56,.struct [(0,3),(1,3),(2,9),(3,27)],.agg [.int .i64 0,.int .i64 0,.str [],.slice 4 .nil []]⟩),
 (48,⟨1,24,.slice 98,.slice 2 .nil []⟩),
 (49,⟨1,24,.slice 100,.slice 2 .nil []⟩),
 (76,⟨1,24,.slice 3,.slice 1 .nil []⟩),
 (98,⟨2,16,.struct [(0,3),(1,3)],.agg [.int .i64 0,.int .i64 0]⟩),
 (100,⟨2,24,.struct [(0,3),(1,9)],.agg [.int .i64 0,.str []]⟩)]
theorem l2:fN al uA=true:=by kernel_rfl
theorem ahU:bY uA O3 CK 1 Tryz.f78=true:=by kernel_rfl
theorem abv:al.funcs[(78:Nat)]? =some Tryz.f78:=Tryz.func78
theorem ahV:bY uA O4 zX 1 Tryz.f79=true:=by kernel_rfl
theorem abw:al.funcs[(79:Nat)]? =some Tryz.f79:=Tryz.func79
theorem KS:bY uA DU ajI 2 Tryz.f147=true:=by kernel_rfl
theorem Iv:al.funcs[(147:Nat)]? =some Tryz.f147:=Tryz.func147
theorem aik:bY uA Pt Lp 2 Tryz.f149=true:=by kernel_rfl
theorem abU:al.funcs[(149:Nat)]? =some Tryz.f149:=Tryz.func149
theorem ail:bY uA Pu Lr 2 Tryz.f150=true:=by kernel_rfl
theorem abV:al.funcs[(150:Nat)]? =some Tryz.f150:=Tryz.func150
theorem Cy:bY uA yw vK 3 Tryz.f151=true:=by kernel_rfl
theorem A8:al.funcs[(151:Nat)]? =some Tryz.f151:=Tryz.func151
theorem Uj:bY uA HR Lq 3 Tryz.f181=true:=by kernel_rfl
theorem Qv:al.funcs[(181:Nat)]? =some Tryz.f181:=Tryz.func181
theorem Cx:bY uA yv vJ 2 Tryz.f210=true:=by kernel_rfl
theorem A7:al.funcs[(210:Nat)]? =some Tryz.f210:=Tryz.func210
end Go.Proofs.YtahlgcidhnjlbaaGreat
namespace Go.Proofs.YtahlgcidhnjlbaaGreat
open Go Go.Pv
open Classical in
theorem al0(l:List bK):bH al 78 [.slice 2 .no (l.map bK.e)] (.bool (decide (iU l))):=by
 generalize bh:decide (iU l)=R;refine bf l2 abv ahU fun aP=>?_;unfold O3;have eO:l.length≤68719476736:=by simp[eB,ec,et,lim]at aP;omega
 simp;refine dW [0,5,6] (fun i (_:Unit)=>[(7,.int .i64 i)]) l.length (fun i _=> ∀j,j<i→h0 lX mV l j) () b0 (fun k ad=>by omega) (fun _ af _=>?_) (fun i _ hi af _=>?_)
 ·have:R=true:=by rw[←bh,fH,E9];exact af
  rw[this];exact b2
 ·obtain⟨b,ae⟩:∃b,l[i]? =some b:=⟨_,cf hi⟩;obtain⟨c,ax⟩:∃c,l[i-1]? =some c:=⟨_,cf (by omega)⟩;have cK:∀h,(l[i]'h)=b:=fun h=>by rw[cf hi]at ae;exact fB ae
  have di:¬h0 lX mV l i→R=false:=fun h=>by rw[←bh,hE];exact fun cr=>h (E9.1 cr i hi)
  have dd:h0 lX mV l i→∀j,j<i+1→h0 lX mV l j:=fun h j jf=>by
   by_cases e:j=i
   ·rw[e];exact h
   ·exact af j (by omega)
  have oV:h0 lX mV l i→lX b:=fun h=>(h b ae).1;have bC:h0 lX mV l i→0<i→c.v<b.v:=fun h bA=>(h b ae).2 c bA ax;have eW:lX b→(0<i→c.v<b.v)→h0 lX mV l i:=fun J U bO fR=>by rw[ae]at fR;cases fR;exact⟨J,fun cm bA hp=>by rw[ax]at hp;cases hp;exact U bA⟩
  unfold lX at oV eW;by_cases g0:0<i∧¬c.v<b.v
  ·rw[di (fun h=>g0.2 (bC h g0.1))];have anS:=g0.1;have uW:b.v≤c.v:=by omega
   exact b2
  have aQ:(decide (0<i)&&decide (b.v≤c.v))=false:=by simp;intro h;by_cases cO:c.v<b.v;exact cO;exact absurd ⟨h,cO⟩ g0
  by_cases g1:0≤b.v∧b.v≤100000;rotate_left
  ·rw[di (fun h=>g1 (oV h).1)];have kT:decide (0≤b.v∧b.v≤100000)=false:=by simp only[hE];exact g1
   by_cases bA:0<i
   ·have uW:¬b.v≤c.v:=by simp[bA]at aQ;omega
    simp[hi,cK,ax];(with_reducible repeat' first|refine aj ?_|refine aD (dt _ _ _) ?_|refine aE (dt _ _ _) ?_|simp[cK,ax,hi,bA,uW,kT,g1]);all_goals simp[bt,CK,aX,aZ,aW]
   ·obtain rfl:i=0:=by omega
    simp[hi,cK,ax];(with_reducible repeat' first|refine aj ?_|refine aD (dt _ _ _) ?_|refine aE (dt _ _ _) ?_|simp[cK,ax,hi,kT,g1]);all_goals simp[bt,CK,aX,aZ,aW]
  have kT:decide (0≤b.v∧b.v≤100000)=true:=by simp only[fH];exact g1
  by_cases g2:b.k=2∨b.k=3;rotate_left
  ·rw[di (fun h=>g2 (oV h).2)];have g21:(b.k !=2)=true:=by simp;omega
   have g22:(b.k !=3)=true:=by simp;omega
   by_cases bA:0<i
   ·have uW:¬b.v≤c.v:=by simp[bA]at aQ;omega
    simp[hi,cK,ax];(with_reducible repeat' first|refine aj ?_|refine aD (dt _ _ _) ?_|refine aE (dt _ _ _) ?_|simp[cK,ax,hi,bA,uW,kT,g1,g21,g22]);all_goals simp[bt,CK,aX,aZ,aW]
   ·obtain rfl:i=0:=by omega
    simp[hi,cK,ax];(with_reducible repeat' first|refine aj ?_|refine aD (dt _ _ _) ?_|refine aE (dt _ _ _) ?_|simp[cK,ax,hi,kT,g1,g21,g22]);all_goals simp[bt,CK,aX,aZ,aW]
  have dD:=dd (eW ⟨g1,g2⟩ fun bA=>by simp[bA]at aQ;omega);have ace:((b.k !=2)=false)∨((b.k !=2)=true∧(b.k !=3)=false):=by
   rcases g2 with h|h
   ·left;simp[h]
   ·right;simp[h]
  rcases ace with g21|⟨g21,g22⟩
  ·by_cases bA:0<i
   ·have uW:¬b.v≤c.v:=by simp[bA]at aQ;omega
    simp[hi,cK,ax];(with_reducible repeat' first|refine aj ?_|refine aD (dt _ _ _) ?_|refine aE (dt _ _ _) ?_|simp[cK,ax,hi,bA,uW,kT,g1,g21]);all_goals exact bN.rng () hi dD b0
   ·obtain rfl:i=0:=by omega
    simp[hi,cK,ax];(with_reducible repeat' first|refine aj ?_|refine aD (dt _ _ _) ?_|refine aE (dt _ _ _) ?_|simp[cK,ax,hi,kT,g1,g21]);all_goals exact bN.rng () hi dD b0
  ·by_cases bA:0<i
   ·have uW:¬b.v≤c.v:=by simp[bA]at aQ;omega
    simp[hi,cK,ax];(with_reducible repeat' first|refine aj ?_|refine aD (dt _ _ _) ?_|refine aE (dt _ _ _) ?_|simp[cK,ax,hi,bA,uW,kT,g1,g21,g22]);all_goals exact bN.rng () hi dD b0
   ·obtain rfl:i=0:=by omega
    simp[hi,cK,ax];(with_reducible repeat' first|refine aj ?_|refine aD (dt _ _ _) ?_|refine aE (dt _ _ _) ?_|simp[cK,ax,hi,kT,g1,g21,g22]);all_goals exact bN.rng () hi dD b0
theorem lE(a b:bk):bH al 147 [a.e,b.e] (.bool (hA e9 a b)):=by
 rw[←TT];have bh:sD a b=(decide (a.v<b.v)||(a.v==b.v&&hk a.s b.s)):=rfl;rcases Int.lt_trichotomy a.v b.v with h|h|h
 ·have:sD a b=true:=by rw[bh];simp[h]
  rw[this];refine bf l2 Iv KS fun aP=>?_;unfold DU;exact b2
 ·have J:¬a.v<b.v:=by omega
  have U:(a.v==b.v)=true:=by simp[h]
  have:sD a b=hk a.s b.s:=by rw[bh];simp[h]
  rw[this];refine bf l2 Iv KS fun aP=>?_;unfold DU;exact b2
 ·have J:¬a.v<b.v:=by omega
  have U:¬a.v=b.v:=by omega
  have ao:(a.v==b.v)=false:=by simp[U]
  have:sD a b=false:=by rw[bh];simp[J,U]
  rw[this];refine bf l2 Iv KS fun aP=>?_;unfold DU;exact b2
end Go.Proofs.YtahlgcidhnjlbaaGreat
namespace Go.Proofs.YtahlgcidhnjlbaaGreat
open Go Go.Pv
def SB(l:List cT)(i:Nat)(_:Unit):Prop:= ∀j,j<i→zH l j
open Classical in
theorem alB(l:List cT):bH al 145 [.slice 5 .no (l.map cT.e)] (.bool (decide (yj l))):=by
 generalize bh:decide (yj l)=R;refine bf eC abM aib fun aP=>?_;unfold Pl;have eO:l.length≤68719476736:=by simp[eB,ec,et,lim]at aP;omega
 simp;refine dW [0,5,6] (fun i (_:Unit)=>[(7,.int .i64 i)]) l.length (SB l) () b0 (fun k ad=>by omega) (fun _ af _=>?_) (fun i _ hi af _=>?_)
 ·have:R=decide (l.length≤400):=by rw[←bh,decide_eq_decide];exact⟨fun h=>h.1,fun h=>⟨h,fun j jf=>af j jf⟩⟩
  rw[this];simp;(with_reducible repeat' first|refine aj ?_|simp);simp[bt,Ln,aX,aZ,aW];all_goals(first|done|omega|(simp;done)|(simp;omega))
 ·obtain⟨b,ae⟩:∃b,l[i]? =some b:=⟨_,cf hi⟩;obtain⟨c,ax⟩:∃c,l[i-1]? =some c:=⟨_,cf (by omega)⟩;have cK:∀h,(l[i]'h)=b:=fun h=>by rw[cf hi]at ae;exact fB ae
  have di:¬zH l i→R=false:=fun h=>by rw[←bh,hE];exact fun cr=>h (cr.2 i hi)
  have dd:zH l i→SB l (i+1) ():=fun h j jf=>by
   by_cases e:j=i
   ·rw[e];exact h
   ·exact af j (by omega)
  simp[hi,cK,ax];((with_reducible repeat' first|refine aj ?_|refine aD (dt _ _ _) ?_|refine aE (dt _ _ _) ?_|refine aD (v7 _) ?_|refine aE (v7 _) ?_|simp[cK,ax,hi]|((first|apply bP|apply bS|apply bR)<;>intro h<;>try simp at h))<;>(try exact cp));all_goals first
   |(have aA:¬zH l i:=by(intro cr;have J:=cr b ae;have U:=J.2.1 c;have ao:=J.2.2;first|omega|(have a8:=U (by omega) ax;omega)|(rw[ao]at h;cases h)|(simp_all;done)|(simp_all;omega))
     rw[di aA]
     simp[bt,Ln,aX,aZ,aW]
     done)
   |(refine bN.rng () hi (dd fun bO fR=>?_) ?_
     ·rw[ae]at fR;cases fR
      refine⟨?_,fun cm bA hp=>?_,?_⟩
      ·omega
      ·rw[ax]at hp;cases hp;omega
      ·first|assumption|simp_all
     ·exact b0)
def mm(n:Int):List Int→List Int
 |[]=>[n]
 |c::l=>if c<n then c::mm n l else if c=n then c::l else n::c::l
def sW(l:List Int):Prop:=l.Pairwise (· < ·)
theorem Su(n:Int):∀(l:List Int) (k:Nat),(∀i c,i<k→l[i]? =some c→c<n)→(∀c,l[k]? =some c→n≤c)→k≤l.length→mm n l=if l[k]? =some n then l else l.take k++n::l.drop k
 |[],k,_,_,ad=>by simp at ad;subst ad;rfl
 |c::l,0,_,U,_=>by
  have:=U c rfl;by_cases e:c=n
  ·simp[mm,e]
  ·have ao:¬c<n:=by omega
   simp[mm,ao,e]
 |c::l,k+1,J,U,ad=>by have bA:=J 0 c (by omega) rfl;simp only[mm,if_pos bA,List.take_succ_cons,List.drop_succ_cons,bU,List.getElem?_cons_succ];rw[Su n l k (fun i d hi aQ=>J (i+1) d (by omega) (by simpa using aQ)) (fun d aQ=>U d (by simpa using aQ)) (by simpa using ad)];split<;>rfl
theorem Kp{n m:Int}:∀{l:List Int},m∈mm n l↔m=n∨m∈l
 |[]=>by simp[mm]
 |c::l=>by
  simp only[mm];split
  ·simp only[fU,Kp (l:=l)];constructor
   ·rintro(h|h|h)
    ·exact .inr (.inl h)
    ·exact .inl h
    ·exact .inr (.inr h)
   ·rintro(h|h|h)
    ·exact .inr (.inl h)
    ·exact .inl h
    ·exact .inr (.inr h)
  ·split
   ·rename_i h;subst h;simp
   ·simp
theorem St{n:Int}:∀{l:List Int},sW l→sW (mm n l)
 |[],_=>by simp[mm,sW]
 |c::l,h=>by
  obtain⟨J,U⟩:=mC.1 h;simp only[mm];split
  ·rename_i ao;refine mC.2 ⟨fun m hm=>?_,St U⟩;rcases Kp.1 hm with rfl|hm
   ·exact ao
   ·exact J m hm
  ·split
   ·exact h
   ·refine mC.2 ⟨fun m hm=>?_,h⟩;rcases fU.1 hm with rfl|hm
    ·omega
    ·have:=J m hm;omega
theorem Sv(n:Int):∀l:List Int,(mm n l).length≤l.length+1
 |[]=>by simp[mm]
 |c::l=>by
  have:=Sv n l;simp only[mm];split
  ·simp;omega
  ·split<;>simp
theorem BZ(l:List Int)(i:Nat):(ep l)[i]? =(l[i]?).map (ah.int .i64):=by simp[ep]
theorem eX(l:List Int):(ep l).length=l.length:=by simp[ep]
theorem x4:∀l:List Int,cY (ep l)=ep l
 |[]=>by simp[ep,cY]
 |a::l=>by have:=x4 l;simp only[ep,gE,cY,ds]at this⊢;rw[this]
theorem E0(l:List Int)(n:Int)(k:Nat):cY (lG k (ep l)++ah.int .i64 n::nh k (lG l.length (ep l)))=ep (lG k l++n::nh k l):=by
 have e:lG l.length (ep l)=ep l:=hl (by simp[ep]);have aB:lG k (ep l)++ah.int .i64 n::nh k (ep l)=ep (lG k l++n::nh k l):=by simp only[ep,List.map_append,gE,List.map_take,List.map_drop]
 rw[e,aB];exact x4 _
theorem alw(l:List Int)(n:Int)(au:l.length≤1000000)(bF:sW l):bH al 126 [.slice 1 .no (ep l),.int .i64 n] (.slice 1 .no (ep (mm n l))):=by
 refine bf eC abC ah1 fun aP=>?_;unfold Pa;simp;refine uS [0,1] (fun(k:Nat)=>[(5,.int .i64 k)]) (fun k=>k) (fun k=>k≤l.length∧∀c,l[k]? =some c→n≤c) l.length b0 ⟨by omega,fun c h=>by simp at h⟩ (fun k af _=>?_);obtain⟨ad,af⟩:=af;have u3:(∀c,0<k→l[k-1]? =some c→c<n)→mm n l=if l[k]? =some n then l else l.take k++n::l.drop k:=fun h=>Su n l k (fun i c hi ax=>by
  obtain⟨d,aQ⟩:∃d,l[k-1]? =some d:=⟨_,cf (by omega)⟩;have J:=h d (by omega) aQ;rcases Nat.lt_or_ge i (k-1)with U|U
  ·have se:=(fL.1 ax);have me:=(fL.1 aQ);have:=pg.1 bF i (k-1) se.1 me.1 U;rw[se.2,me.2]at this;omega
  ·have:i=k-1:=by omega
   subst this;rw[aQ]at ax;cases ax;exact J) af ad
 have ll:∀c,l[k]? =some c→∀h,((ep l)[k]'h)= .int .i64 c:=fun c h cr=>by have:=BZ l k;rw[h,cf cr]at this;exact fB this
 have dD:(0<k→∃d,l[k-1]? =some d∧d<n)→∀P:Prop,(mm n l=(if l[k]? =some n then l else l.take k++n::l.drop k)→P)→P:=fun h P adb=>adb (u3 fun c bA ax=>by obtain⟨d,aQ,J⟩:=h bA;rw[aQ]at ax;cases ax;exact J)
 rcases Nat.eq_zero_or_pos k with bA|fm
 ·have bD:decide ((0:Int)<k)=false:=by simp;omega
  refine dD (fun h=>by omega) _ fun e=>?_;by_cases ih:k<l.length
  ·obtain⟨c,ax⟩:∃c,l[k]? =some c:=⟨_,cf ih⟩;have hp:=ll c ax;rw[ax]at e;by_cases q:c=n
   ·have gx:(c==n)=true:=by simp[q]
    rw[if_pos (by rw[q])]at e;rw[e];simp[bD,ih];((with_reducible repeat' first|refine aj ?_|simp[bD,ih,hp,gx]|((first|apply bP|apply bS|apply bR)<;>intro h<;>try simp at h))<;>(try exact cp));all_goals simp[bt,xP,aX,aZ,aW]
   ·have gx:(c==n)=false:=by simp[q]
    rw[if_neg (by simp[q])]at e;rw[e];simp[bD,ih];((with_reducible repeat' first|refine aj ?_|simp[bD,ih,hp,gx]|((first|apply bP|apply bS|apply bR)<;>intro h<;>try simp at h))<;>(try exact cp));all_goals simp[bt,xP,aX,aZ,aW]
    all_goals exact E0 l n k
  ·rw[p1 (by omega)]at e;simp only[reduceCtorEq,if_false]at e;rw[e];simp[bD,ih];((with_reducible repeat' first|refine aj ?_|simp[bD,ih]|((first|apply bP|apply bS|apply bR)<;>intro h<;>try simp at h))<;>(try exact cp));all_goals simp[bt,xP,aX,aZ,aW]
   all_goals exact E0 l n k
 ·obtain⟨d,aQ⟩:∃d,l[k-1]? =some d:=⟨_,cf (by omega)⟩;have ak:((k:Int)-1).toNat=k-1:=by omega
  have aB:∀h,((ep l)[k-1]'h)= .int .i64 d:=fun cr=>by have:=BZ l (k-1);rw[aQ,cf cr]at this;exact fB this
  have iD:(0:Int)<k:=by omega
  have lS:k-1<l.length:=by omega
  by_cases ae:n≤d
  ·simp[fm,iD,ak,aB,ae,lS];(with_reducible repeat' first|refine aj ?_|simp[fm,iD,ak,aB,ae,lS]);refine bN.whl (k-1) (by omega) ⟨by omega,fun c ax=>by rw[aQ]at ax;cases ax;exact ae⟩ ?_;have bj:((k-1:Nat):Int)=(k:Int)-1:=by omega
   simp[bj];exact b0
  ·refine dD (fun _=>⟨d,aQ,by omega⟩) _ fun e=>?_;by_cases ih:k<l.length
   ·obtain⟨c,ax⟩:∃c,l[k]? =some c:=⟨_,cf ih⟩;have hp:=ll c ax;rw[ax]at e;by_cases q:c=n
    ·have gx:(c==n)=true:=by simp[q]
     rw[if_pos (by rw[q])]at e;rw[e];simp[fm,iD,ak,aB,ae,lS,ih];((with_reducible repeat' first|refine aj ?_|simp[fm,iD,ak,aB,ae,lS,ih,hp,gx]|((first|apply bP|apply bS|apply bR)<;>intro h<;>try simp at h))<;>(try exact cp));all_goals simp[bt,xP,aX,aZ,aW]
    ·have gx:(c==n)=false:=by simp[q]
     rw[if_neg (by simp[q])]at e;rw[e];simp[fm,iD,ak,aB,ae,lS,ih];(with_reducible repeat' first|refine aj ?_|simp[fm,iD,ak,aB,ae,lS,ih,hp,gx]);all_goals simp[bt,xP,aX,aZ,aW]
     all_goals exact E0 l n k
   ·rw[p1 (by omega)]at e;simp only[reduceCtorEq,if_false]at e;rw[e];simp[fm,iD,ak,aB,ae,lS,ih];(with_reducible repeat' first|refine aj ?_|simp[fm,iD,ak,aB,ae,lS,ih]);all_goals simp[bt,xP,aX,aZ,aW]
    all_goals exact E0 l n k
def il:T→List Int→List Int
 | .var n,l=>mm n l
 | .pair a b,l=>il b (il a l)
 |_,l=>l
theorem Mw:∀(t:T) {l:List Int},sW l→sW (il t l)
 | .var _,_,h=>St h
 | .pair a b,_,h=>Mw b (Mw a h)
 | .nil,_,h=>h
 | .sym _,_,h=>h
 | .num _,_,h=>h
theorem Fw{m:Int}:∀(t:T) {l:List Int},m∈il t l↔t.occ m=true∨m∈l
 | .var n,l=>by simp only[il,Kp,T.occ,dL];constructor<;>rintro(h|h)<;>first|exact .inr h|exact .inl h.symm
 | .pair a b,l=>by
  simp only[il,Fw b,Fw a,T.occ,mB];constructor
  ·rintro(h|h|h)
   ·exact .inl (.inr h)
   ·exact .inl (.inl h)
   ·exact .inr h
  ·rintro((h|h)|h)
   ·exact .inr (.inl h)
   ·exact .inl h
   ·exact .inr (.inr h)
 | .nil,l=>by simp[il,T.occ]
 | .sym _,l=>by simp[il,T.occ]
 | .num _,l=>by simp[il,T.occ]
theorem Dd:∀(t:T) (l:List Int),(il t l).length≤l.length+t.size
 | .var n,l=>by have:=Sv n l;simp only[il,T.size];omega
 | .pair a b,l=>by have J:=Dd a l;have U:=Dd b (il a l);simp only[il,T.size];omega
 | .nil,l=>by simp[il]
 | .sym _,l=>by simp[il]
 | .num _,l=>by simp[il]
theorem GR:∀(t:T) (l:List Int),l.length+t.size≤1000000→sW l→bH al 58 [t.e,.slice 1 .no (ep l)] (.slice 1 .no (ep (il t l)))
 | .var n,l,au,bF=>by
  simp only[T.size]at au;have key:=alw l n (by omega) bF;refine bf eC A6 Cw fun aP=>?_;unfold yu;simp;(with_reducible repeat' first|refine aj ?_|refine aD key ?_|refine aE key ?_|simp);all_goals simp[bt,zZ,aX,aZ,aW]
  all_goals simp[il,x4]
 | .pair a b,l,au,bF=>by
  simp only[T.size]at au;have J5:=Dd a l;have aT:=GR a l (by omega) bF;have bz:=GR b (il a l) (by omega) (Mw a bF);refine bf eC A6 Cw fun aP=>?_;unfold yu;simp;refine dW [15,16] (fun i (_:Unit)=>[(1,.slice 1 .no (ep (if i=0 then l else if i=1 then il a l else il b (il a l)))),(17,.int .i64 i)]) 2 (fun _ _=>True) () b0 trivial (fun _ _ _=>?_) (fun i _ hi _ _=>?_)
  ·simp;(with_reducible repeat' first|refine aj ?_|simp);simp[bt,zZ,aX,aZ,aW];simp[il,x4]
  ·rcases(by omega:i=0∨i=1)with rfl|rfl
   ·simp;((with_reducible repeat' first|refine aj ?_|refine aD aT ?_|refine aE aT ?_|simp|((first|apply bP|apply bS|apply bR)<;>intro h<;>try simp at h))<;>(try exact cp));exact bN.rng () hi trivial b0
   ·simp;((with_reducible repeat' first|refine aj ?_|refine aD bz ?_|refine aE bz ?_|simp|((first|apply bP|apply bS|apply bR)<;>intro h<;>try simp at h))<;>(try exact cp));exact bN.rng () hi trivial b0
 | .nil,l,au,bF=>by refine bf eC A6 Cw fun aP=>?_;unfold yu;simp;refine dW [15,16] (fun i (_:Unit)=>[(1,.slice 1 .no (ep l)),(17,.int .i64 i)]) 0 (fun _ _=>True) () b0 trivial (fun _ _ _=>?_) (fun i _ hi _ _=>by omega);simp;((with_reducible repeat' first|refine aj ?_|simp|((first|apply bP|apply bS|apply bR)<;>intro h<;>try simp at h))<;>(try exact cp));simp[bt,zZ,aX,aZ,aW];simp[il,x4]
 | .sym _,l,au,bF=>by refine bf eC A6 Cw fun aP=>?_;unfold yu;simp;refine dW [15,16] (fun i (_:Unit)=>[(1,.slice 1 .no (ep l)),(17,.int .i64 i)]) 0 (fun _ _=>True) () b0 trivial (fun _ _ _=>?_) (fun i _ hi _ _=>by omega);simp;(with_reducible repeat' first|refine aj ?_|simp);simp[bt,zZ,aX,aZ,aW];simp[il,x4]
 | .num _,l,au,bF=>by refine bf eC A6 Cw fun aP=>?_;unfold yu;simp;refine dW [15,16] (fun i (_:Unit)=>[(1,.slice 1 .no (ep l)),(17,.int .i64 i)]) 0 (fun _ _=>True) () b0 trivial (fun _ _ _=>?_) (fun i _ hi _ _=>by omega);simp;(with_reducible repeat' first|refine aj ?_|simp);simp[bt,zZ,aX,aZ,aW];simp[il,x4]
def afe(s:List dz)(a b:T)(i:Nat)(_:Unit):Prop:=(1≤i→a.has s=false)∧(2≤i→b.has s=false)
theorem Mp(s:List dz):∀t:T,bH al 210 [t.e,.str s] (.bool (t.has s))
 | .pair a b=>by
  have dR:=Mp s a;have dS:=Mp s b;refine bf l2 A7 Cx fun aP=>?_;unfold yv;simp;refine dW [1,2,8,9] (fun i (_:Unit)=>[(10,.int .i64 i)]) 2 (afe s a b) () b0 ⟨fun h=>by omega,fun h=>by omega⟩ (fun _ af _=>?_) (fun i _ hi af _=>?_)
  ·simp;(with_reducible repeat' first|refine aj ?_|simp);simp[bt,vJ,aX,aZ,aW];simp[T.has,af.1,af.2]
  ·rcases(by omega:i=0∨i=1)with rfl|rfl
   ·cases bF:a.has s
    ·rw[bF]at dR;simp;((with_reducible repeat' first|refine aj ?_|refine aD dR ?_|refine aE dR ?_|simp|((first|apply bP|apply bS|apply bR)<;>intro h<;>try simp at h))<;>(try exact cp));exact bN.rng () hi ⟨fun _=>bF,fun h=>by omega⟩ b0
    ·rw[bF]at dR;simp;((with_reducible repeat' first|refine aj ?_|refine aD dR ?_|refine aE dR ?_|simp|((first|apply bP|apply bS|apply bR)<;>intro h<;>try simp at h))<;>(try exact cp));simp[bt,vJ,aX,aZ,aW];simp[T.has,bF]
   ·cases ae:b.has s
    ·rw[ae]at dS;simp;((with_reducible repeat' first|refine aj ?_|refine aD dS ?_|refine aE dS ?_|simp|((first|apply bP|apply bS|apply bR)<;>intro h<;>try simp at h))<;>(try exact cp));exact bN.rng () hi ⟨fun _=>af.1 (by omega),fun _=>ae⟩ b0
    ·rw[ae]at dS;simp;((with_reducible repeat' first|refine aj ?_|refine aD dS ?_|refine aE dS ?_|simp|((first|apply bP|apply bS|apply bR)<;>intro h<;>try simp at h))<;>(try exact cp));simp[bt,vJ,aX,aZ,aW];simp[T.has,ae]
 | .sym n=>by
  refine bf l2 A7 Cx fun aP=>?_;unfold yv;simp;refine dW [1,2,8,9] (fun i (_:Unit)=>[(10,.int .i64 i)]) 0 (fun i _=>True) () b0 trivial (fun _ af _=>?_) (fun i _ hi af _=>by omega);simp;(with_reducible repeat' first|refine aj ?_|simp);all_goals simp[bt,vJ,aX,aZ,aW]
  all_goals simp[T.has]
 | .num n=>by
  refine bf l2 A7 Cx fun aP=>?_;unfold yv;simp;refine dW [1,2,8,9] (fun i (_:Unit)=>[(10,.int .i64 i)]) 0 (fun i _=>True) () b0 trivial (fun _ af _=>?_) (fun i _ hi af _=>by omega);simp;(with_reducible repeat' first|refine aj ?_|simp);all_goals simp[bt,vJ,aX,aZ,aW]
  all_goals simp[T.has]
 | .var n=>by
  refine bf l2 A7 Cx fun aP=>?_;unfold yv;simp;refine dW [1,2,8,9] (fun i (_:Unit)=>[(10,.int .i64 i)]) 0 (fun i _=>True) () b0 trivial (fun _ af _=>?_) (fun i _ hi af _=>by omega);simp;(with_reducible repeat' first|refine aj ?_|simp);all_goals simp[bt,vJ,aX,aZ,aW]
  all_goals simp[T.has]
 | .nil=>by
  refine bf l2 A7 Cx fun aP=>?_;unfold yv;simp;refine dW [1,2,8,9] (fun i (_:Unit)=>[(10,.int .i64 i)]) 0 (fun i _=>True) () b0 trivial (fun _ af _=>?_) (fun i _ hi af _=>by omega);simp;(with_reducible repeat' first|refine aj ?_|simp);all_goals simp[bt,vJ,aX,aZ,aW]
  all_goals simp[T.has]
def oi(l:List bK)(o:aY (List bK)):ah:= .tuple [.slice 2 .no ((o.getD l).map bK.e),.bool o.isSome]
@[simp] theorem ao9(S:aH→Prop)(l:List bK)(o:aY (List bK)):aC S (oi l o)=True:=by simp[oi]
def vn(l:List bK)(n:Int)(i:Nat):Prop:=i≤l.length∧∀j y,j<i→l[j]? =some y→y.v<n
theorem vn.none{l:List bK}{n:Int}{i:Nat}(h:vn l n i)(bF:l.Pairwise fun x y=>x.v<y.v)(ax:∀c,l[i]? =some c→n<c.v):k0 l n=none:=xq.2 fun x ab=>by
 obtain⟨j,dX,rfl⟩:=ni ab;have e:=cf dX;rcases Nat.lt_or_ge j i with J|J
 ·have:=h.2 j _ J e;omega
 ·have Ez:i<l.length:=by omega
  have aB:=cf Ez;have ao:=ax _ aB;rcases Nat.lt_or_ge i j with U|U
  ·have:=pg.1 bF i j Ez dX U;omega
  ·obtain rfl:i=j:=by omega
   omega
theorem vn.ins{l:List bK}{n k:Int}{i:Nat}(h:vn l n i)(ax:∀c,l[i]? =some c→n<c.v):lu ⟨n,k⟩ l=l.take i++⟨n,k⟩::l.drop i:=Sw ⟨n,k⟩ l i (fun j y J U=>h.2 j y J U) (fun y aG=>by have:=ax y aG;simp;omega) h.1
theorem vn.step{l:List bK}{n:Int}{i:Nat}{b:bK}(h:vn l n i)(ae:l[i]? =some b)(aA:b.v<n):vn l n (i+1):=⟨(fL.1 ae).1,fun j y J U=>by
 rcases(by omega:j<i∨j=i)with ao|rfl
 ·exact h.2 j y ao U
 ·rw[ae]at U;cases U;exact aA⟩
theorem alL(l:List bK)(au:l.length≤1000000)(bF:l.Pairwise fun x y=>x.v<y.v)(n k:Int):bH al 151 [.slice 2 .no (l.map bK.e),(T.var n).e,.int .i64 k] (oi l (j7 l (.var n) k)):=by
 generalize dk:j7 l (.var n) k=O;have dN:(match k0 l n with|some bM=>if bM=k then some l else none|none=>some (lu ⟨n,k⟩ l))=O:=by rw[←dk];rfl
 clear dk;refine bf l2 A8 Cy fun aP=>?_;unfold yw;simp;refine uS [0,2,4] (fun(i:Nat)=>[(8,.int .i64 i)]) (fun i=>l.length-i) (vn l n) 0 b0 ⟨by omega,fun j y h=>by omega⟩ (fun i af _=>?_);have ad:=af.1;by_cases hi:i<l.length
 ·obtain⟨b,ae,cK⟩:=ed hi;rcases Int.lt_trichotomy b.v n with h|h|h
  ·have ag:=af.step ae h;clear dN af ae bF;simp[hi,cK,h];((with_reducible repeat' first|refine aj ?_|simp[hi,cK,h]|((first|apply bP|apply bS|apply bR)<;>intro h<;>try simp at h))<;>(try exact cp));exact bN.whl (i+1) (by omega) ag b0
  ·have a7:k0 l n=some b.k:=by rw[←h];exact Fb bF (eG ae)
   have J:¬b.v<n:=by omega
   have U:(b.v==n)=true:=by simp[h]
   rw[a7]at dN;simp only at dN;subst dN;clear af ae bF a7;simp[hi,cK,J,U];(with_reducible repeat' first|refine aj ?_|simp[hi,cK,J,U]);all_goals simp[bt,vK,aX,aZ,aW]
   all_goals(by_cases e:b.k=k<;>simp[oi,e])
  ·have J:¬b.v<n:=by omega
   have U:(b.v==n)=false:=by simp;omega
   have ax:∀c,l[i]? =some c→n<c.v:=fun c ax=>by rw[ae]at ax;cases ax;exact h
   rw[af.none bF ax]at dN;simp only[af.ins ax]at dN;subst dN;clear af ae bF ax;simp[hi,cK,J,U];(with_reducible repeat' first|refine aj ?_|simp[hi,cK,J,U]);all_goals simp[bt,vK,aX,aZ,aW]
   all_goals simp[oi]
   rw[hl (by simp:(l.map bK.e).length≤l.length),←List.map_take,←List.map_drop,←gE,←List.map_append];exact L1 _
 ·have ax:∀c,l[i]? =some c→n<c.v:=fun c ax=>by rw[p1 (by omega)]at ax;cases ax
  rw[af.none bF ax]at dN;simp only[af.ins ax]at dN;have Ez:i=l.length:=by omega
  clear af bF ax;subst dN;subst Ez;simp;(with_reducible repeat' first|refine aj ?_|simp);all_goals simp[bt,vK,aX,aZ,aW]
  all_goals simp[oi]
  rw[hl (by simp:(l.map bK.e).length≤l.length),show [(⟨n,k⟩:bK).e]=[(⟨n,k⟩:bK)].map bK.e from rfl,←List.map_append];exact L1 _
theorem WL(l:List bK)(au:l.length≤1000000)(bF:l.Pairwise fun x y=>x.v<y.v)(t:T)(k:Int):bH al 151 [.slice 2 .no (l.map bK.e),t.e,.int .i64 k] (oi l (j7 l t k)):=by
 cases t with
 |var n=>exact alL l au bF n k
 |nil=>
  refine bf l2 A8 Cy fun aP=>?_;unfold yw;simp;(with_reducible repeat' first|refine aj ?_|simp);all_goals simp[bt,vK,aX,aZ,aW]
  all_goals(by_cases e:0=k<;>simp[oi,j7,e])
 |sym n=>
  refine bf l2 A8 Cy fun aP=>?_;unfold yw;simp;(with_reducible repeat' first|refine aj ?_|simp);all_goals simp[bt,vK,aX,aZ,aW]
  all_goals(by_cases e:2=k<;>simp[oi,j7,e])
 |num n=>
  refine bf l2 A8 Cy fun aP=>?_;unfold yw;simp;(with_reducible repeat' first|refine aj ?_|simp);all_goals simp[bt,vK,aX,aZ,aW]
  all_goals(by_cases e:3=k<;>simp[oi,j7,e])
 |pair a b=>
  refine bf l2 A8 Cy fun aP=>?_;unfold yw;simp;(with_reducible repeat' first|refine aj ?_|simp);all_goals simp[bt,vK,aX,aZ,aW]
  all_goals(by_cases e:4=k<;>simp[oi,j7,e])
theorem W3(s:List ar)(v:Int):ha s (.var v)=cB s v:=rfl
theorem Mq{s:List ar}(ag:eM s){l:List bK}(au:iU l):bH al 149 [.slice 5 .no (s.map ar.e),.slice 2 .no (l.map bK.e)] (fS (ga s l [])):=by
 have w7:=su au;refine bf l2 abU aik fun aP=>?_;unfold Pt;simp;refine dW [0,11,12] (fun i (a:List bK)=>[(6,.slice 2 .no (a.map bK.e)),(13,.int .i64 i)]) l.length (Sz s l) [] b0 ⟨⟨by simp,by simp⟩,rfl⟩ (fun a af _=>?_) (fun i a hi af _=>?_)
 ·obtain⟨_,af⟩:=af;rw[List.drop_length]at af;simp only[ga]at af;rw[←af];simp;(with_reducible repeat' first|refine aj ?_|simp);simp[bt,Lp,aX,aZ,aW];simp[fS]
 ·obtain⟨bF,af⟩:=af;obtain⟨b,ae,cK⟩:=ed hi;have nZ:=au.at' b (eG ae);rw[k7 hi,cK]at af;simp only[ga]at af;have kZ:=GS s ag.len (.var b.v);rw[W3]at kZ;have gj:=WL a (by have:=su bF;omega) bF.asc (cB s b.v) b.k;simp[hi,cK];cases dN:j7 a (cB s b.v) b.k with
  |none=>rw[dN]at af gj;simp only at af;rw[←af];simp only[oi]at gj;(with_reducible repeat' first|refine aj ?_|refine aD (j3 _) ?_|refine aE (j3 _) ?_|refine aD kZ ?_|refine aE kZ ?_|refine aD gj ?_|refine aE gj ?_|simp[cK,hi]);simp[bt,Lp,aX,aZ,aW];simp[fS]
  |some bn=>rw[dN]at af gj;simp only[oi]at gj;(with_reducible repeat' first|refine aj ?_|refine aD (j3 _) ?_|refine aE (j3 _) ?_|refine aD kZ ?_|refine aE kZ ?_|refine aD gj ?_|refine aE gj ?_|simp[cK,hi]);exact bN.rng bn hi ⟨Hg bF (Ae ag nZ.1) nZ.2 dN,af⟩ b0
end Go.Proofs.YtahlgcidhnjlbaaGreat
namespace Go.Proofs.YtahlgcidhnjlbaaGreat
open Go Go.Pv
open Classical in
theorem al1(l:List bk):bH al 79 [.slice 2 .no (l.map bk.e)] (.bool (decide (hB l))):=by
 generalize bh:decide (hB l)=R;refine bf l2 abw ahV fun aP=>?_;unfold O4;have eO:l.length≤68719476736:=by simp[eB,ec,et,lim]at aP;omega
 simp;refine dW [0,5,6] (fun i (_:Unit)=>[(7,.int .i64 i)]) l.length (fun i _=> ∀j,j<i→h0 j0 kp l j) () b0 (fun k ad=>by omega) (fun _ af _=>?_) (fun i _ hi af _=>?_)
 ·have:R=true:=by rw[←bh,fH,Fq];exact af
  rw[this];exact b2
 ·obtain⟨b,ae⟩:∃b,l[i]? =some b:=⟨_,cf hi⟩;obtain⟨c,ax⟩:∃c,l[i-1]? =some c:=⟨_,cf (by omega)⟩;have cK:∀h,(l[i]'h)=b:=fun h=>by rw[cf hi]at ae;exact fB ae
  have di:¬h0 j0 kp l i→R=false:=fun h=>by rw[←bh,hE];exact fun cr=>h (Fq.1 cr i hi)
  have dd:h0 j0 kp l i→∀j,j<i+1→h0 j0 kp l j:=fun h j jf=>by
   by_cases e:j=i
   ·rw[e];exact h
   ·exact af j (by omega)
  have gr:∀p:Prop,(p→eQ)→(h0 j0 kp l i→p)→R=false:=fun p J U=>di fun h=>J (U h);have oV:h0 j0 kp l i→j0 b:=fun h=>(h b ae).1;have bC:h0 j0 kp l i→0<i→hA e9 c b=true:=fun h bA=>by simpa[hA,kp]using(h b ae).2 c bA ax
  have eW:j0 b→(0<i→hA e9 c b=true)→h0 j0 kp l i:=fun J U bO fR=>by rw[ae]at fR;cases fR;exact⟨J,fun cm bA hp=>by rw[ax]at hp;cases hp;simpa[hA,kp]using U bA⟩
  unfold j0 at oV eW;by_cases g4:0<i
  ·cases g5:hA e9 c b
   ·rw[gr _ (fun h=>by rw[h]at g5;cases g5) (fun h=>bC h g4)];simp[hi,cK,ax];(with_reducible repeat' first|refine aj ?_|refine aD (lE _ _) ?_|refine aE (lE _ _) ?_|simp[cK,ax,hi,g4,g5]);all_goals simp[bt,zX,aX,aZ,aW]
   ·by_cases g1:0≤b.v∧b.v≤100000;rotate_left
    ·rw[gr _ (fun h=>g1 h) (fun h=>(oV h).1)];have kT:decide (0≤b.v∧b.v≤100000)=false:=by simp only[hE];exact g1
     simp[hi,cK,ax];(with_reducible repeat' first|refine aj ?_|refine aD (lE _ _) ?_|refine aE (lE _ _) ?_|refine aD (dt _ _ _) ?_|refine aE (dt _ _ _) ?_|simp[cK,ax,hi,g4,g5,kT,g1]);all_goals simp[bt,zX,aX,aZ,aW]
    have kT:decide (0≤b.v∧b.v≤100000)=true:=by simp only[fH];exact g1
    cases g3:jw b.s
    ·rw[gr _ (fun h=>by rw[h]at g3;cases g3) (fun h=>(oV h).2)];have b9:=gM b.s;rw[g3]at b9;simp[hi,cK,ax];(with_reducible repeat' first|refine aj ?_|refine aD (lE _ _) ?_|refine aE (lE _ _) ?_|refine aD (dt _ _ _) ?_|refine aE (dt _ _ _) ?_|refine aD b9 ?_|refine aE b9 ?_|simp[cK,ax,hi,g4,g5,kT,g1]);all_goals simp[bt,zX,aX,aZ,aW]
    have b9:=gM b.s;rw[g3]at b9;have dD:=dd (eW ⟨g1,g3⟩ fun _=>g5);simp[hi,cK,ax];(with_reducible repeat' first|refine aj ?_|refine aD (lE _ _) ?_|refine aE (lE _ _) ?_|refine aD (dt _ _ _) ?_|refine aE (dt _ _ _) ?_|refine aD b9 ?_|refine aE b9 ?_|simp[cK,ax,hi,g4,g5,kT,g1]);all_goals exact bN.rng () hi dD b0
  ·obtain rfl:i=0:=by omega
   by_cases g1:0≤b.v∧b.v≤100000;rotate_left
   ·rw[gr _ (fun h=>g1 h) (fun h=>(oV h).1)];have kT:decide (0≤b.v∧b.v≤100000)=false:=by simp only[hE];exact g1
    simp[hi,cK,ax];(with_reducible repeat' first|refine aj ?_|refine aD (lE _ _) ?_|refine aE (lE _ _) ?_|refine aD (dt _ _ _) ?_|refine aE (dt _ _ _) ?_|simp[cK,ax,hi,g4,kT,g1]);all_goals simp[bt,zX,aX,aZ,aW]
   have kT:decide (0≤b.v∧b.v≤100000)=true:=by simp only[fH];exact g1
   cases g3:jw b.s
   ·rw[gr _ (fun h=>by rw[h]at g3;cases g3) (fun h=>(oV h).2)];have b9:=gM b.s;rw[g3]at b9;simp[hi,cK,ax];(with_reducible repeat' first|refine aj ?_|refine aD (lE _ _) ?_|refine aE (lE _ _) ?_|refine aD (dt _ _ _) ?_|refine aE (dt _ _ _) ?_|refine aD b9 ?_|refine aE b9 ?_|simp[cK,ax,hi,g4,kT,g1]);all_goals simp[bt,zX,aX,aZ,aW]
   have b9:=gM b.s;rw[g3]at b9;have dD:=dd (eW ⟨g1,g3⟩ fun h=>absurd h g4);simp[hi,cK,ax];(with_reducible repeat' first|refine aj ?_|refine aD (lE _ _) ?_|refine aE (lE _ _) ?_|refine aD (dt _ _ _) ?_|refine aE (dt _ _ _) ?_|refine aD b9 ?_|refine aE b9 ?_|simp[cK,ax,hi,g4,kT,g1]);all_goals exact bN.rng () hi dD b0
def oT(s:List dz)(bc:List Int)(l:List bk):List bk:=bc.foldl (fun a v=>jZ e9 ⟨v,s⟩ a) l
theorem IA(s:List dz):∀(bc:List Int) {l:List bk},hF e9 l→hF e9 (oT s bc l)
 |[],_,h=>h
 |v::bc,_,h=>IA s bc (JN lz h)
theorem TF(s:List dz){x:bk}:∀(bc:List Int) {l:List bk},x∈oT s bc l↔x∈l∨(x.s=s∧x.v∈bc)
 |[],l=>by simp[oT]
 |v::bc,l=>by
  have:=TF s (x:=x) bc (l:=jZ e9 ⟨v,s⟩ l);rw[show oT s (v::bc) l=oT s bc (jZ e9 ⟨v,s⟩ l)from rfl,this,Fu lz,fU];constructor
  ·rintro((rfl|h)|⟨J,U⟩)
   ·exact .inr ⟨rfl,.inl rfl⟩
   ·exact .inl h
   ·exact .inr ⟨J,.inr U⟩
  ·rintro(h|⟨J,U|U⟩)
   ·exact .inl (.inr h)
   ·refine .inl (.inl ?_);cases x;simp_all
   ·exact .inr ⟨J,U⟩
theorem QH(s:List dz):∀(bc:List Int) (l:List bk),(oT s bc l).length≤l.length+bc.length
 |[],l=>by simp[oT]
 |v::bc,l=>by have J:=QH s bc (jZ e9 ⟨v,s⟩ l);have U:=JP (c:=e9) (⟨v,s⟩:bk) l;rw[show oT s (v::bc) l=oT s bc (jZ e9 ⟨v,s⟩ l)from rfl];simp only[p2];omega
theorem ab5{t:T}{s:List dz}(cO:t.has s=false){l:List bk}(bF:hF e9 l):lJ l t s=some (oT s (il t []) l):=Hh cO (IA s _ bF) fun x=>by rw[TF,Fw];simp
end Go.Proofs.YtahlgcidhnjlbaaGreat
namespace Go.Proofs.YtahlgcidhnjlbaaGreat
open Go Go.Pv
def B3(l:List bk)(bc:List Int)(s:List dz)(i:Nat)(a:List bk):Prop:=a=oT s (bc.take i) l
def zm(a:List bk)(m:bk)(k:Nat):Prop:=k≤a.length∧∀j y,j<k→a[j]? =some y→e9 y m<0
theorem zm.step{a:List bk}{m:bk}{k:Nat}{b:bk}(h:zm a m k)(ae:a[k]? =some b)(aA:e9 b m<0):zm a m (k+1):=⟨(fL.1 ae).1,fun j y J U=>by
 rcases(by omega:j<k∨j=k)with ao|rfl
 ·exact h.2 j y ao U
 ·rw[ae]at U;cases U;exact aA⟩
theorem zm.fin{a:List bk}{m:bk}{k:Nat}(h:zm a m k)(ax:∀y,a[k]? =some y→0≤e9 y m):jZ e9 m a=if(match a[k]? with|some y=>decide (e9 y m=0)|none=>false)=true then a else a.take k++m::a.drop k:=(JO lz m a k (fun j y J U=>h.2 j y J U) ax h.1).trans (by cases a[k]?<;>rfl)
theorem TR(a:List bk)(k:Nat)(m:bk):lG k (a.map bk.e)++m.e::nh k (a.map bk.e)=(a.take k++m::a.drop k).map bk.e:=by simp
theorem zD(a:List bk)(k:Nat)(m:bk):cY (lG k (a.map bk.e)++m.e::nh k (a.map bk.e))=lG k (a.map bk.e)++m.e::nh k (a.map bk.e):=by rw[TR,L2]
theorem zC(S:aH→Prop)(a:List bk)(k:Nat)(m:bk):aK S (lG k (a.map bk.e)++m.e::nh k (a.map bk.e))=True:=by rw[TR,S9]
theorem TQ(a:List bk)(m:bk):a.map bk.e++[m.e]=(a++[m]).map bk.e:=by simp
theorem zB(a:List bk)(m:bk):cY (a.map bk.e++[m.e])=a.map bk.e++[m.e]:=by rw[TQ,L2]
theorem zA(S:aH→Prop)(a:List bk)(m:bk):aK S (a.map bk.e++[m.e])=True:=by rw[TQ,S9]
theorem alM(l:List bk)(au:l.length≤68719470000)(t:T)(aN:t.size≤5000)(s:List dz)(bF:hF e9 l):bH al 181 [.slice 2 .no (l.map bk.e),t.e,.str s] (iZ (lJ l t s)):=by
 have km:=Mp s t;cases cO:t.has s;rotate_left
 ·have bA:lJ l t s=none:=by simp[lJ,cO]
  rw[bA];rw[cO]at km;refine bf l2 Qv Uj fun aP=>?_;unfold HR;simp;(with_reducible repeat' first|refine aj ?_|refine aD km ?_|refine aE km ?_|simp);all_goals simp[bt,Lq,aX,aZ,aW]
  all_goals simp[iZ]
 ·rw[cO]at km;have dN:=ab5 cO bF;have pE:=Dd t [];have pJ:=GR t [] (by simp;omega) (by simp[sW]);have IX:ep []=[]:=rfl;rw[IX]at pJ;rw[dN];clear dN cO;generalize il t []=bc at pJ pE⊢;have kH:bc.length≤5000:=by simp at pE;omega
  generalize gg:oT s bc l=F;refine bf l2 Qv Uj fun aP=>?_;unfold HR;simp;(with_reducible repeat' first|refine aj ?_|refine aD km ?_|refine aE km ?_|refine aD pJ ?_|refine aE pJ ?_|simp[eX]);refine dW [2,17,18] (fun i (a:List bk)=>[(0,.slice 2 .no (a.map bk.e)),(19,.int .i64 i)]) bc.length (B3 l bc s) l ⟨by simp[fresh,aK,aC,cd,inObs,Pv.look,eX],dZ (by simp[fresh,aK,aC,cd,inObs,Pv.look,eX]),ea (by simp[fresh,aK,aC,dQ,inObs,Pv.look,eX]),by simp⟩ (by simp[B3,oT]) (fun a af _=>?_) (fun i a hi af _=>?_)
  ·rw[B3,nL,gg]at af;subst af;simp[eX];(with_reducible repeat' first|refine aj ?_|simp[eX]);all_goals simp[bt,Lq,aX,aZ,aW]
   all_goals simp[iZ]
  ·obtain⟨v,aJ⟩:∃v,bc[i]? =some v:=⟨_,cf hi⟩;have qu:∀h,((ep bc)[i]'h)= .int .i64 v:=fun cr=>by have:=BZ bc i;rw[aJ,cf cr]at this;exact fB this
   have q1:hF e9 a:=by rw[af];exact IA s _ bF
   have q2:a.length≤68719475000:=by have:=QH s (bc.take i) l;rw[af];simp at this⊢;omega
   have fl:B3 l bc s (i+1) (jZ e9 ⟨v,s⟩ a):=by rw[B3,List.take_succ,aJ,af];simp[oT]
   generalize hm:(⟨v,s⟩:bk)=m at fl;have ad2:m.v=v:=by rw[←hm]
   have tF:m.s=s:=by rw[←hm]
   subst ad2;subst tF;clear af gg;simp[hi,qu,eX];(with_reducible repeat' first|refine aj ?_|simp[hi,qu,eX]);refine uS [0,2,10,17,18,19] (fun(k:Nat)=>[(11,.int .i64 k)]) (fun k=>a.length-k) (zm a m) 0 ⟨by simp[fresh,aK,aC,cd,inObs,Pv.look,eX],dZ (by simp[fresh,aK,aC,cd,inObs,Pv.look,eX]),ea (by simp[fresh,aK,aC,dQ,inObs,Pv.look,eX]),by simp⟩ ⟨by omega,fun j y h=>by omega⟩ (fun k af _=>?_);have ad:=af.1;by_cases hd:k<a.length
   ·obtain⟨b,ae,cK⟩:=ed hd;cases bC:hA e9 b m
    ·have tA:0≤e9 b m:=by simpa[hA]using bC
     have dD:=af.fin (fun y aG=>by rw[ae]at aG;cases aG;exact tA);rw[ae]at dD;cases Ey:hA e9 m b
     ·have hle:0≤e9 m b:=by simpa[hA]using Ey
      have bA:e9 b m=0:=by have:=lz.neg b m;omega
      rw[if_pos (by simp[bA])]at dD;rw[dD]at fl;clear af ae dD q2 q1;simp[hd,cK];((with_reducible repeat' first|refine aj ?_|refine aD (lE _ _) ?_|refine aE (lE _ _) ?_|simp[hd,cK,bC,Ey]|((first|apply bP|apply bS|apply bR)<;>intro h<;>try simp at h))<;>(try exact cp));all_goals exact bN.rng a hi fl ⟨by simp[fresh,aK,aC,cd,inObs,Pv.look,eX],dZ (by simp[fresh,aK,aC,cd,inObs,Pv.look,eX]),ea (by simp[fresh,aK,aC,dQ,inObs,Pv.look,eX]),by simp⟩
     ·have hle:e9 m b<0:=by simpa[hA]using Ey
      have bA:¬e9 b m=0:=by have:=lz.neg b m;omega
      rw[if_neg (by simp[bA])]at dD;rw[dD]at fl;clear af ae dD q1;simp[hd,cK];((with_reducible repeat' first|refine aj ?_|refine aD (lE _ _) ?_|refine aE (lE _ _) ?_|simp[hd,cK,bC,Ey]|((first|apply bP|apply bS|apply bR)<;>intro h<;>try simp at h))<;>(try exact cp));all_goals first|(refine⟨by unfold lim;omega,?_⟩)|skip
      all_goals(with_reducible repeat' first|refine aj ?_|simp)
      all_goals first|(refine⟨by unfold lim;omega,?_⟩)|skip
      all_goals((with_reducible repeat' first|refine aj ?_|simp|((first|apply bP|apply bS|apply bR)<;>intro h<;>try simp at h))<;>(try exact cp))
      all_goals exact bN.rng _ hi fl ⟨by simp[fresh,aK,aC,cd,inObs,Pv.look,eX,hl,zD,zC,zB,zA],dZ (by simp[fresh,aK,aC,cd,inObs,Pv.look,eX,hl,zD,zC,zB,zA]),ea (by simp[fresh,aK,aC,dQ,inObs,Pv.look,eX,hl,zD,zC,zB,zA]),by simp⟩
    ·have va:e9 b m<0:=by simpa[hA]using bC
     have ag:=af.step ae va;clear af ae q1 fl;simp[hd,cK];((with_reducible repeat' first|refine aj ?_|refine aD (lE _ _) ?_|refine aE (lE _ _) ?_|simp[hd,cK,bC]|((first|apply bP|apply bS|apply bR)<;>intro h<;>try simp at h))<;>(try exact cp));all_goals exact bN.whl (k+1) (by omega) ag ⟨by simp[fresh,aK,aC,cd,inObs,Pv.look,eX],dZ (by simp[fresh,aK,aC,cd,inObs,Pv.look,eX]),ea (by simp[fresh,aK,aC,dQ,inObs,Pv.look,eX]),by simp⟩
   ·have dD:=af.fin (fun y aG=>by rw[p1 (by omega)]at aG;cases aG);rw[p1 (by omega)]at dD;simp only[gP,if_false]at dD;rw[dD]at fl;have ih:k=a.length:=by omega
    clear af dD q1;subst ih;simp;(with_reducible repeat' first|refine aj ?_|simp);all_goals first|(refine⟨by unfold lim;omega,?_⟩)|skip
    all_goals(with_reducible repeat' first|refine aj ?_|simp)
    all_goals first|(refine⟨by unfold lim;omega,?_⟩)|skip
    all_goals(with_reducible repeat' first|refine aj ?_|simp)
    all_goals exact bN.rng _ hi fl ⟨by simp[fresh,aK,aC,cd,inObs,Pv.look,eX,hl,zD,zC,zB,zA],dZ (by simp[fresh,aK,aC,cd,inObs,Pv.look,eX,hl,zD,zC,zB,zA]),ea (by simp[fresh,aK,aC,dQ,inObs,Pv.look,eX,hl,zD,zC,zB,zA]),by simp⟩
theorem Mr{s:List ar}(ag:eM s){l:List bk}(au:hB l){G:List (List dz)}(kf:G.length≤687000)(a7:nE G l):bH al 150 [.slice 5 .no (s.map ar.e),.slice 2 .no (l.map bk.e)] (iZ (gb s l [])):=by
 have hlen:∀{a:List bk},hB a→nE G a→a.length≤68719470000:=fun J U=>by have:=Ch J U;omega
 have w7:=hlen au a7;refine bf l2 abV ail fun aP=>?_;unfold Pu;simp;refine dW [0,11,12] (fun i (a:List bk)=>[(6,.slice 2 .no (a.map bk.e)),(13,.int .i64 i)]) l.length (SA s G l) [] b0 ⟨⟨by simp,by simp[hF]⟩,fun x ab=>by simp at ab,rfl⟩ (fun a af _=>?_) (fun i a hi af _=>?_)
 ·obtain⟨_,_,af⟩:=af;rw[List.drop_length]at af;simp only[gb]at af;rw[←af];simp;(with_reducible repeat' first|refine aj ?_|simp);simp[bt,Lr,aX,aZ,aW];simp[iZ]
 ·obtain⟨bF,BT,af⟩:=af;obtain⟨b,ae,cK⟩:=ed hi;have nZ:=au.at' b (eG ae);have I1:=a7 b (eG ae);rw[k7 hi,cK]at af;simp only[gb]at af;have kZ:=GS s ag.len (.var b.v);rw[W3]at kZ;have gj:=alM a (hlen bF BT) (cB s b.v) (CW ag b.v) b.s bF.asc;simp[hi,cK];cases dN:lJ a (cB s b.v) b.s with
  |none=>rw[dN]at af gj;simp only at af;rw[←af];simp only[iZ]at gj;(with_reducible repeat' first|refine aj ?_|refine aD (j3 _) ?_|refine aE (j3 _) ?_|refine aD kZ ?_|refine aE kZ ?_|refine aD gj ?_|refine aE gj ?_|simp[cK,hi]);simp[bt,Lr,aX,aZ,aW];simp[iZ]
  |some bn=>rw[dN]at af gj;simp only[iZ]at gj;(with_reducible repeat' first|refine aj ?_|refine aD (j3 _) ?_|refine aE (j3 _) ?_|refine aD kZ ?_|refine aE kZ ?_|refine aD gj ?_|refine aE gj ?_|simp[cK,hi]);exact bN.rng bn hi ⟨Hi bF (Ae ag nZ.1) nZ.2 dN,Hj BT I1 dN,af⟩ b0
theorem akF{s:List ar}(aw:pT s)(bF:ir s)(aI:hn s):gy (s.map ar.b)=s.all (l5 s):=by
 rw[pZ,jb,qG,←VS bF];constructor
 ·rintro⟨ai,J,U,ao,a8⟩;rw[uG J];exact ao
 ·intro ao;exact⟨s,rfl,aw,ao,aI⟩
theorem XW{s:List ar}(bF:ir s)(b:ar):l5 s b=true↔(∀v∈il b.t [],dh s v=none)∧(b.t.kind==1&&decide (b.v≤b.t.int))=false:=by unfold l5;rw[cA,QI bF];simp only[true_and,Bool.not_eq_true',Fw,List.not_mem_nil,or_false]
def B2(s:List ar)(bc:List Int)(i:Nat)(_:Unit):Prop:= ∀v∈bc.take i,dh s v=none
theorem B2.step{s:List ar}{bc:List Int}{i:Nat}(h:B2 s bc i ()){v:Int}(aJ:bc[i]? =some v)(aA:dh s v=none):B2 s bc (i+1) ():=fun w hw=>by
 rw[List.take_succ,aJ]at hw;simp only[kx,Option.toList_some,List.mem_singleton]at hw;rcases hw with hw|rfl
 ·exact h w hw
 ·exact aA
theorem Mt(l:List cT):bH al 76 [.slice 5 .no (l.map cT.e)] (.bool (gy l)):=by
 have aJ:=alB l;by_cases h:yj l;rotate_left
 ·have bA:gy l=false:=by unfold gy;simp only[hE];rintro⟨s,J,U,ao,a8⟩;exact h (GX.2 ⟨s,J,U,ao.asc,a8⟩)
  rw[bA];refine bf eC Qu Ui fun aP=>?_;unfold HQ;exact b2
 ·obtain⟨s,rfl,aw,bF,aI⟩:=GX.1 h;have au:s.length≤1000000:=by have:=aI.1;omega
  rw[akF aw bF aI];rw[xy]at aJ⊢;simp only[h,decide_true]at aJ;clear h;generalize bh:s.all (l5 s)=R;refine bf eC Qu Ui fun aP=>?_;unfold HQ;simp;(with_reducible repeat' first|refine aj ?_|refine aD aJ ?_|refine aE aJ ?_|simp);refine dW [0,12,13] (fun i (_:Unit)=>[(14,.int .i64 i)]) s.length (o2 (l5 s) s) () b0 (fun k b ad=>by omega) (fun _ af _=>?_) (fun i _ hi af _=>?_)
  ·have:R=true:=by rw[←bh,jb];intro b ae;obtain⟨k,ad,e⟩:=ni ae;exact af k b ad (by rw[cf ad,e])
   rw[this];exact b2
  ·obtain⟨b,ae,cK⟩:=ed hi;have gr:¬l5 s b=true→R=false:=fun h=>by rw[←bh,Bool.eq_false_iff];intro cr;rw[jb]at cr;exact h (cr b (eG ae))
   have q7:l5 s b=true→o2 (l5 s) s (i+1) ():=fun h=>af.step ae h;have tC:=XW bF b;have ef:=aI.2 b (eG ae);have pE:=Dd b.t [];have pJ:=GR b.t [] (by simp;omega) (by simp[sW]);have IX:ep []=[]:=rfl;rw[IX]at pJ;generalize il b.t []=bc at pJ pE tC;have kH:bc.length≤5000:=by simp at pE;omega
   rw[tC]at gr q7;clear tC af pE ae;simp[hi,cK];cases ad:(b.t.kind==1&&decide (b.v≤b.t.int));rotate_left
   ·rw[gr (by rw[ad];simp)];rw[cA]at ad;have gn:=ad.1;have kV:b.v≤b.t.int:=of_decide_eq_true ad.2;exact b2
   ·rw[ad]at gr q7;simp only[and_true]at gr q7;cases gn:(b.t.kind==1)
    ·clear ad;(with_reducible repeat' first|refine aj ?_|refine aD pJ ?_|refine aE pJ ?_|simp[cK,hi,eX,gn]);refine dW [0,12,13,14,32,33] (fun j (_:Unit)=>[(34,.int .i64 j)]) bc.length (B2 s bc) () ⟨by simp[fresh,aK,aC,cd,inObs,Pv.look,eX],dZ (by simp[fresh,aK,aC,cd,inObs,Pv.look,eX]),ea (by simp[fresh,aK,aC,dQ,inObs,Pv.look,eX]),by simp⟩ (fun v aJ=>by simp at aJ) (fun _ af _=>?_) (fun j _ dX af _=>?_)
     ·have a7:=q7 (fun v aJ=>af v (by rwa[nL]));simp[eX];(with_reducible repeat' first|refine aj ?_|simp[eX]);exact bN.rng () hi a7 ⟨by simp[fresh,aK,aC,cd,inObs,Pv.look,eX],dZ (by simp[fresh,aK,aC,cd,inObs,Pv.look,eX]),ea (by simp[fresh,aK,aC,dQ,inObs,Pv.look,eX]),by simp⟩
     ·obtain⟨v,aJ⟩:∃v,bc[j]? =some v:=⟨_,cf dX⟩;have qu:∀h,((ep bc)[j]'h)= .int .i64 v:=fun cr=>by have:=BZ bc j;rw[aJ,cf cr]at this;exact fB this
      have jx:=uB s v au;cases gT:dh s v with
      |none=>have aA:=af.step aJ gT;rw[gT]at jx;simp only[kQ,j6]at jx;clear af q7 gr gT;simp[dX,qu,eX];(with_reducible repeat' first|refine aj ?_|refine aD jx ?_|refine aE jx ?_|simp[dX,qu,eX]);exact bN.rng () dX aA ⟨by simp[fresh,aK,aC,cd,inObs,Pv.look,eX],dZ (by simp[fresh,aK,aC,cd,inObs,Pv.look,eX]),ea (by simp[fresh,aK,aC,dQ,inObs,Pv.look,eX]),by simp⟩
      |some x=>rw[gr (fun h=>by have:=h v (eG aJ);rw[gT]at this;cases this)];rw[gT]at jx;simp only[ky,p3]at jx;clear af q7 gr gT;simp[dX,qu,eX];(with_reducible repeat' first|refine aj ?_|refine aD jx ?_|refine aE jx ?_|simp[dX,qu,eX]);simp[bt,Li,aX,aZ,aW]
    ·have kV:¬b.v≤b.t.int:=by rw[gn]at ad;simpa using ad
     clear ad;(with_reducible repeat' first|refine aj ?_|refine aD pJ ?_|refine aE pJ ?_|simp[cK,hi,eX,gn,kV]);refine dW [0,12,13,14,32,33] (fun j (_:Unit)=>[(34,.int .i64 j)]) bc.length (B2 s bc) () ⟨by simp[fresh,aK,aC,cd,inObs,Pv.look,eX],dZ (by simp[fresh,aK,aC,cd,inObs,Pv.look,eX]),ea (by simp[fresh,aK,aC,dQ,inObs,Pv.look,eX]),by simp⟩ (fun v aJ=>by simp at aJ) (fun _ af _=>?_) (fun j _ dX af _=>?_)
     ·have a7:=q7 (fun v aJ=>af v (by rwa[nL]));simp[eX];(with_reducible repeat' first|refine aj ?_|simp[eX]);exact bN.rng () hi a7 ⟨by simp[fresh,aK,aC,cd,inObs,Pv.look,eX],dZ (by simp[fresh,aK,aC,cd,inObs,Pv.look,eX]),ea (by simp[fresh,aK,aC,dQ,inObs,Pv.look,eX]),by simp⟩
     ·obtain⟨v,aJ⟩:∃v,bc[j]? =some v:=⟨_,cf dX⟩;have qu:∀h,((ep bc)[j]'h)= .int .i64 v:=fun cr=>by have:=BZ bc j;rw[aJ,cf cr]at this;exact fB this
      have jx:=uB s v au;cases gT:dh s v with
      |none=>have aA:=af.step aJ gT;rw[gT]at jx;simp only[kQ,j6]at jx;clear af q7 gr gT;simp[dX,qu,eX];(with_reducible repeat' first|refine aj ?_|refine aD jx ?_|refine aE jx ?_|simp[dX,qu,eX]);exact bN.rng () dX aA ⟨by simp[fresh,aK,aC,cd,inObs,Pv.look,eX],dZ (by simp[fresh,aK,aC,cd,inObs,Pv.look,eX]),ea (by simp[fresh,aK,aC,dQ,inObs,Pv.look,eX]),by simp⟩
      |some x=>rw[gr (fun h=>by have:=h v (eG aJ);rw[gT]at this;cases this)];rw[gT]at jx;simp only[ky,p3]at jx;clear af q7 gr gT;simp[dX,qu,eX];(with_reducible repeat' first|refine aj ?_|refine aD jx ?_|refine aE jx ?_|simp[dX,qu,eX]);simp[bt,Li,aX,aZ,aW]
theorem WS{s:List ar}(h:eM s):bH al 76 [.slice 5 .no (s.map ar.e)] (.bool true):=by have:=Mt (s.map ar.b);rw[xy,qG.2 ⟨s,rfl,h.ok,h.sol,h.fits⟩]at this;exact this
def Pp:C:=(aa [be 2 false] (.seq (aa [I 5 0,cl 6 5,bW 7 0] (ft 8 7 6 (.seq (.block 1 (aa [cu 9 1 5 7,av 10 1 9,I 4 10] (aa [I 11 4,cE 12 76 11,cw 13 12] (aS 13 (aa [be 2 false] .ret) .skip)))) (.region [aU 14 .add 7 1,I 7 14])))) (aa [be 2 true] .ret)))
@[simp] def ajF:List bs:=[.tmp 2]
def Px:C:=(aa [be 4 false] (.seq (aa [I 7 0,cl 8 7,bW 9 0] (ft 10 9 8 (.seq (.block 1 (aa [cu 11 5 7 9,aV 12 5 11,dj 6 jy,bL 5 6 12] (aa [aF 13 0 1 6,av 14 1 13,I 15 1,bm 16 .geq 14 15,I 17 16,aq 17 false (hC 18 1 4 6),aq 17 false (aV 19 4 18),b3 17 false 20 1,aq 17 false (ca 21 148 19 20),aq 17 false (cw 22 21),c6 23 17 22] (aS 23 (aa [be 4 false] .ret) .skip)))) (.region [aU 24 .add 9 1,I 9 24])))) (aa [be 4 true] .ret)))
@[simp] def ajL:List bs:=[.tmp 4]
def yx:C:=(aa [cz 2 0,be 4 false] (.seq (aa [aF 7 3 1 2,av 8 1 7,cl 9 8,bW 10 0] (ft 11 10 9 (.seq (.block 1 (aa [cu 12 4 8 10,aV 13 4 12,dj 6 dP,bL 4 6 13] (aa [aV 14 4 6,I 15 1,ca 16 148 14 15,cw 17 16] (aS 17 (aa [be 4 false] .ret) .skip)))) (.region [aU 18 .add 10 1,I 10 18])))) (aa [aF 19 0 1 2,av 20 1 19,aU 21 .neq 20 1,I 22 21,aq 22 false (aF 23 1 1 2),aq 22 false (av 24 1 23),b3 22 false 25 1,aq 22 false (bm 26 .lss 24 25),c6 27 22 26,I 4 27] .ret)))
@[simp] def vL:List bs:=[.tmp 4]
def Po:C:=(aa [eE 4 5] (aa [ek 10 5 113 [],I 5 10] (.seq (aa [I 11 1,cl 12 11,bW 13 0] (ft 14 13 12 (.seq (.block 1 (aa [cu 15 5 11 13,aV 16 5 15,dj 7 jy,bL 5 7 16] (aa [I 18 0,aF 19 0 1 7,av 20 1 19,ca 21 146 18 20,I 17 21,cD 22 0 17,cD 23 1 17,dj 8 dP,bL 4 8 22,I 9 23] (aa [I 24 9,cw 25 24] (aS 25 (.region [I 26 5,aV 27 5 7,ek 28 5 113 [.t 27],gO 29 5 113 26 28,I 5 29]) .skip))))) (.region [aU 30 .add 13 1,I 13 30])))) (aa [I 31 5,I 4 31] .ret))))
@[simp] def ajE:List bs:=[.tmp 4]
def Ps:C:=(aa [eE 2 1] (aa [ek 11 1 46 [],I 3 11] (.seq (.seq (.fg false 3 (.region [I 12 0,cl 13 12,bW 14 0])) (ft 15 14 13 (.seq (.block 1 (aa [cu 16 1 12 14,av 17 1 16,I 5 17] (aa [be 6 true] (.seq (aa [I 18 0,cl 19 18,bW 20 0] (.block 2 (.loop (aa [bm 21 .lss 20 19] (.seq (aS 21 .skip (.exit 2)) (.seq (.block 3 (aa [cu 22 1 18 20,av 23 1 22,I 8 23] (.region [I 24 6,I 25 24,b3 25 true 26 8,b3 25 true 27 5,aq 25 true (ca 28 155 26 27),aq 25 true (aU 29 .eql 28 0),b3 25 true 30 29,b3 30 false 31 8,b3 30 false 32 5,aq 30 false (ca 33 203 31 32),aq 30 false (cw 34 33),aq 25 true (c6 35 30 34),dx 36 25 35,I 6 36]))) (.region [aU 37 .add 20 1,I 20 37]))))))) (aa [I 38 3,cl 39 38,I 9 39] (.seq (.block 4 (.loop (.seq (aa [I 40 9,aU 41 .gtr 40 0,I 42 41,b3 42 true 43 3,b3 42 true 44 9,aq 42 true (aU 45 .sub 44 1),aq 42 true (cu 46 1 43 45),aq 42 true (av 47 1 46),b3 42 true 48 5,aq 42 true (ca 49 155 47 48),aq 42 true (aU 50 .geq 49 0),dx 51 42 50] (aS 51 .skip (.exit 4))) (.block 5 (.region [I 52 9,aU 53 .sub 52 1,I 9 53]))))) (aa [I 54 6,I 55 54,b3 55 true 56 9,b3 55 true 57 3,aq 55 true (cl 58 57),aq 55 true (bm 59 .eql 56 58),b3 55 true 60 59,b3 60 false 61 3,b3 60 false 62 9,aq 60 false (cu 63 1 61 62),aq 60 false (av 64 1 63),b3 60 false 65 5,aq 60 false (ca 66 155 64 65),aq 60 false (aU 67 .neq 66 0),aq 55 true (c6 68 60 67),dx 69 55 68] (aS 69 (aa [ek 70 1 46 [],I 71 3,I 72 9,b5 73 (.lsl 1 (.t 71) none (some (.t 72))),gO 74 1 46 70 73,I 10 74] (aa [I 75 10,I 76 5,ek 77 1 46 [.t 76],gO 78 1 46 75 77,I 10 78] (.region [I 79 10,I 80 3,I 81 9,b5 82 (.lsl 1 (.t 80) (some (.t 81)) none),gO 83 1 46 79 82,I 3 83]))) .skip)))))))) (.fg false 3 (.region [aU 84 .add 14 1,I 14 84]))))) (aa [I 85 3,I 2 85] .ret))))
@[simp] def ajH:List bs:=[.tmp 2]
def Pq:C:=(aa [bW 4 0] (.seq (aa [bW 5 0] (.block 0 (.loop (.seq (aa [I 7 5,I 8 0,cl 9 8,bm 10 .lss 7 9,I 11 10,b3 11 true 12 5,b3 11 true 13 1,aq 11 true (cl 14 13),aq 11 true (bm 15 .lss 12 14),dx 16 11 15] (aS 16 .skip (.exit 0))) (.seq (.block 1 (.seq (.seq (.drawn true 67 [I 19 0,I 20 5,cu 21 5 19 20,aF 22 0 1 21,av 23 1 22,I 24 1,I 25 5,cu 26 5 24 25,aF 27 0 1 26,av 28 1 27,bm 29 .neq 23 28]) (aS 29 (.seq (.drawn true 67 [I 30 0,I 31 5,cu 32 5 30 31,aF 33 0 1 32,av 34 1 33,I 35 1,I 36 5,cu 37 5 35 36,aF 38 0 1 37,av 39 1 38,bm 40 .lss 34 39,cE 41 188 40,I 4 41]) .ret) .skip)) (.seq (.drawn true 67 [I 42 0,I 43 5,cu 44 5 42 43,hC 45 1 4 44,aV 46 4 45,I 47 1,I 48 5,cu 49 5 47 48,hC 50 1 4 49,aV 51 4 50,ca 52 125 46 51,I 6 52]) (aa [I 53 6,aU 54 .neq 53 0] (aS 54 (aa [I 55 6,I 4 55] .ret) .skip))))) (.region [I 17 5,aU 18 .add 17 1,I 5 18])))))) (.seq (aa [I 56 0,cl 57 56,I 58 1,cl 59 58,bm 60 .neq 57 59] (aS 60 (aa [I 61 0,cl 62 61,I 63 1,cl 64 63,bm 65 .lss 62 64,cE 66 188 65,I 4 66] .ret) .skip)) (aa [bW 4 0] .ret))))
@[simp] def CL:List bs:=[.tmp 4]
def O5:C:=(aa [be 4 false] (.seq (aa [I 11 0,cE 12 76 11,cw 13 12,I 14 13,b3 14 false 15 1,aq 14 false (cE 16 76 15),aq 14 false (cw 17 16),c6 18 14 17] (aS 18 (aa [be 4 false] .ret) .skip)) (.seq (aa [I 19 0,cl 20 19,bW 21 0] (ft 22 21 20 (.seq (.block 1 (aa [cu 23 5 19 21,aV 24 5 23,dj 6 jy,bL 5 6 24] (aa [I 26 1,aF 27 0 1 6,av 28 1 27,cE 29 114 28,ca 30 60 26 29,I 25 30,cD 31 0 25,cD 32 1 25,dj 7 dP,bL 4 7 31,I 8 32] (aa [I 34 1,hC 35 1 4 6,aV 36 4 35,ca 37 60 34 36,I 33 37,cD 38 0 33,cD 39 1 33,dj 9 dP,bL 4 9 38,I 10 39] (aa [I 40 8,cw 41 40,I 42 41,b3 42 false 43 10,aq 42 false (cw 44 43),c6 45 42 44,I 46 45,aq 46 false (aV 47 4 7),aq 46 false (aV 48 4 9),aq 46 false (ca 49 129 47 48),aq 46 false (cw 50 49),c6 51 46 50] (aS 51 (aa [be 4 false] .ret) .skip)))))) (.region [aU 52 .add 21 1,I 21 52])))) (aa [be 4 true] .ret))))
@[simp] def Lh:List bs:=[.tmp 4]
def vW:List (Nat×dB):=[
 (3,⟨1,8,.int .i64,.int .i64 0⟩),
 (27,⟨1,24,.slice 30,.slice 4 .nil []⟩),
 (30,⟨4,56,.struct [(0,3),(1,3),(2,9),(3,27)],.agg [.int .i64 0,.int .i64 0,.str [],.slice 4 .nil []]⟩),
 (46,⟨1,24,.slice 113,.slice 5 .nil []⟩),
 (47,⟨1,24,.slice 46,.slice 1 .nil []⟩),
 (113,⟨5,64,.struct [(0,3),(1,30)],.agg [.int .i64 0,.int .i64 0,.int .i64 0,.str [],.slice 4 .nil []]⟩)]
theorem rK:fN al vW=true:=by kernel_rfl
theorem aif:bY vW Pp ajF 1 Tryz.f77=true:=by kernel_rfl
theorem abQ:al.funcs[(77:Nat)]? =some Tryz.f77:=Tryz.func77
theorem ain:bY vW Px ajL 2 Tryz.f80=true:=by kernel_rfl
theorem abX:al.funcs[(80:Nat)]? =some Tryz.f80:=Tryz.func80
theorem Cz:bY vW yx vL 2 Tryz.f148=true:=by kernel_rfl
theorem A9:al.funcs[(148:Nat)]? =some Tryz.f148:=Tryz.func148
theorem aie:bY vW Po ajE 2 Tryz.f153=true:=by kernel_rfl
theorem abP:al.funcs[(153:Nat)]? =some Tryz.f153:=Tryz.func153
theorem aij:bY vW Ps ajH 1 Tryz.f154=true:=by kernel_rfl
theorem abT:al.funcs[(154:Nat)]? =some Tryz.f154:=Tryz.func154
theorem aih:bY vW Pq CL 2 Tryz.f155=true:=by kernel_rfl
theorem abR:al.funcs[(155:Nat)]? =some Tryz.f155:=Tryz.func155
theorem ahW:bY vW O5 Lh 2 Tryz.f203=true:=by kernel_rfl
theorem abx:al.funcs[(203:Nat)]? =some Tryz.f203:=Tryz.func203
@[simp] def ap3:List bs:=[.tmp 4]
@[simp] def aqb:List bs:=[.tmp 2]
@[simp] def aqi:List bs:=[.tmp 4]
@[simp] def aqe:List bs:=[.tmp 4]
@[simp] def aqc:List bs:=[.tmp 2]
def AV:C:=(aa [cz 2 0,cz 3 1,bW 4 0] (.seq (aa [aF 7 0 1 2,av 8 1 7,aF 9 0 1 3,av 10 1 9,bm 11 .neq 8 10] (aS 11 (aa [aF 12 0 1 2,av 13 1 12,aF 14 0 1 3,av 15 1 14,bm 16 .lss 13 15,cE 17 188 16,I 4 17] .ret) .skip)) (.seq (aa [aF 18 1 1 2,av 19 1 18,aF 20 1 1 3,av 21 1 20,bm 22 .neq 19 21] (aS 22 (aa [aF 23 1 1 2,av 24 1 23,aF 25 1 1 3,av 26 1 25,bm 27 .lss 24 26,cE 28 188 27,I 4 28] .ret) .skip)) (.seq (aa [aF 29 2 1 2,av 30 1 29,aF 31 2 1 3,av 32 1 31,bm 33 .neq 30 32] (aS 33 (aa [aF 34 2 1 2,av 35 1 34,aF 36 2 1 3,av 37 1 36,bm 38 .lss 35 37,cE 39 188 38,I 4 39] .ret) .skip)) (.seq (aa [bW 5 0] (.block 0 (.loop (.seq (aa [I 40 5,aF 41 3 1 2,av 42 1 41,cl 43 42,bm 44 .lss 40 43,I 45 44,b3 45 true 46 5,aq 45 true (aF 47 3 1 3),aq 45 true (av 48 1 47),aq 45 true (cl 49 48),aq 45 true (bm 50 .lss 46 49),dx 51 45 50] (aS 51 .skip (.exit 0))) (.seq (.block 1 (.seq (.drawn true 68 [aF 54 3 1 2,av 55 1 54,I 56 5,cu 57 4 55 56,aV 58 4 57,aF 59 3 1 3,av 60 1 59,I 61 5,cu 62 4 60 61,aV 63 4 62,ca 64 125 58 63,I 6 64]) (aa [I 65 6,aU 66 .neq 65 0] (aS 66 (aa [I 67 6,I 4 67] .ret) .skip)))) (.region [I 52 5,aU 53 .add 52 1,I 5 53])))))) (aa [bW 4 0] .ret))))))
@[simp] def zY:List bs:=[.tmp 4]
def Pd:C:=(aa [cz 2 0,cz 3 1,be 4 false] (aa [aV 5 4 2,aV 6 4 3,ca 7 125 5 6,aU 8 .eql 7 0,I 4 8] .ret))
@[simp] def Ve:List bs:=[.tmp 4]
@[simp] def ap5:List bs:=[.tmp 2]
@[simp] def aqd:List bs:=[.tmp 5]
@[simp] def aqf:List bs:=[.tmp 2]
def Pe:C:=(aa [bW 2 0] (.seq (aa [I 3 0] (aS 3 (aa [bW 2 (-1)] .ret) .skip)) (aa [bW 2 1] .ret)))
@[simp] def Vf:List bs:=[.tmp 2]
@[simp] def aqg:List bs:=[]
def GH:List (Nat×dB):=[
 (3,⟨1,8,.int .i64,.int .i64 0⟩),
 (4,⟨1,1,.bool,.bool false⟩),
 (9,⟨1,16,.str,.str []⟩),
 (27,⟨1,24,.slice 30,.slice 4 .nil []⟩),
 (30,⟨4,56,.struct [(0,3),(1,3),(2,9),(3,27)],.agg [.int .i64 0,.int .i64 0,.str [],.slice 4 .nil []]⟩),
 (46,⟨1,24,.slice 113,.slice 5 .nil []⟩),
 (47,⟨1,24,.slice 46,.slice 1 .nil []⟩),
 (76,⟨1,24,.slice 3,.slice 1 .nil []⟩),
 (113,⟨5,64,.struct [(0,3),(1,30)],.agg [.int .i64 0,.int .i64 0,.int .i64 0,.str [],.slice 4 .nil []]⟩)]
theorem Ap:fN al GH=true:=by kernel_rfl
theorem FG:bY GH AV zY 2 Tryz.f125=true:=by kernel_rfl
theorem D9:al.funcs[(125:Nat)]? =some Tryz.f125:=Tryz.func125
theorem ah4:bY GH Pd Ve 2 Tryz.f129=true:=by kernel_rfl
theorem abF:al.funcs[(129:Nat)]? =some Tryz.f129:=Tryz.func129
theorem ah5:bY GH Pe Vf 1 Tryz.f188=true:=by kernel_rfl
theorem abG:al.funcs[(188:Nat)]? =some Tryz.f188:=Tryz.func188
theorem Xw{t u:T}(J:t.kind=u.kind)(U:t.int=u.int)(ao:t.name=u.name)(a8:t.args=u.args):t=u:=by cases t<;>cases u<;>simp_all
theorem qI(b:Bool):bH al 188 [.bool b] (.int .i64 (if b then-1 else 1)):=by
 refine bf Ap abG ah5 fun aP=>?_;unfold Pe;simp;((with_reducible repeat' first|refine aj ?_|simp|((first|apply bP|apply bS|apply bR)<;>intro h<;>try simp at h))<;>(try exact cp));all_goals simp[bt,Vf,aX,aZ,aW]
 all_goals simp_all
theorem aiq{a b:T}(bF:a.args=[]∨b.args=[])(J:a.kind=b.kind)(U:a.int=b.int):er a b=kr a.name b.name:=by cases a<;>cases b<;>simp_all[er]
def B1(a b:T)(i:Nat)(_:Unit):Prop:=a.args.take i=b.args.take i
set_option maxRecDepth 4000 in
theorem WA(a:T)(bT:∀x∈a.args,∀b:T,bH al 125 [x.e,b.e] (.int .i64 (er x b)))(b:T):bH al 125 [a.e,b.e] (.int .i64 (er a b)):=by
 have hle:a.args.length≤2:=by cases a<;>simp
 by_cases ad:a.kind=b.kind
 ·by_cases hi:a.int=b.int
  ·by_cases aA:a.name=b.name
   ·have hlen:a.args.length=b.args.length:=by cases a<;>cases b<;>simp at ad⊢
    refine bf Ap D9 FG fun aP=>?_;unfold AV;simp[ad,hi,aA];refine dW [2,3] (fun i (_:Unit)=>[(5,.int .i64 i)]) a.args.length (B1 a b) () b0 (by simp[B1]) (fun _ af _=>?_) (fun i _ bC af _=>?_)
    ·simp;(with_reducible repeat' first|refine aj ?_|simp);simp[bt,zY,aX,aZ,aW];unfold B1 at af;rw[hl (by omega),hl (by omega)]at af;exact((qz a b).2 (Xw ad hi aA af)).symm
    ·have qo:i<b.args.length:=by omega
     obtain⟨x,ab⟩:∃x,x=a.args[i]:=⟨_,rfl⟩;obtain⟨y,aG⟩:∃y,y=b.args[i]:=⟨_,rfl⟩;have o0:=bT x (by rw[ab];exact List.getElem_mem bC) y;simp[bC,qo,←ab,←aG];(with_reducible repeat' first|((first|apply bP|apply bS|apply bR)<;>intro h<;>try simp at h)|refine aj ?_|refine aD o0 ?_|refine aE o0 ?_|simp)
     ·simp[bt,zY,aX,aZ,aW];unfold B1 at af;cases a with
      |pair bE a2=>
       cases b with
       |pair cc b4=>
        simp at bC af ab aG;rcases(by omega:i=0∨i=1)with rfl|rfl
        ·simp at ab aG;subst ab aG;simp[er,h]
        ·simp at af ab aG;subst ab aG af;simp[er,(qz bE bE).2 rfl]
       |_=>simp at ad
      |_=>simp at bC
     ·refine bN.rng () bC ?_ b0;unfold B1 at af⊢;rw[List.take_succ,List.take_succ,af,cf bC,cf qo,←ab,←aG,(qz x y).1 h]
   ·refine bf Ap D9 FG fun aP=>?_;unfold AV;simp[ad,hi,aA];((with_reducible repeat' first|refine aj ?_|refine aD (qI _) ?_|refine aE (qI _) ?_|simp|((first|apply bP|apply bS|apply bR)<;>intro h<;>try simp at h))<;>(try exact cp));simp[bt,zY,aX,aZ,aW];have:a.args=[]∨b.args=[]:=by cases a<;>cases b<;>simp at ad aA⊢
    rw[aiq this ad hi,kr,if_neg aA]
  ·refine bf Ap D9 FG fun aP=>?_;unfold AV;simp[ad,hi];((with_reducible repeat' first|refine aj ?_|refine aD (qI _) ?_|refine aE (qI _) ?_|simp|((first|apply bP|apply bS|apply bR)<;>intro h<;>try simp at h))<;>(try exact cp));simp[bt,zY,aX,aZ,aW];cases a<;>cases b<;>simp at ad hi
   ·rw[Uq];simp[ev];split<;>(try split)<;>omega
   ·rw[Up];simp[ev];split<;>(try split)<;>omega
 ·refine bf Ap D9 FG fun aP=>?_;unfold AV;simp[ad];((with_reducible repeat' first|refine aj ?_|refine aD (qI _) ?_|refine aE (qI _) ?_|simp|((first|apply bP|apply bS|apply bR)<;>intro h<;>try simp at h))<;>(try exact cp));simp[bt,zY,aX,aZ,aW];rw[rA ad];simp[ev];split<;>(try split)<;>omega
theorem GO(a:T):∀b:T,bH al 125 [a.e,b.e] (.int .i64 (er a b)):=by
 induction a with
 |pair x y o0 rl=>
  refine WA _ fun z bD=>?_;simp at bD;rcases bD with rfl|rfl
  ·exact o0
  ·exact rl
 |_=>exact WA _ fun x ab=>by simp at ab
theorem WD(a b:T):bH al 129 [a.e,b.e] (.bool (decide (a=b))):=by refine bf Ap abF ah4 fun aP=>?_;unfold Pd;simp;(with_reducible repeat' first|refine aj ?_|refine aD (GO _ _) ?_|refine aE (GO _ _) ?_|simp);simp[bt,Ve,aX,aZ,aW];have:=qz a b;by_cases h:er a b=0<;>simp_all
theorem alF{s t:List ar}(ag:eM s)(aN:eM t):bH al 153 [.slice 5 .no (s.map ar.e),.slice 5 .no (t.map ar.e)] (.slice 5 .no ((gv s t).map ar.e)):=by
 have aey:=aN.len;generalize bh:gv s t=R;refine bf rK abP aie fun aP=>?_;unfold Po;simp;refine hQ (α:=List ar) (fun i out=>⟨[(0,.slice 5 .no (s.map ar.e)),(11,.slice 5 .no (t.map ar.e)),(12,.int .i64 t.length),(5,.slice 5 (.own (.loc 0)) (out.map ar.e)),(13,.int .i64 i)],[],[(.loc 0,⟨out.length,113,5,none⟩)],1,[]⟩) t.length (qv s t) [] b0 (by simp[qv,gv]) (fun out af _=>?_) (fun i out hi af _=>?_)
 ·rw[qv,hl (eR _),bh]at af;rw[←af];exact b2
 ·obtain⟨b,aJ,fY⟩:=ed hi;have y7:out.length≤1000000:=by
   have:out.length≤(t.take i).length:=by rw[af];exact List.length_filter_le _ _
   simp at this;omega
  have jx:=uB s b.v ag.len;cases ae:dh s b.v with
  |none=>
   have aA:qv s t (i+1) (out++[b]):=by rw[qv,ox aJ,gv,List.filter_append,af];simp[gv,ae]
   rw[ae]at jx;simp only[kQ,j6]at jx;clear af aJ ae;simp[hi,fY];(with_reducible repeat' first|refine aj ?_|refine aD jx ?_|refine aE jx ?_|simp[fY,hi]);all_goals first|(refine⟨by unfold lim;omega,?_⟩)|skip
   (with_reducible repeat' first|refine aj ?_|simp);refine bN.rng (out++[b]) hi aA ?_;simp;exact⟨by simp[fresh,aK,aC,cd,inObs,Pv.look,iV],dZ (by simp[fresh,aK,aC,cd,inObs,Pv.look,iV]),ea (by simp[fresh,aK,aC,dQ,inObs,Pv.look,iV]),by simp⟩
  |some x=>
   have aA:qv s t (i+1) out:=by rw[qv,ox aJ,gv,List.filter_append,af];simp[gv,ae]
   rw[ae]at jx;simp only[ky,p3]at jx;clear af aJ ae;simp[hi,fY];(with_reducible repeat' first|refine aj ?_|refine aD jx ?_|refine aE jx ?_|simp[fY,hi]);refine bN.rng out hi aA ?_;exact b0
theorem ak8{s t:List ar}(ag:eM s)(aN:eM t):bH al 203 [.slice 5 .no (s.map ar.e),.slice 5 .no (t.map ar.e)] (.bool (mX s t)):=by
 have pD:=ag.len;generalize bh:mX s t=R;have cV:=WS ag;have dH:=WS aN;refine bf rK abx ahW fun aP=>?_;unfold O5;simp;(with_reducible repeat' first|refine aj ?_|refine aD cV ?_|refine aE cV ?_|refine aD dH ?_|refine aE dH ?_|simp);refine dW [1,19,20] (fun i (_:Unit)=>[(21,.int .i64 i)]) s.length (o2 (rs t) s) () b0 (fun k b ad=>by omega) (fun _ af _=>?_) (fun i _ hi af _=>?_)
 ·have:R=true:=by rw[←bh,mX,jb];intro b ae;obtain⟨k,ad,e⟩:=ni ae;exact af k b ad (by rw[cf ad,e])
  rw[this];exact b2
 ·obtain⟨b,aJ,fY⟩:=ed hi;have gr:rs t b=false→R=false:=fun h=>by rw[←bh,Bool.eq_false_iff];intro cr;rw[mX,jb]at cr;rw[cr b (eG aJ)]at h;cases h
  have aT:=Mn t aN.len (.var b.v);have bz:=Mn t aN.len b.t;have xi:=CW aN b.v;have EV:((T.var b.v).ap (cB t)).size≤5000:=xi;rw[jk EV]at aT;rw[show(T.var b.v).ap (cB t)=cB t b.v from rfl]at aT;by_cases bD:(b.t.ap (cB t)).size≤5000
  ·rw[jk bD]at bz;by_cases he:cB t b.v=b.t.ap (cB t)
   ·have aA:=af.step aJ (by simp[rs,he]);have fx:=WD (cB t b.v) (b.t.ap (cB t));rw[jk he]at fx;clear af aJ;simp[hi,fY];(with_reducible repeat' first|refine aj ?_|refine aD (j3 _) ?_|refine aE (j3 _) ?_|refine aD aT ?_|refine aE aT ?_|refine aD bz ?_|refine aE bz ?_|refine aD fx ?_|refine aE fx ?_|simp[fY,hi]);exact bN.rng () hi aA b0
   ·rw[gr (by simp[rs,he])];have fx:=WD (cB t b.v) (b.t.ap (cB t));rw[jH he]at fx;clear af aJ;simp[hi,fY];(with_reducible repeat' first|refine aj ?_|refine aD (j3 _) ?_|refine aE (j3 _) ?_|refine aD aT ?_|refine aE aT ?_|refine aD bz ?_|refine aE bz ?_|refine aD fx ?_|refine aE fx ?_|simp[fY,hi]);simp[bt,Lh,aX,aZ,aW]
  ·rw[jH bD]at bz;rw[gr (by simp only[rs,hE];intro e;rw[←e]at bD;exact bD xi)];clear af aJ;simp[hi,fY];(with_reducible repeat' first|refine aj ?_|refine aD (j3 _) ?_|refine aE (j3 _) ?_|refine aD aT ?_|refine aE aT ?_|refine aD bz ?_|refine aE bz ?_|simp[fY,hi]);simp[bt,Lh,aX,aZ,aW]
theorem Mo(d e:List ar):bH al 155 [.slice 5 .no (d.map ar.e),.slice 5 .no (e.map ar.e)] (.int .i64 (eu d e)):=by
 generalize bh:eu d e=R;refine bf rK abR aih fun aP=>?_;unfold Pq;have aQ:d.length≤68719476736:=by simp[eB,ec,et,lim]at aP;omega
 have he:e.length≤68719476736:=by simp[eB,ec,et,lim]at aP;omega
 simp;refine uS [0,1] (fun(i:Nat)=>[(5,.int .i64 i)]) (fun i=>d.length-i) (JS d e) 0 b0 ⟨by omega,by omega,by simp⟩ (fun i af _=>?_);obtain⟨J,U,ao⟩:=af;rw[bh]at ao;by_cases hi:i<d.length
 ·by_cases ht:i<e.length
  ·obtain⟨x,ab⟩:∃x,d[i]? =some x:=⟨_,cf hi⟩;obtain⟨y,aG⟩:∃y,e[i]? =some y:=⟨_,cf ht⟩;have cy:∀h,(d[i]'h)=x:=fun h=>by rw[cf hi]at ab;exact fB ab
   have eJ:∀h,(e[i]'h)=y:=fun h=>by rw[cf ht]at aG;exact fB aG
   have yV:d.drop i=x::d.drop (i+1):=by rw[k7 hi,cy]
   have yW:e.drop i=y::e.drop (i+1):=by rw[k7 ht,eJ]
   rw[yV,yW]at ao;rw[Un]at ao;by_cases a6:x.v=y.v
   ·have oh:ev x.v y.v=0:=(j1.zero _ _).2 a6;have sI:(x.v !=y.v)=false:=by simp[a6]
    rw[if_pos oh]at ao;by_cases bu:er x.t y.t=0
    ·rw[if_pos bu]at ao;have aA:JS d e (i+1):=⟨by omega,by omega,by rw[bh];exact ao⟩;have km:=GO x.t y.t;rw[bu]at km;clear yV yW ab aG ao oh;simp[hi,ht,cy,eJ];((with_reducible repeat' first|refine aj ?_|refine aD km ?_|refine aE km ?_|simp[cy,eJ,hi,ht,a6,sI]|((first|apply bP|apply bS|apply bR)<;>intro h<;>try simp at h))<;>(try exact cp));all_goals exact bN.whl (i+1) (by omega) aA b0
    ·rw[if_neg bu]at ao;have km:=GO x.t y.t;have xL:(er x.t y.t !=0)=true:=by simp[bu]
     clear yV yW ab aG oh;simp[hi,ht,cy,eJ];(with_reducible repeat' first|refine aj ?_|refine aD km ?_|refine aE km ?_|simp[cy,eJ,hi,ht,a6,sI,bu,xL]);all_goals simp[bt,CL,aX,aZ,aW]
     all_goals exact ao
   ·have oh:¬ev x.v y.v=0:=fun h=>a6 ((j1.zero _ _).1 h);have sI:(x.v !=y.v)=true:=by simp[a6]
    rw[if_neg oh]at ao;have dC:R=if decide (x.v<y.v)=true then-1 else 1:=by rw[←ao];unfold ev;simp only[fH];(repeat' split)<;>omega
    clear yV yW ab aG ao oh;rw[dC];simp[hi,ht,cy,eJ];(with_reducible repeat' first|refine aj ?_|refine aD (qI _) ?_|refine aE (qI _) ?_|simp[cy,eJ,hi,ht,a6,sI]);all_goals simp[bt,CL,aX,aZ,aW]
  ·have hle:e.length<d.length:=by omega
   have:(1:Int)=R:=by rw[←ao,eu,Cc _ _ _ (.inr (List.drop_eq_nil_of_le (by omega)))];simp only[rS];unfold ev;(repeat' split)<;>omega
   have cF:¬(d.length:Int)=e.length:=by omega
   have Jl:((d.length:Int) !=e.length)=true:=by simp;omega
   have ju:¬(d.length:Int)<e.length:=by omega
   have BG:¬d.length<e.length:=by omega
   have ad6:¬d.length=e.length:=by omega
   clear ao;rw[←this];simp[hi,ht];(with_reducible repeat' first|refine aj ?_|refine aD (qI _) ?_|refine aE (qI _) ?_|simp[hi,ht,cF,Jl,ju,BG,ad6]);all_goals simp[bt,CL,aX,aZ,aW]
   all_goals(try simp[BG])
 ·have eU:i=d.length:=by omega
  by_cases au:d.length=e.length
  ·have:(0:Int)=R:=by rw[←ao,eu,Cc _ _ _ (.inl (List.drop_eq_nil_of_le (by omega)))];simp only[rS];unfold ev;(repeat' split)<;>omega
   clear ao;rw[←this];exact b2
  ·have:(-1:Int)=R:=by rw[←ao,eu,Cc _ _ _ (.inl (List.drop_eq_nil_of_le (by omega)))];simp only[rS];unfold ev;(repeat' split)<;>omega
   have cF:¬(d.length:Int)=e.length:=by omega
   have Jl:((d.length:Int) !=e.length)=true:=by simp;omega
   have ju:(d.length:Int)<e.length:=by omega
   have BG:d.length<e.length:=by omega
   clear ao;rw[←this];simp[hi];(with_reducible repeat' first|refine aj ?_|refine aD (qI _) ?_|refine aE (qI _) ?_|simp[hi,cF,Jl,ju,BG,au]);all_goals simp[bt,CL,aX,aZ,aW]
   all_goals(try simp[BG])
def afd(n:Int)(a b:T)(i:Nat)(_:Unit):Prop:=(1≤i→ez n a=true)∧(2≤i→ez n b=true)
theorem uC(n:Int):∀t:T,bH al 148 [t.e,.int .i64 n] (.bool (ez n t))
 | .pair a b=>by
  have dR:=uC n a;have dS:=uC n b;refine bf rK A9 Cz fun aP=>?_;unfold yx;simp;refine dW [1,2,8,9] (fun i (_:Unit)=>[(10,.int .i64 i)]) 2 (afd n a b) () b0 ⟨fun h=>by omega,fun h=>by omega⟩ (fun _ af _=>?_) (fun i _ hi af _=>?_)
  ·simp;(with_reducible repeat' first|refine aj ?_|simp);simp[bt,vL,aX,aZ,aW];simp[ez,af.1,af.2]
  ·rcases(by omega:i=0∨i=1)with rfl|rfl
   ·cases bF:ez n a
    ·rw[bF]at dR;simp;(with_reducible repeat' first|refine aj ?_|refine aD dR ?_|refine aE dR ?_|simp);simp[bt,vL,aX,aZ,aW];simp[ez,bF]
    ·rw[bF]at dR;simp;((with_reducible repeat' first|refine aj ?_|refine aD dR ?_|refine aE dR ?_|simp|((first|apply bP|apply bS|apply bR)<;>intro h<;>try simp at h))<;>(try exact cp));exact bN.rng () hi ⟨fun _=>bF,fun h=>by omega⟩ b0
   ·cases ae:ez n b
    ·rw[ae]at dS;simp;((with_reducible repeat' first|refine aj ?_|refine aD dS ?_|refine aE dS ?_|simp|((first|apply bP|apply bS|apply bR)<;>intro h<;>try simp at h))<;>(try exact cp));simp[bt,vL,aX,aZ,aW];simp[ez,ae]
    ·rw[ae]at dS;simp;((with_reducible repeat' first|refine aj ?_|refine aD dS ?_|refine aE dS ?_|simp|((first|apply bP|apply bS|apply bR)<;>intro h<;>try simp at h))<;>(try exact cp));exact bN.rng () hi ⟨fun _=>af.1 (by omega),fun _=>ae⟩ b0
 | .sym v=>by
  refine bf rK A9 Cz fun aP=>?_;unfold yx;simp;refine dW [1,2,8,9] (fun i (_:Unit)=>[(10,.int .i64 i)]) 0 (fun i _=>True) () b0 trivial (fun _ af _=>?_) (fun i _ hi af _=>by omega);simp;((with_reducible repeat' first|refine aj ?_|simp|((first|apply bP|apply bS|apply bR)<;>intro h<;>try simp at h))<;>(try exact cp));all_goals simp[bt,vL,aX,aZ,aW]
  all_goals simp[ez]
 | .num v=>by
  refine bf rK A9 Cz fun aP=>?_;unfold yx;simp;refine dW [1,2,8,9] (fun i (_:Unit)=>[(10,.int .i64 i)]) 0 (fun i _=>True) () b0 trivial (fun _ af _=>?_) (fun i _ hi af _=>by omega);simp;(with_reducible repeat' first|refine aj ?_|simp);all_goals simp[bt,vL,aX,aZ,aW]
  all_goals simp[ez]
 | .var v=>by
  refine bf rK A9 Cz fun aP=>?_;unfold yx;simp;refine dW [1,2,8,9] (fun i (_:Unit)=>[(10,.int .i64 i)]) 0 (fun i _=>True) () b0 trivial (fun _ af _=>?_) (fun i _ hi af _=>by omega);simp;(with_reducible repeat' first|refine aj ?_|simp);all_goals simp[bt,vL,aX,aZ,aW]
  all_goals simp[ez]
 | .nil=>by
  refine bf rK A9 Cz fun aP=>?_;unfold yx;simp;refine dW [1,2,8,9] (fun i (_:Unit)=>[(10,.int .i64 i)]) 0 (fun i _=>True) () b0 trivial (fun _ af _=>?_) (fun i _ hi af _=>by omega);simp;(with_reducible repeat' first|refine aj ?_|simp);all_goals simp[bt,vL,aX,aZ,aW]
  all_goals simp[ez]
theorem WN(s:List ar)(n:Int):bH al 80 [.slice 5 .no (s.map ar.e),.int .i64 n] (.bool (s.all (kC n))):=by
 generalize bh:s.all (kC n)=R;refine bf rK abX ain fun aP=>?_;unfold Px;have eO:s.length≤68719476736:=by simp[eB,ec,et,lim]at aP;omega
 simp;refine dW [1,7,8] (fun i (_:Unit)=>[(9,.int .i64 i)]) s.length (o2 (kC n) s) () b0 (fun k b ad=>by omega) (fun _ af _=>?_) (fun i _ hi af _=>?_)
 ·have:R=true:=by rw[←bh,jb];intro b ae;obtain⟨k,ad,e⟩:=ni ae;exact af k b ad (by rw[cf ad,e])
  rw[this];exact b2
 ·obtain⟨b,aJ,fY⟩:=ed hi;have gr:kC n b=false→R=false:=fun h=>by rw[←bh,Bool.eq_false_iff];intro cr;rw[jb]at cr;rw[cr b (eG aJ)]at h;cases h
  have kY:=uC n b.t;by_cases J:b.v<n
  ·have nt:¬n≤b.v:=by omega
   cases U:ez n b.t
   ·rw[gr (by simp[kC,U])];rw[U]at kY;clear af aJ;exact b2
   ·have aA:=af.step aJ (by simp[kC,J,U]);rw[U]at kY;clear af aJ;exact hN
  ·have nt:n≤b.v:=by omega
   rw[gr (by simp[kC,J])];clear af aJ;exact b2
theorem alH(l:List (List cT)):bH al 77 [.slice 1 .no (l.map fW)] (.bool (l.all gy)):=by
 generalize bh:l.all gy=R;refine bf rK abQ aif fun aP=>?_;unfold Pp;have eO:l.length≤68719476736:=by simp[eB,ec,et,lim]at aP;omega
 simp;refine dW [5,6] (fun i (_:Unit)=>[(7,.int .i64 i)]) l.length (o2 gy l) () b0 (fun k b ad=>by omega) (fun _ af _=>?_) (fun i _ hi af _=>?_)
 ·have:R=true:=by rw[←bh,jb];intro b ae;obtain⟨k,ad,e⟩:=ni ae;exact af k b ad (by rw[cf ad,e])
  rw[this];exact b2
 ·obtain⟨b,aJ,fY⟩:=ed hi;have cV:bH al 76 [fW b] (.bool (gy b)):=Mt b;cases ae:gy b
  ·have:R=false:=by rw[←bh,Bool.eq_false_iff];intro cr;rw[jb]at cr;rw[cr b (eG aJ)]at ae;cases ae
   rw[this];rw[ae]at cV;clear af aJ;exact b2
  ·have aA:=af.step aJ ae;rw[ae]at cV;clear af aJ;exact hN
theorem PT(a:List (List ar))(k:Nat)(m:List ar):lG k (a.map cH)++cH m::nh k (a.map cH)=(a.take k++m::a.drop k).map cH:=by simp
theorem qg(a:List (List ar))(k:Nat)(m:List ar):cY (lG k (a.map cH)++cH m::nh k (a.map cH))=lG k (a.map cH)++cH m::nh k (a.map cH):=by rw[PT,L3]
theorem qf(S:aH→Prop)(a:List (List ar))(k:Nat)(m:List ar):aK S (lG k (a.map cH)++cH m::nh k (a.map cH))=True:=by rw[PT,Ta]
theorem PS(a:List (List ar))(m:List ar):a.map cH++[cH m]=(a++[m]).map cH:=by simp
theorem qe(a:List (List ar))(m:List ar):cY (a.map cH++[cH m])=a.map cH++[cH m]:=by rw[PS,L3]
theorem qd(S:aH→Prop)(a:List (List ar))(m:List ar):aK S (a.map cH++[cH m])=True:=by rw[PS,Ta]
theorem WK(L:List (List ar))(jr:∀d∈L,eM d):bH al 154 [.slice 1 .no (L.map cH)] (.slice 1 .no ((kI L).map cH)):=by
 generalize bh:kI L=R;rw[aga]at bh;refine bf rK abT aij fun aP=>?_;unfold Ps;have eO:L.length≤68719476736:=by simp[eB,ec,et,lim]at aP;omega
 simp;refine dW [0,12,13] (fun i (a:List (List ar))=>[(3,.slice 1 .no (a.map cH)),(14,.int .i64 i)]) L.length (xo L) [] b0 (by simp[xo]) (fun a af _=>?_) (fun i a hi af _=>?_)
 ·rw[xo,nL,bh]at af;subst af;exact b2
 ·obtain⟨e,he,I5⟩:=ed hi;have q1:hF eu a:=by rw[af];exact Kv _ (by simp[hF])
  have q2:a.length≤i:=by have:=TO (L:=L) (L.take i) [];rw[af];simp at this⊢;omega
  have fl:=af.step he;have lq:=jr e (eG he);have bz:∀d,bH al 155 [cH d,cH e] (.int .i64 (eu d e)):=fun d=>Mo d e;clear af he;simp[hi,I5];(with_reducible repeat' first|refine aj ?_|simp[hi,I5]);refine dW [0,3,5,12,13,14,18,19] (fun j (b:Bool)=>[(6,.bool b),(20,.int .i64 j)]) L.length (pG L e) true b0 (by simp[pG]) (fun keep af _=>?_) (fun j keep dX af _=>?_)
  ·rw[pG,nL]at af;have RH:keep=iF L e:=af;rw[pQ,←RH]at fl;clear af RH;simp;(with_reducible repeat' first|refine aj ?_|simp);refine uS [0,3,5,6,12,13,14] (fun(k:Nat)=>[(9,.int .i64 k)]) (fun k=>k) (E3 a e) a.length b0 ⟨by omega,fun c h=>by simp at h⟩ (fun k af _=>?_);have ad:=af.1;rcases Nat.eq_zero_or_pos k with bA|fm
   ·have bD:decide ((0:Int)<k)=false:=by simp;omega
    have rk:¬(0:Int)<k:=by omega
    have dD:=af.fin q1 fun d h=>by omega
    clear af q1;cases keep with
    |false=>simp only[gP,if_false]at fl;clear dD;exact hN
    |true=>
     simp only[if_true]at fl;by_cases hd:k<a.length
     ·obtain⟨c,ax,jX⟩:=ed hd;rw[ax]at dD;by_cases q:eu c e=0
      ·rw[if_pos (by simp[q])]at dD;rw[dD]at fl;clear dD ax;simp[hd,jX,bD,rk];((with_reducible repeat' first|refine aj ?_|refine aD (bz _) ?_|refine aE (bz _) ?_|simp[hd,jX,q,bD,rk]|((first|apply bP|apply bS|apply bR)<;>intro h<;>try simp at h))<;>(try exact cp));all_goals exact bN.rng a hi fl b0
      ·rw[if_neg (by simp[q])]at dD;have gx:(eu c e !=0)=true:=by simp[q]
       rw[dD]at fl;clear dD ax;simp[hd,jX,bD,rk];((with_reducible repeat' first|refine aj ?_|refine aD (bz _) ?_|refine aE (bz _) ?_|simp[hd,jX,q,gx,bD,rk]|((first|apply bP|apply bS|apply bR)<;>intro h<;>try simp at h))<;>(try exact cp));all_goals first|(refine⟨by unfold lim;omega,?_⟩)|skip
       all_goals(with_reducible repeat' first|refine aj ?_|simp)
       all_goals first|(refine⟨by unfold lim;omega,?_⟩)|skip
       all_goals((with_reducible repeat' first|refine aj ?_|simp|((first|apply bP|apply bS|apply bR)<;>intro h<;>try simp at h))<;>(try exact cp))
       all_goals exact bN.rng _ hi fl ⟨by simp[fresh,aK,aC,cd,inObs,Pv.look,hl,qg,qf,qe,qd],dZ (by simp[fresh,aK,aC,cd,inObs,Pv.look,hl,qg,qf,qe,qd]),ea (by simp[fresh,aK,aC,dQ,inObs,Pv.look,hl,qg,qf,qe,qd]),by simp⟩
     ·rw[p1 (by omega)]at dD;simp only[gP,if_false]at dD;rw[dD]at fl;have ih:k=a.length:=by omega
      have sd:a.take k++e::a.drop k=a++[e]:=by rw[ih];simp
      rw[sd]at fl;clear dD sd;simp[hd,bD,rk];((with_reducible repeat' first|refine aj ?_|refine aD (bz _) ?_|refine aE (bz _) ?_|simp[hd,ih,bD,rk]|((first|apply bP|apply bS|apply bR)<;>intro h<;>try simp at h))<;>(try exact cp));all_goals first|(refine⟨by unfold lim;omega,?_⟩)|skip
      all_goals(with_reducible repeat' first|refine aj ?_|simp)
      all_goals first|(refine⟨by unfold lim;omega,?_⟩)|skip
      all_goals((with_reducible repeat' first|refine aj ?_|simp|((first|apply bP|apply bS|apply bR)<;>intro h<;>try simp at h))<;>(try exact cp))
      all_goals exact bN.rng _ hi fl ⟨by simp[fresh,aK,aC,cd,inObs,Pv.look,hl,qg,qf,qe,qd],dZ (by simp[fresh,aK,aC,cd,inObs,Pv.look,hl,qg,qf,qe,qd]),ea (by simp[fresh,aK,aC,dQ,inObs,Pv.look,hl,qg,qf,qe,qd]),by simp⟩
   ·obtain⟨d,aQ⟩:∃d,a[k-1]? =some d:=⟨_,cf (by omega)⟩;have ak:((k:Int)-1).toNat=k-1:=by omega
    have aB:∀h,(a[k-1]'h)=d:=fun h=>by rw[cf h]at aQ;exact fB aQ
    have iD:(0:Int)<k:=by omega
    have lS:k-1<a.length:=by omega
    by_cases ae:0≤eu d e
    ·have ag:E3 a e (k-1):=⟨by omega,fun c ax=>by rw[aQ]at ax;cases ax;exact ae⟩;clear af q1 fl aQ;simp[fm,iD,ak,aB,ae,lS];((with_reducible repeat' first|refine aj ?_|refine aD (bz _) ?_|refine aE (bz _) ?_|simp[fm,iD,ak,aB,ae,lS]|((first|apply bP|apply bS|apply bR)<;>intro h<;>try simp at h))<;>(try exact cp));refine bN.whl (k-1) (by omega) ag ?_;have bj:((k-1:Nat):Int)=(k:Int)-1:=by omega
     simp[bj];exact b0
    ·have dD:=af.fin q1 fun b8 _ me=>by rw[aQ]at me;cases me;omega
     clear af q1 aQ;cases keep with
     |false=>simp only[gP,if_false]at fl;clear dD;simp[fm,iD,ak,aB,ae,lS];(with_reducible repeat' first|refine aj ?_|refine aD (bz _) ?_|refine aE (bz _) ?_|simp[fm,iD,ak,aB,ae,lS]);all_goals exact bN.rng a hi fl b0
     |true=>
      simp only[if_true]at fl;by_cases hd:k<a.length
      ·obtain⟨c,ax,jX⟩:=ed hd;rw[ax]at dD;by_cases q:eu c e=0
       ·rw[if_pos (by simp[q])]at dD;rw[dD]at fl;clear dD ax;simp[hd,jX,fm,iD,ak,aB,ae,lS];((with_reducible repeat' first|refine aj ?_|refine aD (bz _) ?_|refine aE (bz _) ?_|simp[hd,jX,q,fm,iD,ak,aB,ae,lS]|((first|apply bP|apply bS|apply bR)<;>intro h<;>try simp at h))<;>(try exact cp));all_goals exact bN.rng a hi fl b0
       ·rw[if_neg (by simp[q])]at dD;have gx:(eu c e !=0)=true:=by simp[q]
        rw[dD]at fl;clear dD ax;simp[hd,jX,fm,iD,ak,aB,ae,lS];((with_reducible repeat' first|refine aj ?_|refine aD (bz _) ?_|refine aE (bz _) ?_|simp[hd,jX,q,gx,fm,iD,ak,aB,ae,lS]|((first|apply bP|apply bS|apply bR)<;>intro h<;>try simp at h))<;>(try exact cp));all_goals first|(refine⟨by unfold lim;omega,?_⟩)|skip
        all_goals(with_reducible repeat' first|refine aj ?_|simp)
        all_goals first|(refine⟨by unfold lim;omega,?_⟩)|skip
        all_goals((with_reducible repeat' first|refine aj ?_|simp|((first|apply bP|apply bS|apply bR)<;>intro h<;>try simp at h))<;>(try exact cp))
        all_goals exact bN.rng _ hi fl ⟨by simp[fresh,aK,aC,cd,inObs,Pv.look,hl,qg,qf,qe,qd],dZ (by simp[fresh,aK,aC,cd,inObs,Pv.look,hl,qg,qf,qe,qd]),ea (by simp[fresh,aK,aC,dQ,inObs,Pv.look,hl,qg,qf,qe,qd]),by simp⟩
      ·rw[p1 (by omega)]at dD;simp only[gP,if_false]at dD;rw[dD]at fl;have ih:k=a.length:=by omega
       have sd:a.take k++e::a.drop k=a++[e]:=by rw[ih];simp
       rw[sd]at fl;clear dD sd;simp[hd,fm,iD,ak,aB,ae,lS];((with_reducible repeat' first|refine aj ?_|refine aD (bz _) ?_|refine aE (bz _) ?_|simp[hd,ih,fm,iD,ak,aB,ae,lS]|((first|apply bP|apply bS|apply bR)<;>intro h<;>try simp at h))<;>(try exact cp));all_goals first|(refine⟨by unfold lim;omega,?_⟩)|skip
       all_goals(with_reducible repeat' first|refine aj ?_|simp)
       all_goals first|(refine⟨by unfold lim;omega,?_⟩)|skip
       all_goals(with_reducible repeat' first|refine aj ?_|simp)
       all_goals exact bN.rng _ hi fl ⟨by simp[fresh,aK,aC,cd,inObs,Pv.look,hl,qg,qf,qe,qd],dZ (by simp[fresh,aK,aC,cd,inObs,Pv.look,hl,qg,qf,qe,qd]),ea (by simp[fresh,aK,aC,dQ,inObs,Pv.look,hl,qg,qf,qe,qd]),by simp⟩
  ·obtain⟨d,aQ,hdi⟩:=ed dX;have aA:=af.step aQ;have lU:=jr d (eG aQ);have dU:bH al 203 [cH d,cH e] (.bool (mX d e)):=ak8 lU lq;clear af aQ fl q1;cases keep with
   |false=>simp only[Bool.false_and]at aA;exact hN
   |true=>
    simp only[Bool.true_and,vs]at aA;by_cases q:eu d e=0
    ·rw[jk ((ly.zero _ _).1 q),Bool.true_or]at aA;simp[dX,hdi];(with_reducible repeat' first|refine aj ?_|refine aD (bz _) ?_|refine aE (bz _) ?_|simp[dX,hdi,q]);all_goals exact bN.rng true dX aA b0
    ·rw[jH (fun h=>q ((ly.zero _ _).2 h)),Bool.false_or]at aA;have gx:(eu d e==0)=false:=by simp[q]
     cases a7:mX d e
     ·rw[a7]at aA dU;simp[dX,hdi];(with_reducible repeat' first|refine aj ?_|refine aD (bz _) ?_|refine aE (bz _) ?_|refine aD dU ?_|refine aE dU ?_|simp[dX,hdi,q,gx]);all_goals exact bN.rng true dX aA b0
     ·rw[a7]at aA dU;simp[dX,hdi];(with_reducible repeat' first|refine aj ?_|refine aD (bz _) ?_|refine aE (bz _) ?_|refine aD dU ?_|refine aE dU ?_|simp[dX,hdi,q,gx]);all_goals exact bN.rng false dX aA b0
theorem mn.fst{s:List (List ar)}{t:List ar}{acc:List (List ar)}(h:mn s 0 acc)(aN:s[0]? =some t):mn s 1 (if iF s t=true then acc++[t]else acc):=by
 unfold mn at*;rw[sy aN]at h;have e:(if(1:Nat)=0 then none else s[1-1]?)=some t:=by simpa using aN
 have cr:acc++(t::cG (some t) (s.drop 1)).filter (iF s)=(cG none s).filter (iF s):=by rw[←h];simp[cG]
 rw[e,←cr];by_cases ad:iF s t=true<;>simp[ad]
theorem mn.eq{s:List (List ar)}{i:Nat}{t:List ar}{acc:List (List ar)}(h:mn s i acc)(hi:i≠0)(bJ:s[i-1]? =some t)(aN:s[i]? =some t):mn s (i+1) acc:=by
 unfold mn at*;rw[if_neg hi,bJ,sy aN]at h;have e:(if i+1=0 then none else s[i+1-1]?)=some t:=by rw[if_neg (by omega)];exact aN
 rw[e,←h];simp[cG]
theorem mn.ne{s:List (List ar)}{i:Nat}{p t:List ar}{acc:List (List ar)}(h:mn s i acc)(hi:i≠0)(bJ:s[i-1]? =some p)(aN:s[i]? =some t)(aA:¬p=t):mn s (i+1) (if iF s t=true then acc++[t]else acc):=by
 unfold mn at*;rw[if_neg hi,bJ,sy aN]at h;have e:(if i+1=0 then none else s[i+1-1]?)=some t:=by rw[if_neg (by omega)];exact aN
 have aQ:cG (some p) (t::s.drop (i+1))=t::cG (some t) (s.drop (i+1)):=by simp[cG,aA]
 rw[aQ]at h;rw[e,←h];by_cases ad:iF s t=true<;>simp[ad]
theorem aku(l:List (List ar)):(oq eu l).length=l.length:=(x3 eu l).length_eq
theorem xr(S:aH→Prop)(l:List (List ar))(d:List ar):aK S (l.map cH++[cH d])=True:=by have:=J3 S (l++[d]);rw[List.map_append]at this;exact eq_true this
set_option maxRecDepth 4000 in
theorem ak7(l:List (List ar))(jr:∀d∈l,eM d):bH al 167 [.slice 1 .no (l.map cH)] (.slice 1 .no ((kI l).map cH)):=by
 generalize bh:kI l=R;rw[af9]at bh;refine bf vX aac agC fun aP=>?_;unfold NG;have eO:l.length≤68719476736:=by simp[eB,ec,et,lim]at aP;omega
 simp;refine dW [0,12,13] (fun i (_:Unit)=>[(14,.int .i64 i)]) l.length (fun _ _=>True) () b0 trivial (fun _ _ _=>?_) (fun i _ hi _ _=>?_);rotate_left
 ·obtain⟨e,he,I5⟩:=ed hi;have cV:bH al 86 [cH e] (.bool true):=pb (jr e (eG he));exact hN
 simp;(with_reducible repeat' first|refine aj ?_|simp);all_goals first|(refine⟨by unfold lim;omega,?_⟩)|skip
 all_goals(with_reducible repeat' first|refine aj ?_|simp)
 refine c7.ob (acM l eO) (G6 l) (by unfold s8 dM;exact aR) (by unfold s8 dM;exact aR) (by simp[inObs,dM,Pv.look]) ?_;rintro r ai ⟨rfl,rfl⟩;refine⟨wq _ _,?_⟩;obtain⟨s,BR⟩:∃s,s=oq eu l:=⟨_,rfl⟩;have pD:s.length=l.length:=by rw[BR];exact aku l
 have ag:∀d∈s,eM d:=fun d aQ=>jr d (by rw[BR,VV]at aQ;exact aQ);rw[←BR]at bh;rw[←BR];clear BR;simp[s8,dM,cv];refine hQ (fun i (acc:List (List ar))=>⟨[(5,.ptr (.obj 822) 0),(6,.slice 1 (.own (.loc 0)) (acc.map cH)),(30,.row 1 (.obj 821) s.length),(31,.int .i64 s.length),(32,.int .i64 i)],[(.obj 822,[.row 1 (.obj 821) s.length])],[(.loc 0,⟨acc.length,46,1,none⟩),(.obj 821,⟨s.length,46,1,some (s.map cH)⟩)],1,[.obj 821,.obj 822]⟩) s.length (fun i acc=>acc.length≤i∧mn s i acc) [] b0 ⟨by simp,by simp[mn]⟩ (fun acc af _=>?_) (fun i acc hi af _=>?_)
 ·have af:=af.2;rw[mn,List.drop_length]at af;have:acc=R:=by rw[←bh];simpa[cG]using af
  subst this;exact b2
 ·obtain⟨anX,af⟩:=af;have q2:acc.length≤68719476735:=by omega
  obtain⟨t,qs,aN⟩:=ed hi;have dd:=ag t (eG qs);have km:bH al 168 [cH t] (cH t):=GN t dd.len;have jv:(if iF s t=true then acc++[t]else acc).length≤acc.length+1:=by split<;>simp
  rcases Nat.eq_zero_or_pos i with rfl|fm
  ·have RS:=af.fst qs;have fl:(if iF s t=true then acc++[t]else acc).length≤0+1∧mn s (0+1) (if iF s t=true then acc++[t]else acc):=⟨j4 jv (by omega),RS⟩;clear af RS qs;simp[hi,aN];(with_reducible repeat' first|refine aj ?_|simp[hi,aN]);refine dW [5,6,8,30,31,32,49,50] (fun j (b:Bool)=>[(9,.bool b),(51,.int .i64 j)]) s.length (pG s t) true b0 (by simp[pG]) (fun keep af _=>?_) (fun j keep dX af _=>?_)
   ·rw[pG,nL,←SO]at af;rw[←af]at fl;clear af;cases keep with
    |false=>simp only[gP,if_false]at fl;simp;((with_reducible repeat' first|refine aj ?_|simp|((first|apply bP|apply bS|apply bR)<;>intro h<;>try simp at h))<;>(try exact cp));all_goals exact bN.rng acc hi fl b0
    |true=>
     simp only[if_true]at fl;clear jv;simp;((with_reducible repeat' first|refine aj ?_|refine aD km ?_|refine aE km ?_|simp|((first|apply bP|apply bS|apply bR)<;>intro h<;>try simp at h))<;>(try exact cp));all_goals first|(refine⟨by unfold lim;omega,?_⟩)|skip
     all_goals(with_reducible repeat' first|refine aj ?_|simp)
     all_goals exact bN.rng (acc++[t]) hi fl ⟨by simp[fresh,aK,aC,cd,inObs,Pv.look,xr],dZ (by simp[fresh,aK,aC,cd,inObs,Pv.look,xr]),ea (by simp[fresh,aK,aC,dQ,inObs,Pv.look,xr]),by simp⟩
   ·obtain⟨d,aQ,hdi⟩:=ed dX;have aA:=af.step aQ;have lU:=ag d (eG aQ);have dU:bH al 208 [cH d,cH t] (.bool (mX d t)):=WO d lU.len dd;have od:bH al 207 [cH d,cH t] (.int .i64 (eu d t)):=GU d t;clear af aQ fl;by_cases q:eu d t=0
    ·rw[vs,jk ((ly.zero _ _).1 q),Bool.true_or,Bool.and_true]at aA;rw[q]at od;simp[dX,hdi];((with_reducible repeat' first|refine aj ?_|refine aD od ?_|refine aE od ?_|simp[dX,hdi]|((first|apply bP|apply bS|apply bR)<;>intro h<;>try simp at h))<;>(try exact cp));all_goals exact bN.rng keep dX aA b0
    ·rw[vs,jH (fun h=>q ((ly.zero _ _).2 h)),Bool.false_or]at aA;have gx:(eu d t !=0)=true:=by simp[q]
     cases a7:mX d t
     ·rw[a7]at aA dU;simp only[Bool.not_false,Bool.and_true]at aA;simp[dX,hdi];((with_reducible repeat' first|refine aj ?_|refine aD od ?_|refine aE od ?_|refine aD dU ?_|refine aE dU ?_|simp[dX,hdi,q,gx]|((first|apply bP|apply bS|apply bR)<;>intro h<;>try simp at h))<;>(try exact cp));all_goals exact bN.rng keep dX aA b0
     ·rw[a7]at aA dU;simp only[Bool.not_true,Bool.and_false]at aA;simp[dX,hdi];((with_reducible repeat' first|refine aj ?_|refine aD od ?_|refine aE od ?_|refine aD dU ?_|refine aE dU ?_|simp[dX,hdi,q,gx]|((first|apply bP|apply bS|apply bR)<;>intro h<;>try simp at h))<;>(try exact cp));all_goals exact bN.rng false dX aA b0
  ·obtain⟨p,za⟩:∃p,s[i-1]? =some p:=⟨_,cf (by omega)⟩;have ak:((i:Int)-1).toNat=i-1:=by omega
   have aB:∀h,(s[i-1]'h)=p:=fun h=>by rw[cf h]at za;exact fB za
   have bj:¬i=0:=by omega
   have de:i-1<s.length:=by omega
   have iD:(0:Int)<i:=by omega
   have iU:bH al 207 [cH p,cH t] (.int .i64 (eu p t)):=GU p t;by_cases EN:p=t
   ·have fl:acc.length≤i+1∧mn s (i+1) acc:=⟨by omega,af.eq bj (by rw[za,EN]) qs⟩;rw[(ly.zero _ _).2 EN]at iU;clear af qs za;simp[hi,aN,ak,aB,de,iD];((with_reducible repeat' first|refine aj ?_|refine aD iU ?_|refine aE iU ?_|simp[hi,aN,ak,aB,de,fm,iD]|((first|apply bP|apply bS|apply bR)<;>intro h<;>try simp at h))<;>(try exact cp));all_goals exact bN.rng acc hi fl b0
   ·have fl:(if iF s t=true then acc++[t]else acc).length≤i+1∧mn s (i+1) (if iF s t=true then acc++[t]else acc):=⟨j4 jv (by omega),af.ne bj za qs EN⟩;have oh:¬eu p t=0:=fun h=>EN ((ly.zero _ _).1 h);have UA:(eu p t==0)=false:=by simp[oh]
    clear af qs za;simp[hi,aN,ak,aB,de,iD];((with_reducible repeat' first|refine aj ?_|refine aD iU ?_|refine aE iU ?_|simp[hi,aN,ak,aB,de,fm,iD,oh,UA]|((first|apply bP|apply bS|apply bR)<;>intro h<;>try simp at h))<;>(try exact cp));refine dW [5,6,8,30,31,32,49,50] (fun j (b:Bool)=>[(9,.bool b),(51,.int .i64 j)]) s.length (pG s t) true b0 (by simp[pG]) (fun keep af _=>?_) (fun j keep dX af _=>?_)
    ·rw[pG,nL,←SO]at af;rw[←af]at fl;clear af;cases keep with
     |false=>simp only[gP,if_false]at fl;simp;((with_reducible repeat' first|refine aj ?_|simp|((first|apply bP|apply bS|apply bR)<;>intro h<;>try simp at h))<;>(try exact cp));all_goals exact bN.rng acc hi fl b0
     |true=>
      simp only[if_true]at fl;clear jv;simp;(with_reducible repeat' first|refine aj ?_|refine aD km ?_|refine aE km ?_|simp);all_goals first|(refine⟨by unfold lim;omega,?_⟩)|skip
      all_goals(with_reducible repeat' first|refine aj ?_|simp)
      all_goals exact bN.rng (acc++[t]) hi fl ⟨by simp[fresh,aK,aC,cd,inObs,Pv.look,xr],dZ (by simp[fresh,aK,aC,cd,inObs,Pv.look,xr]),ea (by simp[fresh,aK,aC,dQ,inObs,Pv.look,xr]),by simp⟩
    ·obtain⟨d,aQ,hdi⟩:=ed dX;have aA:=af.step aQ;have lU:=ag d (eG aQ);have dU:bH al 208 [cH d,cH t] (.bool (mX d t)):=WO d lU.len dd;have od:bH al 207 [cH d,cH t] (.int .i64 (eu d t)):=GU d t;clear af aQ fl;by_cases q:eu d t=0
     ·rw[vs,jk ((ly.zero _ _).1 q),Bool.true_or,Bool.and_true]at aA;rw[q]at od;simp[dX,hdi];((with_reducible repeat' first|refine aj ?_|refine aD od ?_|refine aE od ?_|simp[dX,hdi]|((first|apply bP|apply bS|apply bR)<;>intro h<;>try simp at h))<;>(try exact cp));all_goals exact bN.rng keep dX aA b0
     ·rw[vs,jH (fun h=>q ((ly.zero _ _).2 h)),Bool.false_or]at aA;have gx:(eu d t !=0)=true:=by simp[q]
      cases a7:mX d t
      ·rw[a7]at aA dU;simp only[Bool.not_false,Bool.and_true]at aA;simp[dX,hdi];((with_reducible repeat' first|refine aj ?_|refine aD od ?_|refine aE od ?_|refine aD dU ?_|refine aE dU ?_|simp[dX,hdi,q,gx]|((first|apply bP|apply bS|apply bR)<;>intro h<;>try simp at h))<;>(try exact cp));all_goals exact bN.rng keep dX aA b0
      ·rw[a7]at aA dU;simp only[Bool.not_true,Bool.and_false]at aA;simp[dX,hdi];((with_reducible repeat' first|refine aj ?_|refine aD od ?_|refine aE od ?_|refine aD dU ?_|refine aE dU ?_|simp[dX,hdi,q,gx]|((first|apply bP|apply bS|apply bR)<;>intro h<;>try simp at h))<;>(try exact cp));all_goals exact bN.rng false dX aA b0
theorem amb(l:List T)(h:∀t∈l,t.fit=true):bH al 172 [.slice 4 .no (l.map T.e)] (.bool true):=by
 refine bf fE Qm Ua fun aP=>?_;unfold HD;have eO:l.length≤68719476736:=by simp[eB,ec,et,lim]at aP;omega
 simp;refine dW [5,6] (fun i (_:Unit)=>[(7,.int .i64 i)]) l.length (fun _ _=>True) () b0 trivial (fun _ _ _=>?_) (fun i _ hi _ _=>?_)
 ·exact b2
 ·obtain⟨t,aN,qs⟩:=ed hi;have dH:=Db (h t (eG aN));clear aN;exact hN
def iv(m:Int):cJ:=⟨[(.obj 831,[.int .i64 m])],[]⟩
theorem uF(m:Int):eo (iv m):=by unfold iv;exact eo.of ⟨by intro m;simp[Pv.look],by intro m;simp[Pv.look]⟩ (by simp) (by simp)
theorem Xu(a b:Int):Same (iv a) (iv b):=Same.keys (by simp[iv]) (by simp[iv])
theorem aco(v m hj:Int)(h:Df v m=some hj):bQ al 204 [.int .i64 v,.ptr (.obj 831) 0] (iv m) fun r ai=>r= .tuple []∧ai=iv hj:=by
 unfold Df at h;split at h;rotate_left
 ·cases h
 rename_i aJ;cases h;have ag:=uF m;simp only[iv]at ag⊢;by_cases hm:m<v+1
 ·rw[qJ,if_pos hm];refine bQ.mk mixed vX Qi T6 (by simp) ag.obj fun aP cQ=>?_;unfold Hz;simp;(with_reducible repeat' first|refine aj ?_|simp[hm]);(refine cR.at (iv (v+1)) (by simp) (by first|exact uF _|exact uF ‹_› _) (Same.keys (by simp[iv]) (by simp[iv])) (by simp only[iv,bU,bX];exact aR) (by simp only[iv,bU,bX];exact aR) ?_;simp[cX,K8,aX,aZ,aW,inObs,Pv.look,iv])
 ·rw[qJ,if_neg hm];refine bQ.mk mixed vX Qi T6 (by simp) ag.obj fun aP cQ=>?_;unfold Hz;simp;(with_reducible repeat' first|refine aj ?_|simp[hm]);(refine cR.at (iv m) (by simp) (by first|exact uF _|exact uF ‹_› _) (Same.keys (by simp[iv]) (by simp[iv])) (by simp only[iv,bU,bX];exact aR) (by simp only[iv,bU,bX];exact aR) ?_;simp[cX,K8,aX,aZ,aW,inObs,Pv.look,iv])
def wa(l:List T):Int:=l.foldl (fun m t=>t.fold qJ m) 0
def E4(l:List T)(i:Nat)(m:Int):Prop:=m=wa (l.take i)
theorem Wv(l:List T)(h:∀t∈l,t.fit=true):bH al 162 [.slice 4 .no (l.map T.e)] (.int .i64 (wa l)):=by
 have dH:=amb l h;generalize bh:wa l=R;refine bf vX aak agK fun aP=>?_;unfold NO;have eO:l.length≤68719476736:=by simp[eB,ec,et,lim]at aP;omega
 simp;(with_reducible repeat' first|refine aj ?_|refine aD dH ?_|refine aE dH ?_|simp);refine hQ (fun i (m:Int)=>⟨[(3,.ptr (.obj 831) 0),(9,.slice 4 .no (l.map T.e)),(10,.int .i64 l.length),(11,.int .i64 i)],[(.obj 831,[.int .i64 m])],[],0,[.obj 831]⟩) l.length (E4 l) 0 b0 rfl (fun m af _=>?_) (fun i m hi af _=>?_)
 ·rw[E4,nL,bh]at af;subst af;exact b2
 ·obtain⟨t,aN,qs⟩:=ed hi;have adB:t.ok=true:=by have:=h t (eG aN);simp only[T.fit,cA]at this;exact this.1
  have aA:E4 l (i+1) (t.fold qJ m):=by rw[E4,ox aN,wa,List.foldl_append,af];rfl
  have key:=IF iv uF Xu 204 [.ptr (.obj 831) 0] (fun a=>by simp[iv,inObs,Pv.look]) (by simp) Df (fun v a bn h=>aco v a bn h) t m _ (Mx t m adB);clear af aN;simp[hi,qs];(with_reducible repeat' first|refine aj ?_|simp[qs,hi]);(refine c7.ob (key) (by first|exact uF _|exact uF ‹_› _) (by simp only[iv,bU,bX];exact aR) (by simp only[iv,bU,bX];exact aR) (by simp[inObs,Pv.look,iv]) ?_;rintro r ai ⟨rfl,rfl⟩;refine⟨(Same.keys (by simp[iv]) (by simp[iv])),?_⟩;simp[cv,iv]);(with_reducible repeat' first|refine aj ?_|simp);refine bN.rng (t.fold qJ m) hi aA ?_;exact b0
theorem Ww{s:List ar}(ag:eM s){n:Int}(aA:0≤n):bH al 89 [.slice 5 .no (s.map ar.e),.int .i64 n] (.bool (s.all (kC n))):=by
 have pD:=ag.len;generalize bh:s.all (kC n)=R;refine bf vX aal agL fun aP=>?_;unfold NP;simp;refine dW [1,7,8] (fun i (_:Unit)=>[(9,.int .i64 i)]) s.length (o2 (kC n) s) () b0 (fun k b ad=>by omega) (fun _ af _=>?_) (fun i _ hi af _=>?_)
 ·have:R=true:=by rw[←bh,jb];intro b ae;obtain⟨k,ad,e⟩:=ni ae;exact af k b ad (by rw[cf ad,e])
  rw[this];exact b2
 ·obtain⟨b,aJ,fY⟩:=ed hi;have gr:kC n b=false→R=false:=fun h=>by rw[←bh,Bool.eq_false_iff];intro cr;rw[jb]at cr;rw[cr b (eG aJ)]at h;cases h
  have kY:=Wv [b.t] (fun t aN=>by simp at aN;subst aN;exact ag.fit b (eG aJ));have hle:=GY (n:=n) b.t 0;rw[show wa [b.t]=b.t.fold qJ 0 from rfl]at kY;simp only[gE,pe]at kY;generalize b.t.fold qJ 0=m at kY hle;by_cases J:b.v<n
  ·have nt:¬n≤b.v:=by omega
   cases U:ez n b.t
   ·have ao:n<m:=by rw[U]at hle;simp at hle;omega
    rw[gr (by simp[kC,U])];clear af aJ hle;exact b2
   ·have ao:¬n<m:=by rw[U]at hle;simp[aA]at hle;omega
    have y6:=af.step aJ (by simp[kC,J,U]);clear af aJ hle;exact hN
  ·have nt:n≤b.v:=by omega
   rw[gr (by simp[kC,J])];clear af aJ hle;exact b2
def uK:C:=(aa [cz 1 0,be 2 false] (.seq (aa [aF 11 0 1 1,av 12 1 11,aU 13 .lss 12 0,I 14 13,aq 14 false (aF 15 0 1 1),aq 14 false (av 16 1 15),aq 14 false (aU 17 .gtr 16 100000),c6 18 14 17,I 19 18,aq 19 false (aF 20 1 1 1),aq 19 false (av 21 1 20),aq 19 false (cE 22 86 21),aq 19 false (cw 23 22),c6 24 19 23,I 25 24,aq 25 false (aF 26 3 1 1),aq 25 false (av 27 1 26),aq 25 false (cE 28 87 27),aq 25 false (cw 29 28),c6 30 25 29,I 31 30,aq 31 false (aF 32 4 1 1),aq 31 false (av 33 1 32),aq 31 false (cE 34 88 33),aq 31 false (cw 35 34),c6 36 31 35,I 37 36,aq 37 false (aF 38 1 1 1),aq 37 false (av 39 1 38),aq 37 false (aF 40 0 1 1),aq 37 false (av 41 1 40),aq 37 false (ca 42 89 39 41),aq 37 false (cw 43 42),c6 44 37 43] (aS 44 (aa [be 2 false] .ret) .skip)) (.seq (aa [aF 45 2 1 1,av 46 1 45,cl 47 46,bW 48 0] (ft 49 48 47 (.seq (.block 1 (aa [cu 50 1 46 48,av 51 1 50,I 4 51] (aa [I 52 4,cE 53 86 52,cw 54 53,I 55 54,b3 55 false 56 4,aq 55 false (aF 57 0 1 1),aq 55 false (av 58 1 57),aq 55 false (ca 59 89 56 58),aq 55 false (cw 60 59),c6 61 55 60] (aS 61 (aa [be 2 false] .ret) .skip)))) (.region [aU 62 .add 48 1,I 48 62])))) (.seq (aa [aF 63 3 1 1,av 64 1 63,cl 65 64,bW 66 0] (.block 2 (.loop (aa [bm 67 .lss 66 65] (.seq (aS 67 .skip (.exit 2)) (.seq (.block 3 (aa [cu 68 2 64 66,aV 69 2 68,c1 (.alloc 6 none (.agg [.int .i64 0,.int .i64 0])),bL 2 6 69] (aa [aF 70 0 1 6,av 71 1 70,aF 72 0 1 1,av 73 1 72,bm 74 .geq 71 73] (aS 74 (aa [be 2 false] .ret) .skip)))) (.region [aU 75 .add 66 1,I 66 75]))))))) (.seq (aa [aF 76 4 1 1,av 77 1 76,cl 78 77,bW 79 0] (.block 4 (.loop (aa [bm 80 .lss 79 78] (.seq (aS 80 .skip (.exit 4)) (.seq (.block 5 (aa [cu 81 2 77 79,aV 82 2 81,c1 (.alloc 8 none (.agg [.int .i64 0,.str []])),bL 2 8 82] (aa [aF 83 0 1 8,av 84 1 83,aF 85 0 1 1,av 86 1 85,bm 87 .geq 84 86] (aS 87 (aa [be 2 false] .ret) .skip)))) (.region [aU 88 .add 79 1,I 79 88]))))))) (aa [aV 90 5 1,cE 91 90 90,I 89 91,cD 92 0 89,cD 93 1 89,dj 9 hv,bL 5 9 92,I 10 93] (aa [I 94 10,I 95 94,aq 95 true (aV 96 5 9),aq 95 true (aV 97 5 1),aq 95 true (ca 98 91 96 97),dx 99 95 98,I 2 99] .ret)))))))
@[simp] def aiK:List bs:=[.tmp 2]
def DL:C:=(aa [cz 1 0,dj 2 hv,be 3 false] (aa [aF 26 1 1 1,av 27 1 26,aF 28 3 1 1,av 29 1 28,ca 30 163 27 29,I 25 30,cD 31 0 25,cD 32 1 25,I 4 31,I 5 32] (aa [aF 34 1 1 1,av 35 1 34,aF 36 4 1 1,av 37 1 36,ca 38 164 35 37,I 33 38,cD 39 0 33,cD 40 1 33,I 6 39,I 7 40] (.seq (aa [I 41 5,cw 42 41,I 43 42,b3 43 false 44 7,aq 43 false (cw 45 44),c6 46 43 45] (aS 46 (aa [iq 47 hv [],bL 5 2 47,be 3 false] .ret) .skip)) (aa [c1 (.mkmap 48 none),I 8 48] (.seq (aa [I 49 4,cl 50 49,bW 51 0] (ft 52 51 50 (.seq (.block 1 (aa [cu 53 2 49 51,aV 54 2 53,c1 (.alloc 10 none (.agg [.int .i64 0,.int .i64 0])),bL 2 10 54] (aa [aF 55 1 1 10,av 56 1 55,aU 57 .eql 56 3] (aS 57 (.region [I 58 8,aF 59 0 1 10,av 60 1 59,c1 (.mput .i (.t 58) (.t 60) (.c (.bool true)))]) .skip)))) (.region [aU 61 .add 51 1,I 51 61])))) (aa [ek 62 2 100 [],I 11 62] (.seq (aa [I 63 6,cl 64 63,bW 65 0] (.block 2 (.loop (aa [bm 66 .lss 65 64] (.seq (aS 66 .skip (.exit 2)) (.seq (.block 3 (aa [cu 67 2 63 65,aV 68 2 67,c1 (.alloc 13 none (.agg [.int .i64 0,.str []])),bL 2 13 68] (aa [I 69 8,aF 70 0 1 13,av 71 1 70,b5 72 (.mget .i (.bool false) false (.t 69) (.t 71)),cw 73 72] (aS 73 (.region [I 74 11,aV 75 2 13,ek 76 2 100 [.t 75],gO 77 2 100 74 76,I 11 77]) .skip)))) (.region [aU 78 .add 65 1,I 65 78]))))))) (aa [ek 79 1 46 [],I 14 79] (.seq (aa [aF 80 2 1 1,av 81 1 80,cl 82 81,bW 83 0] (.block 4 (.loop (aa [bm 84 .lss 83 82] (.seq (aS 84 .skip (.exit 4)) (.seq (.block 5 (aa [cu 85 1 81 83,av 86 1 85,I 16 86] (aa [aF 88 1 1 1,av 89 1 88,I 90 16,ca 91 165 89 90,I 87 91,cD 92 0 87,cD 93 1 87,I 17 92,I 18 93] (.seq (aa [I 94 18,cw 95 94] (aS 95 (.exit 5) .skip)) (aa [I 97 17,I 98 4,ca 99 163 97 98,I 96 99,cD 100 0 96,cD 101 1 96,I 19 100,I 20 101] (aa [I 103 17,I 104 11,ca 105 164 103 104,I 102 105,cD 106 0 102,cD 107 1 102,I 21 106,I 22 107] (.seq (aa [I 108 20,cw 109 108,I 110 109,b3 110 false 111 22,aq 110 false (cw 112 111),c6 113 110 112] (aS 113 (.exit 5) .skip)) (aa [aF 114 1 1 1,av 115 1 114,I 116 17,ca 117 166 115 116,I 23 117] (.seq (aa [I 118 23,cl 119 118,aU 120 .eql 119 0] (aS 120 (aa [iq 121 hv [],bL 5 2 121,be 3 false] .ret) .skip)) (.region [I 122 14,I 123 23,ek 124 1 46 [.t 123],gO 125 1 46 122 124,I 14 125])))))))))) (.region [aU 126 .add 83 1,I 83 126]))))))) (aa [I 127 14,cE 128 167 127,I 24 128] (.seq (aa [I 129 24,cl 130 129,aU 131 .gtr 130 30] (aS 131 (aa [iq 132 hv [],bL 5 2 132,be 3 false] .ret) .skip)) (.seq (.drawn true 142 [aF 133 0 1 1,av 134 1 133,aF 135 1 1 1,av 136 1 135,cE 137 168 136,I 138 24,I 139 4,I 140 11,iq 141 hv [(0,1,(.t 134)),(1,1,(.t 137)),(2,1,(.t 138)),(3,1,(.t 139)),(4,1,(.t 140))],bL 5 2 141,be 3 true]) .ret)))))))))))))
@[simp] def zU:List bs:=[.cell 2 true 5,.tmp 3]
def wC:C:=(aa [cz 2 0,cz 3 1,be 4 false] (.seq (aa [aF 8 0 1 2,av 9 1 8,aF 10 0 1 3,av 11 1 10,bm 12 .neq 9 11,I 13 12,aq 13 false (aF 14 1 1 2),aq 13 false (av 15 1 14),aq 13 false (aF 16 1 1 3),aq 13 false (av 17 1 16),aq 13 false (ca 18 169 15 17),aq 13 false (cw 19 18),c6 20 13 19,I 21 20,aq 21 false (aF 22 2 1 2),aq 21 false (av 23 1 22),aq 21 false (cl 24 23),aq 21 false (aF 25 2 1 3),aq 21 false (av 26 1 25),aq 21 false (cl 27 26),aq 21 false (bm 28 .neq 24 27),c6 29 21 28,I 30 29,aq 30 false (aF 31 3 1 2),aq 30 false (av 32 1 31),aq 30 false (cl 33 32),aq 30 false (aF 34 3 1 3),aq 30 false (av 35 1 34),aq 30 false (cl 36 35),aq 30 false (bm 37 .neq 33 36),c6 38 30 37,I 39 38,aq 39 false (aF 40 4 1 2),aq 39 false (av 41 1 40),aq 39 false (cl 42 41),aq 39 false (aF 43 4 1 3),aq 39 false (av 44 1 43),aq 39 false (cl 45 44),aq 39 false (bm 46 .neq 42 45),c6 47 39 46] (aS 47 (aa [be 4 false] .ret) .skip)) (.seq (aa [aF 48 2 1 2,av 49 1 48,cl 50 49,bW 51 0] (ft 52 51 50 (.seq (.block 1 (aa [I 53 51,I 5 53] (.seq (.drawn true 103 [aF 54 2 1 2,av 55 1 54,I 56 5,cu 57 1 55 56,av 58 1 57,aF 59 2 1 3,av 60 1 59,I 61 5,cu 62 1 60 61,av 63 1 62,ca 64 169 58 63,cw 65 64]) (aS 65 (aa [be 4 false] .ret) .skip)))) (.region [aU 66 .add 51 1,I 51 66])))) (.seq (aa [aF 67 3 1 2,av 68 1 67,cl 69 68,bW 70 0] (.block 2 (.loop (aa [bm 71 .lss 70 69] (.seq (aS 71 .skip (.exit 2)) (.seq (.block 3 (aa [I 72 70,I 6 72] (.seq (.drawn true 103 [aF 73 3 1 2,av 74 1 73,I 75 6,cu 76 2 74 75,aV 77 2 76,aF 78 3 1 3,av 79 1 78,I 80 6,cu 81 2 79 80,aV 82 2 81,b5 83 (.beq true (some [false,false]) (.t 77) (.t 82))]) (aS 83 (aa [be 4 false] .ret) .skip)))) (.region [aU 84 .add 70 1,I 70 84]))))))) (.seq (aa [aF 85 4 1 2,av 86 1 85,cl 87 86,bW 88 0] (.block 4 (.loop (aa [bm 89 .lss 88 87] (.seq (aS 89 .skip (.exit 4)) (.seq (.block 5 (aa [I 90 88,I 7 90] (.seq (.drawn true 103 [aF 91 4 1 2,av 92 1 91,I 93 7,cu 94 2 92 93,aV 95 2 94,aF 96 4 1 3,av 97 1 96,I 98 7,cu 99 2 97 98,aV 100 2 99,b5 101 (.beq true (some [false,true]) (.t 95) (.t 100))]) (aS 101 (aa [be 4 false] .ret) .skip)))) (.region [aU 102 .add 88 1,I 88 102]))))))) (aa [be 4 true] .ret))))))
@[simp] def F2:List bs:=[.tmp 4]
def GI:List (Nat×dB):=[
 (3,⟨1,8,.int .i64,.int .i64 0⟩),
 (4,⟨1,1,.bool,.bool false⟩),
 (9,⟨1,16,.str,.str []⟩),
 (46,⟨1,24,.slice 113,.slice 5 .nil []⟩),
 (47,⟨1,24,.slice 46,.slice 1 .nil []⟩),
 (48,⟨1,24,.slice 98,.slice 2 .nil []⟩),
 (49,⟨1,24,.slice 100,.slice 2 .nil []⟩),
 (51,⟨5,104,.struct [(0,3),(1,46),(2,47),(3,48),(4,49)],.agg [.int .i64 0,.slice 5 .nil [],.slice 1 .nil [],.slice 2 .nil [],.slice 2 .nil []]⟩),
 (98,⟨2,16,.struct [(0,3),(1,3)],.agg [.int .i64 0,.int .i64 0]⟩),
 (100,⟨2,24,.struct [(0,3),(1,9)],.agg [.int .i64 0,.str []]⟩),
 (136,⟨1,8,.map 3 4,.junk⟩)]
theorem nG:fN al GI=true:=by kernel_rfl
theorem xE:bY GI uK aiK 1 Tryz.f29=true:=by kernel_rfl
theorem wE:al.funcs[(29:Nat)]? =some Tryz.f29:=Tryz.func29
theorem KL:bY GI DL zU 1 Tryz.f90=true:=by kernel_rfl
theorem Io:al.funcs[(90:Nat)]? =some Tryz.f90:=Tryz.func90
theorem zK:bY GI wC F2 2 Tryz.f91=true:=by kernel_rfl
theorem yE:al.funcs[(91:Nat)]? =some Tryz.f91:=Tryz.func91
def c8.e(s:c8):ah:= .agg [.int .i64 s.n,.slice 5 .no (s.b.map ar.e),.slice 1 .no (s.d.map cH),.slice 2 .no (s.k.map bK.e),.slice 2 .no (s.m.map bk.e)]
@[simp] theorem apd(S:aH→Prop)(s:c8):aC S s.e=True:=by simp[c8.e,aC,aK]
def jC(o:aY c8):ah:= .tuple [(o.getD lF).e,.bool o.isSome]
@[simp] theorem apb(S:aH→Prop)(o:aY c8):aC S (jC o)=True:=by simp[jC,aC,aK]
def tK(k:List bK)(i:Nat)(l:List (Int×Bool)):Prop:= ∀v,(c0 v l).getD false=(k.take i).any fun x=>x.v==v&&x.k==3
theorem tK.put{k:List bK}{i:Nat}{l:List (Int×Bool)}(h:tK k i l){x:bK}(ab:k[i]? =some x)(ao:x.k=3):tK k (i+1) (eP x.v true l):=fun v=>by
 rw[nc,ox ab,List.any_append,←h v];by_cases e:v=x.v
 ·rw[if_pos e];simp[e,ao]
 ·rw[if_neg e];have:(x.v==v)=false:=by simp;exact fun h=>e h.symm
  simp[this]
theorem tK.skip{k:List bK}{i:Nat}{l:List (Int×Bool)}(h:tK k i l){x:bK}(ab:k[i]? =some x)(ao:¬x.k=3):tK k (i+1) l:=fun v=>by
 rw[ox ab,List.any_append,←h v];have:(x.k==3)=false:=by simp[ao]
 simp[this]
theorem tK.fin{k:List bK}{l:List (Int×Bool)}(h:tK k k.length l)(ad:iU k)(x:bk):(c0 x.v l).getD false= !kq k x:=by rw[h x.v,nL,XI ad.asc,kq,bne,Bool.not_not]
def sr(k:List bK)(m:List bk)(i:Nat)(a:List bk):Prop:=a=(m.take i).filter (kq k)
theorem sr.step{k:List bK}{m:List bk}{i:Nat}{a:List bk}(h:sr k m i a){x:bk}(ab:m[i]? =some x):sr k m (i+1) (if kq k x=true then a++[x]else a):=by
 rw[sr,ox ab,List.filter_append,←h];by_cases e:kq k x=true
 ·rw[if_pos e];simp[e]
 ·rw[if_neg e];simp[e]
theorem zs(S:aH→Prop)(l:List bk)(d:bk):aK S (l.map bk.e++[d.e])=True:=by have:=J2 S (l++[d]);rw[List.map_append]at this;exact eq_true this
theorem Ty{k:List bK}{m:List bk}(h:hB m):hB (m.filter (kq k)):=⟨fun x ab=>h.at' x (nj.1 ab).1,Xd _ h.asc⟩
theorem Mc{G:List (List dz)}{k:List bK}{m:List bk}(h:nE G m):nE G (m.filter (kq k)):=fun x ab=>h x (nj.1 ab).1
theorem pH.skip{b:List ar}{k:List bK}{m:List bk}{D:List (List ar)}{i:Nat}{a:List (List ar)}(h:pH b k m D i a){d:List ar}(aQ:D[i]? =some d)(he:∀r,gA b k m (d::r)=gA b k m r):pH b k m D (i+1) a:=⟨by have:=h.1;omega,h.2.1,by rw[←h.2.2,sy aQ,he]⟩
theorem pH.snoc{b:List ar}{k:List bK}{m:List bk}{D:List (List ar)}{i:Nat}{a:List (List ar)}(h:pH b k m D i a){d x:List ar}(aQ:D[i]? =some d)(ab:eM x)(he:∀r,gA b k m (d::r)=(gA b k m r).map (x:: ·)):pH b k m D (i+1) (a++[x]):=
 ⟨by have:=h.1;simp;omega,fun y aG=>by
  rcases kx.1 aG with aG|aG
  ·exact h.2.1 y aG
  ·simp at aG;subst aG;exact ab,by
  rw[←h.2.2,sy aQ,he,Option.map_map];congr 1;funext r;simp⟩
theorem pH.stop{b:List ar}{k:List bK}{m:List bk}{D:List (List ar)}{i:Nat}{a:List (List ar)}(h:pH b k m D i a){d:List ar}(aQ:D[i]? =some d)(he:∀r,gA b k m (d::r)=none):gA b k m D=none:=by rw[←h.2.2,sy aQ,he];rfl
theorem pH.fin{b:List ar}{k:List bK}{m:List bk}{D:List (List ar)}{a:List (List ar)}(h:pH b k m D D.length a):gA b k m D=some a:=by rw[←h.2.2,List.drop_length];simp[gA]
theorem sw(S:aH→Prop)(l:List (List ar))(d:List ar):aK S (l.map cH++[.slice 5 .no (d.map ar.e)])=True:=xr S l d
theorem A1{d:List ar}(aQ:eM d):∀e∈hz d,e.1.ok=true∧e.2.ok=true:=fun e he=>by obtain⟨c,ax,rfl⟩:=h8.1 he;have:=aQ.ok c ax;exact⟨by simpa[T.ok]using this.1,this.2⟩
set_option maxRecDepth 4000 in
theorem WT{s:c8}(h:qE s){G:List (List dz)}(kf:G.length≤687000)(a7:nE G s.m):bH al 90 [s.e] (jC (ks s)):=by
 generalize dk:ks s=O;have kn:=Wt h.b h.k;have ko:=Wu h.b h.m kf a7;have k1:=fun k=>Ga (acc:=[]) (a:=k) h.b h.k.at' ⟨by simp,by simp⟩;have pR:=fun m=>Gb (acc:=[]) (a:=m) h.b h.m.at' ⟨by simp,by simp[hF]⟩;have mK:=fun m=>Gc (acc:=[]) (a:=m) (s:=s.b) a7 (fun x ab=>by simp at ab);have ae:=h.b;have aQ:=h.d;clear h a7;unfold ks at dk;obtain⟨n,b,d,fc,m0⟩:=s;simp only at kn ko k1 pR mK ae aQ dk;have fw:=ae.len;simp only[c8.e];generalize ga b fc []=ok at kn dk k1;generalize gb b m0 []=om at ko dk pR mK;cases ok with
 |none=>
  simp only at dk;subst dk;simp only[fS]at kn;simp only[iZ]at ko;clear k1 pR mK;refine bf nG Io KL fun aP=>?_;unfold DL;simp;(with_reducible repeat' first|refine aj ?_|refine aD kn ?_|refine aE kn ?_|refine aD ko ?_|refine aE ko ?_|simp);all_goals simp[bt,zU,aX,aZ,aW]
  all_goals simp[jC,lF,c8.e]
 |some k=>
  simp only at dk;cases om with
  |none=>
   simp only at dk;subst dk;simp only[fS]at kn;simp only[iZ]at ko;clear k1 pR mK;refine bf nG Io KL fun aP=>?_;unfold DL;simp;(with_reducible repeat' first|refine aj ?_|refine aD kn ?_|refine aE kn ?_|refine aD ko ?_|refine aE ko ?_|simp);all_goals simp[bt,zU,aX,aZ,aW]
   all_goals simp[jC,lF,c8.e]
  |some m=>
   simp only at dk;have u5:=k1 k rfl;have w8:=pR m rfl;have wZ:=mK m rfl;have ih:=su u5;have mg:m.length≤68719470000:=by have:=Ch w8 wZ;omega
   have y4:=Ty (k:=k) w8;have yY:=Mc (k:=k) wZ;have ad0:(m.filter (kq k)).length≤68719470000:=j4 (List.length_filter_le _ _) mg;simp only[fS,ky,p3]at kn;simp only[iZ,ky,p3]at ko;clear k1 pR mK;refine bf nG Io KL fun aP=>?_;unfold DL;have I3:d.length≤68719476736:=by simp[eB,ec,et,lim]at aP;omega
   simp;(with_reducible repeat' first|refine aj ?_|refine aD kn ?_|refine aE kn ?_|refine aD ko ?_|refine aE ko ?_|simp);refine hQ (fun i (l:List (Int×Bool))=>⟨[(1,.ptr (.loc 0) 0),(2,.ptr (.loc 1) 0),(4,.slice 2 .no (k.map bK.e)),(6,.slice 2 .no (m.map bk.e)),(8,.gmap (.loc 2)),(49,.slice 2 .no (k.map bK.e)),(50,.int .i64 k.length),(51,.int .i64 i)],[(.loc 0,[.int .i64 n,.slice 5 .no (b.map ar.e),.slice 1 .no (d.map cH),.slice 2 .no (fc.map bK.e),.slice 2 .no (m0.map bk.e)]),(.loc 1,[.int .i64 0,.slice 5 .nil [],.slice 1 .nil [],.slice 2 .nil [],.slice 2 .nil []]),(.loc 2,pN l)],[],3,[]⟩) k.length (tK k) [] ⟨by simp[fresh,aK,aC,cd,inObs,Pv.look,Kf],dZ (by simp[fresh,aK,aC,cd,inObs,Pv.look,Kf]),ea (by simp[fresh,aK,aC,dQ,inObs,Pv.look,Kf]),by simp⟩ (fun v=>by simp[c0]) (fun l af _=>?_) (fun i l hi af _=>?_);rotate_left
   ·obtain⟨x,ab,cy⟩:=ed hi;by_cases ao:x.k=3
    ·have aA:=af.put ab ao;clear af ab;exact hN
    ·have aA:=af.skip ab ao;have r8:(x.k==3)=false:=by simp[ao]
     clear af ab;exact hN
   have hints:=af.fin u5;clear af;simp;(with_reducible repeat' first|refine aj ?_|simp);refine hQ (fun i (a:List bk)=>⟨[(1,.ptr (.loc 0) 0),(2,.ptr (.loc 1) 0),(4,.slice 2 .no (k.map bK.e)),(8,.gmap (.loc 2)),(11,.slice 2 (.own (.loc 3)) (a.map bk.e)),(63,.slice 2 .no (m.map bk.e)),(64,.int .i64 m.length),(65,.int .i64 i)],[(.loc 0,[.int .i64 n,.slice 5 .no (b.map ar.e),.slice 1 .no (d.map cH),.slice 2 .no (fc.map bK.e),.slice 2 .no (m0.map bk.e)]),(.loc 1,[.int .i64 0,.slice 5 .nil [],.slice 1 .nil [],.slice 2 .nil [],.slice 2 .nil []]),(.loc 2,pN l)],[(.loc 3,⟨a.length,100,2,none⟩)],4,[]⟩) m.length (sr k m) [] b0 (by simp[sr]) (fun a af _=>?_) (fun i a hi af _=>?_);rotate_left
   ·obtain⟨x,ab,cy⟩:=ed hi;have q2:a.length≤68719470000:=by
     have:a.length≤(m.take i).length:=by rw[af];exact List.length_filter_le _ _
     simp at this;omega
    have aA:=af.step ab;have bo:=hints x;cases aI:kq k x
    ·rw[aI]at aA bo;simp only[gP,if_false,Bool.not_false]at aA bo;clear af ab aI;simp[hi,cy];((with_reducible repeat' first|refine aj ?_|simp[hi,cy,bo]|((first|apply bP|apply bS|apply bR)<;>intro h<;>try simp at h))<;>(try exact cp));all_goals exact bN.rng a hi aA b0
    ·rw[aI]at aA bo;simp only[if_true,Bool.not_true]at aA bo;clear af ab aI;simp[hi,cy];((with_reducible repeat' first|refine aj ?_|simp[hi,cy,bo]|((first|apply bP|apply bS|apply bR)<;>intro h<;>try simp at h))<;>(try exact cp));all_goals first|(refine⟨by unfold lim;omega,?_⟩)|skip
     all_goals(with_reducible repeat' first|refine aj ?_|simp)
     all_goals exact bN.rng (a++[x]) hi aA ⟨by simp[fresh,aK,aC,cd,inObs,Pv.look,zs],dZ (by simp[fresh,aK,aC,cd,inObs,Pv.look,zs]),ea (by simp[fresh,aK,aC,dQ,inObs,Pv.look,zs]),by simp⟩
   rw[sr,nL]at af;rw[←af]at y4 yY ad0 dk;clear af hints ih w8 wZ;simp;(with_reducible repeat' first|refine aj ?_|simp);refine hQ (fun i (L:List (List ar))=>⟨[(1,.ptr (.loc 0) 0),(2,.ptr (.loc 1) 0),(4,.slice 2 .no (k.map bK.e)),(11,.slice 2 (.own (.loc 3)) (a.map bk.e)),(14,.slice 1 (.own (.loc 4)) (L.map cH)),(81,.slice 1 .no (d.map cH)),(82,.int .i64 d.length),(83,.int .i64 i)],[(.loc 0,[.int .i64 n,.slice 5 .no (b.map ar.e),.slice 1 .no (d.map cH),.slice 2 .no (fc.map bK.e),.slice 2 .no (m0.map bk.e)]),(.loc 1,[.int .i64 0,.slice 5 .nil [],.slice 1 .nil [],.slice 2 .nil [],.slice 2 .nil []])],[(.loc 3,⟨a.length,100,2,none⟩),(.loc 4,⟨L.length,46,1,none⟩)],5,[]⟩) d.length (pH b k a d) [] b0 ⟨by simp,by simp,by simp⟩ (fun L af _=>?_) (fun i L hi af _=>?_)
   ·have jr:=af.fin;have uZ:=af.2.1;rw[jr]at dk;simp only at dk;have mU:=ak7 L uZ;have km:bH al 168 [.slice 5 .no (b.map ar.e)] (.slice 5 .no (b.map ar.e)):=GN b fw;clear af jr uZ;generalize kI L=M at mU dk;by_cases ld:M.length≤30
    ·have nX:¬(30:Int)<M.length:=by omega
     rw[if_pos ld]at dk;subst dk;simp;(with_reducible repeat' first|refine aj ?_|refine aD mU ?_|refine aE mU ?_|refine aD km ?_|refine aE km ?_|simp[ld,nX]);all_goals simp[bt,zU,aX,aZ,aW]
     all_goals simp[jC,c8.e]
    ·have nX:(30:Int)<M.length:=by omega
     rw[if_neg ld]at dk;subst dk;simp;(with_reducible repeat' first|refine aj ?_|refine aD mU ?_|refine aE mU ?_|refine aD km ?_|refine aE km ?_|simp[ld,nX]);all_goals simp[bt,zU,aX,aZ,aW]
     all_goals simp[jC,lF,c8.e]
   ·obtain⟨x,ab,cy⟩:=ed hi;have h4:=aQ x (eG ab);have Rc:=af.1;have hK:bH al 165 [.slice 5 .no (b.map ar.e),cH x] (fy (mgu b (hz x))):=ak4 ae h4;simp only[fy]at hK;cases hu:mgu b (hz x)with
    |none=>have aA:=af.skip ab fun r=>J9 hu;rw[hu]at hK;simp only[kQ,j6]at hK;clear af ab dk;exact hN
    |some y=>
     have iS:=ae.mgu (A1 h4) hu;rw[hu]at hK;simp only[ky,p3]at hK;have dg:=Wt iS u5;have dU:=Wu iS y4 kf yY;have hL:=ak9 ae iS;simp only[fS]at dg;simp only[iZ]at dU;by_cases js:ga y k []=none∨gb y a []=none
     ·have aA:=af.skip ab fun r=>J8 hu js;clear af ab dk hu;rcases js with e|e
      ·rw[e]at dg;simp only[kQ,j6]at dg;exact hN
      ·rw[e]at dU;simp only[kQ,j6]at dU;cases (ga y k []).isSome
       ·simp[hi,cy];((with_reducible repeat' first|refine aj ?_|refine aD hK ?_|refine aE hK ?_|refine aD dg ?_|refine aE dg ?_|refine aD dU ?_|refine aE dU ?_|simp[hi,cy]|((first|apply bP|apply bS|apply bR)<;>intro h<;>try simp at h))<;>(try exact cp));all_goals exact bN.rng L hi aA b0
       ·simp[hi,cy];((with_reducible repeat' first|refine aj ?_|refine aD hK ?_|refine aE hK ?_|refine aD dg ?_|refine aE dg ?_|refine aD dU ?_|refine aE dU ?_|simp[hi,cy]|((first|apply bP|apply bS|apply bR)<;>intro h<;>try simp at h))<;>(try exact cp));all_goals exact bN.rng L hi aA b0
     ·have ak:(ga y k []).isSome=true:=by cases e:ga y k []with|none=>exact absurd (.inl e) js|some _=>rfl
      have aB:(gb y a []).isSome=true:=by cases e:gb y a []with|none=>exact absurd (.inr e) js|some _=>rfl
      rw[ak]at dg;rw[aB]at dU;by_cases cF:gv b y=[]
      ·have ag:=af.stop ab fun r=>J7 hu js cF;rw[ag]at dk;simp only at dk;subst dk;rw[cF]at hL;simp only[pe]at hL;clear af ab hu js;simp[hi,cy];((with_reducible repeat' first|refine aj ?_|refine aD hK ?_|refine aE hK ?_|refine aD dg ?_|refine aE dg ?_|refine aD dU ?_|refine aE dU ?_|refine aD hL ?_|refine aE hL ?_|simp[hi,cy]|((first|apply bP|apply bS|apply bR)<;>intro h<;>try simp at h))<;>(try exact cp));all_goals simp[bt,zU,aX,aZ,aW]
       all_goals simp[jC,lF,c8.e]
      ·have aA:=af.snoc ab (FA (b:=b) iS) fun r=>Ka hu js cF;have u7:¬((gv b y).length:Int)=0:=by have:(gv b y).length≠0:=fun h=>cF (List.length_eq_zero_iff.1 h);omega
       have u9:(((gv b y).length:Int)==0)=false:=by simp[cF]
       have E8:bH al 166 [.slice 5 .no (b.map ar.e),.slice 5 .no (y.map ar.e)] (cH (gv b y)):=hL;clear af ab hu js dk hL;generalize gv b y=z at E8 aA u7 u9 cF;simp only[cH]at E8;simp[hi,cy];(with_reducible repeat' first|refine aj ?_|refine aD hK ?_|refine aE hK ?_|refine aD dg ?_|refine aE dg ?_|refine aD dU ?_|refine aE dU ?_|refine aD E8 ?_|refine aE E8 ?_|simp[hi,cy,u7,u9,cF]);all_goals first|(refine⟨by unfold lim;omega,?_⟩)|skip
       all_goals(with_reducible repeat' first|refine aj ?_|simp)
       all_goals exact bN.rng (L++[z]) hi aA ⟨by simp[fresh,aK,aC,cd,inObs,Pv.look,sw,cH],dZ (by simp[fresh,aK,aC,cd,inObs,Pv.look,sw,cH]),ea (by simp[fresh,aK,aC,dQ,inObs,Pv.look,sw,cH]),by simp⟩
@[simp] theorem amQ(neg:Bool)(x y:bK):ib neg (some [false,false]) x.e y.e=some (True,.bool (if neg then !decide (x=y)else decide (x=y))):=by
 have h:(x.v==y.v&&(x.k==y.k&&true))=decide (x=y):=by rw[pZ];simp only[Bool.and_true,cA,dL,fH];cases x;cases y;simp
 rw[←h];rfl
@[simp] theorem amR(neg:Bool)(x y:bk):ib neg (some [false,true]) x.e y.e=some (True,.bool (if neg then !decide (x=y)else decide (x=y))):=by
 have h:(x.v==y.v&&(x.s==y.s&&true))=decide (x=y):=by rw[pZ];simp only[Bool.and_true,cA,dL,fH];cases x;cases y;simp
 rw[←h];rfl
theorem alr(x y:List ar)(h:x.length≤1000000):bH al 169 [cH x,cH y] (.bool (decide (x=y))):=Wy x y h
set_option maxRecDepth 4000 in
theorem al2(a c:c8)(mN:a.b.length≤1000000)(Bp:∀x∈a.d,x.length≤1000000):bH al 91 [a.e,c.e] (.bool (decide (a=c))):=by
 obtain⟨n,b,d,k,m⟩:=a;obtain⟨n',bO,b8,bM,hj⟩:=c;simp only at mN Bp;generalize bh:decide ((⟨n,b,d,k,m⟩:c8)=⟨n',bO,b8,bM,hj⟩)=R;simp only[c8.mk.injEq,c8.e]at bh⊢;by_cases a6:n=n';rotate_left
 ·have fQ:R=false:=by rw[←bh];simp[a6]
  have sI:(n !=n')=true:=by simp[a6]
  rw[fQ];clear bh fQ;refine bf nG yE zK fun aP=>?_;unfold wC;exact b2
 subst a6;have fx:=Wy b bO mN;by_cases bu:b=bO;rotate_left
 ·have fQ:R=false:=by rw[←bh];simp[bu]
  rw[jH bu]at fx;rw[fQ];clear bh fQ;refine bf nG yE zK fun aP=>?_;unfold wC;exact b2
 subst bu;rw[jk rfl]at fx;by_cases bV:d.length=b8.length;rotate_left
 ·have fQ:R=false:=by rw[←bh];simp only[hE];rintro⟨_,_,rfl,_⟩;exact bV rfl
  have rC:((d.length:Int) !=b8.length)=true:=by simp;omega
  rw[fQ];clear bh fQ;refine bf nG yE zK fun aP=>?_;unfold wC;exact b2
 by_cases cW:k.length=bM.length;rotate_left
 ·have fQ:R=false:=by rw[←bh];simp only[hE];rintro⟨_,_,_,rfl,_⟩;exact cW rfl
  have aiE:((k.length:Int) !=bM.length)=true:=by simp;omega
  rw[fQ];clear bh fQ;refine bf nG yE zK fun aP=>?_;unfold wC;exact b2
 by_cases da:m.length=hj.length;rotate_left
 ·have fQ:R=false:=by rw[←bh];simp only[hE];rintro⟨_,_,_,_,rfl⟩;exact da rfl
  have aiF:((m.length:Int) !=hj.length)=true:=by simp;omega
  rw[fQ];clear bh fQ;refine bf nG yE zK fun aP=>?_;unfold wC;exact b2
 have xb:d≠b8→R=false:=fun h=>by rw[←bh];simp[h]
 have xc:k≠bM→R=false:=fun h=>by rw[←bh];simp[h]
 have Jm:m≠hj→R=false:=fun h=>by rw[←bh];simp[h]
 refine bf nG yE zK fun aP=>?_;unfold wC;have adR:b8.length≤68719476736:=by simp[eB,ec,et,lim]at aP;omega
 have adS:bM.length≤68719476736:=by simp[eB,ec,et,lim]at aP;omega
 have adT:hj.length≤68719476736:=by simp[eB,ec,et,lim]at aP;omega
 clear aP;simp;(with_reducible repeat' first|refine aj ?_|refine aD fx ?_|refine aE fx ?_|simp[bV,cW,da]);have di:=xb;refine dW [2,3,50] (fun i (_:Unit)=>[(51,.int .i64 i)]) b8.length (qQ d b8) () b0 (fun k ad=>by omega) (fun _ af _=>?_) (fun i _ hi af _=>?_);rotate_left
 ·obtain⟨x,ab⟩:∃x,d[i]? =some x:=⟨_,cf (by omega)⟩;obtain⟨y,aG⟩:∃y,b8[i]? =some y:=⟨_,cf hi⟩;have gh:i<d.length:=by omega
  have cy:∀h,(d[i]'h)=x:=fun h=>by rw[cf gh]at ab;exact fB ab
  have eJ:∀h,(b8[i]'h)=y:=fun h=>by rw[cf hi]at aG;exact fB aG
  have fx:=alr x y (Bp x (eG ab));by_cases q:x=y
  ·subst q;have aA:=af.step ab aG;rw[jk rfl]at fx;clear af ab aG;simp[hi,gh,cy,eJ,-ib];(with_reducible repeat' first|refine aj ?_|refine aD fx ?_|refine aE fx ?_|simp[cy,eJ,hi,gh,-ib]);all_goals exact bN.rng () hi aA b0
  ·rw[di (fun h=>q (by rw[h]at ab;rw[ab]at aG;exact fB aG))];rw[jH q]at fx;clear af ab aG;simp[hi,gh,cy,eJ,-ib];(with_reducible repeat' first|refine aj ?_|refine aD fx ?_|refine aE fx ?_|simp[cy,eJ,hi,gh,q,-ib]);all_goals simp[bt,F2,aX,aZ,aW]
 have dw:=af.fin bV;subst dw;clear af di xb bV;simp;(with_reducible repeat' first|refine aj ?_|simp[cW]);have di:=xc;refine dW [2,3,69] (fun i (_:Unit)=>[(70,.int .i64 i)]) bM.length (qQ k bM) () b0 (fun k ad=>by omega) (fun _ af _=>?_) (fun i _ hi af _=>?_);rotate_left
 ·obtain⟨x,ab⟩:∃x,k[i]? =some x:=⟨_,cf (by omega)⟩;obtain⟨y,aG⟩:∃y,bM[i]? =some y:=⟨_,cf hi⟩;have gh:i<k.length:=by omega
  have cy:∀h,(k[i]'h)=x:=fun h=>by rw[cf gh]at ab;exact fB ab
  have eJ:∀h,(bM[i]'h)=y:=fun h=>by rw[cf hi]at aG;exact fB aG
  have fx:=True.intro;by_cases q:x=y
  ·subst q;have aA:=af.step ab aG;skip;clear af ab aG;simp[hi,gh,cy,eJ,-ib];(with_reducible repeat' first|refine aj ?_|refine aD fx ?_|refine aE fx ?_|simp[cy,eJ,hi,gh,-ib]);all_goals exact bN.rng () hi aA b0
  ·rw[di (fun h=>q (by rw[h]at ab;rw[ab]at aG;exact fB aG))];skip;clear af ab aG;simp[hi,gh,cy,eJ,-ib];(with_reducible repeat' first|refine aj ?_|refine aD fx ?_|refine aE fx ?_|simp[cy,eJ,hi,gh,q,-ib]);all_goals simp[bt,F2,aX,aZ,aW]
 have dw:=af.fin cW;subst dw;clear af di xc cW;simp;(with_reducible repeat' first|refine aj ?_|simp[da]);have di:=Jm;refine dW [2,3,87] (fun i (_:Unit)=>[(88,.int .i64 i)]) hj.length (qQ m hj) () b0 (fun k ad=>by omega) (fun _ af _=>?_) (fun i _ hi af _=>?_);rotate_left
 ·obtain⟨x,ab⟩:∃x,m[i]? =some x:=⟨_,cf (by omega)⟩;obtain⟨y,aG⟩:∃y,hj[i]? =some y:=⟨_,cf hi⟩;have gh:i<m.length:=by omega
  have cy:∀h,(m[i]'h)=x:=fun h=>by rw[cf gh]at ab;exact fB ab
  have eJ:∀h,(hj[i]'h)=y:=fun h=>by rw[cf hi]at aG;exact fB aG
  have fx:=True.intro;by_cases q:x=y
  ·subst q;have aA:=af.step ab aG;skip;clear af ab aG;simp[hi,gh,cy,eJ,-ib];(with_reducible repeat' first|refine aj ?_|refine aD fx ?_|refine aE fx ?_|simp[cy,eJ,hi,gh,-ib]);all_goals exact bN.rng () hi aA b0
  ·rw[di (fun h=>q (by rw[h]at ab;rw[ab]at aG;exact fB aG))];skip;clear af ab aG;simp[hi,gh,cy,eJ,-ib];(with_reducible repeat' first|refine aj ?_|refine aD fx ?_|refine aE fx ?_|simp[cy,eJ,hi,gh,q,-ib]);all_goals simp[bt,F2,aX,aZ,aW]
 have dw:=af.fin da;subst dw;have fQ:R=true:=by rw[←bh];simp
 rw[fQ];exact b2
def ff.e(r:ff):ah:= .agg [.int .i64 r.n,.slice 5 .no (r.b.map cT.e),.slice 1 .no (r.d.map fW),.slice 2 .no (r.k.map bK.e),.slice 2 .no (r.m.map bk.e)]
theorem Ai(s:c8):s.r.e=s.e:=by simp only[c8.r,ff.e,c8.e,xy,H4]
@[simp] theorem apc(S:aH→Prop)(r:ff):aC S r.e=True:=by simp[ff.e,aC,aK]
theorem alb(x:List cT):bH al 86 [fW x] (.bool (gy x)):=Ml x
open Classical in
set_option maxRecDepth 4000 in
theorem ala(r:ff)(dT:hB r.m→jE r.m):bH al 29 [r.e] (.bool (decide (ij r))):=by
 generalize bh:decide (ij r)=R;have di:¬Lt r→R=false:=fun h=>by rw[←bh,hE];exact fun cr=>h cr.raw
 obtain⟨n,b,d,k,m⟩:=r;simp only[ff.e]at dT⊢;by_cases g1:n<0
 ·rw[di fun h=>by have:=h.n.1;simp only at this;omega];refine bf nG wE xE fun aP=>?_;unfold uK;exact b2
 by_cases g2:100000<n
 ·rw[di fun h=>by have:=h.n.2;simp only at this;omega];refine bf nG wE xE fun aP=>?_;unfold uK;exact b2
 have kY:bH al 86 [.slice 5 .no (b.map cT.e)] (.bool (gy b)):=Ml b;cases g3:gy b
 ·rw[di fun h=>by obtain⟨s,ak,aB,_⟩:=h.b;have:=qG.2 (vS.2 ⟨s,ak,aB⟩);simp only at this;rw[g3]at this;cases this]
  rw[g3]at kY;refine bf nG wE xE fun aP=>?_;unfold uK;exact b2
 rw[g3]at kY;obtain⟨s,rfl,ag⟩:=vS.1 (qG.1 g3);clear g3;rw[xy]at kY⊢;have dg:=Wp k;by_cases g4:iU k;rotate_left
 ·rw[di fun h=>g4 h.k];rw[jH g4]at dg;refine bf nG wE xE fun aP=>?_;unfold uK;exact b2
 rw[jk g4]at dg;have dU:=Wr m;by_cases g5:hB m;rotate_left
 ·rw[di fun h=>g5 h.m];rw[jH g5]at dU;refine bf nG wE xE fun aP=>?_;unfold uK;exact b2
 rw[jk g5]at dU;have kZ:=Ww ag (n:=n) (by omega);cases g6:s.all (kC n)
 ·rw[di fun h=>by obtain⟨ai,ak,_,bj⟩:=h.b;have de:=uG ak;subst de;rw[uJ.2 bj]at g6;cases g6]
  rw[g6]at kZ;refine bf nG wE xE fun aP=>?_;unfold uK;exact b2
 rw[g6]at kZ;have cQ:=uJ.1 g6;clear g6;have BD:=dT g5;have mg:=BD.len g5;refine bf nG wE xE fun aP=>?_;unfold uK;have I3:d.length≤68719476736:=by simp[eB,ec,et,lim]at aP;omega
 have ih:=su g4;clear aP dT;simp;(with_reducible repeat' first|refine aj ?_|refine aD kY ?_|refine aE kY ?_|refine aD dg ?_|refine aE dg ?_|refine aD dU ?_|refine aE dU ?_|refine aD kZ ?_|refine aE kZ ?_|simp[g1,g2]);refine dW [1,46,47] (fun i (_:Unit)=>[(48,.int .i64 i)]) d.length (rn (jV n) d) () b0 (fun k b ad=>by omega) (fun _ af _=>?_) (fun i _ hi af _=>?_);rotate_left
 ·obtain⟨x,ab,cy⟩:=ed hi;have BX:=eG ab;have cV:=alb x;cases mc:gy x
  ·rw[di fun h=>by obtain⟨ai,ak,aB,_⟩:=h.d x BX;rw[qG.2 (vS.2 ⟨ai,ak,aB⟩)]at mc;cases mc]
   rw[mc]at cV;clear af ab BX;exact b2
  ·rw[mc]at cV;obtain⟨y,rfl,aG⟩:=vS.1 (qG.1 mc);clear mc;rw[H3]at cV;have mo:bH al 89 [cH y,.int .i64 n] (.bool (y.all (kC n))):=Ww aG (n:=n) (by omega);have aod:∀h,fW (d[i]'h)=cH y:=fun h=>by rw[cy h,H3]
   cases qY:y.all (kC n)
   ·rw[di fun h=>by obtain⟨ai,ak,_,bj⟩:=h.d _ BX;have de:=uG ak;subst de;rw[uJ.2 bj]at qY;cases qY]
    rw[qY]at mo;clear af ab BX cy;exact b2
   ·rw[qY]at mo;have aA:=af.step ab ⟨y,rfl,aG,uJ.1 qY⟩;clear af ab BX cy;exact hN
 obtain⟨D,rfl,Bj,IT⟩:=PU af.fin;clear af;simp only[H4];simp;(with_reducible repeat' first|refine aj ?_|simp);refine dW [1,64,65] (fun i (_:Unit)=>[(66,.int .i64 i)]) k.length (rn (fun x=>x.v<n) k) () b0 (fun k b ad=>by omega) (fun _ af _=>?_) (fun i _ hi af _=>?_);rotate_left
 ·obtain⟨x,ab,cy⟩:=ed hi;by_cases mc:x.v<n
  ·have wO:¬n≤x.v:=by omega
   have aA:=af.step ab mc;clear af ab;exact hN
  ·have wO:n≤x.v:=by omega
   rw[di fun h=>mc (h.kb x (eG ab))];clear af ab;exact b2
 have w1:=af.fin;clear af;simp;(with_reducible repeat' first|refine aj ?_|simp);have w2:=w1;refine dW [1,77,78] (fun i (_:Unit)=>[(79,.int .i64 i)]) m.length (rn (fun x=>x.v<n) m) () b0 (fun k b ad=>by omega) (fun _ af _=>?_) (fun i _ hi af _=>?_);rotate_left
 ·obtain⟨x,ab,cy⟩:=ed hi;by_cases mc:x.v<n
  ·have wO:¬n≤x.v:=by omega
   have aA:=af.step ab mc;clear af ab;exact hN
  ·have wO:n≤x.v:=by omega
   rw[di fun h=>mc (h.mb x (eG ab))];clear af ab;exact b2
 have w1:=af.fin;clear af;simp;(with_reducible repeat' first|refine aj ?_|simp);have vb:=w1;have dd:qE ⟨n,s,D,k,m⟩:=⟨by simp only;omega,ag,Bj,g4,g5,cQ,IT,w2,vb⟩;have tC:=VX dd;obtain⟨G,kf,a7⟩:=BD;have dH:=WT dd kf a7;have kW:ij ⟨n,s.map ar.b,D.map fun x=>x.map ar.b,k,m⟩↔ks ⟨n,s,D,k,m⟩=some ⟨n,s,D,k,m⟩:=tC;clear tC di;simp only[jC]at dH;cases lq:ks ⟨n,s,D,k,m⟩with
 |none=>
  rw[lq]at dH kW;have fQ:R=false:=by rw[←bh,hE,kW];simp
  rw[fQ];simp only[kQ,j6,c8.e]at dH;clear bh fQ kW;exact b2
 |some t=>
  have zf:=VN dd lq;rw[lq]at dH kW;have vo:=al2 t ⟨n,s,D,k,m⟩ zf.1.1.b.len (fun x ab=>(zf.1.1.d x ab).len);have fQ:R=decide (t=⟨n,s,D,k,m⟩):=by rw[←bh,decide_eq_decide,kW];simp
  rw[fQ];simp only[ky,p3]at dH;simp only[c8.e]at dH vo;clear bh fQ kW zf;generalize decide (t=(⟨n,s,D,k,m⟩:c8))=Q at vo⊢;obtain⟨o9,Aj,Ak,o8,tm⟩:=t;simp only at dH vo;exact b2
def uN:C:=(aa [cz 1 0,be 2 false] (.seq (aa [aF 11 0 1 1,av 12 1 11,dp 13 75 [.t 12,(gd 0),(gd 100000)],cw 14 13,I 15 14,aq 15 false (aF 16 1 1 1),aq 15 false (av 17 1 16),aq 15 false (cE 18 76 17),aq 15 false (cw 19 18),c6 20 15 19,I 21 20,aq 21 false (aF 22 2 1 1),aq 21 false (av 23 1 22),aq 21 false (cE 24 77 23),aq 21 false (cw 25 24),c6 26 21 25,I 27 26,aq 27 false (aF 28 3 1 1),aq 27 false (av 29 1 28),aq 27 false (cE 30 78 29),aq 27 false (cw 31 30),c6 32 27 31,I 33 32,aq 33 false (aF 34 4 1 1),aq 33 false (av 35 1 34),aq 33 false (cE 36 79 35),aq 33 false (cw 37 36),c6 38 33 37,I 39 38,aq 39 false (aF 40 1 1 1),aq 39 false (av 41 1 40),aq 39 false (aF 42 0 1 1),aq 39 false (av 43 1 42),aq 39 false (ca 44 80 41 43),aq 39 false (cw 45 44),c6 46 39 45] (aS 46 (aa [be 2 false] .ret) .skip)) (.seq (aa [aF 47 2 1 1,av 48 1 47,cl 49 48,bW 50 0] (ft 51 50 49 (.seq (.block 1 (aa [cu 52 1 48 50,av 53 1 52,I 4 53] (aa [I 54 4,aF 55 0 1 1,av 56 1 55,ca 57 80 54 56,cw 58 57] (aS 58 (aa [be 2 false] .ret) .skip)))) (.region [aU 59 .add 50 1,I 50 59])))) (.seq (aa [aF 60 3 1 1,av 61 1 60,cl 62 61,bW 63 0] (.block 2 (.loop (aa [bm 64 .lss 63 62] (.seq (aS 64 .skip (.exit 2)) (.seq (.block 3 (aa [cu 65 2 61 63,aV 66 2 65,c1 (.alloc 6 none (.agg [.int .i64 0,.int .i64 0])),bL 2 6 66] (aa [aF 67 0 1 6,av 68 1 67,aF 69 0 1 1,av 70 1 69,bm 71 .geq 68 70] (aS 71 (aa [be 2 false] .ret) .skip)))) (.region [aU 72 .add 63 1,I 63 72]))))))) (.seq (aa [aF 73 4 1 1,av 74 1 73,cl 75 74,bW 76 0] (.block 4 (.loop (aa [bm 77 .lss 76 75] (.seq (aS 77 .skip (.exit 4)) (.seq (.block 5 (aa [cu 78 2 74 76,aV 79 2 78,c1 (.alloc 8 none (.agg [.int .i64 0,.str []])),bL 2 8 79] (aa [aF 80 0 1 8,av 81 1 80,aF 82 0 1 1,av 83 1 82,bm 84 .geq 81 83] (aS 84 (aa [be 2 false] .ret) .skip)))) (.region [aU 85 .add 76 1,I 76 85]))))))) (aa [aV 87 5 1,cE 88 81 87,I 86 88,cD 89 0 86,cD 90 1 86,dj 9 hv,bL 5 9 89,I 10 90] (aa [I 91 10,I 92 91,aq 92 true (aV 93 5 9),aq 92 true (aV 94 5 1),aq 92 true (ca 95 82 93 94),dx 96 92 95,I 2 96] .ret)))))))
@[simp] def ajz:List bs:=[.tmp 2]
def DV:C:=(aa [cz 1 0,dj 2 hv,be 3 false] (aa [aF 20 1 1 1,av 21 1 20,aF 22 3 1 1,av 23 1 22,ca 24 149 21 23,I 19 24,cD 25 0 19,cD 26 1 19,I 4 25,I 5 26] (aa [aF 28 1 1 1,av 29 1 28,aF 30 4 1 1,av 31 1 30,ca 32 150 29 31,I 27 32,cD 33 0 27,cD 34 1 27,I 6 33,I 7 34] (.seq (aa [I 35 5,cw 36 35,I 37 36,b3 37 false 38 7,aq 37 false (cw 39 38),c6 40 37 39] (aS 40 (aa [iq 41 hv [],bL 5 2 41,be 3 false] .ret) .skip)) (aa [aF 42 0 1 1,av 43 1 42,aF 44 1 1 1,av 45 1 44,I 46 4,iq 47 hv [(0,1,(.t 43)),(1,1,(.t 45)),(3,1,(.t 46))],dj 8 hv,bL 5 8 47] (.seq (aa [I 48 6,cl 49 48,bW 50 0] (ft 51 50 49 (.seq (.block 1 (aa [cu 52 2 48 50,aV 53 2 52,c1 (.alloc 10 none (.agg [.int .i64 0,.str []])),bL 2 10 53] (aa [I 55 4,aF 56 0 1 10,av 57 1 56,cE 58 114 57,dp 59 151 [.t 55,.t 58,(gd 2)],I 54 59,cD 60 0 54,cD 61 1 54,I 11 60,I 12 61] (aa [I 62 12] (aS 62 (.region [aF 63 4 1 8,av 64 1 63,aV 65 2 10,ek 66 2 100 [.t 65],gO 67 2 100 64 66,aF 68 4 1 8,bL 1 68 67]) .skip))))) (.region [aU 69 .add 50 1,I 50 69])))) (aa [ek 70 1 46 [],I 13 70] (.seq (aa [aF 71 2 1 1,av 72 1 71,cl 73 72,bW 74 0] (.block 2 (.loop (aa [bm 75 .lss 74 73] (.seq (aS 75 .skip (.exit 2)) (.seq (.block 3 (aa [cu 76 1 72 74,av 77 1 76,I 15 77] (aa [aF 79 1 1 1,av 80 1 79,I 81 15,ca 82 152 80 81,I 78 82,cD 83 0 78,cD 84 1 78,I 16 83,I 17 84] (.seq (aa [I 85 17] (aS 85 (aa [I 87 16,aF 88 3 1 8,av 89 1 88,ca 90 149 87 89,I 86 90,cD 91 0 86,cD 92 1 86,I 5 92] (.region [I 94 16,aF 95 4 1 8,av 96 1 95,ca 97 150 94 96,I 93 97,cD 98 0 93,cD 99 1 93,I 7 99])) .skip)) (.seq (aa [I 100 17,cw 101 100,I 102 101,b3 102 false 103 5,aq 102 false (cw 104 103),c6 105 102 104,I 106 105,b3 106 false 107 7,aq 106 false (cw 108 107),c6 109 106 108] (aS 109 (aa [be 5 true] (aa [be 7 true] (.exit 3))) .skip)) (aa [aF 110 1 1 1,av 111 1 110,I 112 16,ca 113 153 111 112,I 18 113] (.seq (aa [I 114 18,cl 115 114,aU 116 .eql 115 0] (aS 116 (aa [iq 117 hv [],bL 5 2 117,be 3 false] .ret) .skip)) (.region [I 118 13,I 119 18,ek 120 1 46 [.t 119],gO 121 1 46 118 120,I 13 121])))))))) (.region [aU 122 .add 74 1,I 74 122]))))))) (aa [I 123 13,cE 124 154 123,aF 125 2 1 8,bL 1 125 124] (.seq (.fz true 8 (.drawn true 131 [b5 126 (.loadZ true 5 (.t 8)),aF 127 2 1 8,b5 128 (.loadZ false 1 (.t 127)),cl 129 128,aU 130 .leq 129 30,bL 5 2 126,I 3 130])) .ret))))))))))
@[simp] def uf:List bs:=[.cell 2 true 5,.tmp 3]
def wD:C:=(aa [cz 2 0,cz 3 1,be 4 false] (.seq (aa [aF 11 0 1 2,av 12 1 11,aF 13 0 1 3,av 14 1 13,bm 15 .neq 12 14,I 16 15,aq 16 false (aF 17 1 1 2),aq 16 false (av 18 1 17),aq 16 false (aF 19 1 1 3),aq 16 false (av 20 1 19),aq 16 false (ca 21 155 18 20),aq 16 false (aU 22 .neq 21 0),c6 23 16 22,I 24 23,aq 24 false (aF 25 2 1 2),aq 24 false (av 26 1 25),aq 24 false (cl 27 26),aq 24 false (aF 28 2 1 3),aq 24 false (av 29 1 28),aq 24 false (cl 30 29),aq 24 false (bm 31 .neq 27 30),c6 32 24 31,I 33 32,aq 33 false (aF 34 3 1 2),aq 33 false (av 35 1 34),aq 33 false (cl 36 35),aq 33 false (aF 37 3 1 3),aq 33 false (av 38 1 37),aq 33 false (cl 39 38),aq 33 false (bm 40 .neq 36 39),c6 41 33 40,I 42 41,aq 42 false (aF 43 4 1 2),aq 42 false (av 44 1 43),aq 42 false (cl 45 44),aq 42 false (aF 46 4 1 3),aq 42 false (av 47 1 46),aq 42 false (cl 48 47),aq 42 false (bm 49 .neq 45 48),c6 50 42 49] (aS 50 (aa [be 4 false] .ret) .skip)) (.seq (aa [aF 51 2 1 2,av 52 1 51,cl 53 52,bW 54 0] (ft 55 54 53 (.seq (.block 1 (aa [I 56 54,cu 57 1 52 54,av 58 1 57,I 5 56,I 6 58] (aa [I 59 6,aF 60 2 1 3,av 61 1 60,I 62 5,cu 63 1 61 62,av 64 1 63,ca 65 155 59 64,aU 66 .neq 65 0] (aS 66 (aa [be 4 false] .ret) .skip)))) (.region [aU 67 .add 54 1,I 54 67])))) (.seq (aa [aF 68 3 1 2,av 69 1 68,cl 70 69,bW 71 0] (.block 2 (.loop (aa [bm 72 .lss 71 70] (.seq (aS 72 .skip (.exit 2)) (.seq (.block 3 (aa [I 73 71,cu 74 2 69 71,aV 75 2 74,c1 (.alloc 8 none (.agg [.int .i64 0,.int .i64 0])),I 7 73,bL 2 8 75] (.seq (.drawn true 100 [aV 76 2 8,aF 77 3 1 3,av 78 1 77,I 79 7,cu 80 2 78 79,aV 81 2 80,b5 82 (.beq true (some [false,false]) (.t 76) (.t 81))]) (aS 82 (aa [be 4 false] .ret) .skip)))) (.region [aU 83 .add 71 1,I 71 83]))))))) (.seq (aa [aF 84 4 1 2,av 85 1 84,cl 86 85,bW 87 0] (.block 4 (.loop (aa [bm 88 .lss 87 86] (.seq (aS 88 .skip (.exit 4)) (.seq (.block 5 (aa [I 89 87,cu 90 2 85 87,aV 91 2 90,c1 (.alloc 10 none (.agg [.int .i64 0,.str []])),I 9 89,bL 2 10 91] (.seq (.drawn true 100 [aV 92 2 10,aF 93 4 1 3,av 94 1 93,I 95 9,cu 96 2 94 95,aV 97 2 96,b5 98 (.beq true (some [false,true]) (.t 92) (.t 97))]) (aS 98 (aa [be 4 false] .ret) .skip)))) (.region [aU 99 .add 87 1,I 87 99]))))))) (aa [be 4 true] .ret))))))
@[simp] def F7:List bs:=[.tmp 4]
def GJ:List (Nat×dB):=[
 (3,⟨1,8,.int .i64,.int .i64 0⟩),
 (9,⟨1,16,.str,.str []⟩),
 (46,⟨1,24,.slice 113,.slice 5 .nil []⟩),
 (47,⟨1,24,.slice 46,.slice 1 .nil []⟩),
 (48,⟨1,24,.slice 98,.slice 2 .nil []⟩),
 (49,⟨1,24,.slice 100,.slice 2 .nil []⟩),
 (51,⟨5,104,.struct [(0,3),(1,46),(2,47),(3,48),(4,49)],.agg [.int .i64 0,.slice 5 .nil [],.slice 1 .nil [],.slice 2 .nil [],.slice 2 .nil []]⟩),
 (98,⟨2,16,.struct [(0,3),(1,3)],.agg [.int .i64 0,.int .i64 0]⟩),
 (100,⟨2,24,.struct [(0,3),(1,9)],.agg [.int .i64 0,.str []]⟩)]
theorem nH:fN al GJ=true:=by kernel_rfl
theorem xH:bY GJ uN ajz 1 Tryz.f27=true:=by kernel_rfl
theorem wH:al.funcs[(27:Nat)]? =some Tryz.f27:=Tryz.func27
theorem KT:bY GJ DV uf 1 Tryz.f81=true:=by kernel_rfl
theorem Iw:al.funcs[(81:Nat)]? =some Tryz.f81:=Tryz.func81
theorem zL:bY GJ wD F7 2 Tryz.f82=true:=by kernel_rfl
theorem yF:al.funcs[(82:Nat)]? =some Tryz.f82:=Tryz.func82
noncomputable def xV(s:c8):ah:= .tuple [(xZ s).e,.bool (ks s).isSome]
@[simp] theorem ao7(S:aH→Prop)(s:c8):aC S (xV s)=True:=by simp[xV,aC,aK]
theorem alK{k:List bK}(ad:iU k)(v:Int):bH al 151 [.slice 2 .no (k.map bK.e),(T.var v).e,.int .i64 2] (oi k (j7 k (.var v) 2)):=WL k (by have:=su ad;omega) ad.asc (.var v) 2
theorem WI{b y:List ar}(ae:eM b)(aG:eM y):bH al 153 [.slice 5 .no (b.map ar.e),.slice 5 .no (y.map ar.e)] (cH (gv b y)):=alF ae aG
theorem WH{b x:List ar}(ae:eM b)(ab:eM x):bH al 152 [.slice 5 .no (b.map ar.e),cH x] (fy (mgu b (hz x))):=alE b x ae.sol ae.fits ab.len
def Ki(a:List bk):ah:=match a with
 |[]=>.slice 2 .nil []
 |_::_=>.slice 2 (.own (.loc 5)) (a.map bk.e)
def Kh(a:List bk):List (aH×fM):=match a with
 |[]=>[]
 |_::_=>[(.loc 5,⟨a.length,100,2,none⟩)]
def Kg(a:List bk):Nat:=match a with
 |[]=>3
 |_::_=>6
@[simp] theorem apw:Ki []= .slice 2 .nil []:=rfl
@[simp] theorem apv(x:bk)(a:List bk):Ki (x::a)= .slice 2 (.own (.loc 5)) (x.e::a.map bk.e):=rfl
@[simp] theorem apu:Kh []=[]:=rfl
@[simp] theorem apt(x:bk)(a:List bk):Kh (x::a)=[(.loc 5,⟨a.length+1,100,2,none⟩)]:=rfl
@[simp] theorem aps:Kg []=3:=rfl
@[simp] theorem apr(x:bk)(a:List bk):Kg (x::a)=6:=rfl
set_option maxRecDepth 4000 in
theorem WM{s:c8}(h:qE s){G:List (List dz)}(kf:G.length≤687000)(a7:nE G s.m):bH al 81 [s.e] (xV s):=by
 unfold xV;generalize dk:ks s=O;generalize dC:xZ s=SS;have kn:=Mq h.b h.k;have ko:=Mr h.b h.m kf a7;have k1:=fun k=>Ga (acc:=[]) (a:=k) h.b h.k.at' ⟨by simp,by simp⟩;have pR:=fun m=>Gb (acc:=[]) (a:=m) h.b h.m.at' ⟨by simp,by simp[hF]⟩;have mK:=fun m=>Gc (acc:=[]) (a:=m) (s:=s.b) a7 (fun x ab=>by simp at ab);have ae:=h.b;have aQ:=h.d;clear h a7;unfold ks at dk;unfold xZ at dC;obtain⟨n,b,d,fc,m0⟩:=s;simp only at kn ko k1 pR mK ae aQ dk dC;have fw:=ae.len;simp only[c8.e];generalize ga b fc []=ok at kn dk dC k1;generalize gb b m0 []=om at ko dk dC pR mK;cases ok with
 |none=>
  simp only at dk dC;subst dk;subst dC;simp only[fS]at kn;simp only[iZ]at ko;clear k1 pR mK;refine bf nH Iw KT fun aP=>?_;unfold DV;simp;(with_reducible repeat' first|refine aj ?_|refine aD kn ?_|refine aE kn ?_|refine aD ko ?_|refine aE ko ?_|simp);all_goals simp[bt,uf,aX,aZ,aW]
  all_goals simp[lF,c8.e]
 |some k=>
  simp only at dk dC;cases om with
  |none=>
   simp only at dk dC;subst dk;subst dC;simp only[fS]at kn;simp only[iZ]at ko;clear k1 pR mK;refine bf nH Iw KT fun aP=>?_;unfold DV;simp;(with_reducible repeat' first|refine aj ?_|refine aD kn ?_|refine aE kn ?_|refine aD ko ?_|refine aE ko ?_|simp);all_goals simp[bt,uf,aX,aZ,aW]
   all_goals simp[lF,c8.e]
  |some m=>
   simp only at dk dC;have u5:=k1 k rfl;have w8:=pR m rfl;have wZ:=mK m rfl;have mg:m.length≤68719470000:=by have:=Ch w8 wZ;omega
   have y4:=Ty (k:=k) w8;have yY:=Mc (k:=k) wZ;simp only[fS,ky,p3]at kn;simp only[iZ,ky,p3]at ko;clear k1 pR mK;refine bf nH Iw KT fun aP=>?_;unfold DV;have I3:d.length≤68719476736:=by simp[eB,ec,et,lim]at aP;omega
   clear aP;simp;(with_reducible repeat' first|refine aj ?_|refine aD kn ?_|refine aE kn ?_|refine aD ko ?_|refine aE ko ?_|simp);refine hQ (fun i (a:List bk)=>⟨[(1,.ptr (.loc 0) 0),(2,.ptr (.loc 1) 0),(4,.slice 2 .no (k.map bK.e)),(8,.ptr (.loc 2) 0),(48,.slice 2 .no (m.map bk.e)),(49,.int .i64 m.length),(50,.int .i64 i)],[(.loc 0,[.int .i64 n,.slice 5 .no (b.map ar.e),.slice 1 .no (d.map cH),.slice 2 .no (fc.map bK.e),.slice 2 .no (m0.map bk.e)]),(.loc 1,[.int .i64 0,.slice 5 .nil [],.slice 1 .nil [],.slice 2 .nil [],.slice 2 .nil []]),(.loc 2,[.int .i64 n,.slice 5 .no (b.map ar.e),.slice 1 .nil [],.slice 2 .no (k.map bK.e),Ki a])],Kh a,Kg a,[]⟩) m.length (sr k m) [] b0 (by simp[sr]) (fun a af _=>?_) (fun i a hi af _=>?_);rotate_left
   ·obtain⟨x,ab,cy⟩:=ed hi;have q2:a.length≤68719470000:=by
     have:a.length≤(m.take i).length:=by rw[af];exact List.length_filter_le _ _
     simp at this;omega
    have aA:=af.step ab;have mo:=alK u5 x.v;have bo:(j7 k (.var x.v) 2).isSome=kq k x:=XE u5 x.v;simp only[oi,bo]at mo;clear bo;generalize (j7 k (.var x.v) 2).getD k=kz at mo;cases aI:kq k x
    ·rw[aI]at aA mo;simp only[gP,if_false]at aA;clear af ab aI;cases a with
     |nil=>simp[hi,cy];(with_reducible repeat' first|refine aj ?_|refine aD (j3 _) ?_|refine aE (j3 _) ?_|refine aD mo ?_|refine aE mo ?_|simp[hi,cy]);all_goals exact bN.rng [] hi aA b0
     |cons y ys=>simp[hi,cy];(with_reducible repeat' first|refine aj ?_|refine aD (j3 _) ?_|refine aE (j3 _) ?_|refine aD mo ?_|refine aE mo ?_|simp[hi,cy]);all_goals exact bN.rng (y::ys) hi aA b0
    ·rw[aI]at aA mo;simp only[if_true]at aA;clear af ab aI;cases a with
     |nil=>
      simp[hi,cy];(with_reducible repeat' first|refine aj ?_|refine aD (j3 _) ?_|refine aE (j3 _) ?_|refine aD mo ?_|refine aE mo ?_|simp[hi,cy]);all_goals first|(refine⟨by unfold lim;omega,?_⟩)|skip
      all_goals(with_reducible repeat' first|refine aj ?_|simp)
      all_goals exact bN.rng [x] hi aA b0
     |cons y ys=>
      simp only[p2]at q2;simp[hi,cy];(with_reducible repeat' first|refine aj ?_|refine aD (j3 _) ?_|refine aE (j3 _) ?_|refine aD mo ?_|refine aE mo ?_|simp[hi,cy]);all_goals first|(refine⟨by unfold lim;omega,?_⟩)|skip
      all_goals(with_reducible repeat' first|refine aj ?_|simp)
      all_goals exact bN.rng (y::ys++[x]) hi aA ⟨by simp[fresh,aK,aC,cd,inObs,Pv.look,zs],dZ (by simp[fresh,aK,aC,cd,inObs,Pv.look,zs]),ea (by simp[fresh,aK,aC,dQ,inObs,Pv.look,zs]),by simp⟩
   rw[sr,nL]at af;rw[←af]at y4 yY dk dC;clear af w8 wZ;cases a with
   |nil=>
    simp;(with_reducible repeat' first|refine aj ?_|simp);refine hQ (fun i (L:List (List ar))=>⟨[(1,.ptr (.loc 0) 0),(2,.ptr (.loc 1) 0),(8,.ptr (.loc 2) 0),(13,.slice 1 (.own (.loc 3)) (L.map cH)),(72,.slice 1 .no (d.map cH)),(73,.int .i64 d.length),(74,.int .i64 i)],[(.loc 0,[.int .i64 n,.slice 5 .no (b.map ar.e),.slice 1 .no (d.map cH),.slice 2 .no (fc.map bK.e),.slice 2 .no (m0.map bk.e)]),(.loc 1,[.int .i64 0,.slice 5 .nil [],.slice 1 .nil [],.slice 2 .nil [],.slice 2 .nil []]),(.loc 2,[.int .i64 n,.slice 5 .no (b.map ar.e),.slice 1 .nil [],.slice 2 .no (k.map bK.e),.slice 2 .nil []])],[(.loc 3,⟨L.length,46,1,none⟩)],3+1,[]⟩) d.length (pH b k [] d) [] b0 ⟨by simp,by simp,by simp⟩ (fun L af _=>?_) (fun i L hi af _=>?_)
    ·have jr:=af.fin;have uZ:=af.2.1;rw[jr]at dk dC;simp only at dk dC;have mU:=WK L uZ;clear af jr uZ;generalize kI L=M at mU dk dC;subst dC;by_cases ld:M.length≤30
     ·have nX:(M.length:Int)≤30:=by omega
      rw[if_pos ld]at dk;subst dk;simp;(with_reducible repeat' first|refine aj ?_|refine aD mU ?_|refine aE mU ?_|simp[ld,nX]);all_goals simp[bt,uf,aX,aZ,aW]
      all_goals try simp[c8.e,ld,nX]
      all_goals first|exact⟨_,rfl,rfl⟩|skip
     ·have nX:¬(M.length:Int)≤30:=by omega
      rw[if_neg ld]at dk;subst dk;simp;(with_reducible repeat' first|refine aj ?_|refine aD mU ?_|refine aE mU ?_|simp[ld,nX]);all_goals simp[bt,uf,aX,aZ,aW]
      all_goals try simp[c8.e,ld,nX]
      all_goals first|exact⟨_,rfl,rfl⟩|skip
    ·obtain⟨x,ab,cy⟩:=ed hi;have h4:=aQ x (eG ab);have Rc:=af.1;have hK:=WH ae h4;simp only[fy]at hK;cases hu:mgu b (hz x)with
     |none=>have aA:=af.skip ab fun r=>J9 hu;rw[hu]at hK;simp only[kQ,j6]at hK;clear af ab dk dC;exact hN
     |some y=>
      have iS:=ae.mgu (A1 h4) hu;rw[hu]at hK;simp only[ky,p3]at hK;have dg:=Mq iS u5;have dU:=Mr iS y4 kf yY;have hL:=WI ae iS;simp only[fS]at dg;simp only[iZ,pe,gE]at dU;by_cases js:ga y k []=none∨gb y [] []=none
      ·have aA:=af.skip ab fun r=>J8 hu js;clear af ab dk dC hu hL;rcases js with e|e
       ·rw[e]at dg;simp only[kQ,j6]at dg;exact hN
       ·rw[e]at dU;simp only[kQ,j6]at dU;generalize (ga y k []).isSome=a6 at dg;cases a6
        ·exact hN
        ·exact hN
      ·have ak:(ga y k []).isSome=true:=by cases e:ga y k []with|none=>exact absurd (.inl e) js|some _=>rfl
       have aB:(gb y [] []).isSome=true:=by cases e:gb y [] []with|none=>exact absurd (.inr e) js|some _=>rfl
       rw[ak]at dg;rw[aB]at dU;by_cases cF:gv b y=[]
       ·have ag:=af.stop ab fun r=>J7 hu js cF;rw[ag]at dk dC;simp only at dk dC;subst dk;subst dC;rw[cF]at hL;simp only[cH,pe]at hL;clear af ab hu js;simp[hi,cy];(with_reducible repeat' first|refine aj ?_|refine aD hK ?_|refine aE hK ?_|refine aD dg ?_|refine aE dg ?_|refine aD dU ?_|refine aE dU ?_|refine aD hL ?_|refine aE hL ?_|simp[hi,cy]);all_goals simp[bt,uf,aX,aZ,aW]
        all_goals try simp[lF,c8.e]
       ·have aA:=af.snoc ab (FA (b:=b) iS) fun r=>Ka hu js cF;have u7:¬((gv b y).length:Int)=0:=by have:(gv b y).length≠0:=fun h=>cF (List.length_eq_zero_iff.1 h);omega
        have u9:(((gv b y).length:Int)==0)=false:=by simp[cF]
        clear af ab hu js dk dC;generalize gv b y=z at hL aA u7 u9 cF;simp only[cH]at hL;simp[hi,cy];(with_reducible repeat' first|refine aj ?_|refine aD hK ?_|refine aE hK ?_|refine aD dg ?_|refine aE dg ?_|refine aD dU ?_|refine aE dU ?_|refine aD hL ?_|refine aE hL ?_|simp[hi,cy,u7,u9,cF]);all_goals first|(refine⟨by unfold lim;omega,?_⟩)|skip
        all_goals(with_reducible repeat' first|refine aj ?_|simp)
        all_goals exact bN.rng (L++[z]) hi aA ⟨by simp[fresh,aK,aC,cd,inObs,Pv.look,sw,cH],dZ (by simp[fresh,aK,aC,cd,inObs,Pv.look,sw,cH]),ea (by simp[fresh,aK,aC,dQ,inObs,Pv.look,sw,cH]),by simp⟩
   |cons Dj Dk=>
    simp;(with_reducible repeat' first|refine aj ?_|simp);refine hQ (fun i (L:List (List ar))=>⟨[(1,.ptr (.loc 0) 0),(2,.ptr (.loc 1) 0),(8,.ptr (.loc 2) 0),(13,.slice 1 (.own (.loc 6)) (L.map cH)),(72,.slice 1 .no (d.map cH)),(73,.int .i64 d.length),(74,.int .i64 i)],[(.loc 0,[.int .i64 n,.slice 5 .no (b.map ar.e),.slice 1 .no (d.map cH),.slice 2 .no (fc.map bK.e),.slice 2 .no (m0.map bk.e)]),(.loc 1,[.int .i64 0,.slice 5 .nil [],.slice 1 .nil [],.slice 2 .nil [],.slice 2 .nil []]),(.loc 2,[.int .i64 n,.slice 5 .no (b.map ar.e),.slice 1 .nil [],.slice 2 .no (k.map bK.e),.slice 2 (.own (.loc 5)) (Dj.e::Dk.map bk.e)])],[(.loc 6,⟨L.length,46,1,none⟩)],6+1,[]⟩) d.length (pH b k (Dj::Dk) d) [] b0 ⟨by simp,by simp,by simp⟩ (fun L af _=>?_) (fun i L hi af _=>?_)
    ·have jr:=af.fin;have uZ:=af.2.1;rw[jr]at dk dC;simp only at dk dC;have mU:=WK L uZ;clear af jr uZ;generalize kI L=M at mU dk dC;subst dC;by_cases ld:M.length≤30
     ·have nX:(M.length:Int)≤30:=by omega
      rw[if_pos ld]at dk;subst dk;simp;(with_reducible repeat' first|refine aj ?_|refine aD mU ?_|refine aE mU ?_|simp[ld,nX]);all_goals simp[bt,uf,aX,aZ,aW]
      all_goals try simp[c8.e,ld,nX]
      all_goals first|exact⟨_,rfl,rfl⟩|skip
     ·have nX:¬(M.length:Int)≤30:=by omega
      rw[if_neg ld]at dk;subst dk;simp;(with_reducible repeat' first|refine aj ?_|refine aD mU ?_|refine aE mU ?_|simp[ld,nX]);all_goals simp[bt,uf,aX,aZ,aW]
      all_goals try simp[c8.e,ld,nX]
      all_goals first|exact⟨_,rfl,rfl⟩|skip
    ·obtain⟨x,ab,cy⟩:=ed hi;have h4:=aQ x (eG ab);have Rc:=af.1;have hK:=WH ae h4;simp only[fy]at hK;cases hu:mgu b (hz x)with
     |none=>have aA:=af.skip ab fun r=>J9 hu;rw[hu]at hK;simp only[kQ,j6]at hK;clear af ab dk dC;exact hN
     |some y=>
      have iS:=ae.mgu (A1 h4) hu;rw[hu]at hK;simp only[ky,p3]at hK;have dg:=Mq iS u5;have dU:=Mr iS y4 kf yY;have hL:=WI ae iS;simp only[fS]at dg;simp only[iZ,pe,gE]at dU;by_cases js:ga y k []=none∨gb y (Dj::Dk) []=none
      ·have aA:=af.skip ab fun r=>J8 hu js;clear af ab dk dC hu hL;rcases js with e|e
       ·rw[e]at dg;simp only[kQ,j6]at dg;exact hN
       ·rw[e]at dU;simp only[kQ,j6]at dU;generalize (ga y k []).isSome=a6 at dg;cases a6
        ·exact hN
        ·exact hN
      ·have ak:(ga y k []).isSome=true:=by cases e:ga y k []with|none=>exact absurd (.inl e) js|some _=>rfl
       have aB:(gb y (Dj::Dk) []).isSome=true:=by cases e:gb y (Dj::Dk) []with|none=>exact absurd (.inr e) js|some _=>rfl
       rw[ak]at dg;rw[aB]at dU;by_cases cF:gv b y=[]
       ·have ag:=af.stop ab fun r=>J7 hu js cF;rw[ag]at dk dC;simp only at dk dC;subst dk;subst dC;rw[cF]at hL;simp only[cH,pe]at hL;clear af ab hu js;simp[hi,cy];(with_reducible repeat' first|refine aj ?_|refine aD hK ?_|refine aE hK ?_|refine aD dg ?_|refine aE dg ?_|refine aD dU ?_|refine aE dU ?_|refine aD hL ?_|refine aE hL ?_|simp[hi,cy]);all_goals simp[bt,uf,aX,aZ,aW]
        all_goals try simp[lF,c8.e]
       ·have aA:=af.snoc ab (FA (b:=b) iS) fun r=>Ka hu js cF;have u7:¬((gv b y).length:Int)=0:=by have:(gv b y).length≠0:=fun h=>cF (List.length_eq_zero_iff.1 h);omega
        have u9:(((gv b y).length:Int)==0)=false:=by simp[cF]
        clear af ab hu js dk dC;generalize gv b y=z at hL aA u7 u9 cF;simp only[cH]at hL;simp[hi,cy];(with_reducible repeat' first|refine aj ?_|refine aD hK ?_|refine aE hK ?_|refine aD dg ?_|refine aE dg ?_|refine aD dU ?_|refine aE dU ?_|refine aD hL ?_|refine aE hL ?_|simp[hi,cy,u7,u9,cF]);all_goals first|(refine⟨by unfold lim;omega,?_⟩)|skip
        all_goals(with_reducible repeat' first|refine aj ?_|simp)
        all_goals exact bN.rng (L++[z]) hi aA ⟨by simp[fresh,aK,aC,cd,inObs,Pv.look,sw,cH],dZ (by simp[fresh,aK,aC,cd,inObs,Pv.look,sw,cH]),ea (by simp[fresh,aK,aC,dQ,inObs,Pv.look,sw,cH]),by simp⟩
theorem alI(x y:List ar):bH al 155 [cH x,cH y] (.int .i64 (eu x y)):=Mo x y
theorem alU{x y:List ar}(h:¬x=y):(eu x y !=0)=true:=by have:¬eu x y=0:=fun e=>h ((ly.zero _ _).1 e);simp[this]
set_option maxRecDepth 4000 in
theorem alP(a c:c8):bH al 82 [a.e,c.e] (.bool (decide (a=c))):=by
 obtain⟨n,b,d,k,m⟩:=a;obtain⟨n',bO,b8,bM,hj⟩:=c;generalize bh:decide ((⟨n,b,d,k,m⟩:c8)=⟨n',bO,b8,bM,hj⟩)=R;simp only[c8.mk.injEq,c8.e]at bh⊢;by_cases a6:n=n';rotate_left
 ·have fQ:R=false:=by rw[←bh];simp[a6]
  have sI:(n !=n')=true:=by simp[a6]
  rw[fQ];clear bh fQ;refine bf nH yF zL fun aP=>?_;unfold wD;exact b2
 subst a6;have fx:=Mo b bO;by_cases bu:b=bO;rotate_left
 ·have fQ:R=false:=by rw[←bh];simp[bu]
  have oh:¬eu b bO=0:=fun h=>bu ((ly.zero _ _).1 h);have UA:(eu b bO !=0)=true:=by simp[oh]
  rw[fQ];clear bh fQ;refine bf nH yF zL fun aP=>?_;unfold wD;exact b2
 subst bu;rw[(ly.zero b b).2 rfl]at fx;by_cases bV:d.length=b8.length;rotate_left
 ·have fQ:R=false:=by rw[←bh];simp only[hE];rintro⟨_,_,rfl,_⟩;exact bV rfl
  have rC:((d.length:Int) !=b8.length)=true:=by simp;omega
  rw[fQ];clear bh fQ;refine bf nH yF zL fun aP=>?_;unfold wD;exact b2
 by_cases cW:k.length=bM.length;rotate_left
 ·have fQ:R=false:=by rw[←bh];simp only[hE];rintro⟨_,_,_,rfl,_⟩;exact cW rfl
  have aiE:((k.length:Int) !=bM.length)=true:=by simp;omega
  rw[fQ];clear bh fQ;refine bf nH yF zL fun aP=>?_;unfold wD;exact b2
 by_cases da:m.length=hj.length;rotate_left
 ·have fQ:R=false:=by rw[←bh];simp only[hE];rintro⟨_,_,_,_,rfl⟩;exact da rfl
  have aiF:((m.length:Int) !=hj.length)=true:=by simp;omega
  rw[fQ];clear bh fQ;refine bf nH yF zL fun aP=>?_;unfold wD;exact b2
 have xb:d≠b8→R=false:=fun h=>by rw[←bh];simp[h]
 have xc:k≠bM→R=false:=fun h=>by rw[←bh];simp[h]
 have Jm:m≠hj→R=false:=fun h=>by rw[←bh];simp[h]
 refine bf nH yF zL fun aP=>?_;unfold wD;have adR:b8.length≤68719476736:=by simp[eB,ec,et,lim]at aP;omega
 have adS:bM.length≤68719476736:=by simp[eB,ec,et,lim]at aP;omega
 have adT:hj.length≤68719476736:=by simp[eB,ec,et,lim]at aP;omega
 clear aP;simp;(with_reducible repeat' first|refine aj ?_|refine aD fx ?_|refine aE fx ?_|simp[bV,cW,da]);have di:=xb;refine dW [2,3,52,53] (fun i (_:Unit)=>[(54,.int .i64 i)]) b8.length (qQ d b8) () b0 (fun k ad=>by omega) (fun _ af _=>?_) (fun i _ hi af _=>?_);rotate_left
 ·obtain⟨x,ab⟩:∃x,d[i]? =some x:=⟨_,cf (by omega)⟩;obtain⟨y,aG⟩:∃y,b8[i]? =some y:=⟨_,cf hi⟩;have gh:i<d.length:=by omega
  have cy:∀h,(d[i]'h)=x:=fun h=>by rw[cf gh]at ab;exact fB ab
  have eJ:∀h,(b8[i]'h)=y:=fun h=>by rw[cf hi]at aG;exact fB aG
  have fx:=alI x y;by_cases q:x=y
  ·subst q;have aA:=af.step ab aG;rw[(ly.zero _ _).2 rfl]at fx;clear af ab aG;simp[hi,gh,cy,eJ,-ib];(with_reducible repeat' first|refine aj ?_|refine aD fx ?_|refine aE fx ?_|simp[cy,eJ,hi,gh,-ib]);all_goals exact bN.rng () hi aA b0
  ·rw[di (fun h=>q (by rw[h]at ab;rw[ab]at aG;exact fB aG))];have oh:=alU q;clear af ab aG;simp[hi,gh,cy,eJ,-ib];(with_reducible repeat' first|refine aj ?_|refine aD fx ?_|refine aE fx ?_|simp[cy,eJ,hi,gh,q,oh,-ib]);all_goals simp[bt,F7,aX,aZ,aW]
 have dw:=af.fin bV;subst dw;clear af di xb bV;simp;(with_reducible repeat' first|refine aj ?_|simp[cW]);have di:=xc;refine dW [2,3,69,70] (fun i (_:Unit)=>[(71,.int .i64 i)]) bM.length (qQ k bM) () b0 (fun k ad=>by omega) (fun _ af _=>?_) (fun i _ hi af _=>?_);rotate_left
 ·obtain⟨x,ab⟩:∃x,k[i]? =some x:=⟨_,cf (by omega)⟩;obtain⟨y,aG⟩:∃y,bM[i]? =some y:=⟨_,cf hi⟩;have gh:i<k.length:=by omega
  have cy:∀h,(k[i]'h)=x:=fun h=>by rw[cf gh]at ab;exact fB ab
  have eJ:∀h,(bM[i]'h)=y:=fun h=>by rw[cf hi]at aG;exact fB aG
  have fx:=True.intro;by_cases q:x=y
  ·subst q;have aA:=af.step ab aG;skip;clear af ab aG;simp[hi,gh,cy,eJ,-ib];(with_reducible repeat' first|refine aj ?_|refine aD fx ?_|refine aE fx ?_|simp[cy,eJ,hi,gh,-ib]);all_goals exact bN.rng () hi aA b0
  ·rw[di (fun h=>q (by rw[h]at ab;rw[ab]at aG;exact fB aG))];skip;clear af ab aG;simp[hi,gh,cy,eJ,-ib];(with_reducible repeat' first|refine aj ?_|refine aD fx ?_|refine aE fx ?_|simp[cy,eJ,hi,gh,q,q,-ib]);all_goals simp[bt,F7,aX,aZ,aW]
 have dw:=af.fin cW;subst dw;clear af di xc cW;simp;(with_reducible repeat' first|refine aj ?_|simp[da]);have di:=Jm;refine dW [3,85,86] (fun i (_:Unit)=>[(87,.int .i64 i)]) hj.length (qQ m hj) () b0 (fun k ad=>by omega) (fun _ af _=>?_) (fun i _ hi af _=>?_);rotate_left
 ·obtain⟨x,ab⟩:∃x,m[i]? =some x:=⟨_,cf (by omega)⟩;obtain⟨y,aG⟩:∃y,hj[i]? =some y:=⟨_,cf hi⟩;have gh:i<m.length:=by omega
  have cy:∀h,(m[i]'h)=x:=fun h=>by rw[cf gh]at ab;exact fB ab
  have eJ:∀h,(hj[i]'h)=y:=fun h=>by rw[cf hi]at aG;exact fB aG
  have fx:=True.intro;by_cases q:x=y
  ·subst q;have aA:=af.step ab aG;skip;clear af ab aG;simp[hi,gh,cy,eJ,-ib];(with_reducible repeat' first|refine aj ?_|refine aD fx ?_|refine aE fx ?_|simp[cy,eJ,hi,gh,-ib]);all_goals exact bN.rng () hi aA b0
  ·rw[di (fun h=>q (by rw[h]at ab;rw[ab]at aG;exact fB aG))];skip;clear af ab aG;simp[hi,gh,cy,eJ,-ib];(with_reducible repeat' first|refine aj ?_|refine aD fx ?_|refine aE fx ?_|simp[cy,eJ,hi,gh,q,q,-ib]);all_goals simp[bt,F7,aX,aZ,aW]
 have dw:=af.fin da;subst dw;have fQ:R=true:=by rw[←bh];simp
 rw[fQ];exact b2
@[simp] theorem akD:∀l:List (List cT),cY (l.map fW)=l.map fW
 |[]=>rfl
 |x::xs=>by simp[cY,akD xs]
theorem V3:∀{d:List (List cT)},d.all gy=true→∃D:List (List ar),d=(D.map fun x=>x.map ar.b)∧∀x∈D,eM x
 |[],_=>⟨[],rfl,by simp⟩
 |x::d,h=>by
  rw[List.all_cons,cA]at h;obtain⟨D,J,U⟩:=V3 h.2;obtain⟨s,ak,aB⟩:=vS.1 (qG.1 h.1);refine⟨s::D,by rw[J,ak];rfl,fun y aG=>?_⟩;rcases fU.1 aG with rfl|aG
  ·exact aB
  ·exact U y aG
open Classical in
set_option maxRecDepth 4000 in
theorem Ms(r:ff)(dT:hB r.m→jE r.m):bH al 27 [r.e] (.bool (decide (ij r))):=by
 generalize bh:decide (ij r)=R;have di:¬Lt r→R=false:=fun h=>by rw[←bh,hE];exact fun cr=>h cr.raw
 obtain⟨n,b,d,k,m⟩:=r;simp only[ff.e]at dT⊢;have E7:=dt n 0 100000;by_cases g1:0≤n∧n≤100000;rotate_left
 ·rw[di fun h=>g1 h.n];rw[jH g1]at E7;refine bf nH wH xH fun aP=>?_;unfold uN;exact b2
 rw[jk g1]at E7;have kY:bH al 76 [.slice 5 .no (b.map cT.e)] (.bool (gy b)):=Mt b;cases g3:gy b
 ·rw[di fun h=>by obtain⟨s,ak,aB,_⟩:=h.b;have:=qG.2 (vS.2 ⟨s,ak,aB⟩);simp only at this;rw[g3]at this;cases this]
  rw[g3]at kY;refine bf nH wH xH fun aP=>?_;unfold uN;exact b2
 rw[g3]at kY;obtain⟨s,rfl,ag⟩:=vS.1 (qG.1 g3);clear g3;rw[xy]at kY⊢;have gj:=alH d;cases uX:d.all gy
 ·rw[di fun h=>by
   have:d.all gy=true:=by rw[jb];intro x ab;obtain⟨s,ak,aB,_⟩:=h.d x ab;exact qG.2 (vS.2 ⟨s,ak,aB⟩)
   rw[uX]at this;cases this]
  rw[uX]at gj;refine bf nH wH xH fun aP=>?_;unfold uN;exact b2
 rw[uX]at gj;obtain⟨D,rfl,Bj⟩:=V3 uX;clear uX;rw[H4]at gj⊢;have dg:=al0 k;by_cases g4:iU k;rotate_left
 ·rw[di fun h=>g4 h.k];rw[jH g4]at dg;refine bf nH wH xH fun aP=>?_;unfold uN;exact b2
 rw[jk g4]at dg;have dU:=al1 m;by_cases g5:hB m;rotate_left
 ·rw[di fun h=>g5 h.m];rw[jH g5]at dU;refine bf nH wH xH fun aP=>?_;unfold uN;exact b2
 rw[jk g5]at dU;have kZ:=WN s n;cases g6:s.all (kC n)
 ·rw[di fun h=>by obtain⟨ai,ak,_,bj⟩:=h.b;have de:=uG ak;subst de;rw[uJ.2 bj]at g6;cases g6]
  rw[g6]at kZ;refine bf nH wH xH fun aP=>?_;unfold uN;exact b2
 rw[g6]at kZ;have cQ:=uJ.1 g6;clear g6;have BD:=dT g5;have mg:=BD.len g5;refine bf nH wH xH fun aP=>?_;unfold uN;have I3:D.length≤68719476736:=by simp[eB,ec,et,lim]at aP;omega
 have ih:=su g4;clear aP dT;simp;(with_reducible repeat' first|refine aj ?_|refine aD E7 ?_|refine aE E7 ?_|refine aD kY ?_|refine aE kY ?_|refine aD gj ?_|refine aE gj ?_|refine aD dg ?_|refine aE dg ?_|refine aD dU ?_|refine aE dU ?_|refine aD kZ ?_|refine aE kZ ?_|simp);refine dW [1,48,49] (fun i (_:Unit)=>[(50,.int .i64 i)]) D.length (rn (fun x=>pn x n) D) () b0 (fun k b ad=>by omega) (fun _ af _=>?_) (fun i _ hi af _=>?_);rotate_left
 ·obtain⟨y,aG,eJ⟩:=ed hi;have JI:=eG aG;have mo:bH al 80 [cH y,.int .i64 n] (.bool (y.all (kC n))):=WN y n;cases qY:y.all (kC n)
  ·rw[di fun h=>by obtain⟨ai,ak,_,bj⟩:=h.d _ (List.mem_map_of_mem JI);have de:=uG ak;subst de;rw[uJ.2 bj]at qY;cases qY]
   rw[qY]at mo;clear af aG JI;exact b2
  ·rw[qY]at mo;have aA:=af.step aG (uJ.1 qY);clear af aG JI;exact hN
 have IT:=af.fin;clear af;simp;(with_reducible repeat' first|refine aj ?_|simp);refine dW [1,61,62] (fun i (_:Unit)=>[(63,.int .i64 i)]) k.length (rn (fun x=>x.v<n) k) () b0 (fun k b ad=>by omega) (fun _ af _=>?_) (fun i _ hi af _=>?_);rotate_left
 ·obtain⟨x,ab,cy⟩:=ed hi;by_cases mc:x.v<n
  ·have wO:¬n≤x.v:=by omega
   have aA:=af.step ab mc;clear af ab;exact hN
  ·have wO:n≤x.v:=by omega
   rw[di fun h=>mc (h.kb x (eG ab))];clear af ab;exact b2
 have w1:=af.fin;clear af;simp;(with_reducible repeat' first|refine aj ?_|simp);have w2:=w1;refine dW [1,74,75] (fun i (_:Unit)=>[(76,.int .i64 i)]) m.length (rn (fun x=>x.v<n) m) () b0 (fun k b ad=>by omega) (fun _ af _=>?_) (fun i _ hi af _=>?_);rotate_left
 ·obtain⟨x,ab,cy⟩:=ed hi;by_cases mc:x.v<n
  ·have wO:¬n≤x.v:=by omega
   have aA:=af.step ab mc;clear af ab;exact hN
  ·have wO:n≤x.v:=by omega
   rw[di fun h=>mc (h.mb x (eG ab))];clear af ab;exact b2
 have w1:=af.fin;clear af;simp;(with_reducible repeat' first|refine aj ?_|simp);have vb:=w1;have dd:qE ⟨n,s,D,k,m⟩:=⟨g1,ag,Bj,g4,g5,cQ,IT,w2,vb⟩;have tC:=VX dd;obtain⟨G,kf,a7⟩:=BD;have dH:=WM dd kf a7;have kW:ij ⟨n,s.map ar.b,D.map fun x=>x.map ar.b,k,m⟩↔ks ⟨n,s,D,k,m⟩=some ⟨n,s,D,k,m⟩:=tC;clear tC di;simp only[xV]at dH;generalize IW:xZ ⟨n,s,D,k,m⟩=t at dH;have vo:=alP t ⟨n,s,D,k,m⟩;cases lq:ks ⟨n,s,D,k,m⟩with
 |none=>
  rw[lq]at dH kW;have fQ:R=false:=by rw[←bh,hE,kW];simp
  rw[fQ];obtain⟨o9,Aj,Ak,o8,tm⟩:=t;simp only[j6,c8.e]at dH;clear bh fQ kW IW vo;exact b2
 |some dJ=>
  have ak:=LS lq;rw[IW]at ak;subst ak;rw[lq]at dH kW;have fQ:R=decide (t=⟨n,s,D,k,m⟩):=by rw[←bh,decide_eq_decide,kW];simp
  rw[fQ];simp only[p3]at dH;simp only[c8.e]at dH vo;clear bh fQ kW lq;generalize decide (t=(⟨n,s,D,k,m⟩:c8))=Q at vo⊢;clear IW;obtain⟨o9,Aj,Ak,o8,tm⟩:=t;simp only at dH vo;exact b2
def po(d:c3 (c3 eZ)):ah:=d.e 1 j9
def pL(k:c3 bK):ah:=k.e 2 bK.e
def pP(m:c3 hc):ah:=m.e 2 hc.e
@[simp] theorem aoW(S:aH→Prop)(d:c3 (c3 eZ)):aC S (po d)=True:=by cases d<;>simp[po,c3.e,aC]
@[simp] theorem arx(d:c3 (c3 eZ)):ds (po d)=po d:=by
 cases d with
 |l l=>
  have:∀l:List (c3 eZ),cY (l.map j9)=l.map j9:=by
   intro l;induction l with
   |nil=>rfl
   |cons x l bT=>simp[cY,bT]
  simp[po,c3.e,ds,this]
 |b=>simp[po,c3.e,ds]
@[simp] theorem aq1(d:c3 (c3 eZ)):dY (po d)=true:=by cases d<;>rfl
@[simp] theorem am3(d:c3 (c3 eZ)):cells (po d)=[po d]:=by cases d<;>rfl
@[simp] theorem ao3(S:aH→Prop)(d:c3 bK):aC S (pL d)=True:=by cases d<;>simp[pL,c3.e,aC]
@[simp] theorem arE(d:c3 bK):ds (pL d)=pL d:=by
 cases d with
 |l l=>
  have:∀l:List bK,cY (l.map bK.e)=l.map bK.e:=by
   intro l;induction l with
   |nil=>rfl
   |cons x l bT=>simp[cY,bT]
  simp[pL,c3.e,ds,this]
 |b=>simp[pL,c3.e,ds]
@[simp] theorem arb(d:c3 bK):dY (pL d)=true:=by cases d<;>rfl
@[simp] theorem anf(d:c3 bK):cells (pL d)=[pL d]:=by cases d<;>rfl
@[simp] theorem ao5(S:aH→Prop)(d:c3 hc):aC S (pP d)=True:=by cases d<;>simp[pP,c3.e,aC]
@[simp] theorem arG(d:c3 hc):ds (pP d)=pP d:=by
 cases d with
 |l l=>
  have:∀l:List hc,cY (l.map hc.e)=l.map hc.e:=by
   intro l;induction l with
   |nil=>rfl
   |cons x l bT=>simp[cY,bT]
  simp[pP,c3.e,ds,this]
 |b=>simp[pP,c3.e,ds]
@[simp] theorem ard(d:c3 hc):dY (pP d)=true:=by cases d<;>rfl
@[simp] theorem anh(d:c3 hc):cells (pP d)=[pP d]:=by cases d<;>rfl
structure nQ where
 n:Int
 b:c3 eZ
 d:c3 (c3 eZ)
 k:c3 bK
 m:c3 hc
def nQ.e(r:nQ):ah:= .agg [.int .i64 r.n,j9 r.b,po r.d,pL r.k,pP r.m]
structure nQ.wf (r:nQ):Prop where
 b:wb r.b
 d:r.d.wf wb
 k:∀p n cap,r.k= .b p n cap→my n
 m:r.m.wf fun x=>x.s.wf
def sN(r:nQ)(m:Int):Int:=if hW r.b m<0 then-1 else if gD hW r.d (hW r.b m)<0 then-1 else if ou r.k (gD hW r.d (hW r.b m))<0 then-1 else if gD lC r.m (ou r.k (gD hW r.d (hW r.b m)))<0 then-1 else gD lC r.m (ou r.k (gD hW r.d (hW r.b m)))
def yn(b:cT):eZ:=⟨b.v,uy b.t⟩
def xA(b:bk):hc:=⟨b.v,.s b.s⟩
theorem X6(b:cT):(yn b).e=b.e:=by have h:=GG b.t;rw[cq.e_eq,uR]at h;simp only[ah.agg.injEq,p0,and_true,true_and]at h;obtain⟨J,U,ao,a8⟩:=h;show ah.agg [_,_,_,_,_]=ah.agg [_,_,_,_,_];rw[show(yn b).t=uy b.t from rfl,J,U,ao,a8];rfl
theorem agb(b:bk):(xA b).e=b.e:=rfl
theorem X7(l:List cT):(l.map yn).map eZ.e=l.map cT.e:=by rw[List.map_map];exact List.map_congr_left fun b _=>X6 b
theorem agc(l:List bk):(l.map xA).map hc.e=l.map bk.e:=by rw[List.map_map];exact List.map_congr_left fun b _=>agb b
def th(d:List cT):c3 eZ:= .l (d.map yn)
theorem PZ(d:List cT):j9 (th d)=fW d:=by simp only[j9,th,c3.e,fW,X7]
theorem YW(l:List (List cT)):(l.map th).map j9=l.map fW:=by rw[List.map_map];exact List.map_congr_left fun b _=>PZ b
def ff.h(r:ff):nQ:=⟨r.n,th r.b,.l (r.d.map th),.l r.k,.l (r.m.map xA)⟩
theorem aky(r:ff):r.h.e=r.e:=by simp only[nQ.e,ff.h,ff.e,PZ,po,pL,pP,c3.e,YW,agc];rfl
theorem akH(x:eZ)(m:Int)(hw:x.t.wf)(J:m≤1048576)(bA:0≤m)(h:0≤rJ x m):∃y,x=yn y:=by obtain⟨u,hu⟩:=GD x.t m hw J bA h;exact⟨⟨x.v,u⟩,by cases x;simp only[yn]at hu⊢;rw[hu]⟩
theorem akI(x:hc)(m:Int)(hw:x.s.wf)(J:m≤1048576)(bA:0≤m)(h:0≤lC x m):∃y,x=xA y:=by
 unfold lC at h;split at h
 ·omega
 ·obtain⟨l,au⟩:=gQ.small hw J h;exact⟨⟨x.v,l⟩,by cases x;simp only[xA]at au⊢;rw[au]⟩
theorem V4(x:c3 eZ)(m:Int)(hw:wb x)(J:m≤1048576)(bA:0≤m)(h:0≤hW x m):∃y,x=th y:=L8 (P:=fun b:eZ=>b.t.wf) L7 akH x m (show c3.wf (fun b:eZ=>b.t.wf) x from hw) J bA h
theorem Wa:∀(l:List bk) (m:Int),(∀x∈l,1≤x.s.length)→0≤jO lC (l.map xA) m→(l.length:Int)≤m
 |[],m,_,h=>by simpa[jO]using h
 |x::l,m,J,h=>by
  simp only[gE,jO]at h;split at h
  ·omega
  ·rename_i U;have ao:=Wa l _ (fun y aG=>J y (by simp[aG])) h;have a8:=J x (by simp);have bZ:lC (xA x) m=if m-x.s.length<0 then-1 else m-x.s.length:=rfl
   rw[bZ]at U ao;split at ao
   ·rename_i c4;rw[if_pos c4]at U;omega
   ·simp only[p2];omega
theorem agm{s:List dz}(h:jw s=true):1≤s.length:=by
 cases s with
 |nil=>simp[jw]at h
 |cons c s=>simp
theorem akL{r:nQ}(hw:r.wf)(h:0≤sN r 1048576):∃u:ff,r=u.h∧(hB u.m→jE u.m):=by
 obtain⟨n,b,d,k,l⟩:=r;obtain⟨eD,du,oA,mz⟩:=hw;simp only at eD du oA mz;unfold sN at h;simp only at h;have cc:=vU b 1048576 (by omega);split at h
 ·omega
 have b4:=uv vU d (hW b 1048576) (by omega);split at h
 ·omega
 have fD:=L9 k (gD hW d (hW b 1048576)) (by omega);split at h
 ·omega
 split at h
 ·omega
 obtain⟨bO,rfl⟩:=V4 b 1048576 eD (by omega) (by omega) (by omega);obtain⟨b8,rfl⟩:=L8 vU (P:=wb) V4 d (hW (th bO) 1048576) du (by omega) (by omega) (by omega);generalize gD hW (.l (b8.map th)) (hW (th bO) 1048576)=bu at*;cases k with
 |b=>simp only[ou]at*;omega
 |l bM=>
  generalize ou (.l bM) bu=bV at*;have nS:=uv C5 l bV (by omega);obtain⟨hj,rfl⟩:=L8 C5 (P:=fun x=>x.s.wf) akI l bV mz (by omega) (by omega) (by omega);refine⟨⟨n,bO,b8,bM,hj⟩,rfl,fun hm=>jE.of ?_⟩;simp only at hm⊢;simp only[gD,ov]at h;split at h
  ·omega
  ·have:=Wa hj _ (fun x ab=>agm (hm.at' x ab).2) h;simp only[List.length_map]at this;omega
theorem al8(r:nQ)(hw:r.wf)(m:Int)(bA:0≤m)(J:m≤1048576):bH al 26 [r.e,.int .i64 m] (.int .i64 (sN r m)):=by
 generalize bh:sN r m=R;obtain⟨n,b,d,k,l⟩:=r;obtain⟨eD,du,oA,mz⟩:=hw;simp only at eD du oA mz;unfold sN at bh;simp only[nQ.e]at bh⊢;have aT:=WV b eD m bA J;have cc:=vU b m bA;generalize hW b m=a6 at bh aT cc;have bz:_→bH al 72 [po d,.int .i64 a6] (.int .i64 (gD hW d a6)):=fun h=>al5 d (fun p n c e=>by subst e;exact du) (fun xs e x ab m bA J=>by subst e;exact WV x (du x ab) m bA J) a6 h (by omega);have b4:=fun h=>uv vU d a6 h;generalize gD hW d a6=bu at bh bz b4;have b6:_→_→bH al 73 [pL k,.int .i64 bu] (.int .i64 (ou k bu)):=fun h cr=>al9 k oA bu h cr;have fD:=fun h=>L9 k bu h;generalize ou k bu=bV at bh b6 fD;have dO:_→_→bH al 74 [pP l,.int .i64 bV] (.int .i64 (gD lC l bV)):=fun h cr=>al7 l (fun p n c e=>by subst e;exact mz) (fun xs e x ab m bA J=>by subst e;exact al6 x (mz x ab) m bA J) bV h cr;have nS:=fun h=>uv C5 l bV h;generalize gD lC l bV=cW at bh dO nS;clear eD du oA mz;by_cases g1:a6<0
 ·rw[if_pos g1]at bh;subst bh;clear bz b6 dO;refine bf fA A4 Cu fun aP=>?_;unfold yr;exact b2
 rw[if_neg g1]at bh;have bz:=bz (by omega);have b4:=b4 (by omega);by_cases g2:bu<0
 ·rw[if_pos g2]at bh;subst bh;clear b6 dO;refine bf fA A4 Cu fun aP=>?_;unfold yr;exact b2
 rw[if_neg g2]at bh;have b6:=b6 (by omega) (by omega);have fD:=fD (by omega);by_cases g3:bV<0
 ·rw[if_pos g3]at bh;subst bh;clear dO;refine bf fA A4 Cu fun aP=>?_;unfold yr;exact b2
 rw[if_neg g3]at bh;have dO:=dO (by omega) (by omega);have nS:=nS (by omega);by_cases g4:cW<0
 ·rw[if_pos g4]at bh;subst bh;refine bf fA A4 Cu fun aP=>?_;unfold yr;exact b2
 rw[if_neg g4]at bh;subst bh;refine bf fA A4 Cu fun aP=>?_;unfold yr;exact b2
theorem amh(r:ff):bH al 28 [r.e] r.e:=by obtain⟨n,b,d,k,l⟩:=r;simp only[ff.e];have aT:bH al 35 [.slice 5 .no (b.map cT.e)] (.slice 5 .no (b.map cT.e)):=WX b;have bz:=ame d fun x _=>WX x;have b6:=amk k fun x _=>amj x;have dO:=amg l fun x _=>amf x;refine bf fA aa3 aht fun aP=>?_;unfold OC;exact b2
theorem aln(r:ff):bH al 30 [r.e,r.e] (.bool true):=by obtain⟨n,b,d,k,l⟩:=r;simp only[ff.e];have aT:bH al 37 [.slice 5 .no (b.map cT.e),.slice 5 .no (b.map cT.e)] (.bool true):=Wx b;have bz:=alj d fun x _=>Wx x;have b6:=alq k fun x _=>alp x;have dO:=alm l fun x _=>alk x;refine bf fA aaT ahj fun aP=>?_;unfold Oq;exact b2
end Go.Proofs.YtahlgcidhnjlbaaGreat
namespace Go.Proofs.YtahlgcidhnjlbaaGreat
open Go Go.Pv Go.ChangeShapes Go.WideShapes Go.ChangeAt Go.RowKit Go.Deep
section
variable {H:Type} {enc:fT×Value→H} {W:World} {spare:Nat→Bool} {held:Bool} {cs:List Value} {x:DataW H×List MemPlace} {fuel:Nat}
theorem AY:al.cellsOf 3=1:=by kernel_rfl
theorem PI:al.cellsOf 9=1:=by kernel_rfl
theorem HU:al.cellsOf 24=4:=by kernel_rfl
theorem Yj:al.cellsOf 22=1:=by kernel_rfl
theorem PE:al.cellsOf 111=5:=by kernel_rfl
theorem PF:al.cellsOf 38=1:=by kernel_rfl
theorem Yf:al.cellsOf 39=1:=by kernel_rfl
theorem PG:al.cellsOf 158=2:=by kernel_rfl
theorem Yg:al.cellsOf 40=1:=by kernel_rfl
theorem PH:al.cellsOf 146=2:=by kernel_rfl
theorem Yh:al.cellsOf 41=1:=by kernel_rfl
theorem Yi:al.cellsOf 43=5:=by kernel_rfl
theorem xk(h:iM enc al W 0 spare held fuel 3 cs=some x):∃(n:Int) (v:Value),cs=[v]∧uh W (.int .i64 n) v:=by obtain⟨n,rfl,_,_⟩:=DataW.trod_int Tryz.underlying3 h;exact⟨n,_,rfl,by simp only[ba],rfl,rfl⟩
theorem VY(h:iM enc al W 0 spare held fuel 9 cs=some x):∃(s:gQ) (v:Value),s.wf∧cs=[v]∧uh W s.e v:=by
 obtain⟨s,rfl,_,hm⟩:=DataW.trod_string Tryz.underlying9 h;by_cases ag:lim<s.size
 ·exact⟨.b s,_,⟨ag,by unfold maxLen at hm;omega⟩,rfl,by simp only[gQ.e,ba],rfl,rfl⟩
 ·refine⟨.s s.data.toList,_,trivial,rfl,?_,rfl,rfl⟩;simp only[gQ.e,ba];refine⟨by simp,?_⟩;have:s.data.toList.length=s.size:=rfl;omega
theorem Tl{α:Type}:∀{cs:List α},cs.length=2→∃a b,cs=[a,b]
 |[a,b],_=>⟨a,b,rfl⟩
theorem afD{α:Type}:∀{cs:List α},cs.length=4→∃a b c d,cs=[a,b,c,d]
 |[a,b,c,d],_=>⟨a,b,c,d,rfl⟩
theorem Tm{α:Type}:∀{cs:List α},cs.length=5→∃a b c d e,cs=[a,b,c,d,e]
 |[a,b,c,d,e],_=>⟨a,b,c,d,e,rfl⟩
theorem Wd:∀(fuel:Nat) (cs:List Value) (x:DataW H×List MemPlace),iM enc al W 0 spare held fuel 24 cs=some x→∃t:cq,t.wf∧c5 W (qh W) [.int .i64 t.kind,.int .i64 t.num,t.name.e,t.args.e 4 cq.e] cs:=by
 intro fuel;induction fuel using Nat.strongRecOn with
 |ind fuel bT=>
  intro cs x h;obtain⟨xs,n,rfl,_,hlen,jY,aI⟩:=DataW.trod_struct Tryz.underlying24 h;rw[HU]at hlen;obtain⟨iz,bI,ch,dc,rfl⟩:=afD hlen;have EU:xs.length=4:=jY;have f0:iM enc al W 0 spare held n 3 (([iz,bI,ch,dc].drop 0).take (al.cellsOf 3))=xs[0]?:=aI 0 _ rfl;have f1:iM enc al W 0 spare held n 3 (([iz,bI,ch,dc].drop 1).take (al.cellsOf 3))=xs[1]?:=aI 1 _ rfl;have f2:iM enc al W 0 spare held n 9 (([iz,bI,ch,dc].drop 2).take (al.cellsOf 9))=xs[2]?:=aI 2 _ rfl;have f3:iM enc al W 0 spare held n 22 (([iz,bI,ch,dc].drop 3).take (al.cellsOf 22))=xs[3]?:=aI 3 _ rfl;simp only[AY,PI,Yj,nh,lG]at f0 f1 f2 f3;rw[cf (by omega)]at f0 f1 f2 f3;obtain⟨k,v0,fj,r0⟩:=xk f0;obtain⟨m,v1,ak,dI⟩:=xk f1;obtain⟨s,v2,du,aB,eY⟩:=VY f2;obtain⟨l,oA,v3,bj,kJ⟩:=CZ cq.e cq.wf Tryz.underlying22 HU (by omega) (fun n' cs' Di aA cr=>by obtain⟨t,t1,t2⟩:=bT n' (by omega) cs' Di cr;exact⟨t,t1,by rw[cq.e_eq];exact z6 t2⟩) f3
  simp only[p0,and_true]at fj ak aB bj;subst fj ak aB bj;cases l with
  |l a=>
   refine⟨.mk k m s a,?_,?_⟩
   ·simp only[cq.wf,cq.wfL_iff];exact⟨du,oA⟩
   ·simp only[c5,cq.kind,cq.num,cq.name,cq.args];exact⟨_,_,rfl,⟨r0.1,r0.2.1⟩,_,_,rfl,⟨dI.1,dI.2.1⟩,_,_,rfl,⟨eY.1,eY.2.1⟩,_,_,rfl,⟨kJ.1,kJ.2.1⟩,rfl⟩
  |b p a1 c=>
   refine⟨.big k m s p a1 c,?_,?_⟩
   ·simp only[cq.wf];exact⟨du,oA⟩
   ·simp only[c5,cq.kind,cq.num,cq.name,cq.args];exact⟨_,_,rfl,⟨r0.1,r0.2.1⟩,_,_,rfl,⟨dI.1,dI.2.1⟩,_,_,rfl,⟨eY.1,eY.2.1⟩,_,_,rfl,⟨kJ.1,kJ.2.1⟩,rfl⟩
theorem XZ(h:iM enc al W 0 spare held fuel 111 cs=some x):∃b:eZ,b.t.wf∧reads W b.e cs:=by obtain⟨xs,n,rfl,_,hlen,jY,aI⟩:=DataW.trod_struct Tryz.underlying111 h;rw[PE]at hlen;obtain⟨iz,bI,ch,dc,ie,rfl⟩:=Tm hlen;have EU:xs.length=2:=jY;have f0:iM enc al W 0 spare held n 3 (([iz,bI,ch,dc,ie].drop 0).take (al.cellsOf 3))=xs[0]?:=aI 0 _ rfl;have f1:iM enc al W 0 spare held n 24 (([iz,bI,ch,dc,ie].drop 1).take (al.cellsOf 24))=xs[1]?:=aI 1 _ rfl;simp only[AY,HU,nh,lG]at f0 f1;rw[cf (by omega)]at f0 f1;obtain⟨k,v0,fj,r0⟩:=xk f0;obtain⟨t,eD,dI⟩:=Wd _ _ _ f1;simp only[p0,and_true]at fj;subst fj;refine⟨⟨k,t⟩,eD,z6 ?_⟩;rw[c5];exact⟨_,_,rfl,⟨r0.1,r0.2.1⟩,dI⟩
theorem afu(h:iM enc al W 0 spare held fuel 158 cs=some x):∃b:bK,True∧reads W b.e cs:=by obtain⟨xs,n,rfl,_,hlen,jY,aI⟩:=DataW.trod_struct Tryz.underlying158 h;rw[PG]at hlen;obtain⟨iz,bI,rfl⟩:=Tl hlen;have EU:xs.length=2:=jY;have f0:iM enc al W 0 spare held n 3 (([iz,bI].drop 0).take (al.cellsOf 3))=xs[0]?:=aI 0 _ rfl;have f1:iM enc al W 0 spare held n 3 (([iz,bI].drop 1).take (al.cellsOf 3))=xs[1]?:=aI 1 _ rfl;simp only[AY,nh,lG]at f0 f1;rw[cf (by omega)]at f0 f1;obtain⟨k,v0,fj,r0⟩:=xk f0;obtain⟨m,v1,ak,dI⟩:=xk f1;simp only[p0,and_true]at fj ak;subst fj ak;refine⟨⟨k,m⟩,trivial,z6 ?_⟩;simp only[c5];exact⟨_,_,rfl,⟨r0.1,r0.2.1⟩,_,_,rfl,⟨dI.1,dI.2.1⟩,rfl⟩
theorem afO(h:iM enc al W 0 spare held fuel 146 cs=some x):∃b:hc,b.s.wf∧reads W b.e cs:=by obtain⟨xs,n,rfl,_,hlen,jY,aI⟩:=DataW.trod_struct Tryz.underlying146 h;rw[PH]at hlen;obtain⟨iz,bI,rfl⟩:=Tl hlen;have EU:xs.length=2:=jY;have f0:iM enc al W 0 spare held n 3 (([iz,bI].drop 0).take (al.cellsOf 3))=xs[0]?:=aI 0 _ rfl;have f1:iM enc al W 0 spare held n 9 (([iz,bI].drop 1).take (al.cellsOf 9))=xs[1]?:=aI 1 _ rfl;simp only[AY,PI,nh,lG]at f0 f1;rw[cf (by omega)]at f0 f1;obtain⟨k,v0,fj,r0⟩:=xk f0;obtain⟨s,v1,eD,ak,dI⟩:=VY f1;simp only[p0,and_true]at fj ak;subst fj ak;refine⟨⟨k,s⟩,eD,z6 ?_⟩;simp only[c5];exact⟨_,_,rfl,⟨r0.1,r0.2.1⟩,_,_,rfl,⟨dI.1,dI.2.1⟩,rfl⟩
theorem Nj(h:iM enc al W 0 spare held fuel 38 cs=some x):∃d:c3 eZ,wb d∧∃v,cs=[v]∧uh W (j9 d) v:=CZ eZ.e (fun b=>b.t.wf) Tryz.underlying38 PE (by omega) (fun _ _ _ _ cr=>XZ cr) h
theorem X0(h:iM enc al W 0 spare held fuel 39 cs=some x):∃d:c3 (c3 eZ),d.wf wb∧∃v,cs=[v]∧uh W (po d) v:=CZ j9 wb Tryz.underlying39 PF (by omega) (fun _ _ _ _ cr=>by obtain⟨d,w,v,rfl,r⟩:=Nj cr;exact⟨d,w,r.reads⟩) h
theorem afx(h:iM enc al W 0 spare held fuel 40 cs=some x):∃d:c3 bK,d.wf (fun _=>True)∧∃v,cs=[v]∧uh W (pL d) v:=CZ bK.e (fun _=>True) Tryz.underlying40 PG (by omega) (fun _ _ _ _ cr=>afu cr) h
theorem afP(h:iM enc al W 0 spare held fuel 41 cs=some x):∃d:c3 hc,d.wf (fun b=>b.s.wf)∧∃v,cs=[v]∧uh W (pP d) v:=CZ hc.e (fun b=>b.s.wf) Tryz.underlying41 PH (by omega) (fun _ _ _ _ cr=>afO cr) h
theorem akx(h:iM enc al W 0 spare held fuel 43 cs=some x):∃r:nQ,r.wf∧reads W r.e cs:=by obtain⟨xs,n,rfl,_,hlen,jY,aI⟩:=DataW.trod_struct Tryz.underlying43 h;rw[Yi]at hlen;obtain⟨iz,bI,ch,dc,ie,rfl⟩:=Tm hlen;have EU:xs.length=5:=jY;have f0:iM enc al W 0 spare held n 3 (([iz,bI,ch,dc,ie].drop 0).take (al.cellsOf 3))=xs[0]?:=aI 0 _ rfl;have f1:iM enc al W 0 spare held n 38 (([iz,bI,ch,dc,ie].drop 1).take (al.cellsOf 38))=xs[1]?:=aI 1 _ rfl;have f2:iM enc al W 0 spare held n 39 (([iz,bI,ch,dc,ie].drop 2).take (al.cellsOf 39))=xs[2]?:=aI 2 _ rfl;have f3:iM enc al W 0 spare held n 40 (([iz,bI,ch,dc,ie].drop 3).take (al.cellsOf 40))=xs[3]?:=aI 3 _ rfl;have f4:iM enc al W 0 spare held n 41 (([iz,bI,ch,dc,ie].drop 4).take (al.cellsOf 41))=xs[4]?:=aI 4 _ rfl;simp only[AY,PF,Yf,Yg,Yh,nh,lG]at f0 f1 f2 f3 f4;rw[cf (by omega)]at f0 f1 f2 f3 f4;obtain⟨k,v0,fj,r0⟩:=xk f0;obtain⟨d1,eD,v1,ak,dI⟩:=Nj f1;obtain⟨d2,du,v2,aB,eY⟩:=X0 f2;obtain⟨d3,oA,v3,bj,kJ⟩:=afx f3;obtain⟨d4,mz,v4,de,UB⟩:=afP f4;simp only[p0,and_true]at fj ak aB bj de;subst fj ak aB bj de;refine⟨⟨k,d1,d2,d3,d4⟩,⟨eD,du,fun p n c e=>by simp only at e;subst e;exact oA,mz⟩,z6 ?_⟩;simp only[c5];exact⟨_,_,rfl,⟨r0.1,r0.2.1⟩,_,_,rfl,⟨dI.1,dI.2.1⟩,_,_,rfl,⟨eY.1,eY.2.1⟩,_,_,rfl,⟨kJ.1,kJ.2.1⟩,_,_,rfl,⟨UB.1,UB.2.1⟩,rfl⟩
end
end Go.Proofs.YtahlgcidhnjlbaaGreat
namespace Go.Proofs.YtahlgcidhnjlbaaGreat
open Go Go.Pv Go.ChangeShapes Go.WideShapes Go.ChangeAt Go.RowKit
theorem ajR:ownKnob al.godebug=none:=by kernel_rfl
theorem LG:laidOutB al=true:=by kernel_rfl
theorem Ya{f:FuncId}{fn:Func}(qm:al.funcs[f]? =some fn)(Y2:∀args w,(callFunc f args).run al w= .ok (.enter f args) w){w:World}{ν:bd}{args:List ah}{bc:Array Value}(h:bH al f args (.bool true))(aN:∀k j b,¬ν.tr k j b)(bg:∀b o,ν.A b o→b<w.heap.size)(ae:∀k,ν.bx k=none)(aw:∀k,ν.ow k=none)(aL:cN w ν args bc.toList):
  Calls al f bc w fun e w'=>e= .returned (.bool true)∧Below w.heap.size w w':=by
 have a7:Pv.Good (fu ν ⟨[],[]⟩) w ν [] []:=⟨bg,fun k cs ad=>by simp[Pv.look]at ad,fun k bM bl J=>by simp[Pv.look]at J,fun g o ad=>by simp[Pv.look]at ad,fun g fb n n' v v' bl J=>by simp[Pv.look]at J,fun g k n v bl J=>by simp[Pv.look]at J,fun k=>.inl (ae k),fun _ _ k j=>aN k j _⟩;rcases h w ν bc a7 (fun k=>⟨fun _=>ae k,fun _=>aw k,aN k⟩) aL with⟨_,ax⟩|⟨v,w',ax,_⟩
 ·refine ax.mono ?_;rintro e w' ⟨v,r,ai,bp,rfl,⟨rfl,rfl⟩,mi,_,_,_,lP⟩;simp only[ba]at mi;subst mi;refine⟨rfl,lP.os,lP.tape,lP.output,lP.size,fun k ad=>lP.block k ad ?_⟩;simp[fu,Pv.look]
 ·rw[Y2]at ax;cases ax
theorem Y6{W:World}{b o:Nat}(h:(qh W).A b o):b<W.heap.size:=by
 obtain⟨u,hu⟩:=h;rcases Nat.lt_or_ge b W.heap.size with h|h
 ·exact h
 ·simp[World.cell?,Array.getElem?_eq_none h]at hu
theorem Vj{W:World}{ct:List ah}{us:Array Value}(h:reads W (.agg ct) us.toList):ba W (qh W) (.agg ct) (.agg us):=by
 obtain⟨v,J,U,_⟩:=h;have ao:=U;simp only[ba]at ao;obtain⟨ws,rfl,_⟩:=ao;have:ws=us:=by
  have:ws.toList=us.toList:=by simpa[pc]using J
  exact Array.toList_inj.1 this
 rw[←this];exact U
theorem Wc{H:Type}{enc:fT×Value→H}{W:World}{spare:Nat→Bool}{held:Bool}{us:Array Value}{x:DataW H×List MemPlace}{fuel:Nat}(h:iM enc al W 0 spare held fuel 24 us.toList=some x):∃t:cq,t.wf∧ba W (qh W) t.e (.agg us):=by obtain⟨t,J,U⟩:=Wd fuel _ x h;exact⟨t,J,by rw[cq.e_eq];exact Vj (z6 U)⟩
theorem akw{H:Type}{enc:fT×Value→H}{W:World}{spare:Nat→Bool}{held:Bool}{us:Array Value}{x:DataW H×List MemPlace}{fuel:Nat}(h:iM enc al W 0 spare held fuel 43 us.toList=some x):∃r:nQ,r.wf∧ba W (qh W) r.e (.agg us):=by obtain⟨r,aL,aen⟩:=akx h;exact⟨r,aL,Vj aen⟩
end Go.Proofs.YtahlgcidhnjlbaaGreat
