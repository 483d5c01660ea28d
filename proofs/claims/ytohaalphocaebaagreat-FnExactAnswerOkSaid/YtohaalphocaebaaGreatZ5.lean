/- From a contract to the row. -/
import Derived.Test.YtohaalphocaebaaGreatProg
import Derived.ProofKit
import Derived.Carry
import Derived.WalkKit
import Derived.Test.YtohaalphocaebaaGreatZ4
set_option linter.all false
set_option maxHeartbeats 4000000
open Bool renaming and_eq_true→cA,eq_iff_iff→p4,false_eq_true→gT,or_eq_true→lF
open Go renaming TypeId→fV
open Go.DataW renaming trod→h0
open Go.IntWalk renaming i64_in→oF
open Go.Op renaming bytesLess→hr
open Go.Proofs.Tryz renaming prog→al
open Go.Value renaming cells→oH
open List renaming all_eq_true→ir,cons_append→bP,drop→my,drop_eq_getElem_cons→k5,getElem?_eq_getElem→cf,getElem?_eq_none→p5,getElem?_eq_some_iff→fw,getElem_of_mem→nj,length_cons→oJ,length_drop→r4,map_cons→gM,map_nil→mz,mem_append→jP,mem_cons→fK,mem_filter→nk,mem_map→iO,mem_of_getElem?→eo,nil_append→bX,pairwise_cons→mA,pairwise_iff_getElem→pt,take→jQ,take_length→k6,take_of_length_le→hB,take_succ→nR
open List.Pairwise renaming filter→XI
open List.cons renaming injEq→nQ
open Nat renaming le_refl→eV,le_trans→j4
open Option renaming getD_none→nl,getD_some→k7,isSome_none→l0,isSome_some→r5
open Option.some renaming inj→fl,injEq→dE
open _root_ renaming False→eR,Option→aY,UInt8→dz,beq_iff_eq→dL,decide_eq_false→k8,decide_eq_false_iff_not→gr,decide_eq_true→kN,decide_eq_true_eq→fm
namespace Go.Proofs.YtohaalphocaebaaGreat
open Go Go.Pv
def D8:C:=(aa [cM 3 1,dH 4 dS] (.seq (aa [aI 7 0 1 3,ax 8 1 7,aS 9 .eql 8 1] (aT 9 (aa [I 11 0,aI 12 1 1 3,ax 13 1 12,cd 14 161 11 13,I 10 14,c2 15 0 10,c2 16 1 10,dH 5 dS,bW 4 5 15,I 6 16] (aa [I 17 6] (aT 17 (aa [be 18 4 5,bW 4 4 18] .ret) .skip))) .skip)) (.seq (aa [aI 19 0 1 3,ax 20 1 19,aS 21 .eql 20 4] (aT 21 (.seq (.drawn true 36 [I 22 0,aI 23 3 1 3,ax 24 1 23,jC 25 4 24 0,be 26 4 25,cd 27 75 22 26,I 28 0,aI 29 3 1 3,ax 30 1 29,jC 31 4 30 1,be 32 4 31,cd 33 75 28 32,cd 34 114 27 33,bW 4 4 34]) .ret) .skip)) (aa [be 35 4 3,bW 4 4 35] .ret))))
@[simp] def Gn:List bt:=[.cell 4 true 4]
def Pz:C:=(aa [cM 1 0,bf 2 false] (aa [be 3 4 1,dI 4 162 [.t 3,(gp 5000)],aS 5 .leq 4 5000,I 6 5,aq 6 true (be 7 4 1),aq 6 true (cQ 8 163 7),dK 9 6 8,I 2 9] .ret))
@[simp] def aks:List bt:=[.tmp 2]
def PD:C:=(aa [cM 1 0,bf 2 false] (aa [be 3 4 1,dI 4 162 [.t 3,(gp 5000)],aS 5 .leq 4 5000,I 2 5] .ret))
@[simp] def VJ:List bt:=[.tmp 2]
def PA:C:=(aa [bf 6 false] (aa [I 7 0,I 8 1,bk 9 .geq 7 8,I 10 9,b4 10 true 11 0,b4 10 true 12 2,aq 10 true (bk 13 .leq 11 12),dK 14 10 13,I 6 14] .ret))
@[simp] def VH:List bt:=[.tmp 6]
def H7:C:=(aa [bf 2 false] (.seq (aa [I 9 0,cQ 10 164 9,cx 11 10] (aT 11 (aa [bf 2 false] .ret) .skip)) (.seq (aa [I 12 0,cb 13 12,bQ 14 0] (e4 15 14 13 (.seq (.block 1 (aa [cp 16 5 12 14,be 17 5 16,dH 4 jZ,bW 5 4 17] (.seq (aa [fY 18 1 4 4,aI 19 0 1 18,ax 20 1 19,aS 21 .eql 20 1,I 22 21,aq 22 true (fY 23 1 4 4),aq 22 true (aI 24 1 1 23),aq 22 true (ax 25 1 24),aq 22 true (aI 26 0 1 4),aq 22 true (ax 27 1 26),aq 22 true (bk 28 .geq 25 27),dK 29 22 28] (aT 29 (aa [bf 2 false] .ret) .skip)) (aa [fY 30 1 4 4,be 31 4 30,dI 32 165 [.t 31,(.c (.slice 1 .nil []))],cb 33 32,bQ 34 0] (.block 2 (.loop (aa [bk 35 .lss 34 33] (.seq (aT 35 .skip (.exit 2)) (.seq (.block 3 (aa [cp 36 1 32 34,ax 37 1 36,I 6 37] (aa [I 39 0,I 40 6,cd 41 161 39 40,I 38 41,c2 42 0 38,c2 43 1 38,dH 7 dS,bW 4 7 42,I 8 43] (aa [I 44 8] (aT 44 (aa [bf 2 false] .ret) .skip))))) (.region [aS 45 .add 34 1,I 34 45])))))))))) (.region [aS 46 .add 14 1,I 14 46])))) (aa [bf 2 true] .ret))))
@[simp] def LB:List bt:=[.tmp 2]
def PM:C:=(aa [dH 4 dS,bf 5 false] (.seq (aa [I 8 0,cb 9 8,bQ 10 0] (e4 11 10 9 (.seq (.block 1 (aa [cp 12 5 8 10,be 13 5 12,dH 7 jZ,bW 5 7 13] (aa [aI 14 0 1 7,ax 15 1 14,I 16 1,bk 17 .eql 15 16] (aT 17 (aa [fY 18 1 4 7,be 19 4 18,bW 4 4 19,bf 5 true] .ret) .skip)))) (.region [aS 20 .add 10 1,I 10 20])))) (aa [k3 21 dS [],bW 4 4 21,bf 5 false] .ret)))
@[simp] def LG:List bt:=[.cell 4 true 4,.tmp 5]
def PC:C:=(aa [cM 2 0,bQ 4 0] (aa [bQ 5 1] (.seq (aa [aI 8 3 1 2,ax 9 1 8,cb 10 9,bQ 11 0] (e4 12 11 10 (.seq (.block 1 (aa [cp 13 4 9 11,be 14 4 13,dH 7 dS,bW 4 7 14] (.seq (aa [I 15 5,I 16 1,bk 17 .gtr 15 16] (aT 17 (aa [I 18 5,I 4 18] .ret) .skip)) (.region [I 19 5,be 20 4 7,I 21 1,I 22 5,bk 23 .sub 21 22,cd 24 162 20 23,bk 25 .add 19 24,I 5 25])))) (.region [aS 26 .add 11 1,I 11 26])))) (aa [I 27 5,I 4 27] .ret))))
@[simp] def LC:List bt:=[.tmp 4]
def lI:C:=(aa [cM 1 0,bf 2 false] (.seq (aa [aI 3 0 1 1,ax 4 1 3,aS 5 .neq 4 1,I 6 5,aq 6 true (aI 7 0 1 1),aq 6 true (ax 8 1 7),aq 6 true (aS 9 .neq 8 3),dK 10 6 9,I 11 10,aq 11 true (aI 12 1 1 1),aq 11 true (ax 13 1 12),aq 11 true (aS 14 .neq 13 0),dK 15 11 14,I 16 15,aq 16 false (aI 17 0 1 1),aq 16 false (ax 18 1 17),aq 16 false (aS 19 .neq 18 2),b4 16 false 20 19,aq 20 true (aI 21 2 1 1),aq 20 true (ax 22 1 21),wC 20 true 23 (.bin .neq false (.t 22) (.c (.str []))),aq 16 false (dK 24 20 23),dc 25 16 24,I 26 25,aq 26 false (aI 27 0 1 1),aq 26 false (ax 28 1 27),aq 26 false (aS 29 .neq 28 4),b4 26 false 30 29,aq 30 true (aI 31 3 1 1),aq 30 true (ax 32 1 31),aq 30 true (cb 33 32),aq 30 true (aS 34 .gtr 33 0),aq 26 false (dK 35 30 34),dc 36 26 35] (aT 36 (aa [bf 2 false] .ret) .skip)) (.seq (aa [aI 37 0 1 1,ax 38 1 37] (.block 0 (aa [aS 40 .eql 38 0,I 39 40] (aT 39 (aa [bf 2 true] .ret) (aa [aS 42 .eql 38 1,I 41 42] (aT 41 (aa [aI 43 1 1 1,ax 44 1 43,dI 45 141 [.t 44,(gp 0),(gp 100000)],I 2 45] .ret) (aa [aS 47 .eql 38 2,I 46 47] (aT 46 (aa [aI 48 2 1 1,ax 49 1 48,cQ 50 216 49,I 2 50] .ret) (aa [aS 52 .eql 38 3,I 51 52] (aT 51 (aa [aI 53 1 1 1,ax 54 1 53,dI 55 141 [.t 54,(gp (-1000000000)),(gp 1000000000)],I 2 55] .ret) (aa [aS 57 .eql 38 4,I 56 57] (aT 56 (aa [aI 58 3 1 1,ax 59 1 58,cb 60 59,aS 61 .eql 60 2,I 62 61,aq 62 true (aI 63 3 1 1),aq 62 true (ax 64 1 63),aq 62 true (jC 65 4 64 0),aq 62 true (be 66 4 65),aq 62 true (cQ 67 163 66),dK 68 62 67,I 69 68,aq 69 true (aI 70 3 1 1),aq 69 true (ax 71 1 70),aq 69 true (jC 72 4 71 1),aq 69 true (be 73 4 72),aq 69 true (cQ 74 163 73),dK 75 69 74,I 2 75] .ret) .skip)))))))))))) (aa [bf 2 false] .ret))))
@[simp] def lB:List bt:=[.tmp 2]
def PO:C:=(aa [bf 2 false] (.seq (aa [I 5 0,cb 6 5,bQ 7 0] (e4 8 7 6 (.seq (.block 1 (aa [I 9 7,cp 10 5 5 7,be 11 5 10,dH 4 jZ,I 3 9,bW 5 4 11] (.seq (.drawn true 41 [I 12 3,aS 13 .gtr 12 0,I 14 13,b4 14 true 15 0,b4 14 true 16 3,aq 14 true (aS 17 .sub 16 1),aq 14 true (cp 18 5 15 17),aq 14 true (aI 19 0 1 18),aq 14 true (ax 20 1 19),aq 14 true (aI 21 0 1 4),aq 14 true (ax 22 1 21),aq 14 true (bk 23 .geq 20 22),dK 24 14 23,I 25 24,aq 25 false (aI 26 0 1 4),aq 25 false (ax 27 1 26),aq 25 false (dI 28 141 [.t 27,(gp 0),(gp 100000)]),aq 25 false (cx 29 28),dc 30 25 29,I 31 30,aq 31 false (fY 32 1 4 4),aq 31 false (be 33 4 32),aq 31 false (cQ 34 76 33),aq 31 false (cx 35 34),dc 36 31 35]) (aT 36 (aa [bf 2 false] .ret) .skip)))) (.region [aS 37 .add 7 1,I 7 37])))) (aa [I 38 0,cb 39 38,aS 40 .leq 39 400,I 2 40] .ret)))
@[simp] def LI:List bt:=[.tmp 2]
def yK:C:=(aa [cM 2 0,ez 4 1] (.seq (aa [aI 7 0 1 2,ax 8 1 7,aS 9 .eql 8 1] (aT 9 (aa [I 10 1,aI 11 1 1 2,ax 12 1 11,cd 13 230 10 12,I 4 13] .ret) .skip)) (.seq (aa [aI 14 3 1 2,ax 15 1 14,cb 16 15,bQ 17 0] (e4 18 17 16 (.seq (.block 1 (aa [cp 19 4 15 17,be 20 4 19,dH 6 dS,bW 4 6 20] (.region [be 21 4 6,I 22 1,cd 23 165 21 22,I 1 23]))) (.region [aS 24 .add 17 1,I 17 24])))) (aa [I 25 1,I 4 25] .ret))))
@[simp] def Am:List bt:=[.tmp 4]
def PL:C:=(aa [cM 3 1,dH 4 dS,bf 5 false] (aa [I 7 0,be 8 4 3,cd 9 75 7 8,dH 6 dS,bW 4 6 9] (.seq (.drawn true 13 [be 10 4 6,be 11 4 6,cQ 12 92 11,bW 4 4 10,I 5 12]) .ret)))
@[simp] def VN:List bt:=[.cell 4 true 4,.tmp 5]
def se:C:=(aa [cM 4 1,cM 5 2,ez 6 5,bf 7 false] (aa [I 12 0,be 13 4 4,cd 14 236 12 13,bW 4 4 14] (aa [I 15 0,be 16 4 5,cd 17 236 15 16,bW 4 5 17] (.seq (aa [aI 18 0 1 4,ax 19 1 18,aS 20 .eql 19 1,I 21 20,aq 21 true (aI 22 0 1 5),aq 21 true (ax 23 1 22),aq 21 true (aS 24 .eql 23 1),dK 25 21 24,I 26 25,aq 26 true (aI 27 1 1 4),aq 26 true (ax 28 1 27),aq 26 true (aI 29 1 1 5),aq 26 true (ax 30 1 29),aq 26 true (bk 31 .lss 28 30),dK 32 26 31] (aT 32 (aa [I 33 0,aI 34 1 1 5,ax 35 1 34,be 36 4 4,dI 37 237 [.t 33,.t 35,.t 36],c2 38 0 37,c2 39 1 37,I 6 38,I 7 39] .ret) .skip)) (.seq (aa [aI 40 0 1 4,ax 41 1 40,aS 42 .eql 41 1,I 43 42,aq 43 true (aI 44 0 1 5),aq 43 true (ax 45 1 44),aq 43 true (aS 46 .eql 45 1),dK 47 43 46,I 48 47,aq 48 true (aI 49 1 1 4),aq 48 true (ax 50 1 49),aq 48 true (aI 51 1 1 5),aq 48 true (ax 52 1 51),aq 48 true (bk 53 .eql 50 52),dK 54 48 53] (aT 54 (aa [I 55 0,I 6 55,bf 7 true] .ret) .skip)) (.seq (aa [aI 56 0 1 4,ax 57 1 56,aS 58 .eql 57 1] (aT 58 (aa [I 59 0,aI 60 1 1 4,ax 61 1 60,be 62 4 5,dI 63 237 [.t 59,.t 61,.t 62],c2 64 0 63,c2 65 1 63,I 6 64,I 7 65] .ret) .skip)) (.seq (aa [aI 66 0 1 5,ax 67 1 66,aS 68 .eql 67 1] (aT 68 (aa [I 69 0,aI 70 1 1 5,ax 71 1 70,be 72 4 4,dI 73 237 [.t 69,.t 71,.t 72],c2 74 0 73,c2 75 1 73,I 6 74,I 7 75] .ret) .skip)) (.seq (aa [aI 76 0 1 4,ax 77 1 76,aI 78 0 1 5,ax 79 1 78,bk 80 .neq 77 79,I 81 80,aq 81 false (aI 82 1 1 4),aq 81 false (ax 83 1 82),aq 81 false (aI 84 1 1 5),aq 81 false (ax 85 1 84),aq 81 false (bk 86 .neq 83 85),dc 87 81 86,I 88 87,aq 88 false (aI 89 2 1 4),aq 88 false (ax 90 1 89),aq 88 false (aI 91 2 1 5),aq 88 false (ax 92 1 91),aq 88 false (bk 93 .neq 90 92),dc 94 88 93] (aT 94 (aa [ez 6 5,bf 7 false] .ret) .skip)) (.seq (aa [aI 95 3 1 4,ax 96 1 95,cb 97 96,bQ 98 0] (e4 99 98 97 (.seq (.block 1 (aa [I 100 98,cp 101 4 96 98,be 102 4 101,dH 9 dS,I 8 100,bW 4 9 102] (.seq (.drawn true 119 [I 104 0,be 105 4 9,aI 106 3 1 5,ax 107 1 106,I 108 8,cp 109 4 107 108,be 110 4 109,dI 111 176 [.t 104,.t 105,.t 110],I 103 111,c2 112 0 103,c2 113 1 103,I 10 112,I 11 113]) (.seq (aa [I 114 11,cx 115 114] (aT 115 (aa [ez 6 5,bf 7 false] .ret) .skip)) (.region [I 116 10,I 0 116]))))) (.region [aS 117 .add 98 1,I 98 117])))) (aa [I 118 0,I 6 118,bf 7 true] .ret))))))))))
@[simp] def rM:List bt:=[.tmp 6,.tmp 7]
def Pt:C:=(aa [bf 2 false] (.seq (aa [bQ 3 0] (.block 0 (.loop (.seq (aa [I 5 3,I 6 0,b1 7 (.slen (.t 6)),bk 8 .lss 5 7] (aT 8 .skip (.exit 0))) (.seq (.block 1 (aa [I 11 0,I 12 3,b1 13 (.sidx (.t 11) (.t 12)),b1 14 (.bin .geq false (.t 13) (.c (.int .u8 97))),I 15 14,b4 15 true 16 0,b4 15 true 17 3,aq 15 true (b1 18 (.sidx (.t 16) (.t 17))),aq 15 true (b1 19 (.bin .leq false (.t 18) (.c (.int .u8 122)))),dK 20 15 19,I 4 20] (aa [I 21 4,cx 22 21,I 23 22,b4 23 true 24 3,aq 23 true (aS 25 .eql 24 0),b4 23 true 26 25,b4 26 false 27 0,b4 26 false 28 3,aq 26 false (b1 29 (.sidx (.t 27) (.t 28))),aq 26 false (b1 30 (.bin .neq false (.t 29) (.c (.int .u8 45)))),b4 26 false 31 30,b4 31 true 32 0,b4 31 true 33 3,aq 31 true (b1 34 (.sidx (.t 32) (.t 33))),aq 31 true (b1 35 (.conv .i64 (.t 34))),aq 31 true (dI 36 141 [.t 35,(gp 48),(gp 57)]),aq 31 true (cx 37 36),aq 26 false (dK 38 31 37),aq 23 true (dc 39 26 38),dK 40 23 39] (aT 40 (aa [bf 2 false] .ret) .skip)))) (.region [I 9 3,aS 10 .add 9 1,I 3 10])))))) (aa [I 41 0,b1 42 (.slen (.t 41)),dI 43 141 [.t 42,(gp 1),(gp 12)],I 2 43] .ret)))
@[simp] def Aj:List bt:=[.tmp 2]
def PR:C:=(aa [ez 4 5,bf 5 false] (aa [fk 10 4 32 [],I 6 10] (aa [fk 11 4 32 [],I 7 11] (.seq (aa [I 12 1,cb 13 12,bQ 14 0] (e4 15 14 13 (.seq (.block 1 (aa [cp 16 5 12 14,be 17 5 16,dH 9 jZ,bW 5 9 17] (aa [I 18 6,aI 19 0 1 9,ax 20 1 19,cQ 21 91 20,fk 22 4 32 [.t 21],iN 23 4 32 18 22,I 6 23] (.region [I 24 7,fY 25 1 4 9,be 26 4 25,fk 27 4 32 [.t 26],iN 28 4 32 24 27,I 7 28])))) (.region [aS 29 .add 14 1,I 14 29])))) (aa [I 30 0,I 31 6,I 32 7,dI 33 268 [.t 30,.t 31,.t 32],c2 34 0 33,c2 35 1 33,I 4 34,I 5 35] .ret)))))
@[simp] def VO:List bt:=[.tmp 4,.tmp 5]
def PF:C:=(aa [ez 4 1] (aa [I 7 0,cb 8 7,I 5 8] (.seq (.block 0 (.loop (.seq (aa [I 9 5,aS 10 .gtr 9 0,I 11 10,b4 11 true 12 0,b4 11 true 13 5,aq 11 true (aS 14 .sub 13 1),aq 11 true (cp 15 1 12 14),aq 11 true (ax 16 1 15),b4 11 true 17 1,aq 11 true (bk 18 .geq 16 17),dK 19 11 18] (aT 19 .skip (.exit 0))) (.block 1 (.region [I 20 5,aS 21 .sub 20 1,I 5 21]))))) (.seq (aa [I 22 5,I 23 0,cb 24 23,bk 25 .lss 22 24,I 26 25,b4 26 true 27 0,b4 26 true 28 5,aq 26 true (cp 29 1 27 28),aq 26 true (ax 30 1 29),b4 26 true 31 1,aq 26 true (bk 32 .eql 30 31),dK 33 26 32] (aT 33 (aa [I 34 0,I 4 34] .ret) .skip)) (aa [fk 35 1 3 [],I 36 0,I 37 5,b1 38 (.lsl 1 (.t 36) none (some (.t 37))),iN 39 1 3 35 38,I 6 39] (aa [I 40 6,I 41 1,fk 42 1 3 [.t 41],iN 43 1 3 40 42,I 6 43] (aa [I 44 6,I 45 0,I 46 5,b1 47 (.lsl 1 (.t 45) (some (.t 46)) none),iN 48 1 3 44 47,I 4 48] .ret)))))))
@[simp] def x5:List bt:=[.tmp 4]
def PN:C:=(aa [cM 3 1,ez 4 5] (aa [I 7 0,cb 8 7,I 5 8] (.seq (.block 0 (.loop (.seq (.seq (.drawn true 38 [I 9 5,aS 10 .gtr 9 0,I 11 10,b4 11 true 12 0,b4 11 true 13 5,aq 11 true (aS 14 .sub 13 1),aq 11 true (cp 15 5 12 14),aq 11 true (aI 16 0 1 15),aq 11 true (ax 17 1 16),aq 11 true (aI 18 0 1 3),aq 11 true (ax 19 1 18),aq 11 true (bk 20 .gtr 17 19),dK 21 11 20]) (aT 21 .skip (.exit 0))) (.block 1 (.region [I 22 5,aS 23 .sub 22 1,I 5 23]))))) (aa [fk 24 5 61 [],I 25 0,I 26 5,b1 27 (.lsl 5 (.t 25) none (some (.t 26))),iN 28 5 61 24 27,I 6 28] (aa [I 29 6,be 30 5 3,fk 31 5 61 [.t 30],iN 32 5 61 29 31,I 6 32] (aa [I 33 6,I 34 0,I 35 5,b1 36 (.lsl 5 (.t 34) (some (.t 35)) none),iN 37 5 61 33 36,I 4 37] .ret))))))
@[simp] def LH:List bt:=[.tmp 4]
def D9:C:=(aa [cM 3 1,dH 4 dS] (.seq (aa [aI 7 0 1 3,ax 8 1 7,aS 9 .eql 8 1] (aT 9 (aa [I 11 0,aI 12 1 1 3,ax 13 1 12,cd 14 161 11 13,I 10 14,c2 15 0 10,c2 16 1 10,dH 5 dS,bW 4 5 15,I 6 16] (aa [I 17 6] (aT 17 (aa [be 18 4 5,bW 4 4 18] .ret) .skip))) .skip)) (aa [be 19 4 3,bW 4 4 19] .ret)))
@[simp] def Gp:List bt:=[.cell 4 true 4]
def Bd:C:=(aa [cM 5 2,ez 6 5,bf 7 false] (aa [I 15 0,be 16 4 5,cd 17 166 15 16,I 14 17,c2 18 0 14,c2 19 1 14,dH 8 dS,bW 4 8 18,I 9 19] (.seq (aa [I 20 9,cx 21 20,I 22 21,b4 22 false 23 1,aq 22 false (be 24 4 8),aq 22 false (cd 25 270 23 24),dc 26 22 25,I 27 26,b4 27 false 28 0,aq 27 false (cb 29 28),aq 27 false (aS 30 .geq 29 400),dc 31 27 30] (aT 31 (aa [ez 6 5,bf 7 false] .ret) .skip)) (aa [fk 32 5 61 [],I 10 32] (.seq (aa [I 33 0,cb 34 33,bQ 35 0] (e4 36 35 34 (.seq (.block 1 (aa [cp 37 5 33 35,be 38 5 37,dH 12 jZ,bW 5 12 38] (aa [fY 39 1 4 12,be 40 4 39,I 41 1,be 42 4 8,dI 43 271 [.t 40,.t 41,.t 42],dH 13 dS,bW 4 13 43] (.seq (aa [be 44 4 13,cQ 45 92 44,cx 46 45] (aT 46 (aa [ez 6 5,bf 7 false] .ret) .skip)) (.region [I 47 10,aI 48 0 1 12,ax 49 1 48,be 50 4 13,k3 51 jZ [(0,1,(.t 49)),(1,4,(.t 50))],fk 52 5 61 [.t 51],iN 53 5 61 47 52,I 10 53]))))) (.region [aS 54 .add 35 1,I 35 54])))) (aa [I 55 10,I 56 1,be 57 4 8,k3 58 jZ [(0,1,(.t 56)),(1,4,(.t 57))],cd 59 234 55 58,I 6 59,bf 7 true] .ret))))))
@[simp] def Ao:List bt:=[.tmp 6,.tmp 7]
def PQ:C:=(aa [ez 6 5,bf 7 false] (.seq (aa [I 12 1,cb 13 12,bQ 14 0] (e4 15 14 13 (.seq (.block 1 (aa [I 16 14,cp 17 4 12 14,be 18 4 17,dH 9 dS,I 8 16,bW 4 9 18] (.seq (.drawn true 34 [I 20 0,be 21 4 9,I 22 2,I 23 8,cp 24 4 22 23,be 25 4 24,dI 26 176 [.t 20,.t 21,.t 25],I 19 26,c2 27 0 19,c2 28 1 19,I 10 27,I 11 28]) (.seq (aa [I 29 11,cx 30 29] (aT 30 (aa [ez 6 5,bf 7 false] .ret) .skip)) (.region [I 31 10,I 0 31]))))) (.region [aS 32 .add 14 1,I 14 32])))) (aa [I 33 0,I 6 33,bf 7 true] .ret)))
@[simp] def LJ:List bt:=[.tmp 6,.tmp 7]
def PG:C:=(aa [cM 3 1,bf 4 false] (.seq (aa [aI 7 3 1 3,ax 8 1 7,cb 9 8,bQ 10 0] (e4 11 10 9 (.seq (.block 1 (aa [cp 12 4 8 10,be 13 4 12,dH 6 dS,bW 4 6 13] (aa [I 14 0,be 15 4 6,cd 16 270 14 15] (aT 16 (aa [bf 4 true] .ret) .skip)))) (.region [aS 17 .add 10 1,I 10 17])))) (aa [aI 18 0 1 3,ax 19 1 18,aS 20 .eql 19 1,I 21 20,aq 21 true (aI 22 1 1 3),aq 21 true (ax 23 1 22),b4 21 true 24 0,aq 21 true (bk 25 .eql 23 24),dK 26 21 25,I 4 26] .ret)))
@[simp] def LF:List bt:=[.tmp 4]
def D7:C:=(aa [cM 3 0,cM 5 2,dH 6 dS] (.seq (aa [aI 7 0 1 3,ax 8 1 7,aS 9 .eql 8 1,I 10 9,aq 10 true (aI 11 1 1 3),aq 10 true (ax 12 1 11),b4 10 true 13 1,aq 10 true (bk 14 .eql 12 13),dK 15 10 14] (aT 15 (aa [be 16 4 5,bW 4 6 16] .ret) .skip)) (.seq (aa [aI 17 0 1 3,ax 18 1 17,aS 19 .eql 18 4] (aT 19 (.seq (.drawn true 36 [aI 20 3 1 3,ax 21 1 20,jC 22 4 21 0,be 23 4 22,I 24 1,be 25 4 5,dI 26 271 [.t 23,.t 24,.t 25],aI 27 3 1 3,ax 28 1 27,jC 29 4 28 1,be 30 4 29,I 31 1,be 32 4 5,dI 33 271 [.t 30,.t 31,.t 32],cd 34 114 26 33,bW 4 6 34]) .ret) .skip)) (aa [be 35 4 3,bW 4 6 35] .ret))))
@[simp] def Gm:List bt:=[.cell 6 true 4]
def kI:List (Nat×dA):=[
 (3,⟨1,8,.int .i64,.int .i64 0⟩),
 (5,⟨1,1,.int .u8,.int .u8 0⟩),
 (9,⟨1,16,.str,.str []⟩),
 (23,⟨1,24,.slice 61,.slice 5 .nil []⟩),
 (30,⟨1,24,.slice 32,.slice 4 .nil []⟩),
 (32,⟨4,56,.struct [(0,3),(1,3),(2,9),(3,30)],.agg [.int .i64 0,.int .i64 0,.str [],.slice 4 .nil []]⟩),
 (61,⟨5,64,.struct [(0,3),(1,32)],.agg [.int .i64 0,.int .i64 0,.int .i64 0,.str [],.slice 4 .nil []]⟩),
 (112,⟨1,24,.slice 3,.slice 1 .nil []⟩)]
theorem eE:fN al kI=true:=by kernel_rfl
theorem K6:bY kI D8 Gn 2 Tryz.f75=true:=by kernel_rfl
theorem IG:al.funcs[(75:Nat)]? =some Tryz.f75:=Tryz.func75
theorem aiO:bY kI Pz aks 1 Tryz.f76=true:=by kernel_rfl
theorem acb:al.funcs[(76:Nat)]? =some Tryz.f76:=Tryz.func76
theorem aiS:bY kI PD VJ 1 Tryz.f92=true:=by kernel_rfl
theorem acg:al.funcs[(92:Nat)]? =some Tryz.f92:=Tryz.func92
theorem aiP:bY kI PA VH 3 Tryz.f141=true:=by kernel_rfl
theorem acd:al.funcs[(141:Nat)]? =some Tryz.f141:=Tryz.func141
theorem UN:bY kI H7 LB 1 Tryz.f142=true:=by kernel_rfl
theorem QV:al.funcs[(142:Nat)]? =some Tryz.f142:=Tryz.func142
theorem ai1:bY kI PM LG 2 Tryz.f161=true:=by kernel_rfl
theorem acq:al.funcs[(161:Nat)]? =some Tryz.f161:=Tryz.func161
theorem aiR:bY kI PC LC 2 Tryz.f162=true:=by kernel_rfl
theorem acf:al.funcs[(162:Nat)]? =some Tryz.f162:=Tryz.func162
theorem mr:bY kI lI lB 1 Tryz.f163=true:=by kernel_rfl
theorem l7:al.funcs[(163:Nat)]? =some Tryz.f163:=Tryz.func163
theorem ai3:bY kI PO LI 1 Tryz.f164=true:=by kernel_rfl
theorem acs:al.funcs[(164:Nat)]? =some Tryz.f164:=Tryz.func164
theorem CL:bY kI yK Am 2 Tryz.f165=true:=by kernel_rfl
theorem Bl:al.funcs[(165:Nat)]? =some Tryz.f165:=Tryz.func165
theorem ai0:bY kI PL VN 2 Tryz.f166=true:=by kernel_rfl
theorem acp:al.funcs[(166:Nat)]? =some Tryz.f166:=Tryz.func166
theorem uw:bY kI se rM 3 Tryz.f176=true:=by kernel_rfl
theorem tJ:al.funcs[(176:Nat)]? =some Tryz.f176:=Tryz.func176
theorem aiJ:bY kI Pt Aj 1 Tryz.f216=true:=by kernel_rfl
theorem ab6:al.funcs[(216:Nat)]? =some Tryz.f216:=Tryz.func216
theorem ai5:bY kI PR VO 2 Tryz.f219=true:=by kernel_rfl
theorem acv:al.funcs[(219:Nat)]? =some Tryz.f219:=Tryz.func219
theorem aiU:bY kI PF x5 2 Tryz.f230=true:=by kernel_rfl
theorem aci:al.funcs[(230:Nat)]? =some Tryz.f230:=Tryz.func230
theorem ai2:bY kI PN LH 2 Tryz.f234=true:=by kernel_rfl
theorem acr:al.funcs[(234:Nat)]? =some Tryz.f234:=Tryz.func234
theorem K7:bY kI D9 Gp 2 Tryz.f236=true:=by kernel_rfl
theorem IH:al.funcs[(236:Nat)]? =some Tryz.f236:=Tryz.func236
theorem FY:bY kI Bd Ao 3 Tryz.f237=true:=by kernel_rfl
theorem Es:al.funcs[(237:Nat)]? =some Tryz.f237:=Tryz.func237
theorem ai4:bY kI PQ LJ 3 Tryz.f268=true:=by kernel_rfl
theorem acu:al.funcs[(268:Nat)]? =some Tryz.f268:=Tryz.func268
theorem aiV:bY kI PG LF 2 Tryz.f270=true:=by kernel_rfl
theorem acj:al.funcs[(270:Nat)]? =some Tryz.f270:=Tryz.func270
theorem K5:bY kI D7 Gm 3 Tryz.f271=true:=by kernel_rfl
theorem IF:al.funcs[(271:Nat)]? =some Tryz.f271:=Tryz.func271
mutual
def lb:bJ→Int→Int
 | .mk _ _ _ args,m=>n1 args 1 m
def n1:List bJ→Int→Int→Int
 |[],n,_=>n
 |x::xs,n,m=>if m<n then n else n1 xs (n+lb x (m-n)) m
end
mutual
theorem Ib:∀(t:bJ) (m:Int),0≤m→1≤lb t m∧lb t m≤m+1
 | .mk _ _ _ args,m,h=>by simp only[lb];exact Qe args 1 m h (by omega) (by omega)
theorem Qe:∀(l:List bJ) (n m:Int),0≤m→1≤n→n≤m+1→1≤n1 l n m∧n1 l n m≤m+1
 |[],n,m,_,J,U=>by simp only[n1];exact⟨J,U⟩
 |x::xs,n,m,bq,J,U=>by
  simp only[n1];split
  ·exact⟨J,U⟩
  ·have:=Ib x (m-n) (by omega);exact Qe xs _ m bq (by omega) (by omega)
end
theorem Ef:∀(t:T) (m:Int),0≤m→(lb t.tm m≤m↔(t.size:Int)≤m)∧((t.size:Int)≤m→lb t.tm m=t.size)
 | .pair a b,m,h=>by
  have bD:=T.size_pos a;have ae:=T.size_pos b;simp only[T.tm,lb,n1,T.size];by_cases J:m<1
  ·rw[if_pos J];exact⟨by omega,fun h=>by omega⟩
  ·rw[if_neg J];obtain⟨bC,a2⟩:=Ef a (m-1) (by omega);have a3:=Ib a.tm (m-1) (by omega);by_cases U:(a.size:Int)≤m-1
   ·have e:=a2 U;rw[e];by_cases ao:m<1+(a.size:Int)
    ·omega
    ·rw[if_neg ao];obtain⟨b8,b3⟩:=Ef b (m-(1+a.size)) (by omega);refine⟨by omega,fun h=>?_⟩;rw[b3 (by omega)];omega
   ·have:¬lb a.tm (m-1)≤m-1:=fun h=>U (bC.1 h);rw[if_pos (by omega)];exact⟨by omega,fun h=>by omega⟩
 | .nil,m,h=>by simp[T.tm,lb,n1,T.size]
 | .var _,m,h=>by simp[T.tm,lb,n1,T.size]
 | .sym _,m,h=>by simp[T.tm,lb,n1,T.size]
 | .num _,m,h=>by simp[T.tm,lb,n1,T.size]
theorem Zu(t:bJ)(m:Int):lb t m=n1 t.args 1 m:=by cases t;rfl
theorem Xb(t:bJ):∀m:Int,0≤m→m≤1000000→bK al 162 [enc t,.int .i64 m] (.int .i64 (lb t m)):=by
 suffices H:∀(k:Nat) (t:bJ),t.sz≤k→∀m:Int,0≤m→m≤1000000→bK al 162 [enc t,.int .i64 m] (.int .i64 (lb t m))from H _ t (eV _)
 intro k;induction k with
 |zero=>intro t aL;cases t;simp[bJ.sz]at aL
 |succ k bN=>
  intro t aL m bq J;refine bm eE acf aiR fun aQ=>?_;unfold PC;have eI:t.args.length≤68719476736:=by rw[u6]at aQ;simp[eD,ef,et,lim]at aQ;omega
  simp;refine dW [1,9,10] (fun i (n:Int)=>[(5,.int .i64 n),(11,.int .i64 i)]) t.args.length (fun i n=>(1≤n∧n≤m+1)∧n1 (t.args.drop i) n m=lb t m) 1 bV ⟨by omega,by simp[Zu]⟩ (fun n af _=>?_) (fun i n hi af _=>?_)
  ·simp;(with_reducible repeat' first|refine aj ?_|simp);simp[bu,LC,aV,aW,aU];have:=af.2;simp[n1]at this;exact this
  ·obtain⟨⟨rk,BW⟩,af⟩:=af;obtain⟨x,ad,cC⟩:=dV hi;have aR:t.args.drop i=x::t.args.drop (i+1):=by rw[k5 hi,cC]
   have eh:x.sz≤k:=by have:=Mt (eo ad);omega
   rw[aR]at af;simp only[n1]at af;simp[hi,cC];by_cases ae:m<n
   ·rw[if_pos ae]at af;(with_reducible repeat' first|refine aj ?_|simp[ae]);simp[bu,LC,aV,aW,aU];exact af
   ·rw[if_neg ae]at af;have aw:=Ib x (m-n) (by omega);((with_reducible repeat' first|refine aj ?_|refine aE (bN x eh (m-n) (by omega) (by omega)) ?_|refine aF (bN x eh (m-n) (by omega) (by omega)) ?_|simp[ae]|((first|apply bR|apply bU|apply bT)<;>intro h<;>try simp at h))<;>(try exact cv));exact bO.rng (n+lb x (m-n)) hi ⟨by omega,af⟩ bV
theorem AO(t:T):bK al 92 [t.e] (.bool (decide (t.size≤5000))):=by
 have aw:=(Ef t 5000 (by omega)).1;have key:=Xb t.tm 5000 (by omega) (by omega);rw[tC]at key;refine bm eE acg aiS fun aQ=>?_;unfold PD;simp;(with_reducible repeat' first|refine aj ?_|refine aE key ?_|refine aF key ?_|simp);simp[bu,VJ,aV,aW,aU];have:(lb t.tm 5000≤5000)=(t.size≤5000):=by rw[aw];simp;omega
 simp[this]
def afK(l:List au)(v:Int)(k:Nat)(st:bp):Prop:=∃i:Nat,i≤l.length∧k=l.length-i∧df l v=df (l.drop i) v∧st=⟨[(1,.int .i64 v),(4,.ptr (.loc 0) 0),(8,.slice 5 .no (l.map au.e)),(9,.int .i64 l.length),(10,.int .i64 i)],[(.loc 0,[.int .i64 0,.int .i64 0,.str [],.slice 4 .nil []])],[],1,[]⟩
set_option maxRecDepth 4000 in
theorem uS(l:List au)(v:Int)(ar:l.length≤1000000):bK al 161 [.slice 5 .no (l.map au.e),.int .i64 v] (.tuple [((df l v).getD .nil).e,.bool (df l v).isSome]):=by
 refine bm eE acq ai1 fun aQ=>?_;unfold PM;simp;refine tF (afK l v) l.length _ bV ⟨0,by omega,rfl,by simp,rfl⟩ ?_;rintro k st ⟨i,hi,ab,a8,rfl⟩ qn cN;clear qn cN;by_cases bA:i<l.length
 ·obtain⟨b,ae⟩:∃b,l[i]? =some b:=⟨_,cf bA⟩;have RT:l.drop i=b::l.drop (i+1):=by rw[k5 bA];rw[cf bA]at ae;simp at ae;rw[ae]
  have cy:∀h,l[i]'h=b:=fun h=>by rw[cf h]at ae;simpa using ae
  simp[cy,bA];(with_reducible repeat' first|((first|apply bR|apply bU|apply bT)<;>intro h<;>try simp at h)|refine aj ?_|simp[cy])
  ·have:df l v=some b.t:=by rw[a8,RT];simp[df,h]
   simp[bu,LG,aV,aW,aU];simp[this]
  ·refine bO.next (l.length-(i+1)) (by omega) ⟨i+1,by omega,rfl,?_,rfl⟩ bV;rw[a8,RT];simp[df,h]
 ·have:df l v=none:=by rw[a8,List.drop_of_length_le (by omega)];simp[df]
  simp[bA];(with_reducible repeat' first|((first|apply bR|apply bU|apply bT)<;>intro h<;>try simp at h)|refine aj ?_|simp);simp[bu,LG,aV,aW,aU];simp[this]
theorem amz(l:List au)(ar:l.length≤1000000)(t:T):bK al 75 [.slice 5 .no (l.map au.e),t.e] (t.sub (df l)).e:=by
 induction t with
 |pair a b dM dN=>
  refine bm eE IG K6 fun aQ=>?_;unfold D8;simp;(with_reducible repeat' first|refine aj ?_|refine aE dM ?_|refine aF dM ?_|refine aE dN ?_|refine aF dN ?_|refine aE (G5 _ _) ?_|refine aF (G5 _ _) ?_|simp);all_goals simp[bu,Gn,aV,aW,aU]
  all_goals simp[T.sub]
 |var n=>
  refine bm eE IG K6 fun aQ=>?_;unfold D8;simp;((with_reducible repeat' first|refine aj ?_|refine aE (uS l n ar) ?_|refine aF (uS l n ar) ?_|simp|((first|apply bR|apply bU|apply bT)<;>intro h<;>try simp at h))<;>(try exact cv));all_goals simp[bu,Gn,aV,aW,aU]
  all_goals cases ae:df l n<;>simp_all[T.sub]
 |_=>
  refine bm eE IG K6 fun aQ=>?_;unfold D8;simp;(with_reducible repeat' first|refine aj ?_|simp);all_goals simp[bu,Gn,aV,aW,aU]
  all_goals simp[T.sub]
theorem Xd(l:List au)(ar:l.length≤1000000)(t:T):bK al 75 [.slice 5 .no (l.map au.e),t.e] (t.ap (cz l)).e:=by have:=amz l ar t;rw[Ww]at this;exact this
theorem MJ(l:List au)(ar:l.length≤1000000)(t:T):bK al 166 [.slice 5 .no (l.map au.e),t.e] (.tuple [(t.ap (cz l)).e,.bool (decide ((t.ap (cz l)).size≤5000))]):=by refine bm eE acp ai0 fun aQ=>?_;unfold PL;simp;(with_reducible repeat' first|refine aj ?_|refine aE (Xd l ar t) ?_|refine aF (Xd l ar t) ?_|refine aE (AO _) ?_|refine aF (AO _) ?_|simp);simp[bu,VN,aV,aW,aU]
def vS(v:Int)(l:List T):Bool:=l.any (T.occ v)
theorem Uw(v:Int)(t:T):t.occ v=(vS v t.args||(t.kind==1&&t.int==v)):=by cases t<;>simp[T.occ,vS]
theorem wz(v:Int)(t:T):bK al 270 [.int .i64 v,t.e] (.bool (t.occ v)):=by
 suffices H:∀(k:Nat) (t:T),t.size≤k→bK al 270 [.int .i64 v,t.e] (.bool (t.occ v))from H _ t (eV _)
 intro k;induction k with
 |zero=>intro t aL;have:=T.size_pos t;omega
 |succ k bN=>
  intro t aL;have q9:t.args.length≤2:=by cases t<;>simp
  refine bm eE acj aiV fun aQ=>?_;unfold PG;simp;refine dW [0,3,8,9] (fun i (_:Unit)=>[(10,.int .i64 i)]) t.args.length (fun i _=>vS v (t.args.drop i)=vS v t.args) () bV (by simp) (fun _ af _=>?_) (fun i _ hi af _=>?_)
  ·have bq:vS v t.args=false:=by rw[←af];simp[vS]
   rw[Uw,bq];simp;((with_reducible repeat' first|refine aj ?_|simp|((first|apply bR|apply bU|apply bT)<;>intro h<;>try simp at h))<;>(try exact cv));all_goals simp[bu,LF,aV,aW,aU]
   all_goals simp_all
  ·obtain⟨x,ad,cC⟩:=dV hi;have aR:t.args.drop i=x::t.args.drop (i+1):=by rw[k5 hi,cC]
   have eh:x.size≤k:=by have hm:=eo ad;have:=T.size_pos x;cases t<;>simp at hm;rcases hm with rfl|rfl<;>simp[T.size]at aL<;>omega
   simp only[aR,vS,List.any_cons]at af;simp[hi,cC];cases av:x.occ v with
   |true=>
    rw[av]at af;simp at af;have bq:t.occ v=true:=by rw[Uw];simp[vS];left;simpa using af
    (with_reducible repeat' first|refine aj ?_|refine aE (bN x eh) ?_|refine aF (bN x eh) ?_|simp[av]);simp[bu,LF,aV,aW,aU];simp[bq]
   |false=>rw[av]at af;have agk:=bN x eh;exact hd
theorem G6(v:Int)(x t:T):bK al 271 [t.e,.int .i64 v,x.e] (t.ap (Go.Pv.one v x)).e:=by
 induction t with
 |pair a b dM dN=>
  refine bm eE IF K5 fun aQ=>?_;unfold D7;simp;(with_reducible repeat' first|refine aj ?_|refine aE dM ?_|refine aF dM ?_|refine aE dN ?_|refine aF dN ?_|refine aE (G5 _ _) ?_|refine aF (G5 _ _) ?_|simp);all_goals simp[bu,Gm,aV,aW,aU]
  all_goals simp[T.ap]
 |var n=>
  refine bm eE IF K5 fun aQ=>?_;unfold D7;simp;((with_reducible repeat' first|refine aj ?_|simp|((first|apply bR|apply bU|apply bT)<;>intro h<;>try simp at h))<;>(try exact cv));all_goals simp[bu,Gm,aV,aW,aU]
  all_goals simp_all[T.ap,Go.Pv.one]
 |_=>
  refine bm eE IF K5 fun aQ=>?_;unfold D7;simp;(with_reducible repeat' first|refine aj ?_|simp);all_goals simp[bu,Gm,aV,aW,aU]
  all_goals simp[T.ap]
theorem G8(s:List au)(ar:s.length≤1000000)(t:T):bK al 236 [.slice 5 .no (s.map au.e),t.e] (hh s t).e:=by
 cases t with
 |var n=>
  cases ae:df s n with
  |none=>refine bm eE IH K7 fun aQ=>?_;unfold D9;simp;(with_reducible repeat' first|refine aj ?_|refine aE (uS s n ar) ?_|refine aF (uS s n ar) ?_|simp[ae]);simp[bu,Gp,aV,aW,aU];simp[hh,cz,ae]
  |some x=>refine bm eE IH K7 fun aQ=>?_;unfold D9;simp;(with_reducible repeat' first|refine aj ?_|refine aE (uS s n ar) ?_|refine aF (uS s n ar) ?_|simp[ae]);simp[bu,Gp,aV,aW,aU];simp[hh,cz,ae]
 |_=>refine bm eE IH K7 fun aQ=>?_;unfold D9;simp;(with_reducible repeat' first|refine aj ?_|simp);simp[bu,Gp,aV,aW,aU];simp[hh]
theorem SY(b:au):∀(s:List au) (k:Nat),(∀i c,i<k→s[i]? =some c→c.v≤b.v)→(∀c,s[k]? =some c→b.v<c.v)→k≤s.length→oj b s=s.take k++b::s.drop k
 |[],k,_,_,ab=>by simp at ab;subst ab;rfl
 |c::s,0,_,U,_=>by have:=U c rfl;simp[oj,this]
 |c::s,k+1,J,U,ab=>by have:=J 0 c (by omega) rfl;simp only[oj,if_neg (by omega:¬b.v<c.v),List.take_succ_cons,List.drop_succ_cons,bP];rw[SY b s k (fun i d hi aR=>J (i+1) d (by omega) (by simpa using aR)) (fun d aR=>U d (by simpa using aR)) (by simpa using ab)]
theorem amy(s:List au)(b:au)(ar:s.length≤1000000)(bD:iu s):bK al 234 [.slice 5 .no (s.map au.e),b.e] (.slice 5 .no ((oj b s).map au.e)):=by
 refine bm eE acr ai2 fun aQ=>?_;unfold PN;simp;refine u7 [0,3] (fun(k:Nat)=>[(5,.int .i64 k)]) (fun k=>k) (fun k=>k≤s.length∧∀c,s[k]? =some c→b.v<c.v) s.length bV ⟨by omega,fun c h=>by simp at h⟩ (fun k af _=>?_);obtain⟨ab,af⟩:=af;have vj:(∀c,0<k→s[k-1]? =some c→c.v≤b.v)→oj b s=s.take k++b::s.drop k:=fun h=>SY b s k (fun i c hi aw=>by
  obtain⟨d,aR⟩:∃d,s[k-1]? =some d:=⟨_,cf (by omega)⟩;have J:=h d (by omega) aR;rcases Nat.lt_or_ge i (k-1)with U|U
  ·have sx:=(fw.1 aw);have l9:=(fw.1 aR);have:=pt.1 bD i (k-1) sx.1 l9.1 U;rw[sx.2,l9.2]at this;omega
  ·have:i=k-1:=by omega
   subst this;rw[aR]at aw;cases aw;exact J) af ab
 rcases Nat.eq_zero_or_pos k with rfl|fq
 ·have e:=vj fun c h=>by omega
  rw[e];simp;(with_reducible repeat' first|refine aj ?_|simp);simp[bu,LH,aV,aW,aU];try simp[hB]
 ·obtain⟨d,aR⟩:∃d,s[k-1]? =some d:=⟨_,cf (by omega)⟩;have ak:((k:Int)-1).toNat=k-1:=by omega
  have aC:∀h,(s[k-1]'h)=d:=fun h=>by rw[cf h]at aR;exact fl aR
  have iE:(0:Int)<k:=by omega
  by_cases ae:b.v<d.v
  ·simp[fq,iE,ak,aC,ae,aR];(with_reducible repeat' first|refine aj ?_|simp[fq,iE,ak,aC,ae,aR]);refine bO.whl (k-1) (by omega) ⟨by omega,fun c aw=>by rw[aR]at aw;cases aw;exact ae⟩ ?_;have bj:((k-1:Nat):Int)=(k:Int)-1:=by omega
   simp[bj];exact bV
  ·have e:=vj fun c _ aw=>by rw[aR]at aw;cases aw;omega
   rw[e];simp[fq,iE,ak,aC,ae,aR];(with_reducible repeat' first|refine aj ?_|simp[fq,iE,ak,aC,ae,aR]);simp[bu,LH,aV,aW,aU];have dd:jQ s.length (s.map au.e)=s.map au.e:=hB (by simp);rw[dd,←List.map_take,←List.map_drop,←gM,←List.map_append];exact Wt _
def Mi(v:Int)(x:T)(b:au):au:=⟨b.v,b.t.ap (Go.Pv.one v x)⟩
def afU(s:List au)(v:Int)(x:T)(i:Nat)(out:List au):Prop:=out=(s.take i).map (Mi v x)∧∀b∈s.take i,(b.t.ap (Go.Pv.one v x)).size≤5000
theorem amC(s:List au)(v:Int)(t:T)(ar:s.length≤1000000)(bD:iu s):bK al 237 [.slice 5 .no (s.map au.e),.int .i64 v,t.e] (gh (nq s v t)):=by
 obtain⟨x,ad⟩:∃x,x=t.ap (cz s):=⟨_,rfl⟩;have ra:=MJ s ar t;rw[←ad]at ra;obtain⟨o,av⟩:∃o,o=nq s v t:=⟨_,rfl⟩;have afw:x.size≤5000→x.occ v=false→s.length<400→(∀b∈s,(b.t.ap (Go.Pv.one v x)).size≤5000)→o=some (l4 s v x):=fun a6 bB bS c1=>by rw[av,nq,←ad,if_pos ⟨a6,bB,bS,c1⟩]
 have dg:¬(x.size≤5000∧x.occ v=false∧s.length<400∧∀b∈s,(b.t.ap (Go.Pv.one v x)).size≤5000)→o=none:=fun q=>by rw[av,nq,←ad,if_neg q]
 rw[←av];clear av;by_cases J:x.size≤5000;rotate_left
 ·rw[dg fun h=>J h.1];refine bm eE Es FY fun aQ=>?_;unfold Bd;simp;(with_reducible repeat' first|refine aj ?_|refine aE ra ?_|refine aF ra ?_|refine aE (wz _ _) ?_|refine aF (wz _ _) ?_|simp[J]);simp[bu,Ao,aV,aW,aU];simp[gh]
 cases U:x.occ v with
 |true=>rw[dg fun h=>by rw[U]at h;cases h.2.1];refine bm eE Es FY fun aQ=>?_;unfold Bd;simp;(with_reducible repeat' first|refine aj ?_|refine aE ra ?_|refine aF ra ?_|refine aE (wz _ _) ?_|refine aF (wz _ _) ?_|simp[J,U]);simp[bu,Ao,aV,aW,aU];simp[gh]
 |false=>
 by_cases ao:s.length<400;rotate_left
 ·rw[dg fun h=>ao h.2.2.1];have sp:(400:Int)≤s.length:=by omega
  refine bm eE Es FY fun aQ=>?_;unfold Bd;simp;(with_reducible repeat' first|refine aj ?_|refine aE ra ?_|refine aF ra ?_|refine aE (wz _ _) ?_|refine aF (wz _ _) ?_|simp[J,U,sp]);simp[bu,Ao,aV,aW,aU];simp[gh]
 have sp:¬(400:Int)≤s.length:=by omega
 refine bm eE Es FY fun aQ=>?_;unfold Bd;simp;(with_reducible repeat' first|refine aj ?_|refine aE ra ?_|refine aF ra ?_|refine aE (wz _ _) ?_|refine aF (wz _ _) ?_|simp[J,U,sp]);refine gP (α:=List au) (fun i out=>⟨[(1,.int .i64 v),(8,.ptr (.loc 1) 0),(33,.slice 5 .no (s.map au.e)),(34,.int .i64 s.length),(10,.slice 5 (.own (.loc 2)) (out.map au.e)),(35,.int .i64 i)],[(.loc 1,[.int .i64 x.kind,.int .i64 x.int,.str x.name,.slice 4 .no (x.args.map T.e)])],[(.loc 2,⟨out.length,61,5,none⟩)],3,[]⟩) s.length (afU s v x) [] bV ⟨by simp,by simp⟩ (fun out af _=>?_) (fun i out hi af _=>?_)
 ·obtain⟨eb,pH⟩:=af;rw[hB (eV _)]at eb pH;have ad2:iu out:=by rw[eb,iu,List.pairwise_map];exact bD
  have tZ:out.length≤1000000:=by rw[eb];simpa using ar
  rw[afw J U ao pH];have key:=amy out ⟨v,x⟩ tZ ad2;simp;(with_reducible repeat' first|refine aj ?_|refine aE key ?_|refine aF key ?_|simp);simp[bu,Ao,aV,aW,aU];simp[gh,l4,eb];rfl
 ·obtain⟨eb,pH⟩:=af;obtain⟨b,aJ,gx⟩:=dV hi;have vw:s.take (i+1)=s.take i++[b]:=by rw[nR,aJ];rfl
  have tZ:out.length≤1000000:=by rw[eb];simp;omega
  simp[hi,gx];by_cases bE:(b.t.ap (Go.Pv.one v x)).size≤5000
  ·(with_reducible repeat' first|refine aj ?_|refine aE (G6 _ _ _) ?_|refine aF (G6 _ _ _) ?_|refine aE (AO _) ?_|refine aF (AO _) ?_|simp[gx,hi,bE]);all_goals first|(refine⟨by unfold lim;omega,?_⟩)|skip
   (with_reducible repeat' first|refine aj ?_|simp);refine bO.rng (out++[Mi v x b]) hi ⟨by rw[vw,eb,List.map_append];rfl,fun c aw=>?_⟩ ?_
   ·rw[vw]at aw;rcases jP.1 aw with aw|aw
    ·exact pH c aw
    ·simp at aw;subst aw;exact bE
   ·simp[Mi];exact⟨by simp[fresh,aG,aB,cg,inObs,Pv.look,jG],ec (by simp[fresh,aG,aB,cg,inObs,Pv.look,jG]),ed (by simp[fresh,aG,aB,dR,inObs,Pv.look,jG]),by simp⟩
  ·rw[dg fun h=>bE (h.2.2.2 b (eo aJ))];(with_reducible repeat' first|refine aj ?_|refine aE (G6 _ _ _) ?_|refine aF (G6 _ _ _) ?_|refine aE (AO _) ?_|refine aF (AO _) ?_|simp[gx,hi,bE]);simp[bu,Ao,aV,aW,aU];simp[gh]
theorem alW{s:List au}(ag:fD s)(aH:hs s){n:Nat}{a b:T}{o:aY (List au)}(h:kq n s a b=some o):iy s [(a,b)] o:=by obtain⟨n',o',J,U⟩:=G1 ag aH a b;have ak:=Dm (Nat.le_max_left n n') h;have aC:=Dm (Nat.le_max_right n n') J;rw[ak]at aC;cases aC;exact U
def AL(n:Nat):List (T×T)→List au→aY (aY (List au))
 |[],s=>some (some s)
 |e::r,s=>match kq n s e.1 e.2 with
  |none=>none
  |some none=>some none
  |some (some s1)=>AL n r s1
def xN(x y:T):Bool:=x.kind==y.kind&&x.int==y.int&&x.name==y.name
theorem alU(n:Nat)(s:List au){x y:T}(ad:x.kind≠1)(aM:y.kind≠1):jO (kq n) s x y=if xN x y then AL n (x.args.zip y.args) s else some none:=by
 cases x<;>cases y<;>simp[jO,xN,AL]at ad aM⊢
 ·rename_i a b;split<;>simp_all
 ·rename_i a b;split<;>simp_all
 ·rename_i bC a2 b8 b3;cases kq n s bC b8 with
  |none=>rfl
  |some o=>cases o with
   |none=>rfl
   |some s1=>
    simp only
    cases kq n s1 a2 b3 with
    |none=>rfl
    |some o=>cases o<;>rfl
theorem agn{x y:T}(h:xN x y=true):x.args.length=y.args.length:=by cases x<;>cases y<;>simp[xN]at h⊢
@[simp] theorem aou(o:aY (List au)):yS 0 (gh o)=some (True,.slice 5 .no ((o.getD []).map au.e)):=rfl
@[simp] theorem aov(o:aY (List au)):yS 1 (gh o)=some (True,.bool o.isSome):=rfl
set_option maxRecDepth 4000 in
theorem amG(n:Nat):∀(s:List au) (a b:T) (o:aY (List au)),fD s→hs s→kq n s a b=some o→bK al 176 [.slice 5 .no (s.map au.e),a.e,b.e] (gh o):=by
 induction n with
 |zero=>intro s a b o _ _ h;simp[kq]at h
 |succ n bN=>
  intro s a b o ag aH he;have ar:s.length≤1000000:=by have:=aH.1;omega
  have ea:=G8 s ar a;have di:=G8 s ar b;simp only[kq]at he;generalize hh s a=x at he ea;generalize hh s b=y at he di;have ae:=fun v t=>amC s v t ar ag.asc;have ql:∀z:T,¬z.kind=1→(z.kind==1)=false:=fun z h=>by simp[h]
  by_cases ad:x.kind=1
  ·obtain⟨i,rfl⟩:∃i,x= .var i:=by cases x<;>simp at ad;exact⟨_,rfl⟩
   by_cases aM:y.kind=1
   ·obtain⟨j,rfl⟩:∃j,y= .var j:=by cases y<;>simp at aM;exact⟨_,rfl⟩
    simp only[jO,dE]at he;subst he;rcases Int.lt_trichotomy i j with h|h|h
    ·rw[if_pos h];have key:=ae j (.var i);refine bm eE tJ uw fun aQ=>?_;unfold se;simp;(with_reducible repeat' first|refine aj ?_|refine aE ea ?_|refine aF ea ?_|refine aE di ?_|refine aF di ?_|refine aE key ?_|refine aF key ?_|simp[h]);simp[bu,rM,aV,aW,aU];simp[gh]
    ·subst h;rw[if_neg (by omega),if_pos rfl];have bq:¬i<i:=by omega
     refine bm eE tJ uw fun aQ=>?_;unfold se;simp;(with_reducible repeat' first|refine aj ?_|refine aE ea ?_|refine aF ea ?_|refine aE di ?_|refine aF di ?_|simp[bq]);simp[bu,rM,aV,aW,aU];simp[gh]
    ·rw[if_neg (by omega),if_neg (by omega)];have key:=ae i (.var j);have bq:¬i<j:=by omega
     have U:¬i=j:=by omega
     refine bm eE tJ uw fun aQ=>?_;unfold se;simp;((with_reducible repeat' first|refine aj ?_|refine aE ea ?_|refine aF ea ?_|refine aE di ?_|refine aF di ?_|refine aE key ?_|refine aF key ?_|simp[bq,U]|((first|apply bR|apply bU|apply bT)<;>intro h<;>try simp at h))<;>(try exact cv));simp[bu,rM,aV,aW,aU];simp[gh]
   ·have vi:nq s i y=o:=by cases y<;>first|(simp at aM;done)|exact fl he
    subst vi;have key:=ae i y;refine bm eE tJ uw fun aQ=>?_;unfold se;simp;(with_reducible repeat' first|refine aj ?_|refine aE ea ?_|refine aF ea ?_|refine aE di ?_|refine aF di ?_|refine aE key ?_|refine aF key ?_|simp[ql y aM]);simp[bu,rM,aV,aW,aU];simp[gh]
  ·by_cases aM:y.kind=1
   ·obtain⟨j,rfl⟩:∃j,y= .var j:=by cases y<;>simp at aM;exact⟨_,rfl⟩
    have vi:nq s j x=o:=by cases x<;>first|(simp at ad;done)|exact fl he
    subst vi;have key:=ae j x;refine bm eE tJ uw fun aQ=>?_;unfold se;simp;(with_reducible repeat' first|refine aj ?_|refine aE ea ?_|refine aF ea ?_|refine aE di ?_|refine aF di ?_|refine aE key ?_|refine aF key ?_|simp[ql x ad]);simp[bu,rM,aV,aW,aU];simp[gh]
   ·rw[alU n s ad aM]at he;cases hle:xN x y with
    |false=>
     rw[hle]at he;simp at he;subst he;have Jt:(x.kind !=y.kind)=true∨((x.kind !=y.kind)=false∧((x.int !=y.int)=true∨((x.int !=y.int)=false∧(x.name !=y.name)=true))):=by simp only[xN]at hle;simp only[bne];cases ak:(x.kind==y.kind)<;>cases aC:(x.int==y.int)<;>cases bj:(x.name==y.name)<;>simp_all
     rcases Jt with a6|⟨a6,bB|⟨bB,bS⟩⟩
     ·refine bm eE tJ uw fun aQ=>?_;unfold se;simp;(with_reducible repeat' first|refine aj ?_|refine aE ea ?_|refine aF ea ?_|refine aE di ?_|refine aF di ?_|simp[ql x ad,ql y aM,a6]);simp[bu,rM,aV,aW,aU];simp[gh]
     ·refine bm eE tJ uw fun aQ=>?_;unfold se;simp;(with_reducible repeat' first|refine aj ?_|refine aE ea ?_|refine aF ea ?_|refine aE di ?_|refine aF di ?_|simp[ql x ad,ql y aM,a6,bB]);simp[bu,rM,aV,aW,aU];simp[gh]
     ·refine bm eE tJ uw fun aQ=>?_;unfold se;simp;have F9:¬x.name=y.name:=by simpa using bS
      have ajt:decide (x.name=y.name)=false:=by simp[F9]
      ((with_reducible repeat' first|refine aj ?_|refine aE ea ?_|refine aF ea ?_|refine aE di ?_|refine aF di ?_|simp[ql x ad,ql y aM,a6,bB,bS,F9,ajt]|((first|apply bR|apply bU|apply bT)<;>intro h<;>try simp at h))<;>(try exact cv));simp[bu,rM,aV,aW,aU];simp[gh]
    |true=>
     rw[hle,if_pos rfl]at he;have Jt:(x.kind !=y.kind)=false∧(x.int !=y.int)=false∧(x.name !=y.name)=false:=by simp only[xN]at hle;simp only[bne];cases ak:(x.kind==y.kind)<;>cases aC:(x.int==y.int)<;>cases bj:(x.name==y.name)<;>simp_all
     obtain⟨a6,bB,bS⟩:=Jt;have hlen:=agn hle;have F9:x.name=y.name:=by simpa using bS
     have q9:x.args.length≤2:=by cases x<;>simp
     refine bm eE tJ uw fun aQ=>?_;unfold se;simp;(with_reducible repeat' first|refine aj ?_|refine aE ea ?_|refine aF ea ?_|refine aE di ?_|refine aF di ?_|simp[ql x ad,ql y aM,a6,bB,F9]);refine gP (α:=List au) (fun i ai=>⟨[(5,.ptr (.loc 1) 0),(96,.slice 4 .no (x.args.map T.e)),(97,.int .i64 x.args.length),(0,.slice 5 .no (ai.map au.e)),(98,.int .i64 i)],[(.loc 1,[.int .i64 y.kind,.int .i64 y.int,.str y.name,.slice 4 .no (y.args.map T.e)])],[],2,[]⟩) x.args.length (fun i ai=>(fD ai∧hs ai)∧AL n ((x.args.zip y.args).drop i) ai=some o) s bV ⟨⟨ag,aH⟩,by simpa using he⟩ (fun ai af _=>?_) (fun i ai hi af _=>?_)
     ·obtain⟨_,af⟩:=af;rw[List.drop_eq_nil_of_le (by simp[hlen])]at af;simp[AL]at af;subst af;simp;(with_reducible repeat' first|refine aj ?_|simp);simp[bu,rM,aV,aW,aU];simp[gh]
     ·obtain⟨⟨g1,g2⟩,af⟩:=af;obtain⟨bC,bD⟩:∃a,x.args[i]? =some a:=⟨_,cf hi⟩;obtain⟨b8,fI⟩:∃b,y.args[i]? =some b:=⟨_,cf (by omega)⟩;have mO:∀h,(x.args[i]'h)=bC:=fun h=>by rw[cf hi]at bD;exact fl bD
      have cy:∀h,(y.args[i]'h)=b8:=fun h=>by rw[cf h]at fI;exact fl fI
      have ri:i<y.args.length:=by omega
      have aR:(x.args.zip y.args).drop i=(bC,b8)::(x.args.zip y.args).drop (i+1):=by rw[k5 (by simp;omega)];simp[mO,cy]
      rw[aR]at af;simp only[AL]at af;simp[hi,mO,cy,ri];cases hu:kq n ai bC b8 with
      |none=>rw[hu]at af;cases af
      |some gR=>
       have key:=bN ai bC b8 gR g1 g2 hu;rw[hu]at af;cases gR with
       |none=>simp at af;subst af;(with_reducible repeat' first|refine aj ?_|refine aE key ?_|refine aF key ?_|simp[mO,cy,hi,ri]);simp[bu,rM,aV,aW,aU];simp[gh]
       |some s1=>have afj:=alW g1 g2 hu;(with_reducible repeat' first|refine aj ?_|refine aE key ?_|refine aF key ?_|simp[mO,cy,hi,ri]);refine bO.rng s1 hi ⟨afj.1,af⟩ ?_;exact bV
theorem amF(s:List au)(a b:T)(ag:fD s)(aH:hs s):bK al 176 [.slice 5 .no (s.map au.e),a.e,b.e] (gh (mgu s [(a,b)])):=by obtain⟨n,o,J,U⟩:=G1 ag aH a b;rw[rG U];exact amG n s a b o ag aH J
def afT(s:List au)(E:List (T×T))(i:Nat)(ai:List au):Prop:=(fD ai∧hs ai)∧mgu ai (E.drop i)=mgu s E
theorem amB(s:List au)(l r:List T)(ar:l.length=r.length)(ag:fD s)(aH:hs s)(xm:l.length≤1000000):bK al 268 [.slice 5 .no (s.map au.e),.slice 4 .no (l.map T.e),.slice 4 .no (r.map T.e)] (gh (mgu s (l.zip r))):=by
 refine bm eE acu ai4 fun aQ=>?_;unfold PQ;simp;refine gP (α:=List au) (fun i ai=>⟨[(2,.slice 4 .no (r.map T.e)),(12,.slice 4 .no (l.map T.e)),(13,.int .i64 l.length),(0,.slice 5 .no (ai.map au.e)),(14,.int .i64 i)],[],[],0,[]⟩) l.length (afT s (l.zip r)) s bV ⟨⟨ag,aH⟩,by simp⟩ (fun ai af _=>?_) (fun i ai hi af _=>?_)
 ·obtain⟨⟨g1,g2⟩,af⟩:=af;rw[List.drop_eq_nil_of_le (by simp[ar]),KL g1 g2]at af;rw[←af];simp;(with_reducible repeat' first|refine aj ?_|simp);simp[bu,LJ,aV,aW,aU];simp[gh]
 ·obtain⟨⟨g1,g2⟩,af⟩:=af;obtain⟨a,bD⟩:∃a,l[i]? =some a:=⟨_,cf hi⟩;obtain⟨b,fI⟩:∃b,r[i]? =some b:=⟨_,cf (by omega)⟩;have mO:∀h,(l[i]'h)=a:=fun h=>by rw[cf hi]at bD;exact fl bD
  have cy:∀h,(r[i]'h)=b:=fun h=>by rw[cf h]at fI;exact fl fI
  have ri:i<r.length:=by omega
  have aR:(l.zip r).drop i=(a,b)::(l.zip r).drop (i+1):=by rw[k5 (by simp;omega)];simp[mO,cy]
  rw[aR,KK g1 g2]at af;simp[hi,mO,cy,ri];have key:=amF ai a b g1 g2;cases hu:mgu ai [(a,b)]with
  |none=>rw[hu]at af key;simp only at af;rw[←af];(with_reducible repeat' first|refine aj ?_|refine aE key ?_|refine aF key ?_|simp[mO,cy,hi,ri]);simp[bu,LJ,aV,aW,aU];simp[gh]
  |some s1=>have o9:=zO g1 g2 hu;rw[hu]at af key;(with_reducible repeat' first|refine aj ?_|refine aE key ?_|refine aF key ?_|simp[mO,cy,hi,ri]);refine bO.rng s1 hi ⟨o9,af⟩ ?_;exact bV
theorem j3(n:Int):bK al 91 [.int .i64 n] (T.var n).e:=by refine bm fO aco aiZ fun aQ=>?_;unfold PK;exact b6
def afX(t:List au)(i:Nat)(p:List T×List T):Prop:=p.1=(t.take i).map (fun b=>T.var b.v)∧p.2=(t.take i).map (·.t)
theorem amD(s t:List au)(ag:fD s)(aH:hs s)(aL:t.length≤1000000):bK al 219 [.slice 5 .no (s.map au.e),.slice 5 .no (t.map au.e)] (gh (mgu s (hE t))):=by
 have bE:(t.map fun b=>T.var b.v).zip (t.map (·.t))=hE t:=by rw[hE,List.zip_map']
 refine bm eE acv ai5 fun aQ=>?_;unfold PR;simp;refine gP (α:=List T×List T) (fun i p=>⟨[(0,.slice 5 .no (s.map au.e)),(12,.slice 5 .no (t.map au.e)),(13,.int .i64 t.length),(6,.slice 4 (.own (.loc 0)) (p.1.map T.e)),(7,.slice 4 (.own (.loc 1)) (p.2.map T.e)),(14,.int .i64 i)],[],[(.loc 0,⟨p.1.length,32,4,none⟩),(.loc 1,⟨p.2.length,32,4,none⟩)],2,[]⟩) t.length (afX t) ([],[]) bV ⟨by simp,by simp⟩ (fun p af _=>?_) (fun i p hi af _=>?_)
 ·obtain⟨A,B⟩:=p;obtain⟨bh,kB⟩:=af;simp only at bh kB⊢;rw[hB (eV _)]at bh kB;have key:=amB s A B (by rw[bh,kB];simp) ag aH (by rw[bh];simpa using aL);rw[bh,kB,bE,←bh,←kB]at key;simp;(with_reducible repeat' first|refine aj ?_|refine aE key ?_|refine aF key ?_|simp);simp[bu,VO,aV,aW,aU];simp[gh]
 ·obtain⟨A,B⟩:=p;obtain⟨bh,kB⟩:=af;simp only at bh kB⊢;obtain⟨b,aJ,gx⟩:=dV hi;have vw:t.take (i+1)=t.take i++[b]:=by rw[nR,aJ];rfl
  have adN:A.length≤1000000:=by rw[bh];simp;omega
  have adO:B.length≤1000000:=by rw[kB];simp;omega
  simp[hi,gx];(with_reducible repeat' first|refine aj ?_|refine aE (j3 _) ?_|refine aF (j3 _) ?_|simp[gx,hi]);all_goals first|(refine⟨by unfold lim;omega,?_⟩)|skip
  (with_reducible repeat' first|refine aj ?_|simp);all_goals first|(refine⟨by unfold lim;omega,?_⟩)|skip
  (with_reducible repeat' first|refine aj ?_|simp);refine bO.rng (A++[.var b.v],B++[b.t]) hi ⟨by rw[vw,bh];simp,by rw[vw,kB];simp⟩ ?_;simp;exact⟨by simp[fresh,aG,aB,cg,inObs,Pv.look,jG],ec (by simp[fresh,aG,aB,cg,inObs,Pv.look,jG]),ed (by simp[fresh,aG,aB,dR,inObs,Pv.look,jG]),by simp⟩
theorem dt(n lo hi:Int):bK al 141 [.int .i64 n,.int .i64 lo,.int .i64 hi] (.bool (decide (lo≤n∧n≤hi))):=by
 refine bm eE acd aiP fun aQ=>?_;unfold PA;simp;((with_reducible repeat' first|refine aj ?_|simp|((first|apply bR|apply bU|apply bT)<;>intro h<;>try simp at h))<;>(try exact cv));all_goals simp[bu,VH,aV,aW,aU]
 all_goals first|omega|(simp;done)|(simp;omega)
def shp:bJ→Bool
 | .mk k n s [a,b]=>k==4&&n==0&&s==[]&&shp a&&shp b
 | .mk k n s []=>kY k n s
 |_=>false
theorem GK:∀x:T,shp x.tm=x.ok
 | .nil=>by simp[T.tm,shp,kY,T.ok]
 | .var _=>by simp[T.tm,shp,kY,T.ok]
 | .sym _=>by simp[T.tm,shp,kY,T.ok]
 | .num _=>by simp[T.tm,shp,kY,T.ok]
 | .pair a b=>by simp[T.tm,shp,T.ok,GK a,GK b]
theorem ak2:∀(m:Nat) (t:bJ),t.sz≤m→shp t=true→∃x:T,x.tm=t:=by
 intro m;induction m with
 |zero=>intro t aL;cases t;simp[bJ.sz]at aL
 |succ m bN=>
  rintro⟨k,n,s,args⟩ aL h;match args with
  |[a,b]=>
   simp[bJ.sz,bJ.szL]at aL;simp only[shp,cA,dL]at h;obtain⟨⟨⟨⟨rfl,rfl⟩,ao⟩,J⟩,U⟩:=h;obtain⟨x,rfl⟩:=bN a (by omega) J;obtain⟨y,rfl⟩:=bN b (by omega) U;have:s=[]:=by simpa using ao
   subst this;exact⟨.pair x y,rfl⟩
  |[]=>
   simp only[shp,kY]at h;split at h
   ·subst_vars;simp at h;exact⟨.nil,by simp[T.tm,h]⟩
   split at h
   ·subst_vars;simp at h;exact⟨.var n,by simp[T.tm,h]⟩
   split at h
   ·subst_vars;simp at h;exact⟨.sym s,by simp[T.tm,h]⟩
   split at h
   ·subst_vars;simp at h;exact⟨.num n,by simp[T.tm,h]⟩
   ·simp at h
  |[_]=>simp[shp]at h
  |_::_::_::_=>simp[shp]at h
theorem acH(t:bJ):t.fits=(decide (lb t 5000≤5000)&&shp t):=by
 by_cases h:shp t=true
 ·obtain⟨x,rfl⟩:=ak2 _ t (eV _) h;have:=(Ef x 5000 (by omega)).1;rw[bJ.fits_T,T.fit,h];rw[GK]at h;simp[h,this];omega
 ·have bq:t.fits=false:=by
   cases aH:t.fits with
   |false=>rfl
   |true=>obtain⟨x,rfl,ad⟩:=bJ.fits_ex aH;rw[GK]at h;simp[T.fit]at ad;exact absurd ad.1 h
  simp at h;rw[bq,h];simp
def J7(s:List dz)(i:Nat):Prop:=i≤s.length∧∀k,k<i→mg (s.getD k 0)=true∧(k=0→low (s.getD k 0)=true)
theorem afR{s:List dz}(h:J7 s s.length):jv s=decide (1≤s.length∧s.length≤12):=by
 unfold jv;by_cases ar:1≤s.length
 ·have J:=(h.2 0 (by omega)).2 rfl;have U:(s.drop 1).all mg=true:=by rw[ir];intro b ae;obtain⟨i,hi,e⟩:=nj ae;simp at hi e;have:=(h.2 (i+1) (by omega)).1;rw[List.getD_eq_getElem?_getD,cf (by omega)]at this;simp only[k7]at this;rw[←e];exact this
  rw[J,U];simp
 ·have:decide (1≤s.length∧s.length≤12)=false:=by simp;omega
  rw[this];simp
theorem afQ{s:List dz}{i:Nat}(hi:i<s.length)(h:mg (s.getD i 0)=false∨(i=0∧low (s.getD i 0)=false)):jv s=false:=by
 cases e:jv s with
 |false=>rfl
 |true=>
  exfalso;simp only[jv,cA,ir]at e;obtain⟨⟨_,ak⟩,aC⟩:=e;rcases h with h|⟨rfl,h⟩
  ·by_cases bq:i=0
   ·subst bq;rw[mg,ak]at h;simp at h
   ·have:=aC (s.getD i 0) (by rw[List.getD_eq_getElem?_getD,cf hi];simp only[k7];refine List.mem_iff_getElem.2 ⟨i-1,by simp;omega,?_⟩;simp[show i-1+1=i from by omega])
    rw[this]at h;cases h
  ·rw[ak]at h;cases h
theorem gS(s:List dz):bK al 216 [.str s] (.bool (jv s)):=by
 generalize a1:jv s=R;refine bm eE ab6 aiJ fun aQ=>?_;unfold Pt;have eI:s.length≤68719476736:=by simp[eD,ef,et,lim]at aQ;omega
 simp;refine u7 [0] (fun(i:Nat)=>[(3,.int .i64 i)]) (fun i=>s.length-i) (J7 s) 0 bV ⟨by omega,fun k ab=>by omega⟩ (fun i af _=>?_);have eb:=af.1;by_cases hi:i<s.length
 ·have dg:=afQ hi;rw[a1]at dg;obtain⟨c,aw,jE⟩:=dV hi;have RN:s.getD i 0=c:=by simp[List.getD_eq_getElem?_getD,aw]
  rw[RN]at dg;have cO:mg c=true→(i=0→low c=true)→J7 s (i+1):=fun J U=>⟨by omega,fun k ab=>by
   rcases(by omega:k<i∨k=i)with h|rfl
   ·exact af.2 k h
   ·rw[RN];exact⟨J,U⟩⟩
  have hw:IntKind.i64.wrap (c.toNat:Int)=c.toNat:=oF _ (by have:=c.toNat_lt;omega);simp[hi,jE,aw];by_cases a6:(97:Int)≤c.toNat
  ·by_cases bB:(c.toNat:Int)≤122
   ·have ar:low c=true:=by simp[low];omega
    (with_reducible repeat' first|refine aj ?_|refine aE (dt _ _ _) ?_|refine aF (dt _ _ _) ?_|simp[hi,jE,aw,a6,bB]);exact bO.whl (i+1) (by omega) (cO (by simp[mg,ar]) (fun _=>ar)) bV
   ·have ar:low c=false:=by simp[low];omega
    by_cases bq:i=0
    ·rw[dg (.inr ⟨bq,ar⟩)];have q6:((i:Int)==0)=true:=by simp[bq]
     (with_reducible repeat' first|refine aj ?_|refine aE (dt _ _ _) ?_|refine aF (dt _ _ _) ?_|simp[hi,jE,aw,a6,bB,q6,hw]);simp[bu,Aj,aV,aW,aU]
    ·have q6:((i:Int)==0)=false:=by simp[bq]
     by_cases bS:(c.toNat:Int)=45
     ·have rL:((c.toNat:Int) !=45)=false:=by simp[bS]
      (with_reducible repeat' first|refine aj ?_|refine aE (dt _ _ _) ?_|refine aF (dt _ _ _) ?_|simp[hi,jE,aw,a6,bB,q6,hw,bS,rL]);all_goals exact bO.whl (i+1) (by omega) (cO (by simp[mg];omega) (fun h=>absurd h bq)) bV
     ·have rL:((c.toNat:Int) !=45)=true:=by simp[bS]
      by_cases c1:(48:Int)≤c.toNat∧(c.toNat:Int)≤57
      ·(with_reducible repeat' first|refine aj ?_|refine aE (dt _ _ _) ?_|refine aF (dt _ _ _) ?_|simp[hi,jE,aw,a6,bB,q6,hw,bS,rL,c1]);all_goals exact bO.whl (i+1) (by omega) (cO (by simp[mg];omega) (fun h=>absurd h bq)) bV
      ·rw[dg (.inl (by simp[mg,ar];omega))];(with_reducible repeat' first|refine aj ?_|refine aE (dt _ _ _) ?_|refine aF (dt _ _ _) ?_|simp[hi,jE,aw,a6,bB,q6,hw,bS,rL,c1]);simp[bu,Aj,aV,aW,aU]
  ·have ar:low c=false:=by simp[low];omega
   by_cases bq:i=0
   ·rw[dg (.inr ⟨bq,ar⟩)];have q6:((i:Int)==0)=true:=by simp[bq]
    (with_reducible repeat' first|refine aj ?_|refine aE (dt _ _ _) ?_|refine aF (dt _ _ _) ?_|simp[hi,jE,aw,a6,q6,hw]);simp[bu,Aj,aV,aW,aU]
   ·have q6:((i:Int)==0)=false:=by simp[bq]
    by_cases bS:(c.toNat:Int)=45
    ·have rL:((c.toNat:Int) !=45)=false:=by simp[bS]
     (with_reducible repeat' first|refine aj ?_|refine aE (dt _ _ _) ?_|refine aF (dt _ _ _) ?_|simp[hi,jE,aw,a6,q6,hw,bS,rL]);all_goals exact bO.whl (i+1) (by omega) (cO (by simp[mg];omega) (fun h=>absurd h bq)) bV
    ·have rL:((c.toNat:Int) !=45)=true:=by simp[bS]
     by_cases c1:(48:Int)≤c.toNat∧(c.toNat:Int)≤57
     ·(with_reducible repeat' first|refine aj ?_|refine aE (dt _ _ _) ?_|refine aF (dt _ _ _) ?_|simp[hi,jE,aw,a6,q6,hw,bS,rL,c1]);all_goals exact bO.whl (i+1) (by omega) (cO (by simp[mg];omega) (fun h=>absurd h bq)) bV
     ·rw[dg (.inl (by simp[mg,ar];omega))];(with_reducible repeat' first|refine aj ?_|refine aE (dt _ _ _) ?_|refine aF (dt _ _ _) ?_|simp[hi,jE,aw,a6,q6,hw,bS,rL,c1]);simp[bu,Aj,aV,aW,aU]
 ·have:i=s.length:=by omega
  subst this;rw[afR af]at a1;simp[hi];(with_reducible repeat' first|refine aj ?_|refine aE (dt _ _ _) ?_|refine aF (dt _ _ _) ?_|simp[hi]);simp[bu,Aj,aV,aW,aU];rw[←a1,p4];simp;omega
def uM:List bJ→Bool
 |[a,b]=>shp a&&shp b
 |_=>false
theorem ak1(k n:Int)(s:List dz)(args:List bJ):shp ⟨k,n,s,args⟩=if k≠1∧k≠3∧n≠0 then false else if k≠2∧s≠[]then false else if k≠4∧args≠[]then false else if k=0 then true else if k=1 then decide (0≤n∧n≤100000)else if k=2 then jv s else if k=3 then decide (-1000000000≤n∧n≤1000000000)else if k=4 then uM args else false:=by
 by_cases ff:k=0
 ·subst ff;match args with
  |[]=>by_cases aA:n=0<;>by_cases ag:s=[]<;>simp[shp,kY,aA,ag]
  |[a]=>simp[shp]
  |[a,b]=>simp[shp]
  |_::_::_::_=>simp[shp]
 by_cases aZ:k=1
 ·subst aZ;match args with
  |[]=>by_cases ag:s=[]<;>simp[shp,kY,ag]
  |[a]=>simp[shp]
  |[a,b]=>simp[shp]
  |_::_::_::_=>simp[shp]
 by_cases bI:k=2
 ·subst bI;match args with
  |[]=>by_cases aA:n=0<;>simp[shp,kY,aA]
  |[a]=>simp[shp]
  |[a,b]=>simp[shp]
  |_::_::_::_=>simp[shp]
 by_cases ck:k=3
 ·subst ck;match args with
  |[]=>by_cases ag:s=[]<;>simp[shp,kY,ag]
  |[a]=>simp[shp]
  |[a,b]=>simp[shp]
  |_::_::_::_=>simp[shp]
 by_cases eK:k=4
 ·subst eK;match args with
  |[]=>simp[shp,kY,uM]
  |[a]=>simp[shp,uM]
  |[a,b]=>by_cases aA:n=0<;>by_cases ag:s=[]<;>simp[shp,uM,aA,ag]
  |_::_::_::_=>simp[shp,uM]
 ·match args with
  |[]=>simp[shp,kY,ff,aZ,bI,ck,eK]
  |[a]=>simp[shp,ff,aZ,bI,ck,eK]
  |[a,b]=>simp[shp,ff,aZ,bI,ck,eK]
  |_::_::_::_=>simp[shp,ff,aZ,bI,ck,eK]
set_option maxRecDepth 8000 in
theorem amx(m:Nat):∀(t:bJ),t.sz≤m→bK al 163 [enc t] (.bool (shp t)):=by
 induction m with
 |zero=>intro t aL;cases t;simp[bJ.sz]at aL
 |succ m bN=>
 rintro⟨k,n,s,args⟩ aL;generalize a1:shp ⟨k,n,s,args⟩=R;have dw:=ak1 k n s args;rw[a1]at dw;by_cases b8:k≠1∧k≠3∧n≠0
 ·rw[if_pos b8]at dw;obtain⟨aZ,ck,n0⟩:=b8;have zE:(k !=1)=true:=by simp[aZ]
  have zF:(k !=3)=true:=by simp[ck]
  have KP:(n !=0)=true:=by simp[n0]
  subst dw;refine bm eE l7 mr fun aQ=>?_;unfold lI;simp[bJ.kind,bJ.num,bJ.name,bJ.args];(with_reducible repeat' first|refine aj ?_|refine aE (dt _ _ _) ?_|refine aF (dt _ _ _) ?_|refine aE (gS _) ?_|refine aF (gS _) ?_|simp[zE,zF,KP]);all_goals simp[bu,lB,aV,aW,aU]
 rw[if_neg b8]at dw;have A5:(if k !=1 then k !=3 else false)=true→(n !=0)=false:=by intro h;simp at h⊢;exact Classical.byContradiction fun aA=>b8 ⟨h.1,h.2,aA⟩
 by_cases b3:k≠2∧s≠[]
 ·rw[if_pos b3]at dw;have Fl:(k !=2)=true:=by simp[b3.1]
  have L2:s.isEmpty=false:=by simp[b3.2]
  by_cases aZ:k=1
  ·subst aZ;subst dw;refine bm eE l7 mr fun aQ=>?_;unfold lI;simp[bJ.kind,bJ.num,bJ.name,bJ.args];(with_reducible repeat' first|refine aj ?_|refine aE (dt _ _ _) ?_|refine aF (dt _ _ _) ?_|refine aE (gS _) ?_|refine aF (gS _) ?_|simp[L2]);all_goals simp[bu,lB,aV,aW,aU]
  by_cases ck:k=3
  ·subst ck;subst dw;refine bm eE l7 mr fun aQ=>?_;unfold lI;simp[bJ.kind,bJ.num,bJ.name,bJ.args];(with_reducible repeat' first|refine aj ?_|refine aE (dt _ _ _) ?_|refine aF (dt _ _ _) ?_|refine aE (gS _) ?_|refine aF (gS _) ?_|simp[L2]);all_goals simp[bu,lB,aV,aW,aU]
  have zE:(k !=1)=true:=by simp[aZ]
  have zF:(k !=3)=true:=by simp[ck]
  have KP:(n !=0)=false:=A5 (by simp[aZ,ck]);subst dw;refine bm eE l7 mr fun aQ=>?_;unfold lI;simp[bJ.kind,bJ.num,bJ.name,bJ.args];(with_reducible repeat' first|refine aj ?_|refine aE (dt _ _ _) ?_|refine aF (dt _ _ _) ?_|refine aE (gS _) ?_|refine aF (gS _) ?_|simp[zE,zF,KP,Fl,L2]);all_goals simp[bu,lB,aV,aW,aU]
 rw[if_neg b3]at dw;by_cases ff:k=0
 ·subst ff;have n0:n=0:=by simpa using A5 (by decide)
  have s0:s=[]:=Classical.byContradiction fun h=>b3 ⟨by omega,h⟩;subst n0 s0;by_cases a0:args=[];rotate_left
  ·rw[if_pos ⟨by omega,a0⟩]at dw;have tt:(0:Int)<args.length:=by have:=List.length_pos_iff.2 a0;omega
   subst dw;refine bm eE l7 mr fun aQ=>?_;unfold lI;simp[bJ.kind,bJ.num,bJ.name,bJ.args];((with_reducible repeat' first|refine aj ?_|refine aE (dt _ _ _) ?_|refine aF (dt _ _ _) ?_|refine aE (gS _) ?_|refine aF (gS _) ?_|simp[Int.natCast_nonneg,tt]|((first|apply bR|apply bU|apply bT)<;>intro h<;>try simp at h))<;>(try exact cv));all_goals simp[bu,lB,aV,aW,aU]
  rw[if_neg (by simp[a0])]at dw;subst a0;simp at dw;subst dw;refine bm eE l7 mr fun aQ=>?_;unfold lI;simp[bJ.kind,bJ.num,bJ.name,bJ.args];(with_reducible repeat' first|refine aj ?_|refine aE (dt _ _ _) ?_|refine aF (dt _ _ _) ?_|refine aE (gS _) ?_|refine aF (gS _) ?_|simp[Int.natCast_nonneg]);all_goals simp[bu,lB,aV,aW,aU]
 by_cases aZ:k=1
 ·subst aZ;have s0:s=[]:=Classical.byContradiction fun h=>b3 ⟨by omega,h⟩;subst s0;by_cases a0:args=[];rotate_left
  ·rw[if_pos ⟨by omega,a0⟩]at dw;have tt:(0:Int)<args.length:=by have:=List.length_pos_iff.2 a0;omega
   subst dw;refine bm eE l7 mr fun aQ=>?_;unfold lI;simp[bJ.kind,bJ.num,bJ.name,bJ.args];((with_reducible repeat' first|refine aj ?_|refine aE (dt _ _ _) ?_|refine aF (dt _ _ _) ?_|refine aE (gS _) ?_|refine aF (gS _) ?_|simp[Int.natCast_nonneg,tt]|((first|apply bR|apply bU|apply bT)<;>intro h<;>try simp at h))<;>(try exact cv));all_goals simp[bu,lB,aV,aW,aU]
  rw[if_neg (by simp[a0])]at dw;subst a0;simp at dw;subst dw;refine bm eE l7 mr fun aQ=>?_;unfold lI;simp[bJ.kind,bJ.num,bJ.name,bJ.args];(with_reducible repeat' first|refine aj ?_|refine aE (dt _ _ _) ?_|refine aF (dt _ _ _) ?_|refine aE (gS _) ?_|refine aF (gS _) ?_|simp[Int.natCast_nonneg]);all_goals simp[bu,lB,aV,aW,aU]
 by_cases bI:k=2
 ·subst bI;have n0:n=0:=by simpa using A5 (by decide)
  subst n0;by_cases a0:args=[];rotate_left
  ·rw[if_pos ⟨by omega,a0⟩]at dw;have tt:(0:Int)<args.length:=by have:=List.length_pos_iff.2 a0;omega
   subst dw;refine bm eE l7 mr fun aQ=>?_;unfold lI;simp[bJ.kind,bJ.num,bJ.name,bJ.args];((with_reducible repeat' first|refine aj ?_|refine aE (dt _ _ _) ?_|refine aF (dt _ _ _) ?_|refine aE (gS _) ?_|refine aF (gS _) ?_|simp[Int.natCast_nonneg,tt]|((first|apply bR|apply bU|apply bT)<;>intro h<;>try simp at h))<;>(try exact cv));all_goals simp[bu,lB,aV,aW,aU]
  rw[if_neg (by simp[a0])]at dw;subst a0;simp at dw;subst dw;refine bm eE l7 mr fun aQ=>?_;unfold lI;simp[bJ.kind,bJ.num,bJ.name,bJ.args];(with_reducible repeat' first|refine aj ?_|refine aE (dt _ _ _) ?_|refine aF (dt _ _ _) ?_|refine aE (gS _) ?_|refine aF (gS _) ?_|simp[Int.natCast_nonneg]);all_goals simp[bu,lB,aV,aW,aU]
 by_cases ck:k=3
 ·subst ck;have s0:s=[]:=Classical.byContradiction fun h=>b3 ⟨by omega,h⟩;subst s0;by_cases a0:args=[];rotate_left
  ·rw[if_pos ⟨by omega,a0⟩]at dw;have tt:(0:Int)<args.length:=by have:=List.length_pos_iff.2 a0;omega
   subst dw;refine bm eE l7 mr fun aQ=>?_;unfold lI;simp[bJ.kind,bJ.num,bJ.name,bJ.args];((with_reducible repeat' first|refine aj ?_|refine aE (dt _ _ _) ?_|refine aF (dt _ _ _) ?_|refine aE (gS _) ?_|refine aF (gS _) ?_|simp[Int.natCast_nonneg,tt]|((first|apply bR|apply bU|apply bT)<;>intro h<;>try simp at h))<;>(try exact cv));all_goals simp[bu,lB,aV,aW,aU]
  rw[if_neg (by simp[a0])]at dw;subst a0;simp at dw;subst dw;refine bm eE l7 mr fun aQ=>?_;unfold lI;simp[bJ.kind,bJ.num,bJ.name,bJ.args];(with_reducible repeat' first|refine aj ?_|refine aE (dt _ _ _) ?_|refine aF (dt _ _ _) ?_|refine aE (gS _) ?_|refine aF (gS _) ?_|simp[Int.natCast_nonneg]);all_goals simp[bu,lB,aV,aW,aU]
 by_cases eK:k=4
 ·subst eK;have n0:n=0:=by simpa using A5 (by decide)
  have s0:s=[]:=Classical.byContradiction fun h=>b3 ⟨by omega,h⟩;subst n0 s0;simp at dw;match args,dw with
  |[a,b],dw=>
   simp[bJ.sz,bJ.szL]at aL;have bD:=bN a (by omega);have ae:=bN b (by omega);simp only[uM]at dw;subst dw;refine bm eE l7 mr fun aQ=>?_;unfold lI;simp[bJ.kind,bJ.num,bJ.name,bJ.args];cases q:shp a with
   |true=>rw[q]at bD;(with_reducible repeat' first|refine aj ?_|refine aE bD ?_|refine aF bD ?_|refine aE ae ?_|refine aF ae ?_|simp[Int.natCast_nonneg]);all_goals simp[bu,lB,aV,aW,aU]
   |false=>rw[q]at bD;(with_reducible repeat' first|refine aj ?_|refine aE bD ?_|refine aF bD ?_|refine aE ae ?_|refine aF ae ?_|simp[Int.natCast_nonneg]);all_goals simp[bu,lB,aV,aW,aU]
  |[],dw=>simp only[uM]at dw;subst dw;refine bm eE l7 mr fun aQ=>?_;unfold lI;simp[bJ.kind,bJ.num,bJ.name,bJ.args];(with_reducible repeat' first|refine aj ?_|refine aE (dt _ _ _) ?_|refine aF (dt _ _ _) ?_|refine aE (gS _) ?_|refine aF (gS _) ?_|simp[Int.natCast_nonneg]);all_goals simp[bu,lB,aV,aW,aU]
  |[_],dw=>simp only[uM]at dw;subst dw;refine bm eE l7 mr fun aQ=>?_;unfold lI;simp[bJ.kind,bJ.num,bJ.name,bJ.args];(with_reducible repeat' first|refine aj ?_|refine aE (dt _ _ _) ?_|refine aF (dt _ _ _) ?_|refine aE (gS _) ?_|refine aF (gS _) ?_|simp[Int.natCast_nonneg]);all_goals simp[bu,lB,aV,aW,aU]
  |_::_::_::l,dw=>
   simp only[uM]at dw;have ar:((l.length:Int)+1+1+1==2)=false:=by simp;omega
   subst dw;refine bm eE l7 mr fun aQ=>?_;unfold lI;simp[bJ.kind,bJ.num,bJ.name,bJ.args];(with_reducible repeat' first|refine aj ?_|refine aE (dt _ _ _) ?_|refine aF (dt _ _ _) ?_|refine aE (gS _) ?_|refine aF (gS _) ?_|simp[ar]);all_goals simp[bu,lB,aV,aW,aU]
 have n0:(n !=0)=false:=A5 (by simp[aZ,ck]);have s0:s=[]:=Classical.byContradiction fun h=>b3 ⟨bI,h⟩;subst s0;have Tb:(k==0)=false:=by simp[ff]
 have zE:(k==1)=false:=by simp[aZ]
 have Fl:(k==2)=false:=by simp[bI]
 have zF:(k==3)=false:=by simp[ck]
 have Tf:(k==4)=false:=by simp[eK]
 have Tc:(k !=1)=true:=by simp[aZ]
 have Td:(k !=2)=true:=by simp[bI]
 have Te:(k !=3)=true:=by simp[ck]
 have Tg:(k !=4)=true:=by simp[eK]
 by_cases a0:args=[]
 ·subst a0;simp[ff,aZ,bI,ck,eK]at dw;subst dw;refine bm eE l7 mr fun aQ=>?_;unfold lI;simp[bJ.kind,bJ.num,bJ.name,bJ.args];(with_reducible repeat' first|refine aj ?_|refine aE (dt _ _ _) ?_|refine aF (dt _ _ _) ?_|refine aE (gS _) ?_|refine aF (gS _) ?_|simp[Tb,zE,Fl,zF,Tf,Tc,Td,Te,Tg,n0]);all_goals simp[bu,lB,aV,aW,aU]
 ·rw[if_pos ⟨eK,a0⟩]at dw;have tt:(0:Int)<args.length:=by have:=List.length_pos_iff.2 a0;omega
  subst dw;refine bm eE l7 mr fun aQ=>?_;unfold lI;simp[bJ.kind,bJ.num,bJ.name,bJ.args];((with_reducible repeat' first|refine aj ?_|refine aE (dt _ _ _) ?_|refine aF (dt _ _ _) ?_|refine aE (gS _) ?_|refine aF (gS _) ?_|simp[tt,Tb,zE,Fl,zF,Tf,Tc,Td,Te,Tg,n0]|((first|apply bR|apply bU|apply bT)<;>intro h<;>try simp at h))<;>(try exact cv));all_goals simp[bu,lB,aV,aW,aU]
theorem MQ(t:bJ):bK al 76 [enc t] (.bool t.fits):=by
 rw[acH];have aw:=Xb t 5000 (by omega) (by omega);have ag:=amx t.sz t (eV _);refine bm eE acb aiO fun aQ=>?_;unfold Pz;simp;by_cases q:lb t 5000≤5000
 ·exact b6
 ·exact b6
def yL:C:=(aa [cM 2 0,bf 4 false] (.seq (aa [aI 7 3 1 2,ax 8 1 7,cb 9 8,bQ 10 0] (e4 11 10 9 (.seq (.block 1 (aa [cp 12 4 8 10,be 13 4 12,dH 6 dS,bW 4 6 13] (aa [be 14 4 6,I 15 1,cd 16 77 14 15] (aT 16 (aa [bf 4 true] .ret) .skip)))) (.region [aS 17 .add 10 1,I 10 17])))) (aa [aI 18 0 1 2,ax 19 1 18,aS 20 .eql 19 2,I 21 20,aq 21 true (aI 22 2 1 2),aq 21 true (ax 23 1 22),b4 21 true 24 1,aq 21 true (bk 25 .eql 23 24),dK 26 21 25,I 4 26] .ret)))
@[simp] def v7:List bt:=[.tmp 4]
def Pu:C:=(aa [bf 2 false] (.seq (aa [I 5 0,cb 6 5,bQ 7 0] (e4 8 7 6 (.seq (.block 1 (aa [I 9 7,cp 10 2 5 7,be 11 2 10,cK (.alloc 4 none (.agg [.int .i64 0,.int .i64 0])),I 3 9,bW 2 4 11] (.seq (.drawn true 42 [I 12 3,aS 13 .gtr 12 0,I 14 13,b4 14 true 15 0,b4 14 true 16 3,aq 14 true (aS 17 .sub 16 1),aq 14 true (cp 18 2 15 17),aq 14 true (aI 19 0 1 18),aq 14 true (ax 20 1 19),aq 14 true (aI 21 0 1 4),aq 14 true (ax 22 1 21),aq 14 true (bk 23 .geq 20 22),dK 24 14 23,I 25 24,aq 25 false (aI 26 0 1 4),aq 25 false (ax 27 1 26),aq 25 false (dI 28 141 [.t 27,(gp 0),(gp 100000)]),aq 25 false (cx 29 28),dc 30 25 29,I 31 30,aq 31 false (aI 32 1 1 4),aq 31 false (ax 33 1 32),aq 31 false (aS 34 .neq 33 2),b4 31 false 35 34,aq 35 true (aI 36 1 1 4),aq 35 true (ax 37 1 36),aq 35 true (aS 38 .neq 37 3),aq 31 false (dK 39 35 38),dc 40 31 39]) (aT 40 (aa [bf 2 false] .ret) .skip)))) (.region [aS 41 .add 7 1,I 7 41])))) (aa [bf 2 true] .ret)))
@[simp] def CZ:List bt:=[.tmp 2]
def Pw:C:=(aa [bf 2 false] (.seq (aa [I 5 0,cb 6 5,bQ 7 0] (e4 8 7 6 (.seq (.block 1 (aa [I 9 7,cp 10 2 5 7,be 11 2 10,cK (.alloc 4 none (.agg [.int .i64 0,.str []])),I 3 9,bW 2 4 11] (.seq (.drawn true 37 [I 12 3,aS 13 .gtr 12 0,I 14 13,b4 14 true 15 0,b4 14 true 16 3,aq 14 true (aS 17 .sub 16 1),aq 14 true (cp 18 2 15 17),aq 14 true (be 19 2 18),aq 14 true (be 20 2 4),aq 14 true (cd 21 215 19 20),aq 14 true (cx 22 21),dK 23 14 22,I 24 23,aq 24 false (aI 25 0 1 4),aq 24 false (ax 26 1 25),aq 24 false (dI 27 141 [.t 26,(gp 0),(gp 100000)]),aq 24 false (cx 28 27),dc 29 24 28,I 30 29,aq 30 false (aI 31 1 1 4),aq 30 false (ax 32 1 31),aq 30 false (cQ 33 216 32),aq 30 false (cx 34 33),dc 35 30 34]) (aT 35 (aa [bf 2 false] .ret) .skip)))) (.region [aS 36 .add 7 1,I 7 36])))) (aa [bf 2 true] .ret)))
@[simp] def Ak:List bt:=[.tmp 2]
def yM:C:=(aa [cM 4 1,ez 6 2,bf 7 false] (.seq (aa [aI 10 0 1 4,ax 11 1 10,aS 12 .neq 11 1] (aT 12 (.seq (.drawn true 73 [I 13 0,aI 14 0 1 4,ax 15 1 14,I 16 2,bk 17 .eql 15 16,I 6 13,I 7 17]) .ret) .skip)) (aa [bQ 8 0] (.seq (.block 0 (.loop (.seq (.seq (.drawn true 73 [I 18 8,I 19 0,cb 20 19,bk 21 .lss 18 20,I 22 21,b4 22 true 23 0,b4 22 true 24 8,aq 22 true (cp 25 2 23 24),aq 22 true (aI 26 0 1 25),aq 22 true (ax 27 1 26),aq 22 true (aI 28 1 1 4),aq 22 true (ax 29 1 28),aq 22 true (bk 30 .lss 27 29),dK 31 22 30]) (aT 31 .skip (.exit 0))) (.block 1 (.region [I 32 8,aS 33 .add 32 1,I 8 33]))))) (.seq (.seq (.drawn true 73 [I 34 8,I 35 0,cb 36 35,bk 37 .lss 34 36,I 38 37,b4 38 true 39 0,b4 38 true 40 8,aq 38 true (cp 41 2 39 40),aq 38 true (aI 42 0 1 41),aq 38 true (ax 43 1 42),aq 38 true (aI 44 1 1 4),aq 38 true (ax 45 1 44),aq 38 true (bk 46 .eql 43 45),dK 47 38 46]) (aT 47 (.seq (.drawn true 73 [I 48 0,I 49 0,I 50 8,cp 51 2 49 50,aI 52 1 1 51,ax 53 1 52,I 54 2,bk 55 .eql 53 54,I 6 48,I 7 55]) .ret) .skip)) (aa [fk 56 2 104 [],I 57 0,I 58 8,b1 59 (.lsl 2 (.t 57) none (some (.t 58))),iN 60 2 104 56 59,I 9 60] (aa [I 61 9,aI 62 1 1 4,ax 63 1 62,I 64 2,b1 65 (.build [.int .i64 0,.int .i64 0] [(0,1,(.t 63)),(1,1,(.t 64))]),fk 66 2 104 [.t 65],iN 67 2 104 61 66,I 9 67] (aa [I 68 9,I 69 0,I 70 8,b1 71 (.lsl 2 (.t 69) (some (.t 70)) none),iN 72 2 104 68 71,I 6 72,bf 7 true] .ret))))))))
@[simp] def v8:List bt:=[.tmp 6,.tmp 7]
def H8:C:=(aa [cM 4 1,ez 6 2,bf 7 false] (.seq (aa [be 13 4 4,I 14 2,cd 15 77 13 14] (aT 15 (aa [ez 6 2,bf 7 false] .ret) .skip)) (.seq (aa [be 16 4 4,dI 17 165 [.t 16,(.c (.slice 1 .nil []))],cb 18 17,bQ 19 0] (e4 20 19 18 (.seq (.block 1 (aa [cp 21 1 17 19,ax 22 1 21,I 9 22] (aa [I 23 9,I 24 2,b1 25 (.build [.int .i64 0,.str []] [(0,1,(.t 23)),(1,1,(.t 24))]),cK (.alloc 10 none (.agg [.int .i64 0,.str []])),bW 2 10 25] (aa [bQ 11 0] (.seq (.block 2 (.loop (.seq (.seq (.drawn true 68 [I 26 11,I 27 0,cb 28 27,bk 29 .lss 26 28,I 30 29,b4 30 true 31 0,b4 30 true 32 11,aq 30 true (cp 33 2 31 32),aq 30 true (be 34 2 33),aq 30 true (be 35 2 10),aq 30 true (cd 36 215 34 35),dK 37 30 36]) (aT 37 .skip (.exit 2))) (.block 3 (.region [I 38 11,aS 39 .add 38 1,I 11 39]))))) (.seq (.drawn true 68 [I 40 11,I 41 0,cb 42 41,bk 43 .eql 40 42,I 44 43,aq 44 false (be 45 2 10),b4 44 false 46 0,b4 44 false 47 11,aq 44 false (cp 48 2 46 47),aq 44 false (be 49 2 48),aq 44 false (cd 50 215 45 49),dc 51 44 50]) (aT 51 (aa [fk 52 2 106 [],I 53 0,I 54 11,b1 55 (.lsl 2 (.t 53) none (some (.t 54))),iN 56 2 106 52 55,I 12 56] (aa [I 57 12,be 58 2 10,fk 59 2 106 [.t 58],iN 60 2 106 57 59,I 12 60] (.region [I 61 12,I 62 0,I 63 11,b1 64 (.lsl 2 (.t 62) (some (.t 63)) none),iN 65 2 106 61 64,I 0 65]))) .skip))))))) (.fg false 0 (.region [aS 66 .add 19 1,I 19 66]))))) (aa [I 67 0,I 6 67,bf 7 true] .ret))))
@[simp] def LL:List bt:=[.tmp 6,.tmp 7]
def Ea:C:=(aa [cM 2 0,cM 3 1,bf 4 false] (aa [aI 5 0 1 2,ax 6 1 5,aI 7 0 1 3,ax 8 1 7,bk 9 .lss 6 8,I 10 9,aq 10 false (aI 11 0 1 2),aq 10 false (ax 12 1 11),aq 10 false (aI 13 0 1 3),aq 10 false (ax 14 1 13),aq 10 false (bk 15 .eql 12 14),b4 10 false 16 15,aq 16 true (aI 17 1 1 2),aq 16 true (ax 18 1 17),aq 16 true (aI 19 1 1 3),aq 16 true (ax 20 1 19),aq 16 true (bk 21 .lss 18 20),aq 10 false (dK 22 16 21),dc 23 10 22,I 4 23] .ret))
@[simp] def aky:List bt:=[.tmp 4]
def PW:C:=(aa [ez 4 2,bf 5 false] (aa [fk 10 2 104 [],I 6 10] (aa [bf 7 true] (.seq (.seq (.fg false 6 (.region [I 11 1,cb 12 11,bQ 13 0])) (e4 14 13 12 (.seq (.block 1 (aa [cp 15 2 11 13,be 16 2 15,cK (.alloc 9 none (.agg [.int .i64 0,.int .i64 0])),bW 2 9 16] (.seq (.drawn true 33 [I 18 6,I 19 0,aI 20 0 1 9,ax 21 1 20,cQ 22 91 21,cd 23 236 19 22,aI 24 1 1 9,ax 25 1 24,dI 26 178 [.t 18,.t 23,.t 25],I 17 26,c2 27 0 17,c2 28 1 17,I 6 27,I 7 28]) (aa [I 29 7,cx 30 29] (aT 30 (aa [ez 4 2,bf 5 false] .ret) .skip))))) (.region [aS 31 .add 13 1,I 13 31])))) (aa [I 32 6,I 4 32,bf 5 true] .ret)))))
@[simp] def LK:List bt:=[.tmp 4,.tmp 5]
def PX:C:=(aa [ez 4 2,bf 5 false] (aa [fk 10 2 106 [],I 6 10] (aa [bf 7 true] (.seq (.seq (.fg false 6 (.region [I 11 1,cb 12 11,bQ 13 0])) (e4 14 13 12 (.seq (.block 1 (aa [cp 15 2 11 13,be 16 2 15,cK (.alloc 9 none (.agg [.int .i64 0,.str []])),bW 2 9 16] (.seq (.drawn true 33 [I 18 6,I 19 0,aI 20 0 1 9,ax 21 1 20,cQ 22 91 21,cd 23 236 19 22,aI 24 1 1 9,ax 25 1 24,dI 26 179 [.t 18,.t 23,.t 25],I 17 26,c2 27 0 17,c2 28 1 17,I 6 27,I 7 28]) (aa [I 29 7,cx 30 29] (aT 30 (aa [ez 4 2,bf 5 false] .ret) .skip))))) (.region [aS 31 .add 13 1,I 13 31])))) (aa [I 32 6,I 4 32,bf 5 true] .ret)))))
@[simp] def LM:List bt:=[.tmp 4,.tmp 5]
def uR:List (Nat×dA):=[
 (3,⟨1,8,.int .i64,.int .i64 0⟩),
 (9,⟨1,16,.str,.str []⟩),
 (25,⟨1,24,.slice 104,.slice 2 .nil []⟩),
 (26,⟨1,24,.slice 106,.slice 2 .nil []⟩),
 (30,⟨1,24,.slice 32,.slice 4 .nil []⟩),
 (32,⟨4,56,.struct [(0,3),(1,3),(2,9),(3,30)],.agg [.int .i64 0,.int .i64 0,.str [],.slice 4 .nil []]⟩),
 (104,⟨2,16,.struct [(0,3),(1,3)],.agg [.int .i64 0,.int .i64 0]⟩),
 (106,⟨2,24,.struct [(0,3),(1,9)],.agg [.int .i64 0,.str []]⟩),
 (112,⟨1,24,.slice 3,.slice 1 .nil []⟩)]
theorem lY:fN al uR=true:=by kernel_rfl
theorem CM:bY uR yL v7 2 Tryz.f77=true:=by kernel_rfl
theorem Bm:al.funcs[(77:Nat)]? =some Tryz.f77:=Tryz.func77
theorem aiK:bY uR Pu CZ 1 Tryz.f144=true:=by kernel_rfl
theorem ab7:al.funcs[(144:Nat)]? =some Tryz.f144:=Tryz.func144
theorem aiL:bY uR Pw Ak 1 Tryz.f145=true:=by kernel_rfl
theorem ab8:al.funcs[(145:Nat)]? =some Tryz.f145:=Tryz.func145
theorem CN:bY uR yM v8 3 Tryz.f178=true:=by kernel_rfl
theorem Bn:al.funcs[(178:Nat)]? =some Tryz.f178:=Tryz.func178
theorem UO:bY uR H8 LL 3 Tryz.f179=true:=by kernel_rfl
theorem QW:al.funcs[(179:Nat)]? =some Tryz.f179:=Tryz.func179
theorem K8:bY uR Ea aky 2 Tryz.f215=true:=by kernel_rfl
theorem IJ:al.funcs[(215:Nat)]? =some Tryz.f215:=Tryz.func215
theorem aja:bY uR PW LK 2 Tryz.f217=true:=by kernel_rfl
theorem acA:al.funcs[(217:Nat)]? =some Tryz.f217:=Tryz.func217
theorem ajb:bY uR PX LM 2 Tryz.f218=true:=by kernel_rfl
theorem acB:al.funcs[(218:Nat)]? =some Tryz.f218:=Tryz.func218
open Classical in
theorem amS(l:List bL):bK al 144 [.slice 2 .no (l.map bL.e)] (.bool (decide (iU l))):=by
 generalize a1:decide (iU l)=R;refine bm lY ab7 aiK fun aQ=>?_;unfold Pu;have eI:l.length≤68719476736:=by simp[eD,ef,et,lim]at aQ;omega
 simp;refine dW [0,5,6] (fun i (_:Unit)=>[(7,.int .i64 i)]) l.length (fun i _=> ∀j,j<i→h4 lT mW l j) () bV (fun k ab=>by omega) (fun _ af _=>?_) (fun i _ hi af _=>?_)
 ·have:R=true:=by rw[←a1,fm,Fs];exact af
  rw[this];exact b6
 ·obtain⟨b,ae⟩:∃b,l[i]? =some b:=⟨_,cf hi⟩;obtain⟨c,aw⟩:∃c,l[i-1]? =some c:=⟨_,cf (by omega)⟩;have cy:∀h,(l[i]'h)=b:=fun h=>by rw[cf hi]at ae;exact fl ae
  have dg:¬h4 lT mW l i→R=false:=fun h=>by rw[←a1,gr];exact fun cr=>h (Fs.1 cr i hi)
  have cO:h4 lT mW l i→∀j,j<i+1→h4 lT mW l j:=fun h j jd=>by
   by_cases e:j=i
   ·rw[e];exact h
   ·exact af j (by omega)
  have o5:h4 lT mW l i→lT b:=fun h=>(h b ae).1;have bA:h4 lT mW l i→0<i→c.v<b.v:=fun h bq=>(h b ae).2 c bq aw;have eX:lT b→(0<i→c.v<b.v)→h4 lT mW l i:=fun J U b2 fI=>by rw[ae]at fI;cases fI;exact⟨J,fun cq bq hv=>by rw[aw]at hv;cases hv;exact U bq⟩
  unfold lT at o5 eX;by_cases g0:0<i∧¬c.v<b.v
  ·rw[dg (fun h=>g0.2 (bA h g0.1))];have aoQ:=g0.1;have vc:b.v≤c.v:=by omega
   exact b6
  have aR:(decide (0<i)&&decide (b.v≤c.v))=false:=by simp;intro h;by_cases cS:c.v<b.v;exact cS;exact absurd ⟨h,cS⟩ g0
  by_cases g1:0≤b.v∧b.v≤100000;rotate_left
  ·rw[dg (fun h=>g1 (o5 h).1)];have kQ:decide (0≤b.v∧b.v≤100000)=false:=by simp only[gr];exact g1
   by_cases bq:0<i
   ·have vc:¬b.v≤c.v:=by simp[bq]at aR;omega
    simp[hi,cy,aw];(with_reducible repeat' first|refine aj ?_|refine aE (dt _ _ _) ?_|refine aF (dt _ _ _) ?_|simp[cy,aw,hi,bq,vc,kQ,g1]);all_goals simp[bu,CZ,aV,aW,aU]
   ·obtain rfl:i=0:=by omega
    simp[hi,cy,aw];(with_reducible repeat' first|refine aj ?_|refine aE (dt _ _ _) ?_|refine aF (dt _ _ _) ?_|simp[cy,aw,hi,kQ,g1]);all_goals simp[bu,CZ,aV,aW,aU]
  have kQ:decide (0≤b.v∧b.v≤100000)=true:=by simp only[fm];exact g1
  by_cases g2:b.k=2∨b.k=3;rotate_left
  ·rw[dg (fun h=>g2 (o5 h).2)];have g21:(b.k !=2)=true:=by simp;omega
   have g22:(b.k !=3)=true:=by simp;omega
   by_cases bq:0<i
   ·have vc:¬b.v≤c.v:=by simp[bq]at aR;omega
    simp[hi,cy,aw];(with_reducible repeat' first|refine aj ?_|refine aE (dt _ _ _) ?_|refine aF (dt _ _ _) ?_|simp[cy,aw,hi,bq,vc,kQ,g1,g21,g22]);all_goals simp[bu,CZ,aV,aW,aU]
   ·obtain rfl:i=0:=by omega
    simp[hi,cy,aw];(with_reducible repeat' first|refine aj ?_|refine aE (dt _ _ _) ?_|refine aF (dt _ _ _) ?_|simp[cy,aw,hi,kQ,g1,g21,g22]);all_goals simp[bu,CZ,aV,aW,aU]
  have dB:=cO (eX ⟨g1,g2⟩ fun bq=>by simp[bq]at aR;omega);have acU:((b.k !=2)=false)∨((b.k !=2)=true∧(b.k !=3)=false):=by
   rcases g2 with h|h
   ·left;simp[h]
   ·right;simp[h]
  rcases acU with g21|⟨g21,g22⟩
  ·by_cases bq:0<i
   ·have vc:¬b.v≤c.v:=by simp[bq]at aR;omega
    simp[hi,cy,aw];(with_reducible repeat' first|refine aj ?_|refine aE (dt _ _ _) ?_|refine aF (dt _ _ _) ?_|simp[cy,aw,hi,bq,vc,kQ,g1,g21]);all_goals exact bO.rng () hi dB bV
   ·obtain rfl:i=0:=by omega
    simp[hi,cy,aw];(with_reducible repeat' first|refine aj ?_|refine aE (dt _ _ _) ?_|refine aF (dt _ _ _) ?_|simp[cy,aw,hi,kQ,g1,g21]);all_goals exact bO.rng () hi dB bV
  ·by_cases bq:0<i
   ·have vc:¬b.v≤c.v:=by simp[bq]at aR;omega
    simp[hi,cy,aw];(with_reducible repeat' first|refine aj ?_|refine aE (dt _ _ _) ?_|refine aF (dt _ _ _) ?_|simp[cy,aw,hi,bq,vc,kQ,g1,g21,g22]);all_goals exact bO.rng () hi dB bV
   ·obtain rfl:i=0:=by omega
    simp[hi,cy,aw];(with_reducible repeat' first|refine aj ?_|refine aE (dt _ _ _) ?_|refine aF (dt _ _ _) ?_|simp[cy,aw,hi,kQ,g1,g21,g22]);all_goals exact bO.rng () hi dB bV
theorem lE(a b:bg):bK al 215 [a.e,b.e] (.bool (hG fa a b)):=by
 rw[←Uo];have a1:sQ a b=(decide (a.v<b.v)||(a.v==b.v&&hr a.s b.s)):=rfl;rcases Int.lt_trichotomy a.v b.v with h|h|h
 ·have:sQ a b=true:=by rw[a1];simp[h]
  rw[this];refine bm lY IJ K8 fun aQ=>?_;unfold Ea;exact b6
 ·have J:¬a.v<b.v:=by omega
  have U:(a.v==b.v)=true:=by simp[h]
  have:sQ a b=hr a.s b.s:=by rw[a1];simp[h]
  rw[this];refine bm lY IJ K8 fun aQ=>?_;unfold Ea;exact b6
 ·have J:¬a.v<b.v:=by omega
  have U:¬a.v=b.v:=by omega
  have ao:(a.v==b.v)=false:=by simp[U]
  have:sQ a b=false:=by rw[a1];simp[J,U]
  rw[this];refine bm lY IJ K8 fun aQ=>?_;unfold Ea;exact b6
def S8(l:List cX)(i:Nat)(_:Unit):Prop:= ∀j,j<i→zX l j
open Classical in
theorem amA(l:List cX):bK al 164 [.slice 5 .no (l.map cX.e)] (.bool (decide (yA l))):=by
 generalize a1:decide (yA l)=R;refine bm eE acs ai3 fun aQ=>?_;unfold PO;have eI:l.length≤68719476736:=by simp[eD,ef,et,lim]at aQ;omega
 simp;refine dW [0,5,6] (fun i (_:Unit)=>[(7,.int .i64 i)]) l.length (S8 l) () bV (fun k ab=>by omega) (fun _ af _=>?_) (fun i _ hi af _=>?_)
 ·have:R=decide (l.length≤400):=by rw[←a1,decide_eq_decide];exact⟨fun h=>h.1,fun h=>⟨h,fun j jd=>af j jd⟩⟩
  rw[this];simp;(with_reducible repeat' first|refine aj ?_|simp);simp[bu,LI,aV,aW,aU];all_goals(first|done|omega|(simp;done)|(simp;omega))
 ·obtain⟨b,ae⟩:∃b,l[i]? =some b:=⟨_,cf hi⟩;obtain⟨c,aw⟩:∃c,l[i-1]? =some c:=⟨_,cf (by omega)⟩;have cy:∀h,(l[i]'h)=b:=fun h=>by rw[cf hi]at ae;exact fl ae
  have dg:¬zX l i→R=false:=fun h=>by rw[←a1,gr];exact fun cr=>h (cr.2 i hi)
  have cO:zX l i→S8 l (i+1) ():=fun h j jd=>by
   by_cases e:j=i
   ·rw[e];exact h
   ·exact af j (by omega)
  simp[hi,cy,aw];((with_reducible repeat' first|refine aj ?_|refine aE (dt _ _ _) ?_|refine aF (dt _ _ _) ?_|refine aE (MQ _) ?_|refine aF (MQ _) ?_|simp[cy,aw,hi]|((first|apply bR|apply bU|apply bT)<;>intro h<;>try simp at h))<;>(try exact cv));all_goals first
   |(have aA:¬zX l i:=by(intro cr;have J:=cr b ae;have U:=J.2.1 c;have ao:=J.2.2;first|omega|(have a7:=U (by omega) aw;omega)|(rw[ao]at h;cases h)|(simp_all;done)|(simp_all;omega))
     rw[dg aA]
     simp[bu,LI,aV,aW,aU]
     done)
   |(refine bO.rng () hi (cO fun b2 fI=>?_) ?_
     ·rw[ae]at fI;cases fI
      refine⟨?_,fun cq bq hv=>?_,?_⟩
      ·omega
      ·rw[aw]at hv;cases hv;omega
      ·first|assumption|simp_all
     ·exact bV)
def mi(n:Int):List Int→List Int
 |[]=>[n]
 |c::l=>if c<n then c::mi n l else if c=n then c::l else n::c::l
def th(l:List Int):Prop:=l.Pairwise (· < ·)
theorem S0(n:Int):∀(l:List Int) (k:Nat),(∀i c,i<k→l[i]? =some c→c<n)→(∀c,l[k]? =some c→n≤c)→k≤l.length→mi n l=if l[k]? =some n then l else l.take k++n::l.drop k
 |[],k,_,_,ab=>by simp at ab;subst ab;rfl
 |c::l,0,_,U,_=>by
  have:=U c rfl;by_cases e:c=n
  ·simp[mi,e]
  ·have ao:¬c<n:=by omega
   simp[mi,ao,e]
 |c::l,k+1,J,U,ab=>by have bq:=J 0 c (by omega) rfl;simp only[mi,if_pos bq,List.take_succ_cons,List.drop_succ_cons,bP,List.getElem?_cons_succ];rw[S0 n l k (fun i d hi aR=>J (i+1) d (by omega) (by simpa using aR)) (fun d aR=>U d (by simpa using aR)) (by simpa using ab)];split<;>rfl
theorem KG{n m:Int}:∀{l:List Int},m∈mi n l↔m=n∨m∈l
 |[]=>by simp[mi]
 |c::l=>by
  simp only[mi];split
  ·simp only[fK,KG (l:=l)];constructor
   ·rintro(h|h|h)
    ·exact .inr (.inl h)
    ·exact .inl h
    ·exact .inr (.inr h)
   ·rintro(h|h|h)
    ·exact .inr (.inl h)
    ·exact .inl h
    ·exact .inr (.inr h)
  ·split
   ·rename_i h;subst h;simp
   ·simp
theorem SZ{n:Int}:∀{l:List Int},th l→th (mi n l)
 |[],_=>by simp[mi,th]
 |c::l,h=>by
  obtain⟨J,U⟩:=mA.1 h;simp only[mi];split
  ·rename_i ao;refine mA.2 ⟨fun m hm=>?_,SZ U⟩;rcases KG.1 hm with rfl|hm
   ·exact ao
   ·exact J m hm
  ·split
   ·exact h
   ·refine mA.2 ⟨fun m hm=>?_,h⟩;rcases fK.1 hm with rfl|hm
    ·omega
    ·have:=J m hm;omega
theorem S1(n:Int):∀l:List Int,(mi n l).length≤l.length+1
 |[]=>by simp[mi]
 |c::l=>by
  have:=S1 n l;simp only[mi];split
  ·simp;omega
  ·split<;>simp
theorem Ch(l:List Int)(i:Nat):(du l)[i]? =(l[i]?).map (ah.int .i64):=by simp[du]
theorem eY(l:List Int):(du l).length=l.length:=by simp[du]
theorem yl:∀l:List Int,cY (du l)=du l
 |[]=>by simp[du,cY]
 |a::l=>by have:=yl l;simp only[du,gM,cY,dm]at this⊢;rw[this]
theorem Fg(l:List Int)(n:Int)(k:Nat):cY (jQ k (du l)++ah.int .i64 n::my k (jQ l.length (du l)))=du (jQ k l++n::my k l):=by
 have e:jQ l.length (du l)=du l:=hB (by simp[du]);have aC:jQ k (du l)++ah.int .i64 n::my k (du l)=du (jQ k l++n::my k l):=by simp only[du,List.map_append,gM,List.map_take,List.map_drop]
 rw[e,aC];exact yl _
theorem amw(l:List Int)(n:Int)(ar:l.length≤1000000)(bD:th l):bK al 230 [.slice 1 .no (du l),.int .i64 n] (.slice 1 .no (du (mi n l))):=by
 refine bm eE aci aiU fun aQ=>?_;unfold PF;simp;refine u7 [0,1] (fun(k:Nat)=>[(5,.int .i64 k)]) (fun k=>k) (fun k=>k≤l.length∧∀c,l[k]? =some c→n≤c) l.length bV ⟨by omega,fun c h=>by simp at h⟩ (fun k af _=>?_);obtain⟨ab,af⟩:=af;have vj:(∀c,0<k→l[k-1]? =some c→c<n)→mi n l=if l[k]? =some n then l else l.take k++n::l.drop k:=fun h=>S0 n l k (fun i c hi aw=>by
  obtain⟨d,aR⟩:∃d,l[k-1]? =some d:=⟨_,cf (by omega)⟩;have J:=h d (by omega) aR;rcases Nat.lt_or_ge i (k-1)with U|U
  ·have sx:=(fw.1 aw);have l9:=(fw.1 aR);have:=pt.1 bD i (k-1) sx.1 l9.1 U;rw[sx.2,l9.2]at this;omega
  ·have:i=k-1:=by omega
   subst this;rw[aR]at aw;cases aw;exact J) af ab
 have ln:∀c,l[k]? =some c→∀h,((du l)[k]'h)= .int .i64 c:=fun c h cr=>by have:=Ch l k;rw[h,cf cr]at this;exact fl this
 have dB:(0<k→∃d,l[k-1]? =some d∧d<n)→∀P:Prop,(mi n l=(if l[k]? =some n then l else l.take k++n::l.drop k)→P)→P:=fun h P adW=>adW (vj fun c bq aw=>by obtain⟨d,aR,J⟩:=h bq;rw[aR]at aw;cases aw;exact J)
 rcases Nat.eq_zero_or_pos k with bq|fq
 ·have bE:decide ((0:Int)<k)=false:=by simp;omega
  refine dB (fun h=>by omega) _ fun e=>?_;by_cases ik:k<l.length
  ·obtain⟨c,aw⟩:∃c,l[k]? =some c:=⟨_,cf ik⟩;have hv:=ln c aw;rw[aw]at e;by_cases q:c=n
   ·have gD:(c==n)=true:=by simp[q]
    rw[if_pos (by rw[q])]at e;rw[e];simp[bE,ik];((with_reducible repeat' first|refine aj ?_|simp[bE,ik,hv,gD]|((first|apply bR|apply bU|apply bT)<;>intro h<;>try simp at h))<;>(try exact cv));all_goals simp[bu,x5,aV,aW,aU]
   ·have gD:(c==n)=false:=by simp[q]
    rw[if_neg (by simp[q])]at e;rw[e];simp[bE,ik];((with_reducible repeat' first|refine aj ?_|simp[bE,ik,hv,gD]|((first|apply bR|apply bU|apply bT)<;>intro h<;>try simp at h))<;>(try exact cv));all_goals simp[bu,x5,aV,aW,aU]
    all_goals exact Fg l n k
  ·rw[p5 (by omega)]at e;simp only[reduceCtorEq,if_false]at e;rw[e];simp[bE,ik];((with_reducible repeat' first|refine aj ?_|simp[bE,ik]|((first|apply bR|apply bU|apply bT)<;>intro h<;>try simp at h))<;>(try exact cv));all_goals simp[bu,x5,aV,aW,aU]
   all_goals exact Fg l n k
 ·obtain⟨d,aR⟩:∃d,l[k-1]? =some d:=⟨_,cf (by omega)⟩;have ak:((k:Int)-1).toNat=k-1:=by omega
  have aC:∀h,((du l)[k-1]'h)= .int .i64 d:=fun cr=>by have:=Ch l (k-1);rw[aR,cf cr]at this;exact fl this
  have iE:(0:Int)<k:=by omega
  have lO:k-1<l.length:=by omega
  by_cases ae:n≤d
  ·simp[fq,iE,ak,aC,ae,lO];(with_reducible repeat' first|refine aj ?_|simp[fq,iE,ak,aC,ae,lO]);refine bO.whl (k-1) (by omega) ⟨by omega,fun c aw=>by rw[aR]at aw;cases aw;exact ae⟩ ?_;have bj:((k-1:Nat):Int)=(k:Int)-1:=by omega
   simp[bj];exact bV
  ·refine dB (fun _=>⟨d,aR,by omega⟩) _ fun e=>?_;by_cases ik:k<l.length
   ·obtain⟨c,aw⟩:∃c,l[k]? =some c:=⟨_,cf ik⟩;have hv:=ln c aw;rw[aw]at e;by_cases q:c=n
    ·have gD:(c==n)=true:=by simp[q]
     rw[if_pos (by rw[q])]at e;rw[e];simp[fq,iE,ak,aC,ae,lO,ik];((with_reducible repeat' first|refine aj ?_|simp[fq,iE,ak,aC,ae,lO,ik,hv,gD]|((first|apply bR|apply bU|apply bT)<;>intro h<;>try simp at h))<;>(try exact cv));all_goals simp[bu,x5,aV,aW,aU]
    ·have gD:(c==n)=false:=by simp[q]
     rw[if_neg (by simp[q])]at e;rw[e];simp[fq,iE,ak,aC,ae,lO,ik];(with_reducible repeat' first|refine aj ?_|simp[fq,iE,ak,aC,ae,lO,ik,hv,gD]);all_goals simp[bu,x5,aV,aW,aU]
     all_goals exact Fg l n k
   ·rw[p5 (by omega)]at e;simp only[reduceCtorEq,if_false]at e;rw[e];simp[fq,iE,ak,aC,ae,lO,ik];(with_reducible repeat' first|refine aj ?_|simp[fq,iE,ak,aC,ae,lO,ik]);all_goals simp[bu,x5,aV,aW,aU]
    all_goals exact Fg l n k
def iq:T→List Int→List Int
 | .var n,l=>mi n l
 | .pair a b,l=>iq b (iq a l)
 |_,l=>l
theorem MS:∀(t:T) {l:List Int},th l→th (iq t l)
 | .var _,_,h=>SZ h
 | .pair a b,_,h=>MS b (MS a h)
 | .nil,_,h=>h
 | .sym _,_,h=>h
 | .num _,_,h=>h
theorem FM{m:Int}:∀(t:T) {l:List Int},m∈iq t l↔t.occ m=true∨m∈l
 | .var n,l=>by simp only[iq,KG,T.occ,dL];constructor<;>rintro(h|h)<;>first|exact .inr h|exact .inl h.symm
 | .pair a b,l=>by
  simp only[iq,FM b,FM a,T.occ,lF];constructor
  ·rintro(h|h|h)
   ·exact .inl (.inr h)
   ·exact .inl (.inl h)
   ·exact .inr h
  ·rintro((h|h)|h)
   ·exact .inr (.inl h)
   ·exact .inl h
   ·exact .inr (.inr h)
 | .nil,l=>by simp[iq,T.occ]
 | .sym _,l=>by simp[iq,T.occ]
 | .num _,l=>by simp[iq,T.occ]
theorem Ds:∀(t:T) (l:List Int),(iq t l).length≤l.length+t.size
 | .var n,l=>by have:=S1 n l;simp only[iq,T.size];omega
 | .pair a b,l=>by have J:=Ds a l;have U:=Ds b (iq a l);simp only[iq,T.size];omega
 | .nil,l=>by simp[iq]
 | .sym _,l=>by simp[iq]
 | .num _,l=>by simp[iq]
theorem G7:∀(t:T) (l:List Int),l.length+t.size≤1000000→th l→bK al 165 [t.e,.slice 1 .no (du l)] (.slice 1 .no (du (iq t l)))
 | .var n,l,ar,bD=>by
  simp only[T.size]at ar;have key:=amw l n (by omega) bD;refine bm eE Bl CL fun aQ=>?_;unfold yK;simp;(with_reducible repeat' first|refine aj ?_|refine aE key ?_|refine aF key ?_|simp);all_goals simp[bu,Am,aV,aW,aU]
  all_goals simp[iq,yl]
 | .pair a b,l,ar,bD=>by
  simp only[T.size]at ar;have Cr:=Ds a l;have aZ:=G7 a l (by omega) bD;have bI:=G7 b (iq a l) (by omega) (MS a bD);refine bm eE Bl CL fun aQ=>?_;unfold yK;simp;refine dW [15,16] (fun i (_:Unit)=>[(1,.slice 1 .no (du (if i=0 then l else if i=1 then iq a l else iq b (iq a l)))),(17,.int .i64 i)]) 2 (fun _ _=>True) () bV trivial (fun _ _ _=>?_) (fun i _ hi _ _=>?_)
  ·simp;(with_reducible repeat' first|refine aj ?_|simp);simp[bu,Am,aV,aW,aU];simp[iq,yl]
  ·rcases(by omega:i=0∨i=1)with rfl|rfl
   ·simp;((with_reducible repeat' first|refine aj ?_|refine aE aZ ?_|refine aF aZ ?_|simp|((first|apply bR|apply bU|apply bT)<;>intro h<;>try simp at h))<;>(try exact cv));exact bO.rng () hi trivial bV
   ·simp;((with_reducible repeat' first|refine aj ?_|refine aE bI ?_|refine aF bI ?_|simp|((first|apply bR|apply bU|apply bT)<;>intro h<;>try simp at h))<;>(try exact cv));exact bO.rng () hi trivial bV
 | .nil,l,ar,bD=>by refine bm eE Bl CL fun aQ=>?_;unfold yK;simp;refine dW [15,16] (fun i (_:Unit)=>[(1,.slice 1 .no (du l)),(17,.int .i64 i)]) 0 (fun _ _=>True) () bV trivial (fun _ _ _=>?_) (fun i _ hi _ _=>by omega);simp;((with_reducible repeat' first|refine aj ?_|simp|((first|apply bR|apply bU|apply bT)<;>intro h<;>try simp at h))<;>(try exact cv));simp[bu,Am,aV,aW,aU];simp[iq,yl]
 | .sym _,l,ar,bD=>by refine bm eE Bl CL fun aQ=>?_;unfold yK;simp;refine dW [15,16] (fun i (_:Unit)=>[(1,.slice 1 .no (du l)),(17,.int .i64 i)]) 0 (fun _ _=>True) () bV trivial (fun _ _ _=>?_) (fun i _ hi _ _=>by omega);simp;(with_reducible repeat' first|refine aj ?_|simp);simp[bu,Am,aV,aW,aU];simp[iq,yl]
 | .num _,l,ar,bD=>by refine bm eE Bl CL fun aQ=>?_;unfold yK;simp;refine dW [15,16] (fun i (_:Unit)=>[(1,.slice 1 .no (du l)),(17,.int .i64 i)]) 0 (fun _ _=>True) () bV trivial (fun _ _ _=>?_) (fun i _ hi _ _=>by omega);simp;(with_reducible repeat' first|refine aj ?_|simp);simp[bu,Am,aV,aW,aU];simp[iq,yl]
def afW(s:List dz)(a b:T)(i:Nat)(_:Unit):Prop:=(1≤i→a.has s=false)∧(2≤i→b.has s=false)
theorem ML(s:List dz):∀t:T,bK al 77 [t.e,.str s] (.bool (t.has s))
 | .pair a b=>by
  have dM:=ML s a;have dN:=ML s b;refine bm lY Bm CM fun aQ=>?_;unfold yL;simp;refine dW [1,2,8,9] (fun i (_:Unit)=>[(10,.int .i64 i)]) 2 (afW s a b) () bV ⟨fun h=>by omega,fun h=>by omega⟩ (fun _ af _=>?_) (fun i _ hi af _=>?_)
  ·simp;(with_reducible repeat' first|refine aj ?_|simp);simp[bu,v7,aV,aW,aU];simp[T.has,af.1,af.2]
  ·rcases(by omega:i=0∨i=1)with rfl|rfl
   ·cases bD:a.has s
    ·rw[bD]at dM;simp;((with_reducible repeat' first|refine aj ?_|refine aE dM ?_|refine aF dM ?_|simp|((first|apply bR|apply bU|apply bT)<;>intro h<;>try simp at h))<;>(try exact cv));exact bO.rng () hi ⟨fun _=>bD,fun h=>by omega⟩ bV
    ·rw[bD]at dM;simp;((with_reducible repeat' first|refine aj ?_|refine aE dM ?_|refine aF dM ?_|simp|((first|apply bR|apply bU|apply bT)<;>intro h<;>try simp at h))<;>(try exact cv));simp[bu,v7,aV,aW,aU];simp[T.has,bD]
   ·cases ae:b.has s
    ·rw[ae]at dN;simp;((with_reducible repeat' first|refine aj ?_|refine aE dN ?_|refine aF dN ?_|simp|((first|apply bR|apply bU|apply bT)<;>intro h<;>try simp at h))<;>(try exact cv));exact bO.rng () hi ⟨fun _=>af.1 (by omega),fun _=>ae⟩ bV
    ·rw[ae]at dN;simp;((with_reducible repeat' first|refine aj ?_|refine aE dN ?_|refine aF dN ?_|simp|((first|apply bR|apply bU|apply bT)<;>intro h<;>try simp at h))<;>(try exact cv));simp[bu,v7,aV,aW,aU];simp[T.has,ae]
 | .sym n=>by
  refine bm lY Bm CM fun aQ=>?_;unfold yL;simp;refine dW [1,2,8,9] (fun i (_:Unit)=>[(10,.int .i64 i)]) 0 (fun i _=>True) () bV trivial (fun _ af _=>?_) (fun i _ hi af _=>by omega);simp;(with_reducible repeat' first|refine aj ?_|simp);all_goals simp[bu,v7,aV,aW,aU]
  all_goals simp[T.has]
 | .num n=>by
  refine bm lY Bm CM fun aQ=>?_;unfold yL;simp;refine dW [1,2,8,9] (fun i (_:Unit)=>[(10,.int .i64 i)]) 0 (fun i _=>True) () bV trivial (fun _ af _=>?_) (fun i _ hi af _=>by omega);simp;(with_reducible repeat' first|refine aj ?_|simp);all_goals simp[bu,v7,aV,aW,aU]
  all_goals simp[T.has]
 | .var n=>by
  refine bm lY Bm CM fun aQ=>?_;unfold yL;simp;refine dW [1,2,8,9] (fun i (_:Unit)=>[(10,.int .i64 i)]) 0 (fun i _=>True) () bV trivial (fun _ af _=>?_) (fun i _ hi af _=>by omega);simp;(with_reducible repeat' first|refine aj ?_|simp);all_goals simp[bu,v7,aV,aW,aU]
  all_goals simp[T.has]
 | .nil=>by
  refine bm lY Bm CM fun aQ=>?_;unfold yL;simp;refine dW [1,2,8,9] (fun i (_:Unit)=>[(10,.int .i64 i)]) 0 (fun i _=>True) () bV trivial (fun _ af _=>?_) (fun i _ hi af _=>by omega);simp;(with_reducible repeat' first|refine aj ?_|simp);all_goals simp[bu,v7,aV,aW,aU]
  all_goals simp[T.has]
def ov(l:List bL)(o:aY (List bL)):ah:= .tuple [.slice 2 .no ((o.getD l).map bL.e),.bool o.isSome]
@[simp] theorem aqc(S:aD→Prop)(l:List bL)(o:aY (List bL)):aB S (ov l o)=True:=by simp[ov]
def vE(l:List bL)(n:Int)(i:Nat):Prop:=i≤l.length∧∀j y,j<i→l[j]? =some y→y.v<n
theorem vE.none{l:List bL}{n:Int}{i:Nat}(h:vE l n i)(bD:l.Pairwise fun x y=>x.v<y.v)(aw:∀c,l[i]? =some c→n<c.v):kX l n=none:=xI.2 fun x ad=>by
 obtain⟨j,eb,rfl⟩:=nj ad;have e:=cf eb;rcases Nat.lt_or_ge j i with J|J
 ·have:=h.2 j _ J e;omega
 ·have EP:i<l.length:=by omega
  have aC:=cf EP;have ao:=aw _ aC;rcases Nat.lt_or_ge i j with U|U
  ·have:=pt.1 bD i j EP eb U;omega
  ·obtain rfl:i=j:=by omega
   omega
theorem vE.ins{l:List bL}{n k:Int}{i:Nat}(h:vE l n i)(aw:∀c,l[i]? =some c→n<c.v):lu ⟨n,k⟩ l=l.take i++⟨n,k⟩::l.drop i:=S2 ⟨n,k⟩ l i (fun j y J U=>h.2 j y J U) (fun y aM=>by have:=aw y aM;simp;omega) h.1
theorem vE.step{l:List bL}{n:Int}{i:Nat}{b:bL}(h:vE l n i)(ae:l[i]? =some b)(aA:b.v<n):vE l n (i+1):=⟨(fw.1 ae).1,fun j y J U=>by
 rcases(by omega:j<i∨j=i)with ao|rfl
 ·exact h.2 j y ao U
 ·rw[ae]at U;cases U;exact aA⟩
theorem amK(l:List bL)(ar:l.length≤1000000)(bD:l.Pairwise fun x y=>x.v<y.v)(n k:Int):bK al 178 [.slice 2 .no (l.map bL.e),(T.var n).e,.int .i64 k] (ov l (j5 l (.var n) k)):=by
 generalize dh:j5 l (.var n) k=O;have dP:(match kX l n with|some bM=>if bM=k then some l else none|none=>some (lu ⟨n,k⟩ l))=O:=by rw[←dh];rfl
 clear dh;refine bm lY Bn CN fun aQ=>?_;unfold yM;simp;refine u7 [0,2,4] (fun(i:Nat)=>[(8,.int .i64 i)]) (fun i=>l.length-i) (vE l n) 0 bV ⟨by omega,fun j y h=>by omega⟩ (fun i af _=>?_);have ab:=af.1;by_cases hi:i<l.length
 ·obtain⟨b,ae,cy⟩:=dV hi;rcases Int.lt_trichotomy b.v n with h|h|h
  ·have ag:=af.step ae h;clear dP af ae bD;simp[hi,cy,h];((with_reducible repeat' first|refine aj ?_|simp[hi,cy,h]|((first|apply bR|apply bU|apply bT)<;>intro h<;>try simp at h))<;>(try exact cv));exact bO.whl (i+1) (by omega) ag bV
  ·have a8:kX l n=some b.k:=by rw[←h];exact Ft bD (eo ae)
   have J:¬b.v<n:=by omega
   have U:(b.v==n)=true:=by simp[h]
   rw[a8]at dP;simp only at dP;subst dP;clear af ae bD a8;simp[hi,cy,J,U];(with_reducible repeat' first|refine aj ?_|simp[hi,cy,J,U]);all_goals simp[bu,v8,aV,aW,aU]
   all_goals(by_cases e:b.k=k<;>simp[ov,e])
  ·have J:¬b.v<n:=by omega
   have U:(b.v==n)=false:=by simp;omega
   have aw:∀c,l[i]? =some c→n<c.v:=fun c aw=>by rw[ae]at aw;cases aw;exact h
   rw[af.none bD aw]at dP;simp only[af.ins aw]at dP;subst dP;clear af ae bD aw;simp[hi,cy,J,U];(with_reducible repeat' first|refine aj ?_|simp[hi,cy,J,U]);all_goals simp[bu,v8,aV,aW,aU]
   all_goals simp[ov]
   rw[hB (by simp:(l.map bL.e).length≤l.length),←List.map_take,←List.map_drop,←gM,←List.map_append];exact Ml _
 ·have aw:∀c,l[i]? =some c→n<c.v:=fun c aw=>by rw[p5 (by omega)]at aw;cases aw
  rw[af.none bD aw]at dP;simp only[af.ins aw]at dP;have EP:i=l.length:=by omega
  clear af bD aw;subst dP;subst EP;simp;(with_reducible repeat' first|refine aj ?_|simp);all_goals simp[bu,v8,aV,aW,aU]
  all_goals simp[ov]
  rw[hB (by simp:(l.map bL.e).length≤l.length),show [(⟨n,k⟩:bL).e]=[(⟨n,k⟩:bL)].map bL.e from rfl,←List.map_append];exact Ml _
theorem Xh(l:List bL)(ar:l.length≤1000000)(bD:l.Pairwise fun x y=>x.v<y.v)(t:T)(k:Int):bK al 178 [.slice 2 .no (l.map bL.e),t.e,.int .i64 k] (ov l (j5 l t k)):=by
 cases t with
 |var n=>exact amK l ar bD n k
 |nil=>
  refine bm lY Bn CN fun aQ=>?_;unfold yM;simp;(with_reducible repeat' first|refine aj ?_|simp);all_goals simp[bu,v8,aV,aW,aU]
  all_goals(by_cases e:0=k<;>simp[ov,j5,e])
 |sym n=>
  refine bm lY Bn CN fun aQ=>?_;unfold yM;simp;(with_reducible repeat' first|refine aj ?_|simp);all_goals simp[bu,v8,aV,aW,aU]
  all_goals(by_cases e:2=k<;>simp[ov,j5,e])
 |num n=>
  refine bm lY Bn CN fun aQ=>?_;unfold yM;simp;(with_reducible repeat' first|refine aj ?_|simp);all_goals simp[bu,v8,aV,aW,aU]
  all_goals(by_cases e:3=k<;>simp[ov,j5,e])
 |pair a b=>
  refine bm lY Bn CN fun aQ=>?_;unfold yM;simp;(with_reducible repeat' first|refine aj ?_|simp);all_goals simp[bu,v8,aV,aW,aU]
  all_goals(by_cases e:4=k<;>simp[ov,j5,e])
theorem Xx(s:List au)(v:Int):hh s (.var v)=cz s v:=rfl
theorem MM{s:List au}(ag:eP s){l:List bL}(ar:iU l):bK al 217 [.slice 5 .no (s.map au.e),.slice 2 .no (l.map bL.e)] (fU (fZ s l [])):=by
 have xp:=vF ar;refine bm lY acA aja fun aQ=>?_;unfold PW;simp;refine dW [0,11,12] (fun i (a:List bL)=>[(6,.slice 2 .no (a.map bL.e)),(13,.int .i64 i)]) l.length (S6 s l) [] bV ⟨⟨by simp,by simp⟩,rfl⟩ (fun a af _=>?_) (fun i a hi af _=>?_)
 ·obtain⟨_,af⟩:=af;rw[List.drop_length]at af;simp only[fZ]at af;rw[←af];simp;(with_reducible repeat' first|refine aj ?_|simp);simp[bu,LK,aV,aW,aU];simp[fU]
 ·obtain⟨bD,af⟩:=af;obtain⟨b,ae,cy⟩:=dV hi;have n7:=ar.at' b (eo ae);rw[k5 hi,cy]at af;simp only[fZ]at af;have kW:=G8 s ag.len (.var b.v);rw[Xx]at kW;have gf:=Xh a (by have:=vF bD;omega) bD.asc (cz s b.v) b.k;simp[hi,cy];cases dP:j5 a (cz s b.v) b.k with
  |none=>rw[dP]at af gf;simp only at af;rw[←af];simp only[ov]at gf;(with_reducible repeat' first|refine aj ?_|refine aE (j3 _) ?_|refine aF (j3 _) ?_|refine aE kW ?_|refine aF kW ?_|refine aE gf ?_|refine aF gf ?_|simp[cy,hi]);simp[bu,LK,aV,aW,aU];simp[fU]
  |some bn=>rw[dP]at af gf;simp only[ov]at gf;(with_reducible repeat' first|refine aj ?_|refine aE (j3 _) ?_|refine aF (j3 _) ?_|refine aE kW ?_|refine aF kW ?_|refine aE gf ?_|refine aF gf ?_|simp[cy,hi]);exact bO.rng bn hi ⟨Hw bD (Az ag n7.1) n7.2 dP,af⟩ bV
open Classical in
theorem amT(l:List bg):bK al 145 [.slice 2 .no (l.map bg.e)] (.bool (decide (h8 l))):=by
 generalize a1:decide (h8 l)=R;refine bm lY ab8 aiL fun aQ=>?_;unfold Pw;have eI:l.length≤68719476736:=by simp[eD,ef,et,lim]at aQ;omega
 simp;refine dW [0,5,6] (fun i (_:Unit)=>[(7,.int .i64 i)]) l.length (fun i _=> ∀j,j<i→h4 j0 kn l j) () bV (fun k ab=>by omega) (fun _ af _=>?_) (fun i _ hi af _=>?_)
 ·have:R=true:=by rw[←a1,fm,FH];exact af
  rw[this];exact b6
 ·obtain⟨b,ae⟩:∃b,l[i]? =some b:=⟨_,cf hi⟩;obtain⟨c,aw⟩:∃c,l[i-1]? =some c:=⟨_,cf (by omega)⟩;have cy:∀h,(l[i]'h)=b:=fun h=>by rw[cf hi]at ae;exact fl ae
  have dg:¬h4 j0 kn l i→R=false:=fun h=>by rw[←a1,gr];exact fun cr=>h (FH.1 cr i hi)
  have cO:h4 j0 kn l i→∀j,j<i+1→h4 j0 kn l j:=fun h j jd=>by
   by_cases e:j=i
   ·rw[e];exact h
   ·exact af j (by omega)
  have gv:∀p:Prop,(p→eR)→(h4 j0 kn l i→p)→R=false:=fun p J U=>dg fun h=>J (U h);have o5:h4 j0 kn l i→j0 b:=fun h=>(h b ae).1;have bA:h4 j0 kn l i→0<i→hG fa c b=true:=fun h bq=>by simpa[hG,kn]using(h b ae).2 c bq aw
  have eX:j0 b→(0<i→hG fa c b=true)→h4 j0 kn l i:=fun J U b2 fI=>by rw[ae]at fI;cases fI;exact⟨J,fun cq bq hv=>by rw[aw]at hv;cases hv;simpa[hG,kn]using U bq⟩
  unfold j0 at o5 eX;by_cases g4:0<i
  ·cases g5:hG fa c b
   ·rw[gv _ (fun h=>by rw[h]at g5;cases g5) (fun h=>bA h g4)];simp[hi,cy,aw];(with_reducible repeat' first|refine aj ?_|refine aE (lE _ _) ?_|refine aF (lE _ _) ?_|simp[cy,aw,hi,g4,g5]);all_goals simp[bu,Ak,aV,aW,aU]
   ·by_cases g1:0≤b.v∧b.v≤100000;rotate_left
    ·rw[gv _ (fun h=>g1 h) (fun h=>(o5 h).1)];have kQ:decide (0≤b.v∧b.v≤100000)=false:=by simp only[gr];exact g1
     simp[hi,cy,aw];(with_reducible repeat' first|refine aj ?_|refine aE (lE _ _) ?_|refine aF (lE _ _) ?_|refine aE (dt _ _ _) ?_|refine aF (dt _ _ _) ?_|simp[cy,aw,hi,g4,g5,kQ,g1]);all_goals simp[bu,Ak,aV,aW,aU]
    have kQ:decide (0≤b.v∧b.v≤100000)=true:=by simp only[fm];exact g1
    cases g3:jv b.s
    ·rw[gv _ (fun h=>by rw[h]at g3;cases g3) (fun h=>(o5 h).2)];have ca:=gS b.s;rw[g3]at ca;simp[hi,cy,aw];(with_reducible repeat' first|refine aj ?_|refine aE (lE _ _) ?_|refine aF (lE _ _) ?_|refine aE (dt _ _ _) ?_|refine aF (dt _ _ _) ?_|refine aE ca ?_|refine aF ca ?_|simp[cy,aw,hi,g4,g5,kQ,g1]);all_goals simp[bu,Ak,aV,aW,aU]
    have ca:=gS b.s;rw[g3]at ca;have dB:=cO (eX ⟨g1,g3⟩ fun _=>g5);simp[hi,cy,aw];(with_reducible repeat' first|refine aj ?_|refine aE (lE _ _) ?_|refine aF (lE _ _) ?_|refine aE (dt _ _ _) ?_|refine aF (dt _ _ _) ?_|refine aE ca ?_|refine aF ca ?_|simp[cy,aw,hi,g4,g5,kQ,g1]);all_goals exact bO.rng () hi dB bV
  ·obtain rfl:i=0:=by omega
   by_cases g1:0≤b.v∧b.v≤100000;rotate_left
   ·rw[gv _ (fun h=>g1 h) (fun h=>(o5 h).1)];have kQ:decide (0≤b.v∧b.v≤100000)=false:=by simp only[gr];exact g1
    simp[hi,cy,aw];(with_reducible repeat' first|refine aj ?_|refine aE (lE _ _) ?_|refine aF (lE _ _) ?_|refine aE (dt _ _ _) ?_|refine aF (dt _ _ _) ?_|simp[cy,aw,hi,g4,kQ,g1]);all_goals simp[bu,Ak,aV,aW,aU]
   have kQ:decide (0≤b.v∧b.v≤100000)=true:=by simp only[fm];exact g1
   cases g3:jv b.s
   ·rw[gv _ (fun h=>by rw[h]at g3;cases g3) (fun h=>(o5 h).2)];have ca:=gS b.s;rw[g3]at ca;simp[hi,cy,aw];(with_reducible repeat' first|refine aj ?_|refine aE (lE _ _) ?_|refine aF (lE _ _) ?_|refine aE (dt _ _ _) ?_|refine aF (dt _ _ _) ?_|refine aE ca ?_|refine aF ca ?_|simp[cy,aw,hi,g4,kQ,g1]);all_goals simp[bu,Ak,aV,aW,aU]
   have ca:=gS b.s;rw[g3]at ca;have dB:=cO (eX ⟨g1,g3⟩ fun h=>absurd h g4);simp[hi,cy,aw];(with_reducible repeat' first|refine aj ?_|refine aE (lE _ _) ?_|refine aF (lE _ _) ?_|refine aE (dt _ _ _) ?_|refine aF (dt _ _ _) ?_|refine aE ca ?_|refine aF ca ?_|simp[cy,aw,hi,g4,kQ,g1]);all_goals exact bO.rng () hi dB bV
def o3(s:List dz)(bc:List Int)(l:List bg):List bg:=bc.foldl (fun a v=>jY fa ⟨v,s⟩ a) l
theorem IP(s:List dz):∀(bc:List Int) {l:List bg},hH fa l→hH fa (o3 s bc l)
 |[],_,h=>h
 |v::bc,_,h=>IP s bc (J2 lA h)
theorem Ub(s:List dz){x:bg}:∀(bc:List Int) {l:List bg},x∈o3 s bc l↔x∈l∨(x.s=s∧x.v∈bc)
 |[],l=>by simp[o3]
 |v::bc,l=>by
  have:=Ub s (x:=x) bc (l:=jY fa ⟨v,s⟩ l);rw[show o3 s (v::bc) l=o3 s bc (jY fa ⟨v,s⟩ l)from rfl,this,FK lA,fK];constructor
  ·rintro((rfl|h)|⟨J,U⟩)
   ·exact .inr ⟨rfl,.inl rfl⟩
   ·exact .inl h
   ·exact .inr ⟨J,.inr U⟩
  ·rintro(h|⟨J,U|U⟩)
   ·exact .inl (.inr h)
   ·refine .inl (.inl ?_);cases x;simp_all
   ·exact .inr ⟨J,U⟩
theorem Q5(s:List dz):∀(bc:List Int) (l:List bg),(o3 s bc l).length≤l.length+bc.length
 |[],l=>by simp[o3]
 |v::bc,l=>by have J:=Q5 s bc (jY fa ⟨v,s⟩ l);have U:=J4 (c:=fa) (⟨v,s⟩:bg) l;rw[show o3 s (v::bc) l=o3 s bc (jY fa ⟨v,s⟩ l)from rfl];simp only[oJ];omega
theorem acK{t:T}{s:List dz}(cS:t.has s=false){l:List bg}(bD:hH fa l):lH l t s=some (o3 s (iq t []) l):=Hx cS (IP s _ bD) fun x=>by rw[Ub,FM];simp
def Ck(l:List bg)(bc:List Int)(s:List dz)(i:Nat)(a:List bg):Prop:=a=o3 s (bc.take i) l
def zD(a:List bg)(m:bg)(k:Nat):Prop:=k≤a.length∧∀j y,j<k→a[j]? =some y→fa y m<0
theorem zD.step{a:List bg}{m:bg}{k:Nat}{b:bg}(h:zD a m k)(ae:a[k]? =some b)(aA:fa b m<0):zD a m (k+1):=⟨(fw.1 ae).1,fun j y J U=>by
 rcases(by omega:j<k∨j=k)with ao|rfl
 ·exact h.2 j y ao U
 ·rw[ae]at U;cases U;exact aA⟩
theorem zD.fin{a:List bg}{m:bg}{k:Nat}(h:zD a m k)(aw:∀y,a[k]? =some y→0≤fa y m):jY fa m a=if(match a[k]? with|some y=>decide (fa y m=0)|none=>false)=true then a else a.take k++m::a.drop k:=(J3 lA m a k (fun j y J U=>h.2 j y J U) aw h.1).trans (by cases a[k]?<;>rfl)
theorem Um(a:List bg)(k:Nat)(m:bg):jQ k (a.map bg.e)++m.e::my k (a.map bg.e)=(a.take k++m::a.drop k).map bg.e:=by simp
theorem zT(a:List bg)(k:Nat)(m:bg):cY (jQ k (a.map bg.e)++m.e::my k (a.map bg.e))=jQ k (a.map bg.e)++m.e::my k (a.map bg.e):=by rw[Um,Mm]
theorem zS(S:aD→Prop)(a:List bg)(k:Nat)(m:bg):aG S (jQ k (a.map bg.e)++m.e::my k (a.map bg.e))=True:=by rw[Um,TE]
theorem Ul(a:List bg)(m:bg):a.map bg.e++[m.e]=(a++[m]).map bg.e:=by simp
theorem zR(a:List bg)(m:bg):cY (a.map bg.e++[m.e])=a.map bg.e++[m.e]:=by rw[Ul,Mm]
theorem zQ(S:aD→Prop)(a:List bg)(m:bg):aG S (a.map bg.e++[m.e])=True:=by rw[Ul,TE]
theorem amL(l:List bg)(ar:l.length≤68719470000)(t:T)(aL:t.size≤5000)(s:List dz)(bD:hH fa l):bK al 179 [.slice 2 .no (l.map bg.e),t.e,.str s] (iY (lH l t s)):=by
 have kk:=ML s t;cases cS:t.has s;rotate_left
 ·have bq:lH l t s=none:=by simp[lH,cS]
  rw[bq];rw[cS]at kk;refine bm lY QW UO fun aQ=>?_;unfold H8;simp;(with_reducible repeat' first|refine aj ?_|refine aE kk ?_|refine aF kk ?_|simp);all_goals simp[bu,LL,aV,aW,aU]
  all_goals simp[iY]
 ·rw[cS]at kk;have dP:=acK cS bD;have pM:=Ds t [];have pb:=G7 t [] (by simp;omega) (by simp[th]);have Ja:du []=[]:=rfl;rw[Ja]at pb;rw[dP];clear dP cS;generalize iq t []=bc at pb pM⊢;have kE:bc.length≤5000:=by simp at pM;omega
  generalize gG:o3 s bc l=F;refine bm lY QW UO fun aQ=>?_;unfold H8;simp;(with_reducible repeat' first|refine aj ?_|refine aE kk ?_|refine aF kk ?_|refine aE pb ?_|refine aF pb ?_|simp[eY]);refine dW [2,17,18] (fun i (a:List bg)=>[(0,.slice 2 .no (a.map bg.e)),(19,.int .i64 i)]) bc.length (Ck l bc s) l ⟨by simp[fresh,aG,aB,cg,inObs,Pv.look,eY],ec (by simp[fresh,aG,aB,cg,inObs,Pv.look,eY]),ed (by simp[fresh,aG,aB,dR,inObs,Pv.look,eY]),by simp⟩ (by simp[Ck,o3]) (fun a af _=>?_) (fun i a hi af _=>?_)
  ·rw[Ck,k6,gG]at af;subst af;simp[eY];(with_reducible repeat' first|refine aj ?_|simp[eY]);all_goals simp[bu,LL,aV,aW,aU]
   all_goals simp[iY]
  ·obtain⟨v,aJ⟩:∃v,bc[i]? =some v:=⟨_,cf hi⟩;have qw:∀h,((du bc)[i]'h)= .int .i64 v:=fun cr=>by have:=Ch bc i;rw[aJ,cf cr]at this;exact fl this
   have q8:hH fa a:=by rw[af];exact IP s _ bD
   have q9:a.length≤68719475000:=by have:=Q5 s (bc.take i) l;rw[af];simp at this⊢;omega
   have fp:Ck l bc s (i+1) (jY fa ⟨v,s⟩ a):=by rw[Ck,nR,aJ,af];simp[o3]
   generalize hm:(⟨v,s⟩:bg)=m at fp;have aeM:m.v=v:=by rw[←hm]
   have tX:m.s=s:=by rw[←hm]
   subst aeM;subst tX;clear af gG;simp[hi,qw,eY];(with_reducible repeat' first|refine aj ?_|simp[hi,qw,eY]);refine u7 [0,2,10,17,18,19] (fun(k:Nat)=>[(11,.int .i64 k)]) (fun k=>a.length-k) (zD a m) 0 ⟨by simp[fresh,aG,aB,cg,inObs,Pv.look,eY],ec (by simp[fresh,aG,aB,cg,inObs,Pv.look,eY]),ed (by simp[fresh,aG,aB,dR,inObs,Pv.look,eY]),by simp⟩ ⟨by omega,fun j y h=>by omega⟩ (fun k af _=>?_);have ab:=af.1;by_cases hn:k<a.length
   ·obtain⟨b,ae,cy⟩:=dV hn;cases bA:hG fa b m
    ·have tT:0≤fa b m:=by simpa[hG]using bA
     have dB:=af.fin (fun y aM=>by rw[ae]at aM;cases aM;exact tT);rw[ae]at dB;cases EO:hG fa m b
     ·have hle:0≤fa m b:=by simpa[hG]using EO
      have bq:fa b m=0:=by have:=lA.neg b m;omega
      rw[if_pos (by simp[bq])]at dB;rw[dB]at fp;clear af ae dB q9 q8;simp[hn,cy];((with_reducible repeat' first|refine aj ?_|refine aE (lE _ _) ?_|refine aF (lE _ _) ?_|simp[hn,cy,bA,EO]|((first|apply bR|apply bU|apply bT)<;>intro h<;>try simp at h))<;>(try exact cv));all_goals exact bO.rng a hi fp ⟨by simp[fresh,aG,aB,cg,inObs,Pv.look,eY],ec (by simp[fresh,aG,aB,cg,inObs,Pv.look,eY]),ed (by simp[fresh,aG,aB,dR,inObs,Pv.look,eY]),by simp⟩
     ·have hle:fa m b<0:=by simpa[hG]using EO
      have bq:¬fa b m=0:=by have:=lA.neg b m;omega
      rw[if_neg (by simp[bq])]at dB;rw[dB]at fp;clear af ae dB q8;simp[hn,cy];((with_reducible repeat' first|refine aj ?_|refine aE (lE _ _) ?_|refine aF (lE _ _) ?_|simp[hn,cy,bA,EO]|((first|apply bR|apply bU|apply bT)<;>intro h<;>try simp at h))<;>(try exact cv));all_goals first|(refine⟨by unfold lim;omega,?_⟩)|skip
      all_goals(with_reducible repeat' first|refine aj ?_|simp)
      all_goals first|(refine⟨by unfold lim;omega,?_⟩)|skip
      all_goals((with_reducible repeat' first|refine aj ?_|simp|((first|apply bR|apply bU|apply bT)<;>intro h<;>try simp at h))<;>(try exact cv))
      all_goals exact bO.rng _ hi fp ⟨by simp[fresh,aG,aB,cg,inObs,Pv.look,eY,hB,zT,zS,zR,zQ],ec (by simp[fresh,aG,aB,cg,inObs,Pv.look,eY,hB,zT,zS,zR,zQ]),ed (by simp[fresh,aG,aB,dR,inObs,Pv.look,eY,hB,zT,zS,zR,zQ]),by simp⟩
    ·have vp:fa b m<0:=by simpa[hG]using bA
     have ag:=af.step ae vp;clear af ae q8 fp;simp[hn,cy];((with_reducible repeat' first|refine aj ?_|refine aE (lE _ _) ?_|refine aF (lE _ _) ?_|simp[hn,cy,bA]|((first|apply bR|apply bU|apply bT)<;>intro h<;>try simp at h))<;>(try exact cv));all_goals exact bO.whl (k+1) (by omega) ag ⟨by simp[fresh,aG,aB,cg,inObs,Pv.look,eY],ec (by simp[fresh,aG,aB,cg,inObs,Pv.look,eY]),ed (by simp[fresh,aG,aB,dR,inObs,Pv.look,eY]),by simp⟩
   ·have dB:=af.fin (fun y aM=>by rw[p5 (by omega)]at aM;cases aM);rw[p5 (by omega)]at dB;simp only[gT,if_false]at dB;rw[dB]at fp;have ik:k=a.length:=by omega
    clear af dB q8;subst ik;simp;(with_reducible repeat' first|refine aj ?_|simp);all_goals first|(refine⟨by unfold lim;omega,?_⟩)|skip
    all_goals(with_reducible repeat' first|refine aj ?_|simp)
    all_goals first|(refine⟨by unfold lim;omega,?_⟩)|skip
    all_goals(with_reducible repeat' first|refine aj ?_|simp)
    all_goals exact bO.rng _ hi fp ⟨by simp[fresh,aG,aB,cg,inObs,Pv.look,eY,hB,zT,zS,zR,zQ],ec (by simp[fresh,aG,aB,cg,inObs,Pv.look,eY,hB,zT,zS,zR,zQ]),ed (by simp[fresh,aG,aB,dR,inObs,Pv.look,eY,hB,zT,zS,zR,zQ]),by simp⟩
theorem MN{s:List au}(ag:eP s){l:List bg}(ar:h8 l){G:List (List dz)}(mL:G.length≤687000)(a8:nf G l):bK al 218 [.slice 5 .no (s.map au.e),.slice 2 .no (l.map bg.e)] (iY (ga s l [])):=by
 have hlen:∀{a:List bg},h8 a→nf G a→a.length≤68719470000:=fun J U=>by have:=Cx J U;omega
 have xp:=hlen ar a8;refine bm lY acB ajb fun aQ=>?_;unfold PX;simp;refine dW [0,11,12] (fun i (a:List bg)=>[(6,.slice 2 .no (a.map bg.e)),(13,.int .i64 i)]) l.length (S7 s G l) [] bV ⟨⟨by simp,by simp[hH]⟩,fun x ad=>by simp at ad,rfl⟩ (fun a af _=>?_) (fun i a hi af _=>?_)
 ·obtain⟨_,_,af⟩:=af;rw[List.drop_length]at af;simp only[ga]at af;rw[←af];simp;(with_reducible repeat' first|refine aj ?_|simp);simp[bu,LM,aV,aW,aU];simp[iY]
 ·obtain⟨bD,Ca,af⟩:=af;obtain⟨b,ae,cy⟩:=dV hi;have n7:=ar.at' b (eo ae);have Jf:=a8 b (eo ae);rw[k5 hi,cy]at af;simp only[ga]at af;have kW:=G8 s ag.len (.var b.v);rw[Xx]at kW;have gf:=amL a (hlen bD Ca) (cz s b.v) (Dc ag b.v) b.s bD.asc;simp[hi,cy];cases dP:lH a (cz s b.v) b.s with
  |none=>rw[dP]at af gf;simp only at af;rw[←af];simp only[iY]at gf;(with_reducible repeat' first|refine aj ?_|refine aE (j3 _) ?_|refine aF (j3 _) ?_|refine aE kW ?_|refine aF kW ?_|refine aE gf ?_|refine aF gf ?_|simp[cy,hi]);simp[bu,LM,aV,aW,aU];simp[iY]
  |some bn=>rw[dP]at af gf;simp only[iY]at gf;(with_reducible repeat' first|refine aj ?_|refine aE (j3 _) ?_|refine aF (j3 _) ?_|refine aE kW ?_|refine aF kW ?_|refine aE gf ?_|refine aF gf ?_|simp[cy,hi]);exact bO.rng bn hi ⟨Hy bD (Az ag n7.1) n7.2 dP,Hz Ca Jf dP,af⟩ bV
theorem alw{s:List au}(av:pX s)(bD:iu s)(aH:hs s):gE (s.map au.b)=s.all (l2 s):=by
 rw[p4,ir,qJ,←Wm bD];constructor
 ·rintro⟨ai,J,U,ao,a7⟩;rw[uW J];exact ao
 ·intro ao;exact⟨s,rfl,av,ao,aH⟩
theorem Yx{s:List au}(bD:iu s)(b:au):l2 s b=true↔(∀v∈iq b.t [],df s v=none)∧(b.t.kind==1&&decide (b.v≤b.t.int))=false:=by unfold l2;rw[cA,Q6 bD];simp only[true_and,Bool.not_eq_true',FM,List.not_mem_nil,or_false]
def Cj(s:List au)(bc:List Int)(i:Nat)(_:Unit):Prop:= ∀v∈bc.take i,df s v=none
theorem Cj.step{s:List au}{bc:List Int}{i:Nat}(h:Cj s bc i ()){v:Int}(aJ:bc[i]? =some v)(aA:df s v=none):Cj s bc (i+1) ():=fun w hw=>by
 rw[nR,aJ]at hw;simp only[jP,Option.toList_some,List.mem_singleton]at hw;rcases hw with hw|rfl
 ·exact h w hw
 ·exact aA
theorem MP(l:List cX):bK al 142 [.slice 5 .no (l.map cX.e)] (.bool (gE l)):=by
 have aJ:=amA l;by_cases h:yA l;rotate_left
 ·have bq:gE l=false:=by unfold gE;simp only[gr];rintro⟨s,J,U,ao,a7⟩;exact h (Hc.2 ⟨s,J,U,ao.asc,a7⟩)
  rw[bq];refine bm eE QV UN fun aQ=>?_;unfold H7;exact b6
 ·obtain⟨s,rfl,av,bD,aH⟩:=Hc.1 h;have ar:s.length≤1000000:=by have:=aH.1;omega
  rw[alw av bD aH];rw[xQ]at aJ⊢;simp only[h,decide_true]at aJ;clear h;generalize a1:s.all (l2 s)=R;refine bm eE QV UN fun aQ=>?_;unfold H7;simp;(with_reducible repeat' first|refine aj ?_|refine aE aJ ?_|refine aF aJ ?_|simp);refine dW [0,12,13] (fun i (_:Unit)=>[(14,.int .i64 i)]) s.length (oo (l2 s) s) () bV (fun k b ab=>by omega) (fun _ af _=>?_) (fun i _ hi af _=>?_)
  ·have:R=true:=by rw[←a1,ir];intro b ae;obtain⟨k,ab,e⟩:=nj ae;exact af k b ab (by rw[cf ab,e])
   rw[this];exact b6
  ·obtain⟨b,ae,cy⟩:=dV hi;have gv:¬l2 s b=true→R=false:=fun h=>by rw[←a1,Bool.eq_false_iff];intro cr;rw[ir]at cr;exact h (cr b (eo ae))
   have rh:l2 s b=true→oo (l2 s) s (i+1) ():=fun h=>af.step ae h;have jq:=Yx bD b;have eh:=aH.2 b (eo ae);have pM:=Ds b.t [];have pb:=G7 b.t [] (by simp;omega) (by simp[th]);have Ja:du []=[]:=rfl;rw[Ja]at pb;generalize iq b.t []=bc at pb pM jq;have kE:bc.length≤5000:=by simp at pM;omega
   rw[jq]at gv rh;clear jq af pM ae;simp[hi,cy];cases ab:(b.t.kind==1&&decide (b.v≤b.t.int));rotate_left
   ·rw[gv (by rw[ab];simp)];rw[cA]at ab;have gm:=ab.1;have kS:b.v≤b.t.int:=of_decide_eq_true ab.2;exact b6
   ·rw[ab]at gv rh;simp only[and_true]at gv rh;cases gm:(b.t.kind==1)
    ·clear ab;(with_reducible repeat' first|refine aj ?_|refine aE pb ?_|refine aF pb ?_|simp[cy,hi,eY,gm]);refine dW [0,12,13,14,32,33] (fun j (_:Unit)=>[(34,.int .i64 j)]) bc.length (Cj s bc) () ⟨by simp[fresh,aG,aB,cg,inObs,Pv.look,eY],ec (by simp[fresh,aG,aB,cg,inObs,Pv.look,eY]),ed (by simp[fresh,aG,aB,dR,inObs,Pv.look,eY]),by simp⟩ (fun v aJ=>by simp at aJ) (fun _ af _=>?_) (fun j _ eb af _=>?_)
     ·have a8:=rh (fun v aJ=>af v (by rwa[k6]));simp[eY];(with_reducible repeat' first|refine aj ?_|simp[eY]);exact bO.rng () hi a8 ⟨by simp[fresh,aG,aB,cg,inObs,Pv.look,eY],ec (by simp[fresh,aG,aB,cg,inObs,Pv.look,eY]),ed (by simp[fresh,aG,aB,dR,inObs,Pv.look,eY]),by simp⟩
     ·obtain⟨v,aJ⟩:∃v,bc[j]? =some v:=⟨_,cf eb⟩;have qw:∀h,((du bc)[j]'h)= .int .i64 v:=fun cr=>by have:=Ch bc j;rw[aJ,cf cr]at this;exact fl this
      have jw:=uS s v ar;cases gX:df s v with
      |none=>have aA:=af.step aJ gX;rw[gX]at jw;simp only[nl,l0]at jw;clear af rh gv gX;simp[eb,qw,eY];(with_reducible repeat' first|refine aj ?_|refine aE jw ?_|refine aF jw ?_|simp[eb,qw,eY]);exact bO.rng () eb aA ⟨by simp[fresh,aG,aB,cg,inObs,Pv.look,eY],ec (by simp[fresh,aG,aB,cg,inObs,Pv.look,eY]),ed (by simp[fresh,aG,aB,dR,inObs,Pv.look,eY]),by simp⟩
      |some x=>rw[gv (fun h=>by have:=h v (eo aJ);rw[gX]at this;cases this)];rw[gX]at jw;simp only[k7,r5]at jw;clear af rh gv gX;simp[eb,qw,eY];(with_reducible repeat' first|refine aj ?_|refine aE jw ?_|refine aF jw ?_|simp[eb,qw,eY]);simp[bu,LB,aV,aW,aU]
    ·have kS:¬b.v≤b.t.int:=by rw[gm]at ab;simpa using ab
     clear ab;(with_reducible repeat' first|refine aj ?_|refine aE pb ?_|refine aF pb ?_|simp[cy,hi,eY,gm,kS]);refine dW [0,12,13,14,32,33] (fun j (_:Unit)=>[(34,.int .i64 j)]) bc.length (Cj s bc) () ⟨by simp[fresh,aG,aB,cg,inObs,Pv.look,eY],ec (by simp[fresh,aG,aB,cg,inObs,Pv.look,eY]),ed (by simp[fresh,aG,aB,dR,inObs,Pv.look,eY]),by simp⟩ (fun v aJ=>by simp at aJ) (fun _ af _=>?_) (fun j _ eb af _=>?_)
     ·have a8:=rh (fun v aJ=>af v (by rwa[k6]));simp[eY];(with_reducible repeat' first|refine aj ?_|simp[eY]);exact bO.rng () hi a8 ⟨by simp[fresh,aG,aB,cg,inObs,Pv.look,eY],ec (by simp[fresh,aG,aB,cg,inObs,Pv.look,eY]),ed (by simp[fresh,aG,aB,dR,inObs,Pv.look,eY]),by simp⟩
     ·obtain⟨v,aJ⟩:∃v,bc[j]? =some v:=⟨_,cf eb⟩;have qw:∀h,((du bc)[j]'h)= .int .i64 v:=fun cr=>by have:=Ch bc j;rw[aJ,cf cr]at this;exact fl this
      have jw:=uS s v ar;cases gX:df s v with
      |none=>have aA:=af.step aJ gX;rw[gX]at jw;simp only[nl,l0]at jw;clear af rh gv gX;simp[eb,qw,eY];(with_reducible repeat' first|refine aj ?_|refine aE jw ?_|refine aF jw ?_|simp[eb,qw,eY]);exact bO.rng () eb aA ⟨by simp[fresh,aG,aB,cg,inObs,Pv.look,eY],ec (by simp[fresh,aG,aB,cg,inObs,Pv.look,eY]),ed (by simp[fresh,aG,aB,dR,inObs,Pv.look,eY]),by simp⟩
      |some x=>rw[gv (fun h=>by have:=h v (eo aJ);rw[gX]at this;cases this)];rw[gX]at jw;simp only[k7,r5]at jw;clear af rh gv gX;simp[eb,qw,eY];(with_reducible repeat' first|refine aj ?_|refine aE jw ?_|refine aF jw ?_|simp[eb,qw,eY]);simp[bu,LB,aV,aW,aU]
theorem Xn{s:List au}(h:eP s):bK al 142 [.slice 5 .no (s.map au.e)] (.bool true):=by have:=MP (s.map au.b);rw[xQ,qJ.2 ⟨s,rfl,h.ok,h.sol,h.fits⟩]at this;exact this
def yN:C:=(aa [cM 2 0,bf 4 false] (.seq (aa [aI 7 3 1 2,ax 8 1 7,cb 9 8,bQ 10 0] (e4 11 10 9 (.seq (.block 1 (aa [cp 12 4 8 10,be 13 4 12,dH 6 dS,bW 4 6 13] (aa [be 14 4 6,I 15 1,cd 16 136 14 15,cx 17 16] (aT 17 (aa [bf 4 false] .ret) .skip)))) (.region [aS 18 .add 10 1,I 10 18])))) (aa [aI 19 0 1 2,ax 20 1 19,aS 21 .neq 20 1,I 22 21,aq 22 false (aI 23 1 1 2),aq 22 false (ax 24 1 23),b4 22 false 25 1,aq 22 false (bk 26 .lss 24 25),dc 27 22 26,I 4 27] .ret)))
@[simp] def wa:List bt:=[.tmp 4]
def PT:C:=(aa [bf 2 false] (.seq (aa [I 5 0,cb 6 5,bQ 7 0] (e4 8 7 6 (.seq (.block 1 (aa [cp 9 1 5 7,ax 10 1 9,I 4 10] (aa [I 11 4,cQ 12 142 11,cx 13 12] (aT 13 (aa [bf 2 false] .ret) .skip)))) (.region [aS 14 .add 7 1,I 7 14])))) (aa [bf 2 true] .ret)))
@[simp] def akw:List bt:=[.tmp 2]
def PY:C:=(aa [bf 4 false] (.seq (aa [I 7 0,cb 8 7,bQ 9 0] (e4 10 9 8 (.seq (.block 1 (aa [cp 11 5 7 9,be 12 5 11,dH 6 jZ,bW 5 6 12] (aa [aI 13 0 1 6,ax 14 1 13,I 15 1,bk 16 .geq 14 15,I 17 16,aq 17 false (fY 18 1 4 6),aq 17 false (be 19 4 18),b4 17 false 20 1,aq 17 false (cd 21 136 19 20),aq 17 false (cx 22 21),dc 23 17 22] (aT 23 (aa [bf 4 false] .ret) .skip)))) (.region [aS 24 .add 9 1,I 9 24])))) (aa [bf 4 true] .ret)))
@[simp] def akz:List bt:=[.tmp 4]
def PS:C:=(aa [ez 4 5] (aa [fk 10 5 61 [],I 5 10] (.seq (aa [I 11 1,cb 12 11,bQ 13 0] (e4 14 13 12 (.seq (.block 1 (aa [cp 15 5 11 13,be 16 5 15,dH 7 jZ,bW 5 7 16] (aa [I 18 0,aI 19 0 1 7,ax 20 1 19,cd 21 161 18 20,I 17 21,c2 22 0 17,c2 23 1 17,dH 8 dS,bW 4 8 22,I 9 23] (aa [I 24 9,cx 25 24] (aT 25 (.region [I 26 5,be 27 5 7,fk 28 5 61 [.t 27],iN 29 5 61 26 28,I 5 29]) .skip))))) (.region [aS 30 .add 13 1,I 13 30])))) (aa [I 31 5,I 4 31] .ret))))
@[simp] def akv:List bt:=[.tmp 4]
def PU:C:=(aa [bQ 4 0] (.seq (aa [bQ 5 0] (.block 0 (.loop (.seq (aa [I 7 5,I 8 0,cb 9 8,bk 10 .lss 7 9,I 11 10,b4 11 true 12 5,b4 11 true 13 1,aq 11 true (cb 14 13),aq 11 true (bk 15 .lss 12 14),dK 16 11 15] (aT 16 .skip (.exit 0))) (.seq (.block 1 (.seq (.seq (.drawn true 67 [I 19 0,I 20 5,cp 21 5 19 20,aI 22 0 1 21,ax 23 1 22,I 24 1,I 25 5,cp 26 5 24 25,aI 27 0 1 26,ax 28 1 27,bk 29 .neq 23 28]) (aT 29 (.seq (.drawn true 67 [I 30 0,I 31 5,cp 32 5 30 31,aI 33 0 1 32,ax 34 1 33,I 35 1,I 36 5,cp 37 5 35 36,aI 38 0 1 37,ax 39 1 38,bk 40 .lss 34 39,cQ 41 238 40,I 4 41]) .ret) .skip)) (.seq (.drawn true 67 [I 42 0,I 43 5,cp 44 5 42 43,fY 45 1 4 44,be 46 4 45,I 47 1,I 48 5,cp 49 5 47 48,fY 50 1 4 49,be 51 4 50,cd 52 229 46 51,I 6 52]) (aa [I 53 6,aS 54 .neq 53 0] (aT 54 (aa [I 55 6,I 4 55] .ret) .skip))))) (.region [I 17 5,aS 18 .add 17 1,I 5 18])))))) (.seq (aa [I 56 0,cb 57 56,I 58 1,cb 59 58,bk 60 .neq 57 59] (aT 60 (aa [I 61 0,cb 62 61,I 63 1,cb 64 63,bk 65 .lss 62 64,cQ 66 238 65,I 4 66] .ret) .skip)) (aa [bQ 4 0] .ret))))
@[simp] def C0:List bt:=[.tmp 4]
def PV:C:=(aa [ez 2 1] (aa [fk 11 1 23 [],I 3 11] (.seq (.seq (.fg false 3 (.region [I 12 0,cb 13 12,bQ 14 0])) (e4 15 14 13 (.seq (.block 1 (aa [cp 16 1 12 14,ax 17 1 16,I 5 17] (aa [bf 6 true] (.seq (aa [I 18 0,cb 19 18,bQ 20 0] (.block 2 (.loop (aa [bk 21 .lss 20 19] (.seq (aT 21 .skip (.exit 2)) (.seq (.block 3 (aa [cp 22 1 18 20,ax 23 1 22,I 8 23] (.region [I 24 6,I 25 24,b4 25 true 26 8,b4 25 true 27 5,aq 25 true (cd 28 180 26 27),aq 25 true (aS 29 .eql 28 0),b4 25 true 30 29,b4 30 false 31 8,b4 30 false 32 5,aq 30 false (cd 33 269 31 32),aq 30 false (cx 34 33),aq 25 true (dc 35 30 34),dK 36 25 35,I 6 36]))) (.region [aS 37 .add 20 1,I 20 37]))))))) (aa [I 38 3,cb 39 38,I 9 39] (.seq (.block 4 (.loop (.seq (aa [I 40 9,aS 41 .gtr 40 0,I 42 41,b4 42 true 43 3,b4 42 true 44 9,aq 42 true (aS 45 .sub 44 1),aq 42 true (cp 46 1 43 45),aq 42 true (ax 47 1 46),b4 42 true 48 5,aq 42 true (cd 49 180 47 48),aq 42 true (aS 50 .geq 49 0),dK 51 42 50] (aT 51 .skip (.exit 4))) (.block 5 (.region [I 52 9,aS 53 .sub 52 1,I 9 53]))))) (aa [I 54 6,I 55 54,b4 55 true 56 9,b4 55 true 57 3,aq 55 true (cb 58 57),aq 55 true (bk 59 .eql 56 58),b4 55 true 60 59,b4 60 false 61 3,b4 60 false 62 9,aq 60 false (cp 63 1 61 62),aq 60 false (ax 64 1 63),b4 60 false 65 5,aq 60 false (cd 66 180 64 65),aq 60 false (aS 67 .neq 66 0),aq 55 true (dc 68 60 67),dK 69 55 68] (aT 69 (aa [fk 70 1 23 [],I 71 3,I 72 9,b1 73 (.lsl 1 (.t 71) none (some (.t 72))),iN 74 1 23 70 73,I 10 74] (aa [I 75 10,I 76 5,fk 77 1 23 [.t 76],iN 78 1 23 75 77,I 10 78] (.region [I 79 10,I 80 3,I 81 9,b1 82 (.lsl 1 (.t 80) (some (.t 81)) none),iN 83 1 23 79 82,I 3 83]))) .skip)))))))) (.fg false 3 (.region [aS 84 .add 14 1,I 14 84]))))) (aa [I 85 3,I 2 85] .ret))))
@[simp] def akx:List bt:=[.tmp 2]
def Px:C:=(aa [bf 4 false] (.seq (aa [I 11 0,cQ 12 142 11,cx 13 12,I 14 13,b4 14 false 15 1,aq 14 false (cQ 16 142 15),aq 14 false (cx 17 16),dc 18 14 17] (aT 18 (aa [bf 4 false] .ret) .skip)) (.seq (aa [I 19 0,cb 20 19,bQ 21 0] (e4 22 21 20 (.seq (.block 1 (aa [cp 23 5 19 21,be 24 5 23,dH 6 jZ,bW 5 6 24] (aa [I 26 1,aI 27 0 1 6,ax 28 1 27,cQ 29 91 28,cd 30 166 26 29,I 25 30,c2 31 0 25,c2 32 1 25,dH 7 dS,bW 4 7 31,I 8 32] (aa [I 34 1,fY 35 1 4 6,be 36 4 35,cd 37 166 34 36,I 33 37,c2 38 0 33,c2 39 1 33,dH 9 dS,bW 4 9 38,I 10 39] (aa [I 40 8,cx 41 40,I 42 41,b4 42 false 43 10,aq 42 false (cx 44 43),dc 45 42 44,I 46 45,aq 46 false (be 47 4 7),aq 46 false (be 48 4 9),aq 46 false (cd 49 167 47 48),aq 46 false (cx 50 49),dc 51 46 50] (aT 51 (aa [bf 4 false] .ret) .skip)))))) (.region [aS 52 .add 21 1,I 21 52])))) (aa [bf 4 true] .ret))))
@[simp] def LA:List bt:=[.tmp 4]
def wv:List (Nat×dA):=[
 (3,⟨1,8,.int .i64,.int .i64 0⟩),
 (23,⟨1,24,.slice 61,.slice 5 .nil []⟩),
 (24,⟨1,24,.slice 23,.slice 1 .nil []⟩),
 (30,⟨1,24,.slice 32,.slice 4 .nil []⟩),
 (32,⟨4,56,.struct [(0,3),(1,3),(2,9),(3,30)],.agg [.int .i64 0,.int .i64 0,.str [],.slice 4 .nil []]⟩),
 (61,⟨5,64,.struct [(0,3),(1,32)],.agg [.int .i64 0,.int .i64 0,.int .i64 0,.str [],.slice 4 .nil []]⟩)]
theorem rT:fN al wv=true:=by kernel_rfl
theorem CO:bY wv yN wa 2 Tryz.f136=true:=by kernel_rfl
theorem Bo:al.funcs[(136:Nat)]? =some Tryz.f136:=Tryz.func136
theorem ai7:bY wv PT akw 1 Tryz.f143=true:=by kernel_rfl
theorem acx:al.funcs[(143:Nat)]? =some Tryz.f143:=Tryz.func143
theorem ajc:bY wv PY akz 2 Tryz.f146=true:=by kernel_rfl
theorem acC:al.funcs[(146:Nat)]? =some Tryz.f146:=Tryz.func146
theorem ai6:bY wv PS akv 2 Tryz.f177=true:=by kernel_rfl
theorem acw:al.funcs[(177:Nat)]? =some Tryz.f177:=Tryz.func177
theorem ai8:bY wv PU C0 2 Tryz.f180=true:=by kernel_rfl
theorem acy:al.funcs[(180:Nat)]? =some Tryz.f180:=Tryz.func180
theorem ai9:bY wv PV akx 1 Tryz.f220=true:=by kernel_rfl
theorem acz:al.funcs[(220:Nat)]? =some Tryz.f220:=Tryz.func220
theorem aiM:bY wv Px LA 2 Tryz.f269=true:=by kernel_rfl
theorem ab9:al.funcs[(269:Nat)]? =some Tryz.f269:=Tryz.func269
@[simp] def ard:List bt:=[.tmp 2]
@[simp] def arp:List bt:=[.tmp 4]
@[simp] def arf:List bt:=[.tmp 4]
def PI:C:=(aa [cM 2 0,cM 3 1,bf 4 false] (aa [be 5 4 2,be 6 4 3,cd 7 229 5 6,aS 8 .eql 7 0,I 4 8] .ret))
@[simp] def VL:List bt:=[.tmp 4]
@[simp] def aq9:List bt:=[.tmp 2]
@[simp] def arj:List bt:=[.tmp 2]
def Bc:C:=(aa [cM 2 0,cM 3 1,bQ 4 0] (.seq (aa [aI 7 0 1 2,ax 8 1 7,aI 9 0 1 3,ax 10 1 9,bk 11 .neq 8 10] (aT 11 (aa [aI 12 0 1 2,ax 13 1 12,aI 14 0 1 3,ax 15 1 14,bk 16 .lss 13 15,cQ 17 238 16,I 4 17] .ret) .skip)) (.seq (aa [aI 18 1 1 2,ax 19 1 18,aI 20 1 1 3,ax 21 1 20,bk 22 .neq 19 21] (aT 22 (aa [aI 23 1 1 2,ax 24 1 23,aI 25 1 1 3,ax 26 1 25,bk 27 .lss 24 26,cQ 28 238 27,I 4 28] .ret) .skip)) (.seq (aa [aI 29 2 1 2,ax 30 1 29,aI 31 2 1 3,ax 32 1 31,bk 33 .neq 30 32] (aT 33 (aa [aI 34 2 1 2,ax 35 1 34,aI 36 2 1 3,ax 37 1 36,bk 38 .lss 35 37,cQ 39 238 38,I 4 39] .ret) .skip)) (.seq (aa [bQ 5 0] (.block 0 (.loop (.seq (aa [I 40 5,aI 41 3 1 2,ax 42 1 41,cb 43 42,bk 44 .lss 40 43,I 45 44,b4 45 true 46 5,aq 45 true (aI 47 3 1 3),aq 45 true (ax 48 1 47),aq 45 true (cb 49 48),aq 45 true (bk 50 .lss 46 49),dK 51 45 50] (aT 51 .skip (.exit 0))) (.seq (.block 1 (.seq (.drawn true 68 [aI 54 3 1 2,ax 55 1 54,I 56 5,cp 57 4 55 56,be 58 4 57,aI 59 3 1 3,ax 60 1 59,I 61 5,cp 62 4 60 61,be 63 4 62,cd 64 229 58 63,I 6 64]) (aa [I 65 6,aS 66 .neq 65 0] (aT 66 (aa [I 67 6,I 4 67] .ret) .skip)))) (.region [I 52 5,aS 53 .add 52 1,I 5 53])))))) (aa [bQ 4 0] .ret))))))
@[simp] def Al:List bt:=[.tmp 4]
@[simp] def ark:List bt:=[]
def PJ:C:=(aa [bQ 2 0] (.seq (aa [I 3 0] (aT 3 (aa [bQ 2 (-1)] .ret) .skip)) (aa [bQ 2 1] .ret)))
@[simp] def VM:List bt:=[.tmp 2]
def GY:List (Nat×dA):=[
 (3,⟨1,8,.int .i64,.int .i64 0⟩),
 (4,⟨1,1,.bool,.bool false⟩),
 (9,⟨1,16,.str,.str []⟩),
 (23,⟨1,24,.slice 61,.slice 5 .nil []⟩),
 (24,⟨1,24,.slice 23,.slice 1 .nil []⟩),
 (30,⟨1,24,.slice 32,.slice 4 .nil []⟩),
 (32,⟨4,56,.struct [(0,3),(1,3),(2,9),(3,30)],.agg [.int .i64 0,.int .i64 0,.str [],.slice 4 .nil []]⟩),
 (61,⟨5,64,.struct [(0,3),(1,32)],.agg [.int .i64 0,.int .i64 0,.int .i64 0,.str [],.slice 4 .nil []]⟩),
 (112,⟨1,24,.slice 3,.slice 1 .nil []⟩)]
theorem AJ:fN al GY=true:=by kernel_rfl
theorem aiX:bY GY PI VL 2 Tryz.f167=true:=by kernel_rfl
theorem acm:al.funcs[(167:Nat)]? =some Tryz.f167:=Tryz.func167
theorem FX:bY GY Bc Al 2 Tryz.f229=true:=by kernel_rfl
theorem Er:al.funcs[(229:Nat)]? =some Tryz.f229:=Tryz.func229
theorem aiY:bY GY PJ VM 1 Tryz.f238=true:=by kernel_rfl
theorem acn:al.funcs[(238:Nat)]? =some Tryz.f238:=Tryz.func238
theorem X4{t u:T}(J:t.kind=u.kind)(U:t.int=u.int)(ao:t.name=u.name)(a7:t.args=u.args):t=u:=by cases t<;>cases u<;>simp_all
theorem qN(b:Bool):bK al 238 [.bool b] (.int .i64 (if b then-1 else 1)):=by
 refine bm AJ acn aiY fun aQ=>?_;unfold PJ;simp;((with_reducible repeat' first|refine aj ?_|simp|((first|apply bR|apply bU|apply bT)<;>intro h<;>try simp at h))<;>(try exact cv));all_goals simp[bu,VM,aV,aW,aU]
 all_goals simp_all
theorem ajf{a b:T}(bD:a.args=[]∨b.args=[])(J:a.kind=b.kind)(U:a.int=b.int):er a b=kp a.name b.name:=by cases a<;>cases b<;>simp_all[er]
def Ci(a b:T)(i:Nat)(_:Unit):Prop:=a.args.take i=b.args.take i
set_option maxRecDepth 4000 in
theorem Xa(a:T)(bN:∀x∈a.args,∀b:T,bK al 229 [x.e,b.e] (.int .i64 (er x b)))(b:T):bK al 229 [a.e,b.e] (.int .i64 (er a b)):=by
 have hle:a.args.length≤2:=by cases a<;>simp
 by_cases ab:a.kind=b.kind
 ·by_cases hi:a.int=b.int
  ·by_cases aA:a.name=b.name
   ·have hlen:a.args.length=b.args.length:=by cases a<;>cases b<;>simp at ab⊢
    refine bm AJ Er FX fun aQ=>?_;unfold Bc;simp[ab,hi,aA];refine dW [2,3] (fun i (_:Unit)=>[(5,.int .i64 i)]) a.args.length (Ci a b) () bV (by simp[Ci]) (fun _ af _=>?_) (fun i _ bA af _=>?_)
    ·simp;(with_reducible repeat' first|refine aj ?_|simp);simp[bu,Al,aV,aW,aU];unfold Ci at af;rw[hB (by omega),hB (by omega)]at af;exact((qB a b).2 (X4 ab hi aA af)).symm
    ·have qs:i<b.args.length:=by omega
     obtain⟨x,ad⟩:∃x,x=a.args[i]:=⟨_,rfl⟩;obtain⟨y,aM⟩:∃y,y=b.args[i]:=⟨_,rfl⟩;have lS:=bN x (by rw[ad];exact List.getElem_mem bA) y;simp[bA,qs,←ad,←aM];(with_reducible repeat' first|((first|apply bR|apply bU|apply bT)<;>intro h<;>try simp at h)|refine aj ?_|refine aE lS ?_|refine aF lS ?_|simp)
     ·simp[bu,Al,aV,aW,aU];unfold Ci at af;cases a with
      |pair bC a2=>
       cases b with
       |pair b8 b3=>
        simp at bA af ad aM;rcases(by omega:i=0∨i=1)with rfl|rfl
        ·simp at ad aM;subst ad aM;simp[er,h]
        ·simp at af ad aM;subst ad aM af;simp[er,(qB bC bC).2 rfl]
       |_=>simp at ab
      |_=>simp at bA
     ·refine bO.rng () bA ?_ bV;unfold Ci at af⊢;rw[nR,nR,af,cf bA,cf qs,←ad,←aM,(qB x y).1 h]
   ·refine bm AJ Er FX fun aQ=>?_;unfold Bc;simp[ab,hi,aA];((with_reducible repeat' first|refine aj ?_|refine aE (qN _) ?_|refine aF (qN _) ?_|simp|((first|apply bR|apply bU|apply bT)<;>intro h<;>try simp at h))<;>(try exact cv));simp[bu,Al,aV,aW,aU];have:a.args=[]∨b.args=[]:=by cases a<;>cases b<;>simp at ab aA⊢
    rw[ajf this ab hi,kp,if_neg aA]
  ·refine bm AJ Er FX fun aQ=>?_;unfold Bc;simp[ab,hi];((with_reducible repeat' first|refine aj ?_|refine aE (qN _) ?_|refine aF (qN _) ?_|simp|((first|apply bR|apply bU|apply bT)<;>intro h<;>try simp at h))<;>(try exact cv));simp[bu,Al,aV,aW,aU];cases a<;>cases b<;>simp at ab hi
   ·rw[UU];simp[ey];split<;>(try split)<;>omega
   ·rw[UT];simp[ey];split<;>(try split)<;>omega
 ·refine bm AJ Er FX fun aQ=>?_;unfold Bc;simp[ab];((with_reducible repeat' first|refine aj ?_|refine aE (qN _) ?_|refine aF (qN _) ?_|simp|((first|apply bR|apply bU|apply bT)<;>intro h<;>try simp at h))<;>(try exact cv));simp[bu,Al,aV,aW,aU];rw[rJ ab];simp[ey];split<;>(try split)<;>omega
theorem G4(a:T):∀b:T,bK al 229 [a.e,b.e] (.int .i64 (er a b)):=by
 induction a with
 |pair x y lS nB=>
  refine Xa _ fun z bE=>?_;simp at bE;rcases bE with rfl|rfl
  ·exact lS
  ·exact nB
 |_=>exact Xa _ fun x ad=>by simp at ad
theorem Xc(a b:T):bK al 167 [a.e,b.e] (.bool (decide (a=b))):=by refine bm AJ acm aiX fun aQ=>?_;unfold PI;simp;(with_reducible repeat' first|refine aj ?_|refine aE (G4 _ _) ?_|refine aF (G4 _ _) ?_|simp);simp[bu,VL,aV,aW,aU];have:=qB a b;by_cases h:er a b=0<;>simp_all
theorem amE{s t:List au}(ag:eP s)(aL:eP t):bK al 177 [.slice 5 .no (s.map au.e),.slice 5 .no (t.map au.e)] (.slice 5 .no ((gz s t).map au.e)):=by
 have afh:=aL.len;generalize a1:gz s t=R;refine bm rT acw ai6 fun aQ=>?_;unfold PS;simp;refine gP (α:=List au) (fun i out=>⟨[(0,.slice 5 .no (s.map au.e)),(11,.slice 5 .no (t.map au.e)),(12,.int .i64 t.length),(5,.slice 5 (.own (.loc 0)) (out.map au.e)),(13,.int .i64 i)],[],[(.loc 0,⟨out.length,61,5,none⟩)],1,[]⟩) t.length (qx s t) [] bV (by simp[qx,gz]) (fun out af _=>?_) (fun i out hi af _=>?_)
 ·rw[qx,hB (eV _),a1]at af;rw[←af];exact b6
 ·obtain⟨b,aJ,gx⟩:=dV hi;have tZ:out.length≤1000000:=by
   have:out.length≤(t.take i).length:=by rw[af];exact List.length_filter_le _ _
   simp at this;omega
  have jw:=uS s b.v ag.len;cases ae:df s b.v with
  |none=>
   have aA:qx s t (i+1) (out++[b]):=by rw[qx,qK aJ,gz,List.filter_append,af];simp[gz,ae]
   rw[ae]at jw;simp only[nl,l0]at jw;clear af aJ ae;simp[hi,gx];(with_reducible repeat' first|refine aj ?_|refine aE jw ?_|refine aF jw ?_|simp[gx,hi]);all_goals first|(refine⟨by unfold lim;omega,?_⟩)|skip
   (with_reducible repeat' first|refine aj ?_|simp);refine bO.rng (out++[b]) hi aA ?_;simp;exact⟨by simp[fresh,aG,aB,cg,inObs,Pv.look,jG],ec (by simp[fresh,aG,aB,cg,inObs,Pv.look,jG]),ed (by simp[fresh,aG,aB,dR,inObs,Pv.look,jG]),by simp⟩
  |some x=>
   have aA:qx s t (i+1) out:=by rw[qx,qK aJ,gz,List.filter_append,af];simp[gz,ae]
   rw[ae]at jw;simp only[k7,r5]at jw;clear af aJ ae;simp[hi,gx];(with_reducible repeat' first|refine aj ?_|refine aE jw ?_|refine aF jw ?_|simp[gx,hi]);refine bO.rng out hi aA ?_;exact bV
theorem ama{s t:List au}(ag:eP s)(aL:eP t):bK al 269 [.slice 5 .no (s.map au.e),.slice 5 .no (t.map au.e)] (.bool (mX s t)):=by
 have pK:=ag.len;generalize a1:mX s t=R;have dq:=Xn ag;have dn:=Xn aL;refine bm rT ab9 aiM fun aQ=>?_;unfold Px;simp;(with_reducible repeat' first|refine aj ?_|refine aE dq ?_|refine aF dq ?_|refine aE dn ?_|refine aF dn ?_|simp);refine dW [1,19,20] (fun i (_:Unit)=>[(21,.int .i64 i)]) s.length (oo (rF t) s) () bV (fun k b ab=>by omega) (fun _ af _=>?_) (fun i _ hi af _=>?_)
 ·have:R=true:=by rw[←a1,mX,ir];intro b ae;obtain⟨k,ab,e⟩:=nj ae;exact af k b ab (by rw[cf ab,e])
  rw[this];exact b6
 ·obtain⟨b,aJ,gx⟩:=dV hi;have gv:rF t b=false→R=false:=fun h=>by rw[←a1,Bool.eq_false_iff];intro cr;rw[mX,ir]at cr;rw[cr b (eo aJ)]at h;cases h
  have aZ:=MJ t aL.len (.var b.v);have bI:=MJ t aL.len b.t;have xB:=Dc aL b.v;have Fa:((T.var b.v).ap (cz t)).size≤5000:=xB;rw[kN Fa]at aZ;rw[show(T.var b.v).ap (cz t)=cz t b.v from rfl]at aZ;by_cases bE:(b.t.ap (cz t)).size≤5000
  ·rw[kN bE]at bI;by_cases he:cz t b.v=b.t.ap (cz t)
   ·have aA:=af.step aJ (by simp[rF,he]);have fB:=Xc (cz t b.v) (b.t.ap (cz t));rw[kN he]at fB;clear af aJ;simp[hi,gx];(with_reducible repeat' first|refine aj ?_|refine aE (j3 _) ?_|refine aF (j3 _) ?_|refine aE aZ ?_|refine aF aZ ?_|refine aE bI ?_|refine aF bI ?_|refine aE fB ?_|refine aF fB ?_|simp[gx,hi]);exact bO.rng () hi aA bV
   ·rw[gv (by simp[rF,he])];have fB:=Xc (cz t b.v) (b.t.ap (cz t));rw[k8 he]at fB;clear af aJ;simp[hi,gx];(with_reducible repeat' first|refine aj ?_|refine aE (j3 _) ?_|refine aF (j3 _) ?_|refine aE aZ ?_|refine aF aZ ?_|refine aE bI ?_|refine aF bI ?_|refine aE fB ?_|refine aF fB ?_|simp[gx,hi]);simp[bu,LA,aV,aW,aU]
  ·rw[k8 bE]at bI;rw[gv (by simp only[rF,gr];intro e;rw[←e]at bE;exact bE xB)];clear af aJ;simp[hi,gx];(with_reducible repeat' first|refine aj ?_|refine aE (j3 _) ?_|refine aF (j3 _) ?_|refine aE aZ ?_|refine aF aZ ?_|refine aE bI ?_|refine aF bI ?_|simp[gx,hi]);simp[bu,LA,aV,aW,aU]
theorem MK(d e:List au):bK al 180 [.slice 5 .no (d.map au.e),.slice 5 .no (e.map au.e)] (.int .i64 (ev d e)):=by
 generalize a1:ev d e=R;refine bm rT acy ai8 fun aQ=>?_;unfold PU;have aR:d.length≤68719476736:=by simp[eD,ef,et,lim]at aQ;omega
 have he:e.length≤68719476736:=by simp[eD,ef,et,lim]at aQ;omega
 simp;refine u7 [0,1] (fun(i:Nat)=>[(5,.int .i64 i)]) (fun i=>d.length-i) (J8 d e) 0 bV ⟨by omega,by omega,by simp⟩ (fun i af _=>?_);obtain⟨J,U,ao⟩:=af;rw[a1]at ao;by_cases hi:i<d.length
 ·by_cases hl:i<e.length
  ·obtain⟨x,ad⟩:∃x,d[i]? =some x:=⟨_,cf hi⟩;obtain⟨y,aM⟩:∃y,e[i]? =some y:=⟨_,cf hl⟩;have cC:∀h,(d[i]'h)=x:=fun h=>by rw[cf hi]at ad;exact fl ad
   have eJ:∀h,(e[i]'h)=y:=fun h=>by rw[cf hl]at aM;exact fl aM
   have zd:d.drop i=x::d.drop (i+1):=by rw[k5 hi,cC]
   have ze:e.drop i=y::e.drop (i+1):=by rw[k5 hl,eJ]
   rw[zd,ze]at ao;rw[UR]at ao;by_cases a6:x.v=y.v
   ·have jJ:ey x.v y.v=0:=(j1.zero _ _).2 a6;have sU:(x.v !=y.v)=false:=by simp[a6]
    rw[if_pos jJ]at ao;by_cases bB:er x.t y.t=0
    ·rw[if_pos bB]at ao;have aA:J8 d e (i+1):=⟨by omega,by omega,by rw[a1];exact ao⟩;have kk:=G4 x.t y.t;rw[bB]at kk;clear zd ze ad aM ao jJ;simp[hi,hl,cC,eJ];((with_reducible repeat' first|refine aj ?_|refine aE kk ?_|refine aF kk ?_|simp[cC,eJ,hi,hl,a6,sU]|((first|apply bR|apply bU|apply bT)<;>intro h<;>try simp at h))<;>(try exact cv));all_goals exact bO.whl (i+1) (by omega) aA bV
    ·rw[if_neg bB]at ao;have kk:=G4 x.t y.t;have x2:(er x.t y.t !=0)=true:=by simp[bB]
     clear zd ze ad aM jJ;simp[hi,hl,cC,eJ];(with_reducible repeat' first|refine aj ?_|refine aE kk ?_|refine aF kk ?_|simp[cC,eJ,hi,hl,a6,sU,bB,x2]);all_goals simp[bu,C0,aV,aW,aU]
     all_goals exact ao
   ·have jJ:¬ey x.v y.v=0:=fun h=>a6 ((j1.zero _ _).1 h);have sU:(x.v !=y.v)=true:=by simp[a6]
    rw[if_neg jJ]at ao;have dk:R=if decide (x.v<y.v)=true then-1 else 1:=by rw[←ao];unfold ey;simp only[fm];(repeat' split)<;>omega
    clear zd ze ad aM ao jJ;rw[dk];simp[hi,hl,cC,eJ];(with_reducible repeat' first|refine aj ?_|refine aE (qN _) ?_|refine aF (qN _) ?_|simp[cC,eJ,hi,hl,a6,sU]);all_goals simp[bu,C0,aV,aW,aU]
  ·have hle:e.length<d.length:=by omega
   have:(1:Int)=R:=by rw[←ao,ev,Cs _ _ _ (.inr (List.drop_eq_nil_of_le (by omega)))];simp only[r4];unfold ey;(repeat' split)<;>omega
   have cF:¬(d.length:Int)=e.length:=by omega
   have JA:((d.length:Int) !=e.length)=true:=by simp;omega
   have js:¬(d.length:Int)<e.length:=by omega
   have BX:¬d.length<e.length:=by omega
   have aeQ:¬d.length=e.length:=by omega
   clear ao;rw[←this];simp[hi,hl];(with_reducible repeat' first|refine aj ?_|refine aE (qN _) ?_|refine aF (qN _) ?_|simp[hi,hl,cF,JA,js,BX,aeQ]);all_goals simp[bu,C0,aV,aW,aU]
   all_goals(try simp[BX])
 ·have eU:i=d.length:=by omega
  by_cases ar:d.length=e.length
  ·have:(0:Int)=R:=by rw[←ao,ev,Cs _ _ _ (.inl (List.drop_eq_nil_of_le (by omega)))];simp only[r4];unfold ey;(repeat' split)<;>omega
   clear ao;rw[←this];exact b6
  ·have:(-1:Int)=R:=by rw[←ao,ev,Cs _ _ _ (.inl (List.drop_eq_nil_of_le (by omega)))];simp only[r4];unfold ey;(repeat' split)<;>omega
   have cF:¬(d.length:Int)=e.length:=by omega
   have JA:((d.length:Int) !=e.length)=true:=by simp;omega
   have js:(d.length:Int)<e.length:=by omega
   have BX:d.length<e.length:=by omega
   clear ao;rw[←this];simp[hi];(with_reducible repeat' first|refine aj ?_|refine aE (qN _) ?_|refine aF (qN _) ?_|simp[hi,cF,JA,js,BX,ar]);all_goals simp[bu,C0,aV,aW,aU]
   all_goals(try simp[BX])
def afV(n:Int)(a b:T)(i:Nat)(_:Unit):Prop:=(1≤i→iA n a=true)∧(2≤i→iA n b=true)
theorem MO(n:Int):∀t:T,bK al 136 [t.e,.int .i64 n] (.bool (iA n t))
 | .pair a b=>by
  have dM:=MO n a;have dN:=MO n b;refine bm rT Bo CO fun aQ=>?_;unfold yN;simp;refine dW [1,2,8,9] (fun i (_:Unit)=>[(10,.int .i64 i)]) 2 (afV n a b) () bV ⟨fun h=>by omega,fun h=>by omega⟩ (fun _ af _=>?_) (fun i _ hi af _=>?_)
  ·simp;(with_reducible repeat' first|refine aj ?_|simp);simp[bu,wa,aV,aW,aU];simp[iA,af.1,af.2]
  ·rcases(by omega:i=0∨i=1)with rfl|rfl
   ·cases bD:iA n a
    ·rw[bD]at dM;simp;(with_reducible repeat' first|refine aj ?_|refine aE dM ?_|refine aF dM ?_|simp);simp[bu,wa,aV,aW,aU];simp[iA,bD]
    ·rw[bD]at dM;simp;((with_reducible repeat' first|refine aj ?_|refine aE dM ?_|refine aF dM ?_|simp|((first|apply bR|apply bU|apply bT)<;>intro h<;>try simp at h))<;>(try exact cv));exact bO.rng () hi ⟨fun _=>bD,fun h=>by omega⟩ bV
   ·cases ae:iA n b
    ·rw[ae]at dN;simp;((with_reducible repeat' first|refine aj ?_|refine aE dN ?_|refine aF dN ?_|simp|((first|apply bR|apply bU|apply bT)<;>intro h<;>try simp at h))<;>(try exact cv));simp[bu,wa,aV,aW,aU];simp[iA,ae]
    ·rw[ae]at dN;simp;((with_reducible repeat' first|refine aj ?_|refine aE dN ?_|refine aF dN ?_|simp|((first|apply bR|apply bU|apply bT)<;>intro h<;>try simp at h))<;>(try exact cv));exact bO.rng () hi ⟨fun _=>af.1 (by omega),fun _=>ae⟩ bV
 | .sym v=>by
  refine bm rT Bo CO fun aQ=>?_;unfold yN;simp;refine dW [1,2,8,9] (fun i (_:Unit)=>[(10,.int .i64 i)]) 0 (fun i _=>True) () bV trivial (fun _ af _=>?_) (fun i _ hi af _=>by omega);simp;((with_reducible repeat' first|refine aj ?_|simp|((first|apply bR|apply bU|apply bT)<;>intro h<;>try simp at h))<;>(try exact cv));all_goals simp[bu,wa,aV,aW,aU]
  all_goals simp[iA]
 | .num v=>by
  refine bm rT Bo CO fun aQ=>?_;unfold yN;simp;refine dW [1,2,8,9] (fun i (_:Unit)=>[(10,.int .i64 i)]) 0 (fun i _=>True) () bV trivial (fun _ af _=>?_) (fun i _ hi af _=>by omega);simp;(with_reducible repeat' first|refine aj ?_|simp);all_goals simp[bu,wa,aV,aW,aU]
  all_goals simp[iA]
 | .var v=>by
  refine bm rT Bo CO fun aQ=>?_;unfold yN;simp;refine dW [1,2,8,9] (fun i (_:Unit)=>[(10,.int .i64 i)]) 0 (fun i _=>True) () bV trivial (fun _ af _=>?_) (fun i _ hi af _=>by omega);simp;(with_reducible repeat' first|refine aj ?_|simp);all_goals simp[bu,wa,aV,aW,aU]
  all_goals simp[iA]
 | .nil=>by
  refine bm rT Bo CO fun aQ=>?_;unfold yN;simp;refine dW [1,2,8,9] (fun i (_:Unit)=>[(10,.int .i64 i)]) 0 (fun i _=>True) () bV trivial (fun _ af _=>?_) (fun i _ hi af _=>by omega);simp;(with_reducible repeat' first|refine aj ?_|simp);all_goals simp[bu,wa,aV,aW,aU]
  all_goals simp[iA]
theorem Xi(s:List au)(n:Int):bK al 146 [.slice 5 .no (s.map au.e),.int .i64 n] (.bool (s.all (kA n))):=by
 generalize a1:s.all (kA n)=R;refine bm rT acC ajc fun aQ=>?_;unfold PY;have eI:s.length≤68719476736:=by simp[eD,ef,et,lim]at aQ;omega
 simp;refine dW [1,7,8] (fun i (_:Unit)=>[(9,.int .i64 i)]) s.length (oo (kA n) s) () bV (fun k b ab=>by omega) (fun _ af _=>?_) (fun i _ hi af _=>?_)
 ·have:R=true:=by rw[←a1,ir];intro b ae;obtain⟨k,ab,e⟩:=nj ae;exact af k b ab (by rw[cf ab,e])
  rw[this];exact b6
 ·obtain⟨b,aJ,gx⟩:=dV hi;have gv:kA n b=false→R=false:=fun h=>by rw[←a1,Bool.eq_false_iff];intro cr;rw[ir]at cr;rw[cr b (eo aJ)]at h;cases h
  have kV:=MO n b.t;by_cases J:b.v<n
  ·have nu:¬n≤b.v:=by omega
   cases U:iA n b.t
   ·rw[gv (by simp[kA,U])];rw[U]at kV;clear af aJ;exact b6
   ·have aA:=af.step aJ (by simp[kA,J,U]);rw[U]at kV;clear af aJ;exact hd
  ·have nu:n≤b.v:=by omega
   rw[gv (by simp[kA,J])];clear af aJ;exact b6
theorem amH(l:List (List cX)):bK al 143 [.slice 1 .no (l.map fQ)] (.bool (l.all gE)):=by
 generalize a1:l.all gE=R;refine bm rT acx ai7 fun aQ=>?_;unfold PT;have eI:l.length≤68719476736:=by simp[eD,ef,et,lim]at aQ;omega
 simp;refine dW [5,6] (fun i (_:Unit)=>[(7,.int .i64 i)]) l.length (oo gE l) () bV (fun k b ab=>by omega) (fun _ af _=>?_) (fun i _ hi af _=>?_)
 ·have:R=true:=by rw[←a1,ir];intro b ae;obtain⟨k,ab,e⟩:=nj ae;exact af k b ab (by rw[cf ab,e])
  rw[this];exact b6
 ·obtain⟨b,aJ,gx⟩:=dV hi;have dq:bK al 142 [fQ b] (.bool (gE b)):=MP b;cases ae:gE b
  ·have:R=false:=by rw[←a1,Bool.eq_false_iff];intro cr;rw[ir]at cr;rw[cr b (eo aJ)]at ae;cases ae
   rw[this];rw[ae]at dq;clear af aJ;exact b6
  ·have aA:=af.step aJ ae;rw[ae]at dq;clear af aJ;exact hd
theorem Ql(a:List (List au))(k:Nat)(m:List au):jQ k (a.map cR)++cR m::my k (a.map cR)=(a.take k++m::a.drop k).map cR:=by simp
theorem qj(a:List (List au))(k:Nat)(m:List au):cY (jQ k (a.map cR)++cR m::my k (a.map cR))=jQ k (a.map cR)++cR m::my k (a.map cR):=by rw[Ql,Mn]
theorem qi(S:aD→Prop)(a:List (List au))(k:Nat)(m:List au):aG S (jQ k (a.map cR)++cR m::my k (a.map cR))=True:=by rw[Ql,TF]
theorem Qk(a:List (List au))(m:List au):a.map cR++[cR m]=(a++[m]).map cR:=by simp
theorem qh(a:List (List au))(m:List au):cY (a.map cR++[cR m])=a.map cR++[cR m]:=by rw[Qk,Mn]
theorem qg(S:aD→Prop)(a:List (List au))(m:List au):aG S (a.map cR++[cR m])=True:=by rw[Qk,TF]
theorem Xg(L:List (List au))(jo:∀d∈L,eP d):bK al 220 [.slice 1 .no (L.map cR)] (.slice 1 .no ((kF L).map cR)):=by
 generalize a1:kF L=R;rw[agX]at a1;refine bm rT acz ai9 fun aQ=>?_;unfold PV;have eI:L.length≤68719476736:=by simp[eD,ef,et,lim]at aQ;omega
 simp;refine dW [0,12,13] (fun i (a:List (List au))=>[(3,.slice 1 .no (a.map cR)),(14,.int .i64 i)]) L.length (xG L) [] bV (by simp[xG]) (fun a af _=>?_) (fun i a hi af _=>?_)
 ·rw[xG,k6,a1]at af;subst af;exact b6
 ·obtain⟨e,he,Jj⟩:=dV hi;have q8:hH ev a:=by rw[af];exact KM _ (by simp[hH])
  have q9:a.length≤i:=by have:=Uj (L:=L) (L.take i) [];rw[af];simp at this⊢;omega
  have fp:=af.step he;have lr:=jo e (eo he);have bI:∀d,bK al 180 [cR d,cR e] (.int .i64 (ev d e)):=fun d=>MK d e;clear af he;simp[hi,Jj];(with_reducible repeat' first|refine aj ?_|simp[hi,Jj]);refine dW [0,3,5,12,13,14,18,19] (fun j (b:Bool)=>[(6,.bool b),(20,.int .i64 j)]) L.length (pO L e) true bV (by simp[pO]) (fun keep af _=>?_) (fun j keep eb af _=>?_)
  ·rw[pO,k6]at af;have Sa:keep=iG L e:=af;rw[pU,←Sa]at fp;clear af Sa;simp;(with_reducible repeat' first|refine aj ?_|simp);refine u7 [0,3,5,6,12,13,14] (fun(k:Nat)=>[(9,.int .i64 k)]) (fun k=>k) (Fj a e) a.length bV ⟨by omega,fun c h=>by simp at h⟩ (fun k af _=>?_);have ab:=af.1;rcases Nat.eq_zero_or_pos k with bq|fq
   ·have bE:decide ((0:Int)<k)=false:=by simp;omega
    have ry:¬(0:Int)<k:=by omega
    have dB:=af.fin q8 fun d h=>by omega
    clear af q8;cases keep with
    |false=>simp only[gT,if_false]at fp;clear dB;exact hd
    |true=>
     simp only[if_true]at fp;by_cases hn:k<a.length
     ·obtain⟨c,aw,jE⟩:=dV hn;rw[aw]at dB;by_cases q:ev c e=0
      ·rw[if_pos (by simp[q])]at dB;rw[dB]at fp;clear dB aw;simp[hn,jE,bE,ry];((with_reducible repeat' first|refine aj ?_|refine aE (bI _) ?_|refine aF (bI _) ?_|simp[hn,jE,q,bE,ry]|((first|apply bR|apply bU|apply bT)<;>intro h<;>try simp at h))<;>(try exact cv));all_goals exact bO.rng a hi fp bV
      ·rw[if_neg (by simp[q])]at dB;have gD:(ev c e !=0)=true:=by simp[q]
       rw[dB]at fp;clear dB aw;simp[hn,jE,bE,ry];((with_reducible repeat' first|refine aj ?_|refine aE (bI _) ?_|refine aF (bI _) ?_|simp[hn,jE,q,gD,bE,ry]|((first|apply bR|apply bU|apply bT)<;>intro h<;>try simp at h))<;>(try exact cv));all_goals first|(refine⟨by unfold lim;omega,?_⟩)|skip
       all_goals(with_reducible repeat' first|refine aj ?_|simp)
       all_goals first|(refine⟨by unfold lim;omega,?_⟩)|skip
       all_goals((with_reducible repeat' first|refine aj ?_|simp|((first|apply bR|apply bU|apply bT)<;>intro h<;>try simp at h))<;>(try exact cv))
       all_goals exact bO.rng _ hi fp ⟨by simp[fresh,aG,aB,cg,inObs,Pv.look,hB,qj,qi,qh,qg],ec (by simp[fresh,aG,aB,cg,inObs,Pv.look,hB,qj,qi,qh,qg]),ed (by simp[fresh,aG,aB,dR,inObs,Pv.look,hB,qj,qi,qh,qg]),by simp⟩
     ·rw[p5 (by omega)]at dB;simp only[gT,if_false]at dB;rw[dB]at fp;have ik:k=a.length:=by omega
      have sw:a.take k++e::a.drop k=a++[e]:=by rw[ik];simp
      rw[sw]at fp;clear dB sw;simp[hn,bE,ry];((with_reducible repeat' first|refine aj ?_|refine aE (bI _) ?_|refine aF (bI _) ?_|simp[hn,ik,bE,ry]|((first|apply bR|apply bU|apply bT)<;>intro h<;>try simp at h))<;>(try exact cv));all_goals first|(refine⟨by unfold lim;omega,?_⟩)|skip
      all_goals(with_reducible repeat' first|refine aj ?_|simp)
      all_goals first|(refine⟨by unfold lim;omega,?_⟩)|skip
      all_goals((with_reducible repeat' first|refine aj ?_|simp|((first|apply bR|apply bU|apply bT)<;>intro h<;>try simp at h))<;>(try exact cv))
      all_goals exact bO.rng _ hi fp ⟨by simp[fresh,aG,aB,cg,inObs,Pv.look,hB,qj,qi,qh,qg],ec (by simp[fresh,aG,aB,cg,inObs,Pv.look,hB,qj,qi,qh,qg]),ed (by simp[fresh,aG,aB,dR,inObs,Pv.look,hB,qj,qi,qh,qg]),by simp⟩
   ·obtain⟨d,aR⟩:∃d,a[k-1]? =some d:=⟨_,cf (by omega)⟩;have ak:((k:Int)-1).toNat=k-1:=by omega
    have aC:∀h,(a[k-1]'h)=d:=fun h=>by rw[cf h]at aR;exact fl aR
    have iE:(0:Int)<k:=by omega
    have lO:k-1<a.length:=by omega
    by_cases ae:0≤ev d e
    ·have ag:Fj a e (k-1):=⟨by omega,fun c aw=>by rw[aR]at aw;cases aw;exact ae⟩;clear af q8 fp aR;simp[fq,iE,ak,aC,ae,lO];((with_reducible repeat' first|refine aj ?_|refine aE (bI _) ?_|refine aF (bI _) ?_|simp[fq,iE,ak,aC,ae,lO]|((first|apply bR|apply bU|apply bT)<;>intro h<;>try simp at h))<;>(try exact cv));refine bO.whl (k-1) (by omega) ag ?_;have bj:((k-1:Nat):Int)=(k:Int)-1:=by omega
     simp[bj];exact bV
    ·have dB:=af.fin q8 fun b9 _ l9=>by rw[aR]at l9;cases l9;omega
     clear af q8 aR;cases keep with
     |false=>simp only[gT,if_false]at fp;clear dB;simp[fq,iE,ak,aC,ae,lO];(with_reducible repeat' first|refine aj ?_|refine aE (bI _) ?_|refine aF (bI _) ?_|simp[fq,iE,ak,aC,ae,lO]);all_goals exact bO.rng a hi fp bV
     |true=>
      simp only[if_true]at fp;by_cases hn:k<a.length
      ·obtain⟨c,aw,jE⟩:=dV hn;rw[aw]at dB;by_cases q:ev c e=0
       ·rw[if_pos (by simp[q])]at dB;rw[dB]at fp;clear dB aw;simp[hn,jE,fq,iE,ak,aC,ae,lO];((with_reducible repeat' first|refine aj ?_|refine aE (bI _) ?_|refine aF (bI _) ?_|simp[hn,jE,q,fq,iE,ak,aC,ae,lO]|((first|apply bR|apply bU|apply bT)<;>intro h<;>try simp at h))<;>(try exact cv));all_goals exact bO.rng a hi fp bV
       ·rw[if_neg (by simp[q])]at dB;have gD:(ev c e !=0)=true:=by simp[q]
        rw[dB]at fp;clear dB aw;simp[hn,jE,fq,iE,ak,aC,ae,lO];((with_reducible repeat' first|refine aj ?_|refine aE (bI _) ?_|refine aF (bI _) ?_|simp[hn,jE,q,gD,fq,iE,ak,aC,ae,lO]|((first|apply bR|apply bU|apply bT)<;>intro h<;>try simp at h))<;>(try exact cv));all_goals first|(refine⟨by unfold lim;omega,?_⟩)|skip
        all_goals(with_reducible repeat' first|refine aj ?_|simp)
        all_goals first|(refine⟨by unfold lim;omega,?_⟩)|skip
        all_goals((with_reducible repeat' first|refine aj ?_|simp|((first|apply bR|apply bU|apply bT)<;>intro h<;>try simp at h))<;>(try exact cv))
        all_goals exact bO.rng _ hi fp ⟨by simp[fresh,aG,aB,cg,inObs,Pv.look,hB,qj,qi,qh,qg],ec (by simp[fresh,aG,aB,cg,inObs,Pv.look,hB,qj,qi,qh,qg]),ed (by simp[fresh,aG,aB,dR,inObs,Pv.look,hB,qj,qi,qh,qg]),by simp⟩
      ·rw[p5 (by omega)]at dB;simp only[gT,if_false]at dB;rw[dB]at fp;have ik:k=a.length:=by omega
       have sw:a.take k++e::a.drop k=a++[e]:=by rw[ik];simp
       rw[sw]at fp;clear dB sw;simp[hn,fq,iE,ak,aC,ae,lO];((with_reducible repeat' first|refine aj ?_|refine aE (bI _) ?_|refine aF (bI _) ?_|simp[hn,ik,fq,iE,ak,aC,ae,lO]|((first|apply bR|apply bU|apply bT)<;>intro h<;>try simp at h))<;>(try exact cv));all_goals first|(refine⟨by unfold lim;omega,?_⟩)|skip
       all_goals(with_reducible repeat' first|refine aj ?_|simp)
       all_goals first|(refine⟨by unfold lim;omega,?_⟩)|skip
       all_goals(with_reducible repeat' first|refine aj ?_|simp)
       all_goals exact bO.rng _ hi fp ⟨by simp[fresh,aG,aB,cg,inObs,Pv.look,hB,qj,qi,qh,qg],ec (by simp[fresh,aG,aB,cg,inObs,Pv.look,hB,qj,qi,qh,qg]),ed (by simp[fresh,aG,aB,dR,inObs,Pv.look,hB,qj,qi,qh,qg]),by simp⟩
  ·obtain⟨d,aR,hdi⟩:=dV eb;have aA:=af.step aR;have lQ:=jo d (eo aR);have dQ:bK al 269 [cR d,cR e] (.bool (mX d e)):=ama lQ lr;clear af aR fp q8;cases keep with
   |false=>simp only[Bool.false_and]at aA;exact hd
   |true=>
    simp only[Bool.true_and,vK]at aA;by_cases q:ev d e=0
    ·rw[kN ((lz.zero _ _).1 q),Bool.true_or]at aA;simp[eb,hdi];(with_reducible repeat' first|refine aj ?_|refine aE (bI _) ?_|refine aF (bI _) ?_|simp[eb,hdi,q]);all_goals exact bO.rng true eb aA bV
    ·rw[k8 (fun h=>q ((lz.zero _ _).2 h)),Bool.false_or]at aA;have gD:(ev d e==0)=false:=by simp[q]
     cases a8:mX d e
     ·rw[a8]at aA dQ;simp[eb,hdi];(with_reducible repeat' first|refine aj ?_|refine aE (bI _) ?_|refine aF (bI _) ?_|refine aE dQ ?_|refine aF dQ ?_|simp[eb,hdi,q,gD]);all_goals exact bO.rng true eb aA bV
     ·rw[a8]at aA dQ;simp[eb,hdi];(with_reducible repeat' first|refine aj ?_|refine aE (bI _) ?_|refine aF (bI _) ?_|refine aE dQ ?_|refine aF dQ ?_|simp[eb,hdi,q,gD]);all_goals exact bO.rng false eb aA bV
theorem mj.fst{s:List (List au)}{t:List au}{acc:List (List au)}(h:mj s 0 acc)(aL:s[0]? =some t):mj s 1 (if iG s t=true then acc++[t]else acc):=by
 unfold mj at*;rw[sM aL]at h;have e:(if(1:Nat)=0 then none else s[1-1]?)=some t:=by simpa using aL
 have cr:acc++(t::cG (some t) (s.drop 1)).filter (iG s)=(cG none s).filter (iG s):=by rw[←h];simp[cG]
 rw[e,←cr];by_cases ab:iG s t=true<;>simp[ab]
theorem mj.eq{s:List (List au)}{i:Nat}{t:List au}{acc:List (List au)}(h:mj s i acc)(hi:i≠0)(bH:s[i-1]? =some t)(aL:s[i]? =some t):mj s (i+1) acc:=by
 unfold mj at*;rw[if_neg hi,bH,sM aL]at h;have e:(if i+1=0 then none else s[i+1-1]?)=some t:=by rw[if_neg (by omega)];exact aL
 rw[e,←h];simp[cG]
theorem mj.ne{s:List (List au)}{i:Nat}{p t:List au}{acc:List (List au)}(h:mj s i acc)(hi:i≠0)(bH:s[i-1]? =some p)(aL:s[i]? =some t)(aA:¬p=t):mj s (i+1) (if iG s t=true then acc++[t]else acc):=by
 unfold mj at*;rw[if_neg hi,bH,sM aL]at h;have e:(if i+1=0 then none else s[i+1-1]?)=some t:=by rw[if_neg (by omega)];exact aL
 have aR:cG (some p) (t::s.drop (i+1))=t::cG (some t) (s.drop (i+1)):=by simp[cG,aA]
 rw[aR]at h;rw[e,←h];by_cases ab:iG s t=true<;>simp[ab]
theorem alk(l:List (List au)):(oz ev l).length=l.length:=(yj ev l).length_eq
theorem xJ(S:aD→Prop)(l:List (List au))(d:List au):aG S (l.map cR++[cR d])=True:=by have:=Kk S (l++[d]);rw[List.map_append]at this;exact eq_true this
set_option maxRecDepth 4000 in
theorem al9(l:List (List au))(jo:∀d∈l,eP d):bK al 124 [.slice 1 .no (l.map cR)] (.slice 1 .no ((kF l).map cR)):=by
 generalize a1:kF l=R;rw[agW]at a1;refine bm wx aaN ahq fun aQ=>?_;unfold N5;have eI:l.length≤68719476736:=by simp[eD,ef,et,lim]at aQ;omega
 simp;refine dW [0,12,13] (fun i (_:Unit)=>[(14,.int .i64 i)]) l.length (fun _ _=>True) () bV trivial (fun _ _ _=>?_) (fun i _ hi _ _=>?_);rotate_left
 ·obtain⟨e,he,Jj⟩:=dV hi;have dq:bK al 55 [cR e] (.bool true):=p0 (jo e (eo he));exact hd
 simp;(with_reducible repeat' first|refine aj ?_|simp);all_goals first|(refine⟨by unfold lim;omega,?_⟩)|skip
 all_goals(with_reducible repeat' first|refine aj ?_|simp)
 refine cV.ob (adx l eI) (Hl l) (by unfold tq dO;exact aO) (by unfold tq dO;exact aO) (by simp[inObs,dO,Pv.look]) ?_;rintro r ai ⟨rfl,rfl⟩;refine⟨wL _ _,?_⟩;obtain⟨s,B8⟩:∃s,s=oz ev l:=⟨_,rfl⟩;have pK:s.length=l.length:=by rw[B8];exact alk l
 have ag:∀d∈s,eP d:=fun d aR=>jo d (by rw[B8,Wp]at aR;exact aR);rw[←B8]at a1;rw[←B8];clear B8;simp[tq,dO,cn];refine gP (fun i (acc:List (List au))=>⟨[(5,.ptr (.obj 822) 0),(6,.slice 1 (.own (.loc 0)) (acc.map cR)),(30,.row 1 (.obj 821) s.length),(31,.int .i64 s.length),(32,.int .i64 i)],[(.obj 822,[.row 1 (.obj 821) s.length])],[(.loc 0,⟨acc.length,23,1,none⟩),(.obj 821,⟨s.length,23,1,some (s.map cR)⟩)],1,[.obj 821,.obj 822]⟩) s.length (fun i acc=>acc.length≤i∧mj s i acc) [] bV ⟨by simp,by simp[mj]⟩ (fun acc af _=>?_) (fun i acc hi af _=>?_)
 ·have af:=af.2;rw[mj,List.drop_length]at af;have:acc=R:=by rw[←a1];simpa[cG]using af
  subst this;exact b6
 ·obtain⟨aoY,af⟩:=af;have q9:acc.length≤68719476735:=by omega
  obtain⟨t,pL,aL⟩:=dV hi;have cO:=ag t (eo pL);have kk:bK al 119 [cR t] (cR t):=W4 t cO.len;have jt:(if iG s t=true then acc++[t]else acc).length≤acc.length+1:=by split<;>simp
  rcases Nat.eq_zero_or_pos i with rfl|fq
  ·have Sm:=af.fst pL;have fp:(if iG s t=true then acc++[t]else acc).length≤0+1∧mj s (0+1) (if iG s t=true then acc++[t]else acc):=⟨j4 jt (by omega),Sm⟩;clear af Sm pL;simp[hi,aL];(with_reducible repeat' first|refine aj ?_|simp[hi,aL]);refine dW [5,6,8,30,31,32,49,50] (fun j (b:Bool)=>[(9,.bool b),(51,.int .i64 j)]) s.length (pO s t) true bV (by simp[pO]) (fun keep af _=>?_) (fun j keep eb af _=>?_)
   ·rw[pO,k6,←Tm]at af;rw[←af]at fp;clear af;cases keep with
    |false=>simp only[gT,if_false]at fp;simp;((with_reducible repeat' first|refine aj ?_|simp|((first|apply bR|apply bU|apply bT)<;>intro h<;>try simp at h))<;>(try exact cv));all_goals exact bO.rng acc hi fp bV
    |true=>
     simp only[if_true]at fp;clear jt;simp;((with_reducible repeat' first|refine aj ?_|refine aE kk ?_|refine aF kk ?_|simp|((first|apply bR|apply bU|apply bT)<;>intro h<;>try simp at h))<;>(try exact cv));all_goals first|(refine⟨by unfold lim;omega,?_⟩)|skip
     all_goals(with_reducible repeat' first|refine aj ?_|simp)
     all_goals exact bO.rng (acc++[t]) hi fp ⟨by simp[fresh,aG,aB,cg,inObs,Pv.look,xJ],ec (by simp[fresh,aG,aB,cg,inObs,Pv.look,xJ]),ed (by simp[fresh,aG,aB,dR,inObs,Pv.look,xJ]),by simp⟩
   ·obtain⟨d,aR,hdi⟩:=dV eb;have aA:=af.step aR;have lQ:=ag d (eo aR);have dQ:bK al 205 [cR d,cR t] (.bool (mX d t)):=Xj d lQ.len cO;have oq:bK al 204 [cR d,cR t] (.int .i64 (ev d t)):=G9 d t;clear af aR fp;by_cases q:ev d t=0
    ·rw[vK,kN ((lz.zero _ _).1 q),Bool.true_or,Bool.and_true]at aA;rw[q]at oq;simp[eb,hdi];((with_reducible repeat' first|refine aj ?_|refine aE oq ?_|refine aF oq ?_|simp[eb,hdi]|((first|apply bR|apply bU|apply bT)<;>intro h<;>try simp at h))<;>(try exact cv));all_goals exact bO.rng keep eb aA bV
    ·rw[vK,k8 (fun h=>q ((lz.zero _ _).2 h)),Bool.false_or]at aA;have gD:(ev d t !=0)=true:=by simp[q]
     cases a8:mX d t
     ·rw[a8]at aA dQ;simp only[Bool.not_false,Bool.and_true]at aA;simp[eb,hdi];((with_reducible repeat' first|refine aj ?_|refine aE oq ?_|refine aF oq ?_|refine aE dQ ?_|refine aF dQ ?_|simp[eb,hdi,q,gD]|((first|apply bR|apply bU|apply bT)<;>intro h<;>try simp at h))<;>(try exact cv));all_goals exact bO.rng keep eb aA bV
     ·rw[a8]at aA dQ;simp only[Bool.not_true,Bool.and_false]at aA;simp[eb,hdi];((with_reducible repeat' first|refine aj ?_|refine aE oq ?_|refine aF oq ?_|refine aE dQ ?_|refine aF dQ ?_|simp[eb,hdi,q,gD]|((first|apply bR|apply bU|apply bT)<;>intro h<;>try simp at h))<;>(try exact cv));all_goals exact bO.rng false eb aA bV
  ·obtain⟨p,zr⟩:∃p,s[i-1]? =some p:=⟨_,cf (by omega)⟩;have ak:((i:Int)-1).toNat=i-1:=by omega
   have aC:∀h,(s[i-1]'h)=p:=fun h=>by rw[cf h]at zr;exact fl zr
   have bj:¬i=0:=by omega
   have dd:i-1<s.length:=by omega
   have iE:(0:Int)<i:=by omega
   have iU:bK al 204 [cR p,cR t] (.int .i64 (ev p t)):=G9 p t;by_cases E4:p=t
   ·have fp:acc.length≤i+1∧mj s (i+1) acc:=⟨by omega,af.eq bj (by rw[zr,E4]) pL⟩;rw[(lz.zero _ _).2 E4]at iU;clear af pL zr;simp[hi,aL,ak,aC,dd,iE];((with_reducible repeat' first|refine aj ?_|refine aE iU ?_|refine aF iU ?_|simp[hi,aL,ak,aC,dd,fq,iE]|((first|apply bR|apply bU|apply bT)<;>intro h<;>try simp at h))<;>(try exact cv));all_goals exact bO.rng acc hi fp bV
   ·have fp:(if iG s t=true then acc++[t]else acc).length≤i+1∧mj s (i+1) (if iG s t=true then acc++[t]else acc):=⟨j4 jt (by omega),af.ne bj zr pL E4⟩;have jJ:¬ev p t=0:=fun h=>E4 ((lz.zero _ _).1 h);have U6:(ev p t==0)=false:=by simp[jJ]
    clear af pL zr;simp[hi,aL,ak,aC,dd,iE];((with_reducible repeat' first|refine aj ?_|refine aE iU ?_|refine aF iU ?_|simp[hi,aL,ak,aC,dd,fq,iE,jJ,U6]|((first|apply bR|apply bU|apply bT)<;>intro h<;>try simp at h))<;>(try exact cv));refine dW [5,6,8,30,31,32,49,50] (fun j (b:Bool)=>[(9,.bool b),(51,.int .i64 j)]) s.length (pO s t) true bV (by simp[pO]) (fun keep af _=>?_) (fun j keep eb af _=>?_)
    ·rw[pO,k6,←Tm]at af;rw[←af]at fp;clear af;cases keep with
     |false=>simp only[gT,if_false]at fp;simp;((with_reducible repeat' first|refine aj ?_|simp|((first|apply bR|apply bU|apply bT)<;>intro h<;>try simp at h))<;>(try exact cv));all_goals exact bO.rng acc hi fp bV
     |true=>
      simp only[if_true]at fp;clear jt;simp;(with_reducible repeat' first|refine aj ?_|refine aE kk ?_|refine aF kk ?_|simp);all_goals first|(refine⟨by unfold lim;omega,?_⟩)|skip
      all_goals(with_reducible repeat' first|refine aj ?_|simp)
      all_goals exact bO.rng (acc++[t]) hi fp ⟨by simp[fresh,aG,aB,cg,inObs,Pv.look,xJ],ec (by simp[fresh,aG,aB,cg,inObs,Pv.look,xJ]),ed (by simp[fresh,aG,aB,dR,inObs,Pv.look,xJ]),by simp⟩
    ·obtain⟨d,aR,hdi⟩:=dV eb;have aA:=af.step aR;have lQ:=ag d (eo aR);have dQ:bK al 205 [cR d,cR t] (.bool (mX d t)):=Xj d lQ.len cO;have oq:bK al 204 [cR d,cR t] (.int .i64 (ev d t)):=G9 d t;clear af aR fp;by_cases q:ev d t=0
     ·rw[vK,kN ((lz.zero _ _).1 q),Bool.true_or,Bool.and_true]at aA;rw[q]at oq;simp[eb,hdi];((with_reducible repeat' first|refine aj ?_|refine aE oq ?_|refine aF oq ?_|simp[eb,hdi]|((first|apply bR|apply bU|apply bT)<;>intro h<;>try simp at h))<;>(try exact cv));all_goals exact bO.rng keep eb aA bV
     ·rw[vK,k8 (fun h=>q ((lz.zero _ _).2 h)),Bool.false_or]at aA;have gD:(ev d t !=0)=true:=by simp[q]
      cases a8:mX d t
      ·rw[a8]at aA dQ;simp only[Bool.not_false,Bool.and_true]at aA;simp[eb,hdi];((with_reducible repeat' first|refine aj ?_|refine aE oq ?_|refine aF oq ?_|refine aE dQ ?_|refine aF dQ ?_|simp[eb,hdi,q,gD]|((first|apply bR|apply bU|apply bT)<;>intro h<;>try simp at h))<;>(try exact cv));all_goals exact bO.rng keep eb aA bV
      ·rw[a8]at aA dQ;simp only[Bool.not_true,Bool.and_false]at aA;simp[eb,hdi];((with_reducible repeat' first|refine aj ?_|refine aE oq ?_|refine aF oq ?_|refine aE dQ ?_|refine aF dQ ?_|simp[eb,hdi,q,gD]|((first|apply bR|apply bU|apply bT)<;>intro h<;>try simp at h))<;>(try exact cv));all_goals exact bO.rng false eb aA bV
theorem Xq(l:List T)(h:∀t∈l,t.fit=true):bK al 68 [.slice 4 .no (l.map T.e)] (.bool true):=by
 refine bm fO QN UF fun aQ=>?_;unfold HT;have eI:l.length≤68719476736:=by simp[eD,ef,et,lim]at aQ;omega
 simp;refine dW [5,6] (fun i (_:Unit)=>[(7,.int .i64 i)]) l.length (fun _ _=>True) () bV trivial (fun _ _ _=>?_) (fun i _ hi _ _=>?_)
 ·exact b6
 ·obtain⟨t,aL,pL⟩:=dV hi;have dn:=MI (h t (eo aL));clear aL;exact hd
def iw(m:Int):cE:=⟨[(.obj 831,[.int .i64 m])],[]⟩
theorem uV(m:Int):dT (iw m):=by unfold iw;exact dT.of ⟨by intro m;simp[Pv.look],by intro m;simp[Pv.look]⟩ (by simp) (by simp)
theorem X2(a b:Int):Same (iw a) (iw b):=Same.keys (by simp[iw]) (by simp[iw])
theorem ac5(v m hq:Int)(h:Dv v m=some hq):bF al 193 [.int .i64 v,.ptr (.obj 831) 0] (iw m) fun r ai=>r= .tuple []∧ai=iw hq:=by
 unfold Dv at h;split at h;rotate_left
 ·cases h
 rename_i aJ;cases h;have ag:=uV m;simp only[iw]at ag⊢;by_cases hm:m<v+1
 ·rw[rW,if_pos hm];refine bF.mk mixed wx QH Uz (by simp) ag.obj fun aQ cN=>?_;unfold HN;simp;(with_reducible repeat' first|refine aj ?_|simp[hm]);(refine cH.at (iw (v+1)) (by simp) (by first|exact uV _|exact uV ‹_› _) (Same.keys (by simp[iw]) (by simp[iw])) (by simp only[iw,bP,bX];exact aO) (by simp only[iw,bP,bX];exact aO) ?_;simp[cI,Lq,aV,aW,aU,inObs,Pv.look,iw])
 ·rw[rW,if_neg hm];refine bF.mk mixed wx QH Uz (by simp) ag.obj fun aQ cN=>?_;unfold HN;simp;(with_reducible repeat' first|refine aj ?_|simp[hm]);(refine cH.at (iw m) (by simp) (by first|exact uV _|exact uV ‹_› _) (Same.keys (by simp[iw]) (by simp[iw])) (by simp only[iw,bP,bX];exact aO) (by simp only[iw,bP,bX];exact aO) ?_;simp[cI,Lq,aV,aW,aU,inObs,Pv.look,iw])
def Du(l:List T):Int:=l.foldl (fun m t=>t.fold rW m) 0
def Fk(l:List T)(i:Nat)(m:Int):Prop:=m=Du (l.take i)
theorem amh(l:List T)(h:∀t∈l,t.fit=true):bK al 116 [.slice 4 .no (l.map T.e)] (.int .i64 (Du l)):=by
 have dn:=Xq l h;generalize a1:Du l=R;refine bm wx aaU ahx fun aQ=>?_;unfold Oc;have eI:l.length≤68719476736:=by simp[eD,ef,et,lim]at aQ;omega
 simp;(with_reducible repeat' first|refine aj ?_|refine aE dn ?_|refine aF dn ?_|simp);refine gP (fun i (m:Int)=>⟨[(3,.ptr (.obj 831) 0),(9,.slice 4 .no (l.map T.e)),(10,.int .i64 l.length),(11,.int .i64 i)],[(.obj 831,[.int .i64 m])],[],0,[.obj 831]⟩) l.length (Fk l) 0 bV rfl (fun m af _=>?_) (fun i m hi af _=>?_)
 ·rw[Fk,k6,a1]at af;subst af;exact b6
 ·obtain⟨t,aL,pL⟩:=dV hi;have aen:t.ok=true:=by have:=h t (eo aL);simp only[T.fit,cA]at this;exact this.1
  have aA:Fk l (i+1) (t.fold rW m):=by rw[Fk,qK aL,Du,List.foldl_append,af];rfl
  have key:=IW iw uV X2 193 [.ptr (.obj 831) 0] (fun a=>by simp[iw,inObs,Pv.look]) (by simp) Dv (fun v a bn h=>ac5 v a bn h) t m _ (MT t m aen);clear af aL;simp[hi,pL];(with_reducible repeat' first|refine aj ?_|simp[pL,hi]);(refine cV.ob (key) (by first|exact uV _|exact uV ‹_› _) (by simp only[iw,bP,bX];exact aO) (by simp only[iw,bP,bX];exact aO) (by simp[inObs,Pv.look,iw]) ?_;rintro r ai ⟨rfl,rfl⟩;refine⟨(Same.keys (by simp[iw]) (by simp[iw])),?_⟩;simp[cn,iw]);(with_reducible repeat' first|refine aj ?_|simp);refine bO.rng (t.fold rW m) hi aA ?_;exact bV
theorem W3{s:List au}(ag:eP s){n:Int}(aA:0≤n):bK al 58 [.slice 5 .no (s.map au.e),.int .i64 n] (.bool (s.all (kA n))):=by
 have pK:=ag.len;generalize a1:s.all (kA n)=R;refine bm wx aaV ahy fun aQ=>?_;unfold Od;simp;refine dW [1,7,8] (fun i (_:Unit)=>[(9,.int .i64 i)]) s.length (oo (kA n) s) () bV (fun k b ab=>by omega) (fun _ af _=>?_) (fun i _ hi af _=>?_)
 ·have:R=true:=by rw[←a1,ir];intro b ae;obtain⟨k,ab,e⟩:=nj ae;exact af k b ab (by rw[cf ab,e])
  rw[this];exact b6
 ·obtain⟨b,aJ,gx⟩:=dV hi;have gv:kA n b=false→R=false:=fun h=>by rw[←a1,Bool.eq_false_iff];intro cr;rw[ir]at cr;rw[cr b (eo aJ)]at h;cases h
  have kV:=amh [b.t] (fun t aL=>by simp at aL;subst aL;exact ag.fit b (eo aJ));have hle:=MU (n:=n) b.t 0;rw[show Du [b.t]=b.t.fold rW 0 from rfl]at kV;simp only[gM,mz]at kV;generalize b.t.fold rW 0=m at kV hle;by_cases J:b.v<n
  ·have nu:¬n≤b.v:=by omega
   cases U:iA n b.t
   ·have ao:n<m:=by rw[U]at hle;simp at hle;omega
    rw[gv (by simp[kA,U])];clear af aJ hle;exact b6
   ·have ao:¬n<m:=by rw[U]at hle;simp[aA]at hle;omega
    have nz:=af.step aJ (by simp[kA,J,U]);clear af aJ hle;exact hd
  ·have nu:n≤b.v:=by omega
   rw[gv (by simp[kA,J])];clear af aJ hle;exact b6
def u0:C:=(aa [cM 1 0,bf 2 false] (.seq (aa [aI 11 0 1 1,ax 12 1 11,aS 13 .lss 12 0,I 14 13,aq 14 false (aI 15 0 1 1),aq 14 false (ax 16 1 15),aq 14 false (aS 17 .gtr 16 100000),dc 18 14 17,I 19 18,aq 19 false (aI 20 1 1 1),aq 19 false (ax 21 1 20),aq 19 false (cQ 22 55 21),aq 19 false (cx 23 22),dc 24 19 23,I 25 24,aq 25 false (aI 26 3 1 1),aq 25 false (ax 27 1 26),aq 25 false (cQ 28 56 27),aq 25 false (cx 29 28),dc 30 25 29,I 31 30,aq 31 false (aI 32 4 1 1),aq 31 false (ax 33 1 32),aq 31 false (cQ 34 57 33),aq 31 false (cx 35 34),dc 36 31 35,I 37 36,aq 37 false (aI 38 1 1 1),aq 37 false (ax 39 1 38),aq 37 false (aI 40 0 1 1),aq 37 false (ax 41 1 40),aq 37 false (cd 42 58 39 41),aq 37 false (cx 43 42),dc 44 37 43] (aT 44 (aa [bf 2 false] .ret) .skip)) (.seq (aa [aI 45 2 1 1,ax 46 1 45,cb 47 46,bQ 48 0] (e4 49 48 47 (.seq (.block 1 (aa [cp 50 1 46 48,ax 51 1 50,I 4 51] (aa [I 52 4,cQ 53 55 52,cx 54 53,I 55 54,b4 55 false 56 4,aq 55 false (aI 57 0 1 1),aq 55 false (ax 58 1 57),aq 55 false (cd 59 58 56 58),aq 55 false (cx 60 59),dc 61 55 60] (aT 61 (aa [bf 2 false] .ret) .skip)))) (.region [aS 62 .add 48 1,I 48 62])))) (.seq (aa [aI 63 3 1 1,ax 64 1 63,cb 65 64,bQ 66 0] (.block 2 (.loop (aa [bk 67 .lss 66 65] (.seq (aT 67 .skip (.exit 2)) (.seq (.block 3 (aa [cp 68 2 64 66,be 69 2 68,cK (.alloc 6 none (.agg [.int .i64 0,.int .i64 0])),bW 2 6 69] (aa [aI 70 0 1 6,ax 71 1 70,aI 72 0 1 1,ax 73 1 72,bk 74 .geq 71 73] (aT 74 (aa [bf 2 false] .ret) .skip)))) (.region [aS 75 .add 66 1,I 66 75]))))))) (.seq (aa [aI 76 4 1 1,ax 77 1 76,cb 78 77,bQ 79 0] (.block 4 (.loop (aa [bk 80 .lss 79 78] (.seq (aT 80 .skip (.exit 4)) (.seq (.block 5 (aa [cp 81 2 77 79,be 82 2 81,cK (.alloc 8 none (.agg [.int .i64 0,.str []])),bW 2 8 82] (aa [aI 83 0 1 8,ax 84 1 83,aI 85 0 1 1,ax 86 1 85,bk 87 .geq 84 86] (aT 87 (aa [bf 2 false] .ret) .skip)))) (.region [aS 88 .add 79 1,I 79 88]))))))) (aa [be 90 5 1,cQ 91 50 90,I 89 91,c2 92 0 89,c2 93 1 89,dH 9 pd,bW 5 9 92,I 10 93] (aa [I 94 10,I 95 94,aq 95 true (be 96 5 9),aq 95 true (be 97 5 1),aq 95 true (cd 98 59 96 97),dK 99 95 98,I 2 99] .ret)))))))
@[simp] def ajC:List bt:=[.tmp 2]
def D1:C:=(aa [cM 1 0,dH 2 pd,bf 3 false] (aa [aI 26 1 1 1,ax 27 1 26,aI 28 3 1 1,ax 29 1 28,cd 30 120 27 29,I 25 30,c2 31 0 25,c2 32 1 25,I 4 31,I 5 32] (aa [aI 34 1 1 1,ax 35 1 34,aI 36 4 1 1,ax 37 1 36,cd 38 121 35 37,I 33 38,c2 39 0 33,c2 40 1 33,I 6 39,I 7 40] (.seq (aa [I 41 5,cx 42 41,I 43 42,b4 43 false 44 7,aq 43 false (cx 45 44),dc 46 43 45] (aT 46 (aa [k3 47 pd [],bW 5 2 47,bf 3 false] .ret) .skip)) (aa [cK (.mkmap 48 none),I 8 48] (.seq (aa [I 49 4,cb 50 49,bQ 51 0] (e4 52 51 50 (.seq (.block 1 (aa [cp 53 2 49 51,be 54 2 53,cK (.alloc 10 none (.agg [.int .i64 0,.int .i64 0])),bW 2 10 54] (aa [aI 55 1 1 10,ax 56 1 55,aS 57 .eql 56 3] (aT 57 (.region [I 58 8,aI 59 0 1 10,ax 60 1 59,cK (.mput .i (.t 58) (.t 60) (.c (.bool true)))]) .skip)))) (.region [aS 61 .add 51 1,I 51 61])))) (aa [fk 62 2 106 [],I 11 62] (.seq (aa [I 63 6,cb 64 63,bQ 65 0] (.block 2 (.loop (aa [bk 66 .lss 65 64] (.seq (aT 66 .skip (.exit 2)) (.seq (.block 3 (aa [cp 67 2 63 65,be 68 2 67,cK (.alloc 13 none (.agg [.int .i64 0,.str []])),bW 2 13 68] (aa [I 69 8,aI 70 0 1 13,ax 71 1 70,b1 72 (.mget .i (.bool false) false (.t 69) (.t 71)),cx 73 72] (aT 73 (.region [I 74 11,be 75 2 13,fk 76 2 106 [.t 75],iN 77 2 106 74 76,I 11 77]) .skip)))) (.region [aS 78 .add 65 1,I 65 78]))))))) (aa [fk 79 1 23 [],I 14 79] (.seq (aa [aI 80 2 1 1,ax 81 1 80,cb 82 81,bQ 83 0] (.block 4 (.loop (aa [bk 84 .lss 83 82] (.seq (aT 84 .skip (.exit 4)) (.seq (.block 5 (aa [cp 85 1 81 83,ax 86 1 85,I 16 86] (aa [aI 88 1 1 1,ax 89 1 88,I 90 16,cd 91 122 89 90,I 87 91,c2 92 0 87,c2 93 1 87,I 17 92,I 18 93] (.seq (aa [I 94 18,cx 95 94] (aT 95 (.exit 5) .skip)) (aa [I 97 17,I 98 4,cd 99 120 97 98,I 96 99,c2 100 0 96,c2 101 1 96,I 19 100,I 20 101] (aa [I 103 17,I 104 11,cd 105 121 103 104,I 102 105,c2 106 0 102,c2 107 1 102,I 21 106,I 22 107] (.seq (aa [I 108 20,cx 109 108,I 110 109,b4 110 false 111 22,aq 110 false (cx 112 111),dc 113 110 112] (aT 113 (.exit 5) .skip)) (aa [aI 114 1 1 1,ax 115 1 114,I 116 17,cd 117 123 115 116,I 23 117] (.seq (aa [I 118 23,cb 119 118,aS 120 .eql 119 0] (aT 120 (aa [k3 121 pd [],bW 5 2 121,bf 3 false] .ret) .skip)) (.region [I 122 14,I 123 23,fk 124 1 23 [.t 123],iN 125 1 23 122 124,I 14 125])))))))))) (.region [aS 126 .add 83 1,I 83 126]))))))) (aa [I 127 14,cQ 128 124 127,I 24 128] (.seq (aa [I 129 24,cb 130 129,aS 131 .gtr 130 30] (aT 131 (aa [k3 132 pd [],bW 5 2 132,bf 3 false] .ret) .skip)) (.seq (.drawn true 142 [aI 133 0 1 1,ax 134 1 133,aI 135 1 1 1,ax 136 1 135,cQ 137 119 136,I 138 24,I 139 4,I 140 11,k3 141 pd [(0,1,(.t 134)),(1,1,(.t 137)),(2,1,(.t 138)),(3,1,(.t 139)),(4,1,(.t 140))],bW 5 2 141,bf 3 true]) .ret)))))))))))))
@[simp] def Ah:List bt:=[.cell 2 true 5,.tmp 3]
def wT:C:=(aa [cM 2 0,cM 3 1,bf 4 false] (.seq (aa [aI 8 0 1 2,ax 9 1 8,aI 10 0 1 3,ax 11 1 10,bk 12 .neq 9 11,I 13 12,aq 13 false (aI 14 1 1 2),aq 13 false (ax 15 1 14),aq 13 false (aI 16 1 1 3),aq 13 false (ax 17 1 16),aq 13 false (cd 18 135 15 17),aq 13 false (cx 19 18),dc 20 13 19,I 21 20,aq 21 false (aI 22 2 1 2),aq 21 false (ax 23 1 22),aq 21 false (cb 24 23),aq 21 false (aI 25 2 1 3),aq 21 false (ax 26 1 25),aq 21 false (cb 27 26),aq 21 false (bk 28 .neq 24 27),dc 29 21 28,I 30 29,aq 30 false (aI 31 3 1 2),aq 30 false (ax 32 1 31),aq 30 false (cb 33 32),aq 30 false (aI 34 3 1 3),aq 30 false (ax 35 1 34),aq 30 false (cb 36 35),aq 30 false (bk 37 .neq 33 36),dc 38 30 37,I 39 38,aq 39 false (aI 40 4 1 2),aq 39 false (ax 41 1 40),aq 39 false (cb 42 41),aq 39 false (aI 43 4 1 3),aq 39 false (ax 44 1 43),aq 39 false (cb 45 44),aq 39 false (bk 46 .neq 42 45),dc 47 39 46] (aT 47 (aa [bf 4 false] .ret) .skip)) (.seq (aa [aI 48 2 1 2,ax 49 1 48,cb 50 49,bQ 51 0] (e4 52 51 50 (.seq (.block 1 (aa [I 53 51,I 5 53] (.seq (.drawn true 103 [aI 54 2 1 2,ax 55 1 54,I 56 5,cp 57 1 55 56,ax 58 1 57,aI 59 2 1 3,ax 60 1 59,I 61 5,cp 62 1 60 61,ax 63 1 62,cd 64 135 58 63,cx 65 64]) (aT 65 (aa [bf 4 false] .ret) .skip)))) (.region [aS 66 .add 51 1,I 51 66])))) (.seq (aa [aI 67 3 1 2,ax 68 1 67,cb 69 68,bQ 70 0] (.block 2 (.loop (aa [bk 71 .lss 70 69] (.seq (aT 71 .skip (.exit 2)) (.seq (.block 3 (aa [I 72 70,I 6 72] (.seq (.drawn true 103 [aI 73 3 1 2,ax 74 1 73,I 75 6,cp 76 2 74 75,be 77 2 76,aI 78 3 1 3,ax 79 1 78,I 80 6,cp 81 2 79 80,be 82 2 81,b1 83 (.beq true (some [false,false]) (.t 77) (.t 82))]) (aT 83 (aa [bf 4 false] .ret) .skip)))) (.region [aS 84 .add 70 1,I 70 84]))))))) (.seq (aa [aI 85 4 1 2,ax 86 1 85,cb 87 86,bQ 88 0] (.block 4 (.loop (aa [bk 89 .lss 88 87] (.seq (aT 89 .skip (.exit 4)) (.seq (.block 5 (aa [I 90 88,I 7 90] (.seq (.drawn true 103 [aI 91 4 1 2,ax 92 1 91,I 93 7,cp 94 2 92 93,be 95 2 94,aI 96 4 1 3,ax 97 1 96,I 98 7,cp 99 2 97 98,be 100 2 99,b1 101 (.beq true (some [false,true]) (.t 95) (.t 100))]) (aT 101 (aa [bf 4 false] .ret) .skip)))) (.region [aS 102 .add 88 1,I 88 102]))))))) (aa [bf 4 true] .ret))))))
@[simp] def Gj:List bt:=[.tmp 4]
def GZ:List (Nat×dA):=[
 (3,⟨1,8,.int .i64,.int .i64 0⟩),
 (4,⟨1,1,.bool,.bool false⟩),
 (9,⟨1,16,.str,.str []⟩),
 (23,⟨1,24,.slice 61,.slice 5 .nil []⟩),
 (24,⟨1,24,.slice 23,.slice 1 .nil []⟩),
 (25,⟨1,24,.slice 104,.slice 2 .nil []⟩),
 (26,⟨1,24,.slice 106,.slice 2 .nil []⟩),
 (28,⟨5,104,.struct [(0,3),(1,23),(2,24),(3,25),(4,26)],.agg [.int .i64 0,.slice 5 .nil [],.slice 1 .nil [],.slice 2 .nil [],.slice 2 .nil []]⟩),
 (104,⟨2,16,.struct [(0,3),(1,3)],.agg [.int .i64 0,.int .i64 0]⟩),
 (106,⟨2,24,.struct [(0,3),(1,9)],.agg [.int .i64 0,.str []]⟩),
 (154,⟨1,8,.map 3 4,.junk⟩)]
theorem nL:fN al GZ=true:=by kernel_rfl
theorem xW:bY GZ u0 ajC 1 Tryz.f18=true:=by kernel_rfl
theorem wX:al.funcs[(18:Nat)]? =some Tryz.f18:=Tryz.func18
theorem K1:bY GZ D1 Ah 1 Tryz.f50=true:=by kernel_rfl
theorem IB:al.funcs[(50:Nat)]? =some Tryz.f50:=Tryz.func50
theorem z1:bY GZ wT Gj 2 Tryz.f59=true:=by kernel_rfl
theorem yV:al.funcs[(59:Nat)]? =some Tryz.f59:=Tryz.func59
def dU.e(s:dU):ah:= .agg [.int .i64 s.n,.slice 5 .no (s.b.map au.e),.slice 1 .no (s.d.map cR),.slice 2 .no (s.k.map bL.e),.slice 2 .no (s.m.map bg.e)]
@[simp] theorem aqg(S:aD→Prop)(s:dU):aB S s.e=True:=by simp[dU.e,aB,aG]
def uH(o:aY dU):ah:= .tuple [(o.getD qO).e,.bool o.isSome]
@[simp] theorem aqe(S:aD→Prop)(o:aY dU):aB S (uH o)=True:=by simp[uH,aB,aG]
def uc(k:List bL)(i:Nat)(l:List (Int×Bool)):Prop:= ∀v,(cZ v l).getD false=(k.take i).any fun x=>x.v==v&&x.k==3
theorem uc.put{k:List bL}{i:Nat}{l:List (Int×Bool)}(h:uc k i l){x:bL}(ad:k[i]? =some x)(ao:x.k=3):uc k (i+1) (eC x.v true l):=fun v=>by
 rw[ng,qK ad,List.any_append,←h v];by_cases e:v=x.v
 ·rw[if_pos e];simp[e,ao]
 ·rw[if_neg e];have:(x.v==v)=false:=by simp;exact fun h=>e h.symm
  simp[this]
theorem uc.skip{k:List bL}{i:Nat}{l:List (Int×Bool)}(h:uc k i l){x:bL}(ad:k[i]? =some x)(ao:¬x.k=3):uc k (i+1) l:=fun v=>by
 rw[qK ad,List.any_append,←h v];have:(x.k==3)=false:=by simp[ao]
 simp[this]
theorem uc.fin{k:List bL}{l:List (Int×Bool)}(h:uc k k.length l)(ab:iU k)(x:bg):(cZ x.v l).getD false= !ko k x:=by rw[h x.v,k6,Yi ab.asc,ko,bne,Bool.not_not]
def sI(k:List bL)(m:List bg)(i:Nat)(a:List bg):Prop:=a=(m.take i).filter (ko k)
theorem sI.step{k:List bL}{m:List bg}{i:Nat}{a:List bg}(h:sI k m i a){x:bg}(ad:m[i]? =some x):sI k m (i+1) (if ko k x=true then a++[x]else a):=by
 rw[sI,qK ad,List.filter_append,←h];by_cases e:ko k x=true
 ·rw[if_pos e];simp[e]
 ·rw[if_neg e];simp[e]
theorem zI(S:aD→Prop)(l:List bg)(d:bg):aG S (l.map bg.e++[d.e])=True:=by have:=Kj S (l++[d]);rw[List.map_append]at this;exact eq_true this
theorem T3{k:List bL}{m:List bg}(h:h8 m):h8 (m.filter (ko k)):=⟨fun x ad=>h.at' x (nk.1 ad).1,XI _ h.asc⟩
theorem WI{G:List (List dz)}{k:List bL}{m:List bg}(h:nf G m):nf G (m.filter (ko k)):=fun x ad=>h x (nk.1 ad).1
theorem pP.skip{b:List au}{k:List bL}{m:List bg}{D:List (List au)}{i:Nat}{a:List (List au)}(h:pP b k m D i a){d:List au}(aR:D[i]? =some d)(he:∀r,gI b k m (d::r)=gI b k m r):pP b k m D (i+1) a:=⟨by have:=h.1;omega,h.2.1,by rw[←h.2.2,sM aR,he]⟩
theorem pP.snoc{b:List au}{k:List bL}{m:List bg}{D:List (List au)}{i:Nat}{a:List (List au)}(h:pP b k m D i a){d x:List au}(aR:D[i]? =some d)(ad:eP x)(he:∀r,gI b k m (d::r)=(gI b k m r).map (x:: ·)):pP b k m D (i+1) (a++[x]):=
 ⟨by have:=h.1;simp;omega,fun y aM=>by
  rcases jP.1 aM with aM|aM
  ·exact h.2.1 y aM
  ·simp at aM;subst aM;exact ad,by
  rw[←h.2.2,sM aR,he,Option.map_map];congr 1;funext r;simp⟩
theorem pP.stop{b:List au}{k:List bL}{m:List bg}{D:List (List au)}{i:Nat}{a:List (List au)}(h:pP b k m D i a){d:List au}(aR:D[i]? =some d)(he:∀r,gI b k m (d::r)=none):gI b k m D=none:=by rw[←h.2.2,sM aR,he];rfl
theorem pP.fin{b:List au}{k:List bL}{m:List bg}{D:List (List au)}{a:List (List au)}(h:pP b k m D D.length a):gI b k m D=some a:=by rw[←h.2.2,List.drop_length];simp[gI]
theorem uf(S:aD→Prop)(l:List (List au))(d:List au):aG S (l.map cR++[.slice 5 .no (d.map au.e)])=True:=xJ S l d
theorem Bh{d:List au}(aR:eP d):∀e∈hE d,e.1.ok=true∧e.2.ok=true:=fun e he=>by obtain⟨c,aw,rfl⟩:=iO.1 he;have:=aR.ok c aw;exact⟨by simpa[T.ok]using this.1,this.2⟩
set_option maxRecDepth 4000 in
theorem amX{s:dU}(h:yk s){G:List (List dz)}(mL:G.length≤687000)(a8:nf G s.m):bK al 50 [s.e] (uH (nc s)):=by
 generalize dh:nc s=O;have kl:=W1 h.b h.k;have km:=W2 h.b h.m mL a8;have nC:=fun k=>Gs (acc:=[]) (a:=k) h.b h.k.at' ⟨by simp,by simp⟩;have pV:=fun m=>Gt (acc:=[]) (a:=m) h.b h.m.at' ⟨by simp,by simp[hH]⟩;have mJ:=fun m=>LP (acc:=[]) (a:=m) (s:=s.b) a8 (fun x ad=>by simp at ad);have ae:=h.b;have aR:=h.d;clear h a8;unfold nc at dh;obtain⟨n,b,d,ff,m0⟩:=s;simp only at kl km nC pV mJ ae aR dh;have fA:=ae.len;simp only[dU.e];generalize fZ b ff []=ok at kl dh nC;generalize ga b m0 []=om at km dh pV mJ;cases ok with
 |none=>
  simp only at dh;subst dh;simp only[fU]at kl;simp only[iY]at km;clear nC pV mJ;refine bm nL IB K1 fun aQ=>?_;unfold D1;simp;(with_reducible repeat' first|refine aj ?_|refine aE kl ?_|refine aF kl ?_|refine aE km ?_|refine aF km ?_|simp);all_goals simp[bu,Ah,aV,aW,aU]
  all_goals simp[uH,qO,dU.e]
 |some k=>
  simp only at dh;cases om with
  |none=>
   simp only at dh;subst dh;simp only[fU]at kl;simp only[iY]at km;clear nC pV mJ;refine bm nL IB K1 fun aQ=>?_;unfold D1;simp;(with_reducible repeat' first|refine aj ?_|refine aE kl ?_|refine aF kl ?_|refine aE km ?_|refine aF km ?_|simp);all_goals simp[bu,Ah,aV,aW,aU]
   all_goals simp[uH,qO,dU.e]
  |some m=>
   simp only at dh;have vl:=nC k rfl;have xq:=pV m rfl;have xh:=mJ m rfl;have ik:=vF vl;have mc:m.length≤68719470000:=by have:=Cx xq xh;omega
   have zm:=T3 (k:=k) xq;have zg:=WI (k:=k) xh;have aeK:(m.filter (ko k)).length≤68719470000:=j4 (List.length_filter_le _ _) mc;simp only[fU,k7,r5]at kl;simp only[iY,k7,r5]at km;clear nC pV mJ;refine bm nL IB K1 fun aQ=>?_;unfold D1;have Jh:d.length≤68719476736:=by simp[eD,ef,et,lim]at aQ;omega
   simp;(with_reducible repeat' first|refine aj ?_|refine aE kl ?_|refine aF kl ?_|refine aE km ?_|refine aF km ?_|simp);refine gP (fun i (l:List (Int×Bool))=>⟨[(1,.ptr (.loc 0) 0),(2,.ptr (.loc 1) 0),(4,.slice 2 .no (k.map bL.e)),(6,.slice 2 .no (m.map bg.e)),(8,.gmap (.loc 2)),(49,.slice 2 .no (k.map bL.e)),(50,.int .i64 k.length),(51,.int .i64 i)],[(.loc 0,[.int .i64 n,.slice 5 .no (b.map au.e),.slice 1 .no (d.map cR),.slice 2 .no (ff.map bL.e),.slice 2 .no (m0.map bg.e)]),(.loc 1,[.int .i64 0,.slice 5 .nil [],.slice 1 .nil [],.slice 2 .nil [],.slice 2 .nil []]),(.loc 2,pe l)],[],3,[]⟩) k.length (uc k) [] ⟨by simp[fresh,aG,aB,cg,inObs,Pv.look,Kv],ec (by simp[fresh,aG,aB,cg,inObs,Pv.look,Kv]),ed (by simp[fresh,aG,aB,dR,inObs,Pv.look,Kv]),by simp⟩ (fun v=>by simp[cZ]) (fun l af _=>?_) (fun i l hi af _=>?_);rotate_left
   ·obtain⟨x,ad,cC⟩:=dV hi;by_cases ao:x.k=3
    ·have aA:=af.put ad ao;clear af ad;exact hd
    ·have aA:=af.skip ad ao;have sp:(x.k==3)=false:=by simp[ao]
     clear af ad;exact hd
   have hints:=af.fin vl;clear af;simp;(with_reducible repeat' first|refine aj ?_|simp);refine gP (fun i (a:List bg)=>⟨[(1,.ptr (.loc 0) 0),(2,.ptr (.loc 1) 0),(4,.slice 2 .no (k.map bL.e)),(8,.gmap (.loc 2)),(11,.slice 2 (.own (.loc 3)) (a.map bg.e)),(63,.slice 2 .no (m.map bg.e)),(64,.int .i64 m.length),(65,.int .i64 i)],[(.loc 0,[.int .i64 n,.slice 5 .no (b.map au.e),.slice 1 .no (d.map cR),.slice 2 .no (ff.map bL.e),.slice 2 .no (m0.map bg.e)]),(.loc 1,[.int .i64 0,.slice 5 .nil [],.slice 1 .nil [],.slice 2 .nil [],.slice 2 .nil []]),(.loc 2,pe l)],[(.loc 3,⟨a.length,106,2,none⟩)],4,[]⟩) m.length (sI k m) [] bV (by simp[sI]) (fun a af _=>?_) (fun i a hi af _=>?_);rotate_left
   ·obtain⟨x,ad,cC⟩:=dV hi;have q9:a.length≤68719470000:=by
     have:a.length≤(m.take i).length:=by rw[af];exact List.length_filter_le _ _
     simp at this;omega
    have aA:=af.step ad;have br:=hints x;cases aH:ko k x
    ·rw[aH]at aA br;simp only[gT,if_false,Bool.not_false]at aA br;clear af ad aH;simp[hi,cC];((with_reducible repeat' first|refine aj ?_|simp[hi,cC,br]|((first|apply bR|apply bU|apply bT)<;>intro h<;>try simp at h))<;>(try exact cv));all_goals exact bO.rng a hi aA bV
    ·rw[aH]at aA br;simp only[if_true,Bool.not_true]at aA br;clear af ad aH;simp[hi,cC];((with_reducible repeat' first|refine aj ?_|simp[hi,cC,br]|((first|apply bR|apply bU|apply bT)<;>intro h<;>try simp at h))<;>(try exact cv));all_goals first|(refine⟨by unfold lim;omega,?_⟩)|skip
     all_goals(with_reducible repeat' first|refine aj ?_|simp)
     all_goals exact bO.rng (a++[x]) hi aA ⟨by simp[fresh,aG,aB,cg,inObs,Pv.look,zI],ec (by simp[fresh,aG,aB,cg,inObs,Pv.look,zI]),ed (by simp[fresh,aG,aB,dR,inObs,Pv.look,zI]),by simp⟩
   rw[sI,k6]at af;rw[←af]at zm zg aeK dh;clear af hints ik xq xh;simp;(with_reducible repeat' first|refine aj ?_|simp);refine gP (fun i (L:List (List au))=>⟨[(1,.ptr (.loc 0) 0),(2,.ptr (.loc 1) 0),(4,.slice 2 .no (k.map bL.e)),(11,.slice 2 (.own (.loc 3)) (a.map bg.e)),(14,.slice 1 (.own (.loc 4)) (L.map cR)),(81,.slice 1 .no (d.map cR)),(82,.int .i64 d.length),(83,.int .i64 i)],[(.loc 0,[.int .i64 n,.slice 5 .no (b.map au.e),.slice 1 .no (d.map cR),.slice 2 .no (ff.map bL.e),.slice 2 .no (m0.map bg.e)]),(.loc 1,[.int .i64 0,.slice 5 .nil [],.slice 1 .nil [],.slice 2 .nil [],.slice 2 .nil []])],[(.loc 3,⟨a.length,106,2,none⟩),(.loc 4,⟨L.length,23,1,none⟩)],5,[]⟩) d.length (pP b k a d) [] bV ⟨by simp,by simp,by simp⟩ (fun L af _=>?_) (fun i L hi af _=>?_)
   ·have jo:=af.fin;have vf:=af.2.1;rw[jo]at dh;simp only at dh;have mV:=al9 L vf;have kk:bK al 119 [.slice 5 .no (b.map au.e)] (.slice 5 .no (b.map au.e)):=W4 b fA;clear af jo vf;generalize kF L=M at mV dh;by_cases lf:M.length≤30
    ·have n4:¬(30:Int)<M.length:=by omega
     rw[if_pos lf]at dh;subst dh;simp;(with_reducible repeat' first|refine aj ?_|refine aE mV ?_|refine aF mV ?_|refine aE kk ?_|refine aF kk ?_|simp[lf,n4]);all_goals simp[bu,Ah,aV,aW,aU]
     all_goals simp[uH,dU.e]
    ·have n4:(30:Int)<M.length:=by omega
     rw[if_neg lf]at dh;subst dh;simp;(with_reducible repeat' first|refine aj ?_|refine aE mV ?_|refine aF mV ?_|refine aE kk ?_|refine aF kk ?_|simp[lf,n4]);all_goals simp[bu,Ah,aV,aW,aU]
     all_goals simp[uH,qO,dU.e]
   ·obtain⟨x,ad,cC⟩:=dV hi;have gY:=aR x (eo ad);have RD:=af.1;have hM:bK al 122 [.slice 5 .no (b.map au.e),cR x] (gh (mgu b (hE x))):=al6 ae gY;simp only[gh]at hM;cases hu:mgu b (hE x)with
    |none=>have aA:=af.skip ad fun r=>Kp hu;rw[hu]at hM;simp only[nl,l0]at hM;clear af ad dh;exact hd
    |some y=>
     have iS:=ae.mgu (Bh gY) hu;rw[hu]at hM;simp only[k7,r5]at hM;have dj:=W1 iS vl;have dQ:=W2 iS zm mL zg;have hN:=amb ae iS;simp only[fU]at dj;simp only[iY]at dQ;by_cases jr:fZ y k []=none∨ga y a []=none
     ·have aA:=af.skip ad fun r=>Ko hu jr;clear af ad dh hu;rcases jr with e|e
      ·rw[e]at dj;simp only[nl,l0]at dj;exact hd
      ·rw[e]at dQ;simp only[nl,l0]at dQ;cases (fZ y k []).isSome
       ·simp[hi,cC];((with_reducible repeat' first|refine aj ?_|refine aE hM ?_|refine aF hM ?_|refine aE dj ?_|refine aF dj ?_|refine aE dQ ?_|refine aF dQ ?_|simp[hi,cC]|((first|apply bR|apply bU|apply bT)<;>intro h<;>try simp at h))<;>(try exact cv));all_goals exact bO.rng L hi aA bV
       ·simp[hi,cC];((with_reducible repeat' first|refine aj ?_|refine aE hM ?_|refine aF hM ?_|refine aE dj ?_|refine aF dj ?_|refine aE dQ ?_|refine aF dQ ?_|simp[hi,cC]|((first|apply bR|apply bU|apply bT)<;>intro h<;>try simp at h))<;>(try exact cv));all_goals exact bO.rng L hi aA bV
     ·have ak:(fZ y k []).isSome=true:=by cases e:fZ y k []with|none=>exact absurd (.inl e) jr|some _=>rfl
      have aC:(ga y a []).isSome=true:=by cases e:ga y a []with|none=>exact absurd (.inr e) jr|some _=>rfl
      rw[ak]at dj;rw[aC]at dQ;by_cases cF:gz b y=[]
      ·have ag:=af.stop ad fun r=>Kn hu jr cF;rw[ag]at dh;simp only at dh;subst dh;rw[cF]at hN;simp only[mz]at hN;clear af ad hu jr;simp[hi,cC];((with_reducible repeat' first|refine aj ?_|refine aE hM ?_|refine aF hM ?_|refine aE dj ?_|refine aF dj ?_|refine aE dQ ?_|refine aF dQ ?_|refine aE hN ?_|refine aF hN ?_|simp[hi,cC]|((first|apply bR|apply bU|apply bT)<;>intro h<;>try simp at h))<;>(try exact cv));all_goals simp[bu,Ah,aV,aW,aU]
       all_goals simp[uH,qO,dU.e]
      ·have aA:=af.snoc ad (FQ (b:=b) iS) fun r=>Kq hu jr cF;have vn:¬((gz b y).length:Int)=0:=by have:(gz b y).length≠0:=fun h=>cF (List.length_eq_zero_iff.1 h);omega
       have vo:(((gz b y).length:Int)==0)=false:=by simp[cF]
       have Fq:bK al 123 [.slice 5 .no (b.map au.e),.slice 5 .no (y.map au.e)] (cR (gz b y)):=hN;clear af ad hu jr dh hN;generalize gz b y=z at Fq aA vn vo cF;simp only[cR]at Fq;simp[hi,cC];(with_reducible repeat' first|refine aj ?_|refine aE hM ?_|refine aF hM ?_|refine aE dj ?_|refine aF dj ?_|refine aE dQ ?_|refine aF dQ ?_|refine aE Fq ?_|refine aF Fq ?_|simp[hi,cC,vn,vo,cF]);all_goals first|(refine⟨by unfold lim;omega,?_⟩)|skip
       all_goals(with_reducible repeat' first|refine aj ?_|simp)
       all_goals exact bO.rng (L++[z]) hi aA ⟨by simp[fresh,aG,aB,cg,inObs,Pv.look,uf,cR],ec (by simp[fresh,aG,aB,cg,inObs,Pv.look,uf,cR]),ed (by simp[fresh,aG,aB,dR,inObs,Pv.look,uf,cR]),by simp⟩
@[simp] theorem anP(neg:Bool)(x y:bL):ig neg (some [false,false]) x.e y.e=some (True,.bool (if neg then !decide (x=y)else decide (x=y))):=by
 have h:(x.v==y.v&&(x.k==y.k&&true))=decide (x=y):=by rw[p4];simp only[Bool.and_true,cA,dL,fm];cases x;cases y;simp
 rw[←h];rfl
@[simp] theorem anQ(neg:Bool)(x y:bg):ig neg (some [false,true]) x.e y.e=some (True,.bool (if neg then !decide (x=y)else decide (x=y))):=by
 have h:(x.v==y.v&&(x.s==y.s&&true))=decide (x=y):=by rw[p4];simp only[Bool.and_true,cA,dL,fm];cases x;cases y;simp
 rw[←h];rfl
theorem ams(x y:List au)(h:x.length≤1000000):bK al 135 [cR x,cR y] (.bool (decide (x=y))):=W8 x y h
set_option maxRecDepth 4000 in
theorem amV(a c:dU)(mN:a.b.length≤1000000)(BD:∀x∈a.d,x.length≤1000000):bK al 59 [a.e,c.e] (.bool (decide (a=c))):=by
 obtain⟨n,b,d,k,m⟩:=a;obtain⟨n',b2,b9,bM,hq⟩:=c;simp only at mN BD;generalize a1:decide ((⟨n,b,d,k,m⟩:dU)=⟨n',b2,b9,bM,hq⟩)=R;simp only[dU.mk.injEq,dU.e]at a1⊢;by_cases a6:n=n';rotate_left
 ·have fS:R=false:=by rw[←a1];simp[a6]
  have sU:(n !=n')=true:=by simp[a6]
  rw[fS];clear a1 fS;refine bm nL yV z1 fun aQ=>?_;unfold wT;exact b6
 subst a6;have fB:=W8 b b2 mN;by_cases bB:b=b2;rotate_left
 ·have fS:R=false:=by rw[←a1];simp[bB]
  rw[k8 bB]at fB;rw[fS];clear a1 fS;refine bm nL yV z1 fun aQ=>?_;unfold wT;exact b6
 subst bB;rw[kN rfl]at fB;by_cases bS:d.length=b9.length;rotate_left
 ·have fS:R=false:=by rw[←a1];simp only[gr];rintro⟨_,_,rfl,_⟩;exact bS rfl
  have rL:((d.length:Int) !=b9.length)=true:=by simp;omega
  rw[fS];clear a1 fS;refine bm nL yV z1 fun aQ=>?_;unfold wT;exact b6
 by_cases c1:k.length=bM.length;rotate_left
 ·have fS:R=false:=by rw[←a1];simp only[gr];rintro⟨_,_,_,rfl,_⟩;exact c1 rfl
  have aju:((k.length:Int) !=bM.length)=true:=by simp;omega
  rw[fS];clear a1 fS;refine bm nL yV z1 fun aQ=>?_;unfold wT;exact b6
 by_cases c9:m.length=hq.length;rotate_left
 ·have fS:R=false:=by rw[←a1];simp only[gr];rintro⟨_,_,_,_,rfl⟩;exact c9 rfl
  have ajv:((m.length:Int) !=hq.length)=true:=by simp;omega
  rw[fS];clear a1 fS;refine bm nL yV z1 fun aQ=>?_;unfold wT;exact b6
 have xu:d≠b9→R=false:=fun h=>by rw[←a1];simp[h]
 have xv:k≠bM→R=false:=fun h=>by rw[←a1];simp[h]
 have JB:m≠hq→R=false:=fun h=>by rw[←a1];simp[h]
 refine bm nL yV z1 fun aQ=>?_;unfold wT;have BS:b9.length≤68719476736:=by simp[eD,ef,et,lim]at aQ;omega
 have aeC:bM.length≤68719476736:=by simp[eD,ef,et,lim]at aQ;omega
 have aeD:hq.length≤68719476736:=by simp[eD,ef,et,lim]at aQ;omega
 clear aQ;simp;(with_reducible repeat' first|refine aj ?_|refine aE fB ?_|refine aF fB ?_|simp[bS,c1,c9]);have dg:=xu;refine dW [2,3,50] (fun i (_:Unit)=>[(51,.int .i64 i)]) b9.length (qX d b9) () bV (fun k ab=>by omega) (fun _ af _=>?_) (fun i _ hi af _=>?_);rotate_left
 ·obtain⟨x,ad⟩:∃x,d[i]? =some x:=⟨_,cf (by omega)⟩;obtain⟨y,aM⟩:∃y,b9[i]? =some y:=⟨_,cf hi⟩;have gd:i<d.length:=by omega
  have cC:∀h,(d[i]'h)=x:=fun h=>by rw[cf gd]at ad;exact fl ad
  have eJ:∀h,(b9[i]'h)=y:=fun h=>by rw[cf hi]at aM;exact fl aM
  have fB:=ams x y (BD x (eo ad));by_cases q:x=y
  ·subst q;have aA:=af.step ad aM;rw[kN rfl]at fB;clear af ad aM;simp[hi,gd,cC,eJ,-ig];(with_reducible repeat' first|refine aj ?_|refine aE fB ?_|refine aF fB ?_|simp[cC,eJ,hi,gd,-ig]);all_goals exact bO.rng () hi aA bV
  ·rw[dg (fun h=>q (by rw[h]at ad;rw[ad]at aM;exact fl aM))];rw[k8 q]at fB;clear af ad aM;simp[hi,gd,cC,eJ,-ig];(with_reducible repeat' first|refine aj ?_|refine aE fB ?_|refine aF fB ?_|simp[cC,eJ,hi,gd,q,-ig]);all_goals simp[bu,Gj,aV,aW,aU]
 have dw:=af.fin bS;subst dw;clear af dg xu bS;simp;(with_reducible repeat' first|refine aj ?_|simp[c1]);have dg:=xv;refine dW [2,3,69] (fun i (_:Unit)=>[(70,.int .i64 i)]) bM.length (qX k bM) () bV (fun k ab=>by omega) (fun _ af _=>?_) (fun i _ hi af _=>?_);rotate_left
 ·obtain⟨x,ad⟩:∃x,k[i]? =some x:=⟨_,cf (by omega)⟩;obtain⟨y,aM⟩:∃y,bM[i]? =some y:=⟨_,cf hi⟩;have gd:i<k.length:=by omega
  have cC:∀h,(k[i]'h)=x:=fun h=>by rw[cf gd]at ad;exact fl ad
  have eJ:∀h,(bM[i]'h)=y:=fun h=>by rw[cf hi]at aM;exact fl aM
  have fB:=True.intro;by_cases q:x=y
  ·subst q;have aA:=af.step ad aM;skip;clear af ad aM;simp[hi,gd,cC,eJ,-ig];(with_reducible repeat' first|refine aj ?_|refine aE fB ?_|refine aF fB ?_|simp[cC,eJ,hi,gd,-ig]);all_goals exact bO.rng () hi aA bV
  ·rw[dg (fun h=>q (by rw[h]at ad;rw[ad]at aM;exact fl aM))];skip;clear af ad aM;simp[hi,gd,cC,eJ,-ig];(with_reducible repeat' first|refine aj ?_|refine aE fB ?_|refine aF fB ?_|simp[cC,eJ,hi,gd,q,-ig]);all_goals simp[bu,Gj,aV,aW,aU]
 have dw:=af.fin c1;subst dw;clear af dg xv c1;simp;(with_reducible repeat' first|refine aj ?_|simp[c9]);have dg:=JB;refine dW [2,3,87] (fun i (_:Unit)=>[(88,.int .i64 i)]) hq.length (qX m hq) () bV (fun k ab=>by omega) (fun _ af _=>?_) (fun i _ hi af _=>?_);rotate_left
 ·obtain⟨x,ad⟩:∃x,m[i]? =some x:=⟨_,cf (by omega)⟩;obtain⟨y,aM⟩:∃y,hq[i]? =some y:=⟨_,cf hi⟩;have gd:i<m.length:=by omega
  have cC:∀h,(m[i]'h)=x:=fun h=>by rw[cf gd]at ad;exact fl ad
  have eJ:∀h,(hq[i]'h)=y:=fun h=>by rw[cf hi]at aM;exact fl aM
  have fB:=True.intro;by_cases q:x=y
  ·subst q;have aA:=af.step ad aM;skip;clear af ad aM;simp[hi,gd,cC,eJ,-ig];(with_reducible repeat' first|refine aj ?_|refine aE fB ?_|refine aF fB ?_|simp[cC,eJ,hi,gd,-ig]);all_goals exact bO.rng () hi aA bV
  ·rw[dg (fun h=>q (by rw[h]at ad;rw[ad]at aM;exact fl aM))];skip;clear af ad aM;simp[hi,gd,cC,eJ,-ig];(with_reducible repeat' first|refine aj ?_|refine aE fB ?_|refine aF fB ?_|simp[cC,eJ,hi,gd,q,-ig]);all_goals simp[bu,Gj,aV,aW,aU]
 have dw:=af.fin c9;subst dw;have fS:R=true:=by rw[←a1];simp
 rw[fS];exact b6
def hV.e(r:hV):ah:= .agg [.int .i64 r.n,.slice 5 .no (r.b.map cX.e),.slice 1 .no (r.d.map fQ),.slice 2 .no (r.k.map bL.e),.slice 2 .no (r.m.map bg.e)]
theorem Mj(s:dU):s.r.e=s.e:=by simp only[dU.r,hV.e,dU.e,xQ,Ij]
@[simp] theorem aqf(S:aD→Prop)(r:hV):aB S r.e=True:=by simp[hV.e,aB,aG]
theorem ame(x:List cX):bK al 55 [fQ x] (.bool (gE x)):=MH x
open Classical in
set_option maxRecDepth 4000 in
theorem amd(r:hV)(eu:h8 r.m→Dk r.m):bK al 18 [r.e] (.bool (decide (rQ r))):=by
 generalize a1:decide (rQ r)=R;have dg:¬LN r→R=false:=fun h=>by rw[←a1,gr];exact fun cr=>h cr.raw
 obtain⟨n,b,d,k,m⟩:=r;simp only[hV.e]at eu⊢;by_cases g1:n<0
 ·rw[dg fun h=>by have:=h.n.1;simp only at this;omega];refine bm nL wX xW fun aQ=>?_;unfold u0;exact b6
 by_cases g2:100000<n
 ·rw[dg fun h=>by have:=h.n.2;simp only at this;omega];refine bm nL wX xW fun aQ=>?_;unfold u0;exact b6
 have kV:bK al 55 [.slice 5 .no (b.map cX.e)] (.bool (gE b)):=MH b;cases g3:gE b
 ·rw[dg fun h=>by obtain⟨s,ak,aC,_⟩:=h.b;have:=qJ.2 (wj.2 ⟨s,ak,aC⟩);simp only at this;rw[g3]at this;cases this]
  rw[g3]at kV;refine bm nL wX xW fun aQ=>?_;unfold u0;exact b6
 rw[g3]at kV;obtain⟨s,rfl,ag⟩:=wj.1 (qJ.1 g3);clear g3;rw[xQ]at kV⊢;have dj:=WX k;by_cases g4:iU k;rotate_left
 ·rw[dg fun h=>g4 h.k];rw[k8 g4]at dj;refine bm nL wX xW fun aQ=>?_;unfold u0;exact b6
 rw[kN g4]at dj;have dQ:=WZ m;by_cases g5:h8 m;rotate_left
 ·rw[dg fun h=>g5 h.m];rw[k8 g5]at dQ;refine bm nL wX xW fun aQ=>?_;unfold u0;exact b6
 rw[kN g5]at dQ;have kW:=W3 ag (n:=n) (by omega);cases g6:s.all (kA n)
 ·rw[dg fun h=>by obtain⟨ai,ak,_,bj⟩:=h.b;have dd:=uW ak;subst dd;rw[uZ.2 bj]at g6;cases g6]
  rw[g6]at kW;refine bm nL wX xW fun aQ=>?_;unfold u0;exact b6
 rw[g6]at kW;have cN:=uZ.1 g6;clear g6;have BV:=eu g5;have mc:=BV.len g5;refine bm nL wX xW fun aQ=>?_;unfold u0;have Jh:d.length≤68719476736:=by simp[eD,ef,et,lim]at aQ;omega
 have ik:=vF g4;clear aQ eu;simp;(with_reducible repeat' first|refine aj ?_|refine aE kV ?_|refine aF kV ?_|refine aE dj ?_|refine aF dj ?_|refine aE dQ ?_|refine aF dQ ?_|refine aE kW ?_|refine aF kW ?_|simp[g1,g2]);refine dW [1,46,47] (fun i (_:Unit)=>[(48,.int .i64 i)]) d.length (rA (jU n) d) () bV (fun k b ab=>by omega) (fun _ af _=>?_) (fun i _ hi af _=>?_);rotate_left
 ·obtain⟨x,ad,cC⟩:=dV hi;have Cf:=eo ad;have dq:=ame x;cases l8:gE x
  ·rw[dg fun h=>by obtain⟨ai,ak,aC,_⟩:=h.d x Cf;rw[qJ.2 (wj.2 ⟨ai,ak,aC⟩)]at l8;cases l8]
   rw[l8]at dq;clear af ad Cf;exact b6
  ·rw[l8]at dq;obtain⟨y,rfl,aM⟩:=wj.1 (qJ.1 l8);clear l8;rw[Ii]at dq;have ml:bK al 58 [cR y,.int .i64 n] (.bool (y.all (kA n))):=W3 aM (n:=n) (by omega);have apf:∀h,fQ (d[i]'h)=cR y:=fun h=>by rw[cC h,Ii]
   cases q5:y.all (kA n)
   ·rw[dg fun h=>by obtain⟨ai,ak,_,bj⟩:=h.d _ Cf;have dd:=uW ak;subst dd;rw[uZ.2 bj]at q5;cases q5]
    rw[q5]at ml;clear af ad Cf cC;exact b6
   ·rw[q5]at ml;have aA:=af.step ad ⟨y,rfl,aM,uZ.1 q5⟩;clear af ad Cf cC;exact hd
 obtain⟨D,rfl,By,I7⟩:=Qm af.fin;clear af;simp only[Ij];simp;(with_reducible repeat' first|refine aj ?_|simp);refine dW [1,64,65] (fun i (_:Unit)=>[(66,.int .i64 i)]) k.length (rA (fun x=>x.v<n) k) () bV (fun k b ab=>by omega) (fun _ af _=>?_) (fun i _ hi af _=>?_);rotate_left
 ·obtain⟨x,ad,cC⟩:=dV hi;by_cases l8:x.v<n
  ·have w7:¬n≤x.v:=by omega
   have aA:=af.step ad l8;clear af ad;exact hd
  ·have w7:n≤x.v:=by omega
   rw[dg fun h=>l8 (h.kb x (eo ad))];clear af ad;exact b6
 have xi:=af.fin;clear af;simp;(with_reducible repeat' first|refine aj ?_|simp);have xj:=xi;refine dW [1,77,78] (fun i (_:Unit)=>[(79,.int .i64 i)]) m.length (rA (fun x=>x.v<n) m) () bV (fun k b ab=>by omega) (fun _ af _=>?_) (fun i _ hi af _=>?_);rotate_left
 ·obtain⟨x,ad,cC⟩:=dV hi;by_cases l8:x.v<n
  ·have w7:¬n≤x.v:=by omega
   have aA:=af.step ad l8;clear af ad;exact hd
  ·have w7:n≤x.v:=by omega
   rw[dg fun h=>l8 (h.mb x (eo ad))];clear af ad;exact b6
 have xi:=af.fin;clear af;simp;(with_reducible repeat' first|refine aj ?_|simp);have vq:=xi;have cO:yk ⟨n,s,D,k,m⟩:=⟨by simp only;omega,ag,By,g4,g5,cN,I7,xj,vq⟩;have jq:=Wr cO;obtain⟨G,mL,a8⟩:=BV;have dn:=amX cO mL a8;have kT:rQ ⟨n,s.map au.b,D.map fun x=>x.map au.b,k,m⟩↔nc ⟨n,s,D,k,m⟩=some ⟨n,s,D,k,m⟩:=jq;clear jq dg;simp only[uH]at dn;cases lr:nc ⟨n,s,D,k,m⟩with
 |none=>
  rw[lr]at dn kT;have fS:R=false:=by rw[←a1,gr,kT];simp
  rw[fS];simp only[nl,l0,dU.e]at dn;clear a1 fS kT;exact b6
 |some t=>
  have zw:=akU cO lr;rw[lr]at dn kT;have vG:=amV t ⟨n,s,D,k,m⟩ zw.1.1.b.len (fun x ad=>(zw.1.1.d x ad).len);have fS:R=decide (t=⟨n,s,D,k,m⟩):=by rw[←a1,decide_eq_decide,kT];simp
  rw[fS];simp only[k7,r5]at dn;simp only[dU.e]at dn vG;clear a1 fS kT zw;generalize decide (t=(⟨n,s,D,k,m⟩:dU))=Q at vG⊢;obtain⟨ta,WK,WL,s9,tm⟩:=t;simp only at dn vG;exact b6
def u3:C:=(aa [cM 1 0,bf 2 false] (.seq (aa [aI 11 0 1 1,ax 12 1 11,dI 13 141 [.t 12,(gp 0),(gp 100000)],cx 14 13,I 15 14,aq 15 false (aI 16 1 1 1),aq 15 false (ax 17 1 16),aq 15 false (cQ 18 142 17),aq 15 false (cx 19 18),dc 20 15 19,I 21 20,aq 21 false (aI 22 2 1 1),aq 21 false (ax 23 1 22),aq 21 false (cQ 24 143 23),aq 21 false (cx 25 24),dc 26 21 25,I 27 26,aq 27 false (aI 28 3 1 1),aq 27 false (ax 29 1 28),aq 27 false (cQ 30 144 29),aq 27 false (cx 31 30),dc 32 27 31,I 33 32,aq 33 false (aI 34 4 1 1),aq 33 false (ax 35 1 34),aq 33 false (cQ 36 145 35),aq 33 false (cx 37 36),dc 38 33 37,I 39 38,aq 39 false (aI 40 1 1 1),aq 39 false (ax 41 1 40),aq 39 false (aI 42 0 1 1),aq 39 false (ax 43 1 42),aq 39 false (cd 44 146 41 43),aq 39 false (cx 45 44),dc 46 39 45] (aT 46 (aa [bf 2 false] .ret) .skip)) (.seq (aa [aI 47 2 1 1,ax 48 1 47,cb 49 48,bQ 50 0] (e4 51 50 49 (.seq (.block 1 (aa [cp 52 1 48 50,ax 53 1 52,I 4 53] (aa [I 54 4,aI 55 0 1 1,ax 56 1 55,cd 57 146 54 56,cx 58 57] (aT 58 (aa [bf 2 false] .ret) .skip)))) (.region [aS 59 .add 50 1,I 50 59])))) (.seq (aa [aI 60 3 1 1,ax 61 1 60,cb 62 61,bQ 63 0] (.block 2 (.loop (aa [bk 64 .lss 63 62] (.seq (aT 64 .skip (.exit 2)) (.seq (.block 3 (aa [cp 65 2 61 63,be 66 2 65,cK (.alloc 6 none (.agg [.int .i64 0,.int .i64 0])),bW 2 6 66] (aa [aI 67 0 1 6,ax 68 1 67,aI 69 0 1 1,ax 70 1 69,bk 71 .geq 68 70] (aT 71 (aa [bf 2 false] .ret) .skip)))) (.region [aS 72 .add 63 1,I 63 72]))))))) (.seq (aa [aI 73 4 1 1,ax 74 1 73,cb 75 74,bQ 76 0] (.block 4 (.loop (aa [bk 77 .lss 76 75] (.seq (aT 77 .skip (.exit 4)) (.seq (.block 5 (aa [cp 78 2 74 76,be 79 2 78,cK (.alloc 8 none (.agg [.int .i64 0,.str []])),bW 2 8 79] (aa [aI 80 0 1 8,ax 81 1 80,aI 82 0 1 1,ax 83 1 82,bk 84 .geq 81 83] (aT 84 (aa [bf 2 false] .ret) .skip)))) (.region [aS 85 .add 76 1,I 76 85]))))))) (aa [be 87 5 1,cQ 88 147 87,I 86 88,c2 89 0 86,c2 90 1 86,dH 9 pd,bW 5 9 89,I 10 90] (aa [I 91 10,I 92 91,aq 92 true (be 93 5 9),aq 92 true (be 94 5 1),aq 92 true (cd 95 94 93 94),dK 96 92 95,I 2 96] .ret)))))))
@[simp] def akr:List bt:=[.tmp 2]
def wV:C:=(aa [cM 2 0,cM 3 1,bf 4 false] (.seq (aa [aI 11 0 1 2,ax 12 1 11,aI 13 0 1 3,ax 14 1 13,bk 15 .neq 12 14,I 16 15,aq 16 false (aI 17 1 1 2),aq 16 false (ax 18 1 17),aq 16 false (aI 19 1 1 3),aq 16 false (ax 20 1 19),aq 16 false (cd 21 180 18 20),aq 16 false (aS 22 .neq 21 0),dc 23 16 22,I 24 23,aq 24 false (aI 25 2 1 2),aq 24 false (ax 26 1 25),aq 24 false (cb 27 26),aq 24 false (aI 28 2 1 3),aq 24 false (ax 29 1 28),aq 24 false (cb 30 29),aq 24 false (bk 31 .neq 27 30),dc 32 24 31,I 33 32,aq 33 false (aI 34 3 1 2),aq 33 false (ax 35 1 34),aq 33 false (cb 36 35),aq 33 false (aI 37 3 1 3),aq 33 false (ax 38 1 37),aq 33 false (cb 39 38),aq 33 false (bk 40 .neq 36 39),dc 41 33 40,I 42 41,aq 42 false (aI 43 4 1 2),aq 42 false (ax 44 1 43),aq 42 false (cb 45 44),aq 42 false (aI 46 4 1 3),aq 42 false (ax 47 1 46),aq 42 false (cb 48 47),aq 42 false (bk 49 .neq 45 48),dc 50 42 49] (aT 50 (aa [bf 4 false] .ret) .skip)) (.seq (aa [aI 51 2 1 2,ax 52 1 51,cb 53 52,bQ 54 0] (e4 55 54 53 (.seq (.block 1 (aa [I 56 54,cp 57 1 52 54,ax 58 1 57,I 5 56,I 6 58] (aa [I 59 6,aI 60 2 1 3,ax 61 1 60,I 62 5,cp 63 1 61 62,ax 64 1 63,cd 65 180 59 64,aS 66 .neq 65 0] (aT 66 (aa [bf 4 false] .ret) .skip)))) (.region [aS 67 .add 54 1,I 54 67])))) (.seq (aa [aI 68 3 1 2,ax 69 1 68,cb 70 69,bQ 71 0] (.block 2 (.loop (aa [bk 72 .lss 71 70] (.seq (aT 72 .skip (.exit 2)) (.seq (.block 3 (aa [I 73 71,cp 74 2 69 71,be 75 2 74,cK (.alloc 8 none (.agg [.int .i64 0,.int .i64 0])),I 7 73,bW 2 8 75] (.seq (.drawn true 100 [be 76 2 8,aI 77 3 1 3,ax 78 1 77,I 79 7,cp 80 2 78 79,be 81 2 80,b1 82 (.beq true (some [false,false]) (.t 76) (.t 81))]) (aT 82 (aa [bf 4 false] .ret) .skip)))) (.region [aS 83 .add 71 1,I 71 83]))))))) (.seq (aa [aI 84 4 1 2,ax 85 1 84,cb 86 85,bQ 87 0] (.block 4 (.loop (aa [bk 88 .lss 87 86] (.seq (aT 88 .skip (.exit 4)) (.seq (.block 5 (aa [I 89 87,cp 90 2 85 87,be 91 2 90,cK (.alloc 10 none (.agg [.int .i64 0,.str []])),I 9 89,bW 2 10 91] (.seq (.drawn true 100 [be 92 2 10,aI 93 4 1 3,ax 94 1 93,I 95 9,cp 96 2 94 95,be 97 2 96,b1 98 (.beq true (some [false,true]) (.t 92) (.t 97))]) (aT 98 (aa [bf 4 false] .ret) .skip)))) (.region [aS 99 .add 87 1,I 87 99]))))))) (aa [bf 4 true] .ret))))))
@[simp] def Gq:List bt:=[.tmp 4]
def Eb:C:=(aa [cM 1 0,dH 2 pd,bf 3 false] (aa [aI 20 1 1 1,ax 21 1 20,aI 22 3 1 1,ax 23 1 22,cd 24 217 21 23,I 19 24,c2 25 0 19,c2 26 1 19,I 4 25,I 5 26] (aa [aI 28 1 1 1,ax 29 1 28,aI 30 4 1 1,ax 31 1 30,cd 32 218 29 31,I 27 32,c2 33 0 27,c2 34 1 27,I 6 33,I 7 34] (.seq (aa [I 35 5,cx 36 35,I 37 36,b4 37 false 38 7,aq 37 false (cx 39 38),dc 40 37 39] (aT 40 (aa [k3 41 pd [],bW 5 2 41,bf 3 false] .ret) .skip)) (aa [aI 42 0 1 1,ax 43 1 42,aI 44 1 1 1,ax 45 1 44,I 46 4,k3 47 pd [(0,1,(.t 43)),(1,1,(.t 45)),(3,1,(.t 46))],dH 8 pd,bW 5 8 47] (.seq (aa [I 48 6,cb 49 48,bQ 50 0] (e4 51 50 49 (.seq (.block 1 (aa [cp 52 2 48 50,be 53 2 52,cK (.alloc 10 none (.agg [.int .i64 0,.str []])),bW 2 10 53] (aa [I 55 4,aI 56 0 1 10,ax 57 1 56,cQ 58 91 57,dI 59 178 [.t 55,.t 58,(gp 2)],I 54 59,c2 60 0 54,c2 61 1 54,I 11 60,I 12 61] (aa [I 62 12] (aT 62 (.region [aI 63 4 1 8,ax 64 1 63,be 65 2 10,fk 66 2 106 [.t 65],iN 67 2 106 64 66,aI 68 4 1 8,bW 1 68 67]) .skip))))) (.region [aS 69 .add 50 1,I 50 69])))) (aa [fk 70 1 23 [],I 13 70] (.seq (aa [aI 71 2 1 1,ax 72 1 71,cb 73 72,bQ 74 0] (.block 2 (.loop (aa [bk 75 .lss 74 73] (.seq (aT 75 .skip (.exit 2)) (.seq (.block 3 (aa [cp 76 1 72 74,ax 77 1 76,I 15 77] (aa [aI 79 1 1 1,ax 80 1 79,I 81 15,cd 82 219 80 81,I 78 82,c2 83 0 78,c2 84 1 78,I 16 83,I 17 84] (.seq (aa [I 85 17] (aT 85 (aa [I 87 16,aI 88 3 1 8,ax 89 1 88,cd 90 217 87 89,I 86 90,c2 91 0 86,c2 92 1 86,I 5 92] (.region [I 94 16,aI 95 4 1 8,ax 96 1 95,cd 97 218 94 96,I 93 97,c2 98 0 93,c2 99 1 93,I 7 99])) .skip)) (.seq (aa [I 100 17,cx 101 100,I 102 101,b4 102 false 103 5,aq 102 false (cx 104 103),dc 105 102 104,I 106 105,b4 106 false 107 7,aq 106 false (cx 108 107),dc 109 106 108] (aT 109 (aa [bf 5 true] (aa [bf 7 true] (.exit 3))) .skip)) (aa [aI 110 1 1 1,ax 111 1 110,I 112 16,cd 113 177 111 112,I 18 113] (.seq (aa [I 114 18,cb 115 114,aS 116 .eql 115 0] (aT 116 (aa [k3 117 pd [],bW 5 2 117,bf 3 false] .ret) .skip)) (.region [I 118 13,I 119 18,fk 120 1 23 [.t 119],iN 121 1 23 118 120,I 13 121])))))))) (.region [aS 122 .add 74 1,I 74 122]))))))) (aa [I 123 13,cQ 124 220 123,aI 125 2 1 8,bW 1 125 124] (.seq (.fz true 8 (.drawn true 131 [b1 126 (.loadZ true 5 (.t 8)),aI 127 2 1 8,b1 128 (.loadZ false 1 (.t 127)),cb 129 128,aS 130 .leq 129 30,bW 5 2 126,I 3 130])) .ret))))))))))
@[simp] def uD:List bt:=[.cell 2 true 5,.tmp 3]
def G0:List (Nat×dA):=[
 (3,⟨1,8,.int .i64,.int .i64 0⟩),
 (9,⟨1,16,.str,.str []⟩),
 (23,⟨1,24,.slice 61,.slice 5 .nil []⟩),
 (24,⟨1,24,.slice 23,.slice 1 .nil []⟩),
 (25,⟨1,24,.slice 104,.slice 2 .nil []⟩),
 (26,⟨1,24,.slice 106,.slice 2 .nil []⟩),
 (28,⟨5,104,.struct [(0,3),(1,23),(2,24),(3,25),(4,26)],.agg [.int .i64 0,.slice 5 .nil [],.slice 1 .nil [],.slice 2 .nil [],.slice 2 .nil []]⟩),
 (104,⟨2,16,.struct [(0,3),(1,3)],.agg [.int .i64 0,.int .i64 0]⟩),
 (106,⟨2,24,.struct [(0,3),(1,9)],.agg [.int .i64 0,.str []]⟩)]
theorem nM:fN al G0=true:=by kernel_rfl
theorem xZ:bY G0 u3 akr 1 Tryz.f65=true:=by kernel_rfl
theorem w1:al.funcs[(65:Nat)]? =some Tryz.f65:=Tryz.func65
theorem z7:bY G0 wV Gq 2 Tryz.f94=true:=by kernel_rfl
theorem yX:al.funcs[(94:Nat)]? =some Tryz.f94:=Tryz.func94
theorem K9:bY G0 Eb uD 1 Tryz.f147=true:=by kernel_rfl
theorem IK:al.funcs[(147:Nat)]? =some Tryz.f147:=Tryz.func147
noncomputable def C6(s:dU):ah:= .tuple [(Ax s).e,.bool (nc s).isSome]
@[simp] theorem aqa(S:aD→Prop)(s:dU):aB S (C6 s)=True:=by simp[C6,aB,aG]
theorem amJ{k:List bL}(ab:iU k)(v:Int):bK al 178 [.slice 2 .no (k.map bL.e),(T.var v).e,.int .i64 2] (ov k (j5 k (.var v) 2)):=Xh k (by have:=vF ab;omega) ab.asc (.var v) 2
theorem Xf{b y:List au}(ae:eP b)(aM:eP y):bK al 177 [.slice 5 .no (b.map au.e),.slice 5 .no (y.map au.e)] (cR (gz b y)):=amE ae aM
theorem Xe{b x:List au}(ae:eP b)(ad:eP x):bK al 219 [.slice 5 .no (b.map au.e),cR x] (gh (mgu b (hE x))):=amD b x ae.sol ae.fits ad.len
def Kz(a:List bg):ah:=match a with
 |[]=>.slice 2 .nil []
 |_::_=>.slice 2 (.own (.loc 5)) (a.map bg.e)
def Ky(a:List bg):List (aD×fM):=match a with
 |[]=>[]
 |_::_=>[(.loc 5,⟨a.length,106,2,none⟩)]
def Kx(a:List bg):Nat:=match a with
 |[]=>3
 |_::_=>6
@[simp] theorem aqz:Kz []= .slice 2 .nil []:=rfl
@[simp] theorem aqy(x:bg)(a:List bg):Kz (x::a)= .slice 2 (.own (.loc 5)) (x.e::a.map bg.e):=rfl
@[simp] theorem aqx:Ky []=[]:=rfl
@[simp] theorem aqw(x:bg)(a:List bg):Ky (x::a)=[(.loc 5,⟨a.length+1,106,2,none⟩)]:=rfl
@[simp] theorem aqv:Kx []=3:=rfl
@[simp] theorem aqu(x:bg)(a:List bg):Kx (x::a)=6:=rfl
set_option maxRecDepth 4000 in
theorem amN{s:dU}(h:yk s){G:List (List dz)}(mL:G.length≤687000)(a8:nf G s.m):bK al 147 [s.e] (C6 s):=by
 unfold C6;generalize dh:nc s=O;generalize dk:Ax s=SS;have kl:=MM h.b h.k;have km:=MN h.b h.m mL a8;have nC:=fun k=>Gs (acc:=[]) (a:=k) h.b h.k.at' ⟨by simp,by simp⟩;have pV:=fun m=>Gt (acc:=[]) (a:=m) h.b h.m.at' ⟨by simp,by simp[hH]⟩;have mJ:=fun m=>LP (acc:=[]) (a:=m) (s:=s.b) a8 (fun x ad=>by simp at ad);have ae:=h.b;have aR:=h.d;clear h a8;unfold nc at dh;unfold Ax at dk;obtain⟨n,b,d,ff,m0⟩:=s;simp only at kl km nC pV mJ ae aR dh dk;have fA:=ae.len;simp only[dU.e];generalize fZ b ff []=ok at kl dh dk nC;generalize ga b m0 []=om at km dh dk pV mJ;cases ok with
 |none=>
  simp only at dh dk;subst dh;subst dk;simp only[fU]at kl;simp only[iY]at km;clear nC pV mJ;refine bm nM IK K9 fun aQ=>?_;unfold Eb;simp;(with_reducible repeat' first|refine aj ?_|refine aE kl ?_|refine aF kl ?_|refine aE km ?_|refine aF km ?_|simp);all_goals simp[bu,uD,aV,aW,aU]
  all_goals simp[qO,dU.e]
 |some k=>
  simp only at dh dk;cases om with
  |none=>
   simp only at dh dk;subst dh;subst dk;simp only[fU]at kl;simp only[iY]at km;clear nC pV mJ;refine bm nM IK K9 fun aQ=>?_;unfold Eb;simp;(with_reducible repeat' first|refine aj ?_|refine aE kl ?_|refine aF kl ?_|refine aE km ?_|refine aF km ?_|simp);all_goals simp[bu,uD,aV,aW,aU]
   all_goals simp[qO,dU.e]
  |some m=>
   simp only at dh dk;have vl:=nC k rfl;have xq:=pV m rfl;have xh:=mJ m rfl;have mc:m.length≤68719470000:=by have:=Cx xq xh;omega
   have zm:=T3 (k:=k) xq;have zg:=WI (k:=k) xh;simp only[fU,k7,r5]at kl;simp only[iY,k7,r5]at km;clear nC pV mJ;refine bm nM IK K9 fun aQ=>?_;unfold Eb;have Jh:d.length≤68719476736:=by simp[eD,ef,et,lim]at aQ;omega
   clear aQ;simp;(with_reducible repeat' first|refine aj ?_|refine aE kl ?_|refine aF kl ?_|refine aE km ?_|refine aF km ?_|simp);refine gP (fun i (a:List bg)=>⟨[(1,.ptr (.loc 0) 0),(2,.ptr (.loc 1) 0),(4,.slice 2 .no (k.map bL.e)),(8,.ptr (.loc 2) 0),(48,.slice 2 .no (m.map bg.e)),(49,.int .i64 m.length),(50,.int .i64 i)],[(.loc 0,[.int .i64 n,.slice 5 .no (b.map au.e),.slice 1 .no (d.map cR),.slice 2 .no (ff.map bL.e),.slice 2 .no (m0.map bg.e)]),(.loc 1,[.int .i64 0,.slice 5 .nil [],.slice 1 .nil [],.slice 2 .nil [],.slice 2 .nil []]),(.loc 2,[.int .i64 n,.slice 5 .no (b.map au.e),.slice 1 .nil [],.slice 2 .no (k.map bL.e),Kz a])],Ky a,Kx a,[]⟩) m.length (sI k m) [] bV (by simp[sI]) (fun a af _=>?_) (fun i a hi af _=>?_);rotate_left
   ·obtain⟨x,ad,cC⟩:=dV hi;have q9:a.length≤68719470000:=by
     have:a.length≤(m.take i).length:=by rw[af];exact List.length_filter_le _ _
     simp at this;omega
    have aA:=af.step ad;have ml:=amJ vl x.v;have br:(j5 k (.var x.v) 2).isSome=ko k x:=Yc vl x.v;simp only[ov,br]at ml;clear br;generalize (j5 k (.var x.v) 2).getD k=kz at ml;cases aH:ko k x
    ·rw[aH]at aA ml;simp only[gT,if_false]at aA;clear af ad aH;cases a with
     |nil=>simp[hi,cC];(with_reducible repeat' first|refine aj ?_|refine aE (j3 _) ?_|refine aF (j3 _) ?_|refine aE ml ?_|refine aF ml ?_|simp[hi,cC]);all_goals exact bO.rng [] hi aA bV
     |cons y ys=>simp[hi,cC];(with_reducible repeat' first|refine aj ?_|refine aE (j3 _) ?_|refine aF (j3 _) ?_|refine aE ml ?_|refine aF ml ?_|simp[hi,cC]);all_goals exact bO.rng (y::ys) hi aA bV
    ·rw[aH]at aA ml;simp only[if_true]at aA;clear af ad aH;cases a with
     |nil=>
      simp[hi,cC];(with_reducible repeat' first|refine aj ?_|refine aE (j3 _) ?_|refine aF (j3 _) ?_|refine aE ml ?_|refine aF ml ?_|simp[hi,cC]);all_goals first|(refine⟨by unfold lim;omega,?_⟩)|skip
      all_goals(with_reducible repeat' first|refine aj ?_|simp)
      all_goals exact bO.rng [x] hi aA bV
     |cons y ys=>
      simp only[oJ]at q9;simp[hi,cC];(with_reducible repeat' first|refine aj ?_|refine aE (j3 _) ?_|refine aF (j3 _) ?_|refine aE ml ?_|refine aF ml ?_|simp[hi,cC]);all_goals first|(refine⟨by unfold lim;omega,?_⟩)|skip
      all_goals(with_reducible repeat' first|refine aj ?_|simp)
      all_goals exact bO.rng (y::ys++[x]) hi aA ⟨by simp[fresh,aG,aB,cg,inObs,Pv.look,zI],ec (by simp[fresh,aG,aB,cg,inObs,Pv.look,zI]),ed (by simp[fresh,aG,aB,dR,inObs,Pv.look,zI]),by simp⟩
   rw[sI,k6]at af;rw[←af]at zm zg dh dk;clear af xq xh;cases a with
   |nil=>
    simp;(with_reducible repeat' first|refine aj ?_|simp);refine gP (fun i (L:List (List au))=>⟨[(1,.ptr (.loc 0) 0),(2,.ptr (.loc 1) 0),(8,.ptr (.loc 2) 0),(13,.slice 1 (.own (.loc 3)) (L.map cR)),(72,.slice 1 .no (d.map cR)),(73,.int .i64 d.length),(74,.int .i64 i)],[(.loc 0,[.int .i64 n,.slice 5 .no (b.map au.e),.slice 1 .no (d.map cR),.slice 2 .no (ff.map bL.e),.slice 2 .no (m0.map bg.e)]),(.loc 1,[.int .i64 0,.slice 5 .nil [],.slice 1 .nil [],.slice 2 .nil [],.slice 2 .nil []]),(.loc 2,[.int .i64 n,.slice 5 .no (b.map au.e),.slice 1 .nil [],.slice 2 .no (k.map bL.e),.slice 2 .nil []])],[(.loc 3,⟨L.length,23,1,none⟩)],3+1,[]⟩) d.length (pP b k [] d) [] bV ⟨by simp,by simp,by simp⟩ (fun L af _=>?_) (fun i L hi af _=>?_)
    ·have jo:=af.fin;have vf:=af.2.1;rw[jo]at dh dk;simp only at dh dk;have mV:=Xg L vf;clear af jo vf;generalize kF L=M at mV dh dk;subst dk;by_cases lf:M.length≤30
     ·have n4:(M.length:Int)≤30:=by omega
      rw[if_pos lf]at dh;subst dh;simp;(with_reducible repeat' first|refine aj ?_|refine aE mV ?_|refine aF mV ?_|simp[lf,n4]);all_goals simp[bu,uD,aV,aW,aU]
      all_goals try simp[dU.e,lf,n4]
      all_goals first|exact⟨_,rfl,rfl⟩|skip
     ·have n4:¬(M.length:Int)≤30:=by omega
      rw[if_neg lf]at dh;subst dh;simp;(with_reducible repeat' first|refine aj ?_|refine aE mV ?_|refine aF mV ?_|simp[lf,n4]);all_goals simp[bu,uD,aV,aW,aU]
      all_goals try simp[dU.e,lf,n4]
      all_goals first|exact⟨_,rfl,rfl⟩|skip
    ·obtain⟨x,ad,cC⟩:=dV hi;have gY:=aR x (eo ad);have RD:=af.1;have hM:=Xe ae gY;simp only[gh]at hM;cases hu:mgu b (hE x)with
     |none=>have aA:=af.skip ad fun r=>Kp hu;rw[hu]at hM;simp only[nl,l0]at hM;clear af ad dh dk;exact hd
     |some y=>
      have iS:=ae.mgu (Bh gY) hu;rw[hu]at hM;simp only[k7,r5]at hM;have dj:=MM iS vl;have dQ:=MN iS zm mL zg;have hN:=Xf ae iS;simp only[fU]at dj;simp only[iY,mz,gM]at dQ;by_cases jr:fZ y k []=none∨ga y [] []=none
      ·have aA:=af.skip ad fun r=>Ko hu jr;clear af ad dh dk hu hN;rcases jr with e|e
       ·rw[e]at dj;simp only[nl,l0]at dj;exact hd
       ·rw[e]at dQ;simp only[nl,l0]at dQ;generalize (fZ y k []).isSome=a6 at dj;cases a6
        ·exact hd
        ·exact hd
      ·have ak:(fZ y k []).isSome=true:=by cases e:fZ y k []with|none=>exact absurd (.inl e) jr|some _=>rfl
       have aC:(ga y [] []).isSome=true:=by cases e:ga y [] []with|none=>exact absurd (.inr e) jr|some _=>rfl
       rw[ak]at dj;rw[aC]at dQ;by_cases cF:gz b y=[]
       ·have ag:=af.stop ad fun r=>Kn hu jr cF;rw[ag]at dh dk;simp only at dh dk;subst dh;subst dk;rw[cF]at hN;simp only[cR,mz]at hN;clear af ad hu jr;simp[hi,cC];(with_reducible repeat' first|refine aj ?_|refine aE hM ?_|refine aF hM ?_|refine aE dj ?_|refine aF dj ?_|refine aE dQ ?_|refine aF dQ ?_|refine aE hN ?_|refine aF hN ?_|simp[hi,cC]);all_goals simp[bu,uD,aV,aW,aU]
        all_goals try simp[qO,dU.e]
       ·have aA:=af.snoc ad (FQ (b:=b) iS) fun r=>Kq hu jr cF;have vn:¬((gz b y).length:Int)=0:=by have:(gz b y).length≠0:=fun h=>cF (List.length_eq_zero_iff.1 h);omega
        have vo:(((gz b y).length:Int)==0)=false:=by simp[cF]
        clear af ad hu jr dh dk;generalize gz b y=z at hN aA vn vo cF;simp only[cR]at hN;simp[hi,cC];(with_reducible repeat' first|refine aj ?_|refine aE hM ?_|refine aF hM ?_|refine aE dj ?_|refine aF dj ?_|refine aE dQ ?_|refine aF dQ ?_|refine aE hN ?_|refine aF hN ?_|simp[hi,cC,vn,vo,cF]);all_goals first|(refine⟨by unfold lim;omega,?_⟩)|skip
        all_goals(with_reducible repeat' first|refine aj ?_|simp)
        all_goals exact bO.rng (L++[z]) hi aA ⟨by simp[fresh,aG,aB,cg,inObs,Pv.look,uf,cR],ec (by simp[fresh,aG,aB,cg,inObs,Pv.look,uf,cR]),ed (by simp[fresh,aG,aB,dR,inObs,Pv.look,uf,cR]),by simp⟩
   |cons Dz DA=>
    simp;(with_reducible repeat' first|refine aj ?_|simp);refine gP (fun i (L:List (List au))=>⟨[(1,.ptr (.loc 0) 0),(2,.ptr (.loc 1) 0),(8,.ptr (.loc 2) 0),(13,.slice 1 (.own (.loc 6)) (L.map cR)),(72,.slice 1 .no (d.map cR)),(73,.int .i64 d.length),(74,.int .i64 i)],[(.loc 0,[.int .i64 n,.slice 5 .no (b.map au.e),.slice 1 .no (d.map cR),.slice 2 .no (ff.map bL.e),.slice 2 .no (m0.map bg.e)]),(.loc 1,[.int .i64 0,.slice 5 .nil [],.slice 1 .nil [],.slice 2 .nil [],.slice 2 .nil []]),(.loc 2,[.int .i64 n,.slice 5 .no (b.map au.e),.slice 1 .nil [],.slice 2 .no (k.map bL.e),.slice 2 (.own (.loc 5)) (Dz.e::DA.map bg.e)])],[(.loc 6,⟨L.length,23,1,none⟩)],6+1,[]⟩) d.length (pP b k (Dz::DA) d) [] bV ⟨by simp,by simp,by simp⟩ (fun L af _=>?_) (fun i L hi af _=>?_)
    ·have jo:=af.fin;have vf:=af.2.1;rw[jo]at dh dk;simp only at dh dk;have mV:=Xg L vf;clear af jo vf;generalize kF L=M at mV dh dk;subst dk;by_cases lf:M.length≤30
     ·have n4:(M.length:Int)≤30:=by omega
      rw[if_pos lf]at dh;subst dh;simp;(with_reducible repeat' first|refine aj ?_|refine aE mV ?_|refine aF mV ?_|simp[lf,n4]);all_goals simp[bu,uD,aV,aW,aU]
      all_goals try simp[dU.e,lf,n4]
      all_goals first|exact⟨_,rfl,rfl⟩|skip
     ·have n4:¬(M.length:Int)≤30:=by omega
      rw[if_neg lf]at dh;subst dh;simp;(with_reducible repeat' first|refine aj ?_|refine aE mV ?_|refine aF mV ?_|simp[lf,n4]);all_goals simp[bu,uD,aV,aW,aU]
      all_goals try simp[dU.e,lf,n4]
      all_goals first|exact⟨_,rfl,rfl⟩|skip
    ·obtain⟨x,ad,cC⟩:=dV hi;have gY:=aR x (eo ad);have RD:=af.1;have hM:=Xe ae gY;simp only[gh]at hM;cases hu:mgu b (hE x)with
     |none=>have aA:=af.skip ad fun r=>Kp hu;rw[hu]at hM;simp only[nl,l0]at hM;clear af ad dh dk;exact hd
     |some y=>
      have iS:=ae.mgu (Bh gY) hu;rw[hu]at hM;simp only[k7,r5]at hM;have dj:=MM iS vl;have dQ:=MN iS zm mL zg;have hN:=Xf ae iS;simp only[fU]at dj;simp only[iY,mz,gM]at dQ;by_cases jr:fZ y k []=none∨ga y (Dz::DA) []=none
      ·have aA:=af.skip ad fun r=>Ko hu jr;clear af ad dh dk hu hN;rcases jr with e|e
       ·rw[e]at dj;simp only[nl,l0]at dj;exact hd
       ·rw[e]at dQ;simp only[nl,l0]at dQ;generalize (fZ y k []).isSome=a6 at dj;cases a6
        ·exact hd
        ·exact hd
      ·have ak:(fZ y k []).isSome=true:=by cases e:fZ y k []with|none=>exact absurd (.inl e) jr|some _=>rfl
       have aC:(ga y (Dz::DA) []).isSome=true:=by cases e:ga y (Dz::DA) []with|none=>exact absurd (.inr e) jr|some _=>rfl
       rw[ak]at dj;rw[aC]at dQ;by_cases cF:gz b y=[]
       ·have ag:=af.stop ad fun r=>Kn hu jr cF;rw[ag]at dh dk;simp only at dh dk;subst dh;subst dk;rw[cF]at hN;simp only[cR,mz]at hN;clear af ad hu jr;simp[hi,cC];(with_reducible repeat' first|refine aj ?_|refine aE hM ?_|refine aF hM ?_|refine aE dj ?_|refine aF dj ?_|refine aE dQ ?_|refine aF dQ ?_|refine aE hN ?_|refine aF hN ?_|simp[hi,cC]);all_goals simp[bu,uD,aV,aW,aU]
        all_goals try simp[qO,dU.e]
       ·have aA:=af.snoc ad (FQ (b:=b) iS) fun r=>Kq hu jr cF;have vn:¬((gz b y).length:Int)=0:=by have:(gz b y).length≠0:=fun h=>cF (List.length_eq_zero_iff.1 h);omega
        have vo:(((gz b y).length:Int)==0)=false:=by simp[cF]
        clear af ad hu jr dh dk;generalize gz b y=z at hN aA vn vo cF;simp only[cR]at hN;simp[hi,cC];(with_reducible repeat' first|refine aj ?_|refine aE hM ?_|refine aF hM ?_|refine aE dj ?_|refine aF dj ?_|refine aE dQ ?_|refine aF dQ ?_|refine aE hN ?_|refine aF hN ?_|simp[hi,cC,vn,vo,cF]);all_goals first|(refine⟨by unfold lim;omega,?_⟩)|skip
        all_goals(with_reducible repeat' first|refine aj ?_|simp)
        all_goals exact bO.rng (L++[z]) hi aA ⟨by simp[fresh,aG,aB,cg,inObs,Pv.look,uf,cR],ec (by simp[fresh,aG,aB,cg,inObs,Pv.look,uf,cR]),ed (by simp[fresh,aG,aB,dR,inObs,Pv.look,uf,cR]),by simp⟩
theorem amI(x y:List au):bK al 180 [cR x,cR y] (.int .i64 (ev x y)):=MK x y
theorem amO{x y:List au}(h:¬x=y):(ev x y !=0)=true:=by have:¬ev x y=0:=fun e=>h ((lz.zero _ _).1 e);simp[this]
set_option maxRecDepth 4000 in
theorem amM(a c:dU):bK al 94 [a.e,c.e] (.bool (decide (a=c))):=by
 obtain⟨n,b,d,k,m⟩:=a;obtain⟨n',b2,b9,bM,hq⟩:=c;generalize a1:decide ((⟨n,b,d,k,m⟩:dU)=⟨n',b2,b9,bM,hq⟩)=R;simp only[dU.mk.injEq,dU.e]at a1⊢;by_cases a6:n=n';rotate_left
 ·have fS:R=false:=by rw[←a1];simp[a6]
  have sU:(n !=n')=true:=by simp[a6]
  rw[fS];clear a1 fS;refine bm nM yX z7 fun aQ=>?_;unfold wV;exact b6
 subst a6;have fB:=MK b b2;by_cases bB:b=b2;rotate_left
 ·have fS:R=false:=by rw[←a1];simp[bB]
  have jJ:¬ev b b2=0:=fun h=>bB ((lz.zero _ _).1 h);have U6:(ev b b2 !=0)=true:=by simp[jJ]
  rw[fS];clear a1 fS;refine bm nM yX z7 fun aQ=>?_;unfold wV;exact b6
 subst bB;rw[(lz.zero b b).2 rfl]at fB;by_cases bS:d.length=b9.length;rotate_left
 ·have fS:R=false:=by rw[←a1];simp only[gr];rintro⟨_,_,rfl,_⟩;exact bS rfl
  have rL:((d.length:Int) !=b9.length)=true:=by simp;omega
  rw[fS];clear a1 fS;refine bm nM yX z7 fun aQ=>?_;unfold wV;exact b6
 by_cases c1:k.length=bM.length;rotate_left
 ·have fS:R=false:=by rw[←a1];simp only[gr];rintro⟨_,_,_,rfl,_⟩;exact c1 rfl
  have aju:((k.length:Int) !=bM.length)=true:=by simp;omega
  rw[fS];clear a1 fS;refine bm nM yX z7 fun aQ=>?_;unfold wV;exact b6
 by_cases c9:m.length=hq.length;rotate_left
 ·have fS:R=false:=by rw[←a1];simp only[gr];rintro⟨_,_,_,_,rfl⟩;exact c9 rfl
  have ajv:((m.length:Int) !=hq.length)=true:=by simp;omega
  rw[fS];clear a1 fS;refine bm nM yX z7 fun aQ=>?_;unfold wV;exact b6
 have xu:d≠b9→R=false:=fun h=>by rw[←a1];simp[h]
 have xv:k≠bM→R=false:=fun h=>by rw[←a1];simp[h]
 have JB:m≠hq→R=false:=fun h=>by rw[←a1];simp[h]
 refine bm nM yX z7 fun aQ=>?_;unfold wV;have BS:b9.length≤68719476736:=by simp[eD,ef,et,lim]at aQ;omega
 have aeC:bM.length≤68719476736:=by simp[eD,ef,et,lim]at aQ;omega
 have aeD:hq.length≤68719476736:=by simp[eD,ef,et,lim]at aQ;omega
 clear aQ;simp;(with_reducible repeat' first|refine aj ?_|refine aE fB ?_|refine aF fB ?_|simp[bS,c1,c9]);have dg:=xu;refine dW [2,3,52,53] (fun i (_:Unit)=>[(54,.int .i64 i)]) b9.length (qX d b9) () bV (fun k ab=>by omega) (fun _ af _=>?_) (fun i _ hi af _=>?_);rotate_left
 ·obtain⟨x,ad⟩:∃x,d[i]? =some x:=⟨_,cf (by omega)⟩;obtain⟨y,aM⟩:∃y,b9[i]? =some y:=⟨_,cf hi⟩;have gd:i<d.length:=by omega
  have cC:∀h,(d[i]'h)=x:=fun h=>by rw[cf gd]at ad;exact fl ad
  have eJ:∀h,(b9[i]'h)=y:=fun h=>by rw[cf hi]at aM;exact fl aM
  have fB:=amI x y;by_cases q:x=y
  ·subst q;have aA:=af.step ad aM;rw[(lz.zero _ _).2 rfl]at fB;clear af ad aM;simp[hi,gd,cC,eJ,-ig];(with_reducible repeat' first|refine aj ?_|refine aE fB ?_|refine aF fB ?_|simp[cC,eJ,hi,gd,-ig]);all_goals exact bO.rng () hi aA bV
  ·rw[dg (fun h=>q (by rw[h]at ad;rw[ad]at aM;exact fl aM))];have jJ:=amO q;clear af ad aM;simp[hi,gd,cC,eJ,-ig];(with_reducible repeat' first|refine aj ?_|refine aE fB ?_|refine aF fB ?_|simp[cC,eJ,hi,gd,q,jJ,-ig]);all_goals simp[bu,Gq,aV,aW,aU]
 have dw:=af.fin bS;subst dw;clear af dg xu bS;simp;(with_reducible repeat' first|refine aj ?_|simp[c1]);have dg:=xv;refine dW [2,3,69,70] (fun i (_:Unit)=>[(71,.int .i64 i)]) bM.length (qX k bM) () bV (fun k ab=>by omega) (fun _ af _=>?_) (fun i _ hi af _=>?_);rotate_left
 ·obtain⟨x,ad⟩:∃x,k[i]? =some x:=⟨_,cf (by omega)⟩;obtain⟨y,aM⟩:∃y,bM[i]? =some y:=⟨_,cf hi⟩;have gd:i<k.length:=by omega
  have cC:∀h,(k[i]'h)=x:=fun h=>by rw[cf gd]at ad;exact fl ad
  have eJ:∀h,(bM[i]'h)=y:=fun h=>by rw[cf hi]at aM;exact fl aM
  have fB:=True.intro;by_cases q:x=y
  ·subst q;have aA:=af.step ad aM;skip;clear af ad aM;simp[hi,gd,cC,eJ,-ig];(with_reducible repeat' first|refine aj ?_|refine aE fB ?_|refine aF fB ?_|simp[cC,eJ,hi,gd,-ig]);all_goals exact bO.rng () hi aA bV
  ·rw[dg (fun h=>q (by rw[h]at ad;rw[ad]at aM;exact fl aM))];skip;clear af ad aM;simp[hi,gd,cC,eJ,-ig];(with_reducible repeat' first|refine aj ?_|refine aE fB ?_|refine aF fB ?_|simp[cC,eJ,hi,gd,q,q,-ig]);all_goals simp[bu,Gq,aV,aW,aU]
 have dw:=af.fin c1;subst dw;clear af dg xv c1;simp;(with_reducible repeat' first|refine aj ?_|simp[c9]);have dg:=JB;refine dW [3,85,86] (fun i (_:Unit)=>[(87,.int .i64 i)]) hq.length (qX m hq) () bV (fun k ab=>by omega) (fun _ af _=>?_) (fun i _ hi af _=>?_);rotate_left
 ·obtain⟨x,ad⟩:∃x,m[i]? =some x:=⟨_,cf (by omega)⟩;obtain⟨y,aM⟩:∃y,hq[i]? =some y:=⟨_,cf hi⟩;have gd:i<m.length:=by omega
  have cC:∀h,(m[i]'h)=x:=fun h=>by rw[cf gd]at ad;exact fl ad
  have eJ:∀h,(hq[i]'h)=y:=fun h=>by rw[cf hi]at aM;exact fl aM
  have fB:=True.intro;by_cases q:x=y
  ·subst q;have aA:=af.step ad aM;skip;clear af ad aM;simp[hi,gd,cC,eJ,-ig];(with_reducible repeat' first|refine aj ?_|refine aE fB ?_|refine aF fB ?_|simp[cC,eJ,hi,gd,-ig]);all_goals exact bO.rng () hi aA bV
  ·rw[dg (fun h=>q (by rw[h]at ad;rw[ad]at aM;exact fl aM))];skip;clear af ad aM;simp[hi,gd,cC,eJ,-ig];(with_reducible repeat' first|refine aj ?_|refine aE fB ?_|refine aF fB ?_|simp[cC,eJ,hi,gd,q,q,-ig]);all_goals simp[bu,Gq,aV,aW,aU]
 have dw:=af.fin c9;subst dw;have fS:R=true:=by rw[←a1];simp
 rw[fS];exact b6
@[simp] theorem alu:∀l:List (List cX),cY (l.map fQ)=l.map fQ
 |[]=>rfl
 |x::xs=>by simp[cY,alu xs]
theorem Wx:∀{d:List (List cX)},d.all gE=true→∃D:List (List au),d=(D.map fun x=>x.map au.b)∧∀x∈D,eP x
 |[],_=>⟨[],rfl,by simp⟩
 |x::d,h=>by
  rw[List.all_cons,cA]at h;obtain⟨D,J,U⟩:=Wx h.2;obtain⟨s,ak,aC⟩:=wj.1 (qJ.1 h.1);refine⟨s::D,by rw[J,ak];rfl,fun y aM=>?_⟩;rcases fK.1 aM with rfl|aM
  ·exact aC
  ·exact U y aM
open Classical in
set_option maxRecDepth 4000 in
theorem amU(r:hV)(eu:h8 r.m→Dk r.m):bK al 65 [r.e] (.bool (decide (rQ r))):=by
 generalize a1:decide (rQ r)=R;have dg:¬LN r→R=false:=fun h=>by rw[←a1,gr];exact fun cr=>h cr.raw
 obtain⟨n,b,d,k,m⟩:=r;simp only[hV.e]at eu⊢;have Fp:=dt n 0 100000;by_cases g1:0≤n∧n≤100000;rotate_left
 ·rw[dg fun h=>g1 h.n];rw[k8 g1]at Fp;refine bm nM w1 xZ fun aQ=>?_;unfold u3;exact b6
 rw[kN g1]at Fp;have kV:bK al 142 [.slice 5 .no (b.map cX.e)] (.bool (gE b)):=MP b;cases g3:gE b
 ·rw[dg fun h=>by obtain⟨s,ak,aC,_⟩:=h.b;have:=qJ.2 (wj.2 ⟨s,ak,aC⟩);simp only at this;rw[g3]at this;cases this]
  rw[g3]at kV;refine bm nM w1 xZ fun aQ=>?_;unfold u3;exact b6
 rw[g3]at kV;obtain⟨s,rfl,ag⟩:=wj.1 (qJ.1 g3);clear g3;rw[xQ]at kV⊢;have gf:=amH d;cases vd:d.all gE
 ·rw[dg fun h=>by
   have:d.all gE=true:=by rw[ir];intro x ad;obtain⟨s,ak,aC,_⟩:=h.d x ad;exact qJ.2 (wj.2 ⟨s,ak,aC⟩)
   rw[vd]at this;cases this]
  rw[vd]at gf;refine bm nM w1 xZ fun aQ=>?_;unfold u3;exact b6
 rw[vd]at gf;obtain⟨D,rfl,By⟩:=Wx vd;clear vd;rw[Ij]at gf⊢;have dj:=amS k;by_cases g4:iU k;rotate_left
 ·rw[dg fun h=>g4 h.k];rw[k8 g4]at dj;refine bm nM w1 xZ fun aQ=>?_;unfold u3;exact b6
 rw[kN g4]at dj;have dQ:=amT m;by_cases g5:h8 m;rotate_left
 ·rw[dg fun h=>g5 h.m];rw[k8 g5]at dQ;refine bm nM w1 xZ fun aQ=>?_;unfold u3;exact b6
 rw[kN g5]at dQ;have kW:=Xi s n;cases g6:s.all (kA n)
 ·rw[dg fun h=>by obtain⟨ai,ak,_,bj⟩:=h.b;have dd:=uW ak;subst dd;rw[uZ.2 bj]at g6;cases g6]
  rw[g6]at kW;refine bm nM w1 xZ fun aQ=>?_;unfold u3;exact b6
 rw[g6]at kW;have cN:=uZ.1 g6;clear g6;have BV:=eu g5;have mc:=BV.len g5;refine bm nM w1 xZ fun aQ=>?_;unfold u3;have Jh:D.length≤68719476736:=by simp[eD,ef,et,lim]at aQ;omega
 have ik:=vF g4;clear aQ eu;simp;(with_reducible repeat' first|refine aj ?_|refine aE Fp ?_|refine aF Fp ?_|refine aE kV ?_|refine aF kV ?_|refine aE gf ?_|refine aF gf ?_|refine aE dj ?_|refine aF dj ?_|refine aE dQ ?_|refine aF dQ ?_|refine aE kW ?_|refine aF kW ?_|simp);refine dW [1,48,49] (fun i (_:Unit)=>[(50,.int .i64 i)]) D.length (rA (fun x=>pB x n) D) () bV (fun k b ab=>by omega) (fun _ af _=>?_) (fun i _ hi af _=>?_);rotate_left
 ·obtain⟨y,aM,eJ⟩:=dV hi;have JX:=eo aM;have ml:bK al 146 [cR y,.int .i64 n] (.bool (y.all (kA n))):=Xi y n;cases q5:y.all (kA n)
  ·rw[dg fun h=>by obtain⟨ai,ak,_,bj⟩:=h.d _ (List.mem_map_of_mem JX);have dd:=uW ak;subst dd;rw[uZ.2 bj]at q5;cases q5]
   rw[q5]at ml;clear af aM JX;exact b6
  ·rw[q5]at ml;have aA:=af.step aM (uZ.1 q5);clear af aM JX;exact hd
 have I7:=af.fin;clear af;simp;(with_reducible repeat' first|refine aj ?_|simp);refine dW [1,61,62] (fun i (_:Unit)=>[(63,.int .i64 i)]) k.length (rA (fun x=>x.v<n) k) () bV (fun k b ab=>by omega) (fun _ af _=>?_) (fun i _ hi af _=>?_);rotate_left
 ·obtain⟨x,ad,cC⟩:=dV hi;by_cases l8:x.v<n
  ·have w7:¬n≤x.v:=by omega
   have aA:=af.step ad l8;clear af ad;exact hd
  ·have w7:n≤x.v:=by omega
   rw[dg fun h=>l8 (h.kb x (eo ad))];clear af ad;exact b6
 have xi:=af.fin;clear af;simp;(with_reducible repeat' first|refine aj ?_|simp);have xj:=xi;refine dW [1,74,75] (fun i (_:Unit)=>[(76,.int .i64 i)]) m.length (rA (fun x=>x.v<n) m) () bV (fun k b ab=>by omega) (fun _ af _=>?_) (fun i _ hi af _=>?_);rotate_left
 ·obtain⟨x,ad,cC⟩:=dV hi;by_cases l8:x.v<n
  ·have w7:¬n≤x.v:=by omega
   have aA:=af.step ad l8;clear af ad;exact hd
  ·have w7:n≤x.v:=by omega
   rw[dg fun h=>l8 (h.mb x (eo ad))];clear af ad;exact b6
 have xi:=af.fin;clear af;simp;(with_reducible repeat' first|refine aj ?_|simp);have vq:=xi;have cO:yk ⟨n,s,D,k,m⟩:=⟨g1,ag,By,g4,g5,cN,I7,xj,vq⟩;have jq:=Wr cO;obtain⟨G,mL,a8⟩:=BV;have dn:=amN cO mL a8;have kT:rQ ⟨n,s.map au.b,D.map fun x=>x.map au.b,k,m⟩↔nc ⟨n,s,D,k,m⟩=some ⟨n,s,D,k,m⟩:=jq;clear jq dg;simp only[C6]at dn;generalize I9:Ax ⟨n,s,D,k,m⟩=t at dn;have vG:=amM t ⟨n,s,D,k,m⟩;cases lr:nc ⟨n,s,D,k,m⟩with
 |none=>
  rw[lr]at dn kT;have fS:R=false:=by rw[←a1,gr,kT];simp
  rw[fS];obtain⟨ta,WK,WL,s9,tm⟩:=t;simp only[l0,dU.e]at dn;clear a1 fS kT I9 vG;exact b6
 |some dG=>
  have ak:=akV lr;rw[I9]at ak;subst ak;rw[lr]at dn kT;have fS:R=decide (t=⟨n,s,D,k,m⟩):=by rw[←a1,decide_eq_decide,kT];simp
  rw[fS];simp only[r5]at dn;simp only[dU.e]at dn vG;clear a1 fS kT lr;generalize decide (t=(⟨n,s,D,k,m⟩:dU))=Q at vG⊢;clear I9;obtain⟨ta,WK,WL,s9,tm⟩:=t;simp only at dn vG;exact b6
def oY(d:cJ (cJ e0)):ah:=d.e 1 jV
def pc(k:cJ bL):ah:=k.e 2 bL.e
def pg(m:cJ hk):ah:=m.e 2 hk.e
@[simp] theorem apZ(S:aD→Prop)(d:cJ (cJ e0)):aB S (oY d)=True:=by cases d<;>simp[oY,cJ.e,aB]
@[simp] theorem asG(d:cJ (cJ e0)):dm (oY d)=oY d:=by
 cases d with
 |l l=>
  have:∀l:List (cJ e0),cY (l.map jV)=l.map jV:=by
   intro l;induction l with
   |nil=>rfl
   |cons x l bN=>simp[cY,bN]
  simp[oY,cJ.e,dm,this]
 |b=>simp[oY,cJ.e,dm]
@[simp] theorem asb(d:cJ (cJ e0)):dY (oY d)=true:=by cases d<;>rfl
@[simp] theorem an2(d:cJ (cJ e0)):cells (oY d)=[oY d]:=by cases d<;>rfl
@[simp] theorem ap6(S:aD→Prop)(d:cJ bL):aB S (pc d)=True:=by cases d<;>simp[pc,cJ.e,aB]
@[simp] theorem asN(d:cJ bL):dm (pc d)=pc d:=by
 cases d with
 |l l=>
  have:∀l:List bL,cY (l.map bL.e)=l.map bL.e:=by
   intro l;induction l with
   |nil=>rfl
   |cons x l bN=>simp[cY,bN]
  simp[pc,cJ.e,dm,this]
 |b=>simp[pc,cJ.e,dm]
@[simp] theorem asn(d:cJ bL):dY (pc d)=true:=by cases d<;>rfl
@[simp] theorem aod(d:cJ bL):cells (pc d)=[pc d]:=by cases d<;>rfl
@[simp] theorem ap8(S:aD→Prop)(d:cJ hk):aB S (pg d)=True:=by cases d<;>simp[pg,cJ.e,aB]
@[simp] theorem asP(d:cJ hk):dm (pg d)=pg d:=by
 cases d with
 |l l=>
  have:∀l:List hk,cY (l.map hk.e)=l.map hk.e:=by
   intro l;induction l with
   |nil=>rfl
   |cons x l bN=>simp[cY,bN]
  simp[pg,cJ.e,dm,this]
 |b=>simp[pg,cJ.e,dm]
@[simp] theorem asp(d:cJ hk):dY (pg d)=true:=by cases d<;>rfl
@[simp] theorem aof(d:cJ hk):cells (pg d)=[pg d]:=by cases d<;>rfl
structure nX where
 n:Int
 b:cJ e0
 d:cJ (cJ e0)
 k:cJ bL
 m:cJ hk
def nX.e(r:nX):ah:= .agg [.int .i64 r.n,jV r.b,oY r.d,pc r.k,pg r.m]
structure nX.wf (r:nX):Prop where
 b:wB r.b
 d:r.d.wf wB
 k:∀p n cap,r.k= .b p n cap→mv n
 m:r.m.wf fun x=>x.s.wf
def wo(r:nX)(m:Int):Int:=if jg r.b m<0 then-1 else if gL jg r.d (jg r.b m)<0 then-1 else if pq r.k (gL jg r.d (jg r.b m))<0 then-1 else if gL lD r.m (pq r.k (gL jg r.d (jg r.b m)))<0 then-1 else gL lD r.m (pq r.k (gL jg r.d (jg r.b m)))
def yF(b:cX):e0:=⟨b.v,qL b.t⟩
def xS(b:bg):hk:=⟨b.v,.s b.s⟩
theorem YH(b:cX):(yF b).e=b.e:=by have h:=Mz b.t;rw[b7.e_eq,u6]at h;simp only[ah.agg.injEq,nQ,and_true,true_and]at h;obtain⟨J,U,ao,a7⟩:=h;show ah.agg [_,_,_,_,_]=ah.agg [_,_,_,_,_];rw[show(yF b).t=qL b.t from rfl,J,U,ao,a7];rfl
theorem agY(b:bg):(xS b).e=b.e:=rfl
theorem YI(l:List cX):(l.map yF).map e0.e=l.map cX.e:=by rw[List.map_map];exact List.map_congr_left fun b _=>YH b
theorem agZ(l:List bg):(l.map xS).map hk.e=l.map bg.e:=by rw[List.map_map];exact List.map_congr_left fun b _=>agY b
def tB(d:List cX):cJ e0:= .l (d.map yF)
theorem Qq(d:List cX):jV (tB d)=fQ d:=by simp only[jV,tB,cJ.e,fQ,YI]
theorem Zy(l:List (List cX)):(l.map tB).map jV=l.map fQ:=by rw[List.map_map];exact List.map_congr_left fun b _=>Qq b
def hV.h(r:hV):nX:=⟨r.n,tB r.b,.l (r.d.map tB),.l r.k,.l (r.m.map xS)⟩
theorem alo(r:hV):r.h.e=r.e:=by simp only[nX.e,hV.h,hV.e,Qq,oY,pc,pg,cJ.e,Zy,agZ];rfl
theorem alB(x:e0)(m:Int)(hw:x.t.wf)(J:m≤1048576)(bq:0≤m)(h:0≤rS x m):∃y,x=yF y:=by obtain⟨u,hu⟩:=Ms x.t m hw J bq h;exact⟨⟨x.v,u⟩,by cases x;simp only[yF]at hu⊢;rw[hu]⟩
theorem alC(x:hk)(m:Int)(hw:x.s.wf)(J:m≤1048576)(bq:0≤m)(h:0≤lD x m):∃y,x=xS y:=by
 unfold lD at h;split at h
 ·omega
 ·obtain⟨l,ar⟩:=gU.small hw J h;exact⟨⟨x.v,l⟩,by cases x;simp only[xS]at ar⊢;rw[ar]⟩
theorem Wy(x:cJ e0)(m:Int)(hw:wB x)(J:m≤1048576)(bq:0≤m)(h:0≤jg x m):∃y,x=tB y:=GS (P:=fun b:e0=>b.t.wf) Mr alB x m (show cJ.wf (fun b:e0=>b.t.wf) x from hw) J bq h
theorem WG:∀(l:List bg) (m:Int),(∀x∈l,1≤x.s.length)→0≤jL lD (l.map xS) m→(l.length:Int)≤m
 |[],m,_,h=>by simpa[jL]using h
 |x::l,m,J,h=>by
  simp only[gM,jL]at h;split at h
  ·omega
  ·rename_i U;have ao:=WG l _ (fun y aM=>J y (by simp[aM])) h;have a7:=J x (by simp);have bZ:lD (xS x) m=if m-x.s.length<0 then-1 else m-x.s.length:=rfl
   rw[bZ]at U ao;split at ao
   ·rename_i c6;rw[if_pos c6]at U;omega
   ·simp only[oJ];omega
theorem ag8{s:List dz}(h:jv s=true):1≤s.length:=by
 cases s with
 |nil=>simp[jv]at h
 |cons c s=>simp
theorem am5(r:nX)(hw:r.wf)(m:Int)(bq:0≤m)(J:m≤1048576):bK al 63 [r.e,.int .i64 m] (.int .i64 (wo r m)):=by
 generalize a1:wo r m=R;obtain⟨n,b,d,k,l⟩:=r;obtain⟨ea,di,oD,mw⟩:=hw;simp only at ea di oD mw;unfold wo at a1;simp only[nX.e]at a1⊢;have aZ:=Xo b ea m bq J;have b8:=AF b m bq;generalize jg b m=a6 at a1 aZ b8;have bI:_→bK al 138 [oY d,.int .i64 a6] (.int .i64 (gL jg d a6)):=fun h=>am2 d (fun p n c e=>by subst e;exact di) (fun xs e x ad m bq J=>by subst e;exact Xo x (di x ad) m bq J) a6 h (by omega);have b3:=fun h=>wm AF d a6 h;generalize gL jg d a6=bB at a1 bI b3;have ck:_→_→bK al 139 [pc k,.int .i64 bB] (.int .i64 (pq k bB)):=fun h cr=>am7 k oD bB h cr;have fG:=fun h=>WB k bB h;generalize pq k bB=bS at a1 ck fG;have eK:_→_→bK al 140 [pg l,.int .i64 bS] (.int .i64 (gL lD l bS)):=fun h cr=>am4 l (fun p n c e=>by subst e;exact mw) (fun xs e x ad m bq J=>by subst e;exact am3 x (mw x ad) m bq J) bS h cr;have oU:=fun h=>wm GV l bS h;generalize gL lD l bS=c1 at a1 eK oU;clear ea di oD mw;by_cases g1:a6<0
 ·rw[if_pos g1]at a1;subst a1;clear bI ck eK;refine bm fC Bk CK fun aQ=>?_;unfold yJ;exact b6
 rw[if_neg g1]at a1;have bI:=bI (by omega);have b3:=b3 (by omega);by_cases g2:bB<0
 ·rw[if_pos g2]at a1;subst a1;clear ck eK;refine bm fC Bk CK fun aQ=>?_;unfold yJ;exact b6
 rw[if_neg g2]at a1;have ck:=ck (by omega) (by omega);have fG:=fG (by omega);by_cases g3:bS<0
 ·rw[if_pos g3]at a1;subst a1;clear eK;refine bm fC Bk CK fun aQ=>?_;unfold yJ;exact b6
 rw[if_neg g3]at a1;have eK:=eK (by omega) (by omega);have oU:=oU (by omega);by_cases g4:c1<0
 ·rw[if_pos g4]at a1;subst a1;refine bm fC Bk CK fun aQ=>?_;unfold yJ;exact b6
 rw[if_neg g4]at a1;subst a1;refine bm fC Bk CK fun aQ=>?_;unfold yJ;exact b6
theorem ang(r:hV):bK al 67 [r.e] r.e:=by obtain⟨n,b,d,k,l⟩:=r;simp only[hV.e];have aZ:bK al 149 [.slice 5 .no (b.map cX.e)] (.slice 5 .no (b.map cX.e)):=Xr b;have bI:=anc d fun x _=>Xr x;have ck:=anj k fun x _=>ani x;have eK:=anf l fun x _=>ane x;refine bm fC abG aij fun aQ=>?_;unfold O2;exact b6
theorem amo(r:hV):bK al 72 [r.e,r.e] (.bool true):=by obtain⟨n,b,d,k,l⟩:=r;simp only[hV.e];have aZ:bK al 156 [.slice 5 .no (b.map cX.e),.slice 5 .no (b.map cX.e)] (.bool true):=W5 b;have bI:=aml d fun x _=>W5 x;have ck:=amr k fun x _=>amq x;have eK:=amn l fun x _=>amm x;refine bm fC abv ah7 fun aQ=>?_;unfold OR;exact b6
end Go.Proofs.YtohaalphocaebaaGreat
namespace Go.Proofs.YtohaalphocaebaaGreat
open Go Go.Pv Go.ChangeShapes Go.WideShapes Go.ChangeAt Go.RowKit Go.Deep
section
variable {H:Type} {enc:fV×Value→H} {W:World} {spare:Nat→Bool} {held:Bool} {cs:List Value} {x:DataW H×List MemPlace} {fuel:Nat}
theorem Be:al.cellsOf 3=1:=by kernel_rfl
theorem Qa:al.cellsOf 9=1:=by kernel_rfl
theorem Ee:al.cellsOf 124=4:=by kernel_rfl
theorem Qb:al.cellsOf 43=1:=by kernel_rfl
theorem P5:al.cellsOf 227=5:=by kernel_rfl
theorem P6:al.cellsOf 44=1:=by kernel_rfl
theorem YT:al.cellsOf 45=1:=by kernel_rfl
theorem P7:al.cellsOf 233=2:=by kernel_rfl
theorem YU:al.cellsOf 46=1:=by kernel_rfl
theorem P8:al.cellsOf 229=2:=by kernel_rfl
theorem YV:al.cellsOf 47=1:=by kernel_rfl
theorem P9:al.cellsOf 49=5:=by kernel_rfl
theorem xD(h:h0 enc al W 0 spare held fuel 3 cs=some x):∃(n:Int) (v:Value),cs=[v]∧sW W (.int .i64 n) v:=by obtain⟨n,rfl,_,_⟩:=DataW.trod_int Tryz.underlying3 h;exact⟨n,_,rfl,by simp only[ba],rfl,rfl⟩
theorem Ws(h:h0 enc al W 0 spare held fuel 9 cs=some x):∃(s:gU) (v:Value),s.wf∧cs=[v]∧sW W s.e v:=by
 obtain⟨s,rfl,_,hm⟩:=DataW.trod_string Tryz.underlying9 h;by_cases ag:lim<s.size
 ·exact⟨.b s,_,⟨ag,by unfold maxLen at hm;omega⟩,rfl,by simp only[gU.e,ba],rfl,rfl⟩
 ·refine⟨.s s.data.toList,_,trivial,rfl,?_,rfl,rfl⟩;simp only[gU.e,ba];refine⟨by simp,?_⟩;have:s.data.toList.length=s.size:=rfl;omega
theorem TQ{α:Type}:∀{cs:List α},cs.length=2→∃a b,cs=[a,b]
 |[a,b],_=>⟨a,b,rfl⟩
theorem ago{α:Type}:∀{cs:List α},cs.length=4→∃a b c d,cs=[a,b,c,d]
 |[a,b,c,d],_=>⟨a,b,c,d,rfl⟩
theorem TR{α:Type}:∀{cs:List α},cs.length=5→∃a b c d e,cs=[a,b,c,d,e]
 |[a,b,c,d,e],_=>⟨a,b,c,d,e,rfl⟩
theorem WM:∀(fuel:Nat) (cs:List Value) (x:DataW H×List MemPlace),h0 enc al W 0 spare held fuel 124 cs=some x→∃t:b7,t.wf∧c4 W (qW W) [.int .i64 t.kind,.int .i64 t.num,t.name.e,t.args.e 4 b7.e] cs:=by
 intro fuel;induction fuel using Nat.strongRecOn with
 |ind fuel bN=>
  intro cs x h;obtain⟨xs,n,rfl,_,hlen,ju,aH⟩:=DataW.trod_struct Tryz.underlying124 h;rw[Ee]at hlen;obtain⟨hW,bG,ch,c3,rfl⟩:=ago hlen;have Ce:xs.length=4:=ju;have f0:h0 enc al W 0 spare held n 3 (([hW,bG,ch,c3].drop 0).take (al.cellsOf 3))=xs[0]?:=aH 0 _ rfl;have f1:h0 enc al W 0 spare held n 3 (([hW,bG,ch,c3].drop 1).take (al.cellsOf 3))=xs[1]?:=aH 1 _ rfl;have f2:h0 enc al W 0 spare held n 9 (([hW,bG,ch,c3].drop 2).take (al.cellsOf 9))=xs[2]?:=aH 2 _ rfl;have f3:h0 enc al W 0 spare held n 43 (([hW,bG,ch,c3].drop 3).take (al.cellsOf 43))=xs[3]?:=aH 3 _ rfl;simp only[Be,Qa,Qb,my,jQ]at f0 f1 f2 f3;rw[cf (by omega)]at f0 f1 f2 f3;obtain⟨k,v0,e8,r0⟩:=xD f0;obtain⟨m,v1,ak,dF⟩:=xD f1;obtain⟨s,v2,di,aC,fb⟩:=Ws f2;obtain⟨l,oD,v3,bj,kG⟩:=AB b7.e b7.wf Tryz.underlying43 Ee (by omega) (fun n' cs' Dy aA cr=>by obtain⟨t,t1,t2⟩:=bN n' (by omega) cs' Dy cr;exact⟨t,t1,by rw[b7.e_eq];exact x7 t2⟩) f3
  simp only[nQ,and_true]at e8 ak aC bj;subst e8 ak aC bj;cases l with
  |l a=>
   refine⟨.mk k m s a,?_,?_⟩
   ·simp only[b7.wf,b7.wfL_iff];exact⟨di,oD⟩
   ·simp only[c4,b7.kind,b7.num,b7.name,b7.args];exact⟨_,_,rfl,⟨r0.1,r0.2.1⟩,_,_,rfl,⟨dF.1,dF.2.1⟩,_,_,rfl,⟨fb.1,fb.2.1⟩,_,_,rfl,⟨kG.1,kG.2.1⟩,rfl⟩
  |b p aX c=>
   refine⟨.big k m s p aX c,?_,?_⟩
   ·simp only[b7.wf];exact⟨di,oD⟩
   ·simp only[c4,b7.kind,b7.num,b7.name,b7.args];exact⟨_,_,rfl,⟨r0.1,r0.2.1⟩,_,_,rfl,⟨dF.1,dF.2.1⟩,_,_,rfl,⟨fb.1,fb.2.1⟩,_,_,rfl,⟨kG.1,kG.2.1⟩,rfl⟩
theorem YA(h:h0 enc al W 0 spare held fuel 227 cs=some x):∃b:e0,b.t.wf∧reads W b.e cs:=by obtain⟨xs,n,rfl,_,hlen,ju,aH⟩:=DataW.trod_struct Tryz.underlying227 h;rw[P5]at hlen;obtain⟨hW,bG,ch,c3,hD,rfl⟩:=TR hlen;have Ce:xs.length=2:=ju;have f0:h0 enc al W 0 spare held n 3 (([hW,bG,ch,c3,hD].drop 0).take (al.cellsOf 3))=xs[0]?:=aH 0 _ rfl;have f1:h0 enc al W 0 spare held n 124 (([hW,bG,ch,c3,hD].drop 1).take (al.cellsOf 124))=xs[1]?:=aH 1 _ rfl;simp only[Be,Ee,my,jQ]at f0 f1;rw[cf (by omega)]at f0 f1;obtain⟨k,v0,e8,r0⟩:=xD f0;obtain⟨t,ea,dF⟩:=WM _ _ _ f1;simp only[nQ,and_true]at e8;subst e8;refine⟨⟨k,t⟩,ea,x7 ?_⟩;rw[c4];exact⟨_,_,rfl,⟨r0.1,r0.2.1⟩,dF⟩
theorem agd(h:h0 enc al W 0 spare held fuel 233 cs=some x):∃b:bL,True∧reads W b.e cs:=by obtain⟨xs,n,rfl,_,hlen,ju,aH⟩:=DataW.trod_struct Tryz.underlying233 h;rw[P7]at hlen;obtain⟨hW,bG,rfl⟩:=TQ hlen;have Ce:xs.length=2:=ju;have f0:h0 enc al W 0 spare held n 3 (([hW,bG].drop 0).take (al.cellsOf 3))=xs[0]?:=aH 0 _ rfl;have f1:h0 enc al W 0 spare held n 3 (([hW,bG].drop 1).take (al.cellsOf 3))=xs[1]?:=aH 1 _ rfl;simp only[Be,my,jQ]at f0 f1;rw[cf (by omega)]at f0 f1;obtain⟨k,v0,e8,r0⟩:=xD f0;obtain⟨m,v1,ak,dF⟩:=xD f1;simp only[nQ,and_true]at e8 ak;subst e8 ak;refine⟨⟨k,m⟩,trivial,x7 ?_⟩;simp only[c4];exact⟨_,_,rfl,⟨r0.1,r0.2.1⟩,_,_,rfl,⟨dF.1,dF.2.1⟩,rfl⟩
theorem agA(h:h0 enc al W 0 spare held fuel 229 cs=some x):∃b:hk,b.s.wf∧reads W b.e cs:=by obtain⟨xs,n,rfl,_,hlen,ju,aH⟩:=DataW.trod_struct Tryz.underlying229 h;rw[P8]at hlen;obtain⟨hW,bG,rfl⟩:=TQ hlen;have Ce:xs.length=2:=ju;have f0:h0 enc al W 0 spare held n 3 (([hW,bG].drop 0).take (al.cellsOf 3))=xs[0]?:=aH 0 _ rfl;have f1:h0 enc al W 0 spare held n 9 (([hW,bG].drop 1).take (al.cellsOf 9))=xs[1]?:=aH 1 _ rfl;simp only[Be,Qa,my,jQ]at f0 f1;rw[cf (by omega)]at f0 f1;obtain⟨k,v0,e8,r0⟩:=xD f0;obtain⟨s,v1,ea,ak,dF⟩:=Ws f1;simp only[nQ,and_true]at e8 ak;subst e8 ak;refine⟨⟨k,s⟩,ea,x7 ?_⟩;simp only[c4];exact⟨_,_,rfl,⟨r0.1,r0.2.1⟩,_,_,rfl,⟨dF.1,dF.2.1⟩,rfl⟩
theorem NJ(h:h0 enc al W 0 spare held fuel 44 cs=some x):∃d:cJ e0,wB d∧∃v,cs=[v]∧sW W (jV d) v:=AB e0.e (fun b=>b.t.wf) Tryz.underlying44 P5 (by omega) (fun _ _ _ _ cr=>YA cr) h
theorem YB(h:h0 enc al W 0 spare held fuel 45 cs=some x):∃d:cJ (cJ e0),d.wf wB∧∃v,cs=[v]∧sW W (oY d) v:=AB jV wB Tryz.underlying45 P6 (by omega) (fun _ _ _ _ cr=>by obtain⟨d,w,v,rfl,r⟩:=NJ cr;exact⟨d,w,r.reads⟩) h
theorem agh(h:h0 enc al W 0 spare held fuel 46 cs=some x):∃d:cJ bL,d.wf (fun _=>True)∧∃v,cs=[v]∧sW W (pc d) v:=AB bL.e (fun _=>True) Tryz.underlying46 P7 (by omega) (fun _ _ _ _ cr=>agd cr) h
theorem agB(h:h0 enc al W 0 spare held fuel 47 cs=some x):∃d:cJ hk,d.wf (fun b=>b.s.wf)∧∃v,cs=[v]∧sW W (pg d) v:=AB hk.e (fun b=>b.s.wf) Tryz.underlying47 P8 (by omega) (fun _ _ _ _ cr=>agA cr) h
theorem aln(h:h0 enc al W 0 spare held fuel 49 cs=some x):∃r:nX,r.wf∧reads W r.e cs:=by obtain⟨xs,n,rfl,_,hlen,ju,aH⟩:=DataW.trod_struct Tryz.underlying49 h;rw[P9]at hlen;obtain⟨hW,bG,ch,c3,hD,rfl⟩:=TR hlen;have Ce:xs.length=5:=ju;have f0:h0 enc al W 0 spare held n 3 (([hW,bG,ch,c3,hD].drop 0).take (al.cellsOf 3))=xs[0]?:=aH 0 _ rfl;have f1:h0 enc al W 0 spare held n 44 (([hW,bG,ch,c3,hD].drop 1).take (al.cellsOf 44))=xs[1]?:=aH 1 _ rfl;have f2:h0 enc al W 0 spare held n 45 (([hW,bG,ch,c3,hD].drop 2).take (al.cellsOf 45))=xs[2]?:=aH 2 _ rfl;have f3:h0 enc al W 0 spare held n 46 (([hW,bG,ch,c3,hD].drop 3).take (al.cellsOf 46))=xs[3]?:=aH 3 _ rfl;have f4:h0 enc al W 0 spare held n 47 (([hW,bG,ch,c3,hD].drop 4).take (al.cellsOf 47))=xs[4]?:=aH 4 _ rfl;simp only[Be,P6,YT,YU,YV,my,jQ]at f0 f1 f2 f3 f4;rw[cf (by omega)]at f0 f1 f2 f3 f4;obtain⟨k,v0,e8,r0⟩:=xD f0;obtain⟨d1,ea,v1,ak,dF⟩:=NJ f1;obtain⟨d2,di,v2,aC,fb⟩:=YB f2;obtain⟨d3,oD,v3,bj,kG⟩:=agh f3;obtain⟨d4,mw,v4,dd,U7⟩:=agB f4;simp only[nQ,and_true]at e8 ak aC bj dd;subst e8 ak aC bj dd;refine⟨⟨k,d1,d2,d3,d4⟩,⟨ea,di,fun p n c e=>by simp only at e;subst e;exact oD,mw⟩,x7 ?_⟩;simp only[c4];exact⟨_,_,rfl,⟨r0.1,r0.2.1⟩,_,_,rfl,⟨dF.1,dF.2.1⟩,_,_,rfl,⟨fb.1,fb.2.1⟩,_,_,rfl,⟨kG.1,kG.2.1⟩,_,_,rfl,⟨U7.1,U7.2.1⟩,rfl⟩
end
end Go.Proofs.YtohaalphocaebaaGreat
namespace Go.Proofs.YtohaalphocaebaaGreat
open Go Go.Pv Go.ChangeShapes Go.WideShapes Go.ChangeAt Go.RowKit
theorem akG:ownKnob al.godebug=none:=by kernel_rfl
theorem akF:laidOutB al=true:=by kernel_rfl
theorem YL{f:FuncId}{fn:Func}(qp:al.funcs[f]? =some fn)(ZE:∀args w,(callFunc f args).run al w= .ok (.enter f args) w){w:World}{ν:bd}{args:List ah}{bc:Array Value}(h:bK al f args (.bool true))(aL:∀k j b,¬ν.tr k j b)(bh:∀b o,ν.A b o→b<w.heap.size)(ae:∀k,ν.bx k=none)(av:∀k,ν.ow k=none)(aK:cP w ν args bc.toList):
  Calls al f bc w fun e w'=>e= .returned (.bool true)∧Below w.heap.size w w':=by
 have a8:Pv.Good (fx ν ⟨[],[]⟩) w ν [] []:=⟨bh,fun k cs ab=>by simp[Pv.look]at ab,fun k bM bl J=>by simp[Pv.look]at J,fun g o ab=>by simp[Pv.look]at ab,fun g fe n n' v v' bl J=>by simp[Pv.look]at J,fun g k n v bl J=>by simp[Pv.look]at J,fun k=>.inl (ae k),fun _ _ k j=>aL k j _⟩;rcases h w ν bc a8 (fun k=>⟨fun _=>ae k,fun _=>av k,aL k⟩) aK with⟨_,aw⟩|⟨v,w',aw,_⟩
 ·refine aw.mono ?_;rintro e w' ⟨v,r,ai,bo,rfl,⟨rfl,rfl⟩,mf,_,_,_,lL⟩;simp only[ba]at mf;subst mf;refine⟨rfl,lL.os,lL.tape,lL.output,lL.size,fun k ab=>lL.block k ab ?_⟩;simp[fx,Pv.look]
 ·rw[ZE]at aw;cases aw
theorem ZH{W:World}{b o:Nat}(h:(qW W).A b o):b<W.heap.size:=by
 obtain⟨u,hu⟩:=h;rcases Nat.lt_or_ge b W.heap.size with h|h
 ·exact h
 ·simp[World.cell?,Array.getElem?_eq_none h]at hu
theorem akC{W:World}{cu:List ah}{us:Array Value}(h:reads W (.agg cu) us.toList):ba W (qW W) (.agg cu) (.agg us):=by
 obtain⟨v,J,U,_⟩:=h;have ao:=U;simp only[ba]at ao;obtain⟨ws,rfl,_⟩:=ao;have:ws=us:=by
  have:ws.toList=us.toList:=by simpa[oH]using J
  exact Array.toList_inj.1 this
 rw[←this];exact U
end Go.Proofs.YtohaalphocaebaaGreat
