/- From a contract to the row. -/
import Derived.Test.YtahlgcidhnjlbaaGreatProg
import Derived.ProofKit
import Derived.Carry
import Derived.WalkKit
import Derived.Test.YtahlgcidhnjlbaaGreatF4
set_option linter.all false
set_option maxHeartbeats 4000000
open Bool renaming and_eq_true→cC,eq_iff_iff→qq,false_eq_true→gX,or_eq_true→lX
open Go renaming TypeId→fZ
open Go.DataW renaming trod→iX
open Go.IntKind renaming i64→pQ
open Go.IntWalk renaming i64_in→oe
open Go.Op renaming bytesLess→hv
open Go.Proofs.Tryz renaming prog→ao
open Go.Value renaming cells→pR
open List renaming all_eq_true→gn,cons_append→bX,drop→nF,drop_eq_getElem_cons→kP,drop_length→sv,getElem?_eq_getElem→bZ,getElem?_eq_none→qt,getElem?_eq_some_iff→e1,getElem_of_mem→nG,length_cons→o6,length_drop→sw,length_map→rj,map_append→qu,map_cons→gO,mem_append→kQ,mem_cons→fR,mem_filter→nH,mem_map→h5,mem_of_getElem?→dK,nil_append→b2,pairwise_cons→mR,pairwise_iff_getElem→o7,take→lY,take_length→mj,take_of_length_le→hG
open List.Pairwise renaming filter→Yt
open List.cons renaming injEq→qs
open Nat renaming le_refl→eR,le_trans→jT
open Option renaming getD_none→nI,getD_some→ka,isSome_none→ml,isSome_some→pT
open Option.some renaming inj→eE,injEq→dL
open _root_ renaming False→eQ,Option→aZ,UInt8→dE,beq_iff_eq→dQ,decide_eq_false→iB,decide_eq_false_iff_not→gI,decide_eq_true→gJ,decide_eq_true_eq→e2
namespace Go.Proofs.YtahlgcidhnjlbaaGreat
open Go Go.Pv
def Qh:C:=(aa [cM 1 0,be 2 false] (aa [a6 3 4 1,dJ 4 123 [.t 3,(fQ 5000)],aS 5 .leq 4 5000,I 6 5,aq 6 true (a6 7 4 1),aq 6 true (cJ 8 124 7),du 9 6 8,I 2 9] .ret))
@[simp] def ale:List bA:=[.tmp 2]
def zj:C:=(aa [cM 2 0,eN 4 1] (.seq (aa [aG 7 0 1 2,av 8 1 7,aS 9 .eql 8 1] (aT 9 (aa [I 10 1,aG 11 1 1 2,av 12 1 11,b3 13 126 10 12,I 4 13] .ret) .skip)) (.seq (aa [aG 14 3 1 2,av 15 1 14,b7 16 15,bJ 17 0] (e0 18 17 16 (.seq (.block 1 (aa [cd 19 4 15 17,a6 20 4 19,dg 6 ds,bT 4 6 20] (.region [a6 21 4 6,I 22 1,b3 23 58 21 22,I 1 23]))) (.region [aS 24 .add 17 1,I 17 24])))) (aa [I 25 1,I 4 25] .ret))))
@[simp] def AX:List bA:=[.tmp 4]
def Qt:C:=(aa [cM 3 1,dg 4 ds,be 5 false] (aa [I 7 0,a6 8 4 3,b3 9 127 7 8,dg 6 ds,bT 4 6 9] (.seq (.drawn true 13 [a6 10 4 6,a6 11 4 6,cJ 12 128 11,bT 4 4 10,I 5 12]) .ret)))
@[simp] def Wn:List bA:=[.cell 4 true 4,.tmp 5]
def Qk:C:=(aa [be 6 false] (aa [I 7 0,I 8 1,bg 9 .geq 7 8,I 10 9,bW 10 true 11 0,bW 10 true 12 2,aq 10 true (bg 13 .leq 11 12),du 14 10 13,I 6 14] .ret))
@[simp] def Wi:List bA:=[.tmp 6]
def IS:C:=(aa [be 2 false] (.seq (aa [I 9 0,cJ 10 145 9,cy 11 10] (aT 11 (aa [be 2 false] .ret) .skip)) (.seq (aa [I 12 0,b7 13 12,bJ 14 0] (e0 15 14 13 (.seq (.block 1 (aa [cd 16 5 12 14,a6 17 5 16,dg 4 ik,bT 5 4 17] (.seq (aa [gD 18 1 4 4,aG 19 0 1 18,av 20 1 19,aS 21 .eql 20 1,I 22 21,aq 22 true (gD 23 1 4 4),aq 22 true (aG 24 1 1 23),aq 22 true (av 25 1 24),aq 22 true (aG 26 0 1 4),aq 22 true (av 27 1 26),aq 22 true (bg 28 .geq 25 27),du 29 22 28] (aT 29 (aa [be 2 false] .ret) .skip)) (aa [gD 30 1 4 4,a6 31 4 30,dJ 32 58 [.t 31,(.c (.slice 1 .nil []))],b7 33 32,bJ 34 0] (.block 2 (.loop (aa [bg 35 .lss 34 33] (.seq (aT 35 .skip (.exit 2)) (.seq (.block 3 (aa [cd 36 1 32 34,av 37 1 36,I 6 37] (aa [I 39 0,I 40 6,b3 41 146 39 40,I 38 41,cH 42 0 38,cH 43 1 38,dg 7 ds,bT 4 7 42,I 8 43] (aa [I 44 8] (aT 44 (aa [be 2 false] .ret) .skip))))) (.region [aS 45 .add 34 1,I 34 45])))))))))) (.region [aS 46 .add 14 1,I 14 46])))) (aa [be 2 true] .ret))))
@[simp] def Ml:List bA:=[.tmp 2]
def Qd:C:=(aa [be 2 false] (.seq (aa [bJ 3 0] (.block 0 (.loop (.seq (aa [I 5 3,I 6 0,ca 7 (.slen (.t 6)),bg 8 .lss 5 7] (aT 8 .skip (.exit 0))) (.seq (.block 1 (aa [I 11 0,I 12 3,ca 13 (.sidx (.t 11) (.t 12)),ca 14 (.bin .geq false (.t 13) (.c (.int .u8 97))),I 15 14,bW 15 true 16 0,bW 15 true 17 3,aq 15 true (ca 18 (.sidx (.t 16) (.t 17))),aq 15 true (ca 19 (.bin .leq false (.t 18) (.c (.int .u8 122)))),du 20 15 19,I 4 20] (aa [I 21 4,cy 22 21,I 23 22,bW 23 true 24 3,aq 23 true (aS 25 .eql 24 0),bW 23 true 26 25,bW 26 false 27 0,bW 26 false 28 3,aq 26 false (ca 29 (.sidx (.t 27) (.t 28))),aq 26 false (ca 30 (.bin .neq false (.t 29) (.c (.int .u8 45)))),bW 26 false 31 30,bW 31 true 32 0,bW 31 true 33 3,aq 31 true (ca 34 (.sidx (.t 32) (.t 33))),aq 31 true (ca 35 (.conv .i64 (.t 34))),aq 31 true (dJ 36 75 [.t 35,(fQ 48),(fQ 57)]),aq 31 true (cy 37 36),aq 26 false (du 38 31 37),aq 23 true (cY 39 26 38),du 40 23 39] (aT 40 (aa [be 2 false] .ret) .skip)))) (.region [I 9 3,aS 10 .add 9 1,I 3 10])))))) (aa [I 41 0,ca 42 (.slen (.t 41)),dJ 43 75 [.t 42,(fQ 1),(fQ 12)],I 2 43] .ret)))
@[simp] def AU:List bA:=[.tmp 2]
def Ql:C:=(aa [cM 2 0,bJ 4 0] (aa [bJ 5 1] (.seq (aa [aG 8 3 1 2,av 9 1 8,b7 10 9,bJ 11 0] (e0 12 11 10 (.seq (.block 1 (aa [cd 13 4 9 11,a6 14 4 13,dg 7 ds,bT 4 7 14] (.seq (aa [I 15 5,I 16 1,bg 17 .gtr 15 16] (aT 17 (aa [I 18 5,I 4 18] .ret) .skip)) (.region [I 19 5,a6 20 4 7,I 21 1,I 22 5,bg 23 .sub 21 22,b3 24 123 20 23,bg 25 .add 19 24,I 5 25])))) (.region [aS 26 .add 11 1,I 11 26])))) (aa [I 27 5,I 4 27] .ret))))
@[simp] def Mn:List bA:=[.tmp 4]
def l2:C:=(aa [cM 1 0,be 2 false] (.seq (aa [aG 3 0 1 1,av 4 1 3,aS 5 .neq 4 1,I 6 5,aq 6 true (aG 7 0 1 1),aq 6 true (av 8 1 7),aq 6 true (aS 9 .neq 8 3),du 10 6 9,I 11 10,aq 11 true (aG 12 1 1 1),aq 11 true (av 13 1 12),aq 11 true (aS 14 .neq 13 0),du 15 11 14,I 16 15,aq 16 false (aG 17 0 1 1),aq 16 false (av 18 1 17),aq 16 false (aS 19 .neq 18 2),bW 16 false 20 19,aq 20 true (aG 21 2 1 1),aq 20 true (av 22 1 21),xa 20 true 23 (.bin .neq false (.t 22) (.c (.str []))),aq 16 false (du 24 20 23),cY 25 16 24,I 26 25,aq 26 false (aG 27 0 1 1),aq 26 false (av 28 1 27),aq 26 false (aS 29 .neq 28 4),bW 26 false 30 29,aq 30 true (aG 31 3 1 1),aq 30 true (av 32 1 31),aq 30 true (b7 33 32),aq 30 true (aS 34 .gtr 33 0),aq 26 false (du 35 30 34),cY 36 26 35] (aT 36 (aa [be 2 false] .ret) .skip)) (.seq (aa [aG 37 0 1 1,av 38 1 37] (.block 0 (aa [aS 40 .eql 38 0,I 39 40] (aT 39 (aa [be 2 true] .ret) (aa [aS 42 .eql 38 1,I 41 42] (aT 41 (aa [aG 43 1 1 1,av 44 1 43,dJ 45 75 [.t 44,(fQ 0),(fQ 100000)],I 2 45] .ret) (aa [aS 47 .eql 38 2,I 46 47] (aT 46 (aa [aG 48 2 1 1,av 49 1 48,cJ 50 119 49,I 2 50] .ret) (aa [aS 52 .eql 38 3,I 51 52] (aT 51 (aa [aG 53 1 1 1,av 54 1 53,dJ 55 75 [.t 54,(fQ (-1000000000)),(fQ 1000000000)],I 2 55] .ret) (aa [aS 57 .eql 38 4,I 56 57] (aT 56 (aa [aG 58 3 1 1,av 59 1 58,b7 60 59,aS 61 .eql 60 2,I 62 61,aq 62 true (aG 63 3 1 1),aq 62 true (av 64 1 63),aq 62 true (jR 65 4 64 0),aq 62 true (a6 66 4 65),aq 62 true (cJ 67 124 66),du 68 62 67,I 69 68,aq 69 true (aG 70 3 1 1),aq 69 true (av 71 1 70),aq 69 true (jR 72 4 71 1),aq 69 true (a6 73 4 72),aq 69 true (cJ 74 124 73),du 75 69 74,I 2 75] .ret) .skip)))))))))))) (aa [be 2 false] .ret))))
@[simp] def lS:List bA:=[.tmp 2]
def Qn:C:=(aa [eN 4 1] (aa [I 7 0,b7 8 7,I 5 8] (.seq (.block 0 (.loop (.seq (aa [I 9 5,aS 10 .gtr 9 0,I 11 10,bW 11 true 12 0,bW 11 true 13 5,aq 11 true (aS 14 .sub 13 1),aq 11 true (cd 15 1 12 14),aq 11 true (av 16 1 15),bW 11 true 17 1,aq 11 true (bg 18 .geq 16 17),du 19 11 18] (aT 19 .skip (.exit 0))) (.block 1 (.region [I 20 5,aS 21 .sub 20 1,I 5 21]))))) (.seq (aa [I 22 5,I 23 0,b7 24 23,bg 25 .lss 22 24,I 26 25,bW 26 true 27 0,bW 26 true 28 5,aq 26 true (cd 29 1 27 28),aq 26 true (av 30 1 29),bW 26 true 31 1,aq 26 true (bg 32 .eql 30 31),du 33 26 32] (aT 33 (aa [I 34 0,I 4 34] .ret) .skip)) (aa [eD 35 1 3 [],I 36 0,I 37 5,ca 38 (.lsl 1 (.t 36) none (some (.t 37))),hF 39 1 3 35 38,I 6 39] (aa [I 40 6,I 41 1,eD 42 1 3 [.t 41],hF 43 1 3 40 42,I 6 43] (aa [I 44 6,I 45 0,I 46 5,ca 47 (.lsl 1 (.t 45) (some (.t 46)) none),hF 48 1 3 44 47,I 4 48] .ret)))))))
@[simp] def yD:List bA:=[.tmp 4]
def ES:C:=(aa [cM 3 1,dg 4 ds] (.seq (aa [aG 7 0 1 3,av 8 1 7,aS 9 .eql 8 1] (aT 9 (aa [I 11 0,aG 12 1 1 3,av 13 1 12,b3 14 146 11 13,I 10 14,cH 15 0 10,cH 16 1 10,dg 5 ds,bT 4 5 15,I 6 16] (aa [I 17 6] (aT 17 (aa [a6 18 4 5,bT 4 4 18] .ret) .skip))) .skip)) (.seq (aa [aG 19 0 1 3,av 20 1 19,aS 21 .eql 20 4] (aT 21 (.seq (.drawn true 36 [I 22 0,aG 23 3 1 3,av 24 1 23,jR 25 4 24 0,a6 26 4 25,b3 27 127 22 26,I 28 0,aG 29 3 1 3,av 30 1 29,jR 31 4 30 1,a6 32 4 31,b3 33 127 28 32,b3 34 189 27 33,bT 4 4 34]) .ret) .skip)) (aa [a6 35 4 3,bT 4 4 35] .ret))))
@[simp] def G7:List bA:=[.cell 4 true 4]
def Qm:C:=(aa [cM 1 0,be 2 false] (aa [a6 3 4 1,dJ 4 123 [.t 3,(fQ 5000)],aS 5 .leq 4 5000,I 2 5] .ret))
@[simp] def Wj:List bA:=[.tmp 2]
def Qw:C:=(aa [be 2 false] (.seq (aa [I 5 0,b7 6 5,bJ 7 0] (e0 8 7 6 (.seq (.block 1 (aa [I 9 7,cd 10 5 5 7,a6 11 5 10,dg 4 ik,I 3 9,bT 5 4 11] (.seq (.drawn true 41 [I 12 3,aS 13 .gtr 12 0,I 14 13,bW 14 true 15 0,bW 14 true 16 3,aq 14 true (aS 17 .sub 16 1),aq 14 true (cd 18 5 15 17),aq 14 true (aG 19 0 1 18),aq 14 true (av 20 1 19),aq 14 true (aG 21 0 1 4),aq 14 true (av 22 1 21),aq 14 true (bg 23 .geq 20 22),du 24 14 23,I 25 24,aq 25 false (aG 26 0 1 4),aq 25 false (av 27 1 26),aq 25 false (dJ 28 75 [.t 27,(fQ 0),(fQ 100000)]),aq 25 false (cy 29 28),cY 30 25 29,I 31 30,aq 31 false (gD 32 1 4 4),aq 31 false (a6 33 4 32),aq 31 false (cJ 34 56 33),aq 31 false (cy 35 34),cY 36 31 35]) (aT 36 (aa [be 2 false] .ret) .skip)))) (.region [aS 37 .add 7 1,I 7 37])))) (aa [I 38 0,b7 39 38,aS 40 .leq 39 400,I 2 40] .ret)))
@[simp] def Mr:List bA:=[.tmp 2]
def Qu:C:=(aa [dg 4 ds,be 5 false] (.seq (aa [I 8 0,b7 9 8,bJ 10 0] (e0 11 10 9 (.seq (.block 1 (aa [cd 12 5 8 10,a6 13 5 12,dg 7 ik,bT 5 7 13] (aa [aG 14 0 1 7,av 15 1 14,I 16 1,bg 17 .eql 15 16] (aT 17 (aa [gD 18 1 4 7,a6 19 4 18,bT 4 4 19,be 5 true] .ret) .skip)))) (.region [aS 20 .add 10 1,I 10 20])))) (aa [jQ 21 ds [],bT 4 4 21,be 5 false] .ret)))
@[simp] def Mp:List bA:=[.cell 4 true 4,.tmp 5]
def Qy:C:=(aa [eN 4 5,be 5 false] (aa [eD 10 4 30 [],I 6 10] (aa [eD 11 4 30 [],I 7 11] (.seq (aa [I 12 1,b7 13 12,bJ 14 0] (e0 15 14 13 (.seq (.block 1 (aa [cd 16 5 12 14,a6 17 5 16,dg 9 ik,bT 5 9 17] (aa [I 18 6,aG 19 0 1 9,av 20 1 19,cJ 21 114 20,eD 22 4 30 [.t 21],hF 23 4 30 18 22,I 6 23] (.region [I 24 7,gD 25 1 4 9,a6 26 4 25,eD 27 4 30 [.t 26],hF 28 4 30 24 27,I 7 28])))) (.region [aS 29 .add 14 1,I 14 29])))) (aa [I 30 0,I 31 6,I 32 7,dJ 33 202 [.t 30,.t 31,.t 32],cH 34 0 33,cH 35 1 33,I 4 34,I 5 35] .ret)))))
@[simp] def Wo:List bA:=[.tmp 4,.tmp 5]
def sF:C:=(aa [cM 4 1,cM 5 2,eN 6 5,be 7 false] (aa [I 12 0,a6 13 4 4,b3 14 201 12 13,bT 4 4 14] (aa [I 15 0,a6 16 4 5,b3 17 201 15 16,bT 4 5 17] (.seq (aa [aG 18 0 1 4,av 19 1 18,aS 20 .eql 19 1,I 21 20,aq 21 true (aG 22 0 1 5),aq 21 true (av 23 1 22),aq 21 true (aS 24 .eql 23 1),du 25 21 24,I 26 25,aq 26 true (aG 27 1 1 4),aq 26 true (av 28 1 27),aq 26 true (aG 29 1 1 5),aq 26 true (av 30 1 29),aq 26 true (bg 31 .lss 28 30),du 32 26 31] (aT 32 (aa [I 33 0,aG 34 1 1 5,av 35 1 34,a6 36 4 4,dJ 37 212 [.t 33,.t 35,.t 36],cH 38 0 37,cH 39 1 37,I 6 38,I 7 39] .ret) .skip)) (.seq (aa [aG 40 0 1 4,av 41 1 40,aS 42 .eql 41 1,I 43 42,aq 43 true (aG 44 0 1 5),aq 43 true (av 45 1 44),aq 43 true (aS 46 .eql 45 1),du 47 43 46,I 48 47,aq 48 true (aG 49 1 1 4),aq 48 true (av 50 1 49),aq 48 true (aG 51 1 1 5),aq 48 true (av 52 1 51),aq 48 true (bg 53 .eql 50 52),du 54 48 53] (aT 54 (aa [I 55 0,I 6 55,be 7 true] .ret) .skip)) (.seq (aa [aG 56 0 1 4,av 57 1 56,aS 58 .eql 57 1] (aT 58 (aa [I 59 0,aG 60 1 1 4,av 61 1 60,a6 62 4 5,dJ 63 212 [.t 59,.t 61,.t 62],cH 64 0 63,cH 65 1 63,I 6 64,I 7 65] .ret) .skip)) (.seq (aa [aG 66 0 1 5,av 67 1 66,aS 68 .eql 67 1] (aT 68 (aa [I 69 0,aG 70 1 1 5,av 71 1 70,a6 72 4 4,dJ 73 212 [.t 69,.t 71,.t 72],cH 74 0 73,cH 75 1 73,I 6 74,I 7 75] .ret) .skip)) (.seq (aa [aG 76 0 1 4,av 77 1 76,aG 78 0 1 5,av 79 1 78,bg 80 .neq 77 79,I 81 80,aq 81 false (aG 82 1 1 4),aq 81 false (av 83 1 82),aq 81 false (aG 84 1 1 5),aq 81 false (av 85 1 84),aq 81 false (bg 86 .neq 83 85),cY 87 81 86,I 88 87,aq 88 false (aG 89 2 1 4),aq 88 false (av 90 1 89),aq 88 false (aG 91 2 1 5),aq 88 false (av 92 1 91),aq 88 false (bg 93 .neq 90 92),cY 94 88 93] (aT 94 (aa [eN 6 5,be 7 false] .ret) .skip)) (.seq (aa [aG 95 3 1 4,av 96 1 95,b7 97 96,bJ 98 0] (e0 99 98 97 (.seq (.block 1 (aa [I 100 98,cd 101 4 96 98,a6 102 4 101,dg 9 ds,I 8 100,bT 4 9 102] (.seq (.drawn true 119 [I 104 0,a6 105 4 9,aG 106 3 1 5,av 107 1 106,I 108 8,cd 109 4 107 108,a6 110 4 109,dJ 111 180 [.t 104,.t 105,.t 110],I 103 111,cH 112 0 103,cH 113 1 103,I 10 112,I 11 113]) (.seq (aa [I 114 11,cy 115 114] (aT 115 (aa [eN 6 5,be 7 false] .ret) .skip)) (.region [I 116 10,I 0 116]))))) (.region [aS 117 .add 98 1,I 98 117])))) (aa [I 118 0,I 6 118,be 7 true] .ret))))))))))
@[simp] def sb:List bA:=[.tmp 6,.tmp 7]
def ET:C:=(aa [cM 3 1,dg 4 ds] (.seq (aa [aG 7 0 1 3,av 8 1 7,aS 9 .eql 8 1] (aT 9 (aa [I 11 0,aG 12 1 1 3,av 13 1 12,b3 14 146 11 13,I 10 14,cH 15 0 10,cH 16 1 10,dg 5 ds,bT 4 5 15,I 6 16] (aa [I 17 6] (aT 17 (aa [a6 18 4 5,bT 4 4 18] .ret) .skip))) .skip)) (aa [a6 19 4 3,bT 4 4 19] .ret)))
@[simp] def G8:List bA:=[.cell 4 true 4]
def Qx:C:=(aa [eN 6 5,be 7 false] (.seq (aa [I 12 1,b7 13 12,bJ 14 0] (e0 15 14 13 (.seq (.block 1 (aa [I 16 14,cd 17 4 12 14,a6 18 4 17,dg 9 ds,I 8 16,bT 4 9 18] (.seq (.drawn true 34 [I 20 0,a6 21 4 9,I 22 2,I 23 8,cd 24 4 22 23,a6 25 4 24,dJ 26 180 [.t 20,.t 21,.t 25],I 19 26,cH 27 0 19,cH 28 1 19,I 10 27,I 11 28]) (.seq (aa [I 29 11,cy 30 29] (aT 30 (aa [eN 6 5,be 7 false] .ret) .skip)) (.region [I 31 10,I 0 31]))))) (.region [aS 32 .add 14 1,I 14 32])))) (aa [I 33 0,I 6 33,be 7 true] .ret)))
@[simp] def Ms:List bA:=[.tmp 6,.tmp 7]
def BH:C:=(aa [cM 5 2,eN 6 5,be 7 false] (aa [I 15 0,a6 16 4 5,b3 17 60 15 16,I 14 17,cH 18 0 14,cH 19 1 14,dg 8 ds,bT 4 8 18,I 9 19] (.seq (aa [I 20 9,cy 21 20,I 22 21,bW 22 false 23 1,aq 22 false (a6 24 4 8),aq 22 false (b3 25 233 23 24),cY 26 22 25,I 27 26,bW 27 false 28 0,aq 27 false (b7 29 28),aq 27 false (aS 30 .geq 29 400),cY 31 27 30] (aT 31 (aa [eN 6 5,be 7 false] .ret) .skip)) (aa [eD 32 5 113 [],I 10 32] (.seq (aa [I 33 0,b7 34 33,bJ 35 0] (e0 36 35 34 (.seq (.block 1 (aa [cd 37 5 33 35,a6 38 5 37,dg 12 ik,bT 5 12 38] (aa [gD 39 1 4 12,a6 40 4 39,I 41 1,a6 42 4 8,dJ 43 234 [.t 40,.t 41,.t 42],dg 13 ds,bT 4 13 43] (.seq (aa [a6 44 4 13,cJ 45 128 44,cy 46 45] (aT 46 (aa [eN 6 5,be 7 false] .ret) .skip)) (.region [I 47 10,aG 48 0 1 12,av 49 1 48,a6 50 4 13,jQ 51 ik [(0,1,(.t 49)),(1,4,(.t 50))],eD 52 5 113 [.t 51],hF 53 5 113 47 52,I 10 53]))))) (.region [aS 54 .add 35 1,I 35 54])))) (aa [I 55 10,I 56 1,a6 57 4 8,jQ 58 ik [(0,1,(.t 56)),(1,4,(.t 57))],b3 59 235 55 58,I 6 59,be 7 true] .ret))))))
@[simp] def AY:List bA:=[.tmp 6,.tmp 7]
def Qo:C:=(aa [cM 3 1,be 4 false] (.seq (aa [aG 7 3 1 3,av 8 1 7,b7 9 8,bJ 10 0] (e0 11 10 9 (.seq (.block 1 (aa [cd 12 4 8 10,a6 13 4 12,dg 6 ds,bT 4 6 13] (aa [I 14 0,a6 15 4 6,b3 16 233 14 15] (aT 16 (aa [be 4 true] .ret) .skip)))) (.region [aS 17 .add 10 1,I 10 17])))) (aa [aG 18 0 1 3,av 19 1 18,aS 20 .eql 19 1,I 21 20,aq 21 true (aG 22 1 1 3),aq 21 true (av 23 1 22),bW 21 true 24 0,aq 21 true (bg 25 .eql 23 24),du 26 21 25,I 4 26] .ret)))
@[simp] def Mo:List bA:=[.tmp 4]
def ER:C:=(aa [cM 3 0,cM 5 2,dg 6 ds] (.seq (aa [aG 7 0 1 3,av 8 1 7,aS 9 .eql 8 1,I 10 9,aq 10 true (aG 11 1 1 3),aq 10 true (av 12 1 11),bW 10 true 13 1,aq 10 true (bg 14 .eql 12 13),du 15 10 14] (aT 15 (aa [a6 16 4 5,bT 4 6 16] .ret) .skip)) (.seq (aa [aG 17 0 1 3,av 18 1 17,aS 19 .eql 18 4] (aT 19 (.seq (.drawn true 36 [aG 20 3 1 3,av 21 1 20,jR 22 4 21 0,a6 23 4 22,I 24 1,a6 25 4 5,dJ 26 234 [.t 23,.t 24,.t 25],aG 27 3 1 3,av 28 1 27,jR 29 4 28 1,a6 30 4 29,I 31 1,a6 32 4 5,dJ 33 234 [.t 30,.t 31,.t 32],b3 34 189 26 33,bT 4 6 34]) .ret) .skip)) (aa [a6 35 4 3,bT 4 6 35] .ret))))
@[simp] def G6:List bA:=[.cell 6 true 4]
def Qv:C:=(aa [cM 3 1,eN 4 5] (aa [I 7 0,b7 8 7,I 5 8] (.seq (.block 0 (.loop (.seq (.seq (.drawn true 38 [I 9 5,aS 10 .gtr 9 0,I 11 10,bW 11 true 12 0,bW 11 true 13 5,aq 11 true (aS 14 .sub 13 1),aq 11 true (cd 15 5 12 14),aq 11 true (aG 16 0 1 15),aq 11 true (av 17 1 16),aq 11 true (aG 18 0 1 3),aq 11 true (av 19 1 18),aq 11 true (bg 20 .gtr 17 19),du 21 11 20]) (aT 21 .skip (.exit 0))) (.block 1 (.region [I 22 5,aS 23 .sub 22 1,I 5 23]))))) (aa [eD 24 5 113 [],I 25 0,I 26 5,ca 27 (.lsl 5 (.t 25) none (some (.t 26))),hF 28 5 113 24 27,I 6 28] (aa [I 29 6,a6 30 5 3,eD 31 5 113 [.t 30],hF 32 5 113 29 31,I 6 32] (aa [I 33 6,I 34 0,I 35 5,ca 36 (.lsl 5 (.t 34) (some (.t 35)) none),hF 37 5 113 33 36,I 4 37] .ret))))))
@[simp] def Mq:List bA:=[.tmp 4]
def k2:List (Nat×dF):=[
 (3,⟨1,8,.int .i64,.int .i64 0⟩),
 (5,⟨1,1,.int .u8,.int .u8 0⟩),
 (9,⟨1,16,.str,.str []⟩),
 (27,⟨1,24,.slice 30,.slice 4 .nil []⟩),
 (30,⟨4,56,.struct [(0,3),(1,3),(2,9),(3,27)],.agg [.int .i64 0,.int .i64 0,.str [],.slice 4 .nil []]⟩),
 (46,⟨1,24,.slice 113,.slice 5 .nil []⟩),
 (76,⟨1,24,.slice 3,.slice 1 .nil []⟩),
 (113,⟨5,64,.struct [(0,3),(1,30)],.agg [.int .i64 0,.int .i64 0,.int .i64 0,.str [],.slice 4 .nil []]⟩)]
theorem eC:fP ao k2=true:=by kernel_rfl
theorem ajz:b1 k2 Qh ale 1 Tryz.f56=true:=by kernel_rfl
theorem acZ:ao.funcs[(56:Nat)]? =some Tryz.f56:=Tryz.func56
theorem Dq:b1 k2 zj AX 2 Tryz.f58=true:=by kernel_rfl
theorem BT:ao.funcs[(58:Nat)]? =some Tryz.f58:=Tryz.func58
theorem ajL:b1 k2 Qt Wn 2 Tryz.f60=true:=by kernel_rfl
theorem adb:ao.funcs[(60:Nat)]? =some Tryz.f60:=Tryz.func60
theorem ajC:b1 k2 Qk Wi 3 Tryz.f75=true:=by kernel_rfl
theorem ac2:ao.funcs[(75:Nat)]? =some Tryz.f75:=Tryz.func75
theorem Vk:b1 k2 IS Ml 1 Tryz.f76=true:=by kernel_rfl
theorem RD:ao.funcs[(76:Nat)]? =some Tryz.f76:=Tryz.func76
theorem ajv:b1 k2 Qd AU 1 Tryz.f119=true:=by kernel_rfl
theorem acV:ao.funcs[(119:Nat)]? =some Tryz.f119:=Tryz.func119
theorem ajD:b1 k2 Ql Mn 2 Tryz.f123=true:=by kernel_rfl
theorem ac3:ao.funcs[(123:Nat)]? =some Tryz.f123:=Tryz.func123
theorem mM:b1 k2 l2 lS 1 Tryz.f124=true:=by kernel_rfl
theorem mw:ao.funcs[(124:Nat)]? =some Tryz.f124:=Tryz.func124
theorem ajF:b1 k2 Qn yD 2 Tryz.f126=true:=by kernel_rfl
theorem ac5:ao.funcs[(126:Nat)]? =some Tryz.f126:=Tryz.func126
theorem LS:b1 k2 ES G7 2 Tryz.f127=true:=by kernel_rfl
theorem Jt:ao.funcs[(127:Nat)]? =some Tryz.f127:=Tryz.func127
theorem ajE:b1 k2 Qm Wj 1 Tryz.f128=true:=by kernel_rfl
theorem ac4:ao.funcs[(128:Nat)]? =some Tryz.f128:=Tryz.func128
theorem ajO:b1 k2 Qw Mr 1 Tryz.f145=true:=by kernel_rfl
theorem adg:ao.funcs[(145:Nat)]? =some Tryz.f145:=Tryz.func145
theorem ajM:b1 k2 Qu Mp 2 Tryz.f146=true:=by kernel_rfl
theorem ade:ao.funcs[(146:Nat)]? =some Tryz.f146:=Tryz.func146
theorem ajQ:b1 k2 Qy Wo 2 Tryz.f152=true:=by kernel_rfl
theorem adi:ao.funcs[(152:Nat)]? =some Tryz.f152:=Tryz.func152
theorem u1:b1 k2 sF sb 3 Tryz.f180=true:=by kernel_rfl
theorem uh:ao.funcs[(180:Nat)]? =some Tryz.f180:=Tryz.func180
theorem LU:b1 k2 ET G8 2 Tryz.f201=true:=by kernel_rfl
theorem Ju:ao.funcs[(201:Nat)]? =some Tryz.f201:=Tryz.func201
theorem ajP:b1 k2 Qx Ms 3 Tryz.f202=true:=by kernel_rfl
theorem adh:ao.funcs[(202:Nat)]? =some Tryz.f202:=Tryz.func202
theorem GI:b1 k2 BH AY 3 Tryz.f212=true:=by kernel_rfl
theorem Fb:ao.funcs[(212:Nat)]? =some Tryz.f212:=Tryz.func212
theorem ajG:b1 k2 Qo Mo 2 Tryz.f233=true:=by kernel_rfl
theorem ac6:ao.funcs[(233:Nat)]? =some Tryz.f233:=Tryz.func233
theorem LR:b1 k2 ER G6 3 Tryz.f234=true:=by kernel_rfl
theorem Js:ao.funcs[(234:Nat)]? =some Tryz.f234:=Tryz.func234
theorem ajN:b1 k2 Qv Mq 2 Tryz.f235=true:=by kernel_rfl
theorem adf:ao.funcs[(235:Nat)]? =some Tryz.f235:=Tryz.func235
mutual
def lx:bI→Int→Int
 | .mk _ _ _ args,m=>ox args 1 m
def ox:List bI→Int→Int→Int
 |[],n,_=>n
 |x::xs,n,m=>if m<n then n else ox xs (n+lx x (m-n)) m
end
mutual
theorem IX:∀(t:bI) (m:Int),0≤m→1≤lx t m∧lx t m≤m+1
 | .mk _ _ _ args,m,h=>by simp only[lx];exact QW args 1 m h (by omega) (by omega)
theorem QW:∀(l:List bI) (n m:Int),0≤m→1≤n→n≤m+1→1≤ox l n m∧ox l n m≤m+1
 |[],n,m,_,J,U=>by simp only[ox];exact⟨J,U⟩
 |x::xs,n,m,bn,J,U=>by
  simp only[ox];split
  ·exact⟨J,U⟩
  ·have:=IX x (m-n) (by omega);exact QW xs _ m bn (by omega) (by omega)
end
theorem EZ:∀(t:T) (m:Int),0≤m→(lx t.tm m≤m↔(t.size:Int)≤m)∧((t.size:Int)≤m→lx t.tm m=t.size)
 | .pair a b,m,h=>by
  have bz:=T.size_pos a;have ad:=T.size_pos b;simp only[T.tm,lx,ox,T.size];by_cases J:m<1
  ·rw[if_pos J];exact⟨by omega,fun h=>by omega⟩
  ·rw[if_neg J];obtain⟨bD,a2⟩:=EZ a (m-1) (by omega);have a3:=IX a.tm (m-1) (by omega);by_cases U:(a.size:Int)≤m-1
   ·have e:=a2 U;rw[e];by_cases ar:m<1+(a.size:Int)
    ·omega
    ·rw[if_neg ar];obtain⟨cl,b8⟩:=EZ b (m-(1+a.size)) (by omega);refine⟨by omega,fun h=>?_⟩;rw[b8 (by omega)];omega
   ·have:¬lx a.tm (m-1)≤m-1:=fun h=>U (bD.1 h);rw[if_pos (by omega)];exact⟨by omega,fun h=>by omega⟩
 | .nil,m,h=>by simp[T.tm,lx,ox,T.size]
 | .var _,m,h=>by simp[T.tm,lx,ox,T.size]
 | .sym _,m,h=>by simp[T.tm,lx,ox,T.size]
 | .num _,m,h=>by simp[T.tm,lx,ox,T.size]
theorem aac(t:bI)(m:Int):lx t m=ox t.args 1 m:=by cases t;rfl
theorem XU(t:bI):∀m:Int,0≤m→m≤1000000→bH ao 123 [enc t,.int .i64 m] (.int .i64 (lx t m)):=by
 suffices H:∀(k:Nat) (t:bI),t.sz≤k→∀m:Int,0≤m→m≤1000000→bH ao 123 [enc t,.int .i64 m] (.int .i64 (lx t m))from H _ t (eR _)
 intro k;induction k with
 |zero=>intro t aK;cases t;simp[bI.sz]at aK
 |succ k bO=>
  intro t aK m bn J;refine bh eC ac3 ajD fun aO=>?_;unfold Ql;have eX:t.args.length≤68719476736:=by rw[vE]at aO;simp[eu,ed,ep,lim]at aO;omega
  simp;refine dw [1,9,10] (fun i (n:Int)=>[(5,.int .i64 n),(11,.int .i64 i)]) t.args.length (fun i n=>(1≤n∧n≤m+1)∧ox (t.args.drop i) n m=lx t m) 1 bN ⟨by omega,by simp[aac]⟩ (fun n ae _=>?_) (fun i n hi ae _=>?_)
  ·simp;(with_reducible repeat' first|refine aj ?_|simp);simp[bt,Mn,aX,aY,aW];have:=ae.2;simp[ox]at this;exact this
  ·obtain⟨⟨nk,x1⟩,ae⟩:=ae;obtain⟨x,af,cD⟩:=dT hi;have aQ:t.args.drop i=x::t.args.drop (i+1):=by rw[kP hi,cD]
   have ee:x.sz≤k:=by have:=Nb (dK af);omega
   rw[aQ]at ae;simp only[ox]at ae;simp[hi,cD];by_cases ad:m<n
   ·rw[if_pos ad]at ae;(with_reducible repeat' first|refine aj ?_|simp[ad]);simp[bt,Mn,aX,aY,aW];exact ae
   ·rw[if_neg ad]at ae;have au:=IX x (m-n) (by omega);((with_reducible repeat' first|refine aj ?_|refine aC (bO x ee (m-n) (by omega) (by omega)) ?_|refine aD (bO x ee (m-n) (by omega) (by omega)) ?_|simp[ad]|((first|apply bP|apply bR|apply bQ)<;>intro h<;>try simp at h))<;>(try exact cm));exact bK.rng (n+lx x (m-n)) hi ⟨by omega,ae⟩ bN
theorem Bk(t:T):bH ao 128 [t.e] (.bool (decide (t.size≤5000))):=by
 have au:=(EZ t 5000 (by omega)).1;have key:=XU t.tm 5000 (by omega) (by omega);rw[jb]at key;refine bh eC ac4 ajE fun aO=>?_;unfold Qm;simp;(with_reducible repeat' first|refine aj ?_|refine aC key ?_|refine aD key ?_|simp);simp[bt,Wj,aX,aY,aW];have:(lx t.tm 5000≤5000)=(t.size≤5000):=by rw[au];simp;omega
 simp[this]
def agt(l:List al)(v:Int)(k:Nat)(st:bs):Prop:=∃i:Nat,i≤l.length∧k=l.length-i∧df l v=df (l.drop i) v∧st=⟨[(1,.int .i64 v),(4,.ptr (.loc 0) 0),(8,.slice 5 .no (l.map al.e)),(9,.int .i64 l.length),(10,.int .i64 i)],[(.loc 0,[.int .i64 0,.int .i64 0,.str [],.slice 4 .nil []])],[],1,[]⟩
set_option maxRecDepth 4000 in
theorem rf(l:List al)(v:Int)(aw:l.length≤1000000):bH ao 146 [.slice 5 .no (l.map al.e),.int .i64 v] (.tuple [((df l v).getD .nil).e,.bool (df l v).isSome]):=by
 refine bh eC ade ajM fun aO=>?_;unfold Qu;simp;refine ps (agt l v) l.length _ bN ⟨0,by omega,rfl,by simp,rfl⟩ ?_;rintro k st ⟨i,hi,ab,a7,rfl⟩ kU cL;clear kU cL;by_cases bE:i<l.length
 ·obtain⟨b,ad⟩:∃b,l[i]? =some b:=⟨_,bZ bE⟩;have SA:l.drop i=b::l.drop (i+1):=by rw[kP bE];rw[bZ bE]at ad;simp at ad;rw[ad]
  have cA:∀h,l[i]'h=b:=fun h=>by rw[bZ h]at ad;simpa using ad
  simp[cA,bE];(with_reducible repeat' first|((first|apply bP|apply bR|apply bQ)<;>intro h<;>try simp at h)|refine aj ?_|simp[cA])
  ·have:df l v=some b.t:=by rw[a7,SA];simp[df,h]
   simp[bt,Mp,aX,aY,aW];simp[this]
  ·refine bK.next (l.length-(i+1)) (by omega) ⟨i+1,by omega,rfl,?_,rfl⟩ bN;rw[a7,SA];simp[df,h]
 ·have:df l v=none:=by rw[a7,List.drop_of_length_le (by omega)];simp[df]
  simp[bE];(with_reducible repeat' first|((first|apply bP|apply bR|apply bQ)<;>intro h<;>try simp at h)|refine aj ?_|simp);simp[bt,Mp,aX,aY,aW];simp[this]
theorem anh(l:List al)(aw:l.length≤1000000)(t:T):bH ao 127 [.slice 5 .no (l.map al.e),t.e] (t.sub (df l)).e:=by
 induction t with
 |pair a b dX dY=>
  refine bh eC Jt LS fun aO=>?_;unfold ES;simp;(with_reducible repeat' first|refine aj ?_|refine aC dX ?_|refine aD dX ?_|refine aC dY ?_|refine aD dY ?_|refine aC (HM _ _) ?_|refine aD (HM _ _) ?_|simp);all_goals simp[bt,G7,aX,aY,aW]
  all_goals simp[T.sub]
 |var n=>
  refine bh eC Jt LS fun aO=>?_;unfold ES;simp;((with_reducible repeat' first|refine aj ?_|refine aC (rf l n aw) ?_|refine aD (rf l n aw) ?_|simp|((first|apply bP|apply bR|apply bQ)<;>intro h<;>try simp at h))<;>(try exact cm));all_goals simp[bt,G7,aX,aY,aW]
  all_goals cases ad:df l n<;>simp_all[T.sub]
 |_=>
  refine bh eC Jt LS fun aO=>?_;unfold ES;simp;(with_reducible repeat' first|refine aj ?_|simp);all_goals simp[bt,G7,aX,aY,aW]
  all_goals simp[T.sub]
theorem XV(l:List al)(aw:l.length≤1000000)(t:T):bH ao 127 [.slice 5 .no (l.map al.e),t.e] (t.ap (bV l)).e:=by have:=anh l aw t;rw[Xd]at this;exact this
theorem D6(l:List al)(aw:l.length≤1000000)(t:T):bH ao 60 [.slice 5 .no (l.map al.e),t.e] (.tuple [(t.ap (bV l)).e,.bool (decide ((t.ap (bV l)).size≤5000))]):=by refine bh eC adb ajL fun aO=>?_;unfold Qt;simp;(with_reducible repeat' first|refine aj ?_|refine aC (XV l aw t) ?_|refine aD (XV l aw t) ?_|refine aC (Bk _) ?_|refine aD (Bk _) ?_|simp);simp[bt,Wn,aX,aY,aW]
def wG(v:Int)(l:List T):Bool:=l.any (T.occ v)
theorem U5(v:Int)(t:T):t.occ v=(wG v t.args||(t.kind==1&&t.int==v)):=by cases t<;>simp[T.occ,wG]
theorem w6(v:Int)(t:T):bH ao 233 [.int .i64 v,t.e] (.bool (t.occ v)):=by
 suffices H:∀(k:Nat) (t:T),t.size≤k→bH ao 233 [.int .i64 v,t.e] (.bool (t.occ v))from H _ t (eR _)
 intro k;induction k with
 |zero=>intro t aK;have:=T.size_pos t;omega
 |succ k bO=>
  intro t aK;have qN:t.args.length≤2:=by cases t<;>simp
  refine bh eC ac6 ajG fun aO=>?_;unfold Qo;simp;refine dw [0,3,8,9] (fun i (_:Unit)=>[(10,.int .i64 i)]) t.args.length (fun i _=>wG v (t.args.drop i)=wG v t.args) () bN (by simp) (fun _ ae _=>?_) (fun i _ hi ae _=>?_)
  ·have bn:wG v t.args=false:=by rw[←ae];simp[wG]
   rw[U5,bn];simp;((with_reducible repeat' first|refine aj ?_|simp|((first|apply bP|apply bR|apply bQ)<;>intro h<;>try simp at h))<;>(try exact cm));all_goals simp[bt,Mo,aX,aY,aW]
   all_goals simp_all
  ·obtain⟨x,af,cD⟩:=dT hi;have aQ:t.args.drop i=x::t.args.drop (i+1):=by rw[kP hi,cD]
   have ee:x.size≤k:=by have hm:=dK af;have:=T.size_pos x;cases t<;>simp at hm;rcases hm with rfl|rfl<;>simp[T.size]at aK<;>omega
   simp only[aQ,wG,List.any_cons]at ae;simp[hi,cD];cases ax:x.occ v with
   |true=>
    rw[ax]at ae;simp at ae;have bn:t.occ v=true:=by rw[U5];simp[wG];left;simpa using ae
    (with_reducible repeat' first|refine aj ?_|refine aC (bO x ee) ?_|refine aD (bO x ee) ?_|simp[ax]);simp[bt,Mo,aX,aY,aW];simp[bn]
   |false=>rw[ax]at ae;have Uk:=bO x ee;exact gg
theorem HN(v:Int)(x t:T):bH ao 234 [t.e,.int .i64 v,x.e] (t.ap (Go.Pv.one v x)).e:=by
 induction t with
 |pair a b dX dY=>
  refine bh eC Js LR fun aO=>?_;unfold ER;simp;(with_reducible repeat' first|refine aj ?_|refine aC dX ?_|refine aD dX ?_|refine aC dY ?_|refine aD dY ?_|refine aC (HM _ _) ?_|refine aD (HM _ _) ?_|simp);all_goals simp[bt,G6,aX,aY,aW]
  all_goals simp[T.ap]
 |var n=>
  refine bh eC Js LR fun aO=>?_;unfold ER;simp;((with_reducible repeat' first|refine aj ?_|simp|((first|apply bP|apply bR|apply bQ)<;>intro h<;>try simp at h))<;>(try exact cm));all_goals simp[bt,G6,aX,aY,aW]
  all_goals simp_all[T.ap,Go.Pv.one]
 |_=>
  refine bh eC Js LR fun aO=>?_;unfold ER;simp;(with_reducible repeat' first|refine aj ?_|simp);all_goals simp[bt,G6,aX,aY,aW]
  all_goals simp[T.ap]
theorem HP(s:List al)(aw:s.length≤1000000)(t:T):bH ao 201 [.slice 5 .no (s.map al.e),t.e] (hk s t).e:=by
 cases t with
 |var n=>
  cases ad:df s n with
  |none=>refine bh eC Ju LU fun aO=>?_;unfold ET;simp;(with_reducible repeat' first|refine aj ?_|refine aC (rf s n aw) ?_|refine aD (rf s n aw) ?_|simp[ad]);simp[bt,G8,aX,aY,aW];simp[hk,bV,ad]
  |some x=>refine bh eC Ju LU fun aO=>?_;unfold ET;simp;(with_reducible repeat' first|refine aj ?_|refine aC (rf s n aw) ?_|refine aD (rf s n aw) ?_|simp[ad]);simp[bt,G8,aX,aY,aW];simp[hk,bV,ad]
 |_=>refine bh eC Ju LU fun aO=>?_;unfold ET;simp;(with_reducible repeat' first|refine aj ?_|simp);simp[bt,G8,aX,aY,aW];simp[hk]
theorem Tw(b:al):∀(s:List al) (k:Nat),(∀i c,i<k→s[i]? =some c→c.v≤b.v)→(∀c,s[k]? =some c→b.v<c.v)→k≤s.length→oK b s=s.take k++b::s.drop k
 |[],k,_,_,ab=>by simp at ab;subst ab;rfl
 |c::s,0,_,U,_=>by have:=U c rfl;simp[oK,this]
 |c::s,k+1,J,U,ab=>by have:=J 0 c (by omega) rfl;simp only[oK,if_neg (by omega:¬b.v<c.v),List.take_succ_cons,List.drop_succ_cons,bX];rw[Tw b s k (fun i d hi aQ=>J (i+1) d (by omega) (by simpa using aQ)) (fun d aQ=>U d (by simpa using aQ)) (by simpa using ab)]
theorem ang(s:List al)(b:al)(aw:s.length≤1000000)(bz:hH s):bH ao 235 [.slice 5 .no (s.map al.e),b.e] (.slice 5 .no ((oK b s).map al.e)):=by
 refine bh eC adf ajN fun aO=>?_;unfold Qv;simp;refine vF [0,3] (fun(k:Nat)=>[(5,.int .i64 k)]) (fun k=>k) (fun k=>k≤s.length∧∀c,s[k]? =some c→b.v<c.v) s.length bN ⟨by omega,fun c h=>by simp at h⟩ (fun k ae _=>?_);obtain⟨ab,ae⟩:=ae;have vR:(∀c,0<k→s[k-1]? =some c→c.v≤b.v)→oK b s=s.take k++b::s.drop k:=fun h=>Tw b s k (fun i c hi au=>by
  obtain⟨d,aQ⟩:∃d,s[k-1]? =some d:=⟨_,bZ (by omega)⟩;have J:=h d (by omega) aQ;rcases Nat.lt_or_ge i (k-1)with U|U
  ·have sU:=(e1.1 au);have my:=(e1.1 aQ);have:=o7.1 bz i (k-1) sU.1 my.1 U;rw[sU.2,my.2]at this;omega
  ·have:i=k-1:=by omega
   subst this;rw[aQ]at au;cases au;exact J) ae ab
 rcases Nat.eq_zero_or_pos k with rfl|fs
 ·have e:=vR fun c h=>by omega
  rw[e];simp;(with_reducible repeat' first|refine aj ?_|simp);simp[bt,Mq,aX,aY,aW];try simp[hG]
 ·obtain⟨d,aQ⟩:∃d,s[k-1]? =some d:=⟨_,bZ (by omega)⟩;have ak:((k:Int)-1).toNat=k-1:=by omega
  have aE:∀h,(s[k-1]'h)=d:=fun h=>by rw[bZ h]at aQ;exact eE aQ
  have iM:(0:Int)<k:=by omega
  by_cases ad:b.v<d.v
  ·simp[fs,iM,ak,aE,ad,aQ];(with_reducible repeat' first|refine aj ?_|simp[fs,iM,ak,aE,ad,aQ]);refine bK.whl (k-1) (by omega) ⟨by omega,fun c au=>by rw[aQ]at au;cases au;exact ad⟩ ?_;have bj:((k-1:Nat):Int)=(k:Int)-1:=by omega
   simp[bj];exact bN
  ·have e:=vR fun c _ au=>by rw[aQ]at au;cases au;omega
   rw[e];simp[fs,iM,ak,aE,ad,aQ];(with_reducible repeat' first|refine aj ?_|simp[fs,iM,ak,aE,ad,aQ]);simp[bt,Mq,aX,aY,aW];have c2:lY s.length (s.map al.e)=s.map al.e:=hG (by simp);rw[c2,←List.map_take,←List.map_drop,←gO,←qu];exact Xa _
def MZ(v:Int)(x:T)(b:al):al:=⟨b.v,b.t.ap (Go.Pv.one v x)⟩
def agF(s:List al)(v:Int)(x:T)(i:Nat)(out:List al):Prop:=out=(s.take i).map (MZ v x)∧∀b∈s.take i,(b.t.ap (Go.Pv.one v x)).size≤5000
theorem anj(s:List al)(v:Int)(t:T)(aw:s.length≤1000000)(bz:hH s):bH ao 212 [.slice 5 .no (s.map al.e),.int .i64 v,t.e] (gm (nM s v t)):=by
 obtain⟨x,af⟩:∃x,x=t.ap (bV s):=⟨_,rfl⟩;have rJ:=D6 s aw t;rw[←af]at rJ;obtain⟨o,ax⟩:∃o,o=nM s v t:=⟨_,rfl⟩;have fX:x.size≤5000→x.occ v=false→s.length<400→(∀b∈s,(b.t.ap (Go.Pv.one v x)).size≤5000)→o=some (mr s v x):=fun a8 bF b0 c0=>by rw[ax,nM,←af,if_pos ⟨a8,bF,b0,c0⟩]
 have ct:¬(x.size≤5000∧x.occ v=false∧s.length<400∧∀b∈s,(b.t.ap (Go.Pv.one v x)).size≤5000)→o=none:=fun q=>by rw[ax,nM,←af,if_neg q]
 rw[←ax];clear ax;by_cases J:x.size≤5000;rotate_left
 ·rw[ct fun h=>J h.1];refine bh eC Fb GI fun aO=>?_;unfold BH;simp;(with_reducible repeat' first|refine aj ?_|refine aC rJ ?_|refine aD rJ ?_|refine aC (w6 _ _) ?_|refine aD (w6 _ _) ?_|simp[J]);simp[bt,AY,aX,aY,aW];simp[gm]
 cases U:x.occ v with
 |true=>rw[ct fun h=>by rw[U]at h;cases h.2.1];refine bh eC Fb GI fun aO=>?_;unfold BH;simp;(with_reducible repeat' first|refine aj ?_|refine aC rJ ?_|refine aD rJ ?_|refine aC (w6 _ _) ?_|refine aD (w6 _ _) ?_|simp[J,U]);simp[bt,AY,aX,aY,aW];simp[gm]
 |false=>
 by_cases ar:s.length<400;rotate_left
 ·rw[ct fun h=>ar h.2.2.1];have sN:(400:Int)≤s.length:=by omega
  refine bh eC Fb GI fun aO=>?_;unfold BH;simp;(with_reducible repeat' first|refine aj ?_|refine aC rJ ?_|refine aD rJ ?_|refine aC (w6 _ _) ?_|refine aD (w6 _ _) ?_|simp[J,U,sN]);simp[bt,AY,aX,aY,aW];simp[gm]
 have sN:¬(400:Int)≤s.length:=by omega
 refine bh eC Fb GI fun aO=>?_;unfold BH;simp;(with_reducible repeat' first|refine aj ?_|refine aC rJ ?_|refine aD rJ ?_|refine aC (w6 _ _) ?_|refine aD (w6 _ _) ?_|simp[J,U,sN]);refine ho (α:=List al) (fun i out=>⟨[(1,.int .i64 v),(8,.ptr (.loc 1) 0),(33,.slice 5 .no (s.map al.e)),(34,.int .i64 s.length),(10,.slice 5 (.own (.loc 2)) (out.map al.e)),(35,.int .i64 i)],[(.loc 1,[.int .i64 x.kind,.int .i64 x.int,.str x.name,.slice 4 .no (x.args.map T.e)])],[(.loc 2,⟨out.length,113,5,none⟩)],3,[]⟩) s.length (agF s v x) [] bN ⟨by simp,by simp⟩ (fun out ae _=>?_) (fun i out hi ae _=>?_)
 ·obtain⟨dU,ky⟩:=ae;rw[hG (eR _)]at dU ky;have aeH:hH out:=by rw[dU,hH,List.pairwise_map];exact bz
  have Cx:out.length≤1000000:=by rw[dU];simpa using aw
  rw[fX J U ar ky];have key:=ang out ⟨v,x⟩ Cx aeH;simp;(with_reducible repeat' first|refine aj ?_|refine aC key ?_|refine aD key ?_|simp);simp[bt,AY,aX,aY,aW];simp[gm,mr,dU];rfl
 ·obtain⟨dU,ky⟩:=ae;obtain⟨b,aF,fJ⟩:=dT hi;have wc:s.take (i+1)=s.take i++[b]:=by rw[List.take_succ,aF];rfl
  have Cx:out.length≤1000000:=by rw[dU];simp;omega
  simp[hi,fJ];by_cases br:(b.t.ap (Go.Pv.one v x)).size≤5000
  ·(with_reducible repeat' first|refine aj ?_|refine aC (HN _ _ _) ?_|refine aD (HN _ _ _) ?_|refine aC (Bk _) ?_|refine aD (Bk _) ?_|simp[fJ,hi,br]);all_goals first|(refine⟨by unfold lim;omega,?_⟩)|skip
   (with_reducible repeat' first|refine aj ?_|simp);refine bK.rng (out++[MZ v x b]) hi ⟨by rw[wc,dU,qu];rfl,fun c au=>?_⟩ ?_
   ·rw[wc]at au;rcases kQ.1 au with au|au
    ·exact ky c au
    ·simp at au;subst au;exact br
   ·simp[MZ];exact⟨by simp[fresh,aH,aB,b9,inObs,Pv.look,jY],dZ (by simp[fresh,aH,aB,b9,inObs,Pv.look,jY]),ea (by simp[fresh,aH,aB,dN,inObs,Pv.look,jY]),by simp⟩
  ·rw[ct fun h=>br (h.2.2.2 b (dK aF))];(with_reducible repeat' first|refine aj ?_|refine aC (HN _ _ _) ?_|refine aD (HN _ _ _) ?_|refine aC (Bk _) ?_|refine aD (Bk _) ?_|simp[fJ,hi,br]);simp[bt,AY,aX,aY,aW];simp[gm]
theorem amD{s:List al}(ag:fF s)(aL:gp s){n:Nat}{a b:T}{o:aZ (List al)}(h:kM n s a b=some o):iF s [(a,b)] o:=by obtain⟨n',o',J,U⟩:=HI ag aL a b;have ak:=D1 (Nat.le_max_left n n') h;have aE:=D1 (Nat.le_max_right n n') J;rw[ak]at aE;cases aE;exact U
def Bf(n:Nat):List (T×T)→List al→aZ (aZ (List al))
 |[],s=>some (some s)
 |e::r,s=>match kM n s e.1 e.2 with
  |none=>none
  |some none=>some none
  |some (some s1)=>Bf n r s1
def yk(x y:T):Bool:=x.kind==y.kind&&x.int==y.int&&x.name==y.name
theorem amB(n:Nat)(s:List al){x y:T}(af:x.kind≠1)(aM:y.kind≠1):j7 (kM n) s x y=if yk x y then Bf n (x.args.zip y.args) s else some none:=by
 cases x<;>cases y<;>simp[j7,yk,Bf]at af aM⊢
 ·rename_i a b;split<;>simp_all
 ·rename_i a b;split<;>simp_all
 ·rename_i bD a2 cl b8;cases kM n s bD cl with
  |none=>rfl
  |some o=>cases o with
   |none=>rfl
   |some s1=>
    simp only
    cases kM n s1 a2 b8 with
    |none=>rfl
    |some o=>cases o<;>rfl
theorem ag7{x y:T}(h:yk x y=true):x.args.length=y.args.length:=by cases x<;>cases y<;>simp[yk]at h⊢
@[simp] theorem aph(o:aZ (List al)):zq 0 (gm o)=some (True,.slice 5 .no ((o.getD []).map al.e)):=rfl
@[simp] theorem api(o:aZ (List al)):zq 1 (gm o)=some (True,.bool o.isSome):=rfl
set_option maxRecDepth 4000 in
theorem ann(n:Nat):∀(s:List al) (a b:T) (o:aZ (List al)),fF s→gp s→kM n s a b=some o→bH ao 180 [.slice 5 .no (s.map al.e),a.e,b.e] (gm o):=by
 induction n with
 |zero=>intro s a b o _ _ h;simp[kM]at h
 |succ n bO=>
  intro s a b o ag aL he;have aw:s.length≤1000000:=by have:=aL.1;omega
  have eg:=HP s aw a;have dv:=HP s aw b;simp only[kM]at he;generalize hk s a=x at he eg;generalize hk s b=y at he dv;have ad:=fun v t=>anj s v t aw ag.asc;have qL:∀z:T,¬z.kind=1→(z.kind==1)=false:=fun z h=>by simp[h]
  by_cases af:x.kind=1
  ·obtain⟨i,rfl⟩:∃i,x= .var i:=by cases x<;>simp at af;exact⟨_,rfl⟩
   by_cases aM:y.kind=1
   ·obtain⟨j,rfl⟩:∃j,y= .var j:=by cases y<;>simp at aM;exact⟨_,rfl⟩
    simp only[j7,dL]at he;subst he;rcases Int.lt_trichotomy i j with h|h|h
    ·rw[if_pos h];have key:=ad j (.var i);refine bh eC uh u1 fun aO=>?_;unfold sF;simp;(with_reducible repeat' first|refine aj ?_|refine aC eg ?_|refine aD eg ?_|refine aC dv ?_|refine aD dv ?_|refine aC key ?_|refine aD key ?_|simp[h]);simp[bt,sb,aX,aY,aW];simp[gm]
    ·subst h;rw[if_neg (by omega),if_pos rfl];have bn:¬i<i:=by omega
     refine bh eC uh u1 fun aO=>?_;unfold sF;simp;(with_reducible repeat' first|refine aj ?_|refine aC eg ?_|refine aD eg ?_|refine aC dv ?_|refine aD dv ?_|simp[bn]);simp[bt,sb,aX,aY,aW];simp[gm]
    ·rw[if_neg (by omega),if_neg (by omega)];have key:=ad i (.var j);have bn:¬i<j:=by omega
     have U:¬i=j:=by omega
     refine bh eC uh u1 fun aO=>?_;unfold sF;simp;((with_reducible repeat' first|refine aj ?_|refine aC eg ?_|refine aD eg ?_|refine aC dv ?_|refine aD dv ?_|refine aC key ?_|refine aD key ?_|simp[bn,U]|((first|apply bP|apply bR|apply bQ)<;>intro h<;>try simp at h))<;>(try exact cm));simp[bt,sb,aX,aY,aW];simp[gm]
   ·have vQ:nM s i y=o:=by cases y<;>first|(simp at aM;done)|exact eE he
    subst vQ;have key:=ad i y;refine bh eC uh u1 fun aO=>?_;unfold sF;simp;(with_reducible repeat' first|refine aj ?_|refine aC eg ?_|refine aD eg ?_|refine aC dv ?_|refine aD dv ?_|refine aC key ?_|refine aD key ?_|simp[qL y aM]);simp[bt,sb,aX,aY,aW];simp[gm]
  ·by_cases aM:y.kind=1
   ·obtain⟨j,rfl⟩:∃j,y= .var j:=by cases y<;>simp at aM;exact⟨_,rfl⟩
    have vQ:nM s j x=o:=by cases x<;>first|(simp at af;done)|exact eE he
    subst vQ;have key:=ad j x;refine bh eC uh u1 fun aO=>?_;unfold sF;simp;(with_reducible repeat' first|refine aj ?_|refine aC eg ?_|refine aD eg ?_|refine aC dv ?_|refine aD dv ?_|refine aC key ?_|refine aD key ?_|simp[qL x af]);simp[bt,sb,aX,aY,aW];simp[gm]
   ·rw[amB n s af aM]at he;cases hle:yk x y with
    |false=>
     rw[hle]at he;simp at he;subst he;have Kc:(x.kind !=y.kind)=true∨((x.kind !=y.kind)=false∧((x.int !=y.int)=true∨((x.int !=y.int)=false∧(x.name !=y.name)=true))):=by simp only[yk]at hle;simp only[bne];cases ak:(x.kind==y.kind)<;>cases aE:(x.int==y.int)<;>cases bj:(x.name==y.name)<;>simp_all
     rcases Kc with a8|⟨a8,bF|⟨bF,b0⟩⟩
     ·refine bh eC uh u1 fun aO=>?_;unfold sF;simp;(with_reducible repeat' first|refine aj ?_|refine aC eg ?_|refine aD eg ?_|refine aC dv ?_|refine aD dv ?_|simp[qL x af,qL y aM,a8]);simp[bt,sb,aX,aY,aW];simp[gm]
     ·refine bh eC uh u1 fun aO=>?_;unfold sF;simp;(with_reducible repeat' first|refine aj ?_|refine aC eg ?_|refine aD eg ?_|refine aC dv ?_|refine aD dv ?_|simp[qL x af,qL y aM,a8,bF]);simp[bt,sb,aX,aY,aW];simp[gm]
     ·refine bh eC uh u1 fun aO=>?_;unfold sF;simp;have GR:¬x.name=y.name:=by simpa using b0
      have akh:decide (x.name=y.name)=false:=by simp[GR]
      ((with_reducible repeat' first|refine aj ?_|refine aC eg ?_|refine aD eg ?_|refine aC dv ?_|refine aD dv ?_|simp[qL x af,qL y aM,a8,bF,b0,GR,akh]|((first|apply bP|apply bR|apply bQ)<;>intro h<;>try simp at h))<;>(try exact cm));simp[bt,sb,aX,aY,aW];simp[gm]
    |true=>
     rw[hle,if_pos rfl]at he;have Kc:(x.kind !=y.kind)=false∧(x.int !=y.int)=false∧(x.name !=y.name)=false:=by simp only[yk]at hle;simp only[bne];cases ak:(x.kind==y.kind)<;>cases aE:(x.int==y.int)<;>cases bj:(x.name==y.name)<;>simp_all
     obtain⟨a8,bF,b0⟩:=Kc;have hlen:=ag7 hle;have GR:x.name=y.name:=by simpa using b0
     have qN:x.args.length≤2:=by cases x<;>simp
     refine bh eC uh u1 fun aO=>?_;unfold sF;simp;(with_reducible repeat' first|refine aj ?_|refine aC eg ?_|refine aD eg ?_|refine aC dv ?_|refine aD dv ?_|simp[qL x af,qL y aM,a8,bF,GR]);refine ho (α:=List al) (fun i ai=>⟨[(5,.ptr (.loc 1) 0),(96,.slice 4 .no (x.args.map T.e)),(97,.int .i64 x.args.length),(0,.slice 5 .no (ai.map al.e)),(98,.int .i64 i)],[(.loc 1,[.int .i64 y.kind,.int .i64 y.int,.str y.name,.slice 4 .no (y.args.map T.e)])],[],2,[]⟩) x.args.length (fun i ai=>(fF ai∧gp ai)∧Bf n ((x.args.zip y.args).drop i) ai=some o) s bN ⟨⟨ag,aL⟩,by simpa using he⟩ (fun ai ae _=>?_) (fun i ai hi ae _=>?_)
     ·obtain⟨_,ae⟩:=ae;rw[List.drop_eq_nil_of_le (by simp[hlen])]at ae;simp[Bf]at ae;subst ae;simp;(with_reducible repeat' first|refine aj ?_|simp);simp[bt,sb,aX,aY,aW];simp[gm]
     ·obtain⟨⟨g1,g2⟩,ae⟩:=ae;obtain⟨bD,bz⟩:∃a,x.args[i]? =some a:=⟨_,bZ hi⟩;obtain⟨cl,fV⟩:∃b,y.args[i]? =some b:=⟨_,bZ (by omega)⟩;have nh:∀h,(x.args[i]'h)=bD:=fun h=>by rw[bZ hi]at bz;exact eE bz
      have cA:∀h,(y.args[i]'h)=cl:=fun h=>by rw[bZ h]at fV;exact eE fV
      have rO:i<y.args.length:=by omega
      have aQ:(x.args.zip y.args).drop i=(bD,cl)::(x.args.zip y.args).drop (i+1):=by rw[kP (by simp;omega)];simp[nh,cA]
      rw[aQ]at ae;simp only[Bf]at ae;simp[hi,nh,cA,rO];cases hu:kM n ai bD cl with
      |none=>rw[hu]at ae;cases ae
      |some gU=>
       have key:=bO ai bD cl gU g1 g2 hu;rw[hu]at ae;cases gU with
       |none=>simp at ae;subst ae;(with_reducible repeat' first|refine aj ?_|refine aC key ?_|refine aD key ?_|simp[nh,cA,hi,rO]);simp[bt,sb,aX,aY,aW];simp[gm]
       |some s1=>have af1:=amD g1 g2 hu;(with_reducible repeat' first|refine aj ?_|refine aC key ?_|refine aD key ?_|simp[nh,cA,hi,rO]);refine bK.rng s1 hi ⟨af1.1,ae⟩ ?_;exact bN
theorem anm(s:List al)(a b:T)(ag:fF s)(aL:gp s):bH ao 180 [.slice 5 .no (s.map al.e),a.e,b.e] (gm (mgu s [(a,b)])):=by obtain⟨n,o,J,U⟩:=HI ag aL a b;rw[r4 U];exact ann n s a b o ag aL J
def agE(s:List al)(E:List (T×T))(i:Nat)(ai:List al):Prop:=(fF ai∧gp ai)∧mgu ai (E.drop i)=mgu s E
theorem ani(s:List al)(l r:List T)(aw:l.length=r.length)(ag:fF s)(aL:gp s)(xV:l.length≤1000000):bH ao 202 [.slice 5 .no (s.map al.e),.slice 4 .no (l.map T.e),.slice 4 .no (r.map T.e)] (gm (mgu s (l.zip r))):=by
 refine bh eC adh ajP fun aO=>?_;unfold Qx;simp;refine ho (α:=List al) (fun i ai=>⟨[(2,.slice 4 .no (r.map T.e)),(12,.slice 4 .no (l.map T.e)),(13,.int .i64 l.length),(0,.slice 5 .no (ai.map al.e)),(14,.int .i64 i)],[],[],0,[]⟩) l.length (agE s (l.zip r)) s bN ⟨⟨ag,aL⟩,by simp⟩ (fun ai ae _=>?_) (fun i ai hi ae _=>?_)
 ·obtain⟨⟨g1,g2⟩,ae⟩:=ae;rw[List.drop_eq_nil_of_le (by simp[aw]),Lt g1 g2]at ae;rw[←ae];simp;(with_reducible repeat' first|refine aj ?_|simp);simp[bt,Ms,aX,aY,aW];simp[gm]
 ·obtain⟨⟨g1,g2⟩,ae⟩:=ae;obtain⟨a,bz⟩:∃a,l[i]? =some a:=⟨_,bZ hi⟩;obtain⟨b,fV⟩:∃b,r[i]? =some b:=⟨_,bZ (by omega)⟩;have nh:∀h,(l[i]'h)=a:=fun h=>by rw[bZ hi]at bz;exact eE bz
  have cA:∀h,(r[i]'h)=b:=fun h=>by rw[bZ h]at fV;exact eE fV
  have rO:i<r.length:=by omega
  have aQ:(l.zip r).drop i=(a,b)::(l.zip r).drop (i+1):=by rw[kP (by simp;omega)];simp[nh,cA]
  rw[aQ,Ls g1 g2]at ae;simp[hi,nh,cA,rO];have key:=anm ai a b g1 g2;cases hu:mgu ai [(a,b)]with
  |none=>rw[hu]at ae key;simp only at ae;rw[←ae];(with_reducible repeat' first|refine aj ?_|refine aC key ?_|refine aD key ?_|simp[nh,cA,hi,rO]);simp[bt,Ms,aX,aY,aW];simp[gm]
  |some s1=>have pE:=Au g1 g2 hu;rw[hu]at ae key;(with_reducible repeat' first|refine aj ?_|refine aC key ?_|refine aD key ?_|simp[nh,cA,hi,rO]);refine bK.rng s1 hi ⟨pE,ae⟩ ?_;exact bN
theorem j9(n:Int):bH ao 114 [.int .i64 n] (T.var n).e:=by refine bh fK ada ajK fun aO=>?_;unfold Qs;exact bY
def agI(t:List al)(i:Nat)(p:List T×List T):Prop:=p.1=(t.take i).map (fun b=>T.var b.v)∧p.2=(t.take i).map (·.t)
theorem ank(s t:List al)(ag:fF s)(aL:gp s)(aK:t.length≤1000000):bH ao 152 [.slice 5 .no (s.map al.e),.slice 5 .no (t.map al.e)] (gm (mgu s (hJ t))):=by
 have br:(t.map fun b=>T.var b.v).zip (t.map (·.t))=hJ t:=by rw[hJ,List.zip_map']
 refine bh eC adi ajQ fun aO=>?_;unfold Qy;simp;refine ho (α:=List T×List T) (fun i p=>⟨[(0,.slice 5 .no (s.map al.e)),(12,.slice 5 .no (t.map al.e)),(13,.int .i64 t.length),(6,.slice 4 (.own (.loc 0)) (p.1.map T.e)),(7,.slice 4 (.own (.loc 1)) (p.2.map T.e)),(14,.int .i64 i)],[],[(.loc 0,⟨p.1.length,30,4,none⟩),(.loc 1,⟨p.2.length,30,4,none⟩)],2,[]⟩) t.length (agI t) ([],[]) bN ⟨by simp,by simp⟩ (fun p ae _=>?_) (fun i p hi ae _=>?_)
 ·obtain⟨A,B⟩:=p;obtain⟨bk,jD⟩:=ae;simp only at bk jD⊢;rw[hG (eR _)]at bk jD;have key:=ani s A B (by rw[bk,jD];simp) ag aL (by rw[bk];simpa using aK);rw[bk,jD,br,←bk,←jD]at key;simp;(with_reducible repeat' first|refine aj ?_|refine aC key ?_|refine aD key ?_|simp);simp[bt,Wo,aX,aY,aW];simp[gm]
 ·obtain⟨A,B⟩:=p;obtain⟨bk,jD⟩:=ae;simp only at bk jD⊢;obtain⟨b,aF,fJ⟩:=dT hi;have wc:t.take (i+1)=t.take i++[b]:=by rw[List.take_succ,aF];rfl
  have JQ:A.length≤1000000:=by rw[bk];simp;omega
  have aex:B.length≤1000000:=by rw[jD];simp;omega
  simp[hi,fJ];(with_reducible repeat' first|refine aj ?_|refine aC (j9 _) ?_|refine aD (j9 _) ?_|simp[fJ,hi]);all_goals first|(refine⟨by unfold lim;omega,?_⟩)|skip
  (with_reducible repeat' first|refine aj ?_|simp);all_goals first|(refine⟨by unfold lim;omega,?_⟩)|skip
  (with_reducible repeat' first|refine aj ?_|simp);refine bK.rng (A++[.var b.v],B++[b.t]) hi ⟨by rw[wc,bk];simp,by rw[wc,jD];simp⟩ ?_;simp;exact⟨by simp[fresh,aH,aB,b9,inObs,Pv.look,jY],dZ (by simp[fresh,aH,aB,b9,inObs,Pv.look,jY]),ea (by simp[fresh,aH,aB,dN,inObs,Pv.look,jY]),by simp⟩
theorem dq(n lo hi:Int):bH ao 75 [.int .i64 n,.int .i64 lo,.int .i64 hi] (.bool (decide (lo≤n∧n≤hi))):=by
 refine bh eC ac2 ajC fun aO=>?_;unfold Qk;simp;((with_reducible repeat' first|refine aj ?_|simp|((first|apply bP|apply bR|apply bQ)<;>intro h<;>try simp at h))<;>(try exact cm));all_goals simp[bt,Wi,aX,aY,aW]
 all_goals first|omega|(simp;done)|(simp;omega)
def shp:bI→Bool
 | .mk k n s [a,b]=>k==4&&n==0&&s==[]&&shp a&&shp b
 | .mk k n s []=>ln k n s
 |_=>false
theorem Hs:∀x:T,shp x.tm=x.ok
 | .nil=>by simp[T.tm,shp,ln,T.ok]
 | .var _=>by simp[T.tm,shp,ln,T.ok]
 | .sym _=>by simp[T.tm,shp,ln,T.ok]
 | .num _=>by simp[T.tm,shp,ln,T.ok]
 | .pair a b=>by simp[T.tm,shp,T.ok,Hs a,Hs b]
theorem alQ:∀(m:Nat) (t:bI),t.sz≤m→shp t=true→∃x:T,x.tm=t:=by
 intro m;induction m with
 |zero=>intro t aK;cases t;simp[bI.sz]at aK
 |succ m bO=>
  rintro⟨k,n,s,args⟩ aK h;match args with
  |[a,b]=>
   simp[bI.sz,bI.szL]at aK;simp only[shp,cC,dQ]at h;obtain⟨⟨⟨⟨rfl,rfl⟩,ar⟩,J⟩,U⟩:=h;obtain⟨x,rfl⟩:=bO a (by omega) J;obtain⟨y,rfl⟩:=bO b (by omega) U;have:s=[]:=by simpa using ar
   subst this;exact⟨.pair x y,rfl⟩
  |[]=>
   simp only[shp,ln]at h;split at h
   ·subst_vars;simp at h;exact⟨.nil,by simp[T.tm,h]⟩
   split at h
   ·subst_vars;simp at h;exact⟨.var n,by simp[T.tm,h]⟩
   split at h
   ·subst_vars;simp at h;exact⟨.sym s,by simp[T.tm,h]⟩
   split at h
   ·subst_vars;simp at h;exact⟨.num n,by simp[T.tm,h]⟩
   ·simp at h
  |[_]=>simp[shp]at h
  |_::_::_::_=>simp[shp]at h
theorem ady(t:bI):t.fits=(decide (lx t 5000≤5000)&&shp t):=by
 by_cases h:shp t=true
 ·obtain⟨x,rfl⟩:=alQ _ t (eR _) h;have:=(EZ x 5000 (by omega)).1;rw[bI.fits_T,T.fit,h];rw[Hs]at h;simp[h,this];omega
 ·have bn:t.fits=false:=by
   cases aL:t.fits with
   |false=>rfl
   |true=>obtain⟨x,rfl,af⟩:=bI.fits_ex aL;rw[Hs]at h;simp[T.fit]at af;exact absurd af.1 h
  simp at h;rw[bn,h];simp
def KP(s:List dE)(i:Nat):Prop:=i≤s.length∧∀k,k<i→mC (s.getD k 0)=true∧(k=0→low (s.getD k 0)=true)
theorem agA{s:List dE}(h:KP s s.length):jJ s=decide (1≤s.length∧s.length≤12):=by
 unfold jJ;by_cases aw:1≤s.length
 ·have J:=(h.2 0 (by omega)).2 rfl;have U:(s.drop 1).all mC=true:=by rw[gn];intro b ad;obtain⟨i,hi,e⟩:=nG ad;simp at hi e;have:=(h.2 (i+1) (by omega)).1;rw[List.getD_eq_getElem?_getD,bZ (by omega)]at this;simp only[ka]at this;rw[←e];exact this
  rw[J,U];simp
 ·have:decide (1≤s.length∧s.length≤12)=false:=by simp;omega
  rw[this];simp
theorem agz{s:List dE}{i:Nat}(hi:i<s.length)(h:mC (s.getD i 0)=false∨(i=0∧low (s.getD i 0)=false)):jJ s=false:=by
 cases e:jJ s with
 |false=>rfl
 |true=>
  exfalso;simp only[jJ,cC,gn]at e;obtain⟨⟨_,ak⟩,aE⟩:=e;rcases h with h|⟨rfl,h⟩
  ·by_cases bn:i=0
   ·subst bn;rw[mC,ak]at h;simp at h
   ·have:=aE (s.getD i 0) (by rw[List.getD_eq_getElem?_getD,bZ hi];simp only[ka];refine List.mem_iff_getElem.2 ⟨i-1,by simp;omega,?_⟩;simp[show i-1+1=i from by omega])
    rw[this]at h;cases h
  ·rw[ak]at h;cases h
theorem gV(s:List dE):bH ao 119 [.str s] (.bool (jJ s)):=by
 generalize bd:jJ s=R;refine bh eC acV ajv fun aO=>?_;unfold Qd;have eX:s.length≤68719476736:=by simp[eu,ed,ep,lim]at aO;omega
 simp;refine vF [0] (fun(i:Nat)=>[(3,.int .i64 i)]) (fun i=>s.length-i) (KP s) 0 bN ⟨by omega,fun k ab=>by omega⟩ (fun i ae _=>?_);have dU:=ae.1;by_cases hi:i<s.length
 ·have ct:=agz hi;rw[bd]at ct;obtain⟨c,au,kg⟩:=dT hi;have Su:s.getD i 0=c:=by simp[List.getD_eq_getElem?_getD,au]
  rw[Su]at ct;have dd:mC c=true→(i=0→low c=true)→KP s (i+1):=fun J U=>⟨by omega,fun k ab=>by
   rcases(by omega:k<i∨k=i)with h|rfl
   ·exact ae.2 k h
   ·rw[Su];exact⟨J,U⟩⟩
  have hw:pQ.wrap (c.toNat:Int)=c.toNat:=oe _ (by have:=c.toNat_lt;omega);simp[hi,kg,au];by_cases a8:(97:Int)≤c.toNat
  ·by_cases bF:(c.toNat:Int)≤122
   ·have aw:low c=true:=by simp[low];omega
    (with_reducible repeat' first|refine aj ?_|refine aC (dq _ _ _) ?_|refine aD (dq _ _ _) ?_|simp[hi,kg,au,a8,bF]);exact bK.whl (i+1) (by omega) (dd (by simp[mC,aw]) (fun _=>aw)) bN
   ·have aw:low c=false:=by simp[low];omega
    by_cases bn:i=0
    ·rw[ct (.inr ⟨bn,aw⟩)];have rG:((i:Int)==0)=true:=by simp[bn]
     (with_reducible repeat' first|refine aj ?_|refine aC (dq _ _ _) ?_|refine aD (dq _ _ _) ?_|simp[hi,kg,au,a8,bF,rG,hw]);simp[bt,AU,aX,aY,aW]
    ·have rG:((i:Int)==0)=false:=by simp[bn]
     by_cases b0:(c.toNat:Int)=45
     ·have sa:((c.toNat:Int) !=45)=false:=by simp[b0]
      (with_reducible repeat' first|refine aj ?_|refine aC (dq _ _ _) ?_|refine aD (dq _ _ _) ?_|simp[hi,kg,au,a8,bF,rG,hw,b0,sa]);all_goals exact bK.whl (i+1) (by omega) (dd (by simp[mC];omega) (fun h=>absurd h bn)) bN
     ·have sa:((c.toNat:Int) !=45)=true:=by simp[b0]
      by_cases c0:(48:Int)≤c.toNat∧(c.toNat:Int)≤57
      ·(with_reducible repeat' first|refine aj ?_|refine aC (dq _ _ _) ?_|refine aD (dq _ _ _) ?_|simp[hi,kg,au,a8,bF,rG,hw,b0,sa,c0]);all_goals exact bK.whl (i+1) (by omega) (dd (by simp[mC];omega) (fun h=>absurd h bn)) bN
      ·rw[ct (.inl (by simp[mC,aw];omega))];(with_reducible repeat' first|refine aj ?_|refine aC (dq _ _ _) ?_|refine aD (dq _ _ _) ?_|simp[hi,kg,au,a8,bF,rG,hw,b0,sa,c0]);simp[bt,AU,aX,aY,aW]
  ·have aw:low c=false:=by simp[low];omega
   by_cases bn:i=0
   ·rw[ct (.inr ⟨bn,aw⟩)];have rG:((i:Int)==0)=true:=by simp[bn]
    (with_reducible repeat' first|refine aj ?_|refine aC (dq _ _ _) ?_|refine aD (dq _ _ _) ?_|simp[hi,kg,au,a8,rG,hw]);simp[bt,AU,aX,aY,aW]
   ·have rG:((i:Int)==0)=false:=by simp[bn]
    by_cases b0:(c.toNat:Int)=45
    ·have sa:((c.toNat:Int) !=45)=false:=by simp[b0]
     (with_reducible repeat' first|refine aj ?_|refine aC (dq _ _ _) ?_|refine aD (dq _ _ _) ?_|simp[hi,kg,au,a8,rG,hw,b0,sa]);all_goals exact bK.whl (i+1) (by omega) (dd (by simp[mC];omega) (fun h=>absurd h bn)) bN
    ·have sa:((c.toNat:Int) !=45)=true:=by simp[b0]
     by_cases c0:(48:Int)≤c.toNat∧(c.toNat:Int)≤57
     ·(with_reducible repeat' first|refine aj ?_|refine aC (dq _ _ _) ?_|refine aD (dq _ _ _) ?_|simp[hi,kg,au,a8,rG,hw,b0,sa,c0]);all_goals exact bK.whl (i+1) (by omega) (dd (by simp[mC];omega) (fun h=>absurd h bn)) bN
     ·rw[ct (.inl (by simp[mC,aw];omega))];(with_reducible repeat' first|refine aj ?_|refine aC (dq _ _ _) ?_|refine aD (dq _ _ _) ?_|simp[hi,kg,au,a8,rG,hw,b0,sa,c0]);simp[bt,AU,aX,aY,aW]
 ·have:i=s.length:=by omega
  subst this;rw[agA ae]at bd;simp[hi];(with_reducible repeat' first|refine aj ?_|refine aC (dq _ _ _) ?_|refine aD (dq _ _ _) ?_|simp[hi]);simp[bt,AU,aX,aY,aW];rw[←bd,qq];simp;omega
def vj:List bI→Bool
 |[a,b]=>shp a&&shp b
 |_=>false
theorem alP(k n:Int)(s:List dE)(args:List bI):shp ⟨k,n,s,args⟩=if k≠1∧k≠3∧n≠0 then false else if k≠2∧s≠[]then false else if k≠4∧args≠[]then false else if k=0 then true else if k=1 then decide (0≤n∧n≤100000)else if k=2 then jJ s else if k=3 then decide (-1000000000≤n∧n≤1000000000)else if k=4 then vj args else false:=by
 by_cases fj:k=0
 ·subst fj;match args with
  |[]=>by_cases ay:n=0<;>by_cases ag:s=[]<;>simp[shp,ln,ay,ag]
  |[a]=>simp[shp]
  |[a,b]=>simp[shp]
  |_::_::_::_=>simp[shp]
 by_cases aU:k=1
 ·subst aU;match args with
  |[]=>by_cases ag:s=[]<;>simp[shp,ln,ag]
  |[a]=>simp[shp]
  |[a,b]=>simp[shp]
  |_::_::_::_=>simp[shp]
 by_cases bC:k=2
 ·subst bC;match args with
  |[]=>by_cases ay:n=0<;>simp[shp,ln,ay]
  |[a]=>simp[shp]
  |[a,b]=>simp[shp]
  |_::_::_::_=>simp[shp]
 by_cases cf:k=3
 ·subst cf;match args with
  |[]=>by_cases ag:s=[]<;>simp[shp,ln,ag]
  |[a]=>simp[shp]
  |[a,b]=>simp[shp]
  |_::_::_::_=>simp[shp]
 by_cases eZ:k=4
 ·subst eZ;match args with
  |[]=>simp[shp,ln,vj]
  |[a]=>simp[shp,vj]
  |[a,b]=>by_cases ay:n=0<;>by_cases ag:s=[]<;>simp[shp,vj,ay,ag]
  |_::_::_::_=>simp[shp,vj]
 ·match args with
  |[]=>simp[shp,ln,fj,aU,bC,cf,eZ]
  |[a]=>simp[shp,fj,aU,bC,cf,eZ]
  |[a,b]=>simp[shp,fj,aU,bC,cf,eZ]
  |_::_::_::_=>simp[shp,fj,aU,bC,cf,eZ]
set_option maxRecDepth 8000 in
theorem anf(m:Nat):∀(t:bI),t.sz≤m→bH ao 124 [enc t] (.bool (shp t)):=by
 induction m with
 |zero=>intro t aK;cases t;simp[bI.sz]at aK
 |succ m bO=>
 rintro⟨k,n,s,args⟩ aK;generalize bd:shp ⟨k,n,s,args⟩=R;have dz:=alP k n s args;rw[bd]at dz;by_cases cl:k≠1∧k≠3∧n≠0
 ·rw[if_pos cl]at dz;obtain⟨aU,cf,n0⟩:=cl;have Ah:(k !=1)=true:=by simp[aU]
  have Ai:(k !=3)=true:=by simp[cf]
  have Lx:(n !=0)=true:=by simp[n0]
  subst dz;refine bh eC mw mM fun aO=>?_;unfold l2;simp[bI.kind,bI.num,bI.name,bI.args];(with_reducible repeat' first|refine aj ?_|refine aC (dq _ _ _) ?_|refine aD (dq _ _ _) ?_|refine aC (gV _) ?_|refine aD (gV _) ?_|simp[Ah,Ai,Lx]);all_goals simp[bt,lS,aX,aY,aW]
 rw[if_neg cl]at dz;have BB:(if k !=1 then k !=3 else false)=true→(n !=0)=false:=by intro h;simp at h⊢;exact Classical.byContradiction fun ay=>cl ⟨h.1,h.2,ay⟩
 by_cases b8:k≠2∧s≠[]
 ·rw[if_pos b8]at dz;have Gb:(k !=2)=true:=by simp[b8.1]
  have MK:s.isEmpty=false:=by simp[b8.2]
  by_cases aU:k=1
  ·subst aU;subst dz;refine bh eC mw mM fun aO=>?_;unfold l2;simp[bI.kind,bI.num,bI.name,bI.args];(with_reducible repeat' first|refine aj ?_|refine aC (dq _ _ _) ?_|refine aD (dq _ _ _) ?_|refine aC (gV _) ?_|refine aD (gV _) ?_|simp[MK]);all_goals simp[bt,lS,aX,aY,aW]
  by_cases cf:k=3
  ·subst cf;subst dz;refine bh eC mw mM fun aO=>?_;unfold l2;simp[bI.kind,bI.num,bI.name,bI.args];(with_reducible repeat' first|refine aj ?_|refine aC (dq _ _ _) ?_|refine aD (dq _ _ _) ?_|refine aC (gV _) ?_|refine aD (gV _) ?_|simp[MK]);all_goals simp[bt,lS,aX,aY,aW]
  have Ah:(k !=1)=true:=by simp[aU]
  have Ai:(k !=3)=true:=by simp[cf]
  have Lx:(n !=0)=false:=BB (by simp[aU,cf]);subst dz;refine bh eC mw mM fun aO=>?_;unfold l2;simp[bI.kind,bI.num,bI.name,bI.args];(with_reducible repeat' first|refine aj ?_|refine aC (dq _ _ _) ?_|refine aD (dq _ _ _) ?_|refine aC (gV _) ?_|refine aD (gV _) ?_|simp[Ah,Ai,Lx,Gb,MK]);all_goals simp[bt,lS,aX,aY,aW]
 rw[if_neg b8]at dz;by_cases fj:k=0
 ·subst fj;have n0:n=0:=by simpa using BB (by decide)
  have s0:s=[]:=Classical.byContradiction fun h=>b8 ⟨by omega,h⟩;subst n0 s0;by_cases a0:args=[];rotate_left
  ·rw[if_pos ⟨by omega,a0⟩]at dz;have tU:(0:Int)<args.length:=by have:=List.length_pos_iff.2 a0;omega
   subst dz;refine bh eC mw mM fun aO=>?_;unfold l2;simp[bI.kind,bI.num,bI.name,bI.args];((with_reducible repeat' first|refine aj ?_|refine aC (dq _ _ _) ?_|refine aD (dq _ _ _) ?_|refine aC (gV _) ?_|refine aD (gV _) ?_|simp[Int.natCast_nonneg,tU]|((first|apply bP|apply bR|apply bQ)<;>intro h<;>try simp at h))<;>(try exact cm));all_goals simp[bt,lS,aX,aY,aW]
  rw[if_neg (by simp[a0])]at dz;subst a0;simp at dz;subst dz;refine bh eC mw mM fun aO=>?_;unfold l2;simp[bI.kind,bI.num,bI.name,bI.args];(with_reducible repeat' first|refine aj ?_|refine aC (dq _ _ _) ?_|refine aD (dq _ _ _) ?_|refine aC (gV _) ?_|refine aD (gV _) ?_|simp[Int.natCast_nonneg]);all_goals simp[bt,lS,aX,aY,aW]
 by_cases aU:k=1
 ·subst aU;have s0:s=[]:=Classical.byContradiction fun h=>b8 ⟨by omega,h⟩;subst s0;by_cases a0:args=[];rotate_left
  ·rw[if_pos ⟨by omega,a0⟩]at dz;have tU:(0:Int)<args.length:=by have:=List.length_pos_iff.2 a0;omega
   subst dz;refine bh eC mw mM fun aO=>?_;unfold l2;simp[bI.kind,bI.num,bI.name,bI.args];((with_reducible repeat' first|refine aj ?_|refine aC (dq _ _ _) ?_|refine aD (dq _ _ _) ?_|refine aC (gV _) ?_|refine aD (gV _) ?_|simp[Int.natCast_nonneg,tU]|((first|apply bP|apply bR|apply bQ)<;>intro h<;>try simp at h))<;>(try exact cm));all_goals simp[bt,lS,aX,aY,aW]
  rw[if_neg (by simp[a0])]at dz;subst a0;simp at dz;subst dz;refine bh eC mw mM fun aO=>?_;unfold l2;simp[bI.kind,bI.num,bI.name,bI.args];(with_reducible repeat' first|refine aj ?_|refine aC (dq _ _ _) ?_|refine aD (dq _ _ _) ?_|refine aC (gV _) ?_|refine aD (gV _) ?_|simp[Int.natCast_nonneg]);all_goals simp[bt,lS,aX,aY,aW]
 by_cases bC:k=2
 ·subst bC;have n0:n=0:=by simpa using BB (by decide)
  subst n0;by_cases a0:args=[];rotate_left
  ·rw[if_pos ⟨by omega,a0⟩]at dz;have tU:(0:Int)<args.length:=by have:=List.length_pos_iff.2 a0;omega
   subst dz;refine bh eC mw mM fun aO=>?_;unfold l2;simp[bI.kind,bI.num,bI.name,bI.args];((with_reducible repeat' first|refine aj ?_|refine aC (dq _ _ _) ?_|refine aD (dq _ _ _) ?_|refine aC (gV _) ?_|refine aD (gV _) ?_|simp[Int.natCast_nonneg,tU]|((first|apply bP|apply bR|apply bQ)<;>intro h<;>try simp at h))<;>(try exact cm));all_goals simp[bt,lS,aX,aY,aW]
  rw[if_neg (by simp[a0])]at dz;subst a0;simp at dz;subst dz;refine bh eC mw mM fun aO=>?_;unfold l2;simp[bI.kind,bI.num,bI.name,bI.args];(with_reducible repeat' first|refine aj ?_|refine aC (dq _ _ _) ?_|refine aD (dq _ _ _) ?_|refine aC (gV _) ?_|refine aD (gV _) ?_|simp[Int.natCast_nonneg]);all_goals simp[bt,lS,aX,aY,aW]
 by_cases cf:k=3
 ·subst cf;have s0:s=[]:=Classical.byContradiction fun h=>b8 ⟨by omega,h⟩;subst s0;by_cases a0:args=[];rotate_left
  ·rw[if_pos ⟨by omega,a0⟩]at dz;have tU:(0:Int)<args.length:=by have:=List.length_pos_iff.2 a0;omega
   subst dz;refine bh eC mw mM fun aO=>?_;unfold l2;simp[bI.kind,bI.num,bI.name,bI.args];((with_reducible repeat' first|refine aj ?_|refine aC (dq _ _ _) ?_|refine aD (dq _ _ _) ?_|refine aC (gV _) ?_|refine aD (gV _) ?_|simp[Int.natCast_nonneg,tU]|((first|apply bP|apply bR|apply bQ)<;>intro h<;>try simp at h))<;>(try exact cm));all_goals simp[bt,lS,aX,aY,aW]
  rw[if_neg (by simp[a0])]at dz;subst a0;simp at dz;subst dz;refine bh eC mw mM fun aO=>?_;unfold l2;simp[bI.kind,bI.num,bI.name,bI.args];(with_reducible repeat' first|refine aj ?_|refine aC (dq _ _ _) ?_|refine aD (dq _ _ _) ?_|refine aC (gV _) ?_|refine aD (gV _) ?_|simp[Int.natCast_nonneg]);all_goals simp[bt,lS,aX,aY,aW]
 by_cases eZ:k=4
 ·subst eZ;have n0:n=0:=by simpa using BB (by decide)
  have s0:s=[]:=Classical.byContradiction fun h=>b8 ⟨by omega,h⟩;subst n0 s0;simp at dz;match args,dz with
  |[a,b],dz=>
   simp[bI.sz,bI.szL]at aK;have bz:=bO a (by omega);have ad:=bO b (by omega);simp only[vj]at dz;subst dz;refine bh eC mw mM fun aO=>?_;unfold l2;simp[bI.kind,bI.num,bI.name,bI.args];cases q:shp a with
   |true=>rw[q]at bz;(with_reducible repeat' first|refine aj ?_|refine aC bz ?_|refine aD bz ?_|refine aC ad ?_|refine aD ad ?_|simp[Int.natCast_nonneg]);all_goals simp[bt,lS,aX,aY,aW]
   |false=>rw[q]at bz;(with_reducible repeat' first|refine aj ?_|refine aC bz ?_|refine aD bz ?_|refine aC ad ?_|refine aD ad ?_|simp[Int.natCast_nonneg]);all_goals simp[bt,lS,aX,aY,aW]
  |[],dz=>simp only[vj]at dz;subst dz;refine bh eC mw mM fun aO=>?_;unfold l2;simp[bI.kind,bI.num,bI.name,bI.args];(with_reducible repeat' first|refine aj ?_|refine aC (dq _ _ _) ?_|refine aD (dq _ _ _) ?_|refine aC (gV _) ?_|refine aD (gV _) ?_|simp[Int.natCast_nonneg]);all_goals simp[bt,lS,aX,aY,aW]
  |[_],dz=>simp only[vj]at dz;subst dz;refine bh eC mw mM fun aO=>?_;unfold l2;simp[bI.kind,bI.num,bI.name,bI.args];(with_reducible repeat' first|refine aj ?_|refine aC (dq _ _ _) ?_|refine aD (dq _ _ _) ?_|refine aC (gV _) ?_|refine aD (gV _) ?_|simp[Int.natCast_nonneg]);all_goals simp[bt,lS,aX,aY,aW]
  |_::_::_::l,dz=>
   simp only[vj]at dz;have aw:((l.length:Int)+1+1+1==2)=false:=by simp;omega
   subst dz;refine bh eC mw mM fun aO=>?_;unfold l2;simp[bI.kind,bI.num,bI.name,bI.args];(with_reducible repeat' first|refine aj ?_|refine aC (dq _ _ _) ?_|refine aD (dq _ _ _) ?_|refine aC (gV _) ?_|refine aD (gV _) ?_|simp[aw]);all_goals simp[bt,lS,aX,aY,aW]
 have n0:(n !=0)=false:=BB (by simp[aU,cf]);have s0:s=[]:=Classical.byContradiction fun h=>b8 ⟨bC,h⟩;subst s0;have TL:(k==0)=false:=by simp[fj]
 have Ah:(k==1)=false:=by simp[aU]
 have Gb:(k==2)=false:=by simp[bC]
 have Ai:(k==3)=false:=by simp[cf]
 have TP:(k==4)=false:=by simp[eZ]
 have TM:(k !=1)=true:=by simp[aU]
 have TN:(k !=2)=true:=by simp[bC]
 have TO:(k !=3)=true:=by simp[cf]
 have TQ:(k !=4)=true:=by simp[eZ]
 by_cases a0:args=[]
 ·subst a0;simp[fj,aU,bC,cf,eZ]at dz;subst dz;refine bh eC mw mM fun aO=>?_;unfold l2;simp[bI.kind,bI.num,bI.name,bI.args];(with_reducible repeat' first|refine aj ?_|refine aC (dq _ _ _) ?_|refine aD (dq _ _ _) ?_|refine aC (gV _) ?_|refine aD (gV _) ?_|simp[TL,Ah,Gb,Ai,TP,TM,TN,TO,TQ,n0]);all_goals simp[bt,lS,aX,aY,aW]
 ·rw[if_pos ⟨eZ,a0⟩]at dz;have tU:(0:Int)<args.length:=by have:=List.length_pos_iff.2 a0;omega
  subst dz;refine bh eC mw mM fun aO=>?_;unfold l2;simp[bI.kind,bI.num,bI.name,bI.args];((with_reducible repeat' first|refine aj ?_|refine aC (dq _ _ _) ?_|refine aD (dq _ _ _) ?_|refine aC (gV _) ?_|refine aD (gV _) ?_|simp[tU,TL,Ah,Gb,Ai,TP,TM,TN,TO,TQ,n0]|((first|apply bP|apply bR|apply bQ)<;>intro h<;>try simp at h))<;>(try exact cm));all_goals simp[bt,lS,aX,aY,aW]
theorem Bl(t:bI):bH ao 56 [enc t] (.bool t.fits):=by
 rw[ady];have au:=XU t 5000 (by omega) (by omega);have ag:=anf t.sz t (eR _);refine bh eC acZ ajz fun aO=>?_;unfold Qh;simp;by_cases q:lx t 5000≤5000
 ·exact bY
 ·exact bY
def Qe:C:=(aa [be 2 false] (.seq (aa [I 5 0,b7 6 5,bJ 7 0] (e0 8 7 6 (.seq (.block 1 (aa [I 9 7,cd 10 2 5 7,a6 11 2 10,cW (.alloc 4 none (.agg [.int .i64 0,.int .i64 0])),I 3 9,bT 2 4 11] (.seq (.drawn true 42 [I 12 3,aS 13 .gtr 12 0,I 14 13,bW 14 true 15 0,bW 14 true 16 3,aq 14 true (aS 17 .sub 16 1),aq 14 true (cd 18 2 15 17),aq 14 true (aG 19 0 1 18),aq 14 true (av 20 1 19),aq 14 true (aG 21 0 1 4),aq 14 true (av 22 1 21),aq 14 true (bg 23 .geq 20 22),du 24 14 23,I 25 24,aq 25 false (aG 26 0 1 4),aq 25 false (av 27 1 26),aq 25 false (dJ 28 75 [.t 27,(fQ 0),(fQ 100000)]),aq 25 false (cy 29 28),cY 30 25 29,I 31 30,aq 31 false (aG 32 1 1 4),aq 31 false (av 33 1 32),aq 31 false (aS 34 .neq 33 2),bW 31 false 35 34,aq 35 true (aG 36 1 1 4),aq 35 true (av 37 1 36),aq 35 true (aS 38 .neq 37 3),aq 31 false (du 39 35 38),cY 40 31 39]) (aT 40 (aa [be 2 false] .ret) .skip)))) (.region [aS 41 .add 7 1,I 7 41])))) (aa [be 2 true] .ret)))
@[simp] def DE:List bA:=[.tmp 2]
def Qf:C:=(aa [be 2 false] (.seq (aa [I 5 0,b7 6 5,bJ 7 0] (e0 8 7 6 (.seq (.block 1 (aa [I 9 7,cd 10 2 5 7,a6 11 2 10,cW (.alloc 4 none (.agg [.int .i64 0,.str []])),I 3 9,bT 2 4 11] (.seq (.drawn true 37 [I 12 3,aS 13 .gtr 12 0,I 14 13,bW 14 true 15 0,bW 14 true 16 3,aq 14 true (aS 17 .sub 16 1),aq 14 true (cd 18 2 15 17),aq 14 true (a6 19 2 18),aq 14 true (a6 20 2 4),aq 14 true (b3 21 147 19 20),aq 14 true (cy 22 21),du 23 14 22,I 24 23,aq 24 false (aG 25 0 1 4),aq 24 false (av 26 1 25),aq 24 false (dJ 27 75 [.t 26,(fQ 0),(fQ 100000)]),aq 24 false (cy 28 27),cY 29 24 28,I 30 29,aq 30 false (aG 31 1 1 4),aq 30 false (av 32 1 31),aq 30 false (cJ 33 119 32),aq 30 false (cy 34 33),cY 35 30 34]) (aT 35 (aa [be 2 false] .ret) .skip)))) (.region [aS 36 .add 7 1,I 7 36])))) (aa [be 2 true] .ret)))
@[simp] def AV:List bA:=[.tmp 2]
def EU:C:=(aa [cM 2 0,cM 3 1,be 4 false] (aa [aG 5 0 1 2,av 6 1 5,aG 7 0 1 3,av 8 1 7,bg 9 .lss 6 8,I 10 9,aq 10 false (aG 11 0 1 2),aq 10 false (av 12 1 11),aq 10 false (aG 13 0 1 3),aq 10 false (av 14 1 13),aq 10 false (bg 15 .eql 12 14),bW 10 false 16 15,aq 16 true (aG 17 1 1 2),aq 16 true (av 18 1 17),aq 16 true (aG 19 1 1 3),aq 16 true (av 20 1 19),aq 16 true (bg 21 .lss 18 20),aq 10 false (du 22 16 21),cY 23 10 22,I 4 23] .ret))
@[simp] def alm:List bA:=[.tmp 4]
def QF:C:=(aa [eN 4 2,be 5 false] (aa [eD 10 2 98 [],I 6 10] (aa [be 7 true] (.seq (.seq (.fg false 6 (.region [I 11 1,b7 12 11,bJ 13 0])) (e0 14 13 12 (.seq (.block 1 (aa [cd 15 2 11 13,a6 16 2 15,cW (.alloc 9 none (.agg [.int .i64 0,.int .i64 0])),bT 2 9 16] (.seq (.drawn true 33 [I 18 6,I 19 0,aG 20 0 1 9,av 21 1 20,cJ 22 114 21,b3 23 201 19 22,aG 24 1 1 9,av 25 1 24,dJ 26 151 [.t 18,.t 23,.t 25],I 17 26,cH 27 0 17,cH 28 1 17,I 6 27,I 7 28]) (aa [I 29 7,cy 30 29] (aT 30 (aa [eN 4 2,be 5 false] .ret) .skip))))) (.region [aS 31 .add 13 1,I 13 31])))) (aa [I 32 6,I 4 32,be 5 true] .ret)))))
@[simp] def Mt:List bA:=[.tmp 4,.tmp 5]
def QG:C:=(aa [eN 4 2,be 5 false] (aa [eD 10 2 100 [],I 6 10] (aa [be 7 true] (.seq (.seq (.fg false 6 (.region [I 11 1,b7 12 11,bJ 13 0])) (e0 14 13 12 (.seq (.block 1 (aa [cd 15 2 11 13,a6 16 2 15,cW (.alloc 9 none (.agg [.int .i64 0,.str []])),bT 2 9 16] (.seq (.drawn true 33 [I 18 6,I 19 0,aG 20 0 1 9,av 21 1 20,cJ 22 114 21,b3 23 201 19 22,aG 24 1 1 9,av 25 1 24,dJ 26 181 [.t 18,.t 23,.t 25],I 17 26,cH 27 0 17,cH 28 1 17,I 6 27,I 7 28]) (aa [I 29 7,cy 30 29] (aT 30 (aa [eN 4 2,be 5 false] .ret) .skip))))) (.region [aS 31 .add 13 1,I 13 31])))) (aa [I 32 6,I 4 32,be 5 true] .ret)))))
@[simp] def Mv:List bA:=[.tmp 4,.tmp 5]
def zl:C:=(aa [cM 4 1,eN 6 2,be 7 false] (.seq (aa [aG 10 0 1 4,av 11 1 10,aS 12 .neq 11 1] (aT 12 (.seq (.drawn true 73 [I 13 0,aG 14 0 1 4,av 15 1 14,I 16 2,bg 17 .eql 15 16,I 6 13,I 7 17]) .ret) .skip)) (aa [bJ 8 0] (.seq (.block 0 (.loop (.seq (.seq (.drawn true 73 [I 18 8,I 19 0,b7 20 19,bg 21 .lss 18 20,I 22 21,bW 22 true 23 0,bW 22 true 24 8,aq 22 true (cd 25 2 23 24),aq 22 true (aG 26 0 1 25),aq 22 true (av 27 1 26),aq 22 true (aG 28 1 1 4),aq 22 true (av 29 1 28),aq 22 true (bg 30 .lss 27 29),du 31 22 30]) (aT 31 .skip (.exit 0))) (.block 1 (.region [I 32 8,aS 33 .add 32 1,I 8 33]))))) (.seq (.seq (.drawn true 73 [I 34 8,I 35 0,b7 36 35,bg 37 .lss 34 36,I 38 37,bW 38 true 39 0,bW 38 true 40 8,aq 38 true (cd 41 2 39 40),aq 38 true (aG 42 0 1 41),aq 38 true (av 43 1 42),aq 38 true (aG 44 1 1 4),aq 38 true (av 45 1 44),aq 38 true (bg 46 .eql 43 45),du 47 38 46]) (aT 47 (.seq (.drawn true 73 [I 48 0,I 49 0,I 50 8,cd 51 2 49 50,aG 52 1 1 51,av 53 1 52,I 54 2,bg 55 .eql 53 54,I 6 48,I 7 55]) .ret) .skip)) (aa [eD 56 2 98 [],I 57 0,I 58 8,ca 59 (.lsl 2 (.t 57) none (some (.t 58))),hF 60 2 98 56 59,I 9 60] (aa [I 61 9,aG 62 1 1 4,av 63 1 62,I 64 2,ca 65 (.build [.int .i64 0,.int .i64 0] [(0,1,(.t 63)),(1,1,(.t 64))]),eD 66 2 98 [.t 65],hF 67 2 98 61 66,I 9 67] (aa [I 68 9,I 69 0,I 70 8,ca 71 (.lsl 2 (.t 69) (some (.t 70)) none),hF 72 2 98 68 71,I 6 72,be 7 true] .ret))))))))
@[simp] def wP:List bA:=[.tmp 6,.tmp 7]
def IT:C:=(aa [cM 4 1,eN 6 2,be 7 false] (.seq (aa [a6 13 4 4,I 14 2,b3 15 210 13 14] (aT 15 (aa [eN 6 2,be 7 false] .ret) .skip)) (.seq (aa [a6 16 4 4,dJ 17 58 [.t 16,(.c (.slice 1 .nil []))],b7 18 17,bJ 19 0] (e0 20 19 18 (.seq (.block 1 (aa [cd 21 1 17 19,av 22 1 21,I 9 22] (aa [I 23 9,I 24 2,ca 25 (.build [.int .i64 0,.str []] [(0,1,(.t 23)),(1,1,(.t 24))]),cW (.alloc 10 none (.agg [.int .i64 0,.str []])),bT 2 10 25] (aa [bJ 11 0] (.seq (.block 2 (.loop (.seq (.seq (.drawn true 68 [I 26 11,I 27 0,b7 28 27,bg 29 .lss 26 28,I 30 29,bW 30 true 31 0,bW 30 true 32 11,aq 30 true (cd 33 2 31 32),aq 30 true (a6 34 2 33),aq 30 true (a6 35 2 10),aq 30 true (b3 36 147 34 35),du 37 30 36]) (aT 37 .skip (.exit 2))) (.block 3 (.region [I 38 11,aS 39 .add 38 1,I 11 39]))))) (.seq (.drawn true 68 [I 40 11,I 41 0,b7 42 41,bg 43 .eql 40 42,I 44 43,aq 44 false (a6 45 2 10),bW 44 false 46 0,bW 44 false 47 11,aq 44 false (cd 48 2 46 47),aq 44 false (a6 49 2 48),aq 44 false (b3 50 147 45 49),cY 51 44 50]) (aT 51 (aa [eD 52 2 100 [],I 53 0,I 54 11,ca 55 (.lsl 2 (.t 53) none (some (.t 54))),hF 56 2 100 52 55,I 12 56] (aa [I 57 12,a6 58 2 10,eD 59 2 100 [.t 58],hF 60 2 100 57 59,I 12 60] (.region [I 61 12,I 62 0,I 63 11,ca 64 (.lsl 2 (.t 62) (some (.t 63)) none),hF 65 2 100 61 64,I 0 65]))) .skip))))))) (.fg false 0 (.region [aS 66 .add 19 1,I 19 66]))))) (aa [I 67 0,I 6 67,be 7 true] .ret))))
@[simp] def Mu:List bA:=[.tmp 6,.tmp 7]
def zk:C:=(aa [cM 2 0,be 4 false] (.seq (aa [aG 7 3 1 2,av 8 1 7,b7 9 8,bJ 10 0] (e0 11 10 9 (.seq (.block 1 (aa [cd 12 4 8 10,a6 13 4 12,dg 6 ds,bT 4 6 13] (aa [a6 14 4 6,I 15 1,b3 16 210 14 15] (aT 16 (aa [be 4 true] .ret) .skip)))) (.region [aS 17 .add 10 1,I 10 17])))) (aa [aG 18 0 1 2,av 19 1 18,aS 20 .eql 19 2,I 21 20,aq 21 true (aG 22 2 1 2),aq 21 true (av 23 1 22),bW 21 true 24 1,aq 21 true (bg 25 .eql 23 24),du 26 21 25,I 4 26] .ret)))
@[simp] def wO:List bA:=[.tmp 4]
def vq:List (Nat×dF):=[
 (3,⟨1,8,.int .i64,.int .i64 0⟩),
 (9,⟨1,16,.str,.str []⟩),
 (27,⟨1,24,.slice 30,.slice 4 .nil []⟩),
 (30,⟨4,56,.struct [(0,3),(1,3),(2,9),(3,27)],.agg [.int .i64 0,.int .i64 0,.str [],.slice 4 .nil []]⟩),
 (48,⟨1,24,.slice 98,.slice 2 .nil []⟩),
 (49,⟨1,24,.slice 100,.slice 2 .nil []⟩),
 (76,⟨1,24,.slice 3,.slice 1 .nil []⟩),
 (98,⟨2,16,.struct [(0,3),(1,3)],.agg [.int .i64 0,.int .i64 0]⟩),
 (100,⟨2,24,.struct [(0,3),(1,9)],.agg [.int .i64 0,.str []]⟩)]
theorem mh:fP ao vq=true:=by kernel_rfl
theorem ajw:b1 vq Qe DE 1 Tryz.f78=true:=by kernel_rfl
theorem acW:ao.funcs[(78:Nat)]? =some Tryz.f78:=Tryz.func78
theorem ajx:b1 vq Qf AV 1 Tryz.f79=true:=by kernel_rfl
theorem acX:ao.funcs[(79:Nat)]? =some Tryz.f79:=Tryz.func79
theorem LV:b1 vq EU alm 2 Tryz.f147=true:=by kernel_rfl
theorem Jv:ao.funcs[(147:Nat)]? =some Tryz.f147:=Tryz.func147
theorem ajX:b1 vq QF Mt 2 Tryz.f149=true:=by kernel_rfl
theorem adp:ao.funcs[(149:Nat)]? =some Tryz.f149:=Tryz.func149
theorem ajY:b1 vq QG Mv 2 Tryz.f150=true:=by kernel_rfl
theorem adq:ao.funcs[(150:Nat)]? =some Tryz.f150:=Tryz.func150
theorem Ds:b1 vq zl wP 3 Tryz.f151=true:=by kernel_rfl
theorem BV:ao.funcs[(151:Nat)]? =some Tryz.f151:=Tryz.func151
theorem Vl:b1 vq IT Mu 3 Tryz.f181=true:=by kernel_rfl
theorem RE:ao.funcs[(181:Nat)]? =some Tryz.f181:=Tryz.func181
theorem Dr:b1 vq zk wO 2 Tryz.f210=true:=by kernel_rfl
theorem BU:ao.funcs[(210:Nat)]? =some Tryz.f210:=Tryz.func210
end Go.Proofs.YtahlgcidhnjlbaaGreat
namespace Go.Proofs.YtahlgcidhnjlbaaGreat
open Go Go.Pv
open Classical in
theorem anJ(l:List bM):bH ao 78 [.slice 2 .no (l.map bM.e)] (.bool (decide (fO l))):=by
 generalize bd:decide (fO l)=R;refine bh mh acW ajw fun aO=>?_;unfold Qe;have eX:l.length≤68719476736:=by simp[eu,ed,ep,lim]at aO;omega
 simp;refine dw [0,5,6] (fun i (_:Unit)=>[(7,.int .i64 i)]) l.length (fun i _=> ∀j,j<i→h9 ma nq l j) () bN (fun k ab=>by omega) (fun _ ae _=>?_) (fun i _ hi ae _=>?_)
 ·have:R=true:=by rw[←bd,e2,Ge];exact ae
  rw[this];exact bY
 ·obtain⟨b,ad⟩:∃b,l[i]? =some b:=⟨_,bZ hi⟩;obtain⟨c,au⟩:∃c,l[i-1]? =some c:=⟨_,bZ (by omega)⟩;have cA:∀h,(l[i]'h)=b:=fun h=>by rw[bZ hi]at ad;exact eE ad
  have ct:¬h9 ma nq l i→R=false:=fun h=>by rw[←bd,gI];exact fun cb=>h (Ge.1 cb i hi)
  have dd:h9 ma nq l i→∀j,j<i+1→h9 ma nq l j:=fun h j js=>by
   by_cases e:j=i
   ·rw[e];exact h
   ·exact ae j (by omega)
  have l4:h9 ma nq l i→ma b:=fun h=>(h b ad).1;have bE:h9 ma nq l i→0<i→c.v<b.v:=fun h bn=>(h b ad).2 c bn au;have eY:ma b→(0<i→c.v<b.v)→h9 ma nq l i:=fun J U b5 fV=>by rw[ad]at fV;cases fV;exact⟨J,fun cu bn hy=>by rw[au]at hy;cases hy;exact U bn⟩
  unfold ma at l4 eY;by_cases g0:0<i∧¬c.v<b.v
  ·rw[ct (fun h=>g0.2 (bE h g0.1))];have apE:=g0.1;have vJ:b.v≤c.v:=by omega
   exact bY
  have aQ:(decide (0<i)&&decide (b.v≤c.v))=false:=by simp;intro h;by_cases cw:c.v<b.v;exact cw;exact absurd ⟨h,cw⟩ g0
  by_cases g1:0≤b.v∧b.v≤100000;rotate_left
  ·rw[ct (fun h=>g1 (l4 h).1)];have ic:decide (0≤b.v∧b.v≤100000)=false:=by simp only[gI];exact g1
   by_cases bn:0<i
   ·have vJ:¬b.v≤c.v:=by simp[bn]at aQ;omega
    simp[hi,cA,au];(with_reducible repeat' first|refine aj ?_|refine aC (dq _ _ _) ?_|refine aD (dq _ _ _) ?_|simp[cA,au,hi,bn,vJ,ic,g1]);all_goals simp[bt,DE,aX,aY,aW]
   ·obtain rfl:i=0:=by omega
    simp[hi,cA,au];(with_reducible repeat' first|refine aj ?_|refine aC (dq _ _ _) ?_|refine aD (dq _ _ _) ?_|simp[cA,au,hi,ic,g1]);all_goals simp[bt,DE,aX,aY,aW]
  have ic:decide (0≤b.v∧b.v≤100000)=true:=by simp only[e2];exact g1
  by_cases g2:b.k=2∨b.k=3;rotate_left
  ·rw[ct (fun h=>g2 (l4 h).2)];have g21:(b.k !=2)=true:=by simp;omega
   have g22:(b.k !=3)=true:=by simp;omega
   by_cases bn:0<i
   ·have vJ:¬b.v≤c.v:=by simp[bn]at aQ;omega
    simp[hi,cA,au];(with_reducible repeat' first|refine aj ?_|refine aC (dq _ _ _) ?_|refine aD (dq _ _ _) ?_|simp[cA,au,hi,bn,vJ,ic,g1,g21,g22]);all_goals simp[bt,DE,aX,aY,aW]
   ·obtain rfl:i=0:=by omega
    simp[hi,cA,au];(with_reducible repeat' first|refine aj ?_|refine aC (dq _ _ _) ?_|refine aD (dq _ _ _) ?_|simp[cA,au,hi,ic,g1,g21,g22]);all_goals simp[bt,DE,aX,aY,aW]
  have dx:=dd (eY ⟨g1,g2⟩ fun bn=>by simp[bn]at aQ;omega);have qM:((b.k !=2)=false)∨((b.k !=2)=true∧(b.k !=3)=false):=by
   rcases g2 with h|h
   ·left;simp[h]
   ·right;simp[h]
  rcases qM with g21|⟨g21,g22⟩
  ·by_cases bn:0<i
   ·have vJ:¬b.v≤c.v:=by simp[bn]at aQ;omega
    simp[hi,cA,au];(with_reducible repeat' first|refine aj ?_|refine aC (dq _ _ _) ?_|refine aD (dq _ _ _) ?_|simp[cA,au,hi,bn,vJ,ic,g1,g21]);all_goals exact bK.rng () hi dx bN
   ·obtain rfl:i=0:=by omega
    simp[hi,cA,au];(with_reducible repeat' first|refine aj ?_|refine aC (dq _ _ _) ?_|refine aD (dq _ _ _) ?_|simp[cA,au,hi,ic,g1,g21]);all_goals exact bK.rng () hi dx bN
  ·by_cases bn:0<i
   ·have vJ:¬b.v≤c.v:=by simp[bn]at aQ;omega
    simp[hi,cA,au];(with_reducible repeat' first|refine aj ?_|refine aC (dq _ _ _) ?_|refine aD (dq _ _ _) ?_|simp[cA,au,hi,bn,vJ,ic,g1,g21,g22]);all_goals exact bK.rng () hi dx bN
   ·obtain rfl:i=0:=by omega
    simp[hi,cA,au];(with_reducible repeat' first|refine aj ?_|refine aC (dq _ _ _) ?_|refine aD (dq _ _ _) ?_|simp[cA,au,hi,ic,g1,g21,g22]);all_goals exact bK.rng () hi dx bN
theorem lW(a b:bm):bH ao 147 [a.e,b.e] (.bool (hL fe a b)):=by
 rw[←UX];have bd:tk a b=(decide (a.v<b.v)||(a.v==b.v&&hv a.s b.s)):=rfl;rcases Int.lt_trichotomy a.v b.v with h|h|h
 ·have:tk a b=true:=by rw[bd];simp[h]
  rw[this];refine bh mh Jv LV fun aO=>?_;unfold EU;exact bY
 ·have J:¬a.v<b.v:=by omega
  have U:(a.v==b.v)=true:=by simp[h]
  have:tk a b=hv a.s b.s:=by rw[bd];simp[h]
  rw[this];refine bh mh Jv LV fun aO=>?_;unfold EU;exact bY
 ·have J:¬a.v<b.v:=by omega
  have U:¬a.v=b.v:=by omega
  have ar:(a.v==b.v)=false:=by simp[U]
  have:tk a b=false:=by rw[bd];simp[J,U]
  rw[this];refine bh mh Jv LV fun aO=>?_;unfold EU;exact bY
end Go.Proofs.YtahlgcidhnjlbaaGreat
namespace Go.Proofs.YtahlgcidhnjlbaaGreat
open Go Go.Pv
def TH(l:List cT)(i:Nat)(_:Unit):Prop:= ∀j,j<i→AE l j
open Classical in
theorem XW(l:List cT):bH ao 145 [.slice 5 .no (l.map cT.e)] (.bool (decide (vu l))):=by
 generalize bd:decide (vu l)=R;refine bh eC adg ajO fun aO=>?_;unfold Qw;have eX:l.length≤68719476736:=by simp[eu,ed,ep,lim]at aO;omega
 simp;refine dw [0,5,6] (fun i (_:Unit)=>[(7,.int .i64 i)]) l.length (TH l) () bN (fun k ab=>by omega) (fun _ ae _=>?_) (fun i _ hi ae _=>?_)
 ·have:R=decide (l.length≤400):=by rw[←bd,decide_eq_decide];exact⟨fun h=>h.1,fun h=>⟨h,fun j js=>ae j js⟩⟩
  rw[this];simp;(with_reducible repeat' first|refine aj ?_|simp);simp[bt,Mr,aX,aY,aW];all_goals(first|done|omega|(simp;done)|(simp;omega))
 ·obtain⟨b,ad⟩:∃b,l[i]? =some b:=⟨_,bZ hi⟩;obtain⟨c,au⟩:∃c,l[i-1]? =some c:=⟨_,bZ (by omega)⟩;have cA:∀h,(l[i]'h)=b:=fun h=>by rw[bZ hi]at ad;exact eE ad
  have ct:¬AE l i→R=false:=fun h=>by rw[←bd,gI];exact fun cb=>h (cb.2 i hi)
  have dd:AE l i→TH l (i+1) ():=fun h j js=>by
   by_cases e:j=i
   ·rw[e];exact h
   ·exact ae j (by omega)
  simp[hi,cA,au];((with_reducible repeat' first|refine aj ?_|refine aC (dq _ _ _) ?_|refine aD (dq _ _ _) ?_|refine aC (Bl _) ?_|refine aD (Bl _) ?_|simp[cA,au,hi]|((first|apply bP|apply bR|apply bQ)<;>intro h<;>try simp at h))<;>(try exact cm));all_goals first
   |(have ay:¬AE l i:=by(intro cb;have J:=cb b ad;have U:=J.2.1 c;have ar:=J.2.2;first|omega|(have ba:=U (by omega) au;omega)|(rw[ar]at h;cases h)|(simp_all;done)|(simp_all;omega))
     rw[ct ay]
     simp[bt,Mr,aX,aY,aW]
     done)
   |(refine bK.rng () hi (dd fun b5 fV=>?_) ?_
     ·rw[ad]at fV;cases fV
      refine⟨?_,fun cu bn hy=>?_,?_⟩
      ·omega
      ·rw[au]at hy;cases hy;omega
      ·first|assumption|simp_all
     ·exact bN)
def mE(n:Int):List Int→List Int
 |[]=>[n]
 |c::l=>if c<n then c::mE n l else if c=n then c::l else n::c::l
def sy(l:List Int):Prop:=l.Pairwise (· < ·)
theorem Ty(n:Int):∀(l:List Int) (k:Nat),(∀i c,i<k→l[i]? =some c→c<n)→(∀c,l[k]? =some c→n≤c)→k≤l.length→mE n l=if l[k]? =some n then l else l.take k++n::l.drop k
 |[],k,_,_,ab=>by simp at ab;subst ab;rfl
 |c::l,0,_,U,_=>by
  have:=U c rfl;by_cases e:c=n
  ·simp[mE,e]
  ·have ar:¬c<n:=by omega
   simp[mE,ar,e]
 |c::l,k+1,J,U,ab=>by have bn:=J 0 c (by omega) rfl;simp only[mE,if_pos bn,List.take_succ_cons,List.drop_succ_cons,bX,List.getElem?_cons_succ];rw[Ty n l k (fun i d hi aQ=>J (i+1) d (by omega) (by simpa using aQ)) (fun d aQ=>U d (by simpa using aQ)) (by simpa using ab)];split<;>rfl
theorem Lo{n m:Int}:∀{l:List Int},m∈mE n l↔m=n∨m∈l
 |[]=>by simp[mE]
 |c::l=>by
  simp only[mE];split
  ·simp only[fR,Lo (l:=l)];constructor
   ·rintro(h|h|h)
    ·exact .inr (.inl h)
    ·exact .inl h
    ·exact .inr (.inr h)
   ·rintro(h|h|h)
    ·exact .inr (.inl h)
    ·exact .inl h
    ·exact .inr (.inr h)
  ·split
   ·rename_i h;subst h;simp
   ·simp
theorem Tx{n:Int}:∀{l:List Int},sy l→sy (mE n l)
 |[],_=>by simp[mE,sy]
 |c::l,h=>by
  obtain⟨J,U⟩:=mR.1 h;simp only[mE];split
  ·rename_i ar;refine mR.2 ⟨fun m hm=>?_,Tx U⟩;rcases Lo.1 hm with rfl|hm
   ·exact ar
   ·exact J m hm
  ·split
   ·exact h
   ·refine mR.2 ⟨fun m hm=>?_,h⟩;rcases fR.1 hm with rfl|hm
    ·omega
    ·have:=J m hm;omega
theorem Tz(n:Int):∀l:List Int,(mE n l).length≤l.length+1
 |[]=>by simp[mE]
 |c::l=>by
  have:=Tz n l;simp only[mE];split
  ·simp;omega
  ·split<;>simp
theorem CR(l:List Int)(i:Nat):(dA l)[i]? =(l[i]?).map (ah.int .i64):=by simp[dA]
theorem eU(l:List Int):(dA l).length=l.length:=by simp[dA]
theorem yQ:∀l:List Int,cR (dA l)=dA l
 |[]=>by simp[dA,cR]
 |a::l=>by have:=yQ l;simp only[dA,gO,cR,dm]at this⊢;rw[this]
theorem F4(l:List Int)(n:Int)(k:Nat):cR (lY k (dA l)++ah.int .i64 n::nF k (lY l.length (dA l)))=dA (lY k l++n::nF k l):=by
 have e:lY l.length (dA l)=dA l:=hG (by simp[dA]);have aE:lY k (dA l)++ah.int .i64 n::nF k (dA l)=dA (lY k l++n::nF k l):=by simp only[dA,qu,gO,List.map_take,List.map_drop]
 rw[e,aE];exact yQ _
theorem ane(l:List Int)(n:Int)(aw:l.length≤1000000)(bz:sy l):bH ao 126 [.slice 1 .no (dA l),.int .i64 n] (.slice 1 .no (dA (mE n l))):=by
 refine bh eC ac5 ajF fun aO=>?_;unfold Qn;simp;refine vF [0,1] (fun(k:Nat)=>[(5,.int .i64 k)]) (fun k=>k) (fun k=>k≤l.length∧∀c,l[k]? =some c→n≤c) l.length bN ⟨by omega,fun c h=>by simp at h⟩ (fun k ae _=>?_);obtain⟨ab,ae⟩:=ae;have vR:(∀c,0<k→l[k-1]? =some c→c<n)→mE n l=if l[k]? =some n then l else l.take k++n::l.drop k:=fun h=>Ty n l k (fun i c hi au=>by
  obtain⟨d,aQ⟩:∃d,l[k-1]? =some d:=⟨_,bZ (by omega)⟩;have J:=h d (by omega) aQ;rcases Nat.lt_or_ge i (k-1)with U|U
  ·have sU:=(e1.1 au);have my:=(e1.1 aQ);have:=o7.1 bz i (k-1) sU.1 my.1 U;rw[sU.2,my.2]at this;omega
  ·have:i=k-1:=by omega
   subst this;rw[aQ]at au;cases au;exact J) ae ab
 have lE:∀c,l[k]? =some c→∀h,((dA l)[k]'h)= .int .i64 c:=fun c h cb=>by have:=CR l k;rw[h,bZ cb]at this;exact eE this
 have dx:(0<k→∃d,l[k-1]? =some d∧d<n)→∀P:Prop,(mE n l=(if l[k]? =some n then l else l.take k++n::l.drop k)→P)→P:=fun h P aeE=>aeE (vR fun c bn au=>by obtain⟨d,aQ,J⟩:=h bn;rw[aQ]at au;cases au;exact J)
 rcases Nat.eq_zero_or_pos k with bn|fs
 ·have br:decide ((0:Int)<k)=false:=by simp;omega
  refine dx (fun h=>by omega) _ fun e=>?_;by_cases hK:k<l.length
  ·obtain⟨c,au⟩:∃c,l[k]? =some c:=⟨_,bZ hK⟩;have hy:=lE c au;rw[au]at e;by_cases q:c=n
   ·have gx:(c==n)=true:=by simp[q]
    rw[if_pos (by rw[q])]at e;rw[e];simp[br,hK];((with_reducible repeat' first|refine aj ?_|simp[br,hK,hy,gx]|((first|apply bP|apply bR|apply bQ)<;>intro h<;>try simp at h))<;>(try exact cm));all_goals simp[bt,yD,aX,aY,aW]
   ·have gx:(c==n)=false:=by simp[q]
    rw[if_neg (by simp[q])]at e;rw[e];simp[br,hK];((with_reducible repeat' first|refine aj ?_|simp[br,hK,hy,gx]|((first|apply bP|apply bR|apply bQ)<;>intro h<;>try simp at h))<;>(try exact cm));all_goals simp[bt,yD,aX,aY,aW]
    all_goals exact F4 l n k
  ·rw[qt (by omega)]at e;simp only[reduceCtorEq,if_false]at e;rw[e];simp[br,hK];((with_reducible repeat' first|refine aj ?_|simp[br,hK]|((first|apply bP|apply bR|apply bQ)<;>intro h<;>try simp at h))<;>(try exact cm));all_goals simp[bt,yD,aX,aY,aW]
   all_goals exact F4 l n k
 ·obtain⟨d,aQ⟩:∃d,l[k-1]? =some d:=⟨_,bZ (by omega)⟩;have ak:((k:Int)-1).toNat=k-1:=by omega
  have aE:∀h,((dA l)[k-1]'h)= .int .i64 d:=fun cb=>by have:=CR l (k-1);rw[aQ,bZ cb]at this;exact eE this
  have iM:(0:Int)<k:=by omega
  have l7:k-1<l.length:=by omega
  by_cases ad:n≤d
  ·simp[fs,iM,ak,aE,ad,l7];(with_reducible repeat' first|refine aj ?_|simp[fs,iM,ak,aE,ad,l7]);refine bK.whl (k-1) (by omega) ⟨by omega,fun c au=>by rw[aQ]at au;cases au;exact ad⟩ ?_;have bj:((k-1:Nat):Int)=(k:Int)-1:=by omega
   simp[bj];exact bN
  ·refine dx (fun _=>⟨d,aQ,by omega⟩) _ fun e=>?_;by_cases hK:k<l.length
   ·obtain⟨c,au⟩:∃c,l[k]? =some c:=⟨_,bZ hK⟩;have hy:=lE c au;rw[au]at e;by_cases q:c=n
    ·have gx:(c==n)=true:=by simp[q]
     rw[if_pos (by rw[q])]at e;rw[e];simp[fs,iM,ak,aE,ad,l7,hK];((with_reducible repeat' first|refine aj ?_|simp[fs,iM,ak,aE,ad,l7,hK,hy,gx]|((first|apply bP|apply bR|apply bQ)<;>intro h<;>try simp at h))<;>(try exact cm));all_goals simp[bt,yD,aX,aY,aW]
    ·have gx:(c==n)=false:=by simp[q]
     rw[if_neg (by simp[q])]at e;rw[e];simp[fs,iM,ak,aE,ad,l7,hK];(with_reducible repeat' first|refine aj ?_|simp[fs,iM,ak,aE,ad,l7,hK,hy,gx]);all_goals simp[bt,yD,aX,aY,aW]
     all_goals exact F4 l n k
   ·rw[qt (by omega)]at e;simp only[reduceCtorEq,if_false]at e;rw[e];simp[fs,iM,ak,aE,ad,l7,hK];(with_reducible repeat' first|refine aj ?_|simp[fs,iM,ak,aE,ad,l7,hK]);all_goals simp[bt,yD,aX,aY,aW]
    all_goals exact F4 l n k
def h4:T→List Int→List Int
 | .var n,l=>mE n l
 | .pair a b,l=>h4 b (h4 a l)
 |_,l=>l
theorem Ny:∀(t:T) {l:List Int},sy l→sy (h4 t l)
 | .var _,_,h=>Tx h
 | .pair a b,_,h=>Ny b (Ny a h)
 | .nil,_,h=>h
 | .sym _,_,h=>h
 | .num _,_,h=>h
theorem Da{m:Int}:∀(t:T) {l:List Int},m∈h4 t l↔t.occ m=true∨m∈l
 | .var n,l=>by simp only[h4,Lo,T.occ,dQ];constructor<;>rintro(h|h)<;>first|exact .inr h|exact .inl h.symm
 | .pair a b,l=>by
  simp only[h4,Da b,Da a,T.occ,lX];constructor
  ·rintro(h|h|h)
   ·exact .inl (.inr h)
   ·exact .inl (.inl h)
   ·exact .inr h
  ·rintro((h|h)|h)
   ·exact .inr (.inl h)
   ·exact .inl h
   ·exact .inr (.inr h)
 | .nil,l=>by simp[h4,T.occ]
 | .sym _,l=>by simp[h4,T.occ]
 | .num _,l=>by simp[h4,T.occ]
theorem Bn:∀(t:T) (l:List Int),(h4 t l).length≤l.length+t.size
 | .var n,l=>by have:=Tz n l;simp only[h4,T.size];omega
 | .pair a b,l=>by have J:=Bn a l;have U:=Bn b (h4 a l);simp only[h4,T.size];omega
 | .nil,l=>by simp[h4]
 | .sym _,l=>by simp[h4]
 | .num _,l=>by simp[h4]
theorem D5:∀(t:T) (l:List Int),l.length+t.size≤1000000→sy l→bH ao 58 [t.e,.slice 1 .no (dA l)] (.slice 1 .no (dA (h4 t l)))
 | .var n,l,aw,bz=>by
  simp only[T.size]at aw;have key:=ane l n (by omega) bz;refine bh eC BT Dq fun aO=>?_;unfold zj;simp;(with_reducible repeat' first|refine aj ?_|refine aC key ?_|refine aD key ?_|simp);all_goals simp[bt,AX,aX,aY,aW]
  all_goals simp[h4,yQ]
 | .pair a b,l,aw,bz=>by
  simp only[T.size]at aw;have K4:=Bn a l;have aU:=D5 a l (by omega) bz;have bC:=D5 b (h4 a l) (by omega) (Ny a bz);refine bh eC BT Dq fun aO=>?_;unfold zj;simp;refine dw [15,16] (fun i (_:Unit)=>[(1,.slice 1 .no (dA (if i=0 then l else if i=1 then h4 a l else h4 b (h4 a l)))),(17,.int .i64 i)]) 2 (fun _ _=>True) () bN trivial (fun _ _ _=>?_) (fun i _ hi _ _=>?_)
  ·simp;(with_reducible repeat' first|refine aj ?_|simp);simp[bt,AX,aX,aY,aW];simp[h4,yQ]
  ·rcases(by omega:i=0∨i=1)with rfl|rfl
   ·simp;((with_reducible repeat' first|refine aj ?_|refine aC aU ?_|refine aD aU ?_|simp|((first|apply bP|apply bR|apply bQ)<;>intro h<;>try simp at h))<;>(try exact cm));exact bK.rng () hi trivial bN
   ·simp;((with_reducible repeat' first|refine aj ?_|refine aC bC ?_|refine aD bC ?_|simp|((first|apply bP|apply bR|apply bQ)<;>intro h<;>try simp at h))<;>(try exact cm));exact bK.rng () hi trivial bN
 | .nil,l,aw,bz=>by refine bh eC BT Dq fun aO=>?_;unfold zj;simp;refine dw [15,16] (fun i (_:Unit)=>[(1,.slice 1 .no (dA l)),(17,.int .i64 i)]) 0 (fun _ _=>True) () bN trivial (fun _ _ _=>?_) (fun i _ hi _ _=>by omega);simp;((with_reducible repeat' first|refine aj ?_|simp|((first|apply bP|apply bR|apply bQ)<;>intro h<;>try simp at h))<;>(try exact cm));simp[bt,AX,aX,aY,aW];simp[h4,yQ]
 | .sym _,l,aw,bz=>by refine bh eC BT Dq fun aO=>?_;unfold zj;simp;refine dw [15,16] (fun i (_:Unit)=>[(1,.slice 1 .no (dA l)),(17,.int .i64 i)]) 0 (fun _ _=>True) () bN trivial (fun _ _ _=>?_) (fun i _ hi _ _=>by omega);simp;(with_reducible repeat' first|refine aj ?_|simp);simp[bt,AX,aX,aY,aW];simp[h4,yQ]
 | .num _,l,aw,bz=>by refine bh eC BT Dq fun aO=>?_;unfold zj;simp;refine dw [15,16] (fun i (_:Unit)=>[(1,.slice 1 .no (dA l)),(17,.int .i64 i)]) 0 (fun _ _=>True) () bN trivial (fun _ _ _=>?_) (fun i _ hi _ _=>by omega);simp;(with_reducible repeat' first|refine aj ?_|simp);simp[bt,AX,aX,aY,aW];simp[h4,yQ]
def agH(s:List dE)(a b:T)(i:Nat)(_:Unit):Prop:=(1≤i→a.has s=false)∧(2≤i→b.has s=false)
theorem HQ(s:List dE):∀t:T,bH ao 210 [t.e,.str s] (.bool (t.has s))
 | .pair a b=>by
  have dX:=HQ s a;have dY:=HQ s b;refine bh mh BU Dr fun aO=>?_;unfold zk;simp;refine dw [1,2,8,9] (fun i (_:Unit)=>[(10,.int .i64 i)]) 2 (agH s a b) () bN ⟨fun h=>by omega,fun h=>by omega⟩ (fun _ ae _=>?_) (fun i _ hi ae _=>?_)
  ·simp;(with_reducible repeat' first|refine aj ?_|simp);simp[bt,wO,aX,aY,aW];simp[T.has,ae.1,ae.2]
  ·rcases(by omega:i=0∨i=1)with rfl|rfl
   ·cases bz:a.has s
    ·rw[bz]at dX;simp;((with_reducible repeat' first|refine aj ?_|refine aC dX ?_|refine aD dX ?_|simp|((first|apply bP|apply bR|apply bQ)<;>intro h<;>try simp at h))<;>(try exact cm));exact bK.rng () hi ⟨fun _=>bz,fun h=>by omega⟩ bN
    ·rw[bz]at dX;simp;((with_reducible repeat' first|refine aj ?_|refine aC dX ?_|refine aD dX ?_|simp|((first|apply bP|apply bR|apply bQ)<;>intro h<;>try simp at h))<;>(try exact cm));simp[bt,wO,aX,aY,aW];simp[T.has,bz]
   ·cases ad:b.has s
    ·rw[ad]at dY;simp;((with_reducible repeat' first|refine aj ?_|refine aC dY ?_|refine aD dY ?_|simp|((first|apply bP|apply bR|apply bQ)<;>intro h<;>try simp at h))<;>(try exact cm));exact bK.rng () hi ⟨fun _=>ae.1 (by omega),fun _=>ad⟩ bN
    ·rw[ad]at dY;simp;((with_reducible repeat' first|refine aj ?_|refine aC dY ?_|refine aD dY ?_|simp|((first|apply bP|apply bR|apply bQ)<;>intro h<;>try simp at h))<;>(try exact cm));simp[bt,wO,aX,aY,aW];simp[T.has,ad]
 | .sym n=>by
  refine bh mh BU Dr fun aO=>?_;unfold zk;simp;refine dw [1,2,8,9] (fun i (_:Unit)=>[(10,.int .i64 i)]) 0 (fun i _=>True) () bN trivial (fun _ ae _=>?_) (fun i _ hi ae _=>by omega);simp;(with_reducible repeat' first|refine aj ?_|simp);all_goals simp[bt,wO,aX,aY,aW]
  all_goals simp[T.has]
 | .num n=>by
  refine bh mh BU Dr fun aO=>?_;unfold zk;simp;refine dw [1,2,8,9] (fun i (_:Unit)=>[(10,.int .i64 i)]) 0 (fun i _=>True) () bN trivial (fun _ ae _=>?_) (fun i _ hi ae _=>by omega);simp;(with_reducible repeat' first|refine aj ?_|simp);all_goals simp[bt,wO,aX,aY,aW]
  all_goals simp[T.has]
 | .var n=>by
  refine bh mh BU Dr fun aO=>?_;unfold zk;simp;refine dw [1,2,8,9] (fun i (_:Unit)=>[(10,.int .i64 i)]) 0 (fun i _=>True) () bN trivial (fun _ ae _=>?_) (fun i _ hi ae _=>by omega);simp;(with_reducible repeat' first|refine aj ?_|simp);all_goals simp[bt,wO,aX,aY,aW]
  all_goals simp[T.has]
 | .nil=>by
  refine bh mh BU Dr fun aO=>?_;unfold zk;simp;refine dw [1,2,8,9] (fun i (_:Unit)=>[(10,.int .i64 i)]) 0 (fun i _=>True) () bN trivial (fun _ ae _=>?_) (fun i _ hi ae _=>by omega);simp;(with_reducible repeat' first|refine aj ?_|simp);all_goals simp[bt,wO,aX,aY,aW]
  all_goals simp[T.has]
def oQ(l:List bM)(o:aZ (List bM)):ah:= .tuple [.slice 2 .no ((o.getD l).map bM.e),.bool o.isSome]
@[simp] theorem aqW(S:aI→Prop)(l:List bM)(o:aZ (List bM)):aB S (oQ l o)=True:=by simp[oQ]
def wo(l:List bM)(n:Int)(i:Nat):Prop:=i≤l.length∧∀j y,j<i→l[j]? =some y→y.v<n
theorem wo.none{l:List bM}{n:Int}{i:Nat}(h:wo l n i)(bz:l.Pairwise fun x y=>x.v<y.v)(au:∀c,l[i]? =some c→n<c.v):ll l n=none:=yg.2 fun x af=>by
 obtain⟨j,dU,rfl⟩:=nG af;have e:=bZ dU;rcases Nat.lt_or_ge j i with J|J
 ·have:=h.2 j _ J e;omega
 ·have zO:i<l.length:=by omega
  have aE:=bZ zO;have ar:=au _ aE;rcases Nat.lt_or_ge i j with U|U
  ·have:=o7.1 bz i j zO dU U;omega
  ·obtain rfl:i=j:=by omega
   omega
theorem wo.ins{l:List bM}{n k:Int}{i:Nat}(h:wo l n i)(au:∀c,l[i]? =some c→n<c.v):lN ⟨n,k⟩ l=l.take i++⟨n,k⟩::l.drop i:=TA ⟨n,k⟩ l i (fun j y J U=>h.2 j y J U) (fun y aM=>by have:=au y aM;simp;omega) h.1
theorem wo.step{l:List bM}{n:Int}{i:Nat}{b:bM}(h:wo l n i)(ad:l[i]? =some b)(ay:b.v<n):wo l n (i+1):=⟨(e1.1 ad).1,fun j y J U=>by
 rcases(by omega:j<i∨j=i)with ar|rfl
 ·exact h.2 j y ar U
 ·rw[ad]at U;cases U;exact ay⟩
theorem ant(l:List bM)(aw:l.length≤1000000)(bz:l.Pairwise fun x y=>x.v<y.v)(n k:Int):bH ao 151 [.slice 2 .no (l.map bM.e),(T.var n).e,.int .i64 k] (oQ l (ko l (.var n) k)):=by
 generalize di:ko l (.var n) k=O;have dW:(match ll l n with|some bS=>if bS=k then some l else none|none=>some (lN ⟨n,k⟩ l))=O:=by rw[←di];rfl
 clear di;refine bh mh BV Ds fun aO=>?_;unfold zl;simp;refine vF [0,2,4] (fun(i:Nat)=>[(8,.int .i64 i)]) (fun i=>l.length-i) (wo l n) 0 bN ⟨by omega,fun j y h=>by omega⟩ (fun i ae _=>?_);have ab:=ae.1;by_cases hi:i<l.length
 ·obtain⟨b,ad,cA⟩:=dT hi;rcases Int.lt_trichotomy b.v n with h|h|h
  ·have ag:=ae.step ad h;clear dW ae ad bz;simp[hi,cA,h];((with_reducible repeat' first|refine aj ?_|simp[hi,cA,h]|((first|apply bP|apply bR|apply bQ)<;>intro h<;>try simp at h))<;>(try exact cm));exact bK.whl (i+1) (by omega) ag bN
  ·have a7:ll l n=some b.k:=by rw[←h];exact Gf bz (dK ad)
   have J:¬b.v<n:=by omega
   have U:(b.v==n)=true:=by simp[h]
   rw[a7]at dW;simp only at dW;subst dW;clear ae ad bz a7;simp[hi,cA,J,U];(with_reducible repeat' first|refine aj ?_|simp[hi,cA,J,U]);all_goals simp[bt,wP,aX,aY,aW]
   all_goals(by_cases e:b.k=k<;>simp[oQ,e])
  ·have J:¬b.v<n:=by omega
   have U:(b.v==n)=false:=by simp;omega
   have au:∀c,l[i]? =some c→n<c.v:=fun c au=>by rw[ad]at au;cases au;exact h
   rw[ae.none bz au]at dW;simp only[ae.ins au]at dW;subst dW;clear ae ad bz au;simp[hi,cA,J,U];(with_reducible repeat' first|refine aj ?_|simp[hi,cA,J,U]);all_goals simp[bt,wP,aX,aY,aW]
   all_goals simp[oQ]
   rw[hG (by simp:(l.map bM.e).length≤l.length),←List.map_take,←List.map_drop,←gO,←qu];exact M1 _
 ·have au:∀c,l[i]? =some c→n<c.v:=fun c au=>by rw[qt (by omega)]at au;cases au
  rw[ae.none bz au]at dW;simp only[ae.ins au]at dW;have zO:i=l.length:=by omega
  clear ae bz au;subst dW;subst zO;simp;(with_reducible repeat' first|refine aj ?_|simp);all_goals simp[bt,wP,aX,aY,aW]
  all_goals simp[oQ]
  rw[hG (by simp:(l.map bM.e).length≤l.length),show [(⟨n,k⟩:bM).e]=[(⟨n,k⟩:bM)].map bM.e from rfl,←qu];exact M1 _
theorem X0(l:List bM)(aw:l.length≤1000000)(bz:l.Pairwise fun x y=>x.v<y.v)(t:T)(k:Int):bH ao 151 [.slice 2 .no (l.map bM.e),t.e,.int .i64 k] (oQ l (ko l t k)):=by
 cases t with
 |var n=>exact ant l aw bz n k
 |nil=>
  refine bh mh BV Ds fun aO=>?_;unfold zl;simp;(with_reducible repeat' first|refine aj ?_|simp);all_goals simp[bt,wP,aX,aY,aW]
  all_goals(by_cases e:0=k<;>simp[oQ,ko,e])
 |sym n=>
  refine bh mh BV Ds fun aO=>?_;unfold zl;simp;(with_reducible repeat' first|refine aj ?_|simp);all_goals simp[bt,wP,aX,aY,aW]
  all_goals(by_cases e:2=k<;>simp[oQ,ko,e])
 |num n=>
  refine bh mh BV Ds fun aO=>?_;unfold zl;simp;(with_reducible repeat' first|refine aj ?_|simp);all_goals simp[bt,wP,aX,aY,aW]
  all_goals(by_cases e:3=k<;>simp[oQ,ko,e])
 |pair a b=>
  refine bh mh BV Ds fun aO=>?_;unfold zl;simp;(with_reducible repeat' first|refine aj ?_|simp);all_goals simp[bt,wP,aX,aY,aW]
  all_goals(by_cases e:4=k<;>simp[oQ,ko,e])
theorem Yh(s:List al)(v:Int):hk s (.var v)=bV s v:=rfl
theorem Ns{s:List al}(ag:eG s){l:List bM}(aw:fO l):bH ao 149 [.slice 5 .no (s.map al.e),.slice 2 .no (l.map bM.e)] (fY (gh s l [])):=by
 have xX:=td aw;refine bh mh adp ajX fun aO=>?_;unfold QF;simp;refine dw [0,11,12] (fun i (a:List bM)=>[(6,.slice 2 .no (a.map bM.e)),(13,.int .i64 i)]) l.length (TF s l) [] bN ⟨⟨by simp,by simp⟩,rfl⟩ (fun a ae _=>?_) (fun i a hi ae _=>?_)
 ·obtain⟨_,ae⟩:=ae;rw[sv]at ae;simp only[gh]at ae;rw[←ae];simp;(with_reducible repeat' first|refine aj ?_|simp);simp[bt,Mt,aX,aY,aW];simp[fY]
 ·obtain⟨bz,ae⟩:=ae;obtain⟨b,ad,cA⟩:=dT hi;have oC:=aw.at' b (dK ad);rw[kP hi,cA]at ae;simp only[gh]at ae;have lj:=HP s ag.len (.var b.v);rw[Yh]at lj;have fC:=X0 a (by have:=td bz;omega) bz.asc (bV s b.v) b.k;simp[hi,cA];cases dW:ko a (bV s b.v) b.k with
  |none=>rw[dW]at ae fC;simp only at ae;rw[←ae];simp only[oQ]at fC;(with_reducible repeat' first|refine aj ?_|refine aC (j9 _) ?_|refine aD (j9 _) ?_|refine aC lj ?_|refine aD lj ?_|refine aC fC ?_|refine aD fC ?_|simp[cA,hi]);simp[bt,Mt,aX,aY,aW];simp[fY]
  |some bp=>rw[dW]at ae fC;simp only[oQ]at fC;(with_reducible repeat' first|refine aj ?_|refine aC (j9 _) ?_|refine aD (j9 _) ?_|refine aC lj ?_|refine aD lj ?_|refine aC fC ?_|refine aD fC ?_|simp[cA,hi]);exact bK.rng bp hi ⟨Ic bz (A7 ag oC.1) oC.2 dW,ae⟩ bN
end Go.Proofs.YtahlgcidhnjlbaaGreat
namespace Go.Proofs.YtahlgcidhnjlbaaGreat
open Go Go.Pv
open Classical in
theorem anK(l:List bm):bH ao 79 [.slice 2 .no (l.map bm.e)] (.bool (decide (il l))):=by
 generalize bd:decide (il l)=R;refine bh mh acX ajx fun aO=>?_;unfold Qf;have eX:l.length≤68719476736:=by simp[eu,ed,ep,lim]at aO;omega
 simp;refine dw [0,5,6] (fun i (_:Unit)=>[(7,.int .i64 i)]) l.length (fun i _=> ∀j,j<i→h9 kl kI l j) () bN (fun k ab=>by omega) (fun _ ae _=>?_) (fun i _ hi ae _=>?_)
 ·have:R=true:=by rw[←bd,e2,Gt];exact ae
  rw[this];exact bY
 ·obtain⟨b,ad⟩:∃b,l[i]? =some b:=⟨_,bZ hi⟩;obtain⟨c,au⟩:∃c,l[i-1]? =some c:=⟨_,bZ (by omega)⟩;have cA:∀h,(l[i]'h)=b:=fun h=>by rw[bZ hi]at ad;exact eE ad
  have ct:¬h9 kl kI l i→R=false:=fun h=>by rw[←bd,gI];exact fun cb=>h (Gt.1 cb i hi)
  have dd:h9 kl kI l i→∀j,j<i+1→h9 kl kI l j:=fun h j js=>by
   by_cases e:j=i
   ·rw[e];exact h
   ·exact ae j (by omega)
  have eV:∀p:Prop,(p→eQ)→(h9 kl kI l i→p)→R=false:=fun p J U=>ct fun h=>J (U h);have l4:h9 kl kI l i→kl b:=fun h=>(h b ad).1;have bE:h9 kl kI l i→0<i→hL fe c b=true:=fun h bn=>by simpa[hL,kI]using(h b ad).2 c bn au
  have eY:kl b→(0<i→hL fe c b=true)→h9 kl kI l i:=fun J U b5 fV=>by rw[ad]at fV;cases fV;exact⟨J,fun cu bn hy=>by rw[au]at hy;cases hy;simpa[hL,kI]using U bn⟩
  unfold kl at l4 eY;by_cases g4:0<i
  ·cases g5:hL fe c b
   ·rw[eV _ (fun h=>by rw[h]at g5;cases g5) (fun h=>bE h g4)];simp[hi,cA,au];(with_reducible repeat' first|refine aj ?_|refine aC (lW _ _) ?_|refine aD (lW _ _) ?_|simp[cA,au,hi,g4,g5]);all_goals simp[bt,AV,aX,aY,aW]
   ·by_cases g1:0≤b.v∧b.v≤100000;rotate_left
    ·rw[eV _ (fun h=>g1 h) (fun h=>(l4 h).1)];have ic:decide (0≤b.v∧b.v≤100000)=false:=by simp only[gI];exact g1
     simp[hi,cA,au];(with_reducible repeat' first|refine aj ?_|refine aC (lW _ _) ?_|refine aD (lW _ _) ?_|refine aC (dq _ _ _) ?_|refine aD (dq _ _ _) ?_|simp[cA,au,hi,g4,g5,ic,g1]);all_goals simp[bt,AV,aX,aY,aW]
    have ic:decide (0≤b.v∧b.v≤100000)=true:=by simp only[e2];exact g1
    cases g3:jJ b.s
    ·rw[eV _ (fun h=>by rw[h]at g3;cases g3) (fun h=>(l4 h).2)];have ch:=gV b.s;rw[g3]at ch;simp[hi,cA,au];(with_reducible repeat' first|refine aj ?_|refine aC (lW _ _) ?_|refine aD (lW _ _) ?_|refine aC (dq _ _ _) ?_|refine aD (dq _ _ _) ?_|refine aC ch ?_|refine aD ch ?_|simp[cA,au,hi,g4,g5,ic,g1]);all_goals simp[bt,AV,aX,aY,aW]
    have ch:=gV b.s;rw[g3]at ch;have dx:=dd (eY ⟨g1,g3⟩ fun _=>g5);simp[hi,cA,au];(with_reducible repeat' first|refine aj ?_|refine aC (lW _ _) ?_|refine aD (lW _ _) ?_|refine aC (dq _ _ _) ?_|refine aD (dq _ _ _) ?_|refine aC ch ?_|refine aD ch ?_|simp[cA,au,hi,g4,g5,ic,g1]);all_goals exact bK.rng () hi dx bN
  ·obtain rfl:i=0:=by omega
   by_cases g1:0≤b.v∧b.v≤100000;rotate_left
   ·rw[eV _ (fun h=>g1 h) (fun h=>(l4 h).1)];have ic:decide (0≤b.v∧b.v≤100000)=false:=by simp only[gI];exact g1
    simp[hi,cA,au];(with_reducible repeat' first|refine aj ?_|refine aC (lW _ _) ?_|refine aD (lW _ _) ?_|refine aC (dq _ _ _) ?_|refine aD (dq _ _ _) ?_|simp[cA,au,hi,g4,ic,g1]);all_goals simp[bt,AV,aX,aY,aW]
   have ic:decide (0≤b.v∧b.v≤100000)=true:=by simp only[e2];exact g1
   cases g3:jJ b.s
   ·rw[eV _ (fun h=>by rw[h]at g3;cases g3) (fun h=>(l4 h).2)];have ch:=gV b.s;rw[g3]at ch;simp[hi,cA,au];(with_reducible repeat' first|refine aj ?_|refine aC (lW _ _) ?_|refine aD (lW _ _) ?_|refine aC (dq _ _ _) ?_|refine aD (dq _ _ _) ?_|refine aC ch ?_|refine aD ch ?_|simp[cA,au,hi,g4,ic,g1]);all_goals simp[bt,AV,aX,aY,aW]
   have ch:=gV b.s;rw[g3]at ch;have dx:=dd (eY ⟨g1,g3⟩ fun h=>absurd h g4);simp[hi,cA,au];(with_reducible repeat' first|refine aj ?_|refine aC (lW _ _) ?_|refine aD (lW _ _) ?_|refine aC (dq _ _ _) ?_|refine aD (dq _ _ _) ?_|refine aC ch ?_|refine aD ch ?_|simp[cA,au,hi,g4,ic,g1]);all_goals exact bK.rng () hi dx bN
def pw(s:List dE)(aV:List Int)(l:List bm):List bm:=aV.foldl (fun a v=>kk fe ⟨v,s⟩ a) l
theorem Jz(s:List dE):∀(aV:List Int) {l:List bm},hN fe l→hN fe (pw s aV l)
 |[],_,h=>h
 |v::aV,_,h=>Jz s aV (KK lR h)
theorem UJ(s:List dE){x:bm}:∀(aV:List Int) {l:List bm},x∈pw s aV l↔x∈l∨(x.s=s∧x.v∈aV)
 |[],l=>by simp[pw]
 |v::aV,l=>by
  have:=UJ s (x:=x) aV (l:=kk fe ⟨v,s⟩ l);rw[show pw s (v::aV) l=pw s aV (kk fe ⟨v,s⟩ l)from rfl,this,Gw lR,fR];constructor
  ·rintro((rfl|h)|⟨J,U⟩)
   ·exact .inr ⟨rfl,.inl rfl⟩
   ·exact .inl h
   ·exact .inr ⟨J,.inr U⟩
  ·rintro(h|⟨J,U|U⟩)
   ·exact .inl (.inr h)
   ·refine .inl (.inl ?_);cases x;simp_all
   ·exact .inr ⟨J,U⟩
theorem RN(s:List dE):∀(aV:List Int) (l:List bm),(pw s aV l).length≤l.length+aV.length
 |[],l=>by simp[pw]
 |v::aV,l=>by have J:=RN s aV (kk fe ⟨v,s⟩ l);have U:=KM (c:=fe) (⟨v,s⟩:bm) l;rw[show pw s (v::aV) l=pw s aV (kk fe ⟨v,s⟩ l)from rfl];simp only[o6];omega
theorem adB{t:T}{s:List dE}(cw:t.has s=false){l:List bm}(bz:hN fe l):l0 l t s=some (pw s (h4 t []) l):=Ie cw (Jz s _ bz) fun x=>by rw[UJ,Da];simp
end Go.Proofs.YtahlgcidhnjlbaaGreat
namespace Go.Proofs.YtahlgcidhnjlbaaGreat
open Go Go.Pv
def CV(l:List bm)(aV:List Int)(s:List dE)(i:Nat)(a:List bm):Prop:=a=pw s (aV.take i) l
def Ag(a:List bm)(m:bm)(k:Nat):Prop:=k≤a.length∧∀j y,j<k→a[j]? =some y→fe y m<0
theorem Ag.step{a:List bm}{m:bm}{k:Nat}{b:bm}(h:Ag a m k)(ad:a[k]? =some b)(ay:fe b m<0):Ag a m (k+1):=⟨(e1.1 ad).1,fun j y J U=>by
 rcases(by omega:j<k∨j=k)with ar|rfl
 ·exact h.2 j y ar U
 ·rw[ad]at U;cases U;exact ay⟩
theorem Ag.fin{a:List bm}{m:bm}{k:Nat}(h:Ag a m k)(au:∀y,a[k]? =some y→0≤fe y m):kk fe m a=if(match a[k]? with|some y=>decide (fe y m=0)|none=>false)=true then a else a.take k++m::a.drop k:=(KL lR m a k (fun j y J U=>h.2 j y J U) au h.1).trans (by cases a[k]?<;>rfl)
theorem UU(a:List bm)(k:Nat)(m:bm):lY k (a.map bm.e)++m.e::nF k (a.map bm.e)=(a.take k++m::a.drop k).map bm.e:=by simp
theorem Az(a:List bm)(k:Nat)(m:bm):cR (lY k (a.map bm.e)++m.e::nF k (a.map bm.e))=lY k (a.map bm.e)++m.e::nF k (a.map bm.e):=by rw[UU,M2]
theorem Ay(S:aI→Prop)(a:List bm)(k:Nat)(m:bm):aH S (lY k (a.map bm.e)++m.e::nF k (a.map bm.e))=True:=by rw[UU,Ud]
theorem UT(a:List bm)(m:bm):a.map bm.e++[m.e]=(a++[m]).map bm.e:=by simp
theorem Ax(a:List bm)(m:bm):cR (a.map bm.e++[m.e])=a.map bm.e++[m.e]:=by rw[UT,M2]
theorem Aw(S:aI→Prop)(a:List bm)(m:bm):aH S (a.map bm.e++[m.e])=True:=by rw[UT,Ud]
theorem anu(l:List bm)(aw:l.length≤68719470000)(t:T)(aK:t.size≤5000)(s:List dE)(bz:hN fe l):bH ao 181 [.slice 2 .no (l.map bm.e),t.e,.str s] (jj (l0 l t s)):=by
 have kE:=HQ s t;cases cw:t.has s;rotate_left
 ·have bn:l0 l t s=none:=by simp[l0,cw]
  rw[bn];rw[cw]at kE;refine bh mh RE Vl fun aO=>?_;unfold IT;simp;(with_reducible repeat' first|refine aj ?_|refine aC kE ?_|refine aD kE ?_|simp);all_goals simp[bt,Mu,aX,aY,aW]
  all_goals simp[jj]
 ·rw[cw]at kE;have dW:=adB cw bz;have ju:=Bn t [];have gw:=D5 t [] (by simp;omega) (by simp[sy]);have zD:dA []=[]:=rfl;rw[zD]at gw;rw[dW];clear dW cw;generalize h4 t []=aV at gw ju⊢;have kX:aV.length≤5000:=by simp at ju;omega
  generalize gK:pw s aV l=F;refine bh mh RE Vl fun aO=>?_;unfold IT;simp;(with_reducible repeat' first|refine aj ?_|refine aC kE ?_|refine aD kE ?_|refine aC gw ?_|refine aD gw ?_|simp[eU]);refine dw [2,17,18] (fun i (a:List bm)=>[(0,.slice 2 .no (a.map bm.e)),(19,.int .i64 i)]) aV.length (CV l aV s) l ⟨by simp[fresh,aH,aB,b9,inObs,Pv.look,eU],dZ (by simp[fresh,aH,aB,b9,inObs,Pv.look,eU]),ea (by simp[fresh,aH,aB,dN,inObs,Pv.look,eU]),by simp⟩ (by simp[CV,pw]) (fun a ae _=>?_) (fun i a hi ae _=>?_)
  ·rw[CV,mj,gK]at ae;subst ae;simp[eU];(with_reducible repeat' first|refine aj ?_|simp[eU]);all_goals simp[bt,Mu,aX,aY,aW]
   all_goals simp[jj]
  ·obtain⟨v,aF⟩:∃v,aV[i]? =some v:=⟨_,bZ hi⟩;have jX:∀h,((dA aV)[i]'h)= .int .i64 v:=fun cb=>by have:=CR aV i;rw[aF,bZ cb]at this;exact eE this
   have rI:hN fe a:=by rw[ae];exact Jz s _ bz
   have qN:a.length≤68719475000:=by have:=RN s (aV.take i) l;rw[ae];simp at this⊢;omega
   have fq:CV l aV s (i+1) (kk fe ⟨v,s⟩ a):=by rw[CV,List.take_succ,aF,ae];simp[pw]
   generalize hm:(⟨v,s⟩:bm)=m at fq;have aft:m.v=v:=by rw[←hm]
   have uF:m.s=s:=by rw[←hm]
   subst aft;subst uF;clear ae gK;simp[hi,jX,eU];(with_reducible repeat' first|refine aj ?_|simp[hi,jX,eU]);refine vF [0,2,10,17,18,19] (fun(k:Nat)=>[(11,.int .i64 k)]) (fun k=>a.length-k) (Ag a m) 0 ⟨by simp[fresh,aH,aB,b9,inObs,Pv.look,eU],dZ (by simp[fresh,aH,aB,b9,inObs,Pv.look,eU]),ea (by simp[fresh,aH,aB,dN,inObs,Pv.look,eU]),by simp⟩ ⟨by omega,fun j y h=>by omega⟩ (fun k ae _=>?_);have ab:=ae.1;by_cases hp:k<a.length
   ·obtain⟨b,ad,cA⟩:=dT hp;cases bE:hL fe b m
    ·have uz:0≤fe b m:=by simpa[hL]using bE
     have dx:=ae.fin (fun y aM=>by rw[ad]at aM;cases aM;exact uz);rw[ad]at dx;cases FA:hL fe m b
     ·have hle:0≤fe m b:=by simpa[hL]using FA
      have bn:fe b m=0:=by have:=lR.neg b m;omega
      rw[if_pos (by simp[bn])]at dx;rw[dx]at fq;clear ae ad dx qN rI;simp[hp,cA];((with_reducible repeat' first|refine aj ?_|refine aC (lW _ _) ?_|refine aD (lW _ _) ?_|simp[hp,cA,bE,FA]|((first|apply bP|apply bR|apply bQ)<;>intro h<;>try simp at h))<;>(try exact cm));all_goals exact bK.rng a hi fq ⟨by simp[fresh,aH,aB,b9,inObs,Pv.look,eU],dZ (by simp[fresh,aH,aB,b9,inObs,Pv.look,eU]),ea (by simp[fresh,aH,aB,dN,inObs,Pv.look,eU]),by simp⟩
     ·have hle:fe m b<0:=by simpa[hL]using FA
      have bn:¬fe b m=0:=by have:=lR.neg b m;omega
      rw[if_neg (by simp[bn])]at dx;rw[dx]at fq;clear ae ad dx rI;simp[hp,cA];((with_reducible repeat' first|refine aj ?_|refine aC (lW _ _) ?_|refine aD (lW _ _) ?_|simp[hp,cA,bE,FA]|((first|apply bP|apply bR|apply bQ)<;>intro h<;>try simp at h))<;>(try exact cm));all_goals first|(refine⟨by unfold lim;omega,?_⟩)|skip
      all_goals(with_reducible repeat' first|refine aj ?_|simp)
      all_goals first|(refine⟨by unfold lim;omega,?_⟩)|skip
      all_goals((with_reducible repeat' first|refine aj ?_|simp|((first|apply bP|apply bR|apply bQ)<;>intro h<;>try simp at h))<;>(try exact cm))
      all_goals exact bK.rng _ hi fq ⟨by simp[fresh,aH,aB,b9,inObs,Pv.look,eU,hG,Az,Ay,Ax,Aw],dZ (by simp[fresh,aH,aB,b9,inObs,Pv.look,eU,hG,Az,Ay,Ax,Aw]),ea (by simp[fresh,aH,aB,dN,inObs,Pv.look,eU,hG,Az,Ay,Ax,Aw]),by simp⟩
    ·have vX:fe b m<0:=by simpa[hL]using bE
     have ag:=ae.step ad vX;clear ae ad rI fq;simp[hp,cA];((with_reducible repeat' first|refine aj ?_|refine aC (lW _ _) ?_|refine aD (lW _ _) ?_|simp[hp,cA,bE]|((first|apply bP|apply bR|apply bQ)<;>intro h<;>try simp at h))<;>(try exact cm));all_goals exact bK.whl (k+1) (by omega) ag ⟨by simp[fresh,aH,aB,b9,inObs,Pv.look,eU],dZ (by simp[fresh,aH,aB,b9,inObs,Pv.look,eU]),ea (by simp[fresh,aH,aB,dN,inObs,Pv.look,eU]),by simp⟩
   ·have dx:=ae.fin (fun y aM=>by rw[qt (by omega)]at aM;cases aM);rw[qt (by omega)]at dx;simp only[gX,if_false]at dx;rw[dx]at fq;have hK:k=a.length:=by omega
    clear ae dx rI;subst hK;simp;(with_reducible repeat' first|refine aj ?_|simp);all_goals first|(refine⟨by unfold lim;omega,?_⟩)|skip
    all_goals(with_reducible repeat' first|refine aj ?_|simp)
    all_goals first|(refine⟨by unfold lim;omega,?_⟩)|skip
    all_goals(with_reducible repeat' first|refine aj ?_|simp)
    all_goals exact bK.rng _ hi fq ⟨by simp[fresh,aH,aB,b9,inObs,Pv.look,eU,hG,Az,Ay,Ax,Aw],dZ (by simp[fresh,aH,aB,b9,inObs,Pv.look,eU,hG,Az,Ay,Ax,Aw]),ea (by simp[fresh,aH,aB,dN,inObs,Pv.look,eU,hG,Az,Ay,Ax,Aw]),by simp⟩
theorem Nt{s:List al}(ag:eG s){l:List bm}(aw:il l){G:List (List dE)}(nc:G.length≤687000)(a7:n5 G l):bH ao 150 [.slice 5 .no (s.map al.e),.slice 2 .no (l.map bm.e)] (jj (gi s l [])):=by
 have hlen:∀{a:List bm},il a→n5 G a→a.length≤68719470000:=fun J U=>by have:=C7 J U;omega
 have xX:=hlen aw a7;refine bh mh adq ajY fun aO=>?_;unfold QG;simp;refine dw [0,11,12] (fun i (a:List bm)=>[(6,.slice 2 .no (a.map bm.e)),(13,.int .i64 i)]) l.length (TG s G l) [] bN ⟨⟨by simp,by simp[hN]⟩,fun x af=>by simp at af,rfl⟩ (fun a ae _=>?_) (fun i a hi ae _=>?_)
 ·obtain⟨_,_,ae⟩:=ae;rw[sv]at ae;simp only[gi]at ae;rw[←ae];simp;(with_reducible repeat' first|refine aj ?_|simp);simp[bt,Mv,aX,aY,aW];simp[jj]
 ·obtain⟨bz,CJ,ae⟩:=ae;obtain⟨b,ad,cA⟩:=dT hi;have oC:=aw.at' b (dK ad);have JY:=a7 b (dK ad);rw[kP hi,cA]at ae;simp only[gi]at ae;have lj:=HP s ag.len (.var b.v);rw[Yh]at lj;have fC:=anu a (hlen bz CJ) (bV s b.v) (DR ag b.v) b.s bz.asc;simp[hi,cA];cases dW:l0 a (bV s b.v) b.s with
  |none=>rw[dW]at ae fC;simp only at ae;rw[←ae];simp only[jj]at fC;(with_reducible repeat' first|refine aj ?_|refine aC (j9 _) ?_|refine aD (j9 _) ?_|refine aC lj ?_|refine aD lj ?_|refine aC fC ?_|refine aD fC ?_|simp[cA,hi]);simp[bt,Mv,aX,aY,aW];simp[jj]
  |some bp=>rw[dW]at ae fC;simp only[jj]at fC;(with_reducible repeat' first|refine aj ?_|refine aC (j9 _) ?_|refine aD (j9 _) ?_|refine aC lj ?_|refine aD lj ?_|refine aC fC ?_|refine aD fC ?_|simp[cA,hi]);exact bK.rng bp hi ⟨If bz (A7 ag oC.1) oC.2 dW,Ig CJ JY dW,ae⟩ bN
theorem amj{s:List al}(ax:kK s)(bz:hH s)(aL:gp s):gG (s.map al.b)=s.all (mo s):=by
 rw[qq,gn,q9,←W3 bz];constructor
 ·rintro⟨ai,J,U,ar,ba⟩;rw[rq J];exact ar
 ·intro ar;exact⟨s,rfl,ax,ar,aL⟩
theorem Zd{s:List al}(bz:hH s)(b:al):mo s b=true↔(∀v∈h4 b.t [],df s v=none)∧(b.t.kind==1&&decide (b.v≤b.t.int))=false:=by unfold mo;rw[cC,RO bz];simp only[true_and,Bool.not_eq_true',Da,List.not_mem_nil,or_false]
def CU(s:List al)(aV:List Int)(i:Nat)(_:Unit):Prop:= ∀v∈aV.take i,df s v=none
theorem CU.step{s:List al}{aV:List Int}{i:Nat}(h:CU s aV i ()){v:Int}(aF:aV[i]? =some v)(ay:df s v=none):CU s aV (i+1) ():=fun w hw=>by
 rw[List.take_succ,aF]at hw;simp only[kQ,Option.toList_some,List.mem_singleton]at hw;rcases hw with hw|rfl
 ·exact h w hw
 ·exact ay
theorem Nv(l:List cT):bH ao 76 [.slice 5 .no (l.map cT.e)] (.bool (gG l)):=by
 have aF:=XW l;by_cases h:vu l;rotate_left
 ·have bn:gG l=false:=by unfold gG;simp only[gI];rintro⟨s,J,U,ar,ba⟩;exact h (w7.2 ⟨s,J,U,ar.asc,ba⟩)
  rw[bn];refine bh eC RD Vk fun aO=>?_;unfold IS;exact bY
 ·obtain⟨s,rfl,ax,bz,aL⟩:=w7.1 h;have aw:s.length≤1000000:=by have:=aL.1;omega
  rw[amj ax bz aL];rw[r1]at aF⊢;simp only[h,decide_true]at aF;clear h;generalize bd:s.all (mo s)=R;refine bh eC RD Vk fun aO=>?_;unfold IS;simp;(with_reducible repeat' first|refine aj ?_|refine aC aF ?_|refine aD aF ?_|simp);refine dw [0,12,13] (fun i (_:Unit)=>[(14,.int .i64 i)]) s.length (kD (mo s) s) () bN (fun k b ab=>by omega) (fun _ ae _=>?_) (fun i _ hi ae _=>?_)
  ·have:R=true:=by rw[←bd,gn];intro b ad;obtain⟨k,ab,e⟩:=nG ad;exact ae k b ab (by rw[bZ ab,e])
   rw[this];exact bY
  ·obtain⟨b,ad,cA⟩:=dT hi;have eV:¬mo s b=true→R=false:=fun h=>by rw[←bd,Bool.eq_false_iff];intro cb;rw[gn]at cb;exact h (cb b (dK ad))
   have rN:mo s b=true→kD (mo s) s (i+1) ():=fun h=>ae.step ad h;have uB:=Zd bz b;have ee:=aL.2 b (dK ad);have ju:=Bn b.t [];have gw:=D5 b.t [] (by simp;omega) (by simp[sy]);have zD:dA []=[]:=rfl;rw[zD]at gw;generalize h4 b.t []=aV at gw ju uB;have kX:aV.length≤5000:=by simp at ju;omega
   rw[uB]at eV rN;clear uB ae ju ad;simp[hi,cA];cases ab:(b.t.kind==1&&decide (b.v≤b.t.int));rotate_left
   ·rw[eV (by rw[ab];simp)];rw[cC]at ab;have gf:=ab.1;have kh:b.v≤b.t.int:=of_decide_eq_true ab.2;exact bY
   ·rw[ab]at eV rN;simp only[and_true]at eV rN;cases gf:(b.t.kind==1)
    ·clear ab;(with_reducible repeat' first|refine aj ?_|refine aC gw ?_|refine aD gw ?_|simp[cA,hi,eU,gf]);refine dw [0,12,13,14,32,33] (fun j (_:Unit)=>[(34,.int .i64 j)]) aV.length (CU s aV) () ⟨by simp[fresh,aH,aB,b9,inObs,Pv.look,eU],dZ (by simp[fresh,aH,aB,b9,inObs,Pv.look,eU]),ea (by simp[fresh,aH,aB,dN,inObs,Pv.look,eU]),by simp⟩ (fun v aF=>by simp at aF) (fun _ ae _=>?_) (fun j _ dU ae _=>?_)
     ·have a7:=rN (fun v aF=>ae v (by rwa[mj]));simp[eU];(with_reducible repeat' first|refine aj ?_|simp[eU]);exact bK.rng () hi a7 ⟨by simp[fresh,aH,aB,b9,inObs,Pv.look,eU],dZ (by simp[fresh,aH,aB,b9,inObs,Pv.look,eU]),ea (by simp[fresh,aH,aB,dN,inObs,Pv.look,eU]),by simp⟩
     ·obtain⟨v,aF⟩:∃v,aV[j]? =some v:=⟨_,bZ dU⟩;have jX:∀h,((dA aV)[j]'h)= .int .i64 v:=fun cb=>by have:=CR aV j;rw[aF,bZ cb]at this;exact eE this
      have jK:=rf s v aw;cases hb:df s v with
      |none=>have ay:=ae.step aF hb;rw[hb]at jK;simp only[nI,ml]at jK;clear ae rN eV hb;simp[dU,jX,eU];(with_reducible repeat' first|refine aj ?_|refine aC jK ?_|refine aD jK ?_|simp[dU,jX,eU]);exact bK.rng () dU ay ⟨by simp[fresh,aH,aB,b9,inObs,Pv.look,eU],dZ (by simp[fresh,aH,aB,b9,inObs,Pv.look,eU]),ea (by simp[fresh,aH,aB,dN,inObs,Pv.look,eU]),by simp⟩
      |some x=>rw[eV (fun h=>by have:=h v (dK aF);rw[hb]at this;cases this)];rw[hb]at jK;simp only[ka,pT]at jK;clear ae rN eV hb;simp[dU,jX,eU];(with_reducible repeat' first|refine aj ?_|refine aC jK ?_|refine aD jK ?_|simp[dU,jX,eU]);simp[bt,Ml,aX,aY,aW]
    ·have kh:¬b.v≤b.t.int:=by rw[gf]at ab;simpa using ab
     clear ab;(with_reducible repeat' first|refine aj ?_|refine aC gw ?_|refine aD gw ?_|simp[cA,hi,eU,gf,kh]);refine dw [0,12,13,14,32,33] (fun j (_:Unit)=>[(34,.int .i64 j)]) aV.length (CU s aV) () ⟨by simp[fresh,aH,aB,b9,inObs,Pv.look,eU],dZ (by simp[fresh,aH,aB,b9,inObs,Pv.look,eU]),ea (by simp[fresh,aH,aB,dN,inObs,Pv.look,eU]),by simp⟩ (fun v aF=>by simp at aF) (fun _ ae _=>?_) (fun j _ dU ae _=>?_)
     ·have a7:=rN (fun v aF=>ae v (by rwa[mj]));simp[eU];(with_reducible repeat' first|refine aj ?_|simp[eU]);exact bK.rng () hi a7 ⟨by simp[fresh,aH,aB,b9,inObs,Pv.look,eU],dZ (by simp[fresh,aH,aB,b9,inObs,Pv.look,eU]),ea (by simp[fresh,aH,aB,dN,inObs,Pv.look,eU]),by simp⟩
     ·obtain⟨v,aF⟩:∃v,aV[j]? =some v:=⟨_,bZ dU⟩;have jX:∀h,((dA aV)[j]'h)= .int .i64 v:=fun cb=>by have:=CR aV j;rw[aF,bZ cb]at this;exact eE this
      have jK:=rf s v aw;cases hb:df s v with
      |none=>have ay:=ae.step aF hb;rw[hb]at jK;simp only[nI,ml]at jK;clear ae rN eV hb;simp[dU,jX,eU];(with_reducible repeat' first|refine aj ?_|refine aC jK ?_|refine aD jK ?_|simp[dU,jX,eU]);exact bK.rng () dU ay ⟨by simp[fresh,aH,aB,b9,inObs,Pv.look,eU],dZ (by simp[fresh,aH,aB,b9,inObs,Pv.look,eU]),ea (by simp[fresh,aH,aB,dN,inObs,Pv.look,eU]),by simp⟩
      |some x=>rw[eV (fun h=>by have:=h v (dK aF);rw[hb]at this;cases this)];rw[hb]at jK;simp only[ka,pT]at jK;clear ae rN eV hb;simp[dU,jX,eU];(with_reducible repeat' first|refine aj ?_|refine aC jK ?_|refine aD jK ?_|simp[dU,jX,eU]);simp[bt,Ml,aX,aY,aW]
theorem Nw{s:List al}(h:eG s):bH ao 76 [.slice 5 .no (s.map al.e)] (.bool true):=by have:=Nv (s.map al.b);rw[r1,q9.2 ⟨s,rfl,h.ok,h.sol,h.fits⟩]at this;exact this
def QC:C:=(aa [be 2 false] (.seq (aa [I 5 0,b7 6 5,bJ 7 0] (e0 8 7 6 (.seq (.block 1 (aa [cd 9 1 5 7,av 10 1 9,I 4 10] (aa [I 11 4,cJ 12 76 11,cy 13 12] (aT 13 (aa [be 2 false] .ret) .skip)))) (.region [aS 14 .add 7 1,I 7 14])))) (aa [be 2 true] .ret)))
@[simp] def alj:List bA:=[.tmp 2]
def QH:C:=(aa [be 4 false] (.seq (aa [I 7 0,b7 8 7,bJ 9 0] (e0 10 9 8 (.seq (.block 1 (aa [cd 11 5 7 9,a6 12 5 11,dg 6 ik,bT 5 6 12] (aa [aG 13 0 1 6,av 14 1 13,I 15 1,bg 16 .geq 14 15,I 17 16,aq 17 false (gD 18 1 4 6),aq 17 false (a6 19 4 18),bW 17 false 20 1,aq 17 false (b3 21 148 19 20),aq 17 false (cy 22 21),cY 23 17 22] (aT 23 (aa [be 4 false] .ret) .skip)))) (.region [aS 24 .add 9 1,I 9 24])))) (aa [be 4 true] .ret)))
@[simp] def aln:List bA:=[.tmp 4]
def zm:C:=(aa [cM 2 0,be 4 false] (.seq (aa [aG 7 3 1 2,av 8 1 7,b7 9 8,bJ 10 0] (e0 11 10 9 (.seq (.block 1 (aa [cd 12 4 8 10,a6 13 4 12,dg 6 ds,bT 4 6 13] (aa [a6 14 4 6,I 15 1,b3 16 148 14 15,cy 17 16] (aT 17 (aa [be 4 false] .ret) .skip)))) (.region [aS 18 .add 10 1,I 10 18])))) (aa [aG 19 0 1 2,av 20 1 19,aS 21 .neq 20 1,I 22 21,aq 22 false (aG 23 1 1 2),aq 22 false (av 24 1 23),bW 22 false 25 1,aq 22 false (bg 26 .lss 24 25),cY 27 22 26,I 4 27] .ret)))
@[simp] def wQ:List bA:=[.tmp 4]
def Qz:C:=(aa [eN 4 5] (aa [eD 10 5 113 [],I 5 10] (.seq (aa [I 11 1,b7 12 11,bJ 13 0] (e0 14 13 12 (.seq (.block 1 (aa [cd 15 5 11 13,a6 16 5 15,dg 7 ik,bT 5 7 16] (aa [I 18 0,aG 19 0 1 7,av 20 1 19,b3 21 146 18 20,I 17 21,cH 22 0 17,cH 23 1 17,dg 8 ds,bT 4 8 22,I 9 23] (aa [I 24 9,cy 25 24] (aT 25 (.region [I 26 5,a6 27 5 7,eD 28 5 113 [.t 27],hF 29 5 113 26 28,I 5 29]) .skip))))) (.region [aS 30 .add 13 1,I 13 30])))) (aa [I 31 5,I 4 31] .ret))))
@[simp] def ali:List bA:=[.tmp 4]
def QE:C:=(aa [eN 2 1] (aa [eD 11 1 46 [],I 3 11] (.seq (.seq (.fg false 3 (.region [I 12 0,b7 13 12,bJ 14 0])) (e0 15 14 13 (.seq (.block 1 (aa [cd 16 1 12 14,av 17 1 16,I 5 17] (aa [be 6 true] (.seq (aa [I 18 0,b7 19 18,bJ 20 0] (.block 2 (.loop (aa [bg 21 .lss 20 19] (.seq (aT 21 .skip (.exit 2)) (.seq (.block 3 (aa [cd 22 1 18 20,av 23 1 22,I 8 23] (.region [I 24 6,I 25 24,bW 25 true 26 8,bW 25 true 27 5,aq 25 true (b3 28 155 26 27),aq 25 true (aS 29 .eql 28 0),bW 25 true 30 29,bW 30 false 31 8,bW 30 false 32 5,aq 30 false (b3 33 203 31 32),aq 30 false (cy 34 33),aq 25 true (cY 35 30 34),du 36 25 35,I 6 36]))) (.region [aS 37 .add 20 1,I 20 37]))))))) (aa [I 38 3,b7 39 38,I 9 39] (.seq (.block 4 (.loop (.seq (aa [I 40 9,aS 41 .gtr 40 0,I 42 41,bW 42 true 43 3,bW 42 true 44 9,aq 42 true (aS 45 .sub 44 1),aq 42 true (cd 46 1 43 45),aq 42 true (av 47 1 46),bW 42 true 48 5,aq 42 true (b3 49 155 47 48),aq 42 true (aS 50 .geq 49 0),du 51 42 50] (aT 51 .skip (.exit 4))) (.block 5 (.region [I 52 9,aS 53 .sub 52 1,I 9 53]))))) (aa [I 54 6,I 55 54,bW 55 true 56 9,bW 55 true 57 3,aq 55 true (b7 58 57),aq 55 true (bg 59 .eql 56 58),bW 55 true 60 59,bW 60 false 61 3,bW 60 false 62 9,aq 60 false (cd 63 1 61 62),aq 60 false (av 64 1 63),bW 60 false 65 5,aq 60 false (b3 66 155 64 65),aq 60 false (aS 67 .neq 66 0),aq 55 true (cY 68 60 67),du 69 55 68] (aT 69 (aa [eD 70 1 46 [],I 71 3,I 72 9,ca 73 (.lsl 1 (.t 71) none (some (.t 72))),hF 74 1 46 70 73,I 10 74] (aa [I 75 10,I 76 5,eD 77 1 46 [.t 76],hF 78 1 46 75 77,I 10 78] (.region [I 79 10,I 80 3,I 81 9,ca 82 (.lsl 1 (.t 80) (some (.t 81)) none),hF 83 1 46 79 82,I 3 83]))) .skip)))))))) (.fg false 3 (.region [aS 84 .add 14 1,I 14 84]))))) (aa [I 85 3,I 2 85] .ret))))
@[simp] def alk:List bA:=[.tmp 2]
def QD:C:=(aa [bJ 4 0] (.seq (aa [bJ 5 0] (.block 0 (.loop (.seq (aa [I 7 5,I 8 0,b7 9 8,bg 10 .lss 7 9,I 11 10,bW 11 true 12 5,bW 11 true 13 1,aq 11 true (b7 14 13),aq 11 true (bg 15 .lss 12 14),du 16 11 15] (aT 16 .skip (.exit 0))) (.seq (.block 1 (.seq (.seq (.drawn true 67 [I 19 0,I 20 5,cd 21 5 19 20,aG 22 0 1 21,av 23 1 22,I 24 1,I 25 5,cd 26 5 24 25,aG 27 0 1 26,av 28 1 27,bg 29 .neq 23 28]) (aT 29 (.seq (.drawn true 67 [I 30 0,I 31 5,cd 32 5 30 31,aG 33 0 1 32,av 34 1 33,I 35 1,I 36 5,cd 37 5 35 36,aG 38 0 1 37,av 39 1 38,bg 40 .lss 34 39,cJ 41 188 40,I 4 41]) .ret) .skip)) (.seq (.drawn true 67 [I 42 0,I 43 5,cd 44 5 42 43,gD 45 1 4 44,a6 46 4 45,I 47 1,I 48 5,cd 49 5 47 48,gD 50 1 4 49,a6 51 4 50,b3 52 125 46 51,I 6 52]) (aa [I 53 6,aS 54 .neq 53 0] (aT 54 (aa [I 55 6,I 4 55] .ret) .skip))))) (.region [I 17 5,aS 18 .add 17 1,I 5 18])))))) (.seq (aa [I 56 0,b7 57 56,I 58 1,b7 59 58,bg 60 .neq 57 59] (aT 60 (aa [I 61 0,b7 62 61,I 63 1,b7 64 63,bg 65 .lss 62 64,cJ 66 188 65,I 4 66] .ret) .skip)) (aa [bJ 4 0] .ret))))
@[simp] def DF:List bA:=[.tmp 4]
def Qg:C:=(aa [be 4 false] (.seq (aa [I 11 0,cJ 12 76 11,cy 13 12,I 14 13,bW 14 false 15 1,aq 14 false (cJ 16 76 15),aq 14 false (cy 17 16),cY 18 14 17] (aT 18 (aa [be 4 false] .ret) .skip)) (.seq (aa [I 19 0,b7 20 19,bJ 21 0] (e0 22 21 20 (.seq (.block 1 (aa [cd 23 5 19 21,a6 24 5 23,dg 6 ik,bT 5 6 24] (aa [I 26 1,aG 27 0 1 6,av 28 1 27,cJ 29 114 28,b3 30 60 26 29,I 25 30,cH 31 0 25,cH 32 1 25,dg 7 ds,bT 4 7 31,I 8 32] (aa [I 34 1,gD 35 1 4 6,a6 36 4 35,b3 37 60 34 36,I 33 37,cH 38 0 33,cH 39 1 33,dg 9 ds,bT 4 9 38,I 10 39] (aa [I 40 8,cy 41 40,I 42 41,bW 42 false 43 10,aq 42 false (cy 44 43),cY 45 42 44,I 46 45,aq 46 false (a6 47 4 7),aq 46 false (a6 48 4 9),aq 46 false (b3 49 129 47 48),aq 46 false (cy 50 49),cY 51 46 50] (aT 51 (aa [be 4 false] .ret) .skip)))))) (.region [aS 52 .add 21 1,I 21 52])))) (aa [be 4 true] .ret))))
@[simp] def Mk:List bA:=[.tmp 4]
def w3:List (Nat×dF):=[
 (3,⟨1,8,.int .i64,.int .i64 0⟩),
 (27,⟨1,24,.slice 30,.slice 4 .nil []⟩),
 (30,⟨4,56,.struct [(0,3),(1,3),(2,9),(3,27)],.agg [.int .i64 0,.int .i64 0,.str [],.slice 4 .nil []]⟩),
 (46,⟨1,24,.slice 113,.slice 5 .nil []⟩),
 (47,⟨1,24,.slice 46,.slice 1 .nil []⟩),
 (113,⟨5,64,.struct [(0,3),(1,30)],.agg [.int .i64 0,.int .i64 0,.int .i64 0,.str [],.slice 4 .nil []]⟩)]
theorem si:fP ao w3=true:=by kernel_rfl
theorem ajU:b1 w3 QC alj 1 Tryz.f77=true:=by kernel_rfl
theorem adm:ao.funcs[(77:Nat)]? =some Tryz.f77:=Tryz.func77
theorem ajZ:b1 w3 QH aln 2 Tryz.f80=true:=by kernel_rfl
theorem adr:ao.funcs[(80:Nat)]? =some Tryz.f80:=Tryz.func80
theorem Dt:b1 w3 zm wQ 2 Tryz.f148=true:=by kernel_rfl
theorem BW:ao.funcs[(148:Nat)]? =some Tryz.f148:=Tryz.func148
theorem ajR:b1 w3 Qz ali 2 Tryz.f153=true:=by kernel_rfl
theorem adj:ao.funcs[(153:Nat)]? =some Tryz.f153:=Tryz.func153
theorem ajW:b1 w3 QE alk 1 Tryz.f154=true:=by kernel_rfl
theorem ado:ao.funcs[(154:Nat)]? =some Tryz.f154:=Tryz.func154
theorem ajV:b1 w3 QD DF 2 Tryz.f155=true:=by kernel_rfl
theorem adn:ao.funcs[(155:Nat)]? =some Tryz.f155:=Tryz.func155
theorem ajy:b1 w3 Qg Mk 2 Tryz.f203=true:=by kernel_rfl
theorem acY:ao.funcs[(203:Nat)]? =some Tryz.f203:=Tryz.func203
@[simp] def arU:List bA:=[.tmp 4]
def ED:C:=(aa [be 2 false] (.seq (aa [I 5 0,b7 6 5,aS 7 .lss 6 1,I 8 7,bW 8 false 9 0,aq 8 false (b7 10 9),aq 8 false (aS 11 .gtr 10 8),cY 12 8 11] (aT 12 (aa [be 2 false] .ret) .skip)) (.seq (aa [I 13 0,b7 14 13,bJ 15 0] (e0 16 15 14 (.seq (.block 1 (aa [I 17 15,cd 18 4 13 15,a6 19 4 18,dg 4 ds,I 3 17,bT 4 4 19] (.seq (.drawn true 38 [a6 20 4 4,cJ 21 132 20,cy 22 21,I 23 22,bW 23 false 24 3,aq 23 false (aS 25 .gtr 24 0),bW 23 false 26 25,bW 26 true 27 0,bW 26 true 28 3,aq 26 true (aS 29 .sub 28 1),aq 26 true (cd 30 4 27 29),aq 26 true (a6 31 4 30),aq 26 true (a6 32 4 4),aq 26 true (b3 33 133 31 32),aq 26 true (aS 34 .geq 33 0),aq 23 false (du 35 26 34),cY 36 23 35]) (aT 36 (aa [be 2 false] .ret) .skip)))) (.region [aS 37 .add 15 1,I 15 37])))) (aa [be 2 true] .ret))))
@[simp] def Ma:List bA:=[.tmp 2]
def Pl:C:=(aa [bJ 4 0] (aa [bJ 5 1] (.seq (aa [bJ 6 0] (.block 0 (.loop (.seq (aa [I 7 6,I 8 1,bg 9 .lss 7 8,I 10 9,bW 10 true 11 5,aq 10 true (aS 12 .leq 11 512),du 13 10 12,I 14 13,bW 14 true 15 0,aq 14 true (aS 16 .neq 15 1),du 17 14 16] (aT 17 .skip (.exit 0))) (.seq (.block 1 (.region [I 20 5,I 21 0,bg 22 .mul 20 21,I 5 22])) (.region [I 18 6,aS 19 .add 18 1,I 6 19])))))) (aa [I 23 5,ca 24 (.min2 (.t 23) (fQ 513)),I 4 24] .ret))))
@[simp] def G3:List bA:=[.tmp 4]
def OW:C:=(aa [eN 4 1] (aa [eD 13 5 113 [],eD 14 1 46 [.t 13],I 5 14] (.seq (.seq (.fg false 5 (.region [I 15 0,b7 16 15,bJ 17 0])) (e0 18 17 16 (.seq (.block 1 (aa [cd 19 1 15 17,av 20 1 19,I 7 20] (aa [eD 21 1 46 [],I 8 21] (.seq (aa [I 22 5,b7 23 22,bJ 24 0] (.block 2 (.loop (aa [bg 25 .lss 24 23] (.seq (aT 25 .skip (.exit 2)) (.seq (.block 3 (aa [cd 26 1 22 24,av 27 1 26,I 10 27] (aa [I 28 1,b7 29 28,bJ 30 0] (.block 4 (.loop (aa [bg 31 .lss 30 29] (.seq (aT 31 .skip (.exit 4)) (.seq (.block 5 (aa [cd 32 4 28 30,a6 33 4 32,dg 12 ds,bT 4 12 33] (.drawn true 50 [I 34 8,eD 35 5 113 [],I 36 10,hF 37 5 113 35 36,I 38 7,a6 39 4 12,jQ 40 ik [(0,1,(.t 38)),(1,4,(.t 39))],eD 41 5 113 [.t 40],hF 42 5 113 37 41,eD 43 1 46 [.t 42],hF 44 1 46 34 43,I 8 44]))) (.fg true 8 (.region [aS 45 .add 30 1,I 30 45])))))))))) (.region [aS 46 .add 24 1,I 24 46]))))))) (.fg false 8 (.region [I 47 8,I 5 47])))))) (.region [aS 48 .add 17 1,I 17 48])))) (aa [I 49 5,I 4 49] .ret))))
@[simp] def VO:List bA:=[.tmp 4]
@[simp] def ar2:List bA:=[.tmp 2]
def BG:C:=(aa [cM 2 0,cM 3 1,bJ 4 0] (.seq (aa [aG 7 0 1 2,av 8 1 7,aG 9 0 1 3,av 10 1 9,bg 11 .neq 8 10] (aT 11 (aa [aG 12 0 1 2,av 13 1 12,aG 14 0 1 3,av 15 1 14,bg 16 .lss 13 15,cJ 17 188 16,I 4 17] .ret) .skip)) (.seq (aa [aG 18 1 1 2,av 19 1 18,aG 20 1 1 3,av 21 1 20,bg 22 .neq 19 21] (aT 22 (aa [aG 23 1 1 2,av 24 1 23,aG 25 1 1 3,av 26 1 25,bg 27 .lss 24 26,cJ 28 188 27,I 4 28] .ret) .skip)) (.seq (aa [aG 29 2 1 2,av 30 1 29,aG 31 2 1 3,av 32 1 31,bg 33 .neq 30 32] (aT 33 (aa [aG 34 2 1 2,av 35 1 34,aG 36 2 1 3,av 37 1 36,bg 38 .lss 35 37,cJ 39 188 38,I 4 39] .ret) .skip)) (.seq (aa [bJ 5 0] (.block 0 (.loop (.seq (aa [I 40 5,aG 41 3 1 2,av 42 1 41,b7 43 42,bg 44 .lss 40 43,I 45 44,bW 45 true 46 5,aq 45 true (aG 47 3 1 3),aq 45 true (av 48 1 47),aq 45 true (b7 49 48),aq 45 true (bg 50 .lss 46 49),du 51 45 50] (aT 51 .skip (.exit 0))) (.seq (.block 1 (.seq (.drawn true 68 [aG 54 3 1 2,av 55 1 54,I 56 5,cd 57 4 55 56,a6 58 4 57,aG 59 3 1 3,av 60 1 59,I 61 5,cd 62 4 60 61,a6 63 4 62,b3 64 125 58 63,I 6 64]) (aa [I 65 6,aS 66 .neq 65 0] (aT 66 (aa [I 67 6,I 4 67] .ret) .skip)))) (.region [I 52 5,aS 53 .add 52 1,I 5 53])))))) (aa [bJ 4 0] .ret))))))
@[simp] def AW:List bA:=[.tmp 4]
def Qq:C:=(aa [cM 2 0,cM 3 1,be 4 false] (aa [a6 5 4 2,a6 6 4 3,b3 7 125 5 6,aS 8 .eql 7 0,I 4 8] .ret))
@[simp] def Wl:List bA:=[.tmp 4]
def Iw:C:=(aa [cM 1 0,be 2 false] (aa [a6 3 4 1,cJ 4 64 3,I 5 4,aq 5 true (a6 6 4 1),aq 5 true (cJ 7 175 6),du 8 5 7,I 2 8] .ret))
@[simp] def VJ:List bA:=[.tmp 2]
@[simp] def ar3:List bA:=[.tmp 5]
def Pc:C:=(aa [cM 1 0,be 2 false] (aa [cW (.alloc 3 (some 501) (.bool false)),cW (.store 1 (.t 3) (.c (.bool true)))] (aa [a6 4 4 1,ca 5 (.mkf 211 [.t 3]),b3 6 134 4 5] (aa [av 7 1 3,I 2 7] .ret))))
@[simp] def V1:List bA:=[.tmp 2]
def Qr:C:=(aa [bJ 2 0] (.seq (aa [I 3 0] (aT 3 (aa [bJ 2 (-1)] .ret) .skip)) (aa [bJ 2 1] .ret)))
@[simp] def Wm:List bA:=[.tmp 2]
def Pd:C:=(.region [cW (.store 1 (.t 1) (.c (.bool false)))])
@[simp] def V2:List bA:=[]
def tF:List (Nat×dF):=[
 (3,⟨1,8,.int .i64,.int .i64 0⟩),
 (4,⟨1,1,.bool,.bool false⟩),
 (9,⟨1,16,.str,.str []⟩),
 (27,⟨1,24,.slice 30,.slice 4 .nil []⟩),
 (30,⟨4,56,.struct [(0,3),(1,3),(2,9),(3,27)],.agg [.int .i64 0,.int .i64 0,.str [],.slice 4 .nil []]⟩),
 (46,⟨1,24,.slice 113,.slice 5 .nil []⟩),
 (47,⟨1,24,.slice 46,.slice 1 .nil []⟩),
 (76,⟨1,24,.slice 3,.slice 1 .nil []⟩),
 (113,⟨5,64,.struct [(0,3),(1,30)],.agg [.int .i64 0,.int .i64 0,.int .i64 0,.str [],.slice 4 .nil []]⟩)]
theorem o1:fP ao tF=true:=by kernel_rfl
theorem LG:b1 tF ED Ma 1 Tryz.f65=true:=by kernel_rfl
theorem Jh:ao.funcs[(65:Nat)]? =some Tryz.f65:=Tryz.func65
theorem aiF:b1 tF Pl G3 2 Tryz.f67=true:=by kernel_rfl
theorem ab2:ao.funcs[(67:Nat)]? =some Tryz.f67:=Tryz.func67
theorem aih:b1 tF OW VO 2 Tryz.f68=true:=by kernel_rfl
theorem abE:ao.funcs[(68:Nat)]? =some Tryz.f68:=Tryz.func68
theorem GH:b1 tF BG AW 2 Tryz.f125=true:=by kernel_rfl
theorem Fa:ao.funcs[(125:Nat)]? =some Tryz.f125:=Tryz.func125
theorem ajI:b1 tF Qq Wl 2 Tryz.f129=true:=by kernel_rfl
theorem ac8:ao.funcs[(129:Nat)]? =some Tryz.f129:=Tryz.func129
theorem U6:b1 tF Iw VJ 1 Tryz.f132=true:=by kernel_rfl
theorem Rp:ao.funcs[(132:Nat)]? =some Tryz.f132:=Tryz.func132
theorem aix:b1 tF Pc V1 1 Tryz.f175=true:=by kernel_rfl
theorem abU:ao.funcs[(175:Nat)]? =some Tryz.f175:=Tryz.func175
theorem ajJ:b1 tF Qr Wm 1 Tryz.f188=true:=by kernel_rfl
theorem ac9:ao.funcs[(188:Nat)]? =some Tryz.f188:=Tryz.func188
theorem aiy:b1 tF Pd V2 2 Tryz.f211=true:=by kernel_rfl
theorem abV:ao.funcs[(211:Nat)]? =some Tryz.f211:=Tryz.func211
theorem YM{t u:T}(J:t.kind=u.kind)(U:t.int=u.int)(ar:t.name=u.name)(ba:t.args=u.args):t=u:=by cases t<;>cases u<;>simp_all
theorem re(b:Bool):bH ao 188 [.bool b] (.int .i64 (if b then-1 else 1)):=by
 refine bh o1 ac9 ajJ fun aO=>?_;unfold Qr;simp;((with_reducible repeat' first|refine aj ?_|simp|((first|apply bP|apply bR|apply bQ)<;>intro h<;>try simp at h))<;>(try exact cm));all_goals simp[bt,Wm,aX,aY,aW]
 all_goals simp_all
theorem aj3{a b:T}(bz:a.args=[]∨b.args=[])(J:a.kind=b.kind)(U:a.int=b.int):dP a b=kL a.name b.name:=by cases a<;>cases b<;>simp_all[dP]
def CT(a b:T)(i:Nat)(_:Unit):Prop:=a.args.take i=b.args.take i
set_option maxRecDepth 4000 in
theorem XT(a:T)(bO:∀x∈a.args,∀b:T,bH ao 125 [x.e,b.e] (.int .i64 (dP x b)))(b:T):bH ao 125 [a.e,b.e] (.int .i64 (dP a b)):=by
 have hle:a.args.length≤2:=by cases a<;>simp
 by_cases ab:a.kind=b.kind
 ·by_cases hi:a.int=b.int
  ·by_cases ay:a.name=b.name
   ·have hlen:a.args.length=b.args.length:=by cases a<;>cases b<;>simp at ab⊢
    refine bh o1 Fa GH fun aO=>?_;unfold BG;simp[ab,hi,ay];refine dw [2,3] (fun i (_:Unit)=>[(5,.int .i64 i)]) a.args.length (CT a b) () bN (by simp[CT]) (fun _ ae _=>?_) (fun i _ bE ae _=>?_)
    ·simp;(with_reducible repeat' first|refine aj ?_|simp);simp[bt,AW,aX,aY,aW];unfold CT at ae;rw[hG (by omega),hG (by omega)]at ae;exact((q2 a b).2 (YM ab hi ay ae)).symm
    ·have qT:i<b.args.length:=by omega
     obtain⟨x,af⟩:∃x,x=a.args[i]:=⟨_,rfl⟩;obtain⟨y,aM⟩:∃y,y=b.args[i]:=⟨_,rfl⟩;have nV:=bO x (by rw[af];exact List.getElem_mem bE) y;simp[bE,qT,←af,←aM];(with_reducible repeat' first|((first|apply bP|apply bR|apply bQ)<;>intro h<;>try simp at h)|refine aj ?_|refine aC nV ?_|refine aD nV ?_|simp)
     ·simp[bt,AW,aX,aY,aW];unfold CT at ae;cases a with
      |pair bD a2=>
       cases b with
       |pair cl b8=>
        simp at bE ae af aM;rcases(by omega:i=0∨i=1)with rfl|rfl
        ·simp at af aM;subst af aM;simp[dP,h]
        ·simp at ae af aM;subst af aM ae;simp[dP,(q2 bD bD).2 rfl]
       |_=>simp at ab
      |_=>simp at bE
     ·refine bK.rng () bE ?_ bN;unfold CT at ae⊢;rw[List.take_succ,List.take_succ,ae,bZ bE,bZ qT,←af,←aM,(q2 x y).1 h]
   ·refine bh o1 Fa GH fun aO=>?_;unfold BG;simp[ab,hi,ay];((with_reducible repeat' first|refine aj ?_|refine aC (re _) ?_|refine aD (re _) ?_|simp|((first|apply bP|apply bR|apply bQ)<;>intro h<;>try simp at h))<;>(try exact cm));simp[bt,AW,aX,aY,aW];have:a.args=[]∨b.args=[]:=by cases a<;>cases b<;>simp at ab ay⊢
    rw[aj3 this ab hi,kL,if_neg ay]
  ·refine bh o1 Fa GH fun aO=>?_;unfold BG;simp[ab,hi];((with_reducible repeat' first|refine aj ?_|refine aC (re _) ?_|refine aD (re _) ?_|simp|((first|apply bP|apply bR|apply bQ)<;>intro h<;>try simp at h))<;>(try exact cm));simp[bt,AW,aX,aY,aW];cases a<;>cases b<;>simp at ab hi
   ·rw[Vr];simp[ey];split<;>(try split)<;>omega
   ·rw[Vq];simp[ey];split<;>(try split)<;>omega
 ·refine bh o1 Fa GH fun aO=>?_;unfold BG;simp[ab];((with_reducible repeat' first|refine aj ?_|refine aC (re _) ?_|refine aD (re _) ?_|simp|((first|apply bP|apply bR|apply bQ)<;>intro h<;>try simp at h))<;>(try exact cm));simp[bt,AW,aX,aY,aW];rw[r7 ab];simp[ey];split<;>(try split)<;>omega
theorem D4(a:T):∀b:T,bH ao 125 [a.e,b.e] (.int .i64 (dP a b)):=by
 induction a with
 |pair x y nV p7=>
  refine XT _ fun z br=>?_;simp at br;rcases br with rfl|rfl
  ·exact nV
  ·exact p7
 |_=>exact XT _ fun x af=>by simp at af
theorem HO(a b:T):bH ao 129 [a.e,b.e] (.bool (decide (a=b))):=by refine bh o1 ac8 ajI fun aO=>?_;unfold Qq;simp;(with_reducible repeat' first|refine aj ?_|refine aC (D4 _ _) ?_|refine aD (D4 _ _) ?_|simp);simp[bt,Wl,aX,aY,aW];have:=q2 a b;by_cases h:dP a b=0<;>simp_all
theorem anl{s t:List al}(ag:eG s)(aK:eG t):bH ao 153 [.slice 5 .no (s.map al.e),.slice 5 .no (t.map al.e)] (.slice 5 .no ((gC s t).map al.e)):=by
 have afZ:=aK.len;generalize bd:gC s t=R;refine bh si adj ajR fun aO=>?_;unfold Qz;simp;refine ho (α:=List al) (fun i out=>⟨[(0,.slice 5 .no (s.map al.e)),(11,.slice 5 .no (t.map al.e)),(12,.int .i64 t.length),(5,.slice 5 (.own (.loc 0)) (out.map al.e)),(13,.int .i64 i)],[],[(.loc 0,⟨out.length,113,5,none⟩)],1,[]⟩) t.length (qX s t) [] bN (by simp[qX,gC]) (fun out ae _=>?_) (fun i out hi ae _=>?_)
 ·rw[qX,hG (eR _),bd]at ae;rw[←ae];exact bY
 ·obtain⟨b,aF,fJ⟩:=dT hi;have Cx:out.length≤1000000:=by
   have:out.length≤(t.take i).length:=by rw[ae];exact List.length_filter_le _ _
   simp at this;omega
  have jK:=rf s b.v ag.len;cases ad:df s b.v with
  |none=>
   have ay:qX s t (i+1) (out++[b]):=by rw[qX,oY aF,gC,List.filter_append,ae];simp[gC,ad]
   rw[ad]at jK;simp only[nI,ml]at jK;clear ae aF ad;simp[hi,fJ];(with_reducible repeat' first|refine aj ?_|refine aC jK ?_|refine aD jK ?_|simp[fJ,hi]);all_goals first|(refine⟨by unfold lim;omega,?_⟩)|skip
   (with_reducible repeat' first|refine aj ?_|simp);refine bK.rng (out++[b]) hi ay ?_;simp;exact⟨by simp[fresh,aH,aB,b9,inObs,Pv.look,jY],dZ (by simp[fresh,aH,aB,b9,inObs,Pv.look,jY]),ea (by simp[fresh,aH,aB,dN,inObs,Pv.look,jY]),by simp⟩
  |some x=>
   have ay:qX s t (i+1) out:=by rw[qX,oY aF,gC,List.filter_append,ae];simp[gC,ad]
   rw[ad]at jK;simp only[ka,pT]at jK;clear ae aF ad;simp[hi,fJ];(with_reducible repeat' first|refine aj ?_|refine aC jK ?_|refine aD jK ?_|simp[fJ,hi]);refine bK.rng out hi ay ?_;exact bN
theorem amU{s t:List al}(ag:eG s)(aK:eG t):bH ao 203 [.slice 5 .no (s.map al.e),.slice 5 .no (t.map al.e)] (.bool (nu s t)):=by
 have p5:=ag.len;generalize bd:nu s t=R;have c4:=Nw ag;have dp:=Nw aK;refine bh si acY ajy fun aO=>?_;unfold Qg;simp;(with_reducible repeat' first|refine aj ?_|refine aC c4 ?_|refine aD c4 ?_|refine aC dp ?_|refine aD dp ?_|simp);refine dw [1,19,20] (fun i (_:Unit)=>[(21,.int .i64 i)]) s.length (kD (r3 t) s) () bN (fun k b ab=>by omega) (fun _ ae _=>?_) (fun i _ hi ae _=>?_)
 ·have:R=true:=by rw[←bd,nu,gn];intro b ad;obtain⟨k,ab,e⟩:=nG ad;exact ae k b ab (by rw[bZ ab,e])
  rw[this];exact bY
 ·obtain⟨b,aF,fJ⟩:=dT hi;have eV:r3 t b=false→R=false:=fun h=>by rw[←bd,Bool.eq_false_iff];intro cb;rw[nu,gn]at cb;rw[cb b (dK aF)]at h;cases h
  have aU:=D6 t aK.len (.var b.v);have bC:=D6 t aK.len b.t;have x9:=DR aK b.v;have FZ:((T.var b.v).ap (bV t)).size≤5000:=x9;rw[gJ FZ]at aU;rw[show(T.var b.v).ap (bV t)=bV t b.v from rfl]at aU;by_cases br:(b.t.ap (bV t)).size≤5000
  ·rw[gJ br]at bC;by_cases he:bV t b.v=b.t.ap (bV t)
   ·have ay:=ae.step aF (by simp[r3,he]);have fD:=HO (bV t b.v) (b.t.ap (bV t));rw[gJ he]at fD;clear ae aF;simp[hi,fJ];(with_reducible repeat' first|refine aj ?_|refine aC (j9 _) ?_|refine aD (j9 _) ?_|refine aC aU ?_|refine aD aU ?_|refine aC bC ?_|refine aD bC ?_|refine aC fD ?_|refine aD fD ?_|simp[fJ,hi]);exact bK.rng () hi ay bN
   ·rw[eV (by simp[r3,he])];have fD:=HO (bV t b.v) (b.t.ap (bV t));rw[iB he]at fD;clear ae aF;simp[hi,fJ];(with_reducible repeat' first|refine aj ?_|refine aC (j9 _) ?_|refine aD (j9 _) ?_|refine aC aU ?_|refine aD aU ?_|refine aC bC ?_|refine aD bC ?_|refine aC fD ?_|refine aD fD ?_|simp[fJ,hi]);simp[bt,Mk,aX,aY,aW]
  ·rw[iB br]at bC;rw[eV (by simp only[r3,gI];intro e;rw[←e]at br;exact br x9)];clear ae aF;simp[hi,fJ];(with_reducible repeat' first|refine aj ?_|refine aC (j9 _) ?_|refine aD (j9 _) ?_|refine aC aU ?_|refine aD aU ?_|refine aC bC ?_|refine aD bC ?_|simp[fJ,hi]);simp[bt,Mk,aX,aY,aW]
theorem Nr(d e:List al):bH ao 155 [.slice 5 .no (d.map al.e),.slice 5 .no (e.map al.e)] (.int .i64 (ev d e)):=by
 generalize bd:ev d e=R;refine bh si adn ajV fun aO=>?_;unfold QD;have aQ:d.length≤68719476736:=by simp[eu,ed,ep,lim]at aO;omega
 have he:e.length≤68719476736:=by simp[eu,ed,ep,lim]at aO;omega
 simp;refine vF [0,1] (fun(i:Nat)=>[(5,.int .i64 i)]) (fun i=>d.length-i) (KQ d e) 0 bN ⟨by omega,by omega,by simp⟩ (fun i ae _=>?_);obtain⟨J,U,ar⟩:=ae;rw[bd]at ar;by_cases hi:i<d.length
 ·by_cases hC:i<e.length
  ·obtain⟨x,af⟩:∃x,d[i]? =some x:=⟨_,bZ hi⟩;obtain⟨y,aM⟩:∃y,e[i]? =some y:=⟨_,bZ hC⟩;have cD:∀h,(d[i]'h)=x:=fun h=>by rw[bZ hi]at af;exact eE af
   have eK:∀h,(e[i]'h)=y:=fun h=>by rw[bZ hC]at aM;exact eE aM
   have zJ:d.drop i=x::d.drop (i+1):=by rw[kP hi,cD]
   have zK:e.drop i=y::e.drop (i+1):=by rw[kP hC,eK]
   rw[zJ,zK]at ar;rw[Vo]at ar;by_cases a8:x.v=y.v
   ·have oP:ey x.v y.v=0:=(km.zero _ _).2 a8;have ts:(x.v !=y.v)=false:=by simp[a8]
    rw[if_pos oP]at ar;by_cases bF:dP x.t y.t=0
    ·rw[if_pos bF]at ar;have ay:KQ d e (i+1):=⟨by omega,by omega,by rw[bd];exact ar⟩;have kE:=D4 x.t y.t;rw[bF]at kE;clear zJ zK af aM ar oP;simp[hi,hC,cD,eK];((with_reducible repeat' first|refine aj ?_|refine aC kE ?_|refine aD kE ?_|simp[cD,eK,hi,hC,a8,ts]|((first|apply bP|apply bR|apply bQ)<;>intro h<;>try simp at h))<;>(try exact cm));all_goals exact bK.whl (i+1) (by omega) ay bN
    ·rw[if_neg bF]at ar;have kE:=D4 x.t y.t;have yz:(dP x.t y.t !=0)=true:=by simp[bF]
     clear zJ zK af aM oP;simp[hi,hC,cD,eK];(with_reducible repeat' first|refine aj ?_|refine aC kE ?_|refine aD kE ?_|simp[cD,eK,hi,hC,a8,ts,bF,yz]);all_goals simp[bt,DF,aX,aY,aW]
     all_goals exact ar
   ·have oP:¬ey x.v y.v=0:=fun h=>a8 ((km.zero _ _).1 h);have ts:(x.v !=y.v)=true:=by simp[a8]
    rw[if_neg oP]at ar;have dG:R=if decide (x.v<y.v)=true then-1 else 1:=by rw[←ar];unfold ey;simp only[e2];(repeat' split)<;>omega
    clear zJ zK af aM ar oP;rw[dG];simp[hi,hC,cD,eK];(with_reducible repeat' first|refine aj ?_|refine aC (re _) ?_|refine aD (re _) ?_|simp[cD,eK,hi,hC,a8,ts]);all_goals simp[bt,DF,aX,aY,aW]
  ·have hle:e.length<d.length:=by omega
   have:(1:Int)=R:=by rw[←ar,ev,C2 _ _ _ (.inr (List.drop_eq_nil_of_le (by omega)))];simp only[sw];unfold ey;(repeat' split)<;>omega
   have cF:¬(d.length:Int)=e.length:=by omega
   have Kj:((d.length:Int) !=e.length)=true:=by simp;omega
   have jH:¬(d.length:Int)<e.length:=by omega
   have Ct:¬d.length<e.length:=by omega
   have afx:¬d.length=e.length:=by omega
   clear ar;rw[←this];simp[hi,hC];(with_reducible repeat' first|refine aj ?_|refine aC (re _) ?_|refine aD (re _) ?_|simp[hi,hC,cF,Kj,jH,Ct,afx]);all_goals simp[bt,DF,aX,aY,aW]
   all_goals(try simp[Ct])
 ·have eT:i=d.length:=by omega
  by_cases aw:d.length=e.length
  ·have:(0:Int)=R:=by rw[←ar,ev,C2 _ _ _ (.inl (List.drop_eq_nil_of_le (by omega)))];simp only[sw];unfold ey;(repeat' split)<;>omega
   clear ar;rw[←this];exact bY
  ·have:(-1:Int)=R:=by rw[←ar,ev,C2 _ _ _ (.inl (List.drop_eq_nil_of_le (by omega)))];simp only[sw];unfold ey;(repeat' split)<;>omega
   have cF:¬(d.length:Int)=e.length:=by omega
   have Kj:((d.length:Int) !=e.length)=true:=by simp;omega
   have jH:(d.length:Int)<e.length:=by omega
   have Ct:d.length<e.length:=by omega
   clear ar;rw[←this];simp[hi];(with_reducible repeat' first|refine aj ?_|refine aC (re _) ?_|refine aD (re _) ?_|simp[hi,cF,Kj,jH,Ct,aw]);all_goals simp[bt,DF,aX,aY,aW]
   all_goals(try simp[Ct])
def agG(n:Int)(a b:T)(i:Nat)(_:Unit):Prop:=(1≤i→iH n a=true)∧(2≤i→iH n b=true)
theorem Nu(n:Int):∀t:T,bH ao 148 [t.e,.int .i64 n] (.bool (iH n t))
 | .pair a b=>by
  have dX:=Nu n a;have dY:=Nu n b;refine bh si BW Dt fun aO=>?_;unfold zm;simp;refine dw [1,2,8,9] (fun i (_:Unit)=>[(10,.int .i64 i)]) 2 (agG n a b) () bN ⟨fun h=>by omega,fun h=>by omega⟩ (fun _ ae _=>?_) (fun i _ hi ae _=>?_)
  ·simp;(with_reducible repeat' first|refine aj ?_|simp);simp[bt,wQ,aX,aY,aW];simp[iH,ae.1,ae.2]
  ·rcases(by omega:i=0∨i=1)with rfl|rfl
   ·cases bz:iH n a
    ·rw[bz]at dX;simp;(with_reducible repeat' first|refine aj ?_|refine aC dX ?_|refine aD dX ?_|simp);simp[bt,wQ,aX,aY,aW];simp[iH,bz]
    ·rw[bz]at dX;simp;((with_reducible repeat' first|refine aj ?_|refine aC dX ?_|refine aD dX ?_|simp|((first|apply bP|apply bR|apply bQ)<;>intro h<;>try simp at h))<;>(try exact cm));exact bK.rng () hi ⟨fun _=>bz,fun h=>by omega⟩ bN
   ·cases ad:iH n b
    ·rw[ad]at dY;simp;((with_reducible repeat' first|refine aj ?_|refine aC dY ?_|refine aD dY ?_|simp|((first|apply bP|apply bR|apply bQ)<;>intro h<;>try simp at h))<;>(try exact cm));simp[bt,wQ,aX,aY,aW];simp[iH,ad]
    ·rw[ad]at dY;simp;((with_reducible repeat' first|refine aj ?_|refine aC dY ?_|refine aD dY ?_|simp|((first|apply bP|apply bR|apply bQ)<;>intro h<;>try simp at h))<;>(try exact cm));exact bK.rng () hi ⟨fun _=>ae.1 (by omega),fun _=>ad⟩ bN
 | .sym v=>by
  refine bh si BW Dt fun aO=>?_;unfold zm;simp;refine dw [1,2,8,9] (fun i (_:Unit)=>[(10,.int .i64 i)]) 0 (fun i _=>True) () bN trivial (fun _ ae _=>?_) (fun i _ hi ae _=>by omega);simp;((with_reducible repeat' first|refine aj ?_|simp|((first|apply bP|apply bR|apply bQ)<;>intro h<;>try simp at h))<;>(try exact cm));all_goals simp[bt,wQ,aX,aY,aW]
  all_goals simp[iH]
 | .num v=>by
  refine bh si BW Dt fun aO=>?_;unfold zm;simp;refine dw [1,2,8,9] (fun i (_:Unit)=>[(10,.int .i64 i)]) 0 (fun i _=>True) () bN trivial (fun _ ae _=>?_) (fun i _ hi ae _=>by omega);simp;(with_reducible repeat' first|refine aj ?_|simp);all_goals simp[bt,wQ,aX,aY,aW]
  all_goals simp[iH]
 | .var v=>by
  refine bh si BW Dt fun aO=>?_;unfold zm;simp;refine dw [1,2,8,9] (fun i (_:Unit)=>[(10,.int .i64 i)]) 0 (fun i _=>True) () bN trivial (fun _ ae _=>?_) (fun i _ hi ae _=>by omega);simp;(with_reducible repeat' first|refine aj ?_|simp);all_goals simp[bt,wQ,aX,aY,aW]
  all_goals simp[iH]
 | .nil=>by
  refine bh si BW Dt fun aO=>?_;unfold zm;simp;refine dw [1,2,8,9] (fun i (_:Unit)=>[(10,.int .i64 i)]) 0 (fun i _=>True) () bN trivial (fun _ ae _=>?_) (fun i _ hi ae _=>by omega);simp;(with_reducible repeat' first|refine aj ?_|simp);all_goals simp[bt,wQ,aX,aY,aW]
  all_goals simp[iH]
theorem X1(s:List al)(n:Int):bH ao 80 [.slice 5 .no (s.map al.e),.int .i64 n] (.bool (s.all (kT n))):=by
 generalize bd:s.all (kT n)=R;refine bh si adr ajZ fun aO=>?_;unfold QH;have eX:s.length≤68719476736:=by simp[eu,ed,ep,lim]at aO;omega
 simp;refine dw [1,7,8] (fun i (_:Unit)=>[(9,.int .i64 i)]) s.length (kD (kT n) s) () bN (fun k b ab=>by omega) (fun _ ae _=>?_) (fun i _ hi ae _=>?_)
 ·have:R=true:=by rw[←bd,gn];intro b ad;obtain⟨k,ab,e⟩:=nG ad;exact ae k b ab (by rw[bZ ab,e])
  rw[this];exact bY
 ·obtain⟨b,aF,fJ⟩:=dT hi;have eV:kT n b=false→R=false:=fun h=>by rw[←bd,Bool.eq_false_iff];intro cb;rw[gn]at cb;rw[cb b (dK aF)]at h;cases h
  have mG:=Nu n b.t;by_cases J:b.v<n
  ·have nP:¬n≤b.v:=by omega
   cases U:iH n b.t
   ·rw[eV (by simp[kT,U])];rw[U]at mG;clear ae aF;exact bY
   ·have ay:=ae.step aF (by simp[kT,J,U]);rw[U]at mG;clear ae aF;exact gg
  ·have nP:n≤b.v:=by omega
   rw[eV (by simp[kT,J])];clear ae aF;exact bY
theorem anq(l:List (List cT)):bH ao 77 [.slice 1 .no (l.map gb)] (.bool (l.all gG)):=by
 generalize bd:l.all gG=R;refine bh si adm ajU fun aO=>?_;unfold QC;have eX:l.length≤68719476736:=by simp[eu,ed,ep,lim]at aO;omega
 simp;refine dw [5,6] (fun i (_:Unit)=>[(7,.int .i64 i)]) l.length (kD gG l) () bN (fun k b ab=>by omega) (fun _ ae _=>?_) (fun i _ hi ae _=>?_)
 ·have:R=true:=by rw[←bd,gn];intro b ad;obtain⟨k,ab,e⟩:=nG ad;exact ae k b ab (by rw[bZ ab,e])
  rw[this];exact bY
 ·obtain⟨b,aF,fJ⟩:=dT hi;have c4:bH ao 76 [gb b] (.bool (gG b)):=Nv b;cases ad:gG b
  ·have:R=false:=by rw[←bd,Bool.eq_false_iff];intro cb;rw[gn]at cb;rw[cb b (dK aF)]at ad;cases ad
   rw[this];rw[ad]at c4;clear ae aF;exact bY
  ·have ay:=ae.step aF ad;rw[ad]at c4;clear ae aF;exact gg
theorem Q3(a:List (List al))(k:Nat)(m:List al):lY k (a.map cO)++cO m::nF k (a.map cO)=(a.take k++m::a.drop k).map cO:=by simp
theorem qI(a:List (List al))(k:Nat)(m:List al):cR (lY k (a.map cO)++cO m::nF k (a.map cO))=lY k (a.map cO)++cO m::nF k (a.map cO):=by rw[Q3,M3]
theorem qH(S:aI→Prop)(a:List (List al))(k:Nat)(m:List al):aH S (lY k (a.map cO)++cO m::nF k (a.map cO))=True:=by rw[Q3,Ue]
theorem Q2(a:List (List al))(m:List al):a.map cO++[cO m]=(a++[m]).map cO:=by simp
theorem qG(a:List (List al))(m:List al):cR (a.map cO++[cO m])=a.map cO++[cO m]:=by rw[Q2,M3]
theorem qF(S:aI→Prop)(a:List (List al))(m:List al):aH S (a.map cO++[cO m])=True:=by rw[Q2,Ue]
theorem XZ(L:List (List al))(jE:∀d∈L,eG d):bH ao 154 [.slice 1 .no (L.map cO)] (.slice 1 .no ((kZ L).map cO)):=by
 generalize bd:kZ L=R;rw[ahG]at bd;refine bh si ado ajW fun aO=>?_;unfold QE;have eX:L.length≤68719476736:=by simp[eu,ed,ep,lim]at aO;omega
 simp;refine dw [0,12,13] (fun i (a:List (List al))=>[(3,.slice 1 .no (a.map cO)),(14,.int .i64 i)]) L.length (ye L) [] bN (by simp[ye]) (fun a ae _=>?_) (fun i a hi ae _=>?_)
 ·rw[ye,mj,bd]at ae;subst ae;exact bY
 ·obtain⟨e,he,J1⟩:=dT hi;have rI:hN ev a:=by rw[ae];exact Lu _ (by simp[hN])
  have qN:a.length≤i:=by have:=UR (L:=L) (L.take i) [];rw[ae];simp at this⊢;omega
  have fq:=ae.step he;have lJ:=jE e (dK he);have bC:∀d,bH ao 155 [cO d,cO e] (.int .i64 (ev d e)):=fun d=>Nr d e;clear ae he;simp[hi,J1];(with_reducible repeat' first|refine aj ?_|simp[hi,J1]);refine dw [0,3,5,12,13,14,18,19] (fun j (b:Bool)=>[(6,.bool b),(20,.int .i64 j)]) L.length (p9 L e) true bN (by simp[p9]) (fun keep ae _=>?_) (fun j keep dU ae _=>?_)
  ·rw[p9,mj]at ae;have SN:keep=iO L e:=ae;rw[qi,←SN]at fq;clear ae SN;simp;(with_reducible repeat' first|refine aj ?_|simp);refine vF [0,3,5,6,12,13,14] (fun(k:Nat)=>[(9,.int .i64 k)]) (fun k=>k) (F8 a e) a.length bN ⟨by omega,fun c h=>by simp at h⟩ (fun k ae _=>?_);have ab:=ae.1;rcases Nat.eq_zero_or_pos k with bn|fs
   ·have br:decide ((0:Int)<k)=false:=by simp;omega
    have rW:¬(0:Int)<k:=by omega
    have dx:=ae.fin rI fun d h=>by omega
    clear ae rI;cases keep with
    |false=>simp only[gX,if_false]at fq;clear dx;exact gg
    |true=>
     simp only[if_true]at fq;by_cases hp:k<a.length
     ·obtain⟨c,au,kg⟩:=dT hp;rw[au]at dx;by_cases q:ev c e=0
      ·rw[if_pos (by simp[q])]at dx;rw[dx]at fq;clear dx au;simp[hp,kg,br,rW];((with_reducible repeat' first|refine aj ?_|refine aC (bC _) ?_|refine aD (bC _) ?_|simp[hp,kg,q,br,rW]|((first|apply bP|apply bR|apply bQ)<;>intro h<;>try simp at h))<;>(try exact cm));all_goals exact bK.rng a hi fq bN
      ·rw[if_neg (by simp[q])]at dx;have gx:(ev c e !=0)=true:=by simp[q]
       rw[dx]at fq;clear dx au;simp[hp,kg,br,rW];((with_reducible repeat' first|refine aj ?_|refine aC (bC _) ?_|refine aD (bC _) ?_|simp[hp,kg,q,gx,br,rW]|((first|apply bP|apply bR|apply bQ)<;>intro h<;>try simp at h))<;>(try exact cm));all_goals first|(refine⟨by unfold lim;omega,?_⟩)|skip
       all_goals(with_reducible repeat' first|refine aj ?_|simp)
       all_goals first|(refine⟨by unfold lim;omega,?_⟩)|skip
       all_goals((with_reducible repeat' first|refine aj ?_|simp|((first|apply bP|apply bR|apply bQ)<;>intro h<;>try simp at h))<;>(try exact cm))
       all_goals exact bK.rng _ hi fq ⟨by simp[fresh,aH,aB,b9,inObs,Pv.look,hG,qI,qH,qG,qF],dZ (by simp[fresh,aH,aB,b9,inObs,Pv.look,hG,qI,qH,qG,qF]),ea (by simp[fresh,aH,aB,dN,inObs,Pv.look,hG,qI,qH,qG,qF]),by simp⟩
     ·rw[qt (by omega)]at dx;simp only[gX,if_false]at dx;rw[dx]at fq;have hK:k=a.length:=by omega
      have sT:a.take k++e::a.drop k=a++[e]:=by rw[hK];simp
      rw[sT]at fq;clear dx sT;simp[hp,br,rW];((with_reducible repeat' first|refine aj ?_|refine aC (bC _) ?_|refine aD (bC _) ?_|simp[hp,hK,br,rW]|((first|apply bP|apply bR|apply bQ)<;>intro h<;>try simp at h))<;>(try exact cm));all_goals first|(refine⟨by unfold lim;omega,?_⟩)|skip
      all_goals(with_reducible repeat' first|refine aj ?_|simp)
      all_goals first|(refine⟨by unfold lim;omega,?_⟩)|skip
      all_goals((with_reducible repeat' first|refine aj ?_|simp|((first|apply bP|apply bR|apply bQ)<;>intro h<;>try simp at h))<;>(try exact cm))
      all_goals exact bK.rng _ hi fq ⟨by simp[fresh,aH,aB,b9,inObs,Pv.look,hG,qI,qH,qG,qF],dZ (by simp[fresh,aH,aB,b9,inObs,Pv.look,hG,qI,qH,qG,qF]),ea (by simp[fresh,aH,aB,dN,inObs,Pv.look,hG,qI,qH,qG,qF]),by simp⟩
   ·obtain⟨d,aQ⟩:∃d,a[k-1]? =some d:=⟨_,bZ (by omega)⟩;have ak:((k:Int)-1).toNat=k-1:=by omega
    have aE:∀h,(a[k-1]'h)=d:=fun h=>by rw[bZ h]at aQ;exact eE aQ
    have iM:(0:Int)<k:=by omega
    have l7:k-1<a.length:=by omega
    by_cases ad:0≤ev d e
    ·have ag:F8 a e (k-1):=⟨by omega,fun c au=>by rw[aQ]at au;cases au;exact ad⟩;clear ae rI fq aQ;simp[fs,iM,ak,aE,ad,l7];((with_reducible repeat' first|refine aj ?_|refine aC (bC _) ?_|refine aD (bC _) ?_|simp[fs,iM,ak,aE,ad,l7]|((first|apply bP|apply bR|apply bQ)<;>intro h<;>try simp at h))<;>(try exact cm));refine bK.whl (k-1) (by omega) ag ?_;have bj:((k-1:Nat):Int)=(k:Int)-1:=by omega
     simp[bj];exact bN
    ·have dx:=ae.fin rI fun cg _ my=>by rw[aQ]at my;cases my;omega
     clear ae rI aQ;cases keep with
     |false=>simp only[gX,if_false]at fq;clear dx;simp[fs,iM,ak,aE,ad,l7];(with_reducible repeat' first|refine aj ?_|refine aC (bC _) ?_|refine aD (bC _) ?_|simp[fs,iM,ak,aE,ad,l7]);all_goals exact bK.rng a hi fq bN
     |true=>
      simp only[if_true]at fq;by_cases hp:k<a.length
      ·obtain⟨c,au,kg⟩:=dT hp;rw[au]at dx;by_cases q:ev c e=0
       ·rw[if_pos (by simp[q])]at dx;rw[dx]at fq;clear dx au;simp[hp,kg,fs,iM,ak,aE,ad,l7];((with_reducible repeat' first|refine aj ?_|refine aC (bC _) ?_|refine aD (bC _) ?_|simp[hp,kg,q,fs,iM,ak,aE,ad,l7]|((first|apply bP|apply bR|apply bQ)<;>intro h<;>try simp at h))<;>(try exact cm));all_goals exact bK.rng a hi fq bN
       ·rw[if_neg (by simp[q])]at dx;have gx:(ev c e !=0)=true:=by simp[q]
        rw[dx]at fq;clear dx au;simp[hp,kg,fs,iM,ak,aE,ad,l7];((with_reducible repeat' first|refine aj ?_|refine aC (bC _) ?_|refine aD (bC _) ?_|simp[hp,kg,q,gx,fs,iM,ak,aE,ad,l7]|((first|apply bP|apply bR|apply bQ)<;>intro h<;>try simp at h))<;>(try exact cm));all_goals first|(refine⟨by unfold lim;omega,?_⟩)|skip
        all_goals(with_reducible repeat' first|refine aj ?_|simp)
        all_goals first|(refine⟨by unfold lim;omega,?_⟩)|skip
        all_goals((with_reducible repeat' first|refine aj ?_|simp|((first|apply bP|apply bR|apply bQ)<;>intro h<;>try simp at h))<;>(try exact cm))
        all_goals exact bK.rng _ hi fq ⟨by simp[fresh,aH,aB,b9,inObs,Pv.look,hG,qI,qH,qG,qF],dZ (by simp[fresh,aH,aB,b9,inObs,Pv.look,hG,qI,qH,qG,qF]),ea (by simp[fresh,aH,aB,dN,inObs,Pv.look,hG,qI,qH,qG,qF]),by simp⟩
      ·rw[qt (by omega)]at dx;simp only[gX,if_false]at dx;rw[dx]at fq;have hK:k=a.length:=by omega
       have sT:a.take k++e::a.drop k=a++[e]:=by rw[hK];simp
       rw[sT]at fq;clear dx sT;simp[hp,fs,iM,ak,aE,ad,l7];((with_reducible repeat' first|refine aj ?_|refine aC (bC _) ?_|refine aD (bC _) ?_|simp[hp,hK,fs,iM,ak,aE,ad,l7]|((first|apply bP|apply bR|apply bQ)<;>intro h<;>try simp at h))<;>(try exact cm));all_goals first|(refine⟨by unfold lim;omega,?_⟩)|skip
       all_goals(with_reducible repeat' first|refine aj ?_|simp)
       all_goals first|(refine⟨by unfold lim;omega,?_⟩)|skip
       all_goals(with_reducible repeat' first|refine aj ?_|simp)
       all_goals exact bK.rng _ hi fq ⟨by simp[fresh,aH,aB,b9,inObs,Pv.look,hG,qI,qH,qG,qF],dZ (by simp[fresh,aH,aB,b9,inObs,Pv.look,hG,qI,qH,qG,qF]),ea (by simp[fresh,aH,aB,dN,inObs,Pv.look,hG,qI,qH,qG,qF]),by simp⟩
  ·obtain⟨d,aQ,hdi⟩:=dT dU;have ay:=ae.step aQ;have jW:=jE d (dK aQ);have eb:bH ao 203 [cO d,cO e] (.bool (nu d e)):=amU jW lJ;clear ae aQ fq rI;cases keep with
   |false=>simp only[Bool.false_and]at ay;exact gg
   |true=>
    simp only[Bool.true_and,wy]at ay;by_cases q:ev d e=0
    ·rw[gJ ((lQ.zero _ _).1 q),Bool.true_or]at ay;simp[dU,hdi];(with_reducible repeat' first|refine aj ?_|refine aC (bC _) ?_|refine aD (bC _) ?_|simp[dU,hdi,q]);all_goals exact bK.rng true dU ay bN
    ·rw[iB (fun h=>q ((lQ.zero _ _).2 h)),Bool.false_or]at ay;have gx:(ev d e==0)=false:=by simp[q]
     cases a7:nu d e
     ·rw[a7]at ay eb;simp[dU,hdi];(with_reducible repeat' first|refine aj ?_|refine aC (bC _) ?_|refine aD (bC _) ?_|refine aC eb ?_|refine aD eb ?_|simp[dU,hdi,q,gx]);all_goals exact bK.rng true dU ay bN
     ·rw[a7]at ay eb;simp[dU,hdi];(with_reducible repeat' first|refine aj ?_|refine aC (bC _) ?_|refine aD (bC _) ?_|refine aC eb ?_|refine aD eb ?_|simp[dU,hdi,q,gx]);all_goals exact bK.rng false dU ay bN
theorem mF.fst{s:List (List al)}{t:List al}{acc:List (List al)}(h:mF s 0 acc)(aK:s[0]? =some t):mF s 1 (if iO s t=true then acc++[t]else acc):=by
 unfold mF at*;rw[tg aK]at h;have e:(if(1:Nat)=0 then none else s[1-1]?)=some t:=by simpa using aK
 have cb:acc++(t::cG (some t) (s.drop 1)).filter (iO s)=(cG none s).filter (iO s):=by rw[←h];simp[cG]
 rw[e,←cb];by_cases ab:iO s t=true<;>simp[ab]
theorem mF.eq{s:List (List al)}{i:Nat}{t:List al}{acc:List (List al)}(h:mF s i acc)(hi:i≠0)(bG:s[i-1]? =some t)(aK:s[i]? =some t):mF s (i+1) acc:=by
 unfold mF at*;rw[if_neg hi,bG,tg aK]at h;have e:(if i+1=0 then none else s[i+1-1]?)=some t:=by rw[if_neg (by omega)];exact aK
 rw[e,←h];simp[cG]
theorem mF.ne{s:List (List al)}{i:Nat}{p t:List al}{acc:List (List al)}(h:mF s i acc)(hi:i≠0)(bG:s[i-1]? =some p)(aK:s[i]? =some t)(ay:¬p=t):mF s (i+1) (if iO s t=true then acc++[t]else acc):=by
 unfold mF at*;rw[if_neg hi,bG,tg aK]at h;have e:(if i+1=0 then none else s[i+1-1]?)=some t:=by rw[if_neg (by omega)];exact aK
 have aQ:cG (some p) (t::s.drop (i+1))=t::cG (some t) (s.drop (i+1)):=by simp[cG,ay]
 rw[aQ]at h;rw[e,←h];by_cases ab:iO s t=true<;>simp[ab]
theorem al8(l:List (List al)):(oT ev l).length=l.length:=(yP ev l).length_eq
theorem yh(S:aI→Prop)(l:List (List al))(d:List al):aH S (l.map cO++[cO d])=True:=by have:=K2 S (l++[d]);rw[qu]at this;exact eq_true this
set_option maxRecDepth 4000 in
theorem amT(l:List (List al))(jE:∀d∈l,eG d):bH ao 167 [.slice 1 .no (l.map cO)] (.slice 1 .no ((kZ l).map cO)):=by
 generalize bd:kZ l=R;rw[ahF]at bd;refine bh w4 abw ah8 fun aO=>?_;unfold OO;have eX:l.length≤68719476736:=by simp[eu,ed,ep,lim]at aO;omega
 simp;refine dw [0,12,13] (fun i (_:Unit)=>[(14,.int .i64 i)]) l.length (fun _ _=>True) () bN trivial (fun _ _ _=>?_) (fun i _ hi _ _=>?_);rotate_left
 ·obtain⟨e,he,J1⟩:=dT hi;have c4:bH ao 86 [cO e] (.bool true):=pP (jE e (dK he));exact gg
 simp;(with_reducible repeat' first|refine aj ?_|simp);all_goals first|(refine⟨by unfold lim;omega,?_⟩)|skip
 all_goals(with_reducible repeat' first|refine aj ?_|simp)
 refine c8.ob (aeg l eX) (H0 l) (by unfold tS dV;exact aR) (by unfold tS dV;exact aR) (by simp[inObs,dV,Pv.look]) ?_;rintro r ai ⟨rfl,rfl⟩;refine⟨xj _ _,?_⟩;obtain⟨s,CG⟩:∃s,s=oT ev l:=⟨_,rfl⟩;have p5:s.length=l.length:=by rw[CG];exact al8 l
 have ag:∀d∈s,eG d:=fun d aQ=>jE d (by rw[CG,W6]at aQ;exact aQ);rw[←CG]at bd;rw[←CG];clear CG;simp[tS,dV,cz];refine ho (fun i (acc:List (List al))=>⟨[(5,.ptr (.obj 822) 0),(6,.slice 1 (.own (.loc 0)) (acc.map cO)),(30,.row 1 (.obj 821) s.length),(31,.int .i64 s.length),(32,.int .i64 i)],[(.obj 822,[.row 1 (.obj 821) s.length])],[(.loc 0,⟨acc.length,46,1,none⟩),(.obj 821,⟨s.length,46,1,some (s.map cO)⟩)],1,[.obj 821,.obj 822]⟩) s.length (fun i acc=>acc.length≤i∧mF s i acc) [] bN ⟨by simp,by simp[mF]⟩ (fun acc ae _=>?_) (fun i acc hi ae _=>?_)
 ·have ae:=ae.2;rw[mF,sv]at ae;have:acc=R:=by rw[←bd];simpa[cG]using ae
  subst this;exact bY
 ·obtain⟨apJ,ae⟩:=ae;have qN:acc.length≤68719476735:=by omega
  obtain⟨t,ig,aK⟩:=dT hi;have dd:=ag t (dK ig);have kE:bH ao 168 [cO t] (cO t):=XM t dd.len;have hc:(if iO s t=true then acc++[t]else acc).length≤acc.length+1:=by split<;>simp
  rcases Nat.eq_zero_or_pos i with rfl|fs
  ·have SY:=ae.fst ig;have fq:(if iO s t=true then acc++[t]else acc).length≤0+1∧mF s (0+1) (if iO s t=true then acc++[t]else acc):=⟨jT hc (by omega),SY⟩;clear ae SY ig;simp[hi,aK];(with_reducible repeat' first|refine aj ?_|simp[hi,aK]);refine dw [5,6,8,30,31,32,49,50] (fun j (b:Bool)=>[(9,.bool b),(51,.int .i64 j)]) s.length (p9 s t) true bN (by simp[p9]) (fun keep ae _=>?_) (fun j keep dU ae _=>?_)
   ·rw[p9,mj,←TV]at ae;rw[←ae]at fq;clear ae;cases keep with
    |false=>simp only[gX,if_false]at fq;simp;((with_reducible repeat' first|refine aj ?_|simp|((first|apply bP|apply bR|apply bQ)<;>intro h<;>try simp at h))<;>(try exact cm));all_goals exact bK.rng acc hi fq bN
    |true=>
     simp only[if_true]at fq;clear hc;simp;((with_reducible repeat' first|refine aj ?_|refine aC kE ?_|refine aD kE ?_|simp|((first|apply bP|apply bR|apply bQ)<;>intro h<;>try simp at h))<;>(try exact cm));all_goals first|(refine⟨by unfold lim;omega,?_⟩)|skip
     all_goals(with_reducible repeat' first|refine aj ?_|simp)
     all_goals exact bK.rng (acc++[t]) hi fq ⟨by simp[fresh,aH,aB,b9,inObs,Pv.look,yh],dZ (by simp[fresh,aH,aB,b9,inObs,Pv.look,yh]),ea (by simp[fresh,aH,aB,dN,inObs,Pv.look,yh]),by simp⟩
   ·obtain⟨d,aQ,hdi⟩:=dT dU;have ay:=ae.step aQ;have jW:=ag d (dK aQ);have eb:bH ao 208 [cO d,cO t] (.bool (nu d t)):=X2 d jW.len dd;have oL:bH ao 207 [cO d,cO t] (.int .i64 (ev d t)):=HR d t;clear ae aQ fq;by_cases q:ev d t=0
    ·rw[wy,gJ ((lQ.zero _ _).1 q),Bool.true_or,Bool.and_true]at ay;rw[q]at oL;simp[dU,hdi];((with_reducible repeat' first|refine aj ?_|refine aC oL ?_|refine aD oL ?_|simp[dU,hdi]|((first|apply bP|apply bR|apply bQ)<;>intro h<;>try simp at h))<;>(try exact cm));all_goals exact bK.rng keep dU ay bN
    ·rw[wy,iB (fun h=>q ((lQ.zero _ _).2 h)),Bool.false_or]at ay;have gx:(ev d t !=0)=true:=by simp[q]
     cases a7:nu d t
     ·rw[a7]at ay eb;simp only[Bool.not_false,Bool.and_true]at ay;simp[dU,hdi];((with_reducible repeat' first|refine aj ?_|refine aC oL ?_|refine aD oL ?_|refine aC eb ?_|refine aD eb ?_|simp[dU,hdi,q,gx]|((first|apply bP|apply bR|apply bQ)<;>intro h<;>try simp at h))<;>(try exact cm));all_goals exact bK.rng keep dU ay bN
     ·rw[a7]at ay eb;simp only[Bool.not_true,Bool.and_false]at ay;simp[dU,hdi];((with_reducible repeat' first|refine aj ?_|refine aC oL ?_|refine aD oL ?_|refine aC eb ?_|refine aD eb ?_|simp[dU,hdi,q,gx]|((first|apply bP|apply bR|apply bQ)<;>intro h<;>try simp at h))<;>(try exact cm));all_goals exact bK.rng false dU ay bN
  ·obtain⟨p,zY⟩:∃p,s[i-1]? =some p:=⟨_,bZ (by omega)⟩;have ak:((i:Int)-1).toNat=i-1:=by omega
   have aE:∀h,(s[i-1]'h)=p:=fun h=>by rw[bZ h]at zY;exact eE zY
   have bj:¬i=0:=by omega
   have c2:i-1<s.length:=by omega
   have iM:(0:Int)<i:=by omega
   have fO:bH ao 207 [cO p,cO t] (.int .i64 (ev p t)):=HR p t;by_cases FP:p=t
   ·have fq:acc.length≤i+1∧mF s (i+1) acc:=⟨by omega,ae.eq bj (by rw[zY,FP]) ig⟩;rw[(lQ.zero _ _).2 FP]at fO;clear ae ig zY;simp[hi,aK,ak,aE,c2,iM];((with_reducible repeat' first|refine aj ?_|refine aC fO ?_|refine aD fO ?_|simp[hi,aK,ak,aE,c2,fs,iM]|((first|apply bP|apply bR|apply bQ)<;>intro h<;>try simp at h))<;>(try exact cm));all_goals exact bK.rng acc hi fq bN
   ·have fq:(if iO s t=true then acc++[t]else acc).length≤i+1∧mF s (i+1) (if iO s t=true then acc++[t]else acc):=⟨jT hc (by omega),ae.ne bj zY ig FP⟩;have oP:¬ev p t=0:=fun h=>FP ((lQ.zero _ _).1 h);have VC:(ev p t==0)=false:=by simp[oP]
    clear ae ig zY;simp[hi,aK,ak,aE,c2,iM];((with_reducible repeat' first|refine aj ?_|refine aC fO ?_|refine aD fO ?_|simp[hi,aK,ak,aE,c2,fs,iM,oP,VC]|((first|apply bP|apply bR|apply bQ)<;>intro h<;>try simp at h))<;>(try exact cm));refine dw [5,6,8,30,31,32,49,50] (fun j (b:Bool)=>[(9,.bool b),(51,.int .i64 j)]) s.length (p9 s t) true bN (by simp[p9]) (fun keep ae _=>?_) (fun j keep dU ae _=>?_)
    ·rw[p9,mj,←TV]at ae;rw[←ae]at fq;clear ae;cases keep with
     |false=>simp only[gX,if_false]at fq;simp;((with_reducible repeat' first|refine aj ?_|simp|((first|apply bP|apply bR|apply bQ)<;>intro h<;>try simp at h))<;>(try exact cm));all_goals exact bK.rng acc hi fq bN
     |true=>
      simp only[if_true]at fq;clear hc;simp;(with_reducible repeat' first|refine aj ?_|refine aC kE ?_|refine aD kE ?_|simp);all_goals first|(refine⟨by unfold lim;omega,?_⟩)|skip
      all_goals(with_reducible repeat' first|refine aj ?_|simp)
      all_goals exact bK.rng (acc++[t]) hi fq ⟨by simp[fresh,aH,aB,b9,inObs,Pv.look,yh],dZ (by simp[fresh,aH,aB,b9,inObs,Pv.look,yh]),ea (by simp[fresh,aH,aB,dN,inObs,Pv.look,yh]),by simp⟩
    ·obtain⟨d,aQ,hdi⟩:=dT dU;have ay:=ae.step aQ;have jW:=ag d (dK aQ);have eb:bH ao 208 [cO d,cO t] (.bool (nu d t)):=X2 d jW.len dd;have oL:bH ao 207 [cO d,cO t] (.int .i64 (ev d t)):=HR d t;clear ae aQ fq;by_cases q:ev d t=0
     ·rw[wy,gJ ((lQ.zero _ _).1 q),Bool.true_or,Bool.and_true]at ay;rw[q]at oL;simp[dU,hdi];((with_reducible repeat' first|refine aj ?_|refine aC oL ?_|refine aD oL ?_|simp[dU,hdi]|((first|apply bP|apply bR|apply bQ)<;>intro h<;>try simp at h))<;>(try exact cm));all_goals exact bK.rng keep dU ay bN
     ·rw[wy,iB (fun h=>q ((lQ.zero _ _).2 h)),Bool.false_or]at ay;have gx:(ev d t !=0)=true:=by simp[q]
      cases a7:nu d t
      ·rw[a7]at ay eb;simp only[Bool.not_false,Bool.and_true]at ay;simp[dU,hdi];((with_reducible repeat' first|refine aj ?_|refine aC oL ?_|refine aD oL ?_|refine aC eb ?_|refine aD eb ?_|simp[dU,hdi,q,gx]|((first|apply bP|apply bR|apply bQ)<;>intro h<;>try simp at h))<;>(try exact cm));all_goals exact bK.rng keep dU ay bN
      ·rw[a7]at ay eb;simp only[Bool.not_true,Bool.and_false]at ay;simp[dU,hdi];((with_reducible repeat' first|refine aj ?_|refine aC oL ?_|refine aD oL ?_|refine aC eb ?_|refine aD eb ?_|simp[dU,hdi,q,gx]|((first|apply bP|apply bR|apply bQ)<;>intro h<;>try simp at h))<;>(try exact cm));all_goals exact bK.rng false dU ay bN
theorem anY(l:List T)(h:∀t∈l,t.fit=true):bH ao 172 [.slice 4 .no (l.map T.e)] (.bool true):=by
 refine bh fK ab9 aiM fun aO=>?_;unfold Ps;have eX:l.length≤68719476736:=by simp[eu,ed,ep,lim]at aO;omega
 simp;refine dw [5,6] (fun i (_:Unit)=>[(7,.int .i64 i)]) l.length (fun _ _=>True) () bN trivial (fun _ _ _=>?_) (fun i _ hi _ _=>?_)
 ·exact bY
 ·obtain⟨t,aK,ig⟩:=dT hi;have dp:=HL (h t (dK aK));clear aK;exact gg
def iD(m:Int):cK:=⟨[(.obj 831,[.int .i64 m])],[]⟩
theorem vt(m:Int):eh (iD m):=by unfold iD;exact eh.of ⟨by intro m;simp[Pv.look],by intro m;simp[Pv.look]⟩ (by simp) (by simp)
theorem YK(a b:Int):Same (iD a) (iD b):=Same.keys (by simp[iD]) (by simp[iD])
theorem adS(v m ht:Int)(h:Ea v m=some ht):bU ao 204 [.int .i64 v,.ptr (.obj 831) 0] (iD m) fun r ai=>r= .tuple []∧ai=iD ht:=by
 unfold Ea at h;split at h;rotate_left
 ·cases h
 rename_i aF;cases h;have ag:=vt m;simp only[iD]at ag⊢;by_cases hm:m<v+1
 ·rw[sl,if_pos hm];refine bU.mk mixed w4 Rs U9 (by simp) ag.obj fun aO cL=>?_;unfold Iz;simp;(with_reducible repeat' first|refine aj ?_|simp[hm]);(refine cV.at (iD (v+1)) (by simp) (by first|exact vt _|exact vt ‹_› _) (Same.keys (by simp[iD]) (by simp[iD])) (by simp only[iD,bX,b2];exact aR) (by simp only[iD,bX,b2];exact aR) ?_;simp[c1,Mb,aX,aY,aW,inObs,Pv.look,iD])
 ·rw[sl,if_neg hm];refine bU.mk mixed w4 Rs U9 (by simp) ag.obj fun aO cL=>?_;unfold Iz;simp;(with_reducible repeat' first|refine aj ?_|simp[hm]);(refine cV.at (iD m) (by simp) (by first|exact vt _|exact vt ‹_› _) (Same.keys (by simp[iD]) (by simp[iD])) (by simp only[iD,bX,b2];exact aR) (by simp only[iD,bX,b2];exact aR) ?_;simp[c1,Mb,aX,aY,aW,inObs,Pv.look,iD])
def D9(l:List T):Int:=l.foldl (fun m t=>t.fold sl m) 0
def F9(l:List T)(i:Nat)(m:Int):Prop:=m=D9 (l.take i)
theorem amY(l:List T)(h:∀t∈l,t.fit=true):bH ao 162 [.slice 4 .no (l.map T.e)] (.int .i64 (D9 l)):=by
 have dp:=anY l h;generalize bd:D9 l=R;refine bh w4 abD aif fun aO=>?_;unfold OV;have eX:l.length≤68719476736:=by simp[eu,ed,ep,lim]at aO;omega
 simp;(with_reducible repeat' first|refine aj ?_|refine aC dp ?_|refine aD dp ?_|simp);refine ho (fun i (m:Int)=>⟨[(3,.ptr (.obj 831) 0),(9,.slice 4 .no (l.map T.e)),(10,.int .i64 l.length),(11,.int .i64 i)],[(.obj 831,[.int .i64 m])],[],0,[.obj 831]⟩) l.length (F9 l) 0 bN rfl (fun m ae _=>?_) (fun i m hi ae _=>?_)
 ·rw[F9,mj,bd]at ae;subst ae;exact bY
 ·obtain⟨t,aK,ig⟩:=dT hi;have ae1:t.ok=true:=by have:=h t (dK aK);simp only[T.fit,cC]at this;exact this.1
  have ay:F9 l (i+1) (t.fold sl m):=by rw[F9,oY aK,D9,List.foldl_append,ae];rfl
  have key:=JF iD vt YK 204 [.ptr (.obj 831) 0] (fun a=>by simp[iD,inObs,Pv.look]) (by simp) Ea (fun v a bp h=>adS v a bp h) t m _ (Nz t m ae1);clear ae aK;simp[hi,ig];(with_reducible repeat' first|refine aj ?_|simp[ig,hi]);(refine c8.ob (key) (by first|exact vt _|exact vt ‹_› _) (by simp only[iD,bX,b2];exact aR) (by simp only[iD,bX,b2];exact aR) (by simp[inObs,Pv.look,iD]) ?_;rintro r ai ⟨rfl,rfl⟩;refine⟨(Same.keys (by simp[iD]) (by simp[iD])),?_⟩;simp[cz,iD]);(with_reducible repeat' first|refine aj ?_|simp);refine bK.rng (t.fold sl m) hi ay ?_;exact bN
theorem XL{s:List al}(ag:eG s){n:Int}(ay:0≤n):bH ao 89 [.slice 5 .no (s.map al.e),.int .i64 n] (.bool (s.all (kT n))):=by
 have p5:=ag.len;generalize bd:s.all (kT n)=R;refine bh w4 abF aii fun aO=>?_;unfold OX;simp;refine dw [1,7,8] (fun i (_:Unit)=>[(9,.int .i64 i)]) s.length (kD (kT n) s) () bN (fun k b ab=>by omega) (fun _ ae _=>?_) (fun i _ hi ae _=>?_)
 ·have:R=true:=by rw[←bd,gn];intro b ad;obtain⟨k,ab,e⟩:=nG ad;exact ae k b ab (by rw[bZ ab,e])
  rw[this];exact bY
 ·obtain⟨b,aF,fJ⟩:=dT hi;have eV:kT n b=false→R=false:=fun h=>by rw[←bd,Bool.eq_false_iff];intro cb;rw[gn]at cb;rw[cb b (dK aF)]at h;cases h
  have mG:=amY [b.t] (fun t aK=>by simp at aK;subst aK;exact ag.fit b (dK aF));have hle:=NA (n:=n) b.t 0;rw[show D9 [b.t]=b.t.fold sl 0 from rfl]at mG;simp only[gO,List.map_nil]at mG;generalize b.t.fold sl 0=m at mG hle;by_cases J:b.v<n
  ·have nP:¬n≤b.v:=by omega
   cases U:iH n b.t
   ·have ar:n<m:=by rw[U]at hle;simp at hle;omega
    rw[eV (by simp[kT,U])];clear ae aF hle;exact bY
   ·have ar:¬n<m:=by rw[U]at hle;simp[ay]at hle;omega
    have zV:=ae.step aF (by simp[kT,J,U]);clear ae aF hle;exact gg
  ·have nP:n≤b.v:=by omega
   rw[eV (by simp[kT,J])];clear ae aF hle;exact bY
def vx:C:=(aa [cM 1 0,be 2 false] (.seq (aa [aG 11 0 1 1,av 12 1 11,aS 13 .lss 12 0,I 14 13,aq 14 false (aG 15 0 1 1),aq 14 false (av 16 1 15),aq 14 false (aS 17 .gtr 16 100000),cY 18 14 17,I 19 18,aq 19 false (aG 20 1 1 1),aq 19 false (av 21 1 20),aq 19 false (cJ 22 86 21),aq 19 false (cy 23 22),cY 24 19 23,I 25 24,aq 25 false (aG 26 3 1 1),aq 25 false (av 27 1 26),aq 25 false (cJ 28 87 27),aq 25 false (cy 29 28),cY 30 25 29,I 31 30,aq 31 false (aG 32 4 1 1),aq 31 false (av 33 1 32),aq 31 false (cJ 34 88 33),aq 31 false (cy 35 34),cY 36 31 35,I 37 36,aq 37 false (aG 38 1 1 1),aq 37 false (av 39 1 38),aq 37 false (aG 40 0 1 1),aq 37 false (av 41 1 40),aq 37 false (b3 42 89 39 41),aq 37 false (cy 43 42),cY 44 37 43] (aT 44 (aa [be 2 false] .ret) .skip)) (.seq (aa [aG 45 2 1 1,av 46 1 45,b7 47 46,bJ 48 0] (e0 49 48 47 (.seq (.block 1 (aa [cd 50 1 46 48,av 51 1 50,I 4 51] (aa [I 52 4,cJ 53 86 52,cy 54 53,I 55 54,bW 55 false 56 4,aq 55 false (aG 57 0 1 1),aq 55 false (av 58 1 57),aq 55 false (b3 59 89 56 58),aq 55 false (cy 60 59),cY 61 55 60] (aT 61 (aa [be 2 false] .ret) .skip)))) (.region [aS 62 .add 48 1,I 48 62])))) (.seq (aa [aG 63 3 1 1,av 64 1 63,b7 65 64,bJ 66 0] (.block 2 (.loop (aa [bg 67 .lss 66 65] (.seq (aT 67 .skip (.exit 2)) (.seq (.block 3 (aa [cd 68 2 64 66,a6 69 2 68,cW (.alloc 6 none (.agg [.int .i64 0,.int .i64 0])),bT 2 6 69] (aa [aG 70 0 1 6,av 71 1 70,aG 72 0 1 1,av 73 1 72,bg 74 .geq 71 73] (aT 74 (aa [be 2 false] .ret) .skip)))) (.region [aS 75 .add 66 1,I 66 75]))))))) (.seq (aa [aG 76 4 1 1,av 77 1 76,b7 78 77,bJ 79 0] (.block 4 (.loop (aa [bg 80 .lss 79 78] (.seq (aT 80 .skip (.exit 4)) (.seq (.block 5 (aa [cd 81 2 77 79,a6 82 2 81,cW (.alloc 8 none (.agg [.int .i64 0,.str []])),bT 2 8 82] (aa [aG 83 0 1 8,av 84 1 83,aG 85 0 1 1,av 86 1 85,bg 87 .geq 84 86] (aT 87 (aa [be 2 false] .ret) .skip)))) (.region [aS 88 .add 79 1,I 79 88]))))))) (aa [a6 90 5 1,cJ 91 90 90,I 89 91,cH 92 0 89,cH 93 1 89,dg 9 oM,bT 5 9 92,I 10 93] (aa [I 94 10,I 95 94,aq 95 true (a6 96 5 9),aq 95 true (a6 97 5 1),aq 95 true (b3 98 91 96 97),du 99 95 98,I 2 99] .ret)))))))
@[simp] def akp:List bA:=[.tmp 2]
def EJ:C:=(aa [cM 1 0,dg 2 oM,be 3 false] (aa [aG 26 1 1 1,av 27 1 26,aG 28 3 1 1,av 29 1 28,b3 30 163 27 29,I 25 30,cH 31 0 25,cH 32 1 25,I 4 31,I 5 32] (aa [aG 34 1 1 1,av 35 1 34,aG 36 4 1 1,av 37 1 36,b3 38 164 35 37,I 33 38,cH 39 0 33,cH 40 1 33,I 6 39,I 7 40] (.seq (aa [I 41 5,cy 42 41,I 43 42,bW 43 false 44 7,aq 43 false (cy 45 44),cY 46 43 45] (aT 46 (aa [jQ 47 oM [],bT 5 2 47,be 3 false] .ret) .skip)) (aa [cW (.mkmap 48 none),I 8 48] (.seq (aa [I 49 4,b7 50 49,bJ 51 0] (e0 52 51 50 (.seq (.block 1 (aa [cd 53 2 49 51,a6 54 2 53,cW (.alloc 10 none (.agg [.int .i64 0,.int .i64 0])),bT 2 10 54] (aa [aG 55 1 1 10,av 56 1 55,aS 57 .eql 56 3] (aT 57 (.region [I 58 8,aG 59 0 1 10,av 60 1 59,cW (.mput .i (.t 58) (.t 60) (.c (.bool true)))]) .skip)))) (.region [aS 61 .add 51 1,I 51 61])))) (aa [eD 62 2 100 [],I 11 62] (.seq (aa [I 63 6,b7 64 63,bJ 65 0] (.block 2 (.loop (aa [bg 66 .lss 65 64] (.seq (aT 66 .skip (.exit 2)) (.seq (.block 3 (aa [cd 67 2 63 65,a6 68 2 67,cW (.alloc 13 none (.agg [.int .i64 0,.str []])),bT 2 13 68] (aa [I 69 8,aG 70 0 1 13,av 71 1 70,ca 72 (.mget .i (.bool false) false (.t 69) (.t 71)),cy 73 72] (aT 73 (.region [I 74 11,a6 75 2 13,eD 76 2 100 [.t 75],hF 77 2 100 74 76,I 11 77]) .skip)))) (.region [aS 78 .add 65 1,I 65 78]))))))) (aa [eD 79 1 46 [],I 14 79] (.seq (aa [aG 80 2 1 1,av 81 1 80,b7 82 81,bJ 83 0] (.block 4 (.loop (aa [bg 84 .lss 83 82] (.seq (aT 84 .skip (.exit 4)) (.seq (.block 5 (aa [cd 85 1 81 83,av 86 1 85,I 16 86] (aa [aG 88 1 1 1,av 89 1 88,I 90 16,b3 91 165 89 90,I 87 91,cH 92 0 87,cH 93 1 87,I 17 92,I 18 93] (.seq (aa [I 94 18,cy 95 94] (aT 95 (.exit 5) .skip)) (aa [I 97 17,I 98 4,b3 99 163 97 98,I 96 99,cH 100 0 96,cH 101 1 96,I 19 100,I 20 101] (aa [I 103 17,I 104 11,b3 105 164 103 104,I 102 105,cH 106 0 102,cH 107 1 102,I 21 106,I 22 107] (.seq (aa [I 108 20,cy 109 108,I 110 109,bW 110 false 111 22,aq 110 false (cy 112 111),cY 113 110 112] (aT 113 (.exit 5) .skip)) (aa [aG 114 1 1 1,av 115 1 114,I 116 17,b3 117 166 115 116,I 23 117] (.seq (aa [I 118 23,b7 119 118,aS 120 .eql 119 0] (aT 120 (aa [jQ 121 oM [],bT 5 2 121,be 3 false] .ret) .skip)) (.region [I 122 14,I 123 23,eD 124 1 46 [.t 123],hF 125 1 46 122 124,I 14 125])))))))))) (.region [aS 126 .add 83 1,I 83 126]))))))) (aa [I 127 14,cJ 128 167 127,I 24 128] (.seq (aa [I 129 24,b7 130 129,aS 131 .gtr 130 30] (aT 131 (aa [jQ 132 oM [],bT 5 2 132,be 3 false] .ret) .skip)) (.seq (.drawn true 142 [aG 133 0 1 1,av 134 1 133,aG 135 1 1 1,av 136 1 135,cJ 137 168 136,I 138 24,I 139 4,I 140 11,jQ 141 oM [(0,1,(.t 134)),(1,1,(.t 137)),(2,1,(.t 138)),(3,1,(.t 139)),(4,1,(.t 140))],bT 5 2 141,be 3 true]) .ret)))))))))))))
@[simp] def AS:List bA:=[.cell 2 true 5,.tmp 3]
def xu:C:=(aa [cM 2 0,cM 3 1,be 4 false] (.seq (aa [aG 8 0 1 2,av 9 1 8,aG 10 0 1 3,av 11 1 10,bg 12 .neq 9 11,I 13 12,aq 13 false (aG 14 1 1 2),aq 13 false (av 15 1 14),aq 13 false (aG 16 1 1 3),aq 13 false (av 17 1 16),aq 13 false (b3 18 169 15 17),aq 13 false (cy 19 18),cY 20 13 19,I 21 20,aq 21 false (aG 22 2 1 2),aq 21 false (av 23 1 22),aq 21 false (b7 24 23),aq 21 false (aG 25 2 1 3),aq 21 false (av 26 1 25),aq 21 false (b7 27 26),aq 21 false (bg 28 .neq 24 27),cY 29 21 28,I 30 29,aq 30 false (aG 31 3 1 2),aq 30 false (av 32 1 31),aq 30 false (b7 33 32),aq 30 false (aG 34 3 1 3),aq 30 false (av 35 1 34),aq 30 false (b7 36 35),aq 30 false (bg 37 .neq 33 36),cY 38 30 37,I 39 38,aq 39 false (aG 40 4 1 2),aq 39 false (av 41 1 40),aq 39 false (b7 42 41),aq 39 false (aG 43 4 1 3),aq 39 false (av 44 1 43),aq 39 false (b7 45 44),aq 39 false (bg 46 .neq 42 45),cY 47 39 46] (aT 47 (aa [be 4 false] .ret) .skip)) (.seq (aa [aG 48 2 1 2,av 49 1 48,b7 50 49,bJ 51 0] (e0 52 51 50 (.seq (.block 1 (aa [I 53 51,I 5 53] (.seq (.drawn true 103 [aG 54 2 1 2,av 55 1 54,I 56 5,cd 57 1 55 56,av 58 1 57,aG 59 2 1 3,av 60 1 59,I 61 5,cd 62 1 60 61,av 63 1 62,b3 64 169 58 63,cy 65 64]) (aT 65 (aa [be 4 false] .ret) .skip)))) (.region [aS 66 .add 51 1,I 51 66])))) (.seq (aa [aG 67 3 1 2,av 68 1 67,b7 69 68,bJ 70 0] (.block 2 (.loop (aa [bg 71 .lss 70 69] (.seq (aT 71 .skip (.exit 2)) (.seq (.block 3 (aa [I 72 70,I 6 72] (.seq (.drawn true 103 [aG 73 3 1 2,av 74 1 73,I 75 6,cd 76 2 74 75,a6 77 2 76,aG 78 3 1 3,av 79 1 78,I 80 6,cd 81 2 79 80,a6 82 2 81,ca 83 (.beq true (some [false,false]) (.t 77) (.t 82))]) (aT 83 (aa [be 4 false] .ret) .skip)))) (.region [aS 84 .add 70 1,I 70 84]))))))) (.seq (aa [aG 85 4 1 2,av 86 1 85,b7 87 86,bJ 88 0] (.block 4 (.loop (aa [bg 89 .lss 88 87] (.seq (aT 89 .skip (.exit 4)) (.seq (.block 5 (aa [I 90 88,I 7 90] (.seq (.drawn true 103 [aG 91 4 1 2,av 92 1 91,I 93 7,cd 94 2 92 93,a6 95 2 94,aG 96 4 1 3,av 97 1 96,I 98 7,cd 99 2 97 98,a6 100 2 99,ca 101 (.beq true (some [false,true]) (.t 95) (.t 100))]) (aT 101 (aa [be 4 false] .ret) .skip)))) (.region [aS 102 .add 88 1,I 88 102]))))))) (aa [be 4 true] .ret))))))
@[simp] def G4:List bA:=[.tmp 4]
def HF:List (Nat×dF):=[
 (3,⟨1,8,.int .i64,.int .i64 0⟩),
 (4,⟨1,1,.bool,.bool false⟩),
 (9,⟨1,16,.str,.str []⟩),
 (46,⟨1,24,.slice 113,.slice 5 .nil []⟩),
 (47,⟨1,24,.slice 46,.slice 1 .nil []⟩),
 (48,⟨1,24,.slice 98,.slice 2 .nil []⟩),
 (49,⟨1,24,.slice 100,.slice 2 .nil []⟩),
 (51,⟨5,104,.struct [(0,3),(1,46),(2,47),(3,48),(4,49)],.agg [.int .i64 0,.slice 5 .nil [],.slice 1 .nil [],.slice 2 .nil [],.slice 2 .nil []]⟩),
 (98,⟨2,16,.struct [(0,3),(1,3)],.agg [.int .i64 0,.int .i64 0]⟩),
 (100,⟨2,24,.struct [(0,3),(1,9)],.agg [.int .i64 0,.str []]⟩),
 (136,⟨1,8,.map 3 4,.junk⟩)]
theorem n9:fP ao HF=true:=by kernel_rfl
theorem yt:b1 HF vx akp 1 Tryz.f29=true:=by kernel_rfl
theorem xx:ao.funcs[(29:Nat)]? =some Tryz.f29:=Tryz.func29
theorem LM:b1 HF EJ AS 1 Tryz.f90=true:=by kernel_rfl
theorem Jn:ao.funcs[(90:Nat)]? =some Tryz.f90:=Tryz.func90
theorem AH:b1 HF xu G4 2 Tryz.f91=true:=by kernel_rfl
theorem zt:ao.funcs[(91:Nat)]? =some Tryz.f91:=Tryz.func91
def dS.e(s:dS):ah:= .agg [.int .i64 s.n,.slice 5 .no (s.b.map al.e),.slice 1 .no (s.d.map cO),.slice 2 .no (s.k.map bM.e),.slice 2 .no (s.m.map bm.e)]
@[simp] theorem aq0(S:aI→Prop)(s:dS):aB S s.e=True:=by simp[dS.e,aB,aH]
def ve(o:aZ dS):ah:= .tuple [(o.getD rh).e,.bool o.isSome]
@[simp] theorem aqY(S:aI→Prop)(o:aZ dS):aB S (ve o)=True:=by simp[ve,aB,aH]
def uM(k:List bM)(i:Nat)(l:List (Int×Bool)):Prop:= ∀v,(c5 v l).getD false=(k.take i).any fun x=>x.v==v&&x.k==3
theorem uM.put{k:List bM}{i:Nat}{l:List (Int×Bool)}(h:uM k i l){x:bM}(af:k[i]? =some x)(ar:x.k=3):uM k (i+1) (eP x.v true l):=fun v=>by
 rw[nB,oY af,List.any_append,←h v];by_cases e:v=x.v
 ·rw[if_pos e];simp[e,ar]
 ·rw[if_neg e];have:(x.v==v)=false:=by simp;exact fun h=>e h.symm
  simp[this]
theorem uM.skip{k:List bM}{i:Nat}{l:List (Int×Bool)}(h:uM k i l){x:bM}(af:k[i]? =some x)(ar:¬x.k=3):uM k (i+1) l:=fun v=>by
 rw[oY af,List.any_append,←h v];have:(x.k==3)=false:=by simp[ar]
 simp[this]
theorem uM.fin{k:List bM}{l:List (Int×Bool)}(h:uM k k.length l)(ab:fO k)(x:bm):(c5 x.v l).getD false= !kJ k x:=by rw[h x.v,mj,YY ab.asc,kJ,bne,Bool.not_not]
def tb(k:List bM)(m:List bm)(i:Nat)(a:List bm):Prop:=a=(m.take i).filter (kJ k)
theorem tb.step{k:List bM}{m:List bm}{i:Nat}{a:List bm}(h:tb k m i a){x:bm}(af:m[i]? =some x):tb k m (i+1) (if kJ k x=true then a++[x]else a):=by
 rw[tb,oY af,List.filter_append,←h];by_cases e:kJ k x=true
 ·rw[if_pos e];simp[e]
 ·rw[if_neg e];simp[e]
theorem Al(S:aI→Prop)(l:List bm)(d:bm):aH S (l.map bm.e++[d.e])=True:=by have:=K1 S (l++[d]);rw[qu]at this;exact eq_true this
theorem UC{k:List bM}{m:List bm}(h:il m):il (m.filter (kJ k)):=⟨fun x af=>h.at' x (nH.1 af).1,Yt _ h.asc⟩
theorem Xo{G:List (List dE)}{k:List bM}{m:List bm}(h:n5 G m):n5 G (m.filter (kJ k)):=fun x af=>h x (nH.1 af).1
theorem qa.skip{b:List al}{k:List bM}{m:List bm}{D:List (List al)}{i:Nat}{a:List (List al)}(h:qa b k m D i a){d:List al}(aQ:D[i]? =some d)(he:∀r,gL b k m (d::r)=gL b k m r):qa b k m D (i+1) a:=⟨by have:=h.1;omega,h.2.1,by rw[←h.2.2,tg aQ,he]⟩
theorem qa.snoc{b:List al}{k:List bM}{m:List bm}{D:List (List al)}{i:Nat}{a:List (List al)}(h:qa b k m D i a){d x:List al}(aQ:D[i]? =some d)(af:eG x)(he:∀r,gL b k m (d::r)=(gL b k m r).map (x:: ·)):qa b k m D (i+1) (a++[x]):=
 ⟨by have:=h.1;simp;omega,fun y aM=>by
  rcases kQ.1 aM with aM|aM
  ·exact h.2.1 y aM
  ·simp at aM;subst aM;exact af,by
  rw[←h.2.2,tg aQ,he,Option.map_map];congr 1;funext r;simp⟩
theorem qa.stop{b:List al}{k:List bM}{m:List bm}{D:List (List al)}{i:Nat}{a:List (List al)}(h:qa b k m D i a){d:List al}(aQ:D[i]? =some d)(he:∀r,gL b k m (d::r)=none):gL b k m D=none:=by rw[←h.2.2,tg aQ,he];rfl
theorem qa.fin{b:List al}{k:List bM}{m:List bm}{D:List (List al)}{a:List (List al)}(h:qa b k m D D.length a):gL b k m D=some a:=by rw[←h.2.2,sv];simp[gL]
theorem uP(S:aI→Prop)(l:List (List al))(d:List al):aH S (l.map cO++[.slice 5 .no (d.map al.e)])=True:=yh S l d
theorem BM{d:List al}(aQ:eG d):∀e∈hJ d,e.1.ok=true∧e.2.ok=true:=fun e he=>by obtain⟨c,au,rfl⟩:=h5.1 he;have:=aQ.ok c au;exact⟨by simpa[T.ok]using this.1,this.2⟩
set_option maxRecDepth 4000 in
theorem anO{s:dS}(h:vk s){G:List (List dE)}(nc:G.length≤687000)(a7:n5 G s.m):bH ao 90 [s.e] (ve (nA s)):=by
 generalize di:nA s=O;have kG:=XH h.b h.k;have kH:=XI h.b h.m nc a7;have hD:=fun k=>Hb (acc:=[]) (a:=k) h.b h.k.at' ⟨by simp,by simp⟩;have qj:=fun m=>Hc (acc:=[]) (a:=m) h.b h.m.at' ⟨by simp,by simp[hN]⟩;have na:=fun m=>My (acc:=[]) (a:=m) (s:=s.b) a7 (fun x af=>by simp at af);have ad:=h.b;have aQ:=h.d;clear h a7;unfold nA at di;obtain⟨n,b,d,fj,m0⟩:=s;simp only at kG kH hD qj na ad aQ di;have fb:=ad.len;simp only[dS.e];generalize gh b fj []=ok at kG di hD;generalize gi b m0 []=om at kH di qj na;cases ok with
 |none=>
  simp only at di;subst di;simp only[fY]at kG;simp only[jj]at kH;clear hD qj na;refine bh n9 Jn LM fun aO=>?_;unfold EJ;simp;(with_reducible repeat' first|refine aj ?_|refine aC kG ?_|refine aD kG ?_|refine aC kH ?_|refine aD kH ?_|simp);all_goals simp[bt,AS,aX,aY,aW]
  all_goals simp[ve,rh,dS.e]
 |some k=>
  simp only at di;cases om with
  |none=>
   simp only at di;subst di;simp only[fY]at kG;simp only[jj]at kH;clear hD qj na;refine bh n9 Jn LM fun aO=>?_;unfold EJ;simp;(with_reducible repeat' first|refine aj ?_|refine aC kG ?_|refine aD kG ?_|refine aC kH ?_|refine aD kH ?_|simp);all_goals simp[bt,AS,aX,aY,aW]
   all_goals simp[ve,rh,dS.e]
  |some m=>
   simp only at di;have vT:=hD k rfl;have xY:=qj m rfl;have xR:=na m rfl;have hK:=td vT;have ki:m.length≤68719470000:=by have:=C7 xY xR;omega
   have zT:=UC (k:=k) xY;have zM:=Xo (k:=k) xR;have afr:(m.filter (kJ k)).length≤68719470000:=jT (List.length_filter_le _ _) ki;simp only[fY,ka,pT]at kG;simp only[jj,ka,pT]at kH;clear hD qj na;refine bh n9 Jn LM fun aO=>?_;unfold EJ;have uu:d.length≤68719476736:=by simp[eu,ed,ep,lim]at aO;omega
   simp;(with_reducible repeat' first|refine aj ?_|refine aC kG ?_|refine aD kG ?_|refine aC kH ?_|refine aD kH ?_|simp);refine ho (fun i (l:List (Int×Bool))=>⟨[(1,.ptr (.loc 0) 0),(2,.ptr (.loc 1) 0),(4,.slice 2 .no (k.map bM.e)),(6,.slice 2 .no (m.map bm.e)),(8,.gmap (.loc 2)),(49,.slice 2 .no (k.map bM.e)),(50,.int .i64 k.length),(51,.int .i64 i)],[(.loc 0,[.int .i64 n,.slice 5 .no (b.map al.e),.slice 1 .no (d.map cO),.slice 2 .no (fj.map bM.e),.slice 2 .no (m0.map bm.e)]),(.loc 1,[.int .i64 0,.slice 5 .nil [],.slice 1 .nil [],.slice 2 .nil [],.slice 2 .nil []]),(.loc 2,qf l)],[],3,[]⟩) k.length (uM k) [] ⟨by simp[fresh,aH,aB,b9,inObs,Pv.look,Le],dZ (by simp[fresh,aH,aB,b9,inObs,Pv.look,Le]),ea (by simp[fresh,aH,aB,dN,inObs,Pv.look,Le]),by simp⟩ (fun v=>by simp[c5]) (fun l ae _=>?_) (fun i l hi ae _=>?_);rotate_left
   ·obtain⟨x,af,cD⟩:=dT hi;by_cases ar:x.k=3
    ·have ay:=ae.put af ar;clear ae af;exact gg
    ·have ay:=ae.skip af ar;have sN:(x.k==3)=false:=by simp[ar]
     clear ae af;exact gg
   have hints:=ae.fin vT;clear ae;simp;(with_reducible repeat' first|refine aj ?_|simp);refine ho (fun i (a:List bm)=>⟨[(1,.ptr (.loc 0) 0),(2,.ptr (.loc 1) 0),(4,.slice 2 .no (k.map bM.e)),(8,.gmap (.loc 2)),(11,.slice 2 (.own (.loc 3)) (a.map bm.e)),(63,.slice 2 .no (m.map bm.e)),(64,.int .i64 m.length),(65,.int .i64 i)],[(.loc 0,[.int .i64 n,.slice 5 .no (b.map al.e),.slice 1 .no (d.map cO),.slice 2 .no (fj.map bM.e),.slice 2 .no (m0.map bm.e)]),(.loc 1,[.int .i64 0,.slice 5 .nil [],.slice 1 .nil [],.slice 2 .nil [],.slice 2 .nil []]),(.loc 2,qf l)],[(.loc 3,⟨a.length,100,2,none⟩)],4,[]⟩) m.length (tb k m) [] bN (by simp[tb]) (fun a ae _=>?_) (fun i a hi ae _=>?_);rotate_left
   ·obtain⟨x,af,cD⟩:=dT hi;have qN:a.length≤68719470000:=by
     have:a.length≤(m.take i).length:=by rw[ae];exact List.length_filter_le _ _
     simp at this;omega
    have ay:=ae.step af;have bo:=hints x;cases aL:kJ k x
    ·rw[aL]at ay bo;simp only[gX,if_false,Bool.not_false]at ay bo;clear ae af aL;simp[hi,cD];((with_reducible repeat' first|refine aj ?_|simp[hi,cD,bo]|((first|apply bP|apply bR|apply bQ)<;>intro h<;>try simp at h))<;>(try exact cm));all_goals exact bK.rng a hi ay bN
    ·rw[aL]at ay bo;simp only[if_true,Bool.not_true]at ay bo;clear ae af aL;simp[hi,cD];((with_reducible repeat' first|refine aj ?_|simp[hi,cD,bo]|((first|apply bP|apply bR|apply bQ)<;>intro h<;>try simp at h))<;>(try exact cm));all_goals first|(refine⟨by unfold lim;omega,?_⟩)|skip
     all_goals(with_reducible repeat' first|refine aj ?_|simp)
     all_goals exact bK.rng (a++[x]) hi ay ⟨by simp[fresh,aH,aB,b9,inObs,Pv.look,Al],dZ (by simp[fresh,aH,aB,b9,inObs,Pv.look,Al]),ea (by simp[fresh,aH,aB,dN,inObs,Pv.look,Al]),by simp⟩
   rw[tb,mj]at ae;rw[←ae]at zT zM afr di;clear ae hints hK xY xR;simp;(with_reducible repeat' first|refine aj ?_|simp);refine ho (fun i (L:List (List al))=>⟨[(1,.ptr (.loc 0) 0),(2,.ptr (.loc 1) 0),(4,.slice 2 .no (k.map bM.e)),(11,.slice 2 (.own (.loc 3)) (a.map bm.e)),(14,.slice 1 (.own (.loc 4)) (L.map cO)),(81,.slice 1 .no (d.map cO)),(82,.int .i64 d.length),(83,.int .i64 i)],[(.loc 0,[.int .i64 n,.slice 5 .no (b.map al.e),.slice 1 .no (d.map cO),.slice 2 .no (fj.map bM.e),.slice 2 .no (m0.map bm.e)]),(.loc 1,[.int .i64 0,.slice 5 .nil [],.slice 1 .nil [],.slice 2 .nil [],.slice 2 .nil []])],[(.loc 3,⟨a.length,100,2,none⟩),(.loc 4,⟨L.length,46,1,none⟩)],5,[]⟩) d.length (qa b k a d) [] bN ⟨by simp,by simp,by simp⟩ (fun L ae _=>?_) (fun i L hi ae _=>?_)
   ·have jE:=ae.fin;have vN:=ae.2.1;rw[jE]at di;simp only at di;have np:=amT L vN;have kE:bH ao 168 [.slice 5 .no (b.map al.e)] (.slice 5 .no (b.map al.e)):=XM b fb;clear ae jE vN;generalize kZ L=M at np di;by_cases lz:M.length≤30
    ·have oA:¬(30:Int)<M.length:=by omega
     rw[if_pos lz]at di;subst di;simp;(with_reducible repeat' first|refine aj ?_|refine aC np ?_|refine aD np ?_|refine aC kE ?_|refine aD kE ?_|simp[lz,oA]);all_goals simp[bt,AS,aX,aY,aW]
     all_goals simp[ve,dS.e]
    ·have oA:(30:Int)<M.length:=by omega
     rw[if_neg lz]at di;subst di;simp;(with_reducible repeat' first|refine aj ?_|refine aC np ?_|refine aD np ?_|refine aC kE ?_|refine aD kE ?_|simp[lz,oA]);all_goals simp[bt,AS,aX,aY,aW]
     all_goals simp[ve,rh,dS.e]
   ·obtain⟨x,af,cD⟩:=dT hi;have ij:=aQ x (dK af);have Sj:=ae.1;have hS:bH ao 165 [.slice 5 .no (b.map al.e),cO x] (gm (mgu b (hJ x))):=amQ ad ij;simp only[gm]at hS;cases hu:mgu b (hJ x)with
    |none=>have ay:=ae.skip af fun r=>K8 hu;rw[hu]at hS;simp only[nI,ml]at hS;clear ae af di;exact gg
    |some y=>
     have jd:=ad.mgu (BM ij) hu;rw[hu]at hS;simp only[ka,pT]at hS;have dk:=XH jd vT;have eb:=XI jd zT nc zM;have hT:=amV ad jd;simp only[fY]at dk;simp only[jj]at eb;by_cases jF:gh y k []=none∨gi y a []=none
     ·have ay:=ae.skip af fun r=>K7 hu jF;clear ae af di hu;rcases jF with e|e
      ·rw[e]at dk;simp only[nI,ml]at dk;exact gg
      ·rw[e]at eb;simp only[nI,ml]at eb;cases (gh y k []).isSome
       ·simp[hi,cD];((with_reducible repeat' first|refine aj ?_|refine aC hS ?_|refine aD hS ?_|refine aC dk ?_|refine aD dk ?_|refine aC eb ?_|refine aD eb ?_|simp[hi,cD]|((first|apply bP|apply bR|apply bQ)<;>intro h<;>try simp at h))<;>(try exact cm));all_goals exact bK.rng L hi ay bN
       ·simp[hi,cD];((with_reducible repeat' first|refine aj ?_|refine aC hS ?_|refine aD hS ?_|refine aC dk ?_|refine aD dk ?_|refine aC eb ?_|refine aD eb ?_|simp[hi,cD]|((first|apply bP|apply bR|apply bQ)<;>intro h<;>try simp at h))<;>(try exact cm));all_goals exact bK.rng L hi ay bN
     ·have ak:(gh y k []).isSome=true:=by cases e:gh y k []with|none=>exact absurd (.inl e) jF|some _=>rfl
      have aE:(gi y a []).isSome=true:=by cases e:gi y a []with|none=>exact absurd (.inr e) jF|some _=>rfl
      rw[ak]at dk;rw[aE]at eb;by_cases cF:gC b y=[]
      ·have ag:=ae.stop af fun r=>K6 hu jF cF;rw[ag]at di;simp only at di;subst di;rw[cF]at hT;simp only[List.map_nil]at hT;clear ae af hu jF;simp[hi,cD];((with_reducible repeat' first|refine aj ?_|refine aC hS ?_|refine aD hS ?_|refine aC dk ?_|refine aD dk ?_|refine aC eb ?_|refine aD eb ?_|refine aC hT ?_|refine aD hT ?_|simp[hi,cD]|((first|apply bP|apply bR|apply bQ)<;>intro h<;>try simp at h))<;>(try exact cm));all_goals simp[bt,AS,aX,aY,aW]
       all_goals simp[ve,rh,dS.e]
      ·have ay:=ae.snoc af (GB (b:=b) jd) fun r=>K9 hu jF cF;have vV:¬((gC b y).length:Int)=0:=by have:(gC b y).length≠0:=fun h=>cF (List.length_eq_zero_iff.1 h);omega
       have vW:(((gC b y).length:Int)==0)=false:=by simp[cF]
       have Gd:bH ao 166 [.slice 5 .no (b.map al.e),.slice 5 .no (y.map al.e)] (cO (gC b y)):=hT;clear ae af hu jF di hT;generalize gC b y=z at Gd ay vV vW cF;simp only[cO]at Gd;simp[hi,cD];(with_reducible repeat' first|refine aj ?_|refine aC hS ?_|refine aD hS ?_|refine aC dk ?_|refine aD dk ?_|refine aC eb ?_|refine aD eb ?_|refine aC Gd ?_|refine aD Gd ?_|simp[hi,cD,vV,vW,cF]);all_goals first|(refine⟨by unfold lim;omega,?_⟩)|skip
       all_goals(with_reducible repeat' first|refine aj ?_|simp)
       all_goals exact bK.rng (L++[z]) hi ay ⟨by simp[fresh,aH,aB,b9,inObs,Pv.look,uP,cO],dZ (by simp[fresh,aH,aB,b9,inObs,Pv.look,uP,cO]),ea (by simp[fresh,aH,aB,dN,inObs,Pv.look,uP,cO]),by simp⟩
@[simp] theorem aoC(neg:Bool)(x y:bM):iv neg (some [false,false]) x.e y.e=some (True,.bool (if neg then !decide (x=y)else decide (x=y))):=by
 have h:(x.v==y.v&&(x.k==y.k&&true))=decide (x=y):=by rw[qq];simp only[Bool.and_true,cC,dQ,e2];cases x;cases y;simp
 rw[←h];rfl
@[simp] theorem aoD(neg:Bool)(x y:bm):iv neg (some [false,true]) x.e y.e=some (True,.bool (if neg then !decide (x=y)else decide (x=y))):=by
 have h:(x.v==y.v&&(x.s==y.s&&true))=decide (x=y):=by rw[qq];simp only[Bool.and_true,cC,dQ,e2];cases x;cases y;simp
 rw[←h];rfl
theorem am9(x y:List al)(h:x.length≤1000000):bH ao 169 [cO x,cO y] (.bool (decide (x=y))):=XQ x y h
set_option maxRecDepth 4000 in
theorem anN(a c:dS)(ng:a.b.length≤1000000)(Cc:∀x∈a.d,x.length≤1000000):bH ao 91 [a.e,c.e] (.bool (decide (a=c))):=by
 obtain⟨n,b,d,k,m⟩:=a;obtain⟨n',b5,cg,bS,ht⟩:=c;simp only at ng Cc;generalize bd:decide ((⟨n,b,d,k,m⟩:dS)=⟨n',b5,cg,bS,ht⟩)=R;simp only[dS.mk.injEq,dS.e]at bd⊢;by_cases a8:n=n';rotate_left
 ·have fU:R=false:=by rw[←bd];simp[a8]
  have ts:(n !=n')=true:=by simp[a8]
  rw[fU];clear bd fU;refine bh n9 zt AH fun aO=>?_;unfold xu;exact bY
 subst a8;have fD:=XQ b b5 ng;by_cases bF:b=b5;rotate_left
 ·have fU:R=false:=by rw[←bd];simp[bF]
  rw[iB bF]at fD;rw[fU];clear bd fU;refine bh n9 zt AH fun aO=>?_;unfold xu;exact bY
 subst bF;rw[gJ rfl]at fD;by_cases b0:d.length=cg.length;rotate_left
 ·have fU:R=false:=by rw[←bd];simp only[gI];rintro⟨_,_,rfl,_⟩;exact b0 rfl
  have sa:((d.length:Int) !=cg.length)=true:=by simp;omega
  rw[fU];clear bd fU;refine bh n9 zt AH fun aO=>?_;unfold xu;exact bY
 by_cases c0:k.length=bS.length;rotate_left
 ·have fU:R=false:=by rw[←bd];simp only[gI];rintro⟨_,_,_,rfl,_⟩;exact c0 rfl
  have aki:((k.length:Int) !=bS.length)=true:=by simp;omega
  rw[fU];clear bd fU;refine bh n9 zt AH fun aO=>?_;unfold xu;exact bY
 by_cases da:m.length=ht.length;rotate_left
 ·have fU:R=false:=by rw[←bd];simp only[gI];rintro⟨_,_,_,_,rfl⟩;exact da rfl
  have akj:((m.length:Int) !=ht.length)=true:=by simp;omega
  rw[fU];clear bd fU;refine bh n9 zt AH fun aO=>?_;unfold xu;exact bY
 have x2:d≠cg→R=false:=fun h=>by rw[←bd];simp[h]
 have x3:k≠bS→R=false:=fun h=>by rw[←bd];simp[h]
 have Kk:m≠ht→R=false:=fun h=>by rw[←bd];simp[h]
 refine bh n9 zt AH fun aO=>?_;unfold xu;have afi:cg.length≤68719476736:=by simp[eu,ed,ep,lim]at aO;omega
 have afj:bS.length≤68719476736:=by simp[eu,ed,ep,lim]at aO;omega
 have afk:ht.length≤68719476736:=by simp[eu,ed,ep,lim]at aO;omega
 clear aO;simp;(with_reducible repeat' first|refine aj ?_|refine aC fD ?_|refine aD fD ?_|simp[b0,c0,da]);have ct:=x2;refine dw [2,3,50] (fun i (_:Unit)=>[(51,.int .i64 i)]) cg.length (rv d cg) () bN (fun k ab=>by omega) (fun _ ae _=>?_) (fun i _ hi ae _=>?_);rotate_left
 ·obtain⟨x,af⟩:∃x,d[i]? =some x:=⟨_,bZ (by omega)⟩;obtain⟨y,aM⟩:∃y,cg[i]? =some y:=⟨_,bZ hi⟩;have gk:i<d.length:=by omega
  have cD:∀h,(d[i]'h)=x:=fun h=>by rw[bZ gk]at af;exact eE af
  have eK:∀h,(cg[i]'h)=y:=fun h=>by rw[bZ hi]at aM;exact eE aM
  have fD:=am9 x y (Cc x (dK af));by_cases q:x=y
  ·subst q;have ay:=ae.step af aM;rw[gJ rfl]at fD;clear ae af aM;simp[hi,gk,cD,eK,-iv];(with_reducible repeat' first|refine aj ?_|refine aC fD ?_|refine aD fD ?_|simp[cD,eK,hi,gk,-iv]);all_goals exact bK.rng () hi ay bN
  ·rw[ct (fun h=>q (by rw[h]at af;rw[af]at aM;exact eE aM))];rw[iB q]at fD;clear ae af aM;simp[hi,gk,cD,eK,-iv];(with_reducible repeat' first|refine aj ?_|refine aC fD ?_|refine aD fD ?_|simp[cD,eK,hi,gk,q,-iv]);all_goals simp[bt,G4,aX,aY,aW]
 have dz:=ae.fin b0;subst dz;clear ae ct x2 b0;simp;(with_reducible repeat' first|refine aj ?_|simp[c0]);have ct:=x3;refine dw [2,3,69] (fun i (_:Unit)=>[(70,.int .i64 i)]) bS.length (rv k bS) () bN (fun k ab=>by omega) (fun _ ae _=>?_) (fun i _ hi ae _=>?_);rotate_left
 ·obtain⟨x,af⟩:∃x,k[i]? =some x:=⟨_,bZ (by omega)⟩;obtain⟨y,aM⟩:∃y,bS[i]? =some y:=⟨_,bZ hi⟩;have gk:i<k.length:=by omega
  have cD:∀h,(k[i]'h)=x:=fun h=>by rw[bZ gk]at af;exact eE af
  have eK:∀h,(bS[i]'h)=y:=fun h=>by rw[bZ hi]at aM;exact eE aM
  have fD:=True.intro;by_cases q:x=y
  ·subst q;have ay:=ae.step af aM;skip;clear ae af aM;simp[hi,gk,cD,eK,-iv];(with_reducible repeat' first|refine aj ?_|refine aC fD ?_|refine aD fD ?_|simp[cD,eK,hi,gk,-iv]);all_goals exact bK.rng () hi ay bN
  ·rw[ct (fun h=>q (by rw[h]at af;rw[af]at aM;exact eE aM))];skip;clear ae af aM;simp[hi,gk,cD,eK,-iv];(with_reducible repeat' first|refine aj ?_|refine aC fD ?_|refine aD fD ?_|simp[cD,eK,hi,gk,q,-iv]);all_goals simp[bt,G4,aX,aY,aW]
 have dz:=ae.fin c0;subst dz;clear ae ct x3 c0;simp;(with_reducible repeat' first|refine aj ?_|simp[da]);have ct:=Kk;refine dw [2,3,87] (fun i (_:Unit)=>[(88,.int .i64 i)]) ht.length (rv m ht) () bN (fun k ab=>by omega) (fun _ ae _=>?_) (fun i _ hi ae _=>?_);rotate_left
 ·obtain⟨x,af⟩:∃x,m[i]? =some x:=⟨_,bZ (by omega)⟩;obtain⟨y,aM⟩:∃y,ht[i]? =some y:=⟨_,bZ hi⟩;have gk:i<m.length:=by omega
  have cD:∀h,(m[i]'h)=x:=fun h=>by rw[bZ gk]at af;exact eE af
  have eK:∀h,(ht[i]'h)=y:=fun h=>by rw[bZ hi]at aM;exact eE aM
  have fD:=True.intro;by_cases q:x=y
  ·subst q;have ay:=ae.step af aM;skip;clear ae af aM;simp[hi,gk,cD,eK,-iv];(with_reducible repeat' first|refine aj ?_|refine aC fD ?_|refine aD fD ?_|simp[cD,eK,hi,gk,-iv]);all_goals exact bK.rng () hi ay bN
  ·rw[ct (fun h=>q (by rw[h]at af;rw[af]at aM;exact eE aM))];skip;clear ae af aM;simp[hi,gk,cD,eK,-iv];(with_reducible repeat' first|refine aj ?_|refine aC fD ?_|refine aD fD ?_|simp[cD,eK,hi,gk,q,-iv]);all_goals simp[bt,G4,aX,aY,aW]
 have dz:=ae.fin da;subst dz;have fU:R=true:=by rw[←bd];simp
 rw[fU];exact bY
def hO.e(r:hO):ah:= .agg [.int .i64 r.n,.slice 5 .no (r.b.map cT.e),.slice 1 .no (r.d.map gb),.slice 2 .no (r.k.map bM.e),.slice 2 .no (r.m.map bm.e)]
theorem HB(s:dS):s.r.e=s.e:=by simp only[dS.r,hO.e,dS.e,r1,I4]
@[simp] theorem aqZ(S:aI→Prop)(r:hO):aB S r.e=True:=by simp[hO.e,aB,aH]
theorem amW(x:List cT):bH ao 86 [gb x] (.bool (gG x)):=Np x
open Classical in
set_option maxRecDepth 4000 in
theorem XJ(r:hO)(fB:il r.m→pM r.m):bH ao 29 [r.e] (.bool (decide (oU r))):=by
 generalize bd:decide (oU r)=R;have ct:¬Mw r→R=false:=fun h=>by rw[←bd,gI];exact fun cb=>h cb.raw
 obtain⟨n,b,d,k,m⟩:=r;simp only[hO.e]at fB⊢;by_cases g1:n<0
 ·rw[ct fun h=>by have:=h.n.1;simp only at this;omega];refine bh n9 xx yt fun aO=>?_;unfold vx;exact bY
 by_cases g2:100000<n
 ·rw[ct fun h=>by have:=h.n.2;simp only at this;omega];refine bh n9 xx yt fun aO=>?_;unfold vx;exact bY
 have mG:bH ao 86 [.slice 5 .no (b.map cT.e)] (.bool (gG b)):=Np b;cases g3:gG b
 ·rw[ct fun h=>by obtain⟨s,ak,aE,_⟩:=h.b;have:=q9.2 (wY.2 ⟨s,ak,aE⟩);simp only at this;rw[g3]at this;cases this]
  rw[g3]at mG;refine bh n9 xx yt fun aO=>?_;unfold vx;exact bY
 rw[g3]at mG;obtain⟨s,rfl,ag⟩:=wY.1 (q9.1 g3);clear g3;rw[r1]at mG⊢;have dk:=XD k;by_cases g4:fO k;rotate_left
 ·rw[ct fun h=>g4 h.k];rw[iB g4]at dk;refine bh n9 xx yt fun aO=>?_;unfold vx;exact bY
 rw[gJ g4]at dk;have eb:=XF m;by_cases g5:il m;rotate_left
 ·rw[ct fun h=>g5 h.m];rw[iB g5]at eb;refine bh n9 xx yt fun aO=>?_;unfold vx;exact bY
 rw[gJ g5]at eb;have lj:=XL ag (n:=n) (by omega);cases g6:s.all (kT n)
 ·rw[ct fun h=>by obtain⟨ai,ak,_,bj⟩:=h.b;have c2:=rq ak;subst c2;rw[vw.2 bj]at g6;cases g6]
  rw[g6]at lj;refine bh n9 xx yt fun aO=>?_;unfold vx;exact bY
 rw[g6]at lj;have cL:=vw.1 g6;clear g6;have Cr:=fB g5;have ki:=Cr.len g5;refine bh n9 xx yt fun aO=>?_;unfold vx;have uu:d.length≤68719476736:=by simp[eu,ed,ep,lim]at aO;omega
 have hK:=td g4;clear aO fB;simp;(with_reducible repeat' first|refine aj ?_|refine aC mG ?_|refine aD mG ?_|refine aC dk ?_|refine aD dk ?_|refine aC eb ?_|refine aD eb ?_|refine aC lj ?_|refine aD lj ?_|simp[g1,g2]);refine dw [1,46,47] (fun i (_:Unit)=>[(48,.int .i64 i)]) d.length (rX (kf n) d) () bN (fun k b ab=>by omega) (fun _ ae _=>?_) (fun i _ hi ae _=>?_);rotate_left
 ·obtain⟨x,af,cD⟩:=dT hi;have CP:=dK af;have c4:=amW x;cases mx:gG x
  ·rw[ct fun h=>by obtain⟨ai,ak,aE,_⟩:=h.d x CP;rw[q9.2 (wY.2 ⟨ai,ak,aE⟩)]at mx;cases mx]
   rw[mx]at c4;clear ae af CP;exact bY
  ·rw[mx]at c4;obtain⟨y,rfl,aM⟩:=wY.1 (q9.1 mx);clear mx;rw[I3]at c4;have mH:bH ao 89 [cO y,.int .i64 n] (.bool (y.all (kT n))):=XL aM (n:=n) (by omega);have ap1:∀h,gb (d[i]'h)=cO y:=fun h=>by rw[cD h,I3]
   cases rF:y.all (kT n)
   ·rw[ct fun h=>by obtain⟨ai,ak,_,bj⟩:=h.d _ CP;have c2:=rq ak;subst c2;rw[vw.2 bj]at rF;cases rF]
    rw[rF]at mH;clear ae af CP cD;exact bY
   ·rw[rF]at mH;have ay:=ae.step af ⟨y,rfl,aM,vw.1 rF⟩;clear ae af CP cD;exact gg
 obtain⟨D,rfl,um,JS⟩:=Q4 ae.fin;clear ae;simp only[I4];simp;(with_reducible repeat' first|refine aj ?_|simp);refine dw [1,64,65] (fun i (_:Unit)=>[(66,.int .i64 i)]) k.length (rX (fun x=>x.v<n) k) () bN (fun k b ab=>by omega) (fun _ ae _=>?_) (fun i _ hi ae _=>?_);rotate_left
 ·obtain⟨x,af,cD⟩:=dT hi;by_cases mx:x.v<n
  ·have xH:¬n≤x.v:=by omega
   have ay:=ae.step af mx;clear ae af;exact gg
  ·have xH:n≤x.v:=by omega
   rw[ct fun h=>mx (h.kb x (dK af))];clear ae af;exact bY
 have xS:=ae.fin;clear ae;simp;(with_reducible repeat' first|refine aj ?_|simp);have p2:=xS;refine dw [1,77,78] (fun i (_:Unit)=>[(79,.int .i64 i)]) m.length (rX (fun x=>x.v<n) m) () bN (fun k b ab=>by omega) (fun _ ae _=>?_) (fun i _ hi ae _=>?_);rotate_left
 ·obtain⟨x,af,cD⟩:=dT hi;by_cases mx:x.v<n
  ·have xH:¬n≤x.v:=by omega
   have ay:=ae.step af mx;clear ae af;exact gg
  ·have xH:n≤x.v:=by omega
   rw[ct fun h=>mx (h.mb x (dK af))];clear ae af;exact bY
 have xS:=ae.fin;clear ae;simp;(with_reducible repeat' first|refine aj ?_|simp);have pB:=xS;have dd:vk ⟨n,s,D,k,m⟩:=⟨by simp only;omega,ag,um,g4,g5,cL,JS,p2,pB⟩;have uB:=W8 dd;obtain⟨G,nc,a7⟩:=Cr;have dp:=anO dd nc a7;have lf:oU ⟨n,s.map al.b,D.map fun x=>x.map al.b,k,m⟩↔nA ⟨n,s,D,k,m⟩=some ⟨n,s,D,k,m⟩:=uB;clear uB ct;simp only[ve]at dp;cases lJ:nA ⟨n,s,D,k,m⟩with
 |none=>
  rw[lJ]at dp lf;have fU:R=false:=by rw[←bd,gI,lf];simp
  rw[fU];simp only[nI,ml,dS.e]at dp;clear bd fU lf;exact bY
 |some t=>
  have z8:=alI dd lJ;rw[lJ]at dp lf;have wq:=anN t ⟨n,s,D,k,m⟩ z8.1.1.b.len (fun x af=>(z8.1.1.d x af).len);have fU:R=decide (t=⟨n,s,D,k,m⟩):=by rw[←bd,decide_eq_decide,lf];simp
  rw[fU];simp only[ka,pT]at dp;simp only[dS.e]at dp wq;clear bd fU lf z8;generalize decide (t=(⟨n,s,D,k,m⟩:dS))=Q at wq⊢;obtain⟨tE,Xq,Xr,tD,tm⟩:=t;simp only at dp wq;exact bY
def vB:C:=(aa [cM 1 0,be 2 false] (.seq (aa [aG 11 0 1 1,av 12 1 11,dJ 13 75 [.t 12,(fQ 0),(fQ 100000)],cy 14 13,I 15 14,aq 15 false (aG 16 1 1 1),aq 15 false (av 17 1 16),aq 15 false (cJ 18 76 17),aq 15 false (cy 19 18),cY 20 15 19,I 21 20,aq 21 false (aG 22 2 1 1),aq 21 false (av 23 1 22),aq 21 false (cJ 24 77 23),aq 21 false (cy 25 24),cY 26 21 25,I 27 26,aq 27 false (aG 28 3 1 1),aq 27 false (av 29 1 28),aq 27 false (cJ 30 78 29),aq 27 false (cy 31 30),cY 32 27 31,I 33 32,aq 33 false (aG 34 4 1 1),aq 33 false (av 35 1 34),aq 33 false (cJ 36 79 35),aq 33 false (cy 37 36),cY 38 33 37,I 39 38,aq 39 false (aG 40 1 1 1),aq 39 false (av 41 1 40),aq 39 false (aG 42 0 1 1),aq 39 false (av 43 1 42),aq 39 false (b3 44 80 41 43),aq 39 false (cy 45 44),cY 46 39 45] (aT 46 (aa [be 2 false] .ret) .skip)) (.seq (aa [aG 47 2 1 1,av 48 1 47,b7 49 48,bJ 50 0] (e0 51 50 49 (.seq (.block 1 (aa [cd 52 1 48 50,av 53 1 52,I 4 53] (aa [I 54 4,aG 55 0 1 1,av 56 1 55,b3 57 80 54 56,cy 58 57] (aT 58 (aa [be 2 false] .ret) .skip)))) (.region [aS 59 .add 50 1,I 50 59])))) (.seq (aa [aG 60 3 1 1,av 61 1 60,b7 62 61,bJ 63 0] (.block 2 (.loop (aa [bg 64 .lss 63 62] (.seq (aT 64 .skip (.exit 2)) (.seq (.block 3 (aa [cd 65 2 61 63,a6 66 2 65,cW (.alloc 6 none (.agg [.int .i64 0,.int .i64 0])),bT 2 6 66] (aa [aG 67 0 1 6,av 68 1 67,aG 69 0 1 1,av 70 1 69,bg 71 .geq 68 70] (aT 71 (aa [be 2 false] .ret) .skip)))) (.region [aS 72 .add 63 1,I 63 72]))))))) (.seq (aa [aG 73 4 1 1,av 74 1 73,b7 75 74,bJ 76 0] (.block 4 (.loop (aa [bg 77 .lss 76 75] (.seq (aT 77 .skip (.exit 4)) (.seq (.block 5 (aa [cd 78 2 74 76,a6 79 2 78,cW (.alloc 8 none (.agg [.int .i64 0,.str []])),bT 2 8 79] (aa [aG 80 0 1 8,av 81 1 80,aG 82 0 1 1,av 83 1 82,bg 84 .geq 81 83] (aT 84 (aa [be 2 false] .ret) .skip)))) (.region [aS 85 .add 76 1,I 76 85]))))))) (aa [a6 87 5 1,cJ 88 81 87,I 86 88,cH 89 0 86,cH 90 1 86,dg 9 oM,bT 5 9 89,I 10 90] (aa [I 91 10,I 92 91,aq 92 true (a6 93 5 9),aq 92 true (a6 94 5 1),aq 92 true (b3 95 82 93 94),du 96 92 95,I 2 96] .ret)))))))
@[simp] def ald:List bA:=[.tmp 2]
def EV:C:=(aa [cM 1 0,dg 2 oM,be 3 false] (aa [aG 20 1 1 1,av 21 1 20,aG 22 3 1 1,av 23 1 22,b3 24 149 21 23,I 19 24,cH 25 0 19,cH 26 1 19,I 4 25,I 5 26] (aa [aG 28 1 1 1,av 29 1 28,aG 30 4 1 1,av 31 1 30,b3 32 150 29 31,I 27 32,cH 33 0 27,cH 34 1 27,I 6 33,I 7 34] (.seq (aa [I 35 5,cy 36 35,I 37 36,bW 37 false 38 7,aq 37 false (cy 39 38),cY 40 37 39] (aT 40 (aa [jQ 41 oM [],bT 5 2 41,be 3 false] .ret) .skip)) (aa [aG 42 0 1 1,av 43 1 42,aG 44 1 1 1,av 45 1 44,I 46 4,jQ 47 oM [(0,1,(.t 43)),(1,1,(.t 45)),(3,1,(.t 46))],dg 8 oM,bT 5 8 47] (.seq (aa [I 48 6,b7 49 48,bJ 50 0] (e0 51 50 49 (.seq (.block 1 (aa [cd 52 2 48 50,a6 53 2 52,cW (.alloc 10 none (.agg [.int .i64 0,.str []])),bT 2 10 53] (aa [I 55 4,aG 56 0 1 10,av 57 1 56,cJ 58 114 57,dJ 59 151 [.t 55,.t 58,(fQ 2)],I 54 59,cH 60 0 54,cH 61 1 54,I 11 60,I 12 61] (aa [I 62 12] (aT 62 (.region [aG 63 4 1 8,av 64 1 63,a6 65 2 10,eD 66 2 100 [.t 65],hF 67 2 100 64 66,aG 68 4 1 8,bT 1 68 67]) .skip))))) (.region [aS 69 .add 50 1,I 50 69])))) (aa [eD 70 1 46 [],I 13 70] (.seq (aa [aG 71 2 1 1,av 72 1 71,b7 73 72,bJ 74 0] (.block 2 (.loop (aa [bg 75 .lss 74 73] (.seq (aT 75 .skip (.exit 2)) (.seq (.block 3 (aa [cd 76 1 72 74,av 77 1 76,I 15 77] (aa [aG 79 1 1 1,av 80 1 79,I 81 15,b3 82 152 80 81,I 78 82,cH 83 0 78,cH 84 1 78,I 16 83,I 17 84] (.seq (aa [I 85 17] (aT 85 (aa [I 87 16,aG 88 3 1 8,av 89 1 88,b3 90 149 87 89,I 86 90,cH 91 0 86,cH 92 1 86,I 5 92] (.region [I 94 16,aG 95 4 1 8,av 96 1 95,b3 97 150 94 96,I 93 97,cH 98 0 93,cH 99 1 93,I 7 99])) .skip)) (.seq (aa [I 100 17,cy 101 100,I 102 101,bW 102 false 103 5,aq 102 false (cy 104 103),cY 105 102 104,I 106 105,bW 106 false 107 7,aq 106 false (cy 108 107),cY 109 106 108] (aT 109 (aa [be 5 true] (aa [be 7 true] (.exit 3))) .skip)) (aa [aG 110 1 1 1,av 111 1 110,I 112 16,b3 113 153 111 112,I 18 113] (.seq (aa [I 114 18,b7 115 114,aS 116 .eql 115 0] (aT 116 (aa [jQ 117 oM [],bT 5 2 117,be 3 false] .ret) .skip)) (.region [I 118 13,I 119 18,eD 120 1 46 [.t 119],hF 121 1 46 118 120,I 13 121])))))))) (.region [aS 122 .add 74 1,I 74 122]))))))) (aa [I 123 13,cJ 124 154 123,aG 125 2 1 8,bT 1 125 124] (.seq (.fz true 8 (.drawn true 131 [ca 126 (.loadZ true 5 (.t 8)),aG 127 2 1 8,ca 128 (.loadZ false 1 (.t 127)),b7 129 128,aS 130 .leq 129 30,bT 5 2 126,I 3 130])) .ret))))))))))
@[simp] def u9:List bA:=[.cell 2 true 5,.tmp 3]
def xv:C:=(aa [cM 2 0,cM 3 1,be 4 false] (.seq (aa [aG 11 0 1 2,av 12 1 11,aG 13 0 1 3,av 14 1 13,bg 15 .neq 12 14,I 16 15,aq 16 false (aG 17 1 1 2),aq 16 false (av 18 1 17),aq 16 false (aG 19 1 1 3),aq 16 false (av 20 1 19),aq 16 false (b3 21 155 18 20),aq 16 false (aS 22 .neq 21 0),cY 23 16 22,I 24 23,aq 24 false (aG 25 2 1 2),aq 24 false (av 26 1 25),aq 24 false (b7 27 26),aq 24 false (aG 28 2 1 3),aq 24 false (av 29 1 28),aq 24 false (b7 30 29),aq 24 false (bg 31 .neq 27 30),cY 32 24 31,I 33 32,aq 33 false (aG 34 3 1 2),aq 33 false (av 35 1 34),aq 33 false (b7 36 35),aq 33 false (aG 37 3 1 3),aq 33 false (av 38 1 37),aq 33 false (b7 39 38),aq 33 false (bg 40 .neq 36 39),cY 41 33 40,I 42 41,aq 42 false (aG 43 4 1 2),aq 42 false (av 44 1 43),aq 42 false (b7 45 44),aq 42 false (aG 46 4 1 3),aq 42 false (av 47 1 46),aq 42 false (b7 48 47),aq 42 false (bg 49 .neq 45 48),cY 50 42 49] (aT 50 (aa [be 4 false] .ret) .skip)) (.seq (aa [aG 51 2 1 2,av 52 1 51,b7 53 52,bJ 54 0] (e0 55 54 53 (.seq (.block 1 (aa [I 56 54,cd 57 1 52 54,av 58 1 57,I 5 56,I 6 58] (aa [I 59 6,aG 60 2 1 3,av 61 1 60,I 62 5,cd 63 1 61 62,av 64 1 63,b3 65 155 59 64,aS 66 .neq 65 0] (aT 66 (aa [be 4 false] .ret) .skip)))) (.region [aS 67 .add 54 1,I 54 67])))) (.seq (aa [aG 68 3 1 2,av 69 1 68,b7 70 69,bJ 71 0] (.block 2 (.loop (aa [bg 72 .lss 71 70] (.seq (aT 72 .skip (.exit 2)) (.seq (.block 3 (aa [I 73 71,cd 74 2 69 71,a6 75 2 74,cW (.alloc 8 none (.agg [.int .i64 0,.int .i64 0])),I 7 73,bT 2 8 75] (.seq (.drawn true 100 [a6 76 2 8,aG 77 3 1 3,av 78 1 77,I 79 7,cd 80 2 78 79,a6 81 2 80,ca 82 (.beq true (some [false,false]) (.t 76) (.t 81))]) (aT 82 (aa [be 4 false] .ret) .skip)))) (.region [aS 83 .add 71 1,I 71 83]))))))) (.seq (aa [aG 84 4 1 2,av 85 1 84,b7 86 85,bJ 87 0] (.block 4 (.loop (aa [bg 88 .lss 87 86] (.seq (aT 88 .skip (.exit 4)) (.seq (.block 5 (aa [I 89 87,cd 90 2 85 87,a6 91 2 90,cW (.alloc 10 none (.agg [.int .i64 0,.str []])),I 9 89,bT 2 10 91] (.seq (.drawn true 100 [a6 92 2 10,aG 93 4 1 3,av 94 1 93,I 95 9,cd 96 2 94 95,a6 97 2 96,ca 98 (.beq true (some [false,true]) (.t 92) (.t 97))]) (aT 98 (aa [be 4 false] .ret) .skip)))) (.region [aS 99 .add 87 1,I 87 99]))))))) (aa [be 4 true] .ret))))))
@[simp] def G9:List bA:=[.tmp 4]
def HG:List (Nat×dF):=[
 (3,⟨1,8,.int .i64,.int .i64 0⟩),
 (9,⟨1,16,.str,.str []⟩),
 (46,⟨1,24,.slice 113,.slice 5 .nil []⟩),
 (47,⟨1,24,.slice 46,.slice 1 .nil []⟩),
 (48,⟨1,24,.slice 98,.slice 2 .nil []⟩),
 (49,⟨1,24,.slice 100,.slice 2 .nil []⟩),
 (51,⟨5,104,.struct [(0,3),(1,46),(2,47),(3,48),(4,49)],.agg [.int .i64 0,.slice 5 .nil [],.slice 1 .nil [],.slice 2 .nil [],.slice 2 .nil []]⟩),
 (98,⟨2,16,.struct [(0,3),(1,3)],.agg [.int .i64 0,.int .i64 0]⟩),
 (100,⟨2,24,.struct [(0,3),(1,9)],.agg [.int .i64 0,.str []]⟩)]
theorem oa:fP ao HG=true:=by kernel_rfl
theorem yw:b1 HG vB ald 1 Tryz.f27=true:=by kernel_rfl
theorem xA:ao.funcs[(27:Nat)]? =some Tryz.f27:=Tryz.func27
theorem LW:b1 HG EV u9 1 Tryz.f81=true:=by kernel_rfl
theorem Jw:ao.funcs[(81:Nat)]? =some Tryz.f81:=Tryz.func81
theorem AI:b1 HG xv G9 2 Tryz.f82=true:=by kernel_rfl
theorem zu:ao.funcs[(82:Nat)]? =some Tryz.f82:=Tryz.func82
noncomputable def DL(s:dS):ah:= .tuple [(A5 s).e,.bool (nA s).isSome]
@[simp] theorem aqU(S:aI→Prop)(s:dS):aB S (DL s)=True:=by simp[DL,aB,aH]
theorem ans{k:List bM}(ab:fO k)(v:Int):bH ao 151 [.slice 2 .no (k.map bM.e),(T.var v).e,.int .i64 2] (oQ k (ko k (.var v) 2)):=X0 k (by have:=td ab;omega) ab.asc (.var v) 2
theorem XY{b y:List al}(ad:eG b)(aM:eG y):bH ao 153 [.slice 5 .no (b.map al.e),.slice 5 .no (y.map al.e)] (cO (gC b y)):=anl ad aM
theorem XX{b x:List al}(ad:eG b)(af:eG x):bH ao 152 [.slice 5 .no (b.map al.e),cO x] (gm (mgu b (hJ x))):=ank b x ad.sol ad.fits af.len
def Lh(a:List bm):ah:=match a with
 |[]=>.slice 2 .nil []
 |_::_=>.slice 2 (.own (.loc 5)) (a.map bm.e)
def Lg(a:List bm):List (aI×fN):=match a with
 |[]=>[]
 |_::_=>[(.loc 5,⟨a.length,100,2,none⟩)]
def Lf(a:List bm):Nat:=match a with
 |[]=>3
 |_::_=>6
@[simp] theorem arl:Lh []= .slice 2 .nil []:=rfl
@[simp] theorem ark(x:bm)(a:List bm):Lh (x::a)= .slice 2 (.own (.loc 5)) (x.e::a.map bm.e):=rfl
@[simp] theorem arj:Lg []=[]:=rfl
@[simp] theorem ari(x:bm)(a:List bm):Lg (x::a)=[(.loc 5,⟨a.length+1,100,2,none⟩)]:=rfl
@[simp] theorem arh:Lf []=3:=rfl
@[simp] theorem arf(x:bm)(a:List bm):Lf (x::a)=6:=rfl
set_option maxRecDepth 4000 in
theorem anw{s:dS}(h:vk s){G:List (List dE)}(nc:G.length≤687000)(a7:n5 G s.m):bH ao 81 [s.e] (DL s):=by
 unfold DL;generalize di:nA s=O;generalize dG:A5 s=SS;have kG:=Ns h.b h.k;have kH:=Nt h.b h.m nc a7;have hD:=fun k=>Hb (acc:=[]) (a:=k) h.b h.k.at' ⟨by simp,by simp⟩;have qj:=fun m=>Hc (acc:=[]) (a:=m) h.b h.m.at' ⟨by simp,by simp[hN]⟩;have na:=fun m=>My (acc:=[]) (a:=m) (s:=s.b) a7 (fun x af=>by simp at af);have ad:=h.b;have aQ:=h.d;clear h a7;unfold nA at di;unfold A5 at dG;obtain⟨n,b,d,fj,m0⟩:=s;simp only at kG kH hD qj na ad aQ di dG;have fb:=ad.len;simp only[dS.e];generalize gh b fj []=ok at kG di dG hD;generalize gi b m0 []=om at kH di dG qj na;cases ok with
 |none=>
  simp only at di dG;subst di;subst dG;simp only[fY]at kG;simp only[jj]at kH;clear hD qj na;refine bh oa Jw LW fun aO=>?_;unfold EV;simp;(with_reducible repeat' first|refine aj ?_|refine aC kG ?_|refine aD kG ?_|refine aC kH ?_|refine aD kH ?_|simp);all_goals simp[bt,u9,aX,aY,aW]
  all_goals simp[rh,dS.e]
 |some k=>
  simp only at di dG;cases om with
  |none=>
   simp only at di dG;subst di;subst dG;simp only[fY]at kG;simp only[jj]at kH;clear hD qj na;refine bh oa Jw LW fun aO=>?_;unfold EV;simp;(with_reducible repeat' first|refine aj ?_|refine aC kG ?_|refine aD kG ?_|refine aC kH ?_|refine aD kH ?_|simp);all_goals simp[bt,u9,aX,aY,aW]
   all_goals simp[rh,dS.e]
  |some m=>
   simp only at di dG;have vT:=hD k rfl;have xY:=qj m rfl;have xR:=na m rfl;have ki:m.length≤68719470000:=by have:=C7 xY xR;omega
   have zT:=UC (k:=k) xY;have zM:=Xo (k:=k) xR;simp only[fY,ka,pT]at kG;simp only[jj,ka,pT]at kH;clear hD qj na;refine bh oa Jw LW fun aO=>?_;unfold EV;have uu:d.length≤68719476736:=by simp[eu,ed,ep,lim]at aO;omega
   clear aO;simp;(with_reducible repeat' first|refine aj ?_|refine aC kG ?_|refine aD kG ?_|refine aC kH ?_|refine aD kH ?_|simp);refine ho (fun i (a:List bm)=>⟨[(1,.ptr (.loc 0) 0),(2,.ptr (.loc 1) 0),(4,.slice 2 .no (k.map bM.e)),(8,.ptr (.loc 2) 0),(48,.slice 2 .no (m.map bm.e)),(49,.int .i64 m.length),(50,.int .i64 i)],[(.loc 0,[.int .i64 n,.slice 5 .no (b.map al.e),.slice 1 .no (d.map cO),.slice 2 .no (fj.map bM.e),.slice 2 .no (m0.map bm.e)]),(.loc 1,[.int .i64 0,.slice 5 .nil [],.slice 1 .nil [],.slice 2 .nil [],.slice 2 .nil []]),(.loc 2,[.int .i64 n,.slice 5 .no (b.map al.e),.slice 1 .nil [],.slice 2 .no (k.map bM.e),Lh a])],Lg a,Lf a,[]⟩) m.length (tb k m) [] bN (by simp[tb]) (fun a ae _=>?_) (fun i a hi ae _=>?_);rotate_left
   ·obtain⟨x,af,cD⟩:=dT hi;have qN:a.length≤68719470000:=by
     have:a.length≤(m.take i).length:=by rw[ae];exact List.length_filter_le _ _
     simp at this;omega
    have ay:=ae.step af;have mH:=ans vT x.v;have bo:(ko k (.var x.v) 2).isSome=kJ k x:=YU vT x.v;simp only[oQ,bo]at mH;clear bo;generalize (ko k (.var x.v) 2).getD k=kz at mH;cases aL:kJ k x
    ·rw[aL]at ay mH;simp only[gX,if_false]at ay;clear ae af aL;cases a with
     |nil=>simp[hi,cD];(with_reducible repeat' first|refine aj ?_|refine aC (j9 _) ?_|refine aD (j9 _) ?_|refine aC mH ?_|refine aD mH ?_|simp[hi,cD]);all_goals exact bK.rng [] hi ay bN
     |cons y ys=>simp[hi,cD];(with_reducible repeat' first|refine aj ?_|refine aC (j9 _) ?_|refine aD (j9 _) ?_|refine aC mH ?_|refine aD mH ?_|simp[hi,cD]);all_goals exact bK.rng (y::ys) hi ay bN
    ·rw[aL]at ay mH;simp only[if_true]at ay;clear ae af aL;cases a with
     |nil=>
      simp[hi,cD];(with_reducible repeat' first|refine aj ?_|refine aC (j9 _) ?_|refine aD (j9 _) ?_|refine aC mH ?_|refine aD mH ?_|simp[hi,cD]);all_goals first|(refine⟨by unfold lim;omega,?_⟩)|skip
      all_goals(with_reducible repeat' first|refine aj ?_|simp)
      all_goals exact bK.rng [x] hi ay bN
     |cons y ys=>
      simp only[o6]at qN;simp[hi,cD];(with_reducible repeat' first|refine aj ?_|refine aC (j9 _) ?_|refine aD (j9 _) ?_|refine aC mH ?_|refine aD mH ?_|simp[hi,cD]);all_goals first|(refine⟨by unfold lim;omega,?_⟩)|skip
      all_goals(with_reducible repeat' first|refine aj ?_|simp)
      all_goals exact bK.rng (y::ys++[x]) hi ay ⟨by simp[fresh,aH,aB,b9,inObs,Pv.look,Al],dZ (by simp[fresh,aH,aB,b9,inObs,Pv.look,Al]),ea (by simp[fresh,aH,aB,dN,inObs,Pv.look,Al]),by simp⟩
   rw[tb,mj]at ae;rw[←ae]at zT zM di dG;clear ae xY xR;cases a with
   |nil=>
    simp;(with_reducible repeat' first|refine aj ?_|simp);refine ho (fun i (L:List (List al))=>⟨[(1,.ptr (.loc 0) 0),(2,.ptr (.loc 1) 0),(8,.ptr (.loc 2) 0),(13,.slice 1 (.own (.loc 3)) (L.map cO)),(72,.slice 1 .no (d.map cO)),(73,.int .i64 d.length),(74,.int .i64 i)],[(.loc 0,[.int .i64 n,.slice 5 .no (b.map al.e),.slice 1 .no (d.map cO),.slice 2 .no (fj.map bM.e),.slice 2 .no (m0.map bm.e)]),(.loc 1,[.int .i64 0,.slice 5 .nil [],.slice 1 .nil [],.slice 2 .nil [],.slice 2 .nil []]),(.loc 2,[.int .i64 n,.slice 5 .no (b.map al.e),.slice 1 .nil [],.slice 2 .no (k.map bM.e),.slice 2 .nil []])],[(.loc 3,⟨L.length,46,1,none⟩)],3+1,[]⟩) d.length (qa b k [] d) [] bN ⟨by simp,by simp,by simp⟩ (fun L ae _=>?_) (fun i L hi ae _=>?_)
    ·have jE:=ae.fin;have vN:=ae.2.1;rw[jE]at di dG;simp only at di dG;have np:=XZ L vN;clear ae jE vN;generalize kZ L=M at np di dG;subst dG;by_cases lz:M.length≤30
     ·have oA:(M.length:Int)≤30:=by omega
      rw[if_pos lz]at di;subst di;simp;(with_reducible repeat' first|refine aj ?_|refine aC np ?_|refine aD np ?_|simp[lz,oA]);all_goals simp[bt,u9,aX,aY,aW]
      all_goals try simp[dS.e,lz,oA]
      all_goals first|exact⟨_,rfl,rfl⟩|skip
     ·have oA:¬(M.length:Int)≤30:=by omega
      rw[if_neg lz]at di;subst di;simp;(with_reducible repeat' first|refine aj ?_|refine aC np ?_|refine aD np ?_|simp[lz,oA]);all_goals simp[bt,u9,aX,aY,aW]
      all_goals try simp[dS.e,lz,oA]
      all_goals first|exact⟨_,rfl,rfl⟩|skip
    ·obtain⟨x,af,cD⟩:=dT hi;have ij:=aQ x (dK af);have Sj:=ae.1;have hS:=XX ad ij;simp only[gm]at hS;cases hu:mgu b (hJ x)with
     |none=>have ay:=ae.skip af fun r=>K8 hu;rw[hu]at hS;simp only[nI,ml]at hS;clear ae af di dG;exact gg
     |some y=>
      have jd:=ad.mgu (BM ij) hu;rw[hu]at hS;simp only[ka,pT]at hS;have dk:=Ns jd vT;have eb:=Nt jd zT nc zM;have hT:=XY ad jd;simp only[fY]at dk;simp only[jj,List.map_nil,gO]at eb;by_cases jF:gh y k []=none∨gi y [] []=none
      ·have ay:=ae.skip af fun r=>K7 hu jF;clear ae af di dG hu hT;rcases jF with e|e
       ·rw[e]at dk;simp only[nI,ml]at dk;exact gg
       ·rw[e]at eb;simp only[nI,ml]at eb;generalize (gh y k []).isSome=a8 at dk;cases a8
        ·exact gg
        ·exact gg
      ·have ak:(gh y k []).isSome=true:=by cases e:gh y k []with|none=>exact absurd (.inl e) jF|some _=>rfl
       have aE:(gi y [] []).isSome=true:=by cases e:gi y [] []with|none=>exact absurd (.inr e) jF|some _=>rfl
       rw[ak]at dk;rw[aE]at eb;by_cases cF:gC b y=[]
       ·have ag:=ae.stop af fun r=>K6 hu jF cF;rw[ag]at di dG;simp only at di dG;subst di;subst dG;rw[cF]at hT;simp only[cO,List.map_nil]at hT;clear ae af hu jF;simp[hi,cD];(with_reducible repeat' first|refine aj ?_|refine aC hS ?_|refine aD hS ?_|refine aC dk ?_|refine aD dk ?_|refine aC eb ?_|refine aD eb ?_|refine aC hT ?_|refine aD hT ?_|simp[hi,cD]);all_goals simp[bt,u9,aX,aY,aW]
        all_goals try simp[rh,dS.e]
       ·have ay:=ae.snoc af (GB (b:=b) jd) fun r=>K9 hu jF cF;have vV:¬((gC b y).length:Int)=0:=by have:(gC b y).length≠0:=fun h=>cF (List.length_eq_zero_iff.1 h);omega
        have vW:(((gC b y).length:Int)==0)=false:=by simp[cF]
        clear ae af hu jF di dG;generalize gC b y=z at hT ay vV vW cF;simp only[cO]at hT;simp[hi,cD];(with_reducible repeat' first|refine aj ?_|refine aC hS ?_|refine aD hS ?_|refine aC dk ?_|refine aD dk ?_|refine aC eb ?_|refine aD eb ?_|refine aC hT ?_|refine aD hT ?_|simp[hi,cD,vV,vW,cF]);all_goals first|(refine⟨by unfold lim;omega,?_⟩)|skip
        all_goals(with_reducible repeat' first|refine aj ?_|simp)
        all_goals exact bK.rng (L++[z]) hi ay ⟨by simp[fresh,aH,aB,b9,inObs,Pv.look,uP,cO],dZ (by simp[fresh,aH,aB,b9,inObs,Pv.look,uP,cO]),ea (by simp[fresh,aH,aB,dN,inObs,Pv.look,uP,cO]),by simp⟩
   |cons Ee Ef=>
    simp;(with_reducible repeat' first|refine aj ?_|simp);refine ho (fun i (L:List (List al))=>⟨[(1,.ptr (.loc 0) 0),(2,.ptr (.loc 1) 0),(8,.ptr (.loc 2) 0),(13,.slice 1 (.own (.loc 6)) (L.map cO)),(72,.slice 1 .no (d.map cO)),(73,.int .i64 d.length),(74,.int .i64 i)],[(.loc 0,[.int .i64 n,.slice 5 .no (b.map al.e),.slice 1 .no (d.map cO),.slice 2 .no (fj.map bM.e),.slice 2 .no (m0.map bm.e)]),(.loc 1,[.int .i64 0,.slice 5 .nil [],.slice 1 .nil [],.slice 2 .nil [],.slice 2 .nil []]),(.loc 2,[.int .i64 n,.slice 5 .no (b.map al.e),.slice 1 .nil [],.slice 2 .no (k.map bM.e),.slice 2 (.own (.loc 5)) (Ee.e::Ef.map bm.e)])],[(.loc 6,⟨L.length,46,1,none⟩)],6+1,[]⟩) d.length (qa b k (Ee::Ef) d) [] bN ⟨by simp,by simp,by simp⟩ (fun L ae _=>?_) (fun i L hi ae _=>?_)
    ·have jE:=ae.fin;have vN:=ae.2.1;rw[jE]at di dG;simp only at di dG;have np:=XZ L vN;clear ae jE vN;generalize kZ L=M at np di dG;subst dG;by_cases lz:M.length≤30
     ·have oA:(M.length:Int)≤30:=by omega
      rw[if_pos lz]at di;subst di;simp;(with_reducible repeat' first|refine aj ?_|refine aC np ?_|refine aD np ?_|simp[lz,oA]);all_goals simp[bt,u9,aX,aY,aW]
      all_goals try simp[dS.e,lz,oA]
      all_goals first|exact⟨_,rfl,rfl⟩|skip
     ·have oA:¬(M.length:Int)≤30:=by omega
      rw[if_neg lz]at di;subst di;simp;(with_reducible repeat' first|refine aj ?_|refine aC np ?_|refine aD np ?_|simp[lz,oA]);all_goals simp[bt,u9,aX,aY,aW]
      all_goals try simp[dS.e,lz,oA]
      all_goals first|exact⟨_,rfl,rfl⟩|skip
    ·obtain⟨x,af,cD⟩:=dT hi;have ij:=aQ x (dK af);have Sj:=ae.1;have hS:=XX ad ij;simp only[gm]at hS;cases hu:mgu b (hJ x)with
     |none=>have ay:=ae.skip af fun r=>K8 hu;rw[hu]at hS;simp only[nI,ml]at hS;clear ae af di dG;exact gg
     |some y=>
      have jd:=ad.mgu (BM ij) hu;rw[hu]at hS;simp only[ka,pT]at hS;have dk:=Ns jd vT;have eb:=Nt jd zT nc zM;have hT:=XY ad jd;simp only[fY]at dk;simp only[jj,List.map_nil,gO]at eb;by_cases jF:gh y k []=none∨gi y (Ee::Ef) []=none
      ·have ay:=ae.skip af fun r=>K7 hu jF;clear ae af di dG hu hT;rcases jF with e|e
       ·rw[e]at dk;simp only[nI,ml]at dk;exact gg
       ·rw[e]at eb;simp only[nI,ml]at eb;generalize (gh y k []).isSome=a8 at dk;cases a8
        ·exact gg
        ·exact gg
      ·have ak:(gh y k []).isSome=true:=by cases e:gh y k []with|none=>exact absurd (.inl e) jF|some _=>rfl
       have aE:(gi y (Ee::Ef) []).isSome=true:=by cases e:gi y (Ee::Ef) []with|none=>exact absurd (.inr e) jF|some _=>rfl
       rw[ak]at dk;rw[aE]at eb;by_cases cF:gC b y=[]
       ·have ag:=ae.stop af fun r=>K6 hu jF cF;rw[ag]at di dG;simp only at di dG;subst di;subst dG;rw[cF]at hT;simp only[cO,List.map_nil]at hT;clear ae af hu jF;simp[hi,cD];(with_reducible repeat' first|refine aj ?_|refine aC hS ?_|refine aD hS ?_|refine aC dk ?_|refine aD dk ?_|refine aC eb ?_|refine aD eb ?_|refine aC hT ?_|refine aD hT ?_|simp[hi,cD]);all_goals simp[bt,u9,aX,aY,aW]
        all_goals try simp[rh,dS.e]
       ·have ay:=ae.snoc af (GB (b:=b) jd) fun r=>K9 hu jF cF;have vV:¬((gC b y).length:Int)=0:=by have:(gC b y).length≠0:=fun h=>cF (List.length_eq_zero_iff.1 h);omega
        have vW:(((gC b y).length:Int)==0)=false:=by simp[cF]
        clear ae af hu jF di dG;generalize gC b y=z at hT ay vV vW cF;simp only[cO]at hT;simp[hi,cD];(with_reducible repeat' first|refine aj ?_|refine aC hS ?_|refine aD hS ?_|refine aC dk ?_|refine aD dk ?_|refine aC eb ?_|refine aD eb ?_|refine aC hT ?_|refine aD hT ?_|simp[hi,cD,vV,vW,cF]);all_goals first|(refine⟨by unfold lim;omega,?_⟩)|skip
        all_goals(with_reducible repeat' first|refine aj ?_|simp)
        all_goals exact bK.rng (L++[z]) hi ay ⟨by simp[fresh,aH,aB,b9,inObs,Pv.look,uP,cO],dZ (by simp[fresh,aH,aB,b9,inObs,Pv.look,uP,cO]),ea (by simp[fresh,aH,aB,dN,inObs,Pv.look,uP,cO]),by simp⟩
theorem anr(x y:List al):bH ao 155 [cO x,cO y] (.int .i64 (ev x y)):=Nr x y
theorem anz{x y:List al}(h:¬x=y):(ev x y !=0)=true:=by have:¬ev x y=0:=fun e=>h ((lQ.zero _ _).1 e);simp[this]
set_option maxRecDepth 4000 in
theorem anv(a c:dS):bH ao 82 [a.e,c.e] (.bool (decide (a=c))):=by
 obtain⟨n,b,d,k,m⟩:=a;obtain⟨n',b5,cg,bS,ht⟩:=c;generalize bd:decide ((⟨n,b,d,k,m⟩:dS)=⟨n',b5,cg,bS,ht⟩)=R;simp only[dS.mk.injEq,dS.e]at bd⊢;by_cases a8:n=n';rotate_left
 ·have fU:R=false:=by rw[←bd];simp[a8]
  have ts:(n !=n')=true:=by simp[a8]
  rw[fU];clear bd fU;refine bh oa zu AI fun aO=>?_;unfold xv;exact bY
 subst a8;have fD:=Nr b b5;by_cases bF:b=b5;rotate_left
 ·have fU:R=false:=by rw[←bd];simp[bF]
  have oP:¬ev b b5=0:=fun h=>bF ((lQ.zero _ _).1 h);have VC:(ev b b5 !=0)=true:=by simp[oP]
  rw[fU];clear bd fU;refine bh oa zu AI fun aO=>?_;unfold xv;exact bY
 subst bF;rw[(lQ.zero b b).2 rfl]at fD;by_cases b0:d.length=cg.length;rotate_left
 ·have fU:R=false:=by rw[←bd];simp only[gI];rintro⟨_,_,rfl,_⟩;exact b0 rfl
  have sa:((d.length:Int) !=cg.length)=true:=by simp;omega
  rw[fU];clear bd fU;refine bh oa zu AI fun aO=>?_;unfold xv;exact bY
 by_cases c0:k.length=bS.length;rotate_left
 ·have fU:R=false:=by rw[←bd];simp only[gI];rintro⟨_,_,_,rfl,_⟩;exact c0 rfl
  have aki:((k.length:Int) !=bS.length)=true:=by simp;omega
  rw[fU];clear bd fU;refine bh oa zu AI fun aO=>?_;unfold xv;exact bY
 by_cases da:m.length=ht.length;rotate_left
 ·have fU:R=false:=by rw[←bd];simp only[gI];rintro⟨_,_,_,_,rfl⟩;exact da rfl
  have akj:((m.length:Int) !=ht.length)=true:=by simp;omega
  rw[fU];clear bd fU;refine bh oa zu AI fun aO=>?_;unfold xv;exact bY
 have x2:d≠cg→R=false:=fun h=>by rw[←bd];simp[h]
 have x3:k≠bS→R=false:=fun h=>by rw[←bd];simp[h]
 have Kk:m≠ht→R=false:=fun h=>by rw[←bd];simp[h]
 refine bh oa zu AI fun aO=>?_;unfold xv;have afi:cg.length≤68719476736:=by simp[eu,ed,ep,lim]at aO;omega
 have afj:bS.length≤68719476736:=by simp[eu,ed,ep,lim]at aO;omega
 have afk:ht.length≤68719476736:=by simp[eu,ed,ep,lim]at aO;omega
 clear aO;simp;(with_reducible repeat' first|refine aj ?_|refine aC fD ?_|refine aD fD ?_|simp[b0,c0,da]);have ct:=x2;refine dw [2,3,52,53] (fun i (_:Unit)=>[(54,.int .i64 i)]) cg.length (rv d cg) () bN (fun k ab=>by omega) (fun _ ae _=>?_) (fun i _ hi ae _=>?_);rotate_left
 ·obtain⟨x,af⟩:∃x,d[i]? =some x:=⟨_,bZ (by omega)⟩;obtain⟨y,aM⟩:∃y,cg[i]? =some y:=⟨_,bZ hi⟩;have gk:i<d.length:=by omega
  have cD:∀h,(d[i]'h)=x:=fun h=>by rw[bZ gk]at af;exact eE af
  have eK:∀h,(cg[i]'h)=y:=fun h=>by rw[bZ hi]at aM;exact eE aM
  have fD:=anr x y;by_cases q:x=y
  ·subst q;have ay:=ae.step af aM;rw[(lQ.zero _ _).2 rfl]at fD;clear ae af aM;simp[hi,gk,cD,eK,-iv];(with_reducible repeat' first|refine aj ?_|refine aC fD ?_|refine aD fD ?_|simp[cD,eK,hi,gk,-iv]);all_goals exact bK.rng () hi ay bN
  ·rw[ct (fun h=>q (by rw[h]at af;rw[af]at aM;exact eE aM))];have oP:=anz q;clear ae af aM;simp[hi,gk,cD,eK,-iv];(with_reducible repeat' first|refine aj ?_|refine aC fD ?_|refine aD fD ?_|simp[cD,eK,hi,gk,q,oP,-iv]);all_goals simp[bt,G9,aX,aY,aW]
 have dz:=ae.fin b0;subst dz;clear ae ct x2 b0;simp;(with_reducible repeat' first|refine aj ?_|simp[c0]);have ct:=x3;refine dw [2,3,69,70] (fun i (_:Unit)=>[(71,.int .i64 i)]) bS.length (rv k bS) () bN (fun k ab=>by omega) (fun _ ae _=>?_) (fun i _ hi ae _=>?_);rotate_left
 ·obtain⟨x,af⟩:∃x,k[i]? =some x:=⟨_,bZ (by omega)⟩;obtain⟨y,aM⟩:∃y,bS[i]? =some y:=⟨_,bZ hi⟩;have gk:i<k.length:=by omega
  have cD:∀h,(k[i]'h)=x:=fun h=>by rw[bZ gk]at af;exact eE af
  have eK:∀h,(bS[i]'h)=y:=fun h=>by rw[bZ hi]at aM;exact eE aM
  have fD:=True.intro;by_cases q:x=y
  ·subst q;have ay:=ae.step af aM;skip;clear ae af aM;simp[hi,gk,cD,eK,-iv];(with_reducible repeat' first|refine aj ?_|refine aC fD ?_|refine aD fD ?_|simp[cD,eK,hi,gk,-iv]);all_goals exact bK.rng () hi ay bN
  ·rw[ct (fun h=>q (by rw[h]at af;rw[af]at aM;exact eE aM))];skip;clear ae af aM;simp[hi,gk,cD,eK,-iv];(with_reducible repeat' first|refine aj ?_|refine aC fD ?_|refine aD fD ?_|simp[cD,eK,hi,gk,q,q,-iv]);all_goals simp[bt,G9,aX,aY,aW]
 have dz:=ae.fin c0;subst dz;clear ae ct x3 c0;simp;(with_reducible repeat' first|refine aj ?_|simp[da]);have ct:=Kk;refine dw [3,85,86] (fun i (_:Unit)=>[(87,.int .i64 i)]) ht.length (rv m ht) () bN (fun k ab=>by omega) (fun _ ae _=>?_) (fun i _ hi ae _=>?_);rotate_left
 ·obtain⟨x,af⟩:∃x,m[i]? =some x:=⟨_,bZ (by omega)⟩;obtain⟨y,aM⟩:∃y,ht[i]? =some y:=⟨_,bZ hi⟩;have gk:i<m.length:=by omega
  have cD:∀h,(m[i]'h)=x:=fun h=>by rw[bZ gk]at af;exact eE af
  have eK:∀h,(ht[i]'h)=y:=fun h=>by rw[bZ hi]at aM;exact eE aM
  have fD:=True.intro;by_cases q:x=y
  ·subst q;have ay:=ae.step af aM;skip;clear ae af aM;simp[hi,gk,cD,eK,-iv];(with_reducible repeat' first|refine aj ?_|refine aC fD ?_|refine aD fD ?_|simp[cD,eK,hi,gk,-iv]);all_goals exact bK.rng () hi ay bN
  ·rw[ct (fun h=>q (by rw[h]at af;rw[af]at aM;exact eE aM))];skip;clear ae af aM;simp[hi,gk,cD,eK,-iv];(with_reducible repeat' first|refine aj ?_|refine aC fD ?_|refine aD fD ?_|simp[cD,eK,hi,gk,q,q,-iv]);all_goals simp[bt,G9,aX,aY,aW]
 have dz:=ae.fin da;subst dz;have fU:R=true:=by rw[←bd];simp
 rw[fU];exact bY
@[simp] theorem amh:∀l:List (List cT),cR (l.map gb)=l.map gb
 |[]=>rfl
 |x::xs=>by simp[cR,amh xs]
theorem Xe:∀{d:List (List cT)},d.all gG=true→∃D:List (List al),d=(D.map fun x=>x.map al.b)∧∀x∈D,eG x
 |[],_=>⟨[],rfl,by simp⟩
 |x::d,h=>by
  rw[List.all_cons,cC]at h;obtain⟨D,J,U⟩:=Xe h.2;obtain⟨s,ak,aE⟩:=wY.1 (q9.1 h.1);refine⟨s::D,by rw[J,ak];rfl,fun y aM=>?_⟩;rcases fR.1 aM with rfl|aM
  ·exact aE
  ·exact U y aM
open Classical in
set_option maxRecDepth 4000 in
theorem X6(r:hO)(fB:il r.m→pM r.m):bH ao 27 [r.e] (.bool (decide (oU r))):=by
 generalize bd:decide (oU r)=R;have ct:¬Mw r→R=false:=fun h=>by rw[←bd,gI];exact fun cb=>h cb.raw
 obtain⟨n,b,d,k,m⟩:=r;simp only[hO.e]at fB⊢;have kF:=dq n 0 100000;by_cases g1:0≤n∧n≤100000;rotate_left
 ·rw[ct fun h=>g1 h.n];rw[iB g1]at kF;refine bh oa xA yw fun aO=>?_;unfold vB;exact bY
 rw[gJ g1]at kF;have mG:bH ao 76 [.slice 5 .no (b.map cT.e)] (.bool (gG b)):=Nv b;cases g3:gG b
 ·rw[ct fun h=>by obtain⟨s,ak,aE,_⟩:=h.b;have:=q9.2 (wY.2 ⟨s,ak,aE⟩);simp only at this;rw[g3]at this;cases this]
  rw[g3]at mG;refine bh oa xA yw fun aO=>?_;unfold vB;exact bY
 rw[g3]at mG;obtain⟨s,rfl,ag⟩:=wY.1 (q9.1 g3);clear g3;rw[r1]at mG⊢;have fC:=anq d;cases vK:d.all gG
 ·rw[ct fun h=>by
   have:d.all gG=true:=by rw[gn];intro x af;obtain⟨s,ak,aE,_⟩:=h.d x af;exact q9.2 (wY.2 ⟨s,ak,aE⟩)
   rw[vK]at this;cases this]
  rw[vK]at fC;refine bh oa xA yw fun aO=>?_;unfold vB;exact bY
 rw[vK]at fC;obtain⟨D,rfl,um⟩:=Xe vK;clear vK;rw[I4]at fC⊢;have dk:=anJ k;by_cases g4:fO k;rotate_left
 ·rw[ct fun h=>g4 h.k];rw[iB g4]at dk;refine bh oa xA yw fun aO=>?_;unfold vB;exact bY
 rw[gJ g4]at dk;have eb:=anK m;by_cases g5:il m;rotate_left
 ·rw[ct fun h=>g5 h.m];rw[iB g5]at eb;refine bh oa xA yw fun aO=>?_;unfold vB;exact bY
 rw[gJ g5]at eb;have lj:=X1 s n;cases g6:s.all (kT n)
 ·rw[ct fun h=>by obtain⟨ai,ak,_,bj⟩:=h.b;have c2:=rq ak;subst c2;rw[vw.2 bj]at g6;cases g6]
  rw[g6]at lj;refine bh oa xA yw fun aO=>?_;unfold vB;exact bY
 rw[g6]at lj;have cL:=vw.1 g6;clear g6;have Cr:=fB g5;have ki:=Cr.len g5;refine bh oa xA yw fun aO=>?_;unfold vB;have uu:D.length≤68719476736:=by simp[eu,ed,ep,lim]at aO;omega
 have hK:=td g4;clear aO fB;simp;(with_reducible repeat' first|refine aj ?_|refine aC kF ?_|refine aD kF ?_|refine aC mG ?_|refine aD mG ?_|refine aC fC ?_|refine aD fC ?_|refine aC dk ?_|refine aD dk ?_|refine aC eb ?_|refine aD eb ?_|refine aC lj ?_|refine aD lj ?_|simp);refine dw [1,48,49] (fun i (_:Unit)=>[(50,.int .i64 i)]) D.length (rX (fun x=>pV x n) D) () bN (fun k b ab=>by omega) (fun _ ae _=>?_) (fun i _ hi ae _=>?_);rotate_left
 ·obtain⟨y,aM,eK⟩:=dT hi;have KF:=dK aM;have mH:bH ao 80 [cO y,.int .i64 n] (.bool (y.all (kT n))):=X1 y n;cases rF:y.all (kT n)
  ·rw[ct fun h=>by obtain⟨ai,ak,_,bj⟩:=h.d _ (List.mem_map_of_mem KF);have c2:=rq ak;subst c2;rw[vw.2 bj]at rF;cases rF]
   rw[rF]at mH;clear ae aM KF;exact bY
  ·rw[rF]at mH;have ay:=ae.step aM (vw.1 rF);clear ae aM KF;exact gg
 have JS:=ae.fin;clear ae;simp;(with_reducible repeat' first|refine aj ?_|simp);refine dw [1,61,62] (fun i (_:Unit)=>[(63,.int .i64 i)]) k.length (rX (fun x=>x.v<n) k) () bN (fun k b ab=>by omega) (fun _ ae _=>?_) (fun i _ hi ae _=>?_);rotate_left
 ·obtain⟨x,af,cD⟩:=dT hi;by_cases mx:x.v<n
  ·have xH:¬n≤x.v:=by omega
   have ay:=ae.step af mx;clear ae af;exact gg
  ·have xH:n≤x.v:=by omega
   rw[ct fun h=>mx (h.kb x (dK af))];clear ae af;exact bY
 have xS:=ae.fin;clear ae;simp;(with_reducible repeat' first|refine aj ?_|simp);have p2:=xS;refine dw [1,74,75] (fun i (_:Unit)=>[(76,.int .i64 i)]) m.length (rX (fun x=>x.v<n) m) () bN (fun k b ab=>by omega) (fun _ ae _=>?_) (fun i _ hi ae _=>?_);rotate_left
 ·obtain⟨x,af,cD⟩:=dT hi;by_cases mx:x.v<n
  ·have xH:¬n≤x.v:=by omega
   have ay:=ae.step af mx;clear ae af;exact gg
  ·have xH:n≤x.v:=by omega
   rw[ct fun h=>mx (h.mb x (dK af))];clear ae af;exact bY
 have xS:=ae.fin;clear ae;simp;(with_reducible repeat' first|refine aj ?_|simp);have pB:=xS;have dd:vk ⟨n,s,D,k,m⟩:=⟨g1,ag,um,g4,g5,cL,JS,p2,pB⟩;have uB:=W8 dd;obtain⟨G,nc,a7⟩:=Cr;have dp:=anw dd nc a7;have lf:oU ⟨n,s.map al.b,D.map fun x=>x.map al.b,k,m⟩↔nA ⟨n,s,D,k,m⟩=some ⟨n,s,D,k,m⟩:=uB;clear uB ct;simp only[DL]at dp;generalize JU:A5 ⟨n,s,D,k,m⟩=t at dp;have wq:=anv t ⟨n,s,D,k,m⟩;cases lJ:nA ⟨n,s,D,k,m⟩with
 |none=>
  rw[lJ]at dp lf;have fU:R=false:=by rw[←bd,gI,lf];simp
  rw[fU];obtain⟨tE,Xq,Xr,tD,tm⟩:=t;simp only[ml,dS.e]at dp;clear bd fU lf JU wq;exact bY
 |some dO=>
  have ak:=alJ lJ;rw[JU]at ak;subst ak;rw[lJ]at dp lf;have fU:R=decide (t=⟨n,s,D,k,m⟩):=by rw[←bd,decide_eq_decide,lf];simp
  rw[fU];simp only[pT]at dp;simp only[dS.e]at dp wq;clear bd fU lf lJ;generalize decide (t=(⟨n,s,D,k,m⟩:dS))=Q at wq⊢;clear JU;obtain⟨tE,Xq,Xr,tD,tm⟩:=t;simp only at dp wq;exact bY
def pW(d:cN (cN e3)):ah:=d.e 1 kq
def qd(k:cN bM):ah:=k.e 2 bM.e
def qh(m:cN hn):ah:=m.e 2 hn.e
@[simp] theorem aqJ(S:aI→Prop)(d:cN (cN e3)):aB S (pW d)=True:=by cases d<;>simp[pW,cN.e,aB]
@[simp] theorem atn(d:cN (cN e3)):dm (pW d)=pW d:=by
 cases d with
 |l l=>
  have:∀l:List (cN e3),cR (l.map kq)=l.map kq:=by
   intro l;induction l with
   |nil=>rfl
   |cons x l bO=>simp[cR,bO]
  simp[pW,cN.e,dm,this]
 |b=>simp[pW,cN.e,dm]
@[simp] theorem asU(d:cN (cN e3)):ec (pW d)=true:=by cases d<;>rfl
@[simp] theorem aoP(d:cN (cN e3)):cells (pW d)=[pW d]:=by cases d<;>rfl
@[simp] theorem aqQ(S:aI→Prop)(d:cN bM):aB S (qd d)=True:=by cases d<;>simp[qd,cN.e,aB]
@[simp] theorem atu(d:cN bM):dm (qd d)=qd d:=by
 cases d with
 |l l=>
  have:∀l:List bM,cR (l.map bM.e)=l.map bM.e:=by
   intro l;induction l with
   |nil=>rfl
   |cons x l bO=>simp[cR,bO]
  simp[qd,cN.e,dm,this]
 |b=>simp[qd,cN.e,dm]
@[simp] theorem as4(d:cN bM):ec (qd d)=true:=by cases d<;>rfl
@[simp] theorem ao0(d:cN bM):cells (qd d)=[qd d]:=by cases d<;>rfl
@[simp] theorem aqS(S:aI→Prop)(d:cN hn):aB S (qh d)=True:=by cases d<;>simp[qh,cN.e,aB]
@[simp] theorem atw(d:cN hn):dm (qh d)=qh d:=by
 cases d with
 |l l=>
  have:∀l:List hn,cR (l.map hn.e)=l.map hn.e:=by
   intro l;induction l with
   |nil=>rfl
   |cons x l bO=>simp[cR,bO]
  simp[qh,cN.e,dm,this]
 |b=>simp[qh,cN.e,dm]
@[simp] theorem as6(d:cN hn):ec (qh d)=true:=by cases d<;>rfl
@[simp] theorem ao2(d:cN hn):cells (qh d)=[qh d]:=by cases d<;>rfl
structure oq where
 n:Int
 b:cN e3
 d:cN (cN e3)
 k:cN bM
 m:cN hn
def oq.e(r:oq):ah:= .agg [.int .i64 r.n,kq r.b,pW r.d,qd r.k,qh r.m]
structure oq.wf (r:oq):Prop where
 b:w9 r.b
 d:r.d.wf w9
 k:∀p n cap,r.k= .b p n cap→mO n
 m:r.m.wf fun x=>x.s.wf
def tB(r:oq)(m:Int):Int:=if h3 r.b m<0 then-1 else if gE h3 r.d (h3 r.b m)<0 then-1 else if oW r.k (gE h3 r.d (h3 r.b m))<0 then-1 else if gE lU r.m (oW r.k (gE h3 r.d (h3 r.b m)))<0 then-1 else gE lU r.m (oW r.k (gE h3 r.d (h3 r.b m)))
def zb(b:cT):e3:=⟨b.v,vo b.t⟩
def yo(b:bm):hn:=⟨b.v,.s b.s⟩
theorem Zq(b:cT):(zb b).e=b.e:=by have h:=Ng b.t;rw[ck.e_eq,vE]at h;simp only[ah.agg.injEq,qs,and_true,true_and]at h;obtain⟨J,U,ar,ba⟩:=h;show ah.agg [_,_,_,_,_]=ah.agg [_,_,_,_,_];rw[show(zb b).t=vo b.t from rfl,J,U,ar,ba];rfl
theorem ahH(b:bm):(yo b).e=b.e:=rfl
theorem Zr(l:List cT):(l.map zb).map e3.e=l.map cT.e:=by rw[List.map_map];exact List.map_congr_left fun b _=>Zq b
theorem ahI(l:List bm):(l.map yo).map hn.e=l.map bm.e:=by rw[List.map_map];exact List.map_congr_left fun b _=>ahH b
def uc(d:List cT):cN e3:= .l (d.map zb)
theorem Q8(d:List cT):kq (uc d)=gb d:=by simp only[kq,uc,cN.e,gb,Zr]
theorem aah(l:List (List cT)):(l.map uc).map kq=l.map gb:=by rw[List.map_map];exact List.map_congr_left fun b _=>Q8 b
def hO.h(r:hO):oq:=⟨r.n,uc r.b,.l (r.d.map uc),.l r.k,.l (r.m.map yo)⟩
theorem amc(r:hO):r.h.e=r.e:=by simp only[oq.e,hO.h,hO.e,Q8,pW,qd,qh,cN.e,aah,ahI];rfl
theorem amm(x:e3)(m:Int)(hw:x.t.wf)(J:m≤1048576)(bn:0≤m)(h:0≤sg x m):∃y,x=zb y:=by obtain⟨u,hu⟩:=Na x.t m hw J bn h;exact⟨⟨x.v,u⟩,by cases x;simp only[zb]at hu⊢;rw[hu]⟩
theorem amn(x:hn)(m:Int)(hw:x.s.wf)(J:m≤1048576)(bn:0≤m)(h:0≤lU x m):∃y,x=yo y:=by
 unfold lU at h;split at h
 ·omega
 ·obtain⟨l,aw⟩:=gY.small hw J h;exact⟨⟨x.v,l⟩,by cases x;simp only[yo]at aw⊢;rw[aw]⟩
theorem Xh(x:cN e3)(m:Int)(hw:w9 x)(J:m≤1048576)(bn:0≤m)(h:0≤h3 x m):∃y,x=uc y:=HC (P:=fun b:e3=>b.t.wf) M8 amm x m (show cN.wf (fun b:e3=>b.t.wf) x from hw) J bn h
theorem Xn:∀(l:List bm) (m:Int),(∀x∈l,1≤x.s.length)→0≤j5 lU (l.map yo) m→(l.length:Int)≤m
 |[],m,_,h=>by simpa[j5]using h
 |x::l,m,J,h=>by
  simp only[gO,j5]at h;split at h
  ·omega
  ·rename_i U;have ar:=Xn l _ (fun y aM=>J y (by simp[aM])) h;have ba:=J x (by simp);have b4:lU (yo x) m=if m-x.s.length<0 then-1 else m-x.s.length:=rfl
   rw[b4]at U ar;split at ar
   ·rename_i c9;rw[if_pos c9]at U;omega
   ·simp only[o6];omega
theorem ahR{s:List dE}(h:jJ s=true):1≤s.length:=by
 cases s with
 |nil=>simp[jJ]at h
 |cons c s=>simp
theorem amq{r:oq}(hw:r.wf)(h:0≤tB r 1048576):∃u:hO,r=u.h∧(il u.m→pM u.m):=by
 obtain⟨n,b,d,k,l⟩:=r;obtain⟨eg,dv,nE,mP⟩:=hw;simp only at eg dv nE mP;unfold tB at h;simp only at h;have cl:=w1 b 1048576 (by omega);split at h
 ·omega
 have b8:=tz w1 d (h3 b 1048576) (by omega);split at h
 ·omega
 have fG:=M9 k (gE h3 d (h3 b 1048576)) (by omega);split at h
 ·omega
 split at h
 ·omega
 obtain⟨b5,rfl⟩:=Xh b 1048576 eg (by omega) (by omega) (by omega);obtain⟨cg,rfl⟩:=HC w1 (P:=w9) Xh d (h3 (uc b5) 1048576) dv (by omega) (by omega) (by omega);generalize gE h3 (.l (cg.map uc)) (h3 (uc b5) 1048576)=bF at*;cases k with
 |b=>simp only[oW]at*;omega
 |l bS=>
  generalize oW (.l bS) bF=b0 at*;have ou:=tz DZ l b0 (by omega);obtain⟨ht,rfl⟩:=HC DZ (P:=fun x=>x.s.wf) amn l b0 mP (by omega) (by omega) (by omega);refine⟨⟨n,b5,cg,bS,ht⟩,rfl,fun hm=>pM.of ?_⟩;simp only at hm⊢;simp only[gE,oX]at h;split at h
  ·omega
  ·have:=Xn ht _ (fun x af=>ahR (hm.at' x af).2) h;simp only[rj]at this;omega
theorem anV(r:oq)(hw:r.wf)(m:Int)(bn:0≤m)(J:m≤1048576):bH ao 26 [r.e,.int .i64 m] (.int .i64 (tB r m)):=by
 generalize bd:tB r m=R;obtain⟨n,b,d,k,l⟩:=r;obtain⟨eg,dv,nE,mP⟩:=hw;simp only at eg dv nE mP;unfold tB at bd;simp only[oq.e]at bd⊢;have aU:=X8 b eg m bn J;have cl:=w1 b m bn;generalize h3 b m=a8 at bd aU cl;have bC:_→bH ao 72 [pW d,.int .i64 a8] (.int .i64 (gE h3 d a8)):=fun h=>anS d (fun p n c e=>by subst e;exact dv) (fun xs e x af m bn J=>by subst e;exact X8 x (dv x af) m bn J) a8 h (by omega);have b8:=fun h=>tz w1 d a8 h;generalize gE h3 d a8=bF at bd bC b8;have cf:_→_→bH ao 73 [qd k,.int .i64 bF] (.int .i64 (oW k bF)):=fun h cb=>anX k nE bF h cb;have fG:=fun h=>M9 k bF h;generalize oW k bF=b0 at bd cf fG;have eZ:_→_→bH ao 74 [qh l,.int .i64 b0] (.int .i64 (gE lU l b0)):=fun h cb=>anU l (fun p n c e=>by subst e;exact mP) (fun xs e x af m bn J=>by subst e;exact anT x (mP x af) m bn J) b0 h cb;have ou:=fun h=>tz DZ l b0 h;generalize gE lU l b0=c0 at bd eZ ou;clear eg dv nE mP;by_cases g1:a8<0
 ·rw[if_pos g1]at bd;subst bd;clear bC cf eZ;refine bh fE BQ Dm fun aO=>?_;unfold zg;exact bY
 rw[if_neg g1]at bd;have bC:=bC (by omega);have b8:=b8 (by omega);by_cases g2:bF<0
 ·rw[if_pos g2]at bd;subst bd;clear cf eZ;refine bh fE BQ Dm fun aO=>?_;unfold zg;exact bY
 rw[if_neg g2]at bd;have cf:=cf (by omega) (by omega);have fG:=fG (by omega);by_cases g3:b0<0
 ·rw[if_pos g3]at bd;subst bd;clear eZ;refine bh fE BQ Dm fun aO=>?_;unfold zg;exact bY
 rw[if_neg g3]at bd;have eZ:=eZ (by omega) (by omega);have ou:=ou (by omega);by_cases g4:c0<0
 ·rw[if_pos g4]at bd;subst bd;refine bh fE BQ Dm fun aO=>?_;unfold zg;exact bY
 rw[if_neg g4]at bd;subst bd;refine bh fE BQ Dm fun aO=>?_;unfold zg;exact bY
theorem an4(r:hO):bH ao 28 [r.e] r.e:=by obtain⟨n,b,d,k,l⟩:=r;simp only[hO.e];have aU:bH ao 35 [.slice 5 .no (b.map cT.e)] (.slice 5 .no (b.map cT.e)):=Ya b;have bC:=an1 d fun x _=>Ya x;have cf:=an7 k fun x _=>an6 x;have eZ:=an3 l fun x _=>an2 x;refine bh fE acs ai3 fun aO=>?_;unfold PK;exact bY
theorem am5(r:hO):bH ao 30 [r.e,r.e] (.bool true):=by obtain⟨n,b,d,k,l⟩:=r;simp only[hO.e];have aU:bH ao 37 [.slice 5 .no (b.map cT.e),.slice 5 .no (b.map cT.e)] (.bool true):=XN b;have bC:=am2 d fun x _=>XN x;have cf:=am8 k fun x _=>am7 x;have eZ:=am4 l fun x _=>am3 x;refine bh fE ach aiT fun aO=>?_;unfold PA;exact bY
end Go.Proofs.YtahlgcidhnjlbaaGreat
namespace Go.Proofs.YtahlgcidhnjlbaaGreat
open Go Go.Pv Go.ChangeShapes Go.WideShapes Go.ChangeAt Go.RowKit Go.Deep
section
variable {H:Type} {enc:fZ×Value→H} {W:World} {spare:Nat→Bool} {held:Bool} {cs:List Value} {x:DataW H×List MemPlace} {fuel:Nat}
theorem BI:ao.cellsOf 3=1:=by kernel_rfl
theorem QT:ao.cellsOf 9=1:=by kernel_rfl
theorem EY:ao.cellsOf 24=4:=by kernel_rfl
theorem ZD:ao.cellsOf 22=1:=by kernel_rfl
theorem QP:ao.cellsOf 111=5:=by kernel_rfl
theorem QQ:ao.cellsOf 38=1:=by kernel_rfl
theorem Zz:ao.cellsOf 39=1:=by kernel_rfl
theorem QR:ao.cellsOf 158=2:=by kernel_rfl
theorem ZA:ao.cellsOf 40=1:=by kernel_rfl
theorem QS:ao.cellsOf 146=2:=by kernel_rfl
theorem ZB:ao.cellsOf 41=1:=by kernel_rfl
theorem ZC:ao.cellsOf 43=5:=by kernel_rfl
theorem yb(h:iX enc ao W 0 spare held fuel 3 cs=some x):∃(n:Int) (v:Value),cs=[v]∧vb W (.int .i64 n) v:=by obtain⟨n,rfl,_,_⟩:=DataW.trod_int Tryz.underlying3 h;exact⟨n,_,rfl,by simp only[bc],rfl,rfl⟩
theorem W9(h:iX enc ao W 0 spare held fuel 9 cs=some x):∃(s:gY) (v:Value),s.wf∧cs=[v]∧vb W s.e v:=by
 obtain⟨s,rfl,_,hm⟩:=DataW.trod_string Tryz.underlying9 h;by_cases ag:lim<s.size
 ·exact⟨.b s,_,⟨ag,by unfold maxLen at hm;omega⟩,rfl,by simp only[gY.e,bc],rfl,rfl⟩
 ·refine⟨.s s.data.toList,_,trivial,rfl,?_,rfl,rfl⟩;simp only[gY.e,bc];refine⟨by simp,?_⟩;have:s.data.toList.length=s.size:=rfl;omega
theorem Up{α:Type}:∀{cs:List α},cs.length=2→∃a b,cs=[a,b]
 |[a,b],_=>⟨a,b,rfl⟩
theorem ag8{α:Type}:∀{cs:List α},cs.length=4→∃a b c d,cs=[a,b,c,d]
 |[a,b,c,d],_=>⟨a,b,c,d,rfl⟩
theorem Uq{α:Type}:∀{cs:List α},cs.length=5→∃a b c d e,cs=[a,b,c,d,e]
 |[a,b,c,d,e],_=>⟨a,b,c,d,e,rfl⟩
theorem Xs:∀(fuel:Nat) (cs:List Value) (x:DataW H×List MemPlace),iX enc ao W 0 spare held fuel 24 cs=some x→∃t:ck,t.wf∧c7 W (qJ W) [.int .i64 t.kind,.int .i64 t.num,t.name.e,t.args.e 4 ck.e] cs:=by
 intro fuel;induction fuel using Nat.strongRecOn with
 |ind fuel bO=>
  intro cs x h;obtain⟨xs,n,rfl,_,hlen,kj,aL⟩:=DataW.trod_struct Tryz.underlying24 h;rw[EY]at hlen;obtain⟨iI,bL,cp,dc,rfl⟩:=ag8 hlen;have FY:xs.length=4:=kj;have f0:iX enc ao W 0 spare held n 3 (([iI,bL,cp,dc].drop 0).take (ao.cellsOf 3))=xs[0]?:=aL 0 _ rfl;have f1:iX enc ao W 0 spare held n 3 (([iI,bL,cp,dc].drop 1).take (ao.cellsOf 3))=xs[1]?:=aL 1 _ rfl;have f2:iX enc ao W 0 spare held n 9 (([iI,bL,cp,dc].drop 2).take (ao.cellsOf 9))=xs[2]?:=aL 2 _ rfl;have f3:iX enc ao W 0 spare held n 22 (([iI,bL,cp,dc].drop 3).take (ao.cellsOf 22))=xs[3]?:=aL 3 _ rfl;simp only[BI,QT,ZD,nF,lY]at f0 f1 f2 f3;rw[bZ (by omega)]at f0 f1 f2 f3;obtain⟨k,v0,fo,r0⟩:=yb f0;obtain⟨m,v1,ak,dM⟩:=yb f1;obtain⟨s,v2,dv,aE,ff⟩:=W9 f2;obtain⟨l,nE,v3,bj,k0⟩:=A9 ck.e ck.wf Tryz.underlying22 EY (by omega) (fun n' cs' Ed ay cb=>by obtain⟨t,t1,t2⟩:=bO n' (by omega) cs' Ed cb;exact⟨t,t1,by rw[ck.e_eq];exact AZ t2⟩) f3
  simp only[qs,and_true]at fo ak aE bj;subst fo ak aE bj;cases l with
  |l a=>
   refine⟨.mk k m s a,?_,?_⟩
   ·simp only[ck.wf,ck.wfL_iff];exact⟨dv,nE⟩
   ·simp only[c7,ck.kind,ck.num,ck.name,ck.args];exact⟨_,_,rfl,⟨r0.1,r0.2.1⟩,_,_,rfl,⟨dM.1,dM.2.1⟩,_,_,rfl,⟨ff.1,ff.2.1⟩,_,_,rfl,⟨k0.1,k0.2.1⟩,rfl⟩
  |b p a1 c=>
   refine⟨.big k m s p a1 c,?_,?_⟩
   ·simp only[ck.wf];exact⟨dv,nE⟩
   ·simp only[c7,ck.kind,ck.num,ck.name,ck.args];exact⟨_,_,rfl,⟨r0.1,r0.2.1⟩,_,_,rfl,⟨dM.1,dM.2.1⟩,_,_,rfl,⟨ff.1,ff.2.1⟩,_,_,rfl,⟨k0.1,k0.2.1⟩,rfl⟩
theorem Zi(h:iX enc ao W 0 spare held fuel 111 cs=some x):∃b:e3,b.t.wf∧reads W b.e cs:=by obtain⟨xs,n,rfl,_,hlen,kj,aL⟩:=DataW.trod_struct Tryz.underlying111 h;rw[QP]at hlen;obtain⟨iI,bL,cp,dc,ix,rfl⟩:=Uq hlen;have FY:xs.length=2:=kj;have f0:iX enc ao W 0 spare held n 3 (([iI,bL,cp,dc,ix].drop 0).take (ao.cellsOf 3))=xs[0]?:=aL 0 _ rfl;have f1:iX enc ao W 0 spare held n 24 (([iI,bL,cp,dc,ix].drop 1).take (ao.cellsOf 24))=xs[1]?:=aL 1 _ rfl;simp only[BI,EY,nF,lY]at f0 f1;rw[bZ (by omega)]at f0 f1;obtain⟨k,v0,fo,r0⟩:=yb f0;obtain⟨t,eg,dM⟩:=Xs _ _ _ f1;simp only[qs,and_true]at fo;subst fo;refine⟨⟨k,t⟩,eg,AZ ?_⟩;rw[c7];exact⟨_,_,rfl,⟨r0.1,r0.2.1⟩,dM⟩
theorem agZ(h:iX enc ao W 0 spare held fuel 158 cs=some x):∃b:bM,True∧reads W b.e cs:=by obtain⟨xs,n,rfl,_,hlen,kj,aL⟩:=DataW.trod_struct Tryz.underlying158 h;rw[QR]at hlen;obtain⟨iI,bL,rfl⟩:=Up hlen;have FY:xs.length=2:=kj;have f0:iX enc ao W 0 spare held n 3 (([iI,bL].drop 0).take (ao.cellsOf 3))=xs[0]?:=aL 0 _ rfl;have f1:iX enc ao W 0 spare held n 3 (([iI,bL].drop 1).take (ao.cellsOf 3))=xs[1]?:=aL 1 _ rfl;simp only[BI,nF,lY]at f0 f1;rw[bZ (by omega)]at f0 f1;obtain⟨k,v0,fo,r0⟩:=yb f0;obtain⟨m,v1,ak,dM⟩:=yb f1;simp only[qs,and_true]at fo ak;subst fo ak;refine⟨⟨k,m⟩,trivial,AZ ?_⟩;simp only[c7];exact⟨_,_,rfl,⟨r0.1,r0.2.1⟩,_,_,rfl,⟨dM.1,dM.2.1⟩,rfl⟩
theorem ahj(h:iX enc ao W 0 spare held fuel 146 cs=some x):∃b:hn,b.s.wf∧reads W b.e cs:=by obtain⟨xs,n,rfl,_,hlen,kj,aL⟩:=DataW.trod_struct Tryz.underlying146 h;rw[QS]at hlen;obtain⟨iI,bL,rfl⟩:=Up hlen;have FY:xs.length=2:=kj;have f0:iX enc ao W 0 spare held n 3 (([iI,bL].drop 0).take (ao.cellsOf 3))=xs[0]?:=aL 0 _ rfl;have f1:iX enc ao W 0 spare held n 9 (([iI,bL].drop 1).take (ao.cellsOf 9))=xs[1]?:=aL 1 _ rfl;simp only[BI,QT,nF,lY]at f0 f1;rw[bZ (by omega)]at f0 f1;obtain⟨k,v0,fo,r0⟩:=yb f0;obtain⟨s,v1,eg,ak,dM⟩:=W9 f1;simp only[qs,and_true]at fo ak;subst fo ak;refine⟨⟨k,s⟩,eg,AZ ?_⟩;simp only[c7];exact⟨_,_,rfl,⟨r0.1,r0.2.1⟩,_,_,rfl,⟨dM.1,dM.2.1⟩,rfl⟩
theorem Ot(h:iX enc ao W 0 spare held fuel 38 cs=some x):∃d:cN e3,w9 d∧∃v,cs=[v]∧vb W (kq d) v:=A9 e3.e (fun b=>b.t.wf) Tryz.underlying38 QP (by omega) (fun _ _ _ _ cb=>Zi cb) h
theorem Zj(h:iX enc ao W 0 spare held fuel 39 cs=some x):∃d:cN (cN e3),d.wf w9∧∃v,cs=[v]∧vb W (pW d) v:=A9 kq w9 Tryz.underlying39 QQ (by omega) (fun _ _ _ _ cb=>by obtain⟨d,w,v,rfl,r⟩:=Ot cb;exact⟨d,w,r.reads⟩) h
theorem ag2(h:iX enc ao W 0 spare held fuel 40 cs=some x):∃d:cN bM,d.wf (fun _=>True)∧∃v,cs=[v]∧vb W (qd d) v:=A9 bM.e (fun _=>True) Tryz.underlying40 QR (by omega) (fun _ _ _ _ cb=>agZ cb) h
theorem ahk(h:iX enc ao W 0 spare held fuel 41 cs=some x):∃d:cN hn,d.wf (fun b=>b.s.wf)∧∃v,cs=[v]∧vb W (qh d) v:=A9 hn.e (fun b=>b.s.wf) Tryz.underlying41 QS (by omega) (fun _ _ _ _ cb=>ahj cb) h
theorem amb(h:iX enc ao W 0 spare held fuel 43 cs=some x):∃r:oq,r.wf∧reads W r.e cs:=by obtain⟨xs,n,rfl,_,hlen,kj,aL⟩:=DataW.trod_struct Tryz.underlying43 h;rw[ZC]at hlen;obtain⟨iI,bL,cp,dc,ix,rfl⟩:=Uq hlen;have FY:xs.length=5:=kj;have f0:iX enc ao W 0 spare held n 3 (([iI,bL,cp,dc,ix].drop 0).take (ao.cellsOf 3))=xs[0]?:=aL 0 _ rfl;have f1:iX enc ao W 0 spare held n 38 (([iI,bL,cp,dc,ix].drop 1).take (ao.cellsOf 38))=xs[1]?:=aL 1 _ rfl;have f2:iX enc ao W 0 spare held n 39 (([iI,bL,cp,dc,ix].drop 2).take (ao.cellsOf 39))=xs[2]?:=aL 2 _ rfl;have f3:iX enc ao W 0 spare held n 40 (([iI,bL,cp,dc,ix].drop 3).take (ao.cellsOf 40))=xs[3]?:=aL 3 _ rfl;have f4:iX enc ao W 0 spare held n 41 (([iI,bL,cp,dc,ix].drop 4).take (ao.cellsOf 41))=xs[4]?:=aL 4 _ rfl;simp only[BI,QQ,Zz,ZA,ZB,nF,lY]at f0 f1 f2 f3 f4;rw[bZ (by omega)]at f0 f1 f2 f3 f4;obtain⟨k,v0,fo,r0⟩:=yb f0;obtain⟨d1,eg,v1,ak,dM⟩:=Ot f1;obtain⟨d2,dv,v2,aE,ff⟩:=Zj f2;obtain⟨d3,nE,v3,bj,k0⟩:=ag2 f3;obtain⟨d4,mP,v4,c2,VD⟩:=ahk f4;simp only[qs,and_true]at fo ak aE bj c2;subst fo ak aE bj c2;refine⟨⟨k,d1,d2,d3,d4⟩,⟨eg,dv,fun p n c e=>by simp only at e;subst e;exact nE,mP⟩,AZ ?_⟩;simp only[c7];exact⟨_,_,rfl,⟨r0.1,r0.2.1⟩,_,_,rfl,⟨dM.1,dM.2.1⟩,_,_,rfl,⟨ff.1,ff.2.1⟩,_,_,rfl,⟨k0.1,k0.2.1⟩,_,_,rfl,⟨VD.1,VD.2.1⟩,rfl⟩
end
end Go.Proofs.YtahlgcidhnjlbaaGreat
namespace Go.Proofs.YtahlgcidhnjlbaaGreat
open Go Go.Pv Go.ChangeShapes Go.WideShapes Go.ChangeAt Go.RowKit
theorem alu:ownKnob ao.godebug=none:=by kernel_rfl
theorem WR:laidOutB ao=true:=by kernel_rfl
theorem Zu{f:FuncId}{fn:Func}(qQ:ao.funcs[f]? =some fn)(aan:∀args w,(callFunc f args).run ao w= .ok (.enter f args) w){w:World}{ν:bf}{args:List ah}{aV:Array Value}(h:bH ao f args (.bool true))(aK:∀k j b,¬ν.tr k j b)(bk:∀b o,ν.A b o→b<w.heap.size)(ad:∀k,ν.bx k=none)(ax:∀k,ν.ow k=none)(aJ:cQ w ν args aV.toList):
  Calls ao f aV w fun e w'=>e= .returned (.bool true)∧Below w.heap.size w w':=by
 have a7:Pv.Good (fx ν ⟨[],[]⟩) w ν [] []:=⟨bk,fun k cs ab=>by simp[Pv.look]at ab,fun k bS bl J=>by simp[Pv.look]at J,fun g o ab=>by simp[Pv.look]at ab,fun g eI n n' v v' bl J=>by simp[Pv.look]at J,fun g k n v bl J=>by simp[Pv.look]at J,fun k=>.inl (ad k),fun _ _ k j=>aK k j _⟩;rcases h w ν aV a7 (fun k=>⟨fun _=>ad k,fun _=>ax k,aK k⟩) aJ with⟨_,au⟩|⟨v,w',au,_⟩
 ·refine au.mono ?_;rintro e w' ⟨v,r,ai,bq,rfl,⟨rfl,rfl⟩,mA,_,_,_,l6⟩;simp only[bc]at mA;subst mA;refine⟨rfl,l6.os,l6.tape,l6.output,l6.size,fun k ab=>l6.block k ab ?_⟩;simp[fx,Pv.look]
 ·rw[aan]at au;cases au
theorem aaq{W:World}{b o:Nat}(h:(qJ W).A b o):b<W.heap.size:=by
 obtain⟨u,hu⟩:=h;rcases Nat.lt_or_ge b W.heap.size with h|h
 ·exact h
 ·simp[World.cell?,Array.getElem?_eq_none h]at hu
theorem alq{W:World}{cx:List ah}{us:Array Value}(h:reads W (.agg cx) us.toList):bc W (qJ W) (.agg cx) (.agg us):=by
 obtain⟨v,J,U,_⟩:=h;have ar:=U;simp only[bc]at ar;obtain⟨ws,rfl,_⟩:=ar;have:ws=us:=by
  have:ws.toList=us.toList:=by simpa[pR]using J
  exact Array.toList_inj.1 this
 rw[←this];exact U
theorem ama{H:Type}{enc:fZ×Value→H}{W:World}{spare:Nat→Bool}{held:Bool}{us:Array Value}{x:DataW H×List MemPlace}{fuel:Nat}(h:iX enc ao W 0 spare held fuel 43 us.toList=some x):∃r:oq,r.wf∧bc W (qJ W) r.e (.agg us):=by obtain⟨r,aJ,afO⟩:=amb h;exact⟨r,aJ,alq afO⟩
end Go.Proofs.YtahlgcidhnjlbaaGreat
