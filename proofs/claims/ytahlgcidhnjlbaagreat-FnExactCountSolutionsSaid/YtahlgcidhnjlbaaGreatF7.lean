/- From a contract to the row: terms. -/
import Derived.Test.YtahlgcidhnjlbaaGreatProg
import Derived.Test.YtahlgcidhnjlbaaGreatF6
set_option linter.all false
set_option maxHeartbeats 4000000
open Bool renaming and_eq_true→cC,or_eq_true→lX
open Go renaming TypeId→fZ
open Go.DataW renaming trod→iX
open Go.IntKind renaming i64→pQ
open Go.IntWalk renaming i64_in→oe
open Go.Proofs.Tryz renaming f8→kO,prog→ao
open Go.Proofs.YtahlgcidhnjlbaaGreat.Rows renaming fnExactCountSolutionsRow→jS,fnExactCountSolutionsSpec→su
open List renaming all_eq_true→gn,cons_append→bX,drop_eq_getElem_cons→kP,drop_length→sv,getElem?_eq_getElem→bZ,getElem?_eq_some_iff→e1,getElem?_map→ri,length_append→o5,length_cons→o6,length_map→rj,map_append→qu,map_cons→gO,mem_cons→fR,mem_map→h5,mem_of_getElem?→dK,nil_append→b2,pairwise_iff_getElem→o7,take_length→mj
open Nat renaming add_mul→o8,le_refl→eR,le_trans→jT,mul_le_mul_right→qv
open Option renaming getD_some→ka,isSome_some→pT,map_eq_some_iff→gz
open Option.some renaming inj→eE
open _root_ renaming UInt8→dE,beq_iff_eq→dQ,congrArg→eB,decide_eq_false→iB,decide_eq_false_iff_not→gI,decide_eq_true→gJ,decide_eq_true_eq→e2
namespace Go.Proofs.YtahlgcidhnjlbaaGreat
open Go
set_option maxRecDepth 100000 in
theorem aab:joinedFacts ao 8 kO su jS=true:=(ib (ib (ib (ib (ib (ib (ib (ib (ib (ib (ib (ib (ib (ib (ib (ib (ib (ib (ib (ib (ib (ib (ib (ib (ib (ib (ib (ib (ib (ib (ib ZF ZG) ZR) Z2) Z5) Z6) Z7) Z8) Z9) aaa) ZH) ZI) ZJ) ZK) ZL) ZM) ZN) ZO) ZP) ZQ) ZS) ZT) ZU) ZV) ZW) ZX) ZY) ZZ) Z0) Z1) Z3) Z4)
end Go.Proofs.YtahlgcidhnjlbaaGreat
namespace Go.Proofs.YtahlgcidhnjlbaaGreat
open Go Go.Pv
@[simp] def ar7:List bA:=[.tmp 6]
@[simp] def ar9:List bA:=[.tmp 4]
@[simp] def ar8:List bA:=[.tmp 6]
def EK:C:=(aa [cM 2 0,be 4 false] (aa [bJ 5 1048576] (aa [a6 10 5 2,I 11 5,b3 12 26 10 11,I 5 12] (.seq (aa [I 13 5,aS 14 .lss 13 0] (aT 14 (aa [be 4 true] .ret) .skip)) (aa [I 15 1,I 16 5,b3 17 16 15 16,I 5 17] (.seq (aa [I 18 5,aS 19 .lss 18 0] (aT 19 (aa [be 4 true] .ret) .skip)) (aa [a6 20 5 2,cJ 21 28 20,I 22 1,cJ 23 19 22,b3 24 40 21 23,I 6 24] (aa [a6 25 5 2,cJ 26 28 25,dg 7 oM,bT 5 7 26] (aa [I 27 1,cJ 28 19 27,I 8 28] (aa [a6 29 5 7,I 30 8,b3 31 41 29 30,I 9 31] (.seq (aa [I 32 9,I 33 6,bg 34 .neq 32 33] (aT 34 (aa [be 4 false] .ret) .skip)) (.seq (.seq (.drawn true 45 [a6 35 5 7,a6 36 5 2,cJ 37 28 36,b3 38 30 35 37,cy 39 38]) (aT 39 (aa [be 4 false] .ret) .skip)) (.seq (aa [I 40 8,I 41 1,cJ 42 19 41,b3 43 21 40 42,cy 44 43] (aT 44 (aa [be 4 false] .ret) .skip)) (aa [be 4 true] .ret))))))))))))))
@[simp] def aky:List bA:=[.tmp 4]
@[simp] def asa:List bA:=[.tmp 4]
@[simp] def asf:List bA:=[.tmp 6]
@[simp] def arR:List bA:=[.tmp 6]
@[simp] def asj:List bA:=[.tmp 4]
@[simp] def arW:List bA:=[.tmp 4]
@[simp] def asg:List bA:=[.tmp 6]
@[simp] def arS:List bA:=[.tmp 6]
def zh:C:=(aa [cM 2 0,bJ 4 0] (.seq (aa [a6 10 5 2,cJ 11 27 10,cy 12 11,I 13 12,bW 13 false 14 1,aq 13 false (cJ 15 57 14),aq 13 false (cy 16 15),cY 17 13 16,I 18 17,aq 18 false (aG 19 0 1 2),aq 18 false (av 20 1 19),aq 18 false (aS 21 .gtr 20 400),cY 22 18 21] (aT 22 (aa [bJ 4 (-1)] .ret) .skip)) (aa [eD 23 1 3 [],I 5 23] (.seq (aa [bJ 6 0] (.block 0 (.loop (.seq (aa [I 24 6,aG 25 0 1 2,av 26 1 25,bg 27 .lss 24 26] (aT 27 .skip (.exit 0))) (.seq (.block 1 (.region [I 30 5,I 31 6,eD 32 1 3 [.t 31],hF 33 1 3 30 32,I 5 33])) (.region [I 28 6,aS 29 .add 28 1,I 6 29])))))) (aa [I 34 1,b7 35 34,aG 36 0 1 2,av 37 1 36,dJ 38 59 [.t 35,.t 37,(fQ 512)],I 7 38] (.seq (aa [I 39 7,aS 40 .gtr 39 512] (aT 40 (aa [bJ 4 (-1)] .ret) .skip)) (aa [bJ 8 0] (.seq (aa [bJ 9 0] (.block 2 (.loop (.seq (aa [I 41 9,I 42 7,bg 43 .lss 41 42] (aT 43 .skip (.exit 2))) (.seq (.block 3 (.seq (.drawn true 55 [a6 46 5 2,I 47 5,I 48 1,I 49 9,dJ 50 61 [.t 47,.t 48,.t 49],b3 51 100 46 50]) (aT 51 (.region [I 52 8,aS 53 .add 52 1,I 8 53]) .skip))) (.region [I 44 9,aS 45 .add 44 1,I 9 45])))))) (aa [I 54 8,I 4 54] .ret)))))))))
@[simp] def ala:List bA:=[.tmp 4]
def ze:C:=(aa [cM 2 0,bJ 4 0] (.seq (aa [a6 10 5 2,cJ 11 29 10,cy 12 11,I 13 12,bW 13 false 14 1,aq 13 false (cJ 15 65 14),aq 13 false (cy 16 15),cY 17 13 16,I 18 17,aq 18 false (aG 19 0 1 2),aq 18 false (av 20 1 19),aq 18 false (aS 21 .gtr 20 400),cY 22 18 21,I 23 22,bW 23 false 24 1,aq 23 false (b7 25 24),aq 23 false (aG 26 0 1 2),aq 23 false (av 27 1 26),aq 23 false (b3 28 67 25 27),aq 23 false (aS 29 .gtr 28 512),cY 30 23 29] (aT 30 (aa [bJ 4 (-1)] .ret) .skip)) (aa [eD 31 1 3 [],I 5 31] (.seq (aa [bJ 6 0] (.block 0 (.loop (.seq (aa [I 32 6,aG 33 0 1 2,av 34 1 33,bg 35 .lss 32 34] (aT 35 .skip (.exit 0))) (.seq (.block 1 (.region [I 38 5,I 39 6,eD 40 1 3 [.t 39],hF 41 1 3 38 40,I 5 41])) (.region [I 36 6,aS 37 .add 36 1,I 6 37])))))) (aa [bJ 7 0] (.seq (aa [I 42 5,I 43 1,b3 44 68 42 43,b7 45 44,bJ 46 0] (.block 2 (.loop (aa [bg 47 .lss 46 45] (.seq (aT 47 .skip (.exit 2)) (.seq (.block 3 (aa [cd 48 1 44 46,av 49 1 48,I 9 49] (aa [a6 50 5 2,I 51 9,b3 52 102 50 51] (aT 52 (.region [I 53 7,aS 54 .add 53 1,I 7 54]) .skip)))) (.region [aS 55 .add 46 1,I 46 55]))))))) (aa [I 56 7,I 4 56] .ret)))))))
@[simp] def akm:List bA:=[.tmp 4]
@[simp] def asm:List bA:=[.tmp 4]
@[simp] def arY:List bA:=[.tmp 4]
@[simp] def asi:List bA:=[.cell 6 true 5,.tmp 7]
@[simp] def arV:List bA:=[.cell 6 true 5,.tmp 7]
@[simp] def asl:List bA:=[.cell 6 true 5,.tmp 7]
@[simp] def arX:List bA:=[.cell 6 true 5,.tmp 7]
@[simp] def ash:List bA:=[.cell 6 true 5,.tmp 7]
@[simp] def arT:List bA:=[.cell 6 true 5,.tmp 7]
@[simp] def ase:List bA:=[.cell 6 true 5,.tmp 7]
@[simp] def arP:List bA:=[.cell 6 true 5,.tmp 7]
def Qi:C:=(aa [be 2 false] (.seq (aa [I 5 0,b7 6 5,bJ 7 0] (e0 8 7 6 (.seq (.block 1 (aa [I 9 7,cd 10 4 5 7,a6 11 4 10,dg 4 ds,I 3 9,bT 4 4 11] (.seq (.drawn true 33 [a6 12 4 4,cJ 13 99 12,cy 14 13,I 15 14,bW 15 false 16 3,aq 15 false (aS 17 .gtr 16 0),bW 15 false 18 17,bW 18 true 19 0,bW 18 true 20 3,aq 18 true (aS 21 .sub 20 1),aq 18 true (cd 22 4 19 21),aq 18 true (a6 23 4 22),aq 18 true (a6 24 4 4),aq 18 true (b3 25 125 23 24),aq 18 true (aS 26 .geq 25 0),aq 15 false (du 27 18 26),cY 28 15 27]) (aT 28 (aa [be 2 false] .ret) .skip)))) (.region [aS 29 .add 7 1,I 7 29])))) (aa [I 30 0,b7 31 30,dJ 32 75 [.t 31,(fQ 1),(fQ 8)],I 2 32] .ret)))
@[simp] def Mm:List bA:=[.tmp 2]
def QB:C:=(aa [bJ 6 0] (aa [bJ 7 1] (.seq (aa [bJ 8 0] (.block 0 (.loop (.seq (aa [I 9 8,I 10 1,bg 11 .lss 9 10,I 12 11,bW 12 true 13 7,bW 12 true 14 2,aq 12 true (bg 15 .leq 13 14),du 16 12 15] (aT 16 .skip (.exit 0))) (.seq (.block 1 (.region [I 19 7,I 20 0,bg 21 .mul 19 20,I 7 21])) (.region [I 17 8,aS 18 .add 17 1,I 8 18])))))) (aa [I 22 7,I 6 22] .ret))))
@[simp] def Wq:List bA:=[.tmp 6]
def QA:C:=(aa [eN 6 5] (aa [eD 10 5 113 [],I 7 10] (.seq (aa [I 11 0,b7 12 11,bJ 13 0] (e0 14 13 12 (.seq (.block 1 (aa [cd 15 1 11 13,av 16 1 15,I 9 16] (aa [I 17 7,I 18 9,I 19 1,I 20 2,I 21 1,b7 22 21,bg 23 .rem 20 22,cd 24 4 19 23,a6 25 4 24,jQ 26 ik [(0,1,(.t 18)),(1,4,(.t 25))],eD 27 5 113 [.t 26],hF 28 5 113 17 27,I 7 28] (.region [I 29 2,I 30 1,b7 31 30,bg 32 .quo 29 31,I 2 32])))) (.region [aS 33 .add 13 1,I 13 33])))) (aa [I 34 7,I 6 34] .ret))))
@[simp] def Wp:List bA:=[.tmp 6]
@[simp] def ass:List bA:=[.tmp 6]
@[simp] def ar5:List bA:=[.tmp 4]
def Qj:C:=(aa [be 2 false] (aa [I 3 0,cJ 4 145 3,I 2 4] .ret))
@[simp] def alf:List bA:=[.tmp 2]
def EP:C:=(aa [cM 1 0,be 2 false] (aa [a6 3 4 1,cJ 4 56 3,I 5 4,aq 5 true (a6 6 4 1),⟨(some (5,true)),.call (some 7) (.c (.func 58 [])) [.t 6,(.c (.slice 1 .nil []))]⟩,aq 5 true (b7 8 7),aq 5 true (aS 9 .eql 8 0),du 10 5 9,I 2 10] .ret))
@[simp] def Wh:List bA:=[.tmp 2]
def QI:C:=(aa [cM 2 0,be 4 false] (.seq (aa [aG 21 1 1 2,av 22 1 21,b7 23 22,bJ 24 0] (e0 25 24 23 (.seq (.block 1 (aa [cd 26 5 22 24,a6 27 5 26,dg 6 ik,bT 5 6 27] (aa [I 29 1,aG 30 0 1 6,av 31 1 30,b3 32 146 29 31,I 28 32,cH 33 0 28,cH 34 1 28,dg 7 ds,bT 4 7 33,I 8 34] (aa [I 36 1,gD 37 1 4 6,a6 38 4 37,b3 39 60 36 38,I 35 39,cH 40 0 35,cH 41 1 35,dg 9 ds,bT 4 9 40,I 10 41] (aa [I 42 10,cy 43 42,I 44 43,aq 44 false (a6 45 4 7),aq 44 false (a6 46 4 9),aq 44 false (b3 47 129 45 46),aq 44 false (cy 48 47),cY 49 44 48] (aT 49 (aa [be 4 false] .ret) .skip)))))) (.region [aS 50 .add 24 1,I 24 50])))) (.seq (aa [aG 51 2 1 2,av 52 1 51,b7 53 52,bJ 54 0] (.block 2 (.loop (aa [bg 55 .lss 54 53] (.seq (aT 55 .skip (.exit 2)) (.seq (.block 3 (aa [cd 56 1 52 54,av 57 1 56,I 12 57] (aa [I 58 12,I 59 1,b3 60 173 58 59,cy 61 60] (aT 61 (aa [be 4 false] .ret) .skip)))) (.region [aS 62 .add 54 1,I 54 62]))))))) (.seq (aa [aG 63 3 1 2,av 64 1 63,b7 65 64,bJ 66 0] (.block 4 (.loop (aa [bg 67 .lss 66 65] (.seq (aT 67 .skip (.exit 4)) (.seq (.block 5 (aa [cd 68 2 64 66,a6 69 2 68,cW (.alloc 14 none (.agg [.int .i64 0,.int .i64 0])),bT 2 14 69] (aa [I 71 1,aG 72 0 1 14,av 73 1 72,b3 74 146 71 73,I 70 74,cH 75 0 70,cH 76 1 70,dg 15 ds,bT 4 15 75,I 16 76] (aa [aG 77 0 1 15,av 78 1 77,aG 79 1 1 14,av 80 1 79,bg 81 .neq 78 80] (aT 81 (aa [be 4 false] .ret) .skip))))) (.region [aS 82 .add 66 1,I 66 82]))))))) (.seq (aa [aG 83 4 1 2,av 84 1 83,b7 85 84,bJ 86 0] (.block 6 (.loop (aa [bg 87 .lss 86 85] (.seq (aT 87 .skip (.exit 6)) (.seq (.block 7 (aa [cd 88 2 84 86,a6 89 2 88,cW (.alloc 18 none (.agg [.int .i64 0,.str []])),bT 2 18 89] (aa [I 91 1,aG 92 0 1 18,av 93 1 92,b3 94 146 91 93,I 90 94,cH 95 0 90,cH 96 1 90,dg 19 ds,bT 4 19 95,I 20 96] (aa [a6 97 4 19,aG 98 1 1 18,av 99 1 98,b3 100 174 97 99] (aT 100 (aa [be 4 false] .ret) .skip))))) (.region [aS 101 .add 86 1,I 86 101]))))))) (aa [be 4 true] .ret))))))
@[simp] def Wr:List bA:=[.tmp 4]
def EH:C:=(aa [cM 2 0,be 4 false] (.seq (aa [I 17 1,cJ 18 158 17,cy 19 18,I 20 19,bW 20 false 21 1,aq 20 false (b7 22 21),aq 20 false (aG 23 0 1 2),aq 20 false (av 24 1 23),aq 20 false (bg 25 .neq 22 24),cY 26 20 25] (aT 26 (aa [be 4 false] .ret) .skip)) (.seq (aa [I 27 1,b7 28 27,bJ 29 0] (e0 30 29 28 (.seq (.block 1 (aa [I 31 29,cd 32 5 27 29,a6 33 5 32,dg 6 ik,I 5 31,bT 5 6 33] (aa [aG 34 0 1 6,av 35 1 34,I 36 5,bg 37 .neq 35 36,I 38 37,aq 38 false (gD 39 1 4 6),aq 38 false (a6 40 4 39),aq 38 false (cJ 41 175 40),aq 38 false (cy 42 41),cY 43 38 42] (aT 43 (aa [be 4 false] .ret) .skip)))) (.region [aS 44 .add 29 1,I 29 44])))) (.seq (aa [aG 45 1 1 2,av 46 1 45,b7 47 46,bJ 48 0] (.block 2 (.loop (aa [bg 49 .lss 48 47] (.seq (aT 49 .skip (.exit 2)) (.seq (.block 3 (aa [cd 50 5 46 48,a6 51 5 50,dg 8 ik,bT 5 8 51] (aa [I 53 1,gD 54 1 4 8,a6 55 4 54,b3 56 69 53 55,I 52 56,cH 57 0 52,cH 58 1 52,dg 9 ds,bT 4 9 57,I 10 58] (.seq (.drawn true 120 [I 59 10,cy 60 59,I 61 60,aq 61 false (a6 62 4 9),bW 61 false 63 1,aq 61 false (aG 64 0 1 8),aq 61 false (av 65 1 64),aq 61 false (cd 66 5 63 65),aq 61 false (gD 67 1 4 66),aq 61 false (a6 68 4 67),aq 61 false (b3 69 142 62 68),aq 61 false (cy 70 69),cY 71 61 70]) (aT 71 (aa [be 4 false] .ret) .skip))))) (.region [aS 72 .add 48 1,I 48 72]))))))) (.seq (aa [aG 73 2 1 2,av 74 1 73,b7 75 74,bJ 76 0] (.block 4 (.loop (aa [bg 77 .lss 76 75] (.seq (aT 77 .skip (.exit 4)) (.seq (.block 5 (aa [cd 78 1 74 76,av 79 1 78,I 12 79] (aa [I 80 12,I 81 1,b3 82 176 80 81,cy 83 82] (aT 83 (aa [be 4 false] .ret) .skip)))) (.region [aS 84 .add 76 1,I 76 84]))))))) (.seq (aa [aG 85 3 1 2,av 86 1 85,b7 87 86,bJ 88 0] (.block 6 (.loop (aa [bg 89 .lss 88 87] (.seq (aT 89 .skip (.exit 6)) (.seq (.block 7 (aa [cd 90 2 86 88,a6 91 2 90,cW (.alloc 14 none (.agg [.int .i64 0,.int .i64 0])),bT 2 14 91] (.seq (.drawn true 120 [I 92 1,aG 93 0 1 14,av 94 1 93,cd 95 5 92 94,gD 96 1 4 95,aG 97 0 1 96,av 98 1 97,aG 99 1 1 14,av 100 1 99,bg 101 .neq 98 100]) (aT 101 (aa [be 4 false] .ret) .skip)))) (.region [aS 102 .add 88 1,I 88 102]))))))) (.seq (aa [aG 103 4 1 2,av 104 1 103,b7 105 104,bJ 106 0] (.block 8 (.loop (aa [bg 107 .lss 106 105] (.seq (aT 107 .skip (.exit 8)) (.seq (.block 9 (aa [cd 108 2 104 106,a6 109 2 108,cW (.alloc 16 none (.agg [.int .i64 0,.str []])),bT 2 16 109] (.seq (.drawn true 120 [I 110 1,aG 111 0 1 16,av 112 1 111,cd 113 5 110 112,gD 114 1 4 113,a6 115 4 114,aG 116 1 1 16,av 117 1 116,b3 118 177 115 117]) (aT 118 (aa [be 4 false] .ret) .skip)))) (.region [aS 119 .add 106 1,I 106 119]))))))) (aa [be 4 true] .ret))))))))
@[simp] def G0:List bA:=[.tmp 4]
@[simp] def asq:List bA:=[.cell 2 true 5]
@[simp] def ar4:List bA:=[.cell 2 true 5]
@[simp] def asp:List bA:=[.cell 12 true 5,.tmp 13]
@[simp] def asr:List bA:=[.cell 12 true 5,.tmp 13]
@[simp] def ar1:List bA:=[.tmp 6,.tmp 7]
@[simp] def arQ:List bA:=[.tmp 6,.tmp 7]
def Qc:C:=(aa [be 4 false] (.seq (aa [I 11 0,cJ 12 76 11,cy 13 12] (aT 13 (aa [be 4 false] .ret) .skip)) (.seq (aa [I 14 0,b7 15 14,bJ 16 0] (e0 17 16 15 (.seq (.block 1 (aa [cd 18 5 14 16,a6 19 5 18,dg 6 ik,bT 5 6 19] (aa [aG 21 0 1 6,av 22 1 21,cJ 23 114 22,I 24 1,b3 25 209 23 24,I 20 25,cH 26 0 20,cH 27 1 20,dg 7 ds,bT 4 7 26,I 8 27] (aa [gD 29 1 4 6,a6 30 4 29,I 31 1,b3 32 209 30 31,I 28 32,cH 33 0 28,cH 34 1 28,dg 9 ds,bT 4 9 33,I 10 34] (aa [I 35 8,I 36 35,bW 36 true 37 10,du 38 36 37,I 39 38,aq 39 true (a6 40 4 7),aq 39 true (a6 41 4 9),aq 39 true (b3 42 129 40 41),aq 39 true (cy 43 42),du 44 39 43] (aT 44 (aa [be 4 true] .ret) .skip)))))) (.region [aS 45 .add 16 1,I 16 45])))) (aa [be 4 false] .ret))))
@[simp] def alb:List bA:=[.tmp 4]
def Qb:C:=(aa [cM 2 0,be 4 false] (aa [a6 5 4 2,cJ 6 56 5,I 7 6,aq 7 true (a6 8 4 2),bW 7 true 9 1,aq 7 true (b3 10 210 8 9),du 11 7 10,I 4 11] .ret))
@[simp] def ak9:List bA:=[.tmp 4]
def OJ:C:=(aa [be 4 false] (.seq (aa [I 11 0,cJ 12 86 11,cy 13 12,I 14 13,bW 14 false 15 1,aq 14 false (cJ 16 158 15),aq 14 false (cy 17 16),cY 18 14 17] (aT 18 (aa [be 4 false] .ret) .skip)) (.seq (aa [I 19 0,b7 20 19,bJ 21 0] (e0 22 21 20 (.seq (.block 1 (aa [cd 23 5 19 21,a6 24 5 23,dg 6 ik,bT 5 6 24] (aa [I 26 1,aG 27 0 1 6,av 28 1 27,cJ 29 116 28,b3 30 69 26 29,I 25 30,cH 31 0 25,cH 32 1 25,dg 7 ds,bT 4 7 31,I 8 32] (aa [I 34 1,gD 35 1 4 6,a6 36 4 35,b3 37 69 34 36,I 33 37,cH 38 0 33,cH 39 1 33,dg 9 ds,bT 4 9 38,I 10 39] (aa [I 40 8,I 41 40,bW 41 true 42 10,du 43 41 42,I 44 43,aq 44 true (a6 45 4 7),aq 44 true (a6 46 4 9),aq 44 true (b3 47 142 45 46),aq 44 true (cy 48 47),du 49 44 48] (aT 49 (aa [be 4 true] .ret) .skip)))))) (.region [aS 50 .add 21 1,I 21 50])))) (aa [be 4 false] .ret))))
@[simp] def VH:List bA:=[.tmp 4]
@[simp] def asn:List bA:=[.tmp 2]
@[simp] def aso:List bA:=[.tmp 2]
@[simp] def ar6:List bA:=[.tmp 6,.tmp 7]
def IQ:C:=(aa [cM 2 0,dg 4 ds,be 5 false] (.seq (aa [a6 8 4 2,cJ 9 56 8,cy 10 9,I 11 10,bW 11 false 12 1,aq 11 false (cJ 13 98 12),aq 11 false (cy 14 13),cY 15 11 14] (aT 15 (aa [jQ 16 ds [],bT 4 4 16,be 5 false] .ret) .skip)) (aa [I 18 1,a6 19 4 2,b3 20 60 18 19,I 17 20,cH 21 0 17,cH 22 1 17,dg 6 ds,bT 4 6 21,I 7 22] (.seq (aa [I 23 7,cy 24 23] (aT 24 (aa [jQ 25 ds [],bT 4 4 25,be 5 false] .ret) .skip)) (aa [a6 26 4 6,cJ 27 130 26,bT 4 4 27,be 5 true] .ret)))))
@[simp] def alc:List bA:=[.cell 4 true 4,.tmp 5]
def o0:List (Nat×dF):=[
 (3,⟨1,8,.int .i64,.int .i64 0⟩),
 (4,⟨1,1,.bool,.bool false⟩),
 (9,⟨1,16,.str,.str []⟩),
 (24,⟨4,56,.struct [(0,3),(1,3),(2,9),(3,22)],.agg [.int .i64 0,.int .i64 0,.str [],.slice 4 .nil []]⟩),
 (27,⟨1,24,.slice 30,.slice 4 .nil []⟩),
 (30,⟨4,56,.struct [(0,3),(1,3),(2,9),(3,27)],.agg [.int .i64 0,.int .i64 0,.str [],.slice 4 .nil []]⟩),
 (43,⟨5,104,.struct [(0,3),(1,38),(2,39),(3,40),(4,41)],.agg [.int .i64 0,.slice 5 .nil [],.slice 1 .nil [],.slice 2 .nil [],.slice 2 .nil []]⟩),
 (46,⟨1,24,.slice 113,.slice 5 .nil []⟩),
 (47,⟨1,24,.slice 46,.slice 1 .nil []⟩),
 (48,⟨1,24,.slice 98,.slice 2 .nil []⟩),
 (49,⟨1,24,.slice 100,.slice 2 .nil []⟩),
 (51,⟨5,104,.struct [(0,3),(1,46),(2,47),(3,48),(4,49)],.agg [.int .i64 0,.slice 5 .nil [],.slice 1 .nil [],.slice 2 .nil [],.slice 2 .nil []]⟩),
 (76,⟨1,24,.slice 3,.slice 1 .nil []⟩),
 (98,⟨2,16,.struct [(0,3),(1,3)],.agg [.int .i64 0,.int .i64 0]⟩),
 (100,⟨2,24,.struct [(0,3),(1,9)],.agg [.int .i64 0,.str []]⟩),
 (113,⟨5,64,.struct [(0,3),(1,30)],.agg [.int .i64 0,.int .i64 0,.int .i64 0,.str [],.slice 4 .nil []]⟩)]
theorem iT:fP ao o0=true:=by kernel_rfl
theorem LN:b1 o0 EK aky 2 kO=true:=by kernel_rfl
theorem Jo:ao.funcs[(8:Nat)]? =some kO:=Tryz.func8
theorem Dn:b1 o0 zh ala 2 Tryz.f40=true:=by kernel_rfl
theorem BR:ao.funcs[(40:Nat)]? =some Tryz.f40:=Tryz.func40
theorem Dk:b1 o0 ze akm 2 Tryz.f41=true:=by kernel_rfl
theorem BO:ao.funcs[(41:Nat)]? =some Tryz.f41:=Tryz.func41
theorem ajA:b1 o0 Qi Mm 1 Tryz.f57=true:=by kernel_rfl
theorem ac0:ao.funcs[(57:Nat)]? =some Tryz.f57:=Tryz.func57
theorem ajT:b1 o0 QB Wq 3 Tryz.f59=true:=by kernel_rfl
theorem adl:ao.funcs[(59:Nat)]? =some Tryz.f59:=Tryz.func59
theorem ajS:b1 o0 QA Wp 3 Tryz.f61=true:=by kernel_rfl
theorem adk:ao.funcs[(61:Nat)]? =some Tryz.f61:=Tryz.func61
theorem ajB:b1 o0 Qj alf 1 Tryz.f98=true:=by kernel_rfl
theorem ac1:ao.funcs[(98:Nat)]? =some Tryz.f98:=Tryz.func98
theorem LQ:b1 o0 EP Wh 1 Tryz.f99=true:=by kernel_rfl
theorem Jr:ao.funcs[(99:Nat)]? =some Tryz.f99:=Tryz.func99
theorem aj0:b1 o0 QI Wr 2 Tryz.f100=true:=by kernel_rfl
theorem ads:ao.funcs[(100:Nat)]? =some Tryz.f100:=Tryz.func100
theorem LK:b1 o0 EH G0 2 Tryz.f102=true:=by kernel_rfl
theorem Jl:ao.funcs[(102:Nat)]? =some Tryz.f102:=Tryz.func102
theorem aju:b1 o0 Qc alb 2 Tryz.f173=true:=by kernel_rfl
theorem acU:ao.funcs[(173:Nat)]? =some Tryz.f173:=Tryz.func173
theorem ajt:b1 o0 Qb ak9 2 Tryz.f174=true:=by kernel_rfl
theorem acT:ao.funcs[(174:Nat)]? =some Tryz.f174:=Tryz.func174
theorem ah3:b1 o0 OJ VH 2 Tryz.f176=true:=by kernel_rfl
theorem abq:ao.funcs[(176:Nat)]? =some Tryz.f176:=Tryz.func176
theorem Vj:b1 o0 IQ alc 2 Tryz.f209=true:=by kernel_rfl
theorem RC:ao.funcs[(209:Nat)]? =some Tryz.f209:=Tryz.func209
def CS(t:T)(k:Nat)(st:bs):Prop:=
 (k=t.args.length∧st=⟨[(2,.ptr (.loc 1) 0),(3,.ptr (.loc 2) 0),(14,.slice 4 .no (t.args.map T.e)),(15,.int .i64 t.args.length),(16,.int .i64 0)],[(.loc 1,[.int .i64 0,.int .i64 0,.str [],.slice 4 .nil []]),(.loc 2,[.int .i64 t.kind,.int .i64 t.int,.str t.name,.slice 4 .nil []])],[],3,[]⟩)∨
 ∃i:Nat,1≤i∧i≤t.args.length∧k=t.args.length-i∧st=⟨[(2,.ptr (.loc 1) 0),(3,.ptr (.loc 2) 0),(14,.slice 4 .no (t.args.map T.e)),(15,.int .i64 t.args.length),(16,.int .i64 i)],[(.loc 1,[.int .i64 0,.int .i64 0,.str [],.slice 4 .nil []]),(.loc 2,[.int .i64 t.kind,.int .i64 t.int,.str t.name,.slice 4 (.own (.loc 29)) ((t.args.take i).map T.e)])],[(.loc 29,⟨i,30,4,none⟩)],30,[]⟩
set_option maxRecDepth 4000 in
theorem anc(t:T):bH ao 130 [t.e] t.e:=by
 induction t with
 |pair a b dX dY=>
  refine bh fK BS Dp fun aO=>?_;unfold zi;simp;refine ps (CS (.pair a b)) 2 _ bN (.inl ⟨rfl,rfl⟩) ?_;rintro k st (⟨ab,rfl⟩|⟨i,J,U,ab,rfl⟩) kU cL;all_goals clear kU cL
  ·simp;(with_reducible repeat' first|refine aj ?_|refine aC dX ?_|refine aD dX ?_|simp);refine bK.next 1 (by rw[ab];simp) (.inr ⟨1,by omega,by simp,rfl,rfl⟩) bN
  ·rcases(by simp at U;omega:i=1∨i=2)with rfl|rfl
   ·simp;(with_reducible repeat' first|refine aj ?_|refine aC dY ?_|refine aD dY ?_|simp);refine bK.next 0 (by rw[ab];simp) (.inr ⟨2,by omega,by simp,rfl,rfl⟩) bN
   ·exact bY
 |nil=>
  refine bh fK BS Dp fun aO=>?_;unfold zi;simp;refine ps (CS (.nil)) 0 _ bN (.inl ⟨rfl,rfl⟩) ?_;rintro k st (⟨ab,rfl⟩|⟨i,J,U,ab,rfl⟩) kU cL;all_goals clear kU cL
  ·exact bY
  ·simp at U;omega
 |var n=>
  refine bh fK BS Dp fun aO=>?_;unfold zi;simp;refine ps (CS (.var n)) 0 _ bN (.inl ⟨rfl,rfl⟩) ?_;rintro k st (⟨ab,rfl⟩|⟨i,J,U,ab,rfl⟩) kU cL;all_goals clear kU cL
  ·exact bY
  ·simp at U;omega
 |sym s=>
  refine bh fK BS Dp fun aO=>?_;unfold zi;simp;refine ps (CS (.sym s)) 0 _ bN (.inl ⟨rfl,rfl⟩) ?_;rintro k st (⟨ab,rfl⟩|⟨i,J,U,ab,rfl⟩) kU cL;all_goals clear kU cL
  ·exact bY
  ·simp at U;omega
 |num n=>
  refine bh fK BS Dp fun aO=>?_;unfold zi;simp;refine ps (CS (.num n)) 0 _ bN (.inl ⟨rfl,rfl⟩) ?_;rintro k st (⟨ab,rfl⟩|⟨i,J,U,ab,rfl⟩) kU cL;all_goals clear kU cL
  ·exact bY
  ·simp at U;omega
theorem E7(l:List T):(l.map T.tm).map enc=l.map T.e:=by rw[List.map_map];exact List.map_congr_left fun t _=>jb t
theorem kD.fin{α:Type}{p:α→Bool}{s:List α}(h:kD p s s.length ()):∀b∈s,p b=true:=fun b ad=>by obtain⟨i,hi⟩:=List.mem_iff_getElem?.1 ad;exact h i b (by have:=(e1.1 hi).1;omega) hi
theorem amp(r:oq)(m:Int)(h:0≤m):tB r m≤m:=by
 have cl:=w1 r.b m h;unfold tB;split
 ·omega
 have b8:=tz w1 r.d (h3 r.b m) (by omega);split
 ·omega
 have fG:=M9 r.k (gE h3 r.d (h3 r.b m)) (by omega);split
 ·omega
 have ou:=tz DZ r.m (oW r.k (gE h3 r.d (h3 r.b m))) (by omega);split<;>omega
def _root_.Go.Pv.T.gnd:T→Bool
 | .var _=>false
 | .pair a b=>a.gnd&&b.gnd
 |_=>true
def mm(b:Bool):cK:=⟨[(.obj 501,[.bool b])],[]⟩
theorem Em(b:Bool):eh (mm b):=by unfold mm;exact(eh.of ⟨by intro m;simp[Pv.look],by intro m;simp[Pv.look]⟩ (by simp[aH,aB,inObs,Pv.look]) (by simp[aH,aB,inObs,Pv.look]))
theorem H3(a b:Bool):Same (mm a) (mm b):=⟨fun k=>by simp only[mm,Pv.look];split<;>rfl,fun _=>rfl⟩
theorem adY(v:Int)(b:Bool):bU ao 211 [.int .i64 v,.ptr (.obj 501) 0] (mm b) fun r ai=>r= .tuple []∧ai=mm false:=by have ag:=Em b;unfold mm at ag⊢;refine bU.mk mixed o1 abV aiy (by simp) ag.obj fun aO cL=>?_;unfold Pd;simp;refine cV.at (mm false) (.inr rfl) (Em _) (H3 b false) (by unfold mm;exact aR) (by unfold mm;exact aR) ?_;simp[c1,V2,aX,aY,aW];simp[mm]
theorem adE(t:T)(b:Bool):t.fold (fun _ _=>false) b=(b&&t.gnd):=by
 induction t generalizing b with
 |pair x y nV p7=>simp[T.fold,T.gnd,nV,p7,Bool.and_assoc]
 |_=>simp[T.fold,T.gnd]
theorem XS(t:T):bH ao 175 [t.e] (.bool t.gnd):=by refine bh o1 abU aix fun aO=>?_;unfold Pc;simp;refine c8.ob (JE mm Em H3 211 [.ptr (.obj 501) 0] (by intro a;simp[inObs,mm,Pv.look,aH,aB]) (by simp) (fun _ _=>false) adY t true) (Em true) (by unfold mm;exact aR) (by unfold mm;exact aR) (by simp[inObs,mm,Pv.look]) ?_;rintro r ai ⟨rfl,rfl⟩;refine⟨H3 _ _,?_⟩;unfold mm;simp[cz,adE];simp[bt,V1,aX,aY,aW]
structure o2 (n:Int) (v:List al):Prop where
 ok:kK v
 asc:hH v
 fits:gp v
 len:(v.length:Int)=n
 at':∀(i:Nat) b,v[i]? =some b→b.v=(i:Int)
 gnd:∀b∈v,b.t.gnd=true
theorem o2.get{n:Int}{v:List al}(h:o2 n v){w:Int}(bn:0≤w)(J:w<n):∃b:al,v[w.toNat]? =some b∧df v w=some b.t∧bV v w=b.t:=by
 have aw:=h.len;have hi:w.toNat<v.length:=by omega
 have e:=bZ hi;have aE:=h.at' _ _ e;have bj:=tY h.asc (List.getElem_mem hi);rw[aE,Int.toNat_of_nonneg bn]at bj;exact⟨_,e,bj,by rw[bV,bj];rfl⟩
theorem WY{v:List al}(h:gp v)(w:Int):(bV v w).size≤5000:=by
 unfold bV;cases e:df v w with
 |none=>simp[T.size]
 |some x=>exact h.2 _ (jU e)
theorem kK.fit{v:List al}(h:kK v)(aL:gp v):xC v:=fun b ad=>by simp[T.fit,(h b ad).2,aL.2 b ad]
def rR(v:List al)(b:al):Bool:=decide ((b.t.ap (bV v)).size≤5000)&& !decide (bV v b.v=b.t.ap (bV v))
def la(v:List al)(d:List al):Bool:=d.any (rR v)
open Classical in
theorem amL{v:List al}(aF:kK v)(jc:gp v)(bz:hH v){d:List al}(aQ:eG d):bH ao 176 [.slice 5 .no (d.map al.e),.slice 5 .no (v.map al.e)] (.bool (la v d)):=by
 have c4:=pP aQ;have gw:=Nq (v.map al.b);rw[gJ (w7.2 ⟨v,rfl,aF,bz,jc⟩),r1]at gw;have ju:v.length≤1000000:=by have:=jc.1;omega
 have uu:=aQ.len;have ld:=kK.fit aF jc;generalize bd:la v d=R;refine bh iT abq ah3 fun aO=>?_;unfold OJ;clear aO;simp;((with_reducible repeat' first|refine aj ?_|refine aC c4 ?_|refine aD c4 ?_|refine aC gw ?_|refine aD gw ?_|simp|((first|apply bP|apply bR|apply bQ)<;>intro h<;>try simp at h))<;>(try exact cm));refine dw [1,19,20] (fun i (_:Unit)=>[(21,.int .i64 i)]) d.length (kD (fun b=> !rR v b) d) () bN (fun k b ab=>by omega) (fun _ ae _=>?_) (fun i _ hi ae _=>?_)
 ·have:R=false:=by rw[←bd,la,List.any_eq_false];intro b ad;have:=ae.fin b ad;simpa using this
  subst this;clear ae bd c4 gw;exact bY
 ·obtain⟨b,ad,cA⟩:=dT hi;have aU:=yX v (.var b.v) ju bz ld;have bC:=yX v b.t ju bz ld;have ak:((T.var b.v).ap (bV v)).size≤5000:=WY jc b.v;rw[if_pos ak,gJ ak]at aU;have cf:=rb (bV v b.v) (b.t.ap (bV v));have cw:rR v b=(decide ((b.t.ap (bV v)).size≤5000)&& !decide (bV v b.v=b.t.ap (bV v))):=rfl;have fX:rR v b=true→R=true:=fun h=>by rw[←bd,la,List.any_eq_true];exact⟨b,dK ad,h⟩
  have ct:=fun h:rR v b=false=>ae.step ad (by rw[h];rfl);rw[show(T.var b.v).ap (bV v)=bV v b.v from rfl]at aU;clear ae bd c4 gw ad ak;generalize rR v b=H at cw fX ct;by_cases br:(b.t.ap (bV v)).size≤5000
  ·rw[if_pos br,gJ br]at bC;rw[gJ br,Bool.true_and]at cw;generalize b.t.ap (bV v)=y at bC cf cw;generalize bV v b.v=x at aU cf cw;generalize decide (x=y)=q at cf cw;cases q
   ·have:=fX cw;subst this;simp[hi,cA];(with_reducible repeat' first|refine aj ?_|refine aC (jl _) ?_|refine aD (jl _) ?_|refine aC aU ?_|refine aD aU ?_|refine aC bC ?_|refine aD bC ?_|refine aC cf ?_|refine aD cf ?_|simp[cA,hi]);all_goals simp[bt,VH,aX,aY,aW]
   ·have ay:=ct cw;simp[hi,cA];(with_reducible repeat' first|refine aj ?_|refine aC (jl _) ?_|refine aD (jl _) ?_|refine aC aU ?_|refine aD aU ?_|refine aC bC ?_|refine aD bC ?_|refine aC cf ?_|refine aD cf ?_|simp[cA,hi]);all_goals exact bK.rng () hi ay bN
  ·rw[if_neg br,iB br]at bC;rw[iB br,Bool.false_and]at cw;have ay:=ct cw;clear cf cw;generalize bV v b.v=x at aU;simp[hi,cA];(with_reducible repeat' first|refine aj ?_|refine aC (jl _) ?_|refine aD (jl _) ?_|refine aC aU ?_|refine aD aU ?_|refine aC bC ?_|refine aD bC ?_|simp[cA,hi]);all_goals exact bK.rng () hi ay bN
def pJ(v:List al)(b:al):Bool:=decide ((b.t.ap (bV v)).size≤5000)&&decide (b.t.ap (bV v)=bV v b.v)
structure n2 (s:dS) (v:List al):Prop where
 b:s.b.all (pJ v)=true
 d:s.d.all (la v)=true
 k:s.k.all (fun k=>decide ((bV v k.v).kind=k.k))=true
 m:s.m.all (fun m=> !(bV v m.v).has m.s)=true
def F6(s:dS)(l:List cT):Prop:= ∃v:List al,l=v.map al.b∧o2 s.n v∧n2 s v
def Ga(v:List al)(i:Nat)(_:Unit):Prop:= ∀k b,k<i→v[k]? =some b→b.v=(k:Int)∧b.t.gnd=true
theorem Ga.step{v:List al}{i:Nat}(h:Ga v i ()){b:al}(ad:v[i]? =some b)(bG:b.v=(i:Int)∧b.t.gnd=true):Ga v (i+1) ():=fun k c ab au=>by
 rcases Nat.lt_or_ge k i with J|J
 ·exact h k c J au
 ·have:k=i:=by omega
  subst this;rw[ad]at au;cases au;exact bG
open Classical in
theorem anb{s:dS}(ag:vk s)(l:List cT):bH ao 102 [s.e,.slice 5 .no (l.map cT.e)] (.bool (decide (F6 s l))):=by
 have gw:=Nq l;generalize bd:decide (F6 s l)=R;by_cases g1:vu l;rotate_left
 ·rw[iB g1]at gw;have:R=false:=by rw[←bd,gI];rintro⟨v,rfl,h,_⟩;exact g1 (w7.2 ⟨v,rfl,h.ok,h.asc,h.fits⟩)
  subst this;clear bd g1 ag;obtain⟨n,b,d,k,m⟩:=s;simp only[dS.e]at gw⊢;refine bh iT Jl LK fun aO=>?_;unfold EH;exact bY
 rw[gJ g1]at gw;obtain⟨v,rfl,s9,s8,jc⟩:=w7.1 g1;clear g1;rw[r1]at gw⊢;by_cases g2:(v.length:Int)=s.n;rotate_left
 ·have:R=false:=by rw[←bd,gI];rintro⟨w,e,h,_⟩;rw[rq e]at g2;exact g2 h.len
  subst this;have qM:s.n≠(v.length:Int):=fun h=>g2 h.symm;clear bd ag s9 s8 jc;obtain⟨n,b,d,k,m⟩:=s;simp only[dS.e]at gw g2 qM⊢;refine bh iT Jl LK fun aO=>?_;unfold EH;simp;((with_reducible repeat' first|refine aj ?_|refine aC gw ?_|refine aD gw ?_|simp[g2,qM]|((first|apply bP|apply bR|apply bQ)<;>intro h<;>try simp at h))<;>(try exact cm));all_goals simp[bt,G0,aX,aY,aW]
 have ct:¬(o2 s.n v∧n2 s v)→R=false:=fun h=>by rw[←bd,gI];rintro⟨w,e,J,U⟩;rw[rq e]at h;exact h ⟨J,U⟩
 have fX:o2 s.n v→n2 s v→R=true:=fun J U=>by rw[←bd,e2];exact⟨v,rfl,J,U⟩
 clear bd;have ju:v.length≤1000000:=by have:=jc.1;omega
 have ld:=kK.fit s9 jc;obtain⟨n,tv,q4,tw,sm⟩:=s;simp only at g2 ct fX;subst g2;have lg:=ag.b;have fb:=lg.len;have cL:=ag.bb;have jW:=ag.d;have qS:=ag.k;have p2:=ag.kb;have pB:=ag.mb;have vY:=ag.m;have hK:=td qS;simp only at lg fb cL jW qS p2 pB vY hK;clear ag;simp only[dS.e];refine bh iT Jl LK fun aO=>?_;unfold EH;have uu:q4.length≤68719476736:=by simp[eu,ed,ep,lim]at aO;omega
 have ki:sm.length≤68719476736:=by simp[eu,ed,ep,lim]at aO;omega
 clear aO;simp;(with_reducible repeat' first|refine aj ?_|refine aC gw ?_|refine aD gw ?_|simp);refine dw [1,2,27,28] (fun i (_:Unit)=>[(29,.int .i64 i)]) v.length (Ga v) () bN (fun k b ab=>by omega) (fun _ ae _=>?_) (fun i _ hi ae _=>?_);rotate_left
 ·obtain⟨b,ad,cA⟩:=dT hi;have aU:=XS b.t;by_cases g:b.v=(i:Int)∧b.t.gnd=true
  ·have ay:=ae.step ad g;obtain⟨g1,g2⟩:=g;rw[g2]at aU;clear ae ad ct fX;exact gg
  ·rw[ct fun h=>g ⟨h.1.at' _ _ ad,h.1.gnd _ (dK ad)⟩];clear ae ad ct fX;by_cases g1:b.v=(i:Int)
   ·have g2:b.t.gnd=false:=by
     cases e:b.t.gnd with
     |false=>rfl
     |true=>exact absurd ⟨g1,e⟩ g
    rw[g2]at aU;exact bY
   ·simp[hi,cA];((with_reducible repeat' first|refine aj ?_|simp[cA,hi,g1]|((first|apply bP|apply bR|apply bQ)<;>intro h<;>try simp at h))<;>(try exact cm));all_goals simp[bt,G0,aX,aY,aW]
 have aF:o2 v.length v:=⟨s9,s8,jc,rfl,fun i b ad=>(ae i b (e1.1 ad).1 ad).1,fun b ad=>by obtain⟨i,hi⟩:=List.mem_iff_getElem?.1 ad;exact(ae i b (e1.1 hi).1 hi).2⟩
 have fX:=fX aF;have ct:¬n2 ⟨v.length,tv,q4,tw,sm⟩ v→R=false:=fun h=>ct fun cb=>h cb.2;clear ae gw;simp;(with_reducible repeat' first|refine aj ?_|simp);refine dw [1,2,46,47] (fun i (_:Unit)=>[(48,.int .i64 i)]) tv.length (kD (pJ v) tv) () bN (fun k b ab=>by omega) (fun _ ae _=>?_) (fun i _ hi ae _=>?_);rotate_left
 ·obtain⟨b,ad,cA⟩:=dT hi;have gv:=dK ad;have aU:=yX v b.t ju s8 ld;obtain⟨c,au,_,lK⟩:=aF.get (lg.ok b gv).1.1 (cL b gv).1;have bC:=rb (b.t.ap (bV v)) (bV v b.v);have w0:=(lg.ok b gv).1.1;have eg:=(cL b gv).1;have NF:∀h,(v[b.v.toNat]'h)=c:=fun h=>by rw[bZ h]at au;exact eE au
  have cw:pJ v b=(decide ((b.t.ap (bV v)).size≤5000)&&decide (b.t.ap (bV v)=bV v b.v)):=rfl;have eV:pJ v b=false→R=false:=fun h=>ct fun cb=>by have:=gn.1 cb.b b gv;rw[h]at this;cases this
  have dC:=fun h:pJ v b=true=>ae.step ad h;clear ae ad gv ct fX aF s9 s8 jc ld;generalize pJ v b=H at cw eV dC;by_cases br:(b.t.ap (bV v)).size≤5000
  ·rw[if_pos br,gJ br]at aU;rw[gJ br,Bool.true_and]at cw;rw[lK]at bC cw;generalize b.t.ap (bV v)=y at aU bC cw;generalize decide (y=c.t)=q at bC cw;cases q
   ·rw[eV cw];exact bY
   ·have ay:=dC cw;exact gg
  ·rw[if_neg br,iB br]at aU;rw[iB br,Bool.false_and]at cw;rw[eV cw];exact bY
 have jD:tv.all (pJ v)=true:=gn.2 ae.fin;clear ae;simp;(with_reducible repeat' first|refine aj ?_|simp);refine dw [1,2,74,75] (fun i (_:Unit)=>[(76,.int .i64 i)]) q4.length (kD (la v) q4) () bN (fun k b ab=>by omega) (fun _ ae _=>?_) (fun i _ hi ae _=>?_);rotate_left
 ·obtain⟨b,ad,cA⟩:=dT hi;have gv:=dK ad;have aU:bH ao 176 [cO b,.slice 5 .no (v.map al.e)] (.bool (la v b)):=amL s9 jc s8 (jW b gv);have eV:la v b=false→R=false:=fun h=>ct fun cb=>by have:=gn.1 cb.d b gv;rw[h]at this;cases this
  have dC:=fun h:la v b=true=>ae.step ad h;clear ae ad gv ct fX aF s9 s8 jc ld;generalize la v b=q at aU eV dC;cases q
  ·rw[eV rfl];exact bY
  ·have ay:=dC rfl;exact gg
 have um:q4.all (la v)=true:=gn.2 ae.fin;clear ae;simp;(with_reducible repeat' first|refine aj ?_|simp);refine dw [1,2,86,87] (fun i (_:Unit)=>[(88,.int .i64 i)]) tw.length (kD (fun k=>decide ((bV v k.v).kind=k.k)) tw) () bN (fun k b ab=>by omega) (fun _ ae _=>?_) (fun i _ hi ae _=>?_);rotate_left
 ·obtain⟨b,ad,cA⟩:=dT hi;have gv:=dK ad;have w0:=(qS.at' b gv).1.1;have eg:=p2 b gv;obtain⟨c,au,_,lK⟩:=aF.get w0 eg;have NF:∀h,(v[b.v.toNat]'h)=c:=fun h=>by rw[bZ h]at au;exact eE au
  by_cases g:c.t.kind=b.k
  ·have ay:=ae.step ad (by rw[lK];exact gJ g);clear ae ad gv ct fX aF s9 s8 jc ld;exact gg
  ·rw[ct fun cb=>by have:=gn.1 cb.k b gv;rw[lK]at this;exact g (of_decide_eq_true this)]
   clear ae ad gv ct fX aF s9 s8 jc ld;simp[hi,cA];((with_reducible repeat' first|refine aj ?_|simp[cA,hi,w0,eg,NF,g]|((first|apply bP|apply bR|apply bQ)<;>intro h<;>try simp at h))<;>(try exact cm));all_goals simp[bt,G0,aX,aY,aW]
 have c3:tw.all (fun k=>decide ((bV v k.v).kind=k.k))=true:=gn.2 ae.fin;clear ae;simp;(with_reducible repeat' first|refine aj ?_|simp);refine dw [1,104,105] (fun i (_:Unit)=>[(106,.int .i64 i)]) sm.length (kD (fun m=> !(bV v m.v).has m.s) sm) () bN (fun k b ab=>by omega) (fun _ ae _=>?_) (fun i _ hi ae _=>?_);rotate_left
 ·obtain⟨b,ad,cA⟩:=dT hi;have gv:=dK ad;have w0:=(vY.at' b gv).1.1;have eg:=pB b gv;obtain⟨c,au,_,lK⟩:=aF.get w0 eg;have NF:∀h,(v[b.v.toNat]'h)=c:=fun h=>by rw[bZ h]at au;exact eE au
  have aU:=XR b.s c.t;cases g:c.t.has b.s
  ·rw[g]at aU;have ay:=ae.step ad (by rw[lK,g];rfl);clear ae ad gv ct fX aF s9 s8 jc ld;exact gg
  ·rw[g]at aU;rw[ct fun cb=>by have:=gn.1 cb.m b gv;rw[lK,g]at this;cases this]
   clear ae ad gv ct fX aF s9 s8 jc ld;exact bY
 rw[fX ⟨jD,um,c3,gn.2 ae.fin⟩];clear ae;exact bY
def k3(u:List T):Nat→List Int→List al
 |_,[]=>[]
 |k,v::aV=>⟨v,u.getD (k%u.length) .nil⟩::k3 u (k/u.length) aV
def ext1(u:List T)(v:Int)(r:List al):List (List al):=u.map fun t=>r++[⟨v,t⟩]
def hX(u:List T):List Int→List (List al)→List (List al)
 |[],rows=>rows
 |v::aV,rows=>hX u aV (rows.flatMap (ext1 u v))
theorem Ro(u:List T)(v:Int)(r:List al):(ext1 u v r).length=u.length:=by simp[ext1]
theorem B0(u:List T)(v:Int):∀rows:List (List al),(rows.flatMap (ext1 u v)).length=rows.length*u.length
 |[]=>by simp
 |r::rows=>by simp[B0 u v rows,Ro,Nat.succ_mul,Nat.add_comm]
def j4(f:Nat→Nat):Nat→Nat
 |0=>0
 |n+1=>j4 f n+f n
theorem Xf(f g:Nat→Nat):∀n,j4 (fun i=>f i+g i) n=j4 f n+j4 g n
 |0=>rfl
 |n+1=>by simp only[j4,Xf f g n];omega
def xw(p:Nat→Bool)(n:Nat):Nat:=j4 (fun i=>(p i).toNat) n
theorem TD(b:Bool):(if b=true then 1 else 0)=b.toNat:=by cases b<;>rfl
theorem Xg(f:Nat→Nat)(L:Nat):∀M,j4 f (L*M)=j4 (fun i=>j4 (fun j=>f (i+L*j)) M) L
 |0=>by
  have:∀L,j4 (fun _=>0) L=0:=fun L=>by induction L with
   |zero=>rfl
   |succ n bO=>simp[j4,bO]
  simp[j4,this]
 |M+1=>by
  have h:∀K,j4 f (L*M+K)=j4 f (L*M)+j4 (fun i=>f (i+L*M)) K:=fun K=>by
   induction K with
   |zero=>rfl
   |succ n bO=>rw[←Nat.add_assoc,j4,bO,j4,Nat.add_assoc,Nat.add_comm (L*M) n]
  rw[Nat.mul_succ,h,Xg f L M,←Xf];rfl
theorem M5{f g:Nat→Nat}:∀{n:Nat},(∀i,i<n→f i=g i)→j4 f n=j4 g n
 |0,_=>rfl
 |n+1,h=>by rw[j4,j4,M5 fun i hi=>h i (by omega),h n (by omega)]
theorem aae{α:Type}(p:α→Bool)(l:List α){i:Nat}{x:α}(h:l[i]? =some x):(l.take (i+1)).countP p=(l.take i).countP p+(p x).toNat:=by rw[oY h,List.countP_append,List.countP_cons,List.countP_nil,Nat.zero_add,TD]
theorem Il(u:List T)(c:List al→Bool):∀(aV:List Int) (rows:List (List al)),(hX u aV rows).countP c=(rows.map fun r=>(hX u aV [[]]).countP fun w=>c (r++w)).sum
 |[],rows=>by
  simp only[hX];induction rows with
  |nil=>rfl
  |cons r rows bO=>rw[List.countP_cons,bO,gO,List.sum_cons,List.countP_cons,List.countP_nil,Nat.zero_add,List.append_nil,Nat.add_comm]
 |v::aV,rows=>by
  simp only[hX];rw[Il u c aV];have bn:∀r:List al,(hX u aV ([[]].flatMap (ext1 u v))).countP (fun w=>c (r++w))=((ext1 u v r).map fun q=>(hX u aV [[]]).countP fun w=>c (q++w)).sum:=fun r=>by rw[Il u _ aV];simp[ext1,List.map_map,Function.comp_def]
  simp only[bn];induction rows with
  |nil=>rfl
  |cons r rows bO=>rw[List.flatMap_cons,qu,List.sum_append,bO,gO,List.sum_cons]
theorem amk(F:T→Nat):∀u:List T,(u.map F).sum=j4 (fun i=>F (u.getD i .nil)) u.length:=fun u=>by
 have h:∀n,n≤u.length→((u.take n).map F).sum=j4 (fun i=>F (u.getD i .nil)) n:=fun n=>by
  induction n with
  |zero=>intro _;rfl
  |succ n bO=>intro ay;have af:u[n]? =some u[n]:=bZ (by omega);rw[oY af,qu,List.sum_append,bO (by omega),j4];simp[List.getD,af]
 have:=h u.length (eR _);rwa[mj]at this
theorem Oj(u:List T)(hu:0<u.length):∀(aV:List Int) (c:List al→Bool),(hX u aV [[]]).countP c=xw (fun k=>c (k3 u k aV)) (u.length ^ aV.length)
 |[],c=>by simp[hX,xw,j4,k3,List.countP_cons,TD]
 |v::aV,c=>by
  have J:(hX u (v::aV) [[]]).countP c=(u.map fun t=>(hX u aV [[]]).countP fun w=>c (⟨v,t⟩::w)).sum:=by simp only[hX];rw[Il u c aV];simp[ext1,List.map_map,Function.comp_def]
  rw[J,amk,o6,Nat.pow_succ,Nat.mul_comm,xw,Xg];refine M5 fun i hi=>?_;rw[Oj u hu aV];refine M5 fun j _=>?_;simp only[k3];rw[Nat.add_mul_mod_self_left,Nat.mod_eq_of_lt hi,Nat.add_mul_div_left _ _ hu,Nat.div_eq_of_lt hi,Nat.zero_add]
theorem Im(u:List T):∀(aV:List Int) (rows:List (List al)),∀r∈hX u aV rows,∃q∈rows,∃w:List al,r=q++w∧w.map (·.v)=aV∧∀b∈w,b.t∈u
 |[],rows,r,h=>⟨r,h,[],by simp⟩
 |v::aV,rows,r,h=>by
  obtain⟨q,bo,w,rfl,U,ar⟩:=Im u aV _ r h;obtain⟨gx,FQ,ba⟩:=List.mem_flatMap.1 bo;obtain⟨t,aK,rfl⟩:=h5.1 ba;refine⟨gx,FQ,⟨v,t⟩::w,by simp,by simp[U],fun b ad=>?_⟩;rcases fR.1 ad with rfl|ad
  ·exact aK
  ·exact ar b ad
theorem Yd(u:List T)(hu:0<u.length):∀(k:Nat) (aV:List Int),(k3 u k aV).map (·.v)=aV∧∀b∈k3 u k aV,b.t∈u
 |k,[]=>by simp[k3]
 |k,v::aV=>by
  obtain⟨J,U⟩:=Yd u hu (k/u.length) aV;refine⟨by simp[k3,J],fun b ad=>?_⟩;simp only[k3,fR]at ad;rcases ad with rfl|ad
  ·have:=Nat.mod_lt k hu;simp only[List.getD,bZ this,ka];exact List.getElem_mem _
  ·exact U b ad
theorem Om(u:List T):∀(vars:List Int) (rows:List (List al)),(hX u vars rows).length=rows.length*u.length ^ vars.length
 |[],rows=>by simp[hX]
 |v::aV,rows=>by simp only[hX,Om u aV,B0,o6,Nat.pow_succ];rw[Nat.mul_assoc,Nat.mul_comm u.length]
theorem Ol{u:List T}(hu:0<u.length):∀(aV:List Int) (rows:List (List al)),∀r∈rows,∃w,r++w∈hX u aV rows
 |[],rows,r,h=>⟨[],by simpa[hX]using h⟩
 |v::aV,rows,r,h=>by obtain⟨w,hw⟩:=Ol hu aV (rows.flatMap (ext1 u v)) (r++[⟨v,u[0]⟩]) (List.mem_flatMap.2 ⟨r,h,h5.2 ⟨u[0],List.getElem_mem hu,rfl⟩⟩);exact⟨⟨v,u[0]⟩::w,by simpa[hX]using hw⟩
theorem Zb{u:List T}(hu:0<u.length){vars:List Int}{i:Nat}{rows:List (List al)}(h:hX u (vars.drop i) rows=hX u vars [[]]){r:List al}(aJ:r∈rows):r.length≤vars.length:=by obtain⟨w,hw⟩:=Ol hu (vars.drop i) rows r aJ;rw[h]at hw;obtain⟨q,bo,w',e,U,_⟩:=Im u vars [[]] _ hw;rw[List.mem_singleton.1 bo,b2]at e;have ar:=eB List.length U;have ba:=eB List.length e;simp at ar ba;omega
def je(n:Nat):List Int:=(List.range n).map Int.ofNat
theorem kY(n:Nat):(je n).length=n:=by simp[je]
theorem o2.of{n:Nat}(ay:n≤400){u:List T}(hu:∀t∈u,t.fit=true∧t.gnd=true){r:List al}(J:r.map (·.v)=je n)(U:∀b∈r,b.t∈u):o2 n r:=by
 have aw:r.length=n:=by rw[←kY n,←J,rj]
 have l4:∀(i:Nat) b,r[i]? =some b→b.v=(i:Int):=fun i b ad=>by
  have hi:i<n:=by rw[←aw];exact(e1.1 ad).1
  have ar:(r.map (·.v))[i]? =some b.v:=by rw[ri,ad];rfl
  rw[J]at ar;simp[je,hi]at ar;exact ar.symm
 have Ck:=fun(b:al) ad=>(hu b.t (U b ad)).1;simp only[T.fit,cC,e2]at Ck;refine⟨fun b ad=>?_,?_,⟨by omega,fun b ad=>(Ck b ad).2⟩,by omega,l4,fun b ad=>(hu b.t (U b ad)).2⟩
 ·obtain⟨i,hi⟩:=List.mem_iff_getElem?.1 ad;have:=l4 i b hi;have:=(e1.1 hi).1;exact⟨by omega,(Ck b ad).1⟩
 ·refine o7.2 fun i j hi ae lF=>?_;rw[l4 i _ (bZ hi),l4 j _ (bZ ae)];omega
def jP(b:Nat):Nat→Nat→Nat
 |0,out=>out
 |k+1,out=>if out≤512 then jP b k (out*b)else out
theorem NJ{b:Nat}(ad:0<b):∀(n out:Nat),jP b n out≤512→jP b n out=out*b ^ n
 |0,out,_=>by simp[jP]
 |n+1,out,h=>by
  unfold jP at h⊢;split
  ·rename_i g;rw[if_pos g]at h;rw[NJ ad n _ h,Nat.pow_succ,Nat.mul_assoc,Nat.mul_comm b]
  ·rename_i g;rw[if_neg g]at h;omega
theorem nW(S:aI→Prop):∀a b:List ah,aH S (a++b)↔aH S a∧aH S b
 |[],b=>by simp[aH]
 |x::r,b=>by simp only[bX,aH,nW S r b,and_assoc]
theorem n4:∀a b:List ah,cR (a++b)=cR a++cR b
 |[],b=>by simp[cR]
 |x::r,b=>by simp[cR,n4 r b]
def r9(b:Nat):Nat→Nat→Nat
 |0,out=>out
 |k+1,out=>if out≤512∧b≠1 then r9 b k (out*b)else out
def AO(b n:Nat):Nat:=min (r9 b n 1) 513
def agK(b n:Nat)(i out:Nat):Prop:=out≤512*b∧r9 b (n-i) out=r9 b n 1
theorem anB(b n:Nat)(ad:0<b∧b≤1000)(ay:n≤1000000):bH ao 67 [.int .i64 b,.int .i64 n] (.int .i64 (AO b n)):=by
 refine bh o1 ab2 aiF fun aO=>?_;unfold Pl;simp;refine dw [0,1] (fun i (out:Nat)=>[(5,.int .i64 out),(6,.int .i64 i)]) n (agK b n) 1 bN ⟨by omega,by simp⟩ (fun out ae _=>?_) (fun i out hi ae _=>?_)
 ·obtain⟨J,U⟩:=ae;simp[r9]at U;(with_reducible repeat' first|refine aj ?_|simp);simp[bt,G3,aX,aY,aW];simp[AO,←U];omega
 ·obtain⟨J,U⟩:=ae;have hc:r9 b (n-i) out=if out≤512∧b≠1 then r9 b (n-(i+1)) (out*b)else out:=by obtain⟨k,ab⟩:∃k,n-i=k+1:=⟨n-i-1,by omega⟩;rw[ab,show n-(i+1)=k by omega];rfl
  by_cases au:out≤512∧b≠1
  ·rw[if_pos au]at hc;have hmul:out*b≤512*b:=qv b au.1;have FG:512*b≤512000:=by omega
   have FH:0≤((out:Int)*b)∧(out:Int)*b≤512000:=by
    have J:((out*b:Nat):Int)≤512000:=by omega
    have U:(0:Int)≤((out*b:Nat):Int):=by omega
    rw[Int.natCast_mul]at J U;exact⟨U,J⟩
   have ur:(out:Int)≤512:=by omega
   have sQ:=au.2;((with_reducible repeat' first|refine aj ?_|simp[hi,ur,sQ]|((first|apply bP|apply bR|apply bQ)<;>intro h<;>try simp at h))<;>(try exact cm));refine bK.rng (out*b) hi ⟨hmul,by rw[←U,hc]⟩ bN
  ·rw[if_neg au]at hc;have dx:AO b n=min out 513:=by unfold AO;rw[←U,hc]
   by_cases ur:out≤512
   ·have sQ:b=1:=by omega
    subst sQ;((with_reducible repeat' first|refine aj ?_|simp[hi]|((first|apply bP|apply bR|apply bQ)<;>intro h<;>try simp at h))<;>(try exact cm));simp[bt,G3,aX,aY,aW];rw[dx];omega
   ·((with_reducible repeat' first|refine aj ?_|simp[hi]|((first|apply bP|apply bR|apply bQ)<;>intro h<;>try simp at h))<;>(try exact cm));all_goals simp[bt,G3,aX,aY,aW]
    all_goals rw[dx];omega
def j3(r:List al):ah:= .slice 5 .no (r.map al.e)
@[simp] theorem asz(S:aI→Prop)(r:List al):aB S (j3 r)=True:=by simp[j3]
@[simp] theorem asB(r:List al):dm (j3 r)=j3 r:=by simp[j3]
@[simp] theorem asF(S:aI→Prop)(l:List (List al)):aH S (l.map j3)=True:=by
 apply eq_true;induction l with
 |nil=>simp
 |cons x r bO=>simp[aH,bO]
@[simp] theorem asG(l:List (List al)):cR (l.map j3)=l.map j3:=by
 induction l with
 |nil=>simp
 |cons x r bO=>simp[cR,bO]
@[simp] theorem asA(r:List al):ec (j3 r)=true:=rfl
@[simp] theorem asy(r:List al):cells (j3 r)=[j3 r]:=rfl
def agD(u:List T)(vars:List Int)(i:Nat)(rows:List (List al)):Prop:=hX u (vars.drop i) rows=hX u vars [[]]∧rows.length=u.length ^ i
def TE(u:List T)(v:Int)(rows:List (List al))(j:Nat)(acc:List (List al)):Prop:=acc=(rows.take j).flatMap (ext1 u v)
def KO(u:List T)(v:Int)(rows:List (List al))(j:Nat)(r:List al)(k:Nat)(acc:List (List al)):Prop:=acc=(rows.take j).flatMap (ext1 u v)++ext1 (u.take k) v r
set_option maxRecDepth 8000 in
theorem amZ(vars:List Int)(u:List T)(hu:0<u.length∧u.length≤1000)(ay:vars.length≤1000000)(ad:u.length ^ vars.length≤1000000)(CD:∀i rows,hX u (vars.drop i) rows=hX u vars [[]]→∀r∈rows,r.length≤1000000):bH ao 68 [.slice 1 .no (dA vars),.slice 4 .no (u.map T.e)] (.slice 1 .no ((hX u vars [[]]).map j3)):=by
 have S7:∀i,i≤vars.length→u.length ^ i≤1000000:=fun i hi=>jT (Nat.pow_le_pow_right hu.1 hi) ad;refine bh o1 abE aih fun aO=>?_;unfold OW;simp;refine ho (fun i (rows:List (List al))=>⟨[(1,.slice 4 .no (u.map T.e)),(15,.slice 1 .no (dA vars)),(16,.int .i64 vars.length),(5,.slice 1 .no (rows.map j3)),(17,.int .i64 i)],[],[],2,[]⟩) vars.length (agD u vars) [[]] ⟨by simp[fresh,aH,aB,b9,inObs,Pv.look,j3],dZ (by simp[fresh,aH,aB,b9,inObs,Pv.look,j3]),ea (by simp[fresh,aH,aB,dN,inObs,Pv.look,j3]),by simp⟩ ⟨by simp,by simp⟩ (fun rows ae _=>?_) (fun i rows hi ae _=>?_)
 ·(with_reducible repeat' first|refine aj ?_|simp);simp[bt,VO,aX,aY,aW];have J:=ae.1;rw[sv]at J;simp[hX]at J;rw[J]
 ·obtain⟨v,aF⟩:∃v,vars[i]? =some v:=⟨_,bZ hi⟩;have wg:∀h,(dA vars)[i]'h= .int .i64 v:=fun h=>by simp only[dA,List.getElem_map];rw[bZ hi]at aF;simp at aF;rw[aF]
  have aQ:vars.drop i=v::vars.drop (i+1):=by rw[kP hi];rw[bZ hi]at aF;simp at aF;rw[aF]
  have vZ:=S7 (i+1) (by omega);rw[Nat.pow_succ,←ae.2]at vZ;have Tb:rows.length≤1000000:=by rw[ae.2];exact S7 i (by omega)
  (with_reducible repeat' first|refine aj ?_|simp[hi,wg]);refine ho (fun j (acc:List (List al))=>⟨[(1,.slice 4 .no (u.map T.e)),(7,.int .i64 v),(15,.slice 1 .no (dA vars)),(16,.int .i64 vars.length),(17,.int .i64 i),(22,.slice 1 .no (rows.map j3)),(23,.int .i64 rows.length),(8,.slice 1 (.own (.loc 2)) (acc.map j3)),(24,.int .i64 j)],[],[(.loc 2,⟨acc.length,46,1,none⟩)],3,[]⟩) rows.length (TE u v rows) [] bN rfl (fun acc dU _=>?_) (fun j acc Kb dU _=>?_)
  ·have Sn:acc=rows.flatMap (ext1 u v):=by rw[dU,mj]
   (with_reducible repeat' first|refine aj ?_|simp);refine bK.rng acc hi ⟨?_,?_⟩ bN
   ·rw[Sn,←ae.1,aQ];rfl
   ·rw[Sn,B0,ae.2,Nat.pow_succ]
  ·obtain⟨r,aJ⟩:∃r,rows[j]? =some r:=⟨_,bZ Kb⟩;have lI:∀h,rows[j]'h=r:=fun h=>by rw[bZ h]at aJ;simpa using aJ
   have apZ:r.length≤1000000:=CD i rows ae.1 r (dK aJ);have afb:(j+1)*u.length≤rows.length*u.length:=qv _ (by omega);have qN:acc.length=j*u.length:=by rw[dU,B0,List.length_take,Nat.min_eq_left (by omega)]
   rw[o8,Nat.one_mul]at afb;(with_reducible repeat' first|refine aj ?_|simp[Kb,aJ,lI]);refine ho (fun k (acc:List (List al))=>⟨[(1,.slice 4 .no (u.map T.e)),(7,.int .i64 v),(10,j3 r),(15,.slice 1 .no (dA vars)),(16,.int .i64 vars.length),(17,.int .i64 i),(22,.slice 1 .no (rows.map j3)),(23,.int .i64 rows.length),(24,.int .i64 j),(28,.slice 4 .no (u.map T.e)),(29,.int .i64 u.length),(8,.slice 1 (.own (.loc 2)) (acc.map j3)),(30,.int .i64 k)],[],[(.loc 2,⟨acc.length,46,1,none⟩)],3,[]⟩) u.length (KO u v rows j r) acc bN (by have J:acc=_:=dU;unfold KO;rw[J];simp[ext1]) (fun Ev ky _=>?_) (fun k Ev uC ky _=>?_)
   ·(with_reducible repeat' first|refine aj ?_|simp);refine bK.rng Ev Kb ?_ bN;unfold TE;rw[ky,mj,List.take_succ,aJ];simp
   ·obtain⟨t,aK⟩:∃t,u[k]? =some t:=⟨_,bZ uC⟩;have afY:∀h,u[k]'h=t:=fun h=>by rw[bZ h]at aK;simpa using aK
    have apK:Ev.length=j*u.length+k:=by
     have J:(rows.take j).length=j:=by simp;omega
     have U:(u.take k).length=k:=by simp;omega
     rw[ky,o5,B0,Ro,J,U]
    have FT:j3 r= .slice 5 .no (r.map al.e):=rfl;have Kr:j3 (r++[⟨v,t⟩])= .slice 5 .no (r.map al.e++[(al.mk v t).e]):=by simp[j3]
    (with_reducible repeat' first|refine aj ?_|simp[uC,aK,afY,FT]);refine bK.rng (Ev++[r++[⟨v,t⟩]]) uC ?_ ⟨by simp[fresh,aH,aB,b9,inObs,Pv.look,FT,Kr,n4,nW],dZ (by simp[fresh,aH,aB,b9,inObs,Pv.look,FT,Kr,n4,nW]),ea (by simp[fresh,aH,aB,dN,inObs,Pv.look,FT,Kr,n4,nW]),by simp⟩;unfold KO;rw[ky,List.take_succ,aK];simp[ext1]
theorem VB(b:Nat):∀n out,b≠1→r9 b n out=jP b n out
 |0,_,_=>rfl
 |n+1,out,h=>by
  unfold r9 jP;by_cases g:out≤512
  ·rw[if_pos ⟨g,h⟩,if_pos g,VB b n _ h]
  ·rw[if_neg fun x=>g x.1,if_neg g]
theorem Yl:∀n,jP 1 n 1=1
 |0=>rfl
 |n+1=>by unfold jP;simp[Yl n]
theorem akb(b n:Nat):AO b n=min (jP b n 1) 513:=by
 unfold AO;by_cases h:b=1
 ·subst h;rw[Yl];have:∀n,r9 1 n 1=1:=fun n=>by cases n<;>simp[r9]
  rw[this]
 ·rw[VB b n 1 h]
open Classical in
theorem anL(l:List cT):bH ao 98 [.slice 5 .no (l.map cT.e)] (.bool (decide (vu l))):=by have k:=XW l;refine bh iT ac1 ajB fun aO=>?_;unfold Qj;exact bY
open Classical in
theorem anM{v:List al}(aF:kK v)(jc:gp v)(bz:hH v):bH ao 98 [.slice 5 .no (v.map al.e)] (.bool true):=by have gw:=anL (v.map al.b);rw[gJ (w7.2 ⟨v,rfl,aF,bz,jc⟩),r1]at gw;exact gw
open Classical in
theorem X5{v:List al}(aF:kK v)(jc:gp v)(bz:hH v){t:T}(aK:t.fit=true):bH ao 209 [t.e,.slice 5 .no (v.map al.e)] (.tuple [(if(t.ap (bV v)).size≤5000 then t.ap (bV v)else .nil).e,.bool (decide ((t.ap (bV v)).size≤5000))]):=by
 have dp:=Bl t.tm;rw[jb,bI.fits_T,aK]at dp;have gw:=anM aF jc bz;have aU:=D6 v (by have:=jc.1;omega) t;have bC:=anc (t.ap (bV v));generalize t.ap (bV v)=y at aU bC⊢;by_cases g:y.size≤5000
 ·rw[if_pos g];rw[gJ g]at aU⊢;clear g jc aF bz;refine bh iT RC Vj fun aO=>?_;unfold IQ;exact bY
 ·rw[if_neg g];rw[iB g]at aU⊢;clear g jc aF bz;refine bh iT RC Vj fun aO=>?_;unfold IQ;exact bY
theorem adx{n:Int}(h:0≤n∧n≤100000):(T.var n).fit=true:=by simp[T.fit,T.ok,T.size,h]
open Classical in
theorem anG{v:List al}(aF:kK v)(jc:gp v)(bz:hH v){d:List al}(aQ:eG d):bH ao 173 [.slice 5 .no (d.map al.e),.slice 5 .no (v.map al.e)] (.bool (la v d)):=by
 have c4:=Nw aQ;have uu:=aQ.len;generalize bd:la v d=R;refine bh iT acU aju fun aO=>?_;unfold Qc;clear aO;simp;(with_reducible repeat' first|refine aj ?_|refine aC c4 ?_|refine aD c4 ?_|simp);refine dw [1,14,15] (fun i (_:Unit)=>[(16,.int .i64 i)]) d.length (kD (fun b=> !rR v b) d) () bN (fun k b ab=>by omega) (fun _ ae _=>?_) (fun i _ hi ae _=>?_)
 ·have:R=false:=by rw[←bd,la,List.any_eq_false];intro b ad;have:=ae.fin b ad;simpa using this
  subst this;clear ae bd c4;exact bY
 ·obtain⟨b,ad,cA⟩:=dT hi;have gv:=dK ad;have aU:=X5 aF jc bz (adx (aQ.ok b gv).1);have bC:=X5 aF jc bz (aQ.fit b gv);have ak:((T.var b.v).ap (bV v)).size≤5000:=WY jc b.v;rw[if_pos ak,gJ ak,show(T.var b.v).ap (bV v)=bV v b.v from rfl]at aU;have cf:=HO (bV v b.v) (b.t.ap (bV v));have cw:rR v b=(decide ((b.t.ap (bV v)).size≤5000)&& !decide (bV v b.v=b.t.ap (bV v))):=rfl;have fX:rR v b=true→R=true:=fun h=>by rw[←bd,la,List.any_eq_true];exact⟨b,gv,h⟩
  have ct:=fun h:rR v b=false=>ae.step ad (by rw[h];rfl);have gS:=j9 b.v;clear ae bd c4 ad ak gv aQ aF jc bz;generalize rR v b=H at cw fX ct;by_cases br:(b.t.ap (bV v)).size≤5000
  ·rw[if_pos br,gJ br]at bC;rw[gJ br,Bool.true_and]at cw;generalize b.t.ap (bV v)=y at bC cf cw;generalize bV v b.v=x at aU cf cw;generalize decide (x=y)=q at cf cw;cases q
   ·have:=fX cw;subst this;exact bY
   ·have ay:=ct cw;exact gg
  ·rw[if_neg br,iB br]at bC;rw[iB br,Bool.false_and]at cw;have ay:=ct cw;clear cf cw;generalize bV v b.v=x at aU;exact gg
theorem aeq(t:T):t.gnd=true↔h4 t []=[]:=by
 have J:∀t:T,t.gnd=true↔∀w,t.occ w=false:=by
  intro t;induction t with
  |var n=>simp[T.gnd,T.occ]
  |pair a b dX dY=>simp only[T.gnd,T.occ,cC,Bool.or_eq_false_iff,dX,dY];exact⟨fun h w=>⟨h.1 w,h.2 w⟩,fun h=>⟨fun w=>(h w).1,fun w=>(h w).2⟩⟩
  |_=>simp[T.gnd,T.occ]
 rw[J,List.eq_nil_iff_forall_not_mem];simp[Da]
theorem anH{t:T}(aK:t.fit=true):bH ao 99 [t.e] (.bool t.gnd):=by
 have dp:=Bl t.tm;rw[jb,bI.fits_T,aK]at dp;have ee:t.size≤5000:=by simp only[T.fit,cC,e2]at aK;exact aK.2
 have ju:=Bn t [];have gw:=D5 t [] (by simp;omega) (by simp[sy]);have zD:dA []=[]:=rfl;rw[zD]at gw;have a7:=aeq t;generalize h4 t []=aV at gw ju a7;cases aV with
 |nil=>rw[a7.2 rfl];rw[zD]at gw;refine bh iT Jr LQ fun aO=>?_;unfold EP;exact bY
 |cons w aV=>
  rw[show t.gnd=false from by rw[←Bool.not_eq_true,a7];simp];have aw:¬((aV.length:Int)+1=0):=by omega
  have nS:aV.length≤5000:=by simp at ju;omega
  clear a7 ju ee aK;refine bh iT Jr LQ fun aO=>?_;unfold EP;simp;(with_reducible repeat' first|refine aj ?_|refine aC dp ?_|refine aD dp ?_|refine aC gw ?_|refine aD gw ?_|simp[eU,aw]);all_goals simp[bt,Wh,aX,aY,aW]
  all_goals omega
theorem anD{t:T}(aK:t.fit=true)(s:List dE):bH ao 174 [t.e,.str s] (.bool (t.has s)):=by have dp:=Bl t.tm;rw[jb,bI.fits_T,aK]at dp;have k:=HQ s t;refine bh iT acT ajt fun aO=>?_;unfold Qb;exact bY
def sj(u:List T)(i:Nat):Bool:=match u[i]? with
 |some t=>t.fit&&t.gnd&&(i==0||match u[i-1]? with|some s=>decide (dP s t<0)|none=>true)
 |none=>true
def Bg(u:List T):Bool:=decide (1≤u.length∧u.length≤8)&&(List.range u.length).all (sj u)
theorem Bh(u:List T):Bg u=true↔(1≤u.length∧u.length≤8)∧∀k,k<u.length→sj u k=true:=by simp[Bg]
def iW(l:List bI):Prop:= ∃u:List T,l=u.map T.tm∧Bg u=true
theorem HH{u:List T}(h:Bg u=true):∀t∈u,t.fit=true∧t.gnd=true:=fun t aK=>by obtain⟨i,hi⟩:=List.mem_iff_getElem?.1 aK;have:=((Bh u).1 h).2 i (e1.1 hi).1;simp only[sj,hi,cC]at this;exact this.1
structure qY (l:List bI) (i:Nat) (_:Unit):Prop where
 ex:∃u:List T,l.take i=u.map T.tm∧∀k,k<i→sj u k=true
theorem amA{u w:List T}{k:Nat}(ab:k<u.length):sj (u++w) k=sj u k:=by
 unfold sj;rw[List.getElem?_append_left ab];cases u[k]? with
 |none=>rfl
 |some t=>
  rcases Nat.eq_zero_or_pos k with rfl|h
  ·rfl
  ·simp only;rw[List.getElem?_append_left (by omega)]
theorem qY.step{l:List bI}{i:Nat}(h:qY l i ()){t:T}(aK:l[i]? =some t.tm)(bG:∀u:List T,l.take i=u.map T.tm→sj (u++[t]) i=true):qY l (i+1) ():=by
 obtain⟨u,J,U⟩:=h.ex;have aw:u.length=i:=by have ar:=eB List.length J;have:=(e1.1 aK).1;simp at ar;omega
 refine⟨u++[t],by rw[oY aK,J,qu];rfl,fun k ab=>?_⟩;rcases(by omega:k<i∨k=i)with ar|rfl
 ·rw[amA (by omega)];exact U k ar
 ·exact bG u J
theorem qY.fin{l:List bI}(h:qY l l.length ())(aw:1≤l.length∧l.length≤8):iW l:=by obtain⟨u,J,U⟩:=h.ex;rw[mj]at J;have ar:=eB List.length J;rw[rj]at ar;exact⟨u,J,(Bh u).2 ⟨by omega,fun k ab=>U k (by omega)⟩⟩
theorem qY.prev{l:List bI}{i:Nat}(h:qY l i ())(hi:0<i)(zO:i≤l.length):∃s:T,l[i-1]? =some s.tm∧s.fit=true:=by
 obtain⟨u,J,U⟩:=h.ex;have aw:u.length=i:=by have ar:=eB List.length J;simp at ar;omega
 have hu:u[i-1]? =some u[i-1]:=bZ (by omega);have ba:(l.take i)[i-1]? =some (T.tm u[i-1]):=by rw[J,ri,hu];rfl
 rw[List.getElem?_take,if_pos (by omega)]at ba;have b4:=U (i-1) (by omega);simp only[sj,hu,cC]at b4;exact⟨_,ba,b4.1.1⟩
theorem iW.no{l:List bI}{i:Nat}{t:T}(aK:l[i]? =some t.tm)(bG:(t.fit&&t.gnd)=false):¬iW l:=fun⟨u,J,U⟩=>by subst J;rw[ri]at aK;obtain⟨s,ag,e⟩:=gz.1 aK;rw[yT e]at ag;have:=HH U t (dK ag);rw[this.1,this.2]at bG;cases bG
theorem iW.no2{l:List bI}{i:Nat}{s t:T}(hi:0<i)(ag:l[i-1]? =some s.tm)(aK:l[i]? =some t.tm)(bG:¬dP s t<0):¬iW l:=fun⟨u,J,U⟩=>by
 subst J;rw[ri]at aK ag;obtain⟨ai,fi,e⟩:=gz.1 ag;obtain⟨dO,KA,fy⟩:=gz.1 aK;rw[yT e]at fi;rw[yT fy]at KA;have:=((Bh u).1 U).2 i (e1.1 KA).1;simp only[sj,KA,fi,cC,lX,dQ,e2]at this;rcases this.2 with h|h
 ·omega
 ·exact bG h
theorem iW.no3{l:List bI}{t:bI}(aK:t∈l)(bG:t.fits=false):¬iW l:=fun⟨u,J,U⟩=>by subst J;obtain⟨s,ag,rfl⟩:=h5.1 aK;rw[bI.fits_T,(HH U s ag).1]at bG;cases bG
theorem iW.len{l:List bI}(h:iW l):1≤l.length∧l.length≤8:=by obtain⟨u,rfl,U⟩:=h;rw[rj];exact((Bh u).1 U).1
theorem qY.go{l:List bI}{i:Nat}(h:qY l i ()){t:T}(aK:l[i]? =some t.tm)(aL:(t.fit&&t.gnd)=true)(ax:∀s:T,0<i→l[i-1]? =some s.tm→dP s t<0):qY l (i+1) ():=
 h.step aK fun u hu=>by
  have zO:=(e1.1 aK).1;have aw:u.length=i:=by have ar:=eB List.length hu;simp at ar;omega
  have J:(u++[t])[i]? =some t:=by rw[←aw];simp
  simp only[sj,J,aL,Bool.true_and,lX,dQ];rcases Nat.eq_zero_or_pos i with bn|bn
  ·exact .inl bn
  ·right;have af:u[i-1]? =some u[i-1]:=bZ (by omega);rw[List.getElem?_append_left (by omega),af];have ba:(l.take i)[i-1]? =some (T.tm u[i-1]):=by rw[hu,ri,af];rfl
   rw[List.getElem?_take,if_pos (by omega)]at ba;exact gJ (ax _ bn ba)
theorem amN{t:T}(h:t.fit=true):bH ao 132 [t.e] (.bool t.gnd):=by
 have dp:=HL h;have aU:=XS t;generalize t.gnd=q at aU;cases q;all_goals refine bh o1 Rp U6 fun aO=>?_;unfold Iw
 all_goals simp
 all_goals(with_reducible repeat' first|refine aj ?_|refine aC dp ?_|refine aD dp ?_|refine aC aU ?_|refine aD aU ?_|simp)
 all_goals simp[bt,VJ,aX,aY,aW]
theorem amO{t:bI}(h:t.fits=false):bH ao 132 [enc t] (.bool false):=by have dp:=HK t;rw[h]at dp;refine bh o1 Rp U6 fun aO=>?_;unfold Iw;exact bY
theorem anI{t:bI}(h:t.fits=false):bH ao 99 [enc t] (.bool false):=by have dp:=Bl t;rw[h]at dp;refine bh iT Jr LQ fun aO=>?_;unfold EP;exact bY
open Classical in
theorem XK(l:List bI):bH ao 65 [.slice 4 .no (l.map enc)] (.bool (decide (iW l))):=by
 generalize bd:decide (iW l)=R;have ct:¬iW l→R=false:=fun h=>by rw[←bd,gI];exact h
 have fX:iW l→R=true:=fun h=>by rw[←bd,e2];exact h
 clear bd;by_cases g1:l.length<1
 ·rw[ct fun h=>by have:=h.len;omega];have ic:(l.length:Int)<1:=by omega
  refine bh o1 Jh LG fun aO=>?_;unfold ED;exact bY
 have ic:¬(l.length:Int)<1:=by omega
 by_cases g2:8<l.length
 ·rw[ct fun h=>by have:=h.len;omega];have qM:(8:Int)<(l.length:Int):=by omega
  refine bh o1 Jh LG fun aO=>?_;unfold ED;exact bY
 have qM:¬(8:Int)<(l.length:Int):=by omega
 refine bh o1 Jh LG fun aO=>?_;unfold ED;clear aO;simp;(with_reducible repeat' first|refine aj ?_|simp[ic,qM,g1,g2]);refine dw [0,13,14] (fun i (_:Unit)=>[(15,.int .i64 i)]) l.length (qY l) () bN ⟨[],by simp,fun k ab=>by omega⟩ (fun _ ae _=>?_) (fun i _ hi ae _=>?_)
 ·rw[fX (ae.fin (by omega))];clear ae ct fX;exact bY
 ·obtain⟨t,aK⟩:∃t,l[i]? =some t:=⟨_,bZ hi⟩;cases g:t.fits
  ·have ig:∀h,(l[i]'h)=t:=fun h=>by rw[bZ hi]at aK;exact eE aK
   have aU:=amO g;rw[ct (iW.no3 (dK aK) g)];clear ae aK ct fX;exact bY
  obtain⟨x,rfl,af⟩:=bI.fits_ex g;have ig:∀h,(l[i]'h)=x.tm:=fun h=>by rw[bZ hi]at aK;exact eE aK
  have aU:=amN af;cases g2:x.gnd
  ·rw[g2]at aU;rw[ct (iW.no aK (by rw[g2,Bool.and_false]))];clear ae aK ct fX;simp[hi,ig,jb];(with_reducible repeat' first|refine aj ?_|refine aC aU ?_|refine aD aU ?_|simp[hi,ig,jb]);all_goals simp[bt,Ma,aX,aY,aW]
  rw[g2]at aU;have dC:=ae.go aK (by rw[af,g2];rfl);rcases Nat.eq_zero_or_pos i with bn|bn
  ·subst bn;have ay:=dC fun s h=>absurd h (by omega);clear ae aK ct fX dC;simp[hi,ig,jb];(with_reducible repeat' first|refine aj ?_|refine aC aU ?_|refine aD aU ?_|simp[hi,ig,jb]);all_goals exact bK.rng () hi ay bN
  ·obtain⟨s,ag,_⟩:=ae.prev bn (by omega);have fJ:∀h,(l[i-1]'h)=s.tm:=fun h=>by rw[bZ h]at ag;exact eE ag
   have ak:((i:Int)-1).toNat=i-1:=by omega
   have aE:i-1<l.length:=by omega
   have bj:(0:Int)<i:=by omega
   have c2:(0:Int)≤(i:Int)-1:=by omega
   have bC:=yW s x;by_cases ax:dP s x<0
   ·have ay:=dC fun ai _ fi=>by rw[ag]at fi;rw[←yT (eE fi)];exact ax
    have fW:¬0≤dP s x:=by omega
    clear ae aK ct fX dC ag;generalize dP s x=c at bC ax fW;simp[hi,ig,jb];(with_reducible repeat' first|refine aj ?_|refine aC aU ?_|refine aD aU ?_|refine aC bC ?_|refine aD bC ?_|simp[hi,ig,jb,ak,aE,bj,c2,fJ,fW,bn]);all_goals exact bK.rng () hi ay bN
   ·rw[ct (iW.no2 bn ag aK ax)];have fW:0≤dP s x:=by omega
    clear ae aK ct fX dC ag;generalize dP s x=c at bC ax fW;simp[hi,ig,jb];(with_reducible repeat' first|refine aj ?_|refine aC aU ?_|refine aD aU ?_|refine aC bC ?_|refine aD bC ?_|simp[hi,ig,jb,ak,aE,bj,c2,fJ,fW,bn]);all_goals simp[bt,Ma,aX,aY,aW]
open Classical in
theorem X7(l:List bI):bH ao 57 [.slice 4 .no (l.map enc)] (.bool (decide (iW l))):=by
 generalize bd:decide (iW l)=R;have ct:¬iW l→R=false:=fun h=>by rw[←bd,gI];exact h
 have fX:iW l→R=true:=fun h=>by rw[←bd,e2];exact h
 clear bd;refine bh iT ac0 ajA fun aO=>?_;unfold Qi;have eX:l.length≤68719476736:=by simp[eu,ed,ep,lim]at aO;omega
 clear aO;simp;(with_reducible repeat' first|refine aj ?_|simp);refine dw [0,5,6] (fun i (_:Unit)=>[(7,.int .i64 i)]) l.length (qY l) () bN ⟨[],by simp,fun k ab=>by omega⟩ (fun _ ae _=>?_) (fun i _ hi ae _=>?_)
 ·have kF:=dq l.length 1 8;by_cases g:1≤l.length∧l.length≤8
  ·rw[fX (ae.fin g)];have eI:(1:Int)≤(l.length:Int)∧(l.length:Int)≤8:=by omega
   rw[gJ eI]at kF;clear ae ct fX g eI;exact bY
  ·rw[ct fun h=>g h.len];have eI:¬((1:Int)≤(l.length:Int)∧(l.length:Int)≤8):=by omega
   rw[iB eI]at kF;clear ae ct fX g eI;exact bY
 ·obtain⟨t,aK⟩:∃t,l[i]? =some t:=⟨_,bZ hi⟩;cases g:t.fits
  ·have ig:∀h,(l[i]'h)=t:=fun h=>by rw[bZ hi]at aK;exact eE aK
   have aU:=anI g;rw[ct (iW.no3 (dK aK) g)];clear ae aK ct fX;exact bY
  obtain⟨x,rfl,af⟩:=bI.fits_ex g;have ig:∀h,(l[i]'h)=x.tm:=fun h=>by rw[bZ hi]at aK;exact eE aK
  have aU:=anH af;cases g2:x.gnd
  ·rw[g2]at aU;rw[ct (iW.no aK (by rw[g2,Bool.and_false]))];clear ae aK ct fX;simp[hi,ig,jb];(with_reducible repeat' first|refine aj ?_|refine aC aU ?_|refine aD aU ?_|simp[hi,ig,jb]);all_goals simp[bt,Mm,aX,aY,aW]
  rw[g2]at aU;have dC:=ae.go aK (by rw[af,g2];rfl);rcases Nat.eq_zero_or_pos i with bn|bn
  ·subst bn;have ay:=dC fun s h=>absurd h (by omega);clear ae aK ct fX dC;simp[hi,ig,jb];(with_reducible repeat' first|refine aj ?_|refine aC aU ?_|refine aD aU ?_|simp[hi,ig,jb]);all_goals exact bK.rng () hi ay bN
  ·obtain⟨s,ag,_⟩:=ae.prev bn (by omega);have fJ:∀h,(l[i-1]'h)=s.tm:=fun h=>by rw[bZ h]at ag;exact eE ag
   have ak:((i:Int)-1).toNat=i-1:=by omega
   have aE:i-1<l.length:=by omega
   have bj:(0:Int)<i:=by omega
   have c2:(0:Int)≤(i:Int)-1:=by omega
   have bC:=D4 s x;by_cases ax:dP s x<0
   ·have ay:=dC fun ai _ fi=>by rw[ag]at fi;rw[←yT (eE fi)];exact ax
    have fW:¬0≤dP s x:=by omega
    clear ae aK ct fX dC ag;generalize dP s x=c at bC ax fW;simp[hi,ig,jb];(with_reducible repeat' first|refine aj ?_|refine aC aU ?_|refine aD aU ?_|refine aC bC ?_|refine aD bC ?_|simp[hi,ig,jb,ak,aE,bj,c2,fJ,fW,bn]);all_goals exact bK.rng () hi ay bN
   ·rw[ct (iW.no2 bn ag aK ax)];have fW:0≤dP s x:=by omega
    clear ae aK ct fX dC ag;generalize dP s x=c at bC ax fW;simp[hi,ig,jb];(with_reducible repeat' first|refine aj ?_|refine aC aU ?_|refine aD aU ?_|refine aC bC ?_|refine aD bC ?_|simp[hi,ig,jb,ak,aE,bj,c2,fJ,fW,bn]);all_goals simp[bt,Mm,aX,aY,aW]
theorem Zf(a b:Int):xp .quo false (.int .i64 a) (.int .i64 b)=some (b≠0,.int .i64 (pQ.wrap (a.tdiv b))):=rfl
theorem Zg(a b:Int):xp .rem false (.int .i64 a) (.int .i64 b)=some (b≠0,.int .i64 (a.tmod b)):=rfl
def agL(b n:Nat)(i out:Nat):Prop:=out≤512*b∧jP b (n-i) out=jP b n 1
theorem anp(b n:Nat)(ad:0<b∧b≤1000)(ay:n≤1000000):bH ao 59 [.int .i64 b,.int .i64 n,.int .i64 512] (.int .i64 (jP b n 1)):=by
 generalize bd:jP b n 1=R;refine bh iT adl ajT fun aO=>?_;unfold QB;clear aO;simp;(with_reducible repeat' first|refine aj ?_|simp);refine dw [0,1,2] (fun i (out:Nat)=>[(7,.int .i64 out),(8,.int .i64 i)]) n (agL b n) 1 bN ⟨by omega,by simp⟩ (fun out ae _=>?_) (fun i out hi ae _=>?_)
 ·obtain⟨J,U⟩:=ae;rw[Nat.sub_self]at U;simp only[jP]at U;have:out=R:=by rw[←bd,←U]
  subst this;simp;((with_reducible repeat' first|refine aj ?_|simp|((first|apply bP|apply bR|apply bQ)<;>intro h<;>try simp at h))<;>(try exact cm));all_goals simp[bt,Wq,aX,aY,aW]
 ·obtain⟨J,U⟩:=ae;have hc:jP b (n-i) out=if out≤512 then jP b (n-(i+1)) (out*b)else out:=by obtain⟨k,ab⟩:∃k,n-i=k+1:=⟨n-i-1,by omega⟩;rw[ab,show n-(i+1)=k by omega];rfl
  by_cases au:out≤512
  ·rw[if_pos au]at hc;have hmul:out*b≤512*b:=qv b au;have FG:512*b≤512000:=by omega
   have FH:0≤((out:Int)*b)∧(out:Int)*b≤512000:=by
    have J:((out*b:Nat):Int)≤512000:=by omega
    have U:(0:Int)≤((out*b:Nat):Int):=by omega
    rw[Int.natCast_mul]at J U;exact⟨U,J⟩
   have ur:(out:Int)≤512:=by omega
   simp[hi,au,ur];((with_reducible repeat' first|refine aj ?_|simp[hi,ur,au]|((first|apply bP|apply bR|apply bQ)<;>intro h<;>try simp at h))<;>(try exact cm));all_goals exact bK.rng (out*b) hi ⟨hmul,by rw[←U,hc]⟩ bN
  ·rw[if_neg au]at hc;have:out=R:=by rw[←bd,←U,hc]
   subst this;have ur:¬(out:Int)≤512:=by omega
   clear hc U bd;exact bY
def TI(u:List T)(k:Nat)(aV:List Int)(i:Nat)(x:Nat×List al):Prop:=(x.1≤k∧x.2.length=i)∧k3 u k aV=x.2++k3 u x.1 (aV.drop i)
theorem ano(u:List T)(hu:0<u.length∧u.length≤1000)(aV:List Int)(aF:aV.length≤1000000)(k:Nat)(ab:k≤1000000):bH ao 61 [.slice 1 .no (dA aV),.slice 4 .no (u.map T.e),.int .i64 k] (.slice 5 .no ((k3 u k aV).map al.e)):=by
 generalize bd:k3 u k aV=R;refine bh iT adk ajS fun aO=>?_;unfold QA;clear aO;simp;(with_reducible repeat' first|refine aj ?_|simp);refine ho (α:=Nat×List al) (fun i x=>⟨[(1,.slice 4 .no (u.map T.e)),(11,.slice 1 .no (dA aV)),(12,.int .i64 aV.length),(2,.int .i64 x.1),(7,.slice 5 (.own (.loc 0)) (x.2.map al.e)),(13,.int .i64 i)],[],[(.loc 0,⟨x.2.length,113,5,none⟩)],1,[]⟩) aV.length (TI u k aV) (k,[]) bN ⟨by simp,by simp⟩ (fun x ae _=>?_) (fun i x hi ae _=>?_)
 ·obtain⟨hD,acc⟩:=x;obtain⟨_,ae⟩:=ae;rw[sv,k3,List.append_nil]at ae;have:acc=R:=by rw[←bd,ae]
  subst this;simp;((with_reducible repeat' first|refine aj ?_|simp|((first|apply bP|apply bR|apply bQ)<;>intro h<;>try simp at h))<;>(try exact cm));simp[bt,Wp,aX,aY,aW]
 ·obtain⟨hD,acc⟩:=x;obtain⟨⟨gf,kh⟩,ae⟩:=ae;simp only at gf kh ae;obtain⟨v,jX⟩:∃v,aV[i]? =some v:=⟨_,bZ hi⟩;have wg:∀h,(dA aV)[i]'h= .int .i64 v:=fun h=>by simp only[dA,List.getElem_map];rw[bZ hi]at jX;simp at jX;rw[jX]
  have aQ:aV.drop i=v::aV.drop (i+1):=by rw[kP hi];rw[bZ hi]at jX;simp at jX;rw[jX]
  have hm:(hD:Int).tmod (u.length:Int)=((hD%u.length:Nat):Int):=by rw[Int.tmod_eq_emod_of_nonneg (by omega)];simp
  have bo:pQ.wrap ((hD:Int).tdiv (u.length:Int))=((hD/u.length:Nat):Int):=by
   have J:(hD:Int).tdiv (u.length:Int)=((hD/u.length:Nat):Int):=by rw[Int.tdiv_eq_ediv_of_nonneg (by omega)];simp
   have U:=Nat.div_le_self hD u.length;have ar:∀z:Nat,z≤hD→pQ.wrap (z:Int)=z:=fun z br=>oe _ (by omega);exact(eB pQ.wrap J).trans (ar _ U)
  have FQ:pQ.wrap ((hD:Int)/(u.length:Int))=((hD/u.length:Nat):Int):=by rw[←bo,Int.tdiv_eq_ediv_of_nonneg (by omega)]
  have ki:hD%u.length<u.length:=Nat.mod_lt _ hu.1;have uu:=Nat.div_le_self hD u.length;have CK:u≠[]:=fun h=>by rw[h]at hu;simp at hu
  obtain⟨x,af⟩:∃x,u[hD%u.length]? =some x:=⟨_,bZ ki⟩;have cD:∀h,(u[hD%u.length]'h)=x:=fun h=>by rw[bZ h]at af;exact eE af
  have ay:TI u k aV (i+1) (hD/u.length,acc++[⟨v,x⟩]):=⟨⟨by simp only;omega,by simp[kh]⟩,by rw[ae,aQ,k3,List.append_assoc];simp[List.getD,af]⟩
  clear ae aQ af jX bd;generalize hD%u.length=w at hm ki cD;generalize hD/u.length=z at bo FQ uu ay;simp[hi,wg];((with_reducible repeat' first|refine aj ?_|simp[hi,wg,Zg,Zf,hm,bo,FQ,ki,cD,CK]|((first|apply bP|apply bR|apply bQ)<;>intro h<;>try simp at h))<;>(try exact cm));all_goals refine bK.rng (z,acc++[⟨v,x⟩]) hi ay ?_
  all_goals exact⟨by simp[fresh,aH,aB,b9,inObs,Pv.look,nW,n4],dZ (by simp[fresh,aH,aB,b9,inObs,Pv.look,nW,n4]),ea (by simp[fresh,aH,aB,dN,inObs,Pv.look,nW,n4]),by simp⟩
open Classical in
theorem anx{s:dS}(ag:vk s){v:List al}(aF:o2 s.n v):bH ao 100 [s.e,.slice 5 .no (v.map al.e)] (.bool (decide (n2 s v))):=by
 generalize bd:decide (n2 s v)=R;have ju:v.length≤1000000:=by have:=aF.fits.1;omega
 have ld:=kK.fit aF.ok aF.fits;obtain⟨n,tv,q4,tw,sm⟩:=s;have ct:¬n2 ⟨n,tv,q4,tw,sm⟩ v→R=false:=fun h=>by rw[←bd,gI];exact h
 have fX:n2 ⟨n,tv,q4,tw,sm⟩ v→R=true:=fun h=>by rw[←bd,e2];exact h
 clear bd;have lg:=ag.b;have fb:=lg.len;have cL:=ag.bb;have jW:=ag.d;have qS:=ag.k;have p2:=ag.kb;have pB:=ag.mb;have vY:=ag.m;have hK:=td qS;simp only at lg fb cL jW qS p2 pB vY hK aF;clear ag;simp only[dS.e];refine bh iT ads aj0 fun aO=>?_;unfold QI;have uu:q4.length≤68719476736:=by simp[eu,ed,ep,lim]at aO;omega
 have ki:sm.length≤68719476736:=by simp[eu,ed,ep,lim]at aO;omega
 clear aO;simp;(with_reducible repeat' first|refine aj ?_|simp);refine dw [1,2,22,23] (fun i (_:Unit)=>[(24,.int .i64 i)]) tv.length (kD (pJ v) tv) () bN (fun k b ab=>by omega) (fun _ ae _=>?_) (fun i _ hi ae _=>?_);rotate_left
 ·obtain⟨b,ad,cA⟩:=dT hi;have gv:=dK ad;obtain⟨c,au,a7,lK⟩:=aF.get (lg.ok b (dK ad)).1.1 (cL b (dK ad)).1;have aU:=rf v b.v ju;rw[a7]at aU;simp only[ka,pT]at aU;have bC:=D6 v ju b.t;have cf:=HO c.t (b.t.ap (bV v));have cw:pJ v b=(decide ((b.t.ap (bV v)).size≤5000)&&decide (c.t=b.t.ap (bV v))):=by rw[pJ,lK];congr 1;exact decide_eq_decide.2 eq_comm
  have eV:pJ v b=false→R=false:=fun h=>ct fun cb=>by have:=gn.1 cb.b b gv;rw[h]at this;cases this
  have dC:=fun h:pJ v b=true=>ae.step ad h;clear ae ad gv ct fX aF ld a7 au lK;generalize pJ v b=H at cw eV dC;by_cases br:(b.t.ap (bV v)).size≤5000
  ·rw[gJ br]at bC;rw[gJ br,Bool.true_and]at cw;generalize b.t.ap (bV v)=y at bC cf cw;generalize decide (c.t=y)=q at cf cw;cases q
   ·rw[eV cw];exact bY
   ·have ay:=dC cw;exact gg
  ·rw[iB br]at bC;rw[iB br,Bool.false_and]at cw;rw[eV cw];generalize b.t.ap (bV v)=y at bC;clear cf;exact bY
 have jD:tv.all (pJ v)=true:=gn.2 ae.fin;clear ae;simp;(with_reducible repeat' first|refine aj ?_|simp);refine dw [1,2,52,53] (fun i (_:Unit)=>[(54,.int .i64 i)]) q4.length (kD (la v) q4) () bN (fun k b ab=>by omega) (fun _ ae _=>?_) (fun i _ hi ae _=>?_);rotate_left
 ·obtain⟨b,ad,cA⟩:=dT hi;have gv:=dK ad;have aU:bH ao 173 [cO b,.slice 5 .no (v.map al.e)] (.bool (la v b)):=anG aF.ok aF.fits aF.asc (jW b gv);have eV:la v b=false→R=false:=fun h=>ct fun cb=>by have:=gn.1 cb.d b gv;rw[h]at this;cases this
  have dC:=fun h:la v b=true=>ae.step ad h;clear ae ad gv ct fX aF ld;generalize la v b=q at aU eV dC;cases q
  ·rw[eV rfl];exact bY
  ·have ay:=dC rfl;exact gg
 have um:q4.all (la v)=true:=gn.2 ae.fin;clear ae;simp;(with_reducible repeat' first|refine aj ?_|simp);refine dw [1,2,64,65] (fun i (_:Unit)=>[(66,.int .i64 i)]) tw.length (kD (fun k=>decide ((bV v k.v).kind=k.k)) tw) () bN (fun k b ab=>by omega) (fun _ ae _=>?_) (fun i _ hi ae _=>?_);rotate_left
 ·obtain⟨b,ad,cA⟩:=dT hi;have gv:=dK ad;obtain⟨c,au,a7,lK⟩:=aF.get (qS.at' b (dK ad)).1.1 (p2 b (dK ad));have aU:=rf v b.v ju;rw[a7]at aU;simp only[ka,pT]at aU;by_cases g:c.t.kind=b.k
  ·have ay:=ae.step ad (by rw[lK];exact gJ g);clear ae ad gv ct fX aF ld a7 au lK;exact gg
  ·rw[ct fun cb=>by have:=gn.1 cb.k b gv;rw[lK]at this;exact g (of_decide_eq_true this)]
   clear ae ad gv ct fX aF ld a7 au lK;simp[hi,cA];((with_reducible repeat' first|refine aj ?_|refine aC aU ?_|refine aD aU ?_|simp[cA,hi,g]|((first|apply bP|apply bR|apply bQ)<;>intro h<;>try simp at h))<;>(try exact cm));all_goals simp[bt,Wr,aX,aY,aW]
 have c3:tw.all (fun k=>decide ((bV v k.v).kind=k.k))=true:=gn.2 ae.fin;clear ae;simp;(with_reducible repeat' first|refine aj ?_|simp);refine dw [1,84,85] (fun i (_:Unit)=>[(86,.int .i64 i)]) sm.length (kD (fun m=> !(bV v m.v).has m.s) sm) () bN (fun k b ab=>by omega) (fun _ ae _=>?_) (fun i _ hi ae _=>?_);rotate_left
 ·obtain⟨b,ad,cA⟩:=dT hi;have gv:=dK ad;obtain⟨c,au,a7,lK⟩:=aF.get (vY.at' b (dK ad)).1.1 (pB b (dK ad));have aU:=rf v b.v ju;rw[a7]at aU;simp only[ka,pT]at aU;have bC:=anD (ld c (dK au)) b.s;cases g:c.t.has b.s
  ·rw[g]at bC;have ay:=ae.step ad (by rw[lK,g];rfl);clear ae ad gv ct fX aF ld a7 au lK;exact gg
  ·rw[g]at bC;rw[ct fun cb=>by have:=gn.1 cb.m b gv;rw[lK,g]at this;cases this]
   clear ae ad gv ct fX aF ld a7 au lK;exact bY
 rw[fX ⟨jD,um,c3,gn.2 ae.fin⟩];clear ae;exact bY
open Classical in
noncomputable def BJ(s:dS)(u:List T):Int:=if s.n≤400∧jP u.length s.n.toNat 1≤512 then((hX u (je s.n.toNat) [[]]).countP fun v=>decide (n2 s v):Nat)else-1
theorem uL:dA (je 0)=[]:=rfl
theorem uK(i:Nat):dA (je (i+1))=dA (je i)++[.int .i64 i]:=by simp[je,dA,List.range_succ]
theorem agC{s:dS}{v:List al}(h:o2 s.n v):F6 s (v.map al.b)↔n2 s v:=by
 constructor
 ·rintro⟨w,e,_,U⟩;rw[rq e];exact U
 ·intro U;exact⟨v,rfl,h,U⟩
open Classical in
theorem amK(r:hO)(fB:il r.m→pM r.m)(l:List bI)(h:¬oU r∨¬iW l):bH ao 41 [r.e,.slice 4 .no (l.map enc)] (.int .i64 (-1)):=by
 have c4:=XJ r fB;have nr:=XK l;by_cases g:oU r
 ·have g2:¬iW l:=h.resolve_left (fun cb=>cb g);rw[gJ g]at c4;rw[iB g2]at nr;clear h g g2 fB;obtain⟨n,b,d,k,m⟩:=r;simp only[hO.e]at c4⊢;refine bh iT BO Dk fun aO=>?_;unfold ze;exact bY
 ·rw[iB g]at c4;clear h g fB;obtain⟨n,b,d,k,m⟩:=r;simp only[hO.e]at c4⊢;refine bh iT BO Dk fun aO=>?_;unfold ze;exact bY
open Classical in
theorem anF(r:hO)(fB:il r.m→pM r.m)(l:List bI)(h:¬oU r∨¬iW l):bH ao 40 [r.e,.slice 4 .no (l.map enc)] (.int .i64 (-1)):=by
 have c4:=X6 r fB;have nr:=X7 l;by_cases g:oU r
 ·have g2:¬iW l:=h.resolve_left (fun cb=>cb g);rw[gJ g]at c4;rw[iB g2]at nr;clear h g g2 fB;obtain⟨n,b,d,k,m⟩:=r;simp only[hO.e]at c4⊢;refine bh iT BR Dn fun aO=>?_;unfold zh;exact bY
 ·rw[iB g]at c4;clear h g fB;obtain⟨n,b,d,k,m⟩:=r;simp only[hO.e]at c4⊢;refine bh iT BR Dn fun aO=>?_;unfold zh;exact bY
open Classical in
theorem amJ{s:dS}(ag:Hz s)(hm:pM s.m){u:List T}(hu:Bg u=true):bH ao 41 [s.e,.slice 4 .no (u.map T.e)] (.int .i64 (BJ s u)):=by
 have c4:=XJ s.r fun _=>hm;rw[gJ ⟨s,rfl,ag⟩,HB]at c4;have nr:=XK (u.map T.tm);rw[gJ ⟨u,rfl,hu⟩,E7]at nr;have p6:=((Bh u).1 hu).1;have CL:=HH hu;obtain⟨n,ay⟩:∃n:Nat,s.n=n:=⟨s.n.toNat,by have:=ag.1.n.1;omega⟩;have nk:=ag.1.n.2;have CH:=fun Kg v J U=>o2.of (n:=n) Kg CL (r:=v) J U;have fO:=anB u.length n (by omega) (by omega);rw[akb]at fO;have kF:=fun v=>anb ag.1 (List.map al.b v);have vM:∀v,o2 s.n v→decide (F6 s (List.map al.b v))=decide (n2 s v):=fun v h=>decide_eq_decide.2 (agC h);unfold BJ;rw[ay]at nk vM⊢;rw[Int.toNat_natCast];have x1:n≤100000:=by omega
 clear nk ag hm hu;generalize bG:(fun v=>decide (n2 s v))=p;have vZ:∀v,decide (n2 s v)=p v:=fun v=>by rw[←bG]
 clear bG;obtain⟨wW,b,d,k,m⟩:=s;simp only at ay;subst ay;simp only[dS.e]at c4 kF⊢;by_cases g1:n≤400;rotate_left
 ·rw[if_neg fun h=>g1 (by omega)];have ic:(400:Int)<n:=by omega
  clear kF vM vZ fO;refine bh iT BO Dk fun aO=>?_;unfold ze;clear aO;exact bY
 have ic:¬(400:Int)<n:=by omega
 by_cases g2:jP u.length n 1≤512;rotate_left
 ·rw[if_neg fun h=>g2 h.2];rw[show min (jP u.length n 1) 513=513 by omega]at fO;clear kF vM vZ g2;refine bh iT BO Dk fun aO=>?_;unfold ze;clear aO;exact bY
 rw[if_pos ⟨by omega,g2⟩];rw[show min (jP u.length n 1) 513=jP u.length n 1 by omega]at fO;have hw:=NJ (by omega) n 1 g2;rw[Nat.one_mul]at hw;have fC:=amZ (je n) u (by omega) (by rw[kY];omega) (by rw[kY,←hw];omega) fun i rows h r aJ=>jT (Zb (by omega) h aJ) (by rw[kY];omega);have JQ:(hX u (je n) [[]]).length≤512:=by rw[Om,kY,←hw];simpa using g2
 have JR:∀v∈hX u (je n) [[]],o2 (n:Int) v:=fun v aF=>by obtain⟨q,bo,w,rfl,U,ar⟩:=Im u (je n) [[]] v aF;rw[List.mem_singleton.1 bo,b2];exact CH g1 w U ar
 generalize hX u (je n) [[]]=A at fC JQ JR⊢;clear hw CH CL;generalize jP u.length n 1=w at fO g2;have qM:¬(512:Int)<w:=by omega
 generalize bd:A.countP p=R;refine bh iT BO Dk fun aO=>?_;unfold ze;clear aO;simp;(with_reducible repeat' first|refine aj ?_|refine aC c4 ?_|refine aD c4 ?_|refine aC nr ?_|refine aD nr ?_|refine aC fO ?_|refine aD fO ?_|simp[ic,qM]);refine ho (fun i (_:Unit)=>⟨[(1,.slice 4 .no (u.map T.e)),(2,.ptr (.loc 0) 0),(5,.slice 1 (.own (.loc 1)) (dA (je i))),(6,.int .i64 i)],[(.loc 0,[.int .i64 n,.slice 5 .no (b.map al.e),.slice 1 .no (d.map cO),.slice 2 .no (k.map bM.e),.slice 2 .no (m.map bm.e)])],[(.loc 1,⟨i,3,1,none⟩)],2,[]⟩) n (fun _ _=>True) () ⟨by simp[fresh,aH,aB,b9,inObs,Pv.look,uL],dZ (by simp[fresh,aH,aB,b9,inObs,Pv.look,uL]),ea (by simp[fresh,aH,aB,dN,inObs,Pv.look,uL]),by simp⟩ trivial (fun _ _ _=>?_) (fun i _ hi _ _=>?_);rotate_left
 ·have J:=kY i;have ie:(i:Int)<n:=by omega
  simp[hi,ie];(with_reducible repeat' first|refine aj ?_|simp[hi,ie,qW,kY]);all_goals first|(refine⟨by unfold lim;omega,?_⟩)|skip
  all_goals(with_reducible repeat' first|refine aj ?_|simp)
  all_goals refine bK.rng () hi trivial ?_
  all_goals exact⟨by simp[fresh,aH,aB,b9,inObs,Pv.look,uK,qW,kY,nW,n4],dZ (by simp[fresh,aH,aB,b9,inObs,Pv.look,uK,qW,kY,nW,n4]),ea (by simp[fresh,aH,aB,dN,inObs,Pv.look,uK,qW,kY,nW,n4]),by simp⟩
 simp;(with_reducible repeat' first|refine aj ?_|refine aC fC ?_|refine aD fC ?_|simp);refine dw [2,44,45] (fun i (c:Nat)=>[(7,.int .i64 c),(46,.int .i64 i)]) A.length (fun i c=>c≤i∧c=(A.take i).countP p) 0 bN ⟨by omega,by simp⟩ (fun c ae _=>?_) (fun i c hi ae _=>?_)
 ·rw[mj,bd]at ae;obtain⟨_,rfl⟩:=ae;clear kF vM fC c4 nr fO;exact bY
 ·obtain⟨v,aF,jX⟩:=dT hi;have aU:=kF v;rw[vM v (JR v (dK aF)),vZ,r1,show ah.slice 5 .no (v.map al.e)=j3 v from rfl]at aU;have au:=aae p A aF;obtain⟨dU,ky⟩:=ae;rw[←ky]at au;clear kF vM fC c4 nr fO aF JR bd;cases bo:p v
  ·rw[bo]at aU au;have ay:c≤i+1∧c=(A.take (i+1)).countP p:=⟨by omega,by rw[au];simp⟩;simp[hi,jX];((with_reducible repeat' first|refine aj ?_|refine aC aU ?_|refine aD aU ?_|simp[hi,jX]|((first|apply bP|apply bR|apply bQ)<;>intro h<;>try simp at h))<;>(try exact cm));all_goals exact bK.rng c hi ay bN
  ·rw[bo]at aU au;have ay:c+1≤i+1∧c+1=(A.take (i+1)).countP p:=⟨by omega,by rw[au];simp⟩;simp[hi,jX];((with_reducible repeat' first|refine aj ?_|refine aC aU ?_|refine aD aU ?_|simp[hi,jX]|((first|apply bP|apply bR|apply bQ)<;>intro h<;>try simp at h))<;>(try exact cm));all_goals exact bK.rng (c+1) hi ay bN
open Classical in
theorem anE{s:dS}(ag:Hz s)(hm:pM s.m){u:List T}(hu:Bg u=true):bH ao 40 [s.e,.slice 4 .no (u.map T.e)] (.int .i64 (BJ s u)):=by
 have c4:=X6 s.r fun _=>hm;rw[gJ ⟨s,rfl,ag⟩,HB]at c4;have nr:=X7 (u.map T.tm);rw[gJ ⟨u,rfl,hu⟩,E7]at nr;have p6:=((Bh u).1 hu).1;have CL:=HH hu;obtain⟨n,ay⟩:∃n:Nat,s.n=n:=⟨s.n.toNat,by have:=ag.1.n.1;omega⟩;have nk:=ag.1.n.2;have CH:=fun Kg v J U=>o2.of (n:=n) Kg CL (r:=v) J U;have fO:=anp u.length n (by omega) (by omega);have kF:=fun v h=>anx ag.1 (v:=v) h;unfold BJ;rw[ay]at nk kF⊢;rw[Int.toNat_natCast];have x1:n≤100000:=by omega
 clear nk ag hm hu;generalize bG:(fun v=>decide (n2 s v))=p;have vZ:∀v,decide (n2 s v)=p v:=fun v=>by rw[←bG]
 simp only[vZ]at kF;clear bG vZ;obtain⟨wW,b,d,k,m⟩:=s;simp only at ay;subst ay;simp only[dS.e]at c4 kF⊢;by_cases g1:n≤400;rotate_left
 ·rw[if_neg fun h=>g1 (by omega)];have ic:(400:Int)<n:=by omega
  clear kF fO;refine bh iT BR Dn fun aO=>?_;unfold zh;clear aO;exact bY
 have ic:¬(400:Int)<n:=by omega
 by_cases g2:jP u.length n 1≤512;rotate_left
 ·rw[if_neg fun h=>g2 h.2];generalize jP u.length n 1=w at fO g2;have qM:(512:Int)<w:=by omega
  clear kF;refine bh iT BR Dn fun aO=>?_;unfold zh;clear aO;simp;(with_reducible repeat' first|refine aj ?_|refine aC c4 ?_|refine aD c4 ?_|refine aC nr ?_|refine aD nr ?_|simp[ic]);refine ho (fun i (_:Unit)=>⟨[(1,.slice 4 .no (u.map T.e)),(2,.ptr (.loc 0) 0),(5,.slice 1 (.own (.loc 1)) (dA (je i))),(6,.int .i64 i)],[(.loc 0,[.int .i64 n,.slice 5 .no (b.map al.e),.slice 1 .no (d.map cO),.slice 2 .no (k.map bM.e),.slice 2 .no (m.map bm.e)])],[(.loc 1,⟨i,3,1,none⟩)],2,[]⟩) n (fun _ _=>True) () ⟨by simp[fresh,aH,aB,b9,inObs,Pv.look,uL],dZ (by simp[fresh,aH,aB,b9,inObs,Pv.look,uL]),ea (by simp[fresh,aH,aB,dN,inObs,Pv.look,uL]),by simp⟩ trivial (fun _ _ _=>?_) (fun i _ hi _ _=>?_);rotate_left
  ·have J:=kY i;have ie:(i:Int)<n:=by omega
   simp[hi,ie];(with_reducible repeat' first|refine aj ?_|simp[hi,ie,qW,kY]);all_goals first|(refine⟨by unfold lim;omega,?_⟩)|skip
   all_goals(with_reducible repeat' first|refine aj ?_|simp)
   all_goals refine bK.rng () hi trivial ?_
   all_goals exact⟨by simp[fresh,aH,aB,b9,inObs,Pv.look,uK,qW,kY,nW,n4],dZ (by simp[fresh,aH,aB,b9,inObs,Pv.look,uK,qW,kY,nW,n4]),ea (by simp[fresh,aH,aB,dN,inObs,Pv.look,uK,qW,kY,nW,n4]),by simp⟩
  exact bY
 rw[if_pos ⟨by omega,g2⟩];have hw:=NJ (by omega) n 1 g2;rw[Nat.one_mul]at hw;have Cf:=Oj u (by omega) (je n) p;rw[kY,←hw]at Cf;have gw:=fun i hi=>ano u (by omega) (je n) (by rw[kY];omega) i hi;have jq:∀i,o2 (n:Int) (k3 u i (je n)):=fun i=>by obtain⟨J,U⟩:=Yd u (by omega) i (je n);exact CH g1 _ J U
 generalize (hX u (je n) [[]]).countP p=R at Cf⊢;clear hw CH CL;generalize jP u.length n 1=w at fO g2 Cf;have qM:¬(512:Int)<w:=by omega
 refine bh iT BR Dn fun aO=>?_;unfold zh;clear aO;simp;(with_reducible repeat' first|refine aj ?_|refine aC c4 ?_|refine aD c4 ?_|refine aC nr ?_|refine aD nr ?_|simp[ic]);refine ho (fun i (_:Unit)=>⟨[(1,.slice 4 .no (u.map T.e)),(2,.ptr (.loc 0) 0),(5,.slice 1 (.own (.loc 1)) (dA (je i))),(6,.int .i64 i)],[(.loc 0,[.int .i64 n,.slice 5 .no (b.map al.e),.slice 1 .no (d.map cO),.slice 2 .no (k.map bM.e),.slice 2 .no (m.map bm.e)])],[(.loc 1,⟨i,3,1,none⟩)],2,[]⟩) n (fun _ _=>True) () ⟨by simp[fresh,aH,aB,b9,inObs,Pv.look,uL],dZ (by simp[fresh,aH,aB,b9,inObs,Pv.look,uL]),ea (by simp[fresh,aH,aB,dN,inObs,Pv.look,uL]),by simp⟩ trivial (fun _ _ _=>?_) (fun i _ hi _ _=>?_);rotate_left
 ·have J:=kY i;have ie:(i:Int)<n:=by omega
  simp[hi,ie];(with_reducible repeat' first|refine aj ?_|simp[hi,ie,qW,kY]);all_goals first|(refine⟨by unfold lim;omega,?_⟩)|skip
  all_goals(with_reducible repeat' first|refine aj ?_|simp)
  all_goals refine bK.rng () hi trivial ?_
  all_goals exact⟨by simp[fresh,aH,aB,b9,inObs,Pv.look,uK,qW,kY,nW,n4],dZ (by simp[fresh,aH,aB,b9,inObs,Pv.look,uK,qW,kY,nW,n4]),ea (by simp[fresh,aH,aB,dN,inObs,Pv.look,uK,qW,kY,nW,n4]),by simp⟩
 simp;(with_reducible repeat' first|refine aj ?_|refine aC fO ?_|refine aD fO ?_|simp[qM]);refine dw [1,2,5,7] (fun i (c:Nat)=>[(8,.int .i64 c),(9,.int .i64 i)]) w (fun i c=>c≤i∧c=xw (fun k=>p (k3 u k (je n))) i) 0 bN ⟨by omega,rfl⟩ (fun c ae _=>?_) (fun i c hi ae _=>?_)
 ·rw[←Cf]at ae;obtain⟨_,rfl⟩:=ae;clear kF gw c4 nr fO;exact bY
 ·have aU:=gw i (by omega);have bC:=kF _ (jq i);obtain⟨dU,ky⟩:=ae;have au:xw (fun k=>p (k3 u k (je n))) (i+1)=c+(p (k3 u i (je n))).toNat:=by rw[ky];rfl
  generalize k3 u i (je n)=v at aU bC au;have ie:(i:Int)<w:=by omega
  clear kF gw c4 nr fO jq Cf ky;generalize p v=q at bC au;cases q
  ·have ay:c≤i+1∧c=xw (fun k=>p (k3 u k (je n))) (i+1):=⟨by omega,by rw[au];simp⟩;simp[hi,ie];((with_reducible repeat' first|refine aj ?_|refine aC aU ?_|refine aD aU ?_|refine aC bC ?_|refine aD bC ?_|simp[hi,ie]|((first|apply bP|apply bR|apply bQ)<;>intro h<;>try simp at h))<;>(try exact cm));all_goals exact bK.rng c hi ay bN
  ·have ay:c+1≤i+1∧c+1=xw (fun k=>p (k3 u k (je n))) (i+1):=⟨by omega,by rw[au];simp⟩;exact gg
def pN(a:cN ck):ah:=a.e 4 ck.e
@[simp] theorem aq3(S:aI→Prop)(d:cN ck):aB S (pN d)=True:=by cases d<;>simp[pN,cN.e,aB]
@[simp] theorem atA(d:cN ck):dm (pN d)=pN d:=by
 cases d with
 |l l=>
  have:∀l:List ck,cR (l.map ck.e)=l.map ck.e:=by
   intro l;induction l with
   |nil=>rfl
   |cons x l bO=>simp[cR,bO]
  simp[pN,cN.e,dm,this]
 |b=>simp[pN,cN.e,dm]
@[simp] theorem ate(d:cN ck):ec (pN d)=true:=by cases d<;>rfl
@[simp] theorem apa(d:cN ck):cells (pN d)=[pN d]:=by cases d<;>rfl
theorem amx(l:List bI):pN (.l (l.map vo))= .slice 4 .no (l.map enc):=by simp only[pN,cN.e,List.map_map];congr 1;exact List.map_congr_left fun t _=>Ng t
def yS(a:cN ck)(m:Int):Int:=gE hM a m
theorem amr(a:cN ck)(m:Int)(h:0≤m): -1≤yS a m∧yS a m≤m:=tz vm a m h
theorem anW(a:cN ck)(hw:a.wf fun t=>t.wf)(m:Int)(bn:0≤m)(J:m≤1048576):bH ao 16 [pN a,.int .i64 m] (.int .i64 (yS a m)):=Nx a (fun p n c e=>by subst e;exact hw) (fun xs e x af m bn J=>by subst e;exact X9 x (hw x af) m bn J) m bn J
theorem an5(l:List bI):bH ao 19 [.slice 4 .no (l.map enc)] (.slice 4 .no (l.map enc)):=Yc l fun x _=>Yb x
theorem am6(l:List bI):bH ao 21 [.slice 4 .no (l.map enc),.slice 4 .no (l.map enc)] (.bool true):=XP l fun x _=>XO x
theorem Zo(r:hO)(fB:il r.m→pM r.m)(l:List bI):∃q:Int,bH ao 40 [r.e,.slice 4 .no (l.map enc)] (.int .i64 q)∧bH ao 41 [r.e,.slice 4 .no (l.map enc)] (.int .i64 q):=by
 by_cases g:¬oU r∨¬iW l
 ·exact⟨-1,anF r fB l g,amK r fB l g⟩
 ·have g1:oU r:=Classical.byContradiction fun h=>g (.inl h);have g2:iW l:=Classical.byContradiction fun h=>g (.inr h);obtain⟨s,rfl,ag⟩:=g1;obtain⟨u,rfl,hu⟩:=g2;have hm:pM s.m:=fB ag.1.m;refine⟨BJ s u,?_,?_⟩
  ·rw[HB,E7];exact anE ag hm hu
  ·rw[HB,E7];exact amJ ag hm hu
theorem amM(r:oq)(hw:r.wf)(a:cN ck)(bz:a.wf fun t=>t.wf):bH ao 8 [r.e,pN a] (.bool true):=by
 have aU:=anV r hw 1048576 (by omega) (by omega);have bo:=amp r 1048576 (by omega);by_cases g:tB r 1048576<0
 ·generalize tB r 1048576=q at aU g;clear hw bo;obtain⟨n,b5,d,k,l⟩:=r;simp only[oq.e]at aU⊢;refine bh iT Jo LN fun aO=>?_;unfold EK;exact bY
 obtain⟨r,rfl,fB⟩:=amq hw (by omega);clear hw;rw[amc]at aU⊢;generalize tB r.h 1048576=a8 at aU g bo;have bC:=anW a bz a8 (by omega) (by omega);have jI:=amr a a8 (by omega);by_cases g2:yS a a8<0
 ·generalize yS a a8=bF at bC g2;clear bo jI fB;obtain⟨n,b5,d,k,l⟩:=r;simp only[hO.e]at aU⊢;refine bh iT Jo LN fun aO=>?_;unfold EK;exact bY
 obtain⟨a,rfl⟩:=HC vm (P:=fun t=>t.wf) (fun x m bG J bn h=>Na x m bG J bn h) a a8 bz (by omega) (by omega) (show 0≤gE hM a a8 by unfold yS at g2;omega);rw[amx]at bC⊢;generalize yS (.l (a.map vo)) a8=bF at bC g2;have t1:=an4 r;have t2:=an5 a;obtain⟨Q,s1,i1⟩:=Zo r fB a;have ak:=am5 r;have aE:=am6 a;clear bz bo jI fB;obtain⟨n,b5,d,k,m⟩:=r;simp only[hO.e]at aU t1 s1 i1 ak⊢;refine bh iT Jo LN fun aO=>?_;unfold EK;have Uk:=t1;exact bY
end Go.Proofs.YtahlgcidhnjlbaaGreat
namespace Go.Proofs.YtahlgcidhnjlbaaGreat
open Go Go.Pv Go.ChangeShapes Go.WideShapes Go.ChangeAt Go.RowKit Go.Deep
theorem amt{H:Type}{enc:fZ×Value→H}{W:World}{spare:Nat→Bool}{held:Bool}{v:Value}{x:DataW H×List MemPlace}{fuel:Nat}(h:iX enc ao W 0 spare held fuel 22 [v]=some x):∃d:cN ck,d.wf (fun t=>t.wf)∧bc W (qJ W) (pN d) v:=by
 obtain⟨l,nE,u,e,aJ⟩:=A9 ck.e ck.wf Tryz.underlying22 EY (by omega) (fun n' cs' Ed ay cb=>by obtain⟨t,t1,t2⟩:=Xs _ _ _ cb;exact⟨t,t1,by rw[ck.e_eq];exact AZ t2⟩) h
 cases e;exact⟨l,nE,aJ.1⟩
end Go.Proofs.YtahlgcidhnjlbaaGreat
