/- From a contract to the row. -/
import Derived.Test.YtahlgcidhnjlbaaGreatProg
import Derived.ProofKit
import Derived.Carry
import Derived.WalkKit
import Derived.Test.YtahlgcidhnjlbaaGreatZ4
set_option linter.all false
set_option maxHeartbeats 4000000
open Bool renaming and_eq_true→cA,eq_iff_iff→pH,false_eq_true→gI,or_eq_true→mf
open Go renaming TypeId→fT
open Go.DataW renaming trod→iQ
open Go.IntWalk renaming i64_in→oc
open Go.Op renaming bytesLess→hf
open Go.Proofs.Tryz renaming prog→ao
open Go.Value renaming cells→oU
open List renaming all_eq_true→ja,cons_append→bN,drop→mR,drop_eq_getElem_cons→kQ,getElem?_eq_getElem→ca,getElem?_eq_none→pJ,getElem?_eq_some_iff→fH,getElem_of_mem→mS,length_cons→pK,length_drop→rC,map_cons→gX,mem_append→ki,mem_cons→fU,mem_filter→mT,mem_map→iC,mem_of_getElem?→eP,nil_append→bT,pairwise_cons→mg,pairwise_iff_getElem→oX,take→ll,take_length→oY,take_of_length_le→hq
open List.Pairwise renaming filter→VQ
open List.cons renaming injEq→pI
open Nat renaming le_refl→eQ,le_trans→jT
open Option renaming getD_none→mU,getD_some→kR,isSome_none→lK,isSome_some→rD
open Option.some renaming inj→fw,injEq→dz
open _root_ renaming False→eI,Option→aW,UInt8→dA,beq_iff_eq→dG,decide_eq_false→oe,decide_eq_false_iff_not→hx,decide_eq_true→nz,decide_eq_true_eq→fx
namespace Go.Proofs.YtahlgcidhnjlbaaGreat
open Go Go.Pv
def N1:C:=(aa [cP 1 0,bm 2 false] (aa [be 3 4 1,dE 4 123 [.t 3,(gi 5000)],aS 5 .leq 4 5000,I 6 5,ar 6 true (be 7 4 1),ar 6 true (c7 8 124 7),dH 9 6 8,I 2 9] .ret))
@[simp] def ah1:List bK:=[.tmp 2]
def x9:C:=(aa [cP 2 0,eO 4 1] (.seq (aa [aG 7 0 1 2,ax 8 1 7,aS 9 .eql 8 1] (aT 9 (aa [I 10 1,aG 11 1 1 2,ax 12 1 11,cl 13 126 10 12,I 4 13] .ret) .skip)) (.seq (aa [aG 14 3 1 2,ax 15 1 14,cn 16 15,bV 17 0] (fG 18 17 16 (.seq (.block 1 (aa [cv 19 4 15 17,be 20 4 19,dL 6 dX,b1 4 6 20] (.region [be 21 4 6,I 22 1,cl 23 58 21 22,I 1 23]))) (.region [aS 24 .add 17 1,I 17 24])))) (aa [I 25 1,I 4 25] .ret))))
@[simp] def zD:List bK:=[.tmp 4]
def Ob:C:=(aa [cP 3 1,dL 4 dX,bm 5 false] (aa [I 7 0,be 8 4 3,cl 9 127 7 8,dL 6 dX,b1 4 6 9] (.seq (.drawn true 13 [be 10 4 6,be 11 4 6,c7 12 128 11,b1 4 4 10,I 5 12]) .ret)))
@[simp] def TY:List bK:=[.cell 4 true 4,.tmp 5]
def N2:C:=(aa [bm 6 false] (aa [I 7 0,I 8 1,bk 9 .geq 7 8,I 10 9,b3 10 true 11 0,b3 10 true 12 2,ar 10 true (bk 13 .leq 11 12),dH 14 10 13,I 6 14] .ret))
@[simp] def TT:List bK:=[.tmp 6]
def G5:C:=(aa [bm 2 false] (.seq (aa [I 9 0,c7 10 145 9,cB 11 10] (aT 11 (aa [bm 2 false] .ret) .skip)) (.seq (aa [I 12 0,cn 13 12,bV 14 0] (fG 15 14 13 (.seq (.block 1 (aa [cv 16 5 12 14,be 17 5 16,dL 4 jO,b1 5 4 17] (.seq (aa [hG 18 1 4 4,aG 19 0 1 18,ax 20 1 19,aS 21 .eql 20 1,I 22 21,ar 22 true (hG 23 1 4 4),ar 22 true (aG 24 1 1 23),ar 22 true (ax 25 1 24),ar 22 true (aG 26 0 1 4),ar 22 true (ax 27 1 26),ar 22 true (bk 28 .geq 25 27),dH 29 22 28] (aT 29 (aa [bm 2 false] .ret) .skip)) (aa [hG 30 1 4 4,be 31 4 30,dE 32 58 [.t 31,(.c (.slice 1 .nil []))],cn 33 32,bV 34 0] (.block 2 (.loop (aa [bk 35 .lss 34 33] (.seq (aT 35 .skip (.exit 2)) (.seq (.block 3 (aa [cv 36 1 32 34,ax 37 1 36,I 6 37] (aa [I 39 0,I 40 6,cl 41 146 39 40,I 38 41,cV 42 0 38,cV 43 1 38,dL 7 dX,b1 4 7 42,I 8 43] (aa [I 44 8] (aT 44 (aa [bm 2 false] .ret) .skip))))) (.region [aS 45 .add 34 1,I 34 45])))))))))) (.region [aS 46 .add 14 1,I 14 46])))) (aa [bm 2 true] .ret))))
@[simp] def Kq:List bK:=[.tmp 2]
def NX:C:=(aa [bm 2 false] (.seq (aa [bV 3 0] (.block 0 (.loop (.seq (aa [I 5 3,I 6 0,b0 7 (.slen (.t 6)),bk 8 .lss 5 7] (aT 8 .skip (.exit 0))) (.seq (.block 1 (aa [I 11 0,I 12 3,b0 13 (.sidx (.t 11) (.t 12)),b0 14 (.bin .geq false (.t 13) (.c (.int .u8 97))),I 15 14,b3 15 true 16 0,b3 15 true 17 3,ar 15 true (b0 18 (.sidx (.t 16) (.t 17))),ar 15 true (b0 19 (.bin .leq false (.t 18) (.c (.int .u8 122)))),dH 20 15 19,I 4 20] (aa [I 21 4,cB 22 21,I 23 22,b3 23 true 24 3,ar 23 true (aS 25 .eql 24 0),b3 23 true 26 25,b3 26 false 27 0,b3 26 false 28 3,ar 26 false (b0 29 (.sidx (.t 27) (.t 28))),ar 26 false (b0 30 (.bin .neq false (.t 29) (.c (.int .u8 45)))),b3 26 false 31 30,b3 31 true 32 0,b3 31 true 33 3,ar 31 true (b0 34 (.sidx (.t 32) (.t 33))),ar 31 true (b0 35 (.conv .i64 (.t 34))),ar 31 true (dE 36 75 [.t 35,(gi 48),(gi 57)]),ar 31 true (cB 37 36),ar 26 false (dH 38 31 37),ar 23 true (df 39 26 38),dH 40 23 39] (aT 40 (aa [bm 2 false] .ret) .skip)))) (.region [I 9 3,aS 10 .add 9 1,I 3 10])))))) (aa [I 41 0,b0 42 (.slen (.t 41)),dE 43 75 [.t 42,(gi 1),(gi 12)],I 2 43] .ret)))
@[simp] def zA:List bK:=[.tmp 2]
def N3:C:=(aa [cP 2 0,bV 4 0] (aa [bV 5 1] (.seq (aa [aG 8 3 1 2,ax 9 1 8,cn 10 9,bV 11 0] (fG 12 11 10 (.seq (.block 1 (aa [cv 13 4 9 11,be 14 4 13,dL 7 dX,b1 4 7 14] (.seq (aa [I 15 5,I 16 1,bk 17 .gtr 15 16] (aT 17 (aa [I 18 5,I 4 18] .ret) .skip)) (.region [I 19 5,be 20 4 7,I 21 1,I 22 5,bk 23 .sub 21 22,cl 24 123 20 23,bk 25 .add 19 24,I 5 25])))) (.region [aS 26 .add 11 1,I 11 26])))) (aa [I 27 5,I 4 27] .ret))))
@[simp] def Kr:List bK:=[.tmp 4]
def lr:C:=(aa [cP 1 0,bm 2 false] (.seq (aa [aG 3 0 1 1,ax 4 1 3,aS 5 .neq 4 1,I 6 5,ar 6 true (aG 7 0 1 1),ar 6 true (ax 8 1 7),ar 6 true (aS 9 .neq 8 3),dH 10 6 9,I 11 10,ar 11 true (aG 12 1 1 1),ar 11 true (ax 13 1 12),ar 11 true (aS 14 .neq 13 0),dH 15 11 14,I 16 15,ar 16 false (aG 17 0 1 1),ar 16 false (ax 18 1 17),ar 16 false (aS 19 .neq 18 2),b3 16 false 20 19,ar 20 true (aG 21 2 1 1),ar 20 true (ax 22 1 21),vO 20 true 23 (.bin .neq false (.t 22) (.c (.str []))),ar 16 false (dH 24 20 23),df 25 16 24,I 26 25,ar 26 false (aG 27 0 1 1),ar 26 false (ax 28 1 27),ar 26 false (aS 29 .neq 28 4),b3 26 false 30 29,ar 30 true (aG 31 3 1 1),ar 30 true (ax 32 1 31),ar 30 true (cn 33 32),ar 30 true (aS 34 .gtr 33 0),ar 26 false (dH 35 30 34),df 36 26 35] (aT 36 (aa [bm 2 false] .ret) .skip)) (.seq (aa [aG 37 0 1 1,ax 38 1 37] (.block 0 (aa [aS 40 .eql 38 0,I 39 40] (aT 39 (aa [bm 2 true] .ret) (aa [aS 42 .eql 38 1,I 41 42] (aT 41 (aa [aG 43 1 1 1,ax 44 1 43,dE 45 75 [.t 44,(gi 0),(gi 100000)],I 2 45] .ret) (aa [aS 47 .eql 38 2,I 46 47] (aT 46 (aa [aG 48 2 1 1,ax 49 1 48,c7 50 119 49,I 2 50] .ret) (aa [aS 52 .eql 38 3,I 51 52] (aT 51 (aa [aG 53 1 1 1,ax 54 1 53,dE 55 75 [.t 54,(gi (-1000000000)),(gi 1000000000)],I 2 55] .ret) (aa [aS 57 .eql 38 4,I 56 57] (aT 56 (aa [aG 58 3 1 1,ax 59 1 58,cn 60 59,aS 61 .eql 60 2,I 62 61,ar 62 true (aG 63 3 1 1),ar 62 true (ax 64 1 63),ar 62 true (js 65 4 64 0),ar 62 true (be 66 4 65),ar 62 true (c7 67 124 66),dH 68 62 67,I 69 68,ar 69 true (aG 70 3 1 1),ar 69 true (ax 71 1 70),ar 69 true (js 72 4 71 1),ar 69 true (be 73 4 72),ar 69 true (c7 74 124 73),dH 75 69 74,I 2 75] .ret) .skip)))))))))))) (aa [bm 2 false] .ret))))
@[simp] def ld:List bK:=[.tmp 2]
def N5:C:=(aa [eO 4 1] (aa [I 7 0,cn 8 7,I 5 8] (.seq (.block 0 (.loop (.seq (aa [I 9 5,aS 10 .gtr 9 0,I 11 10,b3 11 true 12 0,b3 11 true 13 5,ar 11 true (aS 14 .sub 13 1),ar 11 true (cv 15 1 12 14),ar 11 true (ax 16 1 15),b3 11 true 17 1,ar 11 true (bk 18 .geq 16 17),dH 19 11 18] (aT 19 .skip (.exit 0))) (.block 1 (.region [I 20 5,aS 21 .sub 20 1,I 5 21]))))) (.seq (aa [I 22 5,I 23 0,cn 24 23,bk 25 .lss 22 24,I 26 25,b3 26 true 27 0,b3 26 true 28 5,ar 26 true (cv 29 1 27 28),ar 26 true (ax 30 1 29),b3 26 true 31 1,ar 26 true (bk 32 .eql 30 31),dH 33 26 32] (aT 33 (aa [I 34 0,I 4 34] .ret) .skip)) (aa [fC 35 1 3 [],I 36 0,I 37 5,b0 38 (.lsl 1 (.t 36) none (some (.t 37))),iP 39 1 3 35 38,I 6 39] (aa [I 40 6,I 41 1,fC 42 1 3 [.t 41],iP 43 1 3 40 42,I 6 43] (aa [I 44 6,I 45 0,I 46 5,b0 47 (.lsl 1 (.t 45) (some (.t 46)) none),iP 48 1 3 44 47,I 4 48] .ret)))))))
@[simp] def xv:List bK:=[.tmp 4]
def Dk:C:=(aa [cP 3 1,dL 4 dX] (.seq (aa [aG 7 0 1 3,ax 8 1 7,aS 9 .eql 8 1] (aT 9 (aa [I 11 0,aG 12 1 1 3,ax 13 1 12,cl 14 146 11 13,I 10 14,cV 15 0 10,cV 16 1 10,dL 5 dX,b1 4 5 15,I 6 16] (aa [I 17 6] (aT 17 (aa [be 18 4 5,b1 4 4 18] .ret) .skip))) .skip)) (.seq (aa [aG 19 0 1 3,ax 20 1 19,aS 21 .eql 20 4] (aT 21 (.seq (.drawn true 36 [I 22 0,aG 23 3 1 3,ax 24 1 23,js 25 4 24 0,be 26 4 25,cl 27 127 22 26,I 28 0,aG 29 3 1 3,ax 30 1 29,js 31 4 30 1,be 32 4 31,cl 33 127 28 32,cl 34 189 27 33,b1 4 4 34]) .ret) .skip)) (aa [be 35 4 3,b1 4 4 35] .ret))))
@[simp] def Fq:List bK:=[.cell 4 true 4]
def N4:C:=(aa [cP 1 0,bm 2 false] (aa [be 3 4 1,dE 4 123 [.t 3,(gi 5000)],aS 5 .leq 4 5000,I 2 5] .ret))
@[simp] def TU:List bK:=[.tmp 2]
def Oe:C:=(aa [bm 2 false] (.seq (aa [I 5 0,cn 6 5,bV 7 0] (fG 8 7 6 (.seq (.block 1 (aa [I 9 7,cv 10 5 5 7,be 11 5 10,dL 4 jO,I 3 9,b1 5 4 11] (.seq (.drawn true 41 [I 12 3,aS 13 .gtr 12 0,I 14 13,b3 14 true 15 0,b3 14 true 16 3,ar 14 true (aS 17 .sub 16 1),ar 14 true (cv 18 5 15 17),ar 14 true (aG 19 0 1 18),ar 14 true (ax 20 1 19),ar 14 true (aG 21 0 1 4),ar 14 true (ax 22 1 21),ar 14 true (bk 23 .geq 20 22),dH 24 14 23,I 25 24,ar 25 false (aG 26 0 1 4),ar 25 false (ax 27 1 26),ar 25 false (dE 28 75 [.t 27,(gi 0),(gi 100000)]),ar 25 false (cB 29 28),df 30 25 29,I 31 30,ar 31 false (hG 32 1 4 4),ar 31 false (be 33 4 32),ar 31 false (c7 34 56 33),ar 31 false (cB 35 34),df 36 31 35]) (aT 36 (aa [bm 2 false] .ret) .skip)))) (.region [aS 37 .add 7 1,I 7 37])))) (aa [I 38 0,cn 39 38,aS 40 .leq 39 400,I 2 40] .ret)))
@[simp] def Kv:List bK:=[.tmp 2]
def Oc:C:=(aa [dL 4 dX,bm 5 false] (.seq (aa [I 8 0,cn 9 8,bV 10 0] (fG 11 10 9 (.seq (.block 1 (aa [cv 12 5 8 10,be 13 5 12,dL 7 jO,b1 5 7 13] (aa [aG 14 0 1 7,ax 15 1 14,I 16 1,bk 17 .eql 15 16] (aT 17 (aa [hG 18 1 4 7,be 19 4 18,b1 4 4 19,bm 5 true] .ret) .skip)))) (.region [aS 20 .add 10 1,I 10 20])))) (aa [kO 21 dX [],b1 4 4 21,bm 5 false] .ret)))
@[simp] def Kt:List bK:=[.cell 4 true 4,.tmp 5]
def Oh:C:=(aa [eO 4 5,bm 5 false] (aa [fC 10 4 30 [],I 6 10] (aa [fC 11 4 30 [],I 7 11] (.seq (aa [I 12 1,cn 13 12,bV 14 0] (fG 15 14 13 (.seq (.block 1 (aa [cv 16 5 12 14,be 17 5 16,dL 9 jO,b1 5 9 17] (aa [I 18 6,aG 19 0 1 9,ax 20 1 19,c7 21 114 20,fC 22 4 30 [.t 21],iP 23 4 30 18 22,I 6 23] (.region [I 24 7,hG 25 1 4 9,be 26 4 25,fC 27 4 30 [.t 26],iP 28 4 30 24 27,I 7 28])))) (.region [aS 29 .add 14 1,I 14 29])))) (aa [I 30 0,I 31 6,I 32 7,dE 33 202 [.t 30,.t 31,.t 32],cV 34 0 33,cV 35 1 33,I 4 34,I 5 35] .ret)))))
@[simp] def TZ:List bK:=[.tmp 4,.tmp 5]
def rK:C:=(aa [cP 4 1,cP 5 2,eO 6 5,bm 7 false] (aa [I 12 0,be 13 4 4,cl 14 201 12 13,b1 4 4 14] (aa [I 15 0,be 16 4 5,cl 17 201 15 16,b1 4 5 17] (.seq (aa [aG 18 0 1 4,ax 19 1 18,aS 20 .eql 19 1,I 21 20,ar 21 true (aG 22 0 1 5),ar 21 true (ax 23 1 22),ar 21 true (aS 24 .eql 23 1),dH 25 21 24,I 26 25,ar 26 true (aG 27 1 1 4),ar 26 true (ax 28 1 27),ar 26 true (aG 29 1 1 5),ar 26 true (ax 30 1 29),ar 26 true (bk 31 .lss 28 30),dH 32 26 31] (aT 32 (aa [I 33 0,aG 34 1 1 5,ax 35 1 34,be 36 4 4,dE 37 212 [.t 33,.t 35,.t 36],cV 38 0 37,cV 39 1 37,I 6 38,I 7 39] .ret) .skip)) (.seq (aa [aG 40 0 1 4,ax 41 1 40,aS 42 .eql 41 1,I 43 42,ar 43 true (aG 44 0 1 5),ar 43 true (ax 45 1 44),ar 43 true (aS 46 .eql 45 1),dH 47 43 46,I 48 47,ar 48 true (aG 49 1 1 4),ar 48 true (ax 50 1 49),ar 48 true (aG 51 1 1 5),ar 48 true (ax 52 1 51),ar 48 true (bk 53 .eql 50 52),dH 54 48 53] (aT 54 (aa [I 55 0,I 6 55,bm 7 true] .ret) .skip)) (.seq (aa [aG 56 0 1 4,ax 57 1 56,aS 58 .eql 57 1] (aT 58 (aa [I 59 0,aG 60 1 1 4,ax 61 1 60,be 62 4 5,dE 63 212 [.t 59,.t 61,.t 62],cV 64 0 63,cV 65 1 63,I 6 64,I 7 65] .ret) .skip)) (.seq (aa [aG 66 0 1 5,ax 67 1 66,aS 68 .eql 67 1] (aT 68 (aa [I 69 0,aG 70 1 1 5,ax 71 1 70,be 72 4 4,dE 73 212 [.t 69,.t 71,.t 72],cV 74 0 73,cV 75 1 73,I 6 74,I 7 75] .ret) .skip)) (.seq (aa [aG 76 0 1 4,ax 77 1 76,aG 78 0 1 5,ax 79 1 78,bk 80 .neq 77 79,I 81 80,ar 81 false (aG 82 1 1 4),ar 81 false (ax 83 1 82),ar 81 false (aG 84 1 1 5),ar 81 false (ax 85 1 84),ar 81 false (bk 86 .neq 83 85),df 87 81 86,I 88 87,ar 88 false (aG 89 2 1 4),ar 88 false (ax 90 1 89),ar 88 false (aG 91 2 1 5),ar 88 false (ax 92 1 91),ar 88 false (bk 93 .neq 90 92),df 94 88 93] (aT 94 (aa [eO 6 5,bm 7 false] .ret) .skip)) (.seq (aa [aG 95 3 1 4,ax 96 1 95,cn 97 96,bV 98 0] (fG 99 98 97 (.seq (.block 1 (aa [I 100 98,cv 101 4 96 98,be 102 4 101,dL 9 dX,I 8 100,b1 4 9 102] (.seq (.drawn true 119 [I 104 0,be 105 4 9,aG 106 3 1 5,ax 107 1 106,I 108 8,cv 109 4 107 108,be 110 4 109,dE 111 180 [.t 104,.t 105,.t 110],I 103 111,cV 112 0 103,cV 113 1 103,I 10 112,I 11 113]) (.seq (aa [I 114 11,cB 115 114] (aT 115 (aa [eO 6 5,bm 7 false] .ret) .skip)) (.region [I 116 10,I 0 116]))))) (.region [aS 117 .add 98 1,I 98 117])))) (aa [I 118 0,I 6 118,bm 7 true] .ret))))))))))
@[simp] def rh:List bK:=[.tmp 6,.tmp 7]
def Dl:C:=(aa [cP 3 1,dL 4 dX] (.seq (aa [aG 7 0 1 3,ax 8 1 7,aS 9 .eql 8 1] (aT 9 (aa [I 11 0,aG 12 1 1 3,ax 13 1 12,cl 14 146 11 13,I 10 14,cV 15 0 10,cV 16 1 10,dL 5 dX,b1 4 5 15,I 6 16] (aa [I 17 6] (aT 17 (aa [be 18 4 5,b1 4 4 18] .ret) .skip))) .skip)) (aa [be 19 4 3,b1 4 4 19] .ret)))
@[simp] def Fs:List bK:=[.cell 4 true 4]
def Og:C:=(aa [eO 6 5,bm 7 false] (.seq (aa [I 12 1,cn 13 12,bV 14 0] (fG 15 14 13 (.seq (.block 1 (aa [I 16 14,cv 17 4 12 14,be 18 4 17,dL 9 dX,I 8 16,b1 4 9 18] (.seq (.drawn true 34 [I 20 0,be 21 4 9,I 22 2,I 23 8,cv 24 4 22 23,be 25 4 24,dE 26 180 [.t 20,.t 21,.t 25],I 19 26,cV 27 0 19,cV 28 1 19,I 10 27,I 11 28]) (.seq (aa [I 29 11,cB 30 29] (aT 30 (aa [eO 6 5,bm 7 false] .ret) .skip)) (.region [I 31 10,I 0 31]))))) (.region [aS 32 .add 14 1,I 14 32])))) (aa [I 33 0,I 6 33,bm 7 true] .ret)))
@[simp] def Kw:List bK:=[.tmp 6,.tmp 7]
def Av:C:=(aa [cP 5 2,eO 6 5,bm 7 false] (aa [I 15 0,be 16 4 5,cl 17 60 15 16,I 14 17,cV 18 0 14,cV 19 1 14,dL 8 dX,b1 4 8 18,I 9 19] (.seq (aa [I 20 9,cB 21 20,I 22 21,b3 22 false 23 1,ar 22 false (be 24 4 8),ar 22 false (cl 25 233 23 24),df 26 22 25,I 27 26,b3 27 false 28 0,ar 27 false (cn 29 28),ar 27 false (aS 30 .geq 29 400),df 31 27 30] (aT 31 (aa [eO 6 5,bm 7 false] .ret) .skip)) (aa [fC 32 5 113 [],I 10 32] (.seq (aa [I 33 0,cn 34 33,bV 35 0] (fG 36 35 34 (.seq (.block 1 (aa [cv 37 5 33 35,be 38 5 37,dL 12 jO,b1 5 12 38] (aa [hG 39 1 4 12,be 40 4 39,I 41 1,be 42 4 8,dE 43 234 [.t 40,.t 41,.t 42],dL 13 dX,b1 4 13 43] (.seq (aa [be 44 4 13,c7 45 128 44,cB 46 45] (aT 46 (aa [eO 6 5,bm 7 false] .ret) .skip)) (.region [I 47 10,aG 48 0 1 12,ax 49 1 48,be 50 4 13,kO 51 jO [(0,1,(.t 49)),(1,4,(.t 50))],fC 52 5 113 [.t 51],iP 53 5 113 47 52,I 10 53]))))) (.region [aS 54 .add 35 1,I 35 54])))) (aa [I 55 10,I 56 1,be 57 4 8,kO 58 jO [(0,1,(.t 56)),(1,4,(.t 57))],cl 59 235 55 58,I 6 59,bm 7 true] .ret))))))
@[simp] def zE:List bK:=[.tmp 6,.tmp 7]
def N6:C:=(aa [cP 3 1,bm 4 false] (.seq (aa [aG 7 3 1 3,ax 8 1 7,cn 9 8,bV 10 0] (fG 11 10 9 (.seq (.block 1 (aa [cv 12 4 8 10,be 13 4 12,dL 6 dX,b1 4 6 13] (aa [I 14 0,be 15 4 6,cl 16 233 14 15] (aT 16 (aa [bm 4 true] .ret) .skip)))) (.region [aS 17 .add 10 1,I 10 17])))) (aa [aG 18 0 1 3,ax 19 1 18,aS 20 .eql 19 1,I 21 20,ar 21 true (aG 22 1 1 3),ar 21 true (ax 23 1 22),b3 21 true 24 0,ar 21 true (bk 25 .eql 23 24),dH 26 21 25,I 4 26] .ret)))
@[simp] def Ks:List bK:=[.tmp 4]
def Dj:C:=(aa [cP 3 0,cP 5 2,dL 6 dX] (.seq (aa [aG 7 0 1 3,ax 8 1 7,aS 9 .eql 8 1,I 10 9,ar 10 true (aG 11 1 1 3),ar 10 true (ax 12 1 11),b3 10 true 13 1,ar 10 true (bk 14 .eql 12 13),dH 15 10 14] (aT 15 (aa [be 16 4 5,b1 4 6 16] .ret) .skip)) (.seq (aa [aG 17 0 1 3,ax 18 1 17,aS 19 .eql 18 4] (aT 19 (.seq (.drawn true 36 [aG 20 3 1 3,ax 21 1 20,js 22 4 21 0,be 23 4 22,I 24 1,be 25 4 5,dE 26 234 [.t 23,.t 24,.t 25],aG 27 3 1 3,ax 28 1 27,js 29 4 28 1,be 30 4 29,I 31 1,be 32 4 5,dE 33 234 [.t 30,.t 31,.t 32],cl 34 189 26 33,b1 4 6 34]) .ret) .skip)) (aa [be 35 4 3,b1 4 6 35] .ret))))
@[simp] def Fp:List bK:=[.cell 6 true 4]
def Od:C:=(aa [cP 3 1,eO 4 5] (aa [I 7 0,cn 8 7,I 5 8] (.seq (.block 0 (.loop (.seq (.seq (.drawn true 38 [I 9 5,aS 10 .gtr 9 0,I 11 10,b3 11 true 12 0,b3 11 true 13 5,ar 11 true (aS 14 .sub 13 1),ar 11 true (cv 15 5 12 14),ar 11 true (aG 16 0 1 15),ar 11 true (ax 17 1 16),ar 11 true (aG 18 0 1 3),ar 11 true (ax 19 1 18),ar 11 true (bk 20 .gtr 17 19),dH 21 11 20]) (aT 21 .skip (.exit 0))) (.block 1 (.region [I 22 5,aS 23 .sub 22 1,I 5 23]))))) (aa [fC 24 5 113 [],I 25 0,I 26 5,b0 27 (.lsl 5 (.t 25) none (some (.t 26))),iP 28 5 113 24 27,I 6 28] (aa [I 29 6,be 30 5 3,fC 31 5 113 [.t 30],iP 32 5 113 29 31,I 6 32] (aa [I 33 6,I 34 0,I 35 5,b0 36 (.lsl 5 (.t 34) (some (.t 35)) none),iP 37 5 113 33 36,I 4 37] .ret))))))
@[simp] def Ku:List bK:=[.tmp 4]
def kt:List (Nat×dB):=[
 (3,⟨1,8,.int .i64,.int .i64 0⟩),
 (5,⟨1,1,.int .u8,.int .u8 0⟩),
 (9,⟨1,16,.str,.str []⟩),
 (27,⟨1,24,.slice 30,.slice 4 .nil []⟩),
 (30,⟨4,56,.struct [(0,3),(1,3),(2,9),(3,27)],.agg [.int .i64 0,.int .i64 0,.str [],.slice 4 .nil []]⟩),
 (46,⟨1,24,.slice 113,.slice 5 .nil []⟩),
 (76,⟨1,24,.slice 3,.slice 1 .nil []⟩),
 (113,⟨5,64,.struct [(0,3),(1,30)],.agg [.int .i64 0,.int .i64 0,.int .i64 0,.str [],.slice 4 .nil []]⟩)]
theorem et:fN ao kt=true:=by kernel_rfl
theorem agw:b5 kt N1 ah1 1 Tryz.f56=true:=by kernel_rfl
theorem Z8:ao.funcs[(56:Nat)]? =some Tryz.f56:=Tryz.func56
theorem B2:b5 kt x9 zD 2 Tryz.f58=true:=by kernel_rfl
theorem AE:ao.funcs[(58:Nat)]? =some Tryz.f58:=Tryz.func58
theorem agG:b5 kt Ob TY 2 Tryz.f60=true:=by kernel_rfl
theorem aai:ao.funcs[(60:Nat)]? =some Tryz.f60:=Tryz.func60
theorem agx:b5 kt N2 TT 3 Tryz.f75=true:=by kernel_rfl
theorem Z9:ao.funcs[(75:Nat)]? =some Tryz.f75:=Tryz.func75
theorem S3:b5 kt G5 Kq 1 Tryz.f76=true:=by kernel_rfl
theorem Pm:ao.funcs[(76:Nat)]? =some Tryz.f76:=Tryz.func76
theorem ags:b5 kt NX zA 1 Tryz.f119=true:=by kernel_rfl
theorem Z4:ao.funcs[(119:Nat)]? =some Tryz.f119:=Tryz.func119
theorem agy:b5 kt N3 Kr 2 Tryz.f123=true:=by kernel_rfl
theorem aaa:ao.funcs[(123:Nat)]? =some Tryz.f123:=Tryz.func123
theorem l8:b5 kt lr ld 1 Tryz.f124=true:=by kernel_rfl
theorem lR:ao.funcs[(124:Nat)]? =some Tryz.f124:=Tryz.func124
theorem agA:b5 kt N5 xv 2 Tryz.f126=true:=by kernel_rfl
theorem aac:ao.funcs[(126:Nat)]? =some Tryz.f126:=Tryz.func126
theorem JZ:b5 kt Dk Fq 2 Tryz.f127=true:=by kernel_rfl
theorem HB:ao.funcs[(127:Nat)]? =some Tryz.f127:=Tryz.func127
theorem agz:b5 kt N4 TU 1 Tryz.f128=true:=by kernel_rfl
theorem aab:ao.funcs[(128:Nat)]? =some Tryz.f128:=Tryz.func128
theorem agJ:b5 kt Oe Kv 1 Tryz.f145=true:=by kernel_rfl
theorem aal:ao.funcs[(145:Nat)]? =some Tryz.f145:=Tryz.func145
theorem agH:b5 kt Oc Kt 2 Tryz.f146=true:=by kernel_rfl
theorem aaj:ao.funcs[(146:Nat)]? =some Tryz.f146:=Tryz.func146
theorem agL:b5 kt Oh TZ 2 Tryz.f152=true:=by kernel_rfl
theorem aan:ao.funcs[(152:Nat)]? =some Tryz.f152:=Tryz.func152
theorem tL:b5 kt rK rh 3 Tryz.f180=true:=by kernel_rfl
theorem s8:ao.funcs[(180:Nat)]? =some Tryz.f180:=Tryz.func180
theorem J0:b5 kt Dl Fs 2 Tryz.f201=true:=by kernel_rfl
theorem HC:ao.funcs[(201:Nat)]? =some Tryz.f201:=Tryz.func201
theorem agK:b5 kt Og Kw 3 Tryz.f202=true:=by kernel_rfl
theorem aam:ao.funcs[(202:Nat)]? =some Tryz.f202:=Tryz.func202
theorem E3:b5 kt Av zE 3 Tryz.f212=true:=by kernel_rfl
theorem DC:ao.funcs[(212:Nat)]? =some Tryz.f212:=Tryz.func212
theorem agB:b5 kt N6 Ks 2 Tryz.f233=true:=by kernel_rfl
theorem aad:ao.funcs[(233:Nat)]? =some Tryz.f233:=Tryz.func233
theorem JY:b5 kt Dj Fp 3 Tryz.f234=true:=by kernel_rfl
theorem HA:ao.funcs[(234:Nat)]? =some Tryz.f234:=Tryz.func234
theorem agI:b5 kt Od Ku 2 Tryz.f235=true:=by kernel_rfl
theorem aak:ao.funcs[(235:Nat)]? =some Tryz.f235:=Tryz.func235
mutual
def kU:bP→Int→Int
 | .mk _ _ _ args,m=>nF args 1 m
def nF:List bP→Int→Int→Int
 |[],n,_=>n
 |x::xs,n,m=>if m<n then n else nF xs (n+kU x (m-n)) m
end
mutual
theorem Ha:∀(t:bP) (m:Int),0≤m→1≤kU t m∧kU t m≤m+1
 | .mk _ _ _ args,m,h=>by simp only[kU];exact OG args 1 m h (by omega) (by omega)
theorem OG:∀(l:List bP) (n m:Int),0≤m→1≤n→n≤m+1→1≤nF l n m∧nF l n m≤m+1
 |[],n,m,_,J,U=>by simp only[nF];exact⟨J,U⟩
 |x::xs,n,m,bs,J,U=>by
  simp only[nF];split
  ·exact⟨J,U⟩
  ·have:=Ha x (m-n) (by omega);exact OG xs _ m bs (by omega) (by omega)
end
theorem Dr:∀(t:T) (m:Int),0≤m→(kU t.tm m≤m↔(t.size:Int)≤m)∧((t.size:Int)≤m→kU t.tm m=t.size)
 | .pair a b,m,h=>by
  have bD:=T.size_pos a;have ae:=T.size_pos b;simp only[T.tm,kU,nF,T.size];by_cases J:m<1
  ·rw[if_pos J];exact⟨by omega,fun h=>by omega⟩
  ·rw[if_neg J];obtain⟨bz,a2⟩:=Dr a (m-1) (by omega);have a3:=Ha a.tm (m-1) (by omega);by_cases U:(a.size:Int)≤m-1
   ·have e:=a2 U;rw[e];by_cases al:m<1+(a.size:Int)
    ·omega
    ·rw[if_neg al];obtain⟨b9,bZ⟩:=Dr b (m-(1+a.size)) (by omega);refine⟨by omega,fun h=>?_⟩;rw[bZ (by omega)];omega
   ·have:¬kU a.tm (m-1)≤m-1:=fun h=>U (bz.1 h);rw[if_pos (by omega)];exact⟨by omega,fun h=>by omega⟩
 | .nil,m,h=>by simp[T.tm,kU,nF,T.size]
 | .var _,m,h=>by simp[T.tm,kU,nF,T.size]
 | .sym _,m,h=>by simp[T.tm,kU,nF,T.size]
 | .num _,m,h=>by simp[T.tm,kU,nF,T.size]
theorem Xx(t:bP)(m:Int):kU t m=nF t.args 1 m:=by cases t;rfl
theorem Vl(t:bP):∀m:Int,0≤m→m≤1000000→bI ao 123 [enc t,.int .i64 m] (.int .i64 (kU t m)):=by
 suffices H:∀(k:Nat) (t:bP),t.sz≤k→∀m:Int,0≤m→m≤1000000→bI ao 123 [enc t,.int .i64 m] (.int .i64 (kU t m))from H _ t (eQ _)
 intro k;induction k with
 |zero=>intro t aO;cases t;simp[bP.sz]at aO
 |succ k bM=>
  intro t aO m bs J;refine br et aaa agy fun aR=>?_;unfold N3;have eX:t.args.length≤68719476736:=by rw[uA]at aR;simp[eE,ej,eu,lim]at aR;omega
  simp;refine dU [1,9,10] (fun i (n:Int)=>[(5,.int .i64 n),(11,.int .i64 i)]) t.args.length (fun i n=>(1≤n∧n≤m+1)∧nF (t.args.drop i) n m=kU t m) 1 b4 ⟨by omega,by simp[Xx]⟩ (fun n af _=>?_) (fun i n hi af _=>?_)
  ·simp;(with_reducible repeat' first|refine ak ?_|simp);simp[bA,Kr,aV,aY,aU];have:=af.2;simp[nF]at this;exact this
  ·obtain⟨⟨qR,Bd⟩,af⟩:=af;obtain⟨x,ad,cz⟩:=ep hi;have aP:t.args.drop i=x::t.args.drop (i+1):=by rw[kQ hi,cz]
   have dW:x.sz≤k:=by have:=Ld (eP ad);omega
   rw[aP]at af;simp only[nF]at af;simp[hi,cz];by_cases ae:m<n
   ·rw[if_pos ae]at af;(with_reducible repeat' first|refine ak ?_|simp[ae]);simp[bA,Kr,aV,aY,aU];exact af
   ·rw[if_neg ae]at af;have aw:=Ha x (m-n) (by omega);((with_reducible repeat' first|refine ak ?_|refine aE (bM x dW (m-n) (by omega) (by omega)) ?_|refine aF (bM x dW (m-n) (by omega) (by omega)) ?_|simp[ae]|((first|apply bO|apply bS|apply bR)<;>intro h<;>try simp at h))<;>(try exact cq));exact bL.rng (n+kU x (m-n)) hi ⟨by omega,af⟩ b4
theorem zZ(t:T):bI ao 128 [t.e] (.bool (decide (t.size≤5000))):=by
 have aw:=(Dr t 5000 (by omega)).1;have key:=Vl t.tm 5000 (by omega) (by omega);rw[uB]at key;refine br et aab agz fun aR=>?_;unfold N4;simp;(with_reducible repeat' first|refine ak ?_|refine aE key ?_|refine aF key ?_|simp);simp[bA,TU,aV,aY,aU];have:(kU t.tm 5000≤5000)=(t.size≤5000):=by rw[aw];simp;omega
 simp[this]
def adA(l:List aq)(v:Int)(k:Nat)(st:bo):Prop:=∃i:Nat,i≤l.length∧k=l.length-i∧dd l v=dd (l.drop i) v∧st=⟨[(1,.int .i64 v),(4,.ptr (.loc 0) 0),(8,.slice 5 .no (l.map aq.e)),(9,.int .i64 l.length),(10,.int .i64 i)],[(.loc 0,[.int .i64 0,.int .i64 0,.str [],.slice 4 .nil []])],[],1,[]⟩
set_option maxRecDepth 4000 in
theorem uh(l:List aq)(v:Int)(au:l.length≤1000000):bI ao 146 [.slice 5 .no (l.map aq.e),.int .i64 v] (.tuple [((dd l v).getD .nil).e,.bool (dd l v).isSome]):=by
 refine br et aaj agH fun aR=>?_;unfold Oc;simp;refine s5 (adA l v) l.length _ b4 ⟨0,by omega,rfl,by simp,rfl⟩ ?_;rintro k st ⟨i,hi,ab,a1,rfl⟩ p1 c1;clear p1 c1;by_cases bu:i<l.length
 ·obtain⟨b,ae⟩:∃b,l[i]? =some b:=⟨_,ca bu⟩;have Qj:l.drop i=b::l.drop (i+1):=by rw[kQ bu];rw[ca bu]at ae;simp at ae;rw[ae]
  have cG:∀h,l[i]'h=b:=fun h=>by rw[ca h]at ae;simpa using ae
  simp[cG,bu];(with_reducible repeat' first|((first|apply bO|apply bS|apply bR)<;>intro h<;>try simp at h)|refine ak ?_|simp[cG])
  ·have:dd l v=some b.t:=by rw[a1,Qj];simp[dd,h]
   simp[bA,Kt,aV,aY,aU];simp[this]
  ·refine bL.next (l.length-(i+1)) (by omega) ⟨i+1,by omega,rfl,?_,rfl⟩ b4;rw[a1,Qj];simp[dd,h]
 ·have:dd l v=none:=by rw[a1,List.drop_of_length_le (by omega)];simp[dd]
  simp[bu];(with_reducible repeat' first|((first|apply bO|apply bS|apply bR)<;>intro h<;>try simp at h)|refine ak ?_|simp);simp[bA,Kt,aV,aY,aU];simp[this]
theorem ajS(l:List aq)(au:l.length≤1000000)(t:T):bI ao 127 [.slice 5 .no (l.map aq.e),t.e] (t.sub (dd l)).e:=by
 induction t with
 |pair a b dO dP=>
  refine br et HB JZ fun aR=>?_;unfold Dk;simp;(with_reducible repeat' first|refine ak ?_|refine aE dO ?_|refine aF dO ?_|refine aE dP ?_|refine aF dP ?_|refine aE (F4 _ _) ?_|refine aF (F4 _ _) ?_|simp);all_goals simp[bA,Fq,aV,aY,aU]
  all_goals simp[T.sub]
 |var n=>
  refine br et HB JZ fun aR=>?_;unfold Dk;simp;((with_reducible repeat' first|refine ak ?_|refine aE (uh l n au) ?_|refine aF (uh l n au) ?_|simp|((first|apply bO|apply bS|apply bR)<;>intro h<;>try simp at h))<;>(try exact cq));all_goals simp[bA,Fq,aV,aY,aU]
  all_goals cases ae:dd l n<;>simp_all[T.sub]
 |_=>
  refine br et HB JZ fun aR=>?_;unfold Dk;simp;(with_reducible repeat' first|refine ak ?_|simp);all_goals simp[bA,Fq,aV,aY,aU]
  all_goals simp[T.sub]
theorem Vn(l:List aq)(au:l.length≤1000000)(t:T):bI ao 127 [.slice 5 .no (l.map aq.e),t.e] (t.ap (cx l)).e:=by have:=ajS l au t;rw[UI]at this;exact this
theorem Lq(l:List aq)(au:l.length≤1000000)(t:T):bI ao 60 [.slice 5 .no (l.map aq.e),t.e] (.tuple [(t.ap (cx l)).e,.bool (decide ((t.ap (cx l)).size≤5000))]):=by refine br et aai agG fun aR=>?_;unfold Ob;simp;(with_reducible repeat' first|refine ak ?_|refine aE (Vn l au t) ?_|refine aF (Vn l au t) ?_|refine aE (zZ _) ?_|refine aF (zZ _) ?_|simp);simp[bA,TY,aV,aY,aU]
def vl(v:Int)(l:List T):Bool:=l.any (T.occ v)
theorem SM(v:Int)(t:T):t.occ v=(vl v t.args||(t.kind==1&&t.int==v)):=by cases t<;>simp[T.occ,vl]
theorem vL(v:Int)(t:T):bI ao 233 [.int .i64 v,t.e] (.bool (t.occ v)):=by
 suffices H:∀(k:Nat) (t:T),t.size≤k→bI ao 233 [.int .i64 v,t.e] (.bool (t.occ v))from H _ t (eQ _)
 intro k;induction k with
 |zero=>intro t aO;have:=T.size_pos t;omega
 |succ k bM=>
  intro t aO;have qJ:t.args.length≤2:=by cases t<;>simp
  refine br et aad agB fun aR=>?_;unfold N6;simp;refine dU [0,3,8,9] (fun i (_:Unit)=>[(10,.int .i64 i)]) t.args.length (fun i _=>vl v (t.args.drop i)=vl v t.args) () b4 (by simp) (fun _ af _=>?_) (fun i _ hi af _=>?_)
  ·have bs:vl v t.args=false:=by rw[←af];simp[vl]
   rw[SM,bs];simp;((with_reducible repeat' first|refine ak ?_|simp|((first|apply bO|apply bS|apply bR)<;>intro h<;>try simp at h))<;>(try exact cq));all_goals simp[bA,Ks,aV,aY,aU]
   all_goals simp_all
  ·obtain⟨x,ad,cz⟩:=ep hi;have aP:t.args.drop i=x::t.args.drop (i+1):=by rw[kQ hi,cz]
   have dW:x.size≤k:=by have hm:=eP ad;have:=T.size_pos x;cases t<;>simp at hm;rcases hm with rfl|rfl<;>simp[T.size]at aO<;>omega
   simp only[aP,vl,List.any_cons]at af;simp[hi,cz];cases av:x.occ v with
   |true=>
    rw[av]at af;simp at af;have bs:t.occ v=true:=by rw[SM];simp[vl];left;simpa using af
    (with_reducible repeat' first|refine ak ?_|refine aE (bM x dW) ?_|refine aF (bM x dW) ?_|simp[av]);simp[bA,Ks,aV,aY,aU];simp[bs]
   |false=>rw[av]at af;have ad8:=bM x dW;exact hM
theorem F5(v:Int)(x t:T):bI ao 234 [t.e,.int .i64 v,x.e] (t.ap (Go.Pv.one v x)).e:=by
 induction t with
 |pair a b dO dP=>
  refine br et HA JY fun aR=>?_;unfold Dj;simp;(with_reducible repeat' first|refine ak ?_|refine aE dO ?_|refine aF dO ?_|refine aE dP ?_|refine aF dP ?_|refine aE (F4 _ _) ?_|refine aF (F4 _ _) ?_|simp);all_goals simp[bA,Fp,aV,aY,aU]
  all_goals simp[T.ap]
 |var n=>
  refine br et HA JY fun aR=>?_;unfold Dj;simp;((with_reducible repeat' first|refine ak ?_|simp|((first|apply bO|apply bS|apply bR)<;>intro h<;>try simp at h))<;>(try exact cq));all_goals simp[bA,Fp,aV,aY,aU]
  all_goals simp_all[T.ap,Go.Pv.one]
 |_=>
  refine br et HA JY fun aR=>?_;unfold Dj;simp;(with_reducible repeat' first|refine ak ?_|simp);all_goals simp[bA,Fp,aV,aY,aU]
  all_goals simp[T.ap]
theorem F7(s:List aq)(au:s.length≤1000000)(t:T):bI ao 201 [.slice 5 .no (s.map aq.e),t.e] (gV s t).e:=by
 cases t with
 |var n=>
  cases ae:dd s n with
  |none=>refine br et HC J0 fun aR=>?_;unfold Dl;simp;(with_reducible repeat' first|refine ak ?_|refine aE (uh s n au) ?_|refine aF (uh s n au) ?_|simp[ae]);simp[bA,Fs,aV,aY,aU];simp[gV,cx,ae]
  |some x=>refine br et HC J0 fun aR=>?_;unfold Dl;simp;(with_reducible repeat' first|refine ak ?_|refine aE (uh s n au) ?_|refine aF (uh s n au) ?_|simp[ae]);simp[bA,Fs,aV,aY,aU];simp[gV,cx,ae]
 |_=>refine br et HC J0 fun aR=>?_;unfold Dl;simp;(with_reducible repeat' first|refine ak ?_|simp);simp[bA,Fs,aV,aY,aU];simp[gV]
theorem Rf(b:aq):∀(s:List aq) (k:Nat),(∀i c,i<k→s[i]? =some c→c.v≤b.v)→(∀c,s[k]? =some c→b.v<c.v)→k≤s.length→nT b s=s.take k++b::s.drop k
 |[],k,_,_,ab=>by simp at ab;subst ab;rfl
 |c::s,0,_,U,_=>by have:=U c rfl;simp[nT,this]
 |c::s,k+1,J,U,ab=>by have:=J 0 c (by omega) rfl;simp only[nT,if_neg (by omega:¬b.v<c.v),List.take_succ_cons,List.drop_succ_cons,bN];rw[Rf b s k (fun i d hi aP=>J (i+1) d (by omega) (by simpa using aP)) (fun d aP=>U d (by simpa using aP)) (by simpa using ab)]
theorem ajR(s:List aq)(b:aq)(au:s.length≤1000000)(bD:h9 s):bI ao 235 [.slice 5 .no (s.map aq.e),b.e] (.slice 5 .no ((nT b s).map aq.e)):=by
 refine br et aak agI fun aR=>?_;unfold Od;simp;refine uC [0,3] (fun(k:Nat)=>[(5,.int .i64 k)]) (fun k=>k) (fun k=>k≤s.length∧∀c,s[k]? =some c→b.v<c.v) s.length b4 ⟨by omega,fun c h=>by simp at h⟩ (fun k af _=>?_);obtain⟨ab,af⟩:=af;have uN:(∀c,0<k→s[k-1]? =some c→c.v≤b.v)→nT b s=s.take k++b::s.drop k:=fun h=>Rf b s k (fun i c hi aw=>by
  obtain⟨d,aP⟩:∃d,s[k-1]? =some d:=⟨_,ca (by omega)⟩;have J:=h d (by omega) aP;rcases Nat.lt_or_ge i (k-1)with U|U
  ·have rY:=(fH.1 aw);have lT:=(fH.1 aP);have:=oX.1 bD i (k-1) rY.1 lT.1 U;rw[rY.2,lT.2]at this;omega
  ·have:i=k-1:=by omega
   subst this;rw[aP]at aw;cases aw;exact J) af ab
 rcases Nat.eq_zero_or_pos k with rfl|fj
 ·have e:=uN fun c h=>by omega
  rw[e];simp;(with_reducible repeat' first|refine ak ?_|simp);simp[bA,Ku,aV,aY,aU];try simp[hq]
 ·obtain⟨d,aP⟩:∃d,s[k-1]? =some d:=⟨_,ca (by omega)⟩;have aj:((k:Int)-1).toNat=k-1:=by omega
  have aC:∀h,(s[k-1]'h)=d:=fun h=>by rw[ca h]at aP;exact fw aP
  have ir:(0:Int)<k:=by omega
  by_cases ae:b.v<d.v
  ·simp[fj,ir,aj,aC,ae,aP];(with_reducible repeat' first|refine ak ?_|simp[fj,ir,aj,aC,ae,aP]);refine bL.whl (k-1) (by omega) ⟨by omega,fun c aw=>by rw[aP]at aw;cases aw;exact ae⟩ ?_;have bg:((k-1:Nat):Int)=(k:Int)-1:=by omega
   simp[bg];exact b4
  ·have e:=uN fun c _ aw=>by rw[aP]at aw;cases aw;omega
   rw[e];simp[fj,ir,aj,aC,ae,aP];(with_reducible repeat' first|refine ak ?_|simp[fj,ir,aj,aC,ae,aP]);simp[bA,Ku,aV,aY,aU];have da:ll s.length (s.map aq.e)=s.map aq.e:=hq (by simp);rw[da,←List.map_take,←List.map_drop,←gX,←List.map_append];exact UF _
def K3(v:Int)(x:T)(b:aq):aq:=⟨b.v,b.t.ap (Go.Pv.one v x)⟩
def adK(s:List aq)(v:Int)(x:T)(i:Nat)(out:List aq):Prop:=out=(s.take i).map (K3 v x)∧∀b∈s.take i,(b.t.ap (Go.Pv.one v x)).size≤5000
theorem ajV(s:List aq)(v:Int)(t:T)(au:s.length≤1000000)(bD:h9 s):bI ao 212 [.slice 5 .no (s.map aq.e),.int .i64 v,t.e] (ga (mY s v t)):=by
 obtain⟨x,ad⟩:∃x,x=t.ap (cx s):=⟨_,rfl⟩;have qK:=Lq s au t;rw[←ad]at qK;obtain⟨o,av⟩:∃o,o=mY s v t:=⟨_,rfl⟩;have adl:x.size≤5000→x.occ v=false→s.length<400→(∀b∈s,(b.t.ap (Go.Pv.one v x)).size≤5000)→o=some (lO s v x):=fun aZ bB bQ cS=>by rw[av,mY,←ad,if_pos ⟨aZ,bB,bQ,cS⟩]
 have de:¬(x.size≤5000∧x.occ v=false∧s.length<400∧∀b∈s,(b.t.ap (Go.Pv.one v x)).size≤5000)→o=none:=fun q=>by rw[av,mY,←ad,if_neg q]
 rw[←av];clear av;by_cases J:x.size≤5000;rotate_left
 ·rw[de fun h=>J h.1];refine br et DC E3 fun aR=>?_;unfold Av;simp;(with_reducible repeat' first|refine ak ?_|refine aE qK ?_|refine aF qK ?_|refine aE (vL _ _) ?_|refine aF (vL _ _) ?_|simp[J]);simp[bA,zE,aV,aY,aU];simp[ga]
 cases U:x.occ v with
 |true=>rw[de fun h=>by rw[U]at h;cases h.2.1];refine br et DC E3 fun aR=>?_;unfold Av;simp;(with_reducible repeat' first|refine ak ?_|refine aE qK ?_|refine aF qK ?_|refine aE (vL _ _) ?_|refine aF (vL _ _) ?_|simp[J,U]);simp[bA,zE,aV,aY,aU];simp[ga]
 |false=>
 by_cases al:s.length<400;rotate_left
 ·rw[de fun h=>al h.2.2.1];have rS:(400:Int)≤s.length:=by omega
  refine br et DC E3 fun aR=>?_;unfold Av;simp;(with_reducible repeat' first|refine ak ?_|refine aE qK ?_|refine aF qK ?_|refine aE (vL _ _) ?_|refine aF (vL _ _) ?_|simp[J,U,rS]);simp[bA,zE,aV,aY,aU];simp[ga]
 have rS:¬(400:Int)≤s.length:=by omega
 refine br et DC E3 fun aR=>?_;unfold Av;simp;(with_reducible repeat' first|refine ak ?_|refine aE qK ?_|refine aF qK ?_|refine aE (vL _ _) ?_|refine aF (vL _ _) ?_|simp[J,U,rS]);refine ik (α:=List aq) (fun i out=>⟨[(1,.int .i64 v),(8,.ptr (.loc 1) 0),(33,.slice 5 .no (s.map aq.e)),(34,.int .i64 s.length),(10,.slice 5 (.own (.loc 2)) (out.map aq.e)),(35,.int .i64 i)],[(.loc 1,[.int .i64 x.kind,.int .i64 x.int,.str x.name,.slice 4 .no (x.args.map T.e)])],[(.loc 2,⟨out.length,113,5,none⟩)],3,[]⟩) s.length (adK s v x) [] b4 ⟨by simp,by simp⟩ (fun out af _=>?_) (fun i out hi af _=>?_)
 ·obtain⟨dR,o8⟩:=af;rw[hq (eQ _)]at dR o8;have abJ:h9 out:=by rw[dR,h9,List.pairwise_map];exact bD
  have Bj:out.length≤1000000:=by rw[dR];simpa using au
  rw[adl J U al o8];have key:=ajR out ⟨v,x⟩ Bj abJ;simp;(with_reducible repeat' first|refine ak ?_|refine aE key ?_|refine aF key ?_|simp);simp[bA,zE,aV,aY,aU];simp[ga,lO,dR];rfl
 ·obtain⟨dR,o8⟩:=af;obtain⟨b,aK,gn⟩:=ep hi;have uZ:s.take (i+1)=s.take i++[b]:=by rw[List.take_succ,aK];rfl
  have Bj:out.length≤1000000:=by rw[dR];simp;omega
  simp[hi,gn];by_cases bC:(b.t.ap (Go.Pv.one v x)).size≤5000
  ·(with_reducible repeat' first|refine ak ?_|refine aE (F5 _ _ _) ?_|refine aF (F5 _ _ _) ?_|refine aE (zZ _) ?_|refine aF (zZ _) ?_|simp[gn,hi,bC]);all_goals first|(refine⟨by unfold lim;omega,?_⟩)|skip
   (with_reducible repeat' first|refine ak ?_|simp);refine bL.rng (out++[K3 v x b]) hi ⟨by rw[uZ,dR,List.map_append];rfl,fun c aw=>?_⟩ ?_
   ·rw[uZ]at aw;rcases ki.1 aw with aw|aw
    ·exact o8 c aw
    ·simp at aw;subst aw;exact bC
   ·simp[K3];exact⟨by simp[fresh,aH,aB,cf,inObs,Pv.look,jv],eh (by simp[fresh,aH,aB,cf,inObs,Pv.look,jv]),ei (by simp[fresh,aH,aB,dN,inObs,Pv.look,jv]),by simp⟩
  ·rw[de fun h=>bC (h.2.2.2 b (eP aK))];(with_reducible repeat' first|refine ak ?_|refine aE (F5 _ _ _) ?_|refine aF (F5 _ _ _) ?_|refine aE (zZ _) ?_|refine aF (zZ _) ?_|simp[gn,hi,bC]);simp[bA,zE,aV,aY,aU];simp[ga]
theorem ajj{s:List aq}(ag:fu s)(aI:hg s){n:Nat}{a b:T}{o:aW (List aq)}(h:kf n s a b=some o):ie s [(a,b)] o:=by obtain⟨n',o',J,U⟩:=F1 ag aI a b;have aj:=CE (Nat.le_max_left n n') h;have aC:=CE (Nat.le_max_right n n') J;rw[aj]at aC;cases aC;exact U
def zW(n:Nat):List (T×T)→List aq→aW (aW (List aq))
 |[],s=>some (some s)
 |e::r,s=>match kf n s e.1 e.2 with
  |none=>none
  |some none=>some none
  |some (some s1)=>zW n r s1
def xb(x y:T):Bool:=x.kind==y.kind&&x.int==y.int&&x.name==y.name
theorem ajh(n:Nat)(s:List aq){x y:T}(ad:x.kind≠1)(aL:y.kind≠1):jD (kf n) s x y=if xb x y then zW n (x.args.zip y.args) s else some none:=by
 cases x<;>cases y<;>simp[jD,xb,zW]at ad aL⊢
 ·rename_i a b;split<;>simp_all
 ·rename_i a b;split<;>simp_all
 ·rename_i bz a2 b9 bZ;cases kf n s bz b9 with
  |none=>rfl
  |some o=>cases o with
   |none=>rfl
   |some s1=>
    simp only
    cases kf n s1 a2 bZ with
    |none=>rfl
    |some o=>cases o<;>rfl
theorem aeb{x y:T}(h:xb x y=true):x.args.length=y.args.length:=by cases x<;>cases y<;>simp[xb]at h⊢
@[simp] theorem alJ(o:aW (List aq)):yg 0 (ga o)=some (True,.slice 5 .no ((o.getD []).map aq.e)):=rfl
@[simp] theorem alK(o:aW (List aq)):yg 1 (ga o)=some (True,.bool o.isSome):=rfl
set_option maxRecDepth 4000 in
theorem ajZ(n:Nat):∀(s:List aq) (a b:T) (o:aW (List aq)),fu s→hg s→kf n s a b=some o→bI ao 180 [.slice 5 .no (s.map aq.e),a.e,b.e] (ga o):=by
 induction n with
 |zero=>intro s a b o _ _ h;simp[kf]at h
 |succ n bM=>
  intro s a b o ag aI he;have au:s.length≤1000000:=by have:=aI.1;omega
  have eD:=F7 s au a;have dq:=F7 s au b;simp only[kf]at he;generalize gV s a=x at he eD;generalize gV s b=y at he dq;have ae:=fun v t=>ajV s v t au ag.asc;have pZ:∀z:T,¬z.kind=1→(z.kind==1)=false:=fun z h=>by simp[h]
  by_cases ad:x.kind=1
  ·obtain⟨i,rfl⟩:∃i,x= .var i:=by cases x<;>simp at ad;exact⟨_,rfl⟩
   by_cases aL:y.kind=1
   ·obtain⟨j,rfl⟩:∃j,y= .var j:=by cases y<;>simp at aL;exact⟨_,rfl⟩
    simp only[jD,dz]at he;subst he;rcases Int.lt_trichotomy i j with h|h|h
    ·rw[if_pos h];have key:=ae j (.var i);refine br et s8 tL fun aR=>?_;unfold rK;simp;(with_reducible repeat' first|refine ak ?_|refine aE eD ?_|refine aF eD ?_|refine aE dq ?_|refine aF dq ?_|refine aE key ?_|refine aF key ?_|simp[h]);simp[bA,rh,aV,aY,aU];simp[ga]
    ·subst h;rw[if_neg (by omega),if_pos rfl];have bs:¬i<i:=by omega
     refine br et s8 tL fun aR=>?_;unfold rK;simp;(with_reducible repeat' first|refine ak ?_|refine aE eD ?_|refine aF eD ?_|refine aE dq ?_|refine aF dq ?_|simp[bs]);simp[bA,rh,aV,aY,aU];simp[ga]
    ·rw[if_neg (by omega),if_neg (by omega)];have key:=ae i (.var j);have bs:¬i<j:=by omega
     have U:¬i=j:=by omega
     refine br et s8 tL fun aR=>?_;unfold rK;simp;((with_reducible repeat' first|refine ak ?_|refine aE eD ?_|refine aF eD ?_|refine aE dq ?_|refine aF dq ?_|refine aE key ?_|refine aF key ?_|simp[bs,U]|((first|apply bO|apply bS|apply bR)<;>intro h<;>try simp at h))<;>(try exact cq));simp[bA,rh,aV,aY,aU];simp[ga]
   ·have uM:mY s i y=o:=by cases y<;>first|(simp at aL;done)|exact fw he
    subst uM;have key:=ae i y;refine br et s8 tL fun aR=>?_;unfold rK;simp;(with_reducible repeat' first|refine ak ?_|refine aE eD ?_|refine aF eD ?_|refine aE dq ?_|refine aF dq ?_|refine aE key ?_|refine aF key ?_|simp[pZ y aL]);simp[bA,rh,aV,aY,aU];simp[ga]
  ·by_cases aL:y.kind=1
   ·obtain⟨j,rfl⟩:∃j,y= .var j:=by cases y<;>simp at aL;exact⟨_,rfl⟩
    have uM:mY s j x=o:=by cases x<;>first|(simp at ad;done)|exact fw he
    subst uM;have key:=ae j x;refine br et s8 tL fun aR=>?_;unfold rK;simp;(with_reducible repeat' first|refine ak ?_|refine aE eD ?_|refine aF eD ?_|refine aE dq ?_|refine aF dq ?_|refine aE key ?_|refine aF key ?_|simp[pZ x ad]);simp[bA,rh,aV,aY,aU];simp[ga]
   ·rw[ajh n s ad aL]at he;cases hle:xb x y with
    |false=>
     rw[hle]at he;simp at he;subst he;have Ik:(x.kind !=y.kind)=true∨((x.kind !=y.kind)=false∧((x.int !=y.int)=true∨((x.int !=y.int)=false∧(x.name !=y.name)=true))):=by simp only[xb]at hle;simp only[bne];cases aj:(x.kind==y.kind)<;>cases aC:(x.int==y.int)<;>cases bg:(x.name==y.name)<;>simp_all
     rcases Ik with aZ|⟨aZ,bB|⟨bB,bQ⟩⟩
     ·refine br et s8 tL fun aR=>?_;unfold rK;simp;(with_reducible repeat' first|refine ak ?_|refine aE eD ?_|refine aF eD ?_|refine aE dq ?_|refine aF dq ?_|simp[pZ x ad,pZ y aL,aZ]);simp[bA,rh,aV,aY,aU];simp[ga]
     ·refine br et s8 tL fun aR=>?_;unfold rK;simp;(with_reducible repeat' first|refine ak ?_|refine aE eD ?_|refine aF eD ?_|refine aE dq ?_|refine aF dq ?_|simp[pZ x ad,pZ y aL,aZ,bB]);simp[bA,rh,aV,aY,aU];simp[ga]
     ·refine br et s8 tL fun aR=>?_;unfold rK;simp;have Fb:¬x.name=y.name:=by simpa using bQ
      have ag9:decide (x.name=y.name)=false:=by simp[Fb]
      ((with_reducible repeat' first|refine ak ?_|refine aE eD ?_|refine aF eD ?_|refine aE dq ?_|refine aF dq ?_|simp[pZ x ad,pZ y aL,aZ,bB,bQ,Fb,ag9]|((first|apply bO|apply bS|apply bR)<;>intro h<;>try simp at h))<;>(try exact cq));simp[bA,rh,aV,aY,aU];simp[ga]
    |true=>
     rw[hle,if_pos rfl]at he;have Ik:(x.kind !=y.kind)=false∧(x.int !=y.int)=false∧(x.name !=y.name)=false:=by simp only[xb]at hle;simp only[bne];cases aj:(x.kind==y.kind)<;>cases aC:(x.int==y.int)<;>cases bg:(x.name==y.name)<;>simp_all
     obtain⟨aZ,bB,bQ⟩:=Ik;have hlen:=aeb hle;have Fb:x.name=y.name:=by simpa using bQ
     have qJ:x.args.length≤2:=by cases x<;>simp
     refine br et s8 tL fun aR=>?_;unfold rK;simp;(with_reducible repeat' first|refine ak ?_|refine aE eD ?_|refine aF eD ?_|refine aE dq ?_|refine aF dq ?_|simp[pZ x ad,pZ y aL,aZ,bB,Fb]);refine ik (α:=List aq) (fun i ai=>⟨[(5,.ptr (.loc 1) 0),(96,.slice 4 .no (x.args.map T.e)),(97,.int .i64 x.args.length),(0,.slice 5 .no (ai.map aq.e)),(98,.int .i64 i)],[(.loc 1,[.int .i64 y.kind,.int .i64 y.int,.str y.name,.slice 4 .no (y.args.map T.e)])],[],2,[]⟩) x.args.length (fun i ai=>(fu ai∧hg ai)∧zW n ((x.args.zip y.args).drop i) ai=some o) s b4 ⟨⟨ag,aI⟩,by simpa using he⟩ (fun ai af _=>?_) (fun i ai hi af _=>?_)
     ·obtain⟨_,af⟩:=af;rw[List.drop_eq_nil_of_le (by simp[hlen])]at af;simp[zW]at af;subst af;simp;(with_reducible repeat' first|refine ak ?_|simp);simp[bA,rh,aV,aY,aU];simp[ga]
     ·obtain⟨⟨g1,g2⟩,af⟩:=af;obtain⟨bz,bD⟩:∃a,x.args[i]? =some a:=⟨_,ca hi⟩;obtain⟨b9,fL⟩:∃b,y.args[i]? =some b:=⟨_,ca (by omega)⟩;have my:∀h,(x.args[i]'h)=bz:=fun h=>by rw[ca hi]at bD;exact fw bD
      have cG:∀h,(y.args[i]'h)=b9:=fun h=>by rw[ca h]at fL;exact fw fL
      have qP:i<y.args.length:=by omega
      have aP:(x.args.zip y.args).drop i=(bz,b9)::(x.args.zip y.args).drop (i+1):=by rw[kQ (by simp;omega)];simp[my,cG]
      rw[aP]at af;simp only[zW]at af;simp[hi,my,cG,qP];cases hu:kf n ai bz b9 with
      |none=>rw[hu]at af;cases af
      |some gF=>
       have key:=bM ai bz b9 gF g1 g2 hu;rw[hu]at af;cases gF with
       |none=>simp at af;subst af;(with_reducible repeat' first|refine ak ?_|refine aE key ?_|refine aF key ?_|simp[my,cG,hi,qP]);simp[bA,rh,aV,aY,aU];simp[ga]
       |some s1=>have ac6:=ajj g1 g2 hu;(with_reducible repeat' first|refine ak ?_|refine aE key ?_|refine aF key ?_|simp[my,cG,hi,qP]);refine bL.rng s1 hi ⟨ac6.1,af⟩ ?_;exact b4
theorem ajY(s:List aq)(a b:T)(ag:fu s)(aI:hg s):bI ao 180 [.slice 5 .no (s.map aq.e),a.e,b.e] (ga (mgu s [(a,b)])):=by obtain⟨n,o,J,U⟩:=F1 ag aI a b;rw[q8 U];exact ajZ n s a b o ag aI J
def adJ(s:List aq)(E:List (T×T))(i:Nat)(ai:List aq):Prop:=(fu ai∧hg ai)∧mgu ai (E.drop i)=mgu s E
theorem ajU(s:List aq)(l r:List T)(au:l.length=r.length)(ag:fu s)(aI:hg s)(wM:l.length≤1000000):bI ao 202 [.slice 5 .no (s.map aq.e),.slice 4 .no (l.map T.e),.slice 4 .no (r.map T.e)] (ga (mgu s (l.zip r))):=by
 refine br et aam agK fun aR=>?_;unfold Og;simp;refine ik (α:=List aq) (fun i ai=>⟨[(2,.slice 4 .no (r.map T.e)),(12,.slice 4 .no (l.map T.e)),(13,.int .i64 l.length),(0,.slice 5 .no (ai.map aq.e)),(14,.int .i64 i)],[],[],0,[]⟩) l.length (adJ s (l.zip r)) s b4 ⟨⟨ag,aI⟩,by simp⟩ (fun ai af _=>?_) (fun i ai hi af _=>?_)
 ·obtain⟨⟨g1,g2⟩,af⟩:=af;rw[List.drop_eq_nil_of_le (by simp[au]),JF g1 g2]at af;rw[←af];simp;(with_reducible repeat' first|refine ak ?_|simp);simp[bA,Kw,aV,aY,aU];simp[ga]
 ·obtain⟨⟨g1,g2⟩,af⟩:=af;obtain⟨a,bD⟩:∃a,l[i]? =some a:=⟨_,ca hi⟩;obtain⟨b,fL⟩:∃b,r[i]? =some b:=⟨_,ca (by omega)⟩;have my:∀h,(l[i]'h)=a:=fun h=>by rw[ca hi]at bD;exact fw bD
  have cG:∀h,(r[i]'h)=b:=fun h=>by rw[ca h]at fL;exact fw fL
  have qP:i<r.length:=by omega
  have aP:(l.zip r).drop i=(a,b)::(l.zip r).drop (i+1):=by rw[kQ (by simp;omega)];simp[my,cG]
  rw[aP,JE g1 g2]at af;simp[hi,my,cG,qP];have key:=ajY ai a b g1 g2;cases hu:mgu ai [(a,b)]with
  |none=>rw[hu]at af key;simp only at af;rw[←af];(with_reducible repeat' first|refine ak ?_|refine aE key ?_|refine aF key ?_|simp[my,cG,hi,qP]);simp[bA,Kw,aV,aY,aU];simp[ga]
  |some s1=>have oK:=zc g1 g2 hu;rw[hu]at af key;(with_reducible repeat' first|refine ak ?_|refine aE key ?_|refine aF key ?_|simp[my,cG,hi,qP]);refine bL.rng s1 hi ⟨oK,af⟩ ?_;exact b4
theorem jS(n:Int):bI ao 114 [.int .i64 n] (T.var n).e:=by refine br gh aah agF fun aR=>?_;unfold Oa;exact ct
def adN(t:List aq)(i:Nat)(p:List T×List T):Prop:=p.1=(t.take i).map (fun b=>T.var b.v)∧p.2=(t.take i).map (·.t)
theorem ajW(s t:List aq)(ag:fu s)(aI:hg s)(aO:t.length≤1000000):bI ao 152 [.slice 5 .no (s.map aq.e),.slice 5 .no (t.map aq.e)] (ga (mgu s (hs t))):=by
 have bC:(t.map fun b=>T.var b.v).zip (t.map (·.t))=hs t:=by rw[hs,List.zip_map']
 refine br et aan agL fun aR=>?_;unfold Oh;simp;refine ik (α:=List T×List T) (fun i p=>⟨[(0,.slice 5 .no (s.map aq.e)),(12,.slice 5 .no (t.map aq.e)),(13,.int .i64 t.length),(6,.slice 4 (.own (.loc 0)) (p.1.map T.e)),(7,.slice 4 (.own (.loc 1)) (p.2.map T.e)),(14,.int .i64 i)],[],[(.loc 0,⟨p.1.length,30,4,none⟩),(.loc 1,⟨p.2.length,30,4,none⟩)],2,[]⟩) t.length (adN t) ([],[]) b4 ⟨by simp,by simp⟩ (fun p af _=>?_) (fun i p hi af _=>?_)
 ·obtain⟨A,B⟩:=p;obtain⟨bd,km⟩:=af;simp only at bd km⊢;rw[hq (eQ _)]at bd km;have key:=ajU s A B (by rw[bd,km];simp) ag aI (by rw[bd];simpa using aO);rw[bd,km,bC,←bd,←km]at key;simp;(with_reducible repeat' first|refine ak ?_|refine aE key ?_|refine aF key ?_|simp);simp[bA,TZ,aV,aY,aU];simp[ga]
 ·obtain⟨A,B⟩:=p;obtain⟨bd,km⟩:=af;simp only at bd km⊢;obtain⟨b,aK,gn⟩:=ep hi;have uZ:t.take (i+1)=t.take i++[b]:=by rw[List.take_succ,aK];rfl
  have abx:A.length≤1000000:=by rw[bd];simp;omega
  have aby:B.length≤1000000:=by rw[km];simp;omega
  simp[hi,gn];(with_reducible repeat' first|refine ak ?_|refine aE (jS _) ?_|refine aF (jS _) ?_|simp[gn,hi]);all_goals first|(refine⟨by unfold lim;omega,?_⟩)|skip
  (with_reducible repeat' first|refine ak ?_|simp);all_goals first|(refine⟨by unfold lim;omega,?_⟩)|skip
  (with_reducible repeat' first|refine ak ?_|simp);refine bL.rng (A++[.var b.v],B++[b.t]) hi ⟨by rw[uZ,bd];simp,by rw[uZ,km];simp⟩ ?_;simp;exact⟨by simp[fresh,aH,aB,cf,inObs,Pv.look,jv],eh (by simp[fresh,aH,aB,cf,inObs,Pv.look,jv]),ei (by simp[fresh,aH,aB,dN,inObs,Pv.look,jv]),by simp⟩
theorem dp(n lo hi:Int):bI ao 75 [.int .i64 n,.int .i64 lo,.int .i64 hi] (.bool (decide (lo≤n∧n≤hi))):=by
 refine br et Z9 agx fun aR=>?_;unfold N2;simp;((with_reducible repeat' first|refine ak ?_|simp|((first|apply bO|apply bS|apply bR)<;>intro h<;>try simp at h))<;>(try exact cq));all_goals simp[bA,TT,aV,aY,aU]
 all_goals first|omega|(simp;done)|(simp;omega)
def shp:bP→Bool
 | .mk k n s [a,b]=>k==4&&n==0&&s==[]&&shp a&&shp b
 | .mk k n s []=>kK k n s
 |_=>false
theorem FM:∀x:T,shp x.tm=x.ok
 | .nil=>by simp[T.tm,shp,kK,T.ok]
 | .var _=>by simp[T.tm,shp,kK,T.ok]
 | .sym _=>by simp[T.tm,shp,kK,T.ok]
 | .num _=>by simp[T.tm,shp,kK,T.ok]
 | .pair a b=>by simp[T.tm,shp,T.ok,FM a,FM b]
theorem aiB:∀(m:Nat) (t:bP),t.sz≤m→shp t=true→∃x:T,x.tm=t:=by
 intro m;induction m with
 |zero=>intro t aO;cases t;simp[bP.sz]at aO
 |succ m bM=>
  rintro⟨k,n,s,args⟩ aO h;match args with
  |[a,b]=>
   simp[bP.sz,bP.szL]at aO;simp only[shp,cA,dG]at h;obtain⟨⟨⟨⟨rfl,rfl⟩,al⟩,J⟩,U⟩:=h;obtain⟨x,rfl⟩:=bM a (by omega) J;obtain⟨y,rfl⟩:=bM b (by omega) U;have:s=[]:=by simpa using al
   subst this;exact⟨.pair x y,rfl⟩
  |[]=>
   simp only[shp,kK]at h;split at h
   ·subst_vars;simp at h;exact⟨.nil,by simp[T.tm,h]⟩
   split at h
   ·subst_vars;simp at h;exact⟨.var n,by simp[T.tm,h]⟩
   split at h
   ·subst_vars;simp at h;exact⟨.sym s,by simp[T.tm,h]⟩
   split at h
   ·subst_vars;simp at h;exact⟨.num n,by simp[T.tm,h]⟩
   ·simp at h
  |[_]=>simp[shp]at h
  |_::_::_::_=>simp[shp]at h
theorem aaz(t:bP):t.fits=(decide (kU t 5000≤5000)&&shp t):=by
 by_cases h:shp t=true
 ·obtain⟨x,rfl⟩:=aiB _ t (eQ _) h;have:=(Dr x 5000 (by omega)).1;rw[bP.fits_T,T.fit,h];rw[FM]at h;simp[h,this];omega
 ·have bs:t.fits=false:=by
   cases aI:t.fits with
   |false=>rfl
   |true=>obtain⟨x,rfl,ad⟩:=bP.fits_ex aI;rw[FM]at h;simp[T.fit]at ad;exact absurd ad.1 h
  simp at h;rw[bs,h];simp
def I1(s:List dA)(i:Nat):Prop:=i≤s.length∧∀k,k<i→lY (s.getD k 0)=true∧(k=0→low (s.getD k 0)=true)
theorem adH{s:List dA}(h:I1 s s.length):jl s=decide (1≤s.length∧s.length≤12):=by
 unfold jl;by_cases au:1≤s.length
 ·have J:=(h.2 0 (by omega)).2 rfl;have U:(s.drop 1).all lY=true:=by rw[ja];intro b ae;obtain⟨i,hi,e⟩:=mS ae;simp at hi e;have:=(h.2 (i+1) (by omega)).1;rw[List.getD_eq_getElem?_getD,ca (by omega)]at this;simp only[kR]at this;rw[←e];exact this
  rw[J,U];simp
 ·have:decide (1≤s.length∧s.length≤12)=false:=by simp;omega
  rw[this];simp
theorem adG{s:List dA}{i:Nat}(hi:i<s.length)(h:lY (s.getD i 0)=false∨(i=0∧low (s.getD i 0)=false)):jl s=false:=by
 cases e:jl s with
 |false=>rfl
 |true=>
  exfalso;simp only[jl,cA,ja]at e;obtain⟨⟨_,aj⟩,aC⟩:=e;rcases h with h|⟨rfl,h⟩
  ·by_cases bs:i=0
   ·subst bs;rw[lY,aj]at h;simp at h
   ·have:=aC (s.getD i 0) (by rw[List.getD_eq_getElem?_getD,ca hi];simp only[kR];refine List.mem_iff_getElem.2 ⟨i-1,by simp;omega,?_⟩;simp[show i-1+1=i from by omega])
    rw[this]at h;cases h
  ·rw[aj]at h;cases h
theorem gG(s:List dA):bI ao 119 [.str s] (.bool (jl s)):=by
 generalize bh:jl s=R;refine br et Z4 ags fun aR=>?_;unfold NX;have eX:s.length≤68719476736:=by simp[eE,ej,eu,lim]at aR;omega
 simp;refine uC [0] (fun(i:Nat)=>[(3,.int .i64 i)]) (fun i=>s.length-i) (I1 s) 0 b4 ⟨by omega,fun k ab=>by omega⟩ (fun i af _=>?_);have dR:=af.1;by_cases hi:i<s.length
 ·have de:=adG hi;rw[bh]at de;obtain⟨c,aw,jL⟩:=ep hi;have Qd:s.getD i 0=c:=by simp[List.getD_eq_getElem?_getD,aw]
  rw[Qd]at de;have c9:lY c=true→(i=0→low c=true)→I1 s (i+1):=fun J U=>⟨by omega,fun k ab=>by
   rcases(by omega:k<i∨k=i)with h|rfl
   ·exact af.2 k h
   ·rw[Qd];exact⟨J,U⟩⟩
  have hw:IntKind.i64.wrap (c.toNat:Int)=c.toNat:=oc _ (by have:=c.toNat_lt;omega);simp[hi,jL,aw];by_cases aZ:(97:Int)≤c.toNat
  ·by_cases bB:(c.toNat:Int)≤122
   ·have au:low c=true:=by simp[low];omega
    (with_reducible repeat' first|refine ak ?_|refine aE (dp _ _ _) ?_|refine aF (dp _ _ _) ?_|simp[hi,jL,aw,aZ,bB]);exact bL.whl (i+1) (by omega) (c9 (by simp[lY,au]) (fun _=>au)) b4
   ·have au:low c=false:=by simp[low];omega
    by_cases bs:i=0
    ·rw[de (.inr ⟨bs,au⟩)];have qG:((i:Int)==0)=true:=by simp[bs]
     (with_reducible repeat' first|refine ak ?_|refine aE (dp _ _ _) ?_|refine aF (dp _ _ _) ?_|simp[hi,jL,aw,aZ,bB,qG,hw]);simp[bA,zA,aV,aY,aU]
    ·have qG:((i:Int)==0)=false:=by simp[bs]
     by_cases bQ:(c.toNat:Int)=45
     ·have rf:((c.toNat:Int) !=45)=false:=by simp[bQ]
      (with_reducible repeat' first|refine ak ?_|refine aE (dp _ _ _) ?_|refine aF (dp _ _ _) ?_|simp[hi,jL,aw,aZ,bB,qG,hw,bQ,rf]);all_goals exact bL.whl (i+1) (by omega) (c9 (by simp[lY];omega) (fun h=>absurd h bs)) b4
     ·have rf:((c.toNat:Int) !=45)=true:=by simp[bQ]
      by_cases cS:(48:Int)≤c.toNat∧(c.toNat:Int)≤57
      ·(with_reducible repeat' first|refine ak ?_|refine aE (dp _ _ _) ?_|refine aF (dp _ _ _) ?_|simp[hi,jL,aw,aZ,bB,qG,hw,bQ,rf,cS]);all_goals exact bL.whl (i+1) (by omega) (c9 (by simp[lY];omega) (fun h=>absurd h bs)) b4
      ·rw[de (.inl (by simp[lY,au];omega))];(with_reducible repeat' first|refine ak ?_|refine aE (dp _ _ _) ?_|refine aF (dp _ _ _) ?_|simp[hi,jL,aw,aZ,bB,qG,hw,bQ,rf,cS]);simp[bA,zA,aV,aY,aU]
  ·have au:low c=false:=by simp[low];omega
   by_cases bs:i=0
   ·rw[de (.inr ⟨bs,au⟩)];have qG:((i:Int)==0)=true:=by simp[bs]
    (with_reducible repeat' first|refine ak ?_|refine aE (dp _ _ _) ?_|refine aF (dp _ _ _) ?_|simp[hi,jL,aw,aZ,qG,hw]);simp[bA,zA,aV,aY,aU]
   ·have qG:((i:Int)==0)=false:=by simp[bs]
    by_cases bQ:(c.toNat:Int)=45
    ·have rf:((c.toNat:Int) !=45)=false:=by simp[bQ]
     (with_reducible repeat' first|refine ak ?_|refine aE (dp _ _ _) ?_|refine aF (dp _ _ _) ?_|simp[hi,jL,aw,aZ,qG,hw,bQ,rf]);all_goals exact bL.whl (i+1) (by omega) (c9 (by simp[lY];omega) (fun h=>absurd h bs)) b4
    ·have rf:((c.toNat:Int) !=45)=true:=by simp[bQ]
     by_cases cS:(48:Int)≤c.toNat∧(c.toNat:Int)≤57
     ·(with_reducible repeat' first|refine ak ?_|refine aE (dp _ _ _) ?_|refine aF (dp _ _ _) ?_|simp[hi,jL,aw,aZ,qG,hw,bQ,rf,cS]);all_goals exact bL.whl (i+1) (by omega) (c9 (by simp[lY];omega) (fun h=>absurd h bs)) b4
     ·rw[de (.inl (by simp[lY,au];omega))];(with_reducible repeat' first|refine ak ?_|refine aE (dp _ _ _) ?_|refine aF (dp _ _ _) ?_|simp[hi,jL,aw,aZ,qG,hw,bQ,rf,cS]);simp[bA,zA,aV,aY,aU]
 ·have:i=s.length:=by omega
  subst this;rw[adH af]at bh;simp[hi];(with_reducible repeat' first|refine ak ?_|refine aE (dp _ _ _) ?_|refine aF (dp _ _ _) ?_|simp[hi]);simp[bA,zA,aV,aY,aU];rw[←bh,pH];simp;omega
def uc:List bP→Bool
 |[a,b]=>shp a&&shp b
 |_=>false
theorem aiA(k n:Int)(s:List dA)(args:List bP):shp ⟨k,n,s,args⟩=if k≠1∧k≠3∧n≠0 then false else if k≠2∧s≠[]then false else if k≠4∧args≠[]then false else if k=0 then true else if k=1 then decide (0≤n∧n≤100000)else if k=2 then jl s else if k=3 then decide (-1000000000≤n∧n≤1000000000)else if k=4 then uc args else false:=by
 by_cases e9:k=0
 ·subst e9;match args with
  |[]=>by_cases aA:n=0<;>by_cases ag:s=[]<;>simp[shp,kK,aA,ag]
  |[a]=>simp[shp]
  |[a,b]=>simp[shp]
  |_::_::_::_=>simp[shp]
 by_cases a8:k=1
 ·subst a8;match args with
  |[]=>by_cases ag:s=[]<;>simp[shp,kK,ag]
  |[a]=>simp[shp]
  |[a,b]=>simp[shp]
  |_::_::_::_=>simp[shp]
 by_cases bU:k=2
 ·subst bU;match args with
  |[]=>by_cases aA:n=0<;>simp[shp,kK,aA]
  |[a]=>simp[shp]
  |[a,b]=>simp[shp]
  |_::_::_::_=>simp[shp]
 by_cases cj:k=3
 ·subst cj;match args with
  |[]=>by_cases ag:s=[]<;>simp[shp,kK,ag]
  |[a]=>simp[shp]
  |[a,b]=>simp[shp]
  |_::_::_::_=>simp[shp]
 by_cases eB:k=4
 ·subst eB;match args with
  |[]=>simp[shp,kK,uc]
  |[a]=>simp[shp,uc]
  |[a,b]=>by_cases aA:n=0<;>by_cases ag:s=[]<;>simp[shp,uc,aA,ag]
  |_::_::_::_=>simp[shp,uc]
 ·match args with
  |[]=>simp[shp,kK,e9,a8,bU,cj,eB]
  |[a]=>simp[shp,e9,a8,bU,cj,eB]
  |[a,b]=>simp[shp,e9,a8,bU,cj,eB]
  |_::_::_::_=>simp[shp,e9,a8,bU,cj,eB]
set_option maxRecDepth 8000 in
theorem ajQ(m:Nat):∀(t:bP),t.sz≤m→bI ao 124 [enc t] (.bool (shp t)):=by
 induction m with
 |zero=>intro t aO;cases t;simp[bP.sz]at aO
 |succ m bM=>
 rintro⟨k,n,s,args⟩ aO;generalize bh:shp ⟨k,n,s,args⟩=R;have ds:=aiA k n s args;rw[bh]at ds;by_cases b9:k≠1∧k≠3∧n≠0
 ·rw[if_pos b9]at ds;obtain⟨a8,cj,n0⟩:=b9;have y1:(k !=1)=true:=by simp[a8]
  have y2:(k !=3)=true:=by simp[cj]
  have JJ:(n !=0)=true:=by simp[n0]
  subst ds;refine br et lR l8 fun aR=>?_;unfold lr;simp[bP.kind,bP.num,bP.name,bP.args];(with_reducible repeat' first|refine ak ?_|refine aE (dp _ _ _) ?_|refine aF (dp _ _ _) ?_|refine aE (gG _) ?_|refine aF (gG _) ?_|simp[y1,y2,JJ]);all_goals simp[bA,ld,aV,aY,aU]
 rw[if_neg b9]at ds;have Al:(if k !=1 then k !=3 else false)=true→(n !=0)=false:=by intro h;simp at h⊢;exact Classical.byContradiction fun aA=>b9 ⟨h.1,h.2,aA⟩
 by_cases bZ:k≠2∧s≠[]
 ·rw[if_pos bZ]at ds;have Ev:(k !=2)=true:=by simp[bZ.1]
  have KO:s.isEmpty=false:=by simp[bZ.2]
  by_cases a8:k=1
  ·subst a8;subst ds;refine br et lR l8 fun aR=>?_;unfold lr;simp[bP.kind,bP.num,bP.name,bP.args];(with_reducible repeat' first|refine ak ?_|refine aE (dp _ _ _) ?_|refine aF (dp _ _ _) ?_|refine aE (gG _) ?_|refine aF (gG _) ?_|simp[KO]);all_goals simp[bA,ld,aV,aY,aU]
  by_cases cj:k=3
  ·subst cj;subst ds;refine br et lR l8 fun aR=>?_;unfold lr;simp[bP.kind,bP.num,bP.name,bP.args];(with_reducible repeat' first|refine ak ?_|refine aE (dp _ _ _) ?_|refine aF (dp _ _ _) ?_|refine aE (gG _) ?_|refine aF (gG _) ?_|simp[KO]);all_goals simp[bA,ld,aV,aY,aU]
  have y1:(k !=1)=true:=by simp[a8]
  have y2:(k !=3)=true:=by simp[cj]
  have JJ:(n !=0)=false:=Al (by simp[a8,cj]);subst ds;refine br et lR l8 fun aR=>?_;unfold lr;simp[bP.kind,bP.num,bP.name,bP.args];(with_reducible repeat' first|refine ak ?_|refine aE (dp _ _ _) ?_|refine aF (dp _ _ _) ?_|refine aE (gG _) ?_|refine aF (gG _) ?_|simp[y1,y2,JJ,Ev,KO]);all_goals simp[bA,ld,aV,aY,aU]
 rw[if_neg bZ]at ds;by_cases e9:k=0
 ·subst e9;have n0:n=0:=by simpa using Al (by decide)
  have s0:s=[]:=Classical.byContradiction fun h=>bZ ⟨by omega,h⟩;subst n0 s0;by_cases a0:args=[];rotate_left
  ·rw[if_pos ⟨by omega,a0⟩]at ds;have sQ:(0:Int)<args.length:=by have:=List.length_pos_iff.2 a0;omega
   subst ds;refine br et lR l8 fun aR=>?_;unfold lr;simp[bP.kind,bP.num,bP.name,bP.args];((with_reducible repeat' first|refine ak ?_|refine aE (dp _ _ _) ?_|refine aF (dp _ _ _) ?_|refine aE (gG _) ?_|refine aF (gG _) ?_|simp[Int.natCast_nonneg,sQ]|((first|apply bO|apply bS|apply bR)<;>intro h<;>try simp at h))<;>(try exact cq));all_goals simp[bA,ld,aV,aY,aU]
  rw[if_neg (by simp[a0])]at ds;subst a0;simp at ds;subst ds;refine br et lR l8 fun aR=>?_;unfold lr;simp[bP.kind,bP.num,bP.name,bP.args];(with_reducible repeat' first|refine ak ?_|refine aE (dp _ _ _) ?_|refine aF (dp _ _ _) ?_|refine aE (gG _) ?_|refine aF (gG _) ?_|simp[Int.natCast_nonneg]);all_goals simp[bA,ld,aV,aY,aU]
 by_cases a8:k=1
 ·subst a8;have s0:s=[]:=Classical.byContradiction fun h=>bZ ⟨by omega,h⟩;subst s0;by_cases a0:args=[];rotate_left
  ·rw[if_pos ⟨by omega,a0⟩]at ds;have sQ:(0:Int)<args.length:=by have:=List.length_pos_iff.2 a0;omega
   subst ds;refine br et lR l8 fun aR=>?_;unfold lr;simp[bP.kind,bP.num,bP.name,bP.args];((with_reducible repeat' first|refine ak ?_|refine aE (dp _ _ _) ?_|refine aF (dp _ _ _) ?_|refine aE (gG _) ?_|refine aF (gG _) ?_|simp[Int.natCast_nonneg,sQ]|((first|apply bO|apply bS|apply bR)<;>intro h<;>try simp at h))<;>(try exact cq));all_goals simp[bA,ld,aV,aY,aU]
  rw[if_neg (by simp[a0])]at ds;subst a0;simp at ds;subst ds;refine br et lR l8 fun aR=>?_;unfold lr;simp[bP.kind,bP.num,bP.name,bP.args];(with_reducible repeat' first|refine ak ?_|refine aE (dp _ _ _) ?_|refine aF (dp _ _ _) ?_|refine aE (gG _) ?_|refine aF (gG _) ?_|simp[Int.natCast_nonneg]);all_goals simp[bA,ld,aV,aY,aU]
 by_cases bU:k=2
 ·subst bU;have n0:n=0:=by simpa using Al (by decide)
  subst n0;by_cases a0:args=[];rotate_left
  ·rw[if_pos ⟨by omega,a0⟩]at ds;have sQ:(0:Int)<args.length:=by have:=List.length_pos_iff.2 a0;omega
   subst ds;refine br et lR l8 fun aR=>?_;unfold lr;simp[bP.kind,bP.num,bP.name,bP.args];((with_reducible repeat' first|refine ak ?_|refine aE (dp _ _ _) ?_|refine aF (dp _ _ _) ?_|refine aE (gG _) ?_|refine aF (gG _) ?_|simp[Int.natCast_nonneg,sQ]|((first|apply bO|apply bS|apply bR)<;>intro h<;>try simp at h))<;>(try exact cq));all_goals simp[bA,ld,aV,aY,aU]
  rw[if_neg (by simp[a0])]at ds;subst a0;simp at ds;subst ds;refine br et lR l8 fun aR=>?_;unfold lr;simp[bP.kind,bP.num,bP.name,bP.args];(with_reducible repeat' first|refine ak ?_|refine aE (dp _ _ _) ?_|refine aF (dp _ _ _) ?_|refine aE (gG _) ?_|refine aF (gG _) ?_|simp[Int.natCast_nonneg]);all_goals simp[bA,ld,aV,aY,aU]
 by_cases cj:k=3
 ·subst cj;have s0:s=[]:=Classical.byContradiction fun h=>bZ ⟨by omega,h⟩;subst s0;by_cases a0:args=[];rotate_left
  ·rw[if_pos ⟨by omega,a0⟩]at ds;have sQ:(0:Int)<args.length:=by have:=List.length_pos_iff.2 a0;omega
   subst ds;refine br et lR l8 fun aR=>?_;unfold lr;simp[bP.kind,bP.num,bP.name,bP.args];((with_reducible repeat' first|refine ak ?_|refine aE (dp _ _ _) ?_|refine aF (dp _ _ _) ?_|refine aE (gG _) ?_|refine aF (gG _) ?_|simp[Int.natCast_nonneg,sQ]|((first|apply bO|apply bS|apply bR)<;>intro h<;>try simp at h))<;>(try exact cq));all_goals simp[bA,ld,aV,aY,aU]
  rw[if_neg (by simp[a0])]at ds;subst a0;simp at ds;subst ds;refine br et lR l8 fun aR=>?_;unfold lr;simp[bP.kind,bP.num,bP.name,bP.args];(with_reducible repeat' first|refine ak ?_|refine aE (dp _ _ _) ?_|refine aF (dp _ _ _) ?_|refine aE (gG _) ?_|refine aF (gG _) ?_|simp[Int.natCast_nonneg]);all_goals simp[bA,ld,aV,aY,aU]
 by_cases eB:k=4
 ·subst eB;have n0:n=0:=by simpa using Al (by decide)
  have s0:s=[]:=Classical.byContradiction fun h=>bZ ⟨by omega,h⟩;subst n0 s0;simp at ds;match args,ds with
  |[a,b],ds=>
   simp[bP.sz,bP.szL]at aO;have bD:=bM a (by omega);have ae:=bM b (by omega);simp only[uc]at ds;subst ds;refine br et lR l8 fun aR=>?_;unfold lr;simp[bP.kind,bP.num,bP.name,bP.args];cases q:shp a with
   |true=>rw[q]at bD;(with_reducible repeat' first|refine ak ?_|refine aE bD ?_|refine aF bD ?_|refine aE ae ?_|refine aF ae ?_|simp[Int.natCast_nonneg]);all_goals simp[bA,ld,aV,aY,aU]
   |false=>rw[q]at bD;(with_reducible repeat' first|refine ak ?_|refine aE bD ?_|refine aF bD ?_|refine aE ae ?_|refine aF ae ?_|simp[Int.natCast_nonneg]);all_goals simp[bA,ld,aV,aY,aU]
  |[],ds=>simp only[uc]at ds;subst ds;refine br et lR l8 fun aR=>?_;unfold lr;simp[bP.kind,bP.num,bP.name,bP.args];(with_reducible repeat' first|refine ak ?_|refine aE (dp _ _ _) ?_|refine aF (dp _ _ _) ?_|refine aE (gG _) ?_|refine aF (gG _) ?_|simp[Int.natCast_nonneg]);all_goals simp[bA,ld,aV,aY,aU]
  |[_],ds=>simp only[uc]at ds;subst ds;refine br et lR l8 fun aR=>?_;unfold lr;simp[bP.kind,bP.num,bP.name,bP.args];(with_reducible repeat' first|refine ak ?_|refine aE (dp _ _ _) ?_|refine aF (dp _ _ _) ?_|refine aE (gG _) ?_|refine aF (gG _) ?_|simp[Int.natCast_nonneg]);all_goals simp[bA,ld,aV,aY,aU]
  |_::_::_::l,ds=>
   simp only[uc]at ds;have au:((l.length:Int)+1+1+1==2)=false:=by simp;omega
   subst ds;refine br et lR l8 fun aR=>?_;unfold lr;simp[bP.kind,bP.num,bP.name,bP.args];(with_reducible repeat' first|refine ak ?_|refine aE (dp _ _ _) ?_|refine aF (dp _ _ _) ?_|refine aE (gG _) ?_|refine aF (gG _) ?_|simp[au]);all_goals simp[bA,ld,aV,aY,aU]
 have n0:(n !=0)=false:=Al (by simp[a8,cj]);have s0:s=[]:=Classical.byContradiction fun h=>bZ ⟨bU,h⟩;subst s0;have Rr:(k==0)=false:=by simp[e9]
 have y1:(k==1)=false:=by simp[a8]
 have Ev:(k==2)=false:=by simp[bU]
 have y2:(k==3)=false:=by simp[cj]
 have Rv:(k==4)=false:=by simp[eB]
 have Rs:(k !=1)=true:=by simp[a8]
 have Rt:(k !=2)=true:=by simp[bU]
 have Ru:(k !=3)=true:=by simp[cj]
 have Rw:(k !=4)=true:=by simp[eB]
 by_cases a0:args=[]
 ·subst a0;simp[e9,a8,bU,cj,eB]at ds;subst ds;refine br et lR l8 fun aR=>?_;unfold lr;simp[bP.kind,bP.num,bP.name,bP.args];(with_reducible repeat' first|refine ak ?_|refine aE (dp _ _ _) ?_|refine aF (dp _ _ _) ?_|refine aE (gG _) ?_|refine aF (gG _) ?_|simp[Rr,y1,Ev,y2,Rv,Rs,Rt,Ru,Rw,n0]);all_goals simp[bA,ld,aV,aY,aU]
 ·rw[if_pos ⟨eB,a0⟩]at ds;have sQ:(0:Int)<args.length:=by have:=List.length_pos_iff.2 a0;omega
  subst ds;refine br et lR l8 fun aR=>?_;unfold lr;simp[bP.kind,bP.num,bP.name,bP.args];((with_reducible repeat' first|refine ak ?_|refine aE (dp _ _ _) ?_|refine aF (dp _ _ _) ?_|refine aE (gG _) ?_|refine aF (gG _) ?_|simp[sQ,Rr,y1,Ev,y2,Rv,Rs,Rt,Ru,Rw,n0]|((first|apply bO|apply bS|apply bR)<;>intro h<;>try simp at h))<;>(try exact cq));all_goals simp[bA,ld,aV,aY,aU]
theorem Vx(t:bP):bI ao 56 [enc t] (.bool t.fits):=by
 rw[aaz];have aw:=Vl t 5000 (by omega) (by omega);have ag:=ajQ t.sz t (eQ _);refine br et Z8 agw fun aR=>?_;unfold N1;simp;by_cases q:kU t 5000≤5000
 ·exact ct
 ·exact ct
def NY:C:=(aa [bm 2 false] (.seq (aa [I 5 0,cn 6 5,bV 7 0] (fG 8 7 6 (.seq (.block 1 (aa [I 9 7,cv 10 2 5 7,be 11 2 10,cX (.alloc 4 none (.agg [.int .i64 0,.int .i64 0])),I 3 9,b1 2 4 11] (.seq (.drawn true 42 [I 12 3,aS 13 .gtr 12 0,I 14 13,b3 14 true 15 0,b3 14 true 16 3,ar 14 true (aS 17 .sub 16 1),ar 14 true (cv 18 2 15 17),ar 14 true (aG 19 0 1 18),ar 14 true (ax 20 1 19),ar 14 true (aG 21 0 1 4),ar 14 true (ax 22 1 21),ar 14 true (bk 23 .geq 20 22),dH 24 14 23,I 25 24,ar 25 false (aG 26 0 1 4),ar 25 false (ax 27 1 26),ar 25 false (dE 28 75 [.t 27,(gi 0),(gi 100000)]),ar 25 false (cB 29 28),df 30 25 29,I 31 30,ar 31 false (aG 32 1 1 4),ar 31 false (ax 33 1 32),ar 31 false (aS 34 .neq 33 2),b3 31 false 35 34,ar 35 true (aG 36 1 1 4),ar 35 true (ax 37 1 36),ar 35 true (aS 38 .neq 37 3),ar 31 false (dH 39 35 38),df 40 31 39]) (aT 40 (aa [bm 2 false] .ret) .skip)))) (.region [aS 41 .add 7 1,I 7 41])))) (aa [bm 2 true] .ret)))
@[simp] def Cg:List bK:=[.tmp 2]
def NZ:C:=(aa [bm 2 false] (.seq (aa [I 5 0,cn 6 5,bV 7 0] (fG 8 7 6 (.seq (.block 1 (aa [I 9 7,cv 10 2 5 7,be 11 2 10,cX (.alloc 4 none (.agg [.int .i64 0,.str []])),I 3 9,b1 2 4 11] (.seq (.drawn true 37 [I 12 3,aS 13 .gtr 12 0,I 14 13,b3 14 true 15 0,b3 14 true 16 3,ar 14 true (aS 17 .sub 16 1),ar 14 true (cv 18 2 15 17),ar 14 true (be 19 2 18),ar 14 true (be 20 2 4),ar 14 true (cl 21 147 19 20),ar 14 true (cB 22 21),dH 23 14 22,I 24 23,ar 24 false (aG 25 0 1 4),ar 24 false (ax 26 1 25),ar 24 false (dE 27 75 [.t 26,(gi 0),(gi 100000)]),ar 24 false (cB 28 27),df 29 24 28,I 30 29,ar 30 false (aG 31 1 1 4),ar 30 false (ax 32 1 31),ar 30 false (c7 33 119 32),ar 30 false (cB 34 33),df 35 30 34]) (aT 35 (aa [bm 2 false] .ret) .skip)))) (.region [aS 36 .add 7 1,I 7 36])))) (aa [bm 2 true] .ret)))
@[simp] def zB:List bK:=[.tmp 2]
def Dm:C:=(aa [cP 2 0,cP 3 1,bm 4 false] (aa [aG 5 0 1 2,ax 6 1 5,aG 7 0 1 3,ax 8 1 7,bk 9 .lss 6 8,I 10 9,ar 10 false (aG 11 0 1 2),ar 10 false (ax 12 1 11),ar 10 false (aG 13 0 1 3),ar 10 false (ax 14 1 13),ar 10 false (bk 15 .eql 12 14),b3 10 false 16 15,ar 16 true (aG 17 1 1 2),ar 16 true (ax 18 1 17),ar 16 true (aG 19 1 1 3),ar 16 true (ax 20 1 19),ar 16 true (bk 21 .lss 18 20),ar 10 false (dH 22 16 21),df 23 10 22,I 4 23] .ret))
@[simp] def ah6:List bK:=[.tmp 4]
def On:C:=(aa [eO 4 2,bm 5 false] (aa [fC 10 2 98 [],I 6 10] (aa [bm 7 true] (.seq (.seq (.fg false 6 (.region [I 11 1,cn 12 11,bV 13 0])) (fG 14 13 12 (.seq (.block 1 (aa [cv 15 2 11 13,be 16 2 15,cX (.alloc 9 none (.agg [.int .i64 0,.int .i64 0])),b1 2 9 16] (.seq (.drawn true 33 [I 18 6,I 19 0,aG 20 0 1 9,ax 21 1 20,c7 22 114 21,cl 23 201 19 22,aG 24 1 1 9,ax 25 1 24,dE 26 151 [.t 18,.t 23,.t 25],I 17 26,cV 27 0 17,cV 28 1 17,I 6 27,I 7 28]) (aa [I 29 7,cB 30 29] (aT 30 (aa [eO 4 2,bm 5 false] .ret) .skip))))) (.region [aS 31 .add 13 1,I 13 31])))) (aa [I 32 6,I 4 32,bm 5 true] .ret)))))
@[simp] def Kx:List bK:=[.tmp 4,.tmp 5]
def Oo:C:=(aa [eO 4 2,bm 5 false] (aa [fC 10 2 100 [],I 6 10] (aa [bm 7 true] (.seq (.seq (.fg false 6 (.region [I 11 1,cn 12 11,bV 13 0])) (fG 14 13 12 (.seq (.block 1 (aa [cv 15 2 11 13,be 16 2 15,cX (.alloc 9 none (.agg [.int .i64 0,.str []])),b1 2 9 16] (.seq (.drawn true 33 [I 18 6,I 19 0,aG 20 0 1 9,ax 21 1 20,c7 22 114 21,cl 23 201 19 22,aG 24 1 1 9,ax 25 1 24,dE 26 181 [.t 18,.t 23,.t 25],I 17 26,cV 27 0 17,cV 28 1 17,I 6 27,I 7 28]) (aa [I 29 7,cB 30 29] (aT 30 (aa [eO 4 2,bm 5 false] .ret) .skip))))) (.region [aS 31 .add 13 1,I 13 31])))) (aa [I 32 6,I 4 32,bm 5 true] .ret)))))
@[simp] def Kz:List bK:=[.tmp 4,.tmp 5]
def yb:C:=(aa [cP 4 1,eO 6 2,bm 7 false] (.seq (aa [aG 10 0 1 4,ax 11 1 10,aS 12 .neq 11 1] (aT 12 (.seq (.drawn true 73 [I 13 0,aG 14 0 1 4,ax 15 1 14,I 16 2,bk 17 .eql 15 16,I 6 13,I 7 17]) .ret) .skip)) (aa [bV 8 0] (.seq (.block 0 (.loop (.seq (.seq (.drawn true 73 [I 18 8,I 19 0,cn 20 19,bk 21 .lss 18 20,I 22 21,b3 22 true 23 0,b3 22 true 24 8,ar 22 true (cv 25 2 23 24),ar 22 true (aG 26 0 1 25),ar 22 true (ax 27 1 26),ar 22 true (aG 28 1 1 4),ar 22 true (ax 29 1 28),ar 22 true (bk 30 .lss 27 29),dH 31 22 30]) (aT 31 .skip (.exit 0))) (.block 1 (.region [I 32 8,aS 33 .add 32 1,I 8 33]))))) (.seq (.seq (.drawn true 73 [I 34 8,I 35 0,cn 36 35,bk 37 .lss 34 36,I 38 37,b3 38 true 39 0,b3 38 true 40 8,ar 38 true (cv 41 2 39 40),ar 38 true (aG 42 0 1 41),ar 38 true (ax 43 1 42),ar 38 true (aG 44 1 1 4),ar 38 true (ax 45 1 44),ar 38 true (bk 46 .eql 43 45),dH 47 38 46]) (aT 47 (.seq (.drawn true 73 [I 48 0,I 49 0,I 50 8,cv 51 2 49 50,aG 52 1 1 51,ax 53 1 52,I 54 2,bk 55 .eql 53 54,I 6 48,I 7 55]) .ret) .skip)) (aa [fC 56 2 98 [],I 57 0,I 58 8,b0 59 (.lsl 2 (.t 57) none (some (.t 58))),iP 60 2 98 56 59,I 9 60] (aa [I 61 9,aG 62 1 1 4,ax 63 1 62,I 64 2,b0 65 (.build [.int .i64 0,.int .i64 0] [(0,1,(.t 63)),(1,1,(.t 64))]),fC 66 2 98 [.t 65],iP 67 2 98 61 66,I 9 67] (aa [I 68 9,I 69 0,I 70 8,b0 71 (.lsl 2 (.t 69) (some (.t 70)) none),iP 72 2 98 68 71,I 6 72,bm 7 true] .ret))))))))
@[simp] def vu:List bK:=[.tmp 6,.tmp 7]
def G6:C:=(aa [cP 4 1,eO 6 2,bm 7 false] (.seq (aa [be 13 4 4,I 14 2,cl 15 210 13 14] (aT 15 (aa [eO 6 2,bm 7 false] .ret) .skip)) (.seq (aa [be 16 4 4,dE 17 58 [.t 16,(.c (.slice 1 .nil []))],cn 18 17,bV 19 0] (fG 20 19 18 (.seq (.block 1 (aa [cv 21 1 17 19,ax 22 1 21,I 9 22] (aa [I 23 9,I 24 2,b0 25 (.build [.int .i64 0,.str []] [(0,1,(.t 23)),(1,1,(.t 24))]),cX (.alloc 10 none (.agg [.int .i64 0,.str []])),b1 2 10 25] (aa [bV 11 0] (.seq (.block 2 (.loop (.seq (.seq (.drawn true 68 [I 26 11,I 27 0,cn 28 27,bk 29 .lss 26 28,I 30 29,b3 30 true 31 0,b3 30 true 32 11,ar 30 true (cv 33 2 31 32),ar 30 true (be 34 2 33),ar 30 true (be 35 2 10),ar 30 true (cl 36 147 34 35),dH 37 30 36]) (aT 37 .skip (.exit 2))) (.block 3 (.region [I 38 11,aS 39 .add 38 1,I 11 39]))))) (.seq (.drawn true 68 [I 40 11,I 41 0,cn 42 41,bk 43 .eql 40 42,I 44 43,ar 44 false (be 45 2 10),b3 44 false 46 0,b3 44 false 47 11,ar 44 false (cv 48 2 46 47),ar 44 false (be 49 2 48),ar 44 false (cl 50 147 45 49),df 51 44 50]) (aT 51 (aa [fC 52 2 100 [],I 53 0,I 54 11,b0 55 (.lsl 2 (.t 53) none (some (.t 54))),iP 56 2 100 52 55,I 12 56] (aa [I 57 12,be 58 2 10,fC 59 2 100 [.t 58],iP 60 2 100 57 59,I 12 60] (.region [I 61 12,I 62 0,I 63 11,b0 64 (.lsl 2 (.t 62) (some (.t 63)) none),iP 65 2 100 61 64,I 0 65]))) .skip))))))) (.fg false 0 (.region [aS 66 .add 19 1,I 19 66]))))) (aa [I 67 0,I 6 67,bm 7 true] .ret))))
@[simp] def Ky:List bK:=[.tmp 6,.tmp 7]
def ya:C:=(aa [cP 2 0,bm 4 false] (.seq (aa [aG 7 3 1 2,ax 8 1 7,cn 9 8,bV 10 0] (fG 11 10 9 (.seq (.block 1 (aa [cv 12 4 8 10,be 13 4 12,dL 6 dX,b1 4 6 13] (aa [be 14 4 6,I 15 1,cl 16 210 14 15] (aT 16 (aa [bm 4 true] .ret) .skip)))) (.region [aS 17 .add 10 1,I 10 17])))) (aa [aG 18 0 1 2,ax 19 1 18,aS 20 .eql 19 2,I 21 20,ar 21 true (aG 22 2 1 2),ar 21 true (ax 23 1 22),b3 21 true 24 1,ar 21 true (bk 25 .eql 23 24),dH 26 21 25,I 4 26] .ret)))
@[simp] def vt:List bK:=[.tmp 4]
def ug:List (Nat×dB):=[
 (3,⟨1,8,.int .i64,.int .i64 0⟩),
 (9,⟨1,16,.str,.str []⟩),
 (27,⟨1,24,.slice 30,.slice 4 .nil []⟩),
 (30,⟨4,56,.struct [(0,3),(1,3),(2,9),(3,27)],.agg [.int .i64 0,.int .i64 0,.str [],.slice 4 .nil []]⟩),
 (48,⟨1,24,.slice 98,.slice 2 .nil []⟩),
 (49,⟨1,24,.slice 100,.slice 2 .nil []⟩),
 (76,⟨1,24,.slice 3,.slice 1 .nil []⟩),
 (98,⟨2,16,.struct [(0,3),(1,3)],.agg [.int .i64 0,.int .i64 0]⟩),
 (100,⟨2,24,.struct [(0,3),(1,9)],.agg [.int .i64 0,.str []]⟩)]
theorem lI:fN ao ug=true:=by kernel_rfl
theorem agt:b5 ug NY Cg 1 Tryz.f78=true:=by kernel_rfl
theorem Z5:ao.funcs[(78:Nat)]? =some Tryz.f78:=Tryz.func78
theorem agu:b5 ug NZ zB 1 Tryz.f79=true:=by kernel_rfl
theorem Z6:ao.funcs[(79:Nat)]? =some Tryz.f79:=Tryz.func79
theorem J1:b5 ug Dm ah6 2 Tryz.f147=true:=by kernel_rfl
theorem HD:ao.funcs[(147:Nat)]? =some Tryz.f147:=Tryz.func147
theorem agQ:b5 ug On Kx 2 Tryz.f149=true:=by kernel_rfl
theorem aas:ao.funcs[(149:Nat)]? =some Tryz.f149:=Tryz.func149
theorem agR:b5 ug Oo Kz 2 Tryz.f150=true:=by kernel_rfl
theorem aat:ao.funcs[(150:Nat)]? =some Tryz.f150:=Tryz.func150
theorem B4:b5 ug yb vu 3 Tryz.f151=true:=by kernel_rfl
theorem AG:ao.funcs[(151:Nat)]? =some Tryz.f151:=Tryz.func151
theorem S4:b5 ug G6 Ky 3 Tryz.f181=true:=by kernel_rfl
theorem Pn:ao.funcs[(181:Nat)]? =some Tryz.f181:=Tryz.func181
theorem B3:b5 ug ya vt 2 Tryz.f210=true:=by kernel_rfl
theorem AF:ao.funcs[(210:Nat)]? =some Tryz.f210:=Tryz.func210
end Go.Proofs.YtahlgcidhnjlbaaGreat
namespace Go.Proofs.YtahlgcidhnjlbaaGreat
open Go Go.Pv
open Classical in
theorem aka(l:List bG):bI ao 78 [.slice 2 .no (l.map bG.e)] (.bool (decide (iI l))):=by
 generalize bh:decide (iI l)=R;refine br lI Z5 agt fun aR=>?_;unfold NY;have eX:l.length≤68719476736:=by simp[eE,ej,eu,lim]at aR;omega
 simp;refine dU [0,5,6] (fun i (_:Unit)=>[(7,.int .i64 i)]) l.length (fun i _=> ∀j,j<i→hR lD mG l j) () b4 (fun k ab=>by omega) (fun _ af _=>?_) (fun i _ hi af _=>?_)
 ·have:R=true:=by rw[←bh,fx,Ez];exact af
  rw[this];exact ct
 ·obtain⟨b,ae⟩:∃b,l[i]? =some b:=⟨_,ca hi⟩;obtain⟨c,aw⟩:∃c,l[i-1]? =some c:=⟨_,ca (by omega)⟩;have cG:∀h,(l[i]'h)=b:=fun h=>by rw[ca hi]at ae;exact fw ae
  have de:¬hR lD mG l i→R=false:=fun h=>by rw[←bh,hx];exact fun cp=>h (Ez.1 cp i hi)
  have c9:hR lD mG l i→∀j,j<i+1→hR lD mG l j:=fun h j iU=>by
   by_cases e:j=i
   ·rw[e];exact h
   ·exact af j (by omega)
  have oG:hR lD mG l i→lD b:=fun h=>(h b ae).1;have bu:hR lD mG l i→0<i→c.v<b.v:=fun h bs=>(h b ae).2 c bs aw;have eS:lD b→(0<i→c.v<b.v)→hR lD mG l i:=fun J U bY fL=>by rw[ae]at fL;cases fL;exact⟨J,fun ch bs hj=>by rw[aw]at hj;cases hj;exact U bs⟩
  unfold lD at oG eS;by_cases g0:0<i∧¬c.v<b.v
  ·rw[de (fun h=>g0.2 (bu h g0.1))];have al5:=g0.1;have uG:b.v≤c.v:=by omega
   exact ct
  have aP:(decide (0<i)&&decide (b.v≤c.v))=false:=by simp;intro h;by_cases cI:c.v<b.v;exact cI;exact absurd ⟨h,cI⟩ g0
  by_cases g1:0≤b.v∧b.v≤100000;rotate_left
  ·rw[de (fun h=>g1 (oG h).1)];have kD:decide (0≤b.v∧b.v≤100000)=false:=by simp only[hx];exact g1
   by_cases bs:0<i
   ·have uG:¬b.v≤c.v:=by simp[bs]at aP;omega
    simp[hi,cG,aw];(with_reducible repeat' first|refine ak ?_|refine aE (dp _ _ _) ?_|refine aF (dp _ _ _) ?_|simp[cG,aw,hi,bs,uG,kD,g1]);all_goals simp[bA,Cg,aV,aY,aU]
   ·obtain rfl:i=0:=by omega
    simp[hi,cG,aw];(with_reducible repeat' first|refine ak ?_|refine aE (dp _ _ _) ?_|refine aF (dp _ _ _) ?_|simp[cG,aw,hi,kD,g1]);all_goals simp[bA,Cg,aV,aY,aU]
  have kD:decide (0≤b.v∧b.v≤100000)=true:=by simp only[fx];exact g1
  by_cases g2:b.k=2∨b.k=3;rotate_left
  ·rw[de (fun h=>g2 (oG h).2)];have g21:(b.k !=2)=true:=by simp;omega
   have g22:(b.k !=3)=true:=by simp;omega
   by_cases bs:0<i
   ·have uG:¬b.v≤c.v:=by simp[bs]at aP;omega
    simp[hi,cG,aw];(with_reducible repeat' first|refine ak ?_|refine aE (dp _ _ _) ?_|refine aF (dp _ _ _) ?_|simp[cG,aw,hi,bs,uG,kD,g1,g21,g22]);all_goals simp[bA,Cg,aV,aY,aU]
   ·obtain rfl:i=0:=by omega
    simp[hi,cG,aw];(with_reducible repeat' first|refine ak ?_|refine aE (dp _ _ _) ?_|refine aF (dp _ _ _) ?_|simp[cG,aw,hi,kD,g1,g21,g22]);all_goals simp[bA,Cg,aV,aY,aU]
  have dw:=c9 (eS ⟨g1,g2⟩ fun bs=>by simp[bs]at aP;omega);have aaK:((b.k !=2)=false)∨((b.k !=2)=true∧(b.k !=3)=false):=by
   rcases g2 with h|h
   ·left;simp[h]
   ·right;simp[h]
  rcases aaK with g21|⟨g21,g22⟩
  ·by_cases bs:0<i
   ·have uG:¬b.v≤c.v:=by simp[bs]at aP;omega
    simp[hi,cG,aw];(with_reducible repeat' first|refine ak ?_|refine aE (dp _ _ _) ?_|refine aF (dp _ _ _) ?_|simp[cG,aw,hi,bs,uG,kD,g1,g21]);all_goals exact bL.rng () hi dw b4
   ·obtain rfl:i=0:=by omega
    simp[hi,cG,aw];(with_reducible repeat' first|refine ak ?_|refine aE (dp _ _ _) ?_|refine aF (dp _ _ _) ?_|simp[cG,aw,hi,kD,g1,g21]);all_goals exact bL.rng () hi dw b4
  ·by_cases bs:0<i
   ·have uG:¬b.v≤c.v:=by simp[bs]at aP;omega
    simp[hi,cG,aw];(with_reducible repeat' first|refine ak ?_|refine aE (dp _ _ _) ?_|refine aF (dp _ _ _) ?_|simp[cG,aw,hi,bs,uG,kD,g1,g21,g22]);all_goals exact bL.rng () hi dw b4
   ·obtain rfl:i=0:=by omega
    simp[hi,cG,aw];(with_reducible repeat' first|refine ak ?_|refine aE (dp _ _ _) ?_|refine aF (dp _ _ _) ?_|simp[cG,aw,hi,kD,g1,g21,g22]);all_goals exact bL.rng () hi dw b4
theorem lj(a b:bf):bI ao 147 [a.e,b.e] (.bool (hv e5 a b)):=by
 rw[←SE];have bh:si a b=(decide (a.v<b.v)||(a.v==b.v&&hf a.s b.s)):=rfl;rcases Int.lt_trichotomy a.v b.v with h|h|h
 ·have:si a b=true:=by rw[bh];simp[h]
  rw[this];refine br lI HD J1 fun aR=>?_;unfold Dm;exact ct
 ·have J:¬a.v<b.v:=by omega
  have U:(a.v==b.v)=true:=by simp[h]
  have:si a b=hf a.s b.s:=by rw[bh];simp[h]
  rw[this];refine br lI HD J1 fun aR=>?_;unfold Dm;exact ct
 ·have J:¬a.v<b.v:=by omega
  have U:¬a.v=b.v:=by omega
  have al:(a.v==b.v)=false:=by simp[U]
  have:si a b=false:=by rw[bh];simp[J,U]
  rw[this];refine br lI HD J1 fun aR=>?_;unfold Dm;exact ct
end Go.Proofs.YtahlgcidhnjlbaaGreat
namespace Go.Proofs.YtahlgcidhnjlbaaGreat
open Go Go.Pv
def Ro(l:List cQ)(i:Nat)(_:Unit):Prop:= ∀j,j<i→zl l j
open Classical in
theorem ajT(l:List cQ):bI ao 145 [.slice 5 .no (l.map cQ.e)] (.bool (decide (x0 l))):=by
 generalize bh:decide (x0 l)=R;refine br et aal agJ fun aR=>?_;unfold Oe;have eX:l.length≤68719476736:=by simp[eE,ej,eu,lim]at aR;omega
 simp;refine dU [0,5,6] (fun i (_:Unit)=>[(7,.int .i64 i)]) l.length (Ro l) () b4 (fun k ab=>by omega) (fun _ af _=>?_) (fun i _ hi af _=>?_)
 ·have:R=decide (l.length≤400):=by rw[←bh,decide_eq_decide];exact⟨fun h=>h.1,fun h=>⟨h,fun j iU=>af j iU⟩⟩
  rw[this];simp;(with_reducible repeat' first|refine ak ?_|simp);simp[bA,Kv,aV,aY,aU];all_goals(first|done|omega|(simp;done)|(simp;omega))
 ·obtain⟨b,ae⟩:∃b,l[i]? =some b:=⟨_,ca hi⟩;obtain⟨c,aw⟩:∃c,l[i-1]? =some c:=⟨_,ca (by omega)⟩;have cG:∀h,(l[i]'h)=b:=fun h=>by rw[ca hi]at ae;exact fw ae
  have de:¬zl l i→R=false:=fun h=>by rw[←bh,hx];exact fun cp=>h (cp.2 i hi)
  have c9:zl l i→Ro l (i+1) ():=fun h j iU=>by
   by_cases e:j=i
   ·rw[e];exact h
   ·exact af j (by omega)
  simp[hi,cG,aw];((with_reducible repeat' first|refine ak ?_|refine aE (dp _ _ _) ?_|refine aF (dp _ _ _) ?_|refine aE (Vx _) ?_|refine aF (Vx _) ?_|simp[cG,aw,hi]|((first|apply bO|apply bS|apply bR)<;>intro h<;>try simp at h))<;>(try exact cq));all_goals first
   |(have aA:¬zl l i:=by(intro cp;have J:=cp b ae;have U:=J.2.1 c;have al:=J.2.2;first|omega|(have a6:=U (by omega) aw;omega)|(rw[al]at h;cases h)|(simp_all;done)|(simp_all;omega))
     rw[de aA]
     simp[bA,Kv,aV,aY,aU]
     done)
   |(refine bL.rng () hi (c9 fun bY fL=>?_) ?_
     ·rw[ae]at fL;cases fL
      refine⟨?_,fun ch bs hj=>?_,?_⟩
      ·omega
      ·rw[aw]at hj;cases hj;omega
      ·first|assumption|simp_all
     ·exact b4)
def l0(n:Int):List Int→List Int
 |[]=>[n]
 |c::l=>if c<n then c::l0 n l else if c=n then c::l else n::c::l
def sH(l:List Int):Prop:=l.Pairwise (· < ·)
theorem Rh(n:Int):∀(l:List Int) (k:Nat),(∀i c,i<k→l[i]? =some c→c<n)→(∀c,l[k]? =some c→n≤c)→k≤l.length→l0 n l=if l[k]? =some n then l else l.take k++n::l.drop k
 |[],k,_,_,ab=>by simp at ab;subst ab;rfl
 |c::l,0,_,U,_=>by
  have:=U c rfl;by_cases e:c=n
  ·simp[l0,e]
  ·have al:¬c<n:=by omega
   simp[l0,al,e]
 |c::l,k+1,J,U,ab=>by have bs:=J 0 c (by omega) rfl;simp only[l0,if_pos bs,List.take_succ_cons,List.drop_succ_cons,bN,List.getElem?_cons_succ];rw[Rh n l k (fun i d hi aP=>J (i+1) d (by omega) (by simpa using aP)) (fun d aP=>U d (by simpa using aP)) (by simpa using ab)];split<;>rfl
theorem JA{n m:Int}:∀{l:List Int},m∈l0 n l↔m=n∨m∈l
 |[]=>by simp[l0]
 |c::l=>by
  simp only[l0];split
  ·simp only[fU,JA (l:=l)];constructor
   ·rintro(h|h|h)
    ·exact .inr (.inl h)
    ·exact .inl h
    ·exact .inr (.inr h)
   ·rintro(h|h|h)
    ·exact .inr (.inl h)
    ·exact .inl h
    ·exact .inr (.inr h)
  ·split
   ·rename_i h;subst h;simp
   ·simp
theorem Rg{n:Int}:∀{l:List Int},sH l→sH (l0 n l)
 |[],_=>by simp[l0,sH]
 |c::l,h=>by
  obtain⟨J,U⟩:=mg.1 h;simp only[l0];split
  ·rename_i al;refine mg.2 ⟨fun m hm=>?_,Rg U⟩;rcases JA.1 hm with rfl|hm
   ·exact al
   ·exact J m hm
  ·split
   ·exact h
   ·refine mg.2 ⟨fun m hm=>?_,h⟩;rcases fU.1 hm with rfl|hm
    ·omega
    ·have:=J m hm;omega
theorem Ri(n:Int):∀l:List Int,(l0 n l).length≤l.length+1
 |[]=>by simp[l0]
 |c::l=>by
  have:=Ri n l;simp only[l0];split
  ·simp;omega
  ·split<;>simp
theorem Bz(l:List Int)(i:Nat):(ef l)[i]? =(l[i]?).map (ah.int .i64):=by simp[ef]
theorem eT(l:List Int):(ef l).length=l.length:=by simp[ef]
theorem xJ:∀l:List Int,cU (ef l)=ef l
 |[]=>by simp[ef,cU]
 |a::l=>by have:=xJ l;simp only[ef,gX,cU,dn]at this⊢;rw[this]
theorem Ep(l:List Int)(n:Int)(k:Nat):cU (ll k (ef l)++ah.int .i64 n::mR k (ll l.length (ef l)))=ef (ll k l++n::mR k l):=by
 have e:ll l.length (ef l)=ef l:=hq (by simp[ef]);have aC:ll k (ef l)++ah.int .i64 n::mR k (ef l)=ef (ll k l++n::mR k l):=by simp only[ef,List.map_append,gX,List.map_take,List.map_drop]
 rw[e,aC];exact xJ _
theorem ajP(l:List Int)(n:Int)(au:l.length≤1000000)(bD:sH l):bI ao 126 [.slice 1 .no (ef l),.int .i64 n] (.slice 1 .no (ef (l0 n l))):=by
 refine br et aac agA fun aR=>?_;unfold N5;simp;refine uC [0,1] (fun(k:Nat)=>[(5,.int .i64 k)]) (fun k=>k) (fun k=>k≤l.length∧∀c,l[k]? =some c→n≤c) l.length b4 ⟨by omega,fun c h=>by simp at h⟩ (fun k af _=>?_);obtain⟨ab,af⟩:=af;have uN:(∀c,0<k→l[k-1]? =some c→c<n)→l0 n l=if l[k]? =some n then l else l.take k++n::l.drop k:=fun h=>Rh n l k (fun i c hi aw=>by
  obtain⟨d,aP⟩:∃d,l[k-1]? =some d:=⟨_,ca (by omega)⟩;have J:=h d (by omega) aP;rcases Nat.lt_or_ge i (k-1)with U|U
  ·have rY:=(fH.1 aw);have lT:=(fH.1 aP);have:=oX.1 bD i (k-1) rY.1 lT.1 U;rw[rY.2,lT.2]at this;omega
  ·have:i=k-1:=by omega
   subst this;rw[aP]at aw;cases aw;exact J) af ab
 have k1:∀c,l[k]? =some c→∀h,((ef l)[k]'h)= .int .i64 c:=fun c h cp=>by have:=Bz l k;rw[h,ca cp]at this;exact fw this
 have dw:(0<k→∃d,l[k-1]? =some d∧d<n)→∀P:Prop,(l0 n l=(if l[k]? =some n then l else l.take k++n::l.drop k)→P)→P:=fun h P abG=>abG (uN fun c bs aw=>by obtain⟨d,aP,J⟩:=h bs;rw[aP]at aw;cases aw;exact J)
 rcases Nat.eq_zero_or_pos k with bs|fj
 ·have bC:decide ((0:Int)<k)=false:=by simp;omega
  refine dw (fun h=>by omega) _ fun e=>?_;by_cases h6:k<l.length
  ·obtain⟨c,aw⟩:∃c,l[k]? =some c:=⟨_,ca h6⟩;have hj:=k1 c aw;rw[aw]at e;by_cases q:c=n
   ·have gr:(c==n)=true:=by simp[q]
    rw[if_pos (by rw[q])]at e;rw[e];simp[bC,h6];((with_reducible repeat' first|refine ak ?_|simp[bC,h6,hj,gr]|((first|apply bO|apply bS|apply bR)<;>intro h<;>try simp at h))<;>(try exact cq));all_goals simp[bA,xv,aV,aY,aU]
   ·have gr:(c==n)=false:=by simp[q]
    rw[if_neg (by simp[q])]at e;rw[e];simp[bC,h6];((with_reducible repeat' first|refine ak ?_|simp[bC,h6,hj,gr]|((first|apply bO|apply bS|apply bR)<;>intro h<;>try simp at h))<;>(try exact cq));all_goals simp[bA,xv,aV,aY,aU]
    all_goals exact Ep l n k
  ·rw[pJ (by omega)]at e;simp only[reduceCtorEq,if_false]at e;rw[e];simp[bC,h6];((with_reducible repeat' first|refine ak ?_|simp[bC,h6]|((first|apply bO|apply bS|apply bR)<;>intro h<;>try simp at h))<;>(try exact cq));all_goals simp[bA,xv,aV,aY,aU]
   all_goals exact Ep l n k
 ·obtain⟨d,aP⟩:∃d,l[k-1]? =some d:=⟨_,ca (by omega)⟩;have aj:((k:Int)-1).toNat=k-1:=by omega
  have aC:∀h,((ef l)[k-1]'h)= .int .i64 d:=fun cp=>by have:=Bz l (k-1);rw[aP,ca cp]at this;exact fw this
  have ir:(0:Int)<k:=by omega
  have lz:k-1<l.length:=by omega
  by_cases ae:n≤d
  ·simp[fj,ir,aj,aC,ae,lz];(with_reducible repeat' first|refine ak ?_|simp[fj,ir,aj,aC,ae,lz]);refine bL.whl (k-1) (by omega) ⟨by omega,fun c aw=>by rw[aP]at aw;cases aw;exact ae⟩ ?_;have bg:((k-1:Nat):Int)=(k:Int)-1:=by omega
   simp[bg];exact b4
  ·refine dw (fun _=>⟨d,aP,by omega⟩) _ fun e=>?_;by_cases h6:k<l.length
   ·obtain⟨c,aw⟩:∃c,l[k]? =some c:=⟨_,ca h6⟩;have hj:=k1 c aw;rw[aw]at e;by_cases q:c=n
    ·have gr:(c==n)=true:=by simp[q]
     rw[if_pos (by rw[q])]at e;rw[e];simp[fj,ir,aj,aC,ae,lz,h6];((with_reducible repeat' first|refine ak ?_|simp[fj,ir,aj,aC,ae,lz,h6,hj,gr]|((first|apply bO|apply bS|apply bR)<;>intro h<;>try simp at h))<;>(try exact cq));all_goals simp[bA,xv,aV,aY,aU]
    ·have gr:(c==n)=false:=by simp[q]
     rw[if_neg (by simp[q])]at e;rw[e];simp[fj,ir,aj,aC,ae,lz,h6];(with_reducible repeat' first|refine ak ?_|simp[fj,ir,aj,aC,ae,lz,h6,hj,gr]);all_goals simp[bA,xv,aV,aY,aU]
     all_goals exact Ep l n k
   ·rw[pJ (by omega)]at e;simp only[reduceCtorEq,if_false]at e;rw[e];simp[fj,ir,aj,aC,ae,lz,h6];(with_reducible repeat' first|refine ak ?_|simp[fj,ir,aj,aC,ae,lz,h6]);all_goals simp[bA,xv,aV,aY,aU]
    all_goals exact Ep l n k
def h7:T→List Int→List Int
 | .var n,l=>l0 n l
 | .pair a b,l=>h7 b (h7 a l)
 |_,l=>l
theorem Lx:∀(t:T) {l:List Int},sH l→sH (h7 t l)
 | .var _,_,h=>Rg h
 | .pair a b,_,h=>Lx b (Lx a h)
 | .nil,_,h=>h
 | .sym _,_,h=>h
 | .num _,_,h=>h
theorem ET{m:Int}:∀(t:T) {l:List Int},m∈h7 t l↔t.occ m=true∨m∈l
 | .var n,l=>by simp only[h7,JA,T.occ,dG];constructor<;>rintro(h|h)<;>first|exact .inr h|exact .inl h.symm
 | .pair a b,l=>by
  simp only[h7,ET b,ET a,T.occ,mf];constructor
  ·rintro(h|h|h)
   ·exact .inl (.inr h)
   ·exact .inl (.inl h)
   ·exact .inr h
  ·rintro((h|h)|h)
   ·exact .inr (.inl h)
   ·exact .inl h
   ·exact .inr (.inr h)
 | .nil,l=>by simp[h7,T.occ]
 | .sym _,l=>by simp[h7,T.occ]
 | .num _,l=>by simp[h7,T.occ]
theorem CI:∀(t:T) (l:List Int),(h7 t l).length≤l.length+t.size
 | .var n,l=>by have:=Ri n l;simp only[h7,T.size];omega
 | .pair a b,l=>by have J:=CI a l;have U:=CI b (h7 a l);simp only[h7,T.size];omega
 | .nil,l=>by simp[h7]
 | .sym _,l=>by simp[h7]
 | .num _,l=>by simp[h7]
theorem F6:∀(t:T) (l:List Int),l.length+t.size≤1000000→sH l→bI ao 58 [t.e,.slice 1 .no (ef l)] (.slice 1 .no (ef (h7 t l)))
 | .var n,l,au,bD=>by
  simp only[T.size]at au;have key:=ajP l n (by omega) bD;refine br et AE B2 fun aR=>?_;unfold x9;simp;(with_reducible repeat' first|refine ak ?_|refine aE key ?_|refine aF key ?_|simp);all_goals simp[bA,zD,aV,aY,aU]
  all_goals simp[h7,xJ]
 | .pair a b,l,au,bD=>by
  simp only[T.size]at au;have Jg:=CI a l;have a8:=F6 a l (by omega) bD;have bU:=F6 b (h7 a l) (by omega) (Lx a bD);refine br et AE B2 fun aR=>?_;unfold x9;simp;refine dU [15,16] (fun i (_:Unit)=>[(1,.slice 1 .no (ef (if i=0 then l else if i=1 then h7 a l else h7 b (h7 a l)))),(17,.int .i64 i)]) 2 (fun _ _=>True) () b4 trivial (fun _ _ _=>?_) (fun i _ hi _ _=>?_)
  ·simp;(with_reducible repeat' first|refine ak ?_|simp);simp[bA,zD,aV,aY,aU];simp[h7,xJ]
  ·rcases(by omega:i=0∨i=1)with rfl|rfl
   ·simp;((with_reducible repeat' first|refine ak ?_|refine aE a8 ?_|refine aF a8 ?_|simp|((first|apply bO|apply bS|apply bR)<;>intro h<;>try simp at h))<;>(try exact cq));exact bL.rng () hi trivial b4
   ·simp;((with_reducible repeat' first|refine ak ?_|refine aE bU ?_|refine aF bU ?_|simp|((first|apply bO|apply bS|apply bR)<;>intro h<;>try simp at h))<;>(try exact cq));exact bL.rng () hi trivial b4
 | .nil,l,au,bD=>by refine br et AE B2 fun aR=>?_;unfold x9;simp;refine dU [15,16] (fun i (_:Unit)=>[(1,.slice 1 .no (ef l)),(17,.int .i64 i)]) 0 (fun _ _=>True) () b4 trivial (fun _ _ _=>?_) (fun i _ hi _ _=>by omega);simp;((with_reducible repeat' first|refine ak ?_|simp|((first|apply bO|apply bS|apply bR)<;>intro h<;>try simp at h))<;>(try exact cq));simp[bA,zD,aV,aY,aU];simp[h7,xJ]
 | .sym _,l,au,bD=>by refine br et AE B2 fun aR=>?_;unfold x9;simp;refine dU [15,16] (fun i (_:Unit)=>[(1,.slice 1 .no (ef l)),(17,.int .i64 i)]) 0 (fun _ _=>True) () b4 trivial (fun _ _ _=>?_) (fun i _ hi _ _=>by omega);simp;(with_reducible repeat' first|refine ak ?_|simp);simp[bA,zD,aV,aY,aU];simp[h7,xJ]
 | .num _,l,au,bD=>by refine br et AE B2 fun aR=>?_;unfold x9;simp;refine dU [15,16] (fun i (_:Unit)=>[(1,.slice 1 .no (ef l)),(17,.int .i64 i)]) 0 (fun _ _=>True) () b4 trivial (fun _ _ _=>?_) (fun i _ hi _ _=>by omega);simp;(with_reducible repeat' first|refine ak ?_|simp);simp[bA,zD,aV,aY,aU];simp[h7,xJ]
def adM(s:List dA)(a b:T)(i:Nat)(_:Unit):Prop:=(1≤i→a.has s=false)∧(2≤i→b.has s=false)
theorem Ls(s:List dA):∀t:T,bI ao 210 [t.e,.str s] (.bool (t.has s))
 | .pair a b=>by
  have dO:=Ls s a;have dP:=Ls s b;refine br lI AF B3 fun aR=>?_;unfold ya;simp;refine dU [1,2,8,9] (fun i (_:Unit)=>[(10,.int .i64 i)]) 2 (adM s a b) () b4 ⟨fun h=>by omega,fun h=>by omega⟩ (fun _ af _=>?_) (fun i _ hi af _=>?_)
  ·simp;(with_reducible repeat' first|refine ak ?_|simp);simp[bA,vt,aV,aY,aU];simp[T.has,af.1,af.2]
  ·rcases(by omega:i=0∨i=1)with rfl|rfl
   ·cases bD:a.has s
    ·rw[bD]at dO;simp;((with_reducible repeat' first|refine ak ?_|refine aE dO ?_|refine aF dO ?_|simp|((first|apply bO|apply bS|apply bR)<;>intro h<;>try simp at h))<;>(try exact cq));exact bL.rng () hi ⟨fun _=>bD,fun h=>by omega⟩ b4
    ·rw[bD]at dO;simp;((with_reducible repeat' first|refine ak ?_|refine aE dO ?_|refine aF dO ?_|simp|((first|apply bO|apply bS|apply bR)<;>intro h<;>try simp at h))<;>(try exact cq));simp[bA,vt,aV,aY,aU];simp[T.has,bD]
   ·cases ae:b.has s
    ·rw[ae]at dP;simp;((with_reducible repeat' first|refine ak ?_|refine aE dP ?_|refine aF dP ?_|simp|((first|apply bO|apply bS|apply bR)<;>intro h<;>try simp at h))<;>(try exact cq));exact bL.rng () hi ⟨fun _=>af.1 (by omega),fun _=>ae⟩ b4
    ·rw[ae]at dP;simp;((with_reducible repeat' first|refine ak ?_|refine aE dP ?_|refine aF dP ?_|simp|((first|apply bO|apply bS|apply bR)<;>intro h<;>try simp at h))<;>(try exact cq));simp[bA,vt,aV,aY,aU];simp[T.has,ae]
 | .sym n=>by
  refine br lI AF B3 fun aR=>?_;unfold ya;simp;refine dU [1,2,8,9] (fun i (_:Unit)=>[(10,.int .i64 i)]) 0 (fun i _=>True) () b4 trivial (fun _ af _=>?_) (fun i _ hi af _=>by omega);simp;(with_reducible repeat' first|refine ak ?_|simp);all_goals simp[bA,vt,aV,aY,aU]
  all_goals simp[T.has]
 | .num n=>by
  refine br lI AF B3 fun aR=>?_;unfold ya;simp;refine dU [1,2,8,9] (fun i (_:Unit)=>[(10,.int .i64 i)]) 0 (fun i _=>True) () b4 trivial (fun _ af _=>?_) (fun i _ hi af _=>by omega);simp;(with_reducible repeat' first|refine ak ?_|simp);all_goals simp[bA,vt,aV,aY,aU]
  all_goals simp[T.has]
 | .var n=>by
  refine br lI AF B3 fun aR=>?_;unfold ya;simp;refine dU [1,2,8,9] (fun i (_:Unit)=>[(10,.int .i64 i)]) 0 (fun i _=>True) () b4 trivial (fun _ af _=>?_) (fun i _ hi af _=>by omega);simp;(with_reducible repeat' first|refine ak ?_|simp);all_goals simp[bA,vt,aV,aY,aU]
  all_goals simp[T.has]
 | .nil=>by
  refine br lI AF B3 fun aR=>?_;unfold ya;simp;refine dU [1,2,8,9] (fun i (_:Unit)=>[(10,.int .i64 i)]) 0 (fun i _=>True) () b4 trivial (fun _ af _=>?_) (fun i _ hi af _=>by omega);simp;(with_reducible repeat' first|refine ak ?_|simp);all_goals simp[bA,vt,aV,aY,aU]
  all_goals simp[T.has]
def nZ(l:List bG)(o:aW (List bG)):ah:= .tuple [.slice 2 .no ((o.getD l).map bG.e),.bool o.isSome]
@[simp] theorem ann(S:aD→Prop)(l:List bG)(o:aW (List bG)):aB S (nZ l o)=True:=by simp[nZ]
def u6(l:List bG)(n:Int)(i:Nat):Prop:=i≤l.length∧∀j y,j<i→l[j]? =some y→y.v<n
theorem u6.none{l:List bG}{n:Int}{i:Nat}(h:u6 l n i)(bD:l.Pairwise fun x y=>x.v<y.v)(aw:∀c,l[i]? =some c→n<c.v):kJ l n=none:=w7.2 fun x ad=>by
 obtain⟨j,dR,rfl⟩:=mS ad;have e:=ca dR;rcases Nat.lt_or_ge j i with J|J
 ·have:=h.2 j _ J e;omega
 ·have DZ:i<l.length:=by omega
  have aC:=ca DZ;have al:=aw _ aC;rcases Nat.lt_or_ge i j with U|U
  ·have:=oX.1 bD i j DZ dR U;omega
  ·obtain rfl:i=j:=by omega
   omega
theorem u6.ins{l:List bG}{n k:Int}{i:Nat}(h:u6 l n i)(aw:∀c,l[i]? =some c→n<c.v):k7 ⟨n,k⟩ l=l.take i++⟨n,k⟩::l.drop i:=Rj ⟨n,k⟩ l i (fun j y J U=>h.2 j y J U) (fun y aL=>by have:=aw y aL;simp;omega) h.1
theorem u6.step{l:List bG}{n:Int}{i:Nat}{b:bG}(h:u6 l n i)(ae:l[i]? =some b)(aA:b.v<n):u6 l n (i+1):=⟨(fH.1 ae).1,fun j y J U=>by
 rcases(by omega:j<i∨j=i)with al|rfl
 ·exact h.2 j y al U
 ·rw[ae]at U;cases U;exact aA⟩
theorem aj3(l:List bG)(au:l.length≤1000000)(bD:l.Pairwise fun x y=>x.v<y.v)(n k:Int):bI ao 151 [.slice 2 .no (l.map bG.e),(T.var n).e,.int .i64 k] (nZ l (jU l (.var n) k)):=by
 generalize dg:jU l (.var n) k=O;have dJ:(match kJ l n with|some bH=>if bH=k then some l else none|none=>some (k7 ⟨n,k⟩ l))=O:=by rw[←dg];rfl
 clear dg;refine br lI AG B4 fun aR=>?_;unfold yb;simp;refine uC [0,2,4] (fun(i:Nat)=>[(8,.int .i64 i)]) (fun i=>l.length-i) (u6 l n) 0 b4 ⟨by omega,fun j y h=>by omega⟩ (fun i af _=>?_);have ab:=af.1;by_cases hi:i<l.length
 ·obtain⟨b,ae,cG⟩:=ep hi;rcases Int.lt_trichotomy b.v n with h|h|h
  ·have ag:=af.step ae h;clear dJ af ae bD;simp[hi,cG,h];((with_reducible repeat' first|refine ak ?_|simp[hi,cG,h]|((first|apply bO|apply bS|apply bR)<;>intro h<;>try simp at h))<;>(try exact cq));exact bL.whl (i+1) (by omega) ag b4
  ·have a1:kJ l n=some b.k:=by rw[←h];exact EA bD (eP ae)
   have J:¬b.v<n:=by omega
   have U:(b.v==n)=true:=by simp[h]
   rw[a1]at dJ;simp only at dJ;subst dJ;clear af ae bD a1;simp[hi,cG,J,U];(with_reducible repeat' first|refine ak ?_|simp[hi,cG,J,U]);all_goals simp[bA,vu,aV,aY,aU]
   all_goals(by_cases e:b.k=k<;>simp[nZ,e])
  ·have J:¬b.v<n:=by omega
   have U:(b.v==n)=false:=by simp;omega
   have aw:∀c,l[i]? =some c→n<c.v:=fun c aw=>by rw[ae]at aw;cases aw;exact h
   rw[af.none bD aw]at dJ;simp only[af.ins aw]at dJ;subst dJ;clear af ae bD aw;simp[hi,cG,J,U];(with_reducible repeat' first|refine ak ?_|simp[hi,cG,J,U]);all_goals simp[bA,vu,aV,aY,aU]
   all_goals simp[nZ]
   rw[hq (by simp:(l.map bG.e).length≤l.length),←List.map_take,←List.map_drop,←gX,←List.map_append];exact K5 _
 ·have aw:∀c,l[i]? =some c→n<c.v:=fun c aw=>by rw[pJ (by omega)]at aw;cases aw
  rw[af.none bD aw]at dJ;simp only[af.ins aw]at dJ;have DZ:i=l.length:=by omega
  clear af bD aw;subst dJ;subst DZ;simp;(with_reducible repeat' first|refine ak ?_|simp);all_goals simp[bA,vu,aV,aY,aU]
  all_goals simp[nZ]
  rw[hq (by simp:(l.map bG.e).length≤l.length),show [(⟨n,k⟩:bG).e]=[(⟨n,k⟩:bG)].map bG.e from rfl,←List.map_append];exact K5 _
theorem Vr(l:List bG)(au:l.length≤1000000)(bD:l.Pairwise fun x y=>x.v<y.v)(t:T)(k:Int):bI ao 151 [.slice 2 .no (l.map bG.e),t.e,.int .i64 k] (nZ l (jU l t k)):=by
 cases t with
 |var n=>exact aj3 l au bD n k
 |nil=>
  refine br lI AG B4 fun aR=>?_;unfold yb;simp;(with_reducible repeat' first|refine ak ?_|simp);all_goals simp[bA,vu,aV,aY,aU]
  all_goals(by_cases e:0=k<;>simp[nZ,jU,e])
 |sym n=>
  refine br lI AG B4 fun aR=>?_;unfold yb;simp;(with_reducible repeat' first|refine ak ?_|simp);all_goals simp[bA,vu,aV,aY,aU]
  all_goals(by_cases e:2=k<;>simp[nZ,jU,e])
 |num n=>
  refine br lI AG B4 fun aR=>?_;unfold yb;simp;(with_reducible repeat' first|refine ak ?_|simp);all_goals simp[bA,vu,aV,aY,aU]
  all_goals(by_cases e:3=k<;>simp[nZ,jU,e])
 |pair a b=>
  refine br lI AG B4 fun aR=>?_;unfold yb;simp;(with_reducible repeat' first|refine ak ?_|simp);all_goals simp[bA,vu,aV,aY,aU]
  all_goals(by_cases e:4=k<;>simp[nZ,jU,e])
theorem VE(s:List aq)(v:Int):gV s (.var v)=cx s v:=rfl
theorem Lt{s:List aq}(ag:eG s){l:List bG}(au:iI l):bI ao 149 [.slice 5 .no (s.map aq.e),.slice 2 .no (l.map bG.e)] (fM (fR s l [])):=by
 have wO:=u7 au;refine br lI aas agQ fun aR=>?_;unfold On;simp;refine dU [0,11,12] (fun i (a:List bG)=>[(6,.slice 2 .no (a.map bG.e)),(13,.int .i64 i)]) l.length (Rm s l) [] b4 ⟨⟨by simp,by simp⟩,rfl⟩ (fun a af _=>?_) (fun i a hi af _=>?_)
 ·obtain⟨_,af⟩:=af;rw[List.drop_length]at af;simp only[fR]at af;rw[←af];simp;(with_reducible repeat' first|refine ak ?_|simp);simp[bA,Kx,aV,aY,aU];simp[fM]
 ·obtain⟨bD,af⟩:=af;obtain⟨b,ae,cG⟩:=ep hi;have nK:=au.at' b (eP ae);rw[kQ hi,cG]at af;simp only[fR]at af;have kI:=F7 s ag.len (.var b.v);rw[VE]at kI;have fY:=Vr a (by have:=u7 bD;omega) bD.asc (cx s b.v) b.k;simp[hi,cG];cases dJ:jU a (cx s b.v) b.k with
  |none=>rw[dJ]at af fY;simp only at af;rw[←af];simp only[nZ]at fY;(with_reducible repeat' first|refine ak ?_|refine aE (jS _) ?_|refine aF (jS _) ?_|refine aE kI ?_|refine aF kI ?_|refine aE fY ?_|refine aF fY ?_|simp[cG,hi]);simp[bA,Kx,aV,aY,aU];simp[fM]
  |some bj=>rw[dJ]at af fY;simp only[nZ]at fY;(with_reducible repeat' first|refine ak ?_|refine aE (jS _) ?_|refine aF (jS _) ?_|refine aE kI ?_|refine aF kI ?_|refine aE fY ?_|refine aF fY ?_|simp[cG,hi]);exact bL.rng bj hi ⟨Gv bD (zM ag nK.1) nK.2 dJ,af⟩ b4
end Go.Proofs.YtahlgcidhnjlbaaGreat
namespace Go.Proofs.YtahlgcidhnjlbaaGreat
open Go Go.Pv
open Classical in
theorem akb(l:List bf):bI ao 79 [.slice 2 .no (l.map bf.e)] (.bool (decide (iJ l))):=by
 generalize bh:decide (iJ l)=R;refine br lI Z6 agu fun aR=>?_;unfold NZ;have eX:l.length≤68719476736:=by simp[eE,ej,eu,lim]at aR;omega
 simp;refine dU [0,5,6] (fun i (_:Unit)=>[(7,.int .i64 i)]) l.length (fun i _=> ∀j,j<i→hR jP ka l j) () b4 (fun k ab=>by omega) (fun _ af _=>?_) (fun i _ hi af _=>?_)
 ·have:R=true:=by rw[←bh,fx,EN];exact af
  rw[this];exact ct
 ·obtain⟨b,ae⟩:∃b,l[i]? =some b:=⟨_,ca hi⟩;obtain⟨c,aw⟩:∃c,l[i-1]? =some c:=⟨_,ca (by omega)⟩;have cG:∀h,(l[i]'h)=b:=fun h=>by rw[ca hi]at ae;exact fw ae
  have de:¬hR jP ka l i→R=false:=fun h=>by rw[←bh,hx];exact fun cp=>h (EN.1 cp i hi)
  have c9:hR jP ka l i→∀j,j<i+1→hR jP ka l j:=fun h j iU=>by
   by_cases e:j=i
   ·rw[e];exact h
   ·exact af j (by omega)
  have gl:∀p:Prop,(p→eI)→(hR jP ka l i→p)→R=false:=fun p J U=>de fun h=>J (U h);have oG:hR jP ka l i→jP b:=fun h=>(h b ae).1;have bu:hR jP ka l i→0<i→hv e5 c b=true:=fun h bs=>by simpa[hv,ka]using(h b ae).2 c bs aw
  have eS:jP b→(0<i→hv e5 c b=true)→hR jP ka l i:=fun J U bY fL=>by rw[ae]at fL;cases fL;exact⟨J,fun ch bs hj=>by rw[aw]at hj;cases hj;simpa[hv,ka]using U bs⟩
  unfold jP at oG eS;by_cases g4:0<i
  ·cases g5:hv e5 c b
   ·rw[gl _ (fun h=>by rw[h]at g5;cases g5) (fun h=>bu h g4)];simp[hi,cG,aw];(with_reducible repeat' first|refine ak ?_|refine aE (lj _ _) ?_|refine aF (lj _ _) ?_|simp[cG,aw,hi,g4,g5]);all_goals simp[bA,zB,aV,aY,aU]
   ·by_cases g1:0≤b.v∧b.v≤100000;rotate_left
    ·rw[gl _ (fun h=>g1 h) (fun h=>(oG h).1)];have kD:decide (0≤b.v∧b.v≤100000)=false:=by simp only[hx];exact g1
     simp[hi,cG,aw];(with_reducible repeat' first|refine ak ?_|refine aE (lj _ _) ?_|refine aF (lj _ _) ?_|refine aE (dp _ _ _) ?_|refine aF (dp _ _ _) ?_|simp[cG,aw,hi,g4,g5,kD,g1]);all_goals simp[bA,zB,aV,aY,aU]
    have kD:decide (0≤b.v∧b.v≤100000)=true:=by simp only[fx];exact g1
    cases g3:jl b.s
    ·rw[gl _ (fun h=>by rw[h]at g3;cases g3) (fun h=>(oG h).2)];have b7:=gG b.s;rw[g3]at b7;simp[hi,cG,aw];(with_reducible repeat' first|refine ak ?_|refine aE (lj _ _) ?_|refine aF (lj _ _) ?_|refine aE (dp _ _ _) ?_|refine aF (dp _ _ _) ?_|refine aE b7 ?_|refine aF b7 ?_|simp[cG,aw,hi,g4,g5,kD,g1]);all_goals simp[bA,zB,aV,aY,aU]
    have b7:=gG b.s;rw[g3]at b7;have dw:=c9 (eS ⟨g1,g3⟩ fun _=>g5);simp[hi,cG,aw];(with_reducible repeat' first|refine ak ?_|refine aE (lj _ _) ?_|refine aF (lj _ _) ?_|refine aE (dp _ _ _) ?_|refine aF (dp _ _ _) ?_|refine aE b7 ?_|refine aF b7 ?_|simp[cG,aw,hi,g4,g5,kD,g1]);all_goals exact bL.rng () hi dw b4
  ·obtain rfl:i=0:=by omega
   by_cases g1:0≤b.v∧b.v≤100000;rotate_left
   ·rw[gl _ (fun h=>g1 h) (fun h=>(oG h).1)];have kD:decide (0≤b.v∧b.v≤100000)=false:=by simp only[hx];exact g1
    simp[hi,cG,aw];(with_reducible repeat' first|refine ak ?_|refine aE (lj _ _) ?_|refine aF (lj _ _) ?_|refine aE (dp _ _ _) ?_|refine aF (dp _ _ _) ?_|simp[cG,aw,hi,g4,kD,g1]);all_goals simp[bA,zB,aV,aY,aU]
   have kD:decide (0≤b.v∧b.v≤100000)=true:=by simp only[fx];exact g1
   cases g3:jl b.s
   ·rw[gl _ (fun h=>by rw[h]at g3;cases g3) (fun h=>(oG h).2)];have b7:=gG b.s;rw[g3]at b7;simp[hi,cG,aw];(with_reducible repeat' first|refine ak ?_|refine aE (lj _ _) ?_|refine aF (lj _ _) ?_|refine aE (dp _ _ _) ?_|refine aF (dp _ _ _) ?_|refine aE b7 ?_|refine aF b7 ?_|simp[cG,aw,hi,g4,kD,g1]);all_goals simp[bA,zB,aV,aY,aU]
   have b7:=gG b.s;rw[g3]at b7;have dw:=c9 (eS ⟨g1,g3⟩ fun h=>absurd h g4);simp[hi,cG,aw];(with_reducible repeat' first|refine ak ?_|refine aE (lj _ _) ?_|refine aF (lj _ _) ?_|refine aE (dp _ _ _) ?_|refine aF (dp _ _ _) ?_|refine aE b7 ?_|refine aF b7 ?_|simp[cG,aw,hi,g4,kD,g1]);all_goals exact bL.rng () hi dw b4
def oE(s:List dA)(ba:List Int)(l:List bf):List bf:=ba.foldl (fun a v=>jN e5 ⟨v,s⟩ a) l
theorem HH(s:List dA):∀(ba:List Int) {l:List bf},hy e5 l→hy e5 (oE s ba l)
 |[],_,h=>h
 |v::ba,_,h=>HH s ba (IX lb h)
theorem Sr(s:List dA){x:bf}:∀(ba:List Int) {l:List bf},x∈oE s ba l↔x∈l∨(x.s=s∧x.v∈ba)
 |[],l=>by simp[oE]
 |v::ba,l=>by
  have:=Sr s (x:=x) ba (l:=jN e5 ⟨v,s⟩ l);rw[show oE s (v::ba) l=oE s ba (jN e5 ⟨v,s⟩ l)from rfl,this,ER lb,fU];constructor
  ·rintro((rfl|h)|⟨J,U⟩)
   ·exact .inr ⟨rfl,.inl rfl⟩
   ·exact .inl h
   ·exact .inr ⟨J,.inr U⟩
  ·rintro(h|⟨J,U|U⟩)
   ·exact .inl (.inr h)
   ·refine .inl (.inl ?_);cases x;simp_all
   ·exact .inr ⟨J,U⟩
theorem Px(s:List dA):∀(ba:List Int) (l:List bf),(oE s ba l).length≤l.length+ba.length
 |[],l=>by simp[oE]
 |v::ba,l=>by have J:=Px s ba (jN e5 ⟨v,s⟩ l);have U:=IZ (c:=e5) (⟨v,s⟩:bf) l;rw[show oE s (v::ba) l=oE s ba (jN e5 ⟨v,s⟩ l)from rfl];simp only[pK];omega
theorem aaC{t:T}{s:List dA}(cI:t.has s=false){l:List bf}(bD:hy e5 l):lp l t s=some (oE s (h7 t []) l):=Gw cI (HH s _ bD) fun x=>by rw[Sr,ET];simp
end Go.Proofs.YtahlgcidhnjlbaaGreat
namespace Go.Proofs.YtahlgcidhnjlbaaGreat
open Go Go.Pv
def BC(l:List bf)(ba:List Int)(s:List dA)(i:Nat)(a:List bf):Prop:=a=oE s (ba.take i) l
def y0(a:List bf)(m:bf)(k:Nat):Prop:=k≤a.length∧∀j y,j<k→a[j]? =some y→e5 y m<0
theorem y0.step{a:List bf}{m:bf}{k:Nat}{b:bf}(h:y0 a m k)(ae:a[k]? =some b)(aA:e5 b m<0):y0 a m (k+1):=⟨(fH.1 ae).1,fun j y J U=>by
 rcases(by omega:j<k∨j=k)with al|rfl
 ·exact h.2 j y al U
 ·rw[ae]at U;cases U;exact aA⟩
theorem y0.fin{a:List bf}{m:bf}{k:Nat}(h:y0 a m k)(aw:∀y,a[k]? =some y→0≤e5 y m):jN e5 m a=if(match a[k]? with|some y=>decide (e5 y m=0)|none=>false)=true then a else a.take k++m::a.drop k:=(IY lb m a k (fun j y J U=>h.2 j y J U) aw h.1).trans (by cases a[k]?<;>rfl)
theorem SC(a:List bf)(k:Nat)(m:bf):ll k (a.map bf.e)++m.e::mR k (a.map bf.e)=(a.take k++m::a.drop k).map bf.e:=by simp
theorem zh(a:List bf)(k:Nat)(m:bf):cU (ll k (a.map bf.e)++m.e::mR k (a.map bf.e))=ll k (a.map bf.e)++m.e::mR k (a.map bf.e):=by rw[SC,K6]
theorem zg(S:aD→Prop)(a:List bf)(k:Nat)(m:bf):aH S (ll k (a.map bf.e)++m.e::mR k (a.map bf.e))=True:=by rw[SC,RT]
theorem SB(a:List bf)(m:bf):a.map bf.e++[m.e]=(a++[m]).map bf.e:=by simp
theorem zf(a:List bf)(m:bf):cU (a.map bf.e++[m.e])=a.map bf.e++[m.e]:=by rw[SB,K6]
theorem ze(S:aD→Prop)(a:List bf)(m:bf):aH S (a.map bf.e++[m.e])=True:=by rw[SB,RT]
theorem aj4(l:List bf)(au:l.length≤68719470000)(t:T)(aO:t.size≤5000)(s:List dA)(bD:hy e5 l):bI ao 181 [.slice 2 .no (l.map bf.e),t.e,.str s] (iN (lp l t s)):=by
 have j7:=Ls s t;cases cI:t.has s;rotate_left
 ·have bs:lp l t s=none:=by simp[lp,cI]
  rw[bs];rw[cI]at j7;refine br lI Pn S4 fun aR=>?_;unfold G6;simp;(with_reducible repeat' first|refine ak ?_|refine aE j7 ?_|refine aF j7 ?_|simp);all_goals simp[bA,Ky,aV,aY,aU]
  all_goals simp[iN]
 ·rw[cI]at j7;have dJ:=aaC cI bD;have pc:=CI t [];have q3:=F6 t [] (by simp;omega) (by simp[sH]);have H0:ef []=[]:=rfl;rw[H0]at q3;rw[dJ];clear dJ cI;generalize h7 t []=ba at q3 pc⊢;have kp:ba.length≤5000:=by simp at pc;omega
  generalize gw:oE s ba l=F;refine br lI Pn S4 fun aR=>?_;unfold G6;simp;(with_reducible repeat' first|refine ak ?_|refine aE j7 ?_|refine aF j7 ?_|refine aE q3 ?_|refine aF q3 ?_|simp[eT]);refine dU [2,17,18] (fun i (a:List bf)=>[(0,.slice 2 .no (a.map bf.e)),(19,.int .i64 i)]) ba.length (BC l ba s) l ⟨by simp[fresh,aH,aB,cf,inObs,Pv.look,eT],eh (by simp[fresh,aH,aB,cf,inObs,Pv.look,eT]),ei (by simp[fresh,aH,aB,dN,inObs,Pv.look,eT]),by simp⟩ (by simp[BC,oE]) (fun a af _=>?_) (fun i a hi af _=>?_)
  ·rw[BC,oY,gw]at af;subst af;simp[eT];(with_reducible repeat' first|refine ak ?_|simp[eT]);all_goals simp[bA,Ky,aV,aY,aU]
   all_goals simp[iN]
  ·obtain⟨v,aK⟩:∃v,ba[i]? =some v:=⟨_,ca hi⟩;have p9:∀h,((ef ba)[i]'h)= .int .i64 v:=fun cp=>by have:=Bz ba i;rw[aK,ca cp]at this;exact fw this
   have qI:hy e5 a:=by rw[af];exact HH s _ bD
   have qJ:a.length≤68719475000:=by have:=Px s (ba.take i) l;rw[af];simp at this⊢;omega
   have fi:BC l ba s (i+1) (jN e5 ⟨v,s⟩ a):=by rw[BC,List.take_succ,aK,af];simp[oE]
   generalize hm:(⟨v,s⟩:bf)=m at fi;have acy:m.v=v:=by rw[←hm]
   have tp:m.s=s:=by rw[←hm]
   subst acy;subst tp;clear af gw;simp[hi,p9,eT];(with_reducible repeat' first|refine ak ?_|simp[hi,p9,eT]);refine uC [0,2,10,17,18,19] (fun(k:Nat)=>[(11,.int .i64 k)]) (fun k=>a.length-k) (y0 a m) 0 ⟨by simp[fresh,aH,aB,cf,inObs,Pv.look,eT],eh (by simp[fresh,aH,aB,cf,inObs,Pv.look,eT]),ei (by simp[fresh,aH,aB,dN,inObs,Pv.look,eT]),by simp⟩ ⟨by omega,fun j y h=>by omega⟩ (fun k af _=>?_);have ab:=af.1;by_cases gZ:k<a.length
   ·obtain⟨b,ae,cG⟩:=ep gZ;cases bu:hv e5 b m
    ·have ti:0≤e5 b m:=by simpa[hv]using bu
     have dw:=af.fin (fun y aL=>by rw[ae]at aL;cases aL;exact ti);rw[ae]at dw;cases DY:hv e5 m b
     ·have hle:0≤e5 m b:=by simpa[hv]using DY
      have bs:e5 b m=0:=by have:=lb.neg b m;omega
      rw[if_pos (by simp[bs])]at dw;rw[dw]at fi;clear af ae dw qJ qI;simp[gZ,cG];((with_reducible repeat' first|refine ak ?_|refine aE (lj _ _) ?_|refine aF (lj _ _) ?_|simp[gZ,cG,bu,DY]|((first|apply bO|apply bS|apply bR)<;>intro h<;>try simp at h))<;>(try exact cq));all_goals exact bL.rng a hi fi ⟨by simp[fresh,aH,aB,cf,inObs,Pv.look,eT],eh (by simp[fresh,aH,aB,cf,inObs,Pv.look,eT]),ei (by simp[fresh,aH,aB,dN,inObs,Pv.look,eT]),by simp⟩
     ·have hle:e5 m b<0:=by simpa[hv]using DY
      have bs:¬e5 b m=0:=by have:=lb.neg b m;omega
      rw[if_neg (by simp[bs])]at dw;rw[dw]at fi;clear af ae dw qI;simp[gZ,cG];((with_reducible repeat' first|refine ak ?_|refine aE (lj _ _) ?_|refine aF (lj _ _) ?_|simp[gZ,cG,bu,DY]|((first|apply bO|apply bS|apply bR)<;>intro h<;>try simp at h))<;>(try exact cq));all_goals first|(refine⟨by unfold lim;omega,?_⟩)|skip
      all_goals(with_reducible repeat' first|refine ak ?_|simp)
      all_goals first|(refine⟨by unfold lim;omega,?_⟩)|skip
      all_goals((with_reducible repeat' first|refine ak ?_|simp|((first|apply bO|apply bS|apply bR)<;>intro h<;>try simp at h))<;>(try exact cq))
      all_goals exact bL.rng _ hi fi ⟨by simp[fresh,aH,aB,cf,inObs,Pv.look,eT,hq,zh,zg,zf,ze],eh (by simp[fresh,aH,aB,cf,inObs,Pv.look,eT,hq,zh,zg,zf,ze]),ei (by simp[fresh,aH,aB,dN,inObs,Pv.look,eT,hq,zh,zg,zf,ze]),by simp⟩
    ·have uT:e5 b m<0:=by simpa[hv]using bu
     have ag:=af.step ae uT;clear af ae qI fi;simp[gZ,cG];((with_reducible repeat' first|refine ak ?_|refine aE (lj _ _) ?_|refine aF (lj _ _) ?_|simp[gZ,cG,bu]|((first|apply bO|apply bS|apply bR)<;>intro h<;>try simp at h))<;>(try exact cq));all_goals exact bL.whl (k+1) (by omega) ag ⟨by simp[fresh,aH,aB,cf,inObs,Pv.look,eT],eh (by simp[fresh,aH,aB,cf,inObs,Pv.look,eT]),ei (by simp[fresh,aH,aB,dN,inObs,Pv.look,eT]),by simp⟩
   ·have dw:=af.fin (fun y aL=>by rw[pJ (by omega)]at aL;cases aL);rw[pJ (by omega)]at dw;simp only[gI,if_false]at dw;rw[dw]at fi;have h6:k=a.length:=by omega
    clear af dw qI;subst h6;simp;(with_reducible repeat' first|refine ak ?_|simp);all_goals first|(refine⟨by unfold lim;omega,?_⟩)|skip
    all_goals(with_reducible repeat' first|refine ak ?_|simp)
    all_goals first|(refine⟨by unfold lim;omega,?_⟩)|skip
    all_goals(with_reducible repeat' first|refine ak ?_|simp)
    all_goals exact bL.rng _ hi fi ⟨by simp[fresh,aH,aB,cf,inObs,Pv.look,eT,hq,zh,zg,zf,ze],eh (by simp[fresh,aH,aB,cf,inObs,Pv.look,eT,hq,zh,zg,zf,ze]),ei (by simp[fresh,aH,aB,dN,inObs,Pv.look,eT,hq,zh,zg,zf,ze]),by simp⟩
theorem Lu{s:List aq}(ag:eG s){l:List bf}(au:iJ l){G:List (List dA)}(mv:G.length≤687000)(a1:np G l):bI ao 150 [.slice 5 .no (s.map aq.e),.slice 2 .no (l.map bf.e)] (iN (fS s l [])):=by
 have hlen:∀{a:List bf},iJ a→np G a→a.length≤68719470000:=fun J U=>by have:=BO J U;omega
 have wO:=hlen au a1;refine br lI aat agR fun aR=>?_;unfold Oo;simp;refine dU [0,11,12] (fun i (a:List bf)=>[(6,.slice 2 .no (a.map bf.e)),(13,.int .i64 i)]) l.length (Rn s G l) [] b4 ⟨⟨by simp,by simp[hy]⟩,fun x ad=>by simp at ad,rfl⟩ (fun a af _=>?_) (fun i a hi af _=>?_)
 ·obtain⟨_,_,af⟩:=af;rw[List.drop_length]at af;simp only[fS]at af;rw[←af];simp;(with_reducible repeat' first|refine ak ?_|simp);simp[bA,Kz,aV,aY,aU];simp[iN]
 ·obtain⟨bD,Bt,af⟩:=af;obtain⟨b,ae,cG⟩:=ep hi;have nK:=au.at' b (eP ae);have H5:=a1 b (eP ae);rw[kQ hi,cG]at af;simp only[fS]at af;have kI:=F7 s ag.len (.var b.v);rw[VE]at kI;have fY:=aj4 a (hlen bD Bt) (cx s b.v) (Cu ag b.v) b.s bD.asc;simp[hi,cG];cases dJ:lp a (cx s b.v) b.s with
  |none=>rw[dJ]at af fY;simp only at af;rw[←af];simp only[iN]at fY;(with_reducible repeat' first|refine ak ?_|refine aE (jS _) ?_|refine aF (jS _) ?_|refine aE kI ?_|refine aF kI ?_|refine aE fY ?_|refine aF fY ?_|simp[cG,hi]);simp[bA,Kz,aV,aY,aU];simp[iN]
  |some bj=>rw[dJ]at af fY;simp only[iN]at fY;(with_reducible repeat' first|refine ak ?_|refine aE (jS _) ?_|refine aF (jS _) ?_|refine aE kI ?_|refine aF kI ?_|refine aE fY ?_|refine aF fY ?_|simp[cG,hi]);exact bL.rng bj hi ⟨Gx bD (zM ag nK.1) nK.2 dJ,Gy Bt H5 dJ,af⟩ b4
theorem ai4{s:List aq}(av:pA s)(bD:h9 s)(aI:hg s):gu (s.map aq.b)=s.all (lM s):=by
 rw[pH,ja,qk,←Ux bD];constructor
 ·rintro⟨ai,J,U,al,a6⟩;rw[um J];exact al
 ·intro al;exact⟨s,rfl,av,al,aI⟩
theorem Wz{s:List aq}(bD:h9 s)(b:aq):lM s b=true↔(∀v∈h7 b.t [],dd s v=none)∧(b.t.kind==1&&decide (b.v≤b.t.int))=false:=by unfold lM;rw[cA,Py bD];simp only[true_and,Bool.not_eq_true',ET,List.not_mem_nil,or_false]
def BB(s:List aq)(ba:List Int)(i:Nat)(_:Unit):Prop:= ∀v∈ba.take i,dd s v=none
theorem BB.step{s:List aq}{ba:List Int}{i:Nat}(h:BB s ba i ()){v:Int}(aK:ba[i]? =some v)(aA:dd s v=none):BB s ba (i+1) ():=fun w hw=>by
 rw[List.take_succ,aK]at hw;simp only[ki,Option.toList_some,List.mem_singleton]at hw;rcases hw with hw|rfl
 ·exact h w hw
 ·exact aA
theorem Lw(l:List cQ):bI ao 76 [.slice 5 .no (l.map cQ.e)] (.bool (gu l)):=by
 have aK:=ajT l;by_cases h:x0 l;rotate_left
 ·have bs:gu l=false:=by unfold gu;simp only[hx];rintro⟨s,J,U,al,a6⟩;exact h (Gb.2 ⟨s,J,U,al.asc,a6⟩)
  rw[bs];refine br et Pm S3 fun aR=>?_;unfold G5;exact ct
 ·obtain⟨s,rfl,av,bD,aI⟩:=Gb.1 h;have au:s.length≤1000000:=by have:=aI.1;omega
  rw[ai4 av bD aI];rw[za]at aK⊢;simp only[h,decide_true]at aK;clear h;generalize bh:s.all (lM s)=R;refine br et Pm S3 fun aR=>?_;unfold G5;simp;(with_reducible repeat' first|refine ak ?_|refine aE aK ?_|refine aF aK ?_|simp);refine dU [0,12,13] (fun i (_:Unit)=>[(14,.int .i64 i)]) s.length (q1 (lM s) s) () b4 (fun k b ab=>by omega) (fun _ af _=>?_) (fun i _ hi af _=>?_)
  ·have:R=true:=by rw[←bh,ja];intro b ae;obtain⟨k,ab,e⟩:=mS ae;exact af k b ab (by rw[ca ab,e])
   rw[this];exact ct
  ·obtain⟨b,ae,cG⟩:=ep hi;have gl:¬lM s b=true→R=false:=fun h=>by rw[←bh,Bool.eq_false_iff];intro cp;rw[ja]at cp;exact h (cp b (eP ae))
   have qO:lM s b=true→q1 (lM s) s (i+1) ():=fun h=>af.step ae h;have tk:=Wz bD b;have dW:=aI.2 b (eP ae);have pc:=CI b.t [];have q3:=F6 b.t [] (by simp;omega) (by simp[sH]);have H0:ef []=[]:=rfl;rw[H0]at q3;generalize h7 b.t []=ba at q3 pc tk;have kp:ba.length≤5000:=by simp at pc;omega
   rw[tk]at gl qO;clear tk af pc ae;simp[hi,cG];cases ab:(b.t.kind==1&&decide (b.v≤b.t.int));rotate_left
   ·rw[gl (by rw[ab];simp)];rw[cA]at ab;have gg:=ab.1;have kF:b.v≤b.t.int:=of_decide_eq_true ab.2;exact ct
   ·rw[ab]at gl qO;simp only[and_true]at gl qO;cases gg:(b.t.kind==1)
    ·clear ab;(with_reducible repeat' first|refine ak ?_|refine aE q3 ?_|refine aF q3 ?_|simp[cG,hi,eT,gg]);refine dU [0,12,13,14,32,33] (fun j (_:Unit)=>[(34,.int .i64 j)]) ba.length (BB s ba) () ⟨by simp[fresh,aH,aB,cf,inObs,Pv.look,eT],eh (by simp[fresh,aH,aB,cf,inObs,Pv.look,eT]),ei (by simp[fresh,aH,aB,dN,inObs,Pv.look,eT]),by simp⟩ (fun v aK=>by simp at aK) (fun _ af _=>?_) (fun j _ dR af _=>?_)
     ·have a1:=qO (fun v aK=>af v (by rwa[oY]));simp[eT];(with_reducible repeat' first|refine ak ?_|simp[eT]);exact bL.rng () hi a1 ⟨by simp[fresh,aH,aB,cf,inObs,Pv.look,eT],eh (by simp[fresh,aH,aB,cf,inObs,Pv.look,eT]),ei (by simp[fresh,aH,aB,dN,inObs,Pv.look,eT]),by simp⟩
     ·obtain⟨v,aK⟩:∃v,ba[j]? =some v:=⟨_,ca dR⟩;have p9:∀h,((ef ba)[j]'h)= .int .i64 v:=fun cp=>by have:=Bz ba j;rw[aK,ca cp]at this;exact fw this
      have jm:=uh s v au;cases gN:dd s v with
      |none=>have aA:=af.step aK gN;rw[gN]at jm;simp only[mU,lK]at jm;clear af qO gl gN;simp[dR,p9,eT];(with_reducible repeat' first|refine ak ?_|refine aE jm ?_|refine aF jm ?_|simp[dR,p9,eT]);exact bL.rng () dR aA ⟨by simp[fresh,aH,aB,cf,inObs,Pv.look,eT],eh (by simp[fresh,aH,aB,cf,inObs,Pv.look,eT]),ei (by simp[fresh,aH,aB,dN,inObs,Pv.look,eT]),by simp⟩
      |some x=>rw[gl (fun h=>by have:=h v (eP aK);rw[gN]at this;cases this)];rw[gN]at jm;simp only[kR,rD]at jm;clear af qO gl gN;simp[dR,p9,eT];(with_reducible repeat' first|refine ak ?_|refine aE jm ?_|refine aF jm ?_|simp[dR,p9,eT]);simp[bA,Kq,aV,aY,aU]
    ·have kF:¬b.v≤b.t.int:=by rw[gg]at ab;simpa using ab
     clear ab;(with_reducible repeat' first|refine ak ?_|refine aE q3 ?_|refine aF q3 ?_|simp[cG,hi,eT,gg,kF]);refine dU [0,12,13,14,32,33] (fun j (_:Unit)=>[(34,.int .i64 j)]) ba.length (BB s ba) () ⟨by simp[fresh,aH,aB,cf,inObs,Pv.look,eT],eh (by simp[fresh,aH,aB,cf,inObs,Pv.look,eT]),ei (by simp[fresh,aH,aB,dN,inObs,Pv.look,eT]),by simp⟩ (fun v aK=>by simp at aK) (fun _ af _=>?_) (fun j _ dR af _=>?_)
     ·have a1:=qO (fun v aK=>af v (by rwa[oY]));simp[eT];(with_reducible repeat' first|refine ak ?_|simp[eT]);exact bL.rng () hi a1 ⟨by simp[fresh,aH,aB,cf,inObs,Pv.look,eT],eh (by simp[fresh,aH,aB,cf,inObs,Pv.look,eT]),ei (by simp[fresh,aH,aB,dN,inObs,Pv.look,eT]),by simp⟩
     ·obtain⟨v,aK⟩:∃v,ba[j]? =some v:=⟨_,ca dR⟩;have p9:∀h,((ef ba)[j]'h)= .int .i64 v:=fun cp=>by have:=Bz ba j;rw[aK,ca cp]at this;exact fw this
      have jm:=uh s v au;cases gN:dd s v with
      |none=>have aA:=af.step aK gN;rw[gN]at jm;simp only[mU,lK]at jm;clear af qO gl gN;simp[dR,p9,eT];(with_reducible repeat' first|refine ak ?_|refine aE jm ?_|refine aF jm ?_|simp[dR,p9,eT]);exact bL.rng () dR aA ⟨by simp[fresh,aH,aB,cf,inObs,Pv.look,eT],eh (by simp[fresh,aH,aB,cf,inObs,Pv.look,eT]),ei (by simp[fresh,aH,aB,dN,inObs,Pv.look,eT]),by simp⟩
      |some x=>rw[gl (fun h=>by have:=h v (eP aK);rw[gN]at this;cases this)];rw[gN]at jm;simp only[kR,rD]at jm;clear af qO gl gN;simp[dR,p9,eT];(with_reducible repeat' first|refine ak ?_|refine aE jm ?_|refine aF jm ?_|simp[dR,p9,eT]);simp[bA,Kq,aV,aY,aU]
theorem Vw{s:List aq}(h:eG s):bI ao 76 [.slice 5 .no (s.map aq.e)] (.bool true):=by have:=Lw (s.map aq.b);rw[za,qk.2 ⟨s,rfl,h.ok,h.sol,h.fits⟩]at this;exact this
def Oj:C:=(aa [bm 2 false] (.seq (aa [I 5 0,cn 6 5,bV 7 0] (fG 8 7 6 (.seq (.block 1 (aa [cv 9 1 5 7,ax 10 1 9,I 4 10] (aa [I 11 4,c7 12 76 11,cB 13 12] (aT 13 (aa [bm 2 false] .ret) .skip)))) (.region [aS 14 .add 7 1,I 7 14])))) (aa [bm 2 true] .ret)))
@[simp] def ah4:List bK:=[.tmp 2]
def Oq:C:=(aa [bm 4 false] (.seq (aa [I 7 0,cn 8 7,bV 9 0] (fG 10 9 8 (.seq (.block 1 (aa [cv 11 5 7 9,be 12 5 11,dL 6 jO,b1 5 6 12] (aa [aG 13 0 1 6,ax 14 1 13,I 15 1,bk 16 .geq 14 15,I 17 16,ar 17 false (hG 18 1 4 6),ar 17 false (be 19 4 18),b3 17 false 20 1,ar 17 false (cl 21 148 19 20),ar 17 false (cB 22 21),df 23 17 22] (aT 23 (aa [bm 4 false] .ret) .skip)))) (.region [aS 24 .add 9 1,I 9 24])))) (aa [bm 4 true] .ret)))
@[simp] def ah7:List bK:=[.tmp 4]
def yc:C:=(aa [cP 2 0,bm 4 false] (.seq (aa [aG 7 3 1 2,ax 8 1 7,cn 9 8,bV 10 0] (fG 11 10 9 (.seq (.block 1 (aa [cv 12 4 8 10,be 13 4 12,dL 6 dX,b1 4 6 13] (aa [be 14 4 6,I 15 1,cl 16 148 14 15,cB 17 16] (aT 17 (aa [bm 4 false] .ret) .skip)))) (.region [aS 18 .add 10 1,I 10 18])))) (aa [aG 19 0 1 2,ax 20 1 19,aS 21 .neq 20 1,I 22 21,ar 22 false (aG 23 1 1 2),ar 22 false (ax 24 1 23),b3 22 false 25 1,ar 22 false (bk 26 .lss 24 25),df 27 22 26,I 4 27] .ret)))
@[simp] def vv:List bK:=[.tmp 4]
def Oi:C:=(aa [eO 4 5] (aa [fC 10 5 113 [],I 5 10] (.seq (aa [I 11 1,cn 12 11,bV 13 0] (fG 14 13 12 (.seq (.block 1 (aa [cv 15 5 11 13,be 16 5 15,dL 7 jO,b1 5 7 16] (aa [I 18 0,aG 19 0 1 7,ax 20 1 19,cl 21 146 18 20,I 17 21,cV 22 0 17,cV 23 1 17,dL 8 dX,b1 4 8 22,I 9 23] (aa [I 24 9,cB 25 24] (aT 25 (.region [I 26 5,be 27 5 7,fC 28 5 113 [.t 27],iP 29 5 113 26 28,I 5 29]) .skip))))) (.region [aS 30 .add 13 1,I 13 30])))) (aa [I 31 5,I 4 31] .ret))))
@[simp] def ah3:List bK:=[.tmp 4]
def Om:C:=(aa [eO 2 1] (aa [fC 11 1 46 [],I 3 11] (.seq (.seq (.fg false 3 (.region [I 12 0,cn 13 12,bV 14 0])) (fG 15 14 13 (.seq (.block 1 (aa [cv 16 1 12 14,ax 17 1 16,I 5 17] (aa [bm 6 true] (.seq (aa [I 18 0,cn 19 18,bV 20 0] (.block 2 (.loop (aa [bk 21 .lss 20 19] (.seq (aT 21 .skip (.exit 2)) (.seq (.block 3 (aa [cv 22 1 18 20,ax 23 1 22,I 8 23] (.region [I 24 6,I 25 24,b3 25 true 26 8,b3 25 true 27 5,ar 25 true (cl 28 155 26 27),ar 25 true (aS 29 .eql 28 0),b3 25 true 30 29,b3 30 false 31 8,b3 30 false 32 5,ar 30 false (cl 33 203 31 32),ar 30 false (cB 34 33),ar 25 true (df 35 30 34),dH 36 25 35,I 6 36]))) (.region [aS 37 .add 20 1,I 20 37]))))))) (aa [I 38 3,cn 39 38,I 9 39] (.seq (.block 4 (.loop (.seq (aa [I 40 9,aS 41 .gtr 40 0,I 42 41,b3 42 true 43 3,b3 42 true 44 9,ar 42 true (aS 45 .sub 44 1),ar 42 true (cv 46 1 43 45),ar 42 true (ax 47 1 46),b3 42 true 48 5,ar 42 true (cl 49 155 47 48),ar 42 true (aS 50 .geq 49 0),dH 51 42 50] (aT 51 .skip (.exit 4))) (.block 5 (.region [I 52 9,aS 53 .sub 52 1,I 9 53]))))) (aa [I 54 6,I 55 54,b3 55 true 56 9,b3 55 true 57 3,ar 55 true (cn 58 57),ar 55 true (bk 59 .eql 56 58),b3 55 true 60 59,b3 60 false 61 3,b3 60 false 62 9,ar 60 false (cv 63 1 61 62),ar 60 false (ax 64 1 63),b3 60 false 65 5,ar 60 false (cl 66 155 64 65),ar 60 false (aS 67 .neq 66 0),ar 55 true (df 68 60 67),dH 69 55 68] (aT 69 (aa [fC 70 1 46 [],I 71 3,I 72 9,b0 73 (.lsl 1 (.t 71) none (some (.t 72))),iP 74 1 46 70 73,I 10 74] (aa [I 75 10,I 76 5,fC 77 1 46 [.t 76],iP 78 1 46 75 77,I 10 78] (.region [I 79 10,I 80 3,I 81 9,b0 82 (.lsl 1 (.t 80) (some (.t 81)) none),iP 83 1 46 79 82,I 3 83]))) .skip)))))))) (.fg false 3 (.region [aS 84 .add 14 1,I 14 84]))))) (aa [I 85 3,I 2 85] .ret))))
@[simp] def ah5:List bK:=[.tmp 2]
def Ol:C:=(aa [bV 4 0] (.seq (aa [bV 5 0] (.block 0 (.loop (.seq (aa [I 7 5,I 8 0,cn 9 8,bk 10 .lss 7 9,I 11 10,b3 11 true 12 5,b3 11 true 13 1,ar 11 true (cn 14 13),ar 11 true (bk 15 .lss 12 14),dH 16 11 15] (aT 16 .skip (.exit 0))) (.seq (.block 1 (.seq (.seq (.drawn true 67 [I 19 0,I 20 5,cv 21 5 19 20,aG 22 0 1 21,ax 23 1 22,I 24 1,I 25 5,cv 26 5 24 25,aG 27 0 1 26,ax 28 1 27,bk 29 .neq 23 28]) (aT 29 (.seq (.drawn true 67 [I 30 0,I 31 5,cv 32 5 30 31,aG 33 0 1 32,ax 34 1 33,I 35 1,I 36 5,cv 37 5 35 36,aG 38 0 1 37,ax 39 1 38,bk 40 .lss 34 39,c7 41 188 40,I 4 41]) .ret) .skip)) (.seq (.drawn true 67 [I 42 0,I 43 5,cv 44 5 42 43,hG 45 1 4 44,be 46 4 45,I 47 1,I 48 5,cv 49 5 47 48,hG 50 1 4 49,be 51 4 50,cl 52 125 46 51,I 6 52]) (aa [I 53 6,aS 54 .neq 53 0] (aT 54 (aa [I 55 6,I 4 55] .ret) .skip))))) (.region [I 17 5,aS 18 .add 17 1,I 5 18])))))) (.seq (aa [I 56 0,cn 57 56,I 58 1,cn 59 58,bk 60 .neq 57 59] (aT 60 (aa [I 61 0,cn 62 61,I 63 1,cn 64 63,bk 65 .lss 62 64,c7 66 188 65,I 4 66] .ret) .skip)) (aa [bV 4 0] .ret))))
@[simp] def Ch:List bK:=[.tmp 4]
def N0:C:=(aa [bm 4 false] (.seq (aa [I 11 0,c7 12 76 11,cB 13 12,I 14 13,b3 14 false 15 1,ar 14 false (c7 16 76 15),ar 14 false (cB 17 16),df 18 14 17] (aT 18 (aa [bm 4 false] .ret) .skip)) (.seq (aa [I 19 0,cn 20 19,bV 21 0] (fG 22 21 20 (.seq (.block 1 (aa [cv 23 5 19 21,be 24 5 23,dL 6 jO,b1 5 6 24] (aa [I 26 1,aG 27 0 1 6,ax 28 1 27,c7 29 114 28,cl 30 60 26 29,I 25 30,cV 31 0 25,cV 32 1 25,dL 7 dX,b1 4 7 31,I 8 32] (aa [I 34 1,hG 35 1 4 6,be 36 4 35,cl 37 60 34 36,I 33 37,cV 38 0 33,cV 39 1 33,dL 9 dX,b1 4 9 38,I 10 39] (aa [I 40 8,cB 41 40,I 42 41,b3 42 false 43 10,ar 42 false (cB 44 43),df 45 42 44,I 46 45,ar 46 false (be 47 4 7),ar 46 false (be 48 4 9),ar 46 false (cl 49 129 47 48),ar 46 false (cB 50 49),df 51 46 50] (aT 51 (aa [bm 4 false] .ret) .skip)))))) (.region [aS 52 .add 21 1,I 21 52])))) (aa [bm 4 true] .ret))))
@[simp] def Kp:List bK:=[.tmp 4]
def vI:List (Nat×dB):=[
 (3,⟨1,8,.int .i64,.int .i64 0⟩),
 (27,⟨1,24,.slice 30,.slice 4 .nil []⟩),
 (30,⟨4,56,.struct [(0,3),(1,3),(2,9),(3,27)],.agg [.int .i64 0,.int .i64 0,.str [],.slice 4 .nil []]⟩),
 (46,⟨1,24,.slice 113,.slice 5 .nil []⟩),
 (47,⟨1,24,.slice 46,.slice 1 .nil []⟩),
 (113,⟨5,64,.struct [(0,3),(1,30)],.agg [.int .i64 0,.int .i64 0,.int .i64 0,.str [],.slice 4 .nil []]⟩)]
theorem rp:fN ao vI=true:=by kernel_rfl
theorem agN:b5 vI Oj ah4 1 Tryz.f77=true:=by kernel_rfl
theorem aap:ao.funcs[(77:Nat)]? =some Tryz.f77:=Tryz.func77
theorem agS:b5 vI Oq ah7 2 Tryz.f80=true:=by kernel_rfl
theorem aau:ao.funcs[(80:Nat)]? =some Tryz.f80:=Tryz.func80
theorem B5:b5 vI yc vv 2 Tryz.f148=true:=by kernel_rfl
theorem AH:ao.funcs[(148:Nat)]? =some Tryz.f148:=Tryz.func148
theorem agM:b5 vI Oi ah3 2 Tryz.f153=true:=by kernel_rfl
theorem aao:ao.funcs[(153:Nat)]? =some Tryz.f153:=Tryz.func153
theorem agP:b5 vI Om ah5 1 Tryz.f154=true:=by kernel_rfl
theorem aar:ao.funcs[(154:Nat)]? =some Tryz.f154:=Tryz.func154
theorem agO:b5 vI Ol Ch 2 Tryz.f155=true:=by kernel_rfl
theorem aaq:ao.funcs[(155:Nat)]? =some Tryz.f155:=Tryz.func155
theorem agv:b5 vI N0 Kp 2 Tryz.f203=true:=by kernel_rfl
theorem Z7:ao.funcs[(203:Nat)]? =some Tryz.f203:=Tryz.func203
@[simp] def aoc:List bK:=[.tmp 4]
@[simp] def aog:List bK:=[.tmp 2]
@[simp] def aom:List bK:=[.tmp 4]
@[simp] def aoj:List bK:=[.tmp 4]
@[simp] def aoh:List bK:=[.tmp 2]
def Au:C:=(aa [cP 2 0,cP 3 1,bV 4 0] (.seq (aa [aG 7 0 1 2,ax 8 1 7,aG 9 0 1 3,ax 10 1 9,bk 11 .neq 8 10] (aT 11 (aa [aG 12 0 1 2,ax 13 1 12,aG 14 0 1 3,ax 15 1 14,bk 16 .lss 13 15,c7 17 188 16,I 4 17] .ret) .skip)) (.seq (aa [aG 18 1 1 2,ax 19 1 18,aG 20 1 1 3,ax 21 1 20,bk 22 .neq 19 21] (aT 22 (aa [aG 23 1 1 2,ax 24 1 23,aG 25 1 1 3,ax 26 1 25,bk 27 .lss 24 26,c7 28 188 27,I 4 28] .ret) .skip)) (.seq (aa [aG 29 2 1 2,ax 30 1 29,aG 31 2 1 3,ax 32 1 31,bk 33 .neq 30 32] (aT 33 (aa [aG 34 2 1 2,ax 35 1 34,aG 36 2 1 3,ax 37 1 36,bk 38 .lss 35 37,c7 39 188 38,I 4 39] .ret) .skip)) (.seq (aa [bV 5 0] (.block 0 (.loop (.seq (aa [I 40 5,aG 41 3 1 2,ax 42 1 41,cn 43 42,bk 44 .lss 40 43,I 45 44,b3 45 true 46 5,ar 45 true (aG 47 3 1 3),ar 45 true (ax 48 1 47),ar 45 true (cn 49 48),ar 45 true (bk 50 .lss 46 49),dH 51 45 50] (aT 51 .skip (.exit 0))) (.seq (.block 1 (.seq (.drawn true 68 [aG 54 3 1 2,ax 55 1 54,I 56 5,cv 57 4 55 56,be 58 4 57,aG 59 3 1 3,ax 60 1 59,I 61 5,cv 62 4 60 61,be 63 4 62,cl 64 125 58 63,I 6 64]) (aa [I 65 6,aS 66 .neq 65 0] (aT 66 (aa [I 67 6,I 4 67] .ret) .skip)))) (.region [I 52 5,aS 53 .add 52 1,I 5 53])))))) (aa [bV 4 0] .ret))))))
@[simp] def zC:List bK:=[.tmp 4]
def N8:C:=(aa [cP 2 0,cP 3 1,bm 4 false] (aa [be 5 4 2,be 6 4 3,cl 7 125 5 6,aS 8 .eql 7 0,I 4 8] .ret))
@[simp] def TW:List bK:=[.tmp 4]
@[simp] def aod:List bK:=[.tmp 2]
@[simp] def aoi:List bK:=[.tmp 5]
@[simp] def aok:List bK:=[.tmp 2]
def N9:C:=(aa [bV 2 0] (.seq (aa [I 3 0] (aT 3 (aa [bV 2 (-1)] .ret) .skip)) (aa [bV 2 1] .ret)))
@[simp] def TX:List bK:=[.tmp 2]
@[simp] def aol:List bK:=[]
def FY:List (Nat×dB):=[
 (3,⟨1,8,.int .i64,.int .i64 0⟩),
 (4,⟨1,1,.bool,.bool false⟩),
 (9,⟨1,16,.str,.str []⟩),
 (27,⟨1,24,.slice 30,.slice 4 .nil []⟩),
 (30,⟨4,56,.struct [(0,3),(1,3),(2,9),(3,27)],.agg [.int .i64 0,.int .i64 0,.str [],.slice 4 .nil []]⟩),
 (46,⟨1,24,.slice 113,.slice 5 .nil []⟩),
 (47,⟨1,24,.slice 46,.slice 1 .nil []⟩),
 (76,⟨1,24,.slice 3,.slice 1 .nil []⟩),
 (113,⟨5,64,.struct [(0,3),(1,30)],.agg [.int .i64 0,.int .i64 0,.int .i64 0,.str [],.slice 4 .nil []]⟩)]
theorem zU:fN ao FY=true:=by kernel_rfl
theorem E2:b5 FY Au zC 2 Tryz.f125=true:=by kernel_rfl
theorem DB:ao.funcs[(125:Nat)]? =some Tryz.f125:=Tryz.func125
theorem agD:b5 FY N8 TW 2 Tryz.f129=true:=by kernel_rfl
theorem aaf:ao.funcs[(129:Nat)]? =some Tryz.f129:=Tryz.func129
theorem agE:b5 FY N9 TX 1 Tryz.f188=true:=by kernel_rfl
theorem aag:ao.funcs[(188:Nat)]? =some Tryz.f188:=Tryz.func188
theorem V9{t u:T}(J:t.kind=u.kind)(U:t.int=u.int)(al:t.name=u.name)(a6:t.args=u.args):t=u:=by cases t<;>cases u<;>simp_all
theorem qn(b:Bool):bI ao 188 [.bool b] (.int .i64 (if b then-1 else 1)):=by
 refine br zU aag agE fun aR=>?_;unfold N9;simp;((with_reducible repeat' first|refine ak ?_|simp|((first|apply bO|apply bS|apply bR)<;>intro h<;>try simp at h))<;>(try exact cq));all_goals simp[bA,TX,aV,aY,aU]
 all_goals simp_all
theorem agV{a b:T}(bD:a.args=[]∨b.args=[])(J:a.kind=b.kind)(U:a.int=b.int):eg a b=kd a.name b.name:=by cases a<;>cases b<;>simp_all[eg]
def BA(a b:T)(i:Nat)(_:Unit):Prop:=a.args.take i=b.args.take i
set_option maxRecDepth 4000 in
theorem Vk(a:T)(bM:∀x∈a.args,∀b:T,bI ao 125 [x.e,b.e] (.int .i64 (eg x b)))(b:T):bI ao 125 [a.e,b.e] (.int .i64 (eg a b)):=by
 have hle:a.args.length≤2:=by cases a<;>simp
 by_cases ab:a.kind=b.kind
 ·by_cases hi:a.int=b.int
  ·by_cases aA:a.name=b.name
   ·have hlen:a.args.length=b.args.length:=by cases a<;>cases b<;>simp at ab⊢
    refine br zU DB E2 fun aR=>?_;unfold Au;simp[ab,hi,aA];refine dU [2,3] (fun i (_:Unit)=>[(5,.int .i64 i)]) a.args.length (BA a b) () b4 (by simp[BA]) (fun _ af _=>?_) (fun i _ bu af _=>?_)
    ·simp;(with_reducible repeat' first|refine ak ?_|simp);simp[bA,zC,aV,aY,aU];unfold BA at af;rw[hq (by omega),hq (by omega)]at af;exact((qe a b).2 (V9 ab hi aA af)).symm
    ·have p5:i<b.args.length:=by omega
     obtain⟨x,ad⟩:∃x,x=a.args[i]:=⟨_,rfl⟩;obtain⟨y,aL⟩:∃y,y=b.args[i]:=⟨_,rfl⟩;have oL:=bM x (by rw[ad];exact List.getElem_mem bu) y;simp[bu,p5,←ad,←aL];(with_reducible repeat' first|((first|apply bO|apply bS|apply bR)<;>intro h<;>try simp at h)|refine ak ?_|refine aE oL ?_|refine aF oL ?_|simp)
     ·simp[bA,zC,aV,aY,aU];unfold BA at af;cases a with
      |pair bz a2=>
       cases b with
       |pair b9 bZ=>
        simp at bu af ad aL;rcases(by omega:i=0∨i=1)with rfl|rfl
        ·simp at ad aL;subst ad aL;simp[eg,h]
        ·simp at af ad aL;subst ad aL af;simp[eg,(qe bz bz).2 rfl]
       |_=>simp at ab
      |_=>simp at bu
     ·refine bL.rng () bu ?_ b4;unfold BA at af⊢;rw[List.take_succ,List.take_succ,af,ca bu,ca p5,←ad,←aL,(qe x y).1 h]
   ·refine br zU DB E2 fun aR=>?_;unfold Au;simp[ab,hi,aA];((with_reducible repeat' first|refine ak ?_|refine aE (qn _) ?_|refine aF (qn _) ?_|simp|((first|apply bO|apply bS|apply bR)<;>intro h<;>try simp at h))<;>(try exact cq));simp[bA,zC,aV,aY,aU];have:a.args=[]∨b.args=[]:=by cases a<;>cases b<;>simp at ab aA⊢
    rw[agV this ab hi,kd,if_neg aA]
  ·refine br zU DB E2 fun aR=>?_;unfold Au;simp[ab,hi];((with_reducible repeat' first|refine ak ?_|refine aE (qn _) ?_|refine aF (qn _) ?_|simp|((first|apply bO|apply bS|apply bR)<;>intro h<;>try simp at h))<;>(try exact cq));simp[bA,zC,aV,aY,aU];cases a<;>cases b<;>simp at ab hi
   ·rw[Ta];simp[en];split<;>(try split)<;>omega
   ·rw[S9];simp[en];split<;>(try split)<;>omega
 ·refine br zU DB E2 fun aR=>?_;unfold Au;simp[ab];((with_reducible repeat' first|refine ak ?_|refine aE (qn _) ?_|refine aF (qn _) ?_|simp|((first|apply bO|apply bS|apply bR)<;>intro h<;>try simp at h))<;>(try exact cq));simp[bA,zC,aV,aY,aU];rw[rb ab];simp[en];split<;>(try split)<;>omega
theorem F3(a:T):∀b:T,bI ao 125 [a.e,b.e] (.int .i64 (eg a b)):=by
 induction a with
 |pair x y oL q0=>
  refine Vk _ fun z bC=>?_;simp at bC;rcases bC with rfl|rfl
  ·exact oL
  ·exact q0
 |_=>exact Vk _ fun x ad=>by simp at ad
theorem Vm(a b:T):bI ao 129 [a.e,b.e] (.bool (decide (a=b))):=by refine br zU aaf agD fun aR=>?_;unfold N8;simp;(with_reducible repeat' first|refine ak ?_|refine aE (F3 _ _) ?_|refine aF (F3 _ _) ?_|simp);simp[bA,TW,aV,aY,aU];have:=qe a b;by_cases h:eg a b=0<;>simp_all
theorem ajX{s t:List aq}(ag:eG s)(aO:eG t):bI ao 153 [.slice 5 .no (s.map aq.e),.slice 5 .no (t.map aq.e)] (.slice 5 .no ((gp s t).map aq.e)):=by
 have ac4:=aO.len;generalize bh:gp s t=R;refine br rp aao agM fun aR=>?_;unfold Oi;simp;refine ik (α:=List aq) (fun i out=>⟨[(0,.slice 5 .no (s.map aq.e)),(11,.slice 5 .no (t.map aq.e)),(12,.int .i64 t.length),(5,.slice 5 (.own (.loc 0)) (out.map aq.e)),(13,.int .i64 i)],[],[(.loc 0,⟨out.length,113,5,none⟩)],1,[]⟩) t.length (qa s t) [] b4 (by simp[qa,gp]) (fun out af _=>?_) (fun i out hi af _=>?_)
 ·rw[qa,hq (eQ _),bh]at af;rw[←af];exact ct
 ·obtain⟨b,aK,gn⟩:=ep hi;have Bj:out.length≤1000000:=by
   have:out.length≤(t.take i).length:=by rw[af];exact List.length_filter_le _ _
   simp at this;omega
  have jm:=uh s b.v ag.len;cases ae:dd s b.v with
  |none=>
   have aA:qa s t (i+1) (out++[b]):=by rw[qa,ql aK,gp,List.filter_append,af];simp[gp,ae]
   rw[ae]at jm;simp only[mU,lK]at jm;clear af aK ae;simp[hi,gn];(with_reducible repeat' first|refine ak ?_|refine aE jm ?_|refine aF jm ?_|simp[gn,hi]);all_goals first|(refine⟨by unfold lim;omega,?_⟩)|skip
   (with_reducible repeat' first|refine ak ?_|simp);refine bL.rng (out++[b]) hi aA ?_;simp;exact⟨by simp[fresh,aH,aB,cf,inObs,Pv.look,jv],eh (by simp[fresh,aH,aB,cf,inObs,Pv.look,jv]),ei (by simp[fresh,aH,aB,dN,inObs,Pv.look,jv]),by simp⟩
  |some x=>
   have aA:qa s t (i+1) out:=by rw[qa,ql aK,gp,List.filter_append,af];simp[gp,ae]
   rw[ae]at jm;simp only[kR,rD]at jm;clear af aK ae;simp[hi,gn];(with_reducible repeat' first|refine ak ?_|refine aE jm ?_|refine aF jm ?_|simp[gn,hi]);refine bL.rng out hi aA ?_;exact b4
theorem ajv{s t:List aq}(ag:eG s)(aO:eG t):bI ao 203 [.slice 5 .no (s.map aq.e),.slice 5 .no (t.map aq.e)] (.bool (mI s t)):=by
 have pb:=ag.len;generalize bh:mI s t=R;have ec:=Vw ag;have dK:=Vw aO;refine br rp Z7 agv fun aR=>?_;unfold N0;simp;(with_reducible repeat' first|refine ak ?_|refine aE ec ?_|refine aF ec ?_|refine aE dK ?_|refine aF dK ?_|simp);refine dU [1,19,20] (fun i (_:Unit)=>[(21,.int .i64 i)]) s.length (q1 (q7 t) s) () b4 (fun k b ab=>by omega) (fun _ af _=>?_) (fun i _ hi af _=>?_)
 ·have:R=true:=by rw[←bh,mI,ja];intro b ae;obtain⟨k,ab,e⟩:=mS ae;exact af k b ab (by rw[ca ab,e])
  rw[this];exact ct
 ·obtain⟨b,aK,gn⟩:=ep hi;have gl:q7 t b=false→R=false:=fun h=>by rw[←bh,Bool.eq_false_iff];intro cp;rw[mI,ja]at cp;rw[cp b (eP aK)]at h;cases h
  have a8:=Lq t aO.len (.var b.v);have bU:=Lq t aO.len b.t;have wZ:=Cu aO b.v;have Ek:((T.var b.v).ap (cx t)).size≤5000:=wZ;rw[nz Ek]at a8;rw[show(T.var b.v).ap (cx t)=cx t b.v from rfl]at a8;by_cases bC:(b.t.ap (cx t)).size≤5000
  ·rw[nz bC]at bU;by_cases he:cx t b.v=b.t.ap (cx t)
   ·have aA:=af.step aK (by simp[q7,he]);have ft:=Vm (cx t b.v) (b.t.ap (cx t));rw[nz he]at ft;clear af aK;simp[hi,gn];(with_reducible repeat' first|refine ak ?_|refine aE (jS _) ?_|refine aF (jS _) ?_|refine aE a8 ?_|refine aF a8 ?_|refine aE bU ?_|refine aF bU ?_|refine aE ft ?_|refine aF ft ?_|simp[gn,hi]);exact bL.rng () hi aA b4
   ·rw[gl (by simp[q7,he])];have ft:=Vm (cx t b.v) (b.t.ap (cx t));rw[oe he]at ft;clear af aK;simp[hi,gn];(with_reducible repeat' first|refine ak ?_|refine aE (jS _) ?_|refine aF (jS _) ?_|refine aE a8 ?_|refine aF a8 ?_|refine aE bU ?_|refine aF bU ?_|refine aE ft ?_|refine aF ft ?_|simp[gn,hi]);simp[bA,Kp,aV,aY,aU]
  ·rw[oe bC]at bU;rw[gl (by simp only[q7,hx];intro e;rw[←e]at bC;exact bC wZ)];clear af aK;simp[hi,gn];(with_reducible repeat' first|refine ak ?_|refine aE (jS _) ?_|refine aF (jS _) ?_|refine aE a8 ?_|refine aF a8 ?_|refine aE bU ?_|refine aF bU ?_|simp[gn,hi]);simp[bA,Kp,aV,aY,aU]
theorem Lr(d e:List aq):bI ao 155 [.slice 5 .no (d.map aq.e),.slice 5 .no (e.map aq.e)] (.int .i64 (ek d e)):=by
 generalize bh:ek d e=R;refine br rp aaq agO fun aR=>?_;unfold Ol;have aP:d.length≤68719476736:=by simp[eE,ej,eu,lim]at aR;omega
 have he:e.length≤68719476736:=by simp[eE,ej,eu,lim]at aR;omega
 simp;refine uC [0,1] (fun(i:Nat)=>[(5,.int .i64 i)]) (fun i=>d.length-i) (I2 d e) 0 b4 ⟨by omega,by omega,by simp⟩ (fun i af _=>?_);obtain⟨J,U,al⟩:=af;rw[bh]at al;by_cases hi:i<d.length
 ·by_cases ho:i<e.length
  ·obtain⟨x,ad⟩:∃x,d[i]? =some x:=⟨_,ca hi⟩;obtain⟨y,aL⟩:∃y,e[i]? =some y:=⟨_,ca ho⟩;have cz:∀h,(d[i]'h)=x:=fun h=>by rw[ca hi]at ad;exact fw ad
   have eA:∀h,(e[i]'h)=y:=fun h=>by rw[ca ho]at aL;exact fw aL
   have yA:d.drop i=x::d.drop (i+1):=by rw[kQ hi,cz]
   have yB:e.drop i=y::e.drop (i+1):=by rw[kQ ho,eA]
   rw[yA,yB]at al;rw[S7]at al;by_cases aZ:x.v=y.v
   ·have nY:en x.v y.v=0:=(jQ.zero _ _).2 aZ;have sp:(x.v !=y.v)=false:=by simp[aZ]
    rw[if_pos nY]at al;by_cases bB:eg x.t y.t=0
    ·rw[if_pos bB]at al;have aA:I2 d e (i+1):=⟨by omega,by omega,by rw[bh];exact al⟩;have j7:=F3 x.t y.t;rw[bB]at j7;clear yA yB ad aL al nY;simp[hi,ho,cz,eA];((with_reducible repeat' first|refine ak ?_|refine aE j7 ?_|refine aF j7 ?_|simp[cz,eA,hi,ho,aZ,sp]|((first|apply bO|apply bS|apply bR)<;>intro h<;>try simp at h))<;>(try exact cq));all_goals exact bL.whl (i+1) (by omega) aA b4
    ·rw[if_neg bB]at al;have j7:=F3 x.t y.t;have xq:(eg x.t y.t !=0)=true:=by simp[bB]
     clear yA yB ad aL nY;simp[hi,ho,cz,eA];(with_reducible repeat' first|refine ak ?_|refine aE j7 ?_|refine aF j7 ?_|simp[cz,eA,hi,ho,aZ,sp,bB,xq]);all_goals simp[bA,Ch,aV,aY,aU]
     all_goals exact al
   ·have nY:¬en x.v y.v=0:=fun h=>aZ ((jQ.zero _ _).1 h);have sp:(x.v !=y.v)=true:=by simp[aZ]
    rw[if_neg nY]at al;have dv:R=if decide (x.v<y.v)=true then-1 else 1:=by rw[←al];unfold en;simp only[fx];(repeat' split)<;>omega
    clear yA yB ad aL al nY;rw[dv];simp[hi,ho,cz,eA];(with_reducible repeat' first|refine ak ?_|refine aE (qn _) ?_|refine aF (qn _) ?_|simp[cz,eA,hi,ho,aZ,sp]);all_goals simp[bA,Ch,aV,aY,aU]
  ·have hle:e.length<d.length:=by omega
   have:(1:Int)=R:=by rw[←al,ek,BJ _ _ _ (.inr (List.drop_eq_nil_of_le (by omega)))];simp only[rC];unfold en;(repeat' split)<;>omega
   have cC:¬(d.length:Int)=e.length:=by omega
   have Ir:((d.length:Int) !=e.length)=true:=by simp;omega
   have jj:¬(d.length:Int)<e.length:=by omega
   have Bf:¬d.length<e.length:=by omega
   have acC:¬d.length=e.length:=by omega
   clear al;rw[←this];simp[hi,ho];(with_reducible repeat' first|refine ak ?_|refine aE (qn _) ?_|refine aF (qn _) ?_|simp[hi,ho,cC,Ir,jj,Bf,acC]);all_goals simp[bA,Ch,aV,aY,aU]
   all_goals(try simp[Bf])
 ·have eN:i=d.length:=by omega
  by_cases au:d.length=e.length
  ·have:(0:Int)=R:=by rw[←al,ek,BJ _ _ _ (.inl (List.drop_eq_nil_of_le (by omega)))];simp only[rC];unfold en;(repeat' split)<;>omega
   clear al;rw[←this];exact ct
  ·have:(-1:Int)=R:=by rw[←al,ek,BJ _ _ _ (.inl (List.drop_eq_nil_of_le (by omega)))];simp only[rC];unfold en;(repeat' split)<;>omega
   have cC:¬(d.length:Int)=e.length:=by omega
   have Ir:((d.length:Int) !=e.length)=true:=by simp;omega
   have jj:(d.length:Int)<e.length:=by omega
   have Bf:d.length<e.length:=by omega
   clear al;rw[←this];simp[hi];(with_reducible repeat' first|refine ak ?_|refine aE (qn _) ?_|refine aF (qn _) ?_|simp[hi,cC,Ir,jj,Bf,au]);all_goals simp[bA,Ch,aV,aY,aU]
   all_goals(try simp[Bf])
def adL(n:Int)(a b:T)(i:Nat)(_:Unit):Prop:=(1≤i→ih n a=true)∧(2≤i→ih n b=true)
theorem Lv(n:Int):∀t:T,bI ao 148 [t.e,.int .i64 n] (.bool (ih n t))
 | .pair a b=>by
  have dO:=Lv n a;have dP:=Lv n b;refine br rp AH B5 fun aR=>?_;unfold yc;simp;refine dU [1,2,8,9] (fun i (_:Unit)=>[(10,.int .i64 i)]) 2 (adL n a b) () b4 ⟨fun h=>by omega,fun h=>by omega⟩ (fun _ af _=>?_) (fun i _ hi af _=>?_)
  ·simp;(with_reducible repeat' first|refine ak ?_|simp);simp[bA,vv,aV,aY,aU];simp[ih,af.1,af.2]
  ·rcases(by omega:i=0∨i=1)with rfl|rfl
   ·cases bD:ih n a
    ·rw[bD]at dO;simp;(with_reducible repeat' first|refine ak ?_|refine aE dO ?_|refine aF dO ?_|simp);simp[bA,vv,aV,aY,aU];simp[ih,bD]
    ·rw[bD]at dO;simp;((with_reducible repeat' first|refine ak ?_|refine aE dO ?_|refine aF dO ?_|simp|((first|apply bO|apply bS|apply bR)<;>intro h<;>try simp at h))<;>(try exact cq));exact bL.rng () hi ⟨fun _=>bD,fun h=>by omega⟩ b4
   ·cases ae:ih n b
    ·rw[ae]at dP;simp;((with_reducible repeat' first|refine ak ?_|refine aE dP ?_|refine aF dP ?_|simp|((first|apply bO|apply bS|apply bR)<;>intro h<;>try simp at h))<;>(try exact cq));simp[bA,vv,aV,aY,aU];simp[ih,ae]
    ·rw[ae]at dP;simp;((with_reducible repeat' first|refine ak ?_|refine aE dP ?_|refine aF dP ?_|simp|((first|apply bO|apply bS|apply bR)<;>intro h<;>try simp at h))<;>(try exact cq));exact bL.rng () hi ⟨fun _=>af.1 (by omega),fun _=>ae⟩ b4
 | .sym v=>by
  refine br rp AH B5 fun aR=>?_;unfold yc;simp;refine dU [1,2,8,9] (fun i (_:Unit)=>[(10,.int .i64 i)]) 0 (fun i _=>True) () b4 trivial (fun _ af _=>?_) (fun i _ hi af _=>by omega);simp;((with_reducible repeat' first|refine ak ?_|simp|((first|apply bO|apply bS|apply bR)<;>intro h<;>try simp at h))<;>(try exact cq));all_goals simp[bA,vv,aV,aY,aU]
  all_goals simp[ih]
 | .num v=>by
  refine br rp AH B5 fun aR=>?_;unfold yc;simp;refine dU [1,2,8,9] (fun i (_:Unit)=>[(10,.int .i64 i)]) 0 (fun i _=>True) () b4 trivial (fun _ af _=>?_) (fun i _ hi af _=>by omega);simp;(with_reducible repeat' first|refine ak ?_|simp);all_goals simp[bA,vv,aV,aY,aU]
  all_goals simp[ih]
 | .var v=>by
  refine br rp AH B5 fun aR=>?_;unfold yc;simp;refine dU [1,2,8,9] (fun i (_:Unit)=>[(10,.int .i64 i)]) 0 (fun i _=>True) () b4 trivial (fun _ af _=>?_) (fun i _ hi af _=>by omega);simp;(with_reducible repeat' first|refine ak ?_|simp);all_goals simp[bA,vv,aV,aY,aU]
  all_goals simp[ih]
 | .nil=>by
  refine br rp AH B5 fun aR=>?_;unfold yc;simp;refine dU [1,2,8,9] (fun i (_:Unit)=>[(10,.int .i64 i)]) 0 (fun i _=>True) () b4 trivial (fun _ af _=>?_) (fun i _ hi af _=>by omega);simp;(with_reducible repeat' first|refine ak ?_|simp);all_goals simp[bA,vv,aV,aY,aU]
  all_goals simp[ih]
theorem Vs(s:List aq)(n:Int):bI ao 80 [.slice 5 .no (s.map aq.e),.int .i64 n] (.bool (s.all (kl n))):=by
 generalize bh:s.all (kl n)=R;refine br rp aau agS fun aR=>?_;unfold Oq;have eX:s.length≤68719476736:=by simp[eE,ej,eu,lim]at aR;omega
 simp;refine dU [1,7,8] (fun i (_:Unit)=>[(9,.int .i64 i)]) s.length (q1 (kl n) s) () b4 (fun k b ab=>by omega) (fun _ af _=>?_) (fun i _ hi af _=>?_)
 ·have:R=true:=by rw[←bh,ja];intro b ae;obtain⟨k,ab,e⟩:=mS ae;exact af k b ab (by rw[ca ab,e])
  rw[this];exact ct
 ·obtain⟨b,aK,gn⟩:=ep hi;have gl:kl n b=false→R=false:=fun h=>by rw[←bh,Bool.eq_false_iff];intro cp;rw[ja]at cp;rw[cp b (eP aK)]at h;cases h
  have l2:=Lv n b.t;by_cases J:b.v<n
  ·have nb:¬n≤b.v:=by omega
   cases U:ih n b.t
   ·rw[gl (by simp[kl,U])];rw[U]at l2;clear af aK;exact ct
   ·have aA:=af.step aK (by simp[kl,J,U]);rw[U]at l2;clear af aK;exact hM
  ·have nb:n≤b.v:=by omega
   rw[gl (by simp[kl,J])];clear af aK;exact ct
theorem aj0(l:List (List cQ)):bI ao 77 [.slice 1 .no (l.map fP)] (.bool (l.all gu)):=by
 generalize bh:l.all gu=R;refine br rp aap agN fun aR=>?_;unfold Oj;have eX:l.length≤68719476736:=by simp[eE,ej,eu,lim]at aR;omega
 simp;refine dU [5,6] (fun i (_:Unit)=>[(7,.int .i64 i)]) l.length (q1 gu l) () b4 (fun k b ab=>by omega) (fun _ af _=>?_) (fun i _ hi af _=>?_)
 ·have:R=true:=by rw[←bh,ja];intro b ae;obtain⟨k,ab,e⟩:=mS ae;exact af k b ab (by rw[ca ab,e])
  rw[this];exact ct
 ·obtain⟨b,aK,gn⟩:=ep hi;have ec:bI ao 76 [fP b] (.bool (gu b)):=Lw b;cases ae:gu b
  ·have:R=false:=by rw[←bh,Bool.eq_false_iff];intro cp;rw[ja]at cp;rw[cp b (eP aK)]at ae;cases ae
   rw[this];rw[ae]at ec;clear af aK;exact ct
  ·have aA:=af.step aK ae;rw[ae]at ec;clear af aK;exact hM
theorem ON(a:List (List aq))(k:Nat)(m:List aq):ll k (a.map cK)++cK m::mR k (a.map cK)=(a.take k++m::a.drop k).map cK:=by simp
theorem pX(a:List (List aq))(k:Nat)(m:List aq):cU (ll k (a.map cK)++cK m::mR k (a.map cK))=ll k (a.map cK)++cK m::mR k (a.map cK):=by rw[ON,K7]
theorem pW(S:aD→Prop)(a:List (List aq))(k:Nat)(m:List aq):aH S (ll k (a.map cK)++cK m::mR k (a.map cK))=True:=by rw[ON,RU]
theorem OM(a:List (List aq))(m:List aq):a.map cK++[cK m]=(a++[m]).map cK:=by simp
theorem pV(a:List (List aq))(m:List aq):cU (a.map cK++[cK m])=a.map cK++[cK m]:=by rw[OM,K7]
theorem pU(S:aD→Prop)(a:List (List aq))(m:List aq):aH S (a.map cK++[cK m])=True:=by rw[OM,RU]
theorem Vq(L:List (List aq))(jg:∀d∈L,eG d):bI ao 154 [.slice 1 .no (L.map cK)] (.slice 1 .no ((kq L).map cK)):=by
 generalize bh:kq L=R;rw[aeK]at bh;refine br rp aar agP fun aR=>?_;unfold Om;have eX:L.length≤68719476736:=by simp[eE,ej,eu,lim]at aR;omega
 simp;refine dU [0,12,13] (fun i (a:List (List aq))=>[(3,.slice 1 .no (a.map cK)),(14,.int .i64 i)]) L.length (w5 L) [] b4 (by simp[w5]) (fun a af _=>?_) (fun i a hi af _=>?_)
 ·rw[w5,oY,bh]at af;subst af;exact ct
 ·obtain⟨e,he,H9⟩:=ep hi;have qI:hy ek a:=by rw[af];exact JG _ (by simp[hy])
  have qJ:a.length≤i:=by have:=Sz (L:=L) (L.take i) [];rw[af];simp at this⊢;omega
  have fi:=af.step he;have k4:=jg e (eP he);have bU:∀d,bI ao 155 [cK d,cK e] (.int .i64 (ek d e)):=fun d=>Lr d e;clear af he;simp[hi,H9];(with_reducible repeat' first|refine ak ?_|simp[hi,H9]);refine dU [0,3,5,12,13,14,18,19] (fun j (b:Bool)=>[(6,.bool b),(20,.int .i64 j)]) L.length (pe L e) true b4 (by simp[pe]) (fun keep af _=>?_) (fun j keep dR af _=>?_)
  ·rw[pe,oY]at af;have Qx:keep=iv L e:=af;rw[pt,←Qx]at fi;clear af Qx;simp;(with_reducible repeat' first|refine ak ?_|simp);refine uC [0,3,5,6,12,13,14] (fun(k:Nat)=>[(9,.int .i64 k)]) (fun k=>k) (Et a e) a.length b4 ⟨by omega,fun c h=>by simp at h⟩ (fun k af _=>?_);have ab:=af.1;rcases Nat.eq_zero_or_pos k with bs|fj
   ·have bC:decide ((0:Int)<k)=false:=by simp;omega
    have qZ:¬(0:Int)<k:=by omega
    have dw:=af.fin qI fun d h=>by omega
    clear af qI;cases keep with
    |false=>simp only[gI,if_false]at fi;clear dw;exact hM
    |true=>
     simp only[if_true]at fi;by_cases gZ:k<a.length
     ·obtain⟨c,aw,jL⟩:=ep gZ;rw[aw]at dw;by_cases q:ek c e=0
      ·rw[if_pos (by simp[q])]at dw;rw[dw]at fi;clear dw aw;simp[gZ,jL,bC,qZ];((with_reducible repeat' first|refine ak ?_|refine aE (bU _) ?_|refine aF (bU _) ?_|simp[gZ,jL,q,bC,qZ]|((first|apply bO|apply bS|apply bR)<;>intro h<;>try simp at h))<;>(try exact cq));all_goals exact bL.rng a hi fi b4
      ·rw[if_neg (by simp[q])]at dw;have gr:(ek c e !=0)=true:=by simp[q]
       rw[dw]at fi;clear dw aw;simp[gZ,jL,bC,qZ];((with_reducible repeat' first|refine ak ?_|refine aE (bU _) ?_|refine aF (bU _) ?_|simp[gZ,jL,q,gr,bC,qZ]|((first|apply bO|apply bS|apply bR)<;>intro h<;>try simp at h))<;>(try exact cq));all_goals first|(refine⟨by unfold lim;omega,?_⟩)|skip
       all_goals(with_reducible repeat' first|refine ak ?_|simp)
       all_goals first|(refine⟨by unfold lim;omega,?_⟩)|skip
       all_goals((with_reducible repeat' first|refine ak ?_|simp|((first|apply bO|apply bS|apply bR)<;>intro h<;>try simp at h))<;>(try exact cq))
       all_goals exact bL.rng _ hi fi ⟨by simp[fresh,aH,aB,cf,inObs,Pv.look,hq,pX,pW,pV,pU],eh (by simp[fresh,aH,aB,cf,inObs,Pv.look,hq,pX,pW,pV,pU]),ei (by simp[fresh,aH,aB,dN,inObs,Pv.look,hq,pX,pW,pV,pU]),by simp⟩
     ·rw[pJ (by omega)]at dw;simp only[gI,if_false]at dw;rw[dw]at fi;have h6:k=a.length:=by omega
      have rX:a.take k++e::a.drop k=a++[e]:=by rw[h6];simp
      rw[rX]at fi;clear dw rX;simp[gZ,bC,qZ];((with_reducible repeat' first|refine ak ?_|refine aE (bU _) ?_|refine aF (bU _) ?_|simp[gZ,h6,bC,qZ]|((first|apply bO|apply bS|apply bR)<;>intro h<;>try simp at h))<;>(try exact cq));all_goals first|(refine⟨by unfold lim;omega,?_⟩)|skip
      all_goals(with_reducible repeat' first|refine ak ?_|simp)
      all_goals first|(refine⟨by unfold lim;omega,?_⟩)|skip
      all_goals((with_reducible repeat' first|refine ak ?_|simp|((first|apply bO|apply bS|apply bR)<;>intro h<;>try simp at h))<;>(try exact cq))
      all_goals exact bL.rng _ hi fi ⟨by simp[fresh,aH,aB,cf,inObs,Pv.look,hq,pX,pW,pV,pU],eh (by simp[fresh,aH,aB,cf,inObs,Pv.look,hq,pX,pW,pV,pU]),ei (by simp[fresh,aH,aB,dN,inObs,Pv.look,hq,pX,pW,pV,pU]),by simp⟩
   ·obtain⟨d,aP⟩:∃d,a[k-1]? =some d:=⟨_,ca (by omega)⟩;have aj:((k:Int)-1).toNat=k-1:=by omega
    have aC:∀h,(a[k-1]'h)=d:=fun h=>by rw[ca h]at aP;exact fw aP
    have ir:(0:Int)<k:=by omega
    have lz:k-1<a.length:=by omega
    by_cases ae:0≤ek d e
    ·have ag:Et a e (k-1):=⟨by omega,fun c aw=>by rw[aP]at aw;cases aw;exact ae⟩;clear af qI fi aP;simp[fj,ir,aj,aC,ae,lz];((with_reducible repeat' first|refine ak ?_|refine aE (bU _) ?_|refine aF (bU _) ?_|simp[fj,ir,aj,aC,ae,lz]|((first|apply bO|apply bS|apply bR)<;>intro h<;>try simp at h))<;>(try exact cq));refine bL.whl (k-1) (by omega) ag ?_;have bg:((k-1:Nat):Int)=(k:Int)-1:=by omega
     simp[bg];exact b4
    ·have dw:=af.fin qI fun b6 _ lT=>by rw[aP]at lT;cases lT;omega
     clear af qI aP;cases keep with
     |false=>simp only[gI,if_false]at fi;clear dw;simp[fj,ir,aj,aC,ae,lz];(with_reducible repeat' first|refine ak ?_|refine aE (bU _) ?_|refine aF (bU _) ?_|simp[fj,ir,aj,aC,ae,lz]);all_goals exact bL.rng a hi fi b4
     |true=>
      simp only[if_true]at fi;by_cases gZ:k<a.length
      ·obtain⟨c,aw,jL⟩:=ep gZ;rw[aw]at dw;by_cases q:ek c e=0
       ·rw[if_pos (by simp[q])]at dw;rw[dw]at fi;clear dw aw;simp[gZ,jL,fj,ir,aj,aC,ae,lz];((with_reducible repeat' first|refine ak ?_|refine aE (bU _) ?_|refine aF (bU _) ?_|simp[gZ,jL,q,fj,ir,aj,aC,ae,lz]|((first|apply bO|apply bS|apply bR)<;>intro h<;>try simp at h))<;>(try exact cq));all_goals exact bL.rng a hi fi b4
       ·rw[if_neg (by simp[q])]at dw;have gr:(ek c e !=0)=true:=by simp[q]
        rw[dw]at fi;clear dw aw;simp[gZ,jL,fj,ir,aj,aC,ae,lz];((with_reducible repeat' first|refine ak ?_|refine aE (bU _) ?_|refine aF (bU _) ?_|simp[gZ,jL,q,gr,fj,ir,aj,aC,ae,lz]|((first|apply bO|apply bS|apply bR)<;>intro h<;>try simp at h))<;>(try exact cq));all_goals first|(refine⟨by unfold lim;omega,?_⟩)|skip
        all_goals(with_reducible repeat' first|refine ak ?_|simp)
        all_goals first|(refine⟨by unfold lim;omega,?_⟩)|skip
        all_goals((with_reducible repeat' first|refine ak ?_|simp|((first|apply bO|apply bS|apply bR)<;>intro h<;>try simp at h))<;>(try exact cq))
        all_goals exact bL.rng _ hi fi ⟨by simp[fresh,aH,aB,cf,inObs,Pv.look,hq,pX,pW,pV,pU],eh (by simp[fresh,aH,aB,cf,inObs,Pv.look,hq,pX,pW,pV,pU]),ei (by simp[fresh,aH,aB,dN,inObs,Pv.look,hq,pX,pW,pV,pU]),by simp⟩
      ·rw[pJ (by omega)]at dw;simp only[gI,if_false]at dw;rw[dw]at fi;have h6:k=a.length:=by omega
       have rX:a.take k++e::a.drop k=a++[e]:=by rw[h6];simp
       rw[rX]at fi;clear dw rX;simp[gZ,fj,ir,aj,aC,ae,lz];((with_reducible repeat' first|refine ak ?_|refine aE (bU _) ?_|refine aF (bU _) ?_|simp[gZ,h6,fj,ir,aj,aC,ae,lz]|((first|apply bO|apply bS|apply bR)<;>intro h<;>try simp at h))<;>(try exact cq));all_goals first|(refine⟨by unfold lim;omega,?_⟩)|skip
       all_goals(with_reducible repeat' first|refine ak ?_|simp)
       all_goals first|(refine⟨by unfold lim;omega,?_⟩)|skip
       all_goals(with_reducible repeat' first|refine ak ?_|simp)
       all_goals exact bL.rng _ hi fi ⟨by simp[fresh,aH,aB,cf,inObs,Pv.look,hq,pX,pW,pV,pU],eh (by simp[fresh,aH,aB,cf,inObs,Pv.look,hq,pX,pW,pV,pU]),ei (by simp[fresh,aH,aB,dN,inObs,Pv.look,hq,pX,pW,pV,pU]),by simp⟩
  ·obtain⟨d,aP,hdi⟩:=ep dR;have aA:=af.step aP;have lB:=jg d (eP aP);have dM:bI ao 203 [cK d,cK e] (.bool (mI d e)):=ajv lB k4;clear af aP fi qI;cases keep with
   |false=>simp only[Bool.false_and]at aA;exact hM
   |true=>
    simp only[Bool.true_and,vd]at aA;by_cases q:ek d e=0
    ·rw[nz ((la.zero _ _).1 q),Bool.true_or]at aA;simp[dR,hdi];(with_reducible repeat' first|refine ak ?_|refine aE (bU _) ?_|refine aF (bU _) ?_|simp[dR,hdi,q]);all_goals exact bL.rng true dR aA b4
    ·rw[oe (fun h=>q ((la.zero _ _).2 h)),Bool.false_or]at aA;have gr:(ek d e==0)=false:=by simp[q]
     cases a1:mI d e
     ·rw[a1]at aA dM;simp[dR,hdi];(with_reducible repeat' first|refine ak ?_|refine aE (bU _) ?_|refine aF (bU _) ?_|refine aE dM ?_|refine aF dM ?_|simp[dR,hdi,q,gr]);all_goals exact bL.rng true dR aA b4
     ·rw[a1]at aA dM;simp[dR,hdi];(with_reducible repeat' first|refine ak ?_|refine aE (bU _) ?_|refine aF (bU _) ?_|refine aE dM ?_|refine aF dM ?_|simp[dR,hdi,q,gr]);all_goals exact bL.rng false dR aA b4
theorem l1.fst{s:List (List aq)}{t:List aq}{acc:List (List aq)}(h:l1 s 0 acc)(aO:s[0]? =some t):l1 s 1 (if iv s t=true then acc++[t]else acc):=by
 unfold l1 at*;rw[sd aO]at h;have e:(if(1:Nat)=0 then none else s[1-1]?)=some t:=by simpa using aO
 have cp:acc++(t::cD (some t) (s.drop 1)).filter (iv s)=(cD none s).filter (iv s):=by rw[←h];simp[cD]
 rw[e,←cp];by_cases ab:iv s t=true<;>simp[ab]
theorem l1.eq{s:List (List aq)}{i:Nat}{t:List aq}{acc:List (List aq)}(h:l1 s i acc)(hi:i≠0)(bF:s[i-1]? =some t)(aO:s[i]? =some t):l1 s (i+1) acc:=by
 unfold l1 at*;rw[if_neg hi,bF,sd aO]at h;have e:(if i+1=0 then none else s[i+1-1]?)=some t:=by rw[if_neg (by omega)];exact aO
 rw[e,←h];simp[cD]
theorem l1.ne{s:List (List aq)}{i:Nat}{p t:List aq}{acc:List (List aq)}(h:l1 s i acc)(hi:i≠0)(bF:s[i-1]? =some p)(aO:s[i]? =some t)(aA:¬p=t):l1 s (i+1) (if iv s t=true then acc++[t]else acc):=by
 unfold l1 at*;rw[if_neg hi,bF,sd aO]at h;have e:(if i+1=0 then none else s[i+1-1]?)=some t:=by rw[if_neg (by omega)];exact aO
 have aP:cD (some p) (t::s.drop (i+1))=t::cD (some t) (s.drop (i+1)):=by simp[cD,aA]
 rw[aP]at h;rw[e,←h];by_cases ab:iv s t=true<;>simp[ab]
theorem aiT(l:List (List aq)):(n3 ek l).length=l.length:=(xH ek l).length_eq
theorem w8(S:aD→Prop)(l:List (List aq))(d:List aq):aH S (l.map cK++[cK d])=True:=by have:=Je S (l++[d]);rw[List.map_append]at this;exact eq_true this
set_option maxRecDepth 4000 in
theorem aju(l:List (List aq))(jg:∀d∈l,eG d):bI ao 167 [.slice 1 .no (l.map cK)] (.slice 1 .no ((kq l).map cK)):=by
 generalize bh:kq l=R;rw[aeJ]at bh;refine br vJ YO afb fun aR=>?_;unfold MD;have eX:l.length≤68719476736:=by simp[eE,ej,eu,lim]at aR;omega
 simp;refine dU [0,12,13] (fun i (_:Unit)=>[(14,.int .i64 i)]) l.length (fun _ _=>True) () b4 trivial (fun _ _ _=>?_) (fun i _ hi _ _=>?_);rotate_left
 ·obtain⟨e,he,H9⟩:=ep hi;have ec:bI ao 86 [cK e] (.bool true):=pD (jg e (eP he));exact hM
 simp;(with_reducible repeat' first|refine ak ?_|simp);all_goals first|(refine⟨by unfold lim;omega,?_⟩)|skip
 all_goals(with_reducible repeat' first|refine ak ?_|simp)
 refine c2.ob (abg l eX) (Gk l) (by unfold sO dI;exact aQ) (by unfold sO dI;exact aQ) (by simp[inObs,dI,Pv.look]) ?_;rintro r ai ⟨rfl,rfl⟩;refine⟨vX _ _,?_⟩;obtain⟨s,Br⟩:∃s,s=n3 ek l:=⟨_,rfl⟩;have pb:s.length=l.length:=by rw[Br];exact aiT l
 have ag:∀d∈s,eG d:=fun d aP=>jg d (by rw[Br,UA]at aP;exact aP);rw[←Br]at bh;rw[←Br];clear Br;simp[sO,dI,cu];refine ik (fun i (acc:List (List aq))=>⟨[(5,.ptr (.obj 822) 0),(6,.slice 1 (.own (.loc 0)) (acc.map cK)),(30,.row 1 (.obj 821) s.length),(31,.int .i64 s.length),(32,.int .i64 i)],[(.obj 822,[.row 1 (.obj 821) s.length])],[(.loc 0,⟨acc.length,46,1,none⟩),(.obj 821,⟨s.length,46,1,some (s.map cK)⟩)],1,[.obj 821,.obj 822]⟩) s.length (fun i acc=>acc.length≤i∧l1 s i acc) [] b4 ⟨by simp,by simp[l1]⟩ (fun acc af _=>?_) (fun i acc hi af _=>?_)
 ·have af:=af.2;rw[l1,List.drop_length]at af;have:acc=R:=by rw[←bh];simpa[cD]using af
  subst this;exact ct
 ·obtain⟨ama,af⟩:=af;have qJ:acc.length≤68719476735:=by omega
  obtain⟨t,qV,aO⟩:=ep hi;have c9:=ag t (eP qV);have j7:bI ao 168 [cK t] (cK t):=Vh t c9.len;have jk:(if iv s t=true then acc++[t]else acc).length≤acc.length+1:=by split<;>simp
  rcases Nat.eq_zero_or_pos i with rfl|fj
  ·have QI:=af.fst qV;have fi:(if iv s t=true then acc++[t]else acc).length≤0+1∧l1 s (0+1) (if iv s t=true then acc++[t]else acc):=⟨jT jk (by omega),QI⟩;clear af QI qV;simp[hi,aO];(with_reducible repeat' first|refine ak ?_|simp[hi,aO]);refine dU [5,6,8,30,31,32,49,50] (fun j (b:Bool)=>[(9,.bool b),(51,.int .i64 j)]) s.length (pe s t) true b4 (by simp[pe]) (fun keep af _=>?_) (fun j keep dR af _=>?_)
   ·rw[pe,oY,←RB]at af;rw[←af]at fi;clear af;cases keep with
    |false=>simp only[gI,if_false]at fi;simp;((with_reducible repeat' first|refine ak ?_|simp|((first|apply bO|apply bS|apply bR)<;>intro h<;>try simp at h))<;>(try exact cq));all_goals exact bL.rng acc hi fi b4
    |true=>
     simp only[if_true]at fi;clear jk;simp;((with_reducible repeat' first|refine ak ?_|refine aE j7 ?_|refine aF j7 ?_|simp|((first|apply bO|apply bS|apply bR)<;>intro h<;>try simp at h))<;>(try exact cq));all_goals first|(refine⟨by unfold lim;omega,?_⟩)|skip
     all_goals(with_reducible repeat' first|refine ak ?_|simp)
     all_goals exact bL.rng (acc++[t]) hi fi ⟨by simp[fresh,aH,aB,cf,inObs,Pv.look,w8],eh (by simp[fresh,aH,aB,cf,inObs,Pv.look,w8]),ei (by simp[fresh,aH,aB,dN,inObs,Pv.look,w8]),by simp⟩
   ·obtain⟨d,aP,hdi⟩:=ep dR;have aA:=af.step aP;have lB:=ag d (eP aP);have dM:bI ao 208 [cK d,cK t] (.bool (mI d t)):=Vt d lB.len c9;have nU:bI ao 207 [cK d,cK t] (.int .i64 (ek d t)):=F8 d t;clear af aP fi;by_cases q:ek d t=0
    ·rw[vd,nz ((la.zero _ _).1 q),Bool.true_or,Bool.and_true]at aA;rw[q]at nU;simp[dR,hdi];((with_reducible repeat' first|refine ak ?_|refine aE nU ?_|refine aF nU ?_|simp[dR,hdi]|((first|apply bO|apply bS|apply bR)<;>intro h<;>try simp at h))<;>(try exact cq));all_goals exact bL.rng keep dR aA b4
    ·rw[vd,oe (fun h=>q ((la.zero _ _).2 h)),Bool.false_or]at aA;have gr:(ek d t !=0)=true:=by simp[q]
     cases a1:mI d t
     ·rw[a1]at aA dM;simp only[Bool.not_false,Bool.and_true]at aA;simp[dR,hdi];((with_reducible repeat' first|refine ak ?_|refine aE nU ?_|refine aF nU ?_|refine aE dM ?_|refine aF dM ?_|simp[dR,hdi,q,gr]|((first|apply bO|apply bS|apply bR)<;>intro h<;>try simp at h))<;>(try exact cq));all_goals exact bL.rng keep dR aA b4
     ·rw[a1]at aA dM;simp only[Bool.not_true,Bool.and_false]at aA;simp[dR,hdi];((with_reducible repeat' first|refine ak ?_|refine aE nU ?_|refine aF nU ?_|refine aE dM ?_|refine aF dM ?_|simp[dR,hdi,q,gr]|((first|apply bO|apply bS|apply bR)<;>intro h<;>try simp at h))<;>(try exact cq));all_goals exact bL.rng false dR aA b4
  ·obtain⟨p,yO⟩:∃p,s[i-1]? =some p:=⟨_,ca (by omega)⟩;have aj:((i:Int)-1).toNat=i-1:=by omega
   have aC:∀h,(s[i-1]'h)=p:=fun h=>by rw[ca h]at yO;exact fw yO
   have bg:¬i=0:=by omega
   have da:i-1<s.length:=by omega
   have ir:(0:Int)<i:=by omega
   have iI:bI ao 207 [cK p,cK t] (.int .i64 (ek p t)):=F8 p t;by_cases Ed:p=t
   ·have fi:acc.length≤i+1∧l1 s (i+1) acc:=⟨by omega,af.eq bg (by rw[yO,Ed]) qV⟩;rw[(la.zero _ _).2 Ed]at iI;clear af qV yO;simp[hi,aO,aj,aC,da,ir];((with_reducible repeat' first|refine ak ?_|refine aE iI ?_|refine aF iI ?_|simp[hi,aO,aj,aC,da,fj,ir]|((first|apply bO|apply bS|apply bR)<;>intro h<;>try simp at h))<;>(try exact cq));all_goals exact bL.rng acc hi fi b4
   ·have fi:(if iv s t=true then acc++[t]else acc).length≤i+1∧l1 s (i+1) (if iv s t=true then acc++[t]else acc):=⟨jT jk (by omega),af.ne bg yO qV Ed⟩;have nY:¬ek p t=0:=fun h=>Ed ((la.zero _ _).1 h);have Tk:(ek p t==0)=false:=by simp[nY]
    clear af qV yO;simp[hi,aO,aj,aC,da,ir];((with_reducible repeat' first|refine ak ?_|refine aE iI ?_|refine aF iI ?_|simp[hi,aO,aj,aC,da,fj,ir,nY,Tk]|((first|apply bO|apply bS|apply bR)<;>intro h<;>try simp at h))<;>(try exact cq));refine dU [5,6,8,30,31,32,49,50] (fun j (b:Bool)=>[(9,.bool b),(51,.int .i64 j)]) s.length (pe s t) true b4 (by simp[pe]) (fun keep af _=>?_) (fun j keep dR af _=>?_)
    ·rw[pe,oY,←RB]at af;rw[←af]at fi;clear af;cases keep with
     |false=>simp only[gI,if_false]at fi;simp;((with_reducible repeat' first|refine ak ?_|simp|((first|apply bO|apply bS|apply bR)<;>intro h<;>try simp at h))<;>(try exact cq));all_goals exact bL.rng acc hi fi b4
     |true=>
      simp only[if_true]at fi;clear jk;simp;(with_reducible repeat' first|refine ak ?_|refine aE j7 ?_|refine aF j7 ?_|simp);all_goals first|(refine⟨by unfold lim;omega,?_⟩)|skip
      all_goals(with_reducible repeat' first|refine ak ?_|simp)
      all_goals exact bL.rng (acc++[t]) hi fi ⟨by simp[fresh,aH,aB,cf,inObs,Pv.look,w8],eh (by simp[fresh,aH,aB,cf,inObs,Pv.look,w8]),ei (by simp[fresh,aH,aB,dN,inObs,Pv.look,w8]),by simp⟩
    ·obtain⟨d,aP,hdi⟩:=ep dR;have aA:=af.step aP;have lB:=ag d (eP aP);have dM:bI ao 208 [cK d,cK t] (.bool (mI d t)):=Vt d lB.len c9;have nU:bI ao 207 [cK d,cK t] (.int .i64 (ek d t)):=F8 d t;clear af aP fi;by_cases q:ek d t=0
     ·rw[vd,nz ((la.zero _ _).1 q),Bool.true_or,Bool.and_true]at aA;rw[q]at nU;simp[dR,hdi];((with_reducible repeat' first|refine ak ?_|refine aE nU ?_|refine aF nU ?_|simp[dR,hdi]|((first|apply bO|apply bS|apply bR)<;>intro h<;>try simp at h))<;>(try exact cq));all_goals exact bL.rng keep dR aA b4
     ·rw[vd,oe (fun h=>q ((la.zero _ _).2 h)),Bool.false_or]at aA;have gr:(ek d t !=0)=true:=by simp[q]
      cases a1:mI d t
      ·rw[a1]at aA dM;simp only[Bool.not_false,Bool.and_true]at aA;simp[dR,hdi];((with_reducible repeat' first|refine ak ?_|refine aE nU ?_|refine aF nU ?_|refine aE dM ?_|refine aF dM ?_|simp[dR,hdi,q,gr]|((first|apply bO|apply bS|apply bR)<;>intro h<;>try simp at h))<;>(try exact cq));all_goals exact bL.rng keep dR aA b4
      ·rw[a1]at aA dM;simp only[Bool.not_true,Bool.and_false]at aA;simp[dR,hdi];((with_reducible repeat' first|refine ak ?_|refine aE nU ?_|refine aF nU ?_|refine aE dM ?_|refine aF dM ?_|simp[dR,hdi,q,gr]|((first|apply bO|apply bS|apply bR)<;>intro h<;>try simp at h))<;>(try exact cq));all_goals exact bL.rng false dR aA b4
theorem ako(l:List T)(h:∀t∈l,t.fit=true):bI ao 172 [.slice 4 .no (l.map T.e)] (.bool true):=by
 refine br gh Zn afK fun aR=>?_;unfold Nc;have eX:l.length≤68719476736:=by simp[eE,ej,eu,lim]at aR;omega
 simp;refine dU [5,6] (fun i (_:Unit)=>[(7,.int .i64 i)]) l.length (fun _ _=>True) () b4 trivial (fun _ _ _=>?_) (fun i _ hi _ _=>?_)
 ·exact ct
 ·obtain⟨t,aO,qV⟩:=ep hi;have dK:=Lp (h t (eP aO));clear aO;exact hM
def ib(m:Int):cF:=⟨[(.obj 831,[.int .i64 m])],[]⟩
theorem uk(m:Int):ee (ib m):=by unfold ib;exact ee.of ⟨by intro m;simp[Pv.look],by intro m;simp[Pv.look]⟩ (by simp) (by simp)
theorem V7(a b:Int):Same (ib a) (ib b):=Same.keys (by simp[ib]) (by simp[ib])
theorem aaT(v m hd:Int)(h:CL v m=some hd):bJ ao 204 [.int .i64 v,.ptr (.obj 831) 0] (ib m) fun r ai=>r= .tuple []∧ai=ib hd:=by
 unfold CL at h;split at h;rotate_left
 ·cases h
 rename_i aK;cases h;have ag:=uk m;simp only[ib]at ag⊢;by_cases hm:m<v+1
 ·rw[rr,if_pos hm];refine bJ.mk mixed vJ Pa SP (by simp) ag.obj fun aR c1=>?_;unfold GO;simp;(with_reducible repeat' first|refine ak ?_|simp[hm]);(refine cN.at (ib (v+1)) (by simp) (by first|exact uk _|exact uk ‹_› _) (Same.keys (by simp[ib]) (by simp[ib])) (by simp only[ib,bN,bT];exact aQ) (by simp only[ib,bN,bT];exact aQ) ?_;simp[cT,Kg,aV,aY,aU,inObs,Pv.look,ib])
 ·rw[rr,if_neg hm];refine bJ.mk mixed vJ Pa SP (by simp) ag.obj fun aR c1=>?_;unfold GO;simp;(with_reducible repeat' first|refine ak ?_|simp[hm]);(refine cN.at (ib m) (by simp) (by first|exact uk _|exact uk ‹_› _) (Same.keys (by simp[ib]) (by simp[ib])) (by simp only[ib,bN,bT];exact aQ) (by simp only[ib,bN,bT];exact aQ) ?_;simp[cT,Kg,aV,aY,aU,inObs,Pv.look,ib])
def CK(l:List T):Int:=l.foldl (fun m t=>t.fold rr m) 0
def Eu(l:List T)(i:Nat)(m:Int):Prop:=m=CK (l.take i)
theorem ajB(l:List T)(h:∀t∈l,t.fit=true):bI ao 162 [.slice 4 .no (l.map T.e)] (.int .i64 (CK l)):=by
 have dK:=ako l h;generalize bh:CK l=R;refine br vJ YV afi fun aR=>?_;unfold MK;have eX:l.length≤68719476736:=by simp[eE,ej,eu,lim]at aR;omega
 simp;(with_reducible repeat' first|refine ak ?_|refine aE dK ?_|refine aF dK ?_|simp);refine ik (fun i (m:Int)=>⟨[(3,.ptr (.obj 831) 0),(9,.slice 4 .no (l.map T.e)),(10,.int .i64 l.length),(11,.int .i64 i)],[(.obj 831,[.int .i64 m])],[],0,[.obj 831]⟩) l.length (Eu l) 0 b4 rfl (fun m af _=>?_) (fun i m hi af _=>?_)
 ·rw[Eu,oY,bh]at af;subst af;exact ct
 ·obtain⟨t,aO,qV⟩:=ep hi;have ab4:t.ok=true:=by have:=h t (eP aO);simp only[T.fit,cA]at this;exact this.1
  have aA:Eu l (i+1) (t.fold rr m):=by rw[Eu,ql aO,CK,List.foldl_append,af];rfl
  have key:=HM ib uk V7 204 [.ptr (.obj 831) 0] (fun a=>by simp[ib,inObs,Pv.look]) (by simp) CL (fun v a bj h=>aaT v a bj h) t m _ (Ly t m ab4);clear af aO;simp[hi,qV];(with_reducible repeat' first|refine ak ?_|simp[qV,hi]);(refine c2.ob (key) (by first|exact uk _|exact uk ‹_› _) (by simp only[ib,bN,bT];exact aQ) (by simp only[ib,bN,bT];exact aQ) (by simp[inObs,Pv.look,ib]) ?_;rintro r ai ⟨rfl,rfl⟩;refine⟨(Same.keys (by simp[ib]) (by simp[ib])),?_⟩;simp[cu,ib]);(with_reducible repeat' first|refine ak ?_|simp);refine bL.rng (t.fold rr m) hi aA ?_;exact b4
theorem Vg{s:List aq}(ag:eG s){n:Int}(aA:0≤n):bI ao 89 [.slice 5 .no (s.map aq.e),.int .i64 n] (.bool (s.all (kl n))):=by
 have pb:=ag.len;generalize bh:s.all (kl n)=R;refine br vJ YW afj fun aR=>?_;unfold ML;simp;refine dU [1,7,8] (fun i (_:Unit)=>[(9,.int .i64 i)]) s.length (q1 (kl n) s) () b4 (fun k b ab=>by omega) (fun _ af _=>?_) (fun i _ hi af _=>?_)
 ·have:R=true:=by rw[←bh,ja];intro b ae;obtain⟨k,ab,e⟩:=mS ae;exact af k b ab (by rw[ca ab,e])
  rw[this];exact ct
 ·obtain⟨b,aK,gn⟩:=ep hi;have gl:kl n b=false→R=false:=fun h=>by rw[←bh,Bool.eq_false_iff];intro cp;rw[ja]at cp;rw[cp b (eP aK)]at h;cases h
  have l2:=ajB [b.t] (fun t aO=>by simp at aO;subst aO;exact ag.fit b (eP aK));have hle:=Lz (n:=n) b.t 0;rw[show CK [b.t]=b.t.fold rr 0 from rfl]at l2;simp only[gX,List.map_nil]at l2;generalize b.t.fold rr 0=m at l2 hle;by_cases J:b.v<n
  ·have nb:¬n≤b.v:=by omega
   cases U:ih n b.t
   ·have al:n<m:=by rw[U]at hle;simp at hle;omega
    rw[gl (by simp[kl,U])];clear af aK hle;exact ct
   ·have al:¬n<m:=by rw[U]at hle;simp[aA]at hle;omega
    have yL:=af.step aK (by simp[kl,J,U]);clear af aK hle;exact hM
  ·have nb:n≤b.v:=by omega
   rw[gl (by simp[kl,J])];clear af aK hle;exact ct
def uu:C:=(aa [cP 1 0,bm 2 false] (.seq (aa [aG 11 0 1 1,ax 12 1 11,aS 13 .lss 12 0,I 14 13,ar 14 false (aG 15 0 1 1),ar 14 false (ax 16 1 15),ar 14 false (aS 17 .gtr 16 100000),df 18 14 17,I 19 18,ar 19 false (aG 20 1 1 1),ar 19 false (ax 21 1 20),ar 19 false (c7 22 86 21),ar 19 false (cB 23 22),df 24 19 23,I 25 24,ar 25 false (aG 26 3 1 1),ar 25 false (ax 27 1 26),ar 25 false (c7 28 87 27),ar 25 false (cB 29 28),df 30 25 29,I 31 30,ar 31 false (aG 32 4 1 1),ar 31 false (ax 33 1 32),ar 31 false (c7 34 88 33),ar 31 false (cB 35 34),df 36 31 35,I 37 36,ar 37 false (aG 38 1 1 1),ar 37 false (ax 39 1 38),ar 37 false (aG 40 0 1 1),ar 37 false (ax 41 1 40),ar 37 false (cl 42 89 39 41),ar 37 false (cB 43 42),df 44 37 43] (aT 44 (aa [bm 2 false] .ret) .skip)) (.seq (aa [aG 45 2 1 1,ax 46 1 45,cn 47 46,bV 48 0] (fG 49 48 47 (.seq (.block 1 (aa [cv 50 1 46 48,ax 51 1 50,I 4 51] (aa [I 52 4,c7 53 86 52,cB 54 53,I 55 54,b3 55 false 56 4,ar 55 false (aG 57 0 1 1),ar 55 false (ax 58 1 57),ar 55 false (cl 59 89 56 58),ar 55 false (cB 60 59),df 61 55 60] (aT 61 (aa [bm 2 false] .ret) .skip)))) (.region [aS 62 .add 48 1,I 48 62])))) (.seq (aa [aG 63 3 1 1,ax 64 1 63,cn 65 64,bV 66 0] (.block 2 (.loop (aa [bk 67 .lss 66 65] (.seq (aT 67 .skip (.exit 2)) (.seq (.block 3 (aa [cv 68 2 64 66,be 69 2 68,cX (.alloc 6 none (.agg [.int .i64 0,.int .i64 0])),b1 2 6 69] (aa [aG 70 0 1 6,ax 71 1 70,aG 72 0 1 1,ax 73 1 72,bk 74 .geq 71 73] (aT 74 (aa [bm 2 false] .ret) .skip)))) (.region [aS 75 .add 66 1,I 66 75]))))))) (.seq (aa [aG 76 4 1 1,ax 77 1 76,cn 78 77,bV 79 0] (.block 4 (.loop (aa [bk 80 .lss 79 78] (.seq (aT 80 .skip (.exit 4)) (.seq (.block 5 (aa [cv 81 2 77 79,be 82 2 81,cX (.alloc 8 none (.agg [.int .i64 0,.str []])),b1 2 8 82] (aa [aG 83 0 1 8,ax 84 1 83,aG 85 0 1 1,ax 86 1 85,bk 87 .geq 84 86] (aT 87 (aa [bm 2 false] .ret) .skip)))) (.region [aS 88 .add 79 1,I 79 88]))))))) (aa [be 90 5 1,c7 91 90 90,I 89 91,cV 92 0 89,cV 93 1 89,dL 9 nV,b1 5 9 92,I 10 93] (aa [I 94 10,I 95 94,ar 95 true (be 96 5 9),ar 95 true (be 97 5 1),ar 95 true (cl 98 91 96 97),dH 99 95 98,I 2 99] .ret)))))))
@[simp] def ahg:List bK:=[.tmp 2]
def De:C:=(aa [cP 1 0,dL 2 nV,bm 3 false] (aa [aG 26 1 1 1,ax 27 1 26,aG 28 3 1 1,ax 29 1 28,cl 30 163 27 29,I 25 30,cV 31 0 25,cV 32 1 25,I 4 31,I 5 32] (aa [aG 34 1 1 1,ax 35 1 34,aG 36 4 1 1,ax 37 1 36,cl 38 164 35 37,I 33 38,cV 39 0 33,cV 40 1 33,I 6 39,I 7 40] (.seq (aa [I 41 5,cB 42 41,I 43 42,b3 43 false 44 7,ar 43 false (cB 45 44),df 46 43 45] (aT 46 (aa [kO 47 nV [],b1 5 2 47,bm 3 false] .ret) .skip)) (aa [cX (.mkmap 48 none),I 8 48] (.seq (aa [I 49 4,cn 50 49,bV 51 0] (fG 52 51 50 (.seq (.block 1 (aa [cv 53 2 49 51,be 54 2 53,cX (.alloc 10 none (.agg [.int .i64 0,.int .i64 0])),b1 2 10 54] (aa [aG 55 1 1 10,ax 56 1 55,aS 57 .eql 56 3] (aT 57 (.region [I 58 8,aG 59 0 1 10,ax 60 1 59,cX (.mput .i (.t 58) (.t 60) (.c (.bool true)))]) .skip)))) (.region [aS 61 .add 51 1,I 51 61])))) (aa [fC 62 2 100 [],I 11 62] (.seq (aa [I 63 6,cn 64 63,bV 65 0] (.block 2 (.loop (aa [bk 66 .lss 65 64] (.seq (aT 66 .skip (.exit 2)) (.seq (.block 3 (aa [cv 67 2 63 65,be 68 2 67,cX (.alloc 13 none (.agg [.int .i64 0,.str []])),b1 2 13 68] (aa [I 69 8,aG 70 0 1 13,ax 71 1 70,b0 72 (.mget .i (.bool false) false (.t 69) (.t 71)),cB 73 72] (aT 73 (.region [I 74 11,be 75 2 13,fC 76 2 100 [.t 75],iP 77 2 100 74 76,I 11 77]) .skip)))) (.region [aS 78 .add 65 1,I 65 78]))))))) (aa [fC 79 1 46 [],I 14 79] (.seq (aa [aG 80 2 1 1,ax 81 1 80,cn 82 81,bV 83 0] (.block 4 (.loop (aa [bk 84 .lss 83 82] (.seq (aT 84 .skip (.exit 4)) (.seq (.block 5 (aa [cv 85 1 81 83,ax 86 1 85,I 16 86] (aa [aG 88 1 1 1,ax 89 1 88,I 90 16,cl 91 165 89 90,I 87 91,cV 92 0 87,cV 93 1 87,I 17 92,I 18 93] (.seq (aa [I 94 18,cB 95 94] (aT 95 (.exit 5) .skip)) (aa [I 97 17,I 98 4,cl 99 163 97 98,I 96 99,cV 100 0 96,cV 101 1 96,I 19 100,I 20 101] (aa [I 103 17,I 104 11,cl 105 164 103 104,I 102 105,cV 106 0 102,cV 107 1 102,I 21 106,I 22 107] (.seq (aa [I 108 20,cB 109 108,I 110 109,b3 110 false 111 22,ar 110 false (cB 112 111),df 113 110 112] (aT 113 (.exit 5) .skip)) (aa [aG 114 1 1 1,ax 115 1 114,I 116 17,cl 117 166 115 116,I 23 117] (.seq (aa [I 118 23,cn 119 118,aS 120 .eql 119 0] (aT 120 (aa [kO 121 nV [],b1 5 2 121,bm 3 false] .ret) .skip)) (.region [I 122 14,I 123 23,fC 124 1 46 [.t 123],iP 125 1 46 122 124,I 14 125])))))))))) (.region [aS 126 .add 83 1,I 83 126]))))))) (aa [I 127 14,c7 128 167 127,I 24 128] (.seq (aa [I 129 24,cn 130 129,aS 131 .gtr 130 30] (aT 131 (aa [kO 132 nV [],b1 5 2 132,bm 3 false] .ret) .skip)) (.seq (.drawn true 142 [aG 133 0 1 1,ax 134 1 133,aG 135 1 1 1,ax 136 1 135,c7 137 168 136,I 138 24,I 139 4,I 140 11,kO 141 nV [(0,1,(.t 134)),(1,1,(.t 137)),(2,1,(.t 138)),(3,1,(.t 139)),(4,1,(.t 140))],b1 5 2 141,bm 3 true]) .ret)))))))))))))
@[simp] def zy:List bK:=[.cell 2 true 5,.tmp 3]
def we:C:=(aa [cP 2 0,cP 3 1,bm 4 false] (.seq (aa [aG 8 0 1 2,ax 9 1 8,aG 10 0 1 3,ax 11 1 10,bk 12 .neq 9 11,I 13 12,ar 13 false (aG 14 1 1 2),ar 13 false (ax 15 1 14),ar 13 false (aG 16 1 1 3),ar 13 false (ax 17 1 16),ar 13 false (cl 18 169 15 17),ar 13 false (cB 19 18),df 20 13 19,I 21 20,ar 21 false (aG 22 2 1 2),ar 21 false (ax 23 1 22),ar 21 false (cn 24 23),ar 21 false (aG 25 2 1 3),ar 21 false (ax 26 1 25),ar 21 false (cn 27 26),ar 21 false (bk 28 .neq 24 27),df 29 21 28,I 30 29,ar 30 false (aG 31 3 1 2),ar 30 false (ax 32 1 31),ar 30 false (cn 33 32),ar 30 false (aG 34 3 1 3),ar 30 false (ax 35 1 34),ar 30 false (cn 36 35),ar 30 false (bk 37 .neq 33 36),df 38 30 37,I 39 38,ar 39 false (aG 40 4 1 2),ar 39 false (ax 41 1 40),ar 39 false (cn 42 41),ar 39 false (aG 43 4 1 3),ar 39 false (ax 44 1 43),ar 39 false (cn 45 44),ar 39 false (bk 46 .neq 42 45),df 47 39 46] (aT 47 (aa [bm 4 false] .ret) .skip)) (.seq (aa [aG 48 2 1 2,ax 49 1 48,cn 50 49,bV 51 0] (fG 52 51 50 (.seq (.block 1 (aa [I 53 51,I 5 53] (.seq (.drawn true 103 [aG 54 2 1 2,ax 55 1 54,I 56 5,cv 57 1 55 56,ax 58 1 57,aG 59 2 1 3,ax 60 1 59,I 61 5,cv 62 1 60 61,ax 63 1 62,cl 64 169 58 63,cB 65 64]) (aT 65 (aa [bm 4 false] .ret) .skip)))) (.region [aS 66 .add 51 1,I 51 66])))) (.seq (aa [aG 67 3 1 2,ax 68 1 67,cn 69 68,bV 70 0] (.block 2 (.loop (aa [bk 71 .lss 70 69] (.seq (aT 71 .skip (.exit 2)) (.seq (.block 3 (aa [I 72 70,I 6 72] (.seq (.drawn true 103 [aG 73 3 1 2,ax 74 1 73,I 75 6,cv 76 2 74 75,be 77 2 76,aG 78 3 1 3,ax 79 1 78,I 80 6,cv 81 2 79 80,be 82 2 81,b0 83 (.beq true (some [false,false]) (.t 77) (.t 82))]) (aT 83 (aa [bm 4 false] .ret) .skip)))) (.region [aS 84 .add 70 1,I 70 84]))))))) (.seq (aa [aG 85 4 1 2,ax 86 1 85,cn 87 86,bV 88 0] (.block 4 (.loop (aa [bk 89 .lss 88 87] (.seq (aT 89 .skip (.exit 4)) (.seq (.block 5 (aa [I 90 88,I 7 90] (.seq (.drawn true 103 [aG 91 4 1 2,ax 92 1 91,I 93 7,cv 94 2 92 93,be 95 2 94,aG 96 4 1 3,ax 97 1 96,I 98 7,cv 99 2 97 98,be 100 2 99,b0 101 (.beq true (some [false,true]) (.t 95) (.t 100))]) (aT 101 (aa [bm 4 false] .ret) .skip)))) (.region [aS 102 .add 88 1,I 88 102]))))))) (aa [bm 4 true] .ret))))))
@[simp] def Fm:List bK:=[.tmp 4]
def FZ:List (Nat×dB):=[
 (3,⟨1,8,.int .i64,.int .i64 0⟩),
 (4,⟨1,1,.bool,.bool false⟩),
 (9,⟨1,16,.str,.str []⟩),
 (46,⟨1,24,.slice 113,.slice 5 .nil []⟩),
 (47,⟨1,24,.slice 46,.slice 1 .nil []⟩),
 (48,⟨1,24,.slice 98,.slice 2 .nil []⟩),
 (49,⟨1,24,.slice 100,.slice 2 .nil []⟩),
 (51,⟨5,104,.struct [(0,3),(1,46),(2,47),(3,48),(4,49)],.agg [.int .i64 0,.slice 5 .nil [],.slice 1 .nil [],.slice 2 .nil [],.slice 2 .nil []]⟩),
 (98,⟨2,16,.struct [(0,3),(1,3)],.agg [.int .i64 0,.int .i64 0]⟩),
 (100,⟨2,24,.struct [(0,3),(1,9)],.agg [.int .i64 0,.str []]⟩),
 (136,⟨1,8,.map 3 4,.junk⟩)]
theorem nr:fN ao FZ=true:=by kernel_rfl
theorem xj:b5 FZ uu ahg 1 Tryz.f29=true:=by kernel_rfl
theorem wh:ao.funcs[(29:Nat)]? =some Tryz.f29:=Tryz.func29
theorem JV:b5 FZ De zy 1 Tryz.f90=true:=by kernel_rfl
theorem Hx:ao.funcs[(90:Nat)]? =some Tryz.f90:=Tryz.func90
theorem zo:b5 FZ we Fm 2 Tryz.f91=true:=by kernel_rfl
theorem yj:ao.funcs[(91:Nat)]? =some Tryz.f91:=Tryz.func91
def eJ.e(s:eJ):ah:= .agg [.int .i64 s.n,.slice 5 .no (s.b.map aq.e),.slice 1 .no (s.d.map cK),.slice 2 .no (s.k.map bG.e),.slice 2 .no (s.m.map bf.e)]
@[simp] theorem anr(S:aD→Prop)(s:eJ):aB S s.e=True:=by simp[eJ.e,aB,aH]
def tX(o:aW eJ):ah:= .tuple [(o.getD qo).e,.bool o.isSome]
@[simp] theorem anp(S:aD→Prop)(o:aW eJ):aB S (tX o)=True:=by simp[tX,aB,aH]
def tv(k:List bG)(i:Nat)(l:List (Int×Bool)):Prop:= ∀v,(cW v l).getD false=(k.take i).any fun x=>x.v==v&&x.k==3
theorem tv.put{k:List bG}{i:Nat}{l:List (Int×Bool)}(h:tv k i l){x:bG}(ad:k[i]? =some x)(al:x.k=3):tv k (i+1) (eH x.v true l):=fun v=>by
 rw[mO,ql ad,List.any_append,←h v];by_cases e:v=x.v
 ·rw[if_pos e];simp[e,al]
 ·rw[if_neg e];have:(x.v==v)=false:=by simp;exact fun h=>e h.symm
  simp[this]
theorem tv.skip{k:List bG}{i:Nat}{l:List (Int×Bool)}(h:tv k i l){x:bG}(ad:k[i]? =some x)(al:¬x.k=3):tv k (i+1) l:=fun v=>by
 rw[ql ad,List.any_append,←h v];have:(x.k==3)=false:=by simp[al]
 simp[this]
theorem tv.fin{k:List bG}{l:List (Int×Bool)}(h:tv k k.length l)(ab:iI k)(x:bf):(cW x.v l).getD false= !kc k x:=by rw[h x.v,oY,Wl ab.asc,kc,bne,Bool.not_not]
def r9(k:List bG)(m:List bf)(i:Nat)(a:List bf):Prop:=a=(m.take i).filter (kc k)
theorem r9.step{k:List bG}{m:List bf}{i:Nat}{a:List bf}(h:r9 k m i a){x:bf}(ad:m[i]? =some x):r9 k m (i+1) (if kc k x=true then a++[x]else a):=by
 rw[r9,ql ad,List.filter_append,←h];by_cases e:kc k x=true
 ·rw[if_pos e];simp[e]
 ·rw[if_neg e];simp[e]
theorem y5(S:aD→Prop)(l:List bf)(d:bf):aH S (l.map bf.e++[d.e])=True:=by have:=Jd S (l++[d]);rw[List.map_append]at this;exact eq_true this
theorem Sj{k:List bG}{m:List bf}(h:iJ m):iJ (m.filter (kc k)):=⟨fun x ad=>h.at' x (mT.1 ad).1,VQ _ h.asc⟩
theorem UT{G:List (List dA)}{k:List bG}{m:List bf}(h:np G m):np G (m.filter (kc k)):=fun x ad=>h x (mT.1 ad).1
theorem pf.skip{b:List aq}{k:List bG}{m:List bf}{D:List (List aq)}{i:Nat}{a:List (List aq)}(h:pf b k m D i a){d:List aq}(aP:D[i]? =some d)(he:∀r,gx b k m (d::r)=gx b k m r):pf b k m D (i+1) a:=⟨by have:=h.1;omega,h.2.1,by rw[←h.2.2,sd aP,he]⟩
theorem pf.snoc{b:List aq}{k:List bG}{m:List bf}{D:List (List aq)}{i:Nat}{a:List (List aq)}(h:pf b k m D i a){d x:List aq}(aP:D[i]? =some d)(ad:eG x)(he:∀r,gx b k m (d::r)=(gx b k m r).map (x:: ·)):pf b k m D (i+1) (a++[x]):=
 ⟨by have:=h.1;simp;omega,fun y aL=>by
  rcases ki.1 aL with aL|aL
  ·exact h.2.1 y aL
  ·simp at aL;subst aL;exact ad,by
  rw[←h.2.2,sd aP,he,Option.map_map];congr 1;funext r;simp⟩
theorem pf.stop{b:List aq}{k:List bG}{m:List bf}{D:List (List aq)}{i:Nat}{a:List (List aq)}(h:pf b k m D i a){d:List aq}(aP:D[i]? =some d)(he:∀r,gx b k m (d::r)=none):gx b k m D=none:=by rw[←h.2.2,sd aP,he];rfl
theorem pf.fin{b:List aq}{k:List bG}{m:List bf}{D:List (List aq)}{a:List (List aq)}(h:pf b k m D D.length a):gx b k m D=some a:=by rw[←h.2.2,List.drop_length];simp[gx]
theorem tz(S:aD→Prop)(l:List (List aq))(d:List aq):aH S (l.map cK++[.slice 5 .no (d.map aq.e)])=True:=w8 S l d
theorem Az{d:List aq}(aP:eG d):∀e∈hs d,e.1.ok=true∧e.2.ok=true:=fun e he=>by obtain⟨c,aw,rfl⟩:=iC.1 he;have:=aP.ok c aw;exact⟨by simpa[T.ok]using this.1,this.2⟩
set_option maxRecDepth 4000 in
theorem ake{s:eJ}(h:xI s){G:List (List dA)}(mv:G.length≤687000)(a1:np G s.m):bI ao 90 [s.e] (tX (mN s)):=by
 generalize dg:mN s=O;have j8:=Ve h.b h.k;have j9:=Vf h.b h.m mv a1;have ni:=fun k=>Fv (acc:=[]) (a:=k) h.b h.k.at' ⟨by simp,by simp⟩;have pw:=fun m=>Fw (acc:=[]) (a:=m) h.b h.m.at' ⟨by simp,by simp[hy]⟩;have mr:=fun m=>KC (acc:=[]) (a:=m) (s:=s.b) a1 (fun x ad=>by simp at ad);have ae:=h.b;have aP:=h.d;clear h a1;unfold mN at dg;obtain⟨n,b,d,e9,m0⟩:=s;simp only at j8 j9 ni pw mr ae aP dg;have fs:=ae.len;simp only[eJ.e];generalize fR b e9 []=ok at j8 dg ni;generalize fS b m0 []=om at j9 dg pw mr;cases ok with
 |none=>
  simp only at dg;subst dg;simp only[fM]at j8;simp only[iN]at j9;clear ni pw mr;refine br nr Hx JV fun aR=>?_;unfold De;simp;(with_reducible repeat' first|refine ak ?_|refine aE j8 ?_|refine aF j8 ?_|refine aE j9 ?_|refine aF j9 ?_|simp);all_goals simp[bA,zy,aV,aY,aU]
  all_goals simp[tX,qo,eJ.e]
 |some k=>
  simp only at dg;cases om with
  |none=>
   simp only at dg;subst dg;simp only[fM]at j8;simp only[iN]at j9;clear ni pw mr;refine br nr Hx JV fun aR=>?_;unfold De;simp;(with_reducible repeat' first|refine ak ?_|refine aE j8 ?_|refine aF j8 ?_|refine aE j9 ?_|refine aF j9 ?_|simp);all_goals simp[bA,zy,aV,aY,aU]
   all_goals simp[tX,qo,eJ.e]
  |some m=>
   simp only at dg;have uP:=ni k rfl;have wP:=pw m rfl;have wH:=mr m rfl;have h6:=u7 uP;have lV:m.length≤68719470000:=by have:=BO wP wH;omega
   have yJ:=Sj (k:=k) wP;have yD:=UT (k:=k) wH;have acw:(m.filter (kc k)).length≤68719470000:=jT (List.length_filter_le _ _) lV;simp only[fM,kR,rD]at j8;simp only[iN,kR,rD]at j9;clear ni pw mr;refine br nr Hx JV fun aR=>?_;unfold De;have H7:d.length≤68719476736:=by simp[eE,ej,eu,lim]at aR;omega
   simp;(with_reducible repeat' first|refine ak ?_|refine aE j8 ?_|refine aF j8 ?_|refine aE j9 ?_|refine aF j9 ?_|simp);refine ik (fun i (l:List (Int×Bool))=>⟨[(1,.ptr (.loc 0) 0),(2,.ptr (.loc 1) 0),(4,.slice 2 .no (k.map bG.e)),(6,.slice 2 .no (m.map bf.e)),(8,.gmap (.loc 2)),(49,.slice 2 .no (k.map bG.e)),(50,.int .i64 k.length),(51,.int .i64 i)],[(.loc 0,[.int .i64 n,.slice 5 .no (b.map aq.e),.slice 1 .no (d.map cK),.slice 2 .no (e9.map bG.e),.slice 2 .no (m0.map bf.e)]),(.loc 1,[.int .i64 0,.slice 5 .nil [],.slice 1 .nil [],.slice 2 .nil [],.slice 2 .nil []]),(.loc 2,po l)],[],3,[]⟩) k.length (tv k) [] ⟨by simp[fresh,aH,aB,cf,inObs,Pv.look,Jq],eh (by simp[fresh,aH,aB,cf,inObs,Pv.look,Jq]),ei (by simp[fresh,aH,aB,dN,inObs,Pv.look,Jq]),by simp⟩ (fun v=>by simp[cW]) (fun l af _=>?_) (fun i l hi af _=>?_);rotate_left
   ·obtain⟨x,ad,cz⟩:=ep hi;by_cases al:x.k=3
    ·have aA:=af.put ad al;clear af ad;exact hM
    ·have aA:=af.skip ad al;have rS:(x.k==3)=false:=by simp[al]
     clear af ad;exact hM
   have hints:=af.fin uP;clear af;simp;(with_reducible repeat' first|refine ak ?_|simp);refine ik (fun i (a:List bf)=>⟨[(1,.ptr (.loc 0) 0),(2,.ptr (.loc 1) 0),(4,.slice 2 .no (k.map bG.e)),(8,.gmap (.loc 2)),(11,.slice 2 (.own (.loc 3)) (a.map bf.e)),(63,.slice 2 .no (m.map bf.e)),(64,.int .i64 m.length),(65,.int .i64 i)],[(.loc 0,[.int .i64 n,.slice 5 .no (b.map aq.e),.slice 1 .no (d.map cK),.slice 2 .no (e9.map bG.e),.slice 2 .no (m0.map bf.e)]),(.loc 1,[.int .i64 0,.slice 5 .nil [],.slice 1 .nil [],.slice 2 .nil [],.slice 2 .nil []]),(.loc 2,po l)],[(.loc 3,⟨a.length,100,2,none⟩)],4,[]⟩) m.length (r9 k m) [] b4 (by simp[r9]) (fun a af _=>?_) (fun i a hi af _=>?_);rotate_left
   ·obtain⟨x,ad,cz⟩:=ep hi;have qJ:a.length≤68719470000:=by
     have:a.length≤(m.take i).length:=by rw[af];exact List.length_filter_le _ _
     simp at this;omega
    have aA:=af.step ad;have bp:=hints x;cases aI:kc k x
    ·rw[aI]at aA bp;simp only[gI,if_false,Bool.not_false]at aA bp;clear af ad aI;simp[hi,cz];((with_reducible repeat' first|refine ak ?_|simp[hi,cz,bp]|((first|apply bO|apply bS|apply bR)<;>intro h<;>try simp at h))<;>(try exact cq));all_goals exact bL.rng a hi aA b4
    ·rw[aI]at aA bp;simp only[if_true,Bool.not_true]at aA bp;clear af ad aI;simp[hi,cz];((with_reducible repeat' first|refine ak ?_|simp[hi,cz,bp]|((first|apply bO|apply bS|apply bR)<;>intro h<;>try simp at h))<;>(try exact cq));all_goals first|(refine⟨by unfold lim;omega,?_⟩)|skip
     all_goals(with_reducible repeat' first|refine ak ?_|simp)
     all_goals exact bL.rng (a++[x]) hi aA ⟨by simp[fresh,aH,aB,cf,inObs,Pv.look,y5],eh (by simp[fresh,aH,aB,cf,inObs,Pv.look,y5]),ei (by simp[fresh,aH,aB,dN,inObs,Pv.look,y5]),by simp⟩
   rw[r9,oY]at af;rw[←af]at yJ yD acw dg;clear af hints h6 wP wH;simp;(with_reducible repeat' first|refine ak ?_|simp);refine ik (fun i (L:List (List aq))=>⟨[(1,.ptr (.loc 0) 0),(2,.ptr (.loc 1) 0),(4,.slice 2 .no (k.map bG.e)),(11,.slice 2 (.own (.loc 3)) (a.map bf.e)),(14,.slice 1 (.own (.loc 4)) (L.map cK)),(81,.slice 1 .no (d.map cK)),(82,.int .i64 d.length),(83,.int .i64 i)],[(.loc 0,[.int .i64 n,.slice 5 .no (b.map aq.e),.slice 1 .no (d.map cK),.slice 2 .no (e9.map bG.e),.slice 2 .no (m0.map bf.e)]),(.loc 1,[.int .i64 0,.slice 5 .nil [],.slice 1 .nil [],.slice 2 .nil [],.slice 2 .nil []])],[(.loc 3,⟨a.length,100,2,none⟩),(.loc 4,⟨L.length,46,1,none⟩)],5,[]⟩) d.length (pf b k a d) [] b4 ⟨by simp,by simp,by simp⟩ (fun L af _=>?_) (fun i L hi af _=>?_)
   ·have jg:=af.fin;have uJ:=af.2.1;rw[jg]at dg;simp only at dg;have mF:=aju L uJ;have j7:bI ao 168 [.slice 5 .no (b.map aq.e)] (.slice 5 .no (b.map aq.e)):=Vh b fs;clear af jg uJ;generalize kq L=M at mF dg;by_cases kW:M.length≤30
    ·have nI:¬(30:Int)<M.length:=by omega
     rw[if_pos kW]at dg;subst dg;simp;(with_reducible repeat' first|refine ak ?_|refine aE mF ?_|refine aF mF ?_|refine aE j7 ?_|refine aF j7 ?_|simp[kW,nI]);all_goals simp[bA,zy,aV,aY,aU]
     all_goals simp[tX,eJ.e]
    ·have nI:(30:Int)<M.length:=by omega
     rw[if_neg kW]at dg;subst dg;simp;(with_reducible repeat' first|refine ak ?_|refine aE mF ?_|refine aF mF ?_|refine aE j7 ?_|refine aF j7 ?_|simp[kW,nI]);all_goals simp[bA,zy,aV,aY,aU]
     all_goals simp[tX,qo,eJ.e]
   ·obtain⟨x,ad,cz⟩:=ep hi;have hV:=aP x (eP ad);have P3:=af.1;have hD:bI ao 165 [.slice 5 .no (b.map aq.e),cK x] (ga (mgu b (hs x))):=ajr ae hV;simp only[ga]at hD;cases hu:mgu b (hs x)with
    |none=>have aA:=af.skip ad fun r=>Jk hu;rw[hu]at hD;simp only[mU,lK]at hD;clear af ad dg;exact hM
    |some y=>
     have iG:=ae.mgu (Az hV) hu;rw[hu]at hD;simp only[kR,rD]at hD;have di:=Ve iG uP;have dM:=Vf iG yJ mv yD;have hE:=ajw ae iG;simp only[fM]at di;simp only[iN]at dM;by_cases jh:fR y k []=none∨fS y a []=none
     ·have aA:=af.skip ad fun r=>Jj hu jh;clear af ad dg hu;rcases jh with e|e
      ·rw[e]at di;simp only[mU,lK]at di;exact hM
      ·rw[e]at dM;simp only[mU,lK]at dM;cases (fR y k []).isSome
       ·simp[hi,cz];((with_reducible repeat' first|refine ak ?_|refine aE hD ?_|refine aF hD ?_|refine aE di ?_|refine aF di ?_|refine aE dM ?_|refine aF dM ?_|simp[hi,cz]|((first|apply bO|apply bS|apply bR)<;>intro h<;>try simp at h))<;>(try exact cq));all_goals exact bL.rng L hi aA b4
       ·simp[hi,cz];((with_reducible repeat' first|refine ak ?_|refine aE hD ?_|refine aF hD ?_|refine aE di ?_|refine aF di ?_|refine aE dM ?_|refine aF dM ?_|simp[hi,cz]|((first|apply bO|apply bS|apply bR)<;>intro h<;>try simp at h))<;>(try exact cq));all_goals exact bL.rng L hi aA b4
     ·have aj:(fR y k []).isSome=true:=by cases e:fR y k []with|none=>exact absurd (.inl e) jh|some _=>rfl
      have aC:(fS y a []).isSome=true:=by cases e:fS y a []with|none=>exact absurd (.inr e) jh|some _=>rfl
      rw[aj]at di;rw[aC]at dM;by_cases cC:gp b y=[]
      ·have ag:=af.stop ad fun r=>Ji hu jh cC;rw[ag]at dg;simp only at dg;subst dg;rw[cC]at hE;simp only[List.map_nil]at hE;clear af ad hu jh;simp[hi,cz];((with_reducible repeat' first|refine ak ?_|refine aE hD ?_|refine aF hD ?_|refine aE di ?_|refine aF di ?_|refine aE dM ?_|refine aF dM ?_|refine aE hE ?_|refine aF hE ?_|simp[hi,cz]|((first|apply bO|apply bS|apply bR)<;>intro h<;>try simp at h))<;>(try exact cq));all_goals simp[bA,zy,aV,aY,aU]
       all_goals simp[tX,qo,eJ.e]
      ·have aA:=af.snoc ad (EX (b:=b) iG) fun r=>Jl hu jh cC;have uR:¬((gp b y).length:Int)=0:=by have:(gp b y).length≠0:=fun h=>cC (List.length_eq_zero_iff.1 h);omega
       have uS:(((gp b y).length:Int)==0)=false:=by simp[cC]
       have Ey:bI ao 166 [.slice 5 .no (b.map aq.e),.slice 5 .no (y.map aq.e)] (cK (gp b y)):=hE;clear af ad hu jh dg hE;generalize gp b y=z at Ey aA uR uS cC;simp only[cK]at Ey;simp[hi,cz];(with_reducible repeat' first|refine ak ?_|refine aE hD ?_|refine aF hD ?_|refine aE di ?_|refine aF di ?_|refine aE dM ?_|refine aF dM ?_|refine aE Ey ?_|refine aF Ey ?_|simp[hi,cz,uR,uS,cC]);all_goals first|(refine⟨by unfold lim;omega,?_⟩)|skip
       all_goals(with_reducible repeat' first|refine ak ?_|simp)
       all_goals exact bL.rng (L++[z]) hi aA ⟨by simp[fresh,aH,aB,cf,inObs,Pv.look,tz,cK],eh (by simp[fresh,aH,aB,cf,inObs,Pv.look,tz,cK]),ei (by simp[fresh,aH,aB,dN,inObs,Pv.look,tz,cK]),by simp⟩
@[simp] theorem ak3(neg:Bool)(x y:bG):h2 neg (some [false,false]) x.e y.e=some (True,.bool (if neg then !decide (x=y)else decide (x=y))):=by
 have h:(x.v==y.v&&(x.k==y.k&&true))=decide (x=y):=by rw[pH];simp only[Bool.and_true,cA,dG,fx];cases x;cases y;simp
 rw[←h];rfl
@[simp] theorem ak4(neg:Bool)(x y:bf):h2 neg (some [false,true]) x.e y.e=some (True,.bool (if neg then !decide (x=y)else decide (x=y))):=by
 have h:(x.v==y.v&&(x.s==y.s&&true))=decide (x=y):=by rw[pH];simp only[Bool.and_true,cA,dG,fx];cases x;cases y;simp
 rw[←h];rfl
theorem ajM(x y:List aq)(h:x.length≤1000000):bI ao 169 [cK x,cK y] (.bool (decide (x=y))):=Vj x y h
set_option maxRecDepth 4000 in
theorem akd(a c:eJ)(mx:a.b.length≤1000000)(AX:∀x∈a.d,x.length≤1000000):bI ao 91 [a.e,c.e] (.bool (decide (a=c))):=by
 obtain⟨n,b,d,k,m⟩:=a;obtain⟨n',bY,b6,bH,hd⟩:=c;simp only at mx AX;generalize bh:decide ((⟨n,b,d,k,m⟩:eJ)=⟨n',bY,b6,bH,hd⟩)=R;simp only[eJ.mk.injEq,eJ.e]at bh⊢;by_cases aZ:n=n';rotate_left
 ·have fK:R=false:=by rw[←bh];simp[aZ]
  have sp:(n !=n')=true:=by simp[aZ]
  rw[fK];clear bh fK;refine br nr yj zo fun aR=>?_;unfold we;exact ct
 subst aZ;have ft:=Vj b bY mx;by_cases bB:b=bY;rotate_left
 ·have fK:R=false:=by rw[←bh];simp[bB]
  rw[oe bB]at ft;rw[fK];clear bh fK;refine br nr yj zo fun aR=>?_;unfold we;exact ct
 subst bB;rw[nz rfl]at ft;by_cases bQ:d.length=b6.length;rotate_left
 ·have fK:R=false:=by rw[←bh];simp only[hx];rintro⟨_,_,rfl,_⟩;exact bQ rfl
  have rf:((d.length:Int) !=b6.length)=true:=by simp;omega
  rw[fK];clear bh fK;refine br nr yj zo fun aR=>?_;unfold we;exact ct
 by_cases cS:k.length=bH.length;rotate_left
 ·have fK:R=false:=by rw[←bh];simp only[hx];rintro⟨_,_,_,rfl,_⟩;exact cS rfl
  have aha:((k.length:Int) !=bH.length)=true:=by simp;omega
  rw[fK];clear bh fK;refine br nr yj zo fun aR=>?_;unfold we;exact ct
 by_cases c6:m.length=hd.length;rotate_left
 ·have fK:R=false:=by rw[←bh];simp only[hx];rintro⟨_,_,_,_,rfl⟩;exact c6 rfl
  have ahb:((m.length:Int) !=hd.length)=true:=by simp;omega
  rw[fK];clear bh fK;refine br nr yj zo fun aR=>?_;unfold we;exact ct
 have wS:d≠b6→R=false:=fun h=>by rw[←bh];simp[h]
 have wT:k≠bH→R=false:=fun h=>by rw[←bh];simp[h]
 have Is:m≠hd→R=false:=fun h=>by rw[←bh];simp[h]
 refine br nr yj zo fun aR=>?_;unfold we;have acm:b6.length≤68719476736:=by simp[eE,ej,eu,lim]at aR;omega
 have acn:bH.length≤68719476736:=by simp[eE,ej,eu,lim]at aR;omega
 have aco:hd.length≤68719476736:=by simp[eE,ej,eu,lim]at aR;omega
 clear aR;simp;(with_reducible repeat' first|refine ak ?_|refine aE ft ?_|refine aF ft ?_|simp[bQ,cS,c6]);have de:=wS;refine dU [2,3,50] (fun i (_:Unit)=>[(51,.int .i64 i)]) b6.length (qx d b6) () b4 (fun k ab=>by omega) (fun _ af _=>?_) (fun i _ hi af _=>?_);rotate_left
 ·obtain⟨x,ad⟩:∃x,d[i]? =some x:=⟨_,ca (by omega)⟩;obtain⟨y,aL⟩:∃y,b6[i]? =some y:=⟨_,ca hi⟩;have fW:i<d.length:=by omega
  have cz:∀h,(d[i]'h)=x:=fun h=>by rw[ca fW]at ad;exact fw ad
  have eA:∀h,(b6[i]'h)=y:=fun h=>by rw[ca hi]at aL;exact fw aL
  have ft:=ajM x y (AX x (eP ad));by_cases q:x=y
  ·subst q;have aA:=af.step ad aL;rw[nz rfl]at ft;clear af ad aL;simp[hi,fW,cz,eA,-h2];(with_reducible repeat' first|refine ak ?_|refine aE ft ?_|refine aF ft ?_|simp[cz,eA,hi,fW,-h2]);all_goals exact bL.rng () hi aA b4
  ·rw[de (fun h=>q (by rw[h]at ad;rw[ad]at aL;exact fw aL))];rw[oe q]at ft;clear af ad aL;simp[hi,fW,cz,eA,-h2];(with_reducible repeat' first|refine ak ?_|refine aE ft ?_|refine aF ft ?_|simp[cz,eA,hi,fW,q,-h2]);all_goals simp[bA,Fm,aV,aY,aU]
 have ds:=af.fin bQ;subst ds;clear af de wS bQ;simp;(with_reducible repeat' first|refine ak ?_|simp[cS]);have de:=wT;refine dU [2,3,69] (fun i (_:Unit)=>[(70,.int .i64 i)]) bH.length (qx k bH) () b4 (fun k ab=>by omega) (fun _ af _=>?_) (fun i _ hi af _=>?_);rotate_left
 ·obtain⟨x,ad⟩:∃x,k[i]? =some x:=⟨_,ca (by omega)⟩;obtain⟨y,aL⟩:∃y,bH[i]? =some y:=⟨_,ca hi⟩;have fW:i<k.length:=by omega
  have cz:∀h,(k[i]'h)=x:=fun h=>by rw[ca fW]at ad;exact fw ad
  have eA:∀h,(bH[i]'h)=y:=fun h=>by rw[ca hi]at aL;exact fw aL
  have ft:=True.intro;by_cases q:x=y
  ·subst q;have aA:=af.step ad aL;skip;clear af ad aL;simp[hi,fW,cz,eA,-h2];(with_reducible repeat' first|refine ak ?_|refine aE ft ?_|refine aF ft ?_|simp[cz,eA,hi,fW,-h2]);all_goals exact bL.rng () hi aA b4
  ·rw[de (fun h=>q (by rw[h]at ad;rw[ad]at aL;exact fw aL))];skip;clear af ad aL;simp[hi,fW,cz,eA,-h2];(with_reducible repeat' first|refine ak ?_|refine aE ft ?_|refine aF ft ?_|simp[cz,eA,hi,fW,q,-h2]);all_goals simp[bA,Fm,aV,aY,aU]
 have ds:=af.fin cS;subst ds;clear af de wT cS;simp;(with_reducible repeat' first|refine ak ?_|simp[c6]);have de:=Is;refine dU [2,3,87] (fun i (_:Unit)=>[(88,.int .i64 i)]) hd.length (qx m hd) () b4 (fun k ab=>by omega) (fun _ af _=>?_) (fun i _ hi af _=>?_);rotate_left
 ·obtain⟨x,ad⟩:∃x,m[i]? =some x:=⟨_,ca (by omega)⟩;obtain⟨y,aL⟩:∃y,hd[i]? =some y:=⟨_,ca hi⟩;have fW:i<m.length:=by omega
  have cz:∀h,(m[i]'h)=x:=fun h=>by rw[ca fW]at ad;exact fw ad
  have eA:∀h,(hd[i]'h)=y:=fun h=>by rw[ca hi]at aL;exact fw aL
  have ft:=True.intro;by_cases q:x=y
  ·subst q;have aA:=af.step ad aL;skip;clear af ad aL;simp[hi,fW,cz,eA,-h2];(with_reducible repeat' first|refine ak ?_|refine aE ft ?_|refine aF ft ?_|simp[cz,eA,hi,fW,-h2]);all_goals exact bL.rng () hi aA b4
  ·rw[de (fun h=>q (by rw[h]at ad;rw[ad]at aL;exact fw aL))];skip;clear af ad aL;simp[hi,fW,cz,eA,-h2];(with_reducible repeat' first|refine ak ?_|refine aE ft ?_|refine aF ft ?_|simp[cz,eA,hi,fW,q,-h2]);all_goals simp[bA,Fm,aV,aY,aU]
 have ds:=af.fin c6;subst ds;have fK:R=true:=by rw[←bh];simp
 rw[fK];exact ct
def jG.e(r:jG):ah:= .agg [.int .i64 r.n,.slice 5 .no (r.b.map cQ.e),.slice 1 .no (r.d.map fP),.slice 2 .no (r.k.map bG.e),.slice 2 .no (r.m.map bf.e)]
@[simp] theorem anq(S:aD→Prop)(r:jG):aB S r.e=True:=by simp[jG.e,aB,aH]
theorem ajy(x:List cQ):bI ao 86 [fP x] (.bool (gu x)):=Ln x
open Classical in
set_option maxRecDepth 4000 in
theorem ajx(r:jG)(gM:iJ r.m→vG r.m):bI ao 29 [r.e] (.bool (decide (su r))):=by
 generalize bh:decide (su r)=R;have de:¬KA r→R=false:=fun h=>by rw[←bh,hx];exact fun cp=>h cp.raw
 obtain⟨n,b,d,k,m⟩:=r;simp only[jG.e]at gM⊢;by_cases g1:n<0
 ·rw[de fun h=>by have:=h.n.1;simp only at this;omega];refine br nr wh xj fun aR=>?_;unfold uu;exact ct
 by_cases g2:100000<n
 ·rw[de fun h=>by have:=h.n.2;simp only at this;omega];refine br nr wh xj fun aR=>?_;unfold uu;exact ct
 have l2:bI ao 86 [.slice 5 .no (b.map cQ.e)] (.bool (gu b)):=Ln b;cases g3:gu b
 ·rw[de fun h=>by obtain⟨s,aj,aC,_⟩:=h.b;have:=qk.2 (vD.2 ⟨s,aj,aC⟩);simp only at this;rw[g3]at this;cases this]
  rw[g3]at l2;refine br nr wh xj fun aR=>?_;unfold uu;exact ct
 rw[g3]at l2;obtain⟨s,rfl,ag⟩:=vD.1 (qk.1 g3);clear g3;rw[za]at l2⊢;have di:=Va k;by_cases g4:iI k;rotate_left
 ·rw[de fun h=>g4 h.k];rw[oe g4]at di;refine br nr wh xj fun aR=>?_;unfold uu;exact ct
 rw[nz g4]at di;have dM:=Vc m;by_cases g5:iJ m;rotate_left
 ·rw[de fun h=>g5 h.m];rw[oe g5]at dM;refine br nr wh xj fun aR=>?_;unfold uu;exact ct
 rw[nz g5]at dM;have kI:=Vg ag (n:=n) (by omega);cases g6:s.all (kl n)
 ·rw[de fun h=>by obtain⟨ai,aj,_,bg⟩:=h.b;have da:=um aj;subst da;rw[ur.2 bg]at g6;cases g6]
  rw[g6]at kI;refine br nr wh xj fun aR=>?_;unfold uu;exact ct
 rw[g6]at kI;have c1:=ur.1 g6;clear g6;have Bc:=gM g5;have lV:=Bc.len g5;refine br nr wh xj fun aR=>?_;unfold uu;have H7:d.length≤68719476736:=by simp[eE,ej,eu,lim]at aR;omega
 have h6:=u7 g4;clear aR gM;simp;(with_reducible repeat' first|refine ak ?_|refine aE l2 ?_|refine aF l2 ?_|refine aE di ?_|refine aF di ?_|refine aE dM ?_|refine aF dM ?_|refine aE kI ?_|refine aF kI ?_|simp[g1,g2]);refine dU [1,46,47] (fun i (_:Unit)=>[(48,.int .i64 i)]) d.length (q2 (jJ n) d) () b4 (fun k b ab=>by omega) (fun _ af _=>?_) (fun i _ hi af _=>?_);rotate_left
 ·obtain⟨x,ad,cz⟩:=ep hi;have Bx:=eP ad;have ec:=ajy x;cases lS:gu x
  ·rw[de fun h=>by obtain⟨ai,aj,aC,_⟩:=h.d x Bx;rw[qk.2 (vD.2 ⟨ai,aj,aC⟩)]at lS;cases lS]
   rw[lS]at ec;clear af ad Bx;exact ct
  ·rw[lS]at ec;obtain⟨y,rfl,aL⟩:=vD.1 (qk.1 lS);clear lS;rw[Hg]at ec;have l3:bI ao 89 [cK y,.int .i64 n] (.bool (y.all (kl n))):=Vg aL (n:=n) (by omega);have amq:∀h,fP (d[i]'h)=cK y:=fun h=>by rw[cz h,Hg]
   cases qF:y.all (kl n)
   ·rw[de fun h=>by obtain⟨ai,aj,_,bg⟩:=h.d _ Bx;have da:=um aj;subst da;rw[ur.2 bg]at qF;cases qF]
    rw[qF]at l3;clear af ad Bx cz;exact ct
   ·rw[qF]at l3;have aA:=af.step ad ⟨y,rfl,aL,ur.1 qF⟩;clear af ad Bx cz;exact hM
 obtain⟨D,rfl,AR,HX⟩:=OO af.fin;clear af;simp only[OS];simp;(with_reducible repeat' first|refine ak ?_|simp);refine dU [1,64,65] (fun i (_:Unit)=>[(66,.int .i64 i)]) k.length (q2 (fun x=>x.v<n) k) () b4 (fun k b ab=>by omega) (fun _ af _=>?_) (fun i _ hi af _=>?_);rotate_left
 ·obtain⟨x,ad,cz⟩:=ep hi;by_cases lS:x.v<n
  ·have wx:¬n≤x.v:=by omega
   have aA:=af.step ad lS;clear af ad;exact hM
  ·have wx:n≤x.v:=by omega
   rw[de fun h=>lS (h.kb x (eP ad))];clear af ad;exact ct
 have wI:=af.fin;clear af;simp;(with_reducible repeat' first|refine ak ?_|simp);have wJ:=wI;refine dU [1,77,78] (fun i (_:Unit)=>[(79,.int .i64 i)]) m.length (q2 (fun x=>x.v<n) m) () b4 (fun k b ab=>by omega) (fun _ af _=>?_) (fun i _ hi af _=>?_);rotate_left
 ·obtain⟨x,ad,cz⟩:=ep hi;by_cases lS:x.v<n
  ·have wx:¬n≤x.v:=by omega
   have aA:=af.step ad lS;clear af ad;exact hM
  ·have wx:n≤x.v:=by omega
   rw[de fun h=>lS (h.mb x (eP ad))];clear af ad;exact ct
 have wI:=af.fin;clear af;simp;(with_reducible repeat' first|refine ak ?_|simp);have uU:=wI;have c9:xI ⟨n,s,D,k,m⟩:=⟨by simp only;omega,ag,AR,g4,g5,c1,HX,wJ,uU⟩;have tk:=UD c9;obtain⟨G,mv,a1⟩:=Bc;have dK:=ake c9 mv a1;have kG:su ⟨n,s.map aq.b,D.map fun x=>x.map aq.b,k,m⟩↔mN ⟨n,s,D,k,m⟩=some ⟨n,s,D,k,m⟩:=tk;clear tk de;simp only[tX]at dK;cases k4:mN ⟨n,s,D,k,m⟩with
 |none=>
  rw[k4]at dK kG;have fK:R=false:=by rw[←bh,hx,kG];simp
  rw[fK];simp only[mU,lK,eJ.e]at dK;clear bh fK kG;exact ct
 |some t=>
  have yT:=ait c9 k4;rw[k4]at dK kG;have u9:=akd t ⟨n,s,D,k,m⟩ yT.1.1.b.len (fun x ad=>(yT.1.1.d x ad).len);have fK:R=decide (t=⟨n,s,D,k,m⟩):=by rw[←bh,decide_eq_decide,kG];simp
  rw[fK];simp only[kR,rD]at dK;simp only[eJ.e]at dK u9;clear bh fK kG yT;generalize decide (t=(⟨n,s,D,k,m⟩:eJ))=Q at u9⊢;obtain⟨sy,UW,UX,sx,tm⟩:=t;simp only at dK u9;exact ct
def ux:C:=(aa [cP 1 0,bm 2 false] (.seq (aa [aG 11 0 1 1,ax 12 1 11,dE 13 75 [.t 12,(gi 0),(gi 100000)],cB 14 13,I 15 14,ar 15 false (aG 16 1 1 1),ar 15 false (ax 17 1 16),ar 15 false (c7 18 76 17),ar 15 false (cB 19 18),df 20 15 19,I 21 20,ar 21 false (aG 22 2 1 1),ar 21 false (ax 23 1 22),ar 21 false (c7 24 77 23),ar 21 false (cB 25 24),df 26 21 25,I 27 26,ar 27 false (aG 28 3 1 1),ar 27 false (ax 29 1 28),ar 27 false (c7 30 78 29),ar 27 false (cB 31 30),df 32 27 31,I 33 32,ar 33 false (aG 34 4 1 1),ar 33 false (ax 35 1 34),ar 33 false (c7 36 79 35),ar 33 false (cB 37 36),df 38 33 37,I 39 38,ar 39 false (aG 40 1 1 1),ar 39 false (ax 41 1 40),ar 39 false (aG 42 0 1 1),ar 39 false (ax 43 1 42),ar 39 false (cl 44 80 41 43),ar 39 false (cB 45 44),df 46 39 45] (aT 46 (aa [bm 2 false] .ret) .skip)) (.seq (aa [aG 47 2 1 1,ax 48 1 47,cn 49 48,bV 50 0] (fG 51 50 49 (.seq (.block 1 (aa [cv 52 1 48 50,ax 53 1 52,I 4 53] (aa [I 54 4,aG 55 0 1 1,ax 56 1 55,cl 57 80 54 56,cB 58 57] (aT 58 (aa [bm 2 false] .ret) .skip)))) (.region [aS 59 .add 50 1,I 50 59])))) (.seq (aa [aG 60 3 1 1,ax 61 1 60,cn 62 61,bV 63 0] (.block 2 (.loop (aa [bk 64 .lss 63 62] (.seq (aT 64 .skip (.exit 2)) (.seq (.block 3 (aa [cv 65 2 61 63,be 66 2 65,cX (.alloc 6 none (.agg [.int .i64 0,.int .i64 0])),b1 2 6 66] (aa [aG 67 0 1 6,ax 68 1 67,aG 69 0 1 1,ax 70 1 69,bk 71 .geq 68 70] (aT 71 (aa [bm 2 false] .ret) .skip)))) (.region [aS 72 .add 63 1,I 63 72]))))))) (.seq (aa [aG 73 4 1 1,ax 74 1 73,cn 75 74,bV 76 0] (.block 4 (.loop (aa [bk 77 .lss 76 75] (.seq (aT 77 .skip (.exit 4)) (.seq (.block 5 (aa [cv 78 2 74 76,be 79 2 78,cX (.alloc 8 none (.agg [.int .i64 0,.str []])),b1 2 8 79] (aa [aG 80 0 1 8,ax 81 1 80,aG 82 0 1 1,ax 83 1 82,bk 84 .geq 81 83] (aT 84 (aa [bm 2 false] .ret) .skip)))) (.region [aS 85 .add 76 1,I 76 85]))))))) (aa [be 87 5 1,c7 88 81 87,I 86 88,cV 89 0 86,cV 90 1 86,dL 9 nV,b1 5 9 89,I 10 90] (aa [I 91 10,I 92 91,ar 92 true (be 93 5 9),ar 92 true (be 94 5 1),ar 92 true (cl 95 82 93 94),dH 96 92 95,I 2 96] .ret)))))))
@[simp] def ah0:List bK:=[.tmp 2]
def Dn:C:=(aa [cP 1 0,dL 2 nV,bm 3 false] (aa [aG 20 1 1 1,ax 21 1 20,aG 22 3 1 1,ax 23 1 22,cl 24 149 21 23,I 19 24,cV 25 0 19,cV 26 1 19,I 4 25,I 5 26] (aa [aG 28 1 1 1,ax 29 1 28,aG 30 4 1 1,ax 31 1 30,cl 32 150 29 31,I 27 32,cV 33 0 27,cV 34 1 27,I 6 33,I 7 34] (.seq (aa [I 35 5,cB 36 35,I 37 36,b3 37 false 38 7,ar 37 false (cB 39 38),df 40 37 39] (aT 40 (aa [kO 41 nV [],b1 5 2 41,bm 3 false] .ret) .skip)) (aa [aG 42 0 1 1,ax 43 1 42,aG 44 1 1 1,ax 45 1 44,I 46 4,kO 47 nV [(0,1,(.t 43)),(1,1,(.t 45)),(3,1,(.t 46))],dL 8 nV,b1 5 8 47] (.seq (aa [I 48 6,cn 49 48,bV 50 0] (fG 51 50 49 (.seq (.block 1 (aa [cv 52 2 48 50,be 53 2 52,cX (.alloc 10 none (.agg [.int .i64 0,.str []])),b1 2 10 53] (aa [I 55 4,aG 56 0 1 10,ax 57 1 56,c7 58 114 57,dE 59 151 [.t 55,.t 58,(gi 2)],I 54 59,cV 60 0 54,cV 61 1 54,I 11 60,I 12 61] (aa [I 62 12] (aT 62 (.region [aG 63 4 1 8,ax 64 1 63,be 65 2 10,fC 66 2 100 [.t 65],iP 67 2 100 64 66,aG 68 4 1 8,b1 1 68 67]) .skip))))) (.region [aS 69 .add 50 1,I 50 69])))) (aa [fC 70 1 46 [],I 13 70] (.seq (aa [aG 71 2 1 1,ax 72 1 71,cn 73 72,bV 74 0] (.block 2 (.loop (aa [bk 75 .lss 74 73] (.seq (aT 75 .skip (.exit 2)) (.seq (.block 3 (aa [cv 76 1 72 74,ax 77 1 76,I 15 77] (aa [aG 79 1 1 1,ax 80 1 79,I 81 15,cl 82 152 80 81,I 78 82,cV 83 0 78,cV 84 1 78,I 16 83,I 17 84] (.seq (aa [I 85 17] (aT 85 (aa [I 87 16,aG 88 3 1 8,ax 89 1 88,cl 90 149 87 89,I 86 90,cV 91 0 86,cV 92 1 86,I 5 92] (.region [I 94 16,aG 95 4 1 8,ax 96 1 95,cl 97 150 94 96,I 93 97,cV 98 0 93,cV 99 1 93,I 7 99])) .skip)) (.seq (aa [I 100 17,cB 101 100,I 102 101,b3 102 false 103 5,ar 102 false (cB 104 103),df 105 102 104,I 106 105,b3 106 false 107 7,ar 106 false (cB 108 107),df 109 106 108] (aT 109 (aa [bm 5 true] (aa [bm 7 true] (.exit 3))) .skip)) (aa [aG 110 1 1 1,ax 111 1 110,I 112 16,cl 113 153 111 112,I 18 113] (.seq (aa [I 114 18,cn 115 114,aS 116 .eql 115 0] (aT 116 (aa [kO 117 nV [],b1 5 2 117,bm 3 false] .ret) .skip)) (.region [I 118 13,I 119 18,fC 120 1 46 [.t 119],iP 121 1 46 118 120,I 13 121])))))))) (.region [aS 122 .add 74 1,I 74 122]))))))) (aa [I 123 13,c7 124 154 123,aG 125 2 1 8,b1 1 125 124] (.seq (.fz true 8 (.drawn true 131 [b0 126 (.loadZ true 5 (.t 8)),aG 127 2 1 8,b0 128 (.loadZ false 1 (.t 127)),cn 129 128,aS 130 .leq 129 30,b1 5 2 126,I 3 130])) .ret))))))))))
@[simp] def tS:List bK:=[.cell 2 true 5,.tmp 3]
def wg:C:=(aa [cP 2 0,cP 3 1,bm 4 false] (.seq (aa [aG 11 0 1 2,ax 12 1 11,aG 13 0 1 3,ax 14 1 13,bk 15 .neq 12 14,I 16 15,ar 16 false (aG 17 1 1 2),ar 16 false (ax 18 1 17),ar 16 false (aG 19 1 1 3),ar 16 false (ax 20 1 19),ar 16 false (cl 21 155 18 20),ar 16 false (aS 22 .neq 21 0),df 23 16 22,I 24 23,ar 24 false (aG 25 2 1 2),ar 24 false (ax 26 1 25),ar 24 false (cn 27 26),ar 24 false (aG 28 2 1 3),ar 24 false (ax 29 1 28),ar 24 false (cn 30 29),ar 24 false (bk 31 .neq 27 30),df 32 24 31,I 33 32,ar 33 false (aG 34 3 1 2),ar 33 false (ax 35 1 34),ar 33 false (cn 36 35),ar 33 false (aG 37 3 1 3),ar 33 false (ax 38 1 37),ar 33 false (cn 39 38),ar 33 false (bk 40 .neq 36 39),df 41 33 40,I 42 41,ar 42 false (aG 43 4 1 2),ar 42 false (ax 44 1 43),ar 42 false (cn 45 44),ar 42 false (aG 46 4 1 3),ar 42 false (ax 47 1 46),ar 42 false (cn 48 47),ar 42 false (bk 49 .neq 45 48),df 50 42 49] (aT 50 (aa [bm 4 false] .ret) .skip)) (.seq (aa [aG 51 2 1 2,ax 52 1 51,cn 53 52,bV 54 0] (fG 55 54 53 (.seq (.block 1 (aa [I 56 54,cv 57 1 52 54,ax 58 1 57,I 5 56,I 6 58] (aa [I 59 6,aG 60 2 1 3,ax 61 1 60,I 62 5,cv 63 1 61 62,ax 64 1 63,cl 65 155 59 64,aS 66 .neq 65 0] (aT 66 (aa [bm 4 false] .ret) .skip)))) (.region [aS 67 .add 54 1,I 54 67])))) (.seq (aa [aG 68 3 1 2,ax 69 1 68,cn 70 69,bV 71 0] (.block 2 (.loop (aa [bk 72 .lss 71 70] (.seq (aT 72 .skip (.exit 2)) (.seq (.block 3 (aa [I 73 71,cv 74 2 69 71,be 75 2 74,cX (.alloc 8 none (.agg [.int .i64 0,.int .i64 0])),I 7 73,b1 2 8 75] (.seq (.drawn true 100 [be 76 2 8,aG 77 3 1 3,ax 78 1 77,I 79 7,cv 80 2 78 79,be 81 2 80,b0 82 (.beq true (some [false,false]) (.t 76) (.t 81))]) (aT 82 (aa [bm 4 false] .ret) .skip)))) (.region [aS 83 .add 71 1,I 71 83]))))))) (.seq (aa [aG 84 4 1 2,ax 85 1 84,cn 86 85,bV 87 0] (.block 4 (.loop (aa [bk 88 .lss 87 86] (.seq (aT 88 .skip (.exit 4)) (.seq (.block 5 (aa [I 89 87,cv 90 2 85 87,be 91 2 90,cX (.alloc 10 none (.agg [.int .i64 0,.str []])),I 9 89,b1 2 10 91] (.seq (.drawn true 100 [be 92 2 10,aG 93 4 1 3,ax 94 1 93,I 95 9,cv 96 2 94 95,be 97 2 96,b0 98 (.beq true (some [false,true]) (.t 92) (.t 97))]) (aT 98 (aa [bm 4 false] .ret) .skip)))) (.region [aS 99 .add 87 1,I 87 99]))))))) (aa [bm 4 true] .ret))))))
@[simp] def Ft:List bK:=[.tmp 4]
def F0:List (Nat×dB):=[
 (3,⟨1,8,.int .i64,.int .i64 0⟩),
 (9,⟨1,16,.str,.str []⟩),
 (46,⟨1,24,.slice 113,.slice 5 .nil []⟩),
 (47,⟨1,24,.slice 46,.slice 1 .nil []⟩),
 (48,⟨1,24,.slice 98,.slice 2 .nil []⟩),
 (49,⟨1,24,.slice 100,.slice 2 .nil []⟩),
 (51,⟨5,104,.struct [(0,3),(1,46),(2,47),(3,48),(4,49)],.agg [.int .i64 0,.slice 5 .nil [],.slice 1 .nil [],.slice 2 .nil [],.slice 2 .nil []]⟩),
 (98,⟨2,16,.struct [(0,3),(1,3)],.agg [.int .i64 0,.int .i64 0]⟩),
 (100,⟨2,24,.struct [(0,3),(1,9)],.agg [.int .i64 0,.str []]⟩)]
theorem nt:fN ao F0=true:=by kernel_rfl
theorem xm:b5 F0 ux ah0 1 Tryz.f27=true:=by kernel_rfl
theorem wk:ao.funcs[(27:Nat)]? =some Tryz.f27:=Tryz.func27
theorem J2:b5 F0 Dn tS 1 Tryz.f81=true:=by kernel_rfl
theorem HE:ao.funcs[(81:Nat)]? =some Tryz.f81:=Tryz.func81
theorem zp:b5 F0 wg Ft 2 Tryz.f82=true:=by kernel_rfl
theorem yk:ao.funcs[(82:Nat)]? =some Tryz.f82:=Tryz.func82
noncomputable def Co(s:eJ):ah:= .tuple [(zK s).e,.bool (mN s).isSome]
@[simp] theorem anl(S:aD→Prop)(s:eJ):aB S (Co s)=True:=by simp[Co,aB,aH]
theorem aj2{k:List bG}(ab:iI k)(v:Int):bI ao 151 [.slice 2 .no (k.map bG.e),(T.var v).e,.int .i64 2] (nZ k (jU k (.var v) 2)):=Vr k (by have:=u7 ab;omega) ab.asc (.var v) 2
theorem Vp{b y:List aq}(ae:eG b)(aL:eG y):bI ao 153 [.slice 5 .no (b.map aq.e),.slice 5 .no (y.map aq.e)] (cK (gp b y)):=ajX ae aL
theorem Vo{b x:List aq}(ae:eG b)(ad:eG x):bI ao 152 [.slice 5 .no (b.map aq.e),cK x] (ga (mgu b (hs x))):=ajW b x ae.sol ae.fits ad.len
def Jt(a:List bf):ah:=match a with
 |[]=>.slice 2 .nil []
 |_::_=>.slice 2 (.own (.loc 5)) (a.map bf.e)
def Js(a:List bf):List (aD×fF):=match a with
 |[]=>[]
 |_::_=>[(.loc 5,⟨a.length,100,2,none⟩)]
def Jr(a:List bf):Nat:=match a with
 |[]=>3
 |_::_=>6
@[simp] theorem anK:Jt []= .slice 2 .nil []:=rfl
@[simp] theorem anJ(x:bf)(a:List bf):Jt (x::a)= .slice 2 (.own (.loc 5)) (x.e::a.map bf.e):=rfl
@[simp] theorem anI:Js []=[]:=rfl
@[simp] theorem anH(x:bf)(a:List bf):Js (x::a)=[(.loc 5,⟨a.length+1,100,2,none⟩)]:=rfl
@[simp] theorem anG:Jr []=3:=rfl
@[simp] theorem anF(x:bf)(a:List bf):Jr (x::a)=6:=rfl
set_option maxRecDepth 4000 in
theorem aj6{s:eJ}(h:xI s){G:List (List dA)}(mv:G.length≤687000)(a1:np G s.m):bI ao 81 [s.e] (Co s):=by
 unfold Co;generalize dg:mN s=O;generalize dv:zK s=SS;have j8:=Lt h.b h.k;have j9:=Lu h.b h.m mv a1;have ni:=fun k=>Fv (acc:=[]) (a:=k) h.b h.k.at' ⟨by simp,by simp⟩;have pw:=fun m=>Fw (acc:=[]) (a:=m) h.b h.m.at' ⟨by simp,by simp[hy]⟩;have mr:=fun m=>KC (acc:=[]) (a:=m) (s:=s.b) a1 (fun x ad=>by simp at ad);have ae:=h.b;have aP:=h.d;clear h a1;unfold mN at dg;unfold zK at dv;obtain⟨n,b,d,e9,m0⟩:=s;simp only at j8 j9 ni pw mr ae aP dg dv;have fs:=ae.len;simp only[eJ.e];generalize fR b e9 []=ok at j8 dg dv ni;generalize fS b m0 []=om at j9 dg dv pw mr;cases ok with
 |none=>
  simp only at dg dv;subst dg;subst dv;simp only[fM]at j8;simp only[iN]at j9;clear ni pw mr;refine br nt HE J2 fun aR=>?_;unfold Dn;simp;(with_reducible repeat' first|refine ak ?_|refine aE j8 ?_|refine aF j8 ?_|refine aE j9 ?_|refine aF j9 ?_|simp);all_goals simp[bA,tS,aV,aY,aU]
  all_goals simp[qo,eJ.e]
 |some k=>
  simp only at dg dv;cases om with
  |none=>
   simp only at dg dv;subst dg;subst dv;simp only[fM]at j8;simp only[iN]at j9;clear ni pw mr;refine br nt HE J2 fun aR=>?_;unfold Dn;simp;(with_reducible repeat' first|refine ak ?_|refine aE j8 ?_|refine aF j8 ?_|refine aE j9 ?_|refine aF j9 ?_|simp);all_goals simp[bA,tS,aV,aY,aU]
   all_goals simp[qo,eJ.e]
  |some m=>
   simp only at dg dv;have uP:=ni k rfl;have wP:=pw m rfl;have wH:=mr m rfl;have lV:m.length≤68719470000:=by have:=BO wP wH;omega
   have yJ:=Sj (k:=k) wP;have yD:=UT (k:=k) wH;simp only[fM,kR,rD]at j8;simp only[iN,kR,rD]at j9;clear ni pw mr;refine br nt HE J2 fun aR=>?_;unfold Dn;have H7:d.length≤68719476736:=by simp[eE,ej,eu,lim]at aR;omega
   clear aR;simp;(with_reducible repeat' first|refine ak ?_|refine aE j8 ?_|refine aF j8 ?_|refine aE j9 ?_|refine aF j9 ?_|simp);refine ik (fun i (a:List bf)=>⟨[(1,.ptr (.loc 0) 0),(2,.ptr (.loc 1) 0),(4,.slice 2 .no (k.map bG.e)),(8,.ptr (.loc 2) 0),(48,.slice 2 .no (m.map bf.e)),(49,.int .i64 m.length),(50,.int .i64 i)],[(.loc 0,[.int .i64 n,.slice 5 .no (b.map aq.e),.slice 1 .no (d.map cK),.slice 2 .no (e9.map bG.e),.slice 2 .no (m0.map bf.e)]),(.loc 1,[.int .i64 0,.slice 5 .nil [],.slice 1 .nil [],.slice 2 .nil [],.slice 2 .nil []]),(.loc 2,[.int .i64 n,.slice 5 .no (b.map aq.e),.slice 1 .nil [],.slice 2 .no (k.map bG.e),Jt a])],Js a,Jr a,[]⟩) m.length (r9 k m) [] b4 (by simp[r9]) (fun a af _=>?_) (fun i a hi af _=>?_);rotate_left
   ·obtain⟨x,ad,cz⟩:=ep hi;have qJ:a.length≤68719470000:=by
     have:a.length≤(m.take i).length:=by rw[af];exact List.length_filter_le _ _
     simp at this;omega
    have aA:=af.step ad;have l3:=aj2 uP x.v;have bp:(jU k (.var x.v) 2).isSome=kc k x:=Wh uP x.v;simp only[nZ,bp]at l3;clear bp;generalize (jU k (.var x.v) 2).getD k=kz at l3;cases aI:kc k x
    ·rw[aI]at aA l3;simp only[gI,if_false]at aA;clear af ad aI;cases a with
     |nil=>simp[hi,cz];(with_reducible repeat' first|refine ak ?_|refine aE (jS _) ?_|refine aF (jS _) ?_|refine aE l3 ?_|refine aF l3 ?_|simp[hi,cz]);all_goals exact bL.rng [] hi aA b4
     |cons y ys=>simp[hi,cz];(with_reducible repeat' first|refine ak ?_|refine aE (jS _) ?_|refine aF (jS _) ?_|refine aE l3 ?_|refine aF l3 ?_|simp[hi,cz]);all_goals exact bL.rng (y::ys) hi aA b4
    ·rw[aI]at aA l3;simp only[if_true]at aA;clear af ad aI;cases a with
     |nil=>
      simp[hi,cz];(with_reducible repeat' first|refine ak ?_|refine aE (jS _) ?_|refine aF (jS _) ?_|refine aE l3 ?_|refine aF l3 ?_|simp[hi,cz]);all_goals first|(refine⟨by unfold lim;omega,?_⟩)|skip
      all_goals(with_reducible repeat' first|refine ak ?_|simp)
      all_goals exact bL.rng [x] hi aA b4
     |cons y ys=>
      simp only[pK]at qJ;simp[hi,cz];(with_reducible repeat' first|refine ak ?_|refine aE (jS _) ?_|refine aF (jS _) ?_|refine aE l3 ?_|refine aF l3 ?_|simp[hi,cz]);all_goals first|(refine⟨by unfold lim;omega,?_⟩)|skip
      all_goals(with_reducible repeat' first|refine ak ?_|simp)
      all_goals exact bL.rng (y::ys++[x]) hi aA ⟨by simp[fresh,aH,aB,cf,inObs,Pv.look,y5],eh (by simp[fresh,aH,aB,cf,inObs,Pv.look,y5]),ei (by simp[fresh,aH,aB,dN,inObs,Pv.look,y5]),by simp⟩
   rw[r9,oY]at af;rw[←af]at yJ yD dg dv;clear af wP wH;cases a with
   |nil=>
    simp;(with_reducible repeat' first|refine ak ?_|simp);refine ik (fun i (L:List (List aq))=>⟨[(1,.ptr (.loc 0) 0),(2,.ptr (.loc 1) 0),(8,.ptr (.loc 2) 0),(13,.slice 1 (.own (.loc 3)) (L.map cK)),(72,.slice 1 .no (d.map cK)),(73,.int .i64 d.length),(74,.int .i64 i)],[(.loc 0,[.int .i64 n,.slice 5 .no (b.map aq.e),.slice 1 .no (d.map cK),.slice 2 .no (e9.map bG.e),.slice 2 .no (m0.map bf.e)]),(.loc 1,[.int .i64 0,.slice 5 .nil [],.slice 1 .nil [],.slice 2 .nil [],.slice 2 .nil []]),(.loc 2,[.int .i64 n,.slice 5 .no (b.map aq.e),.slice 1 .nil [],.slice 2 .no (k.map bG.e),.slice 2 .nil []])],[(.loc 3,⟨L.length,46,1,none⟩)],3+1,[]⟩) d.length (pf b k [] d) [] b4 ⟨by simp,by simp,by simp⟩ (fun L af _=>?_) (fun i L hi af _=>?_)
    ·have jg:=af.fin;have uJ:=af.2.1;rw[jg]at dg dv;simp only at dg dv;have mF:=Vq L uJ;clear af jg uJ;generalize kq L=M at mF dg dv;subst dv;by_cases kW:M.length≤30
     ·have nI:(M.length:Int)≤30:=by omega
      rw[if_pos kW]at dg;subst dg;simp;(with_reducible repeat' first|refine ak ?_|refine aE mF ?_|refine aF mF ?_|simp[kW,nI]);all_goals simp[bA,tS,aV,aY,aU]
      all_goals try simp[eJ.e,kW,nI]
      all_goals first|exact⟨_,rfl,rfl⟩|skip
     ·have nI:¬(M.length:Int)≤30:=by omega
      rw[if_neg kW]at dg;subst dg;simp;(with_reducible repeat' first|refine ak ?_|refine aE mF ?_|refine aF mF ?_|simp[kW,nI]);all_goals simp[bA,tS,aV,aY,aU]
      all_goals try simp[eJ.e,kW,nI]
      all_goals first|exact⟨_,rfl,rfl⟩|skip
    ·obtain⟨x,ad,cz⟩:=ep hi;have hV:=aP x (eP ad);have P3:=af.1;have hD:=Vo ae hV;simp only[ga]at hD;cases hu:mgu b (hs x)with
     |none=>have aA:=af.skip ad fun r=>Jk hu;rw[hu]at hD;simp only[mU,lK]at hD;clear af ad dg dv;exact hM
     |some y=>
      have iG:=ae.mgu (Az hV) hu;rw[hu]at hD;simp only[kR,rD]at hD;have di:=Lt iG uP;have dM:=Lu iG yJ mv yD;have hE:=Vp ae iG;simp only[fM]at di;simp only[iN,List.map_nil,gX]at dM;by_cases jh:fR y k []=none∨fS y [] []=none
      ·have aA:=af.skip ad fun r=>Jj hu jh;clear af ad dg dv hu hE;rcases jh with e|e
       ·rw[e]at di;simp only[mU,lK]at di;exact hM
       ·rw[e]at dM;simp only[mU,lK]at dM;generalize (fR y k []).isSome=aZ at di;cases aZ
        ·exact hM
        ·exact hM
      ·have aj:(fR y k []).isSome=true:=by cases e:fR y k []with|none=>exact absurd (.inl e) jh|some _=>rfl
       have aC:(fS y [] []).isSome=true:=by cases e:fS y [] []with|none=>exact absurd (.inr e) jh|some _=>rfl
       rw[aj]at di;rw[aC]at dM;by_cases cC:gp b y=[]
       ·have ag:=af.stop ad fun r=>Ji hu jh cC;rw[ag]at dg dv;simp only at dg dv;subst dg;subst dv;rw[cC]at hE;simp only[cK,List.map_nil]at hE;clear af ad hu jh;simp[hi,cz];(with_reducible repeat' first|refine ak ?_|refine aE hD ?_|refine aF hD ?_|refine aE di ?_|refine aF di ?_|refine aE dM ?_|refine aF dM ?_|refine aE hE ?_|refine aF hE ?_|simp[hi,cz]);all_goals simp[bA,tS,aV,aY,aU]
        all_goals try simp[qo,eJ.e]
       ·have aA:=af.snoc ad (EX (b:=b) iG) fun r=>Jl hu jh cC;have uR:¬((gp b y).length:Int)=0:=by have:(gp b y).length≠0:=fun h=>cC (List.length_eq_zero_iff.1 h);omega
        have uS:(((gp b y).length:Int)==0)=false:=by simp[cC]
        clear af ad hu jh dg dv;generalize gp b y=z at hE aA uR uS cC;simp only[cK]at hE;simp[hi,cz];(with_reducible repeat' first|refine ak ?_|refine aE hD ?_|refine aF hD ?_|refine aE di ?_|refine aF di ?_|refine aE dM ?_|refine aF dM ?_|refine aE hE ?_|refine aF hE ?_|simp[hi,cz,uR,uS,cC]);all_goals first|(refine⟨by unfold lim;omega,?_⟩)|skip
        all_goals(with_reducible repeat' first|refine ak ?_|simp)
        all_goals exact bL.rng (L++[z]) hi aA ⟨by simp[fresh,aH,aB,cf,inObs,Pv.look,tz,cK],eh (by simp[fresh,aH,aB,cf,inObs,Pv.look,tz,cK]),ei (by simp[fresh,aH,aB,dN,inObs,Pv.look,tz,cK]),by simp⟩
   |cons CO CP=>
    simp;(with_reducible repeat' first|refine ak ?_|simp);refine ik (fun i (L:List (List aq))=>⟨[(1,.ptr (.loc 0) 0),(2,.ptr (.loc 1) 0),(8,.ptr (.loc 2) 0),(13,.slice 1 (.own (.loc 6)) (L.map cK)),(72,.slice 1 .no (d.map cK)),(73,.int .i64 d.length),(74,.int .i64 i)],[(.loc 0,[.int .i64 n,.slice 5 .no (b.map aq.e),.slice 1 .no (d.map cK),.slice 2 .no (e9.map bG.e),.slice 2 .no (m0.map bf.e)]),(.loc 1,[.int .i64 0,.slice 5 .nil [],.slice 1 .nil [],.slice 2 .nil [],.slice 2 .nil []]),(.loc 2,[.int .i64 n,.slice 5 .no (b.map aq.e),.slice 1 .nil [],.slice 2 .no (k.map bG.e),.slice 2 (.own (.loc 5)) (CO.e::CP.map bf.e)])],[(.loc 6,⟨L.length,46,1,none⟩)],6+1,[]⟩) d.length (pf b k (CO::CP) d) [] b4 ⟨by simp,by simp,by simp⟩ (fun L af _=>?_) (fun i L hi af _=>?_)
    ·have jg:=af.fin;have uJ:=af.2.1;rw[jg]at dg dv;simp only at dg dv;have mF:=Vq L uJ;clear af jg uJ;generalize kq L=M at mF dg dv;subst dv;by_cases kW:M.length≤30
     ·have nI:(M.length:Int)≤30:=by omega
      rw[if_pos kW]at dg;subst dg;simp;(with_reducible repeat' first|refine ak ?_|refine aE mF ?_|refine aF mF ?_|simp[kW,nI]);all_goals simp[bA,tS,aV,aY,aU]
      all_goals try simp[eJ.e,kW,nI]
      all_goals first|exact⟨_,rfl,rfl⟩|skip
     ·have nI:¬(M.length:Int)≤30:=by omega
      rw[if_neg kW]at dg;subst dg;simp;(with_reducible repeat' first|refine ak ?_|refine aE mF ?_|refine aF mF ?_|simp[kW,nI]);all_goals simp[bA,tS,aV,aY,aU]
      all_goals try simp[eJ.e,kW,nI]
      all_goals first|exact⟨_,rfl,rfl⟩|skip
    ·obtain⟨x,ad,cz⟩:=ep hi;have hV:=aP x (eP ad);have P3:=af.1;have hD:=Vo ae hV;simp only[ga]at hD;cases hu:mgu b (hs x)with
     |none=>have aA:=af.skip ad fun r=>Jk hu;rw[hu]at hD;simp only[mU,lK]at hD;clear af ad dg dv;exact hM
     |some y=>
      have iG:=ae.mgu (Az hV) hu;rw[hu]at hD;simp only[kR,rD]at hD;have di:=Lt iG uP;have dM:=Lu iG yJ mv yD;have hE:=Vp ae iG;simp only[fM]at di;simp only[iN,List.map_nil,gX]at dM;by_cases jh:fR y k []=none∨fS y (CO::CP) []=none
      ·have aA:=af.skip ad fun r=>Jj hu jh;clear af ad dg dv hu hE;rcases jh with e|e
       ·rw[e]at di;simp only[mU,lK]at di;exact hM
       ·rw[e]at dM;simp only[mU,lK]at dM;generalize (fR y k []).isSome=aZ at di;cases aZ
        ·exact hM
        ·exact hM
      ·have aj:(fR y k []).isSome=true:=by cases e:fR y k []with|none=>exact absurd (.inl e) jh|some _=>rfl
       have aC:(fS y (CO::CP) []).isSome=true:=by cases e:fS y (CO::CP) []with|none=>exact absurd (.inr e) jh|some _=>rfl
       rw[aj]at di;rw[aC]at dM;by_cases cC:gp b y=[]
       ·have ag:=af.stop ad fun r=>Ji hu jh cC;rw[ag]at dg dv;simp only at dg dv;subst dg;subst dv;rw[cC]at hE;simp only[cK,List.map_nil]at hE;clear af ad hu jh;simp[hi,cz];(with_reducible repeat' first|refine ak ?_|refine aE hD ?_|refine aF hD ?_|refine aE di ?_|refine aF di ?_|refine aE dM ?_|refine aF dM ?_|refine aE hE ?_|refine aF hE ?_|simp[hi,cz]);all_goals simp[bA,tS,aV,aY,aU]
        all_goals try simp[qo,eJ.e]
       ·have aA:=af.snoc ad (EX (b:=b) iG) fun r=>Jl hu jh cC;have uR:¬((gp b y).length:Int)=0:=by have:(gp b y).length≠0:=fun h=>cC (List.length_eq_zero_iff.1 h);omega
        have uS:(((gp b y).length:Int)==0)=false:=by simp[cC]
        clear af ad hu jh dg dv;generalize gp b y=z at hE aA uR uS cC;simp only[cK]at hE;simp[hi,cz];(with_reducible repeat' first|refine ak ?_|refine aE hD ?_|refine aF hD ?_|refine aE di ?_|refine aF di ?_|refine aE dM ?_|refine aF dM ?_|refine aE hE ?_|refine aF hE ?_|simp[hi,cz,uR,uS,cC]);all_goals first|(refine⟨by unfold lim;omega,?_⟩)|skip
        all_goals(with_reducible repeat' first|refine ak ?_|simp)
        all_goals exact bL.rng (L++[z]) hi aA ⟨by simp[fresh,aH,aB,cf,inObs,Pv.look,tz,cK],eh (by simp[fresh,aH,aB,cf,inObs,Pv.look,tz,cK]),ei (by simp[fresh,aH,aB,dN,inObs,Pv.look,tz,cK]),by simp⟩
theorem aj1(x y:List aq):bI ao 155 [cK x,cK y] (.int .i64 (ek x y)):=Lr x y
theorem aj7{x y:List aq}(h:¬x=y):(ek x y !=0)=true:=by have:¬ek x y=0:=fun e=>h ((la.zero _ _).1 e);simp[this]
set_option maxRecDepth 4000 in
theorem aj5(a c:eJ):bI ao 82 [a.e,c.e] (.bool (decide (a=c))):=by
 obtain⟨n,b,d,k,m⟩:=a;obtain⟨n',bY,b6,bH,hd⟩:=c;generalize bh:decide ((⟨n,b,d,k,m⟩:eJ)=⟨n',bY,b6,bH,hd⟩)=R;simp only[eJ.mk.injEq,eJ.e]at bh⊢;by_cases aZ:n=n';rotate_left
 ·have fK:R=false:=by rw[←bh];simp[aZ]
  have sp:(n !=n')=true:=by simp[aZ]
  rw[fK];clear bh fK;refine br nt yk zp fun aR=>?_;unfold wg;exact ct
 subst aZ;have ft:=Lr b bY;by_cases bB:b=bY;rotate_left
 ·have fK:R=false:=by rw[←bh];simp[bB]
  have nY:¬ek b bY=0:=fun h=>bB ((la.zero _ _).1 h);have Tk:(ek b bY !=0)=true:=by simp[nY]
  rw[fK];clear bh fK;refine br nt yk zp fun aR=>?_;unfold wg;exact ct
 subst bB;rw[(la.zero b b).2 rfl]at ft;by_cases bQ:d.length=b6.length;rotate_left
 ·have fK:R=false:=by rw[←bh];simp only[hx];rintro⟨_,_,rfl,_⟩;exact bQ rfl
  have rf:((d.length:Int) !=b6.length)=true:=by simp;omega
  rw[fK];clear bh fK;refine br nt yk zp fun aR=>?_;unfold wg;exact ct
 by_cases cS:k.length=bH.length;rotate_left
 ·have fK:R=false:=by rw[←bh];simp only[hx];rintro⟨_,_,_,rfl,_⟩;exact cS rfl
  have aha:((k.length:Int) !=bH.length)=true:=by simp;omega
  rw[fK];clear bh fK;refine br nt yk zp fun aR=>?_;unfold wg;exact ct
 by_cases c6:m.length=hd.length;rotate_left
 ·have fK:R=false:=by rw[←bh];simp only[hx];rintro⟨_,_,_,_,rfl⟩;exact c6 rfl
  have ahb:((m.length:Int) !=hd.length)=true:=by simp;omega
  rw[fK];clear bh fK;refine br nt yk zp fun aR=>?_;unfold wg;exact ct
 have wS:d≠b6→R=false:=fun h=>by rw[←bh];simp[h]
 have wT:k≠bH→R=false:=fun h=>by rw[←bh];simp[h]
 have Is:m≠hd→R=false:=fun h=>by rw[←bh];simp[h]
 refine br nt yk zp fun aR=>?_;unfold wg;have acm:b6.length≤68719476736:=by simp[eE,ej,eu,lim]at aR;omega
 have acn:bH.length≤68719476736:=by simp[eE,ej,eu,lim]at aR;omega
 have aco:hd.length≤68719476736:=by simp[eE,ej,eu,lim]at aR;omega
 clear aR;simp;(with_reducible repeat' first|refine ak ?_|refine aE ft ?_|refine aF ft ?_|simp[bQ,cS,c6]);have de:=wS;refine dU [2,3,52,53] (fun i (_:Unit)=>[(54,.int .i64 i)]) b6.length (qx d b6) () b4 (fun k ab=>by omega) (fun _ af _=>?_) (fun i _ hi af _=>?_);rotate_left
 ·obtain⟨x,ad⟩:∃x,d[i]? =some x:=⟨_,ca (by omega)⟩;obtain⟨y,aL⟩:∃y,b6[i]? =some y:=⟨_,ca hi⟩;have fW:i<d.length:=by omega
  have cz:∀h,(d[i]'h)=x:=fun h=>by rw[ca fW]at ad;exact fw ad
  have eA:∀h,(b6[i]'h)=y:=fun h=>by rw[ca hi]at aL;exact fw aL
  have ft:=aj1 x y;by_cases q:x=y
  ·subst q;have aA:=af.step ad aL;rw[(la.zero _ _).2 rfl]at ft;clear af ad aL;simp[hi,fW,cz,eA,-h2];(with_reducible repeat' first|refine ak ?_|refine aE ft ?_|refine aF ft ?_|simp[cz,eA,hi,fW,-h2]);all_goals exact bL.rng () hi aA b4
  ·rw[de (fun h=>q (by rw[h]at ad;rw[ad]at aL;exact fw aL))];have nY:=aj7 q;clear af ad aL;simp[hi,fW,cz,eA,-h2];(with_reducible repeat' first|refine ak ?_|refine aE ft ?_|refine aF ft ?_|simp[cz,eA,hi,fW,q,nY,-h2]);all_goals simp[bA,Ft,aV,aY,aU]
 have ds:=af.fin bQ;subst ds;clear af de wS bQ;simp;(with_reducible repeat' first|refine ak ?_|simp[cS]);have de:=wT;refine dU [2,3,69,70] (fun i (_:Unit)=>[(71,.int .i64 i)]) bH.length (qx k bH) () b4 (fun k ab=>by omega) (fun _ af _=>?_) (fun i _ hi af _=>?_);rotate_left
 ·obtain⟨x,ad⟩:∃x,k[i]? =some x:=⟨_,ca (by omega)⟩;obtain⟨y,aL⟩:∃y,bH[i]? =some y:=⟨_,ca hi⟩;have fW:i<k.length:=by omega
  have cz:∀h,(k[i]'h)=x:=fun h=>by rw[ca fW]at ad;exact fw ad
  have eA:∀h,(bH[i]'h)=y:=fun h=>by rw[ca hi]at aL;exact fw aL
  have ft:=True.intro;by_cases q:x=y
  ·subst q;have aA:=af.step ad aL;skip;clear af ad aL;simp[hi,fW,cz,eA,-h2];(with_reducible repeat' first|refine ak ?_|refine aE ft ?_|refine aF ft ?_|simp[cz,eA,hi,fW,-h2]);all_goals exact bL.rng () hi aA b4
  ·rw[de (fun h=>q (by rw[h]at ad;rw[ad]at aL;exact fw aL))];skip;clear af ad aL;simp[hi,fW,cz,eA,-h2];(with_reducible repeat' first|refine ak ?_|refine aE ft ?_|refine aF ft ?_|simp[cz,eA,hi,fW,q,q,-h2]);all_goals simp[bA,Ft,aV,aY,aU]
 have ds:=af.fin cS;subst ds;clear af de wT cS;simp;(with_reducible repeat' first|refine ak ?_|simp[c6]);have de:=Is;refine dU [3,85,86] (fun i (_:Unit)=>[(87,.int .i64 i)]) hd.length (qx m hd) () b4 (fun k ab=>by omega) (fun _ af _=>?_) (fun i _ hi af _=>?_);rotate_left
 ·obtain⟨x,ad⟩:∃x,m[i]? =some x:=⟨_,ca (by omega)⟩;obtain⟨y,aL⟩:∃y,hd[i]? =some y:=⟨_,ca hi⟩;have fW:i<m.length:=by omega
  have cz:∀h,(m[i]'h)=x:=fun h=>by rw[ca fW]at ad;exact fw ad
  have eA:∀h,(hd[i]'h)=y:=fun h=>by rw[ca hi]at aL;exact fw aL
  have ft:=True.intro;by_cases q:x=y
  ·subst q;have aA:=af.step ad aL;skip;clear af ad aL;simp[hi,fW,cz,eA,-h2];(with_reducible repeat' first|refine ak ?_|refine aE ft ?_|refine aF ft ?_|simp[cz,eA,hi,fW,-h2]);all_goals exact bL.rng () hi aA b4
  ·rw[de (fun h=>q (by rw[h]at ad;rw[ad]at aL;exact fw aL))];skip;clear af ad aL;simp[hi,fW,cz,eA,-h2];(with_reducible repeat' first|refine ak ?_|refine aE ft ?_|refine aF ft ?_|simp[cz,eA,hi,fW,q,q,-h2]);all_goals simp[bA,Ft,aV,aY,aU]
 have ds:=af.fin c6;subst ds;have fK:R=true:=by rw[←bh];simp
 rw[fK];exact ct
@[simp] theorem ai2:∀l:List (List cQ),cU (l.map fP)=l.map fP
 |[]=>rfl
 |x::xs=>by simp[cU,ai2 xs]
theorem UJ:∀{d:List (List cQ)},d.all gu=true→∃D:List (List aq),d=(D.map fun x=>x.map aq.b)∧∀x∈D,eG x
 |[],_=>⟨[],rfl,by simp⟩
 |x::d,h=>by
  rw[List.all_cons,cA]at h;obtain⟨D,J,U⟩:=UJ h.2;obtain⟨s,aj,aC⟩:=vD.1 (qk.1 h.1);refine⟨s::D,by rw[J,aj];rfl,fun y aL=>?_⟩;rcases fU.1 aL with rfl|aL
  ·exact aC
  ·exact U y aL
open Classical in
set_option maxRecDepth 4000 in
theorem akc(r:jG)(gM:iJ r.m→vG r.m):bI ao 27 [r.e] (.bool (decide (su r))):=by
 generalize bh:decide (su r)=R;have de:¬KA r→R=false:=fun h=>by rw[←bh,hx];exact fun cp=>h cp.raw
 obtain⟨n,b,d,k,m⟩:=r;simp only[jG.e]at gM⊢;have Ex:=dp n 0 100000;by_cases g1:0≤n∧n≤100000;rotate_left
 ·rw[de fun h=>g1 h.n];rw[oe g1]at Ex;refine br nt wk xm fun aR=>?_;unfold ux;exact ct
 rw[nz g1]at Ex;have l2:bI ao 76 [.slice 5 .no (b.map cQ.e)] (.bool (gu b)):=Lw b;cases g3:gu b
 ·rw[de fun h=>by obtain⟨s,aj,aC,_⟩:=h.b;have:=qk.2 (vD.2 ⟨s,aj,aC⟩);simp only at this;rw[g3]at this;cases this]
  rw[g3]at l2;refine br nt wk xm fun aR=>?_;unfold ux;exact ct
 rw[g3]at l2;obtain⟨s,rfl,ag⟩:=vD.1 (qk.1 g3);clear g3;rw[za]at l2⊢;have fY:=aj0 d;cases uH:d.all gu
 ·rw[de fun h=>by
   have:d.all gu=true:=by rw[ja];intro x ad;obtain⟨s,aj,aC,_⟩:=h.d x ad;exact qk.2 (vD.2 ⟨s,aj,aC⟩)
   rw[uH]at this;cases this]
  rw[uH]at fY;refine br nt wk xm fun aR=>?_;unfold ux;exact ct
 rw[uH]at fY;obtain⟨D,rfl,AR⟩:=UJ uH;clear uH;rw[OS]at fY⊢;have di:=aka k;by_cases g4:iI k;rotate_left
 ·rw[de fun h=>g4 h.k];rw[oe g4]at di;refine br nt wk xm fun aR=>?_;unfold ux;exact ct
 rw[nz g4]at di;have dM:=akb m;by_cases g5:iJ m;rotate_left
 ·rw[de fun h=>g5 h.m];rw[oe g5]at dM;refine br nt wk xm fun aR=>?_;unfold ux;exact ct
 rw[nz g5]at dM;have kI:=Vs s n;cases g6:s.all (kl n)
 ·rw[de fun h=>by obtain⟨ai,aj,_,bg⟩:=h.b;have da:=um aj;subst da;rw[ur.2 bg]at g6;cases g6]
  rw[g6]at kI;refine br nt wk xm fun aR=>?_;unfold ux;exact ct
 rw[g6]at kI;have c1:=ur.1 g6;clear g6;have Bc:=gM g5;have lV:=Bc.len g5;refine br nt wk xm fun aR=>?_;unfold ux;have H7:D.length≤68719476736:=by simp[eE,ej,eu,lim]at aR;omega
 have h6:=u7 g4;clear aR gM;simp;(with_reducible repeat' first|refine ak ?_|refine aE Ex ?_|refine aF Ex ?_|refine aE l2 ?_|refine aF l2 ?_|refine aE fY ?_|refine aF fY ?_|refine aE di ?_|refine aF di ?_|refine aE dM ?_|refine aF dM ?_|refine aE kI ?_|refine aF kI ?_|simp);refine dU [1,48,49] (fun i (_:Unit)=>[(50,.int .i64 i)]) D.length (q2 (fun x=>o1 x n) D) () b4 (fun k b ab=>by omega) (fun _ af _=>?_) (fun i _ hi af _=>?_);rotate_left
 ·obtain⟨y,aL,eA⟩:=ep hi;have IQ:=eP aL;have l3:bI ao 80 [cK y,.int .i64 n] (.bool (y.all (kl n))):=Vs y n;cases qF:y.all (kl n)
  ·rw[de fun h=>by obtain⟨ai,aj,_,bg⟩:=h.d _ (List.mem_map_of_mem IQ);have da:=um aj;subst da;rw[ur.2 bg]at qF;cases qF]
   rw[qF]at l3;clear af aL IQ;exact ct
  ·rw[qF]at l3;have aA:=af.step aL (ur.1 qF);clear af aL IQ;exact hM
 have HX:=af.fin;clear af;simp;(with_reducible repeat' first|refine ak ?_|simp);refine dU [1,61,62] (fun i (_:Unit)=>[(63,.int .i64 i)]) k.length (q2 (fun x=>x.v<n) k) () b4 (fun k b ab=>by omega) (fun _ af _=>?_) (fun i _ hi af _=>?_);rotate_left
 ·obtain⟨x,ad,cz⟩:=ep hi;by_cases lS:x.v<n
  ·have wx:¬n≤x.v:=by omega
   have aA:=af.step ad lS;clear af ad;exact hM
  ·have wx:n≤x.v:=by omega
   rw[de fun h=>lS (h.kb x (eP ad))];clear af ad;exact ct
 have wI:=af.fin;clear af;simp;(with_reducible repeat' first|refine ak ?_|simp);have wJ:=wI;refine dU [1,74,75] (fun i (_:Unit)=>[(76,.int .i64 i)]) m.length (q2 (fun x=>x.v<n) m) () b4 (fun k b ab=>by omega) (fun _ af _=>?_) (fun i _ hi af _=>?_);rotate_left
 ·obtain⟨x,ad,cz⟩:=ep hi;by_cases lS:x.v<n
  ·have wx:¬n≤x.v:=by omega
   have aA:=af.step ad lS;clear af ad;exact hM
  ·have wx:n≤x.v:=by omega
   rw[de fun h=>lS (h.mb x (eP ad))];clear af ad;exact ct
 have wI:=af.fin;clear af;simp;(with_reducible repeat' first|refine ak ?_|simp);have uU:=wI;have c9:xI ⟨n,s,D,k,m⟩:=⟨g1,ag,AR,g4,g5,c1,HX,wJ,uU⟩;have tk:=UD c9;obtain⟨G,mv,a1⟩:=Bc;have dK:=aj6 c9 mv a1;have kG:su ⟨n,s.map aq.b,D.map fun x=>x.map aq.b,k,m⟩↔mN ⟨n,s,D,k,m⟩=some ⟨n,s,D,k,m⟩:=tk;clear tk de;simp only[Co]at dK;generalize HZ:zK ⟨n,s,D,k,m⟩=t at dK;have u9:=aj5 t ⟨n,s,D,k,m⟩;cases k4:mN ⟨n,s,D,k,m⟩with
 |none=>
  rw[k4]at dK kG;have fK:R=false:=by rw[←bh,hx,kG];simp
  rw[fK];obtain⟨sy,UW,UX,sx,tm⟩:=t;simp only[lK,eJ.e]at dK;clear bh fK kG HZ u9;exact ct
 |some dD=>
  have aj:=aiu k4;rw[HZ]at aj;subst aj;rw[k4]at dK kG;have fK:R=decide (t=⟨n,s,D,k,m⟩):=by rw[←bh,decide_eq_decide,kG];simp
  rw[fK];simp only[rD]at dK;simp only[eJ.e]at dK u9;clear bh fK kG k4;generalize decide (t=(⟨n,s,D,k,m⟩:eJ))=Q at u9⊢;clear HZ;obtain⟨sy,UW,UX,sx,tm⟩:=t;simp only at dK u9;exact ct
def o2(d:cZ (cZ eU)):ah:=d.e 1 jW
def pk(k:cZ bG):ah:=k.e 2 bG.e
def ps(m:cZ gY):ah:=m.e 2 gY.e
@[simp] theorem am9(S:aD→Prop)(d:cZ (cZ eU)):aB S (o2 d)=True:=by cases d<;>simp[o2,cZ.e,aB]
@[simp] theorem apc(d:cZ (cZ eU)):dn (o2 d)=o2 d:=by
 cases d with
 |l l=>
  have:∀l:List (cZ eU),cU (l.map jW)=l.map jW:=by
   intro l;induction l with
   |nil=>rfl
   |cons x l bM=>simp[cU,bM]
  simp[o2,cZ.e,dn,this]
 |b=>simp[o2,cZ.e,dn]
@[simp] theorem aoK(d:cZ (cZ eU)):dS (o2 d)=true:=by cases d<;>rfl
@[simp] theorem alg(d:cZ (cZ eU)):cells (o2 d)=[o2 d]:=by cases d<;>rfl
@[simp] theorem anh(S:aD→Prop)(d:cZ bG):aB S (pk d)=True:=by cases d<;>simp[pk,cZ.e,aB]
@[simp] theorem apj(d:cZ bG):dn (pk d)=pk d:=by
 cases d with
 |l l=>
  have:∀l:List bG,cU (l.map bG.e)=l.map bG.e:=by
   intro l;induction l with
   |nil=>rfl
   |cons x l bM=>simp[cU,bM]
  simp[pk,cZ.e,dn,this]
 |b=>simp[pk,cZ.e,dn]
@[simp] theorem aoU(d:cZ bG):dS (pk d)=true:=by cases d<;>rfl
@[simp] theorem als(d:cZ bG):cells (pk d)=[pk d]:=by cases d<;>rfl
@[simp] theorem anj(S:aD→Prop)(d:cZ gY):aB S (ps d)=True:=by cases d<;>simp[ps,cZ.e,aB]
@[simp] theorem apl(d:cZ gY):dn (ps d)=ps d:=by
 cases d with
 |l l=>
  have:∀l:List gY,cU (l.map gY.e)=l.map gY.e:=by
   intro l;induction l with
   |nil=>rfl
   |cons x l bM=>simp[cU,bM]
  simp[ps,cZ.e,dn,this]
 |b=>simp[ps,cZ.e,dn]
@[simp] theorem aoW(d:cZ gY):dS (ps d)=true:=by cases d<;>rfl
@[simp] theorem alv(d:cZ gY):cells (ps d)=[ps d]:=by cases d<;>rfl
structure oo where
 n:Int
 b:cZ eU
 d:cZ (cZ eU)
 k:cZ bG
 m:cZ gY
def oo.e(r:oo):ah:= .agg [.int .i64 r.n,jW r.b,o2 r.d,pk r.k,ps r.m]
structure oo.wf (r:oo):Prop where
 b:vN r.b
 d:r.d.wf vN
 k:∀p n cap,r.k= .b p n cap→ma n
 m:r.m.wf fun x=>x.s.wf
def vF(r:oo)(m:Int):Int:=if iW r.b m<0 then-1 else if gS iW r.d (iW r.b m)<0 then-1 else if oS r.k (gS iW r.d (iW r.b m))<0 then-1 else if gS lg r.m (oS r.k (gS iW r.d (iW r.b m)))<0 then-1 else gS lg r.m (oS r.k (gS iW r.d (iW r.b m)))
def x4(b:cQ):eU:=⟨b.v,xN b.t⟩
def xf(b:bf):gY:=⟨b.v,.s b.s⟩
theorem WK(b:cQ):(x4 b).e=b.e:=by have h:=UZ b.t;rw[cr.e_eq,uA]at h;simp only[ah.agg.injEq,pI,and_true,true_and]at h;obtain⟨J,U,al,a6⟩:=h;show ah.agg [_,_,_,_,_]=ah.agg [_,_,_,_,_];rw[show(x4 b).t=xN b.t from rfl,J,U,al,a6];rfl
theorem aeL(b:bf):(xf b).e=b.e:=rfl
theorem WL(l:List cQ):(l.map x4).map eU.e=l.map cQ.e:=by rw[List.map_map];exact List.map_congr_left fun b _=>WK b
theorem aeM(l:List bf):(l.map xf).map gY.e=l.map bf.e:=by rw[List.map_map];exact List.map_congr_left fun b _=>aeL b
def sX(d:List cQ):cZ eU:= .l (d.map x4)
theorem OT(d:List cQ):jW (sX d)=fP d:=by simp only[jW,sX,cZ.e,fP,WL]
theorem XB(l:List (List cQ)):(l.map sX).map jW=l.map fP:=by rw[List.map_map];exact List.map_congr_left fun b _=>OT b
def jG.h(r:jG):oo:=⟨r.n,sX r.b,.l (r.d.map sX),.l r.k,.l (r.m.map xf)⟩
theorem aiX(r:jG):r.h.e=r.e:=by simp only[oo.e,jG.h,jG.e,OT,o2,pk,ps,cZ.e,XB,aeM];rfl
theorem ai6(x:eU)(m:Int)(hw:x.t.wf)(J:m≤1048576)(bs:0≤m)(h:0≤rn x m):∃y,x=x4 y:=by obtain⟨u,hu⟩:=UR x.t m hw J bs h;exact⟨⟨x.v,u⟩,by cases x;simp only[x4]at hu⊢;rw[hu]⟩
theorem ai7(x:gY)(m:Int)(hw:x.s.wf)(J:m≤1048576)(bs:0≤m)(h:0≤lg x m):∃y,x=xf y:=by
 unfold lg at h;split at h
 ·omega
 ·obtain⟨l,au⟩:=gJ.small hw J h;exact⟨⟨x.v,l⟩,by cases x;simp only[xf]at au⊢;rw[au]⟩
theorem UK(x:cZ eU)(m:Int)(hw:vN x)(J:m≤1048576)(bs:0≤m)(h:0≤iW x m):∃y,x=sX y:=Lc (P:=fun b:eU=>b.t.wf) Lb ai6 x m (show cZ.wf (fun b:eU=>b.t.wf) x from hw) J bs h
theorem US:∀(l:List bf) (m:Int),(∀x∈l,1≤x.s.length)→0≤jB lg (l.map xf) m→(l.length:Int)≤m
 |[],m,_,h=>by simpa[jB]using h
 |x::l,m,J,h=>by
  simp only[gX,jB]at h;split at h
  ·omega
  ·rename_i U;have al:=US l _ (fun y aL=>J y (by simp[aL])) h;have a6:=J x (by simp);have bW:lg (xf x) m=if m-x.s.length<0 then-1 else m-x.s.length:=rfl
   rw[bW]at U al;split at al
   ·rename_i c3;rw[if_pos c3]at U;omega
   ·simp only[pK];omega
theorem aeV{s:List dA}(h:jl s=true):1≤s.length:=by
 cases s with
 |nil=>simp[jl]at h
 |cons c s=>simp
theorem ai9{r:oo}(hw:r.wf)(h:0≤vF r 1048576):∃u:jG,r=u.h∧(iJ u.m→vG u.m):=by
 obtain⟨n,b,d,k,l⟩:=r;obtain⟨eD,dq,n9,mc⟩:=hw;simp only at eD dq n9 mc;unfold vF at h;simp only at h;have b9:=zQ b 1048576 (by omega);split at h
 ·omega
 have bZ:=xL zQ d (iW b 1048576) (by omega);split at h
 ·omega
 have fy:=UN k (gS iW d (iW b 1048576)) (by omega);split at h
 ·omega
 split at h
 ·omega
 obtain⟨bY,rfl⟩:=UK b 1048576 eD (by omega) (by omega) (by omega);obtain⟨b6,rfl⟩:=Lc zQ (P:=vN) UK d (iW (sX bY) 1048576) dq (by omega) (by omega) (by omega);generalize gS iW (.l (b6.map sX)) (iW (sX bY) 1048576)=bB at*;cases k with
 |b=>simp only[oS]at*;omega
 |l bH=>
  generalize oS (.l bH) bB=bQ at*;have ov:=xL FW l bQ (by omega);obtain⟨hd,rfl⟩:=Lc FW (P:=fun x=>x.s.wf) ai7 l bQ mc (by omega) (by omega) (by omega);refine⟨⟨n,bY,b6,bH,hd⟩,rfl,fun hm=>vG.of ?_⟩;simp only at hm⊢;simp only[gS,n5]at h;split at h
  ·omega
  ·have:=US hd _ (fun x ad=>aeV (hm.at' x ad).2) h;simp only[List.length_map]at this;omega
theorem akl(r:oo)(hw:r.wf)(m:Int)(bs:0≤m)(J:m≤1048576):bI ao 26 [r.e,.int .i64 m] (.int .i64 (vF r m)):=by
 generalize bh:vF r m=R;obtain⟨n,b,d,k,l⟩:=r;obtain⟨eD,dq,n9,mc⟩:=hw;simp only at eD dq n9 mc;unfold vF at bh;simp only[oo.e]at bh⊢;have a8:=Vy b eD m bs J;have b9:=zQ b m bs;generalize iW b m=aZ at bh a8 b9;have bU:_→bI ao 72 [o2 d,.int .i64 aZ] (.int .i64 (gS iW d aZ)):=fun h=>aki d (fun p n c e=>by subst e;exact dq) (fun xs e x ad m bs J=>by subst e;exact Vy x (dq x ad) m bs J) aZ h (by omega);have bZ:=fun h=>xL zQ d aZ h;generalize gS iW d aZ=bB at bh bU bZ;have cj:_→_→bI ao 73 [pk k,.int .i64 bB] (.int .i64 (oS k bB)):=fun h cp=>akn k n9 bB h cp;have fy:=fun h=>UN k bB h;generalize oS k bB=bQ at bh cj fy;have eB:_→_→bI ao 74 [ps l,.int .i64 bQ] (.int .i64 (gS lg l bQ)):=fun h cp=>akk l (fun p n c e=>by subst e;exact mc) (fun xs e x ad m bs J=>by subst e;exact akj x (mc x ad) m bs J) bQ h cp;have ov:=fun h=>xL FW l bQ h;generalize gS lg l bQ=cS at bh eB ov;clear eD dq n9 mc;by_cases g1:aZ<0
 ·rw[if_pos g1]at bh;subst bh;clear bU cj eB;refine br fe AD B1 fun aR=>?_;unfold x8;exact ct
 rw[if_neg g1]at bh;have bU:=bU (by omega);have bZ:=bZ (by omega);by_cases g2:bB<0
 ·rw[if_pos g2]at bh;subst bh;clear cj eB;refine br fe AD B1 fun aR=>?_;unfold x8;exact ct
 rw[if_neg g2]at bh;have cj:=cj (by omega) (by omega);have fy:=fy (by omega);by_cases g3:bQ<0
 ·rw[if_pos g3]at bh;subst bh;clear eB;refine br fe AD B1 fun aR=>?_;unfold x8;exact ct
 rw[if_neg g3]at bh;have eB:=eB (by omega) (by omega);have ov:=ov (by omega);by_cases g4:cS<0
 ·rw[if_pos g4]at bh;subst bh;refine br fe AD B1 fun aR=>?_;unfold x8;exact ct
 rw[if_neg g4]at bh;subst bh;refine br fe AD B1 fun aR=>?_;unfold x8;exact ct
theorem aku(r:jG):bI ao 28 [r.e] r.e:=by obtain⟨n,b,d,k,l⟩:=r;simp only[jG.e];have a8:bI ao 35 [.slice 5 .no (b.map cQ.e)] (.slice 5 .no (b.map cQ.e)):=VA b;have bU:=akr d fun x _=>VA x;have cj:=aky k fun x _=>akx x;have eB:=akt l fun x _=>aks x;refine br fe ZE af1 fun aR=>?_;unfold Nw;exact ct
theorem ajH(r:jG):bI ao 30 [r.e,r.e] (.bool true):=by obtain⟨n,b,d,k,l⟩:=r;simp only[jG.e];have a8:bI ao 37 [.slice 5 .no (b.map cQ.e),.slice 5 .no (b.map cQ.e)] (.bool true):=Vi b;have bU:=ajE d fun x _=>Vi x;have cj:=ajL k fun x _=>ajK x;have eB:=ajG l fun x _=>ajF x;refine br fe Zu afR fun aR=>?_;unfold Nk;exact ct
open Classical in
theorem ajp(r:oo)(hw:r.wf):bI ao 4 [r.e] (.bool true):=by
 have a8:=akl r hw 1048576 (by omega) (by omega);by_cases g:vF r 1048576<0
 ·generalize vF r 1048576=q at a8 g;clear hw;obtain⟨n,b,d,k,l⟩:=r;simp only[oo.e]at a8⊢;refine br fe Pe SV fun aR=>?_;unfold GS;exact ct
 ·obtain⟨r,rfl,gM⟩:=ai9 hw (by omega);clear hw;rw[aiX]at a8⊢;have bU:=aku r;have cj:=akc r gM;have eB:=ajx r gM;have c5:=ajH r;clear gM;generalize vF r.h 1048576=q at a8 g;generalize ht:decide (su r)=Q at cj eB;clear ht;obtain⟨n,b,d,k,l⟩:=r;simp only[jG.e]at a8 bU cj eB c5⊢;refine br fe Pe SV fun aR=>?_;unfold GS;exact ct
end Go.Proofs.YtahlgcidhnjlbaaGreat
namespace Go.Proofs.YtahlgcidhnjlbaaGreat
open Go Go.Pv Go.ChangeShapes Go.WideShapes Go.ChangeAt Go.RowKit Go.Deep
section
variable {H:Type} {enc:fT×Value→H} {W:World} {spare:Nat→Bool} {held:Bool} {cs:List Value} {x:DataW H×List MemPlace} {fuel:Nat}
theorem Aw:ao.cellsOf 3=1:=by kernel_rfl
theorem OD:ao.cellsOf 9=1:=by kernel_rfl
theorem G8:ao.cellsOf 24=4:=by kernel_rfl
theorem WY:ao.cellsOf 22=1:=by kernel_rfl
theorem Oz:ao.cellsOf 111=5:=by kernel_rfl
theorem OA:ao.cellsOf 38=1:=by kernel_rfl
theorem WU:ao.cellsOf 39=1:=by kernel_rfl
theorem OB:ao.cellsOf 158=2:=by kernel_rfl
theorem WV:ao.cellsOf 40=1:=by kernel_rfl
theorem OC:ao.cellsOf 146=2:=by kernel_rfl
theorem WW:ao.cellsOf 41=1:=by kernel_rfl
theorem WX:ao.cellsOf 43=5:=by kernel_rfl
theorem w2(h:iQ enc ao W 0 spare held fuel 3 cs=some x):∃(n:Int) (v:Value),cs=[v]∧tU W (.int .i64 n) v:=by obtain⟨n,rfl,_,_⟩:=DataW.trod_int Tryz.underlying3 h;exact⟨n,_,rfl,by simp only[a7],rfl,rfl⟩
theorem UE(h:iQ enc ao W 0 spare held fuel 9 cs=some x):∃(s:gJ) (v:Value),s.wf∧cs=[v]∧tU W s.e v:=by
 obtain⟨s,rfl,_,hm⟩:=DataW.trod_string Tryz.underlying9 h;by_cases ag:lim<s.size
 ·exact⟨.b s,_,⟨ag,by unfold maxLen at hm;omega⟩,rfl,by simp only[gJ.e,a7],rfl,rfl⟩
 ·refine⟨.s s.data.toList,_,trivial,rfl,?_,rfl,rfl⟩;simp only[gJ.e,a7];refine⟨by simp,?_⟩;have:s.data.toList.length=s.size:=rfl;omega
theorem R6{α:Type}:∀{cs:List α},cs.length=2→∃a b,cs=[a,b]
 |[a,b],_=>⟨a,b,rfl⟩
theorem aec{α:Type}:∀{cs:List α},cs.length=4→∃a b c d,cs=[a,b,c,d]
 |[a,b,c,d],_=>⟨a,b,c,d,rfl⟩
theorem R7{α:Type}:∀{cs:List α},cs.length=5→∃a b c d e,cs=[a,b,c,d,e]
 |[a,b,c,d,e],_=>⟨a,b,c,d,e,rfl⟩
theorem ajb:∀(fuel:Nat) (cs:List Value) (x:DataW H×List MemPlace),iQ enc ao W 0 spare held fuel 24 cs=some x→∃t:cr,t.wf∧c0 W (qw W) [.int .i64 t.kind,.int .i64 t.num,t.name.e,t.args.e 4 cr.e] cs:=by
 intro fuel;induction fuel using Nat.strongRecOn with
 |ind fuel bM=>
  intro cs x h;obtain⟨xs,n,rfl,_,hlen,jM,aI⟩:=DataW.trod_struct Tryz.underlying24 h;rw[G8]at hlen;obtain⟨ij,bE,cc,c8,rfl⟩:=aec hlen;have Ej:xs.length=4:=jM;have f0:iQ enc ao W 0 spare held n 3 (([ij,bE,cc,c8].drop 0).take (ao.cellsOf 3))=xs[0]?:=aI 0 _ rfl;have f1:iQ enc ao W 0 spare held n 3 (([ij,bE,cc,c8].drop 1).take (ao.cellsOf 3))=xs[1]?:=aI 1 _ rfl;have f2:iQ enc ao W 0 spare held n 9 (([ij,bE,cc,c8].drop 2).take (ao.cellsOf 9))=xs[2]?:=aI 2 _ rfl;have f3:iQ enc ao W 0 spare held n 22 (([ij,bE,cc,c8].drop 3).take (ao.cellsOf 22))=xs[3]?:=aI 3 _ rfl;simp only[Aw,OD,WY,mR,ll]at f0 f1 f2 f3;rw[ca (by omega)]at f0 f1 f2 f3;obtain⟨k,v0,ff,r0⟩:=w2 f0;obtain⟨m,v1,aj,dC⟩:=w2 f1;obtain⟨s,v2,dq,aC,e6⟩:=UE f2;obtain⟨l,n9,v3,bg,kr⟩:=Cx cr.e cr.wf Tryz.underlying22 G8 (by omega) (fun n' cs' Gc aA cp=>by obtain⟨t,t1,t2⟩:=bM n' (by omega) cs' Gc cp;exact⟨t,t1,by rw[cr.e_eq];exact Ci t2⟩) f3
  simp only[pI,and_true]at ff aj aC bg;subst ff aj aC bg;cases l with
  |l a=>
   refine⟨.mk k m s a,?_,?_⟩
   ·simp only[cr.wf,cr.wfL_iff];exact⟨dq,n9⟩
   ·simp only[c0,cr.kind,cr.num,cr.name,cr.args];exact⟨_,_,rfl,⟨r0.1,r0.2.1⟩,_,_,rfl,⟨dC.1,dC.2.1⟩,_,_,rfl,⟨e6.1,e6.2.1⟩,_,_,rfl,⟨kr.1,kr.2.1⟩,rfl⟩
  |b p aX c=>
   refine⟨.big k m s p aX c,?_,?_⟩
   ·simp only[cr.wf];exact⟨dq,n9⟩
   ·simp only[c0,cr.kind,cr.num,cr.name,cr.args];exact⟨_,_,rfl,⟨r0.1,r0.2.1⟩,_,_,rfl,⟨dC.1,dC.2.1⟩,_,_,rfl,⟨e6.1,e6.2.1⟩,_,_,rfl,⟨kr.1,kr.2.1⟩,rfl⟩
theorem WC(h:iQ enc ao W 0 spare held fuel 111 cs=some x):∃b:eU,b.t.wf∧reads W b.e cs:=by obtain⟨xs,n,rfl,_,hlen,jM,aI⟩:=DataW.trod_struct Tryz.underlying111 h;rw[Oz]at hlen;obtain⟨ij,bE,cc,c8,h4,rfl⟩:=R7 hlen;have Ej:xs.length=2:=jM;have f0:iQ enc ao W 0 spare held n 3 (([ij,bE,cc,c8,h4].drop 0).take (ao.cellsOf 3))=xs[0]?:=aI 0 _ rfl;have f1:iQ enc ao W 0 spare held n 24 (([ij,bE,cc,c8,h4].drop 1).take (ao.cellsOf 24))=xs[1]?:=aI 1 _ rfl;simp only[Aw,G8,mR,ll]at f0 f1;rw[ca (by omega)]at f0 f1;obtain⟨k,v0,ff,r0⟩:=w2 f0;obtain⟨t,eD,dC⟩:=ajb _ _ _ f1;simp only[pI,and_true]at ff;subst ff;refine⟨⟨k,t⟩,eD,Ci ?_⟩;rw[c0];exact⟨_,_,rfl,⟨r0.1,r0.2.1⟩,dC⟩
theorem ad2(h:iQ enc ao W 0 spare held fuel 158 cs=some x):∃b:bG,True∧reads W b.e cs:=by obtain⟨xs,n,rfl,_,hlen,jM,aI⟩:=DataW.trod_struct Tryz.underlying158 h;rw[OB]at hlen;obtain⟨ij,bE,rfl⟩:=R6 hlen;have Ej:xs.length=2:=jM;have f0:iQ enc ao W 0 spare held n 3 (([ij,bE].drop 0).take (ao.cellsOf 3))=xs[0]?:=aI 0 _ rfl;have f1:iQ enc ao W 0 spare held n 3 (([ij,bE].drop 1).take (ao.cellsOf 3))=xs[1]?:=aI 1 _ rfl;simp only[Aw,mR,ll]at f0 f1;rw[ca (by omega)]at f0 f1;obtain⟨k,v0,ff,r0⟩:=w2 f0;obtain⟨m,v1,aj,dC⟩:=w2 f1;simp only[pI,and_true]at ff aj;subst ff aj;refine⟨⟨k,m⟩,trivial,Ci ?_⟩;simp only[c0];exact⟨_,_,rfl,⟨r0.1,r0.2.1⟩,_,_,rfl,⟨dC.1,dC.2.1⟩,rfl⟩
theorem aen(h:iQ enc ao W 0 spare held fuel 146 cs=some x):∃b:gY,b.s.wf∧reads W b.e cs:=by obtain⟨xs,n,rfl,_,hlen,jM,aI⟩:=DataW.trod_struct Tryz.underlying146 h;rw[OC]at hlen;obtain⟨ij,bE,rfl⟩:=R6 hlen;have Ej:xs.length=2:=jM;have f0:iQ enc ao W 0 spare held n 3 (([ij,bE].drop 0).take (ao.cellsOf 3))=xs[0]?:=aI 0 _ rfl;have f1:iQ enc ao W 0 spare held n 9 (([ij,bE].drop 1).take (ao.cellsOf 9))=xs[1]?:=aI 1 _ rfl;simp only[Aw,OD,mR,ll]at f0 f1;rw[ca (by omega)]at f0 f1;obtain⟨k,v0,ff,r0⟩:=w2 f0;obtain⟨s,v1,eD,aj,dC⟩:=UE f1;simp only[pI,and_true]at ff aj;subst ff aj;refine⟨⟨k,s⟩,eD,Ci ?_⟩;simp only[c0];exact⟨_,_,rfl,⟨r0.1,r0.2.1⟩,_,_,rfl,⟨dC.1,dC.2.1⟩,rfl⟩
theorem Mj(h:iQ enc ao W 0 spare held fuel 38 cs=some x):∃d:cZ eU,vN d∧∃v,cs=[v]∧tU W (jW d) v:=Cx eU.e (fun b=>b.t.wf) Tryz.underlying38 Oz (by omega) (fun _ _ _ _ cp=>WC cp) h
theorem WD(h:iQ enc ao W 0 spare held fuel 39 cs=some x):∃d:cZ (cZ eU),d.wf vN∧∃v,cs=[v]∧tU W (o2 d) v:=Cx jW vN Tryz.underlying39 OA (by omega) (fun _ _ _ _ cp=>by obtain⟨d,w,v,rfl,r⟩:=Mj cp;exact⟨d,w,r.reads⟩) h
theorem ad5(h:iQ enc ao W 0 spare held fuel 40 cs=some x):∃d:cZ bG,d.wf (fun _=>True)∧∃v,cs=[v]∧tU W (pk d) v:=Cx bG.e (fun _=>True) Tryz.underlying40 OB (by omega) (fun _ _ _ _ cp=>ad2 cp) h
theorem aeo(h:iQ enc ao W 0 spare held fuel 41 cs=some x):∃d:cZ gY,d.wf (fun b=>b.s.wf)∧∃v,cs=[v]∧tU W (ps d) v:=Cx gY.e (fun b=>b.s.wf) Tryz.underlying41 OC (by omega) (fun _ _ _ _ cp=>aen cp) h
theorem aiW(h:iQ enc ao W 0 spare held fuel 43 cs=some x):∃r:oo,r.wf∧reads W r.e cs:=by obtain⟨xs,n,rfl,_,hlen,jM,aI⟩:=DataW.trod_struct Tryz.underlying43 h;rw[WX]at hlen;obtain⟨ij,bE,cc,c8,h4,rfl⟩:=R7 hlen;have Ej:xs.length=5:=jM;have f0:iQ enc ao W 0 spare held n 3 (([ij,bE,cc,c8,h4].drop 0).take (ao.cellsOf 3))=xs[0]?:=aI 0 _ rfl;have f1:iQ enc ao W 0 spare held n 38 (([ij,bE,cc,c8,h4].drop 1).take (ao.cellsOf 38))=xs[1]?:=aI 1 _ rfl;have f2:iQ enc ao W 0 spare held n 39 (([ij,bE,cc,c8,h4].drop 2).take (ao.cellsOf 39))=xs[2]?:=aI 2 _ rfl;have f3:iQ enc ao W 0 spare held n 40 (([ij,bE,cc,c8,h4].drop 3).take (ao.cellsOf 40))=xs[3]?:=aI 3 _ rfl;have f4:iQ enc ao W 0 spare held n 41 (([ij,bE,cc,c8,h4].drop 4).take (ao.cellsOf 41))=xs[4]?:=aI 4 _ rfl;simp only[Aw,OA,WU,WV,WW,mR,ll]at f0 f1 f2 f3 f4;rw[ca (by omega)]at f0 f1 f2 f3 f4;obtain⟨k,v0,ff,r0⟩:=w2 f0;obtain⟨d1,eD,v1,aj,dC⟩:=Mj f1;obtain⟨d2,dq,v2,aC,e6⟩:=WD f2;obtain⟨d3,n9,v3,bg,kr⟩:=ad5 f3;obtain⟨d4,mc,v4,da,Tl⟩:=aeo f4;simp only[pI,and_true]at ff aj aC bg da;subst ff aj aC bg da;refine⟨⟨k,d1,d2,d3,d4⟩,⟨eD,dq,fun p n c e=>by simp only at e;subst e;exact n9,mc⟩,Ci ?_⟩;simp only[c0];exact⟨_,_,rfl,⟨r0.1,r0.2.1⟩,_,_,rfl,⟨dC.1,dC.2.1⟩,_,_,rfl,⟨e6.1,e6.2.1⟩,_,_,rfl,⟨kr.1,kr.2.1⟩,_,_,rfl,⟨Tl.1,Tl.2.1⟩,rfl⟩
end
end Go.Proofs.YtahlgcidhnjlbaaGreat
namespace Go.Proofs.YtahlgcidhnjlbaaGreat
open Go Go.Pv Go.ChangeShapes Go.WideShapes Go.ChangeAt Go.RowKit
theorem aie:ownKnob ao.godebug=none:=by kernel_rfl
theorem aid:laidOutB ao=true:=by kernel_rfl
theorem WO{f:FuncId}{fn:Func}(p3:ao.funcs[f]? =some fn)(XH:∀args w,(callFunc f args).run ao w= .ok (.enter f args) w){w:World}{ν:bc}{args:List ah}{ba:Array Value}(h:bI ao f args (.bool true))(aO:∀k j b,¬ν.tr k j b)(bd:∀b o,ν.A b o→b<w.heap.size)(ae:∀k,ν.bx k=none)(av:∀k,ν.ow k=none)(aJ:cH w ν args ba.toList):
  Calls ao f ba w fun e w'=>e= .returned (.bool true)∧Below w.heap.size w w':=by
 have a1:Pv.Good (fp ν ⟨[],[]⟩) w ν [] []:=⟨bd,fun k cs ab=>by simp[Pv.look]at ab,fun k bH bl J=>by simp[Pv.look]at J,fun g o ab=>by simp[Pv.look]at ab,fun g e8 n n' v v' bl J=>by simp[Pv.look]at J,fun g k n v bl J=>by simp[Pv.look]at J,fun k=>.inl (ae k),fun _ _ k j=>aO k j _⟩;rcases h w ν ba a1 (fun k=>⟨fun _=>ae k,fun _=>av k,aO k⟩) aJ with⟨_,aw⟩|⟨v,w',aw,_⟩
 ·refine aw.mono ?_;rintro e w' ⟨v,r,ai,bn,rfl,⟨rfl,rfl⟩,lX,_,_,_,lv⟩;simp only[a7]at lX;subst lX;refine⟨rfl,lv.os,lv.tape,lv.output,lv.size,fun k ab=>lv.block k ab ?_⟩;simp[fp,Pv.look]
 ·rw[XH]at aw;cases aw
theorem XK{W:World}{b o:Nat}(h:(qw W).A b o):b<W.heap.size:=by
 obtain⟨u,hu⟩:=h;rcases Nat.lt_or_ge b W.heap.size with h|h
 ·exact h
 ·simp[World.cell?,Array.getElem?_eq_none h]at hu
theorem aia{W:World}{cm:List ah}{us:Array Value}(h:reads W (.agg cm) us.toList):a7 W (qw W) (.agg cm) (.agg us):=by
 obtain⟨v,J,U,_⟩:=h;have al:=U;simp only[a7]at al;obtain⟨ws,rfl,_⟩:=al;have:ws=us:=by
  have:ws.toList=us.toList:=by simpa[oU]using J
  exact Array.toList_inj.1 this
 rw[←this];exact U
theorem aiV{H:Type}{enc:fT×Value→H}{W:World}{spare:Nat→Bool}{held:Bool}{us:Array Value}{x:DataW H×List MemPlace}{fuel:Nat}(h:iQ enc ao W 0 spare held fuel 43 us.toList=some x):∃r:oo,r.wf∧a7 W (qw W) r.e (.agg us):=by obtain⟨r,aJ,acT⟩:=aiW h;exact⟨r,aJ,aia acT⟩
end Go.Proofs.YtahlgcidhnjlbaaGreat
