/- Contracts: l08Ways, l08Values. -/
import Derived.Test.YtohaalphocaebaaGreatProg
import Derived.Test.YtohaalphocaebaaGreatP4
set_option linter.all false
set_option maxHeartbeats 4000000
set_option maxRecDepth 4000
open Bool renaming and_eq_true->ct,eq_iff_iff->pN,false_eq_true->gF,not_eq_true'->qo,or_eq_true->ls
open Go.IntKind renaming i64->mj
open Go.IntWalk renaming i64_in->ml
open Go.Op renaming bytesLess->ht
open Go.Proofs.Tryz renaming f9->kL,prog->ay
open Int renaming natCast_nonneg->rh
open Int.ofNat renaming inj->arI
open List renaming all_eq_true->gH,cons_append->bV,drop_eq_getElem_cons->k4,getElem?_eq_getElem->cr,getElem?_eq_none->qp,getElem?_eq_some_iff->fp,getElem_of_mem->od,length_append->oW,length_cons->oe,length_drop->sB,map_cons->eO,map_nil->hn,mem_append->h9,mem_cons->fI,mem_cons_of_mem->og,mem_filter->iA,mem_map->ia,mem_of_getElem?->eZ,mem_singleton->kg,pairwise_cons->mS,pairwise_iff_getElem->oX,take->oY,take_length->oZ,take_of_length_le->hv
open List.Nodup renaming length_le_of_subset->Ef
open Nat renaming add_mul->o0,le_refl->eC,le_trans->gZ,mul_le_mul_right->qq,strongRecOn->pO
open Option renaming bind_eq_some_iff->iK,bind_some->hU,getD_none->jq,getD_some->hV,isSome_none->iL,isSome_some->kM,map_eq_some_iff->gr,map_some->nE
open Option.some renaming inj->gu,injEq->dy
open _root_ renaming False->eN,UInt8->c4,beq_iff_eq->dM,decide_eq_false->lT,decide_eq_false_iff_not->hx,decide_eq_true->jS,decide_eq_true_eq->eF
namespace Go.Proofs.YtohaalphocaebaaGreat
section
open Go Go.Pv
def EO:C:=(aa [c3 3 1,da 4 dm] (.seq (aa [aH 7 0 1 3,ax 8 1 7,aQ 9 .eql 8 1] (aV 9 (aa [I 11 0,aH 12 1 1 3,ax 13 1 12,cg 14 161 11 13,I 10 14,cu 15 0 10,cu 16 1 10,da 5 dm,bC 4 5 15,I 6 16] (aa [I 17 6] (aV 17 (aa [a8 18 4 5,bC 4 4 18] .ret) .skip))) .skip)) (.seq (aa [aH 19 0 1 3,ax 20 1 19,aQ 21 .eql 20 4] (aV 21 (.seq (.drawn true 36 [I 22 0,aH 23 3 1 3,ax 24 1 23,gM 25 4 24 0,a8 26 4 25,cg 27 75 22 26,I 28 0,aH 29 3 1 3,ax 30 1 29,gM 31 4 30 1,a8 32 4 31,cg 33 75 28 32,cg 34 114 27 33,bC 4 4 34]) .ret) .skip)) (aa [a8 35 4 3,bC 4 4 35] .ret))))
@[simp] def G6:List bY:=[.cell 4 true 4]
def PZ:C:=(aa [c3 1 0,bu 2 false] (aa [a8 3 4 1,c1 4 162 [.t 3,(dI 5000)],aQ 5 .leq 4 5000,I 6 5,ar 6 true (a8 7 4 1),ar 6 true (cV 8 163 7),dv 9 6 8,I 2 9] .ret))
@[simp] def akA:List bY:=[.tmp 2]
def P7:C:=(aa [c3 1 0,bu 2 false] (aa [a8 3 4 1,c1 4 162 [.t 3,(dI 5000)],aQ 5 .leq 4 5000,I 2 5] .ret))
@[simp] def V8:List bY:=[.tmp 2]
def P2:C:=(aa [bu 6 false] (aa [I 7 0,I 8 1,bF 9 .geq 7 8,I 10 9,bU 10 true 11 0,bU 10 true 12 2,ar 10 true (bF 13 .leq 11 12),dv 14 10 13,I 6 14] .ret))
@[simp] def V5:List bY:=[.tmp 6]
def IG:C:=(aa [bu 2 false] (.seq (aa [I 9 0,cV 10 164 9,cB 11 10] (aV 11 (aa [bu 2 false] .ret) .skip)) (.seq (aa [I 12 0,cD 13 12,b7 14 0] (fj 15 14 13 (.seq (.block 1 (aa [cJ 16 5 12 14,a8 17 5 16,da 4 kn,bC 5 4 17] (.seq (aa [iI 18 1 4 4,aH 19 0 1 18,ax 20 1 19,aQ 21 .eql 20 1,I 22 21,ar 22 true (iI 23 1 4 4),ar 22 true (aH 24 1 1 23),ar 22 true (ax 25 1 24),ar 22 true (aH 26 0 1 4),ar 22 true (ax 27 1 26),ar 22 true (bF 28 .geq 25 27),dv 29 22 28] (aV 29 (aa [bu 2 false] .ret) .skip)) (aa [iI 30 1 4 4,a8 31 4 30,c1 32 165 [.t 31,(.c (.slice 1 .nil []))],cD 33 32,b7 34 0] (.block 2 (.loop (aa [bF 35 .lss 34 33] (.seq (aV 35 .skip (.exit 2)) (.seq (.block 3 (aa [cJ 36 1 32 34,ax 37 1 36,I 6 37] (aa [I 39 0,I 40 6,cg 41 161 39 40,I 38 41,cu 42 0 38,cu 43 1 38,da 7 dm,bC 4 7 42,I 8 43] (aa [I 44 8] (aV 44 (aa [bu 2 false] .ret) .skip))))) (.region [aQ 45 .add 34 1,I 34 45])))))))))) (.region [aQ 46 .add 14 1,I 14 46])))) (aa [bu 2 true] .ret))))
@[simp] def Mg:List bY:=[.tmp 2]
def Qg:C:=(aa [da 4 dm,bu 5 false] (.seq (aa [I 8 0,cD 9 8,b7 10 0] (fj 11 10 9 (.seq (.block 1 (aa [cJ 12 5 8 10,a8 13 5 12,da 7 kn,bC 5 7 13] (aa [aH 14 0 1 7,ax 15 1 14,I 16 1,bF 17 .eql 15 16] (aV 17 (aa [iI 18 1 4 7,a8 19 4 18,bC 4 4 19,bu 5 true] .ret) .skip)))) (.region [aQ 20 .add 10 1,I 10 20])))) (aa [gE 21 dm [],bC 4 4 21,bu 5 false] .ret)))
@[simp] def Ml:List bY:=[.cell 4 true 4,.tmp 5]
def P5:C:=(aa [c3 2 0,b7 4 0] (aa [b7 5 1] (.seq (aa [aH 8 3 1 2,ax 9 1 8,cD 10 9,b7 11 0] (fj 12 11 10 (.seq (.block 1 (aa [cJ 13 4 9 11,a8 14 4 13,da 7 dm,bC 4 7 14] (.seq (aa [I 15 5,I 16 1,bF 17 .gtr 15 16] (aV 17 (aa [I 18 5,I 4 18] .ret) .skip)) (.region [I 19 5,a8 20 4 7,I 21 1,I 22 5,bF 23 .sub 21 22,cg 24 162 20 23,bF 25 .add 19 24,I 5 25])))) (.region [aQ 26 .add 11 1,I 11 26])))) (aa [I 27 5,I 4 27] .ret))))
@[simp] def Mj:List bY:=[.tmp 4]
def lW:C:=(aa [c3 1 0,bu 2 false] (.seq (aa [aH 3 0 1 1,ax 4 1 3,aQ 5 .neq 4 1,I 6 5,ar 6 true (aH 7 0 1 1),ar 6 true (ax 8 1 7),ar 6 true (aQ 9 .neq 8 3),dv 10 6 9,I 11 10,ar 11 true (aH 12 1 1 1),ar 11 true (ax 13 1 12),ar 11 true (aQ 14 .neq 13 0),dv 15 11 14,I 16 15,ar 16 false (aH 17 0 1 1),ar 16 false (ax 18 1 17),ar 16 false (aQ 19 .neq 18 2),bU 16 false 20 19,ar 20 true (aH 21 2 1 1),ar 20 true (ax 22 1 21),w2 20 true 23 (.bin .neq false (.t 22) (.c (.str []))),ar 16 false (dv 24 20 23),cW 25 16 24,I 26 25,ar 26 false (aH 27 0 1 1),ar 26 false (ax 28 1 27),ar 26 false (aQ 29 .neq 28 4),bU 26 false 30 29,ar 30 true (aH 31 3 1 1),ar 30 true (ax 32 1 31),ar 30 true (cD 33 32),ar 30 true (aQ 34 .gtr 33 0),ar 26 false (dv 35 30 34),cW 36 26 35] (aV 36 (aa [bu 2 false] .ret) .skip)) (.seq (aa [aH 37 0 1 1,ax 38 1 37] (.block 0 (aa [aQ 40 .eql 38 0,I 39 40] (aV 39 (aa [bu 2 true] .ret) (aa [aQ 42 .eql 38 1,I 41 42] (aV 41 (aa [aH 43 1 1 1,ax 44 1 43,c1 45 141 [.t 44,(dI 0),(dI 100000)],I 2 45] .ret) (aa [aQ 47 .eql 38 2,I 46 47] (aV 46 (aa [aH 48 2 1 1,ax 49 1 48,cV 50 216 49,I 2 50] .ret) (aa [aQ 52 .eql 38 3,I 51 52] (aV 51 (aa [aH 53 1 1 1,ax 54 1 53,c1 55 141 [.t 54,(dI (-1000000000)),(dI 1000000000)],I 2 55] .ret) (aa [aQ 57 .eql 38 4,I 56 57] (aV 56 (aa [aH 58 3 1 1,ax 59 1 58,cD 60 59,aQ 61 .eql 60 2,I 62 61,ar 62 true (aH 63 3 1 1),ar 62 true (ax 64 1 63),ar 62 true (gM 65 4 64 0),ar 62 true (a8 66 4 65),ar 62 true (cV 67 163 66),dv 68 62 67,I 69 68,ar 69 true (aH 70 3 1 1),ar 69 true (ax 71 1 70),ar 69 true (gM 72 4 71 1),ar 69 true (a8 73 4 72),ar 69 true (cV 74 163 73),dv 75 69 74,I 2 75] .ret) .skip)))))))))))) (aa [bu 2 false] .ret))))
@[simp] def lO:List bY:=[.tmp 2]
def Qi:C:=(aa [bu 2 false] (.seq (aa [I 5 0,cD 6 5,b7 7 0] (fj 8 7 6 (.seq (.block 1 (aa [I 9 7,cJ 10 5 5 7,a8 11 5 10,da 4 kn,I 3 9,bC 5 4 11] (.seq (.drawn true 41 [I 12 3,aQ 13 .gtr 12 0,I 14 13,bU 14 true 15 0,bU 14 true 16 3,ar 14 true (aQ 17 .sub 16 1),ar 14 true (cJ 18 5 15 17),ar 14 true (aH 19 0 1 18),ar 14 true (ax 20 1 19),ar 14 true (aH 21 0 1 4),ar 14 true (ax 22 1 21),ar 14 true (bF 23 .geq 20 22),dv 24 14 23,I 25 24,ar 25 false (aH 26 0 1 4),ar 25 false (ax 27 1 26),ar 25 false (c1 28 141 [.t 27,(dI 0),(dI 100000)]),ar 25 false (cB 29 28),cW 30 25 29,I 31 30,ar 31 false (iI 32 1 4 4),ar 31 false (a8 33 4 32),ar 31 false (cV 34 76 33),ar 31 false (cB 35 34),cW 36 31 35]) (aV 36 (aa [bu 2 false] .ret) .skip)))) (.region [aQ 37 .add 7 1,I 7 37])))) (aa [I 38 0,cD 39 38,aQ 40 .leq 39 400,I 2 40] .ret)))
@[simp] def Mn:List bY:=[.tmp 2]
def y4:C:=(aa [c3 2 0,ey 4 1] (.seq (aa [aH 7 0 1 2,ax 8 1 7,aQ 9 .eql 8 1] (aV 9 (aa [I 10 1,aH 11 1 1 2,ax 12 1 11,cg 13 230 10 12,I 4 13] .ret) .skip)) (.seq (aa [aH 14 3 1 2,ax 15 1 14,cD 16 15,b7 17 0] (fj 18 17 16 (.seq (.block 1 (aa [cJ 19 4 15 17,a8 20 4 19,da 6 dm,bC 4 6 20] (.region [a8 21 4 6,I 22 1,cg 23 165 21 22,I 1 23]))) (.region [aQ 24 .add 17 1,I 17 24])))) (aa [I 25 1,I 4 25] .ret))))
@[simp] def AI:List bY:=[.tmp 4]
def Qf:C:=(aa [c3 3 1,da 4 dm,bu 5 false] (aa [I 7 0,a8 8 4 3,cg 9 75 7 8,da 6 dm,bC 4 6 9] (.seq (.drawn true 13 [a8 10 4 6,a8 11 4 6,cV 12 92 11,bC 4 4 10,I 5 12]) .ret)))
@[simp] def Wf:List bY:=[.cell 4 true 4,.tmp 5]
def sM:C:=(aa [c3 4 1,c3 5 2,ey 6 5,bu 7 false] (aa [I 12 0,a8 13 4 4,cg 14 236 12 13,bC 4 4 14] (aa [I 15 0,a8 16 4 5,cg 17 236 15 16,bC 4 5 17] (.seq (aa [aH 18 0 1 4,ax 19 1 18,aQ 20 .eql 19 1,I 21 20,ar 21 true (aH 22 0 1 5),ar 21 true (ax 23 1 22),ar 21 true (aQ 24 .eql 23 1),dv 25 21 24,I 26 25,ar 26 true (aH 27 1 1 4),ar 26 true (ax 28 1 27),ar 26 true (aH 29 1 1 5),ar 26 true (ax 30 1 29),ar 26 true (bF 31 .lss 28 30),dv 32 26 31] (aV 32 (aa [I 33 0,aH 34 1 1 5,ax 35 1 34,a8 36 4 4,c1 37 237 [.t 33,.t 35,.t 36],cu 38 0 37,cu 39 1 37,I 6 38,I 7 39] .ret) .skip)) (.seq (aa [aH 40 0 1 4,ax 41 1 40,aQ 42 .eql 41 1,I 43 42,ar 43 true (aH 44 0 1 5),ar 43 true (ax 45 1 44),ar 43 true (aQ 46 .eql 45 1),dv 47 43 46,I 48 47,ar 48 true (aH 49 1 1 4),ar 48 true (ax 50 1 49),ar 48 true (aH 51 1 1 5),ar 48 true (ax 52 1 51),ar 48 true (bF 53 .eql 50 52),dv 54 48 53] (aV 54 (aa [I 55 0,I 6 55,bu 7 true] .ret) .skip)) (.seq (aa [aH 56 0 1 4,ax 57 1 56,aQ 58 .eql 57 1] (aV 58 (aa [I 59 0,aH 60 1 1 4,ax 61 1 60,a8 62 4 5,c1 63 237 [.t 59,.t 61,.t 62],cu 64 0 63,cu 65 1 63,I 6 64,I 7 65] .ret) .skip)) (.seq (aa [aH 66 0 1 5,ax 67 1 66,aQ 68 .eql 67 1] (aV 68 (aa [I 69 0,aH 70 1 1 5,ax 71 1 70,a8 72 4 4,c1 73 237 [.t 69,.t 71,.t 72],cu 74 0 73,cu 75 1 73,I 6 74,I 7 75] .ret) .skip)) (.seq (aa [aH 76 0 1 4,ax 77 1 76,aH 78 0 1 5,ax 79 1 78,bF 80 .neq 77 79,I 81 80,ar 81 false (aH 82 1 1 4),ar 81 false (ax 83 1 82),ar 81 false (aH 84 1 1 5),ar 81 false (ax 85 1 84),ar 81 false (bF 86 .neq 83 85),cW 87 81 86,I 88 87,ar 88 false (aH 89 2 1 4),ar 88 false (ax 90 1 89),ar 88 false (aH 91 2 1 5),ar 88 false (ax 92 1 91),ar 88 false (bF 93 .neq 90 92),cW 94 88 93] (aV 94 (aa [ey 6 5,bu 7 false] .ret) .skip)) (.seq (aa [aH 95 3 1 4,ax 96 1 95,cD 97 96,b7 98 0] (fj 99 98 97 (.seq (.block 1 (aa [I 100 98,cJ 101 4 96 98,a8 102 4 101,da 9 dm,I 8 100,bC 4 9 102] (.seq (.drawn true 119 [I 104 0,a8 105 4 9,aH 106 3 1 5,ax 107 1 106,I 108 8,cJ 109 4 107 108,a8 110 4 109,c1 111 176 [.t 104,.t 105,.t 110],I 103 111,cu 112 0 103,cu 113 1 103,I 10 112,I 11 113]) (.seq (aa [I 114 11,cB 115 114] (aV 115 (aa [ey 6 5,bu 7 false] .ret) .skip)) (.region [I 116 10,I 0 116]))))) (.region [aQ 117 .add 98 1,I 98 117])))) (aa [I 118 0,I 6 118,bu 7 true] .ret))))))))))
@[simp] def sf:List bY:=[.tmp 6,.tmp 7]
def PT:C:=(aa [bu 2 false] (.seq (aa [b7 3 0] (.block 0 (.loop (.seq (aa [I 5 3,I 6 0,bQ 7 (.slen (.t 6)),bF 8 .lss 5 7] (aV 8 .skip (.exit 0))) (.seq (.block 1 (aa [I 11 0,I 12 3,bQ 13 (.sidx (.t 11) (.t 12)),bQ 14 (.bin .geq false (.t 13) (.c (.int .u8 97))),I 15 14,bU 15 true 16 0,bU 15 true 17 3,ar 15 true (bQ 18 (.sidx (.t 16) (.t 17))),ar 15 true (bQ 19 (.bin .leq false (.t 18) (.c (.int .u8 122)))),dv 20 15 19,I 4 20] (aa [I 21 4,cB 22 21,I 23 22,bU 23 true 24 3,ar 23 true (aQ 25 .eql 24 0),bU 23 true 26 25,bU 26 false 27 0,bU 26 false 28 3,ar 26 false (bQ 29 (.sidx (.t 27) (.t 28))),ar 26 false (bQ 30 (.bin .neq false (.t 29) (.c (.int .u8 45)))),bU 26 false 31 30,bU 31 true 32 0,bU 31 true 33 3,ar 31 true (bQ 34 (.sidx (.t 32) (.t 33))),ar 31 true (bQ 35 (.conv .i64 (.t 34))),ar 31 true (c1 36 141 [.t 35,(dI 48),(dI 57)]),ar 31 true (cB 37 36),ar 26 false (dv 38 31 37),ar 23 true (cW 39 26 38),dv 40 23 39] (aV 40 (aa [bu 2 false] .ret) .skip)))) (.region [I 9 3,aQ 10 .add 9 1,I 3 10])))))) (aa [I 41 0,bQ 42 (.slen (.t 41)),c1 43 141 [.t 42,(dI 1),(dI 12)],I 2 43] .ret)))
@[simp] def AF:List bY:=[.tmp 2]
def Qk:C:=(aa [ey 4 5,bu 5 false] (aa [ec 10 4 32 [],I 6 10] (aa [ec 11 4 32 [],I 7 11] (.seq (aa [I 12 1,cD 13 12,b7 14 0] (fj 15 14 13 (.seq (.block 1 (aa [cJ 16 5 12 14,a8 17 5 16,da 9 kn,bC 5 9 17] (aa [I 18 6,aH 19 0 1 9,ax 20 1 19,cV 21 91 20,ec 22 4 32 [.t 21],gY 23 4 32 18 22,I 6 23] (.region [I 24 7,iI 25 1 4 9,a8 26 4 25,ec 27 4 32 [.t 26],gY 28 4 32 24 27,I 7 28])))) (.region [aQ 29 .add 14 1,I 14 29])))) (aa [I 30 0,I 31 6,I 32 7,c1 33 268 [.t 30,.t 31,.t 32],cu 34 0 33,cu 35 1 33,I 4 34,I 5 35] .ret)))))
@[simp] def Wg:List bY:=[.tmp 4,.tmp 5]
def P8:C:=(aa [ey 4 1] (aa [I 7 0,cD 8 7,I 5 8] (.seq (.block 0 (.loop (.seq (aa [I 9 5,aQ 10 .gtr 9 0,I 11 10,bU 11 true 12 0,bU 11 true 13 5,ar 11 true (aQ 14 .sub 13 1),ar 11 true (cJ 15 1 12 14),ar 11 true (ax 16 1 15),bU 11 true 17 1,ar 11 true (bF 18 .geq 16 17),dv 19 11 18] (aV 19 .skip (.exit 0))) (.block 1 (.region [I 20 5,aQ 21 .sub 20 1,I 5 21]))))) (.seq (aa [I 22 5,I 23 0,cD 24 23,bF 25 .lss 22 24,I 26 25,bU 26 true 27 0,bU 26 true 28 5,ar 26 true (cJ 29 1 27 28),ar 26 true (ax 30 1 29),bU 26 true 31 1,ar 26 true (bF 32 .eql 30 31),dv 33 26 32] (aV 33 (aa [I 34 0,I 4 34] .ret) .skip)) (aa [ec 35 1 3 [],I 36 0,I 37 5,bQ 38 (.lsl 1 (.t 36) none (some (.t 37))),gY 39 1 3 35 38,I 6 39] (aa [I 40 6,I 41 1,ec 42 1 3 [.t 41],gY 43 1 3 40 42,I 6 43] (aa [I 44 6,I 45 0,I 46 5,bQ 47 (.lsl 1 (.t 45) (some (.t 46)) none),gY 48 1 3 44 47,I 4 48] .ret)))))))
@[simp] def yo:List bY:=[.tmp 4]
def Qh:C:=(aa [c3 3 1,ey 4 5] (aa [I 7 0,cD 8 7,I 5 8] (.seq (.block 0 (.loop (.seq (.seq (.drawn true 38 [I 9 5,aQ 10 .gtr 9 0,I 11 10,bU 11 true 12 0,bU 11 true 13 5,ar 11 true (aQ 14 .sub 13 1),ar 11 true (cJ 15 5 12 14),ar 11 true (aH 16 0 1 15),ar 11 true (ax 17 1 16),ar 11 true (aH 18 0 1 3),ar 11 true (ax 19 1 18),ar 11 true (bF 20 .gtr 17 19),dv 21 11 20]) (aV 21 .skip (.exit 0))) (.block 1 (.region [I 22 5,aQ 23 .sub 22 1,I 5 23]))))) (aa [ec 24 5 61 [],I 25 0,I 26 5,bQ 27 (.lsl 5 (.t 25) none (some (.t 26))),gY 28 5 61 24 27,I 6 28] (aa [I 29 6,a8 30 5 3,ec 31 5 61 [.t 30],gY 32 5 61 29 31,I 6 32] (aa [I 33 6,I 34 0,I 35 5,bQ 36 (.lsl 5 (.t 34) (some (.t 35)) none),gY 37 5 61 33 36,I 4 37] .ret))))))
@[simp] def Mm:List bY:=[.tmp 4]
def EP:C:=(aa [c3 3 1,da 4 dm] (.seq (aa [aH 7 0 1 3,ax 8 1 7,aQ 9 .eql 8 1] (aV 9 (aa [I 11 0,aH 12 1 1 3,ax 13 1 12,cg 14 161 11 13,I 10 14,cu 15 0 10,cu 16 1 10,da 5 dm,bC 4 5 15,I 6 16] (aa [I 17 6] (aV 17 (aa [a8 18 4 5,bC 4 4 18] .ret) .skip))) .skip)) (aa [a8 19 4 3,bC 4 4 19] .ret)))
@[simp] def G7:List bY:=[.cell 4 true 4]
def BA:C:=(aa [c3 5 2,ey 6 5,bu 7 false] (aa [I 15 0,a8 16 4 5,cg 17 166 15 16,I 14 17,cu 18 0 14,cu 19 1 14,da 8 dm,bC 4 8 18,I 9 19] (.seq (aa [I 20 9,cB 21 20,I 22 21,bU 22 false 23 1,ar 22 false (a8 24 4 8),ar 22 false (cg 25 270 23 24),cW 26 22 25,I 27 26,bU 27 false 28 0,ar 27 false (cD 29 28),ar 27 false (aQ 30 .geq 29 400),cW 31 27 30] (aV 31 (aa [ey 6 5,bu 7 false] .ret) .skip)) (aa [ec 32 5 61 [],I 10 32] (.seq (aa [I 33 0,cD 34 33,b7 35 0] (fj 36 35 34 (.seq (.block 1 (aa [cJ 37 5 33 35,a8 38 5 37,da 12 kn,bC 5 12 38] (aa [iI 39 1 4 12,a8 40 4 39,I 41 1,a8 42 4 8,c1 43 271 [.t 40,.t 41,.t 42],da 13 dm,bC 4 13 43] (.seq (aa [a8 44 4 13,cV 45 92 44,cB 46 45] (aV 46 (aa [ey 6 5,bu 7 false] .ret) .skip)) (.region [I 47 10,aH 48 0 1 12,ax 49 1 48,a8 50 4 13,gE 51 kn [(0,1,(.t 49)),(1,4,(.t 50))],ec 52 5 61 [.t 51],gY 53 5 61 47 52,I 10 53]))))) (.region [aQ 54 .add 35 1,I 35 54])))) (aa [I 55 10,I 56 1,a8 57 4 8,gE 58 kn [(0,1,(.t 56)),(1,4,(.t 57))],cg 59 234 55 58,I 6 59,bu 7 true] .ret))))))
@[simp] def AJ:List bY:=[.tmp 6,.tmp 7]
def Qj:C:=(aa [ey 6 5,bu 7 false] (.seq (aa [I 12 1,cD 13 12,b7 14 0] (fj 15 14 13 (.seq (.block 1 (aa [I 16 14,cJ 17 4 12 14,a8 18 4 17,da 9 dm,I 8 16,bC 4 9 18] (.seq (.drawn true 34 [I 20 0,a8 21 4 9,I 22 2,I 23 8,cJ 24 4 22 23,a8 25 4 24,c1 26 176 [.t 20,.t 21,.t 25],I 19 26,cu 27 0 19,cu 28 1 19,I 10 27,I 11 28]) (.seq (aa [I 29 11,cB 30 29] (aV 30 (aa [ey 6 5,bu 7 false] .ret) .skip)) (.region [I 31 10,I 0 31]))))) (.region [aQ 32 .add 14 1,I 14 32])))) (aa [I 33 0,I 6 33,bu 7 true] .ret)))
@[simp] def Mo:List bY:=[.tmp 6,.tmp 7]
def Qa:C:=(aa [c3 3 1,bu 4 false] (.seq (aa [aH 7 3 1 3,ax 8 1 7,cD 9 8,b7 10 0] (fj 11 10 9 (.seq (.block 1 (aa [cJ 12 4 8 10,a8 13 4 12,da 6 dm,bC 4 6 13] (aa [I 14 0,a8 15 4 6,cg 16 270 14 15] (aV 16 (aa [bu 4 true] .ret) .skip)))) (.region [aQ 17 .add 10 1,I 10 17])))) (aa [aH 18 0 1 3,ax 19 1 18,aQ 20 .eql 19 1,I 21 20,ar 21 true (aH 22 1 1 3),ar 21 true (ax 23 1 22),bU 21 true 24 0,ar 21 true (bF 25 .eql 23 24),dv 26 21 25,I 4 26] .ret)))
@[simp] def Mk:List bY:=[.tmp 4]
def EN:C:=(aa [c3 3 0,c3 5 2,da 6 dm] (.seq (aa [aH 7 0 1 3,ax 8 1 7,aQ 9 .eql 8 1,I 10 9,ar 10 true (aH 11 1 1 3),ar 10 true (ax 12 1 11),bU 10 true 13 1,ar 10 true (bF 14 .eql 12 13),dv 15 10 14] (aV 15 (aa [a8 16 4 5,bC 4 6 16] .ret) .skip)) (.seq (aa [aH 17 0 1 3,ax 18 1 17,aQ 19 .eql 18 4] (aV 19 (.seq (.drawn true 36 [aH 20 3 1 3,ax 21 1 20,gM 22 4 21 0,a8 23 4 22,I 24 1,a8 25 4 5,c1 26 271 [.t 23,.t 24,.t 25],aH 27 3 1 3,ax 28 1 27,gM 29 4 28 1,a8 30 4 29,I 31 1,a8 32 4 5,c1 33 271 [.t 30,.t 31,.t 32],cg 34 114 26 33,bC 4 6 34]) .ret) .skip)) (aa [a8 35 4 3,bC 4 6 35] .ret))))
@[simp] def G5:List bY:=[.cell 6 true 4]
def k0:List (Nat×dA):=[
 (3,⟨1,8,.int .i64,.int .i64 0⟩),
 (5,⟨1,1,.int .u8,.int .u8 0⟩),
 (9,⟨1,16,.str,.str []⟩),
 (23,⟨1,24,.slice 61,.slice 5 .nil []⟩),
 (30,⟨1,24,.slice 32,.slice 4 .nil []⟩),
 (32,⟨4,56,.struct [(0,3),(1,3),(2,9),(3,30)],.agg [.int .i64 0,.int .i64 0,.str [],.slice 4 .nil []]⟩),
 (61,⟨5,64,.struct [(0,3),(1,32)],.agg [.int .i64 0,.int .i64 0,.int .i64 0,.str [],.slice 4 .nil []]⟩),
 (112,⟨1,24,.slice 3,.slice 1 .nil []⟩)]
theorem eD:fN ay k0=true:=by kernel_rfl
theorem LO:ca k0 EO G6 2 Tryz.f75=true:=by kernel_rfl
theorem Ji:ay.funcs[(75:Nat)]? =some Tryz.f75:=Tryz.func75
theorem ajd:ca k0 PZ akA 1 Tryz.f76=true:=by kernel_rfl
theorem acm:ay.funcs[(76:Nat)]? =some Tryz.f76:=Tryz.func76
theorem ajl:ca k0 P7 V8 1 Tryz.f92=true:=by kernel_rfl
theorem acv:ay.funcs[(92:Nat)]? =some Tryz.f92:=Tryz.func92
theorem ajg:ca k0 P2 V5 3 Tryz.f141=true:=by kernel_rfl
theorem acp:ay.funcs[(141:Nat)]? =some Tryz.f141:=Tryz.func141
theorem U3:ca k0 IG Mg 1 Tryz.f142=true:=by kernel_rfl
theorem Rg:ay.funcs[(142:Nat)]? =some Tryz.f142:=Tryz.func142
theorem aju:ca k0 Qg Ml 2 Tryz.f161=true:=by kernel_rfl
theorem acE:ay.funcs[(161:Nat)]? =some Tryz.f161:=Tryz.func161
theorem ajj:ca k0 P5 Mj 2 Tryz.f162=true:=by kernel_rfl
theorem acs:ay.funcs[(162:Nat)]? =some Tryz.f162:=Tryz.func162
theorem mP:ca k0 lW lO 1 Tryz.f163=true:=by kernel_rfl
theorem mA:ay.funcs[(163:Nat)]? =some Tryz.f163:=Tryz.func163
theorem ajw:ca k0 Qi Mn 1 Tryz.f164=true:=by kernel_rfl
theorem acG:ay.funcs[(164:Nat)]? =some Tryz.f164:=Tryz.func164
theorem Di:ca k0 y4 AI 2 Tryz.f165=true:=by kernel_rfl
theorem BK:ay.funcs[(165:Nat)]? =some Tryz.f165:=Tryz.func165
theorem ajt:ca k0 Qf Wf 2 Tryz.f166=true:=by kernel_rfl
theorem acD:ay.funcs[(166:Nat)]? =some Tryz.f166:=Tryz.func166
theorem uS:ca k0 sM sf 3 Tryz.f176=true:=by kernel_rfl
theorem uh:ay.funcs[(176:Nat)]? =some Tryz.f176:=Tryz.func176
theorem ai7:ca k0 PT AF 1 Tryz.f216=true:=by kernel_rfl
theorem acf:ay.funcs[(216:Nat)]? =some Tryz.f216:=Tryz.func216
theorem ajy:ca k0 Qk Wg 2 Tryz.f219=true:=by kernel_rfl
theorem acI:ay.funcs[(219:Nat)]? =some Tryz.f219:=Tryz.func219
theorem ajm:ca k0 P8 yo 2 Tryz.f230=true:=by kernel_rfl
theorem acw:ay.funcs[(230:Nat)]? =some Tryz.f230:=Tryz.func230
theorem ajv:ca k0 Qh Mm 2 Tryz.f234=true:=by kernel_rfl
theorem acF:ay.funcs[(234:Nat)]? =some Tryz.f234:=Tryz.func234
theorem LP:ca k0 EP G7 2 Tryz.f236=true:=by kernel_rfl
theorem Jj:ay.funcs[(236:Nat)]? =some Tryz.f236:=Tryz.func236
theorem GH:ca k0 BA AJ 3 Tryz.f237=true:=by kernel_rfl
theorem E8:ay.funcs[(237:Nat)]? =some Tryz.f237:=Tryz.func237
theorem ajx:ca k0 Qj Mo 3 Tryz.f268=true:=by kernel_rfl
theorem acH:ay.funcs[(268:Nat)]? =some Tryz.f268:=Tryz.func268
theorem ajo:ca k0 Qa Mk 2 Tryz.f270=true:=by kernel_rfl
theorem acy:ay.funcs[(270:Nat)]? =some Tryz.f270:=Tryz.func270
theorem LN:ca k0 EN G5 3 Tryz.f271=true:=by kernel_rfl
theorem Jh:ay.funcs[(271:Nat)]? =some Tryz.f271:=Tryz.func271
mutual
def ly:b5->Int->Int
 | .mk _ _ _ args,m=>ou args 1 m
def ou:List b5->Int->Int->Int
 |[],n,_=>n
 |x::xs,n,m=>if m<n then n else ou xs (n+ly x (m-n)) m
end
mutual
theorem IP:∀(t:b5) (m:Int),0<=m->1<=ly t m/\ly t m<=m+1
 | .mk _ _ _ args,m,h=>by simp only[ly];exact QE args 1 m h Ω Ω
theorem QE:∀(l:List b5) (n m:Int),0<=m->1<=n->n<=m+1->1<=ou l n m/\ou l n m<=m+1
 |[],n,m,_,J,U=>by simp only[ou];exact⟨J,U⟩
 |x::xs,n,m,bA,J,U=>by
  simp only[ou];split
  ·exact⟨J,U⟩
  ·have:=IP x (m-n) Ω;exact QE xs _ m bA Ω Ω
end
theorem EU:∀(t:T) (m:Int),0<=m->(ly t.tm m<=m↔(t.size:Int)<=m)/\((t.size:Int)<=m->ly t.tm m=t.size)
 | .pair a b,m,h=>by
  have a7:=T.size_pos a;have ab:=T.size_pos b;simp only[T.tm,ly,ou,T.size];by_cases J:m<1
  ·rw[if_pos J];exact⟨Ω,fun h=>Ω⟩
  ·rw[if_neg J];obtain⟨bz,a2⟩:=EU a (m-1) Ω;have a3:=IP a.tm (m-1) Ω;by_cases U:(a.size:Int)<=m-1
   ·have e:=a2 U;rw[e];by_cases al:m<1+(a.size:Int)
    ·omega
    ·rw[if_neg al];obtain⟨cf,b9⟩:=EU b (m-(1+a.size)) Ω;refine⟨Ω,fun h=>?_⟩;rw[b9 Ω];omega
   ·have:¬ly a.tm (m-1)<=m-1:=fun h=>U (bz.1 h);rw[if_pos Ω];exact⟨Ω,fun h=>Ω⟩
 | .nil,m,h=>by simp[T.tm,ly,ou,T.size]
 | .var _,m,h=>by simp[T.tm,ly,ou,T.size]
 | .sym _,m,h=>by simp[T.tm,ly,ou,T.size]
 | .num _,m,h=>by simp[T.tm,ly,ou,T.size]
theorem ZD(t:b5)(m:Int):ly t m=ou t.args 1 m:=by cases t;rfl
theorem Xx(t:b5):∀m:Int,0<=m->m<=1000000->bZ ay 162 [enc t,.int .i64 m] (.int .i64 (ly t m)):=by
 suffices H:∀(k:Nat) (t:b5),t.sz<=k->∀m:Int,0<=m->m<=1000000->bZ ay 162 [enc t,.int .i64 m] (.int .i64 (ly t m))from H _ t (eC _)
 intro k;induction k with
 |zero=>intro t aI;cases t;simp[b5.sz]at aI
 |succ k bO=>
  intro t aI m bA J;refine bE eD acs ajj fun aR=>?_;unfold P5;have iH:t.args.length<=68719476736:=by rw[BE]at aR;simp[ij,ho,hN,lim]at aR;omega
  simp;refine eQ [1,9,10] (fun i (n:Int)=>[(5,.int .i64 n),(11,.int .i64 i)]) t.args.length (fun i n=>(1<=n/\n<=m+1)/\ou (t.args.drop i) n m=ly t m) 1 cb ⟨Ω,by simp[ZD]⟩ (fun n ag _=>?_) (fun i n hi ag _=>?_)
  ·simp;(with_reducible repeat' first|refine aj ?_|simp);simp[bn,Mj,aT,aU,aS];have:=ag.2;simp[ou]at this;exact this
  ·obtain⟨⟨rS,Cq⟩,ag⟩:=ag;obtain⟨x,ae,dJ⟩:=fb hi;have aG:t.args.drop i=x::t.args.drop (i+1):=by rw[k4 hi,dJ]
   have ee:x.sz<=k:=by have:=alM (eZ ae);omega
   rw[aG]at ag;simp only[ou]at ag;simp[hi,dJ];by_cases ab:m<n
   ·rw[if_pos ab]at ag;(with_reducible repeat' first|refine aj ?_|simp[ab]);simp[bn,Mj,aT,aU,aS];exact ag
   ·rw[if_neg ab]at ag;have aq:=IP x (m-n) Ω;((with_reducible repeat' first|refine aj ?_|refine aC (bO x ee (m-n) Ω Ω) ?_|refine aD (bO x ee (m-n) Ω Ω) ?_|simp[ab]|((first|apply bD|apply bH|apply bG)<;>intro h<;>try simp at h))<;>(try exact b2));exact bR.rng (n+ly x (m-n)) hi ⟨Ω,ag⟩ cb
theorem A6(t:T):bZ ay 92 [t.e] (.bool (decide (t.size<=5000))):=by
 have aq:=(EU t 5000 Ω).1;have key:=Xx t.tm 5000 Ω Ω;rw[rs]at key;refine bE eD acv ajl fun aR=>?_;unfold P7;simp;(with_reducible repeat' first|refine aj ?_|refine aC key ?_|refine aD key ?_|simp);simp[bn,V8,aT,aU,aS];have:(ly t.tm 5000<=5000)=(t.size<=5000):=by rw[aq];simp;omega
 simp[this]
def agl(l:List ak)(v:Int)(k:Nat)(st:bo):Prop:=∃i:Nat,i<=l.length/\k=l.length-i/\dc l v=dc (l.drop i) v/\st=⟨[(1,.int .i64 v),(4,.ptr (.loc 0) 0),(8,.slice 5 .no (l.map ak.e)),(9,.int .i64 l.length),(10,.int .i64 i)],[(.loc 0,[.int .i64 0,.int .i64 0,.str [],.slice 4 .nil []])],[],1,[]⟩
theorem re(l:List ak)(v:Int)(au:l.length<=1000000):bZ ay 161 [.slice 5 .no (l.map ak.e),.int .i64 v] (.tuple [((dc l v).getD .nil).e,.bool (dc l v).isSome]):=by
 refine bE eD acE aju fun aR=>?_;unfold Qg;simp;refine mZ (agl l v) l.length _ cb ⟨0,Ω,rfl,Ψ,rfl⟩ ?_;rintro k st ⟨i,hi,ad,aW,rfl⟩ jf cE;clear jf cE;by_cases bt:i<l.length
 ·obtain⟨b,ab⟩:∃b,l[i]? =some b:=⟨_,cr bt⟩;have Sp:l.drop i=b::l.drop (i+1):=by rw[k4 bt];rw[cr bt]at ab;simp at ab;rw[ab]
  have cq:∀h,l[i]'h=b:=fun h=>by rw[cr h]at ab;simpa using ab
  simp[cq,bt];(with_reducible repeat' first|((first|apply bD|apply bH|apply bG)<;>intro h<;>try simp at h)|refine aj ?_|simp[cq])
  ·have:dc l v=some b.t:=by rw[aW,Sp];simp[dc,h]
   simp[bn,Ml,aT,aU,aS];simp[this]
  ·refine bR.next (l.length-(i+1)) Ω ⟨i+1,Ω,rfl,?_,rfl⟩ cb;rw[aW,Sp];simp[dc,h]
 ·have:dc l v=none:=by rw[aW,List.drop_of_length_le Ω];simp[dc]
  simp[bt];(with_reducible repeat' first|((first|apply bD|apply bH|apply bG)<;>intro h<;>try simp at h)|refine aj ?_|simp);simp[bn,Ml,aT,aU,aS];simp[this]
theorem amA(l:List ak)(au:l.length<=1000000)(t:T):bZ ay 75 [.slice 5 .no (l.map ak.e),t.e] (t.sub (dc l)).e:=by
 induction t with
 |pair a b dB dC=>
  refine bE eD Ji LO fun aR=>?_;unfold EO;simp;(with_reducible repeat' first|refine aj ?_|refine aC dB ?_|refine aD dB ?_|refine aC dC ?_|refine aD dC ?_|refine aC (A7 _ _) ?_|refine aD (A7 _ _) ?_|simp);all_goals simp[bn,G6,aT,aU,aS]
  all_goals simp[T.sub]
 |var n=>
  refine bE eD Ji LO fun aR=>?_;unfold EO;simp;((with_reducible repeat' first|refine aj ?_|refine aC (re l n au) ?_|refine aD (re l n au) ?_|simp|((first|apply bD|apply bH|apply bG)<;>intro h<;>try simp at h))<;>(try exact b2));all_goals simp[bn,G6,aT,aU,aS]
  all_goals cases ab:dc l n<;>simp_all[T.sub]
 |_=>
  refine bE eD Ji LO fun aR=>?_;unfold EO;simp;(with_reducible repeat' first|refine aj ?_|simp);all_goals simp[bn,G6,aT,aU,aS]
  all_goals simp[T.sub]
theorem XA(l:List ak)(au:l.length<=1000000)(t:T):bZ ay 75 [.slice 5 .no (l.map ak.e),t.e] (t.ap (aY l)).e:=by have:=amA l au t;rw[W6]at this;exact this
theorem D4(l:List ak)(au:l.length<=1000000)(t:T):bZ ay 166 [.slice 5 .no (l.map ak.e),t.e] (.tuple [(t.ap (aY l)).e,.bool (decide ((t.ap (aY l)).size<=5000))]):=by refine bE eD acD ajt fun aR=>?_;unfold Qf;simp;(with_reducible repeat' first|refine aj ?_|refine aC (XA l au t) ?_|refine aD (XA l au t) ?_|refine aC (A6 _) ?_|refine aD (A6 _) ?_|simp);simp[bn,Wf,aT,aU,aS]
def wz(v:Int)(l:List T):Bool:=l.any (T.occ v)
theorem UT(v:Int)(t:T):t.occ v=(wz v t.args||(t.kind==1&&t.int==v)):=by cases t<;>simp[T.occ,wz]
theorem wX(v:Int)(t:T):bZ ay 270 [.int .i64 v,t.e] (.bool (t.occ v)):=by
 suffices H:∀(k:Nat) (t:T),t.size<=k->bZ ay 270 [.int .i64 v,t.e] (.bool (t.occ v))from H _ t (eC _)
 intro k;induction k with
 |zero=>intro t aI;have:=T.size_pos t;omega
 |succ k bO=>
  intro t aI;have pZ:t.args.length<=2:=by cases t<;>simp
  refine bE eD acy ajo fun aR=>?_;unfold Qa;simp;refine eQ [0,3,8,9] (fun i (_:Unit)=>[(10,.int .i64 i)]) t.args.length (fun i _=>wz v (t.args.drop i)=wz v t.args) () cb Ψ (fun _ ag _=>?_) (fun i _ hi ag _=>?_)
  ·have bA:wz v t.args=false:=by rw[<-ag];simp[wz]
   rw[UT,bA];simp;((with_reducible repeat' first|refine aj ?_|simp|((first|apply bD|apply bH|apply bG)<;>intro h<;>try simp at h))<;>(try exact b2));all_goals simp[bn,Mk,aT,aU,aS]
   all_goals simp_all
  ·obtain⟨x,ae,dJ⟩:=fb hi;have aG:t.args.drop i=x::t.args.drop (i+1):=by rw[k4 hi,dJ]
   have ee:x.size<=k:=by have hm:=eZ ae;have:=T.size_pos x;cases t<;>simp at hm;rcases hm with rfl|rfl<;>simp[T.size]at aI<;>omega
   simp only[aG,wz,List.any_cons]at ag;simp[hi,dJ];cases aw:x.occ v with
   |true=>
    rw[aw]at ag;simp at ag;have bA:t.occ v=true:=by rw[UT];simp[wz];left;simpa using ag
    (with_reducible repeat' first|refine aj ?_|refine aC (bO x ee) ?_|refine aD (bO x ee) ?_|simp[aw]);simp[bn,Mk,aT,aU,aS];simp[bA]
   |false=>rw[aw]at ag;have agV:=bO x ee;exact h6
theorem HL(v:Int)(x t:T):bZ ay 271 [t.e,.int .i64 v,x.e] (t.ap (Go.Pv.one v x)).e:=by
 induction t with
 |pair a b dB dC=>
  refine bE eD Jh LN fun aR=>?_;unfold EN;simp;(with_reducible repeat' first|refine aj ?_|refine aC dB ?_|refine aD dB ?_|refine aC dC ?_|refine aD dC ?_|refine aC (A7 _ _) ?_|refine aD (A7 _ _) ?_|simp);all_goals simp[bn,G5,aT,aU,aS]
  all_goals simp[T.ap]
 |var n=>
  refine bE eD Jh LN fun aR=>?_;unfold EN;simp;((with_reducible repeat' first|refine aj ?_|simp|((first|apply bD|apply bH|apply bG)<;>intro h<;>try simp at h))<;>(try exact b2));all_goals simp[bn,G5,aT,aU,aS]
  all_goals simp_all[T.ap,Go.Pv.one]
 |_=>
  refine bE eD Jh LN fun aR=>?_;unfold EN;simp;(with_reducible repeat' first|refine aj ?_|simp);all_goals simp[bn,G5,aT,aU,aS]
  all_goals simp[T.ap]
theorem HN(s:List ak)(au:s.length<=1000000)(t:T):bZ ay 236 [.slice 5 .no (s.map ak.e),t.e] (hk s t).e:=by
 cases t with
 |var n=>
  cases ab:dc s n with
  |none=>refine bE eD Jj LP fun aR=>?_;unfold EP;simp;(with_reducible repeat' first|refine aj ?_|refine aC (re s n au) ?_|refine aD (re s n au) ?_|simp[ab]);simp[bn,G7,aT,aU,aS];simp[hk,aY,ab]
  |some x=>refine bE eD Jj LP fun aR=>?_;unfold EP;simp;(with_reducible repeat' first|refine aj ?_|refine aC (re s n au) ?_|refine aD (re s n au) ?_|simp[ab]);simp[bn,G7,aT,aU,aS];simp[hk,aY,ab]
 |_=>refine bE eD Jj LP fun aR=>?_;unfold EP;simp;(with_reducible repeat' first|refine aj ?_|simp);simp[bn,G7,aT,aU,aS];simp[hk]
theorem Tp(b:ak):∀(s:List ak) (k:Nat),(∀i c,i<k->s[i]? =some c->c.v<=b.v)->(∀c,s[k]? =some c->b.v<c.v)->k<=s.length->oK b s=s.take k++b::s.drop k
 |[],k,_,_,ad=>by simp at ad;subst ad;rfl
 |c::s,0,_,U,_=>by have:=U c rfl;simp[oK,this]
 |c::s,k+1,J,U,ad=>by have:=J 0 c Ω rfl;simp only[oK,if_neg (by omega:¬b.v<c.v),List.take_succ_cons,List.drop_succ_cons,bV];rw[Tp b s k (fun i d hi aG=>J (i+1) d Ω (by simpa using aG)) (fun d aG=>U d (by simpa using aG)) (by simpa using ad)]
theorem amz(s:List ak)(b:ak)(au:s.length<=1000000)(a7:gN s):bZ ay 234 [.slice 5 .no (s.map ak.e),b.e] (.slice 5 .no ((oK b s).map ak.e)):=by
 refine bE eD acF ajv fun aR=>?_;unfold Qh;simp;refine vt [0,3] (fun(k:Nat)=>[(5,.int .i64 k)]) (fun k=>k) (fun k=>k<=s.length/\∀c,s[k]? =some c->b.v<c.v) s.length cb ⟨Ω,fun c h=>by simp at h⟩ (fun k ag _=>?_);obtain⟨ad,ag⟩:=ag;have s6:(∀c,0<k->s[k-1]? =some c->c.v<=b.v)->oK b s=s.take k++b::s.drop k:=fun h=>Tp b s k (fun i c hi aq=>by
  obtain⟨d,aG⟩:∃d,s[k-1]? =some d:=⟨_,cr Ω⟩;have J:=h d Ω aG;rcases Nat.lt_or_ge i (k-1)with U|U
  ·have s8:=(fp.1 aq);have mC:=(fp.1 aG);have:=oX.1 a7 i (k-1) s8.1 mC.1 U;rw[s8.2,mC.2]at this;omega
  ·have:i=k-1:=Ω
   subst this;rw[aG]at aq;cases aq;exact J) ag ad
 rcases Nat.eq_zero_or_pos k with rfl|fB
 ·have e:=s6 fun c h=>Ω
  rw[e];simp;(with_reducible repeat' first|refine aj ?_|simp);simp[bn,Mm,aT,aU,aS];try simp[hv]
 ·obtain⟨d,aG⟩:∃d,s[k-1]? =some d:=⟨_,cr Ω⟩;have ao:((k:Int)-1).toNat=k-1:=Ω
  have aF:∀h,(s[k-1]'h)=d:=fun h=>by rw[cr h]at aG;exact gu aG
  have iU:(0:Int)<k:=Ω
  by_cases ab:b.v<d.v
  ·simp[fB,iU,ao,aF,ab,aG];(with_reducible repeat' first|refine aj ?_|simp[fB,iU,ao,aF,ab,aG]);refine bR.whl (k-1) Ω ⟨Ω,fun c aq=>by rw[aG]at aq;cases aq;exact ab⟩ ?_;have bM:((k-1:Nat):Int)=(k:Int)-1:=Ω
   simp[bM];exact cb
  ·have e:=s6 fun c _ aq=>by rw[aG]at aq;cases aq;omega
   rw[e];simp[fB,iU,ao,aF,ab,aG];(with_reducible repeat' first|refine aj ?_|simp[fB,iU,ao,aF,ab,aG]);simp[bn,Mm,aT,aU,aS];have dt:oY s.length (s.map ak.e)=s.map ak.e:=hv Ψ;rw[dt,<-List.map_take,<-List.map_drop,<-eO,<-List.map_append];exact W4 _
def M2(v:Int)(x:T)(b:ak):ak:=⟨b.v,b.t.ap (Go.Pv.one v x)⟩
def agy(s:List ak)(v:Int)(x:T)(i:Nat)(out:List ak):Prop:=out=(s.take i).map (M2 v x)/\∀b∈s.take i,(b.t.ap (Go.Pv.one v x)).size<=5000
theorem amC(s:List ak)(v:Int)(t:T)(au:s.length<=1000000)(a7:gN s):bZ ay 237 [.slice 5 .no (s.map ak.e),.int .i64 v,t.e] (fE (nL s v t)):=by
 obtain⟨x,ae⟩:∃x,x=t.ap (aY s):=⟨_,rfl⟩;have rI:=D4 s au t;rw[<-ae]at rI;obtain⟨o,aw⟩:∃o,o=nL s v t:=⟨_,rfl⟩;have nn:x.size<=5000->x.occ v=false->s.length<400->(∀b∈s,(b.t.ap (Go.Pv.one v x)).size<=5000)->o=some (mw s v x):=fun aZ bm bP cP=>by rw[aw,nL,<-ae,if_pos ⟨aZ,bm,bP,cP⟩]
 have c8:¬(x.size<=5000/\x.occ v=false/\s.length<400/\∀b∈s,(b.t.ap (Go.Pv.one v x)).size<=5000)->o=none:=fun q=>by rw[aw,nL,<-ae,if_neg q]
 rw[<-aw];clear aw;by_cases J:x.size<=5000;rotate_left
 ·rw[c8 fun h=>J h.1];refine bE eD E8 GH fun aR=>?_;unfold BA;simp;(with_reducible repeat' first|refine aj ?_|refine aC rI ?_|refine aD rI ?_|refine aC (wX _ _) ?_|refine aD (wX _ _) ?_|simp[J]);simp[bn,AJ,aT,aU,aS];simp[fE]
 cases U:x.occ v with
 |true=>rw[c8 fun h=>by rw[U]at h;cases h.2.1];refine bE eD E8 GH fun aR=>?_;unfold BA;simp;(with_reducible repeat' first|refine aj ?_|refine aC rI ?_|refine aD rI ?_|refine aC (wX _ _) ?_|refine aD (wX _ _) ?_|simp[J,U]);simp[bn,AJ,aT,aU,aS];simp[fE]
 |false=>
 by_cases al:s.length<400;rotate_left
 ·rw[c8 fun h=>al h.2.2.1];have sV:(400:Int)<=s.length:=Ω
  refine bE eD E8 GH fun aR=>?_;unfold BA;simp;(with_reducible repeat' first|refine aj ?_|refine aC rI ?_|refine aD rI ?_|refine aC (wX _ _) ?_|refine aD (wX _ _) ?_|simp[J,U,sV]);simp[bn,AJ,aT,aU,aS];simp[fE]
 have sV:¬(400:Int)<=s.length:=Ω
 refine bE eD E8 GH fun aR=>?_;unfold BA;simp;(with_reducible repeat' first|refine aj ?_|refine aC rI ?_|refine aD rI ?_|refine aC (wX _ _) ?_|refine aD (wX _ _) ?_|simp[J,U,sV]);refine ik (α:=List ak) (fun i out=>⟨[(1,.int .i64 v),(8,.ptr (.loc 1) 0),(33,.slice 5 .no (s.map ak.e)),(34,.int .i64 s.length),(10,.slice 5 (.own (.loc 2)) (out.map ak.e)),(35,.int .i64 i)],[(.loc 1,[.int .i64 x.kind,.int .i64 x.int,.str x.name,.slice 4 .no (x.args.map T.e)])],[(.loc 2,⟨out.length,61,5,none⟩)],3,[]⟩) s.length (agy s v x) [] cb ⟨Ψ,Ψ⟩ (fun out ag _=>?_) (fun i out hi ag _=>?_)
 ·obtain⟨eb,p2⟩:=ag;rw[hv (eC _)]at eb p2;have aeu:gN out:=by rw[eb,gN,List.pairwise_map];exact a7
  have Cv:out.length<=1000000:=by rw[eb];simpa using au
  rw[nn J U al p2];have key:=amz out ⟨v,x⟩ Cv aeu;simp;(with_reducible repeat' first|refine aj ?_|refine aC key ?_|refine aD key ?_|simp);simp[bn,AJ,aT,aU,aS];simp[fE,mw,eb];rfl
 ·obtain⟨eb,p2⟩:=ag;obtain⟨b,av,gB⟩:=fb hi;have vU:s.take (i+1)=s.take i++[b]:=by rw[List.take_succ,av];rfl
  have Cv:out.length<=1000000:=by rw[eb];simp;omega
  simp[hi,gB];by_cases bk:(b.t.ap (Go.Pv.one v x)).size<=5000
  ·(with_reducible repeat' first|refine aj ?_|refine aC (HL _ _ _) ?_|refine aD (HL _ _ _) ?_|refine aC (A6 _) ?_|refine aD (A6 _) ?_|simp[gB,hi,bk]);all_goals first|(refine⟨by unfold lim;omega,?_⟩)|skip
   (with_reducible repeat' first|refine aj ?_|simp);refine bR.rng (out++[M2 v x b]) hi ⟨by rw[vU,eb,List.map_append];rfl,fun c aq=>?_⟩ ?_
   ·rw[vU]at aq;rcases h9.1 aq with aq|aq
    ·exact p2 c aq
    ·simp at aq;subst aq;exact bk
   ·simp[M2];exact⟨by simp[fresh,aP,aJ,cx,inObs,Pv.look,j1],eS (by simp[fresh,aP,aJ,cx,inObs,Pv.look,j1]),eT (by simp[fresh,aP,aJ,et,inObs,Pv.look,j1]),Ψ⟩
  ·rw[c8 fun h=>bk (h.2.2.2 b (eZ av))];(with_reducible repeat' first|refine aj ?_|refine aC (HL _ _ _) ?_|refine aD (HL _ _ _) ?_|refine aC (A6 _) ?_|refine aD (A6 _) ?_|simp[gB,hi,bk]);simp[bn,AJ,aT,aU,aS];simp[fE]
theorem al6{s:List ak}(af:eI s)(aO:fJ s){n:Nat}{a b:T}{o:Option (List ak)}(h:kJ n s a b=some o):iO s [(a,b)] o:=by obtain⟨n',o',J,U⟩:=HH af aO a b;have ao:=D0 (Nat.le_max_left n n') h;have aF:=D0 (Nat.le_max_right n n') J;rw[ao]at aF;cases aF;exact U
def A3(n:Nat):List (T×T)->List ak->Option (Option (List ak))
 |[],s=>some (some s)
 |e::r,s=>match kJ n s e.1 e.2 with
  |none=>none
  |some none=>some none
  |some (some s1)=>A3 n r s1
def x1(x y:T):Bool:=x.kind==y.kind&&x.int==y.int&&x.name==y.name
theorem al4(n:Nat)(s:List ak){x y:T}(ae:x.kind≠1)(aM:y.kind≠1):ka (kJ n) s x y=if x1 x y then A3 n (x.args.zip y.args) s else some none:=by
 cases x<;>cases y<;>simp[ka,x1,A3]at ae aM⊢
 ·rename_i a b;split<;>simp_all
 ·rename_i a b;split<;>simp_all
 ·rename_i bz a2 cf b9;cases kJ n s bz cf with
  |none=>rfl
  |some o=>cases o with
   |none=>rfl
   |some s1=>
    simp only
    cases kJ n s1 a2 b9 with
    |none=>rfl
    |some o=>cases o<;>rfl
theorem agY{x y:T}(h:x1 x y=true):x.args.length=y.args.length:=by cases x<;>cases y<;>simp[x1]at h⊢
@[simp]theorem aor(o:Option (List ak)):zc 0 (fE o)=some (True,.slice 5 .no ((o.getD []).map ak.e)):=rfl
@[simp]theorem aos(o:Option (List ak)):zc 1 (fE o)=some (True,.bool o.isSome):=rfl
theorem amG(n:Nat):∀(s:List ak) (a b:T) (o:Option (List ak)),eI s->fJ s->kJ n s a b=some o->bZ ay 176 [.slice 5 .no (s.map ak.e),a.e,b.e] (fE o):=by
 induction n with
 |zero=>intro s a b o _ _ h;simp[kJ]at h
 |succ n bO=>
  intro s a b o af aO he;have au:s.length<=1000000:=by have:=aO.1;omega
  have fZ:=HN s au a;have dU:=HN s au b;simp only[kJ]at he;generalize hk s a=x at he fZ;generalize hk s b=y at he dU;have ab:=fun v t=>amC s v t au af.asc;have qK:∀z:T,¬z.kind=1->(z.kind==1)=false:=fun z h=>by simp[h]
  by_cases ae:x.kind=1
  ·obtain⟨i,rfl⟩:∃i,x= .var i:=by cases x<;>simp at ae;exact⟨_,rfl⟩
   by_cases aM:y.kind=1
   ·obtain⟨j,rfl⟩:∃j,y= .var j:=by cases y<;>simp at aM;exact⟨_,rfl⟩
    simp only[ka,dy]at he;subst he;rcases Int.lt_trichotomy i j with h|h|h
    ·rw[if_pos h];have key:=ab j (.var i);refine bE eD uh uS fun aR=>?_;unfold sM;simp;(with_reducible repeat' first|refine aj ?_|refine aC fZ ?_|refine aD fZ ?_|refine aC dU ?_|refine aD dU ?_|refine aC key ?_|refine aD key ?_|simp[h]);simp[bn,sf,aT,aU,aS];simp[fE]
    ·subst h;rw[if_neg Ω,if_pos rfl];have bA:¬i<i:=Ω
     refine bE eD uh uS fun aR=>?_;unfold sM;simp;(with_reducible repeat' first|refine aj ?_|refine aC fZ ?_|refine aD fZ ?_|refine aC dU ?_|refine aD dU ?_|simp[bA]);simp[bn,sf,aT,aU,aS];simp[fE]
    ·rw[if_neg Ω,if_neg Ω];have key:=ab i (.var j);have bA:¬i<j:=Ω
     have U:¬i=j:=Ω
     refine bE eD uh uS fun aR=>?_;unfold sM;simp;((with_reducible repeat' first|refine aj ?_|refine aC fZ ?_|refine aD fZ ?_|refine aC dU ?_|refine aD dU ?_|refine aC key ?_|refine aD key ?_|simp[bA,U]|((first|apply bD|apply bH|apply bG)<;>intro h<;>try simp at h))<;>(try exact b2));simp[bn,sf,aT,aU,aS];simp[fE]
   ·have vC:nL s i y=o:=by cases y<;>first|(simp at aM;done)|exact gu he
    subst vC;have key:=ab i y;refine bE eD uh uS fun aR=>?_;unfold sM;simp;(with_reducible repeat' first|refine aj ?_|refine aC fZ ?_|refine aD fZ ?_|refine aC dU ?_|refine aD dU ?_|refine aC key ?_|refine aD key ?_|simp[qK y aM]);simp[bn,sf,aT,aU,aS];simp[fE]
  ·by_cases aM:y.kind=1
   ·obtain⟨j,rfl⟩:∃j,y= .var j:=by cases y<;>simp at aM;exact⟨_,rfl⟩
    have vC:nL s j x=o:=by cases x<;>first|(simp at ae;done)|exact gu he
    subst vC;have key:=ab j x;refine bE eD uh uS fun aR=>?_;unfold sM;simp;(with_reducible repeat' first|refine aj ?_|refine aC fZ ?_|refine aD fZ ?_|refine aC dU ?_|refine aD dU ?_|refine aC key ?_|refine aD key ?_|simp[qK x ae]);simp[bn,sf,aT,aU,aS];simp[fE]
   ·rw[al4 n s ae aM]at he;cases hle:x1 x y with
    |false=>
     rw[hle]at he;simp at he;subst he;have J5:(x.kind !=y.kind)=true\/((x.kind !=y.kind)=false/\((x.int !=y.int)=true\/((x.int !=y.int)=false/\(x.name !=y.name)=true))):=by simp only[x1]at hle;simp only[bne];cases ao:(x.kind==y.kind)<;>cases aF:(x.int==y.int)<;>cases bM:(x.name==y.name)<;>simp_all
     rcases J5 with aZ|⟨aZ,bm|⟨bm,bP⟩⟩
     ·refine bE eD uh uS fun aR=>?_;unfold sM;simp;(with_reducible repeat' first|refine aj ?_|refine aC fZ ?_|refine aD fZ ?_|refine aC dU ?_|refine aD dU ?_|simp[qK x ae,qK y aM,aZ]);simp[bn,sf,aT,aU,aS];simp[fE]
     ·refine bE eD uh uS fun aR=>?_;unfold sM;simp;(with_reducible repeat' first|refine aj ?_|refine aC fZ ?_|refine aD fZ ?_|refine aC dU ?_|refine aD dU ?_|simp[qK x ae,qK y aM,aZ,bm]);simp[bn,sf,aT,aU,aS];simp[fE]
     ·refine bE eD uh uS fun aR=>?_;unfold sM;simp;have GS:¬x.name=y.name:=by simpa using bP
      have aj5:decide (x.name=y.name)=false:=by simp[GS]
      ((with_reducible repeat' first|refine aj ?_|refine aC fZ ?_|refine aD fZ ?_|refine aC dU ?_|refine aD dU ?_|simp[qK x ae,qK y aM,aZ,bm,bP,GS,aj5]|((first|apply bD|apply bH|apply bG)<;>intro h<;>try simp at h))<;>(try exact b2));simp[bn,sf,aT,aU,aS];simp[fE]
    |true=>
     rw[hle,if_pos rfl]at he;have J5:(x.kind !=y.kind)=false/\(x.int !=y.int)=false/\(x.name !=y.name)=false:=by simp only[x1]at hle;simp only[bne];cases ao:(x.kind==y.kind)<;>cases aF:(x.int==y.int)<;>cases bM:(x.name==y.name)<;>simp_all
     obtain⟨aZ,bm,bP⟩:=J5;have hlen:=agY hle;have GS:x.name=y.name:=by simpa using bP
     have pZ:x.args.length<=2:=by cases x<;>simp
     refine bE eD uh uS fun aR=>?_;unfold sM;simp;(with_reducible repeat' first|refine aj ?_|refine aC fZ ?_|refine aD fZ ?_|refine aC dU ?_|refine aD dU ?_|simp[qK x ae,qK y aM,aZ,bm,GS]);refine ik (α:=List ak) (fun i ah=>⟨[(5,.ptr (.loc 1) 0),(96,.slice 4 .no (x.args.map T.e)),(97,.int .i64 x.args.length),(0,.slice 5 .no (ah.map ak.e)),(98,.int .i64 i)],[(.loc 1,[.int .i64 y.kind,.int .i64 y.int,.str y.name,.slice 4 .no (y.args.map T.e)])],[],2,[]⟩) x.args.length (fun i ah=>(eI ah/\fJ ah)/\A3 n ((x.args.zip y.args).drop i) ah=some o) s cb ⟨⟨af,aO⟩,by simpa using he⟩ (fun ah ag _=>?_) (fun i ah hi ag _=>?_)
     ·obtain⟨_,ag⟩:=ag;rw[List.drop_eq_nil_of_le (by simp[hlen])]at ag;simp[A3]at ag;subst ag;simp;(with_reducible repeat' first|refine aj ?_|simp);simp[bn,sf,aT,aU,aS];simp[fE]
     ·obtain⟨⟨g1,g2⟩,ag⟩:=ag;obtain⟨bz,a7⟩:∃a,x.args[i]? =some a:=⟨_,cr hi⟩;obtain⟨cf,fX⟩:∃b,y.args[i]? =some b:=⟨_,cr Ω⟩;have nh:∀h,(x.args[i]'h)=bz:=fun h=>by rw[cr hi]at a7;exact gu a7
      have cq:∀h,(y.args[i]'h)=cf:=fun h=>by rw[cr h]at fX;exact gu fX
      have rP:i<y.args.length:=Ω
      have aG:(x.args.zip y.args).drop i=(bz,cf)::(x.args.zip y.args).drop (i+1):=by rw[k4 d8];simp[nh,cq]
      rw[aG]at ag;simp only[A3]at ag;simp[hi,nh,cq,rP];cases hu:kJ n ah bz cf with
      |none=>rw[hu]at ag;cases ag
      |some gU=>
       have key:=bO ah bz cf gU g1 g2 hu;rw[hu]at ag;cases gU with
       |none=>simp at ag;subst ag;(with_reducible repeat' first|refine aj ?_|refine aC key ?_|refine aD key ?_|simp[nh,cq,hi,rP]);simp[bn,sf,aT,aU,aS];simp[fE]
       |some s1=>have afP:=al6 g1 g2 hu;(with_reducible repeat' first|refine aj ?_|refine aC key ?_|refine aD key ?_|simp[nh,cq,hi,rP]);refine bR.rng s1 hi ⟨afP.1,ag⟩ ?_;exact cb
theorem amF(s:List ak)(a b:T)(af:eI s)(aO:fJ s):bZ ay 176 [.slice 5 .no (s.map ak.e),a.e,b.e] (fE (mgu s [(a,b)])):=by obtain⟨n,o,J,U⟩:=HH af aO a b;rw[pC U];exact amG n s a b o af aO J
def agx(s:List ak)(E:List (T×T))(i:Nat)(ah:List ak):Prop:=(eI ah/\fJ ah)/\mgu ah (E.drop i)=mgu s E
theorem amB(s:List ak)(l r:List T)(au:l.length=r.length)(af:eI s)(aO:fJ s)(xH:l.length<=1000000):bZ ay 268 [.slice 5 .no (s.map ak.e),.slice 4 .no (l.map T.e),.slice 4 .no (r.map T.e)] (fE (mgu s (l.zip r))):=by
 refine bE eD acH ajx fun aR=>?_;unfold Qj;simp;refine ik (α:=List ak) (fun i ah=>⟨[(2,.slice 4 .no (r.map T.e)),(12,.slice 4 .no (l.map T.e)),(13,.int .i64 l.length),(0,.slice 5 .no (ah.map ak.e)),(14,.int .i64 i)],[],[],0,[]⟩) l.length (agx s (l.zip r)) s cb ⟨⟨af,aO⟩,Ψ⟩ (fun ah ag _=>?_) (fun i ah hi ag _=>?_)
 ·obtain⟨⟨g1,g2⟩,ag⟩:=ag;rw[List.drop_eq_nil_of_le (by simp[au]),Da g1 g2]at ag;rw[<-ag];simp;(with_reducible repeat' first|refine aj ?_|simp);simp[bn,Mo,aT,aU,aS];simp[fE]
 ·obtain⟨⟨g1,g2⟩,ag⟩:=ag;obtain⟨a,a7⟩:∃a,l[i]? =some a:=⟨_,cr hi⟩;obtain⟨b,fX⟩:∃b,r[i]? =some b:=⟨_,cr Ω⟩;have nh:∀h,(l[i]'h)=a:=fun h=>by rw[cr hi]at a7;exact gu a7
  have cq:∀h,(r[i]'h)=b:=fun h=>by rw[cr h]at fX;exact gu fX
  have rP:i<r.length:=Ω
  have aG:(l.zip r).drop i=(a,b)::(l.zip r).drop (i+1):=by rw[k4 d8];simp[nh,cq]
  rw[aG,Ls g1 g2]at ag;simp[hi,nh,cq,rP];have key:=amF ah a b g1 g2;cases hu:mgu ah [(a,b)]with
  |none=>rw[hu]at ag key;simp only at ag;rw[<-ag];(with_reducible repeat' first|refine aj ?_|refine aC key ?_|refine aD key ?_|simp[nh,cq,hi,rP]);simp[bn,Mo,aT,aU,aS];simp[fE]
  |some s1=>have pt:=r9 g1 g2 hu;rw[hu]at ag key;(with_reducible repeat' first|refine aj ?_|refine aC key ?_|refine aD key ?_|simp[nh,cq,hi,rP]);refine bR.rng s1 hi ⟨pt,ag⟩ ?_;exact cb
theorem kf(n:Int):bZ ay 91 [.int .i64 n] (T.var n).e:=by refine bE fF Ri U5 fun aR=>?_;unfold IJ;exact c0
def agB(t:List ak)(i:Nat)(p:List T×List T):Prop:=p.1=(t.take i).map (fun b=>T.var b.v)/\p.2=(t.take i).map (·.t)
theorem amD(s t:List ak)(af:eI s)(aO:fJ s)(aI:t.length<=1000000):bZ ay 219 [.slice 5 .no (s.map ak.e),.slice 5 .no (t.map ak.e)] (fE (mgu s (fR t))):=by
 have bk:(t.map fun b=>T.var b.v).zip (t.map (·.t))=fR t:=by rw[fR,List.zip_map']
 refine bE eD acI ajy fun aR=>?_;unfold Qk;simp;refine ik (α:=List T×List T) (fun i p=>⟨[(0,.slice 5 .no (s.map ak.e)),(12,.slice 5 .no (t.map ak.e)),(13,.int .i64 t.length),(6,.slice 4 (.own (.loc 0)) (p.1.map T.e)),(7,.slice 4 (.own (.loc 1)) (p.2.map T.e)),(14,.int .i64 i)],[],[(.loc 0,⟨p.1.length,32,4,none⟩),(.loc 1,⟨p.2.length,32,4,none⟩)],2,[]⟩) t.length (agB t) ([],[]) cb ⟨Ψ,Ψ⟩ (fun p ag _=>?_) (fun i p hi ag _=>?_)
 ·obtain⟨A,B⟩:=p;obtain⟨bj,kj⟩:=ag;simp only at bj kj⊢;rw[hv (eC _)]at bj kj;have key:=amB s A B (by rw[bj,kj];simp) af aO (by rw[bj];simpa using aI);rw[bj,kj,bk,<-bj,<-kj]at key;simp;(with_reducible repeat' first|refine aj ?_|refine aC key ?_|refine aD key ?_|simp);simp[bn,Wg,aT,aU,aS];simp[fE]
 ·obtain⟨A,B⟩:=p;obtain⟨bj,kj⟩:=ag;simp only at bj kj⊢;obtain⟨b,av,gB⟩:=fb hi;have vU:t.take (i+1)=t.take i++[b]:=by rw[List.take_succ,av];rfl
  have aee:A.length<=1000000:=by rw[bj];simp;omega
  have aef:B.length<=1000000:=by rw[kj];simp;omega
  simp[hi,gB];(with_reducible repeat' first|refine aj ?_|refine aC (kf _) ?_|refine aD (kf _) ?_|simp[gB,hi]);all_goals first|(refine⟨by unfold lim;omega,?_⟩)|skip
  (with_reducible repeat' first|refine aj ?_|simp);all_goals first|(refine⟨by unfold lim;omega,?_⟩)|skip
  (with_reducible repeat' first|refine aj ?_|simp);refine bR.rng (A++[.var b.v],B++[b.t]) hi ⟨by rw[vU,bj];simp,by rw[vU,kj];simp⟩ ?_;simp;exact⟨by simp[fresh,aP,aJ,cx,inObs,Pv.look,j1],eS (by simp[fresh,aP,aJ,cx,inObs,Pv.look,j1]),eT (by simp[fresh,aP,aJ,et,inObs,Pv.look,j1]),Ψ⟩
theorem ds(n lo hi:Int):bZ ay 141 [.int .i64 n,.int .i64 lo,.int .i64 hi] (.bool (decide (lo<=n/\n<=hi))):=by
 refine bE eD acp ajg fun aR=>?_;unfold P2;simp;((with_reducible repeat' first|refine aj ?_|simp|((first|apply bD|apply bH|apply bG)<;>intro h<;>try simp at h))<;>(try exact b2));all_goals simp[bn,V5,aT,aU,aS]
 all_goals first|omega|(simp;done)|(simp;omega)
def shp:b5->Bool
 | .mk k n s [a,b]=>k==4&&n==0&&s==[]&&shp a&&shp b
 | .mk k n s []=>lg k n s
 |_=>false
theorem Hu:∀x:T,shp x.tm=x.ok
 | .nil=>by simp[T.tm,shp,lg,T.ok]
 | .var _=>by simp[T.tm,shp,lg,T.ok]
 | .sym _=>by simp[T.tm,shp,lg,T.ok]
 | .num _=>by simp[T.tm,shp,lg,T.ok]
 | .pair a b=>by simp[T.tm,shp,T.ok,Hu a,Hu b]
theorem alf:∀(m:Nat) (t:b5),t.sz<=m->shp t=true->∃x:T,x.tm=t:=by
 intro m;induction m with
 |zero=>intro t aI;cases t;simp[b5.sz]at aI
 |succ m bO=>
  rintro⟨k,n,s,args⟩ aI h;match args with
  |[a,b]=>
   simp[b5.sz,b5.szL]at aI;simp only[shp,ct,dM]at h;obtain⟨⟨⟨⟨rfl,rfl⟩,al⟩,J⟩,U⟩:=h;obtain⟨x,rfl⟩:=bO a Ω J;obtain⟨y,rfl⟩:=bO b Ω U;have:s=[]:=by simpa using al
   subst this;exact⟨.pair x y,rfl⟩
  |[]=>
   simp only[shp,lg]at h;split at h
   ·subst_vars;simp at h;exact⟨.nil,by simp[T.tm,h]⟩
   split at h
   ·subst_vars;simp at h;exact⟨.var n,by simp[T.tm,h]⟩
   split at h
   ·subst_vars;simp at h;exact⟨.sym s,by simp[T.tm,h]⟩
   split at h
   ·subst_vars;simp at h;exact⟨.num n,by simp[T.tm,h]⟩
   ·simp at h
  |[_]=>simp[shp]at h
  |_::_::_::_=>simp[shp]at h
theorem acZ(t:b5):t.fits=(decide (ly t 5000<=5000)&&shp t):=by
 by_cases h:shp t=true
 ·obtain⟨x,rfl⟩:=alf _ t (eC _) h;have:=(EU x 5000 Ω).1;rw[b5.fits_T,T.fit,h];rw[Hu]at h;simp[h,this];omega
 ·have bA:t.fits=false:=by
   cases aO:t.fits with
   |false=>rfl
   |true=>obtain⟨x,rfl,ae⟩:=b5.fits_ex aO;rw[Hu]at h;simp[T.fit]at ae;exact absurd ae.1 h
  simp at h;rw[bA,h];simp
def KK(s:List c4)(i:Nat):Prop:=i<=s.length/\∀k,k<i->mH (s.getD k 0)=true/\(k=0->low (s.getD k 0)=true)
theorem agu{s:List c4}(h:KK s s.length):ji s=decide (1<=s.length/\s.length<=12):=by
 unfold ji;by_cases au:1<=s.length
 ·have J:=(h.2 0 Ω).2 rfl;have U:(s.drop 1).all mH=true:=by rw[gH];intro b ab;obtain⟨i,hi,e⟩:=od ab;simp at hi e;have:=(h.2 (i+1) Ω).1;rw[List.getD_eq_getElem?_getD,cr Ω]at this;simp only[hV]at this;rw[<-e];exact this
  rw[J,U];simp
 ·have:decide (1<=s.length/\s.length<=12)=false:=by simp;omega
  rw[this];simp
theorem agt{s:List c4}{i:Nat}(hi:i<s.length)(h:mH (s.getD i 0)=false\/(i=0/\low (s.getD i 0)=false)):ji s=false:=by
 cases e:ji s with
 |false=>rfl
 |true=>
  exfalso;simp only[ji,ct,gH]at e;obtain⟨⟨_,ao⟩,aF⟩:=e;rcases h with h|⟨rfl,h⟩
  ·by_cases bA:i=0
   ·subst bA;rw[mH,ao]at h;simp at h
   ·have:=aF (s.getD i 0) (by rw[List.getD_eq_getElem?_getD,cr hi];simp only[hV];refine List.mem_iff_getElem.2 ⟨i-1,by simp;omega,?_⟩;simp[show i-1+1=i from by omega])
    rw[this]at h;cases h
  ·rw[ao]at h;cases h
theorem gW(s:List c4):bZ ay 216 [.str s] (.bool (ji s)):=by
 generalize bS:ji s=R;refine bE eD acf ai7 fun aR=>?_;unfold PT;have iH:s.length<=68719476736:=by simp[ij,ho,hN,lim]at aR;omega
 simp;refine vt [0] (fun(i:Nat)=>[(3,.int .i64 i)]) (fun i=>s.length-i) (KK s) 0 cb ⟨Ω,fun k ad=>Ω⟩ (fun i ag _=>?_);have eb:=ag.1;by_cases hi:i<s.length
 ·have c8:=agt hi;rw[bS]at c8;obtain⟨c,aq,kl⟩:=fb hi;have Si:s.getD i 0=c:=by simp[List.getD_eq_getElem?_getD,aq]
  rw[Si]at c8;have dh:mH c=true->(i=0->low c=true)->KK s (i+1):=fun J U=>⟨Ω,fun k ad=>by
   rcases(by omega:k<i\/k=i)with h|rfl
   ·exact ag.2 k h
   ·rw[Si];exact⟨J,U⟩⟩
  have hw:mj.wrap (c.toNat:Int)=c.toNat:=ml _ (by have:=c.toNat_lt;omega);simp[hi,kl,aq];by_cases aZ:(97:Int)<=c.toNat
  ·by_cases bm:(c.toNat:Int)<=122
   ·have au:low c=true:=by simp[low];omega
    (with_reducible repeat' first|refine aj ?_|refine aC (ds _ _ _) ?_|refine aD (ds _ _ _) ?_|simp[hi,kl,aq,aZ,bm]);exact bR.whl (i+1) Ω (dh (by simp[mH,au]) (fun _=>au)) cb
   ·have au:low c=false:=by simp[low];omega
    by_cases bA:i=0
    ·rw[c8 (.inr ⟨bA,au⟩)];have rE:((i:Int)==0)=true:=by simp[bA]
     (with_reducible repeat' first|refine aj ?_|refine aC (ds _ _ _) ?_|refine aD (ds _ _ _) ?_|simp[hi,kl,aq,aZ,bm,rE,hw]);simp[bn,AF,aT,aU,aS]
    ·have rE:((i:Int)==0)=false:=by simp[bA]
     by_cases bP:(c.toNat:Int)=45
     ·have tD:((c.toNat:Int) !=45)=false:=by simp[bP]
      (with_reducible repeat' first|refine aj ?_|refine aC (ds _ _ _) ?_|refine aD (ds _ _ _) ?_|simp[hi,kl,aq,aZ,bm,rE,hw,bP,tD]);all_goals exact bR.whl (i+1) Ω (dh (by simp[mH];omega) (fun h=>absurd h bA)) cb
     ·have tD:((c.toNat:Int) !=45)=true:=by simp[bP]
      by_cases cP:(48:Int)<=c.toNat/\(c.toNat:Int)<=57
      ·(with_reducible repeat' first|refine aj ?_|refine aC (ds _ _ _) ?_|refine aD (ds _ _ _) ?_|simp[hi,kl,aq,aZ,bm,rE,hw,bP,tD,cP]);all_goals exact bR.whl (i+1) Ω (dh (by simp[mH];omega) (fun h=>absurd h bA)) cb
      ·rw[c8 (.inl (by simp[mH,au];omega))];(with_reducible repeat' first|refine aj ?_|refine aC (ds _ _ _) ?_|refine aD (ds _ _ _) ?_|simp[hi,kl,aq,aZ,bm,rE,hw,bP,tD,cP]);simp[bn,AF,aT,aU,aS]
  ·have au:low c=false:=by simp[low];omega
   by_cases bA:i=0
   ·rw[c8 (.inr ⟨bA,au⟩)];have rE:((i:Int)==0)=true:=by simp[bA]
    (with_reducible repeat' first|refine aj ?_|refine aC (ds _ _ _) ?_|refine aD (ds _ _ _) ?_|simp[hi,kl,aq,aZ,rE,hw]);simp[bn,AF,aT,aU,aS]
   ·have rE:((i:Int)==0)=false:=by simp[bA]
    by_cases bP:(c.toNat:Int)=45
    ·have tD:((c.toNat:Int) !=45)=false:=by simp[bP]
     (with_reducible repeat' first|refine aj ?_|refine aC (ds _ _ _) ?_|refine aD (ds _ _ _) ?_|simp[hi,kl,aq,aZ,rE,hw,bP,tD]);all_goals exact bR.whl (i+1) Ω (dh (by simp[mH];omega) (fun h=>absurd h bA)) cb
    ·have tD:((c.toNat:Int) !=45)=true:=by simp[bP]
     by_cases cP:(48:Int)<=c.toNat/\(c.toNat:Int)<=57
     ·(with_reducible repeat' first|refine aj ?_|refine aC (ds _ _ _) ?_|refine aD (ds _ _ _) ?_|simp[hi,kl,aq,aZ,rE,hw,bP,tD,cP]);all_goals exact bR.whl (i+1) Ω (dh (by simp[mH];omega) (fun h=>absurd h bA)) cb
     ·rw[c8 (.inl (by simp[mH,au];omega))];(with_reducible repeat' first|refine aj ?_|refine aC (ds _ _ _) ?_|refine aD (ds _ _ _) ?_|simp[hi,kl,aq,aZ,rE,hw,bP,tD,cP]);simp[bn,AF,aT,aU,aS]
 ·have:i=s.length:=Ω
  subst this;rw[agu ag]at bS;simp[hi];(with_reducible repeat' first|refine aj ?_|refine aC (ds _ _ _) ?_|refine aD (ds _ _ _) ?_|simp[hi]);simp[bn,AF,aT,aU,aS];rw[<-bS,pN];simp;omega
def u9:List b5->Bool
 |[a,b]=>shp a&&shp b
 |_=>false
theorem ale(k n:Int)(s:List c4)(args:List b5):shp ⟨k,n,s,args⟩=if k≠1/\k≠3/\n≠0 then false else if k≠2/\s≠[]then false else if k≠4/\args≠[]then false else if k=0 then true else if k=1 then decide (0<=n/\n<=100000)else if k=2 then ji s else if k=3 then decide (-1000000000<=n/\n<=1000000000)else if k=4 then u9 args else false:=by
 by_cases gR:k=0
 ·subst gR;match args with
  |[]=>by_cases az:n=0<;>by_cases af:s=[]<;>simp[shp,lg,az,af]
  |[a]=>simp[shp]
  |[a,b]=>simp[shp]
  |_::_::_::_=>simp[shp]
 by_cases aX:k=1
 ·subst aX;match args with
  |[]=>by_cases af:s=[]<;>simp[shp,lg,af]
  |[a]=>simp[shp]
  |[a,b]=>simp[shp]
  |_::_::_::_=>simp[shp]
 by_cases bg:k=2
 ·subst bg;match args with
  |[]=>by_cases az:n=0<;>simp[shp,lg,az]
  |[a]=>simp[shp]
  |[a,b]=>simp[shp]
  |_::_::_::_=>simp[shp]
 by_cases b6:k=3
 ·subst b6;match args with
  |[]=>by_cases af:s=[]<;>simp[shp,lg,af]
  |[a]=>simp[shp]
  |[a,b]=>simp[shp]
  |_::_::_::_=>simp[shp]
 by_cases cT:k=4
 ·subst cT;match args with
  |[]=>simp[shp,lg,u9]
  |[a]=>simp[shp,u9]
  |[a,b]=>by_cases az:n=0<;>by_cases af:s=[]<;>simp[shp,u9,az,af]
  |_::_::_::_=>simp[shp,u9]
 ·match args with
  |[]=>simp[shp,lg,gR,aX,bg,b6,cT]
  |[a]=>simp[shp,gR,aX,bg,b6,cT]
  |[a,b]=>simp[shp,gR,aX,bg,b6,cT]
  |_::_::_::_=>simp[shp,gR,aX,bg,b6,cT]
set_option maxRecDepth 8000 in
theorem amy(m:Nat):∀(t:b5),t.sz<=m->bZ ay 163 [enc t] (.bool (shp t)):=by
 induction m with
 |zero=>intro t aI;cases t;simp[b5.sz]at aI
 |succ m bO=>
 rintro⟨k,n,s,args⟩ aI;generalize bS:shp ⟨k,n,s,args⟩=R;have c6:=ale k n s args;rw[bS]at c6;by_cases cf:k≠1/\k≠3/\n≠0
 ·rw[if_pos cf]at c6;obtain⟨aX,b6,n0⟩:=cf;have zT:(k !=1)=true:=by simp[aX]
  have zU:(k !=3)=true:=by simp[b6]
  have Lw:(n !=0)=true:=by simp[n0]
  subst c6;refine bE eD mA mP fun aR=>?_;unfold lW;simp[b5.kind,b5.num,b5.name,b5.args];(with_reducible repeat' first|refine aj ?_|refine aC (ds _ _ _) ?_|refine aD (ds _ _ _) ?_|refine aC (gW _) ?_|refine aD (gW _) ?_|simp[zT,zU,Lw]);all_goals simp[bn,lO,aT,aU,aS]
 rw[if_neg cf]at c6;have Bs:(if k !=1 then k !=3 else false)=true->(n !=0)=false:=by intro h;simp at h⊢;exact Classical.byContradiction fun az=>cf ⟨h.1,h.2,az⟩
 by_cases b9:k≠2/\s≠[]
 ·rw[if_pos b9]at c6;have Ga:(k !=2)=true:=by simp[b9.1]
  have MG:s.isEmpty=false:=by simp[b9.2]
  by_cases aX:k=1
  ·subst aX;subst c6;refine bE eD mA mP fun aR=>?_;unfold lW;simp[b5.kind,b5.num,b5.name,b5.args];(with_reducible repeat' first|refine aj ?_|refine aC (ds _ _ _) ?_|refine aD (ds _ _ _) ?_|refine aC (gW _) ?_|refine aD (gW _) ?_|simp[MG]);all_goals simp[bn,lO,aT,aU,aS]
  by_cases b6:k=3
  ·subst b6;subst c6;refine bE eD mA mP fun aR=>?_;unfold lW;simp[b5.kind,b5.num,b5.name,b5.args];(with_reducible repeat' first|refine aj ?_|refine aC (ds _ _ _) ?_|refine aD (ds _ _ _) ?_|refine aC (gW _) ?_|refine aD (gW _) ?_|simp[MG]);all_goals simp[bn,lO,aT,aU,aS]
  have zT:(k !=1)=true:=by simp[aX]
  have zU:(k !=3)=true:=by simp[b6]
  have Lw:(n !=0)=false:=Bs (by simp[aX,b6]);subst c6;refine bE eD mA mP fun aR=>?_;unfold lW;simp[b5.kind,b5.num,b5.name,b5.args];(with_reducible repeat' first|refine aj ?_|refine aC (ds _ _ _) ?_|refine aD (ds _ _ _) ?_|refine aC (gW _) ?_|refine aD (gW _) ?_|simp[zT,zU,Lw,Ga,MG]);all_goals simp[bn,lO,aT,aU,aS]
 rw[if_neg b9]at c6;by_cases gR:k=0
 ·subst gR;have n0:n=0:=by simpa using Bs (by decide)
  have s0:s=[]:=Classical.byContradiction fun h=>b9 ⟨Ω,h⟩;subst n0 s0;by_cases a0:args=[];rotate_left
  ·rw[if_pos ⟨Ω,a0⟩]at c6;have tV:(0:Int)<args.length:=by have:=List.length_pos_iff.2 a0;omega
   subst c6;refine bE eD mA mP fun aR=>?_;unfold lW;simp[b5.kind,b5.num,b5.name,b5.args];((with_reducible repeat' first|refine aj ?_|refine aC (ds _ _ _) ?_|refine aD (ds _ _ _) ?_|refine aC (gW _) ?_|refine aD (gW _) ?_|simp[rh,tV]|((first|apply bD|apply bH|apply bG)<;>intro h<;>try simp at h))<;>(try exact b2));all_goals simp[bn,lO,aT,aU,aS]
  rw[if_neg (by simp[a0])]at c6;subst a0;simp at c6;subst c6;refine bE eD mA mP fun aR=>?_;unfold lW;simp[b5.kind,b5.num,b5.name,b5.args];(with_reducible repeat' first|refine aj ?_|refine aC (ds _ _ _) ?_|refine aD (ds _ _ _) ?_|refine aC (gW _) ?_|refine aD (gW _) ?_|simp[rh]);all_goals simp[bn,lO,aT,aU,aS]
 by_cases aX:k=1
 ·subst aX;have s0:s=[]:=Classical.byContradiction fun h=>b9 ⟨Ω,h⟩;subst s0;by_cases a0:args=[];rotate_left
  ·rw[if_pos ⟨Ω,a0⟩]at c6;have tV:(0:Int)<args.length:=by have:=List.length_pos_iff.2 a0;omega
   subst c6;refine bE eD mA mP fun aR=>?_;unfold lW;simp[b5.kind,b5.num,b5.name,b5.args];((with_reducible repeat' first|refine aj ?_|refine aC (ds _ _ _) ?_|refine aD (ds _ _ _) ?_|refine aC (gW _) ?_|refine aD (gW _) ?_|simp[rh,tV]|((first|apply bD|apply bH|apply bG)<;>intro h<;>try simp at h))<;>(try exact b2));all_goals simp[bn,lO,aT,aU,aS]
  rw[if_neg (by simp[a0])]at c6;subst a0;simp at c6;subst c6;refine bE eD mA mP fun aR=>?_;unfold lW;simp[b5.kind,b5.num,b5.name,b5.args];(with_reducible repeat' first|refine aj ?_|refine aC (ds _ _ _) ?_|refine aD (ds _ _ _) ?_|refine aC (gW _) ?_|refine aD (gW _) ?_|simp[rh]);all_goals simp[bn,lO,aT,aU,aS]
 by_cases bg:k=2
 ·subst bg;have n0:n=0:=by simpa using Bs (by decide)
  subst n0;by_cases a0:args=[];rotate_left
  ·rw[if_pos ⟨Ω,a0⟩]at c6;have tV:(0:Int)<args.length:=by have:=List.length_pos_iff.2 a0;omega
   subst c6;refine bE eD mA mP fun aR=>?_;unfold lW;simp[b5.kind,b5.num,b5.name,b5.args];((with_reducible repeat' first|refine aj ?_|refine aC (ds _ _ _) ?_|refine aD (ds _ _ _) ?_|refine aC (gW _) ?_|refine aD (gW _) ?_|simp[rh,tV]|((first|apply bD|apply bH|apply bG)<;>intro h<;>try simp at h))<;>(try exact b2));all_goals simp[bn,lO,aT,aU,aS]
  rw[if_neg (by simp[a0])]at c6;subst a0;simp at c6;subst c6;refine bE eD mA mP fun aR=>?_;unfold lW;simp[b5.kind,b5.num,b5.name,b5.args];(with_reducible repeat' first|refine aj ?_|refine aC (ds _ _ _) ?_|refine aD (ds _ _ _) ?_|refine aC (gW _) ?_|refine aD (gW _) ?_|simp[rh]);all_goals simp[bn,lO,aT,aU,aS]
 by_cases b6:k=3
 ·subst b6;have s0:s=[]:=Classical.byContradiction fun h=>b9 ⟨Ω,h⟩;subst s0;by_cases a0:args=[];rotate_left
  ·rw[if_pos ⟨Ω,a0⟩]at c6;have tV:(0:Int)<args.length:=by have:=List.length_pos_iff.2 a0;omega
   subst c6;refine bE eD mA mP fun aR=>?_;unfold lW;simp[b5.kind,b5.num,b5.name,b5.args];((with_reducible repeat' first|refine aj ?_|refine aC (ds _ _ _) ?_|refine aD (ds _ _ _) ?_|refine aC (gW _) ?_|refine aD (gW _) ?_|simp[rh,tV]|((first|apply bD|apply bH|apply bG)<;>intro h<;>try simp at h))<;>(try exact b2));all_goals simp[bn,lO,aT,aU,aS]
  rw[if_neg (by simp[a0])]at c6;subst a0;simp at c6;subst c6;refine bE eD mA mP fun aR=>?_;unfold lW;simp[b5.kind,b5.num,b5.name,b5.args];(with_reducible repeat' first|refine aj ?_|refine aC (ds _ _ _) ?_|refine aD (ds _ _ _) ?_|refine aC (gW _) ?_|refine aD (gW _) ?_|simp[rh]);all_goals simp[bn,lO,aT,aU,aS]
 by_cases cT:k=4
 ·subst cT;have n0:n=0:=by simpa using Bs (by decide)
  have s0:s=[]:=Classical.byContradiction fun h=>b9 ⟨Ω,h⟩;subst n0 s0;simp at c6;match args,c6 with
  |[a,b],c6=>
   simp[b5.sz,b5.szL]at aI;have a7:=bO a Ω;have ab:=bO b Ω;simp only[u9]at c6;subst c6;refine bE eD mA mP fun aR=>?_;unfold lW;simp[b5.kind,b5.num,b5.name,b5.args];cases q:shp a with
   |true=>rw[q]at a7;(with_reducible repeat' first|refine aj ?_|refine aC a7 ?_|refine aD a7 ?_|refine aC ab ?_|refine aD ab ?_|simp[rh]);all_goals simp[bn,lO,aT,aU,aS]
   |false=>rw[q]at a7;(with_reducible repeat' first|refine aj ?_|refine aC a7 ?_|refine aD a7 ?_|refine aC ab ?_|refine aD ab ?_|simp[rh]);all_goals simp[bn,lO,aT,aU,aS]
  |[],c6=>simp only[u9]at c6;subst c6;refine bE eD mA mP fun aR=>?_;unfold lW;simp[b5.kind,b5.num,b5.name,b5.args];(with_reducible repeat' first|refine aj ?_|refine aC (ds _ _ _) ?_|refine aD (ds _ _ _) ?_|refine aC (gW _) ?_|refine aD (gW _) ?_|simp[rh]);all_goals simp[bn,lO,aT,aU,aS]
  |[_],c6=>simp only[u9]at c6;subst c6;refine bE eD mA mP fun aR=>?_;unfold lW;simp[b5.kind,b5.num,b5.name,b5.args];(with_reducible repeat' first|refine aj ?_|refine aC (ds _ _ _) ?_|refine aD (ds _ _ _) ?_|refine aC (gW _) ?_|refine aD (gW _) ?_|simp[rh]);all_goals simp[bn,lO,aT,aU,aS]
  |_::_::_::l,c6=>
   simp only[u9]at c6;have au:((l.length:Int)+1+1+1==2)=false:=by simp;omega
   subst c6;refine bE eD mA mP fun aR=>?_;unfold lW;simp[b5.kind,b5.num,b5.name,b5.args];(with_reducible repeat' first|refine aj ?_|refine aC (ds _ _ _) ?_|refine aD (ds _ _ _) ?_|refine aC (gW _) ?_|refine aD (gW _) ?_|simp[au]);all_goals simp[bn,lO,aT,aU,aS]
 have n0:(n !=0)=false:=Bs (by simp[aX,b6]);have s0:s=[]:=Classical.byContradiction fun h=>b9 ⟨bg,h⟩;subst s0;have TC:(k==0)=false:=by simp[gR]
 have zT:(k==1)=false:=by simp[aX]
 have Ga:(k==2)=false:=by simp[bg]
 have zU:(k==3)=false:=by simp[b6]
 have TG:(k==4)=false:=by simp[cT]
 have TD:(k !=1)=true:=by simp[aX]
 have TE:(k !=2)=true:=by simp[bg]
 have TF:(k !=3)=true:=by simp[b6]
 have TH:(k !=4)=true:=by simp[cT]
 by_cases a0:args=[]
 ·subst a0;simp[gR,aX,bg,b6,cT]at c6;subst c6;refine bE eD mA mP fun aR=>?_;unfold lW;simp[b5.kind,b5.num,b5.name,b5.args];(with_reducible repeat' first|refine aj ?_|refine aC (ds _ _ _) ?_|refine aD (ds _ _ _) ?_|refine aC (gW _) ?_|refine aD (gW _) ?_|simp[TC,zT,Ga,zU,TG,TD,TE,TF,TH,n0]);all_goals simp[bn,lO,aT,aU,aS]
 ·rw[if_pos ⟨cT,a0⟩]at c6;have tV:(0:Int)<args.length:=by have:=List.length_pos_iff.2 a0;omega
  subst c6;refine bE eD mA mP fun aR=>?_;unfold lW;simp[b5.kind,b5.num,b5.name,b5.args];((with_reducible repeat' first|refine aj ?_|refine aC (ds _ _ _) ?_|refine aD (ds _ _ _) ?_|refine aC (gW _) ?_|refine aD (gW _) ?_|simp[tV,TC,zT,Ga,zU,TG,TD,TE,TF,TH,n0]|((first|apply bD|apply bH|apply bG)<;>intro h<;>try simp at h))<;>(try exact b2));all_goals simp[bn,lO,aT,aU,aS]
theorem D6(t:b5):bZ ay 76 [enc t] (.bool t.fits):=by
 rw[acZ];have aq:=Xx t 5000 Ω Ω;have af:=amy t.sz t (eC _);refine bE eD acm ajd fun aR=>?_;unfold PZ;simp;by_cases q:ly t 5000<=5000
 ·exact c0
 ·exact c0
def y5:C:=(aa [c3 2 0,bu 4 false] (.seq (aa [aH 7 3 1 2,ax 8 1 7,cD 9 8,b7 10 0] (fj 11 10 9 (.seq (.block 1 (aa [cJ 12 4 8 10,a8 13 4 12,da 6 dm,bC 4 6 13] (aa [a8 14 4 6,I 15 1,cg 16 77 14 15] (aV 16 (aa [bu 4 true] .ret) .skip)))) (.region [aQ 17 .add 10 1,I 10 17])))) (aa [aH 18 0 1 2,ax 19 1 18,aQ 20 .eql 19 2,I 21 20,ar 21 true (aH 22 2 1 2),ar 21 true (ax 23 1 22),bU 21 true 24 1,ar 21 true (bF 25 .eql 23 24),dv 26 21 25,I 4 26] .ret)))
@[simp] def wG:List bY:=[.tmp 4]
def PU:C:=(aa [bu 2 false] (.seq (aa [I 5 0,cD 6 5,b7 7 0] (fj 8 7 6 (.seq (.block 1 (aa [I 9 7,cJ 10 2 5 7,a8 11 2 10,cH (.alloc 4 none (.agg [.int .i64 0,.int .i64 0])),I 3 9,bC 2 4 11] (.seq (.drawn true 42 [I 12 3,aQ 13 .gtr 12 0,I 14 13,bU 14 true 15 0,bU 14 true 16 3,ar 14 true (aQ 17 .sub 16 1),ar 14 true (cJ 18 2 15 17),ar 14 true (aH 19 0 1 18),ar 14 true (ax 20 1 19),ar 14 true (aH 21 0 1 4),ar 14 true (ax 22 1 21),ar 14 true (bF 23 .geq 20 22),dv 24 14 23,I 25 24,ar 25 false (aH 26 0 1 4),ar 25 false (ax 27 1 26),ar 25 false (c1 28 141 [.t 27,(dI 0),(dI 100000)]),ar 25 false (cB 29 28),cW 30 25 29,I 31 30,ar 31 false (aH 32 1 1 4),ar 31 false (ax 33 1 32),ar 31 false (aQ 34 .neq 33 2),bU 31 false 35 34,ar 35 true (aH 36 1 1 4),ar 35 true (ax 37 1 36),ar 35 true (aQ 38 .neq 37 3),ar 31 false (dv 39 35 38),cW 40 31 39]) (aV 40 (aa [bu 2 false] .ret) .skip)))) (.region [aQ 41 .add 7 1,I 7 41])))) (aa [bu 2 true] .ret)))
@[simp] def Dy:List bY:=[.tmp 2]
def PX:C:=(aa [bu 2 false] (.seq (aa [I 5 0,cD 6 5,b7 7 0] (fj 8 7 6 (.seq (.block 1 (aa [I 9 7,cJ 10 2 5 7,a8 11 2 10,cH (.alloc 4 none (.agg [.int .i64 0,.str []])),I 3 9,bC 2 4 11] (.seq (.drawn true 37 [I 12 3,aQ 13 .gtr 12 0,I 14 13,bU 14 true 15 0,bU 14 true 16 3,ar 14 true (aQ 17 .sub 16 1),ar 14 true (cJ 18 2 15 17),ar 14 true (a8 19 2 18),ar 14 true (a8 20 2 4),ar 14 true (cg 21 215 19 20),ar 14 true (cB 22 21),dv 23 14 22,I 24 23,ar 24 false (aH 25 0 1 4),ar 24 false (ax 26 1 25),ar 24 false (c1 27 141 [.t 26,(dI 0),(dI 100000)]),ar 24 false (cB 28 27),cW 29 24 28,I 30 29,ar 30 false (aH 31 1 1 4),ar 30 false (ax 32 1 31),ar 30 false (cV 33 216 32),ar 30 false (cB 34 33),cW 35 30 34]) (aV 35 (aa [bu 2 false] .ret) .skip)))) (.region [aQ 36 .add 7 1,I 7 36])))) (aa [bu 2 true] .ret)))
@[simp] def AG:List bY:=[.tmp 2]
def y6:C:=(aa [c3 4 1,ey 6 2,bu 7 false] (.seq (aa [aH 10 0 1 4,ax 11 1 10,aQ 12 .neq 11 1] (aV 12 (.seq (.drawn true 73 [I 13 0,aH 14 0 1 4,ax 15 1 14,I 16 2,bF 17 .eql 15 16,I 6 13,I 7 17]) .ret) .skip)) (aa [b7 8 0] (.seq (.block 0 (.loop (.seq (.seq (.drawn true 73 [I 18 8,I 19 0,cD 20 19,bF 21 .lss 18 20,I 22 21,bU 22 true 23 0,bU 22 true 24 8,ar 22 true (cJ 25 2 23 24),ar 22 true (aH 26 0 1 25),ar 22 true (ax 27 1 26),ar 22 true (aH 28 1 1 4),ar 22 true (ax 29 1 28),ar 22 true (bF 30 .lss 27 29),dv 31 22 30]) (aV 31 .skip (.exit 0))) (.block 1 (.region [I 32 8,aQ 33 .add 32 1,I 8 33]))))) (.seq (.seq (.drawn true 73 [I 34 8,I 35 0,cD 36 35,bF 37 .lss 34 36,I 38 37,bU 38 true 39 0,bU 38 true 40 8,ar 38 true (cJ 41 2 39 40),ar 38 true (aH 42 0 1 41),ar 38 true (ax 43 1 42),ar 38 true (aH 44 1 1 4),ar 38 true (ax 45 1 44),ar 38 true (bF 46 .eql 43 45),dv 47 38 46]) (aV 47 (.seq (.drawn true 73 [I 48 0,I 49 0,I 50 8,cJ 51 2 49 50,aH 52 1 1 51,ax 53 1 52,I 54 2,bF 55 .eql 53 54,I 6 48,I 7 55]) .ret) .skip)) (aa [ec 56 2 104 [],I 57 0,I 58 8,bQ 59 (.lsl 2 (.t 57) none (some (.t 58))),gY 60 2 104 56 59,I 9 60] (aa [I 61 9,aH 62 1 1 4,ax 63 1 62,I 64 2,bQ 65 (.build [.int .i64 0,.int .i64 0] [(0,1,(.t 63)),(1,1,(.t 64))]),ec 66 2 104 [.t 65],gY 67 2 104 61 66,I 9 67] (aa [I 68 9,I 69 0,I 70 8,bQ 71 (.lsl 2 (.t 69) (some (.t 70)) none),gY 72 2 104 68 71,I 6 72,bu 7 true] .ret))))))))
@[simp] def wH:List bY:=[.tmp 6,.tmp 7]
def IK:C:=(aa [c3 4 1,ey 6 2,bu 7 false] (.seq (aa [a8 13 4 4,I 14 2,cg 15 77 13 14] (aV 15 (aa [ey 6 2,bu 7 false] .ret) .skip)) (.seq (aa [a8 16 4 4,c1 17 165 [.t 16,(.c (.slice 1 .nil []))],cD 18 17,b7 19 0] (fj 20 19 18 (.seq (.block 1 (aa [cJ 21 1 17 19,ax 22 1 21,I 9 22] (aa [I 23 9,I 24 2,bQ 25 (.build [.int .i64 0,.str []] [(0,1,(.t 23)),(1,1,(.t 24))]),cH (.alloc 10 none (.agg [.int .i64 0,.str []])),bC 2 10 25] (aa [b7 11 0] (.seq (.block 2 (.loop (.seq (.seq (.drawn true 68 [I 26 11,I 27 0,cD 28 27,bF 29 .lss 26 28,I 30 29,bU 30 true 31 0,bU 30 true 32 11,ar 30 true (cJ 33 2 31 32),ar 30 true (a8 34 2 33),ar 30 true (a8 35 2 10),ar 30 true (cg 36 215 34 35),dv 37 30 36]) (aV 37 .skip (.exit 2))) (.block 3 (.region [I 38 11,aQ 39 .add 38 1,I 11 39]))))) (.seq (.drawn true 68 [I 40 11,I 41 0,cD 42 41,bF 43 .eql 40 42,I 44 43,ar 44 false (a8 45 2 10),bU 44 false 46 0,bU 44 false 47 11,ar 44 false (cJ 48 2 46 47),ar 44 false (a8 49 2 48),ar 44 false (cg 50 215 45 49),cW 51 44 50]) (aV 51 (aa [ec 52 2 106 [],I 53 0,I 54 11,bQ 55 (.lsl 2 (.t 53) none (some (.t 54))),gY 56 2 106 52 55,I 12 56] (aa [I 57 12,a8 58 2 10,ec 59 2 106 [.t 58],gY 60 2 106 57 59,I 12 60] (.region [I 61 12,I 62 0,I 63 11,bQ 64 (.lsl 2 (.t 62) (some (.t 63)) none),gY 65 2 106 61 64,I 0 65]))) .skip))))))) (.fg false 0 (.region [aQ 66 .add 19 1,I 19 66]))))) (aa [I 67 0,I 6 67,bu 7 true] .ret))))
@[simp] def Mq:List bY:=[.tmp 6,.tmp 7]
def ER:C:=(aa [c3 2 0,c3 3 1,bu 4 false] (aa [aH 5 0 1 2,ax 6 1 5,aH 7 0 1 3,ax 8 1 7,bF 9 .lss 6 8,I 10 9,ar 10 false (aH 11 0 1 2),ar 10 false (ax 12 1 11),ar 10 false (aH 13 0 1 3),ar 10 false (ax 14 1 13),ar 10 false (bF 15 .eql 12 14),bU 10 false 16 15,ar 16 true (aH 17 1 1 2),ar 16 true (ax 18 1 17),ar 16 true (aH 19 1 1 3),ar 16 true (ax 20 1 19),ar 16 true (bF 21 .lss 18 20),ar 10 false (dv 22 16 21),cW 23 10 22,I 4 23] .ret))
@[simp] def akG:List bY:=[.tmp 4]
def Qp:C:=(aa [ey 4 2,bu 5 false] (aa [ec 10 2 104 [],I 6 10] (aa [bu 7 true] (.seq (.seq (.fg false 6 (.region [I 11 1,cD 12 11,b7 13 0])) (fj 14 13 12 (.seq (.block 1 (aa [cJ 15 2 11 13,a8 16 2 15,cH (.alloc 9 none (.agg [.int .i64 0,.int .i64 0])),bC 2 9 16] (.seq (.drawn true 33 [I 18 6,I 19 0,aH 20 0 1 9,ax 21 1 20,cV 22 91 21,cg 23 236 19 22,aH 24 1 1 9,ax 25 1 24,c1 26 178 [.t 18,.t 23,.t 25],I 17 26,cu 27 0 17,cu 28 1 17,I 6 27,I 7 28]) (aa [I 29 7,cB 30 29] (aV 30 (aa [ey 4 2,bu 5 false] .ret) .skip))))) (.region [aQ 31 .add 13 1,I 13 31])))) (aa [I 32 6,I 4 32,bu 5 true] .ret)))))
@[simp] def Mp:List bY:=[.tmp 4,.tmp 5]
def Qq:C:=(aa [ey 4 2,bu 5 false] (aa [ec 10 2 106 [],I 6 10] (aa [bu 7 true] (.seq (.seq (.fg false 6 (.region [I 11 1,cD 12 11,b7 13 0])) (fj 14 13 12 (.seq (.block 1 (aa [cJ 15 2 11 13,a8 16 2 15,cH (.alloc 9 none (.agg [.int .i64 0,.str []])),bC 2 9 16] (.seq (.drawn true 33 [I 18 6,I 19 0,aH 20 0 1 9,ax 21 1 20,cV 22 91 21,cg 23 236 19 22,aH 24 1 1 9,ax 25 1 24,c1 26 179 [.t 18,.t 23,.t 25],I 17 26,cu 27 0 17,cu 28 1 17,I 6 27,I 7 28]) (aa [I 29 7,cB 30 29] (aV 30 (aa [ey 4 2,bu 5 false] .ret) .skip))))) (.region [aQ 31 .add 13 1,I 13 31])))) (aa [I 32 6,I 4 32,bu 5 true] .ret)))))
@[simp] def Mr:List bY:=[.tmp 4,.tmp 5]
def ve:List (Nat×dA):=[
 (3,⟨1,8,.int .i64,.int .i64 0⟩),
 (9,⟨1,16,.str,.str []⟩),
 (25,⟨1,24,.slice 104,.slice 2 .nil []⟩),
 (26,⟨1,24,.slice 106,.slice 2 .nil []⟩),
 (30,⟨1,24,.slice 32,.slice 4 .nil []⟩),
 (32,⟨4,56,.struct [(0,3),(1,3),(2,9),(3,30)],.agg [.int .i64 0,.int .i64 0,.str [],.slice 4 .nil []]⟩),
 (104,⟨2,16,.struct [(0,3),(1,3)],.agg [.int .i64 0,.int .i64 0]⟩),
 (106,⟨2,24,.struct [(0,3),(1,9)],.agg [.int .i64 0,.str []]⟩),
 (112,⟨1,24,.slice 3,.slice 1 .nil []⟩)]
theorem mh:fN ay ve=true:=by kernel_rfl
theorem Dj:ca ve y5 wG 2 Tryz.f77=true:=by kernel_rfl
theorem BL:ay.funcs[(77:Nat)]? =some Tryz.f77:=Tryz.func77
theorem ai8:ca ve PU Dy 1 Tryz.f144=true:=by kernel_rfl
theorem acg:ay.funcs[(144:Nat)]? =some Tryz.f144:=Tryz.func144
theorem ajb:ca ve PX AG 1 Tryz.f145=true:=by kernel_rfl
theorem acj:ay.funcs[(145:Nat)]? =some Tryz.f145:=Tryz.func145
theorem Dk:ca ve y6 wH 3 Tryz.f178=true:=by kernel_rfl
theorem BM:ay.funcs[(178:Nat)]? =some Tryz.f178:=Tryz.func178
theorem U6:ca ve IK Mq 3 Tryz.f179=true:=by kernel_rfl
theorem Rj:ay.funcs[(179:Nat)]? =some Tryz.f179:=Tryz.func179
theorem LQ:ca ve ER akG 2 Tryz.f215=true:=by kernel_rfl
theorem Jk:ay.funcs[(215:Nat)]? =some Tryz.f215:=Tryz.func215
theorem ajD:ca ve Qp Mp 2 Tryz.f217=true:=by kernel_rfl
theorem acN:ay.funcs[(217:Nat)]? =some Tryz.f217:=Tryz.func217
theorem ajE:ca ve Qq Mr 2 Tryz.f218=true:=by kernel_rfl
theorem acO:ay.funcs[(218:Nat)]? =some Tryz.f218:=Tryz.func218
open Classical in
theorem am0(l:List b4):bZ ay 144 [.slice 2 .no (l.map b4.e)] (.bool (decide (ir l))):=by
 generalize bS:decide (ir l)=R;refine bE mh acg ai8 fun aR=>?_;unfold PU;have iH:l.length<=68719476736:=by simp[ij,ho,hN,lim]at aR;omega
 simp;refine eQ [0,5,6] (fun i (_:Unit)=>[(7,.int .i64 i)]) l.length (fun i _=> ∀j,j<i->ie l8 nr l j) () cb (fun k ad=>Ω) (fun _ ag _=>?_) (fun i _ hi ag _=>?_)
 ·have:R=true:=by rw[<-bS,eF,Gd];exact ag
  rw[this];exact c0
 ·obtain⟨b,ab⟩:∃b,l[i]? =some b:=⟨_,cr hi⟩;obtain⟨c,aq⟩:∃c,l[i-1]? =some c:=⟨_,cr Ω⟩;have cq:∀h,(l[i]'h)=b:=fun h=>by rw[cr hi]at ab;exact gu ab
  have c8:¬ie l8 nr l i->R=false:=fun h=>by rw[<-bS,hx];exact fun ck=>h (Gd.1 ck i hi)
  have dh:ie l8 nr l i->∀j,j<i+1->ie l8 nr l j:=fun h j jx=>by
   by_cases e:j=i
   ·rw[e];exact h
   ·exact ag j Ω
  have lY:ie l8 nr l i->l8 b:=fun h=>(h b ab).1;have bt:ie l8 nr l i->0<i->c.v<b.v:=fun h bA=>(h b ab).2 c bA aq;have e0:l8 b->(0<i->c.v<b.v)->ie l8 nr l i:=fun J U b0 fX=>by rw[ab]at fX;cases fX;exact⟨J,fun cl bA hA=>by rw[aq]at hA;cases hA;exact U bA⟩
  unfold l8 at lY e0;by_cases g0:0<i/\¬c.v<b.v
  ·rw[c8 (fun h=>g0.2 (bt h g0.1))];have aoK:=g0.1;have vx:b.v<=c.v:=Ω
   exact c0
  have aG:(decide (0<i)&&decide (b.v<=c.v))=false:=by simp;intro h;by_cases cw:c.v<b.v;exact cw;exact absurd ⟨h,cw⟩ g0
  by_cases g1:0<=b.v/\b.v<=100000;rotate_left
  ·rw[c8 (fun h=>g1 (lY h).1)];have k9:decide (0<=b.v/\b.v<=100000)=false:=by simp only[hx];exact g1
   by_cases bA:0<i
   ·have vx:¬b.v<=c.v:=by simp[bA]at aG;omega
    simp[hi,cq,aq];(with_reducible repeat' first|refine aj ?_|refine aC (ds _ _ _) ?_|refine aD (ds _ _ _) ?_|simp[cq,aq,hi,bA,vx,k9,g1]);all_goals simp[bn,Dy,aT,aU,aS]
   ·obtain rfl:i=0:=Ω
    simp[hi,cq,aq];(with_reducible repeat' first|refine aj ?_|refine aC (ds _ _ _) ?_|refine aD (ds _ _ _) ?_|simp[cq,aq,hi,k9,g1]);all_goals simp[bn,Dy,aT,aU,aS]
  have k9:decide (0<=b.v/\b.v<=100000)=true:=by simp only[eF];exact g1
  by_cases g2:b.k=2\/b.k=3;rotate_left
  ·rw[c8 (fun h=>g2 (lY h).2)];have g21:(b.k !=2)=true:=by simp;omega
   have g22:(b.k !=3)=true:=by simp;omega
   by_cases bA:0<i
   ·have vx:¬b.v<=c.v:=by simp[bA]at aG;omega
    simp[hi,cq,aq];(with_reducible repeat' first|refine aj ?_|refine aC (ds _ _ _) ?_|refine aD (ds _ _ _) ?_|simp[cq,aq,hi,bA,vx,k9,g1,g21,g22]);all_goals simp[bn,Dy,aT,aU,aS]
   ·obtain rfl:i=0:=Ω
    simp[hi,cq,aq];(with_reducible repeat' first|refine aj ?_|refine aC (ds _ _ _) ?_|refine aD (ds _ _ _) ?_|simp[cq,aq,hi,k9,g1,g21,g22]);all_goals simp[bn,Dy,aT,aU,aS]
  have dF:=dh (e0 ⟨g1,g2⟩ fun bA=>by simp[bA]at aG;omega);have Fg:((b.k !=2)=false)\/((b.k !=2)=true/\(b.k !=3)=false):=by
   rcases g2 with h|h
   ·left;simp[h]
   ·right;simp[h]
  rcases Fg with g21|⟨g21,g22⟩
  ·by_cases bA:0<i
   ·have vx:¬b.v<=c.v:=by simp[bA]at aG;omega
    simp[hi,cq,aq];(with_reducible repeat' first|refine aj ?_|refine aC (ds _ _ _) ?_|refine aD (ds _ _ _) ?_|simp[cq,aq,hi,bA,vx,k9,g1,g21]);all_goals exact bR.rng () hi dF cb
   ·obtain rfl:i=0:=Ω
    simp[hi,cq,aq];(with_reducible repeat' first|refine aj ?_|refine aC (ds _ _ _) ?_|refine aD (ds _ _ _) ?_|simp[cq,aq,hi,k9,g1,g21]);all_goals exact bR.rng () hi dF cb
  ·by_cases bA:0<i
   ·have vx:¬b.v<=c.v:=by simp[bA]at aG;omega
    simp[hi,cq,aq];(with_reducible repeat' first|refine aj ?_|refine aC (ds _ _ _) ?_|refine aD (ds _ _ _) ?_|simp[cq,aq,hi,bA,vx,k9,g1,g21,g22]);all_goals exact bR.rng () hi dF cb
   ·obtain rfl:i=0:=Ω
    simp[hi,cq,aq];(with_reducible repeat' first|refine aj ?_|refine aC (ds _ _ _) ?_|refine aD (ds _ _ _) ?_|simp[cq,aq,hi,k9,g1,g21,g22]);all_goals exact bR.rng () hi dF cb
theorem lR(a b:br):bZ ay 215 [a.e,b.e] (.bool (hK e9 a b)):=by
 rw[<-UK];have bS:tw a b=(decide (a.v<b.v)||(a.v==b.v&&ht a.s b.s)):=rfl;rcases Int.lt_trichotomy a.v b.v with h|h|h
 ·have:tw a b=true:=by rw[bS];simp[h]
  rw[this];refine bE mh Jk LQ fun aR=>?_;unfold ER;exact c0
 ·have J:¬a.v<b.v:=Ω
  have U:(a.v==b.v)=true:=by simp[h]
  have:tw a b=ht a.s b.s:=by rw[bS];simp[h]
  rw[this];refine bE mh Jk LQ fun aR=>?_;unfold ER;exact c0
 ·have J:¬a.v<b.v:=Ω
  have U:¬a.v=b.v:=Ω
  have al:(a.v==b.v)=false:=by simp[U]
  have:tw a b=false:=by rw[bS];simp[J,U]
  rw[this];refine bE mh Jk LQ fun aR=>?_;unfold ER;exact c0
def Tz(l:List dO)(i:Nat)(_:Unit):Prop:= ∀j,j<i->Am l j
open Classical in
theorem XB(l:List dO):bZ ay 164 [.slice 5 .no (l.map dO.e)] (.bool (decide (vj l))):=by
 generalize bS:decide (vj l)=R;refine bE eD acG ajw fun aR=>?_;unfold Qi;have iH:l.length<=68719476736:=by simp[ij,ho,hN,lim]at aR;omega
 simp;refine eQ [0,5,6] (fun i (_:Unit)=>[(7,.int .i64 i)]) l.length (Tz l) () cb (fun k ad=>Ω) (fun _ ag _=>?_) (fun i _ hi ag _=>?_)
 ·have:R=decide (l.length<=400):=by rw[<-bS,decide_eq_decide];exact⟨fun h=>h.1,fun h=>⟨h,fun j jx=>ag j jx⟩⟩
  rw[this];simp;(with_reducible repeat' first|refine aj ?_|simp);simp[bn,Mn,aT,aU,aS];all_goals(first|done|omega|(simp;done)|(simp;omega))
 ·obtain⟨b,ab⟩:∃b,l[i]? =some b:=⟨_,cr hi⟩;obtain⟨c,aq⟩:∃c,l[i-1]? =some c:=⟨_,cr Ω⟩;have cq:∀h,(l[i]'h)=b:=fun h=>by rw[cr hi]at ab;exact gu ab
  have c8:¬Am l i->R=false:=fun h=>by rw[<-bS,hx];exact fun ck=>h (ck.2 i hi)
  have dh:Am l i->Tz l (i+1) ():=fun h j jx=>by
   by_cases e:j=i
   ·rw[e];exact h
   ·exact ag j Ω
  simp[hi,cq,aq];((with_reducible repeat' first|refine aj ?_|refine aC (ds _ _ _) ?_|refine aD (ds _ _ _) ?_|refine aC (D6 _) ?_|refine aD (D6 _) ?_|simp[cq,aq,hi]|((first|apply bD|apply bH|apply bG)<;>intro h<;>try simp at h))<;>(try exact b2));all_goals first
   |(have az:¬Am l i:=by(intro ck;have J:=ck b ab;have U:=J.2.1 c;have al:=J.2.2;first|omega|(have a1:=U Ω aq;omega)|(rw[al]at h;cases h)|(simp_all;done)|(simp_all;omega))
     rw[c8 az]
     simp[bn,Mn,aT,aU,aS]
     done)
   |(refine bR.rng () hi (dh fun b0 fX=>?_) ?_
     ·rw[ab]at fX;cases fX
      refine⟨?_,fun cl bA hA=>?_,?_⟩
      ·omega
      ·rw[aq]at hA;cases hA;omega
      ·first|assumption|simp_all
     ·exact cb)
def mJ(n:Int):List Int->List Int
 |[]=>[n]
 |c::l=>if c<n then c::mJ n l else if c=n then c::l else n::c::l
def sD(l:List Int):Prop:=l.Pairwise (· < ·)
theorem Tr(n:Int):∀(l:List Int) (k:Nat),(∀i c,i<k->l[i]? =some c->c<n)->(∀c,l[k]? =some c->n<=c)->k<=l.length->mJ n l=if l[k]? =some n then l else l.take k++n::l.drop k
 |[],k,_,_,ad=>by simp at ad;subst ad;rfl
 |c::l,0,_,U,_=>by
  have:=U c rfl;by_cases e:c=n
  ·simp[mJ,e]
  ·have al:¬c<n:=Ω
   simp[mJ,al,e]
 |c::l,k+1,J,U,ad=>by have bA:=J 0 c Ω rfl;simp only[mJ,if_pos bA,List.take_succ_cons,List.drop_succ_cons,bV,List.getElem?_cons_succ];rw[Tr n l k (fun i d hi aG=>J (i+1) d Ω (by simpa using aG)) (fun d aG=>U d (by simpa using aG)) (by simpa using ad)];split<;>rfl
theorem Lo{n m:Int}:∀{l:List Int},m∈mJ n l↔m=n\/m∈l
 |[]=>by simp[mJ]
 |c::l=>by
  simp only[mJ];split
  ·simp only[fI,Lo (l:=l)];constructor
   ·rintro(h|h|h)
    ·exact .inr (.inl h)
    ·exact .inl h
    ·exact .inr (.inr h)
   ·rintro(h|h|h)
    ·exact .inr (.inl h)
    ·exact .inl h
    ·exact .inr (.inr h)
  ·split
   ·rename_i h;subst h;simp
   ·simp
theorem Tq{n:Int}:∀{l:List Int},sD l->sD (mJ n l)
 |[],_=>by simp[mJ,sD]
 |c::l,h=>by
  obtain⟨J,U⟩:=mS.1 h;simp only[mJ];split
  ·rename_i al;refine mS.2 ⟨fun m hm=>?_,Tq U⟩;rcases Lo.1 hm with rfl|hm
   ·exact al
   ·exact J m hm
  ·split
   ·exact h
   ·refine mS.2 ⟨fun m hm=>?_,h⟩;rcases fI.1 hm with rfl|hm
    ·omega
    ·have:=J m hm;omega
theorem Ts(n:Int):∀l:List Int,(mJ n l).length<=l.length+1
 |[]=>by simp[mJ]
 |c::l=>by
  have:=Ts n l;simp only[mJ];split
  ·simp;omega
  ·split<;>simp
theorem CM(l:List Int)(i:Nat):(dX l)[i]? =(l[i]?).map (ai.int .i64):=by simp[dX]
theorem eY(l:List Int):(dX l).length=l.length:=by simp[dX]
theorem yF:∀l:List Int,dr (dX l)=dX l
 |[]=>by simp[dX,dr]
 |a::l=>by have:=yF l;simp only[dX,eO,dr,ev]at this⊢;rw[this]
theorem F5(l:List Int)(n:Int)(k:Nat):dr (oY k (dX l)++ai.int .i64 n::List.drop k (oY l.length (dX l)))=dX (oY k l++n::List.drop k l):=by
 have e:oY l.length (dX l)=dX l:=hv (by simp[dX]);have aF:oY k (dX l)++ai.int .i64 n::List.drop k (dX l)=dX (oY k l++n::List.drop k l):=by simp only[dX,List.map_append,eO,List.map_take,List.map_drop]
 rw[e,aF];exact yF _
theorem amx(l:List Int)(n:Int)(au:l.length<=1000000)(a7:sD l):bZ ay 230 [.slice 1 .no (dX l),.int .i64 n] (.slice 1 .no (dX (mJ n l))):=by
 refine bE eD acw ajm fun aR=>?_;unfold P8;simp;refine vt [0,1] (fun(k:Nat)=>[(5,.int .i64 k)]) (fun k=>k) (fun k=>k<=l.length/\∀c,l[k]? =some c->n<=c) l.length cb ⟨Ω,fun c h=>by simp at h⟩ (fun k ag _=>?_);obtain⟨ad,ag⟩:=ag;have s6:(∀c,0<k->l[k-1]? =some c->c<n)->mJ n l=if l[k]? =some n then l else l.take k++n::l.drop k:=fun h=>Tr n l k (fun i c hi aq=>by
  obtain⟨d,aG⟩:∃d,l[k-1]? =some d:=⟨_,cr Ω⟩;have J:=h d Ω aG;rcases Nat.lt_or_ge i (k-1)with U|U
  ·have s8:=(fp.1 aq);have mC:=(fp.1 aG);have:=oX.1 a7 i (k-1) s8.1 mC.1 U;rw[s8.2,mC.2]at this;omega
  ·have:i=k-1:=Ω
   subst this;rw[aG]at aq;cases aq;exact J) ag ad
 have kA:∀c,l[k]? =some c->∀h,((dX l)[k]'h)= .int .i64 c:=fun c h ck=>by have:=CM l k;rw[h,cr ck]at this;exact gu this
 have dF:(0<k->∃d,l[k-1]? =some d/\d<n)->∀P:Prop,(mJ n l=(if l[k]? =some n then l else l.take k++n::l.drop k)->P)->P:=fun h P aer=>aer (s6 fun c bA aq=>by obtain⟨d,aG,J⟩:=h bA;rw[aG]at aq;cases aq;exact J)
 rcases Nat.eq_zero_or_pos k with bA|fB
 ·have bk:decide ((0:Int)<k)=false:=by simp;omega
  refine dF (fun h=>Ω) _ fun e=>?_;by_cases im:k<l.length
  ·obtain⟨c,aq⟩:∃c,l[k]? =some c:=⟨_,cr im⟩;have hA:=kA c aq;rw[aq]at e;by_cases q:c=n
   ·have gD:(c==n)=true:=by simp[q]
    rw[if_pos (by rw[q])]at e;rw[e];simp[bk,im];((with_reducible repeat' first|refine aj ?_|simp[bk,im,hA,gD]|((first|apply bD|apply bH|apply bG)<;>intro h<;>try simp at h))<;>(try exact b2));all_goals simp[bn,yo,aT,aU,aS]
   ·have gD:(c==n)=false:=by simp[q]
    rw[if_neg (by simp[q])]at e;rw[e];simp[bk,im];((with_reducible repeat' first|refine aj ?_|simp[bk,im,hA,gD]|((first|apply bD|apply bH|apply bG)<;>intro h<;>try simp at h))<;>(try exact b2));all_goals simp[bn,yo,aT,aU,aS]
    all_goals exact F5 l n k
  ·rw[qp Ω]at e;simp only[reduceCtorEq,if_false]at e;rw[e];simp[bk,im];((with_reducible repeat' first|refine aj ?_|simp[bk,im]|((first|apply bD|apply bH|apply bG)<;>intro h<;>try simp at h))<;>(try exact b2));all_goals simp[bn,yo,aT,aU,aS]
   all_goals exact F5 l n k
 ·obtain⟨d,aG⟩:∃d,l[k-1]? =some d:=⟨_,cr Ω⟩;have ao:((k:Int)-1).toNat=k-1:=Ω
  have aF:∀h,((dX l)[k-1]'h)= .int .i64 d:=fun ck=>by have:=CM l (k-1);rw[aG,cr ck]at this;exact gu this
  have iU:(0:Int)<k:=Ω
  have l4:k-1<l.length:=Ω
  by_cases ab:n<=d
  ·simp[fB,iU,ao,aF,ab,l4];(with_reducible repeat' first|refine aj ?_|simp[fB,iU,ao,aF,ab,l4]);refine bR.whl (k-1) Ω ⟨Ω,fun c aq=>by rw[aG]at aq;cases aq;exact ab⟩ ?_;have bM:((k-1:Nat):Int)=(k:Int)-1:=Ω
   simp[bM];exact cb
  ·refine dF (fun _=>⟨d,aG,Ω⟩) _ fun e=>?_;by_cases im:k<l.length
   ·obtain⟨c,aq⟩:∃c,l[k]? =some c:=⟨_,cr im⟩;have hA:=kA c aq;rw[aq]at e;by_cases q:c=n
    ·have gD:(c==n)=true:=by simp[q]
     rw[if_pos (by rw[q])]at e;rw[e];simp[fB,iU,ao,aF,ab,l4,im];((with_reducible repeat' first|refine aj ?_|simp[fB,iU,ao,aF,ab,l4,im,hA,gD]|((first|apply bD|apply bH|apply bG)<;>intro h<;>try simp at h))<;>(try exact b2));all_goals simp[bn,yo,aT,aU,aS]
    ·have gD:(c==n)=false:=by simp[q]
     rw[if_neg (by simp[q])]at e;rw[e];simp[fB,iU,ao,aF,ab,l4,im];(with_reducible repeat' first|refine aj ?_|simp[fB,iU,ao,aF,ab,l4,im,hA,gD]);all_goals simp[bn,yo,aT,aU,aS]
     all_goals exact F5 l n k
   ·rw[qp Ω]at e;simp only[reduceCtorEq,if_false]at e;rw[e];simp[fB,iU,ao,aF,ab,l4,im];(with_reducible repeat' first|refine aj ?_|simp[fB,iU,ao,aF,ab,l4,im]);all_goals simp[bn,yo,aT,aU,aS]
    all_goals exact F5 l n k
def h8:T->List Int->List Int
 | .var n,l=>mJ n l
 | .pair a b,l=>h8 b (h8 a l)
 |_,l=>l
theorem Ny:∀(t:T) {l:List Int},sD l->sD (h8 t l)
 | .var _,_,h=>Tq h
 | .pair a b,_,h=>Ny b (Ny a h)
 | .nil,_,h=>h
 | .sym _,_,h=>h
 | .num _,_,h=>h
theorem C8{m:Int}:∀(t:T) {l:List Int},m∈h8 t l↔t.occ m=true\/m∈l
 | .var n,l=>by simp only[h8,Lo,T.occ,dM];constructor<;>rintro(h|h)<;>first|exact .inr h|exact .inl h.symm
 | .pair a b,l=>by
  simp only[h8,C8 b,C8 a,T.occ,ls];constructor
  ·rintro(h|h|h)
   ·exact .inl (.inr h)
   ·exact .inl (.inl h)
   ·exact .inr h
  ·rintro((h|h)|h)
   ·exact .inr (.inl h)
   ·exact .inl h
   ·exact .inr (.inr h)
 | .nil,l=>by simp[h8,T.occ]
 | .sym _,l=>by simp[h8,T.occ]
 | .num _,l=>by simp[h8,T.occ]
theorem Bc:∀(t:T) (l:List Int),(h8 t l).length<=l.length+t.size
 | .var n,l=>by have:=Ts n l;simp only[h8,T.size];omega
 | .pair a b,l=>by have J:=Bc a l;have U:=Bc b (h8 a l);simp only[h8,T.size];omega
 | .nil,l=>by simp[h8]
 | .sym _,l=>by simp[h8]
 | .num _,l=>by simp[h8]
theorem D3:∀(t:T) (l:List Int),l.length+t.size<=1000000->sD l->bZ ay 165 [t.e,.slice 1 .no (dX l)] (.slice 1 .no (dX (h8 t l)))
 | .var n,l,au,a7=>by
  simp only[T.size]at au;have key:=amx l n Ω a7;refine bE eD BK Di fun aR=>?_;unfold y4;simp;(with_reducible repeat' first|refine aj ?_|refine aC key ?_|refine aD key ?_|simp);all_goals simp[bn,AI,aT,aU,aS]
  all_goals simp[h8,yF]
 | .pair a b,l,au,a7=>by
  simp only[T.size]at au;have K2:=Bc a l;have aX:=D3 a l Ω a7;have bg:=D3 b (h8 a l) Ω (Ny a a7);refine bE eD BK Di fun aR=>?_;unfold y4;simp;refine eQ [15,16] (fun i (_:Unit)=>[(1,.slice 1 .no (dX (if i=0 then l else if i=1 then h8 a l else h8 b (h8 a l)))),(17,.int .i64 i)]) 2 (fun _ _=>True) () cb trivial (fun _ _ _=>?_) (fun i _ hi _ _=>?_)
  ·simp;(with_reducible repeat' first|refine aj ?_|simp);simp[bn,AI,aT,aU,aS];simp[h8,yF]
  ·rcases(by omega:i=0\/i=1)with rfl|rfl
   ·simp;((with_reducible repeat' first|refine aj ?_|refine aC aX ?_|refine aD aX ?_|simp|((first|apply bD|apply bH|apply bG)<;>intro h<;>try simp at h))<;>(try exact b2));exact bR.rng () hi trivial cb
   ·simp;((with_reducible repeat' first|refine aj ?_|refine aC bg ?_|refine aD bg ?_|simp|((first|apply bD|apply bH|apply bG)<;>intro h<;>try simp at h))<;>(try exact b2));exact bR.rng () hi trivial cb
 | .nil,l,au,a7=>by refine bE eD BK Di fun aR=>?_;unfold y4;simp;refine eQ [15,16] (fun i (_:Unit)=>[(1,.slice 1 .no (dX l)),(17,.int .i64 i)]) 0 (fun _ _=>True) () cb trivial (fun _ _ _=>?_) (fun i _ hi _ _=>Ω);simp;((with_reducible repeat' first|refine aj ?_|simp|((first|apply bD|apply bH|apply bG)<;>intro h<;>try simp at h))<;>(try exact b2));simp[bn,AI,aT,aU,aS];simp[h8,yF]
 | .sym _,l,au,a7=>by refine bE eD BK Di fun aR=>?_;unfold y4;simp;refine eQ [15,16] (fun i (_:Unit)=>[(1,.slice 1 .no (dX l)),(17,.int .i64 i)]) 0 (fun _ _=>True) () cb trivial (fun _ _ _=>?_) (fun i _ hi _ _=>Ω);simp;(with_reducible repeat' first|refine aj ?_|simp);simp[bn,AI,aT,aU,aS];simp[h8,yF]
 | .num _,l,au,a7=>by refine bE eD BK Di fun aR=>?_;unfold y4;simp;refine eQ [15,16] (fun i (_:Unit)=>[(1,.slice 1 .no (dX l)),(17,.int .i64 i)]) 0 (fun _ _=>True) () cb trivial (fun _ _ _=>?_) (fun i _ hi _ _=>Ω);simp;(with_reducible repeat' first|refine aj ?_|simp);simp[bn,AI,aT,aU,aS];simp[h8,yF]
def agA(s:List c4)(a b:T)(i:Nat)(_:Unit):Prop:=(1<=i->a.has s=false)/\(2<=i->b.has s=false)
theorem HO(s:List c4):∀t:T,bZ ay 77 [t.e,.str s] (.bool (t.has s))
 | .pair a b=>by
  have dB:=HO s a;have dC:=HO s b;refine bE mh BL Dj fun aR=>?_;unfold y5;simp;refine eQ [1,2,8,9] (fun i (_:Unit)=>[(10,.int .i64 i)]) 2 (agA s a b) () cb ⟨fun h=>Ω,fun h=>Ω⟩ (fun _ ag _=>?_) (fun i _ hi ag _=>?_)
  ·simp;(with_reducible repeat' first|refine aj ?_|simp);simp[bn,wG,aT,aU,aS];simp[T.has,ag.1,ag.2]
  ·rcases(by omega:i=0\/i=1)with rfl|rfl
   ·cases a7:a.has s
    ·rw[a7]at dB;simp;((with_reducible repeat' first|refine aj ?_|refine aC dB ?_|refine aD dB ?_|simp|((first|apply bD|apply bH|apply bG)<;>intro h<;>try simp at h))<;>(try exact b2));exact bR.rng () hi ⟨fun _=>a7,fun h=>Ω⟩ cb
    ·rw[a7]at dB;simp;((with_reducible repeat' first|refine aj ?_|refine aC dB ?_|refine aD dB ?_|simp|((first|apply bD|apply bH|apply bG)<;>intro h<;>try simp at h))<;>(try exact b2));simp[bn,wG,aT,aU,aS];simp[T.has,a7]
   ·cases ab:b.has s
    ·rw[ab]at dC;simp;((with_reducible repeat' first|refine aj ?_|refine aC dC ?_|refine aD dC ?_|simp|((first|apply bD|apply bH|apply bG)<;>intro h<;>try simp at h))<;>(try exact b2));exact bR.rng () hi ⟨fun _=>ag.1 Ω,fun _=>ab⟩ cb
    ·rw[ab]at dC;simp;((with_reducible repeat' first|refine aj ?_|refine aC dC ?_|refine aD dC ?_|simp|((first|apply bD|apply bH|apply bG)<;>intro h<;>try simp at h))<;>(try exact b2));simp[bn,wG,aT,aU,aS];simp[T.has,ab]
 | .sym n=>by
  refine bE mh BL Dj fun aR=>?_;unfold y5;simp;refine eQ [1,2,8,9] (fun i (_:Unit)=>[(10,.int .i64 i)]) 0 (fun i _=>True) () cb trivial (fun _ ag _=>?_) (fun i _ hi ag _=>Ω);simp;(with_reducible repeat' first|refine aj ?_|simp);all_goals simp[bn,wG,aT,aU,aS]
  all_goals simp[T.has]
 | .num n=>by
  refine bE mh BL Dj fun aR=>?_;unfold y5;simp;refine eQ [1,2,8,9] (fun i (_:Unit)=>[(10,.int .i64 i)]) 0 (fun i _=>True) () cb trivial (fun _ ag _=>?_) (fun i _ hi ag _=>Ω);simp;(with_reducible repeat' first|refine aj ?_|simp);all_goals simp[bn,wG,aT,aU,aS]
  all_goals simp[T.has]
 | .var n=>by
  refine bE mh BL Dj fun aR=>?_;unfold y5;simp;refine eQ [1,2,8,9] (fun i (_:Unit)=>[(10,.int .i64 i)]) 0 (fun i _=>True) () cb trivial (fun _ ag _=>?_) (fun i _ hi ag _=>Ω);simp;(with_reducible repeat' first|refine aj ?_|simp);all_goals simp[bn,wG,aT,aU,aS]
  all_goals simp[T.has]
 | .nil=>by
  refine bE mh BL Dj fun aR=>?_;unfold y5;simp;refine eQ [1,2,8,9] (fun i (_:Unit)=>[(10,.int .i64 i)]) 0 (fun i _=>True) () cb trivial (fun _ ag _=>?_) (fun i _ hi ag _=>Ω);simp;(with_reducible repeat' first|refine aj ?_|simp);all_goals simp[bn,wG,aT,aU,aS]
  all_goals simp[T.has]
def oP(l:List b4)(o:Option (List b4)):ai:= .tuple [.slice 2 .no ((o.getD l).map b4.e),.bool o.isSome]
@[simp]theorem apU(S:aL->Prop)(l:List b4)(o:Option (List b4)):aJ S (oP l o)=True:=by simp[oP]
def v8(l:List b4)(n:Int)(i:Nat):Prop:=i<=l.length/\∀j y,j<i->l[j]? =some y->y.v<n
theorem v8.none{l:List b4}{n:Int}{i:Nat}(h:v8 l n i)(a7:l.Pairwise fun x y=>x.v<y.v)(aq:∀c,l[i]? =some c->n<c.v):kV l n=none:=xX.2 fun x ae=>by
 obtain⟨j,eb,rfl⟩:=od ae;have e:=cr eb;rcases Nat.lt_or_ge j i with J|J
 ·have:=h.2 j _ J e;omega
 ·have FC:i<l.length:=Ω
  have aF:=cr FC;have al:=aq _ aF;rcases Nat.lt_or_ge i j with U|U
  ·have:=oX.1 a7 i j FC eb U;omega
  ·obtain rfl:i=j:=Ω
   omega
theorem v8.ins{l:List b4}{n k:Int}{i:Nat}(h:v8 l n i)(aq:∀c,l[i]? =some c->n<c.v):lJ ⟨n,k⟩ l=l.take i++⟨n,k⟩::l.drop i:=Tt ⟨n,k⟩ l i (fun j y J U=>h.2 j y J U) (fun y aM=>by have:=aq y aM;simp;omega) h.1
theorem v8.step{l:List b4}{n:Int}{i:Nat}{b:b4}(h:v8 l n i)(ab:l[i]? =some b)(az:b.v<n):v8 l n (i+1):=⟨(fp.1 ab).1,fun j y J U=>by
 rcases(by omega:j<i\/j=i)with al|rfl
 ·exact h.2 j y al U
 ·rw[ab]at U;cases U;exact az⟩
theorem amK(l:List b4)(au:l.length<=1000000)(a7:l.Pairwise fun x y=>x.v<y.v)(n k:Int):bZ ay 178 [.slice 2 .no (l.map b4.e),(T.var n).e,.int .i64 k] (oP l (hM l (.var n) k)):=by
 generalize c7:hM l (.var n) k=O;have dQ:(match kV l n with|some bN=>if bN=k then some l else none|none=>some (lJ ⟨n,k⟩ l))=O:=by rw[<-c7];rfl
 clear c7;refine bE mh BM Dk fun aR=>?_;unfold y6;simp;refine vt [0,2,4] (fun(i:Nat)=>[(8,.int .i64 i)]) (fun i=>l.length-i) (v8 l n) 0 cb ⟨Ω,fun j y h=>Ω⟩ (fun i ag _=>?_);have ad:=ag.1;by_cases hi:i<l.length
 ·obtain⟨b,ab,cq⟩:=fb hi;rcases Int.lt_trichotomy b.v n with h|h|h
  ·have af:=ag.step ab h;clear dQ ag ab a7;simp[hi,cq,h];((with_reducible repeat' first|refine aj ?_|simp[hi,cq,h]|((first|apply bD|apply bH|apply bG)<;>intro h<;>try simp at h))<;>(try exact b2));exact bR.whl (i+1) Ω af cb
  ·have aW:kV l n=some b.k:=by rw[<-h];exact Gf a7 (eZ ab)
   have J:¬b.v<n:=Ω
   have U:(b.v==n)=true:=by simp[h]
   rw[aW]at dQ;simp only at dQ;subst dQ;clear ag ab a7 aW;simp[hi,cq,J,U];(with_reducible repeat' first|refine aj ?_|simp[hi,cq,J,U]);all_goals simp[bn,wH,aT,aU,aS]
   all_goals(by_cases e:b.k=k<;>simp[oP,e])
  ·have J:¬b.v<n:=Ω
   have U:(b.v==n)=false:=by simp;omega
   have aq:∀c,l[i]? =some c->n<c.v:=fun c aq=>by rw[ab]at aq;cases aq;exact h
   rw[ag.none a7 aq]at dQ;simp only[ag.ins aq]at dQ;subst dQ;clear ag ab a7 aq;simp[hi,cq,J,U];(with_reducible repeat' first|refine aj ?_|simp[hi,cq,J,U]);all_goals simp[bn,wH,aT,aU,aS]
   all_goals simp[oP]
   rw[hv (by simp:(l.map b4.e).length<=l.length),<-List.map_take,<-List.map_drop,<-eO,<-List.map_append];exact M4 _
 ·have aq:∀c,l[i]? =some c->n<c.v:=fun c aq=>by rw[qp Ω]at aq;cases aq
  rw[ag.none a7 aq]at dQ;simp only[ag.ins aq]at dQ;have FC:i=l.length:=Ω
  clear ag a7 aq;subst dQ;subst FC;simp;(with_reducible repeat' first|refine aj ?_|simp);all_goals simp[bn,wH,aT,aU,aS]
  all_goals simp[oP]
  rw[hv (by simp:(l.map b4.e).length<=l.length),show [(⟨n,k⟩:b4).e]=[(⟨n,k⟩:b4)].map b4.e from rfl,<-List.map_append];exact M4 _
theorem XF(l:List b4)(au:l.length<=1000000)(a7:l.Pairwise fun x y=>x.v<y.v)(t:T)(k:Int):bZ ay 178 [.slice 2 .no (l.map b4.e),t.e,.int .i64 k] (oP l (hM l t k)):=by
 cases t with
 |var n=>exact amK l au a7 n k
 |nil=>
  refine bE mh BM Dk fun aR=>?_;unfold y6;simp;(with_reducible repeat' first|refine aj ?_|simp);all_goals simp[bn,wH,aT,aU,aS]
  all_goals(by_cases e:0=k<;>simp[oP,hM,e])
 |sym n=>
  refine bE mh BM Dk fun aR=>?_;unfold y6;simp;(with_reducible repeat' first|refine aj ?_|simp);all_goals simp[bn,wH,aT,aU,aS]
  all_goals(by_cases e:2=k<;>simp[oP,hM,e])
 |num n=>
  refine bE mh BM Dk fun aR=>?_;unfold y6;simp;(with_reducible repeat' first|refine aj ?_|simp);all_goals simp[bn,wH,aT,aU,aS]
  all_goals(by_cases e:3=k<;>simp[oP,hM,e])
 |pair a b=>
  refine bE mh BM Dk fun aR=>?_;unfold y6;simp;(with_reducible repeat' first|refine aj ?_|simp);all_goals simp[bn,wH,aT,aU,aS]
  all_goals(by_cases e:4=k<;>simp[oP,hM,e])
theorem XQ(s:List ak)(v:Int):hk s (.var v)=aY s v:=rfl
theorem Ns{s:List ak}(af:eB s){l:List b4}(au:ir l):bZ ay 217 [.slice 5 .no (s.map ak.e),.slice 2 .no (l.map b4.e)] (fo (fC s l [])):=by
 have tc:=uG au;refine bE mh acN ajD fun aR=>?_;unfold Qp;simp;refine eQ [0,11,12] (fun i (a:List b4)=>[(6,.slice 2 .no (a.map b4.e)),(13,.int .i64 i)]) l.length (Tx s l) [] cb ⟨⟨Ψ,Ψ⟩,rfl⟩ (fun a ag _=>?_) (fun i a hi ag _=>?_)
 ·obtain⟨_,ag⟩:=ag;rw[List.drop_length]at ag;simp only[fC]at ag;rw[<-ag];simp;(with_reducible repeat' first|refine aj ?_|simp);simp[bn,Mp,aT,aU,aS];simp[fo]
 ·obtain⟨a7,ag⟩:=ag;obtain⟨b,ab,cq⟩:=fb hi;have oA:=au.at' b (eZ ab);rw[k4 hi,cq]at ag;simp only[fC]at ag;have nW:=HN s af.len (.var b.v);rw[XQ]at nW;have fs:=XF a (by have:=uG a7;omega) a7.asc (aY s b.v) b.k;simp[hi,cq];cases dQ:hM a (aY s b.v) b.k with
  |none=>rw[dQ]at ag fs;simp only at ag;rw[<-ag];simp only[oP]at fs;(with_reducible repeat' first|refine aj ?_|refine aC (kf _) ?_|refine aD (kf _) ?_|refine aC nW ?_|refine aD nW ?_|refine aC fs ?_|refine aD fs ?_|simp[cq,hi]);simp[bn,Mp,aT,aU,aS];simp[fo]
  |some bp=>rw[dQ]at ag fs;simp only[oP]at fs;(with_reducible repeat' first|refine aj ?_|refine aC (kf _) ?_|refine aD (kf _) ?_|refine aC nW ?_|refine aD nW ?_|refine aC fs ?_|refine aD fs ?_|simp[cq,hi]);exact bR.rng bp hi ⟨Eu a7 (AU af oA.1) oA.2 dQ,ag⟩ cb
open Classical in
theorem am1(l:List br):bZ ay 145 [.slice 2 .no (l.map br.e)] (.bool (decide (jM l))):=by
 generalize bS:decide (jM l)=R;refine bE mh acj ajb fun aR=>?_;unfold PX;have iH:l.length<=68719476736:=by simp[ij,ho,hN,lim]at aR;omega
 simp;refine eQ [0,5,6] (fun i (_:Unit)=>[(7,.int .i64 i)]) l.length (fun i _=> ∀j,j<i->ie ko kH l j) () cb (fun k ad=>Ω) (fun _ ag _=>?_) (fun i _ hi ag _=>?_)
 ·have:R=true:=by rw[<-bS,eF,Gs];exact ag
  rw[this];exact c0
 ·obtain⟨b,ab⟩:∃b,l[i]? =some b:=⟨_,cr hi⟩;obtain⟨c,aq⟩:∃c,l[i-1]? =some c:=⟨_,cr Ω⟩;have cq:∀h,(l[i]'h)=b:=fun h=>by rw[cr hi]at ab;exact gu ab
  have c8:¬ie ko kH l i->R=false:=fun h=>by rw[<-bS,hx];exact fun ck=>h (Gs.1 ck i hi)
  have dh:ie ko kH l i->∀j,j<i+1->ie ko kH l j:=fun h j jx=>by
   by_cases e:j=i
   ·rw[e];exact h
   ·exact ag j Ω
  have fY:∀p:Prop,(p->eN)->(ie ko kH l i->p)->R=false:=fun p J U=>c8 fun h=>J (U h);have lY:ie ko kH l i->ko b:=fun h=>(h b ab).1;have bt:ie ko kH l i->0<i->hK e9 c b=true:=fun h bA=>by simpa[hK,kH]using(h b ab).2 c bA aq
  have e0:ko b->(0<i->hK e9 c b=true)->ie ko kH l i:=fun J U b0 fX=>by rw[ab]at fX;cases fX;exact⟨J,fun cl bA hA=>by rw[aq]at hA;cases hA;simpa[hK,kH]using U bA⟩
  unfold ko at lY e0;by_cases g4:0<i
  ·cases g5:hK e9 c b
   ·rw[fY _ (fun h=>by rw[h]at g5;cases g5) (fun h=>bt h g4)];simp[hi,cq,aq];(with_reducible repeat' first|refine aj ?_|refine aC (lR _ _) ?_|refine aD (lR _ _) ?_|simp[cq,aq,hi,g4,g5]);all_goals simp[bn,AG,aT,aU,aS]
   ·by_cases g1:0<=b.v/\b.v<=100000;rotate_left
    ·rw[fY _ (fun h=>g1 h) (fun h=>(lY h).1)];have k9:decide (0<=b.v/\b.v<=100000)=false:=by simp only[hx];exact g1
     simp[hi,cq,aq];(with_reducible repeat' first|refine aj ?_|refine aC (lR _ _) ?_|refine aD (lR _ _) ?_|refine aC (ds _ _ _) ?_|refine aD (ds _ _ _) ?_|simp[cq,aq,hi,g4,g5,k9,g1]);all_goals simp[bn,AG,aT,aU,aS]
    have k9:decide (0<=b.v/\b.v<=100000)=true:=by simp only[eF];exact g1
    cases g3:ji b.s
    ·rw[fY _ (fun h=>by rw[h]at g3;cases g3) (fun h=>(lY h).2)];have cc:=gW b.s;rw[g3]at cc;simp[hi,cq,aq];(with_reducible repeat' first|refine aj ?_|refine aC (lR _ _) ?_|refine aD (lR _ _) ?_|refine aC (ds _ _ _) ?_|refine aD (ds _ _ _) ?_|refine aC cc ?_|refine aD cc ?_|simp[cq,aq,hi,g4,g5,k9,g1]);all_goals simp[bn,AG,aT,aU,aS]
    have cc:=gW b.s;rw[g3]at cc;have dF:=dh (e0 ⟨g1,g3⟩ fun _=>g5);simp[hi,cq,aq];(with_reducible repeat' first|refine aj ?_|refine aC (lR _ _) ?_|refine aD (lR _ _) ?_|refine aC (ds _ _ _) ?_|refine aD (ds _ _ _) ?_|refine aC cc ?_|refine aD cc ?_|simp[cq,aq,hi,g4,g5,k9,g1]);all_goals exact bR.rng () hi dF cb
  ·obtain rfl:i=0:=Ω
   by_cases g1:0<=b.v/\b.v<=100000;rotate_left
   ·rw[fY _ (fun h=>g1 h) (fun h=>(lY h).1)];have k9:decide (0<=b.v/\b.v<=100000)=false:=by simp only[hx];exact g1
    simp[hi,cq,aq];(with_reducible repeat' first|refine aj ?_|refine aC (lR _ _) ?_|refine aD (lR _ _) ?_|refine aC (ds _ _ _) ?_|refine aD (ds _ _ _) ?_|simp[cq,aq,hi,g4,k9,g1]);all_goals simp[bn,AG,aT,aU,aS]
   have k9:decide (0<=b.v/\b.v<=100000)=true:=by simp only[eF];exact g1
   cases g3:ji b.s
   ·rw[fY _ (fun h=>by rw[h]at g3;cases g3) (fun h=>(lY h).2)];have cc:=gW b.s;rw[g3]at cc;simp[hi,cq,aq];(with_reducible repeat' first|refine aj ?_|refine aC (lR _ _) ?_|refine aD (lR _ _) ?_|refine aC (ds _ _ _) ?_|refine aD (ds _ _ _) ?_|refine aC cc ?_|refine aD cc ?_|simp[cq,aq,hi,g4,k9,g1]);all_goals simp[bn,AG,aT,aU,aS]
   have cc:=gW b.s;rw[g3]at cc;have dF:=dh (e0 ⟨g1,g3⟩ fun h=>absurd h g4);simp[hi,cq,aq];(with_reducible repeat' first|refine aj ?_|refine aC (lR _ _) ?_|refine aD (lR _ _) ?_|refine aC (ds _ _ _) ?_|refine aD (ds _ _ _) ?_|refine aC cc ?_|refine aD cc ?_|simp[cq,aq,hi,g4,k9,g1]);all_goals exact bR.rng () hi dF cb
def pf(s:List c4)(ba:List Int)(l:List br):List br:=ba.foldl (fun a v=>km e9 ⟨v,s⟩ a) l
theorem Jp(s:List c4):∀(ba:List Int) {l:List br},hH e9 l->hH e9 (pf s ba l)
 |[],_,h=>h
 |v::ba,_,h=>Jp s ba (KF lN h)
theorem Us(s:List c4){x:br}:∀(ba:List Int) {l:List br},x∈pf s ba l↔x∈l\/(x.s=s/\x.v∈ba)
 |[],l=>by simp[pf]
 |v::ba,l=>by
  have:=Us s (x:=x) ba (l:=km e9 ⟨v,s⟩ l);rw[show pf s (v::ba) l=pf s ba (km e9 ⟨v,s⟩ l)from rfl,this,Gv lN,fI];constructor
  ·rintro((rfl|h)|⟨J,U⟩)
   ·exact .inr ⟨rfl,.inl rfl⟩
   ·exact .inl h
   ·exact .inr ⟨J,.inr U⟩
  ·rintro(h|⟨J,U|U⟩)
   ·exact .inl (.inr h)
   ·refine .inl (.inl ?_);cases x;simp_all
   ·exact .inr ⟨J,U⟩
theorem Rs(s:List c4):∀(ba:List Int) (l:List br),(pf s ba l).length<=l.length+ba.length
 |[],l=>by simp[pf]
 |v::ba,l=>by have J:=Rs s ba (km e9 ⟨v,s⟩ l);have U:=KH (c:=e9) (⟨v,s⟩:br) l;rw[show pf s (v::ba) l=pf s ba (km e9 ⟨v,s⟩ l)from rfl];simp only[oe];omega
theorem ac3{t:T}{s:List c4}(cw:t.has s=false){l:List br}(a7:hH e9 l):iQ l t s=some (pf s (h8 t []) l):=Ic cw (Jp s _ a7) fun x=>by rw[Us,C8];simp
def CR(l:List br)(ba:List Int)(s:List c4)(i:Nat)(a:List br):Prop:=a=pf s (ba.take i) l
def zS(a:List br)(m:br)(k:Nat):Prop:=k<=a.length/\∀j y,j<k->a[j]? =some y->e9 y m<0
theorem zS.step{a:List br}{m:br}{k:Nat}{b:br}(h:zS a m k)(ab:a[k]? =some b)(az:e9 b m<0):zS a m (k+1):=⟨(fp.1 ab).1,fun j y J U=>by
 rcases(by omega:j<k\/j=k)with al|rfl
 ·exact h.2 j y al U
 ·rw[ab]at U;cases U;exact az⟩
theorem zS.fin{a:List br}{m:br}{k:Nat}(h:zS a m k)(aq:∀y,a[k]? =some y->0<=e9 y m):km e9 m a=if(match a[k]? with|some y=>decide (e9 y m=0)|none=>false)=true then a else a.take k++m::a.drop k:=(KG lN m a k (fun j y J U=>h.2 j y J U) aq h.1).trans (by cases a[k]?<;>rfl)
theorem UI(a:List br)(k:Nat)(m:br):oY k (a.map br.e)++m.e::List.drop k (a.map br.e)=(a.take k++m::a.drop k).map br.e:=by simp
theorem Ag(a:List br)(k:Nat)(m:br):dr (oY k (a.map br.e)++m.e::List.drop k (a.map br.e))=oY k (a.map br.e)++m.e::List.drop k (a.map br.e):=by rw[UI,M5]
theorem Af(S:aL->Prop)(a:List br)(k:Nat)(m:br):aP S (oY k (a.map br.e)++m.e::List.drop k (a.map br.e))=True:=by rw[UI,TZ]
theorem UH(a:List br)(m:br):a.map br.e++[m.e]=(a++[m]).map br.e:=by simp
theorem Ae(a:List br)(m:br):dr (a.map br.e++[m.e])=a.map br.e++[m.e]:=by rw[UH,M5]
theorem Ad(S:aL->Prop)(a:List br)(m:br):aP S (a.map br.e++[m.e])=True:=by rw[UH,TZ]
theorem amL(l:List br)(au:l.length<=68719470000)(t:T)(aI:t.size<=5000)(s:List c4)(a7:hH e9 l):bZ ay 179 [.slice 2 .no (l.map br.e),t.e,.str s] (ix (iQ l t s)):=by
 have jZ:=HO s t;cases cw:t.has s;rotate_left
 ·have bA:iQ l t s=none:=by simp[iQ,cw]
  rw[bA];rw[cw]at jZ;refine bE mh Rj U6 fun aR=>?_;unfold IK;simp;(with_reducible repeat' first|refine aj ?_|refine aC jZ ?_|refine aD jZ ?_|simp);all_goals simp[bn,Mq,aT,aU,aS]
  all_goals simp[ix]
 ·rw[cw]at jZ;have dQ:=ac3 cw a7;have kE:=Bc t [];have gS:=D3 t [] d8 (by simp[sD]);have zp:dX []=[]:=rfl;rw[zp]at gS;rw[dQ];clear dQ cw;generalize h8 t []=ba at gS kE⊢;have kU:ba.length<=5000:=by simp at kE;omega
  generalize gw:pf s ba l=F;refine bE mh Rj U6 fun aR=>?_;unfold IK;simp;(with_reducible repeat' first|refine aj ?_|refine aC jZ ?_|refine aD jZ ?_|refine aC gS ?_|refine aD gS ?_|simp[eY]);refine eQ [2,17,18] (fun i (a:List br)=>[(0,.slice 2 .no (a.map br.e)),(19,.int .i64 i)]) ba.length (CR l ba s) l ⟨by simp[fresh,aP,aJ,cx,inObs,Pv.look,eY],eS gt,eT g8,Ψ⟩ (by simp[CR,pf]) (fun a ag _=>?_) (fun i a hi ag _=>?_)
  ·rw[CR,oZ,gw]at ag;subst ag;simp[eY];(with_reducible repeat' first|refine aj ?_|simp[eY]);all_goals simp[bn,Mq,aT,aU,aS]
   all_goals simp[ix]
  ·obtain⟨v,av⟩:∃v,ba[i]? =some v:=⟨_,cr hi⟩;have qT:∀h,((dX ba)[i]'h)= .int .i64 v:=fun ck=>by have:=CM ba i;rw[av,cr ck]at this;exact gu this
   have rH:hH e9 a:=by rw[ag];exact Jp s _ a7
   have pZ:a.length<=68719475000:=by have:=Rs s (ba.take i) l;rw[ag];simp at this⊢;omega
   have fq:CR l ba s (i+1) (km e9 ⟨v,s⟩ a):=by rw[CR,List.take_succ,av,ag];simp[pf]
   generalize hm:(⟨v,s⟩:br)=m at fq;have afg:m.v=v:=by rw[<-hm]
   have uA:m.s=s:=by rw[<-hm]
   subst afg;subst uA;clear ag gw;simp[hi,qT,eY];(with_reducible repeat' first|refine aj ?_|simp[hi,qT,eY]);refine vt [0,2,10,17,18,19] (fun(k:Nat)=>[(11,.int .i64 k)]) (fun k=>a.length-k) (zS a m) 0 ⟨by simp[fresh,aP,aJ,cx,inObs,Pv.look,eY],eS gt,eT g8,Ψ⟩ ⟨Ω,fun j y h=>Ω⟩ (fun k ag _=>?_);have ad:=ag.1;by_cases hp:k<a.length
   ·obtain⟨b,ab,cq⟩:=fb hp;cases bt:hK e9 b m
    ·have vE:0<=e9 b m:=by simpa[hK]using bt
     have dF:=ag.fin (fun y aM=>by rw[ab]at aM;cases aM;exact vE);rw[ab]at dF;cases FA:hK e9 m b
     ·have hle:0<=e9 m b:=by simpa[hK]using FA
      have bA:e9 b m=0:=by have:=lN.neg b m;omega
      rw[if_pos (by simp[bA])]at dF;rw[dF]at fq;clear ag ab dF pZ rH;simp[hp,cq];((with_reducible repeat' first|refine aj ?_|refine aC (lR _ _) ?_|refine aD (lR _ _) ?_|simp[hp,cq,bt,FA]|((first|apply bD|apply bH|apply bG)<;>intro h<;>try simp at h))<;>(try exact b2));all_goals exact bR.rng a hi fq ⟨by simp[fresh,aP,aJ,cx,inObs,Pv.look,eY],eS gt,eT g8,Ψ⟩
     ·have hle:e9 m b<0:=by simpa[hK]using FA
      have bA:¬e9 b m=0:=by have:=lN.neg b m;omega
      rw[if_neg (by simp[bA])]at dF;rw[dF]at fq;clear ag ab dF rH;simp[hp,cq];((with_reducible repeat' first|refine aj ?_|refine aC (lR _ _) ?_|refine aD (lR _ _) ?_|simp[hp,cq,bt,FA]|((first|apply bD|apply bH|apply bG)<;>intro h<;>try simp at h))<;>(try exact b2));all_goals first|(refine⟨by unfold lim;omega,?_⟩)|skip
      all_goals(with_reducible repeat' first|refine aj ?_|simp)
      all_goals first|(refine⟨by unfold lim;omega,?_⟩)|skip
      all_goals((with_reducible repeat' first|refine aj ?_|simp|((first|apply bD|apply bH|apply bG)<;>intro h<;>try simp at h))<;>(try exact b2))
      all_goals exact bR.rng _ hi fq ⟨by simp[fresh,aP,aJ,cx,inObs,Pv.look,eY,hv,Ag,Af,Ae,Ad],eS (by simp[fresh,aP,aJ,cx,inObs,Pv.look,eY,hv,Ag,Af,Ae,Ad]),eT (by simp[fresh,aP,aJ,et,inObs,Pv.look,eY,hv,Ag,Af,Ae,Ad]),Ψ⟩
    ·have vM:e9 b m<0:=by simpa[hK]using bt
     have af:=ag.step ab vM;clear ag ab rH fq;simp[hp,cq];((with_reducible repeat' first|refine aj ?_|refine aC (lR _ _) ?_|refine aD (lR _ _) ?_|simp[hp,cq,bt]|((first|apply bD|apply bH|apply bG)<;>intro h<;>try simp at h))<;>(try exact b2));all_goals exact bR.whl (k+1) Ω af ⟨by simp[fresh,aP,aJ,cx,inObs,Pv.look,eY],eS gt,eT g8,Ψ⟩
   ·have dF:=ag.fin (fun y aM=>by rw[qp Ω]at aM;cases aM);rw[qp Ω]at dF;simp only[gF,if_false]at dF;rw[dF]at fq;have im:k=a.length:=Ω
    clear ag dF rH;subst im;simp;(with_reducible repeat' first|refine aj ?_|simp);all_goals first|(refine⟨by unfold lim;omega,?_⟩)|skip
    all_goals(with_reducible repeat' first|refine aj ?_|simp)
    all_goals first|(refine⟨by unfold lim;omega,?_⟩)|skip
    all_goals(with_reducible repeat' first|refine aj ?_|simp)
    all_goals exact bR.rng _ hi fq ⟨by simp[fresh,aP,aJ,cx,inObs,Pv.look,eY,hv,Ag,Af,Ae,Ad],eS (by simp[fresh,aP,aJ,cx,inObs,Pv.look,eY,hv,Ag,Af,Ae,Ad]),eT (by simp[fresh,aP,aJ,et,inObs,Pv.look,eY,hv,Ag,Af,Ae,Ad]),Ψ⟩
theorem Nt{s:List ak}(af:eB s){l:List br}(au:jM l){G:List (List c4)}(lb:G.length<=687000)(aW:kY G l):bZ ay 218 [.slice 5 .no (s.map ak.e),.slice 2 .no (l.map br.e)] (ix (fD s l [])):=by
 have hlen:∀{a:List br},jM a->kY G a->a.length<=68719470000:=fun J U=>by have:=C6 J U;omega
 have tc:=hlen au aW;refine bE mh acO ajE fun aR=>?_;unfold Qq;simp;refine eQ [0,11,12] (fun i (a:List br)=>[(6,.slice 2 .no (a.map br.e)),(13,.int .i64 i)]) l.length (Ty s G l) [] cb ⟨⟨Ψ,by simp[hH]⟩,fun x ae=>by simp at ae,rfl⟩ (fun a ag _=>?_) (fun i a hi ag _=>?_)
 ·obtain⟨_,_,ag⟩:=ag;rw[List.drop_length]at ag;simp only[fD]at ag;rw[<-ag];simp;(with_reducible repeat' first|refine aj ?_|simp);simp[bn,Mr,aT,aU,aS];simp[ix]
 ·obtain⟨a7,CE,ag⟩:=ag;obtain⟨b,ab,cq⟩:=fb hi;have oA:=au.at' b (eZ ab);have JQ:=aW b (eZ ab);rw[k4 hi,cq]at ag;simp only[fD]at ag;have nW:=HN s af.len (.var b.v);rw[XQ]at nW;have fs:=amL a (hlen a7 CE) (aY s b.v) (DQ af b.v) b.s a7.asc;simp[hi,cq];cases dQ:iQ a (aY s b.v) b.s with
  |none=>rw[dQ]at ag fs;simp only at ag;rw[<-ag];simp only[ix]at fs;(with_reducible repeat' first|refine aj ?_|refine aC (kf _) ?_|refine aD (kf _) ?_|refine aC nW ?_|refine aD nW ?_|refine aC fs ?_|refine aD fs ?_|simp[cq,hi]);simp[bn,Mr,aT,aU,aS];simp[ix]
  |some bp=>rw[dQ]at ag fs;simp only[ix]at fs;(with_reducible repeat' first|refine aj ?_|refine aC (kf _) ?_|refine aD (kf _) ?_|refine aC nW ?_|refine aD nW ?_|refine aC fs ?_|refine aD fs ?_|simp[cq,hi]);exact bR.rng bp hi ⟨Ev a7 (AU af oA.1) oA.2 dQ,Bp CE JQ dQ,ag⟩ cb
theorem alK{s:List ak}(aw:j7 s)(a7:gN s)(aO:fJ s):gV (s.map ak.b)=s.all (mr s):=by
 rw[pN,gH,wS,<-WY a7];constructor
 ·rintro⟨ah,J,U,al,a1⟩;rw[sK J];exact al
 ·intro al;exact⟨s,rfl,aw,al,aO⟩
theorem YR{s:List ak}(a7:gN s)(b:ak):mr s b=true↔(∀v∈h8 b.t [],dc s v=none)/\(b.t.kind==1&&decide (b.v<=b.t.int))=false:=by unfold mr;rw[ct,Rt a7];simp only[true_and,qo,C8,List.not_mem_nil,or_false]
def CQ(s:List ak)(ba:List Int)(i:Nat)(_:Unit):Prop:= ∀v∈ba.take i,dc s v=none
theorem CQ.step{s:List ak}{ba:List Int}{i:Nat}(h:CQ s ba i ()){v:Int}(av:ba[i]? =some v)(az:dc s v=none):CQ s ba (i+1) ():=fun w hw=>by
 rw[List.take_succ,av]at hw;simp only[h9,Option.toList_some,kg]at hw;rcases hw with hw|rfl
 ·exact h w hw
 ·exact az
theorem Nv(l:List dO):bZ ay 142 [.slice 5 .no (l.map dO.e)] (.bool (gV l)):=by
 have av:=XB l;by_cases h:vj l;rotate_left
 ·have bA:gV l=false:=by unfold gV;simp only[hx];rintro⟨s,J,U,al,a1⟩;exact h (wY.2 ⟨s,J,U,al.asc,a1⟩)
  rw[bA];refine bE eD Rg U3 fun aR=>?_;unfold IG;exact c0
 ·obtain⟨s,rfl,aw,a7,aO⟩:=wY.1 h;have au:s.length<=1000000:=by have:=aO.1;omega
  rw[alK aw a7 aO];rw[tv]at av⊢;simp only[h,decide_true]at av;clear h;generalize bS:s.all (mr s)=R;refine bE eD Rg U3 fun aR=>?_;unfold IG;simp;(with_reducible repeat' first|refine aj ?_|refine aC av ?_|refine aD av ?_|simp);refine eQ [0,12,13] (fun i (_:Unit)=>[(14,.int .i64 i)]) s.length (np (mr s) s) () cb (fun k b ad=>Ω) (fun _ ag _=>?_) (fun i _ hi ag _=>?_)
  ·have:R=true:=by rw[<-bS,gH];intro b ab;obtain⟨k,ad,e⟩:=od ab;exact ag k b ad (by rw[cr ad,e])
   rw[this];exact c0
  ·obtain⟨b,ab,cq⟩:=fb hi;have fY:¬mr s b=true->R=false:=fun h=>by rw[<-bS,Bool.eq_false_iff];intro ck;rw[gH]at ck;exact h (ck b (eZ ab))
   have rO:mr s b=true->np (mr s) s (i+1) ():=fun h=>ag.step ab h;have zz:=YR a7 b;have ee:=aO.2 b (eZ ab);have kE:=Bc b.t [];have gS:=D3 b.t [] d8 (by simp[sD]);have zp:dX []=[]:=rfl;rw[zp]at gS;generalize h8 b.t []=ba at gS kE zz;have kU:ba.length<=5000:=by simp at kE;omega
   rw[zz]at fY rO;clear zz ag kE ab;simp[hi,cq];cases ad:(b.t.kind==1&&decide (b.v<=b.t.int));rotate_left
   ·rw[fY (by rw[ad];simp)];rw[ct]at ad;have gn:=ad.1;have lf:b.v<=b.t.int:=of_decide_eq_true ad.2;exact c0
   ·rw[ad]at fY rO;simp only[and_true]at fY rO;cases gn:(b.t.kind==1)
    ·clear ad;(with_reducible repeat' first|refine aj ?_|refine aC gS ?_|refine aD gS ?_|simp[cq,hi,eY,gn]);refine eQ [0,12,13,14,32,33] (fun j (_:Unit)=>[(34,.int .i64 j)]) ba.length (CQ s ba) () ⟨by simp[fresh,aP,aJ,cx,inObs,Pv.look,eY],eS gt,eT g8,Ψ⟩ (fun v av=>by simp at av) (fun _ ag _=>?_) (fun j _ eb ag _=>?_)
     ·have aW:=rO (fun v av=>ag v (by rwa[oZ]));simp[eY];(with_reducible repeat' first|refine aj ?_|simp[eY]);exact bR.rng () hi aW ⟨by simp[fresh,aP,aJ,cx,inObs,Pv.look,eY],eS gt,eT g8,Ψ⟩
     ·obtain⟨v,av⟩:∃v,ba[j]? =some v:=⟨_,cr eb⟩;have qT:∀h,((dX ba)[j]'h)= .int .i64 v:=fun ck=>by have:=CM ba j;rw[av,cr ck]at this;exact gu this
      have jL:=re s v au;cases hJ:dc s v with
      |none=>have az:=ag.step av hJ;rw[hJ]at jL;simp only[jq,iL]at jL;clear ag rO fY hJ;simp[eb,qT,eY];(with_reducible repeat' first|refine aj ?_|refine aC jL ?_|refine aD jL ?_|simp[eb,qT,eY]);exact bR.rng () eb az ⟨by simp[fresh,aP,aJ,cx,inObs,Pv.look,eY],eS gt,eT g8,Ψ⟩
      |some x=>rw[fY (fun h=>by have:=h v (eZ av);rw[hJ]at this;cases this)];rw[hJ]at jL;simp only[hV,kM]at jL;clear ag rO fY hJ;simp[eb,qT,eY];(with_reducible repeat' first|refine aj ?_|refine aC jL ?_|refine aD jL ?_|simp[eb,qT,eY]);simp[bn,Mg,aT,aU,aS]
    ·have lf:¬b.v<=b.t.int:=by rw[gn]at ad;simpa using ad
     clear ad;(with_reducible repeat' first|refine aj ?_|refine aC gS ?_|refine aD gS ?_|simp[cq,hi,eY,gn,lf]);refine eQ [0,12,13,14,32,33] (fun j (_:Unit)=>[(34,.int .i64 j)]) ba.length (CQ s ba) () ⟨by simp[fresh,aP,aJ,cx,inObs,Pv.look,eY],eS gt,eT g8,Ψ⟩ (fun v av=>by simp at av) (fun _ ag _=>?_) (fun j _ eb ag _=>?_)
     ·have aW:=rO (fun v av=>ag v (by rwa[oZ]));simp[eY];(with_reducible repeat' first|refine aj ?_|simp[eY]);exact bR.rng () hi aW ⟨by simp[fresh,aP,aJ,cx,inObs,Pv.look,eY],eS gt,eT g8,Ψ⟩
     ·obtain⟨v,av⟩:∃v,ba[j]? =some v:=⟨_,cr eb⟩;have qT:∀h,((dX ba)[j]'h)= .int .i64 v:=fun ck=>by have:=CM ba j;rw[av,cr ck]at this;exact gu this
      have jL:=re s v au;cases hJ:dc s v with
      |none=>have az:=ag.step av hJ;rw[hJ]at jL;simp only[jq,iL]at jL;clear ag rO fY hJ;simp[eb,qT,eY];(with_reducible repeat' first|refine aj ?_|refine aC jL ?_|refine aD jL ?_|simp[eb,qT,eY]);exact bR.rng () eb az ⟨by simp[fresh,aP,aJ,cx,inObs,Pv.look,eY],eS gt,eT g8,Ψ⟩
      |some x=>rw[fY (fun h=>by have:=h v (eZ av);rw[hJ]at this;cases this)];rw[hJ]at jL;simp only[hV,kM]at jL;clear ag rO fY hJ;simp[eb,qT,eY];(with_reducible repeat' first|refine aj ?_|refine aC jL ?_|refine aD jL ?_|simp[eb,qT,eY]);simp[bn,Mg,aT,aU,aS]
theorem Nw{s:List ak}(h:eB s):bZ ay 142 [.slice 5 .no (s.map ak.e)] (.bool true):=by have:=Nv (s.map ak.b);rw[tv,wS.2 ⟨s,rfl,h.ok,h.sol,h.fits⟩]at this;exact this
def y7:C:=(aa [c3 2 0,bu 4 false] (.seq (aa [aH 7 3 1 2,ax 8 1 7,cD 9 8,b7 10 0] (fj 11 10 9 (.seq (.block 1 (aa [cJ 12 4 8 10,a8 13 4 12,da 6 dm,bC 4 6 13] (aa [a8 14 4 6,I 15 1,cg 16 136 14 15,cB 17 16] (aV 17 (aa [bu 4 false] .ret) .skip)))) (.region [aQ 18 .add 10 1,I 10 18])))) (aa [aH 19 0 1 2,ax 20 1 19,aQ 21 .neq 20 1,I 22 21,ar 22 false (aH 23 1 1 2),ar 22 false (ax 24 1 23),bU 22 false 25 1,ar 22 false (bF 26 .lss 24 25),cW 27 22 26,I 4 27] .ret)))
@[simp] def wI:List bY:=[.tmp 4]
def Qm:C:=(aa [bu 2 false] (.seq (aa [I 5 0,cD 6 5,b7 7 0] (fj 8 7 6 (.seq (.block 1 (aa [cJ 9 1 5 7,ax 10 1 9,I 4 10] (aa [I 11 4,cV 12 142 11,cB 13 12] (aV 13 (aa [bu 2 false] .ret) .skip)))) (.region [aQ 14 .add 7 1,I 7 14])))) (aa [bu 2 true] .ret)))
@[simp] def akE:List bY:=[.tmp 2]
def Qr:C:=(aa [bu 4 false] (.seq (aa [I 7 0,cD 8 7,b7 9 0] (fj 10 9 8 (.seq (.block 1 (aa [cJ 11 5 7 9,a8 12 5 11,da 6 kn,bC 5 6 12] (aa [aH 13 0 1 6,ax 14 1 13,I 15 1,bF 16 .geq 14 15,I 17 16,ar 17 false (iI 18 1 4 6),ar 17 false (a8 19 4 18),bU 17 false 20 1,ar 17 false (cg 21 136 19 20),ar 17 false (cB 22 21),cW 23 17 22] (aV 23 (aa [bu 4 false] .ret) .skip)))) (.region [aQ 24 .add 9 1,I 9 24])))) (aa [bu 4 true] .ret)))
@[simp] def akH:List bY:=[.tmp 4]
def Ql:C:=(aa [ey 4 5] (aa [ec 10 5 61 [],I 5 10] (.seq (aa [I 11 1,cD 12 11,b7 13 0] (fj 14 13 12 (.seq (.block 1 (aa [cJ 15 5 11 13,a8 16 5 15,da 7 kn,bC 5 7 16] (aa [I 18 0,aH 19 0 1 7,ax 20 1 19,cg 21 161 18 20,I 17 21,cu 22 0 17,cu 23 1 17,da 8 dm,bC 4 8 22,I 9 23] (aa [I 24 9,cB 25 24] (aV 25 (.region [I 26 5,a8 27 5 7,ec 28 5 61 [.t 27],gY 29 5 61 26 28,I 5 29]) .skip))))) (.region [aQ 30 .add 13 1,I 13 30])))) (aa [I 31 5,I 4 31] .ret))))
@[simp] def akD:List bY:=[.tmp 4]
def Qn:C:=(aa [b7 4 0] (.seq (aa [b7 5 0] (.block 0 (.loop (.seq (aa [I 7 5,I 8 0,cD 9 8,bF 10 .lss 7 9,I 11 10,bU 11 true 12 5,bU 11 true 13 1,ar 11 true (cD 14 13),ar 11 true (bF 15 .lss 12 14),dv 16 11 15] (aV 16 .skip (.exit 0))) (.seq (.block 1 (.seq (.seq (.drawn true 67 [I 19 0,I 20 5,cJ 21 5 19 20,aH 22 0 1 21,ax 23 1 22,I 24 1,I 25 5,cJ 26 5 24 25,aH 27 0 1 26,ax 28 1 27,bF 29 .neq 23 28]) (aV 29 (.seq (.drawn true 67 [I 30 0,I 31 5,cJ 32 5 30 31,aH 33 0 1 32,ax 34 1 33,I 35 1,I 36 5,cJ 37 5 35 36,aH 38 0 1 37,ax 39 1 38,bF 40 .lss 34 39,cV 41 238 40,I 4 41]) .ret) .skip)) (.seq (.drawn true 67 [I 42 0,I 43 5,cJ 44 5 42 43,iI 45 1 4 44,a8 46 4 45,I 47 1,I 48 5,cJ 49 5 47 48,iI 50 1 4 49,a8 51 4 50,cg 52 229 46 51,I 6 52]) (aa [I 53 6,aQ 54 .neq 53 0] (aV 54 (aa [I 55 6,I 4 55] .ret) .skip))))) (.region [I 17 5,aQ 18 .add 17 1,I 5 18])))))) (.seq (aa [I 56 0,cD 57 56,I 58 1,cD 59 58,bF 60 .neq 57 59] (aV 60 (aa [I 61 0,cD 62 61,I 63 1,cD 64 63,bF 65 .lss 62 64,cV 66 238 65,I 4 66] .ret) .skip)) (aa [b7 4 0] .ret))))
@[simp] def Dz:List bY:=[.tmp 4]
def Qo:C:=(aa [ey 2 1] (aa [ec 11 1 23 [],I 3 11] (.seq (.seq (.fg false 3 (.region [I 12 0,cD 13 12,b7 14 0])) (fj 15 14 13 (.seq (.block 1 (aa [cJ 16 1 12 14,ax 17 1 16,I 5 17] (aa [bu 6 true] (.seq (aa [I 18 0,cD 19 18,b7 20 0] (.block 2 (.loop (aa [bF 21 .lss 20 19] (.seq (aV 21 .skip (.exit 2)) (.seq (.block 3 (aa [cJ 22 1 18 20,ax 23 1 22,I 8 23] (.region [I 24 6,I 25 24,bU 25 true 26 8,bU 25 true 27 5,ar 25 true (cg 28 180 26 27),ar 25 true (aQ 29 .eql 28 0),bU 25 true 30 29,bU 30 false 31 8,bU 30 false 32 5,ar 30 false (cg 33 269 31 32),ar 30 false (cB 34 33),ar 25 true (cW 35 30 34),dv 36 25 35,I 6 36]))) (.region [aQ 37 .add 20 1,I 20 37]))))))) (aa [I 38 3,cD 39 38,I 9 39] (.seq (.block 4 (.loop (.seq (aa [I 40 9,aQ 41 .gtr 40 0,I 42 41,bU 42 true 43 3,bU 42 true 44 9,ar 42 true (aQ 45 .sub 44 1),ar 42 true (cJ 46 1 43 45),ar 42 true (ax 47 1 46),bU 42 true 48 5,ar 42 true (cg 49 180 47 48),ar 42 true (aQ 50 .geq 49 0),dv 51 42 50] (aV 51 .skip (.exit 4))) (.block 5 (.region [I 52 9,aQ 53 .sub 52 1,I 9 53]))))) (aa [I 54 6,I 55 54,bU 55 true 56 9,bU 55 true 57 3,ar 55 true (cD 58 57),ar 55 true (bF 59 .eql 56 58),bU 55 true 60 59,bU 60 false 61 3,bU 60 false 62 9,ar 60 false (cJ 63 1 61 62),ar 60 false (ax 64 1 63),bU 60 false 65 5,ar 60 false (cg 66 180 64 65),ar 60 false (aQ 67 .neq 66 0),ar 55 true (cW 68 60 67),dv 69 55 68] (aV 69 (aa [ec 70 1 23 [],I 71 3,I 72 9,bQ 73 (.lsl 1 (.t 71) none (some (.t 72))),gY 74 1 23 70 73,I 10 74] (aa [I 75 10,I 76 5,ec 77 1 23 [.t 76],gY 78 1 23 75 77,I 10 78] (.region [I 79 10,I 80 3,I 81 9,bQ 82 (.lsl 1 (.t 80) (some (.t 81)) none),gY 83 1 23 79 82,I 3 83]))) .skip)))))))) (.fg false 3 (.region [aQ 84 .add 14 1,I 14 84]))))) (aa [I 85 3,I 2 85] .ret))))
@[simp] def akF:List bY:=[.tmp 2]
def PY:C:=(aa [bu 4 false] (.seq (aa [I 11 0,cV 12 142 11,cB 13 12,I 14 13,bU 14 false 15 1,ar 14 false (cV 16 142 15),ar 14 false (cB 17 16),cW 18 14 17] (aV 18 (aa [bu 4 false] .ret) .skip)) (.seq (aa [I 19 0,cD 20 19,b7 21 0] (fj 22 21 20 (.seq (.block 1 (aa [cJ 23 5 19 21,a8 24 5 23,da 6 kn,bC 5 6 24] (aa [I 26 1,aH 27 0 1 6,ax 28 1 27,cV 29 91 28,cg 30 166 26 29,I 25 30,cu 31 0 25,cu 32 1 25,da 7 dm,bC 4 7 31,I 8 32] (aa [I 34 1,iI 35 1 4 6,a8 36 4 35,cg 37 166 34 36,I 33 37,cu 38 0 33,cu 39 1 33,da 9 dm,bC 4 9 38,I 10 39] (aa [I 40 8,cB 41 40,I 42 41,bU 42 false 43 10,ar 42 false (cB 44 43),cW 45 42 44,I 46 45,ar 46 false (a8 47 4 7),ar 46 false (a8 48 4 9),ar 46 false (cg 49 167 47 48),ar 46 false (cB 50 49),cW 51 46 50] (aV 51 (aa [bu 4 false] .ret) .skip)))))) (.region [aQ 52 .add 21 1,I 21 52])))) (aa [bu 4 true] .ret))))
@[simp] def Mf:List bY:=[.tmp 4]
def wW:List (Nat×dA):=[
 (3,⟨1,8,.int .i64,.int .i64 0⟩),
 (23,⟨1,24,.slice 61,.slice 5 .nil []⟩),
 (24,⟨1,24,.slice 23,.slice 1 .nil []⟩),
 (30,⟨1,24,.slice 32,.slice 4 .nil []⟩),
 (32,⟨4,56,.struct [(0,3),(1,3),(2,9),(3,30)],.agg [.int .i64 0,.int .i64 0,.str [],.slice 4 .nil []]⟩),
 (61,⟨5,64,.struct [(0,3),(1,32)],.agg [.int .i64 0,.int .i64 0,.int .i64 0,.str [],.slice 4 .nil []]⟩)]
theorem sq:fN ay wW=true:=by kernel_rfl
theorem Dl:ca wW y7 wI 2 Tryz.f136=true:=by kernel_rfl
theorem BN:ay.funcs[(136:Nat)]? =some Tryz.f136:=Tryz.func136
theorem ajA:ca wW Qm akE 1 Tryz.f143=true:=by kernel_rfl
theorem acK:ay.funcs[(143:Nat)]? =some Tryz.f143:=Tryz.func143
theorem ajF:ca wW Qr akH 2 Tryz.f146=true:=by kernel_rfl
theorem acP:ay.funcs[(146:Nat)]? =some Tryz.f146:=Tryz.func146
theorem ajz:ca wW Ql akD 2 Tryz.f177=true:=by kernel_rfl
theorem acJ:ay.funcs[(177:Nat)]? =some Tryz.f177:=Tryz.func177
theorem ajB:ca wW Qn Dz 2 Tryz.f180=true:=by kernel_rfl
theorem acL:ay.funcs[(180:Nat)]? =some Tryz.f180:=Tryz.func180
theorem ajC:ca wW Qo akF 1 Tryz.f220=true:=by kernel_rfl
theorem acM:ay.funcs[(220:Nat)]? =some Tryz.f220:=Tryz.func220
theorem ajc:ca wW PY Mf 2 Tryz.f269=true:=by kernel_rfl
theorem ack:ay.funcs[(269:Nat)]? =some Tryz.f269:=Tryz.func269
def Qc:C:=(aa [c3 2 0,c3 3 1,bu 4 false] (aa [a8 5 4 2,a8 6 4 3,cg 7 229 5 6,aQ 8 .eql 7 0,I 4 8] .ret))
@[simp] def Wb:List bY:=[.tmp 4]
def Bz:C:=(aa [c3 2 0,c3 3 1,b7 4 0] (.seq (aa [aH 7 0 1 2,ax 8 1 7,aH 9 0 1 3,ax 10 1 9,bF 11 .neq 8 10] (aV 11 (aa [aH 12 0 1 2,ax 13 1 12,aH 14 0 1 3,ax 15 1 14,bF 16 .lss 13 15,cV 17 238 16,I 4 17] .ret) .skip)) (.seq (aa [aH 18 1 1 2,ax 19 1 18,aH 20 1 1 3,ax 21 1 20,bF 22 .neq 19 21] (aV 22 (aa [aH 23 1 1 2,ax 24 1 23,aH 25 1 1 3,ax 26 1 25,bF 27 .lss 24 26,cV 28 238 27,I 4 28] .ret) .skip)) (.seq (aa [aH 29 2 1 2,ax 30 1 29,aH 31 2 1 3,ax 32 1 31,bF 33 .neq 30 32] (aV 33 (aa [aH 34 2 1 2,ax 35 1 34,aH 36 2 1 3,ax 37 1 36,bF 38 .lss 35 37,cV 39 238 38,I 4 39] .ret) .skip)) (.seq (aa [b7 5 0] (.block 0 (.loop (.seq (aa [I 40 5,aH 41 3 1 2,ax 42 1 41,cD 43 42,bF 44 .lss 40 43,I 45 44,bU 45 true 46 5,ar 45 true (aH 47 3 1 3),ar 45 true (ax 48 1 47),ar 45 true (cD 49 48),ar 45 true (bF 50 .lss 46 49),dv 51 45 50] (aV 51 .skip (.exit 0))) (.seq (.block 1 (.seq (.drawn true 68 [aH 54 3 1 2,ax 55 1 54,I 56 5,cJ 57 4 55 56,a8 58 4 57,aH 59 3 1 3,ax 60 1 59,I 61 5,cJ 62 4 60 61,a8 63 4 62,cg 64 229 58 63,I 6 64]) (aa [I 65 6,aQ 66 .neq 65 0] (aV 66 (aa [I 67 6,I 4 67] .ret) .skip)))) (.region [I 52 5,aQ 53 .add 52 1,I 5 53])))))) (aa [b7 4 0] .ret))))))
@[simp] def AH:List bY:=[.tmp 4]
def Qd:C:=(aa [b7 2 0] (.seq (aa [I 3 0] (aV 3 (aa [b7 2 (-1)] .ret) .skip)) (aa [b7 2 1] .ret)))
@[simp] def Wc:List bY:=[.tmp 2]
def HE:List (Nat×dA):=[
 (3,⟨1,8,.int .i64,.int .i64 0⟩),
 (4,⟨1,1,.bool,.bool false⟩),
 (9,⟨1,16,.str,.str []⟩),
 (23,⟨1,24,.slice 61,.slice 5 .nil []⟩),
 (24,⟨1,24,.slice 23,.slice 1 .nil []⟩),
 (30,⟨1,24,.slice 32,.slice 4 .nil []⟩),
 (32,⟨4,56,.struct [(0,3),(1,3),(2,9),(3,30)],.agg [.int .i64 0,.int .i64 0,.str [],.slice 4 .nil []]⟩),
 (61,⟨5,64,.struct [(0,3),(1,32)],.agg [.int .i64 0,.int .i64 0,.int .i64 0,.str [],.slice 4 .nil []]⟩),
 (112,⟨1,24,.slice 3,.slice 1 .nil []⟩)]
theorem A0:fN ay HE=true:=by kernel_rfl
theorem ajq:ca HE Qc Wb 2 Tryz.f167=true:=by kernel_rfl
theorem acA:ay.funcs[(167:Nat)]? =some Tryz.f167:=Tryz.func167
theorem GG:ca HE Bz AH 2 Tryz.f229=true:=by kernel_rfl
theorem E7:ay.funcs[(229:Nat)]? =some Tryz.f229:=Tryz.func229
theorem ajr:ca HE Qd Wc 1 Tryz.f238=true:=by kernel_rfl
theorem acB:ay.funcs[(238:Nat)]? =some Tryz.f238:=Tryz.func238
theorem Yl{t u:T}(J:t.kind=u.kind)(U:t.int=u.int)(al:t.name=u.name)(a1:t.args=u.args):t=u:=by cases t<;>cases u<;>simp_all
theorem rb(b:Bool):bZ ay 238 [.bool b] (.int .i64 (if b then-1 else 1)):=by
 refine bE A0 acB ajr fun aR=>?_;unfold Qd;simp;((with_reducible repeat' first|refine aj ?_|simp|((first|apply bD|apply bH|apply bG)<;>intro h<;>try simp at h))<;>(try exact b2));all_goals simp[bn,Wc,aT,aU,aS]
 all_goals simp_all
theorem ajM{a b:T}(a7:a.args=[]\/b.args=[])(J:a.kind=b.kind)(U:a.int=b.int):ep a b=kI a.name b.name:=by cases a<;>cases b<;>simp_all[ep]
def CP(a b:T)(i:Nat)(_:Unit):Prop:=a.args.take i=b.args.take i
theorem Xw(a:T)(bO:∀x∈a.args,∀b:T,bZ ay 229 [x.e,b.e] (.int .i64 (ep x b)))(b:T):bZ ay 229 [a.e,b.e] (.int .i64 (ep a b)):=by
 have hle:a.args.length<=2:=by cases a<;>simp
 by_cases ad:a.kind=b.kind
 ·by_cases hi:a.int=b.int
  ·by_cases az:a.name=b.name
   ·have hlen:a.args.length=b.args.length:=by cases a<;>cases b<;>simp at ad⊢
    refine bE A0 E7 GG fun aR=>?_;unfold Bz;simp[ad,hi,az];refine eQ [2,3] (fun i (_:Unit)=>[(5,.int .i64 i)]) a.args.length (CP a b) () cb (by simp[CP]) (fun _ ag _=>?_) (fun i _ bt ag _=>?_)
    ·simp;(with_reducible repeat' first|refine aj ?_|simp);simp[bn,AH,aT,aU,aS];unfold CP at ag;rw[hv Ω,hv Ω]at ag;exact((q1 a b).2 (Yl ad hi az ag)).symm
    ·have qO:i<b.args.length:=Ω
     obtain⟨x,ae⟩:∃x,x=a.args[i]:=⟨_,rfl⟩;obtain⟨y,aM⟩:∃y,y=b.args[i]:=⟨_,rfl⟩;have pz:=bO x (by rw[ae];exact List.getElem_mem bt) y;simp[bt,qO,<-ae,<-aM];(with_reducible repeat' first|((first|apply bD|apply bH|apply bG)<;>intro h<;>try simp at h)|refine aj ?_|refine aC pz ?_|refine aD pz ?_|simp)
     ·simp[bn,AH,aT,aU,aS];unfold CP at ag;cases a with
      |pair bz a2=>
       cases b with
       |pair cf b9=>
        simp at bt ag ae aM;rcases(by omega:i=0\/i=1)with rfl|rfl
        ·simp at ae aM;subst ae aM;simp[ep,h]
        ·simp at ag ae aM;subst ae aM ag;simp[ep,(q1 bz bz).2 rfl]
       |_=>simp at ad
      |_=>simp at bt
     ·refine bR.rng () bt ?_ cb;unfold CP at ag⊢;rw[List.take_succ,List.take_succ,ag,cr bt,cr qO,<-ae,<-aM,(q1 x y).1 h]
   ·refine bE A0 E7 GG fun aR=>?_;unfold Bz;simp[ad,hi,az];((with_reducible repeat' first|refine aj ?_|refine aC (rb _) ?_|refine aD (rb _) ?_|simp|((first|apply bD|apply bH|apply bG)<;>intro h<;>try simp at h))<;>(try exact b2));simp[bn,AH,aT,aU,aS];have:a.args=[]\/b.args=[]:=by cases a<;>cases b<;>simp at ad az⊢
    rw[ajM this ad hi,kI,if_neg az]
  ·refine bE A0 E7 GG fun aR=>?_;unfold Bz;simp[ad,hi];((with_reducible repeat' first|refine aj ?_|refine aC (rb _) ?_|refine aD (rb _) ?_|simp|((first|apply bD|apply bH|apply bG)<;>intro h<;>try simp at h))<;>(try exact b2));simp[bn,AH,aT,aU,aS];cases a<;>cases b<;>simp at ad hi
   ·rw[Vc];simp[eu];split<;>(try split)<;>omega
   ·rw[Vb];simp[eu];split<;>(try split)<;>omega
 ·refine bE A0 E7 GG fun aR=>?_;unfold Bz;simp[ad];((with_reducible repeat' first|refine aj ?_|refine aC (rb _) ?_|refine aD (rb _) ?_|simp|((first|apply bD|apply bH|apply bG)<;>intro h<;>try simp at h))<;>(try exact b2));simp[bn,AH,aT,aU,aS];rw[sd ad];simp[eu];split<;>(try split)<;>omega
theorem HK(a:T):∀b:T,bZ ay 229 [a.e,b.e] (.int .i64 (ep a b)):=by
 induction a with
 |pair x y pz r4=>
  refine Xw _ fun z bk=>?_;simp at bk;rcases bk with rfl|rfl
  ·exact pz
  ·exact r4
 |_=>exact Xw _ fun x ae=>by simp at ae
theorem HM(a b:T):bZ ay 167 [a.e,b.e] (.bool (decide (a=b))):=by refine bE A0 acA ajq fun aR=>?_;unfold Qc;simp;(with_reducible repeat' first|refine aj ?_|refine aC (HK _ _) ?_|refine aD (HK _ _) ?_|simp);simp[bn,Wb,aT,aU,aS];have:=q1 a b;by_cases h:ep a b=0<;>simp_all
theorem amE{s t:List ak}(af:eB s)(aI:eB t):bZ ay 177 [.slice 5 .no (s.map ak.e),.slice 5 .no (t.map ak.e)] (.slice 5 .no ((dR s t).map ak.e)):=by
 have afN:=aI.len;generalize bS:dR s t=R;refine bE sq acJ ajz fun aR=>?_;unfold Ql;simp;refine ik (α:=List ak) (fun i out=>⟨[(0,.slice 5 .no (s.map ak.e)),(11,.slice 5 .no (t.map ak.e)),(12,.int .i64 t.length),(5,.slice 5 (.own (.loc 0)) (out.map ak.e)),(13,.int .i64 i)],[],[(.loc 0,⟨out.length,61,5,none⟩)],1,[]⟩) t.length (qU s t) [] cb (by simp[qU,dR]) (fun out ag _=>?_) (fun i out hi ag _=>?_)
 ·rw[qU,hv (eC _),bS]at ag;rw[<-ag];exact c0
 ·obtain⟨b,av,gB⟩:=fb hi;have Cv:out.length<=1000000:=by
   have:out.length<=(t.take i).length:=by rw[ag];exact List.length_filter_le _ _
   simp at this;omega
  have jL:=re s b.v af.len;cases ab:dc s b.v with
  |none=>
   have az:qU s t (i+1) (out++[b]):=by rw[qU,sp av,dR,List.filter_append,ag];simp[dR,ab]
   rw[ab]at jL;simp only[jq,iL]at jL;clear ag av ab;simp[hi,gB];(with_reducible repeat' first|refine aj ?_|refine aC jL ?_|refine aD jL ?_|simp[gB,hi]);all_goals first|(refine⟨by unfold lim;omega,?_⟩)|skip
   (with_reducible repeat' first|refine aj ?_|simp);refine bR.rng (out++[b]) hi az ?_;simp;exact⟨by simp[fresh,aP,aJ,cx,inObs,Pv.look,j1],eS (by simp[fresh,aP,aJ,cx,inObs,Pv.look,j1]),eT (by simp[fresh,aP,aJ,et,inObs,Pv.look,j1]),Ψ⟩
  |some x=>
   have az:qU s t (i+1) out:=by rw[qU,sp av,dR,List.filter_append,ag];simp[dR,ab]
   rw[ab]at jL;simp only[hV,kM]at jL;clear ag av ab;simp[hi,gB];(with_reducible repeat' first|refine aj ?_|refine aC jL ?_|refine aD jL ?_|simp[gB,hi]);refine bR.rng out hi az ?_;exact cb
theorem amk{s t:List ak}(af:eB s)(aI:eB t):bZ ay 269 [.slice 5 .no (s.map ak.e),.slice 5 .no (t.map ak.e)] (.bool (j6 s t)):=by
 have qQ:=af.len;generalize bS:j6 s t=R;have c9:=Nw af;have du:=Nw aI;refine bE sq ack ajc fun aR=>?_;unfold PY;simp;(with_reducible repeat' first|refine aj ?_|refine aC c9 ?_|refine aD c9 ?_|refine aC du ?_|refine aD du ?_|simp);refine eQ [1,19,20] (fun i (_:Unit)=>[(21,.int .i64 i)]) s.length (np (qY t) s) () cb (fun k b ad=>Ω) (fun _ ag _=>?_) (fun i _ hi ag _=>?_)
 ·have:R=true:=by rw[<-bS,j6,gH];intro b ab;obtain⟨k,ad,e⟩:=od ab;exact ag k b ad (by rw[cr ad,e])
  rw[this];exact c0
 ·obtain⟨b,av,gB⟩:=fb hi;have fY:qY t b=false->R=false:=fun h=>by rw[<-bS,Bool.eq_false_iff];intro ck;rw[j6,gH]at ck;rw[ck b (eZ av)]at h;cases h
  have aX:=D4 t aI.len (.var b.v);have bg:=D4 t aI.len b.t;have xR:=DQ aI b.v;have F0:((T.var b.v).ap (aY t)).size<=5000:=xR;rw[jS F0]at aX;rw[show(T.var b.v).ap (aY t)=aY t b.v from rfl]at aX;by_cases bk:(b.t.ap (aY t)).size<=5000
  ·rw[jS bk]at bg;by_cases he:aY t b.v=b.t.ap (aY t)
   ·have az:=ag.step av (by simp[qY,he]);have jA:=HM (aY t b.v) (b.t.ap (aY t));rw[jS he]at jA;clear ag av;simp[hi,gB];(with_reducible repeat' first|refine aj ?_|refine aC (kf _) ?_|refine aD (kf _) ?_|refine aC aX ?_|refine aD aX ?_|refine aC bg ?_|refine aD bg ?_|refine aC jA ?_|refine aD jA ?_|simp[gB,hi]);exact bR.rng () hi az cb
   ·rw[fY (by simp[qY,he])];have jA:=HM (aY t b.v) (b.t.ap (aY t));rw[lT he]at jA;clear ag av;simp[hi,gB];(with_reducible repeat' first|refine aj ?_|refine aC (kf _) ?_|refine aD (kf _) ?_|refine aC aX ?_|refine aD aX ?_|refine aC bg ?_|refine aD bg ?_|refine aC jA ?_|refine aD jA ?_|simp[gB,hi]);simp[bn,Mf,aT,aU,aS]
  ·rw[lT bk]at bg;rw[fY (by simp only[qY,hx];intro e;rw[<-e]at bk;exact bk xR)];clear ag av;simp[hi,gB];(with_reducible repeat' first|refine aj ?_|refine aC (kf _) ?_|refine aD (kf _) ?_|refine aC aX ?_|refine aD aX ?_|refine aC bg ?_|refine aD bg ?_|simp[gB,hi]);simp[bn,Mf,aT,aU,aS]
theorem Nr(d e:List ak):bZ ay 180 [.slice 5 .no (d.map ak.e),.slice 5 .no (e.map ak.e)] (.int .i64 (ek d e)):=by
 generalize bS:ek d e=R;refine bE sq acL ajB fun aR=>?_;unfold Qn;have aG:d.length<=68719476736:=by simp[ij,ho,hN,lim]at aR;omega
 have he:e.length<=68719476736:=by simp[ij,ho,hN,lim]at aR;omega
 simp;refine vt [0,1] (fun(i:Nat)=>[(5,.int .i64 i)]) (fun i=>d.length-i) (KL d e) 0 cb ⟨Ω,Ω,Ψ⟩ (fun i ag _=>?_);obtain⟨J,U,al⟩:=ag;rw[bS]at al;by_cases hi:i<d.length
 ·by_cases hE:i<e.length
  ·obtain⟨x,ae⟩:∃x,d[i]? =some x:=⟨_,cr hi⟩;obtain⟨y,aM⟩:∃y,e[i]? =some y:=⟨_,cr hE⟩;have dJ:∀h,(d[i]'h)=x:=fun h=>by rw[cr hi]at ae;exact gu ae
   have gh:∀h,(e[i]'h)=y:=fun h=>by rw[cr hE]at aM;exact gu aM
   have zu:d.drop i=x::d.drop (i+1):=by rw[k4 hi,dJ]
   have zv:e.drop i=y::e.drop (i+1):=by rw[k4 hE,gh]
   rw[zu,zv]at al;rw[U9]at al;by_cases aZ:x.v=y.v
   ·have oO:eu x.v y.v=0:=(kp.zero _ _).2 aZ;have uW:(x.v !=y.v)=false:=by simp[aZ]
    rw[if_pos oO]at al;by_cases bm:ep x.t y.t=0
    ·rw[if_pos bm]at al;have az:KL d e (i+1):=⟨Ω,Ω,by rw[bS];exact al⟩;have jZ:=HK x.t y.t;rw[bm]at jZ;clear zu zv ae aM al oO;simp[hi,hE,dJ,gh];((with_reducible repeat' first|refine aj ?_|refine aC jZ ?_|refine aD jZ ?_|simp[dJ,gh,hi,hE,aZ,uW]|((first|apply bD|apply bH|apply bG)<;>intro h<;>try simp at h))<;>(try exact b2));all_goals exact bR.whl (i+1) Ω az cb
    ·rw[if_neg bm]at al;have jZ:=HK x.t y.t;have yj:(ep x.t y.t !=0)=true:=by simp[bm]
     clear zu zv ae aM oO;simp[hi,hE,dJ,gh];(with_reducible repeat' first|refine aj ?_|refine aC jZ ?_|refine aD jZ ?_|simp[dJ,gh,hi,hE,aZ,uW,bm,yj]);all_goals simp[bn,Dz,aT,aU,aS]
     all_goals exact al
   ·have oO:¬eu x.v y.v=0:=fun h=>aZ ((kp.zero _ _).1 h);have uW:(x.v !=y.v)=true:=by simp[aZ]
    rw[if_neg oO]at al;have dE:R=if decide (x.v<y.v)=true then-1 else 1:=by rw[<-al];unfold eu;simp only[eF];(repeat' split)<;>omega
    clear zu zv ae aM al oO;rw[dE];simp[hi,hE,dJ,gh];(with_reducible repeat' first|refine aj ?_|refine aC (rb _) ?_|refine aD (rb _) ?_|simp[dJ,gh,hi,hE,aZ,uW]);all_goals simp[bn,Dz,aT,aU,aS]
  ·have hle:e.length<d.length:=Ω
   have:(1:Int)=R:=by rw[<-al,ek,C1 _ _ _ (.inr (List.drop_eq_nil_of_le Ω))];simp only[sB];unfold eu;(repeat' split)<;>omega
   have cF:¬(d.length:Int)=e.length:=Ω
   have Kb:((d.length:Int) !=e.length)=true:=by simp;omega
   have jJ:¬(d.length:Int)<e.length:=Ω
   have Cs:¬d.length<e.length:=Ω
   have afk:¬d.length=e.length:=Ω
   clear al;rw[<-this];simp[hi,hE];(with_reducible repeat' first|refine aj ?_|refine aC (rb _) ?_|refine aD (rb _) ?_|simp[hi,hE,cF,Kb,jJ,Cs,afk]);all_goals simp[bn,Dz,aT,aU,aS]
   all_goals(try simp[Cs])
 ·have eX:i=d.length:=Ω
  by_cases au:d.length=e.length
  ·have:(0:Int)=R:=by rw[<-al,ek,C1 _ _ _ (.inl (List.drop_eq_nil_of_le Ω))];simp only[sB];unfold eu;(repeat' split)<;>omega
   clear al;rw[<-this];exact c0
  ·have:(-1:Int)=R:=by rw[<-al,ek,C1 _ _ _ (.inl (List.drop_eq_nil_of_le Ω))];simp only[sB];unfold eu;(repeat' split)<;>omega
   have cF:¬(d.length:Int)=e.length:=Ω
   have Kb:((d.length:Int) !=e.length)=true:=by simp;omega
   have jJ:(d.length:Int)<e.length:=Ω
   have Cs:d.length<e.length:=Ω
   clear al;rw[<-this];simp[hi];(with_reducible repeat' first|refine aj ?_|refine aC (rb _) ?_|refine aD (rb _) ?_|simp[hi,cF,Kb,jJ,Cs,au]);all_goals simp[bn,Dz,aT,aU,aS]
   all_goals(try simp[Cs])
def agz(n:Int)(a b:T)(i:Nat)(_:Unit):Prop:=(1<=i->gd n a=true)/\(2<=i->gd n b=true)
theorem Nu(n:Int):∀t:T,bZ ay 136 [t.e,.int .i64 n] (.bool (gd n t))
 | .pair a b=>by
  have dB:=Nu n a;have dC:=Nu n b;refine bE sq BN Dl fun aR=>?_;unfold y7;simp;refine eQ [1,2,8,9] (fun i (_:Unit)=>[(10,.int .i64 i)]) 2 (agz n a b) () cb ⟨fun h=>Ω,fun h=>Ω⟩ (fun _ ag _=>?_) (fun i _ hi ag _=>?_)
  ·simp;(with_reducible repeat' first|refine aj ?_|simp);simp[bn,wI,aT,aU,aS];simp[gd,ag.1,ag.2]
  ·rcases(by omega:i=0\/i=1)with rfl|rfl
   ·cases a7:gd n a
    ·rw[a7]at dB;simp;(with_reducible repeat' first|refine aj ?_|refine aC dB ?_|refine aD dB ?_|simp);simp[bn,wI,aT,aU,aS];simp[gd,a7]
    ·rw[a7]at dB;simp;((with_reducible repeat' first|refine aj ?_|refine aC dB ?_|refine aD dB ?_|simp|((first|apply bD|apply bH|apply bG)<;>intro h<;>try simp at h))<;>(try exact b2));exact bR.rng () hi ⟨fun _=>a7,fun h=>Ω⟩ cb
   ·cases ab:gd n b
    ·rw[ab]at dC;simp;((with_reducible repeat' first|refine aj ?_|refine aC dC ?_|refine aD dC ?_|simp|((first|apply bD|apply bH|apply bG)<;>intro h<;>try simp at h))<;>(try exact b2));simp[bn,wI,aT,aU,aS];simp[gd,ab]
    ·rw[ab]at dC;simp;((with_reducible repeat' first|refine aj ?_|refine aC dC ?_|refine aD dC ?_|simp|((first|apply bD|apply bH|apply bG)<;>intro h<;>try simp at h))<;>(try exact b2));exact bR.rng () hi ⟨fun _=>ag.1 Ω,fun _=>ab⟩ cb
 | .sym v=>by
  refine bE sq BN Dl fun aR=>?_;unfold y7;simp;refine eQ [1,2,8,9] (fun i (_:Unit)=>[(10,.int .i64 i)]) 0 (fun i _=>True) () cb trivial (fun _ ag _=>?_) (fun i _ hi ag _=>Ω);simp;((with_reducible repeat' first|refine aj ?_|simp|((first|apply bD|apply bH|apply bG)<;>intro h<;>try simp at h))<;>(try exact b2));all_goals simp[bn,wI,aT,aU,aS]
  all_goals simp[gd]
 | .num v=>by
  refine bE sq BN Dl fun aR=>?_;unfold y7;simp;refine eQ [1,2,8,9] (fun i (_:Unit)=>[(10,.int .i64 i)]) 0 (fun i _=>True) () cb trivial (fun _ ag _=>?_) (fun i _ hi ag _=>Ω);simp;(with_reducible repeat' first|refine aj ?_|simp);all_goals simp[bn,wI,aT,aU,aS]
  all_goals simp[gd]
 | .var v=>by
  refine bE sq BN Dl fun aR=>?_;unfold y7;simp;refine eQ [1,2,8,9] (fun i (_:Unit)=>[(10,.int .i64 i)]) 0 (fun i _=>True) () cb trivial (fun _ ag _=>?_) (fun i _ hi ag _=>Ω);simp;(with_reducible repeat' first|refine aj ?_|simp);all_goals simp[bn,wI,aT,aU,aS]
  all_goals simp[gd]
 | .nil=>by
  refine bE sq BN Dl fun aR=>?_;unfold y7;simp;refine eQ [1,2,8,9] (fun i (_:Unit)=>[(10,.int .i64 i)]) 0 (fun i _=>True) () cb trivial (fun _ ag _=>?_) (fun i _ hi ag _=>Ω);simp;(with_reducible repeat' first|refine aj ?_|simp);all_goals simp[bn,wI,aT,aU,aS]
  all_goals simp[gd]
theorem XG(s:List ak)(n:Int):bZ ay 146 [.slice 5 .no (s.map ak.e),.int .i64 n] (.bool (s.all (qB n))):=by
 generalize bS:s.all (qB n)=R;refine bE sq acP ajF fun aR=>?_;unfold Qr;have iH:s.length<=68719476736:=by simp[ij,ho,hN,lim]at aR;omega
 simp;refine eQ [1,7,8] (fun i (_:Unit)=>[(9,.int .i64 i)]) s.length (np (qB n) s) () cb (fun k b ad=>Ω) (fun _ ag _=>?_) (fun i _ hi ag _=>?_)
 ·have:R=true:=by rw[<-bS,gH];intro b ab;obtain⟨k,ad,e⟩:=od ab;exact ag k b ad (by rw[cr ad,e])
  rw[this];exact c0
 ·obtain⟨b,av,gB⟩:=fb hi;have fY:qB n b=false->R=false:=fun h=>by rw[<-bS,Bool.eq_false_iff];intro ck;rw[gH]at ck;rw[ck b (eZ av)]at h;cases h
  have mL:=Nu n b.t;by_cases J:b.v<n
  ·have pk:¬n<=b.v:=Ω
   cases U:gd n b.t
   ·rw[fY (by simp[qB,U])];rw[U]at mL;clear ag av;exact c0
   ·have az:=ag.step av (by simp[qB,J,U]);rw[U]at mL;clear ag av;exact h6
  ·have pk:n<=b.v:=Ω
   rw[fY (by simp[qB,J])];clear ag av;exact c0
theorem amH(l:List (List dO)):bZ ay 143 [.slice 1 .no (l.map mz)] (.bool (l.all gV)):=by
 generalize bS:l.all gV=R;refine bE sq acK ajA fun aR=>?_;unfold Qm;have iH:l.length<=68719476736:=by simp[ij,ho,hN,lim]at aR;omega
 simp;refine eQ [5,6] (fun i (_:Unit)=>[(7,.int .i64 i)]) l.length (np gV l) () cb (fun k b ad=>Ω) (fun _ ag _=>?_) (fun i _ hi ag _=>?_)
 ·have:R=true:=by rw[<-bS,gH];intro b ab;obtain⟨k,ad,e⟩:=od ab;exact ag k b ad (by rw[cr ad,e])
  rw[this];exact c0
 ·obtain⟨b,av,gB⟩:=fb hi;have c9:bZ ay 142 [mz b] (.bool (gV b)):=Nv b;cases ab:gV b
  ·have:R=false:=by rw[<-bS,Bool.eq_false_iff];intro ck;rw[gH]at ck;rw[ck b (eZ av)]at ab;cases ab
   rw[this];rw[ab]at c9;clear ag av;exact c0
  ·have az:=ag.step av ab;rw[ab]at c9;clear ag av;exact h6
theorem QN(a:List (List ak))(k:Nat)(m:List ak):oY k (a.map cQ)++cQ m::List.drop k (a.map cQ)=(a.take k++m::a.drop k).map cQ:=by simp
theorem qG(a:List (List ak))(k:Nat)(m:List ak):dr (oY k (a.map cQ)++cQ m::List.drop k (a.map cQ))=oY k (a.map cQ)++cQ m::List.drop k (a.map cQ):=by rw[QN,M6]
theorem qF(S:aL->Prop)(a:List (List ak))(k:Nat)(m:List ak):aP S (oY k (a.map cQ)++cQ m::List.drop k (a.map cQ))=True:=by rw[QN,T0]
theorem QL(a:List (List ak))(m:List ak):a.map cQ++[cQ m]=(a++[m]).map cQ:=by simp
theorem qE(a:List (List ak))(m:List ak):dr (a.map cQ++[cQ m])=a.map cQ++[cQ m]:=by rw[QL,M6]
theorem qD(S:aL->Prop)(a:List (List ak))(m:List ak):aP S (a.map cQ++[cQ m])=True:=by rw[QL,T0]
theorem XE(L:List (List ak))(fe:∀d∈L,eB d):bZ ay 220 [.slice 1 .no (L.map cQ)] (.slice 1 .no ((jN L).map cQ)):=by
 generalize bS:jN L=R;rw[ahu]at bS;refine bE sq acM ajC fun aR=>?_;unfold Qo;have iH:L.length<=68719476736:=by simp[ij,ho,hN,lim]at aR;omega
 simp;refine eQ [0,12,13] (fun i (a:List (List ak))=>[(3,.slice 1 .no (a.map cQ)),(14,.int .i64 i)]) L.length (xV L) [] cb (by simp[xV]) (fun a ag _=>?_) (fun i a hi ag _=>?_)
 ·rw[xV,oZ,bS]at ag;subst ag;exact c0
 ·obtain⟨e,he,JU⟩:=fb hi;have rH:hH ek a:=by rw[ag];exact Lt _ (by simp[hH])
  have pZ:a.length<=i:=by have:=UE (L:=L) (L.take i) [];rw[ag];simp at this⊢;omega
  have fq:=ag.step he;have lG:=fe e (eZ he);have bg:∀d,bZ ay 180 [cQ d,cQ e] (.int .i64 (ek d e)):=fun d=>Nr d e;clear ag he;simp[hi,JU];(with_reducible repeat' first|refine aj ?_|simp[hi,JU]);refine eQ [0,3,5,12,13,14,18,19] (fun j (b:Bool)=>[(6,.bool b),(20,.int .i64 j)]) L.length (p8 L e) true cb (by simp[p8]) (fun keep ag _=>?_) (fun j keep eb ag _=>?_)
  ·rw[p8,oZ]at ag;have SC:keep=iu L e:=ag;rw[qg,<-SC]at fq;clear ag SC;simp;(with_reducible repeat' first|refine aj ?_|simp);refine vt [0,3,5,6,12,13,14] (fun(k:Nat)=>[(9,.int .i64 k)]) (fun k=>k) (F8 a e) a.length cb ⟨Ω,fun c h=>by simp at h⟩ (fun k ag _=>?_);have ad:=ag.1;rcases Nat.eq_zero_or_pos k with bA|fB
   ·have bk:decide ((0:Int)<k)=false:=by simp;omega
    have r3:¬(0:Int)<k:=Ω
    have dF:=ag.fin rH fun d h=>Ω
    clear ag rH;cases keep with
    |false=>simp only[gF,if_false]at fq;clear dF;exact h6
    |true=>
     simp only[if_true]at fq;by_cases hp:k<a.length
     ·obtain⟨c,aq,kl⟩:=fb hp;rw[aq]at dF;by_cases q:ek c e=0
      ·rw[if_pos (by simp[q])]at dF;rw[dF]at fq;clear dF aq;simp[hp,kl,bk,r3];((with_reducible repeat' first|refine aj ?_|refine aC (bg _) ?_|refine aD (bg _) ?_|simp[hp,kl,q,bk,r3]|((first|apply bD|apply bH|apply bG)<;>intro h<;>try simp at h))<;>(try exact b2));all_goals exact bR.rng a hi fq cb
      ·rw[if_neg (by simp[q])]at dF;have gD:(ek c e !=0)=true:=by simp[q]
       rw[dF]at fq;clear dF aq;simp[hp,kl,bk,r3];((with_reducible repeat' first|refine aj ?_|refine aC (bg _) ?_|refine aD (bg _) ?_|simp[hp,kl,q,gD,bk,r3]|((first|apply bD|apply bH|apply bG)<;>intro h<;>try simp at h))<;>(try exact b2));all_goals first|(refine⟨by unfold lim;omega,?_⟩)|skip
       all_goals(with_reducible repeat' first|refine aj ?_|simp)
       all_goals first|(refine⟨by unfold lim;omega,?_⟩)|skip
       all_goals((with_reducible repeat' first|refine aj ?_|simp|((first|apply bD|apply bH|apply bG)<;>intro h<;>try simp at h))<;>(try exact b2))
       all_goals exact bR.rng _ hi fq ⟨by simp[fresh,aP,aJ,cx,inObs,Pv.look,hv,qG,qF,qE,qD],eS (by simp[fresh,aP,aJ,cx,inObs,Pv.look,hv,qG,qF,qE,qD]),eT (by simp[fresh,aP,aJ,et,inObs,Pv.look,hv,qG,qF,qE,qD]),Ψ⟩
     ·rw[qp Ω]at dF;simp only[gF,if_false]at dF;rw[dF]at fq;have im:k=a.length:=Ω
      have s7:a.take k++e::a.drop k=a++[e]:=by rw[im];simp
      rw[s7]at fq;clear dF s7;simp[hp,bk,r3];((with_reducible repeat' first|refine aj ?_|refine aC (bg _) ?_|refine aD (bg _) ?_|simp[hp,im,bk,r3]|((first|apply bD|apply bH|apply bG)<;>intro h<;>try simp at h))<;>(try exact b2));all_goals first|(refine⟨by unfold lim;omega,?_⟩)|skip
      all_goals(with_reducible repeat' first|refine aj ?_|simp)
      all_goals first|(refine⟨by unfold lim;omega,?_⟩)|skip
      all_goals((with_reducible repeat' first|refine aj ?_|simp|((first|apply bD|apply bH|apply bG)<;>intro h<;>try simp at h))<;>(try exact b2))
      all_goals exact bR.rng _ hi fq ⟨by simp[fresh,aP,aJ,cx,inObs,Pv.look,hv,qG,qF,qE,qD],eS (by simp[fresh,aP,aJ,cx,inObs,Pv.look,hv,qG,qF,qE,qD]),eT (by simp[fresh,aP,aJ,et,inObs,Pv.look,hv,qG,qF,qE,qD]),Ψ⟩
   ·obtain⟨d,aG⟩:∃d,a[k-1]? =some d:=⟨_,cr Ω⟩;have ao:((k:Int)-1).toNat=k-1:=Ω
    have aF:∀h,(a[k-1]'h)=d:=fun h=>by rw[cr h]at aG;exact gu aG
    have iU:(0:Int)<k:=Ω
    have l4:k-1<a.length:=Ω
    by_cases ab:0<=ek d e
    ·have af:F8 a e (k-1):=⟨Ω,fun c aq=>by rw[aG]at aq;cases aq;exact ab⟩;clear ag rH fq aG;simp[fB,iU,ao,aF,ab,l4];((with_reducible repeat' first|refine aj ?_|refine aC (bg _) ?_|refine aD (bg _) ?_|simp[fB,iU,ao,aF,ab,l4]|((first|apply bD|apply bH|apply bG)<;>intro h<;>try simp at h))<;>(try exact b2));refine bR.whl (k-1) Ω af ?_;have bM:((k-1:Nat):Int)=(k:Int)-1:=Ω
     simp[bM];exact cb
    ·have dF:=ag.fin rH fun cp _ mC=>by rw[aG]at mC;cases mC;omega
     clear ag rH aG;cases keep with
     |false=>simp only[gF,if_false]at fq;clear dF;simp[fB,iU,ao,aF,ab,l4];(with_reducible repeat' first|refine aj ?_|refine aC (bg _) ?_|refine aD (bg _) ?_|simp[fB,iU,ao,aF,ab,l4]);all_goals exact bR.rng a hi fq cb
     |true=>
      simp only[if_true]at fq;by_cases hp:k<a.length
      ·obtain⟨c,aq,kl⟩:=fb hp;rw[aq]at dF;by_cases q:ek c e=0
       ·rw[if_pos (by simp[q])]at dF;rw[dF]at fq;clear dF aq;simp[hp,kl,fB,iU,ao,aF,ab,l4];((with_reducible repeat' first|refine aj ?_|refine aC (bg _) ?_|refine aD (bg _) ?_|simp[hp,kl,q,fB,iU,ao,aF,ab,l4]|((first|apply bD|apply bH|apply bG)<;>intro h<;>try simp at h))<;>(try exact b2));all_goals exact bR.rng a hi fq cb
       ·rw[if_neg (by simp[q])]at dF;have gD:(ek c e !=0)=true:=by simp[q]
        rw[dF]at fq;clear dF aq;simp[hp,kl,fB,iU,ao,aF,ab,l4];((with_reducible repeat' first|refine aj ?_|refine aC (bg _) ?_|refine aD (bg _) ?_|simp[hp,kl,q,gD,fB,iU,ao,aF,ab,l4]|((first|apply bD|apply bH|apply bG)<;>intro h<;>try simp at h))<;>(try exact b2));all_goals first|(refine⟨by unfold lim;omega,?_⟩)|skip
        all_goals(with_reducible repeat' first|refine aj ?_|simp)
        all_goals first|(refine⟨by unfold lim;omega,?_⟩)|skip
        all_goals((with_reducible repeat' first|refine aj ?_|simp|((first|apply bD|apply bH|apply bG)<;>intro h<;>try simp at h))<;>(try exact b2))
        all_goals exact bR.rng _ hi fq ⟨by simp[fresh,aP,aJ,cx,inObs,Pv.look,hv,qG,qF,qE,qD],eS (by simp[fresh,aP,aJ,cx,inObs,Pv.look,hv,qG,qF,qE,qD]),eT (by simp[fresh,aP,aJ,et,inObs,Pv.look,hv,qG,qF,qE,qD]),Ψ⟩
      ·rw[qp Ω]at dF;simp only[gF,if_false]at dF;rw[dF]at fq;have im:k=a.length:=Ω
       have s7:a.take k++e::a.drop k=a++[e]:=by rw[im];simp
       rw[s7]at fq;clear dF s7;simp[hp,fB,iU,ao,aF,ab,l4];((with_reducible repeat' first|refine aj ?_|refine aC (bg _) ?_|refine aD (bg _) ?_|simp[hp,im,fB,iU,ao,aF,ab,l4]|((first|apply bD|apply bH|apply bG)<;>intro h<;>try simp at h))<;>(try exact b2));all_goals first|(refine⟨by unfold lim;omega,?_⟩)|skip
       all_goals(with_reducible repeat' first|refine aj ?_|simp)
       all_goals first|(refine⟨by unfold lim;omega,?_⟩)|skip
       all_goals(with_reducible repeat' first|refine aj ?_|simp)
       all_goals exact bR.rng _ hi fq ⟨by simp[fresh,aP,aJ,cx,inObs,Pv.look,hv,qG,qF,qE,qD],eS (by simp[fresh,aP,aJ,cx,inObs,Pv.look,hv,qG,qF,qE,qD]),eT (by simp[fresh,aP,aJ,et,inObs,Pv.look,hv,qG,qF,qE,qD]),Ψ⟩
  ·obtain⟨d,aG,hdi⟩:=fb eb;have az:=ag.step aG;have jg:=fe d (eZ aG);have eo:bZ ay 269 [cQ d,cQ e] (.bool (j6 d e)):=amk jg lG;clear ag aG fq rH;cases keep with
   |false=>simp only[Bool.false_and]at az;exact h6
   |true=>
    simp only[Bool.true_and,wg]at az;by_cases q:ek d e=0
    ·rw[jS ((kW.zero _ _).1 q),Bool.true_or]at az;simp[eb,hdi];(with_reducible repeat' first|refine aj ?_|refine aC (bg _) ?_|refine aD (bg _) ?_|simp[eb,hdi,q]);all_goals exact bR.rng true eb az cb
    ·rw[lT (fun h=>q ((kW.zero _ _).2 h)),Bool.false_or]at az;have gD:(ek d e==0)=false:=by simp[q]
     cases aW:j6 d e
     ·rw[aW]at az eo;simp[eb,hdi];(with_reducible repeat' first|refine aj ?_|refine aC (bg _) ?_|refine aD (bg _) ?_|refine aC eo ?_|refine aD eo ?_|simp[eb,hdi,q,gD]);all_goals exact bR.rng true eb az cb
     ·rw[aW]at az eo;simp[eb,hdi];(with_reducible repeat' first|refine aj ?_|refine aC (bg _) ?_|refine aD (bg _) ?_|refine aC eo ?_|refine aD eo ?_|simp[eb,hdi,q,gD]);all_goals exact bR.rng false eb az cb
def vp:C:=(aa [c3 1 0,bu 2 false] (.seq (aa [aH 11 0 1 1,ax 12 1 11,c1 13 141 [.t 12,(dI 0),(dI 100000)],cB 14 13,I 15 14,ar 15 false (aH 16 1 1 1),ar 15 false (ax 17 1 16),ar 15 false (cV 18 142 17),ar 15 false (cB 19 18),cW 20 15 19,I 21 20,ar 21 false (aH 22 2 1 1),ar 21 false (ax 23 1 22),ar 21 false (cV 24 143 23),ar 21 false (cB 25 24),cW 26 21 25,I 27 26,ar 27 false (aH 28 3 1 1),ar 27 false (ax 29 1 28),ar 27 false (cV 30 144 29),ar 27 false (cB 31 30),cW 32 27 31,I 33 32,ar 33 false (aH 34 4 1 1),ar 33 false (ax 35 1 34),ar 33 false (cV 36 145 35),ar 33 false (cB 37 36),cW 38 33 37,I 39 38,ar 39 false (aH 40 1 1 1),ar 39 false (ax 41 1 40),ar 39 false (aH 42 0 1 1),ar 39 false (ax 43 1 42),ar 39 false (cg 44 146 41 43),ar 39 false (cB 45 44),cW 46 39 45] (aV 46 (aa [bu 2 false] .ret) .skip)) (.seq (aa [aH 47 2 1 1,ax 48 1 47,cD 49 48,b7 50 0] (fj 51 50 49 (.seq (.block 1 (aa [cJ 52 1 48 50,ax 53 1 52,I 4 53] (aa [I 54 4,aH 55 0 1 1,ax 56 1 55,cg 57 146 54 56,cB 58 57] (aV 58 (aa [bu 2 false] .ret) .skip)))) (.region [aQ 59 .add 50 1,I 50 59])))) (.seq (aa [aH 60 3 1 1,ax 61 1 60,cD 62 61,b7 63 0] (.block 2 (.loop (aa [bF 64 .lss 63 62] (.seq (aV 64 .skip (.exit 2)) (.seq (.block 3 (aa [cJ 65 2 61 63,a8 66 2 65,cH (.alloc 6 none (.agg [.int .i64 0,.int .i64 0])),bC 2 6 66] (aa [aH 67 0 1 6,ax 68 1 67,aH 69 0 1 1,ax 70 1 69,bF 71 .geq 68 70] (aV 71 (aa [bu 2 false] .ret) .skip)))) (.region [aQ 72 .add 63 1,I 63 72]))))))) (.seq (aa [aH 73 4 1 1,ax 74 1 73,cD 75 74,b7 76 0] (.block 4 (.loop (aa [bF 77 .lss 76 75] (.seq (aV 77 .skip (.exit 4)) (.seq (.block 5 (aa [cJ 78 2 74 76,a8 79 2 78,cH (.alloc 8 none (.agg [.int .i64 0,.str []])),bC 2 8 79] (aa [aH 80 0 1 8,ax 81 1 80,aH 82 0 1 1,ax 83 1 82,bF 84 .geq 81 83] (aV 84 (aa [bu 2 false] .ret) .skip)))) (.region [aQ 85 .add 76 1,I 76 85]))))))) (aa [a8 87 5 1,cV 88 147 87,I 86 88,cu 89 0 86,cu 90 1 86,da 9 h5,bC 5 9 89,I 10 90] (aa [I 91 10,I 92 91,ar 92 true (a8 93 5 9),ar 92 true (a8 94 5 1),ar 92 true (cg 95 94 93 94),dv 96 92 95,I 2 96] .ret)))))))
@[simp] def akz:List bY:=[.tmp 2]
def xj:C:=(aa [c3 2 0,c3 3 1,bu 4 false] (.seq (aa [aH 11 0 1 2,ax 12 1 11,aH 13 0 1 3,ax 14 1 13,bF 15 .neq 12 14,I 16 15,ar 16 false (aH 17 1 1 2),ar 16 false (ax 18 1 17),ar 16 false (aH 19 1 1 3),ar 16 false (ax 20 1 19),ar 16 false (cg 21 180 18 20),ar 16 false (aQ 22 .neq 21 0),cW 23 16 22,I 24 23,ar 24 false (aH 25 2 1 2),ar 24 false (ax 26 1 25),ar 24 false (cD 27 26),ar 24 false (aH 28 2 1 3),ar 24 false (ax 29 1 28),ar 24 false (cD 30 29),ar 24 false (bF 31 .neq 27 30),cW 32 24 31,I 33 32,ar 33 false (aH 34 3 1 2),ar 33 false (ax 35 1 34),ar 33 false (cD 36 35),ar 33 false (aH 37 3 1 3),ar 33 false (ax 38 1 37),ar 33 false (cD 39 38),ar 33 false (bF 40 .neq 36 39),cW 41 33 40,I 42 41,ar 42 false (aH 43 4 1 2),ar 42 false (ax 44 1 43),ar 42 false (cD 45 44),ar 42 false (aH 46 4 1 3),ar 42 false (ax 47 1 46),ar 42 false (cD 48 47),ar 42 false (bF 49 .neq 45 48),cW 50 42 49] (aV 50 (aa [bu 4 false] .ret) .skip)) (.seq (aa [aH 51 2 1 2,ax 52 1 51,cD 53 52,b7 54 0] (fj 55 54 53 (.seq (.block 1 (aa [I 56 54,cJ 57 1 52 54,ax 58 1 57,I 5 56,I 6 58] (aa [I 59 6,aH 60 2 1 3,ax 61 1 60,I 62 5,cJ 63 1 61 62,ax 64 1 63,cg 65 180 59 64,aQ 66 .neq 65 0] (aV 66 (aa [bu 4 false] .ret) .skip)))) (.region [aQ 67 .add 54 1,I 54 67])))) (.seq (aa [aH 68 3 1 2,ax 69 1 68,cD 70 69,b7 71 0] (.block 2 (.loop (aa [bF 72 .lss 71 70] (.seq (aV 72 .skip (.exit 2)) (.seq (.block 3 (aa [I 73 71,cJ 74 2 69 71,a8 75 2 74,cH (.alloc 8 none (.agg [.int .i64 0,.int .i64 0])),I 7 73,bC 2 8 75] (.seq (.drawn true 100 [a8 76 2 8,aH 77 3 1 3,ax 78 1 77,I 79 7,cJ 80 2 78 79,a8 81 2 80,bQ 82 (.beq true (some [false,false]) (.t 76) (.t 81))]) (aV 82 (aa [bu 4 false] .ret) .skip)))) (.region [aQ 83 .add 71 1,I 71 83]))))))) (.seq (aa [aH 84 4 1 2,ax 85 1 84,cD 86 85,b7 87 0] (.block 4 (.loop (aa [bF 88 .lss 87 86] (.seq (aV 88 .skip (.exit 4)) (.seq (.block 5 (aa [I 89 87,cJ 90 2 85 87,a8 91 2 90,cH (.alloc 10 none (.agg [.int .i64 0,.str []])),I 9 89,bC 2 10 91] (.seq (.drawn true 100 [a8 92 2 10,aH 93 4 1 3,ax 94 1 93,I 95 9,cJ 96 2 94 95,a8 97 2 96,bQ 98 (.beq true (some [false,true]) (.t 92) (.t 97))]) (aV 98 (aa [bu 4 false] .ret) .skip)))) (.region [aQ 99 .add 87 1,I 87 99]))))))) (aa [bu 4 true] .ret))))))
@[simp] def G8:List bY:=[.tmp 4]
def ES:C:=(aa [c3 1 0,da 2 h5,bu 3 false] (aa [aH 20 1 1 1,ax 21 1 20,aH 22 3 1 1,ax 23 1 22,cg 24 217 21 23,I 19 24,cu 25 0 19,cu 26 1 19,I 4 25,I 5 26] (aa [aH 28 1 1 1,ax 29 1 28,aH 30 4 1 1,ax 31 1 30,cg 32 218 29 31,I 27 32,cu 33 0 27,cu 34 1 27,I 6 33,I 7 34] (.seq (aa [I 35 5,cB 36 35,I 37 36,bU 37 false 38 7,ar 37 false (cB 39 38),cW 40 37 39] (aV 40 (aa [gE 41 h5 [],bC 5 2 41,bu 3 false] .ret) .skip)) (aa [aH 42 0 1 1,ax 43 1 42,aH 44 1 1 1,ax 45 1 44,I 46 4,gE 47 h5 [(0,1,(.t 43)),(1,1,(.t 45)),(3,1,(.t 46))],da 8 h5,bC 5 8 47] (.seq (aa [I 48 6,cD 49 48,b7 50 0] (fj 51 50 49 (.seq (.block 1 (aa [cJ 52 2 48 50,a8 53 2 52,cH (.alloc 10 none (.agg [.int .i64 0,.str []])),bC 2 10 53] (aa [I 55 4,aH 56 0 1 10,ax 57 1 56,cV 58 91 57,c1 59 178 [.t 55,.t 58,(dI 2)],I 54 59,cu 60 0 54,cu 61 1 54,I 11 60,I 12 61] (aa [I 62 12] (aV 62 (.region [aH 63 4 1 8,ax 64 1 63,a8 65 2 10,ec 66 2 106 [.t 65],gY 67 2 106 64 66,aH 68 4 1 8,bC 1 68 67]) .skip))))) (.region [aQ 69 .add 50 1,I 50 69])))) (aa [ec 70 1 23 [],I 13 70] (.seq (aa [aH 71 2 1 1,ax 72 1 71,cD 73 72,b7 74 0] (.block 2 (.loop (aa [bF 75 .lss 74 73] (.seq (aV 75 .skip (.exit 2)) (.seq (.block 3 (aa [cJ 76 1 72 74,ax 77 1 76,I 15 77] (aa [aH 79 1 1 1,ax 80 1 79,I 81 15,cg 82 219 80 81,I 78 82,cu 83 0 78,cu 84 1 78,I 16 83,I 17 84] (.seq (aa [I 85 17] (aV 85 (aa [I 87 16,aH 88 3 1 8,ax 89 1 88,cg 90 217 87 89,I 86 90,cu 91 0 86,cu 92 1 86,I 5 92] (.region [I 94 16,aH 95 4 1 8,ax 96 1 95,cg 97 218 94 96,I 93 97,cu 98 0 93,cu 99 1 93,I 7 99])) .skip)) (.seq (aa [I 100 17,cB 101 100,I 102 101,bU 102 false 103 5,ar 102 false (cB 104 103),cW 105 102 104,I 106 105,bU 106 false 107 7,ar 106 false (cB 108 107),cW 109 106 108] (aV 109 (aa [bu 5 true] (aa [bu 7 true] (.exit 3))) .skip)) (aa [aH 110 1 1 1,ax 111 1 110,I 112 16,cg 113 177 111 112,I 18 113] (.seq (aa [I 114 18,cD 115 114,aQ 116 .eql 115 0] (aV 116 (aa [gE 117 h5 [],bC 5 2 117,bu 3 false] .ret) .skip)) (.region [I 118 13,I 119 18,ec 120 1 23 [.t 119],gY 121 1 23 118 120,I 13 121])))))))) (.region [aQ 122 .add 74 1,I 74 122]))))))) (aa [I 123 13,cV 124 220 123,aH 125 2 1 8,bC 1 125 124] (.seq (.fz true 8 (.drawn true 131 [bQ 126 (.loadZ true 5 (.t 8)),aH 127 2 1 8,bQ 128 (.loadZ false 1 (.t 127)),cD 129 128,aQ 130 .leq 129 30,bC 5 2 126,I 3 130])) .ret))))))))))
@[simp] def u0:List bY:=[.cell 2 true 5,.tmp 3]
def HF:List (Nat×dA):=[
 (3,⟨1,8,.int .i64,.int .i64 0⟩),
 (9,⟨1,16,.str,.str []⟩),
 (23,⟨1,24,.slice 61,.slice 5 .nil []⟩),
 (24,⟨1,24,.slice 23,.slice 1 .nil []⟩),
 (25,⟨1,24,.slice 104,.slice 2 .nil []⟩),
 (26,⟨1,24,.slice 106,.slice 2 .nil []⟩),
 (28,⟨5,104,.struct [(0,3),(1,23),(2,24),(3,25),(4,26)],.agg [.int .i64 0,.slice 5 .nil [],.slice 1 .nil [],.slice 2 .nil [],.slice 2 .nil []]⟩),
 (104,⟨2,16,.struct [(0,3),(1,3)],.agg [.int .i64 0,.int .i64 0]⟩),
 (106,⟨2,24,.struct [(0,3),(1,9)],.agg [.int .i64 0,.str []]⟩)]
theorem n7:fN ay HF=true:=by kernel_rfl
theorem yg:ca HF vp akz 1 Tryz.f65=true:=by kernel_rfl
theorem xp:ay.funcs[(65:Nat)]? =some Tryz.f65:=Tryz.func65
theorem Aq:ca HF xj G8 2 Tryz.f94=true:=by kernel_rfl
theorem zf:ay.funcs[(94:Nat)]? =some Tryz.f94:=Tryz.func94
theorem LR:ca HF ES u0 1 Tryz.f147=true:=by kernel_rfl
theorem Jl:ay.funcs[(147:Nat)]? =some Tryz.f147:=Tryz.func147
noncomputable def MB(s:cC):ai:= .tuple [(AQ s).e,.bool (fu s).isSome]
theorem amJ{k:List b4}(ad:ir k)(v:Int):bZ ay 178 [.slice 2 .no (k.map b4.e),(T.var v).e,.int .i64 2] (oP k (hM k (.var v) 2)):=XF k (by have:=uG ad;omega) ad.asc (.var v) 2
theorem XD{b y:List ak}(ab:eB b)(aM:eB y):bZ ay 177 [.slice 5 .no (b.map ak.e),.slice 5 .no (y.map ak.e)] (cQ (dR b y)):=amE ab aM
theorem XC{b x:List ak}(ab:eB b)(ae:eB x):bZ ay 219 [.slice 5 .no (b.map ak.e),cQ x] (fE (mgu b (fR x))):=amD b x ab.sol ab.fits ae.len
def Lf(a:List br):ai:=match a with
 |[]=>.slice 2 .nil []
 |_::_=>.slice 2 (.own (.loc 5)) (a.map br.e)
def Le(a:List br):List (aL×fQ):=match a with
 |[]=>[]
 |_::_=>[(.loc 5,⟨a.length,106,2,none⟩)]
def Ld(a:List br):Nat:=match a with
 |[]=>3
 |_::_=>6
@[simp]theorem aqe:Lf []= .slice 2 .nil []:=rfl
@[simp]theorem aqd(x:br)(a:List br):Lf (x::a)= .slice 2 (.own (.loc 5)) (x.e::a.map br.e):=rfl
@[simp]theorem aqc:Le []=[]:=rfl
@[simp]theorem aqb(x:br)(a:List br):Le (x::a)=[(.loc 5,⟨a.length+1,106,2,none⟩)]:=rfl
@[simp]theorem aqa:Ld []=3:=rfl
@[simp]theorem ap9(x:br)(a:List br):Ld (x::a)=6:=rfl
theorem amN{s:cC}(h:gK s){G:List (List c4)}(lb:G.length<=687000)(aW:kY G s.m):bZ ay 147 [s.e] (MB s):=by
 unfold MB;generalize c7:fu s=O;generalize dE:AQ s=SS;have kF:=Ns h.b h.k;have kG:=Nt h.b h.m lb aW;have kk:=fun k=>Ha (acc:=[]) (a:=k) h.b h.k.at' ⟨Ψ,Ψ⟩;have qh:=fun m=>Hc (acc:=[]) (a:=m) h.b h.m.at' ⟨Ψ,by simp[hH]⟩;have nc:=fun m=>He (acc:=[]) (a:=m) (s:=s.b) aW (fun x ae=>by simp at ae);have ab:=h.b;have aG:=h.d;clear h aW;unfold fu at c7;unfold AQ at dE;obtain⟨n,b,d,gR,m0⟩:=s;simp only at kF kG kk qh nc ab aG c7 dE;have fk:=ab.len;simp only[cC.e];generalize fC b gR []=ok at kF c7 dE kk;generalize fD b m0 []=om at kG c7 dE qh nc;cases ok with
 |none=>
  simp only at c7 dE;subst c7;subst dE;simp only[fo]at kF;simp only[ix]at kG;clear kk qh nc;refine bE n7 Jl LR fun aR=>?_;unfold ES;simp;(with_reducible repeat' first|refine aj ?_|refine aC kF ?_|refine aD kF ?_|refine aC kG ?_|refine aD kG ?_|simp);all_goals simp[bn,u0,aT,aU,aS]
  all_goals simp[pM,cC.e]
 |some k=>
  simp only at c7 dE;cases om with
  |none=>
   simp only at c7 dE;subst c7;subst dE;simp only[fo]at kF;simp only[ix]at kG;clear kk qh nc;refine bE n7 Jl LR fun aR=>?_;unfold ES;simp;(with_reducible repeat' first|refine aj ?_|refine aC kF ?_|refine aD kF ?_|refine aC kG ?_|refine aD kG ?_|simp);all_goals simp[bn,u0,aT,aU,aS]
   all_goals simp[pM,cC.e]
  |some m=>
   simp only at c7 dE;have vG:=kk k rfl;have xJ:=qh m rfl;have xE:=nc m rfl;have mE:m.length<=68719470000:=by have:=C6 xJ xE;omega
   have zE:=Um (k:=k) xJ;have zw:=M9 (k:=k) xE;simp only[fo,hV,kM]at kF;simp only[ix,hV,kM]at kG;clear kk qh nc;refine bE n7 Jl LR fun aR=>?_;unfold ES;have Fx:d.length<=68719476736:=by simp[ij,ho,hN,lim]at aR;omega
   clear aR;simp;(with_reducible repeat' first|refine aj ?_|refine aC kF ?_|refine aD kF ?_|refine aC kG ?_|refine aD kG ?_|simp);refine ik (fun i (a:List br)=>⟨[(1,.ptr (.loc 0) 0),(2,.ptr (.loc 1) 0),(4,.slice 2 .no (k.map b4.e)),(8,.ptr (.loc 2) 0),(48,.slice 2 .no (m.map br.e)),(49,.int .i64 m.length),(50,.int .i64 i)],[(.loc 0,[.int .i64 n,.slice 5 .no (b.map ak.e),.slice 1 .no (d.map cQ),.slice 2 .no (gR.map b4.e),.slice 2 .no (m0.map br.e)]),(.loc 1,[.int .i64 0,.slice 5 .nil [],.slice 1 .nil [],.slice 2 .nil [],.slice 2 .nil []]),(.loc 2,[.int .i64 n,.slice 5 .no (b.map ak.e),.slice 1 .nil [],.slice 2 .no (k.map b4.e),Lf a])],Le a,Ld a,[]⟩) m.length (tj k m) [] cb (by simp[tj]) (fun a ag _=>?_) (fun i a hi ag _=>?_);rotate_left
   ·obtain⟨x,ae,dJ⟩:=fb hi;have pZ:a.length<=68719470000:=by
     have:a.length<=(m.take i).length:=by rw[ag];exact List.length_filter_le _ _
     simp at this;omega
    have az:=ag.step ae;have oM:=amJ vG x.v;have bI:(hM k (.var x.v) 2).isSome=jB k x:=Yt vG x.v;simp only[oP,bI]at oM;clear bI;generalize (hM k (.var x.v) 2).getD k=kz at oM;cases aO:jB k x
    ·rw[aO]at az oM;simp only[gF,if_false]at az;clear ag ae aO;cases a with
     |nil=>simp[hi,dJ];(with_reducible repeat' first|refine aj ?_|refine aC (kf _) ?_|refine aD (kf _) ?_|refine aC oM ?_|refine aD oM ?_|simp[hi,dJ]);all_goals exact bR.rng [] hi az cb
     |cons y ys=>simp[hi,dJ];(with_reducible repeat' first|refine aj ?_|refine aC (kf _) ?_|refine aD (kf _) ?_|refine aC oM ?_|refine aD oM ?_|simp[hi,dJ]);all_goals exact bR.rng (y::ys) hi az cb
    ·rw[aO]at az oM;simp only[if_true]at az;clear ag ae aO;cases a with
     |nil=>
      simp[hi,dJ];(with_reducible repeat' first|refine aj ?_|refine aC (kf _) ?_|refine aD (kf _) ?_|refine aC oM ?_|refine aD oM ?_|simp[hi,dJ]);all_goals first|(refine⟨by unfold lim;omega,?_⟩)|skip
      all_goals(with_reducible repeat' first|refine aj ?_|simp)
      all_goals exact bR.rng [x] hi az cb
     |cons y ys=>
      simp only[oe]at pZ;simp[hi,dJ];(with_reducible repeat' first|refine aj ?_|refine aC (kf _) ?_|refine aD (kf _) ?_|refine aC oM ?_|refine aD oM ?_|simp[hi,dJ]);all_goals first|(refine⟨by unfold lim;omega,?_⟩)|skip
      all_goals(with_reducible repeat' first|refine aj ?_|simp)
      all_goals exact bR.rng (y::ys++[x]) hi az ⟨by simp[fresh,aP,aJ,cx,inObs,Pv.look,zX],eS (by simp[fresh,aP,aJ,cx,inObs,Pv.look,zX]),eT (by simp[fresh,aP,aJ,et,inObs,Pv.look,zX]),Ψ⟩
   rw[tj,oZ]at ag;rw[<-ag]at zE zw c7 dE;clear ag xJ xE;cases a with
   |nil=>
    simp;(with_reducible repeat' first|refine aj ?_|simp);refine ik (fun i (L:List (List ak))=>⟨[(1,.ptr (.loc 0) 0),(2,.ptr (.loc 1) 0),(8,.ptr (.loc 2) 0),(13,.slice 1 (.own (.loc 3)) (L.map cQ)),(72,.slice 1 .no (d.map cQ)),(73,.int .i64 d.length),(74,.int .i64 i)],[(.loc 0,[.int .i64 n,.slice 5 .no (b.map ak.e),.slice 1 .no (d.map cQ),.slice 2 .no (gR.map b4.e),.slice 2 .no (m0.map br.e)]),(.loc 1,[.int .i64 0,.slice 5 .nil [],.slice 1 .nil [],.slice 2 .nil [],.slice 2 .nil []]),(.loc 2,[.int .i64 n,.slice 5 .no (b.map ak.e),.slice 1 .nil [],.slice 2 .no (k.map b4.e),.slice 2 .nil []])],[(.loc 3,⟨L.length,23,1,none⟩)],3+1,[]⟩) d.length (p9 b k [] d) [] cb ⟨Ψ,Ψ,Ψ⟩ (fun L ag _=>?_) (fun i L hi ag _=>?_)
    ·have fe:=ag.fin;have rG:=ag.2.1;rw[fe]at c7 dE;simp only at c7 dE;have nq:=XE L rG;clear ag fe rG;generalize jN L=M at nq c7 dE;subst dE;by_cases la:M.length<=30
     ·have oz:(M.length:Int)<=30:=Ω
      rw[if_pos la]at c7;subst c7;simp;(with_reducible repeat' first|refine aj ?_|refine aC nq ?_|refine aD nq ?_|simp[la,oz]);all_goals simp[bn,u0,aT,aU,aS]
      all_goals try simp[cC.e,la,oz]
      all_goals first|exact⟨_,rfl,rfl⟩|skip
     ·have oz:¬(M.length:Int)<=30:=Ω
      rw[if_neg la]at c7;subst c7;simp;(with_reducible repeat' first|refine aj ?_|refine aC nq ?_|refine aD nq ?_|simp[la,oz]);all_goals simp[bn,u0,aT,aU,aS]
      all_goals try simp[cC.e,la,oz]
      all_goals first|exact⟨_,rfl,rfl⟩|skip
    ·obtain⟨x,ae,dJ⟩:=fb hi;have hb:=aG x (eZ ae);have R6:=ag.1;have gC:=XC ab hb;simp only[fE]at gC;cases hu:mgu b (fR x)with
     |none=>have az:=ag.skip ae fun r=>K5 hu;rw[hu]at gC;simp only[jq,iL]at gC;clear ag ae c7 dE;exact h6
     |some y=>
      have jh:=ab.mgu (BG hb) hu;rw[hu]at gC;simp only[hV,kM]at gC;have di:=Ns jh vG;have eo:=Nt jh zE lb zw;have hR:=XD ab jh;simp only[fo]at di;simp only[ix,hn,eO]at eo;by_cases iG:fC y k []=none\/fD y [] []=none
      ·have az:=ag.skip ae fun r=>K4 hu iG;clear ag ae c7 dE hu hR;rcases iG with e|e
       ·rw[e]at di;simp only[jq,iL]at di;exact h6
       ·rw[e]at eo;simp only[jq,iL]at eo;generalize (fC y k []).isSome=aZ at di;cases aZ
        ·exact h6
        ·exact h6
      ·have ao:(fC y k []).isSome=true:=by cases e:fC y k []with|none=>exact absurd (.inl e) iG|some _=>rfl
       have aF:(fD y [] []).isSome=true:=by cases e:fD y [] []with|none=>exact absurd (.inr e) iG|some _=>rfl
       rw[ao]at di;rw[aF]at eo;by_cases cF:dR b y=[]
       ·have af:=ag.stop ae fun r=>K3 hu iG cF;rw[af]at c7 dE;simp only at c7 dE;subst c7;subst dE;rw[cF]at hR;simp only[cQ,hn]at hR;clear ag ae hu iG;simp[hi,dJ];(with_reducible repeat' first|refine aj ?_|refine aC gC ?_|refine aD gC ?_|refine aC di ?_|refine aD di ?_|refine aC eo ?_|refine aD eo ?_|refine aC hR ?_|refine aD hR ?_|simp[hi,dJ]);all_goals simp[bn,u0,aT,aU,aS]
        all_goals try simp[pM,cC.e]
       ·have az:=ag.snoc ae (Dc (b:=b) jh) fun r=>K6 hu iG cF;have vK:¬((dR b y).length:Int)=0:=by have:(dR b y).length≠0:=fun h=>cF (List.length_eq_zero_iff.1 h);omega
        have vL:(((dR b y).length:Int)==0)=false:=by simp[cF]
        clear ag ae hu iG c7 dE;generalize dR b y=z at hR az vK vL cF;simp only[cQ]at hR;simp[hi,dJ];(with_reducible repeat' first|refine aj ?_|refine aC gC ?_|refine aD gC ?_|refine aC di ?_|refine aD di ?_|refine aC eo ?_|refine aD eo ?_|refine aC hR ?_|refine aD hR ?_|simp[hi,dJ,vK,vL,cF]);all_goals first|(refine⟨by unfold lim;omega,?_⟩)|skip
        all_goals(with_reducible repeat' first|refine aj ?_|simp)
        all_goals exact bR.rng (L++[z]) hi az ⟨by simp[fresh,aP,aJ,cx,inObs,Pv.look,tp,cQ],eS (by simp[fresh,aP,aJ,cx,inObs,Pv.look,tp,cQ]),eT (by simp[fresh,aP,aJ,et,inObs,Pv.look,tp,cQ]),Ψ⟩
   |cons Eb Ec=>
    simp;(with_reducible repeat' first|refine aj ?_|simp);refine ik (fun i (L:List (List ak))=>⟨[(1,.ptr (.loc 0) 0),(2,.ptr (.loc 1) 0),(8,.ptr (.loc 2) 0),(13,.slice 1 (.own (.loc 6)) (L.map cQ)),(72,.slice 1 .no (d.map cQ)),(73,.int .i64 d.length),(74,.int .i64 i)],[(.loc 0,[.int .i64 n,.slice 5 .no (b.map ak.e),.slice 1 .no (d.map cQ),.slice 2 .no (gR.map b4.e),.slice 2 .no (m0.map br.e)]),(.loc 1,[.int .i64 0,.slice 5 .nil [],.slice 1 .nil [],.slice 2 .nil [],.slice 2 .nil []]),(.loc 2,[.int .i64 n,.slice 5 .no (b.map ak.e),.slice 1 .nil [],.slice 2 .no (k.map b4.e),.slice 2 (.own (.loc 5)) (Eb.e::Ec.map br.e)])],[(.loc 6,⟨L.length,23,1,none⟩)],6+1,[]⟩) d.length (p9 b k (Eb::Ec) d) [] cb ⟨Ψ,Ψ,Ψ⟩ (fun L ag _=>?_) (fun i L hi ag _=>?_)
    ·have fe:=ag.fin;have rG:=ag.2.1;rw[fe]at c7 dE;simp only at c7 dE;have nq:=XE L rG;clear ag fe rG;generalize jN L=M at nq c7 dE;subst dE;by_cases la:M.length<=30
     ·have oz:(M.length:Int)<=30:=Ω
      rw[if_pos la]at c7;subst c7;simp;(with_reducible repeat' first|refine aj ?_|refine aC nq ?_|refine aD nq ?_|simp[la,oz]);all_goals simp[bn,u0,aT,aU,aS]
      all_goals try simp[cC.e,la,oz]
      all_goals first|exact⟨_,rfl,rfl⟩|skip
     ·have oz:¬(M.length:Int)<=30:=Ω
      rw[if_neg la]at c7;subst c7;simp;(with_reducible repeat' first|refine aj ?_|refine aC nq ?_|refine aD nq ?_|simp[la,oz]);all_goals simp[bn,u0,aT,aU,aS]
      all_goals try simp[cC.e,la,oz]
      all_goals first|exact⟨_,rfl,rfl⟩|skip
    ·obtain⟨x,ae,dJ⟩:=fb hi;have hb:=aG x (eZ ae);have R6:=ag.1;have gC:=XC ab hb;simp only[fE]at gC;cases hu:mgu b (fR x)with
     |none=>have az:=ag.skip ae fun r=>K5 hu;rw[hu]at gC;simp only[jq,iL]at gC;clear ag ae c7 dE;exact h6
     |some y=>
      have jh:=ab.mgu (BG hb) hu;rw[hu]at gC;simp only[hV,kM]at gC;have di:=Ns jh vG;have eo:=Nt jh zE lb zw;have hR:=XD ab jh;simp only[fo]at di;simp only[ix,hn,eO]at eo;by_cases iG:fC y k []=none\/fD y (Eb::Ec) []=none
      ·have az:=ag.skip ae fun r=>K4 hu iG;clear ag ae c7 dE hu hR;rcases iG with e|e
       ·rw[e]at di;simp only[jq,iL]at di;exact h6
       ·rw[e]at eo;simp only[jq,iL]at eo;generalize (fC y k []).isSome=aZ at di;cases aZ
        ·exact h6
        ·exact h6
      ·have ao:(fC y k []).isSome=true:=by cases e:fC y k []with|none=>exact absurd (.inl e) iG|some _=>rfl
       have aF:(fD y (Eb::Ec) []).isSome=true:=by cases e:fD y (Eb::Ec) []with|none=>exact absurd (.inr e) iG|some _=>rfl
       rw[ao]at di;rw[aF]at eo;by_cases cF:dR b y=[]
       ·have af:=ag.stop ae fun r=>K3 hu iG cF;rw[af]at c7 dE;simp only at c7 dE;subst c7;subst dE;rw[cF]at hR;simp only[cQ,hn]at hR;clear ag ae hu iG;simp[hi,dJ];(with_reducible repeat' first|refine aj ?_|refine aC gC ?_|refine aD gC ?_|refine aC di ?_|refine aD di ?_|refine aC eo ?_|refine aD eo ?_|refine aC hR ?_|refine aD hR ?_|simp[hi,dJ]);all_goals simp[bn,u0,aT,aU,aS]
        all_goals try simp[pM,cC.e]
       ·have az:=ag.snoc ae (Dc (b:=b) jh) fun r=>K6 hu iG cF;have vK:¬((dR b y).length:Int)=0:=by have:(dR b y).length≠0:=fun h=>cF (List.length_eq_zero_iff.1 h);omega
        have vL:(((dR b y).length:Int)==0)=false:=by simp[cF]
        clear ag ae hu iG c7 dE;generalize dR b y=z at hR az vK vL cF;simp only[cQ]at hR;simp[hi,dJ];(with_reducible repeat' first|refine aj ?_|refine aC gC ?_|refine aD gC ?_|refine aC di ?_|refine aD di ?_|refine aC eo ?_|refine aD eo ?_|refine aC hR ?_|refine aD hR ?_|simp[hi,dJ,vK,vL,cF]);all_goals first|(refine⟨by unfold lim;omega,?_⟩)|skip
        all_goals(with_reducible repeat' first|refine aj ?_|simp)
        all_goals exact bR.rng (L++[z]) hi az ⟨by simp[fresh,aP,aJ,cx,inObs,Pv.look,tp,cQ],eS (by simp[fresh,aP,aJ,cx,inObs,Pv.look,tp,cQ]),eT (by simp[fresh,aP,aJ,et,inObs,Pv.look,tp,cQ]),Ψ⟩
theorem amI(x y:List ak):bZ ay 180 [cQ x,cQ y] (.int .i64 (ek x y)):=Nr x y
theorem amP{x y:List ak}(h:¬x=y):(ek x y !=0)=true:=by have:¬ek x y=0:=fun e=>h ((kW.zero _ _).1 e);simp[this]
theorem amM(a c:cC):bZ ay 94 [a.e,c.e] (.bool (decide (a=c))):=by
 obtain⟨n,b,d,k,m⟩:=a;obtain⟨n',b0,cp,bN,lL⟩:=c;generalize bS:decide ((⟨n,b,d,k,m⟩:cC)=⟨n',b0,cp,bN,lL⟩)=R;simp only[cC.mk.injEq,cC.e]at bS⊢;by_cases aZ:n=n';rotate_left
 ·have kR:R=false:=by rw[<-bS];simp[aZ]
  have uW:(n !=n')=true:=by simp[aZ]
  rw[kR];clear bS kR;refine bE n7 zf Aq fun aR=>?_;unfold xj;exact c0
 subst aZ;have jA:=Nr b b0;by_cases bm:b=b0;rotate_left
 ·have kR:R=false:=by rw[<-bS];simp[bm]
  have oO:¬ek b b0=0:=fun h=>bm ((kW.zero _ _).1 h);have Vm:(ek b b0 !=0)=true:=by simp[oO]
  rw[kR];clear bS kR;refine bE n7 zf Aq fun aR=>?_;unfold xj;exact c0
 subst bm;rw[(kW.zero b b).2 rfl]at jA;by_cases bP:d.length=cp.length;rotate_left
 ·have kR:R=false:=by rw[<-bS];simp only[hx];rintro⟨_,_,rfl,_⟩;exact bP rfl
  have tD:((d.length:Int) !=cp.length)=true:=by simp;omega
  rw[kR];clear bS kR;refine bE n7 zf Aq fun aR=>?_;unfold xj;exact c0
 by_cases cP:k.length=bN.length;rotate_left
 ·have kR:R=false:=by rw[<-bS];simp only[hx];rintro⟨_,_,_,rfl,_⟩;exact cP rfl
  have aqI:((k.length:Int) !=bN.length)=true:=by simp;omega
  rw[kR];clear bS kR;refine bE n7 zf Aq fun aR=>?_;unfold xj;exact c0
 by_cases cZ:m.length=lL.length;rotate_left
 ·have kR:R=false:=by rw[<-bS];simp only[hx];rintro⟨_,_,_,_,rfl⟩;exact cZ rfl
  have aqJ:((m.length:Int) !=lL.length)=true:=by simp;omega
  rw[kR];clear bS kR;refine bE n7 zf Aq fun aR=>?_;unfold xj;exact c0
 have FJ:d≠cp->R=false:=fun h=>by rw[<-bS];simp[h]
 have FK:k≠bN->R=false:=fun h=>by rw[<-bS];simp[h]
 have afp:m≠lL->R=false:=fun h=>by rw[<-bS];simp[h]
 refine bE n7 zf Aq fun aR=>?_;unfold xj;have ao3:cp.length<=68719476736:=by simp[ij,ho,hN,lim]at aR;omega
 have ao4:bN.length<=68719476736:=by simp[ij,ho,hN,lim]at aR;omega
 have ao5:lL.length<=68719476736:=by simp[ij,ho,hN,lim]at aR;omega
 clear aR;simp;(with_reducible repeat' first|refine aj ?_|refine aC jA ?_|refine aD jA ?_|simp[bP,cP,cZ]);have c8:=FJ;refine eQ [2,3,52,53] (fun i (_:Unit)=>[(54,.int .i64 i)]) cp.length (vs d cp) () cb (fun k ad=>Ω) (fun _ ag _=>?_) (fun i _ hi ag _=>?_);rotate_left
 ·obtain⟨x,ae⟩:∃x,d[i]? =some x:=⟨_,cr Ω⟩;obtain⟨y,aM⟩:∃y,cp[i]? =some y:=⟨_,cr hi⟩;have jX:i<d.length:=Ω
  have dJ:∀h,(d[i]'h)=x:=fun h=>by rw[cr jX]at ae;exact gu ae
  have gh:∀h,(cp[i]'h)=y:=fun h=>by rw[cr hi]at aM;exact gu aM
  have jA:=amI x y;by_cases q:x=y
  ·subst q;have az:=ag.step ae aM;rw[(kW.zero _ _).2 rfl]at jA;clear ag ae aM;simp[hi,jX,dJ,gh,-mv];(with_reducible repeat' first|refine aj ?_|refine aC jA ?_|refine aD jA ?_|simp[dJ,gh,hi,jX,-mv]);all_goals exact bR.rng () hi az cb
  ·rw[c8 (fun h=>q (by rw[h]at ae;rw[ae]at aM;exact gu aM))];have oO:=amP q;clear ag ae aM;simp[hi,jX,dJ,gh,-mv];(with_reducible repeat' first|refine aj ?_|refine aC jA ?_|refine aD jA ?_|simp[dJ,gh,hi,jX,q,oO,-mv]);all_goals simp[bn,G8,aT,aU,aS]
 have c6:=ag.fin bP;subst c6;clear ag c8 FJ bP;simp;(with_reducible repeat' first|refine aj ?_|simp[cP]);have c8:=FK;refine eQ [2,3,69,70] (fun i (_:Unit)=>[(71,.int .i64 i)]) bN.length (vs k bN) () cb (fun k ad=>Ω) (fun _ ag _=>?_) (fun i _ hi ag _=>?_);rotate_left
 ·obtain⟨x,ae⟩:∃x,k[i]? =some x:=⟨_,cr Ω⟩;obtain⟨y,aM⟩:∃y,bN[i]? =some y:=⟨_,cr hi⟩;have jX:i<k.length:=Ω
  have dJ:∀h,(k[i]'h)=x:=fun h=>by rw[cr jX]at ae;exact gu ae
  have gh:∀h,(bN[i]'h)=y:=fun h=>by rw[cr hi]at aM;exact gu aM
  have jA:=True.intro;by_cases q:x=y
  ·subst q;have az:=ag.step ae aM;skip;clear ag ae aM;simp[hi,jX,dJ,gh,-mv];(with_reducible repeat' first|refine aj ?_|refine aC jA ?_|refine aD jA ?_|simp[dJ,gh,hi,jX,-mv]);all_goals exact bR.rng () hi az cb
  ·rw[c8 (fun h=>q (by rw[h]at ae;rw[ae]at aM;exact gu aM))];skip;clear ag ae aM;simp[hi,jX,dJ,gh,-mv];(with_reducible repeat' first|refine aj ?_|refine aC jA ?_|refine aD jA ?_|simp[dJ,gh,hi,jX,q,q,-mv]);all_goals simp[bn,G8,aT,aU,aS]
 have c6:=ag.fin cP;subst c6;clear ag c8 FK cP;simp;(with_reducible repeat' first|refine aj ?_|simp[cZ]);have c8:=afp;refine eQ [3,85,86] (fun i (_:Unit)=>[(87,.int .i64 i)]) lL.length (vs m lL) () cb (fun k ad=>Ω) (fun _ ag _=>?_) (fun i _ hi ag _=>?_);rotate_left
 ·obtain⟨x,ae⟩:∃x,m[i]? =some x:=⟨_,cr Ω⟩;obtain⟨y,aM⟩:∃y,lL[i]? =some y:=⟨_,cr hi⟩;have jX:i<m.length:=Ω
  have dJ:∀h,(m[i]'h)=x:=fun h=>by rw[cr jX]at ae;exact gu ae
  have gh:∀h,(lL[i]'h)=y:=fun h=>by rw[cr hi]at aM;exact gu aM
  have jA:=True.intro;by_cases q:x=y
  ·subst q;have az:=ag.step ae aM;skip;clear ag ae aM;simp[hi,jX,dJ,gh,-mv];(with_reducible repeat' first|refine aj ?_|refine aC jA ?_|refine aD jA ?_|simp[dJ,gh,hi,jX,-mv]);all_goals exact bR.rng () hi az cb
  ·rw[c8 (fun h=>q (by rw[h]at ae;rw[ae]at aM;exact gu aM))];skip;clear ag ae aM;simp[hi,jX,dJ,gh,-mv];(with_reducible repeat' first|refine aj ?_|refine aC jA ?_|refine aD jA ?_|simp[dJ,gh,hi,jX,q,q,-mv]);all_goals simp[bn,G8,aT,aU,aS]
 have c6:=ag.fin cZ;subst c6;have kR:R=true:=by rw[<-bS];simp
 rw[kR];exact c0
@[simp]theorem alJ:∀l:List (List dO),dr (l.map mz)=l.map mz
 |[]=>rfl
 |x::xs=>by simp[dr,alJ xs]
theorem W7:∀{d:List (List dO)},d.all gV=true->∃D:List (List ak),d=(D.map fun x=>x.map ak.b)/\∀x∈D,eB x
 |[],_=>⟨[],rfl,Ψ⟩
 |x::d,h=>by
  rw[List.all_cons,ct]at h;obtain⟨D,J,U⟩:=W7 h.2;obtain⟨s,ao,aF⟩:=HC.1 (wS.1 h.1);refine⟨s::D,by rw[J,ao];rfl,fun y aM=>?_⟩;rcases fI.1 aM with rfl|aM
  ·exact aF
  ·exact U y aM
open Classical in
theorem am2(r:pR)(il:jM r.m->wV r.m):bZ ay 65 [r.e] (.bool (decide (yE r))):=by
 generalize bS:decide (yE r)=R;have c8:¬Wl r->R=false:=fun h=>by rw[<-bS,hx];exact fun ck=>h ck.raw
 obtain⟨n,b,d,k,m⟩:=r;simp only[pR.e]at il⊢;have qb:=ds n 0 100000;by_cases g1:0<=n/\n<=100000;rotate_left
 ·rw[c8 fun h=>g1 h.n];rw[lT g1]at qb;refine bE n7 xp yg fun aR=>?_;unfold vp;exact c0
 rw[jS g1]at qb;have mL:bZ ay 142 [.slice 5 .no (b.map dO.e)] (.bool (gV b)):=Nv b;cases g3:gV b
 ·rw[c8 fun h=>by obtain⟨s,ao,aF,_⟩:=h.b;have:=wS.2 (HC.2 ⟨s,ao,aF⟩);simp only at this;rw[g3]at this;cases this]
  rw[g3]at mL;refine bE n7 xp yg fun aR=>?_;unfold vp;exact c0
 rw[g3]at mL;obtain⟨s,rfl,af⟩:=HC.1 (wS.1 g3);clear g3;rw[tv]at mL⊢;have fs:=amH d;cases vz:d.all gV
 ·rw[c8 fun h=>by
   have:d.all gV=true:=by rw[gH];intro x ae;obtain⟨s,ao,aF,_⟩:=h.d x ae;exact wS.2 (HC.2 ⟨s,ao,aF⟩)
   rw[vz]at this;cases this]
  rw[vz]at fs;refine bE n7 xp yg fun aR=>?_;unfold vp;exact c0
 rw[vz]at fs;obtain⟨D,rfl,B2⟩:=W7 vz;clear vz;rw[QS]at fs⊢;have di:=am0 k;by_cases g4:ir k;rotate_left
 ·rw[c8 fun h=>g4 h.k];rw[lT g4]at di;refine bE n7 xp yg fun aR=>?_;unfold vp;exact c0
 rw[jS g4]at di;have eo:=am1 m;by_cases g5:jM m;rotate_left
 ·rw[c8 fun h=>g5 h.m];rw[lT g5]at eo;refine bE n7 xp yg fun aR=>?_;unfold vp;exact c0
 rw[jS g5]at eo;have nW:=XG s n;cases g6:s.all (qB n)
 ·rw[c8 fun h=>by obtain⟨ah,ao,_,bM⟩:=h.b;have dt:=sK ao;subst dt;rw[Ez.2 bM]at g6;cases g6]
  rw[g6]at nW;refine bE n7 xp yg fun aR=>?_;unfold vp;exact c0
 rw[g6]at nW;have cE:=Ez.1 g6;clear g6;have SL:=il g5;have mE:=SL.len g5;refine bE n7 xp yg fun aR=>?_;unfold vp;have Fx:D.length<=68719476736:=by simp[ij,ho,hN,lim]at aR;omega
 have im:=uG g4;clear aR il;simp;(with_reducible repeat' first|refine aj ?_|refine aC qb ?_|refine aD qb ?_|refine aC mL ?_|refine aD mL ?_|refine aC fs ?_|refine aD fs ?_|refine aC di ?_|refine aD di ?_|refine aC eo ?_|refine aD eo ?_|refine aC nW ?_|refine aD nW ?_|simp);refine eQ [1,48,49] (fun i (_:Unit)=>[(50,.int .i64 i)]) D.length (v7 (fun x=>ot x n) D) () cb (fun k b ad=>Ω) (fun _ ag _=>?_) (fun i _ hi ag _=>?_);rotate_left
 ·obtain⟨y,aM,gh⟩:=fb hi;have KA:=eZ aM;have oM:bZ ay 146 [cQ y,.int .i64 n] (.bool (y.all (qB n))):=XG y n;cases BZ:y.all (qB n)
  ·rw[c8 fun h=>by obtain⟨ah,ao,_,bM⟩:=h.d _ (List.mem_map_of_mem KA);have dt:=sK ao;subst dt;rw[Ez.2 bM]at BZ;cases BZ]
   rw[BZ]at oM;clear ag aM KA;exact c0
  ·rw[BZ]at oM;have az:=ag.step aM (Ez.1 BZ);clear ag aM KA;exact h6
 have aeg:=ag.fin;clear ag;simp;(with_reducible repeat' first|refine aj ?_|simp);refine eQ [1,61,62] (fun i (_:Unit)=>[(63,.int .i64 i)]) k.length (v7 (fun x=>x.v<n) k) () cb (fun k b ad=>Ω) (fun _ ag _=>?_) (fun i _ hi ag _=>?_);rotate_left
 ·obtain⟨x,ae,dJ⟩:=fb hi;by_cases BY:x.v<n
  ·have JI:¬n<=x.v:=Ω
   have az:=ag.step ae BY;clear ag ae;exact h6
  ·have JI:n<=x.v:=Ω
   rw[c8 fun h=>BY (h.kb x (eZ ae))];clear ag ae;exact c0
 have J4:=ag.fin;clear ag;simp;(with_reducible repeat' first|refine aj ?_|simp);have vH:=J4;refine eQ [1,74,75] (fun i (_:Unit)=>[(76,.int .i64 i)]) m.length (v7 (fun x=>x.v<n) m) () cb (fun k b ad=>Ω) (fun _ ag _=>?_) (fun i _ hi ag _=>?_);rotate_left
 ·obtain⟨x,ae,dJ⟩:=fb hi;by_cases BY:x.v<n
  ·have JI:¬n<=x.v:=Ω
   have az:=ag.step ae BY;clear ag ae;exact h6
  ·have JI:n<=x.v:=Ω
   rw[c8 fun h=>BY (h.mb x (eZ ae))];clear ag ae;exact c0
 have J4:=ag.fin;clear ag;simp;(with_reducible repeat' first|refine aj ?_|simp);have rR:=J4;have dh:gK ⟨n,s,D,k,m⟩:=⟨g1,af,B2,g4,g5,cE,aeg,vH,rR⟩;have zz:=alE dh;obtain⟨G,lb,aW⟩:=SL;have du:=amN dh lb aW;have pq:yE ⟨n,s.map ak.b,D.map fun x=>x.map ak.b,k,m⟩↔fu ⟨n,s,D,k,m⟩=some ⟨n,s,D,k,m⟩:=zz;clear zz c8;simp only[MB]at du;generalize JM:AQ ⟨n,s,D,k,m⟩=t at du;have Ge:=amM t ⟨n,s,D,k,m⟩;cases lG:fu ⟨n,s,D,k,m⟩with
 |none=>
  rw[lG]at du pq;have kR:R=false:=by rw[<-bS,hx,pq];simp
  rw[kR];obtain⟨al0,alV,alW,alZ,tm⟩:=t;simp only[iL,cC.e]at du;clear bS kR pq JM Ge;exact c0
 |some dK=>
  have ao:=ak8 lG;rw[JM]at ao;subst ao;rw[lG]at du pq;have kR:R=decide (t=⟨n,s,D,k,m⟩):=by rw[<-bS,decide_eq_decide,pq];simp
  rw[kR];simp only[kM]at du;simp only[cC.e]at du Ge;clear bS kR pq lG;generalize decide (t=(⟨n,s,D,k,m⟩:cC))=Q at Ge⊢;clear JM;obtain⟨al0,alV,alW,alZ,tm⟩:=t;simp only at du Ge;exact c0
theorem np.fin{α:Type}{p:α->Bool}{s:List α}(h:np p s s.length ()):∀b∈s,p b=true:=fun b ab=>by obtain⟨i,hi⟩:=List.mem_iff_getElem?.1 ab;exact h i b (by have:=(fp.1 hi).1;omega) hi
noncomputable def ox(s:cC)(x y:T):Option cC:=(mgu s.b [(x,y)]).bind fun b=>fu {s with b:=b}
theorem KW(S:aL->Prop)(l:List (List ak))(d:List ak):aP S (l.map cQ++[cQ d])=True:=tp S l d
theorem amr{x:List ak}(h:x.length<=1000000):bZ ay 119 [cQ x] (cQ x):=HJ x h
theorem ams(s:cC)(ab:s.b.length<=1000000)(aG:∀x∈s.d,x.length<=1000000)(ad:s.k.length<=1000000)(hm:s.m.length<=68719470000):bZ ay 49 [s.e] s.e:=by
 obtain⟨n,b,d,k,m⟩:=s;simp only[cC.e]at ab aG ad hm⊢;have mL:=HJ b ab;refine bE n9 abq aij fun aR=>?_;unfold O3;have iH:d.length<=68719476736:=by simp[ij,ho,hN,lim]at aR;omega
 clear aR;simp;(with_reducible repeat' first|refine aj ?_|refine aC mL ?_|refine aD mL ?_|simp);refine ik (fun i (L:List (List ak))=>⟨[(1,.ptr (.loc 0) 0),(2,.ptr (.loc 1) 0),(3,.ptr (.loc 5) 0),(14,.slice 1 .no (d.map cQ)),(15,.int .i64 d.length),(16,.int .i64 i)],[(.loc 0,[.int .i64 n,.slice 5 .no (b.map ak.e),.slice 1 .no (d.map cQ),.slice 2 .no (k.map b4.e),.slice 2 .no (m.map br.e)]),(.loc 1,[.int .i64 0,.slice 5 .nil [],.slice 1 .nil [],.slice 2 .nil [],.slice 2 .nil []]),(.loc 5,[.int .i64 n,.slice 5 .no (b.map ak.e),.slice 1 (.own (.loc 13)) (L.map cQ),.slice 2 .nil [],.slice 2 .nil []])],[(.loc 13,⟨L.length,23,1,none⟩)],41,[]⟩) d.length (fun i L=>L=d.take i) [] cb Ψ (fun L ag _=>?_) (fun i L hi ag _=>?_)
 ·rw[oZ]at ag;subst ag;simp;(with_reducible repeat' first|refine aj ?_|simp);all_goals first|(refine⟨by unfold lim;omega,?_⟩)|skip
  exact c0
 ·obtain⟨x,ae,dJ⟩:=fb hi;have TJ:=amr (aG x (eZ ae));have au:L.length<=i:=by rw[ag];simp;omega
  simp[hi,dJ];(with_reducible repeat' first|refine aj ?_|refine aC TJ ?_|refine aD TJ ?_|simp[dJ,hi]);all_goals first|(refine⟨by unfold lim;omega,?_⟩)|skip
  (with_reducible repeat' first|refine aj ?_|simp);refine bR.rng (L++[x]) hi (by rw[sp ae,ag]) ?_;simp;exact⟨by simp[fresh,aP,aJ,cx,inObs,Pv.look,KW],eS (by simp[fresh,aP,aJ,cx,inObs,Pv.look,KW]),eT (by simp[fresh,aP,aJ,et,inObs,Pv.look,KW]),Ψ⟩
theorem T.fit_ok{x:T}(h:x.fit=true):x.ok=true:=by simp only[T.fit,ct]at h;exact h.1
theorem gK.bind{s:cC}(h:gK s){x y:T}(ae:x.fit=true)(aM:y.fit=true)(bx:gd s.n x=true)(mq:gd s.n y=true){b:List ak}(hm:mgu s.b [(x,y)]=some b):gK {s with b:=b}:=⟨h.n,h.b.mgu (by simp[T.fit_ok ae,T.fit_ok aM]) hm,h.d,h.k,h.m,Uz (fun v=>v<s.n) h.b.sol h.b.fits h.bb (fun e he=>by simp only[kg]at he;subst he;exact⟨rp.1 bx,rp.1 mq⟩) hm,h.db,h.kb,h.mb⟩
theorem Z1{s t:cC}(h:gK s){x y:T}(ae:x.fit=true)(aM:y.fit=true)(bx:gd s.n x=true)(mq:gd s.n y=true)(he:ox s x y=some t):q8 t:=by unfold ox at he;obtain⟨b,J,U⟩:=iK.1 he;exact(AR (h.bind ae aM bx mq J) U).1
def aqv(s:List ak):Option (List ak)->List ak
 |none=>[]
 |some b=>dR s b
open Classical in
noncomputable def EV(s:List ak):Option (List ak)->Int
 |none=>1
 |some b=>if dR s b=[]then 2 else 0
noncomputable def pb(s:cC)(x y:T):Option cC:=match mgu s.b [(x,y)]with
 |none=>fu s
 |some b=>if dR s.b b=[]then none else fu {s with d:=s.d++[dR s.b b]}
theorem Lx{s b:List ak}(af:eB s){E:List (T×T)}(hm:mgu s E=some b):dR s b=[]↔s=b:=by
 constructor
 ·intro h;have J:=C9 af.sol af.fits hm;rw[h,show fR []=[]from rfl,Da af.sol af.fits]at J;exact gu J
 ·rintro rfl;unfold dR;rw[List.filter_eq_nil_iff];intro c aq;rw[rn af.sol.asc aq];simp
theorem gK.dif{s:cC}(h:gK s){x y:T}(ae:x.fit=true)(aM:y.fit=true)(bx:gd s.n x=true)(mq:gd s.n y=true){b:List ak}(hm:mgu s.b [(x,y)]=some b):gK {s with d:=s.d++[dR s.b b]}:=by
 have ab:=h.bind ae aM bx mq hm;refine⟨h.n,h.b,fun z bk=>?_,h.k,h.m,h.bb,fun z bk=>?_,h.kb,h.mb⟩
 ·rcases h9.1 bk with bk|bk
  ·exact h.d z bk
  ·rw[kg.1 bk];exact Dc ab.b
 ·rcases h9.1 bk with bk|bk
  ·exact h.db z bk
  ·rw[kg.1 bk];exact fun c aq=>ab.bb c (iA.1 aq).1
theorem ZI{s t:cC}(h:gK s){x y:T}(ae:x.fit=true)(aM:y.fit=true)(bx:gd s.n x=true)(mq:gd s.n y=true)(he:pb s x y=some t):q8 t:=by
 unfold pb at he;cases hm:mgu s.b [(x,y)]with
 |none=>rw[hm]at he;exact(AR h he).1
 |some b=>
  rw[hm]at he;simp only at he;split at he
  ·cases he
  ·exact(AR (h.dif ae aM bx mq hm) he).1
open Classical in
noncomputable def l9(s:cC)(t:T)(k:Int):Option cC:=if(k=2\/k=3)/\(t.ap (aY s.b)).size<=5000 then(hM s.k (t.ap (aY s.b)) k).bind fun l=>fu {s with k:=l}else none
open Classical in
noncomputable def pE(s:cC)(t:T)(g:List c4):Option cC:=if(t.ap (aY s.b)).size<=5000 then(iQ s.m (t.ap (aY s.b)) g).bind fun l=>fu {s with m:=l}else none
def AY(m:List br):Prop:= ∃G:List (List c4),G.length<=686999/\kY G m
theorem AY.w{m:List br}(h:AY m):wV m:=by obtain⟨G,J,U⟩:=h;exact⟨G,Ω,U⟩
theorem gK.apb{s:cC}(h:gK s){t:T}(ua:gd s.n t=true){w:Int}(hw:(t.ap (aY s.b)).occ w=true):w<s.n:=by obtain⟨v,J,U⟩:=Al.1 hw;exact KR h.b h.bb (rp.1 ua v J) U
theorem gK.apo{s:cC}(h:gK s){t:T}(aI:t.fit=true):(t.ap (aY s.b)).ok=true:=AT h.b.ok (T.fit_ok aI)
theorem gK.knd{s:cC}(h:gK s){t:T}(aI:t.fit=true)(ua:gd s.n t=true){k:Int}(ad:k=2\/k=3){l:List b4}(he:hM s.k (t.ap (aY s.b)) k=some l):gK {s with k:=l}:=⟨h.n,h.b,h.d,Eu h.k (h.apo aI) ad he,h.m,h.bb,h.db,fun x ae=>(Ib he x ae).elim (h.kb x) fun e=>h.apb ua (by rw[e];simp[T.occ]),h.mb⟩
theorem gK.mrk{s:cC}(h:gK s){t:T}(aI:t.fit=true)(ua:gd s.n t=true){g:List c4}(aW:ji g=true){l:List br}(he:iQ s.m (t.ap (aY s.b)) g=some l):gK {s with m:=l}:=⟨h.n,h.b,h.d,h.k,Ev h.m (h.apo aI) aW he,h.bb,h.db,h.kb,fun x ae=>((x4 he x).1 ae).elim (h.mb x) fun e=>h.apb ua e.2⟩
theorem AY.mrk{m l:List br}(h:AY m){t:T}{g:List c4}(he:iQ m t g=some l):wV l:=by obtain⟨G,J,U⟩:=h;exact⟨g::G,by simp only[oe];omega,Bp (fun x ae=>og _ (U x ae)) Ψ he⟩
theorem agT{s u:cC}(h:gK s){t:T}(aI:t.fit=true)(ua:gd s.n t=true){k:Int}(he:l9 s t k=some u):q8 u:=by
 unfold l9 at he;split at he
 ·rename_i g;obtain⟨l,J,U⟩:=iK.1 he;exact(AR (h.knd aI ua g.1 J) U).1
 ·cases he
theorem ahA{s u:cC}(h:gK s){t:T}(aI:t.fit=true)(ua:gd s.n t=true){g:List c4}(aW:ji g=true)(he:pE s t g=some u):q8 u:=by
 unfold pE at he;split at he
 ·obtain⟨l,J,U⟩:=iK.1 he;exact(AR (h.mrk aI ua aW J) U).1
 ·cases he
theorem CZ{b:List ak}{k:List b4}{m:List br}:∀{l L:List (List ak)},fh b k m l=some L->L.length<=l.length
 |[],L,h=>by simp only[fh,dy]at h;rw[<-h];simp
 |d::l,L,h=>by
  simp only[fh]at h;split at h
  ·have:=CZ h;simp only[oe];omega
  ·split at h
   ·have:=CZ h;simp only[oe];omega
   ·split at h
    ·cases h
    ·rw[gr]at h;obtain⟨Eg,J,rfl⟩:=h;have:=CZ J;simp only[oe];omega
def _root_.Go.Pv.T.gnd:T->Bool
 | .var _=>false
 | .pair a b=>a.gnd&&b.gnd
 |_=>true
structure iz (n:Int) (v:List ak):Prop where
 ok:j7 v
 asc:gN v
 fits:fJ v
 len:(v.length:Int)=n
 at':∀(i:Nat) b,v[i]? =some b->b.v=(i:Int)
 gnd:∀b∈v,b.t.gnd=true
theorem iz.get{n:Int}{v:List ak}(h:iz n v){w:Int}(bA:0<=w)(J:w<n):∃b:ak,v[w.toNat]? =some b/\dc v w=some b.t/\aY v w=b.t:=by
 have au:=h.len;have hi:w.toNat<v.length:=Ω
 have e:=cr hi;have aF:=h.at' _ _ e;have bM:=rn h.asc (List.getElem_mem hi);rw[aF,Int.toNat_of_nonneg bA]at bM;exact⟨_,e,bM,by rw[aY,bM];rfl⟩
theorem WR{v:List ak}(h:fJ v)(w:Int):(aY v w).size<=5000:=by
 unfold aY;cases e:dc v w with
 |none=>simp[T.size]
 |some x=>exact h.2 _ (jH e)
theorem j7.fit{v:List ak}(h:j7 v)(aO:fJ v):vu v:=fun b ab=>by simp[T.fit,(h b ab).2,aO.2 b ab]
def vN(v:List ak)(b:ak):Bool:=decide ((b.t.ap (aY v)).size<=5000)&& !decide (aY v b.v=b.t.ap (aY v))
def pT(v:List ak)(d:List ak):Bool:=d.any (vN v)
def tA(v:List ak)(b:ak):Bool:=decide ((b.t.ap (aY v)).size<=5000)&&decide (b.t.ap (aY v)=aY v b.v)
structure q6 (s:cC) (v:List ak):Prop where
 b:s.b.all (tA v)=true
 d:s.d.all (pT v)=true
 k:s.k.all (fun k=>decide ((aY v k.v).kind=k.k))=true
 m:s.m.all (fun m=> !(aY v m.v).has m.s)=true
def CO(s:cC)(l:List dO):Prop:= ∃v:List ak,l=v.map ak.b/\iz s.n v/\q6 s v
def F9(v:List ak)(i:Nat)(_:Unit):Prop:= ∀k b,k<i->v[k]? =some b->b.v=(k:Int)/\b.t.gnd=true
theorem F9.step{v:List ak}{i:Nat}(h:F9 v i ()){b:ak}(ab:v[i]? =some b)(bL:b.v=(i:Int)/\b.t.gnd=true):F9 v (i+1) ():=fun k c ad aq=>by
 rcases Nat.lt_or_ge k i with J|J
 ·exact h k c J aq
 ·have:k=i:=Ω
  subst this;rw[ab]at aq;cases aq;exact bL
theorem aiL{t:T}(aI:t.ok=true){v:Int}(av:t.occ v=true):0<=v:=by
 induction t with
 |var n=>simp only[T.ok,T.occ,eF,dM]at aI av;omega
 |pair a b dB dC=>simp only[T.ok,T.occ,ct,ls]at aI av;exact av.elim (dB aI.1) (dC aI.2)
 |_=>simp[T.occ]at av
theorem Gx{s:List ak}(af:eI s)(aO:fJ s)(E mm:List (T×T)):mgu s (E++mm)=(mgu s E).bind fun s1=>mgu s1 mm:=by
 have J:=wq af aO E;cases h:mgu s E with
 |none=>rw[h]at J;exact pC (Et mm J)
 |some s1=>rw[h]at J;exact pC (H9 J (wq J.1.1 J.1.2 mm))
def ef:T->Nat
 | .pair a b=>ef a+ef b
 |_=>1
theorem Ui:∀t:T,1<=ef t
 | .pair a b=>by have:=Ui a;simp only[ef];omega
 | .var _=>eC _
 | .nil=>eC _
 | .sym _=>eC _
 | .num _=>eC _
theorem C4:∀t:T,t.size+1=2*ef t
 | .pair a b=>by have:=C4 a;have:=C4 b;simp only[ef,T.size];omega
 | .var _=>rfl
 | .nil=>rfl
 | .sym _=>rfl
 | .num _=>rfl
theorem Aa{θ:Int->T}{m:Nat}(hm:1<=m):∀{t:T},(∀u,t.occ u=true->ef (θ u)<=m)->ef (t.ap θ)<=ef t*m
 | .var n,h=>by simpa[T.ap,ef]using h n (by simp[T.occ])
 | .pair a b,h=>by have J:=Aa hm (t:=a) fun u hu=>h u (by simp[T.occ,hu]);have U:=Aa hm (t:=b) fun u hu=>h u (by simp[T.occ,hu]);simp only[T.ap,ef,o0];omega
 | .nil,_=>by simpa[T.ap,ef]using hm
 | .sym _,_=>by simpa[T.ap,ef]using hm
 | .num _,_=>by simpa[T.ap,ef]using hm
theorem ahN{θ:Int->T}{t:T}{u:Int}(h:t.occ u=true):ef (θ u)<=ef (t.ap θ)/\(t.kind≠1->ef (θ u)<ef (t.ap θ)):=by have:=yb θ h;have J:=C4 (θ u);have U:=C4 (t.ap θ);exact⟨Ω,fun al=>by have:=this.2 al;omega⟩
def lh:T->List T
 | .pair a b=>.pair a b::(lh a++lh b)
 |t=>[t]
theorem GQ(t:T):t∈lh t:=by cases t<;>simp[lh]
theorem GO{x:T}:∀{t:T},x∈lh t->ef x<=ef t
 | .pair a b,h=>by
  simp only[lh,fI,h9]at h;rcases h with rfl|h|h
  ·exact eC _
  ·have:=GO h;simp only[ef];omega
  ·have:=GO h;simp only[ef];omega
 | .var _,h=>by simp only[lh,kg]at h;rw[h];exact eC _
 | .nil,h=>by simp only[lh,kg]at h;rw[h];exact eC _
 | .sym _,h=>by simp only[lh,kg]at h;rw[h];exact eC _
 | .num _,h=>by simp only[lh,kg]at h;rw[h];exact eC _
theorem GP{x:T}{v:Int}(ae:x.occ v=true):∀{t:T},x∈lh t->t.occ v=true
 | .pair a b,h=>by
  simp only[lh,fI,h9]at h;rcases h with rfl|h|h
  ·exact ae
  ·simp[T.occ,GP ae h]
  ·simp[T.occ,GP ae h]
 | .var _,h=>by simp only[lh,kg]at h;rw[<-h];exact ae
 | .nil,h=>by simp only[lh,kg]at h;rw[<-h];exact ae
 | .sym _,h=>by simp only[lh,kg]at h;rw[<-h];exact ae
 | .num _,h=>by simp only[lh,kg]at h;rw[<-h];exact ae
def q3(x:T)(z:Int):T->T
 | .pair a b=>if T.pair a b=x then .var z else .pair (q3 x z a) (q3 x z b)
 |t=>if t=x then .var z else t
theorem akR(x:T)(z:Int):q3 x z x= .var z:=by cases x<;>simp[q3]
theorem Hq{θ:Int->T}{x:T}{z:Int}:∀{t:T},(∀y∈lh t,y.kind≠1->y.ap θ≠x)->q3 x z (t.ap θ)=t.ap fun u=>q3 x z (θ u)
 | .var n,_=>rfl
 | .pair a b,h=>by have bA:=h (.pair a b) (GQ _) (by simp[T.kind]);simp only[T.ap]at bA⊢;simp only[q3,if_neg bA];rw[Hq (t:=a) fun y aM=>h y (by simp[lh,aM]),Hq (t:=b) fun y aM=>h y (by simp[lh,aM])]
 | .nil,h=>by have bA:=h .nil (GQ _) (by simp[T.kind]);simp only[T.ap]at bA⊢;simp[q3,bA]
 | .sym s,h=>by have bA:=h (.sym s) (GQ _) (by simp[T.kind]);simp only[T.ap]at bA⊢;simp[q3,bA]
 | .num s,h=>by have bA:=h (.num s) (GQ _) (by simp[T.kind]);simp only[T.ap]at bA⊢;simp[q3,bA]
theorem Ij{θ:Int->T}{t:T}(h:t.kind≠1):(t.ap θ).kind=t.kind:=by cases t<;>simp_all[T.ap,T.kind]
theorem aho{b:List ak}{E:List (T×T)}(ab:eI b)(h:∀θ,dS b θ↔hY E θ){v:Int}(av:(aY b v).kind≠1):∃e∈E,∃y,(y∈lh e.1\/y∈lh e.2)/\y.kind≠1/\y.ap (aY b)=aY b v:=by
 refine Classical.byContradiction fun c8=>?_;have J:hY E fun u=>q3 (aY b v) 0 (aY b u):=fun e he=>by have kt:=(h (aY b)).1 (va ab) e he;have aZ:=Hq (θ:=aY b) (x:=aY b v) (z:=0) (t:=e.1) fun y aM ad gz=>c8 ⟨e,he,y,.inl aM,ad,gz⟩;have bm:=Hq (θ:=aY b) (x:=aY b v) (z:=0) (t:=e.2) fun y aM ad gz=>c8 ⟨e,he,y,.inr aM,ad,gz⟩;rw[<-aZ,<-bm,kt]
 have U:=(MY ab.asc).1 ((h _).2 J) v;simp only[akR]at U;have al:=Ij (θ:=fun u=>q3 (aY b v) 0 (aY b u)) av;rw[<-U]at al;exact av (by rw[<-al];rfl)
theorem Jo{V:List Int}(gx:V.Nodup){p q:Int->Bool}(jz:∀w,p w=true->q w=true){u:Int}(hu:u∈V)(bI:q u=true)(bL:p u=false):(V.filter p).length+1<=(V.filter q).length:=by
 have J:(u::V.filter p).Nodup:=List.nodup_cons.2 ⟨fun h=>(by rw[(iA.1 h).2]at bL;cases bL),gx.filter p⟩;refine Ef J fun w hw=>?_;rcases fI.1 hw with rfl|hw
 ·exact iA.2 ⟨hu,bI⟩
 ·exact iA.2 ⟨(iA.1 hw).1,jz w (iA.1 hw).2⟩
def Bu(b:List ak)(V:List Int):List Int:=V.filter fun w=>(aY b w).kind !=1
theorem ahm{b:List ak}{E:List (T×T)}{V:List Int}{L:Nat}(ab:eI b)(h:∀θ,dS b θ↔hY E θ)(gx:V.Nodup)(c6:∀e∈E,∀v,(e.1.occ v=true\/e.2.occ v=true)->v∈V)(fe:∀e∈E,ef e.1<=L/\ef e.2<=L)(J:1<=L){v:Int}(av:v∈V):ef (aY b v)<=L ^ (Bu b V).length:=by
 have rX:∀v,(aY b v).kind=1->ef (aY b v)=1:=fun v ad=>by cases e:aY b v<;>simp_all[T.kind,ef]
 have key:∀n v,ef (aY b v)=n->(aY b v).kind≠1->ef (aY b v)<=L ^ ((V.filter fun w=>(aY b w).kind !=1&&decide (ef (aY b w)<ef (aY b v))).length+1):=fun n=>by
  induction n using pO with
  |ind n bO=>
   intro v az ad;obtain⟨e,he,y,aM,af2,Th⟩:=aho ab h ad;have r1:ef y<=L:=aM.elim (fun h=>gZ (GO h) (fe e he).1) fun h=>gZ (GO h) (fe e he).2;have hm:1<=L ^ (V.filter fun w=>(aY b w).kind !=1&&decide (ef (aY b w)<ef (aY b v))).length:=Nat.pow_pos J;have U:=Aa (θ:=aY b) hm (t:=y) fun u hu=>by
    have al:=(ahN (θ:=aY b) hu).2 af2;rw[Th]at al;by_cases Cm:(aY b u).kind=1
    ·rw[rX u Cm];exact hm
    have a1:=bO _ Ω u rfl Cm;refine gZ a1 (Nat.pow_le_pow_right J ?_);refine Jo gx (fun w hw=>?_) (u:=u) (c6 e he u (aM.imp (GP hu) (GP hu))) (by simp[Cm,al]) Ψ;simp only[ct,eF]at hw⊢;exact⟨hw.1,Ω⟩
   rw[Th]at U;rw[Nat.pow_succ,Nat.mul_comm];exact gZ U (qq _ r1)
 by_cases ad:(aY b v).kind=1
 ·rw[rX v ad];exact Nat.pow_pos J
 refine gZ (key _ v rfl ad) (Nat.pow_le_pow_right J ?_);refine Jo gx (fun w hw=>?_) av (by simp[ad]) Ψ;simp only[ct]at hw;exact hw.1
def k6(θ:Int->T)(l:List b4):Prop:= ∀k∈l,(θ k.v).kind=k.k
def lv(θ:Int->T)(l:List br):Prop:= ∀m∈l,(θ m.v).has m.s=false
def nF(θ:Int->T)(l:List (List ak)):Prop:= ∀d∈l,¬dS d θ
structure jr (s:cC) (θ:Int->T):Prop where
 b:dS s.b θ
 k:k6 θ s.k
 m:lv θ s.m
 d:nF θ s.d
theorem NV{θ:Int->T}{acc a:List b4}{t:T}{k:Int}(he:hM acc t k=some a):k6 θ a↔k6 θ acc/\(t.ap θ).kind=k:=by
 unfold hM at he;split at he
 ·rename_i n;split at he
  ·rename_i bN ad;split at he
   ·rename_i e;cases he;subst e;exact⟨fun h=>⟨h,h _ (CX ad)⟩,fun h=>h.1⟩
   ·cases he
  ·cases he;constructor
   ·exact fun h=>⟨fun x ae=>h x (x5.2 (.inr ae)),h ⟨n,k⟩ (x5.2 (.inl rfl))⟩
   ·rintro⟨J,U⟩ x ae;rcases x5.1 ae with rfl|ae
    ·exact U
    ·exact J x ae
 ·rename_i aI;split at he
  ·rename_i e;cases he;refine⟨fun h=>⟨h,?_⟩,fun h=>h.1⟩;rw[Ij fun J=>?_,e];cases t<;>simp_all[T.kind]
  ·cases he
theorem NU{θ:Int->T}{acc:List b4}{t:T}{k:Int}(he:hM acc t k=none):¬(k6 θ acc/\(t.ap θ).kind=k):=by
 rintro⟨J,U⟩;unfold hM at he;split at he
 ·split at he
  ·rename_i bN ad;split at he
   ·cases he
   ·rename_i e;exact e ((J _ (CX ad)).symm.trans U)
  ·cases he
 ·rename_i aI;split at he
  ·cases he
  ·rename_i e;rw[Ij fun J=>by cases t<;>simp_all[T.kind]]at U;exact e U
theorem DP{b:List ak}{θ:Int->T}(a7:gN b)(h:dS b θ)(v:Int):(aY b v).ap θ=θ v:=((MY a7).1 h v).symm
theorem Hb{b:List ak}{θ:Int->T}(a7:gN b)(h:dS b θ):∀{l acc:List b4},match fC b l acc with|some a=>k6 θ a↔k6 θ acc/\k6 θ l|none=> ¬(k6 θ acc/\k6 θ l)
 |[],acc=>by simp[fC,k6]
 |x::l,acc=>by
  simp only[fC];have ae:k6 θ (x::l)↔(θ x.v).kind=x.k/\k6 θ l:=by simp[k6]
  rw[<-DP a7 h x.v]at ae;cases e:hM acc (aY b x.v) x.k with
  |none=>simp only;rw[ae];exact fun h=>NU e ⟨h.1,h.2.1⟩
  |some a=>
   have J:=NV (θ:=θ) e;have U:=Hb a7 h (l:=l) (acc:=a);simp only;rw[ae];split
   ·rename_i q eq;rw[eq]at U;simp only at U;rw[U,J,and_assoc]
   ·rename_i eq;rw[eq]at U;simp only at U;rw[J,and_assoc]at U;exact U
theorem Fu{θ:Int->T}{s:List c4}:∀{t:T},(t.ap θ).has s=false↔t.has s=false/\∀u,t.occ u=true->(θ u).has s=false
 | .var n=>by simp[T.ap,T.has,T.occ]
 | .pair a b=>by simp only[T.ap,T.has,T.occ,Bool.or_eq_false_iff,ls,Fu (t:=a),Fu (t:=b)];exact⟨fun h=>⟨⟨h.1.1,h.2.1⟩,fun u hu=>hu.elim (h.1.2 u) (h.2.2 u)⟩,fun h=>⟨⟨h.1.1,fun u hu=>h.2 u (.inl hu)⟩,⟨h.1.2,fun u hu=>h.2 u (.inr hu)⟩⟩⟩
 | .nil=>by simp[T.ap,T.has,T.occ]
 | .sym _=>by simp[T.ap,T.occ]
 | .num _=>by simp[T.ap,T.has,T.occ]
theorem NX{θ:Int->T}{acc a:List br}{t:T}{s:List c4}(he:iQ acc t s=some a):lv θ a↔lv θ acc/\(t.ap θ).has s=false:=by
 have hm:=x4 he;have aI:t.has s=false:=by
  unfold iQ at he;split at he
  ·cases he
  ·rename_i h;simpa using h
 rw[Fu];constructor
 ·intro h;exact⟨fun x ae=>h x ((hm x).2 (.inl ae)),aI,fun u hu=>h ⟨u,s⟩ ((hm _).2 (.inr ⟨rfl,hu⟩))⟩
 ·rintro⟨J,_,U⟩ x ae;rcases(hm x).1 ae with al|⟨al,a1⟩
  ·exact J x al
  ·rw[al];exact U _ a1
theorem NW{θ:Int->T}{acc:List br}{t:T}{s:List c4}(he:iQ acc t s=none):¬(t.ap θ).has s=false:=by
 rw[Fu];unfold iQ at he;split at he
 ·rename_i h;rw[h];simp
 ·cases he
theorem Hd{b:List ak}{θ:Int->T}(a7:gN b)(h:dS b θ):∀{l acc:List br},match fD b l acc with|some a=>lv θ a↔lv θ acc/\lv θ l|none=> ¬(lv θ acc/\lv θ l)
 |[],acc=>by simp[fD,lv]
 |x::l,acc=>by
  simp only[fD];have ae:lv θ (x::l)↔(θ x.v).has x.s=false/\lv θ l:=by simp[lv]
  rw[<-DP a7 h x.v]at ae;cases e:iQ acc (aY b x.v) x.s with
  |none=>simp only;rw[ae];exact fun h=>NW e h.2.1
  |some a=>
   have J:=NX (θ:=θ) e;have U:=Hd a7 h (l:=l) (acc:=a);simp only;rw[ae];split
   ·rename_i q eq;rw[eq]at U;simp only at U;rw[U,J,and_assoc]
   ·rename_i eq;rw[eq]at U;simp only at U;rw[J,and_assoc]at U;exact U
theorem K7{b:List ak}{θ:Int->T}(ab:eB b)(h:dS b θ){k:List b4}{m:List br}(ad:k6 θ k)(hm:lv θ m):∀{l:List (List ak)},(∀d∈l,eB d)->(∀d∈l,mgu b (fR d)=none->¬dS d θ)->match fh b k m l with|some L=>nF θ L↔nF θ l|none=> ¬nF θ l
 |[],_,_=>by simp[fh,nF]
 |d::l,af,kQ=>by
  have bO:=K7 ab h ad hm (l:=l) (fun e he=>af e (by simp[he])) fun e he=>kQ e (by simp[he]);have ae:nF θ (d::l)↔ ¬dS d θ/\nF θ l:=by simp[nF]
  have aeI:∀e∈fR d,e.1.ok=true/\e.2.ok=true:=fun e he=>by obtain⟨c,aq,rfl⟩:=ia.1 he;have:=(af d Ψ).ok c aq;exact⟨by simpa[T.ok]using this.1,this.2⟩
  have skip:¬dS d θ->(match fh b k m l with|some L=>nF θ L↔nF θ (d::l)|none=> ¬nF θ (d::l)):=fun aG=>by
   rw[ae];split
   ·rename_i L e;rw[e]at bO;simp only at bO;rw[bO];exact⟨fun h=>⟨aG,h⟩,fun h=>h.2⟩
   ·rename_i e;rw[e]at bO;simp only at bO;exact fun h=>bO h.2
  simp only[fh];cases hu:mgu b (fR d)with
  |none=>exact skip (kQ d Ψ hu)
  |some x=>
   have hb:=ab.mgu aeI hu;have h4:dS d θ->dS x θ:=fun aG=>(qZ ab.sol ab.fits hu θ).2 ⟨h,AW.2 aG⟩;simp only;by_cases iG:fC x k []=none\/fD x m []=none
   ·rw[if_pos iG];refine skip fun aG=>?_;rcases iG with e|e
    ·have:=Hb hb.sol.asc (h4 aG) (l:=k) (acc:=[]);rw[e]at this;exact this ⟨by simp[k6],ad⟩
    ·have:=Hd hb.sol.asc (h4 aG) (l:=m) (acc:=[]);rw[e]at this;exact this ⟨by simp[lv],hm⟩
   rw[if_neg iG];by_cases az:dR b x=[]
   ·rw[if_pos az];simp only;rw[ae];rintro⟨J,_⟩;have:b=x:=(Lx ab hu).1 az;subst this;exact J (AW.1 ((qZ ab.sol ab.fits hu θ).1 h).2)
   ·rw[if_neg az];have heq:dS (dR b x) θ↔dS d θ:=by have aZ:=qZ ab.sol ab.fits hu θ;have bm:=qZ ab.sol ab.fits (C9 ab.sol ab.fits hu) θ;rw[AW]at aZ bm;exact⟨fun ck=>(aZ.1 (bm.2 ⟨h,ck⟩)).2,fun ck=>(bm.1 (aZ.2 ⟨h,ck⟩)).2⟩
    cases e:fh b k m l with
    |none=>rw[e]at bO;simp only[Option.map_none]at bO⊢;rw[ae];exact fun h=>bO h.2
    |some L=>
     rw[e]at bO;simp only[nE]at bO⊢;have rY:nF θ (dR b x::L)↔ ¬dS (dR b x) θ/\nF θ L:=by simp[nF]
     rw[ae,rY,heq,bO]
theorem x8{d e:List ak}(he:eI e):j6 d e=true↔∀θ,dS e θ->dS d θ:=by
 constructor
 ·intro h θ fS c aq;have J:=of_decide_eq_true (gH.1 h c aq);rw[<-DP he.asc fS c.v,J,xf];exact o5 fun u _=>DP he.asc fS u
 ·intro h;rw[j6,gH];intro c aq;rw[qY,eF];exact h (aY e) (va he) c aq
theorem ac2{α:Type}{V:List α}(gx:V.Nodup){p q:α->Bool}(jz:∀w,p w=true->q w=true){u:α}(hu:u∈V)(bI:q u=true)(bL:p u=false):(V.filter p).length+1<=(V.filter q).length:=by
 have J:(u::V.filter p).Nodup:=List.nodup_cons.2 ⟨fun h=>(by rw[(iA.1 h).2]at bL;cases bL),gx.filter p⟩;refine Ef J fun w hw=>?_;rcases fI.1 hw with rfl|hw
 ·exact iA.2 ⟨hu,bI⟩
 ·exact iA.2 ⟨(iA.1 hw).1,jz w (iA.1 hw).2⟩
theorem ahr{L:List (List ak)}(af:∀d∈L,eI d):∀(n:Nat) (e:List ak),e∈L->((asc ek L).filter fun d=>j6 d e&& !decide (d=e)).length=n->∃d∈jN L,j6 d e=true:=fun n=>by
 induction n using pO with
 |ind n bO=>
  intro e he az;by_cases ad:iu L e=true
  ·exact⟨e,sa.2 ⟨he,ad⟩,(x8 (af e he)).2 fun _ h=>h⟩
  obtain⟨d,aG,J⟩:∃d∈L,(decide (d=e)|| !j6 d e)=false:=by simpa[iu]using ad
  rw[Bool.or_eq_false_iff]at J;have cF:d≠e:=of_decide_eq_false J.1;have aW:j6 d e=true:=by simpa using J.2
  have JS:=(x8 (af e he)).1 aW;have bt:=ac2 (V:=asc ek L) ((Ex kW L).nodup kW) (p:=fun z=>j6 z d&& !decide (z=d)) (q:=fun z=>j6 z e&& !decide (z=e)) (u:=d) (fun z bk=>by simp only[ct,qo,hx]at bk⊢;have F1:=(x8 (af d aG)).1 bk.1;refine⟨(x8 (af e he)).2 fun θ h=>F1 θ (JS θ h),fun af3=>cF ?_⟩;subst af3;exact WZ (af d aG) (af z he) fun θ=>⟨F1 θ,JS θ⟩) ((Ll _ _).2 aG) (by simp[aW,cF]) Ψ
  obtain⟨z,bk,F1⟩:=bO _ Ω d aG rfl;have ape:=(sa.1 bk).1;exact⟨z,bk,(x8 (af e he)).2 fun θ h=>(x8 (af d aG)).1 F1 θ (JS θ h)⟩
theorem UD{L:List (List ak)}(af:∀d∈L,eI d)(θ:Int->T):nF θ (jN L)↔nF θ L:=by
 constructor
 ·intro h e he lG;obtain⟨d,aG,aW⟩:=ahr af _ e he rfl;exact h d aG ((x8 (af e he)).1 aW θ lG)
 ·exact fun h d aG=>h d (sa.1 aG).1
theorem Lg{θ:Int->T}{k:List b4}{m:List br}(ad:k6 θ k):lv θ (m.filter (jB k))↔lv θ m:=by
 constructor
 ·intro h x ae;by_cases aO:jB k x=true
  ·exact h x (iA.2 ⟨ae,aO⟩)
  ·have al:kV k x.v=some 3:=by simpa[jB]using aO
   have a1:=ad _ (CX al);simp only at a1;cases e:θ x.v<;>simp_all[T.kind,T.has]
 ·exact fun h x ae=>h x (iA.1 ae).1
theorem DN{s t:cC}{θ:Int->T}(h:gK s)(kQ:∀d∈s.d,dS s.b θ->mgu s.b (fR d)=none->¬dS d θ)(he:fu s=some t):jr t θ↔jr s θ:=by
 unfold fu at he;split at he
 ·cases he
 rename_i k ad;split at he
 ·cases he
 rename_i m hm;split at he
 ·cases he
 rename_i L fe;split at he;rotate_left
 ·cases he
 cases he;have rG:∀d∈L,eI d:=fun d aG=>(C0 h.b h.d fe d aG).sol;have aZ:=fun ab=>Hb (θ:=θ) h.b.sol.asc ab (l:=s.k) (acc:=[]);have bm:=fun ab=>Hd (θ:=θ) h.b.sol.asc ab (l:=s.m) (acc:=[]);simp only[ad,hm]at aZ bm;have bP:=fun ab ad hm=>K7 (θ:=θ) h.b ab (k:=k) (m:=m.filter (jB k)) ad hm h.d fun d aG=>kQ d aG ab;simp only[fe]at bP;constructor
 ·rintro⟨J,U,al,a1⟩;simp only at J U al a1;exact⟨J,((aZ J).1 U).2,((bm J).1 ((Lg U).1 al)).2,(bP J U al).1 ((UD rG θ).1 a1)⟩
 ·rintro⟨J,U,al,a1⟩;have aX:k6 θ k:=(aZ J).2 ⟨by simp[k6],U⟩;have m1:lv θ m:=(bm J).2 ⟨by simp[lv],al⟩;have m2:=(Lg aX).2 m1;exact⟨J,aX,m2,(UD rG θ).2 ((bP J aX m2).2 a1)⟩
theorem DK{s:cC}{θ:Int->T}(h:gK s)(aG:s.d.length<=30)(kQ:∀d∈s.d,dS s.b θ->mgu s.b (fR d)=none->¬dS d θ)(he:fu s=none):¬jr s θ:=by
 rintro⟨J,U,al,a1⟩;have aZ:=Hb (θ:=θ) h.b.sol.asc J (l:=s.k) (acc:=[]);have bm:=Hd (θ:=θ) h.b.sol.asc J (l:=s.m) (acc:=[]);unfold fu at he;split at he
 ·rename_i e;rw[e]at aZ;exact aZ ⟨by simp[k6],U⟩
 rename_i k ad;rw[ad]at aZ;have aX:k6 θ k:=aZ.2 ⟨by simp[k6],U⟩;split at he
 ·rename_i e;rw[e]at bm;exact bm ⟨by simp[lv],al⟩
 rename_i m hm;rw[hm]at bm;have m2:=(Lg aX).2 (bm.2 ⟨by simp[lv],al⟩);have bP:=K7 (θ:=θ) h.b J aX m2 h.d fun d aG=>kQ d aG J;split at he
 ·rename_i e;rw[e]at bP;exact bP a1
 rename_i L fe;split at he
 ·cases he
 ·rename_i la;have:=CZ fe;have:=UC L;omega
theorem BV:∀{t:T},t.gnd=true->∀w,t.occ w=false
 | .var _,h=>by simp[T.gnd]at h
 | .pair a b,h=>by simp only[T.gnd,ct]at h;intro w;simp[T.occ,BV h.1 w,BV h.2 w]
 | .nil,_=>fun _=>rfl
 | .sym _,_=>fun _=>rfl
 | .num _,_=>fun _=>rfl
theorem ad2{t:T}(h:t.gnd=true)(θ:Int->T):t.ap θ=t:=Ii fun v av=>by rw[BV h v]at av;cases av
def r5(n:Int)(t:T):Prop:= ∀u,t.occ u=true->0<=u/\u<n
theorem iz.solved{n:Int}{v:List ak}(av:iz n v):eI v:=⟨av.asc,fun b ab w hw=>(by rw[BV (av.gnd b ab) w]at hw;cases hw),fun b ab w hw=>(by have:=av.gnd b ab;rw[hw]at this;cases this)⟩
theorem iz.sol{n:Int}{v:List ak}(av:iz n v){θ:Int->T}(h:dS v θ){u:Int}(bA:0<=u)(J:u<n):θ u=aY v u:=by obtain⟨c,aq,ao,aF⟩:=av.get bA J;have hm:=eZ aq;have al:=h c hm;have a1:=av.at' _ _ aq;rw[Int.toNat_of_nonneg bA]at a1;rw[<-a1,al,ad2 (av.gnd c hm),a1,aF]
theorem Nx{n:Int}{v:List ak}(av:iz n v){b:List ak}{E:List (T×T)}(ab:eI b)(aO:fJ b)(l0:∀c∈b,(0<=c.v/\c.v<n)/\r5 n c.t)(c6:∀e∈E,r5 n e.1/\r5 n e.2)(h:mgu b E=none)(af:dS b (aY v)):¬hY E (aY v):=fun lG=>by
 have J:=wq ab aO E;rw[h]at J;refine J v av.solved (fun θ fS=>⟨fun c aq=>?_,fun e he=>?_⟩) av.fits
 ·obtain⟨⟨bz,a2⟩,a3⟩:=l0 c aq;rw[av.sol fS bz a2,af c aq];exact o5 fun u hu=>(av.sol fS (a3 u hu).1 (a3 u hu).2).symm
 ·rw[o5 (t:=e.1) fun u hu=>av.sol fS ((c6 e he).1 u hu).1 ((c6 e he).1 u hu).2,o5 (t:=e.2) fun u hu=>av.sol fS ((c6 e he).2 u hu).1 ((c6 e he).2 u hu).2];exact lG e he
theorem CL{n:Int}{t:T}(h:t.ok=true)(ab:vk t n):r5 n t:=fun u hu=>⟨aiL h hu,ab u hu⟩
theorem CK{n:Int}{l:List ak}(h:j7 l)(ab:ot l n):∀c∈l,(0<=c.v/\c.v<n)/\r5 n c.t:=fun c aq=>⟨⟨(h c aq).1.1,(ab c aq).1⟩,CL (h c aq).2 (ab c aq).2⟩
theorem af9{n:Int}{l:List ak}(h:j7 l)(ab:ot l n):∀e∈fR l,r5 n e.1/\r5 n e.2:=fun e he=>by obtain⟨c,aq,rfl⟩:=ia.1 he;obtain⟨bz,a2⟩:=CK h ab c aq;exact⟨fun u hu=>by simp[T.occ]at hu;omega,a2⟩
theorem gK.none{s:cC}(h:gK s){v:List ak}(av:iz s.n v):∀d∈s.d,dS s.b (aY v)->mgu s.b (fR d)=none->¬dS d (aY v):=fun d aG af hm jg=>Nx av h.b.sol h.b.fits (CK h.b.ok h.bb) (af9 (h.d d aG).ok (h.db d aG)) hm af (AW.2 jg)
def MV(s:cC)(v:List ak):Prop:= ∀d∈s.d,∀c∈d,(c.t.ap (aY v)).size<=5000
theorem QM{v d:List ak}(h:∀c∈d,(c.t.ap (aY v)).size<=5000):pT v d=true↔ ¬dS d (aY v):=by
 rw[pT,List.any_eq_true];constructor
 ·rintro⟨c,aq,J⟩ af;simp only[vN,ct,qo,hx]at J;exact J.2 (af c aq)
 ·intro af;refine Classical.byContradiction fun c8=>af fun c aq=>Classical.byContradiction fun cF=>c8 ⟨c,aq,?_⟩;simp only[vN,ct,qo,hx,eF];exact⟨h c aq,cF⟩
theorem alA{s:cC}{v:List ak}(aO:fJ v)(af:MV s v):q6 s v↔jr s (aY v):=by
 constructor
 ·rintro⟨J,U,al,a1⟩;rw[gH]at J U al a1;refine⟨fun c aq=>?_,fun k ad=>of_decide_eq_true (al k ad),fun m hm=>by simpa using a1 m hm,fun d aG=>(QM (af d aG)).1 (U d aG)⟩;have:=J c aq;simp only[tA,ct,eF]at this;exact this.2.symm
 ·rintro⟨J,U,al,a1⟩;refine⟨gH.2 fun c aq=>?_,gH.2 fun d aG=>(QM (af d aG)).2 (a1 d aG),gH.2 fun k ad=>jS (U k ad),gH.2 fun m hm=>by simpa using al m hm⟩;simp only[tA,ct,eF];rw[<-J c aq];exact⟨WR aO c.v,rfl⟩
theorem Z2{s:cC}(h:gK s){v:List ak}(av:iz s.n v){x y:T}(ae:x.fit=true)(aM:y.fit=true)(bx:gd s.n x=true)(mq:gd s.n y=true):
  match ox s x y with|some t=>jr t (aY v)↔jr s (aY v)/\x.ap (aY v)=y.ap (aY v)|none=>s.d.length<=30->¬(jr s (aY v)/\x.ap (aY v)=y.ap (aY v)):=by
 have c6:∀e∈[(x,y)],r5 s.n e.1/\r5 s.n e.2:=fun e he=>by rw[kg.1 he];exact⟨CL (T.fit_ok ae) (rp.1 bx),CL (T.fit_ok aM) (rp.1 mq)⟩
 unfold ox;cases hu:mgu s.b [(x,y)]with
 |none=>simp only[Option.bind_none];rintro _ ⟨J,U⟩;refine Nx av h.b.sol h.b.fits (CK h.b.ok h.bb) c6 hu J.b ?_;intro e he;rw[kg.1 he];exact U
 |some b=>
  have ab:=h.bind ae aM bx mq hu;have h4:=qZ h.b.sol h.b.fits hu (aY v);have U:jr {s with b:=b} (aY v)↔jr s (aY v)/\x.ap (aY v)=y.ap (aY v):=by
   constructor
   ·rintro⟨aZ,bm,bP,cP⟩;have:=h4.1 aZ;exact⟨⟨this.1,bm,bP,cP⟩,this.2 (x,y) Ψ⟩
   ·rintro⟨⟨aZ,bm,bP,cP⟩,cZ⟩;exact⟨h4.2 ⟨aZ,fun e he=>by rw[kg.1 he];exact cZ⟩,bm,bP,cP⟩
  simp only[hU];cases e:fu {s with b:=b}with
  |none=>exact fun aG=>by rw[<-U];exact DK ab aG (ab.none av) e
  |some t=>exact(DN ab (ab.none av) e).trans U
theorem ZJ{s:cC}(h:gK s){v:List ak}(av:iz s.n v){x y:T}(ae:x.fit=true)(aM:y.fit=true)(bx:gd s.n x=true)(mq:gd s.n y=true):
  match pb s x y with|some t=>jr t (aY v)↔jr s (aY v)/\x.ap (aY v)≠y.ap (aY v)|none=>s.d.length<=29->¬(jr s (aY v)/\x.ap (aY v)≠y.ap (aY v)):=by
 have c6:∀e∈[(x,y)],r5 s.n e.1/\r5 s.n e.2:=fun e he=>by rw[kg.1 he];exact⟨CL (T.fit_ok ae) (rp.1 bx),CL (T.fit_ok aM) (rp.1 mq)⟩
 unfold pb;cases hu:mgu s.b [(x,y)]with
 |none=>
  have cF:jr s (aY v)->x.ap (aY v)≠y.ap (aY v):=fun J U=>Nx av h.b.sol h.b.fits (CK h.b.ok h.bb) c6 hu J.b fun e he=>by rw[kg.1 he];exact U
  simp only;cases e:fu s with
  |none=>exact fun aG J=>DK h Ω (h.none av) e J.1
  |some t=>exact(DN h (h.none av) e).trans ⟨fun J=>⟨J,cF J⟩,fun J=>J.1⟩
 |some b=>
  have h4:=qZ h.b.sol h.b.fits hu (aY v);have gz:hY [(x,y)] (aY v)↔x.ap (aY v)=y.ap (aY v):=by simp[hY]
  simp only;by_cases az:dR s.b b=[]
  ·rw[if_pos az];rintro _ ⟨J,U⟩;have:s.b=b:=(Lx h.b hu).1 az;rw[<-this]at h4;exact U (gz.1 (h4.1 J.b).2)
  ·rw[if_neg az];have ab:=h.dif ae aM bx mq hu;have bm:=qZ h.b.sol h.b.fits (C9 h.b.sol h.b.fits hu) (aY v);rw[AW]at bm;have hw:dS s.b (aY v)->(dS (dR s.b b) (aY v)↔x.ap (aY v)=y.ap (aY v)):=fun J=>⟨fun ck=>gz.1 (h4.1 (bm.2 ⟨J,ck⟩)).2,fun ck=>(bm.1 (h4.2 ⟨J,gz.2 ck⟩)).2⟩
   have U:jr {s with d:=s.d++[dR s.b b]} (aY v)↔jr s (aY v)/\x.ap (aY v)≠y.ap (aY v):=by
    constructor
    ·rintro⟨aZ,bm,bP,cP⟩;exact⟨⟨aZ,bm,bP,fun d aG=>cP d (List.mem_append_left _ aG)⟩,fun ck=>cP (dR s.b b) Ψ ((hw aZ).2 ck)⟩
    ·rintro⟨⟨aZ,bm,bP,cP⟩,cZ⟩;refine⟨aZ,bm,bP,fun d aG=>?_⟩;rcases h9.1 aG with aG|aG
     ·exact cP d aG
     ·rw[kg.1 aG];exact fun ck=>cZ ((hw aZ).1 ck)
   cases e:fu {s with d:=s.d++[dR s.b b]}with
   |none=>exact fun aG=>by rw[<-U];exact DK ab (by simp only[oW,List.length_singleton];omega) (ab.none av) e
   |some t=>exact(DN ab (ab.none av) e).trans U
theorem yX{b:List ak}{θ:Int->T}(a7:gN b)(h:dS b θ)(x:T):(x.ap (aY b)).ap θ=x.ap θ:=by rw[xf];exact o5 fun u _=>DP a7 h u
theorem T3{s:cC}(h:gK s){v:List ak}(av:iz s.n v){x:T}(ae:x.fit=true)(bx:gd s.n x=true){k:Int}(ad:k=2\/k=3)(bk:(x.ap (aY s.b)).size<=5000):
  match l9 s x k with|some t=>jr t (aY v)↔jr s (aY v)/\(x.ap (aY v)).kind=k|none=>s.d.length<=30->¬(jr s (aY v)/\(x.ap (aY v)).kind=k):=by
 unfold l9;rw[if_pos ⟨ad,bk⟩];cases hu:hM s.k (x.ap (aY s.b)) k with
 |none=>simp only[Option.bind_none];rintro _ ⟨J,U⟩;rw[<-yX h.b.sol.asc J.b]at U;exact NU hu ⟨J.k,U⟩
 |some l=>
  have ab:=h.knd ae bx ad hu;have al:=NV (θ:=aY v) hu;have U:jr {s with k:=l} (aY v)↔jr s (aY v)/\(x.ap (aY v)).kind=k:=by
   constructor
   ·rintro⟨aZ,bm,bP,cP⟩;have:=al.1 bm;rw[yX h.b.sol.asc aZ]at this;exact⟨⟨aZ,this.1,bP,cP⟩,this.2⟩
   ·rintro⟨⟨aZ,bm,bP,cP⟩,cZ⟩;rw[<-yX h.b.sol.asc aZ]at cZ;exact⟨aZ,al.2 ⟨bm,cZ⟩,bP,cP⟩
  simp only[hU];cases e:fu {s with k:=l}with
  |none=>exact fun aG=>by rw[<-U];exact DK ab aG (ab.none av) e
  |some t=>exact(DN ab (ab.none av) e).trans U
theorem ahB{s:cC}(h:gK s){v:List ak}(av:iz s.n v){x:T}(ae:x.fit=true)(bx:gd s.n x=true){g:List c4}(aW:ji g=true)(bk:(x.ap (aY s.b)).size<=5000):
  match pE s x g with|some t=>jr t (aY v)↔jr s (aY v)/\(x.ap (aY v)).has g=false|none=>s.d.length<=30->¬(jr s (aY v)/\(x.ap (aY v)).has g=false):=by
 unfold pE;rw[if_pos bk];cases hu:iQ s.m (x.ap (aY s.b)) g with
 |none=>simp only[Option.bind_none];rintro _ ⟨J,U⟩;rw[<-yX h.b.sol.asc J.b]at U;exact NW hu U
 |some l=>
  have ab:=h.mrk ae bx aW hu;have al:=NX (θ:=aY v) hu;have U:jr {s with m:=l} (aY v)↔jr s (aY v)/\(x.ap (aY v)).has g=false:=by
   constructor
   ·rintro⟨aZ,bm,bP,cP⟩;have:=al.1 bP;rw[yX h.b.sol.asc aZ]at this;exact⟨⟨aZ,bm,this.1,cP⟩,this.2⟩
   ·rintro⟨⟨aZ,bm,bP,cP⟩,cZ⟩;rw[<-yX h.b.sol.asc aZ]at cZ;exact⟨aZ,bm,al.2 ⟨bP,cZ⟩,cP⟩
  simp only[hU];cases e:fu {s with m:=l}with
  |none=>exact fun aG=>by rw[<-U];exact DK ab aG (ab.none av) e
  |some t=>exact(DN ab (ab.none av) e).trans U
theorem sl:eI []:=⟨Ψ,Ψ,Ψ⟩
theorem rB:fJ []:=by simp[fJ]
def wy:T->Bool
 | .sym s=>s.head? !=some 119
 | .pair a b=>wy a&&wy b
 |_=>true
structure eqP (V:List Int) (L:Nat) (e:T×T):Prop where
 l:ef e.1<=L/\ef e.2<=L
 v:∀v,(e.1.occ v=true\/e.2.occ v=true)->v∈V
 w:wy e.1=true/\wy e.2=true
structure mQ (V:List Int) (L:Nat) (E:List (T×T)) (s:cC):Prop where
 e:∀e∈E,eqP V L e
 b:mgu [] E=some s.b
 d:∀d∈s.d,∃e x,eqP V L e/\mgu [] (E++[e])=some x/\d=dR s.b x
theorem T7{b:List ak}{k:List b4}{m:List br}:∀{l L:List (List ak)},fh b k m l=some L->∀w∈L,∃d∈l,∃z,mgu b (fR d)=some z/\w=dR b z
 |[],L,h=>by simp only[fh,dy]at h;rw[<-h];simp
 |d::l,L,h=>by
  have go:∀{L},fh b k m l=some L->∀w∈L,∃e∈d::l,∃z,mgu b (fR e)=some z/\w=dR b z:=fun h w hw=>by obtain⟨e,J,U⟩:=T7 h w hw;exact⟨e,og _ J,U⟩
  simp only[fh]at h;split at h
  ·exact go h
  ·rename_i x ae;split at h
   ·exact go h
   ·split at h
    ·cases h
    ·rw[gr]at h;obtain⟨Eg,J,rfl⟩:=h;intro w hw;rcases fI.1 hw with rfl|hw
     ·exact⟨d,Ψ,x,ae,rfl⟩
     ·exact go J w hw
theorem ak7{s t:cC}(he:fu s=some t):t.b=s.b/\∀w∈t.d,∃d∈s.d,∃z,mgu s.b (fR d)=some z/\w=dR s.b z:=by
 unfold fu at he;split at he
 ·cases he
 split at he
 ·cases he
 split at he
 ·cases he
 rename_i L fe;split at he
 ·cases he;exact⟨rfl,fun w hw=>T7 fe w (sa.1 hw).1⟩
 ·cases he
theorem Dt{V:List Int}{L:Nat}{E mm:List (T×T)}{s t:cC}{Br:List ak}(aeh:∀e∈mm,eqP V L e)(rJ:mgu [] E=some Br)(ab:mgu [] mm=some s.b)(l6:∀θ,dS s.b θ->dS Br θ)(aG:∀d∈s.d,∃e x,eqP V L e/\mgu [] (E++[e])=some x/\d=dR Br x)(he:fu s=some t):mQ V L mm t:=by obtain⟨ao,aF⟩:=ak7 he;obtain⟨s0,f0⟩:=r9 sl rB rJ;obtain⟨s1,f1⟩:=r9 sl rB ab;refine⟨aeh,by rw[ao];exact ab,fun w hw=>?_⟩;obtain⟨d,ff,z,bk,rfl⟩:=aF w hw;obtain⟨e,x,vD,ae,rfl⟩:=aG d ff;refine⟨e,z,vD,?_,by rw[ao]⟩;rw[Gx sl rB,rJ,hU]at ae;rw[Gx sl rB,ab,hU,<-bk];refine pC (yV (fun θ=>and_congr_right fun J=>?_) (wq s1 f1 (fR (dR Br x))));have aZ:=qZ s0 f0 ae θ;have bm:=qZ s0 f0 (C9 s0 f0 ae) θ;have bA:=l6 θ J;exact⟨fun h=>(aZ.1 (bm.2 ⟨bA,h⟩)).2,fun h=>(bm.1 (aZ.2 ⟨bA,h⟩)).2⟩
theorem ajX(V:List Int)(L:Nat)(n:Int):mQ V L [] ⟨n,[],[],[],[]⟩:=⟨Ψ,Da sl rB,Ψ⟩
theorem ajY{V:List Int}{L:Nat}{E:List (T×T)}{s t:cC}(h:mQ V L E s){x y:T}(ae:eqP V L (x,y))(he:ox s x y=some t):mQ V L (E++[(x,y)]) t:=by
 unfold ox at he;obtain⟨b,J,U⟩:=iK.1 he;obtain⟨s0,f0⟩:=r9 sl rB h.b;refine Dt (s:={s with b:=b}) (fun e he=>?_) h.b ?_ (fun θ fS=>((qZ s0 f0 J θ).1 fS).1) h.d U
 ·rcases h9.1 he with he|he
  ·exact h.e e he
  ·rw[kg.1 he];exact ae
 ·rw[Gx sl rB,h.b,hU];exact J
theorem ajW{V:List Int}{L:Nat}{E:List (T×T)}{s t:cC}(h:mQ V L E s){x y:T}(ae:eqP V L (x,y))(he:pb s x y=some t):mQ V L E t:=by
 unfold pb at he;cases hu:mgu s.b [(x,y)]with
 |none=>rw[hu]at he;exact Dt h.e h.b h.b (fun _ h=>h) h.d he
 |some b=>
  rw[hu]at he;simp only at he;split at he
  ·cases he
  ·refine Dt (s:={s with d:=s.d++[dR s.b b]}) h.e h.b h.b (fun _ h=>h) (fun d aG=>?_) he;rcases h9.1 aG with aG|aG
   ·exact h.d d aG
   ·exact⟨(x,y),b,ae,by rw[Gx sl rB,h.b,hU];exact hu,kg.1 aG⟩
theorem ajZ{V:List Int}{L:Nat}{E:List (T×T)}{s t:cC}(h:mQ V L E s){x:T}{k:Int}(he:l9 s x k=some t):mQ V L E t:=by
 unfold l9 at he;split at he
 ·obtain⟨l,J,U⟩:=iK.1 he;exact Dt (s:={s with k:=l}) h.e h.b h.b (fun _ h=>h) h.d U
 ·cases he
theorem aj0{V:List Int}{L:Nat}{E:List (T×T)}{s t:cC}(h:mQ V L E s){x:T}{g:List c4}(he:pE s x g=some t):mQ V L E t:=by
 unfold pE at he;split at he
 ·obtain⟨l,J,U⟩:=iK.1 he;exact Dt (s:={s with m:=l}) h.e h.b h.b (fun _ h=>h) h.d U
 ·cases he
theorem alx(θ:Int->T):dS [] θ:=fun _ h=>by simp at h
theorem Uy{V:List Int}{L:Nat}{E:List (T×T)}{b:List ak}(gx:V.Nodup)(J:1<=L)(c6:∀e∈E,eqP V L e)(ab:mgu [] E=some b){v:Int}(av:v∈V):ef (aY b v)<=L ^ (Bu b V).length:=by refine ahm (r9 sl rB ab).1 (fun θ=>?_) gx (fun e he=>(c6 e he).v) (fun e he=>(c6 e he).l) J av;rw[qZ sl rB ab θ];exact⟨fun h=>h.2,fun h=>⟨alx θ,h⟩⟩
theorem Ol(b:List ak)(V:List Int):(Bu b V).length<=V.length:=List.length_filter_le _ _
theorem mQ.b_lv{V:List Int}{L:Nat}{E:List (T×T)}{s:cC}(h:mQ V L E s)(gx:V.Nodup)(J:1<=L){v:Int}(av:v∈V):ef (aY s.b v)<=L ^ V.length:=gZ (Uy gx J h.e h.b av) (Nat.pow_le_pow_right J (Ol _ _))
theorem mQ.d_lv{V:List Int}{L:Nat}{E:List (T×T)}{s:cC}(h:mQ V L E s)(gx:V.Nodup)(J:1<=L){d:List ak}(aG:d∈s.d){c:ak}(aq:c∈d)(aeG:c.v∈V)(aez:∀u,c.t.occ u=true->u∈V):ef c.t<=L ^ V.length/\(∀u,c.t.occ u=true->ef c.t*L<=L ^ V.length):=by
 obtain⟨e,x,he,ae,rfl⟩:=h.d d aG;have c6:∀a∈E++[e],eqP V L a:=fun a a7=>by
  rcases h9.1 a7 with a7|a7
  ·exact h.e a a7
  ·rw[kg.1 a7];exact he
 have kA:=(iA.1 aq).1;have hb:=(r9 sl rB ae).1;have ao:aY x c.v=c.t:=by unfold aY;rw[rn hb.asc kA];rfl
 have U:=Uy gx J c6 ae aeG;rw[ao]at U;refine⟨gZ U (Nat.pow_le_pow_right J (Ol _ _)),fun u hu=>?_⟩;have xP:=hb.free c kA u hu;have Cm:(aY x u).kind=1:=by unfold aY;rw[xP];rfl
 have al:(Bu x V).length+1<=V.length:=by have:=Jo gx (p:=fun w=>(aY x w).kind !=1) (q:=fun _=>true) (fun _ _=>rfl) (aez u hu) rfl (by simp[Cm]);rwa[List.filter_eq_self.2 fun _ _=>rfl]at this
 have a1:L ^ ((Bu x V).length+1)<=L ^ V.length:=Nat.pow_le_pow_right J al;rw[Nat.pow_succ]at a1;exact gZ (qq _ U) a1
structure BC (n:Int) (s:cC):Prop where
 ok:q8 s
 n:s.n=n
 t:kY [[97],[98]] s.m
theorem BC.tg{n:Int}{s:cC}(h:BC n s):AY s.m:=⟨_,Ψ,h.t⟩
theorem DO{G:List (List c4)}{s t:cC}(hm:kY G s.m)(he:fu s=some t):kY G t.m:=by
 unfold fu at he;split at he
 ·cases he
 ·split at he
  ·cases he
  ·rename_i m e;split at he
   ·cases he
   ·split at he
    ·have U:=He hm (fun x ae=>by simp at ae) e;have al:=gu he;rw[<-al];exact M9 U
    ·cases he
theorem DM{s t:cC}(h:gK s)(he:fu s=some t):t.n=s.n:=(AR h he).2.1
noncomputable def qy(s:cC)(kd:Int)(x y:T)(k:Int)(g:List c4):Option cC:=if kd=0 then ox s x y else if kd=1 then pb s x y else if kd=2 then l9 s x k else pE s x g
theorem Yx{n:Int}{s t:cC}(h:BC n s){kd:Int}{x y:T}{k:Int}{g:List c4}(ae:x.fit=true)(aM:y.fit=true)(bx:gd n x=true)(mq:gd n y=true)(aW:g∈([[97],[98]]:List (List c4)))(he:qy s kd x y k g=some t):BC n t:=by
 obtain⟨J,U,al⟩:=h;subst U;have Sw:ji g=true:=by simp only[fI,List.mem_nil_iff,or_false]at aW;rcases aW with rfl|rfl<;>decide
 unfold qy at he;split at he
 ·refine⟨Z1 J.1 ae aM bx mq he,?_,?_⟩
  ·unfold ox at he;obtain⟨b,ao,aF⟩:=iK.1 he;exact DM (s:={s with b:=b}) (J.1.bind ae aM bx mq ao) aF
  ·unfold ox at he;obtain⟨b,ao,aF⟩:=iK.1 he;exact DO (s:={s with b:=b}) al aF
 split at he
 ·refine⟨ZI J.1 ae aM bx mq he,?_,?_⟩;all_goals unfold pb at he
  all_goals
   cases hm:mgu s.b [(x,y)]with
   |none=>
    rw[hm]at he
    first|exact DM J.1 he|exact DO al he
   |some b=>
    rw[hm]at he
    simp only at he
    split at he
    ·cases he
    ·first|exact DM (s:={s with d:=s.d++[dR s.b b]}) (J.1.dif ae aM bx mq hm) he|exact DO (s:={s with d:=s.d++[dR s.b b]}) al he
 split at he
 ·refine⟨agT J.1 ae bx he,?_,?_⟩;all_goals unfold l9 at he
  all_goals split at he
  any_goals (cases he;done)
  all_goals rename_i g0
  all_goals obtain⟨l,ao,aF⟩:=iK.1 he
  ·exact DM (s:={s with k:=l}) (J.1.knd ae bx g0.1 ao) aF
  ·exact DO (s:={s with k:=l}) al aF
 ·refine⟨ahA J.1 ae bx Sw he,?_,?_⟩;all_goals unfold pE at he
  all_goals split at he
  any_goals (cases he;done)
  all_goals obtain⟨l,ao,aF⟩:=iK.1 he
  ·exact DM (s:={s with m:=l}) (J.1.mrk ae bx Sw ao) aF
  ·exact DO (s:={s with m:=l}) (Bp al aW ao) aF
theorem ZY{n:Int}(bA:0<=n)(J:n<=100000):q8 ⟨n,[],[],[],[]⟩:=by
 refine⟨⟨⟨bA,J⟩,⟨by simp[j7],⟨Ψ,Ψ,Ψ⟩,by simp[fJ]⟩,Ψ,⟨Ψ,Ψ⟩,⟨Ψ,by simp[hH]⟩,by simp[ot],Ψ,Ψ,Ψ⟩,?_⟩;have:jN []=[]:=List.eq_nil_iff_forall_not_mem.2 fun x ae=>by simp[sa]at ae
 simp[fu,fC,fD,fh,this]
def p7(n:Nat):List Int:=(List.range n).map Int.ofNat
theorem KJ(n:Nat):(p7 n).length=n:=by simp[p7]
theorem iz.of{n:Nat}(az:n<=400){u:List T}(hu:∀t∈u,t.fit=true/\t.gnd=true){r:List ak}(J:r.map (·.v)=p7 n)(U:∀b∈r,b.t∈u):iz n r:=by
 have au:r.length=n:=by rw[<-KJ n,<-J,List.length_map]
 have lY:∀(i:Nat) b,r[i]? =some b->b.v=(i:Int):=fun i b ab=>by
  have hi:i<n:=by rw[<-au];exact(fp.1 ab).1
  have al:(r.map (·.v))[i]? =some b.v:=by rw[List.getElem?_map,ab];rfl
  rw[J]at al;simp[p7,hi]at al;exact al.symm
 have Cf:=fun(b:ak) ab=>(hu b.t (U b ab)).1;simp only[T.fit,ct,eF]at Cf;refine⟨fun b ab=>?_,?_,⟨Ω,fun b ab=>(Cf b ab).2⟩,Ω,lY,fun b ab=>(hu b.t (U b ab)).2⟩
 ·obtain⟨i,hi⟩:=List.mem_iff_getElem?.1 ab;have:=lY i b hi;have:=(fp.1 hi).1;exact⟨Ω,(Cf b ab).1⟩
 ·refine oX.2 fun i j hi ag lD=>?_;rw[lY i _ (cr hi),lY j _ (cr ag)];omega
theorem Od(k:Int):ef (rl k)=1:=by
 unfold rl;split
 ·rfl
 ·split<;>rfl
theorem ZM(vars:Int){n:Nat}(az:n<=2)(c:dz):ef (dY n vars c).1=1:=by
 rw[dY,if_neg Ω];split
 ·rfl
 ·exact Od _
theorem ZN(vars:Int){n:Nat}(az:n<=5)(c:dz):ef (dY n vars c).1<=2:=by
 rw[dY];split
 ·simp only[ef,ZM vars (show n/2<=2 by omega)];omega
 ·split
  ·simp[ef]
  ·rw[Od];omega
structure jU (n:Int) (t:T):Prop where
 f:t.fit=true
 b:gd n t=true
 l:ef t<=2
 o:∀v,t.occ v=true->0<=v/\v<n
 w:wy t=true
theorem YP(k:Int):wy (rl k)=true:=by
 unfold rl;split
 ·rfl
 ·split
  ·generalize (k-2).toNat=j;rcases j with _|_|_|j<;>rfl
  ·rfl
theorem ZO(vars:Int)(n:Nat):∀c:dz,wy (dY n vars c).1=true:=by
 induction n using pO with
 |ind n bO=>
  intro c;rw[dY];split
  ·simp only[wy,ct];exact⟨bO _ Ω _,bO _ Ω _⟩
  ·split
   ·rfl
   ·exact YP _
theorem IX{n:Int}(az:n<=100001){z:Nat}(bk:z<=5)(c:dz):jU n (dY z n c).1:=by obtain⟨J,U,al⟩:=ZL n az z c;refine⟨by simp only[T.fit,ct,eF];exact⟨J,by split at al<;>omega⟩,rp.2 fun v av=>(U v av).2,ZN n bk c,U,ZO n z c⟩
theorem Gw{n:Nat}{v:Int}:v∈p7 n↔0<=v/\v<n:=by
 simp only[p7,ia,List.mem_range];constructor
 ·rintro⟨a,h,rfl⟩;exact⟨rh a,by simpa using h⟩
 ·intro h;exact⟨v.toNat,Ω,by simp;omega⟩
theorem Tv(n:Nat):(p7 n).Nodup:=by unfold p7;rw[List.nodup_iff_pairwise_ne,List.pairwise_map];exact List.pairwise_lt_range.imp fun h e=>by have:=arI e;omega
structure sR (n:Nat) (K:Nat) (S:cC):Prop where
 s:BC n S
 k:S.d.length<=K
 p:∃E,mQ (p7 n) 2 E S
theorem DL{s t:cC}(he:fu s=some t):t.d.length<=s.d.length:=by
 unfold fu at he;split at he
 ·cases he
 split at he
 ·cases he
 split at he
 ·cases he
 rename_i L fe;split at he
 ·have:=CZ fe;have:=UC L;rw[<-gu he];simp only at*;omega
 ·cases he
theorem Yw{s t:cC}{kd:Int}{x y:T}{k:Int}{g:List c4}(he:qy s kd x y k g=some t):t.d.length<=s.d.length+1:=by
 unfold qy at he;split at he
 ·unfold ox at he;obtain⟨b,ao,aF⟩:=iK.1 he;have:=DL aF;simp only at this;omega
 split at he
 ·unfold pb at he;split at he
  ·have:=DL he;omega
  ·split at he
   ·cases he
   ·have:=DL he;simp only[oW,List.length_singleton]at this;omega
 split at he
 ·unfold l9 at he;split at he
  ·obtain⟨b,ao,aF⟩:=iK.1 he;have:=DL aF;simp only at this;omega
  ·cases he
 ·unfold pE at he;split at he
  ·obtain⟨b,ao,aF⟩:=iK.1 he;have:=DL aF;simp only at this;omega
  ·cases he
theorem Yy{V:List Int}{L:Nat}{E:List (T×T)}{s t:cC}(h:mQ V L E s){kd:Int}{x y:T}{k:Int}{g:List c4}(ae:eqP V L (x,y))(he:qy s kd x y k g=some t):∃mm,mQ V L mm t:=by
 unfold qy at he;split at he
 ·exact⟨_,ajY h ae he⟩
 split at he
 ·exact⟨_,ajW h ae he⟩
 split at he
 ·exact⟨_,ajZ h he⟩
 ·exact⟨_,aj0 h he⟩
theorem jU.eqP{n:Nat}{x y:T}(ae:jU n x)(aM:jU n y):eqP (p7 n) 2 (x,y):=⟨⟨ae.l,aM.l⟩,fun v av=>Gw.2 (av.elim (ae.o v) (aM.o v)),ae.w,aM.w⟩
theorem sR.add{n k:Nat}{s t:cC}(h:sR n k s){kd:Int}{x y:T}{kk:Int}{g:List c4}(ae:jU n x)(aM:jU n y)(aW:g∈([[97],[98]]:List (List c4)))(he:qy s kd x y kk g=some t):sR n (k+1) t:=by obtain⟨E,c6⟩:=h.p;exact⟨Yx h.s ae.f aM.f ae.b aM.b aW he,by have:=Yw he;have:=h.k;omega,Yy c6 (ae.eqP aM) he⟩
theorem ZK(n:Nat)(az:n<=100000):sR n 0 ⟨n,[],[],[],[]⟩:=⟨⟨ZY Ω Ω,rfl,by simp[kY]⟩,Ψ,[],ajX _ _ _⟩
theorem sR.le{n k bN:Nat}{s:cC}(h:sR n k s)(ad:k<=bN):sR n bN s:=⟨h.s,by have:=h.k;omega,h.p⟩
def EK:C:=(aa [bu 2 false] (.seq (aa [I 11 0,cD 12 11,aQ 13 .gtr 12 1048576] (aV 13 (aa [bu 2 true] .ret) .skip)) (aa [I 14 0,c1 15 39 [.t 14,(dI 0)],cH (.alloc 3 none (.agg [.int .i64 0,.str [],.slice 4 .nil [],.slice 4 .nil []])),bC 4 3 15] (aa [I 16 0,c1 17 40 [.t 16,(dI 60),(dI 3)],I 4 17] (aa [a8 19 4 3,I 20 4,cg 21 41 19 20,I 18 21,cu 22 0 18,cu 23 1 18,cH (.alloc 5 none (.agg [.int .i64 0,.str [],.slice 4 .nil [],.slice 4 .nil []])),bC 4 5 22,I 6 23] (aa [a8 25 4 3,ec 26 4 75 [.t 25],c1 27 42 [(dI 3),.t 26],I 24 27,cu 28 0 24,cu 29 1 24,cu 30 2 24,da 7 h5,bC 5 7 28,I 8 29,I 9 30] (.seq (aa [I 31 6,cB 32 31,I 33 32,bU 33 false 34 8,ar 33 false (cD 35 34),ar 33 false (aQ 36 .gtr 35 0),cW 37 33 36] (aV 37 (aa [bu 2 false] .ret) .skip)) (aa [a8 38 4 5,cV 39 43 38,I 10 39] (.seq (aa [I 40 9,cB 41 40] (aV 41 (aa [I 42 10,aQ 43 .eql 42 0,I 2 43] .ret) .skip)) (aa [aH 44 0 1 7,ax 45 1 44,aQ 46 .eql 45 3,I 47 46,bU 47 true 48 10,ar 47 true (aQ 49 .geq 48 0),dv 50 47 49,I 51 50,bU 51 true 52 10,ar 51 true (aQ 53 .eql 52 1),ar 51 true (a8 54 5 7),bU 51 true 55 4,ar 51 true (cg 56 30 54 55),ar 51 true (bQ 57 (.beq false none (.t 53) (.t 56))),dv 58 51 57,I 2 58] .ret))))))))))
@[simp] def VU:List bY:=[.tmp 2]
def PW:C:=(aa [cH (.alloc 4 none (.agg [.int .i64 0,.str [],.slice 4 .nil [],.slice 4 .nil []]))] (aa [I 5 0,I 6 1,cg 7 45 5 6,c1 8 97 [.t 7,(dI 3),(.c (.bool false))],bC 4 4 8] .ret))
@[simp] def aky:List bY:=[.cell 4 true 4]
def PV:C:=(aa [ey 6 5] (aa [I 7 0,I 8 1,cg 9 45 7 8,I 10 2,cg 11 98 9 10,I 6 11] .ret))
@[simp] def V4:List bY:=[.tmp 6]
def OE:C:=(aa [c3 2 0,cH (.box 3 (some 205) (.t 1)),cH (.alloc 4 none (.agg [.int .i64 0,.str [],.slice 4 .nil [],.slice 4 .nil []])),bu 5 false] (.seq (aa [a8 8 4 2,cV 9 99 8,cB 10 9,I 11 10,ar 11 false (ax 12 1 3),ar 11 false (cV 13 100 12),ar 11 false (cB 14 13),cW 15 11 14] (aV 15 (aa [bQ 16 (.build [.int .i64 0,.str [],.slice 4 .nil [],.slice 4 .nil []] []),bC 4 4 16,bu 5 false] .ret) .skip)) (aa [a8 18 4 2,bQ 19 (.mkf 102 [.t 3]),cg 20 101 18 19,I 17 20,cu 21 0 17,cu 22 1 17,cH (.alloc 6 none (.agg [.int .i64 0,.str [],.slice 4 .nil [],.slice 4 .nil []])),bC 4 6 21,I 7 22] (aa [a8 23 4 6,I 24 7,bC 4 4 23,I 5 24] .ret))))
@[simp] def Vq:List bY:=[.cell 4 true 4,.tmp 5]
def OQ:C:=(aa [da 4 h5,ey 5 4,bu 6 false] (.seq (aa [I 19 0,aQ 20 .lss 19 0,I 21 20,bU 21 false 22 0,ar 21 false (aQ 23 .gtr 22 100000),cW 24 21 23] (aV 24 (aa [gE 25 h5 [],bC 5 4 25,ey 5 4,bu 6 false] .ret) .skip)) (.seq (aa [I 26 1,cD 27 26,b7 28 0] (fj 29 28 27 (.seq (.block 1 (aa [cJ 30 4 26 28,a8 31 4 30,cH (.alloc 8 none (.agg [.int .i64 0,.str [],.slice 4 .nil [],.slice 4 .nil []])),bC 4 8 31] (aa [a8 32 4 8,cV 33 99 32,cB 34 33,I 35 34,ar 35 false (aH 36 0 1 8),ar 35 false (ax 37 1 36),ar 35 false (aQ 38 .eql 37 7),cW 39 35 38,I 40 39,ar 40 false (aH 41 0 1 8),ar 40 false (ax 42 1 41),ar 40 false (aQ 43 .eql 42 8),cW 44 40 43,I 45 44,ar 45 false (a8 46 4 8),bU 45 false 47 0,ar 45 false (cg 48 103 46 47),ar 45 false (cB 49 48),cW 50 45 49] (aV 50 (aa [gE 51 h5 [],bC 5 4 51,ey 5 4,bu 6 false] .ret) .skip)))) (.region [aQ 52 .add 28 1,I 28 52])))) (aa [I 53 0,cV 54 104 53,da 9 h5,bC 5 9 54] (.seq (aa [I 55 1,cD 56 55,b7 57 0] (.block 2 (.loop (aa [bF 58 .lss 57 56] (.seq (aV 58 .skip (.exit 2)) (.seq (.block 3 (aa [cJ 59 4 55 57,a8 60 4 59,cH (.alloc 11 none (.agg [.int .i64 0,.str [],.slice 4 .nil [],.slice 4 .nil []])),bC 4 11 60] (.seq (aa [aH 61 0 1 11,ax 62 1 61,aQ 63 .gtr 62 6] (aV 63 (.exit 3) .skip)) (aa [a8 65 5 9,a8 66 4 11,cg 67 105 65 66,I 64 67,cu 68 0 64,cu 69 1 64,da 12 h5,bC 5 12 68,I 13 69] (.seq (aa [I 70 13,cB 71 70] (aV 71 (aa [gE 72 h5 [],bC 5 4 72,ey 5 4,bu 6 false] .ret) .skip)) (.region [a8 73 5 12,bC 5 9 73])))))) (.region [aQ 74 .add 57 1,I 57 74]))))))) (aa [ec 75 4 75 [],I 14 75] (.seq (aa [I 76 1,cD 77 76,b7 78 0] (.block 4 (.loop (aa [bF 79 .lss 78 77] (.seq (aV 79 .skip (.exit 4)) (.seq (.block 5 (aa [cJ 80 4 76 78,a8 81 4 80,cH (.alloc 16 none (.agg [.int .i64 0,.str [],.slice 4 .nil [],.slice 4 .nil []])),bC 4 16 81] (.seq (aa [aH 82 0 1 16,ax 83 1 82,aQ 84 .leq 83 6] (aV 84 (.exit 5) .skip)) (aa [a8 86 4 16,bQ 87 (.mkf 106 [.t 9]),cg 88 101 86 87,I 85 88,cu 89 0 85,cu 90 1 85,cH (.alloc 17 none (.agg [.int .i64 0,.str [],.slice 4 .nil [],.slice 4 .nil []])),bC 4 17 89,I 18 90] (.seq (aa [I 91 18,cB 92 91] (aV 92 (aa [gE 93 h5 [],bC 5 4 93,ey 5 4,bu 6 false] .ret) .skip)) (.region [I 94 14,a8 95 4 17,ec 96 4 75 [.t 95],gY 97 4 75 94 96,I 14 97])))))) (.region [aQ 98 .add 78 1,I 78 98]))))))) (aa [a8 99 5 9,cV 100 49 99,I 101 14,bC 5 4 100,I 5 101,bu 6 true] .ret))))))))
@[simp] def akd:List bY:=[.cell 4 true 5,.tmp 5,.tmp 6]
def vm:C:=(aa [c3 1 0,b7 2 0] (.seq (aa [a8 4 4 1,cV 5 99 4,cB 6 5,I 7 6,ar 7 false (aH 8 0 1 1),ar 7 false (ax 9 1 8),ar 7 false (aQ 10 .gtr 9 6),cW 11 7 10,I 12 11,ar 12 false (a8 13 4 1),ar 12 false (cV 14 107 13),ar 12 false (cD 15 14),ar 12 false (aQ 16 .gtr 15 0),cW 17 12 16] (aV 17 (aa [b7 2 (-1)] .ret) .skip)) (aa [bu 3 false] (.seq (aa [aH 18 0 1 1,ax 19 1 18] (.block 0 (aa [aQ 21 .eql 19 0,I 20 21] (aV 20 (.region [bu 3 true]) (aa [aQ 23 .eql 19 2,I 22 23] (aV 22 (.drawn true 75 [aH 24 2 1 1,ax 25 1 24,gM 26 4 25 0,a8 27 4 26,aH 28 2 1 1,ax 29 1 28,gM 30 4 29 1,a8 31 4 30,cg 32 108 27 31,I 3 32]) (aa [aQ 34 .eql 19 3,I 33 34] (aV 33 (.drawn true 75 [aH 35 2 1 1,ax 36 1 35,gM 37 4 36 0,a8 38 4 37,aH 39 2 1 1,ax 40 1 39,gM 41 4 40 1,a8 42 4 41,cg 43 108 38 42,cB 44 43,I 3 44]) (aa [aQ 46 .eql 19 4,I 45 46] (aV 45 (.region [aH 47 2 1 1,ax 48 1 47,gM 49 4 48 0,aH 50 0 1 49,ax 51 1 50,aQ 52 .eql 51 2,I 3 52]) (aa [aQ 54 .eql 19 5,I 53 54] (aV 53 (.region [aH 55 2 1 1,ax 56 1 55,gM 57 4 56 0,aH 58 0 1 57,ax 59 1 58,aQ 60 .eql 59 3,I 3 60]) (aa [aQ 62 .eql 19 6,I 61 62] (aV 61 (.drawn true 75 [aH 63 2 1 1,ax 64 1 63,gM 65 4 64 1,a8 66 4 65,aH 67 2 1 1,ax 68 1 67,gM 69 4 68 0,aH 70 2 1 69,ax 71 1 70,cg 72 109 66 71,cB 73 72,I 3 73]) .skip)))))))))))))) (.seq (aa [I 74 3] (aV 74 (aa [b7 2 1] .ret) .skip)) (aa [b7 2 0] .ret))))))
@[simp] def yl:List bY:=[.tmp 2]
def xk:C:=(aa [cH (.alloc 6 none (.agg [.int .i64 0,.str [],.slice 4 .nil [],.slice 4 .nil []]))] (aa [I 10 0,I 11 1,c1 12 46 [.t 10,(dI 1),.t 11],da 7 dm,bC 4 7 12] (aa [I 13 0,I 14 1,c1 15 46 [.t 13,(dI 4),.t 14],da 8 dm,bC 4 8 15] (aa [I 16 0,c1 17 110 [.t 16,(dI 16)],I 9 17] (.seq (aa [I 18 2,I 19 18,bU 19 false 20 9,ar 19 false (aQ 21 .lss 20 9),cW 22 19 21] (aV 22 (aa [a8 23 4 7,a8 24 4 8,ec 25 4 32 [.t 23,.t 24],c1 26 183 [(dI 2),.t 25,(.c (.slice 4 .nil []))],bC 4 6 26] .ret) .skip)) (.seq (aa [I 27 9] (.block 0 (aa [aQ 29 .eql 27 9,I 28 29] (aV 28 (aa [a8 30 4 7,ec 31 4 32 [.t 30],c1 32 183 [(dI 4),.t 31,(.c (.slice 4 .nil []))],bC 4 6 32] .ret) (aa [aQ 34 .eql 27 10,I 33 34] (aV 33 (aa [a8 35 4 7,ec 36 4 32 [.t 35],c1 37 183 [(dI 5),.t 36,(.c (.slice 4 .nil []))],bC 4 6 37] .ret) (aa [aQ 39 .eql 27 11,I 38 39] (aV 38 (.seq (.drawn true 54 [⟨none,.call (some 40) (.c (.func 184 [])) [(.c (.str [97]))]⟩,a8 41 4 8,ec 42 4 32 [.t 40,.t 41],c1 43 183 [(dI 6),.t 42,(.c (.slice 4 .nil []))],bC 4 6 43]) .ret) (aa [aQ 45 .eql 27 12,I 44 45] (aV 44 (aa [I 46 0,c1 47 110 [.t 46,(dI 8)],aQ 48 .quo 47 7,c1 49 183 [.t 48,(.c (.slice 4 .nil [])),(.c (.slice 4 .nil []))],bC 4 6 49] .ret) .skip)))))))))) (aa [a8 50 4 7,a8 51 4 8,ec 52 4 32 [.t 50,.t 51],c1 53 183 [(dI 3),.t 52,(.c (.slice 4 .nil []))],bC 4 6 53] .ret)))))))
@[simp] def yp:List bY:=[.cell 6 true 4]
def Qs:C:=(aa [ey 4 5] (aa [ec 7 5 61 [],I 5 7] (.seq (aa [b7 6 0] (.block 0 (.loop (.seq (aa [I 8 6,I 9 1,bF 10 .lss 8 9] (aV 10 .skip (.exit 0))) (.seq (.block 1 (.region [I 13 5,I 14 6,I 15 0,c1 16 46 [.t 15,(dI 3),(dI 0)],gE 17 kn [(0,1,(.t 14)),(1,4,(.t 16))],ec 18 5 61 [.t 17],gY 19 5 61 13 18,I 5 19])) (.region [I 11 6,aQ 12 .add 11 1,I 6 12])))))) (aa [I 20 5,I 4 20] .ret))))
@[simp] def Wh:List bY:=[.tmp 4]
def OD:C:=(aa [c3 1 0,bu 2 false] (aa [a8 3 4 1,c1 4 185 [.t 3,(dI 80)],aQ 5 .gtr 4 0,I 2 5] .ret))
@[simp] def aj9:List bY:=[.tmp 2]
def Pd:C:=(aa [c3 2 0,cH (.alloc 4 none (.agg [.int .i64 0,.str [],.slice 4 .nil [],.slice 4 .nil []])),bu 5 false] (aa [aH 15 0 1 2,ax 16 1 15,aH 17 1 1 2,ax 18 1 17,bQ 19 (.build [.int .i64 0,.str [],.slice 4 .nil [],.slice 4 .nil []] [(0,1,(.t 16)),(1,1,(.t 18))]),cH (.alloc 6 none (.agg [.int .i64 0,.str [],.slice 4 .nil [],.slice 4 .nil []])),bC 4 6 19] (.seq (aa [aH 20 2 1 2,ax 21 1 20,cD 22 21,b7 23 0] (fj 24 23 22 (.seq (.block 1 (aa [cJ 25 4 21 23,a8 26 4 25,da 8 dm,bC 4 8 26] (aa [I 28 1,a8 29 4 8,gp 30 28 [.t 29],I 27 30,cu 31 0 27,cu 32 1 27,da 9 dm,bC 4 9 31,I 10 32] (.seq (aa [I 33 10,cB 34 33] (aV 34 (aa [bQ 35 (.build [.int .i64 0,.str [],.slice 4 .nil [],.slice 4 .nil []] []),bC 4 4 35,bu 5 false] .ret) .skip)) (.region [aH 36 2 1 6,ax 37 1 36,a8 38 4 9,ec 39 4 32 [.t 38],gY 40 4 32 37 39,aH 41 2 1 6,bC 1 41 40]))))) (.region [aQ 42 .add 23 1,I 23 42])))) (.seq (aa [aH 43 3 1 2,ax 44 1 43,cD 45 44,b7 46 0] (.block 2 (.loop (aa [bF 47 .lss 46 45] (.seq (aV 47 .skip (.exit 2)) (.seq (.block 3 (aa [cJ 48 4 44 46,a8 49 4 48,cH (.alloc 12 none (.agg [.int .i64 0,.str [],.slice 4 .nil [],.slice 4 .nil []])),bC 4 12 49] (aa [a8 51 4 12,I 52 1,cg 53 101 51 52,I 50 53,cu 54 0 50,cu 55 1 50,cH (.alloc 13 none (.agg [.int .i64 0,.str [],.slice 4 .nil [],.slice 4 .nil []])),bC 4 13 54,I 14 55] (.seq (aa [I 56 14,cB 57 56] (aV 57 (aa [bQ 58 (.build [.int .i64 0,.str [],.slice 4 .nil [],.slice 4 .nil []] []),bC 4 4 58,bu 5 false] .ret) .skip)) (.region [aH 59 3 1 6,ax 60 1 59,a8 61 4 13,ec 62 4 75 [.t 61],gY 63 4 75 60 62,aH 64 3 1 6,bC 1 64 63]))))) (.region [aQ 65 .add 46 1,I 46 65]))))))) (aa [a8 66 4 6,bC 4 4 66,bu 5 true] .ret)))))
@[simp] def L6:List bY:=[.cell 4 true 4,.tmp 5]
def OF:C:=(aa [c3 2 0,da 3 dm,bu 4 false] (aa [ax 5 1 1,a8 6 4 2,cg 7 95 5 6,cu 8 0 7,cu 9 1 7,bC 4 3 8,I 4 9] .ret))
@[simp] def Vr:List bY:=[.cell 3 true 4,.tmp 4]
def Pt:C:=(aa [c3 2 0,bu 4 false] (.seq (aa [a8 7 4 2,cV 8 107 7,cD 9 8,b7 10 0] (fj 11 10 9 (.seq (.block 1 (aa [cJ 12 1 8 10,ax 13 1 12,I 6 13] (aa [I 14 6,I 15 1,bF 16 .geq 14 15] (aV 16 (aa [bu 4 false] .ret) .skip)))) (.region [aQ 17 .add 10 1,I 10 17])))) (aa [bu 4 true] .ret)))
@[simp] def akm:List bY:=[.tmp 4]
def ON:C:=(aa [da 2 h5] (.seq (aa [I 3 0,aQ 4 .lss 3 0,I 5 4,bU 5 false 6 0,ar 5 false (aQ 7 .gtr 6 100000),cW 8 5 7] (aV 8 (aa [gE 9 h5 [],bC 5 2 9] .ret) .skip)) (aa [I 10 0,gE 11 h5 [(0,1,(.t 10))],bC 5 2 11] .ret)))
@[simp] def akc:List bY:=[.cell 2 true 5]
def mX:C:=(aa [c3 2 0,c3 3 1,da 4 h5,bu 5 false] (.seq (aa [aH 19 0 1 3,ax 20 1 19] (.block 0 (aa [aQ 23 .eql 20 0,I 22 23] (aV 22 (aa [a8 24 5 2,bC 5 4 24,bu 5 true] .ret) (aa [aQ 26 .eql 20 2,I 25 26] (aV 25 (.seq (.drawn true 134 [aH 28 1 1 2,ax 29 1 28,aH 30 2 1 3,ax 31 1 30,bQ 32 (.lsl 4 (.t 31) none (some (dI 1))),aH 33 2 1 3,ax 34 1 33,bQ 35 (.lsl 4 (.t 34) (some (dI 1)) none),c1 36 118 [.t 29,.t 32,.t 35],I 27 36,cu 37 0 27,cu 38 1 27,I 6 37,I 7 38]) (.seq (aa [I 39 7,cB 40 39] (aV 40 (aa [gE 41 h5 [],bC 5 4 41,bu 5 false] .ret) .skip)) (.region [I 42 6,aH 43 1 1 2,bC 1 43 42]))) (aa [aQ 45 .eql 20 3,I 44 45] (aV 44 (.seq (.drawn true 134 [aH 47 1 1 2,ax 48 1 47,aH 49 2 1 3,ax 50 1 49,bQ 51 (.lsl 4 (.t 50) none (some (dI 1))),aH 52 2 1 3,ax 53 1 52,bQ 54 (.lsl 4 (.t 53) (some (dI 1)) none),c1 55 118 [.t 48,.t 51,.t 54],I 46 55,cu 56 0 46,cu 57 1 46,I 8 56,I 9 57]) (aa [aH 59 1 1 2,ax 60 1 59,I 61 8,I 62 9,c1 63 125 [.t 60,.t 61,.t 62],I 58 63,cu 64 0 58,cu 65 1 58,I 10 64,I 11 65] (.seq (aa [I 66 11,aQ 67 .eql 66 2] (aV 67 (aa [gE 68 h5 [],bC 5 4 68,bu 5 false] .ret) .skip)) (aa [I 69 11,aQ 70 .eql 69 0] (aV 70 (.region [ec 71 1 23 [],aH 72 2 1 2,ax 73 1 72,gY 74 1 23 71 73,I 75 10,ec 76 1 23 [.t 75],gY 77 1 23 74 76,aH 78 2 1 2,bC 1 78 77]) .skip))))) (.seq (aa [aQ 80 .eql 20 4,I 79 80] (aV 79 .skip (.region [aQ 81 .eql 20 5,I 79 81]))) (aV 79 (aa [b7 12 2] (.seq (aa [aH 82 0 1 3,ax 83 1 82,aQ 84 .eql 83 5] (aV 84 (.region [b7 12 3]) .skip)) (.seq (.drawn true 134 [aH 86 1 1 2,ax 87 1 86,aH 88 3 1 2,ax 89 1 88,aH 90 2 1 3,ax 91 1 90,gM 92 4 91 0,a8 93 4 92,I 94 12,c1 95 52 [.t 87,.t 89,.t 93,.t 94],I 85 95,cu 96 0 85,cu 97 1 85,I 13 96,I 14 97]) (.seq (aa [I 98 14,cB 99 98] (aV 99 (aa [gE 100 h5 [],bC 5 4 100,bu 5 false] .ret) .skip)) (.region [I 101 13,aH 102 3 1 2,bC 1 102 101]))))) (aa [aQ 104 .eql 20 6,I 103 104] (aV 103 (.seq (.drawn true 134 [aH 106 1 1 2,ax 107 1 106,aH 108 4 1 2,ax 109 1 108,aH 110 2 1 3,ax 111 1 110,gM 112 4 111 1,a8 113 4 112,aH 114 2 1 3,ax 115 1 114,gM 116 4 115 0,aH 117 2 1 116,ax 118 1 117,c1 119 54 [.t 107,.t 109,.t 113,.t 118],I 105 119,cu 120 0 105,cu 121 1 105,I 15 120,I 16 121]) (.seq (aa [I 122 16,cB 123 122] (aV 123 (aa [gE 124 h5 [],bC 5 4 124,bu 5 false] .ret) .skip)) (.region [I 125 15,aH 126 4 1 2,bC 1 126 125]))) (aa [gE 21 h5 [],bC 5 4 21,bu 5 false] .ret))))))))))))) (aa [a8 128 5 2,cV 129 50 128,I 127 129,cu 130 0 127,cu 131 1 127,da 17 h5,bC 5 17 130,I 18 131] (aa [a8 132 5 17,I 133 18,bC 5 4 132,I 5 133] .ret))))
@[simp] def pH:List bY:=[.cell 4 true 5,.tmp 5]
def Pa:C:=(aa [c3 1 0,ey 2 1] (aa [cH (.mkmap 4 (some 304)),cH (.alloc 3 (some 305) (.junk)),bC 1 3 4] (aa [a8 5 4 1,bQ 6 (.mkf 187 [.t 3]),cg 7 186 5 6] (aa [ax 8 1 3,cV 9 189 8,I 2 9] .ret))))
@[simp] def VL:List bY:=[.tmp 2]
def Qu:C:=(aa [cH (.alloc 6 none (.agg [.int .i64 0,.str [],.slice 4 .nil [],.slice 4 .nil []]))] (aa [I 7 0,I 8 1,I 9 2,bQ 10 (.build [.int .i64 0,.str [],.slice 4 .nil [],.slice 4 .nil []] [(0,1,(.t 7)),(2,1,(.t 8)),(3,1,(.t 9))]),bC 4 6 10] .ret))
@[simp] def akI:List bY:=[.cell 6 true 4]
def O9:C:=(aa [c3 2 0,b7 4 0] (.seq (aa [I 10 1,aQ 11 .lss 10 1,I 12 11,ar 12 false (aH 13 2 1 2),ar 12 false (ax 14 1 13),ar 12 false (cV 15 68 14),ar 12 false (cB 16 15),cW 17 12 16] (aV 17 (aa [b7 4 (-1)] .ret) .skip)) (aa [cH (.mkmap 18 none),cH (.mput .i (.t 18) (dI 2) (dI 2)),cH (.mput .i (.t 18) (dI 3) (dI 2)),cH (.mput .i (.t 18) (dI 4) (dI 1)),cH (.mput .i (.t 18) (dI 5) (dI 1)),cH (.mput .i (.t 18) (dI 6) (dI 2)),I 19 18,aH 20 0 1 2,ax 21 1 20,bQ 22 (.mget .i (.int .i64 0) false (.t 19) (.t 21)),I 5 22] (.seq (aa [aH 23 0 1 2,ax 24 1 23] (.block 0 (.seq (aa [aQ 26 .eql 24 0,I 25 26] (aV 25 .skip (aa [aQ 27 .eql 24 1,I 25 27] (aV 25 .skip (aa [aQ 28 .eql 24 2,I 25 28] (aV 25 .skip (aa [aQ 29 .eql 24 3,I 25 29] (aV 25 .skip (aa [aQ 30 .eql 24 4,I 25 30] (aV 25 .skip (aa [aQ 31 .eql 24 5,I 25 31] (aV 25 .skip (.region [aQ 32 .eql 24 6,I 25 32]))))))))))))) (aV 25 (.seq (aa [aH 33 1 1 2,ax 34 1 33,bQ 35 (.bin .neq false (.t 34) (.c (.str []))),I 36 35,ar 36 false (aH 37 3 1 2),ar 36 false (ax 38 1 37),ar 36 false (cD 39 38),ar 36 false (aQ 40 .neq 39 0),cW 41 36 40,I 42 41,ar 42 false (aH 43 2 1 2),ar 42 false (ax 44 1 43),ar 42 false (cD 45 44),bU 42 false 46 5,ar 42 false (bF 47 .neq 45 46),cW 48 42 47,I 49 48,ar 49 false (aH 50 0 1 2),ar 49 false (ax 51 1 50),ar 49 false (aQ 52 .eql 51 6),bU 49 false 53 52,ar 53 true (aH 54 2 1 2),ar 53 true (ax 55 1 54),ar 53 true (gM 56 4 55 0),ar 53 true (aH 57 0 1 56),ar 53 true (ax 58 1 57),ar 53 true (aQ 59 .neq 58 2),ar 49 false (dv 60 53 59),cW 61 49 60] (aV 61 (aa [b7 4 (-1)] .ret) .skip)) (aa [b7 4 1] .ret)) (aa [aQ 63 .eql 24 9,I 62 63] (aV 62 (.seq (aa [aH 64 1 1 2,ax 65 1 64,cV 66 241 65,cB 67 66,I 68 67,ar 68 false (aH 69 3 1 2),ar 68 false (ax 70 1 69),ar 68 false (cD 71 70),ar 68 false (aQ 72 .neq 71 0),cW 73 68 72,I 74 73,ar 74 false (aH 75 2 1 2),ar 74 false (ax 76 1 75),ar 74 false (cD 77 76),ar 74 false (aQ 78 .gtr 77 4),cW 79 74 78] (aV 79 (aa [b7 4 (-1)] .ret) .skip)) (aa [b7 4 1] .ret)) (.seq (aa [aQ 81 .eql 24 7,I 80 81] (aV 80 .skip (.region [aQ 82 .eql 24 8,I 80 82]))) (aV 80 (aa [aH 83 1 1 2,ax 84 1 83,bQ 85 (.bin .neq false (.t 84) (.c (.str []))),I 86 85,ar 86 false (aH 87 2 1 2),ar 86 false (ax 88 1 87),ar 86 false (cD 89 88),ar 86 false (aQ 90 .neq 89 0),cW 91 86 90,I 92 91,ar 92 false (aH 93 3 1 2),ar 92 false (ax 94 1 93),ar 92 false (cD 95 94),ar 92 false (aQ 96 .gtr 95 8),cW 97 92 96] (aV 97 (aa [b7 4 (-1)] .ret) .skip)) (aa [aQ 99 .eql 24 10,I 98 99] (aV 98 (aa [aH 100 1 1 2,ax 101 1 100,bQ 102 (.bin .neq false (.t 101) (.c (.str []))),I 103 102,ar 103 false (aH 104 2 1 2),ar 103 false (ax 105 1 104),ar 103 false (cD 106 105),ar 103 false (aQ 107 .neq 106 0),cW 108 103 107,I 109 108,ar 109 false (aH 110 3 1 2),ar 109 false (ax 111 1 110),ar 109 false (cD 112 111),ar 109 false (aQ 113 .neq 112 1),cW 114 109 113,I 115 114,ar 115 false (aH 116 3 1 2),ar 115 false (ax 117 1 116),ar 115 false (gM 118 4 117 0),ar 115 false (aH 119 0 1 118),ar 115 false (ax 120 1 119),ar 115 false (aQ 121 .neq 120 9),cW 122 115 121] (aV 122 (aa [b7 4 (-1)] .ret) .skip)) (aa [b7 4 (-1)] .ret))))))))))) (aa [b7 6 1] (.seq (aa [aH 123 3 1 2,ax 124 1 123,cD 125 124,b7 126 0] (.block 1 (.loop (aa [bF 127 .lss 126 125] (.seq (aV 127 .skip (.exit 1)) (.seq (.block 2 (aa [cJ 128 4 124 126,a8 129 4 128,cH (.alloc 8 none (.agg [.int .i64 0,.str [],.slice 4 .nil [],.slice 4 .nil []])),bC 4 8 129] (aa [a8 130 4 8,I 131 1,I 132 6,bF 133 .sub 131 132,cg 134 185 130 133,I 9 134] (.seq (aa [I 135 9,aQ 136 .lss 135 0] (aV 136 (aa [b7 4 (-1)] .ret) .skip)) (.region [I 137 6,I 138 9,bF 139 .add 137 138,I 6 139]))))) (.region [aQ 140 .add 126 1,I 126 140]))))))) (aa [I 141 6,I 4 141] .ret)))))))
@[simp] def VK:List bY:=[.tmp 4]
def O4:C:=(aa [c3 2 0] (aa [I 6 1,a8 7 4 2,gp 8 6 [.t 7]] (aa [aH 9 3 1 2,ax 10 1 9,cD 11 10,b7 12 0] (fj 13 12 11 (.seq (.block 1 (aa [cJ 14 4 10 12,a8 15 4 14,cH (.alloc 5 none (.agg [.int .i64 0,.str [],.slice 4 .nil [],.slice 4 .nil []])),bC 4 5 15] (.region [a8 16 4 5,I 17 1,cg 18 186 16 17]))) (.region [aQ 19 .add 12 1,I 12 19]))))))
@[simp] def VD:List bY:=[]
def Pb:C:=(aa [c3 2 0] (aa [aH 5 2 1 2,ax 6 1 5,cD 7 6,b7 8 0] (fj 9 8 7 (.seq (.block 1 (aa [cJ 10 4 6 8,a8 11 4 10,da 4 dm,bC 4 4 11] (.region [a8 12 4 4,bQ 13 (.mkf 188 [.t 1]),cg 14 129 12 13]))) (.region [aQ 15 .add 8 1,I 8 15])))))
@[simp] def VM:List bY:=[]
def Pc:C:=(.region [ax 3 1 1,I 4 0,cH (.mput .i (.t 3) (.t 4) (.c (.bool true)))])
@[simp] def VN:List bY:=[]
def ln:List (Nat×dA):=[
 (3,⟨1,8,.int .i64,.int .i64 0⟩),
 (4,⟨1,1,.bool,.bool false⟩),
 (9,⟨1,16,.str,.str []⟩),
 (22,⟨1,24,.slice 5,.slice 1 .nil []⟩),
 (23,⟨1,24,.slice 61,.slice 5 .nil []⟩),
 (24,⟨1,24,.slice 23,.slice 1 .nil []⟩),
 (25,⟨1,24,.slice 104,.slice 2 .nil []⟩),
 (26,⟨1,24,.slice 106,.slice 2 .nil []⟩),
 (28,⟨5,104,.struct [(0,3),(1,23),(2,24),(3,25),(4,26)],.agg [.int .i64 0,.slice 5 .nil [],.slice 1 .nil [],.slice 2 .nil [],.slice 2 .nil []]⟩),
 (30,⟨1,24,.slice 32,.slice 4 .nil []⟩),
 (32,⟨4,56,.struct [(0,3),(1,3),(2,9),(3,30)],.agg [.int .i64 0,.int .i64 0,.str [],.slice 4 .nil []]⟩),
 (61,⟨5,64,.struct [(0,3),(1,32)],.agg [.int .i64 0,.int .i64 0,.int .i64 0,.str [],.slice 4 .nil []]⟩),
 (73,⟨1,24,.slice 75,.slice 4 .nil []⟩),
 (75,⟨4,72,.struct [(0,3),(1,9),(2,30),(3,73)],.agg [.int .i64 0,.str [],.slice 4 .nil [],.slice 4 .nil []]⟩),
 (112,⟨1,24,.slice 3,.slice 1 .nil []⟩),
 (154,⟨1,8,.map 3 4,.junk⟩),
 (182,⟨1,8,.map 3 3,.junk⟩)]
theorem fG:fN ay ln=true:=by kernel_rfl
theorem LM:ca ln EK VU 1 kL=true:=by kernel_rfl
theorem Jg:ay.funcs[(9:Nat)]? =some kL:=Tryz.func9
theorem aja:ca ln PW aky 2 Tryz.f39=true:=by kernel_rfl
theorem aci:ay.funcs[(39:Nat)]? =some Tryz.f39:=Tryz.func39
theorem ai9:ca ln PV V4 3 Tryz.f40=true:=by kernel_rfl
theorem ach:ay.funcs[(40:Nat)]? =some Tryz.f40:=Tryz.func40
theorem ahT:ca ln OE Vq 2 Tryz.f41=true:=by kernel_rfl
theorem aa1:ay.funcs[(41:Nat)]? =some Tryz.f41:=Tryz.func41
theorem ah5:ca ln OQ akd 2 Tryz.f42=true:=by kernel_rfl
theorem abd:ay.funcs[(42:Nat)]? =some Tryz.f42:=Tryz.func42
theorem yd:ca ln vm yl 1 Tryz.f43=true:=by kernel_rfl
theorem xl:ay.funcs[(43:Nat)]? =some Tryz.f43:=Tryz.func43
theorem Ar:ca ln xk yp 3 Tryz.f97=true:=by kernel_rfl
theorem zg:ay.funcs[(97:Nat)]? =some Tryz.f97:=Tryz.func97
theorem ajG:ca ln Qs Wh 2 Tryz.f98=true:=by kernel_rfl
theorem acQ:ay.funcs[(98:Nat)]? =some Tryz.f98:=Tryz.func98
theorem ahS:ca ln OD aj9 1 Tryz.f99=true:=by kernel_rfl
theorem aa0:ay.funcs[(99:Nat)]? =some Tryz.f99:=Tryz.func99
theorem ait:ca ln Pd L6 2 Tryz.f101=true:=by kernel_rfl
theorem abB:ay.funcs[(101:Nat)]? =some Tryz.f101:=Tryz.func101
theorem ahU:ca ln OF Vr 2 Tryz.f102=true:=by kernel_rfl
theorem aa2:ay.funcs[(102:Nat)]? =some Tryz.f102:=Tryz.func102
theorem aiI:ca ln Pt akm 2 Tryz.f103=true:=by kernel_rfl
theorem abQ:ay.funcs[(103:Nat)]? =some Tryz.f103:=Tryz.func103
theorem ah2:ca ln ON akc 1 Tryz.f104=true:=by kernel_rfl
theorem aba:ay.funcs[(104:Nat)]? =some Tryz.f104:=Tryz.func104
theorem nZ:ca ln mX pH 2 Tryz.f105=true:=by kernel_rfl
theorem nO:ay.funcs[(105:Nat)]? =some Tryz.f105:=Tryz.func105
theorem aiq:ca ln Pa VL 1 Tryz.f107=true:=by kernel_rfl
theorem aby:ay.funcs[(107:Nat)]? =some Tryz.f107:=Tryz.func107
theorem ajI:ca ln Qu akI 3 Tryz.f183=true:=by kernel_rfl
theorem acS:ay.funcs[(183:Nat)]? =some Tryz.f183:=Tryz.func183
theorem aip:ca ln O9 VK 2 Tryz.f185=true:=by kernel_rfl
theorem abx:ay.funcs[(185:Nat)]? =some Tryz.f185:=Tryz.func185
theorem aik:ca ln O4 VD 2 Tryz.f186=true:=by kernel_rfl
theorem abr:ay.funcs[(186:Nat)]? =some Tryz.f186:=Tryz.func186
theorem air:ca ln Pb VM 2 Tryz.f187=true:=by kernel_rfl
theorem abz:ay.funcs[(187:Nat)]? =some Tryz.f187:=Tryz.func187
theorem ais:ca ln Pc VN 2 Tryz.f188=true:=by kernel_rfl
theorem abA:ay.funcs[(188:Nat)]? =some Tryz.f188:=Tryz.func188
theorem xZ(S:aL->Prop):∀a b:List ai,aP S (a++b)↔aP S a/\aP S b
 |[],b=>by simp[aP]
 |x::r,b=>by simp only[bV,aP,xZ S r b,and_assoc]
def ME(r:List ak):ai:= .slice 5 .no (r.map ak.e)
@[simp]theorem aqP(r:List ak):eH (ME r)=true:=rfl
@[simp]theorem aqO(r:List ak):cells (ME r)=[ME r]:=rfl
def nP:Nat->Nat->dz->List ak
 |0,_,_=>[]
 |n+1,i,c=>⟨i,(dY 3 0 c).1⟩::nP n (i+1) (dY 3 0 c).2
def pj:Nat->dz->dz
 |0,c=>c
 |n+1,c=>pj n (dY 3 0 c).2
theorem RV:∀(n:Nat) {c:dz},c.ok->(pj n c).ok
 |0,_,h=>h
 |n+1,_,h=>RV n (E0 _ _ _ h)
theorem RU:∀(n i:Nat) (c:dz),(nP n i c).length=n
 |0,_,_=>rfl
 |n+1,i,c=>by simp[-bh,-be,nP,RU n]
theorem Fj:∀(n i:Nat) (c:dz),nP (n+1) i c=nP n i c++[⟨(i+n:Nat),(dY 3 0 (pj n c)).1⟩]
 |0,i,c=>by simp[-bh,-be,nP,pj]
 |n+1,i,c=>by rw[nP,Fj n (i+1)];simp[-bh,-be,nP,pj];omega
theorem Fk:∀(n:Nat) (c:dz),pj (n+1) c=(dY 3 0 (pj n c)).2
 |0,c=>rfl
 |n+1,c=>by rw[pj,Fk n];rfl
def agm(c:dz)(n:Nat)(k:Nat)(st:bo):Prop:=∃i:Nat,i<=n/\k=n-i/\st=⟨[(0,.ptr (.obj 401) 0),(1,.int .i64 n),(5,.slice 5 (.own (.loc 0)) ((nP i 0 c).map ak.e)),(6,.int .i64 i)],[(.obj 401,(pj i c).e)],[(.loc 0,⟨i,61,5,none⟩)],1,[.obj 401]⟩
theorem adA(n:Nat)(az:n<=1000000)(c:dz)(aq:c.ok):bJ ay 98 [.ptr (.obj 401) 0,.int .i64 n] (bK c) fun r ah=>r= .slice 5 .no ((nP n 0 c).map ak.e)/\ah=bK (pj n c):=by
 have af:=e5 c;refine bJ.mk mixed fG acQ ajG (by simp[-bh,-be]) af.obj fun aR cE=>?_;unfold Qs;unfold bK;simp[-bh,-be];refine mZ (agm c n) n _ ⟨by simp[-bh,-be,fresh,aP,aJ,cx,inObs,Pv.look,qV,nP,pj],eS (by simp[-bh,-be,fresh,aP,aJ,cx,inObs,Pv.look,qV,nP,pj]),eT (by simp[-bh,-be,fresh,aP,aJ,et,inObs,Pv.look,qV,nP,pj]),by simp[-bh,-be]⟩ ⟨0,Ω,rfl,rfl⟩ ?_;rintro k st ⟨i,hi,ad,rfl⟩ jf cE;clear jf cE;simp[-bh,-be];(with_reducible repeat' first|((first|apply bD|apply bH|apply bG)<;>intro h<;>try simp[-bh,-be]at h)|refine aj ?_|simp[-bh,-be])
 ·(refine cA.ob (Jw 0 Ω 3 Ω _ (RV i aq)) (e5 _) bv bv dl ?_;rintro r ah ⟨rfl,rfl⟩;refine⟨fT _ _,?_⟩;unfold bK;simp[-bh,-be,bX]);simp[-bh,-be,RU];refine⟨by unfold lim;omega,?_⟩;(with_reducible repeat' first|((first|apply bD|apply bH|apply bG)<;>intro h<;>try simp[-bh,-be]at h)|refine aj ?_|simp[-bh,-be]);refine bR.next (n-(i+1)) Ω ⟨i+1,Ω,rfl,rfl⟩ ⟨by simp[-bh,-be,fresh,aP,aJ,cx,inObs,Pv.look,qV,Fj,Fk,xZ],eS (by simp[-bh,-be,fresh,aP,aJ,cx,inObs,Pv.look,qV,Fj,Fk,xZ]),eT (by simp[-bh,-be,fresh,aP,aJ,et,inObs,Pv.look,qV,Fj,Fk,xZ]),by simp[-bh,-be]⟩
 ·obtain rfl:i=n:=Ω
  (refine cI.at (bK (pj i c)) (.inl rfl) (e5 _) (fT _ _) bv bv ?_;simp[-bh,-be,cL,Wh,aT,aU,aS,bK])
theorem amg(d:List Int)(aG:sL d)(au:d.length<=10000000)(n:Nat)(az:n<=1000000)(k:Nat)(ad:k<=1000000):bZ ay 40 [.slice 1 .no (hZ d),.int .i64 n,.int .i64 k] (.slice 5 .no ((nP k 0 (pS d n)).map ak.e)):=by refine bE fG ach ai9 fun aR=>?_;unfold PV;simp[-bh,-be];refine cA.new (RI d aG au n az) ((dN.of ⟨by intro m;simp[-bh,-be,Pv.look],by intro m;simp[-bh,-be,Pv.look]⟩ (by simp[-bh,-be,aP,aJ,inObs,Pv.look]) (by simp[-bh,-be,aP,aJ,inObs,Pv.look]))) aE aE (by simp[-bh,-be]) ?_;rintro r ah ⟨rfl,rfl⟩;refine⟨fun m _=>.inr (by simp[-bh,-be]),?_⟩;unfold bK;simp[-bh,-be,bX];(refine cA.ob (adA k ad _ (QF aG au n)) (e5 _) bv bv dl ?_;rintro r ah ⟨rfl,rfl⟩;refine⟨fT _ _,?_⟩;unfold bK;simp[-bh,-be,bX]);simp[-bh,-be,bn,V4,aT,aU,aS]
def fA(kd:Int)(a b:T):List T:=if kd=0 then []else if kd=1 then []else if kd=2 then [a,b]else if kd=3 then [a,b]else if kd=4 then [a]else if kd=5 then [a]else [.sym [97],b]
def ju(kd:Int)(a b:T):ai:= .agg [.int .i64 kd,.str [],.slice 4 .no ((fA kd a b).map T.e),.slice 4 .no []]
def pX(k j:Int):Int:=if k<9 then 2 else if k=9 then 4 else if k=10 then 5 else if k=11 then 6 else if k=12 then j.tdiv 7 else 3
def q4(c:dz):Int×T×T:=(pX ((dY 4 3 (dY 1 3 c).2).2.below 16) (((dY 4 3 (dY 1 3 c).2).2.belowC 16).below 8),(dY 1 3 c).1,(dY 4 3 (dY 1 3 c).2).1)
def WT(c:dz):dz:=if(dY 4 3 (dY 1 3 c).2).2.below 16=12 then((dY 4 3 (dY 1 3 c).2).2.belowC 16).belowC 8 else(dY 4 3 (dY 1 3 c).2).2.belowC 16
theorem ade{k j:Int}(bA:0<=j)(J:j<8):0<=pX k j/\pX k j<=6:=by
 have:j.tdiv 7=0\/j.tdiv 7=1:=by obtain⟨n,rfl⟩:∃n:Nat,j=n:=⟨j.toNat,Ω⟩;rcases(by omega:n=0\/n=1\/n=2\/n=3\/n=4\/n=5\/n=6\/n=7)with rfl|rfl|rfl|rfl|rfl|rfl|rfl|rfl<;>first|exact .inl rfl|exact .inr rfl
 unfold pX;repeat' split
 all_goals omega
theorem ali{c:dz}:0<=(q4 c).1/\(q4 c).1<=6:=by have ag:=((dY 4 3 (dY 1 3 c).2).2.belowC 16).below_le 8 Ω;exact ade ag.1 ag.2
theorem alg(c:dz):jU 3 (q4 c).2.1:=IX (n:=3) Ω (z:=1) Ω c
theorem alh(c:dz):jU 3 (q4 c).2.2:=IX (n:=3) Ω (z:=4) Ω _
theorem A8(kd:Int)(l:List T):bZ ay 183 [.int .i64 kd,.slice 4 .no (l.map T.e),.slice 4 .no []] (.agg [.int .i64 kd,.str [],.slice 4 .no (l.map T.e),.slice 4 .no []]):=by refine bE fG acS ajI fun aR=>?_;unfold Qu;exact c0
theorem adB(c:dz)(aq:c.ok):bJ ay 97 [.ptr (.obj 401) 0,.int .i64 3,.bool false] (bK c) fun r ah=>r=ju (q4 c).1 (q4 c).2.1 (q4 c).2.2/\ah=bK (WT c):=by
 have af:=e5 c;have fs:=Jw 3 Ω 1 Ω c aq;have rM:=E0 1 3 c aq;have mL:=Jw 3 Ω 4 Ω _ rM;have oC:=E0 4 3 _ rM;have di:=BU _ oC 16;have ab:=((dY 4 3 (dY 1 3 c).2).2).below_le 16 Ω;have oD:=oC.below 16;have gC:=BU _ oD 8;have ag:=((dY 4 3 (dY 1 3 c).2).2.belowC 16).below_le 8 Ω;unfold q4 WT;generalize dY 1 3 c=eR at*;obtain⟨a,bT⟩:=eR;simp only at*;generalize dY 4 3 bT=fM at*;obtain⟨b,cv⟩:=fM;simp only at*;generalize cv.below 16=k at*;generalize cv.belowC 16=dj at*;generalize dj.below 8=j at*;generalize dj.belowC 8=ks at*;have c9:=Nq [97];have m2:=A8 2 [a,b];have m3:=A8 3 [a,b];have m4:=A8 4 [a];have m5:=A8 5 [a];have m6:=A8 6 [.sym [97],b];have m0:=A8 (j.tdiv 7) [];simp only[eO,hn]at m0 m2 m3 m4 m5 m6;have xA:j.tdiv 7=0\/j.tdiv 7=1:=by obtain⟨n,rfl⟩:∃n:Nat,j=n:=⟨j.toNat,Ω⟩;rcases(by omega:n=0\/n=1\/n=2\/n=3\/n=4\/n=5\/n=6\/n=7)with rfl|rfl|rfl|rfl|rfl|rfl|rfl|rfl<;>first|exact .inl rfl|exact .inr rfl
 have kt:k=12->ju (pX k j) a b= .agg [.int .i64 (j.tdiv 7),.str [],.slice 4 .no [],.slice 4 .no []]:=fun h=>by subst h;rw[show pX 12 j=j.tdiv 7 from rfl];rcases xA with h|h<;>rw[h]<;>rfl
 have Y2:k<9\/k=9\/k=10\/k=11\/k=12\/12<k:=Ω
 rcases Y2 with ad|rfl|rfl|rfl|rfl|ad
 ·rw[show ju (pX k j) a b= .agg [.int .i64 2,.str [],.slice 4 .no [a.e,b.e],.slice 4 .no []] by unfold pX;rw[if_pos ad];rfl,if_neg (show¬k=12 by omega)];clear rM oC oD ag xA kt m0 m3 m4 m5 m6 gC;refine bJ.mk mixed fG zg Ar (by simp[-bh,-be]) af.obj fun aR cE=>?_;unfold xk;unfold bK;simp[-bh,-be];(refine cA.ob (fs) (e5 _) bv bv dl ?_;rintro r ah ⟨rfl,rfl⟩;refine⟨fT _ _,?_⟩;unfold bK;simp[-bh,-be,bX]);((with_reducible repeat' first|refine aj ?_|simp[-bh,-be]|((first|apply bD|apply bH|apply bG)<;>intro h<;>try simp[-bh,-be]at h))<;>(try exact b2));(refine cA.ob (mL) (e5 _) bv bv dl ?_;rintro r ah ⟨rfl,rfl⟩;refine⟨fT _ _,?_⟩;unfold bK;simp[-bh,-be,bX]);((with_reducible repeat' first|refine aj ?_|simp[-bh,-be]|((first|apply bD|apply bH|apply bG)<;>intro h<;>try simp[-bh,-be]at h))<;>(try exact b2));(refine cA.ob (di) (e5 _) bv bv dl ?_;rintro r ah ⟨rfl,rfl⟩;refine⟨fT _ _,?_⟩;unfold bK;simp[-bh,-be,bX]);(with_reducible repeat' first|refine aj ?_|refine aC m2 ?_|refine aD m2 ?_|simp[-bh,-be,ad]);(refine cI.at (bK (dj)) (.inl rfl) (e5 _) (fT _ _) bv bv ?_;simp[-bh,-be,cL,yp,aT,aU,aS,bK])
 ·rw[show ju (pX 9 j) a b= .agg [.int .i64 4,.str [],.slice 4 .no [a.e],.slice 4 .no []]from rfl,if_neg (show¬(9:Int)=12 by omega)];clear rM oC oD ag xA kt m0 m3 m2 m5 m6 gC;refine bJ.mk mixed fG zg Ar (by simp[-bh,-be]) af.obj fun aR cE=>?_;unfold xk;unfold bK;simp[-bh,-be];(refine cA.ob (fs) (e5 _) bv bv dl ?_;rintro r ah ⟨rfl,rfl⟩;refine⟨fT _ _,?_⟩;unfold bK;simp[-bh,-be,bX]);((with_reducible repeat' first|refine aj ?_|simp[-bh,-be]|((first|apply bD|apply bH|apply bG)<;>intro h<;>try simp[-bh,-be]at h))<;>(try exact b2));(refine cA.ob (mL) (e5 _) bv bv dl ?_;rintro r ah ⟨rfl,rfl⟩;refine⟨fT _ _,?_⟩;unfold bK;simp[-bh,-be,bX]);((with_reducible repeat' first|refine aj ?_|simp[-bh,-be]|((first|apply bD|apply bH|apply bG)<;>intro h<;>try simp[-bh,-be]at h))<;>(try exact b2));(refine cA.ob (di) (e5 _) bv bv dl ?_;rintro r ah ⟨rfl,rfl⟩;refine⟨fT _ _,?_⟩;unfold bK;simp[-bh,-be,bX]);(with_reducible repeat' first|refine aj ?_|refine aC m4 ?_|refine aD m4 ?_|simp[-bh,-be]);(refine cI.at (bK (dj)) (.inl rfl) (e5 _) (fT _ _) bv bv ?_;simp[-bh,-be,cL,yp,aT,aU,aS,bK])
 ·rw[show ju (pX 10 j) a b= .agg [.int .i64 5,.str [],.slice 4 .no [a.e],.slice 4 .no []]from rfl,if_neg (show¬(10:Int)=12 by omega)];clear rM oC oD ag xA kt m0 m3 m2 m4 m6 gC;refine bJ.mk mixed fG zg Ar (by simp[-bh,-be]) af.obj fun aR cE=>?_;unfold xk;unfold bK;simp[-bh,-be];(refine cA.ob (fs) (e5 _) bv bv dl ?_;rintro r ah ⟨rfl,rfl⟩;refine⟨fT _ _,?_⟩;unfold bK;simp[-bh,-be,bX]);((with_reducible repeat' first|refine aj ?_|simp[-bh,-be]|((first|apply bD|apply bH|apply bG)<;>intro h<;>try simp[-bh,-be]at h))<;>(try exact b2));(refine cA.ob (mL) (e5 _) bv bv dl ?_;rintro r ah ⟨rfl,rfl⟩;refine⟨fT _ _,?_⟩;unfold bK;simp[-bh,-be,bX]);((with_reducible repeat' first|refine aj ?_|simp[-bh,-be]|((first|apply bD|apply bH|apply bG)<;>intro h<;>try simp[-bh,-be]at h))<;>(try exact b2));(refine cA.ob (di) (e5 _) bv bv dl ?_;rintro r ah ⟨rfl,rfl⟩;refine⟨fT _ _,?_⟩;unfold bK;simp[-bh,-be,bX]);(with_reducible repeat' first|refine aj ?_|refine aC m5 ?_|refine aD m5 ?_|simp[-bh,-be]);(refine cI.at (bK (dj)) (.inl rfl) (e5 _) (fT _ _) bv bv ?_;simp[-bh,-be,cL,yp,aT,aU,aS,bK])
 ·rw[show ju (pX 11 j) a b= .agg [.int .i64 6,.str [],.slice 4 .no [(T.sym [97]).e,b.e],.slice 4 .no []]from rfl,if_neg (show¬(11:Int)=12 by omega)];clear rM oC oD ag xA kt m0 m3 m2 m4 m5 gC;refine bJ.mk mixed fG zg Ar (by simp[-bh,-be]) af.obj fun aR cE=>?_;unfold xk;unfold bK;simp[-bh,-be];(refine cA.ob (fs) (e5 _) bv bv dl ?_;rintro r ah ⟨rfl,rfl⟩;refine⟨fT _ _,?_⟩;unfold bK;simp[-bh,-be,bX]);((with_reducible repeat' first|refine aj ?_|simp[-bh,-be]|((first|apply bD|apply bH|apply bG)<;>intro h<;>try simp[-bh,-be]at h))<;>(try exact b2));(refine cA.ob (mL) (e5 _) bv bv dl ?_;rintro r ah ⟨rfl,rfl⟩;refine⟨fT _ _,?_⟩;unfold bK;simp[-bh,-be,bX]);((with_reducible repeat' first|refine aj ?_|simp[-bh,-be]|((first|apply bD|apply bH|apply bG)<;>intro h<;>try simp[-bh,-be]at h))<;>(try exact b2));(refine cA.ob (di) (e5 _) bv bv dl ?_;rintro r ah ⟨rfl,rfl⟩;refine⟨fT _ _,?_⟩;unfold bK;simp[-bh,-be,bX]);(with_reducible repeat' first|refine aj ?_|refine aC c9 ?_|refine aD c9 ?_|refine aC m6 ?_|refine aD m6 ?_|simp[-bh,-be]);(refine cI.at (bK (dj)) (.inl rfl) (e5 _) (fT _ _) bv bv ?_;simp[-bh,-be,cL,yp,aT,aU,aS,bK])
 ·rw[kt rfl,if_pos rfl];have hw:mj.wrap (j.tdiv 7)=j.tdiv 7:=by rcases xA with h|h<;>rw[h]<;>rfl
  clear rM oC oD kt m2 m3 m4 m5 m6;refine bJ.mk mixed fG zg Ar (by simp[-bh,-be]) af.obj fun aR cE=>?_;unfold xk;unfold bK;simp[-bh,-be];(refine cA.ob (fs) (e5 _) bv bv dl ?_;rintro r ah ⟨rfl,rfl⟩;refine⟨fT _ _,?_⟩;unfold bK;simp[-bh,-be,bX]);((with_reducible repeat' first|refine aj ?_|simp[-bh,-be]|((first|apply bD|apply bH|apply bG)<;>intro h<;>try simp[-bh,-be]at h))<;>(try exact b2));(refine cA.ob (mL) (e5 _) bv bv dl ?_;rintro r ah ⟨rfl,rfl⟩;refine⟨fT _ _,?_⟩;unfold bK;simp[-bh,-be,bX]);((with_reducible repeat' first|refine aj ?_|simp[-bh,-be]|((first|apply bD|apply bH|apply bG)<;>intro h<;>try simp[-bh,-be]at h))<;>(try exact b2));(refine cA.ob (di) (e5 _) bv bv dl ?_;rintro r ah ⟨rfl,rfl⟩;refine⟨fT _ _,?_⟩;unfold bK;simp[-bh,-be,bX]);(with_reducible repeat' first|refine aj ?_|simp[-bh,-be]);(refine cA.ob (gC) (e5 _) bv bv dl ?_;rintro r ah ⟨rfl,rfl⟩;refine⟨fT _ _,?_⟩;unfold bK;simp[-bh,-be,bX]);(with_reducible repeat' first|refine aj ?_|refine aC m0 ?_|refine aD m0 ?_|simp[-bh,-be,hw]);(refine cI.at (bK (ks)) (.inl rfl) (e5 _) (fT _ _) bv bv ?_;simp[-bh,-be,cL,yp,aT,aU,aS,bK])
 ·rw[show ju (pX k j) a b= .agg [.int .i64 3,.str [],.slice 4 .no [a.e,b.e],.slice 4 .no []] by unfold pX;rw[if_neg Ω,if_neg Ω,if_neg Ω,if_neg Ω,if_neg Ω];rfl,if_neg (show¬k=12 by omega)];have aj6:¬k<9:=Ω
  have aZ:(k==9)=false:=by simp[-bh,-be];omega
  have bm:(k==10)=false:=by simp[-bh,-be];omega
  have bP:(k==11)=false:=by simp[-bh,-be];omega
  have cP:(k==12)=false:=by simp[-bh,-be];omega
  clear rM oC oD ag xA kt m0 m2 m4 m5 m6 gC;refine bJ.mk mixed fG zg Ar (by simp[-bh,-be]) af.obj fun aR cE=>?_;unfold xk;unfold bK;simp[-bh,-be];(refine cA.ob (fs) (e5 _) bv bv dl ?_;rintro r ah ⟨rfl,rfl⟩;refine⟨fT _ _,?_⟩;unfold bK;simp[-bh,-be,bX]);((with_reducible repeat' first|refine aj ?_|simp[-bh,-be]|((first|apply bD|apply bH|apply bG)<;>intro h<;>try simp[-bh,-be]at h))<;>(try exact b2));(refine cA.ob (mL) (e5 _) bv bv dl ?_;rintro r ah ⟨rfl,rfl⟩;refine⟨fT _ _,?_⟩;unfold bK;simp[-bh,-be,bX]);((with_reducible repeat' first|refine aj ?_|simp[-bh,-be]|((first|apply bD|apply bH|apply bG)<;>intro h<;>try simp[-bh,-be]at h))<;>(try exact b2));(refine cA.ob (di) (e5 _) bv bv dl ?_;rintro r ah ⟨rfl,rfl⟩;refine⟨fT _ _,?_⟩;unfold bK;simp[-bh,-be,bX]);(with_reducible repeat' first|refine aj ?_|refine aC m3 ?_|refine aD m3 ?_|simp[-bh,-be,aj6,aZ,bm,bP,cP]);(refine cI.at (bK (dj)) (.inl rfl) (e5 _) (fT _ _) bv bv ?_;simp[-bh,-be,cL,yp,aT,aU,aS,bK])
theorem amh(d:List Int)(aG:sL d)(au:d.length<=10000000)(n:Nat)(az:n<=1000000):bZ ay 39 [.slice 1 .no (hZ d),.int .i64 n] (ju (q4 (pS d n)).1 (q4 (pS d n)).2.1 (q4 (pS d n)).2.2):=by have c9:=adB _ (QF aG au n);unfold ju at c9⊢;refine bE fG aci aja fun aR=>?_;unfold PW;simp[-bh,-be];refine cA.new (RI d aG au n az) ((dN.of ⟨by intro m;simp[-bh,-be,Pv.look],by intro m;simp[-bh,-be,Pv.look]⟩ (by simp[-bh,-be,aP,aJ,inObs,Pv.look]) (by simp[-bh,-be,aP,aJ,inObs,Pv.look]))) aE aE (by simp[-bh,-be]) ?_;rintro r ah ⟨rfl,rfl⟩;refine⟨fun m _=>.inr (by simp[-bh,-be]),?_⟩;unfold bK;simp[-bh,-be,bX];(refine cA.ob (c9) (e5 _) bv bv dl ?_;rintro r ah ⟨rfl,rfl⟩;refine⟨fT _ _,?_⟩;unfold bK;simp[-bh,-be,bX]);exact c0
theorem RA{kd:Int}{a b:T}(a7:a.fit=true)(ab:b.fit=true):∀t∈fA kd a b,t.fit=true:=fun t aI=>by
 unfold fA at aI;have af:(T.sym [97]).fit=true:=by decide
 repeat' split at aI
 all_goals simp at aI
 all_goals(first|(rcases aI with rfl|rfl<;>assumption)|(subst aI;assumption))
theorem BT(kd:Int)(a b:T):(fA kd a b).length<=2:=by
 unfold fA;repeat' split
 all_goals simp
theorem KS{kd:Int}(h:0<=kd/\kd<=6):kd=0\/kd=1\/kd=2\/kd=3\/kd=4\/kd=5\/kd=6:=Ω
theorem alN:ma hL.i (.int .i64 0) false (some (iv (gI 6 (.int .i64 2) (gI 5 (.int .i64 1) (gI 4 (.int .i64 1) (gI 3 (.int .i64 2) (gI 2 (.int .i64 2) []))))))) (.int .i64 0)=some (True,.int .i64 0):=by unfold ma;rw[wo _ _ _ _ false 0 rfl];rfl
theorem alO:ma hL.i (.int .i64 0) false (some (iv (gI 6 (.int .i64 2) (gI 5 (.int .i64 1) (gI 4 (.int .i64 1) (gI 3 (.int .i64 2) (gI 2 (.int .i64 2) []))))))) (.int .i64 1)=some (True,.int .i64 0):=by unfold ma;rw[wo _ _ _ _ false 1 rfl];rfl
theorem alP:ma hL.i (.int .i64 0) false (some (iv (gI 6 (.int .i64 2) (gI 5 (.int .i64 1) (gI 4 (.int .i64 1) (gI 3 (.int .i64 2) (gI 2 (.int .i64 2) []))))))) (.int .i64 2)=some (True,.int .i64 2):=by unfold ma;rw[wo _ _ _ _ false 2 rfl];rfl
theorem alQ:ma hL.i (.int .i64 0) false (some (iv (gI 6 (.int .i64 2) (gI 5 (.int .i64 1) (gI 4 (.int .i64 1) (gI 3 (.int .i64 2) (gI 2 (.int .i64 2) []))))))) (.int .i64 3)=some (True,.int .i64 2):=by unfold ma;rw[wo _ _ _ _ false 3 rfl];rfl
theorem alR:ma hL.i (.int .i64 0) false (some (iv (gI 6 (.int .i64 2) (gI 5 (.int .i64 1) (gI 4 (.int .i64 1) (gI 3 (.int .i64 2) (gI 2 (.int .i64 2) []))))))) (.int .i64 4)=some (True,.int .i64 1):=by unfold ma;rw[wo _ _ _ _ false 4 rfl];rfl
theorem alS:ma hL.i (.int .i64 0) false (some (iv (gI 6 (.int .i64 2) (gI 5 (.int .i64 1) (gI 4 (.int .i64 1) (gI 3 (.int .i64 2) (gI 2 (.int .i64 2) []))))))) (.int .i64 5)=some (True,.int .i64 1):=by unfold ma;rw[wo _ _ _ _ false 5 rfl];rfl
theorem alT:ma hL.i (.int .i64 0) false (some (iv (gI 6 (.int .i64 2) (gI 5 (.int .i64 1) (gI 4 (.int .i64 1) (gI 3 (.int .i64 2) (gI 2 (.int .i64 2) []))))))) (.int .i64 6)=some (True,.int .i64 2):=by unfold ma;rw[wo _ _ _ _ false 6 rfl];rfl
set_option maxRecDepth 8000 in
theorem amv{kd:Int}(ad:0<=kd/\kd<=6){a b:T}(a7:a.fit=true)(ab:b.fit=true):bZ ay 185 [ju kd a b,.int .i64 80] (.int .i64 1):=by
 have du:=am4 (fA kd a b) (RA a7 ab);have g0:fA 0 a b=[]:=rfl;have g1:fA 1 a b=[]:=rfl;have g2:fA 2 a b=[a,b]:=rfl;have g3:fA 3 a b=[a,b]:=rfl;have g4:fA 4 a b=[a]:=rfl;have g5:fA 5 a b=[a]:=rfl;have g6:fA 6 a b=[.sym [97],b]:=rfl;have hI:(T.sym [97]).e= .agg [.int .i64 2,.int .i64 0,.str [97],.slice 4 .no []]:=rfl;unfold ju;clear a7 ab;rcases KS ad with rfl|rfl|rfl|rfl|rfl|rfl|rfl;all_goals simp only[g0,g1,g2,g3,g4,g5,g6,eO,hn]at du⊢
 all_goals clear g0 g1 g2 g3 g4 g5 g6 ad
 all_goals refine bE fG abx aip fun aR=>?_;unfold O9
 all_goals clear aR
 all_goals(try simp)
 all_goals(with_reducible repeat' first|refine aj ?_|refine aC du ?_|refine aD du ?_|simp[alN,alO,alP,alQ,alR,alS,alT])
 all_goals simp[bn,VK,aT,aU,aS]
theorem Nl{kd:Int}(ad:0<=kd/\kd<=6){a b:T}(a7:a.fit=true)(ab:b.fit=true):bZ ay 99 [ju kd a b] (.bool true):=by have aX:=amv ad a7 ab;unfold ju at aX⊢;refine bE fG aa0 ahS fun aR=>?_;unfold OD;clear aR;exact c0
theorem adu(v:Int)(l:List Int):bJ ay 188 [.int .i64 v,.ptr (.obj 305) 0] (gP l) fun r ah=>r= .tuple []/\ah=gP (nH v l):=by have af:=sE l;have eL:=sE (nH v l);have dT:=yT l (nH v l);unfold gP at af eL dT⊢;refine bJ.mk mixed fG abA ais Ψ af.obj fun aR cE=>?_;unfold Pc;simp;refine cI.at _ (.inr rfl) eL dT aE aE ?_;simp[cL,VN,aT,aU,aS]
def jV(ea:List T):List Int:=ea.foldl (fun l t=>t.fold nH l) []
theorem ad8{ea:List T}{i:Nat}{t:T}(h:ea[i]? =some t):jV (ea.take (i+1))=t.fold nH (jV (ea.take i)):=by rw[List.take_succ,h];simp[jV,List.foldl_append]
theorem adt(kd:Int)(ea:List T)(CF:ea.length<=2):bJ ay 187 [.agg [.int .i64 kd,.str [],.slice 4 .no (ea.map T.e),.slice 4 .no []],.ptr (.obj 305) 0] (gP []) fun r ah=>r= .tuple []/\ah=gP (jV ea):=by
 have af:=sE [];have eL:=sE (jV ea);have dT:=yT [] (jV ea);have aW:=fun(t:T) (l:List Int)=>Jv gP sE yT 188 [.ptr (.obj 305) 0] (by intro a;simp[inObs,gP,Pv.look,aP,aJ]) Ψ nH adu t l;unfold gP at af;refine bJ.mk mixed fG abz air Ψ af.obj fun aR cE=>?_;unfold Pb;unfold gP;simp;(with_reducible repeat' first|refine aj ?_|simp);refine ik (fun i (_:Unit)=>⟨[(1,.ptr (.obj 305) 0),(6,.slice 4 .no (ea.map T.e)),(7,.int .i64 ea.length),(8,.int .i64 i)],(gP (jV (ea.take i))).b,[],0,[.obj 304,.obj 305]⟩) ea.length (fun _ _=>True) () (by simp[gP,jV];exact⟨by simp[fresh,aP,aJ,cx,inObs,Pv.look,jk],eS (by simp[fresh,aP,aJ,cx,inObs,Pv.look,jk]),eT (by simp[fresh,aP,aJ,et,inObs,Pv.look,jk]),Ψ⟩) trivial (fun _ _ _=>?_) (fun i _ hi _ _=>?_)
 ·simp only[oZ,gP]at eL dT⊢;simp;(with_reducible repeat' first|refine aj ?_|simp);all_goals refine cI.at _ (.inr rfl) eL dT aE aE ?_
  all_goals simp[cL,VM,aT,aU,aS]
 ·obtain⟨b,ab,cq⟩:=fb hi;have tn:=aW b (jV (ea.take i));rw[<-ad8 ab]at tn;clear aW eL dT;simp only[gP];simp[hi,cq];(with_reducible repeat' first|refine aj ?_|simp[hi,cq]);refine cA.ob tn (sE _) (by unfold gP;exact aE) (by unfold gP;exact aE) (by simp[inObs,gP,Pv.look]) ?_;rintro r ah ⟨rfl,rfl⟩;refine⟨yT _ _,?_⟩;unfold gP;simp[bX];(with_reducible repeat' first|refine aj ?_|simp);all_goals refine bR.rng () hi trivial (by simp[gP];exact⟨by simp[fresh,aP,aJ,cx,inObs,Pv.look,jk],eS (by simp[fresh,aP,aJ,cx,inObs,Pv.look,jk]),eT (by simp[fresh,aP,aJ,et,inObs,Pv.look,jk]),Ψ⟩)
theorem adr(kd:Int)(ea:List T)(CF:ea.length<=2):bJ ay 186 [.agg [.int .i64 kd,.str [],.slice 4 .no (ea.map T.e),.slice 4 .no []],.func 187 [.ptr (.obj 305) 0]] (gP []) fun r ah=>r= .tuple []/\ah=gP (jV ea):=by
 have af:=sE [];have eL:=sE (jV ea);have dT:=yT [] (jV ea);have tn:=adt kd ea CF;unfold gP at af;refine bJ.mk mixed fG abr aik Ψ af.obj fun aR cE=>?_;unfold O4;unfold gP;simp;(with_reducible repeat' first|refine aj ?_|simp);refine cA.ob tn (sE _) (by unfold gP;exact aE) (by unfold gP;exact aE) (by simp[inObs,gP,Pv.look]) ?_;rintro r ah ⟨rfl,rfl⟩;refine⟨dT,?_⟩;unfold gP;simp[bX];(with_reducible repeat' first|refine aj ?_|simp);refine ik (fun i (_:Unit)=>⟨[(1,.func 187 [.ptr (.obj 305) 0]),(10,.slice 4 .no []),(11,.int .i64 0),(12,.int .i64 i)],(gP (jV ea)).b,[],0,[.obj 304,.obj 305]⟩) 0 (fun _ _=>True) () (by simp[gP];exact⟨by simp[fresh,aP,aJ,cx,inObs,Pv.look,jk],eS (by simp[fresh,aP,aJ,cx,inObs,Pv.look,jk]),eT (by simp[fresh,aP,aJ,et,inObs,Pv.look,jk]),Ψ⟩) trivial (fun _ _ _=>?_) (fun i _ hi _ _=>absurd hi Ω);simp only[gP]at eL dT⊢;simp;(with_reducible repeat' first|refine aj ?_|simp);all_goals refine cI.at _ (.inr rfl) eL dT aE aE ?_
 all_goals simp[cL,VD,aT,aU,aS]
theorem Xu(kd:Int)(ea:List T)(CF:ea.length<=2)(au:(jV ea).length<=1000000):bZ ay 107 [.agg [.int .i64 kd,.str [],.slice 4 .no (ea.map T.e),.slice 4 .no []]] (.slice 1 .no (dX (mf (jV ea)))):=by have tn:=adr kd ea CF;have cc:=RM (jV ea) au;refine bE fG aby aiq fun aR=>?_;unfold Pa;clear aR;simp;(with_reducible repeat' first|refine aj ?_|simp);refine cA.ob tn (sE _) (by unfold gP;exact aE) (by unfold gP;exact aE) (by simp[inObs,gP,Pv.look]) ?_;rintro r ah ⟨rfl,rfl⟩;refine⟨yT _ _,?_⟩;unfold gP;simp[bX];refine cA.ob cc (HZ _) (by unfold pP;exact aE) (by unfold pP;exact aE) (by simp[inObs,pP,Pv.look]) ?_;rintro r ah ⟨rfl,rfl⟩;refine⟨Same.refl _,?_⟩;unfold pP;simp[bX];simp[bn,VL,aT,aU,aS]
theorem R0{ea:List T}(aO:∀t∈ea,t.fit=true)(au:ea.length<=2):(jV ea).length<=1000000:=by
 have bW:∀t∈ea,t.size<=5000:=fun t aI=>by have:=aO t aI;simp only[T.fit,ct,eF]at this;exact this.2
 match ea,au with
 |[],_=>simp[jV]
 |[x],_=>have J:=Jq x [];have U:=bW x Ψ;simp only[jV,List.foldl_cons,List.foldl_nil];simp only[List.length_nil]at J;omega
 |[x,y],_=>have J:=Jq x [];have U:=Jq y (x.fold nH []);have al:=bW x Ψ;have a1:=bW y Ψ;simp only[jV,List.foldl_cons,List.foldl_nil];simp only[List.length_nil]at J;omega
 |_::_::_::_,h=>simp at h
theorem ac6(t:T):∀(l:List Int) (v:Int),v∈t.fold nH l->v∈l\/t.occ v=true:=by
 induction t with
 |var n=>
  intro l v h;simp only[T.fold,nH]at h;split at h
  ·exact .inl h
  ·simp only[h9,kg]at h;rcases h with h|h
   ·exact .inl h
   ·right;subst h;simp[T.occ]
 |pair a b dB dC=>
  intro l v h;simp only[T.fold]at h;rcases dC _ _ h with h|h
  ·rcases dB _ _ h with h|h
   ·exact .inl h
   ·right;simp[T.occ,h]
  ·right;simp[T.occ,h]
 |_=>intro l v h;exact .inl h
theorem JH:∀(ea:List T) (l:List Int) (v:Int),v∈ea.foldl (fun l t=>t.fold nH l) l->v∈l\/ ∃t∈ea,t.occ v=true
 |[],_,_,h=>.inl h
 |t::ea,l,v,h=>by
  rcases JH ea _ v h with h|⟨x,ae,h⟩
  ·rcases ac6 t l v h with h|h
   ·exact .inl h
   ·exact .inr ⟨t,Ψ,h⟩
  ·exact .inr ⟨x,by simp[ae],h⟩
theorem ahc{l:List Int}{v:Int}:v∈mf l↔v∈l:=(List.mergeSort_perm l _).mem_iff
theorem am5{kd:Int}{a b:T}(a7:jU 3 a)(ab:jU 3 b):bZ ay 103 [ju kd a b,.int .i64 3] (.bool true):=by
 have aO:=RA (kd:=kd) a7.f ab.f;have gi:=Xu kd (fA kd a b) (BT kd a b) (R0 aO (BT kd a b));have bt:∀v∈mf (jV (fA kd a b)),v<3:=fun v av=>by
  rcases JH _ _ _ (ahc.1 av)with h|⟨t,aI,h⟩
  ·cases h
  ·unfold fA at aI;repeat' split at aI
   all_goals simp at aI
   all_goals first
    |(rcases aI with rfl|rfl<;>first|exact(a7.o v h).2|exact(ab.o v h).2|(simp[T.occ]at h))
    |(subst aI;exact(a7.o v h).2)
 have tc:(mf (jV (fA kd a b))).length<=1000000:=by rw[MZ];exact R0 aO (BT kd a b)
 unfold ju;generalize mf (jV (fA kd a b))=l at gi bt tc;generalize fA kd a b=ea at gi;clear aO a7 ab;refine bE fG abQ aiI fun aR=>?_;unfold Pt;simp;(with_reducible repeat' first|refine aj ?_|refine aC gi ?_|refine aD gi ?_|simp);refine eQ [1,8,9] (fun i (_:Unit)=>[(10,.int .i64 i)]) l.length (fun _ _=>True) () cb trivial (fun _ _ _=>?_) (fun i _ hi _ _=>?_)
 ·exact c0
 ·obtain⟨b,ab,cq⟩:=fb hi;have aoT:∀h,((dX l)[i]'h)= .int .i64 b:=fun h=>by simp[dX,cq]
  have al:¬(3:Int)<=b:=by have:=bt b (eZ ab);omega
  exact h6
theorem MS{t:T}{m:Nat}(h:ef t<=m):t.size<=2*m-1:=by have:=C4 t;have:=Ui t;omega
theorem ZH{n:Nat}{s:cC}(h:gK s)(az:s.n=n){d:List ak}(aG:d∈s.d){c:ak}(aq:c∈d):c.v∈p7 n/\∀u,c.t.occ u=true->u∈p7 n:=by obtain⟨bz,a2⟩:=CK (h.d d aG).ok (h.db d aG) c aq;exact⟨Gw.2 (by rw[<-az];exact bz),fun u hu=>Gw.2 (by rw[<-az];exact a2 u hu)⟩
theorem alv{n L m K:Nat}{s:cC}{E:List (T×T)}(bL:mQ (p7 n) L E s)(af:gK s)(az:s.n=n)(fe:1<=L){v:List ak}(hm:1<=m)(av:∀u,ef (aY v u)<=m)(c2:L ^ n<=K)(ad:K*m<=2500):MV s v:=fun d aG c aq=>by obtain⟨aZ,bm⟩:=ZH af az aG aq;have J:=(bL.d_lv (Tv n) fe aG aq aZ bm).1;rw[KJ]at J;have U:=Aa (θ:=aY v) (t:=c.t) hm fun u _=>av u;have al:ef c.t*m<=2500:=gZ (qq m (gZ J c2)) ad;have:=MS (gZ U al);omega
theorem K1{n k:Nat}{s:cC}(h:sR n k s){x:T}(ae:jU n x)(az:2 ^ n<=1000):(x.ap (aY s.b)).size<=5000:=by
 obtain⟨E,c6⟩:=h.p;have U:=Aa (θ:=aY s.b) (t:=x) (m:=2 ^ n) (Nat.one_le_two_pow) fun u hu=>by have:=c6.b_lv (Tv n) Ω (Gw.2 (ae.o u hu));rwa[KJ]at this
 have al:ef x*2 ^ n<=2*1000:=Nat.mul_le_mul ae.l az;have:=MS (gZ U al);omega
def Ac(x y z:T):List ak:=[⟨0,x⟩,⟨1,y⟩,⟨2,z⟩]
open Classical in
theorem XL(l:List dO):bZ ay 78 [.slice 5 .no (l.map dO.e)] (.bool (decide (vj l))):=by have k:=XB l;refine bE n9 acn aje fun aR=>?_;unfold P0;exact c0
open Classical in
theorem am3{v:List ak}(av:j7 v)(nm:fJ v)(a7:gN v):bZ ay 78 [.slice 5 .no (v.map ak.e)] (.bool true):=by have gS:=XL (v.map ak.b);rw[jS (wY.2 ⟨v,rfl,av,a7,nm⟩),tv]at gS;exact gS
open Classical in
theorem XK{v:List ak}(av:j7 v)(nm:fJ v)(a7:gN v){t:T}(aI:t.fit=true):bZ ay 231 [t.e,.slice 5 .no (v.map ak.e)] (.tuple [(if(t.ap (aY v)).size<=5000 then t.ap (aY v)else .nil).e,.bool (decide ((t.ap (aY v)).size<=5000))]):=by
 have du:=D6 t.tm;rw[rs,b5.fits_T,aI]at du;have gS:=am3 av nm a7;have aX:=D4 v (by have:=nm.1;omega) t;have bg:=amw (t.ap (aY v));generalize t.ap (aY v)=y at aX bg⊢;by_cases g:y.size<=5000
 ·rw[if_pos g];rw[jS g]at aX⊢;clear g nm av a7;refine bE n9 Re U1 fun aR=>?_;unfold IE;exact c0
 ·rw[if_neg g];rw[lT g]at aX⊢;clear g nm av a7;refine bE n9 Re U1 fun aR=>?_;unfold IE;exact c0
theorem acY{n:Int}(h:0<=n/\n<=100000):(T.var n).fit=true:=by simp[T.fit,T.ok,T.size,h]
open Classical in
theorem amW{v:List ak}(av:j7 v)(nm:fJ v)(a7:gN v){d:List ak}(aG:eB d):bZ ay 168 [.slice 5 .no (d.map ak.e),.slice 5 .no (v.map ak.e)] (.bool (pT v d)):=by
 have c9:=Nw aG;have Fx:=aG.len;generalize bS:pT v d=R;refine bE n9 ace ai6 fun aR=>?_;unfold PS;clear aR;simp;(with_reducible repeat' first|refine aj ?_|refine aC c9 ?_|refine aD c9 ?_|simp);refine eQ [1,14,15] (fun i (_:Unit)=>[(16,.int .i64 i)]) d.length (np (fun b=> !vN v b) d) () cb (fun k b ad=>Ω) (fun _ ag _=>?_) (fun i _ hi ag _=>?_)
 ·have:R=false:=by rw[<-bS,pT,List.any_eq_false];intro b ab;have:=ag.fin b ab;simpa using this
  subst this;clear ag bS c9;exact c0
 ·obtain⟨b,ab,cq⟩:=fb hi;have lZ:=eZ ab;have aX:=XK av nm a7 (acY (aG.ok b lZ).1);have bg:=XK av nm a7 (aG.fit b lZ);have ao:((T.var b.v).ap (aY v)).size<=5000:=WR nm b.v;rw[if_pos ao,jS ao,show(T.var b.v).ap (aY v)=aY v b.v from rfl]at aX;have b6:=HM (aY v b.v) (b.t.ap (aY v));have cw:vN v b=(decide ((b.t.ap (aY v)).size<=5000)&& !decide (aY v b.v=b.t.ap (aY v))):=rfl;have nn:vN v b=true->R=true:=fun h=>by rw[<-bS,pT,List.any_eq_true];exact⟨b,lZ,h⟩
  have c8:=fun h:vN v b=false=>ag.step ab (by rw[h];rfl);have gi:=kf b.v;clear ag bS c9 ab ao lZ aG av nm a7;generalize vN v b=H at cw nn c8;by_cases bk:(b.t.ap (aY v)).size<=5000
  ·rw[if_pos bk,jS bk]at bg;rw[jS bk,Bool.true_and]at cw;generalize b.t.ap (aY v)=y at bg b6 cw;generalize aY v b.v=x at aX b6 cw;generalize decide (x=y)=q at b6 cw;cases q
   ·have:=nn cw;subst this;exact c0
   ·have az:=c8 cw;exact h6
  ·rw[if_neg bk,lT bk]at bg;rw[lT bk,Bool.false_and]at cw;have az:=c8 cw;clear b6 cw;generalize aY v b.v=x at aX;exact h6
theorem ad4(t:T):t.gnd=true↔h8 t []=[]:=by
 have J:∀t:T,t.gnd=true↔∀w,t.occ w=false:=by
  intro t;induction t with
  |var n=>simp[T.gnd,T.occ]
  |pair a b dB dC=>simp only[T.gnd,T.occ,ct,Bool.or_eq_false_iff,dB,dC];exact⟨fun h w=>⟨h.1 w,h.2 w⟩,fun h=>⟨fun w=>(h w).1,fun w=>(h w).2⟩⟩
  |_=>simp[T.gnd,T.occ]
 rw[J,List.eq_nil_iff_forall_not_mem];simp[C8]
theorem amX{t:T}(aI:t.fit=true):bZ ay 79 [t.e] (.bool t.gnd):=by
 have du:=D6 t.tm;rw[rs,b5.fits_T,aI]at du;have ee:t.size<=5000:=by simp only[T.fit,ct,eF]at aI;exact aI.2
 have kE:=Bc t [];have gS:=D3 t [] d8 (by simp[sD]);have zp:dX []=[]:=rfl;rw[zp]at gS;have aW:=ad4 t;generalize h8 t []=ba at gS kE aW;cases ba with
 |nil=>rw[aW.2 rfl];rw[zp]at gS;refine bE n9 Rf U2 fun aR=>?_;unfold IF;exact c0
 |cons w ba=>
  rw[show t.gnd=false from by rw[<-Bool.not_eq_true,aW];simp];have au:¬((ba.length:Int)+1=0):=Ω
  have nS:ba.length<=5000:=by simp at kE;omega
  clear aW kE ee aI;refine bE n9 Rf U2 fun aR=>?_;unfold IF;simp;(with_reducible repeat' first|refine aj ?_|refine aC du ?_|refine aD du ?_|refine aC gS ?_|refine aD gS ?_|simp[eY,au]);all_goals simp[bn,V3,aT,aU,aS]
  all_goals omega
theorem amV{t:T}(aI:t.fit=true)(s:List c4):bZ ay 29 [t.e,.str s] (.bool (t.has s)):=by have du:=D6 t.tm;rw[rs,b5.fits_T,aI]at du;have k:=HO s t;refine bE n9 acd ai5 fun aR=>?_;unfold PR;exact c0
theorem ad3(t:T):t.gnd=true↔∀v,t.occ v=false:=by
 induction t with
 |var n=>simp[T.gnd,T.occ]
 |pair a b dB dC=>simp only[T.gnd,T.occ,ct,Bool.or_eq_false_iff,dB,dC];exact⟨fun h v=>⟨h.1 v,h.2 v⟩,fun h=>⟨fun v=>(h v).1,fun v=>(h v).2⟩⟩
 |_=>simp[T.gnd,T.occ]
end
end Go.Proofs.YtohaalphocaebaaGreat
