/- The laws' copying, counting and comparing of data. -/
import Derived.Test.YtohaalphocaebaaGreatProg
import Derived.Lib.OwnBridge
import Derived.Shelf.GgSortMore.Stable
import Derived.Shelf.GgSortFunc.SmallK
import Derived.Shelf.GgSortFunc.Slice
import Derived.Ground.GgsProg
import Derived.ProofKit
import Derived.Carry
import Derived.WalkKit
import Derived.Deep.Slices
import Derived.Test.YtohaalphocaebaaGreatF3
set_option linter.all false
set_option maxHeartbeats 4000000
set_option maxRecDepth 4000
open Array renaming getElem?_toList->uC
open BitVec renaming ofInt->qN
open Bool renaming eq_iff_iff->oG,false_eq_true->hl,or_eq_true->lH
open Go renaming Program->cG,TypeId->fZ
open Go.DataW renaming trod->ib
open Go.Extern.ReflectliteSwapper renaming swap->Cf,swapper->avJ
open Go.Extern.ReflectliteValue renaming len->avK,method->avL,unpack->ari,valueError->arj
open Go.Extern.Rtype renaming kind->aau
open Go.IntKind renaming bits->oH,signed->s9,u64->hA,wrap->ta
open Go.IntWalk renaming i64_in->pz
open Go.Proofs.Tryz renaming prog->ak
open Go.Value renaming cells->pB
open List renaming cons_append->bZ,drop_eq_getElem_cons->lI,getElem?_eq_getElem->cc,getElem?_eq_some_iff->eP,getElem?_map->qP,getElem_of_mem->nY,length_append->pC,length_cons->pD,length_map->oK,map_append->rO,map_cons->gS,map_nil->nh,mem_cons->fA,mem_cons_of_mem->oL,mem_of_getElem?->dE,nil_append->b6,pairwise_iff_getElem->qg,replicate->rP,take_length->jJ,take_of_length_le->hQ,take_succ->ma
open List.cons renaming injEq->oJ
open Nat renaming add_mul->qh,le_refl->e7,le_trans->kB
open Ne renaming symm->ld
open Option renaming bind_eq_some_iff->nj,isSome_none->mc,map_eq_some_iff->ha,map_some->nl
open Option.some renaming injEq->dQ
open Prod.mk renaming injEq->jB
open _root_ renaming False->e1,Option->ba,UInt8->dM,beq_iff_eq->dV,congrArg->e2,decide_eq_false->hG,decide_eq_false_iff_not->fJ,decide_eq_true->gK,decide_eq_true_eq->fc
namespace Go.Proofs.YtohaalphocaebaaGreat
section
open Go Go.Pv
def Rv:C:=(aa [bP 2 0] (.seq (.cond (.c (.bool false)) (aa [I 3 0,b5 4 (.conv .u32 (.t 3)),cE 5 258 4,I 2 5] .ret) .skip) (aa [I 6 0,cE 7 259 6,I 2 7] .ret)))
@[simp] def anQ:List bN:=[.tmp 2]
def JT:C:=(aa [a1 91 2 4,I 92 1,I 93 2,I 94 11,dL 95 267 [.t 91,.t 92,.t 93,.t 94],I 90 95,cD 96 0 90,cD 97 1 90,I 14 96,I 15 97] (aa [I 98 15,I 9 98] (aa [I 99 14,I 100 1,bh 101 .sub 99 100,I 102 2,I 103 14,bh 104 .sub 102 103,I 16 101,I 17 104] (aa [I 105 10,aT 106 .quo 105 8,I 18 106] (aa [I 107 16,I 108 17,bh 109 .lss 107 108] (aS 109 (aa [I 110 16,I 111 18,bh 112 .geq 110 111,I 8 112] (aa [a1 113 2 4,I 114 1,I 115 14,I 116 3,dL 117 210 [.t 113,.t 114,.t 115,.t 116]] (.region [I 118 14,aT 119 .add 118 1,I 1 119]))) (aa [I 120 17,I 121 18,bh 122 .geq 120 121,I 8 122] (aa [a1 123 2 4,I 124 14,aT 125 .add 124 1,I 126 2,I 127 3,dL 128 210 [.t 123,.t 125,.t 126,.t 127]] (.region [I 129 14,I 2 129])))))))))
def Cy:C:=(.seq (aa [I 73 1,aT 74 .gtr 73 0,I 75 74,ao 75 true (aC 76 0 1 4),ao 75 true (av 77 1 76),b4 75 true 78 1,ao 75 true (aT 79 .sub 78 1),b4 75 true 80 11,ao 75 true (gZ 81 77 [.t 79,.t 80]),ao 75 true (cn 82 81),dx 83 75 82] (aS 83 (aa [a1 84 2 4,I 85 1,I 86 2,I 87 11,dL 88 266 [.t 84,.t 85,.t 86,.t 87],I 13 88] (aa [I 89 13,I 1 89] (.exit 1))) .skip)) JT)
def JU:C:=(.seq (aa [I 61 8,I 62 61,b4 62 true 63 9,dx 64 62 63,I 65 64,b4 65 true 66 12,ao 65 true (aT 67 .eql 66 1),dx 68 65 67] (aS 68 (aa [a1 69 2 4,I 70 1,I 71 2,dL 72 265 [.t 69,.t 70,.t 71]] (aS 72 .ret .skip)) .skip)) Cy)
def JV:C:=(aa [a1 43 2 4,I 44 1,I 45 2,dL 46 263 [.t 43,.t 44,.t 45],I 42 46,cD 47 0 42,cD 48 1 42,I 11 47,I 12 48] (.seq (aa [I 49 12,aT 50 .eql 49 2] (aS 50 (aa [a1 51 2 4,I 52 1,I 53 2,dL 54 264 [.t 51,.t 52,.t 53]] (aa [I 55 2,aT 56 .sub 55 1,I 57 11,I 58 1,bh 59 .sub 57 58,bh 60 .sub 56 59,I 11 60] (.region [bP 12 1]))) .skip)) JU))
def RI:C:=(aa [cO 4 0] (aa [a8 8 true] (aa [a8 9 true] (.block 0 (.loop (.block 1 (aa [I 19 2,I 20 1,bh 21 .sub 19 20,I 10 21] (.seq (aa [I 22 10,aT 23 .leq 22 12] (aS 23 (aa [a1 24 2 4,I 25 1,I 26 2,dL 27 260 [.t 24,.t 25,.t 26]] .ret) .skip)) (.seq (aa [I 28 3,aT 29 .eql 28 0] (aS 29 (aa [a1 30 2 4,I 31 1,I 32 2,dL 33 261 [.t 30,.t 31,.t 32]] .ret) .skip)) (.seq (aa [I 34 8,cn 35 34] (aS 35 (aa [a1 36 2 4,I 37 1,I 38 2,dL 39 262 [.t 36,.t 37,.t 38]] (.region [I 40 3,aT 41 .sub 40 1,I 3 41])) .skip)) JV))))))))))
@[simp] def Ye:List bN:=[]
def Rw:C:=(aa [bP 2 0] (.seq (aa [I 3 0,b5 4 (.bin .geq false (.t 3) (.c (.int .u64 4294967296)))] (aS 4 (aa [I 5 0,b5 6 (.bin .shr false (.t 5) (.c (.int .u64 32))),I 0 6] (.region [bP 2 32])) .skip)) (.seq (aa [I 7 0,b5 8 (.bin .geq false (.t 7) (.c (.int .u64 65536)))] (aS 8 (aa [I 9 0,b5 10 (.bin .shr false (.t 9) (.c (.int .u64 16))),I 0 10] (.region [I 11 2,aT 12 .add 11 16,I 2 12])) .skip)) (.seq (aa [I 13 0,b5 14 (.bin .geq false (.t 13) (.c (.int .u64 256)))] (aS 14 (aa [I 15 0,b5 16 (.bin .shr false (.t 15) (.c (.int .u64 8))),I 0 16] (.region [I 17 2,aT 18 .add 17 8,I 2 18])) .skip)) (aa [I 19 2,I 20 0,b5 21 (.conv .u8 (.t 20)),b5 22 (.sidx (.c (.str [0,1,2,2,3,3,3,3,4,4,4,4,4,4,4,4,5,5,5,5,5,5,5,5,5,5,5,5,5,5,5,5,6,6,6,6,6,6,6,6,6,6,6,6,6,6,6,6,6,6,6,6,6,6,6,6,6,6,6,6,6,6,6,6,7,7,7,7,7,7,7,7,7,7,7,7,7,7,7,7,7,7,7,7,7,7,7,7,7,7,7,7,7,7,7,7,7,7,7,7,7,7,7,7,7,7,7,7,7,7,7,7,7,7,7,7,7,7,7,7,7,7,7,7,7,7,7,7,8,8,8,8,8,8,8,8,8,8,8,8,8,8,8,8,8,8,8,8,8,8,8,8,8,8,8,8,8,8,8,8,8,8,8,8,8,8,8,8,8,8,8,8,8,8,8,8,8,8,8,8,8,8,8,8,8,8,8,8,8,8,8,8,8,8,8,8,8,8,8,8,8,8,8,8,8,8,8,8,8,8,8,8,8,8,8,8,8,8,8,8,8,8,8,8,8,8,8,8,8,8,8,8,8,8,8,8,8,8,8,8,8,8,8,8,8,8,8,8,8,8,8,8,8,8,8,8])) (.t 21)),b5 23 (.conv .i64 (.t 22)),bh 24 .add 19 23,I 2 24] .ret)))))
@[simp] def BJ:List bN:=[.tmp 2]
def RA:C:=(aa [cO 3 0] (aa [I 11 1,I 6 11] (aa [bP 7 0] (aa [I 12 2,I 13 1,bh 14 .sub 12 13,I 8 14] (.seq (aa [I 15 8,aT 16 .sub 15 1,aT 17 .quo 16 2,I 9 17] (.block 0 (.loop (.seq (aa [I 18 9,aT 19 .geq 18 0] (aS 19 .skip (.exit 0))) (.seq (.block 1 (.region [a1 22 2 3,I 23 9,I 24 8,I 25 6,dL 26 278 [.t 22,.t 23,.t 24,.t 25]])) (.region [I 20 9,aT 21 .sub 20 1,I 9 21])))))) (aa [I 27 8,aT 28 .sub 27 1,I 10 28] (.block 2 (.loop (.seq (aa [I 29 10,aT 30 .geq 29 0] (aS 30 .skip (.exit 2))) (.seq (.block 3 (aa [aC 33 1 1 3,av 34 1 33,I 35 6,I 36 6,I 37 10,bh 38 .add 36 37,gZ 39 34 [.t 35,.t 38]] (.region [a1 40 2 3,I 41 7,I 42 10,I 43 6,dL 44 278 [.t 40,.t 41,.t 42,.t 43]]))) (.region [I 31 10,aT 32 .sub 31 1,I 10 32])))))))))))
@[simp] def anR:List bN:=[]
def Ry:C:=(aa [cO 3 0] (aa [I 11 2,I 12 1,bh 13 .sub 11 12,I 6 13] (aa [I 14 6,aT 15 .geq 14 8] (aS 15 (aa [I 16 6,b5 17 (.conv .u64 (.t 16)),cN (.alloc 7 (some 902) (.int .u64 0)),bM 1 7 17] (aa [I 18 6,cE 19 279 18,I 8 19] (aa [I 20 1,I 21 6,aT 22 .quo 21 4,aT 23 .mul 22 2,bh 24 .add 20 23,aT 25 .sub 24 1,I 9 25] (.block 0 (.loop (.seq (aa [I 26 9,I 27 1,I 28 6,aT 29 .quo 28 4,aT 30 .mul 29 2,bh 31 .add 27 30,aT 32 .add 31 1,bh 33 .leq 26 32] (aS 33 .skip (.exit 0))) (.seq (.block 1 (aa [cE 36 280 7,I 37 8,b5 38 (.bin .sub true (.t 37) (.c (.int .u64 1))),bh 39 .and 36 38,b5 40 (.conv .i64 (.t 39)),I 10 40] (.seq (aa [I 41 10,I 42 6,bh 43 .geq 41 42] (aS 43 (.region [I 44 10,I 45 6,bh 46 .sub 44 45,I 10 46]) .skip)) (.region [aC 47 1 1 3,av 48 1 47,I 49 9,I 50 1,I 51 10,bh 52 .add 50 51,gZ 53 48 [.t 49,.t 52]])))) (.region [I 34 9,aT 35 .add 34 1,I 9 35])))))))) .skip))))
@[simp] def Ya:List bN:=[]
def Rz:C:=(aa [cO 3 0,bP 6 0,bP 7 0] (aa [I 13 2,I 14 1,bh 15 .sub 13 14,I 8 15] (aa [cN (.alloc 9 (some 901) (.int .i64 0))] (aa [I 16 1,I 17 8,aT 18 .quo 17 4,aT 19 .mul 18 1,bh 20 .add 16 19,I 10 20] (aa [I 21 1,I 22 8,aT 23 .quo 22 4,aT 24 .mul 23 2,bh 25 .add 21 24,I 11 25] (aa [I 26 1,I 27 8,aT 28 .quo 27 4,aT 29 .mul 28 3,bh 30 .add 26 29,I 12 30] (.seq (aa [I 31 8,aT 32 .geq 31 8] (aS 32 (.seq (aa [I 33 8,aT 34 .geq 33 50] (aS 34 (aa [a1 35 2 3,I 36 10,dL 37 281 [.t 35,.t 36,.t 9],I 10 37] (aa [a1 38 2 3,I 39 11,dL 40 281 [.t 38,.t 39,.t 9],I 11 40] (.region [a1 41 2 3,I 42 12,dL 43 281 [.t 41,.t 42,.t 9],I 12 43]))) .skip)) (.region [a1 44 2 3,I 45 10,I 46 11,I 47 12,dL 48 282 [.t 44,.t 45,.t 46,.t 47,.t 9],I 11 48])) .skip)) (aa [av 49 1 9] (.block 0 (aa [aT 52 .eql 49 0,I 51 52] (aS 51 (aa [I 53 11,I 6 53,bP 7 1] .ret) (aa [aT 55 .eql 49 12,I 54 55] (aS 54 (aa [I 56 11,I 6 56,bP 7 2] .ret) (aa [I 50 11,I 6 50,bP 7 0] .ret))))))))))))))
@[simp] def NJ:List bN:=[.tmp 6,.tmp 7]
def RJ:C:=(aa [cO 3 0] (aa [I 8 1,I 6 8] (aa [I 9 2,aT 10 .sub 9 1,I 7 10] (.block 0 (.loop (.seq (aa [I 11 6,I 12 7,bh 13 .lss 11 12] (aS 13 .skip (.exit 0))) (.block 1 (aa [aC 14 1 1 3,av 15 1 14,I 16 6,I 17 7,gZ 18 15 [.t 16,.t 17]] (aa [I 19 6,aT 20 .add 19 1,I 6 20] (.region [I 21 7,aT 22 .sub 21 1,I 7 22]))))))))))
@[simp] def anT:List bN:=[]
def RF:C:=(aa [cO 3 0,a8 6 false] (aa [I 11 1,aT 12 .add 11 1,I 7 12] (.seq (aa [bP 8 0] (.block 0 (.loop (.seq (aa [I 13 8,aT 14 .lss 13 5] (aS 14 .skip (.exit 0))) (.seq (.block 1 (.seq (.block 2 (.loop (.seq (aa [I 17 7,I 18 2,bh 19 .lss 17 18,I 20 19,ao 20 true (aC 21 0 1 3),ao 20 true (av 22 1 21),b4 20 true 23 7,b4 20 true 24 7,ao 20 true (aT 25 .sub 24 1),ao 20 true (gZ 26 22 [.t 23,.t 25]),ao 20 true (cn 27 26),dx 28 20 27] (aS 28 .skip (.exit 2))) (.block 3 (.region [I 29 7,aT 30 .add 29 1,I 7 30]))))) (.seq (aa [I 31 7,I 32 2,bh 33 .eql 31 32] (aS 33 (aa [a8 6 true] .ret) .skip)) (.seq (aa [I 34 2,I 35 1,bh 36 .sub 34 35,aT 37 .lss 36 50] (aS 37 (aa [a8 6 false] .ret) .skip)) (aa [aC 38 1 1 3,av 39 1 38,I 40 7,I 41 7,aT 42 .sub 41 1,gZ 43 39 [.t 40,.t 42]] (.seq (aa [I 44 7,I 45 1,bh 46 .sub 44 45,aT 47 .geq 46 2] (aS 47 (aa [I 48 7,aT 49 .sub 48 1,I 9 49] (.block 4 (.loop (.seq (aa [I 50 9,aT 51 .geq 50 1] (aS 51 .skip (.exit 4))) (.seq (.block 5 (.seq (aa [aC 54 0 1 3,av 55 1 54,I 56 9,I 57 9,aT 58 .sub 57 1,gZ 59 55 [.t 56,.t 58],cn 60 59] (aS 60 (.exit 4) .skip)) (.region [aC 61 1 1 3,av 62 1 61,I 63 9,I 64 9,aT 65 .sub 64 1,gZ 66 62 [.t 63,.t 65]]))) (.region [I 52 9,aT 53 .sub 52 1,I 9 53])))))) .skip)) (aa [I 67 2,I 68 7,bh 69 .sub 67 68,aT 70 .geq 69 2] (aS 70 (aa [I 71 7,aT 72 .add 71 1,I 10 72] (.block 6 (.loop (.seq (aa [I 73 10,I 74 2,bh 75 .lss 73 74] (aS 75 .skip (.exit 6))) (.seq (.block 7 (.seq (aa [aC 78 0 1 3,av 79 1 78,I 80 10,I 81 10,aT 82 .sub 81 1,gZ 83 79 [.t 80,.t 82],cn 84 83] (aS 84 (.exit 6) .skip)) (.region [aC 85 1 1 3,av 86 1 85,I 87 10,I 88 10,aT 89 .sub 88 1,gZ 90 86 [.t 87,.t 89]]))) (.region [I 76 10,aT 77 .add 76 1,I 10 77])))))) .skip)))))))) (.region [I 15 8,aT 16 .add 15 1,I 8 16])))))) (aa [a8 6 false] .ret))))
@[simp] def H6:List bN:=[.tmp 6]
def RG:C:=(aa [cO 4 0,bP 8 0] (aa [aC 11 1 1 4,av 12 1 11,I 13 1,I 14 3,gZ 15 12 [.t 13,.t 14]] (aa [I 16 1,aT 17 .add 16 1,I 18 2,aT 19 .sub 18 1,I 9 17,I 10 19] (.seq (.block 0 (.loop (.block 1 (.seq (.block 2 (.loop (.seq (aa [I 20 9,I 21 10,bh 22 .leq 20 21,I 23 22,ao 23 true (aC 24 0 1 4),ao 23 true (av 25 1 24),b4 23 true 26 1,b4 23 true 27 9,ao 23 true (gZ 28 25 [.t 26,.t 27]),ao 23 true (cn 29 28),dx 30 23 29] (aS 30 .skip (.exit 2))) (.block 3 (.region [I 31 9,aT 32 .add 31 1,I 9 32]))))) (.seq (.block 4 (.loop (.seq (aa [I 33 9,I 34 10,bh 35 .leq 33 34,I 36 35,ao 36 true (aC 37 0 1 4),ao 36 true (av 38 1 37),b4 36 true 39 1,b4 36 true 40 10,ao 36 true (gZ 41 38 [.t 39,.t 40]),dx 42 36 41] (aS 42 .skip (.exit 4))) (.block 5 (.region [I 43 10,aT 44 .sub 43 1,I 10 44]))))) (.seq (aa [I 45 9,I 46 10,bh 47 .gtr 45 46] (aS 47 (.exit 0) .skip)) (aa [aC 48 1 1 4,av 49 1 48,I 50 9,I 51 10,gZ 52 49 [.t 50,.t 51]] (aa [I 53 9,aT 54 .add 53 1,I 9 54] (.region [I 55 10,aT 56 .sub 55 1,I 10 56]))))))))) (aa [I 57 9,I 8 57] .ret)))))
@[simp] def NL:List bN:=[.tmp 8]
def RH:C:=(aa [cO 4 0,bP 8 0,a8 9 false] (aa [aC 12 1 1 4,av 13 1 12,I 14 1,I 15 3,gZ 16 13 [.t 14,.t 15]] (aa [I 17 1,aT 18 .add 17 1,I 19 2,aT 20 .sub 19 1,I 10 18,I 11 20] (.seq (.block 0 (.loop (.seq (aa [I 21 10,I 22 11,bh 23 .leq 21 22,I 24 23,ao 24 true (aC 25 0 1 4),ao 24 true (av 26 1 25),b4 24 true 27 10,b4 24 true 28 1,ao 24 true (gZ 29 26 [.t 27,.t 28]),dx 30 24 29] (aS 30 .skip (.exit 0))) (.block 1 (.region [I 31 10,aT 32 .add 31 1,I 10 32]))))) (.seq (.block 2 (.loop (.seq (aa [I 33 10,I 34 11,bh 35 .leq 33 34,I 36 35,ao 36 true (aC 37 0 1 4),ao 36 true (av 38 1 37),b4 36 true 39 11,b4 36 true 40 1,ao 36 true (gZ 41 38 [.t 39,.t 40]),ao 36 true (cn 42 41),dx 43 36 42] (aS 43 .skip (.exit 2))) (.block 3 (.region [I 44 11,aT 45 .sub 44 1,I 11 45]))))) (.seq (aa [I 46 10,I 47 11,bh 48 .gtr 46 47] (aS 48 (aa [aC 49 1 1 4,av 50 1 49,I 51 11,I 52 1,gZ 53 50 [.t 51,.t 52]] (aa [I 54 11,I 8 54,a8 9 true] .ret)) .skip)) (aa [aC 55 1 1 4,av 56 1 55,I 57 10,I 58 11,gZ 59 56 [.t 57,.t 58]] (aa [I 60 10,aT 61 .add 60 1,I 10 61] (aa [I 62 11,aT 63 .sub 62 1,I 11 63] (.seq (.block 4 (.loop (.block 5 (.seq (.block 6 (.loop (.seq (aa [I 64 10,I 65 11,bh 66 .leq 64 65,I 67 66,ao 67 true (aC 68 0 1 4),ao 67 true (av 69 1 68),b4 67 true 70 10,b4 67 true 71 1,ao 67 true (gZ 72 69 [.t 70,.t 71]),dx 73 67 72] (aS 73 .skip (.exit 6))) (.block 7 (.region [I 74 10,aT 75 .add 74 1,I 10 75]))))) (.seq (.block 8 (.loop (.seq (aa [I 76 10,I 77 11,bh 78 .leq 76 77,I 79 78,ao 79 true (aC 80 0 1 4),ao 79 true (av 81 1 80),b4 79 true 82 11,b4 79 true 83 1,ao 79 true (gZ 84 81 [.t 82,.t 83]),ao 79 true (cn 85 84),dx 86 79 85] (aS 86 .skip (.exit 8))) (.block 9 (.region [I 87 11,aT 88 .sub 87 1,I 11 88]))))) (.seq (aa [I 89 10,I 90 11,bh 91 .gtr 89 90] (aS 91 (.exit 4) .skip)) (aa [aC 92 1 1 4,av 93 1 92,I 94 10,I 95 11,gZ 96 93 [.t 94,.t 95]] (aa [I 97 10,aT 98 .add 97 1,I 10 98] (.region [I 99 11,aT 100 .sub 99 1,I 11 100]))))))))) (aa [aC 101 1 1 4,av 102 1 101,I 103 11,I 104 1,gZ 105 102 [.t 103,.t 104]] (aa [I 106 11,I 8 106,a8 9 false] .ret))))))))))))
@[simp] def Et:List bN:=[.tmp 8,.tmp 9]
def RL:C:=(aa [cO 4 0] (aa [I 10 1,I 8 10] (.block 0 (.loop (.block 1 (aa [I 11 8,b5 12 (.bin .mul false (gI 2) (.t 11)),aT 13 .add 12 1,I 9 13] (.seq (aa [I 14 9,I 15 2,bh 16 .geq 14 15] (aS 16 (.exit 0) .skip)) (.seq (aa [I 17 9,aT 18 .add 17 1,I 19 2,bh 20 .lss 18 19,I 21 20,ao 21 true (aC 22 0 1 4),ao 21 true (av 23 1 22),b4 21 true 24 3,b4 21 true 25 9,ao 21 true (bh 26 .add 24 25),b4 21 true 27 3,b4 21 true 28 9,ao 21 true (bh 29 .add 27 28),ao 21 true (aT 30 .add 29 1),ao 21 true (gZ 31 23 [.t 26,.t 30]),dx 32 21 31] (aS 32 (.region [I 33 9,aT 34 .add 33 1,I 9 34]) .skip)) (.seq (aa [aC 35 0 1 4,av 36 1 35,I 37 3,I 38 8,bh 39 .add 37 38,I 40 3,I 41 9,bh 42 .add 40 41,gZ 43 36 [.t 39,.t 42],cn 44 43] (aS 44 .ret .skip)) (aa [aC 45 1 1 4,av 46 1 45,I 47 3,I 48 8,bh 49 .add 47 48,I 50 3,I 51 9,bh 52 .add 50 51,gZ 53 46 [.t 49,.t 52]] (.region [I 54 9,I 8 54])))))))))))
@[simp] def anV:List bN:=[]
def RD:C:=(aa [b5 2 (.mov (.c (.int .u64 0)))] (aa [I 4 0,b5 5 (.conv .u64 (.t 4)),cE 6 209 5,b5 7 (.conv .u64 (.t 6)),I 3 7] (aa [I 8 3,b5 9 (.bin .shl false (.c (.int .u64 1)) (.t 8)),I 2 9] .ret)))
@[simp] def Yd:List bN:=[.tmp 2]
def RP:C:=(aa [b5 2 (.mov (.c (.int .u64 0)))] (.seq (.drawn true 33 [I 3 0,fI 4 3,av 5 1 4,I 6 0,fI 7 6,av 8 1 7,b5 9 (.bin .shl false (.t 8) (.c (.int .u64 13))),bh 10 .xor 5 9,fI 11 3,bM 1 11 10]) (.seq (.drawn true 33 [I 12 0,fI 13 12,av 14 1 13,I 15 0,fI 16 15,av 17 1 16,b5 18 (.bin .shr false (.t 17) (.c (.int .u64 7))),bh 19 .xor 14 18,fI 20 12,bM 1 20 19]) (.seq (.drawn true 33 [I 21 0,fI 22 21,av 23 1 22,I 24 0,fI 25 24,av 26 1 25,b5 27 (.bin .shl false (.t 26) (.c (.int .u64 17))),bh 28 .xor 23 27,fI 29 21,bM 1 29 28]) (aa [I 30 0,fI 31 30,av 32 1 31,I 2 32] .ret)))))
@[simp] def Yg:List bN:=[.tmp 2]
def RB:C:=(aa [cO 3 0,bP 6 0] (aa [a1 7 2 3,I 8 1,aT 9 .sub 8 1,I 10 1,I 11 1,aT 12 .add 11 1,I 13 2,dL 14 282 [.t 7,.t 9,.t 10,.t 12,.t 13],I 6 14] .ret))
@[simp] def Yb:List bN:=[.tmp 6]
def RC:C:=(aa [cO 5 0,bP 10 0] (aa [a1 12 2 5,I 13 1,I 14 2,I 15 4,dL 16 285 [.t 12,.t 13,.t 14,.t 15],I 11 16,cD 17 0 11,cD 18 1 11,I 1 17,I 2 18] (aa [a1 20 2 5,I 21 2,I 22 3,I 23 4,dL 24 285 [.t 20,.t 21,.t 22,.t 23],I 19 24,cD 25 0 19,cD 26 1 19,I 2 25,I 3 26] (aa [a1 28 2 5,I 29 1,I 30 2,I 31 4,dL 32 285 [.t 28,.t 29,.t 30,.t 31],I 27 32,cD 33 0 27,cD 34 1 27,I 1 33,I 2 34] (aa [I 35 2,I 10 35] .ret)))))
@[simp] def Yc:List bN:=[.tmp 10]
def RE:C:=(aa [cO 4 0,bP 8 0,bP 9 0] (.seq (aa [aC 10 0 1 4,av 11 1 10,I 12 2,I 13 1,gZ 14 11 [.t 12,.t 13]] (aS 14 (aa [I 15 3,fI 16 15,av 17 1 16,aT 18 .add 17 1,fI 19 15,bM 1 19 18] (aa [I 20 2,I 21 1,I 8 20,I 9 21] .ret)) .skip)) (aa [I 22 1,I 23 2,I 8 22,I 9 23] .ret)))
@[simp] def NK:List bN:=[.tmp 8,.tmp 9]
def nW:List (Nat×dH):=[
 (3,⟨1,8,.int .i64,.int .i64 0⟩),
 (5,⟨1,1,.int .u8,.int .u8 0⟩),
 (9,⟨1,16,.str,.str []⟩),
 (160,⟨1,8,.other,.junk⟩),
 (163,⟨1,8,.int .u64,.int .u64 0⟩),
 (216,⟨1,8,.other,.junk⟩),
 (222,⟨2,16,.struct [(0,160),(1,216)],.agg [.junk,.junk]⟩),
 (254,⟨1,4,.int .u32,.int .u32 0⟩),
 (256,⟨1,8,.int .u64,.int .u64 0⟩),
 (265,⟨1,8,.int .u64,.int .u64 0⟩)]
theorem oC:fS ak nW=true:=by kernel_rfl
theorem alR:bU nW Rv anQ 1 Tryz.f209=true:=by kernel_rfl
theorem aeP:ak.funcs[(209:Nat)]? =some Tryz.f209:=Tryz.func209
theorem al4:bU nW RI Ye 4 Tryz.f210=true:=by kernel_rfl
theorem ae2:ak.funcs[(210:Nat)]? =some Tryz.f210:=Tryz.func210
theorem alS:bU nW Rw BJ 1 Tryz.f259=true:=by kernel_rfl
theorem aeQ:ak.funcs[(259:Nat)]? =some Tryz.f259:=Tryz.func259
theorem alW:bU nW RA anR 3 Tryz.f261=true:=by kernel_rfl
theorem aeU:ak.funcs[(261:Nat)]? =some Tryz.f261:=Tryz.func261
theorem alU:bU nW Ry Ya 3 Tryz.f262=true:=by kernel_rfl
theorem aeS:ak.funcs[(262:Nat)]? =some Tryz.f262:=Tryz.func262
theorem alV:bU nW Rz NJ 3 Tryz.f263=true:=by kernel_rfl
theorem aeT:ak.funcs[(263:Nat)]? =some Tryz.f263:=Tryz.func263
theorem al5:bU nW RJ anT 3 Tryz.f264=true:=by kernel_rfl
theorem ae3:ak.funcs[(264:Nat)]? =some Tryz.f264:=Tryz.func264
theorem al1:bU nW RF H6 3 Tryz.f265=true:=by kernel_rfl
theorem aeZ:ak.funcs[(265:Nat)]? =some Tryz.f265:=Tryz.func265
theorem al2:bU nW RG NL 4 Tryz.f266=true:=by kernel_rfl
theorem ae0:ak.funcs[(266:Nat)]? =some Tryz.f266:=Tryz.func266
theorem al3:bU nW RH Et 4 Tryz.f267=true:=by kernel_rfl
theorem ae1:ak.funcs[(267:Nat)]? =some Tryz.f267:=Tryz.func267
theorem al7:bU nW RL anV 4 Tryz.f278=true:=by kernel_rfl
theorem ae5:ak.funcs[(278:Nat)]? =some Tryz.f278:=Tryz.func278
theorem alZ:bU nW RD Yd 1 Tryz.f279=true:=by kernel_rfl
theorem aeX:ak.funcs[(279:Nat)]? =some Tryz.f279:=Tryz.func279
theorem amb:bU nW RP Yg 1 Tryz.f280=true:=by kernel_rfl
theorem ae9:ak.funcs[(280:Nat)]? =some Tryz.f280:=Tryz.func280
theorem alX:bU nW RB Yb 3 Tryz.f281=true:=by kernel_rfl
theorem aeV:ak.funcs[(281:Nat)]? =some Tryz.f281:=Tryz.func281
theorem alY:bU nW RC Yc 5 Tryz.f282=true:=by kernel_rfl
theorem aeW:ak.funcs[(282:Nat)]? =some Tryz.f282:=Tryz.func282
theorem al0:bU nW RE NK 4 Tryz.f285=true:=by kernel_rfl
theorem aeY:ak.funcs[(285:Nat)]? =some Tryz.f285:=Tryz.func285
end
section
open Go Go.Pv
variable {α:Type} [Inhabited α] {S:List α->cH} {n g cg:Nat} {lc b8:List ai} {lt:α->α->Bool}
theorem TS(H:fe S n g cg lc b8 lt)(d:Array α)(aR:d.size=n)(lo hi first:Nat)(J:first+hi<=n)(U:2<=n)(au:lo<=n):
  bH ak 278 [e3 g cg lc b8,.int .i64 lo,.int .i64 hi,.int .i64 first] (S d.toList) fun r ah=>r= .tuple []/\∃cj,ah=S cj.toList/\cj=Sort.siftDown lt hi first lo d/\cj.size=n:=by
 have ag:=H.ok d.toList;have ar:d.toList.length=n:=by simpa using aR
 have ax:∀l m,Pv.look (.loc m) (S l).b=none:=fun l=>(H.ok l).obj.1;have hu:∀l m cs,cA (.loc m) cs (S l).b=(S l).b++[(.loc m,cs)]:=fun l m cs=>j4 (ax l m);have ay:∀m,aI.loc m∉c1 (S d.toList):=jY ag.obj;have hle:=H.le;refine bH.mk mixed oC ae5 al7 Ψ ag.obj fun aK cB=>?_;unfold RL;simp[e3,hu,ay,cK,ax];refine H.loopA ar [2,3,4] (fun(x:Nat×Array α)=>[(8,.int .i64 x.1)]) (·.2) (fun x=>hi-x.1) (fun x=>x.2.size=n/\x.1<=n/\Sort.siftDown lt hi first x.1 x.2=Sort.siftDown lt hi first lo d) (lo,d) aR ⟨aR,au,rfl⟩ (by simp[cK,ax]) aL aL (by simp[aD]) ?_;rintro⟨root,cu⟩ ⟨aU,bo,cd⟩;simp only at aU bo cd;have al:((first:Int)+(2*root+1))=(first+(2*root+1):Nat):=Ω
 have aE:(((first+(2*root+1):Nat):Int)+1)=(first+(2*root+1)+1:Nat):=Ω
 have bn:((first:Int)+root)=(first+root:Nat):=Ω
 have dh:((first:Int)+(2*root+1+1))=(first+(2*root+2):Nat):=Ω
 simp[Pv.look,H.slc,H.ssc];(with_reducible repeat' first|((first|apply bS|apply bW|apply bV)<;>intro h<;>try simp at h)|refine aj ?_|simp[Pv.look,H.slc,H.ssc])
 ·rw[Sort.siftDown,dif_pos Ω]at cd;exact H.retA ar aU (.inr rfl) ⟨rfl,cu,rfl,cd,aU⟩
 ·rw[Sort.siftDown,dif_neg Ω]at cd;rw[al,aE];refine H.lessA aU _ _ Ω Ω fun o=>?_;have aw:decide (2*root+1+1<hi)=true:=by simp;omega
  cases af:lt cu[first+(2*root+1)]! cu[first+(2*root+1)+1]! with
  |true=>
   rw[if_pos (by rw[aw,af];rfl)]at cd;simp;(with_reducible repeat' first|refine aj ?_|simp[Pv.look,H.slc,H.ssc]);rw[bn,dh];refine H.lessA aU _ _ Ω Ω fun o=>?_;cases aO:lt cu[first+root]! cu[first+(2*root+2)]! with
   |true=>rw[if_neg (by simp[aO]),dif_pos Ω]at cd;simp;(with_reducible repeat' first|refine aj ?_|simp[Pv.look,H.slc,H.ssc]);rw[bn,dh];refine H.swapA aU U _ _ Ω Ω fun o=>?_;simp;(with_reducible repeat' first|refine aj ?_|simp);refine bO.whl (2*root+2,Sort.swp cu (first+root) (first+(2*root+2))) (by simp;omega) ⟨by rw[hf,aU],by simp;omega,cd⟩ (H.weakC ar (by simp[hf,aU]) (by simp[aD];omega))
   |false=>rw[if_pos (by simp[aO])]at cd;simp;(with_reducible repeat' first|refine aj ?_|simp);all_goals exact H.retA ar aU (.inl rfl) ⟨rfl,cu,rfl,cd,aU⟩
  |false=>
   rw[if_neg (by simp[af])]at cd;simp;(with_reducible repeat' first|refine aj ?_|simp[Pv.look,H.slc,H.ssc]);rw[bn,al];refine H.lessA aU _ _ Ω Ω fun o=>?_;cases aO:lt cu[first+root]! cu[first+(2*root+1)]! with
   |true=>rw[if_neg (by simp[aO])]at cd;simp;(with_reducible repeat' first|refine aj ?_|simp[Pv.look,H.slc,H.ssc]);rw[bn,al];refine H.swapA aU U _ _ Ω Ω fun o=>?_;simp;(with_reducible repeat' first|refine aj ?_|simp);refine bO.whl (2*root+1,Sort.swp cu (first+root) (first+(2*root+1))) (by simp;omega) ⟨by rw[hf,aU],by simp;omega,cd⟩ (H.weakC ar (by simp[hf,aU]) (by simp[aD]))
   |false=>rw[if_pos (by simp[aO])]at cd;simp;(with_reducible repeat' first|refine aj ?_|simp);all_goals exact H.retA ar aU (.inl rfl) ⟨rfl,cu,rfl,cd,aU⟩
 ·rw[Sort.siftDown,dif_neg Ω]at cd;have aw:decide (2*root+1+1<hi)=false:=by simp;omega
  rw[if_neg (by rw[aw];simp)]at cd;rw[bn,al];refine H.lessA aU _ _ Ω Ω fun o=>?_;cases aO:lt cu[first+root]! cu[first+(2*root+1)]! with
  |true=>rw[if_neg (by simp[aO])]at cd;simp;(with_reducible repeat' first|refine aj ?_|simp[Pv.look,H.slc,H.ssc]);rw[bn,al];refine H.swapA aU U _ _ Ω Ω fun o=>?_;simp;(with_reducible repeat' first|refine aj ?_|simp);refine bO.whl (2*root+1,Sort.swp cu (first+root) (first+(2*root+1))) (by simp;omega) ⟨by rw[hf,aU],by simp;omega,cd⟩ (H.weakC ar (by simp[hf,aU]) (by simp[aD]))
  |false=>rw[if_pos (by simp[aO])]at cd;simp;(with_reducible repeat' first|refine aj ?_|simp);all_goals exact H.retA ar aU (.inl rfl) ⟨rfl,cu,rfl,cd,aU⟩
theorem agA(H:fe S n g cg lc b8 lt)(d:Array α)(aR:d.size=n)(a b:Nat)(nA:a<b)(ab:b<=n)(U:2<=n):
  bH ak 264 [e3 g cg lc b8,.int .i64 a,.int .i64 b] (S d.toList) fun r ah=>r= .tuple []/\∃cj,ah=S cj.toList/\cj=Sort.reverseRange d a b/\cj.size=n:=by
 have ag:=H.ok d.toList;have ar:d.toList.length=n:=by simpa using aR
 have ax:∀l m,Pv.look (.loc m) (S l).b=none:=fun l=>(H.ok l).obj.1;have hu:∀l m cs,cA (.loc m) cs (S l).b=(S l).b++[(.loc m,cs)]:=fun l m cs=>j4 (ax l m);have ay:∀m,aI.loc m∉c1 (S d.toList):=jY ag.obj;have hle:=H.le;refine bH.mk mixed oC ae3 al5 Ψ ag.obj fun aK cB=>?_;unfold RJ;simp[e3,hu,ay,cK,ax];have fo:((b:Int)-1)=(b-1:Nat):=Ω
 (with_reducible repeat' first|refine aj ?_|simp[hu,ay,cK,ax]);rw[fo];refine H.loopA ar [3] (fun(x:(Nat×Nat)×Array α)=>[(6,.int .i64 x.1.1),(7,.int .i64 x.1.2)]) (·.2) (fun x=>x.1.2+1-x.1.1) (fun x=>x.2.size=n/\x.1.2<n/\Sort.reverseLoop x.1.1 x.1.2 x.2=Sort.reverseRange d a b) ((a,b-1),d) aR ⟨aR,by simp;omega,rfl⟩ (by simp[cK,ax]) aL aL (by simp[aD]) ?_;rintro⟨⟨i,j⟩,cu⟩ ⟨aU,bo,cd⟩;simp only at aU bo cd;rw[Sort.reverseLoop]at cd;simp[Pv.look,H.slc,H.ssc];(with_reducible repeat' first|((first|apply bS|apply bW|apply bV)<;>intro h<;>try simp at h)|refine aj ?_|simp[Pv.look,H.slc,H.ssc])
 ·rw[if_pos Ω]at cd;refine H.swapA aU U _ _ Ω Ω fun o=>?_;have al:((i:Int)+1)=(i+1:Nat):=Ω
  have aE:((j:Int)-1)=(j-1:Nat):=Ω
  simp;((with_reducible repeat' first|refine aj ?_|simp|((first|apply bS|apply bW|apply bV)<;>intro h<;>try simp at h))<;>(try exact cy));rw[al,aE];refine bO.whl ((i+1,j-1),Sort.swp cu i j) (by simp;omega) ⟨by rw[hf,aU],by simp;omega,cd⟩ (H.weakC ar (by simp[hf,aU]) (by simp[aD]))
 ·rw[if_neg Ω]at cd;exact H.retA ar aU (.inr rfl) ⟨rfl,cu,rfl,cd,aU⟩
theorem agh(H:fe S n g cg lc b8 lt)(d:Array α)(aR:d.size=n)(a b:Nat)(nA:a<=b)(ab:b<=n)(U:2<=n):
  bH ak 261 [e3 g cg lc b8,.int .i64 a,.int .i64 b] (S d.toList) fun r ah=>r= .tuple []/\∃cj,ah=S cj.toList/\cj=Sort.heapSort lt d a b/\cj.size=n:=by
 have ag:=H.ok d.toList;have ar:d.toList.length=n:=by simpa using aR
 have ax:∀l m,Pv.look (.loc m) (S l).b=none:=fun l=>(H.ok l).obj.1;have hu:∀l m cs,cA (.loc m) cs (S l).b=(S l).b++[(.loc m,cs)]:=fun l m cs=>j4 (ax l m);have ay:∀m,aI.loc m∉c1 (S d.toList):=jY ag.obj;have hle:=H.le;refine bH.mk mixed oC aeU alW Ψ ag.obj fun aK cB=>?_;unfold RA;simp[e3,hu,ay,cK,ax];(with_reducible repeat' first|refine aj ?_|simp[hu,ay,cK,ax]);have fo:IntKind.i64.wrap (((b:Int)-a-1).tdiv 2)=(((b-a-1)/2+1:Nat):Int)-1:=by
  have e:((b:Int)-a-1).tdiv 2=(((b-a-1)/2+1:Nat):Int)-1:=by
   rcases Nat.eq_or_lt_of_le nA with h|h
   ·subst h;simp
   ·rw[show((b:Int)-a-1)=((b-a-1:Nat):Int) by omega,Int.tdiv_eq_ediv_of_nonneg Ω];omega
  rw[e,pz _ Ω]
 rw[fo];refine H.loopA ar [3,6,7,8] (fun(x:Nat×Array α)=>[(9,.int .i64 ((x.1:Int)-1))]) (·.2) (fun x=>x.1) (fun x=>x.2.size=n/\x.1<=n/\Sort.heapBuild lt (b-a) a x.1 x.2=Sort.heapBuild lt (b-a) a ((b-a-1)/2+1) d) ((b-a-1)/2+1,d) aR ⟨aR,by simp;omega,rfl⟩ (by simp[cK,ax]) aL aL (by simp[aD]) ?_;rintro⟨k,cu⟩ ⟨aU,bo,cd⟩;simp only at aU bo cd;have acz:((b:Int)-a)=(b-a:Nat):=Ω
 simp[Pv.look,H.slc,H.ssc];(with_reducible repeat' first|((first|apply bS|apply bW|apply bV)<;>intro h<;>try simp at h)|refine aj ?_|simp[Pv.look,H.slc,H.ssc])
 ·obtain⟨k,rfl⟩:∃bT,k=bT+1:=⟨k-1,Ω⟩;have Kg:(((k+1:Nat):Int)-1)=(k:Nat):=Ω
  rw[Sort.heapBuild]at cd;simp only[iC H,H.slc,H.ssc,iw,Kg,acz];refine H.doFn (lk:=cu.toList) (by simpa using aU) (R:=fun aZ=> ∃cj,aZ=cj.toList/\cj=Sort.siftDown lt (b-a) a k cu/\cj.size=n) ((TS H cu aU k (b-a) a Ω U Ω).mono fun r ah ⟨bc,cj,bE,b1,c5⟩=>⟨bc,cj.toList,bE,cj,rfl,b1,c5⟩) (by rintro aZ ⟨cj,rfl,_,q⟩;simpa using q) (by simp[aH,aD,H.kdata (lk:=cu.toList) (by simpa using aU)]) ?_;rintro aZ ⟨cj,rfl,bc,bE⟩;simp;((with_reducible repeat' first|refine aj ?_|simp|((first|apply bS|apply bW|apply bV)<;>intro h<;>try simp at h))<;>(try exact cy));refine bO.whl (k,cj) Ψ ⟨bE,by simp;omega,by rw[<-cd,bc]⟩ (H.weakC ar (by simpa using bE) (by simp[aD]))
 ·obtain rfl:k=0:=Ω
  rw[Sort.heapBuild]at cd;have asL:cu.size=n:=aU;refine H.loopA ar [3,6,7] (fun(x:Nat×Array α)=>[(10,.int .i64 ((x.1:Int)-1))]) (·.2) (fun x=>x.1) (fun x=>x.2.size=n/\x.1<=b-a/\Sort.heapPop lt a x.1 x.2=Sort.heapPop lt a (b-a) cu) (b-a,cu) aU ⟨aU,Ψ,rfl⟩ (by simp[Pv.look]) aL aL (by simp[aD];omega) ?_;rintro⟨k,fV⟩ ⟨hc,wY,hs⟩;simp only at hc wY hs;simp[Pv.look,H.slc,H.ssc];(with_reducible repeat' first|((first|apply bS|apply bW|apply bV)<;>intro h<;>try simp at h)|refine aj ?_|simp[Pv.look,H.slc,H.ssc])
  ·obtain⟨k,rfl⟩:∃bT,k=bT+1:=⟨k-1,Ω⟩;have Kg:(((k+1:Nat):Int)-1)=(k:Nat):=Ω
   have acy:((a:Int)+k)=(a+k:Nat):=Ω
   rw[Sort.heapPop]at hs;simp only[Kg,acy];refine H.swapA hc U _ _ Ω Ω fun o=>?_;have L9:(Sort.swp fV a (a+k)).size=n:=by rw[hf,hc]
   simp;simp only[iC H,H.slc,H.ssc,iw];refine H.doFn (lk:=(Sort.swp fV a (a+k)).toList) (by simpa using L9) (R:=fun aZ=> ∃cj,aZ=cj.toList/\cj=Sort.siftDown lt k a 0 (Sort.swp fV a (a+k))/\cj.size=n) ((TS H (Sort.swp fV a (a+k)) L9 0 k a Ω U Ω).mono fun r ah ⟨bc,cj,bE,b1,c5⟩=>⟨bc,cj.toList,bE,cj,rfl,b1,c5⟩) (by rintro aZ ⟨cj,rfl,_,q⟩;simpa using q) (by simp[aH,aD,H.kdata (lk:=(Sort.swp fV a (a+k)).toList) (by simpa using L9)]) ?_;rintro aZ ⟨cj,rfl,bc,bE⟩;simp;((with_reducible repeat' first|refine aj ?_|simp|((first|apply bS|apply bW|apply bV)<;>intro h<;>try simp at h))<;>(try exact cy));refine bO.whl (k,cj) Ψ ⟨bE,by simp;omega,by rw[<-hs,bc]⟩ (H.weakC ar (by simpa using bE) (by simp[aD]))
  ·obtain rfl:k=0:=Ω
   rw[Sort.heapPop]at hs;refine H.retA ar hc (.inr rfl) ⟨rfl,fV,rfl,?_,hc⟩;rw[Sort.heapSort,<-cd,<-hs]
theorem agi(H:fe S n g cg lc b8 lt)(d:Array α)(aR:d.size=n)(a b:Nat)(nA:a<=b)(ab:b<=n):
  bH ak 260 [e3 g cg lc b8,.int .i64 a,.int .i64 b] (S d.toList) fun r ah=>r= .tuple []/\∃cj,ah=S cj.toList/\cj=Sort.insertionSort lt d a b/\cj.size=n:=by
 have ag:=H.ok d.toList;have ar:d.toList.length=n:=by simpa using aR
 have ax:∀l m,Pv.look (.loc m) (S l).b=none:=fun l=>(H.ok l).obj.1;have hu:∀l m cs,cA (.loc m) cs (S l).b=(S l).b++[(.loc m,cs)]:=fun l m cs=>j4 (ax l m);have ay:∀m,aI.loc m∉c1 (S d.toList):=jY ag.obj;have hle:=H.le;refine bH.mk mixed B4 Tn Xe Ψ ag.obj fun aK cB=>?_;unfold JS;simp[e3,hu,ay,cK,ax];have fo:((a:Int)+1)=(a+1:Nat):=Ω
 (with_reducible repeat' first|refine aj ?_|simp[hu,ay,cK,ax]);rw[fo];refine H.loopA ar [1,2,3] (fun(x:Nat×Array α)=>[(6,.int .i64 x.1)]) (·.2) (fun x=>b+1-x.1) (fun x=>x.2.size=n/\x.1<=b+1/\Sort.insOuter lt a b x.1 x.2=Sort.insertionSort lt d a b) (a+1,d) aR ⟨aR,by simp;omega,rfl⟩ (by simp[cK,ax]) aL aL (by simp[aD]) ?_;rintro⟨i,cu⟩ ⟨aU,bo,cd⟩;simp only at aU bo cd;rw[Sort.insOuter]at cd;simp;(with_reducible repeat' first|((first|apply bS|apply bW|apply bV)<;>intro h<;>try simp at h)|refine aj ?_|simp)
 ·rw[if_pos Ω]at cd;refine H.loopA ar [1,2,3,6] (fun(x:Nat×Array α)=>[(7,.int .i64 x.1)]) (·.2) (fun x=>x.1) (fun x=>x.2.size=n/\x.1<=i/\Sort.insInner lt a x.1 x.2=Sort.insInner lt a i cu) (i,cu) aU ⟨aU,Ψ,rfl⟩ (by simp[Pv.look]) aL aL (by simp[aD]) ?_;rintro⟨j,fV⟩ ⟨hc,wY,hs⟩;simp only at hc wY hs;simp[Pv.look,H.slc,H.ssc];(with_reducible repeat' first|((first|apply bS|apply bW|apply bV)<;>intro h<;>try simp at h)|refine aj ?_|simp[Pv.look,H.slc,H.ssc])
  ·obtain⟨j,rfl⟩:∃dP,j=dP+1:=⟨j-1,Ω⟩;have oW:(((j+1:Nat):Int)-1)=(j:Nat):=Ω
   have pQ:((i:Int)+1)=(i+1:Nat):=Ω
   have acC:((j:Int)+1)=(j+1:Nat):=Ω
   rw[Sort.insInner]at hs;have aw:decide (j+1>a)=true:=by simp;omega
   rw[oW];refine H.lessA hc _ _ Ω Ω fun o=>?_;cases af:lt fV[j+1]! fV[j]! with
   |true=>rw[if_pos (by rw[aw,af];rfl)]at hs;simp;(with_reducible repeat' first|refine aj ?_|simp[Pv.look,H.slc,H.ssc]);rw[acC];refine H.swapA hc Ω _ _ Ω Ω fun o=>?_;simp;(with_reducible repeat' first|refine aj ?_|simp);refine bO.whl (j,Sort.swp fV (j+1) j) Ψ ⟨by rw[hf,hc],by simp;omega,hs⟩ (H.weakC ar (by simp[hf,hc]) (by simp[aD]))
   |false=>rw[if_neg (by simp[af])]at hs;simp;((with_reducible repeat' first|refine aj ?_|simp|((first|apply bS|apply bW|apply bV)<;>intro h<;>try simp at h))<;>(try exact cy));rw[pQ];refine bO.whl (i+1,fV) (by simp;omega) ⟨hc,by simp;omega,by rw[<-cd,<-hs]⟩ (H.weakC ar (by simpa using hc) (by simp[aD]))
  ·have pQ:((i:Int)+1)=(i+1:Nat):=Ω
   have yR:Sort.insInner lt a j fV=fV:=by
    cases j with
    |zero=>rfl
    |succ j=>rw[Sort.insInner,if_neg (by simp;omega)]
   rw[pQ];refine bO.whl (i+1,fV) (by simp;omega) ⟨hc,by simp;omega,by rw[<-cd,<-hs,yR]⟩ (H.weakC ar (by simpa using hc) (by simp[aD]))
 ·rw[if_neg Ω]at cd;exact H.retA ar aU (.inr rfl) ⟨rfl,cu,rfl,cd,aU⟩
end
section
open Go Go.Pv
variable {α:Type} [Inhabited α] {S:List α->cH} {n g cg:Nat} {lc b8:List ai} {lt:α->α->Bool}
theorem vS{p:α->Bool}{d:Array α}{i j:Nat}(h:¬(i<=j/\p d[j]! =true)):Sort.scanDown p d i j=j:=by
 cases j with
 |zero=>rfl
 |succ j=>rw[Sort.scanDown,if_neg (by simpa using h)]
theorem BU{p:α->Bool}{d:Array α}{i j:Nat}(h:¬(i<=j/\p d[i]! =true)):Sort.scanUp p d j i=i:=by rw[Sort.scanUp,if_neg (by simpa using h)]
theorem On{p:α->Bool}{d:Array α}{i j:Nat}(J:i<=j)(U:p d[i]! =true):Sort.scanUp p d j i=Sort.scanUp p d j (i+1):=by rw[Sort.scanUp,if_pos (by simp[J,U])]
theorem Om{p:α->Bool}{d:Array α}{i j:Nat}(J:i<=j+1)(U:p d[j+1]! =true):Sort.scanDown p d i (j+1)=Sort.scanDown p d i j:=by rw[Sort.scanDown,if_pos (by simp[J,U])]
theorem agu(H:fe S n g cg lc b8 lt)(d:Array α)(aR:d.size=n)(a b pivot:Nat)(se:a<=pivot)(aih:pivot<b)(nA:a+1<b)(ab:b<=n):
  bH ak 267 [e3 g cg lc b8,.int .i64 a,.int .i64 b,.int .i64 pivot] (S d.toList) fun r ah=>r= .tuple [.int .i64 (Sort.partition lt d a b pivot).1,.bool (Sort.partition lt d a b pivot).2.1]/\∃cj,ah=S cj.toList/\cj=(Sort.partition lt d a b pivot).2.2/\cj.size=n:=by
 obtain⟨R,aV⟩:∃R,R=Sort.partition lt d a b pivot:=⟨_,rfl⟩;rw[<-aV];unfold Sort.partition at aV;have ag:=H.ok d.toList;have ar:d.toList.length=n:=by simpa using aR
 have ax:∀l m,Pv.look (.loc m) (S l).b=none:=fun l=>(H.ok l).obj.1;have hu:∀l m cs,cA (.loc m) cs (S l).b=(S l).b++[(.loc m,cs)]:=fun l m cs=>j4 (ax l m);have ay:∀m,aI.loc m∉c1 (S d.toList):=jY ag.obj;have hle:=H.le;refine bH.mk mixed oC ae1 al3 Ψ ag.obj fun aK cB=>?_;unfold RH;simp[e3,hu,ay,cK,ax];rw[H.ssc];refine H.swapA0 aR Ω a pivot Ω Ω fun o=>?_;obtain⟨d1,fC⟩:∃d1,d1=Sort.swp d a pivot:=⟨_,rfl⟩;have s1:d1.size=n:=by rw[fC,hf,aR]
 rw[<-fC];simp only[<-fC]at aV;have al:((a:Int)+1)=(a+1:Nat):=Ω
 have aE:((b:Int)-1)=(b-1:Nat):=Ω
 simp;(with_reducible repeat' first|refine aj ?_|simp);rw[al,aE];refine H.loopA ar [1,4,11] (fun(i:Nat)=>[(10,.int .i64 i)]) (fun _=>d1) (fun i=>b+1-i) (fun i=>a+1<=i/\i<=b/\Sort.scanUp (fun x=>lt x d1[a]!) d1 (b-1) i=Sort.scanUp (fun x=>lt x d1[a]!) d1 (b-1) (a+1)) (a+1) s1 ⟨Ω,Ω,rfl⟩ (by simp[Pv.look]) aL aL (by simp[aD]) ?_;rintro i ⟨i1,i2,i3⟩;simp[Pv.look,H.slc];((with_reducible repeat' first|refine aj ?_|simp[Pv.look,H.slc]|((first|apply bS|apply bW|apply bV)<;>intro h<;>try simp at h))<;>(try exact cy));refine H.lessA s1 i a Ω Ω fun o=>?_;cases af:lt d1[i]! d1[a]!;rotate_left
 ·have pQ:((i:Int)+1)=(i+1:Nat):=Ω
  simp;(with_reducible repeat' first|refine aj ?_|simp);rw[pQ];refine bO.whl (i+1) Ω ⟨Ω,Ω,by rw[<-i3];exact(On (p:=fun x=>lt x d1[a]!) Ω af).symm⟩ (H.weakC ar (by simpa using s1) (by simp[aD]))
 rotate_left
 ·have i4:Sort.scanUp (fun x=>lt x d1[a]!) d1 (b-1) i=i:=BU (by simp[af]);rw[i4]at i3;rw[<-i3]at aV;simp;refine H.loopA ar [1,4,10] (fun(j:Nat)=>[(11,.int .i64 j)]) (fun _=>d1) (fun j=>j) (fun j=>i<=j+1/\j<=b-1/\Sort.scanDown (fun x=> !lt x d1[a]!) d1 i j=Sort.scanDown (fun x=> !lt x d1[a]!) d1 i (b-1)) (b-1) s1 ⟨Ω,Ω,rfl⟩ (by simp[Pv.look]) aL aL (by simp[aD]) ?_;rintro j ⟨hc,wY,hs⟩;simp[Pv.look,H.slc];((with_reducible repeat' first|refine aj ?_|simp[Pv.look,H.slc,H.ssc]|((first|apply bS|apply bW|apply bV)<;>intro h<;>try simp at h))<;>(try exact cy))
  ·refine H.lessA s1 j a Ω Ω fun o=>?_;cases aO:lt d1[j]! d1[a]!
   ·obtain⟨j,rfl⟩:∃dP,j=dP+1:=⟨j-1,Ω⟩;have oW:(((j+1:Nat):Int)-1)=(j:Nat):=Ω
    simp;(with_reducible repeat' first|refine aj ?_|simp);try rw[oW]
    refine bO.whl j Ω ⟨Ω,Ω,by rw[<-hs];exact(Om (p:=fun x=> !lt x d1[a]!) Ω (by simp[aO])).symm⟩ (H.weakC ar (by simpa using s1) (by simp[aD]))
   ·have yR:Sort.scanDown (fun x=> !lt x d1[a]!) d1 i j=j:=vS (by simp[aO]);have cM:i≠j:=fun e=>by subst e;rw[af]at aO;cases aO
    rw[yR]at hs;rw[<-hs,if_neg Ω]at aV;simp;((with_reducible repeat' first|refine aj ?_|simp[Pv.look,H.slc,H.ssc]|((first|apply bS|apply bW|apply bV)<;>intro h<;>try simp at h))<;>(try exact cy));refine H.swapA s1 Ω i j Ω Ω fun o=>?_;obtain⟨d2,eW⟩:∃d2,d2=Sort.swp d1 i j:=⟨_,rfl⟩;have s2:d2.size=n:=by rw[eW,hf,s1]
    rw[<-eW];rw[<-eW]at aV;have bn:((i:Int)+1)=(i+1:Nat):=Ω
    have dh:((j:Int)-1)=(j-1:Nat):=Ω
    simp;(with_reducible repeat' first|refine aj ?_|simp);rw[bn,dh];refine H.loopA ar [1,4] (fun(x:(Nat×Nat)×Array α)=>[(10,.int .i64 x.1.1),(11,.int .i64 x.1.2)]) (·.2) (fun x=>x.1.2+1-x.1.1) (fun x=>x.2.size=n/\(a+1<=x.1.1/\x.1.1<=x.1.2+1/\x.1.2<=b-1)/\Sort.partLoop lt a x.1.1 x.1.2 x.2=Sort.partLoop lt a (i+1) (j-1) d2) ((i+1,j-1),d2) s2 ⟨s2,⟨by simp;omega,by simp;omega,by simp;omega⟩,rfl⟩ (by simp[Pv.look]) aL aL (by simp[aD]) ?_;rintro⟨⟨wX,dP⟩,cu⟩ ⟨aU,⟨bo,cd,e9⟩,di⟩;simp only at aU bo cd e9 di;rw[Sort.partLoop]at di;generalize ny:Sort.partLoop lt a (i+1) (j-1) d2=G at di aV;simp;refine H.loopA ar [1,4,11] (fun(x:Nat)=>[(10,.int .i64 x)]) (fun _=>cu) (fun x=>b+1-x) (fun x=>wX<=x/\x<=dP+1/\Sort.scanUp (fun x=>lt x cu[a]!) cu dP x=Sort.scanUp (fun x=>lt x cu[a]!) cu dP wX) wX aU ⟨Ω,Ω,rfl⟩ (by simp[Pv.look]) aL aL (by simp[aD]) ?_;rintro p ⟨cV,dC,jg⟩;simp[Pv.look,H.slc];((with_reducible repeat' first|refine aj ?_|simp[Pv.look,H.slc]|((first|apply bS|apply bW|apply bV)<;>intro h<;>try simp at h))<;>(try exact cy))
    ·refine H.lessA aU p a Ω Ω fun o=>?_;cases iy:lt cu[p]! cu[a]!;rotate_left
     ·have pQ:((p:Int)+1)=(p+1:Nat):=Ω
      simp;(with_reducible repeat' first|refine aj ?_|simp);rw[pQ];refine bO.whl (p+1) Ω ⟨Ω,Ω,by rw[<-jg];exact(On (p:=fun x=>lt x cu[a]!) Ω iy).symm⟩ (H.weakC ar (by simpa using aU) (by simp[aD]))
     ·have vE:Sort.scanUp (fun x=>lt x cu[a]!) cu dP p=p:=BU (by simp[iy]);rw[vE]at jg;simp only[<-jg]at di;simp;refine H.loopA ar [1,4,10] (fun(x:Nat)=>[(11,.int .i64 x)]) (fun _=>cu) (fun x=>x) (fun x=>p<=x+1/\x<=dP/\Sort.scanDown (fun x=> !lt x cu[a]!) cu p x=Sort.scanDown (fun x=> !lt x cu[a]!) cu p dP) dP aU ⟨Ω,Ω,rfl⟩ (by simp[Pv.look]) aL aL (by simp[aD]) ?_;rintro q ⟨bc,bE,b1⟩;simp[Pv.look,H.slc];((with_reducible repeat' first|refine aj ?_|simp[Pv.look,H.slc,H.ssc]|((first|apply bS|apply bW|apply bV)<;>intro h<;>try simp at h))<;>(try exact cy))
      ·refine H.lessA aU q a Ω Ω fun o=>?_;cases sv:lt cu[q]! cu[a]!
       ·obtain⟨q,rfl⟩:∃dP,q=dP+1:=⟨q-1,Ω⟩;have oW:(((q+1:Nat):Int)-1)=(q:Nat):=Ω
        simp;(with_reducible repeat' first|refine aj ?_|simp);try rw[oW]
        refine bO.whl q Ω ⟨Ω,Ω,by rw[<-b1];exact(Om (p:=fun x=> !lt x cu[a]!) Ω (by simp[sv])).symm⟩ (H.weakC ar (by simpa using aU) (by simp[aD]))
       ·have c5:Sort.scanDown (fun x=> !lt x cu[a]!) cu p q=q:=vS (by simp[sv]);have cM:p≠q:=fun e=>by subst e;rw[iy]at sv;cases sv
        rw[c5]at b1;simp only[<-b1]at di;rw[if_neg Ω,dif_pos Ω]at di;simp;((with_reducible repeat' first|refine aj ?_|simp[Pv.look,H.slc,H.ssc]|((first|apply bS|apply bW|apply bV)<;>intro h<;>try simp at h))<;>(try exact cy));refine H.swapA aU Ω p q Ω Ω fun o=>?_;have hq:((p:Int)+1)=(p+1:Nat):=Ω
        have h0:((q:Int)-1)=(q-1:Nat):=Ω
        simp;(with_reducible repeat' first|((first|apply bS|apply bW|apply bV)<;>intro h<;>try simp at h)|refine aj ?_|simp);rw[hq,h0];refine bO.whl ((p+1,q-1),Sort.swp cu p q) (by simp;omega) ⟨by rw[hf,aU],⟨by simp;omega,by simp;omega,by simp;omega⟩,di⟩ (H.weakC ar (by simp[hf,aU]) (by simp[aD]))
      ·have c5:Sort.scanDown (fun x=> !lt x cu[a]!) cu p q=q:=vS Ω;rw[c5]at b1;simp only[<-b1]at di;rw[if_pos Ω]at di;rw[<-di]at aV;refine H.swapA aU Ω q a Ω Ω fun o=>?_;simp;refine H.retR ar (d:=Sort.swp cu q a) (by rw[hf,aU]) (.inl rfl) ?_;simp[cL,Et,aX,aY,aW];rw[aV];exact⟨⟨rfl,rfl⟩,_,rfl,rfl,by rw[hf,aU]⟩
    ·have vE:Sort.scanUp (fun x=>lt x cu[a]!) cu dP p=p:=BU Ω;rw[vE]at jg;simp only[<-jg]at di;have c5:Sort.scanDown (fun x=> !lt x cu[a]!) cu p dP=dP:=vS Ω;rw[c5,if_pos Ω]at di;rw[<-di]at aV;refine H.loopA ar [1,4,10] (fun(x:Nat)=>[(11,.int .i64 x)]) (fun _=>cu) (fun x=>x) (fun x=>x=dP) dP aU rfl (by simp[Pv.look]) aL aL (by simp[aD]) ?_;rintro q rfl;simp[Pv.look,H.slc];((with_reducible repeat' first|refine aj ?_|simp[Pv.look,H.slc,H.ssc]|((first|apply bS|apply bW|apply bV)<;>intro h<;>try simp at h))<;>(try exact cy));refine H.swapA aU Ω q a Ω Ω fun o=>?_;simp;refine H.retR ar (d:=Sort.swp cu q a) (by rw[hf,aU]) (.inl rfl) ?_;simp[cL,Et,aX,aY,aW];rw[aV];exact⟨⟨rfl,rfl⟩,_,rfl,rfl,by rw[hf,aU]⟩
  ·have yR:Sort.scanDown (fun x=> !lt x d1[a]!) d1 i j=j:=vS Ω;rw[yR]at hs;rw[<-hs,if_pos Ω]at aV;refine H.swapA s1 Ω j a Ω Ω fun o=>?_;simp;refine H.retR ar (d:=Sort.swp d1 j a) (by rw[hf,s1]) (.inl rfl) ?_;simp[cL,Et,aX,aY,aW];rw[aV];exact⟨⟨rfl,rfl⟩,_,rfl,rfl,by rw[hf,s1]⟩
 ·have i4:Sort.scanUp (fun x=>lt x d1[a]!) d1 (b-1) i=i:=BU Ω;rw[i4]at i3;have yR:Sort.scanDown (fun x=> !lt x d1[a]!) d1 i (b-1)=b-1:=vS Ω;rw[<-i3,yR,if_pos Ω]at aV;refine H.loopA ar [1,4,10] (fun(j:Nat)=>[(11,.int .i64 j)]) (fun _=>d1) (fun j=>j) (fun j=>j=b-1) (b-1) s1 rfl (by simp[Pv.look]) aL aL (by simp[aD]) ?_;rintro j rfl;simp[Pv.look,H.slc];((with_reducible repeat' first|refine aj ?_|simp[Pv.look,H.slc,H.ssc]|((first|apply bS|apply bW|apply bV)<;>intro h<;>try simp at h))<;>(try exact cy));refine H.swapA s1 Ω (b-1) a Ω Ω fun o=>?_;simp;refine H.retR ar (d:=Sort.swp d1 (b-1) a) (by rw[hf,s1]) (.inl rfl) ?_;simp[cL,Et,aX,aY,aW];rw[aV];exact⟨⟨rfl,rfl⟩,_,rfl,rfl,by rw[hf,s1]⟩
end
section
open Go Go.Pv
variable {α:Type} [Inhabited α] {S:List α->cH} {n g cg:Nat} {lc b8:List ai} {lt:α->α->Bool}
theorem agv(H:fe S n g cg lc b8 lt)(d:Array α)(aR:d.size=n)(a b pivot:Nat)(se:a<=pivot)(aih:pivot<b)(nA:a+1<b)(ab:b<=n):
  bH ak 266 [e3 g cg lc b8,.int .i64 a,.int .i64 b,.int .i64 pivot] (S d.toList) fun r ah=>r= .int .i64 (Sort.partitionEqual lt d a b pivot).1/\∃cj,ah=S cj.toList/\cj=(Sort.partitionEqual lt d a b pivot).2/\cj.size=n:=by
 obtain⟨R,aV⟩:∃R,R=Sort.partitionEqual lt d a b pivot:=⟨_,rfl⟩;rw[<-aV];unfold Sort.partitionEqual at aV;have ag:=H.ok d.toList;have ar:d.toList.length=n:=by simpa using aR
 have ax:∀l m,Pv.look (.loc m) (S l).b=none:=fun l=>(H.ok l).obj.1;have hu:∀l m cs,cA (.loc m) cs (S l).b=(S l).b++[(.loc m,cs)]:=fun l m cs=>j4 (ax l m);have ay:∀m,aI.loc m∉c1 (S d.toList):=jY ag.obj;have hle:=H.le;refine bH.mk mixed oC ae0 al2 Ψ ag.obj fun aK cB=>?_;unfold RG;simp[e3,hu,ay,cK,ax];rw[H.ssc];refine H.swapA0 aR Ω a pivot Ω Ω fun o=>?_;obtain⟨d1,fC⟩:∃d1,d1=Sort.swp d a pivot:=⟨_,rfl⟩;have s1:d1.size=n:=by rw[fC,hf,aR]
 rw[<-fC];rw[<-fC]at aV;have al:((a:Int)+1)=(a+1:Nat):=Ω
 have aE:((b:Int)-1)=(b-1:Nat):=Ω
 simp;(with_reducible repeat' first|refine aj ?_|simp);rw[al,aE];refine H.loopA ar [1,4] (fun(x:(Nat×Nat)×Array α)=>[(9,.int .i64 x.1.1),(10,.int .i64 x.1.2)]) (·.2) (fun x=>x.1.2+1-x.1.1) (fun x=>x.2.size=n/\(a+1<=x.1.1/\x.1.1<=x.1.2+1/\x.1.2<=b-1)/\Sort.partEqLoop lt a x.1.1 x.1.2 x.2=R) ((a+1,b-1),d1) s1 ⟨s1,⟨Ψ,by simp;omega,Ψ⟩,aV.symm⟩ (by simp[Pv.look]) aL aL (by simp[aD]) ?_;rintro⟨⟨wX,dP⟩,cu⟩ ⟨aU,⟨bo,cd,e9⟩,di⟩;simp only at aU bo cd e9 di;rw[Sort.partEqLoop]at di;simp;refine H.loopA ar [1,4,10] (fun(x:Nat)=>[(9,.int .i64 x)]) (fun _=>cu) (fun x=>b+1-x) (fun x=>wX<=x/\x<=dP+1/\Sort.scanUp (fun x=> !lt cu[a]! x) cu dP x=Sort.scanUp (fun x=> !lt cu[a]! x) cu dP wX) wX aU ⟨Ω,Ω,rfl⟩ (by simp[Pv.look]) aL aL (by simp[aD]) ?_;rintro p ⟨cV,dC,jg⟩;simp[Pv.look,H.slc];((with_reducible repeat' first|refine aj ?_|simp[Pv.look,H.slc]|((first|apply bS|apply bW|apply bV)<;>intro h<;>try simp at h))<;>(try exact cy))
 ·refine H.lessA aU a p Ω Ω fun o=>?_;cases iy:lt cu[a]! cu[p]!
  ·have pQ:((p:Int)+1)=(p+1:Nat):=Ω
   simp;(with_reducible repeat' first|refine aj ?_|simp);rw[pQ];refine bO.whl (p+1) Ω ⟨Ω,Ω,by rw[<-jg];exact(On (p:=fun x=> !lt cu[a]! x) Ω (by simp[iy])).symm⟩ (H.weakC ar (by simpa using aU) (by simp[aD]))
  ·have vE:Sort.scanUp (fun x=> !lt cu[a]! x) cu dP p=p:=BU (by simp[iy]);rw[vE]at jg;simp only[<-jg]at di;simp;refine H.loopA ar [1,4,9] (fun(x:Nat)=>[(10,.int .i64 x)]) (fun _=>cu) (fun x=>x) (fun x=>p<=x+1/\x<=dP/\Sort.scanDown (fun x=>lt cu[a]! x) cu p x=Sort.scanDown (fun x=>lt cu[a]! x) cu p dP) dP aU ⟨Ω,Ω,rfl⟩ (by simp[Pv.look]) aL aL (by simp[aD]) ?_;rintro q ⟨bc,bE,b1⟩;simp[Pv.look,H.slc];((with_reducible repeat' first|refine aj ?_|simp[Pv.look,H.slc,H.ssc]|((first|apply bS|apply bW|apply bV)<;>intro h<;>try simp at h))<;>(try exact cy))
   ·refine H.lessA aU a q Ω Ω fun o=>?_;cases sv:lt cu[a]! cu[q]!;rotate_left
    ·obtain⟨q,rfl⟩:∃dP,q=dP+1:=⟨q-1,Ω⟩;have oW:(((q+1:Nat):Int)-1)=(q:Nat):=Ω
     simp;(with_reducible repeat' first|refine aj ?_|simp);try rw[oW]
     refine bO.whl q Ω ⟨Ω,Ω,by rw[<-b1];exact(Om (p:=fun x=>lt cu[a]! x) Ω (by simp[sv])).symm⟩ (H.weakC ar (by simpa using aU) (by simp[aD]))
    ·have c5:Sort.scanDown (fun x=>lt cu[a]! x) cu p q=q:=vS (by simp[sv]);have cM:p≠q:=fun e=>by subst e;rw[iy]at sv;cases sv
     rw[c5]at b1;simp only[<-b1]at di;rw[if_neg Ω,dif_pos Ω]at di;simp;((with_reducible repeat' first|refine aj ?_|simp[Pv.look,H.slc,H.ssc]|((first|apply bS|apply bW|apply bV)<;>intro h<;>try simp at h))<;>(try exact cy));refine H.swapA aU Ω p q Ω Ω fun o=>?_;have hq:((p:Int)+1)=(p+1:Nat):=Ω
     have h0:((q:Int)-1)=(q-1:Nat):=Ω
     simp;(with_reducible repeat' first|((first|apply bS|apply bW|apply bV)<;>intro h<;>try simp at h)|refine aj ?_|simp);rw[hq,h0];refine bO.whl ((p+1,q-1),Sort.swp cu p q) (by simp;omega) ⟨by rw[hf,aU],⟨by simp;omega,by simp;omega,by simp;omega⟩,di⟩ (H.weakC ar (by simp[hf,aU]) (by simp[aD]))
   ·have c5:Sort.scanDown (fun x=>lt cu[a]! x) cu p q=q:=vS Ω;rw[c5]at b1;simp only[<-b1]at di;rw[if_pos Ω]at di;refine H.retR ar (d:=cu) aU (.inl rfl) ?_;simp[cL,NL,aX,aY,aW];rw[<-di];exact⟨rfl,_,rfl,rfl,aU⟩
 ·have vE:Sort.scanUp (fun x=> !lt cu[a]! x) cu dP p=p:=BU Ω;rw[vE]at jg;simp only[<-jg]at di;have c5:Sort.scanDown (fun x=>lt cu[a]! x) cu p dP=dP:=vS Ω;rw[c5,if_pos Ω]at di;refine H.loopA ar [1,4,9] (fun(x:Nat)=>[(10,.int .i64 x)]) (fun _=>cu) (fun x=>x) (fun x=>x=dP) dP aU rfl (by simp[Pv.look]) aL aL (by simp[aD]) ?_;rintro q rfl;simp[Pv.look,H.slc];((with_reducible repeat' first|refine aj ?_|simp[Pv.look,H.slc,H.ssc]|((first|apply bS|apply bW|apply bV)<;>intro h<;>try simp at h))<;>(try exact cy));refine H.retR ar (d:=cu) aU (.inl rfl) ?_;simp[cL,NL,aX,aY,aW];rw[<-di];exact⟨rfl,_,rfl,rfl,aU⟩
end
section
open Go Go.Pv
variable {α:Type} [Inhabited α] {S:List α->cH} {n g cg:Nat} {lc b8:List ai} {lt:α->α->Bool}
theorem agt(H:fe S n g cg lc b8 lt)(d:Array α)(aR:d.size=n)(a b:Nat)(nA:a<b)(ab:b<=n)(U:2<=n):
  bH ak 265 [e3 g cg lc b8,.int .i64 a,.int .i64 b] (S d.toList) fun r ah=>r= .bool (Sort.partialInsertionSort lt d a b).2/\∃cj,ah=S cj.toList/\cj=(Sort.partialInsertionSort lt d a b).1/\cj.size=n:=by
 obtain⟨R,aV⟩:∃R,R=Sort.partialInsertionSort lt d a b:=⟨_,rfl⟩;rw[<-aV];unfold Sort.partialInsertionSort at aV;have ag:=H.ok d.toList;have ar:d.toList.length=n:=by simpa using aR
 have ax:∀l m,Pv.look (.loc m) (S l).b=none:=fun l=>(H.ok l).obj.1;have hu:∀l m cs,cA (.loc m) cs (S l).b=(S l).b++[(.loc m,cs)]:=fun l m cs=>j4 (ax l m);have ay:∀m,aI.loc m∉c1 (S d.toList):=jY ag.obj;have hle:=H.le;refine bH.mk mixed oC aeZ al1 Ψ ag.obj fun aK cB=>?_;unfold RF;simp[e3,hu,ay,cK,ax];have al:((a:Int)+1)=(a+1:Nat):=Ω
 (with_reducible repeat' first|refine aj ?_|simp);rw[al];refine H.loopA ar [1,2,3] (fun(x:(Nat×Nat)×Array α)=>[(7,.int .i64 x.1.1),(8,.int .i64 x.1.2)]) (·.2) (fun x=>5-x.1.2) (fun x=>x.2.size=n/\(a+1<=x.1.1/\x.1.1<=b/\x.1.2<=5)/\Sort.partialIns lt a b (5-x.1.2) x.1.1 x.2=R) ((a+1,0),d) aR ⟨aR,⟨Ψ,by simp;omega,Ψ⟩,aV.symm⟩ (by simp[cK,ax]) aL aL (by simp[aD]) ?_;rintro⟨⟨i0,s⟩,cu⟩ ⟨aU,⟨bo,cd,e9⟩,di⟩;simp only at aU bo cd e9 di;simp;((with_reducible repeat' first|refine aj ?_|simp|((first|apply bS|apply bW|apply bV)<;>intro h<;>try simp at h))<;>(try exact cy))
 ·obtain⟨m,hm⟩:∃m,5-s=m+1:=⟨5-s-1,Ω⟩;rw[hm,Sort.partialIns]at di;refine H.loopA ar [1,2,3,8] (fun(x:Nat)=>[(7,.int .i64 x)]) (fun _=>cu) (fun x=>b-x) (fun x=>i0<=x/\x<=b/\Sort.scanSorted lt cu b x=Sort.scanSorted lt cu b i0) i0 aU ⟨Ω,Ω,rfl⟩ (by simp[Pv.look]) aL aL (by simp[aD]) ?_;rintro i ⟨i1,i2,i3⟩;rw[Sort.scanSorted]at i3;have pQ:((i:Int)+1)=(i+1:Nat):=Ω
  have F1:((i:Int)-1)=(i-1:Nat):=Ω
  have es:((s:Int)+1)=(s+1:Nat):=Ω
  have em:5-(s+1)=m:=Ω
  simp[Pv.look,H.slc];((with_reducible repeat' first|refine aj ?_|simp[Pv.look,H.slc]|((first|apply bS|apply bW|apply bV)<;>intro h<;>try simp at h))<;>(try exact cy))
  ·rw[F1];refine H.lessA aU i (i-1) Ω Ω fun o=>?_;cases af:lt cu[i]! cu[i-1]!
   ·rw[if_pos (by simp[af];omega)]at i3;simp;(with_reducible repeat' first|refine aj ?_|simp);rw[pQ];refine bO.whl (i+1) Ω ⟨Ω,Ω,i3⟩ (H.weakC ar (by simpa using aU) (by simp[aD]))
   ·rw[if_neg (by simp[af])]at i3;simp only[<-i3]at di;rw[if_neg Ω]at di;have AM:(i:Int)≠b:=Ω
    have ahG:((i:Int)==b)=false:=by simp;omega
    simp;((with_reducible repeat' first|refine aj ?_|simp[AM,ahG,Pv.look,H.slc,H.ssc]|((first|apply bS|apply bW|apply bV)<;>intro h<;>try simp at h))<;>(try exact cy))
    ·rw[if_pos Ω]at di;refine H.retR ar (d:=cu) aU (.inl rfl) ?_;simp[cL,H6,aX,aY,aW];rw[<-di];exact⟨rfl,_,rfl,rfl,aU⟩
    ·rw[if_neg Ω]at di;rw[F1];refine H.swapA aU U i (i-1) Ω Ω fun o=>?_;obtain⟨d2,eW⟩:∃d2,d2=Sort.swp cu i (i-1):=⟨_,rfl⟩;have s2:d2.size=n:=by rw[eW,hf,aU]
     rw[<-eW];simp only[<-eW]at di;by_cases jW:2<=b-i
     ·rw[if_pos jW]at di;have tN:(2:Int)<=(b:Int)-i:=Ω
      by_cases C6:2<=i-a
      ·rw[if_pos C6]at di;have yt:(2:Int)<=(i:Int)-a:=Ω
       simp;(with_reducible repeat' first|refine aj ?_|simp[yt]);rw[F1];refine H.loopA ar [1,2,3,7,8] (fun(x:Nat×Array α)=>[(9,.int .i64 x.1)]) (·.2) (fun x=>x.1) (fun x=>x.2.size=n/\x.1<=i-1/\Sort.shiftDown lt x.1 x.2=Sort.shiftDown lt (i-1) d2) (i-1,d2) s2 ⟨s2,Ψ,rfl⟩ (by simp[Pv.look]) aL aL (by simp[aD]) ?_;rintro⟨j,fV⟩ ⟨hc,wY,hs⟩;simp only at hc wY hs;simp[Pv.look,H.slc,H.ssc];((with_reducible repeat' first|refine aj ?_|simp[Pv.look,H.slc,H.ssc,tN]|((first|apply bS|apply bW|apply bV)<;>intro h<;>try simp at h))<;>(try exact cy))
       ·obtain⟨j,rfl⟩:∃dP,j=dP+1:=⟨j-1,Ω⟩;have oW:(((j+1:Nat):Int)-1)=(j:Nat):=Ω
        rw[Sort.shiftDown]at hs;try rw[oW]
        refine H.lessA hc (j+1) j Ω Ω fun o=>?_;cases aO:lt fV[j+1]! fV[j]!
        ·rw[if_pos (by simp[aO])]at hs;rw[<-hs]at di;try simp
         try(with_reducible repeat' first|refine aj ?_|simp[Pv.look,H.slc,H.ssc,tN])
         rw[pQ];refine H.loopA ar [1,2,3,7,8] (fun(x:Nat×Array α)=>[(10,.int .i64 x.1)]) (·.2) (fun x=>b-x.1) (fun x=>x.2.size=n/\(i+1<=x.1/\x.1<=b)/\Sort.shiftUp lt b x.1 x.2=Sort.shiftUp lt b (i+1) fV) (i+1,fV) hc ⟨hc,⟨Ψ,by simp;omega⟩,rfl⟩ (by simp[Pv.look]) aL aL (by simp[aD]) ?_;rintro⟨q,nr⟩ ⟨bc,⟨bE,zg⟩,b1⟩;simp only at bc bE zg b1;rw[Sort.shiftUp]at b1;have eq:((q:Int)-1)=(q-1:Nat):=Ω
         have CE:((q:Int)+1)=(q+1:Nat):=Ω
         simp[Pv.look,H.slc,H.ssc];((with_reducible repeat' first|refine aj ?_|simp[Pv.look,H.slc,H.ssc]|((first|apply bS|apply bW|apply bV)<;>intro h<;>try simp at h))<;>(try exact cy))
         ·rw[if_pos Ω]at b1;rw[eq];refine H.lessA bc q (q-1) Ω Ω fun o=>?_;cases bp:lt nr[q]! nr[q-1]!
          ·rw[if_pos (by simp[bp])]at b1;rw[<-b1]at di;simp;(with_reducible repeat' first|refine aj ?_|simp);rw[es];refine bO.whl ((i,s+1),nr) (by simp;omega) ⟨bc,⟨by simp;omega,by simp;omega,by simp;omega⟩,by simp only[em];exact di⟩ (H.weakC ar (by simpa using bc) (by simp[aD]))
          ·rw[if_neg (by simp[bp])]at b1;simp;(with_reducible repeat' first|refine aj ?_|simp[Pv.look,H.slc,H.ssc]);rw[eq];refine H.swapA bc Ω q (q-1) Ω Ω fun o=>?_;simp;((with_reducible repeat' first|refine aj ?_|simp|((first|apply bS|apply bW|apply bV)<;>intro h<;>try simp at h))<;>(try exact cy));rw[CE];refine bO.whl (q+1,Sort.swp nr q (q-1)) (by simp;omega) ⟨by rw[hf,bc],⟨by simp;omega,by simp;omega⟩,b1⟩ (H.weakC ar (by simp[hf,bc]) (by simp[aD]))
         ·rw[if_neg Ω]at b1;rw[<-b1]at di;rw[es];refine bO.whl ((i,s+1),nr) (by simp;omega) ⟨bc,⟨by simp;omega,by simp;omega,by simp;omega⟩,by simp only[em];exact di⟩ (H.weakC ar (by simpa using bc) (by simp[aD]))
        ·rw[if_neg (by simp[aO])]at hs;simp;(with_reducible repeat' first|refine aj ?_|simp[Pv.look,H.slc,H.ssc]);try rw[oW]
         refine H.swapA hc U (j+1) j Ω Ω fun o=>?_;simp;((with_reducible repeat' first|refine aj ?_|simp|((first|apply bS|apply bW|apply bV)<;>intro h<;>try simp at h))<;>(try exact cy));try rw[oW]
         refine bO.whl (j,Sort.swp fV (j+1) j) Ψ ⟨by rw[hf,hc],by simp;omega,hs⟩ (H.weakC ar (by simp[hf,hc]) (by simp[aD]))
       ·obtain rfl:j=0:=Ω
        rw[Sort.shiftDown]at hs;rw[<-hs]at di;try simp
        try(with_reducible repeat' first|refine aj ?_|simp[Pv.look,H.slc,H.ssc,tN])
        rw[pQ];refine H.loopA ar [1,2,3,7,8] (fun(x:Nat×Array α)=>[(10,.int .i64 x.1)]) (·.2) (fun x=>b-x.1) (fun x=>x.2.size=n/\(i+1<=x.1/\x.1<=b)/\Sort.shiftUp lt b x.1 x.2=Sort.shiftUp lt b (i+1) fV) (i+1,fV) hc ⟨hc,⟨Ψ,by simp;omega⟩,rfl⟩ (by simp[Pv.look]) aL aL (by simp[aD]) ?_;rintro⟨q,nr⟩ ⟨bc,⟨bE,zg⟩,b1⟩;simp only at bc bE zg b1;rw[Sort.shiftUp]at b1;have eq:((q:Int)-1)=(q-1:Nat):=Ω
        have CE:((q:Int)+1)=(q+1:Nat):=Ω
        simp[Pv.look,H.slc,H.ssc];((with_reducible repeat' first|refine aj ?_|simp[Pv.look,H.slc,H.ssc]|((first|apply bS|apply bW|apply bV)<;>intro h<;>try simp at h))<;>(try exact cy))
        ·rw[if_pos Ω]at b1;rw[eq];refine H.lessA bc q (q-1) Ω Ω fun o=>?_;cases bp:lt nr[q]! nr[q-1]!
         ·rw[if_pos (by simp[bp])]at b1;rw[<-b1]at di;simp;(with_reducible repeat' first|refine aj ?_|simp);rw[es];refine bO.whl ((i,s+1),nr) (by simp;omega) ⟨bc,⟨by simp;omega,by simp;omega,by simp;omega⟩,by simp only[em];exact di⟩ (H.weakC ar (by simpa using bc) (by simp[aD]))
         ·rw[if_neg (by simp[bp])]at b1;simp;(with_reducible repeat' first|refine aj ?_|simp[Pv.look,H.slc,H.ssc]);rw[eq];refine H.swapA bc Ω q (q-1) Ω Ω fun o=>?_;simp;((with_reducible repeat' first|refine aj ?_|simp|((first|apply bS|apply bW|apply bV)<;>intro h<;>try simp at h))<;>(try exact cy));rw[CE];refine bO.whl (q+1,Sort.swp nr q (q-1)) (by simp;omega) ⟨by rw[hf,bc],⟨by simp;omega,by simp;omega⟩,b1⟩ (H.weakC ar (by simp[hf,bc]) (by simp[aD]))
        ·rw[if_neg Ω]at b1;rw[<-b1]at di;rw[es];refine bO.whl ((i,s+1),nr) (by simp;omega) ⟨bc,⟨by simp;omega,by simp;omega,by simp;omega⟩,by simp only[em];exact di⟩ (H.weakC ar (by simpa using bc) (by simp[aD]))
      ·rw[if_neg C6]at di;have yt:¬(2:Int)<=(i:Int)-a:=Ω
       simp;(with_reducible repeat' first|refine aj ?_|simp[yt,tN]);try simp
       try(with_reducible repeat' first|refine aj ?_|simp[Pv.look,H.slc,H.ssc,tN])
       rw[pQ];refine H.loopA ar [1,2,3,7,8] (fun(x:Nat×Array α)=>[(10,.int .i64 x.1)]) (·.2) (fun x=>b-x.1) (fun x=>x.2.size=n/\(i+1<=x.1/\x.1<=b)/\Sort.shiftUp lt b x.1 x.2=Sort.shiftUp lt b (i+1) d2) (i+1,d2) s2 ⟨s2,⟨Ψ,by simp;omega⟩,rfl⟩ (by simp[Pv.look]) aL aL (by simp[aD]) ?_;rintro⟨q,nr⟩ ⟨bc,⟨bE,zg⟩,b1⟩;simp only at bc bE zg b1;rw[Sort.shiftUp]at b1;have eq:((q:Int)-1)=(q-1:Nat):=Ω
       have CE:((q:Int)+1)=(q+1:Nat):=Ω
       simp[Pv.look,H.slc,H.ssc];((with_reducible repeat' first|refine aj ?_|simp[Pv.look,H.slc,H.ssc]|((first|apply bS|apply bW|apply bV)<;>intro h<;>try simp at h))<;>(try exact cy))
       ·rw[if_pos Ω]at b1;rw[eq];refine H.lessA bc q (q-1) Ω Ω fun o=>?_;cases bp:lt nr[q]! nr[q-1]!
        ·rw[if_pos (by simp[bp])]at b1;rw[<-b1]at di;simp;(with_reducible repeat' first|refine aj ?_|simp);rw[es];refine bO.whl ((i,s+1),nr) (by simp;omega) ⟨bc,⟨by simp;omega,by simp;omega,by simp;omega⟩,by simp only[em];exact di⟩ (H.weakC ar (by simpa using bc) (by simp[aD]))
        ·rw[if_neg (by simp[bp])]at b1;simp;(with_reducible repeat' first|refine aj ?_|simp[Pv.look,H.slc,H.ssc]);rw[eq];refine H.swapA bc Ω q (q-1) Ω Ω fun o=>?_;simp;((with_reducible repeat' first|refine aj ?_|simp|((first|apply bS|apply bW|apply bV)<;>intro h<;>try simp at h))<;>(try exact cy));rw[CE];refine bO.whl (q+1,Sort.swp nr q (q-1)) (by simp;omega) ⟨by rw[hf,bc],⟨by simp;omega,by simp;omega⟩,b1⟩ (H.weakC ar (by simp[hf,bc]) (by simp[aD]))
       ·rw[if_neg Ω]at b1;rw[<-b1]at di;rw[es];refine bO.whl ((i,s+1),nr) (by simp;omega) ⟨bc,⟨by simp;omega,by simp;omega,by simp;omega⟩,by simp only[em];exact di⟩ (H.weakC ar (by simpa using bc) (by simp[aD]))
     ·rw[if_neg jW]at di;have tN:¬(2:Int)<=(b:Int)-i:=Ω
      by_cases C6:2<=i-a
      ·rw[if_pos C6]at di;have yt:(2:Int)<=(i:Int)-a:=Ω
       simp;(with_reducible repeat' first|refine aj ?_|simp[yt]);rw[F1];refine H.loopA ar [1,2,3,7,8] (fun(x:Nat×Array α)=>[(9,.int .i64 x.1)]) (·.2) (fun x=>x.1) (fun x=>x.2.size=n/\x.1<=i-1/\Sort.shiftDown lt x.1 x.2=Sort.shiftDown lt (i-1) d2) (i-1,d2) s2 ⟨s2,Ψ,rfl⟩ (by simp[Pv.look]) aL aL (by simp[aD]) ?_;rintro⟨j,fV⟩ ⟨hc,wY,hs⟩;simp only at hc wY hs;simp[Pv.look,H.slc,H.ssc];((with_reducible repeat' first|refine aj ?_|simp[Pv.look,H.slc,H.ssc,tN]|((first|apply bS|apply bW|apply bV)<;>intro h<;>try simp at h))<;>(try exact cy))
       ·obtain⟨j,rfl⟩:∃dP,j=dP+1:=⟨j-1,Ω⟩;have oW:(((j+1:Nat):Int)-1)=(j:Nat):=Ω
        rw[Sort.shiftDown]at hs;try rw[oW]
        refine H.lessA hc (j+1) j Ω Ω fun o=>?_;cases aO:lt fV[j+1]! fV[j]!
        ·rw[if_pos (by simp[aO])]at hs;rw[<-hs]at di;try simp
         try(with_reducible repeat' first|refine aj ?_|simp[Pv.look,H.slc,H.ssc,tN])
         rw[es];refine bO.whl ((i,s+1),fV) (by simp;omega) ⟨hc,⟨by simp;omega,by simp;omega,by simp;omega⟩,by simp only[em];exact di⟩ (H.weakC ar (by simpa using hc) (by simp[aD]))
        ·rw[if_neg (by simp[aO])]at hs;simp;(with_reducible repeat' first|refine aj ?_|simp[Pv.look,H.slc,H.ssc]);try rw[oW]
         refine H.swapA hc U (j+1) j Ω Ω fun o=>?_;simp;((with_reducible repeat' first|refine aj ?_|simp|((first|apply bS|apply bW|apply bV)<;>intro h<;>try simp at h))<;>(try exact cy));try rw[oW]
         refine bO.whl (j,Sort.swp fV (j+1) j) Ψ ⟨by rw[hf,hc],by simp;omega,hs⟩ (H.weakC ar (by simp[hf,hc]) (by simp[aD]))
       ·obtain rfl:j=0:=Ω
        rw[Sort.shiftDown]at hs;rw[<-hs]at di;try simp
        try(with_reducible repeat' first|refine aj ?_|simp[Pv.look,H.slc,H.ssc,tN])
        rw[es];refine bO.whl ((i,s+1),fV) (by simp;omega) ⟨hc,⟨by simp;omega,by simp;omega,by simp;omega⟩,by simp only[em];exact di⟩ (H.weakC ar (by simpa using hc) (by simp[aD]))
      ·rw[if_neg C6]at di;have yt:¬(2:Int)<=(i:Int)-a:=Ω
       simp;((with_reducible repeat' first|refine aj ?_|simp[yt,tN]|((first|apply bS|apply bW|apply bV)<;>intro h<;>try simp at h))<;>(try exact cy));done
  ·rw[if_neg (by simp;omega)]at i3;simp only[<-i3]at di;rw[if_pos Ω]at di;refine H.retR ar (d:=cu) aU (.inl rfl) ?_;simp[cL,H6,aX,aY,aW];rw[<-di];exact⟨rfl,_,rfl,rfl,aU⟩
 ·have:5-s=0:=Ω
  rw[this,Sort.partialIns]at di;refine H.retR ar (d:=cu) aU (.inl rfl) ?_;simp[cL,H6,aX,aY,aW];rw[<-di];exact⟨rfl,_,rfl,rfl,aU⟩
end
section
open Go Go.Pv
variable {α:Type} [Inhabited α] {S:List α->cH} {n g cg:Nat} {lc b8:List ai} {lt:α->α->Bool}
def fl(S:List α->cH)(d:Array α)(v:Nat):cH:=⟨(.obj 901,[.int .i64 v])::(S d.toList).b,(S d.toList).e⟩
def sK(S:List α->cH)(m:Nat):Prop:= ∀l,Pv.look (.obj m) (S l).b=none/\Pv.look (.obj m) (S l).e=none
theorem n1(H:fe S n g cg lc b8 lt)(d:Array α)(v:Nat):dN (fl S d v):=by
 have h:=H.ok d.toList;have jE:∀k,inObs (S d.toList) k->inObs (fl S d v) k:=fun k ad=>by
  rcases ad with ad|ad
  ·refine .inl ?_;simp only[fl,Pv.look];split
   ·rfl
   ·exact ad
  ·exact .inr ad
 refine⟨⟨fun m=>?_,h.obj.2⟩,fun k cs ad=>?_,fun k o ay xs af=>kd jE _ (h.ke k o ay xs af)⟩
 ·simp[fl,Pv.look,h.obj.1 m]
 ·simp only[fl,Pv.look]at ad;split at ad
  ·cases ad;simp[aH,aD]
  ·exact kd jE _ (h.kb k cs ad)
theorem th(d:Array α)(v v':Nat):Same (fl S d v) (fl S d v'):=⟨fun k=>by simp only[fl,Pv.look];split<;>rfl,fun _=>rfl⟩
theorem KU(H:fe S n g cg lc b8 lt)(ad:sK S 901)(d:Array α)(aR:d.size=n)(a b v:Nat)(bu:a<n)(ab:b<n)(aB:v<=1000):
  bH ak 285 [e3 g cg lc b8,.int .i64 a,.int .i64 b,.ptr (.obj 901) 0] (fl S d v) fun r ah=>r= .tuple [.int .i64 (Sort.order2 lt d a b v).1,.int .i64 (Sort.order2 lt d a b v).2.1]/\ah=fl S d (Sort.order2 lt d a b v).2.2:=by
 have ag:=H.ok d.toList;have ar:d.toList.length=n:=by simpa using aR
 have ax:∀l m,Pv.look (.loc m) (S l).b=none:=fun l=>(H.ok l).obj.1;have hu:∀l m cs,cA (.loc m) cs (S l).b=(S l).b++[(.loc m,cs)]:=fun l m cs=>j4 (ax l m);have ay:∀m,aI.loc m∉c1 (S d.toList):=jY ag.obj;have gE:∀l,Pv.look (.obj 901) (S l).b=none:=fun l=>(ad l).1;have lr:∀l,Pv.look (.obj 901) (S l).e=none:=fun l=>(ad l).2;have hle:=H.le;have kM:=n1 H d v;obtain⟨R,aV⟩:∃R,R=Sort.order2 lt d a b v:=⟨_,rfl⟩;rw[<-aV];unfold Sort.order2 at aV;refine bH.mk mixed oC aeY al0 Ψ kM.obj fun aK cB=>?_;unfold RE;have lS:aI.loc 0∉c1 (fl S d v):=jY kM.obj 0;generalize vk:c1 (fl S d v)=ob at lS⊢;unfold fl;simp[e3,hu,lS,cK,ax,Pv.look,cA];rw[H.slc];refine cT.ob (H.less d.toList ar b a _ _ (zR Ω) (zR Ω)) (H.ok _) (fun k cs af=>?_) (fun _ _ af=>af) (by simp[aD,aH,H.klc d.toList ar]) ?_
 ·simp only[Pv.look];split
  ·rename_i e;subst e;rw[gE]at af;cases af
  ·rw[cK,af]
 rintro r ah ⟨rfl,rfl⟩;refine⟨Same.refl _,?_⟩;have hw:cl (S d.toList).b ((aI.obj 901,[ai.int .i64 v])::((S d.toList).b++[(aI.loc 0,[ai.func g lc,ai.func cg b8])]))=[(aI.obj 901,[ai.int .i64 v]),(aI.loc 0,[ai.func g lc,ai.func cg b8])]:=by simp only[cl,gE];rw[ia,gR];simp[cl,ax]
 rw[hw,gR];have dR:∀(t:List (Nat×ai)) (o:List aI) (v':Nat) (D:List ai) (x y:Nat),Pv.get 8 t= .int .i64 x->Pv.get 9 t= .int .i64 y->R=(x,y,v')->
   cF NK (fl S d v) (fun r ah=>r= .tuple [.int .i64 R.1,.int .i64 R.2.1]/\ah=fl S d R.2.2) .ret ⟨t,(aI.obj 901,[.int .i64 v'])::(aI.loc 0,D)::(S d.toList).b,(S d.toList).e,1,o⟩:=by
  rintro t o v' D x y af aO rfl;refine cF.at (fl S d v') (.inl rfl) (n1 H d v') (th _ _ _) (fun k cs aw=>?_) (fun _ _ aw=>aw) ?_
  ·simp only[fl,Pv.look]at aw⊢;split at aw
   ·rename_i e;rw[if_pos e];exact aw
   ·rename_i e;rw[if_neg e];split
    ·rename_i aE;subst aE;rw[ax]at aw;cases aw
    ·exact aw
  ·simp[cL,NK,aX,aY,aW,af,aO]
 cases af:lt d[b]! d[a]! with
 |true=>
  rw[if_pos af]at aV;simp[Pv.look,cA];(with_reducible repeat' first|refine aj ?_|simp[Pv.look,cA]);have al:((v:Int)+1)=(v+1:Nat):=Ω
  rw[al];exact dR _ _ (v+1) _ b a rfl rfl aV
 |false=>rw[if_neg (by simp[af])]at aV;simp[Pv.look,cA];exact dR _ _ v _ a b rfl rfl aV
theorem WV{s ah:cH}{f:Nat}{args:List ai}{r:ai}(aJ:bH ak f args s fun eT dZ=>eT=r/\dZ=ah)(ag:dN s)(fp:Same s ah)(ad:aH (inObs s) args){t:List (Nat×ai)}{D:List ai}{o:List aI}{d:ba Nat}{K:br->Prop}
  (h:∀o,K ⟨eZ d r t,(.loc 0,D)::ah.b,ah.e,1,o⟩):cT ak f args ⟨t,s.b++[(.loc 0,D)],s.e,1,o⟩ d K:=by
 refine cT.ob aJ ag (fun k cs af=>by rw[cK,af]) (fun _ _ af=>af) ad ?_;rintro r ah ⟨rfl,rfl⟩;refine⟨fp,?_⟩;have al:cl s.b (s.b++[(.loc 0,D)])=[(.loc 0,D)]:=by rw[ia,gR];simp[cl,ag.obj.1 0]
 have aE:cl s.e s.e=[]:=gR _;simp only[al,aE];exact h _
theorem D7{s ah:cH}{f:Nat}{args:List ai}{r:ai}(aJ:bH ak f args s fun eT dZ=>eT=r/\dZ=ah)(ag:dN s)(fp:Same s ah)(ad:aH (inObs s) args){t:List (Nat×ai)}{D:List ai}{o:List aI}{d:ba Nat}{K:br->Prop}
  (h:∀o,K ⟨eZ d r t,(.loc 0,D)::ah.b,ah.e,1,o⟩):cT ak f args ⟨t,(.loc 0,D)::s.b,s.e,1,o⟩ d K:=by
 refine cT.ob aJ ag (fun k cs af=>?_) (fun _ _ af=>af) ad ?_
 ·cases k with
  |loc m=>rw[ag.obj.1 m]at af;cases af
  |obj m=>simpa[Pv.look]using af
 rintro r ah ⟨rfl,rfl⟩;refine⟨fp,?_⟩;have al:cl s.b ((.loc 0,D)::s.b)=[(.loc 0,D)]:=by have:=ia s.b [(aI.loc 0,D)] s.b;rw[gR]at this;simpa[cl,ag.obj.1 0]using this
 have aE:cl s.e s.e=[]:=gR _;simp only[al,aE];exact h _
theorem BA{d:Array α}{a b v n:Nat}(bu:a<n)(ab:b<n):(Sort.order2 lt d a b v).1<n/\(Sort.order2 lt d a b v).2.1<n/\(Sort.order2 lt d a b v).2.2<=v+1:=by unfold Sort.order2;split<;>simp<;>omega
theorem vs(H:fe S n g cg lc b8 lt){d:Array α}(aR:d.size=n){v:Nat}:aD (inObs (fl S d v)) (e3 g cg lc b8)/\aD (inObs (fl S d v)) (.ptr (.obj 901) 0):=by
 refine⟨w6 (fun k ad=>?_) _ (H.kdata (lk:=d.toList) (by simpa using aR)),by simp[aD,inObs,fl,Pv.look]⟩;rcases ad with ad|ad
 ·refine .inl ?_;simp only[fl,Pv.look];split
  ·rfl
  ·exact ad
 ·exact .inr ad
theorem YM(H:fe S n g cg lc b8 lt){d:Array α}{v v':Nat}{fw:List bN}{Q:ai->cH->Prop}{t:List (Nat×ai)}{D:List ai}{o:List aI}(h:cL ⟨t,(.loc 0,D)::(fl S d v').b,(S d.toList).e,1,o⟩ fw fun r=>aD (inObs (fl S d v')) r/\Q r (fl S d v')):
  cF fw (fl S d v) Q .ret ⟨t,(.loc 0,D)::(fl S d v').b,(S d.toList).e,1,o⟩:=by
 refine cF.at (fl S d v') (.inl rfl) (n1 H d v') (th _ _ _) (fun k cs af=>?_) (fun _ _ aw=>aw) h;cases k with
 |loc m=>rw[(n1 H d v').obj.1 m]at af;cases af
 |obj m=>simpa[Pv.look]using af
theorem KR(H:fe S n g cg lc b8 lt)(ad:sK S 901)(d:Array α)(aR:d.size=n)(a b c v:Nat)(bu:a<n)(ab:b<n)(aw:c<n)(aB:v<=900):
  bH ak 282 [e3 g cg lc b8,.int .i64 a,.int .i64 b,.int .i64 c,.ptr (.obj 901) 0] (fl S d v) fun r ah=>r= .int .i64 (Sort.median lt d a b c v).1/\ah=fl S d (Sort.median lt d a b c v).2:=by
 have kM:=n1 H d v;have pZ:∀v m,Pv.look (.loc m) (fl S d v).b=none:=fun v=>(n1 H d v).obj.1;have LR:∀v m cs,cA (.loc m) cs (fl S d v).b=(fl S d v).b++[(.loc m,cs)]:=fun v m cs=>j4 (pZ v m);have lS:aI.loc 0∉c1 (fl S d v):=jY kM.obj 0;obtain⟨R,aV⟩:∃R,R=Sort.median lt d a b c v:=⟨_,rfl⟩;rw[<-aV];unfold Sort.median at aV;have bc:=BA (lt:=lt) (d:=d) (v:=v) bu ab;have aU:=KU H ad d aR a b v bu ab Ω;generalize Sort.order2 lt d a b v=dy at bc aU aV;obtain⟨s7,kV,v1⟩:=dy;simp only at bc aU aV;have bE:=BA (lt:=lt) (d:=d) (v:=v1) bc.2.1 aw;have bo:=KU H ad d aR kV c v1 bc.2.1 aw Ω;generalize Sort.order2 lt d kV c v1=fb at bE bo aV;obtain⟨zG,pw,v2⟩:=fb;simp only at bE bo aV;have b1:=BA (lt:=lt) (d:=d) (v:=v2) bc.1 bE.1;have cd:=KU H ad d aR s7 zG v2 bc.1 bE.1 Ω;generalize Sort.order2 lt d s7 zG v2=k7 at b1 cd aV;obtain⟨s8,I1,v3⟩:=k7;simp only at b1 cd aV;refine bH.mk mixed oC aeW alY Ψ kM.obj fun aK cB=>?_;unfold RC;simp[e3,LR,lS,cK,pZ];simp only[iC H,H.slc,H.ssc,iw];refine WV aU (n1 H d v) (th _ _ _) (by simp[aD,aH,(vs H aR).1];exact(vs H aR).2) fun o=>?_;simp[Pv.look];simp only[iC H,H.slc,H.ssc,iw];refine D7 bo (n1 H d v1) (th _ _ _) (by simp[aD,aH,(vs H aR).1];exact(vs H aR).2) fun o=>?_;simp[Pv.look];simp only[iC H,H.slc,H.ssc,iw];refine D7 cd (n1 H d v2) (th _ _ _) (by simp[aD,aH,(vs H aR).1];exact(vs H aR).2) fun o=>?_;simp;refine YM H ?_;simp[cL,Yc,aX,aY,aW];rw[aV];exact⟨rfl,rfl⟩
theorem KS(H:fe S n g cg lc b8 lt)(ad:sK S 901)(d:Array α)(aR:d.size=n)(a v:Nat)(bu:a+1<n)(ln:1<=a)(aB:v<=900):
  bH ak 281 [e3 g cg lc b8,.int .i64 a,.ptr (.obj 901) 0] (fl S d v) fun r ah=>r= .int .i64 (Sort.medianAdjacent lt d a v).1/\ah=fl S d (Sort.medianAdjacent lt d a v).2:=by
 have kM:=n1 H d v;have pZ:∀v m,Pv.look (.loc m) (fl S d v).b=none:=fun v=>(n1 H d v).obj.1;have LR:∀v m cs,cA (.loc m) cs (fl S d v).b=(fl S d v).b++[(.loc m,cs)]:=fun v m cs=>j4 (pZ v m);have lS:aI.loc 0∉c1 (fl S d v):=jY kM.obj 0;have hle:=H.le;have aU:=KR H ad d aR (a-1) a (a+1) v Ω Ω Ω aB;unfold Sort.medianAdjacent;refine bH.mk mixed oC aeV alX Ψ kM.obj fun aK cB=>?_;unfold RB;have al:((a:Int)-1)=(a-1:Nat):=Ω
 have aE:((a:Int)+1)=(a+1:Nat):=Ω
 simp[e3,LR,lS,cK,pZ];(with_reducible repeat' first|refine aj ?_|simp);simp only[iC H,H.slc,H.ssc,iw,al,aE];refine WV aU (n1 H d v) (th _ _ _) (by simp[aD,aH,(vs H aR).1];exact(vs H aR).2) fun o=>?_;simp;refine YM H ?_;simp[cL,Yb,aX,aY,aW]
theorem WW{m:Nat}(h:sK S m)(l:List α):aI.obj m∉c1 (S l):=fun hm=>by
 rcases Vg hm with J|J
 ·rw[(h l).1]at J;cases J
 ·rw[(h l).2]at J;cases J
theorem DW{d:Array α}{a b c v n:Nat}(bu:a<n)(ab:b<n)(aw:c<n):(Sort.median lt d a b c v).1<n/\(Sort.median lt d a b c v).2<=v+3:=by have bc:=BA (lt:=lt) (d:=d) (v:=v) bu ab;have bE:=BA (lt:=lt) (d:=d) (v:=(Sort.order2 lt d a b v).2.2) bc.2.1 aw;have b1:=BA (lt:=lt) (d:=d) (v:=(Sort.order2 lt d (Sort.order2 lt d a b v).2.1 c (Sort.order2 lt d a b v).2.2).2.2) bc.1 bE.1;refine⟨b1.2.1,kB b1.2.2 ?_⟩;omega
def AN:Sort.Hint->Int
 | .unknown=>0
 | .increasing=>1
 | .decreasing=>2
theorem agd(H:fe S n g cg lc b8 lt)(ad:sK S 901)(d:Array α)(aR:d.size=n)(a b:Nat)(nA:a<b)(ab:b<=n):
  bH ak 263 [e3 g cg lc b8,.int .i64 a,.int .i64 b] (S d.toList) fun r ah=>r= .tuple [.int .i64 (Sort.choosePivot lt d a b).1,.int .i64 (AN (Sort.choosePivot lt d a b).2)]/\ah=S d.toList:=by
 have ag:=H.ok d.toList;have ar:d.toList.length=n:=by simpa using aR
 have ax:∀l m,Pv.look (.loc m) (S l).b=none:=fun l=>(H.ok l).obj.1;have hu:∀l m cs,cA (.loc m) cs (S l).b=(S l).b++[(.loc m,cs)]:=fun l m cs=>j4 (ax l m);have ay:∀m,aI.loc m∉c1 (S d.toList):=jY ag.obj;have gE:∀l,Pv.look (.obj 901) (S l).b=none:=fun l=>(ad l).1;have lr:∀l,Pv.look (.obj 901) (S l).e=none:=fun l=>(ad l).2;have hle:=H.le;have lS:=WW ad d.toList;obtain⟨R,aV⟩:∃R,R=Sort.choosePivot lt d a b:=⟨_,rfl⟩;rw[<-aV];unfold Sort.choosePivot at aV;refine bH.mk mixed oC aeT alV Ψ ag.obj fun aK cB=>?_;unfold Rz;have yK:∀l D cs,cA (.obj 901) cs ((S l).b++[(.loc 0,D)])=(S l).b++[(.loc 0,D),(.obj 901,cs)]:=fun l D cs=>by rw[B6 (gE l)];rfl
 obtain⟨q,bm⟩:∃q,q=(b-a)/4:=⟨_,rfl⟩;have dh:IntKind.i64.wrap (((b:Int)-a).tdiv 4)=(q:Nat):=by rw[show((b:Int)-a)=((b-a:Nat):Int) by omega,Int.tdiv_eq_ediv_of_nonneg Ω,pz _ Ω];omega
 simp[e3,hu,yK,ay,lS,cK,ax,gE,lr,Pv.look,cA];have dR:∀(t:List (Nat×ai)) (o:List aI) (cb:List (aI×List ai)) (x:Nat) (h:Sort.Hint),Pv.get 6 t= .int .i64 x->Pv.get 7 t= .int .i64 (AN h)->R=(x,h)->(∀k cs,Pv.look k (S d.toList).b=some cs->Pv.look k cb=some cs)->
   cF NJ (S d.toList) (fun r ah=>r= .tuple [.int .i64 R.1,.int .i64 (AN R.2)]/\ah=S d.toList) .ret ⟨t,cb,(S d.toList).e,1,o⟩:=by
  rintro t o cb x h af aO rfl fW;refine cF.at (S d.toList) (.inl rfl) ag (Same.refl _) fW (fun _ _ aw=>aw) ?_;simp[cL,NJ,aX,aY,aW,af,aO]
 have Az:∀(D:List ai) (v:Nat) k cs,Pv.look k (S d.toList).b=some cs->Pv.look k ((.loc 0,D)::(fl S d v).b)=some cs:=fun D v k cs h=>by
  simp only[fl,Pv.look];split
  ·rename_i e;subst e;rw[ax]at h;cases h
  ·split
   ·rename_i e;subst e;rw[gE]at h;cases h
   ·exact h
 have Ug:∀{f:Nat} {args:List ai} {r:ai} {v:Nat},(bH ak f args (fl S d 0) fun eT dZ=>eT=r/\dZ=fl S d v)->aH (inObs (fl S d 0)) args->∀{t:List (Nat×ai)} {D:List ai} {o:List aI} {cj:ba Nat} {K:br->Prop},(∀o,K ⟨eZ cj r t,(.loc 0,D)::(fl S d v).b,(S d.toList).e,1,o⟩)->
   cT ak f args ⟨t,(S d.toList).b++[(.loc 0,D),(.obj 901,[.int .i64 0])],(S d.toList).e,1,o⟩ cj K:=by
  intro f args r v aJ hC t D o cj K h;refine cT.ob aJ (n1 H d 0) (fun k cs af=>?_) (fun _ _ af=>af) hC ?_
  ·simp only[fl,Pv.look]at af;rw[cK];split at af
   ·rename_i e;subst e;rw[gE];simp[Pv.look];simpa using af
   ·rw[af]
  rintro r ah ⟨rfl,rfl⟩;refine⟨th _ _ _,?_⟩;have al:cl (fl S d 0).b ((S d.toList).b++[(.loc 0,D),(.obj 901,[.int .i64 0])])=[(.loc 0,D)]:=by
   rw[ia];have:cl (fl S d 0).b (S d.toList).b=[]:=Pj _ _ fun k x hm=>by
    have:=vx hm;simp only[fl,Pv.look];split
    ·rfl
    ·exact this
   rw[this];simp[cl,fl,Pv.look,ax]
  have aE:cl (fl S d 0).e (S d.toList).e=[]:=gR _;simp only[al,aE];exact h _
 have hC:=fun(v:Nat)=>(vs H aR (v:=v));have f1:((a:Int)+q)=(a+q:Nat):=Ω
 have f2:((a:Int)+q*2)=(a+q*2:Nat):=Ω
 have f3:((a:Int)+q*3)=(a+q*3:Nat):=Ω
 dsimp only at aV;rw[<-bm,Nat.mul_one]at aV;by_cases od:b-a<8
 ·have Gj:¬(8:Int)<=(b:Int)-a:=Ω
  (with_reducible repeat' first|refine aj ?_|simp[Gj,dh,hu,yK,ay,lS,cK,ax,gE,lr,Pv.look,cA]);rw[f2];refine dR _ _ _ (a+q*2) .increasing rfl rfl (by rw[aV,if_neg Ω];simp) (fun k cs h=>by rw[cK,h])
 ·have Gj:(8:Int)<=(b:Int)-a:=Ω
  by_cases asC:b-a<50
  ·have K2:¬(50:Int)<=(b:Int)-a:=Ω
   (with_reducible repeat' first|refine aj ?_|simp[Gj,K2,dh,hu,yK,ay,lS,cK,ax,gE,lr,Pv.look,cA]);simp only[iC H,H.slc,H.ssc,iw,f1,f2,f3];have aU:=KR H ad d aR (a+q) (a+q*2) (a+q*3) 0 Ω Ω Ω Ω;have bo:=DW (lt:=lt) (d:=d) (a:=a+q) (b:=a+q*2) (c:=a+q*3) (v:=0) (n:=n) Ω Ω Ω;rw[if_pos Ω,if_neg Ω]at aV;generalize Sort.median lt d (a+q) (a+q*2) (a+q*3) 0=m at aU bo aV;obtain⟨x,v⟩:=m;refine Ug aU (by simp[aD,aH,(hC 0).1];exact(hC 0).2) fun o=>?_;have yL:((v:Int)==0)=decide (v=0):=by rw[oG];simp
   have DB:((v:Int)==12)=decide (v=12):=by rw[oG];simp;omega
   simp[Pv.look,fl];rcases(by omega:v=0\/v=12\/(v≠0/\v≠12))with bs|bs|bs
   ·have af:((v:Int)==0)=true:=by rw[yL];simp[bs]
    (with_reducible repeat' first|refine aj ?_|simp[af]);all_goals exact dR _ _ _ x .increasing rfl rfl (by rw[aV];simp[bs]) (Az _ v)
   ·have af:((v:Int)==0)=false:=by rw[yL];simp[bs]
    have yM:((v:Int)==12)=true:=by rw[DB];simp[bs]
    (with_reducible repeat' first|refine aj ?_|simp[af,yM]);all_goals exact dR _ _ _ x .decreasing rfl rfl (by rw[aV];simp[bs]) (Az _ v)
   ·have af:((v:Int)==0)=false:=by rw[yL];simp[bs.1]
    have yM:((v:Int)==12)=false:=by rw[DB];simp[bs.2]
    (with_reducible repeat' first|refine aj ?_|simp[af,yM]);all_goals exact dR _ _ _ x .unknown rfl rfl (by rw[aV];simp[bs]) (Az _ v)
  ·have K2:(50:Int)<=(b:Int)-a:=Ω
   (with_reducible repeat' first|refine aj ?_|simp[Gj,K2,dh,hu,yK,ay,lS,cK,ax,gE,lr,Pv.look,cA]);simp only[iC H,H.slc,H.ssc,iw,f1,f2,f3];rw[if_pos Ω,if_pos Ω]at aV;have aU:=KS H ad d aR (a+q) 0 Ω Ω Ω;have DL:=DW (lt:=lt) (d:=d) (a:=a+q-1) (b:=a+q) (c:=a+q+1) (v:=0) (n:=n) Ω Ω Ω;change (Sort.medianAdjacent lt d (a+q) 0).1<n/\(Sort.medianAdjacent lt d (a+q) 0).2<=0+3 at DL;generalize Sort.medianAdjacent lt d (a+q) 0=m1 at aU DL aV;obtain⟨s7,v1⟩:=m1;simp only at aU DL aV;have bo:=KS H ad d aR (a+q*2) v1 Ω Ω Ω;have DM:=DW (lt:=lt) (d:=d) (a:=a+q*2-1) (b:=a+q*2) (c:=a+q*2+1) (v:=v1) (n:=n) Ω Ω Ω;change (Sort.medianAdjacent lt d (a+q*2) v1).1<n/\(Sort.medianAdjacent lt d (a+q*2) v1).2<=v1+3 at DM;generalize Sort.medianAdjacent lt d (a+q*2) v1=m2 at bo DM aV;obtain⟨zG,v2⟩:=m2;simp only at bo DM aV;have cd:=KS H ad d aR (a+q*3) v2 Ω Ω Ω;have DN:=DW (lt:=lt) (d:=d) (a:=a+q*3-1) (b:=a+q*3) (c:=a+q*3+1) (v:=v2) (n:=n) Ω Ω Ω;change (Sort.medianAdjacent lt d (a+q*3) v2).1<n/\(Sort.medianAdjacent lt d (a+q*3) v2).2<=v2+3 at DN;generalize Sort.medianAdjacent lt d (a+q*3) v2=m3 at cd DN aV;obtain⟨s8,v3⟩:=m3;simp only at cd DN aV;have e9:=KR H ad d aR s7 zG s8 v3 DL.1 DM.1 DN.1 Ω;have VE:=DW (lt:=lt) (d:=d) (v:=v3) DL.1 DM.1 DN.1;generalize Sort.median lt d s7 zG s8 v3=m4 at e9 VE aV;obtain⟨x,v⟩:=m4;simp only at e9 VE aV;refine Ug aU (by simp[aD,aH,(hC 0).1];exact(hC 0).2) fun o=>?_;simp[Pv.look];simp only[iC H,H.slc,H.ssc,iw,f1,f2,f3];refine D7 bo (n1 H d v1) (th _ _ _) (by simp[aD,aH,(hC v1).1];exact(hC v1).2) fun o=>?_;simp[Pv.look];simp only[iC H,H.slc,H.ssc,iw,f1,f2,f3];refine D7 cd (n1 H d v2) (th _ _ _) (by simp[aD,aH,(hC v2).1];exact(hC v2).2) fun o=>?_;simp[Pv.look];simp only[iC H,H.slc,H.ssc,iw,f1,f2,f3];refine D7 e9 (n1 H d v3) (th _ _ _) (by simp[aD,aH,(hC v3).1];exact(hC v3).2) fun o=>?_;have yL:((v:Int)==0)=decide (v=0):=by rw[oG];simp
   have DB:((v:Int)==12)=decide (v=12):=by rw[oG];simp;omega
   simp[Pv.look,fl];rcases(by omega:v=0\/v=12\/(v≠0/\v≠12))with bs|bs|bs
   ·have af:((v:Int)==0)=true:=by rw[yL];simp[bs]
    (with_reducible repeat' first|refine aj ?_|simp[af]);all_goals exact dR _ _ _ x .increasing rfl rfl (by rw[aV];simp[bs]) (Az _ v)
   ·have af:((v:Int)==0)=false:=by rw[yL];simp[bs]
    have yM:((v:Int)==12)=true:=by rw[DB];simp[bs]
    (with_reducible repeat' first|refine aj ?_|simp[af,yM]);all_goals exact dR _ _ _ x .decreasing rfl rfl (by rw[aV];simp[bs]) (Az _ v)
   ·have af:((v:Int)==0)=false:=by rw[yL];simp[bs.1]
    have yM:((v:Int)==12)=false:=by rw[DB];simp[bs.2]
    (with_reducible repeat' first|refine aj ?_|simp[af,yM]);all_goals exact dR _ _ _ x .unknown rfl rfl (by rw[aV];simp[bs]) (Az _ v)
end
section
open Go Go.Pv
variable {α:Type} [Inhabited α] {S:List α->cH} {n g cg:Nat} {lc b8:List ai} {lt:α->α->Bool}
theorem apl:∀x:Nat,x<256->((([0,1,2,2,3,3,3,3,4,4,4,4,4,4,4,4,5,5,5,5,5,5,5,5,5,5,5,5,5,5,5,5,6,6,6,6,6,6,6,6,6,6,6,6,6,6,6,6,6,6,6,6,6,6,6,6,6,6,6,6,6,6,6,6,7,7,7,7,7,7,7,7,7,7,7,7,7,7,7,7,7,7,7,7,7,7,7,7,7,7,7,7,7,7,7,7,7,7,7,7,7,7,7,7,7,7,7,7,7,7,7,7,7,7,7,7,7,7,7,7,7,7,7,7,7,7,7,7,8,8,8,8,8,8,8,8,8,8,8,8,8,8,8,8,8,8,8,8,8,8,8,8,8,8,8,8,8,8,8,8,8,8,8,8,8,8,8,8,8,8,8,8,8,8,8,8,8,8,8,8,8,8,8,8,8,8,8,8,8,8,8,8,8,8,8,8,8,8,8,8,8,8,8,8,8,8,8,8,8,8,8,8,8,8,8,8,8,8,8,8,8,8,8,8,8,8,8,8,8,8,8,8,8,8,8,8,8,8,8,8,8,8,8,8,8,8,8,8,8,8,8,8,8,8,8,8]:List dM)[x]?).getD 0).toNat=Sort.bitsLen x:=by decide+kernel
theorem CR(x:Int):x.fdiv (2 ^ (min 32 hA.bits))=x/4294967296:=by rw[show(2:Int) ^ (min 32 hA.bits)=4294967296 from by decide,Int.fdiv_eq_ediv_of_nonneg _ Ω]
theorem CQ(x:Int):x.fdiv (2 ^ (min 16 hA.bits))=x/65536:=by rw[show(2:Int) ^ (min 16 hA.bits)=65536 from by decide,Int.fdiv_eq_ediv_of_nonneg _ Ω]
theorem CS(x:Int):x.fdiv (2 ^ (min 8 hA.bits))=x/256:=by rw[show(2:Int) ^ (min 8 hA.bits)=256 from by decide,Int.fdiv_eq_ediv_of_nonneg _ Ω]
theorem ET(x:Nat)(h:x<256):IntKind.u8.wrap (x:Int)=x:=by simp[ta,oH,s9];omega
theorem Jz(x k:Nat)(h:2 ^ k<=x):Sort.bitsLen x=Sort.bitsLen (x/2 ^ k)+k:=by
 have af:x≠0:=by have:=Nat.two_pow_pos k;omega
 have bm:x/2 ^ k≠0:=by have:=Nat.div_pos h (Nat.two_pow_pos k);omega
 unfold Sort.bitsLen;rw[if_neg af,if_neg bm];have ar:=Nat.log2_lt af (k:=Nat.log2 (x/2 ^ k)+k+1);have J:Nat.log2 (x/2 ^ k)+k<=Nat.log2 x:=by
  rw[Nat.le_log2 af,Nat.pow_add];have:=Nat.log2_self_le bm;calc 2 ^ (x/2 ^ k).log2*2 ^ k<=(x/2 ^ k)*2 ^ k:=Nat.mul_le_mul_right _ this
   _<=x:=Nat.div_mul_le_self x _
 have U:Nat.log2 x<Nat.log2 (x/2 ^ k)+k+1:=by rw[ar,show Nat.log2 (x/2 ^ k)+k+1=(Nat.log2 (x/2 ^ k)+1)+k by omega,Nat.pow_add];have:=Nat.lt_log2_self (n:=x/2 ^ k);exact(Nat.div_lt_iff_lt_mul (Nat.two_pow_pos k)).1 this
 omega
set_option maxRecDepth 20000 in
theorem apN(x:Nat)(af:x<1099511627776):bF ak 259 [.int .u64 x] (.int .i64 (Sort.bitsLen x)):=by
 refine bF.mk mixed oC aeQ alS Ψ (by simp[aD]) fun aK=>?_;unfold Rw;have aN:=apl;generalize T8:([0,1,2,2,3,3,3,3,4,4,4,4,4,4,4,4,5,5,5,5,5,5,5,5,5,5,5,5,5,5,5,5,6,6,6,6,6,6,6,6,6,6,6,6,6,6,6,6,6,6,6,6,6,6,6,6,6,6,6,6,6,6,6,6,7,7,7,7,7,7,7,7,7,7,7,7,7,7,7,7,7,7,7,7,7,7,7,7,7,7,7,7,7,7,7,7,7,7,7,7,7,7,7,7,7,7,7,7,7,7,7,7,7,7,7,7,7,7,7,7,7,7,7,7,7,7,7,7,8,8,8,8,8,8,8,8,8,8,8,8,8,8,8,8,8,8,8,8,8,8,8,8,8,8,8,8,8,8,8,8,8,8,8,8,8,8,8,8,8,8,8,8,8,8,8,8,8,8,8,8,8,8,8,8,8,8,8,8,8,8,8,8,8,8,8,8,8,8,8,8,8,8,8,8,8,8,8,8,8,8,8,8,8,8,8,8,8,8,8,8,8,8,8,8,8,8,8,8,8,8,8,8,8,8,8,8,8,8,8,8,8,8,8,8,8,8,8,8,8,8,8,8,8,8,8,8]:List dM)=tab at aN⊢;have Ax:tab.length=256:=by rw[<-T8];rfl
 clear T8;simp[Ax];have ab:∀y:Nat,y<256->Sort.bitsLen y<=8:=by decide+kernel
 have aiq:4294967296<=x->Sort.bitsLen x=Sort.bitsLen (x/4294967296)+32:=fun h=>Jz x 32 h;have UY:∀y,65536<=y->Sort.bitsLen y=Sort.bitsLen (y/65536)+16:=fun y h=>Jz y 16 h;have U1:∀y,256<=y->Sort.bitsLen y=Sort.bitsLen (y/256)+8:=fun y h=>Jz y 8 h;by_cases J:4294967296<=x
 ·have oc:(4294967296:Int)<=x:=Ω
  have g1:¬(65536:Int)<=(x:Int)/4294967296:=Ω
  have g3:¬(256:Int)<=(x:Int)/4294967296:=Ω
  (with_reducible repeat' first|refine aj ?_|simp[oc,g1,g3,CR,CQ,CS,Ax]);have aO:x/4294967296<256:=Ω
  have lP:=ab _ aO;have eX:(x:Int)/4294967296=((x/4294967296:Nat):Int):=Ω
  rw[eX,ET _ aO,Int.toNat_natCast];refine⟨Ω,?_⟩;have e:=aN _ aO;rw[e,pz _ Ω];refine⟨by unfold tQ;omega,?_⟩;simp[bz,BJ,aX,aY,aW];try((rw[aiq J])<;>omega)
 ·have oc:¬(4294967296:Int)<=x:=Ω
  by_cases U:65536<=x
  ·have g2:(65536:Int)<=x:=Ω
   by_cases au:256<=x/65536
   ·have g3:(256:Int)<=(x:Int)/65536:=Ω
    (with_reducible repeat' first|refine aj ?_|simp[oc,g2,g3,CR,CQ,CS,Ax]);have aO:x/65536/256<256:=Ω
    have lP:=ab _ aO;have eX:(x:Int)/65536/256=((x/65536/256:Nat):Int):=Ω
    rw[eX,ET _ aO,Int.toNat_natCast];refine⟨Ω,?_⟩;have e:=aN _ aO;rw[e,pz _ Ω];refine⟨by unfold tQ;omega,?_⟩;simp[bz,BJ,aX,aY,aW];try((rw[UY x U,U1 _ au])<;>omega)
   ·have g3:¬(256:Int)<=(x:Int)/65536:=Ω
    (with_reducible repeat' first|refine aj ?_|simp[oc,g2,g3,CR,CQ,CS,Ax]);have aO:x/65536<256:=Ω
    have lP:=ab _ aO;have eX:(x:Int)/65536=((x/65536:Nat):Int):=Ω
    rw[eX,ET _ aO,Int.toNat_natCast];refine⟨Ω,?_⟩;have e:=aN _ aO;rw[e,pz _ Ω];refine⟨by unfold tQ;omega,?_⟩;simp[bz,BJ,aX,aY,aW];try((rw[UY x U])<;>omega)
  ·have g2:¬(65536:Int)<=x:=Ω
   by_cases au:256<=x
   ·have g3:(256:Int)<=x:=Ω
    (with_reducible repeat' first|refine aj ?_|simp[oc,g2,g3,CR,CQ,CS,Ax]);have aO:x/256<256:=Ω
    have lP:=ab _ aO;have eX:(x:Int)/256=((x/256:Nat):Int):=Ω
    rw[eX,ET _ aO,Int.toNat_natCast];refine⟨Ω,?_⟩;have e:=aN _ aO;rw[e,pz _ Ω];refine⟨by unfold tQ;omega,?_⟩;simp[bz,BJ,aX,aY,aW];try((rw[U1 x au])<;>omega)
   ·have g3:¬(256:Int)<=x:=Ω
    (with_reducible repeat' first|refine aj ?_|simp[oc,g2,g3,CR,CQ,CS,Ax]);have aO:x<256:=Ω
    have lP:=ab _ aO;have eX:(x:Int)=((x:Nat):Int):=Ω
    rw[eX,ET _ aO,Int.toNat_natCast];refine⟨Ω,?_⟩;have e:=aN _ aO;rw[e,pz _ Ω];refine⟨by unfold tQ;omega,?_⟩;simp[bz,BJ,aX,aY,aW];try((rw[show Sort.bitsLen x=Sort.bitsLen x from rfl])<;>omega)
theorem apM(x:Nat)(af:x<1099511627776):bF ak 209 [.int .u64 x] (.int .i64 (Sort.bitsLen x)):=by refine bF.mk mixed oC aeP alR Ψ (by simp[aD]) fun aK=>?_;unfold Rv;have V9:=apN x af;exact bJ
theorem abv(x:Nat)(af:x<1099511627776):Sort.bitsLen x<=40:=by
 unfold Sort.bitsLen;split
 ·omega
 ·rename_i h;have:=(Nat.log2_lt h (k:=40)).2 Ω;omega
theorem apu{x:Nat}(h:x≠0):2 ^ Sort.bitsLen x<=2*x/\x<2 ^ Sort.bitsLen x:=by unfold Sort.bitsLen;rw[if_neg h];have J:=Nat.log2_self_le h;have U:=Nat.lt_log2_self (n:=x);rw[Nat.pow_succ];rw[Nat.pow_succ]at U;omega
theorem aqw(x:Nat)(af:x<1099511627776):bF ak 279 [.int .i64 x] (.int .u64 (1<<<Sort.bitsLen x:Nat)):=by
 have ab:=abv x af;have al:hA.wrap ((x:Nat):Int)=x:=by simp[ta,oH,s9];omega
 have aE:hA.wrap ((Sort.bitsLen x:Nat):Int)=Sort.bitsLen x:=by simp[ta,oH,s9];omega
 refine bF.mk mixed oC aeX alZ Ψ (by simp[aD]) fun aK=>?_;unfold RD;simp[al];refine cT.val Ψ (apM x af) ?_;simp[al,aE];simp[bz,Yd,aX,aY,aW];have hm:min (Sort.bitsLen x) hA.bits=Sort.bitsLen x:=by simp[oH];omega
 have bB:2 ^ Sort.bitsLen x<=2 ^ 40:=Nat.pow_le_pow_right Ω ab;rw[hm];have aw:((2:Int) ^ Sort.bitsLen x)=((2 ^ Sort.bitsLen x:Nat):Int):=by simp
 have AE:((1<<<Sort.bitsLen x:Nat):Int)=((2 ^ Sort.bitsLen x:Nat):Int):=by rw[Nat.one_shiftLeft]
 have yp:hA.wrap ((2:Int) ^ Sort.bitsLen x)=((1<<<Sort.bitsLen x:Nat):Int):=by rw[aw,AE];generalize 2 ^ Sort.bitsLen x=y at bB;simp[ta,oH,s9];omega
 simpa using yp
def np(r:Nat):cH:=⟨[(.obj 902,[.int .u64 r])],[]⟩
theorem Ji(r:Nat):dN (np r):=by unfold np;exact(dN.of ⟨by intro m;simp[Pv.look],by intro m;simp[Pv.look]⟩ (by simp[aH,aD,inObs,Pv.look]) (by simp[aH,aD,inObs,Pv.look]))
theorem PE(a b:Nat):Same (np a) (np b):=⟨fun k=>by simp only[np,Pv.look];split<;>rfl,fun _=>rfl⟩
theorem JC(a b:Nat)(bu:a<18446744073709551616)(ab:b<18446744073709551616):hA.wrap ((qN hA.bits (a:Int) ^^^ qN hA.bits (b:Int)).toNat:Int)=(a ^^^ b:Nat):=by
 have au:a ^^^ b<18446744073709551616:=Nat.xor_lt_two_pow (n:=64) bu ab;have e:(qN hA.bits (a:Int) ^^^ qN hA.bits (b:Int)).toNat=a ^^^ b:=by
  rw[BitVec.toNat_xor,BitVec.toNat_ofInt,BitVec.toNat_ofInt];have al:((a:Int)%(2 ^ hA.bits:Nat)).toNat=a:=by simp[oH];omega
  have aE:((b:Int)%(2 ^ hA.bits:Nat)).toNat=b:=by simp[oH];omega
  rw[al,aE]
 rw[e];generalize a ^^^ b=c at au;simp[ta,oH,s9];omega
theorem aoC(r:Nat):hA.wrap ((r:Int)*2 ^ (min 13 hA.bits))=(r*8192%18446744073709551616:Nat):=by simp[ta,oH,s9]
theorem aoD(r:Nat):hA.wrap ((r:Int)*2 ^ (min 17 hA.bits))=(r*131072%18446744073709551616:Nat):=by simp[ta,oH,s9]
theorem aoE(r:Nat):((r:Int)).fdiv (2 ^ (min 7 hA.bits))=(r/128:Nat):=by rw[show(2:Int) ^ (min 7 hA.bits)=128 from by decide,Int.fdiv_eq_ediv_of_nonneg _ Ω];omega
theorem af7(r:Nat)(aM:r<18446744073709551616):bH ak 280 [.ptr (.obj 902) 0] (np r) fun eT ah=>eT= .int .u64 (Sort.xorNextN r)/\ah=np (Sort.xorNextN r):=by
 have ag:=Ji r;unfold np at ag⊢;refine bH.mk mixed oC ae9 amb Ψ ag.obj fun aK cB=>?_;unfold RP;obtain⟨m1,UD⟩:∃m,m=r*8192%18446744073709551616:=⟨_,rfl⟩;have s1:=aoC r;rw[<-UD]at s1;have hX:m1<18446744073709551616:=Ω
 obtain⟨bC,ln⟩:∃m,m=r ^^^ m1:=⟨_,rfl⟩;have t1:=JC r m1 aM hX;rw[<-ln]at t1;have Wa:bC<18446744073709551616:=by rw[ln];exact Nat.xor_lt_two_pow (n:=64) aM hX
 obtain⟨m2,UE⟩:∃m,m=bC/128:=⟨_,rfl⟩;have s2:=aoE bC;rw[<-UE]at s2;have gp:m2<18446744073709551616:=Ω
 obtain⟨a2,qq⟩:∃m,m=bC ^^^ m2:=⟨_,rfl⟩;have t2:=JC bC m2 Wa gp;rw[<-qq]at t2;have ajC:a2<18446744073709551616:=by rw[qq];exact Nat.xor_lt_two_pow (n:=64) Wa gp
 obtain⟨m3,UF⟩:∃m,m=a2*131072%18446744073709551616:=⟨_,rfl⟩;have s3:=aoD a2;rw[<-UF]at s3;have ajB:m3<18446744073709551616:=Ω
 obtain⟨a3,Gm⟩:∃m,m=a2 ^^^ m3:=⟨_,rfl⟩;have t3:=JC a2 m3 ajC ajB;rw[<-Gm]at t3;have aV:Sort.xorNextN r=a3:=by unfold Sort.xorNextN;simp only[<-UD,<-ln,<-UE,<-qq,<-UF,<-Gm]
 rw[aV];simp[-BitVec.toNat_xor,-BitVec.ofInt_natCast,s1,t1,s2,t2,s3,t3];have a6:=Ji a3;have b3:=PE r a3;unfold np at a6 b3;refine cF.at _ (.inl rfl) a6 b3 aL aL ?_;simp[cL,Yg,aX,aY,aW]
end
section
open Go Go.Pv
variable {α:Type} [Inhabited α] {S:List α->cH} {n g cg:Nat} {lc b8:List ai} {lt:α->α->Bool}
theorem abn(a b:Nat)(bu:a<18446744073709551616)(ab:b<18446744073709551616):hA.wrap ((qN hA.bits (a:Int)&&& qN hA.bits (b:Int)).toNat:Int)=(a&&& b:Nat):=by
 have au:a&&& b<18446744073709551616:=Nat.lt_of_le_of_lt Nat.and_le_left bu;have e:(qN hA.bits (a:Int)&&& qN hA.bits (b:Int)).toNat=a&&& b:=by
  rw[BitVec.toNat_and,BitVec.toNat_ofInt,BitVec.toNat_ofInt];have al:((a:Int)%(2 ^ hA.bits:Nat)).toNat=a:=by simp[oH];omega
  have aE:((b:Int)%(2 ^ hA.bits:Nat)).toNat=b:=by simp[oH];omega
  rw[al,aE]
 rw[e];generalize a&&& b=c at au;simp[ta,oH,s9];omega
def zT(a len M i0:Nat)(d:Array α):Nat->UInt64×Array α
 |0=>(UInt64.ofNat len,d)
 |k+1=>Sort.breakStep a len M (zT a len M i0 d k) (i0+k)
theorem aby(d:Array α)(a b:Nat)(h:8<=b-a):Sort.breakPatterns d a b=(zT a (b-a) (1<<<Sort.bitsLen (b-a)) (a+(b-a)/4*2-1) d 3).2:=by unfold Sort.breakPatterns;simp only[if_pos h,zT];rfl
theorem aam{ob O:List aI}{ah:cH}(ei:dN ah)(dp:∀k,inObs ah k->k∈O)(vk:∀k∈ob,k∈O){st:br}{dZ:List (Nat×ai)}{L:List (aI×List ai)}{n:Nat}(aN:∀x∈dZ,Pv.get x.1 st.t=x.2/\aD (mu ah n) x.2)(jQ:∀x∈L,Pv.look x.1 st.b=some x.2/\mu ah n x.1/\aH (mu ah n) x.2)
  (ab:∀k cs,Pv.look k ah.b=some cs->Pv.look k st.b=some cs) (he:∀k o,Pv.look k ah.e=some o->Pv.look k st.e=some o):iU ob st ⟨dZ,L++ah.b,ah.e,n,O⟩:=by
 have mj:∀{k},mu ah n k->¬fresh n O k:=by
  rintro k (h|⟨m,hm,rfl⟩)
  ·exact fun aJ=>aJ.2 (dp k h)
  ·intro aJ;have:=aJ.1;simp at this;omega
 refine⟨fun x af=>⟨(aN x af).1,w6 (fun k ad=>mj ad) _ (aN x af).2⟩,fun k cs ad=>?_,fun k o ay=>?_,vk⟩
 ·simp only at ad;rw[cK]at ad;cases ar:Pv.look k L with
  |some x=>rw[ar]at ad;simp only[dQ]at ad;subst ad;obtain⟨J,U,au⟩:=jQ _ (tY ar);exact⟨J,mj U,kd (fun k ad=>mj ad) _ au⟩
  |none=>rw[ar]at ad;exact⟨ab k cs ad,mj (.inl (.inl (by simp[ad]))),kd (fun k ad=>mj (.inl ad)) _ (ei.kb k cs ad)⟩
 ·exact⟨he k o ay,mj (.inl (.inr (by simp at ay;simp[ay]))),fun xs af=>kd (fun k ad=>mj (.inl ad)) _ (ei.ke k o ay xs af)⟩
theorem Pg{ard β:Type}(s:List (aI×β)):∀(l:List (aI×ard)),(∀k x,(k,x)∈l->Pv.look k s=none)->cl s l=l
 |[],_=>rfl
 |(k,x)::r,h=>by have J:=h k x Ψ;simp only[cl,J];rw[Pg s r fun k x af=>h k x (by simp[af])]
def jC(S:List α->cH)(d:Array α)(r:Nat):cH:=⟨(.obj 902,[.int .u64 r])::(S d.toList).b,(S d.toList).e⟩
theorem Fj(H:fe S n g cg lc b8 lt)(d:Array α)(v:Nat):dN (jC S d v):=by
 have h:=H.ok d.toList;have jE:∀k,inObs (S d.toList) k->inObs (jC S d v) k:=fun k ad=>by
  rcases ad with ad|ad
  ·refine .inl ?_;simp only[jC,Pv.look];split
   ·rfl
   ·exact ad
  ·exact .inr ad
 refine⟨⟨fun m=>?_,h.obj.2⟩,fun k cs ad=>?_,fun k o ay xs af=>kd jE _ (h.ke k o ay xs af)⟩
 ·simp[jC,Pv.look,h.obj.1 m]
 ·simp only[jC,Pv.look]at ad;split at ad
  ·cases ad;simp[aH,aD]
  ·exact kd jE _ (h.kb k cs ad)
theorem aal{ob O:List aI}{d2:Array α}{y:Nat}{D:List ai}(ei:dN (jC S d2 y))(dp:∀k,inObs (jC S d2 y) k->k∈O)(vk:∀k∈ob,k∈O){st:br}{dZ:List (Nat×ai)}(aN:∀x∈dZ,Pv.get x.1 st.t=x.2/\aD (mu (jC S d2 y) 1) x.2)(bs:Pv.look (.loc 0) st.b=some D)(u7:aH (mu (jC S d2 y) 1) D)
  (ab:∀k cs,Pv.look k (jC S d2 y).b=some cs->Pv.look k st.b=some cs) (he:∀k o,Pv.look k (jC S d2 y).e=some o->Pv.look k st.e=some o):iU ob st ⟨dZ,(.loc 0,D)::(.obj 902,[.int .u64 y])::(S d2.toList).b,(S d2.toList).e,1,O⟩:=
 aam (L:=[(.loc 0,D)]) ei dp vk aN (fun x af=>by simp only[List.mem_singleton]at af;subst af;exact⟨bs,WU _ _ _ Ω,u7⟩) ab he
theorem agc(H:fe S n g cg lc b8 lt)(ad:sK S 902)(d:Array α)(aR:d.size=n)(a b:Nat)(nA:a<=b)(ab:b<=n)(od:8<=b-a):
  bH ak 262 [e3 g cg lc b8,.int .i64 a,.int .i64 b] (S d.toList) fun r ah=>r= .tuple []/\∃cj,ah=S cj.toList/\cj=Sort.breakPatterns d a b/\cj.size=n:=by
 have ag:=H.ok d.toList;have ar:d.toList.length=n:=by simpa using aR
 have ax:∀l m,Pv.look (.loc m) (S l).b=none:=fun l=>(H.ok l).obj.1;have hu:∀l m cs,cA (.loc m) cs (S l).b=(S l).b++[(.loc m,cs)]:=fun l m cs=>j4 (ax l m);have ay:∀m,aI.loc m∉c1 (S d.toList):=jY ag.obj;have gE:∀l,Pv.look (.obj 902) (S l).b=none:=fun l=>(ad l).1;have lr:∀l,Pv.look (.obj 902) (S l).e=none:=fun l=>(ad l).2;have hle:=H.le;have lS:=WW ad d.toList;rw[aby d a b od];obtain⟨len,hlen⟩:∃len,len=b-a:=⟨_,rfl⟩;rw[<-hlen];obtain⟨M,eb⟩:∃M,M=1<<<Sort.bitsLen len:=⟨_,rfl⟩;rw[<-eb];have asD:len<M/\M<=2*len:=by have:=apu (x:=len) Ω;rw[eb,Nat.one_shiftLeft];omega
 obtain⟨q,bm⟩:∃q,q=len/4:=⟨_,rfl⟩;rw[<-bm];have yK:∀l D cs,cA (.obj 902) cs ((S l).b++[(.loc 0,D)])=(S l).b++[(.loc 0,D),(.obj 902,cs)]:=fun l D cs=>by rw[B6 (gE l)];rfl
 have U7:∀l D x y,cA (.obj 902) y ((S l).b++[(.loc 0,D),(.obj 902,x)])=(S l).b++[(.loc 0,D),(.obj 902,y)]:=fun l D x y=>by rw[B6 (gE l)];simp[cA]
 have el:((b:Int)-a)=(len:Nat):=Ω
 have dh:IntKind.i64.wrap ((len:Int).tdiv 4)=(q:Nat):=by rw[Int.tdiv_eq_ediv_of_nonneg Ω,pz _ Ω];omega
 have ew:hA.wrap (len:Int)=len:=by simp[ta,oH,s9];omega
 refine bH.mk mixed oC aeS alU Ψ ag.obj fun aK cB=>?_;unfold Ry;have o0:=aqw len Ω;rw[<-eb]at o0;simp[e3,hu,yK,U7,ay,lS,cK,ax,gE,lr,Pv.look,cA,el,ew];have hq:IntKind.i64.wrap ((len:Int)/4)=(q:Nat):=by rw[pz _ Ω];omega
 ((with_reducible repeat' first|refine aj ?_|refine aF o0 ?_|refine aG o0 ?_|simp[el,ew,dh,hq,hu,yK,U7,ay,lS,cK,ax,gE,lr,Pv.look,cA]|((first|apply bS|apply bW|apply bV)<;>intro h<;>try simp at h))<;>(try exact cy));obtain⟨i0,De⟩:∃i0,i0=a+q*2-1:=⟨_,rfl⟩;rw[<-De];have acB:((a:Int)+q*2-1)=(i0:Nat):=Ω
 rw[acB];have dp:∀(cu:Array α) r k,inObs (jC S cu r) k->cu.size=n->k∈aI.obj 902::c1 (S d.toList):=fun cu r k h e8=>by
  have dG:=H.same d.toList cu.toList ar (by simpa using e8);rcases h with h|h
  ·simp only[jC,Pv.look]at h;split at h
   ·rename_i e;subst e;simp
   ·exact oL _ (ud (.inl (by rw[dG.b];exact h)))
  ·exact oL _ (ud (.inr (by rw[dG.e];exact h)))
 have yz:∀(cu:Array α) r,cu.size=n->aH (mu (jC S cu r) 1) [.func g lc,.func cg b8]:=fun cu r e8=>by
  have J:=H.kdata (lk:=cu.toList) (by simpa using e8);have U:aH (inObs (S cu.toList)) [.func g lc,.func cg b8]:=by simpa[e3,aD,aH]using J
  refine kd (fun k ad=>.inl ?_) _ U;rcases ad with ad|ad
  ·refine .inl ?_;simp only[jC,Pv.look];split
   ·rfl
   ·exact ad
  ·exact .inr ad
 have asP:∀(cu:Array α) r D k cs,Pv.look k (jC S cu r).b=some cs->Pv.look k ((.loc 0,D)::(jC S cu r).b)=some cs:=fun cu r D k cs h=>by
  cases k with
  |loc m=>rw[(Fj H cu r).obj.1 m]at h;cases h
  |obj m=>simpa[Pv.look]using h
 refine oY (fun(x:Nat×UInt64×Array α)=>⟨[(1,.int .i64 a),(3,.ptr (.loc 0) 0),(6,.int .i64 len),(7,.ptr (.obj 902) 0),(8,.int .u64 M),(9,.int .i64 ((i0+x.1:Nat):Int))],[(.loc 0,[.func g lc,.func cg b8])]++(jC S x.2.2 x.2.1.toNat).b,(jC S x.2.2 x.2.1.toNat).e,1,aI.obj 902::c1 (S d.toList)⟩) (fun x=>3-x.1)
  (fun x=>x.1<=3/\x.2.2.size=n/\zT a len M i0 d x.1=x.2) (0,UInt64.ofNat len,d) ?_ ⟨Ψ,aR,rfl⟩ ?_
 ·refine aam (Fj H d _) (fun k h=>dp d _ k h aR) (fun k h=>oL _ h) (by simp[aD,inObs,jC,Pv.look,mu]) ?_ ?_ aL
  ·intro x af;simp only[List.mem_singleton]at af;subst af;exact⟨by simp[cK,ax,Pv.look],WU _ _ _ Ω,yz d _ aR⟩
  ·intro k cs h;simp only[jC,Pv.look]at h;rw[cK];split at h
   ·rename_i e;subst e;rw[gE];have:(UInt64.ofNat len).toNat=len:=by simp;omega
    rw[this]at h;simpa[Pv.look]using h
   ·rw[h]
 rintro⟨k,r,cu⟩ ⟨aU,bo,cd⟩ _;simp only at aU bo cd;have aM:=r.toNat_lt;obtain⟨x,af⟩:∃x,x=r.toNat:=⟨_,rfl⟩;rw[<-af]at aM⊢;have oj:Sort.xorNextN x<18446744073709551616:=Sort.xorNextN_lt x Ω;have Ly:(Sort.xorNext r).toNat=Sort.xorNextN x:=by rw[Sort.xorNext_toNat,<-af]
 obtain⟨y,aO⟩:∃y,y=Sort.xorNextN x:=⟨_,rfl⟩;have acv:hA.wrap ((M:Int)-1)=(M-1:Nat):=by simp[ta,oH,s9];omega
 have yn:=abn y (M-1) Ω Ω;obtain⟨z,bp⟩:∃z,z=y&&& (M-1):=⟨_,rfl⟩;rw[<-bp]at yn;have asY:z<=M-1:=by rw[bp];exact Nat.and_le_right
 have oa:IntKind.i64.wrap (z:Int)=z:=by rw[pz _ Ω]
 by_cases ahO:k=3
 ·subst ahO;simp[jC,Pv.look,hq];((with_reducible repeat' first|refine aj ?_|simp[hq]|((first|apply bS|apply bW|apply bV)<;>intro h<;>try simp at h))<;>(try exact cy));refine cF.at (S cu.toList) (.inr rfl) (H.ok _) (H.same _ _ ar (by simpa using bo)) (fun k cs h=>?_) (fun _ _ h=>h) ?_
  ·simp only[Pv.look];split
   ·rename_i e;subst e;rw[ax]at h;cases h
   ·split
    ·rename_i e;subst e;rw[gE]at h;cases h
    ·exact h
  ·simp[cL,Ya,aX,aY,aW];exact⟨cu,rfl,by rw[cd],bo⟩
 ·have re:((i0+k:Nat):Int)<=(a:Int)+q*2+1:=Ω
  have Uz:((i0:Int)+k)<=(a:Int)+q*2+1:=Ω
  simp[jC,Pv.look,hq,Uz,re];(with_reducible repeat' first|refine aj ?_|simp[hq,Uz,re,Pv.look]);have asU:=H.same d.toList cu.toList ar (by simpa using bo);have aiG:∀(fV:Array α) (v:List ai),cl [(aI.obj 902,v)] (S fV.toList).b=(S fV.toList).b:=fun fV v=>Pg _ _ fun k x hm=>by
   have:=vx hm;simp only[Pv.look];split
   ·rename_i e;subst e;rw[gE]at this;cases this
   ·rfl
  refine cT.ob (af7 x Ω) (Ji x) (fun k cs h=>?_) (fun k o h=>by simp[np,Pv.look]at h) (by simp[aD,aH,inObs,np,Pv.look]) ?_
  ·simp only[np,Pv.look]at h⊢;split at h
   ·rename_i e;subst e;simpa using h
   ·cases h
  rintro eT ah ⟨rfl,rfl⟩;refine⟨PE _ _,?_⟩;rw[<-aO];have ady:cl (np x).b ((aI.loc 0,[ai.func g lc,ai.func cg b8])::(aI.obj 902,[ai.int .u64 x])::(S cu.toList).b)=(aI.loc 0,[ai.func g lc,ai.func cg b8])::(S cu.toList).b:=by simp[np,cl,Pv.look,aiG]
  have adz:cl (np x).e (S cu.toList).e=(S cu.toList).e:=Pg _ _ fun _ _ _=>rfl;rw[ady,adz,show(np y).b=[(aI.obj 902,[ai.int .u64 y])]from rfl,show(np y).e=[]from rfl,List.append_nil];have asB:∀(v:List ai),Pv.look (.obj 902) ((aI.loc 0,[ai.func g lc,ai.func cg b8])::((S cu.toList).b++[(aI.obj 902,v)]))=some v:=fun v=>by simp[Pv.look,cK,gE]
  have Qa:∀o',o'<len->o'=(if z≥len then z-len else z)->Sort.breakStep a len M (r,cu) (i0+k)=(Sort.xorNext r,Sort.swp cu (i0+k) (a+o')):=fun o' J U=>by unfold Sort.breakStep;simp only[Ly,<-aO,<-bp,<-U]
  have SX:((i0:Int)+k)=((i0+k:Nat):Int):=Ω
  simp only[eZ,aI.obj.injEq];simp[-BitVec.toNat_and,-BitVec.ofInt_natCast,acv,yn,oa,Pv.look,H.ssc];by_cases asZ:len<=z
  ·have LX:(len:Int)<=z:=Ω
   have Kj:((a:Int)+(z-len))=((a+(z-len):Nat):Int):=Ω
   ((with_reducible repeat' first|refine aj ?_|simp[LX,Pv.look,H.ssc]|((first|apply bS|apply bW|apply bV)<;>intro h<;>try simp at h))<;>(try exact cy));rw[Kj,SX];refine cT.ob (H.swap cu.toList (by simpa using bo) Ω (i0+k) (a+(z-len)) Ω Ω) (H.ok _) (fun bT cs h=>?_) (fun _ _ h=>h) (by simp[aD,aH,H.ksc cu.toList (by simpa using bo)]) ?_
   ·simp only[Pv.look];split
    ·rename_i e;subst e;rw[ax]at h;cases h
    ·rw[cK,h]
   rintro eT ah ⟨rfl,rfl⟩;refine⟨H.same _ _ (by simpa using bo) (by simpa using bo),?_⟩;rw[Hq cu Ω Ω];obtain⟨d2,eW⟩:∃d2,d2=Sort.swp cu (i0+k) (a+(z-len)):=⟨_,rfl⟩;have s2:d2.size=n:=by rw[eW,hf,bo]
   rw[<-eW];have Ko:∀v:List ai,cl (S cu.toList).b ((aI.loc 0,[ai.func g lc,ai.func cg b8])::((S cu.toList).b++[(aI.obj 902,v)]))=[(aI.loc 0,[ai.func g lc,ai.func cg b8]),(aI.obj 902,v)]:=fun v=>by simp only[cl,ax];rw[ia,gR];simp[cl,gE]
   dsimp only;rw[Ko,gR];simp;(with_reducible repeat' first|refine aj ?_|simp);have Kf:((i0:Int)+k+1)=((i0+(k+1):Nat):Int):=Ω
   rw[Kf];refine bO.whl (k+1,Sort.xorNext r,d2) (by simp;omega) ⟨by simp;omega,s2,by simp only[zT,cd];rw[Qa (z-len) Ω (by rw[if_pos Ω]),eW]⟩ ?_;rw[Ly,<-aO];refine aal (Fj H d2 y) (fun k h=>dp d2 _ k h s2) (fun k h=>oL _ h) (by simp[aD,inObs,jC,Pv.look,mu]) (by simp[Pv.look]) (yz d2 _ s2) ?_ (fun _ _ h=>h);intro k cs h;simp only[jC,Pv.look]at h⊢;split at h
   ·rename_i e;subst e;simpa using h
   ·rename_i e;split
    ·rename_i aE;subst aE;rw[ax]at h;cases h
    ·exact h
  ·have LX:¬(len:Int)<=z:=Ω
   have Kj:((a:Int)+z)=((a+z:Nat):Int):=Ω
   ((with_reducible repeat' first|refine aj ?_|simp[LX,Pv.look,H.ssc]|((first|apply bS|apply bW|apply bV)<;>intro h<;>try simp at h))<;>(try exact cy));rw[Kj,SX];refine cT.ob (H.swap cu.toList (by simpa using bo) Ω (i0+k) (a+z) Ω Ω) (H.ok _) (fun bT cs h=>?_) (fun _ _ h=>h) (by simp[aD,aH,H.ksc cu.toList (by simpa using bo)]) ?_
   ·simp only[Pv.look];split
    ·rename_i e;subst e;rw[ax]at h;cases h
    ·rw[cK,h]
   rintro eT ah ⟨rfl,rfl⟩;refine⟨H.same _ _ (by simpa using bo) (by simpa using bo),?_⟩;rw[Hq cu Ω Ω];obtain⟨d2,eW⟩:∃d2,d2=Sort.swp cu (i0+k) (a+z):=⟨_,rfl⟩;have s2:d2.size=n:=by rw[eW,hf,bo]
   rw[<-eW];have Ko:∀v:List ai,cl (S cu.toList).b ((aI.loc 0,[ai.func g lc,ai.func cg b8])::((S cu.toList).b++[(aI.obj 902,v)]))=[(aI.loc 0,[ai.func g lc,ai.func cg b8]),(aI.obj 902,v)]:=fun v=>by simp only[cl,ax];rw[ia,gR];simp[cl,gE]
   dsimp only;rw[Ko,gR];simp;(with_reducible repeat' first|refine aj ?_|simp);have Kf:((i0:Int)+k+1)=((i0+(k+1):Nat):Int):=Ω
   rw[Kf];refine bO.whl (k+1,Sort.xorNext r,d2) (by simp;omega) ⟨by simp;omega,s2,by simp only[zT,cd];rw[Qa z Ω (by rw[if_neg Ω]),eW]⟩ ?_;rw[Ly,<-aO];refine aal (Fj H d2 y) (fun k h=>dp d2 _ k h s2) (fun k h=>oL _ h) (by simp[aD,inObs,jC,Pv.look,mu]) (by simp[Pv.look]) (yz d2 _ s2) ?_ (fun _ _ h=>h);intro k cs h;simp only[jC,Pv.look]at h⊢;split at h
   ·rename_i e;subst e;simpa using h
   ·rename_i e;split
    ·rename_i aE;subst aE;rw[ax]at h;cases h
    ·exact h
end
section
open Go Go.Pv
variable {α:Type} [Inhabited α] {S:List α->cH} {n g cg:Nat} {lc b8:List ai} {lt:α->α->Bool}
theorem fe.fnD{d d2:Array α}(H:fe S n g cg lc b8 lt)(J:d.size=n){f:Nat}{args:List ai}{r:ai}(aJ:bH ak f args (S d.toList) fun eT ah=>eT=r/\∃cj,ah=S cj.toList/\cj=d2/\cj.size=n)(ad:aH (inObs (S d.toList)) args){t:List (Nat×ai)}{D:List ai}{o:List aI}{cj:ba Nat}{K:br->Prop}
  (h:d2.size=n->∀o,K ⟨eZ cj r t,(.loc 0,D)::(S d2.toList).b,(S d2.toList).e,1,o⟩):cT ak f args ⟨t,(.loc 0,D)::(S d.toList).b,(S d.toList).e,1,o⟩ cj K:=
 H.call (by simpa using J) (R:=fun eT aZ=>eT=r/\aZ=d2.toList/\d2.size=n) (aJ.mono fun r ah ⟨al,cj,aE,bn,dh⟩=>⟨cj.toList,aE,al,by rw[bn],by rw[<-bn];exact dh⟩) (fun r aZ ⟨_,e,h⟩=>by rw[e];simpa using h) ad (by rintro eT aZ ⟨rfl,rfl,U⟩;exact h U _)
attribute [local simp] pV
def Cj(S:List α->cH)(n g cg:Nat)(lc b8:List ai)(lt:α->α->Bool)(m:Nat):Prop:=
 ∀k,k<m->∀(d:Array α),d.size=n->∀a b xa:Nat,b-a<=k->a<=b->b<=n->xa<=1000->Sort.Below lt a b d->
  bH ak 210 [e3 g cg lc b8,.int .i64 a,.int .i64 b,.int .i64 xa] (S d.toList) fun r ah=>r= .tuple []/\∃cj,ah=S cj.toList/\Sort.PermIn a b d cj/\Sort.SortedIn lt a b cj
structure xS (S:List α->cH) (n g cg:Nat) (lc b8:List ai) (lt:α->α->Bool) (bq cb lim:Nat) (d:Array α) (Q:Exit->br->Prop):Prop where
 k:∀e,e= .normal\/e= .exit 1->∀(a2 ca:Nat) (w v:Bool) (L:Array α) (t:List (Nat×ai)) (o:List aI),L.size=n->a2<=ca->ca<=n->ca-a2<cb-bq->Sort.Below lt a2 ca L->(∀R,Sort.PermIn a2 ca L R->Sort.SortedIn lt a2 ca R->Sort.PermIn bq cb d R/\Sort.SortedIn lt bq cb R)->
  Pv.get 1 t= .int .i64 a2->Pv.get 2 t= .int .i64 ca->Pv.get 3 t= .int .i64 lim->Pv.get 4 t= .ptr (.loc 0) 0->Pv.get 8 t= .bool w->Pv.get 9 t= .bool v->Q e ⟨t,(.loc 0,[.func g lc,.func cg b8])::(S L.toList).b,(S L.toList).e,1,o⟩
 r:∀(R:Array α) t o,Sort.PermIn bq cb d R->Sort.SortedIn lt bq cb R->Q .ret ⟨t,(.loc 0,[.func g lc,.func cg b8])::(S R.toList).b,(S R.toList).e,1,o⟩
theorem xS.mono{bq cb lim:Nat}{d cj:Array α}{Q:Exit->br->Prop}(h:xS S n g cg lc b8 lt bq cb lim d Q)(p:Sort.PermIn bq cb d cj):xS S n g cg lc b8 lt bq cb lim cj Q:=⟨fun e he a2 ca w v L t o al aE bn dh hq h0=>h.k e he a2 ca w v L t o al aE bn dh hq fun R dy fb=>⟨Sort.permIn_trans _ _ _ bq cb p (h0 R dy fb).1,(h0 R dy fb).2⟩,fun R t o dy fb=>h.r R t o (Sort.permIn_trans _ _ _ bq cb p dy) fb⟩
structure zN (t:List (Nat×ai)) (bq cb lim:Nat):Prop where
 t1:Pv.get 1 t= .int .i64 bq
 t2:Pv.get 2 t= .int .i64 cb
 t3:Pv.get 3 t= .int .i64 lim
 t4:Pv.get 4 t= .ptr (.loc 0) 0
 t10:Pv.get 10 t= .int .i64 ((cb:Int)-bq)
section
variable {bq cb lim:Nat} {cQ:Array α} {t:List (Nat×ai)} {o:List aI} {ob:List aI} {Q:Exit->br->Prop}
theorem Xu(H:fe S n g cg lc b8 lt)(bD:Sort.SWO lt)(bR:Cj S n g cg lc b8 lt (cb-bq)){pv:Nat}(T:zN t bq cb lim)(t11:Pv.get 11 t= .int .i64 pv)(sl:lim<=1000)(pf:cQ.size=n)(qt:bq<=pv/\pv<cb)(cd:cb<=n)(tx:12<cb-bq)(uD:Sort.Below lt bq cb cQ)(hV:xS S n g cg lc b8 lt bq cb lim cQ Q):
  c4 ak ob JT Q ⟨t,(.loc 0,[.func g lc,.func cg b8])::(S cQ.toList).b,(S cQ.toList).e,1,o⟩:=by
 obtain⟨t1,t2,t3,t4,t10⟩:=T;have tH:∀fV:Array α,fV.size=n->aD (inObs (S fV.toList)) (e3 g cg lc b8):=fun fV h=>H.kdata (lk:=fV.toList) (by simpa using h);have hle:=H.le;unfold JT;simp[t1,t2,t4,t11,Pv.look,H.slc,H.ssc];simp only[iC H,H.slc,H.ssc,iw];have rn:=agu H cQ pf bq cb pv qt.1 qt.2 Ω cd;have bm:Sort.partition lt cQ bq cb pv=((Sort.partition lt cQ bq cb pv).1,(Sort.partition lt cQ bq cb pv).2.1,(Sort.partition lt cQ bq cb pv).2.2):=rfl;generalize (Sort.partition lt cQ bq cb pv).1=mid at rn bm;generalize (Sort.partition lt cQ bq cb pv).2.1=ap at rn bm;generalize (Sort.partition lt cQ bq cb pv).2.2=d4 at rn bm;obtain⟨g1,g2,g3,g4,g5,g6,g7⟩:=Sort.round_part bD (Sort.partition_holds lt) qt.1 qt.2 Ω uD bm;refine H.fnD pf rn (by simp[aD,aH,tH cQ pf]) fun s4 o=>?_;have em:((mid:Int)+1)=(mid+1:Nat):=Ω
 simp[t1,t2,t3,t4,t10];by_cases asQ:mid-bq<cb-mid
 ·have Lq:(mid:Int)-bq<cb-mid:=Ω
  (with_reducible repeat' first|refine aj ?_|simp[Lq,Pv.look,t1,t2,t3,t4,t10]);simp only[iC H,H.slc,H.ssc,iw];refine H.doFn (lk:=d4.toList) (by simpa using s4) (R:=fun aZ=> ∃L:Array α,aZ=L.toList/\Sort.PermIn bq mid d4 L/\Sort.SortedIn lt bq mid L) ((bR (mid-bq) Ω d4 s4 bq mid lim (e7 _) g1 Ω sl g4).mono fun r ah ⟨bc,cj,bE,b1,c5⟩=>⟨bc,cj.toList,bE,cj,rfl,b1,c5⟩) (by rintro aZ ⟨L,rfl,q,_⟩;simpa using q.1.trans s4) (by simp[aH,aD,tH d4 s4]) ?_;rintro aZ ⟨L,rfl,cV,dC⟩;obtain⟨kV,pw⟩:=g6 L cV dC;simp;(with_reducible repeat' first|refine aj ?_|simp[t1,t2,t3,t4]);rw[em];exact hV.k _ (.inl rfl) (mid+1) cb _ ap L _ _ (cV.1.trans s4) Ω cd Ω kV pw Ψ (by simp[t2]) (by simp[t3]) (by simp[t4]) (by simp;rfl) Ψ
 ·have Lq:¬(mid:Int)-bq<cb-mid:=Ω
  (with_reducible repeat' first|refine aj ?_|simp[Lq,Pv.look,t1,t2,t3,t4,t10]);simp only[iC H,H.slc,H.ssc,iw];rw[em];refine H.doFn (lk:=d4.toList) (by simpa using s4) (R:=fun aZ=> ∃L:Array α,aZ=L.toList/\Sort.PermIn (mid+1) cb d4 L/\Sort.SortedIn lt (mid+1) cb L) ((bR (cb-(mid+1)) Ω d4 s4 (mid+1) cb lim (e7 _) Ω cd sl g5).mono fun r ah ⟨bc,cj,bE,b1,c5⟩=>⟨bc,cj.toList,bE,cj,rfl,b1,c5⟩) (by rintro aZ ⟨L,rfl,q,_⟩;simpa using q.1.trans s4) (by simp[aH,aD,tH d4 s4]) ?_;rintro aZ ⟨L,rfl,cV,dC⟩;obtain⟨kV,pw⟩:=g7 L cV dC;simp;(with_reducible repeat' first|refine aj ?_|simp[t1,t2,t3,t4]);exact hV.k _ (.inl rfl) bq mid _ ap L _ _ (cV.1.trans s4) g1 Ω Ω kV pw (by simp[t1]) Ψ (by simp[t3]) (by simp[t4]) (by simp;rfl) Ψ
theorem amR(H:fe S n g cg lc b8 lt)(bD:Sort.SWO lt)(bR:Cj S n g cg lc b8 lt (cb-bq)){pv:Nat}(T:zN t bq cb lim)(t11:Pv.get 11 t= .int .i64 pv){w v:Bool}(t8:Pv.get 8 t= .bool w)(t9:Pv.get 9 t= .bool v)(sl:lim<=1000)(pf:cQ.size=n)(qt:bq<=pv/\pv<cb)(cd:cb<=n)(tx:12<cb-bq)(uD:Sort.Below lt bq cb cQ)(hV:xS S n g cg lc b8 lt bq cb lim cQ Q):
  c4 ak ob Cy Q ⟨t,(.loc 0,[.func g lc,.func cg b8])::(S cQ.toList).b,(S cQ.toList).e,1,o⟩:=by
 obtain⟨t1,t2,t3,t4,t10⟩:=id T;have hle:=H.le;unfold Cy;by_cases tC:0<bq
 ·have K8:(0:Int)<bq:=Ω
  simp[t1,t2,t4,t11,tC,K8,Pv.look,H.slc,H.ssc];(with_reducible repeat' first|refine aj ?_|simp[t1,t2,t4,t11,tC,K8,Pv.look,H.slc,H.ssc]);rw[show((bq:Int)-1)=((bq-1:Nat):Int) by omega];refine H.lessA pf (bq-1) pv Ω Ω fun o=>?_;cases jT:lt cQ[bq-1]! cQ[pv]!
  ·simp;(with_reducible repeat' first|refine aj ?_|simp[Pv.look,H.slc,H.ssc,t1,t2,t4,t11]);simp only[iC H,H.slc,H.ssc,iw];have rn:=agv H cQ pf bq cb pv qt.1 qt.2 Ω cd;have bm:Sort.partitionEqual lt cQ bq cb pv=((Sort.partitionEqual lt cQ bq cb pv).1,(Sort.partitionEqual lt cQ bq cb pv).2):=rfl;generalize (Sort.partitionEqual lt cQ bq cb pv).1=mid at rn bm;generalize (Sort.partitionEqual lt cQ bq cb pv).2=d4 at rn bm;obtain⟨g1,g2,g3,g4,g5⟩:=Sort.round_eq bD (Sort.partitionEqual_holds lt) tC qt.1 qt.2 Ω uD jT bm;refine H.fnD pf rn (by simp[aD,aH,H.kdata (lk:=cQ.toList) (by simpa using pf)]) fun s4 o=>?_;simp[t1,t2,t3,t4];exact hV.k _ (.inr rfl) mid cb w v d4 _ _ s4 g2 cd Ω g4 g5 Ψ (by simp[t2]) (by simp[t3]) (by simp[t4]) (by simp[t8]) (by simp[t9])
  ·simp;exact Xu H bD bR ⟨by simp[t1],by simp[t2],by simp[t3],by simp[t4],by simp[t10]⟩ (by simp[t11]) sl pf qt cd tx uD hV
 ·have K8:¬(0:Int)<bq:=Ω
  simp[t1,tC];exact Xu H bD bR ⟨by simp[t1],by simp[t2],by simp[t3],by simp[t4],by simp[t10]⟩ (by simp[t11]) sl pf qt cd tx uD hV
theorem Ns(H:fe S n g cg lc b8 lt)(bD:Sort.SWO lt)(bR:Cj S n g cg lc b8 lt (cb-bq)){pv:Nat}(T:zN t bq cb lim)(t11:Pv.get 11 t= .int .i64 pv){h:Nat}(t12:Pv.get 12 t= .int .i64 h){w v:Bool}(t8:Pv.get 8 t= .bool w)(t9:Pv.get 9 t= .bool v)(sl:lim<=1000)(pf:cQ.size=n)(qt:bq<=pv/\pv<cb)(cd:cb<=n)(tx:12<cb-bq)(uD:Sort.Below lt bq cb cQ)(hV:xS S n g cg lc b8 lt bq cb lim cQ Q):
  c4 ak ob JU Q ⟨t,(.loc 0,[.func g lc,.func cg b8])::(S cQ.toList).b,(S cQ.toList).e,1,o⟩:=by
 obtain⟨t1,t2,t3,t4,t10⟩:=id T;have hle:=H.le;unfold JU;have next:∀{d5:Array α} {t o},zN t bq cb lim->Pv.get 11 t= .int .i64 pv->Pv.get 8 t= .bool w->Pv.get 9 t= .bool v->d5.size=n->Sort.Below lt bq cb d5->Sort.PermIn bq cb cQ d5->c4 ak ob Cy Q ⟨t,(.loc 0,[.func g lc,.func cg b8])::(S d5.toList).b,(S d5.toList).e,1,o⟩:=fun al aE bn dh hq h0 rY=>amR H bD bR al aE bn dh sl hq qt cd tx h0 (hV.mono rY)
 have skip:∀{t o},zN t bq cb lim->Pv.get 11 t= .int .i64 pv->Pv.get 8 t= .bool w->Pv.get 9 t= .bool v->c4 ak ob Cy Q ⟨t,(.loc 0,[.func g lc,.func cg b8])::(S cQ.toList).b,(S cQ.toList).e,1,o⟩:=fun al aE bn dh=>next al aE bn dh pf uD (Sort.permIn_refl _ _ _)
 by_cases aw:(w=true/\v=true)/\h=1
 ·obtain⟨⟨rfl,rfl⟩,rfl⟩:=aw;simp[t1,t2,t4,t8,t9,t12,Pv.look,H.slc,H.ssc];simp only[iC H,H.slc,H.ssc,iw];have rn:=agt H cQ pf bq cb Ω cd Ω;have bm:=Sort.partialInsertionSort_holds bD cQ bq cb Ω Ω uD;generalize (Sort.partialInsertionSort lt cQ bq cb).1=d5 at rn bm;generalize (Sort.partialInsertionSort lt cQ bq cb).2=ok at rn bm;refine H.fnD pf rn (by simp[aD,aH,H.kdata (lk:=cQ.toList) (by simpa using pf)]) fun aos o=>?_;cases ok
  ·simp;exact next ⟨by simp[t1],by simp[t2],by simp[t3],by simp[t4],by simp[t10]⟩ (by simp[t11]) (by simp[t8]) (by simp[t9]) aos (uD.perm Ω bm.1) bm.1
  ·simp;exact hV.r _ _ _ bm.1 (bm.2 rfl)
 ·cases w
  ·simp[t8,t9,t12];exact skip ⟨by simp[t1],by simp[t2],by simp[t3],by simp[t4],by simp[t10]⟩ (by simp[t11]) (by simp[t8]) (by simp[t9])
  ·cases v
   ·simp[t8,t9,t12];exact skip ⟨by simp[t1],by simp[t2],by simp[t3],by simp[t4],by simp[t10]⟩ (by simp[t11]) (by simp[t8]) (by simp[t9])
   ·have J:((h:Int)==1)=false:=by simp at aw⊢;omega
    simp[t8,t9,t12,J];exact skip ⟨by simp[t1],by simp[t2],by simp[t3],by simp[t4],by simp[t10]⟩ (by simp[t11]) (by simp[t8]) (by simp[t9])
theorem Xv(H:fe S n g cg lc b8 lt)(gE:sK S 901)(bD:Sort.SWO lt)(bR:Cj S n g cg lc b8 lt (cb-bq))(T:zN t bq cb lim){w v:Bool}(t8:Pv.get 8 t= .bool w)(t9:Pv.get 9 t= .bool v)(sl:lim<=1000)(s1:cQ.size=n)(cd:cb<=n)(tx:12<cb-bq)(I4:Sort.Below lt bq cb cQ)(hV:xS S n g cg lc b8 lt bq cb lim cQ Q):
  c4 ak ob JV Q ⟨t,(.loc 0,[.func g lc,.func cg b8])::(S cQ.toList).b,(S cQ.toList).e,1,o⟩:=by
 obtain⟨t1,t2,t3,t4,t10⟩:=id T;have hle:=H.le;have tH:∀fV:Array α,fV.size=n->aD (inObs (S fV.toList)) (e3 g cg lc b8):=fun fV h=>H.kdata (lk:=fV.toList) (by simpa using h);unfold JV;simp[t1,t2,t4,Pv.look,H.slc,H.ssc];simp only[iC H,H.slc,H.ssc,iw];have va:=Sort.choosePivot_holds lt cQ bq cb Ω;have Mb:=agd H gE cQ s1 bq cb Ω cd;generalize Sort.choosePivot lt cQ bq cb=J6 at Mb va;obtain⟨p,hint⟩:=J6;simp only at Mb va;refine H.fnA s1 s1 Mb (by simp[aD,aH,tH cQ s1]) fun o=>?_;cases hint
 ·simp[AN];exact Ns H bD bR ⟨by simp[t1],by simp[t2],by simp[t3],by simp[t4],by simp[t10]⟩ (pv:=p) Ψ (h:=0) Ψ (w:=w) (v:=v) (by simp[t8]) (by simp[t9]) sl s1 va cd tx I4 hV
 ·simp[AN];exact Ns H bD bR ⟨by simp[t1],by simp[t2],by simp[t3],by simp[t4],by simp[t10]⟩ (pv:=p) Ψ (h:=1) Ψ (w:=w) (v:=v) (by simp[t8]) (by simp[t9]) sl s1 va cd tx I4 hV
 ·simp[AN,t1,t2,t4,Pv.look,H.slc,H.ssc];simp only[iC H,H.slc,H.ssc,iw];refine H.fnD s1 (agA H cQ s1 bq cb Ω cd Ω) (by simp[aD,aH,tH cQ s1]) fun s2 o=>?_;have aM:=Sort.reverseRange_holds cQ bq cb Ω Ω;have S0:((cb:Int)-1-(p-bq))=((cb-1)-(p-bq):Nat):=Ω
  simp[t1,t2,S0];(with_reducible repeat' first|refine aj ?_|simp[S0,t1,t2]);exact Ns H bD bR ⟨by simp[t1],by simp[t2],by simp[t3],by simp[t4],by simp[t10]⟩ (pv:=(cb-1)-(p-bq)) Ψ (h:=1) Ψ (w:=w) (v:=v) (by simp[t8]) (by simp[t9]) sl s2 Ω cd tx (I4.perm Ω aM) (hV.mono aM)
end
theorem agw(H:fe S n g cg lc b8 lt)(gE:sK S 901)(lr:sK S 902)(bD:Sort.SWO lt)(m:Nat):∀(d:Array α) (aR:d.size=n) (a b xa:Nat) (hm:b-a<=m) (nA:a<=b) (ab:b<=n) (eB:xa<=1000) (AA:Sort.Below lt a b d),
  bH ak 210 [e3 g cg lc b8,.int .i64 a,.int .i64 b,.int .i64 xa] (S d.toList) fun r ah=>r= .tuple []/\∃cj,ah=S cj.toList/\Sort.PermIn a b d cj/\Sort.SortedIn lt a b cj:=by
 induction m using Nat.strongRecOn with
 |ind m bR=>
 intro d aR a b xa hm nA ab eB AA;have ag:=H.ok d.toList;have ar:d.toList.length=n:=by simpa using aR
 have ax:∀l m,Pv.look (.loc m) (S l).b=none:=fun l=>(H.ok l).obj.1;have hu:∀l m cs,cA (.loc m) cs (S l).b=(S l).b++[(.loc m,cs)]:=fun l m cs=>j4 (ax l m);have ay:∀m,aI.loc m∉c1 (S d.toList):=jY ag.obj;have hle:=H.le;refine bH.mk mixed oC ae2 al4 Ψ ag.obj fun aK cB=>?_;unfold RI;simp[e3,hu,ay,cK,ax];refine H.loopA ar [4] (fun(x:((Nat×Nat×Nat)×Bool×Bool)×Array α)=>[(1,.int .i64 x.1.1.1),(2,.int .i64 x.1.1.2.1),(3,.int .i64 x.1.1.2.2),(8,.bool x.1.2.1),(9,.bool x.1.2.2)]) (·.2) (fun x=>x.1.1.2.1-x.1.1.1) (fun x=>x.2.size=n/\(x.1.1.1<=x.1.1.2.1/\x.1.1.2.1<=n/\x.1.1.2.1-x.1.1.1<=m/\x.1.1.2.2<=1000)/\Sort.Below lt x.1.1.1 x.1.1.2.1 x.2/\∀R,Sort.PermIn x.1.1.1 x.1.1.2.1 x.2 R->Sort.SortedIn lt x.1.1.1 x.1.1.2.1 R->Sort.PermIn a b d R/\Sort.SortedIn lt a b R)
  (((a,b,xa),true,true),d) aR ⟨aR,⟨nA,ab,hm,eB⟩,AA,fun R J U=>⟨J,U⟩⟩ (by simp[cK,ax]) aL aL (by simp[aD]) ?_
 rintro⟨⟨⟨bq,cb,vw⟩,aq6,wp⟩,cu⟩ ⟨aU,⟨bo,cd,e9,di⟩,Ma,G8⟩;simp only at aU bo cd e9 di Ma G8;have tH:∀fV:Array α,fV.size=n->aD (inObs (S fV.toList)) (e3 g cg lc b8):=fun fV h=>H.kdata (lk:=fV.toList) (by simpa using h);have Ip:∀(R:Array α) t o,Sort.PermIn bq cb cu R->Sort.SortedIn lt bq cb R->cF Ye (S d.toList) (fun r ah=>r= .tuple []/\∃cj,ah=S cj.toList/\Sort.PermIn a b d cj/\Sort.SortedIn lt a b cj) .ret ⟨t,(.loc 0,[.func g lc,.func cg b8])::(S R.toList).b,(S R.toList).e,1,o⟩:=fun R t o J U=>by refine H.retA ar (by rw[J.1];exact aU) (.inl rfl) ⟨rfl,R,rfl,G8 R J U⟩
 simp;by_cases tx:cb-bq<=12
 ·have CX:(cb:Int)-bq<=12:=Ω
  (with_reducible repeat' first|refine aj ?_|simp[CX,Pv.look,H.slc,H.ssc]);simp only[iC H,H.slc,H.ssc,iw];refine H.fnD aU (agi H cu aU bq cb bo cd) (by simp[aD,aH,tH cu aU]) fun s2 o=>?_;obtain⟨bc,bE⟩:=Sort.insertionSort_holds bD cu bq cb bo Ω;simp;exact Ip _ _ _ bc bE
 have CX:¬(cb:Int)-bq<=12:=Ω
 by_cases AQ:vw=0
 ·have GC:(((vw:Nat):Int)==0)=true:=by simp[AQ]
  (with_reducible repeat' first|refine aj ?_|simp[CX,GC,Pv.look,H.slc,H.ssc]);simp only[iC H,H.slc,H.ssc,iw];refine H.fnD aU (agh H cu aU bq cb bo cd Ω) (by simp[aD,aH,tH cu aU]) fun s2 o=>?_;obtain⟨bc,bE⟩:=Sort.heapSort_holds bD cu bq cb bo Ω;simp;exact Ip _ _ _ bc bE
 have GC:(((vw:Nat):Int)==0)=false:=by simp[AQ]
 have Ve:Cj S n g cg lc b8 lt (cb-bq):=fun k ad=>bR k Ω;cases aq6
 ·(with_reducible repeat' first|refine aj ?_|simp[CX,GC,Pv.look,H.slc,H.ssc]);simp only[iC H,H.slc,H.ssc,iw];refine H.fnD aU (agc H lr cu aU bq cb bo cd Ω) (by simp[aD,aH,tH cu aU]) fun s1 o=>?_;have xR:=Sort.breakPatterns_holds cu bq cb bo Ω;generalize Sort.breakPatterns cu bq cb=d1 at s1 xR;have el:((vw:Int)-1)=(vw-1:Nat):=Ω
  simp[el];(with_reducible repeat' first|refine aj ?_|simp[el,Pv.look]);refine Xv (lim:=vw-1) H gE bD Ve ⟨Ψ,Ψ,Ψ,Ψ,Ψ⟩ (w:=false) (v:=wp) Ψ Ψ Ω s1 cd Ω (Ma.perm Ω xR) ⟨?_,fun R t o dy fb=>?_⟩
  ·rintro e he a2 ca w v L t o al aE bn dh hq h0 t1 t2 t3 t4 t8 t9;rcases he with rfl|rfl<;>simp<;>exact bO.whl (((a2,ca,vw-1),w,v),L) (by simp;omega) ⟨al,⟨aE,bn,by simp;omega,by simp;omega⟩,hq,fun R dy fb=>G8 R (Sort.permIn_trans _ _ _ bq cb xR (h0 R dy fb).1) (h0 R dy fb).2⟩ (H.weakC ar (by simpa using al) (by simp[aD,t1,t2,t3,t4,t8,t9]))
  ·simpa using Ip R t o (Sort.permIn_trans _ _ _ bq cb xR dy) fb
 ·(with_reducible repeat' first|refine aj ?_|simp[CX,GC,Pv.look,H.slc,H.ssc]);refine Xv (lim:=vw) H gE bD Ve ⟨Ψ,Ψ,Ψ,Ψ,Ψ⟩ (w:=true) (v:=wp) Ψ Ψ di aU cd Ω Ma ⟨?_,fun R t o dy fb=>?_⟩
  ·rintro e he a2 ca w v L t o al aE bn dh hq h0 t1 t2 t3 t4 t8 t9;rcases he with rfl|rfl<;>simp<;>exact bO.whl (((a2,ca,vw),w,v),L) (by simp;omega) ⟨al,⟨aE,bn,by simp;omega,di⟩,hq,fun R dy fb=>G8 R (h0 R dy fb).1 (h0 R dy fb).2⟩ (H.weakC ar (by simpa using al) (by simp[aD,t1,t2,t3,t4,t8,t9]))
  ·simpa using Ip R t o dy fb
end
section
open Go Go.Pv
variable {α:Type} {S:List α->cH} {n g cg:Nat} {lc b8:List ai} {lt:α->α->Bool}
theorem aj2(bD:qS lt){l lk:List α}{a b i:Nat}(nB:a+1<=i)(AM:i<=b)(ab:b<=l.length)(ag:fm lt (a+1) b l){z:α}(bp:l[a]? =some z)(Di:∀h x,a+1<=h->h<i->l[h]? =some x->lt x z=true)(Dd:∀h x,i<=h->h<b->l[h]? =some x->lt x z=false)
  (aM:∀k,lk[k]? =l[h7 a (a+1) i k]?):fm lt a b lk:=by
 intro p q x y bB kL bm af aO;rw[aM]at af aO;simp only[h7]at af aO;rw[if_neg Ω]at af aO;by_cases bc:q<i-1
 ·rw[if_pos Ω]at af aO;exact ag _ _ _ _ Ω Ω Ω af aO
 ·rw[if_neg Ω]at aO;by_cases bE:q<i
  ·rw[if_pos bE,show q-(i-(a+1))=a by omega,bp]at aO;cases aO;rw[if_pos Ω]at af;exact bD.asym _ _ (Di _ _ Ω Ω af)
  ·rw[if_neg bE]at aO;by_cases cV:p<i-1
   ·rw[if_pos Ω]at af;exact ag _ _ _ _ Ω Ω Ω af aO
   ·rw[if_neg Ω]at af;by_cases dC:p<i
    ·rw[if_pos dC,show p-(i-(a+1))=a by omega,bp]at af;cases af;exact Dd _ _ Ω bm aO
    ·rw[if_neg dC]at af;exact ag _ _ _ _ Ω Ω bm af aO
theorem aj3(bD:qS lt){l lk:List α}{a m i:Nat}(nB:a<=i)(asO:i<=m)(ab:m+1<=l.length)(ag:fm lt a m l){z:α}(bp:l[m]? =some z)(Di:∀h x,a<=h->h<i->l[h]? =some x->lt z x=false)(Dd:∀h x,i<=h->h<m->l[h]? =some x->lt z x=true)
  (aM:∀k,lk[k]? =l[h7 i m (m+1) k]?):fm lt a (m+1) lk:=by
 intro p q x y bB kL bm af aO;rw[aM]at af aO;simp only[h7]at af aO;by_cases bc:q<i
 ·rw[if_pos Ω]at af aO;exact ag _ _ _ _ bB kL Ω af aO
 ·rw[if_neg bc]at aO;by_cases bE:q=i
  ·rw[if_pos Ω,show q+(m-i)=m by omega,bp]at aO;cases aO;rw[if_pos Ω]at af;exact Di _ _ bB Ω af
  ·rw[if_neg Ω,if_pos Ω]at aO;by_cases cV:p<i
   ·rw[if_pos cV]at af;exact ag _ _ _ _ bB Ω Ω af aO
   ·rw[if_neg cV]at af;by_cases dC:p=i
    ·rw[if_pos Ω,show p+(m-i)=m by omega,bp]at af;cases af;exact bD.asym _ _ (Dd _ _ Ω Ω aO)
    ·rw[if_neg Ω,if_pos Ω]at af;exact ag _ _ _ _ Ω Ω Ω af aO
structure Fb (lt:α->α->Bool) (a s m e b mid:Nat) (lk:List α):Prop where
 s1:fm lt a s lk
 s2:fm lt s mid lk
 s3:fm lt mid e lk
 s4:fm lt e b lk
 cross:∀p q x y,a<=p->p<mid->mid<=q->q<b->lk[p]? =some x->lk[q]? =some y->lt y x=false
theorem fm.le(bD:qS lt){a b:Nat}{l:List α}(h:fm lt a b l){i j:Nat}{x y:α}(J:a<=i)(U:i<=j)(au:j<b)(af:l[i]? =some x)(aO:l[j]? =some y):lt y x=false:=by
 by_cases e:i=j
 ·subst e;rw[af]at aO;cases aO;cases Va:lt x x with
  |false=>rfl
  |true=>have:=bD.asym _ _ Va;rw[Va]at this;exact this
 ·exact h _ _ _ _ J Ω au af aO
theorem akb(bD:qS lt){l lk:List α}{a m b mid s e:Nat}(has:a<=s)(dG:s<=m)(asR:m<=e)(asM:e<=b)(ab:b<=l.length)(lU:s+e=mid+m)(J:fm lt a m l)(U:fm lt m b l)
  (bK:s=a\/e=b\/ ∃x y,l[s-1]? =some x/\l[e]? =some y/\lt y x=false) (cq:s=m\/e=m\/ ∃x y,l[s]? =some x/\l[e-1]? =some y/\lt y x=true) (aM:∀k,lk[k]? =l[h7 s m e k]?):Fb lt a s m e b mid lk:=by
 have g1:∀p,p<s->lk[p]? =l[p]?:=fun p bB=>by rw[aM];simp[h7,bB]
 have g2:∀p,s<=p->p<mid->lk[p]? =l[p+(m-s)]?:=fun p au a6=>by rw[aM];simp only[h7];rw[if_neg Ω,if_pos Ω]
 have g3:∀p,mid<=p->p<e->lk[p]? =l[p-(e-m)]?:=fun p au a6=>by rw[aM];simp only[h7];rw[if_neg Ω,if_neg Ω,if_pos Ω]
 have g4:∀p,e<=p->lk[p]? =l[p]?:=fun p au=>by
  rw[aM];simp only[h7];rw[if_neg Ω];by_cases b3:p<s+(e-m)
  ·omega
  ·rw[if_neg b3,if_neg Ω]
 refine⟨fun p q x y bB kL bm af aO=>?_,fun p q x y bB kL bm af aO=>?_,fun p q x y bB kL bm af aO=>?_,fun p q x y bB kL bm af aO=>?_,fun p q x y bB aii bm LC af aO=>?_⟩
 ·rw[g1 _ Ω]at af aO;exact J _ _ _ _ bB kL Ω af aO
 ·rw[g2 _ Ω Ω]at af aO;exact U _ _ _ _ Ω Ω Ω af aO
 ·rw[g3 _ Ω Ω]at af aO;exact J _ _ _ _ Ω Ω Ω af aO
 ·rw[g4 _ Ω]at af aO;exact U _ _ _ _ Ω Ω Ω af aO
 ·by_cases cV:p<s
  ·rw[g1 _ cV]at af;by_cases bc:q<e
   ·rw[g3 _ bm bc]at aO;exact J _ _ _ _ bB Ω Ω af aO
   ·rw[g4 _ Ω]at aO;rcases bK with bK|bK|⟨u,v,aU,bo,cd⟩
    ·omega
    ·omega
    ·exact bD.ntr _ _ _ (bD.ntr _ _ _ (fm.le bD J bB Ω Ω af aU) cd) (fm.le bD U Ω Ω LC bo aO)
  ·rw[g2 _ Ω aii]at af;by_cases bc:q<e
   ·rw[g3 _ bm bc]at aO;rcases cq with cq|cq|⟨u,v,aU,bo,cd⟩
    ·omega
    ·omega
    ·exact bD.ntr _ _ _ (bD.ntr _ _ _ (fm.le bD U Ω Ω Ω af bo) (bD.asym _ _ cd)) (fm.le bD J Ω Ω Ω aU aO)
   ·rw[g4 _ Ω]at aO;exact U _ _ _ _ Ω Ω LC af aO
theorem akc{a mid b:Nat}(C4:a<=mid){lk hX gp:List α}(J:gB a mid lk hX)(s1:fm lt a mid hX)(U:gB mid b hX gp)(s2:fm lt mid b gp)(acq:∀p q x y,a<=p->p<mid->mid<=q->q<b->lk[p]? =some x->lk[q]? =some y->lt y x=false):fm lt a b gp:=by
 intro p q x y bB kL bm af aO;by_cases au:q<mid
 ·rw[U.out _ (.inl Ω)]at af;rw[U.out _ (.inl Ω)]at aO;exact s1 _ _ _ _ bB kL au af aO
 ·by_cases a6:mid<=p
  ·exact s2 _ _ _ _ a6 kL bm af aO
  ·rw[U.out _ (.inl Ω)]at af;refine U.all (fun y=>lt y x=false) (fun k y gE lr aO=>?_) q y Ω bm aO;rw[J.out _ (.inr gE)]at aO;exact J.all (fun x=>lt y x=false) (fun bT x ahM ahN af=>acq bT k x y ahM ahN gE lr af aO) p x bB Ω af
end
section
open Go Go.Pv
variable {α:Type} {S:List α->cH} {n g cg:Nat} {lc b8:List ai} {lt:α->α->Bool}
def apb(lt:α->α->Bool)(l:List α)(mid m s0 r0:Nat)(x:Nat×Nat):Prop:=s0<=x.1/\x.1<=x.2/\x.2<=r0/\(x.1=s0\/ ∃u v,l[x.1-1]? =some u/\l[mid+m-x.1]? =some v/\lt v u=false)/\(x.2=r0\/ ∃u v,l[x.2]? =some u/\l[mid+m-x.2-1]? =some v/\lt v u=true)
attribute [local simp] pV
def Fk(S:List α->cH)(n g cg:Nat)(lc b8:List ai)(lt:α->α->Bool)(d:Nat):Prop:=
 ∀(l:List α) (a m b:Nat),l.length=n->b-a<=d->a<m->m<b->b<=n->fm lt a m l->fm lt m b l->
  bH ak 277 [e3 g cg lc b8,.int .i64 a,.int .i64 m,.int .i64 b] (S l) fun r ah=>r= .tuple []/\∃aZ,ah=S aZ/\gB a b l aZ/\fm lt a b aZ
def Fl(S:List α->cH)(g cg:Nat)(lc b8:List ai)(lt:α->α->Bool)(a b:Nat)(l:List α)(Q:Exit->br->Prop):Prop:=∀gp t o,gB a b l gp->fm lt a b gp->Q .normal ⟨t,(.loc 0,[.func g lc,.func cg b8])::(S gp).b,(S gp).e,1,o⟩
section
variable {a m b mid i e d:Nat} {l:List α} {t:List (Nat×ai)} {o:List aI} {ob:List aI} {Q:Exit->br->Prop}
theorem aoO(H:fe S n g cg lc b8 lt)(bR:Fk S n g cg lc b8 lt d)(t3:Pv.get 3 t= .int .i64 b)(t4:Pv.get 4 t= .ptr (.loc 0) 0)(t16:Pv.get 16 t= .int .i64 mid)(t22:Pv.get 22 t= .int .i64 e)(ar:l.length=n)(J:mid<=e)(U:e<=b)(ab:b<=n)(aR:b-mid<=d)(UZ:fm lt mid e l)(U0:fm lt e b l)(hV:Fl S g cg lc b8 lt mid b l Q):
  c4 ak ob FJ Q ⟨t,(.loc 0,[.func g lc,.func cg b8])::(S l).b,(S l).e,1,o⟩:=by
 unfold FJ;by_cases lP:mid<e/\e<b
 ·simp[t3,t4,t16,t22,lP.1,lP.2,Pv.look];simp only[iC H,H.slc,H.ssc,iw];refine H.doFn ar (bR l mid e b ar aR lP.1 lP.2 ab UZ U0) (fun aZ h=>by rw[h.1.length];exact ar) (by simp[aH,aD,H.kdata ar]) ?_;rintro gp ⟨la,z2⟩;simp;exact hV _ _ _ la z2
 ·have p2:fm lt mid b l:=by
   by_cases pW:mid<e
   ·rwa[show e=b by omega]at UZ
   ·rwa[show e=mid by omega]at U0
  by_cases pW:mid<e
  ·have ahh:¬e<b:=Ω
   simp[t3,t16,t22,pW,ahh];exact hV _ _ _ (.refl _) p2
  ·simp[t16,t22,pW];exact hV _ _ _ (.refl _) p2
theorem aoP(H:fe S n g cg lc b8 lt)(bR:Fk S n g cg lc b8 lt d)(t1:Pv.get 1 t= .int .i64 a)(t3:Pv.get 3 t= .int .i64 b)(t4:Pv.get 4 t= .ptr (.loc 0) 0)(t16:Pv.get 16 t= .int .i64 mid)(t18:Pv.get 18 t= .int .i64 i)(t22:Pv.get 22 t= .int .i64 e)(ar:l.length=n)(bs:a<=i/\i<=mid/\a<=m)(J:mid<=e)(U:e<=b)(ab:b<=n)(aR:b-mid<=d)(k1:mid-a<=d)(eb:Fb lt a i m e b mid l)(hV:Fl S g cg lc b8 lt a b l Q):
  c4 ak ob FK Q ⟨t,(.loc 0,[.func g lc,.func cg b8])::(S l).b,(S l).e,1,o⟩:=by
 unfold FK;have next:∀{hX t o},Pv.get 3 t= .int .i64 b->Pv.get 4 t= .ptr (.loc 0) 0->Pv.get 16 t= .int .i64 mid->Pv.get 22 t= .int .i64 e->hX.length=n->gB a mid l hX->fm lt a mid hX->c4 ak ob FJ Q ⟨t,(.loc 0,[.func g lc,.func cg b8])::(S hX).b,(S hX).e,1,o⟩:=fun al aE bn dh yA cV dC=>by
  refine aoO H bR al aE bn dh yA J U ab aR (fun p q x y J U au af aO=>?_) (fun p q x y J U au af aO=>?_) fun gp t o bc bE=>?_
  ·rw[cV.out _ (.inr J)]at af;rw[cV.out _ (.inr Ω)]at aO;exact eb.s3 p q x y J U au af aO
  ·rw[cV.out _ (.inr Ω)]at af;rw[cV.out _ (.inr Ω)]at aO;exact eb.s4 p q x y J U au af aO
  ·exact hV gp t o ((cV.mono Ω Ω).trans (bc.mono Ω Ω)) (akc Ω cV dC bc bE eb.cross)
 by_cases ln:a<i/\i<mid
 ·simp[t1,t4,t16,t18,ln.1,ln.2,Pv.look];simp only[iC H,H.slc,H.ssc,iw];refine H.doFn ar (bR l a i mid ar k1 ln.1 ln.2 Ω eb.s1 eb.s2) (fun aZ h=>by rw[h.1.length];exact ar) (by simp[aH,aD,H.kdata ar]) ?_;rintro hX ⟨cV,dC⟩;simp;exact next (by simp[t3]) (by simp[t4]) (by simp[t16]) (by simp[t22]) (by rw[cV.length];exact ar) cV dC
 ·have dC:fm lt a mid l:=by
   by_cases qq:a<i
   ·have:=eb.s1;rwa[show i=mid by omega]at this
   ·have:=eb.s2;rwa[show i=a by omega]at this
  by_cases qq:a<i
  ·have Gm:¬i<mid:=Ω
   simp[t1,t16,t18,qq,Gm];exact next (by simp[t3]) (by simp[t4]) (by simp[t16]) (by simp[t22]) ar (.refl _) dC
  ·simp[t1,t18,qq];exact next (by simp[t3]) (by simp[t4]) (by simp[t16]) (by simp[t22]) ar (.refl _) dC
theorem aoQ(H:fe S n g cg lc b8 lt)(bR:Fk S n g cg lc b8 lt d)(t1:Pv.get 1 t= .int .i64 a)(t2:Pv.get 2 t= .int .i64 m)(t3:Pv.get 3 t= .int .i64 b)(t4:Pv.get 4 t= .ptr (.loc 0) 0)(t16:Pv.get 16 t= .int .i64 mid)(t18:Pv.get 18 t= .int .i64 i)(t22:Pv.get 22 t= .int .i64 e)(ar:l.length=n)(bs:a<=i/\i<=mid/\a<=m)(J:mid<=e)(U:e<=b)(ab:b<=n)(aR:b-mid<=d)(k1:mid-a<=d)(UG:∀lk:List α,(∀k,lk[k]? =l[h7 i m e k]?)->Fb lt a i m e b mid lk)(hV:Fl S g cg lc b8 lt a b l Q):
  c4 ak ob JW Q ⟨t,(.loc 0,[.func g lc,.func cg b8])::(S l).b,(S l).e,1,o⟩:=by
 unfold JW;have next:∀{lk t o},Pv.get 1 t= .int .i64 a->Pv.get 3 t= .int .i64 b->Pv.get 4 t= .ptr (.loc 0) 0->Pv.get 16 t= .int .i64 mid->Pv.get 18 t= .int .i64 i->Pv.get 22 t= .int .i64 e->lk.length=n->Fb lt a i m e b mid lk->gB a b l lk->c4 ak ob FK Q ⟨t,(.loc 0,[.func g lc,.func cg b8])::(S lk).b,(S lk).e,1,o⟩:=fun al aE bn dh hq h0 ik eb ahb=>aoP H bR al aE bn dh hq h0 ik bs J U ab aR k1 eb fun gp t o bc bE=>hV gp t o (ahb.trans bc) bE
 by_cases p0:i<m/\m<e
 ·simp[t2,t4,t18,t22,p0.1,p0.2,Pv.look];simp only[iC H,H.slc,H.ssc,iw];refine H.doFn ar (agB H l ar i m e p0.1 p0.2 Ω) (fun aZ h=>by rw[h.1.length];exact ar) (by simp[aH,aD,H.kdata ar]) ?_;rintro lk ⟨bc,bE⟩;simp;exact next (by simp[t1]) (by simp[t3]) (by simp[t4]) (by simp[t16]) (by simp[t18]) (by simp[t22]) (by rw[bc.length];exact ar) (UG lk bE) (bc.mono Ω Ω)
 ·have eb:=UG l (fun k=>by
   congr 1;simp only[h7];repeat' split
   all_goals omega)
  by_cases mL:i<m
  ·have aik:¬m<e:=Ω
   simp[t2,t18,t22,mL,aik];exact next (by simp[t1]) (by simp[t3]) (by simp[t4]) (by simp[t16]) (by simp[t18]) (by simp[t22]) ar eb (.refl _)
  ·simp[t2,t18,mL];exact next (by simp[t1]) (by simp[t3]) (by simp[t4]) (by simp[t16]) (by simp[t18]) (by simp[t22]) ar eb (.refl _)
theorem YY{bb:List (aI×List ai)}(H:fe S n g cg lc b8 lt)(wC:Pv.look (.loc 0) bb=some [.func g lc,.func cg b8])(cB:∀k cs,Pv.look k (S l).b=some cs->Pv.look k bb=some cs)(bD:qS lt)(bR:Fk S n g cg lc b8 lt d){s0 r0:Nat}(t1:Pv.get 1 t= .int .i64 a)(t2:Pv.get 2 t= .int .i64 m)(t3:Pv.get 3 t= .int .i64 b)(t4:Pv.get 4 t= .ptr (.loc 0) 0)(t16:Pv.get 16 t= .int .i64 mid)(t17:Pv.get 17 t= .int .i64 ((mid:Int)+m))(t18:Pv.get 18 t= .int .i64 s0)(t19:Pv.get 19 t= .int .i64 r0)(ar:l.length=n)(bs:a<m/\m<b/\mid=(a+b)/2)(J:mid<m/\s0=mid+m-b/\r0=mid\/m<=mid/\s0=a/\r0=m)(ab:b<=n)(aR:b-a<=d+1)(kM:fm lt a m l)(p1:fm lt m b l)(hV:Fl S g cg lc b8 lt a b l Q):
  c4 ak (c1 (S l)) JX Q ⟨t,bb,(S l).e,1,o⟩:=by
 have hle:=H.le;unfold JX;simp[t17];(with_reducible repeat' first|refine aj ?_|simp[t17]);refine oY (fun(x:Nat×Nat)=>⟨[(1,.int .i64 a),(2,.int .i64 m),(3,.int .i64 b),(4,.ptr (.loc 0) 0),(16,.int .i64 mid),(17,.int .i64 (mid+m)),(20,.int .i64 (mid+m-1)),(18,.int .i64 x.1),(19,.int .i64 x.2)],(.loc 0,[.func g lc,.func cg b8])::(S l).b,(S l).e,1,c1 (S l)⟩) (fun x=>x.2-x.1)
  (apb lt l mid m s0 r0) (s0,r0) (H.weak ar ar (by simp[aD,t1,t2,t3,t4,t16,t17,t18,t19]) wC cB fun _ _ h=>h) ⟨Ψ,by simp;omega,Ψ,.inl rfl,.inl rfl⟩ ?_
 rintro⟨i,j⟩ ⟨aU,bo,cd,e9,di⟩ _;simp only at aU bo cd e9 di;have o9:=Gp i j Ω;by_cases ml:i<j
 ·simp[ml];(with_reducible repeat' first|refine aj ?_|simp[Pv.look]);obtain⟨c,aw⟩:∃c,c=(i+j)/2:=⟨_,rfl⟩;rw[<-aw]at o9;simp only[o9];(with_reducible repeat' first|refine aj ?_|simp[Pv.look]);obtain⟨u,LS⟩:∃u,l[c]? =some u:=⟨_,cc Ω⟩;obtain⟨v,LU⟩:∃v,l[mid+m-1-c]? =some v:=⟨_,cc Ω⟩;have dh:((mid:Int)+m-1-c)=(mid+m-1-c:Nat):=Ω
  simp only[H.slc,dh];refine H.doLess ar (mid+m-1-c) c LU LS ?_;simp;cases sw:lt v u with
  |false=>simp;(with_reducible repeat' first|refine aj ?_|simp);refine bO.whl (c+1,j) (by simp;omega) ⟨by simp;omega,by simp;omega,cd,.inr ⟨u,v,by simpa using LS,?_,sw⟩,di⟩ (H.weakC ar ar (by simp[aD]));simp only;rw[show mid+m-(c+1)=mid+m-1-c by omega];exact LU
  |true=>simp;(with_reducible repeat' first|refine aj ?_|simp);refine bO.whl (i,c) (by simp;omega) ⟨aU,by simp;omega,by simp;omega,e9,.inr ⟨u,v,LS,?_,sw⟩⟩ (H.weakC ar ar (by simp[aD]));simp only;rw[show mid+m-c-1=mid+m-1-c by omega];exact LU
 ·obtain rfl:i=j:=Ω
  obtain⟨e,he⟩:∃e,e=mid+m-i:=⟨_,rfl⟩;have hq:((mid:Int)+m-i)=(e:Nat):=Ω
  have bK:i=a\/e=b\/ ∃x y,l[i-1]? =some x/\l[e]? =some y/\lt y x=false:=by
   rcases e9 with e9|⟨u,v,bc,bE,b1⟩
   ·omega
   ·exact .inr (.inr ⟨u,v,bc,by rw[he];exact bE,b1⟩)
  have cq:i=m\/e=m\/ ∃x y,l[i]? =some x/\l[e-1]? =some y/\lt y x=true:=by
   rcases di with di|⟨u,v,bc,bE,b1⟩
   ·omega
   ·exact .inr (.inr ⟨u,v,bc,by rw[he];exact bE,b1⟩)
  simp[ml];(with_reducible repeat' first|refine aj ?_|simp);rw[hq];exact aoQ H bR (a:=a) (m:=m) (b:=b) (mid:=mid) (i:=i) (e:=e) Ψ Ψ Ψ Ψ Ψ Ψ Ψ ar Ω Ω Ω ab Ω Ω (fun lk aM=>akb bD Ω Ω Ω Ω Ω Ω kM p1 bK cq aM) hV
end
theorem TV(H:fe S n g cg lc b8 lt)(bD:qS lt)(d:Nat):∀(l:List α) (a m b:Nat),l.length=n->b-a<=d->a<m->m<b->b<=n->fm lt a m l->fm lt m b l->
  bH ak 277 [e3 g cg lc b8,.int .i64 a,.int .i64 m,.int .i64 b] (S l) fun r ah=>r= .tuple []/\∃aZ,ah=S aZ/\gB a b l aZ/\fm lt a b aZ:=by
 induction d with
 |zero=>intro l a m b ar aR C4 pY;omega
 |succ d bR=>
 intro l a m b ar aR C4 pY ab kM p1;have ag:=H.ok l;have ax:∀l m,Pv.look (.loc m) (S l).b=none:=fun l=>(H.ok l).obj.1;have hu:∀l m cs,cA (.loc m) cs (S l).b=(S l).b++[(.loc m,cs)]:=fun l m cs=>j4 (ax l m);have ay:∀m,aI.loc m∉c1 (S l):=jY ag.obj;have hle:=H.le;refine bH.mk mixed B4 ae8 ama Ψ ag.obj fun aK cB=>?_;unfold RO;simp[e3,hu,ay,cK,ax];(with_reducible repeat' first|((first|apply bS|apply bW|apply bV)<;>intro h<;>try simp at h)|refine aj ?_|simp[hu,ay,cK,ax])
 ·obtain rfl:m=a+1:=Ω
  have LG:∀k,h7 a (a+1) (a+1) k=k:=by
   intro k;simp only[h7];repeat' split
   all_goals omega
  obtain⟨z,bp⟩:∃z,l[a]? =some z:=⟨_,cc Ω⟩;refine oY (fun(x:Nat×Nat)=>⟨[(1,.int .i64 a),(4,.ptr (.loc 0) 0),(8,.int .i64 x.1),(9,.int .i64 x.2)],(.loc 0,[.func g lc,.func cg b8])::(S l).b,(S l).e,1,c1 (S l)⟩) (fun x=>x.2-x.1)
   (fun x=>a+1<=x.1/\x.1<=x.2/\x.2<=b/\(∀h y,a+1<=h->h<x.1->l[h]? =some y->lt y z=true)/\(∀h y,x.2<=h->h<b->l[h]? =some y->lt y z=false)) (a+1,b)
   (H.weak ar ar (by simp[aD]) (by simp[cK,ax]) aL aL) ⟨Ψ,by simp;omega,Ψ,fun h y J U=>by simp at U;omega,fun h y J U=>by simp at J;omega⟩ ?_
  rintro⟨i,j⟩ ⟨aU,bo,cd,e9,di⟩ _;simp only at aU bo cd e9 di;have hw:=Gp i j Ω;simp[Pv.look];(with_reducible repeat' first|((first|apply bS|apply bW|apply bV)<;>intro h<;>try simp at h)|refine aj ?_|simp[Pv.look])
  ·obtain⟨c,aw⟩:∃c,c=(i+j)/2:=⟨_,rfl⟩;rw[<-aw]at hw;obtain⟨y,aO⟩:∃y,l[c]? =some y:=⟨_,cc Ω⟩;simp only[hw,H.slc];refine H.doLess ar c a aO bp ?_;simp;cases sw:lt y z with
   |true=>
    simp;(with_reducible repeat' first|refine aj ?_|simp);refine bO.whl (c+1,j) (by simp;omega) ⟨by simp;omega,by simp;omega,cd,fun h u J U hu=>?_,di⟩ (H.weakC ar ar (by simp[aD]));cases e:lt u z with
    |true=>rfl
    |false=>simp only at U;have:=bD.ntr _ _ _ e (fm.le bD p1 J Ω Ω hu aO);rw[sw]at this;cases this
   |false=>simp;(with_reducible repeat' first|refine aj ?_|simp);refine bO.whl (i,c) (by simp;omega) ⟨aU,by simp;omega,by simp;omega,e9,fun h u J U hu=>?_⟩ (H.weakC ar ar (by simp[aD]));exact bD.ntr _ _ _ sw (fm.le bD p1 Ω J U aO hu)
  ·obtain rfl:i=j:=Ω
   refine oY (fun(x:Nat×List α)=>⟨[(4,.ptr (.loc 0) 0),(8,.int .i64 i),(11,.int .i64 x.1)],(.loc 0,[.func g lc,.func cg b8])::(S x.2).b,(S x.2).e,1,c1 (S l)⟩) (fun x=>i-x.1)
    (fun x=>x.2.length=n/\a<=x.1/\x.1<i/\gB a b l x.2/\∀k,x.2[k]? =l[h7 a (a+1) (x.1+1) k]?) (a,l)
    (H.weakC ar ar (by simp[aD])) ⟨ar,Ψ,by simp;omega,.refl _,fun k=>by simp[LG]⟩ ?_
   rintro⟨k,lk⟩ ⟨bc,bE,b1,c5,df⟩ _;simp only at bc bE b1 c5 df;simp[Pv.look];((with_reducible repeat' first|refine aj ?_|simp[Pv.look]|((first|apply bS|apply bW|apply bV)<;>intro h<;>try simp at h))<;>(try exact cy))
   ·have bn:((k:Int)+1)=(k+1:Nat):=Ω
    rw[H.ssc,bn];refine H.doSwap bc k (k+1) Ω Ω Ω ?_;simp;(with_reducible repeat' first|((first|apply bS|apply bW|apply bV)<;>intro h<;>try simp at h)|refine aj ?_|simp);refine bO.whl (k+1,gW lk k (k+1)) (by simp;omega) ⟨by simp[bc],by simp;omega,by simp;omega,.step c5 Ω Ω Ω Ω Ω Ω,fun t=>?_⟩ (H.weakC ar (by simp[bc]) (by simp[aD]));rw[Bi _ _ _ _ Ω Ω,df,df,df];have:h7 a (a+1) (k+1+1) t=if t=k then h7 a (a+1) (k+1) (k+1)else if t=k+1 then h7 a (a+1) (k+1) k else h7 a (a+1) (k+1) t:=by
     simp only[h7];repeat' split
     all_goals omega
    rw[this];split
    ·rfl
    ·split<;>rfl
   ·obtain rfl:i=k+1:=Ω
    refine H.ret ar bc (.inl rfl) ⟨rfl,lk,rfl,c5,aj2 bD Ω cd Ω p1 bp e9 di df⟩
 ·obtain rfl:b=m+1:=Ω
  have LG:∀k,h7 m m (m+1) k=k:=by
   intro k;simp only[h7];repeat' split
   all_goals omega
  obtain⟨z,bp⟩:∃z,l[m]? =some z:=⟨_,cc Ω⟩;refine oY (fun(x:Nat×Nat)=>⟨[(2,.int .i64 m),(4,.ptr (.loc 0) 0),(12,.int .i64 x.1),(13,.int .i64 x.2)],(.loc 0,[.func g lc,.func cg b8])::(S l).b,(S l).e,1,c1 (S l)⟩) (fun x=>x.2-x.1)
   (fun x=>a<=x.1/\x.1<=x.2/\x.2<=m/\(∀h y,a<=h->h<x.1->l[h]? =some y->lt z y=false)/\(∀h y,x.2<=h->h<m->l[h]? =some y->lt z y=true)) (a,m)
   (H.weak ar ar (by simp[aD]) (by simp[cK,ax]) aL aL) ⟨Ψ,by simp;omega,Ψ,fun h y J U=>by simp at U;omega,fun h y J U=>by simp at J;omega⟩ ?_
  rintro⟨i,j⟩ ⟨aU,bo,cd,e9,di⟩ _;simp only at aU bo cd e9 di;have hw:=Gp i j Ω;simp[Pv.look];(with_reducible repeat' first|((first|apply bS|apply bW|apply bV)<;>intro h<;>try simp at h)|refine aj ?_|simp[Pv.look])
  ·obtain⟨c,aw⟩:∃c,c=(i+j)/2:=⟨_,rfl⟩;rw[<-aw]at hw;obtain⟨y,aO⟩:∃y,l[c]? =some y:=⟨_,cc Ω⟩;simp only[hw,H.slc];refine H.doLess ar m c bp aO ?_;simp;cases sw:lt z y with
   |false=>simp;((with_reducible repeat' first|refine aj ?_|simp|((first|apply bS|apply bW|apply bV)<;>intro h<;>try simp at h))<;>(try exact cy));refine bO.whl (c+1,j) (by simp;omega) ⟨by simp;omega,by simp;omega,cd,fun h u J U hu=>?_,di⟩ (H.weakC ar ar (by simp[aD]));simp only at U;exact bD.ntr _ _ _ (fm.le bD kM J Ω Ω hu aO) sw
   |true=>
    simp;((with_reducible repeat' first|refine aj ?_|simp|((first|apply bS|apply bW|apply bV)<;>intro h<;>try simp at h))<;>(try exact cy));refine bO.whl (i,c) (by simp;omega) ⟨aU,by simp;omega,by simp;omega,e9,fun h u J U hu=>?_⟩ (H.weakC ar ar (by simp[aD]));cases e:lt z u with
    |true=>rfl
    |false=>have:=bD.ntr _ _ _ (fm.le bD kM Ω J U aO hu) e;rw[sw]at this;cases this
  ·obtain rfl:i=j:=Ω
   refine oY (fun(x:Nat×List α)=>⟨[(4,.ptr (.loc 0) 0),(12,.int .i64 i),(15,.int .i64 x.1)],(.loc 0,[.func g lc,.func cg b8])::(S x.2).b,(S x.2).e,1,c1 (S l)⟩) (fun x=>x.1)
    (fun x=>x.2.length=n/\i<=x.1/\x.1<=m/\gB a (m+1) l x.2/\∀k,x.2[k]? =l[h7 x.1 m (m+1) k]?) (m,l)
    (H.weakC ar ar (by simp[aD])) ⟨ar,by simp;omega,Ψ,.refl _,fun k=>by simp[LG]⟩ ?_
   rintro⟨k,lk⟩ ⟨bc,bE,b1,c5,df⟩ _;simp only at bc bE b1 c5 df;simp[Pv.look];((with_reducible repeat' first|refine aj ?_|simp[Pv.look]|((first|apply bS|apply bW|apply bV)<;>intro h<;>try simp at h))<;>(try exact cy))
   ·have bn:((k:Int)-1)=(k-1:Nat):=Ω
    rw[H.ssc,bn];refine H.doSwap bc k (k-1) Ω Ω Ω ?_;simp;(with_reducible repeat' first|refine aj ?_|simp);refine bO.whl (k-1,gW lk k (k-1)) (by simp;omega) ⟨by simp[bc],by simp;omega,by simp;omega,.step c5 Ω Ω Ω Ω Ω Ω,fun t=>?_⟩ (H.weakC ar (by simp[bc]) (by simp[aD];omega));rw[Bi _ _ _ _ Ω Ω,df,df,df];have:h7 (k-1) m (m+1) t=if t=k then h7 k m (m+1) (k-1)else if t=k-1 then h7 k m (m+1) k else h7 k m (m+1) t:=by
     simp only[h7];repeat' split
     all_goals omega
    rw[this];split
    ·rfl
    ·split<;>rfl
   ·obtain rfl:i=k:=Ω
    refine H.ret ar bc (.inl rfl) ⟨rfl,lk,rfl,c5,aj3 bD Ω cd Ω kM bp e9 di df⟩
 ·obtain⟨mid,Ls⟩:∃mid,mid=(a+b)/2:=⟨_,rfl⟩;have hw:=Gp a b Ω;rw[<-Ls]at hw;simp only[hw];(with_reducible repeat' first|((first|apply bS|apply bW|apply bV)<;>intro h<;>try simp at h)|refine aj ?_|simp[hu,ay,cK,ax])
  ·exact YY (s0:=mid+m-b) (r0:=mid) H (by simp[cK,ax]) aL bD bR (a:=a) (m:=m) (b:=b) (mid:=mid) Ψ Ψ Ψ Ψ Ψ Ψ (by simp;omega) Ψ ar ⟨C4,pY,Ls⟩ Ω ab aR kM p1 fun gp t o bc bE=>H.ret ar (by rw[bc.length];exact ar) (.inr rfl) ⟨rfl,gp,rfl,bc,bE⟩
  ·exact YY (s0:=a) (r0:=m) H (by simp[cK,ax]) aL bD bR (a:=a) (m:=m) (b:=b) (mid:=mid) Ψ Ψ Ψ Ψ Ψ Ψ Ψ Ψ ar ⟨C4,pY,Ls⟩ Ω ab aR kM p1 fun gp t o bc bE=>H.ret ar (by rw[bc.length];exact ar) (.inr rfl) ⟨rfl,gp,rfl,bc,bE⟩
end
section
open Go Go.Pv
variable {α:Type} {S:List α->cH} {n g cg:Nat} {lc b8:List ai} {lt:α->α->Bool}
def pF(lt:α->α->Bool)(z a b:Nat)(l:List α):Prop:= ∀i j x y,a<=i->i<j->j<b->i/z=j/z->l[i]? =some x->l[j]? =some y->lt y x=false
theorem pF.snoc{z q:Nat}(bp:0<z){l aZ:List α}(h:pF lt z 0 (q*z) l){b:Nat}(ag:gB (q*z) b l aZ)(U:fm lt (q*z) b aZ):pF lt z 0 b aZ:=by
 intro i j x y hi ml ae aR af aO;by_cases Uw:j<q*z
 ·rw[ag.out _ (.inl Ω)]at af;rw[ag.out _ (.inl Uw)]at aO;exact h i j x y hi ml Uw aR af aO
 ·have au:q<=j/z:=(Nat.le_div_iff_mul_le bp).2 Ω;have a6:q*z<=i:=(Nat.le_div_iff_mul_le bp).1 Ω;exact U i j x y a6 ml ae af aO
theorem pF.srt{z q:Nat}(bp:0<z){l:List α}{a b:Nat}(h:pF lt z a b l){c:Nat}(asG:a<=q*z)(aw:c<=(q+1)*z)(asI:c<=b):fm lt (q*z) c l:=by intro i j x y hi ml ae af aO;have fM:i/z=q:=Nat.div_eq_of_lt_le hi Ω;have oe:j/z=q:=Nat.div_eq_of_lt_le Ω Ω;exact h i j x y Ω ml Ω Ω af aO
theorem pF.after{z a b bq cb:Nat}{l aZ:List α}(h:pF lt z a b l)(ag:gB a bq l aZ)(bu:a<=bq)(ab:cb<=b):pF lt z bq cb aZ:=by intro i j x y hi ml ae aR af aO;rw[ag.out _ (.inr Ω)]at af;rw[ag.out _ (.inr Ω)]at aO;exact h i j x y Ω ml Ω aR af aO
theorem KV(H:fe S n g cg lc b8 lt)(bD:qS lt)(l:List α)(ar:l.length=n):
  bH ak 248 [e3 g cg lc b8,.int .i64 n] (S l) fun r ah=>r= .tuple []/\∃aZ,ah=S aZ/\gB 0 n l aZ/\fm lt 0 n aZ:=by
 have ag:=H.ok l;have ax:∀l m,Pv.look (.loc m) (S l).b=none:=fun l=>(H.ok l).obj.1;have hu:∀l m cs,cA (.loc m) cs (S l).b=(S l).b++[(.loc m,cs)]:=fun l m cs=>j4 (ax l m);have ay:∀m,aI.loc m∉c1 (S l):=jY ag.obj;have hle:=H.le;refine bH.mk mixed B4 ae6 al8 Ψ ag.obj fun aK cB=>?_;unfold RM;simp[e3,hu,ay,cK,ax];refine oY (fun(x:Nat×List α)=>⟨[(1,.int .i64 n),(2,.ptr (.loc 0) 0),(4,.int .i64 20),(5,.int .i64 (x.1*20)),(6,.int .i64 (x.1*20+20))],(.loc 0,[.func g lc,.func cg b8])::(S x.2).b,(S x.2).e,1,c1 (S l)⟩) (fun x=>n+20-x.1*20)
  (fun x=>x.2.length=n/\x.1*20<=n/\gB 0 n l x.2/\pF lt 20 0 (x.1*20) x.2) (0,l)
  (H.weak ar ar (by simp[aD]) (by simp[cK,ax]) aL aL) ⟨ar,Ψ,.refl _,fun i j x y J U au=>by simp at au⟩ ?_
 rintro⟨q,lk⟩ ⟨J,U,au,a6⟩ _;simp only at J U au a6;simp[Pv.look];((with_reducible repeat' first|refine aj ?_|simp[Pv.look]|((first|apply bS|apply bW|apply bV)<;>intro h<;>try simp at h))<;>(try exact cy))
 ·have al:((q:Int)*20)=(q*20:Nat):=Ω
  have aE:((q:Int)*20+20)=(q*20+20:Nat):=Ω
  simp only[iC H,H.slc,H.ssc,iw,aE];simp only[al];refine H.doFn J (TN H bD lk J (q*20) (q*20+20) Ω Ω) (fun aZ h=>by rw[h.1.length];exact J) (by simp[aH,aD,H.kdata J]) ?_;rintro aZ ⟨cV,dC⟩;have tI:aZ.length=n:=by rw[cV.length];exact J
  simp;((with_reducible repeat' first|refine aj ?_|simp|((first|apply bS|apply bW|apply bV)<;>intro h<;>try simp at h))<;>(try exact cy));refine bO.whl (q+1,aZ) (by simp;omega) ⟨tI,by simp;omega,au.trans (cV.mono Ω Ω),?_⟩ (H.weakC ar tI (by simp[aD];omega));have:=a6.snoc Ω cV dC;rwa[show q*20+20=(q+1)*20 by omega]at this
 ·have al:((q:Int)*20)=(q*20:Nat):=Ω
  simp only[iC H,H.slc,H.ssc,iw,al];refine H.doFn J (TN H bD lk J (q*20) n Ω Ω) (fun aZ h=>by rw[h.1.length];exact J) (by simp[aH,aD,H.kdata J]) ?_;rintro aZ ⟨cV,dC⟩;have tI:aZ.length=n:=by rw[cV.length];exact J
  have e4:=a6.snoc Ω cV dC;simp;refine oY (fun(x:Nat×List α)=>⟨[(1,.int .i64 n),(2,.ptr (.loc 0) 0),(4,.int .i64 x.1)],(.loc 0,[.func g lc,.func cg b8])::(S x.2).b,(S x.2).e,1,c1 (S l)⟩) (fun x=>1099511627776-x.1)
   (fun x=>x.2.length=n/\20<=x.1/\x.1<=2*n+20/\gB 0 n l x.2/\pF lt x.1 0 n x.2) (20,aZ)
   (H.weakC ar tI (by simp[aD])) ⟨tI,Ψ,Ψ,au.trans (cV.mono Ω Ω),e4⟩ ?_
  rintro⟨z,Wp⟩ ⟨la,z2,z3,z4,z5⟩ _;simp only at la z2 z3 z4 z5;simp[Pv.look];((with_reducible repeat' first|refine aj ?_|simp[Pv.look]|((first|apply bS|apply bW|apply bV)<;>intro h<;>try simp at h))<;>(try exact cy))
  ·refine oY (fun(x:Nat×List α)=>⟨[(1,.int .i64 n),(2,.ptr (.loc 0) 0),(4,.int .i64 z),(5,.int .i64 (x.1*(2*z):Nat)),(6,.int .i64 (x.1*(2*z)+2*z:Nat))],(.loc 0,[.func g lc,.func cg b8])::(S x.2).b,(S x.2).e,1,c1 (S l)⟩) (fun x=>n+2*z-x.1*(2*z))
    (fun x=>x.2.length=n/\x.1*(2*z)<=n/\gB 0 n l x.2/\pF lt (2*z) 0 (x.1*(2*z)) x.2/\pF lt z (x.1*(2*z)) n x.2) (0,Wp)
    (H.weakC ar la (by simp[aD])) ⟨la,Ψ,z4,fun i j x y J U au=>by simp at au,by simpa using z5⟩ ?_
   rintro⟨p,DT⟩ ⟨dU,dk,pt,nc,E4⟩ _;simp only at dU dk pt nc E4;obtain⟨A,bk⟩:∃A,A=p*(2*z):=⟨_,rfl⟩;have Gk:A=(2*p)*z:=by rw[bk,Nat.mul_comm 2 p,Nat.mul_assoc]
   have K3:(2*p+1)*z=A+z:=by rw[qh,<-Gk,Nat.one_mul]
   have ag0:(2*p+2)*z=A+2*z:=by rw[qh,<-Gk]
   have Av:(p+1)*(2*z)=A+2*z:=by rw[qh,<-bk,Nat.one_mul]
   have kM:∀c,c<=A+z->c<=n->fm lt A c DT:=fun c aw AH=>by have:=pF.srt (q:=2*p) Ω E4 (c:=c) (by rw[<-Gk,bk];omega) (by rw[K3];exact aw) AH;rwa[<-Gk]at this
   have p1:∀c,c<=A+2*z->c<=n->fm lt (A+z) c DT:=fun c aw AH=>by have:=pF.srt (q:=2*p+1) Ω E4 (c:=c) (by rw[K3,bk];omega) (by rw[ag0];exact aw) AH;rwa[K3]at this
   rw[<-bk]at dk nc E4;simp only[<-bk];simp[Pv.look];((with_reducible repeat' first|refine aj ?_|simp[Pv.look]|((first|apply bS|apply bW|apply bV)<;>intro h<;>try simp at h))<;>(try exact cy))
   ·have bn:((A:Int)+z)=(A+z:Nat):=Ω
    have dh:((A:Int)+2*z)=(A+2*z:Nat):=Ω
    simp only[iC H,H.slc,H.ssc,iw,bn,dh];refine H.doFn dU (TV H bD (A+2*z-A) DT A (A+z) (A+2*z) dU Ω Ω Ω Ω (kM _ Ω Ω) (p1 _ Ω Ω)) (fun aZ h=>by rw[h.1.length];exact dU) (by simp[aH,aD,H.kdata dU]) ?_;rintro gp ⟨kV,pw⟩;have oh:gp.length=n:=by rw[kV.length];exact dU
    simp;(with_reducible repeat' first|refine aj ?_|simp);refine bO.whl (p+1,gp) (by simp only[Av,<-bk];omega) ⟨oh,by simp only[Av];omega,pt.trans (kV.mono Ω Ω),?_,?_⟩ ?_
    ·simp only[Av];rw[bk]at nc kV pw;have:=nc.snoc Ω kV pw;rwa[<-bk]at this
    ·simp only[Av];exact E4.after kV Ω Ω
    ·simp only[Av];have ag1:((p:Int)+1)*(2*(z:Int))=(A:Int)+2*z:=by have h:=e2 (Nat.cast:Nat->Int) Av;push_cast at h;exact h
     exact H.weakC ar oh (by simp[aD,ag1])
   ·have bn:((A:Int)+z)=(A+z:Nat):=Ω
    simp only[iC H,H.slc,H.ssc,iw,bn];refine H.doFn dU (TV H bD (n-A) DT A (A+z) n dU Ω Ω Ω Ω (kM _ Ω Ω) (p1 _ Ω Ω)) (fun aZ h=>by rw[h.1.length];exact dU) (by simp[aH,aD,H.kdata dU]) ?_;rintro gp ⟨kV,pw⟩;have oh:gp.length=n:=by rw[kV.length];exact dU
    simp;((with_reducible repeat' first|refine aj ?_|simp|((first|apply bS|apply bW|apply bV)<;>intro h<;>try simp at h))<;>(try exact cy));refine bO.whl (2*z,gp) (by simp;omega) ⟨oh,by simp;omega,by simp;omega,pt.trans (kV.mono Ω Ω),?_⟩ (H.weakC ar oh (by simp[aD];omega));rw[bk]at nc kV pw;exact nc.snoc Ω kV pw
   ·refine bO.whl (2*z,DT) (by simp;omega) ⟨dU,by simp;omega,by simp;omega,pt,?_⟩ (H.weakC ar dU (by simp[aD];omega));have b3:=kM n Ω Ω;rw[bk]at nc b3;exact nc.snoc Ω (.refl _) b3
  ·refine H.ret ar la (.inr rfl) ?_;refine⟨rfl,Wp,rfl,z4,fun i j x y J U au=>z5 i j x y J U au ?_⟩;rw[Nat.div_eq_of_lt Ω,Nat.div_eq_of_lt Ω]
end
section
open Go Go.Pv Go.Sort Go.RowKit
theorem aid{w:World}{base:Nat}{e:fZ}{sz:Nat}{v:Value}{n:Nat}{us:List Value}(h:w.ownsRow base e sz v n us)(aB:v≠ .slice none 0 0):
  ∃g cap,v= .slice (some ⟨g,0,none⟩) n cap/\g<w.heap.size/\cap<=maxLen/\n<=cap/\us.length=n*sz/\Holds id w g 0 us.toArray:=by
 rcases h.2 with⟨fo,_⟩|⟨g,cap,cur,rfl,ab,a7,ax,hm,ag,aN⟩
 ·exact absurd fo aB
 ·have bD:g<w.heap.size:=by
   rcases Nat.lt_or_ge g w.heap.size with cf|cf
   ·exact cf
   ·rw[Array.getElem?_eq_none cf]at a7;cases a7
  refine⟨g,cap,rfl,bD,hm,ax,h.1,fun j ae=>?_⟩;have iK:j<us.length:=by simpa using ae
  have ar:=h.1;refine⟨?_,by simp[World.frozen?,a7]⟩;have al:(cur.toList.take (n*sz))[j]? =us[j]?:=by rw[aN]
  rw[List.getElem?_take,if_pos Ω,uC,cc iK]at al;simp only[World.cell?,a7,Nat.zero_add];simp only[mc,hl,if_false];rw[al];simp[getElem!_pos,iK]
theorem amP{w:World}{base:Nat}{e:fZ}{sz g n cap q:Nat}{us:List Value}{F:Array Value}(h:w.ownsRow base e sz (.slice (some ⟨g,0,none⟩) n cap) n us)(hb:F.size=n*sz):
  (putRow id (Sort.ahead w q) g 0 F).ownsRow base e sz (.slice (some ⟨g,0,none⟩) n cap) n F.toList:=by
 rcases h.2 with⟨fo,_⟩|⟨fu,FR,cur,fo,ab,a7,ax,hm,ag,aN⟩
 ·cases fo
 ·injection fo with al _ bn;injection al with al;injection al with al;subst al;subst bn;refine⟨by simpa using hb,.inr ⟨g,cap,putCells id 0 F cur,rfl,ab,?_,ax,hm,by simpa[putCells]using ag,?_⟩⟩
  ·simp[putRow,mapBlock,Sort.ahead,Array.getElem?_modify,a7,onCells]
  ·have hle:n*sz<=cur.size:=by rw[ag];exact Nat.mul_le_mul_right _ ax
   apply List.ext_getElem?;intro j;rw[List.getElem?_take,uC,uC];by_cases ae:j<n*sz
   ·have ahK:j<cur.size:=Ω
    simp only[if_pos ae,putCells,Array.getElem?_mapIdx,Array.getElem?_eq_getElem ahK,nl];rw[if_pos Ω];simp[getElem!_pos,show j<F.size by omega]
   ·simp[ae];omega
end
end Go.Proofs.YtohaalphocaebaaGreat
namespace Go.Pv
section
open Go Go.RowKit Go.Lib Go.Sort Go.Proofs.YtohaalphocaebaaGreat
theorem VS{S:aI->Prop}:∀{l:List ai},aH S l↔∀x∈l,aD S x
 |[]=>by simp[aH]
 |x::r=>by simp only[aH,VS (l:=r),fA,forall_eq_or_imp]
theorem VL{α:Type}{s:cH}{l:List (aI×α)}:l0 s l↔∀k,(look k l).isSome->inObs s k:=by
 refine⟨fun h k ad=>Bc h k ad,fun h=>?_⟩;have:∀aZ:List (aI×α),(∀x∈aZ,inObs s x.1)->l0 s aZ:=by
  intro aZ;induction aZ with
  |nil=>intro _;trivial
  |cons x r bR=>obtain⟨k,x⟩:=x;exact fun h=>⟨h (k,x) Ψ,bR fun y aO=>h y (by simp[aO])⟩
 exact this l fun x af=>h x.1 (vx (x:=x.2) af)
theorem N6{w:World}{ν:bg}{sz:Nat}:∀{xs:List ai} {us:List Value} {i:Nat} {p:ai},dK w ν sz xs us->xs[i]? =some p->∃u,(us.drop (i*sz)).take sz=u.cells.toList/\bd w ν p u/\u.cells.size=sz/\∀c∈u.cells.toList,c.oneCell'=true
 |[],_,_,_,_,bB=>by simp at bB
 |x::xs,us,0,p,h,bB=>by simp only[dK]at h;obtain⟨u,ct,rfl,⟨J,U,au⟩,_⟩:=h;simp at bB;subst bB;refine⟨u,?_,J,U,au⟩;simp only[Nat.zero_mul,List.drop_zero];rw[List.take_append_of_le_length (by simp[U])];exact hQ (by simp[U])
 |x::xs,us,i+1,p,h,bB=>by simp only[dK]at h;obtain⟨u,ct,rfl,⟨J,U,au⟩,b3⟩:=h;obtain⟨v,al,aE⟩:=N6 (i:=i) b3 (by simpa using bB);refine⟨v,?_,aE⟩;rw[<-al,Nat.succ_mul,Nat.add_comm,<-List.drop_drop];congr 2;rw[List.drop_append_of_le_length (by simp[U]),List.drop_of_length_le (by simp[U])];rfl
theorem Oo:∀(bf:List Value) (s:Nat) (F:Array Value),s+bf.length<=F.size->(setMany F s bf).toList=F.toList.take s++bf++F.toList.drop (s+bf.length)
 |[],s,F,h=>by simp[setMany]
 |v::r,s,F,h=>by
  simp only[pD]at h;rw[setMany,Oo r (s+1) _ (by simp;omega)];have bD:s<F.toList.length:=by simp;omega
  have al:(F.setIfInBounds s v).toList=F.toList.set s v:=by simp
  rw[al];have aE:(F.toList.set s v).take (s+1)=F.toList.take s++[v]:=by rw[ma,List.getElem?_set_self bD,List.take_set_of_le (e7 _)];simp
  have bn:(F.toList.set s v).drop (s+1+r.length)=F.toList.drop (s+(v::r).length):=by rw[List.drop_set_of_lt Ω];congr 1;simp;omega
  rw[aE,bn];simp
theorem aa3(w:World):Sort.ahead w 0=w:=by simp[Sort.ahead]
theorem TU{P:cG}(yg:Bool)(cg:Nat)(af:∀args W,(callFunc cg args).run P W=((Cf yg args).run P W).andThen fun v w'=>.ok (.value v) w')(e:fZ)(ez:TypeInfo)(rb:P.info? e=some ez)(ym:(∀w,(Go.isAgg e).run P w= .ok true w)\/(ez.size=1/\∀w,(Go.isAgg e).run P w= .ok false w)){s:cH}(ag:dN s){K n el sz:Nat}(en:ez.size=sz){xs:List ai}(ad:look (.obj K) s.e=some ⟨n,el,sz,some xs⟩)
  (i j:Nat) (hi:i<n) (ae:j<n):bH P cg [.int .i64 i,.int .i64 j,.row sz (.obj K) n,.cst (typeHandle P e)] s fun r ah=>r= .tuple []/\ah=⟨s.b,cA (.obj K) ⟨n,el,sz,some (gW xs i j)⟩ s.e⟩:=by
 subst en;refine bH.sem ag.obj fun w ν bf k5 aM=>?_;right;have s0:=aM.slot 0;have s1:=aM.slot 1;have s2:=aM.slot 2;have s3:=aM.slot 3;simp[kA,get,bd]at s0 s1 s2 s3;obtain⟨v,us,bc,bE,b1,c5⟩:=aM.good.own (.obj K) _ ad;obtain⟨df,oy,vH⟩:=c5 _ rfl;simp only at df oy bc bE;obtain⟨⟨g0,abG,wC⟩,_,n',eO,al,aE,bn⟩:=s2;rw[bc]at al;simp only[dQ,jB]at al;obtain⟨rfl,rfl⟩:=al;have aB:=bn rfl;have cM:v≠ .slice none 0 0:=by rw[<-aB,wC];simp
 obtain⟨g,cap,rfl,ra,si,ahC,Da,C0⟩:=aid bE cM;have aiD:bf= #[.int .i64 i,.int .i64 j,.slice (some ⟨g,0,none⟩) n cap,typeHandle P e]:=by
  have J:bf.size=4:=by simpa using k5
  apply Array.ext (by simpa using J);intro t U au;simp at au;rcases(by omega:t=0\/t=1\/t=2\/t=3)with rfl|rfl|rfl|rfl
  ·simpa[Array.getD,J]using s0
  ·simpa[Array.getD,J]using s1
  ·simpa[Array.getD,J]using aB
  ·simpa[Array.getD,J]using s3
 subst aiD;obtain⟨p,bB⟩:∃p,xs[i]? =some p:=⟨_,cc Ω⟩;obtain⟨q,bm⟩:∃q,xs[j]? =some q:=⟨_,cc Ω⟩;obtain⟨u,ji,jI,qJ,zC⟩:=N6 oy bB;obtain⟨x,s7,zG,s8,I0⟩:=N6 oy bm;have UH:i*ez.size+ez.size<=n*ez.size:=by have:=Nat.mul_le_mul_right ez.size (show i+1<=n from hi);rwa[qh,Nat.one_mul]at this
 have UI:j*ez.size+ez.size<=n*ez.size:=by have:=Nat.mul_le_mul_right ez.size (show j+1<=n from ae);rwa[qh,Nat.one_mul]at this
 have cell:∀t v,us[t]? =some v->w.cell? ⟨g,t,none⟩=some v:=fun t v aN=>by obtain⟨J,U⟩:=eP.1 aN;have:=(C0 t (by simpa using J)).1;simp at this;rw[this];simp[getElem!_pos,J,U]
 have Gd:∀t,t<n*ez.size->w.frozen? ⟨g,t,none⟩=false:=fun t aN=>by have:=(C0 t (by simpa[Da]using aN)).2;simpa using this
 have run:(Cf yg #[.int .i64 i,.int .i64 j,.slice (some ⟨g,0,none⟩) n cap,typeHandle P e]).run P w= .ok (.tuple #[]) ((w.setCells g (0+i*ez.size) x.cells.toList).setCells g (0+j*ez.size) u.cells.toList):=by
  rcases ym with ym|⟨Gi,ym⟩
  ·exact run_swap_cells (P:=P) yg e ez rb ym g 0 n cap i j hi ae u.cells.toList x.cells.toList (by simp[qJ]) (by simp[s8]) zC I0 w
     (fun k v aB=>by
      rw[<-ji,List.getElem?_take]at aB;split at aB
      ·rw[List.getElem?_drop]at aB;simpa using cell _ _ aB
      ·cases aB)
     (fun k v aB=>by
      rw[<-s7,List.getElem?_take]at aB;split at aB
      ·rw[List.getElem?_drop]at aB;simpa using cell _ _ aB
      ·cases aB)
     (fun k ad=>by simpa using Gd (i*ez.size+k) Ω) (fun k ad=>by simpa using Gd (j*ez.size+k) Ω)
  ·rw[Gi]at ji qJ s7 s8⊢;obtain⟨FX,Ld⟩:∃c,u.cells.toList=[c]:=List.length_eq_one_iff.1 (by simpa using qJ);obtain⟨pO,lR⟩:∃c,x.cells.toList=[c]:=List.length_eq_one_iff.1 (by simpa using s8);rw[Ld]at ji zC⊢;rw[lR]at s7 I0⊢;simp only[World.setCells,Nat.mul_one]at ji s7⊢;have TX:us[i]? =some FX:=by have:=e2 (·[0]?) ji;simpa using this
   have TZ:us[j]? =some pO:=by have:=e2 (·[0]?) s7;simpa using this
   have:=run_swap_one (P:=P) yg e ez rb Gi ym g 0 n cap i j hi ae FX pO (zC FX Ψ) (I0 pO Ψ) w (by simpa using cell i FX TX) (by simpa using cell j pO TZ) (by simpa using Gd i (by rw[Gi];omega)) (by simpa using Gd j (by rw[Gi];omega));simpa using this
 have aiF:putRow id w g 0 us.toArray=w:=putRow_self id w g 0 _ C0;have aiw:us.toArray.size=n*ez.size:=by simpa using Da
 have GS:w.setCells g (0+i*ez.size) x.cells.toList=putRow id w g 0 (setMany us.toArray (i*ez.size) x.cells.toList):=by have J:=setCells_putRow w g 0 x.cells.toList (i*ez.size) us.toArray (by simp[s8,Da];exact UH);rw[aiF]at J;exact J
 obtain⟨ir,nx⟩:∃ir,ir=setMany us.toArray (i*ez.size) x.cells.toList:=⟨_,rfl⟩;have ag6:ir.toList=us.take (i*ez.size)++x.cells.toList++us.drop (i*ez.size+ez.size):=by rw[nx,Oo _ _ _ (by simp[s8,Da];exact UH)];simp[s8]
 have K5:ir.size=n*ez.size:=by rw[nx,size_setMany];exact aiw
 have o9:(w.setCells g (0+i*ez.size) x.cells.toList).setCells g (0+j*ez.size) u.cells.toList=putRow id w g 0 (setMany ir (j*ez.size) u.cells.toList):=by rw[GS,<-nx,setCells_putRow w g 0 u.cells.toList (j*ez.size) ir (by simp[qJ,K5];exact UI)]
 obtain⟨iE,CZ⟩:∃iE,iE=setMany ir (j*ez.size) u.cells.toList:=⟨_,rfl⟩;have ag7:iE.toList=ir.toList.take (j*ez.size)++u.cells.toList++ir.toList.drop (j*ez.size+ez.size):=by rw[CZ,Oo _ _ _ (by simp[qJ,K5];exact UI)];simp[qJ]
 have ag8:iE.size=n*ez.size:=by rw[CZ,size_setMany];exact K5
 have dy:=Ih oy bB zG s8 I0;rw[<-ag6]at dy;have fb:=Ih (i:=j) (q:=q) dy (by rw[List.getElem?_set];split;(rename_i e;subst e;rw[if_pos Ω]);exact bm) jI qJ zC;rw[<-ag7]at fb;have Dy:(xs.set i q).set j p=gW xs i j:=by simp[gW,bB,bm]
 rw[Dy]at fb;have hlen:(gW xs i j).length=n:=by simpa using df
 have lT:=amP (q:=0) (F:=iE) bE ag8;rw[aa3]at lT;obtain⟨kV,pw,_⟩:=aM.setRowM (w':=putRow id w g 0 iE) ad rfl bc (bl:=g) rfl (v':= .slice (some ⟨g,0,none⟩) n cap) rfl (xs':=gW xs i j) (us:=iE.toList) (.inl ⟨hlen,rfl⟩) rfl rfl rfl
  (fun t aN=>by simp[putRow,mapBlock,Array.getElem?_modify,ld aN]) (by simp[putRow,mapBlock]) (by rw[hlen];exact lT) fb
 refine⟨.tuple #[],putRow id w g 0 iE,?_,?_⟩
 ·rw[af,run,o9,<-CZ];rfl
 ·have jE:∀k,inObs ⟨s.b,cA (.obj K) ⟨n,el,ez.size,some (gW xs i j)⟩ s.e⟩ k↔inObs s k:=fun k=>by
   unfold inObs;simp only[je];by_cases c8:aI.obj K=k
   ·subst c8;simp[ad]
   ·simp[c8]
  refine⟨_,_,_,_,.tuple [],⟨s.b,cA (.obj K) ⟨n,el,ez.size,some (gW xs i j)⟩ s.e⟩,rfl,kV,by simp[bd,cW],VL.2 fun k og=>(jE k).2 (.inl og),VL.2 fun k og=>(jE k).2 (.inr og),fun k cs aw=>⟨aw,(jE k).2 (.inl (by simp at aw;simp[aw])),kd (fun k h=>(jE k).2 h) _ (ag.kb k cs aw)⟩,fun k o ay=>⟨by simpa[hlen]using ay,?_,fun ys aO=>?_⟩,⟨ag.obj.1,fun m=>?_⟩,by simp[aD,aH],rfl,rfl⟩
  ·exact(.inr (by simp at ay;simp[ay]))
  ·simp only[je]at ay;split at ay
   ·cases ay;simp only[dQ]at aO;subst aO;have UB:=ag.ke _ _ ad xs rfl;refine kd (fun k h=>(jE k).2 h) _ ?_;rw[VS]at UB⊢;exact fun z bp=>UB z ((Wo xs i j).mem_iff.1 bp)
   ·exact kd (fun k h=>(jE k).2 h) _ (ag.ke k o ay ys aO)
  ·simp only[je];simp[ag.obj.2 m]
theorem KX{P:cG}(yg:Bool)(cg:Nat)(af:∀args W,(callFunc cg args).run P W=((Cf yg args).run P W).andThen fun v w'=>.ok (.value v) w')(e:fZ)(ez:TypeInfo)(rb:P.info? e=some ez)(ym:∀w,(Go.isAgg e).run P w= .ok true w){s:cH}(ag:dN s){K n el sz:Nat}(en:ez.size=sz){xs:List ai}(ad:look (.obj K) s.e=some ⟨n,el,sz,some xs⟩)
  (i j:Nat) (hi:i<n) (ae:j<n):bH P cg [.int .i64 i,.int .i64 j,.row sz (.obj K) n,.cst (typeHandle P e)] s fun r ah=>r= .tuple []/\ah=⟨s.b,cA (.obj K) ⟨n,el,sz,some (gW xs i j)⟩ s.e⟩:=TU yg cg af e ez rb (.inl ym) ag en ad i j hi ae
end
end Go.Pv
namespace Go.Proofs.YtohaalphocaebaaGreat
section
open Go Go.RowKit Go.Lib Go.Sort Go.Pv
set_option maxRecDepth 100000 in
theorem aoJ(t e:fZ)(i ez:TypeInfo)(hi:ak.info? t=some i)(aR:i.desc= .slice e)(Dr:ak.packed t=false)(rb:ak.info? e=some ez)(ke:Nat)(vi:∀w,(aau e).run ak w= .ok ke w)
  (p:ba Addr) (n c:Nat) (ax:n<4611686018427387904) (f:Nat) (aJ:ak.funcs.findIdx? (·.name== "internal/reflectlite" ++ ".Swapper$" ++toString (swapperK n ez ke))=some f) (Wk:Fn) (DQ rp:Array Value) (w:World) (R:World->Prop)
  (bB:Calls ak 248 #[.agg #[.func Wk DQ rp,.func (.func f) #[] (sliceBound ak e ez ke p n c)],.int .i64 n] ((w.alloc (.cells #[.slice p n c] t)).alloc (.cells #[typeHandle ak t,.pointer (some ⟨w.heap.size,0,none⟩),.int .u64 151] 214)) fun e w'=>e= .returned (.tuple #[])/\R w'):
  Calls ak 202 #[.iface t (.slice p n c),.func Wk DQ rp] w fun e w'=>e= .returned (.tuple #[])/\R w':=by
 have aB:=run_valueOf_slice (P:=ak) t e i hi aR p n c w;have ag:=fun w=>run_swapper_slice (P:=ak) t e i ez hi aR rb ke vi p n c f aJ w;have ar:=fun a w bu=>run_valueLen_slice (P:=ak) t e i hi aR Dr a p n c w bu;unfold sliceBound at bB;generalize (if swapperK n ez ke<=2 then(#[]:Array Value)else #[.slice p n c,typeHandle ak e])=B at ag bB;have ahF:ak.globals.size=0:=by kernel_rfl
 simp only[typeHandle,ahF]at aB ar bB;have F0:∀args w,(callFunc 248 args).run ak w= .ok (.enter 248 args) w:=enters_of Tryz.func248 (by kernel_rfl) rfl;go_enter Tryz.func202,Tryz.ntmps202;go_wp2;rw[run_callFunc_extern Tryz.func206 (by kernel_rfl) (by kernel_rfl) (by kernel_rfl) (e:=fun args=>ari (args.getD 0 (.tuple #[]))) (by kernel_rfl),
  show Sem.run ak ((fun args:Array Value=>ari (args.getD 0 (.tuple #[]))) #[.iface t (.slice p n c)]) w=_ from aB]
 simp only[Result.andThen];rw[Oper.upon_value];go_wp2;rw[run_callFunc_extern Tryz.func207 (by kernel_rfl) (by kernel_rfl) (by kernel_rfl) (e:=avJ "internal/reflectlite" (arj "Swapper")) (by kernel_rfl),ag];simp only[Result.andThen];rw[Oper.upon_value];go_wp2;rw[run_callFunc_extern Tryz.func208 (by kernel_rfl) (by kernel_rfl) (by kernel_rfl) (e:=avL (arj "reflectlite.Value.Len" 0) avK) (by kernel_rfl),
  ar _ _ Ψ]
 simp only[Result.andThen];rw[Oper.upon_value];go_wp2_with (go_at_fn 248;refine bB.mono ?_;rintro e w' ⟨rfl,aV⟩);go_end0;exact⟨rfl,aV⟩
theorem _root_.Go.Pv.Good.prMono{pr Eo:Nat->Prop}{w:World}{ν:bg}{b:List (aI×List ai)}{e:List (aI×fY)}(h:Pv.Good pr w ν b e)(bB:∀bl,pr bl->fK ν ⟨b,e⟩ bl->Eo bl):Pv.Good Eo w ν b e:=by
 refine⟨h.alt,fun k cs ad=>?_,h.inj,fun g o a7=>?_,h.oinj,h.obx,h.one,h.otr⟩
 ·obtain⟨bl,us,el,f1,f2,f3⟩:=h.box k cs ad;exact⟨bl,us,el,f1,bB bl f2 (.inl ⟨k,by simp[ad],f1⟩),f3⟩
 ·obtain⟨v,us,f1,f2,f3,f4⟩:=h.own g o a7;exact⟨v,us,f1,f2,fun bl ab=>⟨bB bl (f3 bl ab).1 (.inr ⟨g,o.n,v,by simp[a7],f1,ab⟩),(f3 bl ab).2⟩,f4⟩
theorem T0(w:World)(gP gF:Obj):w.grownBy ((w.alloc gP).alloc gF) none:=by
 have J:w.heap.size<=(w.alloc gP).heap.size:=by simp
 have U:(w.alloc gP).heap.size<=((w.alloc gP).alloc gF).heap.size:=by simp
 exact⟨rfl,rfl,rfl,kB J U,fun k ad _=>(Below.heap_alloc _ gF k (Nat.lt_of_lt_of_le ad J)).trans (Below.heap_alloc w gP k ad)⟩
def dO{α:Type}(e:α->ai)(K B el sz:Nat)(l:List α):cH:=⟨[(.obj B,[.row sz (.obj K) l.length])],[(.obj K,⟨l.length,el,sz,some (l.map e)⟩)]⟩
section
variable {α:Type} {e:α->ai} (he:∀S x,aD S (e x)) {K B el sz:Nat}
include he
theorem ajq(S:aI->Prop)(l:List α):aH S (l.map e):=by
 induction l with
 |nil=>simp[aH]
 |cons x r bR=>simp only[gS,aH];exact⟨he S x,bR⟩
theorem wc(l:List α):dN (dO e K B el sz l):=by unfold dO;refine dN.of ⟨by intro m;simp[Pv.look],by intro m;simp[Pv.look]⟩ (by simp[aH,aD,inObs,Pv.look]) ?_;intro x af xs gV;simp at af;subst af;simp at gV;subst gV;exact ajq he _ l
omit he in
theorem xW(l aZ:List α):Same (dO e K B el sz l) (dO e K B el sz aZ):=by
 refine⟨fun k=>?_,fun k=>?_⟩
 ·simp only[dO,Pv.look];split<;>rfl
 ·simp only[dO,Pv.look];split<;>rfl
theorem af9(t:fZ)(i ez:TypeInfo)(hi:ak.info? t=some i)(aR:i.desc= .slice el)(Dr:ak.packed t=false)(rb:ak.info? el=some ez)(ke:Nat)(vi:∀w,(aau el).run ak w= .ok ke w)(tA:∀n,2<=n->swapperK n ez ke=9)
  (g:Nat) (lt:α->α->Bool) (bD:qS lt) (l:List α) (ar:l.length<=68719476736)
  (yB:∀aZ:List α,aZ.length=l.length->∀(i j:Nat) x y,aZ[i]? =some x->aZ[j]? =some y->bH ak g [.int .i64 i,.int .i64 j,.ptr (.obj B) 0] (dO e K B el sz aZ) fun r ah=>r= .bool (lt x y)/\ah=dO e K B el sz aZ)
  (AZ:∀aZ:List α,aZ.length=l.length->∀i j:Nat,i<l.length->j<l.length->bH ak 257 [.int .i64 i,.int .i64 j,.row sz (.obj K) l.length,.cst (typeHandle ak el)] (dO e K B el sz aZ) fun r ah=>r= .tuple []/\ah=dO e K B el sz (gW aZ i j)):
  bH ak 202 [.iface t (.row sz (.obj K) l.length),.func g [.ptr (.obj B) 0]] (dO e K B el sz l) fun r ah=>r= .tuple []/\∃aZ,ah=dO e K B el sz aZ/\aZ.Perm l/\aZ.Pairwise fun x y=>lt y x=false:=by
 have C7:ak.funcs.findIdx? (·.name== "internal/reflectlite" ++ ".Swapper$" ++toString 1)=some 249:=by kernel_rfl
 have vd:ak.funcs.findIdx? (·.name== "internal/reflectlite" ++ ".Swapper$" ++toString 2)=some 250:=by kernel_rfl
 have Lh:ak.funcs.findIdx? (·.name== "internal/reflectlite" ++ ".Swapper$" ++toString 9)=some 257:=by kernel_rfl
 have LM:∃f b8,ak.funcs.findIdx? (·.name== "internal/reflectlite" ++ ".Swapper$" ++toString (swapperK l.length ez ke))=some f/\(b8=(if swapperK l.length ez ke<=2 then []else [ai.row sz (.obj K) l.length,.cst (typeHandle ak el)]))/\
   bH ak 248 [e3 g f [.ptr (.obj B) 0] b8,.int .i64 l.length] (dO e K B el sz l) fun r ah=>r= .tuple []/\∃aZ,ah=dO e K B el sz aZ/\gB 0 l.length l aZ/\fm lt 0 l.length aZ:=by
  have dY:=fun aZ=>wc (K:=K) (B:=B) (el:=el) (sz:=sz) he aZ;rcases(by omega:l.length=0\/l.length=1\/2<=l.length)with bs|J|U
  ·refine⟨249,[],by rw[bs];exact C7,by rw[bs];rfl,KV (lt:=lt) ⟨dY,fun hX gp _ _=>xW hX gp,fun aZ _=>by simp[aH,aD,inObs,dO,Pv.look],fun aZ _=>by simp[aH],by simp[dt,c2],rfl,ar,fun aZ h=>yB aZ h,fun aZ _ U i j hi=>Ω⟩ bD l rfl⟩
  ·refine⟨250,[],by rw[J];exact vd,by rw[J];rfl,KV (lt:=lt) ⟨dY,fun hX gp _ _=>xW hX gp,fun aZ _=>by simp[aH,aD,inObs,dO,Pv.look],fun aZ _=>by simp[aH],by simp[dt,c2],rfl,ar,fun aZ h=>yB aZ h,fun aZ _ U i j hi ae=>Ω⟩ bD l rfl⟩
  ·refine⟨257,_,by rw[tA _ U];exact Lh,rfl,?_⟩;rw[tA _ U];simp only[show¬((9:Nat)<=2)from by decide,if_false];exact KV (lt:=lt) ⟨dY,fun hX gp _ _=>xW hX gp,fun aZ _=>by simp[aH,aD,inObs,dO,Pv.look],fun aZ _=>by simp[aH,aD,inObs,dO,Pv.look],by simp[dt,c2],by simp[dt,c2],ar,fun aZ h=>yB aZ h,fun aZ h _ i j hi ae=>AZ aZ h i j hi ae⟩ bD l rfl
 obtain⟨f,b8,aJ,LI,cR⟩:=LM;intro w ν bf a7 af aM;have qu:=cY.start (wc he l).obj a7 af aM;have LD:=aM;simp only[cW,bd]at aM;obtain⟨v0,vs1,hv0,⟨u,rfl,⟨b,cap,rfl⟩,eB,n',eO,al,aE,bn⟩,v1,vs2,hv1,⟨rp,rfl,rf⟩,rfl⟩:=aM;have k5:bf= #[.iface t (.slice (some ⟨b,0,none⟩) l.length cap),.func (.func g) #[] rp]:=by apply Array.ext';rw[hv0,hv1]
 subst k5;have q9:∃fn,ak.funcs[(202:Nat)]? =some fn/\fn.body.isSome=true/\(fn.name== "runtime.NumGoroutine")=false:=⟨_,Tryz.func202,by kernel_rfl,by kernel_rfl⟩;refine .inl ⟨q9,?_⟩;obtain⟨dk,o9⟩:∃dk,dk=(w.alloc (.cells #[.slice (some ⟨b,0,none⟩) l.length cap] t)).alloc (.cells #[typeHandle ak t,.pointer (some ⟨w.heap.size,0,none⟩),.int .u64 151] 214):=⟨_,rfl⟩;have j8:w.grownBy dk none:=by rw[o9];exact T0 _ _ _
 have LF:=qu.grown j8;have k4:lK w ν dk ν:=⟨fun b o bk=>⟨bk,FT j8 (a7.alt b o bk)⟩,fun _ _ _ h=>h,fun _ n u _ h=>⟨n,u,h,.inl ⟨rfl,rfl⟩⟩,fun b o bk=>xx (j8.block b (a7.alt b o bk) Ψ),fun _ _ _ _ h=>h⟩;have si:Pv.Good (fK ν (dO e K B el sz l)) dk ν (dO e K B el sz l).b (dO e K B el sz l).e:=LF.good.prMono fun bl _ h=>h;have ls:=Im k4 LD;simp only[cW]at ls;obtain⟨a0,abh,tC,Dt,bC,abi,ln,ail,rfl⟩:=ls;simp at tC;obtain⟨rfl,rfl⟩:=tC;simp at ln;subst ln;have LH:bd dk ν (.row sz (.obj K) l.length) (.slice (some ⟨b,0,none⟩) l.length cap):=by simp only[bd]at Dt;obtain⟨u,hu,h⟩:=Dt;simp at hu;obtain⟨_,rfl⟩:=hu;simp only[bd];exact h
 have lu:cW dk ν b8 (sliceBound ak el ez ke (some ⟨b,0,none⟩) l.length cap).toList:=by
  unfold sliceBound;rw[LI];split
  ·simp[cW]
  ·simp only[cW];exact⟨_,_,rfl,LH,_,_,rfl,by simp[bd],rfl⟩
 have u9:cW dk ν [e3 g f [.ptr (.obj B) 0] b8,.int .i64 l.length] (#[.agg #[.func (.func g) #[] rp,.func (.func f) #[] (sliceBound ak el ez ke (some ⟨b,0,none⟩) l.length cap)],.int .i64 l.length]:Array Value).toList:=by simp only[cW,e3];refine⟨_,_,rfl,?_,_,_,rfl,by simp[bd],rfl⟩;simp only[bd,dc];exact⟨_,rfl,_,_,rfl,⟨⟨rp,rfl,Im k4 rf⟩,rfl⟩,_,_,rfl,⟨⟨_,rfl,lu⟩,rfl⟩,rfl⟩
 have Le:=cR dk ν _ si af u9;have F0:∀args w,(callFunc 248 args).run ak w= .ok (.enter 248 args) w:=enters_of Tryz.func248 (by kernel_rfl) rfl;rcases Le with⟨_,aw⟩|⟨v,w',aw,_⟩
 ·have Lr:=aoJ t el i ez hi aR Dr rb ke vi (some ⟨b,0,none⟩) l.length cap Ω f aJ (.func g) #[] rp w
   (fun w'=> ∃ah bt,(∃aZ,ah=dO e K B el sz aZ/\gB 0 l.length l aZ/\fm lt 0 l.length aZ)/\Pv.Good (fun bl=>fK ν (dO e K B el sz l) bl\/dk.heap.size<=bl) w' bt ah.b ah.e/\pT bt ah/\jf ah/\qR ⟨dk,ν,fK ν (dO e K B el sz l),0,c1 (dO e K B el sz l)⟩ w' bt) (by
    rw[<-o9];refine aw.mono ?_;rintro e w' ⟨v,r,ah,bt,rfl,⟨rfl,bm⟩,wP,a6,b3,c7,et⟩;simp only[bd,cW]at wP;obtain⟨us,rfl,rj⟩:=wP;have:us= #[]:=by apply Array.ext';simpa using rj
    subst this;exact⟨rfl,ah,bt,bm,a6,b3,c7,et⟩)
  refine Lr.mono ?_;rintro e w' ⟨rfl,ah,bt,⟨aZ,rfl,GQ,AY⟩,a6,b3,c7,et⟩;refine⟨.tuple #[],.tuple [],_,bt,rfl,⟨rfl,aZ,rfl,GQ.perm,?_⟩,by simp[bd,cW],a6.prMono fun bl h _=>?_,b3,c7,⟨et.os.trans j8.os,et.tape.trans j8.tape,et.output.trans j8.output,kB j8.size et.size,fun k ad hm=>?_,fun b o bk=>?_,fun b o bk=>?_,et.obj,et.obn,et.row,et.obr,et.trd,fun k j b ab=>⟨(et.trb k j b ab).1.imp id (fun h=>kB j8.size h),(et.trb k j b ab).2⟩,et.trn,fun b o bk=>(et.sh b o bk).trans (k4.sh b o bk)⟩⟩
  ·have yC:=GQ.length;rw[<-yC]at AY;exact AY.pairwise
  ·rcases h with h|h
   ·exact .inl h
   ·exact .inr (kB j8.size h)
  ·rw[et.block k (Nat.lt_of_lt_of_le ad j8.size) hm];exact j8.block k ad Ψ
  ·obtain⟨aU,bo⟩:=et.keep b o bk;exact⟨aU,bo.trans (k4.A b o bk).2⟩
  ·rcases et.fresh b o bk with h|h|h
   ·exact .inl h
   ·exact .inr (.inl h)
   ·exact .inr (.inr (kB j8.size h))
 ·rw[F0]at aw;cases aw
end
end
end Go.Proofs.YtohaalphocaebaaGreat
namespace Go.Proofs
section
open Go.Shelf
def Tryz.lays6_ren:Go.Shelf.Ren:=⟨fun|6=>126|10=>206|11=>207|12=>208|13=>209|14=>210|24=>258|25=>259|26=>260|27=>261|28=>262|29=>263|30=>264|31=>265|32=>266|33=>267|34=>278|35=>279|36=>280|37=>281|38=>282|39=>285|n=>n,fun|20=>20|26=>160|35=>214|0=>0|37=>216|3=>3|41=>163|44=>222|49=>254|51=>256|4=>4|54=>259|53=>258|58=>246|5=>5|9=>9|60=>265|64=>269|66=>272|67=>273|17=>17|32=>211|33=>212|82=>300|12=>12|75=>293|76=>294|77=>295|78=>296|79=>297|80=>298|n=>n,fun|n=>n⟩
theorem Tryz.lays6:Go.Proofs.LaysGg.n6 ak Tryz.lays6_ren:={
 mixed:=by kernel_rfl
 f6:=Tryz.func126.trans (e2 some (by kernel_rfl))
 f10:=Tryz.func206.trans (e2 some (by kernel_rfl))
 f11:=Tryz.func207.trans (e2 some (by kernel_rfl))
 f12:=Tryz.func208.trans (e2 some (by kernel_rfl))
 f13:=Tryz.func209.trans (e2 some (by kernel_rfl))
 f14:=Tryz.func210.trans (e2 some (by kernel_rfl))
 f24:=Tryz.func258.trans (e2 some (by kernel_rfl))
 f25:=Tryz.func259.trans (e2 some (by kernel_rfl))
 f26:=Tryz.func260.trans (e2 some (by kernel_rfl))
 f27:=Tryz.func261.trans (e2 some (by kernel_rfl))
 f28:=Tryz.func262.trans (e2 some (by kernel_rfl))
 f29:=Tryz.func263.trans (e2 some (by kernel_rfl))
 f30:=Tryz.func264.trans (e2 some (by kernel_rfl))
 f31:=Tryz.func265.trans (e2 some (by kernel_rfl))
 f32:=Tryz.func266.trans (e2 some (by kernel_rfl))
 f33:=Tryz.func267.trans (e2 some (by kernel_rfl))
 f34:=Tryz.func278.trans (e2 some (by kernel_rfl))
 f35:=Tryz.func279.trans (e2 some (by kernel_rfl))
 f36:=Tryz.func280.trans (e2 some (by kernel_rfl))
 f37:=Tryz.func281.trans (e2 some (by kernel_rfl))
 f38:=Tryz.func282.trans (e2 some (by kernel_rfl))
 f39:=Tryz.func285.trans (e2 some (by kernel_rfl))
 t0:=Tryz.underlying0
 a0:=Tryz.isAgg0
 z0:=Tryz.sizeOf0
 v0:=Tryz.zeroValue0
 i0:=by kernel_rfl
 t3:=Tryz.underlying3
 a3:=Tryz.isAgg3
 z3:=Tryz.sizeOf3
 v3:=Tryz.zeroValue3
 i3:=by kernel_rfl
 t4:=Tryz.underlying4
 a4:=Tryz.isAgg4
 z4:=Tryz.sizeOf4
 v4:=Tryz.zeroValue4
 i4:=by kernel_rfl
 t5:=Tryz.underlying5
 a5:=Tryz.isAgg5
 z5:=Tryz.sizeOf5
 v5:=Tryz.zeroValue5
 i5:=by kernel_rfl
 t9:=Tryz.underlying9
 a9:=Tryz.isAgg9
 z9:=Tryz.sizeOf9
 v9:=Tryz.zeroValue9
 i9:=by kernel_rfl
 t12:=Tryz.underlying12
 a12:=Tryz.isAgg12
 z12:=Tryz.sizeOf12
 v12:=Tryz.zeroValue12
 i12:=by kernel_rfl
 t17:=Tryz.underlying17
 a17:=Tryz.isAgg17
 z17:=Tryz.sizeOf17
 v17:=Tryz.zeroValue17
 i17:=by kernel_rfl
 t20:=Tryz.underlying20
 a20:=Tryz.isAgg20
 z20:=Tryz.sizeOf20
 v20:=Tryz.zeroValue20
 i20:=by kernel_rfl
 t26:=Tryz.underlying160
 a26:=Tryz.isAgg160
 z26:=Tryz.sizeOf160
 v26:=Tryz.zeroValue160
 i26:=by kernel_rfl
 t32:=Tryz.underlying211
 a32:=Tryz.isAgg211
 z32:=Tryz.sizeOf211
 v32:=Tryz.zeroValue211
 i32:=by kernel_rfl
 t33:=Tryz.underlying212
 a33:=Tryz.isAgg212
 z33:=Tryz.sizeOf212
 v33:=Tryz.zeroValue212
 i33:=by kernel_rfl
 t35:=Tryz.underlying214
 a35:=Tryz.isAgg214
 z35:=Tryz.sizeOf214
 v35:=Tryz.zeroValue214
 i35:=by kernel_rfl
 t37:=Tryz.underlying216
 a37:=Tryz.isAgg216
 z37:=Tryz.sizeOf216
 v37:=Tryz.zeroValue216
 i37:=by kernel_rfl
 t41:=Tryz.underlying163
 a41:=Tryz.isAgg163
 z41:=Tryz.sizeOf163
 v41:=Tryz.zeroValue163
 i41:=by kernel_rfl
 t44:=Tryz.underlying222
 a44:=Tryz.isAgg222
 z44:=Tryz.sizeOf222
 v44:=Tryz.zeroValue222
 i44:=by kernel_rfl
 t49:=Tryz.underlying254
 a49:=Tryz.isAgg254
 z49:=Tryz.sizeOf254
 v49:=Tryz.zeroValue254
 i49:=by kernel_rfl
 t51:=Tryz.underlying256
 a51:=Tryz.isAgg256
 z51:=Tryz.sizeOf256
 v51:=Tryz.zeroValue256
 i51:=by kernel_rfl
 t53:=Tryz.underlying258
 a53:=Tryz.isAgg258
 z53:=Tryz.sizeOf258
 v53:=Tryz.zeroValue258
 i53:=by kernel_rfl
 t54:=Tryz.underlying259
 a54:=Tryz.isAgg259
 z54:=Tryz.sizeOf259
 v54:=Tryz.zeroValue259
 i54:=by kernel_rfl
 t58:=Tryz.underlying246
 a58:=Tryz.isAgg246
 z58:=Tryz.sizeOf246
 v58:=Tryz.zeroValue246
 i58:=by kernel_rfl
 t60:=Tryz.underlying265
 a60:=Tryz.isAgg265
 z60:=Tryz.sizeOf265
 v60:=Tryz.zeroValue265
 i60:=by kernel_rfl
 t64:=Tryz.underlying269
 a64:=Tryz.isAgg269
 z64:=Tryz.sizeOf269
 v64:=Tryz.zeroValue269
 i64:=by kernel_rfl
 t66:=Tryz.underlying272
 a66:=Tryz.isAgg272
 z66:=Tryz.sizeOf272
 v66:=Tryz.zeroValue272
 i66:=by kernel_rfl
 t67:=Tryz.underlying273
 a67:=Tryz.isAgg273
 z67:=Tryz.sizeOf273
 v67:=Tryz.zeroValue273
 i67:=by kernel_rfl
 t75:=Tryz.underlying293
 a75:=Tryz.isAgg293
 z75:=Tryz.sizeOf293
 v75:=Tryz.zeroValue293
 i75:=by kernel_rfl
 t76:=Tryz.underlying294
 a76:=Tryz.isAgg294
 z76:=Tryz.sizeOf294
 v76:=Tryz.zeroValue294
 i76:=by kernel_rfl
 t77:=Tryz.underlying295
 a77:=Tryz.isAgg295
 z77:=Tryz.sizeOf295
 v77:=Tryz.zeroValue295
 i77:=by kernel_rfl
 t78:=Tryz.underlying296
 a78:=Tryz.isAgg296
 z78:=Tryz.sizeOf296
 v78:=Tryz.zeroValue296
 i78:=by kernel_rfl
 t79:=Tryz.underlying297
 a79:=Tryz.isAgg297
 z79:=Tryz.sizeOf297
 v79:=Tryz.zeroValue297
 i79:=by kernel_rfl
 t80:=Tryz.underlying298
 a80:=Tryz.isAgg298
 z80:=Tryz.sizeOf298
 v80:=Tryz.zeroValue298
 i80:=by kernel_rfl
 t82:=Tryz.underlying300
 a82:=Tryz.isAgg300
 z82:=Tryz.sizeOf300
 v82:=Tryz.zeroValue300
 i82:=by kernel_rfl}
end
end Go.Proofs
namespace Go.Proofs.YtohaalphocaebaaGreat
section
open Go Go.RowKit Go.Lib Go.Pv Go.Proofs
theorem abu(n:Nat)(h:n<1099511627776):Lib.bitLen n<=1000:=by
 have:∀f x,bitLenAux f x<=f:=by
  intro f;induction f with
  |zero=>intro x;simp[bitLenAux]
  |succ f bR=>
   intro x;rw[bitLenAux];split
   ·omega
   ·have:=bR (x/2);omega
 have:=this 64 n;unfold Lib.bitLen;omega
theorem amS{α:Type}[Inhabited α]{lt:α->α->Bool}{l:List α}{cj:Array α}(h:Sort.PermIn 0 l.length l.toArray cj)(ag:Sort.SortedIn lt 0 l.length cj):cj.toList.Perm l/\cj.toList.Pairwise fun x y=>lt y x=false:=by
 obtain⟨la,_,z3⟩:=h;have en:cj.size=l.length:=by simpa using la
 have al:cj.extract 0 l.length=cj:=by rw[<-en];simp
 have aE:l.toArray.extract 0 l.length=l.toArray:=by simp
 rw[al,aE]at z3;refine⟨by simpa using z3,?_⟩;rw[qg];intro i j hi ae ml;have J:=ag i j Ω ml (by simpa[en]using ae);have tG:i<cj.size:=by simpa using hi
 have iK:j<cj.size:=by simpa using ae
 rw[getElem!_pos cj i tG,getElem!_pos cj j iK]at J;simpa using J
section
variable {α:Type} {e:α->ai} (he:∀S x,aD S (e x)) {K B el sz:Nat}
include he
theorem KO[Inhabited α](T5:K≠901/\K≠902)(T4:B≠901/\B≠902)(t:fZ)(i ez:TypeInfo)(hi:ak.info? t=some i)(aR:i.desc= .slice el)(Dr:ak.packed t=false)(rb:ak.info? el=some ez)(ke:Nat)(vi:∀w,(aau el).run ak w= .ok ke w)(tA:∀n,2<=n->swapperK n ez ke=9)
  (g:Nat) (lt:α->α->Bool) (bD:Sort.SWO lt) (l:List α) (ar:l.length<=68719476736)
  (yB:∀aZ:List α,aZ.length=l.length->∀(i j:Nat) x y,aZ[i]? =some x->aZ[j]? =some y->bH ak g [.int .i64 i,.int .i64 j,.ptr (.obj B) 0] (dO e K B el sz aZ) fun r ah=>r= .bool (lt x y)/\ah=dO e K B el sz aZ)
  (AZ:∀aZ:List α,aZ.length=l.length->∀i j:Nat,i<l.length->j<l.length->bH ak 257 [.int .i64 i,.int .i64 j,.row sz (.obj K) l.length,.cst (typeHandle ak el)] (dO e K B el sz aZ) fun r ah=>r= .tuple []/\ah=dO e K B el sz (gW aZ i j)):
  bH ak 126 [.iface t (.row sz (.obj K) l.length),.func g [.ptr (.obj B) 0]] (dO e K B el sz l) fun r ah=>r= .tuple []/\∃aZ,ah=dO e K B el sz aZ/\aZ.Perm l/\aZ.Pairwise fun x y=>lt y x=false:=by
 have C7:ak.funcs.findIdx? (·.name== "internal/reflectlite" ++ ".Swapper$" ++toString 1)=some 249:=by kernel_rfl
 have vd:ak.funcs.findIdx? (·.name== "internal/reflectlite" ++ ".Swapper$" ++toString 2)=some 250:=by kernel_rfl
 have Lh:ak.funcs.findIdx? (·.name== "internal/reflectlite" ++ ".Swapper$" ++toString 9)=some 257:=by kernel_rfl
 have yG:sK (dO e K B el sz) 901:=fun l=>⟨by simp[dO,Pv.look,T4.1],by simp[dO,Pv.look,T5.1]⟩;have yH:sK (dO e K B el sz) 902:=fun l=>⟨by simp[dO,Pv.look,T4.2],by simp[dO,Pv.look,T5.2]⟩;have e4:=abu l.length Ω;have LM:∃f b8,ak.funcs.findIdx? (·.name== "internal/reflectlite" ++ ".Swapper$" ++toString (swapperK l.length ez ke))=some f/\(b8=(if swapperK l.length ez ke<=2 then []else [ai.row sz (.obj K) l.length,.cst (typeHandle ak el)]))/\
   bH ak 210 [e3 g f [.ptr (.obj B) 0] b8,.int .i64 0,.int .i64 l.length,.int .i64 (Lib.bitLen l.length)] (dO e K B el sz l) fun r ah=>r= .tuple []/\∃aZ,ah=dO e K B el sz aZ/\aZ.Perm l/\aZ.Pairwise fun x y=>lt y x=false:=by
  have dY:=fun aZ=>wc (K:=K) (B:=B) (el:=el) (sz:=sz) he aZ;have key:∀{cg:Nat} {b8:List ai},fe (dO e K B el sz) l.length g cg [.ptr (.obj B) 0] b8 lt->bH ak 210 [e3 g cg [.ptr (.obj B) 0] b8,.int .i64 0,.int .i64 l.length,.int .i64 (Lib.bitLen l.length)] (dO e K B el sz l) fun r ah=>r= .tuple []/\∃aZ,ah=dO e K B el sz aZ/\aZ.Perm l/\aZ.Pairwise fun x y=>lt y x=false:=by intro cg b8 H;have:=agw H yG yH bD l.length l.toArray Ψ 0 l.length (Lib.bitLen l.length) Ω Ω (e7 _) Ω (.inl rfl);simp only[Int.ofNat_zero,Int.natCast_zero,Int.cast_ofNat_Int]at this;refine bH.mono this ?_;rintro r ah ⟨bc,cj,bE,b1,c5⟩;obtain⟨cV,dC⟩:=amS b1 c5;exact⟨bc,cj.toList,bE,cV,dC⟩
  rcases(by omega:l.length=0\/l.length=1\/2<=l.length)with bs|J|U
  ·refine⟨249,[],by rw[bs];exact C7,by rw[bs];rfl,key ⟨dY,fun hX gp _ _=>xW hX gp,fun aZ _=>by simp[aH,aD,inObs,dO,Pv.look],fun aZ _=>by simp[aH],by simp[dt,c2],rfl,ar,fun aZ h=>yB aZ h,fun aZ _ U i j hi=>Ω⟩⟩
  ·refine⟨250,[],by rw[J];exact vd,by rw[J];rfl,key ⟨dY,fun hX gp _ _=>xW hX gp,fun aZ _=>by simp[aH,aD,inObs,dO,Pv.look],fun aZ _=>by simp[aH],by simp[dt,c2],rfl,ar,fun aZ h=>yB aZ h,fun aZ _ U i j hi ae=>Ω⟩⟩
  ·refine⟨257,_,by rw[tA _ U];exact Lh,rfl,?_⟩;rw[tA _ U];simp only[show¬((9:Nat)<=2)from by decide,if_false];exact key ⟨dY,fun hX gp _ _=>xW hX gp,fun aZ _=>by simp[aH,aD,inObs,dO,Pv.look],fun aZ _=>by simp[aH,aD,inObs,dO,Pv.look],by simp[dt,c2],by simp[dt,c2],ar,fun aZ h=>yB aZ h,fun aZ h _ i j hi ae=>AZ aZ h i j hi ae⟩
 obtain⟨f,b8,aJ,LI,cR⟩:=LM;intro w ν bf a7 af aM;have qu:=cY.start (wc he l).obj a7 af aM;have LD:=aM;simp only[cW,bd]at aM;obtain⟨v0,vs1,hv0,⟨u,rfl,⟨b,cap,rfl⟩,eB,n',eO,al,aE,bn⟩,v1,vs2,hv1,⟨rp,rfl,rf⟩,rfl⟩:=aM;have k5:bf= #[.iface t (.slice (some ⟨b,0,none⟩) l.length cap),.func (.func g) #[] rp]:=by apply Array.ext';rw[hv0,hv1]
 subst k5;have q9:∃fn,ak.funcs[(126:Nat)]? =some fn/\fn.body.isSome=true/\(fn.name== "runtime.NumGoroutine")=false:=⟨_,Tryz.func126,by kernel_rfl,by kernel_rfl⟩;refine .inl ⟨q9,?_⟩;obtain⟨dk,o9⟩:∃dk,dk=sliceWorld ak Tryz.lays6_ren t (some ⟨b,0,none⟩) l.length cap w:=⟨_,rfl⟩;have j8:w.grownBy dk none:=by rw[o9];unfold sliceWorld;exact T0 _ _ _
 have LF:=qu.grown j8;have k4:lK w ν dk ν:=⟨fun b o bk=>⟨bk,FT j8 (a7.alt b o bk)⟩,fun _ _ _ h=>h,fun _ n u _ h=>⟨n,u,h,.inl ⟨rfl,rfl⟩⟩,fun b o bk=>xx (j8.block b (a7.alt b o bk) Ψ),fun _ _ _ _ h=>h⟩;have si:Pv.Good (fK ν (dO e K B el sz l)) dk ν (dO e K B el sz l).b (dO e K B el sz l).e:=LF.good.prMono fun bl _ h=>h;have ls:=Im k4 LD;simp only[cW]at ls;obtain⟨a0,abh,tC,Dt,bC,abi,ln,ail,rfl⟩:=ls;simp at tC;obtain⟨rfl,rfl⟩:=tC;simp at ln;subst ln;have LH:bd dk ν (.row sz (.obj K) l.length) (.slice (some ⟨b,0,none⟩) l.length cap):=by simp only[bd]at Dt;obtain⟨u,hu,h⟩:=Dt;simp at hu;obtain⟨_,rfl⟩:=hu;simp only[bd];exact h
 have lu:cW dk ν b8 (sliceBound ak el ez ke (some ⟨b,0,none⟩) l.length cap).toList:=by
  unfold sliceBound;rw[LI];split
  ·simp[cW]
  ·simp only[cW];exact⟨_,_,rfl,LH,_,_,rfl,by simp[bd],rfl⟩
 have u9:cW dk ν [e3 g f [.ptr (.obj B) 0] b8,.int .i64 0,.int .i64 l.length,.int .i64 (Lib.bitLen l.length)] (#[.agg #[.func (.func g) #[] rp,.func (.func f) #[] (sliceBound ak el ez ke (some ⟨b,0,none⟩) l.length cap)],.int .i64 0,.int .i64 l.length,.int .i64 (Lib.bitLen l.length)]:Array Value).toList:=by simp only[cW,e3];refine⟨_,_,rfl,?_,_,_,rfl,by simp[bd],_,_,rfl,by simp[bd],_,_,rfl,by simp[bd],rfl⟩;simp only[bd,dc];exact⟨_,rfl,_,_,rfl,⟨⟨rp,rfl,Im k4 rf⟩,rfl⟩,_,_,rfl,⟨⟨_,rfl,lu⟩,rfl⟩,rfl⟩
 have Le:=cR dk ν _ si af u9;have F0:∀args w,(callFunc 210 args).run ak w= .ok (.enter 210 args) w:=enters_of Tryz.func210 (by kernel_rfl) rfl;rcases Le with⟨_,aw⟩|⟨v,w',aw,_⟩
 ·have Lr:=Any.sort_Slice_of_pdq Tryz.lays6 t el i ez hi aR Dr rb ke vi (some ⟨b,0,none⟩) l.length cap Ω f aJ (.func g) #[] rp w
   (fun w'=> ∃ah bt,(∃aZ,ah=dO e K B el sz aZ/\aZ.Perm l/\aZ.Pairwise fun x y=>lt y x=false)/\Pv.Good (fun bl=>fK ν (dO e K B el sz l) bl\/dk.heap.size<=bl) w' bt ah.b ah.e/\pT bt ah/\jf ah/\qR ⟨dk,ν,fK ν (dO e K B el sz l),0,c1 (dO e K B el sz l)⟩ w' bt) (by
    rw[<-o9];refine aw.mono ?_;rintro e w' ⟨v,r,ah,bt,rfl,⟨rfl,bm⟩,wP,a6,b3,c7,et⟩;simp only[bd,cW]at wP;obtain⟨us,rfl,rj⟩:=wP;have:us= #[]:=by apply Array.ext';simpa using rj
    subst this;exact⟨rfl,ah,bt,bm,a6,b3,c7,et⟩)
  refine Lr.mono ?_;rintro e w' ⟨rfl,ah,bt,⟨aZ,rfl,GQ,AY⟩,a6,b3,c7,et⟩;refine⟨.tuple #[],.tuple [],_,bt,rfl,⟨rfl,aZ,rfl,GQ,AY⟩,by simp[bd,cW],a6.prMono fun bl h _=>?_,b3,c7,⟨et.os.trans j8.os,et.tape.trans j8.tape,et.output.trans j8.output,kB j8.size et.size,fun k ad hm=>?_,fun b o bk=>?_,fun b o bk=>?_,et.obj,et.obn,et.row,et.obr,et.trd,fun k j b ab=>⟨(et.trb k j b ab).1.imp id (fun h=>kB j8.size h),(et.trb k j b ab).2⟩,et.trn,fun b o bk=>(et.sh b o bk).trans (k4.sh b o bk)⟩⟩
  ·rcases h with h|h
   ·exact .inl h
   ·exact .inr (kB j8.size h)
  ·rw[et.block k (Nat.lt_of_lt_of_le ad j8.size) hm];exact j8.block k ad Ψ
  ·obtain⟨aU,bo⟩:=et.keep b o bk;exact⟨aU,bo.trans (k4.A b o bk).2⟩
  ·rcases et.fresh b o bk with h|h|h
   ·exact .inl h
   ·exact .inr (.inl h)
   ·exact .inr (.inr (kB j8.size h))
 ·rw[F0]at aw;cases aw
end
end
section
open Go Go.Pv Go.Lib
abbrev xV(l:List bj):cH:=dO bj.e 814 815 106 2 l
theorem WN:∀(S:aI->Prop) (x:bj),aD S x.e:=fun S x=>by simp
theorem Je(l:List bj):dN (xV l):=wc WN l
theorem ajP:Sort.SWO (hY fq):=by
 refine⟨fun x=>?_,fun x y z J U=>?_,fun x y z J U=>?_⟩
 ·simp only[hY,fJ];have:=l4.refl x;omega
 ·simp only[hY,fc]at*;exact l4.ltr J Ω
 ·simp only[hY,fJ]at*;have al:=l4.neg x y;have aE:=l4.neg y z;have bn:=l4.neg x z;have:=l4.tr z y x Ω Ω;omega
theorem af3(l:List bj)(i j:Nat)(x y:bj)(ar:l.length<=68719476736)(hi:l[i]? =some x)(ae:l[j]? =some y):bH ak 131 [.int .i64 i,.int .i64 j,.ptr (.obj 815) 0] (xV l) fun r ah=>r= .bool (hY fq x y)/\ah=xV l:=by have ag:=Je l;obtain⟨k2,fM⟩:=eP.1 hi;obtain⟨eh,oe⟩:=eP.1 ae;unfold xV dO at ag⊢;refine bH.mk mixed kk adE akE Ψ ag.obj fun aK cB=>?_;unfold Qj;simp[k2,eh,fM,oe];(with_reducible repeat' first|refine aj ?_|refine aF (B7 _ _) ?_|refine aG (B7 _ _) ?_|simp[k2,eh,fM,oe]);refine cF.at _ (.inl rfl) ag (Same.refl _) aL aL ?_;simp[cL,XC,aX,aY,aW]
noncomputable def Tryz.maT:TypeInfo:=(ak.info? 26).get (by kernel_rfl)
noncomputable def Tryz.maE:TypeInfo:=(ak.info? 106).get (by kernel_rfl)
theorem Tryz.maK(n:Nat)(U:2<=n):Lib.swapperK n Tryz.maE 25=9:=by
 have a:Tryz.maE.hasPointers=true:=by kernel_rfl
 have b:Tryz.maE.bytes=24:=by kernel_rfl
 have c:(n==0)=false:=by simp;omega
 have d:(n==1)=false:=by simp;omega
 simp[Lib.swapperK,a,b,c,d]
theorem Wn{α β:Type}(f:α->β)(l:List α)(i j:Nat):(gW l i j).map f=gW (l.map f) i j:=by
 unfold gW;simp only[qP];cases l[i]? with
 |none=>simp
 |some x=>
  cases l[j]? with
  |none=>simp
  |some y=>simp[List.map_set]
theorem agL(l:List bj)(ar:l.length<=68719476736):bH ak 126 [.iface 26 (.row 2 (.obj 814) l.length),.func 131 [.ptr (.obj 815) 0]] (xV l) fun r ah=>r= .tuple []/\ah=xV (pg fq l):=by
 refine(KO WN (K:=814) (B:=815) (sz:=2) (by decide) (by decide) 26 Tryz.maT Tryz.maE (by kernel_rfl) (by kernel_rfl) (by kernel_rfl) (by kernel_rfl) 25 (fun _=>by kernel_rfl) Tryz.maK 131 (hY fq) ajP l ar (fun aZ h i j x y hi ae=>af3 aZ i j x y Ω hi ae) (fun aZ h i j hi ae=>?_)).mono ?_
 ·have:=KX (P:=ak) false 257 (fun args W=>run_callFunc_extern Tryz.func257 (by kernel_rfl) (by kernel_rfl) (by kernel_rfl) (e:=Cf false) (by kernel_rfl) args W)
   106 Tryz.maE (by kernel_rfl) (fun _=>by kernel_rfl) (Je aZ) (K:=814) (n:=l.length) (el:=106) (sz:=2) (by kernel_rfl) (xs:=aZ.map bj.e) (by simp[dO,Pv.look,h]) i j hi ae
  refine this.mono ?_;rintro r ah ⟨rfl,rfl⟩;refine⟨rfl,?_⟩;simp[dO,cA,Wn,h]
 ·rintro r ah ⟨rfl,aZ,rfl,J,U⟩;exact⟨rfl,by rw[Y5 l4 J U]⟩
def ou(l:List bj):List ai:= .hdm l.length (List.range l.length)::l.flatMap fun m=>[m.e,.bool true]
def lg(m:bj)(l:List bj):List bj:=if m∈l then l else l++[m]
theorem ajl(a b:bj):tV (.a [false,true]) a.e b.e=some (decide (a=b)):=by simp only[bj.e,tV,kq,if_true,nl];congr 1;rw[oG];cases a;cases b;simp
theorem ajm(a:bj):w4 (.a [false,true]) a.e=true:=by simp[bj.e,w4,kq,-Js]
theorem WS(m:bj):∀l:List bj,vB (.a [false,true]) m.e (.bool true) (l.flatMap fun m=>[m.e,.bool true])=some (if m∈l then some (l.flatMap fun m=>[m.e,.bool true])else none)
 |[]=>rfl
 |a::l=>by
  simp only[List.flatMap_cons,bZ,b6,vB,ajl];by_cases h:m=a
  ·subst h;simp
  ·have cf:decide (m=a)=false:=by simp[h]
   rw[cf];simp only[WS m l];by_cases hm:m∈l
   ·simp[hm]
   ·simp[hm,h]
@[simp]theorem aum(m:bj)(l:List bj):ox (.a [false,true]) m.e (.bool true) (ou l)=some (ou (lg m l)):=by
 simp only[ou,ox,ajm,Bool.true_eq_false,reduceCtorEq,if_false,WS,lg];by_cases h:m∈l
 ·simp[h]
 ·simp[h,List.range_succ]
end
section
open Go Go.Pv
@[simp]theorem Bf(S:aI->Prop)(l:List bj):aH S (ou l)=True:=by
 refine eq_true ?_;unfold ou;have:∀l:List bj,aH S (l.flatMap fun m=>[m.e,ai.bool true]):=fun l=>by
  induction l with
  |nil=>simp[aH]
  |cons x r bR=>simp only[List.flatMap_cons,bZ,b6,aH,ajr,aD,true_and];exact bR
 simp only[aH,aD,true_and];exact this l
@[simp]theorem at5:[ai.hdm 0 []]=ou []:=rfl
def oR(tag:List dM)(l:List bj):cH:=⟨[(.obj 811,[.str tag]),(.obj 812,ou l),(.obj 813,[.gmap (.obj 812)])],[]⟩
theorem Fi(tag:List dM)(l:List bj):dN (oR tag l):=by unfold oR;refine dN.of ⟨by intro m;simp[Pv.look],by intro m;simp[Pv.look]⟩ (by simp[aH,aD,inObs,Pv.look]) Ψ
theorem Jh(tag:List dM)(l aZ:List bj):Same (oR tag l) (oR tag aZ):=Same.keys (by simp[oR]) (by simp[oR])
theorem af2(tag:List dM)(v:Int)(l:List bj):bH ak 130 [.int .i64 v,.ptr (.obj 813) 0,.ptr (.obj 811) 0] (oR tag l) fun r ah=>r= .tuple []/\ah=oR tag (lg ⟨v,tag⟩ l):=by have ag:=Fi tag l;have ei:=Fi tag (lg ⟨v,tag⟩ l);have dG:=Jh tag l (lg ⟨v,tag⟩ l);unfold oR at ag ei dG⊢;refine bH.mk mixed kk adD akD Ψ ag.obj fun aK cB=>?_;unfold Qi;simp;refine cF.at _ (.inr rfl) ei dG aL aL ?_;simp[cL,XB,aX,aY,aW]
end
section
open Go Go.Pv Go.Lib
abbrev wb(l:List bQ):cH:=dO bQ.e 803 804 104 2 l
theorem VH:∀(S:aI->Prop) (x:bQ),aD S x.e:=fun S x=>by simp
theorem Ff(l:List bQ):dN (wb l):=wc VH l
def xc(x y:bQ):Bool:=decide (x.v<y.v)
theorem ajO:Sort.SWO xc:=⟨fun x=>by simp[xc],fun x y z J U=>by simp[xc]at*;omega,fun x y z J U=>by simp[xc]at*;omega⟩
theorem af4(l:List bQ)(i j:Nat)(x y:bQ)(ar:l.length<=68719476736)(hi:l[i]? =some x)(ae:l[j]? =some y):bH ak 127 [.int .i64 i,.int .i64 j,.ptr (.obj 804) 0] (wb l) fun r ah=>r= .bool (xc x y)/\ah=wb l:=by have ag:=Ff l;obtain⟨k2,fM⟩:=eP.1 hi;obtain⟨eh,oe⟩:=eP.1 ae;unfold wb dO at ag⊢;refine bH.mk mixed kk adF akF Ψ ag.obj fun aK cB=>?_;unfold Qk;simp[k2,eh,fM,oe];(with_reducible repeat' first|refine aj ?_|simp);refine cF.at _ (.inl rfl) ag (Same.refl _) aL aL ?_;simp[cL,XD,aX,aY,aW,xc]
noncomputable def Tryz.vkT:TypeInfo:=(ak.info? 25).get (by kernel_rfl)
noncomputable def Tryz.vkE:TypeInfo:=(ak.info? 104).get (by kernel_rfl)
theorem Tryz.vkK(n:Nat)(U:2<=n):Lib.swapperK n Tryz.vkE 25=9:=by
 have a:Tryz.vkE.hasPointers=false:=by kernel_rfl
 have b:Tryz.vkE.bytes=16:=by kernel_rfl
 have c:(n==0)=false:=by simp;omega
 have d:(n==1)=false:=by simp;omega
 simp[Lib.swapperK,a,b,c,d]
theorem ajL{α β:Type}(f:α->β)(l:List α)(i j:Nat):(gW l i j).map f=gW (l.map f) i j:=by
 unfold gW;simp only[qP];cases l[i]? with
 |none=>simp
 |some x=>
  cases l[j]? with
  |none=>simp
  |some y=>simp[List.map_set]
theorem TT(l:List bQ)(ar:l.length<=68719476736):bH ak 126 [.iface 25 (.row 2 (.obj 803) l.length),.func 127 [.ptr (.obj 804) 0]] (wb l) fun r ah=>r= .tuple []/\∃aZ,ah=wb aZ/\aZ.Perm l/\aZ.Pairwise fun x y=>xc y x=false:=by
 refine(KO VH (K:=803) (B:=804) (sz:=2) (by decide) (by decide) 25 Tryz.vkT Tryz.vkE (by kernel_rfl) (by kernel_rfl) (by kernel_rfl) (by kernel_rfl) 25 (fun _=>by kernel_rfl) Tryz.vkK 127 xc ajO l ar (fun aZ h i j x y hi ae=>af4 aZ i j x y Ω hi ae) (fun aZ h i j hi ae=>?_));have:=KX (P:=ak) false 257 (fun args W=>run_callFunc_extern Tryz.func257 (by kernel_rfl) (by kernel_rfl) (by kernel_rfl) (e:=Cf false) (by kernel_rfl) args W)
  104 Tryz.vkE (by kernel_rfl) (fun _=>by kernel_rfl) (Ff aZ) (K:=803) (n:=l.length) (el:=104) (sz:=2) (by kernel_rfl) (xs:=aZ.map bQ.e) (by simp[dO,Pv.look,h]) i j hi ae
 refine this.mono ?_;rintro r ah ⟨rfl,rfl⟩;refine⟨rfl,?_⟩;simp[dO,cA,ajL,h]
end
section
open Go Go.Pv
def gj(o:ba (List bQ)):ai:= .tuple [.slice 2 .no ((o.getD []).map bQ.e),.bool o.isSome]
@[simp]theorem atO(S:aI->Prop)(o:ba (List bQ)):aD S (gj o)=True:=by simp[gj]
theorem ZF{l:List bQ}(h:ju l):bF ak 56 [.slice 2 .no (l.map bQ.e)] (.bool true):=by have:=ZE l;simpa only[h,decide_true]using this
theorem O0{t:T}(h:t.fit=true):bF ak 117 [t.e] (.bool true):=by have:=apU t;rwa[h]at this
theorem apE{s:List aq}(ag:eU s){l:List bQ}(ar:ju l)(t:T)(aN:t.fit=true)(k:Int):
  bF ak 52 [.slice 5 .no (s.map aq.e),.slice 2 .no (l.map bQ.e),t.e,.int .i64 k] (gj (if(k=2\/k=3)/\(t.ap (bX s)).size<=5000 then kC l (t.ap (bX s)) k else none)):=by
 have yC:=tU ar;have de:=qf ag;have c6:=O0 aN;have dq:=ZF ar;have fx:=zD s t ag.len ag.sol.asc ag.fit;generalize af:t.ap (bX s)=x at fx⊢;generalize dp:(if(k=2\/k=3)/\x.size<=5000 then kC l x k else none)=O;by_cases ad:k=2\/k=3;rotate_left
 ·have gE:(k !=2)=true:=by simp;omega
  have lr:(k !=3)=true:=by simp;omega
  rw[if_neg (fun h=>ad h.1)]at dp;rw[<-dp];refine be kk r6 sL fun aK=>?_;unfold qX;simp;(with_reducible repeat' first|refine aj ?_|refine aF de ?_|refine aG de ?_|refine aF c6 ?_|refine aG c6 ?_|refine aF dq ?_|refine aG dq ?_|simp[gE,lr]);simp[bz,kh,aX,aY,aW];simp[gj]
 by_cases bp:x.size<=5000;rotate_left
 ·rw[if_neg (fun h=>bp h.2)]at dp;rw[<-dp];rw[if_neg bp,hG bp]at fx;refine be kk r6 sL fun aK=>?_;unfold qX;simp;rcases ad with rfl|rfl;all_goals(with_reducible repeat' first|refine aj ?_|refine aF de ?_|refine aG de ?_|refine aF c6 ?_|refine aG c6 ?_|refine aF dq ?_|refine aG dq ?_|refine aF fx ?_|refine aG fx ?_|simp)
  all_goals simp[bz,kh,aX,aY,aW]
  all_goals simp[gj]
 rw[if_pos ⟨ad,bp⟩]at dp;rw[if_pos bp,gK bp]at fx;have re:(k !=2)=true->(k !=3)=false:=fun h=>by simp at h⊢;omega
 have vh:((k !=2)=false)\/((k !=2)=true/\(k !=3)=false):=by
  rcases ad with rfl|rfl
  ·left;rfl
  ·right;exact⟨rfl,rfl⟩
 clear re;cases x with
 |var n=>
  have ed:O=match lA l n with|some bT=>if bT=k then some l else none|none=>some (lY ⟨n,k⟩ l):=by rw[<-dp];rfl
  refine be kk r6 sL fun aK=>?_;unfold qX;simp;rcases vh with bm|⟨bm,jU⟩
  ·(with_reducible repeat' first|refine aj ?_|refine aF de ?_|refine aG de ?_|refine aF c6 ?_|refine aG c6 ?_|refine aF dq ?_|refine aG dq ?_|refine aF fx ?_|refine aG fx ?_|simp[bm]);refine du [3,10,12,55,56] (fun i (_:Unit)=>[(57,.int .i64 i)]) l.length (fun i _=> ∀j y,j<i->l[j]? =some y->y.v≠n) () bL (fun j y ae=>Ω) (fun _ ae _=>?_) (fun i _ hi ae _=>?_)
   ·have a7:lA l n=none:=yU.2 fun y aO=>by obtain⟨m,hm,e⟩:=nY aO;exact ae m y hm (by rw[cc hm,e])
    rw[a7]at ed;simp only at ed;simp;(with_reducible repeat' first|refine aj ?_|simp);all_goals first|(refine⟨by unfold lim;omega,?_⟩)|skip
    have key:=TT (l++[⟨n,k⟩]) (by simp;omega);have dY:=Ff (l++[⟨n,k⟩]);have hlen:(l++[(⟨n,k⟩:bQ)]).length=l.length+1:=by simp
    unfold wb dO at key dY;rw[hlen,rO,gS,nh]at key dY;refine cT.ob key dY aL aL (by simp[inObs,Pv.look]) ?_;rintro r ah ⟨rfl,aZ,rfl,J,U⟩;have tI:aZ=lY ⟨n,k⟩ l:=VJ (J.trans ((List.perm_append_comm (l₁:=l) (l₂:=[⟨n,k⟩])).trans (L3 ⟨n,k⟩ l).symm)) (GX ar.asc (yU.1 a7)) U;subst tI;refine⟨Same.keys Ψ Ψ,?_⟩;rw[ed];simp[cl];(with_reducible repeat' first|refine aj ?_|simp);simp[bz,kh,aX,aY,aW];simp[gj]
   ·obtain⟨b,ab,cr⟩:=dB hi;by_cases nE:b.v=n
    ·have a7:lA l n=some b.k:=by rw[<-nE];exact Hc ar.asc (dE ab)
     rw[a7]at ed;simp only at ed;by_cases o2:b.k=k
     ·rw[if_pos o2]at ed;rw[ed];have yo:(b.k !=k)=false:=by simp[o2]
      have sf:(b.v==n)=true:=by simp[nE]
      simp[hi,cr];(with_reducible repeat' first|refine aj ?_|simp[cr,hi,yo,sf,o2,nE]);simp[bz,kh,aX,aY,aW];simp[gj]
     ·rw[if_neg o2]at ed;rw[ed];have yo:(b.k !=k)=true:=by simp[o2]
      have sf:(b.v==n)=true:=by simp[nE]
      simp[hi,cr];(with_reducible repeat' first|refine aj ?_|simp[cr,hi,yo,sf,o2,nE]);simp[bz,kh,aX,aY,aW];simp[gj]
    ·have sf:(b.v==n)=false:=by simp[nE]
     simp[hi,cr];(with_reducible repeat' first|refine aj ?_|simp[cr,hi,sf,nE]);exact bO.rng () hi (fun j y iK aO=>by
      rcases(by omega:j<i\/j=i)with h|rfl
      ·exact ae j y h aO
      ·rw[ab]at aO;cases aO;exact nE) bL
  ·(with_reducible repeat' first|refine aj ?_|refine aF de ?_|refine aG de ?_|refine aF c6 ?_|refine aG c6 ?_|refine aF dq ?_|refine aG dq ?_|refine aF fx ?_|refine aG fx ?_|simp[bm,jU]);refine du [3,10,12,55,56] (fun i (_:Unit)=>[(57,.int .i64 i)]) l.length (fun i _=> ∀j y,j<i->l[j]? =some y->y.v≠n) () bL (fun j y ae=>Ω) (fun _ ae _=>?_) (fun i _ hi ae _=>?_)
   ·have a7:lA l n=none:=yU.2 fun y aO=>by obtain⟨m,hm,e⟩:=nY aO;exact ae m y hm (by rw[cc hm,e])
    rw[a7]at ed;simp only at ed;simp;(with_reducible repeat' first|refine aj ?_|simp);all_goals first|(refine⟨by unfold lim;omega,?_⟩)|skip
    have key:=TT (l++[⟨n,k⟩]) (by simp;omega);have dY:=Ff (l++[⟨n,k⟩]);have hlen:(l++[(⟨n,k⟩:bQ)]).length=l.length+1:=by simp
    unfold wb dO at key dY;rw[hlen,rO,gS,nh]at key dY;refine cT.ob key dY aL aL (by simp[inObs,Pv.look]) ?_;rintro r ah ⟨rfl,aZ,rfl,J,U⟩;have tI:aZ=lY ⟨n,k⟩ l:=VJ (J.trans ((List.perm_append_comm (l₁:=l) (l₂:=[⟨n,k⟩])).trans (L3 ⟨n,k⟩ l).symm)) (GX ar.asc (yU.1 a7)) U;subst tI;refine⟨Same.keys Ψ Ψ,?_⟩;rw[ed];simp[cl];(with_reducible repeat' first|refine aj ?_|simp);simp[bz,kh,aX,aY,aW];simp[gj]
   ·obtain⟨b,ab,cr⟩:=dB hi;by_cases nE:b.v=n
    ·have a7:lA l n=some b.k:=by rw[<-nE];exact Hc ar.asc (dE ab)
     rw[a7]at ed;simp only at ed;by_cases o2:b.k=k
     ·rw[if_pos o2]at ed;rw[ed];have yo:(b.k !=k)=false:=by simp[o2]
      have sf:(b.v==n)=true:=by simp[nE]
      simp[hi,cr];(with_reducible repeat' first|refine aj ?_|simp[cr,hi,yo,sf,o2,nE]);simp[bz,kh,aX,aY,aW];simp[gj]
     ·rw[if_neg o2]at ed;rw[ed];have yo:(b.k !=k)=true:=by simp[o2]
      have sf:(b.v==n)=true:=by simp[nE]
      simp[hi,cr];(with_reducible repeat' first|refine aj ?_|simp[cr,hi,yo,sf,o2,nE]);simp[bz,kh,aX,aY,aW];simp[gj]
    ·have sf:(b.v==n)=false:=by simp[nE]
     simp[hi,cr];(with_reducible repeat' first|refine aj ?_|simp[cr,hi,sf,nE]);exact bO.rng () hi (fun j y iK aO=>by
      rcases(by omega:j<i\/j=i)with h|rfl
      ·exact ae j y h aO
      ·rw[ab]at aO;cases aO;exact nE) bL
 |nil=>
  have ed:O=if T.nil.kind=k then some l else none:=by rw[<-dp];rfl
  by_cases hD:T.nil.kind=k
  ·rw[if_pos hD]at ed;rw[ed];refine be kk r6 sL fun aK=>?_;unfold qX;simp;simp at hD;rcases vh with bm|⟨bm,jU⟩
   ·((with_reducible repeat' first|refine aj ?_|refine aF de ?_|refine aG de ?_|refine aF c6 ?_|refine aG c6 ?_|refine aF dq ?_|refine aG dq ?_|refine aF fx ?_|refine aG fx ?_|simp[bm,hD]|((first|apply bS|apply bW|apply bV)<;>intro h<;>try simp at h))<;>(try exact cy));all_goals simp[bz,kh,aX,aY,aW]
    all_goals simp[gj]
   ·((with_reducible repeat' first|refine aj ?_|refine aF de ?_|refine aG de ?_|refine aF c6 ?_|refine aG c6 ?_|refine aF dq ?_|refine aG dq ?_|refine aF fx ?_|refine aG fx ?_|simp[bm,jU,hD]|((first|apply bS|apply bW|apply bV)<;>intro h<;>try simp at h))<;>(try exact cy));all_goals simp[bz,kh,aX,aY,aW]
    all_goals simp[gj]
  ·rw[if_neg hD]at ed;rw[ed];refine be kk r6 sL fun aK=>?_;unfold qX;simp;simp at hD;rcases vh with bm|⟨bm,jU⟩
   ·((with_reducible repeat' first|refine aj ?_|refine aF de ?_|refine aG de ?_|refine aF c6 ?_|refine aG c6 ?_|refine aF dq ?_|refine aG dq ?_|refine aF fx ?_|refine aG fx ?_|simp[bm,hD]|((first|apply bS|apply bW|apply bV)<;>intro h<;>try simp at h))<;>(try exact cy));all_goals simp[bz,kh,aX,aY,aW]
    all_goals simp[gj]
   ·((with_reducible repeat' first|refine aj ?_|refine aF de ?_|refine aG de ?_|refine aF c6 ?_|refine aG c6 ?_|refine aF dq ?_|refine aG dq ?_|refine aF fx ?_|refine aG fx ?_|simp[bm,jU,hD]|((first|apply bS|apply bW|apply bV)<;>intro h<;>try simp at h))<;>(try exact cy));all_goals simp[bz,kh,aX,aY,aW]
    all_goals simp[gj]
 |sym a=>
  have ed:O=if(T.sym a).kind=k then some l else none:=by rw[<-dp];rfl
  by_cases hD:(T.sym a).kind=k
  ·rw[if_pos hD]at ed;rw[ed];refine be kk r6 sL fun aK=>?_;unfold qX;simp;simp at hD;rcases vh with bm|⟨bm,jU⟩
   ·((with_reducible repeat' first|refine aj ?_|refine aF de ?_|refine aG de ?_|refine aF c6 ?_|refine aG c6 ?_|refine aF dq ?_|refine aG dq ?_|refine aF fx ?_|refine aG fx ?_|simp[bm,hD]|((first|apply bS|apply bW|apply bV)<;>intro h<;>try simp at h))<;>(try exact cy));all_goals simp[bz,kh,aX,aY,aW]
    all_goals simp[gj]
   ·((with_reducible repeat' first|refine aj ?_|refine aF de ?_|refine aG de ?_|refine aF c6 ?_|refine aG c6 ?_|refine aF dq ?_|refine aG dq ?_|refine aF fx ?_|refine aG fx ?_|simp[bm,jU,hD]|((first|apply bS|apply bW|apply bV)<;>intro h<;>try simp at h))<;>(try exact cy));all_goals simp[bz,kh,aX,aY,aW]
    all_goals simp[gj]
  ·rw[if_neg hD]at ed;rw[ed];refine be kk r6 sL fun aK=>?_;unfold qX;simp;simp at hD;rcases vh with bm|⟨bm,jU⟩
   ·((with_reducible repeat' first|refine aj ?_|refine aF de ?_|refine aG de ?_|refine aF c6 ?_|refine aG c6 ?_|refine aF dq ?_|refine aG dq ?_|refine aF fx ?_|refine aG fx ?_|simp[bm,hD]|((first|apply bS|apply bW|apply bV)<;>intro h<;>try simp at h))<;>(try exact cy));all_goals simp[bz,kh,aX,aY,aW]
    all_goals simp[gj]
   ·((with_reducible repeat' first|refine aj ?_|refine aF de ?_|refine aG de ?_|refine aF c6 ?_|refine aG c6 ?_|refine aF dq ?_|refine aG dq ?_|refine aF fx ?_|refine aG fx ?_|simp[bm,jU,hD]|((first|apply bS|apply bW|apply bV)<;>intro h<;>try simp at h))<;>(try exact cy));all_goals simp[bz,kh,aX,aY,aW]
    all_goals simp[gj]
 |num a=>
  have ed:O=if(T.num a).kind=k then some l else none:=by rw[<-dp];rfl
  by_cases hD:(T.num a).kind=k
  ·rw[if_pos hD]at ed;rw[ed];refine be kk r6 sL fun aK=>?_;unfold qX;simp;simp at hD;rcases vh with bm|⟨bm,jU⟩
   ·((with_reducible repeat' first|refine aj ?_|refine aF de ?_|refine aG de ?_|refine aF c6 ?_|refine aG c6 ?_|refine aF dq ?_|refine aG dq ?_|refine aF fx ?_|refine aG fx ?_|simp[bm,hD]|((first|apply bS|apply bW|apply bV)<;>intro h<;>try simp at h))<;>(try exact cy));all_goals simp[bz,kh,aX,aY,aW]
    all_goals simp[gj]
   ·((with_reducible repeat' first|refine aj ?_|refine aF de ?_|refine aG de ?_|refine aF c6 ?_|refine aG c6 ?_|refine aF dq ?_|refine aG dq ?_|refine aF fx ?_|refine aG fx ?_|simp[bm,jU,hD]|((first|apply bS|apply bW|apply bV)<;>intro h<;>try simp at h))<;>(try exact cy));all_goals simp[bz,kh,aX,aY,aW]
    all_goals simp[gj]
  ·rw[if_neg hD]at ed;rw[ed];refine be kk r6 sL fun aK=>?_;unfold qX;simp;simp at hD;rcases vh with bm|⟨bm,jU⟩
   ·((with_reducible repeat' first|refine aj ?_|refine aF de ?_|refine aG de ?_|refine aF c6 ?_|refine aG c6 ?_|refine aF dq ?_|refine aG dq ?_|refine aF fx ?_|refine aG fx ?_|simp[bm,hD]|((first|apply bS|apply bW|apply bV)<;>intro h<;>try simp at h))<;>(try exact cy));all_goals simp[bz,kh,aX,aY,aW]
    all_goals simp[gj]
   ·((with_reducible repeat' first|refine aj ?_|refine aF de ?_|refine aG de ?_|refine aF c6 ?_|refine aG c6 ?_|refine aF dq ?_|refine aG dq ?_|refine aF fx ?_|refine aG fx ?_|simp[bm,jU,hD]|((first|apply bS|apply bW|apply bV)<;>intro h<;>try simp at h))<;>(try exact cy));all_goals simp[bz,kh,aX,aY,aW]
    all_goals simp[gj]
 |pair a b=>
  have ed:O=if(T.pair a b).kind=k then some l else none:=by rw[<-dp];rfl
  by_cases hD:(T.pair a b).kind=k
  ·rw[if_pos hD]at ed;rw[ed];refine be kk r6 sL fun aK=>?_;unfold qX;simp;simp at hD;rcases vh with bm|⟨bm,jU⟩
   ·((with_reducible repeat' first|refine aj ?_|refine aF de ?_|refine aG de ?_|refine aF c6 ?_|refine aG c6 ?_|refine aF dq ?_|refine aG dq ?_|refine aF fx ?_|refine aG fx ?_|simp[bm,hD]|((first|apply bS|apply bW|apply bV)<;>intro h<;>try simp at h))<;>(try exact cy));all_goals simp[bz,kh,aX,aY,aW]
    all_goals simp[gj]
   ·((with_reducible repeat' first|refine aj ?_|refine aF de ?_|refine aG de ?_|refine aF c6 ?_|refine aG c6 ?_|refine aF dq ?_|refine aG dq ?_|refine aF fx ?_|refine aG fx ?_|simp[bm,jU,hD]|((first|apply bS|apply bW|apply bV)<;>intro h<;>try simp at h))<;>(try exact cy));all_goals simp[bz,kh,aX,aY,aW]
    all_goals simp[gj]
  ·rw[if_neg hD]at ed;rw[ed];refine be kk r6 sL fun aK=>?_;unfold qX;simp;simp at hD;rcases vh with bm|⟨bm,jU⟩
   ·((with_reducible repeat' first|refine aj ?_|refine aF de ?_|refine aG de ?_|refine aF c6 ?_|refine aG c6 ?_|refine aF dq ?_|refine aG dq ?_|refine aF fx ?_|refine aG fx ?_|simp[bm,hD]|((first|apply bS|apply bW|apply bV)<;>intro h<;>try simp at h))<;>(try exact cy));all_goals simp[bz,kh,aX,aY,aW]
    all_goals simp[gj]
   ·((with_reducible repeat' first|refine aj ?_|refine aF de ?_|refine aG de ?_|refine aF c6 ?_|refine aG c6 ?_|refine aF dq ?_|refine aG dq ?_|refine aF fx ?_|refine aG fx ?_|simp[bm,jU,hD]|((first|apply bS|apply bW|apply bV)<;>intro h<;>try simp at h))<;>(try exact cy));all_goals simp[bz,kh,aX,aY,aW]
    all_goals simp[gj]
def jy(o:ba (List bj)):ai:= .tuple [.slice 2 .no ((o.getD []).map bj.e),.bool o.isSome]
@[simp]theorem atQ(S:aI->Prop)(o:ba (List bj)):aD S (jy o)=True:=by simp[jy]
theorem ZH{l:List bj}(h:h6 l):bF ak 57 [.slice 2 .no (l.map bj.e)] (.bool true):=by have:=ZG l;simpa only[h,decide_true]using this
theorem apK{s:List dM}(h:jX s=true):bF ak 128 [.str s] (.bool true):=by have:=uz s;rwa[h]at this
def DU(l:List bj):List ai:=l.flatMap fun m=>[m.e,.bool true]
theorem Wq(l:List bj):ou l= .hdm l.length (List.range l.length)::DU l:=rfl
theorem MC(b:Nat):∀(n:Nat) (l:List bj),mX b (List.range' n l.length) (DU l)=(if n<=b then(l[b-n]?).map fun x=>.tuple [x.e,.bool true]else none)
 |n,[]=>by simp[mX,DU]
 |n,x::r=>by
  have e:DU (x::r)=x.e:: .bool true::DU r:=rfl;simp only[pD,List.range'_succ,e,mX];by_cases h:n=b
  ·subst h;simp
  ·rw[if_neg h,MC b (n+1) r];by_cases U:n<=b
   ·rw[if_pos U,if_pos Ω];have:b-n=(b-(n+1))+1:=Ω
    rw[this];simp
   ·rw[if_neg U,if_neg Ω]
@[simp]theorem auz(l:List bj):gG (ou l)=false:=rfl
@[simp]theorem auH(m:aI)(l:List bj):xt m (ou l)=some (b7 l.length [] m):=rfl
theorem aj1(f:aI->ba (List ai))(eR mk:aI)(n:Nat)(seen:List Nat)(b:Nat)(l:List bj)(x:bj)(hi:f eR=some (b7 n (seen++[b]) mk))(hm:f mk=some (ou l))(ax:n=l.length)(af:l[b]? =some x):ov f (.ptr eR 0)=some (True,.tuple [x.e,.bool true]):=by subst ax;simp only[WA,hi,hm,b7,Wq,List.getLast?_append,List.getLast?_singleton,Option.some_or,List.range_eq_range',MC,Nat.zero_le,if_true,Nat.sub_zero,Option.map_map];simp[af]
theorem acL{st:br}{d:Nat}{K:br->Prop}{eR mk:aI}{n:Nat}{seen:List Nat}{l:List bj}(hi:Pv.look eR st.b=some (b7 n seen mk))(hm:Pv.look mk st.b=some (ou l))(ax:n=l.length)
  (J:(∀b,b<l.length->b∈seen)->K {st with t:=Pv.put d (.tuple [.bool false]) st.t}) (U:∀b x,l[b]? =some x->b∉seen->K {st with t:=Pv.put d (.tuple [.bool true,x.e,.bool true]) st.t,b:=cA eR (b7 n (seen++[b]) mk) st.b}):
  r3 st d (.ptr eR 0) K:=by
 subst ax;simp only[r3,hi,b7,hm,Wq,MV,and_self,true_and];refine⟨fun h=>J fun b ab=>h b (by simpa using ab),fun b k v yE ab=>?_⟩;rw[List.range_eq_range',MC]at yE;simp only[Nat.zero_le,if_true,Nat.sub_zero,ha,ai.tuple.injEq,oJ,and_true]at yE;obtain⟨x,al,aE,bn⟩:=yE;subst aE bn;exact U b x al ab
theorem ajV{m x:bj}{l:List bj}:x∈lg m l↔x=m\/x∈l:=by
 unfold lg;split
 ·constructor
  ·exact .inr
  ·rintro(rfl|h)<;>assumption
 ·simp[or_comm]
theorem aa2{m:bj}{l:List bj}(h:l.Nodup):(lg m l).Nodup:=by
 unfold lg;split
 ·exact h
 ·rw[List.nodup_append];exact⟨h,Ψ,fun a bu b ab=>by simp at ab;subst ab;intro e;subst e;contradiction⟩
theorem aa1(m:bj)(l:List bj):(lg m l).length<=l.length+1:=by unfold lg;split<;>simp
theorem afR(s:List dM)(t:T):∀l:List bj,(t.fold (fun v l=>lg ⟨v,s⟩ l) l).length<=l.length+t.size:=by
 induction t with
 |var n=>intro l;simp only[T.fold,T.size];exact aa1 _ _
 |pair a b ds dv=>intro l;simp only[T.fold,T.size];have:=ds l;have:=dv (a.fold (fun v l=>lg ⟨v,s⟩ l) l);omega
 |_=>intro l;simp[T.fold,T.size]
theorem afS(s:List dM)(t:T):∀{l:List bj},l.Nodup->(t.fold (fun v l=>lg ⟨v,s⟩ l) l).Nodup:=by
 induction t with
 |var n=>intro l h;exact aa2 h
 |pair a b ds dv=>intro l h;exact dv (ds h)
 |_=>intro l h;exact h
theorem ajW(s:List dM)(t:T)(x:bj):∀{l:List bj},x∈t.fold (fun v l=>lg ⟨v,s⟩ l) l↔x∈l\/(x.s=s/\t.occ x.v=true):=by
 induction t with
 |var n=>
  intro l;simp only[T.fold,ajV,T.occ,dV];constructor
  ·rintro(rfl|h)
   ·exact .inr ⟨rfl,rfl⟩
   ·exact .inl h
  ·rintro(h|⟨J,U⟩)
   ·exact .inr h
   ·left;cases x;simp at J U;subst J U;rfl
 |pair a b ds dv=>
  intro l;simp only[T.fold,dv,ds,T.occ,lH];constructor
  ·rintro((h|h)|h)
   ·exact .inl h
   ·exact .inr ⟨h.1,.inl h.2⟩
   ·exact .inr ⟨h.1,.inr h.2⟩
  ·rintro(h|⟨J,U|U⟩)
   ·exact .inl (.inl h)
   ·exact .inl (.inr ⟨J,U⟩)
   ·exact .inr ⟨J,U⟩
 |_=>intro l;simp[T.fold,T.occ]
def ai3(M:List bj)(k:Nat)(st:br):Prop:=∃(seen:List Nat) (xs:List bj),seen.Nodup/\(∀b∈seen,b<M.length)/\k=M.length-seen.length/\xs=seen.filterMap (fun b=>M[b]?)/\xs.length=seen.length/\st=⟨[(15,.ptr (.obj 815) 0),(63,.ptr (.loc 2) 0)],[(.obj 812,ou M),(.loc 2,b7 M.length seen (.obj 812)),(.obj 815,[.row 2 (.obj 814) xs.length])],[(.obj 814,⟨xs.length,106,2,some (xs.map bj.e)⟩)],3,[.obj 815,.obj 814,.obj 813,.obj 812,.obj 811]⟩
theorem apD{s:List aq}(ag:eU s){l:List bj}(ar:h6 l)(yC:l.length<=68719470000)(t:T)(aN:t.fit=true){g:List dM}(a7:jX g=true):
  bF ak 54 [.slice 5 .no (s.map aq.e),.slice 2 .no (l.map bj.e),t.e,.str g] (jy (if(t.ap (bX s)).size<=5000 then mf l (t.ap (bX s)) g else none)):=by
 have de:=qf ag;have c6:=O0 aN;have dn:=ZH ar;have h5:=apK a7;have fx:=zD s t ag.len ag.sol.asc ag.fit;generalize af:t.ap (bX s)=x at fx⊢;generalize dp:(if x.size<=5000 then mf l x g else none)=O;by_cases bp:x.size<=5000;rotate_left
 ·rw[if_neg bp]at dp;rw[<-dp];rw[if_neg bp,hG bp]at fx;refine be kk Kp M0 fun aK=>?_;unfold Fx;simp;(with_reducible repeat' first|refine aj ?_|refine aF de ?_|refine aG de ?_|refine aF c6 ?_|refine aG c6 ?_|refine aF dn ?_|refine aG dn ?_|refine aF h5 ?_|refine aG h5 ?_|refine aF fx ?_|refine aG fx ?_|simp);simp[bz,HT,aX,aY,aW];simp[jy]
 rw[if_pos bp]at dp;rw[if_pos bp,gK bp]at fx;have Bd:=ZR g x;cases cz:x.has g;rotate_left
 ·rw[cz]at Bd;have ed:O=none:=by rw[<-dp];unfold mf;rw[cz];rfl
  rw[ed];refine be kk Kp M0 fun aK=>?_;unfold Fx;simp;(with_reducible repeat' first|refine aj ?_|refine aF de ?_|refine aG de ?_|refine aF c6 ?_|refine aG c6 ?_|refine aF dn ?_|refine aG dn ?_|refine aF h5 ?_|refine aG h5 ?_|refine aF fx ?_|refine aG fx ?_|refine aF Bd ?_|refine aG Bd ?_|simp);simp[bz,HT,aX,aY,aW];simp[jy]
 rw[cz]at Bd;refine be kk Kp M0 fun aK=>?_;unfold Fx;simp;(with_reducible repeat' first|refine aj ?_|refine aF de ?_|refine aG de ?_|refine aF c6 ?_|refine aG c6 ?_|refine aF dn ?_|refine aG dn ?_|refine aF h5 ?_|refine aG h5 ?_|refine aF fx ?_|refine aG fx ?_|refine aF Bd ?_|refine aG Bd ?_|simp);have o4:l.Nodup:=hZ.nodup l4 ar.asc;have gV:∀xs:List bj,xs.Perm (x.fold (fun v l=>lg ⟨v,g⟩ l) l)->O=some (pg fq xs):=fun xs bB=>by
  rw[<-dp];refine Jo cz ?_ fun y=>?_
  ·have J:=Oy l4 xs;have U:(pg fq xs).Nodup:=(((zy fq xs).trans bB).nodup_iff).2 (afS g x o4);exact(J.and U).imp fun{a b} h=>by have:=mt (l4.zero a b).1 h.2;omega
  ·rw[((zy fq xs).trans bB).mem_iff,ajW]
 have hlen:(x.fold (fun v l=>lg ⟨v,g⟩ l) l).length<=68719475000:=by have:=afR g x l;omega
 rw[show jZ []=ou []from rfl];refine gT (fun i (_:Unit)=>⟨[(7,.ptr (.obj 811) 0),(10,.ptr (.loc 1) 0),(12,.ptr (.obj 813) 0),(49,.slice 2 .no (l.map bj.e)),(50,.int .i64 l.length),(51,.int .i64 i)],[(.obj 811,[.str g]),(.loc 1,[.int .i64 x.kind,.int .i64 x.int,.str x.name,.slice 4 .no (x.args.map T.e)]),(.obj 812,ou (l.take i)),(.obj 813,[.gmap (.obj 812)])],[],2,[.obj 813,.obj 812,.obj 811]⟩) l.length (fun _ _=>True) () bL trivial (fun _ _ _=>?_) (fun i _ hi _ _=>?_)
 ·rw[jJ];simp;(with_reducible repeat' first|refine aj ?_|simp);have key:=KP (oR g) (Fi g) (Jh g) 130 [.ptr (.obj 813) 0,.ptr (.obj 811) 0] (by intro a;simp[inObs,oR,Pv.look,aH,aD]) Ψ (fun v l=>lg ⟨v,g⟩ l) (fun v a=>af2 g v a) x l;refine cT.ob key (Fi g l) (by unfold oR;exact aL) (by unfold oR;exact aL) (by simp[inObs,oR,Pv.look]) ?_;rintro r ah ⟨rfl,rfl⟩;refine⟨Jh g _ _,?_⟩;unfold oR;generalize eb:x.fold (fun v l=>lg ⟨v,g⟩ l) l=M at gV hlen⊢;simp[cl];(with_reducible repeat' first|refine aj ?_|simp);refine oX (ai3 M) M.length _ ⟨by simp[fresh,aH,aD,b7,inObs,Pv.look,Bf],ee (by simp[fresh,aH,aD,b7,inObs,Pv.look,Bf]),ef (by simp[fresh,aH,aD,dW,inObs,Pv.look,Bf]),Ψ⟩ ⟨[],[],Ψ,Ψ,Ψ,Ψ,Ψ,rfl⟩ ?_;rintro k st ⟨seen,xs,aR,bD,ad,U9,jq,rfl⟩ ku cB;clear ku cB;have hle:=EH aR bD;simp;refine acL (mk:= .obj 812) (seen:=seen) (l:=M) Ψ Ψ rfl (fun jR=>?_) (fun b y aO ab=>?_)
  ·have sq:=It aR bD jR;rw[<-U9]at sq;have dR:=gV xs sq;simp;(with_reducible repeat' first|refine aj ?_|simp);have key:=agL xs Ω;have dY:=Je xs;unfold xV dO at key dY;refine cT.ob key dY aL aL (by simp[inObs,Pv.look]) ?_;rintro r ah ⟨rfl,rfl⟩;refine⟨Same.keys Ψ Ψ,?_⟩;rw[dR];simp[cl];(with_reducible repeat' first|refine aj ?_|simp);simp[bz,HT,aX,aY,aW];simp[jy]
  ·have wL:∀f:aI->ba (List ai),f (.loc 2)=some (b7 M.length (seen++[b]) (.obj 812))->f (.obj 812)=some (ou M)->ov f (.ptr (.loc 2) 0)=some (True,.tuple [y.e,.bool true]):=fun f J U=>aj1 f (.loc 2) (.obj 812) M.length seen b M y J U rfl aO;have e4:b<M.length:=(eP.1 aO).1;have p2:=Iu aR bD e4 ab;simp[wL];(with_reducible repeat' first|refine aj ?_|simp[wL]);all_goals first|(refine⟨by unfold lim;omega,?_⟩)|skip
   have yz:∀S:aI->Prop,aH S (xs.map bj.e++[y.e])=True:=fun S=>by
    have e:xs.map bj.e++[y.e]=(xs++[y]).map bj.e:=by simp
    rw[e];simp[-rO]
   refine bO.next (M.length-(seen.length+1)) Ω ⟨seen++[b],xs++[y],HC aR ab,(by simp;intro c aw;rcases aw with aw|rfl;exact bD c aw;exact e4),Ψ,by rw[List.filterMap_append,<-U9];simp[aO],by simp[jq],rfl⟩ ⟨by simp[fresh,aH,aD,b7,inObs,Pv.look,Bf,yz],ee (by simp[fresh,aH,aD,b7,inObs,Pv.look,Bf,yz]),ef (by simp[fresh,aH,aD,dW,inObs,Pv.look,Bf,yz]),Ψ⟩
 ·obtain⟨b,ab,cr⟩:=dB hi;have kK:lg b (l.take i)=l.take (i+1):=by
   have J:b∉l.take i:=fun h=>by
    obtain⟨j,ae,e⟩:=nY h;have iK:j<i:=by simp at ae;omega
    rw[List.getElem_take]at e;have:=(List.nodup_iff_pairwise_ne.1 o4);exact(qg.1 this j i Ω hi iK) (by rw[e,cr])
   rw[ma,ab];simp[lg,J]
  exact fO
def QA:C:=(aa [a8 4 false] (.seq (aa [I 7 0,b2 8 7,bP 9 0] (eH 10 9 8 (.seq (.block 1 (aa [b9 11 5 7 9,a1 12 5 11,c9 6 iA,bM 5 6 12] (aa [aC 13 0 1 6,av 14 1 13,I 15 1,bh 16 .geq 14 15,I 17 16,ao 17 false (fi 18 1 4 6),ao 17 false (a1 19 4 18),ys 17 false (.bsl 20 4 32 [.t 19]),ao 17 false (cE 21 116 20),b4 17 false 22 1,ao 17 false (bh 23 .gtr 21 22),cZ 24 17 23] (aS 24 (aa [a8 4 false] .ret) .skip)))) (.region [aT 25 .add 9 1,I 9 25])))) (aa [a8 4 true] .ret)))
@[simp] def ane:List bN:=[.tmp 4]
def Qz:C:=(aa [bP 2 0] (.seq (aa [I 6 0,cE 7 68 6,cn 8 7] (aS 8 (aa [bP 2 (-1)] .ret) .skip)) (aa [cN (.alloc 3 (some 831) (.int .i64 0)),cN (.store 1 (.t 3) (gI 0))] (.seq (aa [I 9 0,b2 10 9,bP 11 0] (eH 12 11 10 (.seq (.block 1 (aa [b9 13 4 9 11,a1 14 4 13,c9 5 dj,bM 4 5 14] (.region [a1 15 4 5,b5 16 (.mkf 193 [.t 3]),bY 17 129 15 16]))) (.region [aT 18 .add 11 1,I 11 18])))) (aa [av 19 1 3,I 2 19] .ret)))))
@[simp] def anb:List bN:=[.tmp 2]
def Qv:C:=(aa [ep 4 2,a8 5 false] (.seq (aa [I 11 0,cE 12 55 11,cn 13 12,I 14 13,b4 14 false 15 1,ao 14 false (cE 16 56 15),ao 14 false (cn 17 16),cZ 18 14 17] (aS 18 (aa [ep 4 2,a8 5 false] .ret) .skip)) (aa [fj 19 2 104 [],I 6 19] (.seq (.seq (.fg false 6 (.region [I 20 1,b2 21 20,bP 22 0])) (eH 23 22 21 (.seq (.block 1 (aa [b9 24 2 20 22,a1 25 2 24,cN (.alloc 8 none (.agg [.int .i64 0,.int .i64 0])),bM 2 8 25] (.seq (.drawn true 42 [I 27 0,I 28 6,aC 29 0 1 8,av 30 1 29,cE 31 96 30,aC 32 1 1 8,av 33 1 32,dL 34 52 [.t 27,.t 28,.t 31,.t 33],I 26 34,cD 35 0 26,cD 36 1 26,I 9 35,I 10 36]) (.seq (aa [I 37 10,cn 38 37] (aS 38 (aa [ep 4 2,a8 5 false] .ret) .skip)) (.region [I 39 9,I 6 39]))))) (.region [aT 40 .add 22 1,I 22 40])))) (aa [I 41 6,I 4 41,a8 5 true] .ret)))))
@[simp] def Ny:List bN:=[.tmp 4,.tmp 5]
def Qw:C:=(aa [ep 4 2,a8 5 false] (.seq (aa [I 11 0,cE 12 55 11,cn 13 12,I 14 13,b4 14 false 15 1,ao 14 false (cE 16 57 15),ao 14 false (cn 17 16),cZ 18 14 17] (aS 18 (aa [ep 4 2,a8 5 false] .ret) .skip)) (aa [fj 19 2 106 [],I 6 19] (.seq (.seq (.fg false 6 (.region [I 20 1,b2 21 20,bP 22 0])) (eH 23 22 21 (.seq (.block 1 (aa [b9 24 2 20 22,a1 25 2 24,cN (.alloc 8 none (.agg [.int .i64 0,.str []])),bM 2 8 25] (.seq (.drawn true 42 [I 27 0,I 28 6,aC 29 0 1 8,av 30 1 29,cE 31 96 30,aC 32 1 1 8,av 33 1 32,dL 34 54 [.t 27,.t 28,.t 31,.t 33],I 26 34,cD 35 0 26,cD 36 1 26,I 9 35,I 10 36]) (.seq (aa [I 37 10,cn 38 37] (aS 38 (aa [ep 4 2,a8 5 false] .ret) .skip)) (.region [I 39 9,I 6 39]))))) (.region [aT 40 .add 22 1,I 22 40])))) (aa [I 41 6,I 4 41,a8 5 true] .ret)))))
@[simp] def Nz:List bN:=[.tmp 4,.tmp 5]
def Qs:C:=(aa [ep 2 1] (.seq (aa [I 12 0,b2 13 12,bP 14 0] (eH 15 14 13 (.seq (.block 1 (aa [b9 16 1 12 14,av 17 1 16,I 4 17] (aa [I 18 4,cE 19 55 18,cn 20 19] (aS 20 (aa [ep 2 1] .ret) .skip)))) (.region [aT 21 .add 14 1,I 14 21])))) (aa [cN (.bslm 22 (some 821) 1 23 []),I 23 0,cN (.appm 24 none 1 23 (.t 22) (.t 23)),cN (.alloc 5 (some 822) (.slice 1 .nil [])),bM 1 5 24] (aa [av 25 1 5,b5 26 (.mkif 24 (.t 25)),b5 27 (.mkf 203 [.t 5]),bY 28 202 26 27] (aa [fj 29 1 23 [],I 6 29] (.seq (aa [av 30 1 5,b2 31 30,bP 32 0] (.block 2 (.loop (aa [bh 33 .lss 32 31] (.seq (aS 33 .skip (.exit 2)) (.seq (.block 3 (aa [I 34 32,b9 35 1 30 32,av 36 1 35,I 7 34,I 8 36] (.seq (aa [I 37 7,aT 38 .gtr 37 0,I 39 38,ao 39 true (av 40 1 5),b4 39 true 41 7,ao 39 true (aT 42 .sub 41 1),ao 39 true (b9 43 1 40 42),ao 39 true (av 44 1 43),b4 39 true 45 8,ao 39 true (bY 46 204 44 45),ao 39 true (aT 47 .eql 46 0),dx 48 39 47] (aS 48 (.exit 3) .skip)) (aa [a8 9 true] (.seq (aa [av 49 1 5,b2 50 49,bP 51 0] (.block 4 (.loop (aa [bh 52 .lss 51 50] (.seq (aS 52 .skip (.exit 4)) (.seq (.block 5 (aa [b9 53 1 49 51,av 54 1 53,I 11 54] (aa [I 55 11,I 56 8,bY 57 204 55 56,aT 58 .neq 57 0,I 59 58,b4 59 true 60 11,b4 59 true 61 8,ao 59 true (bY 62 205 60 61),dx 63 59 62] (aS 63 (.region [a8 9 false]) .skip)))) (.region [aT 64 .add 51 1,I 51 64]))))))) (aa [I 65 9] (aS 65 (.region [I 66 6,I 67 8,cE 68 119 67,fj 69 1 23 [.t 68],iP 70 1 23 66 69,I 6 70]) .skip))))))) (.region [aT 71 .add 32 1,I 32 71]))))))) (aa [I 72 6,I 2 72] .ret)))))))
@[simp] def am7:List bN:=[.tmp 2]
def JG:C:=(.region [av 3 1 1,I 4 0,aT 5 .add 4 1,b5 6 (.max2 (.t 3) (.t 5)),bM 1 1 6])
@[simp] def NB:List bN:=[]
def Qt:C:=(aa [a8 5 false] (.seq (.drawn true 16 [av 6 1 2,I 7 0,b9 8 1 6 7,av 9 1 8,av 10 1 2,I 11 1,b9 12 1 10 11,av 13 1 12,bY 14 204 9 13,aT 15 .lss 14 0,I 5 15]) .ret))
@[simp] def XI:List bN:=[.tmp 5]
def xD:List (Nat×dH):=[
 (3,⟨1,8,.int .i64,.int .i64 0⟩),
 (9,⟨1,16,.str,.str []⟩),
 (23,⟨1,24,.slice 61,.slice 5 .nil []⟩),
 (24,⟨1,24,.slice 23,.slice 1 .nil []⟩),
 (25,⟨1,24,.slice 104,.slice 2 .nil []⟩),
 (26,⟨1,24,.slice 106,.slice 2 .nil []⟩),
 (30,⟨1,24,.slice 32,.slice 4 .nil []⟩),
 (32,⟨4,56,.struct [(0,3),(1,3),(2,9),(3,30)],.agg [.int .i64 0,.int .i64 0,.str [],.slice 4 .nil []]⟩),
 (61,⟨5,64,.struct [(0,3),(1,32)],.agg [.int .i64 0,.int .i64 0,.int .i64 0,.str [],.slice 4 .nil []]⟩),
 (104,⟨2,16,.struct [(0,3),(1,3)],.agg [.int .i64 0,.int .i64 0]⟩),
 (106,⟨2,24,.struct [(0,3),(1,9)],.agg [.int .i64 0,.str []]⟩)]
theorem xG:fS ak xD=true:=by kernel_rfl
theorem akV:bU xD QA ane 2 Tryz.f58=true:=by kernel_rfl
theorem adV:ak.funcs[(58:Nat)]? =some Tryz.f58:=Tryz.func58
theorem akU:bU xD Qz anb 1 Tryz.f116=true:=by kernel_rfl
theorem adU:ak.funcs[(116:Nat)]? =some Tryz.f116:=Tryz.func116
theorem akQ:bU xD Qv Ny 2 Tryz.f120=true:=by kernel_rfl
theorem adQ:ak.funcs[(120:Nat)]? =some Tryz.f120:=Tryz.func120
theorem akR:bU xD Qw Nz 2 Tryz.f121=true:=by kernel_rfl
theorem adR:ak.funcs[(121:Nat)]? =some Tryz.f121:=Tryz.func121
theorem akN:bU xD Qs am7 1 Tryz.f124=true:=by kernel_rfl
theorem adN:ak.funcs[(124:Nat)]? =some Tryz.f124:=Tryz.func124
theorem W2:bU xD JG NB 2 Tryz.f193=true:=by kernel_rfl
theorem Tb:ak.funcs[(193:Nat)]? =some Tryz.f193:=Tryz.func193
theorem akO:bU xD Qt XI 3 Tryz.f203=true:=by kernel_rfl
theorem adO:ak.funcs[(203:Nat)]? =some Tryz.f203:=Tryz.func203
def Vt(s:List aq)(l:List bQ)(i:Nat)(a:List bQ):Prop:=ju a/\gq s (l.drop i) a=gq s l []
theorem ZI{s:List aq}(ag:eU s){l:List bQ}(ar:ju l):bF ak 120 [.slice 5 .no (s.map aq.e),.slice 2 .no (l.map bQ.e)] (gj (gq s l [])):=by
 have yC:=tU ar;have de:=qf ag;have dq:=ZF ar;refine be xG adQ akQ fun aK=>?_;unfold Qv;simp;(with_reducible repeat' first|refine aj ?_|refine aF de ?_|refine aG de ?_|refine aF dq ?_|refine aG dq ?_|simp);refine du [0,20,21] (fun i (a:List bQ)=>[(6,.slice 2 .no (a.map bQ.e)),(22,.int .i64 i)]) l.length (Vt s l) [] bL ⟨⟨Ψ,Ψ⟩,rfl⟩ (fun a ae _=>?_) (fun i a hi ae _=>?_)
 ·obtain⟨_,ae⟩:=ae;rw[List.drop_length]at ae;simp only[gq]at ae;rw[<-ae];simp;(with_reducible repeat' first|refine aj ?_|simp);simp[bz,Ny,aX,aY,aW];simp[gj]
 ·obtain⟨bu,ae⟩:=ae;obtain⟨b,ab,cr⟩:=dB hi;have o1:=ar.at' b (dE ab);rw[lI hi,cr]at ae;simp only[gq]at ae;have eS:=apE ag bu (.var b.v) (by simp[T.fit,T.ok,T.size,o1.1]) b.k;have bp:((T.var b.v).ap (bX s)).size<=5000:=EI ag b.v;rw[if_pos ⟨o1.2,bp⟩,show(T.var b.v).ap (bX s)=bX s b.v from rfl]at eS;simp[hi,cr];cases ed:kC a (bX s b.v) b.k with
  |none=>rw[ed]at ae eS;simp only at ae;rw[<-ae];simp only[gj]at eS;(with_reducible repeat' first|refine aj ?_|refine aF (jj _) ?_|refine aG (jj _) ?_|refine aF eS ?_|refine aG eS ?_|simp[cr,hi]);simp[bz,Ny,aX,aY,aW];simp[gj]
  |some bq=>rw[ed]at ae eS;simp only[gj]at eS;(with_reducible repeat' first|refine aj ?_|refine aF (jj _) ?_|refine aG (jj _) ?_|refine aF eS ?_|refine aG eS ?_|simp[cr,hi]);exact bO.rng bq hi ⟨Jn bu (BX ag o1.1) o1.2 ed,ae⟩ bL
def Vu(s:List aq)(G:List (List dM))(l:List bj)(i:Nat)(a:List bj):Prop:=h6 a/\nT G a/\gr s (l.drop i) a=gr s l []
theorem ZJ{s:List aq}(ag:eU s){l:List bj}(ar:h6 l){G:List (List dM)}(ny:G.length<=687000)(a7:nT G l):bF ak 121 [.slice 5 .no (s.map aq.e),.slice 2 .no (l.map bj.e)] (jy (gr s l [])):=by
 have hlen:∀{a:List bj},h6 a->nT G a->a.length<=68719470000:=fun J U=>by have:=DV J U;omega
 have yC:=hlen ar a7;have de:=qf ag;have dq:=ZH ar;refine be xG adR akR fun aK=>?_;unfold Qw;simp;(with_reducible repeat' first|refine aj ?_|refine aF de ?_|refine aG de ?_|refine aF dq ?_|refine aG dq ?_|simp);refine du [0,20,21] (fun i (a:List bj)=>[(6,.slice 2 .no (a.map bj.e)),(22,.int .i64 i)]) l.length (Vu s G l) [] bL ⟨⟨Ψ,by simp[hZ]⟩,fun x af=>by simp at af,rfl⟩ (fun a ae _=>?_) (fun i a hi ae _=>?_)
 ·obtain⟨_,_,ae⟩:=ae;rw[List.drop_length]at ae;simp only[gr]at ae;rw[<-ae];simp;(with_reducible repeat' first|refine aj ?_|simp);simp[bz,Nz,aX,aY,aW];simp[jy]
 ·obtain⟨bu,Dz,ae⟩:=ae;obtain⟨b,ab,cr⟩:=dB hi;have o1:=ar.at' b (dE ab);have Lc:=a7 b (dE ab);rw[lI hi,cr]at ae;simp only[gr]at ae;have eS:=apD ag bu (hlen bu Dz) (.var b.v) (by simp[T.fit,T.ok,T.size,o1.1]) o1.2;have bp:((T.var b.v).ap (bX s)).size<=5000:=EI ag b.v;rw[if_pos bp,show(T.var b.v).ap (bX s)=bX s b.v from rfl]at eS;simp[hi,cr];cases ed:mf a (bX s b.v) b.s with
  |none=>rw[ed]at ae eS;simp only at ae;rw[<-ae];simp only[jy]at eS;(with_reducible repeat' first|refine aj ?_|refine aF (jj _) ?_|refine aG (jj _) ?_|refine aF eS ?_|refine aG eS ?_|simp[cr,hi]);simp[bz,Nz,aX,aY,aW];simp[jy]
  |some bq=>rw[ed]at ae eS;simp only[jy]at eS;(with_reducible repeat' first|refine aj ?_|refine aF (jj _) ?_|refine aG (jj _) ?_|refine aF eS ?_|refine aG eS ?_|simp[cr,hi]);exact bO.rng bq hi ⟨Jp bu (BX ag o1.1) o1.2 ed,Jq Dz Lc ed,ae⟩ bL
end
section
open Go Go.Pv Go.Lib
def cU(d:List aq):ai:= .slice 5 .no (d.map aq.e)
@[simp]theorem atB(S:aI->Prop)(d:List aq):aD S (cU d)=True:=by simp[cU]
@[simp]theorem arN(d:List aq):cells (cU d)=[cU d]:=rfl
@[simp]theorem auZ(d:List aq):eF (cU d)=true:=rfl
@[simp]theorem avn(d:List aq):dt (cU d)=cU d:=by simp[cU]
theorem SP:∀(S:aI->Prop) (x:List aq),aD S (cU x):=fun S x=>by simp
theorem Mj(S:aI->Prop):∀l:List (List aq),aH S (l.map cU)
 |[]=>by simp[aH]
 |x::xs=>by simp[aH,Mj S xs]
@[simp]theorem V2(S:aI->Prop)(l:List (List aq)):aH S (l.map cU)=True:=eq_true (Mj S l)
@[simp]theorem OF:∀l:List (List aq),c2 (l.map cU)=l.map cU
 |[]=>rfl
 |x::xs=>by simp[c2,OF xs]
def gg(d:List cX):ai:= .slice 5 .no (d.map cX.e)
@[simp]theorem arP(d:List cX):cells (gg d)=[gg d]:=rfl
@[simp]theorem au1(d:List cX):eF (gg d)=true:=rfl
theorem Kb(d:List aq):gg (d.map aq.b)=cU d:=by simp only[gg,cU,sF]
theorem Kc(l:List (List aq)):(l.map fun d=>d.map aq.b).map gg=l.map cU:=by rw[List.map_map];exact List.map_congr_left fun d _=>Kb d
@[simp]theorem atE(S:aI->Prop)(d:List cX):aD S (gg d)=True:=by simp[gg]
@[simp]theorem avq(d:List cX):dt (gg d)=gg d:=by simp[gg]
theorem V4(S:aI->Prop):∀l:List (List cX),aH S (l.map gg)
 |[]=>by simp[aH]
 |x::xs=>by simp[aH,V4 S xs]
@[simp]theorem atw(S:aI->Prop)(l:List (List cX)):aH S (l.map gg)=True:=eq_true (V4 S l)
abbrev uJ(l:List (List aq)):cH:=dO cU 821 822 23 1 l
theorem Ja(l:List (List aq)):dN (uJ l):=wc SP l
theorem af6(l:List (List aq))(ar:l.length<=68719476736)(i j:Nat)(x y:List aq)(hi:l[i]? =some x)(ae:l[j]? =some y):bH ak 203 [.int .i64 i,.int .i64 j,.ptr (.obj 822) 0] (uJ l) fun r ah=>r= .bool (hY eD x y)/\ah=uJ l:=by have ag:=Ja l;obtain⟨k2,fM⟩:=eP.1 hi;obtain⟨eh,oe⟩:=eP.1 ae;have aU:bF ak 204 [cU x,cU y] (.int .i64 (eD x y)):=IY x y;unfold uJ dO at ag⊢;refine bH.mk mixed xG adO akO Ψ ag.obj fun aK cB=>?_;unfold Qt;simp[k2,eh,fM,oe];(with_reducible repeat' first|refine aj ?_|refine aF aU ?_|refine aG aU ?_|simp[k2,eh,fM,oe]);refine cF.at _ (.inl rfl) ag (Same.refl _) aL aL ?_;simp[cL,XI,aX,aY,aW,hY]
noncomputable def Tryz.dsT:TypeInfo:=(ak.info? 24).get (by kernel_rfl)
noncomputable def Tryz.dsE:TypeInfo:=(ak.info? 23).get (by kernel_rfl)
theorem Tryz.dsK(n:Nat)(U:2<=n):Lib.swapperK n Tryz.dsE 23=9:=by
 have a:Tryz.dsE.hasPointers=true:=by kernel_rfl
 have b:Tryz.dsE.bytes=24:=by kernel_rfl
 have c:(n==0)=false:=by simp;omega
 have d:(n==1)=false:=by simp;omega
 simp[Lib.swapperK,a,b,c,d]
theorem agJ(l:List (List aq))(ar:l.length<=68719476736):bH ak 202 [.iface 24 (.row 1 (.obj 821) l.length),.func 203 [.ptr (.obj 822) 0]] (uJ l) fun r ah=>r= .tuple []/\ah=uJ (pg eD l):=by
 refine(af9 SP (K:=821) (B:=822) (sz:=1) 24 Tryz.dsT Tryz.dsE (by kernel_rfl) (by kernel_rfl) (by kernel_rfl) (by kernel_rfl) 23 (fun _=>by kernel_rfl) Tryz.dsK 203 (hY eD) l3.ltOk l ar (fun aZ h i j x y hi ae=>af6 aZ Ω i j x y hi ae) (fun aZ h i j hi ae=>?_)).mono ?_
 ·have:=TU (P:=ak) false 257 (fun args W=>run_callFunc_extern Tryz.func257 (by kernel_rfl) (by kernel_rfl) (by kernel_rfl) (e:=Cf false) (by kernel_rfl) args W)
   23 Tryz.dsE (by kernel_rfl) (.inr ⟨by kernel_rfl,fun _=>by kernel_rfl⟩) (Ja aZ) (K:=821) (n:=l.length) (el:=23) (sz:=1) (by kernel_rfl) (xs:=aZ.map cU) (by simp[dO,Pv.look,h]) i j hi ae
  refine this.mono ?_;rintro r ah ⟨rfl,rfl⟩;refine⟨rfl,?_⟩;simp[dO,cA,Wn,h]
 ·rintro r ah ⟨rfl,aZ,rfl,J,U⟩;exact⟨rfl,by rw[Y5 l3 J U]⟩
end
section
open Go Go.Pv
inductive ho where
 |s (l:List dM)
 |b (x:ByteArray)
def ho.e:ho->ai
 | .s l=>.str l
 | .b x=>.cst (.string x)
def ho.len:ho->Int
 | .s l=>l.length
 | .b x=>x.size
def nb(n:Nat):Prop:=lim<n/\n<=9223372036854775807
def ho.wf:ho->Prop
 | .s _=>True
 | .b x=>nb x.size
inductive c0 (α:Type) where
 |l (xs:List α)
 |b (p:ba Addr) (n cap:Nat)
def c0.e{α:Type}(sz:Nat)(f:α->ai):c0 α->ai
 | .l xs=>.slice sz .no (xs.map f)
 | .b p n cap=>.cst (.slice p n cap)
def c0.wf{α:Type}(P:α->Prop):c0 α->Prop
 | .l xs=> ∀x∈xs,P x
 | .b _ n _=>nb n
inductive cp where
 |mk (k n:Int) (s:ho) (a:List cp)
 |big (k n:Int) (s:ho) (p:ba Addr) (len cap:Nat)
mutual
def cp.e:cp->ai
 | .mk k n s a=>.agg [.int .i64 k,.int .i64 n,s.e,.slice 4 .no (cp.eL a)]
 | .big k n s p len cap=>.agg [.int .i64 k,.int .i64 n,s.e,.cst (.slice p len cap)]
def cp.eL:List cp->List ai
 |[]=>[]
 |x::xs=>x.e::cp.eL xs
end
theorem cp.eL_map:∀l,cp.eL l=l.map cp.e
 |[]=>rfl
 |x::xs=>by simp[cp.eL,cp.eL_map xs]
def cp.kind:cp->Int| .mk k _ _ _=>k| .big k _ _ _ _ _=>k
def cp.num:cp->Int| .mk _ n _ _=>n| .big _ n _ _ _ _=>n
def cp.name:cp->ho| .mk _ _ s _=>s| .big _ _ s _ _ _=>s
def cp.args:cp->c0 cp| .mk _ _ _ a=>.l a| .big _ _ _ p l c=>.b p l c
theorem cp.e_eq(t:cp):t.e= .agg [.int .i64 t.kind,.int .i64 t.num,t.name.e,t.args.e 4 cp.e]:=by
 cases t with
 |mk k n s a=>simp only[cp.e,cp.eL_map];rfl
 |big=>rfl
@[simp]theorem atI(S:aI->Prop)(s:ho):aD S s.e=True:=by cases s<;>simp[ho.e,aD]
@[simp]theorem avt(s:ho):dt s.e=s.e:=by cases s<;>simp[ho.e,dt]
mutual
theorem V7(S:aI->Prop):∀t:cp,aD S t.e
 | .mk k n s a=>by simp[cp.e,aD,aH,Mk S a]
 | .big k n s p l c=>by simp[cp.e,aD,aH]
theorem Mk(S:aI->Prop):∀l:List cp,aH S (cp.eL l)
 |[]=>by simp[cp.eL,aH]
 |x::xs=>by simp[cp.eL,aH,V7 S x,Mk S xs]
end
mutual
theorem Za:∀t:cp,dt t.e=t.e
 | .mk k n s a=>by simp[cp.e,dt,c2,OG a]
 | .big k n s p l c=>by simp[cp.e,dt,c2]
theorem OG:∀l:List cp,c2 (cp.eL l)=cp.eL l
 |[]=>by simp[cp.eL,c2]
 |x::xs=>by simp[cp.eL,c2,Za x,OG xs]
end
@[simp]theorem atU(S:aI->Prop)(t:cp):aD S t.e=True:=eq_true (V7 S t)
@[simp]theorem atu(S:aI->Prop)(l:List cp):aH S (l.map cp.e)=True:=by rw[<-cp.eL_map];exact eq_true (Mk S l)
@[simp]theorem avB(t:cp):dt t.e=t.e:=Za t
@[simp]theorem avj(l:List cp):c2 (l.map cp.e)=l.map cp.e:=by rw[<-cp.eL_map];exact OG l
@[simp]theorem ate(t:cp):Pv.isAgg 4 t.e:=by rw[cp.e_eq];exact⟨_,rfl,rfl⟩
@[simp]theorem atH(S:aI->Prop)(x:c0 cp):aD S (x.e 4 cp.e)=True:=by cases x<;>simp[c0.e,aD]
@[simp]theorem avs(x:c0 cp):dt (x.e 4 cp.e)=x.e 4 cp.e:=by cases x<;>simp[c0.e,dt]
mutual
def cp.sz:cp->Nat
 | .mk _ _ _ a=>1+cp.szL a
 | .big _ _ _ _ _ _=>1
def cp.szL:List cp->Nat
 |[]=>0
 |x::xs=>x.sz+cp.szL xs
end
theorem cp.szL_mem:∀{l:List cp} {x:cp},x∈l->x.sz<=cp.szL l
 |y::l,x,h=>by
  rcases fA.1 h with rfl|h
  ·simp[cp.szL]
  ·have:=cp.szL_mem h;simp[cp.szL];omega
mutual
def cp.wf:cp->Prop
 | .mk _ _ s a=>s.wf/\cp.wfL a
 | .big _ _ s _ l _=>s.wf/\nb l
def cp.wfL:List cp->Prop
 |[]=>True
 |x::xs=>x.wf/\cp.wfL xs
end
theorem cp.wfL_iff:∀{l:List cp},cp.wfL l↔∀x∈l,x.wf
 |[]=>by simp[cp.wfL]
 |x::l=>by simp[cp.wfL,cp.wfL_iff (l:=l)]
def ki{α:Type}(f:α->Int->Int):List α->Int->Int
 |[],m=>m
 |x::xs,m=>if f x m<0 then-1 else ki f xs (f x m)
def oB{α:Type}(f:α->Int->Int)(l:List α)(m:Int):Int:=if m-l.length<0 then-1 else ki f l (m-l.length)
def gQ{α:Type}(f:α->Int->Int):c0 α->Int->Int
 | .l xs,m=>oB f xs m
 | .b _ _ _,_=> -1
theorem Ze{α:Type}{f:α->Int->Int}(aJ:∀x m,0<=m-> -1<=f x m/\f x m<=m):∀(l:List α) (m:Int),0<=m-> -1<=ki f l m/\ki f l m<=m
 |[],m,h=>by simp only[ki];omega
 |x::xs,m,h=>by
  have J:=aJ x m h;simp only[ki];split
  ·omega
  ·have U:=Ze aJ xs (f x m) Ω;omega
theorem aph{α:Type}{f:α->Int->Int}(aJ:∀x m,0<=m-> -1<=f x m/\f x m<=m)(l:List α)(m:Int)(h:0<=m): -1<=oB f l m/\oB f l m<=m:=by
 unfold oB;split
 ·omega
 ·have:=Ze aJ l (m-l.length) Ω;omega
theorem uo{α:Type}{f:α->Int->Int}(aJ:∀x m,0<=m-> -1<=f x m/\f x m<=m)(l:c0 α)(m:Int)(h:0<=m): -1<=gQ f l m/\gQ f l m<=m:=by
 cases l with
 |l xs=>exact aph aJ xs m h
 |b=>simp only[gQ];omega
mutual
def h8:cp->Int->Int
 | .mk _ _ s a,m=>if m-s.len<0 then-1 else if m-s.len-a.length<0 then-1 else uq a (m-s.len-a.length)
 | .big _ _ s _ _ _,m=>if m-s.len<0 then-1 else-1
def uq:List cp->Int->Int
 |[],m=>m
 |x::xs,m=>if h8 x m<0 then-1 else uq xs (h8 x m)
end
theorem Zg:∀(l:List cp) (m:Int),uq l m=ki h8 l m
 |[],m=>rfl
 |x::xs,m=>by simp only[uq,ki,Zg xs]
theorem IF(t:cp)(m:Int):h8 t m=if m-t.name.len<0 then-1 else gQ h8 t.args (m-t.name.len):=by
 cases t with
 |mk=>simp only[h8,gQ,oB,Zg,cp.name,cp.args];rfl
 |big=>simp only[h8,gQ,cp.name,cp.args];rfl
theorem ho.len_nn(s:ho):0<=s.len:=by cases s<;>simp[ho.len]
mutual
theorem vW:∀(t:cp) (m:Int),0<=m-> -1<=h8 t m/\h8 t m<=m
 | .mk _ _ s a,m,h=>by
  have:=s.len_nn;simp only[h8];split
  ·omega
  ·split
   ·omega
   ·have:=Zh a (m-s.len-a.length) Ω;omega
 | .big _ _ s _ _ _,m,h=>by simp only[h8];split<;>omega
theorem Zh:∀(l:List cp) (m:Int),0<=m-> -1<=uq l m/\uq l m<=m
 |[],m,h=>by simp only[uq];omega
 |x::xs,m,h=>by
  have J:=vW x m h;simp only[uq];split
  ·omega
  ·have U:=Zh xs (h8 x m) Ω;omega
end
theorem ho.small{s:ho}(hw:s.wf){m:Int}(bs:m<=1048576)(h:0<=m-s.len):∃l,s= .s l:=by
 cases s with
 |s l=>exact⟨l,rfl⟩
 |b x=>simp only[ho.wf,nb,lim]at hw;simp only[ho.len]at h;omega
mutual
def qH:bI->cp
 | .mk k n s a=>.mk k n (.s s) (B1 a)
def B1:List bI->List cp
 |[]=>[]
 |x::xs=>qH x::B1 xs
end
mutual
theorem OR:∀t:bI,(qH t).e=enc t
 | .mk k n s a=>by simp only[qH,cp.e,enc,Zu a];rfl
theorem Zu:∀l:List bI,cp.eL (B1 l)=pR l
 |[]=>rfl
 |x::xs=>by simp only[B1,cp.eL,pR,OR x,Zu xs]
end
mutual
theorem OL:∀(t:cp) (m:Int),t.wf->m<=1048576->0<=m->0<=h8 t m->∃u:bI,t=qH u
 | .mk k n s a,m,hw,J,bs,h=>by
  simp only[cp.wf]at hw;simp only[h8]at h;have:=s.len_nn;split at h
  ·omega
  rename_i g;obtain⟨l,rfl⟩:=ho.small hw.1 J Ω;split at h
  ·omega
  obtain⟨b,ab⟩:=Zi a _ hw.2 Ω Ω h;exact⟨.mk k n l b,by simp only[qH,ab]⟩
 | .big _ _ s _ _ _,m,_,_,_,h=>by simp only[h8]at h;split at h<;>omega
theorem Zi:∀(l:List cp) (m:Int),cp.wfL l->m<=1048576->0<=m->0<=uq l m->∃u:List bI,l=B1 u
 |[],_,_,_,_,_=>⟨[],rfl⟩
 |x::xs,m,hw,J,bs,h=>by
  simp only[cp.wfL]at hw;simp only[uq]at h;have U:=vW x m bs;split at h
  ·omega
  obtain⟨u,hu⟩:=OL x m hw.1 J bs Ω;obtain⟨v,aB⟩:=Zi xs _ hw.2 Ω Ω h;exact⟨u::v,by simp only[B1,hu,aB]⟩
end
theorem Zf{α β:Type}{f:α->Int->Int}{P:α->Prop}{g:β->α}(hle:∀x m,0<=m-> -1<=f x m/\f x m<=m)(ag:∀x m,P x->m<=1048576->0<=m->0<=f x m->∃y,x=g y):∀(l:List α) (m:Int),(∀x∈l,P x)->m<=1048576->0<=m->0<=ki f l m->∃u:List β,l=u.map g
 |[],_,_,_,_,_=>⟨[],rfl⟩
 |x::xs,m,hw,J,bs,h=>by
  simp only[ki]at h;have U:=hle x m bs;split at h
  ·omega
  obtain⟨u,hu⟩:=ag x m (hw x Ψ) J bs Ω;obtain⟨v,aB⟩:=Zf hle ag xs _ (fun y aO=>hw y (by simp[aO])) Ω Ω h;exact⟨u::v,by rw[gS,<-hu,<-aB]⟩
theorem IE{α β:Type}{f:α->Int->Int}{P:α->Prop}{g:β->α}(hle:∀x m,0<=m-> -1<=f x m/\f x m<=m)(ag:∀x m,P x->m<=1048576->0<=m->0<=f x m->∃y,x=g y)(l:c0 α)(m:Int)(hw:l.wf P)(J:m<=1048576)(bs:0<=m)(h:0<=gQ f l m):∃u:List β,l= .l (u.map g):=by
 cases l with
 |b=>simp only[gQ]at h;omega
 |l xs=>
  simp only[gQ,oB]at h;split at h
  ·omega
  obtain⟨u,hu⟩:=Zf hle ag xs _ hw Ω Ω h;exact⟨u,by rw[hu]⟩
end
section
open Go Go.Pv Go.ChangeShapes Go.WideShapes Go.ChangeAt Go.RowKit Go.Deep
def q2(W:World):bg:=⟨fun b o=> ∃u,W.cell? ⟨b,o,none⟩=some u,fun _=>none,fun _=>none,fun _ _ _=>e1⟩
theorem Wb(W:World)(b:Nat):∀(us:List Value) (off:Nat),(∀i u,us[i]? =some u->W.cell? ⟨b,off+i,none⟩=some u)->l1 W (q2 W).A b off us
 |[],_,_=>trivial
 |u::us,off,h=>by
  have bs:W.cell? ⟨b,off,none⟩=some u:=by simpa using h 0 u rfl
  exact⟨⟨⟨u,bs⟩,bs⟩,Wb W b us (off+1) fun i eO hu=>by have:=h (i+1) eO (by simpa using hu);rwa[show off+(i+1)=off+1+i from by omega]at this⟩
section
variable {H:Type} {enc:fZ×Value->H} {W:World} {spare:Nat->Bool} {held:Bool}
def reads(W:World)(p:ai)(cs:List Value):Prop:= ∃v:Value,v.cells.toList=cs/\bd W (q2 W) p v/\∀c∈cs,c.oneCell'=true
theorem zm{W:World}{b0:List ai}{cs:List Value}(h:dc W (q2 W) b0 cs):reads W (.agg b0) cs:=by
 refine⟨.agg cs.toArray,by simp[pB],by simp only[bd];exact⟨cs.toArray,rfl,by simpa using h⟩,?_⟩;have:∀(b0:List ai) (cs:List Value),dc W (q2 W) b0 cs->∀c∈cs,c.oneCell'=true:=by
  intro b0;induction b0 with
  |nil=>intro cs h;simp only[dc]at h;subst h;simp
  |cons p b0 bR=>
   intro cs h c aw;simp only[dc]at h;obtain⟨u,us,rfl,J,U⟩:=h;rcases fA.1 aw with rfl|aw
   ·exact J.2
   ·exact bR us U c aw
 exact this b0 cs h
def uh(W:World)(p:ai)(v:Value):Prop:=bd W (q2 W) p v/\v.oneCell'=true/\v.cells= #[v]
theorem uh.reads{W:World}{p:ai}{v:Value}(h:uh W p v):reads W p [v]:=⟨v,by rw[h.2.2],h.1,fun c aw=>by simp at aw;subst aw;exact h.2.1⟩
theorem abI{W:World}{xX xZ k j:Nat}:W.cell? (((⟨xX,xZ,none⟩:Addr).add k).add j)=W.cell? ⟨xX,xZ+(k+j),none⟩:=by rw[add_add,Addr.add_lit]
theorem BZ{α:Type}{t e:fZ}{sz:Nat}(f:α->ai)(Q:α->Prop)(aN:ak.underlying t=some (.slice e))(aw:ak.cellsOf e=sz)(en:0<sz){fuel:Nat}
  (ahu:∀n cs x,n<fuel->ib enc ak W 0 spare held n e cs=some x->∃a:α,Q a/\reads W (f a) cs)
  {cs:List Value} {x:DataW H×List MemPlace} (h:ib enc ak W 0 spare held fuel t cs=some x):∃l:c0 α,l.wf Q/\∃v,cs=[v]/\uh W (l.e sz f) v:=by
 rcases DataW.trod_slice aN h with⟨rfl,_⟩|⟨a,len,cap,elems,rest,n,rfl,rfl,_,_,ar,hm,hlen,Up,_,_⟩
 ·refine⟨.l [],by simp[c0.wf],_,rfl,?_,rfl,rfl⟩;simp only[c0.e,nh,bd];exact⟨⟨none,0,rfl,Ψ,⟨by simp[maxLen],by simp[lim]⟩,.inl Ψ⟩,fun e=>(by cases e),fun g e=>(by cases e),fun _ _ e=>(by cases e),fun _ e=>(by cases e)⟩
 by_cases Gr:lim<len
 ·refine⟨.b (some a) len cap,⟨Gr,by unfold maxLen at hm;omega⟩,_,rfl,?_,rfl,rfl⟩;simp only[c0.e,bd]
 rcases Nat.eq_zero_or_pos len with rfl|fE
 ·refine⟨.l [],by simp[c0.wf],_,rfl,?_,rfl,rfl⟩;simp only[c0.e,nh,bd];exact⟨⟨some a,cap,rfl,Ψ,⟨hm,by simp[lim]⟩,.inl Ψ⟩,fun e=>(by cases e),fun g e=>(by cases e),fun _ _ e=>(by cases e),fun _ e=>(by cases e)⟩
 rw[aw]at Up;have hr:∀i,i<len->∃cs',cs'.length=sz/\(∀j,j<sz->W.cell? ((a.add (i*sz)).add j)=cs'[j]?)/\∃b:α,Q b/\reads W (f b) cs':=by intro i hi;have J:=Up i hi;rw[cc Ω]at J;obtain⟨cs',U,au⟩:=nj.1 J;obtain⟨_,a6,b3⟩:=World.cells?_some U;exact⟨cs',a6,b3,ahu n cs' _ Ω au⟩
 obtain⟨xX,xZ,spot⟩:=a;have ait:spot=none:=by obtain⟨cs',J,U,_⟩:=hr 0 fE;have au:=U 0 en;rw[cc Ω]at au;simpa[Addr.add]using World.cell?_spot au
 subst ait;have abO:∀d,d<=len->∃xs:List α,xs.length=d/\(∀x∈xs,Q x)/\∃us:List Value,us.length=d*sz/\dK W (q2 W) sz (xs.map f) us/\∀j u,us[j]? =some u->W.cell? ⟨xX,xZ+((len-d)*sz+j),none⟩=some u:=by
  intro d;induction d with
  |zero=>intro _;exact⟨[],rfl,Ψ,[],Ψ,by simp[dK],Ψ⟩
  |succ d bR=>
   intro aR;obtain⟨xs,al,aE,us,bn,dh,hq⟩:=bR Ω;obtain⟨cs',bK,cq,b,ab,v,v1,v2,v3⟩:=hr (len-(d+1)) Ω;have hmul:(len-d)*sz=(len-(d+1))*sz+sz:=by rw[show len-d=(len-(d+1))+1 from by omega,Nat.succ_mul]
   refine⟨b::xs,by simp[al],fun x af=>?_,cs'++us,by rw[pC,bK,bn,Nat.succ_mul];omega,?_,fun j u ae=>?_⟩
   ·rcases fA.1 af with rfl|af
    ·exact ab
    ·exact aE x af
   ·simp only[gS,dK];exact⟨v,us,by rw[v1],⟨v2,by rw[<-bK,<-v1];simp,by rw[v1];exact v3⟩,dh⟩
   ·rcases Nat.lt_or_ge j sz with bD|vf
    ·rw[List.getElem?_append_left Ω]at ae;have:=cq j bD;rw[abI]at this;rw[this];exact ae
    ·rw[List.getElem?_append_right Ω,bK]at ae;have:=hq (j-sz) u ae;rwa[show(len-d)*sz+(j-sz)=(len-(d+1))*sz+j from by omega]at this
 obtain⟨xs,al,aE,us,bn,dh,hq⟩:=abO len (e7 _);refine⟨.l xs,aE,_,rfl,?_,rfl,rfl⟩;simp only[c0.e,bd];refine⟨⟨some ⟨xX,xZ,none⟩,cap,by rw[oK,al],by rw[oK,al];exact ar,⟨hm,by rw[oK,al];omega⟩,.inr ⟨xX,xZ,us,rfl,Wb W xX us xZ fun i u hu=>?_,dh⟩⟩,fun e=>(by cases e),fun g e=>(by cases e),fun _ _ e=>(by cases e),fun _ e=>(by cases e)⟩;have:=hq i u hu;simpa using this
end
end
section
open Go Go.Pv
def JR:C:=(aa [bP 4 0] (aa [I 6 1,I 7 0,b2 8 7,bh 9 .sub 6 8,I 1 9] (.seq (aa [I 10 1,aT 11 .lss 10 0] (aS 11 (aa [bP 4 (-1)] .ret) .skip)) (.seq (aa [bP 5 0] (.block 0 (.loop (.seq (aa [I 12 5,I 13 0,b2 14 13,bh 15 .lss 12 14] (aS 15 .skip (.exit 0))) (.seq (.block 1 (aa [I 18 0,I 19 5,b9 20 4 18 19,a1 21 4 20,I 22 1,bY 23 85 21 22,I 1 23] (aa [I 24 1,aT 25 .lss 24 0] (aS 25 (aa [bP 4 (-1)] .ret) .skip)))) (.region [I 16 5,aT 17 .add 16 1,I 5 17])))))) (aa [I 26 1,I 4 26] .ret)))))
@[simp] def anD:List bN:=[.tmp 4]
def Rs:C:=(aa [ep 2 4] (aa [I 5 0,b2 6 5,cN (.mks 7 none 4 32 (.agg dj) (.t 6)),I 3 7] (.seq (aa [bP 4 0] (.block 0 (.loop (.seq (aa [I 8 4,I 9 0,b2 10 9,bh 11 .lss 8 10] (aS 11 .skip (.exit 0))) (.seq (.block 1 (.region [I 14 3,I 15 4,I 16 0,I 17 4,b9 18 4 16 17,a1 19 4 18,cE 20 87 19,b9 21 4 14 15,bM 4 21 20])) (.region [I 12 4,aT 13 .add 12 1,I 4 13])))))) (.seq (.pub 3 (.region [I 22 3,I 2 22])) .ret))))
@[simp] def anN:List bN:=[.tmp 2]
def Rh:C:=(aa [a8 4 false] (.seq (aa [I 6 0,b2 7 6,I 8 1,b2 9 8,bh 10 .neq 7 9] (aS 10 (aa [a8 4 false] .ret) .skip)) (.seq (aa [bP 5 0] (.block 0 (.loop (.seq (aa [I 11 5,I 12 0,b2 13 12,bh 14 .lss 11 13] (aS 14 .skip (.exit 0))) (.seq (.block 1 (.seq (.drawn true 27 [I 17 0,I 18 5,b9 19 4 17 18,a1 20 4 19,I 21 1,I 22 5,b9 23 4 21 22,a1 24 4 23,bY 25 90 20 24,cn 26 25]) (aS 26 (aa [a8 4 false] .ret) .skip))) (.region [I 15 5,aT 16 .add 15 1,I 5 16])))))) (aa [a8 4 true] .ret))))
@[simp] def ant:List bN:=[.tmp 4]
def z1:C:=(aa [cO 2 0,bP 4 0] (aa [aC 5 1 1 2,av 6 1 5,I 7 1,bY 8 137 6 7,I 1 8] (.seq (aa [I 9 1,aT 10 .lss 9 0] (aS 10 (aa [bP 4 (-1)] .ret) .skip)) (aa [aC 11 2 1 2,av 12 1 11,I 13 1,bY 14 138 12 13,I 1 14] (.seq (aa [I 15 1,aT 16 .lss 15 0] (aS 16 (aa [bP 4 (-1)] .ret) .skip)) (aa [aC 17 3 1 2,av 18 1 17,I 19 1,bY 20 139 18 19,I 1 20] (.seq (aa [I 21 1,aT 22 .lss 21 0] (aS 22 (aa [bP 4 (-1)] .ret) .skip)) (aa [aC 23 4 1 2,av 24 1 23,I 25 1,bY 26 140 24 25,I 1 26] (.seq (aa [I 27 1,aT 28 .lss 27 0] (aS 28 (aa [bP 4 (-1)] .ret) .skip)) (aa [I 29 1,I 4 29] .ret))))))))))
@[simp] def anB:List bN:=[.tmp 4]
def Rq:C:=(aa [cO 1 0,c9 2 p5] (aa [c9 3 p5] (aa [aC 4 0 1 1,av 5 1 4,aC 6 0 1 3,bM 1 6 5] (aa [aC 7 1 1 1,av 8 1 7,cE 9 149 8,aC 10 1 1 3,bM 1 10 9] (aa [aC 11 2 1 1,av 12 1 11,cE 13 150 12,aC 14 2 1 3,bM 1 14 13] (aa [aC 15 3 1 1,av 16 1 15,cE 17 151 16,aC 18 3 1 3,bM 1 18 17] (aa [aC 19 4 1 1,av 20 1 19,cE 21 152 20,aC 22 4 1 3,bM 1 22 21] (aa [a1 23 5 3,bM 5 2 23] .ret))))))))
@[simp] def anL:List bN:=[.cell 2 true 5]
def Rf:C:=(aa [cO 2 0,cO 3 1,a8 4 false] (.seq (aa [aC 5 0 1 2,av 6 1 5,aC 7 0 1 3,av 8 1 7,bh 9 .neq 6 8] (aS 9 (aa [a8 4 false] .ret) .skip)) (.seq (aa [aC 10 1 1 2,av 11 1 10,aC 12 1 1 3,av 13 1 12,bY 14 156 11 13,cn 15 14] (aS 15 (aa [a8 4 false] .ret) .skip)) (.seq (aa [aC 16 2 1 2,av 17 1 16,aC 18 2 1 3,av 19 1 18,bY 20 157 17 19,cn 21 20] (aS 21 (aa [a8 4 false] .ret) .skip)) (.seq (aa [aC 22 3 1 2,av 23 1 22,aC 24 3 1 3,av 25 1 24,bY 26 158 23 25,cn 27 26] (aS 27 (aa [a8 4 false] .ret) .skip)) (.seq (aa [aC 28 4 1 2,av 29 1 28,aC 30 4 1 3,av 31 1 30,bY 32 159 29 31,cn 33 32] (aS 33 (aa [a8 4 false] .ret) .skip)) (aa [a8 4 true] .ret)))))))
@[simp] def anr:List bN:=[.tmp 4]
def uT:C:=(aa [cO 2 0,bP 4 0] (aa [I 5 1,aC 6 2 1 2,av 7 1 6,b5 8 (.slen (.t 7)),bh 9 .sub 5 8,I 1 9] (.seq (aa [I 10 1,aT 11 .lss 10 0] (aS 11 (aa [bP 4 (-1)] .ret) .skip)) (aa [aC 12 3 1 2,av 13 1 12,I 14 1,bY 15 32 13 14,I 1 15] (.seq (aa [I 16 1,aT 17 .lss 16 0] (aS 17 (aa [bP 4 (-1)] .ret) .skip)) (aa [I 18 1,I 4 18] .ret))))))
@[simp] def anC:List bN:=[.tmp 4]
def Rr:C:=(aa [cO 1 0,c9 2 dj] (aa [c9 3 dj] (aa [aC 4 0 1 1,av 5 1 4,aC 6 0 1 3,bM 1 6 5] (aa [aC 7 1 1 1,av 8 1 7,aC 9 1 1 3,bM 1 9 8] (aa [aC 10 2 1 1,av 11 1 10,aC 12 2 1 3,bM 1 12 11] (aa [aC 13 3 1 1,av 14 1 13,cE 15 34 14,aC 16 3 1 3,bM 1 16 15] (aa [a1 17 4 3,bM 4 2 17] .ret)))))))
@[simp] def anM:List bN:=[.cell 2 true 4]
def Rg:C:=(aa [cO 2 0,cO 3 1,a8 4 false] (.seq (aa [aC 5 0 1 2,av 6 1 5,aC 7 0 1 3,av 8 1 7,bh 9 .neq 6 8] (aS 9 (aa [a8 4 false] .ret) .skip)) (.seq (aa [aC 10 1 1 2,av 11 1 10,aC 12 1 1 3,av 13 1 12,bh 14 .neq 11 13] (aS 14 (aa [a8 4 false] .ret) .skip)) (.seq (aa [aC 15 2 1 2,av 16 1 15,aC 17 2 1 3,av 18 1 17,bh 19 .neq 16 18] (aS 19 (aa [a8 4 false] .ret) .skip)) (.seq (aa [aC 20 3 1 2,av 21 1 20,aC 22 3 1 3,av 23 1 22,bY 24 36 21 23,cn 25 24] (aS 25 (aa [a8 4 false] .ret) .skip)) (aa [a8 4 true] .ret))))))
@[simp] def ans:List bN:=[.tmp 4]
def JO:C:=(aa [bP 4 0] (aa [I 6 1,I 7 0,b2 8 7,bh 9 .sub 6 8,I 1 9] (.seq (aa [I 10 1,aT 11 .lss 10 0] (aS 11 (aa [bP 4 (-1)] .ret) .skip)) (.seq (aa [bP 5 0] (.block 0 (.loop (.seq (aa [I 12 5,I 13 0,b2 14 13,bh 15 .lss 12 14] (aS 15 .skip (.exit 0))) (.seq (.block 1 (aa [I 18 0,I 19 5,b9 20 5 18 19,a1 21 5 20,I 22 1,bY 23 213 21 22,I 1 23] (aa [I 24 1,aT 25 .lss 24 0] (aS 25 (aa [bP 4 (-1)] .ret) .skip)))) (.region [I 16 5,aT 17 .add 16 1,I 5 17])))))) (aa [I 26 1,I 4 26] .ret)))))
@[simp] def anw:List bN:=[.tmp 4]
def JP:C:=(aa [bP 4 0] (aa [I 6 1,I 7 0,b2 8 7,bh 9 .sub 6 8,I 1 9] (.seq (aa [I 10 1,aT 11 .lss 10 0] (aS 11 (aa [bP 4 (-1)] .ret) .skip)) (.seq (aa [bP 5 0] (.block 0 (.loop (.seq (aa [I 12 5,I 13 0,b2 14 13,bh 15 .lss 12 14] (aS 15 .skip (.exit 0))) (.seq (.block 1 (aa [I 18 0,I 19 5,b9 20 1 18 19,av 21 1 20,I 22 1,bY 23 137 21 22,I 1 23] (aa [I 24 1,aT 25 .lss 24 0] (aS 25 (aa [bP 4 (-1)] .ret) .skip)))) (.region [I 16 5,aT 17 .add 16 1,I 5 17])))))) (aa [I 26 1,I 4 26] .ret)))))
@[simp] def anx:List bN:=[.tmp 4]
def FI:C:=(aa [bP 4 0] (aa [I 5 1,I 6 0,b2 7 6,bh 8 .sub 5 7,I 1 8] (.seq (aa [I 9 1,aT 10 .lss 9 0] (aS 10 (aa [bP 4 (-1)] .ret) .skip)) (aa [I 11 1,I 4 11] .ret))))
@[simp] def anE:List bN:=[.tmp 4]
def JQ:C:=(aa [bP 4 0] (aa [I 6 1,I 7 0,b2 8 7,bh 9 .sub 6 8,I 1 9] (.seq (aa [I 10 1,aT 11 .lss 10 0] (aS 11 (aa [bP 4 (-1)] .ret) .skip)) (.seq (aa [bP 5 0] (.block 0 (.loop (.seq (aa [I 12 5,I 13 0,b2 14 13,bh 15 .lss 12 14] (aS 15 .skip (.exit 0))) (.seq (.block 1 (aa [I 18 0,I 19 5,b9 20 2 18 19,a1 21 2 20,I 22 1,bY 23 214 21 22,I 1 23] (aa [I 24 1,aT 25 .lss 24 0] (aS 25 (aa [bP 4 (-1)] .ret) .skip)))) (.region [I 16 5,aT 17 .add 16 1,I 5 17])))))) (aa [I 26 1,I 4 26] .ret)))))
@[simp] def anA:List bN:=[.tmp 4]
def Rm:C:=(aa [ep 2 5] (aa [I 5 0,b2 6 5,cN (.mks 7 none 5 61 (.agg iA) (.t 6)),I 3 7] (.seq (aa [bP 4 0] (.block 0 (.loop (.seq (aa [I 8 4,I 9 0,b2 10 9,bh 11 .lss 8 10] (aS 11 .skip (.exit 0))) (.seq (.block 1 (.region [I 14 3,I 15 4,I 16 0,I 17 4,b9 18 5 16 17,a1 19 5 18,cE 20 222 19,b9 21 5 14 15,bM 5 21 20])) (.region [I 12 4,aT 13 .add 12 1,I 4 13])))))) (.seq (.pub 3 (.region [I 22 3,I 2 22])) .ret))))
@[simp] def anH:List bN:=[.tmp 2]
def Rn:C:=(aa [ep 2 1] (aa [I 5 0,b2 6 5,cN (.mks 7 none 1 23 (.slice 5 .nil []) (.t 6)),I 3 7] (.seq (aa [bP 4 0] (.block 0 (.loop (.seq (aa [I 8 4,I 9 0,b2 10 9,bh 11 .lss 8 10] (aS 11 .skip (.exit 0))) (.seq (.block 1 (.region [I 14 3,I 15 4,I 16 0,I 17 4,b9 18 1 16 17,av 19 1 18,cE 20 149 19,b9 21 1 14 15,bM 1 21 20])) (.region [I 12 4,aT 13 .add 12 1,I 4 13])))))) (.seq (.pub 3 (.region [I 22 3,I 2 22])) .ret))))
@[simp] def anI:List bN:=[.tmp 2]
def Ru:C:=(aa [ep 2 2] (aa [I 5 0,b2 6 5,cN (.mks 7 none 2 104 (.agg [.int .i64 0,.int .i64 0]) (.t 6)),I 3 7] (.seq (aa [bP 4 0] (.block 0 (.loop (.seq (aa [I 8 4,I 9 0,b2 10 9,bh 11 .lss 8 10] (aS 11 .skip (.exit 0))) (.seq (.block 1 (.region [I 14 3,I 15 4,I 16 0,I 17 4,b9 18 2 16 17,a1 19 2 18,cE 20 223 19,b9 21 2 14 15,bM 2 21 20])) (.region [I 12 4,aT 13 .add 12 1,I 4 13])))))) (.seq (.pub 3 (.region [I 22 3,I 2 22])) .ret))))
@[simp] def anP:List bN:=[.tmp 2]
def Rp:C:=(aa [ep 2 2] (aa [I 5 0,b2 6 5,cN (.mks 7 none 2 106 (.agg [.int .i64 0,.str []]) (.t 6)),I 3 7] (.seq (aa [bP 4 0] (.block 0 (.loop (.seq (aa [I 8 4,I 9 0,b2 10 9,bh 11 .lss 8 10] (aS 11 .skip (.exit 0))) (.seq (.block 1 (.region [I 14 3,I 15 4,I 16 0,I 17 4,b9 18 2 16 17,a1 19 2 18,cE 20 224 19,b9 21 2 14 15,bM 2 21 20])) (.region [I 12 4,aT 13 .add 12 1,I 4 13])))))) (.seq (.pub 3 (.region [I 22 3,I 2 22])) .ret))))
@[simp] def anK:List bN:=[.tmp 2]
def Ra:C:=(aa [a8 4 false] (.seq (aa [I 6 0,b2 7 6,I 8 1,b2 9 8,bh 10 .neq 7 9] (aS 10 (aa [a8 4 false] .ret) .skip)) (.seq (aa [bP 5 0] (.block 0 (.loop (.seq (aa [I 11 5,I 12 0,b2 13 12,bh 14 .lss 11 13] (aS 14 .skip (.exit 0))) (.seq (.block 1 (.seq (.drawn true 27 [I 17 0,I 18 5,b9 19 5 17 18,a1 20 5 19,I 21 1,I 22 5,b9 23 5 21 22,a1 24 5 23,bY 25 226 20 24,cn 26 25]) (aS 26 (aa [a8 4 false] .ret) .skip))) (.region [I 15 5,aT 16 .add 15 1,I 5 16])))))) (aa [a8 4 true] .ret))))
@[simp] def ann:List bN:=[.tmp 4]
def Rb:C:=(aa [a8 4 false] (.seq (aa [I 6 0,b2 7 6,I 8 1,b2 9 8,bh 10 .neq 7 9] (aS 10 (aa [a8 4 false] .ret) .skip)) (.seq (aa [bP 5 0] (.block 0 (.loop (.seq (aa [I 11 5,I 12 0,b2 13 12,bh 14 .lss 11 13] (aS 14 .skip (.exit 0))) (.seq (.block 1 (.seq (.drawn true 27 [I 17 0,I 18 5,b9 19 1 17 18,av 20 1 19,I 21 1,I 22 5,b9 23 1 21 22,av 24 1 23,bY 25 156 20 24,cn 26 25]) (aS 26 (aa [a8 4 false] .ret) .skip))) (.region [I 15 5,aT 16 .add 15 1,I 5 16])))))) (aa [a8 4 true] .ret))))
@[simp] def ano:List bN:=[.tmp 4]
def Rj:C:=(aa [a8 4 false] (.seq (aa [I 6 0,b2 7 6,I 8 1,b2 9 8,bh 10 .neq 7 9] (aS 10 (aa [a8 4 false] .ret) .skip)) (.seq (aa [bP 5 0] (.block 0 (.loop (.seq (aa [I 11 5,I 12 0,b2 13 12,bh 14 .lss 11 13] (aS 14 .skip (.exit 0))) (.seq (.block 1 (.seq (.drawn true 27 [I 17 0,I 18 5,b9 19 2 17 18,a1 20 2 19,I 21 1,I 22 5,b9 23 2 21 22,a1 24 2 23,bY 25 227 20 24,cn 26 25]) (aS 26 (aa [a8 4 false] .ret) .skip))) (.region [I 15 5,aT 16 .add 15 1,I 5 16])))))) (aa [a8 4 true] .ret))))
@[simp] def anv:List bN:=[.tmp 4]
def Re:C:=(aa [a8 4 false] (.seq (aa [I 6 0,b2 7 6,I 8 1,b2 9 8,bh 10 .neq 7 9] (aS 10 (aa [a8 4 false] .ret) .skip)) (.seq (aa [bP 5 0] (.block 0 (.loop (.seq (aa [I 11 5,I 12 0,b2 13 12,bh 14 .lss 11 13] (aS 14 .skip (.exit 0))) (.seq (.block 1 (.seq (.drawn true 27 [I 17 0,I 18 5,b9 19 2 17 18,a1 20 2 19,I 21 1,I 22 5,b9 23 2 21 22,a1 24 2 23,bY 25 228 20 24,cn 26 25]) (aS 26 (aa [a8 4 false] .ret) .skip))) (.region [I 15 5,aT 16 .add 15 1,I 5 16])))))) (aa [a8 4 true] .ret))))
@[simp] def anq:List bN:=[.tmp 4]
def JN:C:=(aa [cO 2 0,bP 4 0] (aa [fi 5 1 4 2,a1 6 4 5,I 7 1,bY 8 85 6 7,I 1 8] (.seq (aa [I 9 1,aT 10 .lss 9 0] (aS 10 (aa [bP 4 (-1)] .ret) .skip)) (aa [I 11 1,I 4 11] .ret))))
@[simp] def NI:List bN:=[.tmp 4]
def FH:C:=(aa [cO 2 0,bP 4 0] (aa [I 5 1,aC 6 1 1 2,av 7 1 6,b5 8 (.slen (.t 7)),bh 9 .sub 5 8,I 1 9] (.seq (aa [I 10 1,aT 11 .lss 10 0] (aS 11 (aa [bP 4 (-1)] .ret) .skip)) (aa [I 12 1,I 4 12] .ret))))
@[simp] def anz:List bN:=[.tmp 4]
def Rl:C:=(aa [cO 1 0,c9 2 iA] (aa [c9 3 iA] (aa [aC 4 0 1 1,av 5 1 4,aC 6 0 1 3,bM 1 6 5] (aa [fi 7 1 4 1,a1 8 4 7,cE 9 87 8,fi 10 1 4 3,bM 4 10 9] (aa [a1 11 5 3,bM 5 2 11] .ret)))))
@[simp] def anG:List bN:=[.cell 2 true 5]
def Rt:C:=(aa [cO 1 0,cN (.alloc 2 none (.agg [.int .i64 0,.int .i64 0]))] (aa [cN (.alloc 3 none (.agg [.int .i64 0,.int .i64 0]))] (aa [aC 4 0 1 1,av 5 1 4,aC 6 0 1 3,bM 1 6 5] (aa [aC 7 1 1 1,av 8 1 7,aC 9 1 1 3,bM 1 9 8] (aa [a1 10 2 3,bM 2 2 10] .ret)))))
@[simp] def anO:List bN:=[.cell 2 true 2]
def Ro:C:=(aa [cO 1 0,cN (.alloc 2 none (.agg [.int .i64 0,.str []]))] (aa [cN (.alloc 3 none (.agg [.int .i64 0,.str []]))] (aa [aC 4 0 1 1,av 5 1 4,aC 6 0 1 3,bM 1 6 5] (aa [aC 7 1 1 1,av 8 1 7,aC 9 1 1 3,bM 1 9 8] (aa [a1 10 2 3,bM 2 2 10] .ret)))))
@[simp] def anJ:List bN:=[.cell 2 true 2]
def Q9:C:=(aa [cO 2 0,cO 3 1,a8 4 false] (.seq (aa [aC 5 0 1 2,av 6 1 5,aC 7 0 1 3,av 8 1 7,bh 9 .neq 6 8] (aS 9 (aa [a8 4 false] .ret) .skip)) (.seq (aa [fi 10 1 4 2,a1 11 4 10,fi 12 1 4 3,a1 13 4 12,bY 14 90 11 13,cn 15 14] (aS 15 (aa [a8 4 false] .ret) .skip)) (aa [a8 4 true] .ret))))
@[simp] def anm:List bN:=[.tmp 4]
def Ri:C:=(aa [cO 2 0,cO 3 1,a8 4 false] (.seq (aa [aC 5 0 1 2,av 6 1 5,aC 7 0 1 3,av 8 1 7,bh 9 .neq 6 8] (aS 9 (aa [a8 4 false] .ret) .skip)) (.seq (aa [aC 10 1 1 2,av 11 1 10,aC 12 1 1 3,av 13 1 12,bh 14 .neq 11 13] (aS 14 (aa [a8 4 false] .ret) .skip)) (aa [a8 4 true] .ret))))
@[simp] def anu:List bN:=[.tmp 4]
def Rc:C:=(aa [cO 2 0,cO 3 1,a8 4 false] (.seq (aa [aC 5 0 1 2,av 6 1 5,aC 7 0 1 3,av 8 1 7,bh 9 .neq 6 8] (aS 9 (aa [a8 4 false] .ret) .skip)) (.seq (aa [aC 10 1 1 2,av 11 1 10,aC 12 1 1 3,av 13 1 12,bh 14 .neq 11 13] (aS 14 (aa [a8 4 false] .ret) .skip)) (aa [a8 4 true] .ret))))
@[simp] def anp:List bN:=[.tmp 4]
def iN:List (Nat×dH):=[
 (3,⟨1,8,.int .i64,.int .i64 0⟩),
 (9,⟨1,16,.str,.str []⟩),
 (23,⟨1,24,.slice 61,.slice 5 .nil []⟩),
 (24,⟨1,24,.slice 23,.slice 1 .nil []⟩),
 (25,⟨1,24,.slice 104,.slice 2 .nil []⟩),
 (26,⟨1,24,.slice 106,.slice 2 .nil []⟩),
 (28,⟨5,104,.struct [(0,3),(1,23),(2,24),(3,25),(4,26)],.agg [.int .i64 0,.slice 5 .nil [],.slice 1 .nil [],.slice 2 .nil [],.slice 2 .nil []]⟩),
 (30,⟨1,24,.slice 32,.slice 4 .nil []⟩),
 (32,⟨4,56,.struct [(0,3),(1,3),(2,9),(3,30)],.agg [.int .i64 0,.int .i64 0,.str [],.slice 4 .nil []]⟩),
 (43,⟨1,24,.slice 124,.slice 4 .nil []⟩),
 (44,⟨1,24,.slice 227,.slice 5 .nil []⟩),
 (45,⟨1,24,.slice 44,.slice 1 .nil []⟩),
 (46,⟨1,24,.slice 233,.slice 2 .nil []⟩),
 (47,⟨1,24,.slice 229,.slice 2 .nil []⟩),
 (49,⟨5,104,.struct [(0,3),(1,44),(2,45),(3,46),(4,47)],.agg [.int .i64 0,.slice 5 .nil [],.slice 1 .nil [],.slice 2 .nil [],.slice 2 .nil []]⟩),
 (61,⟨5,64,.struct [(0,3),(1,32)],.agg [.int .i64 0,.int .i64 0,.int .i64 0,.str [],.slice 4 .nil []]⟩),
 (104,⟨2,16,.struct [(0,3),(1,3)],.agg [.int .i64 0,.int .i64 0]⟩),
 (106,⟨2,24,.struct [(0,3),(1,9)],.agg [.int .i64 0,.str []]⟩),
 (124,⟨4,56,.struct [(0,3),(1,3),(2,9),(3,43)],.agg [.int .i64 0,.int .i64 0,.str [],.slice 4 .nil []]⟩),
 (227,⟨5,64,.struct [(0,3),(1,124)],.agg [.int .i64 0,.int .i64 0,.int .i64 0,.str [],.slice 4 .nil []]⟩),
 (229,⟨2,24,.struct [(0,3),(1,9)],.agg [.int .i64 0,.str []]⟩),
 (233,⟨2,16,.struct [(0,3),(1,3)],.agg [.int .i64 0,.int .i64 0]⟩)]
theorem fP:fS ak iN=true:=by kernel_rfl
theorem Xd:bU iN JR anD 2 Tryz.f32=true:=by kernel_rfl
theorem Tm:ak.funcs[(32:Nat)]? =some Tryz.f32:=Tryz.func32
theorem alO:bU iN Rs anN 1 Tryz.f34=true:=by kernel_rfl
theorem aeM:ak.funcs[(34:Nat)]? =some Tryz.f34:=Tryz.func34
theorem alD:bU iN Rh ant 2 Tryz.f36=true:=by kernel_rfl
theorem aeB:ak.funcs[(36:Nat)]? =some Tryz.f36:=Tryz.func36
theorem Ec:bU iN z1 anB 2 Tryz.f63=true:=by kernel_rfl
theorem CK:ak.funcs[(63:Nat)]? =some Tryz.f63:=Tryz.func63
theorem alM:bU iN Rq anL 1 Tryz.f67=true:=by kernel_rfl
theorem aeK:ak.funcs[(67:Nat)]? =some Tryz.f67:=Tryz.func67
theorem alB:bU iN Rf anr 2 Tryz.f72=true:=by kernel_rfl
theorem aez:ak.funcs[(72:Nat)]? =some Tryz.f72:=Tryz.func72
theorem xi:bU iN uT anC 2 Tryz.f85=true:=by kernel_rfl
theorem wu:ak.funcs[(85:Nat)]? =some Tryz.f85:=Tryz.func85
theorem alN:bU iN Rr anM 1 Tryz.f87=true:=by kernel_rfl
theorem aeL:ak.funcs[(87:Nat)]? =some Tryz.f87:=Tryz.func87
theorem alC:bU iN Rg ans 2 Tryz.f90=true:=by kernel_rfl
theorem aeA:ak.funcs[(90:Nat)]? =some Tryz.f90:=Tryz.func90
theorem Xa:bU iN JO anw 2 Tryz.f137=true:=by kernel_rfl
theorem Tj:ak.funcs[(137:Nat)]? =some Tryz.f137:=Tryz.func137
theorem Xb:bU iN JP anx 2 Tryz.f138=true:=by kernel_rfl
theorem Tk:ak.funcs[(138:Nat)]? =some Tryz.f138:=Tryz.func138
theorem Nb:bU iN FI anE 2 Tryz.f139=true:=by kernel_rfl
theorem KA:ak.funcs[(139:Nat)]? =some Tryz.f139:=Tryz.func139
theorem Xc:bU iN JQ anA 2 Tryz.f140=true:=by kernel_rfl
theorem Tl:ak.funcs[(140:Nat)]? =some Tryz.f140:=Tryz.func140
theorem alI:bU iN Rm anH 1 Tryz.f149=true:=by kernel_rfl
theorem aeG:ak.funcs[(149:Nat)]? =some Tryz.f149:=Tryz.func149
theorem alJ:bU iN Rn anI 1 Tryz.f150=true:=by kernel_rfl
theorem aeH:ak.funcs[(150:Nat)]? =some Tryz.f150:=Tryz.func150
theorem alQ:bU iN Ru anP 1 Tryz.f151=true:=by kernel_rfl
theorem aeO:ak.funcs[(151:Nat)]? =some Tryz.f151:=Tryz.func151
theorem alL:bU iN Rp anK 1 Tryz.f152=true:=by kernel_rfl
theorem aeJ:ak.funcs[(152:Nat)]? =some Tryz.f152:=Tryz.func152
theorem alx:bU iN Ra ann 2 Tryz.f156=true:=by kernel_rfl
theorem aev:ak.funcs[(156:Nat)]? =some Tryz.f156:=Tryz.func156
theorem aly:bU iN Rb ano 2 Tryz.f157=true:=by kernel_rfl
theorem aew:ak.funcs[(157:Nat)]? =some Tryz.f157:=Tryz.func157
theorem alF:bU iN Rj anv 2 Tryz.f158=true:=by kernel_rfl
theorem aeD:ak.funcs[(158:Nat)]? =some Tryz.f158:=Tryz.func158
theorem alA:bU iN Re anq 2 Tryz.f159=true:=by kernel_rfl
theorem aey:ak.funcs[(159:Nat)]? =some Tryz.f159:=Tryz.func159
theorem W9:bU iN JN NI 2 Tryz.f213=true:=by kernel_rfl
theorem Ti:ak.funcs[(213:Nat)]? =some Tryz.f213:=Tryz.func213
theorem Na:bU iN FH anz 2 Tryz.f214=true:=by kernel_rfl
theorem Kz:ak.funcs[(214:Nat)]? =some Tryz.f214:=Tryz.func214
theorem alH:bU iN Rl anG 1 Tryz.f222=true:=by kernel_rfl
theorem aeF:ak.funcs[(222:Nat)]? =some Tryz.f222:=Tryz.func222
theorem alP:bU iN Rt anO 1 Tryz.f223=true:=by kernel_rfl
theorem aeN:ak.funcs[(223:Nat)]? =some Tryz.f223:=Tryz.func223
theorem alK:bU iN Ro anJ 1 Tryz.f224=true:=by kernel_rfl
theorem aeI:ak.funcs[(224:Nat)]? =some Tryz.f224:=Tryz.func224
theorem alw:bU iN Q9 anm 2 Tryz.f226=true:=by kernel_rfl
theorem aeu:ak.funcs[(226:Nat)]? =some Tryz.f226:=Tryz.func226
theorem alE:bU iN Ri anu 2 Tryz.f227=true:=by kernel_rfl
theorem aeC:ak.funcs[(227:Nat)]? =some Tryz.f227:=Tryz.func227
theorem alz:bU iN Rc anp 2 Tryz.f228=true:=by kernel_rfl
theorem aex:ak.funcs[(228:Nat)]? =some Tryz.f228:=Tryz.func228
def iB{α:Type}(f:α->ai)(z:ai)(l:List α)(i:Nat):List ai:=(l.take i).map f++rP (l.length-i) z
theorem pb{α:Type}(f:α->ai)(z:ai)(l:List α):iB f z l 0=rP l.length z:=by simp[iB]
theorem D0{α:Type}(f:α->ai)(z:ai)(l:List α):iB f z l l.length=l.map f:=by simp[iB]
theorem D1{α:Type}(f:α->ai)(z:ai)(l:List α){i:Nat}(hi:i<l.length):(iB f z l i)[i]? =some z:=by
 unfold iB;have h:((l.take i).map f).length=i:=by simp;omega
 rw[List.getElem?_append_right Ω,h,Nat.sub_self,List.getElem?_replicate,if_pos Ω]
theorem D2{α:Type}(f:α->ai)(z:ai)(l:List α){i:Nat}{x:α}(af:l[i]? =some x):(iB f z l i).set i (f x)=iB f z l (i+1):=by
 have hi:=(eP.1 af).1;unfold iB;have h:((l.take i).map f).length=i:=by simp;omega
 rw[List.set_append_right _ _ Ω,h,Nat.sub_self,rJ af,rO,List.append_assoc];congr 1;obtain⟨m,hm⟩:∃m,l.length-i=m+1:=⟨l.length-i-1,Ω⟩;rw[hm,show l.length-(i+1)=m from by omega,List.replicate_succ,List.set_cons_zero];rfl
theorem VR(S:aI->Prop):∀{a b:List ai},aH S (a++b)↔aH S a/\aH S b
 |[],b=>by simp[aH]
 |x::a,b=>by simp[aH,VR S (a:=a),and_assoc]
theorem VT{α:Type}(S:aI->Prop)(f:α->ai)(aJ:∀x,aD S (f x)):∀l:List α,aH S (l.map f)
 |[]=>by simp[aH]
 |x::xs=>by simp[aH,VT S f aJ xs,aJ]
theorem yW(S:aI->Prop)(z:ai)(bp:aD S z):∀n,aH S (rP n z)
 |0=>by simp[aH]
 |n+1=>by simp[List.replicate_succ,aH,yW S z bp n,bp]
theorem DP{α:Type}(S:aI->Prop)(f:α->ai)(z:ai)(l:List α)(i:Nat)(aJ:∀x,aD S (f x))(bp:aD S z):aH S (iB f z l i):=by unfold iB;rw[VR];exact⟨VT S f aJ _,yW S z bp _⟩
theorem O8(l:c0 cp)(hw:∀p n cap,l= .b p n cap->nb n)(aJ:∀xs,l= .l xs->∀x∈xs,∀m,0<=m->m<=1048576->bF ak 85 [cp.e x,.int .i64 m] (.int .i64 (h8 x m)))(m:Int)(bs:0<=m)(J:m<=1048576):bF ak 32 [l.e 4 cp.e,.int .i64 m] (.int .i64 (gQ h8 l m)):=by
 cases l with
 |b p n cap=>
  have ax:=hw p n cap rfl;simp only[nb,lim]at ax;have g:m-n<0:=Ω
  simp only[c0.e,gQ];clear hw aJ;refine be fP Tm Xd fun aK=>?_;unfold JR;exact bJ
 |l l=>
 have aJ:=aJ l rfl;clear hw;simp only[c0.e,gQ];generalize aV:oB h8 l m=R;unfold oB at aV;refine be fP Tm Xd fun aK=>?_;unfold JR;have eB:l.length<=68719476736:=by simp[ek,ec,eg,lim]at aK;omega
 simp;by_cases g:m-l.length<0
 ·rw[if_pos g]at aV;subst aV;exact bJ
 rw[if_neg g]at aV;(with_reducible repeat' first|refine aj ?_|simp[g]);refine du [0] (fun i (k:Int)=>[(1,.int .i64 k),(5,.int .i64 i)]) l.length (fun i k=>(0<=k/\k<=1048576)/\ki h8 (l.drop i) k=R) (m-l.length) bL ⟨⟨Ω,Ω⟩,by simpa using aV⟩ (fun k ae _=>?_) (fun i k hi ae _=>?_)
 ·obtain⟨_,ae⟩:=ae;rw[List.drop_length]at ae;simp only[ki]at ae;subst ae;exact bJ
 ·obtain⟨⟨fv,aU⟩,ae⟩:=ae;obtain⟨x,af,cJ⟩:=dB hi;have key:=aJ x (dE af) k fv aU;have hle:=vW x k fv;rw[tX af]at ae;simp only[ki]at ae;generalize h8 x k=q at key hle ae;clear af;by_cases bm:q<0
  ·rw[if_pos bm]at ae;subst ae;exact bJ
  ·rw[if_neg bm]at ae;simp[hi,cJ];((with_reducible repeat' first|refine aj ?_|refine aF key ?_|refine aG key ?_|simp[hi,cJ,bm]|((first|apply bS|apply bW|apply bV)<;>intro h<;>try simp at h))<;>(try exact cy));all_goals exact bO.rng q hi ⟨⟨Ω,Ω⟩,ae⟩ bL
theorem aaf(l:List bI)(aJ:∀x∈l,bF ak 87 [enc x] (enc x)):bF ak 34 [.slice 4 .no (l.map enc)] (.slice 4 .no (l.map enc)):=by
 refine be fP aeM alO fun aK=>?_;unfold Rs;have eB:l.length<=68719476736:=by simp[ek,ec,eg,lim]at aK;omega
 simp;all_goals first|(refine⟨by unfold lim;omega,?_⟩)|skip
 (with_reducible repeat' first|refine aj ?_|simp);have fo:∀(S:aI->Prop) (n:Nat),aH S (rP n (.agg [.int .i64 0,.int .i64 0,.str [],.slice 4 .nil []]))=True:=fun S n=>eq_true (yW S _ (by simp[aD,aH]) n);refine gT (fun i (_:Unit)=>⟨[(0,.slice 4 .no (l.map enc)),(3,.row 4 (.loc 0) l.length),(4,.int .i64 i)],[],[(.loc 0,⟨l.length,32,4,some (iB enc (.agg [.int .i64 0,.int .i64 0,.str [],.slice 4 .nil []]) l i)⟩)],1,[]⟩) l.length (fun _ _=>True) () ⟨by simp[fresh,aH,aD,b7,inObs,Pv.look,pb,fo],ee (by simp[fresh,aH,aD,b7,inObs,Pv.look,pb,fo]),ef (by simp[fresh,aH,aD,dW,inObs,Pv.look,pb,fo]),Ψ⟩ trivial (fun _ _ _=>?_) (fun i _ hi _ _=>?_)
 ·rw[D0];exact bJ
 ·obtain⟨x,af,cJ⟩:=dB hi;have key:=aJ x (dE af);have al:=D1 enc (.agg [.int .i64 0,.int .i64 0,.str [],.slice 4 .nil []]) l hi;have aE:=D2 enc (.agg [.int .i64 0,.int .i64 0,.str [],.slice 4 .nil []]) l af;have bn:∀S:aI->Prop,aH S (iB enc (.agg [.int .i64 0,.int .i64 0,.str [],.slice 4 .nil []]) l (i+1)):=fun S=>DP S _ _ _ _ (fun x=>by simp) (by simp[aD,aH]);generalize iB enc (.agg [.int .i64 0,.int .i64 0,.str [],.slice 4 .nil []]) l i=r0 at al aE;generalize p0:iB enc (.agg [.int .i64 0,.int .i64 0,.str [],.slice 4 .nil []]) l (i+1)=dy at aE bn;clear af;simp[hi,cJ];(with_reducible repeat' first|refine aj ?_|refine aF key ?_|refine aG key ?_|simp[hi,cJ,al,aE]);all_goals refine bO.rng () hi trivial ?_
  all_goals rw[p0]
  all_goals first
   |exact⟨by simp[fresh,aH,aD,b7,inObs,Pv.look,bn],ee (by simp[fresh,aH,aD,b7,inObs,Pv.look,bn]),ef (by simp[fresh,aH,aD,dW,inObs,Pv.look,bn]),Ψ⟩
   |exact⟨by simp[fresh,aH,aD,b7,inObs,Pv.look,bn],ee (by simp[fresh,aH,aD,b7,inObs,Pv.look,bn]),ef (by simp[fresh,aH,aD,dW,inObs,Pv.look,bn];exact aE),Ψ⟩
theorem ZO(l:List bI)(aJ:∀x∈l,bF ak 90 [enc x,enc x] (.bool true)):bF ak 36 [.slice 4 .no (l.map enc),.slice 4 .no (l.map enc)] (.bool true):=by
 refine be fP aeB alD fun aK=>?_;unfold Rh;have eB:l.length<=68719476736:=by simp[ek,ec,eg,lim]at aK;omega
 simp;(with_reducible repeat' first|refine aj ?_|simp);refine du [0,1] (fun i (_:Unit)=>[(5,.int .i64 i)]) l.length (fun _ _=>True) () bL trivial (fun _ _ _=>?_) (fun i _ hi _ _=>?_)
 ·exact bJ
 ·obtain⟨x,af,cJ⟩:=dB hi;have key:=aJ x (dE af);clear af;exact fO
theorem Z9(t:cp)(hw:t.wf):∀m:Int,0<=m->m<=1048576->bF ak 85 [t.e,.int .i64 m] (.int .i64 (h8 t m)):=by
 suffices H:∀(k:Nat) (t:cp),t.sz<=k->t.wf->∀m:Int,0<=m->m<=1048576->bF ak 85 [t.e,.int .i64 m] (.int .i64 (h8 t m))from H _ t (e7 _) hw
 intro k;clear hw t;induction k with
 |zero=>intro t aN;cases t<;>simp[cp.sz]at aN
 |succ k bR=>
  intro t aN hw m bs J;cases t with
  |mk uv uw s a=>
   simp only[cp.wf,cp.wfL_iff]at hw;obtain⟨Dy,C5⟩:=hw;have kH:m-s.len<0->h8 (.mk uv uw s a) m= -1:=fun g=>by rw[IF];exact if_pos g
   have ij:¬m-s.len<0->h8 (.mk uv uw s a) m=gQ h8 (.l a) (m-s.len):=fun g=>by rw[IF];exact if_neg g
   generalize h8 (.mk uv uw s a) m=R at kH ij;have Dn:=s.len_nn;have key:=fun h=>O8 (.l a) (fun p n c e=>by cases e) (fun xs e x af=>by cases e;exact bR x (by have:=cp.szL_mem af;simp only[cp.sz]at aN;omega) (C5 x af)) (m-s.len) h Ω;have hle:=fun h=>uo vW (.l a) (m-s.len) h;simp only[cp.e,cp.eL_map];simp only[c0.e]at key;clear aN C5;cases s with
   |b x=>
    simp only[ho.wf,nb,lim]at Dy;have g:m-x.size<0:=Ω
    have aV:=kH g;subst aV;clear kH ij;clear key hle bR;simp only[ho.e];refine be fP wu xi fun aK=>?_;unfold uT;exact bJ
   |s l=>
    simp only[ho.len]at kH ij key hle;simp only[ho.e];by_cases g:m-l.length<0
    ·have aV:=kH g;subst aV;clear kH ij;clear key hle bR;refine be fP wu xi fun aK=>?_;unfold uT;have eB:l.length<=68719476736:=by simp[ek,ec,eg,lim]at aK;omega
     exact bJ
    ·have aV:=ij g;clear kH ij;have key:=key Ω;have hle:=hle Ω;rw[<-aV]at key hle;clear aV bR;by_cases bm:R<0
     ·have:R= -1:=Ω
      subst this;refine be fP wu xi fun aK=>?_;unfold uT;have eB:l.length<=68719476736:=by simp[ek,ec,eg,lim]at aK;omega
      exact bJ
     ·refine be fP wu xi fun aK=>?_;unfold uT;have eB:l.length<=68719476736:=by simp[ek,ec,eg,lim]at aK;omega
      exact bJ
  |big uv uw s p n c=>
   simp only[cp.wf]at hw;obtain⟨Dy,C5⟩:=hw;have kH:m-s.len<0->h8 (.big uv uw s p n c) m= -1:=fun g=>by rw[IF];exact if_pos g
   have ij:¬m-s.len<0->h8 (.big uv uw s p n c) m=gQ h8 (.b p n c) (m-s.len):=fun g=>by rw[IF];exact if_neg g
   generalize h8 (.big uv uw s p n c) m=R at kH ij;have Dn:=s.len_nn;have key:=fun h=>O8 (.b p n c) (fun p n c e=>by cases e;exact C5) (fun xs e=>by cases e) (m-s.len) h Ω;have hle:=fun h=>uo vW (.b p n c) (m-s.len) h;simp only[cp.e];simp only[c0.e]at key;clear aN C5;cases s with
   |b x=>
    simp only[ho.wf,nb,lim]at Dy;have g:m-x.size<0:=Ω
    have aV:=kH g;subst aV;clear kH ij;clear key hle bR;simp only[ho.e];refine be fP wu xi fun aK=>?_;unfold uT;exact bJ
   |s l=>
    simp only[ho.len]at kH ij key hle;simp only[ho.e];by_cases g:m-l.length<0
    ·have aV:=kH g;subst aV;clear kH ij;clear key hle bR;refine be fP wu xi fun aK=>?_;unfold uT;have eB:l.length<=68719476736:=by simp[ek,ec,eg,lim]at aK;omega
     exact bJ
    ·have aV:=ij g;clear kH ij;have key:=key Ω;have hle:=hle Ω;rw[<-aV]at key hle;clear aV bR;by_cases bm:R<0
     ·have:R= -1:=Ω
      subst this;refine be fP wu xi fun aK=>?_;unfold uT;have eB:l.length<=68719476736:=by simp[ek,ec,eg,lim]at aK;omega
      exact bJ
     ·refine be fP wu xi fun aK=>?_;unfold uT;have eB:l.length<=68719476736:=by simp[ek,ec,eg,lim]at aK;omega
      exact bJ
theorem aae(t:bI):bF ak 87 [enc t] (enc t):=by
 suffices H:∀(k:Nat) (t:bI),t.sz<=k->bF ak 87 [enc t] (enc t)from H _ t (e7 _)
 intro k;induction k with
 |zero=>intro t aN;cases t;simp[bI.sz]at aN
 |succ k bR=>intro t aN;have key:=aaf t.args (fun x af=>bR x (by have:=OM af;omega));clear bR;refine be fP aeL alN fun aK=>?_;unfold Rr;exact bJ
theorem ZN(t:bI):bF ak 90 [enc t,enc t] (.bool true):=by
 suffices H:∀(k:Nat) (t:bI),t.sz<=k->bF ak 90 [enc t,enc t] (.bool true)from H _ t (e7 _)
 intro k;induction k with
 |zero=>intro t aN;cases t;simp[bI.sz]at aN
 |succ k bR=>intro t aN;have key:=ZO t.args (fun x af=>bR x (by have:=OM af;omega));clear bR;refine be fP aeA alC fun aK=>?_;unfold Rg;exact bJ
end
end Go.Proofs.YtohaalphocaebaaGreat
