/- The laws' copying, counting and comparing of data. -/
import Derived.Test.YtohaalphocaebaaGreatProg
import Derived.Lib.OwnBridge
import Derived.Shelf.GgSortMore.Stable
import Derived.Shelf.GgSortFunc.SmallK
import Derived.Shelf.GgSortFunc.Slice
import Derived.Ground.GgsProg
import Derived.ProofKit
import Derived.Carry
import Derived.WalkKit
import Derived.Deep.Slices
import Derived.Test.YtohaalphocaebaaGreatH3
set_option linter.all false
set_option maxHeartbeats 4000000
set_option maxRecDepth 4000
open Array renaming getElem?_toList->uG
open BitVec renaming ofInt->qX
open Bool renaming eq_iff_iff->qY,false_eq_true->ho,or_eq_true->lu
open Go renaming Program->cI,TypeId->gu
open Go.DataW renaming trod->iC
open Go.Extern.ReflectliteSwapper renaming swap->Cw,swapper->awc
open Go.Extern.ReflectliteValue renaming len->awd,method->awe,unpack->arM,valueError->arN
open Go.Extern.Rtype renaming kind->aa8
open Go.IntKind renaming bits->oU,signed->th,u64->hI,wrap->ti
open Go.IntWalk renaming i64_in->pN
open Go.Proofs.Tryz renaming prog->al
open Go.Value renaming cells->pP
open List renaming cons_append->bW,drop_eq_getElem_cons->lR,getElem?_eq_getElem->b6,getElem?_eq_some_iff->eV,getElem?_map->tk,getElem_of_mem->og,length_append->pQ,length_cons->oX,length_map->oh,map_append->rT,map_cons->gM,map_nil->mN,mem_cons->fT,mem_cons_of_mem->oY,mem_of_getElem?->dV,nil_append->b9,pairwise_iff_getElem->qo,replicate->rU,take_length->je,take_of_length_le->hY,take_succ->lS
open List.cons renaming injEq->oW
open Nat renaming add_mul->qp,le_refl->fc,le_trans->kJ
open Ne renaming symm->lv
open Option renaming bind_eq_some_iff->kK,isSome_none->jN,map_eq_some_iff->hf,map_some->o0
open Option.some renaming injEq->ea
open Prod.mk renaming injEq->jO
open _root_ renaming False->e8,UInt8->dw,beq_iff_eq->eb,congrArg->fh,decide_eq_false->hQ,decide_eq_false_iff_not->fC,decide_eq_true->gN,decide_eq_true_eq->eW
namespace Go.Proofs.YtohaalphocaebaaGreat
section
open Go Go.Pv
def Sd:C:=(aa [bS 2 0] (.seq (.cond (.c (.bool false)) (aa [I 3 0,b5 4 (.conv .u32 (.t 3)),cB 5 258 4,I 2 5] .ret) .skip) (aa [I 6 0,cB 7 259 6,I 2 7] .ret)))
@[simp] def aor:List bO:=[.tmp 2]
def Kn:C:=(aa [aY 91 2 4,I 92 1,I 93 2,I 94 11,dn 95 267 [.t 91,.t 92,.t 93,.t 94],I 90 95,cr 96 0 90,cr 97 1 90,I 14 96,I 15 97] (aa [I 98 15,I 9 98] (aa [I 99 14,I 100 1,bk 101 .sub 99 100,I 102 2,I 103 14,bk 104 .sub 102 103,I 16 101,I 17 104] (aa [I 105 10,aV 106 .quo 105 8,I 18 106] (aa [I 107 16,I 108 17,bk 109 .lss 107 108] (aT 109 (aa [I 110 16,I 111 18,bk 112 .geq 110 111,I 8 112] (aa [aY 113 2 4,I 114 1,I 115 14,I 116 3,dn 117 210 [.t 113,.t 114,.t 115,.t 116]] (.region [I 118 14,aV 119 .add 118 1,I 1 119]))) (aa [I 120 17,I 121 18,bk 122 .geq 120 121,I 8 122] (aa [aY 123 2 4,I 124 14,aV 125 .add 124 1,I 126 2,I 127 3,dn 128 210 [.t 123,.t 125,.t 126,.t 127]] (.region [I 129 14,I 2 129])))))))))
def CO:C:=(.seq (aa [I 73 1,aV 74 .gtr 73 0,I 75 74,aq 75 true (aE 76 0 1 4),aq 75 true (av 77 1 76),cb 75 true 78 1,aq 75 true (aV 79 .sub 78 1),cb 75 true 80 11,aq 75 true (hd 81 77 [.t 79,.t 80]),aq 75 true (cj 82 81),dL 83 75 82] (aT 83 (aa [aY 84 2 4,I 85 1,I 86 2,I 87 11,dn 88 266 [.t 84,.t 85,.t 86,.t 87],I 13 88] (aa [I 89 13,I 1 89] (.exit 1))) .skip)) Kn)
def Ko:C:=(.seq (aa [I 61 8,I 62 61,cb 62 true 63 9,dL 64 62 63,I 65 64,cb 65 true 66 12,aq 65 true (aV 67 .eql 66 1),dL 68 65 67] (aT 68 (aa [aY 69 2 4,I 70 1,I 71 2,dn 72 265 [.t 69,.t 70,.t 71]] (aT 72 .ret .skip)) .skip)) CO)
def Kp:C:=(aa [aY 43 2 4,I 44 1,I 45 2,dn 46 263 [.t 43,.t 44,.t 45],I 42 46,cr 47 0 42,cr 48 1 42,I 11 47,I 12 48] (.seq (aa [I 49 12,aV 50 .eql 49 2] (aT 50 (aa [aY 51 2 4,I 52 1,I 53 2,dn 54 264 [.t 51,.t 52,.t 53]] (aa [I 55 2,aV 56 .sub 55 1,I 57 11,I 58 1,bk 59 .sub 57 58,bk 60 .sub 56 59,I 11 60] (.region [bS 12 1]))) .skip)) Ko))
def Sr:C:=(aa [cC 4 0] (aa [a8 8 true] (aa [a8 9 true] (.block 0 (.loop (.block 1 (aa [I 19 2,I 20 1,bk 21 .sub 19 20,I 10 21] (.seq (aa [I 22 10,aV 23 .leq 22 12] (aT 23 (aa [aY 24 2 4,I 25 1,I 26 2,dn 27 260 [.t 24,.t 25,.t 26]] .ret) .skip)) (.seq (aa [I 28 3,aV 29 .eql 28 0] (aT 29 (aa [aY 30 2 4,I 31 1,I 32 2,dn 33 261 [.t 30,.t 31,.t 32]] .ret) .skip)) (.seq (aa [I 34 8,cj 35 34] (aT 35 (aa [aY 36 2 4,I 37 1,I 38 2,dn 39 262 [.t 36,.t 37,.t 38]] (.region [I 40 3,aV 41 .sub 40 1,I 3 41])) .skip)) Kp))))))))))
@[simp] def YO:List bO:=[]
def Se:C:=(aa [bS 2 0] (.seq (aa [I 3 0,b5 4 (.bin .geq false (.t 3) (.c (.int .u64 4294967296)))] (aT 4 (aa [I 5 0,b5 6 (.bin .shr false (.t 5) (.c (.int .u64 32))),I 0 6] (.region [bS 2 32])) .skip)) (.seq (aa [I 7 0,b5 8 (.bin .geq false (.t 7) (.c (.int .u64 65536)))] (aT 8 (aa [I 9 0,b5 10 (.bin .shr false (.t 9) (.c (.int .u64 16))),I 0 10] (.region [I 11 2,aV 12 .add 11 16,I 2 12])) .skip)) (.seq (aa [I 13 0,b5 14 (.bin .geq false (.t 13) (.c (.int .u64 256)))] (aT 14 (aa [I 15 0,b5 16 (.bin .shr false (.t 15) (.c (.int .u64 8))),I 0 16] (.region [I 17 2,aV 18 .add 17 8,I 2 18])) .skip)) (aa [I 19 2,I 20 0,b5 21 (.conv .u8 (.t 20)),b5 22 (.sidx (.c (.str [0,1,2,2,3,3,3,3,4,4,4,4,4,4,4,4,5,5,5,5,5,5,5,5,5,5,5,5,5,5,5,5,6,6,6,6,6,6,6,6,6,6,6,6,6,6,6,6,6,6,6,6,6,6,6,6,6,6,6,6,6,6,6,6,7,7,7,7,7,7,7,7,7,7,7,7,7,7,7,7,7,7,7,7,7,7,7,7,7,7,7,7,7,7,7,7,7,7,7,7,7,7,7,7,7,7,7,7,7,7,7,7,7,7,7,7,7,7,7,7,7,7,7,7,7,7,7,7,8,8,8,8,8,8,8,8,8,8,8,8,8,8,8,8,8,8,8,8,8,8,8,8,8,8,8,8,8,8,8,8,8,8,8,8,8,8,8,8,8,8,8,8,8,8,8,8,8,8,8,8,8,8,8,8,8,8,8,8,8,8,8,8,8,8,8,8,8,8,8,8,8,8,8,8,8,8,8,8,8,8,8,8,8,8,8,8,8,8,8,8,8,8,8,8,8,8,8,8,8,8,8,8,8,8,8,8,8,8,8,8,8,8,8,8,8,8,8,8,8,8,8,8,8,8,8,8])) (.t 21)),b5 23 (.conv .i64 (.t 22)),bk 24 .add 19 23,I 2 24] .ret)))))
@[simp] def B0:List bO:=[.tmp 2]
def Si:C:=(aa [cC 3 0] (aa [I 11 1,I 6 11] (aa [bS 7 0] (aa [I 12 2,I 13 1,bk 14 .sub 12 13,I 8 14] (.seq (aa [I 15 8,aV 16 .sub 15 1,aV 17 .quo 16 2,I 9 17] (.block 0 (.loop (.seq (aa [I 18 9,aV 19 .geq 18 0] (aT 19 .skip (.exit 0))) (.seq (.block 1 (.region [aY 22 2 3,I 23 9,I 24 8,I 25 6,dn 26 278 [.t 22,.t 23,.t 24,.t 25]])) (.region [I 20 9,aV 21 .sub 20 1,I 9 21])))))) (aa [I 27 8,aV 28 .sub 27 1,I 10 28] (.block 2 (.loop (.seq (aa [I 29 10,aV 30 .geq 29 0] (aT 30 .skip (.exit 2))) (.seq (.block 3 (aa [aE 33 1 1 3,av 34 1 33,I 35 6,I 36 6,I 37 10,bk 38 .add 36 37,hd 39 34 [.t 35,.t 38]] (.region [aY 40 2 3,I 41 7,I 42 10,I 43 6,dn 44 278 [.t 40,.t 41,.t 42,.t 43]]))) (.region [I 31 10,aV 32 .sub 31 1,I 10 32])))))))))))
@[simp] def aos:List bO:=[]
def Sg:C:=(aa [cC 3 0] (aa [I 11 2,I 12 1,bk 13 .sub 11 12,I 6 13] (aa [I 14 6,aV 15 .geq 14 8] (aT 15 (aa [I 16 6,b5 17 (.conv .u64 (.t 16)),cP (.alloc 7 (some 902) (.int .u64 0)),bB 1 7 17] (aa [I 18 6,cB 19 279 18,I 8 19] (aa [I 20 1,I 21 6,aV 22 .quo 21 4,aV 23 .mul 22 2,bk 24 .add 20 23,aV 25 .sub 24 1,I 9 25] (.block 0 (.loop (.seq (aa [I 26 9,I 27 1,I 28 6,aV 29 .quo 28 4,aV 30 .mul 29 2,bk 31 .add 27 30,aV 32 .add 31 1,bk 33 .leq 26 32] (aT 33 .skip (.exit 0))) (.seq (.block 1 (aa [cB 36 280 7,I 37 8,b5 38 (.bin .sub true (.t 37) (.c (.int .u64 1))),bk 39 .and 36 38,b5 40 (.conv .i64 (.t 39)),I 10 40] (.seq (aa [I 41 10,I 42 6,bk 43 .geq 41 42] (aT 43 (.region [I 44 10,I 45 6,bk 46 .sub 44 45,I 10 46]) .skip)) (.region [aE 47 1 1 3,av 48 1 47,I 49 9,I 50 1,I 51 10,bk 52 .add 50 51,hd 53 48 [.t 49,.t 52]])))) (.region [I 34 9,aV 35 .add 34 1,I 9 35])))))))) .skip))))
@[simp] def YK:List bO:=[]
def Sh:C:=(aa [cC 3 0,bS 6 0,bS 7 0] (aa [I 13 2,I 14 1,bk 15 .sub 13 14,I 8 15] (aa [cP (.alloc 9 (some 901) (.int .i64 0))] (aa [I 16 1,I 17 8,aV 18 .quo 17 4,aV 19 .mul 18 1,bk 20 .add 16 19,I 10 20] (aa [I 21 1,I 22 8,aV 23 .quo 22 4,aV 24 .mul 23 2,bk 25 .add 21 24,I 11 25] (aa [I 26 1,I 27 8,aV 28 .quo 27 4,aV 29 .mul 28 3,bk 30 .add 26 29,I 12 30] (.seq (aa [I 31 8,aV 32 .geq 31 8] (aT 32 (.seq (aa [I 33 8,aV 34 .geq 33 50] (aT 34 (aa [aY 35 2 3,I 36 10,dn 37 281 [.t 35,.t 36,.t 9],I 10 37] (aa [aY 38 2 3,I 39 11,dn 40 281 [.t 38,.t 39,.t 9],I 11 40] (.region [aY 41 2 3,I 42 12,dn 43 281 [.t 41,.t 42,.t 9],I 12 43]))) .skip)) (.region [aY 44 2 3,I 45 10,I 46 11,I 47 12,dn 48 282 [.t 44,.t 45,.t 46,.t 47,.t 9],I 11 48])) .skip)) (aa [av 49 1 9] (.block 0 (aa [aV 52 .eql 49 0,I 51 52] (aT 51 (aa [I 53 11,I 6 53,bS 7 1] .ret) (aa [aV 55 .eql 49 12,I 54 55] (aT 54 (aa [I 56 11,I 6 56,bS 7 2] .ret) (aa [I 50 11,I 6 50,bS 7 0] .ret))))))))))))))
@[simp] def Ov:List bO:=[.tmp 6,.tmp 7]
def Ss:C:=(aa [cC 3 0] (aa [I 8 1,I 6 8] (aa [I 9 2,aV 10 .sub 9 1,I 7 10] (.block 0 (.loop (.seq (aa [I 11 6,I 12 7,bk 13 .lss 11 12] (aT 13 .skip (.exit 0))) (.block 1 (aa [aE 14 1 1 3,av 15 1 14,I 16 6,I 17 7,hd 18 15 [.t 16,.t 17]] (aa [I 19 6,aV 20 .add 19 1,I 6 20] (.region [I 21 7,aV 22 .sub 21 1,I 7 22]))))))))))
@[simp] def aou:List bO:=[]
def Sn:C:=(aa [cC 3 0,a8 6 false] (aa [I 11 1,aV 12 .add 11 1,I 7 12] (.seq (aa [bS 8 0] (.block 0 (.loop (.seq (aa [I 13 8,aV 14 .lss 13 5] (aT 14 .skip (.exit 0))) (.seq (.block 1 (.seq (.block 2 (.loop (.seq (aa [I 17 7,I 18 2,bk 19 .lss 17 18,I 20 19,aq 20 true (aE 21 0 1 3),aq 20 true (av 22 1 21),cb 20 true 23 7,cb 20 true 24 7,aq 20 true (aV 25 .sub 24 1),aq 20 true (hd 26 22 [.t 23,.t 25]),aq 20 true (cj 27 26),dL 28 20 27] (aT 28 .skip (.exit 2))) (.block 3 (.region [I 29 7,aV 30 .add 29 1,I 7 30]))))) (.seq (aa [I 31 7,I 32 2,bk 33 .eql 31 32] (aT 33 (aa [a8 6 true] .ret) .skip)) (.seq (aa [I 34 2,I 35 1,bk 36 .sub 34 35,aV 37 .lss 36 50] (aT 37 (aa [a8 6 false] .ret) .skip)) (aa [aE 38 1 1 3,av 39 1 38,I 40 7,I 41 7,aV 42 .sub 41 1,hd 43 39 [.t 40,.t 42]] (.seq (aa [I 44 7,I 45 1,bk 46 .sub 44 45,aV 47 .geq 46 2] (aT 47 (aa [I 48 7,aV 49 .sub 48 1,I 9 49] (.block 4 (.loop (.seq (aa [I 50 9,aV 51 .geq 50 1] (aT 51 .skip (.exit 4))) (.seq (.block 5 (.seq (aa [aE 54 0 1 3,av 55 1 54,I 56 9,I 57 9,aV 58 .sub 57 1,hd 59 55 [.t 56,.t 58],cj 60 59] (aT 60 (.exit 4) .skip)) (.region [aE 61 1 1 3,av 62 1 61,I 63 9,I 64 9,aV 65 .sub 64 1,hd 66 62 [.t 63,.t 65]]))) (.region [I 52 9,aV 53 .sub 52 1,I 9 53])))))) .skip)) (aa [I 67 2,I 68 7,bk 69 .sub 67 68,aV 70 .geq 69 2] (aT 70 (aa [I 71 7,aV 72 .add 71 1,I 10 72] (.block 6 (.loop (.seq (aa [I 73 10,I 74 2,bk 75 .lss 73 74] (aT 75 .skip (.exit 6))) (.seq (.block 7 (.seq (aa [aE 78 0 1 3,av 79 1 78,I 80 10,I 81 10,aV 82 .sub 81 1,hd 83 79 [.t 80,.t 82],cj 84 83] (aT 84 (.exit 6) .skip)) (.region [aE 85 1 1 3,av 86 1 85,I 87 10,I 88 10,aV 89 .sub 88 1,hd 90 86 [.t 87,.t 89]]))) (.region [I 76 10,aV 77 .add 76 1,I 10 77])))))) .skip)))))))) (.region [I 15 8,aV 16 .add 15 1,I 8 16])))))) (aa [a8 6 false] .ret))))
@[simp] def Ir:List bO:=[.tmp 6]
def Sp:C:=(aa [cC 4 0,bS 8 0] (aa [aE 11 1 1 4,av 12 1 11,I 13 1,I 14 3,hd 15 12 [.t 13,.t 14]] (aa [I 16 1,aV 17 .add 16 1,I 18 2,aV 19 .sub 18 1,I 9 17,I 10 19] (.seq (.block 0 (.loop (.block 1 (.seq (.block 2 (.loop (.seq (aa [I 20 9,I 21 10,bk 22 .leq 20 21,I 23 22,aq 23 true (aE 24 0 1 4),aq 23 true (av 25 1 24),cb 23 true 26 1,cb 23 true 27 9,aq 23 true (hd 28 25 [.t 26,.t 27]),aq 23 true (cj 29 28),dL 30 23 29] (aT 30 .skip (.exit 2))) (.block 3 (.region [I 31 9,aV 32 .add 31 1,I 9 32]))))) (.seq (.block 4 (.loop (.seq (aa [I 33 9,I 34 10,bk 35 .leq 33 34,I 36 35,aq 36 true (aE 37 0 1 4),aq 36 true (av 38 1 37),cb 36 true 39 1,cb 36 true 40 10,aq 36 true (hd 41 38 [.t 39,.t 40]),dL 42 36 41] (aT 42 .skip (.exit 4))) (.block 5 (.region [I 43 10,aV 44 .sub 43 1,I 10 44]))))) (.seq (aa [I 45 9,I 46 10,bk 47 .gtr 45 46] (aT 47 (.exit 0) .skip)) (aa [aE 48 1 1 4,av 49 1 48,I 50 9,I 51 10,hd 52 49 [.t 50,.t 51]] (aa [I 53 9,aV 54 .add 53 1,I 9 54] (.region [I 55 10,aV 56 .sub 55 1,I 10 56]))))))))) (aa [I 57 9,I 8 57] .ret)))))
@[simp] def Ox:List bO:=[.tmp 8]
def Sq:C:=(aa [cC 4 0,bS 8 0,a8 9 false] (aa [aE 12 1 1 4,av 13 1 12,I 14 1,I 15 3,hd 16 13 [.t 14,.t 15]] (aa [I 17 1,aV 18 .add 17 1,I 19 2,aV 20 .sub 19 1,I 10 18,I 11 20] (.seq (.block 0 (.loop (.seq (aa [I 21 10,I 22 11,bk 23 .leq 21 22,I 24 23,aq 24 true (aE 25 0 1 4),aq 24 true (av 26 1 25),cb 24 true 27 10,cb 24 true 28 1,aq 24 true (hd 29 26 [.t 27,.t 28]),dL 30 24 29] (aT 30 .skip (.exit 0))) (.block 1 (.region [I 31 10,aV 32 .add 31 1,I 10 32]))))) (.seq (.block 2 (.loop (.seq (aa [I 33 10,I 34 11,bk 35 .leq 33 34,I 36 35,aq 36 true (aE 37 0 1 4),aq 36 true (av 38 1 37),cb 36 true 39 11,cb 36 true 40 1,aq 36 true (hd 41 38 [.t 39,.t 40]),aq 36 true (cj 42 41),dL 43 36 42] (aT 43 .skip (.exit 2))) (.block 3 (.region [I 44 11,aV 45 .sub 44 1,I 11 45]))))) (.seq (aa [I 46 10,I 47 11,bk 48 .gtr 46 47] (aT 48 (aa [aE 49 1 1 4,av 50 1 49,I 51 11,I 52 1,hd 53 50 [.t 51,.t 52]] (aa [I 54 11,I 8 54,a8 9 true] .ret)) .skip)) (aa [aE 55 1 1 4,av 56 1 55,I 57 10,I 58 11,hd 59 56 [.t 57,.t 58]] (aa [I 60 10,aV 61 .add 60 1,I 10 61] (aa [I 62 11,aV 63 .sub 62 1,I 11 63] (.seq (.block 4 (.loop (.block 5 (.seq (.block 6 (.loop (.seq (aa [I 64 10,I 65 11,bk 66 .leq 64 65,I 67 66,aq 67 true (aE 68 0 1 4),aq 67 true (av 69 1 68),cb 67 true 70 10,cb 67 true 71 1,aq 67 true (hd 72 69 [.t 70,.t 71]),dL 73 67 72] (aT 73 .skip (.exit 6))) (.block 7 (.region [I 74 10,aV 75 .add 74 1,I 10 75]))))) (.seq (.block 8 (.loop (.seq (aa [I 76 10,I 77 11,bk 78 .leq 76 77,I 79 78,aq 79 true (aE 80 0 1 4),aq 79 true (av 81 1 80),cb 79 true 82 11,cb 79 true 83 1,aq 79 true (hd 84 81 [.t 82,.t 83]),aq 79 true (cj 85 84),dL 86 79 85] (aT 86 .skip (.exit 8))) (.block 9 (.region [I 87 11,aV 88 .sub 87 1,I 11 88]))))) (.seq (aa [I 89 10,I 90 11,bk 91 .gtr 89 90] (aT 91 (.exit 4) .skip)) (aa [aE 92 1 1 4,av 93 1 92,I 94 10,I 95 11,hd 96 93 [.t 94,.t 95]] (aa [I 97 10,aV 98 .add 97 1,I 10 98] (.region [I 99 11,aV 100 .sub 99 1,I 11 100]))))))))) (aa [aE 101 1 1 4,av 102 1 101,I 103 11,I 104 1,hd 105 102 [.t 103,.t 104]] (aa [I 106 11,I 8 106,a8 9 false] .ret))))))))))))
@[simp] def EE:List bO:=[.tmp 8,.tmp 9]
def Su:C:=(aa [cC 4 0] (aa [I 10 1,I 8 10] (.block 0 (.loop (.block 1 (aa [I 11 8,b5 12 (.bin .mul false (gd 2) (.t 11)),aV 13 .add 12 1,I 9 13] (.seq (aa [I 14 9,I 15 2,bk 16 .geq 14 15] (aT 16 (.exit 0) .skip)) (.seq (aa [I 17 9,aV 18 .add 17 1,I 19 2,bk 20 .lss 18 19,I 21 20,aq 21 true (aE 22 0 1 4),aq 21 true (av 23 1 22),cb 21 true 24 3,cb 21 true 25 9,aq 21 true (bk 26 .add 24 25),cb 21 true 27 3,cb 21 true 28 9,aq 21 true (bk 29 .add 27 28),aq 21 true (aV 30 .add 29 1),aq 21 true (hd 31 23 [.t 26,.t 30]),dL 32 21 31] (aT 32 (.region [I 33 9,aV 34 .add 33 1,I 9 34]) .skip)) (.seq (aa [aE 35 0 1 4,av 36 1 35,I 37 3,I 38 8,bk 39 .add 37 38,I 40 3,I 41 9,bk 42 .add 40 41,hd 43 36 [.t 39,.t 42],cj 44 43] (aT 44 .ret .skip)) (aa [aE 45 1 1 4,av 46 1 45,I 47 3,I 48 8,bk 49 .add 47 48,I 50 3,I 51 9,bk 52 .add 50 51,hd 53 46 [.t 49,.t 52]] (.region [I 54 9,I 8 54])))))))))))
@[simp] def aow:List bO:=[]
def Sl:C:=(aa [b5 2 (.mov (.c (.int .u64 0)))] (aa [I 4 0,b5 5 (.conv .u64 (.t 4)),cB 6 209 5,b5 7 (.conv .u64 (.t 6)),I 3 7] (aa [I 8 3,b5 9 (.bin .shl false (.c (.int .u64 1)) (.t 8)),I 2 9] .ret)))
@[simp] def YN:List bO:=[.tmp 2]
def Sy:C:=(aa [b5 2 (.mov (.c (.int .u64 0)))] (.seq (.drawn true 33 [I 3 0,fK 4 3,av 5 1 4,I 6 0,fK 7 6,av 8 1 7,b5 9 (.bin .shl false (.t 8) (.c (.int .u64 13))),bk 10 .xor 5 9,fK 11 3,bB 1 11 10]) (.seq (.drawn true 33 [I 12 0,fK 13 12,av 14 1 13,I 15 0,fK 16 15,av 17 1 16,b5 18 (.bin .shr false (.t 17) (.c (.int .u64 7))),bk 19 .xor 14 18,fK 20 12,bB 1 20 19]) (.seq (.drawn true 33 [I 21 0,fK 22 21,av 23 1 22,I 24 0,fK 25 24,av 26 1 25,b5 27 (.bin .shl false (.t 26) (.c (.int .u64 17))),bk 28 .xor 23 27,fK 29 21,bB 1 29 28]) (aa [I 30 0,fK 31 30,av 32 1 31,I 2 32] .ret)))))
@[simp] def YQ:List bO:=[.tmp 2]
def Sj:C:=(aa [cC 3 0,bS 6 0] (aa [aY 7 2 3,I 8 1,aV 9 .sub 8 1,I 10 1,I 11 1,aV 12 .add 11 1,I 13 2,dn 14 282 [.t 7,.t 9,.t 10,.t 12,.t 13],I 6 14] .ret))
@[simp] def YL:List bO:=[.tmp 6]
def Sk:C:=(aa [cC 5 0,bS 10 0] (aa [aY 12 2 5,I 13 1,I 14 2,I 15 4,dn 16 285 [.t 12,.t 13,.t 14,.t 15],I 11 16,cr 17 0 11,cr 18 1 11,I 1 17,I 2 18] (aa [aY 20 2 5,I 21 2,I 22 3,I 23 4,dn 24 285 [.t 20,.t 21,.t 22,.t 23],I 19 24,cr 25 0 19,cr 26 1 19,I 2 25,I 3 26] (aa [aY 28 2 5,I 29 1,I 30 2,I 31 4,dn 32 285 [.t 28,.t 29,.t 30,.t 31],I 27 32,cr 33 0 27,cr 34 1 27,I 1 33,I 2 34] (aa [I 35 2,I 10 35] .ret)))))
@[simp] def YM:List bO:=[.tmp 10]
def Sm:C:=(aa [cC 4 0,bS 8 0,bS 9 0] (.seq (aa [aE 10 0 1 4,av 11 1 10,I 12 2,I 13 1,hd 14 11 [.t 12,.t 13]] (aT 14 (aa [I 15 3,fK 16 15,av 17 1 16,aV 18 .add 17 1,fK 19 15,bB 1 19 18] (aa [I 20 2,I 21 1,I 8 20,I 9 21] .ret)) .skip)) (aa [I 22 1,I 23 2,I 8 22,I 9 23] .ret)))
@[simp] def Ow:List bO:=[.tmp 8,.tmp 9]
def oc:List (Nat×dN):=[
 (3,⟨1,8,.int .i64,.int .i64 0⟩),
 (5,⟨1,1,.int .u8,.int .u8 0⟩),
 (9,⟨1,16,.str,.str []⟩),
 (160,⟨1,8,.other,.junk⟩),
 (163,⟨1,8,.int .u64,.int .u64 0⟩),
 (216,⟨1,8,.other,.junk⟩),
 (222,⟨2,16,.struct [(0,160),(1,216)],.agg [.junk,.junk]⟩),
 (254,⟨1,4,.int .u32,.int .u32 0⟩),
 (256,⟨1,8,.int .u64,.int .u64 0⟩),
 (265,⟨1,8,.int .u64,.int .u64 0⟩)]
theorem oQ:fY al oc=true:=by kernel_rfl
theorem amr:bZ oc Sd aor 1 Tryz.f209=true:=by kernel_rfl
theorem afr:al.funcs[(209:Nat)]? =some Tryz.f209:=Tryz.func209
theorem amF:bZ oc Sr YO 4 Tryz.f210=true:=by kernel_rfl
theorem afE:al.funcs[(210:Nat)]? =some Tryz.f210:=Tryz.func210
theorem ams:bZ oc Se B0 1 Tryz.f259=true:=by kernel_rfl
theorem afs:al.funcs[(259:Nat)]? =some Tryz.f259:=Tryz.func259
theorem amx:bZ oc Si aos 3 Tryz.f261=true:=by kernel_rfl
theorem afw:al.funcs[(261:Nat)]? =some Tryz.f261:=Tryz.func261
theorem amv:bZ oc Sg YK 3 Tryz.f262=true:=by kernel_rfl
theorem afu:al.funcs[(262:Nat)]? =some Tryz.f262:=Tryz.func262
theorem amw:bZ oc Sh Ov 3 Tryz.f263=true:=by kernel_rfl
theorem afv:al.funcs[(263:Nat)]? =some Tryz.f263:=Tryz.func263
theorem amG:bZ oc Ss aou 3 Tryz.f264=true:=by kernel_rfl
theorem afF:al.funcs[(264:Nat)]? =some Tryz.f264:=Tryz.func264
theorem amC:bZ oc Sn Ir 3 Tryz.f265=true:=by kernel_rfl
theorem afB:al.funcs[(265:Nat)]? =some Tryz.f265:=Tryz.func265
theorem amD:bZ oc Sp Ox 4 Tryz.f266=true:=by kernel_rfl
theorem afC:al.funcs[(266:Nat)]? =some Tryz.f266:=Tryz.func266
theorem amE:bZ oc Sq EE 4 Tryz.f267=true:=by kernel_rfl
theorem afD:al.funcs[(267:Nat)]? =some Tryz.f267:=Tryz.func267
theorem amI:bZ oc Su aow 4 Tryz.f278=true:=by kernel_rfl
theorem afH:al.funcs[(278:Nat)]? =some Tryz.f278:=Tryz.func278
theorem amA:bZ oc Sl YN 1 Tryz.f279=true:=by kernel_rfl
theorem afz:al.funcs[(279:Nat)]? =some Tryz.f279:=Tryz.func279
theorem amM:bZ oc Sy YQ 1 Tryz.f280=true:=by kernel_rfl
theorem afL:al.funcs[(280:Nat)]? =some Tryz.f280:=Tryz.func280
theorem amy:bZ oc Sj YL 3 Tryz.f281=true:=by kernel_rfl
theorem afx:al.funcs[(281:Nat)]? =some Tryz.f281:=Tryz.func281
theorem amz:bZ oc Sk YM 5 Tryz.f282=true:=by kernel_rfl
theorem afy:al.funcs[(282:Nat)]? =some Tryz.f282:=Tryz.func282
theorem amB:bZ oc Sm Ow 4 Tryz.f285=true:=by kernel_rfl
theorem afA:al.funcs[(285:Nat)]? =some Tryz.f285:=Tryz.func285
end
section
open Go Go.Pv
variable {α:Type} [Inhabited α] {S:List α->cL} {n g cg:Nat} {lc cc:List aj} {lt:α->α->Bool}
theorem Ux(H:fi S n g cg lc cc lt)(d:Array α)(aR:d.size=n)(lo hi first:Nat)(J:first+hi<=n)(U:2<=n)(ar:lo<=n):
  bI al 278 [e9 g cg lc cc,.int .i64 lo,.int .i64 hi,.int .i64 first] (S d.toList) fun r ah=>r= .tuple []/\∃cd,ah=S cd.toList/\cd=Sort.siftDown lt hi first lo d/\cd.size=n:=by
 have ag:=H.ok d.toList;have au:d.toList.length=n:=by simpa using aR
 have ax:∀l m,Pv.look (.loc m) (S l).b=none:=fun l=>(H.ok l).obj.1;have hu:∀l m cs,cA (.loc m) cs (S l).b=(S l).b++[(.loc m,cs)]:=fun l m cs=>kg (ax l m);have ay:∀m,aI.loc m∉c2 (S d.toList):=j9 ag.obj;have hle:=H.le;refine bI.mk mixed oQ afH amI Ψ ag.obj fun aM cR=>?_;unfold Su;simp[e9,hu,ay,cK,ax];refine H.loopA au [2,3,4] (fun(x:Nat×Array α)=>[(8,.int .i64 x.1)]) (·.2) (fun x=>hi-x.1) (fun x=>x.2.size=n/\x.1<=n/\Sort.siftDown lt hi first x.1 x.2=Sort.siftDown lt hi first lo d) (lo,d) aR ⟨aR,ar,rfl⟩ (by simp[cK,ax]) aN aN d6 ?_;rintro⟨root,cu⟩ ⟨aS,be,b8⟩;simp only at aS be b8;have ak:((first:Int)+(2*root+1))=(first+(2*root+1):Nat):=Ω
 have aD:(((first+(2*root+1):Nat):Int)+1)=(first+(2*root+1)+1:Nat):=Ω
 have bh:((first:Int)+root)=(first+root:Nat):=Ω
 have dk:((first:Int)+(2*root+1+1))=(first+(2*root+2):Nat):=Ω
 simp[Pv.look,H.slc,H.ssc];(with_reducible repeat' first|((first|apply bU|apply bY|apply bX)<;>intro h<;>try simp at h)|refine ai ?_|simp[Pv.look,H.slc,H.ssc])
 ·rw[Sort.siftDown,dif_pos Ω]at b8;exact H.retA au aS (.inr rfl) ⟨rfl,cu,rfl,b8,aS⟩
 ·rw[Sort.siftDown,dif_neg Ω]at b8;rw[ak,aD];refine H.lessA aS _ _ Ω Ω fun o=>?_;have aw:decide (2*root+1+1<hi)=true:=by simp;omega
  cases ab:lt cu[first+(2*root+1)]! cu[first+(2*root+1)+1]! with
  |true=>
   rw[if_pos (by rw[aw,ab];rfl)]at b8;simp;(with_reducible repeat' first|refine ai ?_|simp[Pv.look,H.slc,H.ssc]);rw[bh,dk];refine H.lessA aS _ _ Ω Ω fun o=>?_;cases aL:lt cu[first+root]! cu[first+(2*root+2)]! with
   |true=>rw[if_neg (by simp[aL]),dif_pos Ω]at b8;simp;(with_reducible repeat' first|refine ai ?_|simp[Pv.look,H.slc,H.ssc]);rw[bh,dk];refine H.swapA aS U _ _ Ω Ω fun o=>?_;simp;(with_reducible repeat' first|refine ai ?_|simp);refine bK.whl (2*root+2,Sort.swp cu (first+root) (first+(2*root+2))) d7 ⟨by rw[hl,aS],by simp;omega,b8⟩ (H.weakC au (by simp[hl,aS]) (by simp[aB];omega))
   |false=>rw[if_pos (by simp[aL])]at b8;simp;(with_reducible repeat' first|refine ai ?_|simp);all_goals exact H.retA au aS (.inl rfl) ⟨rfl,cu,rfl,b8,aS⟩
  |false=>
   rw[if_neg (by simp[ab])]at b8;simp;(with_reducible repeat' first|refine ai ?_|simp[Pv.look,H.slc,H.ssc]);rw[bh,ak];refine H.lessA aS _ _ Ω Ω fun o=>?_;cases aL:lt cu[first+root]! cu[first+(2*root+1)]! with
   |true=>rw[if_neg (by simp[aL])]at b8;simp;(with_reducible repeat' first|refine ai ?_|simp[Pv.look,H.slc,H.ssc]);rw[bh,ak];refine H.swapA aS U _ _ Ω Ω fun o=>?_;simp;(with_reducible repeat' first|refine ai ?_|simp);refine bK.whl (2*root+1,Sort.swp cu (first+root) (first+(2*root+1))) d7 ⟨by rw[hl,aS],by simp;omega,b8⟩ (H.weakC au (by simp[hl,aS]) d6)
   |false=>rw[if_pos (by simp[aL])]at b8;simp;(with_reducible repeat' first|refine ai ?_|simp);all_goals exact H.retA au aS (.inl rfl) ⟨rfl,cu,rfl,b8,aS⟩
 ·rw[Sort.siftDown,dif_neg Ω]at b8;have aw:decide (2*root+1+1<hi)=false:=by simp;omega
  rw[if_neg (by rw[aw];simp)]at b8;rw[bh,ak];refine H.lessA aS _ _ Ω Ω fun o=>?_;cases aL:lt cu[first+root]! cu[first+(2*root+1)]! with
  |true=>rw[if_neg (by simp[aL])]at b8;simp;(with_reducible repeat' first|refine ai ?_|simp[Pv.look,H.slc,H.ssc]);rw[bh,ak];refine H.swapA aS U _ _ Ω Ω fun o=>?_;simp;(with_reducible repeat' first|refine ai ?_|simp);refine bK.whl (2*root+1,Sort.swp cu (first+root) (first+(2*root+1))) d7 ⟨by rw[hl,aS],by simp;omega,b8⟩ (H.weakC au (by simp[hl,aS]) d6)
  |false=>rw[if_pos (by simp[aL])]at b8;simp;(with_reducible repeat' first|refine ai ?_|simp);all_goals exact H.retA au aS (.inl rfl) ⟨rfl,cu,rfl,b8,aS⟩
theorem ag6(H:fi S n g cg lc cc lt)(d:Array α)(aR:d.size=n)(a b:Nat)(nM:a<b)(af:b<=n)(U:2<=n):
  bI al 264 [e9 g cg lc cc,.int .i64 a,.int .i64 b] (S d.toList) fun r ah=>r= .tuple []/\∃cd,ah=S cd.toList/\cd=Sort.reverseRange d a b/\cd.size=n:=by
 have ag:=H.ok d.toList;have au:d.toList.length=n:=by simpa using aR
 have ax:∀l m,Pv.look (.loc m) (S l).b=none:=fun l=>(H.ok l).obj.1;have hu:∀l m cs,cA (.loc m) cs (S l).b=(S l).b++[(.loc m,cs)]:=fun l m cs=>kg (ax l m);have ay:∀m,aI.loc m∉c2 (S d.toList):=j9 ag.obj;have hle:=H.le;refine bI.mk mixed oQ afF amG Ψ ag.obj fun aM cR=>?_;unfold Ss;simp[e9,hu,ay,cK,ax];have fp:((b:Int)-1)=(b-1:Nat):=Ω
 (with_reducible repeat' first|refine ai ?_|simp[hu,ay,cK,ax]);rw[fp];refine H.loopA au [3] (fun(x:(Nat×Nat)×Array α)=>[(6,.int .i64 x.1.1),(7,.int .i64 x.1.2)]) (·.2) (fun x=>x.1.2+1-x.1.1) (fun x=>x.2.size=n/\x.1.2<n/\Sort.reverseLoop x.1.1 x.1.2 x.2=Sort.reverseRange d a b) ((a,b-1),d) aR ⟨aR,by simp;omega,rfl⟩ (by simp[cK,ax]) aN aN d6 ?_;rintro⟨⟨i,j⟩,cu⟩ ⟨aS,be,b8⟩;simp only at aS be b8;rw[Sort.reverseLoop]at b8;simp[Pv.look,H.slc,H.ssc];(with_reducible repeat' first|((first|apply bU|apply bY|apply bX)<;>intro h<;>try simp at h)|refine ai ?_|simp[Pv.look,H.slc,H.ssc])
 ·rw[if_pos Ω]at b8;refine H.swapA aS U _ _ Ω Ω fun o=>?_;have ak:((i:Int)+1)=(i+1:Nat):=Ω
  have aD:((j:Int)-1)=(j-1:Nat):=Ω
  simp;((with_reducible repeat' first|refine ai ?_|simp|((first|apply bU|apply bY|apply bX)<;>intro h<;>try simp at h))<;>(try exact cz));rw[ak,aD];refine bK.whl ((i+1,j-1),Sort.swp cu i j) d7 ⟨by rw[hl,aS],by simp;omega,b8⟩ (H.weakC au (by simp[hl,aS]) d6)
 ·rw[if_neg Ω]at b8;exact H.retA au aS (.inr rfl) ⟨rfl,cu,rfl,b8,aS⟩
theorem agP(H:fi S n g cg lc cc lt)(d:Array α)(aR:d.size=n)(a b:Nat)(nM:a<=b)(af:b<=n)(U:2<=n):
  bI al 261 [e9 g cg lc cc,.int .i64 a,.int .i64 b] (S d.toList) fun r ah=>r= .tuple []/\∃cd,ah=S cd.toList/\cd=Sort.heapSort lt d a b/\cd.size=n:=by
 have ag:=H.ok d.toList;have au:d.toList.length=n:=by simpa using aR
 have ax:∀l m,Pv.look (.loc m) (S l).b=none:=fun l=>(H.ok l).obj.1;have hu:∀l m cs,cA (.loc m) cs (S l).b=(S l).b++[(.loc m,cs)]:=fun l m cs=>kg (ax l m);have ay:∀m,aI.loc m∉c2 (S d.toList):=j9 ag.obj;have hle:=H.le;refine bI.mk mixed oQ afw amx Ψ ag.obj fun aM cR=>?_;unfold Si;simp[e9,hu,ay,cK,ax];(with_reducible repeat' first|refine ai ?_|simp[hu,ay,cK,ax]);have fp:IntKind.i64.wrap (((b:Int)-a-1).tdiv 2)=(((b-a-1)/2+1:Nat):Int)-1:=by
  have e:((b:Int)-a-1).tdiv 2=(((b-a-1)/2+1:Nat):Int)-1:=by
   rcases Nat.eq_or_lt_of_le nM with h|h
   ·subst h;simp
   ·rw[show((b:Int)-a-1)=((b-a-1:Nat):Int) by omega,Int.tdiv_eq_ediv_of_nonneg Ω];omega
  rw[e,pN _ Ω]
 rw[fp];refine H.loopA au [3,6,7,8] (fun(x:Nat×Array α)=>[(9,.int .i64 ((x.1:Int)-1))]) (·.2) (fun x=>x.1) (fun x=>x.2.size=n/\x.1<=n/\Sort.heapBuild lt (b-a) a x.1 x.2=Sort.heapBuild lt (b-a) a ((b-a-1)/2+1) d) ((b-a-1)/2+1,d) aR ⟨aR,by simp;omega,rfl⟩ (by simp[cK,ax]) aN aN d6 ?_;rintro⟨k,cu⟩ ⟨aS,be,b8⟩;simp only at aS be b8;have adb:((b:Int)-a)=(b-a:Nat):=Ω
 simp[Pv.look,H.slc,H.ssc];(with_reducible repeat' first|((first|apply bU|apply bY|apply bX)<;>intro h<;>try simp at h)|refine ai ?_|simp[Pv.look,H.slc,H.ssc])
 ·obtain⟨k,rfl⟩:∃bJ,k=bJ+1:=⟨k-1,Ω⟩;have KK:(((k+1:Nat):Int)-1)=(k:Nat):=Ω
  rw[Sort.heapBuild]at b8;simp only[iM H,H.slc,H.ssc,iG,KK,adb];refine H.doFn (lk:=cu.toList) (by simpa using aS) (R:=fun a1=> ∃cd,a1=cd.toList/\cd=Sort.siftDown lt (b-a) a k cu/\cd.size=n) ((Ux H cu aS k (b-a) a Ω U Ω).mono fun r ah ⟨ba,cd,bo,b3,c9⟩=>⟨ba,cd.toList,bo,cd,rfl,b3,c9⟩) (by rintro a1 ⟨cd,rfl,_,q⟩;simpa using q) (by simp[aC,aB,H.kdata (lk:=cu.toList) (by simpa using aS)]) ?_;rintro a1 ⟨cd,rfl,ba,bo⟩;simp;((with_reducible repeat' first|refine ai ?_|simp|((first|apply bU|apply bY|apply bX)<;>intro h<;>try simp at h))<;>(try exact cz));refine bK.whl (k,cd) Ψ ⟨bo,by simp;omega,by rw[<-b8,ba]⟩ (H.weakC au (by simpa using bo) d6)
 ·obtain rfl:k=0:=Ω
  rw[Sort.heapBuild]at b8;have atc:cu.size=n:=aS;refine H.loopA au [3,6,7] (fun(x:Nat×Array α)=>[(10,.int .i64 ((x.1:Int)-1))]) (·.2) (fun x=>x.1) (fun x=>x.2.size=n/\x.1<=b-a/\Sort.heapPop lt a x.1 x.2=Sort.heapPop lt a (b-a) cu) (b-a,cu) aS ⟨aS,Ψ,rfl⟩ (by simp[Pv.look]) aN aN (by simp[aB];omega) ?_;rintro⟨k,ga⟩ ⟨hj,xb,hA⟩;simp only at hj xb hA;simp[Pv.look,H.slc,H.ssc];(with_reducible repeat' first|((first|apply bU|apply bY|apply bX)<;>intro h<;>try simp at h)|refine ai ?_|simp[Pv.look,H.slc,H.ssc])
  ·obtain⟨k,rfl⟩:∃bJ,k=bJ+1:=⟨k-1,Ω⟩;have KK:(((k+1:Nat):Int)-1)=(k:Nat):=Ω
   have ada:((a:Int)+k)=(a+k:Nat):=Ω
   rw[Sort.heapPop]at hA;simp only[KK,ada];refine H.swapA hj U _ _ Ω Ω fun o=>?_;have MK:(Sort.swp ga a (a+k)).size=n:=by rw[hl,hj]
   simp;simp only[iM H,H.slc,H.ssc,iG];refine H.doFn (lk:=(Sort.swp ga a (a+k)).toList) (by simpa using MK) (R:=fun a1=> ∃cd,a1=cd.toList/\cd=Sort.siftDown lt k a 0 (Sort.swp ga a (a+k))/\cd.size=n) ((Ux H (Sort.swp ga a (a+k)) MK 0 k a Ω U Ω).mono fun r ah ⟨ba,cd,bo,b3,c9⟩=>⟨ba,cd.toList,bo,cd,rfl,b3,c9⟩) (by rintro a1 ⟨cd,rfl,_,q⟩;simpa using q) (by simp[aC,aB,H.kdata (lk:=(Sort.swp ga a (a+k)).toList) (by simpa using MK)]) ?_;rintro a1 ⟨cd,rfl,ba,bo⟩;simp;((with_reducible repeat' first|refine ai ?_|simp|((first|apply bU|apply bY|apply bX)<;>intro h<;>try simp at h))<;>(try exact cz));refine bK.whl (k,cd) Ψ ⟨bo,by simp;omega,by rw[<-hA,ba]⟩ (H.weakC au (by simpa using bo) d6)
  ·obtain rfl:k=0:=Ω
   rw[Sort.heapPop]at hA;refine H.retA au hj (.inr rfl) ⟨rfl,ga,rfl,?_,hj⟩;rw[Sort.heapSort,<-b8,<-hA]
theorem agQ(H:fi S n g cg lc cc lt)(d:Array α)(aR:d.size=n)(a b:Nat)(nM:a<=b)(af:b<=n):
  bI al 260 [e9 g cg lc cc,.int .i64 a,.int .i64 b] (S d.toList) fun r ah=>r= .tuple []/\∃cd,ah=S cd.toList/\cd=Sort.insertionSort lt d a b/\cd.size=n:=by
 have ag:=H.ok d.toList;have au:d.toList.length=n:=by simpa using aR
 have ax:∀l m,Pv.look (.loc m) (S l).b=none:=fun l=>(H.ok l).obj.1;have hu:∀l m cs,cA (.loc m) cs (S l).b=(S l).b++[(.loc m,cs)]:=fun l m cs=>kg (ax l m);have ay:∀m,aI.loc m∉c2 (S d.toList):=j9 ag.obj;have hle:=H.le;refine bI.mk mixed Cl T3 XT Ψ ag.obj fun aM cR=>?_;unfold Km;simp[e9,hu,ay,cK,ax];have fp:((a:Int)+1)=(a+1:Nat):=Ω
 (with_reducible repeat' first|refine ai ?_|simp[hu,ay,cK,ax]);rw[fp];refine H.loopA au [1,2,3] (fun(x:Nat×Array α)=>[(6,.int .i64 x.1)]) (·.2) (fun x=>b+1-x.1) (fun x=>x.2.size=n/\x.1<=b+1/\Sort.insOuter lt a b x.1 x.2=Sort.insertionSort lt d a b) (a+1,d) aR ⟨aR,by simp;omega,rfl⟩ (by simp[cK,ax]) aN aN d6 ?_;rintro⟨i,cu⟩ ⟨aS,be,b8⟩;simp only at aS be b8;rw[Sort.insOuter]at b8;simp;(with_reducible repeat' first|((first|apply bU|apply bY|apply bX)<;>intro h<;>try simp at h)|refine ai ?_|simp)
 ·rw[if_pos Ω]at b8;refine H.loopA au [1,2,3,6] (fun(x:Nat×Array α)=>[(7,.int .i64 x.1)]) (·.2) (fun x=>x.1) (fun x=>x.2.size=n/\x.1<=i/\Sort.insInner lt a x.1 x.2=Sort.insInner lt a i cu) (i,cu) aS ⟨aS,Ψ,rfl⟩ (by simp[Pv.look]) aN aN d6 ?_;rintro⟨j,ga⟩ ⟨hj,xb,hA⟩;simp only at hj xb hA;simp[Pv.look,H.slc,H.ssc];(with_reducible repeat' first|((first|apply bU|apply bY|apply bX)<;>intro h<;>try simp at h)|refine ai ?_|simp[Pv.look,H.slc,H.ssc])
  ·obtain⟨j,rfl⟩:∃dT,j=dT+1:=⟨j-1,Ω⟩;have pb:(((j+1:Nat):Int)-1)=(j:Nat):=Ω
   have p2:((i:Int)+1)=(i+1:Nat):=Ω
   have adg:((j:Int)+1)=(j+1:Nat):=Ω
   rw[Sort.insInner]at hA;have aw:decide (j+1>a)=true:=by simp;omega
   rw[pb];refine H.lessA hj _ _ Ω Ω fun o=>?_;cases ab:lt ga[j+1]! ga[j]! with
   |true=>rw[if_pos (by rw[aw,ab];rfl)]at hA;simp;(with_reducible repeat' first|refine ai ?_|simp[Pv.look,H.slc,H.ssc]);rw[adg];refine H.swapA hj Ω _ _ Ω Ω fun o=>?_;simp;(with_reducible repeat' first|refine ai ?_|simp);refine bK.whl (j,Sort.swp ga (j+1) j) Ψ ⟨by rw[hl,hj],by simp;omega,hA⟩ (H.weakC au (by simp[hl,hj]) d6)
   |false=>rw[if_neg (by simp[ab])]at hA;simp;((with_reducible repeat' first|refine ai ?_|simp|((first|apply bU|apply bY|apply bX)<;>intro h<;>try simp at h))<;>(try exact cz));rw[p2];refine bK.whl (i+1,ga) d7 ⟨hj,by simp;omega,by rw[<-b8,<-hA]⟩ (H.weakC au (by simpa using hj) d6)
  ·have p2:((i:Int)+1)=(i+1:Nat):=Ω
   have y3:Sort.insInner lt a j ga=ga:=by
    cases j with
    |zero=>rfl
    |succ j=>rw[Sort.insInner,if_neg d7]
   rw[p2];refine bK.whl (i+1,ga) d7 ⟨hj,by simp;omega,by rw[<-b8,<-hA,y3]⟩ (H.weakC au (by simpa using hj) d6)
 ·rw[if_neg Ω]at b8;exact H.retA au aS (.inr rfl) ⟨rfl,cu,rfl,b8,aS⟩
end
section
open Go Go.Pv
variable {α:Type} [Inhabited α] {S:List α->cL} {n g cg:Nat} {lc cc:List aj} {lt:α->α->Bool}
theorem wa{p:α->Bool}{d:Array α}{i j:Nat}(h:¬(i<=j/\p d[j]! =true)):Sort.scanDown p d i j=j:=by
 cases j with
 |zero=>rfl
 |succ j=>rw[Sort.scanDown,if_neg (by simpa using h)]
theorem Cb{p:α->Bool}{d:Array α}{i j:Nat}(h:¬(i<=j/\p d[i]! =true)):Sort.scanUp p d j i=i:=by rw[Sort.scanUp,if_neg (by simpa using h)]
theorem O5{p:α->Bool}{d:Array α}{i j:Nat}(J:i<=j)(U:p d[i]! =true):Sort.scanUp p d j i=Sort.scanUp p d j (i+1):=by rw[Sort.scanUp,if_pos (by simp[J,U])]
theorem O4{p:α->Bool}{d:Array α}{i j:Nat}(J:i<=j+1)(U:p d[j+1]! =true):Sort.scanDown p d i (j+1)=Sort.scanDown p d i j:=by rw[Sort.scanDown,if_pos (by simp[J,U])]
theorem ag0(H:fi S n g cg lc cc lt)(d:Array α)(aR:d.size=n)(a b pivot:Nat)(sq:a<=pivot)(aiL:pivot<b)(nM:a+1<b)(af:b<=n):
  bI al 267 [e9 g cg lc cc,.int .i64 a,.int .i64 b,.int .i64 pivot] (S d.toList) fun r ah=>r= .tuple [.int .i64 (Sort.partition lt d a b pivot).1,.bool (Sort.partition lt d a b pivot).2.1]/\∃cd,ah=S cd.toList/\cd=(Sort.partition lt d a b pivot).2.2/\cd.size=n:=by
 obtain⟨R,aU⟩:∃R,R=Sort.partition lt d a b pivot:=⟨_,rfl⟩;rw[<-aU];unfold Sort.partition at aU;have ag:=H.ok d.toList;have au:d.toList.length=n:=by simpa using aR
 have ax:∀l m,Pv.look (.loc m) (S l).b=none:=fun l=>(H.ok l).obj.1;have hu:∀l m cs,cA (.loc m) cs (S l).b=(S l).b++[(.loc m,cs)]:=fun l m cs=>kg (ax l m);have ay:∀m,aI.loc m∉c2 (S d.toList):=j9 ag.obj;have hle:=H.le;refine bI.mk mixed oQ afD amE Ψ ag.obj fun aM cR=>?_;unfold Sq;simp[e9,hu,ay,cK,ax];rw[H.ssc];refine H.swapA0 aR Ω a pivot Ω Ω fun o=>?_;obtain⟨d1,fD⟩:∃d1,d1=Sort.swp d a pivot:=⟨_,rfl⟩;have s1:d1.size=n:=by rw[fD,hl,aR]
 rw[<-fD];simp only[<-fD]at aU;have ak:((a:Int)+1)=(a+1:Nat):=Ω
 have aD:((b:Int)-1)=(b-1:Nat):=Ω
 simp;(with_reducible repeat' first|refine ai ?_|simp);rw[ak,aD];refine H.loopA au [1,4,11] (fun(i:Nat)=>[(10,.int .i64 i)]) (fun _=>d1) (fun i=>b+1-i) (fun i=>a+1<=i/\i<=b/\Sort.scanUp (fun x=>lt x d1[a]!) d1 (b-1) i=Sort.scanUp (fun x=>lt x d1[a]!) d1 (b-1) (a+1)) (a+1) s1 ⟨Ω,Ω,rfl⟩ (by simp[Pv.look]) aN aN d6 ?_;rintro i ⟨i1,i2,i3⟩;simp[Pv.look,H.slc];((with_reducible repeat' first|refine ai ?_|simp[Pv.look,H.slc]|((first|apply bU|apply bY|apply bX)<;>intro h<;>try simp at h))<;>(try exact cz));refine H.lessA s1 i a Ω Ω fun o=>?_;cases ab:lt d1[i]! d1[a]!;rotate_left
 ·have p2:((i:Int)+1)=(i+1:Nat):=Ω
  simp;(with_reducible repeat' first|refine ai ?_|simp);rw[p2];refine bK.whl (i+1) Ω ⟨Ω,Ω,by rw[<-i3];exact(O5 (p:=fun x=>lt x d1[a]!) Ω ab).symm⟩ (H.weakC au (by simpa using s1) d6)
 rotate_left
 ·have i4:Sort.scanUp (fun x=>lt x d1[a]!) d1 (b-1) i=i:=Cb (by simp[ab]);rw[i4]at i3;rw[<-i3]at aU;simp;refine H.loopA au [1,4,10] (fun(j:Nat)=>[(11,.int .i64 j)]) (fun _=>d1) (fun j=>j) (fun j=>i<=j+1/\j<=b-1/\Sort.scanDown (fun x=> !lt x d1[a]!) d1 i j=Sort.scanDown (fun x=> !lt x d1[a]!) d1 i (b-1)) (b-1) s1 ⟨Ω,Ω,rfl⟩ (by simp[Pv.look]) aN aN d6 ?_;rintro j ⟨hj,xb,hA⟩;simp[Pv.look,H.slc];((with_reducible repeat' first|refine ai ?_|simp[Pv.look,H.slc,H.ssc]|((first|apply bU|apply bY|apply bX)<;>intro h<;>try simp at h))<;>(try exact cz))
  ·refine H.lessA s1 j a Ω Ω fun o=>?_;cases aL:lt d1[j]! d1[a]!
   ·obtain⟨j,rfl⟩:∃dT,j=dT+1:=⟨j-1,Ω⟩;have pb:(((j+1:Nat):Int)-1)=(j:Nat):=Ω
    simp;(with_reducible repeat' first|refine ai ?_|simp);try rw[pb]
    refine bK.whl j Ω ⟨Ω,Ω,by rw[<-hA];exact(O4 (p:=fun x=> !lt x d1[a]!) Ω (by simp[aL])).symm⟩ (H.weakC au (by simpa using s1) d6)
   ·have y3:Sort.scanDown (fun x=> !lt x d1[a]!) d1 i j=j:=wa (by simp[aL]);have cM:i≠j:=fun e=>by subst e;rw[ab]at aL;cases aL
    rw[y3]at hA;rw[<-hA,if_neg Ω]at aU;simp;((with_reducible repeat' first|refine ai ?_|simp[Pv.look,H.slc,H.ssc]|((first|apply bU|apply bY|apply bX)<;>intro h<;>try simp at h))<;>(try exact cz));refine H.swapA s1 Ω i j Ω Ω fun o=>?_;obtain⟨d2,e2⟩:∃d2,d2=Sort.swp d1 i j:=⟨_,rfl⟩;have s2:d2.size=n:=by rw[e2,hl,s1]
    rw[<-e2];rw[<-e2]at aU;have bh:((i:Int)+1)=(i+1:Nat):=Ω
    have dk:((j:Int)-1)=(j-1:Nat):=Ω
    simp;(with_reducible repeat' first|refine ai ?_|simp);rw[bh,dk];refine H.loopA au [1,4] (fun(x:(Nat×Nat)×Array α)=>[(10,.int .i64 x.1.1),(11,.int .i64 x.1.2)]) (·.2) (fun x=>x.1.2+1-x.1.1) (fun x=>x.2.size=n/\(a+1<=x.1.1/\x.1.1<=x.1.2+1/\x.1.2<=b-1)/\Sort.partLoop lt a x.1.1 x.1.2 x.2=Sort.partLoop lt a (i+1) (j-1) d2) ((i+1,j-1),d2) s2 ⟨s2,⟨by simp;omega,by simp;omega,by simp;omega⟩,rfl⟩ (by simp[Pv.look]) aN aN d6 ?_;rintro⟨⟨xa,dT⟩,cu⟩ ⟨aS,⟨be,b8,eg⟩,dm⟩;simp only at aS be b8 eg dm;rw[Sort.partLoop]at dm;generalize iI:Sort.partLoop lt a (i+1) (j-1) d2=G at dm aU;simp;refine H.loopA au [1,4,11] (fun(x:Nat)=>[(10,.int .i64 x)]) (fun _=>cu) (fun x=>b+1-x) (fun x=>xa<=x/\x<=dT+1/\Sort.scanUp (fun x=>lt x cu[a]!) cu dT x=Sort.scanUp (fun x=>lt x cu[a]!) cu dT xa) xa aS ⟨Ω,Ω,rfl⟩ (by simp[Pv.look]) aN aN d6 ?_;rintro p ⟨cX,dI,jv⟩;simp[Pv.look,H.slc];((with_reducible repeat' first|refine ai ?_|simp[Pv.look,H.slc]|((first|apply bU|apply bY|apply bX)<;>intro h<;>try simp at h))<;>(try exact cz))
    ·refine H.lessA aS p a Ω Ω fun o=>?_;cases iJ:lt cu[p]! cu[a]!;rotate_left
     ·have p2:((p:Int)+1)=(p+1:Nat):=Ω
      simp;(with_reducible repeat' first|refine ai ?_|simp);rw[p2];refine bK.whl (p+1) Ω ⟨Ω,Ω,by rw[<-jv];exact(O5 (p:=fun x=>lt x cu[a]!) Ω iJ).symm⟩ (H.weakC au (by simpa using aS) d6)
     ·have vP:Sort.scanUp (fun x=>lt x cu[a]!) cu dT p=p:=Cb (by simp[iJ]);rw[vP]at jv;simp only[<-jv]at dm;simp;refine H.loopA au [1,4,10] (fun(x:Nat)=>[(11,.int .i64 x)]) (fun _=>cu) (fun x=>x) (fun x=>p<=x+1/\x<=dT/\Sort.scanDown (fun x=> !lt x cu[a]!) cu p x=Sort.scanDown (fun x=> !lt x cu[a]!) cu p dT) dT aS ⟨Ω,Ω,rfl⟩ (by simp[Pv.look]) aN aN d6 ?_;rintro q ⟨ba,bo,b3⟩;simp[Pv.look,H.slc];((with_reducible repeat' first|refine ai ?_|simp[Pv.look,H.slc,H.ssc]|((first|apply bU|apply bY|apply bX)<;>intro h<;>try simp at h))<;>(try exact cz))
      ·refine H.lessA aS q a Ω Ω fun o=>?_;cases sF:lt cu[q]! cu[a]!
       ·obtain⟨q,rfl⟩:∃dT,q=dT+1:=⟨q-1,Ω⟩;have pb:(((q+1:Nat):Int)-1)=(q:Nat):=Ω
        simp;(with_reducible repeat' first|refine ai ?_|simp);try rw[pb]
        refine bK.whl q Ω ⟨Ω,Ω,by rw[<-b3];exact(O4 (p:=fun x=> !lt x cu[a]!) Ω (by simp[sF])).symm⟩ (H.weakC au (by simpa using aS) d6)
       ·have c9:Sort.scanDown (fun x=> !lt x cu[a]!) cu p q=q:=wa (by simp[sF]);have cM:p≠q:=fun e=>by subst e;rw[iJ]at sF;cases sF
        rw[c9]at b3;simp only[<-b3]at dm;rw[if_neg Ω,dif_pos Ω]at dm;simp;((with_reducible repeat' first|refine ai ?_|simp[Pv.look,H.slc,H.ssc]|((first|apply bU|apply bY|apply bX)<;>intro h<;>try simp at h))<;>(try exact cz));refine H.swapA aS Ω p q Ω Ω fun o=>?_;have hy:((p:Int)+1)=(p+1:Nat):=Ω
        have h8:((q:Int)-1)=(q-1:Nat):=Ω
        simp;(with_reducible repeat' first|((first|apply bU|apply bY|apply bX)<;>intro h<;>try simp at h)|refine ai ?_|simp);rw[hy,h8];refine bK.whl ((p+1,q-1),Sort.swp cu p q) d7 ⟨by rw[hl,aS],⟨by simp;omega,by simp;omega,by simp;omega⟩,dm⟩ (H.weakC au (by simp[hl,aS]) d6)
      ·have c9:Sort.scanDown (fun x=> !lt x cu[a]!) cu p q=q:=wa Ω;rw[c9]at b3;simp only[<-b3]at dm;rw[if_pos Ω]at dm;rw[<-dm]at aU;refine H.swapA aS Ω q a Ω Ω fun o=>?_;simp;refine H.retR au (d:=Sort.swp cu q a) (by rw[hl,aS]) (.inl rfl) ?_;simp[cN,EE,aX,aZ,aW];rw[aU];exact⟨⟨rfl,rfl⟩,_,rfl,rfl,by rw[hl,aS]⟩
    ·have vP:Sort.scanUp (fun x=>lt x cu[a]!) cu dT p=p:=Cb Ω;rw[vP]at jv;simp only[<-jv]at dm;have c9:Sort.scanDown (fun x=> !lt x cu[a]!) cu p dT=dT:=wa Ω;rw[c9,if_pos Ω]at dm;rw[<-dm]at aU;refine H.loopA au [1,4,10] (fun(x:Nat)=>[(11,.int .i64 x)]) (fun _=>cu) (fun x=>x) (fun x=>x=dT) dT aS rfl (by simp[Pv.look]) aN aN d6 ?_;rintro q rfl;simp[Pv.look,H.slc];((with_reducible repeat' first|refine ai ?_|simp[Pv.look,H.slc,H.ssc]|((first|apply bU|apply bY|apply bX)<;>intro h<;>try simp at h))<;>(try exact cz));refine H.swapA aS Ω q a Ω Ω fun o=>?_;simp;refine H.retR au (d:=Sort.swp cu q a) (by rw[hl,aS]) (.inl rfl) ?_;simp[cN,EE,aX,aZ,aW];rw[aU];exact⟨⟨rfl,rfl⟩,_,rfl,rfl,by rw[hl,aS]⟩
  ·have y3:Sort.scanDown (fun x=> !lt x d1[a]!) d1 i j=j:=wa Ω;rw[y3]at hA;rw[<-hA,if_pos Ω]at aU;refine H.swapA s1 Ω j a Ω Ω fun o=>?_;simp;refine H.retR au (d:=Sort.swp d1 j a) (by rw[hl,s1]) (.inl rfl) ?_;simp[cN,EE,aX,aZ,aW];rw[aU];exact⟨⟨rfl,rfl⟩,_,rfl,rfl,by rw[hl,s1]⟩
 ·have i4:Sort.scanUp (fun x=>lt x d1[a]!) d1 (b-1) i=i:=Cb Ω;rw[i4]at i3;have y3:Sort.scanDown (fun x=> !lt x d1[a]!) d1 i (b-1)=b-1:=wa Ω;rw[<-i3,y3,if_pos Ω]at aU;refine H.loopA au [1,4,10] (fun(j:Nat)=>[(11,.int .i64 j)]) (fun _=>d1) (fun j=>j) (fun j=>j=b-1) (b-1) s1 rfl (by simp[Pv.look]) aN aN d6 ?_;rintro j rfl;simp[Pv.look,H.slc];((with_reducible repeat' first|refine ai ?_|simp[Pv.look,H.slc,H.ssc]|((first|apply bU|apply bY|apply bX)<;>intro h<;>try simp at h))<;>(try exact cz));refine H.swapA s1 Ω (b-1) a Ω Ω fun o=>?_;simp;refine H.retR au (d:=Sort.swp d1 (b-1) a) (by rw[hl,s1]) (.inl rfl) ?_;simp[cN,EE,aX,aZ,aW];rw[aU];exact⟨⟨rfl,rfl⟩,_,rfl,rfl,by rw[hl,s1]⟩
end
section
open Go Go.Pv
variable {α:Type} [Inhabited α] {S:List α->cL} {n g cg:Nat} {lc cc:List aj} {lt:α->α->Bool}
theorem ag1(H:fi S n g cg lc cc lt)(d:Array α)(aR:d.size=n)(a b pivot:Nat)(sq:a<=pivot)(aiL:pivot<b)(nM:a+1<b)(af:b<=n):
  bI al 266 [e9 g cg lc cc,.int .i64 a,.int .i64 b,.int .i64 pivot] (S d.toList) fun r ah=>r= .int .i64 (Sort.partitionEqual lt d a b pivot).1/\∃cd,ah=S cd.toList/\cd=(Sort.partitionEqual lt d a b pivot).2/\cd.size=n:=by
 obtain⟨R,aU⟩:∃R,R=Sort.partitionEqual lt d a b pivot:=⟨_,rfl⟩;rw[<-aU];unfold Sort.partitionEqual at aU;have ag:=H.ok d.toList;have au:d.toList.length=n:=by simpa using aR
 have ax:∀l m,Pv.look (.loc m) (S l).b=none:=fun l=>(H.ok l).obj.1;have hu:∀l m cs,cA (.loc m) cs (S l).b=(S l).b++[(.loc m,cs)]:=fun l m cs=>kg (ax l m);have ay:∀m,aI.loc m∉c2 (S d.toList):=j9 ag.obj;have hle:=H.le;refine bI.mk mixed oQ afC amD Ψ ag.obj fun aM cR=>?_;unfold Sp;simp[e9,hu,ay,cK,ax];rw[H.ssc];refine H.swapA0 aR Ω a pivot Ω Ω fun o=>?_;obtain⟨d1,fD⟩:∃d1,d1=Sort.swp d a pivot:=⟨_,rfl⟩;have s1:d1.size=n:=by rw[fD,hl,aR]
 rw[<-fD];rw[<-fD]at aU;have ak:((a:Int)+1)=(a+1:Nat):=Ω
 have aD:((b:Int)-1)=(b-1:Nat):=Ω
 simp;(with_reducible repeat' first|refine ai ?_|simp);rw[ak,aD];refine H.loopA au [1,4] (fun(x:(Nat×Nat)×Array α)=>[(9,.int .i64 x.1.1),(10,.int .i64 x.1.2)]) (·.2) (fun x=>x.1.2+1-x.1.1) (fun x=>x.2.size=n/\(a+1<=x.1.1/\x.1.1<=x.1.2+1/\x.1.2<=b-1)/\Sort.partEqLoop lt a x.1.1 x.1.2 x.2=R) ((a+1,b-1),d1) s1 ⟨s1,⟨Ψ,by simp;omega,Ψ⟩,aU.symm⟩ (by simp[Pv.look]) aN aN d6 ?_;rintro⟨⟨xa,dT⟩,cu⟩ ⟨aS,⟨be,b8,eg⟩,dm⟩;simp only at aS be b8 eg dm;rw[Sort.partEqLoop]at dm;simp;refine H.loopA au [1,4,10] (fun(x:Nat)=>[(9,.int .i64 x)]) (fun _=>cu) (fun x=>b+1-x) (fun x=>xa<=x/\x<=dT+1/\Sort.scanUp (fun x=> !lt cu[a]! x) cu dT x=Sort.scanUp (fun x=> !lt cu[a]! x) cu dT xa) xa aS ⟨Ω,Ω,rfl⟩ (by simp[Pv.look]) aN aN d6 ?_;rintro p ⟨cX,dI,jv⟩;simp[Pv.look,H.slc];((with_reducible repeat' first|refine ai ?_|simp[Pv.look,H.slc]|((first|apply bU|apply bY|apply bX)<;>intro h<;>try simp at h))<;>(try exact cz))
 ·refine H.lessA aS a p Ω Ω fun o=>?_;cases iJ:lt cu[a]! cu[p]!
  ·have p2:((p:Int)+1)=(p+1:Nat):=Ω
   simp;(with_reducible repeat' first|refine ai ?_|simp);rw[p2];refine bK.whl (p+1) Ω ⟨Ω,Ω,by rw[<-jv];exact(O5 (p:=fun x=> !lt cu[a]! x) Ω (by simp[iJ])).symm⟩ (H.weakC au (by simpa using aS) d6)
  ·have vP:Sort.scanUp (fun x=> !lt cu[a]! x) cu dT p=p:=Cb (by simp[iJ]);rw[vP]at jv;simp only[<-jv]at dm;simp;refine H.loopA au [1,4,9] (fun(x:Nat)=>[(10,.int .i64 x)]) (fun _=>cu) (fun x=>x) (fun x=>p<=x+1/\x<=dT/\Sort.scanDown (fun x=>lt cu[a]! x) cu p x=Sort.scanDown (fun x=>lt cu[a]! x) cu p dT) dT aS ⟨Ω,Ω,rfl⟩ (by simp[Pv.look]) aN aN d6 ?_;rintro q ⟨ba,bo,b3⟩;simp[Pv.look,H.slc];((with_reducible repeat' first|refine ai ?_|simp[Pv.look,H.slc,H.ssc]|((first|apply bU|apply bY|apply bX)<;>intro h<;>try simp at h))<;>(try exact cz))
   ·refine H.lessA aS a q Ω Ω fun o=>?_;cases sF:lt cu[a]! cu[q]!;rotate_left
    ·obtain⟨q,rfl⟩:∃dT,q=dT+1:=⟨q-1,Ω⟩;have pb:(((q+1:Nat):Int)-1)=(q:Nat):=Ω
     simp;(with_reducible repeat' first|refine ai ?_|simp);try rw[pb]
     refine bK.whl q Ω ⟨Ω,Ω,by rw[<-b3];exact(O4 (p:=fun x=>lt cu[a]! x) Ω (by simp[sF])).symm⟩ (H.weakC au (by simpa using aS) d6)
    ·have c9:Sort.scanDown (fun x=>lt cu[a]! x) cu p q=q:=wa (by simp[sF]);have cM:p≠q:=fun e=>by subst e;rw[iJ]at sF;cases sF
     rw[c9]at b3;simp only[<-b3]at dm;rw[if_neg Ω,dif_pos Ω]at dm;simp;((with_reducible repeat' first|refine ai ?_|simp[Pv.look,H.slc,H.ssc]|((first|apply bU|apply bY|apply bX)<;>intro h<;>try simp at h))<;>(try exact cz));refine H.swapA aS Ω p q Ω Ω fun o=>?_;have hy:((p:Int)+1)=(p+1:Nat):=Ω
     have h8:((q:Int)-1)=(q-1:Nat):=Ω
     simp;(with_reducible repeat' first|((first|apply bU|apply bY|apply bX)<;>intro h<;>try simp at h)|refine ai ?_|simp);rw[hy,h8];refine bK.whl ((p+1,q-1),Sort.swp cu p q) d7 ⟨by rw[hl,aS],⟨by simp;omega,by simp;omega,by simp;omega⟩,dm⟩ (H.weakC au (by simp[hl,aS]) d6)
   ·have c9:Sort.scanDown (fun x=>lt cu[a]! x) cu p q=q:=wa Ω;rw[c9]at b3;simp only[<-b3]at dm;rw[if_pos Ω]at dm;refine H.retR au (d:=cu) aS (.inl rfl) ?_;simp[cN,Ox,aX,aZ,aW];rw[<-dm];exact⟨rfl,_,rfl,rfl,aS⟩
 ·have vP:Sort.scanUp (fun x=> !lt cu[a]! x) cu dT p=p:=Cb Ω;rw[vP]at jv;simp only[<-jv]at dm;have c9:Sort.scanDown (fun x=>lt cu[a]! x) cu p dT=dT:=wa Ω;rw[c9,if_pos Ω]at dm;refine H.loopA au [1,4,9] (fun(x:Nat)=>[(10,.int .i64 x)]) (fun _=>cu) (fun x=>x) (fun x=>x=dT) dT aS rfl (by simp[Pv.look]) aN aN d6 ?_;rintro q rfl;simp[Pv.look,H.slc];((with_reducible repeat' first|refine ai ?_|simp[Pv.look,H.slc,H.ssc]|((first|apply bU|apply bY|apply bX)<;>intro h<;>try simp at h))<;>(try exact cz));refine H.retR au (d:=cu) aS (.inl rfl) ?_;simp[cN,Ox,aX,aZ,aW];rw[<-dm];exact⟨rfl,_,rfl,rfl,aS⟩
end
section
open Go Go.Pv
variable {α:Type} [Inhabited α] {S:List α->cL} {n g cg:Nat} {lc cc:List aj} {lt:α->α->Bool}
theorem agZ(H:fi S n g cg lc cc lt)(d:Array α)(aR:d.size=n)(a b:Nat)(nM:a<b)(af:b<=n)(U:2<=n):
  bI al 265 [e9 g cg lc cc,.int .i64 a,.int .i64 b] (S d.toList) fun r ah=>r= .bool (Sort.partialInsertionSort lt d a b).2/\∃cd,ah=S cd.toList/\cd=(Sort.partialInsertionSort lt d a b).1/\cd.size=n:=by
 obtain⟨R,aU⟩:∃R,R=Sort.partialInsertionSort lt d a b:=⟨_,rfl⟩;rw[<-aU];unfold Sort.partialInsertionSort at aU;have ag:=H.ok d.toList;have au:d.toList.length=n:=by simpa using aR
 have ax:∀l m,Pv.look (.loc m) (S l).b=none:=fun l=>(H.ok l).obj.1;have hu:∀l m cs,cA (.loc m) cs (S l).b=(S l).b++[(.loc m,cs)]:=fun l m cs=>kg (ax l m);have ay:∀m,aI.loc m∉c2 (S d.toList):=j9 ag.obj;have hle:=H.le;refine bI.mk mixed oQ afB amC Ψ ag.obj fun aM cR=>?_;unfold Sn;simp[e9,hu,ay,cK,ax];have ak:((a:Int)+1)=(a+1:Nat):=Ω
 (with_reducible repeat' first|refine ai ?_|simp);rw[ak];refine H.loopA au [1,2,3] (fun(x:(Nat×Nat)×Array α)=>[(7,.int .i64 x.1.1),(8,.int .i64 x.1.2)]) (·.2) (fun x=>5-x.1.2) (fun x=>x.2.size=n/\(a+1<=x.1.1/\x.1.1<=b/\x.1.2<=5)/\Sort.partialIns lt a b (5-x.1.2) x.1.1 x.2=R) ((a+1,0),d) aR ⟨aR,⟨Ψ,by simp;omega,Ψ⟩,aU.symm⟩ (by simp[cK,ax]) aN aN d6 ?_;rintro⟨⟨i0,s⟩,cu⟩ ⟨aS,⟨be,b8,eg⟩,dm⟩;simp only at aS be b8 eg dm;simp;((with_reducible repeat' first|refine ai ?_|simp|((first|apply bU|apply bY|apply bX)<;>intro h<;>try simp at h))<;>(try exact cz))
 ·obtain⟨m,hm⟩:∃m,5-s=m+1:=⟨5-s-1,Ω⟩;rw[hm,Sort.partialIns]at dm;refine H.loopA au [1,2,3,8] (fun(x:Nat)=>[(7,.int .i64 x)]) (fun _=>cu) (fun x=>b-x) (fun x=>i0<=x/\x<=b/\Sort.scanSorted lt cu b x=Sort.scanSorted lt cu b i0) i0 aS ⟨Ω,Ω,rfl⟩ (by simp[Pv.look]) aN aN d6 ?_;rintro i ⟨i1,i2,i3⟩;rw[Sort.scanSorted]at i3;have p2:((i:Int)+1)=(i+1:Nat):=Ω
  have Gi:((i:Int)-1)=(i-1:Nat):=Ω
  have es:((s:Int)+1)=(s+1:Nat):=Ω
  have em:5-(s+1)=m:=Ω
  simp[Pv.look,H.slc];((with_reducible repeat' first|refine ai ?_|simp[Pv.look,H.slc]|((first|apply bU|apply bY|apply bX)<;>intro h<;>try simp at h))<;>(try exact cz))
  ·rw[Gi];refine H.lessA aS i (i-1) Ω Ω fun o=>?_;cases ab:lt cu[i]! cu[i-1]!
   ·rw[if_pos (by simp[ab];omega)]at i3;simp;(with_reducible repeat' first|refine ai ?_|simp);rw[p2];refine bK.whl (i+1) Ω ⟨Ω,Ω,i3⟩ (H.weakC au (by simpa using aS) d6)
   ·rw[if_neg (by simp[ab])]at i3;simp only[<-i3]at dm;rw[if_neg Ω]at dm;have A0:(i:Int)≠b:=Ω
    have aia:((i:Int)==b)=false:=by simp;omega
    simp;((with_reducible repeat' first|refine ai ?_|simp[A0,aia,Pv.look,H.slc,H.ssc]|((first|apply bU|apply bY|apply bX)<;>intro h<;>try simp at h))<;>(try exact cz))
    ·rw[if_pos Ω]at dm;refine H.retR au (d:=cu) aS (.inl rfl) ?_;simp[cN,Ir,aX,aZ,aW];rw[<-dm];exact⟨rfl,_,rfl,rfl,aS⟩
    ·rw[if_neg Ω]at dm;rw[Gi];refine H.swapA aS U i (i-1) Ω Ω fun o=>?_;obtain⟨d2,e2⟩:∃d2,d2=Sort.swp cu i (i-1):=⟨_,rfl⟩;have s2:d2.size=n:=by rw[e2,hl,aS]
     rw[<-e2];simp only[<-e2]at dm;by_cases kD:2<=b-i
     ·rw[if_pos kD]at dm;have tU:(2:Int)<=(b:Int)-i:=Ω
      by_cases Dp:2<=i-a
      ·rw[if_pos Dp]at dm;have yE:(2:Int)<=(i:Int)-a:=Ω
       simp;(with_reducible repeat' first|refine ai ?_|simp[yE]);rw[Gi];refine H.loopA au [1,2,3,7,8] (fun(x:Nat×Array α)=>[(9,.int .i64 x.1)]) (·.2) (fun x=>x.1) (fun x=>x.2.size=n/\x.1<=i-1/\Sort.shiftDown lt x.1 x.2=Sort.shiftDown lt (i-1) d2) (i-1,d2) s2 ⟨s2,Ψ,rfl⟩ (by simp[Pv.look]) aN aN d6 ?_;rintro⟨j,ga⟩ ⟨hj,xb,hA⟩;simp only at hj xb hA;simp[Pv.look,H.slc,H.ssc];((with_reducible repeat' first|refine ai ?_|simp[Pv.look,H.slc,H.ssc,tU]|((first|apply bU|apply bY|apply bX)<;>intro h<;>try simp at h))<;>(try exact cz))
       ·obtain⟨j,rfl⟩:∃dT,j=dT+1:=⟨j-1,Ω⟩;have pb:(((j+1:Nat):Int)-1)=(j:Nat):=Ω
        rw[Sort.shiftDown]at hA;try rw[pb]
        refine H.lessA hj (j+1) j Ω Ω fun o=>?_;cases aL:lt ga[j+1]! ga[j]!
        ·rw[if_pos (by simp[aL])]at hA;rw[<-hA]at dm;try simp
         try(with_reducible repeat' first|refine ai ?_|simp[Pv.look,H.slc,H.ssc,tU])
         rw[p2];refine H.loopA au [1,2,3,7,8] (fun(x:Nat×Array α)=>[(10,.int .i64 x.1)]) (·.2) (fun x=>b-x.1) (fun x=>x.2.size=n/\(i+1<=x.1/\x.1<=b)/\Sort.shiftUp lt b x.1 x.2=Sort.shiftUp lt b (i+1) ga) (i+1,ga) hj ⟨hj,⟨Ψ,by simp;omega⟩,rfl⟩ (by simp[Pv.look]) aN aN d6 ?_;rintro⟨q,nG⟩ ⟨ba,⟨bo,zt⟩,b3⟩;simp only at ba bo zt b3;rw[Sort.shiftUp]at b3;have eq:((q:Int)-1)=(q-1:Nat):=Ω
         have CU:((q:Int)+1)=(q+1:Nat):=Ω
         simp[Pv.look,H.slc,H.ssc];((with_reducible repeat' first|refine ai ?_|simp[Pv.look,H.slc,H.ssc]|((first|apply bU|apply bY|apply bX)<;>intro h<;>try simp at h))<;>(try exact cz))
         ·rw[if_pos Ω]at b3;rw[eq];refine H.lessA ba q (q-1) Ω Ω fun o=>?_;cases bz:lt nG[q]! nG[q-1]!
          ·rw[if_pos (by simp[bz])]at b3;rw[<-b3]at dm;simp;(with_reducible repeat' first|refine ai ?_|simp);rw[es];refine bK.whl ((i,s+1),nG) d7 ⟨ba,⟨by simp;omega,by simp;omega,by simp;omega⟩,by simp only[em];exact dm⟩ (H.weakC au (by simpa using ba) d6)
          ·rw[if_neg (by simp[bz])]at b3;simp;(with_reducible repeat' first|refine ai ?_|simp[Pv.look,H.slc,H.ssc]);rw[eq];refine H.swapA ba Ω q (q-1) Ω Ω fun o=>?_;simp;((with_reducible repeat' first|refine ai ?_|simp|((first|apply bU|apply bY|apply bX)<;>intro h<;>try simp at h))<;>(try exact cz));rw[CU];refine bK.whl (q+1,Sort.swp nG q (q-1)) d7 ⟨by rw[hl,ba],⟨by simp;omega,by simp;omega⟩,b3⟩ (H.weakC au (by simp[hl,ba]) d6)
         ·rw[if_neg Ω]at b3;rw[<-b3]at dm;rw[es];refine bK.whl ((i,s+1),nG) d7 ⟨ba,⟨by simp;omega,by simp;omega,by simp;omega⟩,by simp only[em];exact dm⟩ (H.weakC au (by simpa using ba) d6)
        ·rw[if_neg (by simp[aL])]at hA;simp;(with_reducible repeat' first|refine ai ?_|simp[Pv.look,H.slc,H.ssc]);try rw[pb]
         refine H.swapA hj U (j+1) j Ω Ω fun o=>?_;simp;((with_reducible repeat' first|refine ai ?_|simp|((first|apply bU|apply bY|apply bX)<;>intro h<;>try simp at h))<;>(try exact cz));try rw[pb]
         refine bK.whl (j,Sort.swp ga (j+1) j) Ψ ⟨by rw[hl,hj],by simp;omega,hA⟩ (H.weakC au (by simp[hl,hj]) d6)
       ·obtain rfl:j=0:=Ω
        rw[Sort.shiftDown]at hA;rw[<-hA]at dm;try simp
        try(with_reducible repeat' first|refine ai ?_|simp[Pv.look,H.slc,H.ssc,tU])
        rw[p2];refine H.loopA au [1,2,3,7,8] (fun(x:Nat×Array α)=>[(10,.int .i64 x.1)]) (·.2) (fun x=>b-x.1) (fun x=>x.2.size=n/\(i+1<=x.1/\x.1<=b)/\Sort.shiftUp lt b x.1 x.2=Sort.shiftUp lt b (i+1) ga) (i+1,ga) hj ⟨hj,⟨Ψ,by simp;omega⟩,rfl⟩ (by simp[Pv.look]) aN aN d6 ?_;rintro⟨q,nG⟩ ⟨ba,⟨bo,zt⟩,b3⟩;simp only at ba bo zt b3;rw[Sort.shiftUp]at b3;have eq:((q:Int)-1)=(q-1:Nat):=Ω
        have CU:((q:Int)+1)=(q+1:Nat):=Ω
        simp[Pv.look,H.slc,H.ssc];((with_reducible repeat' first|refine ai ?_|simp[Pv.look,H.slc,H.ssc]|((first|apply bU|apply bY|apply bX)<;>intro h<;>try simp at h))<;>(try exact cz))
        ·rw[if_pos Ω]at b3;rw[eq];refine H.lessA ba q (q-1) Ω Ω fun o=>?_;cases bz:lt nG[q]! nG[q-1]!
         ·rw[if_pos (by simp[bz])]at b3;rw[<-b3]at dm;simp;(with_reducible repeat' first|refine ai ?_|simp);rw[es];refine bK.whl ((i,s+1),nG) d7 ⟨ba,⟨by simp;omega,by simp;omega,by simp;omega⟩,by simp only[em];exact dm⟩ (H.weakC au (by simpa using ba) d6)
         ·rw[if_neg (by simp[bz])]at b3;simp;(with_reducible repeat' first|refine ai ?_|simp[Pv.look,H.slc,H.ssc]);rw[eq];refine H.swapA ba Ω q (q-1) Ω Ω fun o=>?_;simp;((with_reducible repeat' first|refine ai ?_|simp|((first|apply bU|apply bY|apply bX)<;>intro h<;>try simp at h))<;>(try exact cz));rw[CU];refine bK.whl (q+1,Sort.swp nG q (q-1)) d7 ⟨by rw[hl,ba],⟨by simp;omega,by simp;omega⟩,b3⟩ (H.weakC au (by simp[hl,ba]) d6)
        ·rw[if_neg Ω]at b3;rw[<-b3]at dm;rw[es];refine bK.whl ((i,s+1),nG) d7 ⟨ba,⟨by simp;omega,by simp;omega,by simp;omega⟩,by simp only[em];exact dm⟩ (H.weakC au (by simpa using ba) d6)
      ·rw[if_neg Dp]at dm;have yE:¬(2:Int)<=(i:Int)-a:=Ω
       simp;(with_reducible repeat' first|refine ai ?_|simp[yE,tU]);try simp
       try(with_reducible repeat' first|refine ai ?_|simp[Pv.look,H.slc,H.ssc,tU])
       rw[p2];refine H.loopA au [1,2,3,7,8] (fun(x:Nat×Array α)=>[(10,.int .i64 x.1)]) (·.2) (fun x=>b-x.1) (fun x=>x.2.size=n/\(i+1<=x.1/\x.1<=b)/\Sort.shiftUp lt b x.1 x.2=Sort.shiftUp lt b (i+1) d2) (i+1,d2) s2 ⟨s2,⟨Ψ,by simp;omega⟩,rfl⟩ (by simp[Pv.look]) aN aN d6 ?_;rintro⟨q,nG⟩ ⟨ba,⟨bo,zt⟩,b3⟩;simp only at ba bo zt b3;rw[Sort.shiftUp]at b3;have eq:((q:Int)-1)=(q-1:Nat):=Ω
       have CU:((q:Int)+1)=(q+1:Nat):=Ω
       simp[Pv.look,H.slc,H.ssc];((with_reducible repeat' first|refine ai ?_|simp[Pv.look,H.slc,H.ssc]|((first|apply bU|apply bY|apply bX)<;>intro h<;>try simp at h))<;>(try exact cz))
       ·rw[if_pos Ω]at b3;rw[eq];refine H.lessA ba q (q-1) Ω Ω fun o=>?_;cases bz:lt nG[q]! nG[q-1]!
        ·rw[if_pos (by simp[bz])]at b3;rw[<-b3]at dm;simp;(with_reducible repeat' first|refine ai ?_|simp);rw[es];refine bK.whl ((i,s+1),nG) d7 ⟨ba,⟨by simp;omega,by simp;omega,by simp;omega⟩,by simp only[em];exact dm⟩ (H.weakC au (by simpa using ba) d6)
        ·rw[if_neg (by simp[bz])]at b3;simp;(with_reducible repeat' first|refine ai ?_|simp[Pv.look,H.slc,H.ssc]);rw[eq];refine H.swapA ba Ω q (q-1) Ω Ω fun o=>?_;simp;((with_reducible repeat' first|refine ai ?_|simp|((first|apply bU|apply bY|apply bX)<;>intro h<;>try simp at h))<;>(try exact cz));rw[CU];refine bK.whl (q+1,Sort.swp nG q (q-1)) d7 ⟨by rw[hl,ba],⟨by simp;omega,by simp;omega⟩,b3⟩ (H.weakC au (by simp[hl,ba]) d6)
       ·rw[if_neg Ω]at b3;rw[<-b3]at dm;rw[es];refine bK.whl ((i,s+1),nG) d7 ⟨ba,⟨by simp;omega,by simp;omega,by simp;omega⟩,by simp only[em];exact dm⟩ (H.weakC au (by simpa using ba) d6)
     ·rw[if_neg kD]at dm;have tU:¬(2:Int)<=(b:Int)-i:=Ω
      by_cases Dp:2<=i-a
      ·rw[if_pos Dp]at dm;have yE:(2:Int)<=(i:Int)-a:=Ω
       simp;(with_reducible repeat' first|refine ai ?_|simp[yE]);rw[Gi];refine H.loopA au [1,2,3,7,8] (fun(x:Nat×Array α)=>[(9,.int .i64 x.1)]) (·.2) (fun x=>x.1) (fun x=>x.2.size=n/\x.1<=i-1/\Sort.shiftDown lt x.1 x.2=Sort.shiftDown lt (i-1) d2) (i-1,d2) s2 ⟨s2,Ψ,rfl⟩ (by simp[Pv.look]) aN aN d6 ?_;rintro⟨j,ga⟩ ⟨hj,xb,hA⟩;simp only at hj xb hA;simp[Pv.look,H.slc,H.ssc];((with_reducible repeat' first|refine ai ?_|simp[Pv.look,H.slc,H.ssc,tU]|((first|apply bU|apply bY|apply bX)<;>intro h<;>try simp at h))<;>(try exact cz))
       ·obtain⟨j,rfl⟩:∃dT,j=dT+1:=⟨j-1,Ω⟩;have pb:(((j+1:Nat):Int)-1)=(j:Nat):=Ω
        rw[Sort.shiftDown]at hA;try rw[pb]
        refine H.lessA hj (j+1) j Ω Ω fun o=>?_;cases aL:lt ga[j+1]! ga[j]!
        ·rw[if_pos (by simp[aL])]at hA;rw[<-hA]at dm;try simp
         try(with_reducible repeat' first|refine ai ?_|simp[Pv.look,H.slc,H.ssc,tU])
         rw[es];refine bK.whl ((i,s+1),ga) d7 ⟨hj,⟨by simp;omega,by simp;omega,by simp;omega⟩,by simp only[em];exact dm⟩ (H.weakC au (by simpa using hj) d6)
        ·rw[if_neg (by simp[aL])]at hA;simp;(with_reducible repeat' first|refine ai ?_|simp[Pv.look,H.slc,H.ssc]);try rw[pb]
         refine H.swapA hj U (j+1) j Ω Ω fun o=>?_;simp;((with_reducible repeat' first|refine ai ?_|simp|((first|apply bU|apply bY|apply bX)<;>intro h<;>try simp at h))<;>(try exact cz));try rw[pb]
         refine bK.whl (j,Sort.swp ga (j+1) j) Ψ ⟨by rw[hl,hj],by simp;omega,hA⟩ (H.weakC au (by simp[hl,hj]) d6)
       ·obtain rfl:j=0:=Ω
        rw[Sort.shiftDown]at hA;rw[<-hA]at dm;try simp
        try(with_reducible repeat' first|refine ai ?_|simp[Pv.look,H.slc,H.ssc,tU])
        rw[es];refine bK.whl ((i,s+1),ga) d7 ⟨hj,⟨by simp;omega,by simp;omega,by simp;omega⟩,by simp only[em];exact dm⟩ (H.weakC au (by simpa using hj) d6)
      ·rw[if_neg Dp]at dm;have yE:¬(2:Int)<=(i:Int)-a:=Ω
       simp;((with_reducible repeat' first|refine ai ?_|simp[yE,tU]|((first|apply bU|apply bY|apply bX)<;>intro h<;>try simp at h))<;>(try exact cz));done
  ·rw[if_neg d7]at i3;simp only[<-i3]at dm;rw[if_pos Ω]at dm;refine H.retR au (d:=cu) aS (.inl rfl) ?_;simp[cN,Ir,aX,aZ,aW];rw[<-dm];exact⟨rfl,_,rfl,rfl,aS⟩
 ·have:5-s=0:=Ω
  rw[this,Sort.partialIns]at dm;refine H.retR au (d:=cu) aS (.inl rfl) ?_;simp[cN,Ir,aX,aZ,aW];rw[<-dm];exact⟨rfl,_,rfl,rfl,aS⟩
end
section
open Go Go.Pv
variable {α:Type} [Inhabited α] {S:List α->cL} {n g cg:Nat} {lc cc:List aj} {lt:α->α->Bool}
def fm(S:List α->cL)(d:Array α)(v:Nat):cL:=⟨(.obj 901,[.int .i64 v])::(S d.toList).b,(S d.toList).e⟩
def sT(S:List α->cL)(m:Nat):Prop:= ∀l,Pv.look (.obj m) (S l).b=none/\Pv.look (.obj m) (S l).e=none
theorem oj(H:fi S n g cg lc cc lt)(d:Array α)(v:Nat):dW (fm S d v):=by
 have h:=H.ok d.toList;have jS:∀k,inObs (S d.toList) k->inObs (fm S d v) k:=fun k ad=>by
  rcases ad with ad|ad
  ·refine .inl ?_;simp only[fm,Pv.look];split
   ·rfl
   ·exact ad
  ·exact .inr ad
 refine⟨⟨fun m=>?_,h.obj.2⟩,fun k cs ad=>?_,fun k o ay xs ab=>km jS _ (h.ke k o ay xs ab)⟩
 ·simp[fm,Pv.look,h.obj.1 m]
 ·simp only[fm,Pv.look]at ad;split at ad
  ·cases ad;simp[aC,aB]
  ·exact km jS _ (h.kb k cs ad)
theorem tq(d:Array α)(v v':Nat):Same (fm S d v) (fm S d v'):=⟨fun k=>by simp only[fm,Pv.look];split<;>rfl,fun _=>rfl⟩
theorem Lp(H:fi S n g cg lc cc lt)(ad:sT S 901)(d:Array α)(aR:d.size=n)(a b v:Nat)(bD:a<n)(af:b<n)(aF:v<=1000):
  bI al 285 [e9 g cg lc cc,.int .i64 a,.int .i64 b,.ptr (.obj 901) 0] (fm S d v) fun r ah=>r= .tuple [.int .i64 (Sort.order2 lt d a b v).1,.int .i64 (Sort.order2 lt d a b v).2.1]/\ah=fm S d (Sort.order2 lt d a b v).2.2:=by
 have ag:=H.ok d.toList;have au:d.toList.length=n:=by simpa using aR
 have ax:∀l m,Pv.look (.loc m) (S l).b=none:=fun l=>(H.ok l).obj.1;have hu:∀l m cs,cA (.loc m) cs (S l).b=(S l).b++[(.loc m,cs)]:=fun l m cs=>kg (ax l m);have ay:∀m,aI.loc m∉c2 (S d.toList):=j9 ag.obj;have gI:∀l,Pv.look (.obj 901) (S l).b=none:=fun l=>(ad l).1;have lB:∀l,Pv.look (.obj 901) (S l).e=none:=fun l=>(ad l).2;have hle:=H.le;have kU:=oj H d v;obtain⟨R,aU⟩:∃R,R=Sort.order2 lt d a b v:=⟨_,rfl⟩;rw[<-aU];unfold Sort.order2 at aU;refine bI.mk mixed oQ afA amB Ψ kU.obj fun aM cR=>?_;unfold Sm;have l4:aI.loc 0∉c2 (fm S d v):=j9 kU.obj 0;generalize vv:c2 (fm S d v)=ob at l4⊢;unfold fm;simp[e9,hu,l4,cK,ax,Pv.look,cA];rw[H.slc];refine cV.ob (H.less d.toList au b a _ _ (Ac Ω) (Ac Ω)) (H.ok _) (fun k cs ab=>?_) (fun _ _ ab=>ab) (by simp[aB,aC,H.klc d.toList au]) ?_
 ·simp only[Pv.look];split
  ·rename_i e;subst e;rw[gI]at ab;cases ab
  ·rw[cK,ab]
 rintro r ah ⟨rfl,rfl⟩;refine⟨Same.refl _,?_⟩;have hw:cl (S d.toList).b ((aI.obj 901,[aj.int .i64 v])::((S d.toList).b++[(aI.loc 0,[aj.func g lc,aj.func cg cc])]))=[(aI.obj 901,[aj.int .i64 v]),(aI.loc 0,[aj.func g lc,aj.func cg cc])]:=by simp only[cl,gI];rw[im,gW];simp[cl,ax]
 rw[hw,gW];have dX:∀(t:List (Nat×aj)) (o:List aI) (v':Nat) (D:List aj) (x y:Nat),Pv.get 8 t= .int .i64 x->Pv.get 9 t= .int .i64 y->R=(x,y,v')->
   cH Ow (fm S d v) (fun r ah=>r= .tuple [.int .i64 R.1,.int .i64 R.2.1]/\ah=fm S d R.2.2) .ret ⟨t,(aI.obj 901,[.int .i64 v'])::(aI.loc 0,D)::(S d.toList).b,(S d.toList).e,1,o⟩:=by
  rintro t o v' D x y ab aL rfl;refine cH.at (fm S d v') (.inl rfl) (oj H d v') (tq _ _ _) (fun k cs aw=>?_) (fun _ _ aw=>aw) ?_
  ·simp only[fm,Pv.look]at aw⊢;split at aw
   ·rename_i e;rw[if_pos e];exact aw
   ·rename_i e;rw[if_neg e];split
    ·rename_i aD;subst aD;rw[ax]at aw;cases aw
    ·exact aw
  ·simp[cN,Ow,aX,aZ,aW,ab,aL]
 cases ab:lt d[b]! d[a]! with
 |true=>
  rw[if_pos ab]at aU;simp[Pv.look,cA];(with_reducible repeat' first|refine ai ?_|simp[Pv.look,cA]);have ak:((v:Int)+1)=(v+1:Nat):=Ω
  rw[ak];exact dX _ _ (v+1) _ b a rfl rfl aU
 |false=>rw[if_neg (by simp[ab])]at aU;simp[Pv.look,cA];exact dX _ _ v _ a b rfl rfl aU
theorem XA{s ah:cL}{f:Nat}{args:List aj}{r:aj}(aK:bI al f args s fun eZ da=>eZ=r/\da=ah)(ag:dW s)(fq:Same s ah)(ad:aC (inObs s) args){t:List (Nat×aj)}{D:List aj}{o:List aI}{d:Option Nat}{K:bu->Prop}
  (h:∀o,K ⟨e4 d r t,(.loc 0,D)::ah.b,ah.e,1,o⟩):cV al f args ⟨t,s.b++[(.loc 0,D)],s.e,1,o⟩ d K:=by
 refine cV.ob aK ag (fun k cs ab=>by rw[cK,ab]) (fun _ _ ab=>ab) ad ?_;rintro r ah ⟨rfl,rfl⟩;refine⟨fq,?_⟩;have ak:cl s.b (s.b++[(.loc 0,D)])=[(.loc 0,D)]:=by rw[im,gW];simp[cl,ag.obj.1 0]
 have aD:cl s.e s.e=[]:=gW _;simp only[ak,aD];exact h _
theorem Ek{s ah:cL}{f:Nat}{args:List aj}{r:aj}(aK:bI al f args s fun eZ da=>eZ=r/\da=ah)(ag:dW s)(fq:Same s ah)(ad:aC (inObs s) args){t:List (Nat×aj)}{D:List aj}{o:List aI}{d:Option Nat}{K:bu->Prop}
  (h:∀o,K ⟨e4 d r t,(.loc 0,D)::ah.b,ah.e,1,o⟩):cV al f args ⟨t,(.loc 0,D)::s.b,s.e,1,o⟩ d K:=by
 refine cV.ob aK ag (fun k cs ab=>?_) (fun _ _ ab=>ab) ad ?_
 ·cases k with
  |loc m=>rw[ag.obj.1 m]at ab;cases ab
  |obj m=>simpa[Pv.look]using ab
 rintro r ah ⟨rfl,rfl⟩;refine⟨fq,?_⟩;have ak:cl s.b ((.loc 0,D)::s.b)=[(.loc 0,D)]:=by have:=im s.b [(aI.loc 0,D)] s.b;rw[gW]at this;simpa[cl,ag.obj.1 0]using this
 have aD:cl s.e s.e=[]:=gW _;simp only[ak,aD];exact h _
theorem BR{d:Array α}{a b v n:Nat}(bD:a<n)(af:b<n):(Sort.order2 lt d a b v).1<n/\(Sort.order2 lt d a b v).2.1<n/\(Sort.order2 lt d a b v).2.2<=v+1:=by unfold Sort.order2;split<;>simp<;>omega
theorem vE(H:fi S n g cg lc cc lt){d:Array α}(aR:d.size=n){v:Nat}:aB (inObs (fm S d v)) (e9 g cg lc cc)/\aB (inObs (fm S d v)) (.ptr (.obj 901) 0):=by
 refine⟨xh (fun k ad=>?_) _ (H.kdata (lk:=d.toList) (by simpa using aR)),by simp[aB,inObs,fm,Pv.look]⟩;rcases ad with ad|ad
 ·refine .inl ?_;simp only[fm,Pv.look];split
  ·rfl
  ·exact ad
 ·exact .inr ad
theorem Zl(H:fi S n g cg lc cc lt){d:Array α}{v v':Nat}{fx:List bO}{Q:aj->cL->Prop}{t:List (Nat×aj)}{D:List aj}{o:List aI}(h:cN ⟨t,(.loc 0,D)::(fm S d v').b,(S d.toList).e,1,o⟩ fx fun r=>aB (inObs (fm S d v')) r/\Q r (fm S d v')):
  cH fx (fm S d v) Q .ret ⟨t,(.loc 0,D)::(fm S d v').b,(S d.toList).e,1,o⟩:=by
 refine cH.at (fm S d v') (.inl rfl) (oj H d v') (tq _ _ _) (fun k cs ab=>?_) (fun _ _ aw=>aw) h;cases k with
 |loc m=>rw[(oj H d v').obj.1 m]at ab;cases ab
 |obj m=>simpa[Pv.look]using ab
theorem Lm(H:fi S n g cg lc cc lt)(ad:sT S 901)(d:Array α)(aR:d.size=n)(a b c v:Nat)(bD:a<n)(af:b<n)(aw:c<n)(aF:v<=900):
  bI al 282 [e9 g cg lc cc,.int .i64 a,.int .i64 b,.int .i64 c,.ptr (.obj 901) 0] (fm S d v) fun r ah=>r= .int .i64 (Sort.median lt d a b c v).1/\ah=fm S d (Sort.median lt d a b c v).2:=by
 have kU:=oj H d v;have po:∀v m,Pv.look (.loc m) (fm S d v).b=none:=fun v=>(oj H d v).obj.1;have Mt:∀v m cs,cA (.loc m) cs (fm S d v).b=(fm S d v).b++[(.loc m,cs)]:=fun v m cs=>kg (po v m);have l4:aI.loc 0∉c2 (fm S d v):=j9 kU.obj 0;obtain⟨R,aU⟩:∃R,R=Sort.median lt d a b c v:=⟨_,rfl⟩;rw[<-aU];unfold Sort.median at aU;have ba:=BR (lt:=lt) (d:=d) (v:=v) bD af;have aS:=Lp H ad d aR a b v bD af Ω;generalize Sort.order2 lt d a b v=dC at ba aS aU;obtain⟨tf,ja,v1⟩:=dC;simp only at ba aS aU;have bo:=BR (lt:=lt) (d:=d) (v:=v1) ba.2.1 aw;have be:=Lp H ad d aR ja c v1 ba.2.1 aw Ω;generalize Sort.order2 lt d ja c v1=eH at bo be aU;obtain⟨zU,oe,v2⟩:=eH;simp only at bo be aU;have b3:=BR (lt:=lt) (d:=d) (v:=v2) ba.1 bo.1;have b8:=Lp H ad d aR tf zU v2 ba.1 bo.1 Ω;generalize Sort.order2 lt d tf zU v2=ln at b3 b8 aU;obtain⟨tg,Jv,v3⟩:=ln;simp only at b3 b8 aU;refine bI.mk mixed oQ afy amz Ψ kU.obj fun aM cR=>?_;unfold Sk;simp[e9,Mt,l4,cK,po];simp only[iM H,H.slc,H.ssc,iG];refine XA aS (oj H d v) (tq _ _ _) (by simp[aB,aC,(vE H aR).1];exact(vE H aR).2) fun o=>?_;simp[Pv.look];simp only[iM H,H.slc,H.ssc,iG];refine Ek be (oj H d v1) (tq _ _ _) (by simp[aB,aC,(vE H aR).1];exact(vE H aR).2) fun o=>?_;simp[Pv.look];simp only[iM H,H.slc,H.ssc,iG];refine Ek b8 (oj H d v2) (tq _ _ _) (by simp[aB,aC,(vE H aR).1];exact(vE H aR).2) fun o=>?_;simp;refine Zl H ?_;simp[cN,YM,aX,aZ,aW];rw[aU];exact⟨rfl,rfl⟩
theorem Ln(H:fi S n g cg lc cc lt)(ad:sT S 901)(d:Array α)(aR:d.size=n)(a v:Nat)(bD:a+1<n)(lA:1<=a)(aF:v<=900):
  bI al 281 [e9 g cg lc cc,.int .i64 a,.ptr (.obj 901) 0] (fm S d v) fun r ah=>r= .int .i64 (Sort.medianAdjacent lt d a v).1/\ah=fm S d (Sort.medianAdjacent lt d a v).2:=by
 have kU:=oj H d v;have po:∀v m,Pv.look (.loc m) (fm S d v).b=none:=fun v=>(oj H d v).obj.1;have Mt:∀v m cs,cA (.loc m) cs (fm S d v).b=(fm S d v).b++[(.loc m,cs)]:=fun v m cs=>kg (po v m);have l4:aI.loc 0∉c2 (fm S d v):=j9 kU.obj 0;have hle:=H.le;have aS:=Lm H ad d aR (a-1) a (a+1) v Ω Ω Ω aF;unfold Sort.medianAdjacent;refine bI.mk mixed oQ afx amy Ψ kU.obj fun aM cR=>?_;unfold Sj;have ak:((a:Int)-1)=(a-1:Nat):=Ω
 have aD:((a:Int)+1)=(a+1:Nat):=Ω
 simp[e9,Mt,l4,cK,po];(with_reducible repeat' first|refine ai ?_|simp);simp only[iM H,H.slc,H.ssc,iG,ak,aD];refine XA aS (oj H d v) (tq _ _ _) (by simp[aB,aC,(vE H aR).1];exact(vE H aR).2) fun o=>?_;simp;refine Zl H ?_;simp[cN,YL,aX,aZ,aW]
theorem XB{m:Nat}(h:sT S m)(l:List α):aI.obj m∉c2 (S l):=fun hm=>by
 rcases VX hm with J|J
 ·rw[(h l).1]at J;cases J
 ·rw[(h l).2]at J;cases J
theorem Ec{d:Array α}{a b c v n:Nat}(bD:a<n)(af:b<n)(aw:c<n):(Sort.median lt d a b c v).1<n/\(Sort.median lt d a b c v).2<=v+3:=by have ba:=BR (lt:=lt) (d:=d) (v:=v) bD af;have bo:=BR (lt:=lt) (d:=d) (v:=(Sort.order2 lt d a b v).2.2) ba.2.1 aw;have b3:=BR (lt:=lt) (d:=d) (v:=(Sort.order2 lt d (Sort.order2 lt d a b v).2.1 c (Sort.order2 lt d a b v).2.2).2.2) ba.1 bo.1;refine⟨b3.2.1,kJ b3.2.2 ?_⟩;omega
def A1:Sort.Hint->Int
 | .unknown=>0
 | .increasing=>1
 | .decreasing=>2
theorem agM(H:fi S n g cg lc cc lt)(ad:sT S 901)(d:Array α)(aR:d.size=n)(a b:Nat)(nM:a<b)(af:b<=n):
  bI al 263 [e9 g cg lc cc,.int .i64 a,.int .i64 b] (S d.toList) fun r ah=>r= .tuple [.int .i64 (Sort.choosePivot lt d a b).1,.int .i64 (A1 (Sort.choosePivot lt d a b).2)]/\ah=S d.toList:=by
 have ag:=H.ok d.toList;have au:d.toList.length=n:=by simpa using aR
 have ax:∀l m,Pv.look (.loc m) (S l).b=none:=fun l=>(H.ok l).obj.1;have hu:∀l m cs,cA (.loc m) cs (S l).b=(S l).b++[(.loc m,cs)]:=fun l m cs=>kg (ax l m);have ay:∀m,aI.loc m∉c2 (S d.toList):=j9 ag.obj;have gI:∀l,Pv.look (.obj 901) (S l).b=none:=fun l=>(ad l).1;have lB:∀l,Pv.look (.obj 901) (S l).e=none:=fun l=>(ad l).2;have hle:=H.le;have l4:=XB ad d.toList;obtain⟨R,aU⟩:∃R,R=Sort.choosePivot lt d a b:=⟨_,rfl⟩;rw[<-aU];unfold Sort.choosePivot at aU;refine bI.mk mixed oQ afv amw Ψ ag.obj fun aM cR=>?_;unfold Sh;have yW:∀l D cs,cA (.obj 901) cs ((S l).b++[(.loc 0,D)])=(S l).b++[(.loc 0,D),(.obj 901,cs)]:=fun l D cs=>by rw[Co (gI l)];rfl
 obtain⟨q,bn⟩:∃q,q=(b-a)/4:=⟨_,rfl⟩;have dk:IntKind.i64.wrap (((b:Int)-a).tdiv 4)=(q:Nat):=by rw[show((b:Int)-a)=((b-a:Nat):Int) by omega,Int.tdiv_eq_ediv_of_nonneg Ω,pN _ Ω];omega
 simp[e9,hu,yW,ay,l4,cK,ax,gI,lB,Pv.look,cA];have dX:∀(t:List (Nat×aj)) (o:List aI) (b4:List (aI×List aj)) (x:Nat) (h:Sort.Hint),Pv.get 6 t= .int .i64 x->Pv.get 7 t= .int .i64 (A1 h)->R=(x,h)->(∀k cs,Pv.look k (S d.toList).b=some cs->Pv.look k b4=some cs)->
   cH Ov (S d.toList) (fun r ah=>r= .tuple [.int .i64 R.1,.int .i64 (A1 R.2)]/\ah=S d.toList) .ret ⟨t,b4,(S d.toList).e,1,o⟩:=by
  rintro t o b4 x h ab aL rfl gb;refine cH.at (S d.toList) (.inl rfl) ag (Same.refl _) gb (fun _ _ aw=>aw) ?_;simp[cN,Ov,aX,aZ,aW,ab,aL]
 have AO:∀(D:List aj) (v:Nat) k cs,Pv.look k (S d.toList).b=some cs->Pv.look k ((.loc 0,D)::(fm S d v).b)=some cs:=fun D v k cs h=>by
  simp only[fm,Pv.look];split
  ·rename_i e;subst e;rw[ax]at h;cases h
  ·split
   ·rename_i e;subst e;rw[gI]at h;cases h
   ·exact h
 have UX:∀{f:Nat} {args:List aj} {r:aj} {v:Nat},(bI al f args (fm S d 0) fun eZ da=>eZ=r/\da=fm S d v)->aC (inObs (fm S d 0)) args->∀{t:List (Nat×aj)} {D:List aj} {o:List aI} {cd:Option Nat} {K:bu->Prop},(∀o,K ⟨e4 cd r t,(.loc 0,D)::(fm S d v).b,(S d.toList).e,1,o⟩)->
   cV al f args ⟨t,(S d.toList).b++[(.loc 0,D),(.obj 901,[.int .i64 0])],(S d.toList).e,1,o⟩ cd K:=by
  intro f args r v aK hK t D o cd K h;refine cV.ob aK (oj H d 0) (fun k cs ab=>?_) (fun _ _ ab=>ab) hK ?_
  ·simp only[fm,Pv.look]at ab;rw[cK];split at ab
   ·rename_i e;subst e;rw[gI];simp[Pv.look];simpa using ab
   ·rw[ab]
  rintro r ah ⟨rfl,rfl⟩;refine⟨tq _ _ _,?_⟩;have ak:cl (fm S d 0).b ((S d.toList).b++[(.loc 0,D),(.obj 901,[.int .i64 0])])=[(.loc 0,D)]:=by
   rw[im];have:cl (fm S d 0).b (S d.toList).b=[]:=P1 _ _ fun k x hm=>by
    have:=vJ hm;simp only[fm,Pv.look];split
    ·rfl
    ·exact this
   rw[this];simp[cl,fm,Pv.look,ax]
  have aD:cl (fm S d 0).e (S d.toList).e=[]:=gW _;simp only[ak,aD];exact h _
 have hK:=fun(v:Nat)=>(vE H aR (v:=v));have f1:((a:Int)+q)=(a+q:Nat):=Ω
 have f2:((a:Int)+q*2)=(a+q*2:Nat):=Ω
 have f3:((a:Int)+q*3)=(a+q*3:Nat):=Ω
 dsimp only at aU;rw[<-bn,Nat.mul_one]at aU;by_cases oB:b-a<8
 ·have GA:¬(8:Int)<=(b:Int)-a:=Ω
  (with_reducible repeat' first|refine ai ?_|simp[GA,dk,hu,yW,ay,l4,cK,ax,gI,lB,Pv.look,cA]);rw[f2];refine dX _ _ _ (a+q*2) .increasing rfl rfl (by rw[aU,if_neg Ω];simp) (fun k cs h=>by rw[cK,h])
 ·have GA:(8:Int)<=(b:Int)-a:=Ω
  by_cases as3:b-a<50
  ·have Lw:¬(50:Int)<=(b:Int)-a:=Ω
   (with_reducible repeat' first|refine ai ?_|simp[GA,Lw,dk,hu,yW,ay,l4,cK,ax,gI,lB,Pv.look,cA]);simp only[iM H,H.slc,H.ssc,iG,f1,f2,f3];have aS:=Lm H ad d aR (a+q) (a+q*2) (a+q*3) 0 Ω Ω Ω Ω;have be:=Ec (lt:=lt) (d:=d) (a:=a+q) (b:=a+q*2) (c:=a+q*3) (v:=0) (n:=n) Ω Ω Ω;rw[if_pos Ω,if_neg Ω]at aU;generalize Sort.median lt d (a+q) (a+q*2) (a+q*3) 0=m at aS be aU;obtain⟨x,v⟩:=m;refine UX aS (by simp[aB,aC,(hK 0).1];exact(hK 0).2) fun o=>?_;have yX:((v:Int)==0)=decide (v=0):=by rw[qY];simp
   have DS:((v:Int)==12)=decide (v=12):=by rw[qY];simp;omega
   simp[Pv.look,fm];rcases(by omega:v=0\/v=12\/(v≠0/\v≠12))with br|br|br
   ·have ab:((v:Int)==0)=true:=by rw[yX];simp[br]
    (with_reducible repeat' first|refine ai ?_|simp[ab]);all_goals exact dX _ _ _ x .increasing rfl rfl (by rw[aU];simp[br]) (AO _ v)
   ·have ab:((v:Int)==0)=false:=by rw[yX];simp[br]
    have yY:((v:Int)==12)=true:=by rw[DS];simp[br]
    (with_reducible repeat' first|refine ai ?_|simp[ab,yY]);all_goals exact dX _ _ _ x .decreasing rfl rfl (by rw[aU];simp[br]) (AO _ v)
   ·have ab:((v:Int)==0)=false:=by rw[yX];simp[br.1]
    have yY:((v:Int)==12)=false:=by rw[DS];simp[br.2]
    (with_reducible repeat' first|refine ai ?_|simp[ab,yY]);all_goals exact dX _ _ _ x .unknown rfl rfl (by rw[aU];simp[br]) (AO _ v)
  ·have Lw:(50:Int)<=(b:Int)-a:=Ω
   (with_reducible repeat' first|refine ai ?_|simp[GA,Lw,dk,hu,yW,ay,l4,cK,ax,gI,lB,Pv.look,cA]);simp only[iM H,H.slc,H.ssc,iG,f1,f2,f3];rw[if_pos Ω,if_pos Ω]at aU;have aS:=Ln H ad d aR (a+q) 0 Ω Ω Ω;have D1:=Ec (lt:=lt) (d:=d) (a:=a+q-1) (b:=a+q) (c:=a+q+1) (v:=0) (n:=n) Ω Ω Ω;change (Sort.medianAdjacent lt d (a+q) 0).1<n/\(Sort.medianAdjacent lt d (a+q) 0).2<=0+3 at D1;generalize Sort.medianAdjacent lt d (a+q) 0=m1 at aS D1 aU;obtain⟨tf,v1⟩:=m1;simp only at aS D1 aU;have be:=Ln H ad d aR (a+q*2) v1 Ω Ω Ω;have D2:=Ec (lt:=lt) (d:=d) (a:=a+q*2-1) (b:=a+q*2) (c:=a+q*2+1) (v:=v1) (n:=n) Ω Ω Ω;change (Sort.medianAdjacent lt d (a+q*2) v1).1<n/\(Sort.medianAdjacent lt d (a+q*2) v1).2<=v1+3 at D2;generalize Sort.medianAdjacent lt d (a+q*2) v1=m2 at be D2 aU;obtain⟨zU,v2⟩:=m2;simp only at be D2 aU;have b8:=Ln H ad d aR (a+q*3) v2 Ω Ω Ω;have D3:=Ec (lt:=lt) (d:=d) (a:=a+q*3-1) (b:=a+q*3) (c:=a+q*3+1) (v:=v2) (n:=n) Ω Ω Ω;change (Sort.medianAdjacent lt d (a+q*3) v2).1<n/\(Sort.medianAdjacent lt d (a+q*3) v2).2<=v2+3 at D3;generalize Sort.medianAdjacent lt d (a+q*3) v2=m3 at b8 D3 aU;obtain⟨tg,v3⟩:=m3;simp only at b8 D3 aU;have eg:=Lm H ad d aR tf zU tg v3 D1.1 D2.1 D3.1 Ω;have Wj:=Ec (lt:=lt) (d:=d) (v:=v3) D1.1 D2.1 D3.1;generalize Sort.median lt d tf zU tg v3=m4 at eg Wj aU;obtain⟨x,v⟩:=m4;simp only at eg Wj aU;refine UX aS (by simp[aB,aC,(hK 0).1];exact(hK 0).2) fun o=>?_;simp[Pv.look];simp only[iM H,H.slc,H.ssc,iG,f1,f2,f3];refine Ek be (oj H d v1) (tq _ _ _) (by simp[aB,aC,(hK v1).1];exact(hK v1).2) fun o=>?_;simp[Pv.look];simp only[iM H,H.slc,H.ssc,iG,f1,f2,f3];refine Ek b8 (oj H d v2) (tq _ _ _) (by simp[aB,aC,(hK v2).1];exact(hK v2).2) fun o=>?_;simp[Pv.look];simp only[iM H,H.slc,H.ssc,iG,f1,f2,f3];refine Ek eg (oj H d v3) (tq _ _ _) (by simp[aB,aC,(hK v3).1];exact(hK v3).2) fun o=>?_;have yX:((v:Int)==0)=decide (v=0):=by rw[qY];simp
   have DS:((v:Int)==12)=decide (v=12):=by rw[qY];simp;omega
   simp[Pv.look,fm];rcases(by omega:v=0\/v=12\/(v≠0/\v≠12))with br|br|br
   ·have ab:((v:Int)==0)=true:=by rw[yX];simp[br]
    (with_reducible repeat' first|refine ai ?_|simp[ab]);all_goals exact dX _ _ _ x .increasing rfl rfl (by rw[aU];simp[br]) (AO _ v)
   ·have ab:((v:Int)==0)=false:=by rw[yX];simp[br]
    have yY:((v:Int)==12)=true:=by rw[DS];simp[br]
    (with_reducible repeat' first|refine ai ?_|simp[ab,yY]);all_goals exact dX _ _ _ x .decreasing rfl rfl (by rw[aU];simp[br]) (AO _ v)
   ·have ab:((v:Int)==0)=false:=by rw[yX];simp[br.1]
    have yY:((v:Int)==12)=false:=by rw[DS];simp[br.2]
    (with_reducible repeat' first|refine ai ?_|simp[ab,yY]);all_goals exact dX _ _ _ x .unknown rfl rfl (by rw[aU];simp[br]) (AO _ v)
end
section
open Go Go.Pv
variable {α:Type} [Inhabited α] {S:List α->cL} {n g cg:Nat} {lc cc:List aj} {lt:α->α->Bool}
theorem ap0:∀x:Nat,x<256->((([0,1,2,2,3,3,3,3,4,4,4,4,4,4,4,4,5,5,5,5,5,5,5,5,5,5,5,5,5,5,5,5,6,6,6,6,6,6,6,6,6,6,6,6,6,6,6,6,6,6,6,6,6,6,6,6,6,6,6,6,6,6,6,6,7,7,7,7,7,7,7,7,7,7,7,7,7,7,7,7,7,7,7,7,7,7,7,7,7,7,7,7,7,7,7,7,7,7,7,7,7,7,7,7,7,7,7,7,7,7,7,7,7,7,7,7,7,7,7,7,7,7,7,7,7,7,7,7,8,8,8,8,8,8,8,8,8,8,8,8,8,8,8,8,8,8,8,8,8,8,8,8,8,8,8,8,8,8,8,8,8,8,8,8,8,8,8,8,8,8,8,8,8,8,8,8,8,8,8,8,8,8,8,8,8,8,8,8,8,8,8,8,8,8,8,8,8,8,8,8,8,8,8,8,8,8,8,8,8,8,8,8,8,8,8,8,8,8,8,8,8,8,8,8,8,8,8,8,8,8,8,8,8,8,8,8,8,8,8,8,8,8,8,8,8,8,8,8,8,8,8,8,8,8,8,8]:List dw)[x]?).getD 0).toNat=Sort.bitsLen x:=by decide+kernel
theorem C6(x:Int):x.fdiv (2 ^ (min 32 hI.bits))=x/4294967296:=by rw[show(2:Int) ^ (min 32 hI.bits)=4294967296 from by decide,Int.fdiv_eq_ediv_of_nonneg _ Ω]
theorem C5(x:Int):x.fdiv (2 ^ (min 16 hI.bits))=x/65536:=by rw[show(2:Int) ^ (min 16 hI.bits)=65536 from by decide,Int.fdiv_eq_ediv_of_nonneg _ Ω]
theorem C7(x:Int):x.fdiv (2 ^ (min 8 hI.bits))=x/256:=by rw[show(2:Int) ^ (min 8 hI.bits)=256 from by decide,Int.fdiv_eq_ediv_of_nonneg _ Ω]
theorem E9(x:Nat)(h:x<256):IntKind.u8.wrap (x:Int)=x:=by simp[ti,oU,th];omega
theorem J2(x k:Nat)(h:2 ^ k<=x):Sort.bitsLen x=Sort.bitsLen (x/2 ^ k)+k:=by
 have ab:x≠0:=by have:=Nat.two_pow_pos k;omega
 have bn:x/2 ^ k≠0:=by have:=Nat.div_pos h (Nat.two_pow_pos k);omega
 unfold Sort.bitsLen;rw[if_neg ab,if_neg bn];have au:=Nat.log2_lt ab (k:=Nat.log2 (x/2 ^ k)+k+1);have J:Nat.log2 (x/2 ^ k)+k<=Nat.log2 x:=by
  rw[Nat.le_log2 ab,Nat.pow_add];have:=Nat.log2_self_le bn;calc 2 ^ (x/2 ^ k).log2*2 ^ k<=(x/2 ^ k)*2 ^ k:=Nat.mul_le_mul_right _ this
   _<=x:=Nat.div_mul_le_self x _
 have U:Nat.log2 x<Nat.log2 (x/2 ^ k)+k+1:=by rw[au,show Nat.log2 (x/2 ^ k)+k+1=(Nat.log2 (x/2 ^ k)+1)+k by omega,Nat.pow_add];have:=Nat.lt_log2_self (n:=x/2 ^ k);exact(Nat.div_lt_iff_lt_mul (Nat.two_pow_pos k)).1 this
 omega
set_option maxRecDepth 20000 in
theorem aqp(x:Nat)(ab:x<1099511627776):bC al 259 [.int .u64 x] (.int .i64 (Sort.bitsLen x)):=by
 refine bC.mk mixed oQ afs ams Ψ d6 fun aM=>?_;unfold Se;have aJ:=ap0;generalize UN:([0,1,2,2,3,3,3,3,4,4,4,4,4,4,4,4,5,5,5,5,5,5,5,5,5,5,5,5,5,5,5,5,6,6,6,6,6,6,6,6,6,6,6,6,6,6,6,6,6,6,6,6,6,6,6,6,6,6,6,6,6,6,6,6,7,7,7,7,7,7,7,7,7,7,7,7,7,7,7,7,7,7,7,7,7,7,7,7,7,7,7,7,7,7,7,7,7,7,7,7,7,7,7,7,7,7,7,7,7,7,7,7,7,7,7,7,7,7,7,7,7,7,7,7,7,7,7,7,8,8,8,8,8,8,8,8,8,8,8,8,8,8,8,8,8,8,8,8,8,8,8,8,8,8,8,8,8,8,8,8,8,8,8,8,8,8,8,8,8,8,8,8,8,8,8,8,8,8,8,8,8,8,8,8,8,8,8,8,8,8,8,8,8,8,8,8,8,8,8,8,8,8,8,8,8,8,8,8,8,8,8,8,8,8,8,8,8,8,8,8,8,8,8,8,8,8,8,8,8,8,8,8,8,8,8,8,8,8,8,8,8,8,8,8,8,8,8,8,8,8,8,8,8,8,8,8]:List dw)=tab at aJ⊢;have AN:tab.length=256:=by rw[<-UN];rfl
 clear UN;simp[AN];have af:∀y:Nat,y<256->Sort.bitsLen y<=8:=by decide+kernel
 have aiU:4294967296<=x->Sort.bitsLen x=Sort.bitsLen (x/4294967296)+32:=fun h=>J2 x 32 h;have VE:∀y,65536<=y->Sort.bitsLen y=Sort.bitsLen (y/65536)+16:=fun y h=>J2 y 16 h;have VH:∀y,256<=y->Sort.bitsLen y=Sort.bitsLen (y/256)+8:=fun y h=>J2 y 8 h;by_cases J:4294967296<=x
 ·have oA:(4294967296:Int)<=x:=Ω
  have g1:¬(65536:Int)<=(x:Int)/4294967296:=Ω
  have g3:¬(256:Int)<=(x:Int)/4294967296:=Ω
  (with_reducible repeat' first|refine ai ?_|simp[oA,g1,g3,C6,C5,C7,AN]);have aL:x/4294967296<256:=Ω
  have lZ:=af _ aL;have e3:(x:Int)/4294967296=((x/4294967296:Nat):Int):=Ω
  rw[e3,E9 _ aL,Int.toNat_natCast];refine⟨Ω,?_⟩;have e:=aJ _ aL;rw[e,pN _ Ω];refine⟨by unfold tV;omega,?_⟩;simp[bq,B0,aX,aZ,aW];try((rw[aiU J])<;>omega)
 ·have oA:¬(4294967296:Int)<=x:=Ω
  by_cases U:65536<=x
  ·have g2:(65536:Int)<=x:=Ω
   by_cases ar:256<=x/65536
   ·have g3:(256:Int)<=(x:Int)/65536:=Ω
    (with_reducible repeat' first|refine ai ?_|simp[oA,g2,g3,C6,C5,C7,AN]);have aL:x/65536/256<256:=Ω
    have lZ:=af _ aL;have e3:(x:Int)/65536/256=((x/65536/256:Nat):Int):=Ω
    rw[e3,E9 _ aL,Int.toNat_natCast];refine⟨Ω,?_⟩;have e:=aJ _ aL;rw[e,pN _ Ω];refine⟨by unfold tV;omega,?_⟩;simp[bq,B0,aX,aZ,aW];try((rw[VE x U,VH _ ar])<;>omega)
   ·have g3:¬(256:Int)<=(x:Int)/65536:=Ω
    (with_reducible repeat' first|refine ai ?_|simp[oA,g2,g3,C6,C5,C7,AN]);have aL:x/65536<256:=Ω
    have lZ:=af _ aL;have e3:(x:Int)/65536=((x/65536:Nat):Int):=Ω
    rw[e3,E9 _ aL,Int.toNat_natCast];refine⟨Ω,?_⟩;have e:=aJ _ aL;rw[e,pN _ Ω];refine⟨by unfold tV;omega,?_⟩;simp[bq,B0,aX,aZ,aW];try((rw[VE x U])<;>omega)
  ·have g2:¬(65536:Int)<=x:=Ω
   by_cases ar:256<=x
   ·have g3:(256:Int)<=x:=Ω
    (with_reducible repeat' first|refine ai ?_|simp[oA,g2,g3,C6,C5,C7,AN]);have aL:x/256<256:=Ω
    have lZ:=af _ aL;have e3:(x:Int)/256=((x/256:Nat):Int):=Ω
    rw[e3,E9 _ aL,Int.toNat_natCast];refine⟨Ω,?_⟩;have e:=aJ _ aL;rw[e,pN _ Ω];refine⟨by unfold tV;omega,?_⟩;simp[bq,B0,aX,aZ,aW];try((rw[VH x ar])<;>omega)
   ·have g3:¬(256:Int)<=x:=Ω
    (with_reducible repeat' first|refine ai ?_|simp[oA,g2,g3,C6,C5,C7,AN]);have aL:x<256:=Ω
    have lZ:=af _ aL;have e3:(x:Int)=((x:Nat):Int):=Ω
    rw[e3,E9 _ aL,Int.toNat_natCast];refine⟨Ω,?_⟩;have e:=aJ _ aL;rw[e,pN _ Ω];refine⟨by unfold tV;omega,?_⟩;simp[bq,B0,aX,aZ,aW];try((rw[show Sort.bitsLen x=Sort.bitsLen x from rfl])<;>omega)
theorem aqo(x:Nat)(ab:x<1099511627776):bC al 209 [.int .u64 x] (.int .i64 (Sort.bitsLen x)):=by refine bC.mk mixed oQ afr amr Ψ d6 fun aM=>?_;unfold Sd;have WO:=aqp x ab;exact bQ
theorem ab5(x:Nat)(ab:x<1099511627776):Sort.bitsLen x<=40:=by
 unfold Sort.bitsLen;split
 ·omega
 ·rename_i h;have:=(Nat.log2_lt h (k:=40)).2 Ω;omega
theorem ap9{x:Nat}(h:x≠0):2 ^ Sort.bitsLen x<=2*x/\x<2 ^ Sort.bitsLen x:=by unfold Sort.bitsLen;rw[if_neg h];have J:=Nat.log2_self_le h;have U:=Nat.lt_log2_self (n:=x);rw[Nat.pow_succ];rw[Nat.pow_succ]at U;omega
theorem aq8(x:Nat)(ab:x<1099511627776):bC al 279 [.int .i64 x] (.int .u64 (1<<<Sort.bitsLen x:Nat)):=by
 have af:=ab5 x ab;have ak:hI.wrap ((x:Nat):Int)=x:=by simp[ti,oU,th];omega
 have aD:hI.wrap ((Sort.bitsLen x:Nat):Int)=Sort.bitsLen x:=by simp[ti,oU,th];omega
 refine bC.mk mixed oQ afz amA Ψ d6 fun aM=>?_;unfold Sl;simp[ak];refine cV.val Ψ (aqo x ab) ?_;simp[ak,aD];simp[bq,YN,aX,aZ,aW];have hm:min (Sort.bitsLen x) hI.bits=Sort.bitsLen x:=by simp[oU];omega
 have bF:2 ^ Sort.bitsLen x<=2 ^ 40:=Nat.pow_le_pow_right Ω af;rw[hm];have aw:((2:Int) ^ Sort.bitsLen x)=((2 ^ Sort.bitsLen x:Nat):Int):=by simp
 have AS:((1<<<Sort.bitsLen x:Nat):Int)=((2 ^ Sort.bitsLen x:Nat):Int):=by rw[Nat.one_shiftLeft]
 have yB:hI.wrap ((2:Int) ^ Sort.bitsLen x)=((1<<<Sort.bitsLen x:Nat):Int):=by rw[aw,AS];generalize 2 ^ Sort.bitsLen x=y at bF;simp[ti,oU,th];omega
 simpa using yB
def nD(r:Nat):cL:=⟨[(.obj 902,[.int .u64 r])],[]⟩
theorem JL(r:Nat):dW (nD r):=by unfold nD;exact(dW.of ⟨by intro m;simp[Pv.look],by intro m;simp[Pv.look]⟩ d8 d8)
theorem Qm(a b:Nat):Same (nD a) (nD b):=⟨fun k=>by simp only[nD,Pv.look];split<;>rfl,fun _=>rfl⟩
theorem J5(a b:Nat)(bD:a<18446744073709551616)(af:b<18446744073709551616):hI.wrap ((qX hI.bits (a:Int) ^^^ qX hI.bits (b:Int)).toNat:Int)=(a ^^^ b:Nat):=by
 have ar:a ^^^ b<18446744073709551616:=Nat.xor_lt_two_pow (n:=64) bD af;have e:(qX hI.bits (a:Int) ^^^ qX hI.bits (b:Int)).toNat=a ^^^ b:=by
  rw[BitVec.toNat_xor,BitVec.toNat_ofInt,BitVec.toNat_ofInt];have ak:((a:Int)%(2 ^ hI.bits:Nat)).toNat=a:=by simp[oU];omega
  have aD:((b:Int)%(2 ^ hI.bits:Nat)).toNat=b:=by simp[oU];omega
  rw[ak,aD]
 rw[e];generalize a ^^^ b=c at ar;simp[ti,oU,th];omega
theorem ape(r:Nat):hI.wrap ((r:Int)*2 ^ (min 13 hI.bits))=(r*8192%18446744073709551616:Nat):=by simp[ti,oU,th]
theorem apf(r:Nat):hI.wrap ((r:Int)*2 ^ (min 17 hI.bits))=(r*131072%18446744073709551616:Nat):=by simp[ti,oU,th]
theorem apg(r:Nat):((r:Int)).fdiv (2 ^ (min 7 hI.bits))=(r/128:Nat):=by rw[show(2:Int) ^ (min 7 hI.bits)=128 from by decide,Int.fdiv_eq_ediv_of_nonneg _ Ω];omega
theorem agG(r:Nat)(aO:r<18446744073709551616):bI al 280 [.ptr (.obj 902) 0] (nD r) fun eZ ah=>eZ= .int .u64 (Sort.xorNextN r)/\ah=nD (Sort.xorNextN r):=by
 have ag:=JL r;unfold nD at ag⊢;refine bI.mk mixed oQ afL amM Ψ ag.obj fun aM cR=>?_;unfold Sy;obtain⟨m1,sx⟩:∃m,m=r*8192%18446744073709551616:=⟨_,rfl⟩;have s1:=ape r;rw[<-sx]at s1;have hC:m1<18446744073709551616:=Ω
 obtain⟨bH,lA⟩:∃m,m=r ^^^ m1:=⟨_,rfl⟩;have t1:=J5 r m1 aO hC;rw[<-lA]at t1;have WQ:bH<18446744073709551616:=by rw[lA];exact Nat.xor_lt_two_pow (n:=64) aO hC
 obtain⟨m2,vs⟩:∃m,m=bH/128:=⟨_,rfl⟩;have s2:=apg bH;rw[<-vs]at s2;have fP:m2<18446744073709551616:=Ω
 obtain⟨a2,qz⟩:∃m,m=bH ^^^ m2:=⟨_,rfl⟩;have t2:=J5 bH m2 WQ fP;rw[<-qz]at t2;have aj8:a2<18446744073709551616:=by rw[qz];exact Nat.xor_lt_two_pow (n:=64) WQ fP
 obtain⟨m3,Vl⟩:∃m,m=a2*131072%18446744073709551616:=⟨_,rfl⟩;have s3:=apf a2;rw[<-Vl]at s3;have aj7:m3<18446744073709551616:=Ω
 obtain⟨a3,GD⟩:∃m,m=a2 ^^^ m3:=⟨_,rfl⟩;have t3:=J5 a2 m3 aj8 aj7;rw[<-GD]at t3;have aU:Sort.xorNextN r=a3:=by unfold Sort.xorNextN;simp only[<-sx,<-lA,<-vs,<-qz,<-Vl,<-GD]
 rw[aU];simp[-BitVec.toNat_xor,-BitVec.ofInt_natCast,s1,t1,s2,t2,s3,t3];have a6:=JL a3;have b0:=Qm r a3;unfold nD at a6 b0;refine cH.at _ (.inl rfl) a6 b0 aN aN ?_;simp[cN,YQ,aX,aZ,aW]
end
section
open Go Go.Pv
variable {α:Type} [Inhabited α] {S:List α->cL} {n g cg:Nat} {lc cc:List aj} {lt:α->α->Bool}
theorem abY(a b:Nat)(bD:a<18446744073709551616)(af:b<18446744073709551616):hI.wrap ((qX hI.bits (a:Int)&&& qX hI.bits (b:Int)).toNat:Int)=(a&&& b:Nat):=by
 have ar:a&&& b<18446744073709551616:=Nat.lt_of_le_of_lt Nat.and_le_left bD;have e:(qX hI.bits (a:Int)&&& qX hI.bits (b:Int)).toNat=a&&& b:=by
  rw[BitVec.toNat_and,BitVec.toNat_ofInt,BitVec.toNat_ofInt];have ak:((a:Int)%(2 ^ hI.bits:Nat)).toNat=a:=by simp[oU];omega
  have aD:((b:Int)%(2 ^ hI.bits:Nat)).toNat=b:=by simp[oU];omega
  rw[ak,aD]
 rw[e];generalize a&&& b=c at ar;simp[ti,oU,th];omega
def Ae(a len M i0:Nat)(d:Array α):Nat->UInt64×Array α
 |0=>(UInt64.ofNat len,d)
 |k+1=>Sort.breakStep a len M (Ae a len M i0 d k) (i0+k)
theorem ab8(d:Array α)(a b:Nat)(h:8<=b-a):Sort.breakPatterns d a b=(Ae a (b-a) (1<<<Sort.bitsLen (b-a)) (a+(b-a)/4*2-1) d 3).2:=by unfold Sort.breakPatterns;simp only[if_pos h,Ae];rfl
theorem aa0{ob O:List aI}{ah:cL}(ep:dW ah)(du:∀k,inObs ah k->k∈O)(vv:∀k∈ob,k∈O){st:bu}{da:List (Nat×aj)}{L:List (aI×List aj)}{n:Nat}(aJ:∀x∈da,Pv.get x.1 st.t=x.2/\aB (mI ah n) x.2)(j4:∀x∈L,Pv.look x.1 st.b=some x.2/\mI ah n x.1/\aC (mI ah n) x.2)
  (af:∀k cs,Pv.look k ah.b=some cs->Pv.look k st.b=some cs) (he:∀k o,Pv.look k ah.e=some o->Pv.look k st.e=some o):jj ob st ⟨da,L++ah.b,ah.e,n,O⟩:=by
 have mz:∀{k},mI ah n k->¬fresh n O k:=by
  rintro k (h|⟨m,hm,rfl⟩)
  ·exact fun aK=>aK.2 (du k h)
  ·intro aK;have:=aK.1;simp at this;omega
 refine⟨fun x ab=>⟨(aJ x ab).1,xh (fun k ad=>mz ad) _ (aJ x ab).2⟩,fun k cs ad=>?_,fun k o ay=>?_,vv⟩
 ·simp only at ad;rw[cK]at ad;cases au:Pv.look k L with
  |some x=>rw[au]at ad;simp only[ea]at ad;subst ad;obtain⟨J,U,ar⟩:=j4 _ (uc au);exact⟨J,mz U,km (fun k ad=>mz ad) _ ar⟩
  |none=>rw[au]at ad;exact⟨af k cs ad,mz (.inl (.inl (by simp[ad]))),km (fun k ad=>mz (.inl ad)) _ (ep.kb k cs ad)⟩
 ·exact⟨he k o ay,mz (.inl (.inr (by simp at ay;simp[ay]))),fun xs ab=>km (fun k ad=>mz (.inl ad)) _ (ep.ke k o ay xs ab)⟩
theorem PZ{arJ β:Type}(s:List (aI×β)):∀(l:List (aI×arJ)),(∀k x,(k,x)∈l->Pv.look k s=none)->cl s l=l
 |[],_=>rfl
 |(k,x)::r,h=>by have J:=h k x Ψ;simp only[cl,J];rw[PZ s r fun k x ab=>h k x (by simp[ab])]
def jP(S:List α->cL)(d:Array α)(r:Nat):cL:=⟨(.obj 902,[.int .u64 r])::(S d.toList).b,(S d.toList).e⟩
theorem Fz(H:fi S n g cg lc cc lt)(d:Array α)(v:Nat):dW (jP S d v):=by
 have h:=H.ok d.toList;have jS:∀k,inObs (S d.toList) k->inObs (jP S d v) k:=fun k ad=>by
  rcases ad with ad|ad
  ·refine .inl ?_;simp only[jP,Pv.look];split
   ·rfl
   ·exact ad
  ·exact .inr ad
 refine⟨⟨fun m=>?_,h.obj.2⟩,fun k cs ad=>?_,fun k o ay xs ab=>km jS _ (h.ke k o ay xs ab)⟩
 ·simp[jP,Pv.look,h.obj.1 m]
 ·simp only[jP,Pv.look]at ad;split at ad
  ·cases ad;simp[aC,aB]
  ·exact km jS _ (h.kb k cs ad)
theorem aaZ{ob O:List aI}{d2:Array α}{y:Nat}{D:List aj}(ep:dW (jP S d2 y))(du:∀k,inObs (jP S d2 y) k->k∈O)(vv:∀k∈ob,k∈O){st:bu}{da:List (Nat×aj)}(aJ:∀x∈da,Pv.get x.1 st.t=x.2/\aB (mI (jP S d2 y) 1) x.2)(br:Pv.look (.loc 0) st.b=some D)(pf:aC (mI (jP S d2 y) 1) D)
  (af:∀k cs,Pv.look k (jP S d2 y).b=some cs->Pv.look k st.b=some cs) (he:∀k o,Pv.look k (jP S d2 y).e=some o->Pv.look k st.e=some o):jj ob st ⟨da,(.loc 0,D)::(.obj 902,[.int .u64 y])::(S d2.toList).b,(S d2.toList).e,1,O⟩:=
 aa0 (L:=[(.loc 0,D)]) ep du vv aJ (fun x ab=>by simp only[List.mem_singleton]at ab;subst ab;exact⟨br,Xz _ _ _ Ω,pf⟩) af he
theorem agL(H:fi S n g cg lc cc lt)(ad:sT S 902)(d:Array α)(aR:d.size=n)(a b:Nat)(nM:a<=b)(af:b<=n)(oB:8<=b-a):
  bI al 262 [e9 g cg lc cc,.int .i64 a,.int .i64 b] (S d.toList) fun r ah=>r= .tuple []/\∃cd,ah=S cd.toList/\cd=Sort.breakPatterns d a b/\cd.size=n:=by
 have ag:=H.ok d.toList;have au:d.toList.length=n:=by simpa using aR
 have ax:∀l m,Pv.look (.loc m) (S l).b=none:=fun l=>(H.ok l).obj.1;have hu:∀l m cs,cA (.loc m) cs (S l).b=(S l).b++[(.loc m,cs)]:=fun l m cs=>kg (ax l m);have ay:∀m,aI.loc m∉c2 (S d.toList):=j9 ag.obj;have gI:∀l,Pv.look (.obj 902) (S l).b=none:=fun l=>(ad l).1;have lB:∀l,Pv.look (.obj 902) (S l).e=none:=fun l=>(ad l).2;have hle:=H.le;have l4:=XB ad d.toList;rw[ab8 d a b oB];obtain⟨len,hlen⟩:∃len,len=b-a:=⟨_,rfl⟩;rw[<-hlen];obtain⟨M,ei⟩:∃M,M=1<<<Sort.bitsLen len:=⟨_,rfl⟩;rw[<-ei];have as4:len<M/\M<=2*len:=by have:=ap9 (x:=len) Ω;rw[ei,Nat.one_shiftLeft];omega
 obtain⟨q,bn⟩:∃q,q=len/4:=⟨_,rfl⟩;rw[<-bn];have yW:∀l D cs,cA (.obj 902) cs ((S l).b++[(.loc 0,D)])=(S l).b++[(.loc 0,D),(.obj 902,cs)]:=fun l D cs=>by rw[Co (gI l)];rfl
 have VO:∀l D x y,cA (.obj 902) y ((S l).b++[(.loc 0,D),(.obj 902,x)])=(S l).b++[(.loc 0,D),(.obj 902,y)]:=fun l D x y=>by rw[Co (gI l)];simp[cA]
 have el:((b:Int)-a)=(len:Nat):=Ω
 have dk:IntKind.i64.wrap ((len:Int).tdiv 4)=(q:Nat):=by rw[Int.tdiv_eq_ediv_of_nonneg Ω,pN _ Ω];omega
 have ew:hI.wrap (len:Int)=len:=by simp[ti,oU,th];omega
 refine bI.mk mixed oQ afu amv Ψ ag.obj fun aM cR=>?_;unfold Sg;have pg:=aq8 len Ω;rw[<-ei]at pg;simp[e9,hu,yW,VO,ay,l4,cK,ax,gI,lB,Pv.look,cA,el,ew];have hy:IntKind.i64.wrap ((len:Int)/4)=(q:Nat):=by rw[pN _ Ω];omega
 ((with_reducible repeat' first|refine ai ?_|refine az pg ?_|refine aA pg ?_|simp[el,ew,dk,hy,hu,yW,VO,ay,l4,cK,ax,gI,lB,Pv.look,cA]|((first|apply bU|apply bY|apply bX)<;>intro h<;>try simp at h))<;>(try exact cz));obtain⟨i0,Dx⟩:∃i0,i0=a+q*2-1:=⟨_,rfl⟩;rw[<-Dx];have adf:((a:Int)+q*2-1)=(i0:Nat):=Ω
 rw[adf];have du:∀(cu:Array α) r k,inObs (jP S cu r) k->cu.size=n->k∈aI.obj 902::c2 (S d.toList):=fun cu r k h fe=>by
  have dr:=H.same d.toList cu.toList au (by simpa using fe);rcases h with h|h
  ·simp only[jP,Pv.look]at h;split at h
   ·rename_i e;subst e;simp
   ·exact oY _ (uh (.inl (by rw[dr.b];exact h)))
  ·exact oY _ (uh (.inr (by rw[dr.e];exact h)))
 have yL:∀(cu:Array α) r,cu.size=n->aC (mI (jP S cu r) 1) [.func g lc,.func cg cc]:=fun cu r fe=>by
  have J:=H.kdata (lk:=cu.toList) (by simpa using fe);have U:aC (inObs (S cu.toList)) [.func g lc,.func cg cc]:=by simpa[e9,aB,aC]using J
  refine km (fun k ad=>.inl ?_) _ U;rcases ad with ad|ad
  ·refine .inl ?_;simp only[jP,Pv.look];split
   ·rfl
   ·exact ad
  ·exact .inr ad
 have ath:∀(cu:Array α) r D k cs,Pv.look k (jP S cu r).b=some cs->Pv.look k ((.loc 0,D)::(jP S cu r).b)=some cs:=fun cu r D k cs h=>by
  cases k with
  |loc m=>rw[(Fz H cu r).obj.1 m]at h;cases h
  |obj m=>simpa[Pv.look]using h
 refine pc (fun(x:Nat×UInt64×Array α)=>⟨[(1,.int .i64 a),(3,.ptr (.loc 0) 0),(6,.int .i64 len),(7,.ptr (.obj 902) 0),(8,.int .u64 M),(9,.int .i64 ((i0+x.1:Nat):Int))],[(.loc 0,[.func g lc,.func cg cc])]++(jP S x.2.2 x.2.1.toNat).b,(jP S x.2.2 x.2.1.toNat).e,1,aI.obj 902::c2 (S d.toList)⟩) (fun x=>3-x.1)
  (fun x=>x.1<=3/\x.2.2.size=n/\Ae a len M i0 d x.1=x.2) (0,UInt64.ofNat len,d) ?_ ⟨Ψ,aR,rfl⟩ ?_
 ·refine aa0 (Fz H d _) (fun k h=>du d _ k h aR) (fun k h=>oY _ h) (by simp[aB,inObs,jP,Pv.look,mI]) ?_ ?_ aN
  ·intro x ab;simp only[List.mem_singleton]at ab;subst ab;exact⟨by simp[cK,ax,Pv.look],Xz _ _ _ Ω,yL d _ aR⟩
  ·intro k cs h;simp only[jP,Pv.look]at h;rw[cK];split at h
   ·rename_i e;subst e;rw[gI];have:(UInt64.ofNat len).toNat=len:=by simp;omega
    rw[this]at h;simpa[Pv.look]using h
   ·rw[h]
 rintro⟨k,r,cu⟩ ⟨aS,be,b8⟩ _;simp only at aS be b8;have aO:=r.toNat_lt;obtain⟨x,ab⟩:∃x,x=r.toNat:=⟨_,rfl⟩;rw[<-ab]at aO⊢;have oF:Sort.xorNextN x<18446744073709551616:=Sort.xorNextN_lt x Ω;have Mb:(Sort.xorNext r).toNat=Sort.xorNextN x:=by rw[Sort.xorNext_toNat,<-ab]
 obtain⟨y,aL⟩:∃y,y=Sort.xorNextN x:=⟨_,rfl⟩;have ac7:hI.wrap ((M:Int)-1)=(M-1:Nat):=by simp[ti,oU,th];omega
 have kQ:=abY y (M-1) Ω Ω;obtain⟨z,bz⟩:∃z,z=y&&& (M-1):=⟨_,rfl⟩;rw[<-bz]at kQ;have atr:z<=M-1:=by rw[bz];exact Nat.and_le_right
 have oz:IntKind.i64.wrap (z:Int)=z:=by rw[pN _ Ω]
 by_cases aij:k=3
 ·subst aij;simp[jP,Pv.look,hy];((with_reducible repeat' first|refine ai ?_|simp[hy]|((first|apply bU|apply bY|apply bX)<;>intro h<;>try simp at h))<;>(try exact cz));refine cH.at (S cu.toList) (.inr rfl) (H.ok _) (H.same _ _ au (by simpa using be)) (fun k cs h=>?_) (fun _ _ h=>h) ?_
  ·simp only[Pv.look];split
   ·rename_i e;subst e;rw[ax]at h;cases h
   ·split
    ·rename_i e;subst e;rw[gI]at h;cases h
    ·exact h
  ·simp[cN,YK,aX,aZ,aW];exact⟨cu,rfl,by rw[b8],be⟩
 ·have GS:((i0+k:Nat):Int)<=(a:Int)+q*2+1:=Ω
  have Vh:((i0:Int)+k)<=(a:Int)+q*2+1:=Ω
  simp[jP,Pv.look,hy,Vh,GS];(with_reducible repeat' first|refine ai ?_|simp[hy,Vh,GS,Pv.look]);have atn:=H.same d.toList cu.toList au (by simpa using be);have ajb:∀(ga:Array α) (v:List aj),cl [(aI.obj 902,v)] (S ga.toList).b=(S ga.toList).b:=fun ga v=>PZ _ _ fun k x hm=>by
   have:=vJ hm;simp only[Pv.look];split
   ·rename_i e;subst e;rw[gI]at this;cases this
   ·rfl
  refine cV.ob (agG x Ω) (JL x) (fun k cs h=>?_) (fun k o h=>by simp[nD,Pv.look]at h) (by simp[aB,aC,inObs,nD,Pv.look]) ?_
  ·simp only[nD,Pv.look]at h⊢;split at h
   ·rename_i e;subst e;simpa using h
   ·cases h
  rintro eZ ah ⟨rfl,rfl⟩;refine⟨Qm _ _,?_⟩;rw[<-aL];have aec:cl (nD x).b ((aI.loc 0,[aj.func g lc,aj.func cg cc])::(aI.obj 902,[aj.int .u64 x])::(S cu.toList).b)=(aI.loc 0,[aj.func g lc,aj.func cg cc])::(S cu.toList).b:=by simp[nD,cl,Pv.look,ajb]
  have aed:cl (nD x).e (S cu.toList).e=(S cu.toList).e:=PZ _ _ fun _ _ _=>rfl;rw[aec,aed,show(nD y).b=[(aI.obj 902,[aj.int .u64 y])]from rfl,show(nD y).e=[]from rfl,List.append_nil];have as2:∀(v:List aj),Pv.look (.obj 902) ((aI.loc 0,[aj.func g lc,aj.func cg cc])::((S cu.toList).b++[(aI.obj 902,v)]))=some v:=fun v=>by simp[Pv.look,cK,gI]
  have QR:∀o',o'<len->o'=(if z≥len then z-len else z)->Sort.breakStep a len M (r,cu) (i0+k)=(Sort.xorNext r,Sort.swp cu (i0+k) (a+o')):=fun o' J U=>by unfold Sort.breakStep;simp only[Mb,<-aL,<-bz,<-U]
  have TC:((i0:Int)+k)=((i0+k:Nat):Int):=Ω
  simp only[e4,aI.obj.injEq];simp[-BitVec.toNat_and,-BitVec.ofInt_natCast,ac7,kQ,oz,Pv.look,H.ssc];by_cases ats:len<=z
  ·have My:(len:Int)<=z:=Ω
   have KN:((a:Int)+(z-len))=((a+(z-len):Nat):Int):=Ω
   ((with_reducible repeat' first|refine ai ?_|simp[My,Pv.look,H.ssc]|((first|apply bU|apply bY|apply bX)<;>intro h<;>try simp at h))<;>(try exact cz));rw[KN,TC];refine cV.ob (H.swap cu.toList (by simpa using be) Ω (i0+k) (a+(z-len)) Ω Ω) (H.ok _) (fun bJ cs h=>?_) (fun _ _ h=>h) (by simp[aB,aC,H.ksc cu.toList (by simpa using be)]) ?_
   ·simp only[Pv.look];split
    ·rename_i e;subst e;rw[ax]at h;cases h
    ·rw[cK,h]
   rintro eZ ah ⟨rfl,rfl⟩;refine⟨H.same _ _ (by simpa using be) (by simpa using be),?_⟩;rw[HG cu Ω Ω];obtain⟨d2,e2⟩:∃d2,d2=Sort.swp cu (i0+k) (a+(z-len)):=⟨_,rfl⟩;have s2:d2.size=n:=by rw[e2,hl,be]
   rw[<-e2];have KS:∀v:List aj,cl (S cu.toList).b ((aI.loc 0,[aj.func g lc,aj.func cg cc])::((S cu.toList).b++[(aI.obj 902,v)]))=[(aI.loc 0,[aj.func g lc,aj.func cg cc]),(aI.obj 902,v)]:=fun v=>by simp only[cl,ax];rw[im,gW];simp[cl,gI]
   dsimp only;rw[KS,gW];simp;(with_reducible repeat' first|refine ai ?_|simp);have KJ:((i0:Int)+k+1)=((i0+(k+1):Nat):Int):=Ω
   rw[KJ];refine bK.whl (k+1,Sort.xorNext r,d2) d7 ⟨by simp;omega,s2,by simp only[Ae,b8];rw[QR (z-len) Ω (by rw[if_pos Ω]),e2]⟩ ?_;rw[Mb,<-aL];refine aaZ (Fz H d2 y) (fun k h=>du d2 _ k h s2) (fun k h=>oY _ h) (by simp[aB,inObs,jP,Pv.look,mI]) (by simp[Pv.look]) (yL d2 _ s2) ?_ (fun _ _ h=>h);intro k cs h;simp only[jP,Pv.look]at h⊢;split at h
   ·rename_i e;subst e;simpa using h
   ·rename_i e;split
    ·rename_i aD;subst aD;rw[ax]at h;cases h
    ·exact h
  ·have My:¬(len:Int)<=z:=Ω
   have KN:((a:Int)+z)=((a+z:Nat):Int):=Ω
   ((with_reducible repeat' first|refine ai ?_|simp[My,Pv.look,H.ssc]|((first|apply bU|apply bY|apply bX)<;>intro h<;>try simp at h))<;>(try exact cz));rw[KN,TC];refine cV.ob (H.swap cu.toList (by simpa using be) Ω (i0+k) (a+z) Ω Ω) (H.ok _) (fun bJ cs h=>?_) (fun _ _ h=>h) (by simp[aB,aC,H.ksc cu.toList (by simpa using be)]) ?_
   ·simp only[Pv.look];split
    ·rename_i e;subst e;rw[ax]at h;cases h
    ·rw[cK,h]
   rintro eZ ah ⟨rfl,rfl⟩;refine⟨H.same _ _ (by simpa using be) (by simpa using be),?_⟩;rw[HG cu Ω Ω];obtain⟨d2,e2⟩:∃d2,d2=Sort.swp cu (i0+k) (a+z):=⟨_,rfl⟩;have s2:d2.size=n:=by rw[e2,hl,be]
   rw[<-e2];have KS:∀v:List aj,cl (S cu.toList).b ((aI.loc 0,[aj.func g lc,aj.func cg cc])::((S cu.toList).b++[(aI.obj 902,v)]))=[(aI.loc 0,[aj.func g lc,aj.func cg cc]),(aI.obj 902,v)]:=fun v=>by simp only[cl,ax];rw[im,gW];simp[cl,gI]
   dsimp only;rw[KS,gW];simp;(with_reducible repeat' first|refine ai ?_|simp);have KJ:((i0:Int)+k+1)=((i0+(k+1):Nat):Int):=Ω
   rw[KJ];refine bK.whl (k+1,Sort.xorNext r,d2) d7 ⟨by simp;omega,s2,by simp only[Ae,b8];rw[QR z Ω (by rw[if_neg Ω]),e2]⟩ ?_;rw[Mb,<-aL];refine aaZ (Fz H d2 y) (fun k h=>du d2 _ k h s2) (fun k h=>oY _ h) (by simp[aB,inObs,jP,Pv.look,mI]) (by simp[Pv.look]) (yL d2 _ s2) ?_ (fun _ _ h=>h);intro k cs h;simp only[jP,Pv.look]at h⊢;split at h
   ·rename_i e;subst e;simpa using h
   ·rename_i e;split
    ·rename_i aD;subst aD;rw[ax]at h;cases h
    ·exact h
end
section
open Go Go.Pv
variable {α:Type} [Inhabited α] {S:List α->cL} {n g cg:Nat} {lc cc:List aj} {lt:α->α->Bool}
theorem fi.fnD{d d2:Array α}(H:fi S n g cg lc cc lt)(J:d.size=n){f:Nat}{args:List aj}{r:aj}(aK:bI al f args (S d.toList) fun eZ ah=>eZ=r/\∃cd,ah=S cd.toList/\cd=d2/\cd.size=n)(ad:aC (inObs (S d.toList)) args){t:List (Nat×aj)}{D:List aj}{o:List aI}{cd:Option Nat}{K:bu->Prop}
  (h:d2.size=n->∀o,K ⟨e4 cd r t,(.loc 0,D)::(S d2.toList).b,(S d2.toList).e,1,o⟩):cV al f args ⟨t,(.loc 0,D)::(S d.toList).b,(S d.toList).e,1,o⟩ cd K:=
 H.call (by simpa using J) (R:=fun eZ a1=>eZ=r/\a1=d2.toList/\d2.size=n) (aK.mono fun r ah ⟨ak,cd,aD,bh,dk⟩=>⟨cd.toList,aD,ak,by rw[bh],by rw[<-bh];exact dk⟩) (fun r a1 ⟨_,e,h⟩=>by rw[e];simpa using h) ad (by rintro eZ a1 ⟨rfl,rfl,U⟩;exact h U _)
attribute [local simp] p7
def CA(S:List α->cL)(n g cg:Nat)(lc cc:List aj)(lt:α->α->Bool)(m:Nat):Prop:=
 ∀k,k<m->∀(d:Array α),d.size=n->∀a b xl:Nat,b-a<=k->a<=b->b<=n->xl<=1000->Sort.Below lt a b d->
  bI al 210 [e9 g cg lc cc,.int .i64 a,.int .i64 b,.int .i64 xl] (S d.toList) fun r ah=>r= .tuple []/\∃cd,ah=S cd.toList/\Sort.PermIn a b d cd/\Sort.SortedIn lt a b cd
structure x4 (S:List α->cL) (n g cg:Nat) (lc cc:List aj) (lt:α->α->Bool) (bs b4 lim:Nat) (d:Array α) (Q:Exit->bu->Prop):Prop where
 k:∀e,e= .normal\/e= .exit 1->∀(a2 b7:Nat) (w v:Bool) (L:Array α) (t:List (Nat×aj)) (o:List aI),L.size=n->a2<=b7->b7<=n->b7-a2<b4-bs->Sort.Below lt a2 b7 L->(∀R,Sort.PermIn a2 b7 L R->Sort.SortedIn lt a2 b7 R->Sort.PermIn bs b4 d R/\Sort.SortedIn lt bs b4 R)->
  Pv.get 1 t= .int .i64 a2->Pv.get 2 t= .int .i64 b7->Pv.get 3 t= .int .i64 lim->Pv.get 4 t= .ptr (.loc 0) 0->Pv.get 8 t= .bool w->Pv.get 9 t= .bool v->Q e ⟨t,(.loc 0,[.func g lc,.func cg cc])::(S L.toList).b,(S L.toList).e,1,o⟩
 r:∀(R:Array α) t o,Sort.PermIn bs b4 d R->Sort.SortedIn lt bs b4 R->Q .ret ⟨t,(.loc 0,[.func g lc,.func cg cc])::(S R.toList).b,(S R.toList).e,1,o⟩
theorem x4.mono{bs b4 lim:Nat}{d cd:Array α}{Q:Exit->bu->Prop}(h:x4 S n g cg lc cc lt bs b4 lim d Q)(p:Sort.PermIn bs b4 d cd):x4 S n g cg lc cc lt bs b4 lim cd Q:=⟨fun e he a2 b7 w v L t o ak aD bh dk hy h8=>h.k e he a2 b7 w v L t o ak aD bh dk hy fun R dC eH=>⟨Sort.permIn_trans _ _ _ bs b4 p (h8 R dC eH).1,(h8 R dC eH).2⟩,fun R t o dC eH=>h.r R t o (Sort.permIn_trans _ _ _ bs b4 p dC) eH⟩
structure z6 (t:List (Nat×aj)) (bs b4 lim:Nat):Prop where
 t1:Pv.get 1 t= .int .i64 bs
 t2:Pv.get 2 t= .int .i64 b4
 t3:Pv.get 3 t= .int .i64 lim
 t4:Pv.get 4 t= .ptr (.loc 0) 0
 t10:Pv.get 10 t= .int .i64 ((b4:Int)-bs)
section
variable {bs b4 lim:Nat} {cQ:Array α} {t:List (Nat×aj)} {o:List aI} {ob:List aI} {Q:Exit->bu->Prop}
theorem X7(H:fi S n g cg lc cc lt)(bE:Sort.SWO lt)(bR:CA S n g cg lc cc lt (b4-bs)){pv:Nat}(T:z6 t bs b4 lim)(t11:Pv.get 11 t= .int .i64 pv)(sw:lim<=1000)(pF:cQ.size=n)(qA:bs<=pv/\pv<b4)(b8:b4<=n)(tF:12<b4-bs)(uI:Sort.Below lt bs b4 cQ)(h4:x4 S n g cg lc cc lt bs b4 lim cQ Q):
  c8 al ob Kn Q ⟨t,(.loc 0,[.func g lc,.func cg cc])::(S cQ.toList).b,(S cQ.toList).e,1,o⟩:=by
 obtain⟨t1,t2,t3,t4,t10⟩:=T;have tN:∀ga:Array α,ga.size=n->aB (inObs (S ga.toList)) (e9 g cg lc cc):=fun ga h=>H.kdata (lk:=ga.toList) (by simpa using h);have hle:=H.le;unfold Kn;simp[t1,t2,t4,t11,Pv.look,H.slc,H.ssc];simp only[iM H,H.slc,H.ssc,iG];have ry:=ag0 H cQ pF bs b4 pv qA.1 qA.2 Ω b8;have bn:Sort.partition lt cQ bs b4 pv=((Sort.partition lt cQ bs b4 pv).1,(Sort.partition lt cQ bs b4 pv).2.1,(Sort.partition lt cQ bs b4 pv).2.2):=rfl;generalize (Sort.partition lt cQ bs b4 pv).1=mid at ry bn;generalize (Sort.partition lt cQ bs b4 pv).2.1=ap at ry bn;generalize (Sort.partition lt cQ bs b4 pv).2.2=d4 at ry bn;obtain⟨g1,g2,g3,g4,g5,g6,g7⟩:=Sort.round_part bE (Sort.partition_holds lt) qA.1 qA.2 Ω uI bn;refine H.fnD pF ry (by simp[aB,aC,tN cQ pF]) fun s4 o=>?_;have em:((mid:Int)+1)=(mid+1:Nat):=Ω
 simp[t1,t2,t3,t4,t10];by_cases ati:mid-bs<b4-mid
 ·have L2:(mid:Int)-bs<b4-mid:=Ω
  (with_reducible repeat' first|refine ai ?_|simp[L2,Pv.look,t1,t2,t3,t4,t10]);simp only[iM H,H.slc,H.ssc,iG];refine H.doFn (lk:=d4.toList) (by simpa using s4) (R:=fun a1=> ∃L:Array α,a1=L.toList/\Sort.PermIn bs mid d4 L/\Sort.SortedIn lt bs mid L) ((bR (mid-bs) Ω d4 s4 bs mid lim (fc _) g1 Ω sw g4).mono fun r ah ⟨ba,cd,bo,b3,c9⟩=>⟨ba,cd.toList,bo,cd,rfl,b3,c9⟩) (by rintro a1 ⟨L,rfl,q,_⟩;simpa using q.1.trans s4) (by simp[aC,aB,tN d4 s4]) ?_;rintro a1 ⟨L,rfl,cX,dI⟩;obtain⟨ja,oe⟩:=g6 L cX dI;simp;(with_reducible repeat' first|refine ai ?_|simp[t1,t2,t3,t4]);rw[em];exact h4.k _ (.inl rfl) (mid+1) b4 _ ap L _ _ (cX.1.trans s4) Ω b8 Ω ja oe Ψ (by simp[t2]) (by simp[t3]) (by simp[t4]) (by simp;rfl) Ψ
 ·have L2:¬(mid:Int)-bs<b4-mid:=Ω
  (with_reducible repeat' first|refine ai ?_|simp[L2,Pv.look,t1,t2,t3,t4,t10]);simp only[iM H,H.slc,H.ssc,iG];rw[em];refine H.doFn (lk:=d4.toList) (by simpa using s4) (R:=fun a1=> ∃L:Array α,a1=L.toList/\Sort.PermIn (mid+1) b4 d4 L/\Sort.SortedIn lt (mid+1) b4 L) ((bR (b4-(mid+1)) Ω d4 s4 (mid+1) b4 lim (fc _) Ω b8 sw g5).mono fun r ah ⟨ba,cd,bo,b3,c9⟩=>⟨ba,cd.toList,bo,cd,rfl,b3,c9⟩) (by rintro a1 ⟨L,rfl,q,_⟩;simpa using q.1.trans s4) (by simp[aC,aB,tN d4 s4]) ?_;rintro a1 ⟨L,rfl,cX,dI⟩;obtain⟨ja,oe⟩:=g7 L cX dI;simp;(with_reducible repeat' first|refine ai ?_|simp[t1,t2,t3,t4]);exact h4.k _ (.inl rfl) bs mid _ ap L _ _ (cX.1.trans s4) g1 Ω Ω ja oe (by simp[t1]) Ψ (by simp[t3]) (by simp[t4]) (by simp;rfl) Ψ
theorem anp(H:fi S n g cg lc cc lt)(bE:Sort.SWO lt)(bR:CA S n g cg lc cc lt (b4-bs)){pv:Nat}(T:z6 t bs b4 lim)(t11:Pv.get 11 t= .int .i64 pv){w v:Bool}(t8:Pv.get 8 t= .bool w)(t9:Pv.get 9 t= .bool v)(sw:lim<=1000)(pF:cQ.size=n)(qA:bs<=pv/\pv<b4)(b8:b4<=n)(tF:12<b4-bs)(uI:Sort.Below lt bs b4 cQ)(h4:x4 S n g cg lc cc lt bs b4 lim cQ Q):
  c8 al ob CO Q ⟨t,(.loc 0,[.func g lc,.func cg cc])::(S cQ.toList).b,(S cQ.toList).e,1,o⟩:=by
 obtain⟨t1,t2,t3,t4,t10⟩:=id T;have hle:=H.le;unfold CO;by_cases tI:0<bs
 ·have LG:(0:Int)<bs:=Ω
  simp[t1,t2,t4,t11,tI,LG,Pv.look,H.slc,H.ssc];(with_reducible repeat' first|refine ai ?_|simp[t1,t2,t4,t11,tI,LG,Pv.look,H.slc,H.ssc]);rw[show((bs:Int)-1)=((bs-1:Nat):Int) by omega];refine H.lessA pF (bs-1) pv Ω Ω fun o=>?_;cases j6:lt cQ[bs-1]! cQ[pv]!
  ·simp;(with_reducible repeat' first|refine ai ?_|simp[Pv.look,H.slc,H.ssc,t1,t2,t4,t11]);simp only[iM H,H.slc,H.ssc,iG];have ry:=ag1 H cQ pF bs b4 pv qA.1 qA.2 Ω b8;have bn:Sort.partitionEqual lt cQ bs b4 pv=((Sort.partitionEqual lt cQ bs b4 pv).1,(Sort.partitionEqual lt cQ bs b4 pv).2):=rfl;generalize (Sort.partitionEqual lt cQ bs b4 pv).1=mid at ry bn;generalize (Sort.partitionEqual lt cQ bs b4 pv).2=d4 at ry bn;obtain⟨g1,g2,g3,g4,g5⟩:=Sort.round_eq bE (Sort.partitionEqual_holds lt) tI qA.1 qA.2 Ω uI j6 bn;refine H.fnD pF ry (by simp[aB,aC,H.kdata (lk:=cQ.toList) (by simpa using pF)]) fun s4 o=>?_;simp[t1,t2,t3,t4];exact h4.k _ (.inr rfl) mid b4 w v d4 _ _ s4 g2 b8 Ω g4 g5 Ψ (by simp[t2]) (by simp[t3]) (by simp[t4]) (by simp[t8]) (by simp[t9])
  ·simp;exact X7 H bE bR ⟨by simp[t1],by simp[t2],by simp[t3],by simp[t4],by simp[t10]⟩ (by simp[t11]) sw pF qA b8 tF uI h4
 ·have LG:¬(0:Int)<bs:=Ω
  simp[t1,tI];exact X7 H bE bR ⟨by simp[t1],by simp[t2],by simp[t3],by simp[t4],by simp[t10]⟩ (by simp[t11]) sw pF qA b8 tF uI h4
theorem N8(H:fi S n g cg lc cc lt)(bE:Sort.SWO lt)(bR:CA S n g cg lc cc lt (b4-bs)){pv:Nat}(T:z6 t bs b4 lim)(t11:Pv.get 11 t= .int .i64 pv){h:Nat}(t12:Pv.get 12 t= .int .i64 h){w v:Bool}(t8:Pv.get 8 t= .bool w)(t9:Pv.get 9 t= .bool v)(sw:lim<=1000)(pF:cQ.size=n)(qA:bs<=pv/\pv<b4)(b8:b4<=n)(tF:12<b4-bs)(uI:Sort.Below lt bs b4 cQ)(h4:x4 S n g cg lc cc lt bs b4 lim cQ Q):
  c8 al ob Ko Q ⟨t,(.loc 0,[.func g lc,.func cg cc])::(S cQ.toList).b,(S cQ.toList).e,1,o⟩:=by
 obtain⟨t1,t2,t3,t4,t10⟩:=id T;have hle:=H.le;unfold Ko;have next:∀{d5:Array α} {t o},z6 t bs b4 lim->Pv.get 11 t= .int .i64 pv->Pv.get 8 t= .bool w->Pv.get 9 t= .bool v->d5.size=n->Sort.Below lt bs b4 d5->Sort.PermIn bs b4 cQ d5->c8 al ob CO Q ⟨t,(.loc 0,[.func g lc,.func cg cc])::(S d5.toList).b,(S d5.toList).e,1,o⟩:=fun ak aD bh dk hy h8 r3=>anp H bE bR ak aD bh dk sw hy qA b8 tF h8 (h4.mono r3)
 have skip:∀{t o},z6 t bs b4 lim->Pv.get 11 t= .int .i64 pv->Pv.get 8 t= .bool w->Pv.get 9 t= .bool v->c8 al ob CO Q ⟨t,(.loc 0,[.func g lc,.func cg cc])::(S cQ.toList).b,(S cQ.toList).e,1,o⟩:=fun ak aD bh dk=>next ak aD bh dk pF uI (Sort.permIn_refl _ _ _)
 by_cases aw:(w=true/\v=true)/\h=1
 ·obtain⟨⟨rfl,rfl⟩,rfl⟩:=aw;simp[t1,t2,t4,t8,t9,t12,Pv.look,H.slc,H.ssc];simp only[iM H,H.slc,H.ssc,iG];have ry:=agZ H cQ pF bs b4 Ω b8 Ω;have bn:=Sort.partialInsertionSort_holds bE cQ bs b4 Ω Ω uI;generalize (Sort.partialInsertionSort lt cQ bs b4).1=d5 at ry bn;generalize (Sort.partialInsertionSort lt cQ bs b4).2=ok at ry bn;refine H.fnD pF ry (by simp[aB,aC,H.kdata (lk:=cQ.toList) (by simpa using pF)]) fun ao2 o=>?_;cases ok
  ·simp;exact next ⟨by simp[t1],by simp[t2],by simp[t3],by simp[t4],by simp[t10]⟩ (by simp[t11]) (by simp[t8]) (by simp[t9]) ao2 (uI.perm Ω bn.1) bn.1
  ·simp;exact h4.r _ _ _ bn.1 (bn.2 rfl)
 ·cases w
  ·simp[t8,t9,t12];exact skip ⟨by simp[t1],by simp[t2],by simp[t3],by simp[t4],by simp[t10]⟩ (by simp[t11]) (by simp[t8]) (by simp[t9])
  ·cases v
   ·simp[t8,t9,t12];exact skip ⟨by simp[t1],by simp[t2],by simp[t3],by simp[t4],by simp[t10]⟩ (by simp[t11]) (by simp[t8]) (by simp[t9])
   ·have J:((h:Int)==1)=false:=by simp at aw⊢;omega
    simp[t8,t9,t12,J];exact skip ⟨by simp[t1],by simp[t2],by simp[t3],by simp[t4],by simp[t10]⟩ (by simp[t11]) (by simp[t8]) (by simp[t9])
theorem X8(H:fi S n g cg lc cc lt)(gI:sT S 901)(bE:Sort.SWO lt)(bR:CA S n g cg lc cc lt (b4-bs))(T:z6 t bs b4 lim){w v:Bool}(t8:Pv.get 8 t= .bool w)(t9:Pv.get 9 t= .bool v)(sw:lim<=1000)(s1:cQ.size=n)(b8:b4<=n)(tF:12<b4-bs)(Jy:Sort.Below lt bs b4 cQ)(h4:x4 S n g cg lc cc lt bs b4 lim cQ Q):
  c8 al ob Kp Q ⟨t,(.loc 0,[.func g lc,.func cg cc])::(S cQ.toList).b,(S cQ.toList).e,1,o⟩:=by
 obtain⟨t1,t2,t3,t4,t10⟩:=id T;have hle:=H.le;have tN:∀ga:Array α,ga.size=n->aB (inObs (S ga.toList)) (e9 g cg lc cc):=fun ga h=>H.kdata (lk:=ga.toList) (by simpa using h);unfold Kp;simp[t1,t2,t4,Pv.look,H.slc,H.ssc];simp only[iM H,H.slc,H.ssc,iG];have vi:=Sort.choosePivot_holds lt cQ bs b4 Ω;have MN:=agM H gI cQ s1 bs b4 Ω b8;generalize Sort.choosePivot lt cQ bs b4=KA at MN vi;obtain⟨p,hint⟩:=KA;simp only at MN vi;refine H.fnA s1 s1 MN (by simp[aB,aC,tN cQ s1]) fun o=>?_;cases hint
 ·simp[A1];exact N8 H bE bR ⟨by simp[t1],by simp[t2],by simp[t3],by simp[t4],by simp[t10]⟩ (pv:=p) Ψ (h:=0) Ψ (w:=w) (v:=v) (by simp[t8]) (by simp[t9]) sw s1 vi b8 tF Jy h4
 ·simp[A1];exact N8 H bE bR ⟨by simp[t1],by simp[t2],by simp[t3],by simp[t4],by simp[t10]⟩ (pv:=p) Ψ (h:=1) Ψ (w:=w) (v:=v) (by simp[t8]) (by simp[t9]) sw s1 vi b8 tF Jy h4
 ·simp[A1,t1,t2,t4,Pv.look,H.slc,H.ssc];simp only[iM H,H.slc,H.ssc,iG];refine H.fnD s1 (ag6 H cQ s1 bs b4 Ω b8 Ω) (by simp[aB,aC,tN cQ s1]) fun s2 o=>?_;have aO:=Sort.reverseRange_holds cQ bs b4 Ω Ω;have TF:((b4:Int)-1-(p-bs))=((b4-1)-(p-bs):Nat):=Ω
  simp[t1,t2,TF];(with_reducible repeat' first|refine ai ?_|simp[TF,t1,t2]);exact N8 H bE bR ⟨by simp[t1],by simp[t2],by simp[t3],by simp[t4],by simp[t10]⟩ (pv:=(b4-1)-(p-bs)) Ψ (h:=1) Ψ (w:=w) (v:=v) (by simp[t8]) (by simp[t9]) sw s2 Ω b8 tF (Jy.perm Ω aO) (h4.mono aO)
end
theorem ag2(H:fi S n g cg lc cc lt)(gI:sT S 901)(lB:sT S 902)(bE:Sort.SWO lt)(m:Nat):∀(d:Array α) (aR:d.size=n) (a b xl:Nat) (hm:b-a<=m) (nM:a<=b) (af:b<=n) (ev:xl<=1000) (AP:Sort.Below lt a b d),
  bI al 210 [e9 g cg lc cc,.int .i64 a,.int .i64 b,.int .i64 xl] (S d.toList) fun r ah=>r= .tuple []/\∃cd,ah=S cd.toList/\Sort.PermIn a b d cd/\Sort.SortedIn lt a b cd:=by
 induction m using Nat.strongRecOn with
 |ind m bR=>
 intro d aR a b xl hm nM af ev AP;have ag:=H.ok d.toList;have au:d.toList.length=n:=by simpa using aR
 have ax:∀l m,Pv.look (.loc m) (S l).b=none:=fun l=>(H.ok l).obj.1;have hu:∀l m cs,cA (.loc m) cs (S l).b=(S l).b++[(.loc m,cs)]:=fun l m cs=>kg (ax l m);have ay:∀m,aI.loc m∉c2 (S d.toList):=j9 ag.obj;have hle:=H.le;refine bI.mk mixed oQ afE amF Ψ ag.obj fun aM cR=>?_;unfold Sr;simp[e9,hu,ay,cK,ax];refine H.loopA au [4] (fun(x:((Nat×Nat×Nat)×Bool×Bool)×Array α)=>[(1,.int .i64 x.1.1.1),(2,.int .i64 x.1.1.2.1),(3,.int .i64 x.1.1.2.2),(8,.bool x.1.2.1),(9,.bool x.1.2.2)]) (·.2) (fun x=>x.1.1.2.1-x.1.1.1) (fun x=>x.2.size=n/\(x.1.1.1<=x.1.1.2.1/\x.1.1.2.1<=n/\x.1.1.2.1-x.1.1.1<=m/\x.1.1.2.2<=1000)/\Sort.Below lt x.1.1.1 x.1.1.2.1 x.2/\∀R,Sort.PermIn x.1.1.1 x.1.1.2.1 x.2 R->Sort.SortedIn lt x.1.1.1 x.1.1.2.1 R->Sort.PermIn a b d R/\Sort.SortedIn lt a b R)
  (((a,b,xl),true,true),d) aR ⟨aR,⟨nM,af,hm,ev⟩,AP,fun R J U=>⟨J,U⟩⟩ (by simp[cK,ax]) aN aN d6 ?_
 rintro⟨⟨⟨bs,b4,vI⟩,arC,wp⟩,cu⟩ ⟨aS,⟨be,b8,eg,dm⟩,ML,Ho⟩;simp only at aS be b8 eg dm ML Ho;have tN:∀ga:Array α,ga.size=n->aB (inObs (S ga.toList)) (e9 g cg lc cc):=fun ga h=>H.kdata (lk:=ga.toList) (by simpa using h);have IP:∀(R:Array α) t o,Sort.PermIn bs b4 cu R->Sort.SortedIn lt bs b4 R->cH YO (S d.toList) (fun r ah=>r= .tuple []/\∃cd,ah=S cd.toList/\Sort.PermIn a b d cd/\Sort.SortedIn lt a b cd) .ret ⟨t,(.loc 0,[.func g lc,.func cg cc])::(S R.toList).b,(S R.toList).e,1,o⟩:=fun R t o J U=>by refine H.retA au (by rw[J.1];exact aS) (.inl rfl) ⟨rfl,R,rfl,Ho R J U⟩
 simp;by_cases tF:b4-bs<=12
 ·have Dc:(b4:Int)-bs<=12:=Ω
  (with_reducible repeat' first|refine ai ?_|simp[Dc,Pv.look,H.slc,H.ssc]);simp only[iM H,H.slc,H.ssc,iG];refine H.fnD aS (agQ H cu aS bs b4 be b8) (by simp[aB,aC,tN cu aS]) fun s2 o=>?_;obtain⟨ba,bo⟩:=Sort.insertionSort_holds bE cu bs b4 be Ω;simp;exact IP _ _ _ ba bo
 have Dc:¬(b4:Int)-bs<=12:=Ω
 by_cases A4:vI=0
 ·have GV:(((vI:Nat):Int)==0)=true:=by simp[A4]
  (with_reducible repeat' first|refine ai ?_|simp[Dc,GV,Pv.look,H.slc,H.ssc]);simp only[iM H,H.slc,H.ssc,iG];refine H.fnD aS (agP H cu aS bs b4 be b8 Ω) (by simp[aB,aC,tN cu aS]) fun s2 o=>?_;obtain⟨ba,bo⟩:=Sort.heapSort_holds bE cu bs b4 be Ω;simp;exact IP _ _ _ ba bo
 have GV:(((vI:Nat):Int)==0)=false:=by simp[A4]
 have VV:CA S n g cg lc cc lt (b4-bs):=fun k ad=>bR k Ω;cases arC
 ·(with_reducible repeat' first|refine ai ?_|simp[Dc,GV,Pv.look,H.slc,H.ssc]);simp only[iM H,H.slc,H.ssc,iG];refine H.fnD aS (agL H lB cu aS bs b4 be b8 Ω) (by simp[aB,aC,tN cu aS]) fun s1 o=>?_;have x3:=Sort.breakPatterns_holds cu bs b4 be Ω;generalize Sort.breakPatterns cu bs b4=d1 at s1 x3;have el:((vI:Int)-1)=(vI-1:Nat):=Ω
  simp[el];(with_reducible repeat' first|refine ai ?_|simp[el,Pv.look]);refine X8 (lim:=vI-1) H gI bE VV ⟨Ψ,Ψ,Ψ,Ψ,Ψ⟩ (w:=false) (v:=wp) Ψ Ψ Ω s1 b8 Ω (ML.perm Ω x3) ⟨?_,fun R t o dC eH=>?_⟩
  ·rintro e he a2 b7 w v L t o ak aD bh dk hy h8 t1 t2 t3 t4 t8 t9;rcases he with rfl|rfl<;>simp<;>exact bK.whl (((a2,b7,vI-1),w,v),L) d7 ⟨ak,⟨aD,bh,by simp;omega,by simp;omega⟩,hy,fun R dC eH=>Ho R (Sort.permIn_trans _ _ _ bs b4 x3 (h8 R dC eH).1) (h8 R dC eH).2⟩ (H.weakC au (by simpa using ak) (by simp[aB,t1,t2,t3,t4,t8,t9]))
  ·simpa using IP R t o (Sort.permIn_trans _ _ _ bs b4 x3 dC) eH
 ·(with_reducible repeat' first|refine ai ?_|simp[Dc,GV,Pv.look,H.slc,H.ssc]);refine X8 (lim:=vI) H gI bE VV ⟨Ψ,Ψ,Ψ,Ψ,Ψ⟩ (w:=true) (v:=wp) Ψ Ψ dm aS b8 Ω ML ⟨?_,fun R t o dC eH=>?_⟩
  ·rintro e he a2 b7 w v L t o ak aD bh dk hy h8 t1 t2 t3 t4 t8 t9;rcases he with rfl|rfl<;>simp<;>exact bK.whl (((a2,b7,vI),w,v),L) d7 ⟨ak,⟨aD,bh,by simp;omega,dm⟩,hy,fun R dC eH=>Ho R (h8 R dC eH).1 (h8 R dC eH).2⟩ (H.weakC au (by simpa using ak) (by simp[aB,t1,t2,t3,t4,t8,t9]))
  ·simpa using IP R t o dC eH
end
section
open Go Go.Pv
variable {α:Type} {S:List α->cL} {n g cg:Nat} {lc cc:List aj} {lt:α->α->Bool}
theorem aky(bE:q2 lt){l lk:List α}{a b i:Nat}(nN:a+1<=i)(A0:i<=b)(af:b<=l.length)(ag:fo lt (a+1) b l){z:α}(bz:l[a]? =some z)(DB:∀h x,a+1<=h->h<i->l[h]? =some x->lt x z=true)(Dw:∀h x,i<=h->h<b->l[h]? =some x->lt x z=false)
  (aO:∀k,lk[k]? =l[ih a (a+1) i k]?):fo lt a b lk:=by
 intro p q x y bF kT bn ab aL;rw[aO]at ab aL;simp only[ih]at ab aL;rw[if_neg Ω]at ab aL;by_cases ba:q<i-1
 ·rw[if_pos Ω]at ab aL;exact ag _ _ _ _ Ω Ω Ω ab aL
 ·rw[if_neg Ω]at aL;by_cases bo:q<i
  ·rw[if_pos bo,show q-(i-(a+1))=a by omega,bz]at aL;cases aL;rw[if_pos Ω]at ab;exact bE.asym _ _ (DB _ _ Ω Ω ab)
  ·rw[if_neg bo]at aL;by_cases cX:p<i-1
   ·rw[if_pos Ω]at ab;exact ag _ _ _ _ Ω Ω Ω ab aL
   ·rw[if_neg Ω]at ab;by_cases dI:p<i
    ·rw[if_pos dI,show p-(i-(a+1))=a by omega,bz]at ab;cases ab;exact Dw _ _ Ω bn aL
    ·rw[if_neg dI]at ab;exact ag _ _ _ _ Ω Ω bn ab aL
theorem akz(bE:q2 lt){l lk:List α}{a m i:Nat}(nN:a<=i)(atf:i<=m)(af:m+1<=l.length)(ag:fo lt a m l){z:α}(bz:l[m]? =some z)(DB:∀h x,a<=h->h<i->l[h]? =some x->lt z x=false)(Dw:∀h x,i<=h->h<m->l[h]? =some x->lt z x=true)
  (aO:∀k,lk[k]? =l[ih i m (m+1) k]?):fo lt a (m+1) lk:=by
 intro p q x y bF kT bn ab aL;rw[aO]at ab aL;simp only[ih]at ab aL;by_cases ba:q<i
 ·rw[if_pos Ω]at ab aL;exact ag _ _ _ _ bF kT Ω ab aL
 ·rw[if_neg ba]at aL;by_cases bo:q=i
  ·rw[if_pos Ω,show q+(m-i)=m by omega,bz]at aL;cases aL;rw[if_pos Ω]at ab;exact DB _ _ bF Ω ab
  ·rw[if_neg Ω,if_pos Ω]at aL;by_cases cX:p<i
   ·rw[if_pos cX]at ab;exact ag _ _ _ _ bF Ω Ω ab aL
   ·rw[if_neg cX]at ab;by_cases dI:p=i
    ·rw[if_pos Ω,show p+(m-i)=m by omega,bz]at ab;cases ab;exact bE.asym _ _ (Dw _ _ Ω Ω aL)
    ·rw[if_neg Ω,if_pos Ω]at ab;exact ag _ _ _ _ Ω Ω Ω ab aL
structure Ft (lt:α->α->Bool) (a s m e b mid:Nat) (lk:List α):Prop where
 s1:fo lt a s lk
 s2:fo lt s mid lk
 s3:fo lt mid e lk
 s4:fo lt e b lk
 cross:∀p q x y,a<=p->p<mid->mid<=q->q<b->lk[p]? =some x->lk[q]? =some y->lt y x=false
theorem fo.le(bE:q2 lt){a b:Nat}{l:List α}(h:fo lt a b l){i j:Nat}{x y:α}(J:a<=i)(U:i<=j)(ar:j<b)(ab:l[i]? =some x)(aL:l[j]? =some y):lt y x=false:=by
 by_cases e:i=j
 ·subst e;rw[ab]at aL;cases aL;cases VR:lt x x with
  |false=>rfl
  |true=>have:=bE.asym _ _ VR;rw[VR]at this;exact this
 ·exact h _ _ _ _ J Ω ar ab aL
theorem akG(bE:q2 lt){l lk:List α}{a m b mid s e:Nat}(has:a<=s)(dr:s<=m)(atj:m<=e)(atd:e<=b)(af:b<=l.length)(l6:s+e=mid+m)(J:fo lt a m l)(U:fo lt m b l)
  (bM:s=a\/e=b\/ ∃x y,l[s-1]? =some x/\l[e]? =some y/\lt y x=false) (cp:s=m\/e=m\/ ∃x y,l[s]? =some x/\l[e-1]? =some y/\lt y x=true) (aO:∀k,lk[k]? =l[ih s m e k]?):Ft lt a s m e b mid lk:=by
 have g1:∀p,p<s->lk[p]? =l[p]?:=fun p bF=>by rw[aO];simp[ih,bF]
 have g2:∀p,s<=p->p<mid->lk[p]? =l[p+(m-s)]?:=fun p ar a6=>by rw[aO];simp only[ih];rw[if_neg Ω,if_pos Ω]
 have g3:∀p,mid<=p->p<e->lk[p]? =l[p-(e-m)]?:=fun p ar a6=>by rw[aO];simp only[ih];rw[if_neg Ω,if_neg Ω,if_pos Ω]
 have g4:∀p,e<=p->lk[p]? =l[p]?:=fun p ar=>by
  rw[aO];simp only[ih];rw[if_neg Ω];by_cases b0:p<s+(e-m)
  ·omega
  ·rw[if_neg b0,if_neg Ω]
 refine⟨fun p q x y bF kT bn ab aL=>?_,fun p q x y bF kT bn ab aL=>?_,fun p q x y bF kT bn ab aL=>?_,fun p q x y bF kT bn ab aL=>?_,fun p q x y bF aiM bn Mf ab aL=>?_⟩
 ·rw[g1 _ Ω]at ab aL;exact J _ _ _ _ bF kT Ω ab aL
 ·rw[g2 _ Ω Ω]at ab aL;exact U _ _ _ _ Ω Ω Ω ab aL
 ·rw[g3 _ Ω Ω]at ab aL;exact J _ _ _ _ Ω Ω Ω ab aL
 ·rw[g4 _ Ω]at ab aL;exact U _ _ _ _ Ω Ω Ω ab aL
 ·by_cases cX:p<s
  ·rw[g1 _ cX]at ab;by_cases ba:q<e
   ·rw[g3 _ bn ba]at aL;exact J _ _ _ _ bF Ω Ω ab aL
   ·rw[g4 _ Ω]at aL;rcases bM with bM|bM|⟨u,v,aS,be,b8⟩
    ·omega
    ·omega
    ·exact bE.ntr _ _ _ (bE.ntr _ _ _ (fo.le bE J bF Ω Ω ab aS) b8) (fo.le bE U Ω Ω Mf be aL)
  ·rw[g2 _ Ω aiM]at ab;by_cases ba:q<e
   ·rw[g3 _ bn ba]at aL;rcases cp with cp|cp|⟨u,v,aS,be,b8⟩
    ·omega
    ·omega
    ·exact bE.ntr _ _ _ (bE.ntr _ _ _ (fo.le bE U Ω Ω Ω ab be) (bE.asym _ _ b8)) (fo.le bE J Ω Ω Ω aS aL)
   ·rw[g4 _ Ω]at aL;exact U _ _ _ _ Ω Ω Mf ab aL
theorem akH{a mid b:Nat}(Dk:a<=mid){lk hC fP:List α}(J:gF a mid lk hC)(s1:fo lt a mid hC)(U:gF mid b hC fP)(s2:fo lt mid b fP)(ac2:∀p q x y,a<=p->p<mid->mid<=q->q<b->lk[p]? =some x->lk[q]? =some y->lt y x=false):fo lt a b fP:=by
 intro p q x y bF kT bn ab aL;by_cases ar:q<mid
 ·rw[U.out _ (.inl Ω)]at ab;rw[U.out _ (.inl Ω)]at aL;exact s1 _ _ _ _ bF kT ar ab aL
 ·by_cases a6:mid<=p
  ·exact s2 _ _ _ _ a6 kT bn ab aL
  ·rw[U.out _ (.inl Ω)]at ab;refine U.all (fun y=>lt y x=false) (fun k y gI lB aL=>?_) q y Ω bn aL;rw[J.out _ (.inr gI)]at aL;exact J.all (fun x=>lt y x=false) (fun bJ x aih aii ab=>ac2 bJ k x y aih aii gI lB ab aL) p x bF Ω ab
end
section
open Go Go.Pv
variable {α:Type} {S:List α->cL} {n g cg:Nat} {lc cc:List aj} {lt:α->α->Bool}
def apR(lt:α->α->Bool)(l:List α)(mid m s0 r0:Nat)(x:Nat×Nat):Prop:=s0<=x.1/\x.1<=x.2/\x.2<=r0/\(x.1=s0\/ ∃u v,l[x.1-1]? =some u/\l[mid+m-x.1]? =some v/\lt v u=false)/\(x.2=r0\/ ∃u v,l[x.2]? =some u/\l[mid+m-x.2-1]? =some v/\lt v u=true)
attribute [local simp] p7
def FA(S:List α->cL)(n g cg:Nat)(lc cc:List aj)(lt:α->α->Bool)(d:Nat):Prop:=
 ∀(l:List α) (a m b:Nat),l.length=n->b-a<=d->a<m->m<b->b<=n->fo lt a m l->fo lt m b l->
  bI al 277 [e9 g cg lc cc,.int .i64 a,.int .i64 m,.int .i64 b] (S l) fun r ah=>r= .tuple []/\∃a1,ah=S a1/\gF a b l a1/\fo lt a b a1
def FB(S:List α->cL)(g cg:Nat)(lc cc:List aj)(lt:α->α->Bool)(a b:Nat)(l:List α)(Q:Exit->bu->Prop):Prop:=∀fP t o,gF a b l fP->fo lt a b fP->Q .normal ⟨t,(.loc 0,[.func g lc,.func cg cc])::(S fP).b,(S fP).e,1,o⟩
section
variable {a m b mid i e d:Nat} {l:List α} {t:List (Nat×aj)} {o:List aI} {ob:List aI} {Q:Exit->bu->Prop}
theorem aps(H:fi S n g cg lc cc lt)(bR:FA S n g cg lc cc lt d)(t3:Pv.get 3 t= .int .i64 b)(t4:Pv.get 4 t= .ptr (.loc 0) 0)(t16:Pv.get 16 t= .int .i64 mid)(t22:Pv.get 22 t= .int .i64 e)(au:l.length=n)(J:mid<=e)(U:e<=b)(af:b<=n)(aR:b-mid<=d)(VF:fo lt mid e l)(VG:fo lt e b l)(h4:FB S g cg lc cc lt mid b l Q):
  c8 al ob F2 Q ⟨t,(.loc 0,[.func g lc,.func cg cc])::(S l).b,(S l).e,1,o⟩:=by
 unfold F2;by_cases lZ:mid<e/\e<b
 ·simp[t3,t4,t16,t22,lZ.1,lZ.2,Pv.look];simp only[iM H,H.slc,H.ssc,iG];refine H.doFn au (bR l mid e b au aR lZ.1 lZ.2 af VF VG) (fun a1 h=>by rw[h.1.length];exact au) (by simp[aC,aB,H.kdata au]) ?_;rintro fP ⟨lr,z2⟩;simp;exact h4 _ _ _ lr z2
 ·have qd:fo lt mid b l:=by
   by_cases nP:mid<e
   ·rwa[show e=b by omega]at VF
   ·rwa[show e=mid by omega]at VG
  by_cases nP:mid<e
  ·have ahL:¬e<b:=Ω
   simp[t3,t16,t22,nP,ahL];exact h4 _ _ _ (.refl _) qd
  ·simp[t16,t22,nP];exact h4 _ _ _ (.refl _) qd
theorem apt(H:fi S n g cg lc cc lt)(bR:FA S n g cg lc cc lt d)(t1:Pv.get 1 t= .int .i64 a)(t3:Pv.get 3 t= .int .i64 b)(t4:Pv.get 4 t= .ptr (.loc 0) 0)(t16:Pv.get 16 t= .int .i64 mid)(t18:Pv.get 18 t= .int .i64 i)(t22:Pv.get 22 t= .int .i64 e)(au:l.length=n)(br:a<=i/\i<=mid/\a<=m)(J:mid<=e)(U:e<=b)(af:b<=n)(aR:b-mid<=d)(k9:mid-a<=d)(ei:Ft lt a i m e b mid l)(h4:FB S g cg lc cc lt a b l Q):
  c8 al ob F3 Q ⟨t,(.loc 0,[.func g lc,.func cg cc])::(S l).b,(S l).e,1,o⟩:=by
 unfold F3;have next:∀{hC t o},Pv.get 3 t= .int .i64 b->Pv.get 4 t= .ptr (.loc 0) 0->Pv.get 16 t= .int .i64 mid->Pv.get 22 t= .int .i64 e->hC.length=n->gF a mid l hC->fo lt a mid hC->c8 al ob F2 Q ⟨t,(.loc 0,[.func g lc,.func cg cc])::(S hC).b,(S hC).e,1,o⟩:=fun ak aD bh dk yM cX dI=>by
  refine aps H bR ak aD bh dk yM J U af aR (fun p q x y J U ar ab aL=>?_) (fun p q x y J U ar ab aL=>?_) fun fP t o ba bo=>?_
  ·rw[cX.out _ (.inr J)]at ab;rw[cX.out _ (.inr Ω)]at aL;exact ei.s3 p q x y J U ar ab aL
  ·rw[cX.out _ (.inr Ω)]at ab;rw[cX.out _ (.inr Ω)]at aL;exact ei.s4 p q x y J U ar ab aL
  ·exact h4 fP t o ((cX.mono Ω Ω).trans (ba.mono Ω Ω)) (akH Ω cX dI ba bo ei.cross)
 by_cases lA:a<i/\i<mid
 ·simp[t1,t4,t16,t18,lA.1,lA.2,Pv.look];simp only[iM H,H.slc,H.ssc,iG];refine H.doFn au (bR l a i mid au k9 lA.1 lA.2 Ω ei.s1 ei.s2) (fun a1 h=>by rw[h.1.length];exact au) (by simp[aC,aB,H.kdata au]) ?_;rintro hC ⟨cX,dI⟩;simp;exact next (by simp[t3]) (by simp[t4]) (by simp[t16]) (by simp[t22]) (by rw[cX.length];exact au) cX dI
 ·have dI:fo lt a mid l:=by
   by_cases qz:a<i
   ·have:=ei.s1;rwa[show i=mid by omega]at this
   ·have:=ei.s2;rwa[show i=a by omega]at this
  by_cases qz:a<i
  ·have GD:¬i<mid:=Ω
   simp[t1,t16,t18,qz,GD];exact next (by simp[t3]) (by simp[t4]) (by simp[t16]) (by simp[t22]) au (.refl _) dI
  ·simp[t1,t18,qz];exact next (by simp[t3]) (by simp[t4]) (by simp[t16]) (by simp[t22]) au (.refl _) dI
theorem apu(H:fi S n g cg lc cc lt)(bR:FA S n g cg lc cc lt d)(t1:Pv.get 1 t= .int .i64 a)(t2:Pv.get 2 t= .int .i64 m)(t3:Pv.get 3 t= .int .i64 b)(t4:Pv.get 4 t= .ptr (.loc 0) 0)(t16:Pv.get 16 t= .int .i64 mid)(t18:Pv.get 18 t= .int .i64 i)(t22:Pv.get 22 t= .int .i64 e)(au:l.length=n)(br:a<=i/\i<=mid/\a<=m)(J:mid<=e)(U:e<=b)(af:b<=n)(aR:b-mid<=d)(k9:mid-a<=d)(Vm:∀lk:List α,(∀k,lk[k]? =l[ih i m e k]?)->Ft lt a i m e b mid lk)(h4:FB S g cg lc cc lt a b l Q):
  c8 al ob Kq Q ⟨t,(.loc 0,[.func g lc,.func cg cc])::(S l).b,(S l).e,1,o⟩:=by
 unfold Kq;have next:∀{lk t o},Pv.get 1 t= .int .i64 a->Pv.get 3 t= .int .i64 b->Pv.get 4 t= .ptr (.loc 0) 0->Pv.get 16 t= .int .i64 mid->Pv.get 18 t= .int .i64 i->Pv.get 22 t= .int .i64 e->lk.length=n->Ft lt a i m e b mid lk->gF a b l lk->c8 al ob F3 Q ⟨t,(.loc 0,[.func g lc,.func cg cc])::(S lk).b,(S lk).e,1,o⟩:=fun ak aD bh dk hy h8 fE ei ahG=>apt H bR ak aD bh dk hy h8 fE br J U af aR k9 ei fun fP t o ba bo=>h4 fP t o (ahG.trans ba) bo
 by_cases qc:i<m/\m<e
 ·simp[t2,t4,t18,t22,qc.1,qc.2,Pv.look];simp only[iM H,H.slc,H.ssc,iG];refine H.doFn au (ag7 H l au i m e qc.1 qc.2 Ω) (fun a1 h=>by rw[h.1.length];exact au) (by simp[aC,aB,H.kdata au]) ?_;rintro lk ⟨ba,bo⟩;simp;exact next (by simp[t1]) (by simp[t3]) (by simp[t4]) (by simp[t16]) (by simp[t18]) (by simp[t22]) (by rw[ba.length];exact au) (Vm lk bo) (ba.mono Ω Ω)
 ·have ei:=Vm l (fun k=>by
   congr 1;simp only[ih];repeat' split
   all_goals omega)
  by_cases mY:i<m
  ·have aiO:¬m<e:=Ω
   simp[t2,t18,t22,mY,aiO];exact next (by simp[t1]) (by simp[t3]) (by simp[t4]) (by simp[t16]) (by simp[t18]) (by simp[t22]) au ei (.refl _)
  ·simp[t2,t18,mY];exact next (by simp[t1]) (by simp[t3]) (by simp[t4]) (by simp[t16]) (by simp[t18]) (by simp[t22]) au ei (.refl _)
theorem Zv{bb:List (aI×List aj)}(H:fi S n g cg lc cc lt)(wN:Pv.look (.loc 0) bb=some [.func g lc,.func cg cc])(cR:∀k cs,Pv.look k (S l).b=some cs->Pv.look k bb=some cs)(bE:q2 lt)(bR:FA S n g cg lc cc lt d){s0 r0:Nat}(t1:Pv.get 1 t= .int .i64 a)(t2:Pv.get 2 t= .int .i64 m)(t3:Pv.get 3 t= .int .i64 b)(t4:Pv.get 4 t= .ptr (.loc 0) 0)(t16:Pv.get 16 t= .int .i64 mid)(t17:Pv.get 17 t= .int .i64 ((mid:Int)+m))(t18:Pv.get 18 t= .int .i64 s0)(t19:Pv.get 19 t= .int .i64 r0)(au:l.length=n)(br:a<m/\m<b/\mid=(a+b)/2)(J:mid<m/\s0=mid+m-b/\r0=mid\/m<=mid/\s0=a/\r0=m)(af:b<=n)(aR:b-a<=d+1)(kU:fo lt a m l)(lg:fo lt m b l)(h4:FB S g cg lc cc lt a b l Q):
  c8 al (c2 (S l)) Kr Q ⟨t,bb,(S l).e,1,o⟩:=by
 have hle:=H.le;unfold Kr;simp[t17];(with_reducible repeat' first|refine ai ?_|simp[t17]);refine pc (fun(x:Nat×Nat)=>⟨[(1,.int .i64 a),(2,.int .i64 m),(3,.int .i64 b),(4,.ptr (.loc 0) 0),(16,.int .i64 mid),(17,.int .i64 (mid+m)),(20,.int .i64 (mid+m-1)),(18,.int .i64 x.1),(19,.int .i64 x.2)],(.loc 0,[.func g lc,.func cg cc])::(S l).b,(S l).e,1,c2 (S l)⟩) (fun x=>x.2-x.1)
  (apR lt l mid m s0 r0) (s0,r0) (H.weak au au (by simp[aB,t1,t2,t3,t4,t16,t17,t18,t19]) wN cR fun _ _ h=>h) ⟨Ψ,by simp;omega,Ψ,.inl rfl,.inl rfl⟩ ?_
 rintro⟨i,j⟩ ⟨aS,be,b8,eg,dm⟩ _;simp only at aS be b8 eg dm;have pz:=GG i j Ω;by_cases mA:i<j
 ·simp[mA];(with_reducible repeat' first|refine ai ?_|simp[Pv.look]);obtain⟨c,aw⟩:∃c,c=(i+j)/2:=⟨_,rfl⟩;rw[<-aw]at pz;simp only[pz];(with_reducible repeat' first|refine ai ?_|simp[Pv.look]);obtain⟨u,Mu⟩:∃u,l[c]? =some u:=⟨_,b6 Ω⟩;obtain⟨v,Mv⟩:∃v,l[mid+m-1-c]? =some v:=⟨_,b6 Ω⟩;have dk:((mid:Int)+m-1-c)=(mid+m-1-c:Nat):=Ω
  simp only[H.slc,dk];refine H.doLess au (mid+m-1-c) c Mv Mu ?_;simp;cases sG:lt v u with
  |false=>simp;(with_reducible repeat' first|refine ai ?_|simp);refine bK.whl (c+1,j) d7 ⟨by simp;omega,by simp;omega,b8,.inr ⟨u,v,by simpa using Mu,?_,sG⟩,dm⟩ (H.weakC au au d6);simp only;rw[show mid+m-(c+1)=mid+m-1-c by omega];exact Mv
  |true=>simp;(with_reducible repeat' first|refine ai ?_|simp);refine bK.whl (i,c) d7 ⟨aS,by simp;omega,by simp;omega,eg,.inr ⟨u,v,Mu,?_,sG⟩⟩ (H.weakC au au d6);simp only;rw[show mid+m-c-1=mid+m-1-c by omega];exact Mv
 ·obtain rfl:i=j:=Ω
  obtain⟨e,he⟩:∃e,e=mid+m-i:=⟨_,rfl⟩;have hy:((mid:Int)+m-i)=(e:Nat):=Ω
  have bM:i=a\/e=b\/ ∃x y,l[i-1]? =some x/\l[e]? =some y/\lt y x=false:=by
   rcases eg with eg|⟨u,v,ba,bo,b3⟩
   ·omega
   ·exact .inr (.inr ⟨u,v,ba,by rw[he];exact bo,b3⟩)
  have cp:i=m\/e=m\/ ∃x y,l[i]? =some x/\l[e-1]? =some y/\lt y x=true:=by
   rcases dm with dm|⟨u,v,ba,bo,b3⟩
   ·omega
   ·exact .inr (.inr ⟨u,v,ba,by rw[he];exact bo,b3⟩)
  simp[mA];(with_reducible repeat' first|refine ai ?_|simp);rw[hy];exact apu H bR (a:=a) (m:=m) (b:=b) (mid:=mid) (i:=i) (e:=e) Ψ Ψ Ψ Ψ Ψ Ψ Ψ au Ω Ω Ω af Ω Ω (fun lk aO=>akG bE Ω Ω Ω Ω Ω Ω kU lg bM cp aO) h4
end
theorem UA(H:fi S n g cg lc cc lt)(bE:q2 lt)(d:Nat):∀(l:List α) (a m b:Nat),l.length=n->b-a<=d->a<m->m<b->b<=n->fo lt a m l->fo lt m b l->
  bI al 277 [e9 g cg lc cc,.int .i64 a,.int .i64 m,.int .i64 b] (S l) fun r ah=>r= .tuple []/\∃a1,ah=S a1/\gF a b l a1/\fo lt a b a1:=by
 induction d with
 |zero=>intro l a m b au aR Dk wX;omega
 |succ d bR=>
 intro l a m b au aR Dk wX af kU lg;have ag:=H.ok l;have ax:∀l m,Pv.look (.loc m) (S l).b=none:=fun l=>(H.ok l).obj.1;have hu:∀l m cs,cA (.loc m) cs (S l).b=(S l).b++[(.loc m,cs)]:=fun l m cs=>kg (ax l m);have ay:∀m,aI.loc m∉c2 (S l):=j9 ag.obj;have hle:=H.le;refine bI.mk mixed Cl afK amL Ψ ag.obj fun aM cR=>?_;unfold Sx;simp[e9,hu,ay,cK,ax];(with_reducible repeat' first|((first|apply bU|apply bY|apply bX)<;>intro h<;>try simp at h)|refine ai ?_|simp[hu,ay,cK,ax])
 ·obtain rfl:m=a+1:=Ω
  have Mi:∀k,ih a (a+1) (a+1) k=k:=by
   intro k;simp only[ih];repeat' split
   all_goals omega
  obtain⟨z,bz⟩:∃z,l[a]? =some z:=⟨_,b6 Ω⟩;refine pc (fun(x:Nat×Nat)=>⟨[(1,.int .i64 a),(4,.ptr (.loc 0) 0),(8,.int .i64 x.1),(9,.int .i64 x.2)],(.loc 0,[.func g lc,.func cg cc])::(S l).b,(S l).e,1,c2 (S l)⟩) (fun x=>x.2-x.1)
   (fun x=>a+1<=x.1/\x.1<=x.2/\x.2<=b/\(∀h y,a+1<=h->h<x.1->l[h]? =some y->lt y z=true)/\(∀h y,x.2<=h->h<b->l[h]? =some y->lt y z=false)) (a+1,b)
   (H.weak au au d6 (by simp[cK,ax]) aN aN) ⟨Ψ,by simp;omega,Ψ,fun h y J U=>by simp at U;omega,fun h y J U=>by simp at J;omega⟩ ?_
  rintro⟨i,j⟩ ⟨aS,be,b8,eg,dm⟩ _;simp only at aS be b8 eg dm;have hw:=GG i j Ω;simp[Pv.look];(with_reducible repeat' first|((first|apply bU|apply bY|apply bX)<;>intro h<;>try simp at h)|refine ai ?_|simp[Pv.look])
  ·obtain⟨c,aw⟩:∃c,c=(i+j)/2:=⟨_,rfl⟩;rw[<-aw]at hw;obtain⟨y,aL⟩:∃y,l[c]? =some y:=⟨_,b6 Ω⟩;simp only[hw,H.slc];refine H.doLess au c a aL bz ?_;simp;cases sG:lt y z with
   |true=>
    simp;(with_reducible repeat' first|refine ai ?_|simp);refine bK.whl (c+1,j) d7 ⟨by simp;omega,by simp;omega,b8,fun h u J U hu=>?_,dm⟩ (H.weakC au au d6);cases e:lt u z with
    |true=>rfl
    |false=>simp only at U;have:=bE.ntr _ _ _ e (fo.le bE lg J Ω Ω hu aL);rw[sG]at this;cases this
   |false=>simp;(with_reducible repeat' first|refine ai ?_|simp);refine bK.whl (i,c) d7 ⟨aS,by simp;omega,by simp;omega,eg,fun h u J U hu=>?_⟩ (H.weakC au au d6);exact bE.ntr _ _ _ sG (fo.le bE lg Ω J U aL hu)
  ·obtain rfl:i=j:=Ω
   refine pc (fun(x:Nat×List α)=>⟨[(4,.ptr (.loc 0) 0),(8,.int .i64 i),(11,.int .i64 x.1)],(.loc 0,[.func g lc,.func cg cc])::(S x.2).b,(S x.2).e,1,c2 (S l)⟩) (fun x=>i-x.1)
    (fun x=>x.2.length=n/\a<=x.1/\x.1<i/\gF a b l x.2/\∀k,x.2[k]? =l[ih a (a+1) (x.1+1) k]?) (a,l)
    (H.weakC au au d6) ⟨au,Ψ,by simp;omega,.refl _,fun k=>by simp[Mi]⟩ ?_
   rintro⟨k,lk⟩ ⟨ba,bo,b3,c9,dh⟩ _;simp only at ba bo b3 c9 dh;simp[Pv.look];((with_reducible repeat' first|refine ai ?_|simp[Pv.look]|((first|apply bU|apply bY|apply bX)<;>intro h<;>try simp at h))<;>(try exact cz))
   ·have bh:((k:Int)+1)=(k+1:Nat):=Ω
    rw[H.ssc,bh];refine H.doSwap ba k (k+1) Ω Ω Ω ?_;simp;(with_reducible repeat' first|((first|apply bU|apply bY|apply bX)<;>intro h<;>try simp at h)|refine ai ?_|simp);refine bK.whl (k+1,gZ lk k (k+1)) d7 ⟨by simp[ba],by simp;omega,by simp;omega,.step c9 Ω Ω Ω Ω Ω Ω,fun t=>?_⟩ (H.weakC au (by simp[ba]) d6);rw[Bx _ _ _ _ Ω Ω,dh,dh,dh];have:ih a (a+1) (k+1+1) t=if t=k then ih a (a+1) (k+1) (k+1)else if t=k+1 then ih a (a+1) (k+1) k else ih a (a+1) (k+1) t:=by
     simp only[ih];repeat' split
     all_goals omega
    rw[this];split
    ·rfl
    ·split<;>rfl
   ·obtain rfl:i=k+1:=Ω
    refine H.ret au ba (.inl rfl) ⟨rfl,lk,rfl,c9,aky bE Ω b8 Ω lg bz eg dm dh⟩
 ·obtain rfl:b=m+1:=Ω
  have Mi:∀k,ih m m (m+1) k=k:=by
   intro k;simp only[ih];repeat' split
   all_goals omega
  obtain⟨z,bz⟩:∃z,l[m]? =some z:=⟨_,b6 Ω⟩;refine pc (fun(x:Nat×Nat)=>⟨[(2,.int .i64 m),(4,.ptr (.loc 0) 0),(12,.int .i64 x.1),(13,.int .i64 x.2)],(.loc 0,[.func g lc,.func cg cc])::(S l).b,(S l).e,1,c2 (S l)⟩) (fun x=>x.2-x.1)
   (fun x=>a<=x.1/\x.1<=x.2/\x.2<=m/\(∀h y,a<=h->h<x.1->l[h]? =some y->lt z y=false)/\(∀h y,x.2<=h->h<m->l[h]? =some y->lt z y=true)) (a,m)
   (H.weak au au d6 (by simp[cK,ax]) aN aN) ⟨Ψ,by simp;omega,Ψ,fun h y J U=>by simp at U;omega,fun h y J U=>by simp at J;omega⟩ ?_
  rintro⟨i,j⟩ ⟨aS,be,b8,eg,dm⟩ _;simp only at aS be b8 eg dm;have hw:=GG i j Ω;simp[Pv.look];(with_reducible repeat' first|((first|apply bU|apply bY|apply bX)<;>intro h<;>try simp at h)|refine ai ?_|simp[Pv.look])
  ·obtain⟨c,aw⟩:∃c,c=(i+j)/2:=⟨_,rfl⟩;rw[<-aw]at hw;obtain⟨y,aL⟩:∃y,l[c]? =some y:=⟨_,b6 Ω⟩;simp only[hw,H.slc];refine H.doLess au m c bz aL ?_;simp;cases sG:lt z y with
   |false=>simp;((with_reducible repeat' first|refine ai ?_|simp|((first|apply bU|apply bY|apply bX)<;>intro h<;>try simp at h))<;>(try exact cz));refine bK.whl (c+1,j) d7 ⟨by simp;omega,by simp;omega,b8,fun h u J U hu=>?_,dm⟩ (H.weakC au au d6);simp only at U;exact bE.ntr _ _ _ (fo.le bE kU J Ω Ω hu aL) sG
   |true=>
    simp;((with_reducible repeat' first|refine ai ?_|simp|((first|apply bU|apply bY|apply bX)<;>intro h<;>try simp at h))<;>(try exact cz));refine bK.whl (i,c) d7 ⟨aS,by simp;omega,by simp;omega,eg,fun h u J U hu=>?_⟩ (H.weakC au au d6);cases e:lt z u with
    |true=>rfl
    |false=>have:=bE.ntr _ _ _ (fo.le bE kU Ω J U aL hu) e;rw[sG]at this;cases this
  ·obtain rfl:i=j:=Ω
   refine pc (fun(x:Nat×List α)=>⟨[(4,.ptr (.loc 0) 0),(12,.int .i64 i),(15,.int .i64 x.1)],(.loc 0,[.func g lc,.func cg cc])::(S x.2).b,(S x.2).e,1,c2 (S l)⟩) (fun x=>x.1)
    (fun x=>x.2.length=n/\i<=x.1/\x.1<=m/\gF a (m+1) l x.2/\∀k,x.2[k]? =l[ih x.1 m (m+1) k]?) (m,l)
    (H.weakC au au d6) ⟨au,by simp;omega,Ψ,.refl _,fun k=>by simp[Mi]⟩ ?_
   rintro⟨k,lk⟩ ⟨ba,bo,b3,c9,dh⟩ _;simp only at ba bo b3 c9 dh;simp[Pv.look];((with_reducible repeat' first|refine ai ?_|simp[Pv.look]|((first|apply bU|apply bY|apply bX)<;>intro h<;>try simp at h))<;>(try exact cz))
   ·have bh:((k:Int)-1)=(k-1:Nat):=Ω
    rw[H.ssc,bh];refine H.doSwap ba k (k-1) Ω Ω Ω ?_;simp;(with_reducible repeat' first|refine ai ?_|simp);refine bK.whl (k-1,gZ lk k (k-1)) d7 ⟨by simp[ba],by simp;omega,by simp;omega,.step c9 Ω Ω Ω Ω Ω Ω,fun t=>?_⟩ (H.weakC au (by simp[ba]) (by simp[aB];omega));rw[Bx _ _ _ _ Ω Ω,dh,dh,dh];have:ih (k-1) m (m+1) t=if t=k then ih k m (m+1) (k-1)else if t=k-1 then ih k m (m+1) k else ih k m (m+1) t:=by
     simp only[ih];repeat' split
     all_goals omega
    rw[this];split
    ·rfl
    ·split<;>rfl
   ·obtain rfl:i=k:=Ω
    refine H.ret au ba (.inl rfl) ⟨rfl,lk,rfl,c9,akz bE Ω b8 Ω kU bz eg dm dh⟩
 ·obtain⟨mid,L5⟩:∃mid,mid=(a+b)/2:=⟨_,rfl⟩;have hw:=GG a b Ω;rw[<-L5]at hw;simp only[hw];(with_reducible repeat' first|((first|apply bU|apply bY|apply bX)<;>intro h<;>try simp at h)|refine ai ?_|simp[hu,ay,cK,ax])
  ·exact Zv (s0:=mid+m-b) (r0:=mid) H (by simp[cK,ax]) aN bE bR (a:=a) (m:=m) (b:=b) (mid:=mid) Ψ Ψ Ψ Ψ Ψ Ψ d7 Ψ au ⟨Dk,wX,L5⟩ Ω af aR kU lg fun fP t o ba bo=>H.ret au (by rw[ba.length];exact au) (.inr rfl) ⟨rfl,fP,rfl,ba,bo⟩
  ·exact Zv (s0:=a) (r0:=m) H (by simp[cK,ax]) aN bE bR (a:=a) (m:=m) (b:=b) (mid:=mid) Ψ Ψ Ψ Ψ Ψ Ψ Ψ Ψ au ⟨Dk,wX,L5⟩ Ω af aR kU lg fun fP t o ba bo=>H.ret au (by rw[ba.length];exact au) (.inr rfl) ⟨rfl,fP,rfl,ba,bo⟩
end
section
open Go Go.Pv
variable {α:Type} {S:List α->cL} {n g cg:Nat} {lc cc:List aj} {lt:α->α->Bool}
def pR(lt:α->α->Bool)(z a b:Nat)(l:List α):Prop:= ∀i j x y,a<=i->i<j->j<b->i/z=j/z->l[i]? =some x->l[j]? =some y->lt y x=false
theorem pR.snoc{z q:Nat}(bz:0<z){l a1:List α}(h:pR lt z 0 (q*z) l){b:Nat}(ag:gF (q*z) b l a1)(U:fo lt (q*z) b a1):pR lt z 0 b a1:=by
 intro i j x y hi mA ae aR ab aL;by_cases Ve:j<q*z
 ·rw[ag.out _ (.inl Ω)]at ab;rw[ag.out _ (.inl Ve)]at aL;exact h i j x y hi mA Ve aR ab aL
 ·have ar:q<=j/z:=(Nat.le_div_iff_mul_le bz).2 Ω;have a6:q*z<=i:=(Nat.le_div_iff_mul_le bz).1 Ω;exact U i j x y a6 mA ae ab aL
theorem pR.srt{z q:Nat}(bz:0<z){l:List α}{a b:Nat}(h:pR lt z a b l){c:Nat}(as7:a<=q*z)(aw:c<=(q+1)*z)(as9:c<=b):fo lt (q*z) c l:=by intro i j x y hi mA ae ab aL;have fO:i/z=q:=Nat.div_eq_of_lt_le hi Ω;have oC:j/z=q:=Nat.div_eq_of_lt_le Ω Ω;exact h i j x y Ω mA Ω Ω ab aL
theorem pR.after{z a b bs b4:Nat}{l a1:List α}(h:pR lt z a b l)(ag:gF a bs l a1)(bD:a<=bs)(af:b4<=b):pR lt z bs b4 a1:=by intro i j x y hi mA ae aR ab aL;rw[ag.out _ (.inr Ω)]at ab;rw[ag.out _ (.inr Ω)]at aL;exact h i j x y Ω mA Ω aR ab aL
theorem Lq(H:fi S n g cg lc cc lt)(bE:q2 lt)(l:List α)(au:l.length=n):
  bI al 248 [e9 g cg lc cc,.int .i64 n] (S l) fun r ah=>r= .tuple []/\∃a1,ah=S a1/\gF 0 n l a1/\fo lt 0 n a1:=by
 have ag:=H.ok l;have ax:∀l m,Pv.look (.loc m) (S l).b=none:=fun l=>(H.ok l).obj.1;have hu:∀l m cs,cA (.loc m) cs (S l).b=(S l).b++[(.loc m,cs)]:=fun l m cs=>kg (ax l m);have ay:∀m,aI.loc m∉c2 (S l):=j9 ag.obj;have hle:=H.le;refine bI.mk mixed Cl afI amJ Ψ ag.obj fun aM cR=>?_;unfold Sv;simp[e9,hu,ay,cK,ax];refine pc (fun(x:Nat×List α)=>⟨[(1,.int .i64 n),(2,.ptr (.loc 0) 0),(4,.int .i64 20),(5,.int .i64 (x.1*20)),(6,.int .i64 (x.1*20+20))],(.loc 0,[.func g lc,.func cg cc])::(S x.2).b,(S x.2).e,1,c2 (S l)⟩) (fun x=>n+20-x.1*20)
  (fun x=>x.2.length=n/\x.1*20<=n/\gF 0 n l x.2/\pR lt 20 0 (x.1*20) x.2) (0,l)
  (H.weak au au d6 (by simp[cK,ax]) aN aN) ⟨au,Ψ,.refl _,fun i j x y J U ar=>by simp at ar⟩ ?_
 rintro⟨q,lk⟩ ⟨J,U,ar,a6⟩ _;simp only at J U ar a6;simp[Pv.look];((with_reducible repeat' first|refine ai ?_|simp[Pv.look]|((first|apply bU|apply bY|apply bX)<;>intro h<;>try simp at h))<;>(try exact cz))
 ·have ak:((q:Int)*20)=(q*20:Nat):=Ω
  have aD:((q:Int)*20+20)=(q*20+20:Nat):=Ω
  simp only[iM H,H.slc,H.ssc,iG,aD];simp only[ak];refine H.doFn J (Ur H bE lk J (q*20) (q*20+20) Ω Ω) (fun a1 h=>by rw[h.1.length];exact J) (by simp[aC,aB,H.kdata J]) ?_;rintro a1 ⟨cX,dI⟩;have tO:a1.length=n:=by rw[cX.length];exact J
  simp;((with_reducible repeat' first|refine ai ?_|simp|((first|apply bU|apply bY|apply bX)<;>intro h<;>try simp at h))<;>(try exact cz));refine bK.whl (q+1,a1) d7 ⟨tO,by simp;omega,ar.trans (cX.mono Ω Ω),?_⟩ (H.weakC au tO (by simp[aB];omega));have:=a6.snoc Ω cX dI;rwa[show q*20+20=(q+1)*20 by omega]at this
 ·have ak:((q:Int)*20)=(q*20:Nat):=Ω
  simp only[iM H,H.slc,H.ssc,iG,ak];refine H.doFn J (Ur H bE lk J (q*20) n Ω Ω) (fun a1 h=>by rw[h.1.length];exact J) (by simp[aC,aB,H.kdata J]) ?_;rintro a1 ⟨cX,dI⟩;have tO:a1.length=n:=by rw[cX.length];exact J
  have fw:=a6.snoc Ω cX dI;simp;refine pc (fun(x:Nat×List α)=>⟨[(1,.int .i64 n),(2,.ptr (.loc 0) 0),(4,.int .i64 x.1)],(.loc 0,[.func g lc,.func cg cc])::(S x.2).b,(S x.2).e,1,c2 (S l)⟩) (fun x=>1099511627776-x.1)
   (fun x=>x.2.length=n/\20<=x.1/\x.1<=2*n+20/\gF 0 n l x.2/\pR lt x.1 0 n x.2) (20,a1)
   (H.weakC au tO d6) ⟨tO,Ψ,Ψ,ar.trans (cX.mono Ω Ω),fw⟩ ?_
  rintro⟨z,W5⟩ ⟨lr,z2,z3,z4,z5⟩ _;simp only at lr z2 z3 z4 z5;simp[Pv.look];((with_reducible repeat' first|refine ai ?_|simp[Pv.look]|((first|apply bU|apply bY|apply bX)<;>intro h<;>try simp at h))<;>(try exact cz))
  ·refine pc (fun(x:Nat×List α)=>⟨[(1,.int .i64 n),(2,.ptr (.loc 0) 0),(4,.int .i64 z),(5,.int .i64 (x.1*(2*z):Nat)),(6,.int .i64 (x.1*(2*z)+2*z:Nat))],(.loc 0,[.func g lc,.func cg cc])::(S x.2).b,(S x.2).e,1,c2 (S l)⟩) (fun x=>n+2*z-x.1*(2*z))
    (fun x=>x.2.length=n/\x.1*(2*z)<=n/\gF 0 n l x.2/\pR lt (2*z) 0 (x.1*(2*z)) x.2/\pR lt z (x.1*(2*z)) n x.2) (0,W5)
    (H.weakC au lr d6) ⟨lr,Ψ,z4,fun i j x y J U ar=>by simp at ar,by simpa using z5⟩ ?_
   rintro⟨p,D9⟩ ⟨ej,dp,pM,nv,Fk⟩ _;simp only at ej dp pM nv Fk;obtain⟨A,bm⟩:∃A,A=p*(2*z):=⟨_,rfl⟩;have GB:A=(2*p)*z:=by rw[bm,Nat.mul_comm 2 p,Nat.mul_assoc]
   have Lx:(2*p+1)*z=A+z:=by rw[qp,<-GB,Nat.one_mul]
   have ahv:(2*p+2)*z=A+2*z:=by rw[qp,<-GB]
   have AL:(p+1)*(2*z)=A+2*z:=by rw[qp,<-bm,Nat.one_mul]
   have kU:∀c,c<=A+z->c<=n->fo lt A c D9:=fun c aw AV=>by have:=pR.srt (q:=2*p) Ω Fk (c:=c) (by rw[<-GB,bm];omega) (by rw[Lx];exact aw) AV;rwa[<-GB]at this
   have lg:∀c,c<=A+2*z->c<=n->fo lt (A+z) c D9:=fun c aw AV=>by have:=pR.srt (q:=2*p+1) Ω Fk (c:=c) (by rw[Lx,bm];omega) (by rw[ahv];exact aw) AV;rwa[Lx]at this
   rw[<-bm]at dp nv Fk;simp only[<-bm];simp[Pv.look];((with_reducible repeat' first|refine ai ?_|simp[Pv.look]|((first|apply bU|apply bY|apply bX)<;>intro h<;>try simp at h))<;>(try exact cz))
   ·have bh:((A:Int)+z)=(A+z:Nat):=Ω
    have dk:((A:Int)+2*z)=(A+2*z:Nat):=Ω
    simp only[iM H,H.slc,H.ssc,iG,bh,dk];refine H.doFn ej (UA H bE (A+2*z-A) D9 A (A+z) (A+2*z) ej Ω Ω Ω Ω (kU _ Ω Ω) (lg _ Ω Ω)) (fun a1 h=>by rw[h.1.length];exact ej) (by simp[aC,aB,H.kdata ej]) ?_;rintro fP ⟨ja,oe⟩;have nR:fP.length=n:=by rw[ja.length];exact ej
    simp;(with_reducible repeat' first|refine ai ?_|simp);refine bK.whl (p+1,fP) (by simp only[AL,<-bm];omega) ⟨nR,by simp only[AL];omega,pM.trans (ja.mono Ω Ω),?_,?_⟩ ?_
    ·simp only[AL];rw[bm]at nv ja oe;have:=nv.snoc Ω ja oe;rwa[<-bm]at this
    ·simp only[AL];exact Fk.after ja Ω Ω
    ·simp only[AL];have ahw:((p:Int)+1)*(2*(z:Int))=(A:Int)+2*z:=by have h:=fh (Nat.cast:Nat->Int) AL;push_cast at h;exact h
     exact H.weakC au nR (by simp[aB,ahw])
   ·have bh:((A:Int)+z)=(A+z:Nat):=Ω
    simp only[iM H,H.slc,H.ssc,iG,bh];refine H.doFn ej (UA H bE (n-A) D9 A (A+z) n ej Ω Ω Ω Ω (kU _ Ω Ω) (lg _ Ω Ω)) (fun a1 h=>by rw[h.1.length];exact ej) (by simp[aC,aB,H.kdata ej]) ?_;rintro fP ⟨ja,oe⟩;have nR:fP.length=n:=by rw[ja.length];exact ej
    simp;((with_reducible repeat' first|refine ai ?_|simp|((first|apply bU|apply bY|apply bX)<;>intro h<;>try simp at h))<;>(try exact cz));refine bK.whl (2*z,fP) d7 ⟨nR,by simp;omega,by simp;omega,pM.trans (ja.mono Ω Ω),?_⟩ (H.weakC au nR (by simp[aB];omega));rw[bm]at nv ja oe;exact nv.snoc Ω ja oe
   ·refine bK.whl (2*z,D9) d7 ⟨ej,by simp;omega,by simp;omega,pM,?_⟩ (H.weakC au ej (by simp[aB];omega));have b0:=kU n Ω Ω;rw[bm]at nv b0;exact nv.snoc Ω (.refl _) b0
  ·refine H.ret au lr (.inr rfl) ?_;refine⟨rfl,W5,rfl,z4,fun i j x y J U ar=>z5 i j x y J U ar ?_⟩;rw[Nat.div_eq_of_lt Ω,Nat.div_eq_of_lt Ω]
end
section
open Go Go.Pv Go.Sort Go.RowKit
theorem aiI{w:World}{base:Nat}{e:gu}{sz:Nat}{v:Value}{n:Nat}{us:List Value}(h:w.ownsRow base e sz v n us)(aF:v≠ .slice none 0 0):
  ∃g cap,v= .slice (some ⟨g,0,none⟩) n cap/\g<w.heap.size/\cap<=maxLen/\n<=cap/\us.length=n*sz/\Holds id w g 0 us.toArray:=by
 rcases h.2 with⟨fp,_⟩|⟨g,cap,cur,rfl,af,a7,ax,hm,ag,aJ⟩
 ·exact absurd fp aF
 ·have bE:g<w.heap.size:=by
   rcases Nat.lt_or_ge g w.heap.size with cn|cn
   ·exact cn
   ·rw[Array.getElem?_eq_none cn]at a7;cases a7
  refine⟨g,cap,rfl,bE,hm,ax,h.1,fun j ae=>?_⟩;have gq:j<us.length:=by simpa using ae
  have au:=h.1;refine⟨?_,by simp[World.frozen?,a7]⟩;have ak:(cur.toList.take (n*sz))[j]? =us[j]?:=by rw[aJ]
  rw[List.getElem?_take,if_pos Ω,uG,b6 gq]at ak;simp only[World.cell?,a7,Nat.zero_add];simp only[jN,ho,if_false];rw[ak];simp[getElem!_pos,gq]
theorem ann{w:World}{base:Nat}{e:gu}{sz g n cap q:Nat}{us:List Value}{F:Array Value}(h:w.ownsRow base e sz (.slice (some ⟨g,0,none⟩) n cap) n us)(hh:F.size=n*sz):
  (putRow id (Sort.ahead w q) g 0 F).ownsRow base e sz (.slice (some ⟨g,0,none⟩) n cap) n F.toList:=by
 rcases h.2 with⟨fp,_⟩|⟨fv,F9,cur,fp,af,a7,ax,hm,ag,aJ⟩
 ·cases fp
 ·injection fp with ak _ bh;injection ak with ak;injection ak with ak;subst ak;subst bh;refine⟨by simpa using hh,.inr ⟨g,cap,putCells id 0 F cur,rfl,af,?_,ax,hm,by simpa[putCells]using ag,?_⟩⟩
  ·simp[putRow,mapBlock,Sort.ahead,Array.getElem?_modify,a7,onCells]
  ·have hle:n*sz<=cur.size:=by rw[ag];exact Nat.mul_le_mul_right _ ax
   apply List.ext_getElem?;intro j;rw[List.getElem?_take,uG,uG];by_cases ae:j<n*sz
   ·have aie:j<cur.size:=Ω
    simp only[if_pos ae,putCells,Array.getElem?_mapIdx,Array.getElem?_eq_getElem aie,o0];rw[if_pos Ω];simp[getElem!_pos,show j<F.size by omega]
   ·simp[ae];omega
end
end Go.Proofs.YtohaalphocaebaaGreat
namespace Go.Pv
section
open Go Go.RowKit Go.Lib Go.Sort Go.Proofs.YtohaalphocaebaaGreat
theorem Ww{S:aI->Prop}:∀{l:List aj},aC S l↔∀x∈l,aB S x
 |[]=>by simp[aC]
 |x::r=>by simp only[aC,Ww (l:=r),fT,forall_eq_or_imp]
theorem Wp{α:Type}{s:cL}{l:List (aI×α)}:lG s l↔∀k,(look k l).isSome->inObs s k:=by
 refine⟨fun h k ad=>Br h k ad,fun h=>?_⟩;have:∀a1:List (aI×α),(∀x∈a1,inObs s x.1)->lG s a1:=by
  intro a1;induction a1 with
  |nil=>intro _;trivial
  |cons x r bR=>obtain⟨k,x⟩:=x;exact fun h=>⟨h (k,x) Ψ,bR fun y aL=>h y (by simp[aL])⟩
 exact this l fun x ab=>h x.1 (vJ (x:=x.2) ab)
theorem OR{w:World}{Z:bg}{sz:Nat}:∀{xs:List aj} {us:List Value} {i:Nat} {p:aj},dR w Z sz xs us->xs[i]? =some p->∃u,(us.drop (i*sz)).take sz=u.cells.toList/\bd w Z p u/\u.cells.size=sz/\∀c∈u.cells.toList,c.oneCell'=true
 |[],_,_,_,_,bF=>by simp at bF
 |x::xs,us,0,p,h,bF=>by simp only[dR]at h;obtain⟨u,ct,rfl,⟨J,U,ar⟩,_⟩:=h;simp at bF;subst bF;refine⟨u,?_,J,U,ar⟩;simp only[Nat.zero_mul,List.drop_zero];rw[List.take_append_of_le_length (by simp[U])];exact hY (by simp[U])
 |x::xs,us,i+1,p,h,bF=>by simp only[dR]at h;obtain⟨u,ct,rfl,⟨J,U,ar⟩,b0⟩:=h;obtain⟨v,ak,aD⟩:=OR (i:=i) b0 (by simpa using bF);refine⟨v,?_,aD⟩;rw[<-ak,Nat.succ_mul,Nat.add_comm,<-List.drop_drop];congr 2;rw[List.drop_append_of_le_length (by simp[U]),List.drop_of_length_le (by simp[U])];rfl
theorem O6:∀(bf:List Value) (s:Nat) (F:Array Value),s+bf.length<=F.size->(setMany F s bf).toList=F.toList.take s++bf++F.toList.drop (s+bf.length)
 |[],s,F,h=>by simp[setMany]
 |v::r,s,F,h=>by
  simp only[oX]at h;rw[setMany,O6 r (s+1) _ d7];have bE:s<F.toList.length:=by simp;omega
  have ak:(F.setIfInBounds s v).toList=F.toList.set s v:=by simp
  rw[ak];have aD:(F.toList.set s v).take (s+1)=F.toList.take s++[v]:=by rw[lS,List.getElem?_set_self bE,List.take_set_of_le (fc _)];simp
  have bh:(F.toList.set s v).drop (s+1+r.length)=F.toList.drop (s+(v::r).length):=by rw[List.drop_set_of_lt Ω];congr 1;simp;omega
  rw[aD,bh];simp
theorem abI(w:World):Sort.ahead w 0=w:=by simp[Sort.ahead]
theorem Uz{P:cI}(yv:Bool)(cg:Nat)(ab:∀args W,(callFunc cg args).run P W=((Cw yv args).run P W).andThen fun v w'=>.ok (.value v) w')(e:gu)(eG:TypeInfo)(rl:P.info? e=some eG)(yz:(∀w,(Go.isAgg e).run P w= .ok true w)\/(eG.size=1/\∀w,(Go.isAgg e).run P w= .ok false w)){s:cL}(ag:dW s){K n el sz:Nat}(eC:eG.size=sz){xs:List aj}(ad:look (.obj K) s.e=some ⟨n,el,sz,some xs⟩)
  (i j:Nat) (hi:i<n) (ae:j<n):bI P cg [.int .i64 i,.int .i64 j,.row sz (.obj K) n,.cst (typeHandle P e)] s fun r ah=>r= .tuple []/\ah=⟨s.b,cA (.obj K) ⟨n,el,sz,some (gZ xs i j)⟩ s.e⟩:=by
 subst eC;refine bI.sem ag.obj fun w Z bf lh aO=>?_;right;have s0:=aO.slot 0;have s1:=aO.slot 1;have s2:=aO.slot 2;have s3:=aO.slot 3;simp[kH,get,bd]at s0 s1 s2 s3;obtain⟨v,us,ba,bo,b3,c9⟩:=aO.good.own (.obj K) _ ad;obtain⟨dh,oL,vS⟩:=c9 _ rfl;simp only at dh oL ba bo;obtain⟨⟨g0,ach,wN⟩,_,n',e6,ak,aD,bh⟩:=s2;rw[ba]at ak;simp only[ea,jO]at ak;obtain⟨rfl,rfl⟩:=ak;have aF:=bh rfl;have cM:v≠ .slice none 0 0:=by rw[<-aF,wN];simp
 obtain⟨g,cap,rfl,jn,pn,ah6,Dt,Df⟩:=aiI bo cM;have ai8:bf= #[.int .i64 i,.int .i64 j,.slice (some ⟨g,0,none⟩) n cap,typeHandle P e]:=by
  have J:bf.size=4:=by simpa using lh
  apply Array.ext (by simpa using J);intro t U ar;simp at ar;rcases(by omega:t=0\/t=1\/t=2\/t=3)with rfl|rfl|rfl|rfl
  ·simpa[Array.getD,J]using s0
  ·simpa[Array.getD,J]using s1
  ·simpa[Array.getD,J]using aF
  ·simpa[Array.getD,J]using s3
 subst ai8;obtain⟨p,bF⟩:∃p,xs[i]? =some p:=⟨_,b6 Ω⟩;obtain⟨q,bn⟩:∃q,xs[j]? =some q:=⟨_,b6 Ω⟩;obtain⟨u,iO,jV,qT,zR⟩:=OR oL bF;obtain⟨x,tf,zU,tg,Ju⟩:=OR oL bn;have Vn:i*eG.size+eG.size<=n*eG.size:=by have:=Nat.mul_le_mul_right eG.size (show i+1<=n from hi);rwa[qp,Nat.one_mul]at this
 have Vo:j*eG.size+eG.size<=n*eG.size:=by have:=Nat.mul_le_mul_right eG.size (show j+1<=n from ae);rwa[qp,Nat.one_mul]at this
 have cell:∀t v,us[t]? =some v->w.cell? ⟨g,t,none⟩=some v:=fun t v aJ=>by obtain⟨J,U⟩:=eV.1 aJ;have:=(Df t (by simpa using J)).1;simp at this;rw[this];simp[getElem!_pos,J,U]
 have Gv:∀t,t<n*eG.size->w.frozen? ⟨g,t,none⟩=false:=fun t aJ=>by have:=(Df t (by simpa[Dt]using aJ)).2;simpa using this
 have run:(Cw yv #[.int .i64 i,.int .i64 j,.slice (some ⟨g,0,none⟩) n cap,typeHandle P e]).run P w= .ok (.tuple #[]) ((w.setCells g (0+i*eG.size) x.cells.toList).setCells g (0+j*eG.size) u.cells.toList):=by
  rcases yz with yz|⟨Gz,yz⟩
  ·exact run_swap_cells (P:=P) yv e eG rl yz g 0 n cap i j hi ae u.cells.toList x.cells.toList (by simp[qT]) (by simp[tg]) zR Ju w
     (fun k v aF=>by
      rw[<-iO,List.getElem?_take]at aF;split at aF
      ·rw[List.getElem?_drop]at aF;simpa using cell _ _ aF
      ·cases aF)
     (fun k v aF=>by
      rw[<-tf,List.getElem?_take]at aF;split at aF
      ·rw[List.getElem?_drop]at aF;simpa using cell _ _ aF
      ·cases aF)
     (fun k ad=>by simpa using Gv (i*eG.size+k) Ω) (fun k ad=>by simpa using Gv (j*eG.size+k) Ω)
  ·rw[Gz]at iO qT tf tg⊢;obtain⟨Ge,LL⟩:∃c,u.cells.toList=[c]:=List.length_eq_one_iff.1 (by simpa using qT);obtain⟨p0,l3⟩:∃c,x.cells.toList=[c]:=List.length_eq_one_iff.1 (by simpa using tg);rw[LL]at iO zR⊢;rw[l3]at tf Ju⊢;simp only[World.setCells,Nat.mul_one]at iO tf⊢;have UC:us[i]? =some Ge:=by have:=fh (·[0]?) iO;simpa using this
   have UE:us[j]? =some p0:=by have:=fh (·[0]?) tf;simpa using this
   have:=run_swap_one (P:=P) yv e eG rl Gz yz g 0 n cap i j hi ae Ge p0 (zR Ge Ψ) (Ju p0 Ψ) w (by simpa using cell i Ge UC) (by simpa using cell j p0 UE) (by simpa using Gv i (by rw[Gz];omega)) (by simpa using Gv j (by rw[Gz];omega));simpa using this
 have aja:putRow id w g 0 us.toArray=w:=putRow_self id w g 0 _ Df;have ai0:us.toArray.size=n*eG.size:=by simpa using Dt
 have Hb:w.setCells g (0+i*eG.size) x.cells.toList=putRow id w g 0 (setMany us.toArray (i*eG.size) x.cells.toList):=by have J:=setCells_putRow w g 0 x.cells.toList (i*eG.size) us.toArray (by simp[tg,Dt];exact Vn);rw[aja]at J;exact J
 obtain⟨iD,nK⟩:∃iD,iD=setMany us.toArray (i*eG.size) x.cells.toList:=⟨_,rfl⟩;have ahB:iD.toList=us.take (i*eG.size)++x.cells.toList++us.drop (i*eG.size+eG.size):=by rw[nK,O6 _ _ _ (by simp[tg,Dt];exact Vn)];simp[tg]
 have Lz:iD.size=n*eG.size:=by rw[nK,size_setMany];exact ai0
 have pz:(w.setCells g (0+i*eG.size) x.cells.toList).setCells g (0+j*eG.size) u.cells.toList=putRow id w g 0 (setMany iD (j*eG.size) u.cells.toList):=by rw[Hb,<-nK,setCells_putRow w g 0 u.cells.toList (j*eG.size) iD (by simp[qT,Lz];exact Vo)]
 obtain⟨iP,De⟩:∃iP,iP=setMany iD (j*eG.size) u.cells.toList:=⟨_,rfl⟩;have ahC:iP.toList=iD.toList.take (j*eG.size)++u.cells.toList++iD.toList.drop (j*eG.size+eG.size):=by rw[De,O6 _ _ _ (by simp[qT,Lz];exact Vo)];simp[qT]
 have ahD:iP.size=n*eG.size:=by rw[De,size_setMany];exact Lz
 have dC:=IC oL bF zU tg Ju;rw[<-ahB]at dC;have eH:=IC (i:=j) (q:=q) dC (by rw[List.getElem?_set];split;(rename_i e;subst e;rw[if_pos Ω]);exact bn) jV qT zR;rw[<-ahC]at eH;have DP:(xs.set i q).set j p=gZ xs i j:=by simp[gZ,bF,bn]
 rw[DP]at eH;have hlen:(gZ xs i j).length=n:=by simpa using dh
 have l5:=ann (q:=0) (F:=iP) bo ahD;rw[abI]at l5;obtain⟨ja,oe,_⟩:=aO.setRowM (w':=putRow id w g 0 iP) ad rfl ba (bl:=g) rfl (v':= .slice (some ⟨g,0,none⟩) n cap) rfl (xs':=gZ xs i j) (us:=iP.toList) (.inl ⟨hlen,rfl⟩) rfl rfl rfl
  (fun t aJ=>by simp[putRow,mapBlock,Array.getElem?_modify,lv aJ]) (by simp[putRow,mapBlock]) (by rw[hlen];exact l5) eH
 refine⟨.tuple #[],putRow id w g 0 iP,?_,?_⟩
 ·rw[ab,run,pz,<-De];rfl
 ·have jS:∀k,inObs ⟨s.b,cA (.obj K) ⟨n,el,eG.size,some (gZ xs i j)⟩ s.e⟩ k↔inObs s k:=fun k=>by
   unfold inObs;simp only[jt];by_cases c5:aI.obj K=k
   ·subst c5;simp[ad]
   ·simp[c5]
  refine⟨_,_,_,_,.tuple [],⟨s.b,cA (.obj K) ⟨n,el,eG.size,some (gZ xs i j)⟩ s.e⟩,rfl,ja,by simp[bd,cY],Wp.2 fun k oD=>(jS k).2 (.inl oD),Wp.2 fun k oD=>(jS k).2 (.inr oD),fun k cs aw=>⟨aw,(jS k).2 (.inl (by simp at aw;simp[aw])),km (fun k h=>(jS k).2 h) _ (ag.kb k cs aw)⟩,fun k o ay=>⟨by simpa[hlen]using ay,?_,fun ys aL=>?_⟩,⟨ag.obj.1,fun m=>?_⟩,by simp[aB,aC],rfl,rfl⟩
  ·exact(.inr (by simp at ay;simp[ay]))
  ·simp only[jt]at ay;split at ay
   ·cases ay;simp only[ea]at aL;subst aL;have Vj:=ag.ke _ _ ad xs rfl;refine km (fun k h=>(jS k).2 h) _ ?_;rw[Ww]at Vj⊢;exact fun z bz=>Vj z ((W4 xs i j).mem_iff.1 bz)
   ·exact km (fun k h=>(jS k).2 h) _ (ag.ke k o ay ys aL)
  ·simp only[jt];simp[ag.obj.2 m]
theorem Ls{P:cI}(yv:Bool)(cg:Nat)(ab:∀args W,(callFunc cg args).run P W=((Cw yv args).run P W).andThen fun v w'=>.ok (.value v) w')(e:gu)(eG:TypeInfo)(rl:P.info? e=some eG)(yz:∀w,(Go.isAgg e).run P w= .ok true w){s:cL}(ag:dW s){K n el sz:Nat}(eC:eG.size=sz){xs:List aj}(ad:look (.obj K) s.e=some ⟨n,el,sz,some xs⟩)
  (i j:Nat) (hi:i<n) (ae:j<n):bI P cg [.int .i64 i,.int .i64 j,.row sz (.obj K) n,.cst (typeHandle P e)] s fun r ah=>r= .tuple []/\ah=⟨s.b,cA (.obj K) ⟨n,el,sz,some (gZ xs i j)⟩ s.e⟩:=Uz yv cg ab e eG rl (.inl yz) ag eC ad i j hi ae
end
end Go.Pv
namespace Go.Proofs.YtohaalphocaebaaGreat
section
open Go Go.RowKit Go.Lib Go.Sort Go.Pv
set_option maxRecDepth 100000 in
theorem apl(t e:gu)(i eG:TypeInfo)(hi:al.info? t=some i)(aR:i.desc= .slice e)(DI:al.packed t=false)(rl:al.info? e=some eG)(ke:Nat)(vr:∀w,(aa8 e).run al w= .ok ke w)
  (p:Option Addr) (n c:Nat) (ax:n<4611686018427387904) (f:Nat) (aK:al.funcs.findIdx? (·.name== "internal/reflectlite" ++ ".Swapper$" ++toString (swapperK n eG ke))=some f) (W0:Fn) (D6 rz:Array Value) (w:World) (R:World->Prop)
  (bF:Calls al 248 #[.agg #[.func W0 D6 rz,.func (.func f) #[] (sliceBound al e eG ke p n c)],.int .i64 n] ((w.alloc (.cells #[.slice p n c] t)).alloc (.cells #[typeHandle al t,.pointer (some ⟨w.heap.size,0,none⟩),.int .u64 151] 214)) fun e w'=>e= .returned (.tuple #[])/\R w'):
  Calls al 202 #[.iface t (.slice p n c),.func W0 D6 rz] w fun e w'=>e= .returned (.tuple #[])/\R w':=by
 have aF:=run_valueOf_slice (P:=al) t e i hi aR p n c w;have ag:=fun w=>run_swapper_slice (P:=al) t e i eG hi aR rl ke vr p n c f aK w;have au:=fun a w bD=>run_valueLen_slice (P:=al) t e i hi aR DI a p n c w bD;unfold sliceBound at bF;generalize (if swapperK n eG ke<=2 then(#[]:Array Value)else #[.slice p n c,typeHandle al e])=B at ag bF;have ah9:al.globals.size=0:=by kernel_rfl
 simp only[typeHandle,ah9]at aF au bF;have Gh:∀args w,(callFunc 248 args).run al w= .ok (.enter 248 args) w:=enters_of Tryz.func248 co rfl;go_enter Tryz.func202,Tryz.ntmps202;go_wp2;rw[run_callFunc_extern Tryz.func206 co co co (e:=fun args=>arM (args.getD 0 (.tuple #[]))) co,
  show Sem.run al ((fun args:Array Value=>arM (args.getD 0 (.tuple #[]))) #[.iface t (.slice p n c)]) w=_ from aF]
 simp only[Result.andThen];rw[Oper.upon_value];go_wp2;rw[run_callFunc_extern Tryz.func207 co co co (e:=awc "internal/reflectlite" (arN "Swapper")) co,ag];simp only[Result.andThen];rw[Oper.upon_value];go_wp2;rw[run_callFunc_extern Tryz.func208 co co co (e:=awe (arN "reflectlite.Value.Len" 0) awd) co,
  au _ _ Ψ]
 simp only[Result.andThen];rw[Oper.upon_value];go_wp2_with (go_at_fn 248;refine bF.mono ?_;rintro e w' ⟨rfl,aU⟩);go_end0;exact⟨rfl,aU⟩
theorem _root_.Go.Pv.Good.prMono{pr EA:Nat->Prop}{w:World}{Z:bg}{b:List (aI×List aj)}{e:List (aI×gg)}(h:Pv.Good pr w Z b e)(bF:∀bl,pr bl->fM Z ⟨b,e⟩ bl->EA bl):Pv.Good EA w Z b e:=by
 refine⟨h.alt,fun k cs ad=>?_,h.inj,fun g o a7=>?_,h.oinj,h.obx,h.one,h.otr⟩
 ·obtain⟨bl,us,el,f1,f2,f3⟩:=h.box k cs ad;exact⟨bl,us,el,f1,bF bl f2 (.inl ⟨k,by simp[ad],f1⟩),f3⟩
 ·obtain⟨v,us,f1,f2,f3,f4⟩:=h.own g o a7;exact⟨v,us,f1,f2,fun bl af=>⟨bF bl (f3 bl af).1 (.inr ⟨g,o.n,v,by simp[a7],f1,af⟩),(f3 bl af).2⟩,f4⟩
theorem UF(w:World)(gU fB:Obj):w.grownBy ((w.alloc gU).alloc fB) none:=by
 have J:w.heap.size<=(w.alloc gU).heap.size:=by simp
 have U:(w.alloc gU).heap.size<=((w.alloc gU).alloc fB).heap.size:=by simp
 exact⟨rfl,rfl,rfl,kJ J U,fun k ad _=>(Below.heap_alloc _ fB k (Nat.lt_of_lt_of_le ad J)).trans (Below.heap_alloc w gU k ad)⟩
def dS{α:Type}(e:α->aj)(K B el sz:Nat)(l:List α):cL:=⟨[(.obj B,[.row sz (.obj K) l.length])],[(.obj K,⟨l.length,el,sz,some (l.map e)⟩)]⟩
section
variable {α:Type} {e:α->aj} (he:∀S x,aB S (e x)) {K B el sz:Nat}
include he
theorem ajV(S:aI->Prop)(l:List α):aC S (l.map e):=by
 induction l with
 |nil=>simp[aC]
 |cons x r bR=>simp only[gM,aC];exact⟨he S x,bR⟩
theorem wq(l:List α):dW (dS e K B el sz l):=by unfold dS;refine dW.of ⟨by intro m;simp[Pv.look],by intro m;simp[Pv.look]⟩ d8 ?_;intro x ab xs gY;simp at ab;subst ab;simp at gY;subst gY;exact ajV he _ l
omit he in
theorem x8(l a1:List α):Same (dS e K B el sz l) (dS e K B el sz a1):=by
 refine⟨fun k=>?_,fun k=>?_⟩
 ·simp only[dS,Pv.look];split<;>rfl
 ·simp only[dS,Pv.look];split<;>rfl
theorem agI(t:gu)(i eG:TypeInfo)(hi:al.info? t=some i)(aR:i.desc= .slice el)(DI:al.packed t=false)(rl:al.info? el=some eG)(ke:Nat)(vr:∀w,(aa8 el).run al w= .ok ke w)(tH:∀n,2<=n->swapperK n eG ke=9)
  (g:Nat) (lt:α->α->Bool) (bE:q2 lt) (l:List α) (au:l.length<=68719476736)
  (yN:∀a1:List α,a1.length=l.length->∀(i j:Nat) x y,a1[i]? =some x->a1[j]? =some y->bI al g [.int .i64 i,.int .i64 j,.ptr (.obj B) 0] (dS e K B el sz a1) fun r ah=>r= .bool (lt x y)/\ah=dS e K B el sz a1)
  (Bg:∀a1:List α,a1.length=l.length->∀i j:Nat,i<l.length->j<l.length->bI al 257 [.int .i64 i,.int .i64 j,.row sz (.obj K) l.length,.cst (typeHandle al el)] (dS e K B el sz a1) fun r ah=>r= .tuple []/\ah=dS e K B el sz (gZ a1 i j)):
  bI al 202 [.iface t (.row sz (.obj K) l.length),.func g [.ptr (.obj B) 0]] (dS e K B el sz l) fun r ah=>r= .tuple []/\∃a1,ah=dS e K B el sz a1/\a1.Perm l/\a1.Pairwise fun x y=>lt y x=false:=by
 have Dq:al.funcs.findIdx? (·.name== "internal/reflectlite" ++ ".Swapper$" ++toString 1)=some 249:=by kernel_rfl
 have vm:al.funcs.findIdx? (·.name== "internal/reflectlite" ++ ".Swapper$" ++toString 2)=some 250:=by kernel_rfl
 have LQ:al.funcs.findIdx? (·.name== "internal/reflectlite" ++ ".Swapper$" ++toString 9)=some 257:=by kernel_rfl
 have Mo:∃f cc,al.funcs.findIdx? (·.name== "internal/reflectlite" ++ ".Swapper$" ++toString (swapperK l.length eG ke))=some f/\(cc=(if swapperK l.length eG ke<=2 then []else [aj.row sz (.obj K) l.length,.cst (typeHandle al el)]))/\
   bI al 248 [e9 g f [.ptr (.obj B) 0] cc,.int .i64 l.length] (dS e K B el sz l) fun r ah=>r= .tuple []/\∃a1,ah=dS e K B el sz a1/\gF 0 l.length l a1/\fo lt 0 l.length a1:=by
  have ef:=fun a1=>wq (K:=K) (B:=B) (el:=el) (sz:=sz) he a1;rcases(by omega:l.length=0\/l.length=1\/2<=l.length)with br|J|U
  ·refine⟨249,[],by rw[br];exact Dq,by rw[br];rfl,Lq (lt:=lt) ⟨ef,fun hC fP _ _=>x8 hC fP,fun a1 _=>by simp[aC,aB,inObs,dS,Pv.look],fun a1 _=>by simp[aC],by simp[dz,c6],rfl,au,fun a1 h=>yN a1 h,fun a1 _ U i j hi=>Ω⟩ bE l rfl⟩
  ·refine⟨250,[],by rw[J];exact vm,by rw[J];rfl,Lq (lt:=lt) ⟨ef,fun hC fP _ _=>x8 hC fP,fun a1 _=>by simp[aC,aB,inObs,dS,Pv.look],fun a1 _=>by simp[aC],by simp[dz,c6],rfl,au,fun a1 h=>yN a1 h,fun a1 _ U i j hi ae=>Ω⟩ bE l rfl⟩
  ·refine⟨257,_,by rw[tH _ U];exact LQ,rfl,?_⟩;rw[tH _ U];simp only[show¬((9:Nat)<=2)from by decide,if_false];exact Lq (lt:=lt) ⟨ef,fun hC fP _ _=>x8 hC fP,fun a1 _=>by simp[aC,aB,inObs,dS,Pv.look],fun a1 _=>by simp[aC,aB,inObs,dS,Pv.look],by simp[dz,c6],by simp[dz,c6],au,fun a1 h=>yN a1 h,fun a1 h _ i j hi ae=>Bg a1 h i j hi ae⟩ bE l rfl
 obtain⟨f,cc,aK,Mk,cF⟩:=Mo;intro w Z bf a7 ab aO;have qB:=c0.start (wq he l).obj a7 ab aO;have Mg:=aO;simp only[cY,bd]at aO;obtain⟨v0,vs1,hv0,⟨u,rfl,⟨b,cap,rfl⟩,ev,n',e6,ak,aD,bh⟩,v1,vs2,hv1,⟨rz,rfl,lb⟩,rfl⟩:=aO;have lh:bf= #[.iface t (.slice (some ⟨b,0,none⟩) l.length cap),.func (.func g) #[] rz]:=by apply Array.ext';rw[hv0,hv1]
 subst lh;have rk:∃fn,al.funcs[(202:Nat)]? =some fn/\fn.body.isSome=true/\(fn.name== "runtime.NumGoroutine")=false:=⟨_,Tryz.func202,by kernel_rfl,by kernel_rfl⟩;refine .inl ⟨rk,?_⟩;obtain⟨dp,pz⟩:∃dp,dp=(w.alloc (.cells #[.slice (some ⟨b,0,none⟩) l.length cap] t)).alloc (.cells #[typeHandle al t,.pointer (some ⟨w.heap.size,0,none⟩),.int .u64 151] 214):=⟨_,rfl⟩;have kk:w.grownBy dp none:=by rw[pz];exact UF _ _ _
 have Mh:=qB.grown kk;have lf:lU w Z dp Z:=⟨fun b o bm=>⟨bm,Ga kk (a7.alt b o bm)⟩,fun _ _ _ h=>h,fun _ n u _ h=>⟨n,u,h,.inl ⟨rfl,rfl⟩⟩,fun b o bm=>xJ (kk.block b (a7.alt b o bm) Ψ),fun _ _ _ _ h=>h⟩;have pn:Pv.Good (fM Z (dS e K B el sz l)) dp Z (dS e K B el sz l).b (dS e K B el sz l).e:=Mh.good.prMono fun bl _ h=>h;have lD:=IH lf Mg;simp only[cY]at lD;obtain⟨a0,abU,tI,DK,bH,abV,lA,aiP,rfl⟩:=lD;simp at tI;obtain⟨rfl,rfl⟩:=tI;simp at lA;subst lA;have Mj:bd dp Z (.row sz (.obj K) l.length) (.slice (some ⟨b,0,none⟩) l.length cap):=by simp only[bd]at DK;obtain⟨u,hu,h⟩:=DK;simp at hu;obtain⟨_,rfl⟩:=hu;simp only[bd];exact h
 have rn:cY dp Z cc (sliceBound al el eG ke (some ⟨b,0,none⟩) l.length cap).toList:=by
  unfold sliceBound;rw[Mk];split
  ·simp[cY]
  ·simp only[cY];exact⟨_,_,rfl,Mj,_,_,rfl,by simp[bd],rfl⟩
 have vh:cY dp Z [e9 g f [.ptr (.obj B) 0] cc,.int .i64 l.length] (#[.agg #[.func (.func g) #[] rz,.func (.func f) #[] (sliceBound al el eG ke (some ⟨b,0,none⟩) l.length cap)],.int .i64 l.length]:Array Value).toList:=by simp only[cY,e9];refine⟨_,_,rfl,?_,_,_,rfl,by simp[bd],rfl⟩;simp only[bd,dd];exact⟨_,rfl,_,_,rfl,⟨⟨rz,rfl,IH lf lb⟩,rfl⟩,_,_,rfl,⟨⟨_,rfl,rn⟩,rfl⟩,rfl⟩
 have LN:=cF dp Z _ pn ab vh;have Gh:∀args w,(callFunc 248 args).run al w= .ok (.enter 248 args) w:=enters_of Tryz.func248 co rfl;rcases LN with⟨_,aw⟩|⟨v,w',aw,_⟩
 ·have L4:=apl t el i eG hi aR DI rl ke vr (some ⟨b,0,none⟩) l.length cap Ω f aK (.func g) #[] rz w
   (fun w'=> ∃ah bt,(∃a1,ah=dS e K B el sz a1/\gF 0 l.length l a1/\fo lt 0 l.length a1)/\Pv.Good (fun bl=>fM Z (dS e K B el sz l) bl\/dp.heap.size<=bl) w' bt ah.b ah.e/\p5 bt ah/\ju ah/\q1 ⟨dp,Z,fM Z (dS e K B el sz l),0,c2 (dS e K B el sz l)⟩ w' bt) (by
    rw[<-pz];refine aw.mono ?_;rintro e w' ⟨v,r,ah,bt,rfl,⟨rfl,bn⟩,w1,a6,b0,df,eB⟩;simp only[bd,cY]at w1;obtain⟨us,rfl,rq⟩:=w1;have:us= #[]:=by apply Array.ext';simpa using rq
    subst this;exact⟨rfl,ah,bt,bn,a6,b0,df,eB⟩)
  refine L4.mono ?_;rintro e w' ⟨rfl,ah,bt,⟨a1,rfl,G9,Bf⟩,a6,b0,df,eB⟩;refine⟨.tuple #[],.tuple [],_,bt,rfl,⟨rfl,a1,rfl,G9.perm,?_⟩,by simp[bd,cY],a6.prMono fun bl h _=>?_,b0,df,⟨eB.os.trans kk.os,eB.tape.trans kk.tape,eB.output.trans kk.output,kJ kk.size eB.size,fun k ad hm=>?_,fun b o bm=>?_,fun b o bm=>?_,eB.obj,eB.obn,eB.row,eB.obr,eB.trd,fun k j b af=>⟨(eB.trb k j b af).1.imp id (fun h=>kJ kk.size h),(eB.trb k j b af).2⟩,eB.trn,fun b o bm=>(eB.sh b o bm).trans (lf.sh b o bm)⟩⟩
  ·have yO:=G9.length;rw[<-yO]at Bf;exact Bf.pairwise
  ·rcases h with h|h
   ·exact .inl h
   ·exact .inr (kJ kk.size h)
  ·rw[eB.block k (Nat.lt_of_lt_of_le ad kk.size) hm];exact kk.block k ad Ψ
  ·obtain⟨aS,be⟩:=eB.keep b o bm;exact⟨aS,be.trans (lf.A b o bm).2⟩
  ·rcases eB.fresh b o bm with h|h|h
   ·exact .inl h
   ·exact .inr (.inl h)
   ·exact .inr (.inr (kJ kk.size h))
 ·rw[Gh]at aw;cases aw
end
end
end Go.Proofs.YtohaalphocaebaaGreat
namespace Go.Proofs
section
open Go.Shelf
def Tryz.lays6_ren:Go.Shelf.Ren:=⟨fun|6=>126|10=>206|11=>207|12=>208|13=>209|14=>210|24=>258|25=>259|26=>260|27=>261|28=>262|29=>263|30=>264|31=>265|32=>266|33=>267|34=>278|35=>279|36=>280|37=>281|38=>282|39=>285|n=>n,fun|20=>20|26=>160|35=>214|0=>0|37=>216|3=>3|41=>163|44=>222|49=>254|51=>256|4=>4|54=>259|53=>258|58=>246|5=>5|9=>9|60=>265|64=>269|66=>272|67=>273|17=>17|32=>211|33=>212|82=>300|12=>12|75=>293|76=>294|77=>295|78=>296|79=>297|80=>298|n=>n,fun|n=>n⟩
theorem Tryz.lays6:Go.Proofs.LaysGg.n6 al Tryz.lays6_ren:={
 mixed:=by kernel_rfl
 f6:=Tryz.func126.trans (fh some co)
 f10:=Tryz.func206.trans (fh some co)
 f11:=Tryz.func207.trans (fh some co)
 f12:=Tryz.func208.trans (fh some co)
 f13:=Tryz.func209.trans (fh some co)
 f14:=Tryz.func210.trans (fh some co)
 f24:=Tryz.func258.trans (fh some co)
 f25:=Tryz.func259.trans (fh some co)
 f26:=Tryz.func260.trans (fh some co)
 f27:=Tryz.func261.trans (fh some co)
 f28:=Tryz.func262.trans (fh some co)
 f29:=Tryz.func263.trans (fh some co)
 f30:=Tryz.func264.trans (fh some co)
 f31:=Tryz.func265.trans (fh some co)
 f32:=Tryz.func266.trans (fh some co)
 f33:=Tryz.func267.trans (fh some co)
 f34:=Tryz.func278.trans (fh some co)
 f35:=Tryz.func279.trans (fh some co)
 f36:=Tryz.func280.trans (fh some co)
 f37:=Tryz.func281.trans (fh some co)
 f38:=Tryz.func282.trans (fh some co)
 f39:=Tryz.func285.trans (fh some co)
 t0:=Tryz.underlying0
 a0:=Tryz.isAgg0
 z0:=Tryz.sizeOf0
 v0:=Tryz.zeroValue0
 i0:=by kernel_rfl
 t3:=Tryz.underlying3
 a3:=Tryz.isAgg3
 z3:=Tryz.sizeOf3
 v3:=Tryz.zeroValue3
 i3:=by kernel_rfl
 t4:=Tryz.underlying4
 a4:=Tryz.isAgg4
 z4:=Tryz.sizeOf4
 v4:=Tryz.zeroValue4
 i4:=by kernel_rfl
 t5:=Tryz.underlying5
 a5:=Tryz.isAgg5
 z5:=Tryz.sizeOf5
 v5:=Tryz.zeroValue5
 i5:=by kernel_rfl
 t9:=Tryz.underlying9
 a9:=Tryz.isAgg9
 z9:=Tryz.sizeOf9
 v9:=Tryz.zeroValue9
 i9:=by kernel_rfl
 t12:=Tryz.underlying12
 a12:=Tryz.isAgg12
 z12:=Tryz.sizeOf12
 v12:=Tryz.zeroValue12
 i12:=by kernel_rfl
 t17:=Tryz.underlying17
 a17:=Tryz.isAgg17
 z17:=Tryz.sizeOf17
 v17:=Tryz.zeroValue17
 i17:=by kernel_rfl
 t20:=Tryz.underlying20
 a20:=Tryz.isAgg20
 z20:=Tryz.sizeOf20
 v20:=Tryz.zeroValue20
 i20:=by kernel_rfl
 t26:=Tryz.underlying160
 a26:=Tryz.isAgg160
 z26:=Tryz.sizeOf160
 v26:=Tryz.zeroValue160
 i26:=by kernel_rfl
 t32:=Tryz.underlying211
 a32:=Tryz.isAgg211
 z32:=Tryz.sizeOf211
 v32:=Tryz.zeroValue211
 i32:=by kernel_rfl
 t33:=Tryz.underlying212
 a33:=Tryz.isAgg212
 z33:=Tryz.sizeOf212
 v33:=Tryz.zeroValue212
 i33:=by kernel_rfl
 t35:=Tryz.underlying214
 a35:=Tryz.isAgg214
 z35:=Tryz.sizeOf214
 v35:=Tryz.zeroValue214
 i35:=by kernel_rfl
 t37:=Tryz.underlying216
 a37:=Tryz.isAgg216
 z37:=Tryz.sizeOf216
 v37:=Tryz.zeroValue216
 i37:=by kernel_rfl
 t41:=Tryz.underlying163
 a41:=Tryz.isAgg163
 z41:=Tryz.sizeOf163
 v41:=Tryz.zeroValue163
 i41:=by kernel_rfl
 t44:=Tryz.underlying222
 a44:=Tryz.isAgg222
 z44:=Tryz.sizeOf222
 v44:=Tryz.zeroValue222
 i44:=by kernel_rfl
 t49:=Tryz.underlying254
 a49:=Tryz.isAgg254
 z49:=Tryz.sizeOf254
 v49:=Tryz.zeroValue254
 i49:=by kernel_rfl
 t51:=Tryz.underlying256
 a51:=Tryz.isAgg256
 z51:=Tryz.sizeOf256
 v51:=Tryz.zeroValue256
 i51:=by kernel_rfl
 t53:=Tryz.underlying258
 a53:=Tryz.isAgg258
 z53:=Tryz.sizeOf258
 v53:=Tryz.zeroValue258
 i53:=by kernel_rfl
 t54:=Tryz.underlying259
 a54:=Tryz.isAgg259
 z54:=Tryz.sizeOf259
 v54:=Tryz.zeroValue259
 i54:=by kernel_rfl
 t58:=Tryz.underlying246
 a58:=Tryz.isAgg246
 z58:=Tryz.sizeOf246
 v58:=Tryz.zeroValue246
 i58:=by kernel_rfl
 t60:=Tryz.underlying265
 a60:=Tryz.isAgg265
 z60:=Tryz.sizeOf265
 v60:=Tryz.zeroValue265
 i60:=by kernel_rfl
 t64:=Tryz.underlying269
 a64:=Tryz.isAgg269
 z64:=Tryz.sizeOf269
 v64:=Tryz.zeroValue269
 i64:=by kernel_rfl
 t66:=Tryz.underlying272
 a66:=Tryz.isAgg272
 z66:=Tryz.sizeOf272
 v66:=Tryz.zeroValue272
 i66:=by kernel_rfl
 t67:=Tryz.underlying273
 a67:=Tryz.isAgg273
 z67:=Tryz.sizeOf273
 v67:=Tryz.zeroValue273
 i67:=by kernel_rfl
 t75:=Tryz.underlying293
 a75:=Tryz.isAgg293
 z75:=Tryz.sizeOf293
 v75:=Tryz.zeroValue293
 i75:=by kernel_rfl
 t76:=Tryz.underlying294
 a76:=Tryz.isAgg294
 z76:=Tryz.sizeOf294
 v76:=Tryz.zeroValue294
 i76:=by kernel_rfl
 t77:=Tryz.underlying295
 a77:=Tryz.isAgg295
 z77:=Tryz.sizeOf295
 v77:=Tryz.zeroValue295
 i77:=by kernel_rfl
 t78:=Tryz.underlying296
 a78:=Tryz.isAgg296
 z78:=Tryz.sizeOf296
 v78:=Tryz.zeroValue296
 i78:=by kernel_rfl
 t79:=Tryz.underlying297
 a79:=Tryz.isAgg297
 z79:=Tryz.sizeOf297
 v79:=Tryz.zeroValue297
 i79:=by kernel_rfl
 t80:=Tryz.underlying298
 a80:=Tryz.isAgg298
 z80:=Tryz.sizeOf298
 v80:=Tryz.zeroValue298
 i80:=by kernel_rfl
 t82:=Tryz.underlying300
 a82:=Tryz.isAgg300
 z82:=Tryz.sizeOf300
 v82:=Tryz.zeroValue300
 i82:=by kernel_rfl}
end
end Go.Proofs
namespace Go.Proofs.YtohaalphocaebaaGreat
section
open Go Go.RowKit Go.Lib Go.Pv Go.Proofs
theorem ab4(n:Nat)(h:n<1099511627776):Lib.bitLen n<=1000:=by
 have:∀f x,bitLenAux f x<=f:=by
  intro f;induction f with
  |zero=>intro x;simp[bitLenAux]
  |succ f bR=>
   intro x;rw[bitLenAux];split
   ·omega
   ·have:=bR (x/2);omega
 have:=this 64 n;unfold Lib.bitLen;omega
theorem anq{α:Type}[Inhabited α]{lt:α->α->Bool}{l:List α}{cd:Array α}(h:Sort.PermIn 0 l.length l.toArray cd)(ag:Sort.SortedIn lt 0 l.length cd):cd.toList.Perm l/\cd.toList.Pairwise fun x y=>lt y x=false:=by
 obtain⟨lr,_,z3⟩:=h;have eC:cd.size=l.length:=by simpa using lr
 have ak:cd.extract 0 l.length=cd:=by rw[<-eC];simp
 have aD:l.toArray.extract 0 l.length=l.toArray:=by simp
 rw[ak,aD]at z3;refine⟨by simpa using z3,?_⟩;rw[qo];intro i j hi ae mA;have J:=ag i j Ω mA (by simpa[eC]using ae);have tM:i<cd.size:=by simpa using hi
 have gq:j<cd.size:=by simpa using ae
 rw[getElem!_pos cd i tM,getElem!_pos cd j gq]at J;simpa using J
section
variable {α:Type} {e:α->aj} (he:∀S x,aB S (e x)) {K B el sz:Nat}
include he
theorem Lk[Inhabited α](UK:K≠901/\K≠902)(UJ:B≠901/\B≠902)(t:gu)(i eG:TypeInfo)(hi:al.info? t=some i)(aR:i.desc= .slice el)(DI:al.packed t=false)(rl:al.info? el=some eG)(ke:Nat)(vr:∀w,(aa8 el).run al w= .ok ke w)(tH:∀n,2<=n->swapperK n eG ke=9)
  (g:Nat) (lt:α->α->Bool) (bE:Sort.SWO lt) (l:List α) (au:l.length<=68719476736)
  (yN:∀a1:List α,a1.length=l.length->∀(i j:Nat) x y,a1[i]? =some x->a1[j]? =some y->bI al g [.int .i64 i,.int .i64 j,.ptr (.obj B) 0] (dS e K B el sz a1) fun r ah=>r= .bool (lt x y)/\ah=dS e K B el sz a1)
  (Bg:∀a1:List α,a1.length=l.length->∀i j:Nat,i<l.length->j<l.length->bI al 257 [.int .i64 i,.int .i64 j,.row sz (.obj K) l.length,.cst (typeHandle al el)] (dS e K B el sz a1) fun r ah=>r= .tuple []/\ah=dS e K B el sz (gZ a1 i j)):
  bI al 126 [.iface t (.row sz (.obj K) l.length),.func g [.ptr (.obj B) 0]] (dS e K B el sz l) fun r ah=>r= .tuple []/\∃a1,ah=dS e K B el sz a1/\a1.Perm l/\a1.Pairwise fun x y=>lt y x=false:=by
 have Dq:al.funcs.findIdx? (·.name== "internal/reflectlite" ++ ".Swapper$" ++toString 1)=some 249:=by kernel_rfl
 have vm:al.funcs.findIdx? (·.name== "internal/reflectlite" ++ ".Swapper$" ++toString 2)=some 250:=by kernel_rfl
 have LQ:al.funcs.findIdx? (·.name== "internal/reflectlite" ++ ".Swapper$" ++toString 9)=some 257:=by kernel_rfl
 have yS:sT (dS e K B el sz) 901:=fun l=>⟨by simp[dS,Pv.look,UJ.1],by simp[dS,Pv.look,UK.1]⟩;have yT:sT (dS e K B el sz) 902:=fun l=>⟨by simp[dS,Pv.look,UJ.2],by simp[dS,Pv.look,UK.2]⟩;have fw:=ab4 l.length Ω;have Mo:∃f cc,al.funcs.findIdx? (·.name== "internal/reflectlite" ++ ".Swapper$" ++toString (swapperK l.length eG ke))=some f/\(cc=(if swapperK l.length eG ke<=2 then []else [aj.row sz (.obj K) l.length,.cst (typeHandle al el)]))/\
   bI al 210 [e9 g f [.ptr (.obj B) 0] cc,.int .i64 0,.int .i64 l.length,.int .i64 (Lib.bitLen l.length)] (dS e K B el sz l) fun r ah=>r= .tuple []/\∃a1,ah=dS e K B el sz a1/\a1.Perm l/\a1.Pairwise fun x y=>lt y x=false:=by
  have ef:=fun a1=>wq (K:=K) (B:=B) (el:=el) (sz:=sz) he a1;have key:∀{cg:Nat} {cc:List aj},fi (dS e K B el sz) l.length g cg [.ptr (.obj B) 0] cc lt->bI al 210 [e9 g cg [.ptr (.obj B) 0] cc,.int .i64 0,.int .i64 l.length,.int .i64 (Lib.bitLen l.length)] (dS e K B el sz l) fun r ah=>r= .tuple []/\∃a1,ah=dS e K B el sz a1/\a1.Perm l/\a1.Pairwise fun x y=>lt y x=false:=by intro cg cc H;have:=ag2 H yS yT bE l.length l.toArray Ψ 0 l.length (Lib.bitLen l.length) Ω Ω (fc _) Ω (.inl rfl);simp only[Int.ofNat_zero,Int.natCast_zero,Int.cast_ofNat_Int]at this;refine bI.mono this ?_;rintro r ah ⟨ba,cd,bo,b3,c9⟩;obtain⟨cX,dI⟩:=anq b3 c9;exact⟨ba,cd.toList,bo,cX,dI⟩
  rcases(by omega:l.length=0\/l.length=1\/2<=l.length)with br|J|U
  ·refine⟨249,[],by rw[br];exact Dq,by rw[br];rfl,key ⟨ef,fun hC fP _ _=>x8 hC fP,fun a1 _=>by simp[aC,aB,inObs,dS,Pv.look],fun a1 _=>by simp[aC],by simp[dz,c6],rfl,au,fun a1 h=>yN a1 h,fun a1 _ U i j hi=>Ω⟩⟩
  ·refine⟨250,[],by rw[J];exact vm,by rw[J];rfl,key ⟨ef,fun hC fP _ _=>x8 hC fP,fun a1 _=>by simp[aC,aB,inObs,dS,Pv.look],fun a1 _=>by simp[aC],by simp[dz,c6],rfl,au,fun a1 h=>yN a1 h,fun a1 _ U i j hi ae=>Ω⟩⟩
  ·refine⟨257,_,by rw[tH _ U];exact LQ,rfl,?_⟩;rw[tH _ U];simp only[show¬((9:Nat)<=2)from by decide,if_false];exact key ⟨ef,fun hC fP _ _=>x8 hC fP,fun a1 _=>by simp[aC,aB,inObs,dS,Pv.look],fun a1 _=>by simp[aC,aB,inObs,dS,Pv.look],by simp[dz,c6],by simp[dz,c6],au,fun a1 h=>yN a1 h,fun a1 h _ i j hi ae=>Bg a1 h i j hi ae⟩
 obtain⟨f,cc,aK,Mk,cF⟩:=Mo;intro w Z bf a7 ab aO;have qB:=c0.start (wq he l).obj a7 ab aO;have Mg:=aO;simp only[cY,bd]at aO;obtain⟨v0,vs1,hv0,⟨u,rfl,⟨b,cap,rfl⟩,ev,n',e6,ak,aD,bh⟩,v1,vs2,hv1,⟨rz,rfl,lb⟩,rfl⟩:=aO;have lh:bf= #[.iface t (.slice (some ⟨b,0,none⟩) l.length cap),.func (.func g) #[] rz]:=by apply Array.ext';rw[hv0,hv1]
 subst lh;have rk:∃fn,al.funcs[(126:Nat)]? =some fn/\fn.body.isSome=true/\(fn.name== "runtime.NumGoroutine")=false:=⟨_,Tryz.func126,by kernel_rfl,by kernel_rfl⟩;refine .inl ⟨rk,?_⟩;obtain⟨dp,pz⟩:∃dp,dp=sliceWorld al Tryz.lays6_ren t (some ⟨b,0,none⟩) l.length cap w:=⟨_,rfl⟩;have kk:w.grownBy dp none:=by rw[pz];unfold sliceWorld;exact UF _ _ _
 have Mh:=qB.grown kk;have lf:lU w Z dp Z:=⟨fun b o bm=>⟨bm,Ga kk (a7.alt b o bm)⟩,fun _ _ _ h=>h,fun _ n u _ h=>⟨n,u,h,.inl ⟨rfl,rfl⟩⟩,fun b o bm=>xJ (kk.block b (a7.alt b o bm) Ψ),fun _ _ _ _ h=>h⟩;have pn:Pv.Good (fM Z (dS e K B el sz l)) dp Z (dS e K B el sz l).b (dS e K B el sz l).e:=Mh.good.prMono fun bl _ h=>h;have lD:=IH lf Mg;simp only[cY]at lD;obtain⟨a0,abU,tI,DK,bH,abV,lA,aiP,rfl⟩:=lD;simp at tI;obtain⟨rfl,rfl⟩:=tI;simp at lA;subst lA;have Mj:bd dp Z (.row sz (.obj K) l.length) (.slice (some ⟨b,0,none⟩) l.length cap):=by simp only[bd]at DK;obtain⟨u,hu,h⟩:=DK;simp at hu;obtain⟨_,rfl⟩:=hu;simp only[bd];exact h
 have rn:cY dp Z cc (sliceBound al el eG ke (some ⟨b,0,none⟩) l.length cap).toList:=by
  unfold sliceBound;rw[Mk];split
  ·simp[cY]
  ·simp only[cY];exact⟨_,_,rfl,Mj,_,_,rfl,by simp[bd],rfl⟩
 have vh:cY dp Z [e9 g f [.ptr (.obj B) 0] cc,.int .i64 0,.int .i64 l.length,.int .i64 (Lib.bitLen l.length)] (#[.agg #[.func (.func g) #[] rz,.func (.func f) #[] (sliceBound al el eG ke (some ⟨b,0,none⟩) l.length cap)],.int .i64 0,.int .i64 l.length,.int .i64 (Lib.bitLen l.length)]:Array Value).toList:=by simp only[cY,e9];refine⟨_,_,rfl,?_,_,_,rfl,by simp[bd],_,_,rfl,by simp[bd],_,_,rfl,by simp[bd],rfl⟩;simp only[bd,dd];exact⟨_,rfl,_,_,rfl,⟨⟨rz,rfl,IH lf lb⟩,rfl⟩,_,_,rfl,⟨⟨_,rfl,rn⟩,rfl⟩,rfl⟩
 have LN:=cF dp Z _ pn ab vh;have Gh:∀args w,(callFunc 210 args).run al w= .ok (.enter 210 args) w:=enters_of Tryz.func210 co rfl;rcases LN with⟨_,aw⟩|⟨v,w',aw,_⟩
 ·have L4:=Any.sort_Slice_of_pdq Tryz.lays6 t el i eG hi aR DI rl ke vr (some ⟨b,0,none⟩) l.length cap Ω f aK (.func g) #[] rz w
   (fun w'=> ∃ah bt,(∃a1,ah=dS e K B el sz a1/\a1.Perm l/\a1.Pairwise fun x y=>lt y x=false)/\Pv.Good (fun bl=>fM Z (dS e K B el sz l) bl\/dp.heap.size<=bl) w' bt ah.b ah.e/\p5 bt ah/\ju ah/\q1 ⟨dp,Z,fM Z (dS e K B el sz l),0,c2 (dS e K B el sz l)⟩ w' bt) (by
    rw[<-pz];refine aw.mono ?_;rintro e w' ⟨v,r,ah,bt,rfl,⟨rfl,bn⟩,w1,a6,b0,df,eB⟩;simp only[bd,cY]at w1;obtain⟨us,rfl,rq⟩:=w1;have:us= #[]:=by apply Array.ext';simpa using rq
    subst this;exact⟨rfl,ah,bt,bn,a6,b0,df,eB⟩)
  refine L4.mono ?_;rintro e w' ⟨rfl,ah,bt,⟨a1,rfl,G9,Bf⟩,a6,b0,df,eB⟩;refine⟨.tuple #[],.tuple [],_,bt,rfl,⟨rfl,a1,rfl,G9,Bf⟩,by simp[bd,cY],a6.prMono fun bl h _=>?_,b0,df,⟨eB.os.trans kk.os,eB.tape.trans kk.tape,eB.output.trans kk.output,kJ kk.size eB.size,fun k ad hm=>?_,fun b o bm=>?_,fun b o bm=>?_,eB.obj,eB.obn,eB.row,eB.obr,eB.trd,fun k j b af=>⟨(eB.trb k j b af).1.imp id (fun h=>kJ kk.size h),(eB.trb k j b af).2⟩,eB.trn,fun b o bm=>(eB.sh b o bm).trans (lf.sh b o bm)⟩⟩
  ·rcases h with h|h
   ·exact .inl h
   ·exact .inr (kJ kk.size h)
  ·rw[eB.block k (Nat.lt_of_lt_of_le ad kk.size) hm];exact kk.block k ad Ψ
  ·obtain⟨aS,be⟩:=eB.keep b o bm;exact⟨aS,be.trans (lf.A b o bm).2⟩
  ·rcases eB.fresh b o bm with h|h|h
   ·exact .inl h
   ·exact .inr (.inl h)
   ·exact .inr (.inr (kJ kk.size h))
 ·rw[Gh]at aw;cases aw
end
end
section
open Go Go.Pv Go.Lib
abbrev x7(l:List bj):cL:=dS bj.e 814 815 106 2 l
theorem Xs:∀(S:aI->Prop) (x:bj),aB S x.e:=fun S x=>by simp
theorem JH(l:List bj):dW (x7 l):=wq Xs l
theorem akl:Sort.SWO (h5 fs):=by
 refine⟨fun x=>?_,fun x y z J U=>?_,fun x y z J U=>?_⟩
 ·simp only[h5,fC];have:=mi.refl x;omega
 ·simp only[h5,eW]at*;exact mi.ltr J Ω
 ·simp only[h5,fC]at*;have ak:=mi.neg x y;have aD:=mi.neg y z;have bh:=mi.neg x z;have:=mi.tr z y x Ω Ω;omega
theorem agC(l:List bj)(i j:Nat)(x y:bj)(au:l.length<=68719476736)(hi:l[i]? =some x)(ae:l[j]? =some y):bI al 131 [.int .i64 i,.int .i64 j,.ptr (.obj 815) 0] (x7 l) fun r ah=>r= .bool (h5 fs x y)/\ah=x7 l:=by have ag:=JH l;obtain⟨la,fO⟩:=eV.1 hi;obtain⟨dj,oC⟩:=eV.1 ae;unfold x7 dS at ag⊢;refine bI.mk mixed kr aeh alf Ψ ag.obj fun aM cR=>?_;unfold Q0;simp[la,dj,fO,oC];(with_reducible repeat' first|refine ai ?_|refine az (Cp _ _) ?_|refine aA (Cp _ _) ?_|simp[la,dj,fO,oC]);refine cH.at _ (.inl rfl) ag (Same.refl _) aN aN ?_;simp[cN,Yg,aX,aZ,aW]
noncomputable def Tryz.maT:TypeInfo:=(al.info? 26).get co
noncomputable def Tryz.maE:TypeInfo:=(al.info? 106).get co
theorem Tryz.maK(n:Nat)(U:2<=n):Lib.swapperK n Tryz.maE 25=9:=by
 have a:Tryz.maE.hasPointers=true:=by kernel_rfl
 have b:Tryz.maE.bytes=24:=by kernel_rfl
 have c:(n==0)=false:=by simp;omega
 have d:(n==1)=false:=by simp;omega
 simp[Lib.swapperK,a,b,c,d]
theorem W3{α β:Type}(f:α->β)(l:List α)(i j:Nat):(gZ l i j).map f=gZ (l.map f) i j:=by
 unfold gZ;simp only[tk];cases l[i]? with
 |none=>simp
 |some x=>
  cases l[j]? with
  |none=>simp
  |some y=>simp[List.map_set]
theorem ahh(l:List bj)(au:l.length<=68719476736):bI al 126 [.iface 26 (.row 2 (.obj 814) l.length),.func 131 [.ptr (.obj 815) 0]] (x7 l) fun r ah=>r= .tuple []/\ah=x7 (pG fs l):=by
 refine(Lk Xs (K:=814) (B:=815) (sz:=2) (by decide) (by decide) 26 Tryz.maT Tryz.maE co co co co 25 (fun _=>by kernel_rfl) Tryz.maK 131 (h5 fs) akl l au (fun a1 h i j x y hi ae=>agC a1 i j x y Ω hi ae) (fun a1 h i j hi ae=>?_)).mono ?_
 ·have:=Ls (P:=al) false 257 (fun args W=>run_callFunc_extern Tryz.func257 co co co (e:=Cw false) co args W)
   106 Tryz.maE co (fun _=>by kernel_rfl) (JH a1) (K:=814) (n:=l.length) (el:=106) (sz:=2) co (xs:=a1.map bj.e) (by simp[dS,Pv.look,h]) i j hi ae
  refine this.mono ?_;rintro r ah ⟨rfl,rfl⟩;refine⟨rfl,?_⟩;simp[dS,cA,W3,h]
 ·rintro r ah ⟨rfl,a1,rfl,J,U⟩;exact⟨rfl,by rw[ZC mi J U]⟩
def oI(l:List bj):List aj:= .hdm l.length (List.range l.length)::l.flatMap fun m=>[m.e,.bool true]
def lx(m:bj)(l:List bj):List bj:=if m∈l then l else l++[m]
theorem ajQ(a b:bj):tY (.a [false,true]) a.e b.e=some (decide (a=b)):=by simp only[bj.e,tY,ky,if_true,o0];congr 1;rw[qY];cases a;cases b;simp
theorem ajR(a:bj):xf (.a [false,true]) a.e=true:=by simp[bj.e,xf,ky,-JT]
theorem Xx(m:bj):∀l:List bj,vM (.a [false,true]) m.e (.bool true) (l.flatMap fun m=>[m.e,.bool true])=some (if m∈l then some (l.flatMap fun m=>[m.e,.bool true])else none)
 |[]=>rfl
 |a::l=>by
  simp only[List.flatMap_cons,bW,b9,vM,ajQ];by_cases h:m=a
  ·subst h;simp
  ·have cn:decide (m=a)=false:=by simp[h]
   rw[cn];simp only[Xx m l];by_cases hm:m∈l
   ·simp[hm]
   ·simp[hm,h]
@[simp]theorem auQ(m:bj)(l:List bj):oK (.a [false,true]) m.e (.bool true) (oI l)=some (oI (lx m l)):=by
 simp only[oI,oK,ajR,Bool.true_eq_false,reduceCtorEq,if_false,Xx,lx];by_cases h:m∈l
 ·simp[h]
 ·simp[h,List.range_succ]
end
section
open Go Go.Pv
@[simp]theorem Bu(S:aI->Prop)(l:List bj):aC S (oI l)=True:=by
 refine eq_true ?_;unfold oI;have:∀l:List bj,aC S (l.flatMap fun m=>[m.e,aj.bool true]):=fun l=>by
  induction l with
  |nil=>simp[aC]
  |cons x r bR=>simp only[List.flatMap_cons,bW,b9,aC,ajW,aB,true_and];exact bR
 simp only[aC,aB,true_and];exact this l
@[simp]theorem auz:[aj.hdm 0 []]=oI []:=rfl
def o5(tag:List dw)(l:List bj):cL:=⟨[(.obj 811,[.str tag]),(.obj 812,oI l),(.obj 813,[.gmap (.obj 812)])],[]⟩
theorem Fy(tag:List dw)(l:List bj):dW (o5 tag l):=by unfold o5;refine dW.of ⟨by intro m;simp[Pv.look],by intro m;simp[Pv.look]⟩ d8 Ψ
theorem JK(tag:List dw)(l a1:List bj):Same (o5 tag l) (o5 tag a1):=Same.keys (by simp[o5]) (by simp[o5])
theorem agB(tag:List dw)(v:Int)(l:List bj):bI al 130 [.int .i64 v,.ptr (.obj 813) 0,.ptr (.obj 811) 0] (o5 tag l) fun r ah=>r= .tuple []/\ah=o5 tag (lx ⟨v,tag⟩ l):=by have ag:=Fy tag l;have ep:=Fy tag (lx ⟨v,tag⟩ l);have dr:=JK tag l (lx ⟨v,tag⟩ l);unfold o5 at ag ep dr⊢;refine bI.mk mixed kr aeg ale Ψ ag.obj fun aM cR=>?_;unfold QZ;simp;refine cH.at _ (.inr rfl) ep dr aN aN ?_;simp[cN,Yf,aX,aZ,aW]
end
section
open Go Go.Pv Go.Lib
abbrev wm(l:List bN):cL:=dS bN.e 803 804 104 2 l
theorem Wm:∀(S:aI->Prop) (x:bN),aB S x.e:=fun S x=>by simp
theorem Fv(l:List bN):dW (wm l):=wq Wm l
def xo(x y:bN):Bool:=decide (x.v<y.v)
theorem akk:Sort.SWO xo:=⟨fun x=>by simp[xo],fun x y z J U=>by simp[xo]at*;omega,fun x y z J U=>by simp[xo]at*;omega⟩
theorem agD(l:List bN)(i j:Nat)(x y:bN)(au:l.length<=68719476736)(hi:l[i]? =some x)(ae:l[j]? =some y):bI al 127 [.int .i64 i,.int .i64 j,.ptr (.obj 804) 0] (wm l) fun r ah=>r= .bool (xo x y)/\ah=wm l:=by have ag:=Fv l;obtain⟨la,fO⟩:=eV.1 hi;obtain⟨dj,oC⟩:=eV.1 ae;unfold wm dS at ag⊢;refine bI.mk mixed kr aei alg Ψ ag.obj fun aM cR=>?_;unfold Q1;simp[la,dj,fO,oC];(with_reducible repeat' first|refine ai ?_|simp);refine cH.at _ (.inl rfl) ag (Same.refl _) aN aN ?_;simp[cN,Yh,aX,aZ,aW,xo]
noncomputable def Tryz.vkT:TypeInfo:=(al.info? 25).get co
noncomputable def Tryz.vkE:TypeInfo:=(al.info? 104).get co
theorem Tryz.vkK(n:Nat)(U:2<=n):Lib.swapperK n Tryz.vkE 25=9:=by
 have a:Tryz.vkE.hasPointers=false:=by kernel_rfl
 have b:Tryz.vkE.bytes=16:=by kernel_rfl
 have c:(n==0)=false:=by simp;omega
 have d:(n==1)=false:=by simp;omega
 simp[Lib.swapperK,a,b,c,d]
theorem akh{α β:Type}(f:α->β)(l:List α)(i j:Nat):(gZ l i j).map f=gZ (l.map f) i j:=by
 unfold gZ;simp only[tk];cases l[i]? with
 |none=>simp
 |some x=>
  cases l[j]? with
  |none=>simp
  |some y=>simp[List.map_set]
theorem Uy(l:List bN)(au:l.length<=68719476736):bI al 126 [.iface 25 (.row 2 (.obj 803) l.length),.func 127 [.ptr (.obj 804) 0]] (wm l) fun r ah=>r= .tuple []/\∃a1,ah=wm a1/\a1.Perm l/\a1.Pairwise fun x y=>xo y x=false:=by
 refine(Lk Wm (K:=803) (B:=804) (sz:=2) (by decide) (by decide) 25 Tryz.vkT Tryz.vkE co co co co 25 (fun _=>by kernel_rfl) Tryz.vkK 127 xo akk l au (fun a1 h i j x y hi ae=>agD a1 i j x y Ω hi ae) (fun a1 h i j hi ae=>?_));have:=Ls (P:=al) false 257 (fun args W=>run_callFunc_extern Tryz.func257 co co co (e:=Cw false) co args W)
  104 Tryz.vkE co (fun _=>by kernel_rfl) (Fv a1) (K:=803) (n:=l.length) (el:=104) (sz:=2) co (xs:=a1.map bN.e) (by simp[dS,Pv.look,h]) i j hi ae
 refine this.mono ?_;rintro r ah ⟨rfl,rfl⟩;refine⟨rfl,?_⟩;simp[dS,cA,akh,h]
end
section
open Go Go.Pv
def fX(o:Option (List bN)):aj:= .tuple [.slice 2 .no ((o.getD []).map bN.e),.bool o.isSome]
@[simp]theorem aui(S:aI->Prop)(o:Option (List bN)):aB S (fX o)=True:=by simp[fX]
theorem aae{l:List bN}(h:jE l):bC al 56 [.slice 2 .no (l.map bN.e)] (.bool true):=by have:=aad l;simpa only[h,decide_true]using this
theorem Fe{t:T}(h:t.fit=true):bC al 117 [t.e] (.bool true):=by have:=aqx t;rwa[h]at this
theorem aaa{s:List ao}(ag:e5 s){l:List bN}(au:jE l)(t:T)(aJ:t.fit=true)(k:Int):
  bC al 52 [.slice 5 .no (s.map ao.e),.slice 2 .no (l.map bN.e),t.e,.int .i64 k] (fX (if(k=2\/k=3)/\(t.ap (bp s)).size<=5000 then jk l (t.ap (bp s)) k else none)):=by
 have yO:=rv au;have cE:=qn ag;have ds:=Fe aJ;have dx:=aae au;have fA:=Cs s t ag.len ag.sol.asc ag.fit;generalize ab:t.ap (bp s)=x at fA⊢;generalize du:(if(k=2\/k=3)/\x.size<=5000 then jk l x k else none)=O;by_cases ad:k=2\/k=3;rotate_left
 ·have gI:(k !=2)=true:=by simp;omega
  have lB:(k !=3)=true:=by simp;omega
  rw[if_neg (fun h=>ad h.1)]at du;rw[<-du];refine bc kr sc sU fun aM=>?_;unfold q7;simp;(with_reducible repeat' first|refine ai ?_|refine az cE ?_|refine aA cE ?_|refine az ds ?_|refine aA ds ?_|refine az dx ?_|refine aA dx ?_|simp[gI,lB]);simp[bq,kp,aX,aZ,aW];simp[fX]
 by_cases bz:x.size<=5000;rotate_left
 ·rw[if_neg (fun h=>bz h.2)]at du;rw[<-du];rw[if_neg bz,hQ bz]at fA;refine bc kr sc sU fun aM=>?_;unfold q7;simp;rcases ad with rfl|rfl;all_goals(with_reducible repeat' first|refine ai ?_|refine az cE ?_|refine aA cE ?_|refine az ds ?_|refine aA ds ?_|refine az dx ?_|refine aA dx ?_|refine az fA ?_|refine aA fA ?_|simp)
  all_goals simp[bq,kp,aX,aZ,aW]
  all_goals simp[fX]
 rw[if_pos ⟨ad,bz⟩]at du;rw[if_pos bz,gN bz]at fA;have GS:(k !=2)=true->(k !=3)=false:=fun h=>by simp at h⊢;omega
 have vq:((k !=2)=false)\/((k !=2)=true/\(k !=3)=false):=by
  rcases ad with rfl|rfl
  ·left;rfl
  ·right;exact⟨rfl,rfl⟩
 clear GS;cases x with
 |var n=>
  have ek:O=match lH l n with|some bJ=>if bJ=k then some l else none|none=>some (ma ⟨n,k⟩ l):=by rw[<-du];rfl
  refine bc kr sc sU fun aM=>?_;unfold q7;simp;rcases vq with bn|⟨bn,j7⟩
  ·(with_reducible repeat' first|refine ai ?_|refine az cE ?_|refine aA cE ?_|refine az ds ?_|refine aA ds ?_|refine az dx ?_|refine aA dx ?_|refine az fA ?_|refine aA fA ?_|simp[bn]);refine dO [3,10,12,55,56] (fun i (_:Unit)=>[(57,.int .i64 i)]) l.length (fun i _=> ∀j y,j<i->l[j]? =some y->y.v≠n) () bT (fun j y ae=>Ω) (fun _ ae _=>?_) (fun i _ hi ae _=>?_)
   ·have a7:lH l n=none:=y6.2 fun y aL=>by obtain⟨m,hm,e⟩:=og aL;exact ae m y hm (by rw[b6 hm,e])
    rw[a7]at ek;simp only at ek;simp;(with_reducible repeat' first|refine ai ?_|simp);all_goals first|(refine⟨by unfold lim;omega,?_⟩)|skip
    have key:=Uy (l++[⟨n,k⟩]) d7;have ef:=Fv (l++[⟨n,k⟩]);have hlen:(l++[(⟨n,k⟩:bN)]).length=l.length+1:=by simp
    unfold wm dS at key ef;rw[hlen,rT,gM,mN]at key ef;refine cV.ob key ef aN aN (by simp[inObs,Pv.look]) ?_;rintro r ah ⟨rfl,a1,rfl,J,U⟩;have tO:a1=ma ⟨n,k⟩ l:=Wn (J.trans ((List.perm_append_comm (l₁:=l) (l₂:=[⟨n,k⟩])).trans (ME ⟨n,k⟩ l).symm)) (Hf au.asc (y6.1 a7)) U;subst tO;refine⟨Same.keys Ψ Ψ,?_⟩;rw[ek];simp[cl];(with_reducible repeat' first|refine ai ?_|simp);simp[bq,kp,aX,aZ,aW];simp[fX]
   ·obtain⟨b,af,cD⟩:=eh hi;by_cases nQ:b.v=n
    ·have a7:lH l n=some b.k:=by rw[<-nQ];exact Hs au.asc (dV af)
     rw[a7]at ek;simp only at ek;by_cases iU:b.k=k
     ·rw[if_pos iU]at ek;rw[ek];have yA:(b.k !=k)=false:=by simp[iU]
      have sr:(b.v==n)=true:=by simp[nQ]
      simp[hi,cD];(with_reducible repeat' first|refine ai ?_|simp[cD,hi,yA,sr,iU,nQ]);simp[bq,kp,aX,aZ,aW];simp[fX]
     ·rw[if_neg iU]at ek;rw[ek];have yA:(b.k !=k)=true:=by simp[iU]
      have sr:(b.v==n)=true:=by simp[nQ]
      simp[hi,cD];(with_reducible repeat' first|refine ai ?_|simp[cD,hi,yA,sr,iU,nQ]);simp[bq,kp,aX,aZ,aW];simp[fX]
    ·have sr:(b.v==n)=false:=by simp[nQ]
     simp[hi,cD];(with_reducible repeat' first|refine ai ?_|simp[cD,hi,sr,nQ]);exact bK.rng () hi (fun j y gq aL=>by
      rcases(by omega:j<i\/j=i)with h|rfl
      ·exact ae j y h aL
      ·rw[af]at aL;cases aL;exact nQ) bT
  ·(with_reducible repeat' first|refine ai ?_|refine az cE ?_|refine aA cE ?_|refine az ds ?_|refine aA ds ?_|refine az dx ?_|refine aA dx ?_|refine az fA ?_|refine aA fA ?_|simp[bn,j7]);refine dO [3,10,12,55,56] (fun i (_:Unit)=>[(57,.int .i64 i)]) l.length (fun i _=> ∀j y,j<i->l[j]? =some y->y.v≠n) () bT (fun j y ae=>Ω) (fun _ ae _=>?_) (fun i _ hi ae _=>?_)
   ·have a7:lH l n=none:=y6.2 fun y aL=>by obtain⟨m,hm,e⟩:=og aL;exact ae m y hm (by rw[b6 hm,e])
    rw[a7]at ek;simp only at ek;simp;(with_reducible repeat' first|refine ai ?_|simp);all_goals first|(refine⟨by unfold lim;omega,?_⟩)|skip
    have key:=Uy (l++[⟨n,k⟩]) d7;have ef:=Fv (l++[⟨n,k⟩]);have hlen:(l++[(⟨n,k⟩:bN)]).length=l.length+1:=by simp
    unfold wm dS at key ef;rw[hlen,rT,gM,mN]at key ef;refine cV.ob key ef aN aN (by simp[inObs,Pv.look]) ?_;rintro r ah ⟨rfl,a1,rfl,J,U⟩;have tO:a1=ma ⟨n,k⟩ l:=Wn (J.trans ((List.perm_append_comm (l₁:=l) (l₂:=[⟨n,k⟩])).trans (ME ⟨n,k⟩ l).symm)) (Hf au.asc (y6.1 a7)) U;subst tO;refine⟨Same.keys Ψ Ψ,?_⟩;rw[ek];simp[cl];(with_reducible repeat' first|refine ai ?_|simp);simp[bq,kp,aX,aZ,aW];simp[fX]
   ·obtain⟨b,af,cD⟩:=eh hi;by_cases nQ:b.v=n
    ·have a7:lH l n=some b.k:=by rw[<-nQ];exact Hs au.asc (dV af)
     rw[a7]at ek;simp only at ek;by_cases iU:b.k=k
     ·rw[if_pos iU]at ek;rw[ek];have yA:(b.k !=k)=false:=by simp[iU]
      have sr:(b.v==n)=true:=by simp[nQ]
      simp[hi,cD];(with_reducible repeat' first|refine ai ?_|simp[cD,hi,yA,sr,iU,nQ]);simp[bq,kp,aX,aZ,aW];simp[fX]
     ·rw[if_neg iU]at ek;rw[ek];have yA:(b.k !=k)=true:=by simp[iU]
      have sr:(b.v==n)=true:=by simp[nQ]
      simp[hi,cD];(with_reducible repeat' first|refine ai ?_|simp[cD,hi,yA,sr,iU,nQ]);simp[bq,kp,aX,aZ,aW];simp[fX]
    ·have sr:(b.v==n)=false:=by simp[nQ]
     simp[hi,cD];(with_reducible repeat' first|refine ai ?_|simp[cD,hi,sr,nQ]);exact bK.rng () hi (fun j y gq aL=>by
      rcases(by omega:j<i\/j=i)with h|rfl
      ·exact ae j y h aL
      ·rw[af]at aL;cases aL;exact nQ) bT
 |nil=>
  have ek:O=if T.nil.kind=k then some l else none:=by rw[<-du];rfl
  by_cases hL:T.nil.kind=k
  ·rw[if_pos hL]at ek;rw[ek];refine bc kr sc sU fun aM=>?_;unfold q7;simp;simp at hL;rcases vq with bn|⟨bn,j7⟩
   ·((with_reducible repeat' first|refine ai ?_|refine az cE ?_|refine aA cE ?_|refine az ds ?_|refine aA ds ?_|refine az dx ?_|refine aA dx ?_|refine az fA ?_|refine aA fA ?_|simp[bn,hL]|((first|apply bU|apply bY|apply bX)<;>intro h<;>try simp at h))<;>(try exact cz));all_goals simp[bq,kp,aX,aZ,aW]
    all_goals simp[fX]
   ·((with_reducible repeat' first|refine ai ?_|refine az cE ?_|refine aA cE ?_|refine az ds ?_|refine aA ds ?_|refine az dx ?_|refine aA dx ?_|refine az fA ?_|refine aA fA ?_|simp[bn,j7,hL]|((first|apply bU|apply bY|apply bX)<;>intro h<;>try simp at h))<;>(try exact cz));all_goals simp[bq,kp,aX,aZ,aW]
    all_goals simp[fX]
  ·rw[if_neg hL]at ek;rw[ek];refine bc kr sc sU fun aM=>?_;unfold q7;simp;simp at hL;rcases vq with bn|⟨bn,j7⟩
   ·((with_reducible repeat' first|refine ai ?_|refine az cE ?_|refine aA cE ?_|refine az ds ?_|refine aA ds ?_|refine az dx ?_|refine aA dx ?_|refine az fA ?_|refine aA fA ?_|simp[bn,hL]|((first|apply bU|apply bY|apply bX)<;>intro h<;>try simp at h))<;>(try exact cz));all_goals simp[bq,kp,aX,aZ,aW]
    all_goals simp[fX]
   ·((with_reducible repeat' first|refine ai ?_|refine az cE ?_|refine aA cE ?_|refine az ds ?_|refine aA ds ?_|refine az dx ?_|refine aA dx ?_|refine az fA ?_|refine aA fA ?_|simp[bn,j7,hL]|((first|apply bU|apply bY|apply bX)<;>intro h<;>try simp at h))<;>(try exact cz));all_goals simp[bq,kp,aX,aZ,aW]
    all_goals simp[fX]
 |sym a=>
  have ek:O=if(T.sym a).kind=k then some l else none:=by rw[<-du];rfl
  by_cases hL:(T.sym a).kind=k
  ·rw[if_pos hL]at ek;rw[ek];refine bc kr sc sU fun aM=>?_;unfold q7;simp;simp at hL;rcases vq with bn|⟨bn,j7⟩
   ·((with_reducible repeat' first|refine ai ?_|refine az cE ?_|refine aA cE ?_|refine az ds ?_|refine aA ds ?_|refine az dx ?_|refine aA dx ?_|refine az fA ?_|refine aA fA ?_|simp[bn,hL]|((first|apply bU|apply bY|apply bX)<;>intro h<;>try simp at h))<;>(try exact cz));all_goals simp[bq,kp,aX,aZ,aW]
    all_goals simp[fX]
   ·((with_reducible repeat' first|refine ai ?_|refine az cE ?_|refine aA cE ?_|refine az ds ?_|refine aA ds ?_|refine az dx ?_|refine aA dx ?_|refine az fA ?_|refine aA fA ?_|simp[bn,j7,hL]|((first|apply bU|apply bY|apply bX)<;>intro h<;>try simp at h))<;>(try exact cz));all_goals simp[bq,kp,aX,aZ,aW]
    all_goals simp[fX]
  ·rw[if_neg hL]at ek;rw[ek];refine bc kr sc sU fun aM=>?_;unfold q7;simp;simp at hL;rcases vq with bn|⟨bn,j7⟩
   ·((with_reducible repeat' first|refine ai ?_|refine az cE ?_|refine aA cE ?_|refine az ds ?_|refine aA ds ?_|refine az dx ?_|refine aA dx ?_|refine az fA ?_|refine aA fA ?_|simp[bn,hL]|((first|apply bU|apply bY|apply bX)<;>intro h<;>try simp at h))<;>(try exact cz));all_goals simp[bq,kp,aX,aZ,aW]
    all_goals simp[fX]
   ·((with_reducible repeat' first|refine ai ?_|refine az cE ?_|refine aA cE ?_|refine az ds ?_|refine aA ds ?_|refine az dx ?_|refine aA dx ?_|refine az fA ?_|refine aA fA ?_|simp[bn,j7,hL]|((first|apply bU|apply bY|apply bX)<;>intro h<;>try simp at h))<;>(try exact cz));all_goals simp[bq,kp,aX,aZ,aW]
    all_goals simp[fX]
 |num a=>
  have ek:O=if(T.num a).kind=k then some l else none:=by rw[<-du];rfl
  by_cases hL:(T.num a).kind=k
  ·rw[if_pos hL]at ek;rw[ek];refine bc kr sc sU fun aM=>?_;unfold q7;simp;simp at hL;rcases vq with bn|⟨bn,j7⟩
   ·((with_reducible repeat' first|refine ai ?_|refine az cE ?_|refine aA cE ?_|refine az ds ?_|refine aA ds ?_|refine az dx ?_|refine aA dx ?_|refine az fA ?_|refine aA fA ?_|simp[bn,hL]|((first|apply bU|apply bY|apply bX)<;>intro h<;>try simp at h))<;>(try exact cz));all_goals simp[bq,kp,aX,aZ,aW]
    all_goals simp[fX]
   ·((with_reducible repeat' first|refine ai ?_|refine az cE ?_|refine aA cE ?_|refine az ds ?_|refine aA ds ?_|refine az dx ?_|refine aA dx ?_|refine az fA ?_|refine aA fA ?_|simp[bn,j7,hL]|((first|apply bU|apply bY|apply bX)<;>intro h<;>try simp at h))<;>(try exact cz));all_goals simp[bq,kp,aX,aZ,aW]
    all_goals simp[fX]
  ·rw[if_neg hL]at ek;rw[ek];refine bc kr sc sU fun aM=>?_;unfold q7;simp;simp at hL;rcases vq with bn|⟨bn,j7⟩
   ·((with_reducible repeat' first|refine ai ?_|refine az cE ?_|refine aA cE ?_|refine az ds ?_|refine aA ds ?_|refine az dx ?_|refine aA dx ?_|refine az fA ?_|refine aA fA ?_|simp[bn,hL]|((first|apply bU|apply bY|apply bX)<;>intro h<;>try simp at h))<;>(try exact cz));all_goals simp[bq,kp,aX,aZ,aW]
    all_goals simp[fX]
   ·((with_reducible repeat' first|refine ai ?_|refine az cE ?_|refine aA cE ?_|refine az ds ?_|refine aA ds ?_|refine az dx ?_|refine aA dx ?_|refine az fA ?_|refine aA fA ?_|simp[bn,j7,hL]|((first|apply bU|apply bY|apply bX)<;>intro h<;>try simp at h))<;>(try exact cz));all_goals simp[bq,kp,aX,aZ,aW]
    all_goals simp[fX]
 |pair a b=>
  have ek:O=if(T.pair a b).kind=k then some l else none:=by rw[<-du];rfl
  by_cases hL:(T.pair a b).kind=k
  ·rw[if_pos hL]at ek;rw[ek];refine bc kr sc sU fun aM=>?_;unfold q7;simp;simp at hL;rcases vq with bn|⟨bn,j7⟩
   ·((with_reducible repeat' first|refine ai ?_|refine az cE ?_|refine aA cE ?_|refine az ds ?_|refine aA ds ?_|refine az dx ?_|refine aA dx ?_|refine az fA ?_|refine aA fA ?_|simp[bn,hL]|((first|apply bU|apply bY|apply bX)<;>intro h<;>try simp at h))<;>(try exact cz));all_goals simp[bq,kp,aX,aZ,aW]
    all_goals simp[fX]
   ·((with_reducible repeat' first|refine ai ?_|refine az cE ?_|refine aA cE ?_|refine az ds ?_|refine aA ds ?_|refine az dx ?_|refine aA dx ?_|refine az fA ?_|refine aA fA ?_|simp[bn,j7,hL]|((first|apply bU|apply bY|apply bX)<;>intro h<;>try simp at h))<;>(try exact cz));all_goals simp[bq,kp,aX,aZ,aW]
    all_goals simp[fX]
  ·rw[if_neg hL]at ek;rw[ek];refine bc kr sc sU fun aM=>?_;unfold q7;simp;simp at hL;rcases vq with bn|⟨bn,j7⟩
   ·((with_reducible repeat' first|refine ai ?_|refine az cE ?_|refine aA cE ?_|refine az ds ?_|refine aA ds ?_|refine az dx ?_|refine aA dx ?_|refine az fA ?_|refine aA fA ?_|simp[bn,hL]|((first|apply bU|apply bY|apply bX)<;>intro h<;>try simp at h))<;>(try exact cz));all_goals simp[bq,kp,aX,aZ,aW]
    all_goals simp[fX]
   ·((with_reducible repeat' first|refine ai ?_|refine az cE ?_|refine aA cE ?_|refine az ds ?_|refine aA ds ?_|refine az dx ?_|refine aA dx ?_|refine az fA ?_|refine aA fA ?_|simp[bn,j7,hL]|((first|apply bU|apply bY|apply bX)<;>intro h<;>try simp at h))<;>(try exact cz));all_goals simp[bq,kp,aX,aZ,aW]
    all_goals simp[fX]
def ig(o:Option (List bj)):aj:= .tuple [.slice 2 .no ((o.getD []).map bj.e),.bool o.isSome]
@[simp]theorem auk(S:aI->Prop)(o:Option (List bj)):aB S (ig o)=True:=by simp[ig]
theorem aag{l:List bj}(h:hN l):bC al 57 [.slice 2 .no (l.map bj.e)] (.bool true):=by have:=aaf l;simpa only[h,decide_true]using this
theorem aql{s:List dw}(h:iX s=true):bC al 128 [.str s] (.bool true):=by have:=uC s;rwa[h]at this
def Ea(l:List bj):List aj:=l.flatMap fun m=>[m.e,.bool true]
theorem W6(l:List bj):oI l= .hdm l.length (List.range l.length)::Ea l:=rfl
theorem Nh(b:Nat):∀(n:Nat) (l:List bj),nm b (List.range' n l.length) (Ea l)=(if n<=b then(l[b-n]?).map fun x=>.tuple [x.e,.bool true]else none)
 |n,[]=>by simp[nm,Ea]
 |n,x::r=>by
  have e:Ea (x::r)=x.e:: .bool true::Ea r:=rfl;simp only[oX,List.range'_succ,e,nm];by_cases h:n=b
  ·subst h;simp
  ·rw[if_neg h,Nh b (n+1) r];by_cases U:n<=b
   ·rw[if_pos U,if_pos Ω];have:b-n=(b-(n+1))+1:=Ω
    rw[this];simp
   ·rw[if_neg U,if_neg Ω]
@[simp]theorem au2(l:List bj):gr (oI l)=false:=rfl
@[simp]theorem ava(m:aI)(l:List bj):xF m (oI l)=some (bP l.length [] m):=rfl
theorem akx(f:aI->Option (List aj))(eY mk:aI)(n:Nat)(seen:List Nat)(b:Nat)(l:List bj)(x:bj)(hi:f eY=some (bP n (seen++[b]) mk))(hm:f mk=some (oI l))(ax:n=l.length)(ab:l[b]? =some x):oJ f (.ptr eY 0)=some (True,.tuple [x.e,.bool true]):=by subst ax;simp only[Xg,hi,hm,bP,W6,List.getLast?_append,List.getLast?_singleton,Option.some_or,List.range_eq_range',Nh,Nat.zero_le,if_true,Nat.sub_zero,Option.map_map];simp[ab]
theorem adr{st:bu}{d:Nat}{K:bu->Prop}{eY mk:aI}{n:Nat}{seen:List Nat}{l:List bj}(hi:Pv.look eY st.b=some (bP n seen mk))(hm:Pv.look mk st.b=some (oI l))(ax:n=l.length)
  (J:(∀b,b<l.length->b∈seen)->K {st with t:=Pv.put d (.tuple [.bool false]) st.t}) (U:∀b x,l[b]? =some x->b∉seen->K {st with t:=Pv.put d (.tuple [.bool true,x.e,.bool true]) st.t,b:=cA eY (bP n (seen++[b]) mk) st.b}):
  r9 st d (.ptr eY 0) K:=by
 subst ax;simp only[r9,hi,bP,hm,W6,NC,and_self,true_and];refine⟨fun h=>J fun b af=>h b (by simpa using af),fun b k v yQ af=>?_⟩;rw[List.range_eq_range',Nh]at yQ;simp only[Nat.zero_le,if_true,Nat.sub_zero,hf,aj.tuple.injEq,oW,and_true]at yQ;obtain⟨x,ak,aD,bh⟩:=yQ;subst aD bh;exact U b x ak af
theorem akr{m x:bj}{l:List bj}:x∈lx m l↔x=m\/x∈l:=by
 unfold lx;split
 ·constructor
  ·exact .inr
  ·rintro(rfl|h)<;>assumption
 ·simp[or_comm]
theorem abH{m:bj}{l:List bj}(h:l.Nodup):(lx m l).Nodup:=by
 unfold lx;split
 ·exact h
 ·rw[List.nodup_append];exact⟨h,Ψ,fun a bD b af=>by simp at af;subst af;intro e;subst e;contradiction⟩
theorem abG(m:bj)(l:List bj):(lx m l).length<=l.length+1:=by unfold lx;split<;>simp
theorem agq(s:List dw)(t:T):∀l:List bj,(t.fold (fun v l=>lx ⟨v,s⟩ l) l).length<=l.length+t.size:=by
 induction t with
 |var n=>intro l;simp only[T.fold,T.size];exact abG _ _
 |pair a b dG dK=>intro l;simp only[T.fold,T.size];have:=dG l;have:=dK (a.fold (fun v l=>lx ⟨v,s⟩ l) l);omega
 |_=>intro l;simp[T.fold,T.size]
theorem agr(s:List dw)(t:T):∀{l:List bj},l.Nodup->(t.fold (fun v l=>lx ⟨v,s⟩ l) l).Nodup:=by
 induction t with
 |var n=>intro l h;exact abH h
 |pair a b dG dK=>intro l h;exact dK (dG h)
 |_=>intro l h;exact h
theorem aks(s:List dw)(t:T)(x:bj):∀{l:List bj},x∈t.fold (fun v l=>lx ⟨v,s⟩ l) l↔x∈l\/(x.s=s/\t.occ x.v=true):=by
 induction t with
 |var n=>
  intro l;simp only[T.fold,akr,T.occ,eb];constructor
  ·rintro(rfl|h)
   ·exact .inr ⟨rfl,rfl⟩
   ·exact .inl h
  ·rintro(h|⟨J,U⟩)
   ·exact .inr h
   ·left;cases x;simp at J U;subst J U;rfl
 |pair a b dG dK=>
  intro l;simp only[T.fold,dK,dG,T.occ,lu];constructor
  ·rintro((h|h)|h)
   ·exact .inl h
   ·exact .inr ⟨h.1,.inl h.2⟩
   ·exact .inr ⟨h.1,.inr h.2⟩
  ·rintro(h|⟨J,U|U⟩)
   ·exact .inl (.inl h)
   ·exact .inl (.inr ⟨J,U⟩)
   ·exact .inr ⟨J,U⟩
 |_=>intro l;simp[T.fold,T.occ]
def ajy(M:List bj)(k:Nat)(st:bu):Prop:=∃(seen:List Nat) (xs:List bj),seen.Nodup/\(∀b∈seen,b<M.length)/\k=M.length-seen.length/\xs=seen.filterMap (fun b=>M[b]?)/\xs.length=seen.length/\st=⟨[(15,.ptr (.obj 815) 0),(63,.ptr (.loc 2) 0)],[(.obj 812,oI M),(.loc 2,bP M.length seen (.obj 812)),(.obj 815,[.row 2 (.obj 814) xs.length])],[(.obj 814,⟨xs.length,106,2,some (xs.map bj.e)⟩)],3,[.obj 815,.obj 814,.obj 813,.obj 812,.obj 811]⟩
theorem Z9{s:List ao}(ag:e5 s){l:List bj}(au:hN l)(yO:l.length<=68719470000)(t:T)(aJ:t.fit=true){g:List dw}(a7:iX g=true):
  bC al 54 [.slice 5 .no (s.map ao.e),.slice 2 .no (l.map bj.e),t.e,.str g] (ig (if(t.ap (bp s)).size<=5000 then j1 l (t.ap (bp s)) g else none)):=by
 have cE:=qn ag;have ds:=Fe aJ;have dg:=aag au;have ie:=aql a7;have fA:=Cs s t ag.len ag.sol.asc ag.fit;generalize ab:t.ap (bp s)=x at fA⊢;generalize du:(if x.size<=5000 then j1 l x g else none)=O;by_cases bz:x.size<=5000;rotate_left
 ·rw[if_neg bz]at du;rw[<-du];rw[if_neg bz,hQ bz]at fA;refine bc kr KT NI fun aM=>?_;unfold FN;simp;(with_reducible repeat' first|refine ai ?_|refine az cE ?_|refine aA cE ?_|refine az ds ?_|refine aA ds ?_|refine az dg ?_|refine aA dg ?_|refine az ie ?_|refine aA ie ?_|refine az fA ?_|refine aA fA ?_|simp);simp[bq,If,aX,aZ,aW];simp[ig]
 rw[if_pos bz]at du;rw[if_pos bz,gN bz]at fA;have Bs:=aqN g x;cases cZ:x.has g;rotate_left
 ·rw[cZ]at Bs;have ek:O=none:=by rw[<-du];unfold j1;rw[cZ];rfl
  rw[ek];refine bc kr KT NI fun aM=>?_;unfold FN;simp;(with_reducible repeat' first|refine ai ?_|refine az cE ?_|refine aA cE ?_|refine az ds ?_|refine aA ds ?_|refine az dg ?_|refine aA dg ?_|refine az ie ?_|refine aA ie ?_|refine az fA ?_|refine aA fA ?_|refine az Bs ?_|refine aA Bs ?_|simp);simp[bq,If,aX,aZ,aW];simp[ig]
 rw[cZ]at Bs;refine bc kr KT NI fun aM=>?_;unfold FN;simp;(with_reducible repeat' first|refine ai ?_|refine az cE ?_|refine aA cE ?_|refine az ds ?_|refine aA ds ?_|refine az dg ?_|refine aA dg ?_|refine az ie ?_|refine aA ie ?_|refine az fA ?_|refine aA fA ?_|refine az Bs ?_|refine aA Bs ?_|simp);have oE:l.Nodup:=h7.nodup mi au.asc;have gY:∀xs:List bj,xs.Perm (x.fold (fun v l=>lx ⟨v,g⟩ l) l)->O=some (pG fs xs):=fun xs bF=>by
  rw[<-du];refine JR cZ ?_ fun y=>?_
  ·have J:=Pc mi xs;have U:(pG fs xs).Nodup:=(((zL fs xs).trans bF).nodup_iff).2 (agr g x oE);exact(J.and U).imp fun{a b} h=>by have:=mt (mi.zero a b).1 h.2;omega
  ·rw[((zL fs xs).trans bF).mem_iff,aks]
 have hlen:(x.fold (fun v l=>lx ⟨v,g⟩ l) l).length<=68719475000:=by have:=agq g x l;omega
 rw[show jG []=oI []from rfl];refine gA (fun i (_:Unit)=>⟨[(7,.ptr (.obj 811) 0),(10,.ptr (.loc 1) 0),(12,.ptr (.obj 813) 0),(49,.slice 2 .no (l.map bj.e)),(50,.int .i64 l.length),(51,.int .i64 i)],[(.obj 811,[.str g]),(.loc 1,[.int .i64 x.kind,.int .i64 x.int,.str x.name,.slice 4 .no (x.args.map T.e)]),(.obj 812,oI (l.take i)),(.obj 813,[.gmap (.obj 812)])],[],2,[.obj 813,.obj 812,.obj 811]⟩) l.length (fun _ _=>True) () bT trivial (fun _ _ _=>?_) (fun i _ hi _ _=>?_)
 ·rw[je];simp;(with_reducible repeat' first|refine ai ?_|simp);have key:=Uo (o5 g) (Fy g) (JK g) 130 [.ptr (.obj 813) 0,.ptr (.obj 811) 0] (by intro a;simp[inObs,o5,Pv.look,aC,aB]) Ψ (fun v l=>lx ⟨v,g⟩ l) (fun v a=>agB g v a) x l;refine cV.ob key (Fy g l) (by unfold o5;exact aN) (by unfold o5;exact aN) (by simp[inObs,o5,Pv.look]) ?_;rintro r ah ⟨rfl,rfl⟩;refine⟨JK g _ _,?_⟩;unfold o5;generalize ei:x.fold (fun v l=>lx ⟨v,g⟩ l) l=M at gY hlen⊢;simp[cl];(with_reducible repeat' first|refine ai ?_|simp);refine tD (ajy M) M.length _ ⟨by simp[fresh,aC,aB,bP,inObs,Pv.look,Bu],dD (by simp[fresh,aC,aB,bP,inObs,Pv.look,Bu]),dE (by simp[fresh,aC,aB,dt,inObs,Pv.look,Bu]),Ψ⟩ ⟨[],[],Ψ,Ψ,Ψ,Ψ,Ψ,rfl⟩ ?_;rintro k st ⟨seen,xs,aR,bE,ad,VQ,jB,rfl⟩ p9 cR;clear p9 cR;have hle:=ET aR bE;simp;refine adr (mk:= .obj 812) (seen:=seen) (l:=M) Ψ Ψ rfl (fun k8=>?_) (fun b y aL af=>?_)
  ·have sB:=IU aR bE k8;rw[<-VQ]at sB;have dX:=gY xs sB;simp;(with_reducible repeat' first|refine ai ?_|simp);have key:=ahh xs Ω;have ef:=JH xs;unfold x7 dS at key ef;refine cV.ob key ef aN aN (by simp[inObs,Pv.look]) ?_;rintro r ah ⟨rfl,rfl⟩;refine⟨Same.keys Ψ Ψ,?_⟩;rw[dX];simp[cl];(with_reducible repeat' first|refine ai ?_|simp);simp[bq,If,aX,aZ,aW];simp[ig]
  ·have wY:∀f:aI->Option (List aj),f (.loc 2)=some (bP M.length (seen++[b]) (.obj 812))->f (.obj 812)=some (oI M)->oJ f (.ptr (.loc 2) 0)=some (True,.tuple [y.e,.bool true]):=fun f J U=>akx f (.loc 2) (.obj 812) M.length seen b M y J U rfl aL;have fw:b<M.length:=(eV.1 aL).1;have qd:=IW aR bE fw af;simp[wY];(with_reducible repeat' first|refine ai ?_|simp[wY]);all_goals first|(refine⟨by unfold lim;omega,?_⟩)|skip
   have yL:∀S:aI->Prop,aC S (xs.map bj.e++[y.e])=True:=fun S=>by
    have e:xs.map bj.e++[y.e]=(xs++[y]).map bj.e:=by simp
    rw[e];simp[-rT]
   refine bK.next (M.length-(seen.length+1)) Ω ⟨seen++[b],xs++[y],HV aR af,(by simp;intro c aw;rcases aw with aw|rfl;exact bE c aw;exact fw),Ψ,by rw[List.filterMap_append,<-VQ];simp[aL],by simp[jB],rfl⟩ ⟨by simp[fresh,aC,aB,bP,inObs,Pv.look,Bu,yL],dD (by simp[fresh,aC,aB,bP,inObs,Pv.look,Bu,yL]),dE (by simp[fresh,aC,aB,dt,inObs,Pv.look,Bu,yL]),Ψ⟩
 ·obtain⟨b,af,cD⟩:=eh hi;have kS:lx b (l.take i)=l.take (i+1):=by
   have J:b∉l.take i:=fun h=>by
    obtain⟨j,ae,e⟩:=og h;have gq:j<i:=by simp at ae;omega
    rw[List.getElem_take]at e;have:=(List.nodup_iff_pairwise_ne.1 oE);exact(qo.1 this j i Ω hi gq) (by rw[e,cD])
   rw[lS,af];simp[lx,J]
  exact hE
def Ri:C:=(aa [a8 4 false] (.seq (aa [I 7 0,ca 8 7,bS 9 0] (e0 10 9 8 (.seq (.block 1 (aa [cf 11 5 7 9,aY 12 5 11,c1 6 jF,bB 5 6 12] (aa [aE 13 0 1 6,av 14 1 13,I 15 1,bk 16 .geq 14 15,I 17 16,aq 17 false (eO 18 1 4 6),aq 17 false (aY 19 4 18),ys 17 false (.bsl 20 4 32 [.t 19]),aq 17 false (cB 21 116 20),cb 17 false 22 1,aq 17 false (bk 23 .gtr 21 22),cW 24 17 23] (aT 24 (aa [a8 4 false] .ret) .skip)))) (.region [aV 25 .add 9 1,I 9 25])))) (aa [a8 4 true] .ret)))
@[simp] def anO:List bO:=[.tmp 4]
def Rh:C:=(aa [bS 2 0] (.seq (aa [I 6 0,cB 7 68 6,cj 8 7] (aT 8 (aa [bS 2 (-1)] .ret) .skip)) (aa [cP (.alloc 3 (some 831) (.int .i64 0)),cP (.store 1 (.t 3) (gd 0))] (.seq (aa [I 9 0,ca 10 9,bS 11 0] (e0 12 11 10 (.seq (.block 1 (aa [cf 13 4 9 11,aY 14 4 13,c1 5 dH,bB 4 5 14] (.region [aY 15 4 5,b5 16 (.mkf 193 [.t 3]),b2 17 129 15 16]))) (.region [aV 18 .add 11 1,I 11 18])))) (aa [av 19 1 3,I 2 19] .ret)))))
@[simp] def anM:List bO:=[.tmp 2]
def Rb:C:=(aa [er 4 2,a8 5 false] (.seq (aa [I 11 0,cB 12 55 11,cj 13 12,I 14 13,cb 14 false 15 1,aq 14 false (cB 16 56 15),aq 14 false (cj 17 16),cW 18 14 17] (aT 18 (aa [er 4 2,a8 5 false] .ret) .skip)) (aa [eI 19 2 104 [],I 6 19] (.seq (.seq (.fg false 6 (.region [I 20 1,ca 21 20,bS 22 0])) (e0 23 22 21 (.seq (.block 1 (aa [cf 24 2 20 22,aY 25 2 24,cP (.alloc 8 none (.agg [.int .i64 0,.int .i64 0])),bB 2 8 25] (.seq (.drawn true 42 [I 27 0,I 28 6,aE 29 0 1 8,av 30 1 29,cB 31 96 30,aE 32 1 1 8,av 33 1 32,dn 34 52 [.t 27,.t 28,.t 31,.t 33],I 26 34,cr 35 0 26,cr 36 1 26,I 9 35,I 10 36]) (.seq (aa [I 37 10,cj 38 37] (aT 38 (aa [er 4 2,a8 5 false] .ret) .skip)) (.region [I 39 9,I 6 39]))))) (.region [aV 40 .add 22 1,I 22 40])))) (aa [I 41 6,I 4 41,a8 5 true] .ret)))))
@[simp] def Og:List bO:=[.tmp 4,.tmp 5]
def Rc:C:=(aa [er 4 2,a8 5 false] (.seq (aa [I 11 0,cB 12 55 11,cj 13 12,I 14 13,cb 14 false 15 1,aq 14 false (cB 16 57 15),aq 14 false (cj 17 16),cW 18 14 17] (aT 18 (aa [er 4 2,a8 5 false] .ret) .skip)) (aa [eI 19 2 106 [],I 6 19] (.seq (.seq (.fg false 6 (.region [I 20 1,ca 21 20,bS 22 0])) (e0 23 22 21 (.seq (.block 1 (aa [cf 24 2 20 22,aY 25 2 24,cP (.alloc 8 none (.agg [.int .i64 0,.str []])),bB 2 8 25] (.seq (.drawn true 42 [I 27 0,I 28 6,aE 29 0 1 8,av 30 1 29,cB 31 96 30,aE 32 1 1 8,av 33 1 32,dn 34 54 [.t 27,.t 28,.t 31,.t 33],I 26 34,cr 35 0 26,cr 36 1 26,I 9 35,I 10 36]) (.seq (aa [I 37 10,cj 38 37] (aT 38 (aa [er 4 2,a8 5 false] .ret) .skip)) (.region [I 39 9,I 6 39]))))) (.region [aV 40 .add 22 1,I 22 40])))) (aa [I 41 6,I 4 41,a8 5 true] .ret)))))
@[simp] def Oh:List bO:=[.tmp 4,.tmp 5]
def Q8:C:=(aa [er 2 1] (.seq (aa [I 12 0,ca 13 12,bS 14 0] (e0 15 14 13 (.seq (.block 1 (aa [cf 16 1 12 14,av 17 1 16,I 4 17] (aa [I 18 4,cB 19 55 18,cj 20 19] (aT 20 (aa [er 2 1] .ret) .skip)))) (.region [aV 21 .add 14 1,I 14 21])))) (aa [cP (.bslm 22 (some 821) 1 23 []),I 23 0,cP (.appm 24 none 1 23 (.t 22) (.t 23)),cP (.alloc 5 (some 822) (.slice 1 .nil [])),bB 1 5 24] (aa [av 25 1 5,b5 26 (.mkif 24 (.t 25)),b5 27 (.mkf 203 [.t 5]),b2 28 202 26 27] (aa [eI 29 1 23 [],I 6 29] (.seq (aa [av 30 1 5,ca 31 30,bS 32 0] (.block 2 (.loop (aa [bk 33 .lss 32 31] (.seq (aT 33 .skip (.exit 2)) (.seq (.block 3 (aa [I 34 32,cf 35 1 30 32,av 36 1 35,I 7 34,I 8 36] (.seq (aa [I 37 7,aV 38 .gtr 37 0,I 39 38,aq 39 true (av 40 1 5),cb 39 true 41 7,aq 39 true (aV 42 .sub 41 1),aq 39 true (cf 43 1 40 42),aq 39 true (av 44 1 43),cb 39 true 45 8,aq 39 true (b2 46 204 44 45),aq 39 true (aV 47 .eql 46 0),dL 48 39 47] (aT 48 (.exit 3) .skip)) (aa [a8 9 true] (.seq (aa [av 49 1 5,ca 50 49,bS 51 0] (.block 4 (.loop (aa [bk 52 .lss 51 50] (.seq (aT 52 .skip (.exit 4)) (.seq (.block 5 (aa [cf 53 1 49 51,av 54 1 53,I 11 54] (aa [I 55 11,I 56 8,b2 57 204 55 56,aV 58 .neq 57 0,I 59 58,cb 59 true 60 11,cb 59 true 61 8,aq 59 true (b2 62 205 60 61),dL 63 59 62] (aT 63 (.region [a8 9 false]) .skip)))) (.region [aV 64 .add 51 1,I 51 64]))))))) (aa [I 65 9] (aT 65 (.region [I 66 6,I 67 8,cB 68 119 67,eI 69 1 23 [.t 68],h6 70 1 23 66 69,I 6 70]) .skip))))))) (.region [aV 71 .add 32 1,I 32 71]))))))) (aa [I 72 6,I 2 72] .ret)))))))
@[simp] def anH:List bO:=[.tmp 2]
def Ka:C:=(.region [av 3 1 1,I 4 0,aV 5 .add 4 1,b5 6 (.max2 (.t 3) (.t 5)),bB 1 1 6])
@[simp] def Oj:List bO:=[]
def Q9:C:=(aa [a8 5 false] (.seq (.drawn true 16 [av 6 1 2,I 7 0,cf 8 1 6 7,av 9 1 8,av 10 1 2,I 11 1,cf 12 1 10 11,av 13 1 12,b2 14 204 9 13,aV 15 .lss 14 0,I 5 15]) .ret))
@[simp] def Yl:List bO:=[.tmp 5]
def xP:List (Nat×dN):=[
 (3,⟨1,8,.int .i64,.int .i64 0⟩),
 (9,⟨1,16,.str,.str []⟩),
 (23,⟨1,24,.slice 61,.slice 5 .nil []⟩),
 (24,⟨1,24,.slice 23,.slice 1 .nil []⟩),
 (25,⟨1,24,.slice 104,.slice 2 .nil []⟩),
 (26,⟨1,24,.slice 106,.slice 2 .nil []⟩),
 (30,⟨1,24,.slice 32,.slice 4 .nil []⟩),
 (32,⟨4,56,.struct [(0,3),(1,3),(2,9),(3,30)],.agg [.int .i64 0,.int .i64 0,.str [],.slice 4 .nil []]⟩),
 (61,⟨5,64,.struct [(0,3),(1,32)],.agg [.int .i64 0,.int .i64 0,.int .i64 0,.str [],.slice 4 .nil []]⟩),
 (104,⟨2,16,.struct [(0,3),(1,3)],.agg [.int .i64 0,.int .i64 0]⟩),
 (106,⟨2,24,.struct [(0,3),(1,9)],.agg [.int .i64 0,.str []]⟩)]
theorem xS:fY al xP=true:=by kernel_rfl
theorem aly:bZ xP Ri anO 2 Tryz.f58=true:=by kernel_rfl
theorem aey:al.funcs[(58:Nat)]? =some Tryz.f58:=Tryz.func58
theorem alx:bZ xP Rh anM 1 Tryz.f116=true:=by kernel_rfl
theorem aex:al.funcs[(116:Nat)]? =some Tryz.f116:=Tryz.func116
theorem alr:bZ xP Rb Og 2 Tryz.f120=true:=by kernel_rfl
theorem aes:al.funcs[(120:Nat)]? =some Tryz.f120:=Tryz.func120
theorem als:bZ xP Rc Oh 2 Tryz.f121=true:=by kernel_rfl
theorem aet:al.funcs[(121:Nat)]? =some Tryz.f121:=Tryz.func121
theorem alo:bZ xP Q8 anH 1 Tryz.f124=true:=by kernel_rfl
theorem aep:al.funcs[(124:Nat)]? =some Tryz.f124:=Tryz.func124
theorem XH:bZ xP Ka Oj 2 Tryz.f193=true:=by kernel_rfl
theorem TR:al.funcs[(193:Nat)]? =some Tryz.f193:=Tryz.func193
theorem alp:bZ xP Q9 Yl 3 Tryz.f203=true:=by kernel_rfl
theorem aeq:al.funcs[(203:Nat)]? =some Tryz.f203:=Tryz.func203
def V8(s:List ao)(l:List bN)(i:Nat)(a:List bN):Prop:=jE a/\gx s (l.drop i) a=gx s l []
theorem aah{s:List ao}(ag:e5 s){l:List bN}(au:jE l):bC al 120 [.slice 5 .no (s.map ao.e),.slice 2 .no (l.map bN.e)] (fX (gx s l [])):=by
 have yO:=rv au;have cE:=qn ag;have dx:=aae au;refine bc xS aes alr fun aM=>?_;unfold Rb;simp;(with_reducible repeat' first|refine ai ?_|refine az cE ?_|refine aA cE ?_|refine az dx ?_|refine aA dx ?_|simp);refine dO [0,20,21] (fun i (a:List bN)=>[(6,.slice 2 .no (a.map bN.e)),(22,.int .i64 i)]) l.length (V8 s l) [] bT ⟨⟨Ψ,Ψ⟩,rfl⟩ (fun a ae _=>?_) (fun i a hi ae _=>?_)
 ·obtain⟨_,ae⟩:=ae;rw[List.drop_length]at ae;simp only[gx]at ae;rw[<-ae];simp;(with_reducible repeat' first|refine ai ?_|simp);simp[bq,Og,aX,aZ,aW];simp[fX]
 ·obtain⟨bD,ae⟩:=ae;obtain⟨b,af,cD⟩:=eh hi;have pj:=au.at' b (dV af);rw[lR hi,cD]at ae;simp only[gx]at ae;have dv:=aaa ag bD (.var b.v) (by simp[T.fit,T.ok,T.size,pj.1]) b.k;have bz:((T.var b.v).ap (bp s)).size<=5000:=EW ag b.v;rw[if_pos ⟨pj.2,bz⟩,show(T.var b.v).ap (bp s)=bp s b.v from rfl]at dv;simp[hi,cD];cases ek:jk a (bp s b.v) b.k with
  |none=>rw[ek]at ae dv;simp only at ae;rw[<-ae];simp only[fX]at dv;(with_reducible repeat' first|refine ai ?_|refine az (kI _) ?_|refine aA (kI _) ?_|refine az dv ?_|refine aA dv ?_|simp[cD,hi]);simp[bq,Og,aX,aZ,aW];simp[fX]
  |some bs=>rw[ek]at ae dv;simp only[fX]at dv;(with_reducible repeat' first|refine ai ?_|refine az (kI _) ?_|refine aA (kI _) ?_|refine az dv ?_|refine aA dv ?_|simp[cD,hi]);exact bK.rng bs hi ⟨FD bD (Cd ag pj.1) pj.2 ek,ae⟩ bT
def V9(s:List ao)(G:List (List dw))(l:List bj)(i:Nat)(a:List bj):Prop:=hN a/\n7 G a/\gy s (l.drop i) a=gy s l []
theorem aai{s:List ao}(ag:e5 s){l:List bj}(au:hN l){G:List (List dw)}(iI:G.length<=687000)(a7:n7 G l):bC al 121 [.slice 5 .no (s.map ao.e),.slice 2 .no (l.map bj.e)] (ig (gy s l [])):=by
 have hlen:∀{a:List bj},hN a->n7 G a->a.length<=68719470000:=fun J U=>by have:=Eb J U;omega
 have yO:=hlen au a7;have cE:=qn ag;have dx:=aag au;refine bc xS aet als fun aM=>?_;unfold Rc;simp;(with_reducible repeat' first|refine ai ?_|refine az cE ?_|refine aA cE ?_|refine az dx ?_|refine aA dx ?_|simp);refine dO [0,20,21] (fun i (a:List bj)=>[(6,.slice 2 .no (a.map bj.e)),(22,.int .i64 i)]) l.length (V9 s G l) [] bT ⟨⟨Ψ,by simp[h7]⟩,fun x ab=>by simp at ab,rfl⟩ (fun a ae _=>?_) (fun i a hi ae _=>?_)
 ·obtain⟨_,_,ae⟩:=ae;rw[List.drop_length]at ae;simp only[gy]at ae;rw[<-ae];simp;(with_reducible repeat' first|refine ai ?_|simp);simp[bq,Oh,aX,aZ,aW];simp[ig]
 ·obtain⟨bD,DQ,ae⟩:=ae;obtain⟨b,af,cD⟩:=eh hi;have pj:=au.at' b (dV af);have LK:=a7 b (dV af);rw[lR hi,cD]at ae;simp only[gy]at ae;have dv:=Z9 ag bD (hlen bD DQ) (.var b.v) (by simp[T.fit,T.ok,T.size,pj.1]) pj.2;have bz:((T.var b.v).ap (bp s)).size<=5000:=EW ag b.v;rw[if_pos bz,show(T.var b.v).ap (bp s)=bp s b.v from rfl]at dv;simp[hi,cD];cases ek:j1 a (bp s b.v) b.s with
  |none=>rw[ek]at ae dv;simp only at ae;rw[<-ae];simp only[ig]at dv;(with_reducible repeat' first|refine ai ?_|refine az (kI _) ?_|refine aA (kI _) ?_|refine az dv ?_|refine aA dv ?_|simp[cD,hi]);simp[bq,Oh,aX,aZ,aW];simp[ig]
  |some bs=>rw[ek]at ae dv;simp only[ig]at dv;(with_reducible repeat' first|refine ai ?_|refine az (kI _) ?_|refine aA (kI _) ?_|refine az dv ?_|refine aA dv ?_|simp[cD,hi]);exact bK.rng bs hi ⟨FE bD (Cd ag pj.1) pj.2 ek,FF DQ LK ek,ae⟩ bT
end
section
open Go Go.Pv Go.Lib
def cO(d:List ao):aj:= .slice 5 .no (d.map ao.e)
@[simp]theorem at5(S:aI->Prop)(d:List ao):aB S (cO d)=True:=by simp[cO]
@[simp]theorem asg(d:List ao):cells (cO d)=[cO d]:=rfl
@[simp]theorem avs(d:List ao):eT (cO d)=true:=rfl
@[simp]theorem avQ(d:List ao):dz (cO d)=cO d:=by simp[cO]
theorem Tx:∀(S:aI->Prop) (x:List ao),aB S (cO x):=fun S x=>by simp
theorem MX(S:aI->Prop):∀l:List (List ao),aC S (l.map cO)
 |[]=>by simp[aC]
 |x::xs=>by simp[aC,MX S xs]
@[simp]theorem WH(S:aI->Prop)(l:List (List ao)):aC S (l.map cO)=True:=eq_true (MX S l)
@[simp]theorem Ph:∀l:List (List ao),c6 (l.map cO)=l.map cO
 |[]=>rfl
 |x::xs=>by simp[c6,Ph xs]
def gl(d:List c3):aj:= .slice 5 .no (d.map c3.e)
@[simp]theorem asi(d:List c3):cells (gl d)=[gl d]:=rfl
@[simp]theorem avu(d:List c3):eT (gl d)=true:=rfl
theorem KF(d:List ao):gl (d.map ao.b)=cO d:=by simp only[gl,cO,zf]
theorem KG(l:List (List ao)):(l.map fun d=>d.map ao.b).map gl=l.map cO:=by rw[List.map_map];exact List.map_congr_left fun d _=>KF d
@[simp]theorem at8(S:aI->Prop)(d:List c3):aB S (gl d)=True:=by simp[gl]
@[simp]theorem avT(d:List c3):dz (gl d)=gl d:=by simp[gl]
theorem WJ(S:aI->Prop):∀l:List (List c3),aC S (l.map gl)
 |[]=>by simp[aC]
 |x::xs=>by simp[aC,WJ S xs]
@[simp]theorem at0(S:aI->Prop)(l:List (List c3)):aC S (l.map gl)=True:=eq_true (WJ S l)
abbrev uO(l:List (List ao)):cL:=dS cO 821 822 23 1 l
theorem JE(l:List (List ao)):dW (uO l):=wq Tx l
theorem agF(l:List (List ao))(au:l.length<=68719476736)(i j:Nat)(x y:List ao)(hi:l[i]? =some x)(ae:l[j]? =some y):bI al 203 [.int .i64 i,.int .i64 j,.ptr (.obj 822) 0] (uO l) fun r ah=>r= .bool (h5 eM x y)/\ah=uO l:=by have ag:=JE l;obtain⟨la,fO⟩:=eV.1 hi;obtain⟨dj,oC⟩:=eV.1 ae;have aS:bC al 204 [cO x,cO y] (.int .i64 (eM x y)):=Jp x y;unfold uO dS at ag⊢;refine bI.mk mixed xS aeq alp Ψ ag.obj fun aM cR=>?_;unfold Q9;simp[la,dj,fO,oC];(with_reducible repeat' first|refine ai ?_|refine az aS ?_|refine aA aS ?_|simp[la,dj,fO,oC]);refine cH.at _ (.inl rfl) ag (Same.refl _) aN aN ?_;simp[cN,Yl,aX,aZ,aW,h5]
noncomputable def Tryz.dsT:TypeInfo:=(al.info? 24).get co
noncomputable def Tryz.dsE:TypeInfo:=(al.info? 23).get co
theorem Tryz.dsK(n:Nat)(U:2<=n):Lib.swapperK n Tryz.dsE 23=9:=by
 have a:Tryz.dsE.hasPointers=true:=by kernel_rfl
 have b:Tryz.dsE.bytes=24:=by kernel_rfl
 have c:(n==0)=false:=by simp;omega
 have d:(n==1)=false:=by simp;omega
 simp[Lib.swapperK,a,b,c,d]
theorem ahf(l:List (List ao))(au:l.length<=68719476736):bI al 202 [.iface 24 (.row 1 (.obj 821) l.length),.func 203 [.ptr (.obj 822) 0]] (uO l) fun r ah=>r= .tuple []/\ah=uO (pG eM l):=by
 refine(agI Tx (K:=821) (B:=822) (sz:=1) 24 Tryz.dsT Tryz.dsE co co co co 23 (fun _=>by kernel_rfl) Tryz.dsK 203 (h5 eM) mh.ltOk l au (fun a1 h i j x y hi ae=>agF a1 Ω i j x y hi ae) (fun a1 h i j hi ae=>?_)).mono ?_
 ·have:=Uz (P:=al) false 257 (fun args W=>run_callFunc_extern Tryz.func257 co co co (e:=Cw false) co args W)
   23 Tryz.dsE co (.inr ⟨by kernel_rfl,fun _=>by kernel_rfl⟩) (JE a1) (K:=821) (n:=l.length) (el:=23) (sz:=1) co (xs:=a1.map cO) (by simp[dS,Pv.look,h]) i j hi ae
  refine this.mono ?_;rintro r ah ⟨rfl,rfl⟩;refine⟨rfl,?_⟩;simp[dS,cA,W3,h]
 ·rintro r ah ⟨rfl,a1,rfl,J,U⟩;exact⟨rfl,by rw[ZC mh J U]⟩
end
section
open Go Go.Pv
inductive ht where
 |s (l:List dw)
 |b (x:ByteArray)
def ht.e:ht->aj
 | .s l=>.str l
 | .b x=>.cst (.string x)
def ht.len:ht->Int
 | .s l=>l.length
 | .b x=>x.size
def nu(n:Nat):Prop:=lim<n/\n<=9223372036854775807
def ht.wf:ht->Prop
 | .s _=>True
 | .b x=>nu x.size
inductive c4 (α:Type) where
 |l (xs:List α)
 |b (p:Option Addr) (n cap:Nat)
def c4.e{α:Type}(sz:Nat)(f:α->aj):c4 α->aj
 | .l xs=>.slice sz .no (xs.map f)
 | .b p n cap=>.cst (.slice p n cap)
def c4.wf{α:Type}(P:α->Prop):c4 α->Prop
 | .l xs=> ∀x∈xs,P x
 | .b _ n _=>nu n
inductive cq where
 |mk (k n:Int) (s:ht) (a:List cq)
 |big (k n:Int) (s:ht) (p:Option Addr) (len cap:Nat)
mutual
def cq.e:cq->aj
 | .mk k n s a=>.agg [.int .i64 k,.int .i64 n,s.e,.slice 4 .no (cq.eL a)]
 | .big k n s p len cap=>.agg [.int .i64 k,.int .i64 n,s.e,.cst (.slice p len cap)]
def cq.eL:List cq->List aj
 |[]=>[]
 |x::xs=>x.e::cq.eL xs
end
theorem cq.eL_map:∀l,cq.eL l=l.map cq.e
 |[]=>rfl
 |x::xs=>by simp[cq.eL,cq.eL_map xs]
def cq.kind:cq->Int| .mk k _ _ _=>k| .big k _ _ _ _ _=>k
def cq.num:cq->Int| .mk _ n _ _=>n| .big _ n _ _ _ _=>n
def cq.name:cq->ht| .mk _ _ s _=>s| .big _ _ s _ _ _=>s
def cq.args:cq->c4 cq| .mk _ _ _ a=>.l a| .big _ _ _ p l c=>.b p l c
theorem cq.e_eq(t:cq):t.e= .agg [.int .i64 t.kind,.int .i64 t.num,t.name.e,t.args.e 4 cq.e]:=by
 cases t with
 |mk k n s a=>simp only[cq.e,cq.eL_map];rfl
 |big=>rfl
@[simp]theorem auc(S:aI->Prop)(s:ht):aB S s.e=True:=by cases s<;>simp[ht.e,aB]
@[simp]theorem avW(s:ht):dz s.e=s.e:=by cases s<;>simp[ht.e,dz]
mutual
theorem WM(S:aI->Prop):∀t:cq,aB S t.e
 | .mk k n s a=>by simp[cq.e,aB,aC,MY S a]
 | .big k n s p l c=>by simp[cq.e,aB,aC]
theorem MY(S:aI->Prop):∀l:List cq,aC S (cq.eL l)
 |[]=>by simp[cq.eL,aC]
 |x::xs=>by simp[cq.eL,aC,WM S x,MY S xs]
end
mutual
theorem ZH:∀t:cq,dz t.e=t.e
 | .mk k n s a=>by simp[cq.e,dz,c6,Pj a]
 | .big k n s p l c=>by simp[cq.e,dz,c6]
theorem Pj:∀l:List cq,c6 (cq.eL l)=cq.eL l
 |[]=>by simp[cq.eL,c6]
 |x::xs=>by simp[cq.eL,c6,ZH x,Pj xs]
end
@[simp]theorem aun(S:aI->Prop)(t:cq):aB S t.e=True:=eq_true (WM S t)
@[simp]theorem atY(S:aI->Prop)(l:List cq):aC S (l.map cq.e)=True:=by rw[<-cq.eL_map];exact eq_true (MY S l)
@[simp]theorem av4(t:cq):dz t.e=t.e:=ZH t
@[simp]theorem avM(l:List cq):c6 (l.map cq.e)=l.map cq.e:=by rw[<-cq.eL_map];exact Pj l
@[simp]theorem atH(t:cq):Pv.isAgg 4 t.e:=by rw[cq.e_eq];exact⟨_,rfl,rfl⟩
@[simp]theorem aub(S:aI->Prop)(x:c4 cq):aB S (x.e 4 cq.e)=True:=by cases x<;>simp[c4.e,aB]
@[simp]theorem avV(x:c4 cq):dz (x.e 4 cq.e)=x.e 4 cq.e:=by cases x<;>simp[c4.e,dz]
mutual
def cq.sz:cq->Nat
 | .mk _ _ _ a=>1+cq.szL a
 | .big _ _ _ _ _ _=>1
def cq.szL:List cq->Nat
 |[]=>0
 |x::xs=>x.sz+cq.szL xs
end
theorem cq.szL_mem:∀{l:List cq} {x:cq},x∈l->x.sz<=cq.szL l
 |y::l,x,h=>by
  rcases fT.1 h with rfl|h
  ·simp[cq.szL]
  ·have:=cq.szL_mem h;simp[cq.szL];omega
mutual
def cq.wf:cq->Prop
 | .mk _ _ s a=>s.wf/\cq.wfL a
 | .big _ _ s _ l _=>s.wf/\nu l
def cq.wfL:List cq->Prop
 |[]=>True
 |x::xs=>x.wf/\cq.wfL xs
end
theorem cq.wfL_iff:∀{l:List cq},cq.wfL l↔∀x∈l,x.wf
 |[]=>by simp[cq.wfL]
 |x::l=>by simp[cq.wfL,cq.wfL_iff (l:=l)]
def kq{α:Type}(f:α->Int->Int):List α->Int->Int
 |[],m=>m
 |x::xs,m=>if f x m<0 then-1 else kq f xs (f x m)
def oP{α:Type}(f:α->Int->Int)(l:List α)(m:Int):Int:=if m-l.length<0 then-1 else kq f l (m-l.length)
def gV{α:Type}(f:α->Int->Int):c4 α->Int->Int
 | .l xs,m=>oP f xs m
 | .b _ _ _,_=> -1
theorem ZP{α:Type}{f:α->Int->Int}(aK:∀x m,0<=m-> -1<=f x m/\f x m<=m):∀(l:List α) (m:Int),0<=m-> -1<=kq f l m/\kq f l m<=m
 |[],m,h=>by simp only[kq];omega
 |x::xs,m,h=>by
  have J:=aK x m h;simp only[kq];split
  ·omega
  ·have U:=ZP aK xs (f x m) Ω;omega
theorem apU{α:Type}{f:α->Int->Int}(aK:∀x m,0<=m-> -1<=f x m/\f x m<=m)(l:List α)(m:Int)(h:0<=m): -1<=oP f l m/\oP f l m<=m:=by
 unfold oP;split
 ·omega
 ·have:=ZP aK l (m-l.length) Ω;omega
theorem ux{α:Type}{f:α->Int->Int}(aK:∀x m,0<=m-> -1<=f x m/\f x m<=m)(l:c4 α)(m:Int)(h:0<=m): -1<=gV f l m/\gV f l m<=m:=by
 cases l with
 |l xs=>exact apU aK xs m h
 |b=>simp only[gV];omega
mutual
def ik:cq->Int->Int
 | .mk _ _ s a,m=>if m-s.len<0 then-1 else if m-s.len-a.length<0 then-1 else uy a (m-s.len-a.length)
 | .big _ _ s _ _ _,m=>if m-s.len<0 then-1 else-1
def uy:List cq->Int->Int
 |[],m=>m
 |x::xs,m=>if ik x m<0 then-1 else uy xs (ik x m)
end
theorem ZR:∀(l:List cq) (m:Int),uy l m=kq ik l m
 |[],m=>rfl
 |x::xs,m=>by simp only[uy,kq,ZR xs]
theorem I8(t:cq)(m:Int):ik t m=if m-t.name.len<0 then-1 else gV ik t.args (m-t.name.len):=by
 cases t with
 |mk=>simp only[ik,gV,oP,ZR,cq.name,cq.args];rfl
 |big=>simp only[ik,gV,cq.name,cq.args];rfl
theorem ht.len_nn(s:ht):0<=s.len:=by cases s<;>simp[ht.len]
mutual
theorem wg:∀(t:cq) (m:Int),0<=m-> -1<=ik t m/\ik t m<=m
 | .mk _ _ s a,m,h=>by
  have:=s.len_nn;simp only[ik];split
  ·omega
  ·split
   ·omega
   ·have:=ZS a (m-s.len-a.length) Ω;omega
 | .big _ _ s _ _ _,m,h=>by simp only[ik];split<;>omega
theorem ZS:∀(l:List cq) (m:Int),0<=m-> -1<=uy l m/\uy l m<=m
 |[],m,h=>by simp only[uy];omega
 |x::xs,m,h=>by
  have J:=wg x m h;simp only[uy];split
  ·omega
  ·have U:=ZS xs (ik x m) Ω;omega
end
theorem ht.small{s:ht}(hw:s.wf){m:Int}(br:m<=1048576)(h:0<=m-s.len):∃l,s= .s l:=by
 cases s with
 |s l=>exact⟨l,rfl⟩
 |b x=>simp only[ht.wf,nu,lim]at hw;simp only[ht.len]at h;omega
mutual
def rO:bL->cq
 | .mk k n s a=>.mk k n (.s s) (Ci a)
def Ci:List bL->List cq
 |[]=>[]
 |x::xs=>rO x::Ci xs
end
mutual
theorem Px:∀t:bL,(rO t).e=enc t
 | .mk k n s a=>by simp only[rO,cq.e,enc,Z0 a];rfl
theorem Z0:∀l:List bL,cq.eL (Ci l)=p3 l
 |[]=>rfl
 |x::xs=>by simp only[Ci,cq.eL,p3,Px x,Z0 xs]
end
mutual
theorem Po:∀(t:cq) (m:Int),t.wf->m<=1048576->0<=m->0<=ik t m->∃u:bL,t=rO u
 | .mk k n s a,m,hw,J,br,h=>by
  simp only[cq.wf]at hw;simp only[ik]at h;have:=s.len_nn;split at h
  ·omega
  rename_i g;obtain⟨l,rfl⟩:=ht.small hw.1 J Ω;split at h
  ·omega
  obtain⟨b,af⟩:=ZT a _ hw.2 Ω Ω h;exact⟨.mk k n l b,by simp only[rO,af]⟩
 | .big _ _ s _ _ _,m,_,_,_,h=>by simp only[ik]at h;split at h<;>omega
theorem ZT:∀(l:List cq) (m:Int),cq.wfL l->m<=1048576->0<=m->0<=uy l m->∃u:List bL,l=Ci u
 |[],_,_,_,_,_=>⟨[],rfl⟩
 |x::xs,m,hw,J,br,h=>by
  simp only[cq.wfL]at hw;simp only[uy]at h;have U:=wg x m br;split at h
  ·omega
  obtain⟨u,hu⟩:=Po x m hw.1 J br Ω;obtain⟨v,aF⟩:=ZT xs _ hw.2 Ω Ω h;exact⟨u::v,by simp only[Ci,hu,aF]⟩
end
theorem ZQ{α β:Type}{f:α->Int->Int}{P:α->Prop}{g:β->α}(hle:∀x m,0<=m-> -1<=f x m/\f x m<=m)(ag:∀x m,P x->m<=1048576->0<=m->0<=f x m->∃y,x=g y):∀(l:List α) (m:Int),(∀x∈l,P x)->m<=1048576->0<=m->0<=kq f l m->∃u:List β,l=u.map g
 |[],_,_,_,_,_=>⟨[],rfl⟩
 |x::xs,m,hw,J,br,h=>by
  simp only[kq]at h;have U:=hle x m br;split at h
  ·omega
  obtain⟨u,hu⟩:=ag x m (hw x Ψ) J br Ω;obtain⟨v,aF⟩:=ZQ hle ag xs _ (fun y aL=>hw y (by simp[aL])) Ω Ω h;exact⟨u::v,by rw[gM,<-hu,<-aF]⟩
theorem I7{α β:Type}{f:α->Int->Int}{P:α->Prop}{g:β->α}(hle:∀x m,0<=m-> -1<=f x m/\f x m<=m)(ag:∀x m,P x->m<=1048576->0<=m->0<=f x m->∃y,x=g y)(l:c4 α)(m:Int)(hw:l.wf P)(J:m<=1048576)(br:0<=m)(h:0<=gV f l m):∃u:List β,l= .l (u.map g):=by
 cases l with
 |b=>simp only[gV]at h;omega
 |l xs=>
  simp only[gV,oP]at h;split at h
  ·omega
  obtain⟨u,hu⟩:=ZQ hle ag xs _ hw Ω Ω h;exact⟨u,by rw[hu]⟩
end
section
open Go Go.Pv Go.ChangeShapes Go.WideShapes Go.ChangeAt Go.RowKit Go.Deep
def r6(W:World):bg:=⟨fun b o=> ∃u,W.cell? ⟨b,o,none⟩=some u,fun _=>none,fun _=>none,fun _ _ _=>e8⟩
theorem WR(W:World)(b:Nat):∀(us:List Value) (off:Nat),(∀i u,us[i]? =some u->W.cell? ⟨b,off+i,none⟩=some u)->mf W (r6 W).A b off us
 |[],_,_=>trivial
 |u::us,off,h=>by
  have br:W.cell? ⟨b,off,none⟩=some u:=by simpa using h 0 u rfl
  exact⟨⟨⟨u,br⟩,br⟩,WR W b us (off+1) fun i e6 hu=>by have:=h (i+1) e6 (by simpa using hu);rwa[show off+(i+1)=off+1+i from by omega]at this⟩
section
variable {H:Type} {enc:gu×Value->H} {W:World} {spare:Nat->Bool} {held:Bool}
def reads(W:World)(p:aj)(cs:List Value):Prop:= ∃v:Value,v.cells.toList=cs/\bd W (r6 W) p v/\∀c∈cs,c.oneCell'=true
theorem zz{W:World}{b1:List aj}{cs:List Value}(h:dd W (r6 W) b1 cs):reads W (.agg b1) cs:=by
 refine⟨.agg cs.toArray,by simp[pP],by simp only[bd];exact⟨cs.toArray,rfl,by simpa using h⟩,?_⟩;have:∀(b1:List aj) (cs:List Value),dd W (r6 W) b1 cs->∀c∈cs,c.oneCell'=true:=by
  intro b1;induction b1 with
  |nil=>intro cs h;simp only[dd]at h;subst h;simp
  |cons p b1 bR=>
   intro cs h c aw;simp only[dd]at h;obtain⟨u,us,rfl,J,U⟩:=h;rcases fT.1 aw with rfl|aw
   ·exact J.2
   ·exact bR us U c aw
 exact this b1 cs h
def um(W:World)(p:aj)(v:Value):Prop:=bd W (r6 W) p v/\v.oneCell'=true/\v.cells= #[v]
theorem um.reads{W:World}{p:aj}{v:Value}(h:um W p v):reads W p [v]:=⟨v,by rw[h.2.2],h.1,fun c aw=>by simp at aw;subst aw;exact h.2.1⟩
theorem acj{W:World}{x9 ya k j:Nat}:W.cell? (((⟨x9,ya,none⟩:Addr).add k).add j)=W.cell? ⟨x9,ya+(k+j),none⟩:=by rw[add_add,Addr.add_lit]
theorem Cf{α:Type}{t e:gu}{sz:Nat}(f:α->aj)(Q:α->Prop)(aJ:al.underlying t=some (.slice e))(aw:al.cellsOf e=sz)(eC:0<sz){fuel:Nat}
  (ahY:∀n cs x,n<fuel->iC enc al W 0 spare held n e cs=some x->∃a:α,Q a/\reads W (f a) cs)
  {cs:List Value} {x:DataW H×List MemPlace} (h:iC enc al W 0 spare held fuel t cs=some x):∃l:c4 α,l.wf Q/\∃v,cs=[v]/\um W (l.e sz f) v:=by
 rcases DataW.trod_slice aJ h with⟨rfl,_⟩|⟨a,len,cap,elems,rest,n,rfl,rfl,_,_,au,hm,hlen,U6,_,_⟩
 ·refine⟨.l [],by simp[c4.wf],_,rfl,?_,rfl,rfl⟩;simp only[c4.e,mN,bd];exact⟨⟨none,0,rfl,Ψ,⟨by simp[maxLen],by simp[lim]⟩,.inl Ψ⟩,fun e=>(by cases e),fun g e=>(by cases e),fun _ _ e=>(by cases e),fun _ e=>(by cases e)⟩
 by_cases GI:lim<len
 ·refine⟨.b (some a) len cap,⟨GI,by unfold maxLen at hm;omega⟩,_,rfl,?_,rfl,rfl⟩;simp only[c4.e,bd]
 rcases Nat.eq_zero_or_pos len with rfl|fG
 ·refine⟨.l [],by simp[c4.wf],_,rfl,?_,rfl,rfl⟩;simp only[c4.e,mN,bd];exact⟨⟨some a,cap,rfl,Ψ,⟨hm,by simp[lim]⟩,.inl Ψ⟩,fun e=>(by cases e),fun g e=>(by cases e),fun _ _ e=>(by cases e),fun _ e=>(by cases e)⟩
 rw[aw]at U6;have hz:∀i,i<len->∃cs',cs'.length=sz/\(∀j,j<sz->W.cell? ((a.add (i*sz)).add j)=cs'[j]?)/\∃b:α,Q b/\reads W (f b) cs':=by intro i hi;have J:=U6 i hi;rw[b6 Ω]at J;obtain⟨cs',U,ar⟩:=kK.1 J;obtain⟨_,a6,b0⟩:=World.cells?_some U;exact⟨cs',a6,b0,ahY n cs' _ Ω ar⟩
 obtain⟨x9,ya,spot⟩:=a;have aiX:spot=none:=by obtain⟨cs',J,U,_⟩:=hz 0 fG;have ar:=U 0 eC;rw[b6 Ω]at ar;simpa[Addr.add]using World.cell?_spot ar
 subst aiX;have acr:∀d,d<=len->∃xs:List α,xs.length=d/\(∀x∈xs,Q x)/\∃us:List Value,us.length=d*sz/\dR W (r6 W) sz (xs.map f) us/\∀j u,us[j]? =some u->W.cell? ⟨x9,ya+((len-d)*sz+j),none⟩=some u:=by
  intro d;induction d with
  |zero=>intro _;exact⟨[],rfl,Ψ,[],Ψ,by simp[dR],Ψ⟩
  |succ d bR=>
   intro aR;obtain⟨xs,ak,aD,us,bh,dk,hy⟩:=bR Ω;obtain⟨cs',bM,cp,b,af,v,v1,v2,v3⟩:=hz (len-(d+1)) Ω;have hmul:(len-d)*sz=(len-(d+1))*sz+sz:=by rw[show len-d=(len-(d+1))+1 from by omega,Nat.succ_mul]
   refine⟨b::xs,by simp[ak],fun x ab=>?_,cs'++us,by rw[pQ,bM,bh,Nat.succ_mul];omega,?_,fun j u ae=>?_⟩
   ·rcases fT.1 ab with rfl|ab
    ·exact af
    ·exact aD x ab
   ·simp only[gM,dR];exact⟨v,us,by rw[v1],⟨v2,by rw[<-bM,<-v1];simp,by rw[v1];exact v3⟩,dk⟩
   ·rcases Nat.lt_or_ge j sz with bE|vo
    ·rw[List.getElem?_append_left Ω]at ae;have:=cp j bE;rw[acj]at this;rw[this];exact ae
    ·rw[List.getElem?_append_right Ω,bM]at ae;have:=hy (j-sz) u ae;rwa[show(len-d)*sz+(j-sz)=(len-(d+1))*sz+j from by omega]at this
 obtain⟨xs,ak,aD,us,bh,dk,hy⟩:=acr len (fc _);refine⟨.l xs,aD,_,rfl,?_,rfl,rfl⟩;simp only[c4.e,bd];refine⟨⟨some ⟨x9,ya,none⟩,cap,by rw[oh,ak],by rw[oh,ak];exact au,⟨hm,by rw[oh,ak];omega⟩,.inr ⟨x9,ya,us,rfl,WR W x9 us ya fun i u hu=>?_,dk⟩⟩,fun e=>(by cases e),fun g e=>(by cases e),fun _ _ e=>(by cases e),fun _ e=>(by cases e)⟩;have:=hy i u hu;simpa using this
end
end
section
open Go Go.Pv
def Kl:C:=(aa [bS 4 0] (aa [I 6 1,I 7 0,ca 8 7,bk 9 .sub 6 8,I 1 9] (.seq (aa [I 10 1,aV 11 .lss 10 0] (aT 11 (aa [bS 4 (-1)] .ret) .skip)) (.seq (aa [bS 5 0] (.block 0 (.loop (.seq (aa [I 12 5,I 13 0,ca 14 13,bk 15 .lss 12 14] (aT 15 .skip (.exit 0))) (.seq (.block 1 (aa [I 18 0,I 19 5,cf 20 4 18 19,aY 21 4 20,I 22 1,b2 23 85 21 22,I 1 23] (aa [I 24 1,aV 25 .lss 24 0] (aT 25 (aa [bS 4 (-1)] .ret) .skip)))) (.region [I 16 5,aV 17 .add 16 1,I 5 17])))))) (aa [I 26 1,I 4 26] .ret)))))
@[simp] def aoe:List bO:=[.tmp 4]
def Sa:C:=(aa [er 2 4] (aa [I 5 0,ca 6 5,cP (.mks 7 none 4 32 (.agg dH) (.t 6)),I 3 7] (.seq (aa [bS 4 0] (.block 0 (.loop (.seq (aa [I 8 4,I 9 0,ca 10 9,bk 11 .lss 8 10] (aT 11 .skip (.exit 0))) (.seq (.block 1 (.region [I 14 3,I 15 4,I 16 0,I 17 4,cf 18 4 16 17,aY 19 4 18,cB 20 87 19,cf 21 4 14 15,bB 4 21 20])) (.region [I 12 4,aV 13 .add 12 1,I 4 13])))))) (.seq (.pub 3 (.region [I 22 3,I 2 22])) .ret))))
@[simp] def aoo:List bO:=[.tmp 2]
def RX:C:=(aa [a8 4 false] (.seq (aa [I 6 0,ca 7 6,I 8 1,ca 9 8,bk 10 .neq 7 9] (aT 10 (aa [a8 4 false] .ret) .skip)) (.seq (aa [bS 5 0] (.block 0 (.loop (.seq (aa [I 11 5,I 12 0,ca 13 12,bk 14 .lss 11 13] (aT 14 .skip (.exit 0))) (.seq (.block 1 (.seq (.drawn true 27 [I 17 0,I 18 5,cf 19 4 17 18,aY 20 4 19,I 21 1,I 22 5,cf 23 4 21 22,aY 24 4 23,b2 25 90 20 24,cj 26 25]) (aT 26 (aa [a8 4 false] .ret) .skip))) (.region [I 15 5,aV 16 .add 15 1,I 5 16])))))) (aa [a8 4 true] .ret))))
@[simp] def an5:List bO:=[.tmp 4]
def Ak:C:=(aa [cC 2 0,bS 4 0] (aa [aE 5 1 1 2,av 6 1 5,I 7 1,b2 8 137 6 7,I 1 8] (.seq (aa [I 9 1,aV 10 .lss 9 0] (aT 10 (aa [bS 4 (-1)] .ret) .skip)) (aa [aE 11 2 1 2,av 12 1 11,I 13 1,b2 14 138 12 13,I 1 14] (.seq (aa [I 15 1,aV 16 .lss 15 0] (aT 16 (aa [bS 4 (-1)] .ret) .skip)) (aa [aE 17 3 1 2,av 18 1 17,I 19 1,b2 20 139 18 19,I 1 20] (.seq (aa [I 21 1,aV 22 .lss 21 0] (aT 22 (aa [bS 4 (-1)] .ret) .skip)) (aa [aE 23 4 1 2,av 24 1 23,I 25 1,b2 26 140 24 25,I 1 26] (.seq (aa [I 27 1,aV 28 .lss 27 0] (aT 28 (aa [bS 4 (-1)] .ret) .skip)) (aa [I 29 1,I 4 29] .ret))))))))))
@[simp] def aoc:List bO:=[.tmp 4]
def R8:C:=(aa [cC 1 0,c1 2 gJ] (aa [c1 3 gJ] (aa [aE 4 0 1 1,av 5 1 4,aE 6 0 1 3,bB 1 6 5] (aa [aE 7 1 1 1,av 8 1 7,cB 9 149 8,aE 10 1 1 3,bB 1 10 9] (aa [aE 11 2 1 1,av 12 1 11,cB 13 150 12,aE 14 2 1 3,bB 1 14 13] (aa [aE 15 3 1 1,av 16 1 15,cB 17 151 16,aE 18 3 1 3,bB 1 18 17] (aa [aE 19 4 1 1,av 20 1 19,cB 21 152 20,aE 22 4 1 3,bB 1 22 21] (aa [aY 23 5 3,bB 5 2 23] .ret))))))))
@[simp] def aom:List bO:=[.cell 2 true 5]
def RV:C:=(aa [cC 2 0,cC 3 1,a8 4 false] (.seq (aa [aE 5 0 1 2,av 6 1 5,aE 7 0 1 3,av 8 1 7,bk 9 .neq 6 8] (aT 9 (aa [a8 4 false] .ret) .skip)) (.seq (aa [aE 10 1 1 2,av 11 1 10,aE 12 1 1 3,av 13 1 12,b2 14 156 11 13,cj 15 14] (aT 15 (aa [a8 4 false] .ret) .skip)) (.seq (aa [aE 16 2 1 2,av 17 1 16,aE 18 2 1 3,av 19 1 18,b2 20 157 17 19,cj 21 20] (aT 21 (aa [a8 4 false] .ret) .skip)) (.seq (aa [aE 22 3 1 2,av 23 1 22,aE 24 3 1 3,av 25 1 24,b2 26 158 23 25,cj 27 26] (aT 27 (aa [a8 4 false] .ret) .skip)) (.seq (aa [aE 28 4 1 2,av 29 1 28,aE 30 4 1 3,av 31 1 30,b2 32 159 29 31,cj 33 32] (aT 33 (aa [a8 4 false] .ret) .skip)) (aa [a8 4 true] .ret)))))))
@[simp] def an3:List bO:=[.tmp 4]
def u0:C:=(aa [cC 2 0,bS 4 0] (aa [I 5 1,aE 6 2 1 2,av 7 1 6,b5 8 (.slen (.t 7)),bk 9 .sub 5 8,I 1 9] (.seq (aa [I 10 1,aV 11 .lss 10 0] (aT 11 (aa [bS 4 (-1)] .ret) .skip)) (aa [aE 12 3 1 2,av 13 1 12,I 14 1,b2 15 32 13 14,I 1 15] (.seq (aa [I 16 1,aV 17 .lss 16 0] (aT 17 (aa [bS 4 (-1)] .ret) .skip)) (aa [I 18 1,I 4 18] .ret))))))
@[simp] def aod:List bO:=[.tmp 4]
def R9:C:=(aa [cC 1 0,c1 2 dH] (aa [c1 3 dH] (aa [aE 4 0 1 1,av 5 1 4,aE 6 0 1 3,bB 1 6 5] (aa [aE 7 1 1 1,av 8 1 7,aE 9 1 1 3,bB 1 9 8] (aa [aE 10 2 1 1,av 11 1 10,aE 12 2 1 3,bB 1 12 11] (aa [aE 13 3 1 1,av 14 1 13,cB 15 34 14,aE 16 3 1 3,bB 1 16 15] (aa [aY 17 4 3,bB 4 2 17] .ret)))))))
@[simp] def aon:List bO:=[.cell 2 true 4]
def RW:C:=(aa [cC 2 0,cC 3 1,a8 4 false] (.seq (aa [aE 5 0 1 2,av 6 1 5,aE 7 0 1 3,av 8 1 7,bk 9 .neq 6 8] (aT 9 (aa [a8 4 false] .ret) .skip)) (.seq (aa [aE 10 1 1 2,av 11 1 10,aE 12 1 1 3,av 13 1 12,bk 14 .neq 11 13] (aT 14 (aa [a8 4 false] .ret) .skip)) (.seq (aa [aE 15 2 1 2,av 16 1 15,aE 17 2 1 3,av 18 1 17,bk 19 .neq 16 18] (aT 19 (aa [a8 4 false] .ret) .skip)) (.seq (aa [aE 20 3 1 2,av 21 1 20,aE 22 3 1 3,av 23 1 22,b2 24 36 21 23,cj 25 24] (aT 25 (aa [a8 4 false] .ret) .skip)) (aa [a8 4 true] .ret))))))
@[simp] def an4:List bO:=[.tmp 4]
def Ki:C:=(aa [bS 4 0] (aa [I 6 1,I 7 0,ca 8 7,bk 9 .sub 6 8,I 1 9] (.seq (aa [I 10 1,aV 11 .lss 10 0] (aT 11 (aa [bS 4 (-1)] .ret) .skip)) (.seq (aa [bS 5 0] (.block 0 (.loop (.seq (aa [I 12 5,I 13 0,ca 14 13,bk 15 .lss 12 14] (aT 15 .skip (.exit 0))) (.seq (.block 1 (aa [I 18 0,I 19 5,cf 20 5 18 19,aY 21 5 20,I 22 1,b2 23 213 21 22,I 1 23] (aa [I 24 1,aV 25 .lss 24 0] (aT 25 (aa [bS 4 (-1)] .ret) .skip)))) (.region [I 16 5,aV 17 .add 16 1,I 5 17])))))) (aa [I 26 1,I 4 26] .ret)))))
@[simp] def an8:List bO:=[.tmp 4]
def Kj:C:=(aa [bS 4 0] (aa [I 6 1,I 7 0,ca 8 7,bk 9 .sub 6 8,I 1 9] (.seq (aa [I 10 1,aV 11 .lss 10 0] (aT 11 (aa [bS 4 (-1)] .ret) .skip)) (.seq (aa [bS 5 0] (.block 0 (.loop (.seq (aa [I 12 5,I 13 0,ca 14 13,bk 15 .lss 12 14] (aT 15 .skip (.exit 0))) (.seq (.block 1 (aa [I 18 0,I 19 5,cf 20 1 18 19,av 21 1 20,I 22 1,b2 23 137 21 22,I 1 23] (aa [I 24 1,aV 25 .lss 24 0] (aT 25 (aa [bS 4 (-1)] .ret) .skip)))) (.region [I 16 5,aV 17 .add 16 1,I 5 17])))))) (aa [I 26 1,I 4 26] .ret)))))
@[simp] def an9:List bO:=[.tmp 4]
def F1:C:=(aa [bS 4 0] (aa [I 5 1,I 6 0,ca 7 6,bk 8 .sub 5 7,I 1 8] (.seq (aa [I 9 1,aV 10 .lss 9 0] (aT 10 (aa [bS 4 (-1)] .ret) .skip)) (aa [I 11 1,I 4 11] .ret))))
@[simp] def aof:List bO:=[.tmp 4]
def Kk:C:=(aa [bS 4 0] (aa [I 6 1,I 7 0,ca 8 7,bk 9 .sub 6 8,I 1 9] (.seq (aa [I 10 1,aV 11 .lss 10 0] (aT 11 (aa [bS 4 (-1)] .ret) .skip)) (.seq (aa [bS 5 0] (.block 0 (.loop (.seq (aa [I 12 5,I 13 0,ca 14 13,bk 15 .lss 12 14] (aT 15 .skip (.exit 0))) (.seq (.block 1 (aa [I 18 0,I 19 5,cf 20 2 18 19,aY 21 2 20,I 22 1,b2 23 214 21 22,I 1 23] (aa [I 24 1,aV 25 .lss 24 0] (aT 25 (aa [bS 4 (-1)] .ret) .skip)))) (.region [I 16 5,aV 17 .add 16 1,I 5 17])))))) (aa [I 26 1,I 4 26] .ret)))))
@[simp] def aob:List bO:=[.tmp 4]
def R4:C:=(aa [er 2 5] (aa [I 5 0,ca 6 5,cP (.mks 7 none 5 61 (.agg jF) (.t 6)),I 3 7] (.seq (aa [bS 4 0] (.block 0 (.loop (.seq (aa [I 8 4,I 9 0,ca 10 9,bk 11 .lss 8 10] (aT 11 .skip (.exit 0))) (.seq (.block 1 (.region [I 14 3,I 15 4,I 16 0,I 17 4,cf 18 5 16 17,aY 19 5 18,cB 20 222 19,cf 21 5 14 15,bB 5 21 20])) (.region [I 12 4,aV 13 .add 12 1,I 4 13])))))) (.seq (.pub 3 (.region [I 22 3,I 2 22])) .ret))))
@[simp] def aoi:List bO:=[.tmp 2]
def R5:C:=(aa [er 2 1] (aa [I 5 0,ca 6 5,cP (.mks 7 none 1 23 (.slice 5 .nil []) (.t 6)),I 3 7] (.seq (aa [bS 4 0] (.block 0 (.loop (.seq (aa [I 8 4,I 9 0,ca 10 9,bk 11 .lss 8 10] (aT 11 .skip (.exit 0))) (.seq (.block 1 (.region [I 14 3,I 15 4,I 16 0,I 17 4,cf 18 1 16 17,av 19 1 18,cB 20 149 19,cf 21 1 14 15,bB 1 21 20])) (.region [I 12 4,aV 13 .add 12 1,I 4 13])))))) (.seq (.pub 3 (.region [I 22 3,I 2 22])) .ret))))
@[simp] def aoj:List bO:=[.tmp 2]
def Sc:C:=(aa [er 2 2] (aa [I 5 0,ca 6 5,cP (.mks 7 none 2 104 (.agg [.int .i64 0,.int .i64 0]) (.t 6)),I 3 7] (.seq (aa [bS 4 0] (.block 0 (.loop (.seq (aa [I 8 4,I 9 0,ca 10 9,bk 11 .lss 8 10] (aT 11 .skip (.exit 0))) (.seq (.block 1 (.region [I 14 3,I 15 4,I 16 0,I 17 4,cf 18 2 16 17,aY 19 2 18,cB 20 223 19,cf 21 2 14 15,bB 2 21 20])) (.region [I 12 4,aV 13 .add 12 1,I 4 13])))))) (.seq (.pub 3 (.region [I 22 3,I 2 22])) .ret))))
@[simp] def aoq:List bO:=[.tmp 2]
def R7:C:=(aa [er 2 2] (aa [I 5 0,ca 6 5,cP (.mks 7 none 2 106 (.agg [.int .i64 0,.str []]) (.t 6)),I 3 7] (.seq (aa [bS 4 0] (.block 0 (.loop (.seq (aa [I 8 4,I 9 0,ca 10 9,bk 11 .lss 8 10] (aT 11 .skip (.exit 0))) (.seq (.block 1 (.region [I 14 3,I 15 4,I 16 0,I 17 4,cf 18 2 16 17,aY 19 2 18,cB 20 224 19,cf 21 2 14 15,bB 2 21 20])) (.region [I 12 4,aV 13 .add 12 1,I 4 13])))))) (.seq (.pub 3 (.region [I 22 3,I 2 22])) .ret))))
@[simp] def aol:List bO:=[.tmp 2]
def RR:C:=(aa [a8 4 false] (.seq (aa [I 6 0,ca 7 6,I 8 1,ca 9 8,bk 10 .neq 7 9] (aT 10 (aa [a8 4 false] .ret) .skip)) (.seq (aa [bS 5 0] (.block 0 (.loop (.seq (aa [I 11 5,I 12 0,ca 13 12,bk 14 .lss 11 13] (aT 14 .skip (.exit 0))) (.seq (.block 1 (.seq (.drawn true 27 [I 17 0,I 18 5,cf 19 5 17 18,aY 20 5 19,I 21 1,I 22 5,cf 23 5 21 22,aY 24 5 23,b2 25 226 20 24,cj 26 25]) (aT 26 (aa [a8 4 false] .ret) .skip))) (.region [I 15 5,aV 16 .add 15 1,I 5 16])))))) (aa [a8 4 true] .ret))))
@[simp] def anZ:List bO:=[.tmp 4]
def RS:C:=(aa [a8 4 false] (.seq (aa [I 6 0,ca 7 6,I 8 1,ca 9 8,bk 10 .neq 7 9] (aT 10 (aa [a8 4 false] .ret) .skip)) (.seq (aa [bS 5 0] (.block 0 (.loop (.seq (aa [I 11 5,I 12 0,ca 13 12,bk 14 .lss 11 13] (aT 14 .skip (.exit 0))) (.seq (.block 1 (.seq (.drawn true 27 [I 17 0,I 18 5,cf 19 1 17 18,av 20 1 19,I 21 1,I 22 5,cf 23 1 21 22,av 24 1 23,b2 25 156 20 24,cj 26 25]) (aT 26 (aa [a8 4 false] .ret) .skip))) (.region [I 15 5,aV 16 .add 15 1,I 5 16])))))) (aa [a8 4 true] .ret))))
@[simp] def an0:List bO:=[.tmp 4]
def RZ:C:=(aa [a8 4 false] (.seq (aa [I 6 0,ca 7 6,I 8 1,ca 9 8,bk 10 .neq 7 9] (aT 10 (aa [a8 4 false] .ret) .skip)) (.seq (aa [bS 5 0] (.block 0 (.loop (.seq (aa [I 11 5,I 12 0,ca 13 12,bk 14 .lss 11 13] (aT 14 .skip (.exit 0))) (.seq (.block 1 (.seq (.drawn true 27 [I 17 0,I 18 5,cf 19 2 17 18,aY 20 2 19,I 21 1,I 22 5,cf 23 2 21 22,aY 24 2 23,b2 25 227 20 24,cj 26 25]) (aT 26 (aa [a8 4 false] .ret) .skip))) (.region [I 15 5,aV 16 .add 15 1,I 5 16])))))) (aa [a8 4 true] .ret))))
@[simp] def an7:List bO:=[.tmp 4]
def RU:C:=(aa [a8 4 false] (.seq (aa [I 6 0,ca 7 6,I 8 1,ca 9 8,bk 10 .neq 7 9] (aT 10 (aa [a8 4 false] .ret) .skip)) (.seq (aa [bS 5 0] (.block 0 (.loop (.seq (aa [I 11 5,I 12 0,ca 13 12,bk 14 .lss 11 13] (aT 14 .skip (.exit 0))) (.seq (.block 1 (.seq (.drawn true 27 [I 17 0,I 18 5,cf 19 2 17 18,aY 20 2 19,I 21 1,I 22 5,cf 23 2 21 22,aY 24 2 23,b2 25 228 20 24,cj 26 25]) (aT 26 (aa [a8 4 false] .ret) .skip))) (.region [I 15 5,aV 16 .add 15 1,I 5 16])))))) (aa [a8 4 true] .ret))))
@[simp] def an2:List bO:=[.tmp 4]
def Kh:C:=(aa [cC 2 0,bS 4 0] (aa [eO 5 1 4 2,aY 6 4 5,I 7 1,b2 8 85 6 7,I 1 8] (.seq (aa [I 9 1,aV 10 .lss 9 0] (aT 10 (aa [bS 4 (-1)] .ret) .skip)) (aa [I 11 1,I 4 11] .ret))))
@[simp] def Ou:List bO:=[.tmp 4]
def F0:C:=(aa [cC 2 0,bS 4 0] (aa [I 5 1,aE 6 1 1 2,av 7 1 6,b5 8 (.slen (.t 7)),bk 9 .sub 5 8,I 1 9] (.seq (aa [I 10 1,aV 11 .lss 10 0] (aT 11 (aa [bS 4 (-1)] .ret) .skip)) (aa [I 12 1,I 4 12] .ret))))
@[simp] def aoa:List bO:=[.tmp 4]
def R3:C:=(aa [cC 1 0,c1 2 jF] (aa [c1 3 jF] (aa [aE 4 0 1 1,av 5 1 4,aE 6 0 1 3,bB 1 6 5] (aa [eO 7 1 4 1,aY 8 4 7,cB 9 87 8,eO 10 1 4 3,bB 4 10 9] (aa [aY 11 5 3,bB 5 2 11] .ret)))))
@[simp] def aoh:List bO:=[.cell 2 true 5]
def Sb:C:=(aa [cC 1 0,cP (.alloc 2 none (.agg [.int .i64 0,.int .i64 0]))] (aa [cP (.alloc 3 none (.agg [.int .i64 0,.int .i64 0]))] (aa [aE 4 0 1 1,av 5 1 4,aE 6 0 1 3,bB 1 6 5] (aa [aE 7 1 1 1,av 8 1 7,aE 9 1 1 3,bB 1 9 8] (aa [aY 10 2 3,bB 2 2 10] .ret)))))
@[simp] def aop:List bO:=[.cell 2 true 2]
def R6:C:=(aa [cC 1 0,cP (.alloc 2 none (.agg [.int .i64 0,.str []]))] (aa [cP (.alloc 3 none (.agg [.int .i64 0,.str []]))] (aa [aE 4 0 1 1,av 5 1 4,aE 6 0 1 3,bB 1 6 5] (aa [aE 7 1 1 1,av 8 1 7,aE 9 1 1 3,bB 1 9 8] (aa [aY 10 2 3,bB 2 2 10] .ret)))))
@[simp] def aok:List bO:=[.cell 2 true 2]
def RQ:C:=(aa [cC 2 0,cC 3 1,a8 4 false] (.seq (aa [aE 5 0 1 2,av 6 1 5,aE 7 0 1 3,av 8 1 7,bk 9 .neq 6 8] (aT 9 (aa [a8 4 false] .ret) .skip)) (.seq (aa [eO 10 1 4 2,aY 11 4 10,eO 12 1 4 3,aY 13 4 12,b2 14 90 11 13,cj 15 14] (aT 15 (aa [a8 4 false] .ret) .skip)) (aa [a8 4 true] .ret))))
@[simp] def anY:List bO:=[.tmp 4]
def RY:C:=(aa [cC 2 0,cC 3 1,a8 4 false] (.seq (aa [aE 5 0 1 2,av 6 1 5,aE 7 0 1 3,av 8 1 7,bk 9 .neq 6 8] (aT 9 (aa [a8 4 false] .ret) .skip)) (.seq (aa [aE 10 1 1 2,av 11 1 10,aE 12 1 1 3,av 13 1 12,bk 14 .neq 11 13] (aT 14 (aa [a8 4 false] .ret) .skip)) (aa [a8 4 true] .ret))))
@[simp] def an6:List bO:=[.tmp 4]
def RT:C:=(aa [cC 2 0,cC 3 1,a8 4 false] (.seq (aa [aE 5 0 1 2,av 6 1 5,aE 7 0 1 3,av 8 1 7,bk 9 .neq 6 8] (aT 9 (aa [a8 4 false] .ret) .skip)) (.seq (aa [aE 10 1 1 2,av 11 1 10,aE 12 1 1 3,av 13 1 12,bk 14 .neq 11 13] (aT 14 (aa [a8 4 false] .ret) .skip)) (aa [a8 4 true] .ret))))
@[simp] def an1:List bO:=[.tmp 4]
def iY:List (Nat×dN):=[
 (3,⟨1,8,.int .i64,.int .i64 0⟩),
 (9,⟨1,16,.str,.str []⟩),
 (23,⟨1,24,.slice 61,.slice 5 .nil []⟩),
 (24,⟨1,24,.slice 23,.slice 1 .nil []⟩),
 (25,⟨1,24,.slice 104,.slice 2 .nil []⟩),
 (26,⟨1,24,.slice 106,.slice 2 .nil []⟩),
 (28,⟨5,104,.struct [(0,3),(1,23),(2,24),(3,25),(4,26)],.agg [.int .i64 0,.slice 5 .nil [],.slice 1 .nil [],.slice 2 .nil [],.slice 2 .nil []]⟩),
 (30,⟨1,24,.slice 32,.slice 4 .nil []⟩),
 (32,⟨4,56,.struct [(0,3),(1,3),(2,9),(3,30)],.agg [.int .i64 0,.int .i64 0,.str [],.slice 4 .nil []]⟩),
 (43,⟨1,24,.slice 124,.slice 4 .nil []⟩),
 (44,⟨1,24,.slice 227,.slice 5 .nil []⟩),
 (45,⟨1,24,.slice 44,.slice 1 .nil []⟩),
 (46,⟨1,24,.slice 233,.slice 2 .nil []⟩),
 (47,⟨1,24,.slice 229,.slice 2 .nil []⟩),
 (49,⟨5,104,.struct [(0,3),(1,44),(2,45),(3,46),(4,47)],.agg [.int .i64 0,.slice 5 .nil [],.slice 1 .nil [],.slice 2 .nil [],.slice 2 .nil []]⟩),
 (61,⟨5,64,.struct [(0,3),(1,32)],.agg [.int .i64 0,.int .i64 0,.int .i64 0,.str [],.slice 4 .nil []]⟩),
 (104,⟨2,16,.struct [(0,3),(1,3)],.agg [.int .i64 0,.int .i64 0]⟩),
 (106,⟨2,24,.struct [(0,3),(1,9)],.agg [.int .i64 0,.str []]⟩),
 (124,⟨4,56,.struct [(0,3),(1,3),(2,9),(3,43)],.agg [.int .i64 0,.int .i64 0,.str [],.slice 4 .nil []]⟩),
 (227,⟨5,64,.struct [(0,3),(1,124)],.agg [.int .i64 0,.int .i64 0,.int .i64 0,.str [],.slice 4 .nil []]⟩),
 (229,⟨2,24,.struct [(0,3),(1,9)],.agg [.int .i64 0,.str []]⟩),
 (233,⟨2,16,.struct [(0,3),(1,3)],.agg [.int .i64 0,.int .i64 0]⟩)]
theorem fS:fY al iY=true:=by kernel_rfl
theorem XS:bZ iY Kl aoe 2 Tryz.f32=true:=by kernel_rfl
theorem T2:al.funcs[(32:Nat)]? =some Tryz.f32:=Tryz.func32
theorem amo:bZ iY Sa aoo 1 Tryz.f34=true:=by kernel_rfl
theorem afo:al.funcs[(34:Nat)]? =some Tryz.f34:=Tryz.func34
theorem amd:bZ iY RX an5 2 Tryz.f36=true:=by kernel_rfl
theorem afd:al.funcs[(36:Nat)]? =some Tryz.f36:=Tryz.func36
theorem En:bZ iY Ak aoc 2 Tryz.f63=true:=by kernel_rfl
theorem CZ:al.funcs[(63:Nat)]? =some Tryz.f63:=Tryz.func63
theorem amm:bZ iY R8 aom 1 Tryz.f67=true:=by kernel_rfl
theorem afm:al.funcs[(67:Nat)]? =some Tryz.f67:=Tryz.func67
theorem amb:bZ iY RV an3 2 Tryz.f72=true:=by kernel_rfl
theorem afb:al.funcs[(72:Nat)]? =some Tryz.f72:=Tryz.func72
theorem xv:bZ iY u0 aod 2 Tryz.f85=true:=by kernel_rfl
theorem wF:al.funcs[(85:Nat)]? =some Tryz.f85:=Tryz.func85
theorem amn:bZ iY R9 aon 1 Tryz.f87=true:=by kernel_rfl
theorem afn:al.funcs[(87:Nat)]? =some Tryz.f87:=Tryz.func87
theorem amc:bZ iY RW an4 2 Tryz.f90=true:=by kernel_rfl
theorem afc:al.funcs[(90:Nat)]? =some Tryz.f90:=Tryz.func90
theorem XP:bZ iY Ki an8 2 Tryz.f137=true:=by kernel_rfl
theorem TZ:al.funcs[(137:Nat)]? =some Tryz.f137:=Tryz.func137
theorem XQ:bZ iY Kj an9 2 Tryz.f138=true:=by kernel_rfl
theorem T0:al.funcs[(138:Nat)]? =some Tryz.f138:=Tryz.func138
theorem NV:bZ iY F1 aof 2 Tryz.f139=true:=by kernel_rfl
theorem K6:al.funcs[(139:Nat)]? =some Tryz.f139:=Tryz.func139
theorem XR:bZ iY Kk aob 2 Tryz.f140=true:=by kernel_rfl
theorem T1:al.funcs[(140:Nat)]? =some Tryz.f140:=Tryz.func140
theorem ami:bZ iY R4 aoi 1 Tryz.f149=true:=by kernel_rfl
theorem afi:al.funcs[(149:Nat)]? =some Tryz.f149:=Tryz.func149
theorem amj:bZ iY R5 aoj 1 Tryz.f150=true:=by kernel_rfl
theorem afj:al.funcs[(150:Nat)]? =some Tryz.f150:=Tryz.func150
theorem amq:bZ iY Sc aoq 1 Tryz.f151=true:=by kernel_rfl
theorem afq:al.funcs[(151:Nat)]? =some Tryz.f151:=Tryz.func151
theorem aml:bZ iY R7 aol 1 Tryz.f152=true:=by kernel_rfl
theorem afl:al.funcs[(152:Nat)]? =some Tryz.f152:=Tryz.func152
theorem al7:bZ iY RR anZ 2 Tryz.f156=true:=by kernel_rfl
theorem ae7:al.funcs[(156:Nat)]? =some Tryz.f156:=Tryz.func156
theorem al8:bZ iY RS an0 2 Tryz.f157=true:=by kernel_rfl
theorem ae8:al.funcs[(157:Nat)]? =some Tryz.f157:=Tryz.func157
theorem amf:bZ iY RZ an7 2 Tryz.f158=true:=by kernel_rfl
theorem aff:al.funcs[(158:Nat)]? =some Tryz.f158:=Tryz.func158
theorem ama:bZ iY RU an2 2 Tryz.f159=true:=by kernel_rfl
theorem afa:al.funcs[(159:Nat)]? =some Tryz.f159:=Tryz.func159
theorem XO:bZ iY Kh Ou 2 Tryz.f213=true:=by kernel_rfl
theorem TY:al.funcs[(213:Nat)]? =some Tryz.f213:=Tryz.func213
theorem NU:bZ iY F0 aoa 2 Tryz.f214=true:=by kernel_rfl
theorem K5:al.funcs[(214:Nat)]? =some Tryz.f214:=Tryz.func214
theorem amh:bZ iY R3 aoh 1 Tryz.f222=true:=by kernel_rfl
theorem afh:al.funcs[(222:Nat)]? =some Tryz.f222:=Tryz.func222
theorem amp:bZ iY Sb aop 1 Tryz.f223=true:=by kernel_rfl
theorem afp:al.funcs[(223:Nat)]? =some Tryz.f223:=Tryz.func223
theorem amk:bZ iY R6 aok 1 Tryz.f224=true:=by kernel_rfl
theorem afk:al.funcs[(224:Nat)]? =some Tryz.f224:=Tryz.func224
theorem al6:bZ iY RQ anY 2 Tryz.f226=true:=by kernel_rfl
theorem ae6:al.funcs[(226:Nat)]? =some Tryz.f226:=Tryz.func226
theorem ame:bZ iY RY an6 2 Tryz.f227=true:=by kernel_rfl
theorem afe:al.funcs[(227:Nat)]? =some Tryz.f227:=Tryz.func227
theorem al9:bZ iY RT an1 2 Tryz.f228=true:=by kernel_rfl
theorem ae9:al.funcs[(228:Nat)]? =some Tryz.f228:=Tryz.func228
def iL{α:Type}(f:α->aj)(z:aj)(l:List α)(i:Nat):List aj:=(l.take i).map f++rU (l.length-i) z
theorem pC{α:Type}(f:α->aj)(z:aj)(l:List α):iL f z l 0=rU l.length z:=by simp[iL]
theorem Ee{α:Type}(f:α->aj)(z:aj)(l:List α):iL f z l l.length=l.map f:=by simp[iL]
theorem Ef{α:Type}(f:α->aj)(z:aj)(l:List α){i:Nat}(hi:i<l.length):(iL f z l i)[i]? =some z:=by
 unfold iL;have h:((l.take i).map f).length=i:=by simp;omega
 rw[List.getElem?_append_right Ω,h,Nat.sub_self,List.getElem?_replicate,if_pos Ω]
theorem Eg{α:Type}(f:α->aj)(z:aj)(l:List α){i:Nat}{x:α}(ab:l[i]? =some x):(iL f z l i).set i (f x)=iL f z l (i+1):=by
 have hi:=(eV.1 ab).1;unfold iL;have h:((l.take i).map f).length=i:=by simp;omega
 rw[List.set_append_right _ _ Ω,h,Nat.sub_self,qQ ab,rT,List.append_assoc];congr 1;obtain⟨m,hm⟩:∃m,l.length-i=m+1:=⟨l.length-i-1,Ω⟩;rw[hm,show l.length-(i+1)=m from by omega,List.replicate_succ,List.set_cons_zero];rfl
theorem Wv(S:aI->Prop):∀{a b:List aj},aC S (a++b)↔aC S a/\aC S b
 |[],b=>by simp[aC]
 |x::a,b=>by simp[aC,Wv S (a:=a),and_assoc]
theorem Wx{α:Type}(S:aI->Prop)(f:α->aj)(aK:∀x,aB S (f x)):∀l:List α,aC S (l.map f)
 |[]=>by simp[aC]
 |x::xs=>by simp[aC,Wx S f aK xs,aK]
theorem y8(S:aI->Prop)(z:aj)(bz:aB S z):∀n,aC S (rU n z)
 |0=>by simp[aC]
 |n+1=>by simp[List.replicate_succ,aC,y8 S z bz n,bz]
theorem D5{α:Type}(S:aI->Prop)(f:α->aj)(z:aj)(l:List α)(i:Nat)(aK:∀x,aB S (f x))(bz:aB S z):aC S (iL f z l i):=by unfold iL;rw[Wv];exact⟨Wx S f aK _,y8 S z bz _⟩
theorem PT(l:c4 cq)(hw:∀p n cap,l= .b p n cap->nu n)(aK:∀xs,l= .l xs->∀x∈xs,∀m,0<=m->m<=1048576->bC al 85 [cq.e x,.int .i64 m] (.int .i64 (ik x m)))(m:Int)(br:0<=m)(J:m<=1048576):bC al 32 [l.e 4 cq.e,.int .i64 m] (.int .i64 (gV ik l m)):=by
 cases l with
 |b p n cap=>
  have ax:=hw p n cap rfl;simp only[nu,lim]at ax;have g:m-n<0:=Ω
  simp only[c4.e,gV];clear hw aK;refine bc fS T2 XS fun aM=>?_;unfold Kl;exact bQ
 |l l=>
 have aK:=aK l rfl;clear hw;simp only[c4.e,gV];generalize aU:oP ik l m=R;unfold oP at aU;refine bc fS T2 XS fun aM=>?_;unfold Kl;have ev:l.length<=68719476736:=by simp[eA,eo,et,lim]at aM;omega
 simp;by_cases g:m-l.length<0
 ·rw[if_pos g]at aU;subst aU;exact bQ
 rw[if_neg g]at aU;(with_reducible repeat' first|refine ai ?_|simp[g]);refine dO [0] (fun i (k:Int)=>[(1,.int .i64 k),(5,.int .i64 i)]) l.length (fun i k=>(0<=k/\k<=1048576)/\kq ik (l.drop i) k=R) (m-l.length) bT ⟨⟨Ω,Ω⟩,by simpa using aU⟩ (fun k ae _=>?_) (fun i k hi ae _=>?_)
 ·obtain⟨_,ae⟩:=ae;rw[List.drop_length]at ae;simp only[kq]at ae;subst ae;exact bQ
 ·obtain⟨⟨dU,aS⟩,ae⟩:=ae;obtain⟨x,ab,cG⟩:=eh hi;have key:=aK x (dV ab) k dU aS;have hle:=wg x k dU;rw[ub ab]at ae;simp only[kq]at ae;generalize ik x k=q at key hle ae;clear ab;by_cases bn:q<0
  ·rw[if_pos bn]at ae;subst ae;exact bQ
  ·rw[if_neg bn]at ae;simp[hi,cG];((with_reducible repeat' first|refine ai ?_|refine az key ?_|refine aA key ?_|simp[hi,cG,bn]|((first|apply bU|apply bY|apply bX)<;>intro h<;>try simp at h))<;>(try exact cz));all_goals exact bK.rng q hi ⟨⟨Ω,Ω⟩,ae⟩ bT
theorem aaT(l:List bL)(aK:∀x∈l,bC al 87 [enc x] (enc x)):bC al 34 [.slice 4 .no (l.map enc)] (.slice 4 .no (l.map enc)):=by
 refine bc fS afo amo fun aM=>?_;unfold Sa;have ev:l.length<=68719476736:=by simp[eA,eo,et,lim]at aM;omega
 simp;all_goals first|(refine⟨by unfold lim;omega,?_⟩)|skip
 (with_reducible repeat' first|refine ai ?_|simp);have fp:∀(S:aI->Prop) (n:Nat),aC S (rU n (.agg [.int .i64 0,.int .i64 0,.str [],.slice 4 .nil []]))=True:=fun S n=>eq_true (y8 S _ (by simp[aB,aC]) n);refine gA (fun i (_:Unit)=>⟨[(0,.slice 4 .no (l.map enc)),(3,.row 4 (.loc 0) l.length),(4,.int .i64 i)],[],[(.loc 0,⟨l.length,32,4,some (iL enc (.agg [.int .i64 0,.int .i64 0,.str [],.slice 4 .nil []]) l i)⟩)],1,[]⟩) l.length (fun _ _=>True) () ⟨by simp[fresh,aC,aB,bP,inObs,Pv.look,pC,fp],dD (by simp[fresh,aC,aB,bP,inObs,Pv.look,pC,fp]),dE (by simp[fresh,aC,aB,dt,inObs,Pv.look,pC,fp]),Ψ⟩ trivial (fun _ _ _=>?_) (fun i _ hi _ _=>?_)
 ·rw[Ee];exact bQ
 ·obtain⟨x,ab,cG⟩:=eh hi;have key:=aK x (dV ab);have ak:=Ef enc (.agg [.int .i64 0,.int .i64 0,.str [],.slice 4 .nil []]) l hi;have aD:=Eg enc (.agg [.int .i64 0,.int .i64 0,.str [],.slice 4 .nil []]) l ab;have bh:∀S:aI->Prop,aC S (iL enc (.agg [.int .i64 0,.int .i64 0,.str [],.slice 4 .nil []]) l (i+1)):=fun S=>D5 S _ _ _ _ (fun x=>by simp) (by simp[aB,aC]);generalize iL enc (.agg [.int .i64 0,.int .i64 0,.str [],.slice 4 .nil []]) l i=r0 at ak aD;generalize qc:iL enc (.agg [.int .i64 0,.int .i64 0,.str [],.slice 4 .nil []]) l (i+1)=dC at aD bh;clear ab;simp[hi,cG];(with_reducible repeat' first|refine ai ?_|refine az key ?_|refine aA key ?_|simp[hi,cG,ak,aD]);all_goals refine bK.rng () hi trivial ?_
  all_goals rw[qc]
  all_goals first
   |exact⟨by simp[fresh,aC,aB,bP,inObs,Pv.look,bh],dD gt,dE (by simp[fresh,aC,aB,dt,inObs,Pv.look,bh]),Ψ⟩
   |exact⟨by simp[fresh,aC,aB,bP,inObs,Pv.look,bh],dD gt,dE (by simp[fresh,aC,aB,dt,inObs,Pv.look,bh];exact aD),Ψ⟩
theorem aap(l:List bL)(aK:∀x∈l,bC al 90 [enc x,enc x] (.bool true)):bC al 36 [.slice 4 .no (l.map enc),.slice 4 .no (l.map enc)] (.bool true):=by
 refine bc fS afd amd fun aM=>?_;unfold RX;have ev:l.length<=68719476736:=by simp[eA,eo,et,lim]at aM;omega
 simp;(with_reducible repeat' first|refine ai ?_|simp);refine dO [0,1] (fun i (_:Unit)=>[(5,.int .i64 i)]) l.length (fun _ _=>True) () bT trivial (fun _ _ _=>?_) (fun i _ hi _ _=>?_)
 ·exact bQ
 ·obtain⟨x,ab,cG⟩:=eh hi;have key:=aK x (dV ab);clear ab;exact hE
theorem aaN(t:cq)(hw:t.wf):∀m:Int,0<=m->m<=1048576->bC al 85 [t.e,.int .i64 m] (.int .i64 (ik t m)):=by
 suffices H:∀(k:Nat) (t:cq),t.sz<=k->t.wf->∀m:Int,0<=m->m<=1048576->bC al 85 [t.e,.int .i64 m] (.int .i64 (ik t m))from H _ t (fc _) hw
 intro k;clear hw t;induction k with
 |zero=>intro t aJ;cases t<;>simp[cq.sz]at aJ
 |succ k bR=>
  intro t aJ hw m br J;cases t with
  |mk qR qS s a=>
   simp only[cq.wf,cq.wfL_iff]at hw;obtain⟨DP,Dl⟩:=hw;have kP:m-s.len<0->ik (.mk qR qS s a) m= -1:=fun g=>by rw[I8];exact if_pos g
   have gP:¬m-s.len<0->ik (.mk qR qS s a) m=gV ik (.l a) (m-s.len):=fun g=>by rw[I8];exact if_neg g
   generalize ik (.mk qR qS s a) m=R at kP gP;have sA:=s.len_nn;have key:=fun h=>PT (.l a) (fun p n c e=>by cases e) (fun xs e x ab=>by cases e;exact bR x (by have:=cq.szL_mem ab;simp only[cq.sz]at aJ;omega) (Dl x ab)) (m-s.len) h Ω;have hle:=fun h=>ux wg (.l a) (m-s.len) h;simp only[cq.e,cq.eL_map];simp only[c4.e]at key;clear aJ Dl;cases s with
   |b x=>
    simp only[ht.wf,nu,lim]at DP;have g:m-x.size<0:=Ω
    have aU:=kP g;subst aU;clear kP gP;clear key hle bR;simp only[ht.e];refine bc fS wF xv fun aM=>?_;unfold u0;exact bQ
   |s l=>
    simp only[ht.len]at kP gP key hle;simp only[ht.e];by_cases g:m-l.length<0
    ·have aU:=kP g;subst aU;clear kP gP;clear key hle bR;refine bc fS wF xv fun aM=>?_;unfold u0;have ev:l.length<=68719476736:=by simp[eA,eo,et,lim]at aM;omega
     exact bQ
    ·have aU:=gP g;clear kP gP;have key:=key Ω;have hle:=hle Ω;rw[<-aU]at key hle;clear aU bR;by_cases bn:R<0
     ·have:R= -1:=Ω
      subst this;refine bc fS wF xv fun aM=>?_;unfold u0;have ev:l.length<=68719476736:=by simp[eA,eo,et,lim]at aM;omega
      exact bQ
     ·refine bc fS wF xv fun aM=>?_;unfold u0;have ev:l.length<=68719476736:=by simp[eA,eo,et,lim]at aM;omega
      exact bQ
  |big qR qS s p n c=>
   simp only[cq.wf]at hw;obtain⟨DP,Dl⟩:=hw;have kP:m-s.len<0->ik (.big qR qS s p n c) m= -1:=fun g=>by rw[I8];exact if_pos g
   have gP:¬m-s.len<0->ik (.big qR qS s p n c) m=gV ik (.b p n c) (m-s.len):=fun g=>by rw[I8];exact if_neg g
   generalize ik (.big qR qS s p n c) m=R at kP gP;have sA:=s.len_nn;have key:=fun h=>PT (.b p n c) (fun p n c e=>by cases e;exact Dl) (fun xs e=>by cases e) (m-s.len) h Ω;have hle:=fun h=>ux wg (.b p n c) (m-s.len) h;simp only[cq.e];simp only[c4.e]at key;clear aJ Dl;cases s with
   |b x=>
    simp only[ht.wf,nu,lim]at DP;have g:m-x.size<0:=Ω
    have aU:=kP g;subst aU;clear kP gP;clear key hle bR;simp only[ht.e];refine bc fS wF xv fun aM=>?_;unfold u0;exact bQ
   |s l=>
    simp only[ht.len]at kP gP key hle;simp only[ht.e];by_cases g:m-l.length<0
    ·have aU:=kP g;subst aU;clear kP gP;clear key hle bR;refine bc fS wF xv fun aM=>?_;unfold u0;have ev:l.length<=68719476736:=by simp[eA,eo,et,lim]at aM;omega
     exact bQ
    ·have aU:=gP g;clear kP gP;have key:=key Ω;have hle:=hle Ω;rw[<-aU]at key hle;clear aU bR;by_cases bn:R<0
     ·have:R= -1:=Ω
      subst this;refine bc fS wF xv fun aM=>?_;unfold u0;have ev:l.length<=68719476736:=by simp[eA,eo,et,lim]at aM;omega
      exact bQ
     ·refine bc fS wF xv fun aM=>?_;unfold u0;have ev:l.length<=68719476736:=by simp[eA,eo,et,lim]at aM;omega
      exact bQ
theorem aaS(t:bL):bC al 87 [enc t] (enc t):=by
 suffices H:∀(k:Nat) (t:bL),t.sz<=k->bC al 87 [enc t] (enc t)from H _ t (fc _)
 intro k;induction k with
 |zero=>intro t aJ;cases t;simp[bL.sz]at aJ
 |succ k bR=>intro t aJ;have key:=aaT t.args (fun x ab=>bR x (by have:=Pq ab;omega));clear bR;refine bc fS afn amn fun aM=>?_;unfold R9;exact bQ
theorem aao(t:bL):bC al 90 [enc t,enc t] (.bool true):=by
 suffices H:∀(k:Nat) (t:bL),t.sz<=k->bC al 90 [enc t,enc t] (.bool true)from H _ t (fc _)
 intro k;induction k with
 |zero=>intro t aJ;cases t;simp[bL.sz]at aJ
 |succ k bR=>intro t aJ;have key:=aap t.args (fun x ab=>bR x (by have:=Pq ab;omega));clear bR;refine bc fS afc amc fun aM=>?_;unfold RW;exact bQ
end
end Go.Proofs.YtohaalphocaebaaGreat
