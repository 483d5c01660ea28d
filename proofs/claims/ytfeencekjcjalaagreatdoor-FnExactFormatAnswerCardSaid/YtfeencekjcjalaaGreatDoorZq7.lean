/- Contracts: what no other one implies. -/
import Derived.Test.YtfeencekjcjalaaGreatDoorProg
import Derived.Test.YtfeencekjcjalaaGreatDoorZq6
set_option linter.all false
set_option maxHeartbeats 4000000
set_option maxRecDepth 4000
open Bool renaming and_eq_true->cD,eq_iff_iff->rO,false_eq_true->hI,or_eq_true->mR
open Go.IntKind renaming i64->oQ
open Go.IntWalk renaming i64_in->lY
open Go.Op renaming bytesLess->h5
open Go.Proofs.Tryz renaming prog->ar
open List renaming all_eq_true->iW,cons_append->b3,drop->n2,drop_eq_getElem_cons->mu,getElem?_eq_getElem->cl,getElem?_eq_none->rR,getElem?_eq_some_iff->fp,getElem_of_mem->oS,length_cons->ik,length_drop->sO,map_append->sP,map_cons->fG,mem_append->j0,mem_cons->gj,mem_of_getElem?->ev,pairwise_cons->n4,pairwise_iff_getElem->q1,replicate->sR,take->kT,take_length->lZ,take_of_length_le->gv,take_succ->pC
open Nat renaming le_refl->e2,le_trans->j1
open Option renaming getD_none->oU,getD_some->mv,isSome_none->ny,isSome_some->um
open Option.some renaming inj->ft,injEq->dz
open _root_ renaming False->eF,Option->aZ,UInt8->b7,beq_iff_eq->dW,decide_eq_false->l0,decide_eq_false_iff_not->hb,decide_eq_true->lL,decide_eq_true_eq->e3
namespace Go.Proofs.YtfeencekjcjalaaGreatDoor
section
open Go Go.Pv
def A1:C:=(aa [c6 2 0,bT 4 0] (aa [aK 5 1 1 2,aw 6 1 5,I 7 1,ch 8 22 6 7,I 1 8] (.seq (aa [I 9 1,aS 10 .lss 9 0] (aU 10 (aa [bT 4 (-1)] .ret) .skip)) (aa [aK 11 2 1 2,aw 12 1 11,I 13 1,ch 14 23 12 13,I 1 14] (.seq (aa [I 15 1,aS 16 .lss 15 0] (aU 16 (aa [bT 4 (-1)] .ret) .skip)) (aa [aK 17 3 1 2,aw 18 1 17,I 19 1,ch 20 24 18 19,I 1 20] (.seq (aa [I 21 1,aS 22 .lss 21 0] (aU 22 (aa [bT 4 (-1)] .ret) .skip)) (aa [aK 23 4 1 2,aw 24 1 23,I 25 1,ch 26 25 24 25,I 1 26] (.seq (aa [I 27 1,aS 28 .lss 27 0] (aU 28 (aa [bT 4 (-1)] .ret) .skip)) (aa [I 29 1,I 4 29] .ret))))))))))
def SX:C:=(aa [c6 1 0,dV 2 qL] (aa [dV 3 qL] (aa [aK 4 0 1 1,aw 5 1 4,aK 6 0 1 3,b1 1 6 5] (aa [aK 7 1 1 1,aw 8 1 7,cI 9 28 8,aK 10 1 1 3,b1 1 10 9] (aa [aK 11 2 1 1,aw 12 1 11,cI 13 29 12,aK 14 2 1 3,b1 1 14 13] (aa [aK 15 3 1 1,aw 16 1 15,cI 17 30 16,aK 18 3 1 3,b1 1 18 17] (aa [aK 19 4 1 1,aw 20 1 19,cI 21 31 20,aK 22 4 1 3,b1 1 22 21] (aa [bh 23 5 3,b1 5 2 23] .ret))))))))
def SJ:C:=(aa [c6 2 0,c6 3 1,bs 4 false] (.seq (aa [aK 5 0 1 2,aw 6 1 5,aK 7 0 1 3,aw 8 1 7,bp 9 .neq 6 8] (aU 9 (aa [bs 4 false] .ret) .skip)) (.seq (aa [aK 10 1 1 2,aw 11 1 10,aK 12 1 1 3,aw 13 1 12,ch 14 18 11 13,cH 15 14] (aU 15 (aa [bs 4 false] .ret) .skip)) (.seq (aa [aK 16 2 1 2,aw 17 1 16,aK 18 2 1 3,aw 19 1 18,ch 20 34 17 19,cH 21 20] (aU 21 (aa [bs 4 false] .ret) .skip)) (.seq (aa [aK 22 3 1 2,aw 23 1 22,aK 24 3 1 3,aw 25 1 24,ch 26 35 23 25,cH 27 26] (aU 27 (aa [bs 4 false] .ret) .skip)) (.seq (aa [aK 28 4 1 2,aw 29 1 28,aK 30 4 1 3,aw 31 1 30,ch 32 36 29 31,cH 33 32] (aU 33 (aa [bs 4 false] .ret) .skip)) (aa [bs 4 true] .ret)))))))
def SF:C:=(aa [bs 4 false] (.seq (aa [I 6 0,cd 7 6,I 8 1,cd 9 8,bp 10 .neq 7 9] (aU 10 (aa [bs 4 false] .ret) .skip)) (.seq (aa [bT 5 0] (.block 0 (.loop (.seq (aa [I 11 5,I 12 0,cd 13 12,bp 14 .lss 11 13] (aU 14 .skip (.exit 0))) (.seq (.block 1 (.seq (.drawn true 27 [I 17 0,I 18 5,cq 19 5 17 18,bh 20 5 19,I 21 1,I 22 5,cq 23 5 21 22,bh 24 5 23,ch 25 60 20 24,cH 26 25]) (aU 26 (aa [bs 4 false] .ret) .skip))) (.region [I 15 5,aS 16 .add 15 1,I 5 16])))))) (aa [bs 4 true] .ret))))
def K4:C:=(aa [bT 4 0] (aa [I 6 1,I 7 0,cd 8 7,bp 9 .sub 6 8,I 1 9] (.seq (aa [I 10 1,aS 11 .lss 10 0] (aU 11 (aa [bT 4 (-1)] .ret) .skip)) (.seq (aa [bT 5 0] (.block 0 (.loop (.seq (aa [I 12 5,I 13 0,cd 14 13,bp 15 .lss 12 14] (aU 15 .skip (.exit 0))) (.seq (.block 1 (aa [I 18 0,I 19 5,cq 20 5 18 19,bh 21 5 20,I 22 1,ch 23 67 21 22,I 1 23] (aa [I 24 1,aS 25 .lss 24 0] (aU 25 (aa [bT 4 (-1)] .ret) .skip)))) (.region [I 16 5,aS 17 .add 16 1,I 5 17])))))) (aa [I 26 1,I 4 26] .ret)))))
def K5:C:=(aa [bT 4 0] (aa [I 6 1,I 7 0,cd 8 7,bp 9 .sub 6 8,I 1 9] (.seq (aa [I 10 1,aS 11 .lss 10 0] (aU 11 (aa [bT 4 (-1)] .ret) .skip)) (.seq (aa [bT 5 0] (.block 0 (.loop (.seq (aa [I 12 5,I 13 0,cd 14 13,bp 15 .lss 12 14] (aU 15 .skip (.exit 0))) (.seq (.block 1 (aa [I 18 0,I 19 5,cq 20 1 18 19,aw 21 1 20,I 22 1,ch 23 22 21 22,I 1 23] (aa [I 24 1,aS 25 .lss 24 0] (aU 25 (aa [bT 4 (-1)] .ret) .skip)))) (.region [I 16 5,aS 17 .add 16 1,I 5 17])))))) (aa [I 26 1,I 4 26] .ret)))))
def GU:C:=(aa [bT 4 0] (aa [I 5 1,I 6 0,cd 7 6,bp 8 .sub 5 7,I 1 8] (.seq (aa [I 9 1,aS 10 .lss 9 0] (aU 10 (aa [bT 4 (-1)] .ret) .skip)) (aa [I 11 1,I 4 11] .ret))))
def K6:C:=(aa [bT 4 0] (aa [I 6 1,I 7 0,cd 8 7,bp 9 .sub 6 8,I 1 9] (.seq (aa [I 10 1,aS 11 .lss 10 0] (aU 11 (aa [bT 4 (-1)] .ret) .skip)) (.seq (aa [bT 5 0] (.block 0 (.loop (.seq (aa [I 12 5,I 13 0,cd 14 13,bp 15 .lss 12 14] (aU 15 .skip (.exit 0))) (.seq (.block 1 (aa [I 18 0,I 19 5,cq 20 2 18 19,bh 21 2 20,I 22 1,ch 23 68 21 22,I 1 23] (aa [I 24 1,aS 25 .lss 24 0] (aU 25 (aa [bT 4 (-1)] .ret) .skip)))) (.region [I 16 5,aS 17 .add 16 1,I 5 17])))))) (aa [I 26 1,I 4 26] .ret)))))
def SQ:C:=(aa [e1 2 5] (aa [I 5 0,cd 6 5,cU (.mks 7 none 5 74 (.agg kI) (.t 6)),I 3 7] (.seq (aa [bT 4 0] (.block 0 (.loop (.seq (aa [I 8 4,I 9 0,cd 10 9,bp 11 .lss 8 10] (aU 11 .skip (.exit 0))) (.seq (.block 1 (.region [I 14 3,I 15 4,I 16 0,I 17 4,cq 18 5 16 17,bh 19 5 18,cI 20 79 19,cq 21 5 14 15,b1 5 21 20])) (.region [I 12 4,aS 13 .add 12 1,I 4 13])))))) (.seq (.pub 3 (.region [I 22 3,I 2 22])) .ret))))
def SR:C:=(aa [e1 2 1] (aa [I 5 0,cd 6 5,cU (.mks 7 none 1 30 (.slice 5 .nil []) (.t 6)),I 3 7] (.seq (aa [bT 4 0] (.block 0 (.loop (.seq (aa [I 8 4,I 9 0,cd 10 9,bp 11 .lss 8 10] (aU 11 .skip (.exit 0))) (.seq (.block 1 (.region [I 14 3,I 15 4,I 16 0,I 17 4,cq 18 1 16 17,aw 19 1 18,cI 20 28 19,cq 21 1 14 15,b1 1 21 20])) (.region [I 12 4,aS 13 .add 12 1,I 4 13])))))) (.seq (.pub 3 (.region [I 22 3,I 2 22])) .ret))))
def S1:C:=(aa [e1 2 2] (aa [I 5 0,cd 6 5,cU (.mks 7 none 2 78 (.agg [.int .i64 0,.int .i64 0]) (.t 6)),I 3 7] (.seq (aa [bT 4 0] (.block 0 (.loop (.seq (aa [I 8 4,I 9 0,cd 10 9,bp 11 .lss 8 10] (aU 11 .skip (.exit 0))) (.seq (.block 1 (.region [I 14 3,I 15 4,I 16 0,I 17 4,cq 18 2 16 17,bh 19 2 18,cI 20 80 19,cq 21 2 14 15,b1 2 21 20])) (.region [I 12 4,aS 13 .add 12 1,I 4 13])))))) (.seq (.pub 3 (.region [I 22 3,I 2 22])) .ret))))
def SV:C:=(aa [e1 2 2] (aa [I 5 0,cd 6 5,cU (.mks 7 none 2 82 (.agg [.int .i64 0,.str []]) (.t 6)),I 3 7] (.seq (aa [bT 4 0] (.block 0 (.loop (.seq (aa [I 8 4,I 9 0,cd 10 9,bp 11 .lss 8 10] (aU 11 .skip (.exit 0))) (.seq (.block 1 (.region [I 14 3,I 15 4,I 16 0,I 17 4,cq 18 2 16 17,bh 19 2 18,cI 20 81 19,cq 21 2 14 15,b1 2 21 20])) (.region [I 12 4,aS 13 .add 12 1,I 4 13])))))) (.seq (.pub 3 (.region [I 22 3,I 2 22])) .ret))))
def SG:C:=(aa [bs 4 false] (.seq (aa [I 6 0,cd 7 6,I 8 1,cd 9 8,bp 10 .neq 7 9] (aU 10 (aa [bs 4 false] .ret) .skip)) (.seq (aa [bT 5 0] (.block 0 (.loop (.seq (aa [I 11 5,I 12 0,cd 13 12,bp 14 .lss 11 13] (aU 14 .skip (.exit 0))) (.seq (.block 1 (.seq (.drawn true 27 [I 17 0,I 18 5,cq 19 1 17 18,aw 20 1 19,I 21 1,I 22 5,cq 23 1 21 22,aw 24 1 23,ch 25 18 20 24,cH 26 25]) (aU 26 (aa [bs 4 false] .ret) .skip))) (.region [I 15 5,aS 16 .add 15 1,I 5 16])))))) (aa [bs 4 true] .ret))))
def SN:C:=(aa [bs 4 false] (.seq (aa [I 6 0,cd 7 6,I 8 1,cd 9 8,bp 10 .neq 7 9] (aU 10 (aa [bs 4 false] .ret) .skip)) (.seq (aa [bT 5 0] (.block 0 (.loop (.seq (aa [I 11 5,I 12 0,cd 13 12,bp 14 .lss 11 13] (aU 14 .skip (.exit 0))) (.seq (.block 1 (.seq (.drawn true 27 [I 17 0,I 18 5,cq 19 2 17 18,bh 20 2 19,I 21 1,I 22 5,cq 23 2 21 22,bh 24 2 23,ch 25 90 20 24,cH 26 25]) (aU 26 (aa [bs 4 false] .ret) .skip))) (.region [I 15 5,aS 16 .add 15 1,I 5 16])))))) (aa [bs 4 true] .ret))))
def SI:C:=(aa [bs 4 false] (.seq (aa [I 6 0,cd 7 6,I 8 1,cd 9 8,bp 10 .neq 7 9] (aU 10 (aa [bs 4 false] .ret) .skip)) (.seq (aa [bT 5 0] (.block 0 (.loop (.seq (aa [I 11 5,I 12 0,cd 13 12,bp 14 .lss 11 13] (aU 14 .skip (.exit 0))) (.seq (.block 1 (.seq (.drawn true 27 [I 17 0,I 18 5,cq 19 2 17 18,bh 20 2 19,I 21 1,I 22 5,cq 23 2 21 22,bh 24 2 23,ch 25 91 20 24,cH 26 25]) (aU 26 (aa [bs 4 false] .ret) .skip))) (.region [I 15 5,aS 16 .add 15 1,I 5 16])))))) (aa [bs 4 true] .ret))))
def K7:C:=(aa [bT 4 0] (aa [I 6 1,I 7 0,cd 8 7,bp 9 .sub 6 8,I 1 9] (.seq (aa [I 10 1,aS 11 .lss 10 0] (aU 11 (aa [bT 4 (-1)] .ret) .skip)) (.seq (aa [bT 5 0] (.block 0 (.loop (.seq (aa [I 12 5,I 13 0,cd 14 13,bp 15 .lss 12 14] (aU 15 .skip (.exit 0))) (.seq (.block 1 (aa [I 18 0,I 19 5,cq 20 4 18 19,bh 21 4 20,I 22 1,ch 23 92 21 22,I 1 23] (aa [I 24 1,aS 25 .lss 24 0] (aU 25 (aa [bT 4 (-1)] .ret) .skip)))) (.region [I 16 5,aS 17 .add 16 1,I 5 17])))))) (aa [I 26 1,I 4 26] .ret)))))
def SZ:C:=(aa [e1 2 4] (aa [I 5 0,cd 6 5,cU (.mks 7 none 4 71 (.agg eb) (.t 6)),I 3 7] (.seq (aa [bT 4 0] (.block 0 (.loop (.seq (aa [I 8 4,I 9 0,cd 10 9,bp 11 .lss 8 10] (aU 11 .skip (.exit 0))) (.seq (.block 1 (.region [I 14 3,I 15 4,I 16 0,I 17 4,cq 18 4 16 17,bh 19 4 18,cI 20 96 19,cq 21 4 14 15,b1 4 21 20])) (.region [I 12 4,aS 13 .add 12 1,I 4 13])))))) (.seq (.pub 3 (.region [I 22 3,I 2 22])) .ret))))
def SL:C:=(aa [bs 4 false] (.seq (aa [I 6 0,cd 7 6,I 8 1,cd 9 8,bp 10 .neq 7 9] (aU 10 (aa [bs 4 false] .ret) .skip)) (.seq (aa [bT 5 0] (.block 0 (.loop (.seq (aa [I 11 5,I 12 0,cd 13 12,bp 14 .lss 11 13] (aU 14 .skip (.exit 0))) (.seq (.block 1 (.seq (.drawn true 27 [I 17 0,I 18 5,cq 19 4 17 18,bh 20 4 19,I 21 1,I 22 5,cq 23 4 21 22,bh 24 4 23,ch 25 104 20 24,cH 26 25]) (aU 26 (aa [bs 4 false] .ret) .skip))) (.region [I 15 5,aS 16 .add 15 1,I 5 16])))))) (aa [bs 4 true] .ret))))
def SE:C:=(aa [c6 2 0,c6 3 1,bs 4 false] (.seq (aa [aK 5 0 1 2,aw 6 1 5,aK 7 0 1 3,aw 8 1 7,bp 9 .neq 6 8] (aU 9 (aa [bs 4 false] .ret) .skip)) (.seq (aa [fY 10 1 4 2,bh 11 4 10,fY 12 1 4 3,bh 13 4 12,ch 14 104 11 13,cH 15 14] (aU 15 (aa [bs 4 false] .ret) .skip)) (aa [bs 4 true] .ret))))
def K3:C:=(aa [c6 2 0,bT 4 0] (aa [fY 5 1 4 2,bh 6 4 5,I 7 1,ch 8 92 6 7,I 1 8] (.seq (aa [I 9 1,aS 10 .lss 9 0] (aU 10 (aa [bT 4 (-1)] .ret) .skip)) (aa [I 11 1,I 4 11] .ret))))
def GS:C:=(aa [c6 2 0,bT 4 0] (aa [I 5 1,aK 6 1 1 2,aw 7 1 6,bH 8 (.slen (.t 7)),bp 9 .sub 5 8,I 1 9] (.seq (aa [I 10 1,aS 11 .lss 10 0] (aU 11 (aa [bT 4 (-1)] .ret) .skip)) (aa [I 12 1,I 4 12] .ret))))
def SP:C:=(aa [c6 1 0,dV 2 kI] (aa [dV 3 kI] (aa [aK 4 0 1 1,aw 5 1 4,aK 6 0 1 3,b1 1 6 5] (aa [fY 7 1 4 1,bh 8 4 7,cI 9 96 8,fY 10 1 4 3,b1 4 10 9] (aa [bh 11 5 3,b1 5 2 11] .ret)))))
def S0:C:=(aa [c6 1 0,cU (.alloc 2 none (.agg [.int .i64 0,.int .i64 0]))] (aa [cU (.alloc 3 none (.agg [.int .i64 0,.int .i64 0]))] (aa [aK 4 0 1 1,aw 5 1 4,aK 6 0 1 3,b1 1 6 5] (aa [aK 7 1 1 1,aw 8 1 7,aK 9 1 1 3,b1 1 9 8] (aa [bh 10 2 3,b1 2 2 10] .ret)))))
def SU:C:=(aa [c6 1 0,cU (.alloc 2 none (.agg [.int .i64 0,.str []]))] (aa [cU (.alloc 3 none (.agg [.int .i64 0,.str []]))] (aa [aK 4 0 1 1,aw 5 1 4,aK 6 0 1 3,b1 1 6 5] (aa [aK 7 1 1 1,aw 8 1 7,aK 9 1 1 3,b1 1 9 8] (aa [bh 10 2 3,b1 2 2 10] .ret)))))
def SM:C:=(aa [c6 2 0,c6 3 1,bs 4 false] (.seq (aa [aK 5 0 1 2,aw 6 1 5,aK 7 0 1 3,aw 8 1 7,bp 9 .neq 6 8] (aU 9 (aa [bs 4 false] .ret) .skip)) (.seq (aa [aK 10 1 1 2,aw 11 1 10,aK 12 1 1 3,aw 13 1 12,bp 14 .neq 11 13] (aU 14 (aa [bs 4 false] .ret) .skip)) (aa [bs 4 true] .ret))))
def SH:C:=(aa [c6 2 0,c6 3 1,bs 4 false] (.seq (aa [aK 5 0 1 2,aw 6 1 5,aK 7 0 1 3,aw 8 1 7,bp 9 .neq 6 8] (aU 9 (aa [bs 4 false] .ret) .skip)) (.seq (aa [aK 10 1 1 2,aw 11 1 10,aK 12 1 1 3,aw 13 1 12,bp 14 .neq 11 13] (aU 14 (aa [bs 4 false] .ret) .skip)) (aa [bs 4 true] .ret))))
def vE:C:=(aa [c6 2 0,bT 4 0] (aa [I 5 1,aK 6 2 1 2,aw 7 1 6,bH 8 (.slen (.t 7)),bp 9 .sub 5 8,I 1 9] (.seq (aa [I 10 1,aS 11 .lss 10 0] (aU 11 (aa [bT 4 (-1)] .ret) .skip)) (aa [aK 12 3 1 2,aw 13 1 12,I 14 1,ch 15 37 13 14,I 1 15] (.seq (aa [I 16 1,aS 17 .lss 16 0] (aU 17 (aa [bT 4 (-1)] .ret) .skip)) (aa [I 18 1,I 4 18] .ret))))))
def SY:C:=(aa [c6 1 0,dV 2 eb] (aa [dV 3 eb] (aa [aK 4 0 1 1,aw 5 1 4,aK 6 0 1 3,b1 1 6 5] (aa [aK 7 1 1 1,aw 8 1 7,aK 9 1 1 3,b1 1 9 8] (aa [aK 10 2 1 1,aw 11 1 10,aK 12 2 1 3,b1 1 12 11] (aa [aK 13 3 1 1,aw 14 1 13,cI 15 45 14,aK 16 3 1 3,b1 1 16 15] (aa [bh 17 4 3,b1 4 2 17] .ret)))))))
def SK:C:=(aa [c6 2 0,c6 3 1,bs 4 false] (.seq (aa [aK 5 0 1 2,aw 6 1 5,aK 7 0 1 3,aw 8 1 7,bp 9 .neq 6 8] (aU 9 (aa [bs 4 false] .ret) .skip)) (.seq (aa [aK 10 1 1 2,aw 11 1 10,aK 12 1 1 3,aw 13 1 12,bp 14 .neq 11 13] (aU 14 (aa [bs 4 false] .ret) .skip)) (.seq (aa [aK 15 2 1 2,aw 16 1 15,aK 17 2 1 3,aw 18 1 17,bp 19 .neq 16 18] (aU 19 (aa [bs 4 false] .ret) .skip)) (.seq (aa [aK 20 3 1 2,aw 21 1 20,aK 22 3 1 3,aw 23 1 22,ch 24 52 21 23,cH 25 24] (aU 25 (aa [bs 4 false] .ret) .skip)) (aa [bs 4 true] .ret))))))
def Fo:b4 aT A1 [.tmp 4] 2 Tryz.f6=true:=an
def anT:b4 aT SX [.cell 2 true 5] 1 Tryz.f8=true:=an
def anI:b4 aT SJ [.tmp 4] 2 Tryz.f10=true:=an
def anE:b4 aT SF [.tmp 4] 2 Tryz.f18=true:=an
def Y5:b4 aT K4 [.tmp 4] 2 Tryz.f22=true:=an
def Y6:b4 aT K5 [.tmp 4] 2 Tryz.f23=true:=an
def OC:b4 aT GU [.tmp 4] 2 Tryz.f24=true:=an
def Y7:b4 aT K6 [.tmp 4] 2 Tryz.f25=true:=an
def anP:b4 aT SQ [.tmp 2] 1 Tryz.f28=true:=an
def anQ:b4 aT SR [.tmp 2] 1 Tryz.f29=true:=an
def anX:b4 aT S1 [.tmp 2] 1 Tryz.f30=true:=an
def anS:b4 aT SV [.tmp 2] 1 Tryz.f31=true:=an
def anF:b4 aT SG [.tmp 4] 2 Tryz.f34=true:=an
def anM:b4 aT SN [.tmp 4] 2 Tryz.f35=true:=an
def anH:b4 aT SI [.tmp 4] 2 Tryz.f36=true:=an
def Y8:b4 aT K7 [.tmp 4] 2 Tryz.f37=true:=an
def anV:b4 aT SZ [.tmp 2] 1 Tryz.f45=true:=an
def anK:b4 aT SL [.tmp 4] 2 Tryz.f52=true:=an
def anD:b4 aT SE [.tmp 4] 2 Tryz.f60=true:=an
def Y4:b4 aT K3 [.tmp 4] 2 Tryz.f67=true:=an
def OB:b4 aT GS [.tmp 4] 2 Tryz.f68=true:=an
def anO:b4 aT SP [.cell 2 true 5] 1 Tryz.f79=true:=an
def anW:b4 aT S0 [.cell 2 true 2] 1 Tryz.f80=true:=an
def anR:b4 aT SU [.cell 2 true 2] 1 Tryz.f81=true:=an
def anL:b4 aT SM [.tmp 4] 2 Tryz.f90=true:=an
def anG:b4 aT SH [.tmp 4] 2 Tryz.f91=true:=an
def ye:b4 aT vE [.tmp 4] 2 Tryz.f92=true:=an
def anU:b4 aT SY [.cell 2 true 4] 1 Tryz.f96=true:=an
def anJ:b4 aT SK [.tmp 4] 2 Tryz.f104=true:=an
def jh{α:Type}(f:α->ah)(z:ah)(l:List α)(i:Nat):List ah:=(l.take i).map f++sR (l.length-i) z
def p4{α:Type}(f:α->ah)(z:ah)(l:List α):jh f z l 0=sR l.length z:=by simp[jh]
def Fc{α:Type}(f:α->ah)(z:ah)(l:List α):jh f z l l.length=l.map f:=by simp[jh]
def Fe{α:Type}(f:α->ah)(z:ah)(l:List α){i:Nat}(hi:i<l.length):(jh f z l i)[i]? =some z:=by
 unfold jh;have h:((l.take i).map f).length=i:=by simp;omega
 rw[List.getElem?_append_right Ω,h,Nat.sub_self,List.getElem?_replicate,if_pos Ω]
def Ff{α:Type}(f:α->ah)(z:ah)(l:List α){i:Nat}{x:α}(a:l[i]? =some x):(jh f z l i).set i (f x)=jh f z l (i+1):=by
 have hi:=(fp.1 a).1;unfold jh;have h:((l.take i).map f).length=i:=by simp;omega
 rw[List.set_append_right _ _ Ω,h,Nat.sub_self,sJ a,sP,List.append_assoc];congr 1;obtain⟨m,hm⟩:∃m,l.length-i=m+1:=⟨l.length-i-1,Ω⟩;rw[hm,show l.length-(i+1)=m from by omega,List.replicate_succ,List.set_cons_zero];rfl
def XI(S:aB->Prop):∀{a b:List ah},ay S (a++b)↔ay S a/\ay S b
 |[],b=>by simp[ay]
 |x::a,b=>by simp[ay,XI S (a:=a),and_assoc]
def XK{α:Type}(S:aB->Prop)(f:α->ah)(a:∀x,au S (f x)):∀l:List α,ay S (l.map f)
 |[]=>by simp[ay]
 |x::xs=>by simp[ay,XK S f a xs,a]
def zS(S:aB->Prop)(z:ah)(a:au S z):∀n,ay S (sR n z)
 |0=>by simp[ay]
 |n+1=>by simp[List.replicate_succ,ay,zS S z a n,a]
def E1{α:Type}(S:aB->Prop)(f:α->ah)(z:ah)(l:List α)(i:Nat)(b:∀x,au S (f x))(a:au S z):ay S (jh f z l i):=by unfold jh;rw[XI];exact⟨XK S f b _,zS S z a _⟩
def QD(l:dn cv)(hw:∀p n cap,l= .b p n cap->nZ n)(c:∀xs,l= .l xs->∀x∈xs,∀m,0<=m->m<=1048576->bK ar 92 [cv.e x,.int .i64 m] (.int .i64 (h4 x m)))(m:Int)(u:0<=m)(J:m<=1048576):bK ar 37 [l.e 4 cv.e,.int .i64 m] (.int .i64 (gP h4 l m)):=by
 cases l with
 |b p n cap=>
  have s:=hw p n cap rfl;simp only[nZ,lim]at s;have g:m-n<0:=Ω
  simp only[dn.e,gP];clear hw c;refine br a7 Tryz.func37 Y8 fun o=>?_;unfold K7;exact ca
 |l l=>
 have c:=c l rfl;clear hw;simp only[dn.e,gP];generalize bg:oK h4 l m=R;unfold oK at bg;refine br a7 Tryz.func37 Y8 fun o=>?_;unfold K7;have t:l.length<=68719476736:=by simp[eV,eN,eS,lim]at o;omega
 simp;by_cases g:m-l.length<0
 ·rw[if_pos g]at bg;subst bg;exact ca
 rw[if_neg g]at bg;(repeat' first|refine ak ?_|simp[g]);refine eH [0] (fun i (k:Int)=>[(1,.int .i64 k),(5,.int .i64 i)]) l.length (fun i k=>(0<=k/\k<=1048576)/\kt h4 (l.drop i) k=R) (m-l.length) bU ⟨⟨Ω,Ω⟩,by simpa using bg⟩ (fun k a _=>?_) (fun i k hi a _=>?_)
 ·obtain⟨_,a⟩:=a;rw[List.drop_length]at a;simp only[kt]at a;subst a;exact ca
 ·obtain⟨⟨f,r⟩,a⟩:=a;obtain⟨x,e,j⟩:=dX hi;have key:=c x (ev e) k f r;have hle:=w2 x k f;rw[u0 e]at a;simp only[kt]at a;generalize h4 x k=q at key hle a;clear e;by_cases d:q<0
  ·rw[if_pos d]at a;subst a;exact ca
  ·rw[if_neg d]at a;simp[hi,j];((repeat' first|refine ak ?_|refine aI key ?_|refine aJ key ?_|simp[hi,j,d]|((first|apply bV|apply b0|apply bZ)<;>intro h<;>try simp at h))<;>(try exact cA));all_goals exact bQ.rng q hi ⟨⟨Ω,Ω⟩,a⟩ bU
def ab5(l:List bO)(j:∀x∈l,bK ar 96 [enc x] (enc x)):bK ar 45 [.slice 4 .no (l.map enc)] (.slice 4 .no (l.map enc)):=by
 refine br a7 Tryz.func45 anV fun h=>?_;unfold SZ;have k:l.length<=68719476736:=by simp[eV,eN,eS,lim]at h;omega
 simp;all_goals try refine⟨by unfold lim;omega,?_⟩
 (repeat' first|refine ak ?_|simp);have c:∀(S:aB->Prop) (n:Nat),ay S (sR n (.agg [.int .i64 0,.int .i64 0,.str [],.slice 4 .nil []]))=True:=fun S n=>eq_true (zS S _ pp n);refine gb (fun i (_:Unit)=>⟨[(0,.slice 4 .no (l.map enc)),(3,.row 4 (.loc 0) l.length),(4,.int .i64 i)],[],[(.loc 0,⟨l.length,71,4,some (jh enc (.agg [.int .i64 0,.int .i64 0,.str [],.slice 4 .nil []]) l i)⟩)],1,[]⟩) l.length (fun _ _=>True) () ⟨by simp[fresh,ay,au,bX,inObs,Pv.look,p4,c],dH (by simp[fresh,ay,au,bX,inObs,Pv.look,p4,c]),dK (by simp[fresh,ay,au,dD,inObs,Pv.look,p4,c]),Ψ⟩ trivial (fun _ _ _=>?_) (fun i _ hi _ _=>?_)
 ·rw[Fc];exact ca
 ·obtain⟨x,d,e⟩:=dX hi;have key:=j x (ev d);have f:=Fe enc (.agg [.int .i64 0,.int .i64 0,.str [],.slice 4 .nil []]) l hi;have b:=Ff enc (.agg [.int .i64 0,.int .i64 0,.str [],.slice 4 .nil []]) l d;have a:∀S:aB->Prop,ay S (jh enc (.agg [.int .i64 0,.int .i64 0,.str [],.slice 4 .nil []]) l (i+1)):=fun S=>E1 S _ _ _ _ (fun x=>by simp) pp;generalize jh enc (.agg [.int .i64 0,.int .i64 0,.str [],.slice 4 .nil []]) l i=r0 at f b;generalize g:jh enc (.agg [.int .i64 0,.int .i64 0,.str [],.slice 4 .nil []]) l (i+1)=m at b a;clear d;simp[hi,e];(repeat' first|refine ak ?_|refine aI key ?_|refine aJ key ?_|simp[hi,e,f,b]);all_goals refine bQ.rng () hi trivial ?_
  all_goals rw[g]
  all_goals first
   |exact⟨by simp[fresh,ay,au,bX,inObs,Pv.look,a],dH (by simp[fresh,ay,au,bX,inObs,Pv.look,a]),dK (by simp[fresh,ay,au,dD,inObs,Pv.look,a]),Ψ⟩
   |exact⟨by simp[fresh,ay,au,bX,inObs,Pv.look,a],dH (by simp[fresh,ay,au,bX,inObs,Pv.look,a]),dK (by simp[fresh,ay,au,dD,inObs,Pv.look,a];exact b),Ψ⟩
def abE(l:List bO)(c:∀x∈l,bK ar 104 [enc x,enc x] (.bool true)):bK ar 52 [.slice 4 .no (l.map enc),.slice 4 .no (l.map enc)] (.bool true):=by
 refine br a7 Tryz.func52 anK fun b=>?_;unfold SL;have d:l.length<=68719476736:=by simp[eV,eN,eS,lim]at b;omega
 simp;(repeat' first|refine ak ?_|simp);refine eH [0,1] (fun i (_:Unit)=>[(5,.int .i64 i)]) l.length (fun _ _=>True) () bU trivial (fun _ _ _=>?_) (fun i _ hi _ _=>?_)
 ·exact ca
 ·obtain⟨x,a,e⟩:=dX hi;have key:=c x (ev a);clear a;exact hS
def ab1(t:cv)(hw:t.wf):∀m:Int,0<=m->m<=1048576->bK ar 92 [t.e,.int .i64 m] (.int .i64 (h4 t m)):=by
 suffices H:∀(k:Nat) (t:cv),t.sz<=k->t.wf->∀m:Int,0<=m->m<=1048576->bK ar 92 [t.e,.int .i64 m] (.int .i64 (h4 t m))from H _ t (e2 _) hw
 intro k;clear hw t;induction k with
 |zero=>intro t aM;cases t<;>simp[cv.sz]at aM
 |succ k j=>
  intro t aM hw m y J;cases t with
  |mk tk hD s a=>
   simp only[cv.wf,cv.wfL_iff]at hw;obtain⟨r,q⟩:=hw;have d:m-s.len<0->h4 (.mk tk hD s a) m= -1:=fun g=>by rw[JZ];exact if_pos g
   have f:¬m-s.len<0->h4 (.mk tk hD s a) m=gP h4 (.l a) (m-s.len):=fun g=>by rw[JZ];exact if_neg g
   generalize h4 (.mk tk hD s a) m=R at d f;have w:=s.len_nn;have key:=fun h=>QD (.l a) (fun p n c e=>by cases e) (fun xs e x u=>by cases e;exact j x (by have:=cv.szL_mem u;simp only[cv.sz]at aM;omega) (q x u)) (m-s.len) h Ω;have hle:=fun h=>w1 w2 (.l a) (m-s.len) h;simp only[cv.e,cv.eL_map];simp only[dn.e]at key;clear aM q;cases s with
   |b x=>
    simp only[hy.wf,nZ,lim]at r;have g:m-x.size<0:=Ω
    have bg:=d g;subst bg;clear d f;clear key hle j;simp only[hy.e];refine br a7 Tryz.func92 ye fun i=>?_;unfold vE;exact ca
   |s l=>
    simp only[hy.len]at d f key hle;simp only[hy.e];by_cases g:m-l.length<0
    ·have bg:=d g;subst bg;clear d f;clear key hle j;refine br a7 Tryz.func92 ye fun i=>?_;unfold vE;have o:l.length<=68719476736:=by simp[eV,eN,eS,lim]at i;omega
     exact ca
    ·have bg:=f g;clear d f;have key:=key Ω;have hle:=hle Ω;rw[<-bg]at key hle;clear bg j;by_cases v:R<0
     ·have:R= -1:=Ω
      subst this;refine br a7 Tryz.func92 ye fun i=>?_;unfold vE;have o:l.length<=68719476736:=by simp[eV,eN,eS,lim]at i;omega
      exact ca
     ·refine br a7 Tryz.func92 ye fun i=>?_;unfold vE;have o:l.length<=68719476736:=by simp[eV,eN,eS,lim]at i;omega
      exact ca
  |big tk hD s p n c=>
   simp only[cv.wf]at hw;obtain⟨r,q⟩:=hw;have d:m-s.len<0->h4 (.big tk hD s p n c) m= -1:=fun g=>by rw[JZ];exact if_pos g
   have f:¬m-s.len<0->h4 (.big tk hD s p n c) m=gP h4 (.b p n c) (m-s.len):=fun g=>by rw[JZ];exact if_neg g
   generalize h4 (.big tk hD s p n c) m=R at d f;have w:=s.len_nn;have key:=fun h=>QD (.b p n c) (fun p n c e=>by cases e;exact q) (fun xs e=>by cases e) (m-s.len) h Ω;have hle:=fun h=>w1 w2 (.b p n c) (m-s.len) h;simp only[cv.e];simp only[dn.e]at key;clear aM q;cases s with
   |b x=>
    simp only[hy.wf,nZ,lim]at r;have g:m-x.size<0:=Ω
    have bg:=d g;subst bg;clear d f;clear key hle j;simp only[hy.e];refine br a7 Tryz.func92 ye fun i=>?_;unfold vE;exact ca
   |s l=>
    simp only[hy.len]at d f key hle;simp only[hy.e];by_cases g:m-l.length<0
    ·have bg:=d g;subst bg;clear d f;clear key hle j;refine br a7 Tryz.func92 ye fun i=>?_;unfold vE;have o:l.length<=68719476736:=by simp[eV,eN,eS,lim]at i;omega
     exact ca
    ·have bg:=f g;clear d f;have key:=key Ω;have hle:=hle Ω;rw[<-bg]at key hle;clear bg j;by_cases v:R<0
     ·have:R= -1:=Ω
      subst this;refine br a7 Tryz.func92 ye fun i=>?_;unfold vE;have o:l.length<=68719476736:=by simp[eV,eN,eS,lim]at i;omega
      exact ca
     ·refine br a7 Tryz.func92 ye fun i=>?_;unfold vE;have o:l.length<=68719476736:=by simp[eV,eN,eS,lim]at i;omega
      exact ca
def ab4(t:bO):bK ar 96 [enc t] (enc t):=by
 suffices H:∀(k:Nat) (t:bO),t.sz<=k->bK ar 96 [enc t] (enc t)from H _ t (e2 _)
 intro k;induction k with
 |zero=>intro t aM;cases t;simp[bO.sz]at aM
 |succ k a=>intro t aM;have key:=ab5 t.args (fun x b=>a x (by have:=Qd b;omega));clear a;refine br a7 Tryz.func96 anU fun c=>?_;unfold SY;exact ca
def abD(t:bO):bK ar 104 [enc t,enc t] (.bool true):=by
 suffices H:∀(k:Nat) (t:bO),t.sz<=k->bK ar 104 [enc t,enc t] (.bool true)from H _ t (e2 _)
 intro k;induction k with
 |zero=>intro t aM;cases t;simp[bO.sz]at aM
 |succ k a=>intro t aM;have key:=abE t.args (fun x b=>a x (by have:=Qd b;omega));clear a;refine br a7 Tryz.func104 anJ fun c=>?_;unfold SK;exact ca
structure fP where
 v:Int
 t:cv
def fP.e(b:fP):ah:= .agg [.int .i64 b.v,.int .i64 b.t.kind,.int .i64 b.t.num,b.t.name.e,b.t.args.e 4 cv.e]
@[simp]def av2(S:aB->Prop)(b:fP):au S b.e=True:=by simp[fP.e,au,ay]
@[simp]def axK(b:fP):de b.e=b.e:=by simp[fP.e,de,cR]
def XM(S:aB->Prop):∀l:List fP,ay S (l.map fP.e)
 |[]=>by simp[ay]
 |x::xs=>by simp[ay,XM S xs]
@[simp]def avQ(S:aB->Prop)(l:List fP):ay S (l.map fP.e)=True:=eq_true (XM S l)
@[simp]def axi(b:fP):fh b.e=true:=rfl
@[simp]def avz(b:fP):Pv.isAgg 5 b.e:=⟨_,rfl,rfl⟩
@[simp]def aub(b:fP):cells b.e=[.int .i64 b.v,.int .i64 b.t.kind,.int .i64 b.t.num,b.t.name.e,b.t.args.e 4 cv.e]:=rfl
structure im where
 v:Int
 s:hy
def im.e(b:im):ah:= .agg [.int .i64 b.v,b.s.e]
@[simp]def awe(S:aB->Prop)(b:im):au S b.e=True:=by simp[im.e,au,ay]
@[simp]def axW(b:im):de b.e=b.e:=by simp[im.e,de,cR]
def XQ(S:aB->Prop):∀l:List im,ay S (l.map im.e)
 |[]=>by simp[ay]
 |x::xs=>by simp[ay,XQ S xs]
@[simp]def avV(S:aB->Prop)(l:List im):ay S (l.map im.e)=True:=eq_true (XQ S l)
@[simp]def axy(b:im):fh b.e=true:=rfl
@[simp]def avE(b:im):Pv.isAgg 2 b.e:=⟨_,rfl,rfl⟩
@[simp]def auq(b:im):cells b.e=[.int .i64 b.v,b.s.e]:=rfl
def ub(b:fP)(m:Int):Int:=h4 b.t m
def P7(b:fP)(m:Int)(h:0<=m): -1<=ub b m/\ub b m<=m:=w2 b.t m h
def lW(b:im)(m:Int):Int:=if m-b.s.len<0 then-1 else m-b.s.len
def J0(b:im)(m:Int)(h:0<=m): -1<=lW b m/\lW b m<=m:=by have:=b.s.len_nn;unfold lW;split<;>omega
def GC(t:cv):ah.agg [.int .i64 t.kind,.int .i64 t.num,t.name.e,t.args.e 4 cv.e]=t.e:=(cv.e_eq t).symm
def as3(b:fP)(hw:b.t.wf)(m:Int)(a:0<=m)(J:m<=1048576):bK ar 67 [b.e,.int .i64 m] (.int .i64 (ub b m)):=by
 have key:=ab1 b.t hw m a J;have hle:=w2 b.t m a;unfold ub;generalize h4 b.t m=q at key hle⊢;by_cases c:q<0
 ·have:q= -1:=Ω
  subst this;refine br a7 Tryz.func67 Y4 fun d=>?_;unfold K3;simp[GC];(repeat' first|refine ak ?_|refine aI key ?_|refine aJ key ?_|simp[GC]);all_goals simp[bF,aX,aY,aW]
 ·refine br a7 Tryz.func67 Y4 fun d=>?_;unfold K3;simp[GC];(repeat' first|refine ak ?_|refine aI key ?_|refine aJ key ?_|simp[c,GC]);all_goals simp[bF,aX,aY,aW]
def atd(b:dm):bK ar 79 [b.e] b.e:=by have key:=ab4 b.t;refine br a7 Tryz.func79 anO fun a=>?_;unfold SP;exact ca
def asj(b:dm):bK ar 60 [b.e,b.e] (.bool true):=by have key:=abD b.t;refine br a7 Tryz.func60 anD fun a=>?_;unfold SE;exact ca
def as6(b:im)(hw:b.s.wf)(m:Int)(f:0<=m)(J:m<=1048576):bK ar 68 [b.e,.int .i64 m] (.int .i64 (lW b m)):=by
 have a:m-b.s.len<0->lW b m= -1:=fun g=>if_pos g;have c:¬m-b.s.len<0->lW b m=m-b.s.len:=fun g=>if_neg g;generalize lW b m=R at a c;obtain⟨v,s⟩:=b;simp only[im.e]at hw a c⊢;cases s with
 |b x=>
  simp only[hy.wf,nZ,lim]at hw;have g:m-x.size<0:=Ω
  have bg:=a g;subst bg;clear a c;simp only[hy.e];refine br a7 Tryz.func68 OB fun d=>?_;unfold GS;exact ca
 |s l=>
  simp only[hy.e];by_cases g:m-l.length<0
  ·have bg:=a g;subst bg;clear a c hw;refine br a7 Tryz.func68 OB fun d=>?_;unfold GS;have e:l.length<=68719476736:=by simp[eV,eN,eS,lim]at d;omega
   exact ca
  ·have bg:R=m-l.length:=c g;subst bg;clear a c hw;refine br a7 Tryz.func68 OB fun d=>?_;unfold GS;have e:l.length<=68719476736:=by simp[eV,eN,eS,lim]at d;omega
   exact ca
def atk(b:bR):bK ar 80 [b.e] b.e:=by refine br a7 Tryz.func80 anW fun a=>?_;unfold S0;exact ca
def atg(b:bq):bK ar 81 [b.e] b.e:=by refine br a7 Tryz.func81 anR fun a=>?_;unfold SU;exact ca
def asr(b:bR):bK ar 90 [b.e,b.e] (.bool true):=by refine br a7 Tryz.func90 anL fun a=>?_;unfold SM;exact ca
def asn(b:bq):bK ar 91 [b.e,b.e] (.bool true):=by refine br a7 Tryz.func91 anG fun a=>?_;unfold SH;exact ca
@[simp high] def axb(x y:bq):nW x.e 0 [.int .i64 y.v,.str y.s]=y.e:=rfl
@[simp high] def axa(x y:bR):nW x.e 0 [.int .i64 y.v,.int .i64 y.k]=y.e:=rfl
def as4(l:dn fP)(hw:∀p n cap,l= .b p n cap->nZ n)(c:∀xs,l= .l xs->∀x∈xs,∀m,0<=m->m<=1048576->bK ar 67 [fP.e x,.int .i64 m] (.int .i64 (ub x m)))(m:Int)(u:0<=m)(J:m<=1048576):bK ar 22 [l.e 5 fP.e,.int .i64 m] (.int .i64 (gP ub l m)):=by
 cases l with
 |b p n cap=>
  have s:=hw p n cap rfl;simp only[nZ,lim]at s;have g:m-n<0:=Ω
  simp only[dn.e,gP];clear hw c;refine br a7 Tryz.func22 Y5 fun o=>?_;unfold K4;exact ca
 |l l=>
 have c:=c l rfl;clear hw;simp only[dn.e,gP];generalize bg:oK ub l m=R;unfold oK at bg;refine br a7 Tryz.func22 Y5 fun o=>?_;unfold K4;have t:l.length<=68719476736:=by simp[eV,eN,eS,lim]at o;omega
 simp;by_cases g:m-l.length<0
 ·rw[if_pos g]at bg;subst bg;exact ca
 rw[if_neg g]at bg;(repeat' first|refine ak ?_|simp[g]);refine eH [0] (fun i (k:Int)=>[(1,.int .i64 k),(5,.int .i64 i)]) l.length (fun i k=>(0<=k/\k<=1048576)/\kt ub (l.drop i) k=R) (m-l.length) bU ⟨⟨Ω,Ω⟩,by simpa using bg⟩ (fun k a _=>?_) (fun i k hi a _=>?_)
 ·obtain⟨_,a⟩:=a;rw[List.drop_length]at a;simp only[kt]at a;subst a;exact ca
 ·obtain⟨⟨f,r⟩,a⟩:=a;obtain⟨x,e,j⟩:=dX hi;have key:=c x (ev e) k f r;have hle:=P7 x k f;rw[u0 e]at a;simp only[kt]at a;generalize ub x k=q at key hle a;clear e;by_cases d:q<0
  ·rw[if_pos d]at a;subst a;exact ca
  ·rw[if_neg d]at a;simp[hi,j];((repeat' first|refine ak ?_|refine aI key ?_|refine aJ key ?_|simp[hi,j,d]|((first|apply bV|apply b0|apply bZ)<;>intro h<;>try simp at h))<;>(try exact cA));all_goals exact bQ.rng q hi ⟨⟨Ω,Ω⟩,a⟩ bU
def ate(l:List dm)(j:∀x∈l,bK ar 79 [dm.e x] (dm.e x)):bK ar 28 [.slice 5 .no (l.map dm.e)] (.slice 5 .no (l.map dm.e)):=by
 refine br a7 Tryz.func28 anP fun h=>?_;unfold SQ;have k:l.length<=68719476736:=by simp[eV,eN,eS,lim]at h;omega
 simp;all_goals try refine⟨by unfold lim;omega,?_⟩
 (repeat' first|refine ak ?_|simp);have c:∀(S:aB->Prop) (n:Nat),ay S (sR n (.agg [.int .i64 0,.int .i64 0,.int .i64 0,.str [],.slice 4 .nil []]))=True:=fun S n=>eq_true (zS S _ pp n);refine gb (fun i (_:Unit)=>⟨[(0,.slice 5 .no (l.map dm.e)),(3,.row 5 (.loc 0) l.length),(4,.int .i64 i)],[],[(.loc 0,⟨l.length,74,5,some (jh dm.e (.agg [.int .i64 0,.int .i64 0,.int .i64 0,.str [],.slice 4 .nil []]) l i)⟩)],1,[]⟩) l.length (fun _ _=>True) () ⟨by simp[fresh,ay,au,bX,inObs,Pv.look,p4,c],dH (by simp[fresh,ay,au,bX,inObs,Pv.look,p4,c]),dK (by simp[fresh,ay,au,dD,inObs,Pv.look,p4,c]),Ψ⟩ trivial (fun _ _ _=>?_) (fun i _ hi _ _=>?_)
 ·rw[Fc];exact ca
 ·obtain⟨x,d,e⟩:=dX hi;have key:=j x (ev d);have f:=Fe dm.e (.agg [.int .i64 0,.int .i64 0,.int .i64 0,.str [],.slice 4 .nil []]) l hi;have b:=Ff dm.e (.agg [.int .i64 0,.int .i64 0,.int .i64 0,.str [],.slice 4 .nil []]) l d;have a:∀S:aB->Prop,ay S (jh dm.e (.agg [.int .i64 0,.int .i64 0,.int .i64 0,.str [],.slice 4 .nil []]) l (i+1)):=fun S=>E1 S _ _ _ _ (fun x=>by simp) pp;generalize jh dm.e (.agg [.int .i64 0,.int .i64 0,.int .i64 0,.str [],.slice 4 .nil []]) l i=r0 at f b;generalize g:jh dm.e (.agg [.int .i64 0,.int .i64 0,.int .i64 0,.str [],.slice 4 .nil []]) l (i+1)=m at b a;clear d;simp[hi,e];(repeat' first|refine ak ?_|refine aI key ?_|refine aJ key ?_|simp[hi,e,f,b]);all_goals refine bQ.rng () hi trivial ?_
  all_goals rw[g]
  all_goals first
   |exact⟨by simp[fresh,ay,au,bX,inObs,Pv.look,a],dH (by simp[fresh,ay,au,bX,inObs,Pv.look,a]),dK (by simp[fresh,ay,au,dD,inObs,Pv.look,a]),Ψ⟩
   |exact⟨by simp[fresh,ay,au,bX,inObs,Pv.look,a],dH (by simp[fresh,ay,au,bX,inObs,Pv.look,a]),dK (by simp[fresh,ay,au,dD,inObs,Pv.look,a];exact b),Ψ⟩
def asl(l:List dm)(c:∀x∈l,bK ar 60 [dm.e x,dm.e x] (.bool true)):bK ar 18 [.slice 5 .no (l.map dm.e),.slice 5 .no (l.map dm.e)] (.bool true):=by
 refine br a7 Tryz.func18 anE fun b=>?_;unfold SF;have d:l.length<=68719476736:=by simp[eV,eN,eS,lim]at b;omega
 simp;(repeat' first|refine ak ?_|simp);refine eH [0,1] (fun i (_:Unit)=>[(5,.int .i64 i)]) l.length (fun _ _=>True) () bU trivial (fun _ _ _=>?_) (fun i _ hi _ _=>?_)
 ·exact ca
 ·obtain⟨x,a,e⟩:=dX hi;have key:=c x (ev a);clear a;exact hS
def as7(l:dn im)(hw:∀p n cap,l= .b p n cap->nZ n)(c:∀xs,l= .l xs->∀x∈xs,∀m,0<=m->m<=1048576->bK ar 68 [im.e x,.int .i64 m] (.int .i64 (lW x m)))(m:Int)(u:0<=m)(J:m<=1048576):bK ar 25 [l.e 2 im.e,.int .i64 m] (.int .i64 (gP lW l m)):=by
 cases l with
 |b p n cap=>
  have s:=hw p n cap rfl;simp only[nZ,lim]at s;have g:m-n<0:=Ω
  simp only[dn.e,gP];clear hw c;refine br a7 Tryz.func25 Y7 fun o=>?_;unfold K6;exact ca
 |l l=>
 have c:=c l rfl;clear hw;simp only[dn.e,gP];generalize bg:oK lW l m=R;unfold oK at bg;refine br a7 Tryz.func25 Y7 fun o=>?_;unfold K6;have t:l.length<=68719476736:=by simp[eV,eN,eS,lim]at o;omega
 simp;by_cases g:m-l.length<0
 ·rw[if_pos g]at bg;subst bg;exact ca
 rw[if_neg g]at bg;(repeat' first|refine ak ?_|simp[g]);refine eH [0] (fun i (k:Int)=>[(1,.int .i64 k),(5,.int .i64 i)]) l.length (fun i k=>(0<=k/\k<=1048576)/\kt lW (l.drop i) k=R) (m-l.length) bU ⟨⟨Ω,Ω⟩,by simpa using bg⟩ (fun k a _=>?_) (fun i k hi a _=>?_)
 ·obtain⟨_,a⟩:=a;rw[List.drop_length]at a;simp only[kt]at a;subst a;exact ca
 ·obtain⟨⟨f,r⟩,a⟩:=a;obtain⟨x,e,j⟩:=dX hi;have key:=c x (ev e) k f r;have hle:=J0 x k f;rw[u0 e]at a;simp only[kt]at a;generalize lW x k=q at key hle a;clear e;by_cases d:q<0
  ·rw[if_pos d]at a;subst a;exact ca
  ·rw[if_neg d]at a;simp[hi,j];((repeat' first|refine ak ?_|refine aI key ?_|refine aJ key ?_|simp[hi,j,d]|((first|apply bV|apply b0|apply bZ)<;>intro h<;>try simp at h))<;>(try exact cA));all_goals exact bQ.rng q hi ⟨⟨Ω,Ω⟩,a⟩ bU
def ath(l:List bq)(j:∀x∈l,bK ar 81 [bq.e x] (bq.e x)):bK ar 31 [.slice 2 .no (l.map bq.e)] (.slice 2 .no (l.map bq.e)):=by
 refine br a7 Tryz.func31 anS fun h=>?_;unfold SV;have k:l.length<=68719476736:=by simp[eV,eN,eS,lim]at h;omega
 simp;all_goals try refine⟨by unfold lim;omega,?_⟩
 (repeat' first|refine ak ?_|simp);have c:∀(S:aB->Prop) (n:Nat),ay S (sR n ((⟨0,[]⟩:bq).e))=True:=fun S n=>eq_true (zS S _ pp n);refine gb (fun i (_:Unit)=>⟨[(0,.slice 2 .no (l.map bq.e)),(3,.row 2 (.loc 0) l.length),(4,.int .i64 i)],[],[(.loc 0,⟨l.length,82,2,some (jh bq.e ((⟨0,[]⟩:bq).e) l i)⟩)],1,[]⟩) l.length (fun _ _=>True) () ⟨by simp[fresh,ay,au,bX,inObs,Pv.look,p4,c],dH (by simp[fresh,ay,au,bX,inObs,Pv.look,p4,c]),dK (by simp[fresh,ay,au,dD,inObs,Pv.look,p4,c]),Ψ⟩ trivial (fun _ _ _=>?_) (fun i _ hi _ _=>?_)
 ·rw[Fc];exact ca
 ·obtain⟨x,d,e⟩:=dX hi;have key:=j x (ev d);have f:=Fe bq.e ((⟨0,[]⟩:bq).e) l hi;have b:=Ff bq.e ((⟨0,[]⟩:bq).e) l d;have a:∀S:aB->Prop,ay S (jh bq.e ((⟨0,[]⟩:bq).e) l (i+1)):=fun S=>E1 S _ _ _ _ (fun x=>by simp) pp;generalize jh bq.e ((⟨0,[]⟩:bq).e) l i=r0 at f b;generalize g:jh bq.e ((⟨0,[]⟩:bq).e) l (i+1)=m at b a;clear d;simp[hi,e];(repeat' first|refine ak ?_|refine aI key ?_|refine aJ key ?_|simp[hi,e,f,b,-nW]);all_goals refine bQ.rng () hi trivial ?_
  all_goals rw[g]
  all_goals first
   |exact⟨by simp[fresh,ay,au,bX,inObs,Pv.look,a],dH (by simp[fresh,ay,au,bX,inObs,Pv.look,a]),dK (by simp[fresh,ay,au,dD,inObs,Pv.look,a]),Ψ⟩
   |exact⟨by simp[fresh,ay,au,bX,inObs,Pv.look,a],dH (by simp[fresh,ay,au,bX,inObs,Pv.look,a]),dK (by simp[fresh,ay,au,dD,inObs,Pv.look,a];exact b),Ψ⟩
def aso(l:List bq)(c:∀x∈l,bK ar 91 [bq.e x,bq.e x] (.bool true)):bK ar 36 [.slice 2 .no (l.map bq.e),.slice 2 .no (l.map bq.e)] (.bool true):=by
 refine br a7 Tryz.func36 anH fun b=>?_;unfold SI;have d:l.length<=68719476736:=by simp[eV,eN,eS,lim]at b;omega
 simp;(repeat' first|refine ak ?_|simp);refine eH [0,1] (fun i (_:Unit)=>[(5,.int .i64 i)]) l.length (fun _ _=>True) () bU trivial (fun _ _ _=>?_) (fun i _ hi _ _=>?_)
 ·exact ca
 ·obtain⟨x,a,e⟩:=dX hi;have key:=c x (ev a);clear a;exact hS
def atl(l:List bR)(j:∀x∈l,bK ar 80 [bR.e x] (bR.e x)):bK ar 30 [.slice 2 .no (l.map bR.e)] (.slice 2 .no (l.map bR.e)):=by
 refine br a7 Tryz.func30 anX fun h=>?_;unfold S1;have k:l.length<=68719476736:=by simp[eV,eN,eS,lim]at h;omega
 simp;all_goals try refine⟨by unfold lim;omega,?_⟩
 (repeat' first|refine ak ?_|simp);have c:∀(S:aB->Prop) (n:Nat),ay S (sR n ((⟨0,0⟩:bR).e))=True:=fun S n=>eq_true (zS S _ pp n);refine gb (fun i (_:Unit)=>⟨[(0,.slice 2 .no (l.map bR.e)),(3,.row 2 (.loc 0) l.length),(4,.int .i64 i)],[],[(.loc 0,⟨l.length,78,2,some (jh bR.e ((⟨0,0⟩:bR).e) l i)⟩)],1,[]⟩) l.length (fun _ _=>True) () ⟨by simp[fresh,ay,au,bX,inObs,Pv.look,p4,c],dH (by simp[fresh,ay,au,bX,inObs,Pv.look,p4,c]),dK (by simp[fresh,ay,au,dD,inObs,Pv.look,p4,c]),Ψ⟩ trivial (fun _ _ _=>?_) (fun i _ hi _ _=>?_)
 ·rw[Fc];exact ca
 ·obtain⟨x,d,e⟩:=dX hi;have key:=j x (ev d);have f:=Fe bR.e ((⟨0,0⟩:bR).e) l hi;have b:=Ff bR.e ((⟨0,0⟩:bR).e) l d;have a:∀S:aB->Prop,ay S (jh bR.e ((⟨0,0⟩:bR).e) l (i+1)):=fun S=>E1 S _ _ _ _ (fun x=>by simp) pp;generalize jh bR.e ((⟨0,0⟩:bR).e) l i=r0 at f b;generalize g:jh bR.e ((⟨0,0⟩:bR).e) l (i+1)=m at b a;clear d;simp[hi,e];(repeat' first|refine ak ?_|refine aI key ?_|refine aJ key ?_|simp[hi,e,f,b,-nW]);all_goals refine bQ.rng () hi trivial ?_
  all_goals rw[g]
  all_goals first
   |exact⟨by simp[fresh,ay,au,bX,inObs,Pv.look,a],dH (by simp[fresh,ay,au,bX,inObs,Pv.look,a]),dK (by simp[fresh,ay,au,dD,inObs,Pv.look,a]),Ψ⟩
   |exact⟨by simp[fresh,ay,au,bX,inObs,Pv.look,a],dH (by simp[fresh,ay,au,bX,inObs,Pv.look,a]),dK (by simp[fresh,ay,au,dD,inObs,Pv.look,a];exact b),Ψ⟩
def ass(l:List bR)(c:∀x∈l,bK ar 90 [bR.e x,bR.e x] (.bool true)):bK ar 35 [.slice 2 .no (l.map bR.e),.slice 2 .no (l.map bR.e)] (.bool true):=by
 refine br a7 Tryz.func35 anM fun b=>?_;unfold SN;have d:l.length<=68719476736:=by simp[eV,eN,eS,lim]at b;omega
 simp;(repeat' first|refine ak ?_|simp);refine eH [0,1] (fun i (_:Unit)=>[(5,.int .i64 i)]) l.length (fun _ _=>True) () bU trivial (fun _ _ _=>?_) (fun i _ hi _ _=>?_)
 ·exact ca
 ·obtain⟨x,a,e⟩:=dX hi;have key:=c x (ev a);clear a;exact hS
def nY:dn bR->Int->Int
 | .l l,m=>if m-l.length<0 then-1 else m-l.length
 | .b _ _ _,_=> -1
def P8(l:dn bR)(m:Int)(h:0<=m): -1<=nY l m/\nY l m<=m:=by
 cases l with
 |l l=>simp only[nY];split<;>omega
 |b=>simp only[nY];omega
def ata(l:dn bR)(hw:∀p n cap,l= .b p n cap->nZ n)(m:Int)(e:0<=m)(J:m<=1048576):bK ar 24 [l.e 2 bR.e,.int .i64 m] (.int .i64 (nY l m)):=by
 cases l with
 |b p n cap=>
  have d:=hw p n cap rfl;simp only[nZ,lim]at d;have g:m-n<0:=Ω
  simp only[dn.e,nY];clear hw;refine br a7 Tryz.func24 OC fun a=>?_;unfold GU;exact ca
 |l l=>
  simp only[dn.e,nY];clear hw;by_cases g:m-l.length<0
  ·rw[if_pos g];refine br a7 Tryz.func24 OC fun a=>?_;unfold GU;have c:l.length<=68719476736:=by simp[eV,eN,eS,lim]at a;omega
   exact ca
  ·rw[if_neg g];refine br a7 Tryz.func24 OC fun a=>?_;unfold GU;have c:l.length<=68719476736:=by simp[eV,eN,eS,lim]at a;omega
   exact ca
def kZ(d:dn fP):ah:=d.e 5 fP.e
@[simp]def av5(S:aB->Prop)(d:dn fP):au S (kZ d)=True:=by cases d<;>simp[kZ,dn.e,au]
@[simp]def axN(d:dn fP):de (kZ d)=kZ d:=by
 cases d with
 |l l=>
  have:∀l:List fP,cR (l.map fP.e)=l.map fP.e:=by
   intro l;induction l with
   |nil=>rfl
   |cons x l a=>simp[cR,a]
  simp[kZ,dn.e,de,this]
 |b=>simp[kZ,dn.e,de]
def XT(S:aB->Prop):∀l:List (dn fP),ay S (l.map kZ)
 |[]=>by simp[ay]
 |x::xs=>by simp[ay,XT S xs]
@[simp]def avX(S:aB->Prop)(l:List (dn fP)):ay S (l.map kZ)=True:=eq_true (XT S l)
@[simp]def axo(d:dn fP):fh (kZ d)=true:=by cases d<;>rfl
@[simp]def auf(d:dn fP):cells (kZ d)=[kZ d]:=by cases d<;>rfl
def iT(d:dn fP)(m:Int):Int:=gP ub d m
def yt(d:dn fP)(m:Int)(h:0<=m): -1<=iT d m/\iT d m<=m:=w1 P7 d m h
def yz(d:dn fP):Prop:=d.wf fun b=>b.t.wf
@[simp]def arl:∀l:List (List dm),cR (l.map gz)=l.map gz
 |[]=>rfl
 |x::xs=>by simp[cR,arl xs]
def ab0(d:dn fP)(hw:yz d)(m:Int)(a:0<=m)(J:m<=1048576):bK ar 22 [kZ d,.int .i64 m] (.int .i64 (iT d m)):=as4 d (fun p n c e=>by subst e;exact hw) (fun xs e x b m a J=>by subst e;exact as3 x (hw x b) m a J) m a J
def ab3(d:List dm):bK ar 28 [gz d] (gz d):=ate d fun x _=>atd x
def abC(d:List dm):bK ar 18 [gz d,gz d] (.bool true):=asl d fun x _=>asj x
def as5(l:dn (dn fP))(hw:∀p n cap,l= .b p n cap->nZ n)(c:∀xs,l= .l xs->∀x∈xs,∀m,0<=m->m<=1048576->bK ar 22 [kZ x,.int .i64 m] (.int .i64 (iT x m)))(m:Int)(u:0<=m)(J:m<=1048576):bK ar 23 [l.e 1 kZ,.int .i64 m] (.int .i64 (gP iT l m)):=by
 cases l with
 |b p n cap=>
  have s:=hw p n cap rfl;simp only[nZ,lim]at s;have g:m-n<0:=Ω
  simp only[dn.e,gP];clear hw c;refine br a7 Tryz.func23 Y6 fun o=>?_;unfold K5;exact ca
 |l l=>
 have c:=c l rfl;clear hw;simp only[dn.e,gP];generalize bg:oK iT l m=R;unfold oK at bg;refine br a7 Tryz.func23 Y6 fun o=>?_;unfold K5;have t:l.length<=68719476736:=by simp[eV,eN,eS,lim]at o;omega
 simp;by_cases g:m-l.length<0
 ·rw[if_pos g]at bg;subst bg;exact ca
 rw[if_neg g]at bg;(repeat' first|refine ak ?_|simp[g]);refine eH [0] (fun i (k:Int)=>[(1,.int .i64 k),(5,.int .i64 i)]) l.length (fun i k=>(0<=k/\k<=1048576)/\kt iT (l.drop i) k=R) (m-l.length) bU ⟨⟨Ω,Ω⟩,by simpa using bg⟩ (fun k a _=>?_) (fun i k hi a _=>?_)
 ·obtain⟨_,a⟩:=a;rw[List.drop_length]at a;simp only[kt]at a;subst a;exact ca
 ·obtain⟨⟨f,r⟩,a⟩:=a;obtain⟨x,e,j⟩:=dX hi;have key:=c x (ev e) k f r;have hle:=yt x k f;rw[u0 e]at a;simp only[kt]at a;generalize iT x k=q at key hle a;clear e;by_cases d:q<0
  ·rw[if_pos d]at a;subst a;exact ca
  ·rw[if_neg d]at a;simp[hi,j];((repeat' first|refine ak ?_|refine aI key ?_|refine aJ key ?_|simp[hi,j,d]|((first|apply bV|apply b0|apply bZ)<;>intro h<;>try simp at h))<;>(try exact cA));all_goals exact bQ.rng q hi ⟨⟨Ω,Ω⟩,a⟩ bU
def atf(l:List (List dm))(j:∀x∈l,bK ar 28 [gz x] (gz x)):bK ar 29 [.slice 1 .no (l.map gz)] (.slice 1 .no (l.map gz)):=by
 refine br a7 Tryz.func29 anQ fun h=>?_;unfold SR;have k:l.length<=68719476736:=by simp[eV,eN,eS,lim]at h;omega
 simp;all_goals try refine⟨by unfold lim;omega,?_⟩
 (repeat' first|refine ak ?_|simp);have c:∀(S:aB->Prop) (n:Nat),ay S (sR n (.slice 5 .nil []))=True:=fun S n=>eq_true (zS S _ pp n);refine gb (fun i (_:Unit)=>⟨[(0,.slice 1 .no (l.map gz)),(3,.row 1 (.loc 0) l.length),(4,.int .i64 i)],[],[(.loc 0,⟨l.length,30,1,some (jh gz (.slice 5 .nil []) l i)⟩)],1,[]⟩) l.length (fun _ _=>True) () ⟨by simp[fresh,ay,au,bX,inObs,Pv.look,p4,c],dH (by simp[fresh,ay,au,bX,inObs,Pv.look,p4,c]),dK (by simp[fresh,ay,au,dD,inObs,Pv.look,p4,c]),Ψ⟩ trivial (fun _ _ _=>?_) (fun i _ hi _ _=>?_)
 ·rw[Fc];exact ca
 ·obtain⟨x,d,e⟩:=dX hi;have key:=j x (ev d);have f:=Fe gz (.slice 5 .nil []) l hi;have b:=Ff gz (.slice 5 .nil []) l d;have a:∀S:aB->Prop,ay S (jh gz (.slice 5 .nil []) l (i+1)):=fun S=>E1 S _ _ _ _ (fun x=>by simp) pp;generalize jh gz (.slice 5 .nil []) l i=r0 at f b;generalize g:jh gz (.slice 5 .nil []) l (i+1)=m at b a;clear d;simp[hi,e];(repeat' first|refine ak ?_|refine aI key ?_|refine aJ key ?_|simp[hi,e,f,b]);all_goals refine bQ.rng () hi trivial ?_
  all_goals rw[g]
  all_goals first
   |exact⟨by simp[fresh,ay,au,bX,inObs,Pv.look,a],dH (by simp[fresh,ay,au,bX,inObs,Pv.look,a]),dK (by simp[fresh,ay,au,dD,inObs,Pv.look,a]),Ψ⟩
   |exact⟨by simp[fresh,ay,au,bX,inObs,Pv.look,a],dH (by simp[fresh,ay,au,bX,inObs,Pv.look,a]),dK (by simp[fresh,ay,au,dD,inObs,Pv.look,a];exact b),Ψ⟩
def asm(l:List (List dm))(c:∀x∈l,bK ar 18 [gz x,gz x] (.bool true)):bK ar 34 [.slice 1 .no (l.map gz),.slice 1 .no (l.map gz)] (.bool true):=by
 refine br a7 Tryz.func34 anF fun b=>?_;unfold SG;have d:l.length<=68719476736:=by simp[eV,eN,eS,lim]at b;omega
 simp;(repeat' first|refine ak ?_|simp);refine eH [0,1] (fun i (_:Unit)=>[(5,.int .i64 i)]) l.length (fun _ _=>True) () bU trivial (fun _ _ _=>?_) (fun i _ hi _ _=>?_)
 ·exact ca
 ·obtain⟨x,a,e⟩:=dX hi;have key:=c x (ev a);clear a;exact hS
def Tu:C:=(aa [bs 6 false] (aa [I 7 0,I 8 1,bp 9 .geq 7 8,I 10 9,ck 10 true 11 0,ck 10 true 12 2,ax 10 true (bp 13 .leq 11 12),ei 14 10 13,I 6 14] .ret))
def Lf:C:=(aa [bs 2 false] (.seq (aa [I 9 0,cI 10 118 9,cH 11 10] (aU 11 (aa [bs 2 false] .ret) .skip)) (.seq (aa [I 12 0,cd 13 12,bT 14 0] (fo 15 14 13 (.seq (.block 1 (aa [cq 16 5 12 14,bh 17 5 16,dV 4 kI,b1 5 4 17] (.seq (aa [fY 18 1 4 4,aK 19 0 1 18,aw 20 1 19,aS 21 .eql 20 1,I 22 21,ax 22 true (fY 23 1 4 4),ax 22 true (aK 24 1 1 23),ax 22 true (aw 25 1 24),ax 22 true (aK 26 0 1 4),ax 22 true (aw 27 1 26),ax 22 true (bp 28 .geq 25 27),ei 29 22 28] (aU 29 (aa [bs 2 false] .ret) .skip)) (aa [fY 30 1 4 4,bh 31 4 30,ec 32 119 [.t 31,(.c (.slice 1 .nil []))],cd 33 32,bT 34 0] (.block 2 (.loop (aa [bp 35 .lss 34 33] (.seq (aU 35 .skip (.exit 2)) (.seq (.block 3 (aa [cq 36 1 32 34,aw 37 1 36,I 6 37] (aa [I 39 0,I 40 6,ch 41 108 39 40,I 38 41,dr 42 0 38,dr 43 1 38,dV 7 eb,b1 4 7 42,I 8 43] (aa [I 44 8] (aU 44 (aa [bs 2 false] .ret) .skip))))) (.region [aS 45 .add 34 1,I 34 45])))))))))) (.region [aS 46 .add 14 1,I 14 46])))) (aa [bs 2 true] .ret))))
def TH:C:=(aa [dV 4 eb,bs 5 false] (.seq (aa [I 8 0,cd 9 8,bT 10 0] (fo 11 10 9 (.seq (.block 1 (aa [cq 12 5 8 10,bh 13 5 12,dV 7 kI,b1 5 7 13] (aa [aK 14 0 1 7,aw 15 1 14,I 16 1,bp 17 .eql 15 16] (aU 17 (aa [fY 18 1 4 7,bh 19 4 18,b1 4 4 19,bs 5 true] .ret) .skip)))) (.region [aS 20 .add 10 1,I 10 20])))) (aa [lJ 21 eb [],b1 4 4 21,bs 5 false] .ret)))
def TI:C:=(aa [c6 3 1,e1 4 5] (aa [I 7 0,cd 8 7,I 5 8] (.seq (.block 0 (.loop (.seq (.seq (.drawn true 38 [I 9 5,aS 10 .gtr 9 0,I 11 10,ck 11 true 12 0,ck 11 true 13 5,ax 11 true (aS 14 .sub 13 1),ax 11 true (cq 15 5 12 14),ax 11 true (aK 16 0 1 15),ax 11 true (aw 17 1 16),ax 11 true (aK 18 0 1 3),ax 11 true (aw 19 1 18),ax 11 true (bp 20 .gtr 17 19),ei 21 11 20]) (aU 21 .skip (.exit 0))) (.block 1 (.region [I 22 5,aS 23 .sub 22 1,I 5 23]))))) (aa [eE 24 5 74 [],I 25 0,I 26 5,bH 27 (.lsl 5 (.t 25) none (some (.t 26))),hv 28 5 74 24 27,I 6 28] (aa [I 29 6,bh 30 5 3,eE 31 5 74 [.t 30],hv 32 5 74 29 31,I 6 32] (aa [I 33 6,I 34 0,I 35 5,bH 36 (.lsl 5 (.t 34) (some (.t 35)) none),hv 37 5 74 33 36,I 4 37] .ret))))))
def GZ:C:=(aa [c6 3 1,dV 4 eb] (.seq (aa [aK 7 0 1 3,aw 8 1 7,aS 9 .eql 8 1] (aU 9 (aa [I 11 0,aK 12 1 1 3,aw 13 1 12,ch 14 108 11 13,I 10 14,dr 15 0 10,dr 16 1 10,dV 5 eb,b1 4 5 15,I 6 16] (aa [I 17 6] (aU 17 (aa [bh 18 4 5,b1 4 4 18] .ret) .skip))) .skip)) (.seq (aa [aK 19 0 1 3,aw 20 1 19,aS 21 .eql 20 4] (aU 21 (.seq (.drawn true 36 [I 22 0,aK 23 3 1 3,aw 24 1 23,iy 25 4 24 0,bh 26 4 25,ch 27 111 22 26,I 28 0,aK 29 3 1 3,aw 30 1 29,iy 31 4 30 1,bh 32 4 31,ch 33 111 28 32,ch 34 95 27 33,b1 4 4 34]) .ret) .skip)) (aa [bh 35 4 3,b1 4 4 35] .ret))))
def TJ:C:=(aa [bs 2 false] (.seq (aa [I 5 0,cd 6 5,bT 7 0] (fo 8 7 6 (.seq (.block 1 (aa [I 9 7,cq 10 5 5 7,bh 11 5 10,dV 4 kI,I 3 9,b1 5 4 11] (.seq (.drawn true 41 [I 12 3,aS 13 .gtr 12 0,I 14 13,ck 14 true 15 0,ck 14 true 16 3,ax 14 true (aS 17 .sub 16 1),ax 14 true (cq 18 5 15 17),ax 14 true (aK 19 0 1 18),ax 14 true (aw 20 1 19),ax 14 true (aK 21 0 1 4),ax 14 true (aw 22 1 21),ax 14 true (bp 23 .geq 20 22),ei 24 14 23,I 25 24,ax 25 false (aK 26 0 1 4),ax 25 false (aw 27 1 26),ax 25 false (ec 28 69 [.t 27,(gu 0),(gu 100000)]),ax 25 false (cH 29 28),dy 30 25 29,I 31 30,ax 31 false (fY 32 1 4 4),ax 31 false (bh 33 4 32),ax 31 false (cI 34 143 33),ax 31 false (cH 35 34),dy 36 31 35]) (aU 36 (aa [bs 2 false] .ret) .skip)))) (.region [aS 37 .add 7 1,I 7 37])))) (aa [I 38 0,cd 39 38,aS 40 .leq 39 400,I 2 40] .ret)))
def A2:C:=(aa [c6 2 0,e1 4 1] (.seq (aa [aK 7 0 1 2,aw 8 1 7,aS 9 .eql 8 1] (aU 9 (aa [I 10 1,aK 11 1 1 2,aw 12 1 11,ch 13 160 10 12,I 4 13] .ret) .skip)) (.seq (aa [aK 14 3 1 2,aw 15 1 14,cd 16 15,bT 17 0] (fo 18 17 16 (.seq (.block 1 (aa [cq 19 4 15 17,bh 20 4 19,dV 6 eb,b1 4 6 20] (.region [bh 21 4 6,I 22 1,ch 23 119 21 22,I 1 23]))) (.region [aS 24 .add 17 1,I 17 24])))) (aa [I 25 1,I 4 25] .ret))))
def Tn:C:=(aa [bs 2 false] (.seq (aa [bT 3 0] (.block 0 (.loop (.seq (aa [I 5 3,I 6 0,bH 7 (.slen (.t 6)),bp 8 .lss 5 7] (aU 8 .skip (.exit 0))) (.seq (.block 1 (aa [I 11 0,I 12 3,bH 13 (.sidx (.t 11) (.t 12)),bH 14 (.bin .geq false (.t 13) (.c (.int .u8 97))),I 15 14,ck 15 true 16 0,ck 15 true 17 3,ax 15 true (bH 18 (.sidx (.t 16) (.t 17))),ax 15 true (bH 19 (.bin .leq false (.t 18) (.c (.int .u8 122)))),ei 20 15 19,I 4 20] (aa [I 21 4,cH 22 21,I 23 22,ck 23 true 24 3,ax 23 true (aS 25 .eql 24 0),ck 23 true 26 25,ck 26 false 27 0,ck 26 false 28 3,ax 26 false (bH 29 (.sidx (.t 27) (.t 28))),ax 26 false (bH 30 (.bin .neq false (.t 29) (.c (.int .u8 45)))),ck 26 false 31 30,ck 31 true 32 0,ck 31 true 33 3,ax 31 true (bH 34 (.sidx (.t 32) (.t 33))),ax 31 true (bH 35 (.conv .i64 (.t 34))),ax 31 true (ec 36 69 [.t 35,(gu 48),(gu 57)]),ax 31 true (cH 37 36),ax 26 false (ei 38 31 37),ax 23 true (dy 39 26 38),ei 40 23 39] (aU 40 (aa [bs 2 false] .ret) .skip)))) (.region [I 9 3,aS 10 .add 9 1,I 3 10])))))) (aa [I 41 0,bH 42 (.slen (.t 41)),ec 43 69 [.t 42,(gu 1),(gu 12)],I 2 43] .ret)))
def TL:C:=(aa [e1 4 5,bs 5 false] (aa [eE 10 4 71 [],I 6 10] (aa [eE 11 4 71 [],I 7 11] (.seq (aa [I 12 1,cd 13 12,bT 14 0] (fo 15 14 13 (.seq (.block 1 (aa [cq 16 5 12 14,bh 17 5 16,dV 9 kI,b1 5 9 17] (aa [I 18 6,aK 19 0 1 9,aw 20 1 19,cI 21 40 20,eE 22 4 71 [.t 21],hv 23 4 71 18 22,I 6 23] (.region [I 24 7,fY 25 1 4 9,bh 26 4 25,eE 27 4 71 [.t 26],hv 28 4 71 24 27,I 7 28])))) (.region [aS 29 .add 14 1,I 14 29])))) (aa [I 30 0,I 31 6,I 32 7,ec 33 163 [.t 30,.t 31,.t 32],dr 34 0 33,dr 35 1 33,I 4 34,I 5 35] .ret)))))
def Tt:C:=(aa [c6 1 0,bs 2 false] (aa [bh 3 4 1,ec 4 175 [.t 3,(gu 5000)],aS 5 .leq 4 5000,I 6 5,ax 6 true (bh 7 4 1),ax 6 true (cI 8 176 7),ei 9 6 8,I 2 9] .ret))
def Tz:C:=(aa [e1 4 1] (aa [I 7 0,cd 8 7,I 5 8] (.seq (.block 0 (.loop (.seq (aa [I 9 5,aS 10 .gtr 9 0,I 11 10,ck 11 true 12 0,ck 11 true 13 5,ax 11 true (aS 14 .sub 13 1),ax 11 true (cq 15 1 12 14),ax 11 true (aw 16 1 15),ck 11 true 17 1,ax 11 true (bp 18 .geq 16 17),ei 19 11 18] (aU 19 .skip (.exit 0))) (.block 1 (.region [I 20 5,aS 21 .sub 20 1,I 5 21]))))) (.seq (aa [I 22 5,I 23 0,cd 24 23,bp 25 .lss 22 24,I 26 25,ck 26 true 27 0,ck 26 true 28 5,ax 26 true (cq 29 1 27 28),ax 26 true (aw 30 1 29),ck 26 true 31 1,ax 26 true (bp 32 .eql 30 31),ei 33 26 32] (aU 33 (aa [I 34 0,I 4 34] .ret) .skip)) (aa [eE 35 1 3 [],I 36 0,I 37 5,bH 38 (.lsl 1 (.t 36) none (some (.t 37))),hv 39 1 3 35 38,I 6 39] (aa [I 40 6,I 41 1,eE 42 1 3 [.t 41],hv 43 1 3 40 42,I 6 43] (aa [I 44 6,I 45 0,I 46 5,bH 47 (.lsl 1 (.t 45) (some (.t 46)) none),hv 48 1 3 44 47,I 4 48] .ret)))))))
def G0:C:=(aa [c6 3 1,dV 4 eb] (.seq (aa [aK 7 0 1 3,aw 8 1 7,aS 9 .eql 8 1] (aU 9 (aa [I 11 0,aK 12 1 1 3,aw 13 1 12,ch 14 108 11 13,I 10 14,dr 15 0 10,dr 16 1 10,dV 5 eb,b1 4 5 15,I 6 16] (aa [I 17 6] (aU 17 (aa [bh 18 4 5,b1 4 4 18] .ret) .skip))) .skip)) (aa [bh 19 4 3,b1 4 4 19] .ret)))
def TK:C:=(aa [e1 6 5,bs 7 false] (.seq (aa [I 12 1,cd 13 12,bT 14 0] (fo 15 14 13 (.seq (.block 1 (aa [I 16 14,cq 17 4 12 14,bh 18 4 17,dV 9 eb,I 8 16,b1 4 9 18] (.seq (.drawn true 34 [I 20 0,bh 21 4 9,I 22 2,I 23 8,cq 24 4 22 23,bh 25 4 24,ec 26 183 [.t 20,.t 21,.t 25],I 19 26,dr 27 0 19,dr 28 1 19,I 10 27,I 11 28]) (.seq (aa [I 29 11,cH 30 29] (aU 30 (aa [e1 6 5,bs 7 false] .ret) .skip)) (.region [I 31 10,I 0 31]))))) (.region [aS 32 .add 14 1,I 14 32])))) (aa [I 33 0,I 6 33,bs 7 true] .ret)))
def Tw:C:=(aa [c6 2 0,bT 4 0] (aa [bT 5 1] (.seq (aa [aK 8 3 1 2,aw 9 1 8,cd 10 9,bT 11 0] (fo 12 11 10 (.seq (.block 1 (aa [cq 13 4 9 11,bh 14 4 13,dV 7 eb,b1 4 7 14] (.seq (aa [I 15 5,I 16 1,bp 17 .gtr 15 16] (aU 17 (aa [I 18 5,I 4 18] .ret) .skip)) (.region [I 19 5,bh 20 4 7,I 21 1,I 22 5,bp 23 .sub 21 22,ch 24 175 20 23,bp 25 .add 19 24,I 5 25])))) (.region [aS 26 .add 11 1,I 11 26])))) (aa [I 27 5,I 4 27] .ret))))
def mV:C:=(aa [c6 1 0,bs 2 false] (.seq (aa (aK 3 0 1 1::aw 4 1 3::aS 5 .neq 4 1::I 6 5::ax 6 true (aK 7 0 1 1)::ax 6 true (aw 8 1 7)::ax 6 true (aS 9 .neq 8 3)::ei 10 6 9::I 11 10::ax 11 true (aK 12 1 1 1)::ax 11 true (aw 13 1 12)::ax 11 true (aS 14 .neq 13 0)::ei 15 11 14::I 16 15::ax 16 false (aK 17 0 1 1)::ax 16 false (aw 18 1 17)::ax 16 false (aS 19 .neq 18 2)::ck 16 false 20 19::ax 20 true (aK 21 2 1 1)::ax 20 true (aw 22 1 21)::yA 20 true 23 (.bin .neq false (.t 22) (.c (.str [])))::ax 16 false (ei 24 20 23)::dy 25 16 24::I 26 25::ax 26 false (aK 27 0 1 1)::ax 26 false (aw 28 1 27)::ax 26 false (aS 29 .neq 28 4)::ck 26 false 30 29::ax 30 true (aK 31 3 1 1)::ax 30 true (aw 32 1 31)::ax 30 true (cd 33 32)::ax 30 true (aS 34 .gtr 33 0)::ax 26 false (ei 35 30 34)::dy 36 26 35::[]) (aU 36 (aa [bs 2 false] .ret) .skip)) (.seq (aa [aK 37 0 1 1,aw 38 1 37] (.block 0 (aa [aS 40 .eql 38 0,I 39 40] (aU 39 (aa [bs 2 true] .ret) (aa [aS 42 .eql 38 1,I 41 42] (aU 41 (aa [aK 43 1 1 1,aw 44 1 43,ec 45 69 [.t 44,(gu 0),(gu 100000)],I 2 45] .ret) (aa [aS 47 .eql 38 2,I 46 47] (aU 46 (aa [aK 48 2 1 1,aw 49 1 48,cI 50 121 49,I 2 50] .ret) (aa [aS 52 .eql 38 3,I 51 52] (aU 51 (aa [aK 53 1 1 1,aw 54 1 53,ec 55 69 [.t 54,(gu (-1000000000)),(gu 1000000000)],I 2 55] .ret) (aa [aS 57 .eql 38 4,I 56 57] (aU 56 (aa [aK 58 3 1 1,aw 59 1 58,cd 60 59,aS 61 .eql 60 2,I 62 61,ax 62 true (aK 63 3 1 1),ax 62 true (aw 64 1 63),ax 62 true (iy 65 4 64 0),ax 62 true (bh 66 4 65),ax 62 true (cI 67 176 66),ei 68 62 67,I 69 68,ax 69 true (aK 70 3 1 1),ax 69 true (aw 71 1 70),ax 69 true (iy 72 4 71 1),ax 69 true (bh 73 4 72),ax 69 true (cI 74 176 73),ei 75 69 74,I 2 75] .ret) .skip)))))))))))) (aa [bs 2 false] .ret))))
def ux:C:=(aa [c6 4 1,c6 5 2,e1 6 5,bs 7 false] (aa [I 12 0,bh 13 4 4,ch 14 161 12 13,b1 4 4 14] (aa [I 15 0,bh 16 4 5,ch 17 161 15 16,b1 4 5 17] (.seq (aa [aK 18 0 1 4,aw 19 1 18,aS 20 .eql 19 1,I 21 20,ax 21 true (aK 22 0 1 5),ax 21 true (aw 23 1 22),ax 21 true (aS 24 .eql 23 1),ei 25 21 24,I 26 25,ax 26 true (aK 27 1 1 4),ax 26 true (aw 28 1 27),ax 26 true (aK 29 1 1 5),ax 26 true (aw 30 1 29),ax 26 true (bp 31 .lss 28 30),ei 32 26 31] (aU 32 (aa [I 33 0,aK 34 1 1 5,aw 35 1 34,bh 36 4 4,ec 37 205 [.t 33,.t 35,.t 36],dr 38 0 37,dr 39 1 37,I 6 38,I 7 39] .ret) .skip)) (.seq (aa [aK 40 0 1 4,aw 41 1 40,aS 42 .eql 41 1,I 43 42,ax 43 true (aK 44 0 1 5),ax 43 true (aw 45 1 44),ax 43 true (aS 46 .eql 45 1),ei 47 43 46,I 48 47,ax 48 true (aK 49 1 1 4),ax 48 true (aw 50 1 49),ax 48 true (aK 51 1 1 5),ax 48 true (aw 52 1 51),ax 48 true (bp 53 .eql 50 52),ei 54 48 53] (aU 54 (aa [I 55 0,I 6 55,bs 7 true] .ret) .skip)) (.seq (aa [aK 56 0 1 4,aw 57 1 56,aS 58 .eql 57 1] (aU 58 (aa [I 59 0,aK 60 1 1 4,aw 61 1 60,bh 62 4 5,ec 63 205 [.t 59,.t 61,.t 62],dr 64 0 63,dr 65 1 63,I 6 64,I 7 65] .ret) .skip)) (.seq (aa [aK 66 0 1 5,aw 67 1 66,aS 68 .eql 67 1] (aU 68 (aa [I 69 0,aK 70 1 1 5,aw 71 1 70,bh 72 4 4,ec 73 205 [.t 69,.t 71,.t 72],dr 74 0 73,dr 75 1 73,I 6 74,I 7 75] .ret) .skip)) (.seq (aa [aK 76 0 1 4,aw 77 1 76,aK 78 0 1 5,aw 79 1 78,bp 80 .neq 77 79,I 81 80,ax 81 false (aK 82 1 1 4),ax 81 false (aw 83 1 82),ax 81 false (aK 84 1 1 5),ax 81 false (aw 85 1 84),ax 81 false (bp 86 .neq 83 85),dy 87 81 86,I 88 87,ax 88 false (aK 89 2 1 4),ax 88 false (aw 90 1 89),ax 88 false (aK 91 2 1 5),ax 88 false (aw 92 1 91),ax 88 false (bp 93 .neq 90 92),dy 94 88 93] (aU 94 (aa [e1 6 5,bs 7 false] .ret) .skip)) (.seq (aa [aK 95 3 1 4,aw 96 1 95,cd 97 96,bT 98 0] (fo 99 98 97 (.seq (.block 1 (aa [I 100 98,cq 101 4 96 98,bh 102 4 101,dV 9 eb,I 8 100,b1 4 9 102] (.seq (.drawn true 119 [I 104 0,bh 105 4 9,aK 106 3 1 5,aw 107 1 106,I 108 8,cq 109 4 107 108,bh 110 4 109,ec 111 183 [.t 104,.t 105,.t 110],I 103 111,dr 112 0 103,dr 113 1 103,I 10 112,I 11 113]) (.seq (aa [I 114 11,cH 115 114] (aU 115 (aa [e1 6 5,bs 7 false] .ret) .skip)) (.region [I 116 10,I 0 116]))))) (.region [aS 117 .add 98 1,I 98 117])))) (aa [I 118 0,I 6 118,bs 7 true] .ret))))))))))
def TG:C:=(aa [c6 3 1,dV 4 eb,bs 5 false] (aa [I 7 0,bh 8 4 3,ch 9 111 7 8,dV 6 eb,b1 4 6 9] (.seq (.drawn true 13 [bh 10 4 6,bh 11 4 6,cI 12 206 11,b1 4 4 10,I 5 12]) .ret)))
def Du:C:=(aa [c6 5 2,e1 6 5,bs 7 false] (aa [I 15 0,bh 16 4 5,ch 17 184 15 16,I 14 17,dr 18 0 14,dr 19 1 14,dV 8 eb,b1 4 8 18,I 9 19] (.seq (aa [I 20 9,cH 21 20,I 22 21,ck 22 false 23 1,ax 22 false (bh 24 4 8),ax 22 false (ch 25 231 23 24),dy 26 22 25,I 27 26,ck 27 false 28 0,ax 27 false (cd 29 28),ax 27 false (aS 30 .geq 29 400),dy 31 27 30] (aU 31 (aa [e1 6 5,bs 7 false] .ret) .skip)) (aa [eE 32 5 74 [],I 10 32] (.seq (aa [I 33 0,cd 34 33,bT 35 0] (fo 36 35 34 (.seq (.block 1 (aa [cq 37 5 33 35,bh 38 5 37,dV 12 kI,b1 5 12 38] (aa [fY 39 1 4 12,bh 40 4 39,I 41 1,bh 42 4 8,ec 43 232 [.t 40,.t 41,.t 42],dV 13 eb,b1 4 13 43] (.seq (aa [bh 44 4 13,cI 45 206 44,cH 46 45] (aU 46 (aa [e1 6 5,bs 7 false] .ret) .skip)) (.region [I 47 10,aK 48 0 1 12,aw 49 1 48,bh 50 4 13,lJ 51 kI [(0,1,(.t 49)),(1,4,(.t 50))],eE 52 5 74 [.t 51],hv 53 5 74 47 52,I 10 53]))))) (.region [aS 54 .add 35 1,I 35 54])))) (aa [I 55 10,I 56 1,bh 57 4 8,lJ 58 kI [(0,1,(.t 56)),(1,4,(.t 57))],ch 59 110 55 58,I 6 59,bs 7 true] .ret))))))
def Tx:C:=(aa [c6 1 0,bs 2 false] (aa [bh 3 4 1,ec 4 175 [.t 3,(gu 5000)],aS 5 .leq 4 5000,I 2 5] .ret))
def TB:C:=(aa [c6 3 1,bs 4 false] (.seq (aa [aK 7 3 1 3,aw 8 1 7,cd 9 8,bT 10 0] (fo 11 10 9 (.seq (.block 1 (aa [cq 12 4 8 10,bh 13 4 12,dV 6 eb,b1 4 6 13] (aa [I 14 0,bh 15 4 6,ch 16 231 14 15] (aU 16 (aa [bs 4 true] .ret) .skip)))) (.region [aS 17 .add 10 1,I 10 17])))) (aa [aK 18 0 1 3,aw 19 1 18,aS 20 .eql 19 1,I 21 20,ax 21 true (aK 22 1 1 3),ax 21 true (aw 23 1 22),ck 21 true 24 0,ax 21 true (bp 25 .eql 23 24),ei 26 21 25,I 4 26] .ret)))
def GY:C:=(aa [c6 3 0,c6 5 2,dV 6 eb] (.seq (aa [aK 7 0 1 3,aw 8 1 7,aS 9 .eql 8 1,I 10 9,ax 10 true (aK 11 1 1 3),ax 10 true (aw 12 1 11),ck 10 true 13 1,ax 10 true (bp 14 .eql 12 13),ei 15 10 14] (aU 15 (aa [bh 16 4 5,b1 4 6 16] .ret) .skip)) (.seq (aa [aK 17 0 1 3,aw 18 1 17,aS 19 .eql 18 4] (aU 19 (.seq (.drawn true 36 [aK 20 3 1 3,aw 21 1 20,iy 22 4 21 0,bh 23 4 22,I 24 1,bh 25 4 5,ec 26 232 [.t 23,.t 24,.t 25],aK 27 3 1 3,aw 28 1 27,iy 29 4 28 1,bh 30 4 29,I 31 1,bh 32 4 5,ec 33 232 [.t 30,.t 31,.t 32],ch 34 95 26 33,b1 4 6 34]) .ret) .skip)) (aa [bh 35 4 3,b1 4 6 35] .ret))))
def aoq:b4 aT Tu [.tmp 6] 3 Tryz.f69=true:=an
def Zb:b4 aT Lf [.tmp 2] 1 Tryz.f70=true:=an
def aoD:b4 aT TH [.cell 4 true 4,.tmp 5] 2 Tryz.f108=true:=an
def aoE:b4 aT TI [.tmp 4] 2 Tryz.f110=true:=an
def OF:b4 aT GZ [.cell 4 true 4] 2 Tryz.f111=true:=an
def aoF:b4 aT TJ [.tmp 2] 1 Tryz.f118=true:=an
def Fp:b4 aT A2 [.tmp 4] 2 Tryz.f119=true:=an
def aoj:b4 aT Tn [.tmp 2] 1 Tryz.f121=true:=an
def aoH:b4 aT TL [.tmp 4,.tmp 5] 2 Tryz.f126=true:=an
def aop:b4 aT Tt [.tmp 2] 1 Tryz.f143=true:=an
def aov:b4 aT Tz [.tmp 4] 2 Tryz.f160=true:=an
def OG:b4 aT G0 [.cell 4 true 4] 2 Tryz.f161=true:=an
def aoG:b4 aT TK [.tmp 6,.tmp 7] 3 Tryz.f163=true:=an
def aos:b4 aT Tw [.tmp 4] 2 Tryz.f175=true:=an
def nU:b4 aT mV [.tmp 2] 1 Tryz.f176=true:=an
def wF:b4 aT ux [.tmp 6,.tmp 7] 3 Tryz.f183=true:=an
def aoC:b4 aT TG [.cell 4 true 4,.tmp 5] 2 Tryz.f184=true:=an
def I2:b4 aT Du [.tmp 6,.tmp 7] 3 Tryz.f205=true:=an
def aot:b4 aT Tx [.tmp 2] 1 Tryz.f206=true:=an
def aox:b4 aT TB [.tmp 4] 2 Tryz.f231=true:=an
def OE:b4 aT GY [.cell 6 true 4] 3 Tryz.f232=true:=an
mutual
def mz:bO->Int->Int
 | .mk _ _ _ args,m=>cntLS args 1 m
def cntLS:List bO->Int->Int->Int
 |[],n,_=>n
 |x::xs,n,m=>if m<n then n else cntLS xs (n+mz x (m-n)) m
end
mutual
def Ll:∀(t:bO) (m:Int),0<=m->1<=mz t m/\mz t m<=m+1
 | .mk _ _ _ args,m,h=>by simp only[mz];exact Ua args 1 m h Ω Ω
def Ua:∀(l:List bO) (n m:Int),0<=m->1<=n->n<=m+1->1<=cntLS l n m/\cntLS l n m<=m+1
 |[],n,m,_,J,U=>by simp only[cntLS];exact⟨J,U⟩
 |x::xs,n,m,a,J,U=>by
  simp only[cntLS];split
  ·exact⟨J,U⟩
  ·have:=Ll x (m-n) Ω;exact Ua xs _ m a Ω Ω
end
def G6:∀(t:T) (m:Int),0<=m->(mz t.tm m<=m↔(t.size:Int)<=m)/\((t.size:Int)<=m->mz t.tm m=t.size)
 | .pair a b,m,h=>by
  have i:=T.size_pos a;have ae:=T.size_pos b;simp only[T.tm,mz,cntLS,T.size];by_cases J:m<1
  ·rw[if_pos J];exact⟨Ω,fun h=>Ω⟩
  ·rw[if_neg J];obtain⟨c,a2⟩:=G6 a (m-1) Ω;have a3:=Ll a.tm (m-1) Ω;by_cases U:(a.size:Int)<=m-1
   ·have e:=a2 U;rw[e];by_cases f:m<1+(a.size:Int)
    ·omega
    ·rw[if_neg f];obtain⟨g,d⟩:=G6 b (m-(1+a.size)) Ω;refine⟨Ω,fun h=>?_⟩;rw[d Ω];omega
   ·have:¬mz a.tm (m-1)<=m-1:=fun h=>U (c.1 h);rw[if_pos Ω];exact⟨Ω,fun h=>Ω⟩
 | .nil,m,h=>by simp[T.tm,mz,cntLS,T.size]
 | .var _,m,h=>by simp[T.tm,mz,cntLS,T.size]
 | .sym _,m,h=>by simp[T.tm,mz,cntLS,T.size]
 | .num _,m,h=>by simp[T.tm,mz,cntLS,T.size]
def aes(t:bO)(m:Int):mz t m=cntLS t.args 1 m:=by cases t;rfl
def abJ(t:bO):∀m:Int,0<=m->m<=1000000->bK ar 175 [enc t,.int .i64 m] (.int .i64 (mz t m)):=by
 suffices H:∀(k:Nat) (t:bO),t.sz<=k->∀m:Int,0<=m->m<=1000000->bK ar 175 [enc t,.int .i64 m] (.int .i64 (mz t m))from H _ t (e2 _)
 intro k;induction k with
 |zero=>intro t aM;cases t;simp[bO.sz]at aM
 |succ k d=>
  intro t aM m o J;refine br a7 Tryz.func175 aos fun e=>?_;unfold Tw;have l:t.args.length<=68719476736:=by rw[Ba]at e;simp[eV,eN,eS,lim]at e;omega
  simp;refine eH [1,9,10] (fun i (n:Int)=>[(5,.int .i64 n),(11,.int .i64 i)]) t.args.length (fun i n=>(1<=n/\n<=m+1)/\cntLS (t.args.drop i) n m=mz t m) 1 bU ⟨Ω,by simp[aes]⟩ (fun n a _=>?_) (fun i n hi a _=>?_)
  ·simp;(repeat' first|refine ak ?_|simp);simp[bF,aX,aY,aW];have:=a.2;simp[cntLS]at this;exact this
  ·obtain⟨⟨j,p⟩,a⟩:=a;obtain⟨x,f,c⟩:=dX hi;have g:t.args.drop i=x::t.args.drop (i+1):=by rw[mu hi,c]
   have b:x.sz<=k:=by have:=Qd (ev f);omega
   rw[g]at a;simp only[cntLS]at a;simp[hi,c];by_cases ae:m<n
   ·rw[if_pos ae]at a;(repeat' first|refine ak ?_|simp[ae]);simp[bF,aX,aY,aW];exact a
   ·rw[if_neg ae]at a;have aA:=Ll x (m-n) Ω;((repeat' first|refine ak ?_|refine aI (d x b (m-n) Ω Ω) ?_|refine aJ (d x b (m-n) Ω Ω) ?_|simp[ae]|((first|apply bV|apply b0|apply bZ)<;>intro h<;>try simp at h))<;>(try exact cA));exact bQ.rng (n+mz x (m-n)) hi ⟨Ω,a⟩ bU
def CY(t:T):bK ar 206 [t.e] (.bool (decide (t.size<=5000))):=by
 have aA:=(G6 t 5000 Ω).1;have key:=abJ t.tm 5000 Ω Ω;rw[vH]at key;refine br a7 Tryz.func206 aot fun a=>?_;unfold Tx;simp;(repeat' first|refine ak ?_|refine aI key ?_|refine aJ key ?_|simp);simp[bF,aX,aY,aW];have:(mz t.tm 5000<=5000)=(t.size<=5000):=by rw[aA];simp;omega
 simp[this]
def ak9(l:List az)(v:Int)(k:Nat)(st:bn):Prop:=∃i:Nat,i<=l.length/\k=l.length-i/\dC l v=dC (l.drop i) v/\st=⟨[(1,.int .i64 v),(4,.ptr (.loc 0) 0),(8,.slice 5 .no (l.map az.e)),(9,.int .i64 l.length),(10,.int .i64 i)],[(.loc 0,[.int .i64 0,.int .i64 0,.str [],.slice 4 .nil []])],[],1,[]⟩
def w6(l:List az)(v:Int)(g:l.length<=1000000):bK ar 108 [.slice 5 .no (l.map az.e),.int .i64 v] (.tuple [((dC l v).getD .nil).e,.bool (dC l v).isSome]):=by
 refine br a7 Tryz.func108 aoD fun m=>?_;unfold TH;simp;refine vJ (ak9 l v) l.length _ bU ⟨0,Ω,rfl,Ψ,rfl⟩ ?_;rintro k st ⟨i,hi,j,a1,rfl⟩ e f;clear e f;by_cases a:i<l.length
 ·obtain⟨b,ae⟩:∃b,l[i]? =some b:=⟨_,cl a⟩;have d:l.drop i=b::l.drop (i+1):=by rw[mu a];rw[cl a]at ae;simp at ae;rw[ae]
  have c:∀h,l[i]'h=b:=fun h=>by rw[cl h]at ae;simpa using ae
  simp[c,a];(with_reducible repeat' first|((first|apply bV|apply b0|apply bZ)<;>intro h<;>try simp at h)|refine ak ?_|simp[c])
  ·have:dC l v=some b.t:=by rw[a1,d];simp[dC,h]
   simp[bF,aX,aY,aW];simp[this]
  ·refine bQ.next (l.length-(i+1)) Ω ⟨i+1,Ω,rfl,?_,rfl⟩ bU;rw[a1,d];simp[dC,h]
 ·have:dC l v=none:=by rw[a1,List.drop_of_length_le Ω];simp[dC]
  simp[a];(with_reducible repeat' first|((first|apply bV|apply b0|apply bZ)<;>intro h<;>try simp at h)|refine ak ?_|simp);simp[bF,aX,aY,aW];simp[this]
def asz(l:List az)(e:l.length<=1000000)(t:T):bK ar 111 [.slice 5 .no (l.map az.e),t.e] (t.sub (dC l)).e:=by
 induction t with
 |pair a b d c=>
  refine br a7 Tryz.func111 OF fun f=>?_;unfold GZ;simp;(repeat' first|refine ak ?_|refine aI d ?_|refine aJ d ?_|refine aI c ?_|refine aJ c ?_|refine aI (Gb _ _) ?_|refine aJ (Gb _ _) ?_|simp);all_goals simp[bF,aX,aY,aW]
  all_goals simp[T.sub]
 |var n=>
  refine br a7 Tryz.func111 OF fun f=>?_;unfold GZ;simp;((repeat' first|refine ak ?_|refine aI (w6 l n e) ?_|refine aJ (w6 l n e) ?_|simp|((first|apply bV|apply b0|apply bZ)<;>intro h<;>try simp at h))<;>(try exact cA));all_goals simp[bF,aX,aY,aW]
  all_goals cases ae:dC l n<;>simp_all[T.sub]
 |_=>
  refine br a7 Tryz.func111 OF fun f=>?_;unfold GZ;simp;(repeat' first|refine ak ?_|simp);all_goals simp[bF,aX,aY,aW]
  all_goals simp[T.sub]
def abO(l:List az)(a:l.length<=1000000)(t:T):bK ar 111 [.slice 5 .no (l.map az.e),t.e] (t.ap (cQ l)).e:=by have:=asz l a t;rw[aa2]at this;exact this
def Qv(l:List az)(a:l.length<=1000000)(t:T):bK ar 184 [.slice 5 .no (l.map az.e),t.e] (.tuple [(t.ap (cQ l)).e,.bool (decide ((t.ap (cQ l)).size<=5000))]):=by refine br a7 Tryz.func184 aoC fun b=>?_;unfold TG;simp;(repeat' first|refine ak ?_|refine aI (abO l a t) ?_|refine aJ (abO l a t) ?_|refine aI (CY _) ?_|refine aJ (CY _) ?_|simp);simp[bF,aX,aY,aW]
def yc(v:Int)(l:List T):Bool:=l.any (T.occ v)
def YP(v:Int)(t:T):t.occ v=(yc v t.args||(t.kind==1&&t.int==v)):=by cases t<;>simp[T.occ,yc]
def yv(v:Int)(t:T):bK ar 231 [.int .i64 v,t.e] (.bool (t.occ v)):=by
 suffices H:∀(k:Nat) (t:T),t.size<=k->bK ar 231 [.int .i64 v,t.e] (.bool (t.occ v))from H _ t (e2 _)
 intro k;induction k with
 |zero=>intro t aM;have:=T.size_pos t;omega
 |succ k d=>
  intro t aM;have j:t.args.length<=2:=by cases t<;>simp
  refine br a7 Tryz.func231 aox fun m=>?_;unfold TB;simp;refine eH [0,3,8,9] (fun i (_:Unit)=>[(10,.int .i64 i)]) t.args.length (fun i _=>yc v (t.args.drop i)=yc v t.args) () bU Ψ (fun _ a _=>?_) (fun i _ hi a _=>?_)
  ·have c:yc v t.args=false:=by rw[<-a];simp[yc]
   rw[YP,c];simp;((repeat' first|refine ak ?_|simp|((first|apply bV|apply b0|apply bZ)<;>intro h<;>try simp at h))<;>(try exact cA));all_goals simp[bF,aX,aY,aW]
   all_goals simp_all
  ·obtain⟨x,f,e⟩:=dX hi;have g:t.args.drop i=x::t.args.drop (i+1):=by rw[mu hi,e]
   have b:x.size<=k:=by have hm:=ev f;have:=T.size_pos x;cases t<;>simp at hm;rcases hm with rfl|rfl<;>simp[T.size]at aM<;>omega
   simp only[g,yc,List.any_cons]at a;simp[hi,e];cases al:x.occ v with
   |true=>
    rw[al]at a;simp at a;have c:t.occ v=true:=by rw[YP];simp[yc];left;simpa using a
    (repeat' first|refine ak ?_|refine aI (d x b) ?_|refine aJ (d x b) ?_|simp[al]);simp[bF,aX,aY,aW];simp[c]
   |false=>rw[al]at a;have l:=d x b;exact hS
def J9(v:Int)(x t:T):bK ar 232 [t.e,.int .i64 v,x.e] (t.ap (Go.Pv.one v x)).e:=by
 induction t with
 |pair a b d c=>
  refine br a7 Tryz.func232 OE fun e=>?_;unfold GY;simp;(repeat' first|refine ak ?_|refine aI d ?_|refine aJ d ?_|refine aI c ?_|refine aJ c ?_|refine aI (Gb _ _) ?_|refine aJ (Gb _ _) ?_|simp);all_goals simp[bF,aX,aY,aW]
  all_goals simp[T.ap]
 |var n=>
  refine br a7 Tryz.func232 OE fun e=>?_;unfold GY;simp;((repeat' first|refine ak ?_|simp|((first|apply bV|apply b0|apply bZ)<;>intro h<;>try simp at h))<;>(try exact cA));all_goals simp[bF,aX,aY,aW]
  all_goals simp_all[T.ap,Go.Pv.one]
 |_=>
  refine br a7 Tryz.func232 OE fun e=>?_;unfold GY;simp;(repeat' first|refine ak ?_|simp);all_goals simp[bF,aX,aY,aW]
  all_goals simp[T.ap]
def Kb(s:List az)(a:s.length<=1000000)(t:T):bK ar 161 [.slice 5 .no (s.map az.e),t.e] (hU s t).e:=by
 cases t with
 |var n=>
  cases ae:dC s n with
  |none=>refine br a7 Tryz.func161 OG fun b=>?_;unfold G0;simp;(repeat' first|refine ak ?_|refine aI (w6 s n a) ?_|refine aJ (w6 s n a) ?_|simp[ae]);simp[bF,aX,aY,aW];simp[hU,cQ,ae]
  |some x=>refine br a7 Tryz.func161 OG fun b=>?_;unfold G0;simp;(repeat' first|refine ak ?_|refine aI (w6 s n a) ?_|refine aJ (w6 s n a) ?_|simp[ae]);simp[bF,aX,aY,aW];simp[hU,cQ,ae]
 |_=>refine br a7 Tryz.func161 OG fun b=>?_;unfold G0;simp;(repeat' first|refine ak ?_|simp);simp[bF,aX,aY,aW];simp[hU]
def W9(b:az):∀(s:List az) (k:Nat),(∀i c,i<k->s[i]? =some c->c.v<=b.v)->(∀c,s[k]? =some c->b.v<c.v)->k<=s.length->p2 b s=s.take k++b::s.drop k
 |[],k,_,_,a=>by simp at a;subst a;rfl
 |c::s,0,_,U,_=>by have:=U c rfl;simp[p2,this]
 |c::s,k+1,J,U,a=>by have:=J 0 c Ω rfl;simp only[p2,if_neg (by omega:¬b.v<c.v),List.take_succ_cons,List.drop_succ_cons,b3];rw[W9 b s k (fun i d hi e=>J (i+1) d Ω (by simpa using e)) (fun d e=>U d (by simpa using e)) (by simpa using a)]
def asy(s:List az)(b:az)(v:s.length<=1000000)(t:iX s):bK ar 110 [.slice 5 .no (s.map az.e),b.e] (.slice 5 .no ((p2 b s).map az.e)):=by
 refine br a7 Tryz.func110 aoE fun w=>?_;unfold TI;simp;refine xt [0,3] (fun(k:Nat)=>[(5,.int .i64 k)]) (fun k=>k) (fun k=>k<=s.length/\∀c,s[k]? =some c->b.v<c.v) s.length bU ⟨Ω,fun c h=>by simp at h⟩ (fun k m _=>?_);obtain⟨u,m⟩:=m;have n:(∀c,0<k->s[k-1]? =some c->c.v<=b.v)->p2 b s=s.take k++b::s.drop k:=fun h=>W9 b s k (fun i c hi aA=>by
  obtain⟨d,a⟩:∃d,s[k-1]? =some d:=⟨_,cl Ω⟩;have J:=h d Ω a;rcases Nat.lt_or_ge i (k-1)with U|U
  ·have o:=(fp.1 aA);have p:=(fp.1 a);have:=q1.1 t i (k-1) o.1 p.1 U;rw[o.2,p.2]at this;omega
  ·have:i=k-1:=Ω
   subst this;rw[a]at aA;cases aA;exact J) m u
 rcases Nat.eq_zero_or_pos k with rfl|g
 ·have e:=n fun c h=>Ω
  rw[e];simp;(repeat' first|refine ak ?_|simp);simp[bF,aX,aY,aW];try simp[gv]
 ·obtain⟨d,a⟩:∃d,s[k-1]? =some d:=⟨_,cl Ω⟩;have j:((k:Int)-1).toNat=k-1:=Ω
  have l:∀h,(s[k-1]'h)=d:=fun h=>by rw[cl h]at a;exact ft a
  have f:(0:Int)<k:=Ω
  by_cases ae:b.v<d.v
  ·simp[g,f,j,l,ae,a];(repeat' first|refine ak ?_|simp[g,f,j,l,ae,a]);refine bQ.whl (k-1) Ω ⟨Ω,fun c aA=>by rw[a]at aA;cases aA;exact ae⟩ ?_;have r:((k-1:Nat):Int)=(k:Int)-1:=Ω
   simp[r];exact bU
  ·have e:=n fun c _ aA=>by rw[a]at aA;cases aA;omega
   rw[e];simp[g,f,j,l,ae,a];(repeat' first|refine ak ?_|simp[g,f,j,l,ae,a]);simp[bF,aX,aY,aW];have q:kT s.length (s.map az.e)=s.map az.e:=gv Ψ;rw[q,<-List.map_take,<-List.map_drop,<-fG,<-sP];exact aaY _
def PX(v:Int)(x:T)(b:az):az:=⟨b.v,b.t.ap (Go.Pv.one v x)⟩
def alm(s:List az)(v:Int)(x:T)(i:Nat)(out:List az):Prop:=out=(s.take i).map (PX v x)/\∀b∈s.take i,(b.t.ap (Go.Pv.one v x)).size<=5000
def asC(s:List az)(v:Int)(t:T)(z:s.length<=1000000)(F:iX s):bK ar 205 [.slice 5 .no (s.map az.e),.int .i64 v,t.e] (gO (oZ s v t)):=by
 obtain⟨x,p⟩:∃x,x=t.ap (cQ s):=⟨_,rfl⟩;have a:=Qv s z t;rw[<-p]at a;obtain⟨o,al⟩:∃o,o=oZ s v t:=⟨_,rfl⟩;have l:x.size<=5000->x.occ v=false->s.length<400->(∀b∈s,(b.t.ap (Go.Pv.one v x)).size<=5000)->o=some (nD s v x):=fun D G E B=>by rw[al,oZ,<-p,if_pos ⟨D,G,E,B⟩]
 have f:¬(x.size<=5000/\x.occ v=false/\s.length<400/\∀b∈s,(b.t.ap (Go.Pv.one v x)).size<=5000)->o=none:=fun q=>by rw[al,oZ,<-p,if_neg q]
 rw[<-al];clear al;by_cases J:x.size<=5000;rotate_left
 ·rw[f fun h=>J h.1];refine br a7 Tryz.func205 I2 fun r=>?_;unfold Du;simp;(repeat' first|refine ak ?_|refine aI a ?_|refine aJ a ?_|refine aI (yv _ _) ?_|refine aJ (yv _ _) ?_|simp[J]);simp[bF,aX,aY,aW];simp[gO]
 cases U:x.occ v with
 |true=>rw[f fun h=>by rw[U]at h;cases h.2.1];refine br a7 Tryz.func205 I2 fun r=>?_;unfold Du;simp;(repeat' first|refine ak ?_|refine aI a ?_|refine aJ a ?_|refine aI (yv _ _) ?_|refine aJ (yv _ _) ?_|simp[J,U]);simp[bF,aX,aY,aW];simp[gO]
 |false=>
 by_cases y:s.length<400;rotate_left
 ·rw[f fun h=>y h.2.2.1];have j:(400:Int)<=s.length:=Ω
  refine br a7 Tryz.func205 I2 fun r=>?_;unfold Du;simp;(repeat' first|refine ak ?_|refine aI a ?_|refine aJ a ?_|refine aI (yv _ _) ?_|refine aJ (yv _ _) ?_|simp[J,U,j]);simp[bF,aX,aY,aW];simp[gO]
 have j:¬(400:Int)<=s.length:=Ω
 refine br a7 Tryz.func205 I2 fun r=>?_;unfold Du;simp;(repeat' first|refine ak ?_|refine aI a ?_|refine aJ a ?_|refine aI (yv _ _) ?_|refine aJ (yv _ _) ?_|simp[J,U,j]);refine gb (α:=List az) (fun i out=>⟨[(1,.int .i64 v),(8,.ptr (.loc 1) 0),(33,.slice 5 .no (s.map az.e)),(34,.int .i64 s.length),(10,.slice 5 (.own (.loc 2)) (out.map az.e)),(35,.int .i64 i)],[(.loc 1,[.int .i64 x.kind,.int .i64 x.int,.str x.name,.slice 4 .no (x.args.map T.e)])],[(.loc 2,⟨out.length,74,5,none⟩)],3,[]⟩) s.length (alm s v x) [] bU ⟨Ψ,Ψ⟩ (fun out n _=>?_) (fun i out hi n _=>?_)
 ·obtain⟨d,e⟩:=n;rw[gv (e2 _)]at d e;have m:iX out:=by rw[d,iX,List.pairwise_map];exact F
  have w:out.length<=1000000:=by rw[d];simpa using z
  rw[l J U y e];have key:=asy out ⟨v,x⟩ w m;simp;(repeat' first|refine ak ?_|refine aI key ?_|refine aJ key ?_|simp);simp[bF,aX,aY,aW];simp[gO,nD,d];rfl
 ·obtain⟨d,e⟩:=n;obtain⟨b,A,k⟩:=dX hi;have u:s.take (i+1)=s.take i++[b]:=by rw[pC,A];rfl
  have w:out.length<=1000000:=by rw[d];simp;omega
  simp[hi,k];by_cases g:(b.t.ap (Go.Pv.one v x)).size<=5000
  ·(repeat' first|refine ak ?_|refine aI (J9 _ _ _) ?_|refine aJ (J9 _ _ _) ?_|refine aI (CY _) ?_|refine aJ (CY _) ?_|simp[k,hi,g]);all_goals try refine⟨by unfold lim;omega,?_⟩
   (repeat' first|refine ak ?_|simp);refine bQ.rng (out++[PX v x b]) hi ⟨by rw[u,d,sP];rfl,fun c aA=>?_⟩ ?_
   ·rw[u]at aA;rcases j0.1 aA with aA|aA
    ·exact e c aA
    ·simp at aA;subst aA;exact g
   ·simp[PX];exact⟨by simp[fresh,ay,au,bX,inObs,Pv.look,kG],dH jp,dK kO,Ψ⟩
  ·rw[f fun h=>g (h.2.2.2 b (ev A))];(repeat' first|refine ak ?_|refine aI (J9 _ _ _) ?_|refine aJ (J9 _ _ _) ?_|refine aI (CY _) ?_|refine aJ (CY _) ?_|simp[k,hi,g]);simp[bF,aX,aY,aW];simp[gO]
def arU{s:List az}(e:gm s)(f:h7 s){n:Nat}{a b:T}{o:aZ (List az)}(h:lG n s a b=some o):jD s [(a,b)] o:=by obtain⟨n',o',J,U⟩:=J4 e f a b;have d:=F7 (Nat.le_max_left n n') h;have c:=F7 (Nat.le_max_right n n') J;rw[d]at c;cases c;exact U
def CU(n:Nat):List (T×T)->List az->aZ (aZ (List az))
 |[],s=>some (some s)
 |e::r,s=>match lG n s e.1 e.2 with
  |none=>none
  |some none=>some none
  |some (some s1)=>CU n r s1
def zU(x y:T):Bool:=x.kind==y.kind&&x.int==y.int&&x.name==y.name
def arS(n:Nat)(s:List az){x y:T}(f:x.kind≠1)(g:y.kind≠1):kP (lG n) s x y=if zU x y then CU n (x.args.zip y.args) s else some none:=by
 cases x<;>cases y<;>simp[kP,zU,CU]at f g⊢
 ·rename_i a b;split<;>simp_all
 ·rename_i a b;split<;>simp_all
 ·rename_i d a2 c e;cases lG n s d c with
  |none=>rfl
  |some o=>cases o with
   |none=>rfl
   |some s1=>
    simp only
    cases lG n s1 a2 e with
    |none=>rfl
    |some o=>cases o<;>rfl
def alN{x y:T}(h:zU x y=true):x.args.length=y.args.length:=by cases x<;>cases y<;>simp[zU]at h⊢
@[simp]def auF(o:aZ (List az)):Bc 0 (gO o)=some (True,.slice 5 .no ((o.getD []).map az.e)):=rfl
@[simp]def auG(o:aZ (List az)):Bc 1 (gO o)=some (True,.bool o.isSome):=rfl
def asG(n:Nat):∀(s:List az) (a b:T) (o:aZ (List az)),gm s->h7 s->lG n s a b=some o->bK ar 183 [.slice 5 .no (s.map az.e),a.e,b.e] (gO o):=by
 induction n with
 |zero=>intro s a b o _ _ h;simp[lG]at h
 |succ n S=>
  intro s a b o P Q he;have J:s.length<=1000000:=by have:=Q.1;omega
  have c:=Kb s J a;have d:=Kb s J b;simp only[lG]at he;generalize hU s a=x at he c;generalize hU s b=y at he d;have ae:=fun v t=>asC s v t J P.asc;have f:∀z:T,¬z.kind=1->(z.kind==1)=false:=fun z h=>by simp[h]
  by_cases l:x.kind=1
  ·obtain⟨i,rfl⟩:∃i,x= .var i:=by cases x<;>simp at l;exact⟨_,rfl⟩
   by_cases g:y.kind=1
   ·obtain⟨j,rfl⟩:∃j,y= .var j:=by cases y<;>simp at g;exact⟨_,rfl⟩
    simp only[kP,dz]at he;subst he;rcases Int.lt_trichotomy i j with h|h|h
    ·rw[if_pos h];have key:=ae j (.var i);refine br a7 Tryz.func183 wF fun m=>?_;unfold ux;simp;(repeat' first|refine ak ?_|refine aI c ?_|refine aJ c ?_|refine aI d ?_|refine aJ d ?_|refine aI key ?_|refine aJ key ?_|simp[h]);simp[bF,aX,aY,aW];simp[gO]
    ·subst h;rw[if_neg Ω,if_pos rfl];have G:¬i<i:=Ω
     refine br a7 Tryz.func183 wF fun m=>?_;unfold ux;simp;(repeat' first|refine ak ?_|refine aI c ?_|refine aJ c ?_|refine aI d ?_|refine aJ d ?_|simp[G]);simp[bF,aX,aY,aW];simp[gO]
    ·rw[if_neg Ω,if_neg Ω];have key:=ae i (.var j);have G:¬i<j:=Ω
     have U:¬i=j:=Ω
     refine br a7 Tryz.func183 wF fun m=>?_;unfold ux;simp;((repeat' first|refine ak ?_|refine aI c ?_|refine aJ c ?_|refine aI d ?_|refine aJ d ?_|refine aI key ?_|refine aJ key ?_|simp[G,U]|((first|apply bV|apply b0|apply bZ)<;>intro h<;>try simp at h))<;>(try exact cA));simp[bF,aX,aY,aW];simp[gO]
   ·have E:oZ s i y=o:=by cases y<;>first|(simp at g;done)|exact ft he
    subst E;have key:=ae i y;refine br a7 Tryz.func183 wF fun m=>?_;unfold ux;simp;(repeat' first|refine ak ?_|refine aI c ?_|refine aJ c ?_|refine aI d ?_|refine aJ d ?_|refine aI key ?_|refine aJ key ?_|simp[f y g]);simp[bF,aX,aY,aW];simp[gO]
  ·by_cases g:y.kind=1
   ·obtain⟨j,rfl⟩:∃j,y= .var j:=by cases y<;>simp at g;exact⟨_,rfl⟩
    have E:oZ s j x=o:=by cases x<;>first|(simp at l;done)|exact ft he
    subst E;have key:=ae j x;refine br a7 Tryz.func183 wF fun m=>?_;unfold ux;simp;(repeat' first|refine ak ?_|refine aI c ?_|refine aJ c ?_|refine aI d ?_|refine aJ d ?_|refine aI key ?_|refine aJ key ?_|simp[f x l]);simp[bF,aX,aY,aW];simp[gO]
   ·rw[arS n s l g]at he;cases hle:zU x y with
    |false=>
     rw[hle]at he;simp at he;subst he;have L:(x.kind !=y.kind)=true\/((x.kind !=y.kind)=false/\((x.int !=y.int)=true\/((x.int !=y.int)=false/\(x.name !=y.name)=true))):=by simp only[zU]at hle;simp only[bne];cases V:(x.kind==y.kind)<;>cases X:(x.int==y.int)<;>cases R:(x.name==y.name)<;>simp_all
     rcases L with p|⟨p,q|⟨q,A⟩⟩
     ·refine br a7 Tryz.func183 wF fun m=>?_;unfold ux;simp;(repeat' first|refine ak ?_|refine aI c ?_|refine aJ c ?_|refine aI d ?_|refine aJ d ?_|simp[f x l,f y g,p]);simp[bF,aX,aY,aW];simp[gO]
     ·refine br a7 Tryz.func183 wF fun m=>?_;unfold ux;simp;(repeat' first|refine ak ?_|refine aI c ?_|refine aJ c ?_|refine aI d ?_|refine aJ d ?_|simp[f x l,f y g,p,q]);simp[bF,aX,aY,aW];simp[gO]
     ·refine br a7 Tryz.func183 wF fun m=>?_;unfold ux;simp;have D:¬x.name=y.name:=by simpa using A
      have H:decide (x.name=y.name)=false:=by simp[D]
      ((repeat' first|refine ak ?_|refine aI c ?_|refine aJ c ?_|refine aI d ?_|refine aJ d ?_|simp[f x l,f y g,p,q,A,D,H]|((first|apply bV|apply b0|apply bZ)<;>intro h<;>try simp at h))<;>(try exact cA));simp[bF,aX,aY,aW];simp[gO]
    |true=>
     rw[hle,if_pos rfl]at he;have L:(x.kind !=y.kind)=false/\(x.int !=y.int)=false/\(x.name !=y.name)=false:=by simp only[zU]at hle;simp only[bne];cases V:(x.kind==y.kind)<;>cases X:(x.int==y.int)<;>cases R:(x.name==y.name)<;>simp_all
     obtain⟨p,q,A⟩:=L;have hlen:=alN hle;have D:x.name=y.name:=by simpa using A
     have Y:x.args.length<=2:=by cases x<;>simp
     refine br a7 Tryz.func183 wF fun m=>?_;unfold ux;simp;(repeat' first|refine ak ?_|refine aI c ?_|refine aJ c ?_|refine aI d ?_|refine aJ d ?_|simp[f x l,f y g,p,q,D]);refine gb (α:=List az) (fun i k=>⟨[(5,.ptr (.loc 1) 0),(96,.slice 4 .no (x.args.map T.e)),(97,.int .i64 x.args.length),(0,.slice 5 .no (k.map az.e)),(98,.int .i64 i)],[(.loc 1,[.int .i64 y.kind,.int .i64 y.int,.str y.name,.slice 4 .no (y.args.map T.e)])],[],2,[]⟩) x.args.length (fun i k=>(gm k/\h7 k)/\CU n ((x.args.zip y.args).drop i) k=some o) s bU ⟨⟨P,Q⟩,by simpa using he⟩ (fun k e _=>?_) (fun i k hi e _=>?_)
     ·obtain⟨_,e⟩:=e;rw[List.drop_eq_nil_of_le (by simp[hlen])]at e;simp[CU]at e;subst e;simp;(repeat' first|refine ak ?_|simp);simp[bF,aX,aY,aW];simp[gO]
     ·obtain⟨⟨g1,g2⟩,e⟩:=e;obtain⟨B,O⟩:∃a,x.args[i]? =some a:=⟨_,cl hi⟩;obtain⟨u,N⟩:∃b,y.args[i]? =some b:=⟨_,cl Ω⟩;have r:∀h,(x.args[i]'h)=B:=fun h=>by rw[cl hi]at O;exact ft O
      have w:∀h,(y.args[i]'h)=u:=fun h=>by rw[cl h]at N;exact ft N
      have F:i<y.args.length:=Ω
      have W:(x.args.zip y.args).drop i=(B,u)::(x.args.zip y.args).drop (i+1):=by rw[mu gc];simp[r,w]
      rw[W]at e;simp only[CU]at e;simp[hi,r,w,F];cases hu:lG n k B u with
      |none=>rw[hu]at e;cases e
      |some M=>
       have key:=S k B u M g1 g2 hu;rw[hu]at e;cases M with
       |none=>simp at e;subst e;(repeat' first|refine ak ?_|refine aI key ?_|refine aJ key ?_|simp[r,w,hi,F]);simp[bF,aX,aY,aW];simp[gO]
       |some s1=>have K:=arU g1 g2 hu;(repeat' first|refine ak ?_|refine aI key ?_|refine aJ key ?_|simp[r,w,hi,F]);refine bQ.rng s1 hi ⟨K.1,e⟩ ?_;exact bU
def asF(s:List az)(a b:T)(c:gm s)(d:h7 s):bK ar 183 [.slice 5 .no (s.map az.e),a.e,b.e] (gO (mgu s [(a,b)])):=by obtain⟨n,o,J,U⟩:=J4 c d a b;rw[tK U];exact asG n s a b o c d J
def alk(s:List az)(E:List (T×T))(i:Nat)(a:List az):Prop:=(gm a/\h7 a)/\mgu a (E.drop i)=mgu s E
def asB(s:List az)(l r:List T)(n:l.length=r.length)(o:gm s)(q:h7 s)(t:l.length<=1000000):bK ar 163 [.slice 5 .no (s.map az.e),.slice 4 .no (l.map T.e),.slice 4 .no (r.map T.e)] (gO (mgu s (l.zip r))):=by
 refine br a7 Tryz.func163 aoG fun u=>?_;unfold TK;simp;refine gb (α:=List az) (fun i d=>⟨[(2,.slice 4 .no (r.map T.e)),(12,.slice 4 .no (l.map T.e)),(13,.int .i64 l.length),(0,.slice 5 .no (d.map az.e)),(14,.int .i64 i)],[],[],0,[]⟩) l.length (alk s (l.zip r)) s bU ⟨⟨o,q⟩,Ψ⟩ (fun d c _=>?_) (fun i d hi c _=>?_)
 ·obtain⟨⟨g1,g2⟩,c⟩:=c;rw[List.drop_eq_nil_of_le (by simp[n]),N9 g1 g2]at c;rw[<-c];simp;(repeat' first|refine ak ?_|simp);simp[bF,aX,aY,aW];simp[gO]
 ·obtain⟨⟨g1,g2⟩,c⟩:=c;obtain⟨a,k⟩:∃a,l[i]? =some a:=⟨_,cl hi⟩;obtain⟨b,j⟩:∃b,r[i]? =some b:=⟨_,cl Ω⟩;have e:∀h,(l[i]'h)=a:=fun h=>by rw[cl hi]at k;exact ft k
  have f:∀h,(r[i]'h)=b:=fun h=>by rw[cl h]at j;exact ft j
  have g:i<r.length:=Ω
  have p:(l.zip r).drop i=(a,b)::(l.zip r).drop (i+1):=by rw[mu gc];simp[e,f]
  rw[p,N8 g1 g2]at c;simp[hi,e,f,g];have key:=asF d a b g1 g2;cases hu:mgu d [(a,b)]with
  |none=>rw[hu]at c key;simp only at c;rw[<-c];(repeat' first|refine ak ?_|refine aI key ?_|refine aJ key ?_|simp[e,f,hi,g]);simp[bF,aX,aY,aW];simp[gO]
  |some s1=>have m:=Cc g1 g2 hu;rw[hu]at c key;(repeat' first|refine ak ?_|refine aI key ?_|refine aJ key ?_|simp[e,f,hi,g]);refine bQ.rng s1 hi ⟨m,c⟩ ?_;exact bU
def kQ(n:Int):bK ar 40 [.int .i64 n] (T.var n).e:=by refine br a7 Tryz.func40 aoB fun a=>?_;unfold TF;exact ca
def alp(t:List az)(i:Nat)(p:List T×List T):Prop:=p.1=(t.take i).map (fun b=>T.var b.v)/\p.2=(t.take i).map (·.t)
def asD(s t:List az)(h:gm s)(k:h7 s)(aM:t.length<=1000000):bK ar 126 [.slice 5 .no (s.map az.e),.slice 5 .no (t.map az.e)] (gO (mgu s (iv t))):=by
 have e:(t.map fun b=>T.var b.v).zip (t.map (·.t))=iv t:=by rw[iv,List.zip_map']
 refine br a7 Tryz.func126 aoH fun l=>?_;unfold TL;simp;refine gb (α:=List T×List T) (fun i p=>⟨[(0,.slice 5 .no (s.map az.e)),(12,.slice 5 .no (t.map az.e)),(13,.int .i64 t.length),(6,.slice 4 (.own (.loc 0)) (p.1.map T.e)),(7,.slice 4 (.own (.loc 1)) (p.2.map T.e)),(14,.int .i64 i)],[],[(.loc 0,⟨p.1.length,71,4,none⟩),(.loc 1,⟨p.2.length,71,4,none⟩)],2,[]⟩) t.length (alp t) ([],[]) bU ⟨Ψ,Ψ⟩ (fun p a _=>?_) (fun i p hi a _=>?_)
 ·obtain⟨A,B⟩:=p;obtain⟨bj,hB⟩:=a;simp only at bj hB⊢;rw[gv (e2 _)]at bj hB;have key:=asB s A B (by rw[bj,hB];simp) h k (by rw[bj];simpa using aM);rw[bj,hB,e,<-bj,<-hB]at key;simp;(repeat' first|refine ak ?_|refine aI key ?_|refine aJ key ?_|simp);simp[bF,aX,aY,aW];simp[gO]
 ·obtain⟨A,B⟩:=p;obtain⟨bj,hB⟩:=a;simp only at bj hB⊢;obtain⟨b,j,d⟩:=dX hi;have c:t.take (i+1)=t.take i++[b]:=by rw[pC,j];rfl
  have g:A.length<=1000000:=by rw[bj];simp;omega
  have f:B.length<=1000000:=by rw[hB];simp;omega
  simp[hi,d];(repeat' first|refine ak ?_|refine aI (kQ _) ?_|refine aJ (kQ _) ?_|simp[d,hi]);all_goals try refine⟨by unfold lim;omega,?_⟩
  (repeat' first|refine ak ?_|simp);all_goals try refine⟨by unfold lim;omega,?_⟩
  (repeat' first|refine ak ?_|simp);refine bQ.rng (A++[.var b.v],B++[b.t]) hi ⟨by rw[c,bj];simp,by rw[c,hB];simp⟩ ?_;simp;exact⟨by simp[fresh,ay,au,bX,inObs,Pv.look,kG],dH jp,dK kO,Ψ⟩
def dQ(n lo hi:Int):bK ar 69 [.int .i64 n,.int .i64 lo,.int .i64 hi] (.bool (decide (lo<=n/\n<=hi))):=by
 refine br a7 Tryz.func69 aoq fun a=>?_;unfold Tu;simp;((repeat' first|refine ak ?_|simp|((first|apply bV|apply b0|apply bZ)<;>intro h<;>try simp at h))<;>(try exact cA));all_goals simp[bF,aX,aY,aW]
 all_goals first|omega|(simp;done)|(simp;omega)
def shp:bO->Bool
 | .mk k n s [a,b]=>k==4&&n==0&&s==[]&&shp a&&shp b
 | .mk k n s []=>mi k n s
 |_=>false
def JO:∀x:T,shp x.tm=x.ok
 | .nil=>by simp[T.tm,shp,mi,T.ok]
 | .var _=>by simp[T.tm,shp,mi,T.ok]
 | .sym _=>by simp[T.tm,shp,mi,T.ok]
 | .num _=>by simp[T.tm,shp,mi,T.ok]
 | .pair a b=>by simp[T.tm,shp,T.ok,JO a,JO b]
def aqS:∀(m:Nat) (t:bO),t.sz<=m->shp t=true->∃x:T,x.tm=t:=by
 intro m;induction m with
 |zero=>intro t aM;cases t;simp[bO.sz]at aM
 |succ m c=>
  rintro⟨k,n,s,args⟩ aM h;match args with
  |[a,b]=>
   simp[bO.sz,bO.szL]at aM;simp only[shp,cD,dW]at h;obtain⟨⟨⟨⟨rfl,rfl⟩,d⟩,J⟩,U⟩:=h;obtain⟨x,rfl⟩:=c a Ω J;obtain⟨y,rfl⟩:=c b Ω U;have:s=[]:=by simpa using d
   subst this;exact⟨.pair x y,rfl⟩
  |[]=>
   simp only[shp,mi]at h;split at h
   ·subst_vars;simp at h;exact⟨.nil,by simp[T.tm,h]⟩
   split at h
   ·subst_vars;simp at h;exact⟨.var n,by simp[T.tm,h]⟩
   split at h
   ·subst_vars;simp at h;exact⟨.sym s,by simp[T.tm,h]⟩
   split at h
   ·subst_vars;simp at h;exact⟨.num n,by simp[T.tm,h]⟩
   ·simp at h
  |[_]=>simp[shp]at h
  |_::_::_::_=>simp[shp]at h
def ahY(t:bO):t.fits=(decide (mz t 5000<=5000)&&shp t):=by
 by_cases h:shp t=true
 ·obtain⟨x,rfl⟩:=aqS _ t (e2 _) h;have:=(G6 x 5000 Ω).1;rw[bO.fits_T,T.fit,h];rw[JO]at h;simp[h,this];omega
 ·have b:t.fits=false:=by
   cases c:t.fits with
   |false=>rfl
   |true=>obtain⟨x,rfl,a⟩:=bO.fits_ex c;rw[JO]at h;simp[T.fit]at a;exact absurd a.1 h
  simp at h;rw[b,h];simp
def Nr(s:List b7)(i:Nat):Prop:=i<=s.length/\∀k,k<i->nm (s.getD k 0)=true/\(k=0->low (s.getD k 0)=true)
def alg{s:List b7}(h:Nr s s.length):jg s=decide (1<=s.length/\s.length<=12):=by
 unfold jg;by_cases a:1<=s.length
 ·have J:=(h.2 0 Ω).2 rfl;have U:(s.drop 1).all nm=true:=by rw[iW];intro b ae;obtain⟨i,hi,e⟩:=oS ae;simp at hi e;have:=(h.2 (i+1) Ω).1;rw[List.getD_eq_getElem?_getD,cl Ω]at this;simp only[mv]at this;rw[<-e];exact this
  rw[J,U];simp
 ·have:decide (1<=s.length/\s.length<=12)=false:=by simp;omega
  rw[this];simp
def alf{s:List b7}{i:Nat}(hi:i<s.length)(h:nm (s.getD i 0)=false\/(i=0/\low (s.getD i 0)=false)):jg s=false:=by
 cases e:jg s with
 |false=>rfl
 |true=>
  exfalso;simp only[jg,cD,iW]at e;obtain⟨⟨_,a⟩,c⟩:=e;rcases h with h|⟨rfl,h⟩
  ·by_cases b:i=0
   ·subst b;rw[nm,a]at h;simp at h
   ·have:=c (s.getD i 0) (by rw[List.getD_eq_getElem?_getD,cl hi];simp only[mv];refine List.mem_iff_getElem.2 ⟨i-1,by simp;omega,?_⟩;simp[show i-1+1=i from by omega])
    rw[this]at h;cases h
  ·rw[a]at h;cases h
def hH(s:List b7):bK ar 121 [.str s] (.bool (jg s)):=by
 generalize bg:jg s=R;refine br a7 Tryz.func121 aoj fun r=>?_;unfold Tn;have u:s.length<=68719476736:=by simp[eV,eN,eS,lim]at r;omega
 simp;refine xt [0] (fun(i:Nat)=>[(3,.int .i64 i)]) (fun i=>s.length-i) (Nr s) 0 bU ⟨Ω,fun k q=>Ω⟩ (fun i o _=>?_);have t:=o.1;by_cases hi:i<s.length
 ·have l:=alf hi;rw[bg]at l;obtain⟨c,aA,e⟩:=dX hi;have p:s.getD i 0=c:=by simp[List.getD_eq_getElem?_getD,aA]
  rw[p]at l;have dd:nm c=true->(i=0->low c=true)->Nr s (i+1):=fun J U=>⟨Ω,fun k q=>by
   rcases(by omega:k<i\/k=i)with h|rfl
   ·exact o.2 k h
   ·rw[p];exact⟨J,U⟩⟩
  have hw:oQ.wrap (c.toNat:Int)=c.toNat:=lY _ (by have:=c.toNat_lt;omega);simp[hi,e,aA];by_cases g:(97:Int)<=c.toNat
  ·by_cases n:(c.toNat:Int)<=122
   ·have j:low c=true:=by simp[low];omega
    (repeat' first|refine ak ?_|refine aI (dQ _ _ _) ?_|refine aJ (dQ _ _ _) ?_|simp[hi,e,aA,g,n]);exact bQ.whl (i+1) Ω (dd (by simp[nm,j]) (fun _=>j)) bU
   ·have j:low c=false:=by simp[low];omega
    by_cases b:i=0
    ·rw[l (.inr ⟨b,j⟩)];have a:((i:Int)==0)=true:=by simp[b]
     (repeat' first|refine ak ?_|refine aI (dQ _ _ _) ?_|refine aJ (dQ _ _ _) ?_|simp[hi,e,aA,g,n,a,hw]);simp[bF,aX,aY,aW]
    ·have a:((i:Int)==0)=false:=by simp[b]
     by_cases d:(c.toNat:Int)=45
     ·have f:((c.toNat:Int) !=45)=false:=by simp[d]
      (repeat' first|refine ak ?_|refine aI (dQ _ _ _) ?_|refine aJ (dQ _ _ _) ?_|simp[hi,e,aA,g,n,a,hw,d,f]);all_goals exact bQ.whl (i+1) Ω (dd (by simp[nm];omega) (fun h=>absurd h b)) bU
     ·have f:((c.toNat:Int) !=45)=true:=by simp[d]
      by_cases m:(48:Int)<=c.toNat/\(c.toNat:Int)<=57
      ·(repeat' first|refine ak ?_|refine aI (dQ _ _ _) ?_|refine aJ (dQ _ _ _) ?_|simp[hi,e,aA,g,n,a,hw,d,f,m]);all_goals exact bQ.whl (i+1) Ω (dd (by simp[nm];omega) (fun h=>absurd h b)) bU
      ·rw[l (.inl (by simp[nm,j];omega))];(repeat' first|refine ak ?_|refine aI (dQ _ _ _) ?_|refine aJ (dQ _ _ _) ?_|simp[hi,e,aA,g,n,a,hw,d,f,m]);simp[bF,aX,aY,aW]
  ·have j:low c=false:=by simp[low];omega
   by_cases b:i=0
   ·rw[l (.inr ⟨b,j⟩)];have a:((i:Int)==0)=true:=by simp[b]
    (repeat' first|refine ak ?_|refine aI (dQ _ _ _) ?_|refine aJ (dQ _ _ _) ?_|simp[hi,e,aA,g,a,hw]);simp[bF,aX,aY,aW]
   ·have a:((i:Int)==0)=false:=by simp[b]
    by_cases d:(c.toNat:Int)=45
    ·have f:((c.toNat:Int) !=45)=false:=by simp[d]
     (repeat' first|refine ak ?_|refine aI (dQ _ _ _) ?_|refine aJ (dQ _ _ _) ?_|simp[hi,e,aA,g,a,hw,d,f]);all_goals exact bQ.whl (i+1) Ω (dd (by simp[nm];omega) (fun h=>absurd h b)) bU
    ·have f:((c.toNat:Int) !=45)=true:=by simp[d]
     by_cases m:(48:Int)<=c.toNat/\(c.toNat:Int)<=57
     ·(repeat' first|refine ak ?_|refine aI (dQ _ _ _) ?_|refine aJ (dQ _ _ _) ?_|simp[hi,e,aA,g,a,hw,d,f,m]);all_goals exact bQ.whl (i+1) Ω (dd (by simp[nm];omega) (fun h=>absurd h b)) bU
     ·rw[l (.inl (by simp[nm,j];omega))];(repeat' first|refine ak ?_|refine aI (dQ _ _ _) ?_|refine aJ (dQ _ _ _) ?_|simp[hi,e,aA,g,a,hw,d,f,m]);simp[bF,aX,aY,aW]
 ·have:i=s.length:=Ω
  subst this;rw[alg o]at bg;simp[hi];(repeat' first|refine ak ?_|refine aI (dQ _ _ _) ?_|refine aJ (dQ _ _ _) ?_|simp[hi]);simp[bF,aX,aY,aW];rw[<-bg,rO];simp;omega
def wY:List bO->Bool
 |[a,b]=>shp a&&shp b
 |_=>false
def aqR(k n:Int)(s:List b7)(args:List bO):shp ⟨k,n,s,args⟩=if k≠1/\k≠3/\n≠0 then false else if k≠2/\s≠[]then false else if k≠4/\args≠[]then false else if k=0 then true else if k=1 then decide (0<=n/\n<=100000)else if k=2 then jg s else if k=3 then decide (-1000000000<=n/\n<=1000000000)else if k=4 then wY args else false:=by
 by_cases e:k=0
 ·subst e;match args with
  |[]=>by_cases i:n=0<;>by_cases c:s=[]<;>simp[shp,mi,i,c]
  |[a]=>simp[shp]
  |[a,b]=>simp[shp]
  |_::_::_::_=>simp[shp]
 by_cases g:k=1
 ·subst g;match args with
  |[]=>by_cases c:s=[]<;>simp[shp,mi,c]
  |[a]=>simp[shp]
  |[a,b]=>simp[shp]
  |_::_::_::_=>simp[shp]
 by_cases h:k=2
 ·subst h;match args with
  |[]=>by_cases i:n=0<;>simp[shp,mi,i]
  |[a]=>simp[shp]
  |[a,b]=>simp[shp]
  |_::_::_::_=>simp[shp]
 by_cases f:k=3
 ·subst f;match args with
  |[]=>by_cases c:s=[]<;>simp[shp,mi,c]
  |[a]=>simp[shp]
  |[a,b]=>simp[shp]
  |_::_::_::_=>simp[shp]
 by_cases d:k=4
 ·subst d;match args with
  |[]=>simp[shp,mi,wY]
  |[a]=>simp[shp,wY]
  |[a,b]=>by_cases i:n=0<;>by_cases c:s=[]<;>simp[shp,wY,i,c]
  |_::_::_::_=>simp[shp,wY]
 ·match args with
  |[]=>simp[shp,mi,e,g,h,f,d]
  |[a]=>simp[shp,e,g,h,f,d]
  |[a,b]=>simp[shp,e,g,h,f,d]
  |_::_::_::_=>simp[shp,e,g,h,f,d]
set_option maxRecDepth 8000 in
def asx(m:Nat):∀(t:bO),t.sz<=m->bK ar 176 [enc t] (.bool (shp t)):=by
 induction m with
 |zero=>intro t aM;cases t;simp[bO.sz]at aM
 |succ m B=>
 rintro⟨k,n,s,args⟩ aM;generalize bg:shp ⟨k,n,s,args⟩=R;have c:=aqR k n s args;rw[bg]at c;by_cases w:k≠1/\k≠3/\n≠0
 ·rw[if_pos w]at c;obtain⟨f,e,n0⟩:=w;have p:(k !=1)=true:=by simp[f]
  have o:(k !=3)=true:=by simp[e]
  have A:(n !=0)=true:=by simp[n0]
  subst c;refine br a7 Tryz.func176 nU fun d=>?_;unfold mV;simp[bO.kind,bO.num,bO.name,bO.args];(repeat' first|refine ak ?_|refine aI (dQ _ _ _) ?_|refine aJ (dQ _ _ _) ?_|refine aI (hH _) ?_|refine aJ (hH _) ?_|simp[p,o,A]);all_goals simp[bF,aX,aY,aW]
 rw[if_neg w]at c;have v:(if k !=1 then k !=3 else false)=true->(n !=0)=false:=by intro h;simp at h⊢;exact Classical.byContradiction fun K=>w ⟨h.1,h.2,K⟩
 by_cases i:k≠2/\s≠[]
 ·rw[if_pos i]at c;have x:(k !=2)=true:=by simp[i.1]
  have z:s.isEmpty=false:=by simp[i.2]
  by_cases f:k=1
  ·subst f;subst c;refine br a7 Tryz.func176 nU fun d=>?_;unfold mV;simp[bO.kind,bO.num,bO.name,bO.args];(repeat' first|refine ak ?_|refine aI (dQ _ _ _) ?_|refine aJ (dQ _ _ _) ?_|refine aI (hH _) ?_|refine aJ (hH _) ?_|simp[z]);all_goals simp[bF,aX,aY,aW]
  by_cases e:k=3
  ·subst e;subst c;refine br a7 Tryz.func176 nU fun d=>?_;unfold mV;simp[bO.kind,bO.num,bO.name,bO.args];(repeat' first|refine ak ?_|refine aI (dQ _ _ _) ?_|refine aJ (dQ _ _ _) ?_|refine aI (hH _) ?_|refine aJ (hH _) ?_|simp[z]);all_goals simp[bF,aX,aY,aW]
  have p:(k !=1)=true:=by simp[f]
  have o:(k !=3)=true:=by simp[e]
  have A:(n !=0)=false:=v (by simp[f,e]);subst c;refine br a7 Tryz.func176 nU fun d=>?_;unfold mV;simp[bO.kind,bO.num,bO.name,bO.args];(repeat' first|refine ak ?_|refine aI (dQ _ _ _) ?_|refine aJ (dQ _ _ _) ?_|refine aI (hH _) ?_|refine aJ (hH _) ?_|simp[p,o,A,x,z]);all_goals simp[bF,aX,aY,aW]
 rw[if_neg i]at c;by_cases y:k=0
 ·subst y;have n0:n=0:=by simpa using v ww
  have s0:s=[]:=Classical.byContradiction fun h=>i ⟨Ω,h⟩;subst n0 s0;by_cases a0:args=[];rotate_left
  ·rw[if_pos ⟨Ω,a0⟩]at c;have g:(0:Int)<args.length:=by have:=List.length_pos_iff.2 a0;omega
   subst c;refine br a7 Tryz.func176 nU fun d=>?_;unfold mV;simp[bO.kind,bO.num,bO.name,bO.args];((repeat' first|refine ak ?_|refine aI (dQ _ _ _) ?_|refine aJ (dQ _ _ _) ?_|refine aI (hH _) ?_|refine aJ (hH _) ?_|simp[Int.natCast_nonneg,g]|((first|apply bV|apply b0|apply bZ)<;>intro h<;>try simp at h))<;>(try exact cA));all_goals simp[bF,aX,aY,aW]
  rw[if_neg (by simp[a0])]at c;subst a0;simp at c;subst c;refine br a7 Tryz.func176 nU fun d=>?_;unfold mV;simp[bO.kind,bO.num,bO.name,bO.args];(repeat' first|refine ak ?_|refine aI (dQ _ _ _) ?_|refine aJ (dQ _ _ _) ?_|refine aI (hH _) ?_|refine aJ (hH _) ?_|simp[Int.natCast_nonneg]);all_goals simp[bF,aX,aY,aW]
 by_cases f:k=1
 ·subst f;have s0:s=[]:=Classical.byContradiction fun h=>i ⟨Ω,h⟩;subst s0;by_cases a0:args=[];rotate_left
  ·rw[if_pos ⟨Ω,a0⟩]at c;have g:(0:Int)<args.length:=by have:=List.length_pos_iff.2 a0;omega
   subst c;refine br a7 Tryz.func176 nU fun d=>?_;unfold mV;simp[bO.kind,bO.num,bO.name,bO.args];((repeat' first|refine ak ?_|refine aI (dQ _ _ _) ?_|refine aJ (dQ _ _ _) ?_|refine aI (hH _) ?_|refine aJ (hH _) ?_|simp[Int.natCast_nonneg,g]|((first|apply bV|apply b0|apply bZ)<;>intro h<;>try simp at h))<;>(try exact cA));all_goals simp[bF,aX,aY,aW]
  rw[if_neg (by simp[a0])]at c;subst a0;simp at c;subst c;refine br a7 Tryz.func176 nU fun d=>?_;unfold mV;simp[bO.kind,bO.num,bO.name,bO.args];(repeat' first|refine ak ?_|refine aI (dQ _ _ _) ?_|refine aJ (dQ _ _ _) ?_|refine aI (hH _) ?_|refine aJ (hH _) ?_|simp[Int.natCast_nonneg]);all_goals simp[bF,aX,aY,aW]
 by_cases u:k=2
 ·subst u;have n0:n=0:=by simpa using v ww
  subst n0;by_cases a0:args=[];rotate_left
  ·rw[if_pos ⟨Ω,a0⟩]at c;have g:(0:Int)<args.length:=by have:=List.length_pos_iff.2 a0;omega
   subst c;refine br a7 Tryz.func176 nU fun d=>?_;unfold mV;simp[bO.kind,bO.num,bO.name,bO.args];((repeat' first|refine ak ?_|refine aI (dQ _ _ _) ?_|refine aJ (dQ _ _ _) ?_|refine aI (hH _) ?_|refine aJ (hH _) ?_|simp[Int.natCast_nonneg,g]|((first|apply bV|apply b0|apply bZ)<;>intro h<;>try simp at h))<;>(try exact cA));all_goals simp[bF,aX,aY,aW]
  rw[if_neg (by simp[a0])]at c;subst a0;simp at c;subst c;refine br a7 Tryz.func176 nU fun d=>?_;unfold mV;simp[bO.kind,bO.num,bO.name,bO.args];(repeat' first|refine ak ?_|refine aI (dQ _ _ _) ?_|refine aJ (dQ _ _ _) ?_|refine aI (hH _) ?_|refine aJ (hH _) ?_|simp[Int.natCast_nonneg]);all_goals simp[bF,aX,aY,aW]
 by_cases e:k=3
 ·subst e;have s0:s=[]:=Classical.byContradiction fun h=>i ⟨Ω,h⟩;subst s0;by_cases a0:args=[];rotate_left
  ·rw[if_pos ⟨Ω,a0⟩]at c;have g:(0:Int)<args.length:=by have:=List.length_pos_iff.2 a0;omega
   subst c;refine br a7 Tryz.func176 nU fun d=>?_;unfold mV;simp[bO.kind,bO.num,bO.name,bO.args];((repeat' first|refine ak ?_|refine aI (dQ _ _ _) ?_|refine aJ (dQ _ _ _) ?_|refine aI (hH _) ?_|refine aJ (hH _) ?_|simp[Int.natCast_nonneg,g]|((first|apply bV|apply b0|apply bZ)<;>intro h<;>try simp at h))<;>(try exact cA));all_goals simp[bF,aX,aY,aW]
  rw[if_neg (by simp[a0])]at c;subst a0;simp at c;subst c;refine br a7 Tryz.func176 nU fun d=>?_;unfold mV;simp[bO.kind,bO.num,bO.name,bO.args];(repeat' first|refine ak ?_|refine aI (dQ _ _ _) ?_|refine aJ (dQ _ _ _) ?_|refine aI (hH _) ?_|refine aJ (hH _) ?_|simp[Int.natCast_nonneg]);all_goals simp[bF,aX,aY,aW]
 by_cases r:k=4
 ·subst r;have n0:n=0:=by simpa using v ww
  have s0:s=[]:=Classical.byContradiction fun h=>i ⟨Ω,h⟩;subst n0 s0;simp at c;match args,c with
  |[a,b],c=>
   simp[bO.sz,bO.szL]at aM;have j:=B a Ω;have ae:=B b Ω;simp only[wY]at c;subst c;refine br a7 Tryz.func176 nU fun d=>?_;unfold mV;simp[bO.kind,bO.num,bO.name,bO.args];cases q:shp a with
   |true=>rw[q]at j;(repeat' first|refine ak ?_|refine aI j ?_|refine aJ j ?_|refine aI ae ?_|refine aJ ae ?_|simp[Int.natCast_nonneg]);all_goals simp[bF,aX,aY,aW]
   |false=>rw[q]at j;(repeat' first|refine ak ?_|refine aI j ?_|refine aJ j ?_|refine aI ae ?_|refine aJ ae ?_|simp[Int.natCast_nonneg]);all_goals simp[bF,aX,aY,aW]
  |[],c=>simp only[wY]at c;subst c;refine br a7 Tryz.func176 nU fun d=>?_;unfold mV;simp[bO.kind,bO.num,bO.name,bO.args];(repeat' first|refine ak ?_|refine aI (dQ _ _ _) ?_|refine aJ (dQ _ _ _) ?_|refine aI (hH _) ?_|refine aJ (hH _) ?_|simp[Int.natCast_nonneg]);all_goals simp[bF,aX,aY,aW]
  |[_],c=>simp only[wY]at c;subst c;refine br a7 Tryz.func176 nU fun d=>?_;unfold mV;simp[bO.kind,bO.num,bO.name,bO.args];(repeat' first|refine ak ?_|refine aI (dQ _ _ _) ?_|refine aJ (dQ _ _ _) ?_|refine aI (hH _) ?_|refine aJ (hH _) ?_|simp[Int.natCast_nonneg]);all_goals simp[bF,aX,aY,aW]
  |_::_::_::l,c=>
   simp only[wY]at c;have L:((l.length:Int)+1+1+1==2)=false:=by simp;omega
   subst c;refine br a7 Tryz.func176 nU fun d=>?_;unfold mV;simp[bO.kind,bO.num,bO.name,bO.args];(repeat' first|refine ak ?_|refine aI (dQ _ _ _) ?_|refine aJ (dQ _ _ _) ?_|refine aI (hH _) ?_|refine aJ (hH _) ?_|simp[L]);all_goals simp[bF,aX,aY,aW]
 have n0:(n !=0)=false:=v (by simp[f,e]);have s0:s=[]:=Classical.byContradiction fun h=>i ⟨u,h⟩;subst s0;have J:(k==0)=false:=by simp[y]
 have p:(k==1)=false:=by simp[f]
 have x:(k==2)=false:=by simp[u]
 have o:(k==3)=false:=by simp[e]
 have E:(k==4)=false:=by simp[r]
 have H:(k !=1)=true:=by simp[f]
 have G:(k !=2)=true:=by simp[u]
 have F:(k !=3)=true:=by simp[e]
 have D:(k !=4)=true:=by simp[r]
 by_cases a0:args=[]
 ·subst a0;simp[y,f,u,e,r]at c;subst c;refine br a7 Tryz.func176 nU fun d=>?_;unfold mV;simp[bO.kind,bO.num,bO.name,bO.args];(repeat' first|refine ak ?_|refine aI (dQ _ _ _) ?_|refine aJ (dQ _ _ _) ?_|refine aI (hH _) ?_|refine aJ (hH _) ?_|simp[J,p,x,o,E,H,G,F,D,n0]);all_goals simp[bF,aX,aY,aW]
 ·rw[if_pos ⟨r,a0⟩]at c;have g:(0:Int)<args.length:=by have:=List.length_pos_iff.2 a0;omega
  subst c;refine br a7 Tryz.func176 nU fun d=>?_;unfold mV;simp[bO.kind,bO.num,bO.name,bO.args];((repeat' first|refine ak ?_|refine aI (dQ _ _ _) ?_|refine aJ (dQ _ _ _) ?_|refine aI (hH _) ?_|refine aJ (hH _) ?_|simp[g,J,p,x,o,E,H,G,F,D,n0]|((first|apply bV|apply b0|apply bZ)<;>intro h<;>try simp at h))<;>(try exact cA));all_goals simp[bF,aX,aY,aW]
def QC(t:bO):bK ar 143 [enc t] (.bool t.fits):=by
 rw[ahY];have aA:=abJ t 5000 Ω Ω;have a:=asx t.sz t (e2 _);refine br a7 Tryz.func143 aop fun b=>?_;unfold Tt;simp;by_cases q:mz t 5000<=5000
 ·exact ca
 ·exact ca
def Tp:C:=(aa [bs 2 false] (.seq (aa [I 5 0,cd 6 5,bT 7 0] (fo 8 7 6 (.seq (.block 1 (aa [I 9 7,cq 10 2 5 7,bh 11 2 10,cU (.alloc 4 none (.agg [.int .i64 0,.int .i64 0])),I 3 9,b1 2 4 11] (.seq (.drawn true 42 [I 12 3,aS 13 .gtr 12 0,I 14 13,ck 14 true 15 0,ck 14 true 16 3,ax 14 true (aS 17 .sub 16 1),ax 14 true (cq 18 2 15 17),ax 14 true (aK 19 0 1 18),ax 14 true (aw 20 1 19),ax 14 true (aK 21 0 1 4),ax 14 true (aw 22 1 21),ax 14 true (bp 23 .geq 20 22),ei 24 14 23,I 25 24,ax 25 false (aK 26 0 1 4),ax 25 false (aw 27 1 26),ax 25 false (ec 28 69 [.t 27,(gu 0),(gu 100000)]),ax 25 false (cH 29 28),dy 30 25 29,I 31 30,ax 31 false (aK 32 1 1 4),ax 31 false (aw 33 1 32),ax 31 false (aS 34 .neq 33 2),ck 31 false 35 34,ax 35 true (aK 36 1 1 4),ax 35 true (aw 37 1 36),ax 35 true (aS 38 .neq 37 3),ax 31 false (ei 39 35 38),dy 40 31 39]) (aU 40 (aa [bs 2 false] .ret) .skip)))) (.region [aS 41 .add 7 1,I 7 41])))) (aa [bs 2 true] .ret)))
def Tq:C:=(aa [bs 2 false] (.seq (aa [I 5 0,cd 6 5,bT 7 0] (fo 8 7 6 (.seq (.block 1 (aa [I 9 7,cq 10 2 5 7,bh 11 2 10,cU (.alloc 4 none (.agg [.int .i64 0,.str []])),I 3 9,b1 2 4 11] (.seq (.drawn true 37 [I 12 3,aS 13 .gtr 12 0,I 14 13,ck 14 true 15 0,ck 14 true 16 3,ax 14 true (aS 17 .sub 16 1),ax 14 true (cq 18 2 15 17),ax 14 true (bh 19 2 18),ax 14 true (bh 20 2 4),ax 14 true (ch 21 120 19 20),ax 14 true (cH 22 21),ei 23 14 22,I 24 23,ax 24 false (aK 25 0 1 4),ax 24 false (aw 26 1 25),ax 24 false (ec 27 69 [.t 26,(gu 0),(gu 100000)]),ax 24 false (cH 28 27),dy 29 24 28,I 30 29,ax 30 false (aK 31 1 1 4),ax 30 false (aw 32 1 31),ax 30 false (cI 33 121 32),ax 30 false (cH 34 33),dy 35 30 34]) (aU 35 (aa [bs 2 false] .ret) .skip)))) (.region [aS 36 .add 7 1,I 7 36])))) (aa [bs 2 true] .ret)))
def G1:C:=(aa [c6 2 0,c6 3 1,bs 4 false] (aa [aK 5 0 1 2,aw 6 1 5,aK 7 0 1 3,aw 8 1 7,bp 9 .lss 6 8,I 10 9,ax 10 false (aK 11 0 1 2),ax 10 false (aw 12 1 11),ax 10 false (aK 13 0 1 3),ax 10 false (aw 14 1 13),ax 10 false (bp 15 .eql 12 14),ck 10 false 16 15,ax 16 true (aK 17 1 1 2),ax 16 true (aw 18 1 17),ax 16 true (aK 19 1 1 3),ax 16 true (aw 20 1 19),ax 16 true (bp 21 .lss 18 20),ax 10 false (ei 22 16 21),dy 23 10 22,I 4 23] .ret))
def TQ:C:=(aa [e1 4 2,bs 5 false] (aa [eE 10 2 78 [],I 6 10] (aa [bs 7 true] (.seq (.seq (.fg false 6 (.region [I 11 1,cd 12 11,bT 13 0])) (fo 14 13 12 (.seq (.block 1 (aa [cq 15 2 11 13,bh 16 2 15,cU (.alloc 9 none (.agg [.int .i64 0,.int .i64 0])),b1 2 9 16] (.seq (.drawn true 33 [I 18 6,I 19 0,aK 20 0 1 9,aw 21 1 20,cI 22 40 21,ch 23 161 19 22,aK 24 1 1 9,aw 25 1 24,ec 26 125 [.t 18,.t 23,.t 25],I 17 26,dr 27 0 17,dr 28 1 17,I 6 27,I 7 28]) (aa [I 29 7,cH 30 29] (aU 30 (aa [e1 4 2,bs 5 false] .ret) .skip))))) (.region [aS 31 .add 13 1,I 13 31])))) (aa [I 32 6,I 4 32,bs 5 true] .ret)))))
def TR:C:=(aa [e1 4 2,bs 5 false] (aa [eE 10 2 82 [],I 6 10] (aa [bs 7 true] (.seq (.seq (.fg false 6 (.region [I 11 1,cd 12 11,bT 13 0])) (fo 14 13 12 (.seq (.block 1 (aa [cq 15 2 11 13,bh 16 2 15,cU (.alloc 9 none (.agg [.int .i64 0,.str []])),b1 2 9 16] (.seq (.drawn true 33 [I 18 6,I 19 0,aK 20 0 1 9,aw 21 1 20,cI 22 40 21,ch 23 161 19 22,aK 24 1 1 9,aw 25 1 24,ec 26 162 [.t 18,.t 23,.t 25],I 17 26,dr 27 0 17,dr 28 1 17,I 6 27,I 7 28]) (aa [I 29 7,cH 30 29] (aU 30 (aa [e1 4 2,bs 5 false] .ret) .skip))))) (.region [aS 31 .add 13 1,I 13 31])))) (aa [I 32 6,I 4 32,bs 5 true] .ret)))))
def A5:C:=(aa [c6 4 1,e1 6 2,bs 7 false] (.seq (aa [aK 10 0 1 4,aw 11 1 10,aS 12 .neq 11 1] (aU 12 (.seq (.drawn true 73 [I 13 0,aK 14 0 1 4,aw 15 1 14,I 16 2,bp 17 .eql 15 16,I 6 13,I 7 17]) .ret) .skip)) (aa [bT 8 0] (.seq (.block 0 (.loop (.seq (.seq (.drawn true 73 [I 18 8,I 19 0,cd 20 19,bp 21 .lss 18 20,I 22 21,ck 22 true 23 0,ck 22 true 24 8,ax 22 true (cq 25 2 23 24),ax 22 true (aK 26 0 1 25),ax 22 true (aw 27 1 26),ax 22 true (aK 28 1 1 4),ax 22 true (aw 29 1 28),ax 22 true (bp 30 .lss 27 29),ei 31 22 30]) (aU 31 .skip (.exit 0))) (.block 1 (.region [I 32 8,aS 33 .add 32 1,I 8 33]))))) (.seq (.seq (.drawn true 73 [I 34 8,I 35 0,cd 36 35,bp 37 .lss 34 36,I 38 37,ck 38 true 39 0,ck 38 true 40 8,ax 38 true (cq 41 2 39 40),ax 38 true (aK 42 0 1 41),ax 38 true (aw 43 1 42),ax 38 true (aK 44 1 1 4),ax 38 true (aw 45 1 44),ax 38 true (bp 46 .eql 43 45),ei 47 38 46]) (aU 47 (.seq (.drawn true 73 [I 48 0,I 49 0,I 50 8,cq 51 2 49 50,aK 52 1 1 51,aw 53 1 52,I 54 2,bp 55 .eql 53 54,I 6 48,I 7 55]) .ret) .skip)) (aa [eE 56 2 78 [],I 57 0,I 58 8,bH 59 (.lsl 2 (.t 57) none (some (.t 58))),hv 60 2 78 56 59,I 9 60] (aa [I 61 9,aK 62 1 1 4,aw 63 1 62,I 64 2,bH 65 (.build [.int .i64 0,.int .i64 0] [(0,1,(.t 63)),(1,1,(.t 64))]),eE 66 2 78 [.t 65],hv 67 2 78 61 66,I 9 67] (aa [I 68 9,I 69 0,I 70 8,bH 71 (.lsl 2 (.t 69) (some (.t 70)) none),hv 72 2 78 68 71,I 6 72,bs 7 true] .ret))))))))
def Lg:C:=(aa [c6 4 1,e1 6 2,bs 7 false] (.seq (aa [bh 13 4 4,I 14 2,ch 15 182 13 14] (aU 15 (aa [e1 6 2,bs 7 false] .ret) .skip)) (.seq (aa [bh 16 4 4,ec 17 119 [.t 16,(.c (.slice 1 .nil []))],cd 18 17,bT 19 0] (fo 20 19 18 (.seq (.block 1 (aa [cq 21 1 17 19,aw 22 1 21,I 9 22] (aa [I 23 9,I 24 2,bH 25 (.build [.int .i64 0,.str []] [(0,1,(.t 23)),(1,1,(.t 24))]),cU (.alloc 10 none (.agg [.int .i64 0,.str []])),b1 2 10 25] (aa [bT 11 0] (.seq (.block 2 (.loop (.seq (.seq (.drawn true 68 [I 26 11,I 27 0,cd 28 27,bp 29 .lss 26 28,I 30 29,ck 30 true 31 0,ck 30 true 32 11,ax 30 true (cq 33 2 31 32),ax 30 true (bh 34 2 33),ax 30 true (bh 35 2 10),ax 30 true (ch 36 120 34 35),ei 37 30 36]) (aU 37 .skip (.exit 2))) (.block 3 (.region [I 38 11,aS 39 .add 38 1,I 11 39]))))) (.seq (.drawn true 68 [I 40 11,I 41 0,cd 42 41,bp 43 .eql 40 42,I 44 43,ax 44 false (bh 45 2 10),ck 44 false 46 0,ck 44 false 47 11,ax 44 false (cq 48 2 46 47),ax 44 false (bh 49 2 48),ax 44 false (ch 50 120 45 49),dy 51 44 50]) (aU 51 (aa [eE 52 2 82 [],I 53 0,I 54 11,bH 55 (.lsl 2 (.t 53) none (some (.t 54))),hv 56 2 82 52 55,I 12 56] (aa [I 57 12,bh 58 2 10,eE 59 2 82 [.t 58],hv 60 2 82 57 59,I 12 60] (.region [I 61 12,I 62 0,I 63 11,bH 64 (.lsl 2 (.t 62) (some (.t 63)) none),hv 65 2 82 61 64,I 0 65]))) .skip))))))) (.fg false 0 (.region [aS 66 .add 19 1,I 19 66]))))) (aa [I 67 0,I 6 67,bs 7 true] .ret))))
def A4:C:=(aa [c6 2 0,bs 4 false] (.seq (aa [aK 7 3 1 2,aw 8 1 7,cd 9 8,bT 10 0] (fo 11 10 9 (.seq (.block 1 (aa [cq 12 4 8 10,bh 13 4 12,dV 6 eb,b1 4 6 13] (aa [bh 14 4 6,I 15 1,ch 16 182 14 15] (aU 16 (aa [bs 4 true] .ret) .skip)))) (.region [aS 17 .add 10 1,I 10 17])))) (aa [aK 18 0 1 2,aw 19 1 18,aS 20 .eql 19 2,I 21 20,ax 21 true (aK 22 2 1 2),ax 21 true (aw 23 1 22),ck 21 true 24 1,ax 21 true (bp 25 .eql 23 24),ei 26 21 25,I 4 26] .ret)))
def aol:b4 aT Tp [.tmp 2] 1 Tryz.f72=true:=an
def aom:b4 aT Tq [.tmp 2] 1 Tryz.f73=true:=an
def OH:b4 aT G1 [.tmp 4] 2 Tryz.f120=true:=an
def aoM:b4 aT TQ [.tmp 4,.tmp 5] 2 Tryz.f123=true:=an
def aoN:b4 aT TR [.tmp 4,.tmp 5] 2 Tryz.f124=true:=an
def Ft:b4 aT A5 [.tmp 6,.tmp 7] 3 Tryz.f125=true:=an
def Zc:b4 aT Lg [.tmp 6,.tmp 7] 3 Tryz.f162=true:=an
def Fs:b4 aT A4 [.tmp 4] 2 Tryz.f182=true:=an
open Classical in
def asV(l:List bR):bK ar 72 [.slice 2 .no (l.map bR.e)] (.bool (decide (iR l))):=by
 generalize bg:decide (iR l)=R;refine br a7 Tryz.func72 aol fun z=>?_;unfold Tp;have B:l.length<=68719476736:=by simp[eV,eN,eS,lim]at z;omega
 simp;refine eH [0,5,6] (fun i (_:Unit)=>[(7,.int .i64 i)]) l.length (fun i _=> ∀j,j<i->jb nn oC l j) () bU (fun k E=>Ω) (fun _ r _=>?_) (fun i _ hi r _=>?_)
 ·have:R=true:=by rw[<-bg,e3,Ip];exact r
  rw[this];exact ca
 ·obtain⟨b,ae⟩:∃b,l[i]? =some b:=⟨_,cl hi⟩;obtain⟨c,aA⟩:∃c,l[i-1]? =some c:=⟨_,cl Ω⟩;have d:∀h,(l[i]'h)=b:=fun h=>by rw[cl hi]at ae;exact ft ae
  have p:¬jb nn oC l i->R=false:=fun h=>by rw[<-bg,hb];exact fun x=>h (Ip.1 x i hi)
  have dd:jb nn oC l i->∀j,j<i+1->jb nn oC l j:=fun h j A=>by
   by_cases e:j=i
   ·rw[e];exact h
   ·exact r j Ω
  have o:jb nn oC l i->nn b:=fun h=>(h b ae).1;have w:jb nn oC l i->0<i->c.v<b.v:=fun h a=>(h b ae).2 c a aA;have u:nn b->(0<i->c.v<b.v)->jb nn oC l i:=fun J U cf t=>by rw[ae]at t;cases t;exact⟨J,fun D a s=>by rw[aA]at s;cases s;exact U a⟩
  unfold nn at o u;by_cases g0:0<i/\¬c.v<b.v
  ·rw[p (fun h=>g0.2 (w h g0.1))];have y:=g0.1;have g:b.v<=c.v:=Ω
   exact ca
  have m:(decide (0<i)&&decide (b.v<=c.v))=false:=by simp;intro h;by_cases v:c.v<b.v;exact v;exact absurd ⟨h,v⟩ g0
  by_cases g1:0<=b.v/\b.v<=100000;rotate_left
  ·rw[p (fun h=>g1 (o h).1)];have f:decide (0<=b.v/\b.v<=100000)=false:=by simp only[hb];exact g1
   by_cases a:0<i
   ·have g:¬b.v<=c.v:=by simp[a]at m;omega
    simp[hi,d,aA];(repeat' first|refine ak ?_|refine aI (dQ _ _ _) ?_|refine aJ (dQ _ _ _) ?_|simp[d,aA,hi,a,g,f,g1]);all_goals simp[bF,aX,aY,aW]
   ·obtain rfl:i=0:=Ω
    simp[hi,d,aA];(repeat' first|refine ak ?_|refine aI (dQ _ _ _) ?_|refine aJ (dQ _ _ _) ?_|simp[d,aA,hi,f,g1]);all_goals simp[bF,aX,aY,aW]
  have f:decide (0<=b.v/\b.v<=100000)=true:=by simp only[e3];exact g1
  by_cases g2:b.k=2\/b.k=3;rotate_left
  ·rw[p (fun h=>g2 (o h).2)];have g21:(b.k !=2)=true:=by simp;omega
   have g22:(b.k !=3)=true:=by simp;omega
   by_cases a:0<i
   ·have g:¬b.v<=c.v:=by simp[a]at m;omega
    simp[hi,d,aA];(repeat' first|refine ak ?_|refine aI (dQ _ _ _) ?_|refine aJ (dQ _ _ _) ?_|simp[d,aA,hi,a,g,f,g1,g21,g22]);all_goals simp[bF,aX,aY,aW]
   ·obtain rfl:i=0:=Ω
    simp[hi,d,aA];(repeat' first|refine ak ?_|refine aI (dQ _ _ _) ?_|refine aJ (dQ _ _ _) ?_|simp[d,aA,hi,f,g1,g21,g22]);all_goals simp[bF,aX,aY,aW]
  have n:=dd (u ⟨g1,g2⟩ fun a=>by simp[a]at m;omega);have q:((b.k !=2)=false)\/((b.k !=2)=true/\(b.k !=3)=false):=by
   rcases g2 with h|h
   ·left;simp[h]
   ·right;simp[h]
  rcases q with g21|⟨g21,g22⟩
  ·by_cases a:0<i
   ·have g:¬b.v<=c.v:=by simp[a]at m;omega
    simp[hi,d,aA];(repeat' first|refine ak ?_|refine aI (dQ _ _ _) ?_|refine aJ (dQ _ _ _) ?_|simp[d,aA,hi,a,g,f,g1,g21]);all_goals exact bQ.rng () hi n bU
   ·obtain rfl:i=0:=Ω
    simp[hi,d,aA];(repeat' first|refine ak ?_|refine aI (dQ _ _ _) ?_|refine aJ (dQ _ _ _) ?_|simp[d,aA,hi,f,g1,g21]);all_goals exact bQ.rng () hi n bU
  ·by_cases a:0<i
   ·have g:¬b.v<=c.v:=by simp[a]at m;omega
    simp[hi,d,aA];(repeat' first|refine ak ?_|refine aI (dQ _ _ _) ?_|refine aJ (dQ _ _ _) ?_|simp[d,aA,hi,a,g,f,g1,g21,g22]);all_goals exact bQ.rng () hi n bU
   ·obtain rfl:i=0:=Ω
    simp[hi,d,aA];(repeat' first|refine ak ?_|refine aI (dQ _ _ _) ?_|refine aJ (dQ _ _ _) ?_|simp[d,aA,hi,f,g1,g21,g22]);all_goals exact bQ.rng () hi n bU
def mQ(a b:bq):bK ar 120 [a.e,b.e] (.bool (ix fO a b)):=by
 rw[<-YE];have bg:u6 a b=(decide (a.v<b.v)||(a.v==b.v&&h5 a.s b.s)):=rfl;rcases Int.lt_trichotomy a.v b.v with h|h|h
 ·have:u6 a b=true:=by rw[bg];simp[h]
  rw[this];refine br a7 Tryz.func120 OH fun c=>?_;unfold G1;exact ca
 ·have J:¬a.v<b.v:=Ω
  have U:(a.v==b.v)=true:=by simp[h]
  have:u6 a b=h5 a.s b.s:=by rw[bg];simp[h]
  rw[this];refine br a7 Tryz.func120 OH fun c=>?_;unfold G1;exact ca
 ·have J:¬a.v<b.v:=Ω
  have U:¬a.v=b.v:=Ω
  have d:(a.v==b.v)=false:=by simp[U]
  have:u6 a b=false:=by rw[bg];simp[J,U]
  rw[this];refine br a7 Tryz.func120 OH fun c=>?_;unfold G1;exact ca
def Xk(l:List dm)(i:Nat)(_:Unit):Prop:= ∀j,j<i->Cn l j
open Classical in
def asA(l:List dm):bK ar 118 [.slice 5 .no (l.map dm.e)] (.bool (decide (AQ l))):=by
 generalize bg:decide (AQ l)=R;refine br a7 Tryz.func118 aoF fun r=>?_;unfold TJ;have s:l.length<=68719476736:=by simp[eV,eN,eS,lim]at r;omega
 simp;refine eH [0,5,6] (fun i (_:Unit)=>[(7,.int .i64 i)]) l.length (Xk l) () bU (fun k v=>Ω) (fun _ d _=>?_) (fun i _ hi d _=>?_)
 ·have:R=decide (l.length<=400):=by rw[<-bg,decide_eq_decide];exact⟨fun h=>h.1,fun h=>⟨h,fun j g=>d j g⟩⟩
  rw[this];simp;(repeat' first|refine ak ?_|simp);simp[bF,aX,aY,aW];all_goals(first|done|omega|(simp;done)|(simp;omega))
 ·obtain⟨b,ae⟩:∃b,l[i]? =some b:=⟨_,cl hi⟩;obtain⟨c,aA⟩:∃c,l[i-1]? =some c:=⟨_,cl Ω⟩;have n:∀h,(l[i]'h)=b:=fun h=>by rw[cl hi]at ae;exact ft ae
  have o:¬Cn l i->R=false:=fun h=>by rw[<-bg,hb];exact fun a=>h (a.2 i hi)
  have dd:Cn l i->Xk l (i+1) ():=fun h j g=>by
   by_cases e:j=i
   ·rw[e];exact h
   ·exact d j Ω
  simp[hi,n,aA];((repeat' first|refine ak ?_|refine aI (dQ _ _ _) ?_|refine aJ (dQ _ _ _) ?_|refine aI (QC _) ?_|refine aJ (QC _) ?_|simp[n,aA,hi]|((first|apply bV|apply b0|apply bZ)<;>intro h<;>try simp at h))<;>(try exact cA));all_goals first
   |(have p:¬Cn l i:=by(intro a;have J:=a b ae;have U:=J.2.1 c;have q:=J.2.2;first|omega|(have w:=U Ω aA;omega)|(rw[q]at h;cases h)|(simp_all;done)|(simp_all;omega))
     rw[o p]
     simp[bF,aX,aY,aW]
     done)
   |(refine bQ.rng () hi (dd fun cf m=>?_) ?_
     ·rw[ae]at m;cases m
      refine⟨?_,fun t u f=>?_,?_⟩
      ·omega
      ·rw[aA]at f;cases f;omega
      ·first|assumption|simp_all
     ·exact bU)
def nM(n:Int):List Int->List Int
 |[]=>[n]
 |c::l=>if c<n then c::nM n l else if c=n then c::l else n::c::l
def vo(l:List Int):Prop:=l.Pairwise (· < ·)
def Xb(n:Int):∀(l:List Int) (k:Nat),(∀i c,i<k->l[i]? =some c->c<n)->(∀c,l[k]? =some c->n<=c)->k<=l.length->nM n l=if l[k]? =some n then l else l.take k++n::l.drop k
 |[],k,_,_,a=>by simp at a;subst a;rfl
 |c::l,0,_,U,_=>by
  have:=U c rfl;by_cases e:c=n
  ·simp[nM,e]
  ·have g:¬c<n:=Ω
   simp[nM,g,e]
 |c::l,k+1,J,U,a=>by have f:=J 0 c Ω rfl;simp only[nM,if_pos f,List.take_succ_cons,List.drop_succ_cons,b3,List.getElem?_cons_succ];rw[Xb n l k (fun i d hi b=>J (i+1) d Ω (by simpa using b)) (fun d b=>U d (by simpa using b)) (by simpa using a)];split<;>rfl
def N4{n m:Int}:∀{l:List Int},m∈nM n l↔m=n\/m∈l
 |[]=>by simp[nM]
 |c::l=>by
  simp only[nM];split
  ·simp only[gj,N4 (l:=l)];constructor
   ·rintro(h|h|h)
    ·exact .inr (.inl h)
    ·exact .inl h
    ·exact .inr (.inr h)
   ·rintro(h|h|h)
    ·exact .inr (.inl h)
    ·exact .inl h
    ·exact .inr (.inr h)
  ·split
   ·rename_i h;subst h;simp
   ·simp
def Xa{n:Int}:∀{l:List Int},vo l->vo (nM n l)
 |[],_=>by simp[nM,vo]
 |c::l,h=>by
  obtain⟨J,U⟩:=n4.1 h;simp only[nM];split
  ·rename_i a;refine n4.2 ⟨fun m hm=>?_,Xa U⟩;rcases N4.1 hm with rfl|hm
   ·exact a
   ·exact J m hm
  ·split
   ·exact h
   ·refine n4.2 ⟨fun m hm=>?_,h⟩;rcases gj.1 hm with rfl|hm
    ·omega
    ·have:=J m hm;omega
def Xc(n:Int):∀l:List Int,(nM n l).length<=l.length+1
 |[]=>by simp[nM]
 |c::l=>by
  have:=Xc n l;simp only[nM];split
  ·simp;omega
  ·split<;>simp
def ER(l:List Int)(i:Nat):(dT l)[i]? =(l[i]?).map (ah.int .i64):=by simp[dT]
def fC(l:List Int):(dT l).length=l.length:=by simp[dT]
def AB:∀l:List Int,cR (dT l)=dT l
 |[]=>by simp[dT,cR]
 |a::l=>by have:=AB l;simp only[dT,fG,cR,de]at this⊢;rw[this]
def If(l:List Int)(n:Int)(k:Nat):cR (kT k (dT l)++ah.int .i64 n::n2 k (kT l.length (dT l)))=dT (kT k l++n::n2 k l):=by
 have e:kT l.length (dT l)=dT l:=gv (by simp[dT]);have a:kT k (dT l)++ah.int .i64 n::n2 k (dT l)=dT (kT k l++n::n2 k l):=by simp only[dT,sP,fG,List.map_take,List.map_drop]
 rw[e,a];exact AB _
def asw(l:List Int)(n:Int)(G:l.length<=1000000)(E:vo l):bK ar 160 [.slice 1 .no (dT l),.int .i64 n] (.slice 1 .no (dT (nM n l))):=by
 refine br a7 Tryz.func160 aov fun H=>?_;unfold Tz;simp;refine xt [0,1] (fun(k:Nat)=>[(5,.int .i64 k)]) (fun k=>k) (fun k=>k<=l.length/\∀c,l[k]? =some c->n<=c) l.length bU ⟨Ω,fun c h=>by simp at h⟩ (fun k v _=>?_);obtain⟨F,v⟩:=v;have B:(∀c,0<k->l[k-1]? =some c->c<n)->nM n l=if l[k]? =some n then l else l.take k++n::l.drop k:=fun h=>Xb n l k (fun i c hi aA=>by
  obtain⟨d,b⟩:∃d,l[k-1]? =some d:=⟨_,cl Ω⟩;have J:=h d Ω b;rcases Nat.lt_or_ge i (k-1)with U|U
  ·have w:=(fp.1 aA);have x:=(fp.1 b);have:=q1.1 E i (k-1) w.1 x.1 U;rw[w.2,x.2]at this;omega
  ·have:i=k-1:=Ω
   subst this;rw[b]at aA;cases aA;exact J) v F
 have y:∀c,l[k]? =some c->∀h,((dT l)[k]'h)= .int .i64 c:=fun c h t=>by have:=ER l k;rw[h,cl t]at this;exact ft this
 have z:(0<k->∃d,l[k-1]? =some d/\d<n)->∀P:Prop,(nM n l=(if l[k]? =some n then l else l.take k++n::l.drop k)->P)->P:=fun h P u=>u (B fun c A aA=>by obtain⟨d,b,J⟩:=h A;rw[b]at aA;cases aA;exact J)
 rcases Nat.eq_zero_or_pos k with A|j
 ·have r:decide ((0:Int)<k)=false:=by simp;omega
  refine z (fun h=>Ω) _ fun e=>?_;by_cases a:k<l.length
  ·obtain⟨c,aA⟩:∃c,l[k]? =some c:=⟨_,cl a⟩;have s:=y c aA;rw[aA]at e;by_cases q:c=n
   ·have p:(c==n)=true:=by simp[q]
    rw[if_pos (by rw[q])]at e;rw[e];simp[r,a];((repeat' first|refine ak ?_|simp[r,a,s,p]|((first|apply bV|apply b0|apply bZ)<;>intro h<;>try simp at h))<;>(try exact cA));all_goals simp[bF,aX,aY,aW]
   ·have p:(c==n)=false:=by simp[q]
    rw[if_neg (by simp[q])]at e;rw[e];simp[r,a];((repeat' first|refine ak ?_|simp[r,a,s,p]|((first|apply bV|apply b0|apply bZ)<;>intro h<;>try simp at h))<;>(try exact cA));all_goals simp[bF,aX,aY,aW]
    all_goals exact If l n k
  ·rw[rR Ω]at e;simp only[reduceCtorEq,if_false]at e;rw[e];simp[r,a];((repeat' first|refine ak ?_|simp[r,a]|((first|apply bV|apply b0|apply bZ)<;>intro h<;>try simp at h))<;>(try exact cA));all_goals simp[bF,aX,aY,aW]
   all_goals exact If l n k
 ·obtain⟨d,b⟩:∃d,l[k-1]? =some d:=⟨_,cl Ω⟩;have m:((k:Int)-1).toNat=k-1:=Ω
  have o:∀h,((dT l)[k-1]'h)= .int .i64 d:=fun t=>by have:=ER l (k-1);rw[b,cl t]at this;exact ft this
  have g:(0:Int)<k:=Ω
  have f:k-1<l.length:=Ω
  by_cases ae:n<=d
  ·simp[j,g,m,o,ae,f];(repeat' first|refine ak ?_|simp[j,g,m,o,ae,f]);refine bQ.whl (k-1) Ω ⟨Ω,fun c aA=>by rw[b]at aA;cases aA;exact ae⟩ ?_;have D:((k-1:Nat):Int)=(k:Int)-1:=Ω
   simp[D];exact bU
  ·refine z (fun _=>⟨d,b,Ω⟩) _ fun e=>?_;by_cases a:k<l.length
   ·obtain⟨c,aA⟩:∃c,l[k]? =some c:=⟨_,cl a⟩;have s:=y c aA;rw[aA]at e;by_cases q:c=n
    ·have p:(c==n)=true:=by simp[q]
     rw[if_pos (by rw[q])]at e;rw[e];simp[j,g,m,o,ae,f,a];((repeat' first|refine ak ?_|simp[j,g,m,o,ae,f,a,s,p]|((first|apply bV|apply b0|apply bZ)<;>intro h<;>try simp at h))<;>(try exact cA));all_goals simp[bF,aX,aY,aW]
    ·have p:(c==n)=false:=by simp[q]
     rw[if_neg (by simp[q])]at e;rw[e];simp[j,g,m,o,ae,f,a];(repeat' first|refine ak ?_|simp[j,g,m,o,ae,f,a,s,p]);all_goals simp[bF,aX,aY,aW]
     all_goals exact If l n k
   ·rw[rR Ω]at e;simp only[reduceCtorEq,if_false]at e;rw[e];simp[j,g,m,o,ae,f,a];(repeat' first|refine ak ?_|simp[j,g,m,o,ae,f,a]);all_goals simp[bF,aX,aY,aW]
    all_goals exact If l n k
def jz:T->List Int->List Int
 | .var n,l=>nM n l
 | .pair a b,l=>jz b (jz a l)
 |_,l=>l
def QE:∀(t:T) {l:List Int},vo l->vo (jz t l)
 | .var _,_,h=>Xa h
 | .pair a b,_,h=>QE b (QE a h)
 | .nil,_,h=>h
 | .sym _,_,h=>h
 | .num _,_,h=>h
def IM{m:Int}:∀(t:T) {l:List Int},m∈jz t l↔t.occ m=true\/m∈l
 | .var n,l=>by simp only[jz,N4,T.occ,dW];constructor<;>rintro(h|h)<;>first|exact .inr h|exact .inl h.symm
 | .pair a b,l=>by
  simp only[jz,IM b,IM a,T.occ,mR];constructor
  ·rintro(h|h|h)
   ·exact .inl (.inr h)
   ·exact .inl (.inl h)
   ·exact .inr h
  ·rintro((h|h)|h)
   ·exact .inr (.inl h)
   ·exact .inl h
   ·exact .inr (.inr h)
 | .nil,l=>by simp[jz,T.occ]
 | .sym _,l=>by simp[jz,T.occ]
 | .num _,l=>by simp[jz,T.occ]
def Gd:∀(t:T) (l:List Int),(jz t l).length<=l.length+t.size
 | .var n,l=>by have:=Xc n l;simp only[jz,T.size];omega
 | .pair a b,l=>by have J:=Gd a l;have U:=Gd b (jz a l);simp only[jz,T.size];omega
 | .nil,l=>by simp[jz]
 | .sym _,l=>by simp[jz]
 | .num _,l=>by simp[jz]
def Ka:∀(t:T) (l:List Int),l.length+t.size<=1000000->vo l->bK ar 119 [t.e,.slice 1 .no (dT l)] (.slice 1 .no (dT (jz t l)))
 | .var n,l,d,c=>by
  simp only[T.size]at d;have key:=asw l n Ω c;refine br a7 Tryz.func119 Fp fun e=>?_;unfold A2;simp;(repeat' first|refine ak ?_|refine aI key ?_|refine aJ key ?_|simp);all_goals simp[bF,aX,aY,aW]
  all_goals simp[jz,AB]
 | .pair a b,l,d,c=>by
  simp only[T.size]at d;have j:=Gd a l;have f:=Ka a l Ω c;have g:=Ka b (jz a l) Ω (QE a c);refine br a7 Tryz.func119 Fp fun e=>?_;unfold A2;simp;refine eH [15,16] (fun i (_:Unit)=>[(1,.slice 1 .no (dT (if i=0 then l else if i=1 then jz a l else jz b (jz a l)))),(17,.int .i64 i)]) 2 (fun _ _=>True) () bU trivial (fun _ _ _=>?_) (fun i _ hi _ _=>?_)
  ·simp;(repeat' first|refine ak ?_|simp);simp[bF,aX,aY,aW];simp[jz,AB]
  ·rcases(by omega:i=0\/i=1)with rfl|rfl
   ·simp;((repeat' first|refine ak ?_|refine aI f ?_|refine aJ f ?_|simp|((first|apply bV|apply b0|apply bZ)<;>intro h<;>try simp at h))<;>(try exact cA));exact bQ.rng () hi trivial bU
   ·simp;((repeat' first|refine ak ?_|refine aI g ?_|refine aJ g ?_|simp|((first|apply bV|apply b0|apply bZ)<;>intro h<;>try simp at h))<;>(try exact cA));exact bQ.rng () hi trivial bU
 | .nil,l,d,c=>by refine br a7 Tryz.func119 Fp fun e=>?_;unfold A2;simp;refine eH [15,16] (fun i (_:Unit)=>[(1,.slice 1 .no (dT l)),(17,.int .i64 i)]) 0 (fun _ _=>True) () bU trivial (fun _ _ _=>?_) (fun i _ hi _ _=>Ω);simp;((repeat' first|refine ak ?_|simp|((first|apply bV|apply b0|apply bZ)<;>intro h<;>try simp at h))<;>(try exact cA));simp[bF,aX,aY,aW];simp[jz,AB]
 | .sym _,l,d,c=>by refine br a7 Tryz.func119 Fp fun e=>?_;unfold A2;simp;refine eH [15,16] (fun i (_:Unit)=>[(1,.slice 1 .no (dT l)),(17,.int .i64 i)]) 0 (fun _ _=>True) () bU trivial (fun _ _ _=>?_) (fun i _ hi _ _=>Ω);simp;(repeat' first|refine ak ?_|simp);simp[bF,aX,aY,aW];simp[jz,AB]
 | .num _,l,d,c=>by refine br a7 Tryz.func119 Fp fun e=>?_;unfold A2;simp;refine eH [15,16] (fun i (_:Unit)=>[(1,.slice 1 .no (dT l)),(17,.int .i64 i)]) 0 (fun _ _=>True) () bU trivial (fun _ _ _=>?_) (fun i _ hi _ _=>Ω);simp;(repeat' first|refine ak ?_|simp);simp[bF,aX,aY,aW];simp[jz,AB]
def alo(s:List b7)(a b:T)(i:Nat)(_:Unit):Prop:=(1<=i->a.has s=false)/\(2<=i->b.has s=false)
def Qx(s:List b7):∀t:T,bK ar 182 [t.e,.str s] (.bool (t.has s))
 | .pair a b=>by
  have e:=Qx s a;have d:=Qx s b;refine br a7 Tryz.func182 Fs fun g=>?_;unfold A4;simp;refine eH [1,2,8,9] (fun i (_:Unit)=>[(10,.int .i64 i)]) 2 (alo s a b) () bU ⟨fun h=>Ω,fun h=>Ω⟩ (fun _ c _=>?_) (fun i _ hi c _=>?_)
  ·simp;(repeat' first|refine ak ?_|simp);simp[bF,aX,aY,aW];simp[T.has,c.1,c.2]
  ·rcases(by omega:i=0\/i=1)with rfl|rfl
   ·cases f:a.has s
    ·rw[f]at e;simp;((repeat' first|refine ak ?_|refine aI e ?_|refine aJ e ?_|simp|((first|apply bV|apply b0|apply bZ)<;>intro h<;>try simp at h))<;>(try exact cA));exact bQ.rng () hi ⟨fun _=>f,fun h=>Ω⟩ bU
    ·rw[f]at e;simp;((repeat' first|refine ak ?_|refine aI e ?_|refine aJ e ?_|simp|((first|apply bV|apply b0|apply bZ)<;>intro h<;>try simp at h))<;>(try exact cA));simp[bF,aX,aY,aW];simp[T.has,f]
   ·cases ae:b.has s
    ·rw[ae]at d;simp;((repeat' first|refine ak ?_|refine aI d ?_|refine aJ d ?_|simp|((first|apply bV|apply b0|apply bZ)<;>intro h<;>try simp at h))<;>(try exact cA));exact bQ.rng () hi ⟨fun _=>c.1 Ω,fun _=>ae⟩ bU
    ·rw[ae]at d;simp;((repeat' first|refine ak ?_|refine aI d ?_|refine aJ d ?_|simp|((first|apply bV|apply b0|apply bZ)<;>intro h<;>try simp at h))<;>(try exact cA));simp[bF,aX,aY,aW];simp[T.has,ae]
 | .sym n=>by
  refine br a7 Tryz.func182 Fs fun g=>?_;unfold A4;simp;refine eH [1,2,8,9] (fun i (_:Unit)=>[(10,.int .i64 i)]) 0 (fun i _=>True) () bU trivial (fun _ c _=>?_) (fun i _ hi c _=>Ω);simp;(repeat' first|refine ak ?_|simp);all_goals simp[bF,aX,aY,aW]
  all_goals simp[T.has]
 | .num n=>by
  refine br a7 Tryz.func182 Fs fun g=>?_;unfold A4;simp;refine eH [1,2,8,9] (fun i (_:Unit)=>[(10,.int .i64 i)]) 0 (fun i _=>True) () bU trivial (fun _ c _=>?_) (fun i _ hi c _=>Ω);simp;(repeat' first|refine ak ?_|simp);all_goals simp[bF,aX,aY,aW]
  all_goals simp[T.has]
 | .var n=>by
  refine br a7 Tryz.func182 Fs fun g=>?_;unfold A4;simp;refine eH [1,2,8,9] (fun i (_:Unit)=>[(10,.int .i64 i)]) 0 (fun i _=>True) () bU trivial (fun _ c _=>?_) (fun i _ hi c _=>Ω);simp;(repeat' first|refine ak ?_|simp);all_goals simp[bF,aX,aY,aW]
  all_goals simp[T.has]
 | .nil=>by
  refine br a7 Tryz.func182 Fs fun g=>?_;unfold A4;simp;refine eH [1,2,8,9] (fun i (_:Unit)=>[(10,.int .i64 i)]) 0 (fun i _=>True) () bU trivial (fun _ c _=>?_) (fun i _ hi c _=>Ω);simp;(repeat' first|refine ak ?_|simp);all_goals simp[bF,aX,aY,aW]
  all_goals simp[T.has]
def p8(l:List bR)(o:aZ (List bR)):ah:= .tuple [.slice 2 .no ((o.getD l).map bR.e),.bool o.isSome]
@[simp]def awi(S:aB->Prop)(l:List bR)(o:aZ (List bR)):au S (p8 l o)=True:=by simp[p8]
def xX(l:List bR)(n:Int)(i:Nat):Prop:=i<=l.length/\∀j y,j<i->l[j]? =some y->y.v<n
def xX.none{l:List bR}{n:Int}{i:Nat}(h:xX l n i)(d:l.Pairwise fun x y=>x.v<y.v)(aA:∀c,l[i]? =some c->n<c.v):mh l n=none:=zQ.2 fun x f=>by
 obtain⟨j,b,rfl⟩:=oS f;have e:=cl b;rcases Nat.lt_or_ge j i with J|J
 ·have:=h.2 j _ J e;omega
 ·have a:i<l.length:=Ω
  have g:=cl a;have k:=aA _ g;rcases Nat.lt_or_ge i j with U|U
  ·have:=q1.1 d i j a b U;omega
  ·obtain rfl:i=j:=Ω
   omega
def xX.ins{l:List bR}{n k:Int}{i:Nat}(h:xX l n i)(aA:∀c,l[i]? =some c->n<c.v):mJ ⟨n,k⟩ l=l.take i++⟨n,k⟩::l.drop i:=Xd ⟨n,k⟩ l i (fun j y J U=>h.2 j y J U) (fun y a=>by have:=aA y a;simp;omega) h.1
def xX.step{l:List bR}{n:Int}{i:Nat}{b:bR}(h:xX l n i)(ae:l[i]? =some b)(a:b.v<n):xX l n (i+1):=⟨(fp.1 ae).1,fun j y J U=>by
 rcases(by omega:j<i\/j=i)with c|rfl
 ·exact h.2 j y c U
 ·rw[ae]at U;cases U;exact a⟩
def asK(l:List bR)(r:l.length<=1000000)(f:l.Pairwise fun x y=>x.v<y.v)(n k:Int):bK ar 125 [.slice 2 .no (l.map bR.e),(T.var n).e,.int .i64 k] (p8 l (lf l (.var n) k)):=by
 generalize m:lf l (.var n) k=O;have a:(match mh l n with|some p=>if p=k then some l else none|none=>some (mJ ⟨n,k⟩ l))=O:=by rw[<-m];rfl
 clear m;refine br a7 Tryz.func125 Ft fun t=>?_;unfold A5;simp;refine xt [0,2,4] (fun(i:Nat)=>[(8,.int .i64 i)]) (fun i=>l.length-i) (xX l n) 0 bU ⟨Ω,fun j y h=>Ω⟩ (fun i d _=>?_);have s:=d.1;by_cases hi:i<l.length
 ·obtain⟨b,ae,g⟩:=dX hi;rcases Int.lt_trichotomy b.v n with h|h|h
  ·have q:=d.step ae h;clear a d ae f;simp[hi,g,h];((repeat' first|refine ak ?_|simp[hi,g,h]|((first|apply bV|apply b0|apply bZ)<;>intro h<;>try simp at h))<;>(try exact cA));exact bQ.whl (i+1) Ω q bU
  ·have a1:mh l n=some b.k:=by rw[<-h];exact Iq f (ev ae)
   have J:¬b.v<n:=Ω
   have U:(b.v==n)=true:=by simp[h]
   rw[a1]at a;simp only at a;subst a;clear d ae f a1;simp[hi,g,J,U];(repeat' first|refine ak ?_|simp[hi,g,J,U]);all_goals simp[bF,aX,aY,aW]
   all_goals(by_cases e:b.k=k<;>simp[p8,e])
  ·have J:¬b.v<n:=Ω
   have U:(b.v==n)=false:=by simp;omega
   have aA:∀c,l[i]? =some c->n<c.v:=fun c aA=>by rw[ae]at aA;cases aA;exact h
   rw[d.none f aA]at a;simp only[d.ins aA]at a;subst a;clear d ae f aA;simp[hi,g,J,U];(repeat' first|refine ak ?_|simp[hi,g,J,U]);all_goals simp[bF,aX,aY,aW]
   all_goals simp[p8]
   rw[gv (by simp:(l.map bR.e).length<=l.length),<-List.map_take,<-List.map_drop,<-fG,<-sP];exact P0 _
 ·have aA:∀c,l[i]? =some c->n<c.v:=fun c aA=>by rw[rR Ω]at aA;cases aA
  rw[d.none f aA]at a;simp only[d.ins aA]at a;have o:i=l.length:=Ω
  clear d f aA;subst a;subst o;simp;(repeat' first|refine ak ?_|simp);all_goals simp[bF,aX,aY,aW]
  all_goals simp[p8]
  rw[gv (by simp:(l.map bR.e).length<=l.length),show [(⟨n,k⟩:bR).e]=[(⟨n,k⟩:bR)].map bR.e from rfl,<-sP];exact P0 _
def abS(l:List bR)(f:l.length<=1000000)(d:l.Pairwise fun x y=>x.v<y.v)(t:T)(k:Int):bK ar 125 [.slice 2 .no (l.map bR.e),t.e,.int .i64 k] (p8 l (lf l t k)):=by
 cases t with
 |var n=>exact asK l f d n k
 |nil=>
  refine br a7 Tryz.func125 Ft fun c=>?_;unfold A5;simp;(repeat' first|refine ak ?_|simp);all_goals simp[bF,aX,aY,aW]
  all_goals(by_cases e:0=k<;>simp[p8,lf,e])
 |sym n=>
  refine br a7 Tryz.func125 Ft fun c=>?_;unfold A5;simp;(repeat' first|refine ak ?_|simp);all_goals simp[bF,aX,aY,aW]
  all_goals(by_cases e:2=k<;>simp[p8,lf,e])
 |num n=>
  refine br a7 Tryz.func125 Ft fun c=>?_;unfold A5;simp;(repeat' first|refine ak ?_|simp);all_goals simp[bF,aX,aY,aW]
  all_goals(by_cases e:3=k<;>simp[p8,lf,e])
 |pair a b=>
  refine br a7 Tryz.func125 Ft fun c=>?_;unfold A5;simp;(repeat' first|refine ak ?_|simp);all_goals simp[bF,aX,aY,aW]
  all_goals(by_cases e:4=k<;>simp[p8,lf,e])
def acb(s:List az)(v:Int):hU s (.var v)=cQ s v:=rfl
def Qy{s:List az}(m:e7 s){l:List bR}(k:iR l):bK ar 123 [.slice 5 .no (s.map az.e),.slice 2 .no (l.map bR.e)] (gC (gG s l [])):=by
 have n:=xY k;refine br a7 Tryz.func123 aoM fun o=>?_;unfold TQ;simp;refine eH [0,11,12] (fun i (a:List bR)=>[(6,.slice 2 .no (a.map bR.e)),(13,.int .i64 i)]) l.length (Xi s l) [] bU ⟨⟨Ψ,Ψ⟩,rfl⟩ (fun a c _=>?_) (fun i a hi c _=>?_)
 ·obtain⟨_,c⟩:=c;rw[List.drop_length]at c;simp only[gG]at c;rw[<-c];simp;(repeat' first|refine ak ?_|simp);simp[bF,aX,aY,aW];simp[gC]
 ·obtain⟨h,c⟩:=c;obtain⟨b,ae,f⟩:=dX hi;have j:=k.at' b (ev ae);rw[mu hi,f]at c;simp only[gG]at c;have e:=Kb s m.len (.var b.v);rw[acb]at e;have d:=abS a (by have:=xY h;omega) h.asc (cQ s b.v) b.k;simp[hi,f];cases g:lf a (cQ s b.v) b.k with
  |none=>rw[g]at c d;simp only at c;rw[<-c];simp only[p8]at d;(repeat' first|refine ak ?_|refine aI (kQ _) ?_|refine aJ (kQ _) ?_|refine aI e ?_|refine aJ e ?_|refine aI d ?_|refine aJ d ?_|simp[f,hi]);simp[bF,aX,aY,aW];simp[gC]
  |some bu=>rw[g]at c d;simp only[p8]at d;(repeat' first|refine ak ?_|refine aI (kQ _) ?_|refine aJ (kQ _) ?_|refine aI e ?_|refine aJ e ?_|refine aI d ?_|refine aJ d ?_|simp[f,hi]);exact bQ.rng bu hi ⟨KB h (CQ m j.1) j.2 g,c⟩ bU
open Classical in
def asW(l:List bq):bK ar 73 [.slice 2 .no (l.map bq.e)] (.bool (decide (iH l))):=by
 generalize bg:decide (iH l)=R;refine br a7 Tryz.func73 aom fun x=>?_;unfold Tq;have z:l.length<=68719476736:=by simp[eV,eN,eS,lim]at x;omega
 simp;refine eH [0,5,6] (fun i (_:Unit)=>[(7,.int .i64 i)]) l.length (fun i _=> ∀j,j<i->jb k6 lC l j) () bU (fun k B=>Ω) (fun _ r _=>?_) (fun i _ hi r _=>?_)
 ·have:R=true:=by rw[<-bg,e3,IG];exact r
  rw[this];exact ca
 ·obtain⟨b,ae⟩:∃b,l[i]? =some b:=⟨_,cl hi⟩;obtain⟨c,aA⟩:∃c,l[i-1]? =some c:=⟨_,cl Ω⟩;have d:∀h,(l[i]'h)=b:=fun h=>by rw[cl hi]at ae;exact ft ae
  have u:¬jb k6 lC l i->R=false:=fun h=>by rw[<-bg,hb];exact fun w=>h (IG.1 w i hi)
  have dd:jb k6 lC l i->∀j,j<i+1->jb k6 lC l j:=fun h j y=>by
   by_cases e:j=i
   ·rw[e];exact h
   ·exact r j Ω
  have m:∀p:Prop,(p->eF)->(jb k6 lC l i->p)->R=false:=fun p J U=>u fun h=>J (U h);have g:jb k6 lC l i->k6 b:=fun h=>(h b ae).1;have v:jb k6 lC l i->0<i->ix fO c b=true:=fun h q=>by simpa[ix,lC]using(h b ae).2 c q aA
  have n:k6 b->(0<i->ix fO c b=true)->jb k6 lC l i:=fun J U cf t=>by rw[ae]at t;cases t;exact⟨J,fun A q s=>by rw[aA]at s;cases s;simpa[ix,lC]using U q⟩
  unfold k6 at g n;by_cases g4:0<i
  ·cases g5:ix fO c b
   ·rw[m _ (fun h=>by rw[h]at g5;cases g5) (fun h=>v h g4)];simp[hi,d,aA];(repeat' first|refine ak ?_|refine aI (mQ _ _) ?_|refine aJ (mQ _ _) ?_|simp[d,aA,hi,g4,g5]);all_goals simp[bF,aX,aY,aW]
   ·by_cases g1:0<=b.v/\b.v<=100000;rotate_left
    ·rw[m _ (fun h=>g1 h) (fun h=>(g h).1)];have f:decide (0<=b.v/\b.v<=100000)=false:=by simp only[hb];exact g1
     simp[hi,d,aA];(repeat' first|refine ak ?_|refine aI (mQ _ _) ?_|refine aJ (mQ _ _) ?_|refine aI (dQ _ _ _) ?_|refine aJ (dQ _ _ _) ?_|simp[d,aA,hi,g4,g5,f,g1]);all_goals simp[bF,aX,aY,aW]
    have f:decide (0<=b.v/\b.v<=100000)=true:=by simp only[e3];exact g1
    cases g3:jg b.s
    ·rw[m _ (fun h=>by rw[h]at g3;cases g3) (fun h=>(g h).2)];have a:=hH b.s;rw[g3]at a;simp[hi,d,aA];(repeat' first|refine ak ?_|refine aI (mQ _ _) ?_|refine aJ (mQ _ _) ?_|refine aI (dQ _ _ _) ?_|refine aJ (dQ _ _ _) ?_|refine aI a ?_|refine aJ a ?_|simp[d,aA,hi,g4,g5,f,g1]);all_goals simp[bF,aX,aY,aW]
    have a:=hH b.s;rw[g3]at a;have o:=dd (n ⟨g1,g3⟩ fun _=>g5);simp[hi,d,aA];(repeat' first|refine ak ?_|refine aI (mQ _ _) ?_|refine aJ (mQ _ _) ?_|refine aI (dQ _ _ _) ?_|refine aJ (dQ _ _ _) ?_|refine aI a ?_|refine aJ a ?_|simp[d,aA,hi,g4,g5,f,g1]);all_goals exact bQ.rng () hi o bU
  ·obtain rfl:i=0:=Ω
   by_cases g1:0<=b.v/\b.v<=100000;rotate_left
   ·rw[m _ (fun h=>g1 h) (fun h=>(g h).1)];have f:decide (0<=b.v/\b.v<=100000)=false:=by simp only[hb];exact g1
    simp[hi,d,aA];(repeat' first|refine ak ?_|refine aI (mQ _ _) ?_|refine aJ (mQ _ _) ?_|refine aI (dQ _ _ _) ?_|refine aJ (dQ _ _ _) ?_|simp[d,aA,hi,g4,f,g1]);all_goals simp[bF,aX,aY,aW]
   have f:decide (0<=b.v/\b.v<=100000)=true:=by simp only[e3];exact g1
   cases g3:jg b.s
   ·rw[m _ (fun h=>by rw[h]at g3;cases g3) (fun h=>(g h).2)];have a:=hH b.s;rw[g3]at a;simp[hi,d,aA];(repeat' first|refine ak ?_|refine aI (mQ _ _) ?_|refine aJ (mQ _ _) ?_|refine aI (dQ _ _ _) ?_|refine aJ (dQ _ _ _) ?_|refine aI a ?_|refine aJ a ?_|simp[d,aA,hi,g4,f,g1]);all_goals simp[bF,aX,aY,aW]
   have a:=hH b.s;rw[g3]at a;have o:=dd (n ⟨g1,g3⟩ fun h=>absurd h g4);simp[hi,d,aA];(repeat' first|refine ak ?_|refine aI (mQ _ _) ?_|refine aJ (mQ _ _) ?_|refine aI (dQ _ _ _) ?_|refine aJ (dQ _ _ _) ?_|refine aI a ?_|refine aJ a ?_|simp[d,aA,hi,g4,f,g1]);all_goals exact bQ.rng () hi o bU
def qy(s:List b7)(bf:List Int)(l:List bq):List bq:=bf.foldl (fun a v=>k5 fO ⟨v,s⟩ a) l
def L0(s:List b7):∀(bf:List Int) {l:List bq},iB fO l->iB fO (qy s bf l)
 |[],_,h=>h
 |v::bf,_,h=>L0 s bf (Nk mN h)
def Yr(s:List b7){x:bq}:∀(bf:List Int) {l:List bq},x∈qy s bf l↔x∈l\/(x.s=s/\x.v∈bf)
 |[],l=>by simp[qy]
 |v::bf,l=>by
  have:=Yr s (x:=x) bf (l:=k5 fO ⟨v,s⟩ l);rw[show qy s (v::bf) l=qy s bf (k5 fO ⟨v,s⟩ l)from rfl,this,IK mN,gj];constructor
  ·rintro((rfl|h)|⟨J,U⟩)
   ·exact .inr ⟨rfl,.inl rfl⟩
   ·exact .inl h
   ·exact .inr ⟨J,.inr U⟩
  ·rintro(h|⟨J,U|U⟩)
   ·exact .inl (.inr h)
   ·refine .inl (.inl ?_);cases x;simp_all
   ·exact .inr ⟨J,U⟩
def Ve(s:List b7):∀(bf:List Int) (l:List bq),(qy s bf l).length<=l.length+bf.length
 |[],l=>by simp[qy]
 |v::bf,l=>by have J:=Ve s bf (k5 fO ⟨v,s⟩ l);have U:=Nn (c:=fO) (⟨v,s⟩:bq) l;rw[show qy s (v::bf) l=qy s bf (k5 fO ⟨v,s⟩ l)from rfl];simp only[ik];omega
def ah3{t:T}{s:List b7}(a:t.has s=false){l:List bq}(b:iB fO l):mU l t s=some (qy s (jz t []) l):=KC a (L0 s _ b) fun x=>by rw[Yr,IM];simp
def EU(l:List bq)(bf:List Int)(s:List b7)(i:Nat)(a:List bq):Prop:=a=qy s (bf.take i) l
def B0(a:List bq)(m:bq)(k:Nat):Prop:=k<=a.length/\∀j y,j<k->a[j]? =some y->fO y m<0
def B0.step{a:List bq}{m:bq}{k:Nat}{b:bq}(h:B0 a m k)(ae:a[k]? =some b)(c:fO b m<0):B0 a m (k+1):=⟨(fp.1 ae).1,fun j y J U=>by
 rcases(by omega:j<k\/j=k)with d|rfl
 ·exact h.2 j y d U
 ·rw[ae]at U;cases U;exact c⟩
def B0.fin{a:List bq}{m:bq}{k:Nat}(h:B0 a m k)(aA:∀y,a[k]? =some y->0<=fO y m):k5 fO m a=if(match a[k]? with|some y=>decide (fO y m=0)|none=>false)=true then a else a.take k++m::a.drop k:=(Nl mN m a k (fun j y J U=>h.2 j y J U) aA h.1).trans (by cases a[k]?<;>rfl)
def YC(a:List bq)(k:Nat)(m:bq):kT k (a.map bq.e)++m.e::n2 k (a.map bq.e)=(a.take k++m::a.drop k).map bq.e:=Ψ
def Ch(a:List bq)(k:Nat)(m:bq):cR (kT k (a.map bq.e)++m.e::n2 k (a.map bq.e))=kT k (a.map bq.e)++m.e::n2 k (a.map bq.e):=by rw[YC,P1]
def Cg(S:aB->Prop)(a:List bq)(k:Nat)(m:bq):ay S (kT k (a.map bq.e)++m.e::n2 k (a.map bq.e))=True:=by rw[YC,XR]
def YB(a:List bq)(m:bq):a.map bq.e++[m.e]=(a++[m]).map bq.e:=Ψ
def Cf(a:List bq)(m:bq):cR (a.map bq.e++[m.e])=a.map bq.e++[m.e]:=by rw[YB,P1]
def Ce(S:aB->Prop)(a:List bq)(m:bq):ay S (a.map bq.e++[m.e])=True:=by rw[YB,XR]
def asL(l:List bq)(U:l.length<=68719470000)(t:T)(aM:t.size<=5000)(s:List b7)(G:iB fO l):bK ar 162 [.slice 2 .no (l.map bq.e),t.e,.str s] (jX (mU l t s)):=by
 have g:=Qx s t;cases o:t.has s;rotate_left
 ·have p:mU l t s=none:=by simp[mU,o]
  rw[p];rw[o]at g;refine br a7 Tryz.func162 Zc fun Q=>?_;unfold Lg;simp;(repeat' first|refine ak ?_|refine aI g ?_|refine aJ g ?_|simp);all_goals simp[bF,aX,aY,aW]
  all_goals simp[jX]
 ·rw[o]at g;have E:=ah3 o G;have B:=Gd t [];have w:=Ka t [] gc (by simp[vo]);have R:dT []=[]:=rfl;rw[R]at w;rw[E];clear E o;generalize jz t []=bf at w B⊢;have S:bf.length<=5000:=by simp at B;omega
  generalize D:qy s bf l=F;refine br a7 Tryz.func162 Zc fun Q=>?_;unfold Lg;simp;(repeat' first|refine ak ?_|refine aI g ?_|refine aJ g ?_|refine aI w ?_|refine aJ w ?_|simp[fC]);refine eH [2,17,18] (fun i (a:List bq)=>[(0,.slice 2 .no (a.map bq.e)),(19,.int .i64 i)]) bf.length (EU l bf s) l ⟨by simp[fresh,ay,au,bX,inObs,Pv.look,fC],dH ip,dK i6,Ψ⟩ (by simp[EU,qy]) (fun a c _=>?_) (fun i a hi c _=>?_)
  ·rw[EU,lZ,D]at c;subst c;simp[fC];(repeat' first|refine ak ?_|simp[fC]);all_goals simp[bF,aX,aY,aW]
   all_goals simp[jX]
  ·obtain⟨v,H⟩:∃v,bf[i]? =some v:=⟨_,cl hi⟩;have A:∀h,((dT bf)[i]'h)= .int .i64 v:=fun O=>by have:=ER bf i;rw[H,cl O]at this;exact ft this
   have u:iB fO a:=by rw[c];exact L0 s _ G
   have L:a.length<=68719475000:=by have:=Ve s (bf.take i) l;rw[c];simp at this⊢;omega
   have e:EU l bf s (i+1) (k5 fO ⟨v,s⟩ a):=by rw[EU,pC,H,c];simp[qy]
   generalize hm:(⟨v,s⟩:bq)=m at e;have z:m.v=v:=by rw[<-hm]
   have K:m.s=s:=by rw[<-hm]
   subst z;subst K;clear c D;simp[hi,A,fC];(repeat' first|refine ak ?_|simp[hi,A,fC]);refine xt [0,2,10,17,18,19] (fun(k:Nat)=>[(11,.int .i64 k)]) (fun k=>a.length-k) (B0 a m) 0 ⟨by simp[fresh,ay,au,bX,inObs,Pv.look,fC],dH ip,dK i6,Ψ⟩ ⟨Ω,fun j y h=>Ω⟩ (fun k c _=>?_);have V:=c.1;by_cases f:k<a.length
   ·obtain⟨b,ae,n⟩:=dX f;cases q:ix fO b m
    ·have M:0<=fO b m:=by simpa[ix]using q
     have d:=c.fin (fun y r=>by rw[ae]at r;cases r;exact M);rw[ae]at d;cases x:ix fO m b
     ·have hle:0<=fO m b:=by simpa[ix]using x
      have p:fO b m=0:=by have:=mN.neg b m;omega
      rw[if_pos (by simp[p])]at d;rw[d]at e;clear c ae d L u;simp[f,n];((repeat' first|refine ak ?_|refine aI (mQ _ _) ?_|refine aJ (mQ _ _) ?_|simp[f,n,q,x]|((first|apply bV|apply b0|apply bZ)<;>intro h<;>try simp at h))<;>(try exact cA));all_goals exact bQ.rng a hi e ⟨by simp[fresh,ay,au,bX,inObs,Pv.look,fC],dH ip,dK i6,Ψ⟩
     ·have hle:fO m b<0:=by simpa[ix]using x
      have p:¬fO b m=0:=by have:=mN.neg b m;omega
      rw[if_neg (by simp[p])]at d;rw[d]at e;clear c ae d u;simp[f,n];((repeat' first|refine ak ?_|refine aI (mQ _ _) ?_|refine aJ (mQ _ _) ?_|simp[f,n,q,x]|((first|apply bV|apply b0|apply bZ)<;>intro h<;>try simp at h))<;>(try exact cA));all_goals try refine⟨by unfold lim;omega,?_⟩
      all_goals(repeat' first|refine ak ?_|simp)
      all_goals try refine⟨by unfold lim;omega,?_⟩
      all_goals((repeat' first|refine ak ?_|simp|((first|apply bV|apply b0|apply bZ)<;>intro h<;>try simp at h))<;>(try exact cA))
      all_goals exact bQ.rng _ hi e ⟨by simp[fresh,ay,au,bX,inObs,Pv.look,fC,gv,Ch,Cg,Cf,Ce],dH ro,dK s7,Ψ⟩
    ·have J:fO b m<0:=by simpa[ix]using q
     have P:=c.step ae J;clear c ae u e;simp[f,n];((repeat' first|refine ak ?_|refine aI (mQ _ _) ?_|refine aJ (mQ _ _) ?_|simp[f,n,q]|((first|apply bV|apply b0|apply bZ)<;>intro h<;>try simp at h))<;>(try exact cA));all_goals exact bQ.whl (k+1) Ω P ⟨by simp[fresh,ay,au,bX,inObs,Pv.look,fC],dH ip,dK i6,Ψ⟩
   ·have d:=c.fin (fun y r=>by rw[rR Ω]at r;cases r);rw[rR Ω]at d;simp only[hI,if_false]at d;rw[d]at e;have N:k=a.length:=Ω
    clear c d u;subst N;simp;(repeat' first|refine ak ?_|simp);all_goals try refine⟨by unfold lim;omega,?_⟩
    all_goals(repeat' first|refine ak ?_|simp)
    all_goals try refine⟨by unfold lim;omega,?_⟩
    all_goals(repeat' first|refine ak ?_|simp)
    all_goals exact bQ.rng _ hi e ⟨by simp[fresh,ay,au,bX,inObs,Pv.look,fC,gv,Ch,Cg,Cf,Ce],dH ro,dK s7,Ψ⟩
def Qz{s:List az}(j:e7 s){l:List bq}(m:iH l){G:List (List b7)}(r:G.length<=687000)(a1:oL G l):bK ar 124 [.slice 5 .no (s.map az.e),.slice 2 .no (l.map bq.e)] (jX (gH s l [])):=by
 have hlen:∀{a:List bq},iH a->oL G a->a.length<=68719470000:=fun J U=>by have:=E8 J U;omega
 have q:=hlen m a1;refine br a7 Tryz.func124 aoN fun t=>?_;unfold TR;simp;refine eH [0,11,12] (fun i (a:List bq)=>[(6,.slice 2 .no (a.map bq.e)),(13,.int .i64 i)]) l.length (Xj s G l) [] bU ⟨⟨Ψ,by simp[iB]⟩,fun x o=>by simp at o,rfl⟩ (fun a c _=>?_) (fun i a hi c _=>?_)
 ·obtain⟨_,_,c⟩:=c;rw[List.drop_length]at c;simp only[gH]at c;rw[<-c];simp;(repeat' first|refine ak ?_|simp);simp[bF,aX,aY,aW];simp[jX]
 ·obtain⟨h,n,c⟩:=c;obtain⟨b,ae,g⟩:=dX hi;have k:=m.at' b (ev ae);have p:=a1 b (ev ae);rw[mu hi,g]at c;simp only[gH]at c;have e:=Kb s j.len (.var b.v);rw[acb]at e;have d:=asL a (hlen h n) (cQ s b.v) (FU j b.v) b.s h.asc;simp[hi,g];cases f:mU a (cQ s b.v) b.s with
  |none=>rw[f]at c d;simp only at c;rw[<-c];simp only[jX]at d;(repeat' first|refine ak ?_|refine aI (kQ _) ?_|refine aJ (kQ _) ?_|refine aI e ?_|refine aJ e ?_|refine aI d ?_|refine aJ d ?_|simp[g,hi]);simp[bF,aX,aY,aW];simp[jX]
  |some bu=>rw[f]at c d;simp only[jX]at d;(repeat' first|refine ak ?_|refine aI (kQ _) ?_|refine aJ (kQ _) ?_|refine aI e ?_|refine aJ e ?_|refine aI d ?_|refine aJ d ?_|simp[g,hi]);exact bQ.rng bu hi ⟨KD h (CQ j k.1) k.2 f,KE n p f,c⟩ bU
def arn{s:List az}(al:rD s)(b:iX s)(c:h7 s):hs (s.map az.b)=s.all (nC s):=by
 rw[rO,iW,sG,<-aaQ b];constructor
 ·rintro⟨d,J,U,a,e⟩;rw[xg J];exact a
 ·intro a;exact⟨s,rfl,al,a,c⟩
def adn{s:List az}(a:iX s)(b:az):nC s b=true↔(∀v∈jz b.t [],dC s v=none)/\(b.t.kind==1&&decide (b.v<=b.t.int))=false:=by unfold nC;rw[cD,Vf a];simp only[true_and,Bool.not_eq_true',IM,List.not_mem_nil,or_false]
def ET(s:List az)(bf:List Int)(i:Nat)(_:Unit):Prop:= ∀v∈bf.take i,dC s v=none
def ET.step{s:List az}{bf:List Int}{i:Nat}(h:ET s bf i ()){v:Int}(b:bf[i]? =some v)(a:dC s v=none):ET s bf (i+1) ():=fun w hw=>by
 rw[pC,b]at hw;simp only[j0,Option.toList_some,List.mem_singleton]at hw;rcases hw with hw|rfl
 ·exact h w hw
 ·exact a
def QB(l:List dm):bK ar 70 [.slice 5 .no (l.map dm.e)] (.bool (hs l)):=by
 have a:=asA l;by_cases h:AQ l;rotate_left
 ·have F:hs l=false:=by unfold hs;simp only[hb];rintro⟨s,J,U,G,K⟩;exact h (Kg.2 ⟨s,J,U,G.asc,K⟩)
  rw[F];refine br a7 Tryz.func70 Zb fun H=>?_;unfold Lf;exact ca
 ·obtain⟨s,rfl,al,D,A⟩:=Kg.1 h;have E:s.length<=1000000:=by have:=A.1;omega
  rw[arn al D A];rw[zX]at a⊢;simp only[h,decide_true]at a;clear h;generalize bg:s.all (nC s)=R;refine br a7 Tryz.func70 Zb fun H=>?_;unfold Lf;simp;(repeat' first|refine ak ?_|refine aI a ?_|refine aJ a ?_|simp);refine eH [0,12,13] (fun i (_:Unit)=>[(14,.int .i64 i)]) s.length (p3 (nC s) s) () bU (fun k b m=>Ω) (fun _ d _=>?_) (fun i _ hi d _=>?_)
  ·have:R=true:=by rw[<-bg,iW];intro b ae;obtain⟨k,m,e⟩:=oS ae;exact d k b m (by rw[cl m,e])
   rw[this];exact ca
  ·obtain⟨b,ae,y⟩:=dX hi;have n:¬nC s b=true->R=false:=fun h=>by rw[<-bg,Bool.eq_false_iff];intro r;rw[iW]at r;exact h (r b (ev ae))
   have o:nC s b=true->p3 (nC s) s (i+1) ():=fun h=>d.step ae h;have w:=adn D b;have N:=A.2 b (ev ae);have u:=Gd b.t [];have q:=Ka b.t [] gc (by simp[vo]);have L:dT []=[]:=rfl;rw[L]at q;generalize jz b.t []=bf at q u w;have M:bf.length<=5000:=by simp at u;omega
   rw[w]at n o;clear w d u ae;simp[hi,y];cases m:(b.t.kind==1&&decide (b.v<=b.t.int));rotate_left
   ·rw[n (by rw[m];simp)];rw[cD]at m;have t:=m.1;have B:b.v<=b.t.int:=of_decide_eq_true m.2;exact ca
   ·rw[m]at n o;simp only[and_true]at n o;cases t:(b.t.kind==1)
    ·clear m;(repeat' first|refine ak ?_|refine aI q ?_|refine aJ q ?_|simp[y,hi,fC,t]);refine eH [0,12,13,14,32,33] (fun j (_:Unit)=>[(34,.int .i64 j)]) bf.length (ET s bf) () ⟨by simp[fresh,ay,au,bX,inObs,Pv.look,fC],dH ip,dK i6,Ψ⟩ (fun v a=>by simp at a) (fun _ d _=>?_) (fun j _ g d _=>?_)
     ·have a1:=o (fun v a=>d v (by rwa[lZ]));simp[fC];(repeat' first|refine ak ?_|simp[fC]);exact bQ.rng () hi a1 ⟨by simp[fresh,ay,au,bX,inObs,Pv.look,fC],dH ip,dK i6,Ψ⟩
     ·obtain⟨v,a⟩:∃v,bf[j]? =some v:=⟨_,cl g⟩;have p:∀h,((dT bf)[j]'h)= .int .i64 v:=fun r=>by have:=ER bf j;rw[a,cl r]at this;exact ft this
      have c:=w6 s v E;cases f:dC s v with
      |none=>have z:=d.step a f;rw[f]at c;simp only[oU,ny]at c;clear d o n f;simp[g,p,fC];(repeat' first|refine ak ?_|refine aI c ?_|refine aJ c ?_|simp[g,p,fC]);exact bQ.rng () g z ⟨by simp[fresh,ay,au,bX,inObs,Pv.look,fC],dH ip,dK i6,Ψ⟩
      |some x=>rw[n (fun h=>by have:=h v (ev a);rw[f]at this;cases this)];rw[f]at c;simp only[mv,um]at c;clear d o n f;simp[g,p,fC];(repeat' first|refine ak ?_|refine aI c ?_|refine aJ c ?_|simp[g,p,fC]);simp[bF,aX,aY,aW]
    ·have B:¬b.v<=b.t.int:=by rw[t]at m;simpa using m
     clear m;(repeat' first|refine ak ?_|refine aI q ?_|refine aJ q ?_|simp[y,hi,fC,t,B]);refine eH [0,12,13,14,32,33] (fun j (_:Unit)=>[(34,.int .i64 j)]) bf.length (ET s bf) () ⟨by simp[fresh,ay,au,bX,inObs,Pv.look,fC],dH ip,dK i6,Ψ⟩ (fun v a=>by simp at a) (fun _ d _=>?_) (fun j _ g d _=>?_)
     ·have a1:=o (fun v a=>d v (by rwa[lZ]));simp[fC];(repeat' first|refine ak ?_|simp[fC]);exact bQ.rng () hi a1 ⟨by simp[fresh,ay,au,bX,inObs,Pv.look,fC],dH ip,dK i6,Ψ⟩
     ·obtain⟨v,a⟩:∃v,bf[j]? =some v:=⟨_,cl g⟩;have p:∀h,((dT bf)[j]'h)= .int .i64 v:=fun r=>by have:=ER bf j;rw[a,cl r]at this;exact ft this
      have c:=w6 s v E;cases f:dC s v with
      |none=>have z:=d.step a f;rw[f]at c;simp only[oU,ny]at c;clear d o n f;simp[g,p,fC];(repeat' first|refine ak ?_|refine aI c ?_|refine aJ c ?_|simp[g,p,fC]);exact bQ.rng () g z ⟨by simp[fresh,ay,au,bX,inObs,Pv.look,fC],dH ip,dK i6,Ψ⟩
      |some x=>rw[n (fun h=>by have:=h v (ev a);rw[f]at this;cases this)];rw[f]at c;simp only[mv,um]at c;clear d o n f;simp[g,p,fC];(repeat' first|refine ak ?_|refine aI c ?_|refine aJ c ?_|simp[g,p,fC]);simp[bF,aX,aY,aW]
def abZ{s:List az}(h:e7 s):bK ar 70 [.slice 5 .no (s.map az.e)] (.bool true):=by have:=QB (s.map az.b);rw[zX,sG.2 ⟨s,rfl,h.ok,h.sol,h.fits⟩]at this;exact this
def TN:C:=(aa [bs 2 false] (.seq (aa [I 5 0,cd 6 5,bT 7 0] (fo 8 7 6 (.seq (.block 1 (aa [cq 9 1 5 7,aw 10 1 9,I 4 10] (aa [I 11 4,cI 12 70 11,cH 13 12] (aU 13 (aa [bs 2 false] .ret) .skip)))) (.region [aS 14 .add 7 1,I 7 14])))) (aa [bs 2 true] .ret)))
def TS:C:=(aa [bs 4 false] (.seq (aa [I 7 0,cd 8 7,bT 9 0] (fo 10 9 8 (.seq (.block 1 (aa [cq 11 5 7 9,bh 12 5 11,dV 6 kI,b1 5 6 12] (aa [aK 13 0 1 6,aw 14 1 13,I 15 1,bp 16 .geq 14 15,I 17 16,ax 17 false (fY 18 1 4 6),ax 17 false (bh 19 4 18),ck 17 false 20 1,ax 17 false (ch 21 122 19 20),ax 17 false (cH 22 21),dy 23 17 22] (aU 23 (aa [bs 4 false] .ret) .skip)))) (.region [aS 24 .add 9 1,I 9 24])))) (aa [bs 4 true] .ret)))
def A6:C:=(aa [c6 2 0,bs 4 false] (.seq (aa [aK 7 3 1 2,aw 8 1 7,cd 9 8,bT 10 0] (fo 11 10 9 (.seq (.block 1 (aa [cq 12 4 8 10,bh 13 4 12,dV 6 eb,b1 4 6 13] (aa [bh 14 4 6,I 15 1,ch 16 122 14 15,cH 17 16] (aU 17 (aa [bs 4 false] .ret) .skip)))) (.region [aS 18 .add 10 1,I 10 18])))) (aa [aK 19 0 1 2,aw 20 1 19,aS 21 .neq 20 1,I 22 21,ax 22 false (aK 23 1 1 2),ax 22 false (aw 24 1 23),ck 22 false 25 1,ax 22 false (bp 26 .lss 24 25),dy 27 22 26,I 4 27] .ret)))
def TM:C:=(aa [e1 4 5] (aa [eE 10 5 74 [],I 5 10] (.seq (aa [I 11 1,cd 12 11,bT 13 0] (fo 14 13 12 (.seq (.block 1 (aa [cq 15 5 11 13,bh 16 5 15,dV 7 kI,b1 5 7 16] (aa [I 18 0,aK 19 0 1 7,aw 20 1 19,ch 21 108 18 20,I 17 21,dr 22 0 17,dr 23 1 17,dV 8 eb,b1 4 8 22,I 9 23] (aa [I 24 9,cH 25 24] (aU 25 (.region [I 26 5,bh 27 5 7,eE 28 5 74 [.t 27],hv 29 5 74 26 28,I 5 29]) .skip))))) (.region [aS 30 .add 13 1,I 13 30])))) (aa [I 31 5,I 4 31] .ret))))
def TP:C:=(aa [e1 2 1] (aa [eE 11 1 30 [],I 3 11] (.seq (.seq (.fg false 3 (.region [I 12 0,cd 13 12,bT 14 0])) (fo 15 14 13 (.seq (.block 1 (aa [cq 16 1 12 14,aw 17 1 16,I 5 17] (aa [bs 6 true] (.seq (aa [I 18 0,cd 19 18,bT 20 0] (.block 2 (.loop (aa [bp 21 .lss 20 19] (.seq (aU 21 .skip (.exit 2)) (.seq (.block 3 (aa [cq 22 1 18 20,aw 23 1 22,I 8 23] (.region [I 24 6,I 25 24,ck 25 true 26 8,ck 25 true 27 5,ax 25 true (ch 28 129 26 27),ax 25 true (aS 29 .eql 28 0),ck 25 true 30 29,ck 30 false 31 8,ck 30 false 32 5,ax 30 false (ch 33 164 31 32),ax 30 false (cH 34 33),ax 25 true (dy 35 30 34),ei 36 25 35,I 6 36]))) (.region [aS 37 .add 20 1,I 20 37]))))))) (aa [I 38 3,cd 39 38,I 9 39] (.seq (.block 4 (.loop (.seq (aa [I 40 9,aS 41 .gtr 40 0,I 42 41,ck 42 true 43 3,ck 42 true 44 9,ax 42 true (aS 45 .sub 44 1),ax 42 true (cq 46 1 43 45),ax 42 true (aw 47 1 46),ck 42 true 48 5,ax 42 true (ch 49 129 47 48),ax 42 true (aS 50 .geq 49 0),ei 51 42 50] (aU 51 .skip (.exit 4))) (.block 5 (.region [I 52 9,aS 53 .sub 52 1,I 9 53]))))) (aa [I 54 6,I 55 54,ck 55 true 56 9,ck 55 true 57 3,ax 55 true (cd 58 57),ax 55 true (bp 59 .eql 56 58),ck 55 true 60 59,ck 60 false 61 3,ck 60 false 62 9,ax 60 false (cq 63 1 61 62),ax 60 false (aw 64 1 63),ck 60 false 65 5,ax 60 false (ch 66 129 64 65),ax 60 false (aS 67 .neq 66 0),ax 55 true (dy 68 60 67),ei 69 55 68] (aU 69 (aa [eE 70 1 30 [],I 71 3,I 72 9,bH 73 (.lsl 1 (.t 71) none (some (.t 72))),hv 74 1 30 70 73,I 10 74] (aa [I 75 10,I 76 5,eE 77 1 30 [.t 76],hv 78 1 30 75 77,I 10 78] (.region [I 79 10,I 80 3,I 81 9,bH 82 (.lsl 1 (.t 80) (some (.t 81)) none),hv 83 1 30 79 82,I 3 83]))) .skip)))))))) (.fg false 3 (.region [aS 84 .add 14 1,I 14 84]))))) (aa [I 85 3,I 2 85] .ret))))
def TO:C:=(aa [bT 4 0] (.seq (aa [bT 5 0] (.block 0 (.loop (.seq (aa [I 7 5,I 8 0,cd 9 8,bp 10 .lss 7 9,I 11 10,ck 11 true 12 5,ck 11 true 13 1,ax 11 true (cd 14 13),ax 11 true (bp 15 .lss 12 14),ei 16 11 15] (aU 16 .skip (.exit 0))) (.seq (.block 1 (.seq (.seq (.drawn true 67 [I 19 0,I 20 5,cq 21 5 19 20,aK 22 0 1 21,aw 23 1 22,I 24 1,I 25 5,cq 26 5 24 25,aK 27 0 1 26,aw 28 1 27,bp 29 .neq 23 28]) (aU 29 (.seq (.drawn true 67 [I 30 0,I 31 5,cq 32 5 30 31,aK 33 0 1 32,aw 34 1 33,I 35 1,I 36 5,cq 37 5 35 36,aK 38 0 1 37,aw 39 1 38,bp 40 .lss 34 39,cI 41 165 40,I 4 41]) .ret) .skip)) (.seq (.drawn true 67 [I 42 0,I 43 5,cq 44 5 42 43,fY 45 1 4 44,bh 46 4 45,I 47 1,I 48 5,cq 49 5 47 48,fY 50 1 4 49,bh 51 4 50,ch 52 152 46 51,I 6 52]) (aa [I 53 6,aS 54 .neq 53 0] (aU 54 (aa [I 55 6,I 4 55] .ret) .skip))))) (.region [I 17 5,aS 18 .add 17 1,I 5 18])))))) (.seq (aa [I 56 0,cd 57 56,I 58 1,cd 59 58,bp 60 .neq 57 59] (aU 60 (aa [I 61 0,cd 62 61,I 63 1,cd 64 63,bp 65 .lss 62 64,cI 66 165 65,I 4 66] .ret) .skip)) (aa [bT 4 0] .ret))))
def Tr:C:=(aa [bs 4 false] (.seq (aa [I 11 0,cI 12 70 11,cH 13 12,I 14 13,ck 14 false 15 1,ax 14 false (cI 16 70 15),ax 14 false (cH 17 16),dy 18 14 17] (aU 18 (aa [bs 4 false] .ret) .skip)) (.seq (aa [I 19 0,cd 20 19,bT 21 0] (fo 22 21 20 (.seq (.block 1 (aa [cq 23 5 19 21,bh 24 5 23,dV 6 kI,b1 5 6 24] (aa [I 26 1,aK 27 0 1 6,aw 28 1 27,cI 29 40 28,ch 30 184 26 29,I 25 30,dr 31 0 25,dr 32 1 25,dV 7 eb,b1 4 7 31,I 8 32] (aa [I 34 1,fY 35 1 4 6,bh 36 4 35,ch 37 184 34 36,I 33 37,dr 38 0 33,dr 39 1 33,dV 9 eb,b1 4 9 38,I 10 39] (aa [I 40 8,cH 41 40,I 42 41,ck 42 false 43 10,ax 42 false (cH 44 43),dy 45 42 44,I 46 45,ax 46 false (bh 47 4 7),ax 46 false (bh 48 4 9),ax 46 false (ch 49 153 47 48),ax 46 false (cH 50 49),dy 51 46 50] (aU 51 (aa [bs 4 false] .ret) .skip)))))) (.region [aS 52 .add 21 1,I 21 52])))) (aa [bs 4 true] .ret))))
def aoJ:b4 aT TN [.tmp 2] 1 Tryz.f71=true:=an
def aoO:b4 aT TS [.tmp 4] 2 Tryz.f74=true:=an
def Fu:b4 aT A6 [.tmp 4] 2 Tryz.f122=true:=an
def aoI:b4 aT TM [.tmp 4] 2 Tryz.f127=true:=an
def aoL:b4 aT TP [.tmp 2] 1 Tryz.f128=true:=an
def aoK:b4 aT TO [.tmp 4] 2 Tryz.f129=true:=an
def aon:b4 aT Tr [.tmp 4] 2 Tryz.f164=true:=an
def Dt:C:=(aa [c6 2 0,c6 3 1,bT 4 0] (.seq (aa [aK 7 0 1 2,aw 8 1 7,aK 9 0 1 3,aw 10 1 9,bp 11 .neq 8 10] (aU 11 (aa [aK 12 0 1 2,aw 13 1 12,aK 14 0 1 3,aw 15 1 14,bp 16 .lss 13 15,cI 17 165 16,I 4 17] .ret) .skip)) (.seq (aa [aK 18 1 1 2,aw 19 1 18,aK 20 1 1 3,aw 21 1 20,bp 22 .neq 19 21] (aU 22 (aa [aK 23 1 1 2,aw 24 1 23,aK 25 1 1 3,aw 26 1 25,bp 27 .lss 24 26,cI 28 165 27,I 4 28] .ret) .skip)) (.seq (aa [aK 29 2 1 2,aw 30 1 29,aK 31 2 1 3,aw 32 1 31,bp 33 .neq 30 32] (aU 33 (aa [aK 34 2 1 2,aw 35 1 34,aK 36 2 1 3,aw 37 1 36,bp 38 .lss 35 37,cI 39 165 38,I 4 39] .ret) .skip)) (.seq (aa [bT 5 0] (.block 0 (.loop (.seq (aa [I 40 5,aK 41 3 1 2,aw 42 1 41,cd 43 42,bp 44 .lss 40 43,I 45 44,ck 45 true 46 5,ax 45 true (aK 47 3 1 3),ax 45 true (aw 48 1 47),ax 45 true (cd 49 48),ax 45 true (bp 50 .lss 46 49),ei 51 45 50] (aU 51 .skip (.exit 0))) (.seq (.block 1 (.seq (.drawn true 68 [aK 54 3 1 2,aw 55 1 54,I 56 5,cq 57 4 55 56,bh 58 4 57,aK 59 3 1 3,aw 60 1 59,I 61 5,cq 62 4 60 61,bh 63 4 62,ch 64 152 58 63,I 6 64]) (aa [I 65 6,aS 66 .neq 65 0] (aU 66 (aa [I 67 6,I 4 67] .ret) .skip)))) (.region [I 52 5,aS 53 .add 52 1,I 5 53])))))) (aa [bT 4 0] .ret))))))
def TD:C:=(aa [c6 2 0,c6 3 1,bs 4 false] (aa [bh 5 4 2,bh 6 4 3,ch 7 152 5 6,aS 8 .eql 7 0,I 4 8] .ret))
def TE:C:=(aa [bT 2 0] (.seq (aa [I 3 0] (aU 3 (aa [bT 2 (-1)] .ret) .skip)) (aa [bT 2 1] .ret)))
def I1:b4 aT Dt [.tmp 4] 2 Tryz.f152=true:=an
def aoz:b4 aT TD [.tmp 4] 2 Tryz.f153=true:=an
def aoA:b4 aT TE [.tmp 2] 1 Tryz.f165=true:=an
def acQ{t u:T}(J:t.kind=u.kind)(U:t.int=u.int)(a:t.name=u.name)(b:t.args=u.args):t=u:=by cases t<;>cases u<;>simp_all
def sL(b:Bool):bK ar 165 [.bool b] (.int .i64 (if b then-1 else 1)):=by
 refine br a7 Tryz.func165 aoA fun a=>?_;unfold TE;simp;((repeat' first|refine ak ?_|simp|((first|apply bV|apply b0|apply bZ)<;>intro h<;>try simp at h))<;>(try exact cA));all_goals simp[bF,aX,aY,aW]
 all_goals simp_all
def aoT{a b:T}(c:a.args=[]\/b.args=[])(J:a.kind=b.kind)(U:a.int=b.int):e0 a b=lE a.name b.name:=by cases a<;>cases b<;>simp_all[e0]
def ES(a b:T)(i:Nat)(_:Unit):Prop:=a.args.take i=b.args.take i
def abI(a:T)(o:∀x∈a.args,∀b:T,bK ar 152 [x.e,b.e] (.int .i64 (e0 x b)))(b:T):bK ar 152 [a.e,b.e] (.int .i64 (e0 a b)):=by
 have hle:a.args.length<=2:=by cases a<;>simp
 by_cases c:a.kind=b.kind
 ·by_cases hi:a.int=b.int
  ·by_cases j:a.name=b.name
   ·have hlen:a.args.length=b.args.length:=by cases a<;>cases b<;>simp at c⊢
    refine br a7 Tryz.func152 I1 fun k=>?_;unfold Dt;simp[c,hi,j];refine eH [2,3] (fun i (_:Unit)=>[(5,.int .i64 i)]) a.args.length (ES a b) () bU (by simp[ES]) (fun _ d _=>?_) (fun i _ g d _=>?_)
    ·simp;(repeat' first|refine ak ?_|simp);simp[bF,aX,aY,aW];unfold ES at d;rw[gv Ω,gv Ω]at d;exact((su a b).2 (acQ c hi j d)).symm
    ·have l:i<b.args.length:=Ω
     obtain⟨x,e⟩:∃x,x=a.args[i]:=⟨_,rfl⟩;obtain⟨y,f⟩:∃y,y=b.args[i]:=⟨_,rfl⟩;have m:=o x (by rw[e];exact List.getElem_mem g) y;simp[g,l,<-e,<-f];(with_reducible repeat' first|((first|apply bV|apply b0|apply bZ)<;>intro h<;>try simp at h)|refine ak ?_|refine aI m ?_|refine aJ m ?_|simp)
     ·simp[bF,aX,aY,aW];unfold ES at d;cases a with
      |pair n a2=>
       cases b with
       |pair p q=>
        simp at g d e f;rcases(by omega:i=0\/i=1)with rfl|rfl
        ·simp at e f;subst e f;simp[e0,h]
        ·simp at d e f;subst e f d;simp[e0,(su n n).2 rfl]
       |_=>simp at c
      |_=>simp at g
     ·refine bQ.rng () g ?_ bU;unfold ES at d⊢;rw[pC,pC,d,cl g,cl l,<-e,<-f,(su x y).1 h]
   ·refine br a7 Tryz.func152 I1 fun k=>?_;unfold Dt;simp[c,hi,j];((repeat' first|refine ak ?_|refine aI (sL _) ?_|refine aJ (sL _) ?_|simp|((first|apply bV|apply b0|apply bZ)<;>intro h<;>try simp at h))<;>(try exact cA));simp[bF,aX,aY,aW];have:a.args=[]\/b.args=[]:=by cases a<;>cases b<;>simp at c j⊢
    rw[aoT this c hi,lE,if_neg j]
  ·refine br a7 Tryz.func152 I1 fun k=>?_;unfold Dt;simp[c,hi];((repeat' first|refine ak ?_|refine aI (sL _) ?_|refine aJ (sL _) ?_|simp|((first|apply bV|apply b0|apply bZ)<;>intro h<;>try simp at h))<;>(try exact cA));simp[bF,aX,aY,aW];cases a<;>cases b<;>simp at c hi
   ·rw[Zj];simp[e6];split<;>(try split)<;>omega
   ·rw[Zi];simp[e6];split<;>(try split)<;>omega
 ·refine br a7 Tryz.func152 I1 fun k=>?_;unfold Dt;simp[c];((repeat' first|refine ak ?_|refine aI (sL _) ?_|refine aJ (sL _) ?_|simp|((first|apply bV|apply b0|apply bZ)<;>intro h<;>try simp at h))<;>(try exact cA));simp[bF,aX,aY,aW];rw[tP c];simp[e6];split<;>(try split)<;>omega
def J8(a:T):∀b:T,bK ar 152 [a.e,b.e] (.int .i64 (e0 a b)):=by
 induction a with
 |pair x y e d=>
  refine abI _ fun z c=>?_;simp at c;rcases c with rfl|rfl
  ·exact e
  ·exact d
 |_=>exact abI _ fun x f=>by simp at f
def abL(a b:T):bK ar 153 [a.e,b.e] (.bool (decide (a=b))):=by refine br a7 Tryz.func153 aoz fun c=>?_;unfold TD;simp;(repeat' first|refine ak ?_|refine aI (J8 _ _) ?_|refine aJ (J8 _ _) ?_|simp);simp[bF,aX,aY,aW];have:=su a b;by_cases h:e0 a b=0<;>simp_all
def asE{s t:List az}(h:e7 s)(aM:e7 t):bK ar 127 [.slice 5 .no (s.map az.e),.slice 5 .no (t.map az.e)] (.slice 5 .no ((hk s t).map az.e)):=by
 have g:=aM.len;generalize bg:hk s t=R;refine br a7 Tryz.func127 aoI fun k=>?_;unfold TM;simp;refine gb (α:=List az) (fun i out=>⟨[(0,.slice 5 .no (s.map az.e)),(11,.slice 5 .no (t.map az.e)),(12,.int .i64 t.length),(5,.slice 5 (.own (.loc 0)) (out.map az.e)),(13,.int .i64 i)],[],[(.loc 0,⟨out.length,74,5,none⟩)],1,[]⟩) t.length (sn s t) [] bU (by simp[sn,hk]) (fun out c _=>?_) (fun i out hi c _=>?_)
 ·rw[sn,gv (e2 _),bg]at c;rw[<-c];exact ca
 ·obtain⟨b,e,d⟩:=dX hi;have j:out.length<=1000000:=by
   have:out.length<=(t.take i).length:=by rw[c];exact List.length_filter_le _ _
   simp at this;omega
  have a:=w6 s b.v h.len;cases ae:dC s b.v with
  |none=>
   have f:sn s t (i+1) (out++[b]):=by rw[sn,sJ e,hk,List.filter_append,c];simp[hk,ae]
   rw[ae]at a;simp only[oU,ny]at a;clear c e ae;simp[hi,d];(repeat' first|refine ak ?_|refine aI a ?_|refine aJ a ?_|simp[d,hi]);all_goals try refine⟨by unfold lim;omega,?_⟩
   (repeat' first|refine ak ?_|simp);refine bQ.rng (out++[b]) hi f ?_;simp;exact⟨by simp[fresh,ay,au,bX,inObs,Pv.look,kG],dH jp,dK kO,Ψ⟩
  |some x=>
   have f:sn s t (i+1) out:=by rw[sn,sJ e,hk,List.filter_append,c];simp[hk,ae]
   rw[ae]at a;simp only[mv,um]at a;clear c e ae;simp[hi,d];(repeat' first|refine ak ?_|refine aI a ?_|refine aJ a ?_|simp[d,hi]);refine bQ.rng out hi f ?_;exact bU
def asa{s t:List az}(u:e7 s)(aM:e7 t):bK ar 164 [.slice 5 .no (s.map az.e),.slice 5 .no (t.map az.e)] (.bool (oE s t)):=by
 have x:=u.len;generalize bg:oE s t=R;have p:=abZ u;have q:=abZ aM;refine br a7 Tryz.func164 aon fun y=>?_;unfold Tr;simp;(repeat' first|refine ak ?_|refine aI p ?_|refine aJ p ?_|refine aI q ?_|refine aJ q ?_|simp);refine eH [1,19,20] (fun i (_:Unit)=>[(21,.int .i64 i)]) s.length (p3 (tJ t) s) () bU (fun k b m=>Ω) (fun _ g _=>?_) (fun i _ hi g _=>?_)
 ·have:R=true:=by rw[<-bg,oE,iW];intro b ae;obtain⟨k,m,e⟩:=oS ae;exact g k b m (by rw[cl m,e])
  rw[this];exact ca
 ·obtain⟨b,j,f⟩:=dX hi;have o:tJ t b=false->R=false:=fun h=>by rw[<-bg,Bool.eq_false_iff];intro r;rw[oE,iW]at r;rw[r b (ev j)]at h;cases h
  have a:=Qv t aM.len (.var b.v);have c:=Qv t aM.len b.t;have n:=FU aM b.v;have w:((T.var b.v).ap (cQ t)).size<=5000:=n;rw[lL w]at a;rw[show(T.var b.v).ap (cQ t)=cQ t b.v from rfl]at a;by_cases l:(b.t.ap (cQ t)).size<=5000
  ·rw[lL l]at c;by_cases he:cQ t b.v=b.t.ap (cQ t)
   ·have v:=g.step j (by simp[tJ,he]);have d:=abL (cQ t b.v) (b.t.ap (cQ t));rw[lL he]at d;clear g j;simp[hi,f];(repeat' first|refine ak ?_|refine aI (kQ _) ?_|refine aJ (kQ _) ?_|refine aI a ?_|refine aJ a ?_|refine aI c ?_|refine aJ c ?_|refine aI d ?_|refine aJ d ?_|simp[f,hi]);exact bQ.rng () hi v bU
   ·rw[o (by simp[tJ,he])];have d:=abL (cQ t b.v) (b.t.ap (cQ t));rw[l0 he]at d;clear g j;simp[hi,f];(repeat' first|refine ak ?_|refine aI (kQ _) ?_|refine aJ (kQ _) ?_|refine aI a ?_|refine aJ a ?_|refine aI c ?_|refine aJ c ?_|refine aI d ?_|refine aJ d ?_|simp[f,hi]);simp[bF,aX,aY,aW]
  ·rw[l0 l]at c;rw[o (by simp only[tJ,hb];intro e;rw[<-e]at l;exact l n)];clear g j;simp[hi,f];(repeat' first|refine ak ?_|refine aI (kQ _) ?_|refine aJ (kQ _) ?_|refine aI a ?_|refine aJ a ?_|refine aI c ?_|refine aJ c ?_|simp[f,hi]);simp[bF,aX,aY,aW]
def Qw(d e:List az):bK ar 129 [.slice 5 .no (d.map az.e),.slice 5 .no (e.map az.e)] (.int .i64 (e5 d e)):=by
 generalize bg:e5 d e=R;refine br a7 Tryz.func129 aoK fun w=>?_;unfold TO;have E:d.length<=68719476736:=by simp[eV,eN,eS,lim]at w;omega
 have he:e.length<=68719476736:=by simp[eV,eN,eS,lim]at w;omega
 simp;refine xt [0,1] (fun(i:Nat)=>[(5,.int .i64 i)]) (fun i=>d.length-i) (Ns d e) 0 bU ⟨Ω,Ω,Ψ⟩ (fun i B _=>?_);obtain⟨J,U,a⟩:=B;rw[bg]at a;by_cases hi:i<d.length
 ·by_cases b:i<e.length
  ·obtain⟨x,m⟩:∃x,d[i]? =some x:=⟨_,cl hi⟩;obtain⟨y,n⟩:∃y,e[i]? =some y:=⟨_,cl b⟩;have f:∀h,(d[i]'h)=x:=fun h=>by rw[cl hi]at m;exact ft m
   have c:∀h,(e[i]'h)=y:=fun h=>by rw[cl b]at n;exact ft n
   have q:d.drop i=x::d.drop (i+1):=by rw[mu hi,f]
   have r:e.drop i=y::e.drop (i+1):=by rw[mu b,c]
   rw[q,r]at a;rw[Zg]at a;by_cases g:x.v=y.v
   ·have k:e6 x.v y.v=0:=(k8.zero _ _).2 g;have p:(x.v !=y.v)=false:=by simp[g]
    rw[if_pos k]at a;by_cases l:e0 x.t y.t=0
    ·rw[if_pos l]at a;have z:Ns d e (i+1):=⟨Ω,Ω,by rw[bg];exact a⟩;have j:=J8 x.t y.t;rw[l]at j;clear q r m n a k;simp[hi,b,f,c];((repeat' first|refine ak ?_|refine aI j ?_|refine aJ j ?_|simp[f,c,hi,b,g,p]|((first|apply bV|apply b0|apply bZ)<;>intro h<;>try simp at h))<;>(try exact cA));all_goals exact bQ.whl (i+1) Ω z bU
    ·rw[if_neg l]at a;have j:=J8 x.t y.t;have D:(e0 x.t y.t !=0)=true:=by simp[l]
     clear q r m n k;simp[hi,b,f,c];(repeat' first|refine ak ?_|refine aI j ?_|refine aJ j ?_|simp[f,c,hi,b,g,p,l,D]);all_goals simp[bF,aX,aY,aW]
     all_goals exact a
   ·have k:¬e6 x.v y.v=0:=fun h=>g ((k8.zero _ _).1 h);have p:(x.v !=y.v)=true:=by simp[g]
    rw[if_neg k]at a;have du:R=if decide (x.v<y.v)=true then-1 else 1:=by rw[<-a];unfold e6;simp only[e3];(repeat' split)<;>omega
    clear q r m n a k;rw[du];simp[hi,b,f,c];(repeat' first|refine ak ?_|refine aI (sL _) ?_|refine aJ (sL _) ?_|simp[f,c,hi,b,g,p]);all_goals simp[bF,aX,aY,aW]
  ·have hle:e.length<d.length:=Ω
   have:(1:Int)=R:=by rw[<-a,e5,E3 _ _ _ (.inr (List.drop_eq_nil_of_le Ω))];simp only[sO];unfold e6;(repeat' split)<;>omega
   have t:¬(d.length:Int)=e.length:=Ω
   have v:((d.length:Int) !=e.length)=true:=by simp;omega
   have s:¬(d.length:Int)<e.length:=Ω
   have o:¬d.length<e.length:=Ω
   have u:¬d.length=e.length:=Ω
   clear a;rw[<-this];simp[hi,b];(repeat' first|refine ak ?_|refine aI (sL _) ?_|refine aJ (sL _) ?_|simp[hi,b,t,v,s,o,u]);all_goals simp[bF,aX,aY,aW]
   all_goals(try simp[o])
 ·have hid:i=d.length:=Ω
  by_cases A:d.length=e.length
  ·have:(0:Int)=R:=by rw[<-a,e5,E3 _ _ _ (.inl (List.drop_eq_nil_of_le Ω))];simp only[sO];unfold e6;(repeat' split)<;>omega
   clear a;rw[<-this];exact ca
  ·have:(-1:Int)=R:=by rw[<-a,e5,E3 _ _ _ (.inl (List.drop_eq_nil_of_le Ω))];simp only[sO];unfold e6;(repeat' split)<;>omega
   have t:¬(d.length:Int)=e.length:=Ω
   have v:((d.length:Int) !=e.length)=true:=by simp;omega
   have s:(d.length:Int)<e.length:=Ω
   have o:d.length<e.length:=Ω
   clear a;rw[<-this];simp[hi];(repeat' first|refine ak ?_|refine aI (sL _) ?_|refine aJ (sL _) ?_|simp[hi,t,v,s,o,A]);all_goals simp[bF,aX,aY,aW]
   all_goals(try simp[o])
def aln(n:Int)(a b:T)(i:Nat)(_:Unit):Prop:=(1<=i->jF n a=true)/\(2<=i->jF n b=true)
def QA(n:Int):∀t:T,bK ar 122 [t.e,.int .i64 n] (.bool (jF n t))
 | .pair a b=>by
  have e:=QA n a;have d:=QA n b;refine br a7 Tryz.func122 Fu fun g=>?_;unfold A6;simp;refine eH [1,2,8,9] (fun i (_:Unit)=>[(10,.int .i64 i)]) 2 (aln n a b) () bU ⟨fun h=>Ω,fun h=>Ω⟩ (fun _ c _=>?_) (fun i _ hi c _=>?_)
  ·simp;(repeat' first|refine ak ?_|simp);simp[bF,aX,aY,aW];simp[jF,c.1,c.2]
  ·rcases(by omega:i=0\/i=1)with rfl|rfl
   ·cases f:jF n a
    ·rw[f]at e;simp;(repeat' first|refine ak ?_|refine aI e ?_|refine aJ e ?_|simp);simp[bF,aX,aY,aW];simp[jF,f]
    ·rw[f]at e;simp;((repeat' first|refine ak ?_|refine aI e ?_|refine aJ e ?_|simp|((first|apply bV|apply b0|apply bZ)<;>intro h<;>try simp at h))<;>(try exact cA));exact bQ.rng () hi ⟨fun _=>f,fun h=>Ω⟩ bU
   ·cases ae:jF n b
    ·rw[ae]at d;simp;((repeat' first|refine ak ?_|refine aI d ?_|refine aJ d ?_|simp|((first|apply bV|apply b0|apply bZ)<;>intro h<;>try simp at h))<;>(try exact cA));simp[bF,aX,aY,aW];simp[jF,ae]
    ·rw[ae]at d;simp;((repeat' first|refine ak ?_|refine aI d ?_|refine aJ d ?_|simp|((first|apply bV|apply b0|apply bZ)<;>intro h<;>try simp at h))<;>(try exact cA));exact bQ.rng () hi ⟨fun _=>c.1 Ω,fun _=>ae⟩ bU
 | .sym v=>by
  refine br a7 Tryz.func122 Fu fun g=>?_;unfold A6;simp;refine eH [1,2,8,9] (fun i (_:Unit)=>[(10,.int .i64 i)]) 0 (fun i _=>True) () bU trivial (fun _ c _=>?_) (fun i _ hi c _=>Ω);simp;((repeat' first|refine ak ?_|simp|((first|apply bV|apply b0|apply bZ)<;>intro h<;>try simp at h))<;>(try exact cA));all_goals simp[bF,aX,aY,aW]
  all_goals simp[jF]
 | .num v=>by
  refine br a7 Tryz.func122 Fu fun g=>?_;unfold A6;simp;refine eH [1,2,8,9] (fun i (_:Unit)=>[(10,.int .i64 i)]) 0 (fun i _=>True) () bU trivial (fun _ c _=>?_) (fun i _ hi c _=>Ω);simp;(repeat' first|refine ak ?_|simp);all_goals simp[bF,aX,aY,aW]
  all_goals simp[jF]
 | .var v=>by
  refine br a7 Tryz.func122 Fu fun g=>?_;unfold A6;simp;refine eH [1,2,8,9] (fun i (_:Unit)=>[(10,.int .i64 i)]) 0 (fun i _=>True) () bU trivial (fun _ c _=>?_) (fun i _ hi c _=>Ω);simp;(repeat' first|refine ak ?_|simp);all_goals simp[bF,aX,aY,aW]
  all_goals simp[jF]
 | .nil=>by
  refine br a7 Tryz.func122 Fu fun g=>?_;unfold A6;simp;refine eH [1,2,8,9] (fun i (_:Unit)=>[(10,.int .i64 i)]) 0 (fun i _=>True) () bU trivial (fun _ c _=>?_) (fun i _ hi c _=>Ω);simp;(repeat' first|refine ak ?_|simp);all_goals simp[bF,aX,aY,aW]
  all_goals simp[jF]
def abT(s:List az)(n:Int):bK ar 74 [.slice 5 .no (s.map az.e),.int .i64 n] (.bool (s.all (lP n))):=by
 generalize bg:s.all (lP n)=R;refine br a7 Tryz.func74 aoO fun m=>?_;unfold TS;have p:s.length<=68719476736:=by simp[eV,eN,eS,lim]at m;omega
 simp;refine eH [1,7,8] (fun i (_:Unit)=>[(9,.int .i64 i)]) s.length (p3 (lP n) s) () bU (fun k b d=>Ω) (fun _ a _=>?_) (fun i _ hi a _=>?_)
 ·have:R=true:=by rw[<-bg,iW];intro b ae;obtain⟨k,d,e⟩:=oS ae;exact a k b d (by rw[cl d,e])
  rw[this];exact ca
 ·obtain⟨b,c,o⟩:=dX hi;have g:lP n b=false->R=false:=fun h=>by rw[<-bg,Bool.eq_false_iff];intro j;rw[iW]at j;rw[j b (ev c)]at h;cases h
  have f:=QA n b.t;by_cases J:b.v<n
  ·have l:¬n<=b.v:=Ω
   cases U:jF n b.t
   ·rw[g (by simp[lP,U])];rw[U]at f;clear a c;exact ca
   ·have q:=a.step c (by simp[lP,J,U]);rw[U]at f;clear a c;exact hS
  ·have l:n<=b.v:=Ω
   rw[g (by simp[lP,J])];clear a c;exact ca
def asH(l:List (List dm)):bK ar 71 [.slice 1 .no (l.map gz)] (.bool (l.all hs)):=by
 generalize bg:l.all hs=R;refine br a7 Tryz.func71 aoJ fun h=>?_;unfold TN;have m:l.length<=68719476736:=by simp[eV,eN,eS,lim]at h;omega
 simp;refine eH [5,6] (fun i (_:Unit)=>[(7,.int .i64 i)]) l.length (p3 hs l) () bU (fun k b d=>Ω) (fun _ a _=>?_) (fun i _ hi a _=>?_)
 ·have:R=true:=by rw[<-bg,iW];intro b ae;obtain⟨k,d,e⟩:=oS ae;exact a k b d (by rw[cl d,e])
  rw[this];exact ca
 ·obtain⟨b,c,j⟩:=dX hi;have f:bK ar 70 [gz b] (.bool (hs b)):=QB b;cases ae:hs b
  ·have:R=false:=by rw[<-bg,Bool.eq_false_iff];intro g;rw[iW]at g;rw[g b (ev c)]at ae;cases ae
   rw[this];rw[ae]at f;clear a c;exact ca
  ·have n:=a.step c ae;rw[ae]at f;clear a c;exact hS
def Uh(a:List (List az))(k:Nat)(m:List az):kT k (a.map c7)++c7 m::n2 k (a.map c7)=(a.take k++m::a.drop k).map c7:=Ψ
def r5(a:List (List az))(k:Nat)(m:List az):cR (kT k (a.map c7)++c7 m::n2 k (a.map c7))=kT k (a.map c7)++c7 m::n2 k (a.map c7):=by rw[Uh,P2]
def r4(S:aB->Prop)(a:List (List az))(k:Nat)(m:List az):ay S (kT k (a.map c7)++c7 m::n2 k (a.map c7))=True:=by rw[Uh,XS]
def Ug(a:List (List az))(m:List az):a.map c7++[c7 m]=(a++[m]).map c7:=Ψ
def r3(a:List (List az))(m:List az):cR (a.map c7++[c7 m])=a.map c7++[c7 m]:=by rw[Ug,P2]
def r2(S:aB->Prop)(a:List (List az))(m:List az):ay S (a.map c7++[c7 m])=True:=by rw[Ug,XS]
def abR(L:List (List az))(H:∀d∈L,e7 d):bK ar 128 [.slice 1 .no (L.map c7)] (.slice 1 .no ((lV L).map c7)):=by
 generalize bg:lV L=R;rw[amp]at bg;refine br a7 Tryz.func128 aoL fun Q=>?_;unfold TP;have U:L.length<=68719476736:=by simp[eV,eN,eS,lim]at Q;omega
 simp;refine eH [0,12,13] (fun i (a:List (List az))=>[(3,.slice 1 .no (a.map c7)),(14,.int .i64 i)]) L.length (zO L) [] bU (by simp[zO]) (fun a m _=>?_) (fun i a hi m _=>?_)
 ·rw[zO,lZ,bg]at m;subst m;exact ca
 ·obtain⟨e,he,K⟩:=dX hi;have y:iB e5 a:=by rw[m];exact Oa _ (by simp[iB])
  have S:a.length<=i:=by have:=Yz (L:=L) (L.take i) [];rw[m];simp at this⊢;omega
  have g:=m.step he;have N:=H e (ev he);have l:∀d,bK ar 129 [c7 d,c7 e] (.int .i64 (e5 d e)):=fun d=>Qw d e;clear m he;simp[hi,K];(repeat' first|refine ak ?_|simp[hi,K]);refine eH [0,3,5,12,13,14,18,19] (fun j (b:Bool)=>[(6,.bool b),(20,.int .i64 j)]) L.length (rq L e) true bU (by simp[rq]) (fun keep m _=>?_) (fun j keep s m _=>?_)
  ·rw[rq,lZ]at m;have J:keep=jK L e:=m;rw[rA,<-J]at g;clear m J;simp;(repeat' first|refine ak ?_|simp);refine xt [0,3,5,6,12,13,14] (fun(k:Nat)=>[(9,.int .i64 k)]) (fun k=>k) (Ij a e) a.length bU ⟨Ω,fun c h=>by simp at h⟩ (fun k m _=>?_);have X:=m.1;rcases Nat.eq_zero_or_pos k with W|r
   ·have D:decide ((0:Int)<k)=false:=by simp;omega
    have z:¬(0:Int)<k:=Ω
    have f:=m.fin y fun d h=>Ω
    clear m y;cases keep with
    |false=>simp only[hI,if_false]at g;clear f;exact hS
    |true=>
     simp only[if_true]at g;by_cases n:k<a.length
     ·obtain⟨c,aA,w⟩:=dX n;rw[aA]at f;by_cases q:e5 c e=0
      ·rw[if_pos (by simp[q])]at f;rw[f]at g;clear f aA;simp[n,w,D,z];((repeat' first|refine ak ?_|refine aI (l _) ?_|refine aJ (l _) ?_|simp[n,w,q,D,z]|((first|apply bV|apply b0|apply bZ)<;>intro h<;>try simp at h))<;>(try exact cA));all_goals exact bQ.rng a hi g bU
      ·rw[if_neg (by simp[q])]at f;have A:(e5 c e !=0)=true:=by simp[q]
       rw[f]at g;clear f aA;simp[n,w,D,z];((repeat' first|refine ak ?_|refine aI (l _) ?_|refine aJ (l _) ?_|simp[n,w,q,A,D,z]|((first|apply bV|apply b0|apply bZ)<;>intro h<;>try simp at h))<;>(try exact cA));all_goals try refine⟨by unfold lim;omega,?_⟩
       all_goals(repeat' first|refine ak ?_|simp)
       all_goals try refine⟨by unfold lim;omega,?_⟩
       all_goals((repeat' first|refine ak ?_|simp|((first|apply bV|apply b0|apply bZ)<;>intro h<;>try simp at h))<;>(try exact cA))
       all_goals exact bQ.rng _ hi g ⟨by simp[fresh,ay,au,bX,inObs,Pv.look,gv,r5,r4,r3,r2],dH mp,dK my,Ψ⟩
     ·rw[rR Ω]at f;simp only[hI,if_false]at f;rw[f]at g;have F:k=a.length:=Ω
      have E:a.take k++e::a.drop k=a++[e]:=by rw[F];simp
      rw[E]at g;clear f E;simp[n,D,z];((repeat' first|refine ak ?_|refine aI (l _) ?_|refine aJ (l _) ?_|simp[n,F,D,z]|((first|apply bV|apply b0|apply bZ)<;>intro h<;>try simp at h))<;>(try exact cA));all_goals try refine⟨by unfold lim;omega,?_⟩
      all_goals(repeat' first|refine ak ?_|simp)
      all_goals try refine⟨by unfold lim;omega,?_⟩
      all_goals((repeat' first|refine ak ?_|simp|((first|apply bV|apply b0|apply bZ)<;>intro h<;>try simp at h))<;>(try exact cA))
      all_goals exact bQ.rng _ hi g ⟨by simp[fresh,ay,au,bX,inObs,Pv.look,gv,r5,r4,r3,r2],dH mp,dK my,Ψ⟩
   ·obtain⟨d,u⟩:∃d,a[k-1]? =some d:=⟨_,cl Ω⟩;have t:((k:Int)-1).toNat=k-1:=Ω
    have v:∀h,(a[k-1]'h)=d:=fun h=>by rw[cl h]at u;exact ft u
    have p:(0:Int)<k:=Ω
    have o:k-1<a.length:=Ω
    by_cases ae:0<=e5 d e
    ·have P:Ij a e (k-1):=⟨Ω,fun c aA=>by rw[u]at aA;cases aA;exact ae⟩;clear m y g u;simp[r,p,t,v,ae,o];((repeat' first|refine ak ?_|refine aI (l _) ?_|refine aJ (l _) ?_|simp[r,p,t,v,ae,o]|((first|apply bV|apply b0|apply bZ)<;>intro h<;>try simp at h))<;>(try exact cA));refine bQ.whl (k-1) Ω P ?_;have O:((k-1:Nat):Int)=(k:Int)-1:=Ω
     simp[O];exact bU
    ·have f:=m.fin y fun V _ G=>by rw[u]at G;cases G;omega
     clear m y u;cases keep with
     |false=>simp only[hI,if_false]at g;clear f;simp[r,p,t,v,ae,o];(repeat' first|refine ak ?_|refine aI (l _) ?_|refine aJ (l _) ?_|simp[r,p,t,v,ae,o]);all_goals exact bQ.rng a hi g bU
     |true=>
      simp only[if_true]at g;by_cases n:k<a.length
      ·obtain⟨c,aA,w⟩:=dX n;rw[aA]at f;by_cases q:e5 c e=0
       ·rw[if_pos (by simp[q])]at f;rw[f]at g;clear f aA;simp[n,w,r,p,t,v,ae,o];((repeat' first|refine ak ?_|refine aI (l _) ?_|refine aJ (l _) ?_|simp[n,w,q,r,p,t,v,ae,o]|((first|apply bV|apply b0|apply bZ)<;>intro h<;>try simp at h))<;>(try exact cA));all_goals exact bQ.rng a hi g bU
       ·rw[if_neg (by simp[q])]at f;have A:(e5 c e !=0)=true:=by simp[q]
        rw[f]at g;clear f aA;simp[n,w,r,p,t,v,ae,o];((repeat' first|refine ak ?_|refine aI (l _) ?_|refine aJ (l _) ?_|simp[n,w,q,A,r,p,t,v,ae,o]|((first|apply bV|apply b0|apply bZ)<;>intro h<;>try simp at h))<;>(try exact cA));all_goals try refine⟨by unfold lim;omega,?_⟩
        all_goals(repeat' first|refine ak ?_|simp)
        all_goals try refine⟨by unfold lim;omega,?_⟩
        all_goals((repeat' first|refine ak ?_|simp|((first|apply bV|apply b0|apply bZ)<;>intro h<;>try simp at h))<;>(try exact cA))
        all_goals exact bQ.rng _ hi g ⟨by simp[fresh,ay,au,bX,inObs,Pv.look,gv,r5,r4,r3,r2],dH mp,dK my,Ψ⟩
      ·rw[rR Ω]at f;simp only[hI,if_false]at f;rw[f]at g;have F:k=a.length:=Ω
       have E:a.take k++e::a.drop k=a++[e]:=by rw[F];simp
       rw[E]at g;clear f E;simp[n,r,p,t,v,ae,o];((repeat' first|refine ak ?_|refine aI (l _) ?_|refine aJ (l _) ?_|simp[n,F,r,p,t,v,ae,o]|((first|apply bV|apply b0|apply bZ)<;>intro h<;>try simp at h))<;>(try exact cA));all_goals try refine⟨by unfold lim;omega,?_⟩
       all_goals(repeat' first|refine ak ?_|simp)
       all_goals try refine⟨by unfold lim;omega,?_⟩
       all_goals(repeat' first|refine ak ?_|simp)
       all_goals exact bQ.rng _ hi g ⟨by simp[fresh,ay,au,bX,inObs,Pv.look,gv,r5,r4,r3,r2],dH mp,dK my,Ψ⟩
  ·obtain⟨d,u,hdi⟩:=dX s;have x:=m.step u;have M:=H d (ev u);have B:bK ar 164 [c7 d,c7 e] (.bool (oE d e)):=asa M N;clear m u g y;cases keep with
   |false=>simp only[Bool.false_and]at x;exact hS
   |true=>
    simp only[Bool.true_and,x3]at x;by_cases q:e5 d e=0
    ·rw[lL ((mM.zero _ _).1 q),Bool.true_or]at x;simp[s,hdi];(repeat' first|refine ak ?_|refine aI (l _) ?_|refine aJ (l _) ?_|simp[s,hdi,q]);all_goals exact bQ.rng true s x bU
    ·rw[l0 (fun h=>q ((mM.zero _ _).2 h)),Bool.false_or]at x;have A:(e5 d e==0)=false:=by simp[q]
     cases a1:oE d e
     ·rw[a1]at x B;simp[s,hdi];(repeat' first|refine ak ?_|refine aI (l _) ?_|refine aJ (l _) ?_|refine aI B ?_|refine aJ B ?_|simp[s,hdi,q,A]);all_goals exact bQ.rng true s x bU
     ·rw[a1]at x B;simp[s,hdi];(repeat' first|refine ak ?_|refine aI (l _) ?_|refine aJ (l _) ?_|refine aI B ?_|refine aJ B ?_|simp[s,hdi,q,A]);all_goals exact bQ.rng false s x bU
def nN.fst{s:List (List az)}{t:List az}{acc:List (List az)}(h:nN s 0 acc)(aM:s[0]? =some t):nN s 1 (if jK s t=true then acc++[t]else acc):=by
 unfold nN at*;rw[u0 aM]at h;have e:(if(1:Nat)=0 then none else s[1-1]?)=some t:=by simpa using aM
 have a:acc++(t::cX (some t) (s.drop 1)).filter (jK s)=(cX none s).filter (jK s):=by rw[<-h];simp[cX]
 rw[e,<-a];by_cases b:jK s t=true<;>simp[b]
def nN.eq{s:List (List az)}{i:Nat}{t:List az}{acc:List (List az)}(h:nN s i acc)(hi:i≠0)(a:s[i-1]? =some t)(aM:s[i]? =some t):nN s (i+1) acc:=by
 unfold nN at*;rw[if_neg hi,a,u0 aM]at h;have e:(if i+1=0 then none else s[i+1-1]?)=some t:=by rw[if_neg Ω];exact aM
 rw[e,<-h];simp[cX]
def nN.ne{s:List (List az)}{i:Nat}{p t:List az}{acc:List (List az)}(h:nN s i acc)(hi:i≠0)(a:s[i-1]? =some p)(aM:s[i]? =some t)(b:¬p=t):nN s (i+1) (if jK s t=true then acc++[t]else acc):=by
 unfold nN at*;rw[if_neg hi,a,u0 aM]at h;have e:(if i+1=0 then none else s[i+1-1]?)=some t:=by rw[if_neg Ω];exact aM
 have d:cX (some p) (t::s.drop (i+1))=t::cX (some t) (s.drop (i+1)):=by simp[cX,b]
 rw[d]at h;rw[e,<-h];by_cases c:jK s t=true<;>simp[c]
def ara(l:List (List az)):(qb e5 l).length=l.length:=(Ay e5 l).length_eq
def zR(S:aB->Prop)(l:List (List az))(d:List az):ay S (l.map c7++[c7 d])=True:=by have:=NG S (l++[d]);rw[sP]at this;exact eq_true this
def ar9(l:List (List az))(J:∀d∈l,e7 d):bK ar 140 [.slice 1 .no (l.map c7)] (.slice 1 .no ((lV l).map c7)):=by
 generalize bg:lV l=R;rw[amo]at bg;refine br a7 Tryz.func140 amY fun P=>?_;unfold RY;have N:l.length<=68719476736:=by simp[eV,eN,eS,lim]at P;omega
 simp;refine eH [0,12,13] (fun i (_:Unit)=>[(14,.int .i64 i)]) l.length (fun _ _=>True) () bU trivial (fun _ _ _=>?_) (fun i _ hi _ _=>?_);rotate_left
 ·obtain⟨e,he,X⟩:=dX hi;have V:bK ar 82 [c7 e] (.bool true):=rI (J e (ev he));exact hS
 simp;(repeat' first|refine ak ?_|simp);all_goals try refine⟨by unfold lim;omega,?_⟩
 all_goals(repeat' first|refine ak ?_|simp)
 refine cx.ob (aiU l N) (Kq l) (by unfold vv ey;exact aG) (by unfold vv ey;exact aG) (by simp[inObs,ey,Pv.look]) ?_;rintro r W ⟨rfl,rfl⟩;refine⟨yH _ _,?_⟩;obtain⟨s,w⟩:∃s,s=qb e5 l:=⟨_,rfl⟩;have U:s.length=l.length:=by rw[w];exact ara l
 have G:∀d∈s,e7 d:=fun d n=>J d (by rw[w,aaT]at n;exact n);rw[<-w]at bg;rw[<-w];clear w;simp[vv,ey,bW];refine gb (fun i (acc:List (List az))=>⟨[(5,.ptr (.obj 822) 0),(6,.slice 1 (.own (.loc 0)) (acc.map c7)),(30,.row 1 (.obj 821) s.length),(31,.int .i64 s.length),(32,.int .i64 i)],[(.obj 822,[.row 1 (.obj 821) s.length])],[(.loc 0,⟨acc.length,30,1,none⟩),(.obj 821,⟨s.length,30,1,some (s.map c7)⟩)],1,[.obj 821,.obj 822]⟩) s.length (fun i acc=>acc.length<=i/\nN s i acc) [] bU ⟨Ψ,by simp[nN]⟩ (fun acc a _=>?_) (fun i acc hi a _=>?_)
 ·have a:=a.2;rw[nN,List.drop_length]at a;have:acc=R:=by rw[<-bg];simpa[cX]using a
  subst this;exact ca
 ·obtain⟨O,a⟩:=a;have S:acc.length<=68719476735:=Ω
  obtain⟨t,o,aM⟩:=dX hi;have dd:=G t (ev o);have x:bK ar 141 [c7 t] (c7 t):=abB t dd.len;have y:(if jK s t=true then acc++[t]else acc).length<=acc.length+1:=by split<;>simp
  rcases Nat.eq_zero_or_pos i with rfl|K
  ·have M:=a.fst o;have k:(if jK s t=true then acc++[t]else acc).length<=0+1/\nN s (0+1) (if jK s t=true then acc++[t]else acc):=⟨j1 y Ω,M⟩;clear a M o;simp[hi,aM];(repeat' first|refine ak ?_|simp[hi,aM]);refine eH [5,6,8,30,31,32,49,50] (fun j (b:Bool)=>[(9,.bool b),(51,.int .i64 j)]) s.length (rq s t) true bU (by simp[rq]) (fun keep a _=>?_) (fun j keep c a _=>?_)
   ·rw[rq,lZ,<-XA]at a;rw[<-a]at k;clear a;cases keep with
    |false=>simp only[hI,if_false]at k;simp;((repeat' first|refine ak ?_|simp|((first|apply bV|apply b0|apply bZ)<;>intro h<;>try simp at h))<;>(try exact cA));all_goals exact bQ.rng acc hi k bU
    |true=>
     simp only[if_true]at k;clear y;simp;((repeat' first|refine ak ?_|refine aI x ?_|refine aJ x ?_|simp|((first|apply bV|apply b0|apply bZ)<;>intro h<;>try simp at h))<;>(try exact cA));all_goals try refine⟨by unfold lim;omega,?_⟩
     all_goals(repeat' first|refine ak ?_|simp)
     all_goals exact bQ.rng (acc++[t]) hi k ⟨by simp[fresh,ay,au,bX,inObs,Pv.look,zR],dH (by simp[fresh,ay,au,bX,inObs,Pv.look,zR]),dK (by simp[fresh,ay,au,dD,inObs,Pv.look,zR]),Ψ⟩
   ·obtain⟨d,n,hdi⟩:=dX c;have f:=a.step n;have F:=G d (ev n);have m:bK ar 174 [c7 d,c7 t] (.bool (oE d t)):=abV d F.len dd;have g:bK ar 173 [c7 d,c7 t] (.int .i64 (e5 d t)):=Kc d t;clear a n k;by_cases q:e5 d t=0
    ·rw[x3,lL ((mM.zero _ _).1 q),Bool.true_or,Bool.and_true]at f;rw[q]at g;simp[c,hdi];((repeat' first|refine ak ?_|refine aI g ?_|refine aJ g ?_|simp[c,hdi]|((first|apply bV|apply b0|apply bZ)<;>intro h<;>try simp at h))<;>(try exact cA));all_goals exact bQ.rng keep c f bU
    ·rw[x3,l0 (fun h=>q ((mM.zero _ _).2 h)),Bool.false_or]at f;have v:(e5 d t !=0)=true:=by simp[q]
     cases a1:oE d t
     ·rw[a1]at f m;simp only[Bool.not_false,Bool.and_true]at f;simp[c,hdi];((repeat' first|refine ak ?_|refine aI g ?_|refine aJ g ?_|refine aI m ?_|refine aJ m ?_|simp[c,hdi,q,v]|((first|apply bV|apply b0|apply bZ)<;>intro h<;>try simp at h))<;>(try exact cA));all_goals exact bQ.rng keep c f bU
     ·rw[a1]at f m;simp only[Bool.not_true,Bool.and_false]at f;simp[c,hdi];((repeat' first|refine ak ?_|refine aI g ?_|refine aJ g ?_|refine aI m ?_|refine aJ m ?_|simp[c,hdi,q,v]|((first|apply bV|apply b0|apply bZ)<;>intro h<;>try simp at h))<;>(try exact cA));all_goals exact bQ.rng false c f bU
  ·obtain⟨p,u⟩:∃p,s[i-1]? =some p:=⟨_,cl Ω⟩;have B:((i:Int)-1).toNat=i-1:=Ω
   have D:∀h,(s[i-1]'h)=p:=fun h=>by rw[cl h]at u;exact ft u
   have L:¬i=0:=Ω
   have A:i-1<s.length:=Ω
   have z:(0:Int)<i:=Ω
   have iR:bK ar 173 [c7 p,c7 t] (.int .i64 (e5 p t)):=Kc p t;by_cases E:p=t
   ·have k:acc.length<=i+1/\nN s (i+1) acc:=⟨Ω,a.eq L (by rw[u,E]) o⟩;rw[(mM.zero _ _).2 E]at iR;clear a o u;simp[hi,aM,B,D,A,z];((repeat' first|refine ak ?_|refine aI iR ?_|refine aJ iR ?_|simp[hi,aM,B,D,A,K,z]|((first|apply bV|apply b0|apply bZ)<;>intro h<;>try simp at h))<;>(try exact cA));all_goals exact bQ.rng acc hi k bU
   ·have k:(if jK s t=true then acc++[t]else acc).length<=i+1/\nN s (i+1) (if jK s t=true then acc++[t]else acc):=⟨j1 y Ω,a.ne L u o E⟩;have H:¬e5 p t=0:=fun h=>E ((mM.zero _ _).1 h);have Q:(e5 p t==0)=false:=by simp[H]
    clear a o u;simp[hi,aM,B,D,A,z];((repeat' first|refine ak ?_|refine aI iR ?_|refine aJ iR ?_|simp[hi,aM,B,D,A,K,z,H,Q]|((first|apply bV|apply b0|apply bZ)<;>intro h<;>try simp at h))<;>(try exact cA));refine eH [5,6,8,30,31,32,49,50] (fun j (b:Bool)=>[(9,.bool b),(51,.int .i64 j)]) s.length (rq s t) true bU (by simp[rq]) (fun keep a _=>?_) (fun j keep c a _=>?_)
    ·rw[rq,lZ,<-XA]at a;rw[<-a]at k;clear a;cases keep with
     |false=>simp only[hI,if_false]at k;simp;((repeat' first|refine ak ?_|simp|((first|apply bV|apply b0|apply bZ)<;>intro h<;>try simp at h))<;>(try exact cA));all_goals exact bQ.rng acc hi k bU
     |true=>
      simp only[if_true]at k;clear y;simp;(repeat' first|refine ak ?_|refine aI x ?_|refine aJ x ?_|simp);all_goals try refine⟨by unfold lim;omega,?_⟩
      all_goals(repeat' first|refine ak ?_|simp)
      all_goals exact bQ.rng (acc++[t]) hi k ⟨by simp[fresh,ay,au,bX,inObs,Pv.look,zR],dH (by simp[fresh,ay,au,bX,inObs,Pv.look,zR]),dK (by simp[fresh,ay,au,dD,inObs,Pv.look,zR]),Ψ⟩
    ·obtain⟨d,n,hdi⟩:=dX c;have f:=a.step n;have F:=G d (ev n);have m:bK ar 174 [c7 d,c7 t] (.bool (oE d t)):=abV d F.len dd;have g:bK ar 173 [c7 d,c7 t] (.int .i64 (e5 d t)):=Kc d t;clear a n k;by_cases q:e5 d t=0
     ·rw[x3,lL ((mM.zero _ _).1 q),Bool.true_or,Bool.and_true]at f;rw[q]at g;simp[c,hdi];((repeat' first|refine ak ?_|refine aI g ?_|refine aJ g ?_|simp[c,hdi]|((first|apply bV|apply b0|apply bZ)<;>intro h<;>try simp at h))<;>(try exact cA));all_goals exact bQ.rng keep c f bU
     ·rw[x3,l0 (fun h=>q ((mM.zero _ _).2 h)),Bool.false_or]at f;have v:(e5 d t !=0)=true:=by simp[q]
      cases a1:oE d t
      ·rw[a1]at f m;simp only[Bool.not_false,Bool.and_true]at f;simp[c,hdi];((repeat' first|refine ak ?_|refine aI g ?_|refine aJ g ?_|refine aI m ?_|refine aJ m ?_|simp[c,hdi,q,v]|((first|apply bV|apply b0|apply bZ)<;>intro h<;>try simp at h))<;>(try exact cA));all_goals exact bQ.rng keep c f bU
      ·rw[a1]at f m;simp only[Bool.not_true,Bool.and_false]at f;simp[c,hdi];((repeat' first|refine ak ?_|refine aI g ?_|refine aJ g ?_|refine aI m ?_|refine aJ m ?_|simp[c,hdi,q,v]|((first|apply bV|apply b0|apply bZ)<;>intro h<;>try simp at h))<;>(try exact cA));all_goals exact bQ.rng false c f bU
end
end Go.Proofs.YtfeencekjcjalaaGreatDoor
