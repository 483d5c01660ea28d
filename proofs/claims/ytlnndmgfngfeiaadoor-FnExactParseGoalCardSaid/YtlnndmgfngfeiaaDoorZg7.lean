/- Own contracts: the parts of a goal read. -/
import Derived.Test.YtlnndmgfngfeiaaDoorProg
import Derived.Test.YtlnndmgfngfeiaaDoorZg6
set_option linter.all false
set_option maxHeartbeats 4000000
set_option maxRecDepth 4000
open Bool renaming and_eq_true->bD,false_eq_true->ib
open Go.IntKind renaming i64->jS
open Go.IntWalk renaming i64_in->k9
open Go.Proofs.Tryd renaming prog->aP
open List renaming all_eq_true->kd,append_assoc->pI,drop_eq_getElem_cons->pJ,drop_length->mb,getElem?_eq_getElem->eo,getElem?_eq_some_iff->gp,length_cons->mc,length_drop->lb,length_pos_iff->pL,map_cons->ig,mem_append->hp,mem_cons->gZ,mem_map->lE,mem_of_getElem?->gL,take_add_one->nJ,take_length->ld
open Nat renaming eq_or_lt_of_le->jB,le_refl->cx
open Option renaming getD_some->oG,isSome_none->qo,map_some->mP
open Option.some renaming inj->iL,injEq->dp
open Prod.mk renaming injEq->hQ
open _root_ renaming False->cv,Option->aR,UInt8->az,if_neg->bh
namespace Go.Proofs.YtlnndmgfngfeiaaDoor
section
open Go Go.Pv
def uK:C:=(al [fk (.alloc 2 none (.agg [.int .i64 0,.str [],.slice 4 .nil [],.slice 4 .nil []])),bQ 3 false] (al [ae 10 0,ef 11 9 10,ae 9 11,eI 12 0 9,eI 13 1 9,ae 4 12,ae 5 13] (.seq (al [ae 14 5,eK 15 14] (be 15 (al [a7 16 (.build [.int .i64 0,.str [],.slice 4 .nil [],.slice 4 .nil []] []),bY 4 2 16,bQ 3 false] .ret) .skip)) (al [ae 18 4,l7 19 10 [.t 18,(cO 0)],ae 17 19,eI 20 0 17,eI 21 1 17,eI 22 2 17,fk (.alloc 6 none (.agg [.int .i64 0,.str [],.slice 4 .nil [],.slice 4 .nil []])),bY 4 6 20,ae 7 21,ae 8 22] (.seq (al [ae 23 8,eK 24 23,ae 25 24,b7 25 false 26 7,b7 25 false 27 4,aO 25 false (ee 28 27),aO 25 false (c6 29 .neq 26 28),dD 30 25 29,ae 31 30,aO 31 false (dv 32 4 6),aO 31 false (ef 33 11 32),aO 31 false (eK 34 33),dD 35 31 34] (be 35 (al [a7 36 (.build [.int .i64 0,.str [],.slice 4 .nil [],.slice 4 .nil []] []),bY 4 2 36,bQ 3 false] .ret) .skip)) (al [dv 37 4 6,bY 4 2 37,bQ 3 true] .ret))))))
@[simp] def AP:List cG:=[.cell 2 true 4,.tmp 3]
def BO:C:=(al [rD 2 1,bQ 3 false] (.seq (al [ae 8 0,a7 9 (.slen (.t 8)),bc 10 .gtr 9 100000] (be 10 (al [rD 2 1,bQ 3 false] .ret) .skip)) (al [jd 11 1 9 [],ae 4 11] (al [cF 5 0] (.seq (.block 0 (.loop (.seq (al [ae 12 5,ae 13 0,a7 14 (.slen (.t 13)),c6 15 .lss 12 14] (be 15 .skip (.exit 0))) (.block 1 (al [ae 16 5,bc 17 .add 16 1,ae 6 17] (.seq (al [ae 18 0,ae 19 5,a7 20 (.sidx (.t 18) (.t 19)),a7 21 (.bin .eql false (.t 20) (.c (.int .u8 59)))] (be 21 (.block 2 (.loop (.seq (al [ae 22 6,ae 23 0,a7 24 (.slen (.t 23)),c6 25 .lss 22 24,ae 26 25,b7 26 true 27 0,b7 26 true 28 6,aO 26 true (a7 29 (.sidx (.t 27) (.t 28))),aO 26 true (a7 30 (.bin .neq false (.t 29) (.c (.int .u8 10)))),ff 31 26 30] (be 31 .skip (.exit 2))) (.block 3 (.region [ae 32 6,bc 33 .add 32 1,ae 6 33]))))) (al [ae 34 0,ae 35 5,a7 36 (.sidx (.t 34) (.t 35)),ef 37 23 36,eK 38 37] (be 38 (.seq (.block 4 (.loop (.seq (al [ae 39 6,ae 40 0,a7 41 (.slen (.t 40)),c6 42 .lss 39 41,ae 43 42,b7 43 true 44 0,b7 43 true 45 6,aO 43 true (a7 46 (.sidx (.t 44) (.t 45))),aO 43 true (ef 47 23 46),aO 43 true (eK 48 47),ff 49 43 48] (be 49 .skip (.exit 4))) (.block 5 (.region [ae 50 6,bc 51 .add 50 1,ae 6 51]))))) (.region [ae 52 4,ae 53 0,ae 54 5,ae 55 6,a7 56 (.ssl (.t 53) (some (.t 54)) (some (.t 55))),jd 57 1 9 [.t 56],qn 58 1 9 52 57,ae 4 58])) (al [ae 59 0,ae 60 5,a7 61 (.sidx (.t 59) (.t 60)),a7 62 (.bin .eql false (.t 61) (.c (.int .u8 40))),ae 63 62,b7 63 false 64 0,b7 63 false 65 5,aO 63 false (a7 66 (.sidx (.t 64) (.t 65))),aO 63 false (a7 67 (.bin .eql false (.t 66) (.c (.int .u8 41)))),dD 68 63 67] (be 68 (.region [ae 69 4,ae 70 0,ae 71 5,ae 72 6,a7 73 (.ssl (.t 70) (some (.t 71)) (some (.t 72))),jd 74 1 9 [.t 73],qn 75 1 9 69 74,ae 4 75]) .skip)))))) (.region [ae 76 6,ae 5 76]))))))) (.seq (al [cF 7 0] (.block 6 (.loop (.seq (al [ae 77 7,ae 78 0,a7 79 (.slen (.t 78)),c6 80 .lss 77 79] (be 80 .skip (.exit 6))) (.seq (.block 7 (al [ae 83 0,ae 84 7,a7 85 (.sidx (.t 83) (.t 84)),a7 86 (.bin .neq false (.t 85) (.c (.int .u8 10))),ae 87 86,b7 87 true 88 0,b7 87 true 89 7,aO 87 true (a7 90 (.sidx (.t 88) (.t 89))),aO 87 true (a7 91 (.conv .i64 (.t 90))),aO 87 true (l7 92 24 [.t 91,(cO 32),(cO 126)]),aO 87 true (eK 93 92),ff 94 87 93] (be 94 (al [rD 2 1,bQ 3 false] .ret) .skip))) (.region [ae 81 7,bc 82 .add 81 1,ae 7 82])))))) (.seq (al [ae 95 4,ee 96 95,bc 97 .gtr 96 20000] (be 97 (al [rD 2 1,bQ 3 false] .ret) .skip)) (al [ae 98 4,ae 2 98,bQ 3 true] .ret))))))))
@[simp] def AR:List cG:=[.tmp 2,.tmp 3]
def rP:C:=(al [fk (.alloc 4 none (.agg [.int .i64 0,.str [],.slice 4 .nil [],.slice 4 .nil []])),cF 5 0,bQ 6 false] (.seq (al [ae 16 1,ae 17 0,ee 18 17,c6 19 .lss 16 18,ae 20 19,b7 20 true 21 0,b7 20 true 22 1,aO 20 true (eS 23 1 21 22),aO 20 true (bB 24 1 23),lD 20 true 25 (.bin .eql false (.t 24) (.c (.str [116,114,117,101]))),ff 26 20 25] (be 26 (al [a7 27 (.build [.int .i64 0,.str [],.slice 4 .nil [],.slice 4 .nil []] []),ae 28 1,bc 29 .add 28 1,bY 4 4 27,ae 5 29,bQ 6 true] .ret) .skip)) (.seq (al [ae 30 1,ae 31 0,ee 32 31,c6 33 .lss 30 32,ae 34 33,b7 34 true 35 0,b7 34 true 36 1,aO 34 true (eS 37 1 35 36),aO 34 true (bB 38 1 37),lD 34 true 39 (.bin .eql false (.t 38) (.c (.str [102,97,105,108]))),ff 40 34 39] (be 40 (al [a7 41 (.build [.int .i64 0,.str [],.slice 4 .nil [],.slice 4 .nil []] [(0,1,(cO 1))]),ae 42 1,bc 43 .add 42 1,bY 4 4 41,ae 5 43,bQ 6 true] .ret) .skip)) (.seq (al [ae 44 1,bc 45 .add 44 1,ae 46 0,ee 47 46,c6 48 .geq 45 47,ae 49 48,b7 49 false 50 0,b7 49 false 51 1,aO 49 false (eS 52 1 50 51),aO 49 false (bB 53 1 52),lD 49 false 54 (.bin .neq false (.t 53) (.c (.str [40]))),dD 55 49 54] (be 55 (al [a7 56 (.build [.int .i64 0,.str [],.slice 4 .nil [],.slice 4 .nil []] []),bY 4 4 56,cF 5 0,bQ 6 false] .ret) .skip)) (al [ae 57 0,ae 58 1,bc 59 .add 58 1,eS 60 1 57 59,bB 61 1 60,a7 62 (.build [.int .i64 0,.str [],.slice 4 .nil [],.slice 4 .nil []] [(0,1,(cO 9)),(1,1,(.t 61))]),fk (.alloc 7 none (.agg [.int .i64 0,.str [],.slice 4 .nil [],.slice 4 .nil []])),bY 4 7 62] (.seq (al [l7 63 25 [],ee 64 63,cF 65 0] (uy 66 65 64 (.seq (.block 1 (al [ae 67 65,eS 68 1 63 65,bB 69 1 68,ae 8 67,ae 9 69] (al [ae 70 9,ae 71 0,ae 72 1,bc 73 .add 72 1,eS 74 1 71 73,bB 75 1 74,c6 76 .eql 70 75] (be 76 (.region [ae 77 8,a7 78 (.build [.int .i64 0,.str [],.slice 4 .nil [],.slice 4 .nil []] [(0,1,(.t 77))]),bY 4 7 78]) .skip)))) (.region [bc 79 .add 65 1,ae 65 79])))) (al [ae 80 1,bc 81 .add 80 2,ae 1 81] (.seq (.block 2 (.loop (.seq (al [ae 82 1,ae 83 0,ee 84 83,c6 85 .lss 82 84,ae 86 85,b7 86 true 87 0,b7 86 true 88 1,aO 86 true (eS 89 1 87 88),aO 86 true (bB 90 1 89),lD 86 true 91 (.bin .neq false (.t 90) (.c (.str [41]))),ff 92 86 91] (be 92 .skip (.exit 2))) (.block 3 (al [bE 93 0 1 7,bB 94 1 93,bc 95 .eql 94 7,ae 96 95,aO 96 false (bE 97 0 1 7),aO 96 false (bB 98 1 97),aO 96 false (bc 99 .eql 98 8),dD 100 96 99,ae 101 100,aO 101 false (bE 102 0 1 7),aO 101 false (bB 103 1 102),aO 101 false (bc 104 .eql 103 10),dD 105 101 104] (be 105 (al [ae 107 0,ae 108 1,gK 109 10 107 108,ae 106 109,eI 110 0 106,eI 111 1 106,eI 112 2 106,fk (.alloc 10 none (.agg [.int .i64 0,.str [],.slice 4 .nil [],.slice 4 .nil []])),bY 4 10 110,ae 11 111,ae 12 112] (.seq (al [ae 113 12,eK 114 113] (be 114 (al [a7 115 (.build [.int .i64 0,.str [],.slice 4 .nil [],.slice 4 .nil []] []),bY 4 4 115,cF 5 0,bQ 6 false] .ret) .skip)) (al [bE 116 3 1 7,bB 117 1 116,dv 118 4 10,jd 119 4 25 [.t 118],qn 120 4 25 117 119,bE 121 3 1 7,bY 1 121 120] (.region [ae 122 11,ae 1 122])))) (al [ae 124 0,ae 125 1,gK 126 26 124 125,ae 123 126,eI 127 0 123,eI 128 1 123,eI 129 2 123,hZ 13 dO,bY 4 13 127,ae 14 128,ae 15 129] (.seq (al [ae 130 15,eK 131 130] (be 131 (al [a7 132 (.build [.int .i64 0,.str [],.slice 4 .nil [],.slice 4 .nil []] []),bY 4 4 132,cF 5 0,bQ 6 false] .ret) .skip)) (al [bE 133 2 1 7,bB 134 1 133,dv 135 4 13,jd 136 4 51 [.t 135],qn 137 4 51 134 136,bE 138 2 1 7,bY 1 138 137] (.region [ae 139 14,ae 1 139])))))))))) (.seq (.fz true 7 (.drawn true 152 [a7 140 (.loadZ true 4 (.t 7)),ae 141 1,bc 142 .add 141 1,ae 143 1,ae 144 0,ee 145 144,c6 146 .lss 143 145,ae 147 146,aO 147 true (bE 148 0 1 7),aO 147 true (a7 149 (.loadZ false 1 (.t 148))),aO 147 true (bc 150 .gtr 149 1),ff 151 147 150,bY 4 4 140,ae 5 142,ae 6 151])) .ret)))))))))
@[simp] def jy:List cG:=[.cell 4 true 4,.tmp 5,.tmp 6]
def te:C:=(al [bQ 2 false] (al [ae 3 0,a7 4 (.bin .eql false (.t 3) (.c (.int .u8 32))),ae 5 4,b7 5 false 6 0,aO 5 false (a7 7 (.bin .eql false (.t 6) (.c (.int .u8 10)))),dD 8 5 7,ae 9 8,b7 9 false 10 0,aO 9 false (a7 11 (.bin .eql false (.t 10) (.c (.int .u8 40)))),dD 12 9 11,ae 13 12,b7 13 false 14 0,aO 13 false (a7 15 (.bin .eql false (.t 14) (.c (.int .u8 41)))),dD 16 13 15,ae 17 16,b7 17 false 18 0,aO 17 false (a7 19 (.bin .eql false (.t 18) (.c (.int .u8 59)))),dD 20 17 19,ae 2 20] .ret))
@[simp] def Tn:List cG:=[.tmp 2]
def tf:C:=(al [hZ 4 dO,cF 5 0,bQ 6 false] (.seq (al [ae 17 1,ae 18 0,ee 19 18,c6 20 .geq 17 19,ae 21 20,b7 21 false 22 0,b7 21 false 23 1,aO 21 false (eS 24 1 22 23),aO 21 false (bB 25 1 24),lD 21 false 26 (.bin .eql false (.t 25) (.c (.str [41]))),dD 27 21 26,ae 28 27,b7 28 false 29 0,b7 28 false 30 1,aO 28 false (eS 31 1 29 30),aO 28 false (bB 32 1 31),lD 28 false 33 (.bin .eql false (.t 32) (.c (.str [46]))),dD 34 28 33] (be 34 (al [kE 35 dO [],bY 4 4 35,cF 5 0,bQ 6 false] .ret) .skip)) (.seq (al [ae 36 0,ae 37 1,eS 38 1 36 37,bB 39 1 38,a7 40 (.bin .neq false (.t 39) (.c (.str [40])))] (be 40 (al [ae 42 0,ae 43 1,eS 44 1 42 43,bB 45 1 44,ef 46 37 45,ae 41 46,eI 47 0 41,eI 48 1 41,hZ 7 dO,bY 4 7 47,ae 8 48] (al [dv 49 4 7,ae 50 1,bc 51 .add 50 1,ae 52 8,bY 4 4 49,ae 5 51,ae 6 52] .ret)) .skip)) (al [jd 53 4 51 [],ae 9 53] (al [ae 54 1,bc 55 .add 54 1,ae 1 55] (.seq (.block 0 (.loop (.seq (al [ae 56 1,ae 57 0,ee 58 57,c6 59 .lss 56 58,ae 60 59,b7 60 true 61 0,b7 60 true 62 1,aO 60 true (eS 63 1 61 62),aO 60 true (bB 64 1 63),lD 60 true 65 (.bin .neq false (.t 64) (.c (.str [41]))),ff 66 60 65,ae 67 66,b7 67 true 68 0,b7 67 true 69 1,aO 67 true (eS 70 1 68 69),aO 67 true (bB 71 1 70),lD 67 true 72 (.bin .neq false (.t 71) (.c (.str [46]))),ff 73 67 72] (be 73 .skip (.exit 0))) (.block 1 (al [ae 75 0,ae 76 1,gK 77 26 75 76,ae 74 77,eI 78 0 74,eI 79 1 74,eI 80 2 74,hZ 10 dO,bY 4 10 78,ae 11 79,ae 12 80] (.seq (al [ae 81 12,eK 82 81] (be 82 (al [kE 83 dO [],bY 4 4 83,cF 5 0,bQ 6 false] .ret) .skip)) (al [ae 84 9,dv 85 4 10,jd 86 4 51 [.t 85],qn 87 4 51 84 86,ae 9 87] (.region [ae 88 11,ae 1 88])))))))) (al [kE 89 dO [],hZ 13 dO,bY 4 13 89] (.seq (al [ae 90 1,ae 91 0,ee 92 91,c6 93 .lss 90 92,ae 94 93,b7 94 true 95 0,b7 94 true 96 1,aO 94 true (eS 97 1 95 96),aO 94 true (bB 98 1 97),lD 94 true 99 (.bin .eql false (.t 98) (.c (.str [46]))),ff 100 94 99] (be 100 (al [ae 102 0,ae 103 1,bc 104 .add 103 1,gK 105 26 102 104,ae 101 105,eI 106 0 101,eI 107 1 101,eI 108 2 101,hZ 14 dO,bY 4 14 106,ae 15 107,ae 16 108] (.seq (al [ae 109 16,eK 110 109,ae 111 110,b7 111 false 112 9,aO 111 false (ee 113 112),aO 111 false (bc 114 .eql 113 0),dD 115 111 114] (be 115 (al [kE 116 dO [],bY 4 4 116,cF 5 0,bQ 6 false] .ret) .skip)) (al [dv 117 4 14,bY 4 13 117] (.region [ae 118 15,ae 1 118])))) .skip)) (.seq (al [ae 119 1,ae 120 0,ee 121 120,c6 122 .geq 119 121,ae 123 122,b7 123 false 124 0,b7 123 false 125 1,aO 123 false (eS 126 1 124 125),aO 123 false (bB 127 1 126),lD 123 false 128 (.bin .neq false (.t 127) (.c (.str [41]))),dD 129 123 128] (be 129 (al [kE 130 dO [],bY 4 4 130,cF 5 0,bQ 6 false] .ret) .skip)) (al [ae 131 9,dv 132 4 13,gK 133 38 131 132,ae 134 1,bc 135 .add 134 1,bY 4 4 133,ae 5 135,bQ 6 true] .ret))))))))))
@[simp] def sM:List cG:=[.cell 4 true 4,.tmp 5,.tmp 6]
def rO:C:=(al [hZ 2 dO,bQ 3 false] (.seq (al [ae 7 0,ef 8 50 7] (be 8 (al [ae 9 0,ef 10 51 9,bY 4 2 10,bQ 3 true] .ret) .skip)) (al [kE 11 dO [(0,1,(cO 3))],hZ 4 dO,bY 4 4 11] (.seq (al [ae 12 0,a7 13 (.slen (.t 12)),bc 14 .gtr 13 0,ae 15 14,b7 15 true 16 0,aO 15 true (a7 17 (.sidx (.t 16) (cO 0))),aO 15 true (a7 18 (.bin .eql false (.t 17) (.c (.int .u8 63)))),ff 19 15 18] (be 19 (al [bE 20 0 1 4,fk (.store 1 (.t 20) (cO 1))] (.region [ae 21 0,a7 22 (.ssl (.t 21) (some (cO 1)) none),ae 0 22])) .skip)) (al [ae 24 0,ef 25 52 24,ae 23 25,eI 26 0 23,eI 27 1 23,ae 5 26,ae 6 27] (al [ae 28 5,bE 29 1 1 4,bY 1 29 28] (.seq (al [ae 30 6,eK 31 30,ae 32 31,aO 32 false (dv 33 4 4),aO 32 false (ef 34 53 33),aO 32 false (eK 35 34),dD 36 32 35] (be 36 (al [kE 37 dO [],bY 4 2 37,bQ 3 false] .ret) .skip)) (al [dv 38 4 4,bY 4 2 38,bQ 3 true] .ret))))))))
@[simp] def Tq:List cG:=[.cell 2 true 4,.tmp 3]
def GA:C:=(al [jA 3 1,hZ 4 dO] (.seq (al [ae 6 0,ee 7 6,bc 8 .sub 7 1,ae 5 8] (.block 0 (.loop (.seq (al [ae 9 5,bc 10 .geq 9 0] (be 10 .skip (.exit 0))) (.seq (.block 1 (.drawn true 20 [ae 13 0,ae 14 5,eS 15 4 13 14,dv 16 4 15,dv 17 4 3,gK 18 54 16 17,bY 4 3 18])) (.region [ae 11 5,bc 12 .sub 11 1,ae 5 12])))))) (al [dv 19 4 3,bY 4 4 19] .ret)))
@[simp] def Tp:List cG:=[.cell 4 true 4]
def td:C:=(al [cF 2 0,bQ 3 false] (al [ae 9 0,a7 10 (.slen (.t 9)),bc 11 .gtr 10 0,ae 12 11,b7 12 true 13 0,aO 12 true (a7 14 (.sidx (.t 13) (cO 0))),aO 12 true (a7 15 (.bin .eql false (.t 14) (.c (.int .u8 45)))),ff 16 12 15,ae 4 16] (al [ae 17 0,ae 5 17] (.seq (al [ae 18 4] (be 18 (.region [ae 19 0,a7 20 (.ssl (.t 19) (some (cO 1)) none),ae 5 20]) .skip)) (.seq (al [ae 21 5,a7 22 (.slen (.t 21)),bc 23 .lss 22 1,ae 24 23,b7 24 false 25 5,aO 24 false (a7 26 (.slen (.t 25))),aO 24 false (bc 27 .gtr 26 19),dD 28 24 27] (be 28 (al [cF 2 0,bQ 3 false] .ret) .skip)) (al [cF 6 0] (.seq (al [cF 7 0] (.block 0 (.loop (.seq (al [ae 29 7,ae 30 5,a7 31 (.slen (.t 30)),c6 32 .lss 29 31] (be 32 .skip (.exit 0))) (.seq (.block 1 (al [ae 35 5,ae 36 7,a7 37 (.sidx (.t 35) (.t 36)),a7 38 (.conv .i64 (.t 37)),bc 39 .sub 38 48,ae 8 39] (.seq (al [ae 40 8,l7 41 24 [.t 40,(cO 0),(cO 9)],eK 42 41,ae 43 42,b7 43 false 44 6,b7 43 false 45 8,aO 43 false (a7 46 (.bin .add false (cO (-9223372036854775808)) (.t 45))),aO 43 false (bc 47 .quo 46 10),aO 43 false (c6 48 .lss 44 47),dD 49 43 48] (be 49 (al [cF 2 0,bQ 3 false] .ret) .skip)) (.region [ae 50 6,bc 51 .mul 50 10,ae 52 8,c6 53 .sub 51 52,ae 6 53])))) (.region [ae 33 7,bc 34 .add 33 1,ae 7 34])))))) (.seq (al [ae 54 4,eK 55 54] (be 55 (.seq (al [ae 56 6,bc 57 .eql 56 (-9223372036854775808)] (be 57 (al [cF 2 0,bQ 3 false] .ret) .skip)) (.region [ae 58 6,a7 59 (.neg (.t 58)),ae 6 59])) .skip)) (.seq (al [ae 60 6,ef 61 58 60,ae 62 0,c6 63 .neq 61 62] (be 63 (al [cF 2 0,bQ 3 false] .ret) .skip)) (al [ae 64 6,ae 2 64,bQ 3 true] .ret))))))))))
@[simp] def AQ:List cG:=[.tmp 2,.tmp 3]
def rp:List (Nat×cm):=[
 (3,⟨1,8,.int .i64,.int .i64 0⟩),
 (5,⟨1,1,.int .u8,.int .u8 0⟩),
 (9,⟨1,16,.str,.str []⟩),
 (22,⟨1,24,.slice 51,.slice 4 .nil []⟩),
 (23,⟨1,24,.slice 25,.slice 4 .nil []⟩),
 (25,⟨4,72,.struct [(0,3),(1,9),(2,22),(3,23)],.agg [.int .i64 0,.str [],.slice 4 .nil [],.slice 4 .nil []]⟩),
 (31,⟨1,24,.slice 9,.slice 1 .nil []⟩),
 (51,⟨4,56,.struct [(0,3),(1,3),(2,9),(3,22)],.agg [.int .i64 0,.int .i64 0,.str [],.slice 4 .nil []]⟩)]
theorem fq:dE aP rp=true:=by kernel_rfl
theorem x3:dA rp uK AP 1 Tryd.f4=true:=by kernel_rfl
theorem w4:aP.funcs[(4:Nat)]? =some Tryd.f4:=Tryd.func4
theorem Kc:dA rp BO AR 1 Tryd.f9=true:=by kernel_rfl
theorem Hr:aP.funcs[(9:Nat)]? =some Tryd.f9:=Tryd.func9
theorem ue:dA rp rP jy 2 Tryd.f10=true:=by kernel_rfl
theorem tu:aP.funcs[(10:Nat)]? =some Tryd.f10:=Tryd.func10
theorem vL:dA rp te Tn 1 Tryd.f23=true:=by kernel_rfl
theorem uV:aP.funcs[(23:Nat)]? =some Tryd.f23:=Tryd.func23
theorem vM:dA rp tf sM 2 Tryd.f26=true:=by kernel_rfl
theorem uW:aP.funcs[(26:Nat)]? =some Tryd.f26:=Tryd.func26
theorem ud:dA rp rO Tq 1 Tryd.f37=true:=by kernel_rfl
theorem tt:aP.funcs[(37:Nat)]? =some Tryd.f37:=Tryd.func37
theorem SL:dA rp GA Tp 2 Tryd.f38=true:=by kernel_rfl
theorem O3:aP.funcs[(38:Nat)]? =some Tryd.f38:=Tryd.func38
theorem vK:dA rp td AQ 1 Tryd.f52=true:=by kernel_rfl
theorem uU:aP.funcs[(52:Nat)]? =some Tryd.f52:=Tryd.func52
theorem wx(c:az):ca aP 23 [.int .u8 c.toNat] (.bool (lM c)):=by
 by_cases bt:c=32
 ·subst bt;rw[show lM _=true from rfl];refine bZ fq uV vL fun aT=>?_;unfold te;clear aT;exact cH
 by_cases a2:c=10
 ·subst a2;rw[show lM _=true from rfl];refine bZ fq uV vL fun aT=>?_;unfold te;clear aT;exact cH
 by_cases a3:c=40
 ·subst a3;rw[show lM _=true from rfl];refine bZ fq uV vL fun aT=>?_;unfold te;clear aT;exact cH
 by_cases a4:c=41
 ·subst a4;rw[show lM _=true from rfl];refine bZ fq uV vL fun aT=>?_;unfold te;clear aT;exact cH
 by_cases a5:c=59
 ·subst a5;rw[show lM _=true from rfl];refine bZ fq uV vL fun aT=>?_;unfold te;clear aT;exact cH
 have af:lM c=false:=by unfold lM;simp[bt,a2,a3,a4,a5]
 have m1:((c.toNat:Int)==32)=false:=mM (d:=32) bt;have m2:((c.toNat:Int)==10)=false:=mM (d:=10) a2;have m3:((c.toNat:Int)==40)=false:=mM (d:=40) a3;have m4:((c.toNat:Int)==41)=false:=mM (d:=41) a4;have m5:((c.toNat:Int)==59)=false:=mM (d:=59) a5;rw[af];refine bZ fq uV vL fun aT=>?_;unfold te;clear aT;exact cH
def kK(s:List az)(x:List (List az)×Nat):aM:=⟨[(0,.str s),(4,.slice 1 (.own (.loc 0)) (dw x.1)),(5,.int .i64 x.2)],[],[(.loc 0,⟨x.1.length,9,1,none⟩)],1,[]⟩
def nQ(s:List az)(out:List (List az))(i:Nat)(k:Nat):aM:=⟨[(0,.str s),(4,.slice 1 (.own (.loc 0)) (dw out)),(5,.int .i64 i),(6,.int .i64 k)],[],[(.loc 0,⟨out.length,9,1,none⟩)],1,[]⟩
def qq(s:List az)(out:List (List az))(k:Nat):aM:=⟨[(0,.str s),(4,.slice 1 (.own (.loc 0)) (dw out)),(7,.int .i64 k)],[],[(.loc 0,⟨out.length,9,1,none⟩)],1,[]⟩
set_option maxRecDepth 8000 in
theorem UM(s:List az)(ao:s.length<=b0):ca aP 9 [.str s] (ka (ho s)):=by
 by_cases I:s.length<=100000;rotate_left
 ·have:ho s=none:=by unfold ho;rw[bh (fun h=>I h.1)]
  rw[this,ka];have u5:(100000:Int)<s.length:=Ω
  refine bZ fq Hr Kc fun aT=>?_;unfold BO;clear aT;exact cH
 have u5:¬(100000:Int)<s.length:=Ω
 generalize bI:ka (ho s)=R;have r7:kin (fun _=>cv) R:=by rw[<-bI];unfold ka;split<;>simp[kin,kinL]
 refine bZ fq Hr Kc (fun aT=>?_) (hr:=r7);unfold BO;clear aT;simp[u5];refine jI (kK s) (fun x=>s.length-x.2) (fun x=>x.2<=s.length/\x.1++fO (s.drop x.2)=fO s/\x.1.length<=x.2) ([],0) (by simp[kK,dw];exact dQ) ⟨Ψ,Ψ,Ψ⟩ ?_;rintro⟨out,i⟩ ⟨aD,hinv,zM⟩ _;simp only at aD hinv zM;rcases jB aD with rfl|b4
 ·rw[mb,Bj,List.append_nil]at hinv;subst hinv;simp[kK];refine jI (qq s (fO s)) (fun k=>s.length-k) (fun k=>k<=s.length/\∀c∈s.take k,ps c=true) 0 (by simp[qq];exact⟨by simp[fresh,kinL,kin,cA,aI,Pv.look,c7,dB],fh (by simp[fresh,kinL,kin,cA,aI,Pv.look,c7,dB]),fi (by simp[fresh,kinL,kin,eD,aI,Pv.look,c7,dB]),Ψ⟩) ⟨Ω,Ψ⟩ ?_;rintro k ⟨J,dI⟩ _;rcases jB J with rfl|b4
  ·rw[ld]at dI;have mr:∀c∈s,ps c=true:=dI;by_cases aU:(fO s).length<=20000
   ·have gT:¬(20000:Int)<(fO s).length:=Ω
    have au:ho s=some (fO s):=by unfold ho;rw[if_pos ⟨I,mr,aU⟩]
    simp[qq];(with_reducible repeat' first|refine aK ?_|simp[gT]);rw[<-bI,au,ka];simp[cC,AR,bd,bo,a6]
   ·have gT:(20000:Int)<(fO s).length:=Ω
    have au:ho s=none:=by unfold ho;rw[bh fun h=>aU h.2.2]
    simp[qq];(with_reducible repeat' first|refine aK ?_|simp[gT]);rw[<-bI,au,ka];simp[cC,AR,bd,bo,a6]
  ·obtain⟨c,aA,eE⟩:=h0 b4;have cU:bk ((k:Int)+1):=by unfold bk;omega
   have iE:=J1 c;have dU:=dH c.toNat 32 126;have hw:jS.wrap (c.toNat:Int)=c.toNat:=k9 _ (by have:=c.toNat_lt;omega);by_cases sn:ps c=true
   ·have xy:∀x∈s.take (k+1),ps x=true:=fun x ad=>by
     rw[nJ,aA]at ad;rcases hp.1 ad with ad|ad
     ·exact dI x ad
     ·simp at ad;subst ad;exact sn
    rcases iE.1 sn with e5|xb
    ·have lq:((c.toNat:Int) !=10)=false:=by simpa using e5
     clear dI iE sn;simp[qq,b4,eE,aA];(with_reducible repeat' first|refine aK ?_|refine bq dU ?_|refine br dU ?_|simp[b4,eE,aA,lq,cU,hw]);refine cQ.whl (k+1) Ω ⟨b4,xy⟩ (by simp[qq];exact⟨by simp[fresh,kinL,kin,cA,aI,Pv.look,c7,dB],fh (by simp[fresh,kinL,kin,cA,aI,Pv.look,c7,dB]),fi (by simp[fresh,kinL,kin,eD,aI,Pv.look,c7,dB]),Ψ⟩)
    ·have lq:((c.toNat:Int) !=10)=true:=bne_iff_ne.2 Ω;rw[decide_eq_true xb]at dU;clear dI iE sn;simp[qq,b4,eE,aA];(with_reducible repeat' first|refine aK ?_|refine bq dU ?_|refine br dU ?_|simp[b4,eE,aA,lq,cU,hw]);refine cQ.whl (k+1) Ω ⟨b4,xy⟩ (by simp[qq];exact⟨by simp[fresh,kinL,kin,cA,aI,Pv.look,c7,dB],fh (by simp[fresh,kinL,kin,cA,aI,Pv.look,c7,dB]),fi (by simp[fresh,kinL,kin,eD,aI,Pv.look,c7,dB]),Ψ⟩)
   ·have au:ho s=none:=by unfold ho;rw[bh];intro h;exact sn (h.2.1 c (gL aA))
    have lq:((c.toNat:Int) !=10)=true:=bne_iff_ne.2 fun e=>sn (iE.2 (.inl e));rw[decide_eq_false fun e=>sn (iE.2 (.inr e))]at dU;clear dI iE sn;simp[qq,b4,eE,aA];(with_reducible repeat' first|refine aK ?_|refine bq dU ?_|refine br dU ?_|simp[b4,eE,aA,lq,cU,hw]);rw[<-bI,au,ka];simp[cC,AR,bd,bo,a6]
 obtain⟨c,aA,eE⟩:=h0 b4;have cU:bk ((i:Int)+1):=by unfold bk;omega
 have tP:out.length+1<=b0:=by unfold b0;omega
 have k0:=wx c;rw[fY aA,Bi]at hinv;by_cases kZ:c=32\/c=10
 ·rw[if_pos kZ]at hinv;rcases kZ with rfl|rfl
  ·have k0:ca aP 23 [.int .u8 32] (.bool true):=wx 32;simp[kK,b4,eE,aA];(with_reducible repeat' first|refine aK ?_|refine bq k0 ?_|refine br k0 ?_|simp[b4,eE,aA,cU]);refine cQ.whl (out,i+1) (by simp;omega) ⟨b4,hinv,by simp;omega⟩ (by simp[kK];exact⟨by simp[fresh,kinL,kin,cA,aI,Pv.look,c7,dB],fh (by simp[fresh,kinL,kin,cA,aI,Pv.look,c7,dB]),fi (by simp[fresh,kinL,kin,eD,aI,Pv.look,c7,dB]),Ψ⟩)
  ·have k0:ca aP 23 [.int .u8 10] (.bool true):=wx 10;simp[kK,b4,eE,aA];(with_reducible repeat' first|refine aK ?_|refine bq k0 ?_|refine br k0 ?_|simp[b4,eE,aA,cU]);refine cQ.whl (out,i+1) (by simp;omega) ⟨b4,hinv,by simp;omega⟩ (by simp[kK];exact⟨by simp[fresh,kinL,kin,cA,aI,Pv.look,c7,dB],fh (by simp[fresh,kinL,kin,cA,aI,Pv.look,c7,dB]),fi (by simp[fresh,kinL,kin,eD,aI,Pv.look,c7,dB]),Ψ⟩)
 rw[bh kZ]at hinv;by_cases oX:c=59
 ·rw[if_pos oX]at hinv;subst oX;clear k0;simp[kK,b4,eE,aA];(with_reducible repeat' first|refine aK ?_|simp[b4,eE,aA,cU]);refine jI (nQ s out i) (fun k=>s.length-k) (fun k=>i+1<=k/\k<=s.length/\∀c∈(s.drop (i+1)).take (k-(i+1)),mH c=true) (i+1) (by simp[nQ];exact⟨by simp[fresh,kinL,kin,cA,aI,Pv.look,c7,dB],fh (by simp[fresh,kinL,kin,cA,aI,Pv.look,c7,dB]),fi (by simp[fresh,kinL,kin,eD,aI,Pv.look,c7,dB]),Ψ⟩) ⟨cx _,b4,Ψ⟩ ?_;rintro k ⟨jl,hU,hy⟩ _;have hT:(∀c,s[k]? =some c->mH c=false)->k<=s.length/\out++fO (s.drop k)=fO s/\out.length<=k:=by intro he;refine⟨hU,?_,Ω⟩;rw[<-(A9 jl hU hy he).2];exact hinv
  rcases jB hU with rfl|iB
  ·have cS:=hT fun c h=>by simp at h
   clear hT hy;simp[nQ];(with_reducible repeat' first|refine aK ?_|simp);refine cQ.whl (out,s.length) (by simp;omega) cS (by simp[kK];exact⟨by simp[fresh,kinL,kin,cA,aI,Pv.look,c7,dB],fh (by simp[fresh,kinL,kin,cA,aI,Pv.look,c7,dB]),fi (by simp[fresh,kinL,kin,eD,aI,Pv.look,c7,dB]),Ψ⟩)
  ·obtain⟨d,aG,hdi⟩:=h0 iB;have ng:bk ((k:Int)+1):=by unfold bk;omega
   by_cases e5:d=10
   ·subst e5;have cS:=hT fun c h=>by rw[aG]at h;cases h;rfl
    clear hT hy;simp[nQ,iB,hdi,aG];(with_reducible repeat' first|refine aK ?_|simp[iB,hdi,aG]);refine cQ.whl (out,k) (by simp;omega) cS (by simp[kK];exact⟨by simp[fresh,kinL,kin,cA,aI,Pv.look,c7,dB],fh (by simp[fresh,kinL,kin,cA,aI,Pv.look,c7,dB]),fi (by simp[fresh,kinL,kin,eD,aI,Pv.look,c7,dB]),Ψ⟩)
   ·have aU:((d.toNat:Int) !=10)=true:=uv (d:=10) e5;have p2:∀c∈(s.drop (i+1)).take (k+1-(i+1)),mH c=true:=fun x ad=>by
     rw[show k+1-(i+1)=(k-(i+1))+1 by omega,nJ,List.getElem?_drop,show i+1+(k-(i+1))=k by omega,aG]at ad;rcases hp.1 ad with ad|ad
     ·exact hy x ad
     ·simp at ad;subst ad;simp[mH,e5]
    clear hT hy;simp[nQ,iB,hdi,aG];(with_reducible repeat' first|refine aK ?_|simp[iB,hdi,aG,aU,ng]);refine cQ.whl (k+1) Ω ⟨Ω,iB,p2⟩ (by simp[nQ];exact⟨by simp[fresh,kinL,kin,cA,aI,Pv.look,c7,dB],fh (by simp[fresh,kinL,kin,cA,aI,Pv.look,c7,dB]),fi (by simp[fresh,kinL,kin,eD,aI,Pv.look,c7,dB]),Ψ⟩)
 rw[bh oX]at hinv;have D0:((c.toNat:Int)==59)=false:=mM (d:=59) oX;have hle:(i:Int)<=i+1:=Ω
 have Iw:(i:Int)+1<=s.length:=Ω
 by_cases pc:c=40\/c=41
 ·rw[if_pos pc]at hinv;have zR:(s.take (i+1)).drop i=[c]:=by rw[List.drop_take,fY aA];simp
  rcases pc with rfl|rfl
  ·have k0:ca aP 23 [.int .u8 40] (.bool true):=wx 40;simp[kK,b4,eE,aA];(with_reducible repeat' first|refine aK ?_|refine bq k0 ?_|refine br k0 ?_|simp[b4,eE,aA,cU,zR,hle,Iw,tP]);refine cQ.whl (out++[[40]],i+1) (by simp;omega) ⟨b4,(by simpa using hinv),by simp;omega⟩ (by simp[kK,dw];exact⟨by simp[fresh,kinL,kin,cA,aI,Pv.look,c7,dB],fh (by simp[fresh,kinL,kin,cA,aI,Pv.look,c7,dB]),fi (by simp[fresh,kinL,kin,eD,aI,Pv.look,c7,dB]),Ψ⟩)
  ·have k0:ca aP 23 [.int .u8 41] (.bool true):=wx 41;simp[kK,b4,eE,aA];(with_reducible repeat' first|refine aK ?_|refine bq k0 ?_|refine br k0 ?_|simp[b4,eE,aA,cU,zR,hle,Iw,tP]);refine cQ.whl (out++[[41]],i+1) (by simp;omega) ⟨b4,(by simpa using hinv),by simp;omega⟩ (by simp[kK,dw];exact⟨by simp[fresh,kinL,kin,cA,aI,Pv.look,c7,dB],fh (by simp[fresh,kinL,kin,cA,aI,Pv.look,c7,dB]),fi (by simp[fresh,kinL,kin,eD,aI,Pv.look,c7,dB]),Ψ⟩)
 rw[bh pc]at hinv;have xi:h5 c=true:=(Dt c).2 ⟨kZ,oX,pc⟩;have PY:lM c=false:=by simpa[h5]using xi
 rw[PY]at k0;simp[kK,b4,eE,aA];(with_reducible repeat' first|refine aK ?_|refine bq k0 ?_|refine br k0 ?_|simp[b4,eE,aA,D0,cU]);refine jI (nQ s out i) (fun k=>s.length-k) (fun k=>i+1<=k/\k<=s.length/\∀c∈(s.drop (i+1)).take (k-(i+1)),h5 c=true) (i+1) (by simp[nQ];exact⟨by simp[fresh,kinL,kin,cA,aI,Pv.look,c7,dB],fh (by simp[fresh,kinL,kin,cA,aI,Pv.look,c7,dB]),fi (by simp[fresh,kinL,kin,eD,aI,Pv.look,c7,dB]),Ψ⟩) ⟨cx _,b4,Ψ⟩ ?_;rintro k ⟨jl,hU,hy⟩ _;have hT:(∀c,s[k]? =some c->h5 c=false)->k<=s.length/\(out++[(s.take k).drop i])++fO (s.drop k)=fO s/\(out++[(s.take k).drop i]).length<=k:=by intro he;refine⟨hU,?_,by simp;omega⟩;obtain⟨au,aG⟩:=A9 jl hU hy he;rw[au,aG]at hinv;rw[List.drop_take,fY aA,show k-i=(k-(i+1))+1 from by omega,List.take_succ_cons,pI];exact hinv
 have fK:(i:Int)<=k:=Ω
 have xt:(k:Int)<=s.length:=Ω
 clear hinv k0;rcases jB hU with rfl|iB
 ·have cS:=hT fun c h=>by simp at h
  clear hT hy;simp[nQ];(with_reducible repeat' first|refine aK ?_|simp[fK,xt,tP]);refine cQ.whl (out++[(s.take s.length).drop i],s.length) (by simp;omega) cS (by simp[kK,dw];exact⟨by simp[fresh,kinL,kin,cA,aI,Pv.look,c7,dB],fh (by simp[fresh,kinL,kin,cA,aI,Pv.look,c7,dB]),fi (by simp[fresh,kinL,kin,eD,aI,Pv.look,c7,dB]),Ψ⟩)
 ·obtain⟨d,aG,hdi⟩:=h0 iB;have ng:bk ((k:Int)+1):=by unfold bk;omega
  have vu:=wx d;cases hw:h5 d
  ·have Cy:lM d=true:=by simpa[h5]using hw
   rw[Cy]at vu;have cS:=hT fun c h=>by rw[aG]at h;cases h;exact hw
   clear hT hy;simp[nQ,iB,hdi,aG];(with_reducible repeat' first|refine aK ?_|refine bq vu ?_|refine br vu ?_|simp[iB,hdi,aG,fK,xt,tP]);refine cQ.whl (out++[(s.take k).drop i],k) (by simp;omega) cS (by simp[kK,dw];exact⟨by simp[fresh,kinL,kin,cA,aI,Pv.look,c7,dB],fh (by simp[fresh,kinL,kin,cA,aI,Pv.look,c7,dB]),fi (by simp[fresh,kinL,kin,eD,aI,Pv.look,c7,dB]),Ψ⟩)
  ·have Cy:lM d=false:=by simpa[h5]using hw
   rw[Cy]at vu;have p2:∀c∈(s.drop (i+1)).take (k+1-(i+1)),h5 c=true:=fun x ad=>by
    rw[show k+1-(i+1)=(k-(i+1))+1 by omega,nJ,List.getElem?_drop,show i+1+(k-(i+1))=k by omega,aG]at ad;rcases hp.1 ad with ad|ad
    ·exact hy x ad
    ·simp at ad;subst ad;exact hw
   clear hT hy;simp[nQ,iB,hdi,aG];(with_reducible repeat' first|refine aK ?_|refine bq vu ?_|refine br vu ?_|simp[iB,hdi,aG,ng]);refine cQ.whl (k+1) Ω ⟨Ω,iB,p2⟩ (by simp[nQ];exact⟨by simp[fresh,kinL,kin,cA,aI,Pv.look,c7,dB],fh (by simp[fresh,kinL,kin,cA,aI,Pv.look,c7,dB]),fi (by simp[fresh,kinL,kin,eD,aI,Pv.look,c7,dB]),Ψ⟩)
def x4(o:aR Int):ab:= .tuple [.int .i64 (o.getD 0),.bool o.isSome]
def iV(l:List az):Int:=l.foldl (fun a c=>a*10+((c.toNat:Int)-48)) 0
def qz(l:List az):Prop:= ∀c∈l,48<=c.toNat/\c.toNat<=57
theorem uN(l:List az)(c:az):iV (l++[c])=iV l*10+((c.toNat:Int)-48):=by simp[iV]
theorem oP(u:Nat):iV (Lib.decDigits u)=u:=by
 induction u using Nat.strongRecOn with
 |_ u a8=>
  by_cases hu:u<10
  ·rw[pR hu];simp only[iV,List.foldl_cons,List.foldl_nil,wY hu];omega
  ·rw[rR Ω,uN,a8 _ Ω,wY (Nat.mod_lt _ Ω)];omega
theorem oN(u:Nat):qz (Lib.decDigits u):=BW u
theorem w1{l:List az}(h:qz l):∀k,0<=iV (l.take k)/\iV (l.take k)<=iV (l.take (k+1)):=by
 intro k;induction k with
 |zero=>
  cases l with
  |nil=>simp[iV]
  |cons c r=>have:=h c Ψ;simp[iV];omega
 |succ k a8=>
  rcases Nat.lt_or_ge (k+1) l.length with J|J
  ·obtain⟨c,aA⟩:∃c,l[k+1]? =some c:=⟨_,eo J⟩;have aG:=h c (gL aA);have e:l.take (k+1+1)=l.take (k+1)++[c]:=by rw[nJ,aA];rfl
   rw[e,uN];omega
  ·rw[List.take_of_length_le (by omega:l.length<=k+1+1),List.take_of_length_le J]at*;omega
theorem y4{l:List az}(h:qz l){k m:Nat}(mx:k<=m):iV (l.take k)<=iV (l.take m):=by
 induction m with
 |zero=>rw[show k=0 by omega];exact Int.le_refl _
 |succ m a8=>
  rcases jB mx with rfl|b4
  ·exact Int.le_refl _
  ·have:=a8 Ω;have:=(w1 h m).2;omega
def sQ(s:List az):Bool:=match s with|c::_=>c==45|[]=>false
def vB(s:List az):List az:=if sQ s then s.drop 1 else s
theorem ou{s:List az}{n:Int}(h:Lib.itoa n=s):vB s=Lib.decDigits n.natAbs/\(sQ s=true↔n<0):=by
 subst h;unfold Lib.itoa;by_cases aU:n<0
 ·rw[if_pos aU];have:sQ (45::Lib.decDigits n.natAbs)=true:=rfl;simp[vB,this,aU]
 ·rw[bh aU,show n.natAbs=n.toNat by omega];have:sQ (Lib.decDigits n.toNat)=false:=by
   cases aG:Lib.decDigits n.toNat with
   |nil=>rfl
   |cons c r=>have:=BW n.toNat c (by rw[aG];simp);simp only[sQ,beq_eq_false_iff_ne];rintro rfl;revert this;decide
  simp[vB,this,aU]
theorem oM{u:Nat}(h:u<=9223372036854775808):(Lib.decDigits u).length<=19:=by have:=G3 19 u Ω;omega
def kJ(s t:List az)(neg:Bool)(k:Nat)(acc:Int):aM:=⟨[(0,.str s),(4,.bool neg),(5,.str t),(6,.int .i64 acc),(7,.int .i64 k)],[],[],0,[]⟩
theorem LN(s:List az):ca aP 52 [.str s] (x4 (gQ s)):=by
 generalize bI:x4 (gQ s)=R;have r7:kin (fun _=>cv) R:=by rw[<-bI];simp[x4,kin,kinL]
 cases kY:sQ s
 ·have n7:vB s=s:=by unfold vB;rw[kY];rfl
  have Ip:(s=[]->cv)->∃c r,s=c::r/\((c.toNat:Int)==45)=false:=by
   cases s with
   |nil=>intro h;exact absurd rfl h
   |cons c r=>exact fun _=>⟨c,r,rfl,mM (d:=45) (by simpa[sQ]using kY)⟩
  by_cases qM:s.length<1
  ·have ao:s=[]:=List.length_eq_zero_iff.1 Ω;have aV:gQ s=none:=pv fun m hm hit=>by
    obtain⟨ai,aE⟩:=ou hit;have jO:¬m<0:=fun h=>by rw[aE.2 h]at kY;cases kY
    rw[n7]at ai;have e8:=hm;unfold bk at e8;have fD:=oN m.natAbs;have jj:=oP m.natAbs;have jh:=oM (u:=m.natAbs) Ω;have b5:=mU m.natAbs;rw[<-ai]at fD jj jh b5;exact b5 ao
   have:R= .tuple [.int .i64 0,.bool false]:=by rw[<-bI,aV];rfl
   subst this;subst ao;clear bI;refine bZ fq uU vK (fun aT=>?_);unfold td;clear aT;exact cH
  have hC:0<s.length:=Ω
  have QY:(0:Int)<s.length:=Ω
  have CS:¬(s.length:Int)<1:=Ω
  obtain⟨c0,AL,Il,PO⟩:=Ip (fun h=>by rw[h]at hC;simp at hC);have qG:s[0]? =some c0:=by rw[Il];rfl
  have PZ:∀h,(s[0]'h)=c0:=fun h=>by rw[eo hC]at qG;exact iL qG
  clear Ip Il;by_cases iC:19<s.length
  ·have aV:gQ s=none:=pv fun m hm hit=>by
    obtain⟨ai,aE⟩:=ou hit;have jO:¬m<0:=fun h=>by rw[aE.2 h]at kY;cases kY
    rw[n7]at ai;have e8:=hm;unfold bk at e8;have fD:=oN m.natAbs;have jj:=oP m.natAbs;have jh:=oM (u:=m.natAbs) Ω;have b5:=mU m.natAbs;rw[<-ai]at fD jj jh b5;omega
   have:R= .tuple [.int .i64 0,.bool false]:=by rw[<-bI,aV];rfl
   subst this;have xu:(19:Int)<s.length:=Ω
   clear bI aV;refine bZ fq uU vK (fun aT=>?_);unfold td;clear aT;exact cH
  have xu:¬(19:Int)<s.length:=Ω
  refine bZ fq uU vK (fun aT=>?_) (hr:=r7);unfold td;clear aT;simp;(with_reducible repeat' first|refine aK ?_|simp[hC,QY,qG,PZ,PO,CS,xu,iC]);refine iy (kJ s s false) s.length (fun k acc=>acc= -iV (s.take k)/\qz (s.take k)/\ -9223372036854775808<=acc) 0 (by simp[kJ];exact dQ) ⟨by simp[iV],by simp[qz],Ω⟩ (fun acc av _=>?_) (fun k acc J av _=>?_)
  ·obtain⟨jM,gr,xq⟩:=av;rw[ld]at jM gr;have qJ:0<=iV s:=by have:=(w1 gr 0).1;have:=y4 gr (Nat.zero_le s.length);rw[ld]at this;omega
   by_cases QL:acc= -9223372036854775808
   ·have aV:gQ s=none:=pv fun m hm hit=>by
     obtain⟨ai,aE⟩:=ou hit;have jO:¬m<0:=fun h=>by rw[aE.2 h]at kY;cases kY
     rw[n7]at ai;have e8:=hm;unfold bk at e8;have fD:=oN m.natAbs;have jj:=oP m.natAbs;have jh:=oM (u:=m.natAbs) Ω;have b5:=mU m.natAbs;rw[<-ai]at fD jj jh b5;omega
    have:R= .tuple [.int .i64 0,.bool false]:=by rw[<-bI,aV];rfl
    subst this;clear bI aV jM gr;simp[kJ];exact cH
   ·have kO:bk (-acc):=by unfold bk;omega
    have Iz:(acc== -9223372036854775808)=false:=beq_eq_false_iff_ne.2 QL;have zU:jS.wrap (-acc)= -acc:=k9 _ Ω;have qU:=LM (-acc) kO;by_cases he:Lib.itoa (-acc)=s
    ·have:R= .tuple [.int .i64 (-acc),.bool true]:=by rw[<-bI,AG.2 ⟨kO,he⟩];rfl
     subst this;rw[he]at qU;clear bI jM gr;simp[kJ];((with_reducible repeat' first|refine aK ?_|refine bq qU ?_|refine br qU ?_|simp[Iz,zU,kO]|((first|apply dY|apply ed|apply ec)<;>intro h<;>try simp at h))<;>(try exact eM));simp[cC,AQ,bd,bo,a6]
    ·have aV:gQ s=none:=pv fun m hm hit=>by
      obtain⟨ai,aE⟩:=ou hit;have jO:¬m<0:=fun h=>by rw[aE.2 h]at kY;cases kY
      rw[n7]at ai;have e8:=hm;unfold bk at e8;have fD:=oN m.natAbs;have jj:=oP m.natAbs;have jh:=oM (u:=m.natAbs) Ω;have b5:=mU m.natAbs;rw[<-ai]at fD jj jh b5;exact he (by have:m= -acc:=Ω;rw[<-this];exact hit)
     have:R= .tuple [.int .i64 0,.bool false]:=by rw[<-bI,aV];rfl
     subst this;have xk:(Lib.itoa (-acc) !=s)=true:=by simpa using he
     clear bI aV jM gr;simp[kJ];((with_reducible repeat' first|refine aK ?_|refine bq qU ?_|refine br qU ?_|simp[Iz,zU,kO,xk]|((first|apply dY|apply ed|apply ec)<;>intro h<;>try simp at h))<;>(try exact eM));simp[cC,AQ,bd,bo,a6]
  ·obtain⟨jM,gr,xq⟩:=av;obtain⟨c,aA,eE⟩:=h0 J;have r9:=c.toNat_lt;have hw:jS.wrap (c.toNat:Int)=c.toNat:=k9 _ Ω;have CF:bk ((c.toNat:Int)-48):=by unfold bk;omega
   have ng:bk ((k:Int)+1):=by unfold bk;omega
   have dU:=dH ((c.toNat:Int)-48) 0 9;have e:s.take (k+1)=s.take k++[c]:=by rw[nJ,aA];rfl
   by_cases xj:48<=c.toNat/\c.toNat<=57
   ·have qJ:=(w1 gr k).1;rw[List.take_take,Nat.min_self]at qJ;have o6:bk (-9223372036854775808+((c.toNat:Int)-48)):=by unfold bk;omega
    have bj:(-9223372036854775808+((c.toNat:Int)-48)).tdiv 10= -((9223372036854775808-((c.toNat:Int)-48))/10):=by rw[show(-9223372036854775808+((c.toNat:Int)-48))= -(9223372036854775808-((c.toNat:Int)-48)) by omega,Int.neg_tdiv,Int.tdiv_eq_ediv_of_nonneg Ω]
    rw[decide_eq_true Ω]at dU;have C3:jS.wrap ((-9223372036854775808+((c.toNat:Int)-48)).tdiv 10)= -((9223372036854775808-((c.toNat:Int)-48))/10):=by rw[bj];exact k9 _ Ω
    by_cases j3:acc< -((9223372036854775808-((c.toNat:Int)-48))/10)
    ·have Cz:9223372036854775808<iV (s.take (k+1)):=by rw[e,uN];omega
     have aV:gQ s=none:=pv fun m hm hit=>by
      obtain⟨ai,aE⟩:=ou hit;have jO:¬m<0:=fun h=>by rw[aE.2 h]at kY;cases kY
      rw[n7]at ai;have e8:=hm;unfold bk at e8;have fD:=oN m.natAbs;have jj:=oP m.natAbs;have jh:=oM (u:=m.natAbs) Ω;have b5:=mU m.natAbs;rw[<-ai]at fD jj jh b5;have:=y4 fD (show k+1<=s.length by omega);rw[ld]at this;omega
     have:R= .tuple [.int .i64 0,.bool false]:=by rw[<-bI,aV];rfl
     subst this;clear bI aV jM gr Cz bj;simp[kJ,J,eE,aA];exact cH
    ·have I:bk (acc*10):=by unfold bk;omega
     have aa:bk (acc*10-((c.toNat:Int)-48)):=by unfold bk;omega
     have kp:acc*10-((c.toNat:Int)-48)= -iV (s.take (k+1))/\qz (s.take (k+1))/\ -9223372036854775808<=acc*10-((c.toNat:Int)-48):=by
      refine⟨by rw[e,uN];omega,fun x ad=>?_,Ω⟩;rw[e]at ad;rcases hp.1 ad with ad|ad
      ·exact gr x ad
      ·simp at ad;subst ad;exact xj
     clear bI jM gr bj;simp[kJ,J,eE,aA];(with_reducible repeat' first|refine aK ?_|refine bq dU ?_|refine br dU ?_|simp[J,eE,aA,hw,CF,o6,C3,j3,I,aa,ng]);refine cQ.rng (acc*10-((c.toNat:Int)-48)) J kp (by simp[kJ];exact dQ)
   ·rw[decide_eq_false Ω]at dU;have aV:gQ s=none:=pv fun m hm hit=>by
     obtain⟨ai,aE⟩:=ou hit;have jO:¬m<0:=fun h=>by rw[aE.2 h]at kY;cases kY
     rw[n7]at ai;have e8:=hm;unfold bk at e8;have fD:=oN m.natAbs;have jj:=oP m.natAbs;have jh:=oM (u:=m.natAbs) Ω;have b5:=mU m.natAbs;rw[<-ai]at fD jj jh b5;exact xj (fD c (gL aA))
    have:R= .tuple [.int .i64 0,.bool false]:=by rw[<-bI,aV];rfl
    subst this;clear bI aV jM gr;simp[kJ,J,eE,aA];exact cH
 ·obtain⟨t,rfl⟩:∃t',s=45::t':=by
   cases s with
   |nil=>cases kY
   |cons c r=>exact⟨r,by simp[sQ]at kY;rw[kY]⟩
  have n7:vB (45::t)=t:=rfl;by_cases qM:t.length<1
  ·have au:t=[]:=List.length_eq_zero_iff.1 Ω;have aV:gQ (45::t)=none:=pv fun m hm hit=>by obtain⟨ai,aE⟩:=ou hit;have jO:m<0:=aE.1 rfl;rw[n7]at ai;have e8:=hm;unfold bk at e8;have fD:=oN m.natAbs;have jj:=oP m.natAbs;have jh:=oM (u:=m.natAbs) Ω;have b5:=mU m.natAbs;rw[<-ai]at fD jj jh b5;exact b5 au
   have:R= .tuple [.int .i64 0,.bool false]:=by rw[<-bI,aV];rfl
   subst this;subst au;clear bI;refine bZ fq uU vK (fun aT=>?_);unfold td;clear aT;exact cH
  have CS:¬(t.length:Int)<1:=Ω
  have QA:¬t=[]:=fun h=>by rw[h]at qM;simp at qM
  have IJ:(0:Int)<(t.length:Int)+1:=Ω
  have IK:(1:Int)<=(t.length:Int)+1:=Ω
  by_cases iC:19<t.length
  ·have aV:gQ (45::t)=none:=pv fun m hm hit=>by obtain⟨ai,aE⟩:=ou hit;have jO:m<0:=aE.1 rfl;rw[n7]at ai;have e8:=hm;unfold bk at e8;have fD:=oN m.natAbs;have jj:=oP m.natAbs;have jh:=oM (u:=m.natAbs) Ω;have b5:=mU m.natAbs;rw[<-ai]at fD jj jh b5;omega
   have:R= .tuple [.int .i64 0,.bool false]:=by rw[<-bI,aV];rfl
   subst this;have xu:(19:Int)<t.length:=Ω
   clear bI aV;refine bZ fq uU vK (fun aT=>?_);unfold td;clear aT;exact cH
  have xu:¬(19:Int)<t.length:=Ω
  refine bZ fq uU vK (fun aT=>?_) (hr:=r7);unfold td;clear aT;simp;(with_reducible repeat' first|refine aK ?_|simp[IJ,IK,CS,QA,xu,iC]);refine iy (kJ (45::t) t true) t.length (fun k acc=>acc= -iV (t.take k)/\qz (t.take k)/\ -9223372036854775808<=acc) 0 (by simp[kJ];exact dQ) ⟨by simp[iV],by simp[qz],Ω⟩ (fun acc av _=>?_) (fun k acc J av _=>?_)
  ·obtain⟨jM,gr,xq⟩:=av;rw[ld]at jM gr;have qJ:0<=iV t:=by have:=(w1 gr 0).1;have:=y4 gr (Nat.zero_le t.length);rw[ld]at this;omega
   have kO:bk acc:=by unfold bk;omega
   have qU:=LM (acc) kO;by_cases he:Lib.itoa (acc)=(45::t)
   ·have:R= .tuple [.int .i64 (acc),.bool true]:=by rw[<-bI,AG.2 ⟨kO,he⟩];rfl
    subst this;rw[he]at qU;clear bI jM gr;simp[kJ];exact cH
   ·have aV:gQ (45::t)=none:=pv fun m hm hit=>by obtain⟨ai,aE⟩:=ou hit;have jO:m<0:=aE.1 rfl;rw[n7]at ai;have e8:=hm;unfold bk at e8;have fD:=oN m.natAbs;have jj:=oP m.natAbs;have jh:=oM (u:=m.natAbs) Ω;have b5:=mU m.natAbs;rw[<-ai]at fD jj jh b5;exact he (by have:m=acc:=Ω;rw[<-this];exact hit)
    have:R= .tuple [.int .i64 0,.bool false]:=by rw[<-bI,aV];rfl
    subst this;have xk:(Lib.itoa (acc) !=(45::t))=true:=by simpa using he
    clear bI aV jM gr;simp[kJ];((with_reducible repeat' first|refine aK ?_|refine bq qU ?_|refine br qU ?_|simp[kO,xk]|((first|apply dY|apply ed|apply ec)<;>intro h<;>try simp at h))<;>(try exact eM));simp[cC,AQ,bd,bo,a6]
  ·obtain⟨jM,gr,xq⟩:=av;obtain⟨c,aA,eE⟩:=h0 J;have r9:=c.toNat_lt;have hw:jS.wrap (c.toNat:Int)=c.toNat:=k9 _ Ω;have CF:bk ((c.toNat:Int)-48):=by unfold bk;omega
   have ng:bk ((k:Int)+1):=by unfold bk;omega
   have dU:=dH ((c.toNat:Int)-48) 0 9;have e:t.take (k+1)=t.take k++[c]:=by rw[nJ,aA];rfl
   by_cases xj:48<=c.toNat/\c.toNat<=57
   ·have qJ:=(w1 gr k).1;rw[List.take_take,Nat.min_self]at qJ;have o6:bk (-9223372036854775808+((c.toNat:Int)-48)):=by unfold bk;omega
    have bj:(-9223372036854775808+((c.toNat:Int)-48)).tdiv 10= -((9223372036854775808-((c.toNat:Int)-48))/10):=by rw[show(-9223372036854775808+((c.toNat:Int)-48))= -(9223372036854775808-((c.toNat:Int)-48)) by omega,Int.neg_tdiv,Int.tdiv_eq_ediv_of_nonneg Ω]
    rw[decide_eq_true Ω]at dU;have C3:jS.wrap ((-9223372036854775808+((c.toNat:Int)-48)).tdiv 10)= -((9223372036854775808-((c.toNat:Int)-48))/10):=by rw[bj];exact k9 _ Ω
    by_cases j3:acc< -((9223372036854775808-((c.toNat:Int)-48))/10)
    ·have Cz:9223372036854775808<iV (t.take (k+1)):=by rw[e,uN];omega
     have aV:gQ (45::t)=none:=pv fun m hm hit=>by obtain⟨ai,aE⟩:=ou hit;have jO:m<0:=aE.1 rfl;rw[n7]at ai;have e8:=hm;unfold bk at e8;have fD:=oN m.natAbs;have jj:=oP m.natAbs;have jh:=oM (u:=m.natAbs) Ω;have b5:=mU m.natAbs;rw[<-ai]at fD jj jh b5;have:=y4 fD (show k+1<=t.length by omega);rw[ld]at this;omega
     have:R= .tuple [.int .i64 0,.bool false]:=by rw[<-bI,aV];rfl
     subst this;clear bI aV jM gr Cz bj;simp[kJ,J,eE,aA];exact cH
    ·have I:bk (acc*10):=by unfold bk;omega
     have aa:bk (acc*10-((c.toNat:Int)-48)):=by unfold bk;omega
     have kp:acc*10-((c.toNat:Int)-48)= -iV (t.take (k+1))/\qz (t.take (k+1))/\ -9223372036854775808<=acc*10-((c.toNat:Int)-48):=by
      refine⟨by rw[e,uN];omega,fun x ad=>?_,Ω⟩;rw[e]at ad;rcases hp.1 ad with ad|ad
      ·exact gr x ad
      ·simp at ad;subst ad;exact xj
     clear bI jM gr bj;simp[kJ,J,eE,aA];(with_reducible repeat' first|refine aK ?_|refine bq dU ?_|refine br dU ?_|simp[J,eE,aA,hw,CF,o6,C3,j3,I,aa,ng]);refine cQ.rng (acc*10-((c.toNat:Int)-48)) J kp (by simp[kJ];exact dQ)
   ·rw[decide_eq_false Ω]at dU;have aV:gQ (45::t)=none:=pv fun m hm hit=>by obtain⟨ai,aE⟩:=ou hit;have jO:m<0:=aE.1 rfl;rw[n7]at ai;have e8:=hm;unfold bk at e8;have fD:=oN m.natAbs;have jj:=oP m.natAbs;have jh:=oM (u:=m.natAbs) Ω;have b5:=mU m.natAbs;rw[<-ai]at fD jj jh b5;exact xj (fD c (gL aA))
    have:R= .tuple [.int .i64 0,.bool false]:=by rw[<-bI,aV];rfl
    subst this;clear bI aV jM gr;simp[kJ,J,eE,aA];exact cH
def rk:List aZ->Bool
 |[a,b]=>eT a&&eT b
 |_=>false
theorem TU(k n:Int)(s:List az)(args:List aZ):eT ⟨k,n,s,args⟩=if k≠1/\k≠3/\n≠0 then false else if k≠2/\s≠[]then false else if k≠4/\args≠[]then false else if k=0 then true else if k=1 then decide (0<=n/\n<=100000)else if k=2 then gU s else if k=3 then decide (-1000000000<=n/\n<=1000000000)else if k=4 then rk args else false:=by
 by_cases er:k=0
 ·subst er;match args with
  |[]=>by_cases aU:n=0<;>by_cases ao:s=[]<;>simp[eT,ju,aU,ao]
  |[a]=>simp[eT]
  |[a,b]=>simp[eT]
  |_::_::_::_=>simp[eT]
 by_cases ct:k=1
 ·subst ct;match args with
  |[]=>by_cases ao:s=[]<;>simp[eT,ju,ao]
  |[a]=>simp[eT]
  |[a,b]=>simp[eT]
  |_::_::_::_=>simp[eT]
 by_cases cN:k=2
 ·subst cN;match args with
  |[]=>by_cases aU:n=0<;>simp[eT,ju,aU]
  |[a]=>simp[eT]
  |[a,b]=>simp[eT]
  |_::_::_::_=>simp[eT]
 by_cases gF:k=3
 ·subst gF;match args with
  |[]=>by_cases ao:s=[]<;>simp[eT,ju,ao]
  |[a]=>simp[eT]
  |[a,b]=>simp[eT]
  |_::_::_::_=>simp[eT]
 by_cases jt:k=4
 ·subst jt;match args with
  |[]=>simp[eT,ju,rk]
  |[a]=>simp[eT,rk]
  |[a,b]=>by_cases aU:n=0<;>by_cases ao:s=[]<;>simp[eT,rk,aU,ao]
  |_::_::_::_=>simp[eT,rk]
 ·match args with
  |[]=>simp[eT,ju,er,ct,cN,gF,jt]
  |[a]=>simp[eT,er,ct,cN,gF,jt]
  |[a,b]=>simp[eT,er,ct,cN,gF,jt]
  |_::_::_::_=>simp[eT,er,ct,cN,gF,jt]
set_option maxRecDepth 8000 in
theorem Fj(m:Nat):∀(t:aZ),t.sz<=m->ca aP 53 [enc t] (.bool (eT t)):=by
 induction m with
 |zero=>intro t au;cases t;simp[aZ.sz]at au
 |succ m a8=>
 rintro⟨k,n,s,args⟩ au;generalize bI:eT ⟨k,n,s,args⟩=R;have cS:=TU k n s args;rw[bI]at cS;by_cases bO:k≠1/\k≠3/\n≠0
 ·rw[if_pos bO]at cS;obtain⟨ct,gF,n0⟩:=bO;have vr:(k !=1)=true:=by simp[ct]
  have vt:(k !=3)=true:=by simp[gF]
  have DZ:(n !=0)=true:=by simp[n0]
  subst cS;refine bZ jc kn kC fun aT=>?_;unfold jW;simp[aZ.kind,aZ.num,aZ.name,aZ.args];(with_reducible repeat' first|refine aK ?_|refine bq (dH _ _ _) ?_|refine br (dH _ _ _) ?_|refine bq (fW _) ?_|refine br (fW _) ?_|simp[vr,vt,DZ]);all_goals simp[cC,jP,bd,bo,a6]
 rw[bh bO]at cS;have wO:(if k !=1 then k !=3 else false)=true->(n !=0)=false:=by intro h;simp at h⊢;exact Classical.byContradiction fun aU=>bO ⟨h.1,h.2,aU⟩
 by_cases bU:k≠2/\s≠[]
 ·rw[if_pos bU]at cS;have z1:(k !=2)=true:=by simp[bU.1]
  have EI:s.isEmpty=false:=by simp[bU.2]
  by_cases ct:k=1
  ·subst ct;subst cS;refine bZ jc kn kC fun aT=>?_;unfold jW;simp[aZ.kind,aZ.num,aZ.name,aZ.args];(with_reducible repeat' first|refine aK ?_|refine bq (dH _ _ _) ?_|refine br (dH _ _ _) ?_|refine bq (fW _) ?_|refine br (fW _) ?_|simp[EI]);all_goals simp[cC,jP,bd,bo,a6]
  by_cases gF:k=3
  ·subst gF;subst cS;refine bZ jc kn kC fun aT=>?_;unfold jW;simp[aZ.kind,aZ.num,aZ.name,aZ.args];(with_reducible repeat' first|refine aK ?_|refine bq (dH _ _ _) ?_|refine br (dH _ _ _) ?_|refine bq (fW _) ?_|refine br (fW _) ?_|simp[EI]);all_goals simp[cC,jP,bd,bo,a6]
  have vr:(k !=1)=true:=by simp[ct]
  have vt:(k !=3)=true:=by simp[gF]
  have DZ:(n !=0)=false:=wO (by simp[ct,gF]);subst cS;refine bZ jc kn kC fun aT=>?_;unfold jW;simp[aZ.kind,aZ.num,aZ.name,aZ.args];(with_reducible repeat' first|refine aK ?_|refine bq (dH _ _ _) ?_|refine br (dH _ _ _) ?_|refine bq (fW _) ?_|refine br (fW _) ?_|simp[vr,vt,DZ,z1,EI]);all_goals simp[cC,jP,bd,bo,a6]
 rw[bh bU]at cS;by_cases er:k=0
 ·subst er;have n0:n=0:=by simpa using wO (by decide)
  have rj:s=[]:=Classical.byContradiction fun h=>bU ⟨Ω,h⟩;subst n0 rj;by_cases a0:args=[];rotate_left
  ·rw[if_pos ⟨Ω,a0⟩]at cS;have qt:(0:Int)<args.length:=by have:=pL.2 a0;omega
   subst cS;refine bZ jc kn kC fun aT=>?_;unfold jW;simp[aZ.kind,aZ.num,aZ.name,aZ.args];((with_reducible repeat' first|refine aK ?_|refine bq (dH _ _ _) ?_|refine br (dH _ _ _) ?_|refine bq (fW _) ?_|refine br (fW _) ?_|simp[Int.natCast_nonneg,qt]|((first|apply dY|apply ed|apply ec)<;>intro h<;>try simp at h))<;>(try exact eM));all_goals simp[cC,jP,bd,bo,a6]
  rw[bh (by simp[a0])]at cS;subst a0;simp at cS;subst cS;refine bZ jc kn kC fun aT=>?_;unfold jW;simp[aZ.kind,aZ.num,aZ.name,aZ.args];(with_reducible repeat' first|refine aK ?_|refine bq (dH _ _ _) ?_|refine br (dH _ _ _) ?_|refine bq (fW _) ?_|refine br (fW _) ?_|simp[Int.natCast_nonneg]);all_goals simp[cC,jP,bd,bo,a6]
 by_cases ct:k=1
 ·subst ct;have rj:s=[]:=Classical.byContradiction fun h=>bU ⟨Ω,h⟩;subst rj;by_cases a0:args=[];rotate_left
  ·rw[if_pos ⟨Ω,a0⟩]at cS;have qt:(0:Int)<args.length:=by have:=pL.2 a0;omega
   subst cS;refine bZ jc kn kC fun aT=>?_;unfold jW;simp[aZ.kind,aZ.num,aZ.name,aZ.args];((with_reducible repeat' first|refine aK ?_|refine bq (dH _ _ _) ?_|refine br (dH _ _ _) ?_|refine bq (fW _) ?_|refine br (fW _) ?_|simp[Int.natCast_nonneg,qt]|((first|apply dY|apply ed|apply ec)<;>intro h<;>try simp at h))<;>(try exact eM));all_goals simp[cC,jP,bd,bo,a6]
  rw[bh (by simp[a0])]at cS;subst a0;simp at cS;subst cS;refine bZ jc kn kC fun aT=>?_;unfold jW;simp[aZ.kind,aZ.num,aZ.name,aZ.args];(with_reducible repeat' first|refine aK ?_|refine bq (dH _ _ _) ?_|refine br (dH _ _ _) ?_|refine bq (fW _) ?_|refine br (fW _) ?_|simp[Int.natCast_nonneg]);all_goals simp[cC,jP,bd,bo,a6]
 by_cases cN:k=2
 ·subst cN;have n0:n=0:=by simpa using wO (by decide)
  subst n0;by_cases a0:args=[];rotate_left
  ·rw[if_pos ⟨Ω,a0⟩]at cS;have qt:(0:Int)<args.length:=by have:=pL.2 a0;omega
   subst cS;refine bZ jc kn kC fun aT=>?_;unfold jW;simp[aZ.kind,aZ.num,aZ.name,aZ.args];((with_reducible repeat' first|refine aK ?_|refine bq (dH _ _ _) ?_|refine br (dH _ _ _) ?_|refine bq (fW _) ?_|refine br (fW _) ?_|simp[Int.natCast_nonneg,qt]|((first|apply dY|apply ed|apply ec)<;>intro h<;>try simp at h))<;>(try exact eM));all_goals simp[cC,jP,bd,bo,a6]
  rw[bh (by simp[a0])]at cS;subst a0;simp at cS;subst cS;refine bZ jc kn kC fun aT=>?_;unfold jW;simp[aZ.kind,aZ.num,aZ.name,aZ.args];(with_reducible repeat' first|refine aK ?_|refine bq (dH _ _ _) ?_|refine br (dH _ _ _) ?_|refine bq (fW _) ?_|refine br (fW _) ?_|simp[Int.natCast_nonneg]);all_goals simp[cC,jP,bd,bo,a6]
 by_cases gF:k=3
 ·subst gF;have rj:s=[]:=Classical.byContradiction fun h=>bU ⟨Ω,h⟩;subst rj;by_cases a0:args=[];rotate_left
  ·rw[if_pos ⟨Ω,a0⟩]at cS;have qt:(0:Int)<args.length:=by have:=pL.2 a0;omega
   subst cS;refine bZ jc kn kC fun aT=>?_;unfold jW;simp[aZ.kind,aZ.num,aZ.name,aZ.args];((with_reducible repeat' first|refine aK ?_|refine bq (dH _ _ _) ?_|refine br (dH _ _ _) ?_|refine bq (fW _) ?_|refine br (fW _) ?_|simp[Int.natCast_nonneg,qt]|((first|apply dY|apply ed|apply ec)<;>intro h<;>try simp at h))<;>(try exact eM));all_goals simp[cC,jP,bd,bo,a6]
  rw[bh (by simp[a0])]at cS;subst a0;simp at cS;subst cS;refine bZ jc kn kC fun aT=>?_;unfold jW;simp[aZ.kind,aZ.num,aZ.name,aZ.args];(with_reducible repeat' first|refine aK ?_|refine bq (dH _ _ _) ?_|refine br (dH _ _ _) ?_|refine bq (fW _) ?_|refine br (fW _) ?_|simp[Int.natCast_nonneg]);all_goals simp[cC,jP,bd,bo,a6]
 by_cases jt:k=4
 ·subst jt;have n0:n=0:=by simpa using wO (by decide)
  have rj:s=[]:=Classical.byContradiction fun h=>bU ⟨Ω,h⟩;subst n0 rj;simp at cS;match args,cS with
  |[a,b],cS=>
   simp[aZ.sz,aZ.szL]at au;have b1:=a8 a Ω;have af:=a8 b Ω;simp only[rk]at cS;subst cS;refine bZ jc kn kC fun aT=>?_;unfold jW;simp[aZ.kind,aZ.num,aZ.name,aZ.args];cases q:eT a with
   |true=>rw[q]at b1;(with_reducible repeat' first|refine aK ?_|refine bq b1 ?_|refine br b1 ?_|refine bq af ?_|refine br af ?_|simp[Int.natCast_nonneg]);all_goals simp[cC,jP,bd,bo,a6]
   |false=>rw[q]at b1;(with_reducible repeat' first|refine aK ?_|refine bq b1 ?_|refine br b1 ?_|refine bq af ?_|refine br af ?_|simp[Int.natCast_nonneg]);all_goals simp[cC,jP,bd,bo,a6]
  |[],cS=>simp only[rk]at cS;subst cS;refine bZ jc kn kC fun aT=>?_;unfold jW;simp[aZ.kind,aZ.num,aZ.name,aZ.args];(with_reducible repeat' first|refine aK ?_|refine bq (dH _ _ _) ?_|refine br (dH _ _ _) ?_|refine bq (fW _) ?_|refine br (fW _) ?_|simp[Int.natCast_nonneg]);all_goals simp[cC,jP,bd,bo,a6]
  |[_],cS=>simp only[rk]at cS;subst cS;refine bZ jc kn kC fun aT=>?_;unfold jW;simp[aZ.kind,aZ.num,aZ.name,aZ.args];(with_reducible repeat' first|refine aK ?_|refine bq (dH _ _ _) ?_|refine br (dH _ _ _) ?_|refine bq (fW _) ?_|refine br (fW _) ?_|simp[Int.natCast_nonneg]);all_goals simp[cC,jP,bd,bo,a6]
  |_::_::_::l,cS=>
   simp only[rk]at cS;have aB:((l.length:Int)+1+1+1==2)=false:=by simp;omega
   subst cS;refine bZ jc kn kC fun aT=>?_;unfold jW;simp[aZ.kind,aZ.num,aZ.name,aZ.args];(with_reducible repeat' first|refine aK ?_|refine bq (dH _ _ _) ?_|refine br (dH _ _ _) ?_|refine bq (fW _) ?_|refine br (fW _) ?_|simp[aB]);all_goals simp[cC,jP,bd,bo,a6]
 have n0:(n !=0)=false:=wO (by simp[ct,gF]);have rj:s=[]:=Classical.byContradiction fun h=>bU ⟨cN,h⟩;subst rj;have Jf:(k==0)=false:=by simp[er]
 have vr:(k==1)=false:=by simp[ct]
 have z1:(k==2)=false:=by simp[cN]
 have vt:(k==3)=false:=by simp[gF]
 have Jj:(k==4)=false:=by simp[jt]
 have Jg:(k !=1)=true:=by simp[ct]
 have Jh:(k !=2)=true:=by simp[cN]
 have Ji:(k !=3)=true:=by simp[gF]
 have Jk:(k !=4)=true:=by simp[jt]
 by_cases a0:args=[]
 ·subst a0;simp[er,ct,cN,gF,jt]at cS;subst cS;refine bZ jc kn kC fun aT=>?_;unfold jW;simp[aZ.kind,aZ.num,aZ.name,aZ.args];(with_reducible repeat' first|refine aK ?_|refine bq (dH _ _ _) ?_|refine br (dH _ _ _) ?_|refine bq (fW _) ?_|refine br (fW _) ?_|simp[Jf,vr,z1,vt,Jj,Jg,Jh,Ji,Jk,n0]);all_goals simp[cC,jP,bd,bo,a6]
 ·rw[if_pos ⟨jt,a0⟩]at cS;have qt:(0:Int)<args.length:=by have:=pL.2 a0;omega
  subst cS;refine bZ jc kn kC fun aT=>?_;unfold jW;simp[aZ.kind,aZ.num,aZ.name,aZ.args];((with_reducible repeat' first|refine aK ?_|refine bq (dH _ _ _) ?_|refine br (dH _ _ _) ?_|refine bq (fW _) ?_|refine br (fW _) ?_|simp[qt,Jf,vr,z1,vt,Jj,Jg,Jh,Ji,Jk,n0]|((first|apply dY|apply ed|apply ec)<;>intro h<;>try simp at h))<;>(try exact eM));all_goals simp[cC,jP,bd,bo,a6]
theorem UL(t:aZ):ca aP 55 [enc t] (.bool t.fits):=by
 rw[Pd];have aA:=Ux t 5000 Ω Ω;have ao:=Fj t.sz t (cx _);refine bZ jc OZ SH fun aT=>?_;unfold Gw;simp;by_cases q:jX t 5000<=5000
 ·exact cH
 ·exact cH
def GC:C:=(al [hZ 2 dO] (al [ae 3 0,kE 4 dO [(0,1,(cO 2)),(2,1,(.t 3))],bY 4 2 4] .ret))
@[simp] def KD:List cG:=[.cell 2 true 4]
def Lz:List (Nat×cm):=[
 (3,⟨1,8,.int .i64,.int .i64 0⟩),
 (9,⟨1,16,.str,.str []⟩),
 (22,⟨1,24,.slice 51,.slice 4 .nil []⟩),
 (51,⟨4,56,.struct [(0,3),(1,3),(2,9),(3,22)],.agg [.int .i64 0,.int .i64 0,.str [],.slice 4 .nil []]⟩)]
theorem Ug:dE aP Lz=true:=by kernel_rfl
theorem SN:dA Lz GC KD 1 Tryd.f51=true:=by kernel_rfl
theorem O5:aP.funcs[(51:Nat)]? =some Tryd.f51:=Tryd.func51
end
section
open Go Go.Pv
def Mg(k:IntKind)(a b:Int):Int:=k.wrap (BitVec.ofInt k.bits a&&& BitVec.ofInt k.bits b).toNat
def UT(k:IntKind)(a b:Int):Int:=k.wrap (BitVec.ofInt k.bits a ^^^ BitVec.ofInt k.bits b).toNat
def TW(k:IntKind)(a b:Int):Int:=a.fdiv (2 ^ (min b.toNat k.bits))
section
variable (a b:Int)
@[simp]theorem Vx:jD .add true (.int .i64 a) (.int .i64 b)=some (True,.int .i64 (jS.wrap (a+b))):=rfl
@[simp]theorem VE:jD .mul true (.int .i64 a) (.int .i64 b)=some (True,.int .i64 (jS.wrap (a*b))):=rfl
@[simp]theorem VG:jD .quo false (.int .i64 a) (.int .i64 b)=some (b≠0,.int .i64 (jS.wrap (a.tdiv b))):=rfl
@[simp]theorem VH:jD .rem false (.int .i64 a) (.int .i64 b)=some (b≠0,.int .i64 (a.tmod b)):=rfl
@[simp]theorem Vz:jD .eql false (.int .i64 a) (.int .i64 b)=some (True,.bool (a==b)):=rfl
@[simp]theorem VF:jD .neq false (.int .i64 a) (.int .i64 b)=some (True,.bool (a !=b)):=rfl
@[simp]theorem VD:jD .lss false (.int .i64 a) (.int .i64 b)=some (True,.bool (decide (a<b))):=rfl
@[simp]theorem VC:jD .leq false (.int .i64 a) (.int .i64 b)=some (True,.bool (decide (a<=b))):=rfl
@[simp]theorem VB:jD .gtr false (.int .i64 a) (.int .i64 b)=some (True,.bool (decide (b<a))):=rfl
@[simp]theorem VA:jD .geq false (.int .i64 a) (.int .i64 b)=some (True,.bool (decide (b<=a))):=rfl
@[simp]theorem Vy:jD .and false (.int .i64 a) (.int .i64 b)=some (True,.int .i64 (Mg .i64 a b)):=rfl
@[simp]theorem VK:jD .xor false (.int .i64 a) (.int .i64 b)=some (True,.int .i64 (UT .i64 a b)):=rfl
@[simp]theorem VJ(k:IntKind):jD .shr false (.int .i64 a) (.int k b)=some (0<=b,.int .i64 (TW .i64 a b)):=rfl
end
end
section
open Go Go.Pv
theorem Uz(s:List az):ca aP 51 [.str s] (T.sym s).e:=by refine bZ Ug O5 SN fun aT=>?_;unfold GC;simp[-vq,-jD];simp[-vq,-jD,cC,KD,bd,bo,a6]
def BA(o:aR T):ab:= .tuple [(o.getD .nil).e,.bool o.isSome]
theorem UO(n:Int):ca aP 53 [(T.var n).e] (.bool (decide (0<=n/\n<=100000))):=by
 have h:=Fj 1 (aZ.mk 1 n [] []) (by simp[aZ.sz,aZ.szL]);have e:eT (aZ.mk 1 n [] [])=decide (0<=n/\n<=100000):=by have:=wh (.var n);simpa[T.tm,T.ok]using this
 rw[e]at h;exact h
theorem UN(n:Int):ca aP 53 [(T.num n).e] (.bool (T.ok (.num n))):=by have h:=Fj 1 (aZ.mk 3 n [] []) (by simp[aZ.sz,aZ.szL]);have e:eT (aZ.mk 3 n [] [])=T.ok (.num n):=wh (.num n);rw[e]at h;exact h
theorem Mn(r:List az):gz (63::r)=match gQ r with|some n=>if 0<=n/\n<=100000 then some (.var n)else none|none=>none:=by
 unfold gz fR;simp only;cases gQ r with
 |none=>rfl
 |some n=>
  simp only;by_cases h:0<=n/\n<=100000
  ·rw[if_pos h];simp only;rw[if_pos (by simp[T.ok,h])]
  ·rw[bh h]
theorem Mm{w:List az}(h:∀r,w≠63::r):gz w=if gU w then some (.sym w)else match gQ w with|some n=>if T.ok (.num n)then some (.num n)else none|none=>none:=by
 unfold gz;have:fR w=if gU w then some (.sym w)else(gQ w).map .num:=by
  unfold fR;split
  ·rename_i r;exact absurd rfl (h r)
  ·rfl
 rw[this];by_cases aU:gU w=true
 ·rw[if_pos aU,if_pos aU];simp[T.ok,aU]
 ·rw[bh aU,bh aU];cases gQ w with
  |none=>rfl
  |some n=>rfl
theorem R9{r:List az}:gU (63::r)=false:=by
 cases h:gU (63::r)with
 |false=>rfl
 |true=>obtain⟨x,cr,e,I,_⟩:=J0 h;cases e;revert I;decide
theorem UA(w:List az)(hw:w≠[]):ca aP 37 [.str w] (BA (gz w)):=by
 have iZ:=fW w;have pg:=Uz w;unfold BA;obtain⟨c,r,rfl⟩:∃c r,w=c::r:=by
  cases w with
  |nil=>exact absurd rfl hw
  |cons c r=>exact⟨c,r,rfl⟩
 have IJ:(0:Int)<(r.length:Int)+1:=Ω
 have IK:(1:Int)<=(r.length:Int)+1:=Ω
 by_cases u6:c=63
 ·subst u6;rw[R9]at iZ;have fo:=LN r;rw[Mn];unfold x4 at fo;cases aV:gQ r with
  |none=>rw[aV]at fo;simp only[Option.getD_none,qo]at fo⊢;clear pg;refine bZ fq tt ud fun aT=>?_;unfold rO;clear aT;exact cH
  |some n=>
   rw[aV]at fo;have xR:=UO n;by_cases aU:0<=n/\n<=100000
   ·rw[decide_eq_true aU]at xR;simp only[if_pos aU,oG,Option.isSome_some]at fo⊢;clear pg aU;refine bZ fq tt ud fun aT=>?_;unfold rO;clear aT;exact cH
   ·rw[decide_eq_false aU]at xR;simp only[bh aU,oG,Option.isSome_some,Option.getD_none,qo]at fo⊢;clear pg aU;refine bZ fq tt ud fun aT=>?_;unfold rO;clear aT;exact cH
 ·have af:((c.toNat:Int)==63)=false:=mM (d:=63) u6;rw[Mm fun cr e=>u6 (by cases e;rfl)];cases fL:gU (c::r)
  ·rw[fL]at iZ;have fo:=LN (c::r);unfold x4 at fo;rw[bh Ψ];cases aV:gQ (c::r)with
   |none=>rw[aV]at fo;simp only[Option.getD_none,qo]at fo⊢;clear pg;refine bZ fq tt ud fun aT=>?_;unfold rO;clear aT;exact cH
   |some n=>
    rw[aV]at fo;have xR:=UN n;cases ag:T.ok (.num n)
    ·rw[ag]at xR;simp only[ag,ib,if_false,oG,Option.isSome_some,Option.getD_none,qo]at fo⊢;clear pg;refine bZ fq tt ud fun aT=>?_;unfold rO;clear aT;exact cH
    ·rw[ag]at xR;simp only[ag,if_true,oG,Option.isSome_some]at fo⊢;clear pg;refine bZ fq tt ud fun aT=>?_;unfold rO;clear aT;exact cH
  ·rw[fL]at iZ;rw[if_pos rfl];simp only[oG,Option.isSome_some];refine bZ fq tt ud fun aT=>?_;unfold rO;clear aT;exact cH
def wK(l:List T)(j:Int)(t:T):aM:=⟨[(0,.slice 4 .no (l.map T.e)),(3,.ptr (.loc 0) 0),(4,.ptr (.loc 1) 0),(5,.int .i64 j)],[(.loc 0,cells t.e),(.loc 1,[.int .i64 0,.int .i64 0,.str [],.slice 4 .nil []])],[],2,[]⟩
theorem LL(l:List T)(t:T):ca aP 38 [.slice 4 .no (l.map T.e),t.e] (gv l t).e:=by
 refine bZ fq O3 SL fun aT=>?_;unfold GA;have af:l.length<=b0:=by simp[je,jE,jf]at aT;exact aT.1
 have zv:bk ((l.length:Int)-1):=by unfold bk;unfold b0 at af;omega
 clear aT;simp;(with_reducible repeat' first|refine aK ?_|simp[zv]);refine jI (fun x:Int×T=>wK l x.1 x.2) (fun x=>(x.1+1).toNat) (fun x=> -1<=x.1/\x.1<l.length/\gv (l.take (x.1+1).toNat) x.2=gv l t) ((l.length:Int)-1,t) (by simp[wK];exact dQ) ⟨by simp;omega,by simp;omega,Ψ⟩ ?_;rintro⟨j,u⟩ ⟨Qt,jM,gr⟩ _;simp only at Qt jM gr;by_cases j1:0<=j
 ·obtain⟨n,rfl⟩:∃n:Nat,j=n:=⟨j.toNat,Ω⟩;have aU:n<l.length:=Ω
  obtain⟨x,ad,hX⟩:=h0 aU;have ng:bk ((n:Int)-1):=by unfold bk;unfold b0 at af;omega
  have fo:=Uy x u;have p2: -1<=(n:Int)-1/\(n:Int)-1<l.length/\gv (l.take ((n:Int)-1+1).toNat) (.pair x u)=gv l t:=by refine⟨Ω,Ω,?_⟩;rw[<-gr,show((n:Int)-1+1).toNat=n by omega,show((n:Int)+1).toNat=n+1 by omega,nJ,ad,RV];rfl
  clear gr;simp[wK];(with_reducible repeat' first|refine aK ?_|refine bq fo ?_|refine br fo ?_|simp[aU,hX,ad,ng]);refine cQ.whl ((n:Int)-1,.pair x u) (by simp<;>omega) p2 (by simp[wK];exact dQ)
 ·have:j= -1:=Ω
  subst this;have e:u=gv l t:=by simpa[gv]using gr
  subst e;clear gr;simp[wK];exact cH
theorem A3{l rest:List (List az)}{j:Nat}(h:rest<:+l.drop j):rest=l.drop (l.length-rest.length)/\rest.length<=l.length-j:=by
 have I:rest<:+l:=h.trans (List.drop_suffix j l);have aa:l.drop (l.length-rest.length)=rest:=by obtain⟨p,rfl⟩:=I;simp
 exact⟨aa.symm,by have:=h.length_le;simpa using this⟩
def nx(l:List (List az))(i:Nat):Int:=match l[i]? with
 |some w=>if w=[40]\/w=[41]\/w=[46]then 0 else i+1
 |none=>0
def ir(l:List (List az))(k:Int)(o:aR (T×List (List az))):ab:=match o with
 |some (t,r)=>.tuple [t.e,.int .i64 (l.length-r.length:Nat),.bool true]
 |none=>.tuple [T.nil.e,.int .i64 k,.bool false]
def nP(l:List (List az))(x:List T×Nat×Nat):aM:=⟨[(0,.slice 1 .no (dw l)),(1,.int .i64 x.2.1),(4,.ptr (.loc 0) 0),(9,.slice 4 (.own (.loc 1)) (x.1.map T.e))],[(.loc 0,[.int .i64 0,.int .i64 0,.str [],.slice 4 .nil []])],[(.loc 1,⟨x.1.length,51,4,none⟩)],2,[]⟩
theorem vH{a b:List az}(h:a≠b):(a==b)=false:=by simpa using h
theorem ub{a b:List az}(h:a≠b):(a !=b)=true:=by simpa using h
set_option maxRecDepth 8000 in
theorem UB(l:List (List az))(aB:l.length<=100000)(hw:∀w∈l,w≠[]):∀n i:Nat,i<=l.length->2*(l.length-i)+1<=n->ca aP 26 [.slice 1 .no (dw l),.int .i64 i] (ir l (nx l i) (rd gz n (l.drop i))):=by
 intro n;induction n using Nat.strongRecOn with
 |_ n a8=>
 intro i kV aU;obtain⟨n,rfl⟩:∃m,n=m+1:=⟨n-1,Ω⟩;rcases jB kV with rfl|aD
 ·have e:ir l (nx l l.length) (rd gz (n+1) (l.drop l.length))= .tuple [T.nil.e,.int .i64 0,.bool false]:=by rw[mb];simp[rd,ir,nx]
  rw[e];clear a8;refine bZ fq uW vM fun aT=>?_;unfold tf;clear aT;exact cH
 obtain⟨w,ad⟩:∃v,l[i]? =some v:=⟨_,eo aD⟩;have gu:∀h,((dw l)[i]'h)= .str w:=fun h=>by rw[qf aD];rw[eo aD]at ad;rw[iL ad]
 have vm:=hw w (gL ad);have j1:¬(l.length:Int)<=i:=Ω
 rw[fY ad];by_cases gq:w=[41]
 ·subst gq;have e:ir l (nx l i) (rd gz (n+1) ([41]::l.drop (i+1)))= .tuple [T.nil.e,.int .i64 0,.bool false]:=by simp[rd,ir,nx,ad]
  rw[e];clear a8;refine bZ fq uW vM fun aT=>?_;unfold tf;clear aT;exact cH
 by_cases mq:w=[46]
 ·subst mq;have e:ir l (nx l i) (rd gz (n+1) ([46]::l.drop (i+1)))= .tuple [T.nil.e,.int .i64 0,.bool false]:=by simp[rd,ir,nx,ad]
  rw[e];clear a8;refine bZ fq uW vM fun aT=>?_;unfold tf;clear aT;exact cH
 have tZ:=vH gq;have Aq:=vH mq;have cU:bk ((i:Int)+1):=by unfold bk;omega
 by_cases r3:w=[40];rotate_left
 ·have vF:=ub r3;have e0:=UA w vm;have ai:nx l i=(i:Int)+1:=by unfold nx;rw[ad];simp[r3,gq,mq]
  have aE:rd gz (n+1) (w::l.drop (i+1))=(gz w).map fun t=>(t,l.drop (i+1)):=by simp[rd,r3,gq,mq]
  rw[ai,aE];unfold BA at e0;cases b1:gz w with
  |none=>rw[b1]at e0;simp only[Option.map_none,ir,Option.getD_none,qo]at e0⊢;clear a8;refine bZ fq uW vM fun aT=>?_;unfold tf;clear aT;simp;((with_reducible repeat' first|refine aK ?_|refine bq e0 ?_|refine br e0 ?_|simp[j1,aD,gu,ad,vF,tZ,Aq,cU]|((first|apply dY|apply ed|apply ec)<;>intro h<;>try simp at h))<;>(try exact eM));all_goals simp[cC,sM,bd,bo,a6]
  |some t=>
   rw[b1]at e0;have aV:((l.length-(l.drop (i+1)).length:Nat):Int)=(i:Int)+1:=by rw[lb];omega
   simp only[mP,ir,oG,Option.isSome_some,aV]at e0⊢;clear a8 aV;refine bZ fq uW vM fun aT=>?_;unfold tf;clear aT;simp;((with_reducible repeat' first|refine aK ?_|refine bq e0 ?_|refine br e0 ?_|simp[j1,aD,gu,ad,vF,tZ,Aq,cU]|((first|apply dY|apply ed|apply ec)<;>intro h<;>try simp at h))<;>(try exact eM));all_goals simp[cC,sM,bd,bo,a6]
 subst r3;have ai:nx l i=0:=by unfold nx;rw[ad];simp
 have aE:rd gz (n+1) ([40]::l.drop (i+1))=bP gz n (l.drop (i+1)) []:=by simp[rd]
 rw[ai,aE];obtain⟨R,bI⟩:∃R,R=ir l 0 (bP gz n (l.drop (i+1)) []):=⟨_,rfl⟩;rw[<-bI];have r7:kin (fun _=>cv) R:=by rw[bI];unfold ir;split<;>simp[kin,kinL]
 refine bZ fq uW vM (fun aT=>?_) (hr:=r7);unfold tf;clear aT;simp;((with_reducible repeat' first|refine aK ?_|simp[j1,aD,gu,ad,tZ,Aq,cU]|((first|apply dY|apply ed|apply ec)<;>intro h<;>try simp at h))<;>(try exact eM));refine jI (nP l) (fun x=>l.length-x.2.1) (fun x=>x.2.1<=l.length/\2*(l.length-x.2.1)+2<=x.2.2/\x.2.2<=n/\ir l 0 (bP gz x.2.2 (l.drop x.2.1) x.1)=R/\x.1.length<=x.2.1) ([],i+1,n) (by simp[nP];exact dQ) ⟨aD,by simp;omega,cx _,bI.symm,Ψ⟩ ?_;rintro⟨acc,j,k⟩ ⟨av,J,tH,cY,h3⟩ _;simp only at av J tH cY h3;clear bI cU gu ad vm j1 tZ Aq ai aE gq mq;obtain⟨k,rfl⟩:∃m,k=m+1:=⟨k-1,Ω⟩;rcases jB av with rfl|eR
 ·rw[mb]at cY;simp only[bP,ir]at cY;subst cY;clear a8;simp[nP];((with_reducible repeat' first|refine aK ?_|simp|((first|apply dY|apply ed|apply ec)<;>intro h<;>try simp at h))<;>(try exact eM));all_goals simp[cC,sM,bd,bo,a6]
 obtain⟨v,aY⟩:∃v,l[j]? =some v:=⟨_,eo eR⟩;have fv:∀h,((dw l)[j]'h)= .str v:=fun h=>by rw[qf eR];rw[eo eR]at aY;rw[iL aY]
 have gD:bk ((j:Int)+1):=by unfold bk;omega
 have xr:¬(l.length:Int)<=j:=Ω
 rw[fY aY]at cY;by_cases gq:v=[41]
 ·subst gq;have aV:((l.length-(l.drop (j+1)).length:Nat):Int)=(j:Int)+1:=by rw[lb];omega
  have he:bP gz (k+1) ([41]::l.drop (j+1)) acc=some (gv acc .nil,l.drop (j+1)):=by simp[bP]
  rw[he]at cY;simp only[ir,aV]at cY;subst cY;have DL:=LL acc .nil;clear a8;simp[nP];exact cH
 have tZ:=vH gq;have k2:=ub gq;by_cases mq:v=[46]
 ·subst mq;have cT:=a8 k Ω (j+1) Ω Ω;have P1:((j+1:Nat):Int)=(j:Int)+1:=Ω
  rw[P1]at cT;cases dN:rd gz k (l.drop (j+1))with
  |none=>
   rw[dN]at cT;have he:bP gz (k+1) ([46]::l.drop (j+1)) acc=none:=by simp[bP,dN]
   rw[he]at cY;simp only[ir]at cY cT;subst cY;clear a8;simp[nP];exact cH
  |some tr=>
   obtain⟨t,rest⟩:=tr;rw[dN]at cT;obtain⟨gh,n9⟩:=A3 (qb k _ _ _ dN).1;obtain⟨p,aV⟩:∃p,p=l.length-rest.length:=⟨_,rfl⟩;have gE:p<=l.length:=Ω
   simp only[ir,<-aV]at cT;rw[<-aV]at gh;by_cases vb:acc=[]
   ·have he:bP gz (k+1) ([46]::l.drop (j+1)) acc=none:=by simp[bP,vb]
    rw[he]at cY;simp only[ir]at cY;subst cY;subst vb;clear a8;simp[nP];((with_reducible repeat' first|refine aK ?_|refine bq cT ?_|refine br cT ?_|simp[eR,fv,aY,xr,gD,k2]|((first|apply dY|apply ed|apply ec)<;>intro h<;>try simp at h))<;>(try exact eM));all_goals simp[cC,sM,bd,bo,a6]
   have Ig:((acc.length:Int)==0)=false:=beq_eq_false_iff_ne.2 (by have:=pL.2 vb;omega);rcases jB gE with hpe|gE
   ·have he:bP gz (k+1) ([46]::l.drop (j+1)) acc=none:=by
     have:rest=[]:=by rw[gh,hpe,mb]
     simp[bP,dN,vb,this]
    rw[he]at cY;simp only[ir]at cY;subst cY;rw[hpe]at cT;clear a8;simp[nP];exact cH
   obtain⟨u,hu⟩:∃v,l[p]? =some v:=⟨_,eo gE⟩;have oa:∀h,((dw l)[p]'h)= .str u:=fun h=>by rw[qf gE];rw[eo gE]at hu;rw[iL hu]
   have IN:¬(l.length:Int)<=p:=Ω
   have IL:bk ((p:Int)+1):=by unfold bk;omega
   rw[fY hu]at gh;by_cases Dj:u=[41]
   ·subst Dj;have C1:((l.length-(l.drop (p+1)).length:Nat):Int)=(p:Int)+1:=by rw[lb];omega
    have he:bP gz (k+1) ([46]::l.drop (j+1)) acc=some (gv acc t,l.drop (p+1)):=by simp[bP,dN,vb,gh]
    rw[he]at cY;simp only[ir,C1]at cY;subst cY;have DL:=LL acc t;clear a8;simp[nP];((with_reducible repeat' first|refine aK ?_|refine bq cT ?_|refine br cT ?_|refine bq DL ?_|refine br DL ?_|simp[eR,fv,aY,xr,gD,k2,Ig,gE,oa,hu,IN,IL]|((first|apply dY|apply ed|apply ec)<;>intro h<;>try simp at h))<;>(try exact eM));all_goals simp[cC,sM,bd,bo,a6]
   ·have R6:=ub Dj;have he:bP gz (k+1) ([46]::l.drop (j+1)) acc=none:=by simp[bP,dN,vb,gh,Dj]
    rw[he]at cY;simp only[ir]at cY;subst cY;clear a8;simp[nP];((with_reducible repeat' first|refine aK ?_|refine bq cT ?_|refine br cT ?_|simp[eR,fv,aY,xr,gD,k2,Ig,gE,oa,hu,IN,IL,R6]|((first|apply dY|apply ed|apply ec)<;>intro h<;>try simp at h))<;>(try exact eM));all_goals simp[cC,sM,bd,bo,a6]
 have JE:=ub mq;have cT:=a8 k Ω j Ω Ω;rw[fY aY]at cT;have he:bP gz (k+1) (v::l.drop (j+1)) acc=match rd gz k (v::l.drop (j+1))with
   |some (t,cr)=>bP gz k cr (acc++[t])
   |none=>none:=by
  conv=>lhs;unfold bP
  rw[bh gq,bh mq];cases rd gz k (v::l.drop (j+1))<;>rfl
 rw[he]at cY;cases dN:rd gz k (v::l.drop (j+1))with
 |none=>rw[dN]at cT cY;simp only[ir]at cY cT;subst cY;clear a8 he;generalize nx l j=q at cT;simp[nP];((with_reducible repeat' first|refine aK ?_|refine bq cT ?_|refine br cT ?_|simp[eR,fv,aY,xr,k2,JE]|((first|apply dY|apply ed|apply ec)<;>intro h<;>try simp at h))<;>(try exact eM));all_goals simp[cC,sM,bd,bo,a6]
 |some tr=>
  obtain⟨t,rest⟩:=tr;rw[dN]at cT cY;obtain⟨gh,n9⟩:=A3 (j:=j) (by rw[fY aY];exact(qb k _ _ _ dN).1);have xF:=(qb k _ _ _ dN).2;have IW:rest.length<l.length-j:=by simp at xF;omega
  obtain⟨p,aV⟩:∃p,p=l.length-rest.length:=⟨_,rfl⟩;simp only[ir,<-aV]at cT;simp only at cY;rw[<-aV]at gh;rw[gh]at cY;have lk:acc.length+1<=b0:=by unfold b0;omega
  clear a8 he;simp[nP];((with_reducible repeat' first|refine aK ?_|refine bq cT ?_|refine br cT ?_|simp[eR,fv,aY,xr,k2,JE,lk]|((first|apply dY|apply ed|apply ec)<;>intro h<;>try simp at h))<;>(try exact eM));refine cQ.whl (acc++[t],p,k) (by show l.length-p<l.length-j;omega) ⟨by show p<=l.length;omega,by show 2*(l.length-p)+2<=k;omega,by show k<=n;omega,cY,by simp;omega⟩ (by simp[nP];exact⟨by simp[fresh,kinL,kin,cA,aI,Pv.look,c7],fh (by simp[fresh,kinL,kin,cA,aI,Pv.look,c7]),fi (by simp[fresh,kinL,kin,eD,aI,Pv.look,c7]),Ψ⟩)
theorem Fk(l:List aZ):ca aP 39 [.slice 4 .no (l.map enc)] (.bool (l.all aZ.fits)):=by
 generalize bI:l.all aZ.fits=R;refine bZ kc O1 SJ fun aT=>?_;unfold Gy;have hf:l.length<=68719476736:=by simp[je,jE,jf,b0]at aT;omega
 clear aT;simp;refine iy (fun i (_:Unit)=>⟨[(5,.slice 4 .no (l.map enc)),(6,.int .i64 l.length),(7,.int .i64 i)],[],[],0,[]⟩) l.length (mB aZ.fits l) () dQ (fun k b J=>Ω) (fun _ av _=>?_) (fun i _ aD av _=>?_)
 ·have:R=true:=by rw[<-bI];exact av.fin
  subst this;clear av bI;exact cH
 ·obtain⟨t,au,Q9⟩:=h0 aD;have b8:=UL t;cases g:t.fits
  ·rw[g]at b8;have:R=false:=by rw[<-bI];exact uE au g
   subst this;clear au av bI;exact cH
  ·rw[g]at b8;have aU:=av.step au g;clear au av bI;exact vR
mutual
def jG:Gm->Int->Int
 | .mk _ _ _ gs,m=>lN gs 1 m
def lN:List Gm->Int->Int->Int
 |[],n,_=>n
 |x::xs,n,m=>if m<n then n else lN xs (n+jG x (m-n)) m
end
mutual
theorem BS:∀(t:Gm) (m:Int),0<=m->1<=jG t m/\jG t m<=m+1
 | .mk _ _ _ gs,m,h=>by simp only[jG];exact GR gs 1 m h Ω Ω
theorem GR:∀(l:List Gm) (n m:Int),0<=m->1<=n->n<=m+1->1<=lN l n m/\lN l n m<=m+1
 |[],n,m,_,I,aa=>by simp only[lN];exact⟨I,aa⟩
 |x::xs,n,m,bR,I,aa=>by
  simp only[lN];split
  ·exact⟨I,aa⟩
  ·have:=BS x (m-n) Ω;exact GR xs _ m bR Ω Ω
end
mutual
theorem GU:∀(t:Gm) (m:Int),0<=m->(jG t m<=m↔(t.sz:Int)<=m)/\((t.sz:Int)<=m->jG t m=t.sz)
 | .mk _ _ _ gs,m,h=>by have:=GS gs 1 m h Ω;simp only[jG,Gm.sz];exact⟨this.1.trans Ω,fun h=>by rw[this.2 Ω];omega⟩
theorem GS:∀(l:List Gm) (n m:Int),0<=m->1<=n->(lN l n m<=m↔n+(mo l:Int)<=m)/\(n+(mo l:Int)<=m->lN l n m=n+mo l)
 |[],n,m,_,I=>by simp[lN,mo]
 |x::xs,n,m,bR,I=>by
  simp only[lN,mo];have aV:=x.sz_pos;by_cases hm:m<n
  ·rw[if_pos hm];exact⟨Ω,fun h=>Ω⟩
  ·rw[bh hm];obtain⟨bt,a2⟩:=GU x (m-n) Ω;have a3:=BS x (m-n) Ω;obtain⟨bO,bU⟩:=GS xs (n+jG x (m-n)) m bR Ω;by_cases ad:(x.sz:Int)<=m-n
   ·rw[a2 ad]at bO bU⊢;exact⟨bO.trans Ω,fun h=>by rw[bU Ω];omega⟩
   ·have:¬jG x (m-n)<=m-n:=fun h=>ad (bt.1 h);exact⟨bO.trans ⟨fun h=>Ω,fun h=>Ω⟩,fun h=>Ω⟩
end
theorem Nf(g:Gm)(m:Int):jG g m=lN g.gs 1 m:=by cases g;rfl
theorem UC:∀(k:Nat) (t:Gm),t.sz<=k->∀m:Int,0<=m->m<=1000000->ca aP 27 [t.e,.int .i64 m] (.int .i64 (jG t m)):=by
 intro k;induction k with
 |zero=>intro t au;have:=t.sz_pos;omega
 |succ k a8=>
  intro t au m bR I;refine bZ kc O6 SO fun aT=>?_;unfold GD;have hf:t.gs.length<=68719476736:=by rw[Gm.e_eq]at aT;simp[je,jE,jf,b0]at aT;omega
  clear aT;simp;refine iy (fun i (n:Int)=>⟨[(1,.int .i64 m),(5,.int .i64 n),(9,.slice 4 .no (t.gs.map Gm.e)),(10,.int .i64 t.gs.length),(11,.int .i64 i)],[],[],0,[]⟩) t.gs.length (fun i n=>(1<=n/\n<=m+1)/\lN (t.gs.drop i) n m=jG t m) 1 (by simp;exact dQ) ⟨Ω,by simp[Nf]⟩ (fun n av _=>?_) (fun i n aD av _=>?_)
  ·have he:n=jG t m:=by have:=av.2;simp[lN]at this;exact this
   subst he;clear av;exact cH
  ·obtain⟨⟨xv,n8⟩,av⟩:=av;obtain⟨x,ad,hX⟩:=h0 aD;have aG:t.gs.drop i=x::t.gs.drop (i+1):=by rw[pJ aD,hX]
   have cE:x.sz<=k:=by have:=t.gs_lt (gL ad);omega
   have cU:bk ((i:Int)+1):=by unfold bk;omega
   rw[aG]at av;simp only[lN]at av;by_cases af:m<n
   ·rw[if_pos af]at av;subst av;clear a8;exact cH
   ·rw[bh af]at av;have aA:=BS x (m-n) Ω;have RO:=a8 x cE (m-n) Ω Ω;have kO:bk (m-n):=by unfold bk;omega
    have WD:bk (n+jG x (m-n)):=by unfold bk;omega
    have kp:(1<=n+jG x (m-n)/\n+jG x (m-n)<=m+1)/\lN (t.gs.drop (i+1)) (n+jG x (m-n)) m=jG t m:=⟨Ω,av⟩;clear a8;have Jw:=RO;exact vR
theorem KT:dw iu=[.str [116,114,117,101],.str [102,97,105,108],.str [115,121,109,98,111,108],.str [110,117,109,98,101,114],.str [97,98,115,101,110,116],.str [97,110,100],.str [111,114],.str [110,111,116],.str [100,101,102,105,110,101]]:=rfl
theorem UJ(s:List az):ca aP 40 [.str s] (.bool (h6 s)):=by
 have iZ:=fW s;generalize bI:h6 s=R;refine bZ kc OY SG fun aT=>?_;unfold Gv;clear aT;simp[<-KT];refine⟨by rw[KT];simp[nT],?_⟩;refine iy (fun i (_:Unit)=>⟨[(0,.str s),(5,.slice 1 (.own (.loc 0)) (dw iu)),(6,.int .i64 iu.length),(7,.int .i64 i)],[],[(.loc 0,⟨9,9,1,none⟩)],1,[]⟩) iu.length (mB (fun w=>w !=s) iu) () dQ (fun k b J=>Ω) (fun _ av _=>?_) (fun i _ aD av _=>?_)
 ·have aU:iu.contains s=false:=by
   have:=(show mB (fun w=>w !=s) iu iu.length ()from av).fin;rw[kd]at this;cases aA:iu.contains s with
   |false=>rfl
   |true=>
    have I:s∈iu:=by simpa using aA
    have:=this s I;simp at this
  have:R=gU s:=by rw[<-bI,h6,aU];rfl
  rw[this];clear bI av;exact cH
 ·have kV:i<iu.length:=aD;obtain⟨w,hw⟩:∃w,iu[i]? =some w:=⟨_,eo kV⟩;have Rh:∀h,((dw iu)[i]'h)= .str w:=fun h=>by rw[qf kV];rw[eo kV]at hw;rw[iL hw]
  have WT:(i:Int)<9:=by have h:i<9:=kV;omega
  have cU:bk ((i:Int)+1):=by unfold bk;omega
  have QC:i<(dw iu).length:=kV;have zQ:(dw iu)[i]? =some (.str w):=by rw[eo QC,Rh]
  by_cases he:w=s
  ·have:R=false:=by
    rw[<-bI,h6];have:iu.contains s=true:=by rw[<-he];simpa using gL hw
    rw[this];rfl
   subst this;subst he;clear bI av;exact cH
  ·have aU:=av.step hw (by simpa using he);have WQ:(w==s)=false:=by simpa using he
   clear bI av;exact vR
def sS(k:Int)(n:Int):Int:=if k=9 then n else kB k
def hdS(g:Gm):Prop:=(g.ts.length:Int)=sS g.kind g.ts.length/\g.ts.length<=4/\(g.kind<7->g.gs=[])/\g.gs.length<=8
def pE(g:Gm):Bool:=if g.kind=6 then(match g.ts with|x::_=>decide (x.kind=2)|[]=>false)else if g.kind=9 then g.gs.isEmpty&&h6 g.name else if g.kind=10 then(match g.gs with|[x]=>decide (x.kind=9)|_=>false)else true
theorem R8(k:Int):0<=kB k/\kB k<=2:=by
 unfold kB;repeat' split
 all_goals omega
theorem K7(g:Gm):g.shape=true↔(0<=g.kind/\g.kind<=10)/\(g.kind≠9->g.name=[])/\g.ts.all aZ.fits=true/\hdS g/\g.gs.all Gm.shape=true/\pE g=true:=by
 rw[nB,bD];have aU:=R8 g.kind;unfold hdS sS pE;by_cases I:0<=g.kind/\g.kind<=6
 ·rw[if_pos I,bh (show¬g.kind=9 by omega)];by_cases cq:g.kind=6
  ·simp[cq];constructor
   ·rintro⟨a,⟨⟨b,c⟩,d⟩,e⟩;rw[c]at*;refine⟨b,a,⟨d,by rw[cq]at aU;omega,rfl,Ψ⟩,Ψ,e⟩
   ·rintro⟨a,b,⟨c,d,e,_⟩,_,f⟩;exact⟨b,⟨⟨a,e⟩,c⟩,f⟩
  ·have R7:¬g.kind=9:=Ω
   have n10:¬g.kind=10:=Ω
   simp[cq,R7,n10];constructor
   ·rintro⟨a,⟨b,c⟩,d⟩;rw[c];exact⟨Ω,b,a,⟨d,Ω,fun _=>rfl,Ψ⟩,Ψ⟩
   ·rintro⟨_,a,b,⟨c,d,e,_⟩,_⟩;exact⟨b,⟨a,e Ω⟩,c⟩
 ·rw[bh I];by_cases gC:g.kind=9
  ·simp[gC];intro _;constructor
   ·rintro⟨⟨b,c⟩,d⟩;rw[c];exact⟨⟨d,Ψ⟩,Ψ,rfl,b⟩
   ·rintro⟨⟨b,c⟩,d,e,f⟩;exact⟨⟨f,e⟩,b⟩
  ·rw[bh gC];by_cases tA:g.kind=7\/g.kind=8
   ·rw[if_pos tA];have eZ:kB g.kind=0:=by rcases tA with h|h<;>rw[h]<;>rfl
    rw[eZ];rcases tA with h|h;all_goals
     simp[h]
     constructor
     ·rintro⟨a,⟨⟨b,c⟩,d⟩,e⟩
      rw[c];exact⟨b,Ψ,⟨rfl,Ψ,d⟩,e⟩
     ·rintro⟨a,b,⟨c,d,e⟩,f⟩
      exact⟨b,⟨⟨a,c⟩,e⟩,f⟩
   ·rw[bh tA];by_cases e5:g.kind=10
    ·simp[e5,kB];constructor
     ·rintro⟨a,⟨⟨b,c⟩,d⟩,e⟩;rw[c];refine⟨b,Ψ,⟨rfl,Ψ,?_⟩,e,d⟩;split at d
      ·rename_i x ad;rw[ad];simp
      ·cases d
     ·rintro⟨a,b,⟨c,d,e⟩,f,h⟩;exact⟨b,⟨⟨a,c⟩,h⟩,f⟩
    ·rw[bh e5];constructor
     ·rintro⟨_,h⟩;cases h
     ·rintro⟨h,_⟩;omega
theorem TP(g:Gm)(h:¬(0<=g.kind/\g.kind<=10)):ca aP 28 [g.e] (.bool false):=by have dU:=dH g.kind 0 10;rw[decide_eq_false h]at dU;refine bZ kc pU p9 fun aT=>?_;unfold oL;clear aT;exact cH
theorem TR(g:Gm)(h:0<=g.kind/\g.kind<=10)(gC:¬g.kind=9)(aU:g.name.isEmpty=false):ca aP 28 [g.e] (.bool false):=by
 have dU:=dH g.kind 0 10;rw[decide_eq_true h]at dU;have Ct:(g.kind !=9)=true:=by simpa using gC
 refine bZ kc pU p9 fun aT=>?_;unfold oL;clear aT;exact cH
theorem TS(g:Gm)(h:0<=g.kind/\g.kind<=10)(aU:g.kind≠9->g.name.isEmpty=true)(au:g.ts.all aZ.fits=false):ca aP 28 [g.e] (.bool false):=by
 have dU:=dH g.kind 0 10;rw[decide_eq_true h]at dU;have e0:=Fk g.ts;rw[au]at e0;by_cases gC:g.kind=9
 ·have Ct:(g.kind !=9)=false:=by simpa using gC
  refine bZ kc pU p9 fun aT=>?_;unfold oL;clear aT;simp;((with_reducible repeat' first|refine aK ?_|refine bq dU ?_|refine br dU ?_|refine bq e0 ?_|refine br e0 ?_|simp[Ct]|((first|apply dY|apply ed|apply ec)<;>intro h<;>try simp at h))<;>(try exact eM));simp[cC,vV,bd,bo,a6]
 ·have Ct:(g.kind !=9)=true:=by simpa using gC
  have gT:=aU gC;refine bZ kc pU p9 fun aT=>?_;unfold oL;clear aT;exact cH
set_option maxRecDepth 8000 in
theorem TO(g:Gm)(h:0<=g.kind/\g.kind<=10)(aU:g.kind≠9->g.name.isEmpty=true)(au:g.ts.all aZ.fits=true)(hB:¬hdS g):ca aP 28 [g.e] (.bool false):=by
 have dU:=dH g.kind 0 10;rw[decide_eq_true h]at dU;have e0:=Fk g.ts;rw[au]at e0;have mw:g.kind=0\/g.kind=1\/g.kind=2\/g.kind=3\/g.kind=4\/g.kind=5\/g.kind=6\/g.kind=7\/g.kind=8\/g.kind=9\/g.kind=10:=Ω
 have gT:g.kind≠9->g.name.isEmpty=true:=aU;have tJ:∀l:List Gm,decide ((0:Int)<l.length)= !l.isEmpty:=fun l=>by cases l<;>simp
 clear h au aU;have zq:¬((g.ts.length:Int)=sS g.kind g.ts.length/\g.ts.length<=4/\(g.kind<7->g.gs=[])/\g.gs.length<=8):=hB;clear hB;by_cases gC:g.kind=9
 ·rw[gC]at zq dU;simp[sS]at zq;clear mw gT;refine bZ kc pU p9 fun aT=>?_;unfold oL;clear aT;simp;simp[gC];((with_reducible repeat' first|refine aK ?_|refine bq dU ?_|refine br dU ?_|refine bq e0 ?_|refine br e0 ?_|simp[gC,tJ]|((first|apply dY|apply ed|apply ec)<;>intro h<;>try simp at h))<;>(try exact eM));all_goals first|(simp[cC,vV,bd,bo,a6];done)|(exfalso;clear dU e0;simp_all;done)|(exfalso;clear dU e0;simp_all;omega)|(exfalso;clear dU e0;grind)
 have mw:g.kind=0\/g.kind=1\/g.kind=2\/g.kind=3\/g.kind=4\/g.kind=5\/g.kind=6\/g.kind=7\/g.kind=8\/g.kind=10:=Ω
 rcases mw with J|J|J|J|J|J|J|J|J|J;all_goals
  rw[J]at zq
  simp[sS,kB]at zq
  have fL:=gT Ω
  rw[J]at dU
  refine bZ kc pU p9 fun aT=>?_;unfold oL
  clear aT
  simp
  simp[J]
  ((with_reducible repeat' first|refine aK ?_|refine bq dU ?_|refine br dU ?_|refine bq e0 ?_|refine br e0 ?_|simp[J,fL,tJ]|((first|apply dY|apply ed|apply ec)<;>intro h<;>try simp at h))<;>(try exact eM))
  all_goals first|(simp[cC,vV,bd,bo,a6];done)|(exfalso;clear dU e0;simp_all;done)|(exfalso;clear dU e0;simp_all;omega)|(exfalso;clear dU e0;grind)
def hS(g:Gm)(i:Nat)(_:Unit):aM:=⟨[(1,.ptr (.loc 0) 0),(61,.slice 4 .no (g.gs.map Gm.e)),(62,.int .i64 g.gs.length),(63,.int .i64 i)],[(.loc 0,[.int .i64 g.kind,.str g.name,.slice 4 .no (g.ts.map enc),.slice 4 .no (g.gs.map Gm.e)])],[],2,[]⟩
set_option maxRecDepth 8000 in
theorem TQ(g:Gm)(h:0<=g.kind/\g.kind<=10)(aU:g.kind≠9->g.name.isEmpty=true)(au:g.ts.all aZ.fits=true)(hB:hdS g)(a8:∀x∈g.gs,ca aP 28 [x.e] (.bool x.shape)):ca aP 28 [g.e] (.bool (g.gs.all Gm.shape&&pE g)):=by
 have dU:=dH g.kind 0 10;rw[decide_eq_true h]at dU;have e0:=Fk g.ts;rw[au]at e0;have mw:g.kind=0\/g.kind=1\/g.kind=2\/g.kind=3\/g.kind=4\/g.kind=5\/g.kind=6\/g.kind=7\/g.kind=8\/g.kind=9\/g.kind=10:=Ω
 have gT:g.kind≠9->g.name.isEmpty=true:=aU;have tJ:∀l:List Gm,decide ((0:Int)<l.length)= !l.isEmpty:=fun l=>by cases l<;>simp
 clear h au aU;obtain⟨bO,bU,fj,BD⟩:=hB;have yN:¬(4:Int)<g.ts.length:=Ω
 have yO:¬(8:Int)<g.gs.length:=Ω
 generalize bI:(g.gs.all Gm.shape&&pE g)=R;have Qn:g.gs.length<=1000000:=Ω
 by_cases gC:g.kind=9
 ·rw[gC]at dU;clear mw gT;refine bZ kc pU p9 fun aT=>?_;unfold oL;clear aT;simp;simp[gC];(with_reducible repeat' first|refine aK ?_|refine bq dU ?_|refine br dU ?_|refine bq e0 ?_|refine br e0 ?_|simp[gC,tJ,yN,yO]);refine iy (hS g) g.gs.length (mB Gm.shape g.gs) () (by simp[hS,gC];exact dQ) (fun k b J=>Ω) (fun _ av _=>?_) (fun i _ aD av _=>?_);rotate_left
  ·obtain⟨y,bs,gO⟩:=h0 aD;have ky:=a8 y (gL bs);have cU:bk ((i:Int)+1):=by unfold bk;omega
   cases fw:y.shape
   ·have iz:R=false:=by rw[<-bI,uE bs fw];rfl
    subst iz;rw[fw]at ky;clear bI av a8;simp[hS,gC,aD,gO];exact cH
   ·have kp:=av.step bs fw;rw[fw]at ky;clear bI av a8;simp[hS,gC,aD,gO];(with_reducible repeat' first|refine aK ?_|refine bq ky ?_|refine br ky ?_|simp[aD,gO,cU]);refine cQ.rng () aD kp (by simp[hS,gC];exact dQ)
  have iz:R=(g.gs.isEmpty&&h6 g.name):=by rw[<-bI,av.fin];simp[pE,gC]
  subst iz;clear bI av a8;have vv:=UJ g.name;cases eZ:g.gs.isEmpty
  ·have Rm:((g.gs.length:Int)==0)=false:=by rw[Ad,eZ]
   simp[hS,gC];have Jw:=vv;exact cH
  ·have Rm:((g.gs.length:Int)==0)=true:=by rw[Ad,eZ]
   simp[hS,gC];have Jw:=vv;exact cH
 have fL:=gT gC;have F0:g.kind<7->¬0<g.gs.length:=fun h=>by rw[fj h];simp
 clear fj gT;by_cases cq:g.kind=6
 ·rw[cq]at bO dU;simp only[sS,kB,Int.reduceEq,reduceIte]at bO;have fj:=F0 Ω;refine bZ kc pU p9 fun aT=>?_;unfold oL;clear aT;simp;simp[cq];(with_reducible repeat' first|refine aK ?_|refine bq dU ?_|refine br dU ?_|refine bq e0 ?_|refine br e0 ?_|simp[cq,fL,tJ,bO,fj,yN,yO]);refine iy (hS g) g.gs.length (mB Gm.shape g.gs) () (by simp[hS,cq];exact dQ) (fun k b J=>Ω) (fun _ av _=>?_) (fun i _ aD av _=>?_);rotate_left
  ·obtain⟨y,bs,gO⟩:=h0 aD;have ky:=a8 y (gL bs);have cU:bk ((i:Int)+1):=by unfold bk;omega
   cases fw:y.shape
   ·have iz:R=false:=by rw[<-bI,uE bs fw];rfl
    subst iz;rw[fw]at ky;clear bI av a8;simp[hS,cq,aD,gO];exact cH
   ·have kp:=av.step bs fw;rw[fw]at ky;clear bI av a8;simp[hS,cq,aD,gO];(with_reducible repeat' first|refine aK ?_|refine bq ky ?_|refine br ky ?_|simp[aD,gO,cU]);refine cQ.rng () aD kp (by simp[hS,cq];exact dQ)
  obtain⟨x,y,e⟩:∃x y,g.ts=[x,y]:=Lx Ω;have iz:R=decide (x.kind=2):=by rw[<-bI,av.fin];simp[pE,cq,e]
  subst iz;clear bI av a8;simp[hS,cq,e];(with_reducible repeat' first|refine aK ?_|simp[cq]);simp[cC,vV,bd,bo,a6];rfl
 by_cases e5:g.kind=10
 ·rw[e5]at bO dU;simp only[sS,kB,Int.reduceEq,reduceIte]at bO;refine bZ kc pU p9 fun aT=>?_;unfold oL;clear aT;simp;simp[e5];(with_reducible repeat' first|refine aK ?_|refine bq dU ?_|refine br dU ?_|refine bq e0 ?_|refine br e0 ?_|simp[e5,fL,tJ,bO,yN,yO]);refine iy (hS g) g.gs.length (mB Gm.shape g.gs) () (by simp[hS,e5];exact dQ) (fun k b J=>Ω) (fun _ av _=>?_) (fun i _ aD av _=>?_);rotate_left
  ·obtain⟨y,bs,gO⟩:=h0 aD;have ky:=a8 y (gL bs);have cU:bk ((i:Int)+1):=by unfold bk;omega
   cases fw:y.shape
   ·have iz:R=false:=by rw[<-bI,uE bs fw];rfl
    subst iz;rw[fw]at ky;clear bI av a8;simp[hS,e5,aD,gO];exact cH
   ·have kp:=av.step bs fw;rw[fw]at ky;clear bI av a8;simp[hS,e5,aD,gO];(with_reducible repeat' first|refine aK ?_|refine bq ky ?_|refine br ky ?_|simp[aD,gO,cU]);refine cQ.rng () aD kp (by simp[hS,e5];exact dQ)
  by_cases ln:g.gs.length=1
  ·obtain⟨x,e⟩:=List.length_eq_one_iff.1 ln;have iz:R=decide (x.kind=9):=by rw[<-bI,av.fin];simp[pE,e5,e]
   subst iz;clear bI av a8;simp[hS,e5,e];(with_reducible repeat' first|refine aK ?_|simp[e5]);simp[cC,vV,bd,bo,a6];rfl
  ·have iz:R=false:=by
    rw[<-bI,av.fin];simp[pE,e5];split
    ·rename_i x ad;rw[ad]at ln;simp at ln
    ·rfl
   subst iz;have WS:((g.gs.length:Int)==1)=false:=beq_eq_false_iff_ne.2 Ω;clear bI av a8;simp[hS,e5];exact cH
 have mw:g.kind=0\/g.kind=1\/g.kind=2\/g.kind=3\/g.kind=4\/g.kind=5\/g.kind=7\/g.kind=8:=Ω
 rcases mw with J|J|J|J|J|J|J|J;all_goals
  rw[J]at bO dU
  simp only[sS,kB,Int.reduceEq,reduceIte]at bO
  have fj:=F0
  simp only[J,Int.reduceLT,forall_const,false_imp_iff]at fj
  refine bZ kc pU p9 fun aT=>?_;unfold oL
  clear aT
  simp
  simp[J]
  (with_reducible repeat' first|refine aK ?_|refine bq dU ?_|refine br dU ?_|refine bq e0 ?_|refine br e0 ?_|simp[J,fL,tJ,bO,fj,yN,yO])
  refine iy (hS g) g.gs.length (mB Gm.shape g.gs) () (by simp[hS,J];exact dQ) (fun k b J=>Ω) (fun _ av _=>?_) (fun i _ aD av _=>?_)
  rotate_left
  ·obtain⟨y,bs,gO⟩:=h0 aD
   have ky:=a8 y (gL bs)
   have cU:bk ((i:Int)+1):=by unfold bk;omega
   cases fw:y.shape
   ·have iz:R=false:=by rw[<-bI,uE bs fw];rfl
    subst iz
    rw[fw]at ky
    clear bI av a8
    simp[hS,J,aD,gO]
    exact cH
   ·have kp:=av.step bs fw
    rw[fw]at ky
    clear bI av a8
    simp[hS,J,aD,gO]
    (with_reducible repeat' first|refine aK ?_|refine bq ky ?_|refine br ky ?_|simp[aD,gO,cU])
    refine cQ.rng () aD kp (by simp[hS,J];exact dQ)
  have iz:R=true:=by rw[<-bI,av.fin];simp[pE,J]
  subst iz
  clear bI av a8
  simp[hS,J]
  exact cH
end
end Go.Proofs.YtlnndmgfngfeiaaDoor

namespace Go.Proofs.YtlnndmgfngfeiaaDoor
section
open Go Go.Pv
theorem UD:∀(n:Nat) (g:Gm),g.sz<=n->ca aP 28 [g.e] (.bool g.shape):=by
 intro n;induction n with
 |zero=>intro g aL;have:=g.sz_pos;omega
 |succ n a8=>
 intro g aL;have no:∀h:¬((0<=g.kind/\g.kind<=10)/\(g.kind≠9->g.name=[])/\g.ts.all aZ.fits=true/\hdS g/\g.gs.all Gm.shape=true/\pE g=true),g.shape=false:=fun h=>by
  cases ao:g.shape with
  |false=>rfl
  |true=>exact absurd ((K7 g).1 ao) h
 by_cases I:0<=g.kind/\g.kind<=10;rotate_left
 ·rw[no fun h=>I h.1];exact TP g I
 by_cases aa:g.kind≠9->g.name=[];rotate_left
 ·rw[no fun h=>aa h.2.1];rw[Classical.not_imp]at aa;exact TR g I aa.1 (by simpa using aa.2)
 have qC:g.kind≠9->g.name.isEmpty=true:=fun h=>by simpa using aa h
 cases ak:g.ts.all aZ.fits
 ·rw[no fun h=>by rw[ak]at h;cases h.2.2.1];exact TS g I qC ak
 by_cases aJ:hdS g;rotate_left
 ·rw[no fun h=>aJ h.2.2.2.1];exact TO g I qC ak aJ
 have aB:=TQ g I qC ak aJ fun x ad=>a8 x (by have:=g.gs_lt ad;omega);have he:(g.gs.all Gm.shape&&pE g)=g.shape:=by rw[Bool.eq_iff_iff,bD,K7];exact⟨fun h=>⟨I,aa,ak,aJ,h.1,h.2⟩,fun h=>⟨h.2.2.2.2.1,h.2.2.2.2.2⟩⟩
 rwa[he]at aB
theorem UI(g:Gm):ca aP 11 [g.e] (.bool (g.fits 80)):=by
 have z6:=UC g.sz g (cx _) 80 Ω Ω;have pg:=UD g.sz g (cx _);have aA:=(GU g 80 Ω).1;by_cases h:g.sz<=80
 ·have I:jG g 80<=80:=aA.2 Ω;have aH:g.fits 80=g.shape:=by unfold Gm.fits;rw[decide_eq_true h,Bool.and_true]
  rw[aH];refine bZ kc Hq Kb fun aT=>?_;unfold BN;clear aT;simp;((with_reducible repeat' first|refine aK ?_|refine bq z6 ?_|refine br z6 ?_|refine bq pg ?_|refine br pg ?_|simp[I]|((first|apply dY|apply ed|apply ec)<;>intro h<;>try simp at h))<;>(try exact eM));simp[cC,El,bd,bo,a6]
 ·have I:¬jG g 80<=80:=fun cD=>h (by have:=aA.1 cD;omega);have aH:g.fits 80=false:=by unfold Gm.fits;rw[decide_eq_false h,Bool.and_false]
  rw[aH];refine bZ kc Hq Kb fun aT=>?_;unfold BN;clear aT;simp;((with_reducible repeat' first|refine aK ?_|refine bq z6 ?_|refine br z6 ?_|refine bq pg ?_|refine br pg ?_|simp[I]|((first|apply dY|apply ed|apply ec)<;>intro h<;>try simp at h))<;>(try exact eM));simp[cC,El,bd,bo,a6]
def o1:List (List az):=[gX,hG,wz,wy,rC,rA,rv,ry,rB,[],rz]
theorem Qd:dw o1=[.str [116,114,117,101],.str [102,97,105,108],.str [61],.str [47,61],.str [115,121,109,98,111,108],.str [110,117,109,98,101,114],.str [97,98,115,101,110,116],.str [97,110,100],.str [111,114],.str [],.str [110,111,116]]:=rfl
theorem UE:ca aP 25 [] (.slice 1 .no (dw o1)):=by rw[Qd];refine bZ kc O7 SP fun aT=>?_;unfold GF;clear aT;exact cH
end
end Go.Proofs.YtlnndmgfngfeiaaDoor
namespace Go.Pv
section
open Go Go.Lib
def kN:Gm:= .mk 0 [] [] []
def Mw(es:List Ey)(P:List oJ):Prop:= ∀(s:List az) (r:oJ),P.find? (fun r=>r.name==s)=some r->∃(k:Nat) (f:Ey),Hc es s=(k:Nat)/\es[k]? =some f/\f.ar=r.ar
section
variable {c:Cd} {P:List oJ} {e:Ey} {uO:Int} (aA:Mw c.es P)
include aA
end
end
end Go.Pv
namespace Go.Proofs.YtlnndmgfngfeiaaDoor
section
open Go Go.Pv
theorem ly:jU ⟨[],[]⟩:=⟨⟨fun _=>rfl,fun _=>rfl⟩,fun k cs h=>by simp[Pv.look]at h,fun k cs h=>by simp[Pv.look]at h⟩
def wI(l:List (List az))(o:aR (Gm×List (List az)))(r:ab)(aj:df):Prop:=aj=⟨[],[]⟩/\match o with
 |some (g,rest)=>r= .tuple [g.e,.int .i64 (l.length-rest.length:Nat),.bool true]
 |none=> ∃(g:Gm) (k:Int),r= .tuple [g.e,.int .i64 k,.bool false]
theorem eQ.rd{cz:List cG}{e:Exit}{st:aM}(l:List (List az))(o:aR (Gm×List (List az)))(x:ab)(k:Int)(b:Bool)(iA:e= .ret\/e= .normal)(n4:wI l o (.tuple [x,.int .i64 k,.bool b]) ⟨[],[]⟩)(J:kin (fun _=>cv) x)(h:fG st cz fun r=>r= .tuple [x,.int .i64 k,.bool b]):eQ cz ⟨[],[]⟩ (wI l o) e st:=by
 refine eQ.at ⟨[],[]⟩ iA ly (Same.refl _) (fun k cs h=>by simp[Pv.look]at h) (fun k cs h=>by simp[Pv.look]at h) ?_;unfold fG at h⊢;split at h
 ·rename_i c aX hr;refine⟨h.1,?_⟩;rw[h.2];refine⟨?_,n4⟩;simp only[kin,kinL,and_true];exact mC (fun _ h=>h.elim) _ J
 ·exact h.elim
theorem mi{l:List (List az)}{g:Gm}{x:ab}(h:x=g.e)(k:Int):wI l none (.tuple [x,.int .i64 k,.bool false]) ⟨[],[]⟩:=⟨rfl,g,k,by rw[h]⟩
theorem uD{l rest:List (List az)}{g:Gm}{x:ab}(h:x=g.e){k:Int}(J:k=(l.length-rest.length:Nat)):wI l (some (g,rest)) (.tuple [x,.int .i64 k,.bool true]) ⟨[],[]⟩:=⟨rfl,by rw[h,J]⟩
@[simp]theorem W9(a b c d:ab):Pv.isAgg 4 (.agg [a,b,c,d]):=⟨_,rfl,rfl⟩
theorem na:kN.e= .agg [.int .i64 0,.str [],.slice 4 .no [],.slice 4 .no []]:=by rw[Gm.e_eq];rfl
theorem oU(k:Int)(s:List az)(ts:List T)(gs:List Gm):(Gm.mk k s (ts.map T.tm) gs).e= .agg [.int .i64 k,.str s,.slice 4 .no (ts.map T.e),.slice 4 .no (gs.map Gm.e)]:=by rw[Gm.e_eq];simp only[Gm.kind,Gm.name,Gm.ts,Gm.gs,List.map_map];rw[show ts.map (enc∘T.tm)=ts.map T.e from List.map_congr_left fun t _=>tp t]
def kq(h:List az):Nat->Int×List az
 |0=>(9,h)
 |i+1=>if o1[i]? =some h then((i:Int),[])else kq h i
theorem Qa{h:List az}(b5:h≠[]):Go.Pv.hdS h=some (kq h 11):=by
 unfold Go.Pv.hdS lW;by_cases a0:h=gX
 ·subst a0;rfl
 by_cases bt:h=hG
 ·subst bt;rfl
 by_cases a2:h=wz
 ·subst a2;rfl
 by_cases a3:h=wy
 ·subst a3;rfl
 by_cases a4:h=rC
 ·subst a4;rfl
 by_cases a5:h=rA
 ·subst a5;rfl
 by_cases yL:h=rv
 ·subst yL;rfl
 by_cases lJ:h=ry
 ·subst lJ;rfl
 by_cases Bx:h=rB
 ·subst Bx;rfl
 by_cases a9:h=rz
 ·subst a9;rfl
 rw[bh a0,bh bt,bh a2,bh a3,bh a4,bh a5,bh yL,bh lJ,bh Bx,bh a9];have key:∀i,i<=11->kq h i=(9,h):=by
  intro i;induction i with
  |zero=>intro _;rfl
  |succ i a8=>
   intro aD;unfold kq;rw[bh fun e=>?_]
   ·exact a8 Ω
   ·have:=gL e;simp[o1,a0,bt,a2,a3,a4,a5,yL,lJ,Bx,a9,b5]at this
 rw[key 11 Ω]
theorem Im(h:List az):∀i,i<=11->0<=(kq h i).1/\(kq h i).1<=10
 |0,_=>by simp[kq]
 |i+1,aD=>by
  unfold kq;split
  ·simp only;omega
  ·exact Im h i Ω
def ga(k:Int)(s:List az)(x y:ab):List (aq×List ab):=[(.loc 0,[.int .i64 0,.str [],.slice 4 .nil [],.slice 4 .nil []]),(.loc 1,[.int .i64 k,.str s,x,y])]
def s5(l:List (List az))(h:List az)(i:Nat)(j:Nat)(_:Unit):aM:=⟨[(0,.slice 1 .no (dw l)),(1,.int .i64 i),(4,.ptr (.loc 0) 0),(7,.ptr (.loc 1) 0),(63,.slice 1 .no (dw o1)),(64,.int .i64 11),(65,.int .i64 j)],ga (kq h j).1 (kq h j).2 (.slice 4 .nil []) (.slice 4 .nil []),[],2,[]⟩
def nO(l:List (List az))(dh:Int)(s:List az):List Gm×Nat×Nat->aM
 |([],j,_)=>⟨[(0,.slice 1 .no (dw l)),(1,.int .i64 j),(4,.ptr (.loc 0) 0),(7,.ptr (.loc 1) 0)],ga dh s (.slice 4 .nil []) (.slice 4 .nil []),[],2,[]⟩
 |(x::xs,j,_)=>⟨[(0,.slice 1 .no (dw l)),(1,.int .i64 j),(4,.ptr (.loc 0) 0),(7,.ptr (.loc 1) 0)],ga dh s (.slice 4 .nil []) (.slice 4 (.own (.loc 4)) (x.e::xs.map Gm.e)),[(.loc 4,⟨xs.length+1,25,4,none⟩)],5,[]⟩
def mj(l:List (List az))(dh:Int)(s:List az):List T×Nat×Nat->aM
 |([],j,_)=>⟨[(0,.slice 1 .no (dw l)),(1,.int .i64 j),(4,.ptr (.loc 0) 0),(7,.ptr (.loc 1) 0)],ga dh s (.slice 4 .nil []) (.slice 4 .nil []),[],2,[]⟩
 |(x::xs,j,_)=>⟨[(0,.slice 1 .no (dw l)),(1,.int .i64 j),(4,.ptr (.loc 0) 0),(7,.ptr (.loc 1) 0)],ga dh s (.slice 4 (.own (.loc 4)) (x.e::xs.map T.e)) (.slice 4 .nil []),[(.loc 4,⟨xs.length+1,51,4,none⟩)],5,[]⟩
set_option maxRecDepth 8000 in
theorem Ps(l:List (List az))(aB:l.length<=100000)(hw:∀w∈l,w≠[]):∀n i:Nat,i<=l.length->2*(l.length-i)+1<=n->c8 aP 10 [.slice 1 .no (dw l),.int .i64 i] ⟨[],[]⟩ (wI l (ek hF Go.Pv.hdS n (l.drop i))):=by
 intro n;induction n using Nat.strongRecOn with
 |_ n a8=>
 intro i kV aU;obtain⟨n,rfl⟩:∃m,n=m+1:=⟨n-1,Ω⟩;have cU:bk ((i:Int)+1):=by unfold bk;omega
 rcases jB kV with rfl|aD
 ·have e:ek hF Go.Pv.hdS (n+1) (l.drop l.length)=none:=by rw[mb];simp[ek]
  rw[e];clear a8;have j1:(l.length:Int)<=(l.length:Int)+1:=Ω
  have ao:=ly;refine c8.mk mixed fq tu ue Ψ ao.obj fun aT dG=>?_;unfold rP;clear aT dG;simp;(with_reducible repeat' first|refine aK ?_|simp[cU,j1]);refine eQ.rd l _ (.agg [.int .i64 0,.str [],.slice 4 .no [],.slice 4 .no []]) 0 false Ψ (mi na.symm 0) (by simp[kin,kinL]) ?_;simp[fG,jy,bd,bo,a6]
 obtain⟨w,ad⟩:∃v,l[i]? =some v:=⟨_,eo aD⟩;have gu:∀eZ,((dw l)[i]'eZ)= .str w:=fun eZ=>by rw[qf aD];rw[eo aD]at ad;rw[iL ad]
 have b4:(i:Int)<l.length:=Ω
 rw[fY ad];by_cases au:w=gX
 ·subst au;have e:ek hF Go.Pv.hdS (n+1) (gX::l.drop (i+1))=some (.mk 0 [] [] [],l.drop (i+1)):=by simp[ek]
  rw[e];unfold gX at gu ad;clear a8;have ao:=ly;refine c8.mk mixed fq tu ue Ψ ao.obj fun aT dG=>?_;unfold rP;clear aT dG;simp;(with_reducible repeat' first|refine aK ?_|simp[cU,aD,b4,gu,ad]);refine eQ.rd l _ (.agg [.int .i64 0,.str [],.slice 4 .no [],.slice 4 .no []]) ((i:Int)+1) true Ψ (uD na.symm (by rw[lb];omega)) (by simp[kin,kinL]) ?_;simp[fG,jy,bd,bo,a6]
 have vJ:(w==[116,114,117,101])=false:=vH au;by_cases aH:w=hG
 ·subst aH;have e:ek hF Go.Pv.hdS (n+1) (hG::l.drop (i+1))=some (.mk 1 [] [] [],l.drop (i+1)):=by simp[ek,au]
  rw[e];unfold hG at gu ad vJ;clear a8;have ao:=ly;refine c8.mk mixed fq tu ue Ψ ao.obj fun aT dG=>?_;unfold rP;clear aT dG;simp;(with_reducible repeat' first|refine aK ?_|simp[cU,aD,b4,gu,ad]);refine eQ.rd l _ (.agg [.int .i64 1,.str [],.slice 4 .no [],.slice 4 .no []]) ((i:Int)+1) true Ψ (uD (oU 1 [] [] []).symm (by rw[lb];omega)) (by simp[kin,kinL]) ?_;simp[fG,jy,bd,bo,a6]
 have x0:(w==[102,97,105,108])=false:=vH aH;by_cases r3:w=[40];rotate_left
 ·have vF:=ub r3;have e:ek hF Go.Pv.hdS (n+1) (w::l.drop (i+1))=none:=by simp[ek,au,aH,r3]
  rw[e];clear a8;by_cases j1:(l.length:Int)<=(i:Int)+1
  ·have ao:=ly;refine c8.mk mixed fq tu ue Ψ ao.obj fun aT dG=>?_;unfold rP;clear aT dG;simp;(with_reducible repeat' first|refine aK ?_|simp[cU,aD,b4,gu,ad,vJ,x0,j1]);refine eQ.rd l _ (.agg [.int .i64 0,.str [],.slice 4 .no [],.slice 4 .no []]) 0 false Ψ (mi na.symm 0) (by simp[kin,kinL]) ?_;simp[fG,jy,bd,bo,a6]
  ·have ao:=ly;refine c8.mk mixed fq tu ue Ψ ao.obj fun aT dG=>?_;unfold rP;clear aT dG;simp;((with_reducible repeat' first|refine aK ?_|simp[cU,aD,b4,gu,ad,vJ,x0,j1,vF]|((first|apply dY|apply ed|apply ec)<;>intro h<;>try simp at h))<;>(try exact eM));refine eQ.rd l _ (.agg [.int .i64 0,.str [],.slice 4 .no [],.slice 4 .no []]) 0 false Ψ (mi na.symm 0) (by simp[kin,kinL]) ?_;simp[fG,jy,bd,bo,a6]
 subst r3;rcases jB (show i+1<=l.length from aD)with I|I
 ·have e:ek hF Go.Pv.hdS (n+1) ([40]::l.drop (i+1))=none:=by rw[I,mb];simp[ek,au,aH]
  rw[e];have j1:(l.length:Int)<=(i:Int)+1:=Ω
  clear a8;have ao:=ly;refine c8.mk mixed fq tu ue Ψ ao.obj fun aT dG=>?_;unfold rP;clear aT dG;simp;(with_reducible repeat' first|refine aK ?_|simp[cU,aD,b4,gu,ad,vJ,x0,j1]);refine eQ.rd l _ (.agg [.int .i64 0,.str [],.slice 4 .no [],.slice 4 .no []]) 0 false Ψ (mi na.symm 0) (by simp[kin,kinL]) ?_;simp[fG,jy,bd,bo,a6]
 obtain⟨h,bn⟩:∃v,l[i+1]? =some v:=⟨_,eo I⟩;have zC:∀eZ,((dw l)[i+1]'eZ)= .str h:=fun eZ=>by rw[qf I];rw[eo I]at bn;rw[iL bn]
 have b5:=hw h (gL bn);have j1:¬(l.length:Int)<=(i:Int)+1:=Ω
 have lp:(0:Int)<=(i:Int)+1:=Ω
 have xp:(i:Int)+1<l.length:=Ω
 have jK:((i:Int)+1).toNat=i+1:=Ω
 have H9:bk ((i:Int)+2):=by unfold bk;omega
 have C5:=Im h;obtain⟨O,Cw⟩:∃O,O=ek hF Go.Pv.hdS (n+1) ([40]::l.drop (i+1)):=⟨_,rfl⟩;rw[<-Cw];have tB:dJ hF Go.Pv.hdS n (kq h 11).1 (kq h 11).2 [] [] (l.drop (i+2))=O:=by rw[Cw,fY bn];simp only[ek];rw[bh (by decide),bh (by decide),if_pos trivial,Qa b5]
 have z7:=UE;clear Cw;have ao:=ly;refine c8.mk mixed fq tu ue Ψ ao.obj fun aT dG=>?_;unfold rP;clear aT dG;simp;(with_reducible repeat' first|refine aK ?_|refine bq z7 ?_|refine br z7 ?_|simp[cU,aD,b4,gu,ad,vJ,x0,j1,lp,xp,jK,zC,bn,I]);refine iy (s5 l h i) 11 (fun _ _=>True) () (by simp[s5,ga,kq,o1,lp];exact⟨by simp[fresh,kinL,kin,cA,aI,Pv.look,dB],fh (by simp[fresh,kinL,kin,cA,aI,Pv.look,dB]),fi (by simp[fresh,kinL,kin,eD,aI,Pv.look,dB]),Ψ⟩) trivial (fun _ _ _=>?_) (fun j _ av _ _=>?_);rotate_left
 ·obtain⟨u,hu⟩:∃u,o1[j]? =some u:=⟨_,eo av⟩;have jL:j<o1.length:=av;have oa:∀h,((dw o1)[j]'h)= .str u:=fun h=>by rw[qf jL];rw[eo jL]at hu;rw[iL hu]
  have gD:bk ((j:Int)+1):=by unfold bk;omega
  have eR:j<(dw o1).length:=av;have p2:kq h (j+1)=if u=h then((j:Int),[])else kq h j:=by show(if o1[j]? =some h then((j:Int),[])else kq h j)=_;rw[hu];simp only[dp]
  clear a8 tB C5 z7;by_cases he:u=h
  ·subst he;rw[if_pos rfl]at p2;simp[s5,ga,av];((with_reducible repeat' first|refine aK ?_|simp[av,oa,hu,jL,eR,cU,lp,xp,jK,zC,bn,I,gD]|((first|apply dY|apply ed|apply ec)<;>intro h<;>try simp at h))<;>(try exact eM));refine cQ.rng () av trivial (by simp[s5,ga,p2];exact⟨by simp[fresh,kinL,kin,cA,aI,Pv.look,dB],fh (by simp[fresh,kinL,kin,cA,aI,Pv.look,dB]),fi (by simp[fresh,kinL,kin,eD,aI,Pv.look,dB]),Ψ⟩)
  ·rw[bh he]at p2;have af:=vH he;simp[s5,ga,av];((with_reducible repeat' first|refine aK ?_|simp[av,oa,hu,jL,eR,cU,lp,xp,jK,zC,bn,I,gD,af]|((first|apply dY|apply ed|apply ec)<;>intro h<;>try simp at h))<;>(try exact eM));refine cQ.rng () av trivial (by simp[s5,ga,p2];exact⟨by simp[fresh,kinL,kin,cA,aI,Pv.look,dB],fh (by simp[fresh,kinL,kin,cA,aI,Pv.look,dB]),fi (by simp[fresh,kinL,kin,eD,aI,Pv.look,dB]),Ψ⟩)
 obtain⟨AL,eF⟩:=C5 11 Ω;have mu:((i+2:Nat):Int)=(i:Int)+2:=Ω
 clear z7 C5 gu ad zC bn j1 lp xp jK cU vJ x0 au aH b4;simp[s5,ga];generalize (kq h 11).1=dh at tB AL eF⊢;generalize (kq h 11).2=gj at tB⊢;cases my:iY dh
 ·have zH:(dh==7)=false:=by simp[iY]at my;exact beq_eq_false_iff_ne.2 my.1.1
  have zI:(dh==8)=false:=by simp[iY]at my;exact beq_eq_false_iff_ne.2 my.1.2
  have lq:(dh==10)=false:=by simp[iY]at my;exact beq_eq_false_iff_ne.2 my.2
  (with_reducible repeat' first|refine aK ?_|simp[H9]);refine jI (mj l dh gj) (fun x=>l.length-x.2.1) (fun x=>x.2.1<=l.length/\2*(l.length-x.2.1)+2<=x.2.2/\x.2.2<=n/\dJ hF Go.Pv.hdS x.2.2 dh gj x.1 [] (l.drop x.2.1)=O/\x.1.length<=x.2.1) ([],i+2,n) (by simp[mj,ga,mu];exact dQ) ⟨by simp;omega,by simp;omega,cx _,tB,Ψ⟩ ?_;rintro⟨acc,j,k⟩ ⟨av,J,tH,cY,h3⟩ _;simp only at av J tH cY h3;clear tB a8;obtain⟨k,rfl⟩:∃m,k=m+1:=⟨k-1,Ω⟩;have lk:acc.length+1<=b0:=by unfold b0;omega
  rcases jB av with rfl|eR
  ·rw[mb]at cY;simp only[dJ]at cY;subst cY;have gD:bk ((l.length:Int)+1):=by unfold bk;omega
   cases acc with
   |nil=>simp[mj,ga];(with_reducible repeat' first|refine aK ?_|simp[gD]);refine eQ.rd l _ (.agg [.int .i64 dh,.str gj,.slice 4 .no [],.slice 4 .no []]) ((l.length:Int)+1) false Ψ (mi (oU dh gj [] []).symm _) (by simp[kin,kinL]) ?_;simp[fG,jy,bd,bo,a6]
   |cons a fl=>simp[mj,ga];(with_reducible repeat' first|refine aK ?_|simp[gD]);refine eQ.rd l _ (.agg [.int .i64 dh,.str gj,.slice 4 .no ((a::fl).map T.e),.slice 4 .no []]) ((l.length:Int)+1) false Ψ (mi (oU dh gj (a::fl) []).symm _) (by simp[kin,kinL]) ?_;simp[fG,jy,bd,bo,a6]
  obtain⟨v,aY⟩:∃v,l[j]? =some v:=⟨_,eo eR⟩;have fv:∀eZ,((dw l)[j]'eZ)= .str v:=fun eZ=>by rw[qf eR];rw[eo eR]at aY;rw[iL aY]
  have gD:bk ((j:Int)+1):=by unfold bk;omega
  have lY:(j:Int)<l.length:=Ω
  rw[fY aY]at cY;by_cases gq:v=[41]
  ·subst gq;simp only[dJ,if_true]at cY;have nf:((j:Int)+1)=((l.length-(l.drop (j+1)).length:Nat):Int):=by rw[lb];omega
   by_cases jl:1<dh
   ·rw[if_pos jl]at cY;subst cY;cases acc with
    |nil=>simp[mj,ga];(with_reducible repeat' first|refine aK ?_|simp[gD,eR,lY,fv,aY,jl]);refine eQ.rd l _ (.agg [.int .i64 dh,.str gj,.slice 4 .no [],.slice 4 .no []]) ((j:Int)+1) true Ψ (uD (oU dh gj [] []).symm nf) (by simp[kin,kinL]) ?_;simp[fG,jy,bd,bo,a6]
    |cons a fl=>simp[mj,ga];(with_reducible repeat' first|refine aK ?_|simp[gD,eR,lY,fv,aY,jl]);refine eQ.rd l _ (.agg [.int .i64 dh,.str gj,.slice 4 .no ((a::fl).map T.e),.slice 4 .no []]) ((j:Int)+1) true Ψ (uD (oU dh gj (a::fl) []).symm nf) (by simp[kin,kinL]) ?_;simp[fG,jy,bd,bo,a6]
   ·rw[bh jl]at cY;subst cY;cases acc with
    |nil=>simp[mj,ga];(with_reducible repeat' first|refine aK ?_|simp[gD,eR,lY,fv,aY,jl]);refine eQ.rd l _ (.agg [.int .i64 dh,.str gj,.slice 4 .no [],.slice 4 .no []]) ((j:Int)+1) false Ψ (mi (oU dh gj [] []).symm _) (by simp[kin,kinL]) ?_;simp[fG,jy,bd,bo,a6]
    |cons a fl=>simp[mj,ga];(with_reducible repeat' first|refine aK ?_|simp[gD,eR,lY,fv,aY,jl]);refine eQ.rd l _ (.agg [.int .i64 dh,.str gj,.slice 4 .no ((a::fl).map T.e),.slice 4 .no []]) ((j:Int)+1) false Ψ (mi (oU dh gj (a::fl) []).symm _) (by simp[kin,kinL]) ?_;simp[fG,jy,bd,bo,a6]
  have k2:=ub gq;have cT:=UB l aB hw (2*(l.length-j)+1) j Ω (cx _);have eC:rd gz (2*(l.length-j)+1) (l.drop j)=hF (v::l.drop (j+1)):=by unfold hF;rw[<-fY aY,lb]
  rw[eC]at cT;simp only[dJ,bh gq,my,ib,if_false]at cY;cases dN:hF (v::l.drop (j+1))with
  |none=>
   rw[dN]at cT cY;simp only[ir]at cY cT;subst cY;generalize nx l j=q at cT;cases acc with
   |nil=>simp[mj,ga];((with_reducible repeat' first|refine aK ?_|refine bq cT ?_|refine br cT ?_|simp[gD,eR,lY,fv,aY,k2,zH,zI,lq]|((first|apply dY|apply ed|apply ec)<;>intro h<;>try simp at h))<;>(try exact eM));refine eQ.rd l _ (.agg [.int .i64 0,.str [],.slice 4 .no [],.slice 4 .no []]) 0 false Ψ (mi na.symm 0) (by simp[kin,kinL]) ?_;simp[fG,jy,bd,bo,a6]
   |cons a fl=>simp[mj,ga];((with_reducible repeat' first|refine aK ?_|refine bq cT ?_|refine br cT ?_|simp[gD,eR,lY,fv,aY,k2,zH,zI,lq]|((first|apply dY|apply ed|apply ec)<;>intro h<;>try simp at h))<;>(try exact eM));refine eQ.rd l _ (.agg [.int .i64 0,.str [],.slice 4 .no [],.slice 4 .no []]) 0 false Ψ (mi na.symm 0) (by simp[kin,kinL]) ?_;simp[fG,jy,bd,bo,a6]
  |some tr=>
   obtain⟨t,rest⟩:=tr;rw[dN]at cT cY;obtain⟨gh,n9⟩:=A3 (j:=j) (by rw[fY aY];exact(yB _ _ _ dN).1);have xF:=(yB _ _ _ dN).2;have IW:rest.length<l.length-j:=by simp at xF;omega
   obtain⟨p,aV⟩:∃p,p=l.length-rest.length:=⟨_,rfl⟩;simp only[ir,<-aV]at cT;simp only at cY;rw[<-aV]at gh;rw[gh]at cY;cases acc with
   |nil=>simp[mj,ga];((with_reducible repeat' first|refine aK ?_|refine bq cT ?_|refine br cT ?_|simp[gD,eR,lY,fv,aY,k2,zH,zI,lq]|((first|apply dY|apply ed|apply ec)<;>intro h<;>try simp at h))<;>(try exact eM));refine cQ.whl ([t],p,k) (by show l.length-p<l.length-j;omega) ⟨by show p<=l.length;omega,by show 2*(l.length-p)+2<=k;omega,by show k<=n;omega,cY,by simp;omega⟩ (by simp[mj,ga];exact⟨by simp[fresh,kinL,kin,cA,aI,Pv.look,c7],fh (by simp[fresh,kinL,kin,cA,aI,Pv.look,c7]),fi (by simp[fresh,kinL,kin,eD,aI,Pv.look,c7]),Ψ⟩)
   |cons a fl=>simp only[mc]at lk;simp[mj,ga];((with_reducible repeat' first|refine aK ?_|refine bq cT ?_|refine br cT ?_|simp[gD,eR,lY,fv,aY,k2,zH,zI,lq,lk]|((first|apply dY|apply ed|apply ec)<;>intro h<;>try simp at h))<;>(try exact eM));refine cQ.whl (a::(fl++[t]),p,k) (by show l.length-p<l.length-j;omega) ⟨by show p<=l.length;omega,by show 2*(l.length-p)+2<=k;omega,by show k<=n;omega,cY,by simp at h3⊢;omega⟩ (by simp[mj,ga];exact⟨by simp[fresh,kinL,kin,cA,aI,Pv.look,c7],fh (by simp[fresh,kinL,kin,cA,aI,Pv.look,c7]),fi (by simp[fresh,kinL,kin,eD,aI,Pv.look,c7]),Ψ⟩)
 ·have jl:1<dh:=by simp[iY]at my;omega
  have mw:dh=7\/dh=8\/dh=10:=by simp[iY]at my;omega
  (with_reducible repeat' first|refine aK ?_|simp[H9]);refine jI (nO l dh gj) (fun x=>l.length-x.2.1) (fun x=>x.2.1<=l.length/\2*(l.length-x.2.1)+2<=x.2.2/\x.2.2<=n/\dJ hF Go.Pv.hdS x.2.2 dh gj [] x.1 (l.drop x.2.1)=O/\x.1.length<=x.2.1) ([],i+2,n) (by simp[nO,ga,mu];exact dQ) ⟨by simp;omega,by simp;omega,cx _,tB,Ψ⟩ ?_;rintro⟨acc,j,k⟩ ⟨av,J,tH,cY,h3⟩ _;simp only at av J tH cY h3;clear tB;obtain⟨k,rfl⟩:∃m,k=m+1:=⟨k-1,Ω⟩;have lk:acc.length+1<=b0:=by unfold b0;omega
  rcases jB av with rfl|eR
  ·rw[mb]at cY;simp only[dJ]at cY;subst cY;have gD:bk ((l.length:Int)+1):=by unfold bk;omega
   clear a8;cases acc with
   |nil=>simp[nO,ga];(with_reducible repeat' first|refine aK ?_|simp[gD]);refine eQ.rd l _ (.agg [.int .i64 dh,.str gj,.slice 4 .no [],.slice 4 .no []]) ((l.length:Int)+1) false Ψ (mi (oU dh gj [] []).symm _) (by simp[kin,kinL]) ?_;simp[fG,jy,bd,bo,a6]
   |cons a fl=>simp[nO,ga];(with_reducible repeat' first|refine aK ?_|simp[gD]);refine eQ.rd l _ (.agg [.int .i64 dh,.str gj,.slice 4 .no [],.slice 4 .no ((a::fl).map Gm.e)]) ((l.length:Int)+1) false Ψ (mi (oU dh gj [] (a::fl)).symm _) (by simp[kin,kinL]) ?_;simp[fG,jy,bd,bo,a6]
  obtain⟨v,aY⟩:∃v,l[j]? =some v:=⟨_,eo eR⟩;have fv:∀eZ,((dw l)[j]'eZ)= .str v:=fun eZ=>by rw[qf eR];rw[eo eR]at aY;rw[iL aY]
  have gD:bk ((j:Int)+1):=by unfold bk;omega
  have lY:(j:Int)<l.length:=Ω
  rw[fY aY]at cY;by_cases gq:v=[41]
  ·subst gq;simp only[dJ,if_true]at cY;have nf:((j:Int)+1)=((l.length-(l.drop (j+1)).length:Nat):Int):=by rw[lb];omega
   rw[if_pos jl]at cY;subst cY;clear a8;cases acc with
   |nil=>simp[nO,ga];(with_reducible repeat' first|refine aK ?_|simp[gD,eR,lY,fv,aY,jl]);refine eQ.rd l _ (.agg [.int .i64 dh,.str gj,.slice 4 .no [],.slice 4 .no []]) ((j:Int)+1) true Ψ (uD (oU dh gj [] []).symm nf) (by simp[kin,kinL]) ?_;simp[fG,jy,bd,bo,a6]
   |cons a fl=>simp[nO,ga];(with_reducible repeat' first|refine aK ?_|simp[gD,eR,lY,fv,aY,jl]);refine eQ.rd l _ (.agg [.int .i64 dh,.str gj,.slice 4 .no [],.slice 4 .no ((a::fl).map Gm.e)]) ((j:Int)+1) true Ψ (uD (oU dh gj [] (a::fl)).symm nf) (by simp[kin,kinL]) ?_;simp[fG,jy,bd,bo,a6]
  have k2:=ub gq;have cT:=a8 k Ω j Ω Ω;rw[fY aY]at cT;simp only[dJ,bh gq,my,if_true]at cY;cases dN:ek hF Go.Pv.hdS k (v::l.drop (j+1))with
  |none=>
   rw[dN]at cT cY;simp only at cY;subst cY;clear a8;cases acc with
   |nil=>
    rcases mw with rfl|rfl|rfl;all_goals
     simp[nO,ga]
     ((with_reducible repeat' first|refine aK ?_|simp[gD,eR,lY,fv,aY,k2]|((first|apply dY|apply ed|apply ec)<;>intro h<;>try simp at h))<;>(try exact eM))
     refine CallDo.ob (cT) ly (fun k cs h=>by simp[Pv.look]at h) (fun k cs h=>by simp[Pv.look]at h) (by simp[kinL,kin]) ?_
     rintro r aj bj
     obtain⟨rfl,x,q,rfl⟩:=bj
     refine⟨Same.refl _,?_⟩
     simp[bA]
     (with_reducible repeat' first|refine aK ?_|simp)
     refine eQ.rd l _ (.agg [.int .i64 0,.str [],.slice 4 .no [],.slice 4 .no []]) 0 false Ψ (mi na.symm 0) (by simp[kin,kinL]) ?_
     simp[fG,jy,bd,bo,a6]
   |cons a fl=>
    rcases mw with rfl|rfl|rfl;all_goals
     simp[nO,ga]
     ((with_reducible repeat' first|refine aK ?_|simp[gD,eR,lY,fv,aY,k2]|((first|apply dY|apply ed|apply ec)<;>intro h<;>try simp at h))<;>(try exact eM))
     refine CallDo.ob (cT) ly (fun k cs h=>by simp[Pv.look]at h) (fun k cs h=>by simp[Pv.look]at h) (by simp[kinL,kin]) ?_
     rintro r aj bj
     obtain⟨rfl,x,q,rfl⟩:=bj
     refine⟨Same.refl _,?_⟩
     simp[bA]
     (with_reducible repeat' first|refine aK ?_|simp)
     refine eQ.rd l _ (.agg [.int .i64 0,.str [],.slice 4 .no [],.slice 4 .no []]) 0 false Ψ (mi na.symm 0) (by simp[kin,kinL]) ?_
     simp[fG,jy,bd,bo,a6]
  |some tr=>
   obtain⟨g,rest⟩:=tr;rw[dN]at cT cY;obtain⟨gh,n9⟩:=A3 (j:=j) (by rw[fY aY];exact(vW yB _ _ _ _ dN).1);have xF:=(vW yB _ _ _ _ dN).2;have IW:rest.length<l.length-j:=by simp at xF;omega
   obtain⟨p,aV⟩:∃p,p=l.length-rest.length:=⟨_,rfl⟩;simp only at cY;rw[<-aV]at gh;rw[gh]at cY;clear a8;cases acc with
   |nil=>
    rcases mw with rfl|rfl|rfl;all_goals
     simp[nO,ga]
     ((with_reducible repeat' first|refine aK ?_|simp[gD,eR,lY,fv,aY,k2]|((first|apply dY|apply ed|apply ec)<;>intro h<;>try simp at h))<;>(try exact eM))
     refine CallDo.ob (cT) ly (fun k cs h=>by simp[Pv.look]at h) (fun k cs h=>by simp[Pv.look]at h) (by simp[kinL,kin]) ?_
     rintro r aj bj
     obtain⟨rfl,rfl⟩:=bj
     rw[<-aV]
     refine⟨Same.refl _,?_⟩
     simp[bA]
     (with_reducible repeat' first|refine aK ?_|simp)
     refine cQ.whl ([g],p,k) (by show l.length-p<l.length-j;omega) ⟨by show p<=l.length;omega,by show 2*(l.length-p)+2<=k;omega,by show k<=n;omega,cY,by simp;omega⟩ (by simp[nO,ga];exact⟨by simp[fresh,kinL,kin,cA,aI,Pv.look,c7],fh (by simp[fresh,kinL,kin,cA,aI,Pv.look,c7]),fi (by simp[fresh,kinL,kin,eD,aI,Pv.look,c7]),Ψ⟩)
   |cons a fl=>
    simp only[mc]at lk;rcases mw with rfl|rfl|rfl;all_goals
     simp[nO,ga]
     ((with_reducible repeat' first|refine aK ?_|simp[gD,eR,lY,fv,aY,k2]|((first|apply dY|apply ed|apply ec)<;>intro h<;>try simp at h))<;>(try exact eM))
     refine CallDo.ob (cT) ly (fun k cs h=>by simp[Pv.look]at h) (fun k cs h=>by simp[Pv.look]at h) (by simp[kinL,kin]) ?_
     rintro r aj bj
     obtain⟨rfl,rfl⟩:=bj
     rw[<-aV]
     refine⟨Same.refl _,?_⟩
     simp[bA]
     (with_reducible repeat' first|refine aK ?_|simp[lk])
     refine cQ.whl (a::(fl++[g]),p,k) (by show l.length-p<l.length-j;omega) ⟨by show p<=l.length;omega,by show 2*(l.length-p)+2<=k;omega,by show k<=n;omega,cY,by simp at h3⊢;omega⟩ (by simp[nO,ga];exact⟨by simp[fresh,kinL,kin,cA,aI,Pv.look,c7],fh (by simp[fresh,kinL,kin,cA,aI,Pv.look,c7]),fi (by simp[fresh,kinL,kin,eD,aI,Pv.look,c7]),Ψ⟩)
def uI:C:=(al [fk (.alloc 2 none (.agg [.int .i64 0,.str [],.slice 4 .nil [],.slice 4 .nil []])),bQ 3 false] (al [ae 9 0,ef 10 12 9,ae 8 10,eI 11 0 8,eI 12 1 8,ae 4 11,ae 5 12] (.seq (al [ae 13 5,eK 14 13] (be 14 (al [a7 15 (.build [.int .i64 0,.str [],.slice 4 .nil [],.slice 4 .nil []] []),bY 4 2 15,bQ 3 false] .ret) .skip)) (al [ae 16 4,a7 17 (.build [.slice 1 .nil [],.int .i64 0] [(0,1,(.t 16))]),fk (.box 18 (some 871) (.t 17)),ae 6 18] (al [ae 20 6,ae 21 6,a7 22 (.mkf 1000014 [.t 21]),gK 23 13 20 22,ae 19 23,eI 24 0 19,eI 25 1 19,fk (.alloc 7 none (.agg [.int .i64 0,.str [],.slice 4 .nil [],.slice 4 .nil []])),bY 4 7 24,ae 5 25] (.seq (al [ae 26 5,eK 27 26,ae 28 27,b7 28 false 29 6,aO 28 false (ef 30 15 29),aO 28 false (eK 31 30),dD 32 28 31,ae 33 32,aO 33 false (dv 34 4 7),aO 33 false (ef 35 16 34),aO 33 false (eK 36 35),dD 37 33 36] (be 37 (al [a7 38 (.build [.int .i64 0,.str [],.slice 4 .nil [],.slice 4 .nil []] []),bY 4 2 38,bQ 3 false] .ret) .skip)) (al [dv 39 4 7,bY 4 2 39,bQ 3 true] .ret)))))))
@[simp] def vS:List cG:=[.cell 2 true 4,.tmp 3]
def uJ:C:=(.seq (.block 0 (.loop (.seq (al [ae 56 0,⟨none,.call (some 57) (.c (.func 29 [])) [.t 56,(.c (.str [41]))]⟩,eK 58 57] (be 58 .skip (.exit 0))) (.block 1 (.seq (al [bE 59 0 1 10,bB 60 1 59,bc 61 .eql 60 7,ae 62 61,aO 62 false (bE 63 0 1 10),aO 62 false (bB 64 1 63),aO 62 false (bc 65 .eql 64 8),dD 66 62 65,ae 67 66,aO 67 false (bE 68 0 1 10),aO 67 false (bB 69 1 68),aO 67 false (bc 70 .eql 69 10),dD 71 67 70] (be 71 (al [ae 73 0,ae 74 1,gK 75 13 73 74,ae 72 75,eI 76 0 72,eI 77 1 72,fk (.alloc 11 none (.agg [.int .i64 0,.str [],.slice 4 .nil [],.slice 4 .nil []])),bY 4 11 76,ae 12 77] (.seq (al [ae 78 12,eK 79 78] (be 79 (al [a7 80 (.build [.int .i64 0,.str [],.slice 4 .nil [],.slice 4 .nil []] []),bY 4 4 80,bQ 5 false] .ret) .skip)) (al [bE 81 3 1 10,bB 82 1 81,dv 83 4 11,jd 84 4 25 [.t 83],qn 85 4 25 82 84,bE 86 3 1 10,bY 1 86 85] (.exit 1)))) .skip)) (al [ae 88 1,⟨none,.callb (some 89) (.t 88)⟩,ae 87 89,eI 90 0 87,eI 91 1 87,hZ 13 dO,bY 4 13 90,ae 14 91] (.seq (al [ae 92 14,eK 93 92] (be 93 (al [a7 94 (.build [.int .i64 0,.str [],.slice 4 .nil [],.slice 4 .nil []] []),bY 4 4 94,bQ 5 false] .ret) .skip)) (.region [bE 95 2 1 10,bB 96 1 95,dv 97 4 13,jd 98 4 51 [.t 97],qn 99 4 51 96 98,bE 100 2 1 10,bY 1 100 99])))))))) (al [dv 101 4 10,bY 4 4 101,bQ 5 true] .ret))
def rN:C:=(al [fk (.alloc 4 none (.agg [.int .i64 0,.str [],.slice 4 .nil [],.slice 4 .nil []])),bQ 5 false] (.seq (al [ae 15 0,⟨none,.call (some 16) (.c (.func 29 [])) [.t 15,(.c (.str [116,114,117,101]))]⟩] (be 16 (al [a7 17 (.build [.int .i64 0,.str [],.slice 4 .nil [],.slice 4 .nil []] [(0,1,(cO 0))]),bY 4 4 17,bQ 5 true] .ret) .skip)) (.seq (al [ae 18 0,⟨none,.call (some 19) (.c (.func 29 [])) [.t 18,(.c (.str [102,97,105,108]))]⟩] (be 19 (al [a7 20 (.build [.int .i64 0,.str [],.slice 4 .nil [],.slice 4 .nil []] [(0,1,(cO 1))]),bY 4 4 20,bQ 5 true] .ret) .skip)) (.seq (al [ae 21 0,⟨none,.call (some 22) (.c (.func 29 [])) [.t 21,(.c (.str [40]))]⟩,eK 23 22,ae 24 23,b7 24 false 25 0,aO 24 false (ef 26 15 25),dD 27 24 26] (be 27 (al [a7 28 (.build [.int .i64 0,.str [],.slice 4 .nil [],.slice 4 .nil []] []),bY 4 4 28,bQ 5 false] .ret) .skip)) (al [ae 29 0,ef 30 30 29,ae 6 30] (al [ae 31 0,kF 32 31,bE 33 1 1 32,bB 34 1 33,bc 35 .add 34 1,kF 36 31,bE 37 1 1 36,bY 1 37 35] (al [fk (.mkmap 38 none),fk (.mput .s (.t 38) (.c (.str [61])) (cO 2)),fk (.mput .s (.t 38) (.c (.str [47,61])) (cO 3)),fk (.mput .s (.t 38) (.c (.str [115,121,109,98,111,108])) (cO 4)),fk (.mput .s (.t 38) (.c (.str [110,117,109,98,101,114])) (cO 5)),fk (.mput .s (.t 38) (.c (.str [97,98,115,101,110,116])) (cO 6)),fk (.mput .s (.t 38) (.c (.str [97,110,100])) (cO 7)),fk (.mput .s (.t 38) (.c (.str [111,114])) (cO 8)),fk (.mput .s (.t 38) (.c (.str [110,111,116])) (cO 10)),ae 39 38,ae 7 39] (al [ae 41 7,ae 42 6,a7 43 (.mget .s (.int .i64 0) true (.t 41) (.t 42)),ae 40 43,eI 44 0 40,eI 45 1 40,ae 8 44,ae 9 45] (al [ae 46 8,a7 47 (.build [.int .i64 0,.str [],.slice 4 .nil [],.slice 4 .nil []] [(0,1,(.t 46))]),fk (.alloc 10 none (.agg [.int .i64 0,.str [],.slice 4 .nil [],.slice 4 .nil []])),bY 4 10 47] (.seq (al [ae 48 9,eK 49 48] (be 49 (.seq (al [ae 50 6,ef 51 31 50,eK 52 51] (be 52 (al [a7 53 (.build [.int .i64 0,.str [],.slice 4 .nil [],.slice 4 .nil []] []),bY 4 4 53,bQ 5 false] .ret) .skip)) (.region [ae 54 6,a7 55 (.build [.int .i64 0,.str [],.slice 4 .nil [],.slice 4 .nil []] [(0,1,(cO 9)),(1,1,(.t 54))]),bY 4 10 55])) .skip)) uJ))))))))))
@[simp] def Td:List cG:=[.cell 4 true 4,.tmp 5]
def Fc:List (Nat×cm):=[
 (3,⟨1,8,.int .i64,.int .i64 0⟩),
 (9,⟨1,16,.str,.str []⟩),
 (22,⟨1,24,.slice 51,.slice 4 .nil []⟩),
 (23,⟨1,24,.slice 25,.slice 4 .nil []⟩),
 (25,⟨4,72,.struct [(0,3),(1,9),(2,22),(3,23)],.agg [.int .i64 0,.str [],.slice 4 .nil [],.slice 4 .nil []]⟩),
 (31,⟨1,24,.slice 9,.slice 1 .nil []⟩),
 (39,⟨2,32,.struct [(0,31),(1,3)],.agg [.slice 1 .nil [],.int .i64 0]⟩),
 (51,⟨4,56,.struct [(0,3),(1,3),(2,9),(3,22)],.agg [.int .i64 0,.int .i64 0,.str [],.slice 4 .nil []]⟩),
 (55,⟨1,8,.map 9 3,.junk⟩)]
theorem oA:dE aP Fc=true:=by kernel_rfl
theorem x2:dA Fc uI vS 1 Tryd.f5=true:=by kernel_rfl
theorem w3:aP.funcs[(5:Nat)]? =some Tryd.f5:=Tryd.func5
theorem uc:dA Fc rN Td 2 Tryd.f13=true:=by kernel_rfl
theorem tq:aP.funcs[(13:Nat)]? =some Tryd.f13:=Tryd.func13
end
end Go.Proofs.YtlnndmgfngfeiaaDoor
namespace Go.Pv
section
open Go Go.RowKit
def jR:List (List az×ab)->List ab
 |[]=>[]
 |(k,v)::r=>.str k::v::jR r
def mJ(l:List (List az×ab)):List ab:= .hdm l.length (List.range l.length)::jR l
def wj(k:List az):List (List az×ab)->aR ab
 |[]=>none
 |(i,v)::r=>if k=i then some v else wj k r
def rl(k:List az)(v:ab):List (List az×ab)->aR (List (List az×ab))
 |[]=>none
 |(i,w)::r=>if k=i then some ((k,v)::r)else match rl k v r with|some cr=>some ((i,w)::cr)|none=>none
def pB(k:List az)(v:ab)(l:List (List az×ab)):List (List az×ab):=match rl k v l with|some fU=>fU|none=>l++[(k,v)]
theorem K6:∀a b,jR (a++b)=jR a++jR b
 |[],_=>rfl
 |(k,v)::r,b=>by simp[jR,K6 r b]
theorem Jo(a b:List az):qW .s (.str a) (.str b)=some (a==b):=rfl
theorem JM(k:List az):∀l,p8 .s (.str k) (jR l)=some (wj k l)
 |[]=>rfl
 |(i,v)::r=>by
  simp only[jR,p8,Jo,wj];by_cases h:k=i
  ·simp[h]
  ·have:(k==i)=false:=by simp[h]
   simp[h,JM k r,this]
theorem Lc{k:List az}{v:ab}:∀{l fU},rl k v l=some fU->fU.length=l.length
 |[],_,h=>by simp[rl]at h
 |(i,w)::r,fU,h=>by
  simp only[rl]at h;split at h
  ·cases h;rfl
  ·split at h
   ·rename_i cr hr;cases h;simp[Lc hr]
   ·cases h
theorem JZ(k:List az)(v:ab):∀l,q1 .s (.str k) v (jR l)=some ((rl k v l).map jR)
 |[]=>rfl
 |(i,w)::r=>by
  simp only[jR,q1,Jo,rl];by_cases h:k=i
  ·subst h;simp[jR]
  ·have:(k==i)=false:=by simp[h]
   simp only[this,h,if_false,JZ k v r];cases rl k v r<;>simp[jR]
@[simp]theorem R5(k:List az)(v:ab)(l:List (List az×ab)):po .s (.str k) v (mJ l)=some (mJ (pB k v l)):=by
 simp only[mJ,po,Jr,Bool.true_eq_false,reduceCtorEq,if_false,JZ,pB];cases h:rl k v l with
 |some fU=>simp[Lc h]
 |none=>simp[K6,jR,List.range_succ]
@[simp]theorem XJ(k:List az)(v:ab):po .s (.str k) v (mF [])=some (mJ (pB k v [])):=R5 k v []
@[simp]theorem Ak(f:aq->aR (List ab))(m:aq)(l:List (List az×ab))(z:ab)(ok:Bool)(k:List az)(hm:f m=some (mJ l)):nr f .s z ok (.gmap m) (.str k)=(match wj k l with
  |some v=>some (True,if ok then .tuple [v,.bool true]else v)
  |none=>some (True,if ok then .tuple [z,.bool false]else z)):=by
 simp only[JO,hm,mJ,Jr,Bool.true_eq_false,reduceCtorEq,if_false,JM];cases wj k l<;>rfl
@[simp]theorem X4(l:List (List az×ab)):fp (mJ l)=false:=rfl
end
end Go.Pv
namespace Go.Proofs.YtlnndmgfngfeiaaDoor
section
open Go Go.Pv
variable {ky:Nat}
def eU(ky:Nat):ab:= .func 1000014 [aF ky]
abbrev Ln:List (List az×ab):=pB [110,111,116] (.int .i64 10) (pB [111,114] (.int .i64 8) (pB [97,110,100] (.int .i64 7) (pB [97,98,115,101,110,116] (.int .i64 6) (pB [110,117,109,98,101,114] (.int .i64 5) (pB [115,121,109,98,111,108] (.int .i64 4) (pB [47,61] (.int .i64 3) (pB [61] (.int .i64 2) [])))))))
theorem DY(f:aq->aR (List ab))(m:aq)(h:List az)(hm:f m=some (mJ Ln)):nr f .s (.int .i64 0) true (.gmap m) (.str h)=some (True,.tuple [.int .i64 ((lW h).getD 0),.bool (lW h).isSome]):=by
 rw[Ak _ _ _ _ true h hm];have e:Ln=[(wz,.int .i64 2),(wy,.int .i64 3),(rC,.int .i64 4),(rA,.int .i64 5),(rv,.int .i64 6),(ry,.int .i64 7),(rB,.int .i64 8),(rz,.int .i64 10)]:=rfl;rw[e];unfold lW;simp only[wj];repeat' split
 all_goals first|rfl|simp_all
end
section
open Go Go.Pv
variable {ky:Nat}
theorem P8{w:List az}{k:Int}{s:List az}(h:ey w=some (k,s)):1<k/\(iY k=true->s=[])/\(iY k=false->(k==7)=false/\(k==8)=false/\(k==10)=false):=by
 unfold ey at h;cases J:lW w with
 |some aW=>
  rw[J]at h;simp only[dp,hQ]at h;obtain⟨rfl,rfl⟩:=h;unfold lW at J;repeat' split at J
  all_goals first|cases J|skip
  all_goals simp[iY]
 |none=>
  rw[J]at h;simp only at h;split at h
  ·cases h;simp[iY]
  ·cases h
end
section
open Go Go.Pv
variable {ky:Nat}
def FL(ky:Nat)(l:List (List az))(i:Nat)(o:aR (T×List (List az))):Prop:= ∀κ,FnK aP 14 κ [aF ky] (ah ky l i) (sV ky l o κ)
theorem Jl(l:List (List az))(aB:l.length<=100000)(hw:∀w∈l,w≠[]/\w.length<=b0)(i:Nat)(aD:i<=l.length):FL ky l i (en (l.drop i)):=by
 intro κ;have ao:=bp (ky:=ky) l i;have cT:=RJ (ky:=ky) l aB hw (2*(l.length-i)+1) i aD (cx _);cases dN:rd fR (2*(l.length-i)+1) (l.drop i)with
 |none=>rw[dN]at cT;rw[show en (l.drop i)=none by unfold en;rw[lb,dN]];simp only[ah]at ao;refine FnK.mk mixed rr Ci Ed Ψ ao.obj rfl fun aT dG=>?_;unfold yT;clear aT dG;simp[aF,ah];refine CallDo.obK (cT _) (bp _ _) (by simp only[ah];exact aS) (by simp only[ah];exact aS) (by simp[aI,Pv.look,ah,aF,eU,kinL,kin]) Ψ ?_;rintro r aj ⟨x,gw,bj,rfl,rfl⟩;refine⟨cg _ _ _ _,?_⟩;simp[bA,ah,aF];(with_reducible repeat' first|refine aK ?_|simp);refine dX.tm (gw) (.nil) false Ψ (oy bj _) (by simp only[ah];exact aS) ?_;simp[bd,bo,a6,cI,dZ,cc,dm,bW,di,tnL,tn,dt,ej,fold,eh,eg,eY,Pv.look,dj,bF,bC,T.k]
 |some tr=>
  obtain⟨t,rest⟩:=tr;rw[dN]at cT;obtain⟨gh,n9⟩:=yk (qb _ _ _ _ dN).1;have qX:=DM cT rfl;have b8:=Uo t;rw[show en (l.drop i)=if t.fit then some (t,rest)else none by unfold en;rw[lb,dN]];simp only[ah]at ao;by_cases aH:t.fit=true
  ·rw[if_pos aH];rw[aH]at b8;refine FnK.mk mixed rr Ci Ed Ψ ao.obj rfl fun aT dG=>?_;unfold yT;clear aT dG;simp[aF,ah];refine CallDo.obK (qX _) (bp _ _) (by simp only[ah];exact aS) (by simp only[ah];exact aS) (by simp[aI,Pv.look,ah,aF,eU,kinL,kin]) Ψ ?_;rintro r aj ⟨rfl,rfl⟩;refine⟨cg _ _ _ _,?_⟩;simp[bA,ah,aF];(with_reducible repeat' first|refine aK ?_|refine bq b8 ?_|refine br b8 ?_|simp);refine dX.tm (l.length-rest.length) (t) true Ψ (wq rfl) (by simp only[ah];exact aS) ?_;simp[bd,bo,a6,cI,dZ,cc,dm,bW,di,tnL,tn,dt,ej,fold,eh,eg,eY,Pv.look,dj,bF,bC,T.k]
  ·rw[bh aH];rw[Bool.not_eq_true]at aH;rw[aH]at b8;refine FnK.mk mixed rr Ci Ed Ψ ao.obj rfl fun aT dG=>?_;unfold yT;clear aT dG;simp[aF,ah];refine CallDo.obK (qX _) (bp _ _) (by simp only[ah];exact aS) (by simp only[ah];exact aS) (by simp[aI,Pv.look,ah,aF,eU,kinL,kin]) Ψ ?_;rintro r aj ⟨rfl,rfl⟩;refine⟨cg _ _ _ _,?_⟩;simp[bA,ah,aF];(with_reducible repeat' first|refine aK ?_|refine bq b8 ?_|refine br b8 ?_|simp);refine dX.tm (l.length-rest.length) (.nil) false Ψ (oy Ω _) (by simp only[ah];exact aS) ?_;simp[bd,bo,a6,cI,dZ,cc,dm,bW,di,tnL,tn,dt,ej,fold,eh,eg,eY,Pv.look,dj,bF,bC,T.k]
theorem Sm{l:List (List az)}{i p:Nat}{t:T}{rest:List (List az)}(h:FL ky l i (some (t,rest)))(aV:l.length-rest.length=p)(κ:Nat):FnK aP 14 κ [aF ky] (ah ky l i) fun r aj=>r= .tuple [t.k κ,.bool true]/\aj=ah ky l p:=(h κ).mono fun r aj bj=>by rw[<-aV];exact bj
def _root_.Go.Pv.Gm.k(g:Gm)(κ:Nat):ab:= .agg [.int .i64 g.kind,.str g.name,.slice 4 (.tr (.loc κ) 0) (g.ts.map enc),.slice 4 (.tr (.loc κ) 1) (g.gs.map Gm.e)]
@[simp]theorem VX(g:Gm)(n:Nat):cells (g.k n)=[.int .i64 g.kind,.str g.name,.slice 4 (.tr (.loc n) 0) (g.ts.map enc),.slice 4 (.tr (.loc n) 1) (g.gs.map Gm.e)]:=rfl
@[simp]theorem Yo(g:Gm)(n:Nat):dK (g.k n)=true:=rfl
theorem Py(g:Gm)(n:Nat):bC (g.k n)=g.e:=by rw[Gm.e_eq];simp[Gm.k,bC,bF]
theorem HZ:∀l:List (Gm×Nat),ej (dk Gm.k l)
 |[]=>by simp[dk,ej]
 |x::l=>by have:=HZ l;unfold dk at this;exact⟨⟨trivial,trivial,nu _,nu _,trivial⟩,this⟩
theorem H0:∀l:List (Gm×Nat),bF (dk Gm.k l)=(l.map (·.1)).map Gm.e
 |[]=>by simp[dk,bF]
 |x::l=>by have:=H0 l;unfold dk at this;simp[dk,bF,Py,this]
theorem H2:∀(l:List (Gm×Nat)),∀x∈tnL (dk Gm.k l),∃p∈l,x.1= .loc p.2
 |[],x,h=>by simp[dk,tnL]at h
 |p::l,x,h=>by
  have e:tnL (dk Gm.k (p::l))=(.loc p.2,0)::(.loc p.2,1)::tnL (dk Gm.k l):=by simp[dk,tnL,tn,Gm.k]
  rw[e]at h;simp only[gZ]at h;rcases h with rfl|rfl|h
  ·exact⟨p,Ψ,rfl⟩
  ·exact⟨p,Ψ,rfl⟩
  ·obtain⟨l3,I,aa⟩:=H2 l x h;exact⟨l3,by simp[I],aa⟩
theorem HY:∀{l:List (Gm×Nat)},(l.map (·.2)).Nodup->(tnL (dk Gm.k l)).Nodup
 |[],_=>by simp[dk,tnL]
 |p::l,h=>by
  have e:tnL (dk Gm.k (p::l))=(.loc p.2,0)::(.loc p.2,1)::tnL (dk Gm.k l):=by simp[dk,tnL,tn,Gm.k]
  simp only[ig,List.nodup_cons]at h;have aU:∀j,(aq.loc p.2,j)∉tnL (dk Gm.k l):=fun j av=>by obtain⟨l3,I,aa⟩:=H2 l _ av;simp only[aq.loc.injEq]at aa;exact h.1 (lE.2 ⟨l3,I,aa.symm⟩)
  rw[e,List.nodup_cons,List.nodup_cons];exact⟨by simp[aU 0],aU 1,HY h.2⟩
theorem HX{S:aq->Prop}:∀(l:List (Gm×Nat)),(∀p∈l,S (.loc p.2))->Pv.kinL S (dk Gm.k l)
 |[],_=>by simp[dk,Pv.kinL]
 |x::l,hL=>by have:=HX l fun p aV=>hL p (by simp[aV]);unfold dk at this;have I:=hL x Ψ;simp only[dk,ig,Pv.kinL];exact⟨by simp[Gm.k,Pv.kin,Pv.kinL,I],this⟩
theorem Px{n m:Nat}{l:List (Gm×Nat)}(aB:lg n l)(hm:n<=m)(o:List aq):Pv.kinL (fun k=> ¬fresh m o k) (dk Gm.k l):=HX l fun p aV aH=>by have I:=aB.lt p aV;have aa:m<=p.2:=aH.1;omega
def r2(ky:Nat)(l:List (List az))(o:aR (Gm×List (List az)))(κ:Nat)(r:ab)(aj:df):Prop:=match o with
 |some (g,rest)=>r= .tuple [g.k κ,.bool true]/\aj=ah ky l (l.length-rest.length)
 |none=> ∃(g:Gm) (j:Nat),j<=l.length/\r= .tuple [g.k κ,.bool false]/\aj=ah ky l j
theorem oV{l:List (List az)}{j κ:Nat}(h:j<=l.length)(g:Gm):r2 ky l none κ (.tuple [g.k κ,.bool false]) (ah ky l j):=⟨g,j,h,rfl,rfl⟩
theorem u2{l:List (List az)}{j κ:Nat}{g:Gm}{rest:List (List az)}(h:l.length-rest.length=j):r2 ky l (some (g,rest)) κ (.tuple [g.k κ,.bool true]) (ah ky l j):=⟨rfl,by rw[h]⟩
def s3(ky:Nat)(l:List (List az))(i:Nat)(o:aR (Gm×List (List az))):Prop:= ∀κ,FnK aP 13 κ [aF ky,eU ky] (ah ky l i) (r2 ky l o κ)
theorem dX.gm{l:List (List az)}{i κ:Nat}{o:aR (Gm×List (List az))}{st:aM}{e:Exit}(j:Nat)(x:Gm)(b:Bool)(iA:e= .ret\/e= .normal)(n4:r2 ky l o κ (.tuple [x.k κ,.bool b]) (ah ky l j))(af:∀k cs,Pv.look k (ah ky l j).b=some cs->Pv.look k st.b=some cs)
  (h:match bd st [.cell 4 true 4,.tmp 5]with
   |some (c,aX)=>c/\(cI st.e (a6 aX)/\(cc st.e (a6 aX)).Nodup/\(bW (a6 aX)).Nodup)/\fold κ st.e 0 (a6 aX)= .tuple [x.k κ,.bool b]
   |none=>cv):dX [.cell 4 true 4,.tmp 5] (ah ky l i) κ (r2 ky l o κ) e st:=by
 refine dX.ob iA (bp l j) rfl (cg _ _ _ _) af ?_;split at h
 ·rename_i c aX hr;(try rw[hr]);exact⟨h.1,h.2.1,by rw[h.2.2];exact n4⟩
 ·exact h.elim
theorem RI(l:List (List az))(aB:l.length<=100000){i:Nat}(h:l[i]? =some gX):s3 ky l i ((some (.mk 0 [] [] [],l.drop (i+1)))):=by intro κ;have ao:=bp (ky:=ky) l i;have aD:=(gp.1 h).1;have b8:=qi (ky:=ky) (show i<=1000000 by omega) h;have aG:=tl h;simp only[ah]at ao;simp only[gX]at b8;refine FnK.mk mixed oA tq uc Ψ ao.obj rfl fun aT dG=>?_;unfold rN;clear aT dG;simp[aF,ah];refine CallDo.ob (b8) (bp _ _) (by simp only[ah];exact aS) (by simp only[ah];exact aS) (by simp[aI,Pv.look,ah,aF,kinL,kin]) ?_;rintro r aj ⟨rfl,rfl⟩;refine⟨cg _ _ _ _,?_⟩;simp[bA,ah,aF];(with_reducible repeat' first|refine aK ?_|simp);refine dX.gm (i+1) (.mk 0 [] [] []) true Ψ (u2 aG) (by simp only[ah];exact aS) ?_;simp[bd,bo,a6,cI,dZ,cc,dm,bW,di,tnL,tn,dt,ej,fold,eh,eg,eY,Pv.look,dj,bF,bC,Gm.k,Gm.kind,Gm.name,Gm.ts,Gm.gs]
theorem RH(l:List (List az))(aB:l.length<=100000){i:Nat}(h:l[i]? =some hG):s3 ky l i ((some (.mk 1 [] [] [],l.drop (i+1)))):=by intro κ;have ao:=bp (ky:=ky) l i;have aD:=(gp.1 h).1;have er:=j9 (ky:=ky) (show i<=1000000 by omega) (s:=gX) (l:=l) (i:=i) (by rw[h];decide);have b8:=qi (ky:=ky) (show i<=1000000 by omega) h;have aG:=tl h;simp only[ah]at ao;simp only[gX]at er;simp only[hG]at b8;refine FnK.mk mixed oA tq uc Ψ ao.obj rfl fun aT dG=>?_;unfold rN;clear aT dG;simp[aF,ah];refine CallDo.ob (er) (bp _ _) (by simp only[ah];exact aS) (by simp only[ah];exact aS) (by simp[aI,Pv.look,ah,aF,kinL,kin]) ?_;rintro r aj ⟨rfl,rfl⟩;refine⟨cg _ _ _ _,?_⟩;simp[bA,ah,aF];(with_reducible repeat' first|refine aK ?_|simp);refine CallDo.ob (b8) (bp _ _) (by simp only[ah];exact aS) (by simp only[ah];exact aS) (by simp[aI,Pv.look,ah,aF,kinL,kin]) ?_;rintro r aj ⟨rfl,rfl⟩;refine⟨cg _ _ _ _,?_⟩;simp[bA,ah,aF];(with_reducible repeat' first|refine aK ?_|simp);refine dX.gm (i+1) (.mk 1 [] [] []) true Ψ (u2 aG) (by simp only[ah];exact aS) ?_;simp[bd,bo,a6,cI,dZ,cc,dm,bW,di,tnL,tn,dt,ej,fold,eh,eg,eY,Pv.look,dj,bF,bC,Gm.k,Gm.kind,Gm.name,Gm.ts,Gm.gs]
theorem DC(l:List (List az))(aB:l.length<=100000){i:Nat}(aD:i<=l.length)(I:l[i]?≠some gX)(aa:l[i]?≠some hG)(ak:l[i]?≠some [40]):s3 ky l i (none):=by intro κ;have ao:=bp (ky:=ky) l i;have er:=j9 (ky:=ky) (show i<=1000000 by omega) I;have ct:=j9 (ky:=ky) (show i<=1000000 by omega) aa;have cN:=j9 (ky:=ky) (show i<=1000000 by omega) ak;simp only[ah]at ao;simp only[gX]at er;simp only[hG]at ct;refine FnK.mk mixed oA tq uc Ψ ao.obj rfl fun aT dG=>?_;unfold rN;clear aT dG;simp[aF,ah];refine CallDo.ob (er) (bp _ _) (by simp only[ah];exact aS) (by simp only[ah];exact aS) (by simp[aI,Pv.look,ah,aF,kinL,kin]) ?_;rintro r aj ⟨rfl,rfl⟩;refine⟨cg _ _ _ _,?_⟩;simp[bA,ah,aF];(with_reducible repeat' first|refine aK ?_|simp);refine CallDo.ob (ct) (bp _ _) (by simp only[ah];exact aS) (by simp only[ah];exact aS) (by simp[aI,Pv.look,ah,aF,kinL,kin]) ?_;rintro r aj ⟨rfl,rfl⟩;refine⟨cg _ _ _ _,?_⟩;simp[bA,ah,aF];(with_reducible repeat' first|refine aK ?_|simp);refine CallDo.ob (cN) (bp _ _) (by simp only[ah];exact aS) (by simp only[ah];exact aS) (by simp[aI,Pv.look,ah,aF,kinL,kin]) ?_;rintro r aj ⟨rfl,rfl⟩;refine⟨cg _ _ _ _,?_⟩;simp[bA,ah,aF];(with_reducible repeat' first|refine aK ?_|simp);refine dX.gm (i) (.mk 0 [] [] []) false Ψ (oV aD _) (by simp only[ah];exact aS) ?_;simp[bd,bo,a6,cI,dZ,cc,dm,bW,di,tnL,tn,dt,ej,fold,eh,eg,eY,Pv.look,dj,bF,bC,Gm.k,Gm.kind,Gm.name,Gm.ts,Gm.gs]
theorem RG(l:List (List az))(aB:l.length<=100000){i:Nat}(h:l[i]? =some [40])(he:i+1=l.length):s3 ky l i (none):=by
 intro κ;have dh:c8 aP 15 [aF ky] (ah ky l (i+1)) fun r aj=>r= .bool true/\aj=ah ky l (i+1):=by rw[he];exact BY l
 have ao:=bp (ky:=ky) l i;have aD:=(gp.1 h).1;have er:=j9 (ky:=ky) (show i<=1000000 by omega) (s:=gX) (l:=l) (i:=i) (by rw[h];decide);have ct:=j9 (ky:=ky) (show i<=1000000 by omega) (s:=hG) (l:=l) (i:=i) (by rw[h];decide);have cN:=qi (ky:=ky) (show i<=1000000 by omega) h;simp only[ah]at ao;simp only[gX]at er;simp only[hG]at ct;refine FnK.mk mixed oA tq uc Ψ ao.obj rfl fun aT dG=>?_;unfold rN;clear aT dG;simp[aF,ah];refine CallDo.ob (er) (bp _ _) (by simp only[ah];exact aS) (by simp only[ah];exact aS) (by simp[aI,Pv.look,ah,aF,kinL,kin]) ?_;rintro r aj ⟨rfl,rfl⟩;refine⟨cg _ _ _ _,?_⟩;simp[bA,ah,aF];(with_reducible repeat' first|refine aK ?_|simp);refine CallDo.ob (ct) (bp _ _) (by simp only[ah];exact aS) (by simp only[ah];exact aS) (by simp[aI,Pv.look,ah,aF,kinL,kin]) ?_;rintro r aj ⟨rfl,rfl⟩;refine⟨cg _ _ _ _,?_⟩;simp[bA,ah,aF];(with_reducible repeat' first|refine aK ?_|simp);refine CallDo.ob (cN) (bp _ _) (by simp only[ah];exact aS) (by simp only[ah];exact aS) (by simp[aI,Pv.look,ah,aF,kinL,kin]) ?_;rintro r aj ⟨rfl,rfl⟩;refine⟨cg _ _ _ _,?_⟩;simp[bA,ah,aF];(with_reducible repeat' first|refine aK ?_|simp);refine CallDo.ob (dh) (bp _ _) (by simp only[ah];exact aS) (by simp only[ah];exact aS) (by simp[aI,Pv.look,ah,aF,kinL,kin]) ?_;rintro r aj ⟨rfl,rfl⟩;refine⟨cg _ _ _ _,?_⟩;simp[bA,ah,aF];(with_reducible repeat' first|refine aK ?_|simp);refine dX.gm (i+1) (.mk 0 [] [] []) false Ψ (oV Ω _) (by simp only[ah];exact aS) ?_;simp[bd,bo,a6,cI,dZ,cc,dm,bW,di,tnL,tn,dt,ej,fold,eh,eg,eY,Pv.look,dj,bF,bC,Gm.k,Gm.kind,Gm.name,Gm.ts,Gm.gs]
end
section
open Go Go.Pv
variable {ky:Nat}
def lH(ky:Nat)(l:List (List az))(k:Int)(s:List az)(j q:Nat):List (T×Nat)->aM
 |[]=>⟨[(0,.ptr (.obj ky) 0),(1,eU ky),(4,.ptr (.loc 0) 0),(5,.bool false),(10,.ptr (.loc 2) 0)],[(.loc 0,[.int .i64 0,.str [],.slice 4 .nil [],.slice 4 .nil []]),(.obj ky,[.slice 1 .no (dw l),.int .i64 j]),(.loc 2,[.int .i64 k,.str s,.slice 4 .nil [],.slice 4 .nil []])],[],3,[.obj ky]⟩
 |x::xs=>⟨[(0,.ptr (.obj ky) 0),(1,eU ky),(4,.ptr (.loc 0) 0),(5,.bool false),(10,.ptr (.loc 2) 0)],[(.loc 0,[.int .i64 0,.str [],.slice 4 .nil [],.slice 4 .nil []]),(.obj ky,[.slice 1 .no (dw l),.int .i64 j]),(.loc 2,[.int .i64 k,.str s,.slice 4 (.own (.loc 6)) (dk T.k (x::xs)),.slice 4 .nil []])],[(.loc 6,⟨xs.length+1,51,4,none⟩)],q+7,[.obj ky]⟩
theorem RC(l:List (List az))(aB:l.length<=100000)(hw:∀w∈l,w≠[]/\w.length<=b0){k:Int}{s:List az}(I:1<k)(dR:(k==7)=false)(hK:(k==8)=false)(e5:(k==10)=false){R:aR (Gm×List (List az))}{i0 κ:Nat}(st:aM)(j n:Nat)(av:j<=l.length)(aU:l.length-j+1<=n)(bI:dJ en ey n k s [] [] (l.drop j)=R)(l0:hi [.obj ky] st (lH ky l k s j 0 [])):
  b6 aP [.obj ky] uJ (dX [.cell 4 true 4,.tmp 5] (ah ky l i0) κ (r2 ky l R κ)) st:=by
 have my:iY k=false:=by simp[iY,dR,hK,e5]
 unfold uJ;simp;refine jI (fun x:List (T×Nat)×Nat×Nat×Nat=>lH ky l k s x.2.1 x.2.2.2 x.1) (fun x=>l.length-x.2.1) (fun x=>x.2.1<=l.length/\l.length-x.2.1+1<=x.2.2.1/\dJ en ey x.2.2.1 k s (x.1.map (·.1)) [] (l.drop x.2.1)=R/\x.1.length<=x.2.1/\lg (x.2.2.2+7) x.1) ([],j,n,0) l0 ⟨av,aU,bI,Nat.zero_le _,.nil _⟩ ?_;clear l0 bI aU av st;rintro⟨acc,j,n,q⟩ ⟨av,aU,bI,h3,fL⟩ _;simp only at av aU bI h3 fL;subst bI;obtain⟨n,rfl⟩:∃m,n=m+1:=⟨n-1,Ω⟩;have o4:j<=1000000:=Ω
 rcases jB av with rfl|eR
 ·have ez:=j9 (ky:=ky) (l:=l) (i:=l.length) (s:=[41]) o4 Ψ;have ke:=Jl (ky:=ky) l aB hw l.length (cx _);rw[mb]at ke⊢;rw[show en []=none by simp[en,rd]]at ke;rw[show dJ en ey (n+1) k s (acc.map (·.1)) [] []=none by simp[dJ]];cases acc with
  |nil=>simp[lH];refine CallDo.ob (ez) (bp _ _) (by simp only[ah];exact aS) (by simp only[ah];exact aS) (by simp[aI,Pv.look,ah,aF,kinL,kin]) ?_;rintro r aj ⟨rfl,rfl⟩;refine⟨cg _ _ _ _,?_⟩;simp[bA,ah,aF];(with_reducible repeat' first|refine aK ?_|simp[dR,hK,e5,eU,aF]);refine CallDo.obK (ke _) (bp _ _) (by simp only[ah];exact aS) (by simp only[ah];exact aS) (by simp[aI,Pv.look,ah,aF,eU,kinL,kin]) Ψ ?_;rintro r aj ⟨x,gw,bj,rfl,rfl⟩;refine⟨cg _ _ _ _,?_⟩;simp[bA,ah,aF];(with_reducible repeat' first|refine aK ?_|simp);refine dX.gm (gw) (.mk 0 [] [] []) false Ψ (oV bj _) (by simp only[ah];exact aS) ?_;simp[bd,bo,a6,cI,dZ,cc,dm,bW,di,tnL,tn,dt,ej,fold,eh,eg,eY,Pv.look,dj,bF,bC,Gm.k,Gm.kind,Gm.name,Gm.ts,Gm.gs]
  |cons a fl=>simp[lH];refine CallDo.ob (ez) (bp _ _) (by simp only[ah];exact aS) (by simp only[ah];exact aS) (by simp[aI,Pv.look,ah,aF,kinL,kin]) ?_;rintro r aj ⟨rfl,rfl⟩;refine⟨cg _ _ _ _,?_⟩;simp[bA,ah,aF];(with_reducible repeat' first|refine aK ?_|simp[dR,hK,e5,eU,aF]);refine CallDo.obK (ke _) (bp _ _) (by simp only[ah];exact aS) (by simp only[ah];exact aS) (by simp[aI,Pv.look,ah,aF,eU,kinL,kin]) Ψ ?_;rintro r aj ⟨x,gw,bj,rfl,rfl⟩;refine⟨cg _ _ _ _,?_⟩;simp[bA,ah,aF];(with_reducible repeat' first|refine aK ?_|simp);refine dX.gm (gw) (.mk 0 [] [] []) false Ψ (oV bj _) (by simp only[ah];exact aS) ?_;simp[bd,bo,a6,cI,dZ,cc,dm,bW,di,tnL,tn,dt,ej,fold,eh,eg,eY,Pv.look,dj,bF,bC,Gm.k,Gm.kind,Gm.name,Gm.ts,Gm.gs]
 obtain⟨v,aY⟩:∃v,l[j]? =some v:=⟨_,eo eR⟩;by_cases gq:v=[41]
 ·subst gq;have ez:=qi (ky:=ky) o4 aY;have aG:=tl aY;obtain⟨G,oZ⟩:∃G,G=Gm.mk k s ((acc.map (·.1)).map T.tm) []:=⟨_,rfl⟩;rw[fY aY,show dJ en ey (n+1) k s (acc.map (·.1)) [] ([41]::l.drop (j+1))=some (G,l.drop (j+1)) by simp[dJ,I,oZ]];cases acc with
  |nil=>simp[lH];refine CallDo.ob (ez) (bp _ _) (by simp only[ah];exact aS) (by simp only[ah];exact aS) (by simp[aI,Pv.look,ah,aF,kinL,kin]) ?_;rintro r aj ⟨rfl,rfl⟩;refine⟨cg _ _ _ _,?_⟩;simp[bA,ah,aF];(with_reducible repeat' first|refine aK ?_|simp);refine dX.gm (j+1) (G) true Ψ (u2 aG) (by simp only[ah];exact aS) ?_;simp[bd,bo,a6,cI,dZ,cc,dm,bW,di,fold,eh,eg,eY,Pv.look,dj,Gm.k,Gm.kind,Gm.name,Gm.ts,Gm.gs,oZ,bF]
  |cons a fl=>have tN:=sy.nodup fL;simp[lH];refine CallDo.ob (ez) (bp _ _) (by simp only[ah];exact aS) (by simp only[ah];exact aS) (by simp[aI,Pv.look,ah,aF,kinL,kin]) ?_;rintro r aj ⟨rfl,rfl⟩;refine⟨cg _ _ _ _,?_⟩;simp[bA,ah,aF];(with_reducible repeat' first|refine aK ?_|simp);refine dX.gm (j+1) (G) true Ψ (u2 aG) (by simp only[ah];exact aS) ?_;simp[bd,bo,a6,cI,dZ,cc,dm,bW,di,fold,eh,eg,eY,Pv.look,dj,Gm.k,Gm.kind,Gm.name,Gm.ts,Gm.gs,oZ,sy.okL,tN,sy.stL,tp,bF]
 have ez:=j9 (ky:=ky) (l:=l) (i:=j) o4 (show l[j]?≠some [41] by rw[aY];simpa using gq);have ke:=Jl (ky:=ky) l aB hw j av;rw[fY aY]at ke⊢;cases dN:en (v::l.drop (j+1))with
 |none=>
  rw[dN]at ke;rw[show dJ en ey (n+1) k s (acc.map (·.1)) [] (v::l.drop (j+1))=none by simp[dJ,gq,my,dN]];cases acc with
  |nil=>simp[lH];refine CallDo.ob (ez) (bp _ _) (by simp only[ah];exact aS) (by simp only[ah];exact aS) (by simp[aI,Pv.look,ah,aF,kinL,kin]) ?_;rintro r aj ⟨rfl,rfl⟩;refine⟨cg _ _ _ _,?_⟩;simp[bA,ah,aF];(with_reducible repeat' first|refine aK ?_|simp[dR,hK,e5,eU,aF]);refine CallDo.obK (ke _) (bp _ _) (by simp only[ah];exact aS) (by simp only[ah];exact aS) (by simp[aI,Pv.look,ah,aF,eU,kinL,kin]) Ψ ?_;rintro r aj ⟨x,gw,bj,rfl,rfl⟩;refine⟨cg _ _ _ _,?_⟩;simp[bA,ah,aF];(with_reducible repeat' first|refine aK ?_|simp);refine dX.gm (gw) (.mk 0 [] [] []) false Ψ (oV bj _) (by simp only[ah];exact aS) ?_;simp[bd,bo,a6,cI,dZ,cc,dm,bW,di,tnL,tn,dt,ej,fold,eh,eg,eY,Pv.look,dj,bF,bC,Gm.k,Gm.kind,Gm.name,Gm.ts,Gm.gs]
  |cons a fl=>simp[lH];refine CallDo.ob (ez) (bp _ _) (by simp only[ah];exact aS) (by simp only[ah];exact aS) (by simp[aI,Pv.look,ah,aF,kinL,kin]) ?_;rintro r aj ⟨rfl,rfl⟩;refine⟨cg _ _ _ _,?_⟩;simp[bA,ah,aF];(with_reducible repeat' first|refine aK ?_|simp[dR,hK,e5,eU,aF]);refine CallDo.obK (ke _) (bp _ _) (by simp only[ah];exact aS) (by simp only[ah];exact aS) (by simp[aI,Pv.look,ah,aF,eU,kinL,kin]) Ψ ?_;rintro r aj ⟨x,gw,bj,rfl,rfl⟩;refine⟨cg _ _ _ _,?_⟩;simp[bA,ah,aF];(with_reducible repeat' first|refine aK ?_|simp);refine dX.gm (gw) (.mk 0 [] [] []) false Ψ (oV bj _) (by simp only[ah];exact aS) ?_;simp[bd,bo,a6,cI,dZ,cc,dm,bW,di,tnL,tn,dt,ej,fold,eh,eg,eY,Pv.look,dj,bF,bC,Gm.k,Gm.kind,Gm.name,Gm.ts,Gm.gs]
 |some tr=>
  obtain⟨t,rest⟩:=tr;rw[dN]at ke;obtain⟨sr,ss⟩:=E7 _ _ _ dN;rw[<-fY aY]at sr ss;obtain⟨gh,n9⟩:=yk sr;obtain⟨p,aV⟩:∃p,p=l.length-rest.length:=⟨_,rfl⟩;rw[<-aV]at gh;have xS:=Sm ke aV.symm;have gE:p<=l.length:=Ω
  have IP:j<p:=by simp at ss;omega
  have hf:acc.length+1<=b0:=by unfold b0;omega
  cases acc with
  |nil=>rw[show dJ en ey (n+1) k s (([]:List (T×Nat)).map (·.1)) [] (v::l.drop (j+1))=dJ en ey n k s (([(t,3)]:List (T×Nat)).map (·.1)) [] rest by simp[dJ,gq,my,dN]];simp[lH];refine CallDo.ob (ez) (bp _ _) (by simp only[ah];exact aS) (by simp only[ah];exact aS) (by simp[aI,Pv.look,ah,aF,kinL,kin]) ?_;rintro r aj ⟨rfl,rfl⟩;refine⟨cg _ _ _ _,?_⟩;simp[bA,ah,aF];(with_reducible repeat' first|refine aK ?_|simp[dR,hK,e5,eU,aF]);refine CallDo.obK (xS _) (bp _ _) (by simp only[ah];exact aS) (by simp only[ah];exact aS) (by simp[aI,Pv.look,ah,aF,eU,kinL,kin]) Ψ ?_;rintro r aj ⟨rfl,rfl⟩;refine⟨cg _ _ _ _,?_⟩;simp[bA,ah,aF];(with_reducible repeat' first|refine aK ?_|simp[hf]);refine cQ.whl ([(t,3)],p,n,0) (by simp;omega) ⟨gE,by simp;omega,by simp[<-gh],by simp;omega,⟨Ψ,Ψ⟩⟩ ?_;simp[lH,dk];exact⟨by simp[fresh,kinL,kin,cA,aI,Pv.look,T.k],fh (by simp[fresh,kinL,kin,cA,aI,Pv.look,T.k]),fi (by simp[fresh,kinL,kin,eD,aI,Pv.look,T.k]),Ψ⟩
  |cons a fl=>simp only[mc]at hf;rw[show dJ en ey (n+1) k s ((a::fl).map (·.1)) [] (v::l.drop (j+1))=dJ en ey n k s ((a::fl++[(t,q+7)]).map (·.1)) [] rest by simp[dJ,gq,my,dN]];have ba:=fL.snoc t (cx (q+7)) (show q+7<q+3+7 by omega);have fK:=sy.kin ba (cx _) [.obj ky];simp[fresh]at fK;simp[lH];refine CallDo.ob (ez) (bp _ _) (by simp only[ah];exact aS) (by simp only[ah];exact aS) (by simp[aI,Pv.look,ah,aF,kinL,kin]) ?_;rintro r aj ⟨rfl,rfl⟩;refine⟨cg _ _ _ _,?_⟩;simp[bA,ah,aF];(with_reducible repeat' first|refine aK ?_|simp[dR,hK,e5,eU,aF]);refine CallDo.obK (xS _) (bp _ _) (by simp only[ah];exact aS) (by simp only[ah];exact aS) (by simp[aI,Pv.look,ah,aF,eU,kinL,kin]) Ψ ?_;rintro r aj ⟨rfl,rfl⟩;refine⟨cg _ _ _ _,?_⟩;simp[bA,ah,aF];(with_reducible repeat' first|refine aK ?_|simp[hf]);have jO:dk T.k (a::fl)++[.agg [.int .i64 t.kind,.int .i64 t.int,.str t.name,.slice 4 (.tr (.loc (q+7)) 0) (t.args.map T.e)]]=dk T.k (a::(fl++[(t,q+7)])):=(D2 T.k (a::fl) t (q+7)).symm;refine cQ.whl (a::fl++[(t,q+7)],p,n,q+3) (by simp;omega) ⟨gE,by simp;omega,by simp[<-gh],by simp at h3⊢;omega,ba⟩ ?_;simp[lH];exact⟨by simp[fresh,kinL,kin,cA,aI,Pv.look,jO,fK],fh (by simp[fresh,kinL,kin,cA,aI,Pv.look,jO,fK]),fi (by simp[fresh,kinL,kin,eD,aI,Pv.look,jO,fK]),Ψ⟩
end
end Go.Proofs.YtlnndmgfngfeiaaDoor
