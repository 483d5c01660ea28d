/- The law of solutions. -/
import Derived.Test.YtahlgcidhnjlbaaGreatProg
import Derived.Test.YtahlgcidhnjlbaaGreatX6
set_option linter.all false
set_option maxHeartbeats 4000000
open Bool renaming and_eq_true→cC
open Go.Proofs.Tryz renaming f6→kx,prog→al
open Go.Proofs.YtahlgcidhnjlbaaGreat.Rows renaming fnExactIsSolutionRow→jH,fnExactIsSolutionSpec→r6
open List renaming all_eq_true→gh,getElem?_eq_getElem→cf,getElem?_eq_some_iff→fi,mem_of_getElem?→dL
open Option renaming getD_some→j9,isSome_some→po
open Option.some renaming inj→fj
open _root_ renaming UInt8→dz,decide_eq_false→iq,decide_eq_false_iff_not→gz,decide_eq_true→hA,decide_eq_true_eq→fk
namespace Go.Proofs.YtahlgcidhnjlbaaGreat
open Go
set_option maxRecDepth 100000 in
theorem YF:joinedFacts al 6 kx r6 jH=true:=(h5 (h5 (h5 (h5 (h5 (h5 (h5 (h5 (h5 (h5 (h5 (h5 (h5 (h5 (h5 (h5 (h5 (h5 (h5 (h5 (h5 (h5 (h5 (h5 (h5 (h5 (h5 (h5 (h5 (h5 (h5 X9 Ya) Yl) Yw) Yz) YA) YB) YC) YD) YE) Yb) Yc) Yd) Ye) Yf) Yg) Yh) Yi) Yj) Yk) Ym) Yn) Yo) Yp) Yq) Yr) Ys) Yt) Yu) Yv) Yx) Yy)
end Go.Proofs.YtahlgcidhnjlbaaGreat
namespace Go.Proofs.YtahlgcidhnjlbaaGreat
open Go Go.Pv
@[simp] def aqb:List bu:=[.tmp 6]
def DW:C:=(aa [cN 2 0,be 4 false] (aa [bS 5 1048576] (aa [a7 10 5 2,I 11 5,b4 12 26 10 11,I 5 12] (.seq (aa [I 13 5,aT 14 .lss 13 0] (aS 14 (aa [be 4 true] .ret) .skip)) (aa [I 15 1,I 16 5,b4 17 33 15 16,I 5 17] (.seq (aa [I 18 5,aT 19 .lss 18 0] (aS 19 (aa [be 4 true] .ret) .skip)) (aa [a7 20 5 2,cM 21 28 20,I 22 1,cM 23 35 22,b4 24 34 21 23,I 6 24] (aa [a7 25 5 2,cM 26 28 25,dh 7 oj,bM 5 7 26] (aa [I 27 1,cM 28 35 27,I 8 28] (aa [a7 29 5 7,I 30 8,b4 31 36 29 30,I 9 31] (.seq (aa [I 32 9,I 33 6,b7 34 (.beq true none (.t 32) (.t 33))] (aS 34 (aa [be 4 false] .ret) .skip)) (.seq (.seq (.drawn true 45 [a7 35 5 7,a7 36 5 2,cM 37 28 36,b4 38 30 35 37,cx 39 38]) (aS 39 (aa [be 4 false] .ret) .skip)) (.seq (aa [I 40 8,I 41 1,cM 42 35 41,b4 43 37 40 42,cx 44 43] (aS 44 (aa [be 4 false] .ret) .skip)) (aa [be 4 true] .ret))))))))))))))
@[simp] def aiO:List bu:=[.tmp 4]
@[simp] def aqc:List bu:=[.tmp 6]
@[simp] def aqa:List bu:=[.tmp 4]
@[simp] def aqd:List bu:=[.tmp 4]
@[simp] def aqi:List bu:=[.tmp 6]
@[simp] def apR:List bu:=[.tmp 6]
def A1:C:=(aa [cN 2 0,be 4 false] (.seq (aa [a7 7 5 2,cM 8 27 7,cx 9 8,I 10 9,bZ 10 false 11 1,aq 10 false (cM 12 98 11),aq 10 false (cx 13 12),c2 14 10 13,I 15 14,bZ 15 false 16 1,aq 15 false (cb 17 16),aq 15 false (aF 18 0 1 2),aq 15 false (aw 19 1 18),aq 15 false (bh 20 .neq 17 19),c2 21 15 20] (aS 21 (aa [be 4 false] .ret) .skip)) (.seq (aa [I 22 1,cb 23 22,bS 24 0] (fe 25 24 23 (.seq (.block 1 (aa [I 26 24,cj 27 5 22 24,a7 28 5 27,dh 6 ij,I 5 26,bM 5 6 28] (aa [aF 29 0 1 6,aw 30 1 29,I 31 5,bh 32 .neq 30 31,I 33 32,aq 33 false (gq 34 1 4 6),aq 33 false (a7 35 4 34),aq 33 false (cM 36 99 35),aq 33 false (cx 37 36),c2 38 33 37] (aS 38 (aa [be 4 false] .ret) .skip)))) (.region [aT 39 .add 24 1,I 24 39])))) (aa [a7 40 5 2,I 41 1,b4 42 100 40 41,I 4 42] .ret))))
@[simp] def Lf:List bu:=[.tmp 4]
def Hw:C:=(aa [cN 2 0,be 4 false] (aa [a7 5 5 2,cM 6 29 5,I 7 6,aq 7 true (a7 8 5 2),bZ 7 true 9 1,aq 7 true (b4 10 102 8 9),dy 11 7 10,I 4 11] .ret))
@[simp] def aiC:List bu:=[.tmp 4]
@[simp] def aqj:List bu:=[.tmp 6]
@[simp] def apS:List bu:=[.tmp 6]
@[simp] def aqg:List bu:=[.tmp 4]
@[simp] def apO:List bu:=[.tmp 4]
@[simp] def aqn:List bu:=[.tmp 4]
@[simp] def apY:List bu:=[.tmp 4]
@[simp] def aql:List bu:=[.cell 6 true 5,.tmp 7]
@[simp] def apV:List bu:=[.cell 6 true 5,.tmp 7]
@[simp] def aqm:List bu:=[.cell 6 true 5,.tmp 7]
@[simp] def apX:List bu:=[.cell 6 true 5,.tmp 7]
@[simp] def aqk:List bu:=[.cell 6 true 5,.tmp 7]
@[simp] def apT:List bu:=[.cell 6 true 5,.tmp 7]
@[simp] def aqh:List bu:=[.cell 6 true 5,.tmp 7]
@[simp] def apP:List bu:=[.cell 6 true 5,.tmp 7]
@[simp] def aqo:List bu:=[.tmp 2]
@[simp] def aqr:List bu:=[.tmp 6]
@[simp] def aqq:List bu:=[.tmp 6]
@[simp] def aqw:List bu:=[.tmp 6]
@[simp] def ap7:List bu:=[.tmp 4]
def O8:C:=(aa [be 2 false] (aa [I 3 0,cM 4 145 3,I 2 4] .ret))
@[simp] def aju:List bu:=[.tmp 2]
def HP:C:=(aa [cN 1 0,be 2 false] (aa [a7 3 4 1,cM 4 56 3,I 5 4,aq 5 true (a7 6 4 1),⟨(some (5,true)),.call (some 7) (.c (.func 58 [])) [.t 6,(.c (.slice 1 .nil []))]⟩,aq 5 true (cb 8 7),aq 5 true (aT 9 .eql 8 0),dy 10 5 9,I 2 10] .ret))
@[simp] def U1:List bu:=[.tmp 2]
def Px:C:=(aa [cN 2 0,be 4 false] (.seq (aa [aF 21 1 1 2,aw 22 1 21,cb 23 22,bS 24 0] (fe 25 24 23 (.seq (.block 1 (aa [cj 26 5 22 24,a7 27 5 26,dh 6 ij,bM 5 6 27] (aa [I 29 1,aF 30 0 1 6,aw 31 1 30,b4 32 146 29 31,I 28 32,cH 33 0 28,cH 34 1 28,dh 7 dt,bM 4 7 33,I 8 34] (aa [I 36 1,gq 37 1 4 6,a7 38 4 37,b4 39 60 36 38,I 35 39,cH 40 0 35,cH 41 1 35,dh 9 dt,bM 4 9 40,I 10 41] (aa [I 42 10,cx 43 42,I 44 43,aq 44 false (a7 45 4 7),aq 44 false (a7 46 4 9),aq 44 false (b4 47 129 45 46),aq 44 false (cx 48 47),c2 49 44 48] (aS 49 (aa [be 4 false] .ret) .skip)))))) (.region [aT 50 .add 24 1,I 24 50])))) (.seq (aa [aF 51 2 1 2,aw 52 1 51,cb 53 52,bS 54 0] (.block 2 (.loop (aa [bh 55 .lss 54 53] (.seq (aS 55 .skip (.exit 2)) (.seq (.block 3 (aa [cj 56 1 52 54,aw 57 1 56,I 12 57] (aa [I 58 12,I 59 1,b4 60 173 58 59,cx 61 60] (aS 61 (aa [be 4 false] .ret) .skip)))) (.region [aT 62 .add 54 1,I 54 62]))))))) (.seq (aa [aF 63 3 1 2,aw 64 1 63,cb 65 64,bS 66 0] (.block 4 (.loop (aa [bh 67 .lss 66 65] (.seq (aS 67 .skip (.exit 4)) (.seq (.block 5 (aa [cj 68 2 64 66,a7 69 2 68,cU (.alloc 14 none (.agg [.int .i64 0,.int .i64 0])),bM 2 14 69] (aa [I 71 1,aF 72 0 1 14,aw 73 1 72,b4 74 146 71 73,I 70 74,cH 75 0 70,cH 76 1 70,dh 15 dt,bM 4 15 75,I 16 76] (aa [aF 77 0 1 15,aw 78 1 77,aF 79 1 1 14,aw 80 1 79,bh 81 .neq 78 80] (aS 81 (aa [be 4 false] .ret) .skip))))) (.region [aT 82 .add 66 1,I 66 82]))))))) (.seq (aa [aF 83 4 1 2,aw 84 1 83,cb 85 84,bS 86 0] (.block 6 (.loop (aa [bh 87 .lss 86 85] (.seq (aS 87 .skip (.exit 6)) (.seq (.block 7 (aa [cj 88 2 84 86,a7 89 2 88,cU (.alloc 18 none (.agg [.int .i64 0,.str []])),bM 2 18 89] (aa [I 91 1,aF 92 0 1 18,aw 93 1 92,b4 94 146 91 93,I 90 94,cH 95 0 90,cH 96 1 90,dh 19 dt,bM 4 19 95,I 20 96] (aa [a7 97 4 19,aF 98 1 1 18,aw 99 1 98,b4 100 174 97 99] (aS 100 (aa [be 4 false] .ret) .skip))))) (.region [aT 101 .add 86 1,I 86 101]))))))) (aa [be 4 true] .ret))))))
@[simp] def U9:List bu:=[.tmp 4]
def DT:C:=(aa [cN 2 0,be 4 false] (.seq (aa [I 17 1,cM 18 158 17,cx 19 18,I 20 19,bZ 20 false 21 1,aq 20 false (cb 22 21),aq 20 false (aF 23 0 1 2),aq 20 false (aw 24 1 23),aq 20 false (bh 25 .neq 22 24),c2 26 20 25] (aS 26 (aa [be 4 false] .ret) .skip)) (.seq (aa [I 27 1,cb 28 27,bS 29 0] (fe 30 29 28 (.seq (.block 1 (aa [I 31 29,cj 32 5 27 29,a7 33 5 32,dh 6 ij,I 5 31,bM 5 6 33] (aa [aF 34 0 1 6,aw 35 1 34,I 36 5,bh 37 .neq 35 36,I 38 37,aq 38 false (gq 39 1 4 6),aq 38 false (a7 40 4 39),aq 38 false (cM 41 175 40),aq 38 false (cx 42 41),c2 43 38 42] (aS 43 (aa [be 4 false] .ret) .skip)))) (.region [aT 44 .add 29 1,I 29 44])))) (.seq (aa [aF 45 1 1 2,aw 46 1 45,cb 47 46,bS 48 0] (.block 2 (.loop (aa [bh 49 .lss 48 47] (.seq (aS 49 .skip (.exit 2)) (.seq (.block 3 (aa [cj 50 5 46 48,a7 51 5 50,dh 8 ij,bM 5 8 51] (aa [I 53 1,gq 54 1 4 8,a7 55 4 54,b4 56 69 53 55,I 52 56,cH 57 0 52,cH 58 1 52,dh 9 dt,bM 4 9 57,I 10 58] (.seq (.drawn true 120 [I 59 10,cx 60 59,I 61 60,aq 61 false (a7 62 4 9),bZ 61 false 63 1,aq 61 false (aF 64 0 1 8),aq 61 false (aw 65 1 64),aq 61 false (cj 66 5 63 65),aq 61 false (gq 67 1 4 66),aq 61 false (a7 68 4 67),aq 61 false (b4 69 142 62 68),aq 61 false (cx 70 69),c2 71 61 70]) (aS 71 (aa [be 4 false] .ret) .skip))))) (.region [aT 72 .add 48 1,I 48 72]))))))) (.seq (aa [aF 73 2 1 2,aw 74 1 73,cb 75 74,bS 76 0] (.block 4 (.loop (aa [bh 77 .lss 76 75] (.seq (aS 77 .skip (.exit 4)) (.seq (.block 5 (aa [cj 78 1 74 76,aw 79 1 78,I 12 79] (aa [I 80 12,I 81 1,b4 82 176 80 81,cx 83 82] (aS 83 (aa [be 4 false] .ret) .skip)))) (.region [aT 84 .add 76 1,I 76 84]))))))) (.seq (aa [aF 85 3 1 2,aw 86 1 85,cb 87 86,bS 88 0] (.block 6 (.loop (aa [bh 89 .lss 88 87] (.seq (aS 89 .skip (.exit 6)) (.seq (.block 7 (aa [cj 90 2 86 88,a7 91 2 90,cU (.alloc 14 none (.agg [.int .i64 0,.int .i64 0])),bM 2 14 91] (.seq (.drawn true 120 [I 92 1,aF 93 0 1 14,aw 94 1 93,cj 95 5 92 94,gq 96 1 4 95,aF 97 0 1 96,aw 98 1 97,aF 99 1 1 14,aw 100 1 99,bh 101 .neq 98 100]) (aS 101 (aa [be 4 false] .ret) .skip)))) (.region [aT 102 .add 88 1,I 88 102]))))))) (.seq (aa [aF 103 4 1 2,aw 104 1 103,cb 105 104,bS 106 0] (.block 8 (.loop (aa [bh 107 .lss 106 105] (.seq (aS 107 .skip (.exit 8)) (.seq (.block 9 (aa [cj 108 2 104 106,a7 109 2 108,cU (.alloc 16 none (.agg [.int .i64 0,.str []])),bM 2 16 109] (.seq (.drawn true 120 [I 110 1,aF 111 0 1 16,aw 112 1 111,cj 113 5 110 112,gq 114 1 4 113,a7 115 4 114,aF 116 1 1 16,aw 117 1 116,b4 118 177 115 117]) (aS 118 (aa [be 4 false] .ret) .skip)))) (.region [aT 119 .add 106 1,I 106 119]))))))) (aa [be 4 true] .ret))))))))
@[simp] def F5:List bu:=[.tmp 4]
@[simp] def aqu:List bu:=[.cell 2 true 5]
@[simp] def ap6:List bu:=[.cell 2 true 5]
@[simp] def aqt:List bu:=[.cell 12 true 5,.tmp 13]
@[simp] def aqv:List bu:=[.cell 12 true 5,.tmp 13]
@[simp] def ap1:List bu:=[.tmp 6,.tmp 7]
@[simp] def apQ:List bu:=[.tmp 6,.tmp 7]
def O2:C:=(aa [be 4 false] (.seq (aa [I 11 0,cM 12 76 11,cx 13 12] (aS 13 (aa [be 4 false] .ret) .skip)) (.seq (aa [I 14 0,cb 15 14,bS 16 0] (fe 17 16 15 (.seq (.block 1 (aa [cj 18 5 14 16,a7 19 5 18,dh 6 ij,bM 5 6 19] (aa [aF 21 0 1 6,aw 22 1 21,cM 23 114 22,I 24 1,b4 25 209 23 24,I 20 25,cH 26 0 20,cH 27 1 20,dh 7 dt,bM 4 7 26,I 8 27] (aa [gq 29 1 4 6,a7 30 4 29,I 31 1,b4 32 209 30 31,I 28 32,cH 33 0 28,cH 34 1 28,dh 9 dt,bM 4 9 33,I 10 34] (aa [I 35 8,I 36 35,bZ 36 true 37 10,dy 38 36 37,I 39 38,aq 39 true (a7 40 4 7),aq 39 true (a7 41 4 9),aq 39 true (b4 42 129 40 41),aq 39 true (cx 43 42),dy 44 39 43] (aS 44 (aa [be 4 true] .ret) .skip)))))) (.region [aT 45 .add 16 1,I 16 45])))) (aa [be 4 false] .ret))))
@[simp] def ajq:List bu:=[.tmp 4]
def O1:C:=(aa [cN 2 0,be 4 false] (aa [a7 5 4 2,cM 6 56 5,I 7 6,aq 7 true (a7 8 4 2),bZ 7 true 9 1,aq 7 true (b4 10 210 8 9),dy 11 7 10,I 4 11] .ret))
@[simp] def ajp:List bu:=[.tmp 4]
def Ny:C:=(aa [be 4 false] (.seq (aa [I 11 0,cM 12 86 11,cx 13 12,I 14 13,bZ 14 false 15 1,aq 14 false (cM 16 158 15),aq 14 false (cx 17 16),c2 18 14 17] (aS 18 (aa [be 4 false] .ret) .skip)) (.seq (aa [I 19 0,cb 20 19,bS 21 0] (fe 22 21 20 (.seq (.block 1 (aa [cj 23 5 19 21,a7 24 5 23,dh 6 ij,bM 5 6 24] (aa [I 26 1,aF 27 0 1 6,aw 28 1 27,cM 29 116 28,b4 30 69 26 29,I 25 30,cH 31 0 25,cH 32 1 25,dh 7 dt,bM 4 7 31,I 8 32] (aa [I 34 1,gq 35 1 4 6,a7 36 4 35,b4 37 69 34 36,I 33 37,cH 38 0 33,cH 39 1 33,dh 9 dt,bM 4 9 38,I 10 39] (aa [I 40 8,I 41 40,bZ 41 true 42 10,dy 43 41 42,I 44 43,aq 44 true (a7 45 4 7),aq 44 true (a7 46 4 9),aq 44 true (b4 47 142 45 46),aq 44 true (cx 48 47),dy 49 44 48] (aS 49 (aa [be 4 true] .ret) .skip)))))) (.region [aT 50 .add 21 1,I 21 50])))) (aa [be 4 false] .ret))))
@[simp] def Ut:List bu:=[.tmp 4]
@[simp] def aqp:List bu:=[.tmp 2]
@[simp] def aqs:List bu:=[.tmp 2]
@[simp] def ap9:List bu:=[.tmp 6,.tmp 7]
def HO:C:=(aa [cN 2 0,dh 4 dt,be 5 false] (.seq (aa [a7 8 4 2,cM 9 56 8,cx 10 9,I 11 10,bZ 11 false 12 1,aq 11 false (cM 13 98 12),aq 11 false (cx 14 13),c2 15 11 14] (aS 15 (aa [j7 16 dt [],bM 4 4 16,be 5 false] .ret) .skip)) (aa [I 18 1,a7 19 4 2,b4 20 60 18 19,I 17 20,cH 21 0 17,cH 22 1 17,dh 6 dt,bM 4 6 21,I 7 22] (.seq (aa [I 23 7,cx 24 23] (aS 24 (aa [j7 25 dt [],bM 4 4 25,be 5 false] .ret) .skip)) (aa [a7 26 4 6,cM 27 130 26,bM 4 4 27,be 5 true] .ret)))))
@[simp] def ajr:List bu:=[.cell 4 true 4,.tmp 5]
def qJ:List (Nat×dA):=[
 (3,⟨1,8,.int .i64,.int .i64 0⟩),
 (4,⟨1,1,.bool,.bool false⟩),
 (9,⟨1,16,.str,.str []⟩),
 (24,⟨4,56,.struct [(0,3),(1,3),(2,9),(3,22)],.agg [.int .i64 0,.int .i64 0,.str [],.slice 4 .nil []]⟩),
 (27,⟨1,24,.slice 30,.slice 4 .nil []⟩),
 (30,⟨4,56,.struct [(0,3),(1,3),(2,9),(3,27)],.agg [.int .i64 0,.int .i64 0,.str [],.slice 4 .nil []]⟩),
 (43,⟨5,104,.struct [(0,3),(1,38),(2,39),(3,40),(4,41)],.agg [.int .i64 0,.slice 5 .nil [],.slice 1 .nil [],.slice 2 .nil [],.slice 2 .nil []]⟩),
 (46,⟨1,24,.slice 113,.slice 5 .nil []⟩),
 (47,⟨1,24,.slice 46,.slice 1 .nil []⟩),
 (48,⟨1,24,.slice 98,.slice 2 .nil []⟩),
 (49,⟨1,24,.slice 100,.slice 2 .nil []⟩),
 (51,⟨5,104,.struct [(0,3),(1,46),(2,47),(3,48),(4,49)],.agg [.int .i64 0,.slice 5 .nil [],.slice 1 .nil [],.slice 2 .nil [],.slice 2 .nil []]⟩),
 (76,⟨1,24,.slice 3,.slice 1 .nil []⟩),
 (98,⟨2,16,.struct [(0,3),(1,3)],.agg [.int .i64 0,.int .i64 0]⟩),
 (100,⟨2,24,.struct [(0,3),(1,9)],.agg [.int .i64 0,.str []]⟩),
 (113,⟨5,64,.struct [(0,3),(1,30)],.agg [.int .i64 0,.int .i64 0,.int .i64 0,.str [],.slice 4 .nil []]⟩)]
theorem k3:fL al qJ=true:=by kernel_rfl
theorem KL:b0 qJ DW aiO 2 kx=true:=by kernel_rfl
theorem Ip:al.funcs[(6:Nat)]? =some kx:=Tryz.func6
theorem FL:b0 qJ A1 Lf 2 Tryz.f34=true:=by kernel_rfl
theorem Ei:al.funcs[(34:Nat)]? =some Tryz.f34:=Tryz.func34
theorem TS:b0 qJ Hw aiC 2 Tryz.f36=true:=by kernel_rfl
theorem Qc:al.funcs[(36:Nat)]? =some Tryz.f36:=Tryz.func36
theorem ahT:b0 qJ O8 aju 1 Tryz.f98=true:=by kernel_rfl
theorem abn:al.funcs[(98:Nat)]? =some Tryz.f98:=Tryz.func98
theorem T6:b0 qJ HP U1 1 Tryz.f99=true:=by kernel_rfl
theorem Qq:al.funcs[(99:Nat)]? =some Tryz.f99:=Tryz.func99
theorem aih:b0 qJ Px U9 2 Tryz.f100=true:=by kernel_rfl
theorem abL:al.funcs[(100:Nat)]? =some Tryz.f100:=Tryz.func100
theorem KI:b0 qJ DT F5 2 Tryz.f102=true:=by kernel_rfl
theorem Il:al.funcs[(102:Nat)]? =some Tryz.f102:=Tryz.func102
theorem ahN:b0 qJ O2 ajq 2 Tryz.f173=true:=by kernel_rfl
theorem abh:al.funcs[(173:Nat)]? =some Tryz.f173:=Tryz.func173
theorem ahM:b0 qJ O1 ajp 2 Tryz.f174=true:=by kernel_rfl
theorem abg:al.funcs[(174:Nat)]? =some Tryz.f174:=Tryz.func174
theorem agp:b0 qJ Ny Ut 2 Tryz.f176=true:=by kernel_rfl
theorem ZT:al.funcs[(176:Nat)]? =some Tryz.f176:=Tryz.func176
theorem T5:b0 qJ HO ajr 2 Tryz.f209=true:=by kernel_rfl
theorem Qp:al.funcs[(209:Nat)]? =some Tryz.f209:=Tryz.func209
def B6(t:T)(k:Nat)(st:bq):Prop:=
 (k=t.args.length∧st=⟨[(2,.ptr (.loc 1) 0),(3,.ptr (.loc 2) 0),(14,.slice 4 .no (t.args.map T.e)),(15,.int .i64 t.args.length),(16,.int .i64 0)],[(.loc 1,[.int .i64 0,.int .i64 0,.str [],.slice 4 .nil []]),(.loc 2,[.int .i64 t.kind,.int .i64 t.int,.str t.name,.slice 4 .nil []])],[],3,[]⟩)∨
 ∃i:Nat,1≤i∧i≤t.args.length∧k=t.args.length-i∧st=⟨[(2,.ptr (.loc 1) 0),(3,.ptr (.loc 2) 0),(14,.slice 4 .no (t.args.map T.e)),(15,.int .i64 t.args.length),(16,.int .i64 i)],[(.loc 1,[.int .i64 0,.int .i64 0,.str [],.slice 4 .nil []]),(.loc 2,[.int .i64 t.kind,.int .i64 t.int,.str t.name,.slice 4 (.own (.loc 29)) ((t.args.take i).map T.e)])],[(.loc 29,⟨i,30,4,none⟩)],30,[]⟩
set_option maxRecDepth 4000 in
theorem alk(t:T):bF al 130 [t.e] t.e:=by
 induction t with
 |pair a b dS dT=>
  refine bm fH Bb CC fun aQ=>?_;unfold yE;simp;refine oU (B6 (.pair a b)) 2 _ bW (.inl ⟨rfl,rfl⟩) ?_;rintro k st (⟨ab,rfl⟩|⟨i,J,U,ab,rfl⟩) kD cL;all_goals clear kD cL
  ·simp;(with_reducible repeat' first|refine aj ?_|refine aD dS ?_|refine aE dS ?_|simp);refine bO.next 1 (by rw[ab];simp) (.inr ⟨1,by omega,by simp,rfl,rfl⟩) bW
  ·rcases(by simp at U;omega:i=1∨i=2)with rfl|rfl
   ·simp;(with_reducible repeat' first|refine aj ?_|refine aD dT ?_|refine aE dT ?_|simp);refine bO.next 0 (by rw[ab];simp) (.inr ⟨2,by omega,by simp,rfl,rfl⟩) bW
   ·exact b5
 |nil=>
  refine bm fH Bb CC fun aQ=>?_;unfold yE;simp;refine oU (B6 (.nil)) 0 _ bW (.inl ⟨rfl,rfl⟩) ?_;rintro k st (⟨ab,rfl⟩|⟨i,J,U,ab,rfl⟩) kD cL;all_goals clear kD cL
  ·exact b5
  ·simp at U;omega
 |var n=>
  refine bm fH Bb CC fun aQ=>?_;unfold yE;simp;refine oU (B6 (.var n)) 0 _ bW (.inl ⟨rfl,rfl⟩) ?_;rintro k st (⟨ab,rfl⟩|⟨i,J,U,ab,rfl⟩) kD cL;all_goals clear kD cL
  ·exact b5
  ·simp at U;omega
 |sym s=>
  refine bm fH Bb CC fun aQ=>?_;unfold yE;simp;refine oU (B6 (.sym s)) 0 _ bW (.inl ⟨rfl,rfl⟩) ?_;rintro k st (⟨ab,rfl⟩|⟨i,J,U,ab,rfl⟩) kD cL;all_goals clear kD cL
  ·exact b5
  ·simp at U;omega
 |num n=>
  refine bm fH Bb CC fun aQ=>?_;unfold yE;simp;refine oU (B6 (.num n)) 0 _ bW (.inl ⟨rfl,rfl⟩) ?_;rintro k st (⟨ab,rfl⟩|⟨i,J,U,ab,rfl⟩) kD cL;all_goals clear kD cL
  ·exact b5
  ·simp at U;omega
theorem kn.fin{α:Type}{p:α→Bool}{s:List α}(h:kn p s s.length ()):∀b∈s,p b=true:=fun b ad=>by obtain⟨i,hi⟩:=List.mem_iff_getElem?.1 ad;exact h i b (by have:=(fi.1 hi).1;omega) hi
theorem akB(r:nU)(m:Int)(h:0≤m):s6 r m≤m:=by
 have ch:=uR r.b m h;unfold s6;split
 ·omega
 have b6:=uS uR r.d (hy r.b m) (by omega);split
 ·omega
 have fC:=L7 r.k (gI hy r.d (hy r.b m)) (by omega);split
 ·omega
 have nW:=uS De r.m (oA r.k (gI hy r.d (hy r.b m))) (by omega);split<;>omega
def _root_.Go.Pv.T.gnd:T→Bool
 | .var _=>false
 | .pair a b=>a.gnd&&b.gnd
 |_=>true
def l1(b:Bool):cK:=⟨[(.obj 501,[.bool b])],[]⟩
theorem DB(b:Bool):ed (l1 b):=by unfold l1;exact(ed.of ⟨by intro m;simp[Pv.look],by intro m;simp[Pv.look]⟩ (by simp[aI,aB,inObs,Pv.look]) (by simp[aI,aB,inObs,Pv.look]))
theorem G6(a b:Bool):Same (l1 a) (l1 b):=⟨fun k=>by simp only[l1,Pv.look];split<;>rfl,fun _=>rfl⟩
theorem aci(v:Int)(b:Bool):bN al 211 [.int .i64 v,.ptr (.obj 501) 0] (l1 b) fun r ai=>r= .tuple []∧ai=l1 false:=by have ag:=DB b;unfold l1 at ag⊢;refine bN.mk mixed wq aam agS (by simp) ag.obj fun aQ cL=>?_;unfold N2;simp;refine cT.at (l1 false) (.inr rfl) (DB _) (G6 b false) (by unfold l1;exact aR) (by unfold l1;exact aR) ?_;simp[cY,UL,aW,aX,aV];simp[l1]
theorem abX(t:T)(b:Bool):t.fold (fun _ _=>false) b=(b&&t.gnd):=by
 induction t generalizing b with
 |pair x y nC pJ=>simp[T.fold,T.gnd,nC,pJ,Bool.and_assoc]
 |_=>simp[T.fold,T.gnd]
theorem ali(t:T):bF al 175 [t.e] (.bool t.gnd):=by refine bm wq aal agR fun aQ=>?_;unfold N1;simp;refine c6.ob (IE l1 DB G6 211 [.ptr (.obj 501) 0] (by intro a;simp[inObs,l1,Pv.look,aI,aB]) (by simp) (fun _ _=>false) aci t true) (DB true) (by unfold l1;exact aR) (by unfold l1;exact aR) (by simp[inObs,l1,Pv.look]) ?_;rintro r ai ⟨rfl,rfl⟩;refine⟨G6 _ _,?_⟩;unfold l1;simp[cz,abX];simp[bz,UK,aW,aX,aV]
structure rY (n:Int) (v:List ar):Prop where
 ok:j4 v
 asc:hB v
 fits:gi v
 len:(v.length:Int)=n
 at':∀(i:Nat) b,v[i]? =some b→b.v=(i:Int)
 gnd:∀b∈v,b.t.gnd=true
theorem rY.get{n:Int}{v:List ar}(h:rY n v){w:Int}(bA:0≤w)(J:w<n):∃b:ar,v[w.toNat]? =some b∧df v w=some b.t∧bR v w=b.t:=by
 have av:=h.len;have hi:w.toNat<v.length:=by omega
 have e:=cf hi;have aC:=h.at' _ _ e;have bk:=tA h.asc (List.getElem_mem hi);rw[aC,Int.toNat_of_nonneg bA]at bk;exact⟨_,e,bk,by rw[bR,bk];rfl⟩
theorem VE{v:List ar}(h:gi v)(w:Int):(bR v w).size≤5000:=by
 unfold bR;cases e:df v w with
 |none=>simp[T.size]
 |some x=>exact h.2 _ (jI e)
theorem j4.fit{v:List ar}(h:j4 v)(aJ:gi v):wX v:=fun b ad=>by simp[T.fit,(h b ad).2,aJ.2 b ad]
def rn(v:List ar)(b:ar):Bool:=decide ((b.t.ap (bR v)).size≤5000)&& !decide (bR v b.v=b.t.ap (bR v))
def kR(v:List ar)(d:List ar):Bool:=d.any (rn v)
open Classical in
theorem akS{v:List ar}(aG:j4 v)(hF:gi v)(bt:hB v){d:List ar}(aP:eD d):bF al 176 [.slice 5 .no (d.map ar.e),.slice 5 .no (v.map ar.e)] (.bool (kR v d)):=by
 have de:=pd aP;have fq:=Ml (v.map ar.b);rw[hA (tg.2 ⟨v,rfl,aG,bt,hF⟩),rD]at fq;have iT:v.length≤1000000:=by have:=hF.1;omega
 have xb:=aP.len;have j0:=j4.fit aG hF;generalize bf:kR v d=R;refine bm k3 ZT agp fun aQ=>?_;unfold Ny;clear aQ;simp;((with_reducible repeat' first|refine aj ?_|refine aD de ?_|refine aE de ?_|refine aD fq ?_|refine aE fq ?_|simp|((first|apply bL|apply bQ|apply bP)<;>intro h<;>try simp at h))<;>(try exact cq));refine dI [1,19,20] (fun i (_:Unit)=>[(21,.int .i64 i)]) d.length (kn (fun b=> !rn v b) d) () bW (fun k b ab=>by omega) (fun _ af _=>?_) (fun i _ hi af _=>?_)
 ·have:R=false:=by rw[←bf,kR,List.any_eq_false];intro b ad;have:=af.fin b ad;simpa using this
  subst this;clear af bf de fq;exact b5
 ·obtain⟨b,ad,cy⟩:=dP hi;have aU:=yk v (.var b.v) iT bt j0;have bG:=yk v b.t iT bt j0;have ak:((T.var b.v).ap (bR v)).size≤5000:=VE hF b.v;rw[if_pos ak,hA ak]at aU;have b9:=qL (bR v b.v) (b.t.ap (bR v));have cu:rn v b=(decide ((b.t.ap (bR v)).size≤5000)&& !decide (bR v b.v=b.t.ap (bR v))):=rfl;have hM:rn v b=true→R=true:=fun h=>by rw[←bf,kR,List.any_eq_true];exact⟨b,dL ad,h⟩
  have cB:=fun h:rn v b=false=>af.step ad (by rw[h];rfl);rw[show(T.var b.v).ap (bR v)=bR v b.v from rfl]at aU;clear af bf de fq ad ak;generalize rn v b=H at cu hM cB;by_cases bp:(b.t.ap (bR v)).size≤5000
  ·rw[if_pos bp,hA bp]at bG;rw[hA bp,Bool.true_and]at cu;generalize b.t.ap (bR v)=y at bG b9 cu;generalize bR v b.v=x at aU b9 cu;generalize decide (x=y)=q at b9 cu;cases q
   ·have:=hM cu;subst this;simp[hi,cy];(with_reducible repeat' first|refine aj ?_|refine aD (jc _) ?_|refine aE (jc _) ?_|refine aD aU ?_|refine aE aU ?_|refine aD bG ?_|refine aE bG ?_|refine aD b9 ?_|refine aE b9 ?_|simp[cy,hi]);all_goals simp[bz,Ut,aW,aX,aV]
   ·have aA:=cB cu;simp[hi,cy];(with_reducible repeat' first|refine aj ?_|refine aD (jc _) ?_|refine aE (jc _) ?_|refine aD aU ?_|refine aE aU ?_|refine aD bG ?_|refine aE bG ?_|refine aD b9 ?_|refine aE b9 ?_|simp[cy,hi]);all_goals exact bO.rng () hi aA bW
  ·rw[if_neg bp,iq bp]at bG;rw[iq bp,Bool.false_and]at cu;have aA:=cB cu;clear b9 cu;generalize bR v b.v=x at aU;simp[hi,cy];(with_reducible repeat' first|refine aj ?_|refine aD (jc _) ?_|refine aE (jc _) ?_|refine aD aU ?_|refine aE aU ?_|refine aD bG ?_|refine aE bG ?_|simp[cy,hi]);all_goals exact bO.rng () hi aA bW
def o9(v:List ar)(b:ar):Bool:=decide ((b.t.ap (bR v)).size≤5000)&&decide (b.t.ap (bR v)=bR v b.v)
structure rS (s:dN) (v:List ar):Prop where
 b:s.b.all (o9 v)=true
 d:s.d.all (kR v)=true
 k:s.k.all (fun k=>decide ((bR v k.v).kind=k.k))=true
 m:s.m.all (fun m=> !(bR v m.v).has m.s)=true
def vD(s:dN)(l:List cI):Prop:= ∃v:List ar,l=v.map ar.b∧rY s.n v∧rS s v
def Ca(v:List ar)(i:Nat)(_:Unit):Prop:= ∀k b,k<i→v[k]? =some b→b.v=(k:Int)∧b.t.gnd=true
theorem Ca.step{v:List ar}{i:Nat}(h:Ca v i ()){b:ar}(ad:v[i]? =some b)(bI:b.v=(i:Int)∧b.t.gnd=true):Ca v (i+1) ():=fun k c ab au=>by
 rcases Nat.lt_or_ge k i with J|J
 ·exact h k c J au
 ·have:k=i:=by omega
  subst this;rw[ad]at au;cases au;exact bI
open Classical in
theorem alj{s:dN}(ag:uP s)(l:List cI):bF al 102 [s.e,.slice 5 .no (l.map cI.e)] (.bool (decide (vD s l))):=by
 have fq:=Ml l;generalize bf:decide (vD s l)=R;by_cases g1:tu l;rotate_left
 ·rw[iq g1]at fq;have:R=false:=by rw[←bf,gz];rintro⟨v,rfl,h,_⟩;exact g1 (tg.2 ⟨v,rfl,h.ok,h.asc,h.fits⟩)
  subst this;clear bf g1 ag;obtain⟨n,b,d,k,m⟩:=s;simp only[dN.e]at fq⊢;refine bm k3 Il KI fun aQ=>?_;unfold DT;exact b5
 rw[hA g1]at fq;obtain⟨v,rfl,oe,o4,hF⟩:=tg.1 g1;clear g1;rw[rD]at fq⊢;by_cases g2:(v.length:Int)=s.n;rotate_left
 ·have:R=false:=by rw[←bf,gz];rintro⟨w,e,h,_⟩;rw[ps e]at g2;exact g2 h.len
  subst this;have w1:s.n≠(v.length:Int):=fun h=>g2 h.symm;clear bf ag oe o4 hF;obtain⟨n,b,d,k,m⟩:=s;simp only[dN.e]at fq g2 w1⊢;refine bm k3 Il KI fun aQ=>?_;unfold DT;simp;((with_reducible repeat' first|refine aj ?_|refine aD fq ?_|refine aE fq ?_|simp[g2,w1]|((first|apply bL|apply bQ|apply bP)<;>intro h<;>try simp at h))<;>(try exact cq));all_goals simp[bz,F5,aW,aX,aV]
 have cB:¬(rY s.n v∧rS s v)→R=false:=fun h=>by rw[←bf,gz];rintro⟨w,e,J,U⟩;rw[ps e]at h;exact h ⟨J,U⟩
 have hM:rY s.n v→rS s v→R=true:=fun J U=>by rw[←bf,fk];exact⟨v,rfl,J,U⟩
 clear bf;have iT:v.length≤1000000:=by have:=hF.1;omega
 have j0:=j4.fit oe hF;obtain⟨n,rP,pY,rQ,sm⟩:=s;simp only at g2 cB hM;subst g2;have kW:=ag.b;have e5:=kW.len;have cL:=ag.bb;have jK:=ag.d;have qs:=ag.k;have pF:=ag.kb;have o0:=ag.mb;have vr:=ag.m;have hE:=sK qs;simp only at kW e5 cL jK qs pF o0 vr hE;clear ag;simp only[dN.e];refine bm k3 Il KI fun aQ=>?_;unfold DT;have xb:pY.length≤68719476736:=by simp[ez,dZ,eo,lim]at aQ;omega
 have ll:sm.length≤68719476736:=by simp[ez,dZ,eo,lim]at aQ;omega
 clear aQ;simp;(with_reducible repeat' first|refine aj ?_|refine aD fq ?_|refine aE fq ?_|simp);refine dI [1,2,27,28] (fun i (_:Unit)=>[(29,.int .i64 i)]) v.length (Ca v) () bW (fun k b ab=>by omega) (fun _ af _=>?_) (fun i _ hi af _=>?_);rotate_left
 ·obtain⟨b,ad,cy⟩:=dP hi;have aU:=ali b.t;by_cases g:b.v=(i:Int)∧b.t.gnd=true
  ·have aA:=af.step ad g;obtain⟨g1,g2⟩:=g;rw[g2]at aU;clear af ad cB hM;exact fV
  ·rw[cB fun h=>g ⟨h.1.at' _ _ ad,h.1.gnd _ (dL ad)⟩];clear af ad cB hM;by_cases g1:b.v=(i:Int)
   ·have g2:b.t.gnd=false:=by
     cases e:b.t.gnd with
     |false=>rfl
     |true=>exact absurd ⟨g1,e⟩ g
    rw[g2]at aU;exact b5
   ·simp[hi,cy];((with_reducible repeat' first|refine aj ?_|simp[cy,hi,g1]|((first|apply bL|apply bQ|apply bP)<;>intro h<;>try simp at h))<;>(try exact cq));all_goals simp[bz,F5,aW,aX,aV]
 have aG:rY v.length v:=⟨oe,o4,hF,rfl,fun i b ad=>(af i b (fi.1 ad).1 ad).1,fun b ad=>by obtain⟨i,hi⟩:=List.mem_iff_getElem?.1 ad;exact(af i b (fi.1 hi).1 hi).2⟩
 have hM:=hM aG;have cB:¬rS ⟨v.length,rP,pY,rQ,sm⟩ v→R=false:=fun h=>cB fun ca=>h ca.2;clear af fq;simp;(with_reducible repeat' first|refine aj ?_|simp);refine dI [1,2,46,47] (fun i (_:Unit)=>[(48,.int .i64 i)]) rP.length (kn (o9 v) rP) () bW (fun k b ab=>by omega) (fun _ af _=>?_) (fun i _ hi af _=>?_);rotate_left
 ·obtain⟨b,ad,cy⟩:=dP hi;have gn:=dL ad;have aU:=yk v b.t iT o4 j0;obtain⟨c,au,_,lr⟩:=aG.get (kW.ok b gn).1.1 (cL b gn).1;have bG:=qL (b.t.ap (bR v)) (bR v b.v);have w0:=(kW.ok b gn).1.1;have ec:=(cL b gn).1;have MB:∀h,(v[b.v.toNat]'h)=c:=fun h=>by rw[cf h]at au;exact fj au
  have cu:o9 v b=(decide ((b.t.ap (bR v)).size≤5000)&&decide (b.t.ap (bR v)=bR v b.v)):=rfl;have eS:o9 v b=false→R=false:=fun h=>cB fun ca=>by have:=gh.1 ca.b b gn;rw[h]at this;cases this
  have dU:=fun h:o9 v b=true=>af.step ad h;clear af ad gn cB hM aG oe o4 hF j0;generalize o9 v b=H at cu eS dU;by_cases bp:(b.t.ap (bR v)).size≤5000
  ·rw[if_pos bp,hA bp]at aU;rw[hA bp,Bool.true_and]at cu;rw[lr]at bG cu;generalize b.t.ap (bR v)=y at aU bG cu;generalize decide (y=c.t)=q at bG cu;cases q
   ·rw[eS cu];exact b5
   ·have aA:=dU cu;exact fV
  ·rw[if_neg bp,iq bp]at aU;rw[iq bp,Bool.false_and]at cu;rw[eS cu];exact b5
 have jt:rP.all (o9 v)=true:=gh.2 af.fin;clear af;simp;(with_reducible repeat' first|refine aj ?_|simp);refine dI [1,2,74,75] (fun i (_:Unit)=>[(76,.int .i64 i)]) pY.length (kn (kR v) pY) () bW (fun k b ab=>by omega) (fun _ af _=>?_) (fun i _ hi af _=>?_);rotate_left
 ·obtain⟨b,ad,cy⟩:=dP hi;have gn:=dL ad;have aU:bF al 176 [cR b,.slice 5 .no (v.map ar.e)] (.bool (kR v b)):=akS oe hF o4 (jK b gn);have eS:kR v b=false→R=false:=fun h=>cB fun ca=>by have:=gh.1 ca.d b gn;rw[h]at this;cases this
  have dU:=fun h:kR v b=true=>af.step ad h;clear af ad gn cB hM aG oe o4 hF j0;generalize kR v b=q at aU eS dU;cases q
  ·rw[eS rfl];exact b5
  ·have aA:=dU rfl;exact fV
 have tM:pY.all (kR v)=true:=gh.2 af.fin;clear af;simp;(with_reducible repeat' first|refine aj ?_|simp);refine dI [1,2,86,87] (fun i (_:Unit)=>[(88,.int .i64 i)]) rQ.length (kn (fun k=>decide ((bR v k.v).kind=k.k)) rQ) () bW (fun k b ab=>by omega) (fun _ af _=>?_) (fun i _ hi af _=>?_);rotate_left
 ·obtain⟨b,ad,cy⟩:=dP hi;have gn:=dL ad;have w0:=(qs.at' b gn).1.1;have ec:=pF b gn;obtain⟨c,au,_,lr⟩:=aG.get w0 ec;have MB:∀h,(v[b.v.toNat]'h)=c:=fun h=>by rw[cf h]at au;exact fj au
  by_cases g:c.t.kind=b.k
  ·have aA:=af.step ad (by rw[lr];exact hA g);clear af ad gn cB hM aG oe o4 hF j0;exact fV
  ·rw[cB fun ca=>by have:=gh.1 ca.k b gn;rw[lr]at this;exact g (of_decide_eq_true this)]
   clear af ad gn cB hM aG oe o4 hF j0;simp[hi,cy];((with_reducible repeat' first|refine aj ?_|simp[cy,hi,w0,ec,MB,g]|((first|apply bL|apply bQ|apply bP)<;>intro h<;>try simp at h))<;>(try exact cq));all_goals simp[bz,F5,aW,aX,aV]
 have c1:rQ.all (fun k=>decide ((bR v k.v).kind=k.k))=true:=gh.2 af.fin;clear af;simp;(with_reducible repeat' first|refine aj ?_|simp);refine dI [1,104,105] (fun i (_:Unit)=>[(106,.int .i64 i)]) sm.length (kn (fun m=> !(bR v m.v).has m.s) sm) () bW (fun k b ab=>by omega) (fun _ af _=>?_) (fun i _ hi af _=>?_);rotate_left
 ·obtain⟨b,ad,cy⟩:=dP hi;have gn:=dL ad;have w0:=(vr.at' b gn).1.1;have ec:=o0 b gn;obtain⟨c,au,_,lr⟩:=aG.get w0 ec;have MB:∀h,(v[b.v.toNat]'h)=c:=fun h=>by rw[cf h]at au;exact fj au
  have aU:=Wu b.s c.t;cases g:c.t.has b.s
  ·rw[g]at aU;have aA:=af.step ad (by rw[lr,g];rfl);clear af ad gn cB hM aG oe o4 hF j0;exact fV
  ·rw[g]at aU;rw[cB fun ca=>by have:=gh.1 ca.m b gn;rw[lr,g]at this;cases this]
   clear af ad gn cB hM aG oe o4 hF j0;exact b5
 rw[hM ⟨jt,tM,c1,gh.2 af.fin⟩];clear af;exact b5
open Classical in
theorem WJ(l:List cI):bF al 98 [.slice 5 .no (l.map cI.e)] (.bool (decide (tu l))):=by have k:=Wy l;refine bm k3 abn ahT fun aQ=>?_;unfold O8;exact b5
open Classical in
theorem alP{v:List ar}(aG:j4 v)(hF:gi v)(bt:hB v):bF al 98 [.slice 5 .no (v.map ar.e)] (.bool true):=by have fq:=WJ (v.map ar.b);rw[hA (tg.2 ⟨v,rfl,aG,bt,hF⟩),rD]at fq;exact fq
open Classical in
theorem WI{v:List ar}(aG:j4 v)(hF:gi v)(bt:hB v){t:T}(aO:t.fit=true):bF al 209 [t.e,.slice 5 .no (v.map ar.e)] (.tuple [(if(t.ap (bR v)).size≤5000 then t.ap (bR v)else .nil).e,.bool (decide ((t.ap (bR v)).size≤5000))]):=by
 have dE:=Dl t.tm;rw[qW,bT.fits_T,aO]at dE;have fq:=alP aG hF bt;have aU:=Dk v (by have:=hF.1;omega) t;have bG:=alk (t.ap (bR v));generalize t.ap (bR v)=y at aU bG⊢;by_cases g:y.size≤5000
 ·rw[if_pos g];rw[hA g]at aU⊢;clear g hF aG bt;refine bm k3 Qp T5 fun aQ=>?_;unfold HO;exact b5
 ·rw[if_neg g];rw[iq g]at aU⊢;clear g hF aG bt;refine bm k3 Qp T5 fun aQ=>?_;unfold HO;exact b5
theorem abQ{n:Int}(h:0≤n∧n≤100000):(T.var n).fit=true:=by simp[T.fit,T.ok,T.size,h]
open Classical in
theorem alJ{v:List ar}(aG:j4 v)(hF:gi v)(bt:hB v){d:List ar}(aP:eD d):bF al 173 [.slice 5 .no (d.map ar.e),.slice 5 .no (v.map ar.e)] (.bool (kR v d)):=by
 have de:=Ms aP;have xb:=aP.len;generalize bf:kR v d=R;refine bm k3 abh ahN fun aQ=>?_;unfold O2;clear aQ;simp;(with_reducible repeat' first|refine aj ?_|refine aD de ?_|refine aE de ?_|simp);refine dI [1,14,15] (fun i (_:Unit)=>[(16,.int .i64 i)]) d.length (kn (fun b=> !rn v b) d) () bW (fun k b ab=>by omega) (fun _ af _=>?_) (fun i _ hi af _=>?_)
 ·have:R=false:=by rw[←bf,kR,List.any_eq_false];intro b ad;have:=af.fin b ad;simpa using this
  subst this;clear af bf de;exact b5
 ·obtain⟨b,ad,cy⟩:=dP hi;have gn:=dL ad;have aU:=WI aG hF bt (abQ (aP.ok b gn).1);have bG:=WI aG hF bt (aP.fit b gn);have ak:((T.var b.v).ap (bR v)).size≤5000:=VE hF b.v;rw[if_pos ak,hA ak,show(T.var b.v).ap (bR v)=bR v b.v from rfl]at aU;have b9:=GQ (bR v b.v) (b.t.ap (bR v));have cu:rn v b=(decide ((b.t.ap (bR v)).size≤5000)&& !decide (bR v b.v=b.t.ap (bR v))):=rfl;have hM:rn v b=true→R=true:=fun h=>by rw[←bf,kR,List.any_eq_true];exact⟨b,gn,h⟩
  have cB:=fun h:rn v b=false=>af.step ad (by rw[h];rfl);have gN:=jU b.v;clear af bf de ad ak gn aP aG hF bt;generalize rn v b=H at cu hM cB;by_cases bp:(b.t.ap (bR v)).size≤5000
  ·rw[if_pos bp,hA bp]at bG;rw[hA bp,Bool.true_and]at cu;generalize b.t.ap (bR v)=y at bG b9 cu;generalize bR v b.v=x at aU b9 cu;generalize decide (x=y)=q at b9 cu;cases q
   ·have:=hM cu;subst this;exact b5
   ·have aA:=cB cu;exact fV
  ·rw[if_neg bp,iq bp]at bG;rw[iq bp,Bool.false_and]at cu;have aA:=cB cu;clear b9 cu;generalize bR v b.v=x at aU;exact fV
theorem acM(t:T):t.gnd=true↔hY t []=[]:=by
 have J:∀t:T,t.gnd=true↔∀w,t.occ w=false:=by
  intro t;induction t with
  |var n=>simp[T.gnd,T.occ]
  |pair a b dS dT=>simp only[T.gnd,T.occ,cC,Bool.or_eq_false_iff,dS,dT];exact⟨fun h w=>⟨h.1 w,h.2 w⟩,fun h=>⟨fun w=>(h w).1,fun w=>(h w).2⟩⟩
  |_=>simp[T.gnd,T.occ]
 rw[J,List.eq_nil_iff_forall_not_mem];simp[Cq]
theorem alK{t:T}(aO:t.fit=true):bF al 99 [t.e] (.bool t.gnd):=by
 have dE:=Dl t.tm;rw[qW,bT.fits_T,aO]at dE;have dX:t.size≤5000:=by simp only[T.fit,cC,fk]at aO;exact aO.2
 have iT:=AH t [];have fq:=Dj t [] (by simp;omega) (by simp[r9]);have yZ:ek []=[]:=rfl;rw[yZ]at fq;have a1:=acM t;generalize hY t []=bc at fq iT a1;cases bc with
 |nil=>rw[a1.2 rfl];rw[yZ]at fq;refine bm k3 Qq T6 fun aQ=>?_;unfold HP;exact b5
 |cons w bc=>
  rw[show t.gnd=false from by rw[←Bool.not_eq_true,a1];simp];have av:¬((bc.length:Int)+1=0):=by omega
  have nz:bc.length≤5000:=by simp at iT;omega
  clear a1 iT dX aO;refine bm k3 Qq T6 fun aQ=>?_;unfold HP;simp;(with_reducible repeat' first|refine aj ?_|refine aD dE ?_|refine aE dE ?_|refine aD fq ?_|refine aE fq ?_|simp[eP,av]);all_goals simp[bz,U1,aW,aX,aV]
  all_goals omega
theorem alI{t:T}(aO:t.fit=true)(s:List dz):bF al 174 [t.e,.str s] (.bool (t.has s)):=by have dE:=Dl t.tm;rw[qW,bT.fits_T,aO]at dE;have k:=GS s t;refine bm k3 abg ahM fun aQ=>?_;unfold O1;exact b5
open Classical in
theorem alE{s:dN}(ag:uP s){v:List ar}(aG:rY s.n v):bF al 100 [s.e,.slice 5 .no (v.map ar.e)] (.bool (decide (rS s v))):=by
 generalize bf:decide (rS s v)=R;have iT:v.length≤1000000:=by have:=aG.fits.1;omega
 have j0:=j4.fit aG.ok aG.fits;obtain⟨n,rP,pY,rQ,sm⟩:=s;have cB:¬rS ⟨n,rP,pY,rQ,sm⟩ v→R=false:=fun h=>by rw[←bf,gz];exact h
 have hM:rS ⟨n,rP,pY,rQ,sm⟩ v→R=true:=fun h=>by rw[←bf,fk];exact h
 clear bf;have kW:=ag.b;have e5:=kW.len;have cL:=ag.bb;have jK:=ag.d;have qs:=ag.k;have pF:=ag.kb;have o0:=ag.mb;have vr:=ag.m;have hE:=sK qs;simp only at kW e5 cL jK qs pF o0 vr hE aG;clear ag;simp only[dN.e];refine bm k3 abL aih fun aQ=>?_;unfold Px;have xb:pY.length≤68719476736:=by simp[ez,dZ,eo,lim]at aQ;omega
 have ll:sm.length≤68719476736:=by simp[ez,dZ,eo,lim]at aQ;omega
 clear aQ;simp;(with_reducible repeat' first|refine aj ?_|simp);refine dI [1,2,22,23] (fun i (_:Unit)=>[(24,.int .i64 i)]) rP.length (kn (o9 v) rP) () bW (fun k b ab=>by omega) (fun _ af _=>?_) (fun i _ hi af _=>?_);rotate_left
 ·obtain⟨b,ad,cy⟩:=dP hi;have gn:=dL ad;obtain⟨c,au,a1,lr⟩:=aG.get (kW.ok b (dL ad)).1.1 (cL b (dL ad)).1;have aU:=qN v b.v iT;rw[a1]at aU;simp only[j9,po]at aU;have bG:=Dk v iT b.t;have b9:=GQ c.t (b.t.ap (bR v));have cu:o9 v b=(decide ((b.t.ap (bR v)).size≤5000)&&decide (c.t=b.t.ap (bR v))):=by rw[o9,lr];congr 1;exact decide_eq_decide.2 eq_comm
  have eS:o9 v b=false→R=false:=fun h=>cB fun ca=>by have:=gh.1 ca.b b gn;rw[h]at this;cases this
  have dU:=fun h:o9 v b=true=>af.step ad h;clear af ad gn cB hM aG j0 a1 au lr;generalize o9 v b=H at cu eS dU;by_cases bp:(b.t.ap (bR v)).size≤5000
  ·rw[hA bp]at bG;rw[hA bp,Bool.true_and]at cu;generalize b.t.ap (bR v)=y at bG b9 cu;generalize decide (c.t=y)=q at b9 cu;cases q
   ·rw[eS cu];exact b5
   ·have aA:=dU cu;exact fV
  ·rw[iq bp]at bG;rw[iq bp,Bool.false_and]at cu;rw[eS cu];generalize b.t.ap (bR v)=y at bG;clear b9;exact b5
 have jt:rP.all (o9 v)=true:=gh.2 af.fin;clear af;simp;(with_reducible repeat' first|refine aj ?_|simp);refine dI [1,2,52,53] (fun i (_:Unit)=>[(54,.int .i64 i)]) pY.length (kn (kR v) pY) () bW (fun k b ab=>by omega) (fun _ af _=>?_) (fun i _ hi af _=>?_);rotate_left
 ·obtain⟨b,ad,cy⟩:=dP hi;have gn:=dL ad;have aU:bF al 173 [cR b,.slice 5 .no (v.map ar.e)] (.bool (kR v b)):=alJ aG.ok aG.fits aG.asc (jK b gn);have eS:kR v b=false→R=false:=fun h=>cB fun ca=>by have:=gh.1 ca.d b gn;rw[h]at this;cases this
  have dU:=fun h:kR v b=true=>af.step ad h;clear af ad gn cB hM aG j0;generalize kR v b=q at aU eS dU;cases q
  ·rw[eS rfl];exact b5
  ·have aA:=dU rfl;exact fV
 have tM:pY.all (kR v)=true:=gh.2 af.fin;clear af;simp;(with_reducible repeat' first|refine aj ?_|simp);refine dI [1,2,64,65] (fun i (_:Unit)=>[(66,.int .i64 i)]) rQ.length (kn (fun k=>decide ((bR v k.v).kind=k.k)) rQ) () bW (fun k b ab=>by omega) (fun _ af _=>?_) (fun i _ hi af _=>?_);rotate_left
 ·obtain⟨b,ad,cy⟩:=dP hi;have gn:=dL ad;obtain⟨c,au,a1,lr⟩:=aG.get (qs.at' b (dL ad)).1.1 (pF b (dL ad));have aU:=qN v b.v iT;rw[a1]at aU;simp only[j9,po]at aU;by_cases g:c.t.kind=b.k
  ·have aA:=af.step ad (by rw[lr];exact hA g);clear af ad gn cB hM aG j0 a1 au lr;exact fV
  ·rw[cB fun ca=>by have:=gh.1 ca.k b gn;rw[lr]at this;exact g (of_decide_eq_true this)]
   clear af ad gn cB hM aG j0 a1 au lr;simp[hi,cy];((with_reducible repeat' first|refine aj ?_|refine aD aU ?_|refine aE aU ?_|simp[cy,hi,g]|((first|apply bL|apply bQ|apply bP)<;>intro h<;>try simp at h))<;>(try exact cq));all_goals simp[bz,U9,aW,aX,aV]
 have c1:rQ.all (fun k=>decide ((bR v k.v).kind=k.k))=true:=gh.2 af.fin;clear af;simp;(with_reducible repeat' first|refine aj ?_|simp);refine dI [1,84,85] (fun i (_:Unit)=>[(86,.int .i64 i)]) sm.length (kn (fun m=> !(bR v m.v).has m.s) sm) () bW (fun k b ab=>by omega) (fun _ af _=>?_) (fun i _ hi af _=>?_);rotate_left
 ·obtain⟨b,ad,cy⟩:=dP hi;have gn:=dL ad;obtain⟨c,au,a1,lr⟩:=aG.get (vr.at' b (dL ad)).1.1 (o0 b (dL ad));have aU:=qN v b.v iT;rw[a1]at aU;simp only[j9,po]at aU;have bG:=alI (j0 c (dL au)) b.s;cases g:c.t.has b.s
  ·rw[g]at bG;have aA:=af.step ad (by rw[lr,g];rfl);clear af ad gn cB hM aG j0 a1 au lr;exact fV
  ·rw[g]at bG;rw[cB fun ca=>by have:=gh.1 ca.m b gn;rw[lr,g]at this;cases this]
   clear af ad gn cB hM aG j0 a1 au lr;exact b5
 rw[hM ⟨jt,tM,c1,gh.2 af.fin⟩];clear af;exact b5
def Ar(r:h2)(l:List cI):Prop:= ∃s:dN,r=s.r∧GF s∧vD s l
theorem VJ{s:dN}(h:GF s)(l:List cI):Ar s.r l↔vD s l:=by
 constructor
 ·rintro⟨ai,e,_,U⟩;rw[dN.r_inj e];exact U
 ·intro U;exact⟨s,rfl,h,U⟩
open Classical in
theorem akV(r:h2)(gm:ik r.m→s8 r.m)(l:List cI):bF al 36 [r.e,.slice 5 .no (l.map cI.e)] (.bool (decide (Ar r l))):=by
 have de:=ak2 r gm;by_cases g:rT r
 ·rw[hA g]at de;obtain⟨s,rfl,ag⟩:=g;have aU:=alj ag.1 l;have e:decide (Ar s.r l)=decide (vD s l):=decide_eq_decide.2 (VJ ag l);rw[e];rw[VR]at de⊢;generalize decide (vD s l)=q at aU⊢;obtain⟨n,b,d,k,m⟩:=s;simp only[dN.e]at de aU⊢;refine bm k3 Qc TS fun aQ=>?_;unfold Hw;exact b5
 ·rw[iq g]at de;rw[iq fun⟨s,J,U,_⟩=>g ⟨s,J,U⟩];obtain⟨n,b,d,k,m⟩:=r;simp only[h2.e]at de⊢;refine bm k3 Qc TS fun aQ=>?_;unfold Hw;exact b5
open Classical in
theorem alL(r:h2)(gm:ik r.m→s8 r.m)(l:List cI):bF al 34 [r.e,.slice 5 .no (l.map cI.e)] (.bool (decide (Ar r l))):=by
 have de:=alO r gm;by_cases g:rT r;rotate_left
 ·rw[iq g]at de;rw[iq fun⟨s,J,U,_⟩=>g ⟨s,J,U⟩];obtain⟨n,b,d,k,m⟩:=r;simp only[h2.e]at de⊢;refine bm k3 Ei FL fun aQ=>?_;unfold A1;exact b5
 rw[hA g]at de;obtain⟨s,rfl,ag⟩:=g;have e:decide (Ar s.r l)=decide (vD s l):=decide_eq_decide.2 (VJ ag l);rw[e];rw[VR]at de⊢;have fq:=WJ l;generalize bf:decide (vD s l)=R;by_cases g1:tu l;rotate_left
 ·rw[iq g1]at fq;have:R=false:=by rw[←bf,gz];rintro⟨v,rfl,h,_⟩;exact g1 (tg.2 ⟨v,rfl,h.ok,h.asc,h.fits⟩)
  subst this;clear bf g1 ag;obtain⟨n,b,d,k,m⟩:=s;simp only[dN.e]at de fq⊢;refine bm k3 Ei FL fun aQ=>?_;unfold A1;exact b5
 rw[hA g1]at fq;obtain⟨v,rfl,oe,o4,hF⟩:=tg.1 g1;clear g1;rw[rD]at fq⊢;by_cases g2:(v.length:Int)=s.n;rotate_left
 ·have:R=false:=by rw[←bf,gz];rintro⟨w,e,h,_⟩;rw[ps e]at g2;exact g2 h.len
  subst this;have w1:s.n≠(v.length:Int):=fun h=>g2 h.symm;clear bf ag oe o4 hF;obtain⟨n,b,d,k,m⟩:=s;simp only[dN.e]at de fq g2 w1⊢;refine bm k3 Ei FL fun aQ=>?_;unfold A1;simp;((with_reducible repeat' first|refine aj ?_|refine aD de ?_|refine aE de ?_|refine aD fq ?_|refine aE fq ?_|simp[g2,w1]|((first|apply bL|apply bQ|apply bP)<;>intro h<;>try simp at h))<;>(try exact cq));all_goals simp[bz,Lf,aW,aX,aV]
 have cB:¬(rY s.n v∧rS s v)→R=false:=fun h=>by rw[←bf,gz];rintro⟨w,e,J,U⟩;rw[ps e]at h;exact h ⟨J,U⟩
 have hM:rY s.n v→decide (rS s v)=R:=fun J=>by rw[←bf];exact decide_eq_decide.2 ⟨fun U=>⟨v,rfl,J,U⟩,fun⟨w,e,_,U⟩=>by rw[ps e];exact U⟩
 clear bf;have iT:v.length≤1000000:=by have:=hF.1;omega
 have j0:=j4.fit oe hF;have Ce:=fun aG:rY s.n v=>alE ag.1 aG;obtain⟨n,rP,pY,rQ,sm⟩:=s;simp only[dN.e]at g2 cB hM Ce de⊢;subst g2;clear ag;refine bm k3 Ei FL fun aQ=>?_;unfold A1;clear aQ;simp;(with_reducible repeat' first|refine aj ?_|refine aD de ?_|refine aE de ?_|refine aD fq ?_|refine aE fq ?_|simp);refine dI [1,2,22,23] (fun i (_:Unit)=>[(24,.int .i64 i)]) v.length (Ca v) () bW (fun k b ab=>by omega) (fun _ af _=>?_) (fun i _ hi af _=>?_);rotate_left
 ·obtain⟨b,ad,cy⟩:=dP hi;have aU:=alK (j0 b (dL ad));clear Ce hM de fq oe o4 hF j0;by_cases g:b.v=(i:Int)∧b.t.gnd=true
  ·have aA:=af.step ad g;obtain⟨g1,g2⟩:=g;rw[g2]at aU;clear af ad cB;exact fV
  ·rw[cB fun h=>g ⟨h.1.at' _ _ ad,h.1.gnd _ (dL ad)⟩];clear af ad cB;by_cases g1:b.v=(i:Int)
   ·have g2:b.t.gnd=false:=by
     cases e:b.t.gnd with
     |false=>rfl
     |true=>exact absurd ⟨g1,e⟩ g
    rw[g2]at aU;exact b5
   ·simp[hi,cy];((with_reducible repeat' first|refine aj ?_|simp[cy,hi,g1]|((first|apply bL|apply bQ|apply bP)<;>intro h<;>try simp at h))<;>(try exact cq));all_goals simp[bz,Lf,aW,aX,aV]
 have aG:rY v.length v:=⟨oe,o4,hF,rfl,fun i b ad=>(af i b (fi.1 ad).1 ad).1,fun b ad=>by obtain⟨i,hi⟩:=List.mem_iff_getElem?.1 ad;exact(af i b (fi.1 hi).1 hi).2⟩
 have Ce:=Ce aG;rw[hM aG]at Ce;clear af fq de hM cB aG;exact b5
open Classical in
theorem akT(r:nU)(hw:r.wf)(a:c0 eM)(bt:th a):bF al 6 [r.e,js a] (.bool true):=by
 have aU:=alY r hw 1048576 (by omega) (by omega);have br:=akB r 1048576 (by omega);by_cases g:s6 r 1048576<0
 ·generalize s6 r 1048576=q at aU g;clear hw br;obtain⟨n,b1,d,k,l⟩:=r;simp only[nU.e]at aU⊢;refine bm k3 Ip KL fun aQ=>?_;unfold DW;exact b5
 obtain⟨r,rfl,gm⟩:=akC hw (by omega);clear hw;rw[akp]at aU⊢;generalize s6 r.h 1048576=a6 at aU g br;have bG:=Mt a bt a6 (by omega) (by omega);have jy:=uR a a6 (by omega);by_cases g2:hy a a6<0
 ·generalize hy a a6=bE at bG g2;clear br jy gm;obtain⟨n,b1,d,k,l⟩:=r;simp only[h2.e]at aU⊢;refine bm k3 Ip KL fun aQ=>?_;unfold DW;exact b5
 obtain⟨a,rfl⟩:=L5 a a6 bt (by omega) (by omega) (by omega);have Rn:js (qT a)= .slice 5 .no (a.map cI.e):=H4 a;rw[Rn]at bG⊢;generalize hy (qT a) a6=bE at bG g2;have t1:=al7 r;have t2:bF al 35 [.slice 5 .no (a.map cI.e)] (.slice 5 .no (a.map cI.e)):=Mu a;have s1:=alL r gm a;have i1:=akV r gm a;have ak:=alb r;have aC:bF al 37 [.slice 5 .no (a.map cI.e),.slice 5 .no (a.map cI.e)] (.bool true):=Mm a;generalize decide (Ar r a)=Q at s1 i1;clear bt br jy gm Rn;obtain⟨n,b1,d,k,m⟩:=r;simp only[h2.e]at aU t1 s1 i1 ak⊢;refine bm k3 Ip KL fun aQ=>?_;unfold DW;have S7:=t1;exact b5
end Go.Proofs.YtahlgcidhnjlbaaGreat
