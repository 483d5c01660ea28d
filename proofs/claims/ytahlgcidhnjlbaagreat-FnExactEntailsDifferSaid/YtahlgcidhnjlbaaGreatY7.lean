/- The law of terms that differ. -/
import Derived.Test.YtahlgcidhnjlbaaGreatProg
import Derived.Test.YtahlgcidhnjlbaaGreatY6
set_option linter.all false
set_option maxHeartbeats 4000000
open Bool renaming and_eq_true→cA
open Go.Proofs.Tryz renaming f5→kv,prog→al
open Go.Proofs.YtahlgcidhnjlbaaGreat.Rows renaming fnExactEntailsDifferRow→jG,fnExactEntailsDifferSpec→rR
open List renaming all_eq_true→jb,getElem?_eq_some_iff→fL,map_cons→gE,map_nil→pe,mem_cons→fU,mem_map→h8,mem_of_getElem?→eG,take_length→nL,take_of_length_le→hl
open Nat renaming le_refl→eR
open Option renaming bind_eq_some_iff→lH,bind_some→j5,getD_none→kQ,getD_some→ky,isSome_iff_exists→fG,isSome_none→j6,isSome_some→p3
open Option.some renaming inj→fB
open _root_ renaming Option→aY,UInt8→dz,decide_eq_false→jH,decide_eq_true→jk
namespace Go.Proofs.YtahlgcidhnjlbaaGreat
open Go
set_option maxRecDepth 100000 in
theorem YR:joinedFacts al 5 kv rR jG=true:=(h2 (h2 (h2 (h2 (h2 (h2 (h2 (h2 (h2 (h2 (h2 (h2 (h2 (h2 (h2 (h2 (h2 (h2 (h2 (h2 (h2 (h2 (h2 (h2 (h2 (h2 (h2 (h2 (h2 (h2 (h2 Yl Ym) Yx) YI) YL) YM) YN) YO) YP) YQ) Yn) Yo) Yp) Yq) Yr) Ys) Yt) Yu) Yv) Yw) Yy) Yz) YA) YB) YC) YD) YE) YF) YG) YH) YJ) YK)
end Go.Proofs.YtahlgcidhnjlbaaGreat
namespace Go.Proofs.YtahlgcidhnjlbaaGreat
open Go Go.Pv
def AT:C:=(aa [cz 3 0,cz 4 1,cz 5 2,be 6 false] (aa [bW 7 1048576] (aa [aV 13 5 3,I 14 7,ca 15 26 13 14,I 7 15] (.seq (aa [I 16 7,aU 17 .lss 16 0] (aS 17 (aa [be 6 true] .ret) .skip)) (aa [aV 18 4 4,I 19 7,ca 20 15 18 19,I 7 20] (.seq (aa [I 21 7,aU 22 .lss 21 0] (aS 22 (aa [be 6 true] .ret) .skip)) (aa [aV 23 4 5,I 24 7,ca 25 15 23 24,I 7 25] (.seq (aa [I 26 7,aU 27 .lss 26 0] (aS 27 (aa [be 6 true] .ret) .skip)) (.seq (.drawn true 63 [aV 28 5 3,cE 29 28 28,aV 30 4 4,cE 31 18 30,aV 32 4 5,cE 33 18 32,dp 34 31 [.t 29,.t 31,.t 33],I 8 34]) (aa [aV 35 5 3,cE 36 28 35,dj 9 hv,bL 5 9 36] (aa [aV 37 4 4,cE 38 18 37,dj 10 dP,bL 4 10 38] (aa [aV 39 4 5,cE 40 18 39,dj 11 dP,bL 4 11 40] (aa [aV 41 5 9,aV 42 4 10,aV 43 4 11,dp 44 32 [.t 41,.t 42,.t 43],I 12 44] (.seq (aa [I 45 12,I 46 8,b5 47 (.beq true none (.t 45) (.t 46))] (aS 47 (aa [be 6 false] .ret) .skip)) (.seq (.seq (.drawn true 63 [aV 48 5 9,aV 49 5 3,cE 50 28 49,ca 51 30 48 50,cw 52 51]) (aS 52 (aa [be 6 false] .ret) .skip)) (.seq (.seq (.drawn true 63 [aV 53 4 10,aV 54 4 4,cE 55 18 54,ca 56 22 53 55,cw 57 56]) (aS 57 (aa [be 6 false] .ret) .skip)) (.seq (.seq (.drawn true 63 [aV 58 4 11,aV 59 4 5,cE 60 18 59,ca 61 22 58 60,cw 62 61]) (aS 62 (aa [be 6 false] .ret) .skip)) (aa [be 6 true] .ret))))))))))))))))))
@[simp] def aiW:List bs:=[.tmp 6]
@[simp] def aqm:List bs:=[.tmp 4]
@[simp] def aql:List bs:=[.tmp 6]
@[simp] def aqk:List bs:=[.tmp 4]
@[simp] def aqn:List bs:=[.tmp 4]
def DQ:C:=(aa [cz 3 0,cz 4 1,cz 5 2,be 6 false] (aa [aV 10 5 3,aV 11 4 4,aV 12 4 5,dp 13 52 [.t 10,.t 11,.t 12],I 9 13,cD 14 0 9,cD 15 1 9,dj 7 hv,bL 5 7 14,I 8 15] (aa [aV 16 5 3,aV 17 4 4,aV 18 4 5,dp 19 95 [.t 16,.t 17,.t 18],I 20 19,b3 20 true 21 8,aq 20 true (cw 22 21),dx 23 20 22,I 6 23] .ret)))
@[simp] def ajx:List bs:=[.tmp 6]
def Hv:C:=(aa [cz 3 0,cz 4 1,cz 5 2,be 6 false] (.seq (aa [aV 9 5 3,aV 10 4 4,aV 11 4 5,ek 12 4 30 [.t 10,.t 11],ca 13 96 9 12,cw 14 13] (aS 14 (aa [be 6 false] .ret) .skip)) (aa [aV 16 5 3,aV 17 4 4,aV 18 4 5,dp 19 53 [.t 16,.t 17,.t 18],I 15 19,cD 20 0 15,cD 21 1 15,dj 7 hv,bL 5 7 20,I 8 21] (aa [I 22 8,cw 23 22,I 6 23] .ret))))
@[simp] def UF:List bs:=[.tmp 6]
@[simp] def aqy:List bs:=[.tmp 4]
@[simp] def ap6:List bs:=[.tmp 4]
@[simp] def aqu:List bs:=[.tmp 6]
@[simp] def ap2:List bs:=[.tmp 6]
@[simp] def aqr:List bs:=[.tmp 4]
@[simp] def apY:List bs:=[.tmp 4]
@[simp] def aqA:List bs:=[.tmp 4]
@[simp] def ap8:List bs:=[.tmp 4]
@[simp] def aqv:List bs:=[.cell 6 true 5,.tmp 7]
@[simp] def ap4:List bs:=[.cell 6 true 5,.tmp 7]
@[simp] def aqz:List bs:=[.cell 6 true 5,.tmp 7]
@[simp] def ap7:List bs:=[.cell 6 true 5,.tmp 7]
def HP:C:=(aa [cz 3 0,cz 4 1,cz 5 2,dj 6 hv,be 7 false] (aa [aV 8 5 3,aV 9 4 4,aV 10 4 5,dp 11 117 [.t 8,(gd 0),.t 9,.t 10,(gd 0),(.c (.str []))],cD 12 0 11,cD 13 1 11,bL 5 6 12,I 7 13] .ret))
@[simp] def ajy:List bs:=[.cell 6 true 5,.tmp 7]
def Hw:C:=(aa [cz 3 0,cz 4 1,cz 5 2,dj 6 hv,be 7 false] (.seq (aa [aV 13 5 3,aV 14 4 4,aV 15 4 5,ek 16 4 30 [.t 14,.t 15],ca 17 96 13 16,cw 18 17] (aS 18 (aa [iq 19 hv [],bL 5 6 19,be 7 false] .ret) .skip)) (aa [aF 21 1 1 3,av 22 1 21,aV 23 4 4,aV 24 4 5,dp 25 121 [.t 22,.t 23,.t 24],I 20 25,cD 26 0 20,cD 27 1 20,I 8 26,I 9 27] (.seq (aa [I 28 9,cw 29 28] (aS 29 (aa [iq 30 hv [],bL 5 6 30,be 7 false] .ret) .skip)) (aa [aV 31 5 3,cE 32 105 31,dj 10 hv,bL 5 10 32] (aa [I 33 8,aF 34 1 1 10,bL 1 34 33] (aa [aV 36 5 10,cE 37 90 36,I 35 37,cD 38 0 35,cD 39 1 35,dj 11 hv,bL 5 11 38,I 12 39] (aa [aV 40 5 11,I 41 12,bL 5 6 40,I 7 41] .ret))))))))
@[simp] def K3:List bs:=[.cell 6 true 5,.tmp 7]
@[simp] def aqs:List bs:=[.cell 6 true 5,.tmp 7]
@[simp] def apZ:List bs:=[.cell 6 true 5,.tmp 7]
@[simp] def aqB:List bs:=[.tmp 2]
@[simp] def aqE:List bs:=[.tmp 6]
@[simp] def aqD:List bs:=[.tmp 6]
def AX:C:=(aa [cz 3 0,cz 4 1,cz 5 2,be 6 false] (aa [aV 7 5 3,cE 8 27 7,I 9 8,aq 9 true (aV 10 4 4),aq 9 true (cE 11 56 10),dx 12 9 11,I 13 12,aq 13 true (aV 14 4 5),aq 13 true (cE 15 56 14),dx 16 13 15,I 17 16,aq 17 true (aV 18 4 4),aq 17 true (aF 19 0 1 3),aq 17 true (av 20 1 19),aq 17 true (ca 21 148 18 20),dx 22 17 21,I 23 22,aq 23 true (aV 24 4 5),aq 23 true (aF 25 0 1 3),aq 23 true (av 26 1 25),aq 23 true (ca 27 148 24 26),dx 28 23 27,I 6 28] .ret))
@[simp] def Ls:List bs:=[.tmp 6]
def DI:C:=(aa [cz 2 0,be 4 false] (.seq (.drawn true 18 [aV 5 5 2,cE 6 29 5,I 7 6,b3 7 true 8 1,aq 7 true (cE 9 172 8),dx 10 7 9,I 11 10,b3 11 true 12 1,aq 11 true (cE 13 162 12),aq 11 true (aF 14 0 1 2),aq 11 true (av 15 1 14),aq 11 true (bm 16 .leq 13 15),dx 17 11 16,I 4 17]) .ret))
@[simp] def aiT:List bs:=[.tmp 4]
@[simp] def aqC:List bs:=[.tmp 2]
@[simp] def aqx:List bs:=[.tmp 2]
@[simp] def aqF:List bs:=[.tmp 4]
@[simp] def aqh:List bs:=[.tmp 4]
def Pw:C:=(aa [cz 1 0,dj 2 hv] (.seq (.drawn true 20 [aF 3 0 1 1,av 4 1 3,aF 5 1 1 1,av 6 1 5,cE 7 178 6,aF 8 2 1 1,av 9 1 8,cE 10 179 9,ek 11 2 98 [],aF 12 3 1 1,av 13 1 12,gO 14 2 98 11 13,ek 15 2 100 [],aF 16 4 1 1,av 17 1 16,gO 18 2 100 15 17,iq 19 hv [(0,1,(.t 4)),(1,1,(.t 7)),(2,1,(.t 10)),(3,1,(.t 14)),(4,1,(.t 18))],bL 5 2 19]) .ret))
@[simp] def ajK:List bs:=[.cell 2 true 5]
def N0:C:=(aa [cz 1 0,dj 2 hv] (.seq (.drawn true 39 [aF 6 0 1 1,av 7 1 6,aF 8 1 1 1,av 9 1 8,cE 10 168 9,ek 11 1 46 [],iq 12 hv [(0,1,(.t 7)),(1,1,(.t 10)),(2,1,(.t 11))],dj 3 hv,bL 5 3 12]) (.seq (aa [aF 13 2 1 1,av 14 1 13,cl 15 14,bW 16 0] (ft 17 16 15 (.seq (.block 1 (aa [cu 18 1 14 16,av 19 1 18,I 5 19] (.drawn true 39 [aF 20 2 1 3,av 21 1 20,I 22 5,cE 23 168 22,ek 24 1 46 [.t 23],gO 25 1 46 21 24,aF 26 2 1 3,bL 1 26 25]))) (.region [aU 27 .add 16 1,I 16 27])))) (aa [ek 28 2 98 [],aF 29 3 1 1,av 30 1 29,gO 31 2 98 28 30,aF 32 3 1 3,bL 1 32 31] (aa [ek 33 2 100 [],aF 34 4 1 1,av 35 1 34,gO 36 2 100 33 35,aF 37 4 1 3,bL 1 37 36] (aa [aV 38 5 3,bL 5 2 38] .ret))))))
@[simp] def aiR:List bs:=[.cell 2 true 5]
def HS:C:=(aa [cz 6 0,cz 8 2,cz 9 3,dj 12 hv,be 13 false] (aa [aV 21 5 6,dj 14 hv,bL 5 14 21] (aa [be 15 true] (.seq (aa [I 22 1,aU 23 .lss 22 2] (aS 23 (aa [aF 25 1 1 6,av 26 1 25,aV 27 4 8,aV 28 4 9,dp 29 180 [.t 26,.t 27,.t 28],I 24 29,cD 30 0 24,cD 31 1 24,I 16 30,I 17 31] (aa [I 32 1,aU 33 .eql 32 0] (aS 33 (aa [I 34 16,aF 35 1 1 14,bL 1 35 34] (.region [I 36 17,I 15 36])) (aa [I 37 17] (aS 37 (aa [aF 38 1 1 6,av 39 1 38,I 40 16,ca 41 153 39 40,I 18 41] (aa [I 42 18,cl 43 42,aU 44 .gtr 43 0,I 15 44] (.region [ek 45 1 46 [],aF 46 2 1 6,av 47 1 46,gO 48 1 46 45 47,I 49 18,ek 50 1 46 [.t 49],gO 51 1 46 48 50,aF 52 2 1 14,bL 1 52 51]))) .skip))))) (aa [aF 54 1 1 6,av 55 1 54,aV 56 4 8,ca 57 60 55 56,I 53 57,cD 58 0 53,cD 59 1 53,dj 19 dP,bL 4 19 58,I 20 59] (aa [I 60 20,I 15 60] (aa [I 61 15,I 62 61,b3 62 true 63 1,aq 62 true (aU 64 .eql 63 2),dx 65 62 64] (aS 65 (.region [aF 67 3 1 6,av 68 1 67,aV 69 4 19,I 70 4,dp 71 151 [.t 68,.t 69,.t 70],I 66 71,cD 72 0 66,cD 73 1 66,aF 74 3 1 14,bL 1 74 72,I 15 73]) (aa [I 75 15] (aS 75 (.region [aF 77 4 1 6,av 78 1 77,aV 79 4 19,I 80 5,dp 81 181 [.t 78,.t 79,.t 80],I 76 81,cD 82 0 76,cD 83 1 76,aF 84 4 1 14,bL 1 84 82,I 15 83]) .skip)))))))) (.seq (aa [I 85 15,cw 86 85] (aS 86 (aa [iq 87 hv [],bL 5 12 87,be 13 false] .ret) .skip)) (aa [aV 88 5 14,cE 89 81 88,cD 90 0 89,cD 91 1 89,bL 5 12 90,I 13 91] .ret))))))
@[simp] def ajJ:List bs:=[.cell 12 true 5,.tmp 13]
def uO:C:=(aa [cz 6 0,cz 8 2,cz 9 3,dj 12 hv,be 13 false] (.seq (aa [aV 16 5 6,cE 17 27 16,cw 18 17,I 19 18,aq 19 false (aV 20 4 8),aq 19 false (cE 21 56 20),aq 19 false (cw 22 21),c6 23 19 22,I 24 23,aq 24 false (aV 25 4 9),aq 24 false (cE 26 56 25),aq 24 false (cw 27 26),c6 28 24 27,I 29 28,aq 29 false (aV 30 4 8),aq 29 false (aF 31 0 1 6),aq 29 false (av 32 1 31),aq 29 false (ca 33 148 30 32),aq 29 false (cw 34 33),c6 35 29 34,I 36 35,aq 36 false (aV 37 4 9),aq 36 false (aF 38 0 1 6),aq 36 false (av 39 1 38),aq 36 false (ca 40 148 37 39),aq 36 false (cw 41 40),c6 42 36 41] (aS 42 (aa [iq 43 hv [],bL 5 12 43,be 13 false] .ret) .skip)) (aa [aV 45 5 6,I 46 1,aV 47 4 8,aV 48 4 9,I 49 4,I 50 5,dp 51 115 [.t 45,.t 46,.t 47,.t 48,.t 49,.t 50],I 44 51,cD 52 0 44,cD 53 1 44,dj 14 hv,bL 5 14 52,I 15 53] (.seq (aa [I 54 15,cw 55 54] (aS 55 (aa [iq 56 hv [],bL 5 12 56,be 13 false] .ret) .skip)) (aa [aV 57 5 14,cE 58 104 57,bL 5 12 58,be 13 true] .ret)))))
@[simp] def F8:List bs:=[.cell 12 true 5,.tmp 13]
def NM:C:=(aa [cz 4 1,cz 5 2,eE 6 5,be 7 false] (.seq (aa [I 8 0,cE 9 86 8,cw 10 9,I 11 10,aq 11 false (aV 12 4 4),aq 11 false (cE 13 64 12),aq 11 false (cw 14 13),c6 15 11 14,I 16 15,aq 16 false (aV 17 4 5),aq 16 false (cE 18 64 17),aq 16 false (cw 19 18),c6 20 16 19] (aS 20 (aa [eE 6 5,be 7 false] .ret) .skip)) (aa [I 21 0,aV 22 4 4,ek 23 4 30 [.t 22],aV 24 4 5,ek 25 4 30 [.t 24],dp 26 186 [.t 21,.t 23,.t 25],cD 27 0 26,cD 28 1 26,I 6 27,I 7 28] .ret)))
@[simp] def aiM:List bs:=[.tmp 6,.tmp 7]
@[simp] def ap0:List bs:=[.tmp 6,.tmp 7]
@[simp] def aqt:List bs:=[.tmp 4]
@[simp] def aqq:List bs:=[.tmp 4]
@[simp] def ap1:List bs:=[.tmp 4]
def Ph:C:=(aa [eE 2 5] (aa [ek 6 5 113 [],I 3 6] (.seq (aa [I 7 0,cl 8 7,bW 9 0] (ft 10 9 8 (.seq (.block 1 (aa [cu 11 5 7 9,aV 12 5 11,dj 5 jy,bL 5 5 12] (.drawn true 24 [I 13 3,aF 14 0 1 5,av 15 1 14,hC 16 1 4 5,aV 17 4 16,cE 18 130 17,iq 19 jy [(0,1,(.t 15)),(1,4,(.t 18))],ek 20 5 113 [.t 19],gO 21 5 113 13 20,I 3 21]))) (.region [aU 22 .add 9 1,I 9 22])))) (aa [I 23 3,I 2 23] .ret))))
@[simp] def ajD:List bs:=[.tmp 2]
def Pr:C:=(aa [eE 2 1] (aa [ek 6 1 46 [],I 3 6] (.seq (aa [I 7 0,cl 8 7,bW 9 0] (ft 10 9 8 (.seq (.block 1 (aa [cu 11 1 7 9,av 12 1 11,I 5 12] (.region [I 13 3,I 14 5,cE 15 178 14,ek 16 1 46 [.t 15],gO 17 1 46 13 16,I 3 17]))) (.region [aU 18 .add 9 1,I 9 18])))) (aa [I 19 3,I 2 19] .ret))))
@[simp] def ajG:List bs:=[.tmp 2]
@[simp] def aqj:List bs:=[.tmp 6,.tmp 7]
@[simp] def aqw:List bs:=[.cell 4 true 4,.tmp 5]
def oz:List (Nat×dB):=[
 (3,⟨1,8,.int .i64,.int .i64 0⟩),
 (4,⟨1,1,.bool,.bool false⟩),
 (9,⟨1,16,.str,.str []⟩),
 (24,⟨4,56,.struct [(0,3),(1,3),(2,9),(3,22)],.agg [.int .i64 0,.int .i64 0,.str [],.slice 4 .nil []]⟩),
 (27,⟨1,24,.slice 30,.slice 4 .nil []⟩),
 (30,⟨4,56,.struct [(0,3),(1,3),(2,9),(3,27)],.agg [.int .i64 0,.int .i64 0,.str [],.slice 4 .nil []]⟩),
 (43,⟨5,104,.struct [(0,3),(1,38),(2,39),(3,40),(4,41)],.agg [.int .i64 0,.slice 5 .nil [],.slice 1 .nil [],.slice 2 .nil [],.slice 2 .nil []]⟩),
 (46,⟨1,24,.slice 113,.slice 5 .nil []⟩),
 (47,⟨1,24,.slice 46,.slice 1 .nil []⟩),
 (48,⟨1,24,.slice 98,.slice 2 .nil []⟩),
 (49,⟨1,24,.slice 100,.slice 2 .nil []⟩),
 (51,⟨5,104,.struct [(0,3),(1,46),(2,47),(3,48),(4,49)],.agg [.int .i64 0,.slice 5 .nil [],.slice 1 .nil [],.slice 2 .nil [],.slice 2 .nil []]⟩),
 (76,⟨1,24,.slice 3,.slice 1 .nil []⟩),
 (98,⟨2,16,.struct [(0,3),(1,3)],.agg [.int .i64 0,.int .i64 0]⟩),
 (100,⟨2,24,.struct [(0,3),(1,9)],.agg [.int .i64 0,.str []]⟩),
 (113,⟨5,64,.struct [(0,3),(1,30)],.agg [.int .i64 0,.int .i64 0,.int .i64 0,.str [],.slice 4 .nil []]⟩)]
theorem hD:fN al oz=true:=by kernel_rfl
theorem FF:bY oz AT aiW 3 kv=true:=by kernel_rfl
theorem D8:al.funcs[(5:Nat)]? =some kv:=Tryz.func5
theorem KO:bY oz DQ ajx 3 Tryz.f31=true:=by kernel_rfl
theorem Ir:al.funcs[(31:Nat)]? =some Tryz.f31:=Tryz.func31
theorem T2:bY oz Hv UF 3 Tryz.f32=true:=by kernel_rfl
theorem Qe:al.funcs[(32:Nat)]? =some Tryz.f32:=Tryz.func32
theorem Uh:bY oz HP ajy 3 Tryz.f52=true:=by kernel_rfl
theorem Qt:al.funcs[(52:Nat)]? =some Tryz.f52:=Tryz.func52
theorem T3:bY oz Hw K3 3 Tryz.f53=true:=by kernel_rfl
theorem Qf:al.funcs[(53:Nat)]? =some Tryz.f53:=Tryz.func53
theorem FI:bY oz AX Ls 3 Tryz.f95=true:=by kernel_rfl
theorem Eb:al.funcs[(95:Nat)]? =some Tryz.f95:=Tryz.func95
theorem KI:bY oz DI aiT 2 Tryz.f96=true:=by kernel_rfl
theorem Ik:al.funcs[(96:Nat)]? =some Tryz.f96:=Tryz.func96
theorem aim:bY oz Pw ajK 1 Tryz.f104=true:=by kernel_rfl
theorem abW:al.funcs[(104:Nat)]? =some Tryz.f104:=Tryz.func104
theorem agW:bY oz N0 aiR 1 Tryz.f105=true:=by kernel_rfl
theorem aaw:al.funcs[(105:Nat)]? =some Tryz.f105:=Tryz.func105
theorem Uk:bY oz HS ajJ 6 Tryz.f115=true:=by kernel_rfl
theorem Qw:al.funcs[(115:Nat)]? =some Tryz.f115:=Tryz.func115
theorem xI:bY oz uO F8 6 Tryz.f117=true:=by kernel_rfl
theorem wI:al.funcs[(117:Nat)]? =some Tryz.f117:=Tryz.func117
theorem agI:bY oz NM aiM 3 Tryz.f121=true:=by kernel_rfl
theorem aai:al.funcs[(121:Nat)]? =some Tryz.f121:=Tryz.func121
theorem ah8:bY oz Ph ajD 1 Tryz.f178=true:=by kernel_rfl
theorem abJ:al.funcs[(178:Nat)]? =some Tryz.f178:=Tryz.func178
theorem aii:bY oz Pr ajG 1 Tryz.f179=true:=by kernel_rfl
theorem abS:al.funcs[(179:Nat)]? =some Tryz.f179:=Tryz.func179
def B0(t:T)(k:Nat)(st:bq):Prop:=
 (k=t.args.length∧st=⟨[(2,.ptr (.loc 1) 0),(3,.ptr (.loc 2) 0),(14,.slice 4 .no (t.args.map T.e)),(15,.int .i64 t.args.length),(16,.int .i64 0)],[(.loc 1,[.int .i64 0,.int .i64 0,.str [],.slice 4 .nil []]),(.loc 2,[.int .i64 t.kind,.int .i64 t.int,.str t.name,.slice 4 .nil []])],[],3,[]⟩)∨
 ∃i:Nat,1≤i∧i≤t.args.length∧k=t.args.length-i∧st=⟨[(2,.ptr (.loc 1) 0),(3,.ptr (.loc 2) 0),(14,.slice 4 .no (t.args.map T.e)),(15,.int .i64 t.args.length),(16,.int .i64 i)],[(.loc 1,[.int .i64 0,.int .i64 0,.str [],.slice 4 .nil []]),(.loc 2,[.int .i64 t.kind,.int .i64 t.int,.str t.name,.slice 4 (.own (.loc 29)) ((t.args.take i).map T.e)])],[(.loc 29,⟨i,30,4,none⟩)],30,[]⟩
set_option maxRecDepth 4000 in
theorem WB(t:T):bH al 130 [t.e] t.e:=by
 induction t with
 |pair a b dR dS=>
  refine bf fE A5 Cv fun aP=>?_;unfold yt;simp;refine oR (B0 (.pair a b)) 2 _ b0 (.inl ⟨rfl,rfl⟩) ?_;rintro k st (⟨ad,rfl⟩|⟨i,J,U,ad,rfl⟩) kE cQ;all_goals clear kE cQ
  ·simp;(with_reducible repeat' first|refine aj ?_|refine aD dR ?_|refine aE dR ?_|simp);refine bN.next 1 (by rw[ad];simp) (.inr ⟨1,by omega,by simp,rfl,rfl⟩) b0
  ·rcases(by simp at U;omega:i=1∨i=2)with rfl|rfl
   ·simp;(with_reducible repeat' first|refine aj ?_|refine aD dS ?_|refine aE dS ?_|simp);refine bN.next 0 (by rw[ad];simp) (.inr ⟨2,by omega,by simp,rfl,rfl⟩) b0
   ·exact b2
 |nil=>
  refine bf fE A5 Cv fun aP=>?_;unfold yt;simp;refine oR (B0 (.nil)) 0 _ b0 (.inl ⟨rfl,rfl⟩) ?_;rintro k st (⟨ad,rfl⟩|⟨i,J,U,ad,rfl⟩) kE cQ;all_goals clear kE cQ
  ·exact b2
  ·simp at U;omega
 |var n=>
  refine bf fE A5 Cv fun aP=>?_;unfold yt;simp;refine oR (B0 (.var n)) 0 _ b0 (.inl ⟨rfl,rfl⟩) ?_;rintro k st (⟨ad,rfl⟩|⟨i,J,U,ad,rfl⟩) kE cQ;all_goals clear kE cQ
  ·exact b2
  ·simp at U;omega
 |sym s=>
  refine bf fE A5 Cv fun aP=>?_;unfold yt;simp;refine oR (B0 (.sym s)) 0 _ b0 (.inl ⟨rfl,rfl⟩) ?_;rintro k st (⟨ad,rfl⟩|⟨i,J,U,ad,rfl⟩) kE cQ;all_goals clear kE cQ
  ·exact b2
  ·simp at U;omega
 |num n=>
  refine bf fE A5 Cv fun aP=>?_;unfold yt;simp;refine oR (B0 (.num n)) 0 _ b0 (.inl ⟨rfl,rfl⟩) ?_;rintro k st (⟨ad,rfl⟩|⟨i,J,U,ad,rfl⟩) kE cQ;all_goals clear kE cQ
  ·exact b2
  ·simp at U;omega
theorem WE(t:List ar)(aN:t.length≤1000000):bH al 178 [.slice 5 .no (t.map ar.e)] (.slice 5 .no (t.map ar.e)):=by
 refine bf hD abJ ah8 fun aP=>?_;unfold Ph;simp;(with_reducible repeat' first|refine aj ?_|simp);refine hQ (α:=List ar) (fun i out=>⟨[(7,.slice 5 .no (t.map ar.e)),(8,.int .i64 t.length),(3,.slice 5 (.own (.loc 0)) (out.map ar.e)),(9,.int .i64 i)],[],[(.loc 0,⟨out.length,113,5,none⟩)],1,[]⟩) t.length (fun i out=>out=t.take i) [] b0 (by simp) (fun out af _=>?_) (fun i out hi af _=>?_)
 ·rw[hl (eR _)]at af;subst af;exact b2
 ·obtain⟨b,aJ,fY⟩:=ed hi;have y7:out.length≤1000000:=by rw[af];simp;omega
  simp[hi,fY];(with_reducible repeat' first|refine aj ?_|refine aD (WB _) ?_|refine aE (WB _) ?_|simp[fY,hi]);all_goals first|(refine⟨by unfold lim;omega,?_⟩)|skip
  all_goals(with_reducible repeat' first|refine aj ?_|simp)
  all_goals refine bN.rng (out++[b]) hi (by rw[ox aJ,af]) ?_
  all_goals simp
  all_goals exact⟨by simp[fresh,aK,aC,cd,inObs,Pv.look,iV],dZ (by simp[fresh,aK,aC,cd,inObs,Pv.look,iV]),ea (by simp[fresh,aK,aC,dQ,inObs,Pv.look,iV]),by simp⟩
def ma(n:Int)(l:List bG):Prop:= ∃x:List T,l=x.map T.tm∧(∀t∈x,t.fit=true)∧∀t∈x,ez n t=true
theorem Wf{x y:List T}(h:x.map T.tm=y.map T.tm):x=y:=(List.map_inj_right fun _ _=>C6).1 h
theorem Y5(l:List T):(l.map T.tm).map enc=l.map T.e:=by rw[List.map_map];exact List.map_congr_left fun t _=>iQ t
theorem Qz:∀{l:List bG},l.all bG.fits=true→∃x:List T,l=x.map T.tm∧∀t∈x,t.fit=true
 |[],_=>⟨[],rfl,by simp⟩
 |t::l,h=>by rw[List.all_cons,cA]at h;obtain⟨x,rfl,U⟩:=Qz h.2;obtain⟨y,rfl,a8⟩:=bG.fits_ex h.1;exact⟨y::x,rfl,fun z bD=>(fU.1 bD).elim (fun e=>by rw[e];exact a8) (U z)⟩
theorem yH{n:Int}{l:List bG}(h:ma n l):∀t∈l,t.fits=true:=fun t aN=>by obtain⟨x,rfl,U,_⟩:=h;obtain⟨y,aG,rfl⟩:=h8.1 aN;rw[bG.fits_T];exact U y aG
theorem Qy{n:Int}{x y:T}(ab:x.fit=true)(aG:y.fit=true)(J:ez n x=true)(U:ez n y=true):ma n [x.tm,y.tm]:=⟨[x,y],rfl,by simp[ab,aG],by simp[J,U]⟩
theorem Iy{n:Int}{x y:T}(h:ma n [x.tm,y.tm]):(x.fit=true∧y.fit=true)∧ez n x=true∧ez n y=true:=by obtain⟨l,e,J,U⟩:=h;have:=Wf (x:=[x,y]) e;subst this;exact⟨⟨J x (by simp),J y (by simp)⟩,U x (by simp),U y (by simp)⟩
theorem PX{p:Prop}[Decidable p]{b:Bool}:decide p=b↔(p↔b=true):=by cases b<;>simp
theorem WZ{n:Int}:∀(l:List T) (m:Int),l.foldl (fun m t=>t.fold qJ m) m≤n↔m≤n∧∀t∈l,ez n t=true
 |[],m=>by simp
 |t::l,m=>by rw[List.foldl_cons,WZ l,GY];simp[and_assoc]
theorem o2.fin{α:Type}{p:α→Bool}{s:List α}(h:o2 p s s.length ()):∀b∈s,p b=true:=fun b ae=>by obtain⟨i,hi⟩:=List.mem_iff_getElem?.1 ae;exact h i b (by have:=(fL.1 hi).1;omega) hi
theorem ama(l:List bG):bH al 172 [.slice 4 .no (l.map enc)] (.bool (l.all bG.fits)):=by
 generalize bh:l.all bG.fits=R;refine bf fE Qm Ua fun aP=>?_;unfold HD;have eO:l.length≤68719476736:=by simp[eB,ec,et,lim]at aP;omega
 simp;refine dW [5,6] (fun i (_:Unit)=>[(7,.int .i64 i)]) l.length (o2 bG.fits l) () b0 (fun k b ad=>by omega) (fun _ af _=>?_) (fun i _ hi af _=>?_)
 ·have:R=true:=by rw[←bh,jb];exact af.fin
  subst this;clear af bh;exact b2
 ·obtain⟨t,aN,qs⟩:=ed hi;have dH:=GM t;cases g:t.fits
  ·rw[g]at dH;have:R=false:=by rw[←bh,List.all_eq_false];exact⟨t,eG aN,by rw[g];simp⟩
   subst this;clear aN af bh;exact b2
  ·rw[g]at dH;have aA:=af.step aN g;clear aN af bh;exact hN
open Classical in
theorem Wz(r:ff)(dT:hB r.m→jE r.m)(l:List bG):bH al 96 [r.e,.slice 4 .no (l.map enc)] (.bool (decide (ij r∧ma r.n l))):=by
 generalize bh:decide (ij r∧ma r.n l)=R;have cV:=ala r dT;have dH:=ama l;have aA:=fun h:ij r=>(ij.raw h).n;by_cases g1:ij r;rotate_left
 ·rw[jH g1]at cV;have:R=false:=by rw[←bh];exact jH fun h=>g1 h.1
  subst this;obtain⟨n,b,d,k,m⟩:=r;simp only[ff.e]at cV⊢;clear bh aA dT g1;refine bf hD Ik KI fun aP=>?_;unfold DI;exact b2
 rw[jk g1]at cV;cases g2:l.all bG.fits
 ·rw[g2]at dH;have:R=false:=by rw[←bh];refine jH fun h=>?_;obtain⟨x,rfl,U,_⟩:=h.2;rw[List.all_eq_false]at g2;obtain⟨t,aN,aI⟩:=g2;obtain⟨y,aG,rfl⟩:=h8.1 aN;rw[bG.fits_T]at aI;exact aI (U y aG)
  subst this;obtain⟨n,b,d,k,m⟩:=r;simp only[ff.e]at cV⊢;clear bh aA dT g1 g2;refine bf hD Ik KI fun aP=>?_;unfold DI;exact b2
 rw[g2]at dH;obtain⟨x,rfl,ab⟩:=Qz g2;rw[Y5]at dH⊢;have pJ:=Wv x ab;have aJ:decide (wa x≤r.n)=R:=by rw[←bh,wa];refine decide_eq_decide.2 ?_;rw[WZ];refine⟨fun h=>⟨g1,x,rfl,ab,h.2⟩,fun h=>⟨(aA g1).1,?_⟩⟩;obtain⟨y,e,_,U⟩:=h.2;rw[Wf e];exact U
 generalize wa x=q at pJ aJ;obtain⟨n,b,d,k,m⟩:=r;simp only[ff.e]at cV aJ⊢;clear bh aA dT g1 g2 ab;subst aJ;refine bf hD Ik KI fun aP=>?_;unfold DI;exact b2
noncomputable def nq(s:c8)(x y:T):aY c8:=(mgu s.b [(x,y)]).bind fun b=>ks {s with b:=b}
theorem ald{b:List ar}(ae:eM b){x y:T}(ab:x.fit=true)(aG:y.fit=true):bH al 121 [.slice 5 .no (b.map ar.e),x.e,y.e] (fy (mgu b [(x,y)])):=by have cV:=pb ae;have aT:=Db ab;have bz:=Db aG;have key:=WU b [x] [y] rfl ae.sol ae.fits ae.ok (by simp) (by simp only[T.fit,cA]at ab;simpa using ab.1) (by simp only[T.fit,cA]at aG;simpa using aG.1);simp only[gE,pe,List.zip_cons_cons,List.zip_nil_left]at key;unfold fy at key⊢;generalize mgu b [(x,y)]=O at key;refine bf hD aai agI fun aP=>?_;unfold NM;exact b2
theorem zr(S:aH→Prop)(l:List (List ar))(d:List ar):aK S (l.map cH++[cH d])=True:=sw S l d
theorem alf{x:List ar}(h:x.length≤1000000):bH al 168 [cH x] (cH x):=GN x h
theorem alg(s:c8)(ae:s.b.length≤1000000)(aQ:∀x∈s.d,x.length≤1000000)(ad:s.k.length≤1000000)(hm:s.m.length≤68719470000):bH al 105 [s.e] s.e:=by
 obtain⟨n,b,d,k,m⟩:=s;simp only[c8.e]at ae aQ ad hm⊢;have kY:=GN b ae;refine bf hD aaw agW fun aP=>?_;unfold N0;have eO:d.length≤68719476736:=by simp[eB,ec,et,lim]at aP;omega
 clear aP;simp;(with_reducible repeat' first|refine aj ?_|refine aD kY ?_|refine aE kY ?_|simp);refine hQ (fun i (L:List (List ar))=>⟨[(1,.ptr (.loc 0) 0),(2,.ptr (.loc 1) 0),(3,.ptr (.loc 5) 0),(14,.slice 1 .no (d.map cH)),(15,.int .i64 d.length),(16,.int .i64 i)],[(.loc 0,[.int .i64 n,.slice 5 .no (b.map ar.e),.slice 1 .no (d.map cH),.slice 2 .no (k.map bK.e),.slice 2 .no (m.map bk.e)]),(.loc 1,[.int .i64 0,.slice 5 .nil [],.slice 1 .nil [],.slice 2 .nil [],.slice 2 .nil []]),(.loc 5,[.int .i64 n,.slice 5 .no (b.map ar.e),.slice 1 (.own (.loc 13)) (L.map cH),.slice 2 .nil [],.slice 2 .nil []])],[(.loc 13,⟨L.length,46,1,none⟩)],41,[]⟩) d.length (fun i L=>L=d.take i) [] b0 (by simp) (fun L af _=>?_) (fun i L hi af _=>?_)
 ·rw[nL]at af;subst af;simp;(with_reducible repeat' first|refine aj ?_|simp);all_goals first|(refine⟨by unfold lim;omega,?_⟩)|skip
  exact b2
 ·obtain⟨x,ab,cy⟩:=ed hi;have B8:=alf (aQ x (eG ab));have au:L.length≤i:=by rw[af];simp;omega
  simp[hi,cy];(with_reducible repeat' first|refine aj ?_|refine aD B8 ?_|refine aE B8 ?_|simp[cy,hi]);all_goals first|(refine⟨by unfold lim;omega,?_⟩)|skip
  (with_reducible repeat' first|refine aj ?_|simp);refine bN.rng (L++[x]) hi (by rw[ox ab,af]) ?_;simp;exact⟨by simp[fresh,aK,aC,cd,inObs,Pv.look,zr],dZ (by simp[fresh,aK,aC,cd,inObs,Pv.look,zr]),ea (by simp[fresh,aK,aC,dQ,inObs,Pv.look,zr]),by simp⟩
theorem T.fit_ok{x:T}(h:x.fit=true):x.ok=true:=by simp only[T.fit,cA]at h;exact h.1
theorem qE.bind{s:c8}(h:qE s){x y:T}(ab:x.fit=true)(aG:y.fit=true)(bx:ez s.n x=true)(jq:ez s.n y=true){b:List ar}(hm:mgu s.b [(x,y)]=some b):qE {s with b:=b}:=⟨h.n,h.b.mgu (by simp[T.fit_ok ab,T.fit_ok aG]) hm,h.d,h.k,h.m,TL (fun v=>v<s.n) h.b.sol h.b.fits h.bb (fun e he=>by simp only[List.mem_singleton]at he;subst he;exact⟨AQ.1 bx,AQ.1 jq⟩) hm,h.db,h.kb,h.mb⟩
open Classical in
theorem alu{s:c8}(h:rH s)(hm:jE s.m){x y:T}(ab:x.fit=true)(aG:y.fit=true)(bx:ez s.n x=true)(jq:ez s.n y=true):bH al 96 [s.e,.slice 4 .no [x.e,y.e]] (.bool true):=by have:=Wz s.r (fun _=>hm) [x.tm,y.tm];rw[jk ⟨⟨s,rfl,h⟩,Qy ab aG bx jq⟩,Ai]at this;simpa[iQ]using this
theorem ak1{s:c8}(h:rH s)(hm:jE s.m){x y:T}(ab:x.fit=true)(aG:y.fit=true)(bx:ez s.n x=true)(jq:ez s.n y=true):bH al 53 [s.e,x.e,y.e] (jC (nq s x y)):=by
 have aT:=alu h hm ab aG bx jq;have bz:=ald h.1.b ab aG;have b6:=alg s h.1.b.len (fun z bD=>(h.1.d z bD).len) (by have:=su h.1.k;omega) (hm.len h.1.m);unfold nq;cases hu:mgu s.b [(x,y)]with
 |none=>rw[hu]at bz;clear h hu b6;obtain⟨n,b,d,k,m⟩:=s;simp only[c8.e,fy,jC,Option.bind_none,kQ,j6,lF]at aT bz⊢;refine bf hD Qf T3 fun aP=>?_;unfold Hw;simp;((with_reducible repeat' first|refine aj ?_|refine aD aT ?_|refine aE aT ?_|refine aD bz ?_|refine aE bz ?_|simp|((first|apply bP|apply bS|apply bR)<;>intro h<;>try simp at h))<;>(try exact cp));all_goals simp[bt,K3,aX,aZ,aW]
 |some bO=>rw[hu]at bz;obtain⟨G,kf,a7⟩:=hm;have dO:=WT (h.1.bind ab aG bx jq hu) kf a7;rw[j5];generalize ks {s with b:=bO}=O at dO;clear h hu;obtain⟨n,b,d,k,m⟩:=s;simp only[c8.e,fy,jC]at aT bz b6 dO⊢;refine bf hD Qf T3 fun aP=>?_;unfold Hw;simp;(with_reducible repeat' first|refine aj ?_|refine aD aT ?_|refine aE aT ?_|refine aD bz ?_|refine aE bz ?_|refine aD b6 ?_|refine aE b6 ?_|refine aD dO ?_|refine aE dO ?_|simp);all_goals simp[bt,K3,aX,aZ,aW]
open Classical in
noncomputable def ye(r:ff)(a b:bG):Bool:=decide (∃s x y,r=s.r∧rH s∧ma s.n [a,b]∧a=T.tm x∧b=T.tm y∧nq s x y=none)
open Classical in
theorem MP{r:ff}{a b:bG}(h:¬(ij r∧ma r.n [a,b])):ye r a b=false:=jH fun⟨s,_,_,J,U,ao,_⟩=>h ⟨⟨s,J,U⟩,by rw[J];exact ao⟩
open Classical in
theorem MO{s:c8}(h:rH s){x y:T}(aI:ma s.n [x.tm,y.tm]):ye s.r x.tm y.tm=(nq s x y).isNone:=by unfold ye;rw[PX,Option.isNone_iff_eq_none];refine⟨fun⟨ai,Di,ME,J,_,_,a8,bZ,c4⟩=>?_,fun cr=>⟨s,x,y,rfl,h,aI,rfl,rfl,cr⟩⟩;rw[c8.r_inj J,C6 a8,C6 bZ];exact c4
open Classical in
theorem ak0(r:ff)(dT:hB r.m→jE r.m)(a b:bG):bH al 32 [r.e,enc a,enc b] (.bool (ye r a b)):=by
 have aT:=Wz r dT [a,b];simp only[gE,pe]at aT;by_cases g:ij r∧ma r.n [a,b];rotate_left
 ·rw[MP g];rw[jH g]at aT;clear g dT;obtain⟨n,bO,d,k,m⟩:=r;simp only[ff.e]at aT⊢;refine bf hD Qe T2 fun aP=>?_;unfold Hv;exact b2
 rw[jk g]at aT;obtain⟨⟨s,rfl,ag⟩,aI⟩:=g;obtain⟨x,rfl,_⟩:=bG.fits_ex (yH aI a (by simp));obtain⟨y,rfl,_⟩:=bG.fits_ex (yH aI b (by simp));obtain⟨⟨ab,aG⟩,bx,jq⟩:=Iy aI;have hm:jE s.m:=dT ag.1.m;have bz:=ak1 ag hm ab aG bx jq;rw[MO ag aI];generalize nq s x y=O at bz;rw[Ai,iQ,iQ]at aT;rw[Ai,iQ,iQ];clear dT aI ag ab aG bx jq;obtain⟨n,b,d,k,m⟩:=s;cases O<;>simp only[c8.e,jC,Option.isSome,Option.isNone]at aT bz⊢;all_goals refine bf hD Qe T2 fun aP=>?_;unfold Hv
 all_goals simp
 all_goals(with_reducible repeat' first|refine aj ?_|refine aD aT ?_|refine aE aT ?_|refine aD bz ?_|refine aE bz ?_|simp)
 all_goals simp[bt,UF,aX,aZ,aW]
theorem WY(r:ff)(a b:bG):(¬ij r∧¬(ij r∧ma r.n [a,b]))∨(ij r∧a.fits=false∧¬(ij r∧ma r.n [a,b]))∨(ij r∧a.fits=true∧b.fits=false∧¬(ij r∧ma r.n [a,b]))∨
  (ij r∧∃x y:T,a=x.tm∧b=y.tm∧x.fit=true∧y.fit=true∧((ij r∧ma r.n [a,b])↔(ez r.n x&&ez r.n y)=true)):=by
 by_cases g:ij r;rotate_left
 ·exact .inl ⟨g,fun h=>g h.1⟩
 refine .inr ?_;cases g1:a.fits
 ·refine .inl ⟨g,rfl,fun h=>?_⟩;have:=yH h.2 a (by simp);rw[g1]at this;cases this
 refine .inr ?_;cases g2:b.fits
 ·refine .inl ⟨g,rfl,rfl,fun h=>?_⟩;have:=yH h.2 b (by simp);rw[g2]at this;cases this
 obtain⟨x,rfl,ab⟩:=bG.fits_ex g1;obtain⟨y,rfl,aG⟩:=bG.fits_ex g2;exact .inr ⟨g,x,y,rfl,rfl,ab,aG,by rw[cA];exact⟨fun h=>(Iy h.2).2,fun h=>⟨g,Qy ab aG h.1 h.2⟩⟩⟩
open Classical in
theorem alT(r:ff)(dT:hB r.m→jE r.m)(a b:bG):bH al 95 [r.e,enc a,enc b] (.bool (decide (ij r∧ma r.n [a,b]))):=by
 have cV:=Ms r dT;have aT:=v7 a;have bz:=v7 b;rcases WY r a b with⟨g,aJ⟩|⟨g,g1,aJ⟩|⟨g,g1,g2,aJ⟩|⟨g,x,y,rfl,rfl,ab,aG,aJ⟩
 ·rw[jH aJ];rw[jH g]at cV;clear dT g aJ aT bz;obtain⟨n,bO,d,k,m⟩:=r;simp only[ff.e]at cV⊢;refine bf hD Eb FI fun aP=>?_;unfold AX;simp;((with_reducible repeat' first|refine aj ?_|refine aD cV ?_|refine aE cV ?_|simp|((first|apply bP|apply bS|apply bR)<;>intro h<;>try simp at h))<;>(try exact cp));all_goals simp[bt,Ls,aX,aZ,aW]
 ·rw[jH aJ];rw[jk g]at cV;rw[g1]at aT;clear dT g aJ g1 bz;obtain⟨n,bO,d,k,m⟩:=r;simp only[ff.e]at cV⊢;refine bf hD Eb FI fun aP=>?_;unfold AX;exact b2
 ·rw[jH aJ];rw[jk g]at cV;rw[g1]at aT;rw[g2]at bz;clear dT g aJ g1 g2;obtain⟨n,bO,d,k,m⟩:=r;simp only[ff.e]at cV⊢;refine bf hD Eb FI fun aP=>?_;unfold AX;exact b2
 rw[jk g]at cV;rw[bG.fits_T,ab,iQ]at aT;rw[bG.fits_T,aG,iQ]at bz;rw[iQ,iQ];have b6:=uC r.n x;have dO:=uC r.n y;rw[show decide (ij r∧ma r.n [x.tm,y.tm])=(ez r.n x&&ez r.n y)from PX.2 aJ];clear dT g ab aG aJ;obtain⟨n,bO,d,k,m⟩:=r;simp only[ff.e]at cV b6 dO⊢;generalize ez n x=p at b6;generalize ez n y=q at dO;cases p;all_goals refine bf hD Eb FI fun aP=>?_;unfold AX
 all_goals simp
 all_goals(with_reducible repeat' first|refine aj ?_|refine aD cV ?_|refine aE cV ?_|refine aD aT ?_|refine aE aT ?_|refine aD bz ?_|refine aE bz ?_|refine aD b6 ?_|refine aE b6 ?_|refine aD dO ?_|refine aE dO ?_|simp)
 all_goals simp[bt,Ls,aX,aZ,aW]
open Classical in
theorem alS(r:ff)(dT:hB r.m→jE r.m)(a b:bG)(aA:¬(ij r∧ma r.n [a,b]))(Fa k1:Int)(tag:List dz):bH al 117 [r.e,.int .i64 Fa,enc a,enc b,.int .i64 k1,.str tag] (jC none):=by
 simp only[jC,kQ,j6,lF,c8.e];have cV:=Ms r dT;have aT:=v7 a;have bz:=v7 b;rcases WY r a b with⟨g,aJ⟩|⟨g,g1,aJ⟩|⟨g,g1,g2,aJ⟩|⟨g,x,y,rfl,rfl,ab,aG,aJ⟩
 ·skip;rw[jH g]at cV;clear dT g aJ aT bz;obtain⟨n,bO,d,k,m⟩:=r;simp only[ff.e]at cV⊢;refine bf hD wI xI fun aP=>?_;unfold uO;simp;((with_reducible repeat' first|refine aj ?_|refine aD cV ?_|refine aE cV ?_|simp|((first|apply bP|apply bS|apply bR)<;>intro h<;>try simp at h))<;>(try exact cp));all_goals simp[bt,F8,aX,aZ,aW]
 ·skip;rw[jk g]at cV;rw[g1]at aT;clear dT g aJ g1 bz;obtain⟨n,bO,d,k,m⟩:=r;simp only[ff.e]at cV⊢;refine bf hD wI xI fun aP=>?_;unfold uO;simp;((with_reducible repeat' first|refine aj ?_|refine aD cV ?_|refine aE cV ?_|refine aD aT ?_|refine aE aT ?_|simp|((first|apply bP|apply bS|apply bR)<;>intro h<;>try simp at h))<;>(try exact cp));all_goals simp[bt,F8,aX,aZ,aW]
 ·skip;rw[jk g]at cV;rw[g1]at aT;rw[g2]at bz;clear dT g aJ g1 g2;obtain⟨n,bO,d,k,m⟩:=r;simp only[ff.e]at cV⊢;refine bf hD wI xI fun aP=>?_;unfold uO;simp;((with_reducible repeat' first|refine aj ?_|refine aD cV ?_|refine aE cV ?_|refine aD aT ?_|refine aE aT ?_|refine aD bz ?_|refine aE bz ?_|simp|((first|apply bP|apply bS|apply bR)<;>intro h<;>try simp at h))<;>(try exact cp));all_goals simp[bt,F8,aX,aZ,aW]
 rw[jk g]at cV;rw[bG.fits_T,ab,iQ]at aT;rw[bG.fits_T,aG,iQ]at bz;rw[iQ,iQ];have b6:=uC r.n x;have dO:=uC r.n y;have bo:(ez r.n x&&ez r.n y)=false:=Bool.eq_false_iff.2 fun h=>aA (aJ.2 h);clear dT g ab aG aJ aA;obtain⟨n,bO,d,k,m⟩:=r;simp only[ff.e]at cV b6 dO bo⊢;generalize ez n x=p at b6 bo;generalize ez n y=q at dO bo;cases p
 ·refine bf hD wI xI fun aP=>?_;unfold uO;exact b2
 ·simp only[Bool.true_and]at bo;subst bo;refine bf hD wI xI fun aP=>?_;unfold uO;exact b2
noncomputable def Gm(s:c8)(x y:T):ah:=match mgu s.b [(x,y)]with
 |none=>.tuple [lF.e,.bool false]
 |some b=>xV {s with b:=b}
theorem ajO(s:c8)(x y:T):∃t:c8,∃q:Bool,Gm s x y= .tuple [t.e,.bool q]∧(q=true→nq s x y=some t)∧(q=false→nq s x y=none):=by
 unfold Gm nq;cases mgu s.b [(x,y)]with
 |none=>exact⟨lF,false,rfl,(fun h=>by cases h),fun _=>rfl⟩
 |some b=>
  refine⟨_,_,rfl,(fun h=>?_),fun h=>?_⟩
  ·obtain⟨t,aN⟩:=fG.1 h;rw[LS aN];exact aN
  ·rw[j5];cases e:ks {s with b:=b}with
   |none=>rfl
   |some t=>rw[e]at h;cases h
theorem alN{s:c8}(h:qE s)(hm:jE s.m){x y:T}(ab:x.fit=true)(aG:y.fit=true)(bx:ez s.n x=true)(jq:ez s.n y=true):bH al 115 [s.e,.int .i64 0,x.e,y.e,.int .i64 0,.str []] (Gm s x y):=by
 have aT:=WJ s.b x y h.b.sol h.b.fits;unfold Gm;cases hu:mgu s.b [(x,y)]with
 |none=>rw[hu]at aT;clear h hu;obtain⟨n,b,d,k,m⟩:=s;simp only[c8.e,fy,lF]at aT⊢;refine bf hD Qw Uk fun aP=>?_;unfold HS;exact b2
 |some bO=>rw[hu]at aT;obtain⟨G,kf,a7⟩:=hm;have bz:=WM (h.bind ab aG bx jq hu) kf a7;simp only[xV]at bz⊢;generalize xZ {s with b:=bO}=t at bz;generalize (ks {s with b:=bO}).isSome=q at bz;clear h hu;obtain⟨n,b,d,k,m⟩:=s;obtain⟨o9,Aj,Ak,o8,tm⟩:=t;simp only[c8.e,fy]at aT bz⊢;refine bf hD Qw Uk fun aP=>?_;unfold HS;exact b2
theorem aly{x:List ar}(h:x.length≤1000000):bH al 178 [cH x] (cH x):=WE x h
theorem alJ(t:List (List ar))(aN:∀x∈t,x.length≤1000000):bH al 179 [.slice 1 .no (t.map cH)] (.slice 1 .no (t.map cH)):=by
 refine bf hD abS aii fun aP=>?_;unfold Pr;have eO:t.length≤68719476736:=by simp[eB,ec,et,lim]at aP;omega
 clear aP;have dg:=fun x ab=>aly (aN x ab);simp;(with_reducible repeat' first|refine aj ?_|simp);refine hQ (fun i (L:List (List ar))=>⟨[(7,.slice 1 .no (t.map cH)),(8,.int .i64 t.length),(3,.slice 1 (.own (.loc 0)) (L.map cH)),(9,.int .i64 i)],[],[(.loc 0,⟨L.length,46,1,none⟩)],1,[]⟩) t.length (fun i L=>L=t.take i) [] b0 (by simp) (fun L af _=>?_) (fun i L hi af _=>?_)
 ·rw[nL]at af;subst af;exact b2
 ·obtain⟨x,ab,cy⟩:=ed hi;have B8:=dg x (eG ab);have au:L.length≤i:=by rw[af];simp;omega
  clear dg;simp[hi,cy];(with_reducible repeat' first|refine aj ?_|refine aD B8 ?_|refine aE B8 ?_|simp[cy,hi]);all_goals first|(refine⟨by unfold lim;omega,?_⟩)|skip
  all_goals(with_reducible repeat' first|refine aj ?_|simp)
  all_goals refine bN.rng (L++[x]) hi (by rw[ox ab,af]) ?_
  all_goals simp
  all_goals exact⟨by simp[fresh,aK,aC,cd,inObs,Pv.look,zr],dZ (by simp[fresh,aK,aC,cd,inObs,Pv.look,zr]),ea (by simp[fresh,aK,aC,dQ,inObs,Pv.look,zr]),by simp⟩
theorem alO(s:c8)(ae:s.b.length≤1000000)(aQ:∀x∈s.d,x.length≤1000000)(ad:s.k.length≤1000000)(hm:s.m.length≤68719470000):bH al 104 [s.e] s.e:=by
 have aT:=WE s.b ae;have bz:=alJ s.d aQ;obtain⟨n,b,d,k,m⟩:=s;simp only[c8.e]at aT bz ad hm⊢;refine bf hD abW aim fun aP=>?_;unfold Pw;simp;(with_reducible repeat' first|refine aj ?_|refine aD aT ?_|refine aE aT ?_|refine aD bz ?_|refine aE bz ?_|simp);all_goals first|(refine⟨by unfold lim;omega,?_⟩)|skip
 exact b2
theorem Y9{s t:c8}(h:qE s){x y:T}(ab:x.fit=true)(aG:y.fit=true)(bx:ez s.n x=true)(jq:ez s.n y=true)(he:nq s x y=some t):rH t:=by unfold nq at he;obtain⟨b,J,U⟩:=lH.1 he;exact(VN (h.bind ab aG bx jq J) U).1
theorem aj5{s t:c8}(hm:jE s.m)(he:ks s=some t):jE t.m:=by
 obtain⟨G,kf,a7⟩:=hm;refine⟨G,kf,?_⟩;have:=LS he;unfold ks at he;split at he
 ·cases he
 ·split at he
  ·cases he
  ·rename_i m e;split at he
   ·cases he
   ·split at he
    ·have U:=Gc a7 (fun x ab=>by simp at ab) e;have ao:=fB he;rw[←ao];exact Mc U
    ·cases he
theorem Za{s t:c8}(hm:jE s.m){x y:T}(he:nq s x y=some t):jE t.m:=by unfold nq at he;obtain⟨b,J,U⟩:=lH.1 he;exact aj5 (s:={s with b:=b}) hm U
open Classical in
theorem alR{s:c8}(h:rH s)(hm:jE s.m){x y:T}(ab:x.fit=true)(aG:y.fit=true)(bx:ez s.n x=true)(jq:ez s.n y=true){Fa k1:Int}{tag:List dz}{F:aY c8}{t:c8}{q:Bool}
  (cZ:bH al 115 [s.e,.int .i64 Fa,x.e,y.e,.int .i64 k1,.str tag] (.tuple [t.e,.bool q])) (aB:q=true→F=some t) (bj:q=false→F=none) (gg:F=some t→rH t∧jE t.m):bH al 117 [s.e,.int .i64 Fa,x.e,y.e,.int .i64 k1,.str tag] (jC F):=by
 have cV:=Ms s.r fun _=>hm;rw[jk ⟨s,rfl,h⟩,Ai]at cV;have aT:=v7 x.tm;have bz:=v7 y.tm;rw[bG.fits_T,ab,iQ]at aT;rw[bG.fits_T,aG,iQ]at bz;have b6:=uC s.n x;have dO:=uC s.n y;rw[bx]at b6;rw[jq]at dO;cases q
 ·rw[bj rfl];clear h hm ab aG bx jq aB bj gg;obtain⟨n,b,d,k,m⟩:=s;obtain⟨o9,Aj,Ak,o8,tm⟩:=t;simp only[c8.e,jC,lF,kQ,j6]at cV b6 dO cZ⊢;refine bf hD wI xI fun aP=>?_;unfold uO;exact b2
 ·have aB:=aB rfl;obtain⟨aN,a7⟩:=gg aB;rw[aB];have B7:=alO t aN.1.b.len (fun z bD=>(aN.1.d z bD).len) (by have:=su aN.1.k;omega) (a7.len aN.1.m);clear h hm ab aG bx jq aB bj aN gg a7;obtain⟨n,b,d,k,m⟩:=s;obtain⟨o9,Aj,Ak,o8,tm⟩:=t;simp only[c8.e,jC,ky,p3]at cV b6 dO cZ B7⊢;refine bf hD wI xI fun aP=>?_;unfold uO;exact b2
theorem alQ{s:c8}(h:rH s)(hm:jE s.m){x y:T}(ab:x.fit=true)(aG:y.fit=true)(bx:ez s.n x=true)(jq:ez s.n y=true):bH al 117 [s.e,.int .i64 0,x.e,y.e,.int .i64 0,.str []] (jC (nq s x y)):=by have cZ:=alN h.1 hm ab aG bx jq;obtain⟨t,q,ak,aB,bj⟩:=ajO s x y;rw[ak]at cZ;exact alR h hm ab aG bx jq cZ aB bj fun e=>⟨Y9 h.1 ab aG bx jq e,Za hm e⟩
theorem alZ(r:ff)(dT:hB r.m→jE r.m)(a b:bG)(aA:¬(ij r∧ma r.n [a,b])):bH al 52 [r.e,enc a,enc b] (jC none):=by have aT:=alS r dT a b aA 0 0 [];generalize (none:aY c8)=O at aT⊢;obtain⟨n,bO,d,k,m⟩:=r;simp only[jC,c8.e,ff.e]at aT⊢;refine bf hD Qt Uh fun aP=>?_;unfold HP;exact b2
theorem alY{s:c8}(h:rH s)(hm:jE s.m){x y:T}(ab:x.fit=true)(aG:y.fit=true)(bx:ez s.n x=true)(jq:ez s.n y=true):bH al 52 [s.e,x.e,y.e] (jC (nq s x y)):=by have aT:=alQ h hm ab aG bx jq;generalize nq s x y=O at aT⊢;obtain⟨n,bO,d,k,m⟩:=s;simp only[jC,c8.e,ff.e]at aT⊢;refine bf hD Qt Uh fun aP=>?_;unfold HP;exact b2
open Classical in
theorem alX(r:ff)(dT:hB r.m→jE r.m)(a b:bG):bH al 31 [r.e,enc a,enc b] (.bool (ye r a b)):=by
 have bz:=alT r dT a b;by_cases g:ij r∧ma r.n [a,b];rotate_left
 ·have aT:=alZ r dT a b g;rw[jH g]at bz;rw[MP g];clear g dT;simp only[jC,kQ,j6,lF]at aT;obtain⟨n,bO,d,k,m⟩:=r;simp only[ff.e,c8.e]at aT bz⊢;refine bf hD Ir KO fun aP=>?_;unfold DQ;exact b2
 rw[jk g]at bz;obtain⟨⟨s,rfl,ag⟩,aI⟩:=g;obtain⟨x,rfl,_⟩:=bG.fits_ex (yH aI a (by simp));obtain⟨y,rfl,_⟩:=bG.fits_ex (yH aI b (by simp));obtain⟨⟨ab,aG⟩,bx,jq⟩:=Iy aI;have aT:=alY ag (dT ag.1.m) ab aG bx jq;rw[MO ag aI];generalize nq s x y=O at aT;rw[Ai,iQ,iQ]at bz;rw[Ai,iQ,iQ];clear dT aI ag ab aG bx jq;obtain⟨n,b,d,k,m⟩:=s;cases O with
 |none=>simp only[c8.e,jC,kQ,lF,j6,Option.isNone_none]at aT bz⊢;refine bf hD Ir KO fun aP=>?_;unfold DQ;exact b2
 |some t=>obtain⟨o9,Aj,Ak,o8,tm⟩:=t;simp only[c8.e,jC,ky,p3,Option.isNone_some]at aT bz⊢;refine bf hD Ir KO fun aP=>?_;unfold DQ;exact b2
theorem akK(r:nQ)(m:Int)(h:0≤m):sN r m≤m:=by
 have cc:=vU r.b m h;unfold sN;split
 ·omega
 have b4:=uv vU r.d (hW r.b m) (by omega);split
 ·omega
 have fD:=L9 r.k (gD hW r.d (hW r.b m)) (by omega);split
 ·omega
 have nS:=uv C5 r.m (ou r.k (gD hW r.d (hW r.b m))) (by omega);split<;>omega
theorem ak2(r:nQ)(hw:r.wf)(a b:cq)(bF:a.wf)(ae:b.wf):bH al 5 [r.e,a.e,b.e] (.bool true):=by
 have aT:=al8 r hw 1048576 (by omega) (by omega);have bo:=akK r 1048576 (by omega);by_cases g:sN r 1048576<0
 ·generalize sN r 1048576=q at aT g;clear hw bo;obtain⟨n,bO,d,k,l⟩:=r;simp only[nQ.e]at aT⊢;refine bf hD D8 FF fun aP=>?_;unfold AT;exact b2
 obtain⟨r,rfl,dT⟩:=akL hw (by omega);clear hw;rw[aky]at aT⊢;generalize sN r.h 1048576=a6 at aT g bo;have bz:=Mu a bF a6 (by omega) (by omega);have iR:=uw a a6 (by omega);by_cases g2:gL a a6<0
 ·generalize gL a a6=bu at bz g2;rw[cq.e_eq]at bz;clear bo iR dT;obtain⟨n,bO,d,k,l⟩:=r;simp only[ff.e]at aT⊢;refine bf hD D8 FF fun aP=>?_;unfold AT;exact b2
 obtain⟨a,rfl⟩:=GD a a6 bF (by omega) (by omega) (by omega);rw[GG]at bz⊢;generalize gL (uy a) a6=bu at bz g2 iR;have b6:=Mu b ae bu (by omega) (by omega);have R6:=uw b bu (by omega);by_cases g3:gL b bu<0
 ·generalize gL b bu=bV at b6 g3;rw[cq.e_eq]at b6;clear bo iR R6 dT;obtain⟨n,bO,d,k,l⟩:=r;simp only[ff.e]at aT⊢;refine bf hD D8 FF fun aP=>?_;unfold AT;exact b2
 obtain⟨b,rfl⟩:=GD b bu ae (by omega) (by omega) (by omega);rw[GG]at b6⊢;generalize gL (uy b) bu=bV at b6 g3;have t1:=amh r;have t2:=Mv a;have t3:=Mv b;have s1:=alX r dT a b;have i1:=ak0 r dT a b;have ak:=aln r;have aB:=Mm a;have bj:=Mm b;generalize ye r a b=Q at s1 i1;clear bF ae bo iR R6 dT;obtain⟨n,bO,d,k,l⟩:=r;simp only[ff.e]at aT t1 s1 i1 ak⊢;refine bf hD D8 FF fun aP=>?_;unfold AT;have Tg:=t1;exact b2
end Go.Proofs.YtahlgcidhnjlbaaGreat
