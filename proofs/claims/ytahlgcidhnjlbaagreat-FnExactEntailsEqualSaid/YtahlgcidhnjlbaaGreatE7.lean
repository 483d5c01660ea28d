/- The law of terms that are equal. -/
import Derived.Test.YtahlgcidhnjlbaaGreatProg
import Derived.Test.YtahlgcidhnjlbaaGreatE6
set_option linter.all false
set_option maxHeartbeats 4000000
open Bool renaming and_eq_true→cz,not_eq_true'→rW
open Go renaming Program→cB
open Go.Proofs.Tryz renaming f7→kA,prog→al
open Go.Proofs.YtahlgcidhnjlbaaGreat.Rows renaming fnExactEntailsEqualRow→jI,fnExactEntailsEqualSpec→rZ
open Go.Result renaming andThen_ok→fJ
open Go.Sem renaming run_bind→fC,run_pure→gk
open List renaming all_eq_true→jc,getElem?_eq_getElem→cf,getElem?_eq_some_iff→fN,map_cons→gG,map_nil→mC,mem_append→jU,mem_cons→fU,mem_filter→mD,mem_map→h8,mem_of_getElem?→eK,take_length→nP,take_of_length_le→hn
open Nat renaming le_refl→eR,le_trans→jV
open Option renaming getD_none→kB,getD_some→j9,isSome_iff_exists→fD,isSome_none→jW,isSome_some→pz
open Option.some renaming inj→fh
open _root_ renaming False→eo,UInt8→dB,decide_eq_false→jn,decide_eq_true→jd,decide_eq_true_eq→fE
namespace Go.Proofs.YtahlgcidhnjlbaaGreat
open Go
set_option maxRecDepth 100000 in
theorem Zj:joinedFacts al 7 kA rZ jI=true:=(h2 (h2 (h2 (h2 (h2 (h2 (h2 (h2 (h2 (h2 (h2 (h2 (h2 (h2 (h2 (h2 (h2 (h2 (h2 (h2 (h2 (h2 (h2 (h2 (h2 (h2 (h2 (h2 (h2 (h2 (h2 YN YO) YZ) Za) Zd) Ze) Zf) Zg) Zh) Zi) YP) YQ) YR) YS) YT) YU) YV) YW) YX) YY) Y0) Y1) Y2) Y3) Y4) Y5) Y6) Y7) Y8) Y9) Zb) Zc)
end Go.Proofs.YtahlgcidhnjlbaaGreat
namespace Go.Proofs.YtahlgcidhnjlbaaGreat
open Go Go.Pv
@[simp] def aqN:List bt:=[.tmp 6]
@[simp] def aqO:List bt:=[.tmp 4]
def A2:C:=(aa [cx 3 0,cx 4 1,cx 5 2,be 6 false] (aa [bV 7 1048576] (aa [aW 13 5 3,I 14 7,b7 15 26 13 14,I 7 15] (.seq (aa [I 16 7,aU 17 .lss 16 0] (aT 17 (aa [be 6 true] .ret) .skip)) (aa [aW 18 4 4,I 19 7,b7 20 15 18 19,I 7 20] (.seq (aa [I 21 7,aU 22 .lss 21 0] (aT 22 (aa [be 6 true] .ret) .skip)) (aa [aW 23 4 5,I 24 7,b7 25 15 23 24,I 7 25] (.seq (aa [I 26 7,aU 27 .lss 26 0] (aT 27 (aa [be 6 true] .ret) .skip)) (.seq (.drawn true 63 [aW 28 5 3,cD 29 28 28,aW 30 4 4,cD 31 18 30,aW 32 4 5,cD 33 18 32,dn 34 38 [.t 29,.t 31,.t 33],I 8 34]) (aa [aW 35 5 3,cD 36 28 35,dk 9 hy,bK 5 9 36] (aa [aW 37 4 4,cD 38 18 37,dk 10 dO,bK 4 10 38] (aa [aW 39 4 5,cD 40 18 39,dk 11 dO,bK 4 11 40] (aa [aW 41 5 9,aW 42 4 10,aW 43 4 11,dn 44 39 [.t 41,.t 42,.t 43],I 12 44] (.seq (aa [I 45 12,I 46 8,b5 47 (.beq true none (.t 45) (.t 46))] (aT 47 (aa [be 6 false] .ret) .skip)) (.seq (.seq (.drawn true 63 [aW 48 5 9,aW 49 5 3,cD 50 28 49,b7 51 30 48 50,cu 52 51]) (aT 52 (aa [be 6 false] .ret) .skip)) (.seq (.seq (.drawn true 63 [aW 53 4 10,aW 54 4 4,cD 55 18 54,b7 56 22 53 55,cu 57 56]) (aT 57 (aa [be 6 false] .ret) .skip)) (.seq (.seq (.drawn true 63 [aW 58 4 11,aW 59 4 5,cD 60 18 59,b7 61 22 58 60,cu 62 61]) (aT 62 (aa [be 6 false] .ret) .skip)) (aa [be 6 true] .ret))))))))))))))))))
@[simp] def ajq:List bt:=[.tmp 6]
@[simp] def aqM:List bt:=[.tmp 4]
@[simp] def aqP:List bt:=[.tmp 4]
@[simp] def aqV:List bt:=[.tmp 6]
@[simp] def aqu:List bt:=[.tmp 6]
@[simp] def aq0:List bt:=[.tmp 4]
@[simp] def aqz:List bt:=[.tmp 4]
def DZ:C:=(aa [cx 3 0,cx 4 1,cx 5 2,be 6 false] (aa [aW 10 5 3,aW 11 4 4,aW 12 4 5,dn 13 54 [.t 10,.t 11,.t 12],I 9 13,cC 14 0 9,cC 15 1 9,dk 7 hy,bK 5 7 14,I 8 15] (aa [aW 16 5 3,aW 17 4 4,aW 18 4 5,dn 19 95 [.t 16,.t 17,.t 18],I 20 19,b3 20 true 21 8,aq 20 true (cu 22 21),dz 23 20 22,I 6 23] .ret)))
@[simp] def aj2:List bt:=[.tmp 6]
def HL:C:=(aa [cx 3 0,cx 4 1,cx 5 2,be 6 false] (.seq (aa [aW 9 5 3,aW 10 4 4,aW 11 4 5,ei 12 4 30 [.t 10,.t 11],b7 13 96 9 12,cu 14 13] (aT 14 (aa [be 6 false] .ret) .skip)) (aa [aW 16 5 3,aW 17 4 4,aW 18 4 5,dn 19 55 [.t 16,.t 17,.t 18],I 15 19,cC 20 0 15,cC 21 1 15,dk 7 hy,bK 5 7 20,I 8 21] (aa [I 22 8,cu 23 22,I 6 23] .ret))))
@[simp] def U6:List bt:=[.tmp 6]
@[simp] def aqT:List bt:=[.tmp 4]
@[simp] def aqs:List bt:=[.tmp 4]
@[simp] def aq2:List bt:=[.tmp 4]
@[simp] def aqB:List bt:=[.tmp 4]
@[simp] def aqX:List bt:=[.cell 6 true 5,.tmp 7]
@[simp] def aqx:List bt:=[.cell 6 true 5,.tmp 7]
@[simp] def aq1:List bt:=[.cell 6 true 5,.tmp 7]
@[simp] def aqA:List bt:=[.cell 6 true 5,.tmp 7]
@[simp] def aqW:List bt:=[.cell 6 true 5,.tmp 7]
@[simp] def aqv:List bt:=[.cell 6 true 5,.tmp 7]
def H5:C:=(aa [cx 3 0,cx 4 1,cx 5 2,dk 6 hy,be 7 false] (aa [aW 8 5 3,aW 9 4 4,aW 10 4 5,dn 11 117 [.t 8,(gd 1),.t 9,.t 10,(gd 0),(.c (.str []))],cC 12 0 11,cC 13 1 11,bK 5 6 12,I 7 13] .ret))
@[simp] def aj1:List bt:=[.cell 6 true 5,.tmp 7]
def DN:C:=(aa [cx 3 0,cx 4 1,cx 5 2,dk 6 hy,be 7 false] (.seq (aa [aW 13 5 3,aW 14 4 4,aW 15 4 5,ei 16 4 30 [.t 14,.t 15],b7 17 96 13 16,cu 18 17] (aT 18 (aa [iu 19 hy [],bK 5 6 19,be 7 false] .ret) .skip)) (aa [aF 21 1 1 3,ax 22 1 21,aW 23 4 4,aW 24 4 5,dn 25 122 [.t 22,.t 23,.t 24],I 20 25,cC 26 0 20,cC 27 1 20,I 8 26,I 9 27] (.seq (aa [I 28 9,aU 29 .gtr 28 1] (aT 29 (aa [iu 30 hy [],bK 5 6 30,be 7 false] .ret) .skip)) (aa [aW 31 5 3,cD 32 105 31,dk 10 hy,bK 5 10 32] (.seq (aa [I 33 9,aU 34 .eql 33 0] (aT 34 (.region [aF 35 2 1 10,ax 36 1 35,I 37 8,ei 38 1 46 [.t 37],gF 39 1 46 36 38,aF 40 2 1 10,bK 1 40 39]) .skip)) (aa [aW 42 5 10,cD 43 90 42,I 41 43,cC 44 0 41,cC 45 1 41,dk 11 hy,bK 5 11 44,I 12 45] (aa [aW 46 5 11,I 47 12,bK 5 6 46,I 7 47] .ret))))))))
@[simp] def U5:List bt:=[.cell 6 true 5,.tmp 7]
@[simp] def aq3:List bt:=[.tmp 2]
@[simp] def aq6:List bt:=[.tmp 6]
@[simp] def aq5:List bt:=[.tmp 6]
def A6:C:=(aa [cx 3 0,cx 4 1,cx 5 2,be 6 false] (aa [aW 7 5 3,cD 8 27 7,I 9 8,aq 9 true (aW 10 4 4),aq 9 true (cD 11 56 10),dz 12 9 11,I 13 12,aq 13 true (aW 14 4 5),aq 13 true (cD 15 56 14),dz 16 13 15,I 17 16,aq 17 true (aW 18 4 4),aq 17 true (aF 19 0 1 3),aq 17 true (ax 20 1 19),aq 17 true (b7 21 148 18 20),dz 22 17 21,I 23 22,aq 23 true (aW 24 4 5),aq 23 true (aF 25 0 1 3),aq 23 true (ax 26 1 25),aq 23 true (b7 27 148 24 26),dz 28 23 27,I 6 28] .ret))
@[simp] def LM:List bt:=[.tmp 6]
def DQ:C:=(aa [cx 2 0,be 4 false] (.seq (.drawn true 18 [aW 5 5 2,cD 6 29 5,I 7 6,b3 7 true 8 1,aq 7 true (cD 9 172 8),dz 10 7 9,I 11 10,b3 11 true 12 1,aq 11 true (cD 13 162 12),aq 11 true (aF 14 0 1 2),aq 11 true (ax 15 1 14),aq 11 true (bo 16 .leq 13 15),dz 17 11 16,I 4 17]) .ret))
@[simp] def ajm:List bt:=[.tmp 4]
@[simp] def aq4:List bt:=[.tmp 2]
@[simp] def aqZ:List bt:=[.tmp 2]
@[simp] def aq7:List bt:=[.tmp 4]
@[simp] def aqK:List bt:=[.tmp 4]
def PX:C:=(aa [cx 1 0,dk 2 hy] (.seq (.drawn true 20 [aF 3 0 1 1,ax 4 1 3,aF 5 1 1 1,ax 6 1 5,cD 7 178 6,aF 8 2 1 1,ax 9 1 8,cD 10 179 9,ei 11 2 98 [],aF 12 3 1 1,ax 13 1 12,gF 14 2 98 11 13,ei 15 2 100 [],aF 16 4 1 1,ax 17 1 16,gF 18 2 100 15 17,iu 19 hy [(0,1,(.t 4)),(1,1,(.t 7)),(2,1,(.t 10)),(3,1,(.t 14)),(4,1,(.t 18))],bK 5 2 19]) .ret))
@[simp] def akd:List bt:=[.cell 2 true 5]
def Ov:C:=(aa [cx 1 0,dk 2 hy] (.seq (.drawn true 39 [aF 6 0 1 1,ax 7 1 6,aF 8 1 1 1,ax 9 1 8,cD 10 168 9,ei 11 1 46 [],iu 12 hy [(0,1,(.t 7)),(1,1,(.t 10)),(2,1,(.t 11))],dk 3 hy,bK 5 3 12]) (.seq (aa [aF 13 2 1 1,ax 14 1 13,cn 15 14,bV 16 0] (fw 17 16 15 (.seq (.block 1 (aa [ct 18 1 14 16,ax 19 1 18,I 5 19] (.drawn true 39 [aF 20 2 1 3,ax 21 1 20,I 22 5,cD 23 168 22,ei 24 1 46 [.t 23],gF 25 1 46 21 24,aF 26 2 1 3,bK 1 26 25]))) (.region [aU 27 .add 16 1,I 16 27])))) (aa [ei 28 2 98 [],aF 29 3 1 1,ax 30 1 29,gF 31 2 98 28 30,aF 32 3 1 3,bK 1 32 31] (aa [ei 33 2 100 [],aF 34 4 1 1,ax 35 1 34,gF 36 2 100 33 35,aF 37 4 1 3,bK 1 37 36] (aa [aW 38 5 3,bK 5 2 38] .ret))))))
@[simp] def Vi:List bt:=[.cell 2 true 5]
def D4:C:=(aa [cx 6 0,cx 8 2,cx 9 3,dk 12 hy,be 13 false] (aa [aW 21 5 6,dk 14 hy,bK 5 14 21] (aa [be 15 true] (.seq (aa [I 22 1,aU 23 .lss 22 2] (aT 23 (aa [aF 25 1 1 6,ax 26 1 25,aW 27 4 8,aW 28 4 9,dn 29 180 [.t 26,.t 27,.t 28],I 24 29,cC 30 0 24,cC 31 1 24,I 16 30,I 17 31] (aa [I 32 1,aU 33 .eql 32 0] (aT 33 (aa [I 34 16,aF 35 1 1 14,bK 1 35 34] (.region [I 36 17,I 15 36])) (aa [I 37 17] (aT 37 (aa [aF 38 1 1 6,ax 39 1 38,I 40 16,b7 41 153 39 40,I 18 41] (aa [I 42 18,cn 43 42,aU 44 .gtr 43 0,I 15 44] (.region [ei 45 1 46 [],aF 46 2 1 6,ax 47 1 46,gF 48 1 46 45 47,I 49 18,ei 50 1 46 [.t 49],gF 51 1 46 48 50,aF 52 2 1 14,bK 1 52 51]))) .skip))))) (aa [aF 54 1 1 6,ax 55 1 54,aW 56 4 8,b7 57 60 55 56,I 53 57,cC 58 0 53,cC 59 1 53,dk 19 dO,bK 4 19 58,I 20 59] (aa [I 60 20,I 15 60] (aa [I 61 15,I 62 61,b3 62 true 63 1,aq 62 true (aU 64 .eql 63 2),dz 65 62 64] (aT 65 (.region [aF 67 3 1 6,ax 68 1 67,aW 69 4 19,I 70 4,dn 71 151 [.t 68,.t 69,.t 70],I 66 71,cC 72 0 66,cC 73 1 66,aF 74 3 1 14,bK 1 74 72,I 15 73]) (aa [I 75 15] (aT 75 (.region [aF 77 4 1 6,ax 78 1 77,aW 79 4 19,I 80 5,dn 81 181 [.t 78,.t 79,.t 80],I 76 81,cC 82 0 76,cC 83 1 76,aF 84 4 1 14,bK 1 84 82,I 15 83]) .skip)))))))) (.seq (aa [I 85 15,cu 86 85] (aT 86 (aa [iu 87 hy [],bK 5 12 87,be 13 false] .ret) .skip)) (aa [aW 88 5 14,cD 89 81 88,cC 90 0 89,cC 91 1 89,bK 5 12 90,I 13 91] .ret))))))
@[simp] def Gl:List bt:=[.cell 12 true 5,.tmp 13]
def uW:C:=(aa [cx 6 0,cx 8 2,cx 9 3,dk 12 hy,be 13 false] (.seq (aa [aW 16 5 6,cD 17 27 16,cu 18 17,I 19 18,aq 19 false (aW 20 4 8),aq 19 false (cD 21 56 20),aq 19 false (cu 22 21),c2 23 19 22,I 24 23,aq 24 false (aW 25 4 9),aq 24 false (cD 26 56 25),aq 24 false (cu 27 26),c2 28 24 27,I 29 28,aq 29 false (aW 30 4 8),aq 29 false (aF 31 0 1 6),aq 29 false (ax 32 1 31),aq 29 false (b7 33 148 30 32),aq 29 false (cu 34 33),c2 35 29 34,I 36 35,aq 36 false (aW 37 4 9),aq 36 false (aF 38 0 1 6),aq 36 false (ax 39 1 38),aq 36 false (b7 40 148 37 39),aq 36 false (cu 41 40),c2 42 36 41] (aT 42 (aa [iu 43 hy [],bK 5 12 43,be 13 false] .ret) .skip)) (aa [aW 45 5 6,I 46 1,aW 47 4 8,aW 48 4 9,I 49 4,I 50 5,dn 51 115 [.t 45,.t 46,.t 47,.t 48,.t 49,.t 50],I 44 51,cC 52 0 44,cC 53 1 44,dk 14 hy,bK 5 14 52,I 15 53] (.seq (aa [I 54 15,cu 55 54] (aT 55 (aa [iu 56 hy [],bK 5 12 56,be 13 false] .ret) .skip)) (aa [aW 57 5 14,cD 58 104 57,bK 5 12 58,be 13 true] .ret)))))
@[simp] def Gn:List bt:=[.cell 12 true 5,.tmp 13]
def Oc:C:=(aa [cx 4 1,cx 5 2,ej 6 5,be 7 false] (.seq (aa [I 8 0,cD 9 86 8,cu 10 9,I 11 10,aq 11 false (aW 12 4 4),aq 11 false (cD 13 64 12),aq 11 false (cu 14 13),c2 15 11 14,I 16 15,aq 16 false (aW 17 4 5),aq 16 false (cD 18 64 17),aq 16 false (cu 19 18),c2 20 16 19] (aT 20 (aa [ej 6 5,be 7 false] .ret) .skip)) (aa [I 21 0,aW 22 4 4,ei 23 4 30 [.t 22],aW 24 4 5,ei 25 4 30 [.t 24],dn 26 186 [.t 21,.t 23,.t 25],cC 27 0 26,cC 28 1 26,I 6 27,I 7 28] .ret)))
@[simp] def ajg:List bt:=[.tmp 6,.tmp 7]
def HK:C:=(aa [cx 4 1,cx 5 2,ej 6 5,bV 7 0] (.seq (aa [I 12 0,cD 13 86 12,cu 14 13,I 15 14,aq 15 false (aW 16 4 4),aq 15 false (cD 17 64 16),aq 15 false (cu 18 17),c2 19 15 18,I 20 19,aq 20 false (aW 21 4 5),aq 20 false (cD 22 64 21),aq 20 false (cu 23 22),c2 24 20 23] (aT 24 (aa [ej 6 5,bV 7 3] .ret) .skip)) (aa [I 26 0,aW 27 4 4,aW 28 4 5,dn 29 121 [.t 26,.t 27,.t 28],I 25 29,cC 30 0 25,cC 31 1 25,I 8 30,I 9 31] (aa [I 33 0,I 34 8,I 35 9,dn 36 187 [.t 33,.t 34,.t 35],I 32 36,cC 37 0 32,cC 38 1 32,I 10 37,I 11 38] (aa [I 39 10,I 40 11,I 6 39,I 7 40] .ret)))))
@[simp] def ajb:List bt:=[.tmp 6,.tmp 7]
@[simp] def aqU:List bt:=[.tmp 4]
@[simp] def aqS:List bt:=[.tmp 4]
@[simp] def aqt:List bt:=[.tmp 4]
def PJ:C:=(aa [ej 2 5] (aa [ei 6 5 113 [],I 3 6] (.seq (aa [I 7 0,cn 8 7,bV 9 0] (fw 10 9 8 (.seq (.block 1 (aa [ct 11 5 7 9,aW 12 5 11,dk 5 jA,bK 5 5 12] (.drawn true 24 [I 13 3,aF 14 0 1 5,ax 15 1 14,hD 16 1 4 5,aW 17 4 16,cD 18 130 17,iu 19 jA [(0,1,(.t 15)),(1,4,(.t 18))],ei 20 5 113 [.t 19],gF 21 5 113 13 20,I 3 21]))) (.region [aU 22 .add 9 1,I 9 22])))) (aa [I 23 3,I 2 23] .ret))))
@[simp] def aj7:List bt:=[.tmp 2]
def PT:C:=(aa [ej 2 1] (aa [ei 6 1 46 [],I 3 6] (.seq (aa [I 7 0,cn 8 7,bV 9 0] (fw 10 9 8 (.seq (.block 1 (aa [ct 11 1 7 9,ax 12 1 11,I 5 12] (.region [I 13 3,I 14 5,cD 15 178 14,ei 16 1 46 [.t 15],gF 17 1 46 13 16,I 3 17]))) (.region [aU 18 .add 9 1,I 9 18])))) (aa [I 19 3,I 2 19] .ret))))
@[simp] def aka:List bt:=[.tmp 2]
def DT:C:=(aa [ej 6 5,bV 7 0] (.seq (aa [I 8 2,cu 9 8] (aT 9 (aa [ej 6 5,bV 7 1] .ret) .skip)) (.seq (aa [I 10 0,I 11 1,b7 12 169 10 11] (aT 12 (aa [ej 6 5,bV 7 2] .ret) .skip)) (aa [I 13 0,I 14 1,b7 15 166 13 14,I 6 15,bV 7 0] .ret))))
@[simp] def ajn:List bt:=[.tmp 6,.tmp 7]
@[simp] def aqY:List bt:=[.cell 4 true 4,.tmp 5]
def nk:List (Nat×dC):=[
 (3,⟨1,8,.int .i64,.int .i64 0⟩),
 (4,⟨1,1,.bool,.bool false⟩),
 (9,⟨1,16,.str,.str []⟩),
 (24,⟨4,56,.struct [(0,3),(1,3),(2,9),(3,22)],.agg [.int .i64 0,.int .i64 0,.str [],.slice 4 .nil []]⟩),
 (27,⟨1,24,.slice 30,.slice 4 .nil []⟩),
 (30,⟨4,56,.struct [(0,3),(1,3),(2,9),(3,27)],.agg [.int .i64 0,.int .i64 0,.str [],.slice 4 .nil []]⟩),
 (43,⟨5,104,.struct [(0,3),(1,38),(2,39),(3,40),(4,41)],.agg [.int .i64 0,.slice 5 .nil [],.slice 1 .nil [],.slice 2 .nil [],.slice 2 .nil []]⟩),
 (46,⟨1,24,.slice 113,.slice 5 .nil []⟩),
 (47,⟨1,24,.slice 46,.slice 1 .nil []⟩),
 (48,⟨1,24,.slice 98,.slice 2 .nil []⟩),
 (49,⟨1,24,.slice 100,.slice 2 .nil []⟩),
 (51,⟨5,104,.struct [(0,3),(1,46),(2,47),(3,48),(4,49)],.agg [.int .i64 0,.slice 5 .nil [],.slice 1 .nil [],.slice 2 .nil [],.slice 2 .nil []]⟩),
 (76,⟨1,24,.slice 3,.slice 1 .nil []⟩),
 (98,⟨2,16,.struct [(0,3),(1,3)],.agg [.int .i64 0,.int .i64 0]⟩),
 (100,⟨2,24,.struct [(0,3),(1,9)],.agg [.int .i64 0,.str []]⟩),
 (113,⟨5,64,.struct [(0,3),(1,30)],.agg [.int .i64 0,.int .i64 0,.int .i64 0,.str [],.slice 4 .nil []]⟩)]
theorem gw:fM al nk=true:=by kernel_rfl
theorem FU:bX nk A2 ajq 3 kA=true:=by kernel_rfl
theorem Ej:al.funcs[(7:Nat)]? =some kA:=Tryz.func7
theorem K7:bX nk DZ aj2 3 Tryz.f38=true:=by kernel_rfl
theorem IH:al.funcs[(38:Nat)]? =some Tryz.f38:=Tryz.func38
theorem Ut:bX nk HL U6 3 Tryz.f39=true:=by kernel_rfl
theorem QE:al.funcs[(39:Nat)]? =some Tryz.f39:=Tryz.func39
theorem UH:bX nk H5 aj1 3 Tryz.f54=true:=by kernel_rfl
theorem QS:al.funcs[(54:Nat)]? =some Tryz.f54:=Tryz.func54
theorem KX:bX nk DN U5 3 Tryz.f55=true:=by kernel_rfl
theorem Ix:al.funcs[(55:Nat)]? =some Tryz.f55:=Tryz.func55
theorem FX:bX nk A6 LM 3 Tryz.f95=true:=by kernel_rfl
theorem Em:al.funcs[(95:Nat)]? =some Tryz.f95:=Tryz.func95
theorem K0:bX nk DQ ajm 2 Tryz.f96=true:=by kernel_rfl
theorem IA:al.funcs[(96:Nat)]? =some Tryz.f96:=Tryz.func96
theorem aiP:bX nk PX akd 1 Tryz.f104=true:=by kernel_rfl
theorem acp:al.funcs[(104:Nat)]? =some Tryz.f104:=Tryz.func104
theorem ahp:bX nk Ov Vi 1 Tryz.f105=true:=by kernel_rfl
theorem aaX:al.funcs[(105:Nat)]? =some Tryz.f105:=Tryz.func105
theorem Lc:bX nk D4 Gl 6 Tryz.f115=true:=by kernel_rfl
theorem IN:al.funcs[(115:Nat)]? =some Tryz.f115:=Tryz.func115
theorem xO:bX nk uW Gn 6 Tryz.f117=true:=by kernel_rfl
theorem wR:al.funcs[(117:Nat)]? =some Tryz.f117:=Tryz.func117
theorem ahb:bX nk Oc ajg 3 Tryz.f121=true:=by kernel_rfl
theorem aaJ:al.funcs[(121:Nat)]? =some Tryz.f121:=Tryz.func121
theorem Us:bX nk HK ajb 3 Tryz.f122=true:=by kernel_rfl
theorem QD:al.funcs[(122:Nat)]? =some Tryz.f122:=Tryz.func122
theorem aiC:bX nk PJ aj7 1 Tryz.f178=true:=by kernel_rfl
theorem aca:al.funcs[(178:Nat)]? =some Tryz.f178:=Tryz.func178
theorem aiL:bX nk PT aka 1 Tryz.f179=true:=by kernel_rfl
theorem ack:al.funcs[(179:Nat)]? =some Tryz.f179:=Tryz.func179
theorem K3:bX nk DT ajn 3 Tryz.f187=true:=by kernel_rfl
theorem ID:al.funcs[(187:Nat)]? =some Tryz.f187:=Tryz.func187
def B7(t:T)(k:Nat)(st:bq):Prop:=
 (k=t.args.length∧st=⟨[(2,.ptr (.loc 1) 0),(3,.ptr (.loc 2) 0),(14,.slice 4 .no (t.args.map T.e)),(15,.int .i64 t.args.length),(16,.int .i64 0)],[(.loc 1,[.int .i64 0,.int .i64 0,.str [],.slice 4 .nil []]),(.loc 2,[.int .i64 t.kind,.int .i64 t.int,.str t.name,.slice 4 .nil []])],[],3,[]⟩)∨
 ∃i:Nat,1≤i∧i≤t.args.length∧k=t.args.length-i∧st=⟨[(2,.ptr (.loc 1) 0),(3,.ptr (.loc 2) 0),(14,.slice 4 .no (t.args.map T.e)),(15,.int .i64 t.args.length),(16,.int .i64 i)],[(.loc 1,[.int .i64 0,.int .i64 0,.str [],.slice 4 .nil []]),(.loc 2,[.int .i64 t.kind,.int .i64 t.int,.str t.name,.slice 4 (.own (.loc 29)) ((t.args.take i).map T.e)])],[(.loc 29,⟨i,30,4,none⟩)],30,[]⟩
set_option maxRecDepth 4000 in
theorem W8(t:T):bG al 130 [t.e] t.e:=by
 induction t with
 |pair a b dQ dR=>
  refine bd fI Bf CD fun aP=>?_;unfold yA;simp;refine o3 (B7 (.pair a b)) 2 _ b1 (.inl ⟨rfl,rfl⟩) ?_;rintro k st (⟨ad,rfl⟩|⟨i,J,U,ad,rfl⟩) kG cP;all_goals clear kG cP
  ·simp;(with_reducible repeat' first|refine aj ?_|refine aD dQ ?_|refine aE dQ ?_|simp);refine bP.next 1 (by rw[ad];simp) (.inr ⟨1,by omega,by simp,rfl,rfl⟩) b1
  ·rcases(by simp at U;omega:i=1∨i=2)with rfl|rfl
   ·simp;(with_reducible repeat' first|refine aj ?_|refine aD dR ?_|refine aE dR ?_|simp);refine bP.next 0 (by rw[ad];simp) (.inr ⟨2,by omega,by simp,rfl,rfl⟩) b1
   ·exact b0
 |nil=>
  refine bd fI Bf CD fun aP=>?_;unfold yA;simp;refine o3 (B7 (.nil)) 0 _ b1 (.inl ⟨rfl,rfl⟩) ?_;rintro k st (⟨ad,rfl⟩|⟨i,J,U,ad,rfl⟩) kG cP;all_goals clear kG cP
  ·exact b0
  ·simp at U;omega
 |var n=>
  refine bd fI Bf CD fun aP=>?_;unfold yA;simp;refine o3 (B7 (.var n)) 0 _ b1 (.inl ⟨rfl,rfl⟩) ?_;rintro k st (⟨ad,rfl⟩|⟨i,J,U,ad,rfl⟩) kG cP;all_goals clear kG cP
  ·exact b0
  ·simp at U;omega
 |sym s=>
  refine bd fI Bf CD fun aP=>?_;unfold yA;simp;refine o3 (B7 (.sym s)) 0 _ b1 (.inl ⟨rfl,rfl⟩) ?_;rintro k st (⟨ad,rfl⟩|⟨i,J,U,ad,rfl⟩) kG cP;all_goals clear kG cP
  ·exact b0
  ·simp at U;omega
 |num n=>
  refine bd fI Bf CD fun aP=>?_;unfold yA;simp;refine o3 (B7 (.num n)) 0 _ b1 (.inl ⟨rfl,rfl⟩) ?_;rintro k st (⟨ad,rfl⟩|⟨i,J,U,ad,rfl⟩) kG cP;all_goals clear kG cP
  ·exact b0
  ·simp at U;omega
theorem Xb(t:List ar)(aN:t.length≤1000000):bG al 178 [.slice 5 .no (t.map ar.e)] (.slice 5 .no (t.map ar.e)):=by
 refine bd gw aca aiC fun aP=>?_;unfold PJ;simp;(with_reducible repeat' first|refine aj ?_|simp);refine hR (α:=List ar) (fun i out=>⟨[(7,.slice 5 .no (t.map ar.e)),(8,.int .i64 t.length),(3,.slice 5 (.own (.loc 0)) (out.map ar.e)),(9,.int .i64 i)],[],[(.loc 0,⟨out.length,113,5,none⟩)],1,[]⟩) t.length (fun i out=>out=t.take i) [] b1 (by simp) (fun out af _=>?_) (fun i out hi af _=>?_)
 ·rw[hn (eR _)]at af;subst af;exact b0
 ·obtain⟨b,aK,fY⟩:=ed hi;have zf:out.length≤1000000:=by rw[af];simp;omega
  simp[hi,fY];(with_reducible repeat' first|refine aj ?_|refine aD (W8 _) ?_|refine aE (W8 _) ?_|simp[fY,hi]);all_goals first|(refine⟨by unfold lim;omega,?_⟩)|skip
  all_goals(with_reducible repeat' first|refine aj ?_|simp)
  all_goals refine bP.rng (out++[b]) hi (by rw[oH aK,af]) ?_
  all_goals simp
  all_goals exact⟨by simp[fresh,aJ,aC,cd,inObs,Pv.look,iW],dY (by simp[fresh,aJ,aC,cd,inObs,Pv.look,iW]),dZ (by simp[fresh,aJ,aC,dP,inObs,Pv.look,iW]),by simp⟩
def me(n:Int)(l:List bF):Prop:= ∃x:List T,l=x.map T.tm∧(∀t∈x,t.fit=true)∧∀t∈x,er n t=true
theorem WL{x y:List T}(h:x.map T.tm=y.map T.tm):x=y:=(List.map_inj_right fun _ _=>De).1 h
theorem Zy(l:List T):(l.map T.tm).map enc=l.map T.e:=by rw[List.map_map];exact List.map_congr_left fun t _=>iR t
theorem QX:∀{l:List bF},l.all bF.fits=true→∃x:List T,l=x.map T.tm∧∀t∈x,t.fit=true
 |[],_=>⟨[],rfl,by simp⟩
 |t::l,h=>by rw[List.all_cons,cz]at h;obtain⟨x,rfl,U⟩:=QX h.2;obtain⟨y,rfl,a8⟩:=bF.fits_ex h.1;exact⟨y::x,rfl,fun z br=>(fU.1 br).elim (fun e=>by rw[e];exact a8) (U z)⟩
theorem yO{n:Int}{l:List bF}(h:me n l):∀t∈l,t.fits=true:=fun t aN=>by obtain⟨x,rfl,U,_⟩:=h;obtain⟨y,aG,rfl⟩:=h8.1 aN;rw[bF.fits_T];exact U y aG
theorem QW{n:Int}{x y:T}(ab:x.fit=true)(aG:y.fit=true)(J:er n x=true)(U:er n y=true):me n [x.tm,y.tm]:=⟨[x,y],rfl,by simp[ab,aG],by simp[J,U]⟩
theorem IS{n:Int}{x y:T}(h:me n [x.tm,y.tm]):(x.fit=true∧y.fit=true)∧er n x=true∧er n y=true:=by obtain⟨l,e,J,U⟩:=h;have:=WL (x:=[x,y]) e;subst this;exact⟨⟨J x (by simp),J y (by simp)⟩,U x (by simp),U y (by simp)⟩
theorem Qm{p:Prop}[Decidable p]{b:Bool}:decide p=b↔(p↔b=true):=by cases b<;>simp
theorem Xr{n:Int}:∀(l:List T) (m:Int),l.foldl (fun m t=>t.fold qO m) m≤n↔m≤n∧∀t∈l,er n t=true
 |[],m=>by simp
 |t::l,m=>by rw[List.foldl_cons,Xr l,Hd];simp[and_assoc]
theorem pd.fin{α:Type}{p:α→Bool}{s:List α}(h:pd p s s.length ()):∀b∈s,p b=true:=fun b ae=>by obtain⟨i,hi⟩:=List.mem_iff_getElem?.1 ae;exact h i b (by have:=(fN.1 hi).1;omega) hi
theorem amD(l:List bF):bG al 172 [.slice 4 .no (l.map enc)] (.bool (l.all bF.fits)):=by
 generalize bh:l.all bF.fits=R;refine bd fI QL UA fun aP=>?_;unfold HS;have eT:l.length≤68719476736:=by simp[eC,ec,ev,lim]at aP;omega
 simp;refine dV [5,6] (fun i (_:Unit)=>[(7,.int .i64 i)]) l.length (pd bF.fits l) () b1 (fun k b ad=>by omega) (fun _ af _=>?_) (fun i _ hi af _=>?_)
 ·have:R=true:=by rw[←bh,jc];exact af.fin
  subst this;clear af bh;exact b0
 ·obtain⟨t,aN,qx⟩:=ed hi;have dH:=G2 t;cases g:t.fits
  ·rw[g]at dH;have:R=false:=by rw[←bh,List.all_eq_false];exact⟨t,eK aN,by rw[g];simp⟩
   subst this;clear aN af bh;exact b0
  ·rw[g]at dH;have aw:=af.step aN g;clear aN af bh;exact hO
open Classical in
theorem W6(r:fi)(dS:hC r.m→jG r.m)(l:List bF):bG al 96 [r.e,.slice 4 .no (l.map enc)] (.bool (decide (il r∧me r.n l))):=by
 generalize bh:decide (il r∧me r.n l)=R;have cV:=alE r dS;have dH:=amD l;have aw:=fun h:il r=>(il.raw h).n;by_cases g1:il r;rotate_left
 ·rw[jn g1]at cV;have:R=false:=by rw[←bh];exact jn fun h=>g1 h.1
  subst this;obtain⟨n,b,d,k,m⟩:=r;simp only[fi.e]at cV⊢;clear bh aw dS g1;refine bd gw IA K0 fun aP=>?_;unfold DQ;exact b0
 rw[jd g1]at cV;cases g2:l.all bF.fits
 ·rw[g2]at dH;have:R=false:=by rw[←bh];refine jn fun h=>?_;obtain⟨x,rfl,U,_⟩:=h.2;rw[List.all_eq_false]at g2;obtain⟨t,aN,aI⟩:=g2;obtain⟨y,aG,rfl⟩:=h8.1 aN;rw[bF.fits_T]at aI;exact aI (U y aG)
  subst this;obtain⟨n,b,d,k,m⟩:=r;simp only[fi.e]at cV⊢;clear bh aw dS g1 g2;refine bd gw IA K0 fun aP=>?_;unfold DQ;exact b0
 rw[g2]at dH;obtain⟨x,rfl,ab⟩:=QX g2;rw[Zy]at dH⊢;have pQ:=W3 x ab;have aK:decide (wm x≤r.n)=R:=by rw[←bh,wm];refine decide_eq_decide.2 ?_;rw[Xr];refine⟨fun h=>⟨g1,x,rfl,ab,h.2⟩,fun h=>⟨(aw g1).1,?_⟩⟩;obtain⟨y,e,_,U⟩:=h.2;rw[WL e];exact U
 generalize wm x=q at pQ aK;obtain⟨n,b,d,k,m⟩:=r;simp only[fi.e]at cV aK⊢;clear bh aw dS g1 g2 ab;subst aK;refine bd gw IA K0 fun aP=>?_;unfold DQ;exact b0
theorem alH{b:List ar}(ae:eA b){x y:T}(ab:x.fit=true)(aG:y.fit=true):bG al 121 [.slice 5 .no (b.map ar.e),x.e,y.e] (fs (mgu b [(x,y)])):=by have cV:=oL ae;have aS:=ye ab;have bp:=ye aG;have key:=Xm b [x] [y] rfl ae.sol ae.fits ae.ok (by simp) (by simp only[T.fit,cz]at ab;simpa using ab.1) (by simp only[T.fit,cz]at aG;simpa using aG.1);simp only[gG,mC,List.zip_cons_cons,List.zip_nil_left]at key;unfold fs at key⊢;generalize mgu b [(x,y)]=O at key;refine bd gw aaJ ahb fun aP=>?_;unfold Oc;exact b0
theorem zA(S:aH→Prop)(l:List (List ar))(d:List ar):aJ S (l.map cE++[cE d])=True:=sF S l d
theorem alJ{x:List ar}(h:x.length≤1000000):bG al 168 [cE x] (cE x):=G3 x h
theorem T.fit_ok{x:T}(h:x.fit=true):x.ok=true:=by simp only[T.fit,cz]at h;exact h.1
theorem oD.bind{s:cX}(h:oD s){x y:T}(ab:x.fit=true)(aG:y.fit=true)(bx:er s.n x=true)(iB:er s.n y=true){b:List ar}(hm:mgu s.b [(x,y)]=some b):oD {s with b:=b}:=⟨h.n,h.b.mgu (by simp[T.fit_ok ab,T.fit_ok aG]) hm,h.d,h.k,h.m,Ub (fun v=>v<s.n) h.b.sol h.b.fits h.bb (fun e he=>by simp only[List.mem_singleton]at he;subst he;exact⟨AZ.1 bx,AZ.1 iB⟩) hm,h.db,h.kb,h.mb⟩
open Classical in
theorem alV{s:cX}(h:rN s)(hm:jG s.m){x y:T}(ab:x.fit=true)(aG:y.fit=true)(bx:er s.n x=true)(iB:er s.n y=true):bG al 96 [s.e,.slice 4 .no [x.e,y.e]] (.bool true):=by have:=W6 s.r (fun _=>hm) [x.tm,y.tm];rw[jd ⟨⟨s,rfl,h⟩,QW ab aG bx iB⟩,Aw]at this;simpa[iR]using this
theorem Xq(r:fi)(a b:bF):(¬il r∧¬(il r∧me r.n [a,b]))∨(il r∧a.fits=false∧¬(il r∧me r.n [a,b]))∨(il r∧a.fits=true∧b.fits=false∧¬(il r∧me r.n [a,b]))∨
  (il r∧∃x y:T,a=x.tm∧b=y.tm∧x.fit=true∧y.fit=true∧((il r∧me r.n [a,b])↔(er r.n x&&er r.n y)=true)):=by
 by_cases g:il r;rotate_left
 ·exact .inl ⟨g,fun h=>g h.1⟩
 refine .inr ?_;cases g1:a.fits
 ·refine .inl ⟨g,rfl,fun h=>?_⟩;have:=yO h.2 a (by simp);rw[g1]at this;cases this
 refine .inr ?_;cases g2:b.fits
 ·refine .inl ⟨g,rfl,rfl,fun h=>?_⟩;have:=yO h.2 b (by simp);rw[g2]at this;cases this
 obtain⟨x,rfl,ab⟩:=bF.fits_ex g1;obtain⟨y,rfl,aG⟩:=bF.fits_ex g2;exact .inr ⟨g,x,y,rfl,rfl,ab,aG,by rw[cz];exact⟨fun h=>(IS h.2).2,fun h=>⟨g,QW ab aG h.1 h.2⟩⟩⟩
open Classical in
theorem amk(r:fi)(dS:hC r.m→jG r.m)(a b:bF):bG al 95 [r.e,enc a,enc b] (.bool (decide (il r∧me r.n [a,b]))):=by
 have cV:=MQ r dS;have aS:=wj a;have bp:=wj b;rcases Xq r a b with⟨g,aK⟩|⟨g,g1,aK⟩|⟨g,g1,g2,aK⟩|⟨g,x,y,rfl,rfl,ab,aG,aK⟩
 ·rw[jn aK];rw[jn g]at cV;clear dS g aK aS bp;obtain⟨n,bO,d,k,m⟩:=r;simp only[fi.e]at cV⊢;refine bd gw Em FX fun aP=>?_;unfold A6;simp;((with_reducible repeat' first|refine aj ?_|refine aD cV ?_|refine aE cV ?_|simp|((first|apply bM|apply bR|apply bQ)<;>intro h<;>try simp at h))<;>(try exact ch));all_goals simp[bu,LM,aX,aY,aV]
 ·rw[jn aK];rw[jd g]at cV;rw[g1]at aS;clear dS g aK g1 bp;obtain⟨n,bO,d,k,m⟩:=r;simp only[fi.e]at cV⊢;refine bd gw Em FX fun aP=>?_;unfold A6;exact b0
 ·rw[jn aK];rw[jd g]at cV;rw[g1]at aS;rw[g2]at bp;clear dS g aK g1 g2;obtain⟨n,bO,d,k,m⟩:=r;simp only[fi.e]at cV⊢;refine bd gw Em FX fun aP=>?_;unfold A6;exact b0
 rw[jd g]at cV;rw[bF.fits_T,ab,iR]at aS;rw[bF.fits_T,aG,iR]at bp;rw[iR,iR];have bW:=uL r.n x;have dy:=uL r.n y;rw[show decide (il r∧me r.n [x.tm,y.tm])=(er r.n x&&er r.n y)from Qm.2 aK];clear dS g ab aG aK;obtain⟨n,bO,d,k,m⟩:=r;simp only[fi.e]at cV bW dy⊢;generalize er n x=p at bW;generalize er n y=q at dy;cases p;all_goals refine bd gw Em FX fun aP=>?_;unfold A6
 all_goals simp
 all_goals(with_reducible repeat' first|refine aj ?_|refine aD cV ?_|refine aE cV ?_|refine aD aS ?_|refine aE aS ?_|refine aD bp ?_|refine aE bp ?_|refine aD bW ?_|refine aE bW ?_|refine aD dy ?_|refine aE dy ?_|simp)
 all_goals simp[bu,LM,aX,aY,aV]
open Classical in
theorem amj(r:fi)(dS:hC r.m→jG r.m)(a b:bF)(aw:¬(il r∧me r.n [a,b]))(Fq k3:Int)(tag:List dB):bG al 117 [r.e,.int .i64 Fq,enc a,enc b,.int .i64 k3,.str tag] (jj none):=by
 simp only[jj,kB,jW,lI,cX.e];have cV:=MQ r dS;have aS:=wj a;have bp:=wj b;rcases Xq r a b with⟨g,aK⟩|⟨g,g1,aK⟩|⟨g,g1,g2,aK⟩|⟨g,x,y,rfl,rfl,ab,aG,aK⟩
 ·skip;rw[jn g]at cV;clear dS g aK aS bp;obtain⟨n,bO,d,k,m⟩:=r;simp only[fi.e]at cV⊢;refine bd gw wR xO fun aP=>?_;unfold uW;simp;((with_reducible repeat' first|refine aj ?_|refine aD cV ?_|refine aE cV ?_|simp|((first|apply bM|apply bR|apply bQ)<;>intro h<;>try simp at h))<;>(try exact ch));all_goals simp[bu,Gn,aX,aY,aV]
 ·skip;rw[jd g]at cV;rw[g1]at aS;clear dS g aK g1 bp;obtain⟨n,bO,d,k,m⟩:=r;simp only[fi.e]at cV⊢;refine bd gw wR xO fun aP=>?_;unfold uW;simp;((with_reducible repeat' first|refine aj ?_|refine aD cV ?_|refine aE cV ?_|refine aD aS ?_|refine aE aS ?_|simp|((first|apply bM|apply bR|apply bQ)<;>intro h<;>try simp at h))<;>(try exact ch));all_goals simp[bu,Gn,aX,aY,aV]
 ·skip;rw[jd g]at cV;rw[g1]at aS;rw[g2]at bp;clear dS g aK g1 g2;obtain⟨n,bO,d,k,m⟩:=r;simp only[fi.e]at cV⊢;refine bd gw wR xO fun aP=>?_;unfold uW;simp;((with_reducible repeat' first|refine aj ?_|refine aD cV ?_|refine aE cV ?_|refine aD aS ?_|refine aE aS ?_|refine aD bp ?_|refine aE bp ?_|simp|((first|apply bM|apply bR|apply bQ)<;>intro h<;>try simp at h))<;>(try exact ch));all_goals simp[bu,Gn,aX,aY,aV]
 rw[jd g]at cV;rw[bF.fits_T,ab,iR]at aS;rw[bF.fits_T,aG,iR]at bp;rw[iR,iR];have bW:=uL r.n x;have dy:=uL r.n y;have bn:(er r.n x&&er r.n y)=false:=Bool.eq_false_iff.2 fun h=>aw (aK.2 h);clear dS g ab aG aK aw;obtain⟨n,bO,d,k,m⟩:=r;simp only[fi.e]at cV bW dy bn⊢;generalize er n x=p at bW bn;generalize er n y=q at dy bn;cases p
 ·refine bd gw wR xO fun aP=>?_;unfold uW;exact b0
 ·simp only[Bool.true_and]at bn;subst bn;refine bd gw wR xO fun aP=>?_;unfold uW;exact b0
theorem alZ{x:List ar}(h:x.length≤1000000):bG al 178 [cE x] (cE x):=Xb x h
theorem ama(t:List (List ar))(aN:∀x∈t,x.length≤1000000):bG al 179 [.slice 1 .no (t.map cE)] (.slice 1 .no (t.map cE)):=by
 refine bd gw ack aiL fun aP=>?_;unfold PT;have eT:t.length≤68719476736:=by simp[eC,ec,ev,lim]at aP;omega
 clear aP;have dg:=fun x ab=>alZ (aN x ab);simp;(with_reducible repeat' first|refine aj ?_|simp);refine hR (fun i (L:List (List ar))=>⟨[(7,.slice 1 .no (t.map cE)),(8,.int .i64 t.length),(3,.slice 1 (.own (.loc 0)) (L.map cE)),(9,.int .i64 i)],[],[(.loc 0,⟨L.length,46,1,none⟩)],1,[]⟩) t.length (fun i L=>L=t.take i) [] b1 (by simp) (fun L af _=>?_) (fun i L hi af _=>?_)
 ·rw[nP]at af;subst af;exact b0
 ·obtain⟨x,ab,cy⟩:=ed hi;have Cf:=dg x (eK ab);have au:L.length≤i:=by rw[af];simp;omega
  clear dg;simp[hi,cy];(with_reducible repeat' first|refine aj ?_|refine aD Cf ?_|refine aE Cf ?_|simp[cy,hi]);all_goals first|(refine⟨by unfold lim;omega,?_⟩)|skip
  all_goals(with_reducible repeat' first|refine aj ?_|simp)
  all_goals refine bP.rng (L++[x]) hi (by rw[oH ab,af]) ?_
  all_goals simp
  all_goals exact⟨by simp[fresh,aJ,aC,cd,inObs,Pv.look,zA],dY (by simp[fresh,aJ,aC,cd,inObs,Pv.look,zA]),dZ (by simp[fresh,aJ,aC,dP,inObs,Pv.look,zA]),by simp⟩
theorem amf(s:cX)(ae:s.b.length≤1000000)(aQ:∀x∈s.d,x.length≤1000000)(ad:s.k.length≤1000000)(hm:s.m.length≤68719470000):bG al 104 [s.e] s.e:=by
 have aS:=Xb s.b ae;have bp:=ama s.d aQ;obtain⟨n,b,d,k,m⟩:=s;simp only[cX.e]at aS bp ad hm⊢;refine bd gw acp aiP fun aP=>?_;unfold PX;simp;(with_reducible repeat' first|refine aj ?_|refine aD aS ?_|refine aE aS ?_|refine aD bp ?_|refine aE bp ?_|simp);all_goals first|(refine⟨by unfold lim;omega,?_⟩)|skip
 exact b0
theorem Wi{s t:cX}(hm:jG s.m)(he:ik s=some t):jG t.m:=by
 obtain⟨G,jJ,a1⟩:=hm;refine⟨G,jJ,?_⟩;have:=Me he;unfold ik at he;split at he
 ·cases he
 ·split at he
  ·cases he
  ·rename_i m e;split at he
   ·cases he
   ·split at he
    ·have U:=Gs a1 (fun x ab=>by simp at ab) e;have ao:=fh he;rw[←ao];exact Mx U
    ·cases he
open Classical in
theorem ami{s:cX}(h:rN s)(hm:jG s.m){x y:T}(ab:x.fit=true)(aG:y.fit=true)(bx:er s.n x=true)(iB:er s.n y=true){Fq k3:Int}{tag:List dB}{F:Option cX}{t:cX}{q:Bool}
  (c0:bG al 115 [s.e,.int .i64 Fq,x.e,y.e,.int .i64 k3,.str tag] (.tuple [t.e,.bool q])) (aB:q=true→F=some t) (bf:q=false→F=none) (gg:F=some t→rN t∧jG t.m):bG al 117 [s.e,.int .i64 Fq,x.e,y.e,.int .i64 k3,.str tag] (jj F):=by
 have cV:=MQ s.r fun _=>hm;rw[jd ⟨s,rfl,h⟩,Aw]at cV;have aS:=wj x.tm;have bp:=wj y.tm;rw[bF.fits_T,ab,iR]at aS;rw[bF.fits_T,aG,iR]at bp;have bW:=uL s.n x;have dy:=uL s.n y;rw[bx]at bW;rw[iB]at dy;cases q
 ·rw[bf rfl];clear h hm ab aG bx iB aB bf gg;obtain⟨n,b,d,k,m⟩:=s;obtain⟨oJ,ya,yb,oI,tm⟩:=t;simp only[cX.e,jj,lI,kB,jW]at cV bW dy c0⊢;refine bd gw wR xO fun aP=>?_;unfold uW;exact b0
 ·have aB:=aB rfl;obtain⟨aN,a1⟩:=gg aB;rw[aB];have Ce:=amf t aN.1.b.len (fun z br=>(aN.1.d z br).len) (by have:=sD aN.1.k;omega) (a1.len aN.1.m);clear h hm ab aG bx iB aB bf aN gg a1;obtain⟨n,b,d,k,m⟩:=s;obtain⟨oJ,ya,yb,oI,tm⟩:=t;simp only[cX.e,jj,j9,pz]at cV bW dy c0 Ce⊢;refine bd gw wR xO fun aP=>?_;unfold uW;exact b0
theorem alc(r:nV)(m:Int)(h:0≤m):sX r m≤m:=by
 have cc:=wb r.b m h;unfold sX;split
 ·omega
 have b4:=uE wb r.d (hW r.b m) (by omega);split
 ·omega
 have fH:=Mu r.k (gE hW r.d (hW r.b m)) (by omega);split
 ·omega
 have nX:=uE Dd r.m (oF r.k (gE hW r.d (hW r.b m))) (by omega);split<;>omega
def zO(s:List ar):Option (List ar)→List ar
 |none=>[]
 |some b=>eF s b
open Classical in
noncomputable def uZ(s:List ar):Option (List ar)→Int
 |none=>1
 |some b=>if eF s b=[]then 2 else 0
noncomputable def nv(s:cX)(x y:T):Option cX:=match mgu s.b [(x,y)]with
 |none=>ik s
 |some b=>if eF s.b b=[]then none else ik {s with d:=s.d++[eF s.b b]}
theorem agT{s b:List ar}(ag:eA s){E:List (T×T)}(hm:mgu s E=some b):eF s b=[]↔s=b:=by
 constructor
 ·intro h;have J:=Ua ag.sol ag.fits hm;rw[h,show hq []=[]from rfl,FL ag.sol ag.fits]at J;exact fh J
 ·rintro rfl;unfold eF;rw[List.filter_eq_nil_iff];intro c ay;rw[tq ag.sol.asc ay];simp
theorem oD.dif{s:cX}(h:oD s){x y:T}(ab:x.fit=true)(aG:y.fit=true)(bx:er s.n x=true)(iB:er s.n y=true){b:List ar}(hm:mgu s.b [(x,y)]=some b):oD {s with d:=s.d++[eF s.b b]}:=by
 have ae:=h.bind ab aG bx iB hm;refine⟨h.n,h.b,fun z br=>?_,h.k,h.m,h.bb,fun z br=>?_,h.kb,h.mb⟩
 ·rcases jU.1 br with br|br
  ·exact h.d z br
  ·rw[List.mem_singleton.1 br];exact Cw ae.b
 ·rcases jU.1 br with br|br
  ·exact h.db z br
  ·rw[List.mem_singleton.1 br];exact fun c ay=>ae.bb c (mD.1 ay).1
theorem Zo{s t:cX}(h:oD s){x y:T}(ab:x.fit=true)(aG:y.fit=true)(bx:er s.n x=true)(iB:er s.n y=true)(he:nv s x y=some t):rN t:=by
 unfold nv at he;cases hm:mgu s.b [(x,y)]with
 |none=>rw[hm]at he;exact(Md h he).1
 |some b=>
  rw[hm]at he;simp only at he;split at he
  ·cases he
  ·exact(Md (h.dif ab aG bx iB hm) he).1
theorem Zp{s t:cX}(hm:jG s.m){x y:T}(he:nv s x y=some t):jG t.m:=by
 unfold nv at he;cases hu:mgu s.b [(x,y)]with
 |none=>rw[hu]at he;exact Wi hm he
 |some b=>
  rw[hu]at he;simp only at he;split at he
  ·cases he
  ·exact Wi (s:={s with d:=s.d++[eF s.b b]}) hm he
theorem Wh{s t:cX}(he:ik s=some t):t.d.length≤30:=by
 unfold ik at he;split at he
 ·cases he
 split at he
 ·cases he
 split at he
 ·cases he
 split at he
 ·rename_i h;have:=fh he;rw[←this];exact h
 ·cases he
open Classical in
noncomputable def yl(r:fi)(a b:bF):Bool:=decide (∃s x y,r=s.r∧rN s∧me s.n [a,b]∧a=T.tm x∧b=T.tm y∧nv s x y=none)
open Classical in
theorem Nf{r:fi}{a b:bF}(h:¬(il r∧me r.n [a,b])):yl r a b=false:=jn fun⟨s,_,_,J,U,ao,_⟩=>h ⟨⟨s,J,U⟩,by rw[J];exact ao⟩
open Classical in
theorem Nd{s:cX}(h:rN s){x y:T}(aI:me s.n [x.tm,y.tm]):yl s.r x.tm y.tm=(nv s x y).isNone:=by unfold yl;rw[Qm,Option.isNone_iff_eq_none];refine⟨fun⟨ai,Dq,M3,J,_,_,a8,bZ,c7⟩=>?_,fun cr=>⟨s,x,y,rfl,h,aI,rfl,rfl,cr⟩⟩;rw[cX.r_inj J,De a8,De bZ];exact c7
theorem V8(s:cX):∃t:cX,∃q:Bool,sT s= .tuple [t.e,.bool q]∧(q=true→ik s=some t)∧(q=false→ik s=none):=by
 refine⟨_,_,rfl,(fun h=>?_),fun h=>?_⟩
 ·obtain⟨t,aN⟩:=fD.1 h;rw[Me aN];exact aN
 ·cases e:ik s with
  |none=>rfl
  |some t=>rw[e]at h;cases h
open Classical in
noncomputable def GB(s:cX)(x y:T):ah:=match mgu s.b [(x,y)]with
 |none=>sT s
 |some b=>if eF s.b b=[]then .tuple [lI.e,.bool false]else sT {s with d:=s.d++[eF s.b b]}
theorem akh(s:cX)(x y:T):∃t:cX,∃q:Bool,GB s x y= .tuple [t.e,.bool q]∧(q=true→nv s x y=some t)∧(q=false→nv s x y=none):=by
 unfold GB nv;cases mgu s.b [(x,y)]with
 |none=>exact V8 s
 |some b=>
  by_cases h:eF s.b b=[]
  ·simp only[if_pos h];exact⟨lI,false,rfl,(fun h=>by cases h),fun _=>trivial⟩
  ·simp only[if_neg h];exact V8 _
theorem ame{s:cX}(h:oD s)(aQ:s.d.length≤30)(hm:jG s.m){x y:T}(ab:x.fit=true)(aG:y.fit=true)(bx:er s.n x=true)(iB:er s.n y=true):bG al 115 [s.e,.int .i64 1,x.e,y.e,.int .i64 0,.str []] (GB s x y):=by
 have aS:=Xe s.b x y h.b.sol h.b.fits;obtain⟨G,jJ,a1⟩:=hm;unfold GB;cases hu:mgu s.b [(x,y)]with
 |none=>rw[hu]at aS;have bp:=MP h jJ a1;simp only[sT]at bp⊢;generalize vY s=t at bp;generalize (ik s).isSome=q at bp;clear h hu;obtain⟨n,b,d,k,m⟩:=s;obtain⟨oJ,ya,yb,oI,tm⟩:=t;simp only[cX.e,fs]at aS bp⊢;refine bd gw IN Lc fun aP=>?_;unfold D4;simp;((with_reducible repeat' first|refine aj ?_|refine aD aS ?_|refine aE aS ?_|refine aD bp ?_|refine aE bp ?_|simp|((first|apply bM|apply bR|apply bQ)<;>intro h<;>try simp at h))<;>(try exact ch));all_goals simp[bu,Gl,aX,aY,aV]
 |some bO=>
  rw[hu]at aS;have bW:=MK h.b (h.bind ab aG bx iB hu).b;simp only at bW;by_cases aw:eF s.b bO=[]
  ·simp only[if_pos aw];rw[aw]at bW;clear h hu;obtain⟨n,b,d,k,m⟩:=s;simp only[cX.e,fs,lI,cE,mC]at aS bW⊢;refine bd gw IN Lc fun aP=>?_;unfold D4;simp only at aQ;simp;((with_reducible repeat' first|refine aj ?_|refine aD aS ?_|refine aE aS ?_|refine aD bW ?_|refine aE bW ?_|simp|((first|apply bM|apply bR|apply bQ)<;>intro h<;>try simp at h))<;>(try exact ch));all_goals simp[bu,Gl,aX,aY,aV]
   all_goals(unfold lim;omega)
  ·simp only[if_neg aw];have bp:=MP (h.dif ab aG bx iB hu) jJ a1;have au:0<(eF s.b bO).length:=List.length_pos_iff.2 aw;generalize eF s.b bO=w at bp bW au aw⊢;simp only[sT]at bp⊢;generalize vY {s with d:=s.d++[w]}=t at bp;generalize (ik {s with d:=s.d++[w]}).isSome=q at bp;clear h hu;obtain⟨n,b,d,k,m⟩:=s;obtain⟨oJ,ya,yb,oI,tm⟩:=t;simp only[cX.e,fs]at aS bp bW⊢;generalize tF:d++[w]=D at bp;simp only[cE]at bW;have hw:cE w= .slice 5 .no (w.map ar.e):=rfl;refine bd gw IN Lc fun aP=>?_;unfold D4;simp only at aQ;simp;((with_reducible repeat' first|refine aj ?_|refine aD aS ?_|refine aE aS ?_|refine aD bW ?_|refine aE bW ?_|simp[au]|((first|apply bM|apply bR|apply bQ)<;>intro h<;>try simp at h))<;>(try exact ch));all_goals first|(refine⟨by unfold lim;omega,?_⟩)|skip
   rw[←hw];rw[oY,Eb,tF];((with_reducible repeat' first|refine aj ?_|refine aD bp ?_|refine aE bp ?_|simp|((first|apply bM|apply bR|apply bQ)<;>intro h<;>try simp at h))<;>(try exact ch));all_goals simp[bu,Gl,aX,aY,aV]
theorem amh{s:cX}(h:rN s)(hm:jG s.m){x y:T}(ab:x.fit=true)(aG:y.fit=true)(bx:er s.n x=true)(iB:er s.n y=true):bG al 117 [s.e,.int .i64 1,x.e,y.e,.int .i64 0,.str []] (jj (nv s x y)):=by have c0:=ame h.1 (Wh h.2) hm ab aG bx iB;obtain⟨t,q,ak,aB,bf⟩:=akh s x y;rw[ak]at c0;exact ami h hm ab aG bx iB c0 aB bf fun e=>⟨Zo h.1 ab aG bx iB e,Zp hm e⟩
theorem amr(r:fi)(dS:hC r.m→jG r.m)(a b:bF)(aw:¬(il r∧me r.n [a,b])):bG al 54 [r.e,enc a,enc b] (jj none):=by have aS:=amj r dS a b aw 1 0 [];generalize (none:Option cX)=O at aS⊢;obtain⟨n,bO,d,k,m⟩:=r;simp only[jj,cX.e,fi.e]at aS⊢;refine bd gw QS UH fun aP=>?_;unfold H5;exact b0
theorem amq{s:cX}(h:rN s)(hm:jG s.m){x y:T}(ab:x.fit=true)(aG:y.fit=true)(bx:er s.n x=true)(iB:er s.n y=true):bG al 54 [s.e,x.e,y.e] (jj (nv s x y)):=by have aS:=amh h hm ab aG bx iB;generalize nv s x y=O at aS⊢;obtain⟨n,bO,d,k,m⟩:=s;simp only[jj,cX.e,fi.e]at aS⊢;refine bd gw QS UH fun aP=>?_;unfold H5;exact b0
open Classical in
theorem ams(r:fi)(dS:hC r.m→jG r.m)(a b:bF):bG al 38 [r.e,enc a,enc b] (.bool (yl r a b)):=by
 have bp:=amk r dS a b;by_cases g:il r∧me r.n [a,b];rotate_left
 ·have aS:=amr r dS a b g;rw[jn g]at bp;rw[Nf g];clear g dS;simp only[jj,kB,jW,lI]at aS;obtain⟨n,bO,d,k,m⟩:=r;simp only[fi.e,cX.e]at aS bp⊢;refine bd gw IH K7 fun aP=>?_;unfold DZ;exact b0
 rw[jd g]at bp;obtain⟨⟨s,rfl,ag⟩,aI⟩:=g;obtain⟨x,rfl,_⟩:=bF.fits_ex (yO aI a (by simp));obtain⟨y,rfl,_⟩:=bF.fits_ex (yO aI b (by simp));obtain⟨⟨ab,aG⟩,bx,iB⟩:=IS aI;have aS:=amq ag (dS ag.1.m) ab aG bx iB;rw[Nd ag aI];generalize nv s x y=O at aS;rw[Aw,iR,iR]at bp;rw[Aw,iR,iR];clear dS aI ag ab aG bx iB;obtain⟨n,b,d,k,m⟩:=s;cases O with
 |none=>simp only[cX.e,jj,kB,lI,jW,Option.isNone_none]at aS bp⊢;refine bd gw IH K7 fun aP=>?_;unfold DZ;exact b0
 |some t=>obtain⟨oJ,ya,yb,oI,tm⟩:=t;simp only[cX.e,jj,j9,pz,Option.isNone_some]at aS bp⊢;refine bd gw IH K7 fun aP=>?_;unfold DZ;exact b0
end Go.Proofs.YtahlgcidhnjlbaaGreat
namespace Go.Pv
open Go Go.RowKit
mutual
def kv(k:aH)(m:Nat):ah→ah
 | .slice sz tag xs=>.slice sz (if tag= .own k then .own (.obj m)else .no) (cR xs)
 | .agg cs=>.agg (sR k m cs)
 | .tuple cs=>.tuple (sR k m cs)
 |p=>dh p
def sR(k:aH)(m:Nat):List ah→List ah
 |[]=>[]
 |c::cs=>kv k m c::sR k m cs
end
section
variable {w:World} {ν μ:bc} {k:aH} {m:Nat} (av:nS (fun _=>eo) w ν w μ) (ad:∀n v,ν.ow k=some (n,v)→μ.ow (.obj m)=some (n,v))
include av ad
mutual
theorem LU:∀(p:ah) (v:Value),aC (fun _=>eo) (dh p)→a7 w ν p v→a7 w μ (kv k m p) v
 | .slice sz tag xs,v,aw,h=>by
  have U:=j7 av _ _ aw (kL _ _ h);simp only[kv];split
  ·rename_i e;simp only[a7,dh]at h U⊢;refine⟨U.1,(fun e=>by cases e),fun g Il=>?_,(fun _ _ e=>by cases e),fun _ e=>by cases e⟩;cases Il;obtain⟨n',u,ak,aB,bf⟩:=h.2.2.1 k e;exact⟨n',u,ad _ _ ak,by rw[rO];exact aB,by rw[rO];exact bf⟩
  ·exact U
 | .agg cs,v,aw,h=>by simp only[a7,aC,kv,dh]at h aw⊢;obtain⟨us,J,U⟩:=h;exact⟨us,J,VU cs us.toList aw U⟩
 | .tuple cs,v,aw,h=>by simp only[a7,aC,kv,dh]at h aw⊢;obtain⟨us,J,U⟩:=h;exact⟨us,J,VV cs us.toList aw U⟩
 | .junk,_,_,_=>by simp[kv,dh,a7]
 | .int k n,v,aw,h=>by have:=j7 av _ _ aw (kL _ _ h);simpa only[kv]using this
 | .bool b,v,aw,h=>by have:=j7 av _ _ aw (kL _ _ h);simpa only[kv]using this
 | .str s,v,aw,h=>by have:=j7 av _ _ aw (kL _ _ h);simpa only[kv]using this
 | .ptr a b,v,aw,h=>by have:=j7 av _ _ aw (kL _ _ h);simpa only[kv]using this
 | .eptr x,v,aw,h=>by have:=j7 av _ _ aw (kL _ _ h);simpa only[kv]using this
 | .iface t x,v,aw,h=>by have:=j7 av _ _ aw (kL _ _ h);simpa only[kv]using this
 | .nilp,v,aw,h=>by have:=j7 av _ _ aw (kL _ _ h);simpa only[kv]using this
 | .func f c,v,aw,h=>by have:=j7 av _ _ aw (kL _ _ h);simpa only[kv]using this
 | .gmap x,v,aw,h=>by have:=j7 av _ _ aw (kL _ _ h);simpa only[kv]using this
 | .row a b c,v,aw,h=>by have:=j7 av _ _ aw (kL _ _ h);simpa only[kv]using this
 | .rptr a b c d e,v,aw,h=>by have:=j7 av _ _ aw (kL _ _ h);simpa only[kv]using this
 | .hdm a b,v,aw,h=>by have:=j7 av _ _ aw (kL _ _ h);simpa only[kv]using this
 | .hdi a b c,v,aw,h=>by have:=j7 av _ _ aw (kL _ _ h);simpa only[kv]using this
 | .cst a,v,aw,h=>by have:=j7 av _ _ aw (kL _ _ h);simpa only[kv]using this
theorem VU:∀(cs:List ah) (us:List Value),aJ (fun _=>eo) (cR cs)→cY w ν cs us→cY w μ (sR k m cs) us
 |[],us,_,h=>by simpa only[sR,cY]using h
 |c::cs,us,aw,h=>by simp only[cY,cR,aJ,sR]at h aw⊢;obtain⟨u,ca,J,⟨U,ao⟩,a8⟩:=h;exact⟨u,ca,J,⟨LU c u aw.1 U,ao⟩,VU cs ca aw.2 a8⟩
theorem VV:∀(cs:List ah) (us:List Value),aJ (fun _=>eo) (cR cs)→cK w ν cs us→cK w μ (sR k m cs) us
 |[],us,_,h=>by simpa only[sR,cK]using h
 |c::cs,us,aw,h=>by simp only[cK,cR,aJ,sR]at h aw⊢;obtain⟨u,ca,J,U,a8⟩:=h;exact⟨u,ca,J,LU c u aw.1 U,VV cs ca aw.2 a8⟩
end
end
def Nl(eG:List bt)(k:aH)(m:Nat)(Q:ah→fF→Prop)(e:Exit)(st:bq):Prop:=
 (e= .ret∨e= .normal)∧match aX st eG with
  |some (c,cg)=>c∧∃o,look k st.e=some o∧o.xs=none∧aC (fun _=>eo) (dh (aV cg))∧Q (kv k m (aV cg)) o
  |none=>eo
theorem bN.ofN{P:cB}(hm:P.follows .mixedOrders=true){bA:List (Nat×dC)}(aN:fM P bA=true){f:FuncId}{fn:Func}(aI:P.funcs[f]? =some fn){c:C}{eG:List bt}{n:Nat}(eD:bX bA c eG n fn=true)
  {args:List ah} (au:args.length≤n) (k:aH) (m:Nat) {Q:ah→fF→Prop} (he:eC args→cU P [] c (Nl eG k m Q) ⟨jF 0 args,[],[],0,[]⟩):bN P f args ⟨[],[]⟩ fun r ai=> ∃o,Q r o∧ai=⟨[],[(.obj m,o)]⟩:=by
 unfold bX at eD;split at eD;rotate_left
 ·cases eD
 rename_i code ae;simp only[cz,rW,fE]at eD;obtain⟨⟨⟨ay,zk⟩,zd⟩,a8⟩:=eD;replace au:=jV au a8;intro w ν ba a1 ab aL;refine .inl ⟨⟨fn,aI,by simp[ae],by assumption⟩,?_⟩;have oj:=xY aL;have ko:ba.size=args.length:=by simpa using oj
 let X:e8:=⟨w,ν,fe ν ⟨[],[]⟩,fn.ntmps,[]⟩
 have E6:∀k,ν.bx k=none:=fun k=>(ab k).1 rfl;have qA:∀k,ν.ow k=none:=fun k=>(ab k).2.1 rfl;have E7:∀k j b,¬ν.tr k j b:=fun k=>(ab k).2.2;have og:cO X ⟨jF 0 args,[],[],0,[]⟩ {tmps:=ba++Array.replicate (fn.ntmps-ba.size) undef,defers:=[]} w ν:=by
  refine⟨⟨a1.alt,fun k cs ad=>(by simp[look]at ad),a1.inj,fun g o eO=>(by simp[look]at eO),a1.oinj,a1.obx,a1.one,a1.otr⟩,⟨rfl,rfl,rfl,eR _,fun _ _ _=>rfl,fun b o h=>⟨h,rfl⟩,fun b o h=>.inl h,fun n b h=>h,fun n b h=>(by rw[E6]at h;cases h),fun m n u h=>⟨n,u,h,.inl ⟨rfl,rfl⟩⟩,fun m n u h=>(by rw[qA]at h;cases h),fun k j _ _ b h=>absurd h (E7 k j b),fun k j b h=>absurd h (E7 k j b),fun k j b h=>absurd h (E7 k j b),fun _ _ _=>rfl⟩,rfl,?_,fun i=>?_,fun k _=>⟨E6 k,qA k,E7 k⟩⟩
  ·show(ba++Array.replicate (fn.ntmps-ba.size) undef).size=fn.ntmps;simp;omega
  ·rw[Ew];by_cases hi:i<args.length
   ·rw[if_pos (by omega)];have qt:args[i]? =some args[i]:=cf hi;obtain⟨v,ak,aB⟩:=CY i aL qt;have aK:(ba++Array.replicate (fn.ntmps-ba.size) undef).getD i undef=v:=by
     have A8:ba[i]? =some v:=by simpa using ak
     rw[Array.getD_eq_getD_getElem?,Array.getElem?_append_left (by omega),A8];rfl
    show a7 w ν _ ((ba++Array.replicate (fn.ntmps-ba.size) undef).getD i undef);rw[aK];simpa[List.getD,qt]using aB
   ·rw[if_neg (by omega)];simp[a7]
 have JZ:=qm hm aN (X:=X) c code (Nl eG k m Q) _ ay (he (LY aL)) _ w ν og;refine calls_of_wp aI ae (wp_mono JZ fun e bm w' cM=>?_);obtain⟨st',bk,⟨ra,bn⟩,df⟩:=cM;cases rk:aX st' eG with
 |none=>simp[rk]at bn
 |some x=>
  obtain⟨cl,cg⟩:=x;simp only[rk]at bn;obtain⟨gT,o,aei,hJ,cT,c8⟩:=bn;obtain⟨nh,g1,g2⟩:=GC aN df eG fn.results.toList cl cg (by assumption) rk gT;have JK:=xY g2;obtain⟨v,us,gy,gv,ox,aqh⟩:=df.good.own k o aei;let μ:bc:={A:=bk.A,bx:=fun _=>none,ow:=fun j=>if j= .obj m then bk.ow k else none,tr:=fun _ _ _=>eo}
  have afh:μ.ow (.obj m)=some (o.n,v):=by simp[μ,gy]
  have dx:bm.defers=[]∧∃v,(results fn bm.tmps).run P w'= .ok v w'∧(fun(e:Ending) w'=> ∃v r ai bk,e= .returned v∧(∃o,Q r o∧ai=⟨[],[(.obj m,o)]⟩)∧a7 w' bk r v∧Good (fun bl=>fe ν ⟨[],[]⟩ bl∨w.heap.size≤bl) w' bk ai.b ai.e∧n3 bk ai∧ij ai∧pA ⟨w,ν,fe ν ⟨[],[]⟩,0,cQ ⟨[],[]⟩⟩ w' bk) (.returned v) w':=by
   refine⟨df.defers,?_⟩;have h3:(results fn bm.tmps).run P w'= .ok (if h:nh.toArray.size=1 then nh.toArray[0]else .tuple nh.toArray) w':=by rw[V9];simp only[fC,Array.mapM_eq_mapM_toList,Sem.run_map,g1,fJ,gk]
   refine⟨_,h3,_,kv k m (aV cg),⟨[],[(.obj m,o)]⟩,μ,rfl,⟨o,c8,rfl⟩,?_,?_,?_,?_,?_⟩
   ·have lu:a7 w' bk (aV cg) (if h:nh.toArray.size=1 then nh.toArray[0]else .tuple nh.toArray):=by
     match cg,nh,g2,JK with
     |[p],[v],g2,_=>simp only[cK]at g2;obtain⟨u,ca,ak,aB,_⟩:=g2;cases ak;simpa[aV]using aB
     |[],[],g2,_=>simp[aV,a7,cK]
     |p::dq::cg,v::v2::nh,g2,_=>rw[dif_neg (by simp)];simp only[aV,a7];exact⟨_,rfl,by simpa using g2⟩
     |[_],[],_,h=>simp at h
     |[],_::_,_,h=>simp at h
     |[_],_::_::_,_,h=>simp at h
     |_::_::_,[],_,h=>simp at h
     |_::_::_,[_],_,h=>simp at h
    refine LU (ν:=bk) (μ:=μ) (k:=k) (m:=m) ⟨fun b o h=>⟨h,rfl⟩,fun _ _ h=>h.elim,fun _ _ _ h=>h.elim,fun _ _ _=>rfl,fun _ _ _ h=>h.elim⟩ (fun n v h=>?_) _ _ cT lu;simp[μ,h]
   ·have hx:∀g x,look g [(aH.obj m,o)]=some x→g= .obj m∧x=o:=fun g x h=>by
     simp only[look]at h;split at h
     ·rename_i e;exact⟨e.symm,(fh h).symm⟩
     ·cases h
    have Sa:∀g,(look g [(aH.obj m,o)]).isSome→g= .obj m:=fun g h=>by obtain⟨x,ab⟩:=fD.1 h;exact(hx g x ab).1
    refine⟨df.good.alt,fun k cs ad=>(by simp[look]at ad),fun k bL bl J=>(by simp[look]at J),fun g x ad7=>?_,fun g e3 n n' v v' bl J U _ _ _ _=>(by rw[Sa g J,Sa e3 U]),fun g k n v bl J U=>(by simp[look]at U),fun _=>.inl rfl,fun _ _ _ _ h=>h⟩;obtain⟨rfl,rfl⟩:=hx g x ad7;exact⟨v,us,afh,gv,ox,fun xs h=>by rw[hJ]at h;cases h⟩
   ·intro j;refine⟨fun _=>rfl,fun h=>?_,fun _ _ h=>h⟩;have:j≠ .obj m:=fun e=>by subst e;simp[look]at h
    simp[μ,this]
   ·exact⟨fun _=>rfl,fun _=>by simp[look]⟩
   ·exact⟨df.fr.os,df.fr.tape,df.fr.output,df.fr.size,df.fr.block,df.fr.keep,df.fr.fresh,fun n b h=>(by rw[E6]at h;cases h),fun n b h=>(by rw[E6]at h;cases h),fun m n u h=>(by rw[qA]at h;cases h),fun m n u h=>(by rw[qA]at h;cases h),fun _ _ _ _ _ h=>h.elim,fun _ _ _ h=>h.elim,fun _ _ _ h=>h.elim,df.fr.sh⟩
  rcases ra with rfl|rfl<;>exact dx
end Go.Pv
namespace Go.Proofs.YtahlgcidhnjlbaaGreat
open Go Go.Pv
open Classical in
theorem amo{s b:List ar}(ag:eA s)(ae:eA b){E:List (T×T)}(hm:mgu s E=some b):bG al 187 [.slice 5 .no (s.map ar.e),.slice 5 .no (b.map ar.e),.bool true] (.tuple [.slice 5 .no ((eF s b).map ar.e),.int .i64 (uZ s (some b))]):=by
 have aS:=MI s b ag.len;have bp:=W0 ag ae;have aw:=agT ag hm;simp only[uZ];by_cases g:s=b
 ·rw[jd g]at aS;rw[if_pos (aw.2 g),aw.2 g];clear bp ag ae hm aw g;refine bd gw ID K3 fun aP=>?_;unfold DT;exact b0
 ·rw[jn g]at aS;rw[if_neg fun h=>g (aw.1 h)];generalize eF s b=w at bp;clear ag ae hm aw g;refine bd gw ID K3 fun aP=>?_;unfold DT;exact b0
theorem amp(s:List ar):bG al 187 [.slice 5 .no (s.map ar.e),.slice 5 .no [],.bool false] (.tuple [.slice 5 .no [],.int .i64 1]):=by refine bd gw ID K3 fun aP=>?_;unfold DT;exact b0
open Classical in
theorem alv{s:List ar}(ag:eA s){x y:T}(ab:x.fit=true)(aG:y.fit=true):bG al 122 [.slice 5 .no (s.map ar.e),x.e,y.e] (.tuple [.slice 5 .no ((zO s (mgu s [(x,y)])).map ar.e),.int .i64 (uZ s (mgu s [(x,y)]))]):=by
 have cV:=oL ag;have aS:=ye ab;have bp:=ye aG;have bW:=alH ag ab aG;cases hm:mgu s [(x,y)]with
 |none=>rw[hm]at bW;have dy:=amp s;clear ag ab aG hm;simp only[fs,kB,jW,mC,zO,uZ]at bW⊢;refine bd gw QD Us fun aP=>?_;unfold HK;exact b0
 |some b=>rw[hm]at bW;have dy:=amo ag (ag.mgu (by simp[T.fit_ok ab,T.fit_ok aG]) hm) hm;simp only[zO];generalize uZ s (some b)=c at dy;generalize eF s b=w at dy;clear ag ab aG hm;simp only[fs,j9,pz]at bW⊢;refine bd gw QD Us fun aP=>?_;unfold HK;exact b0
def zX(s:cX):ah:= .agg [.int .i64 s.n,.slice 5 .no (s.b.map ar.e),.slice 1 (.own (.obj 841)) (s.d.map cE),.slice 2 .no (s.k.map bJ.e),.slice 2 .no (s.m.map bj.e)]
theorem acT(s:cX)(ae:s.b.length≤1000000)(aQ:∀x∈s.d,x.length≤1000000)(ad:s.k.length≤1000000)(hm:s.m.length≤68719470000):bN al 105 [s.e] ⟨[],[]⟩ fun r ai=> ∃o,(r=zX s∧o=⟨s.d.length,46,1,none⟩)∧ai=⟨[],[(.obj 841,o)]⟩:=by
 obtain⟨n,b,d,k,m⟩:=s;simp only[cX.e,zX]at ae aQ ad hm⊢;have k0:=G3 b ae;refine bN.ofN mixed gw aaX ahp (by simp) (.loc 13) 841 fun aP=>?_;unfold Ov;have eT:d.length≤68719476736:=by simp[eC,ec,ev,lim]at aP;omega
 clear aP;simp;(with_reducible repeat' first|refine aj ?_|refine aD k0 ?_|refine aE k0 ?_|simp);refine hR (fun i (L:List (List ar))=>⟨[(1,.ptr (.loc 0) 0),(2,.ptr (.loc 1) 0),(3,.ptr (.loc 5) 0),(14,.slice 1 .no (d.map cE)),(15,.int .i64 d.length),(16,.int .i64 i)],[(.loc 0,[.int .i64 n,.slice 5 .no (b.map ar.e),.slice 1 .no (d.map cE),.slice 2 .no (k.map bJ.e),.slice 2 .no (m.map bj.e)]),(.loc 1,[.int .i64 0,.slice 5 .nil [],.slice 1 .nil [],.slice 2 .nil [],.slice 2 .nil []]),(.loc 5,[.int .i64 n,.slice 5 .no (b.map ar.e),.slice 1 (.own (.loc 13)) (L.map cE),.slice 2 .nil [],.slice 2 .nil []])],[(.loc 13,⟨L.length,46,1,none⟩)],41,[]⟩) d.length (fun i L=>L=d.take i) [] b1 (by simp) (fun L af _=>?_) (fun i L hi af _=>?_)
 ·rw[nP]at af;subst af;simp;(with_reducible repeat' first|refine aj ?_|simp);all_goals first|(refine⟨by unfold lim;omega,?_⟩)|skip
  (with_reducible repeat' first|refine aj ?_|simp);all_goals refine⟨.inl rfl,?_⟩
  all_goals simp[Vi,aX,aY,aV,kv,sR,Pv.look,aC,aJ]
 ·obtain⟨x,ab,cy⟩:=ed hi;have Cf:=alJ (aQ x (eK ab));have au:L.length≤i:=by rw[af];simp;omega
  simp[hi,cy];(with_reducible repeat' first|refine aj ?_|refine aD Cf ?_|refine aE Cf ?_|simp[cy,hi]);all_goals first|(refine⟨by unfold lim;omega,?_⟩)|skip
  (with_reducible repeat' first|refine aj ?_|simp);refine bP.rng (L++[x]) hi (by rw[oH ab,af]) ?_;simp;exact⟨by simp[fresh,aJ,aC,cd,inObs,Pv.look,zA],dY (by simp[fresh,aJ,aC,cd,inObs,Pv.look,zA]),dZ (by simp[fresh,aJ,aC,dP,inObs,Pv.look,zA]),by simp⟩
open Classical in
theorem alu{s:cX}(h:rN s)(hm:jG s.m){x y:T}(ab:x.fit=true)(aG:y.fit=true)(bx:er s.n x=true)(iB:er s.n y=true):bG al 55 [s.e,x.e,y.e] (jj (nv s x y)):=by
 have aS:=alV h hm ab aG bx iB;have bp:=alv h.1.b ab aG;have bW:=acT s h.1.b.len (fun z br=>(h.1.d z br).len) (by have:=sD h.1.k;omega) (hm.len h.1.m);obtain⟨G,jJ,a1⟩:=hm;have aQ:=Wh h.2;unfold nv;cases hu:mgu s.b [(x,y)]with
 |none=>rw[hu]at bp;have dy:=MS h.1 jJ a1;simp only;generalize ik s=O at dy;clear h hu;obtain⟨n,b,d,k,m⟩:=s;simp only[cX.e,zX,zO,uZ,jj,mC]at aS bp bW dy⊢;refine bd gw Ix KX fun aP=>?_;unfold DN;clear aP;simp;(with_reducible repeat' first|refine aj ?_|refine aD aS ?_|refine aE aS ?_|refine aD bp ?_|refine aE bp ?_|simp);refine c4.new bW (ea.of ui (by simp) (by simp)) aR aR (by simp) ?_;rintro r ai ⟨o,⟨rfl,rfl⟩,rfl⟩;refine⟨fun m hm=>.inr (by simp),?_⟩;simp[zX,cv];exact b0
 |some bO=>
  rw[hu]at bp;by_cases aw:eF s.b bO=[]
  ·simp only[if_pos aw];simp only[zO,uZ,if_pos aw,aw,mC]at bp;clear h hu bW aw;obtain⟨n,b,d,k,m⟩:=s;simp only[cX.e,jj,kB,jW,lI]at aS bp⊢;refine bd gw Ix KX fun aP=>?_;unfold DN;exact b0
  ·simp only[if_neg aw];simp only[zO,uZ,if_neg aw]at bp;have dy:=MS (h.1.dif ab aG bx iB hu) jJ a1;generalize eF s.b bO=w at bp dy;generalize ik {s with d:=s.d++[w]}=O at dy;clear h hu;obtain⟨n,b,d,k,m⟩:=s;simp only[cX.e,zX,jj]at aS bp bW dy⊢;generalize tF:d++[w]=D at dy;have hw:cE w= .slice 5 .no (w.map ar.e):=rfl;refine bd gw Ix KX fun aP=>?_;unfold DN;clear aP;simp only at aQ;simp;(with_reducible repeat' first|refine aj ?_|refine aD aS ?_|refine aE aS ?_|refine aD bp ?_|refine aE bp ?_|simp);refine c4.new bW (ea.of ui (by simp) (by simp)) aR aR (by simp) ?_;rintro r ai ⟨o,⟨rfl,rfl⟩,rfl⟩;refine⟨fun m hm=>.inr (by simp),?_⟩;simp[zX,cv];(with_reducible repeat' first|refine aj ?_|simp);all_goals first|(refine⟨by unfold lim;omega,?_⟩)|skip
   rw[←hw,oY,Eb,tF];((with_reducible repeat' first|refine aj ?_|refine aD dy ?_|refine aE dy ?_|simp|((first|apply bM|apply bR|apply bQ)<;>intro h<;>try simp at h))<;>(try exact ch));all_goals simp[bu,U5,aX,aY,aV]
open Classical in
theorem alw(r:fi)(dS:hC r.m→jG r.m)(a b:bF):bG al 39 [r.e,enc a,enc b] (.bool (yl r a b)):=by
 have aS:=W6 r dS [a,b];simp only[gG,mC]at aS;by_cases g:il r∧me r.n [a,b];rotate_left
 ·rw[Nf g];rw[jn g]at aS;clear g dS;obtain⟨n,bO,d,k,m⟩:=r;simp only[fi.e]at aS⊢;refine bd gw QE Ut fun aP=>?_;unfold HL;exact b0
 rw[jd g]at aS;obtain⟨⟨s,rfl,ag⟩,aI⟩:=g;obtain⟨x,rfl,_⟩:=bF.fits_ex (yO aI a (by simp));obtain⟨y,rfl,_⟩:=bF.fits_ex (yO aI b (by simp));obtain⟨⟨ab,aG⟩,bx,iB⟩:=IS aI;have hm:jG s.m:=dS ag.1.m;have bp:=alu ag hm ab aG bx iB;rw[Nd ag aI];generalize nv s x y=O at bp;rw[Aw,iR,iR]at aS;rw[Aw,iR,iR];clear dS aI ag ab aG bx iB;obtain⟨n,b,d,k,m⟩:=s;cases O<;>simp only[cX.e,jj,Option.isSome,Option.isNone]at aS bp⊢;all_goals refine bd gw QE Ut fun aP=>?_;unfold HL
 all_goals simp
 all_goals(with_reducible repeat' first|refine aj ?_|refine aD aS ?_|refine aE aS ?_|refine aD bp ?_|refine aE bp ?_|simp)
 all_goals simp[bu,U6,aX,aY,aV]
end Go.Proofs.YtahlgcidhnjlbaaGreat
namespace Go.Proofs.YtahlgcidhnjlbaaGreat
open Go Go.Pv
theorem alx(r:nV)(hw:r.wf)(a b:cq)(bE:a.wf)(ae:b.wf):bG al 7 [r.e,a.e,b.e] (.bool true):=by
 have aS:=amB r hw 1048576 (by omega) (by omega);have bn:=alc r 1048576 (by omega);by_cases g:sX r 1048576<0
 ·generalize sX r 1048576=q at aS g;clear hw bn;obtain⟨n,bO,d,k,l⟩:=r;simp only[nV.e]at aS⊢;refine bd gw Ej FU fun aP=>?_;unfold A2;exact b0
 obtain⟨r,rfl,dS⟩:=ald hw (by omega);clear hw;rw[ak0]at aS⊢;generalize sX r.h 1048576=a6 at aS g bn;have bp:=MT a bE a6 (by omega) (by omega);have iS:=uF a a6 (by omega);by_cases g2:gM a a6<0
 ·generalize gM a a6=bz at bp g2;rw[cq.e_eq]at bp;clear bn iS dS;obtain⟨n,bO,d,k,l⟩:=r;simp only[fi.e]at aS⊢;refine bd gw Ej FU fun aP=>?_;unfold A2;exact b0
 obtain⟨a,rfl⟩:=GU a a6 bE (by omega) (by omega) (by omega);rw[GW]at bp⊢;generalize gM (uH a) a6=bz at bp g2 iS;have bW:=MT b ae bz (by omega) (by omega);have Sw:=uF b bz (by omega);by_cases g3:gM b bz<0
 ·generalize gM b bz=bU at bW g3;rw[cq.e_eq]at bW;clear bn iS Sw dS;obtain⟨n,bO,d,k,l⟩:=r;simp only[fi.e]at aS⊢;refine bd gw Ej FU fun aP=>?_;unfold A2;exact b0
 obtain⟨b,rfl⟩:=GU b bz ae (by omega) (by omega) (by omega);rw[GW]at bW⊢;generalize gM (uH b) bz=bU at bW g3;have t1:=amK r;have t2:=MU a;have t3:=MU b;have s1:=ams r dS a b;have i1:=alw r dS a b;have ak:=alP r;have aB:=MH a;have bf:=MH b;generalize yl r a b=Q at s1 i1;clear bE ae bn iS Sw dS;obtain⟨n,bO,d,k,l⟩:=r;simp only[fi.e]at aS t1 s1 i1 ak⊢;refine bd gw Ej FU fun aP=>?_;unfold A2;have TF:=t1;exact b0
end Go.Proofs.YtahlgcidhnjlbaaGreat
