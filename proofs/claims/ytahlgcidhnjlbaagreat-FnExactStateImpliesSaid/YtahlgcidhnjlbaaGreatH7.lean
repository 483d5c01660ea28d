/- The law of states that imply others. -/
import Derived.Test.YtahlgcidhnjlbaaGreatProg
import Derived.Test.YtahlgcidhnjlbaaGreatH6
set_option linter.all false
set_option maxHeartbeats 4000000
open Bool renaming and_eq_true→cE,not_eq_true'→sx
open Go renaming Program→cF
open Go.Proofs.Tryz renaming f10→kR,prog→al
open Go.Proofs.YtahlgcidhnjlbaaGreat.Rows renaming fnExactStateImpliesRow→jZ,fnExactStateImpliesSpec→sB
open Go.Result renaming andThen_ok→fR
open Go.Sem renaming run_bind→fJ,run_pure→gu
open List renaming all_eq_true→hs,cons_append→bX,getElem?_eq_getElem→cl,getElem?_eq_some_iff→fV,length_cons→pT,map_cons→gS,map_nil→mU,mem_append→ka,mem_cons→gf,mem_cons_of_mem→pa,mem_filter→mV,mem_map→iC,mem_of_getElem?→dZ,take_length→mn,take_of_length_le→hD
open Nat renaming le_refl→eY,le_trans→kc
open Option renaming bind_eq_some_iff→kd,bind_some→ju,getD_none→hO,getD_some→h5,isSome_iff_exists→fE,isSome_none→ht,isSome_some→kS
open Option.some renaming inj→fq
open _root_ renaming False→eA,UInt8→dm,decide_eq_false→h6,decide_eq_true→gU,decide_eq_true_eq→fK
namespace Go.Proofs.YtahlgcidhnjlbaaGreat
open Go
set_option maxRecDepth 100000 in
theorem aaO:joinedFacts al 10 kR sB jZ=true:=(iq (iq (iq (iq (iq (iq (iq (iq (iq (iq (iq (iq (iq (iq (iq (iq (iq (iq (iq (iq (iq (iq (iq (iq (iq (iq (iq (iq (iq (iq (iq aai aaj) aau) aaF) aaI) aaJ) aaK) aaL) aaM) aaN) aak) aal) aam) aan) aao) aap) aaq) aar) aas) aat) aav) aaw) aax) aay) aaz) aaA) aaB) aaC) aaD) aaE) aaG) aaH)
end Go.Proofs.YtahlgcidhnjlbaaGreat
namespace Go.Proofs.YtahlgcidhnjlbaaGreat
open Go Go.Pv
@[simp] def asF:List bB:=[.tmp 6]
@[simp] def asH:List bB:=[.tmp 4]
@[simp] def asG:List bB:=[.tmp 6]
@[simp] def asE:List bB:=[.tmp 4]
def EU:C:=(aa [cw 2 0,cw 3 1,bd 4 false] (aa [bU 5 1048576] (aa [aS 10 5 2,I 11 5,b8 12 26 10 11,I 5 12] (.seq (aa [I 13 5,aV 14 .lss 13 0] (aU 14 (aa [bd 4 true] .ret) .skip)) (aa [aS 15 5 3,I 16 5,b8 17 26 15 16,I 5 17] (.seq (aa [I 18 5,aV 19 .lss 18 0] (aU 19 (aa [bd 4 true] .ret) .skip)) (.seq (.drawn true 45 [aS 20 5 2,cA 21 28 20,aS 22 5 3,cA 23 28 22,b8 24 46 21 23,I 6 24]) (aa [aS 25 5 2,cA 26 28 25,cO 7 eF,bz 5 7 26] (aa [aS 27 5 3,cA 28 28 27,cO 8 eF,bz 5 8 28] (aa [aS 29 5 7,aS 30 5 8,b8 31 47 29 30,I 9 31] (.seq (aa [I 32 9,I 33 6,b9 34 (.beq true none (.t 32) (.t 33))] (aU 34 (aa [bd 4 false] .ret) .skip)) (.seq (.seq (.drawn true 45 [aS 35 5 7,aS 36 5 2,cA 37 28 36,b8 38 30 35 37,cd 39 38]) (aU 39 (aa [bd 4 false] .ret) .skip)) (.seq (.seq (.drawn true 45 [aS 40 5 8,aS 41 5 3,cA 42 28 41,b8 43 30 40 42,cd 44 43]) (aU 44 (aa [bd 4 false] .ret) .skip)) (aa [bd 4 true] .ret))))))))))))))
@[simp] def ak9:List bB:=[.tmp 4]
@[simp] def asN:List bB:=[.tmp 6]
@[simp] def asq:List bB:=[.tmp 6]
@[simp] def asR:List bB:=[.tmp 4]
@[simp] def ast:List bB:=[.tmp 4]
def EZ:C:=(aa [cw 3 0,cw 4 1,cw 5 2,bd 6 false] (aa [aS 10 5 3,aS 11 4 4,aS 12 4 5,c8 13 54 [.t 10,.t 11,.t 12],I 9 13,cn 14 0 9,cn 15 1 9,cO 7 eF,bz 5 7 14,I 8 15] (aa [aS 16 5 3,aS 17 4 4,aS 18 4 5,c8 19 95 [.t 16,.t 17,.t 18],I 20 19,b6 20 true 21 8,aq 20 true (cd 22 21),dD 23 20 22,I 6 23] .ret)))
@[simp] def alN:List bB:=[.tmp 6]
def IS:C:=(aa [cw 3 0,cw 4 1,cw 5 2,bd 6 false] (.seq (aa [aS 9 5 3,aS 10 4 4,aS 11 4 5,eb 12 4 30 [.t 10,.t 11],b8 13 96 9 12,cd 14 13] (aU 14 (aa [bd 6 false] .ret) .skip)) (aa [aS 16 5 3,aS 17 4 4,aS 18 4 5,c8 19 55 [.t 16,.t 17,.t 18],I 15 19,cn 20 0 15,cn 21 1 15,cO 7 eF,bz 5 7 20,I 8 21] (aa [I 22 8,cd 23 22,I 6 23] .ret))))
@[simp] def Wr:List bB:=[.tmp 6]
@[simp] def asL:List bB:=[.tmp 4]
@[simp] def aso:List bB:=[.tmp 4]
def BL:C:=(aa [cw 2 0,cw 3 1,bd 4 false] (.seq (aa [aS 21 5 2,cA 22 27 21,cd 23 22,I 24 23,aq 24 false (aS 25 5 3),aq 24 false (cA 26 27 25),aq 24 false (cd 27 26),cU 28 24 27,I 29 28,aq 29 false (aB 30 0 1 2),aq 29 false (av 31 1 30),aq 29 false (aB 32 0 1 3),aq 29 false (av 33 1 32),aq 29 false (bn 34 .neq 31 33),cU 35 29 34] (aU 35 (aa [bd 4 false] .ret) .skip)) (.seq (aa [aB 36 1 1 3,av 37 1 36,cg 38 37,bU 39 0] (fp 40 39 38 (.seq (.block 1 (aa [cp 41 5 37 39,aS 42 5 41,cO 6 iK,bz 5 6 42] (.seq (.drawn true 132 [aS 43 5 2,aB 44 0 1 6,av 45 1 44,cA 46 114 45,gY 47 1 4 6,aS 48 4 47,c8 49 38 [.t 43,.t 46,.t 48],cd 50 49]) (aU 50 (aa [bd 4 false] .ret) .skip)))) (.region [aV 51 .add 39 1,I 39 51])))) (.seq (aa [aB 52 2 1 3,av 53 1 52,cg 54 53,bU 55 0] (.block 2 (.loop (aa [bn 56 .lss 55 54] (.seq (aU 56 .skip (.exit 2)) (.seq (.block 3 (aa [cp 57 1 53 55,av 58 1 57,I 8 58] (aa [aS 59 5 2,cO 9 eF,bz 5 9 59] (aa [bd 10 true] (.seq (aa [I 60 8,cg 61 60,bU 62 0] (.block 4 (.loop (aa [bn 63 .lss 62 61] (.seq (aU 63 .skip (.exit 4)) (.seq (.block 5 (aa [cp 64 5 60 62,aS 65 5 64,cO 12 iK,bz 5 12 65] (aa [I 66 10] (aU 66 (.drawn true 132 [aS 68 5 9,aB 69 0 1 12,av 70 1 69,cA 71 114 70,gY 72 1 4 12,aS 73 4 72,c8 74 115 [.t 68,(fI 0),.t 71,.t 73,(fI 0),(.c (.str []))],I 67 74,cn 75 0 67,cn 76 1 67,bz 5 9 75,I 10 76]) .skip)))) (.region [aV 77 .add 62 1,I 62 77]))))))) (aa [I 78 10] (aU 78 (aa [bd 4 false] .ret) .skip))))))) (.region [aV 79 .add 55 1,I 55 79]))))))) (.seq (aa [aB 80 3 1 3,av 81 1 80,cg 82 81,bU 83 0] (.block 6 (.loop (aa [bn 84 .lss 83 82] (.seq (aU 84 .skip (.exit 6)) (.seq (.block 7 (aa [cp 85 2 81 83,aS 86 2 85,c4 (.alloc 14 none (.agg [.int .i64 0,.int .i64 0])),bz 2 14 86] (.seq (.drawn true 132 [aS 88 5 2,aB 89 0 1 14,av 90 1 89,cA 91 114 90,aB 92 1 1 14,av 93 1 92,c8 94 48 [.t 88,.t 91,.t 93],I 87 94,cn 95 0 87,cn 96 1 87,cO 15 eF,bz 5 15 95,I 16 96]) (aa [I 97 16,cd 98 97,I 99 98,aq 99 false (aS 100 5 15),aq 99 false (aS 101 5 2),aq 99 false (b8 102 82 100 101),aq 99 false (cd 103 102),cU 104 99 103] (aU 104 (aa [bd 4 false] .ret) .skip))))) (.region [aV 105 .add 83 1,I 83 105]))))))) (.seq (aa [aB 106 4 1 3,av 107 1 106,cg 108 107,bU 109 0] (.block 8 (.loop (aa [bn 110 .lss 109 108] (.seq (aU 110 .skip (.exit 8)) (.seq (.block 9 (aa [cp 111 2 107 109,aS 112 2 111,c4 (.alloc 18 none (.agg [.int .i64 0,.str []])),bz 2 18 112] (.seq (.drawn true 132 [aS 114 5 2,aB 115 0 1 18,av 116 1 115,cA 117 114 116,aB 118 1 1 18,av 119 1 118,c8 120 50 [.t 114,.t 117,.t 119],I 113 120,cn 121 0 113,cn 122 1 113,cO 19 eF,bz 5 19 121,I 20 122]) (aa [I 123 20,cd 124 123,I 125 124,aq 125 false (aS 126 5 19),aq 125 false (aS 127 5 2),aq 125 false (b8 128 82 126 127),aq 125 false (cd 129 128),cU 130 125 129] (aU 130 (aa [bd 4 false] .ret) .skip))))) (.region [aV 131 .add 109 1,I 109 131]))))))) (aa [bd 4 true] .ret)))))))
@[simp] def MS:List bB:=[.tmp 4]
def BJ:C:=(aa [cw 2 0,cw 3 1,bd 4 false] (.seq (aa [aS 23 5 2,cA 24 29 23,cd 25 24,I 26 25,aq 26 false (aS 27 5 3),aq 26 false (cA 28 29 27),aq 26 false (cd 29 28),cU 30 26 29,I 31 30,aq 31 false (aB 32 0 1 2),aq 31 false (av 33 1 32),aq 31 false (aB 34 0 1 3),aq 31 false (av 35 1 34),aq 31 false (bn 36 .neq 33 35),cU 37 31 36] (aU 37 (aa [bd 4 false] .ret) .skip)) (.seq (aa [aB 38 1 1 3,av 39 1 38,cg 40 39,bU 41 0] (fp 42 41 40 (.seq (.block 1 (aa [cp 43 5 39 41,aS 44 5 43,cO 6 iK,bz 5 6 44] (.seq (.drawn true 137 [aS 45 5 2,aB 46 0 1 6,av 47 1 46,cA 48 116 47,gY 49 1 4 6,aS 50 4 49,c8 51 39 [.t 45,.t 48,.t 50],cd 52 51]) (aU 52 (aa [bd 4 false] .ret) .skip)))) (.region [aV 53 .add 41 1,I 41 53])))) (.seq (aa [aB 54 2 1 3,av 55 1 54,cg 56 55,bU 57 0] (.block 2 (.loop (aa [bn 58 .lss 57 56] (.seq (aU 58 .skip (.exit 2)) (.seq (.block 3 (aa [cp 59 1 55 57,av 60 1 59,I 8 60] (aa [aS 61 5 2,cO 9 eF,bz 5 9 61] (aa [bd 10 false] (.seq (aa [I 62 8,cg 63 62,bU 64 0] (.block 4 (.loop (aa [bn 65 .lss 64 63] (.seq (aU 65 .skip (.exit 4)) (.seq (.block 5 (aa [cp 66 5 62 64,aS 67 5 66,cO 12 iK,bz 5 12 67] (.seq (.drawn true 137 [aS 69 5 9,aB 70 0 1 12,av 71 1 70,cA 72 116 71,gY 73 1 4 12,aS 74 4 73,c8 75 53 [.t 69,.t 72,.t 74],I 68 75,cn 76 0 68,cn 77 1 68,cO 13 eF,bz 5 13 76,I 14 77]) (.seq (aa [I 78 14,cd 79 78] (aU 79 (aa [bd 10 true] (.exit 4)) .skip)) (.region [aS 80 5 13,bz 5 9 80]))))) (.region [aV 81 .add 64 1,I 64 81]))))))) (aa [I 82 10,cd 83 82] (aU 83 (aa [bd 4 false] .ret) .skip))))))) (.region [aV 84 .add 57 1,I 57 84]))))))) (.seq (aa [aB 85 3 1 3,av 86 1 85,cg 87 86,bU 88 0] (.block 6 (.loop (aa [bn 89 .lss 88 87] (.seq (aU 89 .skip (.exit 6)) (.seq (.block 7 (aa [cp 90 2 86 88,aS 91 2 90,c4 (.alloc 16 none (.agg [.int .i64 0,.int .i64 0])),bz 2 16 91] (.seq (.drawn true 137 [aS 93 5 2,aB 94 0 1 16,av 95 1 94,cA 96 116 95,aB 97 1 1 16,av 98 1 97,c8 99 49 [.t 93,.t 96,.t 98],I 92 99,cn 100 0 92,cn 101 1 92,cO 17 eF,bz 5 17 100,I 18 101]) (aa [I 102 18,cd 103 102,I 104 103,aq 104 false (aS 105 5 17),aq 104 false (aS 106 5 2),aq 104 false (b8 107 91 105 106),aq 104 false (cd 108 107),cU 109 104 108] (aU 109 (aa [bd 4 false] .ret) .skip))))) (.region [aV 110 .add 88 1,I 88 110]))))))) (.seq (aa [aB 111 4 1 3,av 112 1 111,cg 113 112,bU 114 0] (.block 8 (.loop (aa [bn 115 .lss 114 113] (.seq (aU 115 .skip (.exit 8)) (.seq (.block 9 (aa [cp 116 2 112 114,aS 117 2 116,c4 (.alloc 20 none (.agg [.int .i64 0,.str []])),bz 2 20 117] (.seq (.drawn true 137 [aS 119 5 2,aB 120 0 1 20,av 121 1 120,cA 122 116 121,aB 123 1 1 20,av 124 1 123,c8 125 51 [.t 119,.t 122,.t 124],I 118 125,cn 126 0 118,cn 127 1 118,cO 21 eF,bz 5 21 126,I 22 127]) (aa [I 128 22,cd 129 128,I 130 129,aq 130 false (aS 131 5 21),aq 130 false (aS 132 5 2),aq 130 false (b8 133 91 131 132),aq 130 false (cd 134 133),cU 135 130 134] (aU 135 (aa [bd 4 false] .ret) .skip))))) (.region [aV 136 .add 114 1,I 114 136]))))))) (aa [bd 4 true] .ret)))))))
@[simp] def Hd:List bB:=[.tmp 4]
def QI:C:=(aa [cw 3 0,cw 4 1,cO 6 eF,bd 7 false] (.seq (aa [I 8 2,aV 9 .neq 8 2,I 10 9,b6 10 true 11 2,aq 10 true (aV 12 .neq 11 3),dD 13 10 12] (aU 13 (aa [ha 14 eF [],bz 5 6 14,bd 7 false] .ret) .skip)) (aa [aS 15 5 3,aS 16 4 4,aS 17 4 4,I 18 2,c8 19 117 [.t 15,(fI 2),.t 16,.t 17,.t 18,(.c (.str []))],cn 20 0 19,cn 21 1 19,bz 5 6 20,I 7 21] .ret)))
@[simp] def WZ:List bB:=[.cell 6 true 5,.tmp 7]
def EK:C:=(aa [cw 3 0,cw 4 1,cO 6 eF,bd 7 false] (.seq (aa [aS 13 5 3,aS 14 4 4,eb 15 4 30 [.t 14],b8 16 96 13 15,cd 17 16] (aU 17 (aa [ha 18 eF [],bz 5 6 18,bd 7 false] .ret) .skip)) (aa [aB 20 1 1 3,av 21 1 20,aB 22 3 1 3,av 23 1 22,aS 24 4 4,I 25 2,c8 26 118 [.t 21,.t 23,.t 24,.t 25],I 19 26,cn 27 0 19,cn 28 1 19,I 8 27,I 9 28] (.seq (aa [I 29 9,cd 30 29] (aU 30 (aa [ha 31 eF [],bz 5 6 31,bd 7 false] .ret) .skip)) (aa [aS 32 5 3,cA 33 105 32,cO 10 eF,bz 5 10 33] (aa [I 34 8,aB 35 3 1 10,bz 1 35 34] (aa [aS 37 5 10,cA 38 90 37,I 36 38,cn 39 0 36,cn 40 1 36,cO 11 eF,bz 5 11 39,I 12 40] (aa [aS 41 5 11,I 42 12,bz 5 6 41,I 7 42] .ret))))))))
@[simp] def akT:List bB:=[.cell 6 true 5,.tmp 7]
def QL:C:=(aa [cw 3 0,cw 4 1,cO 6 eF,bd 7 false] (.seq (aa [I 8 2,cA 9 119 8,cd 10 9] (aU 10 (aa [ha 11 eF [],bz 5 6 11,bd 7 false] .ret) .skip)) (aa [aS 12 5 3,aS 13 4 4,aS 14 4 4,I 15 2,c8 16 117 [.t 12,(fI 3),.t 13,.t 14,(fI 0),.t 15],cn 17 0 16,cn 18 1 16,bz 5 6 17,I 7 18] .ret)))
@[simp] def alO:List bB:=[.cell 6 true 5,.tmp 7]
def EL:C:=(aa [cw 3 0,cw 4 1,cO 6 eF,bd 7 false] (.seq (aa [aS 13 5 3,aS 14 4 4,eb 15 4 30 [.t 14],b8 16 96 13 15,cd 17 16] (aU 17 (aa [ha 18 eF [],bz 5 6 18,bd 7 false] .ret) .skip)) (aa [aB 20 1 1 3,av 21 1 20,aB 22 4 1 3,av 23 1 22,aS 24 4 4,I 25 2,c8 26 120 [.t 21,.t 23,.t 24,.t 25],I 19 26,cn 27 0 19,cn 28 1 19,I 8 27,I 9 28] (.seq (aa [I 29 9,cd 30 29] (aU 30 (aa [ha 31 eF [],bz 5 6 31,bd 7 false] .ret) .skip)) (aa [aS 32 5 3,cA 33 105 32,cO 10 eF,bz 5 10 33] (aa [I 34 8,aB 35 4 1 10,bz 1 35 34] (aa [aS 37 5 10,cA 38 90 37,I 36 38,cn 39 0 36,cn 40 1 36,cO 11 eF,bz 5 11 39,I 12 40] (aa [aS 41 5 11,I 42 12,bz 5 6 41,I 7 42] .ret))))))))
@[simp] def akU:List bB:=[.cell 6 true 5,.tmp 7]
@[simp] def asO:List bB:=[.cell 6 true 5,.tmp 7]
def IT:C:=(aa [cw 3 0,cw 4 1,cw 5 2,cO 6 eF,bd 7 false] (.seq (aa [aS 13 5 3,aS 14 4 4,aS 15 4 5,eb 16 4 30 [.t 14,.t 15],b8 17 96 13 16,cd 18 17] (aU 18 (aa [ha 19 eF [],bz 5 6 19,bd 7 false] .ret) .skip)) (aa [aB 21 1 1 3,av 22 1 21,aS 23 4 4,aS 24 4 5,c8 25 121 [.t 22,.t 23,.t 24],I 20 25,cn 26 0 20,cn 27 1 20,I 8 26,I 9 27] (.seq (aa [I 28 9,cd 29 28] (aU 29 (aa [ha 30 eF [],bz 5 6 30,bd 7 false] .ret) .skip)) (aa [aS 31 5 3,cA 32 105 31,cO 10 eF,bz 5 10 32] (aa [I 33 8,aB 34 1 1 10,bz 1 34 33] (aa [aS 36 5 10,cA 37 90 36,I 35 37,cn 38 0 35,cn 39 1 35,cO 11 eF,bz 5 11 38,I 12 39] (aa [aS 40 5 11,I 41 12,bz 5 6 40,I 7 41] .ret))))))))
@[simp] def MD:List bB:=[.cell 6 true 5,.tmp 7]
def Je:C:=(aa [cw 3 0,cw 4 1,cw 5 2,cO 6 eF,bd 7 false] (aa [aS 8 5 3,aS 9 4 4,aS 10 4 5,c8 11 117 [.t 8,(fI 1),.t 9,.t 10,(fI 0),(.c (.str []))],cn 12 0 11,cn 13 1 11,bz 5 6 12,I 7 13] .ret))
@[simp] def alM:List bB:=[.cell 6 true 5,.tmp 7]
def EJ:C:=(aa [cw 3 0,cw 4 1,cw 5 2,cO 6 eF,bd 7 false] (.seq (aa [aS 13 5 3,aS 14 4 4,aS 15 4 5,eb 16 4 30 [.t 14,.t 15],b8 17 96 13 16,cd 18 17] (aU 18 (aa [ha 19 eF [],bz 5 6 19,bd 7 false] .ret) .skip)) (aa [aB 21 1 1 3,av 22 1 21,aS 23 4 4,aS 24 4 5,c8 25 122 [.t 22,.t 23,.t 24],I 20 25,cn 26 0 20,cn 27 1 20,I 8 26,I 9 27] (.seq (aa [I 28 9,aV 29 .gtr 28 1] (aU 29 (aa [ha 30 eF [],bz 5 6 30,bd 7 false] .ret) .skip)) (aa [aS 31 5 3,cA 32 105 31,cO 10 eF,bz 5 10 32] (.seq (aa [I 33 9,aV 34 .eql 33 0] (aU 34 (.region [aB 35 2 1 10,av 36 1 35,I 37 8,eb 38 1 46 [.t 37],gR 39 1 46 36 38,aB 40 2 1 10,bz 1 40 39]) .skip)) (aa [aS 42 5 10,cA 43 90 42,I 41 43,cn 44 0 41,cn 45 1 41,cO 11 eF,bz 5 11 44,I 12 45] (aa [aS 46 5 11,I 47 12,bz 5 6 46,I 7 47] .ret))))))))
@[simp] def Wq:List bB:=[.cell 6 true 5,.tmp 7]
@[simp] def asS:List bB:=[.tmp 2]
@[simp] def asV:List bB:=[.tmp 6]
@[simp] def asU:List bB:=[.tmp 6]
def BO:C:=(aa [cw 3 0,cw 4 1,cw 5 2,bd 6 false] (aa [aS 7 5 3,cA 8 27 7,I 9 8,aq 9 true (aS 10 4 4),aq 9 true (cA 11 56 10),dD 12 9 11,I 13 12,aq 13 true (aS 14 4 5),aq 13 true (cA 15 56 14),dD 16 13 15,I 17 16,aq 17 true (aS 18 4 4),aq 17 true (aB 19 0 1 3),aq 17 true (av 20 1 19),aq 17 true (b8 21 148 18 20),dD 22 17 21,I 23 22,aq 23 true (aS 24 4 5),aq 23 true (aB 25 0 1 3),aq 23 true (av 26 1 25),aq 23 true (b8 27 148 24 26),dD 28 23 27,I 6 28] .ret))
@[simp] def M3:List bB:=[.tmp 6]
def EO:C:=(aa [cw 2 0,bd 4 false] (.seq (.drawn true 18 [aS 5 5 2,cA 6 29 5,I 7 6,b6 7 true 8 1,aq 7 true (cA 9 172 8),dD 10 7 9,I 11 10,b6 11 true 12 1,aq 11 true (cA 13 162 12),aq 11 true (aB 14 0 1 2),aq 11 true (av 15 1 14),aq 11 true (bn 16 .leq 13 15),dD 17 11 16,I 4 17]) .ret))
@[simp] def ak5:List bB:=[.tmp 4]
@[simp] def asT:List bB:=[.tmp 2]
@[simp] def asQ:List bB:=[.tmp 2]
@[simp] def asW:List bB:=[.tmp 4]
@[simp] def asC:List bB:=[.tmp 4]
def Rc:C:=(aa [cw 1 0,cO 2 eF] (.seq (.drawn true 20 [aB 3 0 1 1,av 4 1 3,aB 5 1 1 1,av 6 1 5,cA 7 178 6,aB 8 2 1 1,av 9 1 8,cA 10 179 9,eb 11 2 98 [],aB 12 3 1 1,av 13 1 12,gR 14 2 98 11 13,eb 15 2 100 [],aB 16 4 1 1,av 17 1 16,gR 18 2 100 15 17,ha 19 eF [(0,1,(.t 4)),(1,1,(.t 7)),(2,1,(.t 10)),(3,1,(.t 14)),(4,1,(.t 18))],bz 5 2 19]) .ret))
@[simp] def alZ:List bB:=[.cell 2 true 5]
def IZ:C:=(aa [cw 1 0,cO 2 eF] (.seq (.drawn true 39 [aB 6 0 1 1,av 7 1 6,aB 8 1 1 1,av 9 1 8,cA 10 168 9,eb 11 1 46 [],ha 12 eF [(0,1,(.t 7)),(1,1,(.t 10)),(2,1,(.t 11))],cO 3 eF,bz 5 3 12]) (.seq (aa [aB 13 2 1 1,av 14 1 13,cg 15 14,bU 16 0] (fp 17 16 15 (.seq (.block 1 (aa [cp 18 1 14 16,av 19 1 18,I 5 19] (.drawn true 39 [aB 20 2 1 3,av 21 1 20,I 22 5,cA 23 168 22,eb 24 1 46 [.t 23],gR 25 1 46 21 24,aB 26 2 1 3,bz 1 26 25]))) (.region [aV 27 .add 16 1,I 16 27])))) (aa [eb 28 2 98 [],aB 29 3 1 1,av 30 1 29,gR 31 2 98 28 30,aB 32 3 1 3,bz 1 32 31] (aa [eb 33 2 100 [],aB 34 4 1 1,av 35 1 34,gR 36 2 100 33 35,aB 37 4 1 3,bz 1 37 36] (aa [aS 38 5 3,bz 5 2 38] .ret))))))
@[simp] def WD:List bB:=[.cell 2 true 5]
def qG:C:=(aa [cw 6 0,cw 8 2,cw 9 3,cO 12 eF,bd 13 false] (aa [aS 21 5 6,cO 14 eF,bz 5 14 21] (aa [bd 15 true] (.seq (aa [I 22 1,aV 23 .lss 22 2] (aU 23 (aa [aB 25 1 1 6,av 26 1 25,aS 27 4 8,aS 28 4 9,c8 29 180 [.t 26,.t 27,.t 28],I 24 29,cn 30 0 24,cn 31 1 24,I 16 30,I 17 31] (aa [I 32 1,aV 33 .eql 32 0] (aU 33 (aa [I 34 16,aB 35 1 1 14,bz 1 35 34] (.region [I 36 17,I 15 36])) (aa [I 37 17] (aU 37 (aa [aB 38 1 1 6,av 39 1 38,I 40 16,b8 41 153 39 40,I 18 41] (aa [I 42 18,cg 43 42,aV 44 .gtr 43 0,I 15 44] (.region [eb 45 1 46 [],aB 46 2 1 6,av 47 1 46,gR 48 1 46 45 47,I 49 18,eb 50 1 46 [.t 49],gR 51 1 46 48 50,aB 52 2 1 14,bz 1 52 51]))) .skip))))) (aa [aB 54 1 1 6,av 55 1 54,aS 56 4 8,b8 57 60 55 56,I 53 57,cn 58 0 53,cn 59 1 53,cO 19 dY,bz 4 19 58,I 20 59] (aa [I 60 20,I 15 60] (aa [I 61 15,I 62 61,b6 62 true 63 1,aq 62 true (aV 64 .eql 63 2),dD 65 62 64] (aU 65 (.region [aB 67 3 1 6,av 68 1 67,aS 69 4 19,I 70 4,c8 71 151 [.t 68,.t 69,.t 70],I 66 71,cn 72 0 66,cn 73 1 66,aB 74 3 1 14,bz 1 74 72,I 15 73]) (aa [I 75 15] (aU 75 (.region [aB 77 4 1 6,av 78 1 77,aS 79 4 19,I 80 5,c8 81 181 [.t 78,.t 79,.t 80],I 76 81,cn 82 0 76,cn 83 1 76,aB 84 4 1 14,bz 1 84 82,I 15 83]) .skip)))))))) (.seq (aa [I 85 15,cd 86 85] (aU 86 (aa [ha 87 eF [],bz 5 12 87,bd 13 false] .ret) .skip)) (aa [aS 88 5 14,cA 89 81 88,cn 90 0 89,cn 91 1 89,bz 5 12 90,I 13 91] .ret))))))
@[simp] def Hq:List bB:=[.cell 12 true 5,.tmp 13]
def vD:C:=(aa [cw 6 0,cw 8 2,cw 9 3,cO 12 eF,bd 13 false] (.seq (aa [aS 16 5 6,cA 17 27 16,cd 18 17,I 19 18,aq 19 false (aS 20 4 8),aq 19 false (cA 21 56 20),aq 19 false (cd 22 21),cU 23 19 22,I 24 23,aq 24 false (aS 25 4 9),aq 24 false (cA 26 56 25),aq 24 false (cd 27 26),cU 28 24 27,I 29 28,aq 29 false (aS 30 4 8),aq 29 false (aB 31 0 1 6),aq 29 false (av 32 1 31),aq 29 false (b8 33 148 30 32),aq 29 false (cd 34 33),cU 35 29 34,I 36 35,aq 36 false (aS 37 4 9),aq 36 false (aB 38 0 1 6),aq 36 false (av 39 1 38),aq 36 false (b8 40 148 37 39),aq 36 false (cd 41 40),cU 42 36 41] (aU 42 (aa [ha 43 eF [],bz 5 12 43,bd 13 false] .ret) .skip)) (aa [aS 45 5 6,I 46 1,aS 47 4 8,aS 48 4 9,I 49 4,I 50 5,c8 51 115 [.t 45,.t 46,.t 47,.t 48,.t 49,.t 50],I 44 51,cn 52 0 44,cn 53 1 44,cO 14 eF,bz 5 14 52,I 15 53] (.seq (aa [I 54 15,cd 55 54] (aU 55 (aa [ha 56 eF [],bz 5 12 56,bd 13 false] .ret) .skip)) (aa [aS 57 5 14,cA 58 104 57,bz 5 12 58,bd 13 true] .ret)))))
@[simp] def Hs:List bB:=[.cell 12 true 5,.tmp 13]
def Px:C:=(aa [cw 4 1,cw 5 2,eu 6 5,bd 7 false] (.seq (aa [I 8 0,cA 9 86 8,cd 10 9,I 11 10,aq 11 false (aS 12 4 4),aq 11 false (cA 13 64 12),aq 11 false (cd 14 13),cU 15 11 14,I 16 15,aq 16 false (aS 17 4 5),aq 16 false (cA 18 64 17),aq 16 false (cd 19 18),cU 20 16 19] (aU 20 (aa [eu 6 5,bd 7 false] .ret) .skip)) (aa [I 21 0,aS 22 4 4,eb 23 4 30 [.t 22],aS 24 4 5,eb 25 4 30 [.t 24],c8 26 186 [.t 21,.t 23,.t 25],cn 27 0 26,cn 28 1 26,I 6 27,I 7 28] .ret)))
@[simp] def akZ:List bB:=[.tmp 6,.tmp 7]
def IQ:C:=(aa [cw 4 1,cw 5 2,eu 6 5,bU 7 0] (.seq (aa [I 12 0,cA 13 86 12,cd 14 13,I 15 14,aq 15 false (aS 16 4 4),aq 15 false (cA 17 64 16),aq 15 false (cd 18 17),cU 19 15 18,I 20 19,aq 20 false (aS 21 4 5),aq 20 false (cA 22 64 21),aq 20 false (cd 23 22),cU 24 20 23] (aU 24 (aa [eu 6 5,bU 7 3] .ret) .skip)) (aa [I 26 0,aS 27 4 4,aS 28 4 5,c8 29 121 [.t 26,.t 27,.t 28],I 25 29,cn 30 0 25,cn 31 1 25,I 8 30,I 9 31] (aa [I 33 0,I 34 8,I 35 9,c8 36 187 [.t 33,.t 34,.t 35],I 32 36,cn 37 0 32,cn 38 1 32,I 10 37,I 11 38] (aa [I 39 10,I 40 11,I 6 39,I 7 40] .ret)))))
@[simp] def akS:List bB:=[.tmp 6,.tmp 7]
@[simp] def asM:List bB:=[.tmp 4]
@[simp] def asK:List bB:=[.tmp 4]
@[simp] def asp:List bB:=[.tmp 4]
def QZ:C:=(aa [eu 2 5] (aa [eb 6 5 113 [],I 3 6] (.seq (aa [I 7 0,cg 8 7,bU 9 0] (fp 10 9 8 (.seq (.block 1 (aa [cp 11 5 7 9,aS 12 5 11,cO 5 iK,bz 5 5 12] (.drawn true 24 [I 13 3,aB 14 0 1 5,av 15 1 14,gY 16 1 4 5,aS 17 4 16,cA 18 130 17,ha 19 iK [(0,1,(.t 15)),(1,4,(.t 18))],eb 20 5 113 [.t 19],gR 21 5 113 13 20,I 3 21]))) (.region [aV 22 .add 9 1,I 9 22])))) (aa [I 23 3,I 2 23] .ret))))
@[simp] def alT:List bB:=[.tmp 2]
def Q8:C:=(aa [eu 2 1] (aa [eb 6 1 46 [],I 3 6] (.seq (aa [I 7 0,cg 8 7,bU 9 0] (fp 10 9 8 (.seq (.block 1 (aa [cp 11 1 7 9,av 12 1 11,I 5 12] (.region [I 13 3,I 14 5,cA 15 178 14,eb 16 1 46 [.t 15],gR 17 1 46 13 16,I 3 17]))) (.region [aV 18 .add 9 1,I 9 18])))) (aa [I 19 3,I 2 19] .ret))))
@[simp] def alW:List bB:=[.tmp 2]
def ES:C:=(aa [eu 6 5,bU 7 0] (.seq (aa [I 8 2,cd 9 8] (aU 9 (aa [eu 6 5,bU 7 1] .ret) .skip)) (.seq (aa [I 10 0,I 11 1,b8 12 169 10 11] (aU 12 (aa [eu 6 5,bU 7 2] .ret) .skip)) (aa [I 13 0,I 14 1,b8 15 166 13 14,I 6 15,bU 7 0] .ret))))
@[simp] def ak6:List bB:=[.tmp 6,.tmp 7]
@[simp] def asP:List bB:=[.cell 4 true 4,.tmp 5]
def kq:List (Nat×dI):=[
 (3,⟨1,8,.int .i64,.int .i64 0⟩),
 (4,⟨1,1,.bool,.bool false⟩),
 (9,⟨1,16,.str,.str []⟩),
 (24,⟨4,56,.struct [(0,3),(1,3),(2,9),(3,22)],.agg [.int .i64 0,.int .i64 0,.str [],.slice 4 .nil []]⟩),
 (27,⟨1,24,.slice 30,.slice 4 .nil []⟩),
 (30,⟨4,56,.struct [(0,3),(1,3),(2,9),(3,27)],.agg [.int .i64 0,.int .i64 0,.str [],.slice 4 .nil []]⟩),
 (43,⟨5,104,.struct [(0,3),(1,38),(2,39),(3,40),(4,41)],.agg [.int .i64 0,.slice 5 .nil [],.slice 1 .nil [],.slice 2 .nil [],.slice 2 .nil []]⟩),
 (46,⟨1,24,.slice 113,.slice 5 .nil []⟩),
 (47,⟨1,24,.slice 46,.slice 1 .nil []⟩),
 (48,⟨1,24,.slice 98,.slice 2 .nil []⟩),
 (49,⟨1,24,.slice 100,.slice 2 .nil []⟩),
 (51,⟨5,104,.struct [(0,3),(1,46),(2,47),(3,48),(4,49)],.agg [.int .i64 0,.slice 5 .nil [],.slice 1 .nil [],.slice 2 .nil [],.slice 2 .nil []]⟩),
 (76,⟨1,24,.slice 3,.slice 1 .nil []⟩),
 (98,⟨2,16,.struct [(0,3),(1,3)],.agg [.int .i64 0,.int .i64 0]⟩),
 (100,⟨2,24,.struct [(0,3),(1,9)],.agg [.int .i64 0,.str []]⟩),
 (113,⟨5,64,.struct [(0,3),(1,30)],.agg [.int .i64 0,.int .i64 0,.int .i64 0,.str [],.slice 4 .nil []]⟩)]
theorem eh:fU al kq=true:=by kernel_rfl
theorem Ml:bY kq EU ak9 2 kR=true:=by kernel_rfl
theorem JO:al.funcs[(10:Nat)]? =some kR:=Tryz.func10
theorem Mo:bY kq EZ alN 3 Tryz.f38=true:=by kernel_rfl
theorem JR:al.funcs[(38:Nat)]? =some Tryz.f38:=Tryz.func38
theorem VO:bY kq IS Wr 3 Tryz.f39=true:=by kernel_rfl
theorem RX:al.funcs[(39:Nat)]? =some Tryz.f39:=Tryz.func39
theorem GZ:bY kq BL MS 2 Tryz.f46=true:=by kernel_rfl
theorem Fm:al.funcs[(46:Nat)]? =some Tryz.f46:=Tryz.func46
theorem GY:bY kq BJ Hd 2 Tryz.f47=true:=by kernel_rfl
theorem Fl:al.funcs[(47:Nat)]? =some Tryz.f47:=Tryz.func47
theorem aj2:bY kq QI WZ 3 Tryz.f48=true:=by kernel_rfl
theorem adx:al.funcs[(48:Nat)]? =some Tryz.f48:=Tryz.func48
theorem Mc:bY kq EK akT 3 Tryz.f49=true:=by kernel_rfl
theorem JF:al.funcs[(49:Nat)]? =some Tryz.f49:=Tryz.func49
theorem aj5:bY kq QL alO 3 Tryz.f50=true:=by kernel_rfl
theorem adA:al.funcs[(50:Nat)]? =some Tryz.f50:=Tryz.func50
theorem Md:bY kq EL akU 3 Tryz.f51=true:=by kernel_rfl
theorem JG:al.funcs[(51:Nat)]? =some Tryz.f51:=Tryz.func51
theorem VP:bY kq IT MD 3 Tryz.f53=true:=by kernel_rfl
theorem RY:al.funcs[(53:Nat)]? =some Tryz.f53:=Tryz.func53
theorem V4:bY kq Je alM 3 Tryz.f54=true:=by kernel_rfl
theorem Sf:al.funcs[(54:Nat)]? =some Tryz.f54:=Tryz.func54
theorem Mb:bY kq EJ Wq 3 Tryz.f55=true:=by kernel_rfl
theorem JE:al.funcs[(55:Nat)]? =some Tryz.f55:=Tryz.func55
theorem G2:bY kq BO M3 3 Tryz.f95=true:=by kernel_rfl
theorem Fq:al.funcs[(95:Nat)]? =some Tryz.f95:=Tryz.func95
theorem Mg:bY kq EO ak5 2 Tryz.f96=true:=by kernel_rfl
theorem JJ:al.funcs[(96:Nat)]? =some Tryz.f96:=Tryz.func96
theorem akw:bY kq Rc alZ 1 Tryz.f104=true:=by kernel_rfl
theorem ad1:al.funcs[(104:Nat)]? =some Tryz.f104:=Tryz.func104
theorem VU:bY kq IZ WD 1 Tryz.f105=true:=by kernel_rfl
theorem R5:al.funcs[(105:Nat)]? =some Tryz.f105:=Tryz.func105
theorem sc:bY kq qG Hq 6 Tryz.f115=true:=by kernel_rfl
theorem rA:al.funcs[(115:Nat)]? =some Tryz.f115:=Tryz.func115
theorem yu:bY kq vD Hs 6 Tryz.f117=true:=by kernel_rfl
theorem xy:al.funcs[(117:Nat)]? =some Tryz.f117:=Tryz.func117
theorem aiS:bY kq Px akZ 3 Tryz.f121=true:=by kernel_rfl
theorem acj:al.funcs[(121:Nat)]? =some Tryz.f121:=Tryz.func121
theorem VN:bY kq IQ akS 3 Tryz.f122=true:=by kernel_rfl
theorem RW:al.funcs[(122:Nat)]? =some Tryz.f122:=Tryz.func122
theorem akj:bY kq QZ alT 1 Tryz.f178=true:=by kernel_rfl
theorem adO:al.funcs[(178:Nat)]? =some Tryz.f178:=Tryz.func178
theorem aks:bY kq Q8 alW 1 Tryz.f179=true:=by kernel_rfl
theorem adX:al.funcs[(179:Nat)]? =some Tryz.f179:=Tryz.func179
theorem Mj:bY kq ES ak6 3 Tryz.f187=true:=by kernel_rfl
theorem JM:al.funcs[(187:Nat)]? =some Tryz.f187:=Tryz.func187
def CT(t:T)(k:Nat)(st:bs):Prop:=
 (k=t.args.length∧st=⟨[(2,.ptr (.loc 1) 0),(3,.ptr (.loc 2) 0),(14,.slice 4 .no (t.args.map T.e)),(15,.int .i64 t.args.length),(16,.int .i64 0)],[(.loc 1,[.int .i64 0,.int .i64 0,.str [],.slice 4 .nil []]),(.loc 2,[.int .i64 t.kind,.int .i64 t.int,.str t.name,.slice 4 .nil []])],[],3,[]⟩)∨
 ∃i:Nat,1≤i∧i≤t.args.length∧k=t.args.length-i∧st=⟨[(2,.ptr (.loc 1) 0),(3,.ptr (.loc 2) 0),(14,.slice 4 .no (t.args.map T.e)),(15,.int .i64 t.args.length),(16,.int .i64 i)],[(.loc 1,[.int .i64 0,.int .i64 0,.str [],.slice 4 .nil []]),(.loc 2,[.int .i64 t.kind,.int .i64 t.int,.str t.name,.slice 4 (.own (.loc 29)) ((t.args.take i).map T.e)])],[(.loc 29,⟨i,30,4,none⟩)],30,[]⟩
set_option maxRecDepth 4000 in
theorem YB(t:T):bt al 130 [t.e] t.e:=by
 induction t with
 |pair a b dW dX=>
  refine bc fQ BX Dm fun aN=>?_;unfold zg;simp;refine pA (CT (.pair a b)) 2 _ bW (.inl ⟨rfl,rfl⟩) ?_;rintro k st (⟨ad,rfl⟩|⟨i,J,U,ad,rfl⟩) kX cT;all_goals clear kX cT
  ·simp;(with_reducible repeat' first|refine aj ?_|refine aD dW ?_|refine aE dW ?_|simp);refine bT.next 1 (by rw[ad];simp) (.inr ⟨1,by omega,by simp,rfl,rfl⟩) bW
  ·rcases(by simp at U;omega:i=1∨i=2)with rfl|rfl
   ·simp;(with_reducible repeat' first|refine aj ?_|refine aD dX ?_|refine aE dX ?_|simp);refine bT.next 0 (by rw[ad];simp) (.inr ⟨2,by omega,by simp,rfl,rfl⟩) bW
   ·exact bO
 |nil=>
  refine bc fQ BX Dm fun aN=>?_;unfold zg;simp;refine pA (CT (.nil)) 0 _ bW (.inl ⟨rfl,rfl⟩) ?_;rintro k st (⟨ad,rfl⟩|⟨i,J,U,ad,rfl⟩) kX cT;all_goals clear kX cT
  ·exact bO
  ·simp at U;omega
 |var n=>
  refine bc fQ BX Dm fun aN=>?_;unfold zg;simp;refine pA (CT (.var n)) 0 _ bW (.inl ⟨rfl,rfl⟩) ?_;rintro k st (⟨ad,rfl⟩|⟨i,J,U,ad,rfl⟩) kX cT;all_goals clear kX cT
  ·exact bO
  ·simp at U;omega
 |sym s=>
  refine bc fQ BX Dm fun aN=>?_;unfold zg;simp;refine pA (CT (.sym s)) 0 _ bW (.inl ⟨rfl,rfl⟩) ?_;rintro k st (⟨ad,rfl⟩|⟨i,J,U,ad,rfl⟩) kX cT;all_goals clear kX cT
  ·exact bO
  ·simp at U;omega
 |num n=>
  refine bc fQ BX Dm fun aN=>?_;unfold zg;simp;refine pA (CT (.num n)) 0 _ bW (.inl ⟨rfl,rfl⟩) ?_;rintro k st (⟨ad,rfl⟩|⟨i,J,U,ad,rfl⟩) kX cT;all_goals clear kX cT
  ·exact bO
  ·simp at U;omega
theorem YE(t:List ao)(aL:t.length≤1000000):bt al 178 [.slice 5 .no (t.map ao.e)] (.slice 5 .no (t.map ao.e)):=by
 refine bc eh adO akj fun aN=>?_;unfold QZ;simp;(with_reducible repeat' first|refine aj ?_|simp);refine hH (α:=List ao) (fun i out=>⟨[(7,.slice 5 .no (t.map ao.e)),(8,.int .i64 t.length),(3,.slice 5 (.own (.loc 0)) (out.map ao.e)),(9,.int .i64 i)],[],[(.loc 0,⟨out.length,113,5,none⟩)],1,[]⟩) t.length (fun i out=>out=t.take i) [] bW (by simp) (fun out af _=>?_) (fun i out hi af _=>?_)
 ·rw[hD (eY _)]at af;subst af;exact bO
 ·obtain⟨b,aK,gj⟩:=dP hi;have zV:out.length≤1000000:=by rw[af];simp;omega
  simp[hi,gj];(with_reducible repeat' first|refine aj ?_|refine aD (YB _) ?_|refine aE (YB _) ?_|simp[gj,hi]);all_goals first|(refine⟨by unfold lim;omega,?_⟩)|skip
  all_goals(with_reducible repeat' first|refine aj ?_|simp)
  all_goals refine bT.rng (out++[b]) hi (by rw[mQ aK,af]) ?_
  all_goals simp
  all_goals exact⟨by simp[fresh,aJ,aF,ck,inObs,Pv.look,jm],ee (by simp[fresh,aJ,aF,ck,inObs,Pv.look,jm]),ef (by simp[fresh,aJ,aF,dV,inObs,Pv.look,jm]),by simp⟩
def mz(n:Int)(l:List bI):Prop:= ∃x:List T,l=x.map T.tm∧(∀t∈x,t.fit=true)∧∀t∈x,dw n t=true
theorem X9{x y:List T}(h:x.map T.tm=y.map T.tm):x=y:=(List.map_inj_right fun _ _=>D1).1 h
theorem aa4(l:List T):(l.map T.tm).map enc=l.map T.e:=by rw[List.map_map];exact List.map_congr_left fun t _=>hU t
theorem Sj:∀{l:List bI},l.all bI.fits=true→∃x:List T,l=x.map T.tm∧∀t∈x,t.fit=true
 |[],_=>⟨[],rfl,by simp⟩
 |t::l,h=>by rw[List.all_cons,cE]at h;obtain⟨x,rfl,U⟩:=Sj h.2;obtain⟨y,rfl,a8⟩:=bI.fits_ex h.1;exact⟨y::x,rfl,fun z bq=>(gf.1 bq).elim (fun e=>by rw[e];exact a8) (U z)⟩
theorem zu{n:Int}{l:List bI}(h:mz n l):∀t∈l,t.fits=true:=fun t aL=>by obtain⟨x,rfl,U,_⟩:=h;obtain⟨y,aG,rfl⟩:=iC.1 aL;rw[bI.fits_T];exact U y aG
theorem Fv{n:Int}{x y:T}(ab:x.fit=true)(aG:y.fit=true)(J:dw n x=true)(U:dw n y=true):mz n [x.tm,y.tm]:=⟨[x,y],rfl,by simp[ab,aG],by simp[J,U]⟩
theorem JY{n:Int}{x y:T}(h:mz n [x.tm,y.tm]):(x.fit=true∧y.fit=true)∧dw n x=true∧dw n y=true:=by obtain⟨l,e,J,U⟩:=h;have:=X9 (x:=[x,y]) e;subst this;exact⟨⟨J x (by simp),J y (by simp)⟩,U x (by simp),U y (by simp)⟩
theorem RF{p:Prop}[Decidable p]{b:Bool}:decide p=b↔(p↔b=true):=by cases b<;>simp
theorem YV{n:Int}:∀(l:List T) (m:Int),l.foldl (fun m t=>t.fold ri m) m≤n↔m≤n∧∀t∈l,dw n t=true
 |[],m=>by simp
 |t::l,m=>by rw[List.foldl_cons,YV l,Ii];simp[and_assoc]
theorem k0.fin{α:Type}{p:α→Bool}{s:List α}(h:k0 p s s.length ()):∀b∈s,p b=true:=fun b ae=>by obtain⟨i,hi⟩:=List.mem_iff_getElem?.1 ae;exact h i b (by have:=(fV.1 hi).1;omega) hi
theorem aot(l:List bI):bt al 172 [.slice 4 .no (l.map enc)] (.bool (l.all bI.fits)):=by
 generalize bg:l.all bI.fits=R;refine bc fQ R8 VX fun aN=>?_;unfold I2;have eV:l.length≤68719476736:=by simp[ey,ea,en,lim]at aN;omega
 simp;refine dR [5,6] (fun i (_:Unit)=>[(7,.int .i64 i)]) l.length (k0 bI.fits l) () bW (fun k b ad=>by omega) (fun _ af _=>?_) (fun i _ hi af _=>?_)
 ·have:R=true:=by rw[←bg,hs];exact af.fin
  subst this;clear af bg;exact bO
 ·obtain⟨t,aL,qV⟩:=dP hi;have dO:=H7 t;cases g:t.fits
  ·rw[g]at dO;have:R=false:=by rw[←bg,List.all_eq_false];exact⟨t,dZ aL,by rw[g];simp⟩
   subst this;clear aL af bg;exact bO
  ·rw[g]at dO;have au:=af.step aL g;clear aL af bg;exact gI
open Classical in
theorem N3(r:eQ)(ec:gA r.m→fX r.m)(l:List bI):bt al 96 [r.e,.slice 4 .no (l.map enc)] (.bool (decide (gK r∧mz r.n l))):=by
 generalize bg:decide (gK r∧mz r.n l)=R;have c2:=D6 r ec;have dO:=aot l;have au:=fun h:gK r=>(gK.raw h).n;by_cases g1:gK r;rotate_left
 ·rw[h6 g1]at c2;have:R=false:=by rw[←bg];exact h6 fun h=>g1 h.1
  subst this;obtain⟨n,b,d,k,m⟩:=r;simp only[eQ.e]at c2⊢;clear bg au ec g1;refine bc eh JJ Mg fun aN=>?_;unfold EO;exact bO
 rw[gU g1]at c2;cases g2:l.all bI.fits
 ·rw[g2]at dO;have:R=false:=by rw[←bg];refine h6 fun h=>?_;obtain⟨x,rfl,U,_⟩:=h.2;rw[List.all_eq_false]at g2;obtain⟨t,aL,aI⟩:=g2;obtain⟨y,aG,rfl⟩:=iC.1 aL;rw[bI.fits_T]at aI;exact aI (U y aG)
  subst this;obtain⟨n,b,d,k,m⟩:=r;simp only[eQ.e]at c2⊢;clear bg au ec g1 g2;refine bc eh JJ Mg fun aN=>?_;unfold EO;exact bO
 rw[g2]at dO;obtain⟨x,rfl,ab⟩:=Sj g2;rw[aa4]at dO⊢;have qd:=Yt x ab;have aK:decide (w8 x≤r.n)=R:=by rw[←bg,w8];refine decide_eq_decide.2 ?_;rw[YV];refine⟨fun h=>⟨g1,x,rfl,ab,h.2⟩,fun h=>⟨(au g1).1,?_⟩⟩;obtain⟨y,e,_,U⟩:=h.2;rw[X9 e];exact U
 generalize w8 x=q at qd aK;obtain⟨n,b,d,k,m⟩:=r;simp only[eQ.e]at c2 aK⊢;clear bg au ec g1 g2 ab;subst aK;refine bc eh JJ Mg fun aN=>?_;unfold EO;exact bO
noncomputable def mx(s:bS)(x y:T):Option bS:=(mgu s.b [(x,y)]).bind fun b=>gJ {s with b:=b}
theorem Ys{b:List ao}(ae:eE b){x y:T}(ab:x.fit=true)(aG:y.fit=true):bt al 121 [.slice 5 .no (b.map ao.e),x.e,y.e] (fc (mgu b [(x,y)])):=by have c2:=o5 ae;have aP:=yV ab;have a6:=yV aG;have key:=YO b [x] [y] rfl ae.sol ae.fits ae.ok (by simp) (by simp only[T.fit,cE]at ab;simpa using ab.1) (by simp only[T.fit,cE]at aG;simpa using aG.1);simp only[gS,mU,List.zip_cons_cons,List.zip_nil_left]at key;unfold fc at key⊢;generalize mgu b [(x,y)]=O at key;refine bc eh acj aiS fun aN=>?_;unfold Px;exact bO
theorem uR(S:aH→Prop)(l:List (List ao))(d:List ao):aJ S (l.map cC++[cC d])=True:=tf S l d
theorem Yv{x:List ao}(h:x.length≤1000000):bt al 168 [cC x] (cC x):=D7 x h
theorem N1(s:bS)(ae:s.b.length≤1000000)(aR:∀x∈s.d,x.length≤1000000)(ad:s.k.length≤1000000)(hm:s.m.length≤68719470000):bt al 105 [s.e] s.e:=by
 obtain⟨n,b,d,k,m⟩:=s;simp only[bS.e]at ae aR ad hm⊢;have fO:=D7 b ae;refine bc eh R5 VU fun aN=>?_;unfold IZ;have eV:d.length≤68719476736:=by simp[ey,ea,en,lim]at aN;omega
 clear aN;simp;(with_reducible repeat' first|refine aj ?_|refine aD fO ?_|refine aE fO ?_|simp);refine hH (fun i (L:List (List ao))=>⟨[(1,.ptr (.loc 0) 0),(2,.ptr (.loc 1) 0),(3,.ptr (.loc 5) 0),(14,.slice 1 .no (d.map cC)),(15,.int .i64 d.length),(16,.int .i64 i)],[(.loc 0,[.int .i64 n,.slice 5 .no (b.map ao.e),.slice 1 .no (d.map cC),.slice 2 .no (k.map bJ.e),.slice 2 .no (m.map bj.e)]),(.loc 1,[.int .i64 0,.slice 5 .nil [],.slice 1 .nil [],.slice 2 .nil [],.slice 2 .nil []]),(.loc 5,[.int .i64 n,.slice 5 .no (b.map ao.e),.slice 1 (.own (.loc 13)) (L.map cC),.slice 2 .nil [],.slice 2 .nil []])],[(.loc 13,⟨L.length,46,1,none⟩)],41,[]⟩) d.length (fun i L=>L=d.take i) [] bW (by simp) (fun L af _=>?_) (fun i L hi af _=>?_)
 ·rw[mn]at af;subst af;simp;(with_reducible repeat' first|refine aj ?_|simp);all_goals first|(refine⟨by unfold lim;omega,?_⟩)|skip
  exact bO
 ·obtain⟨x,ab,cD⟩:=dP hi;have wu:=Yv (aR x (dZ ab));have aw:L.length≤i:=by rw[af];simp;omega
  simp[hi,cD];(with_reducible repeat' first|refine aj ?_|refine aD wu ?_|refine aE wu ?_|simp[cD,hi]);all_goals first|(refine⟨by unfold lim;omega,?_⟩)|skip
  (with_reducible repeat' first|refine aj ?_|simp);refine bT.rng (L++[x]) hi (by rw[mQ ab,af]) ?_;simp;exact⟨by simp[fresh,aJ,aF,ck,inObs,Pv.look,uR],ee (by simp[fresh,aJ,aF,ck,inObs,Pv.look,uR]),ef (by simp[fresh,aJ,aF,dV,inObs,Pv.look,uR]),by simp⟩
theorem T.fit_ok{x:T}(h:x.fit=true):x.ok=true:=by simp only[T.fit,cE]at h;exact h.1
theorem ix.bind{s:bS}(h:ix s){x y:T}(ab:x.fit=true)(aG:y.fit=true)(bx:dw s.n x=true)(hx:dw s.n y=true){b:List ao}(hm:mgu s.b [(x,y)]=some b):ix {s with b:=b}:=⟨h.n,h.b.mgu (by simp[T.fit_ok ab,T.fit_ok aG]) hm,h.d,h.k,h.m,Vv (fun v=>v<s.n) h.b.sol h.b.fits h.bb (fun e he=>by simp only[List.mem_singleton]at he;subst he;exact⟨vx.1 bx,vx.1 hx⟩) hm,h.db,h.kb,h.mb⟩
open Classical in
theorem Yy{s:bS}(h:jB s)(hm:fX s.m){x y:T}(ab:x.fit=true)(aG:y.fit=true)(bx:dw s.n x=true)(hx:dw s.n y=true):bt al 96 [s.e,.slice 4 .no [x.e,y.e]] (.bool true):=by have:=N3 s.r (fun _=>hm) [x.tm,y.tm];rw[gU ⟨⟨s,rfl,h⟩,Fv ab aG bx hx⟩,nH]at this;simpa[hU]using this
theorem ani{s:bS}(h:jB s)(hm:fX s.m){x y:T}(ab:x.fit=true)(aG:y.fit=true)(bx:dw s.n x=true)(hx:dw s.n y=true):bt al 53 [s.e,x.e,y.e] (e3 (mx s x y)):=by
 have aP:=Yy h hm ab aG bx hx;have a6:=Ys h.1.b ab aG;have bR:=N1 s h.1.b.len (fun z bq=>(h.1.d z bq).len) (by have:=nZ h.1.k;omega) (hm.len h.1.m);unfold mx;cases hu:mgu s.b [(x,y)]with
 |none=>rw[hu]at a6;clear h hu bR;obtain⟨n,b,d,k,m⟩:=s;simp only[bS.e,fc,e3,Option.bind_none,hO,ht,gd]at aP a6⊢;refine bc eh RY VP fun aN=>?_;unfold IT;simp;((with_reducible repeat' first|refine aj ?_|refine aD aP ?_|refine aE aP ?_|refine aD a6 ?_|refine aE a6 ?_|simp|((first|apply bK|apply bM|apply bL)<;>intro h<;>try simp at h))<;>(try exact cc));all_goals simp[bu,MD,aY,aZ,aW]
 |some bP=>rw[hu]at a6;obtain⟨G,hg,aX⟩:=hm;have dq:=Bn (h.1.bind ab aG bx hx hu) hg aX;rw[ju];generalize gJ {s with b:=bP}=O at dq;clear h hu;obtain⟨n,b,d,k,m⟩:=s;simp only[bS.e,fc,e3]at aP a6 bR dq⊢;refine bc eh RY VP fun aN=>?_;unfold IT;simp;(with_reducible repeat' first|refine aj ?_|refine aD aP ?_|refine aE aP ?_|refine aD a6 ?_|refine aE a6 ?_|refine aD bR ?_|refine aE bR ?_|refine aD dq ?_|refine aE dq ?_|simp);all_goals simp[bu,MD,aY,aZ,aW]
theorem YU(r:eQ)(a b:bI):(¬gK r∧¬(gK r∧mz r.n [a,b]))∨(gK r∧a.fits=false∧¬(gK r∧mz r.n [a,b]))∨(gK r∧a.fits=true∧b.fits=false∧¬(gK r∧mz r.n [a,b]))∨
  (gK r∧∃x y:T,a=x.tm∧b=y.tm∧x.fit=true∧y.fit=true∧((gK r∧mz r.n [a,b])↔(dw r.n x&&dw r.n y)=true)):=by
 by_cases g:gK r;rotate_left
 ·exact .inl ⟨g,fun h=>g h.1⟩
 refine .inr ?_;cases g1:a.fits
 ·refine .inl ⟨g,rfl,fun h=>?_⟩;have:=zu h.2 a (by simp);rw[g1]at this;cases this
 refine .inr ?_;cases g2:b.fits
 ·refine .inl ⟨g,rfl,rfl,fun h=>?_⟩;have:=zu h.2 b (by simp);rw[g2]at this;cases this
 obtain⟨x,rfl,ab⟩:=bI.fits_ex g1;obtain⟨y,rfl,aG⟩:=bI.fits_ex g2;exact .inr ⟨g,x,y,rfl,rfl,ab,aG,by rw[cE];exact⟨fun h=>(JY h.2).2,fun h=>⟨g,Fv ab aG h.1 h.2⟩⟩⟩
open Classical in
theorem an7(r:eQ)(ec:gA r.m→fX r.m)(a b:bI):bt al 95 [r.e,enc a,enc b] (.bool (decide (gK r∧mz r.n [a,b]))):=by
 have c2:=yW r ec;have aP:=w6 a;have a6:=w6 b;rcases YU r a b with⟨g,aK⟩|⟨g,g1,aK⟩|⟨g,g1,g2,aK⟩|⟨g,x,y,rfl,rfl,ab,aG,aK⟩
 ·rw[h6 aK];rw[h6 g]at c2;clear ec g aK aP a6;obtain⟨n,bP,d,k,m⟩:=r;simp only[eQ.e]at c2⊢;refine bc eh Fq G2 fun aN=>?_;unfold BO;simp;((with_reducible repeat' first|refine aj ?_|refine aD c2 ?_|refine aE c2 ?_|simp|((first|apply bK|apply bM|apply bL)<;>intro h<;>try simp at h))<;>(try exact cc));all_goals simp[bu,M3,aY,aZ,aW]
 ·rw[h6 aK];rw[gU g]at c2;rw[g1]at aP;clear ec g aK g1 a6;obtain⟨n,bP,d,k,m⟩:=r;simp only[eQ.e]at c2⊢;refine bc eh Fq G2 fun aN=>?_;unfold BO;exact bO
 ·rw[h6 aK];rw[gU g]at c2;rw[g1]at aP;rw[g2]at a6;clear ec g aK g1 g2;obtain⟨n,bP,d,k,m⟩:=r;simp only[eQ.e]at c2⊢;refine bc eh Fq G2 fun aN=>?_;unfold BO;exact bO
 rw[gU g]at c2;rw[bI.fits_T,ab,hU]at aP;rw[bI.fits_T,aG,hU]at a6;rw[hU,hU];have bR:=vq r.n x;have dq:=vq r.n y;rw[show decide (gK r∧mz r.n [x.tm,y.tm])=(dw r.n x&&dw r.n y)from RF.2 aK];clear ec g ab aG aK;obtain⟨n,bP,d,k,m⟩:=r;simp only[eQ.e]at c2 bR dq⊢;generalize dw n x=p at bR;generalize dw n y=q at dq;cases p;all_goals refine bc eh Fq G2 fun aN=>?_;unfold BO
 all_goals simp
 all_goals(with_reducible repeat' first|refine aj ?_|refine aD c2 ?_|refine aE c2 ?_|refine aD aP ?_|refine aE aP ?_|refine aD a6 ?_|refine aE a6 ?_|refine aD bR ?_|refine aE bR ?_|refine aD dq ?_|refine aE dq ?_|simp)
 all_goals simp[bu,M3,aY,aZ,aW]
open Classical in
theorem an6(r:eQ)(ec:gA r.m→fX r.m)(a b:bI)(au:¬(gK r∧mz r.n [a,b]))(Gu jA:Int)(tag:List dm):bt al 117 [r.e,.int .i64 Gu,enc a,enc b,.int .i64 jA,.str tag] (e3 none):=by
 simp only[e3,hO,ht,gd,bS.e];have c2:=yW r ec;have aP:=w6 a;have a6:=w6 b;rcases YU r a b with⟨g,aK⟩|⟨g,g1,aK⟩|⟨g,g1,g2,aK⟩|⟨g,x,y,rfl,rfl,ab,aG,aK⟩
 ·skip;rw[h6 g]at c2;clear ec g aK aP a6;obtain⟨n,bP,d,k,m⟩:=r;simp only[eQ.e]at c2⊢;refine bc eh xy yu fun aN=>?_;unfold vD;simp;((with_reducible repeat' first|refine aj ?_|refine aD c2 ?_|refine aE c2 ?_|simp|((first|apply bK|apply bM|apply bL)<;>intro h<;>try simp at h))<;>(try exact cc));all_goals simp[bu,Hs,aY,aZ,aW]
 ·skip;rw[gU g]at c2;rw[g1]at aP;clear ec g aK g1 a6;obtain⟨n,bP,d,k,m⟩:=r;simp only[eQ.e]at c2⊢;refine bc eh xy yu fun aN=>?_;unfold vD;simp;((with_reducible repeat' first|refine aj ?_|refine aD c2 ?_|refine aE c2 ?_|refine aD aP ?_|refine aE aP ?_|simp|((first|apply bK|apply bM|apply bL)<;>intro h<;>try simp at h))<;>(try exact cc));all_goals simp[bu,Hs,aY,aZ,aW]
 ·skip;rw[gU g]at c2;rw[g1]at aP;rw[g2]at a6;clear ec g aK g1 g2;obtain⟨n,bP,d,k,m⟩:=r;simp only[eQ.e]at c2⊢;refine bc eh xy yu fun aN=>?_;unfold vD;simp;((with_reducible repeat' first|refine aj ?_|refine aD c2 ?_|refine aE c2 ?_|refine aD aP ?_|refine aE aP ?_|refine aD a6 ?_|refine aE a6 ?_|simp|((first|apply bK|apply bM|apply bL)<;>intro h<;>try simp at h))<;>(try exact cc));all_goals simp[bu,Hs,aY,aZ,aW]
 rw[gU g]at c2;rw[bI.fits_T,ab,hU]at aP;rw[bI.fits_T,aG,hU]at a6;rw[hU,hU];have bR:=vq r.n x;have dq:=vq r.n y;have bh:(dw r.n x&&dw r.n y)=false:=Bool.eq_false_iff.2 fun h=>au (aK.2 h);clear ec g ab aG aK au;obtain⟨n,bP,d,k,m⟩:=r;simp only[eQ.e]at c2 bR dq bh⊢;generalize dw n x=p at bR bh;generalize dw n y=q at dq bh;cases p
 ·refine bc eh xy yu fun aN=>?_;unfold vD;exact bO
 ·simp only[Bool.true_and]at bh;subst bh;refine bc eh xy yu fun aN=>?_;unfold vD;exact bO
noncomputable def HG(s:bS)(x y:T):ah:=match mgu s.b [(x,y)]with
 |none=>.tuple [gd.e,.bool false]
 |some b=>n5 {s with b:=b}
theorem al5(s:bS)(x y:T):∃t:bS,∃q:Bool,HG s x y= .tuple [t.e,.bool q]∧(q=true→mx s x y=some t)∧(q=false→mx s x y=none):=by
 unfold HG mx;cases mgu s.b [(x,y)]with
 |none=>exact⟨gd,false,rfl,(fun h=>by cases h),fun _=>rfl⟩
 |some b=>
  refine⟨_,_,rfl,(fun h=>?_),fun h=>?_⟩
  ·obtain⟨t,aL⟩:=fE.1 h;rw[HQ aL];exact aL
  ·rw[ju];cases e:gJ {s with b:=b}with
   |none=>rfl
   |some t=>rw[e]at h;cases h
theorem an0{s:bS}(h:ix s)(hm:fX s.m){x y:T}(ab:x.fit=true)(aG:y.fit=true)(bx:dw s.n x=true)(hx:dw s.n y=true)(jA:Int)(tag:List dm):bt al 115 [s.e,.int .i64 0,x.e,y.e,.int .i64 jA,.str tag] (HG s x y):=by
 have aP:=N5 s.b x y h.b.sol h.b.fits;unfold HG;cases hu:mgu s.b [(x,y)]with
 |none=>rw[hu]at aP;clear h hu;obtain⟨n,b,d,k,m⟩:=s;simp only[bS.e,fc,gd]at aP⊢;refine bc eh rA sc fun aN=>?_;unfold qG;exact bO
 |some bP=>rw[hu]at aP;obtain⟨G,hg,aX⟩:=hm;have a6:=Bl (h.bind ab aG bx hx hu) hg aX;simp only[n5]at a6⊢;generalize sk {s with b:=bP}=t at a6;generalize (gJ {s with b:=bP}).isSome=q at a6;clear h hu;obtain⟨n,b,d,k,m⟩:=s;obtain⟨iA,kN,kO,iz,tm⟩:=t;simp only[bS.e,fc]at aP a6⊢;refine bc eh rA sc fun aN=>?_;unfold qG;exact bO
theorem anM{x:List ao}(h:x.length≤1000000):bt al 178 [cC x] (cC x):=YE x h
theorem anX(t:List (List ao))(aL:∀x∈t,x.length≤1000000):bt al 179 [.slice 1 .no (t.map cC)] (.slice 1 .no (t.map cC)):=by
 refine bc eh adX aks fun aN=>?_;unfold Q8;have eV:t.length≤68719476736:=by simp[ey,ea,en,lim]at aN;omega
 clear aN;have c1:=fun x ab=>anM (aL x ab);simp;(with_reducible repeat' first|refine aj ?_|simp);refine hH (fun i (L:List (List ao))=>⟨[(7,.slice 1 .no (t.map cC)),(8,.int .i64 t.length),(3,.slice 1 (.own (.loc 0)) (L.map cC)),(9,.int .i64 i)],[],[(.loc 0,⟨L.length,46,1,none⟩)],1,[]⟩) t.length (fun i L=>L=t.take i) [] bW (by simp) (fun L af _=>?_) (fun i L hi af _=>?_)
 ·rw[mn]at af;subst af;exact bO
 ·obtain⟨x,ab,cD⟩:=dP hi;have wu:=c1 x (dZ ab);have aw:L.length≤i:=by rw[af];simp;omega
  clear c1;simp[hi,cD];(with_reducible repeat' first|refine aj ?_|refine aD wu ?_|refine aE wu ?_|simp[cD,hi]);all_goals first|(refine⟨by unfold lim;omega,?_⟩)|skip
  all_goals(with_reducible repeat' first|refine aj ?_|simp)
  all_goals refine bT.rng (L++[x]) hi (by rw[mQ ab,af]) ?_
  all_goals simp
  all_goals exact⟨by simp[fresh,aJ,aF,ck,inObs,Pv.look,uR],ee (by simp[fresh,aJ,aF,ck,inObs,Pv.look,uR]),ef (by simp[fresh,aJ,aF,dV,inObs,Pv.look,uR]),by simp⟩
theorem an4(s:bS)(ae:s.b.length≤1000000)(aR:∀x∈s.d,x.length≤1000000)(ad:s.k.length≤1000000)(hm:s.m.length≤68719470000):bt al 104 [s.e] s.e:=by
 have aP:=YE s.b ae;have a6:=anX s.d aR;obtain⟨n,b,d,k,m⟩:=s;simp only[bS.e]at aP a6 ad hm⊢;refine bc eh ad1 akw fun aN=>?_;unfold Rc;simp;(with_reducible repeat' first|refine aj ?_|refine aD aP ?_|refine aE aP ?_|refine aD a6 ?_|refine aE a6 ?_|simp);all_goals first|(refine⟨by unfold lim;omega,?_⟩)|skip
 exact bO
theorem aa8{s t:bS}(h:ix s){x y:T}(ab:x.fit=true)(aG:y.fit=true)(bx:dw s.n x=true)(hx:dw s.n y=true)(he:mx s x y=some t):jB t:=by unfold mx at he;obtain⟨b,J,U⟩:=kd.1 he;exact(yK (h.bind ab aG bx hx J) U).1
theorem DP{s t:bS}(hm:fX s.m)(he:gJ s=some t):fX t.m:=by
 obtain⟨G,hg,aX⟩:=hm;refine⟨G,hg,?_⟩;have:=HQ he;unfold gJ at he;split at he
 ·cases he
 ·split at he
  ·cases he
  ·rename_i m e;split at he
   ·cases he
   ·split at he
    ·have U:=Hw aX (fun x ab=>by simp at ab) e;have ar:=fq he;rw[←ar];exact NR U
    ·cases he
theorem aa9{s t:bS}(hm:fX s.m){x y:T}(he:mx s x y=some t):fX t.m:=by unfold mx at he;obtain⟨b,J,U⟩:=kd.1 he;exact DP (s:={s with b:=b}) hm U
open Classical in
theorem Oc{s:bS}(h:jB s)(hm:fX s.m){x y:T}(ab:x.fit=true)(aG:y.fit=true)(bx:dw s.n x=true)(hx:dw s.n y=true){Gu jA:Int}{tag:List dm}{F:Option bS}{t:bS}{q:Bool}
  (cS:bt al 115 [s.e,.int .i64 Gu,x.e,y.e,.int .i64 jA,.str tag] (.tuple [t.e,.bool q])) (aC:q=true→F=some t) (bk:q=false→F=none) (gp:F=some t→jB t∧fX t.m):bt al 117 [s.e,.int .i64 Gu,x.e,y.e,.int .i64 jA,.str tag] (e3 F):=by
 have c2:=yW s.r fun _=>hm;rw[gU ⟨s,rfl,h⟩,nH]at c2;have aP:=w6 x.tm;have a6:=w6 y.tm;rw[bI.fits_T,ab,hU]at aP;rw[bI.fits_T,aG,hU]at a6;have bR:=vq s.n x;have dq:=vq s.n y;rw[bx]at bR;rw[hx]at dq;cases q
 ·rw[bk rfl];clear h hm ab aG bx hx aC bk gp;obtain⟨n,b,d,k,m⟩:=s;obtain⟨iA,kN,kO,iz,tm⟩:=t;simp only[bS.e,e3,gd,hO,ht]at c2 bR dq cS⊢;refine bc eh xy yu fun aN=>?_;unfold vD;exact bO
 ·have aC:=aC rfl;obtain⟨aL,aX⟩:=gp aC;rw[aC];have C0:=an4 t aL.1.b.len (fun z bq=>(aL.1.d z bq).len) (by have:=nZ aL.1.k;omega) (aX.len aL.1.m);clear h hm ab aG bx hx aC bk aL gp aX;obtain⟨n,b,d,k,m⟩:=s;obtain⟨iA,kN,kO,iz,tm⟩:=t;simp only[bS.e,e3,h5,kS]at c2 bR dq cS C0⊢;refine bc eh xy yu fun aN=>?_;unfold vD;exact bO
theorem X4(r:na)(m:Int)(h:0≤m):qo r m≤m:=by
 have b1:=wZ r.b m h;unfold qo;split
 ·omega
 have b2:=vl wZ r.d (ie r.b m) (by omega);split
 ·omega
 have fN:=NO r.k (gP ie r.d (ie r.b m)) (by omega);split
 ·omega
 have ov:=vl D0 r.m (o2 r.k (gP ie r.d (ie r.b m))) (by omega);split<;>omega
def AE(s:List ao):Option (List ao)→List ao
 |none=>[]
 |some b=>eM s b
open Classical in
noncomputable def vF(s:List ao):Option (List ao)→Int
 |none=>1
 |some b=>if eM s b=[]then 2 else 0
noncomputable def nf(s:bS)(x y:T):Option bS:=match mgu s.b [(x,y)]with
 |none=>gJ s
 |some b=>if eM s.b b=[]then none else gJ {s with d:=s.d++[eM s.b b]}
theorem aiz{s b:List ao}(ag:eE s){E:List (T×T)}(hm:mgu s E=some b):eM s b=[]↔s=b:=by
 constructor
 ·intro h;have J:=Vu ag.sol ag.fits hm;rw[h,show hG []=[]from rfl,GP ag.sol ag.fits]at J;exact fq J
 ·rintro rfl;unfold eM;rw[List.filter_eq_nil_iff];intro c ay;rw[ud ag.sol.asc ay];simp
theorem ix.dif{s:bS}(h:ix s){x y:T}(ab:x.fit=true)(aG:y.fit=true)(bx:dw s.n x=true)(hx:dw s.n y=true){b:List ao}(hm:mgu s.b [(x,y)]=some b):ix {s with d:=s.d++[eM s.b b]}:=by
 have ae:=h.bind ab aG bx hx hm;refine⟨h.n,h.b,fun z bq=>?_,h.k,h.m,h.bb,fun z bq=>?_,h.kb,h.mb⟩
 ·rcases ka.1 bq with bq|bq
  ·exact h.d z bq
  ·rw[List.mem_singleton.1 bq];exact Dg ae.b
 ·rcases ka.1 bq with bq|bq
  ·exact h.db z bq
  ·rw[List.mem_singleton.1 bq];exact fun c ay=>ae.bb c (mV.1 ay).1
theorem aaU{s t:bS}(h:ix s){x y:T}(ab:x.fit=true)(aG:y.fit=true)(bx:dw s.n x=true)(hx:dw s.n y=true)(he:nf s x y=some t):jB t:=by
 unfold nf at he;cases hm:mgu s.b [(x,y)]with
 |none=>rw[hm]at he;exact(yK h he).1
 |some b=>
  rw[hm]at he;simp only at he;split at he
  ·cases he
  ·exact(yK (h.dif ab aG bx hx hm) he).1
theorem aaV{s t:bS}(hm:fX s.m){x y:T}(he:nf s x y=some t):fX t.m:=by
 unfold nf at he;cases hu:mgu s.b [(x,y)]with
 |none=>rw[hu]at he;exact DP hm he
 |some b=>
  rw[hu]at he;simp only at he;split at he
  ·cases he
  ·exact DP (s:={s with d:=s.d++[eM s.b b]}) hm he
theorem XD{s t:bS}(he:gJ s=some t):t.d.length≤30:=by
 unfold gJ at he;split at he
 ·cases he
 split at he
 ·cases he
 split at he
 ·cases he
 split at he
 ·rename_i h;have:=fq he;rw[←this];exact h
 ·cases he
open Classical in
noncomputable def Br(r:eQ)(a b:bI):Bool:=decide (∃s x y,r=s.r∧jB s∧mz s.n [a,b]∧a=T.tm x∧b=T.tm y∧nf s x y=none)
open Classical in
theorem OC{r:eQ}{a b:bI}(h:¬(gK r∧mz r.n [a,b])):Br r a b=false:=h6 fun⟨s,_,_,J,U,ar,_⟩=>h ⟨⟨s,J,U⟩,by rw[J];exact ar⟩
open Classical in
theorem Ek{s:bS}(h:jB s){x y:T}(aI:mz s.n [x.tm,y.tm]):Br s.r x.tm y.tm=(nf s x y).isNone:=by unfold Br;rw[RF,Option.isNone_iff_eq_none];refine⟨fun⟨ai,Ef,Oq,J,_,_,a8,b4,dd⟩=>?_,fun cx=>⟨s,x,y,rfl,h,aI,rfl,rfl,cx⟩⟩;rw[bS.r_inj J,D1 a8,D1 b4];exact dd
open Classical in
noncomputable def q1(s:bS)(t:T)(k:Int):Option bS:=if(k=2∨k=3)∧(t.ap (b7 s.b)).size≤5000 then(iV s.k (t.ap (b7 s.b)) k).bind fun l=>gJ {s with k:=l}else none
open Classical in
noncomputable def q4(s:bS)(t:T)(g:List dm):Option bS:=if(t.ap (b7 s.b)).size≤5000 then(jK s.m (t.ap (b7 s.b)) g).bind fun l=>gJ {s with m:=l}else none
def n9(m:List bj):Prop:= ∃G:List (List dm),G.length≤686999∧nI G m
theorem n9.w{m:List bj}(h:n9 m):fX m:=by obtain⟨G,J,U⟩:=h;exact⟨G,by omega,U⟩
theorem ix.apb{s:bS}(h:ix s){t:T}(uh:dw s.n t=true){w:Int}(hw:(t.ap (b7 s.b)).occ w=true):w<s.n:=by obtain⟨v,J,U⟩:=AG.1 hw;exact Lo h.b h.bb (vx.1 uh v J) U
theorem ix.apo{s:bS}(h:ix s){t:T}(aL:t.fit=true):(t.ap (b7 s.b)).ok=true:=DQ h.b.ok (T.fit_ok aL)
theorem ix.knd{s:bS}(h:ix s){t:T}(aL:t.fit=true)(uh:dw s.n t=true){k:Int}(ad:k=2∨k=3){l:List bJ}(he:iV s.k (t.ap (b7 s.b)) k=some l):ix {s with k:=l}:=⟨h.n,h.b,h.d,Ex h.k (h.apo aL) ad he,h.m,h.bb,h.db,fun x ab=>(IB he x ab).elim (h.kb x) fun e=>h.apb uh (by rw[e];simp[T.occ]),h.mb⟩
theorem ix.mrk{s:bS}(h:ix s){t:T}(aL:t.fit=true)(uh:dw s.n t=true){g:List dm}(aX:iv g=true){l:List bj}(he:jK s.m (t.ap (b7 s.b)) g=some l):ix {s with m:=l}:=⟨h.n,h.b,h.d,h.k,Ey h.m (h.apo aL) aX he,h.bb,h.db,h.kb,fun x ab=>((Av he x).1 ab).elim (h.mb x) fun e=>h.apb uh e.2⟩
theorem n9.mrk{m l:List bj}(h:n9 m){t:T}{g:List dm}(he:jK m t g=some l):fX l:=by obtain⟨G,J,U⟩:=h;exact⟨g::G,by simp only[pT];omega,Ez (fun x ab=>pa _ (U x ab)) (by simp) he⟩
theorem Lx{s u:bS}(h:ix s){t:T}(aL:t.fit=true)(uh:dw s.n t=true){k:Int}(he:q1 s t k=some u):jB u:=by
 unfold q1 at he;split at he
 ·rename_i g;obtain⟨l,J,U⟩:=kd.1 he;exact(yK (h.knd aL uh g.1 J) U).1
 ·cases he
theorem ahG{s u:bS}(hm:fX s.m){t:T}{k:Int}(he:q1 s t k=some u):fX u.m:=by
 unfold q1 at he;split at he
 ·obtain⟨l,J,U⟩:=kd.1 he;exact DP (s:={s with k:=l}) hm U
 ·cases he
theorem L2{s u:bS}(h:ix s){t:T}(aL:t.fit=true)(uh:dw s.n t=true){g:List dm}(aX:iv g=true)(he:q4 s t g=some u):jB u:=by
 unfold q4 at he;split at he
 ·obtain⟨l,J,U⟩:=kd.1 he;exact(yK (h.mrk aL uh aX J) U).1
 ·cases he
theorem aiq{s u:bS}(hm:n9 s.m){t:T}{g:List dm}(he:q4 s t g=some u):fX u.m:=by
 unfold q4 at he;split at he
 ·obtain⟨l,J,U⟩:=kd.1 he;exact DP (s:={s with m:=l}) (hm.mrk J) U
 ·cases he
noncomputable def h8:bS→List ao→Option bS
 |s,[]=>some s
 |s,x::r=>(mx s (.var x.v) x.t).bind fun t=>h8 t r
theorem E7(r:List ao):∀(l:List ao) (s:bS),h8 s (l++r)=(h8 s l).bind fun t=>h8 t r
 |[],s=>by simp[h8]
 |y::l,s=>by
  simp only[bX,h8];cases mx s (.var y.v) y.t with
  |none=>rfl
  |some t=>simp only[ju];exact E7 r l t
theorem Rm{s t:bS}{d:List ao}{j:Nat}{x:ao}(ab:d[j]? =some x)(h:h8 s (d.take j)=some t):h8 s (d.take (j+1))=mx t (.var x.v) x.t:=by rw[mQ ab,E7,h,ju];simp only[h8];cases mx t (.var x.v) x.t<;>rfl
theorem Rl{s:bS}{d:List ao}{j:Nat}{x:ao}(ab:d[j]? =some x)(h:h8 s (d.take j)=none):h8 s (d.take (j+1))=none:=by rw[mQ ab,E7,h,Option.bind_none]
theorem Rn{s:bS}{d:List ao}{j:Nat}(h:h8 s (d.take j)=none):h8 s d=none:=by rw[←List.take_append_drop j d,E7,h,Option.bind_none]
structure qE (n:Int) (x:ao):Prop where
 f1:(T.var x.v).fit=true
 f2:x.t.fit=true
 b1:dw n (.var x.v)=true
 b2:dw n x.t=true
theorem B5{v:Int}(h:0≤v∧v≤100000):(T.var v).fit=true:=by simp[T.fit,T.ok,T.size,h]
theorem BG{n v:Int}(h:v<n):dw n (.var v)=true:=vx.2 fun w hw=>by simp[T.occ]at hw;omega
theorem ED{n:Int}{l:List ao}(ag:eE l)(ae:pk l n){x:ao}(ab:x∈l):qE n x:=⟨B5 (ag.ok x ab).1,ag.fit x ab,BG (ae x ab).1,vx.2 (ae x ab).2⟩
structure rE (n:Int) (t:bS):Prop where
 ok:jB t
 tg:fX t.m
 n:t.n=n
theorem rE.equ{n:Int}{s t:bS}(h:rE n s){x:ao}(ab:qE n x)(he:mx s (.var x.v) x.t=some t):rE n t:=by obtain⟨J,U,ar⟩:=h;obtain⟨f1,f2,b1,b2⟩:=ab;subst ar;refine⟨aa8 J.1 f1 f2 b1 b2 he,aa9 U he,?_⟩;unfold mx at he;obtain⟨b,ak,aC⟩:=kd.1 he;exact(yK (J.1.bind f1 f2 b1 b2 ak) aC).2.1
theorem EC{n:Int}{s:bS}(h:rE n s){x:ao}(ab:qE n x):qE s.n x:=by rw[h.n];exact ab
end Go.Proofs.YtahlgcidhnjlbaaGreat
namespace Go.Pv
open Go Go.RowKit
mutual
def kM(k:aH)(m:Nat):ah→ah
 | .slice sz tag xs=>.slice sz (if tag= .own k then .own (.obj m)else .no) (cW xs)
 | .agg cs=>.agg (tB k m cs)
 | .tuple cs=>.tuple (tB k m cs)
 |p=>dr p
def tB(k:aH)(m:Nat):List ah→List ah
 |[]=>[]
 |c::cs=>kM k m c::tB k m cs
end
section
variable {w:World} {ν μ:bf} {k:aH} {m:Nat} (ax:oo (fun _=>eA) w ν w μ) (ad:∀n v,ν.ow k=some (n,v)→μ.ow (.obj m)=some (n,v))
include ax ad
mutual
theorem Na:∀(p:ah) (v:Value),aF (fun _=>eA) (dr p)→ba w ν p v→ba w μ (kM k m p) v
 | .slice sz tag xs,v,au,h=>by
  have U:=kp ax _ _ au (k3 _ _ h);simp only[kM];split
  ·rename_i e;simp only[ba,dr]at h U⊢;refine⟨U.1,(fun e=>by cases e),fun g Jt=>?_,(fun _ _ e=>by cases e),fun _ e=>by cases e⟩;cases Jt;obtain⟨n',u,ak,aC,bk⟩:=h.2.2.1 k e;exact⟨n',u,ad _ _ ak,by rw[sn];exact aC,by rw[sn];exact bk⟩
  ·exact U
 | .agg cs,v,au,h=>by simp only[ba,aF,kM,dr]at h au⊢;obtain⟨us,J,U⟩:=h;exact⟨us,J,Xg cs us.toList au U⟩
 | .tuple cs,v,au,h=>by simp only[ba,aF,kM,dr]at h au⊢;obtain⟨us,J,U⟩:=h;exact⟨us,J,Xh cs us.toList au U⟩
 | .junk,_,_,_=>by simp[kM,dr,ba]
 | .int k n,v,au,h=>by have:=kp ax _ _ au (k3 _ _ h);simpa only[kM]using this
 | .bool b,v,au,h=>by have:=kp ax _ _ au (k3 _ _ h);simpa only[kM]using this
 | .str s,v,au,h=>by have:=kp ax _ _ au (k3 _ _ h);simpa only[kM]using this
 | .ptr a b,v,au,h=>by have:=kp ax _ _ au (k3 _ _ h);simpa only[kM]using this
 | .eptr x,v,au,h=>by have:=kp ax _ _ au (k3 _ _ h);simpa only[kM]using this
 | .iface t x,v,au,h=>by have:=kp ax _ _ au (k3 _ _ h);simpa only[kM]using this
 | .nilp,v,au,h=>by have:=kp ax _ _ au (k3 _ _ h);simpa only[kM]using this
 | .func f c,v,au,h=>by have:=kp ax _ _ au (k3 _ _ h);simpa only[kM]using this
 | .gmap x,v,au,h=>by have:=kp ax _ _ au (k3 _ _ h);simpa only[kM]using this
 | .row a b c,v,au,h=>by have:=kp ax _ _ au (k3 _ _ h);simpa only[kM]using this
 | .rptr a b c d e,v,au,h=>by have:=kp ax _ _ au (k3 _ _ h);simpa only[kM]using this
 | .hdm a b,v,au,h=>by have:=kp ax _ _ au (k3 _ _ h);simpa only[kM]using this
 | .hdi a b c,v,au,h=>by have:=kp ax _ _ au (k3 _ _ h);simpa only[kM]using this
 | .cst a,v,au,h=>by have:=kp ax _ _ au (k3 _ _ h);simpa only[kM]using this
theorem Xg:∀(cs:List ah) (us:List Value),aJ (fun _=>eA) (cW cs)→c5 w ν cs us→c5 w μ (tB k m cs) us
 |[],us,_,h=>by simpa only[tB,c5]using h
 |c::cs,us,au,h=>by simp only[c5,cW,aJ,tB]at h au⊢;obtain⟨u,ch,J,⟨U,ar⟩,a8⟩:=h;exact⟨u,ch,J,⟨Na c u au.1 U,ar⟩,Xg cs ch au.2 a8⟩
theorem Xh:∀(cs:List ah) (us:List Value),aJ (fun _=>eA) (cW cs)→cM w ν cs us→cM w μ (tB k m cs) us
 |[],us,_,h=>by simpa only[tB,cM]using h
 |c::cs,us,au,h=>by simp only[cM,cW,aJ,tB]at h au⊢;obtain⟨u,ch,J,U,a8⟩:=h;exact⟨u,ch,J,Na c u au.1 U,Xh cs ch au.2 a8⟩
end
end
def OI(eN:List bB)(k:aH)(m:Nat)(Q:ah→fL→Prop)(e:Exit)(st:bs):Prop:=
 (e= .ret∨e= .normal)∧match aY st eN with
  |some (c,cm)=>c∧∃o,look k st.e=some o∧o.xs=none∧aF (fun _=>eA) (dr (aW cm))∧Q (kM k m (aW cm)) o
  |none=>eA
theorem bV.ofN{P:cF}(hm:P.follows .mixedOrders=true){bC:List (Nat×dI)}(aL:fU P bC=true){f:FuncId}{fn:Func}(aI:P.funcs[f]? =some fn){c:C}{eN:List bB}{n:Nat}(eJ:bY bC c eN n fn=true)
  {args:List ah} (aw:args.length≤n) (k:aH) (m:Nat) {Q:ah→fL→Prop} (he:ey args→c0 P [] c (OI eN k m Q) ⟨jW 0 args,[],[],0,[]⟩):bV P f args ⟨[],[]⟩ fun r ai=> ∃o,Q r o∧ai=⟨[],[(.obj m,o)]⟩:=by
 unfold bY at eJ;split at eJ;rotate_left
 ·cases eJ
 rename_i code ae;simp only[cE,sx,fK]at eJ;obtain⟨⟨⟨ay,z1⟩,zT⟩,a8⟩:=eJ;replace aw:=kc aw a8;intro w ν be aX ab aM;refine .inl ⟨⟨fn,aI,by simp[ae],by assumption⟩,?_⟩;have oR:=yE aM;have kE:be.size=args.length:=by simpa using oR
 let X:fh:=⟨w,ν,fm ν ⟨[],[]⟩,fn.ntmps,[]⟩
 have Gb:∀k,ν.bx k=none:=fun k=>(ab k).1 rfl;have qY:∀k,ν.ow k=none:=fun k=>(ab k).2.1 rfl;have Gc:∀k j b,¬ν.tr k j b:=fun k=>(ab k).2.2;have oO:cR X ⟨jW 0 args,[],[],0,[]⟩ {tmps:=be++Array.replicate (fn.ntmps-be.size) undef,defers:=[]} w ν:=by
  refine⟨⟨aX.alt,fun k cs ad=>(by simp[look]at ad),aX.inj,fun g o de=>(by simp[look]at de),aX.oinj,aX.obx,aX.one,aX.otr⟩,⟨rfl,rfl,rfl,eY _,fun _ _ _=>rfl,fun b o h=>⟨h,rfl⟩,fun b o h=>.inl h,fun n b h=>h,fun n b h=>(by rw[Gb]at h;cases h),fun m n u h=>⟨n,u,h,.inl ⟨rfl,rfl⟩⟩,fun m n u h=>(by rw[qY]at h;cases h),fun k j _ _ b h=>absurd h (Gc k j b),fun k j b h=>absurd h (Gc k j b),fun k j b h=>absurd h (Gc k j b),fun _ _ _=>rfl⟩,rfl,?_,fun i=>?_,fun k _=>⟨Gb k,qY k,Gc k⟩⟩
  ·show(be++Array.replicate (fn.ntmps-be.size) undef).size=fn.ntmps;simp;omega
  ·rw[FB];by_cases hi:i<args.length
   ·rw[if_pos (by omega)];have qR:args[i]? =some args[i]:=cl hi;obtain⟨v,ak,aC⟩:=DJ i aM qR;have aK:(be++Array.replicate (fn.ntmps-be.size) undef).getD i undef=v:=by
     have BQ:be[i]? =some v:=by simpa using ak
     rw[Array.getD_eq_getD_getElem?,Array.getElem?_append_left (by omega),BQ];rfl
    show ba w ν _ ((be++Array.replicate (fn.ntmps-be.size) undef).getD i undef);rw[aK];simpa[List.getD,qR]using aC
   ·rw[if_neg (by omega)];simp[ba]
 have K8:=qL hm aL (X:=X) c code (OI eN k m Q) _ ay (he (Nf aM)) _ w ν oO;refine calls_of_wp aI ae (wp_mono K8 fun e bp w' cP=>?_);obtain⟨st',bo,⟨rP,bh⟩,dp⟩:=cP;cases rV:aY st' eN with
 |none=>simp[rV]at bh
 |some x=>
  obtain⟨ct,cm⟩:=x;simp only[rV]at bh;obtain⟨hh,o,afT,hY,cZ,df⟩:=bh;obtain⟨nG,g1,g2⟩:=HI aL dp eN fn.results.toList ct cm (by assumption) rV hh;have KT:=yE g2;obtain⟨v,us,gG,gD,oX,asb⟩:=dp.good.own k o afT;let μ:bf:={A:=bo.A,bx:=fun _=>none,ow:=fun j=>if j= .obj m then bo.ow k else none,tr:=fun _ _ _=>eA}
  have agT:μ.ow (.obj m)=some (o.n,v):=by simp[μ,gG]
  have c7:bp.defers=[]∧∃v,(results fn bp.tmps).run P w'= .ok v w'∧(fun(e:Ending) w'=> ∃v r ai bo,e= .returned v∧(∃o,Q r o∧ai=⟨[],[(.obj m,o)]⟩)∧ba w' bo r v∧Good (fun bl=>fm ν ⟨[],[]⟩ bl∨w.heap.size≤bl) w' bo ai.b ai.e∧oD bo ai∧iL ai∧pW ⟨w,ν,fm ν ⟨[],[]⟩,0,cV ⟨[],[]⟩⟩ w' bo) (.returned v) w':=by
   refine⟨dp.defers,?_⟩;have ir:(results fn bp.tmps).run P w'= .ok (if h:nG.toArray.size=1 then nG.toArray[0]else .tuple nG.toArray) w':=by rw[Xu];simp only[fJ,Array.mapM_eq_mapM_toList,Sem.run_map,g1,fR,gu]
   refine⟨_,ir,_,kM k m (aW cm),⟨[],[(.obj m,o)]⟩,μ,rfl,⟨o,df,rfl⟩,?_,?_,?_,?_,?_⟩
   ·have lL:ba w' bo (aW cm) (if h:nG.toArray.size=1 then nG.toArray[0]else .tuple nG.toArray):=by
     match cm,nG,g2,KT with
     |[p],[v],g2,_=>simp only[cM]at g2;obtain⟨u,ch,ak,aC,_⟩:=g2;cases ak;simpa[aW]using aC
     |[],[],g2,_=>simp[aW,ba,cM]
     |p::dy::cm,v::v2::nG,g2,_=>rw[dif_neg (by simp)];simp only[aW,ba];exact⟨_,rfl,by simpa using g2⟩
     |[_],[],_,h=>simp at h
     |[],_::_,_,h=>simp at h
     |[_],_::_::_,_,h=>simp at h
     |_::_::_,[],_,h=>simp at h
     |_::_::_,[_],_,h=>simp at h
    refine Na (ν:=bo) (μ:=μ) (k:=k) (m:=m) ⟨fun b o h=>⟨h,rfl⟩,fun _ _ h=>h.elim,fun _ _ _ h=>h.elim,fun _ _ _=>rfl,fun _ _ _ h=>h.elim⟩ (fun n v h=>?_) _ _ cZ lL;simp[μ,h]
   ·have hM:∀g x,look g [(aH.obj m,o)]=some x→g= .obj m∧x=o:=fun g x h=>by
     simp only[look]at h;split at h
     ·rename_i e;exact⟨e.symm,(fq h).symm⟩
     ·cases h
    have Ty:∀g,(look g [(aH.obj m,o)]).isSome→g= .obj m:=fun g h=>by obtain⟨x,ab⟩:=fE.1 h;exact(hM g x ab).1
    refine⟨dp.good.alt,fun k cs ad=>(by simp[look]at ad),fun k bH bl J=>(by simp[look]at J),fun g x afI=>?_,fun g e9 n n' v v' bl J U _ _ _ _=>(by rw[Ty g J,Ty e9 U]),fun g k n v bl J U=>(by simp[look]at U),fun _=>.inl rfl,fun _ _ _ _ h=>h⟩;obtain⟨rfl,rfl⟩:=hM g x afI;exact⟨v,us,agT,gD,oX,fun xs h=>by rw[hY]at h;cases h⟩
   ·intro j;refine⟨fun _=>rfl,fun h=>?_,fun _ _ h=>h⟩;have:j≠ .obj m:=fun e=>by subst e;simp[look]at h
    simp[μ,this]
   ·exact⟨fun _=>rfl,fun _=>by simp[look]⟩
   ·exact⟨dp.fr.os,dp.fr.tape,dp.fr.output,dp.fr.size,dp.fr.block,dp.fr.keep,dp.fr.fresh,fun n b h=>(by rw[Gb]at h;cases h),fun n b h=>(by rw[Gb]at h;cases h),fun m n u h=>(by rw[qY]at h;cases h),fun m n u h=>(by rw[qY]at h;cases h),fun _ _ _ _ _ h=>h.elim,fun _ _ _ h=>h.elim,fun _ _ _ h=>h.elim,dp.fr.sh⟩
  rcases rP with rfl|rfl<;>exact c7
end Go.Pv
namespace Go.Proofs.YtahlgcidhnjlbaaGreat
open Go Go.Pv
open Classical in
theorem aob{s b:List ao}(ag:eE s)(ae:eE b){E:List (T×T)}(hm:mgu s E=some b):bt al 187 [.slice 5 .no (s.map ao.e),.slice 5 .no (b.map ao.e),.bool true] (.tuple [.slice 5 .no ((eM s b).map ao.e),.int .i64 (vF s (some b))]):=by
 have aP:=N2 s b ag.len;have a6:=Yp ag ae;have au:=aiz ag hm;simp only[vF];by_cases g:s=b
 ·rw[gU g]at aP;rw[if_pos (au.2 g),au.2 g];clear a6 ag ae hm au g;refine bc eh JM Mj fun aN=>?_;unfold ES;exact bO
 ·rw[h6 g]at aP;rw[if_neg fun h=>g (au.1 h)];generalize eM s b=w at a6;clear ag ae hm au g;refine bc eh JM Mj fun aN=>?_;unfold ES;exact bO
theorem aoc(s:List ao):bt al 187 [.slice 5 .no (s.map ao.e),.slice 5 .no [],.bool false] (.tuple [.slice 5 .no [],.int .i64 1]):=by refine bc eh JM Mj fun aN=>?_;unfold ES;exact bO
open Classical in
theorem ang{s:List ao}(ag:eE s){x y:T}(ab:x.fit=true)(aG:y.fit=true):bt al 122 [.slice 5 .no (s.map ao.e),x.e,y.e] (.tuple [.slice 5 .no ((AE s (mgu s [(x,y)])).map ao.e),.int .i64 (vF s (mgu s [(x,y)]))]):=by
 have c2:=o5 ag;have aP:=yV ab;have a6:=yV aG;have bR:=Ys ag ab aG;cases hm:mgu s [(x,y)]with
 |none=>rw[hm]at bR;have dq:=aoc s;clear ag ab aG hm;simp only[fc,hO,ht,mU,AE,vF]at bR⊢;refine bc eh RW VN fun aN=>?_;unfold IQ;exact bO
 |some b=>rw[hm]at bR;have dq:=aob ag (ag.mgu (by simp[T.fit_ok ab,T.fit_ok aG]) hm) hm;simp only[AE];generalize vF s (some b)=c at dq;generalize eM s b=w at dq;clear ag ab aG hm;simp only[fc,h5,kS]at bR⊢;refine bc eh RW VN fun aN=>?_;unfold IQ;exact bO
def AO(s:bS):ah:= .agg [.int .i64 s.n,.slice 5 .no (s.b.map ao.e),.slice 1 (.own (.obj 841)) (s.d.map cC),.slice 2 .no (s.k.map bJ.e),.slice 2 .no (s.m.map bj.e)]
theorem aeu(s:bS)(ae:s.b.length≤1000000)(aR:∀x∈s.d,x.length≤1000000)(ad:s.k.length≤1000000)(hm:s.m.length≤68719470000):bV al 105 [s.e] ⟨[],[]⟩ fun r ai=> ∃o,(r=AO s∧o=⟨s.d.length,46,1,none⟩)∧ai=⟨[],[(.obj 841,o)]⟩:=by
 obtain⟨n,b,d,k,m⟩:=s;simp only[bS.e,AO]at ae aR ad hm⊢;have fO:=D7 b ae;refine bV.ofN mixed eh R5 VU (by simp) (.loc 13) 841 fun aN=>?_;unfold IZ;have eV:d.length≤68719476736:=by simp[ey,ea,en,lim]at aN;omega
 clear aN;simp;(with_reducible repeat' first|refine aj ?_|refine aD fO ?_|refine aE fO ?_|simp);refine hH (fun i (L:List (List ao))=>⟨[(1,.ptr (.loc 0) 0),(2,.ptr (.loc 1) 0),(3,.ptr (.loc 5) 0),(14,.slice 1 .no (d.map cC)),(15,.int .i64 d.length),(16,.int .i64 i)],[(.loc 0,[.int .i64 n,.slice 5 .no (b.map ao.e),.slice 1 .no (d.map cC),.slice 2 .no (k.map bJ.e),.slice 2 .no (m.map bj.e)]),(.loc 1,[.int .i64 0,.slice 5 .nil [],.slice 1 .nil [],.slice 2 .nil [],.slice 2 .nil []]),(.loc 5,[.int .i64 n,.slice 5 .no (b.map ao.e),.slice 1 (.own (.loc 13)) (L.map cC),.slice 2 .nil [],.slice 2 .nil []])],[(.loc 13,⟨L.length,46,1,none⟩)],41,[]⟩) d.length (fun i L=>L=d.take i) [] bW (by simp) (fun L af _=>?_) (fun i L hi af _=>?_)
 ·rw[mn]at af;subst af;simp;(with_reducible repeat' first|refine aj ?_|simp);all_goals first|(refine⟨by unfold lim;omega,?_⟩)|skip
  (with_reducible repeat' first|refine aj ?_|simp);all_goals refine⟨.inl rfl,?_⟩
  all_goals simp[WD,aY,aZ,aW,kM,tB,Pv.look,aF,aJ]
 ·obtain⟨x,ab,cD⟩:=dP hi;have wu:=Yv (aR x (dZ ab));have aw:L.length≤i:=by rw[af];simp;omega
  simp[hi,cD];(with_reducible repeat' first|refine aj ?_|refine aD wu ?_|refine aE wu ?_|simp[cD,hi]);all_goals first|(refine⟨by unfold lim;omega,?_⟩)|skip
  (with_reducible repeat' first|refine aj ?_|simp);refine bT.rng (L++[x]) hi (by rw[mQ ab,af]) ?_;simp;exact⟨by simp[fresh,aJ,aF,ck,inObs,Pv.look,uR],ee (by simp[fresh,aJ,aF,ck,inObs,Pv.look,uR]),ef (by simp[fresh,aJ,aF,dV,inObs,Pv.look,uR]),by simp⟩
open Classical in
theorem anf{s:bS}(h:jB s)(hm:fX s.m){x y:T}(ab:x.fit=true)(aG:y.fit=true)(bx:dw s.n x=true)(hx:dw s.n y=true):bt al 55 [s.e,x.e,y.e] (e3 (nf s x y)):=by
 have aP:=Yy h hm ab aG bx hx;have a6:=ang h.1.b ab aG;have bR:=aeu s h.1.b.len (fun z bq=>(h.1.d z bq).len) (by have:=nZ h.1.k;omega) (hm.len h.1.m);obtain⟨G,hg,aX⟩:=hm;have aR:=XD h.2;unfold nf;cases hu:mgu s.b [(x,y)]with
 |none=>rw[hu]at a6;have dq:=Bn h.1 hg aX;simp only;generalize gJ s=O at dq;clear h hu;obtain⟨n,b,d,k,m⟩:=s;simp only[bS.e,AO,AE,vF,e3,mU]at aP a6 bR dq⊢;refine bc eh JE Mb fun aN=>?_;unfold EJ;clear aN;simp;(with_reducible repeat' first|refine aj ?_|refine aD aP ?_|refine aE aP ?_|refine aD a6 ?_|refine aE a6 ?_|simp);refine c9.new bR (ej.of u3 (by simp) (by simp)) aT aT (by simp) ?_;rintro r ai ⟨o,⟨rfl,rfl⟩,rfl⟩;refine⟨fun m hm=>.inr (by simp),?_⟩;simp[AO,cz];exact bO
 |some bP=>
  rw[hu]at a6;by_cases au:eM s.b bP=[]
  ·simp only[if_pos au];simp only[AE,vF,if_pos au,au,mU]at a6;clear h hu bR au;obtain⟨n,b,d,k,m⟩:=s;simp only[bS.e,e3,hO,ht,gd]at aP a6⊢;refine bc eh JE Mb fun aN=>?_;unfold EJ;exact bO
  ·simp only[if_neg au];simp only[AE,vF,if_neg au]at a6;have dq:=Bn (h.1.dif ab aG bx hx hu) hg aX;generalize eM s.b bP=w at a6 dq;generalize gJ {s with d:=s.d++[w]}=O at dq;clear h hu;obtain⟨n,b,d,k,m⟩:=s;simp only[bS.e,AO,e3]at aP a6 bR dq⊢;generalize uz:d++[w]=D at dq;have hw:cC w= .slice 5 .no (w.map ao.e):=rfl;refine bc eh JE Mb fun aN=>?_;unfold EJ;clear aN;simp only at aR;simp;(with_reducible repeat' first|refine aj ?_|refine aD aP ?_|refine aE aP ?_|refine aD a6 ?_|refine aE a6 ?_|simp);refine c9.new bR (ej.of u3 (by simp) (by simp)) aT aT (by simp) ?_;rintro r ai ⟨o,⟨rfl,rfl⟩,rfl⟩;refine⟨fun m hm=>.inr (by simp),?_⟩;simp[AO,cz];(with_reducible repeat' first|refine aj ?_|simp);all_goals first|(refine⟨by unfold lim;omega,?_⟩)|skip
   rw[←hw,pq,Fb,uz];((with_reducible repeat' first|refine aj ?_|refine aD dq ?_|refine aE dq ?_|simp|((first|apply bK|apply bM|apply bL)<;>intro h<;>try simp at h))<;>(try exact cc));all_goals simp[bu,Wq,aY,aZ,aW]
open Classical in
theorem anh(r:eQ)(ec:gA r.m→fX r.m)(a b:bI):bt al 39 [r.e,enc a,enc b] (.bool (Br r a b)):=by
 have aP:=N3 r ec [a,b];simp only[gS,mU]at aP;by_cases g:gK r∧mz r.n [a,b];rotate_left
 ·rw[OC g];rw[h6 g]at aP;clear g ec;obtain⟨n,bP,d,k,m⟩:=r;simp only[eQ.e]at aP⊢;refine bc eh RX VO fun aN=>?_;unfold IS;exact bO
 rw[gU g]at aP;obtain⟨⟨s,rfl,ag⟩,aI⟩:=g;obtain⟨x,rfl,_⟩:=bI.fits_ex (zu aI a (by simp));obtain⟨y,rfl,_⟩:=bI.fits_ex (zu aI b (by simp));obtain⟨⟨ab,aG⟩,bx,hx⟩:=JY aI;have hm:fX s.m:=ec ag.1.m;have a6:=anf ag hm ab aG bx hx;rw[Ek ag aI];generalize nf s x y=O at a6;rw[nH,hU,hU]at aP;rw[nH,hU,hU];clear ec aI ag ab aG bx hx;obtain⟨n,b,d,k,m⟩:=s;cases O<;>simp only[bS.e,e3,Option.isSome,Option.isNone]at aP a6⊢;all_goals refine bc eh RX VO fun aN=>?_;unfold IS
 all_goals simp
 all_goals(with_reducible repeat' first|refine aj ?_|refine aD aP ?_|refine aE aP ?_|refine aD a6 ?_|refine aE a6 ?_|simp)
 all_goals simp[bu,Wr,aY,aZ,aW]
open Classical in
theorem Yz{s:bS}(h:jB s)(hm:fX s.m){x:T}(ab:x.fit=true)(bx:dw s.n x=true):bt al 96 [s.e,.slice 4 .no [x.e]] (.bool true):=by have:=N3 s.r (fun _=>hm) [x.tm];rw[gU ⟨⟨s,rfl,h⟩,⟨[x],rfl,by simp[ab],fun t aL=>by rw[List.mem_singleton.1 aL];exact bx⟩⟩,nH]at this;simpa[hU]using this
open Classical in
theorem ank{s:bS}(h:jB s)(hm:fX s.m){x:T}(ab:x.fit=true)(bx:dw s.n x=true)(k:Int):bt al 49 [s.e,x.e,.int .i64 k] (e3 (q1 s x k)):=by
 have aP:=Yz h hm ab bx;have a6:=Yk h.1.b h.1.k x ab k;have bR:=N1 s h.1.b.len (fun z bq=>(h.1.d z bq).len) (by have:=nZ h.1.k;omega) (hm.len h.1.m);unfold q1;by_cases g:(k=2∨k=3)∧(x.ap (b7 s.b)).size≤5000
 ·rw[if_pos g]at a6;rw[if_pos g];cases hu:iV s.k (x.ap (b7 s.b)) k with
  |none=>rw[hu]at a6;clear h bR hu g;obtain⟨n,b,d,bH,m⟩:=s;simp only[bS.e,fP,e3,Option.bind_none,hO,ht,gd]at aP a6⊢;refine bc eh JF Mc fun aN=>?_;unfold EK;exact bO
  |some l=>rw[hu]at a6;obtain⟨G,hg,aX⟩:=hm;have dq:=Bn (h.1.knd ab bx g.1 hu) hg aX;rw[ju];generalize gJ {s with k:=l}=O at dq;clear h hu g;obtain⟨n,b,d,bH,m⟩:=s;simp only[bS.e,fP,e3,h5,kS]at aP a6 bR dq⊢;refine bc eh JF Mc fun aN=>?_;unfold EK;exact bO
 ·rw[if_neg g];rw[if_neg g]at a6;clear h bR g;obtain⟨n,b,d,bH,m⟩:=s;simp only[bS.e,fP,e3,Option.bind_none,hO,ht,gd]at aP a6⊢;refine bc eh JF Mc fun aN=>?_;unfold EK;exact bO
open Classical in
theorem ann{s:bS}(h:jB s)(hm:n9 s.m){x:T}(ab:x.fit=true)(bx:dw s.n x=true){g:List dm}(aX:iv g=true):bt al 51 [s.e,x.e,.str g] (e3 (q4 s x g)):=by
 have aP:=Yz h hm.w ab bx;have aw:=hm.w.len h.1.m;have a6:=Yj h.1.b h.1.m aw x ab aX;have bR:=N1 s h.1.b.len (fun z bq=>(h.1.d z bq).len) (by have:=nZ h.1.k;omega) aw;unfold q4;by_cases g1:(x.ap (b7 s.b)).size≤5000
 ·rw[if_pos g1]at a6;rw[if_pos g1];cases hu:jK s.m (x.ap (b7 s.b)) g with
  |none=>rw[hu]at a6;clear h bR hu g1 aw hm;obtain⟨n,b,d,bH,m⟩:=s;simp only[bS.e,h3,e3,Option.bind_none,hO,ht,gd]at aP a6⊢;refine bc eh JG Md fun aN=>?_;unfold EL;exact bO
  |some l=>rw[hu]at a6;obtain⟨G,hg,oK⟩:=hm.mrk hu;have dq:=Bn (h.1.mrk ab bx aX hu) hg oK;rw[ju];generalize gJ {s with m:=l}=O at dq;clear h hu g1 aw hm;obtain⟨n,b,d,bH,m⟩:=s;simp only[bS.e,h3,e3,h5,kS]at aP a6 bR dq⊢;refine bc eh JG Md fun aN=>?_;unfold EL;exact bO
 ·rw[if_neg g1];rw[if_neg g1]at a6;clear h bR g1 aw hm;obtain⟨n,b,d,bH,m⟩:=s;simp only[bS.e,h3,e3,Option.bind_none,hO,ht,gd]at aP a6⊢;refine bc eh JG Md fun aN=>?_;unfold EL;exact bO
theorem HH(s:bS):∃t:bS,∃q:Bool,n5 s= .tuple [t.e,.bool q]∧(q=true→gJ s=some t)∧(q=false→gJ s=none):=by
 refine⟨_,_,rfl,(fun h=>?_),fun h=>?_⟩
 ·obtain⟨t,aL⟩:=fE.1 h;rw[HQ aL];exact aL
 ·cases e:gJ s with
  |none=>rfl
  |some t=>rw[e]at h;cases h
open Classical in
noncomputable def HF(s:bS)(x y:T):ah:=match mgu s.b [(x,y)]with
 |none=>n5 s
 |some b=>if eM s.b b=[]then .tuple [gd.e,.bool false]else n5 {s with d:=s.d++[eM s.b b]}
theorem al4(s:bS)(x y:T):∃t:bS,∃q:Bool,HF s x y= .tuple [t.e,.bool q]∧(q=true→nf s x y=some t)∧(q=false→nf s x y=none):=by
 unfold HF nf;cases mgu s.b [(x,y)]with
 |none=>exact HH s
 |some b=>
  by_cases h:eM s.b b=[]
  ·simp only[if_pos h];exact⟨gd,false,rfl,(fun h=>by cases h),fun _=>trivial⟩
  ·simp only[if_neg h];exact HH _
theorem an1{s:bS}(h:ix s)(aR:s.d.length≤30)(hm:fX s.m){x y:T}(ab:x.fit=true)(aG:y.fit=true)(bx:dw s.n x=true)(hx:dw s.n y=true)(jA:Int)(tag:List dm):bt al 115 [s.e,.int .i64 1,x.e,y.e,.int .i64 jA,.str tag] (HF s x y):=by
 have aP:=N5 s.b x y h.b.sol h.b.fits;obtain⟨G,hg,aX⟩:=hm;unfold HF;cases hu:mgu s.b [(x,y)]with
 |none=>rw[hu]at aP;have a6:=Bl h hg aX;simp only[n5]at a6⊢;generalize sk s=t at a6;generalize (gJ s).isSome=q at a6;clear h hu;obtain⟨n,b,d,k,m⟩:=s;obtain⟨iA,kN,kO,iz,tm⟩:=t;simp only[bS.e,fc]at aP a6⊢;refine bc eh rA sc fun aN=>?_;unfold qG;simp;((with_reducible repeat' first|refine aj ?_|refine aD aP ?_|refine aE aP ?_|refine aD a6 ?_|refine aE a6 ?_|simp|((first|apply bK|apply bM|apply bL)<;>intro h<;>try simp at h))<;>(try exact cc));all_goals simp[bu,Hq,aY,aZ,aW]
 |some bP=>
  rw[hu]at aP;have bR:=N4 h.b (h.bind ab aG bx hx hu).b;simp only at bR;by_cases au:eM s.b bP=[]
  ·simp only[if_pos au];rw[au]at bR;clear h hu;obtain⟨n,b,d,k,m⟩:=s;simp only[bS.e,fc,gd,cC,mU]at aP bR⊢;refine bc eh rA sc fun aN=>?_;unfold qG;simp only at aR;simp;((with_reducible repeat' first|refine aj ?_|refine aD aP ?_|refine aE aP ?_|refine aD bR ?_|refine aE bR ?_|simp|((first|apply bK|apply bM|apply bL)<;>intro h<;>try simp at h))<;>(try exact cc));all_goals simp[bu,Hq,aY,aZ,aW]
   all_goals(unfold lim;omega)
  ·simp only[if_neg au];have a6:=Bl (h.dif ab aG bx hx hu) hg aX;have aw:0<(eM s.b bP).length:=List.length_pos_iff.2 au;generalize eM s.b bP=w at a6 bR aw au⊢;simp only[n5]at a6⊢;generalize sk {s with d:=s.d++[w]}=t at a6;generalize (gJ {s with d:=s.d++[w]}).isSome=q at a6;clear h hu;obtain⟨n,b,d,k,m⟩:=s;obtain⟨iA,kN,kO,iz,tm⟩:=t;simp only[bS.e,fc]at aP a6 bR⊢;generalize uz:d++[w]=D at a6;simp only[cC]at bR;have hw:cC w= .slice 5 .no (w.map ao.e):=rfl;refine bc eh rA sc fun aN=>?_;unfold qG;simp only at aR;simp;((with_reducible repeat' first|refine aj ?_|refine aD aP ?_|refine aE aP ?_|refine aD bR ?_|refine aE bR ?_|simp[aw]|((first|apply bK|apply bM|apply bL)<;>intro h<;>try simp at h))<;>(try exact cc));all_goals first|(refine⟨by unfold lim;omega,?_⟩)|skip
   rw[←hw];rw[pq,Fb,uz];((with_reducible repeat' first|refine aj ?_|refine aD a6 ?_|refine aE a6 ?_|simp|((first|apply bK|apply bM|apply bL)<;>intro h<;>try simp at h))<;>(try exact cc));all_goals simp[bu,Hq,aY,aZ,aW]
theorem an5{s:bS}(h:jB s)(hm:fX s.m){x y:T}(ab:x.fit=true)(aG:y.fit=true)(bx:dw s.n x=true)(hx:dw s.n y=true):bt al 117 [s.e,.int .i64 1,x.e,y.e,.int .i64 0,.str []] (e3 (nf s x y)):=by have cS:=an1 h.1 (XD h.2) hm ab aG bx hx 0 [];obtain⟨t,q,ak,aC,bk⟩:=al4 s x y;rw[ak]at cS;exact Oc h hm ab aG bx hx cS aC bk fun e=>⟨aaU h.1 ab aG bx hx e,aaV hm e⟩
theorem aoe(r:eQ)(ec:gA r.m→fX r.m)(a b:bI)(au:¬(gK r∧mz r.n [a,b])):bt al 54 [r.e,enc a,enc b] (e3 none):=by have aP:=an6 r ec a b au 1 0 [];generalize (none:Option bS)=O at aP⊢;obtain⟨n,bP,d,k,m⟩:=r;simp only[e3,bS.e,eQ.e]at aP⊢;refine bc eh Sf V4 fun aN=>?_;unfold Je;exact bO
theorem aod{s:bS}(h:jB s)(hm:fX s.m){x y:T}(ab:x.fit=true)(aG:y.fit=true)(bx:dw s.n x=true)(hx:dw s.n y=true):bt al 54 [s.e,x.e,y.e] (e3 (nf s x y)):=by have aP:=an5 h hm ab aG bx hx;generalize nf s x y=O at aP⊢;obtain⟨n,bP,d,k,m⟩:=s;simp only[e3,bS.e,eQ.e]at aP⊢;refine bc eh Sf V4 fun aN=>?_;unfold Je;exact bO
open Classical in
theorem aof(r:eQ)(ec:gA r.m→fX r.m)(a b:bI):bt al 38 [r.e,enc a,enc b] (.bool (Br r a b)):=by
 have a6:=an7 r ec a b;by_cases g:gK r∧mz r.n [a,b];rotate_left
 ·have aP:=aoe r ec a b g;rw[h6 g]at a6;rw[OC g];clear g ec;simp only[e3,hO,ht,gd]at aP;obtain⟨n,bP,d,k,m⟩:=r;simp only[eQ.e,bS.e]at aP a6⊢;refine bc eh JR Mo fun aN=>?_;unfold EZ;exact bO
 rw[gU g]at a6;obtain⟨⟨s,rfl,ag⟩,aI⟩:=g;obtain⟨x,rfl,_⟩:=bI.fits_ex (zu aI a (by simp));obtain⟨y,rfl,_⟩:=bI.fits_ex (zu aI b (by simp));obtain⟨⟨ab,aG⟩,bx,hx⟩:=JY aI;have aP:=aod ag (ec ag.1.m) ab aG bx hx;rw[Ek ag aI];generalize nf s x y=O at aP;rw[nH,hU,hU]at a6;rw[nH,hU,hU];clear ec aI ag ab aG bx hx;obtain⟨n,b,d,k,m⟩:=s;cases O with
 |none=>simp only[bS.e,e3,hO,gd,ht,Option.isNone_none]at aP a6⊢;refine bc eh JR Mo fun aN=>?_;unfold EZ;exact bO
 |some t=>obtain⟨iA,kN,kO,iz,tm⟩:=t;simp only[bS.e,e3,h5,kS,Option.isNone_some]at aP a6⊢;refine bc eh JR Mo fun aN=>?_;unfold EZ;exact bO
noncomputable def HJ(s:bS)(x:T)(k:Int):ah:=if(x.ap (b7 s.b)).size≤5000 then(match iV s.k (x.ap (b7 s.b)) k with
 |none=>.tuple [gd.e,.bool false]
 |some l=>n5 {s with k:=l})else .tuple [gd.e,.bool false]
theorem al6(s:bS)(x:T){k:Int}(ad:k=2∨k=3):∃t:bS,∃q:Bool,HJ s x k= .tuple [t.e,.bool q]∧(q=true→q1 s x k=some t)∧(q=false→q1 s x k=none):=by
 unfold HJ q1;by_cases g:(x.ap (b7 s.b)).size≤5000
 ·rw[if_pos g,if_pos ⟨ad,g⟩];cases iV s.k (x.ap (b7 s.b)) k with
  |none=>exact⟨gd,false,rfl,(fun h=>by cases h),fun _=>rfl⟩
  |some l=>exact HH _
 ·rw[if_neg g,if_neg fun h=>g h.2];exact⟨gd,false,rfl,(fun h=>by cases h),fun _=>rfl⟩
noncomputable def HK(s:bS)(x:T)(g:List dm):ah:=if(x.ap (b7 s.b)).size≤5000 then(match jK s.m (x.ap (b7 s.b)) g with
 |none=>.tuple [gd.e,.bool false]
 |some l=>n5 {s with m:=l})else .tuple [gd.e,.bool false]
theorem al7(s:bS)(x:T)(g:List dm):∃t:bS,∃q:Bool,HK s x g= .tuple [t.e,.bool q]∧(q=true→q4 s x g=some t)∧(q=false→q4 s x g=none):=by
 unfold HK q4;by_cases g1:(x.ap (b7 s.b)).size≤5000
 ·rw[if_pos g1,if_pos g1];cases jK s.m (x.ap (b7 s.b)) g with
  |none=>exact⟨gd,false,rfl,(fun h=>by cases h),fun _=>rfl⟩
  |some l=>exact HH _
 ·rw[if_neg g1,if_neg g1];exact⟨gd,false,rfl,(fun h=>by cases h),fun _=>rfl⟩
theorem an2{s:bS}(h:ix s)(hm:fX s.m){x:T}(ab:x.fit=true)(bx:dw s.n x=true){k:Int}(ad:k=2∨k=3)(y:T)(tag:List dm):bt al 115 [s.e,.int .i64 2,x.e,y.e,.int .i64 k,.str tag] (HJ s x k):=by
 have aP:=D8 s.b h.b.len x;have a6:=N8 s.k (by have:=nZ h.k;omega) h.k.asc (x.ap (b7 s.b)) k;unfold HJ;by_cases g:(x.ap (b7 s.b)).size≤5000
 ·rw[gU g]at aP;rw[if_pos g];cases hu:iV s.k (x.ap (b7 s.b)) k with
  |none=>rw[hu]at a6;generalize x.ap (b7 s.b)=y at aP a6;clear h hu g;obtain⟨n,b,d,bH,m⟩:=s;simp only[bS.e,nF,gd,hO,ht]at aP a6⊢;refine bc eh rA sc fun aN=>?_;unfold qG;exact bO
  |some l=>rw[hu]at a6;obtain⟨G,hg,aX⟩:=hm;have bR:=Bl (h.knd ab bx ad hu) hg aX;generalize x.ap (b7 s.b)=y at aP a6;simp only[n5]at bR⊢;generalize sk {s with k:=l}=t at bR;generalize (gJ {s with k:=l}).isSome=q at bR;clear h hu g;obtain⟨n,b,d,bH,m⟩:=s;obtain⟨iA,kN,kO,iz,tm⟩:=t;simp only[bS.e,nF,h5,kS]at aP a6 bR⊢;refine bc eh rA sc fun aN=>?_;unfold qG;exact bO
 ·rw[h6 g]at aP;rw[if_neg g];generalize x.ap (b7 s.b)=y at aP a6;clear a6;clear h g;obtain⟨n,b,d,bH,m⟩:=s;simp only[bS.e,gd]at aP⊢;refine bc eh rA sc fun aN=>?_;unfold qG;exact bO
theorem an3{s:bS}(h:ix s)(hm:n9 s.m){x:T}(ab:x.fit=true)(bx:dw s.n x=true){g:List dm}(aX:iv g=true)(y:T)(jA:Int):bt al 115 [s.e,.int .i64 3,x.e,y.e,.int .i64 jA,.str g] (HK s x g):=by
 have aP:=D8 s.b h.b.len x;have a6:=fun bq=>YI s.m (hm.w.len h.m) (x.ap (b7 s.b)) bq g h.m.asc;unfold HK;by_cases g1:(x.ap (b7 s.b)).size≤5000
 ·have a6:=a6 g1;rw[gU g1]at aP;rw[if_pos g1];cases hu:jK s.m (x.ap (b7 s.b)) g with
  |none=>rw[hu]at a6;generalize x.ap (b7 s.b)=y at aP a6;clear h hu g1;obtain⟨n,b,d,bH,m⟩:=s;simp only[bS.e,h3,gd,hO,ht]at aP a6⊢;refine bc eh rA sc fun aN=>?_;unfold qG;exact bO
  |some l=>rw[hu]at a6;obtain⟨G,hg,oK⟩:=hm.mrk hu;have bR:=Bl (h.mrk ab bx aX hu) hg oK;generalize x.ap (b7 s.b)=y at aP a6;simp only[n5]at bR⊢;generalize sk {s with m:=l}=t at bR;generalize (gJ {s with m:=l}).isSome=q at bR;clear h hu g1;obtain⟨n,b,d,bH,m⟩:=s;obtain⟨iA,kN,kO,iz,tm⟩:=t;simp only[bS.e,h3,h5,kS]at aP a6 bR⊢;refine bc eh rA sc fun aN=>?_;unfold qG;exact bO
 ·rw[h6 g1]at aP;rw[if_neg g1];generalize x.ap (b7 s.b)=y at aP a6;clear a6;clear h g1;obtain⟨n,b,d,bH,m⟩:=s;simp only[bS.e,gd]at aP⊢;refine bc eh rA sc fun aN=>?_;unfold qG;exact bO
theorem aog{s:bS}(h:jB s)(hm:fX s.m){x:T}(ab:x.fit=true)(bx:dw s.n x=true){k:Int}(ad:k=2∨k=3):bt al 48 [s.e,x.e,.int .i64 k] (e3 (q1 s x k)):=by
 have cS:=an2 h.1 hm ab bx ad x [];obtain⟨t,q,ak,aC,bk⟩:=al6 s x ad;rw[ak]at cS;have aP:=Oc h hm ab ab bx bx cS aC bk fun e=>⟨Lx h.1 ab bx e,ahG hm e⟩;generalize q1 s x k=O at aP⊢;clear h hm cS ak aC bk;obtain⟨n,b,d,bH,m⟩:=s;simp only[e3,bS.e]at aP⊢;rcases ad with rfl|rfl;all_goals refine bc eh adx aj2 fun aN=>?_;unfold QI
 all_goals simp
 all_goals(with_reducible repeat' first|refine aj ?_|refine aD aP ?_|refine aE aP ?_|simp)
 all_goals simp[bu,WZ,aY,aZ,aW]
theorem aoi{s:bS}(h:jB s)(hm:n9 s.m){x:T}(ab:x.fit=true)(bx:dw s.n x=true){g:List dm}(aX:iv g=true):bt al 50 [s.e,x.e,.str g] (e3 (q4 s x g)):=by have cS:=an3 h.1 hm ab bx aX x 0;obtain⟨t,q,ak,aC,bk⟩:=al7 s x g;rw[ak]at cS;have aP:=Oc h hm.w ab ab bx bx cS aC bk fun e=>⟨L2 h.1 ab bx aX e,aiq hm e⟩;have a6:=gQ g;rw[aX]at a6;generalize q4 s x g=O at aP⊢;clear h hm cS ak aC bk;obtain⟨n,b,d,bH,m⟩:=s;simp only[e3,bS.e]at aP⊢;refine bc eh adA aj5 fun aN=>?_;unfold QL;exact bO
def agk(v:List ao)(b:ao):Bool:=decide ((b.t.ap (b7 v)).size≤5000)&& !decide (b7 v b.v=b.t.ap (b7 v))
def aaT(v:List ao)(d:List ao):Bool:=d.any (agk v)
def aiE(v:List ao)(b:ao):Bool:=decide ((b.t.ap (b7 v)).size≤5000)&&decide (b.t.ap (b7 v)=b7 v b.v)
structure amL (s:bS) (v:List ao):Prop where
 b:s.b.all (aiE v)=true
 d:s.d.all (aaT v)=true
 k:s.k.all (fun k=>decide ((b7 v k.v).kind=k.k))=true
 m:s.m.all (fun m=> !(b7 v m.v).has m.s)=true
open Classical in
noncomputable def tu(a:bS)(x:bJ):Bool:=decide (q1 a (.var x.v) x.k=some a)
open Classical in
noncomputable def tv(a:bS)(x:bj):Bool:=decide (q4 a (.var x.v) x.s=some a)
noncomputable def ts(a:bS)(x:ao):Bool:=(nf a (.var x.v) x.t).isNone
noncomputable def tt(a:bS)(x:List ao):Bool:=(h8 a x).isNone
noncomputable def ta(a b:bS):Bool:=b.b.all (ts a)&&b.d.all (tt a)&&b.k.all (tu a)&&b.m.all (tv a)
open Classical in
theorem Fe(O:Option bS)(a:bS):decide (O=some a)=match O with|none=>false|some t=>decide (t=a):=by cases O<;>simp
theorem wm{a b:bS}(h:(∃x∈b.b,ts a x=false)∨(∃x∈b.d,tt a x=false)∨(∃x∈b.k,tu a x=false)∨ ∃x∈b.m,tv a x=false):ta a b=false:=by
 cases e:ta a b with
 |false=>rfl
 |true=>
  simp only[ta,cE,hs]at e;obtain⟨⟨⟨ak,aC⟩,bk⟩,dg⟩:=e;rcases h with⟨x,J,U⟩|⟨x,J,U⟩|⟨x,J,U⟩|⟨x,J,U⟩
  ·rw[ak x J]at U;cases U
  ·rw[aC x J]at U;cases U
  ·rw[bk x J]at U;cases U
  ·rw[dg x J]at U;cases U
open Classical in
theorem aho{a:bS}(br:jB a)(hm:fX a.m){x:ao}(ab:qE a.n x):bt al 39 [a.e,(T.var x.v).e,x.t.e] (.bool (ts a x)):=by have:=anh a.r (fun _=>hm) (T.var x.v).tm x.t.tm;rwa[Ek br (Fv ab.f1 ab.f2 ab.b1 ab.b2),nH,hU,hU]at this
open Classical in
theorem ahp{a:bS}(br:jB a)(hm:fX a.m){x:ao}(ab:qE a.n x):bt al 38 [a.e,(T.var x.v).e,x.t.e] (.bool (ts a x)):=by have:=aof a.r (fun _=>hm) (T.var x.v).tm x.t.tm;rwa[Ek br (Fv ab.f1 ab.f2 ab.b1 ab.b2),nH,hU,hU]at this
open Classical in
theorem ans{a b:bS}(br:jB a)(ae:jB b)(hm:n9 a.m)(l9:fX b.m)(au:a.n=b.n):bt al 47 [a.e,b.e] (.bool (ta a b)):=by
 have p4:∀x∈b.b,qE a.n x:=fun x ab=>by rw[au];exact ED ae.1.b ae.1.bb ab
 have Cm:∀d∈b.d,∀x∈d,qE a.n x:=fun d aR x ab=>by rw[au];exact ED (ae.1.d d aR) (ae.1.db d aR) ab
 have xO:rE a.n a:=⟨br,hm.w,rfl⟩;have eR:=fun x ab=>aho br hm.w (p4 x ab);have kG:=fun(t:bS) (aL:rE a.n t) (x:ao) (ab:qE a.n x)=>ani aL.ok aL.tg ab.f1 ab.f2 (EC aL ab).b1 (EC aL ab).b2;have c1:∀x∈b.k,∃O,bt al 49 [a.e,(T.var x.v).e,.int .i64 x.k] (e3 O)∧(tu a x=match O with|none=>false|some t=>decide (t=a))∧∀t,O=some t→bt al 91 [t.e,a.e] (.bool (decide (t=a))):=fun x ab=>by have J:=ae.1.k.at' x ab;have f1:=B5 J.1;have b1:dw a.n (.var x.v)=true:=BG (by rw[au];exact ae.1.kb x ab);exact⟨_,ank br hm.w f1 b1 x.k,Fe _ _,fun t aL=>(fun t aL=>Oe t a aL.1.b.len fun z bq=>(aL.1.d z bq).len) t (Lx br.1 f1 b1 aL)⟩
 have dN:∀x∈b.m,∃O,bt al 51 [a.e,(T.var x.v).e,.str x.s] (e3 O)∧(tv a x=match O with|none=>false|some t=>decide (t=a))∧∀t,O=some t→bt al 91 [t.e,a.e] (.bool (decide (t=a))):=fun x ab=>by have J:=ae.1.m.at' x ab;have f1:=B5 J.1;have b1:dw a.n (.var x.v)=true:=BG (by rw[au];exact ae.1.mb x ab);exact⟨_,ann br hm f1 b1 J.2,Fe _ _,fun t aL=>(fun t aL=>Oe t a aL.1.b.len fun z bq=>(aL.1.d z bq).len) t (L2 br.1 f1 b1 J.2 aL)⟩
 generalize bg:ta a b=R;have uy:∀x∈b.b,ts a x=false→R=false:=fun x J U=>by rw[←bg];exact wm (.inl ⟨x,J,U⟩)
 have rI:∀x∈b.d,tt a x=false→R=false:=fun x J U=>by rw[←bg];exact wm (.inr (.inl ⟨x,J,U⟩))
 have rJ:∀x∈b.k,tu a x=false→R=false:=fun x J U=>by rw[←bg];exact wm (.inr (.inr (.inl ⟨x,J,U⟩)))
 have uA:∀x∈b.m,tv a x=false→R=false:=fun x J U=>by rw[←bg];exact wm (.inr (.inr (.inr ⟨x,J,U⟩)))
 have c7:b.b.all (ts a)=true→b.d.all (tt a)=true→b.k.all (tu a)=true→b.m.all (tv a)=true→R=true:=fun J U ar a8=>by rw[←bg];simp[ta,J,U,ar,a8]
 have p6:∀d,tt a d=(h8 a d).isNone:=fun d=>rfl;have l3:h8 a []=some a:=rfl;have di:∀(d:List ao) j x t,d[j]? =some x→h8 a (d.take j)=some t→h8 a (d.take (j+1))=mx t (.var x.v) x.t:=fun d j x t ab h=>Rm ab h;have oI:∀(d:List ao) j x,d[j]? =some x→h8 a (d.take j)=none→h8 a (d.take (j+1))=none:=fun d j x ab h=>Rl ab h;have vR:∀(d:List ao) j,h8 a (d.take j)=none→h8 a d=none:=fun d j h=>Rn h;have afj:=ae.1.b.len;have Ck:=fun d aR=>(ae.1.d d aR).len;have afm:=nZ ae.1.k;have ed:=D6 a.r fun _=>hm.w;have fO:=D6 b.r fun _=>l9;rw[gU ⟨a,rfl,br⟩,nH]at ed;rw[gU ⟨b,rfl,ae⟩,nH]at fO;have lI:=l9.len ae.1.m;generalize ts a=pN at uy eR c7;generalize tt a=pd at rI p6 c7;generalize tu a=tw at c1 rJ c7;generalize tv a=pm at dN uA c7;generalize h8 a=oz at p6 l3 di oI vR;clear br ae hm l9 bg p4;obtain⟨n,nc,lz,ua,am⟩:=a;obtain⟨n',bb,oy,uf,ug⟩:=b;simp only[bS.e]at*;subst au;refine bc eh Fl GY fun aN=>?_;unfold BJ;have afk:oy.length≤68719476736:=by simp[ey,ea,en,lim]at aN;omega
 clear aN;simp;(with_reducible repeat' first|refine aj ?_|refine aD ed ?_|refine aE ed ?_|refine aD fO ?_|refine aE fO ?_|simp);refine dR [2,3,39,40] (fun i (_:Unit)=>[(41,.int .i64 i)]) bb.length (k0 pN bb) () bW (fun k b ad=>by omega) (fun _ af _=>?_) (fun i _ hi af _=>?_);rotate_left
 ·obtain⟨b,ae,cG⟩:=dP hi;have hW:=dZ ae;have aP:=eR b hW;have fG:=jX b.v;have dB:=fun h=>uy b hW h;have de:=fun h:pN b=true=>af.step ae h;clear af ae hW eR kG c1 dN uy rI rJ uA c7;generalize pN b=q at aP dB de;cases q
  ·rw[dB rfl];exact bO
  ·have au:=de rfl;exact gI
 have Kj:bb.all pN=true:=hs.2 af.fin;clear af eR uy;simp;(with_reducible repeat' first|refine aj ?_|simp);refine dR [2,3,55,56] (fun i (_:Unit)=>[(57,.int .i64 i)]) oy.length (k0 pd oy) () bW (fun k b ad=>by omega) (fun _ af _=>?_) (fun i _ hi af _=>?_);rotate_left
 ·obtain⟨b,ae,cG⟩:=dP hi;have hW:=dZ ae;have p4:=Cm b hW;have fs:=Ck b hW;have dB:=fun h=>rI b hW h;have de:=fun h:pd b=true=>af.step ae h;clear af ae hW c1 dN rI rJ uA c7 Cm Ck;have Cl:cC b= .slice 5 .no (b.map ao.e):=rfl;simp[hi,cG,Cl];((with_reducible repeat' first|refine aj ?_|simp[cG,hi,Cl]|((first|apply bK|apply bM|apply bL)<;>intro h<;>try simp at h))<;>(try exact cc));refine hH (fun j (t:bS)=>⟨[(2,.ptr (.loc 0) 0),(3,.ptr (.loc 1) 0),(9,.ptr (.loc 2) 0),(10,.bool false),(55,.slice 1 .no (oy.map cC)),(56,.int .i64 oy.length),(57,.int .i64 i),(62,.slice 5 .no (b.map ao.e)),(63,.int .i64 b.length),(64,.int .i64 j)],[(.loc 0,[.int .i64 n,.slice 5 .no (nc.map ao.e),.slice 1 .no (lz.map cC),.slice 2 .no (ua.map bJ.e),.slice 2 .no (am.map bj.e)]),(.loc 1,[.int .i64 n,.slice 5 .no (bb.map ao.e),.slice 1 .no (oy.map cC),.slice 2 .no (uf.map bJ.e),.slice 2 .no (ug.map bj.e)]),(.loc 2,[.int .i64 t.n,.slice 5 .no (t.b.map ao.e),.slice 1 .no (t.d.map cC),.slice 2 .no (t.k.map bJ.e),.slice 2 .no (t.m.map bj.e)])],[],3,[]⟩) b.length (fun j t=>rE n t∧oz (b.take j)=some t) ⟨n,nc,lz,ua,am⟩ bW ⟨xO,l3⟩ (fun t bh _=>?_) (fun j t dK bh _=>?_)
  ·obtain⟨_,bh⟩:=bh;rw[mn]at bh;rw[dB (by rw[p6,bh];rfl)];clear kG;simp;((with_reducible repeat' first|refine aj ?_|simp|((first|apply bK|apply bM|apply bL)<;>intro h<;>try simp at h))<;>(try exact cc));all_goals simp[bu,Hd,aY,aZ,aW]
  ·obtain⟨x,ab,x5⟩:=dP dK;obtain⟨aX,bh⟩:=bh;have wi:=p4 x (dZ ab);have aP:=kG t aX x wi;have fG:=jX x.v;have cY:=di b j x t ab bh;cases ax:mx t (.var x.v) x.t with
   |none=>rw[ax]at cY aP;have au:=de (by rw[p6,vR b _ cY];rfl);clear kG dB de aX bh cY ab wi p4 ax xO;obtain⟨iA,kN,kO,iz,tm⟩:=t;simp only[e3,gd,hO,ht,bS.e]at aP;exact gI
   |some dE=>rw[ax]at cY aP;have au:=aX.equ wi ax;clear kG dB de aX bh ab wi p4 ax xO;obtain⟨iA,kN,kO,iz,tm⟩:=t;obtain⟨tF,Nq,Nt,Ny,sm⟩:=dE;simp only[e3,h5,kS,bS.e]at aP;simp[dK,x5];((with_reducible repeat' first|refine aj ?_|refine aD fG ?_|refine aE fG ?_|refine aD aP ?_|refine aE aP ?_|simp[dK,x5]|((first|apply bK|apply bM|apply bL)<;>intro h<;>try simp at h))<;>(try exact cc));all_goals exact bT.rng ⟨tF,Nq,Nt,Ny,sm⟩ dK ⟨au,cY⟩ bW
 have Kk:oy.all pd=true:=hs.2 af.fin;clear af kG rI;simp;((with_reducible repeat' first|refine aj ?_|simp|((first|apply bK|apply bM|apply bL)<;>intro h<;>try simp at h))<;>(try exact cc));refine dR [2,3,86,87] (fun i (_:Unit)=>[(88,.int .i64 i)]) uf.length (k0 tw uf) () bW (fun k b ad=>by omega) (fun _ af _=>?_) (fun i _ hi af _=>?_);rotate_left
 ·obtain⟨b,ae,cG⟩:=dP hi;have hW:=dZ ae;obtain⟨O,aP,nl,dk⟩:=c1 b hW;have fG:=jX b.v;have dB:=fun h=>rJ b hW h;have de:=fun h:tw b=true=>af.step ae h;clear af ae hW c7 p6 di vR oI l3;rw[nl]at dB de;cases O with
  |none=>rw[dB rfl];clear dB de dk nl;simp only[e3,gd,hO,ht,bS.e]at aP;exact bO
  |some t=>
   have a6:=dk t rfl;simp only at dB de;obtain⟨iA,kN,kO,iz,tm⟩:=t;simp only[e3,h5,kS,bS.e]at aP a6;clear nl dk;generalize decide ((⟨iA,kN,kO,iz,tm⟩:bS)=⟨n,nc,lz,ua,am⟩)=q at a6 dB de;cases q
   ·rw[dB rfl];exact bO
   ·have au:=de rfl;exact gI
 have Kh:uf.all tw=true:=hs.2 af.fin;clear af;simp;((with_reducible repeat' first|refine aj ?_|simp|((first|apply bK|apply bM|apply bL)<;>intro h<;>try simp at h))<;>(try exact cc));clear c1 rJ;refine dR [2,112,113] (fun i (_:Unit)=>[(114,.int .i64 i)]) ug.length (k0 pm ug) () bW (fun k b ad=>by omega) (fun _ af _=>?_) (fun i _ hi af _=>?_);rotate_left
 ·obtain⟨b,ae,cG⟩:=dP hi;have hW:=dZ ae;obtain⟨O,aP,nl,dk⟩:=dN b hW;have fG:=jX b.v;have dB:=fun h=>uA b hW h;have de:=fun h:pm b=true=>af.step ae h;clear af ae hW c7 p6 di vR oI l3;rw[nl]at dB de;cases O with
  |none=>rw[dB rfl];clear dB de dk nl;simp only[e3,gd,hO,ht,bS.e]at aP;exact bO
  |some t=>
   have a6:=dk t rfl;simp only at dB de;obtain⟨iA,kN,kO,iz,tm⟩:=t;simp only[e3,h5,kS,bS.e]at aP a6;clear nl dk;generalize decide ((⟨iA,kN,kO,iz,tm⟩:bS)=⟨n,nc,lz,ua,am⟩)=q at a6 dB de;cases q
   ·rw[dB rfl];exact bO
   ·have au:=de rfl;exact gI
 have Ki:ug.all pm=true:=hs.2 af.fin;clear af;simp;(with_reducible repeat' first|refine aj ?_|simp);rw[c7 Kj Kk Kh Ki];all_goals simp[bu,Hd,aY,aZ,aW]
open Classical in
theorem aok{a b:bS}(br:jB a)(ae:jB b)(hm:n9 a.m)(l9:fX b.m)(au:a.n=b.n):bt al 46 [a.e,b.e] (.bool (ta a b)):=by
 have p4:∀x∈b.b,qE a.n x:=fun x ab=>by rw[au];exact ED ae.1.b ae.1.bb ab
 have Cm:∀d∈b.d,∀x∈d,qE a.n x:=fun d aR x ab=>by rw[au];exact ED (ae.1.d d aR) (ae.1.db d aR) ab
 have xO:rE a.n a:=⟨br,hm.w,rfl⟩;have eR:=fun x ab=>ahp br hm.w (p4 x ab);have kG:=fun(t:bS) (aL:rE a.n t) (x:ao) (ab:qE a.n x)=>an0 aL.ok.1 aL.tg ab.f1 ab.f2 (EC aL ab).b1 (EC aL ab).b2 0 [];have c1:∀x∈b.k,∃O,bt al 48 [a.e,(T.var x.v).e,.int .i64 x.k] (e3 O)∧(tu a x=match O with|none=>false|some t=>decide (t=a))∧∀t,O=some t→bt al 82 [t.e,a.e] (.bool (decide (t=a))):=fun x ab=>by have J:=ae.1.k.at' x ab;have f1:=B5 J.1;have b1:dw a.n (.var x.v)=true:=BG (by rw[au];exact ae.1.kb x ab);exact⟨_,aog br hm.w f1 b1 J.2,Fe _ _,fun t aL=>(fun t _=>Ob t a) t (Lx br.1 f1 b1 aL)⟩
 have dN:∀x∈b.m,∃O,bt al 50 [a.e,(T.var x.v).e,.str x.s] (e3 O)∧(tv a x=match O with|none=>false|some t=>decide (t=a))∧∀t,O=some t→bt al 82 [t.e,a.e] (.bool (decide (t=a))):=fun x ab=>by have J:=ae.1.m.at' x ab;have f1:=B5 J.1;have b1:dw a.n (.var x.v)=true:=BG (by rw[au];exact ae.1.mb x ab);exact⟨_,aoi br hm f1 b1 J.2,Fe _ _,fun t aL=>(fun t _=>Ob t a) t (L2 br.1 f1 b1 J.2 aL)⟩
 generalize bg:ta a b=R;have uy:∀x∈b.b,ts a x=false→R=false:=fun x J U=>by rw[←bg];exact wm (.inl ⟨x,J,U⟩)
 have rI:∀x∈b.d,tt a x=false→R=false:=fun x J U=>by rw[←bg];exact wm (.inr (.inl ⟨x,J,U⟩))
 have rJ:∀x∈b.k,tu a x=false→R=false:=fun x J U=>by rw[←bg];exact wm (.inr (.inr (.inl ⟨x,J,U⟩)))
 have uA:∀x∈b.m,tv a x=false→R=false:=fun x J U=>by rw[←bg];exact wm (.inr (.inr (.inr ⟨x,J,U⟩)))
 have c7:b.b.all (ts a)=true→b.d.all (tt a)=true→b.k.all (tu a)=true→b.m.all (tv a)=true→R=true:=fun J U ar a8=>by rw[←bg];simp[ta,J,U,ar,a8]
 have p6:∀d,tt a d=(h8 a d).isNone:=fun d=>rfl;have l3:h8 a []=some a:=rfl;have di:∀(d:List ao) j x t,d[j]? =some x→h8 a (d.take j)=some t→h8 a (d.take (j+1))=mx t (.var x.v) x.t:=fun d j x t ab h=>Rm ab h;have oI:∀(d:List ao) j x,d[j]? =some x→h8 a (d.take j)=none→h8 a (d.take (j+1))=none:=fun d j x ab h=>Rl ab h;have vR:∀(d:List ao) j,h8 a (d.take j)=none→h8 a d=none:=fun d j h=>Rn h;have afj:=ae.1.b.len;have Ck:=fun d aR=>(ae.1.d d aR).len;have afm:=nZ ae.1.k;have ed:=yW a.r fun _=>hm.w;have fO:=yW b.r fun _=>l9;rw[gU ⟨a,rfl,br⟩,nH]at ed;rw[gU ⟨b,rfl,ae⟩,nH]at fO;have lI:=l9.len ae.1.m;generalize ts a=pN at uy eR c7;generalize tt a=pd at rI p6 c7;generalize tu a=tw at c1 rJ c7;generalize tv a=pm at dN uA c7;generalize h8 a=oz at p6 l3 di oI vR;clear br ae hm l9 bg p4;obtain⟨n,nc,lz,ua,am⟩:=a;obtain⟨n',bb,oy,uf,ug⟩:=b;simp only[bS.e]at*;subst au;refine bc eh Fm GZ fun aN=>?_;unfold BL;have afk:oy.length≤68719476736:=by simp[ey,ea,en,lim]at aN;omega
 clear aN;simp;(with_reducible repeat' first|refine aj ?_|refine aD ed ?_|refine aE ed ?_|refine aD fO ?_|refine aE fO ?_|simp);refine dR [2,3,37,38] (fun i (_:Unit)=>[(39,.int .i64 i)]) bb.length (k0 pN bb) () bW (fun k b ad=>by omega) (fun _ af _=>?_) (fun i _ hi af _=>?_);rotate_left
 ·obtain⟨b,ae,cG⟩:=dP hi;have hW:=dZ ae;have aP:=eR b hW;have fG:=js b.v;have dB:=fun h=>uy b hW h;have de:=fun h:pN b=true=>af.step ae h;clear af ae hW eR kG c1 dN uy rI rJ uA c7;generalize pN b=q at aP dB de;cases q
  ·rw[dB rfl];exact bO
  ·have au:=de rfl;exact gI
 have Kj:bb.all pN=true:=hs.2 af.fin;clear af eR uy;simp;(with_reducible repeat' first|refine aj ?_|simp);refine dR [2,3,53,54] (fun i (_:Unit)=>[(55,.int .i64 i)]) oy.length (k0 pd oy) () bW (fun k b ad=>by omega) (fun _ af _=>?_) (fun i _ hi af _=>?_);rotate_left
 ·obtain⟨b,ae,cG⟩:=dP hi;have hW:=dZ ae;have p4:=Cm b hW;have fs:=Ck b hW;have dB:=fun h=>rI b hW h;have de:=fun h:pd b=true=>af.step ae h;clear af ae hW c1 dN rI rJ uA c7 Cm Ck;have Cl:cC b= .slice 5 .no (b.map ao.e):=rfl;simp[hi,cG,Cl];((with_reducible repeat' first|refine aj ?_|simp[cG,hi,Cl]|((first|apply bK|apply bM|apply bL)<;>intro h<;>try simp at h))<;>(try exact cc));refine hH (fun j (y:Bool×bS)=>⟨[(2,.ptr (.loc 0) 0),(3,.ptr (.loc 1) 0),(9,.ptr (.loc 2) 0),(10,.bool y.1),(53,.slice 1 .no (oy.map cC)),(54,.int .i64 oy.length),(55,.int .i64 i),(60,.slice 5 .no (b.map ao.e)),(61,.int .i64 b.length),(62,.int .i64 j)],[(.loc 0,[.int .i64 n,.slice 5 .no (nc.map ao.e),.slice 1 .no (lz.map cC),.slice 2 .no (ua.map bJ.e),.slice 2 .no (am.map bj.e)]),(.loc 1,[.int .i64 n,.slice 5 .no (bb.map ao.e),.slice 1 .no (oy.map cC),.slice 2 .no (uf.map bJ.e),.slice 2 .no (ug.map bj.e)]),(.loc 2,[.int .i64 y.2.n,.slice 5 .no (y.2.b.map ao.e),.slice 1 .no (y.2.d.map cC),.slice 2 .no (y.2.k.map bJ.e),.slice 2 .no (y.2.m.map bj.e)])],[],3,[]⟩) b.length (fun j y=>(y.1=true→rE n y.2∧oz (b.take j)=some y.2)∧(y.1=false→oz (b.take j)=none)) (true,⟨n,nc,lz,ua,am⟩) bW ⟨fun _=>⟨xO,l3⟩,fun h=>by cases h⟩ (fun y bh _=>?_) (fun j y dK bh _=>?_)
  ·obtain⟨ok,t⟩:=y;rw[mn]at bh;cases ok
   ·have au:=de (by rw[p6,bh.2 rfl];rfl);clear kG bh dB de;simp;((with_reducible repeat' first|refine aj ?_|simp|((first|apply bK|apply bM|apply bL)<;>intro h<;>try simp at h))<;>(try exact cc));all_goals exact bT.rng () hi au bW
   ·rw[dB (by rw[p6,(bh.1 rfl).2];rfl)];clear kG bh de;exact bO
  ·obtain⟨x,ab,x5⟩:=dP dK;obtain⟨ok,t⟩:=y;cases ok
   ·have au:=oI b j x ab (bh.2 rfl);clear kG bh dB de ab p4 xO;obtain⟨iA,kN,kO,iz,tm⟩:=t;simp[dK,x5];((with_reducible repeat' first|refine aj ?_|simp[dK,x5]|((first|apply bK|apply bM|apply bL)<;>intro h<;>try simp at h))<;>(try exact cc));all_goals exact bT.rng (false,⟨iA,kN,kO,iz,tm⟩) dK ⟨(fun h=>by cases h),fun _=>au⟩ bW
   ·obtain⟨aX,bh⟩:=bh.1 rfl;simp only at aX bh;have wi:=p4 x (dZ ab);have aP:=kG t aX x wi;have fG:=js x.v;obtain⟨dE,q,ak,aC,bk⟩:=al5 t (.var x.v) x.t;have cY:=di b j x t ab bh;have au:(q=true→rE n dE∧oz (b.take (j+1))=some dE)∧(q=false→oz (b.take (j+1))=none):=⟨fun h=>⟨aX.equ wi (aC h),by rw[cY,aC h]⟩,fun h=>by rw[cY,bk h]⟩;rw[ak]at aP;clear kG dB de aX bh ab wi p4 xO ak aC bk cY;obtain⟨iA,kN,kO,iz,tm⟩:=t;obtain⟨tF,Nq,Nt,Ny,sm⟩:=dE;simp only[bS.e]at aP;simp[dK,x5];((with_reducible repeat' first|refine aj ?_|refine aD fG ?_|refine aE fG ?_|refine aD aP ?_|refine aE aP ?_|simp[dK,x5]|((first|apply bK|apply bM|apply bL)<;>intro h<;>try simp at h))<;>(try exact cc));all_goals exact bT.rng (q,⟨tF,Nq,Nt,Ny,sm⟩) dK au bW
 have Kk:oy.all pd=true:=hs.2 af.fin;clear af kG rI;simp;((with_reducible repeat' first|refine aj ?_|simp|((first|apply bK|apply bM|apply bL)<;>intro h<;>try simp at h))<;>(try exact cc));refine dR [2,3,81,82] (fun i (_:Unit)=>[(83,.int .i64 i)]) uf.length (k0 tw uf) () bW (fun k b ad=>by omega) (fun _ af _=>?_) (fun i _ hi af _=>?_);rotate_left
 ·obtain⟨b,ae,cG⟩:=dP hi;have hW:=dZ ae;obtain⟨O,aP,nl,dk⟩:=c1 b hW;have fG:=js b.v;have dB:=fun h=>rJ b hW h;have de:=fun h:tw b=true=>af.step ae h;clear af ae hW c7 p6 di vR oI l3;rw[nl]at dB de;cases O with
  |none=>rw[dB rfl];clear dB de dk nl;simp only[e3,gd,hO,ht,bS.e]at aP;exact bO
  |some t=>
   have a6:=dk t rfl;simp only at dB de;obtain⟨iA,kN,kO,iz,tm⟩:=t;simp only[e3,h5,kS,bS.e]at aP a6;clear nl dk;generalize decide ((⟨iA,kN,kO,iz,tm⟩:bS)=⟨n,nc,lz,ua,am⟩)=q at a6 dB de;cases q
   ·rw[dB rfl];exact bO
   ·have au:=de rfl;exact gI
 have Kh:uf.all tw=true:=hs.2 af.fin;clear af;simp;((with_reducible repeat' first|refine aj ?_|simp|((first|apply bK|apply bM|apply bL)<;>intro h<;>try simp at h))<;>(try exact cc));clear c1 rJ;refine dR [2,107,108] (fun i (_:Unit)=>[(109,.int .i64 i)]) ug.length (k0 pm ug) () bW (fun k b ad=>by omega) (fun _ af _=>?_) (fun i _ hi af _=>?_);rotate_left
 ·obtain⟨b,ae,cG⟩:=dP hi;have hW:=dZ ae;obtain⟨O,aP,nl,dk⟩:=dN b hW;have fG:=js b.v;have dB:=fun h=>uA b hW h;have de:=fun h:pm b=true=>af.step ae h;clear af ae hW c7 p6 di vR oI l3;rw[nl]at dB de;cases O with
  |none=>rw[dB rfl];clear dB de dk nl;simp only[e3,gd,hO,ht,bS.e]at aP;exact bO
  |some t=>
   have a6:=dk t rfl;simp only at dB de;obtain⟨iA,kN,kO,iz,tm⟩:=t;simp only[e3,h5,kS,bS.e]at aP a6;clear nl dk;generalize decide ((⟨iA,kN,kO,iz,tm⟩:bS)=⟨n,nc,lz,ua,am⟩)=q at a6 dB de;cases q
   ·rw[dB rfl];exact bO
   ·have au:=de rfl;exact gI
 have Ki:ug.all pm=true:=hs.2 af.fin;clear af;simp;(with_reducible repeat' first|refine aj ?_|simp);rw[c7 Kj Kk Kh Ki];all_goals simp[bu,MS,aY,aZ,aW]
theorem X5{r:na}{q0:Int}(hw:r.wf)(TT:q0≤1048576)(aqu:0≤q0)(h:0≤qo r q0):∃u:eQ,r=u.h∧(gA u.m→u.m.length≤524288):=by
 obtain⟨n,b,d,k,l⟩:=r;obtain⟨eP,dC,o6,mS⟩:=hw;simp only at eP dC o6 mS;unfold qo at h;simp only at h;have b1:=wZ b q0 (by omega);split at h
 ·omega
 have b2:=vl wZ d (ie b q0) (by omega);split at h
 ·omega
 have fN:=NO k (gP ie d (ie b q0)) (by omega);split at h
 ·omega
 split at h
 ·omega
 obtain⟨bP,rfl⟩:=XW b q0 eP (by omega) (by omega) (by omega);obtain⟨ca,rfl⟩:=NN wZ (P:=w9) XW d (ie (uk bP) q0) dC (by omega) (by omega) (by omega);generalize gP ie (.l (ca.map uk)) (ie (uk bP) q0)=bF at*;cases k with
 |b=>simp only[o2]at*;omega
 |l bH=>
  generalize o2 (.l bH) bF=b0 at*;have ov:=vl D0 l b0 (by omega);obtain⟨gz,rfl⟩:=NN D0 (P:=fun x=>x.s.wf) amZ l b0 mS (by omega) (by omega) (by omega);refine⟨⟨n,bP,ca,bH,gz⟩,rfl,fun hm=>?_⟩;simp only at hm⊢;simp only[gP,o3]at h;split at h
  ·omega
  ·have:=X3 gz _ (fun x ab=>aiu (hm.at' x ab).2) h;simp only[List.length_map]at this;omega
theorem n9.of{m:List bj}(h:m.length≤524288):n9 m:=⟨m.map (·.s),by simp;omega,fun _ ab=>List.mem_map_of_mem ab⟩
open Classical in
theorem ant(cN dx:eQ)(J:gA cN.m→fX cN.m)(U:gA dx.m→fX dx.m)(h:¬(gK cN∧gK dx∧cN.n=dx.n)):bt al 47 [cN.e,dx.e] (.bool false):=by
 have ed:=D6 cN J;have fO:=D6 dx U;by_cases g1:gK cN
 ·rw[gU g1]at ed;by_cases g2:gK dx
  ·rw[gU g2]at fO;have g3:cN.n≠dx.n:=fun e=>h ⟨g1,g2,e⟩;clear h J U g1 g2;obtain⟨n,b,d,k,m⟩:=cN;obtain⟨n',bP,ca,bH,gz⟩:=dx;simp only[eQ.e]at ed fO g3⊢;have g4:¬n'=n:=fun e=>g3 e.symm;refine bc eh Fl GY fun aN=>?_;unfold BJ;simp;((with_reducible repeat' first|refine aj ?_|refine aD ed ?_|refine aE ed ?_|refine aD fO ?_|refine aE fO ?_|simp[g3,g4]|((first|apply bK|apply bM|apply bL)<;>intro h<;>try simp at h))<;>(try exact cc));all_goals simp[bu,Hd,aY,aZ,aW]
  ·rw[h6 g2]at fO;clear h J U g1 g2;obtain⟨n,b,d,k,m⟩:=cN;obtain⟨n',bP,ca,bH,gz⟩:=dx;simp only[eQ.e]at ed fO⊢;refine bc eh Fl GY fun aN=>?_;unfold BJ;exact bO
 ·rw[h6 g1]at ed;clear h J U g1 fO;obtain⟨n,b,d,k,m⟩:=cN;obtain⟨n',bP,ca,bH,gz⟩:=dx;simp only[eQ.e]at ed⊢;refine bc eh Fl GY fun aN=>?_;unfold BJ;exact bO
open Classical in
theorem aol(cN dx:eQ)(J:gA cN.m→fX cN.m)(U:gA dx.m→fX dx.m)(h:¬(gK cN∧gK dx∧cN.n=dx.n)):bt al 46 [cN.e,dx.e] (.bool false):=by
 have ed:=yW cN J;have fO:=yW dx U;by_cases g1:gK cN
 ·rw[gU g1]at ed;by_cases g2:gK dx
  ·rw[gU g2]at fO;have g3:cN.n≠dx.n:=fun e=>h ⟨g1,g2,e⟩;clear h J U g1 g2;obtain⟨n,b,d,k,m⟩:=cN;obtain⟨n',bP,ca,bH,gz⟩:=dx;simp only[eQ.e]at ed fO g3⊢;have g4:¬n'=n:=fun e=>g3 e.symm;refine bc eh Fm GZ fun aN=>?_;unfold BL;simp;((with_reducible repeat' first|refine aj ?_|refine aD ed ?_|refine aE ed ?_|refine aD fO ?_|refine aE fO ?_|simp[g3,g4]|((first|apply bK|apply bM|apply bL)<;>intro h<;>try simp at h))<;>(try exact cc));all_goals simp[bu,MS,aY,aZ,aW]
  ·rw[h6 g2]at fO;clear h J U g1 g2;obtain⟨n,b,d,k,m⟩:=cN;obtain⟨n',bP,ca,bH,gz⟩:=dx;simp only[eQ.e]at ed fO⊢;refine bc eh Fm GZ fun aN=>?_;unfold BL;exact bO
 ·rw[h6 g1]at ed;clear h J U g1 fO;obtain⟨n,b,d,k,m⟩:=cN;obtain⟨n',bP,ca,bH,gz⟩:=dx;simp only[eQ.e]at ed⊢;refine bc eh Fm GZ fun aN=>?_;unfold BL;exact bO
theorem Z1(cN dx:eQ)(J:gA cN.m→cN.m.length≤524288)(U:gA dx.m→dx.m.length≤524288):∃q:Bool,bt al 46 [cN.e,dx.e] (.bool q)∧bt al 47 [cN.e,dx.e] (.bool q):=by
 have t1:gA cN.m→n9 cN.m:=fun h=>n9.of (J h);have t2:gA dx.m→fX dx.m:=fun h=>(n9.of (U h)).w;by_cases g:gK cN∧gK dx∧cN.n=dx.n
 ·obtain⟨⟨a,rfl,br⟩,⟨b,rfl,ae⟩,au⟩:=g;have hm:n9 a.m:=t1 br.1.m;have l9:fX b.m:=t2 ae.1.m;refine⟨ta a b,?_,?_⟩
  ·rw[nH,nH];exact aok br ae hm l9 au
  ·rw[nH,nH];exact ans br ae hm l9 au
 ·exact⟨false,aol cN dx (fun h=>(t1 h).w) t2 g,ant cN dx (fun h=>(t1 h).w) t2 g⟩
theorem anj(r:na)(hw:r.wf)(a:na)(br:a.wf):bt al 10 [r.e,a.e] (.bool true):=by
 have aP:=YQ r hw 1048576 (by omega) (by omega);have bh:=X4 r 1048576 (by omega);by_cases g:qo r 1048576<0
 ·generalize qo r 1048576=q at aP g;clear hw bh br;obtain⟨n,bP,d,k,l⟩:=r;obtain⟨fW,b2,d2,a6,gF⟩:=a;simp only[na.e]at aP⊢;refine bc eh JO Ml fun aN=>?_;unfold EU;exact bO
 obtain⟨r,rfl,ec⟩:=X5 (q0:=1048576) hw (by omega) (by omega) (by omega);clear hw;rw[XP]at aP⊢;generalize qo r.h 1048576=a7 at aP g bh;have a6:=YQ a br a7 (by omega) (by omega);have jP:=X4 a a7 (by omega);by_cases g2:qo a a7<0
 ·generalize qo a a7=bF at a6 g2;clear bh jP ec br;obtain⟨n,bP,d,k,l⟩:=r;obtain⟨fW,b2,d2,bR,gF⟩:=a;simp only[eQ.e,na.e]at aP a6⊢;refine bc eh JO Ml fun aN=>?_;unfold EU;exact bO
 obtain⟨a,rfl,S1⟩:=X5 (q0:=a7) br (by omega) (by omega) (by omega);rw[XP]at a6⊢;generalize qo a.h a7=bF at a6 g2;have t1:=YT r;have t2:=YT a;obtain⟨Q,s1,i1⟩:=Z1 r a ec S1;have ak:=Yx r;have aC:=Yx a;clear br bh jP ec S1;obtain⟨n,bP,d,k,m⟩:=r;obtain⟨fW,b2,d2,bR,m2⟩:=a;simp only[eQ.e]at aP a6 t1 t2 s1 i1 ak aC⊢;refine bc eh JO Ml fun aN=>?_;unfold EU;have UZ:=t1;exact bO
end Go.Proofs.YtahlgcidhnjlbaaGreat
