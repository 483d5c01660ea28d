/- From a contract to the row: answers. -/
import Derived.Test.YtohaalphocaebaaGreatProg
import Derived.Test.YtohaalphocaebaaGreatZ6
set_option linter.all false
set_option maxHeartbeats 4000000
open Bool renaming and_eq_true→cA,or_eq_true→lF
open Go renaming TypeId→fV
open Go.DataW renaming trod→h0
open Go.Proofs.Tryz renaming f5→kt,prog→al
open Go.Proofs.YtohaalphocaebaaGreat.Rows renaming fnExactAnswerOkRow→jD,fnExactAnswerOkSpec→r3
open Go.Value renaming cells→oH
open List renaming all_eq_true→ir,cons_append→bP,drop→my,getElem?_eq_getElem→cf,getElem?_eq_some_iff→fw,length_append→oI,length_cons→oJ,length_map→p6,map_cons→gM,map_nil→mz,mem_append→jP,mem_cons→fK,mem_cons_of_mem→oK,mem_of_getElem?→eo,take→jQ,take_length→k6,take_succ→nR
open List.cons renaming injEq→nQ
open Option.some renaming inj→fl
open _root_ renaming UInt8→dz,beq_iff_eq→dL,congrArg→eZ,decide_eq_false→k8,decide_eq_false_iff_not→gr,decide_eq_true→kN,decide_eq_true_eq→fm
namespace Go.Proofs.YtohaalphocaebaaGreat
open Go
set_option maxRecDepth 100000 in
theorem Zt:joinedFacts al 5 kt r3 jD=true:=(h6 (h6 (h6 (h6 (h6 (h6 (h6 (h6 (h6 (h6 (h6 (h6 (h6 (h6 (h6 (h6 (h6 (h6 (h6 (h6 (h6 (h6 (h6 (h6 (h6 (h6 (h6 (h6 (h6 (h6 (h6 YX YY) Y9) Zk) Zn) Zo) Zp) Zq) Zr) Zs) YZ) Y0) Y1) Y2) Y3) Y4) Y5) Y6) Y7) Y8) Za) Zb) Zc) Zd) Ze) Zf) Zg) Zh) Zi) Zj) Zl) Zm)
end Go.Proofs.YtohaalphocaebaaGreat
namespace Go.Proofs.YtohaalphocaebaaGreat
open Go Go.Pv
@[simp] def aq6:List bt:=[.cell 6 true 5,.tmp 7]
@[simp] def aq3:List bt:=[.cell 6 true 5,.tmp 7]
@[simp] def aq7:List bt:=[.cell 6 true 5,.tmp 7]
@[simp] def ara:List bt:=[.cell 6 true 5,.tmp 7]
@[simp] def arA:List bt:=[.cell 6 true 5,.tmp 7]
@[simp] def ary:List bt:=[.tmp 4]
@[simp] def arE:List bt:=[.tmp 4]
@[simp] def aq2:List bt:=[.tmp 4]
@[simp] def ari:List bt:=[.tmp 4]
@[simp] def arc:List bt:=[.tmp 6,.tmp 7]
@[simp] def arh:List bt:=[.cell 2 true 5]
@[simp] def aq4:List bt:=[.tmp 6,.tmp 7]
@[simp] def arN:List bt:=[.cell 12 true 5,.tmp 13]
@[simp] def arG:List bt:=[.tmp 2]
@[simp] def arD:List bt:=[.tmp 2]
@[simp] def arO:List bt:=[.tmp 4]
@[simp] def arl:List bt:=[.tmp 4]
@[simp] def arL:List bt:=[.cell 12 true 5,.tmp 13]
@[simp] def arM:List bt:=[.cell 2 true 5]
@[simp] def arq:List bt:=[.tmp 6,.tmp 7]
@[simp] def arz:List bt:=[.tmp 4]
@[simp] def aq5:List bt:=[.tmp 4]
@[simp] def arI:List bt:=[.tmp 2]
@[simp] def arK:List bt:=[.tmp 2]
@[simp] def arC:List bt:=[.cell 4 true 4,.tmp 5]
theorem alM{x y:List T}(h:x.map T.tm=y.map T.tm):x=y:=(List.map_inj_right fun _ _=>MA).1 h
theorem yR(l:List T):(l.map T.tm).map enc=l.map T.e:=by rw[List.map_map];exact List.map_congr_left fun t _=>tC t
theorem IN:∀{l:List bJ},l.all bJ.fits=true→∃x:List T,l=x.map T.tm∧∀t∈x,t.fit=true
 |[],_=>⟨[],rfl,by simp⟩
 |t::l,h=>by rw[List.all_cons,cA]at h;obtain⟨x,rfl,U⟩:=IN h.2;obtain⟨y,rfl,a7⟩:=bJ.fits_ex h.1;exact⟨y::x,rfl,fun z bE=>(fK.1 bE).elim (fun e=>by rw[e];exact a7) (U z)⟩
theorem oo.fin{α:Type}{p:α→Bool}{s:List α}(h:oo p s s.length ()):∀b∈s,p b=true:=fun b ae=>by obtain⟨i,hi⟩:=List.mem_iff_getElem?.1 ae;exact h i b (by have:=(fw.1 hi).1;omega) hi
theorem am8(l:List bJ):bK al 68 [.slice 4 .no (l.map enc)] (.bool (l.all bJ.fits)):=by
 generalize a1:l.all bJ.fits=R;refine bm fO QN UF fun aQ=>?_;unfold HT;have eI:l.length≤68719476736:=by simp[eD,ef,et,lim]at aQ;omega
 simp;refine dW [5,6] (fun i (_:Unit)=>[(7,.int .i64 i)]) l.length (oo bJ.fits l) () bV (fun k b ab=>by omega) (fun _ af _=>?_) (fun i _ hi af _=>?_)
 ·have:R=true:=by rw[←a1,ir];exact af.fin
  subst this;clear af a1;exact b6
 ·obtain⟨t,aL,pL⟩:=dV hi;have dn:=G3 t;cases g:t.fits
  ·rw[g]at dn;have:R=false:=by rw[←a1,List.all_eq_false];exact⟨t,eo aL,by rw[g];simp⟩
   subst this;clear aL af a1;exact b6
  ·rw[g]at dn;have aA:=af.step aL g;clear aL af a1;exact hd
def HU:C:=(aa [cM 1 0,bf 2 false] (aa [bQ 3 1048576] (aa [be 7 6 1,I 8 3,cd 9 21 7 8,I 3 9] (.seq (aa [I 10 3,aS 11 .lss 10 0] (aT 11 (aa [bf 2 true] .ret) .skip)) (aa [be 12 6 1,cQ 13 23 12,cQ 14 22 13,I 4 14] (aa [be 15 6 1,cQ 16 23 15,cK (.alloc 5 none (.agg [.slice 4 .nil [],.int .i64 0,.slice 5 .nil [],.slice 1 .nil [],.slice 2 .nil [],.slice 2 .nil []])),bW 6 5 16] (aa [be 17 6 5,cQ 18 24 17,I 6 18] (.seq (aa [I 19 6,I 20 4,b1 21 (.beq true none (.t 19) (.t 20))] (aT 21 (aa [bf 2 false] .ret) .skip)) (.seq (.seq (.drawn true 27 [be 22 6 5,be 23 6 1,cQ 24 23 23,cd 25 25 22 24,cx 26 25]) (aT 26 (aa [bf 2 false] .ret) .skip)) (aa [bf 2 true] .ret))))))))))
@[simp] def Vy:List bt:=[.tmp 2]
def D2:C:=(aa [cM 2 0,bQ 4 0] (aa [aI 5 0 1 2,ax 6 1 5,I 7 1,cd 8 32 6 7,I 1 8] (.seq (aa [I 9 1,aS 10 .lss 9 0] (aT 10 (aa [bQ 4 (-1)] .ret) .skip)) (aa [fY 11 1 5 2,be 12 5 11,I 13 1,cd 14 63 12 13,I 1 14] (.seq (aa [I 15 1,aS 16 .lss 15 0] (aT 16 (aa [bQ 4 (-1)] .ret) .skip)) (aa [I 17 1,I 4 17] .ret))))))
@[simp] def Gk:List bt:=[.tmp 4]
def Bb:C:=(aa [cM 1 0,bf 2 false] (.seq (aa [aI 6 0 1 1,ax 7 1 6,cQ 8 64 7,cx 9 8,I 10 9,aq 10 false (fY 11 1 5 1),aq 10 false (be 12 5 11),aq 10 false (cQ 13 65 12),aq 10 false (cx 14 13),dc 15 10 14,I 16 15,aq 16 false (fY 17 1 5 1),aq 16 false (aI 18 1 1 17),aq 16 false (ax 19 1 18),aq 16 false (cb 20 19),aq 16 false (aS 21 .gtr 20 0),dc 22 16 21] (aT 22 (aa [bf 2 false] .ret) .skip)) (aa [aI 23 0 1 1,ax 24 1 23,cQ 25 66 24,I 3 25] (.seq (aa [I 26 3,cb 27 26,bQ 28 0] (e4 29 28 27 (.seq (.block 1 (aa [I 30 28,cp 31 1 26 28,ax 32 1 31,I 4 30,I 5 32] (aa [I 33 5,I 34 4,bk 35 .neq 33 34] (aT 35 (aa [bf 2 false] .ret) .skip)))) (.region [aS 36 .add 28 1,I 28 36])))) (aa [fY 37 1 5 1,aI 38 0 1 37,ax 39 1 38,I 40 3,cb 41 40,bk 42 .eql 39 41,I 2 42] .ret)))))
@[simp] def akp:List bt:=[.tmp 2]
def OW:C:=(aa [cM 1 0,cK (.alloc 2 none (.agg [.slice 4 .nil [],.int .i64 0,.slice 5 .nil [],.slice 1 .nil [],.slice 2 .nil [],.slice 2 .nil []]))] (aa [cK (.alloc 3 none (.agg [.slice 4 .nil [],.int .i64 0,.slice 5 .nil [],.slice 1 .nil [],.slice 2 .nil [],.slice 2 .nil []]))] (aa [aI 4 0 1 1,ax 5 1 4,cQ 6 34 5,aI 7 0 1 3,bW 1 7 6] (aa [fY 8 1 5 1,be 9 5 8,cQ 10 67 9,fY 11 1 5 3,bW 5 11 10] (aa [be 12 6 3,bW 6 2 12] .ret)))))
@[simp] def aj6:List bt:=[.cell 2 true 6]
def wR:C:=(aa [cM 1 0,bf 2 false] (.seq (aa [aI 3 0 1 1,ax 4 1 3,cQ 5 68 4,cx 6 5,I 7 6,aq 7 false (fY 8 1 5 1),aq 7 false (be 9 5 8),aq 7 false (cQ 10 18 9),aq 7 false (cx 11 10),dc 12 7 11,I 13 12,aq 13 false (fY 14 1 5 1),aq 13 false (aI 15 1 1 14),aq 13 false (ax 16 1 15),aq 13 false (cb 17 16),aq 13 false (aS 18 .neq 17 0),dc 19 13 18] (aT 19 (aa [bf 2 false] .ret) .skip)) (.seq (.drawn true 36 [aI 20 0 1 1,ax 21 1 20,cQ 22 70 21,aI 23 0 1 1,ax 24 1 23,cd 25 69 22 24,I 26 25,aq 26 true (fY 27 1 5 1),aq 26 true (aI 28 0 1 27),aq 26 true (ax 29 1 28),aq 26 true (aI 30 0 1 1),aq 26 true (ax 31 1 30),aq 26 true (cQ 32 71 31),aq 26 true (cb 33 32),aq 26 true (bk 34 .eql 29 33),dK 35 26 34,I 2 35]) .ret)))
@[simp] def ajy:List bt:=[.tmp 2]
def OL:C:=(aa [cM 2 0,cM 3 1,bf 4 false] (.seq (aa [aI 5 0 1 2,ax 6 1 5,aI 7 0 1 3,ax 8 1 7,cd 9 36 6 8,cx 10 9] (aT 10 (aa [bf 4 false] .ret) .skip)) (.seq (aa [fY 11 1 5 2,be 12 5 11,fY 13 1 5 3,be 14 5 13,cd 15 72 12 14,cx 16 15] (aT 16 (aa [bf 4 false] .ret) .skip)) (aa [bf 4 true] .ret))))
@[simp] def ajN:List bt:=[.tmp 4]
def PB:C:=(aa [bf 2 false] (.seq (aa [I 5 0,cb 6 5,bQ 7 0] (e4 8 7 6 (.seq (.block 1 (aa [cp 9 4 5 7,be 10 4 9,dH 4 dS,bW 4 4 10] (aa [be 11 4 4,cQ 12 76 11,cx 13 12] (aT 13 (aa [bf 2 false] .ret) .skip)))) (.region [aS 14 .add 7 1,I 7 14])))) (aa [bf 2 true] .ret)))
@[simp] def akt:List bt:=[.tmp 2]
def Py:C:=(aa [ez 2 1] (.seq (aa [I 6 0,cQ 7 64 6,cx 8 7] (aT 8 (aa [ez 2 1] .ret) .skip)) (aa [cK (.bslm 9 (some 881) 1 3 []),I 3 9] (.seq (aa [I 10 0,cb 11 10,bQ 12 0] (e4 13 12 11 (.seq (.block 1 (aa [cp 14 4 10 12,be 15 4 14,dH 5 dS,bW 4 5 15] (.region [be 16 4 5,I 17 3,cd 18 148 16 17,I 3 18]))) (.region [aS 19 .add 12 1,I 12 19])))) (.seq (.pub 3 (.region [I 20 3,I 2 20])) .ret)))))
@[simp] def akq:List bt:=[.tmp 2]
def HS:C:=(aa [bf 4 false] (.seq (aa [I 6 0,cb 7 6,I 8 1,cb 9 8,bk 10 .neq 7 9] (aT 10 (aa [bf 4 false] .ret) .skip)) (.seq (aa [I 11 0,cb 12 11,bQ 13 0] (e4 14 13 12 (.seq (.block 1 (aa [I 15 13,I 5 15] (.seq (.drawn true 27 [I 16 0,I 17 5,cp 18 4 16 17,be 19 4 18,I 20 1,I 21 5,cp 22 4 20 21,be 23 4 22,cd 24 108 19 23,cx 25 24]) (aT 25 (aa [bf 4 false] .ret) .skip)))) (.region [aS 26 .add 13 1,I 13 26])))) (aa [bf 4 true] .ret))))
@[simp] def ajK:List bt:=[.tmp 4]
def NZ:C:=(aa [ez 2 4] (.seq (aa [I 9 0,cQ 10 68 9,cx 11 10] (aT 11 (aa [ez 2 4] .ret) .skip)) (aa [cK (.mkmap 12 (some 865)),cK (.alloc 3 (some 866) (.junk)),bW 1 3 12] (.seq (aa [I 13 0,cQ 14 71 13,cb 15 14,bQ 16 0] (e4 17 16 15 (.seq (.block 1 (aa [I 18 16,cp 19 1 14 16,ax 20 1 19,I 4 18,I 5 20] (.region [ax 21 1 3,I 22 5,I 23 4,cK (.mput .i (.t 21) (.t 22) (.t 23))]))) (.region [aS 24 .add 16 1,I 16 24])))) (aa [fk 25 4 32 [],I 6 25] (.seq (aa [I 26 0,cb 27 26,bQ 28 0] (.block 2 (.loop (aa [bk 29 .lss 28 27] (.seq (aT 29 .skip (.exit 2)) (.seq (.block 3 (aa [cp 30 4 26 28,be 31 4 30,dH 8 dS,bW 4 8 31] (.region [I 32 6,be 33 4 8,b1 34 (.mkf 154 [.t 3]),cd 35 153 33 34,fk 36 4 32 [.t 35],iN 37 4 32 32 36,I 6 37]))) (.region [aS 38 .add 28 1,I 28 38]))))))) (aa [I 39 6,I 2 39] .ret)))))))
@[simp] def ajz:List bt:=[.tmp 2]
def OC:C:=(aa [ez 2 1] (aa [cK (.bslm 7 (some 861) 1 3 []),cK (.alloc 3 (some 862) (.slice 1 .nil [])),bW 1 3 7] (aa [cK (.mkmap 8 (some 863)),cK (.alloc 4 (some 864) (.junk)),bW 1 4 8] (.seq (aa [I 9 0,cb 10 9,bQ 11 0] (e4 12 11 10 (.seq (.block 1 (aa [cp 13 4 9 11,be 14 4 13,dH 6 dS,bW 4 6 14] (.region [be 15 4 6,b1 16 (.mkf 155 [.t 4,.t 3]),cd 17 129 15 16]))) (.region [aS 18 .add 11 1,I 11 18])))) (.seq (.pubB 3 (.region [ax 19 1 3,I 2 19])) .ret)))))
@[simp] def ajJ:List bt:=[.tmp 2]
def wU:C:=(aa [cM 2 0,ez 4 1] (.seq (aa [aI 7 0 1 2,ax 8 1 7,aS 9 .eql 8 1,I 10 9,b4 10 true 11 1,aq 10 true (aI 12 1 1 2),aq 10 true (ax 13 1 12),aq 10 true (cd 14 221 11 13),aq 10 true (cx 15 14),dK 16 10 15] (aT 16 (aa [I 17 1,aI 18 1 1 2,ax 19 1 18,fk 20 1 3 [.t 19],cK (.appm 21 none 1 3 (.t 17) (.t 20)),I 4 21] .ret) .skip)) (.seq (aa [aI 22 3 1 2,ax 23 1 22,cb 24 23,bQ 25 0] (e4 26 25 24 (.seq (.block 1 (aa [cp 27 4 23 25,be 28 4 27,dH 6 dS,bW 4 6 28] (.region [be 29 4 6,I 30 1,cd 31 148 29 30,I 1 31]))) (.region [aS 32 .add 25 1,I 25 32])))) (aa [I 33 1,I 4 33] .ret))))
@[simp] def x6:List bt:=[.tmp 4]
def N0:C:=(aa [dH 3 dS,bf 4 false] (aa [ax 5 1 1,I 6 0,b1 7 (.mget .i (.int .i64 0) false (.t 5) (.t 6)),cQ 8 96 7,bW 4 3 8,bf 4 true] .ret))
@[simp] def Vb:List bt:=[.cell 3 true 4,.tmp 4]
def HR:C:=(aa [ax 4 1 1,I 5 0,b1 6 (.mget .i (.bool false) false (.t 4) (.t 5)),cx 7 6] (aT 7 (aa [ax 8 1 1,I 9 0,cK (.mput .i (.t 8) (.t 9) (.c (.bool true)))] (.region [b1 10 (.loadB false 1 (.t 2)),I 11 0,fk 12 1 3 [.t 11],cK (.appm 13 none 1 3 (.t 10) (.t 12)),bW 1 2 13])) .skip))
@[simp] def Ls:List bt:=[]
def PE:C:=(aa [bf 4 false] (.seq (aa [I 7 0,cb 8 7,bQ 9 0] (e4 10 9 8 (.seq (.block 1 (aa [cp 11 1 7 9,ax 12 1 11,I 6 12] (aa [I 13 6,I 14 1,bk 15 .eql 13 14] (aT 15 (aa [bf 4 true] .ret) .skip)))) (.region [aS 16 .add 9 1,I 9 16])))) (aa [bf 4 false] .ret)))
@[simp] def LD:List bt:=[.tmp 4]
def nJ:List (Nat×dA):=[
 (3,⟨1,8,.int .i64,.int .i64 0⟩),
 (4,⟨1,1,.bool,.bool false⟩),
 (23,⟨1,24,.slice 61,.slice 5 .nil []⟩),
 (28,⟨5,104,.struct [(0,3),(1,23),(2,24),(3,25),(4,26)],.agg [.int .i64 0,.slice 5 .nil [],.slice 1 .nil [],.slice 2 .nil [],.slice 2 .nil []]⟩),
 (30,⟨1,24,.slice 32,.slice 4 .nil []⟩),
 (32,⟨4,56,.struct [(0,3),(1,3),(2,9),(3,30)],.agg [.int .i64 0,.int .i64 0,.str [],.slice 4 .nil []]⟩),
 (43,⟨1,24,.slice 124,.slice 4 .nil []⟩),
 (49,⟨5,104,.struct [(0,3),(1,44),(2,45),(3,46),(4,47)],.agg [.int .i64 0,.slice 5 .nil [],.slice 1 .nil [],.slice 2 .nil [],.slice 2 .nil []]⟩),
 (51,⟨6,128,.struct [(0,43),(1,49)],.agg [.slice 4 .nil [],.int .i64 0,.slice 5 .nil [],.slice 1 .nil [],.slice 2 .nil [],.slice 2 .nil []]⟩),
 (55,⟨6,128,.struct [(0,30),(1,28)],.agg [.slice 4 .nil [],.int .i64 0,.slice 5 .nil [],.slice 1 .nil [],.slice 2 .nil [],.slice 2 .nil []]⟩),
 (112,⟨1,24,.slice 3,.slice 1 .nil []⟩),
 (154,⟨1,8,.map 3 4,.junk⟩),
 (182,⟨1,8,.map 3 3,.junk⟩)]
theorem hQ:fN al nJ=true:=by kernel_rfl
theorem UG:bY nJ HU Vy 1 kt=true:=by kernel_rfl
theorem QO:al.funcs[(5:Nat)]? =some kt:=Tryz.func5
theorem K2:bY nJ D2 Gk 2 Tryz.f21=true:=by kernel_rfl
theorem IC:al.funcs[(21:Nat)]? =some Tryz.f21:=Tryz.func21
theorem FW:bY nJ Bb akp 1 Tryz.f22=true:=by kernel_rfl
theorem Ep:al.funcs[(22:Nat)]? =some Tryz.f22:=Tryz.func22
theorem aic:bY nJ OW aj6 1 Tryz.f23=true:=by kernel_rfl
theorem abA:al.funcs[(23:Nat)]? =some Tryz.f23:=Tryz.func23
theorem zY:bY nJ wR ajy 1 Tryz.f24=true:=by kernel_rfl
theorem yT:al.funcs[(24:Nat)]? =some Tryz.f24:=Tryz.func24
theorem ah1:bY nJ OL ajN 2 Tryz.f25=true:=by kernel_rfl
theorem abo:al.funcs[(25:Nat)]? =some Tryz.f25:=Tryz.func25
theorem aiQ:bY nJ PB akt 1 Tryz.f64=true:=by kernel_rfl
theorem ace:al.funcs[(64:Nat)]? =some Tryz.f64:=Tryz.func64
theorem aiN:bY nJ Py akq 1 Tryz.f66=true:=by kernel_rfl
theorem aca:al.funcs[(66:Nat)]? =some Tryz.f66:=Tryz.func66
theorem UE:bY nJ HS ajK 2 Tryz.f69=true:=by kernel_rfl
theorem QM:al.funcs[(69:Nat)]? =some Tryz.f69:=Tryz.func69
theorem ahk:bY nJ NZ ajz 1 Tryz.f70=true:=by kernel_rfl
theorem aaH:al.funcs[(70:Nat)]? =some Tryz.f70:=Tryz.func70
theorem ahS:bY nJ OC ajJ 1 Tryz.f71=true:=by kernel_rfl
theorem abf:al.funcs[(71:Nat)]? =some Tryz.f71:=Tryz.func71
theorem z6:bY nJ wU x6 2 Tryz.f148=true:=by kernel_rfl
theorem yW:al.funcs[(148:Nat)]? =some Tryz.f148:=Tryz.func148
theorem ahl:bY nJ N0 Vb 2 Tryz.f154=true:=by kernel_rfl
theorem aaI:al.funcs[(154:Nat)]? =some Tryz.f154:=Tryz.func154
theorem UD:bY nJ HR Ls 3 Tryz.f155=true:=by kernel_rfl
theorem QL:al.funcs[(155:Nat)]? =some Tryz.f155:=Tryz.func155
theorem aiT:bY nJ PE LD 2 Tryz.f221=true:=by kernel_rfl
theorem ach:al.funcs[(221:Nat)]? =some Tryz.f221:=Tryz.func221
def wq(m:List bg):Prop:= ∃G:List (List dz),G.length≤686999∧nf G m
theorem wq.w{m:List bg}(h:wq m):Dk m:=by obtain⟨G,J,U⟩:=h;exact⟨G,by omega,U⟩
def oB(a:cJ b7):ah:=a.e 4 b7.e
@[simp] theorem aqj(S:aD→Prop)(d:cJ b7):aB S (oB d)=True:=by cases d<;>simp[oB,cJ.e,aB]
@[simp] theorem asT(d:cJ b7):dm (oB d)=oB d:=by
 cases d with
 |l l=>
  have:∀l:List b7,cY (l.map b7.e)=l.map b7.e:=by
   intro l;induction l with
   |nil=>rfl
   |cons x l bN=>simp[cY,bN]
  simp[oB,cJ.e,dm,this]
 |b=>simp[oB,cJ.e,dm]
@[simp] theorem asx(d:cJ b7):dY (oB d)=true:=by cases d<;>rfl
@[simp] theorem aon(d:cJ b7):cells (oB d)=[oB d]:=by cases d<;>rfl
theorem alQ(l:List bJ):oB (.l (l.map qL))= .slice 4 .no (l.map enc):=by simp only[oB,cJ.e,List.map_map];congr 1;exact List.map_congr_left fun t _=>Mz t
def s7(a:cJ b7)(m:Int):Int:=gL hP a m
theorem WH(a:cJ b7)(m:Int)(h:0≤m): -1≤s7 a m∧s7 a m≤m:=wm uO a m h
theorem am6(a:cJ b7)(hw:a.wf fun t=>t.wf)(m:Int)(bq:0≤m)(J:m≤1048576):bK al 32 [oB a,.int .i64 m] (.int .i64 (s7 a m)):=MR a (fun p n c e=>by subst e;exact hw) (fun xs e x ad m bq J=>by subst e;exact Xp x (hw x ad) m bq J) m bq J
theorem anh(l:List bJ):bK al 34 [.slice 4 .no (l.map enc)] (.slice 4 .no (l.map enc)):=Xt l fun x _=>Xs x
theorem amp(l:List bJ):bK al 36 [.slice 4 .no (l.map enc),.slice 4 .no (l.map enc)] (.bool true):=W7 l fun x _=>W6 x
theorem alE{r:nX}{jJ:Int}(hw:r.wf)(Sz:jJ≤1048576)(apc:0≤jJ)(h:0≤wo r jJ):∃u:hV,r=u.h∧(h8 u.m→u.m.length≤524288):=by
 obtain⟨n,b,d,k,l⟩:=r;obtain⟨ea,di,oD,mw⟩:=hw;simp only at ea di oD mw;unfold wo at h;simp only at h;have b8:=AF b jJ (by omega);split at h
 ·omega
 have b3:=wm AF d (jg b jJ) (by omega);split at h
 ·omega
 have fG:=WB k (gL jg d (jg b jJ)) (by omega);split at h
 ·omega
 split at h
 ·omega
 obtain⟨b2,rfl⟩:=Wy b jJ ea (by omega) (by omega) (by omega);obtain⟨b9,rfl⟩:=GS AF (P:=wB) Wy d (jg (tB b2) jJ) di (by omega) (by omega) (by omega);generalize gL jg (.l (b9.map tB)) (jg (tB b2) jJ)=bB at*;cases k with
 |b=>simp only[pq]at*;omega
 |l bM=>
  generalize pq (.l bM) bB=bS at*;have oU:=wm GV l bS (by omega);obtain⟨hq,rfl⟩:=GS GV (P:=fun x=>x.s.wf) alC l bS mw (by omega) (by omega) (by omega);refine⟨⟨n,b2,b9,bM,hq⟩,rfl,fun hm=>?_⟩;simp only at hm⊢;simp only[gL,nI]at h;split at h
  ·omega
  ·have:=WG hq _ (fun x ad=>ag8 (hm.at' x ad).2) h;simp only[p6]at this;omega
theorem wq.of{m:List bg}(h:m.length≤524288):wq m:=⟨m.map (·.s),by simp;omega,fun _ ad=>List.mem_map_of_mem ad⟩
@[simp high] theorem aq1(d:cJ b7)(r:List ah):gn (oB d::r)=true:=by cases d<;>rfl
theorem alG{a:cJ b7}(hw:a.wf fun t=>t.wf){m:Int}(bq:0≤m)(J:m≤1048576)(h:0≤s7 a m):∃l:List bJ,a= .l (l.map qL):=GS uO (P:=fun t=>t.wf) (fun x m bH J bq h=>Ms x m bH J bq h) a m hw J bq h
structure oL where
 t:cJ b7
 s:nX
def oL.e(a:oL):ah:= .agg [oB a.t,.int .i64 a.s.n,jV a.s.b,oY a.s.d,pc a.s.k,pg a.s.m]
structure oL.wf (a:oL):Prop where
 t:a.t.wf fun t=>t.wf
 s:a.s.wf
def s5(a:oL)(m:Int):Int:=if s7 a.t m<0 then-1 else if wo a.s (s7 a.t m)<0 then-1 else wo a.s (s7 a.t m)
structure ku where
 t:List bJ
 s:hV
def ku.e(a:ku):ah:= .agg [.slice 4 .no (a.t.map enc),.int .i64 a.s.n,.slice 5 .no (a.s.b.map cX.e),.slice 1 .no (a.s.d.map fQ),.slice 2 .no (a.s.k.map bL.e),.slice 2 .no (a.s.m.map bg.e)]
def ku.h(a:ku):oL:=⟨.l (a.t.map qL),a.s.h⟩
theorem Yn(a:ku):a.h.e=a.e:=by have h:=alo a.s;simp only[nX.e,hV.e,ah.agg.injEq,nQ,and_true]at h;obtain⟨J,U,ao,a7,bZ⟩:=h;simp only[oL.e,ku.e,ku.h,alQ,ah.agg.injEq,nQ,and_true,true_and];exact⟨J,U,ao,a7,bZ⟩
theorem alA{a:oL}(hw:a.wf){m:Int}(bq:0≤m)(J:m≤1048576)(h:0≤s5 a m):∃u:ku,a=u.h∧(h8 u.s.m→wq u.s.m):=by
 obtain⟨t,s⟩:=a;obtain⟨ea,di⟩:=hw;have hle:=WH t m bq;unfold s5 at h;simp only at h ea di;split at h
 ·omega
 split at h
 ·omega
 obtain⟨l,rfl⟩:=alG ea bq J (by omega);obtain⟨u,rfl,hu⟩:=alE di (by omega) (by omega) h;exact⟨⟨l,u⟩,rfl,fun hm=>wq.of (hu hm)⟩
theorem alF(l:List bJ)(m:Int)(h:0≤s7 (.l (l.map qL)) m):(l.length:Int)≤m:=by
 unfold s7 at h;simp only[gL,nI]at h;split at h
 ·omega
 ·simp only[p6]at*;omega
theorem alz(r:ku){m:Int}(h:0≤s5 r.h m)(J:m≤1048576:=by omega):r.t.length≤1048576:=by
 unfold s5 at h;split at h
 ·omega
 ·rename_i U;have:=alF r.t m (by have:r.h.t= .l (r.t.map qL):=rfl;rw[this]at U;omega)
  omega
theorem amZ(a:oL)(hw:a.wf)(m:Int)(bq:0≤m)(J:m≤1048576):bK al 21 [a.e,.int .i64 m] (.int .i64 (s5 a m)):=by
 obtain⟨t,s⟩:=a;obtain⟨ea,di⟩:=hw;simp only at ea di;have aZ:=am6 t ea m bq J;have b8:=WH t m bq;generalize a1:s5 ⟨t,s⟩ m=R;unfold s5 at a1;simp only at a1;generalize s7 t m=a6 at aZ b8 a1;have bI:=fun h=>am5 s di a6 h (by omega);generalize wo s a6=bB at bI a1;clear ea di b8;obtain⟨n,b,d,k,l⟩:=s;simp only[nX.e,oL.e]at bI⊢;by_cases g1:a6<0
 ·rw[if_pos g1]at a1;subst a1;clear bI;refine bm hQ IC K2 fun aQ=>?_;unfold D2;simp[-gn];(with_reducible repeat' first|refine aj ?_|refine aE aZ ?_|refine aF aZ ?_|simp[g1,-gn]);all_goals simp[bu,Gk,aV,aW,aU]
 rw[if_neg g1]at a1;have bI:=bI (by omega);by_cases g2:bB<0
 ·rw[if_pos g2]at a1;subst a1;refine bm hQ IC K2 fun aQ=>?_;unfold D2;simp[-gn];(with_reducible repeat' first|refine aj ?_|refine aE aZ ?_|refine aF aZ ?_|refine aE bI ?_|refine aF bI ?_|simp[g1,g2,-gn]);all_goals simp[bu,Gk,aV,aW,aU]
 rw[if_neg g2]at a1;subst a1;refine bm hQ IC K2 fun aQ=>?_;unfold D2;simp[-gn];(with_reducible repeat' first|refine aj ?_|refine aE aZ ?_|refine aF aZ ?_|refine aE bI ?_|refine aF bI ?_|simp[g1,g2,-gn]);all_goals simp[bu,Gk,aV,aW,aU]
theorem am9(a:ku):bK al 23 [a.e] a.e:=by obtain⟨t,s⟩:=a;have aZ:=anh t;have bI:=ang s;obtain⟨n,b,d,k,l⟩:=s;simp only[hV.e,ku.e]at bI⊢;refine bm hQ abA aic fun aQ=>?_;unfold OW;exact b6
theorem ami(a:ku):bK al 25 [a.e,a.e] (.bool true):=by obtain⟨t,s⟩:=a;have aZ:=amp t;have bI:=amo s;obtain⟨n,b,d,k,l⟩:=s;simp only[hV.e,ku.e]at bI⊢;refine bm hQ abo ah1 fun aQ=>?_;unfold OL;exact b6
def gC:T→List Int→List Int
 | .var n,l=>if n∈l then l else l++[n]
 | .pair a b,l=>gC b (gC a l)
 |_,l=>l
def fT(u:List T)(l:List Int):List Int:=u.foldl (fun l t=>gC t l) l
theorem Lc{m:Int}:∀(t:T) {l:List Int},m∈gC t l↔m∈l∨t.occ m=true
 | .var n,l=>by
  simp only[gC,T.occ,dL];split
  ·rename_i h;exact⟨.inl,fun cr=>cr.elim id fun e=>by subst e;exact h⟩
  ·rw[jP,List.mem_singleton];exact or_congr Iff.rfl eq_comm
 | .pair a b,l=>by simp only[gC,Lc b,Lc a,T.occ,lF,or_assoc]
 | .nil,l=>by simp[gC,T.occ]
 | .sym _,l=>by simp[gC,T.occ]
 | .num _,l=>by simp[gC,T.occ]
theorem Ld:∀(t:T) {l:List Int},l.Nodup→(gC t l).Nodup
 | .var n,l,h=>by
  simp only[gC];split
  ·exact h
  ·rename_i aA;rw[List.nodup_append];exact⟨h,by simp,fun a bD b ae e=>by rw[List.mem_singleton.1 ae]at e;rw[e]at bD;exact aA bD⟩
 | .pair a b,l,h=>Ld b (Ld a h)
 | .nil,_,h=>h
 | .sym _,_,h=>h
 | .num _,_,h=>h
theorem F3:∀(t:T) (l:List Int),(gC t l).length≤l.length+t.size
 | .var n,l=>by simp only[gC,T.size];split<;>simp<;>omega
 | .pair a b,l=>by have J:=F3 a l;have U:=F3 b (gC a l);simp only[gC,T.size];omega
 | .nil,l=>by simp[gC]
 | .sym _,l=>by simp[gC]
 | .num _,l=>by simp[gC]
theorem F5{m:Int}:∀(u:List T) {l:List Int},m∈fT u l↔m∈l∨ ∃t∈u,t.occ m=true
 |[],l=>by simp[fT]
 |t::u,l=>by show m∈fT u (gC t l)↔_;rw[F5 u,Lc];simp[or_assoc]
theorem Le:∀(u:List T) {l:List Int},l.Nodup→(fT u l).Nodup
 |[],_,h=>h
 |t::u,_,h=>Le u (Ld t h)
theorem DQ{f:Int→Int}:∀{t:T},t.ap (fun v=>.var (f v))=t↔∀v,t.occ v=true→f v=v
 | .var n=>by simp[T.ap,T.occ]
 | .pair a b=>by simp only[T.ap,T.pair.injEq,T.occ,lF,DQ (t:=a),DQ (t:=b)];exact⟨fun h v aJ=>aJ.elim (h.1 v) (h.2 v),fun h=>⟨fun v aJ=>h v (.inl aJ),fun v aJ=>h v (.inr aJ)⟩⟩
 | .nil=>by simp[T.ap,T.occ]
 | .sym _=>by simp[T.ap,T.occ]
 | .num _=>by simp[T.ap,T.occ]
theorem YN{u:List T}{f:Int→Int}(aH:∀(i:Nat) v,(fT u [])[i]? =some v→f v=(i:Int)):(∀t∈u,t.ap (fun v=>.var (f v))=t)↔∀(i:Nat) v,(fT u [])[i]? =some v→v=(i:Int):=by
 constructor
 ·intro h i v aJ;have hm:=eo aJ;rw[F5]at hm;rcases hm with hm|⟨t,aL,av⟩
  ·simp at hm
  ·rw[←DQ.1 (h t aL) v av];exact aH i v aJ
 ·intro h t aL;rw[DQ];intro v aJ;have hm:v∈fT u []:=(F5 u).2 (.inr ⟨t,aL,aJ⟩);obtain⟨i,hi⟩:=List.mem_iff_getElem?.1 hm;rw[aH i v hi];exact(h i v hi).symm
theorem acO(t:T):∀l:List Int,t.fold oQ l=gC t l:=by
 induction t with
 |pair a b dM dN=>intro l;simp only[T.fold,gC,dM,dN]
 |_=>intro l;rfl
theorem UW(u:List T)(t:T)(l:List Int):fT (u++[t]) l=gC t (fT u l):=by simp[fT,List.foldl_append]
def rz:List Int→Int→Nat
 |[],_=>0
 |x::r,v=>if x=v then 0 else rz r v+1
theorem SP:∀{l:List Int} (_:l.Nodup) {i:Nat} {v:Int},l[i]? =some v→rz l v=i
 |[],_,i,v,h=>by simp at h
 |x::r,aA,0,v,h=>by simp at h;simp[rz,h]
 |x::r,aA,i+1,v,h=>by simp only[List.getElem?_cons_succ]at h;have hm:=eo h;have Sk:=List.nodup_cons.1 aA;have:x≠v:=fun e=>Sk.1 (e▸hm);rw[rz,if_neg this,SP Sk.2 h]
theorem alx(g:Int→Int)(t:T):t.sub (fun v=>some (.var (g v)))=t.ap (fun v=>.var (g v)):=by
 induction t with
 |pair a b dM dN=>simp only[T.sub,T.ap,dM,dN]
 |_=>rfl
def Ap(o:List Int)(t:T):T:=t.sub fun v=>some (.var (rz o v))
def wW(u:List T):List T:=u.map (Ap (fT u []))
theorem T5{α:Type}(f:α→α):∀l:List α,l.map f=l↔∀x∈l,f x=x
 |[]=>by simp
 |x::r=>by simp[T5 f r]
def Dn(o:List Int):Prop:= ∀(i:Nat) (v:Int),o[i]? =some v→v=i
theorem YM(u:List T):wW u=u↔Dn (fT u []):=by
 unfold wW;rw[T5];have aA:(fT u []).Nodup:=Le u (by simp);have:=YN (u:=u) (f:=fun v=>(rz (fT u []) v:Int)) fun i v h=>by rw[SP aA h]
 rw[show Dn (fT u [])↔_ from this.symm];exact forall_congr' fun t=>forall_congr' fun _=>by rw[Ap,alx]
theorem F4(u:List T):∀l:List Int,(∀t∈u,t.fit=true)→(fT u l).length≤l.length+5000*u.length:=by
 induction u with
 |nil=>intro l _;simp[fT]
 |cons t r bN=>intro l aL;have J:=bN (gC t l) fun x ad=>aL x (oK _ ad);have U:=F3 t l;have ao:=aL t (List.mem_cons_self ..);simp only[T.fit,cA,fm]at ao;have a7:fT (t::r) l=fT r (gC t l):=rfl;rw[a7];simp only[oJ];omega
end Go.Proofs.YtohaalphocaebaaGreat
namespace Go.Proofs.YtohaalphocaebaaGreat
open Go Go.Pv
section
variable {α:Type} (S:α→cE) (f:Int→α→α) (e5:Nat→α→Prop)
theorem acN(y6:∀n v a,e5 (n+1) a→e5 n (f v a))(eu:∀n a,e5 (n+1) a→e5 n a)(t:T):∀n a,e5 (n+t.size) a→e5 n (t.fold f a):=by
 induction t with
 |var v=>intro n a h;exact y6 n v a h
 |pair x y lS nB=>intro n a h;refine nB n _ (lS _ a (eu _ _ ?_));simp only[T.size]at h;rwa[show n+y.size+x.size+1=n+(1+x.size+y.size) by omega]
 |_=>intro n a h;exact eu n a h
theorem ac8(dk:∀a,dT (S a))(dX:∀a b,Same (S a) (S b))(g:Nat)(da:List ah)(aw:∀a,aG (inObs (S a)) da)(cO:cY da=da)(y6:∀n v a,e5 (n+1) a→e5 n (f v a))(eu:∀n a,e5 (n+1) a→e5 n a)(aH:∀n v a,e5 (n+1) a→bF al g (.int .i64 v::da) (S a) fun r ai=>r= .tuple []∧ai=S (f v a))(t:T):
  ∀n a,e5 (n+t.size) a→bF al 129 [t.e,.func g da] (S a) fun r ai=>r= .tuple []∧ai=S (t.fold f a):=by
 have aA:∀a m,Pv.look (.loc m) (S a).b=none:=fun a=>(dk a).obj.1;have hu:∀a m cs,cw (.loc m) cs (S a).b=(S a).b++[(.loc m,cs)]:=fun a m cs=>jB (aA a m);have av:∀a m,aD.loc m∉cW (S a):=fun a=>jx (dk a).obj;induction t with
 |pair x y lS nB=>intro n a af;simp only[T.size]at af;have gH:e5 (n+y.size+x.size) a:=eu _ _ (by rwa[show n+y.size+x.size+1=n+(1+x.size+y.size) by omega]);have xL:=lS _ a gH;have rB:=nB n (x.fold f a) (acN f e5 y6 eu x _ a gH);clear lS nB aH y6 eu;have ag:=dk a;refine bF.mk mixed fO tI uv (by simp) ag.obj fun aQ cN=>?_;unfold sd;simp[hu,av,cD,aA,cO];(with_reducible repeat' first|refine aj ?_|simp[hu,av,cD,aA]);refine cV.ob xL ag aO aO (by simp[aw]) ?_;rintro r ai ⟨rfl,rfl⟩;refine⟨dX _ _,?_⟩;simp[gA,hT,cn,aA];(with_reducible repeat' first|refine aj ?_|simp[hu,av,cD,aA]);rw[cO];refine cV.ob rB (dk (x.fold f a)) aO aO (by simp[aw]) ?_;rintro r ai ⟨rfl,rfl⟩;refine⟨dX _ _,?_⟩;simp[gA,hT,cn,aA];refine cH.at (S (y.fold f (x.fold f a))) (.inr rfl) (dk _) (dX _ _) aO aO ?_;simp[cI,sV,aV,aW,aU];simp[T.fold]
 |var v=>intro n a af;have af6:=aH n v a af;clear aH y6 eu;have ag:=dk a;refine bF.mk mixed fO tI uv (by simp) ag.obj fun aQ cN=>?_;unfold sd;simp[hu,av,cD,aA,cO];(with_reducible repeat' first|refine aj ?_|simp[hu,av,cD,aA]);refine cV.ob af6 ag aO aO (by simp[aw]) ?_;rintro r ai ⟨rfl,rfl⟩;refine⟨dX _ _,?_⟩;simp[gA,hT,cn,aA,cD];refine cH.at (S (f v a)) (.inr rfl) (dk _) (dX _ _) aO aO ?_;simp[cI,sV,aV,aW,aU];simp[T.fold]
 |_=>intro n a af;clear aH y6 eu;have ag:=dk a;refine bF.mk mixed fO tI uv (by simp) ag.obj fun aQ cN=>?_;unfold sd;simp[hu,av,cD,aA,cO];(with_reducible repeat' first|refine aj ?_|simp[hu,av,cD,aA]);refine cH.at (S a) (.inr rfl) ag (Same.refl _) aO aO ?_;simp[cI,sV,aV,aW,aU];simp[T.fold]
end
def qE(l:List Int):List (Int×Bool):=l.map fun v=>(v,true)
theorem My(v:Int):∀l:List Int,cZ v (qE l)=if v∈l then some true else none
 |[]=>rfl
 |x::l=>by have bN:=My v l;simp only[qE]at bN;simp only[qE,gM,cZ,bN,fK];by_cases h:v=x<;>simp[h]
theorem alP{v:Int}{l:List Int}(h:v∉l):eC v true (qE l)=qE (l++[v]):=by rw[GX (by rw[My,if_neg h])];simp[qE]
def nV(n:Nat)(m:List (Int×Bool))(xs:List ah):cE:=⟨[(.obj 862,[.row 1 (.obj 861) n]),(.obj 863,pe m),(.obj 864,[.gmap (.obj 863)])],[(.obj 861,⟨n,3,1,some xs⟩)]⟩
def ky(l:List Int):cE:=nV l.length (qE l) (du l)
theorem DJ(l:List Int):dT (ky l):=by unfold ky nV;refine dT.of ⟨by intro m;simp[Pv.look],by intro m;simp[Pv.look]⟩ (by simp[aG,aB,inObs,Pv.look]) ?_;intro x ad xs gY;simp at ad;subst ad;simp at gY;subst gY;simp
theorem Hp(l aX:List Int):Same (ky l) (ky aX):=Same.keys rfl rfl
theorem X1(l:List Int){n:Nat}{m:List (Int×Bool)}{xs:List ah}(aA:n=l.length)(hm:m=qE l)(ad:xs=du l):nV n m xs=ky l:=by subst aA ad hm;rfl
theorem adj(v:Int)(l:List Int)(ar:l.length≤10000000000):bF al 155 [.int .i64 v,.ptr (.obj 864) 0,.ptr (.obj 862) 0] (ky l) fun r ai=>r= .tuple []∧ai=ky (oQ v l):=by
 have ag:=DJ l;have aL:=My v l;by_cases h:v∈l
 ·rw[if_pos h]at aL;rw[show oQ v l=l from if_pos h];unfold ky nV at ag⊢;generalize qE l=m at aL ag⊢;refine bF.mk mixed hQ QL UD (by simp) ag.obj fun aQ cN=>?_;unfold HR;simp[aL];(with_reducible repeat' first|refine aj ?_|simp[aL]);all_goals refine cH.at _ (.inr rfl) ag (Same.refl _) aO aO ?_
  all_goals simp[cI,Ls,aV,aW,aU]
 ·rw[if_neg h]at aL;have bH:=alP h;have eO:=DJ (oQ v l);have ak:nV (l.length+1) (eC v true (qE l)) (du l++[.int .i64 v])=ky (oQ v l):=by rw[show oQ v l=l++[v]from if_neg h];exact X1 _ (by simp) bH (J6 l v)
  have bI:=Hp l (oQ v l);rw[←ak]at eO bI⊢;simp only[ky,nV]at ag eO bI⊢;generalize qE l=m at aL ag eO bI⊢;clear bH ak;refine bF.mk mixed hQ QL UD (by simp) ag.obj fun aQ cN=>?_;unfold HR;simp[aL];(with_reducible repeat' first|refine aj ?_|simp[aL]);all_goals first|(refine⟨by unfold lim;omega,?_⟩)|skip
  all_goals(with_reducible repeat' first|refine aj ?_|simp[aL])
  all_goals refine cH.at _ (.inr rfl) eO bI aO aO ?_
  all_goals simp[cI,Ls,aV,aW,aU]
end Go.Proofs.YtohaalphocaebaaGreat
namespace Go.Proofs.YtohaalphocaebaaGreat
open Go Go.Pv
def r7(n:Nat)(l:List Int):Prop:=l.length+n≤10000000000
theorem XR(n:Nat)(v:Int)(a:List Int)(h:r7 (n+1) a):r7 n (oQ v a):=by
 unfold r7 at*;unfold oQ;split
 ·omega
 ·simp only[oI,List.length_singleton];omega
theorem XQ(n:Nat)(a:List Int)(h:r7 (n+1) a):r7 n a:=by unfold r7 at*;omega
theorem Xm(u:List T)(hu:u.length≤1048576)(aH:∀t∈u,t.fit=true):bK al 71 [.slice 4 .no (u.map T.e)] (.slice 1 .no (du (fT u []))):=by
 have hlen:=fun i=>F4 (u.take i) [] fun t aL=>aH t (List.mem_of_mem_take aL);have a8:=fun(t:T) (l:List Int) (h:r7 (0+t.size) l)=>ac8 ky oQ r7 DJ Hp 155 [.ptr (.obj 864) 0,.ptr (.obj 862) 0] (by intro a;simp[inObs,ky,nV,Pv.look,aG,aB]) (by simp) XR XQ (fun n v a h=>adj v a (by unfold r7 at h;omega)) t 0 l h;refine bm hQ abf ahS fun aQ=>?_;unfold OC;clear aQ;simp;refine gP (fun i (_:Unit)=>⟨[(3,.ptr (.obj 862) 0),(4,.ptr (.obj 864) 0),(9,.slice 4 .no (u.map T.e)),(10,.int .i64 u.length),(11,.int .i64 i)],(ky (fT (u.take i) [])).b,(ky (fT (u.take i) [])).e,0,[.obj 861,.obj 862,.obj 863,.obj 864]⟩) u.length (fun _ _=>True) () (by simp[ky,nV,fT,qE];exact bV) trivial (fun _ _ _=>?_) (fun i _ hi _ _=>?_)
 ·simp only[k6,ky,nV];exact b6
 ·obtain⟨b,ae,cy⟩:=dV hi;have Je:=aH b (eo ae);simp only[T.fit,cA,fm]at Je;have BT:=hlen i;simp only[List.length_take,List.length_nil]at BT;have nz:fT (u.take (i+1)) []=b.fold oQ (fT (u.take i) []):=by rw[nR,ae,acO];exact UW _ _ _
  have Cp:=a8 b (fT (u.take i) []) (by unfold r7;omega);rw[←nz]at Cp;clear a8 hlen nz BT;simp only[ky,nV];simp[hi,cy];(with_reducible repeat' first|refine aj ?_|simp[hi,cy]);refine cV.ob Cp (DJ _) (by unfold ky nV;exact aO) (by unfold ky nV;exact aO) (by simp[inObs,ky,nV,Pv.look]) ?_;rintro r ai ⟨rfl,rfl⟩;refine⟨Hp _ _,?_⟩;unfold ky nV;simp[cn];(with_reducible repeat' first|refine aj ?_|simp);all_goals refine bO.rng () hi trivial (by simp[ky,nV];exact bV)
theorem Fu(S:aD→Prop):∀a b:List ah,aG S (a++b)↔aG S a∧aG S b
 |[],b=>by simp[aG]
 |x::r,b=>by simp only[bP,aG,Fu S r b,and_assoc]
theorem TI(S:aD→Prop):∀(W:List T) (i:Nat),aG S (jQ i (List.map T.e W))
 |[],i=>by simp[aG]
 |_::_,0=>by simp[aG]
 |x::W,i+1=>by simp only[gM,List.take_succ_cons,aG];exact⟨by simp,TI S W i⟩
def lv:List Int→Nat→List (Int×Int)
 |[],_=>[]
 |v::r,k=>(v,(k:Int))::lv r (k+1)
theorem S5(v:Int):∀(l:List Int) (k:Nat),lv (l++[v]) k=lv l k++[(v,((k+l.length:Nat):Int))]
 |[],k=>by simp[lv]
 |x::l,k=>by simp only[bP,lv,S5 v l,oJ];rw[show k+1+l.length=k+(l.length+1) by omega]
theorem Mx(v:Int):∀(l:List Int) (k:Nat),cZ v (lv l k)=if v∈l then some ((k+rz l v:Nat):Int)else none
 |[],k=>rfl
 |x::l,k=>by
  simp only[lv,cZ,Mx v l,fK,rz];by_cases h:v=x
  ·subst h;simp
  ·simp only[h,if_false,false_or,if_neg fun e:x=v=>h e.symm];split
   ·congr 1;omega
   ·rfl
theorem alO{v:Int}{l:List Int}(h:v∉l):eC v (l.length:Int) (lv l 0)=lv (l++[v]) 0:=by rw[GX (by rw[Mx,if_neg h]),S5];simp
theorem alT{v:Int}{l:List Int}(h:v∈l):hR (lv l 0) v=(rz l v:Int):=by unfold hR;rw[Mx,if_pos h];simp
theorem Kw:kZ []=jf []:=rfl
def qS(m:List (Int×Int)):cE:=⟨[(.obj 865,kZ m),(.obj 866,[.gmap (.obj 865)])],[]⟩
theorem Hk(m:List (Int×Int)):dT (qS m):=by unfold qS;exact dT.of ⟨by intro m;simp[Pv.look],by intro m;simp[Pv.look]⟩ (by simp[aG,aB,inObs,Pv.look]) (by simp)
theorem acZ(v:Int)(m:List (Int×Int)):bF al 154 [.int .i64 v,.ptr (.obj 866) 0] (qS m) fun r ai=>r= .tuple [(T.var (hR m v)).e,.bool true]∧ai=qS m:=by
 have ag:=Hk m;have pb:=kr (hR m v);unfold qS at ag⊢;refine bF.mk mixed hQ aaI ahl (by simp) ag.obj fun aQ cN=>?_;unfold N0;simp;(with_reducible repeat' first|refine aj ?_|refine aE pb ?_|refine aF pb ?_|simp);all_goals refine cH.at _ (.inl rfl) ag (Same.refl _) aO aO ?_
 all_goals simp[cI,Vb,aV,aW,aU]
theorem al3(u:List T)(hu:u.length≤1048576)(aH:∀t∈u,t.fit=true):bK al 70 [.slice 4 .no (u.map T.e)] (.slice 4 .no ((wW u).map T.e)):=by
 have aZ:=Xq u aH;have bI:=Xm u hu aH;have vr:(fT u []).Nodup:=Le u (by simp);have il:∀t∈u,∀v,t.occ v=true→v∈fT u []:=fun t aL v aJ=>(F5 u).2 (.inr ⟨t,aL,aJ⟩);have tZ:(fT u []).length≤10000000000:=by have:=F4 u [] aH;simp only[List.length_nil]at this;omega
 unfold wW;generalize fT u []=o at bI vr il tZ⊢;have dQ:=fun(t:T) (aL:t∈u)=>Rl (qS (lv o 0)) (Hk _) 154 [.ptr (.obj 866) 0] (by simp[inObs,qS,Pv.look,aG,aB]) (by simp) (fun v=>some (.var (rz o v))) t fun v aJ=>by have:=acZ v (lv o 0);rw[alT (il t aL v aJ)]at this;exact this
 clear il aH;obtain⟨W,sr⟩:∃W,W=u.map (Ap o):=⟨_,rfl⟩;rw[←sr];have ad0:W.length=u.length:=by rw[sr,p6]
 have adZ:∀(i:Nat) b,u[i]? =some b→W[i]? =some (Ap o b):=fun i b ae=>by rw[sr,List.getElem?_map,ae];rfl
 clear sr;refine bm hQ aaH ahk fun aQ=>?_;unfold NZ;clear aQ;simp;(with_reducible repeat' first|refine aj ?_|refine aE aZ ?_|refine aF aZ ?_|simp);(with_reducible repeat' first|refine aj ?_|refine aE bI ?_|refine aF bI ?_|simp);refine gP (fun i (_:Unit)=>⟨[(0,.slice 4 .no (u.map T.e)),(3,.ptr (.obj 866) 0),(14,.slice 1 .no (du o)),(15,.int .i64 o.length),(16,.int .i64 i)],[(.obj 865,kZ (lv (o.take i) 0)),(.obj 866,[.gmap (.obj 865)])],[],0,[.obj 865,.obj 866]⟩) o.length (fun _ _=>True) () (by simp[lv];exact⟨by simp[fresh,aG,aB,cg,inObs,Pv.look,Kw,lv],ec (by simp[fresh,aG,aB,cg,inObs,Pv.look,Kw,lv]),ed (by simp[fresh,aG,aB,dR,inObs,Pv.look,Kw,lv]),by simp⟩) trivial (fun _ _ _=>?_) (fun i _ hi _ _=>?_);rotate_left
 ·obtain⟨b,ae,cy⟩:=dV hi;have nz:eC b (i:Int) (lv (o.take i) 0)=lv (o.take (i+1)) 0:=by
   have fI:b∉o.take i:=fun hm=>by
    obtain⟨j,af⟩:=List.mem_iff_getElem?.1 hm;rw[List.getElem?_take]at af;split at af
    ·rename_i R5;have:=(List.getElem?_inj (by omega) vr).1 (af.trans ae.symm);omega
    ·cases af
   have:=alO fI;rw[List.length_take,Nat.min_eq_left (by omega)]at this;rw[this,nR,ae];rfl
  have zo:∀h,((du o)[i]'h)= .int .i64 b:=fun h=>by simp[du,cy]
  simp[hi,zo];(with_reducible repeat' first|refine aj ?_|simp[hi,zo]);all_goals refine bO.rng () hi trivial ⟨by simp[fresh,aG,aB,cg,inObs,Pv.look,nz],ec (by simp[fresh,aG,aB,cg,inObs,Pv.look,nz]),ed (by simp[fresh,aG,aB,dR,inObs,Pv.look,nz]),by simp⟩
 rw[k6];simp;(with_reducible repeat' first|refine aj ?_|simp);refine gP (fun i (_:Unit)=>⟨[(3,.ptr (.obj 866) 0),(26,.slice 4 .no (u.map T.e)),(27,.int .i64 u.length),(6,.slice 4 (.own (.loc 0)) ((W.take i).map T.e)),(28,.int .i64 i)],[(.obj 865,kZ (lv o 0)),(.obj 866,[.gmap (.obj 865)])],[(.loc 0,⟨i,32,4,none⟩)],1,[.obj 865,.obj 866]⟩) u.length (fun _ _=>True) () bV trivial (fun _ _ _=>?_) (fun i _ hi _ _=>?_)
 ·rw[←ad0,k6];exact b6
 ·obtain⟨b,ae,cy⟩:=dV hi;have kV:=dQ b (eo ae);have adY:=adZ i b ae;rw[show T.sub (fun v=>some (T.var (rz o v))) b=Ap o b from rfl]at kV;clear dQ;simp[hi,cy];(with_reducible repeat' first|refine aj ?_|simp[hi,cy]);refine cV.ob kV (Hk _) (by unfold qS;exact aO) (by unfold qS;exact aO) (by simp[inObs,qS,Pv.look]) ?_;rintro r ai ⟨rfl,rfl⟩;refine⟨Same.refl _,?_⟩;unfold qS;simp[cn];(with_reducible repeat' first|refine aj ?_|simp);all_goals first|(refine⟨by unfold lim;omega,?_⟩)|skip
  all_goals(with_reducible repeat' first|refine aj ?_|simp)
  have ad:jQ (i+1) (List.map T.e W)=jQ i (List.map T.e W)++[(Ap o b).e]:=by rw[nR,List.getElem?_map,adY];rfl
  have Jx:min i W.length=i:=by omega
  have BR:∀S:aD→Prop,aG S (jQ i (List.map T.e W)):=fun S=>TI S W i;all_goals refine bO.rng () hi trivial ⟨by simp[fresh,aG,aB,cg,inObs,Pv.look,ad,Jx,BR,Fu],ec (by simp[fresh,aG,aB,cg,inObs,Pv.look,ad,Jx,BR,Fu]),ed (by simp[fresh,aG,aB,dR,inObs,Pv.look,ad,Jx,BR,Fu]),by simp⟩
theorem alI{α:Type}{a b:List α}{i:Nat}{x y:α}(bD:a[i]? =some x)(ae:b[i]? =some y):a.take (i+1)=b.take (i+1)↔a.take i=b.take i∧x=y:=by
 rw[nR,nR,bD,ae];have J:(a.take i).length=i:=by have:=(fw.1 bD).1;simp;omega
 have U:(b.take i).length=i:=by have:=(fw.1 ae).1;simp;omega
 constructor
 ·intro h;obtain⟨ao,a7⟩:=List.append_inj h (J.trans U.symm);exact⟨ao,by simpa using a7⟩
 ·rintro⟨ao,rfl⟩;rw[ao]
theorem amW(x y:List T):bK al 69 [.slice 4 .no (x.map T.e),.slice 4 .no (y.map T.e)] (.bool (decide (x=y))):=by
 by_cases ar:x.length=y.length;rotate_left
 ·have:decide (x=y)=false:=k8 fun e=>ar (by rw[e]);rw[this];have BS:((x.length:Int) !=(y.length:Int))=true:=bne_iff_ne.2 (by omega);refine bm hQ QM UE fun aQ=>?_;unfold HS;exact b6
 generalize a1:decide (x=y)=R;have BS:((x.length:Int) !=(y.length:Int))=false:=by rw[bne_eq_false_iff_eq];omega
 refine bm hQ QM UE fun aQ=>?_;unfold HS;have eI:x.length≤68719476736:=by simp[eD,ef,et,lim]at aQ;omega
 clear aQ;simp[BS];(with_reducible repeat' first|refine aj ?_|simp[BS]);refine dW [0,1,12] (fun i (_:Unit)=>[(13,.int .i64 i)]) x.length (fun i _=>x.take i=y.take i) () bV (by simp) (fun _ af _=>?_) (fun i _ hi af _=>?_)
 ·have:R=true:=by rw[←a1,decide_eq_true_iff];rw[k6,ar,k6]at af;exact af
  subst this;exact b6
 ·obtain⟨b,ae,cy⟩:=dV hi;obtain⟨c,aw⟩:∃c,y[i]? =some c:=⟨_,cf (ar▸hi)⟩;have jE:∀h,(y[i]'h)=c:=fun h=>by rw[cf (ar▸hi)]at aw;exact fl aw
  have hl:i<y.length:=ar▸hi;have aZ:=rV b c;by_cases e:b=c
  ·rw[kN e]at aZ;have aA:x.take (i+1)=y.take (i+1):=(alI ae aw).2 ⟨af,e⟩;clear af a1;subst e;exact hd
  ·rw[k8 e]at aZ;have:R=false:=by rw[←a1,gr];rintro rfl;rw[ae]at aw;exact e (fl aw)
   subst this;clear af a1;exact b6
theorem W9(l:List bJ):bK al 64 [.slice 4 .no (l.map enc)] (.bool (l.all bJ.fits)):=by
 generalize a1:l.all bJ.fits=R;refine bm hQ ace aiQ fun aQ=>?_;unfold PB;have eI:l.length≤68719476736:=by simp[eD,ef,et,lim]at aQ;omega
 simp;refine dW [5,6] (fun i (_:Unit)=>[(7,.int .i64 i)]) l.length (oo bJ.fits l) () bV (fun k b ab=>by omega) (fun _ af _=>?_) (fun i _ hi af _=>?_)
 ·have:R=true:=by rw[←a1,ir];exact af.fin
  subst this;clear af a1;exact b6
 ·obtain⟨t,aL,pL⟩:=dV hi;have dn:=MQ t;cases g:t.fits
  ·rw[g]at dn;have:R=false:=by rw[←a1,List.all_eq_false];exact⟨t,eo aL,by rw[g];simp⟩
   subst this;clear aL af a1;exact b6
  ·rw[g]at dn;have aA:=af.step aL g;clear aL af a1;exact hd
theorem amv(u:List T)(h:∀t∈u,t.fit=true):bK al 64 [.slice 4 .no (u.map T.e)] (.bool true):=by have:=W9 (u.map T.tm);rwa[yR,show(u.map T.tm).all bJ.fits=true by rw[List.all_map,ir];exact fun t aL=>(bJ.fits_T t).trans (h t aL)]at this
def gi(l:List Int):cE:=⟨[],[(.obj 881,⟨l.length,3,1,some (du l)⟩)]⟩
theorem pA(l:List Int):dT (gi l):=by unfold gi;refine dT.of ⟨by intro m;simp[Pv.look],by intro m;simp[Pv.look]⟩ (by simp) ?_;intro x ad xs gY;simp at ad;subst ad;simp at gY;subst gY;simp
theorem AY(l aX:List Int):Same (gi l) (gi aX):=Same.keys rfl rfl
theorem ade(l:List Int)(n:Int)(eI:l.length≤10000000000):bF al 221 [.row 1 (.obj 881) l.length,.int .i64 n] (gi l) fun r ai=>r= .bool (decide (n∈l))∧ai=gi l:=by
 have ag:=pA l;generalize a1:decide (n∈l)=R;unfold gi at ag⊢;refine bF.mk mixed hQ ach aiT (by simp) ag.obj fun aQ cN=>?_;unfold PE;simp;refine dW [1,7,8] (fun i (_:Unit)=>[(9,.int .i64 i)]) l.length (fun i _=>n∉l.take i) () bV (by simp) (fun _ af _=>?_) (fun i _ hi af _=>?_)
 ·have:R=false:=by rw[←a1,gr];rwa[k6]at af
  subst this;clear af a1;simp;(with_reducible repeat' first|refine aj ?_|simp);all_goals refine cH.at _ (.inl rfl) ag (Same.refl _) aO aO ?_
  all_goals simp[cI,LD,aV,aW,aU]
 ·obtain⟨b,ae,cy⟩:=dV hi;have zo:∀h,((du l)[i]'h)= .int .i64 b:=fun h=>by simp[du,cy]
  by_cases e:b=n
  ·have:R=true:=by rw[←a1,decide_eq_true_iff,←e];exact eo ae
   subst this;clear af a1;simp[hi,zo];(with_reducible repeat' first|refine aj ?_|simp[hi,zo,e]);all_goals refine cH.at _ (.inl rfl) ag (Same.refl _) aO aO ?_
   all_goals simp[cI,LD,aV,aW,aU]
  ·have aA:n∉l.take (i+1):=by
    rw[nR,ae,jP];rintro(h|h)
    ·exact af h
    ·simp at h;exact e h.symm
   clear af a1;have he:(b==n)=false:=beq_eq_false_iff_ne.2 e;exact hd
theorem adf(t:T):∀l:List Int,l.length+t.size≤10000000000→bF al 148 [t.e,.row 1 (.obj 881) l.length] (gi l) fun r ai=>r= .row 1 (.obj 881) (gC t l).length∧ai=gi (gC t l):=by
 induction t with
 |var n=>
  intro l ar;simp only[T.size]at ar;have Fo:=ade l n (by omega);have ag:=pA l;by_cases h:n∈l
  ·rw[kN h]at Fo;have e:gC (.var n) l=l:=if_pos h;rw[e];clear e;unfold gi at ag⊢;refine bF.mk mixed hQ yW z6 (by simp) ag.obj fun aQ cN=>?_;unfold wU;simp;refine cV.ob Fo (pA _) (by unfold gi;exact aO) (by unfold gi;exact aO) (by simp[inObs,gi,Pv.look]) ?_;rintro r ai ⟨rfl,rfl⟩;refine⟨Same.refl _,?_⟩;unfold gi;simp[cn];(with_reducible repeat' first|refine aj ?_|simp);refine gP (fun i (_:Unit)=>⟨[(1,.row 1 (.obj 881) l.length),(23,.slice 4 .no []),(24,.int .i64 0),(25,.int .i64 i)],[],[(.obj 881,⟨l.length,3,1,some (du l)⟩)],1,[.obj 881]⟩) 0 (fun _ _=>True) () bV trivial (fun _ _ _=>?_) (fun i _ hi _ _=>absurd hi (by omega));simp;(with_reducible repeat' first|refine aj ?_|simp);refine cH.at _ (.inl rfl) ag (Same.refl _) aO aO ?_;simp[cI,x6,aV,aW,aU,inObs,Pv.look]
  ·rw[k8 h]at Fo;have e:gC (.var n) l=l++[n]:=if_neg h;have eO:=pA (l++[n]);have dX:=AY l (l++[n]);have ak:(⟨[],[(.obj 881,⟨l.length+1,3,1,some (du l++[.int .i64 n])⟩)]⟩:cE)=gi (l++[n]):=by simp[gi,J6]
   have aC:(l++[n]).length=l.length+1:=by simp
   rw[e,aC];rw[←ak]at eO dX⊢;clear e ak aC;unfold gi at ag dX⊢;refine bF.mk mixed hQ yW z6 (by simp) ag.obj fun aQ cN=>?_;unfold wU;simp;refine cV.ob Fo (pA _) (by unfold gi;exact aO) (by unfold gi;exact aO) (by simp[inObs,gi,Pv.look]) ?_;rintro r ai ⟨rfl,rfl⟩;refine⟨Same.refl _,?_⟩;unfold gi;simp[cn];(with_reducible repeat' first|refine aj ?_|simp);all_goals first|(refine⟨by unfold lim;omega,?_⟩)|skip
   all_goals(with_reducible repeat' first|refine aj ?_|simp)
   refine cH.at _ (.inl rfl) eO dX aO aO ?_;simp[cI,x6,aV,aW,aU,inObs,Pv.look]
 |pair a b dM dN=>
  intro l ar;simp only[T.size]at ar;have Cr:=F3 a l;have Ti:=dM l (by omega);have kb:=dN (gC a l) (by omega);have ag:=pA l;have eO:=pA (gC (.pair a b) l);have dX:=AY l (gC (.pair a b) l);have e:gC (.pair a b) l=gC b (gC a l):=rfl;rw[e]at eO dX⊢;clear e dM dN Cr;generalize gC a l=iH at Ti kb eO dX⊢;generalize gC b iH=gy at kb eO dX⊢;unfold gi at ag eO dX⊢;refine bF.mk mixed hQ yW z6 (by simp) ag.obj fun aQ cN=>?_;unfold wU;simp;(with_reducible repeat' first|refine aj ?_|simp);refine gP (fun i (L:List Int)=>⟨[(1,.row 1 (.obj 881) L.length),(23,.slice 4 .no [a.e,b.e]),(24,.int .i64 2),(25,.int .i64 i)],[],[(.obj 881,⟨L.length,3,1,some (du L)⟩)],1,[.obj 881]⟩) 2 (fun i L=>(i=0→L=l)∧(i=1→L=iH)∧(i=2→L=gy)) l bV ⟨fun _=>rfl,fun h=>by omega,fun h=>by omega⟩ (fun L af _=>?_) (fun i L hi af _=>?_)
  ·obtain rfl:=af.2.2 rfl;clear af;simp;(with_reducible repeat' first|refine aj ?_|simp);refine cH.at _ (.inl rfl) eO dX aO aO ?_;simp[cI,x6,aV,aW,aU,inObs,Pv.look]
  ·rcases(by omega:i=0∨i=1)with rfl|rfl
   ·obtain rfl:=af.1 rfl;clear af;simp;(with_reducible repeat' first|refine aj ?_|simp);refine cV.ob Ti (pA _) (by unfold gi;exact aO) (by unfold gi;exact aO) (by simp[inObs,gi,Pv.look]) ?_;rintro r ai ⟨rfl,rfl⟩;refine⟨AY _ _,?_⟩;unfold gi;simp[cn];(with_reducible repeat' first|refine aj ?_|simp);all_goals refine bO.rng (n:=2) (i:=0) iH (by omega) ⟨fun h=>by omega,fun _=>rfl,fun h=>by omega⟩ bV
   ·obtain rfl:=af.2.1 rfl;clear af;simp;(with_reducible repeat' first|refine aj ?_|simp);refine cV.ob kb (pA _) (by unfold gi;exact aO) (by unfold gi;exact aO) (by simp[inObs,gi,Pv.look]) ?_;rintro r ai ⟨rfl,rfl⟩;refine⟨AY _ _,?_⟩;unfold gi;simp[cn];(with_reducible repeat' first|refine aj ?_|simp);all_goals refine bO.rng (n:=2) (i:=1) gy (by omega) ⟨fun h=>by omega,fun h=>by omega,fun _=>rfl⟩ bV
 |nil=>intro l ar;have ag:=pA l;have e:gC T.nil l=l:=rfl;rw[e];clear e;unfold gi at ag⊢;refine bF.mk mixed hQ yW z6 (by simp) ag.obj fun aQ cN=>?_;unfold wU;simp;(with_reducible repeat' first|refine aj ?_|simp);refine gP (fun i (_:Unit)=>⟨[(1,.row 1 (.obj 881) l.length),(23,.slice 4 .no []),(24,.int .i64 0),(25,.int .i64 i)],[],[(.obj 881,⟨l.length,3,1,some (du l)⟩)],1,[.obj 881]⟩) 0 (fun _ _=>True) () bV trivial (fun _ _ _=>?_) (fun i _ hi _ _=>absurd hi (by omega));simp;(with_reducible repeat' first|refine aj ?_|simp);refine cH.at _ (.inl rfl) ag (Same.refl _) aO aO ?_;simp[cI,x6,aV,aW,aU,inObs,Pv.look]
 |sym s=>intro l ar;have ag:=pA l;have e:gC (T.sym s) l=l:=rfl;rw[e];clear e;unfold gi at ag⊢;refine bF.mk mixed hQ yW z6 (by simp) ag.obj fun aQ cN=>?_;unfold wU;simp;(with_reducible repeat' first|refine aj ?_|simp);refine gP (fun i (_:Unit)=>⟨[(1,.row 1 (.obj 881) l.length),(23,.slice 4 .no []),(24,.int .i64 0),(25,.int .i64 i)],[],[(.obj 881,⟨l.length,3,1,some (du l)⟩)],1,[.obj 881]⟩) 0 (fun _ _=>True) () bV trivial (fun _ _ _=>?_) (fun i _ hi _ _=>absurd hi (by omega));simp;(with_reducible repeat' first|refine aj ?_|simp);refine cH.at _ (.inl rfl) ag (Same.refl _) aO aO ?_;simp[cI,x6,aV,aW,aU,inObs,Pv.look]
 |num s=>intro l ar;have ag:=pA l;have e:gC (T.num s) l=l:=rfl;rw[e];clear e;unfold gi at ag⊢;refine bF.mk mixed hQ yW z6 (by simp) ag.obj fun aQ cN=>?_;unfold wU;simp;(with_reducible repeat' first|refine aj ?_|simp);refine gP (fun i (_:Unit)=>⟨[(1,.row 1 (.obj 881) l.length),(23,.slice 4 .no []),(24,.int .i64 0),(25,.int .i64 i)],[],[(.obj 881,⟨l.length,3,1,some (du l)⟩)],1,[.obj 881]⟩) 0 (fun _ _=>True) () bV trivial (fun _ _ _=>?_) (fun i _ hi _ _=>absurd hi (by omega));simp;(with_reducible repeat' first|refine aj ?_|simp);refine cH.at _ (.inl rfl) ag (Same.refl _) aO aO ?_;simp[cI,x6,aV,aW,aU,inObs,Pv.look]
theorem amc(u:List T)(hu:u.length≤1048576)(aH:∀t∈u,t.fit=true):bK al 66 [.slice 4 .no (u.map T.e)] (.slice 1 .no (du (fT u []))):=by
 have aZ:=amv u aH;have hlen:=fun i=>F4 (u.take i) [] fun t aL=>aH t (List.mem_of_mem_take aL);refine bm hQ aca aiN fun aQ=>?_;unfold Py;clear aQ;simp;(with_reducible repeat' first|refine aj ?_|refine aE aZ ?_|refine aF aZ ?_|simp);refine gP (fun i (_:Unit)=>⟨[(3,.row 1 (.obj 881) (fT (u.take i) []).length),(10,.slice 4 .no (u.map T.e)),(11,.int .i64 u.length),(12,.int .i64 i)],[],(gi (fT (u.take i) [])).e,0,[.obj 881]⟩) u.length (fun _ _=>True) () (by simp[gi,fT];exact bV) trivial (fun _ _ _=>?_) (fun i _ hi _ _=>?_)
 ·simp only[k6,gi];exact b6
 ·obtain⟨b,ae,cy⟩:=dV hi;have Je:=aH b (eo ae);simp only[T.fit,cA,fm]at Je;have BT:=hlen i;simp only[List.length_take,List.length_nil]at BT;have nz:fT (u.take (i+1)) []=gC b (fT (u.take i) []):=by rw[nR,ae];exact UW _ _ _
  have Cp:=adf b (fT (u.take i) []) (by omega);rw[←nz]at Cp;clear hlen nz BT;simp only[gi];simp[hi,cy];(with_reducible repeat' first|refine aj ?_|simp[hi,cy]);refine cV.ob Cp (pA _) (by unfold gi;exact aO) (by unfold gi;exact aO) (by simp[inObs,gi,Pv.look]) ?_;rintro r ai ⟨rfl,rfl⟩;refine⟨AY _ _,?_⟩;unfold gi;simp[cn];(with_reducible repeat' first|refine aj ?_|simp);all_goals refine bO.rng () hi trivial (by simp[gi];exact bV)
structure Nv (u:List T) (s:dU):Prop where
 f:∀t∈u,t.fit=true
 ok:Mh s
 b:s.b=[]
 up:Dn (fT u [])
 n:s.n=((fT u []).length:Nat)
def yC(a:ku):Prop:= ∃(u:List T) (s:dU),a.t=u.map T.tm∧a.s=s.r∧Nv u s
theorem Nw{u:List T}{s:dU}:yC ⟨u.map T.tm,s.r⟩↔Nv u s:=by
 constructor
 ·rintro⟨eQ,ai,J,U,ao⟩;have ak:=alM J;have aC:=dU.r_inj U;rw[ak,aC];exact ao
 ·intro h;exact⟨u,s,rfl,rfl,h⟩
theorem Nz(u:List T)(s:dU):(⟨u.map T.tm,s.r⟩:ku).e= .agg [.slice 4 .no (u.map T.e),.int .i64 s.n,.slice 5 .no (s.b.map au.e),.slice 1 .no (s.d.map cR),.slice 2 .no (s.k.map bL.e),.slice 2 .no (s.m.map bg.e)]:=by have h:[_,_,_,_,_]=[_,_,_,_,_]:=ah.agg.inj (Mj s);have U:=eZ (fun l=>ah.agg (.slice 4 .no (u.map T.e)::l)) h;rw[←yR]at U⊢;exact U
open Classical in
theorem al2(a:ku)(eu:h8 a.s.m→wq a.s.m)(ar:a.t.length≤1048576):bK al 24 [a.e] (.bool (decide (yC a))):=by
 have dn:=am8 a.t;have dq:=amd a.s fun h=>(eu h).w;generalize a1:decide (yC a)=R;obtain⟨t,s⟩:=a;simp only at dn dq eu ar;cases g1:t.all bJ.fits with
 |false=>
  rw[g1]at dn;have:R=false:=by rw[←a1,gr];rintro⟨u,ai,e,_,h⟩;simp only at e;subst e;rw[List.all_map,List.all_eq_false]at g1;obtain⟨x,ad,U⟩:=g1;exact U ((bJ.fits_T x).trans (h.f x ad))
  subst this;clear a1 eu ar;obtain⟨n,b,d,k,m⟩:=s;simp only[hV.e,ku.e]at dq⊢;refine bm hQ yT zY fun aQ=>?_;unfold wR;exact b6
 |true=>
  obtain⟨u,rfl,hu⟩:=IN g1;rw[g1,yR]at dn;by_cases g2:rQ s;rotate_left
  ·rw[k8 g2]at dq;have:R=false:=by rw[←a1,gr];rintro⟨eQ,ai,_,e,h⟩;exact g2 ⟨ai,e,h.ok⟩
   subst this;clear a1 eu ar g1 g2;obtain⟨n,b,d,k,m⟩:=s;simp only[hV.e,ku.e,yR]at dq⊢;refine bm hQ yT zY fun aQ=>?_;unfold wR;exact b6
  rw[kN g2]at dq;obtain⟨st,rfl,cO⟩:=g2;rw[Mj]at dq;rw[Nz];simp only[Nw]at a1;rw[p6]at ar;have aZ:=al3 u ar hu;have bI:=Xm u ar hu;have ck:=amW (wW u) u;obtain⟨n,b,d,k,m⟩:=st;by_cases g3:b=[];rotate_left
  ·have:R=false:=by rw[←a1,gr];exact fun h=>g3 h.b
   subst this;have acV:b.length≠0:=fun h=>g3 (List.length_eq_zero_iff.1 h);have Re:((b.length:Int) !=0)=true:=bne_iff_ne.2 (by omega);clear a1 eu ar cO hu g1 aZ bI ck;simp only[dU.e,mz]at dq⊢;refine bm hQ yT zY fun aQ=>?_;unfold wR;exact b6
  subst g3;have jq:R=true↔wW u=u∧n=((fT u []).length:Nat):=by rw[←a1,decide_eq_true_iff,YM];exact⟨fun h=>⟨h.up,h.n⟩,fun h=>⟨hu,cO,rfl,h.1,h.2⟩⟩
  generalize fT u []=o at bI jq;by_cases g4:wW u=u
  ·rw[kN g4]at ck;by_cases g5:n=(o.length:Nat)
   ·have:R=true:=jq.2 ⟨g4,g5⟩;subst this;clear jq a1 eu ar cO hu g1 g4;subst g5;simp only[dU.e,mz]at dq⊢;refine bm hQ yT zY fun aQ=>?_;unfold wR;exact b6
   ·have:R=false:=by cases R with|false=>rfl|true=>exact absurd (jq.1 rfl).2 g5
    subst this;clear jq a1 eu ar cO hu g1 g4;simp only[dU.e,mz]at dq⊢;refine bm hQ yT zY fun aQ=>?_;unfold wR;exact b6
  ·rw[k8 g4]at ck;have:R=false:=by cases R with|false=>rfl|true=>exact absurd (jq.1 rfl).1 g4
   subst this;clear jq a1 eu ar cO hu g1 g4;simp only[dU.e,mz]at dq⊢;refine bm hQ yT zY fun aQ=>?_;unfold wR;exact b6
open Classical in
theorem amR(a:ku)(eu:h8 a.s.m→wq a.s.m)(ar:a.t.length≤1048576):bK al 22 [a.e] (.bool (decide (yC a))):=by
 have dn:=W9 a.t;have dq:=amU a.s fun h=>(eu h).w;generalize a1:decide (yC a)=R;obtain⟨t,s⟩:=a;simp only at dn dq eu ar;cases g1:t.all bJ.fits with
 |false=>
  rw[g1]at dn;have:R=false:=by rw[←a1,gr];rintro⟨u,ai,e,_,h⟩;simp only at e;subst e;rw[List.all_map,List.all_eq_false]at g1;obtain⟨x,ad,U⟩:=g1;exact U ((bJ.fits_T x).trans (h.f x ad))
  subst this;clear a1 eu ar;obtain⟨n,b,d,k,m⟩:=s;simp only[hV.e,ku.e]at dq⊢;refine bm hQ Ep FW fun aQ=>?_;unfold Bb;exact b6
 |true=>
  obtain⟨u,rfl,hu⟩:=IN g1;rw[g1,yR]at dn;by_cases g2:rQ s;rotate_left
  ·rw[k8 g2]at dq;have:R=false:=by rw[←a1,gr];rintro⟨eQ,ai,_,e,h⟩;exact g2 ⟨ai,e,h.ok⟩
   subst this;clear a1 eu ar g1 g2;obtain⟨n,b,d,k,m⟩:=s;simp only[hV.e,ku.e,yR]at dq⊢;refine bm hQ Ep FW fun aQ=>?_;unfold Bb;exact b6
  rw[kN g2]at dq;obtain⟨st,rfl,cO⟩:=g2;rw[Mj]at dq;rw[Nz];simp only[Nw]at a1;rw[p6]at ar;have bI:=amc u ar hu;obtain⟨n,b,d,k,m⟩:=st;by_cases g3:b=[];rotate_left
  ·have:R=false:=by rw[←a1,gr];exact fun h=>g3 h.b
   subst this;have acV:b.length≠0:=fun h=>g3 (List.length_eq_zero_iff.1 h);have Re:(0:Int)<(b.length:Int):=by omega
   have aoS:0<b.length:=by omega
   have aoR:decide ((0:Int)<(b.length:Int))=true:=kN Re;clear a1 eu ar cO hu g1 bI;simp only[dU.e,mz]at dq⊢;refine bm hQ Ep FW fun aQ=>?_;unfold Bb;exact b6
  subst g3;have tZ:(fT u []).length≤10000000000:=by have:=F4 u [] hu;simp only[List.length_nil]at this;omega
  have jq:R=true↔Dn (fT u [])∧n=((fT u []).length:Nat):=by rw[←a1,decide_eq_true_iff];exact⟨fun h=>⟨h.up,h.n⟩,fun h=>⟨hu,cO,rfl,h.1,h.2⟩⟩
  generalize fT u []=o at bI jq tZ;clear a1 eu ar cO hu g1;simp only[dU.e,mz]at dq⊢;refine bm hQ Ep FW fun aQ=>?_;unfold Bb;clear aQ;simp;(with_reducible repeat' first|refine aj ?_|refine aE dn ?_|refine aF dn ?_|refine aE dq ?_|refine aF dq ?_|simp);(with_reducible repeat' first|refine aj ?_|refine aE bI ?_|refine aF bI ?_|simp);refine dW [1,3,26,27] (fun i (_:Unit)=>[(28,.int .i64 i)]) o.length (fun i _=> ∀(j:Nat) v,j<i→o[j]? =some v→v=j) () bV (fun j v h=>by omega) (fun _ af _=>?_) (fun i _ hi af _=>?_)
  ·have jX:Dn o:=fun j v aJ=>af j v (fw.1 aJ).1 aJ;by_cases g5:n=(o.length:Nat)
   ·have:R=true:=jq.2 ⟨jX,g5⟩;subst this;subst g5;clear jq af jX;exact b6
   ·have:R=false:=by cases R with|false=>rfl|true=>exact absurd (jq.1 rfl).2 g5
    subst this;have aoT:(n==(o.length:Int))=false:=beq_eq_false_iff_ne.2 g5;clear jq af jX;exact b6
  ·obtain⟨b,ae,cy⟩:=dV hi;have zo:∀h,((du o)[i]'h)= .int .i64 b:=fun h=>by simp[du,cy]
   by_cases e:b=(i:Int)
   ·have aA:∀(j:Nat) v,j<i+1→o[j]? =some v→v=j:=fun j v h aJ=>by
     by_cases R5:j<i
     ·exact af j v R5 aJ
     ·obtain rfl:j=i:=by omega
      rw[ae]at aJ;rw[←fl aJ];exact e
    clear af jq;subst e;exact hd
   ·have:R=false:=by cases R with|false=>rfl|true=>exact absurd ((jq.1 rfl).1 i b ae) e
    subst this;have fE:(b !=(i:Int))=true:=bne_iff_ne.2 e;clear af jq;exact b6
open Classical in
theorem al4(a:oL)(hw:a.wf):bK al 5 [a.e] (.bool true):=by
 have aZ:=amZ a hw 1048576 (by omega) (by omega);by_cases g:s5 a 1048576<0
 ·generalize s5 a 1048576=q at aZ g;clear hw;obtain⟨t,n,b,d,k,l⟩:=a;simp only[oL.e]at aZ⊢;refine bm hQ QO UG fun aQ=>?_;unfold HU;simp[-gn];(with_reducible repeat' first|refine aj ?_|refine aE aZ ?_|refine aF aZ ?_|simp[g,-gn]);all_goals simp[bu,Vy,aV,aW,aU]
 obtain⟨r,rfl,eu⟩:=alA (m:=1048576) hw (by omega) (by omega) (by omega);clear hw;rw[Yn]at aZ⊢;have bI:=am9 r;have ar:=alz (m:=1048576) r (by omega);have ck:=amR r eu ar;have eK:=al2 r eu ar;have c8:=ami r;clear eu ar;generalize s5 r.h 1048576=q at aZ g;generalize hF:decide (yC r)=Q at ck eK;clear hF;obtain⟨t,n,b,d,k,l⟩:=r;simp only[ku.e]at aZ bI ck eK c8⊢;refine bm hQ QO UG fun aQ=>?_;unfold HU;exact b6
end Go.Proofs.YtohaalphocaebaaGreat
namespace Go.Proofs.YtohaalphocaebaaGreat
open Go Go.Pv Go.ChangeShapes Go.WideShapes Go.ChangeAt Go.RowKit Go.Deep
theorem YS:al.cellsOf 51=6:=by kernel_rfl
theorem agp{α:Type}:∀{cs:List α},cs.length=6→∃a b c d e f,cs=[a,b,c,d,e,f]
 |[a,b,c,d,e,f],_=>⟨a,b,c,d,e,f,rfl⟩
section
variable {H:Type} {enc:fV×Value→H} {W:World} {spare:Nat→Bool} {held:Bool} {cs:List Value} {x:DataW H×List MemPlace} {fuel:Nat}
theorem alJ(h:h0 enc al W 0 spare held fuel 43 cs=some x):∃d:cJ b7,d.wf (fun t=>t.wf)∧∃v,cs=[v]∧sW W (oB d) v:=AB b7.e b7.wf Tryz.underlying43 Ee (by omega) (fun n' cs' Dy aA cr=>by obtain⟨t,t1,t2⟩:=WM _ _ _ cr;exact⟨t,t1,by rw[b7.e_eq];exact x7 t2⟩) h
theorem Yh(h:h0 enc al W 0 spare held fuel 51 cs=some x):∃a:oL,a.wf∧reads W a.e cs:=by
 obtain⟨xs,n,rfl,_,hlen,ju,aH⟩:=DataW.trod_struct Tryz.underlying51 h;rw[YS]at hlen;obtain⟨hW,bG,ch,c3,hD,j7,rfl⟩:=agp hlen;have Ce:xs.length=2:=ju;have f0:h0 enc al W 0 spare held n 43 (([hW,bG,ch,c3,hD,j7].drop 0).take (al.cellsOf 43))=xs[0]?:=aH 0 _ rfl;have f1:h0 enc al W 0 spare held n 49 (([hW,bG,ch,c3,hD,j7].drop 1).take (al.cellsOf 49))=xs[1]?:=aH 1 _ rfl;simp only[Qb,P9,my,jQ]at f0 f1;rw[cf (by omega)]at f0 f1;obtain⟨l,w0,v0,e8,r0⟩:=alJ f0;obtain⟨s,ea,u,hu,aK,av⟩:=aln f1;simp only[nQ,and_true]at e8;subst e8;simp only[nX.e,ba]at aK;obtain⟨us,rfl,aK⟩:=aK;have rq:us.toList=[bG,ch,c3,hD,j7]:=by simpa[oH]using hu
 rw[rq]at aK;refine⟨⟨l,s⟩,⟨w0,ea⟩,x7 ?_⟩;rw[c4];exact⟨_,_,rfl,⟨r0.1,r0.2.1⟩,aK⟩
end
theorem Yg{H:Type}{enc:fV×Value→H}{W:World}{spare:Nat→Bool}{held:Bool}{us:Array Value}{x:DataW H×List MemPlace}{fuel:Nat}(h:h0 enc al W 0 spare held fuel 51 us.toList=some x):∃r:oL,r.wf∧ba W (qW W) r.e (.agg us):=by obtain⟨r,aK,ae6⟩:=Yh h;exact⟨r,aK,akC ae6⟩
end Go.Proofs.YtohaalphocaebaaGreat
