/- From a contract to the row: answers. -/
import Derived.Test.YtohaalphocaebaaGreatProg
import Derived.Test.YtohaalphocaebaaGreatF6
set_option linter.all false
set_option maxHeartbeats 4000000
set_option maxRecDepth 4000
open Bool renaming and_eq_true->cC,eq_iff_iff->oG,or_eq_true->lH
open Go renaming TypeId->fZ
open Go.DataW renaming trod->ib
open Go.Extern.ReflectliteSwapper renaming swap->Cf
open Go.Proofs.Tryz renaming f7->kW,prog->ak
open Go.Proofs.YtohaalphocaebaaGreat.Rows renaming fnExactInstanceOfRow->j6,fnExactInstanceOfSpec->tb
open Go.Value renaming cells->pB
open Int renaming natCast_nonneg->rN
open Int.ofNat renaming inj->avO
open List renaming all_eq_true->ga,cons_append->bZ,drop->ng,getElem?_eq_getElem->cc,getElem?_eq_some_iff->eP,getElem?_map->qP,length_append->pC,length_cons->pD,length_map->oK,map_append->rO,map_cons->gS,map_nil->nh,mem_append->kn,mem_cons->fA,mem_cons_of_mem->oL,mem_map->hB,mem_of_getElem?->dE,pairwise_map->td,take->ko,take_length->jJ,take_succ->ma
open List.Pairwise renaming nil->E9
open List.Perm renaming eq_of_pairwise->I3
open List.cons renaming injEq->oJ
open Option renaming getD_none->nk,getD_some->jA,isSome_iff_exists->fU,isSome_none->mc,isSome_some->pE,map_some->nl
open Option.some renaming inj->eQ,injEq->dQ
open _root_ renaming Option->ba,UInt8->dM,beq_iff_eq->dV,congrArg->e2,decide_eq_false->hG,decide_eq_false_iff_not->fJ,decide_eq_true->gK,decide_eq_true_eq->fc
namespace Go.Proofs.YtohaalphocaebaaGreat
section
open Go
set_option maxRecDepth 100000 in
theorem acn:joinedFacts ak 7 kW tb j6=true:=(ix (ix (ix (ix (ix (ix (ix (ix (ix (ix (ix (ix (ix (ix (ix (ix (ix (ix (ix (ix (ix (ix (ix (ix (ix (ix (ix (ix (ix (ix (ix abP abQ) ab1) acd) acg) ach) aci) acj) ack) acm) abR) abS) abT) abU) abV) abW) abX) abY) abZ) ab0) ab2) ab3) ab4) ab5) ab6) ab7) ab8) ab9) aca) acb) ace) acf)
end
section
open Go Go.Pv
def RQ:C:=(aa [cO 2 0,a8 4 false] (aa [a1 5 4 2,cE 6 76 5,I 7 6,ao 7 true (a1 8 4 2),b4 7 true 9 1,ao 7 true (bY 10 77 8 9),dx 11 7 10,I 4 11] .ret))
@[simp] def anZ:List bN:=[.tmp 4]
def RY:C:=(aa [a8 2 false] (aa [I 3 0,cE 4 164 3,I 2 4] .ret))
@[simp] def an5:List bN:=[.tmp 2]
def FL:C:=(aa [cO 1 0,a8 2 false] (aa [a1 3 4 1,cE 4 76 3,I 5 4,ao 5 true (a1 6 4 1),⟨(some (5,true)),.call (some 7) (.c (.func 165 [])) [.t 6,(.c (.slice 1 .nil []))]⟩,ao 5 true (b2 8 7),ao 5 true (aT 9 .eql 8 0),dx 10 5 9,I 2 10] .ret))
@[simp] def Yh:List bN:=[.tmp 2]
def Sq:C:=(aa [cO 2 0,a8 4 false] (.seq (aa [aC 21 1 1 2,av 22 1 21,b2 23 22,bP 24 0] (eH 25 24 23 (.seq (.block 1 (aa [b9 26 5 22 24,a1 27 5 26,c9 6 iA,bM 5 6 27] (aa [I 29 1,aC 30 0 1 6,av 31 1 30,bY 32 161 29 31,I 28 32,cD 33 0 28,cD 34 1 28,c9 7 dj,bM 4 7 33,I 8 34] (aa [I 36 1,fi 37 1 4 6,a1 38 4 37,bY 39 166 36 38,I 35 39,cD 40 0 35,cD 41 1 35,c9 9 dj,bM 4 9 40,I 10 41] (aa [I 42 10,cn 43 42,I 44 43,ao 44 false (a1 45 4 7),ao 44 false (a1 46 4 9),ao 44 false (bY 47 167 45 46),ao 44 false (cn 48 47),cZ 49 44 48] (aS 49 (aa [a8 4 false] .ret) .skip)))))) (.region [aT 50 .add 24 1,I 24 50])))) (.seq (aa [aC 51 2 1 2,av 52 1 51,b2 53 52,bP 54 0] (.block 2 (.loop (aa [bh 55 .lss 54 53] (.seq (aS 55 .skip (.exit 2)) (.seq (.block 3 (aa [b9 56 1 52 54,av 57 1 56,I 12 57] (aa [I 58 12,I 59 1,bY 60 168 58 59,cn 61 60] (aS 61 (aa [a8 4 false] .ret) .skip)))) (.region [aT 62 .add 54 1,I 54 62]))))))) (.seq (aa [aC 63 3 1 2,av 64 1 63,b2 65 64,bP 66 0] (.block 4 (.loop (aa [bh 67 .lss 66 65] (.seq (aS 67 .skip (.exit 4)) (.seq (.block 5 (aa [b9 68 2 64 66,a1 69 2 68,cN (.alloc 14 none (.agg [.int .i64 0,.int .i64 0])),bM 2 14 69] (aa [I 71 1,aC 72 0 1 14,av 73 1 72,bY 74 161 71 73,I 70 74,cD 75 0 70,cD 76 1 70,c9 15 dj,bM 4 15 75,I 16 76] (aa [aC 77 0 1 15,av 78 1 77,aC 79 1 1 14,av 80 1 79,bh 81 .neq 78 80] (aS 81 (aa [a8 4 false] .ret) .skip))))) (.region [aT 82 .add 66 1,I 66 82]))))))) (.seq (aa [aC 83 4 1 2,av 84 1 83,b2 85 84,bP 86 0] (.block 6 (.loop (aa [bh 87 .lss 86 85] (.seq (aS 87 .skip (.exit 6)) (.seq (.block 7 (aa [b9 88 2 84 86,a1 89 2 88,cN (.alloc 18 none (.agg [.int .i64 0,.str []])),bM 2 18 89] (aa [I 91 1,aC 92 0 1 18,av 93 1 92,bY 94 161 91 93,I 90 94,cD 95 0 90,cD 96 1 90,c9 19 dj,bM 4 19 95,I 20 96] (aa [a1 97 4 19,aC 98 1 1 18,av 99 1 98,bY 100 29 97 99] (aS 100 (aa [a8 4 false] .ret) .skip))))) (.region [aT 101 .add 86 1,I 86 101]))))))) (aa [a8 4 true] .ret))))))
@[simp] def Yp:List bN:=[.tmp 4]
def FB:C:=(aa [cO 2 0,a8 4 false] (.seq (aa [I 17 1,cE 18 100 17,cn 19 18,I 20 19,b4 20 false 21 1,ao 20 false (b2 22 21),ao 20 false (aC 23 0 1 2),ao 20 false (av 24 1 23),ao 20 false (bh 25 .neq 22 24),cZ 26 20 25] (aS 26 (aa [a8 4 false] .ret) .skip)) (.seq (aa [I 27 1,b2 28 27,bP 29 0] (eH 30 29 28 (.seq (.block 1 (aa [I 31 29,b9 32 5 27 29,a1 33 5 32,c9 6 iA,I 5 31,bM 5 6 33] (aa [aC 34 0 1 6,av 35 1 34,I 36 5,bh 37 .neq 35 36,I 38 37,ao 38 false (fi 39 1 4 6),ao 38 false (a1 40 4 39),ao 38 false (cE 41 171 40),ao 38 false (cn 42 41),cZ 43 38 42] (aS 43 (aa [a8 4 false] .ret) .skip)))) (.region [aT 44 .add 29 1,I 29 44])))) (.seq (aa [aC 45 1 1 2,av 46 1 45,b2 47 46,bP 48 0] (.block 2 (.loop (aa [bh 49 .lss 48 47] (.seq (aS 49 .skip (.exit 2)) (.seq (.block 3 (aa [b9 50 5 46 48,a1 51 5 50,c9 8 iA,bM 5 8 51] (aa [I 53 1,fi 54 1 4 8,a1 55 4 54,bY 56 95 53 55,I 52 56,cD 57 0 52,cD 58 1 52,c9 9 dj,bM 4 9 57,I 10 58] (.seq (.drawn true 120 [I 59 10,cn 60 59,I 61 60,ao 61 false (a1 62 4 9),b4 61 false 63 1,ao 61 false (aC 64 0 1 8),ao 61 false (av 65 1 64),ao 61 false (b9 66 5 63 65),ao 61 false (fi 67 1 4 66),ao 61 false (a1 68 4 67),ao 61 false (bY 69 108 62 68),ao 61 false (cn 70 69),cZ 71 61 70]) (aS 71 (aa [a8 4 false] .ret) .skip))))) (.region [aT 72 .add 48 1,I 48 72]))))))) (.seq (aa [aC 73 2 1 2,av 74 1 73,b2 75 74,bP 76 0] (.block 4 (.loop (aa [bh 77 .lss 76 75] (.seq (aS 77 .skip (.exit 4)) (.seq (.block 5 (aa [b9 78 1 74 76,av 79 1 78,I 12 79] (aa [I 80 12,I 81 1,bY 82 172 80 81,cn 83 82] (aS 83 (aa [a8 4 false] .ret) .skip)))) (.region [aT 84 .add 76 1,I 76 84]))))))) (.seq (aa [aC 85 3 1 2,av 86 1 85,b2 87 86,bP 88 0] (.block 6 (.loop (aa [bh 89 .lss 88 87] (.seq (aS 89 .skip (.exit 6)) (.seq (.block 7 (aa [b9 90 2 86 88,a1 91 2 90,cN (.alloc 14 none (.agg [.int .i64 0,.int .i64 0])),bM 2 14 91] (.seq (.drawn true 120 [I 92 1,aC 93 0 1 14,av 94 1 93,b9 95 5 92 94,fi 96 1 4 95,aC 97 0 1 96,av 98 1 97,aC 99 1 1 14,av 100 1 99,bh 101 .neq 98 100]) (aS 101 (aa [a8 4 false] .ret) .skip)))) (.region [aT 102 .add 88 1,I 88 102]))))))) (.seq (aa [aC 103 4 1 2,av 104 1 103,b2 105 104,bP 106 0] (.block 8 (.loop (aa [bh 107 .lss 106 105] (.seq (aS 107 .skip (.exit 8)) (.seq (.block 9 (aa [b9 108 2 104 106,a1 109 2 108,cN (.alloc 16 none (.agg [.int .i64 0,.str []])),bM 2 16 109] (.seq (.drawn true 120 [I 110 1,aC 111 0 1 16,av 112 1 111,b9 113 5 110 112,fi 114 1 4 113,a1 115 4 114,aC 116 1 1 16,av 117 1 116,bY 118 109 115 117]) (aS 118 (aa [a8 4 false] .ret) .skip)))) (.region [aT 119 .add 106 1,I 106 119]))))))) (aa [a8 4 true] .ret))))))))
@[simp] def H0:List bN:=[.tmp 4]
def RR:C:=(aa [a8 4 false] (.seq (aa [I 11 0,cE 12 142 11,cn 13 12] (aS 13 (aa [a8 4 false] .ret) .skip)) (.seq (aa [I 14 0,b2 15 14,bP 16 0] (eH 17 16 15 (.seq (.block 1 (aa [b9 18 5 14 16,a1 19 5 18,c9 6 iA,bM 5 6 19] (aa [aC 21 0 1 6,av 22 1 21,cE 23 91 22,I 24 1,bY 25 231 23 24,I 20 25,cD 26 0 20,cD 27 1 20,c9 7 dj,bM 4 7 26,I 8 27] (aa [fi 29 1 4 6,a1 30 4 29,I 31 1,bY 32 231 30 31,I 28 32,cD 33 0 28,cD 34 1 28,c9 9 dj,bM 4 9 33,I 10 34] (aa [I 35 8,I 36 35,b4 36 true 37 10,dx 38 36 37,I 39 38,ao 39 true (a1 40 4 7),ao 39 true (a1 41 4 9),ao 39 true (bY 42 167 40 41),ao 39 true (cn 43 42),dx 44 39 43] (aS 44 (aa [a8 4 true] .ret) .skip)))))) (.region [aT 45 .add 16 1,I 16 45])))) (aa [a8 4 false] .ret))))
@[simp] def an0:List bN:=[.tmp 4]
def Qn:C:=(aa [a8 4 false] (.seq (aa [I 11 0,cE 12 55 11,cn 13 12,I 14 13,b4 14 false 15 1,ao 14 false (cE 16 100 15),ao 14 false (cn 17 16),cZ 18 14 17] (aS 18 (aa [a8 4 false] .ret) .skip)) (.seq (aa [I 19 0,b2 20 19,bP 21 0] (eH 22 21 20 (.seq (.block 1 (aa [b9 23 5 19 21,a1 24 5 23,c9 6 iA,bM 5 6 24] (aa [I 26 1,aC 27 0 1 6,av 28 1 27,cE 29 96 28,bY 30 95 26 29,I 25 30,cD 31 0 25,cD 32 1 25,c9 7 dj,bM 4 7 31,I 8 32] (aa [I 34 1,fi 35 1 4 6,a1 36 4 35,bY 37 95 34 36,I 33 37,cD 38 0 33,cD 39 1 33,c9 9 dj,bM 4 9 38,I 10 39] (aa [I 40 8,I 41 40,b4 41 true 42 10,dx 43 41 42,I 44 43,ao 44 true (a1 45 4 7),ao 44 true (a1 46 4 9),ao 44 true (bY 47 108 45 46),ao 44 true (cn 48 47),dx 49 44 48] (aS 49 (aa [a8 4 true] .ret) .skip)))))) (.region [aT 50 .add 21 1,I 21 50])))) (aa [a8 4 false] .ret))))
@[simp] def XF:List bN:=[.tmp 4]
def JZ:C:=(aa [cO 2 0,c9 4 dj,a8 5 false] (.seq (aa [a1 8 4 2,cE 9 76 8,cn 10 9,I 11 10,b4 11 false 12 1,ao 11 false (cE 13 78 12),ao 11 false (cn 14 13),cZ 15 11 14] (aS 15 (aa [j5 16 dj [],bM 4 4 16,a8 5 false] .ret) .skip)) (aa [I 18 1,a1 19 4 2,bY 20 166 18 19,I 17 20,cD 21 0 17,cD 22 1 17,c9 6 dj,bM 4 6 21,I 7 22] (.seq (aa [I 23 7,cn 24 23] (aS 24 (aa [j5 25 dj [],bM 4 4 25,a8 5 false] .ret) .skip)) (aa [a1 26 4 6,cE 27 74 26,bM 4 4 27,a8 5 true] .ret)))))
@[simp] def an1:List bN:=[.cell 4 true 4,.tmp 5]
def v7:List (Nat×dH):=[
 (3,⟨1,8,.int .i64,.int .i64 0⟩),
 (9,⟨1,16,.str,.str []⟩),
 (23,⟨1,24,.slice 61,.slice 5 .nil []⟩),
 (24,⟨1,24,.slice 23,.slice 1 .nil []⟩),
 (25,⟨1,24,.slice 104,.slice 2 .nil []⟩),
 (26,⟨1,24,.slice 106,.slice 2 .nil []⟩),
 (28,⟨5,104,.struct [(0,3),(1,23),(2,24),(3,25),(4,26)],.agg [.int .i64 0,.slice 5 .nil [],.slice 1 .nil [],.slice 2 .nil [],.slice 2 .nil []]⟩),
 (30,⟨1,24,.slice 32,.slice 4 .nil []⟩),
 (32,⟨4,56,.struct [(0,3),(1,3),(2,9),(3,30)],.agg [.int .i64 0,.int .i64 0,.str [],.slice 4 .nil []]⟩),
 (61,⟨5,64,.struct [(0,3),(1,32)],.agg [.int .i64 0,.int .i64 0,.int .i64 0,.str [],.slice 4 .nil []]⟩),
 (104,⟨2,16,.struct [(0,3),(1,3)],.agg [.int .i64 0,.int .i64 0]⟩),
 (106,⟨2,24,.struct [(0,3),(1,9)],.agg [.int .i64 0,.str []]⟩),
 (112,⟨1,24,.slice 3,.slice 1 .nil []⟩)]
theorem qI:fS ak v7=true:=by kernel_rfl
theorem amc:bU v7 RQ anZ 2 Tryz.f29=true:=by kernel_rfl
theorem afa:ak.funcs[(29:Nat)]? =some Tryz.f29:=Tryz.func29
theorem amk:bU v7 RY an5 1 Tryz.f78=true:=by kernel_rfl
theorem afi:ak.funcs[(78:Nat)]? =some Tryz.f78:=Tryz.func78
theorem Nc:bU v7 FL Yh 1 Tryz.f79=true:=by kernel_rfl
theorem KB:ak.funcs[(79:Nat)]? =some Tryz.f79:=Tryz.func79
theorem amJ:bU v7 Sq Yp 2 Tryz.f80=true:=by kernel_rfl
theorem afH:ak.funcs[(80:Nat)]? =some Tryz.f80:=Tryz.func80
theorem M4:bU v7 FB H0 2 Tryz.f84=true:=by kernel_rfl
theorem Kt:ak.funcs[(84:Nat)]? =some Tryz.f84:=Tryz.func84
theorem amd:bU v7 RR an0 2 Tryz.f168=true:=by kernel_rfl
theorem afb:ak.funcs[(168:Nat)]? =some Tryz.f168:=Tryz.func168
theorem akI:bU v7 Qn XF 2 Tryz.f172=true:=by kernel_rfl
theorem adI:ak.funcs[(172:Nat)]? =some Tryz.f172:=Tryz.func172
theorem Xg:bU v7 JZ an1 2 Tryz.f231=true:=by kernel_rfl
theorem Tp:ak.funcs[(231:Nat)]? =some Tryz.f231:=Tryz.func231
def DH(t:T)(k:Nat)(st:br):Prop:=
 (k=t.args.length/\st=⟨[(2,.ptr (.loc 1) 0),(3,.ptr (.loc 2) 0),(14,.slice 4 .no (t.args.map T.e)),(15,.int .i64 t.args.length),(16,.int .i64 0)],[(.loc 1,[.int .i64 0,.int .i64 0,.str [],.slice 4 .nil []]),(.loc 2,[.int .i64 t.kind,.int .i64 t.int,.str t.name,.slice 4 .nil []])],[],3,[]⟩)\/
 ∃i:Nat,1<=i/\i<=t.args.length/\k=t.args.length-i/\st=⟨[(2,.ptr (.loc 1) 0),(3,.ptr (.loc 2) 0),(14,.slice 4 .no (t.args.map T.e)),(15,.int .i64 t.args.length),(16,.int .i64 i)],[(.loc 1,[.int .i64 0,.int .i64 0,.str [],.slice 4 .nil []]),(.loc 2,[.int .i64 t.kind,.int .i64 t.int,.str t.name,.slice 4 (.own (.loc 29)) ((t.args.take i).map T.e)])],[(.loc 29,⟨i,32,4,none⟩)],30,[]⟩
theorem aqa(t:T):bF ak 74 [t.e] t.e:=by
 induction t with
 |pair a b ds dv=>
  refine be fy CL Ed fun aK=>?_;unfold z6;simp;refine oX (DH (.pair a b)) 2 _ bL (.inl ⟨rfl,rfl⟩) ?_;rintro k st (⟨ad,rfl⟩|⟨i,J,U,ad,rfl⟩) ku cB;all_goals clear ku cB
  ·simp;(with_reducible repeat' first|refine aj ?_|refine aF ds ?_|refine aG ds ?_|simp);refine bO.next 1 (by rw[ad];simp) (.inr ⟨1,Ω,Ψ,rfl,rfl⟩) bL
  ·rcases(by simp at U;omega:i=1\/i=2)with rfl|rfl
   ·simp;(with_reducible repeat' first|refine aj ?_|refine aF dv ?_|refine aG dv ?_|simp);refine bO.next 0 (by rw[ad];simp) (.inr ⟨2,Ω,Ψ,rfl,rfl⟩) bL
   ·exact bJ
 |nil=>
  refine be fy CL Ed fun aK=>?_;unfold z6;simp;refine oX (DH (.nil)) 0 _ bL (.inl ⟨rfl,rfl⟩) ?_;rintro k st (⟨ad,rfl⟩|⟨i,J,U,ad,rfl⟩) ku cB;all_goals clear ku cB
  ·exact bJ
  ·simp at U;omega
 |var n=>
  refine be fy CL Ed fun aK=>?_;unfold z6;simp;refine oX (DH (.var n)) 0 _ bL (.inl ⟨rfl,rfl⟩) ?_;rintro k st (⟨ad,rfl⟩|⟨i,J,U,ad,rfl⟩) ku cB;all_goals clear ku cB
  ·exact bJ
  ·simp at U;omega
 |sym s=>
  refine be fy CL Ed fun aK=>?_;unfold z6;simp;refine oX (DH (.sym s)) 0 _ bL (.inl ⟨rfl,rfl⟩) ?_;rintro k st (⟨ad,rfl⟩|⟨i,J,U,ad,rfl⟩) ku cB;all_goals clear ku cB
  ·exact bJ
  ·simp at U;omega
 |num n=>
  refine be fy CL Ed fun aK=>?_;unfold z6;simp;refine oX (DH (.num n)) 0 _ bL (.inl ⟨rfl,rfl⟩) ?_;rintro k st (⟨ad,rfl⟩|⟨i,J,U,ad,rfl⟩) ku cB;all_goals clear ku cB
  ·exact bJ
  ·simp at U;omega
theorem OS{x y:List T}(h:x.map T.tm=y.map T.tm):x=y:=(List.map_inj_right fun _ _=>IJ).1 h
theorem uV(l:List T):(l.map T.tm).map enc=l.map T.e:=by rw[List.map_map];exact List.map_congr_left fun t _=>qm t
theorem Gb:∀{l:List bI},l.all bI.fits=true->∃x:List T,l=x.map T.tm/\∀t∈x,t.fit=true
 |[],_=>⟨[],rfl,Ψ⟩
 |t::l,h=>by rw[List.all_cons,cC]at h;obtain⟨x,rfl,U⟩:=Gb h.2;obtain⟨y,rfl,a6⟩:=bI.fits_ex h.1;exact⟨y::x,rfl,fun z bp=>(fA.1 bp).elim (fun e=>by rw[e];exact a6) (U z)⟩
theorem ka.fin{α:Type}{p:α->Bool}{s:List α}(h:ka p s s.length ()):∀b∈s,p b=true:=fun b ab=>by obtain⟨i,hi⟩:=List.mem_iff_getElem?.1 ab;exact h i b (by have:=(eP.1 hi).1;omega) hi
theorem aab(l:List bI):bF ak 68 [.slice 4 .no (l.map enc)] (.bool (l.all bI.fits)):=by
 generalize aV:l.all bI.fits=R;refine be fy Th W8 fun aK=>?_;unfold JM;have eB:l.length<=68719476736:=by simp[ek,ec,eg,lim]at aK;omega
 simp;refine du [5,6] (fun i (_:Unit)=>[(7,.int .i64 i)]) l.length (ka bI.fits l) () bL (fun k b ad=>Ω) (fun _ ae _=>?_) (fun i _ hi ae _=>?_)
 ·have:R=true:=by rw[<-aV,ga];exact ae.fin
  subst this;clear ae aV;exact bJ
 ·obtain⟨t,aN,qv⟩:=dB hi;have c6:=IQ t;cases g:t.fits
  ·rw[g]at c6;have:R=false:=by rw[<-aV,List.all_eq_false];exact⟨t,dE aN,by rw[g];simp⟩
   subst this;clear aN ae aV;exact bJ
  ·rw[g]at c6;have ax:=ae.step aN g;clear aN ae aV;exact fO
theorem api(r:n2)(m:Int)(h:0<=m):ur r m<=m:=by
 have ch:=xB r.b m h;unfold ur;split
 ·omega
 have ca:=uo xB r.d (im r.b m) Ω;split
 ·omega
 have fB:=OK r.k (gQ im r.d (im r.b m)) Ω;split
 ·omega
 have oT:=uo ER r.m (pk r.k (gQ im r.d (im r.b m))) Ω;split<;>omega
def FG:C:=(aa [cO 2 0,bP 4 0] (aa [aC 5 0 1 2,av 6 1 5,I 7 1,bY 8 32 6 7,I 1 8] (.seq (aa [I 9 1,aT 10 .lss 9 0] (aS 10 (aa [bP 4 (-1)] .ret) .skip)) (aa [fi 11 1 5 2,a1 12 5 11,I 13 1,bY 14 63 12 13,I 1 14] (.seq (aa [I 15 1,aT 16 .lss 15 0] (aS 16 (aa [bP 4 (-1)] .ret) .skip)) (aa [I 17 1,I 4 17] .ret))))))
@[simp] def H5:List bN:=[.tmp 4]
def Cz:C:=(aa [cO 1 0,a8 2 false] (.seq (aa [aC 6 0 1 1,av 7 1 6,cE 8 64 7,cn 9 8,I 10 9,ao 10 false (fi 11 1 5 1),ao 10 false (a1 12 5 11),ao 10 false (cE 13 65 12),ao 10 false (cn 14 13),cZ 15 10 14,I 16 15,ao 16 false (fi 17 1 5 1),ao 16 false (aC 18 1 1 17),ao 16 false (av 19 1 18),ao 16 false (b2 20 19),ao 16 false (aT 21 .gtr 20 0),cZ 22 16 21] (aS 22 (aa [a8 2 false] .ret) .skip)) (aa [aC 23 0 1 1,av 24 1 23,cE 25 66 24,I 3 25] (.seq (aa [I 26 3,b2 27 26,bP 28 0] (eH 29 28 27 (.seq (.block 1 (aa [I 30 28,b9 31 1 26 28,av 32 1 31,I 4 30,I 5 32] (aa [I 33 5,I 34 4,bh 35 .neq 33 34] (aS 35 (aa [a8 2 false] .ret) .skip)))) (.region [aT 36 .add 28 1,I 28 36])))) (aa [fi 37 1 5 1,aC 38 0 1 37,av 39 1 38,I 40 3,b2 41 40,bh 42 .eql 39 41,I 2 42] .ret)))))
@[simp] def anY:List bN:=[.tmp 2]
def Rk:C:=(aa [cO 1 0,cN (.alloc 2 none (.agg [.slice 4 .nil [],.int .i64 0,.slice 5 .nil [],.slice 1 .nil [],.slice 2 .nil [],.slice 2 .nil []]))] (aa [cN (.alloc 3 none (.agg [.slice 4 .nil [],.int .i64 0,.slice 5 .nil [],.slice 1 .nil [],.slice 2 .nil [],.slice 2 .nil []]))] (aa [aC 4 0 1 1,av 5 1 4,cE 6 34 5,aC 7 0 1 3,bM 1 7 6] (aa [fi 8 1 5 1,a1 9 5 8,cE 10 67 9,fi 11 1 5 3,bM 5 11 10] (aa [a1 12 6 3,bM 6 2 12] .ret)))))
@[simp] def anF:List bN:=[.cell 2 true 6]
def x2:C:=(aa [cO 1 0,a8 2 false] (.seq (aa [aC 3 0 1 1,av 4 1 3,cE 5 68 4,cn 6 5,I 7 6,ao 7 false (fi 8 1 5 1),ao 7 false (a1 9 5 8),ao 7 false (cE 10 18 9),ao 7 false (cn 11 10),cZ 12 7 11,I 13 12,ao 13 false (fi 14 1 5 1),ao 13 false (aC 15 1 1 14),ao 13 false (av 16 1 15),ao 13 false (b2 17 16),ao 13 false (aT 18 .neq 17 0),cZ 19 13 18] (aS 19 (aa [a8 2 false] .ret) .skip)) (.seq (.drawn true 36 [aC 20 0 1 1,av 21 1 20,cE 22 70 21,aC 23 0 1 1,av 24 1 23,bY 25 69 22 24,I 26 25,ao 26 true (fi 27 1 5 1),ao 26 true (aC 28 0 1 27),ao 26 true (av 29 1 28),ao 26 true (aC 30 0 1 1),ao 26 true (av 31 1 30),ao 26 true (cE 32 71 31),ao 26 true (b2 33 32),ao 26 true (bh 34 .eql 29 33),dx 35 26 34,I 2 35]) .ret)))
@[simp] def am4:List bN:=[.tmp 2]
def Q8:C:=(aa [cO 2 0,cO 3 1,a8 4 false] (.seq (aa [aC 5 0 1 2,av 6 1 5,aC 7 0 1 3,av 8 1 7,bY 9 36 6 8,cn 10 9] (aS 10 (aa [a8 4 false] .ret) .skip)) (.seq (aa [fi 11 1 5 2,a1 12 5 11,fi 13 1 5 3,a1 14 5 13,bY 15 72 12 14,cn 16 15] (aS 16 (aa [a8 4 false] .ret) .skip)) (aa [a8 4 true] .ret))))
@[simp] def anl:List bN:=[.tmp 4]
def R0:C:=(aa [a8 2 false] (.seq (aa [I 5 0,b2 6 5,bP 7 0] (eH 8 7 6 (.seq (.block 1 (aa [b9 9 4 5 7,a1 10 4 9,c9 4 dj,bM 4 4 10] (aa [a1 11 4 4,cE 12 76 11,cn 13 12] (aS 13 (aa [a8 2 false] .ret) .skip)))) (.region [aT 14 .add 7 1,I 7 14])))) (aa [a8 2 true] .ret)))
@[simp] def an6:List bN:=[.tmp 2]
def RW:C:=(aa [ep 2 1] (.seq (aa [I 6 0,cE 7 64 6,cn 8 7] (aS 8 (aa [ep 2 1] .ret) .skip)) (aa [cN (.bslm 9 (some 881) 1 3 []),I 3 9] (.seq (aa [I 10 0,b2 11 10,bP 12 0] (eH 13 12 11 (.seq (.block 1 (aa [b9 14 4 10 12,a1 15 4 14,c9 5 dj,bM 4 5 15] (.region [a1 16 4 5,I 17 3,bY 18 148 16 17,I 3 18]))) (.region [aT 19 .add 12 1,I 12 19])))) (.seq (.pub 3 (.region [I 20 3,I 2 20])) .ret)))))
@[simp] def an2:List bN:=[.tmp 2]
def JL:C:=(aa [a8 4 false] (.seq (aa [I 6 0,b2 7 6,I 8 1,b2 9 8,bh 10 .neq 7 9] (aS 10 (aa [a8 4 false] .ret) .skip)) (.seq (aa [I 11 0,b2 12 11,bP 13 0] (eH 14 13 12 (.seq (.block 1 (aa [I 15 13,I 5 15] (.seq (.drawn true 27 [I 16 0,I 17 5,b9 18 4 16 17,a1 19 4 18,I 20 1,I 21 5,b9 22 4 20 21,a1 23 4 22,bY 24 108 19 23,cn 25 24]) (aS 25 (aa [a8 4 false] .ret) .skip)))) (.region [aT 26 .add 13 1,I 13 26])))) (aa [a8 4 true] .ret))))
@[simp] def ani:List bN:=[.tmp 4]
def Ql:C:=(aa [ep 2 4] (.seq (aa [I 9 0,cE 10 68 9,cn 11 10] (aS 11 (aa [ep 2 4] .ret) .skip)) (aa [cN (.mkmap 12 (some 865)),cN (.alloc 3 (some 866) (.junk)),bM 1 3 12] (.seq (aa [I 13 0,cE 14 71 13,b2 15 14,bP 16 0] (eH 17 16 15 (.seq (.block 1 (aa [I 18 16,b9 19 1 14 16,av 20 1 19,I 4 18,I 5 20] (.region [av 21 1 3,I 22 5,I 23 4,cN (.mput .i (.t 21) (.t 22) (.t 23))]))) (.region [aT 24 .add 16 1,I 16 24])))) (aa [fj 25 4 32 [],I 6 25] (.seq (aa [I 26 0,b2 27 26,bP 28 0] (.block 2 (.loop (aa [bh 29 .lss 28 27] (.seq (aS 29 .skip (.exit 2)) (.seq (.block 3 (aa [b9 30 4 26 28,a1 31 4 30,c9 8 dj,bM 4 8 31] (.region [I 32 6,a1 33 4 8,b5 34 (.mkf 154 [.t 3]),bY 35 153 33 34,fj 36 4 32 [.t 35],iP 37 4 32 32 36,I 6 37]))) (.region [aT 38 .add 28 1,I 28 38]))))))) (aa [I 39 6,I 2 39] .ret)))))))
@[simp] def am5:List bN:=[.tmp 2]
def QW:C:=(aa [ep 2 1] (aa [cN (.bslm 7 (some 861) 1 3 []),cN (.alloc 3 (some 862) (.slice 1 .nil [])),bM 1 3 7] (aa [cN (.mkmap 8 (some 863)),cN (.alloc 4 (some 864) (.junk)),bM 1 4 8] (.seq (aa [I 9 0,b2 10 9,bP 11 0] (eH 12 11 10 (.seq (.block 1 (aa [b9 13 4 9 11,a1 14 4 13,c9 6 dj,bM 4 6 14] (.region [a1 15 4 6,b5 16 (.mkf 155 [.t 4,.t 3]),bY 17 129 15 16]))) (.region [aT 18 .add 11 1,I 11 18])))) (.seq (.pubB 3 (.region [av 19 1 3,I 2 19])) .ret)))))
@[simp] def anh:List bN:=[.tmp 2]
def x5:C:=(aa [cO 2 0,ep 4 1] (.seq (aa [aC 7 0 1 2,av 8 1 7,aT 9 .eql 8 1,I 10 9,b4 10 true 11 1,ao 10 true (aC 12 1 1 2),ao 10 true (av 13 1 12),ao 10 true (bY 14 221 11 13),ao 10 true (cn 15 14),dx 16 10 15] (aS 16 (aa [I 17 1,aC 18 1 1 2,av 19 1 18,fj 20 1 3 [.t 19],cN (.appm 21 none 1 3 (.t 17) (.t 20)),I 4 21] .ret) .skip)) (.seq (aa [aC 22 3 1 2,av 23 1 22,b2 24 23,bP 25 0] (eH 26 25 24 (.seq (.block 1 (aa [b9 27 4 23 25,a1 28 4 27,c9 6 dj,bM 4 6 28] (.region [a1 29 4 6,I 30 1,bY 31 148 29 30,I 1 31]))) (.region [aT 32 .add 25 1,I 25 32])))) (aa [I 33 1,I 4 33] .ret))))
@[simp] def zl:List bN:=[.tmp 4]
def Qm:C:=(aa [c9 3 dj,a8 4 false] (aa [av 5 1 1,I 6 0,b5 7 (.mget .i (.int .i64 0) false (.t 5) (.t 6)),cE 8 96 7,bM 4 3 8,a8 4 true] .ret))
@[simp] def XE:List bN:=[.cell 3 true 4,.tmp 4]
def JK:C:=(aa [av 4 1 1,I 5 0,b5 6 (.mget .i (.bool false) false (.t 4) (.t 5)),cn 7 6] (aS 7 (aa [av 8 1 1,I 9 0,cN (.mput .i (.t 8) (.t 9) (.c (.bool true)))] (.region [b5 10 (.loadB false 1 (.t 2)),I 11 0,fj 12 1 3 [.t 11],cN (.appm 13 none 1 3 (.t 10) (.t 12)),bM 1 2 13])) .skip))
@[simp] def ND:List bN:=[]
def R5:C:=(aa [a8 4 false] (.seq (aa [I 7 0,b2 8 7,bP 9 0] (eH 10 9 8 (.seq (.block 1 (aa [b9 11 1 7 9,av 12 1 11,I 6 12] (aa [I 13 6,I 14 1,bh 15 .eql 13 14] (aS 15 (aa [a8 4 true] .ret) .skip)))) (.region [aT 16 .add 9 1,I 9 16])))) (aa [a8 4 false] .ret)))
@[simp] def NP:List bN:=[.tmp 4]
def pq:List (Nat×dH):=[
 (3,⟨1,8,.int .i64,.int .i64 0⟩),
 (4,⟨1,1,.bool,.bool false⟩),
 (23,⟨1,24,.slice 61,.slice 5 .nil []⟩),
 (28,⟨5,104,.struct [(0,3),(1,23),(2,24),(3,25),(4,26)],.agg [.int .i64 0,.slice 5 .nil [],.slice 1 .nil [],.slice 2 .nil [],.slice 2 .nil []]⟩),
 (30,⟨1,24,.slice 32,.slice 4 .nil []⟩),
 (32,⟨4,56,.struct [(0,3),(1,3),(2,9),(3,30)],.agg [.int .i64 0,.int .i64 0,.str [],.slice 4 .nil []]⟩),
 (43,⟨1,24,.slice 124,.slice 4 .nil []⟩),
 (49,⟨5,104,.struct [(0,3),(1,44),(2,45),(3,46),(4,47)],.agg [.int .i64 0,.slice 5 .nil [],.slice 1 .nil [],.slice 2 .nil [],.slice 2 .nil []]⟩),
 (51,⟨6,128,.struct [(0,43),(1,49)],.agg [.slice 4 .nil [],.int .i64 0,.slice 5 .nil [],.slice 1 .nil [],.slice 2 .nil [],.slice 2 .nil []]⟩),
 (55,⟨6,128,.struct [(0,30),(1,28)],.agg [.slice 4 .nil [],.int .i64 0,.slice 5 .nil [],.slice 1 .nil [],.slice 2 .nil [],.slice 2 .nil []]⟩),
 (112,⟨1,24,.slice 3,.slice 1 .nil []⟩),
 (154,⟨1,8,.map 3 4,.junk⟩),
 (182,⟨1,8,.map 3 3,.junk⟩)]
theorem iD:fS ak pq=true:=by kernel_rfl
theorem M9:bU pq FG H5 2 Tryz.f21=true:=by kernel_rfl
theorem Ky:ak.funcs[(21:Nat)]? =some Tryz.f21:=Tryz.func21
theorem HF:bU pq Cz anY 1 Tryz.f22=true:=by kernel_rfl
theorem F5:ak.funcs[(22:Nat)]? =some Tryz.f22:=Tryz.func22
theorem alG:bU pq Rk anF 1 Tryz.f23=true:=by kernel_rfl
theorem aeE:ak.funcs[(23:Nat)]? =some Tryz.f23:=Tryz.func23
theorem Bv:bU pq x2 am4 1 Tryz.f24=true:=by kernel_rfl
theorem Ah:ak.funcs[(24:Nat)]? =some Tryz.f24:=Tryz.func24
theorem alv:bU pq Q8 anl 2 Tryz.f25=true:=by kernel_rfl
theorem aet:ak.funcs[(25:Nat)]? =some Tryz.f25:=Tryz.func25
theorem amm:bU pq R0 an6 1 Tryz.f64=true:=by kernel_rfl
theorem afk:ak.funcs[(64:Nat)]? =some Tryz.f64:=Tryz.func64
theorem ami:bU pq RW an2 1 Tryz.f66=true:=by kernel_rfl
theorem afg:ak.funcs[(66:Nat)]? =some Tryz.f66:=Tryz.func66
theorem W7:bU pq JL ani 2 Tryz.f69=true:=by kernel_rfl
theorem Tg:ak.funcs[(69:Nat)]? =some Tryz.f69:=Tryz.func69
theorem akG:bU pq Ql am5 1 Tryz.f70=true:=by kernel_rfl
theorem adG:ak.funcs[(70:Nat)]? =some Tryz.f70:=Tryz.func70
theorem alh:bU pq QW anh 1 Tryz.f71=true:=by kernel_rfl
theorem aeh:ak.funcs[(71:Nat)]? =some Tryz.f71:=Tryz.func71
theorem By:bU pq x5 zl 2 Tryz.f148=true:=by kernel_rfl
theorem Ak:ak.funcs[(148:Nat)]? =some Tryz.f148:=Tryz.func148
theorem akH:bU pq Qm XE 2 Tryz.f154=true:=by kernel_rfl
theorem adH:ak.funcs[(154:Nat)]? =some Tryz.f154:=Tryz.func154
theorem W6:bU pq JK ND 3 Tryz.f155=true:=by kernel_rfl
theorem Tf:ak.funcs[(155:Nat)]? =some Tryz.f155:=Tryz.func155
theorem amp:bU pq R5 NP 2 Tryz.f221=true:=by kernel_rfl
theorem afn:ak.funcs[(221:Nat)]? =some Tryz.f221:=Tryz.func221
def uu(m:List bj):Prop:= ∃G:List (List dM),G.length<=686999/\nT G m
theorem uu.w{m:List bj}(h:uu m):ES m:=by obtain⟨G,J,U⟩:=h;exact⟨G,Ω,U⟩
def qd(a:c0 cp):ai:=a.e 4 cp.e
@[simp]theorem atV(S:aI->Prop)(d:c0 cp):aD S (qd d)=True:=by cases d<;>simp[qd,c0.e,aD]
@[simp]theorem avC(d:c0 cp):dt (qd d)=qd d:=by
 cases d with
 |l l=>
  have:∀l:List cp,c2 (l.map cp.e)=l.map cp.e:=by
   intro l;induction l with
   |nil=>rfl
   |cons x l bR=>simp[c2,bR]
  simp[qd,c0.e,dt,this]
 |b=>simp[qd,c0.e,dt]
theorem Zx(l:List bI):qd (.l (l.map qH))= .slice 4 .no (l.map enc):=by simp only[qd,c0.e,List.map_map];congr 1;exact List.map_congr_left fun t _=>OR t
def pn(a:c0 cp)(m:Int):Int:=gQ h8 a m
theorem IG(a:c0 cp)(m:Int)(h:0<=m): -1<=pn a m/\pn a m<=m:=uo vW a m h
theorem aaa(a:c0 cp)(hw:a.wf fun t=>t.wf)(m:Int)(bs:0<=m)(J:m<=1048576):bF ak 32 [qd a,.int .i64 m] (.int .i64 (pn a m)):=O8 a (fun p n c e=>by subst e;exact hw) (fun xs e x af m bs J=>by subst e;exact Z9 x (hw x af) m bs J) m bs J
theorem aag(l:List bI):bF ak 34 [.slice 4 .no (l.map enc)] (.slice 4 .no (l.map enc)):=aaf l fun x _=>aae x
theorem ZP(l:List bI):bF ak 36 [.slice 4 .no (l.map enc),.slice 4 .no (l.map enc)] (.bool true):=ZO l fun x _=>ZN x
theorem apj{r:n2}{kg:Int}(hw:r.wf)(UX:kg<=1048576)(asS:0<=kg)(h:0<=ur r kg):∃u:iG,r=u.h/\(h6 u.m->u.m.length<=524288):=by
 obtain⟨n,b,d,k,l⟩:=r;obtain⟨dU,dk,pt,nc⟩:=hw;simp only at dU dk pt nc;unfold ur at h;simp only at h;have ch:=xB b kg Ω;split at h
 ·omega
 have ca:=uo xB d (im b kg) Ω;split at h
 ·omega
 have fB:=OK k (gQ im d (im b kg)) Ω;split at h
 ·omega
 split at h
 ·omega
 obtain⟨cb,rfl⟩:=Zd b kg dU Ω Ω Ω;obtain⟨cj,rfl⟩:=IE xB (P:=xM) Zd d (im (uU cb) kg) dk Ω Ω Ω;generalize gQ im (.l (cj.map uU)) (im (uU cb) kg)=bE at*;cases k with
 |b=>simp only[pk]at*;omega
 |l bT=>
  generalize pk (.l bT) bE=b1 at*;have oT:=uo ER l b1 Ω;obtain⟨ht,rfl⟩:=IE ER (P:=fun x=>x.s.wf) apg l b1 nc Ω Ω Ω;refine⟨⟨n,cb,cj,bT,ht⟩,rfl,fun hm=>?_⟩;simp only at hm⊢;simp only[gQ,oB]at h;split at h
  ·omega
  ·have:=Zj ht _ (fun x af=>aku (hm.at' x af).2) h;simp only[oK]at this;omega
theorem uu.of{m:List bj}(h:m.length<=524288):uu m:=⟨m.map (·.s),by simp;omega,fun _ af=>List.mem_map_of_mem af⟩
@[simp high] theorem auD(d:c0 cp)(r:List ai):gG (qd d::r)=true:=by cases d<;>rfl
theorem Zk{a:c0 cp}(hw:a.wf fun t=>t.wf){m:Int}(bs:0<=m)(J:m<=1048576)(h:0<=pn a m):∃l:List bI,a= .l (l.map qH):=IE vW (P:=fun t=>t.wf) (fun x m bB J bs h=>OL x m bB J bs h) a m hw J bs h
structure oM where
 t:c0 cp
 s:n2
def oM.e(a:oM):ai:= .agg [qd a.t,.int .i64 a.s.n,ks a.s.b,rX a.s.d,sB a.s.k,sJ a.s.m]
structure oM.wf (a:oM):Prop where
 t:a.t.wf fun t=>t.wf
 s:a.s.wf
def rI(a:oM)(m:Int):Int:=if pn a.t m<0 then-1 else if ur a.s (pn a.t m)<0 then-1 else ur a.s (pn a.t m)
theorem apc(a:oM)(m:Int)(h:0<=m):rI a m<=m:=by
 have J:=IG a.t m h;unfold rI;split
 ·omega
 ·have U:=api a.s (pn a.t m) Ω;split<;>omega
structure jk where
 t:List bI
 s:iG
def jk.e(a:jk):ai:= .agg [.slice 4 .no (a.t.map enc),.int .i64 a.s.n,.slice 5 .no (a.s.b.map cX.e),.slice 1 .no (a.s.d.map gg),.slice 2 .no (a.s.k.map bQ.e),.slice 2 .no (a.s.m.map bj.e)]
def jk.h(a:jk):oM:=⟨.l (a.t.map qH),a.s.h⟩
theorem abb(a:jk):a.h.e=a.e:=by have h:=ao2 a.s;simp only[n2.e,iG.e,ai.agg.injEq,oJ,and_true]at h;obtain⟨J,U,au,a6,b3⟩:=h;simp only[oM.e,jk.e,jk.h,Zx,ai.agg.injEq,oJ,and_true,true_and];exact⟨J,U,au,a6,b3⟩
theorem ape{a:oM}(hw:a.wf){m:Int}(bs:0<=m)(J:m<=1048576)(h:0<=rI a m):∃u:jk,a=u.h/\(h6 u.s.m->uu u.s.m):=by
 obtain⟨t,s⟩:=a;obtain⟨dU,dk⟩:=hw;have hle:=IG t m bs;unfold rI at h;simp only at h dU dk;split at h
 ·omega
 split at h
 ·omega
 obtain⟨l,rfl⟩:=Zk dU bs J Ω;obtain⟨u,rfl,hu⟩:=apj dk Ω Ω h;exact⟨⟨l,u⟩,rfl,fun hm=>uu.of (hu hm)⟩
theorem apk(l:List bI)(m:Int)(h:0<=pn (.l (l.map qH)) m):(l.length:Int)<=m:=by
 unfold pn at h;simp only[gQ,oB]at h;split at h
 ·omega
 ·simp only[oK]at*;omega
theorem apd(r:jk){m:Int}(h:0<=rI r.h m)(J:m<=1048576:=by omega):r.t.length<=1048576:=by
 unfold rI at h;split at h
 ·omega
 ·rename_i U;have:=apk r.t m (by have:r.h.t= .l (r.t.map qH):=rfl;rw[this]at U;omega)
  omega
theorem aqO(a:oM)(hw:a.wf)(m:Int)(bs:0<=m)(J:m<=1048576):bF ak 21 [a.e,.int .i64 m] (.int .i64 (rI a m)):=by
 obtain⟨t,s⟩:=a;obtain⟨dU,dk⟩:=hw;simp only at dU dk;have aU:=aaa t dU m bs J;have ch:=IG t m bs;generalize aV:rI ⟨t,s⟩ m=R;unfold rI at aV;simp only at aV;generalize pn t m=bc at aU ch aV;have bo:=fun h=>aqU s dk bc h Ω;generalize ur s bc=bE at bo aV;clear dU dk ch;obtain⟨n,b,d,k,l⟩:=s;simp only[n2.e,oM.e]at bo⊢;by_cases g1:bc<0
 ·rw[if_pos g1]at aV;subst aV;clear bo;refine be iD Ky M9 fun aK=>?_;unfold FG;simp[-gG];(with_reducible repeat' first|refine aj ?_|refine aF aU ?_|refine aG aU ?_|simp[g1,-gG]);all_goals simp[bz,H5,aX,aY,aW]
 rw[if_neg g1]at aV;have bo:=bo Ω;by_cases g2:bE<0
 ·rw[if_pos g2]at aV;subst aV;refine be iD Ky M9 fun aK=>?_;unfold FG;simp[-gG];(with_reducible repeat' first|refine aj ?_|refine aF aU ?_|refine aG aU ?_|refine aF bo ?_|refine aG bo ?_|simp[g1,g2,-gG]);all_goals simp[bz,H5,aX,aY,aW]
 rw[if_neg g2]at aV;subst aV;refine be iD Ky M9 fun aK=>?_;unfold FG;simp[-gG];(with_reducible repeat' first|refine aj ?_|refine aF aU ?_|refine aG aU ?_|refine aF bo ?_|refine aG bo ?_|simp[g1,g2,-gG]);all_goals simp[bz,H5,aX,aY,aW]
theorem aqW(a:jk):bF ak 23 [a.e] a.e:=by obtain⟨t,s⟩:=a;have aU:=aag t;have bo:=aq2 s;obtain⟨n,b,d,k,l⟩:=s;simp only[iG.e,jk.e]at bo⊢;refine be iD aeE alG fun aK=>?_;unfold Rk;exact bJ
theorem apW(a:jk):bF ak 25 [a.e,a.e] (.bool true):=by obtain⟨t,s⟩:=a;have aU:=ZP t;have bo:=ap2 s;obtain⟨n,b,d,k,l⟩:=s;simp only[iG.e,jk.e]at bo⊢;refine be iD aet alv fun aK=>?_;unfold Q8;exact bJ
def gX:T->List Int->List Int
 | .var n,l=>if n∈l then l else l++[n]
 | .pair a b,l=>gX b (gX a l)
 |_,l=>l
def fa(u:List T)(l:List Int):List Int:=u.foldl (fun l t=>gX t l) l
theorem Nl{m:Int}:∀(t:T) {l:List Int},m∈gX t l↔m∈l\/t.occ m=true
 | .var n,l=>by
  simp only[gX,T.occ,dV];split
  ·rename_i h;exact⟨.inl,fun cf=>cf.elim id fun e=>by subst e;exact h⟩
  ·rw[kn,List.mem_singleton];exact or_congr Iff.rfl eq_comm
 | .pair a b,l=>by simp only[gX,Nl b,Nl a,T.occ,lH,or_assoc]
 | .nil,l=>by simp[gX,T.occ]
 | .sym _,l=>by simp[gX,T.occ]
 | .num _,l=>by simp[gX,T.occ]
theorem Nn:∀(t:T) {l:List Int},l.Nodup->(gX t l).Nodup
 | .var n,l,h=>by
  simp only[gX];split
  ·exact h
  ·rename_i ax;rw[List.nodup_append];exact⟨h,Ψ,fun a bu b ab e=>by rw[List.mem_singleton.1 ab]at e;rw[e]at bu;exact ax bu⟩
 | .pair a b,l,h=>Nn b (Nn a h)
 | .nil,_,h=>h
 | .sym _,_,h=>h
 | .num _,_,h=>h
theorem HM:∀(t:T) (l:List Int),(gX t l).length<=l.length+t.size
 | .var n,l=>by simp only[gX,T.size];split<;>simp<;>omega
 | .pair a b,l=>by have J:=HM a l;have U:=HM b (gX a l);simp only[gX,T.size];omega
 | .nil,l=>by simp[gX]
 | .sym _,l=>by simp[gX]
 | .num _,l=>by simp[gX]
theorem Ej{m:Int}:∀(u:List T) {l:List Int},m∈fa u l↔m∈l\/ ∃t∈u,t.occ m=true
 |[],l=>by simp[fa]
 |t::u,l=>by show m∈fa u (gX t l)↔_;rw[Ej u,Nl];simp[or_assoc]
theorem Np:∀(u:List T) {l:List Int},l.Nodup->(fa u l).Nodup
 |[],_,h=>h
 |t::u,_,h=>Np u (Nn t h)
theorem Fp{f:Int->Int}:∀{t:T},t.ap (fun v=>.var (f v))=t↔∀v,t.occ v=true->f v=v
 | .var n=>by simp[T.ap,T.occ]
 | .pair a b=>by simp only[T.ap,T.pair.injEq,T.occ,lH,Fp (t:=a),Fp (t:=b)];exact⟨fun h v aB=>aB.elim (h.1 v) (h.2 v),fun h=>⟨fun v aB=>h v (.inl aB),fun v aB=>h v (.inr aB)⟩⟩
 | .nil=>by simp[T.ap,T.occ]
 | .sym _=>by simp[T.ap,T.occ]
 | .num _=>by simp[T.ap,T.occ]
theorem abF{u:List T}{f:Int->Int}(aJ:∀(i:Nat) v,(fa u [])[i]? =some v->f v=(i:Int)):(∀t∈u,t.ap (fun v=>.var (f v))=t)↔∀(i:Nat) v,(fa u [])[i]? =some v->v=(i:Int):=by
 constructor
 ·intro h i v aB;have hm:=dE aB;rw[Ej]at hm;rcases hm with hm|⟨t,aN,ay⟩
  ·simp at hm
  ·rw[<-Fp.1 (h t aN) v ay];exact aJ i v aB
 ·intro h t aN;rw[Fp];intro v aB;have hm:v∈fa u []:=(Ej u).2 (.inr ⟨t,aN,aB⟩);obtain⟨i,hi⟩:=List.mem_iff_getElem?.1 hm;rw[aJ i v hi];exact(h i v hi).symm
def dX:T->T->List aq->Bool×List aq
 | .var n,t,l=>match cP l n with
  |some x=>(decide (x=t),l)
  |none=>(true,lX ⟨n,t⟩ l)
 | .pair a b,.pair c d,l=>if(dX a c l).1 then(if(dX b d (dX a c l).2).1 then dX b d (dX a c l).2 else(false,[]))else(false,[])
 |p,t,l=>if p=t then(true,l)else(false,[])
structure tn (m:List (Int×T)) (l:List aq):Prop where
 asc:gk l
 look:∀v,j3 v m=cP l v
theorem P4{b:aq}{s:List aq}(bu:gk s)(ax:cP s b.v=none)(v:Int):cP (lX b s) v=if b.v=v then some b.t else cP s v:=by
 have Dk:=mD.1 ax;have hi:=zS bu Dk;split
 ·rename_i e;subst e;exact pM hi (y3.2 (.inl rfl))
 ·rename_i e;cases h:cP s v with
  |some t=>exact pM (b:=⟨v,t⟩) hi (y3.2 (.inr (iV h)))
  |none=>
   refine mD.2 fun c aw=>?_;rcases y3.1 aw with rfl|aw
   ·exact e
   ·exact mD.1 h c aw
theorem Zs(k:Int)(x:Int×T):∀m:List (Int×T),j3 k (m++[x])=match j3 k m with|some t=>some t|none=>if k=x.1 then some x.2 else none
 |[]=>by obtain⟨i,t⟩:=x;simp[j3]
 |(i,t)::m=>by
  simp only[bZ,j3];split
  ·rfl
  ·exact Zs k x m
theorem tn.ins{m:List (Int×T)}{l:List aq}(h:tn m l){n:Int}(t:T)(ax:cP l n=none):tn (m++[(n,t)]) (lX ⟨n,t⟩ l):=by
 refine⟨zS h.asc (mD.1 ax),fun v=>?_⟩;rw[Zs,P4 h.asc ax,h.look];simp only;by_cases e:n=v
 ·subst e;simp[ax]
 ·rw[if_neg e,if_neg fun h=>e h.symm];cases cP l v<;>first|rfl|simp
theorem MT:∀(p t:T) {m:List (Int×T)} {l:List aq},tn m l->(fR p t m).1=(dX p t l).1/\((dX p t l).1=true->tn (fR p t m).2 (dX p t l).2)
 | .var n,t,m,l,h=>by
  simp only[fR,dX,h.look n];cases e:cP l n with
  |some x=>exact⟨rfl,fun _=>h⟩
  |none=>exact⟨rfl,fun _=>h.ins t e⟩
 | .pair a b,.pair c d,m,l,h=>by
  obtain⟨J,U⟩:=MT a c h;simp only[fR,dX,J];cases e:(dX a c l).1 with
  |false=>exact⟨rfl,fun h=>by cases h⟩
  |true=>
   obtain⟨au,a6⟩:=MT b d (U e);simp only[if_true];rw[au];cases aE:(dX b d (dX a c l).2).1 with
   |false=>exact⟨Ψ,fun h=>by simp at h⟩
   |true=>simp only[if_true];exact⟨aE.symm▸rfl,fun _=>a6 aE⟩
 | .pair a b,.var _,m,l,h=>by simp[fR,dX]
 | .pair a b,.nil,m,l,h=>by simp[fR,dX]
 | .pair a b,.sym _,m,l,h=>by simp[fR,dX]
 | .pair a b,.num _,m,l,h=>by simp[fR,dX]
 | .nil,t,m,l,h=>by
  by_cases e:T.nil=t
  ·subst e;simp[fR,dX];exact h
  ·cases t<;>simp_all[fR,dX]
 | .sym s,t,m,l,h=>by
  by_cases e:T.sym s=t
  ·subst e;simp[fR,dX];exact h
  ·cases t<;>simp_all[fR,dX]
 | .num k,t,m,l,h=>by
  by_cases e:T.num k=t
  ·subst e;simp[fR,dX];exact h
  ·cases t<;>simp_all[fR,dX]
theorem afV(t:T):∀l:List Int,t.fold pJ l=gX t l:=by
 induction t with
 |pair a b ds dv=>intro l;simp only[T.fold,gX,ds,dv]
 |_=>intro l;rfl
theorem Xq(u:List T)(t:T)(l:List Int):fa (u++[t]) l=gX t (fa u l):=by simp[fa,List.foldl_append]
def sy:List Int->Int->Nat
 |[],_=>0
 |x::r,v=>if x=v then 0 else sy r v+1
theorem Vd:∀{l:List Int} (_:l.Nodup) {i:Nat} {v:Int},l[i]? =some v->sy l v=i
 |[],_,i,v,h=>by simp at h
 |x::r,ax,0,v,h=>by simp at h;simp[sy,h]
 |x::r,ax,i+1,v,h=>by simp only[List.getElem?_cons_succ]at h;have hm:=dE h;have Dk:=List.nodup_cons.1 ax;have:x≠v:=fun e=>Dk.1 (e▸hm);rw[sy,if_neg this,Vd Dk.2 h]
theorem apa(g:Int->Int)(t:T):t.sub (fun v=>some (.var (g v)))=t.ap (fun v=>.var (g v)):=by
 induction t with
 |pair a b ds dv=>simp only[T.sub,T.ap,ds,dv]
 |_=>rfl
def BP(o:List Int)(t:T):T:=t.sub fun v=>some (.var (sy o v))
def x7(u:List T):List T:=u.map (BP (fa u []))
theorem Wt{α:Type}(f:α->α):∀l:List α,l.map f=l↔∀x∈l,f x=x
 |[]=>by simp
 |x::r=>by simp[Wt f r]
def xI(o:List Int):Prop:= ∀(i:Nat) (v:Int),o[i]? =some v->v=i
theorem abE(u:List T):x7 u=u↔xI (fa u []):=by
 unfold x7;rw[Wt];have ax:(fa u []).Nodup:=Np u Ψ;have:=abF (u:=u) (f:=fun v=>(sy (fa u []) v:Int)) fun i v h=>by rw[Vd ax h]
 rw[show xI (fa u [])↔_ from this.symm];exact forall_congr' fun t=>forall_congr' fun _=>by rw[BP,apa]
theorem HN(u:List T):∀l:List Int,(∀t∈u,t.fit=true)->(fa u l).length<=l.length+5000*u.length:=by
 induction u with
 |nil=>intro l _;simp[fa]
 |cons t r bR=>intro l aN;have J:=bR (gX t l) fun x af=>aN x (oL _ af);have U:=HM t l;have au:=aN t (List.mem_cons_self ..);simp only[T.fit,cC,fc]at au;have a6:fa (t::r) l=fa r (gX t l):=rfl;rw[a6];simp only[pD];omega
def mtL:List T->List T->List (Int×T)->Bool×List (Int×T)
 |p::b0,t::eG,m=>if(fR p t m).1 then mtL b0 eG (fR p t m).2 else(false,(fR p t m).2)
 |_,_,m=>(true,m)
def eY:List T->List T->List aq->Bool×List aq
 |p::b0,t::eG,l=>if(dX p t l).1 then eY b0 eG (dX p t l).2 else(false,(dX p t l).2)
 |_,_,l=>(true,l)
theorem MR:∀(b0 eG:List T) {m:List (Int×T)} {l:List aq},tn m l->(mtL b0 eG m).1=(eY b0 eG l).1/\((eY b0 eG l).1=true->tn (mtL b0 eG m).2 (eY b0 eG l).2)
 |[],_,m,l,h=>by simp[mtL,eY,h]
 |_::_,[],m,l,h=>by simp[mtL,eY,h]
 |p::b0,t::eG,m,l,h=>by
  obtain⟨J,U⟩:=MT p t h;simp only[mtL,eY,J];cases e:(dX p t l).1 with
  |false=>exact⟨rfl,fun h=>by cases h⟩
  |true=>simp only[if_true];exact MR b0 eG (U e)
def _root_.Go.Pv.T.gnd:T->Bool
 | .var _=>false
 | .pair a b=>a.gnd&&b.gnd
 |_=>true
def mz(b:Bool):cH:=⟨[(.obj 501,[.bool b])],[]⟩
theorem Fe(b:Bool):dN (mz b):=by unfold mz;exact(dN.of ⟨by intro m;simp[Pv.look],by intro m;simp[Pv.look]⟩ (by simp[aH,aD,inObs,Pv.look]) (by simp[aH,aD,inObs,Pv.look]))
theorem Jc(a b:Bool):Same (mz a) (mz b):=⟨fun k=>by simp only[mz,Pv.look];split<;>rfl,fun _=>rfl⟩
theorem agj(v:Int)(b:Bool):bH ak 233 [.int .i64 v,.ptr (.obj 501) 0] (mz b) fun r ah=>r= .tuple []/\ah=mz false:=by have ag:=Fe b;unfold mz at ag⊢;refine bH.mk mixed xF aeb alb Ψ ag.obj fun aK cB=>?_;unfold QQ;simp;refine cF.at (mz false) (.inr rfl) (Fe _) (Jc b false) (by unfold mz;exact aL) (by unfold mz;exact aL) ?_;simp[cL,XX,aX,aY,aW];simp[mz]
theorem afU(t:T)(b:Bool):t.fold (fun _ _=>false) b=(b&&t.gnd):=by
 induction t generalizing b with
 |pair x y lx mO=>simp[T.fold,T.gnd,lx,mO,Bool.and_assoc]
 |_=>simp[T.fold,T.gnd]
theorem ap7(t:T):bF ak 171 [t.e] (.bool t.gnd):=by refine be xF aea ala fun aK=>?_;unfold QP;simp;refine cT.ob (KP mz Fe Jc 233 [.ptr (.obj 501) 0] (by intro a;simp[inObs,mz,Pv.look,aH,aD]) Ψ (fun _ _=>false) agj t true) (Fe true) (by unfold mz;exact aL) (by unfold mz;exact aL) (by simp[inObs,mz,Pv.look]) ?_;rintro r ah ⟨rfl,rfl⟩;refine⟨Jc _ _,?_⟩;unfold mz;simp[cl,afU];simp[bz,XW,aX,aY,aW]
structure v8 (n:Int) (v:List aq):Prop where
 ok:kS v
 asc:gk v
 fits:gy v
 len:(v.length:Int)=n
 at':∀(i:Nat) b,v[i]? =some b->b.v=(i:Int)
 gnd:∀b∈v,b.t.gnd=true
theorem v8.get{n:Int}{v:List aq}(h:v8 n v){w:Int}(bs:0<=w)(J:w<n):∃b:aq,v[w.toNat]? =some b/\cP v w=some b.t/\bX v w=b.t:=by
 have ar:=h.len;have hi:w.toNat<v.length:=Ω
 have e:=cc hi;have aE:=h.at' _ _ e;have bn:=pM h.asc (List.getElem_mem hi);rw[aE,Int.toNat_of_nonneg bs]at bn;exact⟨_,e,bn,by rw[bX,bn];rfl⟩
theorem YV{v:List aq}(h:gy v)(w:Int):(bX v w).size<=5000:=by
 unfold bX;cases e:cP v w with
 |none=>simp[T.size]
 |some x=>exact h.2 _ (iV e)
theorem kS.fit{v:List aq}(h:kS v)(aJ:gy v):yd v:=fun b ab=>by simp[T.fit,(h b ab).2,aJ.2 b ab]
def sp(v:List aq)(b:aq):Bool:=decide ((b.t.ap (bX v)).size<=5000)&& !decide (bX v b.v=b.t.ap (bX v))
def lj(v:List aq)(d:List aq):Bool:=d.any (sp v)
open Classical in
theorem apH{v:List aq}(aB:kS v)(jo:gy v)(bu:gk v){d:List aq}(aR:eU d):bF ak 172 [.slice 5 .no (d.map aq.e),.slice 5 .no (v.map aq.e)] (.bool (lj v d)):=by
 have de:=qf aR;have gn:=O1 (v.map aq.b);rw[gK (xK.2 ⟨v,rfl,aB,bu,jo⟩),sF]at gn;have jG:v.length<=1000000:=by have:=jo.1;omega
 have yr:=aR.len;have lq:=kS.fit aB jo;generalize aV:lj v d=R;refine be qI adI akI fun aK=>?_;unfold Qn;clear aK;simp;((with_reducible repeat' first|refine aj ?_|refine aF de ?_|refine aG de ?_|refine aF gn ?_|refine aG gn ?_|simp|((first|apply bS|apply bW|apply bV)<;>intro h<;>try simp at h))<;>(try exact cy));refine du [1,19,20] (fun i (_:Unit)=>[(21,.int .i64 i)]) d.length (ka (fun b=> !sp v b) d) () bL (fun k b ad=>Ω) (fun _ ae _=>?_) (fun i _ hi ae _=>?_)
 ·have:R=false:=by rw[<-aV,lj,List.any_eq_false];intro b ab;have:=ae.fin b ab;simpa using this
  subst this;clear ae aV de gn;exact bJ
 ·obtain⟨b,ab,cr⟩:=dB hi;have aU:=zD v (.var b.v) jG bu lq;have bo:=zD v b.t jG bu lq;have al:((T.var b.v).ap (bX v)).size<=5000:=YV jo b.v;rw[if_pos al,gK al]at aU;have cd:=ps (bX v b.v) (b.t.ap (bX v));have cz:sp v b=(decide ((b.t.ap (bX v)).size<=5000)&& !decide (bX v b.v=b.t.ap (bX v))):=rfl;have jr:sp v b=true->R=true:=fun h=>by rw[<-aV,lj,List.any_eq_true];exact⟨b,dE ab,h⟩
  have cI:=fun h:sp v b=false=>ae.step ab (by rw[h];rfl);rw[show(T.var b.v).ap (bX v)=bX v b.v from rfl]at aU;clear ae aV de gn ab al;generalize sp v b=H at cz jr cI;by_cases bp:(b.t.ap (bX v)).size<=5000
  ·rw[if_pos bp,gK bp]at bo;rw[gK bp,Bool.true_and]at cz;generalize b.t.ap (bX v)=y at bo cd cz;generalize bX v b.v=x at aU cd cz;generalize decide (x=y)=q at cd cz;cases q
   ·have:=jr cz;subst this;simp[hi,cr];(with_reducible repeat' first|refine aj ?_|refine aF (jj _) ?_|refine aG (jj _) ?_|refine aF aU ?_|refine aG aU ?_|refine aF bo ?_|refine aG bo ?_|refine aF cd ?_|refine aG cd ?_|simp[cr,hi]);all_goals simp[bz,XF,aX,aY,aW]
   ·have ax:=cI cz;simp[hi,cr];(with_reducible repeat' first|refine aj ?_|refine aF (jj _) ?_|refine aG (jj _) ?_|refine aF aU ?_|refine aG aU ?_|refine aF bo ?_|refine aG bo ?_|refine aF cd ?_|refine aG cd ?_|simp[cr,hi]);all_goals exact bO.rng () hi ax bL
  ·rw[if_neg bp,hG bp]at bo;rw[hG bp,Bool.false_and]at cz;have ax:=cI cz;clear cd cz;generalize bX v b.v=x at aU;simp[hi,cr];(with_reducible repeat' first|refine aj ?_|refine aF (jj _) ?_|refine aG (jj _) ?_|refine aF aU ?_|refine aG aU ?_|refine aF bo ?_|refine aG bo ?_|simp[cr,hi]);all_goals exact bO.rng () hi ax bL
def p9(v:List aq)(b:aq):Bool:=decide ((b.t.ap (bX v)).size<=5000)&&decide (b.t.ap (bX v)=bX v b.v)
structure rD (s:dA) (v:List aq):Prop where
 b:s.b.all (p9 v)=true
 d:s.d.all (lj v)=true
 k:s.k.all (fun k=>decide ((bX v k.v).kind=k.k))=true
 m:s.m.all (fun m=> !(bX v m.v).has m.s)=true
def G1(s:dA)(l:List cX):Prop:= ∃v:List aq,l=v.map aq.b/\v8 s.n v/\rD s v
def G6(v:List aq)(i:Nat)(_:Unit):Prop:= ∀k b,k<i->v[k]? =some b->b.v=(k:Int)/\b.t.gnd=true
theorem G6.step{v:List aq}{i:Nat}(h:G6 v i ()){b:aq}(ab:v[i]? =some b)(bB:b.v=(i:Int)/\b.t.gnd=true):G6 v (i+1) ():=fun k c ad aw=>by
 rcases Nat.lt_or_ge k i with J|J
 ·exact h k c J aw
 ·have:k=i:=Ω
  subst this;rw[ab]at aw;cases aw;exact bB
open Classical in
theorem ap8{s:dA}(ag:vU s)(l:List cX):bF ak 84 [s.e,.slice 5 .no (l.map cX.e)] (.bool (decide (G1 s l))):=by
 have gn:=O1 l;generalize aV:decide (G1 s l)=R;by_cases g1:wg l;rotate_left
 ·rw[hG g1]at gn;have:R=false:=by rw[<-aV,fJ];rintro⟨v,rfl,h,_⟩;exact g1 (xK.2 ⟨v,rfl,h.ok,h.asc,h.fits⟩)
  subst this;clear aV g1 ag;obtain⟨n,b,d,k,m⟩:=s;simp only[dA.e]at gn⊢;refine be qI Kt M4 fun aK=>?_;unfold FB;exact bJ
 rw[gK g1]at gn;obtain⟨v,rfl,tP,tO,jo⟩:=xK.1 g1;clear g1;rw[sF]at gn⊢;by_cases g2:(v.length:Int)=s.n;rotate_left
 ·have:R=false:=by rw[<-aV,fJ];rintro⟨w,e,h,_⟩;rw[rW e]at g2;exact g2 h.len
  subst this;have Gf:s.n≠(v.length:Int):=fun h=>g2 h.symm;clear aV ag tP tO jo;obtain⟨n,b,d,k,m⟩:=s;simp only[dA.e]at gn g2 Gf⊢;refine be qI Kt M4 fun aK=>?_;unfold FB;simp;((with_reducible repeat' first|refine aj ?_|refine aF gn ?_|refine aG gn ?_|simp[g2,Gf]|((first|apply bS|apply bW|apply bV)<;>intro h<;>try simp at h))<;>(try exact cy));all_goals simp[bz,H0,aX,aY,aW]
 have cI:¬(v8 s.n v/\rD s v)->R=false:=fun h=>by rw[<-aV,fJ];rintro⟨w,e,J,U⟩;rw[rW e]at h;exact h ⟨J,U⟩
 have jr:v8 s.n v->rD s v->R=true:=fun J U=>by rw[<-aV,fc];exact⟨v,rfl,J,U⟩
 clear aV;have jG:v.length<=1000000:=by have:=jo.1;omega
 have lq:=kS.fit tP jo;obtain⟨n,rz,qc,rA,sm⟩:=s;simp only at g2 cI jr;subst g2;have lu:=ag.b;have e4:=lu.len;have cB:=ag.bb;have j9:=ag.d;have re:=ag.k;have qs:=ag.kb;have pY:=ag.mb;have wM:=ag.m;have hW:=tU re;simp only at lu e4 cB j9 re qs pY wM hW;clear ag;simp only[dA.e];refine be qI Kt M4 fun aK=>?_;unfold FB;have yr:qc.length<=68719476736:=by simp[ek,ec,eg,lim]at aK;omega
 have kJ:sm.length<=68719476736:=by simp[ek,ec,eg,lim]at aK;omega
 clear aK;simp;(with_reducible repeat' first|refine aj ?_|refine aF gn ?_|refine aG gn ?_|simp);refine du [1,2,27,28] (fun i (_:Unit)=>[(29,.int .i64 i)]) v.length (G6 v) () bL (fun k b ad=>Ω) (fun _ ae _=>?_) (fun i _ hi ae _=>?_);rotate_left
 ·obtain⟨b,ab,cr⟩:=dB hi;have aU:=ap7 b.t;by_cases g:b.v=(i:Int)/\b.t.gnd=true
  ·have ax:=ae.step ab g;obtain⟨g1,g2⟩:=g;rw[g2]at aU;clear ae ab cI jr;exact fO
  ·rw[cI fun h=>g ⟨h.1.at' _ _ ab,h.1.gnd _ (dE ab)⟩];clear ae ab cI jr;by_cases g1:b.v=(i:Int)
   ·have g2:b.t.gnd=false:=by
     cases e:b.t.gnd with
     |false=>rfl
     |true=>exact absurd ⟨g1,e⟩ g
    rw[g2]at aU;exact bJ
   ·simp[hi,cr];((with_reducible repeat' first|refine aj ?_|simp[cr,hi,g1]|((first|apply bS|apply bW|apply bV)<;>intro h<;>try simp at h))<;>(try exact cy));all_goals simp[bz,H0,aX,aY,aW]
 have aB:v8 v.length v:=⟨tP,tO,jo,rfl,fun i b ab=>(ae i b (eP.1 ab).1 ab).1,fun b ab=>by obtain⟨i,hi⟩:=List.mem_iff_getElem?.1 ab;exact(ae i b (eP.1 hi).1 hi).2⟩
 have jr:=jr aB;have cI:¬rD ⟨v.length,rz,qc,rA,sm⟩ v->R=false:=fun h=>cI fun cf=>h cf.2;clear ae gn;simp;(with_reducible repeat' first|refine aj ?_|simp);refine du [1,2,46,47] (fun i (_:Unit)=>[(48,.int .i64 i)]) rz.length (ka (p9 v) rz) () bL (fun k b ad=>Ω) (fun _ ae _=>?_) (fun i _ hi ae _=>?_);rotate_left
 ·obtain⟨b,ab,cr⟩:=dB hi;have gD:=dE ab;have aU:=zD v b.t jG tO lq;obtain⟨c,aw,_,lV⟩:=aB.get (lu.ok b gD).1.1 (cB b gD).1;have bo:=ps (b.t.ap (bX v)) (bX v b.v);have w0:=(lu.ok b gD).1.1;have dU:=(cB b gD).1;have Pf:∀h,(v[b.v.toNat]'h)=c:=fun h=>by rw[cc h]at aw;exact eQ aw
  have cz:p9 v b=(decide ((b.t.ap (bX v)).size<=5000)&&decide (b.t.ap (bX v)=bX v b.v)):=rfl;have eM:p9 v b=false->R=false:=fun h=>cI fun cf=>by have:=ga.1 cf.b b gD;rw[h]at this;cases this
  have ej:=fun h:p9 v b=true=>ae.step ab h;clear ae ab gD cI jr aB tP tO jo lq;generalize p9 v b=H at cz eM ej;by_cases bp:(b.t.ap (bX v)).size<=5000
  ·rw[if_pos bp,gK bp]at aU;rw[gK bp,Bool.true_and]at cz;rw[lV]at bo cz;generalize b.t.ap (bX v)=y at aU bo cz;generalize decide (y=c.t)=q at bo cz;cases q
   ·rw[eM cz];exact bJ
   ·have ax:=ej cz;exact fO
  ·rw[if_neg bp,hG bp]at aU;rw[hG bp,Bool.false_and]at cz;rw[eM cz];exact bJ
 have jP:rz.all (p9 v)=true:=ga.2 ae.fin;clear ae;simp;(with_reducible repeat' first|refine aj ?_|simp);refine du [1,2,74,75] (fun i (_:Unit)=>[(76,.int .i64 i)]) qc.length (ka (lj v) qc) () bL (fun k b ad=>Ω) (fun _ ae _=>?_) (fun i _ hi ae _=>?_);rotate_left
 ·obtain⟨b,ab,cr⟩:=dB hi;have gD:=dE ab;have aU:bF ak 172 [cU b,.slice 5 .no (v.map aq.e)] (.bool (lj v b)):=apH tP jo tO (j9 b gD);have eM:lj v b=false->R=false:=fun h=>cI fun cf=>by have:=ga.1 cf.d b gD;rw[h]at this;cases this
  have ej:=fun h:lj v b=true=>ae.step ab h;clear ae ab gD cI jr aB tP tO jo lq;generalize lj v b=q at aU eM ej;cases q
  ·rw[eM rfl];exact bJ
  ·have ax:=ej rfl;exact fO
 have u7:qc.all (lj v)=true:=ga.2 ae.fin;clear ae;simp;(with_reducible repeat' first|refine aj ?_|simp);refine du [1,2,86,87] (fun i (_:Unit)=>[(88,.int .i64 i)]) rA.length (ka (fun k=>decide ((bX v k.v).kind=k.k)) rA) () bL (fun k b ad=>Ω) (fun _ ae _=>?_) (fun i _ hi ae _=>?_);rotate_left
 ·obtain⟨b,ab,cr⟩:=dB hi;have gD:=dE ab;have w0:=(re.at' b gD).1.1;have dU:=qs b gD;obtain⟨c,aw,_,lV⟩:=aB.get w0 dU;have Pf:∀h,(v[b.v.toNat]'h)=c:=fun h=>by rw[cc h]at aw;exact eQ aw
  by_cases g:c.t.kind=b.k
  ·have ax:=ae.step ab (by rw[lV];exact gK g);clear ae ab gD cI jr aB tP tO jo lq;exact fO
  ·rw[cI fun cf=>by have:=ga.1 cf.k b gD;rw[lV]at this;exact g (of_decide_eq_true this)]
   clear ae ab gD cI jr aB tP tO jo lq;simp[hi,cr];((with_reducible repeat' first|refine aj ?_|simp[cr,hi,w0,dU,Pf,g]|((first|apply bS|apply bW|apply bV)<;>intro h<;>try simp at h))<;>(try exact cy));all_goals simp[bz,H0,aX,aY,aW]
 have c8:rA.all (fun k=>decide ((bX v k.v).kind=k.k))=true:=ga.2 ae.fin;clear ae;simp;(with_reducible repeat' first|refine aj ?_|simp);refine du [1,104,105] (fun i (_:Unit)=>[(106,.int .i64 i)]) sm.length (ka (fun m=> !(bX v m.v).has m.s) sm) () bL (fun k b ad=>Ω) (fun _ ae _=>?_) (fun i _ hi ae _=>?_);rotate_left
 ·obtain⟨b,ab,cr⟩:=dB hi;have gD:=dE ab;have w0:=(wM.at' b gD).1.1;have dU:=pY b gD;obtain⟨c,aw,_,lV⟩:=aB.get w0 dU;have Pf:∀h,(v[b.v.toNat]'h)=c:=fun h=>by rw[cc h]at aw;exact eQ aw
  have aU:=ZR b.s c.t;cases g:c.t.has b.s
  ·rw[g]at aU;have ax:=ae.step ab (by rw[lV,g];rfl);clear ae ab gD cI jr aB tP tO jo lq;exact fO
  ·rw[g]at aU;rw[cI fun cf=>by have:=ga.1 cf.m b gD;rw[lV,g]at this;cases this]
   clear ae ab gD cI jr aB tP tO jo lq;exact bJ
 rw[jr ⟨jP,u7,c8,ga.2 ae.fin⟩];clear ae;exact bJ
def A8(n:Nat):List Int:=(List.range n).map Int.ofNat
def sW(x:Int×T):aq:=⟨x.1,x.2⟩
def na(l:List aq):List aq:=l.mergeSort fun x y=>decide (x.v<=y.v)
theorem Ow(l:List aq):(na l).length=l.length:=List.length_mergeSort l
theorem Zt{k:Int}:∀{m:List (Int×T)},j3 k m=none->k∉m.map (·.1)
 |[],_=>by simp
 |(i,v)::r,h=>by
  simp only[j3]at h;split at h
  ·cases h
  ·rename_i cM;have:=Zt h;simp only[gS,fA,not_or];exact⟨cM,this⟩
theorem akq(p:T):∀(t:T) (m:List (Int×T)),(m.map (·.1)).Nodup->((fR p t m).2.map (·.1)).Nodup:=by
 induction p with
 |var n=>
  intro t m hm;simp only[fR];split
  ·exact hm
  ·rename_i h;have:=Zt h;rw[rO,List.nodup_append];refine⟨hm,Ψ,?_⟩;intro a bu b ab e;simp at ab;subst ab e;exact this bu
 |pair a b ds dv=>
  intro t m hm;cases t with
  |pair c d=>
   simp only[fR];split
   ·exact dv d _ (ds c m hm)
   ·exact ds c m hm
  |_=>simpa[fR]using hm
 |_=>intro t m hm;cases t<;>simpa[fR]using hm
structure pc (o:Int->Bool) (P:(Int->T)->Prop) (Q:(T->Prop)->Prop) (l aZ:List aq):Prop where
 asc:gk aZ
 mono:∀v x,cP l v=some x->cP aZ v=some x
 keys:∀v,(cP aZ v).isSome=true↔(cP l v).isSome=true\/o v=true
 sound:∀vu:List aq,(∀v x,cP aZ v=some x->cP vu v=some x)->P (bX vu)
 vals:∀R:T->Prop,(∀a b,R (.pair a b)->R a/\R b)->Q R->(∀v x,cP l v=some x->R x)->∀v x,cP aZ v=some x->R x
theorem pc.seq{gP gF:Int->Bool}{xR Py:(Int->T)->Prop}{Pz PA:(T->Prop)->Prop}{l hX gp:List aq}(J:pc gP xR Pz l hX)(U:pc gF Py PA hX gp):
  pc (fun v=>gP v||gF v) (fun aQ=>xR aQ/\Py aQ) (fun R=>Pz R/\PA R) l gp where
 asc:=U.asc
 mono v x h:=U.mono v x (J.mono v x h)
 keys v:=by rw[U.keys,J.keys,lH,or_assoc]
 sound vu h:=⟨J.sound vu fun v x e=>h v x (U.mono v x e),U.sound vu h⟩
 vals R aw bm h:=U.vals R aw bm.2 (J.vals R aw bm.1 h)
theorem pc.imp{o o':Int->Bool}{P Px:(Int->T)->Prop}{Q oO:(T->Prop)->Prop}{l aZ:List aq}(h:pc o P Q l aZ)(ay:∀v,o v=o' v)(K6:∀aQ,P aQ->Px aQ)(hV:∀R:T->Prop,(∀a b,R (.pair a b)->R a/\R b)->oO R->Q R):pc o' Px oO l aZ where
 asc:=h.asc
 mono:=h.mono
 keys v:=by rw[h.keys,ay]
 sound vu e:=K6 _ (h.sound vu e)
 vals R aw bm e:=h.vals R aw (hV R aw bm) e
theorem pc.refl{l:List aq}(h:gk l):pc (fun _=>false) (fun _=>True) (fun _=>True) l l where
 asc:=h
 mono _ _ e:=e
 keys v:=by simp
 sound _ _:=trivial
 vals _ _ _ e:=e
theorem MS:∀(p t:T) {l:List aq},gk l->(dX p t l).1=true->pc p.occ (fun aQ=>p.ap aQ=t) (fun R=>R t) l (dX p t l).2
 | .var n,t,l,h,J=>by
  simp only[dX]at J⊢;cases e:cP l n with
  |some x=>
   simp only[e]at J⊢;have:x=t:=of_decide_eq_true J;subst this;refine⟨h,fun _ _ e=>e,fun v=>?_,fun vu K1=>?_,fun _ _ _ e=>e⟩
   ·simp only[T.occ,dV];exact⟨.inl,fun h=>h.elim id fun h=>by subst h;rw[e];rfl⟩
   ·simp only[T.ap,bX,K1 n x e,jA]
  |none=>
   simp only[e]at J⊢;have ab:∀v,cP (lX ⟨n,t⟩ l) v=if n=v then some t else cP l v:=P4 (b:=⟨n,t⟩) h e
   refine⟨zS h (mD.1 e),fun v x aB=>?_,fun v=>?_,fun vu K1=>?_,fun R aw bm ar v x aB=>?_⟩
   ·rw[ab,if_neg (fun ax=>by subst ax;rw[e]at aB;cases aB)];exact aB
   ·rw[ab];simp only[T.occ,dV];split
    ·rename_i ax;simp[ax]
    ·rename_i ax;simp[ax]
   ·have:=K1 n t (by rw[ab,if_pos rfl]);simp only[T.ap,bX,this,jA]
   ·rw[ab]at aB;split at aB
    ·rw[<-eQ aB];exact bm
    ·exact ar v x aB
 | .pair a b,.pair c d,l,h,J=>by
  simp only[dX]at J⊢;cases al:(dX a c l).1 with
  |false=>simp[al]at J
  |true=>
   simp only[al,if_true]at J⊢;cases aE:(dX b d (dX a c l).2).1 with
   |false=>simp[aE]at J
   |true=>simp only[if_true];have dy:=MS a c h al;refine(dy.seq (MS b d dy.asc aE)).imp (fun v=>by simp only[T.occ]) (fun aQ h=>by simp only[T.ap,h.1,h.2]) fun R aw bm=>aw _ _ bm
 | .pair a b,.var _,l,h,J=>by simp[dX]at J
 | .pair a b,.nil,l,h,J=>by simp[dX]at J
 | .pair a b,.sym _,l,h,J=>by simp[dX]at J
 | .pair a b,.num _,l,h,J=>by simp[dX]at J
 | .nil,t,l,h,J=>by
  by_cases e:T.nil=t
  ·subst e;simp only[dX,if_true];exact(pc.refl h).imp (fun v=>rfl) (fun _ _=>rfl) fun _ _ _=>trivial
  ·simp[dX,e]at J
 | .sym s,t,l,h,J=>by
  by_cases e:T.sym s=t
  ·subst e;simp only[dX,if_true];exact(pc.refl h).imp (fun v=>rfl) (fun _ _=>rfl) fun _ _ _=>trivial
  ·simp[dX,e]at J
 | .num k,t,l,h,J=>by
  by_cases e:T.num k=t
  ·subst e;simp only[dX,if_true];exact(pc.refl h).imp (fun v=>rfl) (fun _ _=>rfl) fun _ _ _=>trivial
  ·simp[dX,e]at J
def y8(u:List T)(v:Int):Bool:=u.any fun t=>t.occ v
theorem MO:∀(u eG:List T) {l:List aq},gk l->u.length=eG.length->(eY u eG l).1=true->pc (y8 u) (fun aQ=>u.map (T.ap aQ)=eG) (fun R=> ∀t∈eG,R t) l (eY u eG l).2
 |[],[],l,h,_,_=>(pc.refl h).imp (fun v=>rfl) (fun _ _=>rfl) fun _ _ _=>trivial
 |[],_::_,l,h,ar,_=>by simp at ar
 |_::_,[],l,h,ar,_=>by simp at ar
 |p::u,t::eG,l,h,ar,J=>by
  simp only[eY]at J⊢;cases al:(dX p t l).1 with
  |false=>simp[al]at J
  |true=>simp only[al,if_true]at J⊢;have dy:=MS p t h al;refine(dy.seq (MO u eG dy.asc (by simpa using ar) J)).imp (fun v=>by simp[y8]) (fun aQ h=>by simp[h.1,h.2]) fun R aw bm=>⟨bm t Ψ,fun x af=>bm x (by simp[af])⟩
theorem abm{v:List aq}(h:gk v){n:Nat}(ad:∀w:Int,(cP v w).isSome=true↔0<=w/\w<n):v.map (·.v)=A8 n:=by
 refine I3 (le:=fun x y:Int=>x<=y) (fun x y _ _ J U=>Ω) ?_ ?_ ?_
 ·rw[td];exact h.imp fun h=>Ω
 ·unfold A8;rw[td];exact List.pairwise_lt_range.imp fun h=>Int.ofNat_le.2 (Nat.le_of_lt h)
 ·refine(List.perm_ext_iff_of_nodup (Ju h) (by unfold A8;rw[List.nodup_iff_pairwise_ne,td];exact List.pairwise_lt_range.imp fun h e=>by have:=avO e;omega)).2 fun w=>?_;have:w∈v.map (·.v)↔(cP v w).isSome=true:=by
   cases e:cP v w with
   |some t=>exact⟨fun _=>rfl,fun _=>hB.2 ⟨_,iV e,rfl⟩⟩
   |none=>refine⟨fun h=>?_,fun h=>by cases h⟩;obtain⟨b,J,U⟩:=hB.1 h;exact absurd U (mD.1 e b J)
  rw[this,ad];simp only[A8,hB,List.mem_range];refine⟨fun h=>⟨w.toNat,Ω,Int.toNat_of_nonneg h.1⟩,fun⟨a,J,U⟩=>?_⟩;subst U;exact⟨rN a,Int.ofNat_lt.2 J⟩
theorem WY{u:List T}{n:Nat}(ax:(fa u []).length=n)(hu:xI (fa u []))(v:Int):y8 u v=true↔0<=v/\v<n:=by
 have J:y8 u v=true↔v∈fa u []:=by rw[Ej];simp[y8]
 rw[J,List.mem_iff_getElem?];constructor
 ·rintro⟨i,hi⟩;have:=hu i v hi;have:=(eP.1 hi).1;omega
 ·intro h;have hi:v.toNat<(fa u []).length:=Ω
  refine⟨v.toNat,?_⟩;rw[cc hi];have:=hu _ _ (cc hi);rw[this];congr 1;omega
theorem Ov{l:List aq}(aR:(l.map (·.v)).Nodup):gk (na l):=by
 have aN:∀a b c:aq,(decide (a.v<=b.v))=true->(decide (b.v<=c.v))=true->(decide (a.v<=c.v))=true:=by intro a b c;simp;omega
 have wS:∀a b:aq,(decide (a.v<=b.v)||decide (b.v<=a.v))=true:=by intro a b;simp;omega
 have J:=List.pairwise_mergeSort aN wS l;have U:(na l).Pairwise fun x y=>x.v≠y.v:=by have bB:((na l).map (·.v)).Nodup:=((List.mergeSort_perm l _).map _).nodup_iff.2 aR;rw[List.nodup_iff_pairwise_ne,td]at bB;exact bB
 refine(J.and U).imp fun h=>?_;have:=of_decide_eq_true h.1;omega
theorem abl{m:List (Int×T)}{v:Int}{x:T}:j3 v m=some x->(v,x)∈m:=by
 induction m with
 |nil=>intro h;simp[j3]at h
 |cons y r bR=>
  obtain⟨i,t⟩:=y;simp only[j3];split
  ·rename_i e;intro h;rw[e,eQ h];simp
  ·intro h;simp[bR h]
theorem abj{m:List (Int×T)}{v:Int}{x:T}(h:(v,x)∈m):j3 v m≠none:=by
 induction m with
 |nil=>cases h
 |cons y r bR=>
  obtain⟨i,t⟩:=y;simp only[j3];split
  ·simp
  ·rename_i e;rcases fA.1 h with h|h
   ·injection h with J U;exact absurd J e
   ·exact bR h
theorem Jt{m:List (Int×T)}{l:List aq}(h:tn m l)(aR:(m.map (·.1)).Nodup):na (m.map sW)=l:=by
 have k1:((m.map sW).map (·.v)).Nodup:=by rw[List.map_map];exact aR
 have bu:=Ov k1;refine Fs bu h.asc fun v=>?_;rw[<-h.look];cases e:j3 v m with
 |some x=>exact pM (b:=⟨v,x⟩) bu ((List.mergeSort_perm _ _).mem_iff.2 (hB.2 ⟨(v,x),abl e,rfl⟩))
 |none=>refine mD.2 fun b ab he=>?_;obtain⟨y,aO,rfl⟩:=hB.1 ((List.mergeSort_perm _ _).mem_iff.1 ab);have:y.1=v:=he;subst this;exact abj (x:=y.2) aO e
theorem D4:∀(u eG:List T) {m:List (Int×T)},(m.map (·.1)).Nodup->((mtL u eG m).2.map (·.1)).Nodup
 |[],_,m,h=>by simpa[mtL]using h
 |_::_,[],m,h=>by simpa[mtL]using h
 |p::u,t::eG,m,h=>by
  simp only[mtL];have:=akq p t m h;split
  ·exact D4 u eG this
  ·exact this
def A6(u:List T)(s:dA)(l:List T):Prop:=(∀t∈l,t.gnd=true)/\u.length=l.length/\(eY u l []).1=true/\(eY u l []).2.length<=400/\rD s (eY u l []).2
theorem Vq{u l:List T}{n:Nat}(ax:(fa u []).length=n)(pZ:n<=100000)(hu:xI (fa u []))(hlen:u.length=l.length)(aJ:∀t∈l,t.fit=true)(a7:∀t∈l,t.gnd=true)(J:(eY u l []).1=true)(a6:(eY u l []).2.length<=400):v8 (n:Int) (eY u l []).2:=by
 have r:=MO u l (l:=[]) E9 hlen J;have ad:=abm r.asc (n:=n) fun w=>by rw[r.keys,WY ax hu];simp[cP]
 have aB:=fun(R:T->Prop) aw bm=>r.vals R aw bm (fun v x e=>by simp[cP]at e);have jR:∀(R:T->Prop),(∀a b,R (.pair a b)->R a/\R b)->(∀t∈l,R t)->∀b∈(eY u l []).2,R b.t:=fun R aw bm b ab=>aB R aw bm b.v b.t (pM r.asc ab);have ahV:(eY u l []).2.length=n:=by have:=e2 List.length ad;simpa[A8]using this
 have nD:∀(i:Nat) (b:aq),(eY u l []).2[i]? =some b->b.v=(i:Int):=fun i b ab=>by have h:=e2 (fun l:List Int=>l[i]?) ad;simp only[qP,ab,nl]at h;have hi:=(eP.1 ab).1;simp only[A8,qP,List.getElem?_range (show i<n by omega),nl,dQ]at h;exact h
 refine⟨fun b ab=>⟨?_,?_⟩,r.asc,⟨a6,?_⟩,Ω,nD,?_⟩
 ·obtain⟨i,hi⟩:=List.mem_iff_getElem?.1 ab;have:=nD i b hi;have:=(eP.1 hi).1;omega
 ·exact jR (fun t=>t.ok=true) (fun a b h=>by simpa[T.ok]using h) (fun t aN=>by have:=aJ t aN;simp only[T.fit,cC]at this;exact this.1) b ab
 ·exact jR (fun t=>t.size<=5000) (fun a b h=>by simp only[T.size]at h;omega) (fun t aN=>by have:=aJ t aN;simp only[T.fit,cC,fc]at this;exact this.2)
 ·exact jR (fun t=>t.gnd=true) (fun a b h=>by simpa[T.gnd]using h) a7
theorem KZ{aQ:Int->T}:∀{t:T},(∀v,t.occ v=true->(aQ v).gnd=true)->(t.ap aQ).gnd=true
 | .var n,h=>h n (by simp[T.occ])
 | .pair a b,h=>by simp only[T.ap,T.gnd,cC];exact⟨KZ fun v aB=>h v (by simp[T.occ,aB]),KZ fun v aB=>h v (by simp[T.occ,aB])⟩
 | .nil,_=>rfl
 | .sym _,_=>rfl
 | .num _,_=>rfl
theorem aiT{u:List T}{s:dA}{l:List T}{n:Nat}(ag:s.n=n)(ax:(fa u []).length=n)(pZ:n<=100000)(hu:xI (fa u []))(aJ:∀t∈l,t.fit=true):(u.length=l.length/\(mtL u l []).1=true/\G1 s ((na ((mtL u l []).2.map sW)).map aq.b))↔A6 u s l:=by
 have bs:tn [] []:=⟨E9,fun v=>by simp[j3,cP]⟩;obtain⟨al,aE⟩:=MR u l bs;unfold A6;rw[al];constructor
 ·rintro⟨bC,a2,a3⟩;rw[Jt (aE a2) (D4 u l Ψ)]at a3;obtain⟨v,ch,ca,fB⟩:=a3;have:=rW ch;subst this;refine⟨fun t aN=>?_,bC,a2,ca.fits.1,fB⟩;have r:=MO u l (l:=[]) E9 bC a2;have oo:=r.sound _ fun _ _ e=>e;rw[<-oo]at aN;obtain⟨p,bB,rfl⟩:=hB.1 aN;refine KZ fun w hw=>?_;have:=(r.keys w).2 (.inr (by simp only[y8,List.any_eq_true];exact⟨p,bB,hw⟩));obtain⟨x,af⟩:=fU.1 this;simp only[bX,af,jA];exact ca.gnd _ (iV af)
 ·rintro⟨bC,a2,a3,a4,a5⟩;refine⟨a2,a3,?_⟩;rw[Jt (aE a3) (D4 u l Ψ)];exact⟨_,rfl,by rw[ag];exact Vq ax pZ hu a2 aJ bC a3 a4,a5⟩
end
section
open Go Go.Pv Go.Lib
instance:Inhabited aq:=⟨⟨0,.nil⟩⟩
abbrev rS(l:List aq):cH:=dO aq.e 868 307 61 5 l
theorem P1:∀(S:aI->Prop) (x:aq),aD S x.e:=fun S x=>by simp
theorem I8(l:List aq):dN (rS l):=wc P1 l
def xb(x y:aq):Bool:=decide (x.v<y.v)
theorem ajN:Sort.SWO xb:=⟨fun x=>by simp[xb],fun x y z J U=>by simp[xb]at*;omega,fun x y z J U=>by simp[xb]at*;omega⟩
theorem agI(l:List aq)(i j:Nat)(x y:aq)(ar:l.length<=68719476736)(hi:l[i]? =some x)(ae:l[j]? =some y):bH ak 235 [.int .i64 i,.int .i64 j,.ptr (.obj 307) 0] (rS l) fun r ah=>r= .bool (xb x y)/\ah=rS l:=by have ag:=I8 l;obtain⟨k2,fM⟩:=eP.1 hi;obtain⟨eh,oe⟩:=eP.1 ae;unfold rS dO at ag⊢;refine bH.mk mixed hO aep alq Ψ ag.obj fun aK cB=>?_;unfold Q4;simp[k2,eh,fM,oe];(with_reducible repeat' first|refine aj ?_|simp[k2,eh,fM,oe]);refine cF.at _ (.inl rfl) ag (Same.refl _) aL aL ?_;simp[cL,X5,aX,aY,aW,xb]
noncomputable def Tryz.bdT:TypeInfo:=(ak.info? 23).get (by kernel_rfl)
noncomputable def Tryz.bdE:TypeInfo:=(ak.info? 61).get (by kernel_rfl)
theorem Tryz.bdK(n:Nat)(U:2<=n):Lib.swapperK n Tryz.bdE 25=9:=by
 have a:Tryz.bdE.hasPointers=true:=by kernel_rfl
 have b:Tryz.bdE.bytes=64:=by kernel_rfl
 have c:(n==0)=false:=by simp;omega
 have d:(n==1)=false:=by simp;omega
 simp[Lib.swapperK,a,b,c,d]
theorem ajM{α β:Type}(f:α->β)(l:List α)(i j:Nat):(gW l i j).map f=gW (l.map f) i j:=by
 unfold gW;simp only[qP];cases l[i]? with
 |none=>simp
 |some x=>
  cases l[j]? with
  |none=>simp
  |some y=>simp[List.map_set]
theorem Y1{l aZ:List aq}(bB:aZ.Perm l)(aR:(l.map (·.v)).Nodup)(ag:aZ.Pairwise fun x y=>x.v<=y.v):aZ=na l:=by
 have k1:(aZ.map (·.v)).Nodup:=(bB.map _).nodup_iff.2 aR;have bu:gk aZ:=by have U:=k1;rw[List.nodup_iff_pairwise_ne,td]at U;exact(ag.and U).imp fun h=>by have:=h.1;have:=h.2;omega
 have ab:=Ov aR;have hm:∀b,b∈aZ↔b∈na l:=fun b=>by rw[bB.mem_iff];exact(List.mergeSort_perm l _).mem_iff.symm
 refine Fs bu ab fun v=>?_;cases e:cP aZ v with
 |some x=>exact(pM (b:=⟨v,x⟩) ab ((hm _).1 (iV e))).symm
 |none=>exact(mD.2 fun b h=>mD.1 e b ((hm b).2 h)).symm
theorem agG(l:List aq)(ar:l.length<=68719476736)(aR:(l.map (·.v)).Nodup):bH ak 126 [.iface 23 (.row 5 (.obj 868) l.length),.func 235 [.ptr (.obj 307) 0]] (rS l) fun r ah=>r= .tuple []/\ah=rS (na l):=by
 refine(KO P1 (K:=868) (B:=307) (sz:=5) (by decide) (by decide) 23 Tryz.bdT Tryz.bdE (by kernel_rfl) (by kernel_rfl) (by kernel_rfl) (by kernel_rfl) 25 (fun _=>by kernel_rfl) Tryz.bdK 235 xb ajN l ar (fun aZ h i j x y hi ae=>agI aZ i j x y Ω hi ae) (fun aZ h i j hi ae=>?_)).mono ?_
 ·have:=KX (P:=ak) false 257 (fun args W=>run_callFunc_extern Tryz.func257 (by kernel_rfl) (by kernel_rfl) (by kernel_rfl) (e:=Cf false) (by kernel_rfl) args W)
   61 Tryz.bdE (by kernel_rfl) (fun _=>by kernel_rfl) (I8 aZ) (K:=868) (n:=l.length) (el:=61) (sz:=5) (by kernel_rfl) (xs:=aZ.map aq.e) (by simp[dO,Pv.look,h]) i j hi ae
  refine this.mono ?_;rintro r ah ⟨rfl,rfl⟩;refine⟨rfl,?_⟩;simp[dO,cA,ajM,h]
 ·rintro r ah ⟨rfl,aZ,rfl,J,U⟩;exact⟨rfl,by rw[Y1 J aR (U.imp fun h=>by simp[xb]at h;omega)]⟩
def rU(l:List aq):cH:=⟨[],[(.obj 868,⟨l.length,61,5,some (l.map aq.e)⟩)]⟩
theorem Jg(l:List aq):dN (rU l):=by unfold rU;refine dN.of ⟨by intro m;simp[Pv.look],by intro m;simp[Pv.look]⟩ Ψ ?_;intro x af ys aO;simp at af;subst af;simp at aO;subst aO;simp
theorem PD(l aZ:List aq):Same (rU l) (rU aZ):=Same.keys rfl rfl
theorem aaN(l aZ:List aq):Same (rS l) (rS aZ):=Same.keys rfl rfl
theorem agH(l:List aq)(ar:l.length<=68719476736)(aR:(l.map (·.v)).Nodup):bH ak 175 [.row 5 (.obj 868) l.length] (rU l) fun r ah=>r= .tuple []/\ah=rU (na l):=by have ag:=Jg l;have ei:=Jg (na l);have dG:=PD l (na l);have ax:=Ow l;have nK:=agG l ar aR;unfold rU at ag ei dG⊢;refine bH.mk mixed hO aeo alp Ψ ag.obj fun aK cB=>?_;unfold Q3;simp;refine cT.ob nK (I8 l) (by unfold rS dO;exact aL) (by unfold rS dO;exact aL) (by simp[inObs,dO,Pv.look]) ?_;rintro r ah ⟨rfl,rfl⟩;refine⟨aaN _ _,?_⟩;unfold rS dO;simp[cl];refine cF.at _ (.inr rfl) ei dG aL aL ?_;simp[cL,X4,aX,aY,aW]
theorem aoX{a b:List aq}(h:a.Perm b)(aR:(b.map (·.v)).Nodup):na a=na b:=by refine Y1 ((List.mergeSort_perm a _).trans h) aR ?_;exact(Ov ((h.map _).nodup_iff.2 aR)).imp fun h=>Ω
theorem He(S:aI->Prop):∀a b:List ai,aH S (a++b)↔aH S a/\aH S b
 |[],b=>by simp[aH]
 |x::r,b=>by simp only[bZ,aH,He S r b,and_assoc]
def ai6(m:List (Int×T))(k:Nat)(st:br):Prop:=∃(seen:List Nat) (xs:List aq),seen.Nodup/\(∀b∈seen,b<m.length)/\k=m.length-seen.length/\xs=(seen.filterMap fun b=>m[b]?).map sW/\xs.length=seen.length/\st=⟨[(3,.row 5 (.obj 868) xs.length),(8,.ptr (.loc 0) 0)],[(.obj 867,nL m),(.loc 0,b7 m.length seen (.obj 867))],[(.obj 868,⟨xs.length,61,5,some (xs.map aq.e)⟩)],1,[.obj 868,.obj 867]⟩
theorem agP(m:List (Int×T))(ar:m.length<=10000000000)(hm:(m.map (·.1)).Nodup):bH ak 89 [.gmap (.obj 867)] (gb 867 m) fun r ah=>r= .slice 5 .no ((na (m.map sW)).map aq.e)/\ah=gb 867 m:=by
 have ag:=lL 867 m;have o4:((m.map sW).map (·.v)).Nodup:=by rw[List.map_map];exact hm
 unfold gb at ag⊢;refine bH.mk mixed hO aer als Ψ ag.obj fun aK cB=>?_;unfold Q6;simp;refine oX (ai6 m) m.length _ ⟨by simp[fresh,aH,aD,b7,inObs,Pv.look,mr],ee (by simp[fresh,aH,aD,b7,inObs,Pv.look,mr]),ef (by simp[fresh,aH,aD,dW,inObs,Pv.look,mr]),Ψ⟩ ⟨[],[],Ψ,Ψ,Ψ,Ψ,Ψ,rfl⟩ ?_;rintro k st ⟨seen,xs,aR,bD,ad,gV,jq,rfl⟩ ku cB;clear ku cB;have hle:=EH aR bD;simp;refine acJ (mk:= .obj 867) (seen:=seen) (l:=m) Ψ Ψ rfl (fun jR=>?_) (fun b x af ab=>?_)
 ·simp;have sq:xs.Perm (m.map sW):=by rw[gV];exact(It aR bD jR).map _
  have aiK:(xs.map (·.v)).Nodup:=(sq.map _).nodup_iff.2 o4;refine cT.ob (agH xs Ω aiK) (Jg xs) (by unfold rU;exact aL) (by unfold rU;exact aL) (by simp[rU,inObs,Pv.look]) ?_;rintro r ah ⟨rfl,rfl⟩;refine⟨PD _ _,?_⟩;unfold rU;simp[cl,Ow];refine cF.at _ (.inl rfl) ag (Same.refl _) aL aL ?_;simp[cL,X7,aX,aY,aW];rw[aoX sq o4]
 ·obtain⟨v,x⟩:=x;have wL:∀f:aI->ba (List ai),f (.loc 0)=some (b7 m.length (seen++[b]) (.obj 867))->f (.obj 867)=some (nL m)->ov f (.ptr (.loc 0) 0)=some (True,.tuple [.int .i64 v,x.e]):=fun f J U=>ajZ f (.loc 0) (.obj 867) m.length seen b m (v,x) J U rfl af;have e4:b<m.length:=(eP.1 af).1;have p2:=Iu aR bD e4 ab;simp[wL];(with_reducible repeat' first|refine aj ?_|simp);refine bO.next (m.length-(seen.length+1)) Ω ⟨seen++[b],xs++[⟨v,x⟩],HC aR ab,(by simp;intro c aw;rcases aw with aw|rfl;exact bD c aw;exact e4),Ψ,by rw[List.filterMap_append,rO,<-gV];simp[af,sW],by simp[jq],rfl⟩ ⟨by simp[fresh,aH,aD,b7,inObs,Pv.look,mr,He],ee (by simp[fresh,aH,aD,b7,inObs,Pv.look,mr,He]),ef (by simp[fresh,aH,aD,dW,inObs,Pv.look,mr,He]),Ψ⟩
end
section
open Go Go.Pv
structure iM (l:List aq):Prop where
 asc:gk l
 low:∀b∈l,0<=b.v/\b.v<=100000
theorem iM.len{l:List aq}(h:iM l):l.length<=100001:=by
 have:=Mf (Ju h.asc) fun v aB=>by obtain⟨x,af,rfl⟩:=hB.1 aB;exact h.low x af
 simpa using this
def y1(t:T):Prop:= ∀v,t.occ v=true->0<=v/\v<=100000
theorem iM.nil:iM []:=⟨E9,Ψ⟩
theorem iM.mt:∀(p t:T) {l:List aq},iM l->y1 p->iM (dX p t l).2
 | .var n,t,l,h,bB=>by
  simp only[dX];cases e:cP l n with
  |some x=>exact h
  |none=>
   refine⟨zS h.asc (mD.1 e),fun b ab=>?_⟩;rcases y3.1 ab with rfl|ab
   ·exact bB n (by simp[T.occ])
   ·exact h.low b ab
 | .pair a b,.pair c d,l,h,bB=>by
  have J:=iM.mt a c h fun v aB=>bB v (by simp[T.occ,aB]);have U:=iM.mt b d J fun v aB=>bB v (by simp[T.occ,aB]);simp only[dX];split
  ·split
   ·exact U
   ·exact iM.nil
  ·exact iM.nil
 | .pair a b,.var _,l,h,_=>by simp only[dX];split<;>first|exact h|exact iM.nil
 | .pair a b,.nil,l,h,_=>by simp only[dX];split<;>first|exact h|exact iM.nil
 | .pair a b,.sym _,l,h,_=>by simp only[dX];split<;>first|exact h|exact iM.nil
 | .pair a b,.num _,l,h,_=>by simp only[dX];split<;>first|exact h|exact iM.nil
 | .nil,t,l,h,_=>by simp only[dX];split<;>first|exact h|exact iM.nil
 | .sym _,t,l,h,_=>by simp only[dX];split<;>first|exact h|exact iM.nil
 | .num _,t,l,h,_=>by simp only[dX];split<;>first|exact h|exact iM.nil
theorem aqk(p:T):∀(t:T) (l:List aq),iM l->y1 p->bF ak 173 [p.e,t.e,.slice 5 .no (l.map aq.e)] (.tuple [.slice 5 .no ((dX p t l).2.map aq.e),.bool (dX p t l).1]):=by
 induction p with
 |var n=>
  intro t l ar bB;have iz:=qK l n (by have:=ar.len;omega);cases e:cP l n with
  |some x=>rw[e]at iz;have de:=EX x t;simp only[dX,e];generalize decide (x=t)=q at de;simp only[jA,pE]at iz;clear e ar bB;refine be hO q4 rq fun aK=>?_;unfold ql;exact bJ
  |none=>rw[e]at iz;have tT:=ZV l ⟨n,t⟩ (by have:=ar.len;omega) ar.asc;simp only[dX,e];simp only[nk,mc]at iz;clear e ar bB;generalize lX ⟨n,t⟩ l=w at tT;refine be hO q4 rq fun aK=>?_;unfold ql;exact bJ
 |pair a b ds dv=>
  intro t l ar bB;cases t with
  |pair c d=>
   have aU:=ds c l ar fun v aB=>bB v (by simp[T.occ,aB]);have J:=iM.mt a c ar fun v aB=>bB v (by simp[T.occ,aB]);have bo:=dv d _ J fun v aB=>bB v (by simp[T.occ,aB]);generalize aV:dX (.pair a b) (.pair c d) l=R;simp only[dX]at aV;clear ds dv ar bB J;generalize dX a c l=dy at aU bo aV;obtain⟨bc,dU⟩:=dy;simp only at aU bo aV;generalize dX b d dU=fb at bo aV;obtain⟨bE,dk⟩:=fb;simp only at bo aV;refine be hO q4 rq fun aK=>?_;unfold ql;simp;(with_reducible repeat' first|refine aj ?_|simp);refine du [4,54,55] (fun i (L:List aq)=>[(2,.slice 5 .no (L.map aq.e)),(56,.int .i64 i)]) 2 (fun i L=>(i=0->L=l)/\(i=1->bc=true/\L=dU)/\(i=2->bc=true/\bE=true/\L=dk)) l bL ⟨fun _=>rfl,fun h=>Ω,fun h=>Ω⟩ (fun L ae _=>?_) (fun i L hi ae _=>?_)
   ·obtain⟨rfl,rfl,rfl⟩:=ae.2.2 rfl;simp only[if_true]at aV;subst aV;clear ae aU bo;exact bJ
   ·rcases(by omega:i=0\/i=1)with rfl|rfl
    ·obtain rfl:=ae.1 rfl;cases bc with
     |false=>rw[if_neg Ψ]at aV;subst aV;clear ae bo;exact bJ
     |true=>clear ae bo aV;simp;(with_reducible repeat' first|refine aj ?_|refine aF aU ?_|refine aG aU ?_|simp);all_goals refine bO.rng (n:=2) (i:=0) dU Ω Ψ bL
    ·obtain⟨rfl,rfl⟩:=ae.2.1 rfl;cases bE with
     |false=>simp only[if_true]at aV;rw[if_neg Ψ]at aV;subst aV;clear ae aU;exact bJ
     |true=>clear ae aU aV;simp;(with_reducible repeat' first|refine aj ?_|refine aF bo ?_|refine aG bo ?_|simp);all_goals refine bO.rng (n:=2) (i:=1) dk Ω Ψ bL
  |_=>simp only[dX];rw[if_neg Ψ];clear ds dv;refine be hO q4 rq fun aK=>?_;unfold ql;exact bJ
 |nil=>
  intro t l _ _;simp only[dX];by_cases e:T.nil=t
  ·subst e;rw[if_pos rfl];refine be hO q4 rq fun aK=>?_;unfold ql;simp;(with_reducible repeat' first|refine aj ?_|simp);refine du [4,54,55] (fun i (_:Unit)=>[(2,.slice 5 .no (l.map aq.e)),(56,.int .i64 i)]) 0 (fun _ _=>True) () bL trivial (fun _ _ _=>?_) (fun i _ hi _ _=>absurd hi Ω);exact bJ
  ·rw[if_neg e];cases t with
   |nil=>exact absurd rfl e
   |_=>clear e;refine be hO q4 rq fun aK=>?_;unfold ql;exact bJ
 |sym s=>
  intro t l _ _;simp only[dX];by_cases e:T.sym s=t
  ·subst e;rw[if_pos rfl];refine be hO q4 rq fun aK=>?_;unfold ql;simp;(with_reducible repeat' first|refine aj ?_|simp);refine du [4,54,55] (fun i (_:Unit)=>[(2,.slice 5 .no (l.map aq.e)),(56,.int .i64 i)]) 0 (fun _ _=>True) () bL trivial (fun _ _ _=>?_) (fun i _ hi _ _=>absurd hi Ω);exact bJ
  ·rw[if_neg e];cases t with
   |sym y=>have ff:¬s=y:=fun h=>e (by rw[h]);have acu:(s !=y)=true:=bne_iff_ne.2 ff;have bn:(s==y)=false:=beq_eq_false_iff_ne.2 ff;clear e;refine be hO q4 rq fun aK=>?_;unfold ql;exact bJ
   |_=>clear e;refine be hO q4 rq fun aK=>?_;unfold ql;exact bJ
 |num s=>
  intro t l _ _;simp only[dX];by_cases e:T.num s=t
  ·subst e;rw[if_pos rfl];refine be hO q4 rq fun aK=>?_;unfold ql;simp;(with_reducible repeat' first|refine aj ?_|simp);refine du [4,54,55] (fun i (_:Unit)=>[(2,.slice 5 .no (l.map aq.e)),(56,.int .i64 i)]) 0 (fun _ _=>True) () bL trivial (fun _ _ _=>?_) (fun i _ hi _ _=>absurd hi Ω);exact bJ
  ·rw[if_neg e];cases t with
   |num y=>have ff:¬s=y:=fun h=>e (by rw[h]);have acu:(s !=y)=true:=bne_iff_ne.2 ff;have bn:(s==y)=false:=beq_eq_false_iff_ne.2 ff;clear e;refine be hO q4 rq fun aK=>?_;unfold ql;exact bJ
   |_=>clear e;refine be hO q4 rq fun aK=>?_;unfold ql;exact bJ
end
section
open Go Go.Pv
section
variable {α:Type} (S:α->cH) (f:Int->α->α) (fk:Nat->α->Prop)
theorem afT(Aw:∀n v a,fk (n+1) a->fk n (f v a))(eb:∀n a,fk (n+1) a->fk n a)(t:T):∀n a,fk (n+t.size) a->fk n (t.fold f a):=by
 induction t with
 |var v=>intro n a h;exact Aw n v a h
 |pair x y lx mO=>intro n a h;refine mO n _ (lx _ a (eb _ _ ?_));simp only[T.size]at h;rwa[show n+y.size+x.size+1=n+(1+x.size+y.size) by omega]
 |_=>intro n a h;exact eb n a h
theorem age(dr:∀a,dN (S a))(dG:∀a b,Same (S a) (S b))(g:Nat)(dg:List ai)(aw:∀a,aH (inObs (S a)) dg)(cR:c2 dg=dg)(Aw:∀n v a,fk (n+1) a->fk n (f v a))(eb:∀n a,fk (n+1) a->fk n a)(aJ:∀n v a,fk (n+1) a->bH ak g (.int .i64 v::dg) (S a) fun r ah=>r= .tuple []/\ah=S (f v a))(t:T):
  ∀n a,fk (n+t.size) a->bH ak 129 [t.e,.func g dg] (S a) fun r ah=>r= .tuple []/\ah=S (t.fold f a):=by
 have ax:∀a m,Pv.look (.loc m) (S a).b=none:=fun a=>(dr a).obj.1;have hu:∀a m cs,cA (.loc m) cs (S a).b=(S a).b++[(.loc m,cs)]:=fun a m cs=>j4 (ax a m);have ay:∀a m,aI.loc m∉c1 (S a):=fun a=>jY (dr a).obj;induction t with
 |pair x y lx mO=>intro n a ae;simp only[T.size]at ae;have hc:fk (n+y.size+x.size) a:=eb _ _ (by rwa[show n+y.size+x.size+1=n+(1+x.size+y.size) by omega]);have yX:=lx _ a hc;have sC:=mO n (x.fold f a) (afT f fk Aw eb x _ a hc);clear lx mO aJ Aw eb;have ag:=dr a;refine bH.mk mixed fy u1 vC Ψ ag.obj fun aK cB=>?_;unfold tp;simp[hu,ay,cK,ax,cR];(with_reducible repeat' first|refine aj ?_|simp[hu,ay,cK,ax]);refine cT.ob yX ag aL aL (by simp[aw]) ?_;rintro r ah ⟨rfl,rfl⟩;refine⟨dG _ _,?_⟩;simp[gR,ia,cl,ax];(with_reducible repeat' first|refine aj ?_|simp[hu,ay,cK,ax]);rw[cR];refine cT.ob sC (dr (x.fold f a)) aL aL (by simp[aw]) ?_;rintro r ah ⟨rfl,rfl⟩;refine⟨dG _ _,?_⟩;simp[gR,ia,cl,ax];refine cF.at (S (y.fold f (x.fold f a))) (.inr rfl) (dr _) (dG _ _) aL aL ?_;simp[cL,ug,aX,aY,aW];simp[T.fold]
 |var v=>intro n a ae;have ajo:=aJ n v a ae;clear aJ Aw eb;have ag:=dr a;refine bH.mk mixed fy u1 vC Ψ ag.obj fun aK cB=>?_;unfold tp;simp[hu,ay,cK,ax,cR];(with_reducible repeat' first|refine aj ?_|simp[hu,ay,cK,ax]);refine cT.ob ajo ag aL aL (by simp[aw]) ?_;rintro r ah ⟨rfl,rfl⟩;refine⟨dG _ _,?_⟩;simp[gR,ia,cl,ax,cK];refine cF.at (S (f v a)) (.inr rfl) (dr _) (dG _ _) aL aL ?_;simp[cL,ug,aX,aY,aW];simp[T.fold]
 |_=>intro n a ae;clear aJ Aw eb;have ag:=dr a;refine bH.mk mixed fy u1 vC Ψ ag.obj fun aK cB=>?_;unfold tp;simp[hu,ay,cK,ax,cR];(with_reducible repeat' first|refine aj ?_|simp[hu,ay,cK,ax]);refine cF.at (S a) (.inr rfl) ag (Same.refl _) aL aL ?_;simp[cL,ug,aX,aY,aW];simp[T.fold]
end
def rB(l:List Int):List (Int×Bool):=l.map fun v=>(v,true)
theorem OQ(v:Int):∀l:List Int,c3 v (rB l)=if v∈l then some true else none
 |[]=>rfl
 |x::l=>by have bR:=OQ v l;simp only[rB]at bR;simp only[rB,gS,c3,bR,fA];by_cases h:v=x<;>simp[h]
theorem apt{v:Int}{l:List Int}(h:v∉l):eK v true (rB l)=rB (l++[v]):=by rw[IK (by rw[OQ,if_neg h])];simp[rB]
def oQ(n:Nat)(m:List (Int×Bool))(xs:List ai):cH:=⟨[(.obj 862,[.row 1 (.obj 861) n]),(.obj 863,p6 m),(.obj 864,[.gmap (.obj 863)])],[(.obj 861,⟨n,3,1,some xs⟩)]⟩
def kZ(l:List Int):cH:=oQ l.length (rB l) (dF l)
theorem Fh(l:List Int):dN (kZ l):=by unfold kZ oQ;refine dN.of ⟨by intro m;simp[Pv.look],by intro m;simp[Pv.look]⟩ (by simp[aH,aD,inObs,Pv.look]) ?_;intro x af xs gV;simp at af;subst af;simp at gV;subst gV;simp
theorem Jf(l aZ:List Int):Same (kZ l) (kZ aZ):=Same.keys rfl rfl
theorem aaP(l:List Int){n:Nat}{m:List (Int×Bool)}{xs:List ai}(ax:n=l.length)(hm:m=rB l)(af:xs=dF l):oQ n m xs=kZ l:=by subst ax af hm;rfl
theorem ags(v:Int)(l:List Int)(ar:l.length<=10000000000):bH ak 155 [.int .i64 v,.ptr (.obj 864) 0,.ptr (.obj 862) 0] (kZ l) fun r ah=>r= .tuple []/\ah=kZ (pJ v l):=by
 have ag:=Fh l;have aN:=OQ v l;by_cases h:v∈l
 ·rw[if_pos h]at aN;rw[show pJ v l=l from if_pos h];unfold kZ oQ at ag⊢;generalize rB l=m at aN ag⊢;refine bH.mk mixed iD Tf W6 Ψ ag.obj fun aK cB=>?_;unfold JK;simp[aN];(with_reducible repeat' first|refine aj ?_|simp[aN]);all_goals refine cF.at _ (.inr rfl) ag (Same.refl _) aL aL ?_
  all_goals simp[cL,ND,aX,aY,aW]
 ·rw[if_neg h]at aN;have bB:=apt h;have ei:=Fh (pJ v l);have al:oQ (l.length+1) (eK v true (rB l)) (dF l++[.int .i64 v])=kZ (pJ v l):=by rw[show pJ v l=l++[v]from if_neg h];exact aaP _ Ψ bB (L4 l v)
  have bo:=Jf l (pJ v l);rw[<-al]at ei bo⊢;simp only[kZ,oQ]at ag ei bo⊢;generalize rB l=m at aN ag ei bo⊢;clear bB al;refine bH.mk mixed iD Tf W6 Ψ ag.obj fun aK cB=>?_;unfold JK;simp[aN];(with_reducible repeat' first|refine aj ?_|simp[aN]);all_goals first|(refine⟨by unfold lim;omega,?_⟩)|skip
  all_goals(with_reducible repeat' first|refine aj ?_|simp[aN])
  all_goals refine cF.at _ (.inr rfl) ei bo aL aL ?_
  all_goals simp[cL,ND,aX,aY,aW]
end
section
open Go Go.Pv
def tg(n:Nat)(l:List Int):Prop:=l.length+n<=10000000000
theorem aaE(n:Nat)(v:Int)(a:List Int)(h:tg (n+1) a):tg n (pJ v a):=by
 unfold tg at*;unfold pJ;split
 ·omega
 ·simp only[pC,List.length_singleton];omega
theorem aaD(n:Nat)(a:List Int)(h:tg (n+1) a):tg n a:=by unfold tg at*;omega
theorem Z6(u:List T)(hu:u.length<=1048576)(aJ:∀t∈u,t.fit=true):bF ak 71 [.slice 4 .no (u.map T.e)] (.slice 1 .no (dF (fa u []))):=by
 have hlen:=fun i=>HN (u.take i) [] fun t aN=>aJ t (List.mem_of_mem_take aN);have a7:=fun(t:T) (l:List Int) (h:tg (0+t.size) l)=>age kZ pJ tg Fh Jf 155 [.ptr (.obj 864) 0,.ptr (.obj 862) 0] (by intro a;simp[inObs,kZ,oQ,Pv.look,aH,aD]) Ψ aaE aaD (fun n v a h=>ags v a (by unfold tg at h;omega)) t 0 l h;refine be iD aeh alh fun aK=>?_;unfold QW;clear aK;simp;refine gT (fun i (_:Unit)=>⟨[(3,.ptr (.obj 862) 0),(4,.ptr (.obj 864) 0),(9,.slice 4 .no (u.map T.e)),(10,.int .i64 u.length),(11,.int .i64 i)],(kZ (fa (u.take i) [])).b,(kZ (fa (u.take i) [])).e,0,[.obj 861,.obj 862,.obj 863,.obj 864]⟩) u.length (fun _ _=>True) () (by simp[kZ,oQ,fa,rB];exact bL) trivial (fun _ _ _=>?_) (fun i _ hi _ _=>?_)
 ·simp only[jJ,kZ,oQ];exact bJ
 ·obtain⟨b,ab,cr⟩:=dB hi;have Lb:=aJ b (dE ab);simp only[T.fit,cC,fc]at Lb;have Dh:=hlen i;simp only[List.length_take,List.length_nil]at Dh;have oj:fa (u.take (i+1)) []=b.fold pJ (fa (u.take i) []):=by rw[ma,ab,afV];exact Xq _ _ _
  have nK:=a7 b (fa (u.take i) []) (by unfold tg;omega);rw[<-oj]at nK;clear a7 hlen oj Dh;simp only[kZ,oQ];simp[hi,cr];(with_reducible repeat' first|refine aj ?_|simp[hi,cr]);refine cT.ob nK (Fh _) (by unfold kZ oQ;exact aL) (by unfold kZ oQ;exact aL) (by simp[inObs,kZ,oQ,Pv.look]) ?_;rintro r ah ⟨rfl,rfl⟩;refine⟨Jf _ _,?_⟩;unfold kZ oQ;simp[cl];(with_reducible repeat' first|refine aj ?_|simp);all_goals refine bO.rng () hi trivial (by simp[kZ,oQ];exact bL)
theorem Hd(S:aI->Prop):∀a b:List ai,aH S (a++b)↔aH S a/\aH S b
 |[],b=>by simp[aH]
 |x::r,b=>by simp only[bZ,aH,Hd S r b,and_assoc]
theorem V5(S:aI->Prop):∀(W:List T) (i:Nat),aH S (ko i (List.map T.e W))
 |[],i=>by simp[aH]
 |_::_,0=>by simp[aH]
 |x::W,i+1=>by simp only[gS,List.take_succ_cons,aH];exact⟨Ψ,V5 S W i⟩
def lZ:List Int->Nat->List (Int×Int)
 |[],_=>[]
 |v::r,k=>(v,(k:Int))::lZ r (k+1)
theorem Vs(v:Int):∀(l:List Int) (k:Nat),lZ (l++[v]) k=lZ l k++[(v,((k+l.length:Nat):Int))]
 |[],k=>by simp[lZ]
 |x::l,k=>by simp only[bZ,lZ,Vs v l,pD];rw[show k+1+l.length=k+(l.length+1) by omega]
theorem OP(v:Int):∀(l:List Int) (k:Nat),c3 v (lZ l k)=if v∈l then some ((k+sy l v:Nat):Int)else none
 |[],k=>rfl
 |x::l,k=>by
  simp only[lZ,c3,OP v l,fA,sy];by_cases h:v=x
  ·subst h;simp
  ·simp only[h,if_false,false_or,if_neg fun e:x=v=>h e.symm];split
   ·congr 1;omega
   ·rfl
theorem aps{v:Int}{l:List Int}(h:v∉l):eK v (l.length:Int) (lZ l 0)=lZ (l++[v]) 0:=by rw[IK (by rw[OP,if_neg h]),Vs];simp
theorem apw{v:Int}{l:List Int}(h:v∈l):h9 (lZ l 0) v=(sy l v:Int):=by unfold h9;rw[OP,if_pos h];simp
theorem Mv:lC []=jZ []:=rfl
def rT(m:List (Int×Int)):cH:=⟨[(.obj 865,lC m),(.obj 866,[.gmap (.obj 865)])],[]⟩
theorem I9(m:List (Int×Int)):dN (rT m):=by unfold rT;exact dN.of ⟨by intro m;simp[Pv.look],by intro m;simp[Pv.look]⟩ (by simp[aH,aD,inObs,Pv.look]) Ψ
theorem af5(v:Int)(m:List (Int×Int)):bH ak 154 [.int .i64 v,.ptr (.obj 866) 0] (rT m) fun r ah=>r= .tuple [(T.var (h9 m v)).e,.bool true]/\ah=rT m:=by
 have ag:=I9 m;have gn:=jj (h9 m v);unfold rT at ag⊢;refine bH.mk mixed iD adH akH Ψ ag.obj fun aK cB=>?_;unfold Qm;simp;(with_reducible repeat' first|refine aj ?_|refine aF gn ?_|refine aG gn ?_|simp);all_goals refine cF.at _ (.inl rfl) ag (Same.refl _) aL aL ?_
 all_goals simp[cL,XE,aX,aY,aW]
theorem apG(u:List T)(hu:u.length<=1048576)(aJ:∀t∈u,t.fit=true):bF ak 70 [.slice 4 .no (u.map T.e)] (.slice 4 .no ((x7 u).map T.e)):=by
 have aU:=aac u aJ;have bo:=Z6 u hu aJ;have o4:(fa u []).Nodup:=Np u Ψ;have iL:∀t∈u,∀v,t.occ v=true->v∈fa u []:=fun t aN v aB=>(Ej u).2 (.inr ⟨t,aN,aB⟩);have vl:(fa u []).length<=10000000000:=by have:=HN u [] aJ;simp only[List.length_nil]at this;omega
 unfold x7;generalize fa u []=o at bo o4 iL vl⊢;have dn:=fun(t:T) (aN:t∈u)=>TP (rT (lZ o 0)) (I9 _) 154 [.ptr (.obj 866) 0] (by simp[inObs,rT,Pv.look,aH,aD]) Ψ (fun v=>some (.var (sy o v))) t fun v aB=>by have:=af5 v (lZ o 0);rw[apw (iL t aN v aB)]at this;exact this
 clear iL aJ;obtain⟨W,tB⟩:∃W,W=u.map (BP o):=⟨_,rfl⟩;rw[<-tB];have ahe:W.length=u.length:=by rw[tB,oK]
 have ahd:∀(i:Nat) b,u[i]? =some b->W[i]? =some (BP o b):=fun i b ab=>by rw[tB,qP,ab];rfl
 clear tB;refine be iD adG akG fun aK=>?_;unfold Ql;clear aK;simp;(with_reducible repeat' first|refine aj ?_|refine aF aU ?_|refine aG aU ?_|simp);(with_reducible repeat' first|refine aj ?_|refine aF bo ?_|refine aG bo ?_|simp);refine gT (fun i (_:Unit)=>⟨[(0,.slice 4 .no (u.map T.e)),(3,.ptr (.obj 866) 0),(14,.slice 1 .no (dF o)),(15,.int .i64 o.length),(16,.int .i64 i)],[(.obj 865,lC (lZ (o.take i) 0)),(.obj 866,[.gmap (.obj 865)])],[],0,[.obj 865,.obj 866]⟩) o.length (fun _ _=>True) () (by simp[lZ];exact⟨by simp[fresh,aH,aD,b7,inObs,Pv.look,Mv,lZ],ee (by simp[fresh,aH,aD,b7,inObs,Pv.look,Mv,lZ]),ef (by simp[fresh,aH,aD,dW,inObs,Pv.look,Mv,lZ]),Ψ⟩) trivial (fun _ _ _=>?_) (fun i _ hi _ _=>?_);rotate_left
 ·obtain⟨b,ab,cr⟩:=dB hi;have oj:eK b (i:Int) (lZ (o.take i) 0)=lZ (o.take (i+1)) 0:=by
   have fW:b∉o.take i:=fun hm=>by
    obtain⟨j,ae⟩:=List.mem_iff_getElem?.1 hm;rw[List.getElem?_take]at ae;split at ae
    ·rename_i GA;have:=(List.getElem?_inj Ω o4).1 (ae.trans ab.symm);omega
    ·cases ae
   have:=aps fW;rw[List.length_take,Nat.min_eq_left Ω]at this;rw[this,ma,ab];rfl
  have AS:∀h,((dF o)[i]'h)= .int .i64 b:=fun h=>by simp[dF,cr]
  simp[hi,AS];(with_reducible repeat' first|refine aj ?_|simp[hi,AS]);all_goals refine bO.rng () hi trivial ⟨by simp[fresh,aH,aD,b7,inObs,Pv.look,oj],ee (by simp[fresh,aH,aD,b7,inObs,Pv.look,oj]),ef (by simp[fresh,aH,aD,dW,inObs,Pv.look,oj]),Ψ⟩
 rw[jJ];simp;(with_reducible repeat' first|refine aj ?_|simp);refine gT (fun i (_:Unit)=>⟨[(3,.ptr (.obj 866) 0),(26,.slice 4 .no (u.map T.e)),(27,.int .i64 u.length),(6,.slice 4 (.own (.loc 0)) ((W.take i).map T.e)),(28,.int .i64 i)],[(.obj 865,lC (lZ o 0)),(.obj 866,[.gmap (.obj 865)])],[(.loc 0,⟨i,32,4,none⟩)],1,[.obj 865,.obj 866]⟩) u.length (fun _ _=>True) () bL trivial (fun _ _ _=>?_) (fun i _ hi _ _=>?_)
 ·rw[<-ahe,jJ];exact bJ
 ·obtain⟨b,ab,cr⟩:=dB hi;have ly:=dn b (dE ab);have ahc:=ahd i b ab;rw[show T.sub (fun v=>some (T.var (sy o v))) b=BP o b from rfl]at ly;clear dn;simp[hi,cr];(with_reducible repeat' first|refine aj ?_|simp[hi,cr]);refine cT.ob ly (I9 _) (by unfold rT;exact aL) (by unfold rT;exact aL) (by simp[inObs,rT,Pv.look]) ?_;rintro r ah ⟨rfl,rfl⟩;refine⟨Same.refl _,?_⟩;unfold rT;simp[cl];(with_reducible repeat' first|refine aj ?_|simp);all_goals first|(refine⟨by unfold lim;omega,?_⟩)|skip
  all_goals(with_reducible repeat' first|refine aj ?_|simp)
  have af:ko (i+1) (List.map T.e W)=ko i (List.map T.e W)++[(BP o b).e]:=by rw[ma,qP,ahc];rfl
  have Lt:min i W.length=i:=Ω
  have Dg:∀S:aI->Prop,aH S (ko i (List.map T.e W)):=fun S=>V5 S W i;all_goals refine bO.rng () hi trivial ⟨by simp[fresh,aH,aD,b7,inObs,Pv.look,af,Lt,Dg,Hd],ee (by simp[fresh,aH,aD,b7,inObs,Pv.look,af,Lt,Dg,Hd]),ef (by simp[fresh,aH,aD,dW,inObs,Pv.look,af,Lt,Dg,Hd]),Ψ⟩
theorem apm{α:Type}{a b:List α}{i:Nat}{x y:α}(bu:a[i]? =some x)(ab:b[i]? =some y):a.take (i+1)=b.take (i+1)↔a.take i=b.take i/\x=y:=by
 rw[ma,ma,bu,ab];have J:(a.take i).length=i:=by have:=(eP.1 bu).1;simp;omega
 have U:(b.take i).length=i:=by have:=(eP.1 ab).1;simp;omega
 constructor
 ·intro h;obtain⟨au,a6⟩:=List.append_inj h (J.trans U.symm);exact⟨au,by simpa using a6⟩
 ·rintro⟨au,rfl⟩;rw[au]
theorem aqL(x y:List T):bF ak 69 [.slice 4 .no (x.map T.e),.slice 4 .no (y.map T.e)] (.bool (decide (x=y))):=by
 by_cases ar:x.length=y.length;rotate_left
 ·have:decide (x=y)=false:=hG fun e=>ar (by rw[e]);rw[this];have mK:((x.length:Int) !=(y.length:Int))=true:=bne_iff_ne.2 Ω;refine be iD Tg W7 fun aK=>?_;unfold JL;exact bJ
 generalize aV:decide (x=y)=R;have mK:((x.length:Int) !=(y.length:Int))=false:=by rw[bne_eq_false_iff_eq];omega
 refine be iD Tg W7 fun aK=>?_;unfold JL;have eB:x.length<=68719476736:=by simp[ek,ec,eg,lim]at aK;omega
 clear aK;simp[mK];(with_reducible repeat' first|refine aj ?_|simp[mK]);refine du [0,1,12] (fun i (_:Unit)=>[(13,.int .i64 i)]) x.length (fun i _=>x.take i=y.take i) () bL Ψ (fun _ ae _=>?_) (fun i _ hi ae _=>?_)
 ·have:R=true:=by rw[<-aV,decide_eq_true_iff];rw[jJ,ar,jJ]at ae;exact ae
  subst this;exact bJ
 ·obtain⟨b,ab,cr⟩:=dB hi;obtain⟨c,aw⟩:∃c,y[i]? =some c:=⟨_,cc (ar▸hi)⟩;have j7:∀h,(y[i]'h)=c:=fun h=>by rw[cc (ar▸hi)]at aw;exact eQ aw
  have fM:i<y.length:=ar▸hi;have aU:=ps b c;by_cases e:b=c
  ·rw[gK e]at aU;have ax:x.take (i+1)=y.take (i+1):=(apm ab aw).2 ⟨ae,e⟩;clear ae aV;subst e;exact fO
  ·rw[hG e]at aU;have:R=false:=by rw[<-aV,fJ];rintro rfl;rw[ab]at aw;exact e (eQ aw)
   subst this;clear ae aV;exact bJ
theorem ZS(l:List bI):bF ak 64 [.slice 4 .no (l.map enc)] (.bool (l.all bI.fits)):=by
 generalize aV:l.all bI.fits=R;refine be iD afk amm fun aK=>?_;unfold R0;have eB:l.length<=68719476736:=by simp[ek,ec,eg,lim]at aK;omega
 simp;refine du [5,6] (fun i (_:Unit)=>[(7,.int .i64 i)]) l.length (ka bI.fits l) () bL (fun k b ad=>Ω) (fun _ ae _=>?_) (fun i _ hi ae _=>?_)
 ·have:R=true:=by rw[<-aV,ga];exact ae.fin
  subst this;clear ae aV;exact bJ
 ·obtain⟨t,aN,qv⟩:=dB hi;have c6:=zE t;cases g:t.fits
  ·rw[g]at c6;have:R=false:=by rw[<-aV,List.all_eq_false];exact⟨t,dE aN,by rw[g];simp⟩
   subst this;clear aN ae aV;exact bJ
  ·rw[g]at c6;have ax:=ae.step aN g;clear aN ae aV;exact fO
theorem ap9(u:List T)(h:∀t∈u,t.fit=true):bF ak 64 [.slice 4 .no (u.map T.e)] (.bool true):=by have:=ZS (u.map T.tm);rwa[uV,show(u.map T.tm).all bI.fits=true by rw[List.all_map,ga];exact fun t aN=>(bI.fits_T t).trans (h t aN)]at this
def gz(l:List Int):cH:=⟨[],[(.obj 881,⟨l.length,3,1,some (dF l)⟩)]⟩
theorem qj(l:List Int):dN (gz l):=by unfold gz;refine dN.of ⟨by intro m;simp[Pv.look],by intro m;simp[Pv.look]⟩ Ψ ?_;intro x af xs gV;simp at af;subst af;simp at gV;subst gV;simp
theorem Cl(l aZ:List Int):Same (gz l) (gz aZ):=Same.keys rfl rfl
theorem agk(l:List Int)(n:Int)(eB:l.length<=10000000000):bH ak 221 [.row 1 (.obj 881) l.length,.int .i64 n] (gz l) fun r ah=>r= .bool (decide (n∈l))/\ah=gz l:=by
 have ag:=qj l;generalize aV:decide (n∈l)=R;unfold gz at ag⊢;refine bH.mk mixed iD afn amp Ψ ag.obj fun aK cB=>?_;unfold R5;simp;refine du [1,7,8] (fun i (_:Unit)=>[(9,.int .i64 i)]) l.length (fun i _=>n∉l.take i) () bL Ψ (fun _ ae _=>?_) (fun i _ hi ae _=>?_)
 ·have:R=false:=by rw[<-aV,fJ];rwa[jJ]at ae
  subst this;clear ae aV;simp;(with_reducible repeat' first|refine aj ?_|simp);all_goals refine cF.at _ (.inl rfl) ag (Same.refl _) aL aL ?_
  all_goals simp[cL,NP,aX,aY,aW]
 ·obtain⟨b,ab,cr⟩:=dB hi;have AS:∀h,((dF l)[i]'h)= .int .i64 b:=fun h=>by simp[dF,cr]
  by_cases e:b=n
  ·have:R=true:=by rw[<-aV,decide_eq_true_iff,<-e];exact dE ab
   subst this;clear ae aV;simp[hi,AS];(with_reducible repeat' first|refine aj ?_|simp[hi,AS,e]);all_goals refine cF.at _ (.inl rfl) ag (Same.refl _) aL aL ?_
   all_goals simp[cL,NP,aX,aY,aW]
  ·have ax:n∉l.take (i+1):=by
    rw[ma,ab,kn];rintro(h|h)
    ·exact ae h
    ·simp at h;exact e h.symm
   clear ae aV;have he:(b==n)=false:=beq_eq_false_iff_ne.2 e;exact fO
theorem agl(t:T):∀l:List Int,l.length+t.size<=10000000000->bH ak 148 [t.e,.row 1 (.obj 881) l.length] (gz l) fun r ah=>r= .row 1 (.obj 881) (gX t l).length/\ah=gz (gX t l):=by
 induction t with
 |var n=>
  intro l ar;simp only[T.size]at ar;have G9:=agk l n Ω;have ag:=qj l;by_cases h:n∈l
  ·rw[gK h]at G9;have e:gX (.var n) l=l:=if_pos h;rw[e];clear e;unfold gz at ag⊢;refine bH.mk mixed iD Ak By Ψ ag.obj fun aK cB=>?_;unfold x5;simp;refine cT.ob G9 (qj _) (by unfold gz;exact aL) (by unfold gz;exact aL) (by simp[inObs,gz,Pv.look]) ?_;rintro r ah ⟨rfl,rfl⟩;refine⟨Same.refl _,?_⟩;unfold gz;simp[cl];(with_reducible repeat' first|refine aj ?_|simp);refine gT (fun i (_:Unit)=>⟨[(1,.row 1 (.obj 881) l.length),(23,.slice 4 .no []),(24,.int .i64 0),(25,.int .i64 i)],[],[(.obj 881,⟨l.length,3,1,some (dF l)⟩)],1,[.obj 881]⟩) 0 (fun _ _=>True) () bL trivial (fun _ _ _=>?_) (fun i _ hi _ _=>absurd hi Ω);simp;(with_reducible repeat' first|refine aj ?_|simp);refine cF.at _ (.inl rfl) ag (Same.refl _) aL aL ?_;simp[cL,zl,aX,aY,aW,inObs,Pv.look]
  ·rw[hG h]at G9;have e:gX (.var n) l=l++[n]:=if_neg h;have ei:=qj (l++[n]);have dG:=Cl l (l++[n]);have al:(⟨[],[(.obj 881,⟨l.length+1,3,1,some (dF l++[.int .i64 n])⟩)]⟩:cH)=gz (l++[n]):=by simp[gz,L4]
   have aE:(l++[n]).length=l.length+1:=by simp
   rw[e,aE];rw[<-al]at ei dG⊢;clear e al aE;unfold gz at ag dG⊢;refine bH.mk mixed iD Ak By Ψ ag.obj fun aK cB=>?_;unfold x5;simp;refine cT.ob G9 (qj _) (by unfold gz;exact aL) (by unfold gz;exact aL) (by simp[inObs,gz,Pv.look]) ?_;rintro r ah ⟨rfl,rfl⟩;refine⟨Same.refl _,?_⟩;unfold gz;simp[cl];(with_reducible repeat' first|refine aj ?_|simp);all_goals first|(refine⟨by unfold lim;omega,?_⟩)|skip
   all_goals(with_reducible repeat' first|refine aj ?_|simp)
   refine cF.at _ (.inl rfl) ei dG aL aL ?_;simp[cL,zl,aX,aY,aW,inObs,Pv.look]
 |pair a b ds dv=>
  intro l ar;simp only[T.size]at ar;have DQ:=HM a l;have VF:=ds l Ω;have kb:=dv (gX a l) Ω;have ag:=qj l;have ei:=qj (gX (.pair a b) l);have dG:=Cl l (gX (.pair a b) l);have e:gX (.pair a b) l=gX b (gX a l):=rfl;rw[e]at ei dG⊢;clear e ds dv DQ;generalize gX a l=hX at VF kb ei dG⊢;generalize gX b hX=gp at kb ei dG⊢;unfold gz at ag ei dG⊢;refine bH.mk mixed iD Ak By Ψ ag.obj fun aK cB=>?_;unfold x5;simp;(with_reducible repeat' first|refine aj ?_|simp);refine gT (fun i (L:List Int)=>⟨[(1,.row 1 (.obj 881) L.length),(23,.slice 4 .no [a.e,b.e]),(24,.int .i64 2),(25,.int .i64 i)],[],[(.obj 881,⟨L.length,3,1,some (dF L)⟩)],1,[.obj 881]⟩) 2 (fun i L=>(i=0->L=l)/\(i=1->L=hX)/\(i=2->L=gp)) l bL ⟨fun _=>rfl,fun h=>Ω,fun h=>Ω⟩ (fun L ae _=>?_) (fun i L hi ae _=>?_)
  ·obtain rfl:=ae.2.2 rfl;clear ae;simp;(with_reducible repeat' first|refine aj ?_|simp);refine cF.at _ (.inl rfl) ei dG aL aL ?_;simp[cL,zl,aX,aY,aW,inObs,Pv.look]
  ·rcases(by omega:i=0\/i=1)with rfl|rfl
   ·obtain rfl:=ae.1 rfl;clear ae;simp;(with_reducible repeat' first|refine aj ?_|simp);refine cT.ob VF (qj _) (by unfold gz;exact aL) (by unfold gz;exact aL) (by simp[inObs,gz,Pv.look]) ?_;rintro r ah ⟨rfl,rfl⟩;refine⟨Cl _ _,?_⟩;unfold gz;simp[cl];(with_reducible repeat' first|refine aj ?_|simp);all_goals refine bO.rng (n:=2) (i:=0) hX Ω ⟨fun h=>Ω,fun _=>rfl,fun h=>Ω⟩ bL
   ·obtain rfl:=ae.2.1 rfl;clear ae;simp;(with_reducible repeat' first|refine aj ?_|simp);refine cT.ob kb (qj _) (by unfold gz;exact aL) (by unfold gz;exact aL) (by simp[inObs,gz,Pv.look]) ?_;rintro r ah ⟨rfl,rfl⟩;refine⟨Cl _ _,?_⟩;unfold gz;simp[cl];(with_reducible repeat' first|refine aj ?_|simp);all_goals refine bO.rng (n:=2) (i:=1) gp Ω ⟨fun h=>Ω,fun h=>Ω,fun _=>rfl⟩ bL
 |nil=>intro l ar;have ag:=qj l;have e:gX T.nil l=l:=rfl;rw[e];clear e;unfold gz at ag⊢;refine bH.mk mixed iD Ak By Ψ ag.obj fun aK cB=>?_;unfold x5;simp;(with_reducible repeat' first|refine aj ?_|simp);refine gT (fun i (_:Unit)=>⟨[(1,.row 1 (.obj 881) l.length),(23,.slice 4 .no []),(24,.int .i64 0),(25,.int .i64 i)],[],[(.obj 881,⟨l.length,3,1,some (dF l)⟩)],1,[.obj 881]⟩) 0 (fun _ _=>True) () bL trivial (fun _ _ _=>?_) (fun i _ hi _ _=>absurd hi Ω);simp;(with_reducible repeat' first|refine aj ?_|simp);refine cF.at _ (.inl rfl) ag (Same.refl _) aL aL ?_;simp[cL,zl,aX,aY,aW,inObs,Pv.look]
 |sym s=>intro l ar;have ag:=qj l;have e:gX (T.sym s) l=l:=rfl;rw[e];clear e;unfold gz at ag⊢;refine bH.mk mixed iD Ak By Ψ ag.obj fun aK cB=>?_;unfold x5;simp;(with_reducible repeat' first|refine aj ?_|simp);refine gT (fun i (_:Unit)=>⟨[(1,.row 1 (.obj 881) l.length),(23,.slice 4 .no []),(24,.int .i64 0),(25,.int .i64 i)],[],[(.obj 881,⟨l.length,3,1,some (dF l)⟩)],1,[.obj 881]⟩) 0 (fun _ _=>True) () bL trivial (fun _ _ _=>?_) (fun i _ hi _ _=>absurd hi Ω);simp;(with_reducible repeat' first|refine aj ?_|simp);refine cF.at _ (.inl rfl) ag (Same.refl _) aL aL ?_;simp[cL,zl,aX,aY,aW,inObs,Pv.look]
 |num s=>intro l ar;have ag:=qj l;have e:gX (T.num s) l=l:=rfl;rw[e];clear e;unfold gz at ag⊢;refine bH.mk mixed iD Ak By Ψ ag.obj fun aK cB=>?_;unfold x5;simp;(with_reducible repeat' first|refine aj ?_|simp);refine gT (fun i (_:Unit)=>⟨[(1,.row 1 (.obj 881) l.length),(23,.slice 4 .no []),(24,.int .i64 0),(25,.int .i64 i)],[],[(.obj 881,⟨l.length,3,1,some (dF l)⟩)],1,[.obj 881]⟩) 0 (fun _ _=>True) () bL trivial (fun _ _ _=>?_) (fun i _ hi _ _=>absurd hi Ω);simp;(with_reducible repeat' first|refine aj ?_|simp);refine cF.at _ (.inl rfl) ag (Same.refl _) aL aL ?_;simp[cL,zl,aX,aY,aW,inObs,Pv.look]
theorem apR(u:List T)(hu:u.length<=1048576)(aJ:∀t∈u,t.fit=true):bF ak 66 [.slice 4 .no (u.map T.e)] (.slice 1 .no (dF (fa u []))):=by
 have aU:=ap9 u aJ;have hlen:=fun i=>HN (u.take i) [] fun t aN=>aJ t (List.mem_of_mem_take aN);refine be iD afg ami fun aK=>?_;unfold RW;clear aK;simp;(with_reducible repeat' first|refine aj ?_|refine aF aU ?_|refine aG aU ?_|simp);refine gT (fun i (_:Unit)=>⟨[(3,.row 1 (.obj 881) (fa (u.take i) []).length),(10,.slice 4 .no (u.map T.e)),(11,.int .i64 u.length),(12,.int .i64 i)],[],(gz (fa (u.take i) [])).e,0,[.obj 881]⟩) u.length (fun _ _=>True) () (by simp[gz,fa];exact bL) trivial (fun _ _ _=>?_) (fun i _ hi _ _=>?_)
 ·simp only[jJ,gz];exact bJ
 ·obtain⟨b,ab,cr⟩:=dB hi;have Lb:=aJ b (dE ab);simp only[T.fit,cC,fc]at Lb;have Dh:=hlen i;simp only[List.length_take,List.length_nil]at Dh;have oj:fa (u.take (i+1)) []=gX b (fa (u.take i) []):=by rw[ma,ab];exact Xq _ _ _
  have nK:=agl b (fa (u.take i) []) Ω;rw[<-oj]at nK;clear hlen oj Dh;simp only[gz];simp[hi,cr];(with_reducible repeat' first|refine aj ?_|simp[hi,cr]);refine cT.ob nK (qj _) (by unfold gz;exact aL) (by unfold gz;exact aL) (by simp[inObs,gz,Pv.look]) ?_;rintro r ah ⟨rfl,rfl⟩;refine⟨Cl _ _,?_⟩;unfold gz;simp[cl];(with_reducible repeat' first|refine aj ?_|simp);all_goals refine bO.rng () hi trivial (by simp[gz];exact bL)
structure zQ (u:List T) (s:dA):Prop where
 f:∀t∈u,t.fit=true
 ok:Oz s
 b:s.b=[]
 up:xI (fa u [])
 n:s.n=((fa u []).length:Nat)
def xY(a:jk):Prop:= ∃(u:List T) (s:dA),a.t=u.map T.tm/\a.s=s.r/\zQ u s
theorem PT{u:List T}{s:dA}:xY ⟨u.map T.tm,s.r⟩↔zQ u s:=by
 constructor
 ·rintro⟨eO,ah,J,U,au⟩;have al:=OS J;have aE:=dA.r_inj U;rw[al,aE];exact au
 ·intro h;exact⟨u,s,rfl,rfl,h⟩
theorem Fq(u:List T)(s:dA):(⟨u.map T.tm,s.r⟩:jk).e= .agg [.slice 4 .no (u.map T.e),.int .i64 s.n,.slice 5 .no (s.b.map aq.e),.slice 1 .no (s.d.map cU),.slice 2 .no (s.k.map bQ.e),.slice 2 .no (s.m.map bj.e)]:=by have h:[_,_,_,_,_]=[_,_,_,_,_]:=ai.agg.inj (OB s);have U:=e2 (fun l=>ai.agg (.slice 4 .no (u.map T.e)::l)) h;rw[<-uV]at U⊢;exact U
open Classical in
theorem apF(a:jk)(eb:h6 a.s.m->uu a.s.m)(ar:a.t.length<=1048576):bF ak 24 [a.e] (.bool (decide (xY a))):=by
 have c6:=aab a.t;have de:=apS a.s fun h=>(eb h).w;generalize aV:decide (xY a)=R;obtain⟨t,s⟩:=a;simp only at c6 de eb ar;cases g1:t.all bI.fits with
 |false=>
  rw[g1]at c6;have:R=false:=by rw[<-aV,fJ];rintro⟨u,ah,e,_,h⟩;simp only at e;subst e;rw[List.all_map,List.all_eq_false]at g1;obtain⟨x,af,U⟩:=g1;exact U ((bI.fits_T x).trans (h.f x af))
  subst this;clear aV eb ar;obtain⟨n,b,d,k,m⟩:=s;simp only[iG.e,jk.e]at de⊢;refine be iD Ah Bv fun aK=>?_;unfold x2;exact bJ
 |true=>
  obtain⟨u,rfl,hu⟩:=Gb g1;rw[g1,uV]at c6;by_cases g2:sT s;rotate_left
  ·rw[hG g2]at de;have:R=false:=by rw[<-aV,fJ];rintro⟨eO,ah,_,e,h⟩;exact g2 ⟨ah,e,h.ok⟩
   subst this;clear aV eb ar g1 g2;obtain⟨n,b,d,k,m⟩:=s;simp only[iG.e,jk.e,uV]at de⊢;refine be iD Ah Bv fun aK=>?_;unfold x2;exact bJ
  rw[gK g2]at de;obtain⟨st,rfl,cR⟩:=g2;rw[OB]at de;rw[Fq];simp only[PT]at aV;rw[oK]at ar;have aU:=apG u ar hu;have bo:=Z6 u ar hu;have cd:=aqL (x7 u) u;obtain⟨n,b,d,k,m⟩:=st;by_cases g3:b=[];rotate_left
  ·have:R=false:=by rw[<-aV,fJ];exact fun h=>g3 h.b
   subst this;have af1:b.length≠0:=fun h=>g3 (List.length_eq_zero_iff.1 h);have TJ:((b.length:Int) !=0)=true:=bne_iff_ne.2 Ω;clear aV eb ar cR hu g1 aU bo cd;simp only[dA.e,nh]at de⊢;refine be iD Ah Bv fun aK=>?_;unfold x2;exact bJ
  subst g3;have ja:R=true↔x7 u=u/\n=((fa u []).length:Nat):=by rw[<-aV,decide_eq_true_iff,abE];exact⟨fun h=>⟨h.up,h.n⟩,fun h=>⟨hu,cR,rfl,h.1,h.2⟩⟩
  generalize fa u []=o at bo ja;by_cases g4:x7 u=u
  ·rw[gK g4]at cd;by_cases g5:n=(o.length:Nat)
   ·have:R=true:=ja.2 ⟨g4,g5⟩;subst this;clear ja aV eb ar cR hu g1 g4;subst g5;simp only[dA.e,nh]at de⊢;refine be iD Ah Bv fun aK=>?_;unfold x2;exact bJ
   ·have:R=false:=by cases R with|false=>rfl|true=>exact absurd (ja.1 rfl).2 g5
    subst this;clear ja aV eb ar cR hu g1 g4;simp only[dA.e,nh]at de⊢;refine be iD Ah Bv fun aK=>?_;unfold x2;exact bJ
  ·rw[hG g4]at cd;have:R=false:=by cases R with|false=>rfl|true=>exact absurd (ja.1 rfl).1 g4
   subst this;clear ja aV eb ar cR hu g1 g4;simp only[dA.e,nh]at de⊢;refine be iD Ah Bv fun aK=>?_;unfold x2;exact bJ
open Classical in
theorem aqy(a:jk)(eb:h6 a.s.m->uu a.s.m)(ar:a.t.length<=1048576):bF ak 22 [a.e] (.bool (decide (xY a))):=by
 have c6:=ZS a.t;have de:=aqH a.s fun h=>(eb h).w;generalize aV:decide (xY a)=R;obtain⟨t,s⟩:=a;simp only at c6 de eb ar;cases g1:t.all bI.fits with
 |false=>
  rw[g1]at c6;have:R=false:=by rw[<-aV,fJ];rintro⟨u,ah,e,_,h⟩;simp only at e;subst e;rw[List.all_map,List.all_eq_false]at g1;obtain⟨x,af,U⟩:=g1;exact U ((bI.fits_T x).trans (h.f x af))
  subst this;clear aV eb ar;obtain⟨n,b,d,k,m⟩:=s;simp only[iG.e,jk.e]at de⊢;refine be iD F5 HF fun aK=>?_;unfold Cz;exact bJ
 |true=>
  obtain⟨u,rfl,hu⟩:=Gb g1;rw[g1,uV]at c6;by_cases g2:sT s;rotate_left
  ·rw[hG g2]at de;have:R=false:=by rw[<-aV,fJ];rintro⟨eO,ah,_,e,h⟩;exact g2 ⟨ah,e,h.ok⟩
   subst this;clear aV eb ar g1 g2;obtain⟨n,b,d,k,m⟩:=s;simp only[iG.e,jk.e,uV]at de⊢;refine be iD F5 HF fun aK=>?_;unfold Cz;exact bJ
  rw[gK g2]at de;obtain⟨st,rfl,cR⟩:=g2;rw[OB]at de;rw[Fq];simp only[PT]at aV;rw[oK]at ar;have bo:=apR u ar hu;obtain⟨n,b,d,k,m⟩:=st;by_cases g3:b=[];rotate_left
  ·have:R=false:=by rw[<-aV,fJ];exact fun h=>g3 h.b
   subst this;have af1:b.length≠0:=fun h=>g3 (List.length_eq_zero_iff.1 h);have TJ:(0:Int)<(b.length:Int):=Ω
   have asz:0<b.length:=Ω
   have asy:decide ((0:Int)<(b.length:Int))=true:=gK TJ;clear aV eb ar cR hu g1 bo;simp only[dA.e,nh]at de⊢;refine be iD F5 HF fun aK=>?_;unfold Cz;exact bJ
  subst g3;have vl:(fa u []).length<=10000000000:=by have:=HN u [] hu;simp only[List.length_nil]at this;omega
  have ja:R=true↔xI (fa u [])/\n=((fa u []).length:Nat):=by rw[<-aV,decide_eq_true_iff];exact⟨fun h=>⟨h.up,h.n⟩,fun h=>⟨hu,cR,rfl,h.1,h.2⟩⟩
  generalize fa u []=o at bo ja vl;clear aV eb ar cR hu g1;simp only[dA.e,nh]at de⊢;refine be iD F5 HF fun aK=>?_;unfold Cz;clear aK;simp;(with_reducible repeat' first|refine aj ?_|refine aF c6 ?_|refine aG c6 ?_|refine aF de ?_|refine aG de ?_|simp);(with_reducible repeat' first|refine aj ?_|refine aF bo ?_|refine aG bo ?_|simp);refine du [1,3,26,27] (fun i (_:Unit)=>[(28,.int .i64 i)]) o.length (fun i _=> ∀(j:Nat) v,j<i->o[j]? =some v->v=j) () bL (fun j v h=>Ω) (fun _ ae _=>?_) (fun i _ hi ae _=>?_)
  ·have jW:xI o:=fun j v aB=>ae j v (eP.1 aB).1 aB;by_cases g5:n=(o.length:Nat)
   ·have:R=true:=ja.2 ⟨jW,g5⟩;subst this;subst g5;clear ja ae jW;exact bJ
   ·have:R=false:=by cases R with|false=>rfl|true=>exact absurd (ja.1 rfl).2 g5
    subst this;have asA:(n==(o.length:Int))=false:=beq_eq_false_iff_ne.2 g5;clear ja ae jW;exact bJ
  ·obtain⟨b,ab,cr⟩:=dB hi;have AS:∀h,((dF o)[i]'h)= .int .i64 b:=fun h=>by simp[dF,cr]
   by_cases e:b=(i:Int)
   ·have ax:∀(j:Nat) v,j<i+1->o[j]? =some v->v=j:=fun j v h aB=>by
     by_cases GA:j<i
     ·exact ae j v GA aB
     ·obtain rfl:j=i:=Ω
      rw[ab]at aB;rw[<-eQ aB];exact e
    clear ae ja;subst e;exact fO
   ·have:R=false:=by cases R with|false=>rfl|true=>exact absurd ((ja.1 rfl).1 i b ab) e
    subst this;have ff:(b !=(i:Int))=true:=bne_iff_ne.2 e;clear ae ja;exact bJ
def Od(r:List aq):ai:= .slice 5 .no (r.map aq.e)
@[simp]theorem auK(r:List aq):eF (Od r)=true:=rfl
@[simp]theorem auJ(r:List aq):cells (Od r)=[Od r]:=rfl
open Classical in
theorem aqI(l:List cX):bF ak 78 [.slice 5 .no (l.map cX.e)] (.bool (decide (wg l))):=by have k:=ZX l;refine be qI afi amk fun aK=>?_;unfold RY;exact bJ
open Classical in
theorem aqJ{v:List aq}(aB:kS v)(jo:gy v)(bu:gk v):bF ak 78 [.slice 5 .no (v.map aq.e)] (.bool true):=by have gn:=aqI (v.map aq.b);rw[gK (xK.2 ⟨v,rfl,aB,bu,jo⟩),sF]at gn;exact gn
open Classical in
theorem Z7{v:List aq}(aB:kS v)(jo:gy v)(bu:gk v){t:T}(aN:t.fit=true):bF ak 231 [t.e,.slice 5 .no (v.map aq.e)] (.tuple [(if(t.ap (bX v)).size<=5000 then t.ap (bX v)else .nil).e,.bool (decide ((t.ap (bX v)).size<=5000))]):=by
 have c6:=zE t.tm;rw[qm,bI.fits_T,aN]at c6;have gn:=aqJ aB jo bu;have aU:=EZ v (by have:=jo.1;omega) t;have bo:=aqa (t.ap (bX v));generalize t.ap (bX v)=y at aU bo⊢;by_cases g:y.size<=5000
 ·rw[if_pos g];rw[gK g]at aU⊢;clear g jo aB bu;refine be qI Tp Xg fun aK=>?_;unfold JZ;exact bJ
 ·rw[if_neg g];rw[hG g]at aU⊢;clear g jo aB bu;refine be qI Tp Xg fun aK=>?_;unfold JZ;exact bJ
theorem afM{n:Int}(h:0<=n/\n<=100000):(T.var n).fit=true:=by simp[T.fit,T.ok,T.size,h]
open Classical in
theorem aqA{v:List aq}(aB:kS v)(jo:gy v)(bu:gk v){d:List aq}(aR:eU d):bF ak 168 [.slice 5 .no (d.map aq.e),.slice 5 .no (v.map aq.e)] (.bool (lj v d)):=by
 have de:=O7 aR;have yr:=aR.len;generalize aV:lj v d=R;refine be qI afb amd fun aK=>?_;unfold RR;clear aK;simp;(with_reducible repeat' first|refine aj ?_|refine aF de ?_|refine aG de ?_|simp);refine du [1,14,15] (fun i (_:Unit)=>[(16,.int .i64 i)]) d.length (ka (fun b=> !sp v b) d) () bL (fun k b ad=>Ω) (fun _ ae _=>?_) (fun i _ hi ae _=>?_)
 ·have:R=false:=by rw[<-aV,lj,List.any_eq_false];intro b ab;have:=ae.fin b ab;simpa using this
  subst this;clear ae aV de;exact bJ
 ·obtain⟨b,ab,cr⟩:=dB hi;have gD:=dE ab;have aU:=Z7 aB jo bu (afM (aR.ok b gD).1);have bo:=Z7 aB jo bu (aR.fit b gD);have al:((T.var b.v).ap (bX v)).size<=5000:=YV jo b.v;rw[if_pos al,gK al,show(T.var b.v).ap (bX v)=bX v b.v from rfl]at aU;have cd:=EX (bX v b.v) (b.t.ap (bX v));have cz:sp v b=(decide ((b.t.ap (bX v)).size<=5000)&& !decide (bX v b.v=b.t.ap (bX v))):=rfl;have jr:sp v b=true->R=true:=fun h=>by rw[<-aV,lj,List.any_eq_true];exact⟨b,gD,h⟩
  have cI:=fun h:sp v b=false=>ae.step ab (by rw[h];rfl);have hj:=km b.v;clear ae aV de ab al gD aR aB jo bu;generalize sp v b=H at cz jr cI;by_cases bp:(b.t.ap (bX v)).size<=5000
  ·rw[if_pos bp,gK bp]at bo;rw[gK bp,Bool.true_and]at cz;generalize b.t.ap (bX v)=y at bo cd cz;generalize bX v b.v=x at aU cd cz;generalize decide (x=y)=q at cd cz;cases q
   ·have:=jr cz;subst this;exact bJ
   ·have ax:=cI cz;exact fO
  ·rw[if_neg bp,hG bp]at bo;rw[hG bp,Bool.false_and]at cz;have ax:=cI cz;clear cd cz;generalize bX v b.v=x at aU;exact fO
theorem agU(t:T):t.gnd=true↔iq t []=[]:=by
 have J:∀t:T,t.gnd=true↔∀w,t.occ w=false:=by
  intro t;induction t with
  |var n=>simp[T.gnd,T.occ]
  |pair a b ds dv=>simp only[T.gnd,T.occ,cC,Bool.or_eq_false_iff,ds,dv];exact⟨fun h w=>⟨h.1 w,h.2 w⟩,fun h=>⟨fun w=>(h w).1,fun w=>(h w).2⟩⟩
  |_=>simp[T.gnd,T.occ]
 rw[J,List.eq_nil_iff_forall_not_mem];simp[DY]
theorem aqC{t:T}(aN:t.fit=true):bF ak 79 [t.e] (.bool t.gnd):=by
 have c6:=zE t.tm;rw[qm,bI.fits_T,aN]at c6;have en:t.size<=5000:=by simp only[T.fit,cC,fc]at aN;exact aN.2
 have jG:=Cb t [];have gn:=EY t [] (by simp;omega) (by simp[tf]);have Ay:dF []=[]:=rfl;rw[Ay]at gn;have a7:=agU t;generalize iq t []=bf at gn jG a7;cases bf with
 |nil=>rw[a7.2 rfl];rw[Ay]at gn;refine be qI KB Nc fun aK=>?_;unfold FL;exact bJ
 |cons w bf=>
  rw[show t.gnd=false from by rw[<-Bool.not_eq_true,a7];simp];have ar:¬((bf.length:Int)+1=0):=Ω
  have oh:bf.length<=5000:=by simp at jG;omega
  clear a7 jG en aN;refine be qI KB Nc fun aK=>?_;unfold FL;simp;(with_reducible repeat' first|refine aj ?_|refine aF c6 ?_|refine aG c6 ?_|refine aF gn ?_|refine aG gn ?_|simp[e6,ar]);all_goals simp[bz,Yh,aX,aY,aW]
  all_goals omega
theorem aqz{t:T}(aN:t.fit=true)(s:List dM):bF ak 29 [t.e,.str s] (.bool (t.has s)):=by have c6:=zE t.tm;rw[qm,bI.fits_T,aN]at c6;have k:=IX s t;refine be qI afa amc fun aK=>?_;unfold RQ;exact bJ
theorem aqE{t:bI}(h:t.fits=false):bF ak 79 [enc t] (.bool false):=by have c6:=zE t;rw[h]at c6;refine be qI KB Nc fun aK=>?_;unfold FL;exact bJ
open Classical in
theorem aqs{s:dA}(ag:vU s){v:List aq}(aB:v8 s.n v):bF ak 80 [s.e,.slice 5 .no (v.map aq.e)] (.bool (decide (rD s v))):=by
 generalize aV:decide (rD s v)=R;have jG:v.length<=1000000:=by have:=aB.fits.1;omega
 have lq:=kS.fit aB.ok aB.fits;obtain⟨n,rz,qc,rA,sm⟩:=s;have cI:¬rD ⟨n,rz,qc,rA,sm⟩ v->R=false:=fun h=>by rw[<-aV,fJ];exact h
 have jr:rD ⟨n,rz,qc,rA,sm⟩ v->R=true:=fun h=>by rw[<-aV,fc];exact h
 clear aV;have lu:=ag.b;have e4:=lu.len;have cB:=ag.bb;have j9:=ag.d;have re:=ag.k;have qs:=ag.kb;have pY:=ag.mb;have wM:=ag.m;have hW:=tU re;simp only at lu e4 cB j9 re qs pY wM hW aB;clear ag;simp only[dA.e];refine be qI afH amJ fun aK=>?_;unfold Sq;have yr:qc.length<=68719476736:=by simp[ek,ec,eg,lim]at aK;omega
 have kJ:sm.length<=68719476736:=by simp[ek,ec,eg,lim]at aK;omega
 clear aK;simp;(with_reducible repeat' first|refine aj ?_|simp);refine du [1,2,22,23] (fun i (_:Unit)=>[(24,.int .i64 i)]) rz.length (ka (p9 v) rz) () bL (fun k b ad=>Ω) (fun _ ae _=>?_) (fun i _ hi ae _=>?_);rotate_left
 ·obtain⟨b,ab,cr⟩:=dB hi;have gD:=dE ab;obtain⟨c,aw,a7,lV⟩:=aB.get (lu.ok b (dE ab)).1.1 (cB b (dE ab)).1;have aU:=qK v b.v jG;rw[a7]at aU;simp only[jA,pE]at aU;have bo:=EZ v jG b.t;have cd:=EX c.t (b.t.ap (bX v));have cz:p9 v b=(decide ((b.t.ap (bX v)).size<=5000)&&decide (c.t=b.t.ap (bX v))):=by rw[p9,lV];congr 1;exact decide_eq_decide.2 eq_comm
  have eM:p9 v b=false->R=false:=fun h=>cI fun cf=>by have:=ga.1 cf.b b gD;rw[h]at this;cases this
  have ej:=fun h:p9 v b=true=>ae.step ab h;clear ae ab gD cI jr aB lq a7 aw lV;generalize p9 v b=H at cz eM ej;by_cases bp:(b.t.ap (bX v)).size<=5000
  ·rw[gK bp]at bo;rw[gK bp,Bool.true_and]at cz;generalize b.t.ap (bX v)=y at bo cd cz;generalize decide (c.t=y)=q at cd cz;cases q
   ·rw[eM cz];exact bJ
   ·have ax:=ej cz;exact fO
  ·rw[hG bp]at bo;rw[hG bp,Bool.false_and]at cz;rw[eM cz];generalize b.t.ap (bX v)=y at bo;clear cd;exact bJ
 have jP:rz.all (p9 v)=true:=ga.2 ae.fin;clear ae;simp;(with_reducible repeat' first|refine aj ?_|simp);refine du [1,2,52,53] (fun i (_:Unit)=>[(54,.int .i64 i)]) qc.length (ka (lj v) qc) () bL (fun k b ad=>Ω) (fun _ ae _=>?_) (fun i _ hi ae _=>?_);rotate_left
 ·obtain⟨b,ab,cr⟩:=dB hi;have gD:=dE ab;have aU:bF ak 168 [cU b,.slice 5 .no (v.map aq.e)] (.bool (lj v b)):=aqA aB.ok aB.fits aB.asc (j9 b gD);have eM:lj v b=false->R=false:=fun h=>cI fun cf=>by have:=ga.1 cf.d b gD;rw[h]at this;cases this
  have ej:=fun h:lj v b=true=>ae.step ab h;clear ae ab gD cI jr aB lq;generalize lj v b=q at aU eM ej;cases q
  ·rw[eM rfl];exact bJ
  ·have ax:=ej rfl;exact fO
 have u7:qc.all (lj v)=true:=ga.2 ae.fin;clear ae;simp;(with_reducible repeat' first|refine aj ?_|simp);refine du [1,2,64,65] (fun i (_:Unit)=>[(66,.int .i64 i)]) rA.length (ka (fun k=>decide ((bX v k.v).kind=k.k)) rA) () bL (fun k b ad=>Ω) (fun _ ae _=>?_) (fun i _ hi ae _=>?_);rotate_left
 ·obtain⟨b,ab,cr⟩:=dB hi;have gD:=dE ab;obtain⟨c,aw,a7,lV⟩:=aB.get (re.at' b (dE ab)).1.1 (qs b (dE ab));have aU:=qK v b.v jG;rw[a7]at aU;simp only[jA,pE]at aU;by_cases g:c.t.kind=b.k
  ·have ax:=ae.step ab (by rw[lV];exact gK g);clear ae ab gD cI jr aB lq a7 aw lV;exact fO
  ·rw[cI fun cf=>by have:=ga.1 cf.k b gD;rw[lV]at this;exact g (of_decide_eq_true this)]
   clear ae ab gD cI jr aB lq a7 aw lV;simp[hi,cr];((with_reducible repeat' first|refine aj ?_|refine aF aU ?_|refine aG aU ?_|simp[cr,hi,g]|((first|apply bS|apply bW|apply bV)<;>intro h<;>try simp at h))<;>(try exact cy));all_goals simp[bz,Yp,aX,aY,aW]
 have c8:rA.all (fun k=>decide ((bX v k.v).kind=k.k))=true:=ga.2 ae.fin;clear ae;simp;(with_reducible repeat' first|refine aj ?_|simp);refine du [1,84,85] (fun i (_:Unit)=>[(86,.int .i64 i)]) sm.length (ka (fun m=> !(bX v m.v).has m.s) sm) () bL (fun k b ad=>Ω) (fun _ ae _=>?_) (fun i _ hi ae _=>?_);rotate_left
 ·obtain⟨b,ab,cr⟩:=dB hi;have gD:=dE ab;obtain⟨c,aw,a7,lV⟩:=aB.get (wM.at' b (dE ab)).1.1 (pY b (dE ab));have aU:=qK v b.v jG;rw[a7]at aU;simp only[jA,pE]at aU;have bo:=aqz (lq c (dE aw)) b.s;cases g:c.t.has b.s
  ·rw[g]at bo;have ax:=ae.step ab (by rw[lV,g];rfl);clear ae ab gD cI jr aB lq a7 aw lV;exact fO
  ·rw[g]at bo;rw[cI fun cf=>by have:=ga.1 cf.m b gD;rw[lV,g]at this;cases this]
   clear ae ab gD cI jr aB lq a7 aw lV;exact bJ
 rw[jr ⟨jP,u7,c8,ga.2 ae.fin⟩];clear ae;exact bJ
theorem MP:∀(b0 eG l5 nV:List T) (l:List aq),b0.length=eG.length->eY (b0++l5) (eG++nV) l=if(eY b0 eG l).1 then eY l5 nV (eY b0 eG l).2 else eY b0 eG l
 |[],[],l5,nV,l,_=>by simp[eY]
 |[],_::_,_,_,_,h=>by simp at h
 |_::_,[],_,_,_,h=>by simp at h
 |p::b0,t::eG,l5,nV,l,h=>by
  by_cases e:(dX p t l).1=true
  ·have al:eY (p::b0) (t::eG) l=eY b0 eG (dX p t l).2:=by simp[eY,e]
   have aE:eY (p::b0++l5) (t::eG++nV) l=eY (b0++l5) (eG++nV) (dX p t l).2:=by simp[eY,e]
   rw[al,aE];exact MP b0 eG l5 nV _ (by simpa using h)
  ·have al:eY (p::b0) (t::eG) l=(false,(dX p t l).2):=by simp[eY,e]
   have aE:eY (p::b0++l5) (t::eG++nV) l=(false,(dX p t l).2):=by simp[eY,e]
   rw[al,aE];simp
theorem akn{u l:List T}(ar:u.length=l.length){i:Nat}{x y:T}(af:u[i]? =some x)(aO:l[i]? =some y){W:List aq}(h:eY (u.take i) (l.take i) []=(true,W)):eY (u.take (i+1)) (l.take (i+1)) []=dX x y W:=by
 rw[ma,ma,af,aO];simp only[Option.toList];rw[MP _ _ _ _ _ (by simp;omega),h];simp only[if_true,eY];cases e:dX x y W with
 |mk q w=>cases q<;>simp
theorem akm{u l:List T}(ar:u.length=l.length){i:Nat}{W:List aq}(h:eY (u.take i) (l.take i) []=(false,W)):eY u l []=(false,W):=by have:=MP (u.take i) (l.take i) (u.drop i) (l.drop i) [] (by simp;omega);rw[List.take_append_drop,List.take_append_drop,h]at this;rw[this];simp
structure G3 (u l:List T) (a:List aq×Bool×Nat):Prop where
 i:a.2.2<=u.length
 low:iM a.1
 yes:a.2.1=true->eY (u.take a.2.2) (l.take a.2.2) []=(true,a.1)
 no:a.2.1=false->eY u l []=(false,a.1)
theorem G3.step{u l:List T}(ar:u.length=l.length){W:List aq}{i:Nat}(h:G3 u l (W,true,i)){x y:T}(af:u[i]? =some x)(aO:l[i]? =some y)(GF:y1 x):G3 u l ((dX x y W).2,(dX x y W).1,i+1):=by
 have ag:=akn ar af aO (h.yes rfl);have hi:=(eP.1 af).1;refine⟨hi,iM.mt x y h.low GF,fun e=>?_,fun e=>?_⟩
 ·simp only at e⊢;rw[ag,<-e]
 ·simp only at e⊢;exact akm ar (i:=i+1) (by rw[ag,<-e])
theorem aqu(u l:List T)(ar:u.length≠l.length):bF ak 86 [.slice 4 .no (u.map T.e),.slice 4 .no (l.map T.e)] (.tuple [.slice 5 .no [],.bool false]):=by
 have mK:((u.length:Int)==(l.length:Int))=false:=beq_eq_false_iff_ne.2 Ω;refine be hO Ts Xj fun aK=>?_;unfold J2;simp[mK];(with_reducible repeat' first|refine aj ?_|simp[mK]);refine du [0,1] (fun i (_:Unit)=>[(6,.slice 5 .no []),(7,.bool false),(8,.int .i64 0)]) 0 (fun _ _=>True) () bL trivial (fun _ _ _=>?_) (fun i _ hi _ _=>absurd hi Ω);simp;(with_reducible repeat' first|refine aj ?_|simp);by_cases bs:0<u.length
 ·exact bJ
 ·exact bJ
theorem aqt(u l:List T)(ar:u.length=l.length)(hu:∀t∈u,y1 t):bF ak 86 [.slice 4 .no (u.map T.e),.slice 4 .no (l.map T.e)] (.tuple [.slice 5 .no ((eY u l []).2.map aq.e),.bool ((eY u l []).1&&decide ((eY u l []).2.length<=400))]):=by
 have mK:((u.length:Int)==(l.length:Int))=true:=dV.2 Ω;generalize aV:eY u l []=R;refine be hO Ts Xj fun aK=>?_;unfold J2;have eB:u.length<=68719476736:=by simp[ek,ec,eg,lim]at aK;omega
 clear aK;simp[mK];(with_reducible repeat' first|refine aj ?_|simp[mK]);refine uY [0,1] (fun(a:List aq×Bool×Nat)=>[(6,.slice 5 .no (a.1.map aq.e)),(7,.bool a.2.1),(8,.int .i64 a.2.2)]) (fun a=>u.length-a.2.2) (G3 u l) ([],true,0) bL ⟨Nat.zero_le _,iM.nil,fun _=>by simp[eY],fun h=>by cases h⟩ (fun a ae _=>?_);obtain⟨W,q,i⟩:=a;simp only;by_cases hi:i<u.length
 ·cases q with
  |true=>
   obtain⟨x,hI⟩:∃y,u[i]? =some y:=⟨_,cc hi⟩;have AB:∀h,(u[i]'h)=x:=fun h=>by rw[cc hi]at hI;exact eQ hI
   have fM:i<l.length:=ar▸hi;obtain⟨y,pX,AD⟩:=dB fM;have GF:=hu x (dE hI);have aU:=aqk x y W ae.low GF;have ax:=ae.step ar hI pX GF;clear ae aV;generalize dX x y W=r at aU ax;obtain⟨gH,PH⟩:=r;simp only at aU ax;simp[hi];(with_reducible repeat' first|refine aj ?_|refine aF aU ?_|refine aG aU ?_|simp[hi,fM,AB,AD]);all_goals refine bO.whl (PH,gH,i+1) (by simp only;omega) ax bL
  |false=>have:=ae.no rfl;rw[aV]at this;subst this;clear ae aV;simp[hi];(with_reducible repeat' first|refine aj ?_|simp[hi]);skip;all_goals simp[bz,NY,aX,aY,aW]
 ·have rb:i=u.length:=by have:=ae.i;simp only at this;omega
  cases q with
  |true=>
   have:=ae.yes rfl;simp only[rb,jJ]at this;rw[ar,jJ,aV]at this;subst this;clear ae aV;by_cases a6:W.length<=400
   ·have agZ:(W.length:Int)<=400:=Ω
    exact bJ
   ·have agZ:¬(W.length:Int)<=400:=Ω
    exact bJ
  |false=>have:=ae.no rfl;rw[aV]at this;subst this;clear ae aV;simp[hi];(with_reducible repeat' first|refine aj ?_|simp[hi]);skip;all_goals simp[bz,NY,aX,aY,aW]
def A7(a:jk)(l:List bI):Prop:= ∃(u:List T) (s:dA) (x:List T),a.t=u.map T.tm/\a.s=s.r/\l=x.map T.tm/\zQ u s/\(∀t∈x,t.fit=true)/\A6 u s x
theorem Vp{u:List T}{s:dA}{x:List T}:A7 ⟨u.map T.tm,s.r⟩ (x.map T.tm)↔zQ u s/\(∀t∈x,t.fit=true)/\A6 u s x:=by
 constructor
 ·rintro⟨eO,ah,Cc,J,U,au,a6⟩;rw[OS J,dA.r_inj U,OS au];exact a6
 ·intro h;exact⟨u,s,x,rfl,rfl,rfl,h⟩
theorem zQ.low{u:List T}{s:dA}(h:zQ u s):∀t∈u,y1 t:=fun t aN v aB=>by have J:=(WY rfl h.up v).1 (by simp only[y8,List.any_eq_true];exact⟨t,aN,aB⟩);have U:=h.n;have au:=h.ok.1.n.2;omega
theorem MQ:∀(b0 eG l5 nV:List T) (m:List (Int×T)),b0.length=eG.length->mtL (b0++l5) (eG++nV) m=if(mtL b0 eG m).1 then mtL l5 nV (mtL b0 eG m).2 else mtL b0 eG m
 |[],[],l5,nV,l,_=>by simp[mtL]
 |[],_::_,_,_,_,h=>by simp at h
 |_::_,[],_,_,_,h=>by simp at h
 |p::b0,t::eG,l5,nV,l,h=>by
  by_cases e:(fR p t l).1=true
  ·have al:mtL (p::b0) (t::eG) l=mtL b0 eG (fR p t l).2:=by simp[mtL,e]
   have aE:mtL (p::b0++l5) (t::eG++nV) l=mtL (b0++l5) (eG++nV) (fR p t l).2:=by simp[mtL,e]
   rw[al,aE];exact MQ b0 eG l5 nV _ (by simpa using h)
  ·have al:mtL (p::b0) (t::eG) l=(false,(fR p t l).2):=by simp[mtL,e]
   have aE:mtL (p::b0++l5) (t::eG++nV) l=(false,(fR p t l).2):=by simp[mtL,e]
   rw[al,aE];simp
theorem WT{u l:List T}(ar:u.length=l.length){i:Nat}{x y:T}(af:u[i]? =some x)(aO:l[i]? =some y)(h:(mtL (u.take i) (l.take i) []).1=true):mtL (u.take (i+1)) (l.take (i+1)) []=fR x y (mtL (u.take i) (l.take i) []).2:=by
 rw[ma,ma,af,aO];simp only[Option.toList];rw[MQ _ _ _ _ _ (by simp;omega),h];simp only[if_true,mtL];cases e:fR x y (mtL (u.take i) (l.take i) []).2 with
 |mk q w=>cases q<;>simp
theorem akp{u l:List T}(ar:u.length=l.length){i:Nat}(h:(mtL (u.take i) (l.take i) []).1=false):(mtL u l []).1=false:=by have:=MQ (u.take i) (l.take i) (u.drop i) (l.drop i) [] (by simp;omega);rw[List.take_append_drop,List.take_append_drop,h]at this;rw[this];simp[h]
theorem ago(u l:List T)(ar:u.length≠l.length):bF ak 88 [.slice 4 .no (u.map T.e),.slice 4 .no (l.map T.e)] (.tuple [.junk,.bool false]):=by have mK:((u.length:Int) !=(l.length:Int))=true:=bne_iff_ne.2 Ω;refine be hO Ku M5 fun aK=>?_;unfold FC;exact bJ
theorem agp(u l:List T)(ar:u.length=l.length)(h:(mtL u l []).1=false):bF ak 88 [.slice 4 .no (u.map T.e),.slice 4 .no (l.map T.e)] (.tuple [.junk,.bool false]):=by
 have mK:((u.length:Int) !=(l.length:Int))=false:=by rw[bne_eq_false_iff_eq];omega
 refine be hO Ku M5 fun aK=>?_;unfold FC;have eB:u.length<=68719476736:=by simp[ek,ec,eg,lim]at aK;omega
 clear aK;simp[mK];(with_reducible repeat' first|refine aj ?_|simp[mK]);refine gT (fun i (_:Unit)=>⟨[(0,.slice 4 .no (u.map T.e)),(1,.slice 4 .no (l.map T.e)),(6,.gmap (.obj 867)),(15,.int .i64 u.length),(16,.int .i64 i)],[(.obj 867,nL (mtL (u.take i) (l.take i) []).2)],[],0,[.obj 867]⟩) u.length (fun i _=>(mtL (u.take i) (l.take i) []).1=true) () (by simp[mtL];exact⟨by simp[fresh,aH,aD,b7,inObs,Pv.look,mr],ee (by simp[fresh,aH,aD,b7,inObs,Pv.look,mr]),ef (by simp[fresh,aH,aD,dW,inObs,Pv.look,mr]),Ψ⟩) (by simp[mtL]) (fun _ ae _=>?_) (fun i _ hi ae _=>?_);rotate_left
 ·obtain⟨x,hI⟩:∃y,u[i]? =some y:=⟨_,cc hi⟩;have AB:∀h,(u[i]'h)=x:=fun h=>by rw[cc hi]at hI;exact eQ hI
  have fM:i<l.length:=ar▸hi;obtain⟨y,pX,AD⟩:=dB fM;have cR:=WT ar hI pX ae;have nK:=TQ 867 x y (mtL (u.take i) (l.take i) []).2;rw[<-cR]at nK;clear cR hI pX ae;by_cases e:(mtL (u.take (i+1)) (l.take (i+1)) []).1=true
  ·rw[e]at nK;simp[hi];(with_reducible repeat' first|refine aj ?_|simp[hi,fM,AB,AD]);refine hn.ob nK (lL 867 _) (lL 867 _) (uK 867 _ _) (by unfold gb;exact aL) (by unfold gb;exact aL) (by simp[inObs,gb]) ?_;unfold gb;simp[cl];(with_reducible repeat' first|refine aj ?_|simp);all_goals refine bO.rng () hi e ⟨by simp[fresh,aH,aD,b7,inObs,Pv.look,mr],ee (by simp[fresh,aH,aD,b7,inObs,Pv.look,mr]),ef (by simp[fresh,aH,aD,dW,inObs,Pv.look,mr]),Ψ⟩
  ·rw[Bool.eq_false_iff.2 e]at nK;simp[hi];(with_reducible repeat' first|refine aj ?_|simp[hi,fM,AB,AD]);refine hn.ob nK (lL 867 _) (lL 867 _) (uK 867 _ _) (by unfold gb;exact aL) (by unfold gb;exact aL) (by simp[inObs,gb]) ?_;unfold gb;simp[cl];exact bJ
 ·rw[jJ,ar,jJ,h]at ae;cases ae
theorem agn(u l:List T)(ar:u.length=l.length)(eB:u.length<=68719476736)(h:(mtL u l []).1=true):bH ak 88 [.slice 4 .no (u.map T.e),.slice 4 .no (l.map T.e)] ⟨[],[]⟩ fun r ah=>r= .tuple [.gmap (.obj 867),.bool true]/\ah=gb 867 (mtL u l []).2:=by
 have mK:((u.length:Int) !=(l.length:Int))=false:=by rw[bne_eq_false_iff_eq];omega
 have ag:dN ⟨[],[]⟩:=(dN.of ⟨by intro m;simp[Pv.look],by intro m;simp[Pv.look]⟩ (by simp[aH,aD,inObs,Pv.look]) (by simp[aH,aD,inObs,Pv.look]));refine bH.mk mixed hO Ku M5 Ψ ag.obj fun aK cB=>?_;unfold FC;simp[mK];(with_reducible repeat' first|refine aj ?_|simp[mK]);refine gT (fun i (_:Unit)=>⟨[(0,.slice 4 .no (u.map T.e)),(1,.slice 4 .no (l.map T.e)),(6,.gmap (.obj 867)),(15,.int .i64 u.length),(16,.int .i64 i)],[(.obj 867,nL (mtL (u.take i) (l.take i) []).2)],[],0,[.obj 867]⟩) u.length (fun i _=>(mtL (u.take i) (l.take i) []).1=true) () (by simp[mtL];exact⟨by simp[fresh,aH,aD,b7,inObs,Pv.look,mr],ee (by simp[fresh,aH,aD,b7,inObs,Pv.look,mr]),ef (by simp[fresh,aH,aD,dW,inObs,Pv.look,mr]),Ψ⟩) (by simp[mtL]) (fun _ ae _=>?_) (fun i _ hi ae _=>?_);rotate_left
 ·obtain⟨x,hI⟩:∃y,u[i]? =some y:=⟨_,cc hi⟩;have AB:∀h,(u[i]'h)=x:=fun h=>by rw[cc hi]at hI;exact eQ hI
  have fM:i<l.length:=ar▸hi;obtain⟨y,pX,AD⟩:=dB fM;have cR:=WT ar hI pX ae;have nK:=TQ 867 x y (mtL (u.take i) (l.take i) []).2;rw[<-cR]at nK;clear cR hI pX ae;have e:(mtL (u.take (i+1)) (l.take (i+1)) []).1=true:=by
   cases e:(mtL (u.take (i+1)) (l.take (i+1)) []).1 with
   |true=>rfl
   |false=>rw[akp ar e]at h;cases h
  rw[e]at nK;simp[hi];(with_reducible repeat' first|refine aj ?_|simp[hi,fM,AB,AD]);refine hn.ob nK (lL 867 _) (lL 867 _) (uK 867 _ _) (by unfold gb;exact aL) (by unfold gb;exact aL) (by simp[inObs,gb]) ?_;unfold gb;simp[cl];(with_reducible repeat' first|refine aj ?_|simp);all_goals refine bO.rng () hi e ⟨by simp[fresh,aH,aD,b7,inObs,Pv.look,mr],ee (by simp[fresh,aH,aD,b7,inObs,Pv.look,mr]),ef (by simp[fresh,aH,aD,dW,inObs,Pv.look,mr]),Ψ⟩
 ·have e:mtL (u.take u.length) (l.take u.length) []=mtL u l []:=by rw[jJ,ar,jJ]
  rw[e];clear ae;generalize (mtL u l []).2=m;have ad:=lL 867 m;unfold gb at ad⊢;simp;(with_reducible repeat' first|refine aj ?_|simp);refine cF.new _ (.inl rfl) ad (by simp[l0]) aL aL ?_;simp[cL,XY,aX,aY,aW,gb,inObs,Pv.look]
theorem iM.mtL:∀(u eG:List T) {l:List aq},iM l->(∀t∈u,y1 t)->iM (eY u eG l).2
 |[],_,_,h,_=>by simpa[eY]using h
 |_::_,[],_,h,_=>by simpa[eY]using h
 |p::u,t::eG,l,h,hu=>by
  have J:=iM.mt p t h (hu p Ψ);simp only[eY];split
  ·exact iM.mtL u eG J fun x af=>hu x (by simp[af])
  ·exact J
theorem abk:tn [] []:=⟨E9,fun v=>by simp[j3,cP]⟩
theorem ako{u l:List T}(h:(mtL u l []).1=true)(hu:∀t∈u,y1 t):(mtL u l []).2.length<=100001:=by obtain⟨al,aE⟩:=MR u l abk;have U:=Jt (aE (al▸h)) (D4 u l Ψ);have au:=(iM.mtL u l iM.nil hu).len;rw[<-U,Ow,oK]at au;exact au
open Classical in
theorem apJ(a:jk)(eb:h6 a.s.m->uu a.s.m)(ar:a.t.length<=1048576)(l:List bI):bF ak 35 [a.e,.slice 4 .no (l.map enc)] (.bool (decide (A7 a l))):=by
 have eS:=apF a eb ar;have c6:=aab l;generalize aV:decide (A7 a l)=R;by_cases g:xY a;rotate_left
 ·rw[hG g]at eS;have:R=false:=by rw[<-aV,fJ];rintro⟨u,s,x,J,U,_,a6,_⟩;exact g ⟨u,s,J,U,a6⟩
  clear eb ar g;obtain⟨t,n,b,d,k,m⟩:=a;simp only[jk.e]at eS⊢;subst this;clear aV;refine be hO CH D9 fun aK=>?_;unfold zX;exact bJ
 rw[gK g]at eS;obtain⟨t,ah⟩:=a;obtain⟨u,s,J,U,dY⟩:=g;simp only at J U;subst J U;rw[Fq]at eS⊢;cases yj:l.all bI.fits with
 |false=>
  rw[yj]at c6;have:R=false:=by rw[<-aV,fJ];rintro⟨eO,ah,x,_,_,au,_,b3,_⟩;subst au;rw[List.all_map,List.all_eq_false]at yj;obtain⟨y,aO,c7⟩:=yj;exact c7 ((bI.fits_T y).trans (b3 y aO))
  clear eb ar dY yj;subst this;clear aV;refine be hO CH D9 fun aK=>?_;unfold zX;exact bJ
 |true=>
  obtain⟨x,rfl,af⟩:=Gb yj;rw[yj,uV]at c6;rw[uV];obtain⟨n,ax⟩:∃n:Nat,s.n=n:=⟨_,dY.n⟩;have rh:(fa u []).length=n:=by have:=dY.n;omega
  have wN:n<=100000:=by have:=dY.ok.1.n.2;omega
  have ja:=aiT (s:=s) ax rh wN dY.up af;have ij:R=true↔A6 u s x:=by rw[<-aV,decide_eq_true_iff,Vp];exact⟨fun h=>h.2.2,fun h=>⟨dY,af,h⟩⟩
  rw[<-ja]at ij;clear ja aV yj;by_cases hlen:u.length=x.length;rotate_left
  ·have:R=false:=by cases R with|false=>rfl|true=>exact absurd (ij.1 rfl).1 hlen
   subst this;have dn:=ago u x hlen;clear ij eb ar dY ax rh wN af hlen;refine be hO CH D9 fun aK=>?_;unfold zX;exact bJ
  cases hm:(mtL u x []).1 with
  |false=>
   have:R=false:=by cases R with|false=>rfl|true=>have:=(ij.1 rfl).2.1;rw[hm]at this;cases this
   subst this;have dn:=agp u x hlen hm;clear ij eb ar dY ax rh wN af hlen hm;refine be hO CH D9 fun aK=>?_;unfold zX;exact bJ
  |true=>
   have p3:u.length<=68719476736:=by rw[oK]at ar;omega
   have dn:=agn u x hlen p3 hm;have kJ:=ako hm dY.low;have o4:=D4 u x (m:=[]) Ψ;generalize (mtL u x []).2=m at dn kJ o4 ij;have gn:=agP m Ω o4;have tT:=ap8 dY.ok.1 ((na (m.map sW)).map aq.b);have bm:decide (G1 s ((na (m.map sW)).map aq.b))=R:=by rw[oG,decide_eq_true_iff,ij];exact⟨fun h=>⟨hlen,hm,h⟩,fun h=>h.2.2⟩
   rw[bm,sF]at tT;generalize na (m.map sW)=v at gn tT;clear bm ij eb ar dY ax rh wN af hlen hm kJ o4 p3;obtain⟨um,b,d,k,ht⟩:=s;simp only[dA.e]at tT eS⊢;refine be hO CH D9 fun aK=>?_;unfold zX;simp;(with_reducible repeat' first|refine aj ?_|refine aF eS ?_|refine aG eS ?_|refine aF c6 ?_|refine aG c6 ?_|simp);refine cT.new dn ((dN.of ⟨by intro m;simp[Pv.look],by intro m;simp[Pv.look]⟩ (by simp[aH,aD,inObs,Pv.look]) (by simp[aH,aD,inObs,Pv.look]))) aL aL Ψ ?_;rintro r ah ⟨rfl,rfl⟩;refine⟨fun m _=>.inr Ψ,?_⟩;unfold gb;simp[cl];(with_reducible repeat' first|refine aj ?_|simp);refine hn.ob gn (lL 867 m) (lL 867 m) (uK 867 m m) (by unfold gb;exact aL) (by unfold gb;exact aL) (by simp[inObs,gb]) ?_;unfold gb;simp[cl];exact bJ
def yh(t:bI):Prop:= ∃x:T,t=x.tm/\x.fit=true/\x.gnd=true
open Classical in
theorem aqD(t:bI):bF ak 79 [enc t] (.bool (decide (yh t))):=by
 cases h:t.fits with
 |false=>have:=aqE h;rwa[hG fun⟨x,J,U,_⟩=>by subst J;rw[bI.fits_T,U]at h;cases h]
 |true=>
  obtain⟨x,rfl,U⟩:=bI.fits_ex h;have:=aqC U;rw[qm];have e:decide (yh x.tm)=x.gnd:=by rw[oG,decide_eq_true_iff];exact⟨fun⟨y,au,_,a6⟩=>by rw[IJ au];exact a6,fun h=>⟨x,rfl,U,h⟩⟩
  rw[e];exact this
theorem TK:∀{l:List bI},(∀t∈l,yh t)->∃x:List T,l=x.map T.tm/\(∀t∈x,t.fit=true)/\∀t∈x,t.gnd=true
 |[],_=>⟨[],rfl,Ψ,Ψ⟩
 |t::l,h=>by obtain⟨x,rfl,U,au⟩:=TK fun y aO=>h y (oL _ aO);obtain⟨y,rfl,a6,b3⟩:=h t (List.mem_cons_self ..);exact⟨y::x,rfl,fun z bp=>(fA.1 bp).elim (fun e=>by rw[e];exact a6) (U z),fun z bp=>(fA.1 bp).elim (fun e=>by rw[e];exact b3) (au z)⟩
open Classical in
theorem aqB(a:jk)(eb:h6 a.s.m->uu a.s.m)(ar:a.t.length<=1048576)(l:List bI):bF ak 33 [a.e,.slice 4 .no (l.map enc)] (.bool (decide (A7 a l))):=by
 have eS:=aqy a eb ar;generalize aV:decide (A7 a l)=R;by_cases g:xY a;rotate_left
 ·rw[hG g]at eS;have:R=false:=by rw[<-aV,fJ];rintro⟨u,s,x,J,U,_,a6,_⟩;exact g ⟨u,s,J,U,a6⟩
  clear eb ar g;obtain⟨t,n,b,d,k,m⟩:=a;simp only[jk.e]at eS⊢;subst this;clear aV;refine be hO To Xf fun aK=>?_;unfold JY;exact bJ
 rw[gK g]at eS;obtain⟨t,ah⟩:=a;obtain⟨u,s,J,U,dY⟩:=g;simp only at J U;subst J U;rw[Fq]at eS⊢;have lp:∀x:List T,l=x.map T.tm->(∀t∈x,t.fit=true)->(∀t∈x,t.gnd=true)->(R=true↔u.length=x.length/\(eY u x []).1=true/\(eY u x []).2.length<=400/\rD s (eY u x []).2):=fun x e au a6=>by subst e;rw[<-aV,decide_eq_true_iff,Vp];unfold A6;exact⟨fun h=>h.2.2.2,fun h=>⟨dY,au,a6,h⟩⟩
 have eM:∀t∈l,¬yh t->R=false:=fun t aN a7=>by rw[<-aV,fJ];rintro⟨eO,ah,x,_,_,au,_,b3,c7⟩;subst au;obtain⟨y,aO,rfl⟩:=hB.1 aN;exact a7 ⟨y,rfl,b3 y aO,c7.1 y aO⟩
 obtain⟨n,ax⟩:∃n:Nat,s.n=n:=⟨_,dY.n⟩;have rh:(fa u []).length=n:=by have:=dY.n;omega
 have wN:n<=100000:=by have:=dY.ok.1.n.2;omega
 have ahY:=dY.low;have jW:=dY.up;have cR:=dY.ok.1;clear eb aV dY;obtain⟨um,rz,qc,rA,sm⟩:=s;have w1:=fun(v:List aq) (h:v8 um v)=>aqs cR (v:=v) h;simp only[dA.e]at eS w1 ax⊢;clear cR;refine be hO To Xf fun aK=>?_;unfold JY;have eB:l.length<=68719476736:=by simp[ek,ec,eg,lim]at aK;omega
 clear aK;simp;(with_reducible repeat' first|refine aj ?_|refine aF eS ?_|refine aG eS ?_|simp);refine du [1,2,12,13] (fun i (_:Unit)=>[(14,.int .i64 i)]) l.length (fun i _=> ∀(j:Nat) t,j<i->l[j]? =some t->yh t) () bL (fun j t h=>Ω) (fun _ ae _=>?_) (fun i _ hi ae _=>?_);rotate_left
 ·obtain⟨b,ab,cr⟩:=dB hi;have aU:=aqD b;by_cases e:yh b
  ·rw[gK e]at aU;have Dk:∀(j:Nat) t,j<i+1->l[j]? =some t->yh t:=fun j t h aB=>by
    by_cases GA:j<i
    ·exact ae j t GA aB
    ·obtain rfl:j=i:=Ω
     rw[ab]at aB;rw[<-eQ aB];exact e
   clear ae lp eM w1;exact fO
  ·rw[hG e]at aU;rw[eM b (dE ab) e];clear ae lp eM w1;exact bJ
 obtain⟨x,rfl,af,a7⟩:=TK (l:=l) fun t aN=>by obtain⟨j,iK⟩:=List.mem_iff_getElem?.1 aN;exact ae j t (eP.1 iK).1 iK
 have lp:=lp x rfl af a7;simp only[uV,oK];clear ae eM eB;by_cases hlen:u.length=x.length;rotate_left
 ·have dn:=aqu u x hlen;have:R=false:=by cases R with|false=>rfl|true=>exact absurd (lp.1 rfl).1 hlen
  subst this;clear lp w1;simp;(with_reducible repeat' first|refine aj ?_|refine aF dn ?_|refine aG dn ?_|simp);skip;all_goals simp[bz,Eu,aX,aY,aW]
 have dn:=aqt u x hlen ahY;cases J:(eY u x []).1 with
 |false=>
  rw[J,Bool.false_and]at dn;have:R=false:=by cases R with|false=>rfl|true=>have:=(lp.1 rfl).2.1;rw[J]at this;cases this
  subst this;clear lp w1;simp;(with_reducible repeat' first|refine aj ?_|refine aF dn ?_|refine aG dn ?_|simp);skip;all_goals simp[bz,Eu,aX,aY,aW]
 |true=>
  rw[J,Bool.true_and]at dn;by_cases a6:(eY u x []).2.length<=400;rotate_left
  ·rw[hG a6]at dn;have:R=false:=by cases R with|false=>rfl|true=>exact absurd (lp.1 rfl).2.2.1 a6
   subst this;clear lp w1;simp;(with_reducible repeat' first|refine aj ?_|refine aF dn ?_|refine aG dn ?_|simp);skip;all_goals simp[bz,Eu,aX,aY,aW]
  rw[gK a6]at dn;have aB:=Vq rh wN jW hlen af a7 J a6;rw[<-ax]at aB;have bo:=w1 _ aB;have bm:decide (rD ⟨um,rz,qc,rA,sm⟩ (eY u x []).2)=R:=by rw[oG,decide_eq_true_iff,lp];exact⟨fun h=>⟨hlen,J,a6,h⟩,fun h=>h.2.2.2⟩
  rw[bm]at bo;generalize (eY u x []).2=v at dn bo;clear lp w1 aB bm;simp;(with_reducible repeat' first|refine aj ?_|refine aF dn ?_|refine aG dn ?_|refine aF bo ?_|refine aG bo ?_|simp);skip;all_goals simp[bz,Eu,aX,aY,aW]
open Classical in
theorem apI(a:oM)(hw:a.wf)(c:c0 cp)(aw:c.wf fun t=>t.wf):bF ak 7 [a.e,qd c] (.bool true):=by
 have aU:=aqO a hw 1048576 Ω Ω;have bm:=apc a 1048576 Ω;by_cases g:rI a 1048576<0
 ·generalize rI a 1048576=q at aU g;clear hw bm aw;obtain⟨t,n,b,d,k,l⟩:=a;simp only[oM.e]at aU⊢;refine be hO Kx M8 fun aK=>?_;unfold FF;simp[-gG];(with_reducible repeat' first|refine aj ?_|refine aF aU ?_|refine aG aU ?_|simp[g,-gG]);all_goals simp[bz,X8,aX,aY,aW]
 obtain⟨r,rfl,eb⟩:=ape (m:=1048576) hw Ω Ω Ω;clear hw;have ar:=apd (m:=1048576) r Ω;rw[abb]at aU⊢;generalize rI r.h 1048576=q at aU g bm;have bo:=aaa c aw q Ω Ω;have jU:=IG c q Ω;by_cases g2:pn c q<0
 ·generalize pn c q=bE at bo g2;clear bm jU eb ar aw;obtain⟨t,n,b,d,k,l⟩:=r;simp only[jk.e]at aU⊢;refine be hO Kx M8 fun aK=>?_;unfold FF;exact bJ
 obtain⟨x,rfl⟩:=Zk aw Ω Ω (show 0<=pn c q by omega);rw[Zx]at bo⊢;generalize pn (.l (x.map qH)) q=bE at bo g2;have t1:=aqW r;have t2:=aag x;have s1:=aqB r eb ar x;have i1:=apJ r eb ar x;have al:=apW r;have aE:=ZP x;generalize decide (A7 r x)=Q at s1 i1;clear bm jU eb ar aw;obtain⟨t,n,b,d,k,l⟩:=r;simp only[jk.e]at aU t1 s1 i1 al⊢;refine be hO Kx M8 fun aK=>?_;unfold FF;have V9:=t1;exact bJ
end
section
open Go Go.Pv Go.ChangeShapes Go.WideShapes Go.ChangeAt Go.RowKit Go.Deep
theorem abK:ak.cellsOf 51=6:=by kernel_rfl
theorem ajF{α:Type}:∀{cs:List α},cs.length=6->∃a b c d e f,cs=[a,b,c,d,e,f]
 |[a,b,c,d,e,f],_=>⟨a,b,c,d,e,f,rfl⟩
section
variable {H:Type} {enc:fZ×Value->H} {W:World} {spare:Nat->Bool} {held:Bool} {cs:List Value} {x:DataW H×List MemPlace} {fuel:Nat}
theorem Zr(h:ib enc ak W 0 spare held fuel 43 cs=some x):∃d:c0 cp,d.wf (fun t=>t.wf)/\∃v,cs=[v]/\uh W (qd d) v:=BZ cp.e cp.wf Tryz.underlying43 FU Ω (fun n' cs' Cc ax cf=>by obtain⟨t,t1,t2⟩:=Zq _ _ _ cf;exact⟨t,t1,by rw[cp.e_eq];exact zm t2⟩) h
theorem aa5(h:ib enc ak W 0 spare held fuel 51 cs=some x):∃a:oM,a.wf/\reads W a.e cs:=by
 obtain⟨xs,n,rfl,_,hlen,jq,aJ⟩:=DataW.trod_struct Tryz.underlying51 h;rw[abK]at hlen;obtain⟨ie,bK,cq,da,hT,kE,rfl⟩:=ajF hlen;have DD:xs.length=2:=jq;have f0:ib enc ak W 0 spare held n 43 (([ie,bK,cq,da,hT,kE].drop 0).take (ak.cellsOf 43))=xs[0]?:=aJ 0 _ rfl;have f1:ib enc ak W 0 spare held n 49 (([ie,bK,cq,da,hT,kE].drop 1).take (ak.cellsOf 49))=xs[1]?:=aJ 1 _ rfl;simp only[SD,SB,ng,ko]at f0 f1;rw[cc Ω]at f0 f1;obtain⟨l,w0,v0,fo,r0⟩:=Zr f0;obtain⟨s,dU,u,hu,aM,ay⟩:=ao1 f1;simp only[oJ,and_true]at fo;subst fo;simp only[n2.e,bd]at aM;obtain⟨us,rfl,aM⟩:=aM;have su:us.toList=[bK,cq,da,hT,kE]:=by simpa[pB]using hu
 rw[su]at aM;refine⟨⟨l,s⟩,⟨w0,dU⟩,zm ?_⟩;rw[dc];exact⟨_,_,rfl,⟨r0.1,r0.2.1⟩,aM⟩
end
theorem aa4{H:Type}{enc:fZ×Value->H}{W:World}{spare:Nat->Bool}{held:Bool}{us:Array Value}{x:DataW H×List MemPlace}{fuel:Nat}(h:ib enc ak W 0 spare held fuel 51 us.toList=some x):∃r:oM,r.wf/\bd W (q2 W) r.e (.agg us):=by obtain⟨r,aM,aim⟩:=aa5 h;exact⟨r,aM,aoh aim⟩
theorem apn{H:Type}{enc:fZ×Value->H}{W:World}{spare:Nat->Bool}{held:Bool}{v:Value}{x:DataW H×List MemPlace}{fuel:Nat}(h:ib enc ak W 0 spare held fuel 43 [v]=some x):∃d:c0 cp,d.wf (fun t=>t.wf)/\bd W (q2 W) (qd d) v:=by obtain⟨d,aR,u,e,aM⟩:=Zr h;cases e;exact⟨d,aR,aM.1⟩
end
end Go.Proofs.YtohaalphocaebaaGreat
