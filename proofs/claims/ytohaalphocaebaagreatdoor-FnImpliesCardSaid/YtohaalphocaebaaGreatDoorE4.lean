/- made by mk2.py: the code of the functions, and the checks against the program's own form. -/
import Derived.Test.YtohaalphocaebaaGreatDoorProg
import Derived.Sort.AssemblyPlain
import Derived.Sort.LotD5
import Derived.Lib.OwnBridge
import Derived.Shelf.GgSortMore.Stable
import Derived.Shelf.GgSortFunc.SmallK
import Derived.Shelf.GgSortFunc.Slice
import Derived.Ground.GgsProg
import Derived.Test.YtohaalphocaebaaGreatDoorE3
set_option linter.all false
set_option maxHeartbeats 4000000
set_option maxRecDepth 4000
open Array renaming getElem?_toList->vb
open BitVec renaming ofInt->mL
open Bool renaming and_eq_true->cv,eq_iff_iff->qP,false_eq_true->hk,or_eq_true->mg
open Go renaming Program->cM,TypeId->hl
open Go.Extern.ReflectliteSwapper renaming swap->Ga,swapper->av2
open Go.Extern.ReflectliteValue renaming len->av3,method->av4,unpack->arF,valueError->arG
open Go.Extern.Rtype renaming kind->ace
open Go.IntKind renaming bits->oK,i64->nR,signed->sn,u64->hT,wrap->tM
open Go.IntWalk renaming i64_in->nl
open Go.Proofs.Tryz renaming prog->aA
open List renaming all_eq_true->fi,cons_append->bQ,drop_eq_getElem_cons->lA,getElem?_eq_getElem->cm,getElem?_eq_some_iff->fG,getElem_of_mem->oL,length_cons->mM,map_cons->hc,map_nil->nS,mem_cons->eU,mem_cons_of_mem->mh,mem_of_getElem?->ek,mem_singleton->iG,nil_append->bU,pairwise_iff_getElem->p6,take_length->lB,take_of_length_le->hV
open List.cons renaming injEq->yn
open Nat renaming add_mul->p8,le_refl->eo,le_trans->hn,mul_le_mul_right->rr,strongRecOn->qQ
open Ne renaming symm->lY
open Option renaming isSome_none->je,map_eq_some_iff->gB,map_some->nT
open Option.some renaming inj->eV,injEq->dD
open Prod.mk renaming injEq->kl
open _root_ renaming beq_iff_eq->dO,congrArg->eW,decide_eq_false->jf,decide_eq_false_iff_not->gJ,decide_eq_true->hd,decide_eq_true_eq->eA
namespace Go.Proofs.YtohaalphocaebaaGreatDoor
section
open Go Go.Pv
def S9:C:=(aa [c0 2 0] (aa [cb 4 20] (aa [J 8 4,cb 5 0,J 6 8] (.seq (.block 0 (.loop (.seq (aa [J 9 6,J 10 1,bC 11 .leq 9 10] (a1 11 .skip (.exit 0))) (.block 1 (aa [aZ 12 2 2,J 13 5,J 14 6,c4 15 187 [.t 12,.t 13,.t 14]] (aa [J 16 6,J 5 16] (.region [J 17 6,J 18 4,bC 19 .add 17 18,J 6 19]))))))) (aa [aZ 20 2 2,J 21 5,J 22 1,c4 23 187 [.t 20,.t 21,.t 22]] (.block 2 (.loop (.seq (aa [J 24 4,J 25 1,bC 26 .lss 24 25] (a1 26 .skip (.exit 2))) (.block 3 (aa [J 27 4,bT 28 (.bin .mul false (ef 2) (.t 27)),cb 5 0,J 6 28] (.seq (.block 4 (.loop (.seq (aa [J 29 6,J 30 1,bC 31 .leq 29 30] (a1 31 .skip (.exit 4))) (.block 5 (aa [aZ 32 2 2,J 33 5,J 34 5,J 35 4,bC 36 .add 34 35,J 37 6,c4 38 188 [.t 32,.t 33,.t 36,.t 37]] (aa [J 39 6,J 5 39] (.region [J 40 6,J 41 4,bT 42 (.bin .mul false (ef 2) (.t 41)),bC 43 .add 40 42,J 6 43]))))))) (.seq (aa [J 44 5,J 45 4,bC 46 .add 44 45,J 7 46] (aa [J 47 7,J 48 1,bC 49 .lss 47 48] (a1 49 (.region [aZ 50 2 2,J 51 5,J 52 7,J 53 1,c4 54 188 [.t 50,.t 51,.t 52,.t 53]]) .skip))) (.region [J 55 4,aU 56 .mul 55 2,J 4 56])))))))))))))
def Lf:C:=(aa [c0 3 0] (aa [J 8 1,aU 9 .add 8 1,J 6 9] (.block 0 (.loop (.seq (aa [J 10 6,J 11 2,bC 12 .lss 10 11] (a1 12 .skip (.exit 0))) (.seq (.block 1 (aa [J 15 6,J 7 15] (.block 2 (.loop (.seq (aa [J 16 7,J 17 1,bC 18 .gtr 16 17,J 19 18,av 19 true (aJ 20 0 1 3),av 19 true (ay 21 1 20),b6 19 true 22 7,b6 19 true 23 7,av 19 true (aU 24 .sub 23 1),av 19 true (gA 25 21 [.t 22,.t 24]),dB 26 19 25] (a1 26 .skip (.exit 2))) (.seq (.block 3 (.region [aJ 29 1 1 3,ay 30 1 29,J 31 7,J 32 7,aU 33 .sub 32 1,gA 34 30 [.t 31,.t 33]])) (.region [J 27 7,aU 28 .sub 27 1,J 7 28]))))))) (.region [J 13 6,aU 14 .add 13 1,J 6 14])))))))
def GR:C:=(aa [J 164 16,J 165 22,bC 166 .lss 164 165,J 167 166,b6 167 true 168 22,b6 167 true 169 3,av 167 true (bC 170 .lss 168 169),dB 171 167 170] (a1 171 (.region [aZ 172 2 4,J 173 16,J 174 22,J 175 3,c4 176 188 [.t 172,.t 173,.t 174,.t 175]]) .skip))
def GS:C:=(.seq (aa [J 151 1,J 152 18,bC 153 .lss 151 152,J 154 153,b6 154 true 155 18,b6 154 true 156 16,av 154 true (bC 157 .lss 155 156),dB 158 154 157] (a1 158 (.region [aZ 159 2 4,J 160 1,J 161 18,J 162 16,c4 163 188 [.t 159,.t 160,.t 161,.t 162]]) .skip)) GR)
def Lj:C:=(.seq (aa [J 138 18,J 139 2,bC 140 .lss 138 139,J 141 140,b6 141 true 142 2,b6 141 true 143 22,av 141 true (bC 144 .lss 142 143),dB 145 141 144] (a1 145 (.region [aZ 146 2 4,J 147 18,J 148 2,J 149 22,c4 150 207 [.t 146,.t 147,.t 148,.t 149]]) .skip)) GS)
def Lk:C:=(aa [J 113 17,aU 114 .sub 113 1,J 20 114] (.seq (.block 8 (.loop (.seq (aa [J 115 18,J 116 19,bC 117 .lss 115 116] (a1 117 .skip (.exit 8))) (.block 9 (aa [J 118 18,J 119 19,bC 120 .add 118 119,bT 121 (.conv .u64 (.t 120)),bT 122 (.bin .shr false (.t 121) (.c (.int .u64 1))),bT 123 (.conv .i64 (.t 122)),J 21 123] (aa [aJ 124 0 1 4,ay 125 1 124,J 126 20,J 127 21,bC 128 .sub 126 127,J 129 21,gA 130 125 [.t 128,.t 129],ct 131 130] (a1 131 (.region [J 132 21,aU 133 .add 132 1,J 18 133]) (.region [J 134 21,J 19 134])))))))) (aa [J 135 17,J 136 18,bC 137 .sub 135 136,J 22 137] Lj)))
def Tb:C:=(aa [c0 4 0] (.seq (aa [J 23 2,J 24 1,bC 25 .sub 23 24,aU 26 .eql 25 1] (a1 26 (aa [J 27 2,J 8 27] (aa [J 28 3,J 9 28] (.seq (.block 0 (.loop (.seq (aa [J 29 8,J 30 9,bC 31 .lss 29 30] (a1 31 .skip (.exit 0))) (.block 1 (aa [J 32 8,J 33 9,bC 34 .add 32 33,bT 35 (.conv .u64 (.t 34)),bT 36 (.bin .shr false (.t 35) (.c (.int .u64 1))),bT 37 (.conv .i64 (.t 36)),J 10 37] (aa [aJ 38 0 1 4,ay 39 1 38,J 40 10,J 41 1,gA 42 39 [.t 40,.t 41]] (a1 42 (.region [J 43 10,aU 44 .add 43 1,J 8 44]) (.region [J 45 10,J 9 45])))))))) (.seq (aa [J 46 1,J 11 46] (.block 2 (.loop (.seq (aa [J 47 11,J 48 8,aU 49 .sub 48 1,bC 50 .lss 47 49] (a1 50 .skip (.exit 2))) (.seq (.block 3 (.region [aJ 53 1 1 4,ay 54 1 53,J 55 11,J 56 11,aU 57 .add 56 1,gA 58 54 [.t 55,.t 57]])) (.region [J 51 11,aU 52 .add 51 1,J 11 52])))))) .ret)))) .skip)) (.seq (aa [J 59 3,J 60 2,bC 61 .sub 59 60,aU 62 .eql 61 1] (a1 62 (aa [J 63 1,J 12 63] (aa [J 64 2,J 13 64] (.seq (.block 4 (.loop (.seq (aa [J 65 12,J 66 13,bC 67 .lss 65 66] (a1 67 .skip (.exit 4))) (.block 5 (aa [J 68 12,J 69 13,bC 70 .add 68 69,bT 71 (.conv .u64 (.t 70)),bT 72 (.bin .shr false (.t 71) (.c (.int .u64 1))),bT 73 (.conv .i64 (.t 72)),J 14 73] (aa [aJ 74 0 1 4,ay 75 1 74,J 76 2,J 77 14,gA 78 75 [.t 76,.t 77],ct 79 78] (a1 79 (.region [J 80 14,aU 81 .add 80 1,J 12 81]) (.region [J 82 14,J 13 82])))))))) (.seq (aa [J 83 2,J 15 83] (.block 6 (.loop (.seq (aa [J 84 15,J 85 12,bC 86 .gtr 84 85] (a1 86 .skip (.exit 6))) (.seq (.block 7 (.region [aJ 89 1 1 4,ay 90 1 89,J 91 15,J 92 15,aU 93 .sub 92 1,gA 94 90 [.t 91,.t 93]])) (.region [J 87 15,aU 88 .sub 87 1,J 15 88])))))) .ret)))) .skip)) (aa [J 95 1,J 96 3,bC 97 .add 95 96,bT 98 (.conv .u64 (.t 97)),bT 99 (.bin .shr false (.t 98) (.c (.int .u64 1))),bT 100 (.conv .i64 (.t 99)),J 16 100] (aa [J 101 16,J 102 2,bC 103 .add 101 102,J 17 103] (aa [cb 18 0,cb 19 0] (.seq (aa [J 104 2,J 105 16,bC 106 .gtr 104 105] (a1 106 (aa [J 107 17,J 108 3,bC 109 .sub 107 108,J 18 109] (.region [J 110 16,J 19 110])) (aa [J 111 1,J 18 111] (.region [J 112 2,J 19 112])))) Lk)))))))
def S7:C:=(aa [c0 4 0] (aa [J 10 2,J 11 1,bC 12 .sub 10 11,J 8 12] (aa [J 13 3,J 14 2,bC 15 .sub 13 14,J 9 15] (.seq (.block 0 (.loop (.seq (aa [J 16 8,J 17 9,bC 18 .neq 16 17] (a1 18 .skip (.exit 0))) (.block 1 (aa [J 19 8,J 20 9,bC 21 .gtr 19 20] (a1 21 (aa [aZ 22 2 4,J 23 2,J 24 8,bC 25 .sub 23 24,J 26 2,J 27 9,c4 28 216 [.t 22,.t 25,.t 26,.t 27]] (.region [J 29 8,J 30 9,bC 31 .sub 29 30,J 8 31])) (aa [aZ 32 2 4,J 33 2,J 34 8,bC 35 .sub 33 34,J 36 2,J 37 9,bC 38 .add 36 37,J 39 8,bC 40 .sub 38 39,J 41 8,c4 42 216 [.t 32,.t 35,.t 40,.t 41]] (.region [J 43 9,J 44 8,bC 45 .sub 43 44,J 9 45])))))))) (.region [aZ 46 2 4,J 47 2,J 48 8,bC 49 .sub 47 48,J 50 2,J 51 8,c4 52 216 [.t 46,.t 49,.t 50,.t 51]])))))
def Ta:C:=(aa [c0 4 0] (aa [cb 8 0] (.block 0 (.loop (.seq (aa [J 9 8,J 10 3,bC 11 .lss 9 10] (a1 11 .skip (.exit 0))) (.seq (.block 1 (.region [aJ 14 1 1 4,ay 15 1 14,J 16 1,J 17 8,bC 18 .add 16 17,J 19 2,J 20 8,bC 21 .add 19 20,gA 22 15 [.t 18,.t 21]])) (.region [J 12 8,aU 13 .add 12 1,J 8 13])))))))
def CG:List (Nat×dG):=[
 (3,⟨1,8,.int .i64,.int .i64 0⟩),
 (117,⟨1,8,.int .u64,.int .u64 0⟩),
 (138,⟨1,8,.other,.junk⟩),
 (152,⟨1,8,.other,.junk⟩),
 (156,⟨2,16,.struct [(0,138),(1,152)],.agg [.junk,.junk]⟩)]
theorem CI:fX aA CG=true:=by kernel_rfl
theorem amU:b7 CG S9 [] 2 Tryz.f161=true:=by kernel_rfl
theorem YT:b7 CG Lf [] 3 Tryz.f187=true:=by kernel_rfl
theorem amW:b7 CG Tb [] 4 Tryz.f188=true:=by kernel_rfl
theorem amS:b7 CG S7 [] 4 Tryz.f207=true:=by kernel_rfl
theorem amV:b7 CG Ta [] 4 Tryz.f216=true:=by kernel_rfl
end
section
open Go Go.Pv
structure fo {α:Type} (S:List α->cU) (n:Nat) (g cd:Nat) (lc ca:List aj) (lt:α->α->Bool):Prop where
 ok:∀l,dP (S l)
 same:∀l ba,l.length=n->ba.length=n->Same (S l) (S ba)
 klc:∀l,l.length=n->aP (inObs (S l)) lc
 ksc:∀l,l.length=n->aP (inObs (S l)) ca
 slc:du lc=lc
 ssc:du ca=ca
 le:n<=68719476736
 less:∀l,l.length=n->∀(i j:Nat) x y,l[i]? =some x->l[j]? =some y->bL aA g (.int .i64 i:: .int .i64 j::lc) (S l) fun r ai=>r= .bool (lt x y)/\ai=S l
 swap:∀l,l.length=n->2<=n->∀i j:Nat,i<n->j<n->bL aA cd (.int .i64 i:: .int .i64 j::ca) (S l) fun r ai=>r= .tuple []/\ai=S (hL l i j)
variable {α:Type} {S:List α->cU} {n g cd:Nat} {lc ca:List aj} {lt:α->α->Bool}
def fe(g cd:Nat)(lc ca:List aj):aj:= .agg [.func g lc,.func cd ca]
theorem Mq(H:fo S n g cd lc ca lt)(l:List α)(aw:l.length=n)(a b c:Nat)(as9:a+c<=b)(VQ:b+c<=n):
  bL aA 216 [fe g cd lc ca,.int .i64 a,.int .i64 b,.int .i64 c] (S l) fun r ai=>r= .tuple []/\∃ba,ai=S ba/\gM a (b+c) l ba/\∀k,ba[k]? =l[tF a b c k]?:=by
 have af:=H.ok l;have au:∀l m,Pv.look (.loc m) (S l).b=none:=fun l=>(H.ok l).obj.1;have hu:∀l m cs,cI (.loc m) cs (S l).b=(S l).b++[(.loc m,cs)]:=fun l m cs=>kR (au l m);have ax:∀m,aM.loc m∉dc (S l):=kM af.obj;have hle:=H.le;refine bL.mk mixed CI Tryz.func216 amV Ψ af.obj fun aR cN=>?_;unfold Ta;simp[fe,hu,ax,cX,au,H.slc,H.ssc];refine hH (fun i (lk:List α)=>⟨[(1,.int .i64 a),(2,.int .i64 b),(3,.int .i64 c),(4,.ptr (.loc 0) 0),(8,.int .i64 i)],[(.loc 0,[.func g lc,.func cd ca])]++(S lk).b,(S lk).e,1,dc (S l)⟩) c (fun i lk=>lk.length=n/\gM a (b+c) l lk/\∀k,lk[k]? =l[tF a b i k]?) l
  (jD.obL af (Same.refl _) d6 (by simp[cX,au,aK,aP,B4 (H.klc l aw),B4 (H.ksc l aw)]) aL aL) ⟨aw,.refl _,fun k=>by simp[tF];split<;>(try split)<;>(try rfl)<;>(exfalso;omega)⟩ ?_ ?_
 ·rintro lk ⟨I,U,ao⟩ _;simp;refine cR.at (S lk) (.inr rfl) (H.ok lk) (H.same _ _ aw I) aL aL ?_;simp[cV,aY,a6,aX];exact⟨lk,rfl,U,ao⟩
 ·rintro i lk hi ⟨I,U,ao⟩ _;have ar:((a:Int)+i)=(a+i:Nat):=Ω
  have aE:((b:Int)+i)=(b+i:Nat):=Ω
  simp[hi,cX,au,H.ssc];(with_reducible repeat' first|refine ak ?_|simp);rw[ar,aE];refine cY.ob (H.swap lk I Ω (a+i) (b+i) Ω Ω) (H.ok lk) aL aL (by simp[H.ksc lk I]) ?_;rintro r ai ⟨rfl,rfl⟩;refine⟨H.same _ _ I (by simp[I]),?_⟩;simp[hC,jw,cc,au];(with_reducible repeat' first|refine ak ?_|simp);refine bS.rng (hL lk (a+i) (b+i)) hi ⟨by simp[I],.step U Ω Ω Ω Ω Ω Ω,fun k=>?_⟩ (jD.obL (L:=[(.loc 0,[.func g lc,.func cd ca])]) (H.ok _) (H.same _ _ aw (by simp[I])) d6 (by simp[cX,au,aK,aP,B4 (H.klc (hL lk (a+i) (b+i)) (by simp[I])),B4 (H.ksc (hL lk (a+i) (b+i)) (by simp[I]))]) aL aL);rw[BR _ _ _ _ Ω Ω,ao,ao,ao];have:tF a b (i+1) k=if k=a+i then tF a b i (b+i)else if k=b+i then tF a b i (a+i)else tF a b i k:=by
   simp only[tF];repeat' split
   all_goals omega
  rw[this];split
  ·rfl
  ·split<;>rfl
section
variable (H:fo S n g cd lc ca lt)
include H
theorem fo.loc{l:List α}(m:Nat):Pv.look (.loc m) (S l).b=none:=(H.ok l).obj.1 m
theorem fo.weak{l lk:List α}(aw:l.length=n)(ae:lk.length=n){st:bt}{dH:List (Nat×aj)}(aC:∀x∈dH,Pv.get x.1 st.t=x.2/\aK (nc (S lk) 1) x.2)(bB:Pv.look (.loc 0) st.b=some [.func g lc,.func cd ca])
  (ad:∀k cs,Pv.look k (S lk).b=some cs->Pv.look k st.b=some cs) (he:∀k o,Pv.look k (S lk).e=some o->Pv.look k st.e=some o):
  jD (dc (S l)) st ⟨dH,(.loc 0,[.func g lc,.func cd ca])::(S lk).b,(S lk).e,1,dc (S l)⟩:=
 jD.obL (L:=[(.loc 0,[.func g lc,.func cd ca])]) (H.ok _) (H.same _ _ aw ae) aC (by simp[bB,aK,aP,B4 (H.klc lk ae),B4 (H.ksc lk ae)]) ad he
theorem fo.weakC{l lk:List α}(aw:l.length=n)(ae:lk.length=n){t dH:List (Nat×aj)}{q:Nat}{o:List aM}(aC:∀x∈dH,Pv.get x.1 t=x.2/\aK (nc (S lk) 1) x.2):
  jD (dc (S l)) ⟨t,(.loc 0,[.func g lc,.func cd ca])::(S lk).b,(S lk).e,q,o⟩ ⟨dH,(.loc 0,[.func g lc,.func cd ca])::(S lk).b,(S lk).e,1,dc (S l)⟩:=
 H.weak aw ae aC (by simp[Pv.look]) (fun k cs ab=>by
  cases k with
  |loc m=>rw[H.loc m]at ab;cases ab
  |obj m=>simpa[Pv.look]using ab) (fun _ _ ab=>ab)
theorem fo.call{lk:List α}(I:lk.length=n){f:Nat}{args:List aj}{R:aj->List α->Prop}(aO:bL aA f args (S lk) fun r ai=> ∃ba,ai=S ba/\R r ba)(bI:∀r ba,R r ba->ba.length=n)(ae:aP (inObs (S lk)) args){t:List (Nat×aj)}{D:List aj}{o:List aM}{d:Option Nat}{K:bt->Prop}
  (h:∀r ba,R r ba->K ⟨e6 d r t,(.loc 0,D)::(S ba).b,(S ba).e,1,o++dc (S ba)⟩):cY aA f args ⟨t,(.loc 0,D)::(S lk).b,(S lk).e,1,o⟩ d K:=by
 refine cY.ob aO (H.ok lk) (fun k cs ab=>?_) (fun _ _ ab=>ab) ae ?_
 ·cases k with
  |loc m=>rw[H.loc m]at ab;cases ab
  |obj m=>simpa[Pv.look]using ab
 ·rintro r ai ⟨ba,rfl,aN⟩;refine⟨H.same _ _ I (bI _ _ aN),?_⟩;have ar:cc (S lk).b ((.loc 0,D)::(S lk).b)=[(.loc 0,D)]:=by have:=jw (S lk).b [(aM.loc 0,D)] (S lk).b;rw[hC]at this;simpa[cc,H.loc]using this
  have aE:cc (S lk).e (S lk).e=[]:=hC _;have:=h _ _ aN;simp only[ar,aE];exact this
theorem fo.doSwap{lk:List α}(I:lk.length=n)(i j:Nat)(hi:i<n)(ag:j<n)(U:2<=n){t:List (Nat×aj)}{D:List aj}{o:List aM}{d:Option Nat}{K:bt->Prop}
  (h:K ⟨e6 d (.tuple []) t,(.loc 0,D)::(S (hL lk i j)).b,(S (hL lk i j)).e,1,o++dc (S (hL lk i j))⟩):cY aA cd (.int .i64 i:: .int .i64 j::ca) ⟨t,(.loc 0,D)::(S lk).b,(S lk).e,1,o⟩ d K:=
 H.call I (R:=fun r ba=>r= .tuple []/\ba=hL lk i j) ((H.swap lk I U i j hi ag).mono fun r ai ⟨ar,aE⟩=>⟨_,aE,ar,rfl⟩) (fun r ba ⟨_,e⟩=>by rw[e];simp[I]) (by simp[aK,aP,H.ksc lk I]) (by rintro r ba ⟨rfl,rfl⟩;exact h)
theorem fo.doLess{lk:List α}(I:lk.length=n)(i j:Nat){x y:α}(hi:lk[i]? =some x)(ag:lk[j]? =some y){t:List (Nat×aj)}{D:List aj}{o:List aM}{d:Option Nat}{K:bt->Prop}
  (h:K ⟨e6 d (.bool (lt x y)) t,(.loc 0,D)::(S lk).b,(S lk).e,1,o++dc (S lk)⟩):cY aA g (.int .i64 i:: .int .i64 j::lc) ⟨t,(.loc 0,D)::(S lk).b,(S lk).e,1,o⟩ d K:=
 H.call I (R:=fun r ba=>r= .bool (lt x y)/\ba=lk) ((H.less lk I i j x y hi ag).mono fun r ai ⟨ar,aE⟩=>⟨_,aE,ar,rfl⟩) (fun r ba ⟨_,e⟩=>by rw[e];exact I) (by simp[aK,aP,H.klc lk I]) (by rintro r ba ⟨rfl,rfl⟩;exact h)
theorem fo.doFn{lk:List α}(I:lk.length=n){f:Nat}{args:List aj}{R:List α->Prop}(aO:bL aA f args (S lk) fun r ai=>r= .tuple []/\∃ba,ai=S ba/\R ba)(bI:∀ba,R ba->ba.length=n)(ae:aP (inObs (S lk)) args){t:List (Nat×aj)}{D:List aj}{o:List aM}{d:Option Nat}{K:bt->Prop}
  (h:∀ba,R ba->K ⟨e6 d (.tuple []) t,(.loc 0,D)::(S ba).b,(S ba).e,1,o++dc (S ba)⟩):cY aA f args ⟨t,(.loc 0,D)::(S lk).b,(S lk).e,1,o⟩ d K:=
 H.call I (R:=fun r ba=>r= .tuple []/\R ba) (aO.mono fun r ai ⟨ar,ba,aE,bA⟩=>⟨ba,aE,ar,bA⟩) (fun r ba h=>bI ba h.2) ae (by rintro r ba ⟨rfl,aN⟩;exact h ba aN)
theorem fo.kdata{lk:List α}(I:lk.length=n):aK (inObs (S lk)) (fe g cd lc ca):=by simp[fe,aK,aP,H.klc lk I,H.ksc lk I]
theorem fo.ret{l lk:List α}(aw:l.length=n)(I:lk.length=n){Q:aj->cU->Prop}{e:Exit}(he:e= .ret\/e= .normal){t:List (Nat×aj)}{D:List aj}{q:Nat}{o:List aM}(bs:Q (.tuple []) (S lk)):cR [] (S l) Q e ⟨t,(.loc 0,D)::(S lk).b,(S lk).e,q,o⟩:=by
 refine cR.at (S lk) he (H.ok lk) (H.same _ _ aw I) (fun k cs ab=>?_) (fun _ _ ab=>ab) ?_
 ·cases k with
  |loc m=>rw[H.loc m]at ab;cases ab
  |obj m=>simpa[Pv.look]using ab
 ·simp[cV,aY,aX,aK,aP,bs]
end
theorem jd(H:fo S n g cd lc ca lt):ej (fe g cd lc ca)=fe g cd lc ca:=by simp[fe,ej,du,H.slc,H.ssc]
theorem iW:aj.agg [.func g lc,.func cd ca]=fe g cd lc ca:=rfl
theorem ahy(H:fo S n g cd lc ca lt)(l:List α)(aw:l.length=n)(a m b:Nat)(DR:a<m)(oe:m<b)(ad:b<=n):
  bL aA 207 [fe g cd lc ca,.int .i64 a,.int .i64 m,.int .i64 b] (S l) fun r ai=>r= .tuple []/\∃ba,ai=S ba/\gM a b l ba/\∀k,ba[k]? =l[iF a m b k]?:=by
 have af:=H.ok l;have au:∀l m,Pv.look (.loc m) (S l).b=none:=fun l=>(H.ok l).obj.1;have hu:∀l m cs,cI (.loc m) cs (S l).b=(S l).b++[(.loc m,cs)]:=fun l m cs=>kR (au l m);have ax:∀m,aM.loc m∉dc (S l):=kM af.obj;have hle:=H.le;refine bL.mk mixed CI Tryz.func207 amS Ψ af.obj fun aR cN=>?_;unfold S7;simp[fe,hu,ax,cX,au];(with_reducible repeat' first|refine ak ?_|simp[hu,ax,cX,au]);refine n2 (fun(x:(Nat×Nat)×List α)=>⟨[(2,.int .i64 m),(4,.ptr (.loc 0) 0),(8,.int .i64 x.1.1),(9,.int .i64 x.1.2)],(.loc 0,[.func g lc,.func cd ca])::(S x.2).b,(S x.2).e,1,dc (S l)⟩) (fun x=>x.1.1+x.1.2)
  (fun x=>x.2.length=n/\0<x.1.1/\0<x.1.2/\a+x.1.1<=m/\m+x.1.2<=b/\gM a b l x.2/\∀k,l[iF a m b k]? =x.2[iF (m-x.1.1) m (m+x.1.2) k]?) ((m-a,b-m),l)
  (H.weak aw aw (by simp[aK];omega) (by simp[cX,au]) aL aL) ⟨aw,by simp;omega,by simp;omega,by simp;omega,by simp;omega,.refl _,fun k=>by simp[show m-(m-a)=a by omega,show m+(b-m)=b by omega]⟩ ?_
 rintro⟨⟨i,j⟩,lk⟩ ⟨I,hi,ag,gF,HQ,U,ao⟩ _;simp only at I hi ag gF HQ U ao;simp[Pv.look];((with_reducible repeat' first|refine ak ?_|simp[Pv.look]|((first|apply bN|apply bP|apply bO)<;>intro h<;>try simp at h))<;>(try exact cf))
 ·have ar:((m:Int)-i)=(m-i:Nat):=Ω
  simp only[jd H,H.slc,H.ssc,ar,iW];refine H.doFn I (Mq H lk I (m-i) m j Ω Ω) (fun ba h=>by rw[h.1.length];exact I) (by simp[aP,aK,H.kdata I]) ?_;rintro ba ⟨aW,bj⟩;have bM:ba.length=n:=by rw[aW.length];exact I
  simp;((with_reducible repeat' first|refine ak ?_|simp|((first|apply bN|apply bP|apply bO)<;>intro h<;>try simp at h))<;>(try exact cf));refine bS.whl ((i-j,j),ba) d7 ⟨bM,by simp;omega,ag,by simp;omega,HQ,U.trans (aW.mono Ω Ω),fun k=>?_⟩ (H.weakC aw bM (by simp[aK];omega));rw[ao,bj];congr 1;simp only[iF,tF];repeat' split
  all_goals omega
 ·have ar:((m:Int)-i)=(m-i:Nat):=Ω
  have aE:((m:Int)+j-i)=(m+j-i:Nat):=Ω
  simp only[jd H,H.slc,H.ssc,ar,aE,iW];refine H.doFn I (Mq H lk I (m-i) (m+j-i) i Ω Ω) (fun ba h=>by rw[h.1.length];exact I) (by simp[aP,aK,H.kdata I]) ?_;rintro ba ⟨aW,bj⟩;have bM:ba.length=n:=by rw[aW.length];exact I
  simp;(with_reducible repeat' first|refine ak ?_|simp);refine bS.whl ((i,j-i),ba) d7 ⟨bM,hi,by simp;omega,gF,by simp;omega,U.trans (aW.mono Ω Ω),fun k=>?_⟩ (H.weakC aw bM (by simp[aK];omega));rw[ao,bj];congr 1;simp only[iF,tF];repeat' split
  all_goals omega
 ·have ar:((m:Int)-i)=(m-i:Nat):=Ω
  simp only[jd H,H.slc,H.ssc,ar,iW];refine H.doFn I (Mq H lk I (m-i) m i Ω Ω) (fun ba h=>by rw[h.1.length];exact I) (by simp[aP,aK,H.kdata I]) ?_;rintro ba ⟨aW,bj⟩;have bM:ba.length=n:=by rw[aW.length];exact I
  simp;refine H.ret aw bM (.inr rfl) ⟨rfl,ba,rfl,U.trans (aW.mono Ω Ω),fun k=>?_⟩;rw[ao,bj];congr 1;simp only[iF,tF];repeat' split
  all_goals omega
end
section
open Go Go.Pv
variable {α:Type} {S:List α->cU} {n g cd:Nat} {lc ca:List aj} {lt:α->α->Bool}
def vj(lt:α->α->Bool)(a b j:Nat)(l:List α):Prop:= ∀p q x y,a<=p->p<q->q<b->q≠j->l[p]? =some x->l[q]? =some y->lt y x=false
theorem vj.swap(bD:rv lt){a b j:Nat}{l:List α}(h:vj lt a b (j+1) l)(VP:a<=j)(HQ:j+1<b)(ag:j+1<l.length){x y:α}(ab:l[j+1]? =some x)(aB:l[j]? =some y)(ha:lt x y=true):vj lt a b j (hL l (j+1) j):=by
 intro p q u v bG kc bs atu hu az;rw[BR _ _ _ _ ag Ω]at hu az;rw[if_neg (by omega:¬(q=j))]at az;split at az
 ·rename_i e;subst e;rw[aB]at az;cases az;split at hu
  ·omega
  ·split at hu
   ·rw[ab]at hu;cases hu;exact bD.asym _ _ ha
   ·exact h p j u y bG Ω Ω Ω hu aB
 ·split at hu
  ·rename_i e;subst e;rw[aB]at hu;cases hu;exact h j q y v VP Ω bs Ω aB az
  ·split at hu
   ·rename_i e;subst e;rw[ab]at hu;cases hu;exact h (p+1) q x v Ω Ω bs Ω ab az
   ·exact h p q u v bG kc bs Ω hu az
theorem vj.done(bD:rv lt){a b j:Nat}{l:List α}(h:vj lt a b (j+1) l)(VP:a<=j)(HQ:j+1<b){x y:α}(ab:l[j+1]? =some x)(aB:l[j]? =some y)(ha:lt x y=false):fx lt a b l:=by
 intro p q u v bG kc bs hu az;by_cases e:q=j+1
 ·subst e;rw[ab]at az;cases az;by_cases aE:p=j
  ·subst aE;rw[aB]at hu;cases hu;exact ha
  ·exact bD.ntr _ _ _ (h p j u y bG Ω Ω Ω hu aB) ha
 ·exact h p q u v bG kc bs e hu az
theorem vj.first{a b:Nat}{l:List α}(h:vj lt a b a l):fx lt a b l:=fun p q u v bG kc bs hu az=>h p q u v bG kc bs Ω hu az
theorem fx.but{a b:Nat}{l:List α}(h:fx lt a b l):vj lt a (b+1) b l:=fun p q u v bG kc bs M7 hu az=>h p q u v bG kc Ω hu az
theorem Vo(H:fo S n g cd lc ca lt)(bD:rv lt)(l:List α)(aw:l.length=n)(a b:Nat)(oa:a<=b)(ad:b<=n):
  bL aA 187 [fe g cd lc ca,.int .i64 a,.int .i64 b] (S l) fun r ai=>r= .tuple []/\∃ba,ai=S ba/\gM a b l ba/\fx lt a b ba:=by
 have af:=H.ok l;have au:∀l m,Pv.look (.loc m) (S l).b=none:=fun l=>(H.ok l).obj.1;have hu:∀l m cs,cI (.loc m) cs (S l).b=(S l).b++[(.loc m,cs)]:=fun l m cs=>kR (au l m);have ax:∀m,aM.loc m∉dc (S l):=kM af.obj;have hle:=H.le;refine bL.mk mixed CI Tryz.func187 YT Ψ af.obj fun aR cN=>?_;unfold Lf;simp[fe,hu,ax,cX,au];(with_reducible repeat' first|refine ak ?_|simp[hu,ax,cX,au]);refine n2 (fun(x:Nat×List α)=>⟨[(1,.int .i64 a),(2,.int .i64 b),(3,.ptr (.loc 0) 0),(6,.int .i64 x.1)],(.loc 0,[.func g lc,.func cd ca])::(S x.2).b,(S x.2).e,1,dc (S l)⟩) (fun x=>b+1-x.1)
  (fun x=>x.2.length=n/\a<x.1/\x.1<=b+1/\(x.1<=b\/x.1=a+1)/\gM a b l x.2/\fx lt a x.1 x.2) (a+1,l)
  (H.weak aw aw d6 (by simp[cX,au]) aL aL) ⟨aw,Ψ,by simp;omega,.inr rfl,.refl _,fun i j x y I U ao=>by simp at ao;omega⟩ ?_
 rintro⟨i,lk⟩ ⟨I,oc,Bg,nD,U,ao⟩ _;simp only at I oc Bg nD U ao;simp;((with_reducible repeat' first|refine ak ?_|simp|((first|apply bN|apply bP|apply bO)<;>intro h<;>try simp at h))<;>(try exact cf))
 ·refine n2 (fun(x:Nat×List α)=>⟨[(1,.int .i64 a),(2,.int .i64 b),(3,.ptr (.loc 0) 0),(6,.int .i64 i),(7,.int .i64 x.1)],(.loc 0,[.func g lc,.func cd ca])::(S x.2).b,(S x.2).e,1,dc (S l)⟩) (fun x=>x.1)
   (fun x=>x.2.length=n/\a<=x.1/\x.1<=i/\gM a b l x.2/\vj lt a (i+1) x.1 x.2) (i,lk)
   (H.weakC aw I d6) ⟨I,by simp;omega,Ψ,U,fx.but ao⟩ ?_
  rintro⟨j,EI⟩ ⟨aS,akD,akR,bh,bX⟩ _;simp only at aS akD akR bh bX;simp[Pv.look];((with_reducible repeat' first|refine ak ?_|simp[Pv.look]|((first|apply bN|apply bP|apply bO)<;>intro h<;>try simp at h))<;>(try exact cf))
  ·obtain⟨dL,rfl⟩:∃dL,j=dL+1:=⟨j-1,Ω⟩;obtain⟨x,ab⟩:∃x,EI[dL+1]? =some x:=⟨_,cm Ω⟩;obtain⟨y,aB⟩:∃y,EI[dL]? =some y:=⟨_,cm Ω⟩;have ar:(((dL+1:Nat):Int)-1)=(dL:Nat):=Ω
   rw[H.slc,ar];refine H.doLess aS (dL+1) dL ab aB ?_;simp;cases ha:lt x y with
   |true=>
    simp[Pv.look];(with_reducible repeat' first|refine ak ?_|simp[Pv.look]);have bA:((dL:Int)+1)=(dL+1:Nat):=Ω
    rw[H.ssc,bA];refine H.doSwap aS (dL+1) dL Ω Ω Ω ?_;simp;(with_reducible repeat' first|refine ak ?_|simp);refine bS.whl (dL,hL EI (dL+1) dL) Ψ ⟨by simp[aS],by simp;omega,by simp;omega,.step bh Ω Ω Ω Ω Ω Ω,bX.swap bD Ω Ω Ω ab aB ha⟩ (H.weakC aw (by simp[aS]) d6)
   |false=>simp;((with_reducible repeat' first|refine ak ?_|simp|((first|apply bN|apply bP|apply bO)<;>intro h<;>try simp at h))<;>(try exact cf));refine bS.whl (i+1,EI) d7 ⟨aS,by simp;omega,by simp;omega,by simp;omega,bh,bX.done bD Ω Ω ab aB ha⟩ (H.weakC aw aS d6)
  ·obtain rfl:j=a:=Ω
   refine bS.whl (i+1,EI) d7 ⟨aS,by simp;omega,by simp;omega,by simp;omega,bh,bX.first⟩ (H.weakC aw aS d6)
 ·refine H.ret aw I (.inr rfl) ⟨rfl,lk,rfl,U,fun p q x y bG kc bs=>ao p q x y bG kc Ω⟩
end
section
open Go Go.Pv
variable {α:Type} [Inhabited α] {S:List α->cU} {n g cd:Nat} {lc ca:List aj} {lt:α->α->Bool}
theorem Az{d:Array α}{i:Nat}(h:i<d.size):d.toList[i]? =some d[i]!:=by simp[getElem!_pos,h]
theorem IN(d:Array α){i j:Nat}(hi:i<d.size)(ag:j<d.size):hL d.toList i j=(Sort.swp d i j).toList:=by simp[hL,Sort.swp,Az hi,Az ag]
section
variable (H:fo S n g cd lc ca lt)
include H
theorem fo.swapA{d:Array α}(I:d.size=n)(U:2<=n)(i j:Nat)(hi:i<n)(ag:j<n){t:List (Nat×aj)}{D:List aj}{o:List aM}{cn:Option Nat}{K:bt->Prop}
  (h:∀o,K ⟨e6 cn (.tuple []) t,(.loc 0,D)::(S (Sort.swp d i j).toList).b,(S (Sort.swp d i j).toList).e,1,o⟩):cY aA cd (.int .i64 i:: .int .i64 j::ca) ⟨t,(.loc 0,D)::(S d.toList).b,(S d.toList).e,1,o⟩ cn K:=by
 refine H.doSwap (by simpa using I) i j hi ag U ?_;rw[IN d Ω Ω];exact h _
theorem fo.lessA{d:Array α}(I:d.size=n)(i j:Nat)(hi:i<n)(ag:j<n){t:List (Nat×aj)}{D:List aj}{o:List aM}{cn:Option Nat}{K:bt->Prop}
  (h:∀o,K ⟨e6 cn (.bool (lt d[i]! d[j]!)) t,(.loc 0,D)::(S d.toList).b,(S d.toList).e,1,o⟩):cY aA g (.int .i64 i:: .int .i64 j::lc) ⟨t,(.loc 0,D)::(S d.toList).b,(S d.toList).e,1,o⟩ cn K:=
 H.doLess (by simpa using I) i j (Az Ω) (Az Ω) (h _)
theorem fo.fnA{d d2:Array α}(I:d.size=n)(U:d2.size=n){f:Nat}{args:List aj}{r:aj}(aO:bL aA f args (S d.toList) fun e2 ai=>e2=r/\ai=S d2.toList)(ae:aP (inObs (S d.toList)) args){t:List (Nat×aj)}{D:List aj}{o:List aM}{cn:Option Nat}{K:bt->Prop}
  (h:∀o,K ⟨e6 cn r t,(.loc 0,D)::(S d2.toList).b,(S d2.toList).e,1,o⟩):cY aA f args ⟨t,(.loc 0,D)::(S d.toList).b,(S d.toList).e,1,o⟩ cn K:=
 H.call (by simpa using I) (R:=fun e2 ba=>e2=r/\ba=d2.toList) (aO.mono fun r ai ⟨ar,aE⟩=>⟨_,aE,ar,rfl⟩) (fun r ba ⟨_,e⟩=>by rw[e];simpa using U) ae (by rintro e2 ba ⟨rfl,rfl⟩;exact h _)
end
section
variable (H:fo S n g cd lc ca lt)
include H
theorem fo.loopA{β:Type}{zt:List α}(aw:zt.length=n){t:List (Nat×aj)}{b:List (aM×List aj)}{e:List (aM×fU)}{q:Nat}{o:List aM}(cj:List Nat)(cs:β->List (Nat×aj))(A:β->Array α)(μ:β->Nat)(ht:β->Prop)(a0:β)(bm:(A a0).size=n)(bB:ht a0)
  (sN:Pv.look (.loc 0) b=some [.func g lc,.func cd ca]) (ad:∀k cs,Pv.look k (S (A a0).toList).b=some cs->Pv.look k b=some cs) (he:∀k o,Pv.look k (S (A a0).toList).e=some o->Pv.look k e=some o)
  (aC:∀x∈vU t cj++cs a0,Pv.get x.1 t=x.2/\aK (nc (S (A a0).toList) 1) x.2) {c:C} {Q:Exit->bt->Prop}
  (af:∀a,ht a->dd aA (dc (S zt)) c (bS (dc (S zt)) (CW (fun a=>⟨vU t cj++cs a,(.loc 0,[.func g lc,.func cd ca])::(S (A a).toList).b,(S (A a).toList).e,1,dc (S zt)⟩) μ ht) (μ a) Q) ⟨vU t cj++cs a,(.loc 0,[.func g lc,.func cd ca])::(S (A a).toList).b,(S (A a).toList).e,1,dc (S zt)⟩):
  dd aA (dc (S zt)) (.loop c) Q ⟨t,b,e,q,o⟩:=
 n2 (fun a=>⟨vU t cj++cs a,(.loc 0,[.func g lc,.func cd ca])::(S (A a).toList).b,(S (A a).toList).e,1,dc (S zt)⟩) μ ht a0 (H.weak aw (by simpa using bm) aC sN ad he) bB fun a ag _=>af a ag
theorem fo.callA0{lk:List α}(I:lk.length=n){f:Nat}{args:List aj}{R:aj->List α->Prop}(aO:bL aA f args (S lk) fun r ai=> ∃ba,ai=S ba/\R r ba)(bI:∀r ba,R r ba->ba.length=n)(ae:aP (inObs (S lk)) args){t:List (Nat×aj)}{D:List aj}{o:List aM}{d:Option Nat}{K:bt->Prop}
  (h:∀r ba,R r ba->∀o,K ⟨e6 d r t,(.loc 0,D)::(S ba).b,(S ba).e,1,o⟩):cY aA f args ⟨t,(S lk).b++[(.loc 0,D)],(S lk).e,1,o⟩ d K:=by
 refine cY.ob aO (H.ok lk) (fun k cs ab=>by rw[cX,ab]) (fun _ _ ab=>ab) ae ?_;rintro r ai ⟨ba,rfl,aN⟩;refine⟨H.same _ _ I (bI _ _ aN),?_⟩;have ar:cc (S lk).b ((S lk).b++[(.loc 0,D)])=[(.loc 0,D)]:=by rw[jw,hC];simp[cc,H.loc]
 have aE:cc (S lk).e (S lk).e=[]:=hC _;have:=h _ _ aN (o++dc (S ba));simp only[ar,aE];exact this
theorem fo.swapA0{d:Array α}(I:d.size=n)(U:2<=n)(i j:Nat)(hi:i<n)(ag:j<n){t:List (Nat×aj)}{D:List aj}{o:List aM}{cn:Option Nat}{K:bt->Prop}
  (h:∀o,K ⟨e6 cn (.tuple []) t,(.loc 0,D)::(S (Sort.swp d i j).toList).b,(S (Sort.swp d i j).toList).e,1,o⟩):cY aA cd (.int .i64 i:: .int .i64 j::ca) ⟨t,(S d.toList).b++[(.loc 0,D)],(S d.toList).e,1,o⟩ cn K:=by
 refine H.callA0 (by simpa using I) (R:=fun r ba=>r= .tuple []/\ba=(Sort.swp d i j).toList) ((H.swap d.toList (by simpa using I) U i j hi ag).mono fun r ai ⟨ar,aE⟩=>⟨_,aE,ar,IN d Ω Ω⟩) (fun r ba ⟨_,e⟩=>by rw[e];simp[Sort.swp,I]) (by simp[aK,aP,H.ksc d.toList (by simpa using I)]) ?_;rintro r ba ⟨rfl,rfl⟩ o;exact h o
theorem fo.retA{l:List α}{d:Array α}(aw:l.length=n)(I:d.size=n){Q:aj->cU->Prop}{e:Exit}(he:e= .ret\/e= .normal){t:List (Nat×aj)}{D:List aj}{q:Nat}{o:List aM}(bs:Q (.tuple []) (S d.toList)):cR [] (S l) Q e ⟨t,(.loc 0,D)::(S d.toList).b,(S d.toList).e,q,o⟩:=H.ret aw (by simpa using I) he bs
theorem fo.retR{eX:List bW}{l:List α}{d:Array α}(aw:l.length=n)(I:d.size=n){Q:aj->cU->Prop}{e:Exit}(he:e= .ret\/e= .normal){t:List (Nat×aj)}{D:List aj}{q:Nat}{o:List aM}(h:cV ⟨t,(.loc 0,D)::(S d.toList).b,(S d.toList).e,q,o⟩ eX fun r=>aK (inObs (S d.toList)) r/\Q r (S d.toList)):cR eX (S l) Q e ⟨t,(.loc 0,D)::(S d.toList).b,(S d.toList).e,q,o⟩:=by
 refine cR.at (S d.toList) he (H.ok _) (H.same _ _ aw (by simpa using I)) (fun k cs ab=>?_) (fun _ _ ab=>ab) h;cases k with
 |loc m=>rw[H.loc m]at ab;cases ab
 |obj m=>simpa[Pv.look]using ab
end
theorem hq(d:Array α)(i j:Nat):(Sort.swp d i j).size=d.size:=by simp[Sort.swp]
end
section
open Go Go.Pv
def SP:C:=(aa [cb 2 0] (.seq (.cond (.c (.bool false)) (aa [J 3 0,bT 4 (.conv .u32 (.t 3)),cD 5 194 4,J 2 5] .ret) .skip) (aa [J 6 0,cD 7 195 6,J 2 7] .ret)))
def Lg:C:=(aa [aZ 91 2 4,J 92 1,J 93 2,J 94 11,c4 95 202 [.t 91,.t 92,.t 93,.t 94],J 90 95,cg 96 0 90,cg 97 1 90,J 14 96,J 15 97] (aa [J 98 15,J 9 98] (aa [J 99 14,J 100 1,bC 101 .sub 99 100,J 102 2,J 103 14,bC 104 .sub 102 103,J 16 101,J 17 104] (aa [J 105 10,aU 106 .quo 105 8,J 18 106] (aa [J 107 16,J 108 17,bC 109 .lss 107 108] (a1 109 (aa [J 110 16,J 111 18,bC 112 .geq 110 111,J 8 112] (aa [aZ 113 2 4,J 114 1,J 115 14,J 116 3,c4 117 170 [.t 113,.t 114,.t 115,.t 116]] (.region [J 118 14,aU 119 .add 118 1,J 1 119]))) (aa [J 120 17,J 121 18,bC 122 .geq 120 121,J 8 122] (aa [aZ 123 2 4,J 124 14,aU 125 .add 124 1,J 126 2,J 127 3,c4 128 170 [.t 123,.t 125,.t 126,.t 127]] (.region [J 129 14,J 2 129])))))))))
def Dg:C:=(.seq (aa [J 73 1,aU 74 .gtr 73 0,J 75 74,av 75 true (aJ 76 0 1 4),av 75 true (ay 77 1 76),b6 75 true 78 1,av 75 true (aU 79 .sub 78 1),b6 75 true 80 11,av 75 true (gA 81 77 [.t 79,.t 80]),av 75 true (ct 82 81),dB 83 75 82] (a1 83 (aa [aZ 84 2 4,J 85 1,J 86 2,J 87 11,c4 88 201 [.t 84,.t 85,.t 86,.t 87],J 13 88] (aa [J 89 13,J 1 89] (.exit 1))) .skip)) Lg)
def Lh:C:=(.seq (aa [J 61 8,J 62 61,b6 62 true 63 9,dB 64 62 63,J 65 64,b6 65 true 66 12,av 65 true (aU 67 .eql 66 1),dB 68 65 67] (a1 68 (aa [aZ 69 2 4,J 70 1,J 71 2,c4 72 200 [.t 69,.t 70,.t 71]] (a1 72 .ret .skip)) .skip)) Dg)
def Li:C:=(aa [aZ 43 2 4,J 44 1,J 45 2,c4 46 198 [.t 43,.t 44,.t 45],J 42 46,cg 47 0 42,cg 48 1 42,J 11 47,J 12 48] (.seq (aa [J 49 12,aU 50 .eql 49 2] (a1 50 (aa [aZ 51 2 4,J 52 1,J 53 2,c4 54 199 [.t 51,.t 52,.t 53]] (aa [J 55 2,aU 56 .sub 55 1,J 57 11,J 58 1,bC 59 .sub 57 58,bC 60 .sub 56 59,J 11 60] (.region [cb 12 1]))) .skip)) Lh))
def S5:C:=(aa [c0 4 0] (aa [bp 8 true] (aa [bp 9 true] (.block 0 (.loop (.block 1 (aa [J 19 2,J 20 1,bC 21 .sub 19 20,J 10 21] (.seq (aa [J 22 10,aU 23 .leq 22 12] (a1 23 (aa [aZ 24 2 4,J 25 1,J 26 2,c4 27 187 [.t 24,.t 25,.t 26]] .ret) .skip)) (.seq (aa [J 28 3,aU 29 .eql 28 0] (a1 29 (aa [aZ 30 2 4,J 31 1,J 32 2,c4 33 196 [.t 30,.t 31,.t 32]] .ret) .skip)) (.seq (aa [J 34 8,ct 35 34] (a1 35 (aa [aZ 36 2 4,J 37 1,J 38 2,c4 39 197 [.t 36,.t 37,.t 38]] (.region [J 40 3,aU 41 .sub 40 1,J 3 41])) .skip)) Li))))))))))
def SQ:C:=(aa [cb 2 0] (.seq (aa [J 3 0,bT 4 (.bin .geq false (.t 3) (.c (.int .u64 4294967296)))] (a1 4 (aa [J 5 0,bT 6 (.bin .shr false (.t 5) (.c (.int .u64 32))),J 0 6] (.region [cb 2 32])) .skip)) (.seq (aa [J 7 0,bT 8 (.bin .geq false (.t 7) (.c (.int .u64 65536)))] (a1 8 (aa [J 9 0,bT 10 (.bin .shr false (.t 9) (.c (.int .u64 16))),J 0 10] (.region [J 11 2,aU 12 .add 11 16,J 2 12])) .skip)) (.seq (aa [J 13 0,bT 14 (.bin .geq false (.t 13) (.c (.int .u64 256)))] (a1 14 (aa [J 15 0,bT 16 (.bin .shr false (.t 15) (.c (.int .u64 8))),J 0 16] (.region [J 17 2,aU 18 .add 17 8,J 2 18])) .skip)) (aa [J 19 2,J 20 0,bT 21 (.conv .u8 (.t 20)),bT 22 (.sidx (.c (.str [0,1,2,2,3,3,3,3,4,4,4,4,4,4,4,4,5,5,5,5,5,5,5,5,5,5,5,5,5,5,5,5,6,6,6,6,6,6,6,6,6,6,6,6,6,6,6,6,6,6,6,6,6,6,6,6,6,6,6,6,6,6,6,6,7,7,7,7,7,7,7,7,7,7,7,7,7,7,7,7,7,7,7,7,7,7,7,7,7,7,7,7,7,7,7,7,7,7,7,7,7,7,7,7,7,7,7,7,7,7,7,7,7,7,7,7,7,7,7,7,7,7,7,7,7,7,7,7,8,8,8,8,8,8,8,8,8,8,8,8,8,8,8,8,8,8,8,8,8,8,8,8,8,8,8,8,8,8,8,8,8,8,8,8,8,8,8,8,8,8,8,8,8,8,8,8,8,8,8,8,8,8,8,8,8,8,8,8,8,8,8,8,8,8,8,8,8,8,8,8,8,8,8,8,8,8,8,8,8,8,8,8,8,8,8,8,8,8,8,8,8,8,8,8,8,8,8,8,8,8,8,8,8,8,8,8,8,8,8,8,8,8,8,8,8,8,8,8,8,8,8,8,8,8,8,8])) (.t 21)),bT 23 (.conv .i64 (.t 22)),bC 24 .add 19 23,J 2 24] .ret)))))
def SX:C:=(aa [c0 3 0] (aa [J 11 1,J 6 11] (aa [cb 7 0] (aa [J 12 2,J 13 1,bC 14 .sub 12 13,J 8 14] (.seq (aa [J 15 8,aU 16 .sub 15 1,aU 17 .quo 16 2,J 9 17] (.block 0 (.loop (.seq (aa [J 18 9,aU 19 .geq 18 0] (a1 19 .skip (.exit 0))) (.seq (.block 1 (.region [aZ 22 2 3,J 23 9,J 24 8,J 25 6,c4 26 209 [.t 22,.t 23,.t 24,.t 25]])) (.region [J 20 9,aU 21 .sub 20 1,J 9 21])))))) (aa [J 27 8,aU 28 .sub 27 1,J 10 28] (.block 2 (.loop (.seq (aa [J 29 10,aU 30 .geq 29 0] (a1 30 .skip (.exit 2))) (.seq (.block 3 (aa [aJ 33 1 1 3,ay 34 1 33,J 35 6,J 36 6,J 37 10,bC 38 .add 36 37,gA 39 34 [.t 35,.t 38]] (.region [aZ 40 2 3,J 41 7,J 42 10,J 43 6,c4 44 209 [.t 40,.t 41,.t 42,.t 43]]))) (.region [J 31 10,aU 32 .sub 31 1,J 10 32])))))))))))
def SU:C:=(aa [c0 3 0] (aa [J 11 2,J 12 1,bC 13 .sub 11 12,J 6 13] (aa [J 14 6,aU 15 .geq 14 8] (a1 15 (aa [J 16 6,bT 17 (.conv .u64 (.t 16)),cS (.alloc 7 (some 902) (.int .u64 0)),bu 1 7 17] (aa [J 18 6,cD 19 210 18,J 8 19] (aa [J 20 1,J 21 6,aU 22 .quo 21 4,aU 23 .mul 22 2,bC 24 .add 20 23,aU 25 .sub 24 1,J 9 25] (.block 0 (.loop (.seq (aa [J 26 9,J 27 1,J 28 6,aU 29 .quo 28 4,aU 30 .mul 29 2,bC 31 .add 27 30,aU 32 .add 31 1,bC 33 .leq 26 32] (a1 33 .skip (.exit 0))) (.seq (.block 1 (aa [cD 36 211 7,J 37 8,bT 38 (.bin .sub true (.t 37) (.c (.int .u64 1))),bC 39 .and 36 38,bT 40 (.conv .i64 (.t 39)),J 10 40] (.seq (aa [J 41 10,J 42 6,bC 43 .geq 41 42] (a1 43 (.region [J 44 10,J 45 6,bC 46 .sub 44 45,J 10 46]) .skip)) (.region [aJ 47 1 1 3,ay 48 1 47,J 49 9,J 50 1,J 51 10,bC 52 .add 50 51,gA 53 48 [.t 49,.t 52]])))) (.region [J 34 9,aU 35 .add 34 1,J 9 35])))))))) .skip))))
def SV:C:=(aa [c0 3 0,cb 6 0,cb 7 0] (aa [J 13 2,J 14 1,bC 15 .sub 13 14,J 8 15] (aa [cS (.alloc 9 (some 901) (.int .i64 0))] (aa [J 16 1,J 17 8,aU 18 .quo 17 4,aU 19 .mul 18 1,bC 20 .add 16 19,J 10 20] (aa [J 21 1,J 22 8,aU 23 .quo 22 4,aU 24 .mul 23 2,bC 25 .add 21 24,J 11 25] (aa [J 26 1,J 27 8,aU 28 .quo 27 4,aU 29 .mul 28 3,bC 30 .add 26 29,J 12 30] (.seq (aa [J 31 8,aU 32 .geq 31 8] (a1 32 (.seq (aa [J 33 8,aU 34 .geq 33 50] (a1 34 (aa [aZ 35 2 3,J 36 10,c4 37 212 [.t 35,.t 36,.t 9],J 10 37] (aa [aZ 38 2 3,J 39 11,c4 40 212 [.t 38,.t 39,.t 9],J 11 40] (.region [aZ 41 2 3,J 42 12,c4 43 212 [.t 41,.t 42,.t 9],J 12 43]))) .skip)) (.region [aZ 44 2 3,J 45 10,J 46 11,J 47 12,c4 48 213 [.t 44,.t 45,.t 46,.t 47,.t 9],J 11 48])) .skip)) (aa [ay 49 1 9] (.block 0 (aa [aU 52 .eql 49 0,J 51 52] (a1 51 (aa [J 53 11,J 6 53,cb 7 1] .ret) (aa [aU 55 .eql 49 12,J 54 55] (a1 54 (aa [J 56 11,J 6 56,cb 7 2] .ret) (aa [J 50 11,J 6 50,cb 7 0] .ret))))))))))))))
def S6:C:=(aa [c0 3 0] (aa [J 8 1,J 6 8] (aa [J 9 2,aU 10 .sub 9 1,J 7 10] (.block 0 (.loop (.seq (aa [J 11 6,J 12 7,bC 13 .lss 11 12] (a1 13 .skip (.exit 0))) (.block 1 (aa [aJ 14 1 1 3,ay 15 1 14,J 16 6,J 17 7,gA 18 15 [.t 16,.t 17]] (aa [J 19 6,aU 20 .add 19 1,J 6 20] (.region [J 21 7,aU 22 .sub 21 1,J 7 22]))))))))))
def S2:C:=(aa [c0 3 0,bp 6 false] (aa [J 11 1,aU 12 .add 11 1,J 7 12] (.seq (aa [cb 8 0] (.block 0 (.loop (.seq (aa [J 13 8,aU 14 .lss 13 5] (a1 14 .skip (.exit 0))) (.seq (.block 1 (.seq (.block 2 (.loop (.seq (aa [J 17 7,J 18 2,bC 19 .lss 17 18,J 20 19,av 20 true (aJ 21 0 1 3),av 20 true (ay 22 1 21),b6 20 true 23 7,b6 20 true 24 7,av 20 true (aU 25 .sub 24 1),av 20 true (gA 26 22 [.t 23,.t 25]),av 20 true (ct 27 26),dB 28 20 27] (a1 28 .skip (.exit 2))) (.block 3 (.region [J 29 7,aU 30 .add 29 1,J 7 30]))))) (.seq (aa [J 31 7,J 32 2,bC 33 .eql 31 32] (a1 33 (aa [bp 6 true] .ret) .skip)) (.seq (aa [J 34 2,J 35 1,bC 36 .sub 34 35,aU 37 .lss 36 50] (a1 37 (aa [bp 6 false] .ret) .skip)) (aa [aJ 38 1 1 3,ay 39 1 38,J 40 7,J 41 7,aU 42 .sub 41 1,gA 43 39 [.t 40,.t 42]] (.seq (aa [J 44 7,J 45 1,bC 46 .sub 44 45,aU 47 .geq 46 2] (a1 47 (aa [J 48 7,aU 49 .sub 48 1,J 9 49] (.block 4 (.loop (.seq (aa [J 50 9,aU 51 .geq 50 1] (a1 51 .skip (.exit 4))) (.seq (.block 5 (.seq (aa [aJ 54 0 1 3,ay 55 1 54,J 56 9,J 57 9,aU 58 .sub 57 1,gA 59 55 [.t 56,.t 58],ct 60 59] (a1 60 (.exit 4) .skip)) (.region [aJ 61 1 1 3,ay 62 1 61,J 63 9,J 64 9,aU 65 .sub 64 1,gA 66 62 [.t 63,.t 65]]))) (.region [J 52 9,aU 53 .sub 52 1,J 9 53])))))) .skip)) (aa [J 67 2,J 68 7,bC 69 .sub 67 68,aU 70 .geq 69 2] (a1 70 (aa [J 71 7,aU 72 .add 71 1,J 10 72] (.block 6 (.loop (.seq (aa [J 73 10,J 74 2,bC 75 .lss 73 74] (a1 75 .skip (.exit 6))) (.seq (.block 7 (.seq (aa [aJ 78 0 1 3,ay 79 1 78,J 80 10,J 81 10,aU 82 .sub 81 1,gA 83 79 [.t 80,.t 82],ct 84 83] (a1 84 (.exit 6) .skip)) (.region [aJ 85 1 1 3,ay 86 1 85,J 87 10,J 88 10,aU 89 .sub 88 1,gA 90 86 [.t 87,.t 89]]))) (.region [J 76 10,aU 77 .add 76 1,J 10 77])))))) .skip)))))))) (.region [J 15 8,aU 16 .add 15 1,J 8 16])))))) (aa [bp 6 false] .ret))))
def S3:C:=(aa [c0 4 0,cb 8 0] (aa [aJ 11 1 1 4,ay 12 1 11,J 13 1,J 14 3,gA 15 12 [.t 13,.t 14]] (aa [J 16 1,aU 17 .add 16 1,J 18 2,aU 19 .sub 18 1,J 9 17,J 10 19] (.seq (.block 0 (.loop (.block 1 (.seq (.block 2 (.loop (.seq (aa [J 20 9,J 21 10,bC 22 .leq 20 21,J 23 22,av 23 true (aJ 24 0 1 4),av 23 true (ay 25 1 24),b6 23 true 26 1,b6 23 true 27 9,av 23 true (gA 28 25 [.t 26,.t 27]),av 23 true (ct 29 28),dB 30 23 29] (a1 30 .skip (.exit 2))) (.block 3 (.region [J 31 9,aU 32 .add 31 1,J 9 32]))))) (.seq (.block 4 (.loop (.seq (aa [J 33 9,J 34 10,bC 35 .leq 33 34,J 36 35,av 36 true (aJ 37 0 1 4),av 36 true (ay 38 1 37),b6 36 true 39 1,b6 36 true 40 10,av 36 true (gA 41 38 [.t 39,.t 40]),dB 42 36 41] (a1 42 .skip (.exit 4))) (.block 5 (.region [J 43 10,aU 44 .sub 43 1,J 10 44]))))) (.seq (aa [J 45 9,J 46 10,bC 47 .gtr 45 46] (a1 47 (.exit 0) .skip)) (aa [aJ 48 1 1 4,ay 49 1 48,J 50 9,J 51 10,gA 52 49 [.t 50,.t 51]] (aa [J 53 9,aU 54 .add 53 1,J 9 54] (.region [J 55 10,aU 56 .sub 55 1,J 10 56]))))))))) (aa [J 57 9,J 8 57] .ret)))))
def S4:C:=(aa [c0 4 0,cb 8 0,bp 9 false] (aa [aJ 12 1 1 4,ay 13 1 12,J 14 1,J 15 3,gA 16 13 [.t 14,.t 15]] (aa [J 17 1,aU 18 .add 17 1,J 19 2,aU 20 .sub 19 1,J 10 18,J 11 20] (.seq (.block 0 (.loop (.seq (aa [J 21 10,J 22 11,bC 23 .leq 21 22,J 24 23,av 24 true (aJ 25 0 1 4),av 24 true (ay 26 1 25),b6 24 true 27 10,b6 24 true 28 1,av 24 true (gA 29 26 [.t 27,.t 28]),dB 30 24 29] (a1 30 .skip (.exit 0))) (.block 1 (.region [J 31 10,aU 32 .add 31 1,J 10 32]))))) (.seq (.block 2 (.loop (.seq (aa [J 33 10,J 34 11,bC 35 .leq 33 34,J 36 35,av 36 true (aJ 37 0 1 4),av 36 true (ay 38 1 37),b6 36 true 39 11,b6 36 true 40 1,av 36 true (gA 41 38 [.t 39,.t 40]),av 36 true (ct 42 41),dB 43 36 42] (a1 43 .skip (.exit 2))) (.block 3 (.region [J 44 11,aU 45 .sub 44 1,J 11 45]))))) (.seq (aa [J 46 10,J 47 11,bC 48 .gtr 46 47] (a1 48 (aa [aJ 49 1 1 4,ay 50 1 49,J 51 11,J 52 1,gA 53 50 [.t 51,.t 52]] (aa [J 54 11,J 8 54,bp 9 true] .ret)) .skip)) (aa [aJ 55 1 1 4,ay 56 1 55,J 57 10,J 58 11,gA 59 56 [.t 57,.t 58]] (aa [J 60 10,aU 61 .add 60 1,J 10 61] (aa [J 62 11,aU 63 .sub 62 1,J 11 63] (.seq (.block 4 (.loop (.block 5 (.seq (.block 6 (.loop (.seq (aa [J 64 10,J 65 11,bC 66 .leq 64 65,J 67 66,av 67 true (aJ 68 0 1 4),av 67 true (ay 69 1 68),b6 67 true 70 10,b6 67 true 71 1,av 67 true (gA 72 69 [.t 70,.t 71]),dB 73 67 72] (a1 73 .skip (.exit 6))) (.block 7 (.region [J 74 10,aU 75 .add 74 1,J 10 75]))))) (.seq (.block 8 (.loop (.seq (aa [J 76 10,J 77 11,bC 78 .leq 76 77,J 79 78,av 79 true (aJ 80 0 1 4),av 79 true (ay 81 1 80),b6 79 true 82 11,b6 79 true 83 1,av 79 true (gA 84 81 [.t 82,.t 83]),av 79 true (ct 85 84),dB 86 79 85] (a1 86 .skip (.exit 8))) (.block 9 (.region [J 87 11,aU 88 .sub 87 1,J 11 88]))))) (.seq (aa [J 89 10,J 90 11,bC 91 .gtr 89 90] (a1 91 (.exit 4) .skip)) (aa [aJ 92 1 1 4,ay 93 1 92,J 94 10,J 95 11,gA 96 93 [.t 94,.t 95]] (aa [J 97 10,aU 98 .add 97 1,J 10 98] (.region [J 99 11,aU 100 .sub 99 1,J 11 100]))))))))) (aa [aJ 101 1 1 4,ay 102 1 101,J 103 11,J 104 1,gA 105 102 [.t 103,.t 104]] (aa [J 106 11,J 8 106,bp 9 false] .ret))))))))))))
def S8:C:=(aa [c0 4 0] (aa [J 10 1,J 8 10] (.block 0 (.loop (.block 1 (aa [J 11 8,bT 12 (.bin .mul false (ef 2) (.t 11)),aU 13 .add 12 1,J 9 13] (.seq (aa [J 14 9,J 15 2,bC 16 .geq 14 15] (a1 16 (.exit 0) .skip)) (.seq (aa [J 17 9,aU 18 .add 17 1,J 19 2,bC 20 .lss 18 19,J 21 20,av 21 true (aJ 22 0 1 4),av 21 true (ay 23 1 22),b6 21 true 24 3,b6 21 true 25 9,av 21 true (bC 26 .add 24 25),b6 21 true 27 3,b6 21 true 28 9,av 21 true (bC 29 .add 27 28),av 21 true (aU 30 .add 29 1),av 21 true (gA 31 23 [.t 26,.t 30]),dB 32 21 31] (a1 32 (.region [J 33 9,aU 34 .add 33 1,J 9 34]) .skip)) (.seq (aa [aJ 35 0 1 4,ay 36 1 35,J 37 3,J 38 8,bC 39 .add 37 38,J 40 3,J 41 9,bC 42 .add 40 41,gA 43 36 [.t 39,.t 42],ct 44 43] (a1 44 .ret .skip)) (aa [aJ 45 1 1 4,ay 46 1 45,J 47 3,J 48 8,bC 49 .add 47 48,J 50 3,J 51 9,bC 52 .add 50 51,gA 53 46 [.t 49,.t 52]] (.region [J 54 9,J 8 54])))))))))))
def S0:C:=(aa [bT 2 (.mov (.c (.int .u64 0)))] (aa [J 4 0,bT 5 (.conv .u64 (.t 4)),cD 6 169 5,bT 7 (.conv .u64 (.t 6)),J 3 7] (aa [J 8 3,bT 9 (.bin .shl false (.c (.int .u64 1)) (.t 8)),J 2 9] .ret)))
def Tc:C:=(aa [bT 2 (.mov (.c (.int .u64 0)))] (.seq (.drawn true 33 [J 3 0,eZ 4 3,ay 5 1 4,J 6 0,eZ 7 6,ay 8 1 7,bT 9 (.bin .shl false (.t 8) (.c (.int .u64 13))),bC 10 .xor 5 9,eZ 11 3,bu 1 11 10]) (.seq (.drawn true 33 [J 12 0,eZ 13 12,ay 14 1 13,J 15 0,eZ 16 15,ay 17 1 16,bT 18 (.bin .shr false (.t 17) (.c (.int .u64 7))),bC 19 .xor 14 18,eZ 20 12,bu 1 20 19]) (.seq (.drawn true 33 [J 21 0,eZ 22 21,ay 23 1 22,J 24 0,eZ 25 24,ay 26 1 25,bT 27 (.bin .shl false (.t 26) (.c (.int .u64 17))),bC 28 .xor 23 27,eZ 29 21,bu 1 29 28]) (aa [J 30 0,eZ 31 30,ay 32 1 31,J 2 32] .ret)))))
def SY:C:=(aa [c0 3 0,cb 6 0] (aa [aZ 7 2 3,J 8 1,aU 9 .sub 8 1,J 10 1,J 11 1,aU 12 .add 11 1,J 13 2,c4 14 213 [.t 7,.t 9,.t 10,.t 12,.t 13],J 6 14] .ret))
def SZ:C:=(aa [c0 5 0,cb 10 0] (aa [aZ 12 2 5,J 13 1,J 14 2,J 15 4,c4 16 218 [.t 12,.t 13,.t 14,.t 15],J 11 16,cg 17 0 11,cg 18 1 11,J 1 17,J 2 18] (aa [aZ 20 2 5,J 21 2,J 22 3,J 23 4,c4 24 218 [.t 20,.t 21,.t 22,.t 23],J 19 24,cg 25 0 19,cg 26 1 19,J 2 25,J 3 26] (aa [aZ 28 2 5,J 29 1,J 30 2,J 31 4,c4 32 218 [.t 28,.t 29,.t 30,.t 31],J 27 32,cg 33 0 27,cg 34 1 27,J 1 33,J 2 34] (aa [J 35 2,J 10 35] .ret)))))
def S1:C:=(aa [c0 4 0,cb 8 0,cb 9 0] (.seq (aa [aJ 10 0 1 4,ay 11 1 10,J 12 2,J 13 1,gA 14 11 [.t 12,.t 13]] (a1 14 (aa [J 15 3,eZ 16 15,ay 17 1 16,aU 18 .add 17 1,eZ 19 15,bu 1 19 18] (aa [J 20 2,J 21 1,J 8 20,J 9 21] .ret)) .skip)) (aa [J 22 1,J 23 2,J 8 22,J 9 23] .ret)))
def oH:List (Nat×dG):=[
 (3,⟨1,8,.int .i64,.int .i64 0⟩),
 (5,⟨1,1,.int .u8,.int .u8 0⟩),
 (9,⟨1,16,.str,.str []⟩),
 (117,⟨1,8,.int .u64,.int .u64 0⟩),
 (138,⟨1,8,.other,.junk⟩),
 (152,⟨1,8,.other,.junk⟩),
 (156,⟨2,16,.struct [(0,138),(1,152)],.agg [.junk,.junk]⟩),
 (170,⟨1,8,.int .u64,.int .u64 0⟩),
 (181,⟨1,4,.int .u32,.int .u32 0⟩),
 (190,⟨1,8,.int .u64,.int .u64 0⟩)]
theorem pc:fX aA oH=true:=by kernel_rfl
theorem amD:b7 oH SP [.tmp 2] 1 Tryz.f169=true:=by kernel_rfl
theorem amQ:b7 oH S5 [] 4 Tryz.f170=true:=by kernel_rfl
theorem amE:b7 oH SQ [.tmp 2] 1 Tryz.f195=true:=by kernel_rfl
theorem amI:b7 oH SX [] 3 Tryz.f196=true:=by kernel_rfl
theorem amG:b7 oH SU [] 3 Tryz.f197=true:=by kernel_rfl
theorem amH:b7 oH SV [.tmp 6,.tmp 7] 3 Tryz.f198=true:=by kernel_rfl
theorem amR:b7 oH S6 [] 3 Tryz.f199=true:=by kernel_rfl
theorem amN:b7 oH S2 [.tmp 6] 3 Tryz.f200=true:=by kernel_rfl
theorem amO:b7 oH S3 [.tmp 8] 4 Tryz.f201=true:=by kernel_rfl
theorem amP:b7 oH S4 [.tmp 8,.tmp 9] 4 Tryz.f202=true:=by kernel_rfl
theorem amT:b7 oH S8 [] 4 Tryz.f209=true:=by kernel_rfl
theorem amL:b7 oH S0 [.tmp 2] 1 Tryz.f210=true:=by kernel_rfl
theorem amX:b7 oH Tc [.tmp 2] 1 Tryz.f211=true:=by kernel_rfl
theorem amJ:b7 oH SY [.tmp 6] 3 Tryz.f212=true:=by kernel_rfl
theorem amK:b7 oH SZ [.tmp 10] 5 Tryz.f213=true:=by kernel_rfl
theorem amM:b7 oH S1 [.tmp 8,.tmp 9] 4 Tryz.f218=true:=by kernel_rfl
end
section
open Go Go.Pv
variable {α:Type} [Inhabited α] {S:List α->cU} {n g cd:Nat} {lc ca:List aj} {lt:α->α->Bool}
theorem Vr(H:fo S n g cd lc ca lt)(d:Array α)(aD:d.size=n)(lo hi first:Nat)(I:first+hi<=n)(U:2<=n)(ao:lo<=n):
  bL aA 209 [fe g cd lc ca,.int .i64 lo,.int .i64 hi,.int .i64 first] (S d.toList) fun r ai=>r= .tuple []/\∃cn,ai=S cn.toList/\cn=Sort.siftDown lt hi first lo d/\cn.size=n:=by
 have af:=H.ok d.toList;have aw:d.toList.length=n:=by simpa using aD
 have au:∀l m,Pv.look (.loc m) (S l).b=none:=fun l=>(H.ok l).obj.1;have hu:∀l m cs,cI (.loc m) cs (S l).b=(S l).b++[(.loc m,cs)]:=fun l m cs=>kR (au l m);have ax:∀m,aM.loc m∉dc (S d.toList):=kM af.obj;have hle:=H.le;refine bL.mk mixed pc Tryz.func209 amT Ψ af.obj fun aR cN=>?_;unfold S8;simp[fe,hu,ax,cX,au];refine H.loopA aw [2,3,4] (fun(x:Nat×Array α)=>[(8,.int .i64 x.1)]) (·.2) (fun x=>hi-x.1) (fun x=>x.2.size=n/\x.1<=n/\Sort.siftDown lt hi first x.1 x.2=Sort.siftDown lt hi first lo d) (lo,d) aD ⟨aD,ao,rfl⟩ (by simp[cX,au]) aL aL d6 ?_;rintro⟨root,cw⟩ ⟨aS,bh,bX⟩;simp only at aS bh bX;have ar:((first:Int)+(2*root+1))=(first+(2*root+1):Nat):=Ω
 have aE:(((first+(2*root+1):Nat):Int)+1)=(first+(2*root+1)+1:Nat):=Ω
 have bA:((first:Int)+root)=(first+root:Nat):=Ω
 have dr:((first:Int)+(2*root+1+1))=(first+(2*root+2):Nat):=Ω
 simp[Pv.look,H.slc,H.ssc];(with_reducible repeat' first|((first|apply bN|apply bP|apply bO)<;>intro h<;>try simp at h)|refine ak ?_|simp[Pv.look,H.slc,H.ssc])
 ·rw[Sort.siftDown,dif_pos Ω]at bX;exact H.retA aw aS (.inr rfl) ⟨rfl,cw,rfl,bX,aS⟩
 ·rw[Sort.siftDown,dif_neg Ω]at bX;rw[ar,aE];refine H.lessA aS _ _ Ω Ω fun o=>?_;have aq:decide (2*root+1+1<hi)=true:=by simp;omega
  cases ab:lt cw[first+(2*root+1)]! cw[first+(2*root+1)+1]! with
  |true=>
   rw[if_pos (by rw[aq,ab];rfl)]at bX;simp;(with_reducible repeat' first|refine ak ?_|simp[Pv.look,H.slc,H.ssc]);rw[bA,dr];refine H.lessA aS _ _ Ω Ω fun o=>?_;cases aB:lt cw[first+root]! cw[first+(2*root+2)]! with
   |true=>rw[if_neg (by simp[aB]),dif_pos Ω]at bX;simp;(with_reducible repeat' first|refine ak ?_|simp[Pv.look,H.slc,H.ssc]);rw[bA,dr];refine H.swapA aS U _ _ Ω Ω fun o=>?_;simp;(with_reducible repeat' first|refine ak ?_|simp);refine bS.whl (2*root+2,Sort.swp cw (first+root) (first+(2*root+2))) d7 ⟨by rw[hq,aS],by simp;omega,bX⟩ (H.weakC aw (by simp[hq,aS]) (by simp[aK];omega))
   |false=>rw[if_pos (by simp[aB])]at bX;simp;(with_reducible repeat' first|refine ak ?_|simp);all_goals exact H.retA aw aS (.inl rfl) ⟨rfl,cw,rfl,bX,aS⟩
  |false=>
   rw[if_neg (by simp[ab])]at bX;simp;(with_reducible repeat' first|refine ak ?_|simp[Pv.look,H.slc,H.ssc]);rw[bA,ar];refine H.lessA aS _ _ Ω Ω fun o=>?_;cases aB:lt cw[first+root]! cw[first+(2*root+1)]! with
   |true=>rw[if_neg (by simp[aB])]at bX;simp;(with_reducible repeat' first|refine ak ?_|simp[Pv.look,H.slc,H.ssc]);rw[bA,ar];refine H.swapA aS U _ _ Ω Ω fun o=>?_;simp;(with_reducible repeat' first|refine ak ?_|simp);refine bS.whl (2*root+1,Sort.swp cw (first+root) (first+(2*root+1))) d7 ⟨by rw[hq,aS],by simp;omega,bX⟩ (H.weakC aw (by simp[hq,aS]) d6)
   |false=>rw[if_pos (by simp[aB])]at bX;simp;(with_reducible repeat' first|refine ak ?_|simp);all_goals exact H.retA aw aS (.inl rfl) ⟨rfl,cw,rfl,bX,aS⟩
 ·rw[Sort.siftDown,dif_neg Ω]at bX;have aq:decide (2*root+1+1<hi)=false:=by simp;omega
  rw[if_neg (by rw[aq];simp)]at bX;rw[bA,ar];refine H.lessA aS _ _ Ω Ω fun o=>?_;cases aB:lt cw[first+root]! cw[first+(2*root+1)]! with
  |true=>rw[if_neg (by simp[aB])]at bX;simp;(with_reducible repeat' first|refine ak ?_|simp[Pv.look,H.slc,H.ssc]);rw[bA,ar];refine H.swapA aS U _ _ Ω Ω fun o=>?_;simp;(with_reducible repeat' first|refine ak ?_|simp);refine bS.whl (2*root+1,Sort.swp cw (first+root) (first+(2*root+1))) d7 ⟨by rw[hq,aS],by simp;omega,bX⟩ (H.weakC aw (by simp[hq,aS]) d6)
  |false=>rw[if_pos (by simp[aB])]at bX;simp;(with_reducible repeat' first|refine ak ?_|simp);all_goals exact H.retA aw aS (.inl rfl) ⟨rfl,cw,rfl,bX,aS⟩
theorem ahx(H:fo S n g cd lc ca lt)(d:Array α)(aD:d.size=n)(a b:Nat)(oa:a<b)(ad:b<=n)(U:2<=n):
  bL aA 199 [fe g cd lc ca,.int .i64 a,.int .i64 b] (S d.toList) fun r ai=>r= .tuple []/\∃cn,ai=S cn.toList/\cn=Sort.reverseRange d a b/\cn.size=n:=by
 have af:=H.ok d.toList;have aw:d.toList.length=n:=by simpa using aD
 have au:∀l m,Pv.look (.loc m) (S l).b=none:=fun l=>(H.ok l).obj.1;have hu:∀l m cs,cI (.loc m) cs (S l).b=(S l).b++[(.loc m,cs)]:=fun l m cs=>kR (au l m);have ax:∀m,aM.loc m∉dc (S d.toList):=kM af.obj;have hle:=H.le;refine bL.mk mixed pc Tryz.func199 amR Ψ af.obj fun aR cN=>?_;unfold S6;simp[fe,hu,ax,cX,au];have pC:((b:Int)-1)=(b-1:Nat):=Ω
 (with_reducible repeat' first|refine ak ?_|simp[hu,ax,cX,au]);rw[pC];refine H.loopA aw [3] (fun(x:(Nat×Nat)×Array α)=>[(6,.int .i64 x.1.1),(7,.int .i64 x.1.2)]) (·.2) (fun x=>x.1.2+1-x.1.1) (fun x=>x.2.size=n/\x.1.2<n/\Sort.reverseLoop x.1.1 x.1.2 x.2=Sort.reverseRange d a b) ((a,b-1),d) aD ⟨aD,by simp;omega,rfl⟩ (by simp[cX,au]) aL aL d6 ?_;rintro⟨⟨i,j⟩,cw⟩ ⟨aS,bh,bX⟩;simp only at aS bh bX;rw[Sort.reverseLoop]at bX;simp[Pv.look,H.slc,H.ssc];(with_reducible repeat' first|((first|apply bN|apply bP|apply bO)<;>intro h<;>try simp at h)|refine ak ?_|simp[Pv.look,H.slc,H.ssc])
 ·rw[if_pos Ω]at bX;refine H.swapA aS U _ _ Ω Ω fun o=>?_;have ar:((i:Int)+1)=(i+1:Nat):=Ω
  have aE:((j:Int)-1)=(j-1:Nat):=Ω
  simp;((with_reducible repeat' first|refine ak ?_|simp|((first|apply bN|apply bP|apply bO)<;>intro h<;>try simp at h))<;>(try exact cf));rw[ar,aE];refine bS.whl ((i+1,j-1),Sort.swp cw i j) d7 ⟨by rw[hq,aS],by simp;omega,bX⟩ (H.weakC aw (by simp[hq,aS]) d6)
 ·rw[if_neg Ω]at bX;exact H.retA aw aS (.inr rfl) ⟨rfl,cw,rfl,bX,aS⟩
theorem ahg(H:fo S n g cd lc ca lt)(d:Array α)(aD:d.size=n)(a b:Nat)(oa:a<=b)(ad:b<=n)(U:2<=n):
  bL aA 196 [fe g cd lc ca,.int .i64 a,.int .i64 b] (S d.toList) fun r ai=>r= .tuple []/\∃cn,ai=S cn.toList/\cn=Sort.heapSort lt d a b/\cn.size=n:=by
 have af:=H.ok d.toList;have aw:d.toList.length=n:=by simpa using aD
 have au:∀l m,Pv.look (.loc m) (S l).b=none:=fun l=>(H.ok l).obj.1;have hu:∀l m cs,cI (.loc m) cs (S l).b=(S l).b++[(.loc m,cs)]:=fun l m cs=>kR (au l m);have ax:∀m,aM.loc m∉dc (S d.toList):=kM af.obj;have hle:=H.le;refine bL.mk mixed pc Tryz.func196 amI Ψ af.obj fun aR cN=>?_;unfold SX;simp[fe,hu,ax,cX,au];(with_reducible repeat' first|refine ak ?_|simp[hu,ax,cX,au]);have pC:nR.wrap (((b:Int)-a-1).tdiv 2)=(((b-a-1)/2+1:Nat):Int)-1:=by
  have e:((b:Int)-a-1).tdiv 2=(((b-a-1)/2+1:Nat):Int)-1:=by
   rcases Nat.eq_or_lt_of_le oa with h|h
   ·subst h;simp
   ·rw[show((b:Int)-a-1)=((b-a-1:Nat):Int) by omega,Int.tdiv_eq_ediv_of_nonneg Ω];omega
  rw[e,nl _ Ω]
 rw[pC];refine H.loopA aw [3,6,7,8] (fun(x:Nat×Array α)=>[(9,.int .i64 ((x.1:Int)-1))]) (·.2) (fun x=>x.1) (fun x=>x.2.size=n/\x.1<=n/\Sort.heapBuild lt (b-a) a x.1 x.2=Sort.heapBuild lt (b-a) a ((b-a-1)/2+1) d) ((b-a-1)/2+1,d) aD ⟨aD,by simp;omega,rfl⟩ (by simp[cX,au]) aL aL d6 ?_;rintro⟨k,cw⟩ ⟨aS,bh,bX⟩;simp only at aS bh bX;have adI:((b:Int)-a)=(b-a:Nat):=Ω
 simp[Pv.look,H.slc,H.ssc];(with_reducible repeat' first|((first|apply bN|apply bP|apply bO)<;>intro h<;>try simp at h)|refine ak ?_|simp[Pv.look,H.slc,H.ssc])
 ·obtain⟨k,rfl⟩:∃bJ,k=bJ+1:=⟨k-1,Ω⟩;have LJ:(((k+1:Nat):Int)-1)=(k:Nat):=Ω
  rw[Sort.heapBuild]at bX;simp only[jd H,H.slc,H.ssc,iW,LJ,adI];refine H.doFn (lk:=cw.toList) (by simpa using aS) (R:=fun ba=> ∃cn,ba=cn.toList/\cn=Sort.siftDown lt (b-a) a k cw/\cn.size=n) ((Vr H cw aS k (b-a) a Ω U Ω).mono fun r ai ⟨aW,cn,bj,bM,cL⟩=>⟨aW,cn.toList,bj,cn,rfl,bM,cL⟩) (by rintro ba ⟨cn,rfl,_,q⟩;simpa using q) (by simp[aP,aK,H.kdata (lk:=cw.toList) (by simpa using aS)]) ?_;rintro ba ⟨cn,rfl,aW,bj⟩;simp;((with_reducible repeat' first|refine ak ?_|simp|((first|apply bN|apply bP|apply bO)<;>intro h<;>try simp at h))<;>(try exact cf));refine bS.whl (k,cn) Ψ ⟨bj,by simp;omega,by rw[<-bX,aW]⟩ (H.weakC aw (by simpa using bj) d6)
 ·obtain rfl:k=0:=Ω
  rw[Sort.heapBuild]at bX;have atj:cw.size=n:=aS;refine H.loopA aw [3,6,7] (fun(x:Nat×Array α)=>[(10,.int .i64 ((x.1:Int)-1))]) (·.2) (fun x=>x.1) (fun x=>x.2.size=n/\x.1<=b-a/\Sort.heapPop lt a x.1 x.2=Sort.heapPop lt a (b-a) cw) (b-a,cw) aS ⟨aS,Ψ,rfl⟩ (by simp[Pv.look]) aL aL (by simp[aK];omega) ?_;rintro⟨k,gg⟩ ⟨h1,xE,hK⟩;simp only at h1 xE hK;simp[Pv.look,H.slc,H.ssc];(with_reducible repeat' first|((first|apply bN|apply bP|apply bO)<;>intro h<;>try simp at h)|refine ak ?_|simp[Pv.look,H.slc,H.ssc])
  ·obtain⟨k,rfl⟩:∃bJ,k=bJ+1:=⟨k-1,Ω⟩;have LJ:(((k+1:Nat):Int)-1)=(k:Nat):=Ω
   have adH:((a:Int)+k)=(a+k:Nat):=Ω
   rw[Sort.heapPop]at hK;simp only[LJ,adH];refine H.swapA h1 U _ _ Ω Ω fun o=>?_;have NJ:(Sort.swp gg a (a+k)).size=n:=by rw[hq,h1]
   simp;simp only[jd H,H.slc,H.ssc,iW];refine H.doFn (lk:=(Sort.swp gg a (a+k)).toList) (by simpa using NJ) (R:=fun ba=> ∃cn,ba=cn.toList/\cn=Sort.siftDown lt k a 0 (Sort.swp gg a (a+k))/\cn.size=n) ((Vr H (Sort.swp gg a (a+k)) NJ 0 k a Ω U Ω).mono fun r ai ⟨aW,cn,bj,bM,cL⟩=>⟨aW,cn.toList,bj,cn,rfl,bM,cL⟩) (by rintro ba ⟨cn,rfl,_,q⟩;simpa using q) (by simp[aP,aK,H.kdata (lk:=(Sort.swp gg a (a+k)).toList) (by simpa using NJ)]) ?_;rintro ba ⟨cn,rfl,aW,bj⟩;simp;((with_reducible repeat' first|refine ak ?_|simp|((first|apply bN|apply bP|apply bO)<;>intro h<;>try simp at h))<;>(try exact cf));refine bS.whl (k,cn) Ψ ⟨bj,by simp;omega,by rw[<-hK,aW]⟩ (H.weakC aw (by simpa using bj) d6)
  ·obtain rfl:k=0:=Ω
   rw[Sort.heapPop]at hK;refine H.retA aw h1 (.inr rfl) ⟨rfl,gg,rfl,?_,h1⟩;rw[Sort.heapSort,<-bX,<-hK]
theorem ahh(H:fo S n g cd lc ca lt)(d:Array α)(aD:d.size=n)(a b:Nat)(oa:a<=b)(ad:b<=n):
  bL aA 187 [fe g cd lc ca,.int .i64 a,.int .i64 b] (S d.toList) fun r ai=>r= .tuple []/\∃cn,ai=S cn.toList/\cn=Sort.insertionSort lt d a b/\cn.size=n:=by
 have af:=H.ok d.toList;have aw:d.toList.length=n:=by simpa using aD
 have au:∀l m,Pv.look (.loc m) (S l).b=none:=fun l=>(H.ok l).obj.1;have hu:∀l m cs,cI (.loc m) cs (S l).b=(S l).b++[(.loc m,cs)]:=fun l m cs=>kR (au l m);have ax:∀m,aM.loc m∉dc (S d.toList):=kM af.obj;have hle:=H.le;refine bL.mk mixed CI Tryz.func187 YT Ψ af.obj fun aR cN=>?_;unfold Lf;simp[fe,hu,ax,cX,au];have pC:((a:Int)+1)=(a+1:Nat):=Ω
 (with_reducible repeat' first|refine ak ?_|simp[hu,ax,cX,au]);rw[pC];refine H.loopA aw [1,2,3] (fun(x:Nat×Array α)=>[(6,.int .i64 x.1)]) (·.2) (fun x=>b+1-x.1) (fun x=>x.2.size=n/\x.1<=b+1/\Sort.insOuter lt a b x.1 x.2=Sort.insertionSort lt d a b) (a+1,d) aD ⟨aD,by simp;omega,rfl⟩ (by simp[cX,au]) aL aL d6 ?_;rintro⟨i,cw⟩ ⟨aS,bh,bX⟩;simp only at aS bh bX;rw[Sort.insOuter]at bX;simp;(with_reducible repeat' first|((first|apply bN|apply bP|apply bO)<;>intro h<;>try simp at h)|refine ak ?_|simp)
 ·rw[if_pos Ω]at bX;refine H.loopA aw [1,2,3,6] (fun(x:Nat×Array α)=>[(7,.int .i64 x.1)]) (·.2) (fun x=>x.1) (fun x=>x.2.size=n/\x.1<=i/\Sort.insInner lt a x.1 x.2=Sort.insInner lt a i cw) (i,cw) aS ⟨aS,Ψ,rfl⟩ (by simp[Pv.look]) aL aL d6 ?_;rintro⟨j,gg⟩ ⟨h1,xE,hK⟩;simp only at h1 xE hK;simp[Pv.look,H.slc,H.ssc];(with_reducible repeat' first|((first|apply bN|apply bP|apply bO)<;>intro h<;>try simp at h)|refine ak ?_|simp[Pv.look,H.slc,H.ssc])
  ·obtain⟨j,rfl⟩:∃dL,j=dL+1:=⟨j-1,Ω⟩;have pD:(((j+1:Nat):Int)-1)=(j:Nat):=Ω
   have ql:((i:Int)+1)=(i+1:Nat):=Ω
   have adK:((j:Int)+1)=(j+1:Nat):=Ω
   rw[Sort.insInner]at hK;have aq:decide (j+1>a)=true:=by simp;omega
   rw[pD];refine H.lessA h1 _ _ Ω Ω fun o=>?_;cases ab:lt gg[j+1]! gg[j]! with
   |true=>rw[if_pos (by rw[aq,ab];rfl)]at hK;simp;(with_reducible repeat' first|refine ak ?_|simp[Pv.look,H.slc,H.ssc]);rw[adK];refine H.swapA h1 Ω _ _ Ω Ω fun o=>?_;simp;(with_reducible repeat' first|refine ak ?_|simp);refine bS.whl (j,Sort.swp gg (j+1) j) Ψ ⟨by rw[hq,h1],by simp;omega,hK⟩ (H.weakC aw (by simp[hq,h1]) d6)
   |false=>rw[if_neg (by simp[ab])]at hK;simp;((with_reducible repeat' first|refine ak ?_|simp|((first|apply bN|apply bP|apply bO)<;>intro h<;>try simp at h))<;>(try exact cf));rw[ql];refine bS.whl (i+1,gg) d7 ⟨h1,by simp;omega,by rw[<-bX,<-hK]⟩ (H.weakC aw (by simpa using h1) d6)
  ·have ql:((i:Int)+1)=(i+1:Nat):=Ω
   have zm:Sort.insInner lt a j gg=gg:=by
    cases j with
    |zero=>rfl
    |succ j=>rw[Sort.insInner,if_neg d7]
   rw[ql];refine bS.whl (i+1,gg) d7 ⟨h1,by simp;omega,by rw[<-bX,<-hK,zm]⟩ (H.weakC aw (by simpa using h1) d6)
 ·rw[if_neg Ω]at bX;exact H.retA aw aS (.inr rfl) ⟨rfl,cw,rfl,bX,aS⟩
end
section
open Go Go.Pv
variable {α:Type} [Inhabited α] {S:List α->cU} {n g cd:Nat} {lc ca:List aj} {lt:α->α->Bool}
theorem wJ{p:α->Bool}{d:Array α}{i j:Nat}(h:¬(i<=j/\p d[j]! =true)):Sort.scanDown p d i j=j:=by
 cases j with
 |zero=>rfl
 |succ j=>rw[Sort.scanDown,if_neg (by simpa using h)]
theorem CA{p:α->Bool}{d:Array α}{i j:Nat}(h:¬(i<=j/\p d[i]! =true)):Sort.scanUp p d j i=i:=by rw[Sort.scanUp,if_neg (by simpa using h)]
theorem P0{p:α->Bool}{d:Array α}{i j:Nat}(I:i<=j)(U:p d[i]! =true):Sort.scanUp p d j i=Sort.scanUp p d j (i+1):=by rw[Sort.scanUp,if_pos (by simp[I,U])]
theorem PZ{p:α->Bool}{d:Array α}{i j:Nat}(I:i<=j+1)(U:p d[j+1]! =true):Sort.scanDown p d i (j+1)=Sort.scanDown p d i j:=by rw[Sort.scanDown,if_pos (by simp[I,U])]
theorem ahr(H:fo S n g cd lc ca lt)(d:Array α)(aD:d.size=n)(a b pivot:Nat)(sM:a<=pivot)(ajo:pivot<b)(oa:a+1<b)(ad:b<=n):
  bL aA 202 [fe g cd lc ca,.int .i64 a,.int .i64 b,.int .i64 pivot] (S d.toList) fun r ai=>r= .tuple [.int .i64 (Sort.partition lt d a b pivot).1,.bool (Sort.partition lt d a b pivot).2.1]/\∃cn,ai=S cn.toList/\cn=(Sort.partition lt d a b pivot).2.2/\cn.size=n:=by
 obtain⟨R,bI⟩:∃R,R=Sort.partition lt d a b pivot:=⟨_,rfl⟩;rw[<-bI];unfold Sort.partition at bI;have af:=H.ok d.toList;have aw:d.toList.length=n:=by simpa using aD
 have au:∀l m,Pv.look (.loc m) (S l).b=none:=fun l=>(H.ok l).obj.1;have hu:∀l m cs,cI (.loc m) cs (S l).b=(S l).b++[(.loc m,cs)]:=fun l m cs=>kR (au l m);have ax:∀m,aM.loc m∉dc (S d.toList):=kM af.obj;have hle:=H.le;refine bL.mk mixed pc Tryz.func202 amP Ψ af.obj fun aR cN=>?_;unfold S4;simp[fe,hu,ax,cX,au];rw[H.ssc];refine H.swapA0 aD Ω a pivot Ω Ω fun o=>?_;obtain⟨d1,fF⟩:∃d1,d1=Sort.swp d a pivot:=⟨_,rfl⟩;have s1:d1.size=n:=by rw[fF,hq,aD]
 rw[<-fF];simp only[<-fF]at bI;have ar:((a:Int)+1)=(a+1:Nat):=Ω
 have aE:((b:Int)-1)=(b-1:Nat):=Ω
 simp;(with_reducible repeat' first|refine ak ?_|simp);rw[ar,aE];refine H.loopA aw [1,4,11] (fun(i:Nat)=>[(10,.int .i64 i)]) (fun _=>d1) (fun i=>b+1-i) (fun i=>a+1<=i/\i<=b/\Sort.scanUp (fun x=>lt x d1[a]!) d1 (b-1) i=Sort.scanUp (fun x=>lt x d1[a]!) d1 (b-1) (a+1)) (a+1) s1 ⟨Ω,Ω,rfl⟩ (by simp[Pv.look]) aL aL d6 ?_;rintro i ⟨i1,i2,i3⟩;simp[Pv.look,H.slc];((with_reducible repeat' first|refine ak ?_|simp[Pv.look,H.slc]|((first|apply bN|apply bP|apply bO)<;>intro h<;>try simp at h))<;>(try exact cf));refine H.lessA s1 i a Ω Ω fun o=>?_;cases ab:lt d1[i]! d1[a]!;rotate_left
 ·have ql:((i:Int)+1)=(i+1:Nat):=Ω
  simp;(with_reducible repeat' first|refine ak ?_|simp);rw[ql];refine bS.whl (i+1) Ω ⟨Ω,Ω,by rw[<-i3];exact(P0 (p:=fun x=>lt x d1[a]!) Ω ab).symm⟩ (H.weakC aw (by simpa using s1) d6)
 rotate_left
 ·have i4:Sort.scanUp (fun x=>lt x d1[a]!) d1 (b-1) i=i:=CA (by simp[ab]);rw[i4]at i3;rw[<-i3]at bI;simp;refine H.loopA aw [1,4,10] (fun(j:Nat)=>[(11,.int .i64 j)]) (fun _=>d1) (fun j=>j) (fun j=>i<=j+1/\j<=b-1/\Sort.scanDown (fun x=> !lt x d1[a]!) d1 i j=Sort.scanDown (fun x=> !lt x d1[a]!) d1 i (b-1)) (b-1) s1 ⟨Ω,Ω,rfl⟩ (by simp[Pv.look]) aL aL d6 ?_;rintro j ⟨h1,xE,hK⟩;simp[Pv.look,H.slc];((with_reducible repeat' first|refine ak ?_|simp[Pv.look,H.slc,H.ssc]|((first|apply bN|apply bP|apply bO)<;>intro h<;>try simp at h))<;>(try exact cf))
  ·refine H.lessA s1 j a Ω Ω fun o=>?_;cases aB:lt d1[j]! d1[a]!
   ·obtain⟨j,rfl⟩:∃dL,j=dL+1:=⟨j-1,Ω⟩;have pD:(((j+1:Nat):Int)-1)=(j:Nat):=Ω
    simp;(with_reducible repeat' first|refine ak ?_|simp);try rw[pD]
    refine bS.whl j Ω ⟨Ω,Ω,by rw[<-hK];exact(PZ (p:=fun x=> !lt x d1[a]!) Ω (by simp[aB])).symm⟩ (H.weakC aw (by simpa using s1) d6)
   ·have zm:Sort.scanDown (fun x=> !lt x d1[a]!) d1 i j=j:=wJ (by simp[aB]);have cG:i≠j:=fun e=>by subst e;rw[ab]at aB;cases aB
    rw[zm]at hK;rw[<-hK,if_neg Ω]at bI;simp;((with_reducible repeat' first|refine ak ?_|simp[Pv.look,H.slc,H.ssc]|((first|apply bN|apply bP|apply bO)<;>intro h<;>try simp at h))<;>(try exact cf));refine H.swapA s1 Ω i j Ω Ω fun o=>?_;obtain⟨d2,e5⟩:∃d2,d2=Sort.swp d1 i j:=⟨_,rfl⟩;have s2:d2.size=n:=by rw[e5,hq,s1]
    rw[<-e5];rw[<-e5]at bI;have bA:((i:Int)+1)=(i+1:Nat):=Ω
    have dr:((j:Int)-1)=(j-1:Nat):=Ω
    simp;(with_reducible repeat' first|refine ak ?_|simp);rw[bA,dr];refine H.loopA aw [1,4] (fun(x:(Nat×Nat)×Array α)=>[(10,.int .i64 x.1.1),(11,.int .i64 x.1.2)]) (·.2) (fun x=>x.1.2+1-x.1.1) (fun x=>x.2.size=n/\(a+1<=x.1.1/\x.1.1<=x.1.2+1/\x.1.2<=b-1)/\Sort.partLoop lt a x.1.1 x.1.2 x.2=Sort.partLoop lt a (i+1) (j-1) d2) ((i+1,j-1),d2) s2 ⟨s2,⟨by simp;omega,by simp;omega,by simp;omega⟩,rfl⟩ (by simp[Pv.look]) aL aL d6 ?_;rintro⟨⟨xD,dL⟩,cw⟩ ⟨aS,⟨bh,bX,ed⟩,dn⟩;simp only at aS bh bX ed dn;rw[Sort.partLoop]at dn;generalize hI:Sort.partLoop lt a (i+1) (j-1) d2=G at dn bI;simp;refine H.loopA aw [1,4,11] (fun(x:Nat)=>[(10,.int .i64 x)]) (fun _=>cw) (fun x=>b+1-x) (fun x=>xD<=x/\x<=dL+1/\Sort.scanUp (fun x=>lt x cw[a]!) cw dL x=Sort.scanUp (fun x=>lt x cw[a]!) cw dL xD) xD aS ⟨Ω,Ω,rfl⟩ (by simp[Pv.look]) aL aL d6 ?_;rintro p ⟨cT,dm,iO⟩;simp[Pv.look,H.slc];((with_reducible repeat' first|refine ak ?_|simp[Pv.look,H.slc]|((first|apply bN|apply bP|apply bO)<;>intro h<;>try simp at h))<;>(try exact cf))
    ·refine H.lessA aS p a Ω Ω fun o=>?_;cases iZ:lt cw[p]! cw[a]!;rotate_left
     ·have ql:((p:Int)+1)=(p+1:Nat):=Ω
      simp;(with_reducible repeat' first|refine ak ?_|simp);rw[ql];refine bS.whl (p+1) Ω ⟨Ω,Ω,by rw[<-iO];exact(P0 (p:=fun x=>lt x cw[a]!) Ω iZ).symm⟩ (H.weakC aw (by simpa using aS) d6)
     ·have ts:Sort.scanUp (fun x=>lt x cw[a]!) cw dL p=p:=CA (by simp[iZ]);rw[ts]at iO;simp only[<-iO]at dn;simp;refine H.loopA aw [1,4,10] (fun(x:Nat)=>[(11,.int .i64 x)]) (fun _=>cw) (fun x=>x) (fun x=>p<=x+1/\x<=dL/\Sort.scanDown (fun x=> !lt x cw[a]!) cw p x=Sort.scanDown (fun x=> !lt x cw[a]!) cw p dL) dL aS ⟨Ω,Ω,rfl⟩ (by simp[Pv.look]) aL aL d6 ?_;rintro q ⟨aW,bj,bM⟩;simp[Pv.look,H.slc];((with_reducible repeat' first|refine ak ?_|simp[Pv.look,H.slc,H.ssc]|((first|apply bN|apply bP|apply bO)<;>intro h<;>try simp at h))<;>(try exact cf))
      ·refine H.lessA aS q a Ω Ω fun o=>?_;cases s7:lt cw[q]! cw[a]!
       ·obtain⟨q,rfl⟩:∃dL,q=dL+1:=⟨q-1,Ω⟩;have pD:(((q+1:Nat):Int)-1)=(q:Nat):=Ω
        simp;(with_reducible repeat' first|refine ak ?_|simp);try rw[pD]
        refine bS.whl q Ω ⟨Ω,Ω,by rw[<-bM];exact(PZ (p:=fun x=> !lt x cw[a]!) Ω (by simp[s7])).symm⟩ (H.weakC aw (by simpa using aS) d6)
       ·have cL:Sort.scanDown (fun x=> !lt x cw[a]!) cw p q=q:=wJ (by simp[s7]);have cG:p≠q:=fun e=>by subst e;rw[iZ]at s7;cases s7
        rw[cL]at bM;simp only[<-bM]at dn;rw[if_neg Ω,dif_pos Ω]at dn;simp;((with_reducible repeat' first|refine ak ?_|simp[Pv.look,H.slc,H.ssc]|((first|apply bN|apply bP|apply bO)<;>intro h<;>try simp at h))<;>(try exact cf));refine H.swapA aS Ω p q Ω Ω fun o=>?_;have iw:((p:Int)+1)=(p+1:Nat):=Ω
        have ix:((q:Int)-1)=(q-1:Nat):=Ω
        simp;(with_reducible repeat' first|((first|apply bN|apply bP|apply bO)<;>intro h<;>try simp at h)|refine ak ?_|simp);rw[iw,ix];refine bS.whl ((p+1,q-1),Sort.swp cw p q) d7 ⟨by rw[hq,aS],⟨by simp;omega,by simp;omega,by simp;omega⟩,dn⟩ (H.weakC aw (by simp[hq,aS]) d6)
      ·have cL:Sort.scanDown (fun x=> !lt x cw[a]!) cw p q=q:=wJ Ω;rw[cL]at bM;simp only[<-bM]at dn;rw[if_pos Ω]at dn;rw[<-dn]at bI;refine H.swapA aS Ω q a Ω Ω fun o=>?_;simp;refine H.retR aw (d:=Sort.swp cw q a) (by rw[hq,aS]) (.inl rfl) ?_;simp[cV,aY,a6,aX];rw[bI];exact⟨⟨rfl,rfl⟩,_,rfl,rfl,by rw[hq,aS]⟩
    ·have ts:Sort.scanUp (fun x=>lt x cw[a]!) cw dL p=p:=CA Ω;rw[ts]at iO;simp only[<-iO]at dn;have cL:Sort.scanDown (fun x=> !lt x cw[a]!) cw p dL=dL:=wJ Ω;rw[cL,if_pos Ω]at dn;rw[<-dn]at bI;refine H.loopA aw [1,4,10] (fun(x:Nat)=>[(11,.int .i64 x)]) (fun _=>cw) (fun x=>x) (fun x=>x=dL) dL aS rfl (by simp[Pv.look]) aL aL d6 ?_;rintro q rfl;simp[Pv.look,H.slc];((with_reducible repeat' first|refine ak ?_|simp[Pv.look,H.slc,H.ssc]|((first|apply bN|apply bP|apply bO)<;>intro h<;>try simp at h))<;>(try exact cf));refine H.swapA aS Ω q a Ω Ω fun o=>?_;simp;refine H.retR aw (d:=Sort.swp cw q a) (by rw[hq,aS]) (.inl rfl) ?_;simp[cV,aY,a6,aX];rw[bI];exact⟨⟨rfl,rfl⟩,_,rfl,rfl,by rw[hq,aS]⟩
  ·have zm:Sort.scanDown (fun x=> !lt x d1[a]!) d1 i j=j:=wJ Ω;rw[zm]at hK;rw[<-hK,if_pos Ω]at bI;refine H.swapA s1 Ω j a Ω Ω fun o=>?_;simp;refine H.retR aw (d:=Sort.swp d1 j a) (by rw[hq,s1]) (.inl rfl) ?_;simp[cV,aY,a6,aX];rw[bI];exact⟨⟨rfl,rfl⟩,_,rfl,rfl,by rw[hq,s1]⟩
 ·have i4:Sort.scanUp (fun x=>lt x d1[a]!) d1 (b-1) i=i:=CA Ω;rw[i4]at i3;have zm:Sort.scanDown (fun x=> !lt x d1[a]!) d1 i (b-1)=b-1:=wJ Ω;rw[<-i3,zm,if_pos Ω]at bI;refine H.loopA aw [1,4,10] (fun(j:Nat)=>[(11,.int .i64 j)]) (fun _=>d1) (fun j=>j) (fun j=>j=b-1) (b-1) s1 rfl (by simp[Pv.look]) aL aL d6 ?_;rintro j rfl;simp[Pv.look,H.slc];((with_reducible repeat' first|refine ak ?_|simp[Pv.look,H.slc,H.ssc]|((first|apply bN|apply bP|apply bO)<;>intro h<;>try simp at h))<;>(try exact cf));refine H.swapA s1 Ω (b-1) a Ω Ω fun o=>?_;simp;refine H.retR aw (d:=Sort.swp d1 (b-1) a) (by rw[hq,s1]) (.inl rfl) ?_;simp[cV,aY,a6,aX];rw[bI];exact⟨⟨rfl,rfl⟩,_,rfl,rfl,by rw[hq,s1]⟩
end
section
open Go Go.Pv
variable {α:Type} [Inhabited α] {S:List α->cU} {n g cd:Nat} {lc ca:List aj} {lt:α->α->Bool}
theorem ahs(H:fo S n g cd lc ca lt)(d:Array α)(aD:d.size=n)(a b pivot:Nat)(sM:a<=pivot)(ajo:pivot<b)(oa:a+1<b)(ad:b<=n):
  bL aA 201 [fe g cd lc ca,.int .i64 a,.int .i64 b,.int .i64 pivot] (S d.toList) fun r ai=>r= .int .i64 (Sort.partitionEqual lt d a b pivot).1/\∃cn,ai=S cn.toList/\cn=(Sort.partitionEqual lt d a b pivot).2/\cn.size=n:=by
 obtain⟨R,bI⟩:∃R,R=Sort.partitionEqual lt d a b pivot:=⟨_,rfl⟩;rw[<-bI];unfold Sort.partitionEqual at bI;have af:=H.ok d.toList;have aw:d.toList.length=n:=by simpa using aD
 have au:∀l m,Pv.look (.loc m) (S l).b=none:=fun l=>(H.ok l).obj.1;have hu:∀l m cs,cI (.loc m) cs (S l).b=(S l).b++[(.loc m,cs)]:=fun l m cs=>kR (au l m);have ax:∀m,aM.loc m∉dc (S d.toList):=kM af.obj;have hle:=H.le;refine bL.mk mixed pc Tryz.func201 amO Ψ af.obj fun aR cN=>?_;unfold S3;simp[fe,hu,ax,cX,au];rw[H.ssc];refine H.swapA0 aD Ω a pivot Ω Ω fun o=>?_;obtain⟨d1,fF⟩:∃d1,d1=Sort.swp d a pivot:=⟨_,rfl⟩;have s1:d1.size=n:=by rw[fF,hq,aD]
 rw[<-fF];rw[<-fF]at bI;have ar:((a:Int)+1)=(a+1:Nat):=Ω
 have aE:((b:Int)-1)=(b-1:Nat):=Ω
 simp;(with_reducible repeat' first|refine ak ?_|simp);rw[ar,aE];refine H.loopA aw [1,4] (fun(x:(Nat×Nat)×Array α)=>[(9,.int .i64 x.1.1),(10,.int .i64 x.1.2)]) (·.2) (fun x=>x.1.2+1-x.1.1) (fun x=>x.2.size=n/\(a+1<=x.1.1/\x.1.1<=x.1.2+1/\x.1.2<=b-1)/\Sort.partEqLoop lt a x.1.1 x.1.2 x.2=R) ((a+1,b-1),d1) s1 ⟨s1,⟨Ψ,by simp;omega,Ψ⟩,bI.symm⟩ (by simp[Pv.look]) aL aL d6 ?_;rintro⟨⟨xD,dL⟩,cw⟩ ⟨aS,⟨bh,bX,ed⟩,dn⟩;simp only at aS bh bX ed dn;rw[Sort.partEqLoop]at dn;simp;refine H.loopA aw [1,4,10] (fun(x:Nat)=>[(9,.int .i64 x)]) (fun _=>cw) (fun x=>b+1-x) (fun x=>xD<=x/\x<=dL+1/\Sort.scanUp (fun x=> !lt cw[a]! x) cw dL x=Sort.scanUp (fun x=> !lt cw[a]! x) cw dL xD) xD aS ⟨Ω,Ω,rfl⟩ (by simp[Pv.look]) aL aL d6 ?_;rintro p ⟨cT,dm,iO⟩;simp[Pv.look,H.slc];((with_reducible repeat' first|refine ak ?_|simp[Pv.look,H.slc]|((first|apply bN|apply bP|apply bO)<;>intro h<;>try simp at h))<;>(try exact cf))
 ·refine H.lessA aS a p Ω Ω fun o=>?_;cases iZ:lt cw[a]! cw[p]!
  ·have ql:((p:Int)+1)=(p+1:Nat):=Ω
   simp;(with_reducible repeat' first|refine ak ?_|simp);rw[ql];refine bS.whl (p+1) Ω ⟨Ω,Ω,by rw[<-iO];exact(P0 (p:=fun x=> !lt cw[a]! x) Ω (by simp[iZ])).symm⟩ (H.weakC aw (by simpa using aS) d6)
  ·have ts:Sort.scanUp (fun x=> !lt cw[a]! x) cw dL p=p:=CA (by simp[iZ]);rw[ts]at iO;simp only[<-iO]at dn;simp;refine H.loopA aw [1,4,9] (fun(x:Nat)=>[(10,.int .i64 x)]) (fun _=>cw) (fun x=>x) (fun x=>p<=x+1/\x<=dL/\Sort.scanDown (fun x=>lt cw[a]! x) cw p x=Sort.scanDown (fun x=>lt cw[a]! x) cw p dL) dL aS ⟨Ω,Ω,rfl⟩ (by simp[Pv.look]) aL aL d6 ?_;rintro q ⟨aW,bj,bM⟩;simp[Pv.look,H.slc];((with_reducible repeat' first|refine ak ?_|simp[Pv.look,H.slc,H.ssc]|((first|apply bN|apply bP|apply bO)<;>intro h<;>try simp at h))<;>(try exact cf))
   ·refine H.lessA aS a q Ω Ω fun o=>?_;cases s7:lt cw[a]! cw[q]!;rotate_left
    ·obtain⟨q,rfl⟩:∃dL,q=dL+1:=⟨q-1,Ω⟩;have pD:(((q+1:Nat):Int)-1)=(q:Nat):=Ω
     simp;(with_reducible repeat' first|refine ak ?_|simp);try rw[pD]
     refine bS.whl q Ω ⟨Ω,Ω,by rw[<-bM];exact(PZ (p:=fun x=>lt cw[a]! x) Ω (by simp[s7])).symm⟩ (H.weakC aw (by simpa using aS) d6)
    ·have cL:Sort.scanDown (fun x=>lt cw[a]! x) cw p q=q:=wJ (by simp[s7]);have cG:p≠q:=fun e=>by subst e;rw[iZ]at s7;cases s7
     rw[cL]at bM;simp only[<-bM]at dn;rw[if_neg Ω,dif_pos Ω]at dn;simp;((with_reducible repeat' first|refine ak ?_|simp[Pv.look,H.slc,H.ssc]|((first|apply bN|apply bP|apply bO)<;>intro h<;>try simp at h))<;>(try exact cf));refine H.swapA aS Ω p q Ω Ω fun o=>?_;have iw:((p:Int)+1)=(p+1:Nat):=Ω
     have ix:((q:Int)-1)=(q-1:Nat):=Ω
     simp;(with_reducible repeat' first|((first|apply bN|apply bP|apply bO)<;>intro h<;>try simp at h)|refine ak ?_|simp);rw[iw,ix];refine bS.whl ((p+1,q-1),Sort.swp cw p q) d7 ⟨by rw[hq,aS],⟨by simp;omega,by simp;omega,by simp;omega⟩,dn⟩ (H.weakC aw (by simp[hq,aS]) d6)
   ·have cL:Sort.scanDown (fun x=>lt cw[a]! x) cw p q=q:=wJ Ω;rw[cL]at bM;simp only[<-bM]at dn;rw[if_pos Ω]at dn;refine H.retR aw (d:=cw) aS (.inl rfl) ?_;simp[cV,aY,a6,aX];rw[<-dn];exact⟨rfl,_,rfl,rfl,aS⟩
 ·have ts:Sort.scanUp (fun x=> !lt cw[a]! x) cw dL p=p:=CA Ω;rw[ts]at iO;simp only[<-iO]at dn;have cL:Sort.scanDown (fun x=>lt cw[a]! x) cw p dL=dL:=wJ Ω;rw[cL,if_pos Ω]at dn;refine H.loopA aw [1,4,9] (fun(x:Nat)=>[(10,.int .i64 x)]) (fun _=>cw) (fun x=>x) (fun x=>x=dL) dL aS rfl (by simp[Pv.look]) aL aL d6 ?_;rintro q rfl;simp[Pv.look,H.slc];((with_reducible repeat' first|refine ak ?_|simp[Pv.look,H.slc,H.ssc]|((first|apply bN|apply bP|apply bO)<;>intro h<;>try simp at h))<;>(try exact cf));refine H.retR aw (d:=cw) aS (.inl rfl) ?_;simp[cV,aY,a6,aX];rw[<-dn];exact⟨rfl,_,rfl,rfl,aS⟩
end
section
open Go Go.Pv
variable {α:Type} [Inhabited α] {S:List α->cU} {n g cd:Nat} {lc ca:List aj} {lt:α->α->Bool}
theorem ahq(H:fo S n g cd lc ca lt)(d:Array α)(aD:d.size=n)(a b:Nat)(oa:a<b)(ad:b<=n)(U:2<=n):
  bL aA 200 [fe g cd lc ca,.int .i64 a,.int .i64 b] (S d.toList) fun r ai=>r= .bool (Sort.partialInsertionSort lt d a b).2/\∃cn,ai=S cn.toList/\cn=(Sort.partialInsertionSort lt d a b).1/\cn.size=n:=by
 obtain⟨R,bI⟩:∃R,R=Sort.partialInsertionSort lt d a b:=⟨_,rfl⟩;rw[<-bI];unfold Sort.partialInsertionSort at bI;have af:=H.ok d.toList;have aw:d.toList.length=n:=by simpa using aD
 have au:∀l m,Pv.look (.loc m) (S l).b=none:=fun l=>(H.ok l).obj.1;have hu:∀l m cs,cI (.loc m) cs (S l).b=(S l).b++[(.loc m,cs)]:=fun l m cs=>kR (au l m);have ax:∀m,aM.loc m∉dc (S d.toList):=kM af.obj;have hle:=H.le;refine bL.mk mixed pc Tryz.func200 amN Ψ af.obj fun aR cN=>?_;unfold S2;simp[fe,hu,ax,cX,au];have ar:((a:Int)+1)=(a+1:Nat):=Ω
 (with_reducible repeat' first|refine ak ?_|simp);rw[ar];refine H.loopA aw [1,2,3] (fun(x:(Nat×Nat)×Array α)=>[(7,.int .i64 x.1.1),(8,.int .i64 x.1.2)]) (·.2) (fun x=>5-x.1.2) (fun x=>x.2.size=n/\(a+1<=x.1.1/\x.1.1<=b/\x.1.2<=5)/\Sort.partialIns lt a b (5-x.1.2) x.1.1 x.2=R) ((a+1,0),d) aD ⟨aD,⟨Ψ,by simp;omega,Ψ⟩,bI.symm⟩ (by simp[cX,au]) aL aL d6 ?_;rintro⟨⟨i0,s⟩,cw⟩ ⟨aS,⟨bh,bX,ed⟩,dn⟩;simp only at aS bh bX ed dn;simp;((with_reducible repeat' first|refine ak ?_|simp|((first|apply bN|apply bP|apply bO)<;>intro h<;>try simp at h))<;>(try exact cf))
 ·obtain⟨m,hm⟩:∃m,5-s=m+1:=⟨5-s-1,Ω⟩;rw[hm,Sort.partialIns]at dn;refine H.loopA aw [1,2,3,8] (fun(x:Nat)=>[(7,.int .i64 x)]) (fun _=>cw) (fun x=>b-x) (fun x=>i0<=x/\x<=b/\Sort.scanSorted lt cw b x=Sort.scanSorted lt cw b i0) i0 aS ⟨Ω,Ω,rfl⟩ (by simp[Pv.look]) aL aL d6 ?_;rintro i ⟨i1,i2,i3⟩;rw[Sort.scanSorted]at i3;have ql:((i:Int)+1)=(i+1:Nat):=Ω
  have Ha:((i:Int)-1)=(i-1:Nat):=Ω
  have es:((s:Int)+1)=(s+1:Nat):=Ω
  have em:5-(s+1)=m:=Ω
  simp[Pv.look,H.slc];((with_reducible repeat' first|refine ak ?_|simp[Pv.look,H.slc]|((first|apply bN|apply bP|apply bO)<;>intro h<;>try simp at h))<;>(try exact cf))
  ·rw[Ha];refine H.lessA aS i (i-1) Ω Ω fun o=>?_;cases ab:lt cw[i]! cw[i-1]!
   ·rw[if_pos (by simp[ab];omega)]at i3;simp;(with_reducible repeat' first|refine ak ?_|simp);rw[ql];refine bS.whl (i+1) Ω ⟨Ω,Ω,i3⟩ (H.weakC aw (by simpa using aS) d6)
   ·rw[if_neg (by simp[ab])]at i3;simp only[<-i3]at dn;rw[if_neg Ω]at dn;have Bg:(i:Int)≠b:=Ω
    have aiJ:((i:Int)==b)=false:=by simp;omega
    simp;((with_reducible repeat' first|refine ak ?_|simp[Bg,aiJ,Pv.look,H.slc,H.ssc]|((first|apply bN|apply bP|apply bO)<;>intro h<;>try simp at h))<;>(try exact cf))
    ·rw[if_pos Ω]at dn;refine H.retR aw (d:=cw) aS (.inl rfl) ?_;simp[cV,aY,a6,aX];rw[<-dn];exact⟨rfl,_,rfl,rfl,aS⟩
    ·rw[if_neg Ω]at dn;rw[Ha];refine H.swapA aS U i (i-1) Ω Ω fun o=>?_;obtain⟨d2,e5⟩:∃d2,d2=Sort.swp cw i (i-1):=⟨_,rfl⟩;have s2:d2.size=n:=by rw[e5,hq,aS]
     rw[<-e5];simp only[<-e5]at dn;by_cases mC:2<=b-i
     ·rw[if_pos mC]at dn;have uF:(2:Int)<=(b:Int)-i:=Ω
      by_cases DW:2<=i-a
      ·rw[if_pos DW]at dn;have yY:(2:Int)<=(i:Int)-a:=Ω
       simp;(with_reducible repeat' first|refine ak ?_|simp[yY]);rw[Ha];refine H.loopA aw [1,2,3,7,8] (fun(x:Nat×Array α)=>[(9,.int .i64 x.1)]) (·.2) (fun x=>x.1) (fun x=>x.2.size=n/\x.1<=i-1/\Sort.shiftDown lt x.1 x.2=Sort.shiftDown lt (i-1) d2) (i-1,d2) s2 ⟨s2,Ψ,rfl⟩ (by simp[Pv.look]) aL aL d6 ?_;rintro⟨j,gg⟩ ⟨h1,xE,hK⟩;simp only at h1 xE hK;simp[Pv.look,H.slc,H.ssc];((with_reducible repeat' first|refine ak ?_|simp[Pv.look,H.slc,H.ssc,uF]|((first|apply bN|apply bP|apply bO)<;>intro h<;>try simp at h))<;>(try exact cf))
       ·obtain⟨j,rfl⟩:∃dL,j=dL+1:=⟨j-1,Ω⟩;have pD:(((j+1:Nat):Int)-1)=(j:Nat):=Ω
        rw[Sort.shiftDown]at hK;try rw[pD]
        refine H.lessA h1 (j+1) j Ω Ω fun o=>?_;cases aB:lt gg[j+1]! gg[j]!
        ·rw[if_pos (by simp[aB])]at hK;rw[<-hK]at dn;try simp
         try(with_reducible repeat' first|refine ak ?_|simp[Pv.look,H.slc,H.ssc,uF])
         rw[ql];refine H.loopA aw [1,2,3,7,8] (fun(x:Nat×Array α)=>[(10,.int .i64 x.1)]) (·.2) (fun x=>b-x.1) (fun x=>x.2.size=n/\(i+1<=x.1/\x.1<=b)/\Sort.shiftUp lt b x.1 x.2=Sort.shiftUp lt b (i+1) gg) (i+1,gg) h1 ⟨h1,⟨Ψ,by simp;omega⟩,rfl⟩ (by simp[Pv.look]) aL aL d6 ?_;rintro⟨q,n1⟩ ⟨aW,⟨bj,zK⟩,bM⟩;simp only at aW bj zK bM;rw[Sort.shiftUp]at bM;have eq:((q:Int)-1)=(q-1:Nat):=Ω
         have Dq:((q:Int)+1)=(q+1:Nat):=Ω
         simp[Pv.look,H.slc,H.ssc];((with_reducible repeat' first|refine ak ?_|simp[Pv.look,H.slc,H.ssc]|((first|apply bN|apply bP|apply bO)<;>intro h<;>try simp at h))<;>(try exact cf))
         ·rw[if_pos Ω]at bM;rw[eq];refine H.lessA aW q (q-1) Ω Ω fun o=>?_;cases a8:lt n1[q]! n1[q-1]!
          ·rw[if_pos (by simp[a8])]at bM;rw[<-bM]at dn;simp;(with_reducible repeat' first|refine ak ?_|simp);rw[es];refine bS.whl ((i,s+1),n1) d7 ⟨aW,⟨by simp;omega,by simp;omega,by simp;omega⟩,by simp only[em];exact dn⟩ (H.weakC aw (by simpa using aW) d6)
          ·rw[if_neg (by simp[a8])]at bM;simp;(with_reducible repeat' first|refine ak ?_|simp[Pv.look,H.slc,H.ssc]);rw[eq];refine H.swapA aW Ω q (q-1) Ω Ω fun o=>?_;simp;((with_reducible repeat' first|refine ak ?_|simp|((first|apply bN|apply bP|apply bO)<;>intro h<;>try simp at h))<;>(try exact cf));rw[Dq];refine bS.whl (q+1,Sort.swp n1 q (q-1)) d7 ⟨by rw[hq,aW],⟨by simp;omega,by simp;omega⟩,bM⟩ (H.weakC aw (by simp[hq,aW]) d6)
         ·rw[if_neg Ω]at bM;rw[<-bM]at dn;rw[es];refine bS.whl ((i,s+1),n1) d7 ⟨aW,⟨by simp;omega,by simp;omega,by simp;omega⟩,by simp only[em];exact dn⟩ (H.weakC aw (by simpa using aW) d6)
        ·rw[if_neg (by simp[aB])]at hK;simp;(with_reducible repeat' first|refine ak ?_|simp[Pv.look,H.slc,H.ssc]);try rw[pD]
         refine H.swapA h1 U (j+1) j Ω Ω fun o=>?_;simp;((with_reducible repeat' first|refine ak ?_|simp|((first|apply bN|apply bP|apply bO)<;>intro h<;>try simp at h))<;>(try exact cf));try rw[pD]
         refine bS.whl (j,Sort.swp gg (j+1) j) Ψ ⟨by rw[hq,h1],by simp;omega,hK⟩ (H.weakC aw (by simp[hq,h1]) d6)
       ·obtain rfl:j=0:=Ω
        rw[Sort.shiftDown]at hK;rw[<-hK]at dn;try simp
        try(with_reducible repeat' first|refine ak ?_|simp[Pv.look,H.slc,H.ssc,uF])
        rw[ql];refine H.loopA aw [1,2,3,7,8] (fun(x:Nat×Array α)=>[(10,.int .i64 x.1)]) (·.2) (fun x=>b-x.1) (fun x=>x.2.size=n/\(i+1<=x.1/\x.1<=b)/\Sort.shiftUp lt b x.1 x.2=Sort.shiftUp lt b (i+1) gg) (i+1,gg) h1 ⟨h1,⟨Ψ,by simp;omega⟩,rfl⟩ (by simp[Pv.look]) aL aL d6 ?_;rintro⟨q,n1⟩ ⟨aW,⟨bj,zK⟩,bM⟩;simp only at aW bj zK bM;rw[Sort.shiftUp]at bM;have eq:((q:Int)-1)=(q-1:Nat):=Ω
        have Dq:((q:Int)+1)=(q+1:Nat):=Ω
        simp[Pv.look,H.slc,H.ssc];((with_reducible repeat' first|refine ak ?_|simp[Pv.look,H.slc,H.ssc]|((first|apply bN|apply bP|apply bO)<;>intro h<;>try simp at h))<;>(try exact cf))
        ·rw[if_pos Ω]at bM;rw[eq];refine H.lessA aW q (q-1) Ω Ω fun o=>?_;cases a8:lt n1[q]! n1[q-1]!
         ·rw[if_pos (by simp[a8])]at bM;rw[<-bM]at dn;simp;(with_reducible repeat' first|refine ak ?_|simp);rw[es];refine bS.whl ((i,s+1),n1) d7 ⟨aW,⟨by simp;omega,by simp;omega,by simp;omega⟩,by simp only[em];exact dn⟩ (H.weakC aw (by simpa using aW) d6)
         ·rw[if_neg (by simp[a8])]at bM;simp;(with_reducible repeat' first|refine ak ?_|simp[Pv.look,H.slc,H.ssc]);rw[eq];refine H.swapA aW Ω q (q-1) Ω Ω fun o=>?_;simp;((with_reducible repeat' first|refine ak ?_|simp|((first|apply bN|apply bP|apply bO)<;>intro h<;>try simp at h))<;>(try exact cf));rw[Dq];refine bS.whl (q+1,Sort.swp n1 q (q-1)) d7 ⟨by rw[hq,aW],⟨by simp;omega,by simp;omega⟩,bM⟩ (H.weakC aw (by simp[hq,aW]) d6)
        ·rw[if_neg Ω]at bM;rw[<-bM]at dn;rw[es];refine bS.whl ((i,s+1),n1) d7 ⟨aW,⟨by simp;omega,by simp;omega,by simp;omega⟩,by simp only[em];exact dn⟩ (H.weakC aw (by simpa using aW) d6)
      ·rw[if_neg DW]at dn;have yY:¬(2:Int)<=(i:Int)-a:=Ω
       simp;(with_reducible repeat' first|refine ak ?_|simp[yY,uF]);try simp
       try(with_reducible repeat' first|refine ak ?_|simp[Pv.look,H.slc,H.ssc,uF])
       rw[ql];refine H.loopA aw [1,2,3,7,8] (fun(x:Nat×Array α)=>[(10,.int .i64 x.1)]) (·.2) (fun x=>b-x.1) (fun x=>x.2.size=n/\(i+1<=x.1/\x.1<=b)/\Sort.shiftUp lt b x.1 x.2=Sort.shiftUp lt b (i+1) d2) (i+1,d2) s2 ⟨s2,⟨Ψ,by simp;omega⟩,rfl⟩ (by simp[Pv.look]) aL aL d6 ?_;rintro⟨q,n1⟩ ⟨aW,⟨bj,zK⟩,bM⟩;simp only at aW bj zK bM;rw[Sort.shiftUp]at bM;have eq:((q:Int)-1)=(q-1:Nat):=Ω
       have Dq:((q:Int)+1)=(q+1:Nat):=Ω
       simp[Pv.look,H.slc,H.ssc];((with_reducible repeat' first|refine ak ?_|simp[Pv.look,H.slc,H.ssc]|((first|apply bN|apply bP|apply bO)<;>intro h<;>try simp at h))<;>(try exact cf))
       ·rw[if_pos Ω]at bM;rw[eq];refine H.lessA aW q (q-1) Ω Ω fun o=>?_;cases a8:lt n1[q]! n1[q-1]!
        ·rw[if_pos (by simp[a8])]at bM;rw[<-bM]at dn;simp;(with_reducible repeat' first|refine ak ?_|simp);rw[es];refine bS.whl ((i,s+1),n1) d7 ⟨aW,⟨by simp;omega,by simp;omega,by simp;omega⟩,by simp only[em];exact dn⟩ (H.weakC aw (by simpa using aW) d6)
        ·rw[if_neg (by simp[a8])]at bM;simp;(with_reducible repeat' first|refine ak ?_|simp[Pv.look,H.slc,H.ssc]);rw[eq];refine H.swapA aW Ω q (q-1) Ω Ω fun o=>?_;simp;((with_reducible repeat' first|refine ak ?_|simp|((first|apply bN|apply bP|apply bO)<;>intro h<;>try simp at h))<;>(try exact cf));rw[Dq];refine bS.whl (q+1,Sort.swp n1 q (q-1)) d7 ⟨by rw[hq,aW],⟨by simp;omega,by simp;omega⟩,bM⟩ (H.weakC aw (by simp[hq,aW]) d6)
       ·rw[if_neg Ω]at bM;rw[<-bM]at dn;rw[es];refine bS.whl ((i,s+1),n1) d7 ⟨aW,⟨by simp;omega,by simp;omega,by simp;omega⟩,by simp only[em];exact dn⟩ (H.weakC aw (by simpa using aW) d6)
     ·rw[if_neg mC]at dn;have uF:¬(2:Int)<=(b:Int)-i:=Ω
      by_cases DW:2<=i-a
      ·rw[if_pos DW]at dn;have yY:(2:Int)<=(i:Int)-a:=Ω
       simp;(with_reducible repeat' first|refine ak ?_|simp[yY]);rw[Ha];refine H.loopA aw [1,2,3,7,8] (fun(x:Nat×Array α)=>[(9,.int .i64 x.1)]) (·.2) (fun x=>x.1) (fun x=>x.2.size=n/\x.1<=i-1/\Sort.shiftDown lt x.1 x.2=Sort.shiftDown lt (i-1) d2) (i-1,d2) s2 ⟨s2,Ψ,rfl⟩ (by simp[Pv.look]) aL aL d6 ?_;rintro⟨j,gg⟩ ⟨h1,xE,hK⟩;simp only at h1 xE hK;simp[Pv.look,H.slc,H.ssc];((with_reducible repeat' first|refine ak ?_|simp[Pv.look,H.slc,H.ssc,uF]|((first|apply bN|apply bP|apply bO)<;>intro h<;>try simp at h))<;>(try exact cf))
       ·obtain⟨j,rfl⟩:∃dL,j=dL+1:=⟨j-1,Ω⟩;have pD:(((j+1:Nat):Int)-1)=(j:Nat):=Ω
        rw[Sort.shiftDown]at hK;try rw[pD]
        refine H.lessA h1 (j+1) j Ω Ω fun o=>?_;cases aB:lt gg[j+1]! gg[j]!
        ·rw[if_pos (by simp[aB])]at hK;rw[<-hK]at dn;try simp
         try(with_reducible repeat' first|refine ak ?_|simp[Pv.look,H.slc,H.ssc,uF])
         rw[es];refine bS.whl ((i,s+1),gg) d7 ⟨h1,⟨by simp;omega,by simp;omega,by simp;omega⟩,by simp only[em];exact dn⟩ (H.weakC aw (by simpa using h1) d6)
        ·rw[if_neg (by simp[aB])]at hK;simp;(with_reducible repeat' first|refine ak ?_|simp[Pv.look,H.slc,H.ssc]);try rw[pD]
         refine H.swapA h1 U (j+1) j Ω Ω fun o=>?_;simp;((with_reducible repeat' first|refine ak ?_|simp|((first|apply bN|apply bP|apply bO)<;>intro h<;>try simp at h))<;>(try exact cf));try rw[pD]
         refine bS.whl (j,Sort.swp gg (j+1) j) Ψ ⟨by rw[hq,h1],by simp;omega,hK⟩ (H.weakC aw (by simp[hq,h1]) d6)
       ·obtain rfl:j=0:=Ω
        rw[Sort.shiftDown]at hK;rw[<-hK]at dn;try simp
        try(with_reducible repeat' first|refine ak ?_|simp[Pv.look,H.slc,H.ssc,uF])
        rw[es];refine bS.whl ((i,s+1),gg) d7 ⟨h1,⟨by simp;omega,by simp;omega,by simp;omega⟩,by simp only[em];exact dn⟩ (H.weakC aw (by simpa using h1) d6)
      ·rw[if_neg DW]at dn;have yY:¬(2:Int)<=(i:Int)-a:=Ω
       simp;((with_reducible repeat' first|refine ak ?_|simp[yY,uF]|((first|apply bN|apply bP|apply bO)<;>intro h<;>try simp at h))<;>(try exact cf));done
  ·rw[if_neg d7]at i3;simp only[<-i3]at dn;rw[if_pos Ω]at dn;refine H.retR aw (d:=cw) aS (.inl rfl) ?_;simp[cV,aY,a6,aX];rw[<-dn];exact⟨rfl,_,rfl,rfl,aS⟩
 ·have:5-s=0:=Ω
  rw[this,Sort.partialIns]at dn;refine H.retR aw (d:=cw) aS (.inl rfl) ?_;simp[cV,aY,a6,aX];rw[<-dn];exact⟨rfl,_,rfl,rfl,aS⟩
end
section
open Go Go.Pv
variable {α:Type} [Inhabited α] {S:List α->cU} {n g cd:Nat} {lc ca:List aj} {lt:α->α->Bool}
def fw(S:List α->cU)(d:Array α)(v:Nat):cU:=⟨(.obj 901,[.int .i64 v])::(S d.toList).b,(S d.toList).e⟩
def tj(S:List α->cU)(m:Nat):Prop:= ∀l,Pv.look (.obj m) (S l).b=none/\Pv.look (.obj m) (S l).e=none
theorem oN(H:fo S n g cd lc ca lt)(d:Array α)(v:Nat):dP (fw S d v):=by
 have h:=H.ok d.toList;have gZ:∀k,inObs (S d.toList) k->inObs (fw S d v) k:=fun k ae=>by
  rcases ae with ae|ae
  ·refine .inl ?_;simp only[fw,Pv.look];split
   ·rfl
   ·exact ae
  ·exact .inr ae
 refine⟨⟨fun m=>?_,h.obj.2⟩,fun k cs ae=>?_,fun k o ax xs ab=>kJ gZ _ (h.ke k o ax xs ab)⟩
 ·simp[fw,Pv.look,h.obj.1 m]
 ·simp only[fw,Pv.look]at ae;split at ae
  ·cases ae;simp[aP,aK]
  ·exact kJ gZ _ (h.kb k cs ae)
theorem tR(d:Array α)(v v':Nat):Same (fw S d v) (fw S d v'):=⟨fun k=>by simp only[fw,Pv.look];split<;>rfl,fun _=>rfl⟩
theorem Mo(H:fo S n g cd lc ca lt)(ae:tj S 901)(d:Array α)(aD:d.size=n)(a b v:Nat)(bk:a<n)(ad:b<n)(az:v<=1000):
  bL aA 218 [fe g cd lc ca,.int .i64 a,.int .i64 b,.ptr (.obj 901) 0] (fw S d v) fun r ai=>r= .tuple [.int .i64 (Sort.order2 lt d a b v).1,.int .i64 (Sort.order2 lt d a b v).2.1]/\ai=fw S d (Sort.order2 lt d a b v).2.2:=by
 have af:=H.ok d.toList;have aw:d.toList.length=n:=by simpa using aD
 have au:∀l m,Pv.look (.loc m) (S l).b=none:=fun l=>(H.ok l).obj.1;have hu:∀l m cs,cI (.loc m) cs (S l).b=(S l).b++[(.loc m,cs)]:=fun l m cs=>kR (au l m);have ax:∀m,aM.loc m∉dc (S d.toList):=kM af.obj;have gQ:∀l,Pv.look (.obj 901) (S l).b=none:=fun l=>(ae l).1;have jo:∀l,Pv.look (.obj 901) (S l).e=none:=fun l=>(ae l).2;have hle:=H.le;have lg:=oN H d v;obtain⟨R,bI⟩:∃R,R=Sort.order2 lt d a b v:=⟨_,rfl⟩;rw[<-bI];unfold Sort.order2 at bI;refine bL.mk mixed pc Tryz.func218 amM Ψ lg.obj fun aR cN=>?_;unfold S1;have my:aM.loc 0∉dc (fw S d v):=kM lg.obj 0;generalize vQ:dc (fw S d v)=ob at my⊢;unfold fw;simp[fe,hu,my,cX,au,Pv.look,cI];rw[H.slc];refine cY.ob (H.less d.toList aw b a _ _ (Az Ω) (Az Ω)) (H.ok _) (fun k cs ab=>?_) (fun _ _ ab=>ab) (by simp[aK,aP,H.klc d.toList aw]) ?_
 ·simp only[Pv.look];split
  ·rename_i e;subst e;rw[gQ]at ab;cases ab
  ·rw[cX,ab]
 rintro r ai ⟨rfl,rfl⟩;refine⟨Same.refl _,?_⟩;have hw:cc (S d.toList).b ((aM.obj 901,[aj.int .i64 v])::((S d.toList).b++[(aM.loc 0,[aj.func g lc,aj.func cd ca])]))=[(aM.obj 901,[aj.int .i64 v]),(aM.loc 0,[aj.func g lc,aj.func cd ca])]:=by simp only[cc,gQ];rw[jw,hC];simp[cc,au]
 rw[hw,hC];have ds:∀(t:List (Nat×aj)) (o:List aM) (v':Nat) (D:List aj) (x y:Nat),Pv.get 8 t= .int .i64 x->Pv.get 9 t= .int .i64 y->R=(x,y,v')->
   cR [.tmp 8,.tmp 9] (fw S d v) (fun r ai=>r= .tuple [.int .i64 R.1,.int .i64 R.2.1]/\ai=fw S d R.2.2) .ret ⟨t,(aM.obj 901,[.int .i64 v'])::(aM.loc 0,D)::(S d.toList).b,(S d.toList).e,1,o⟩:=by
  rintro t o v' D x y ab aB rfl;refine cR.at (fw S d v') (.inl rfl) (oN H d v') (tR _ _ _) (fun k cs aq=>?_) (fun _ _ aq=>aq) ?_
  ·simp only[fw,Pv.look]at aq⊢;split at aq
   ·rename_i e;rw[if_pos e];exact aq
   ·rename_i e;rw[if_neg e];split
    ·rename_i aE;subst aE;rw[au]at aq;cases aq
    ·exact aq
  ·simp[cV,aY,a6,aX,ab,aB]
 cases ab:lt d[b]! d[a]! with
 |true=>
  rw[if_pos ab]at bI;simp[Pv.look,cI];(with_reducible repeat' first|refine ak ?_|simp[Pv.look,cI]);have ar:((v:Int)+1)=(v+1:Nat):=Ω
  rw[ar];exact ds _ _ (v+1) _ b a rfl rfl bI
 |false=>rw[if_neg (by simp[ab])]at bI;simp[Pv.look,cI];exact ds _ _ v _ a b rfl rfl bI
theorem YC{s ai:cU}{f:Nat}{args:List aj}{r:aj}(aO:bL aA f args s fun e2 dH=>e2=r/\dH=ai)(af:dP s)(fB:Same s ai)(ae:aP (inObs s) args){t:List (Nat×aj)}{D:List aj}{o:List aM}{d:Option Nat}{K:bt->Prop}
  (h:∀o,K ⟨e6 d r t,(.loc 0,D)::ai.b,ai.e,1,o⟩):cY aA f args ⟨t,s.b++[(.loc 0,D)],s.e,1,o⟩ d K:=by
 refine cY.ob aO af (fun k cs ab=>by rw[cX,ab]) (fun _ _ ab=>ab) ae ?_;rintro r ai ⟨rfl,rfl⟩;refine⟨fB,?_⟩;have ar:cc s.b (s.b++[(.loc 0,D)])=[(.loc 0,D)]:=by rw[jw,hC];simp[cc,af.obj.1 0]
 have aE:cc s.e s.e=[]:=hC _;simp only[ar,aE];exact h _
theorem EY{s ai:cU}{f:Nat}{args:List aj}{r:aj}(aO:bL aA f args s fun e2 dH=>e2=r/\dH=ai)(af:dP s)(fB:Same s ai)(ae:aP (inObs s) args){t:List (Nat×aj)}{D:List aj}{o:List aM}{d:Option Nat}{K:bt->Prop}
  (h:∀o,K ⟨e6 d r t,(.loc 0,D)::ai.b,ai.e,1,o⟩):cY aA f args ⟨t,(.loc 0,D)::s.b,s.e,1,o⟩ d K:=by
 refine cY.ob aO af (fun k cs ab=>?_) (fun _ _ ab=>ab) ae ?_
 ·cases k with
  |loc m=>rw[af.obj.1 m]at ab;cases ab
  |obj m=>simpa[Pv.look]using ab
 rintro r ai ⟨rfl,rfl⟩;refine⟨fB,?_⟩;have ar:cc s.b ((.loc 0,D)::s.b)=[(.loc 0,D)]:=by have:=jw s.b [(aM.loc 0,D)] s.b;rw[hC]at this;simpa[cc,af.obj.1 0]using this
 have aE:cc s.e s.e=[]:=hC _;simp only[ar,aE];exact h _
theorem Cb{d:Array α}{a b v n:Nat}(bk:a<n)(ad:b<n):(Sort.order2 lt d a b v).1<n/\(Sort.order2 lt d a b v).2.1<n/\(Sort.order2 lt d a b v).2.2<=v+1:=by unfold Sort.order2;split<;>simp<;>omega
theorem vY(H:fo S n g cd lc ca lt){d:Array α}(aD:d.size=n){v:Nat}:aK (inObs (fw S d v)) (fe g cd lc ca)/\aK (inObs (fw S d v)) (.ptr (.obj 901) 0):=by
 refine⟨xH (fun k ae=>?_) _ (H.kdata (lk:=d.toList) (by simpa using aD)),by simp[aK,inObs,fw,Pv.look]⟩;rcases ae with ae|ae
 ·refine .inl ?_;simp only[fw,Pv.look];split
  ·rfl
  ·exact ae
 ·exact .inr ae
theorem aat(H:fo S n g cd lc ca lt){d:Array α}{v v':Nat}{eX:List bW}{Q:aj->cU->Prop}{t:List (Nat×aj)}{D:List aj}{o:List aM}(h:cV ⟨t,(.loc 0,D)::(fw S d v').b,(S d.toList).e,1,o⟩ eX fun r=>aK (inObs (fw S d v')) r/\Q r (fw S d v')):
  cR eX (fw S d v) Q .ret ⟨t,(.loc 0,D)::(fw S d v').b,(S d.toList).e,1,o⟩:=by
 refine cR.at (fw S d v') (.inl rfl) (oN H d v') (tR _ _ _) (fun k cs ab=>?_) (fun _ _ aq=>aq) h;cases k with
 |loc m=>rw[(oN H d v').obj.1 m]at ab;cases ab
 |obj m=>simpa[Pv.look]using ab
theorem Ml(H:fo S n g cd lc ca lt)(ae:tj S 901)(d:Array α)(aD:d.size=n)(a b c v:Nat)(bk:a<n)(ad:b<n)(aq:c<n)(az:v<=900):
  bL aA 213 [fe g cd lc ca,.int .i64 a,.int .i64 b,.int .i64 c,.ptr (.obj 901) 0] (fw S d v) fun r ai=>r= .int .i64 (Sort.median lt d a b c v).1/\ai=fw S d (Sort.median lt d a b c v).2:=by
 have lg:=oN H d v;have nC:∀v m,Pv.look (.loc m) (fw S d v).b=none:=fun v=>(oN H d v).obj.1;have Np:∀v m cs,cI (.loc m) cs (fw S d v).b=(fw S d v).b++[(.loc m,cs)]:=fun v m cs=>kR (nC v m);have my:aM.loc 0∉dc (fw S d v):=kM lg.obj 0;obtain⟨R,bI⟩:∃R,R=Sort.median lt d a b c v:=⟨_,rfl⟩;rw[<-bI];unfold Sort.median at bI;have aW:=Cb (lt:=lt) (d:=d) (v:=v) bk ad;have aS:=Mo H ae d aD a b v bk ad Ω;generalize Sort.order2 lt d a b v=fc at aW aS bI;obtain⟨tK,lz,v1⟩:=fc;simp only at aW aS bI;have bj:=Cb (lt:=lt) (d:=d) (v:=v1) aW.2.1 aq;have bh:=Mo H ae d aD lz c v1 aW.2.1 aq Ω;generalize Sort.order2 lt d lz c v1=gh at bj bh bI;obtain⟨Ak,p3,v2⟩:=gh;simp only at bj bh bI;have bM:=Cb (lt:=lt) (d:=d) (v:=v2) aW.1 bj.1;have bX:=Mo H ae d aD tK Ak v2 aW.1 bj.1 Ω;generalize Sort.order2 lt d tK Ak v2=qC at bM bX bI;obtain⟨tL,Ks,v3⟩:=qC;simp only at bM bX bI;refine bL.mk mixed pc Tryz.func213 amK Ψ lg.obj fun aR cN=>?_;unfold SZ;simp[fe,Np,my,cX,nC];simp only[jd H,H.slc,H.ssc,iW];refine YC aS (oN H d v) (tR _ _ _) (by simp[aK,aP,(vY H aD).1];exact(vY H aD).2) fun o=>?_;simp[Pv.look];simp only[jd H,H.slc,H.ssc,iW];refine EY bh (oN H d v1) (tR _ _ _) (by simp[aK,aP,(vY H aD).1];exact(vY H aD).2) fun o=>?_;simp[Pv.look];simp only[jd H,H.slc,H.ssc,iW];refine EY bX (oN H d v2) (tR _ _ _) (by simp[aK,aP,(vY H aD).1];exact(vY H aD).2) fun o=>?_;simp;refine aat H ?_;simp[cV,aY,a6,aX];rw[bI];exact⟨rfl,rfl⟩
theorem Mm(H:fo S n g cd lc ca lt)(ae:tj S 901)(d:Array α)(aD:d.size=n)(a v:Nat)(bk:a+1<n)(l5:1<=a)(az:v<=900):
  bL aA 212 [fe g cd lc ca,.int .i64 a,.ptr (.obj 901) 0] (fw S d v) fun r ai=>r= .int .i64 (Sort.medianAdjacent lt d a v).1/\ai=fw S d (Sort.medianAdjacent lt d a v).2:=by
 have lg:=oN H d v;have nC:∀v m,Pv.look (.loc m) (fw S d v).b=none:=fun v=>(oN H d v).obj.1;have Np:∀v m cs,cI (.loc m) cs (fw S d v).b=(fw S d v).b++[(.loc m,cs)]:=fun v m cs=>kR (nC v m);have my:aM.loc 0∉dc (fw S d v):=kM lg.obj 0;have hle:=H.le;have aS:=Ml H ae d aD (a-1) a (a+1) v Ω Ω Ω az;unfold Sort.medianAdjacent;refine bL.mk mixed pc Tryz.func212 amJ Ψ lg.obj fun aR cN=>?_;unfold SY;have ar:((a:Int)-1)=(a-1:Nat):=Ω
 have aE:((a:Int)+1)=(a+1:Nat):=Ω
 simp[fe,Np,my,cX,nC];(with_reducible repeat' first|refine ak ?_|simp);simp only[jd H,H.slc,H.ssc,iW,ar,aE];refine YC aS (oN H d v) (tR _ _ _) (by simp[aK,aP,(vY H aD).1];exact(vY H aD).2) fun o=>?_;simp;refine aat H ?_;simp[cV,aY,a6,aX]
theorem YD{m:Nat}(h:tj S m)(l:List α):aM.obj m∉dc (S l):=fun hm=>by
 rcases WZ hm with I|I
 ·rw[(h l).1]at I;cases I
 ·rw[(h l).2]at I;cases I
theorem EO{d:Array α}{a b c v n:Nat}(bk:a<n)(ad:b<n)(aq:c<n):(Sort.median lt d a b c v).1<n/\(Sort.median lt d a b c v).2<=v+3:=by have aW:=Cb (lt:=lt) (d:=d) (v:=v) bk ad;have bj:=Cb (lt:=lt) (d:=d) (v:=(Sort.order2 lt d a b v).2.2) aW.2.1 aq;have bM:=Cb (lt:=lt) (d:=d) (v:=(Sort.order2 lt d (Sort.order2 lt d a b v).2.1 c (Sort.order2 lt d a b v).2.2).2.2) aW.1 bj.1;refine⟨bM.2.1,hn bM.2.2 ?_⟩;omega
def Bh:Sort.Hint->Int
 | .unknown=>0
 | .increasing=>1
 | .decreasing=>2
theorem ahd(H:fo S n g cd lc ca lt)(ae:tj S 901)(d:Array α)(aD:d.size=n)(a b:Nat)(oa:a<b)(ad:b<=n):
  bL aA 198 [fe g cd lc ca,.int .i64 a,.int .i64 b] (S d.toList) fun r ai=>r= .tuple [.int .i64 (Sort.choosePivot lt d a b).1,.int .i64 (Bh (Sort.choosePivot lt d a b).2)]/\ai=S d.toList:=by
 have af:=H.ok d.toList;have aw:d.toList.length=n:=by simpa using aD
 have au:∀l m,Pv.look (.loc m) (S l).b=none:=fun l=>(H.ok l).obj.1;have hu:∀l m cs,cI (.loc m) cs (S l).b=(S l).b++[(.loc m,cs)]:=fun l m cs=>kR (au l m);have ax:∀m,aM.loc m∉dc (S d.toList):=kM af.obj;have gQ:∀l,Pv.look (.obj 901) (S l).b=none:=fun l=>(ae l).1;have jo:∀l,Pv.look (.obj 901) (S l).e=none:=fun l=>(ae l).2;have hle:=H.le;have my:=YD ae d.toList;obtain⟨R,bI⟩:∃R,R=Sort.choosePivot lt d a b:=⟨_,rfl⟩;rw[<-bI];unfold Sort.choosePivot at bI;refine bL.mk mixed pc Tryz.func198 amH Ψ af.obj fun aR cN=>?_;unfold SV;have zg:∀l D cs,cI (.obj 901) cs ((S l).b++[(.loc 0,D)])=(S l).b++[(.loc 0,D),(.obj 901,cs)]:=fun l D cs=>by rw[CL (gQ l)];rfl
 obtain⟨q,bs⟩:∃q,q=(b-a)/4:=⟨_,rfl⟩;have dr:nR.wrap (((b:Int)-a).tdiv 4)=(q:Nat):=by rw[show((b:Int)-a)=((b-a:Nat):Int) by omega,Int.tdiv_eq_ediv_of_nonneg Ω,nl _ Ω];omega
 simp[fe,hu,zg,ax,my,cX,au,gQ,jo,Pv.look,cI];have ds:∀(t:List (Nat×aj)) (o:List aM) (b3:List (aM×List aj)) (x:Nat) (h:Sort.Hint),Pv.get 6 t= .int .i64 x->Pv.get 7 t= .int .i64 (Bh h)->R=(x,h)->(∀k cs,Pv.look k (S d.toList).b=some cs->Pv.look k b3=some cs)->
   cR [.tmp 6,.tmp 7] (S d.toList) (fun r ai=>r= .tuple [.int .i64 R.1,.int .i64 (Bh R.2)]/\ai=S d.toList) .ret ⟨t,b3,(S d.toList).e,1,o⟩:=by
  rintro t o b3 x h ab aB rfl gn;refine cR.at (S d.toList) (.inl rfl) af (Same.refl _) gn (fun _ _ aq=>aq) ?_;simp[cV,aY,a6,aX,ab,aB]
 have A9:∀(D:List aj) (v:Nat) k cs,Pv.look k (S d.toList).b=some cs->Pv.look k ((.loc 0,D)::(fw S d v).b)=some cs:=fun D v k cs h=>by
  simp only[fw,Pv.look];split
  ·rename_i e;subst e;rw[au]at h;cases h
  ·split
   ·rename_i e;subst e;rw[gQ]at h;cases h
   ·exact h
 have VW:∀{f:Nat} {args:List aj} {r:aj} {v:Nat},(bL aA f args (fw S d 0) fun e2 dH=>e2=r/\dH=fw S d v)->aP (inObs (fw S d 0)) args->∀{t:List (Nat×aj)} {D:List aj} {o:List aM} {cn:Option Nat} {K:bt->Prop},(∀o,K ⟨e6 cn r t,(.loc 0,D)::(fw S d v).b,(S d.toList).e,1,o⟩)->
   cY aA f args ⟨t,(S d.toList).b++[(.loc 0,D),(.obj 901,[.int .i64 0])],(S d.toList).e,1,o⟩ cn K:=by
  intro f args r v aO hY t D o cn K h;refine cY.ob aO (oN H d 0) (fun k cs ab=>?_) (fun _ _ ab=>ab) hY ?_
  ·simp only[fw,Pv.look]at ab;rw[cX];split at ab
   ·rename_i e;subst e;rw[gQ];simp[Pv.look];simpa using ab
   ·rw[ab]
  rintro r ai ⟨rfl,rfl⟩;refine⟨tR _ _ _,?_⟩;have ar:cc (fw S d 0).b ((S d.toList).b++[(.loc 0,D),(.obj 901,[.int .i64 0])])=[(.loc 0,D)]:=by
   rw[jw];have:cc (fw S d 0).b (S d.toList).b=[]:=QX _ _ fun k x hm=>by
    have:=wb hm;simp only[fw,Pv.look];split
    ·rfl
    ·exact this
   rw[this];simp[cc,fw,Pv.look,au]
  have aE:cc (fw S d 0).e (S d.toList).e=[]:=hC _;simp only[ar,aE];exact h _
 have hY:=fun(v:Nat)=>(vY H aD (v:=v));have f1:((a:Int)+q)=(a+q:Nat):=Ω
 have f2:((a:Int)+q*2)=(a+q*2:Nat):=Ω
 have f3:((a:Int)+q*3)=(a+q*3:Nat):=Ω
 dsimp only at bI;rw[<-bs,Nat.mul_one]at bI;by_cases jm:b-a<8
 ·have Hv:¬(8:Int)<=(b:Int)-a:=Ω
  (with_reducible repeat' first|refine ak ?_|simp[Hv,dr,hu,zg,ax,my,cX,au,gQ,jo,Pv.look,cI]);rw[f2];refine ds _ _ _ (a+q*2) .increasing rfl rfl (by rw[bI,if_neg Ω];simp) (fun k cs h=>by rw[cX,h])
 ·have Hv:(8:Int)<=(b:Int)-a:=Ω
  by_cases as7:b-a<50
  ·have Ms:¬(50:Int)<=(b:Int)-a:=Ω
   (with_reducible repeat' first|refine ak ?_|simp[Hv,Ms,dr,hu,zg,ax,my,cX,au,gQ,jo,Pv.look,cI]);simp only[jd H,H.slc,H.ssc,iW,f1,f2,f3];have aS:=Ml H ae d aD (a+q) (a+q*2) (a+q*3) 0 Ω Ω Ω Ω;have bh:=EO (lt:=lt) (d:=d) (a:=a+q) (b:=a+q*2) (c:=a+q*3) (v:=0) (n:=n) Ω Ω Ω;rw[if_pos Ω,if_neg Ω]at bI;generalize Sort.median lt d (a+q) (a+q*2) (a+q*3) 0=m at aS bh bI;obtain⟨x,v⟩:=m;refine VW aS (by simp[aK,aP,(hY 0).1];exact(hY 0).2) fun o=>?_;have zh:((v:Int)==0)=decide (v=0):=by rw[qP];simp
   have Ek:((v:Int)==12)=decide (v=12):=by rw[qP];simp;omega
   simp[Pv.look,fw];rcases(by omega:v=0\/v=12\/(v≠0/\v≠12))with bB|bB|bB
   ·have ab:((v:Int)==0)=true:=by rw[zh];simp[bB]
    (with_reducible repeat' first|refine ak ?_|simp[ab]);all_goals exact ds _ _ _ x .increasing rfl rfl (by rw[bI];simp[bB]) (A9 _ v)
   ·have ab:((v:Int)==0)=false:=by rw[zh];simp[bB]
    have o3:((v:Int)==12)=true:=by rw[Ek];simp[bB]
    (with_reducible repeat' first|refine ak ?_|simp[ab,o3]);all_goals exact ds _ _ _ x .decreasing rfl rfl (by rw[bI];simp[bB]) (A9 _ v)
   ·have ab:((v:Int)==0)=false:=by rw[zh];simp[bB.1]
    have o3:((v:Int)==12)=false:=by rw[Ek];simp[bB.2]
    (with_reducible repeat' first|refine ak ?_|simp[ab,o3]);all_goals exact ds _ _ _ x .unknown rfl rfl (by rw[bI];simp[bB]) (A9 _ v)
  ·have Ms:(50:Int)<=(b:Int)-a:=Ω
   (with_reducible repeat' first|refine ak ?_|simp[Hv,Ms,dr,hu,zg,ax,my,cX,au,gQ,jo,Pv.look,cI]);simp only[jd H,H.slc,H.ssc,iW,f1,f2,f3];rw[if_pos Ω,if_pos Ω]at bI;have aS:=Mm H ae d aD (a+q) 0 Ω Ω Ω;have Ez:=EO (lt:=lt) (d:=d) (a:=a+q-1) (b:=a+q) (c:=a+q+1) (v:=0) (n:=n) Ω Ω Ω;change (Sort.medianAdjacent lt d (a+q) 0).1<n/\(Sort.medianAdjacent lt d (a+q) 0).2<=0+3 at Ez;generalize Sort.medianAdjacent lt d (a+q) 0=m1 at aS Ez bI;obtain⟨tK,v1⟩:=m1;simp only at aS Ez bI;have bh:=Mm H ae d aD (a+q*2) v1 Ω Ω Ω;have EA:=EO (lt:=lt) (d:=d) (a:=a+q*2-1) (b:=a+q*2) (c:=a+q*2+1) (v:=v1) (n:=n) Ω Ω Ω;change (Sort.medianAdjacent lt d (a+q*2) v1).1<n/\(Sort.medianAdjacent lt d (a+q*2) v1).2<=v1+3 at EA;generalize Sort.medianAdjacent lt d (a+q*2) v1=m2 at bh EA bI;obtain⟨Ak,v2⟩:=m2;simp only at bh EA bI;have bX:=Mm H ae d aD (a+q*3) v2 Ω Ω Ω;have EB:=EO (lt:=lt) (d:=d) (a:=a+q*3-1) (b:=a+q*3) (c:=a+q*3+1) (v:=v2) (n:=n) Ω Ω Ω;change (Sort.medianAdjacent lt d (a+q*3) v2).1<n/\(Sort.medianAdjacent lt d (a+q*3) v2).2<=v2+3 at EB;generalize Sort.medianAdjacent lt d (a+q*3) v2=m3 at bX EB bI;obtain⟨tL,v3⟩:=m3;simp only at bX EB bI;have ed:=Ml H ae d aD tK Ak tL v3 Ez.1 EA.1 EB.1 Ω;have Xk:=EO (lt:=lt) (d:=d) (v:=v3) Ez.1 EA.1 EB.1;generalize Sort.median lt d tK Ak tL v3=m4 at ed Xk bI;obtain⟨x,v⟩:=m4;simp only at ed Xk bI;refine VW aS (by simp[aK,aP,(hY 0).1];exact(hY 0).2) fun o=>?_;simp[Pv.look];simp only[jd H,H.slc,H.ssc,iW,f1,f2,f3];refine EY bh (oN H d v1) (tR _ _ _) (by simp[aK,aP,(hY v1).1];exact(hY v1).2) fun o=>?_;simp[Pv.look];simp only[jd H,H.slc,H.ssc,iW,f1,f2,f3];refine EY bX (oN H d v2) (tR _ _ _) (by simp[aK,aP,(hY v2).1];exact(hY v2).2) fun o=>?_;simp[Pv.look];simp only[jd H,H.slc,H.ssc,iW,f1,f2,f3];refine EY ed (oN H d v3) (tR _ _ _) (by simp[aK,aP,(hY v3).1];exact(hY v3).2) fun o=>?_;have zh:((v:Int)==0)=decide (v=0):=by rw[qP];simp
   have Ek:((v:Int)==12)=decide (v=12):=by rw[qP];simp;omega
   simp[Pv.look,fw];rcases(by omega:v=0\/v=12\/(v≠0/\v≠12))with bB|bB|bB
   ·have ab:((v:Int)==0)=true:=by rw[zh];simp[bB]
    (with_reducible repeat' first|refine ak ?_|simp[ab]);all_goals exact ds _ _ _ x .increasing rfl rfl (by rw[bI];simp[bB]) (A9 _ v)
   ·have ab:((v:Int)==0)=false:=by rw[zh];simp[bB]
    have o3:((v:Int)==12)=true:=by rw[Ek];simp[bB]
    (with_reducible repeat' first|refine ak ?_|simp[ab,o3]);all_goals exact ds _ _ _ x .decreasing rfl rfl (by rw[bI];simp[bB]) (A9 _ v)
   ·have ab:((v:Int)==0)=false:=by rw[zh];simp[bB.1]
    have o3:((v:Int)==12)=false:=by rw[Ek];simp[bB.2]
    (with_reducible repeat' first|refine ak ?_|simp[ab,o3]);all_goals exact ds _ _ _ x .unknown rfl rfl (by rw[bI];simp[bB]) (A9 _ v)
end
section
open Go Go.Pv
variable {α:Type} [Inhabited α] {S:List α->cU} {n g cd:Nat} {lc ca:List aj} {lt:α->α->Bool}
theorem ap5:∀x:Nat,x<256->((([0,1,2,2,3,3,3,3,4,4,4,4,4,4,4,4,5,5,5,5,5,5,5,5,5,5,5,5,5,5,5,5,6,6,6,6,6,6,6,6,6,6,6,6,6,6,6,6,6,6,6,6,6,6,6,6,6,6,6,6,6,6,6,6,7,7,7,7,7,7,7,7,7,7,7,7,7,7,7,7,7,7,7,7,7,7,7,7,7,7,7,7,7,7,7,7,7,7,7,7,7,7,7,7,7,7,7,7,7,7,7,7,7,7,7,7,7,7,7,7,7,7,7,7,7,7,7,7,8,8,8,8,8,8,8,8,8,8,8,8,8,8,8,8,8,8,8,8,8,8,8,8,8,8,8,8,8,8,8,8,8,8,8,8,8,8,8,8,8,8,8,8,8,8,8,8,8,8,8,8,8,8,8,8,8,8,8,8,8,8,8,8,8,8,8,8,8,8,8,8,8,8,8,8,8,8,8,8,8,8,8,8,8,8,8,8,8,8,8,8,8,8,8,8,8,8,8,8,8,8,8,8,8,8,8,8,8,8,8,8,8,8,8,8,8,8,8,8,8,8,8,8,8,8,8,8]:List UInt8)[x]?).getD 0).toNat=Sort.bitsLen x:=by decide+kernel
theorem DB(x:Int):x.fdiv (2 ^ (min 32 hT.bits))=x/4294967296:=by rw[show(2:Int) ^ (min 32 hT.bits)=4294967296 from by decide,Int.fdiv_eq_ediv_of_nonneg _ Ω]
theorem DA(x:Int):x.fdiv (2 ^ (min 16 hT.bits))=x/65536:=by rw[show(2:Int) ^ (min 16 hT.bits)=65536 from by decide,Int.fdiv_eq_ediv_of_nonneg _ Ω]
theorem DC(x:Int):x.fdiv (2 ^ (min 8 hT.bits))=x/256:=by rw[show(2:Int) ^ (min 8 hT.bits)=256 from by decide,Int.fdiv_eq_ediv_of_nonneg _ Ω]
theorem FQ(x:Nat)(h:x<256):IntKind.u8.wrap (x:Int)=x:=by simp[tM,oK,sn];omega
theorem KY(x k:Nat)(h:2 ^ k<=x):Sort.bitsLen x=Sort.bitsLen (x/2 ^ k)+k:=by
 have ab:x≠0:=by have:=Nat.two_pow_pos k;omega
 have bs:x/2 ^ k≠0:=by have:=Nat.div_pos h (Nat.two_pow_pos k);omega
 unfold Sort.bitsLen;rw[if_neg ab,if_neg bs];have aw:=Nat.log2_lt ab (k:=Nat.log2 (x/2 ^ k)+k+1);have I:Nat.log2 (x/2 ^ k)+k<=Nat.log2 x:=by
  rw[Nat.le_log2 ab,Nat.pow_add];have:=Nat.log2_self_le bs;calc 2 ^ (x/2 ^ k).log2*2 ^ k<=(x/2 ^ k)*2 ^ k:=rr _ this
   _<=x:=Nat.div_mul_le_self x _
 have U:Nat.log2 x<Nat.log2 (x/2 ^ k)+k+1:=by rw[aw,show Nat.log2 (x/2 ^ k)+k+1=(Nat.log2 (x/2 ^ k)+1)+k by omega,Nat.pow_add];have:=Nat.lt_log2_self (n:=x/2 ^ k);exact(Nat.div_lt_iff_lt_mul (Nat.two_pow_pos k)).1 this
 omega
set_option maxRecDepth 20000 in
theorem aqv(x:Nat)(ab:x<1099511627776):bR aA 195 [.int .u64 x] (.int .i64 (Sort.bitsLen x)):=by
 refine bR.mk mixed pc Tryz.func195 amE Ψ d6 fun aR=>?_;unfold SQ;have aC:=ap5;generalize VL:([0,1,2,2,3,3,3,3,4,4,4,4,4,4,4,4,5,5,5,5,5,5,5,5,5,5,5,5,5,5,5,5,6,6,6,6,6,6,6,6,6,6,6,6,6,6,6,6,6,6,6,6,6,6,6,6,6,6,6,6,6,6,6,6,7,7,7,7,7,7,7,7,7,7,7,7,7,7,7,7,7,7,7,7,7,7,7,7,7,7,7,7,7,7,7,7,7,7,7,7,7,7,7,7,7,7,7,7,7,7,7,7,7,7,7,7,7,7,7,7,7,7,7,7,7,7,7,7,8,8,8,8,8,8,8,8,8,8,8,8,8,8,8,8,8,8,8,8,8,8,8,8,8,8,8,8,8,8,8,8,8,8,8,8,8,8,8,8,8,8,8,8,8,8,8,8,8,8,8,8,8,8,8,8,8,8,8,8,8,8,8,8,8,8,8,8,8,8,8,8,8,8,8,8,8,8,8,8,8,8,8,8,8,8,8,8,8,8,8,8,8,8,8,8,8,8,8,8,8,8,8,8,8,8,8,8,8,8,8,8,8,8,8,8,8,8,8,8,8,8,8,8,8,8,8,8]:List UInt8)=tab at aC⊢;have A7:tab.length=256:=by rw[<-VL];rfl
 clear VL;simp[A7];have ad:∀y:Nat,y<256->Sort.bitsLen y<=8:=by decide+kernel
 have ajx:4294967296<=x->Sort.bitsLen x=Sort.bitsLen (x/4294967296)+32:=fun h=>KY x 32 h;have WC:∀y,65536<=y->Sort.bitsLen y=Sort.bitsLen (y/65536)+16:=fun y h=>KY y 16 h;have WG:∀y,256<=y->Sort.bitsLen y=Sort.bitsLen (y/256)+8:=fun y h=>KY y 8 h;by_cases I:4294967296<=x
 ·have oV:(4294967296:Int)<=x:=Ω
  have g1:¬(65536:Int)<=(x:Int)/4294967296:=Ω
  have g3:¬(256:Int)<=(x:Int)/4294967296:=Ω
  (with_reducible repeat' first|refine ak ?_|simp[oV,g1,g3,DB,DA,DC,A7]);have aB:x/4294967296<256:=Ω
  have kC:=ad _ aB;have eR:(x:Int)/4294967296=((x/4294967296:Nat):Int):=Ω
  rw[eR,FQ _ aB,Int.toNat_natCast];refine⟨Ω,?_⟩;have e:=aC _ aB;rw[e,nl _ Ω];refine⟨by unfold pQ;omega,?_⟩;simp[bz,aY,a6,aX];try((rw[ajx I])<;>omega)
 ·have oV:¬(4294967296:Int)<=x:=Ω
  by_cases U:65536<=x
  ·have g2:(65536:Int)<=x:=Ω
   by_cases ao:256<=x/65536
   ·have g3:(256:Int)<=(x:Int)/65536:=Ω
    (with_reducible repeat' first|refine ak ?_|simp[oV,g2,g3,DB,DA,DC,A7]);have aB:x/65536/256<256:=Ω
    have kC:=ad _ aB;have eR:(x:Int)/65536/256=((x/65536/256:Nat):Int):=Ω
    rw[eR,FQ _ aB,Int.toNat_natCast];refine⟨Ω,?_⟩;have e:=aC _ aB;rw[e,nl _ Ω];refine⟨by unfold pQ;omega,?_⟩;simp[bz,aY,a6,aX];try((rw[WC x U,WG _ ao])<;>omega)
   ·have g3:¬(256:Int)<=(x:Int)/65536:=Ω
    (with_reducible repeat' first|refine ak ?_|simp[oV,g2,g3,DB,DA,DC,A7]);have aB:x/65536<256:=Ω
    have kC:=ad _ aB;have eR:(x:Int)/65536=((x/65536:Nat):Int):=Ω
    rw[eR,FQ _ aB,Int.toNat_natCast];refine⟨Ω,?_⟩;have e:=aC _ aB;rw[e,nl _ Ω];refine⟨by unfold pQ;omega,?_⟩;simp[bz,aY,a6,aX];try((rw[WC x U])<;>omega)
  ·have g2:¬(65536:Int)<=x:=Ω
   by_cases ao:256<=x
   ·have g3:(256:Int)<=x:=Ω
    (with_reducible repeat' first|refine ak ?_|simp[oV,g2,g3,DB,DA,DC,A7]);have aB:x/256<256:=Ω
    have kC:=ad _ aB;have eR:(x:Int)/256=((x/256:Nat):Int):=Ω
    rw[eR,FQ _ aB,Int.toNat_natCast];refine⟨Ω,?_⟩;have e:=aC _ aB;rw[e,nl _ Ω];refine⟨by unfold pQ;omega,?_⟩;simp[bz,aY,a6,aX];try((rw[WG x ao])<;>omega)
   ·have g3:¬(256:Int)<=x:=Ω
    (with_reducible repeat' first|refine ak ?_|simp[oV,g2,g3,DB,DA,DC,A7]);have aB:x<256:=Ω
    have kC:=ad _ aB;have eR:(x:Int)=((x:Nat):Int):=Ω
    rw[eR,FQ _ aB,Int.toNat_natCast];refine⟨Ω,?_⟩;have e:=aC _ aB;rw[e,nl _ Ω];refine⟨by unfold pQ;omega,?_⟩;simp[bz,aY,a6,aX];try((rw[show Sort.bitsLen x=Sort.bitsLen x from rfl])<;>omega)
theorem aqu(x:Nat)(ab:x<1099511627776):bR aA 169 [.int .u64 x] (.int .i64 (Sort.bitsLen x)):=by refine bR.mk mixed pc Tryz.func169 amD Ψ d6 fun aR=>?_;unfold SP;have NV:=aqv x ab;exact cu
theorem adf(x:Nat)(ab:x<1099511627776):Sort.bitsLen x<=40:=by
 unfold Sort.bitsLen;split
 ·omega
 ·rename_i h;have:=(Nat.log2_lt h (k:=40)).2 Ω;omega
theorem aqb{x:Nat}(h:x≠0):2 ^ Sort.bitsLen x<=2*x/\x<2 ^ Sort.bitsLen x:=by unfold Sort.bitsLen;rw[if_neg h];have I:=Nat.log2_self_le h;have U:=Nat.lt_log2_self (n:=x);rw[Nat.pow_succ];rw[Nat.pow_succ]at U;omega
theorem aq5(x:Nat)(ab:x<1099511627776):bR aA 210 [.int .i64 x] (.int .u64 (1<<<Sort.bitsLen x:Nat)):=by
 have ad:=adf x ab;have ar:hT.wrap ((x:Nat):Int)=x:=by simp[tM,oK,sn];omega
 have aE:hT.wrap ((Sort.bitsLen x:Nat):Int)=Sort.bitsLen x:=by simp[tM,oK,sn];omega
 refine bR.mk mixed pc Tryz.func210 amL Ψ d6 fun aR=>?_;unfold S0;simp[ar];refine cY.val Ψ (aqu x ab) ?_;simp[ar,aE];simp[bz,aY,a6,aX];have hm:min (Sort.bitsLen x) hT.bits=Sort.bitsLen x:=by simp[oK];omega
 have bG:2 ^ Sort.bitsLen x<=2 ^ 40:=Nat.pow_le_pow_right Ω ad;rw[hm];have aq:((2:Int) ^ Sort.bitsLen x)=((2 ^ Sort.bitsLen x:Nat):Int):=by simp
 have vF:((1<<<Sort.bitsLen x:Nat):Int)=((2 ^ Sort.bitsLen x:Nat):Int):=by rw[Nat.one_shiftLeft]
 have uk:hT.wrap ((2:Int) ^ Sort.bitsLen x)=((1<<<Sort.bitsLen x:Nat):Int):=by rw[aq,vF];generalize 2 ^ Sort.bitsLen x=y at bG;simp[tM,oK,sn];omega
 simpa using uk
def nW(r:Nat):cU:=⟨[(.obj 902,[.int .u64 r])],[]⟩
theorem KE(r:Nat):dP (nW r):=by unfold nW;exact(dP.of ⟨by intro m;simp[Pv.look],by intro m;simp[Pv.look]⟩ d9 d9)
theorem Rh(a b:Nat):Same (nW a) (nW b):=⟨fun k=>by simp only[nW,Pv.look];split<;>rfl,fun _=>rfl⟩
theorem K0(a b:Nat)(bk:a<18446744073709551616)(ad:b<18446744073709551616):hT.wrap ((mL hT.bits (a:Int) ^^^ mL hT.bits (b:Int)).toNat:Int)=(a ^^^ b:Nat):=by
 have ao:a ^^^ b<18446744073709551616:=Nat.xor_lt_two_pow (n:=64) bk ad;have e:(mL hT.bits (a:Int) ^^^ mL hT.bits (b:Int)).toNat=a ^^^ b:=by
  rw[BitVec.toNat_xor,BitVec.toNat_ofInt,BitVec.toNat_ofInt];have ar:((a:Int)%(2 ^ hT.bits:Nat)).toNat=a:=by simp[oK];omega
  have aE:((b:Int)%(2 ^ hT.bits:Nat)).toNat=b:=by simp[oK];omega
  rw[ar,aE]
 rw[e];generalize a ^^^ b=c at ao;simp[tM,oK,sn];omega
theorem apx(r:Nat):hT.wrap ((r:Int)*2 ^ (min 13 hT.bits))=(r*8192%18446744073709551616:Nat):=by simp[tM,oK,sn]
theorem apy(r:Nat):hT.wrap ((r:Int)*2 ^ (min 17 hT.bits))=(r*131072%18446744073709551616:Nat):=by simp[tM,oK,sn]
theorem apz(r:Nat):((r:Int)).fdiv (2 ^ (min 7 hT.bits))=(r/128:Nat):=by rw[show(2:Int) ^ (min 7 hT.bits)=128 from by decide,Int.fdiv_eq_ediv_of_nonneg _ Ω];omega
theorem ag7(r:Nat)(aN:r<18446744073709551616):bL aA 211 [.ptr (.obj 902) 0] (nW r) fun e2 ai=>e2= .int .u64 (Sort.xorNextN r)/\ai=nW (Sort.xorNextN r):=by
 have af:=KE r;unfold nW at af⊢;refine bL.mk mixed pc Tryz.func211 amX Ψ af.obj fun aR cN=>?_;unfold Tc;obtain⟨m1,y8⟩:∃m,m=r*8192%18446744073709551616:=⟨_,rfl⟩;have s1:=apx r;rw[<-y8]at s1;have kK:m1<18446744073709551616:=Ω
 obtain⟨bF,l5⟩:∃m,m=r ^^^ m1:=⟨_,rfl⟩;have t1:=K0 r m1 aN kK;rw[<-l5]at t1;have XG:bF<18446744073709551616:=by rw[l5];exact Nat.xor_lt_two_pow (n:=64) aN kK
 obtain⟨m2,sU⟩:∃m,m=bF/128:=⟨_,rfl⟩;have s2:=apz bF;rw[<-sU]at s2;have hA:m2<18446744073709551616:=Ω
 obtain⟨a2,qY⟩:∃m,m=bF ^^^ m2:=⟨_,rfl⟩;have t2:=K0 bF m2 XG hA;rw[<-qY]at t2;have akV:a2<18446744073709551616:=by rw[qY];exact Nat.xor_lt_two_pow (n:=64) XG hA
 obtain⟨m3,Wk⟩:∃m,m=a2*131072%18446744073709551616:=⟨_,rfl⟩;have s3:=apy a2;rw[<-Wk]at s3;have akU:m3<18446744073709551616:=Ω
 obtain⟨a3,HA⟩:∃m,m=a2 ^^^ m3:=⟨_,rfl⟩;have t3:=K0 a2 m3 akV akU;rw[<-HA]at t3;have bI:Sort.xorNextN r=a3:=by unfold Sort.xorNextN;simp only[<-y8,<-l5,<-sU,<-qY,<-Wk,<-HA]
 rw[bI];simp[-BitVec.toNat_xor,-BitVec.ofInt_natCast,s1,t1,s2,t2,s3,t3];have a7:=KE a3;have b8:=Rh r a3;unfold nW at a7 b8;refine cR.at _ (.inl rfl) a7 b8 aL aL ?_;simp[cV,aY,a6,aX]
end
section
open Go Go.Pv
variable {α:Type} [Inhabited α] {S:List α->cU} {n g cd:Nat} {lc ca:List aj} {lt:α->α->Bool}
theorem ac8(a b:Nat)(bk:a<18446744073709551616)(ad:b<18446744073709551616):hT.wrap ((mL hT.bits (a:Int)&&& mL hT.bits (b:Int)).toNat:Int)=(a&&& b:Nat):=by
 have ao:a&&& b<18446744073709551616:=Nat.lt_of_le_of_lt Nat.and_le_left bk;have e:(mL hT.bits (a:Int)&&& mL hT.bits (b:Int)).toNat=a&&& b:=by
  rw[BitVec.toNat_and,BitVec.toNat_ofInt,BitVec.toNat_ofInt];have ar:((a:Int)%(2 ^ hT.bits:Nat)).toNat=a:=by simp[oK];omega
  have aE:((b:Int)%(2 ^ hT.bits:Nat)).toNat=b:=by simp[oK];omega
  rw[ar,aE]
 rw[e];generalize a&&& b=c at ao;simp[tM,oK,sn];omega
def AA(a len M i0:Nat)(d:Array α):Nat->UInt64×Array α
 |0=>(UInt64.ofNat len,d)
 |k+1=>Sort.breakStep a len M (AA a len M i0 d k) (i0+k)
theorem adi(d:Array α)(a b:Nat)(h:8<=b-a):Sort.breakPatterns d a b=(AA a (b-a) (1<<<Sort.bitsLen (b-a)) (a+(b-a)/4*2-1) d 3).2:=by unfold Sort.breakPatterns;simp only[if_pos h,AA];rfl
theorem ab0{ob O:List aM}{ai:cU}(gb:dP ai)(di:∀k,inObs ai k->k∈O)(vQ:∀k∈ob,k∈O){st:bt}{dH:List (Nat×aj)}{L:List (aM×List aj)}{n:Nat}(aC:∀x∈dH,Pv.get x.1 st.t=x.2/\aK (nc ai n) x.2)(e1:∀x∈L,Pv.look x.1 st.b=some x.2/\nc ai n x.1/\aP (nc ai n) x.2)
  (ad:∀k cs,Pv.look k ai.b=some cs->Pv.look k st.b=some cs) (he:∀k o,Pv.look k ai.e=some o->Pv.look k st.e=some o):jD ob st ⟨dH,L++ai.b,ai.e,n,O⟩:=by
 have mV:∀{k},nc ai n k->¬fresh n O k:=by
  rintro k (h|⟨m,hm,rfl⟩)
  ·exact fun aO=>aO.2 (di k h)
  ·intro aO;have:=aO.1;simp at this;omega
 refine⟨fun x ab=>⟨(aC x ab).1,xH (fun k ae=>mV ae) _ (aC x ab).2⟩,fun k cs ae=>?_,fun k o ax=>?_,vQ⟩
 ·simp only at ae;rw[cX]at ae;cases aw:Pv.look k L with
  |some x=>rw[aw]at ae;simp only[dD]at ae;subst ae;obtain⟨I,U,ao⟩:=e1 _ (uN aw);exact⟨I,mV U,kJ (fun k ae=>mV ae) _ ao⟩
  |none=>rw[aw]at ae;exact⟨ad k cs ae,mV (.inl (.inl (by simp[ae]))),kJ (fun k ae=>mV (.inl ae)) _ (gb.kb k cs ae)⟩
 ·exact⟨he k o ax,mV (.inl (.inr (by simp at ax;simp[ax]))),fun xs ab=>kJ (fun k ae=>mV (.inl ae)) _ (gb.ke k o ax xs ab)⟩
theorem QV{arC β:Type}(s:List (aM×β)):∀(l:List (aM×arC)),(∀k x,(k,x)∈l->Pv.look k s=none)->cc s l=l
 |[],_=>rfl
 |(k,x)::r,h=>by have I:=h k x Ψ;simp only[cc,I];rw[QV s r fun k x ab=>h k x (by simp[ab])]
def j6(S:List α->cU)(d:Array α)(r:Nat):cU:=⟨(.obj 902,[.int .u64 r])::(S d.toList).b,(S d.toList).e⟩
theorem Gk(H:fo S n g cd lc ca lt)(d:Array α)(v:Nat):dP (j6 S d v):=by
 have h:=H.ok d.toList;have gZ:∀k,inObs (S d.toList) k->inObs (j6 S d v) k:=fun k ae=>by
  rcases ae with ae|ae
  ·refine .inl ?_;simp only[j6,Pv.look];split
   ·rfl
   ·exact ae
  ·exact .inr ae
 refine⟨⟨fun m=>?_,h.obj.2⟩,fun k cs ae=>?_,fun k o ax xs ab=>kJ gZ _ (h.ke k o ax xs ab)⟩
 ·simp[j6,Pv.look,h.obj.1 m]
 ·simp only[j6,Pv.look]at ae;split at ae
  ·cases ae;simp[aP,aK]
  ·exact kJ gZ _ (h.kb k cs ae)
theorem abZ{ob O:List aM}{d2:Array α}{y:Nat}{D:List aj}(gb:dP (j6 S d2 y))(di:∀k,inObs (j6 S d2 y) k->k∈O)(vQ:∀k∈ob,k∈O){st:bt}{dH:List (Nat×aj)}(aC:∀x∈dH,Pv.get x.1 st.t=x.2/\aK (nc (j6 S d2 y) 1) x.2)(bB:Pv.look (.loc 0) st.b=some D)(sK:aP (nc (j6 S d2 y) 1) D)
  (ad:∀k cs,Pv.look k (j6 S d2 y).b=some cs->Pv.look k st.b=some cs) (he:∀k o,Pv.look k (j6 S d2 y).e=some o->Pv.look k st.e=some o):jD ob st ⟨dH,(.loc 0,D)::(.obj 902,[.int .u64 y])::(S d2.toList).b,(S d2.toList).e,1,O⟩:=
 ab0 (L:=[(.loc 0,D)]) gb di vQ aC (fun x ab=>by simp only[iG]at ab;subst ab;exact⟨bB,YA _ _ _ Ω,sK⟩) ad he
theorem ahc(H:fo S n g cd lc ca lt)(ae:tj S 902)(d:Array α)(aD:d.size=n)(a b:Nat)(oa:a<=b)(ad:b<=n)(jm:8<=b-a):
  bL aA 197 [fe g cd lc ca,.int .i64 a,.int .i64 b] (S d.toList) fun r ai=>r= .tuple []/\∃cn,ai=S cn.toList/\cn=Sort.breakPatterns d a b/\cn.size=n:=by
 have af:=H.ok d.toList;have aw:d.toList.length=n:=by simpa using aD
 have au:∀l m,Pv.look (.loc m) (S l).b=none:=fun l=>(H.ok l).obj.1;have hu:∀l m cs,cI (.loc m) cs (S l).b=(S l).b++[(.loc m,cs)]:=fun l m cs=>kR (au l m);have ax:∀m,aM.loc m∉dc (S d.toList):=kM af.obj;have gQ:∀l,Pv.look (.obj 902) (S l).b=none:=fun l=>(ae l).1;have jo:∀l,Pv.look (.obj 902) (S l).e=none:=fun l=>(ae l).2;have hle:=H.le;have my:=YD ae d.toList;rw[adi d a b jm];obtain⟨len,hlen⟩:∃len,len=b-a:=⟨_,rfl⟩;rw[<-hlen];obtain⟨M,ga⟩:∃M,M=1<<<Sort.bitsLen len:=⟨_,rfl⟩;rw[<-ga];have as8:len<M/\M<=2*len:=by have:=aqb (x:=len) Ω;rw[ga,Nat.one_shiftLeft];omega
 obtain⟨q,bs⟩:∃q,q=len/4:=⟨_,rfl⟩;rw[<-bs];have zg:∀l D cs,cI (.obj 902) cs ((S l).b++[(.loc 0,D)])=(S l).b++[(.loc 0,D),(.obj 902,cs)]:=fun l D cs=>by rw[CL (gQ l)];rfl
 have WM:∀l D x y,cI (.obj 902) y ((S l).b++[(.loc 0,D),(.obj 902,x)])=(S l).b++[(.loc 0,D),(.obj 902,y)]:=fun l D x y=>by rw[CL (gQ l)];simp[cI]
 have el:((b:Int)-a)=(len:Nat):=Ω
 have dr:nR.wrap ((len:Int).tdiv 4)=(q:Nat):=by rw[Int.tdiv_eq_ediv_of_nonneg Ω,nl _ Ω];omega
 have ew:hT.wrap (len:Int)=len:=by simp[tM,oK,sn];omega
 refine bL.mk mixed pc Tryz.func197 amG Ψ af.obj fun aR cN=>?_;unfold SU;have iK:=aq5 len Ω;rw[<-ga]at iK;simp[fe,hu,zg,WM,ax,my,cX,au,gQ,jo,Pv.look,cI,el,ew];have iw:nR.wrap ((len:Int)/4)=(q:Nat):=by rw[nl _ Ω];omega
 ((with_reducible repeat' first|refine ak ?_|refine aF iK ?_|refine aG iK ?_|simp[el,ew,dr,iw,hu,zg,WM,ax,my,cX,au,gQ,jo,Pv.look,cI]|((first|apply bN|apply bP|apply bO)<;>intro h<;>try simp at h))<;>(try exact cf));obtain⟨i0,D4⟩:∃i0,i0=a+q*2-1:=⟨_,rfl⟩;rw[<-D4];have adJ:((a:Int)+q*2-1)=(i0:Nat):=Ω
 rw[adJ];have di:∀(cw:Array α) r k,inObs (j6 S cw r) k->cw.size=n->k∈aM.obj 902::dc (S d.toList):=fun cw r k h fk=>by
  have dU:=H.same d.toList cw.toList aw (by simpa using fk);rcases h with h|h
  ·simp only[j6,Pv.look]at h;split at h
   ·rename_i e;subst e;simp
   ·exact mh _ (uU (.inl (by rw[dU.b];exact h)))
  ·exact mh _ (uU (.inr (by rw[dU.e];exact h)))
 have y4:∀(cw:Array α) r,cw.size=n->aP (nc (j6 S cw r) 1) [.func g lc,.func cd ca]:=fun cw r fk=>by
  have I:=H.kdata (lk:=cw.toList) (by simpa using fk);have U:aP (inObs (S cw.toList)) [.func g lc,.func cd ca]:=by simpa[fe,aK,aP]using I
  refine kJ (fun k ae=>.inl ?_) _ U;rcases ae with ae|ae
  ·refine .inl ?_;simp only[j6,Pv.look];split
   ·rfl
   ·exact ae
  ·exact .inr ae
 have atp:∀(cw:Array α) r D k cs,Pv.look k (j6 S cw r).b=some cs->Pv.look k ((.loc 0,D)::(j6 S cw r).b)=some cs:=fun cw r D k cs h=>by
  cases k with
  |loc m=>rw[(Gk H cw r).obj.1 m]at h;cases h
  |obj m=>simpa[Pv.look]using h
 refine n2 (fun(x:Nat×UInt64×Array α)=>⟨[(1,.int .i64 a),(3,.ptr (.loc 0) 0),(6,.int .i64 len),(7,.ptr (.obj 902) 0),(8,.int .u64 M),(9,.int .i64 ((i0+x.1:Nat):Int))],[(.loc 0,[.func g lc,.func cd ca])]++(j6 S x.2.2 x.2.1.toNat).b,(j6 S x.2.2 x.2.1.toNat).e,1,aM.obj 902::dc (S d.toList)⟩) (fun x=>3-x.1)
  (fun x=>x.1<=3/\x.2.2.size=n/\AA a len M i0 d x.1=x.2) (0,UInt64.ofNat len,d) ?_ ⟨Ψ,aD,rfl⟩ ?_
 ·refine ab0 (Gk H d _) (fun k h=>di d _ k h aD) (fun k h=>mh _ h) (by simp[aK,inObs,j6,Pv.look,nc]) ?_ ?_ aL
  ·intro x ab;simp only[iG]at ab;subst ab;exact⟨by simp[cX,au,Pv.look],YA _ _ _ Ω,y4 d _ aD⟩
  ·intro k cs h;simp only[j6,Pv.look]at h;rw[cX];split at h
   ·rename_i e;subst e;rw[gQ];have:(UInt64.ofNat len).toNat=len:=by simp;omega
    rw[this]at h;simpa[Pv.look]using h
   ·rw[h]
 rintro⟨k,r,cw⟩ ⟨aS,bh,bX⟩ _;simp only at aS bh bX;have aN:=r.toNat_lt;obtain⟨x,ab⟩:∃x,x=r.toNat:=⟨_,rfl⟩;rw[<-ab]at aN⊢;have hy:Sort.xorNextN x<18446744073709551616:=Sort.xorNextN_lt x Ω;have xu:(Sort.xorNext r).toNat=Sort.xorNextN x:=by rw[Sort.xorNext_toNat,<-ab]
 obtain⟨y,aB⟩:∃y,y=Sort.xorNextN x:=⟨_,rfl⟩;have adE:hT.wrap ((M:Int)-1)=(M-1:Nat):=by simp[tM,oK,sn];omega
 have yV:=ac8 y (M-1) Ω Ω;obtain⟨z,a8⟩:∃z,z=y&&& (M-1):=⟨_,rfl⟩;rw[<-a8]at yV;have atC:z<=M-1:=by rw[a8];exact Nat.and_le_right
 have oU:nR.wrap (z:Int)=z:=by rw[nl _ Ω]
 by_cases aiS:k=3
 ·subst aiS;simp[j6,Pv.look,iw];((with_reducible repeat' first|refine ak ?_|simp[iw]|((first|apply bN|apply bP|apply bO)<;>intro h<;>try simp at h))<;>(try exact cf));refine cR.at (S cw.toList) (.inr rfl) (H.ok _) (H.same _ _ aw (by simpa using bh)) (fun k cs h=>?_) (fun _ _ h=>h) ?_
  ·simp only[Pv.look];split
   ·rename_i e;subst e;rw[au]at h;cases h
   ·split
    ·rename_i e;subst e;rw[gQ]at h;cases h
    ·exact h
  ·simp[cV,aY,a6,aX];exact⟨cw,rfl,by rw[bX],bh⟩
 ·have xp:((i0+k:Nat):Int)<=(a:Int)+q*2+1:=Ω
  have Wf:((i0:Int)+k)<=(a:Int)+q*2+1:=Ω
  simp[j6,Pv.look,iw,Wf,xp];(with_reducible repeat' first|refine ak ?_|simp[iw,Wf,xp,Pv.look]);have atv:=H.same d.toList cw.toList aw (by simpa using bh);have ajO:∀(gg:Array α) (v:List aj),cc [(aM.obj 902,v)] (S gg.toList).b=(S gg.toList).b:=fun gg v=>QV _ _ fun k x hm=>by
   have:=wb hm;simp only[Pv.look];split
   ·rename_i e;subst e;rw[gQ]at this;cases this
   ·rfl
  refine cY.ob (ag7 x Ω) (KE x) (fun k cs h=>?_) (fun k o h=>by simp[nW,Pv.look]at h) (by simp[aK,aP,inObs,nW,Pv.look]) ?_
  ·simp only[nW,Pv.look]at h⊢;split at h
   ·rename_i e;subst e;simpa using h
   ·cases h
  rintro e2 ai ⟨rfl,rfl⟩;refine⟨Rh _ _,?_⟩;rw[<-aB];have aeH:cc (nW x).b ((aM.loc 0,[aj.func g lc,aj.func cd ca])::(aM.obj 902,[aj.int .u64 x])::(S cw.toList).b)=(aM.loc 0,[aj.func g lc,aj.func cd ca])::(S cw.toList).b:=by simp[nW,cc,Pv.look,ajO]
  have aeI:cc (nW x).e (S cw.toList).e=(S cw.toList).e:=QV _ _ fun _ _ _=>rfl;rw[aeH,aeI,show(nW y).b=[(aM.obj 902,[aj.int .u64 y])]from rfl,show(nW y).e=[]from rfl,List.append_nil];have as6:∀(v:List aj),Pv.look (.obj 902) ((aM.loc 0,[aj.func g lc,aj.func cd ca])::((S cw.toList).b++[(aM.obj 902,v)]))=some v:=fun v=>by simp[Pv.look,cX,gQ]
  have RN:∀o',o'<len->o'=(if z≥len then z-len else z)->Sort.breakStep a len M (r,cw) (i0+k)=(Sort.xorNext r,Sort.swp cw (i0+k) (a+o')):=fun o' I U=>by unfold Sort.breakStep;simp only[xu,<-aB,<-a8,<-U]
  have Ur:((i0:Int)+k)=((i0+k:Nat):Int):=Ω
  simp only[e6,aM.obj.injEq];simp[-BitVec.toNat_and,-BitVec.ofInt_natCast,adE,yV,oU,Pv.look,H.ssc];by_cases atD:len<=z
  ·have Nw:(len:Int)<=z:=Ω
   have LM:((a:Int)+(z-len))=((a+(z-len):Nat):Int):=Ω
   ((with_reducible repeat' first|refine ak ?_|simp[Nw,Pv.look,H.ssc]|((first|apply bN|apply bP|apply bO)<;>intro h<;>try simp at h))<;>(try exact cf));rw[LM,Ur];refine cY.ob (H.swap cw.toList (by simpa using bh) Ω (i0+k) (a+(z-len)) Ω Ω) (H.ok _) (fun bJ cs h=>?_) (fun _ _ h=>h) (by simp[aK,aP,H.ksc cw.toList (by simpa using bh)]) ?_
   ·simp only[Pv.look];split
    ·rename_i e;subst e;rw[au]at h;cases h
    ·rw[cX,h]
   rintro e2 ai ⟨rfl,rfl⟩;refine⟨H.same _ _ (by simpa using bh) (by simpa using bh),?_⟩;rw[IN cw Ω Ω];obtain⟨d2,e5⟩:∃d2,d2=Sort.swp cw (i0+k) (a+(z-len)):=⟨_,rfl⟩;have s2:d2.size=n:=by rw[e5,hq,bh]
   rw[<-e5];have LQ:∀v:List aj,cc (S cw.toList).b ((aM.loc 0,[aj.func g lc,aj.func cd ca])::((S cw.toList).b++[(aM.obj 902,v)]))=[(aM.loc 0,[aj.func g lc,aj.func cd ca]),(aM.obj 902,v)]:=fun v=>by simp only[cc,au];rw[jw,hC];simp[cc,gQ]
   dsimp only;rw[LQ,hC];simp;(with_reducible repeat' first|refine ak ?_|simp);have LI:((i0:Int)+k+1)=((i0+(k+1):Nat):Int):=Ω
   rw[LI];refine bS.whl (k+1,Sort.xorNext r,d2) d7 ⟨by simp;omega,s2,by simp only[AA,bX];rw[RN (z-len) Ω (by rw[if_pos Ω]),e5]⟩ ?_;rw[xu,<-aB];refine abZ (Gk H d2 y) (fun k h=>di d2 _ k h s2) (fun k h=>mh _ h) (by simp[aK,inObs,j6,Pv.look,nc]) (by simp[Pv.look]) (y4 d2 _ s2) ?_ (fun _ _ h=>h);intro k cs h;simp only[j6,Pv.look]at h⊢;split at h
   ·rename_i e;subst e;simpa using h
   ·rename_i e;split
    ·rename_i aE;subst aE;rw[au]at h;cases h
    ·exact h
  ·have Nw:¬(len:Int)<=z:=Ω
   have LM:((a:Int)+z)=((a+z:Nat):Int):=Ω
   ((with_reducible repeat' first|refine ak ?_|simp[Nw,Pv.look,H.ssc]|((first|apply bN|apply bP|apply bO)<;>intro h<;>try simp at h))<;>(try exact cf));rw[LM,Ur];refine cY.ob (H.swap cw.toList (by simpa using bh) Ω (i0+k) (a+z) Ω Ω) (H.ok _) (fun bJ cs h=>?_) (fun _ _ h=>h) (by simp[aK,aP,H.ksc cw.toList (by simpa using bh)]) ?_
   ·simp only[Pv.look];split
    ·rename_i e;subst e;rw[au]at h;cases h
    ·rw[cX,h]
   rintro e2 ai ⟨rfl,rfl⟩;refine⟨H.same _ _ (by simpa using bh) (by simpa using bh),?_⟩;rw[IN cw Ω Ω];obtain⟨d2,e5⟩:∃d2,d2=Sort.swp cw (i0+k) (a+z):=⟨_,rfl⟩;have s2:d2.size=n:=by rw[e5,hq,bh]
   rw[<-e5];have LQ:∀v:List aj,cc (S cw.toList).b ((aM.loc 0,[aj.func g lc,aj.func cd ca])::((S cw.toList).b++[(aM.obj 902,v)]))=[(aM.loc 0,[aj.func g lc,aj.func cd ca]),(aM.obj 902,v)]:=fun v=>by simp only[cc,au];rw[jw,hC];simp[cc,gQ]
   dsimp only;rw[LQ,hC];simp;(with_reducible repeat' first|refine ak ?_|simp);have LI:((i0:Int)+k+1)=((i0+(k+1):Nat):Int):=Ω
   rw[LI];refine bS.whl (k+1,Sort.xorNext r,d2) d7 ⟨by simp;omega,s2,by simp only[AA,bX];rw[RN z Ω (by rw[if_neg Ω]),e5]⟩ ?_;rw[xu,<-aB];refine abZ (Gk H d2 y) (fun k h=>di d2 _ k h s2) (fun k h=>mh _ h) (by simp[aK,inObs,j6,Pv.look,nc]) (by simp[Pv.look]) (y4 d2 _ s2) ?_ (fun _ _ h=>h);intro k cs h;simp only[j6,Pv.look]at h⊢;split at h
   ·rename_i e;subst e;simpa using h
   ·rename_i e;split
    ·rename_i aE;subst aE;rw[au]at h;cases h
    ·exact h
end
section
open Go Go.Pv
variable {α:Type} [Inhabited α] {S:List α->cU} {n g cd:Nat} {lc ca:List aj} {lt:α->α->Bool}
theorem fo.fnD{d d2:Array α}(H:fo S n g cd lc ca lt)(I:d.size=n){f:Nat}{args:List aj}{r:aj}(aO:bL aA f args (S d.toList) fun e2 ai=>e2=r/\∃cn,ai=S cn.toList/\cn=d2/\cn.size=n)(ae:aP (inObs (S d.toList)) args){t:List (Nat×aj)}{D:List aj}{o:List aM}{cn:Option Nat}{K:bt->Prop}
  (h:d2.size=n->∀o,K ⟨e6 cn r t,(.loc 0,D)::(S d2.toList).b,(S d2.toList).e,1,o⟩):cY aA f args ⟨t,(.loc 0,D)::(S d.toList).b,(S d.toList).e,1,o⟩ cn K:=
 H.call (by simpa using I) (R:=fun e2 ba=>e2=r/\ba=d2.toList/\d2.size=n) (aO.mono fun r ai ⟨ar,cn,aE,bA,dr⟩=>⟨cn.toList,aE,ar,by rw[bA],by rw[<-bA];exact dr⟩) (fun r ba ⟨_,e,h⟩=>by rw[e];simpa using h) ae (by rintro e2 ba ⟨rfl,rfl,U⟩;exact h U _)
attribute [local simp] kq
def CZ(S:List α->cU)(n g cd:Nat)(lc ca:List aj)(lt:α->α->Bool)(m:Nat):Prop:=
 ∀k,k<m->∀(d:Array α),d.size=n->∀a b xL:Nat,b-a<=k->a<=b->b<=n->xL<=1000->Sort.Below lt a b d->
  bL aA 170 [fe g cd lc ca,.int .i64 a,.int .i64 b,.int .i64 xL] (S d.toList) fun r ai=>r= .tuple []/\∃cn,ai=S cn.toList/\Sort.PermIn a b d cn/\Sort.SortedIn lt a b cn
structure yq (S:List α->cU) (n g cd:Nat) (lc ca:List aj) (lt:α->α->Bool) (bq b3 lim:Nat) (d:Array α) (Q:Exit->bt->Prop):Prop where
 k:∀e,e= .normal\/e= .exit 1->∀(a2 b2:Nat) (w v:Bool) (L:Array α) (t:List (Nat×aj)) (o:List aM),L.size=n->a2<=b2->b2<=n->b2-a2<b3-bq->Sort.Below lt a2 b2 L->(∀R,Sort.PermIn a2 b2 L R->Sort.SortedIn lt a2 b2 R->Sort.PermIn bq b3 d R/\Sort.SortedIn lt bq b3 R)->
  Pv.get 1 t= .int .i64 a2->Pv.get 2 t= .int .i64 b2->Pv.get 3 t= .int .i64 lim->Pv.get 4 t= .ptr (.loc 0) 0->Pv.get 8 t= .bool w->Pv.get 9 t= .bool v->Q e ⟨t,(.loc 0,[.func g lc,.func cd ca])::(S L.toList).b,(S L.toList).e,1,o⟩
 r:∀(R:Array α) t o,Sort.PermIn bq b3 d R->Sort.SortedIn lt bq b3 R->Q .ret ⟨t,(.loc 0,[.func g lc,.func cd ca])::(S R.toList).b,(S R.toList).e,1,o⟩
theorem yq.mono{bq b3 lim:Nat}{d cn:Array α}{Q:Exit->bt->Prop}(h:yq S n g cd lc ca lt bq b3 lim d Q)(p:Sort.PermIn bq b3 d cn):yq S n g cd lc ca lt bq b3 lim cn Q:=⟨fun e he a2 b2 w v L t o ar aE bA dr iw ix=>h.k e he a2 b2 w v L t o ar aE bA dr iw fun R fc gh=>⟨Sort.permIn_trans _ _ _ bq b3 p (ix R fc gh).1,(ix R fc gh).2⟩,fun R t o fc gh=>h.r R t o (Sort.permIn_trans _ _ _ bq b3 p fc) gh⟩
structure Au (t:List (Nat×aj)) (bq b3 lim:Nat):Prop where
 t1:Pv.get 1 t= .int .i64 bq
 t2:Pv.get 2 t= .int .i64 b3
 t3:Pv.get 3 t= .int .i64 lim
 t4:Pv.get 4 t= .ptr (.loc 0) 0
 t10:Pv.get 10 t= .int .i64 ((b3:Int)-bq)
section
variable {bq b3 lim:Nat} {cQ:Array α} {t:List (Nat×aj)} {o:List aM} {ob:List aM} {Q:Exit->bt->Prop}
theorem Y9(H:fo S n g cd lc ca lt)(bD:Sort.SWO lt)(bK:CZ S n g cd lc ca lt (b3-bq)){pv:Nat}(T:Au t bq b3 lim)(t11:Pv.get 11 t= .int .i64 pv)(sT:lim<=1000)(pY:cQ.size=n)(q3:bq<=pv/\pv<b3)(bX:b3<=n)(uh:12<b3-bq)(vc:Sort.Below lt bq b3 cQ)(iL:yq S n g cd lc ca lt bq b3 lim cQ Q):
  dd aA ob Lg Q ⟨t,(.loc 0,[.func g lc,.func cd ca])::(S cQ.toList).b,(S cQ.toList).e,1,o⟩:=by
 obtain⟨t1,t2,t3,t4,t10⟩:=T;have nB:∀gg:Array α,gg.size=n->aK (inObs (S gg.toList)) (fe g cd lc ca):=fun gg h=>H.kdata (lk:=gg.toList) (by simpa using h);have hle:=H.le;unfold Lg;simp[t1,t2,t4,t11,Pv.look,H.slc,H.ssc];simp only[jd H,H.slc,H.ssc,iW];have rY:=ahr H cQ pY bq b3 pv q3.1 q3.2 Ω bX;have bs:Sort.partition lt cQ bq b3 pv=((Sort.partition lt cQ bq b3 pv).1,(Sort.partition lt cQ bq b3 pv).2.1,(Sort.partition lt cQ bq b3 pv).2.2):=rfl;generalize (Sort.partition lt cQ bq b3 pv).1=mid at rY bs;generalize (Sort.partition lt cQ bq b3 pv).2.1=ap at rY bs;generalize (Sort.partition lt cQ bq b3 pv).2.2=d4 at rY bs;obtain⟨g1,g2,g3,g4,g5,g6,g7⟩:=Sort.round_part bD (Sort.partition_holds lt) q3.1 q3.2 Ω vc bs;refine H.fnD pY rY (by simp[aK,aP,nB cQ pY]) fun s4 o=>?_;have em:((mid:Int)+1)=(mid+1:Nat):=Ω
 simp[t1,t2,t3,t4,t10];by_cases atq:mid-bq<b3-mid
 ·have MW:(mid:Int)-bq<b3-mid:=Ω
  (with_reducible repeat' first|refine ak ?_|simp[MW,Pv.look,t1,t2,t3,t4,t10]);simp only[jd H,H.slc,H.ssc,iW];refine H.doFn (lk:=d4.toList) (by simpa using s4) (R:=fun ba=> ∃L:Array α,ba=L.toList/\Sort.PermIn bq mid d4 L/\Sort.SortedIn lt bq mid L) ((bK (mid-bq) Ω d4 s4 bq mid lim (eo _) g1 Ω sT g4).mono fun r ai ⟨aW,cn,bj,bM,cL⟩=>⟨aW,cn.toList,bj,cn,rfl,bM,cL⟩) (by rintro ba ⟨L,rfl,q,_⟩;simpa using q.1.trans s4) (by simp[aP,aK,nB d4 s4]) ?_;rintro ba ⟨L,rfl,cT,dm⟩;obtain⟨lz,p3⟩:=g6 L cT dm;simp;(with_reducible repeat' first|refine ak ?_|simp[t1,t2,t3,t4]);rw[em];exact iL.k _ (.inl rfl) (mid+1) b3 _ ap L _ _ (cT.1.trans s4) Ω bX Ω lz p3 Ψ (by simp[t2]) (by simp[t3]) (by simp[t4]) (by simp;rfl) Ψ
 ·have MW:¬(mid:Int)-bq<b3-mid:=Ω
  (with_reducible repeat' first|refine ak ?_|simp[MW,Pv.look,t1,t2,t3,t4,t10]);simp only[jd H,H.slc,H.ssc,iW];rw[em];refine H.doFn (lk:=d4.toList) (by simpa using s4) (R:=fun ba=> ∃L:Array α,ba=L.toList/\Sort.PermIn (mid+1) b3 d4 L/\Sort.SortedIn lt (mid+1) b3 L) ((bK (b3-(mid+1)) Ω d4 s4 (mid+1) b3 lim (eo _) Ω bX sT g5).mono fun r ai ⟨aW,cn,bj,bM,cL⟩=>⟨aW,cn.toList,bj,cn,rfl,bM,cL⟩) (by rintro ba ⟨L,rfl,q,_⟩;simpa using q.1.trans s4) (by simp[aP,aK,nB d4 s4]) ?_;rintro ba ⟨L,rfl,cT,dm⟩;obtain⟨lz,p3⟩:=g7 L cT dm;simp;(with_reducible repeat' first|refine ak ?_|simp[t1,t2,t3,t4]);exact iL.k _ (.inl rfl) bq mid _ ap L _ _ (cT.1.trans s4) g1 Ω Ω lz p3 (by simp[t1]) Ψ (by simp[t3]) (by simp[t4]) (by simp;rfl) Ψ
theorem anR(H:fo S n g cd lc ca lt)(bD:Sort.SWO lt)(bK:CZ S n g cd lc ca lt (b3-bq)){pv:Nat}(T:Au t bq b3 lim)(t11:Pv.get 11 t= .int .i64 pv){w v:Bool}(t8:Pv.get 8 t= .bool w)(t9:Pv.get 9 t= .bool v)(sT:lim<=1000)(pY:cQ.size=n)(q3:bq<=pv/\pv<b3)(bX:b3<=n)(uh:12<b3-bq)(vc:Sort.Below lt bq b3 cQ)(iL:yq S n g cd lc ca lt bq b3 lim cQ Q):
  dd aA ob Dg Q ⟨t,(.loc 0,[.func g lc,.func cd ca])::(S cQ.toList).b,(S cQ.toList).e,1,o⟩:=by
 obtain⟨t1,t2,t3,t4,t10⟩:=id T;have hle:=H.le;unfold Dg;by_cases uj:0<bq
 ·have Mz:(0:Int)<bq:=Ω
  simp[t1,t2,t4,t11,uj,Mz,Pv.look,H.slc,H.ssc];(with_reducible repeat' first|refine ak ?_|simp[t1,t2,t4,t11,uj,Mz,Pv.look,H.slc,H.ssc]);rw[show((bq:Int)-1)=((bq-1:Nat):Int) by omega];refine H.lessA pY (bq-1) pv Ω Ω fun o=>?_;cases kt:lt cQ[bq-1]! cQ[pv]!
  ·simp;(with_reducible repeat' first|refine ak ?_|simp[Pv.look,H.slc,H.ssc,t1,t2,t4,t11]);simp only[jd H,H.slc,H.ssc,iW];have rY:=ahs H cQ pY bq b3 pv q3.1 q3.2 Ω bX;have bs:Sort.partitionEqual lt cQ bq b3 pv=((Sort.partitionEqual lt cQ bq b3 pv).1,(Sort.partitionEqual lt cQ bq b3 pv).2):=rfl;generalize (Sort.partitionEqual lt cQ bq b3 pv).1=mid at rY bs;generalize (Sort.partitionEqual lt cQ bq b3 pv).2=d4 at rY bs;obtain⟨g1,g2,g3,g4,g5⟩:=Sort.round_eq bD (Sort.partitionEqual_holds lt) uj q3.1 q3.2 Ω vc kt bs;refine H.fnD pY rY (by simp[aK,aP,H.kdata (lk:=cQ.toList) (by simpa using pY)]) fun s4 o=>?_;simp[t1,t2,t3,t4];exact iL.k _ (.inr rfl) mid b3 w v d4 _ _ s4 g2 bX Ω g4 g5 Ψ (by simp[t2]) (by simp[t3]) (by simp[t4]) (by simp[t8]) (by simp[t9])
  ·simp;exact Y9 H bD bK ⟨by simp[t1],by simp[t2],by simp[t3],by simp[t4],by simp[t10]⟩ (by simp[t11]) sT pY q3 bX uh vc iL
 ·have Mz:¬(0:Int)<bq:=Ω
  simp[t1,uj];exact Y9 H bD bK ⟨by simp[t1],by simp[t2],by simp[t3],by simp[t4],by simp[t10]⟩ (by simp[t11]) sT pY q3 bX uh vc iL
theorem O3(H:fo S n g cd lc ca lt)(bD:Sort.SWO lt)(bK:CZ S n g cd lc ca lt (b3-bq)){pv:Nat}(T:Au t bq b3 lim)(t11:Pv.get 11 t= .int .i64 pv){h:Nat}(t12:Pv.get 12 t= .int .i64 h){w v:Bool}(t8:Pv.get 8 t= .bool w)(t9:Pv.get 9 t= .bool v)(sT:lim<=1000)(pY:cQ.size=n)(q3:bq<=pv/\pv<b3)(bX:b3<=n)(uh:12<b3-bq)(vc:Sort.Below lt bq b3 cQ)(iL:yq S n g cd lc ca lt bq b3 lim cQ Q):
  dd aA ob Lh Q ⟨t,(.loc 0,[.func g lc,.func cd ca])::(S cQ.toList).b,(S cQ.toList).e,1,o⟩:=by
 obtain⟨t1,t2,t3,t4,t10⟩:=id T;have hle:=H.le;unfold Lh;have next:∀{d5:Array α} {t o},Au t bq b3 lim->Pv.get 11 t= .int .i64 pv->Pv.get 8 t= .bool w->Pv.get 9 t= .bool v->d5.size=n->Sort.Below lt bq b3 d5->Sort.PermIn bq b3 cQ d5->dd aA ob Dg Q ⟨t,(.loc 0,[.func g lc,.func cd ca])::(S d5.toList).b,(S d5.toList).e,1,o⟩:=fun ar aE bA dr iw ix sw=>anR H bD bK ar aE bA dr sT iw q3 bX uh ix (iL.mono sw)
 have skip:∀{t o},Au t bq b3 lim->Pv.get 11 t= .int .i64 pv->Pv.get 8 t= .bool w->Pv.get 9 t= .bool v->dd aA ob Dg Q ⟨t,(.loc 0,[.func g lc,.func cd ca])::(S cQ.toList).b,(S cQ.toList).e,1,o⟩:=fun ar aE bA dr=>next ar aE bA dr pY vc (Sort.permIn_refl _ _ _)
 by_cases aq:(w=true/\v=true)/\h=1
 ·obtain⟨⟨rfl,rfl⟩,rfl⟩:=aq;simp[t1,t2,t4,t8,t9,t12,Pv.look,H.slc,H.ssc];simp only[jd H,H.slc,H.ssc,iW];have rY:=ahq H cQ pY bq b3 Ω bX Ω;have bs:=Sort.partialInsertionSort_holds bD cQ bq b3 Ω Ω vc;generalize (Sort.partialInsertionSort lt cQ bq b3).1=d5 at rY bs;generalize (Sort.partialInsertionSort lt cQ bq b3).2=ok at rY bs;refine H.fnD pY rY (by simp[aK,aP,H.kdata (lk:=cQ.toList) (by simpa using pY)]) fun api o=>?_;cases ok
  ·simp;exact next ⟨by simp[t1],by simp[t2],by simp[t3],by simp[t4],by simp[t10]⟩ (by simp[t11]) (by simp[t8]) (by simp[t9]) api (vc.perm Ω bs.1) bs.1
  ·simp;exact iL.r _ _ _ bs.1 (bs.2 rfl)
 ·cases w
  ·simp[t8,t9,t12];exact skip ⟨by simp[t1],by simp[t2],by simp[t3],by simp[t4],by simp[t10]⟩ (by simp[t11]) (by simp[t8]) (by simp[t9])
  ·cases v
   ·simp[t8,t9,t12];exact skip ⟨by simp[t1],by simp[t2],by simp[t3],by simp[t4],by simp[t10]⟩ (by simp[t11]) (by simp[t8]) (by simp[t9])
   ·have I:((h:Int)==1)=false:=by simp at aq⊢;omega
    simp[t8,t9,t12,I];exact skip ⟨by simp[t1],by simp[t2],by simp[t3],by simp[t4],by simp[t10]⟩ (by simp[t11]) (by simp[t8]) (by simp[t9])
theorem Za(H:fo S n g cd lc ca lt)(gQ:tj S 901)(bD:Sort.SWO lt)(bK:CZ S n g cd lc ca lt (b3-bq))(T:Au t bq b3 lim){w v:Bool}(t8:Pv.get 8 t= .bool w)(t9:Pv.get 9 t= .bool v)(sT:lim<=1000)(s1:cQ.size=n)(bX:b3<=n)(uh:12<b3-bq)(Kv:Sort.Below lt bq b3 cQ)(iL:yq S n g cd lc ca lt bq b3 lim cQ Q):
  dd aA ob Li Q ⟨t,(.loc 0,[.func g lc,.func cd ca])::(S cQ.toList).b,(S cQ.toList).e,1,o⟩:=by
 obtain⟨t1,t2,t3,t4,t10⟩:=id T;have hle:=H.le;have nB:∀gg:Array α,gg.size=n->aK (inObs (S gg.toList)) (fe g cd lc ca):=fun gg h=>H.kdata (lk:=gg.toList) (by simpa using h);unfold Li;simp[t1,t2,t4,Pv.look,H.slc,H.ssc];simp only[jd H,H.slc,H.ssc,iW];have qq:=Sort.choosePivot_holds lt cQ bq b3 Ω;have NM:=ahd H gQ cQ s1 bq b3 Ω bX;generalize Sort.choosePivot lt cQ bq b3=Lw at NM qq;obtain⟨p,hint⟩:=Lw;simp only at NM qq;refine H.fnA s1 s1 NM (by simp[aK,aP,nB cQ s1]) fun o=>?_;cases hint
 ·simp[Bh];exact O3 H bD bK ⟨by simp[t1],by simp[t2],by simp[t3],by simp[t4],by simp[t10]⟩ (pv:=p) Ψ (h:=0) Ψ (w:=w) (v:=v) (by simp[t8]) (by simp[t9]) sT s1 qq bX uh Kv iL
 ·simp[Bh];exact O3 H bD bK ⟨by simp[t1],by simp[t2],by simp[t3],by simp[t4],by simp[t10]⟩ (pv:=p) Ψ (h:=1) Ψ (w:=w) (v:=v) (by simp[t8]) (by simp[t9]) sT s1 qq bX uh Kv iL
 ·simp[Bh,t1,t2,t4,Pv.look,H.slc,H.ssc];simp only[jd H,H.slc,H.ssc,iW];refine H.fnD s1 (ahx H cQ s1 bq b3 Ω bX Ω) (by simp[aK,aP,nB cQ s1]) fun s2 o=>?_;have aN:=Sort.reverseRange_holds cQ bq b3 Ω Ω;have Uu:((b3:Int)-1-(p-bq))=((b3-1)-(p-bq):Nat):=Ω
  simp[t1,t2,Uu];(with_reducible repeat' first|refine ak ?_|simp[Uu,t1,t2]);exact O3 H bD bK ⟨by simp[t1],by simp[t2],by simp[t3],by simp[t4],by simp[t10]⟩ (pv:=(b3-1)-(p-bq)) Ψ (h:=1) Ψ (w:=w) (v:=v) (by simp[t8]) (by simp[t9]) sT s2 Ω bX uh (Kv.perm Ω aN) (iL.mono aN)
end
theorem aht(H:fo S n g cd lc ca lt)(gQ:tj S 901)(jo:tj S 902)(bD:Sort.SWO lt)(m:Nat):∀(d:Array α) (aD:d.size=n) (a b xL:Nat) (hm:b-a<=m) (oa:a<=b) (ad:b<=n) (ik:xL<=1000) (DS:Sort.Below lt a b d),
  bL aA 170 [fe g cd lc ca,.int .i64 a,.int .i64 b,.int .i64 xL] (S d.toList) fun r ai=>r= .tuple []/\∃cn,ai=S cn.toList/\Sort.PermIn a b d cn/\Sort.SortedIn lt a b cn:=by
 induction m using qQ with
 |ind m bK=>
 intro d aD a b xL hm oa ad ik DS;have af:=H.ok d.toList;have aw:d.toList.length=n:=by simpa using aD
 have au:∀l m,Pv.look (.loc m) (S l).b=none:=fun l=>(H.ok l).obj.1;have hu:∀l m cs,cI (.loc m) cs (S l).b=(S l).b++[(.loc m,cs)]:=fun l m cs=>kR (au l m);have ax:∀m,aM.loc m∉dc (S d.toList):=kM af.obj;have hle:=H.le;refine bL.mk mixed pc Tryz.func170 amQ Ψ af.obj fun aR cN=>?_;unfold S5;simp[fe,hu,ax,cX,au];refine H.loopA aw [4] (fun(x:((Nat×Nat×Nat)×Bool×Bool)×Array α)=>[(1,.int .i64 x.1.1.1),(2,.int .i64 x.1.1.2.1),(3,.int .i64 x.1.1.2.2),(8,.bool x.1.2.1),(9,.bool x.1.2.2)]) (·.2) (fun x=>x.1.1.2.1-x.1.1.1) (fun x=>x.2.size=n/\(x.1.1.1<=x.1.1.2.1/\x.1.1.2.1<=n/\x.1.1.2.1-x.1.1.1<=m/\x.1.1.2.2<=1000)/\Sort.Below lt x.1.1.1 x.1.1.2.1 x.2/\∀R,Sort.PermIn x.1.1.1 x.1.1.2.1 x.2 R->Sort.SortedIn lt x.1.1.1 x.1.1.2.1 R->Sort.PermIn a b d R/\Sort.SortedIn lt a b R)
  (((a,b,xL),true,true),d) aD ⟨aD,⟨oa,ad,hm,ik⟩,DS,fun R I U=>⟨I,U⟩⟩ (by simp[cX,au]) aL aL d6 ?_
 rintro⟨⟨⟨bq,b3,wa⟩,ars,wp⟩,cw⟩ ⟨aS,⟨bh,bX,ed,dn⟩,NK,Iw⟩;simp only at aS bh bX ed dn NK Iw;have nB:∀gg:Array α,gg.size=n->aK (inObs (S gg.toList)) (fe g cd lc ca):=fun gg h=>H.kdata (lk:=gg.toList) (by simpa using h);have JR:∀(R:Array α) t o,Sort.PermIn bq b3 cw R->Sort.SortedIn lt bq b3 R->cR [] (S d.toList) (fun r ai=>r= .tuple []/\∃cn,ai=S cn.toList/\Sort.PermIn a b d cn/\Sort.SortedIn lt a b cn) .ret ⟨t,(.loc 0,[.func g lc,.func cd ca])::(S R.toList).b,(S R.toList).e,1,o⟩:=fun R t o I U=>by refine H.retA aw (by rw[I.1];exact aS) (.inl rfl) ⟨rfl,R,rfl,Iw R I U⟩
 simp;by_cases uh:b3-bq<=12
 ·have DI:(b3:Int)-bq<=12:=Ω
  (with_reducible repeat' first|refine ak ?_|simp[DI,Pv.look,H.slc,H.ssc]);simp only[jd H,H.slc,H.ssc,iW];refine H.fnD aS (ahh H cw aS bq b3 bh bX) (by simp[aK,aP,nB cw aS]) fun s2 o=>?_;obtain⟨aW,bj⟩:=Sort.insertionSort_holds bD cw bq b3 bh Ω;simp;exact JR _ _ _ aW bj
 have DI:¬(b3:Int)-bq<=12:=Ω
 by_cases Bj:wa=0
 ·have HS:(((wa:Nat):Int)==0)=true:=by simp[Bj]
  (with_reducible repeat' first|refine ak ?_|simp[DI,HS,Pv.look,H.slc,H.ssc]);simp only[jd H,H.slc,H.ssc,iW];refine H.fnD aS (ahg H cw aS bq b3 bh bX Ω) (by simp[aK,aP,nB cw aS]) fun s2 o=>?_;obtain⟨aW,bj⟩:=Sort.heapSort_holds bD cw bq b3 bh Ω;simp;exact JR _ _ _ aW bj
 have HS:(((wa:Nat):Int)==0)=false:=by simp[Bj]
 have Ep:CZ S n g cd lc ca lt (b3-bq):=fun k ae=>bK k Ω;cases ars
 ·(with_reducible repeat' first|refine ak ?_|simp[DI,HS,Pv.look,H.slc,H.ssc]);simp only[jd H,H.slc,H.ssc,iW];refine H.fnD aS (ahc H jo cw aS bq b3 bh bX Ω) (by simp[aK,aP,nB cw aS]) fun s1 o=>?_;have Gf:=Sort.breakPatterns_holds cw bq b3 bh Ω;generalize Sort.breakPatterns cw bq b3=d1 at s1 Gf;have el:((wa:Int)-1)=(wa-1:Nat):=Ω
  simp[el];(with_reducible repeat' first|refine ak ?_|simp[el,Pv.look]);refine Za (lim:=wa-1) H gQ bD Ep ⟨Ψ,Ψ,Ψ,Ψ,Ψ⟩ (w:=false) (v:=wp) Ψ Ψ Ω s1 bX Ω (NK.perm Ω Gf) ⟨?_,fun R t o fc gh=>?_⟩
  ·rintro e he a2 b2 w v L t o ar aE bA dr iw ix t1 t2 t3 t4 t8 t9;rcases he with rfl|rfl<;>simp<;>exact bS.whl (((a2,b2,wa-1),w,v),L) d7 ⟨ar,⟨aE,bA,by simp;omega,by simp;omega⟩,iw,fun R fc gh=>Iw R (Sort.permIn_trans _ _ _ bq b3 Gf (ix R fc gh).1) (ix R fc gh).2⟩ (H.weakC aw (by simpa using ar) (by simp[aK,t1,t2,t3,t4,t8,t9]))
  ·simpa using JR R t o (Sort.permIn_trans _ _ _ bq b3 Gf fc) gh
 ·(with_reducible repeat' first|refine ak ?_|simp[DI,HS,Pv.look,H.slc,H.ssc]);refine Za (lim:=wa) H gQ bD Ep ⟨Ψ,Ψ,Ψ,Ψ,Ψ⟩ (w:=true) (v:=wp) Ψ Ψ dn aS bX Ω NK ⟨?_,fun R t o fc gh=>?_⟩
  ·rintro e he a2 b2 w v L t o ar aE bA dr iw ix t1 t2 t3 t4 t8 t9;rcases he with rfl|rfl<;>simp<;>exact bS.whl (((a2,b2,wa),w,v),L) d7 ⟨ar,⟨aE,bA,by simp;omega,dn⟩,iw,fun R fc gh=>Iw R (ix R fc gh).1 (ix R fc gh).2⟩ (H.weakC aw (by simpa using ar) (by simp[aK,t1,t2,t3,t4,t8,t9]))
  ·simpa using JR R t o fc gh
end
section
open Go Go.Pv
variable {α:Type} {S:List α->cU} {n g cd:Nat} {lc ca:List aj} {lt:α->α->Bool}
theorem alf(bD:rv lt){l lk:List α}{a b i:Nat}(oc:a+1<=i)(Bg:i<=b)(ad:b<=l.length)(af:fx lt (a+1) b l){z:α}(a8:l[a]? =some z)(D6:∀h x,a+1<=h->h<i->l[h]? =some x->lt x z=true)(D3:∀h x,i<=h->h<b->l[h]? =some x->lt x z=false)
  (aN:∀k,lk[k]? =l[iF a (a+1) i k]?):fx lt a b lk:=by
 intro p q x y bG kc bs ab aB;rw[aN]at ab aB;simp only[iF]at ab aB;rw[if_neg Ω]at ab aB;by_cases aW:q<i-1
 ·rw[if_pos Ω]at ab aB;exact af _ _ _ _ Ω Ω Ω ab aB
 ·rw[if_neg Ω]at aB;by_cases bj:q<i
  ·rw[if_pos bj,show q-(i-(a+1))=a by omega,a8]at aB;cases aB;rw[if_pos Ω]at ab;exact bD.asym _ _ (D6 _ _ Ω Ω ab)
  ·rw[if_neg bj]at aB;by_cases cT:p<i-1
   ·rw[if_pos Ω]at ab;exact af _ _ _ _ Ω Ω Ω ab aB
   ·rw[if_neg Ω]at ab;by_cases dm:p<i
    ·rw[if_pos dm,show p-(i-(a+1))=a by omega,a8]at ab;cases ab;exact D3 _ _ Ω bs aB
    ·rw[if_neg dm]at ab;exact af _ _ _ _ Ω Ω bs ab aB
theorem alg(bD:rv lt){l lk:List α}{a m i:Nat}(oc:a<=i)(atn:i<=m)(ad:m+1<=l.length)(af:fx lt a m l){z:α}(a8:l[m]? =some z)(D6:∀h x,a<=h->h<i->l[h]? =some x->lt z x=false)(D3:∀h x,i<=h->h<m->l[h]? =some x->lt z x=true)
  (aN:∀k,lk[k]? =l[iF i m (m+1) k]?):fx lt a (m+1) lk:=by
 intro p q x y bG kc bs ab aB;rw[aN]at ab aB;simp only[iF]at ab aB;by_cases aW:q<i
 ·rw[if_pos Ω]at ab aB;exact af _ _ _ _ bG kc Ω ab aB
 ·rw[if_neg aW]at aB;by_cases bj:q=i
  ·rw[if_pos Ω,show q+(m-i)=m by omega,a8]at aB;cases aB;rw[if_pos Ω]at ab;exact D6 _ _ bG Ω ab
  ·rw[if_neg Ω,if_pos Ω]at aB;by_cases cT:p<i
   ·rw[if_pos cT]at ab;exact af _ _ _ _ bG Ω Ω ab aB
   ·rw[if_neg cT]at ab;by_cases dm:p=i
    ·rw[if_pos Ω,show p+(m-i)=m by omega,a8]at ab;cases ab;exact bD.asym _ _ (D3 _ _ Ω Ω aB)
    ·rw[if_neg Ω,if_pos Ω]at ab;exact af _ _ _ _ Ω Ω Ω ab aB
structure Ge (lt:α->α->Bool) (a s m e b mid:Nat) (lk:List α):Prop where
 s1:fx lt a s lk
 s2:fx lt s mid lk
 s3:fx lt mid e lk
 s4:fx lt e b lk
 cross:∀p q x y,a<=p->p<mid->mid<=q->q<b->lk[p]? =some x->lk[q]? =some y->lt y x=false
theorem fx.le(bD:rv lt){a b:Nat}{l:List α}(h:fx lt a b l){i j:Nat}{x y:α}(I:a<=i)(U:i<=j)(ao:j<b)(ab:l[i]? =some x)(aB:l[j]? =some y):lt y x=false:=by
 by_cases e:i=j
 ·subst e;rw[ab]at aB;cases aB;cases WR:lt x x with
  |false=>rfl
  |true=>have:=bD.asym _ _ WR;rw[WR]at this;exact this
 ·exact h _ _ _ _ I Ω ao ab aB
theorem alq(bD:rv lt){l lk:List α}{a m b mid s e:Nat}(has:a<=s)(dU:s<=m)(atr:m<=e)(atk:e<=b)(ad:b<=l.length)(kY:s+e=mid+m)(I:fx lt a m l)(U:fx lt m b l)
  (bY:s=a\/e=b\/ ∃x y,l[s-1]? =some x/\l[e]? =some y/\lt y x=false) (cB:s=m\/e=m\/ ∃x y,l[s]? =some x/\l[e-1]? =some y/\lt y x=true) (aN:∀k,lk[k]? =l[iF s m e k]?):Ge lt a s m e b mid lk:=by
 have g1:∀p,p<s->lk[p]? =l[p]?:=fun p bG=>by rw[aN];simp[iF,bG]
 have g2:∀p,s<=p->p<mid->lk[p]? =l[p+(m-s)]?:=fun p ao a7=>by rw[aN];simp only[iF];rw[if_neg Ω,if_pos Ω]
 have g3:∀p,mid<=p->p<e->lk[p]? =l[p-(e-m)]?:=fun p ao a7=>by rw[aN];simp only[iF];rw[if_neg Ω,if_neg Ω,if_pos Ω]
 have g4:∀p,e<=p->lk[p]? =l[p]?:=fun p ao=>by
  rw[aN];simp only[iF];rw[if_neg Ω];by_cases b8:p<s+(e-m)
  ·omega
  ·rw[if_neg b8,if_neg Ω]
 refine⟨fun p q x y bG kc bs ab aB=>?_,fun p q x y bG kc bs ab aB=>?_,fun p q x y bG kc bs ab aB=>?_,fun p q x y bG kc bs ab aB=>?_,fun p q x y bG ajp bs M7 ab aB=>?_⟩
 ·rw[g1 _ Ω]at ab aB;exact I _ _ _ _ bG kc Ω ab aB
 ·rw[g2 _ Ω Ω]at ab aB;exact U _ _ _ _ Ω Ω Ω ab aB
 ·rw[g3 _ Ω Ω]at ab aB;exact I _ _ _ _ Ω Ω Ω ab aB
 ·rw[g4 _ Ω]at ab aB;exact U _ _ _ _ Ω Ω Ω ab aB
 ·by_cases cT:p<s
  ·rw[g1 _ cT]at ab;by_cases aW:q<e
   ·rw[g3 _ bs aW]at aB;exact I _ _ _ _ bG Ω Ω ab aB
   ·rw[g4 _ Ω]at aB;rcases bY with bY|bY|⟨u,v,aS,bh,bX⟩
    ·omega
    ·omega
    ·exact bD.ntr _ _ _ (bD.ntr _ _ _ (fx.le bD I bG Ω Ω ab aS) bX) (fx.le bD U Ω Ω M7 bh aB)
  ·rw[g2 _ Ω ajp]at ab;by_cases aW:q<e
   ·rw[g3 _ bs aW]at aB;rcases cB with cB|cB|⟨u,v,aS,bh,bX⟩
    ·omega
    ·omega
    ·exact bD.ntr _ _ _ (bD.ntr _ _ _ (fx.le bD U Ω Ω Ω ab bh) (bD.asym _ _ bX)) (fx.le bD I Ω Ω Ω aS aB)
   ·rw[g4 _ Ω]at aB;exact U _ _ _ _ Ω Ω M7 ab aB
theorem alr{a mid b:Nat}(DR:a<=mid){lk kK hA:List α}(I:gM a mid lk kK)(s1:fx lt a mid kK)(U:gM mid b kK hA)(s2:fx lt mid b hA)(adw:∀p q x y,a<=p->p<mid->mid<=q->q<b->lk[p]? =some x->lk[q]? =some y->lt y x=false):fx lt a b hA:=by
 intro p q x y bG kc bs ab aB;by_cases ao:q<mid
 ·rw[U.out _ (.inl Ω)]at ab;rw[U.out _ (.inl Ω)]at aB;exact s1 _ _ _ _ bG kc ao ab aB
 ·by_cases a7:mid<=p
  ·exact s2 _ _ _ _ a7 kc bs ab aB
  ·rw[U.out _ (.inl Ω)]at ab;refine U.all (fun y=>lt y x=false) (fun k y gQ jo aB=>?_) q y Ω bs aB;rw[I.out _ (.inr gQ)]at aB;exact I.all (fun x=>lt y x=false) (fun bJ x aiQ aiR ab=>adw bJ k x y aiQ aiR gQ jo ab aB) p x bG Ω ab
end
section
open Go Go.Pv
variable {α:Type} {S:List α->cU} {n g cd:Nat} {lc ca:List aj} {lt:α->α->Bool}
def ap2(lt:α->α->Bool)(l:List α)(mid m s0 r0:Nat)(x:Nat×Nat):Prop:=s0<=x.1/\x.1<=x.2/\x.2<=r0/\(x.1=s0\/ ∃u v,l[x.1-1]? =some u/\l[mid+m-x.1]? =some v/\lt v u=false)/\(x.2=r0\/ ∃u v,l[x.2]? =some u/\l[mid+m-x.2-1]? =some v/\lt v u=true)
attribute [local simp] kq
def Gl(S:List α->cU)(n g cd:Nat)(lc ca:List aj)(lt:α->α->Bool)(d:Nat):Prop:=
 ∀(l:List α) (a m b:Nat),l.length=n->b-a<=d->a<m->m<b->b<=n->fx lt a m l->fx lt m b l->
  bL aA 188 [fe g cd lc ca,.int .i64 a,.int .i64 m,.int .i64 b] (S l) fun r ai=>r= .tuple []/\∃ba,ai=S ba/\gM a b l ba/\fx lt a b ba
def Gm(S:List α->cU)(g cd:Nat)(lc ca:List aj)(lt:α->α->Bool)(a b:Nat)(l:List α)(Q:Exit->bt->Prop):Prop:=∀hA t o,gM a b l hA->fx lt a b hA->Q .normal ⟨t,(.loc 0,[.func g lc,.func cd ca])::(S hA).b,(S hA).e,1,o⟩
section
variable {a m b mid i e d:Nat} {l:List α} {t:List (Nat×aj)} {o:List aM} {ob:List aM} {Q:Exit->bt->Prop}
theorem apJ(H:fo S n g cd lc ca lt)(bK:Gl S n g cd lc ca lt d)(t3:Pv.get 3 t= .int .i64 b)(t4:Pv.get 4 t= .ptr (.loc 0) 0)(t16:Pv.get 16 t= .int .i64 mid)(t22:Pv.get 22 t= .int .i64 e)(aw:l.length=n)(I:mid<=e)(U:e<=b)(ad:b<=n)(aD:b-mid<=d)(WD:fx lt mid e l)(WE:fx lt e b l)(iL:Gm S g cd lc ca lt mid b l Q):
  dd aA ob GR Q ⟨t,(.loc 0,[.func g lc,.func cd ca])::(S l).b,(S l).e,1,o⟩:=by
 unfold GR;by_cases kC:mid<e/\e<b
 ·simp[t3,t4,t16,t22,kC.1,kC.2,Pv.look];simp only[jd H,H.slc,H.ssc,iW];refine H.doFn aw (bK l mid e b aw aD kC.1 kC.2 ad WD WE) (fun ba h=>by rw[h.1.length];exact aw) (by simp[aP,aK,H.kdata aw]) ?_;rintro hA ⟨lX,z2⟩;simp;exact iL _ _ _ lX z2
 ·have q4:fx lt mid b l:=by
   by_cases od:mid<e
   ·rwa[show e=b by omega]at WD
   ·rwa[show e=mid by omega]at WE
  by_cases od:mid<e
  ·have aid:¬e<b:=Ω
   simp[t3,t16,t22,od,aid];exact iL _ _ _ (.refl _) q4
  ·simp[t16,t22,od];exact iL _ _ _ (.refl _) q4
theorem apK(H:fo S n g cd lc ca lt)(bK:Gl S n g cd lc ca lt d)(t1:Pv.get 1 t= .int .i64 a)(t3:Pv.get 3 t= .int .i64 b)(t4:Pv.get 4 t= .ptr (.loc 0) 0)(t16:Pv.get 16 t= .int .i64 mid)(t18:Pv.get 18 t= .int .i64 i)(t22:Pv.get 22 t= .int .i64 e)(aw:l.length=n)(bB:a<=i/\i<=mid/\a<=m)(I:mid<=e)(U:e<=b)(ad:b<=n)(aD:b-mid<=d)(kD:mid-a<=d)(ga:Ge lt a i m e b mid l)(iL:Gm S g cd lc ca lt a b l Q):
  dd aA ob GS Q ⟨t,(.loc 0,[.func g lc,.func cd ca])::(S l).b,(S l).e,1,o⟩:=by
 unfold GS;have next:∀{kK t o},Pv.get 3 t= .int .i64 b->Pv.get 4 t= .ptr (.loc 0) 0->Pv.get 16 t= .int .i64 mid->Pv.get 22 t= .int .i64 e->kK.length=n->gM a mid l kK->fx lt a mid kK->dd aA ob GR Q ⟨t,(.loc 0,[.func g lc,.func cd ca])::(S kK).b,(S kK).e,1,o⟩:=fun ar aE bA dr y5 cT dm=>by
  refine apJ H bK ar aE bA dr y5 I U ad aD (fun p q x y I U ao ab aB=>?_) (fun p q x y I U ao ab aB=>?_) fun hA t o aW bj=>?_
  ·rw[cT.out _ (.inr I)]at ab;rw[cT.out _ (.inr Ω)]at aB;exact ga.s3 p q x y I U ao ab aB
  ·rw[cT.out _ (.inr Ω)]at ab;rw[cT.out _ (.inr Ω)]at aB;exact ga.s4 p q x y I U ao ab aB
  ·exact iL hA t o ((cT.mono Ω Ω).trans (aW.mono Ω Ω)) (alr Ω cT dm aW bj ga.cross)
 by_cases l5:a<i/\i<mid
 ·simp[t1,t4,t16,t18,l5.1,l5.2,Pv.look];simp only[jd H,H.slc,H.ssc,iW];refine H.doFn aw (bK l a i mid aw kD l5.1 l5.2 Ω ga.s1 ga.s2) (fun ba h=>by rw[h.1.length];exact aw) (by simp[aP,aK,H.kdata aw]) ?_;rintro kK ⟨cT,dm⟩;simp;exact next (by simp[t3]) (by simp[t4]) (by simp[t16]) (by simp[t22]) (by rw[cT.length];exact aw) cT dm
 ·have dm:fx lt a mid l:=by
   by_cases qY:a<i
   ·have:=ga.s1;rwa[show i=mid by omega]at this
   ·have:=ga.s2;rwa[show i=a by omega]at this
  by_cases qY:a<i
  ·have HA:¬i<mid:=Ω
   simp[t1,t16,t18,qY,HA];exact next (by simp[t3]) (by simp[t4]) (by simp[t16]) (by simp[t22]) aw (.refl _) dm
  ·simp[t1,t18,qY];exact next (by simp[t3]) (by simp[t4]) (by simp[t16]) (by simp[t22]) aw (.refl _) dm
theorem apL(H:fo S n g cd lc ca lt)(bK:Gl S n g cd lc ca lt d)(t1:Pv.get 1 t= .int .i64 a)(t2:Pv.get 2 t= .int .i64 m)(t3:Pv.get 3 t= .int .i64 b)(t4:Pv.get 4 t= .ptr (.loc 0) 0)(t16:Pv.get 16 t= .int .i64 mid)(t18:Pv.get 18 t= .int .i64 i)(t22:Pv.get 22 t= .int .i64 e)(aw:l.length=n)(bB:a<=i/\i<=mid/\a<=m)(I:mid<=e)(U:e<=b)(ad:b<=n)(aD:b-mid<=d)(kD:mid-a<=d)(vN:∀lk:List α,(∀k,lk[k]? =l[iF i m e k]?)->Ge lt a i m e b mid lk)(iL:Gm S g cd lc ca lt a b l Q):
  dd aA ob Lj Q ⟨t,(.loc 0,[.func g lc,.func cd ca])::(S l).b,(S l).e,1,o⟩:=by
 unfold Lj;have next:∀{lk t o},Pv.get 1 t= .int .i64 a->Pv.get 3 t= .int .i64 b->Pv.get 4 t= .ptr (.loc 0) 0->Pv.get 16 t= .int .i64 mid->Pv.get 18 t= .int .i64 i->Pv.get 22 t= .int .i64 e->lk.length=n->Ge lt a i m e b mid lk->gM a b l lk->dd aA ob GS Q ⟨t,(.loc 0,[.func g lc,.func cd ca])::(S lk).b,(S lk).e,1,o⟩:=fun ar aE bA dr iw ix ia ga ah9=>apK H bK ar aE bA dr iw ix ia bB I U ad aD kD ga fun hA t o aW bj=>iL hA t o (ah9.trans aW) bj
 by_cases H5:i<m/\m<e
 ·simp[t2,t4,t18,t22,H5.1,H5.2,Pv.look];simp only[jd H,H.slc,H.ssc,iW];refine H.doFn aw (ahy H l aw i m e H5.1 H5.2 Ω) (fun ba h=>by rw[h.1.length];exact aw) (by simp[aP,aK,H.kdata aw]) ?_;rintro lk ⟨aW,bj⟩;simp;exact next (by simp[t1]) (by simp[t3]) (by simp[t4]) (by simp[t16]) (by simp[t18]) (by simp[t22]) (by rw[aW.length];exact aw) (vN lk bj) (aW.mono Ω Ω)
 ·have ga:=vN l (fun k=>by
   congr 1;simp only[iF];repeat' split
   all_goals omega)
  by_cases nE:i<m
  ·have ajt:¬m<e:=Ω
   simp[t2,t18,t22,nE,ajt];exact next (by simp[t1]) (by simp[t3]) (by simp[t4]) (by simp[t16]) (by simp[t18]) (by simp[t22]) aw ga (.refl _)
  ·simp[t2,t18,nE];exact next (by simp[t1]) (by simp[t3]) (by simp[t4]) (by simp[t16]) (by simp[t18]) (by simp[t22]) aw ga (.refl _)
theorem aaH{bb:List (aM×List aj)}(H:fo S n g cd lc ca lt)(sN:Pv.look (.loc 0) bb=some [.func g lc,.func cd ca])(cN:∀k cs,Pv.look k (S l).b=some cs->Pv.look k bb=some cs)(bD:rv lt)(bK:Gl S n g cd lc ca lt d){s0 r0:Nat}(t1:Pv.get 1 t= .int .i64 a)(t2:Pv.get 2 t= .int .i64 m)(t3:Pv.get 3 t= .int .i64 b)(t4:Pv.get 4 t= .ptr (.loc 0) 0)(t16:Pv.get 16 t= .int .i64 mid)(t17:Pv.get 17 t= .int .i64 ((mid:Int)+m))(t18:Pv.get 18 t= .int .i64 s0)(t19:Pv.get 19 t= .int .i64 r0)(aw:l.length=n)(bB:a<m/\m<b/\mid=(a+b)/2)(I:mid<m/\s0=mid+m-b/\r0=mid\/m<=mid/\s0=a/\r0=m)(ad:b<=n)(aD:b-a<=d+1)(lg:fx lt a m l)(qt:fx lt m b l)(iL:Gm S g cd lc ca lt a b l Q):
  dd aA (dc (S l)) Lk Q ⟨t,bb,(S l).e,1,o⟩:=by
 have hle:=H.le;unfold Lk;simp[t17];(with_reducible repeat' first|refine ak ?_|simp[t17]);refine n2 (fun(x:Nat×Nat)=>⟨[(1,.int .i64 a),(2,.int .i64 m),(3,.int .i64 b),(4,.ptr (.loc 0) 0),(16,.int .i64 mid),(17,.int .i64 (mid+m)),(20,.int .i64 (mid+m-1)),(18,.int .i64 x.1),(19,.int .i64 x.2)],(.loc 0,[.func g lc,.func cd ca])::(S l).b,(S l).e,1,dc (S l)⟩) (fun x=>x.2-x.1)
  (ap2 lt l mid m s0 r0) (s0,r0) (H.weak aw aw (by simp[aK,t1,t2,t3,t4,t16,t17,t18,t19]) sN cN fun _ _ h=>h) ⟨Ψ,by simp;omega,Ψ,.inl rfl,.inl rfl⟩ ?_
 rintro⟨i,j⟩ ⟨aS,bh,bX,ed,dn⟩ _;simp only at aS bh bX ed dn;have nF:=HC i j Ω;by_cases mv:i<j
 ·simp[mv];(with_reducible repeat' first|refine ak ?_|simp[Pv.look]);obtain⟨c,aq⟩:∃c,c=(i+j)/2:=⟨_,rfl⟩;rw[<-aq]at nF;simp only[nF];(with_reducible repeat' first|refine ak ?_|simp[Pv.look]);obtain⟨u,uE⟩:∃u,l[c]? =some u:=⟨_,cm Ω⟩;obtain⟨v,Nq⟩:∃v,l[mid+m-1-c]? =some v:=⟨_,cm Ω⟩;have dr:((mid:Int)+m-1-c)=(mid+m-1-c:Nat):=Ω
  simp only[H.slc,dr];refine H.doLess aw (mid+m-1-c) c Nq uE ?_;simp;cases s9:lt v u with
  |false=>simp;(with_reducible repeat' first|refine ak ?_|simp);refine bS.whl (c+1,j) d7 ⟨by simp;omega,by simp;omega,bX,.inr ⟨u,v,by simpa using uE,?_,s9⟩,dn⟩ (H.weakC aw aw d6);simp only;rw[show mid+m-(c+1)=mid+m-1-c by omega];exact Nq
  |true=>simp;(with_reducible repeat' first|refine ak ?_|simp);refine bS.whl (i,c) d7 ⟨aS,by simp;omega,by simp;omega,ed,.inr ⟨u,v,uE,?_,s9⟩⟩ (H.weakC aw aw d6);simp only;rw[show mid+m-c-1=mid+m-1-c by omega];exact Nq
 ·obtain rfl:i=j:=Ω
  obtain⟨e,he⟩:∃e,e=mid+m-i:=⟨_,rfl⟩;have iw:((mid:Int)+m-i)=(e:Nat):=Ω
  have bY:i=a\/e=b\/ ∃x y,l[i-1]? =some x/\l[e]? =some y/\lt y x=false:=by
   rcases ed with ed|⟨u,v,aW,bj,bM⟩
   ·omega
   ·exact .inr (.inr ⟨u,v,aW,by rw[he];exact bj,bM⟩)
  have cB:i=m\/e=m\/ ∃x y,l[i]? =some x/\l[e-1]? =some y/\lt y x=true:=by
   rcases dn with dn|⟨u,v,aW,bj,bM⟩
   ·omega
   ·exact .inr (.inr ⟨u,v,aW,by rw[he];exact bj,bM⟩)
  simp[mv];(with_reducible repeat' first|refine ak ?_|simp);rw[iw];exact apL H bK (a:=a) (m:=m) (b:=b) (mid:=mid) (i:=i) (e:=e) Ψ Ψ Ψ Ψ Ψ Ψ Ψ aw Ω Ω Ω ad Ω Ω (fun lk aN=>alq bD Ω Ω Ω Ω Ω Ω lg qt bY cB aN) iL
end
theorem Vv(H:fo S n g cd lc ca lt)(bD:rv lt)(d:Nat):∀(l:List α) (a m b:Nat),l.length=n->b-a<=d->a<m->m<b->b<=n->fx lt a m l->fx lt m b l->
  bL aA 188 [fe g cd lc ca,.int .i64 a,.int .i64 m,.int .i64 b] (S l) fun r ai=>r= .tuple []/\∃ba,ai=S ba/\gM a b l ba/\fx lt a b ba:=by
 induction d with
 |zero=>intro l a m b aw aD DR oe;omega
 |succ d bK=>
 intro l a m b aw aD DR oe ad lg qt;have af:=H.ok l;have au:∀l m,Pv.look (.loc m) (S l).b=none:=fun l=>(H.ok l).obj.1;have hu:∀l m cs,cI (.loc m) cs (S l).b=(S l).b++[(.loc m,cs)]:=fun l m cs=>kR (au l m);have ax:∀m,aM.loc m∉dc (S l):=kM af.obj;have hle:=H.le;refine bL.mk mixed CI Tryz.func188 amW Ψ af.obj fun aR cN=>?_;unfold Tb;simp[fe,hu,ax,cX,au];(with_reducible repeat' first|((first|apply bN|apply bP|apply bO)<;>intro h<;>try simp at h)|refine ak ?_|simp[hu,ax,cX,au])
 ·obtain rfl:m=a+1:=Ω
  have Nb:∀k,iF a (a+1) (a+1) k=k:=by
   intro k;simp only[iF];repeat' split
   all_goals omega
  obtain⟨z,a8⟩:∃z,l[a]? =some z:=⟨_,cm Ω⟩;refine n2 (fun(x:Nat×Nat)=>⟨[(1,.int .i64 a),(4,.ptr (.loc 0) 0),(8,.int .i64 x.1),(9,.int .i64 x.2)],(.loc 0,[.func g lc,.func cd ca])::(S l).b,(S l).e,1,dc (S l)⟩) (fun x=>x.2-x.1)
   (fun x=>a+1<=x.1/\x.1<=x.2/\x.2<=b/\(∀h y,a+1<=h->h<x.1->l[h]? =some y->lt y z=true)/\(∀h y,x.2<=h->h<b->l[h]? =some y->lt y z=false)) (a+1,b)
   (H.weak aw aw d6 (by simp[cX,au]) aL aL) ⟨Ψ,by simp;omega,Ψ,fun h y I U=>by simp at U;omega,fun h y I U=>by simp at I;omega⟩ ?_
  rintro⟨i,j⟩ ⟨aS,bh,bX,ed,dn⟩ _;simp only at aS bh bX ed dn;have hw:=HC i j Ω;simp[Pv.look];(with_reducible repeat' first|((first|apply bN|apply bP|apply bO)<;>intro h<;>try simp at h)|refine ak ?_|simp[Pv.look])
  ·obtain⟨c,aq⟩:∃c,c=(i+j)/2:=⟨_,rfl⟩;rw[<-aq]at hw;obtain⟨y,aB⟩:∃y,l[c]? =some y:=⟨_,cm Ω⟩;simp only[hw,H.slc];refine H.doLess aw c a aB a8 ?_;simp;cases s9:lt y z with
   |true=>
    simp;(with_reducible repeat' first|refine ak ?_|simp);refine bS.whl (c+1,j) d7 ⟨by simp;omega,by simp;omega,bX,fun h u I U hu=>?_,dn⟩ (H.weakC aw aw d6);cases e:lt u z with
    |true=>rfl
    |false=>simp only at U;have:=bD.ntr _ _ _ e (fx.le bD qt I Ω Ω hu aB);rw[s9]at this;cases this
   |false=>simp;(with_reducible repeat' first|refine ak ?_|simp);refine bS.whl (i,c) d7 ⟨aS,by simp;omega,by simp;omega,ed,fun h u I U hu=>?_⟩ (H.weakC aw aw d6);exact bD.ntr _ _ _ s9 (fx.le bD qt Ω I U aB hu)
  ·obtain rfl:i=j:=Ω
   refine n2 (fun(x:Nat×List α)=>⟨[(4,.ptr (.loc 0) 0),(8,.int .i64 i),(11,.int .i64 x.1)],(.loc 0,[.func g lc,.func cd ca])::(S x.2).b,(S x.2).e,1,dc (S l)⟩) (fun x=>i-x.1)
    (fun x=>x.2.length=n/\a<=x.1/\x.1<i/\gM a b l x.2/\∀k,x.2[k]? =l[iF a (a+1) (x.1+1) k]?) (a,l)
    (H.weakC aw aw d6) ⟨aw,Ψ,by simp;omega,.refl _,fun k=>by simp[Nb]⟩ ?_
   rintro⟨k,lk⟩ ⟨aW,bj,bM,cL,c2⟩ _;simp only at aW bj bM cL c2;simp[Pv.look];((with_reducible repeat' first|refine ak ?_|simp[Pv.look]|((first|apply bN|apply bP|apply bO)<;>intro h<;>try simp at h))<;>(try exact cf))
   ·have bA:((k:Int)+1)=(k+1:Nat):=Ω
    rw[H.ssc,bA];refine H.doSwap aW k (k+1) Ω Ω Ω ?_;simp;(with_reducible repeat' first|((first|apply bN|apply bP|apply bO)<;>intro h<;>try simp at h)|refine ak ?_|simp);refine bS.whl (k+1,hL lk k (k+1)) d7 ⟨by simp[aW],by simp;omega,by simp;omega,.step cL Ω Ω Ω Ω Ω Ω,fun t=>?_⟩ (H.weakC aw (by simp[aW]) d6);rw[BR _ _ _ _ Ω Ω,c2,c2,c2];have:iF a (a+1) (k+1+1) t=if t=k then iF a (a+1) (k+1) (k+1)else if t=k+1 then iF a (a+1) (k+1) k else iF a (a+1) (k+1) t:=by
     simp only[iF];repeat' split
     all_goals omega
    rw[this];split
    ·rfl
    ·split<;>rfl
   ·obtain rfl:i=k+1:=Ω
    refine H.ret aw aW (.inl rfl) ⟨rfl,lk,rfl,cL,alf bD Ω bX Ω qt a8 ed dn c2⟩
 ·obtain rfl:b=m+1:=Ω
  have Nb:∀k,iF m m (m+1) k=k:=by
   intro k;simp only[iF];repeat' split
   all_goals omega
  obtain⟨z,a8⟩:∃z,l[m]? =some z:=⟨_,cm Ω⟩;refine n2 (fun(x:Nat×Nat)=>⟨[(2,.int .i64 m),(4,.ptr (.loc 0) 0),(12,.int .i64 x.1),(13,.int .i64 x.2)],(.loc 0,[.func g lc,.func cd ca])::(S l).b,(S l).e,1,dc (S l)⟩) (fun x=>x.2-x.1)
   (fun x=>a<=x.1/\x.1<=x.2/\x.2<=m/\(∀h y,a<=h->h<x.1->l[h]? =some y->lt z y=false)/\(∀h y,x.2<=h->h<m->l[h]? =some y->lt z y=true)) (a,m)
   (H.weak aw aw d6 (by simp[cX,au]) aL aL) ⟨Ψ,by simp;omega,Ψ,fun h y I U=>by simp at U;omega,fun h y I U=>by simp at I;omega⟩ ?_
  rintro⟨i,j⟩ ⟨aS,bh,bX,ed,dn⟩ _;simp only at aS bh bX ed dn;have hw:=HC i j Ω;simp[Pv.look];(with_reducible repeat' first|((first|apply bN|apply bP|apply bO)<;>intro h<;>try simp at h)|refine ak ?_|simp[Pv.look])
  ·obtain⟨c,aq⟩:∃c,c=(i+j)/2:=⟨_,rfl⟩;rw[<-aq]at hw;obtain⟨y,aB⟩:∃y,l[c]? =some y:=⟨_,cm Ω⟩;simp only[hw,H.slc];refine H.doLess aw m c a8 aB ?_;simp;cases s9:lt z y with
   |false=>simp;((with_reducible repeat' first|refine ak ?_|simp|((first|apply bN|apply bP|apply bO)<;>intro h<;>try simp at h))<;>(try exact cf));refine bS.whl (c+1,j) d7 ⟨by simp;omega,by simp;omega,bX,fun h u I U hu=>?_,dn⟩ (H.weakC aw aw d6);simp only at U;exact bD.ntr _ _ _ (fx.le bD lg I Ω Ω hu aB) s9
   |true=>
    simp;((with_reducible repeat' first|refine ak ?_|simp|((first|apply bN|apply bP|apply bO)<;>intro h<;>try simp at h))<;>(try exact cf));refine bS.whl (i,c) d7 ⟨aS,by simp;omega,by simp;omega,ed,fun h u I U hu=>?_⟩ (H.weakC aw aw d6);cases e:lt z u with
    |true=>rfl
    |false=>have:=bD.ntr _ _ _ (fx.le bD lg Ω I U aB hu) e;rw[s9]at this;cases this
  ·obtain rfl:i=j:=Ω
   refine n2 (fun(x:Nat×List α)=>⟨[(4,.ptr (.loc 0) 0),(12,.int .i64 i),(15,.int .i64 x.1)],(.loc 0,[.func g lc,.func cd ca])::(S x.2).b,(S x.2).e,1,dc (S l)⟩) (fun x=>x.1)
    (fun x=>x.2.length=n/\i<=x.1/\x.1<=m/\gM a (m+1) l x.2/\∀k,x.2[k]? =l[iF x.1 m (m+1) k]?) (m,l)
    (H.weakC aw aw d6) ⟨aw,by simp;omega,Ψ,.refl _,fun k=>by simp[Nb]⟩ ?_
   rintro⟨k,lk⟩ ⟨aW,bj,bM,cL,c2⟩ _;simp only at aW bj bM cL c2;simp[Pv.look];((with_reducible repeat' first|refine ak ?_|simp[Pv.look]|((first|apply bN|apply bP|apply bO)<;>intro h<;>try simp at h))<;>(try exact cf))
   ·have bA:((k:Int)-1)=(k-1:Nat):=Ω
    rw[H.ssc,bA];refine H.doSwap aW k (k-1) Ω Ω Ω ?_;simp;(with_reducible repeat' first|refine ak ?_|simp);refine bS.whl (k-1,hL lk k (k-1)) d7 ⟨by simp[aW],by simp;omega,by simp;omega,.step cL Ω Ω Ω Ω Ω Ω,fun t=>?_⟩ (H.weakC aw (by simp[aW]) (by simp[aK];omega));rw[BR _ _ _ _ Ω Ω,c2,c2,c2];have:iF (k-1) m (m+1) t=if t=k then iF k m (m+1) (k-1)else if t=k-1 then iF k m (m+1) k else iF k m (m+1) t:=by
     simp only[iF];repeat' split
     all_goals omega
    rw[this];split
    ·rfl
    ·split<;>rfl
   ·obtain rfl:i=k:=Ω
    refine H.ret aw aW (.inl rfl) ⟨rfl,lk,rfl,cL,alg bD Ω bX Ω lg a8 ed dn c2⟩
 ·obtain⟨mid,MZ⟩:∃mid,mid=(a+b)/2:=⟨_,rfl⟩;have hw:=HC a b Ω;rw[<-MZ]at hw;simp only[hw];(with_reducible repeat' first|((first|apply bN|apply bP|apply bO)<;>intro h<;>try simp at h)|refine ak ?_|simp[hu,ax,cX,au])
  ·exact aaH (s0:=mid+m-b) (r0:=mid) H (by simp[cX,au]) aL bD bK (a:=a) (m:=m) (b:=b) (mid:=mid) Ψ Ψ Ψ Ψ Ψ Ψ d7 Ψ aw ⟨DR,oe,MZ⟩ Ω ad aD lg qt fun hA t o aW bj=>H.ret aw (by rw[aW.length];exact aw) (.inr rfl) ⟨rfl,hA,rfl,aW,bj⟩
  ·exact aaH (s0:=a) (r0:=m) H (by simp[cX,au]) aL bD bK (a:=a) (m:=m) (b:=b) (mid:=mid) Ψ Ψ Ψ Ψ Ψ Ψ Ψ Ψ aw ⟨DR,oe,MZ⟩ Ω ad aD lg qt fun hA t o aW bj=>H.ret aw (by rw[aW.length];exact aw) (.inr rfl) ⟨rfl,hA,rfl,aW,bj⟩
end
section
open Go Go.Pv
variable {α:Type} {S:List α->cU} {n g cd:Nat} {lc ca:List aj} {lt:α->α->Bool}
def p9(lt:α->α->Bool)(z a b:Nat)(l:List α):Prop:= ∀i j x y,a<=i->i<j->j<b->i/z=j/z->l[i]? =some x->l[j]? =some y->lt y x=false
theorem p9.snoc{z q:Nat}(a8:0<z){l ba:List α}(h:p9 lt z 0 (q*z) l){b:Nat}(af:gM (q*z) b l ba)(U:fx lt (q*z) b ba):p9 lt z 0 b ba:=by
 intro i j x y hi mv ag aD ab aB;by_cases Wc:j<q*z
 ·rw[af.out _ (.inl Ω)]at ab;rw[af.out _ (.inl Wc)]at aB;exact h i j x y hi mv Wc aD ab aB
 ·have ao:q<=j/z:=(Nat.le_div_iff_mul_le a8).2 Ω;have a7:q*z<=i:=(Nat.le_div_iff_mul_le a8).1 Ω;exact U i j x y a7 mv ag ab aB
theorem p9.srt{z q:Nat}(a8:0<z){l:List α}{a b:Nat}(h:p9 lt z a b l){c:Nat}(atb:a<=q*z)(aq:c<=(q+1)*z)(ME:c<=b):fx lt (q*z) c l:=by intro i j x y hi mv ag ab aB;have h9:i/z=q:=Nat.div_eq_of_lt_le hi Ω;have oX:j/z=q:=Nat.div_eq_of_lt_le Ω Ω;exact h i j x y Ω mv Ω Ω ab aB
theorem p9.after{z a b bq b3:Nat}{l ba:List α}(h:p9 lt z a b l)(af:gM a bq l ba)(bk:a<=bq)(ad:b3<=b):p9 lt z bq b3 ba:=by intro i j x y hi mv ag aD ab aB;rw[af.out _ (.inr Ω)]at ab;rw[af.out _ (.inr Ω)]at aB;exact h i j x y Ω mv Ω aD ab aB
theorem Mp(H:fo S n g cd lc ca lt)(bD:rv lt)(l:List α)(aw:l.length=n):
  bL aA 161 [fe g cd lc ca,.int .i64 n] (S l) fun r ai=>r= .tuple []/\∃ba,ai=S ba/\gM 0 n l ba/\fx lt 0 n ba:=by
 have af:=H.ok l;have au:∀l m,Pv.look (.loc m) (S l).b=none:=fun l=>(H.ok l).obj.1;have hu:∀l m cs,cI (.loc m) cs (S l).b=(S l).b++[(.loc m,cs)]:=fun l m cs=>kR (au l m);have ax:∀m,aM.loc m∉dc (S l):=kM af.obj;have hle:=H.le;refine bL.mk mixed CI Tryz.func161 amU Ψ af.obj fun aR cN=>?_;unfold S9;simp[fe,hu,ax,cX,au];refine n2 (fun(x:Nat×List α)=>⟨[(1,.int .i64 n),(2,.ptr (.loc 0) 0),(4,.int .i64 20),(5,.int .i64 (x.1*20)),(6,.int .i64 (x.1*20+20))],(.loc 0,[.func g lc,.func cd ca])::(S x.2).b,(S x.2).e,1,dc (S l)⟩) (fun x=>n+20-x.1*20)
  (fun x=>x.2.length=n/\x.1*20<=n/\gM 0 n l x.2/\p9 lt 20 0 (x.1*20) x.2) (0,l)
  (H.weak aw aw d6 (by simp[cX,au]) aL aL) ⟨aw,Ψ,.refl _,fun i j x y I U ao=>by simp at ao⟩ ?_
 rintro⟨q,lk⟩ ⟨I,U,ao,a7⟩ _;simp only at I U ao a7;simp[Pv.look];((with_reducible repeat' first|refine ak ?_|simp[Pv.look]|((first|apply bN|apply bP|apply bO)<;>intro h<;>try simp at h))<;>(try exact cf))
 ·have ar:((q:Int)*20)=(q*20:Nat):=Ω
  have aE:((q:Int)*20+20)=(q*20+20:Nat):=Ω
  simp only[jd H,H.slc,H.ssc,iW,aE];simp only[ar];refine H.doFn I (Vo H bD lk I (q*20) (q*20+20) Ω Ω) (fun ba h=>by rw[h.1.length];exact I) (by simp[aP,aK,H.kdata I]) ?_;rintro ba ⟨cT,dm⟩;have ux:ba.length=n:=by rw[cT.length];exact I
  simp;((with_reducible repeat' first|refine ak ?_|simp|((first|apply bN|apply bP|apply bO)<;>intro h<;>try simp at h))<;>(try exact cf));refine bS.whl (q+1,ba) d7 ⟨ux,by simp;omega,ao.trans (cT.mono Ω Ω),?_⟩ (H.weakC aw ux (by simp[aK];omega));have:=a7.snoc Ω cT dm;rwa[show q*20+20=(q+1)*20 by omega]at this
 ·have ar:((q:Int)*20)=(q*20:Nat):=Ω
  simp only[jd H,H.slc,H.ssc,iW,ar];refine H.doFn I (Vo H bD lk I (q*20) n Ω Ω) (fun ba h=>by rw[h.1.length];exact I) (by simp[aP,aK,H.kdata I]) ?_;rintro ba ⟨cT,dm⟩;have ux:ba.length=n:=by rw[cT.length];exact I
  have fA:=a7.snoc Ω cT dm;simp;refine n2 (fun(x:Nat×List α)=>⟨[(1,.int .i64 n),(2,.ptr (.loc 0) 0),(4,.int .i64 x.1)],(.loc 0,[.func g lc,.func cd ca])::(S x.2).b,(S x.2).e,1,dc (S l)⟩) (fun x=>1099511627776-x.1)
   (fun x=>x.2.length=n/\20<=x.1/\x.1<=2*n+20/\gM 0 n l x.2/\p9 lt x.1 0 n x.2) (20,ba)
   (H.weakC aw ux d6) ⟨ux,Ψ,Ψ,ao.trans (cT.mono Ω Ω),fA⟩ ?_
  rintro⟨z,XT⟩ ⟨lX,z2,z3,z4,z5⟩ _;simp only at lX z2 z3 z4 z5;simp[Pv.look];((with_reducible repeat' first|refine ak ?_|simp[Pv.look]|((first|apply bN|apply bP|apply bO)<;>intro h<;>try simp at h))<;>(try exact cf))
  ·refine n2 (fun(x:Nat×List α)=>⟨[(1,.int .i64 n),(2,.ptr (.loc 0) 0),(4,.int .i64 z),(5,.int .i64 (x.1*(2*z):Nat)),(6,.int .i64 (x.1*(2*z)+2*z:Nat))],(.loc 0,[.func g lc,.func cd ca])::(S x.2).b,(S x.2).e,1,dc (S l)⟩) (fun x=>n+2*z-x.1*(2*z))
    (fun x=>x.2.length=n/\x.1*(2*z)<=n/\gM 0 n l x.2/\p9 lt (2*z) 0 (x.1*(2*z)) x.2/\p9 lt z (x.1*(2*z)) n x.2) (0,XT)
    (H.weakC aw lX d6) ⟨lX,Ψ,z4,fun i j x y I U ao=>by simp at ao,by simpa using z5⟩ ?_
   rintro⟨p,EJ⟩ ⟨fP,dV,Kp,yi,F2⟩ _;simp only at fP dV Kp yi F2;obtain⟨A,bm⟩:∃A,A=p*(2*z):=⟨_,rfl⟩;have Hw:A=(2*p)*z:=by rw[bm,Nat.mul_comm 2 p,Nat.mul_assoc]
   have Mt:(2*p+1)*z=A+z:=by rw[p8,<-Hw,Nat.one_mul]
   have ahU:(2*p+2)*z=A+2*z:=by rw[p8,<-Hw]
   have A5:(p+1)*(2*z)=A+2*z:=by rw[p8,<-bm,Nat.one_mul]
   have lg:∀c,c<=A+z->c<=n->fx lt A c EJ:=fun c aq uo=>by have:=p9.srt (q:=2*p) Ω F2 (c:=c) (by rw[<-Hw,bm];omega) (by rw[Mt];exact aq) uo;rwa[<-Hw]at this
   have qt:∀c,c<=A+2*z->c<=n->fx lt (A+z) c EJ:=fun c aq uo=>by have:=p9.srt (q:=2*p+1) Ω F2 (c:=c) (by rw[Mt,bm];omega) (by rw[ahU];exact aq) uo;rwa[Mt]at this
   rw[<-bm]at dV yi F2;simp only[<-bm];simp[Pv.look];((with_reducible repeat' first|refine ak ?_|simp[Pv.look]|((first|apply bN|apply bP|apply bO)<;>intro h<;>try simp at h))<;>(try exact cf))
   ·have bA:((A:Int)+z)=(A+z:Nat):=Ω
    have dr:((A:Int)+2*z)=(A+2*z:Nat):=Ω
    simp only[jd H,H.slc,H.ssc,iW,bA,dr];refine H.doFn fP (Vv H bD (A+2*z-A) EJ A (A+z) (A+2*z) fP Ω Ω Ω Ω (lg _ Ω Ω) (qt _ Ω Ω)) (fun ba h=>by rw[h.1.length];exact fP) (by simp[aP,aK,H.kdata fP]) ?_;rintro hA ⟨lz,p3⟩;have oY:hA.length=n:=by rw[lz.length];exact fP
    simp;(with_reducible repeat' first|refine ak ?_|simp);refine bS.whl (p+1,hA) (by simp only[A5,<-bm];omega) ⟨oY,by simp only[A5];omega,Kp.trans (lz.mono Ω Ω),?_,?_⟩ ?_
    ·simp only[A5];rw[bm]at yi lz p3;have:=yi.snoc Ω lz p3;rwa[<-bm]at this
    ·simp only[A5];exact F2.after lz Ω Ω
    ·simp only[A5];have ahV:((p:Int)+1)*(2*(z:Int))=(A:Int)+2*z:=by have h:=eW (Nat.cast:Nat->Int) A5;push_cast at h;exact h
     exact H.weakC aw oY (by simp[aK,ahV])
   ·have bA:((A:Int)+z)=(A+z:Nat):=Ω
    simp only[jd H,H.slc,H.ssc,iW,bA];refine H.doFn fP (Vv H bD (n-A) EJ A (A+z) n fP Ω Ω Ω Ω (lg _ Ω Ω) (qt _ Ω Ω)) (fun ba h=>by rw[h.1.length];exact fP) (by simp[aP,aK,H.kdata fP]) ?_;rintro hA ⟨lz,p3⟩;have oY:hA.length=n:=by rw[lz.length];exact fP
    simp;((with_reducible repeat' first|refine ak ?_|simp|((first|apply bN|apply bP|apply bO)<;>intro h<;>try simp at h))<;>(try exact cf));refine bS.whl (2*z,hA) d7 ⟨oY,by simp;omega,by simp;omega,Kp.trans (lz.mono Ω Ω),?_⟩ (H.weakC aw oY (by simp[aK];omega));rw[bm]at yi lz p3;exact yi.snoc Ω lz p3
   ·refine bS.whl (2*z,EJ) d7 ⟨fP,by simp;omega,by simp;omega,Kp,?_⟩ (H.weakC aw fP (by simp[aK];omega));have b8:=lg n Ω Ω;rw[bm]at yi b8;exact yi.snoc Ω (.refl _) b8
  ·refine H.ret aw lX (.inr rfl) ?_;refine⟨rfl,XT,rfl,z4,fun i j x y I U ao=>z5 i j x y I U ao ?_⟩;rw[Nat.div_eq_of_lt Ω,Nat.div_eq_of_lt Ω]
end
section
open Go Go.Pv Go.Sort Go.RowKit
theorem ajl{w:World}{base:Nat}{e:hl}{sz:Nat}{v:Value}{n:Nat}{us:List Value}(h:w.ownsRow base e sz v n us)(az:v≠ .slice none 0 0):
  ∃g cap,v= .slice (some ⟨g,0,none⟩) n cap/\g<w.heap.size/\cap<=maxLen/\n<=cap/\us.length=n*sz/\Holds id w g 0 us.toArray:=by
 rcases h.2 with⟨pC,_⟩|⟨g,cap,cur,rfl,ad,aT,au,hm,af,aC⟩
 ·exact absurd pC az
 ·have bD:g<w.heap.size:=by
   rcases Nat.lt_or_ge g w.heap.size with b4|b4
   ·exact b4
   ·rw[Array.getElem?_eq_none b4]at aT;cases aT
  refine⟨g,cap,rfl,bD,hm,au,h.1,fun j ag=>?_⟩;have j9:j<us.length:=by simpa using ag
  have aw:=h.1;refine⟨?_,by simp[World.frozen?,aT]⟩;have ar:(cur.toList.take (n*sz))[j]? =us[j]?:=by rw[aC]
  rw[List.getElem?_take,if_pos Ω,vb,cm j9]at ar;simp only[World.cell?,aT,Nat.zero_add];simp only[je,hk,if_false];rw[ar];simp[getElem!_pos,j9]
theorem anP{w:World}{base:Nat}{e:hl}{sz g n cap q:Nat}{us:List Value}{F:Array Value}(h:w.ownsRow base e sz (.slice (some ⟨g,0,none⟩) n cap) n us)(fa:F.size=n*sz):
  (putRow id (Sort.ahead w q) g 0 F).ownsRow base e sz (.slice (some ⟨g,0,none⟩) n cap) n F.toList:=by
 rcases h.2 with⟨pC,_⟩|⟨fj,Dk,cur,pC,ad,aT,au,hm,af,aC⟩
 ·cases pC
 ·injection pC with ar _ bA;injection ar with ar;injection ar with ar;subst ar;subst bA;refine⟨by simpa using fa,.inr ⟨g,cap,putCells id 0 F cur,rfl,ad,?_,au,hm,by simpa[putCells]using af,?_⟩⟩
  ·simp[putRow,mapBlock,Sort.ahead,Array.getElem?_modify,aT,onCells]
  ·have hle:n*sz<=cur.size:=by rw[af];exact rr _ au
   apply List.ext_getElem?;intro j;rw[List.getElem?_take,vb,vb];by_cases ag:j<n*sz
   ·have aiO:j<cur.size:=Ω
    simp only[if_pos ag,putCells,Array.getElem?_mapIdx,Array.getElem?_eq_getElem aiO,nT];rw[if_pos Ω];simp[getElem!_pos,show j<F.size by omega]
   ·simp[ag];omega
end
end Go.Proofs.YtohaalphocaebaaGreatDoor
namespace Go.Pv
section
open Go Go.RowKit Go.Lib Go.Sort Go.Proofs.YtohaalphocaebaaGreatDoor
theorem Xu{S:aM->Prop}:∀{l:List aj},aP S l↔∀x∈l,aK S x
 |[]=>by simp[aP]
 |x::r=>by simp only[aP,Xu (l:=r),eU,forall_eq_or_imp]
theorem Xo{α:Type}{s:cU}{l:List (aM×α)}:kI s l↔∀k,(look k l).isSome->inObs s k:=by
 refine⟨fun h k ae=>BJ h k ae,fun h=>?_⟩;have:∀ba:List (aM×α),(∀x∈ba,inObs s x.1)->kI s ba:=by
  intro ba;induction ba with
  |nil=>intro _;trivial
  |cons x r bK=>obtain⟨k,x⟩:=x;exact fun h=>⟨h (k,x) Ψ,bK fun y aB=>h y (by simp[aB])⟩
 exact this l fun x ab=>h x.1 (wb (x:=x.2) ab)
theorem PL{w:World}{Z:bg}{sz:Nat}:∀{xs:List aj} {us:List Value} {i:Nat} {p:aj},dK w Z sz xs us->xs[i]? =some p->∃u,(us.drop (i*sz)).take sz=u.cells.toList/\be w Z p u/\u.cells.size=sz/\∀c∈u.cells.toList,c.oneCell'=true
 |[],_,_,_,_,bG=>by simp at bG
 |x::xs,us,0,p,h,bG=>by simp only[dK]at h;obtain⟨u,ck,rfl,⟨I,U,ao⟩,_⟩:=h;simp at bG;subst bG;refine⟨u,?_,I,U,ao⟩;simp only[Nat.zero_mul,List.drop_zero];rw[List.take_append_of_le_length (by simp[U])];exact hV (by simp[U])
 |x::xs,us,i+1,p,h,bG=>by simp only[dK]at h;obtain⟨u,ck,rfl,⟨I,U,ao⟩,b8⟩:=h;obtain⟨v,ar,aE⟩:=PL (i:=i) b8 (by simpa using bG);refine⟨v,?_,aE⟩;rw[<-ar,Nat.succ_mul,Nat.add_comm,<-List.drop_drop];congr 2;rw[List.drop_append_of_le_length (by simp[U]),List.drop_of_length_le (by simp[U])];rfl
theorem P3:∀(bc:List Value) (s:Nat) (F:Array Value),s+bc.length<=F.size->(setMany F s bc).toList=F.toList.take s++bc++F.toList.drop (s+bc.length)
 |[],s,F,h=>by simp[setMany]
 |v::r,s,F,h=>by
  simp only[mM]at h;rw[setMany,P3 r (s+1) _ d7];have bD:s<F.toList.length:=by simp;omega
  have ar:(F.setIfInBounds s v).toList=F.toList.set s v:=by simp
  rw[ar];have aE:(F.toList.set s v).take (s+1)=F.toList.take s++[v]:=by rw[List.take_succ,List.getElem?_set_self bD,List.take_set_of_le (eo _)];simp
  have bA:(F.toList.set s v).drop (s+1+r.length)=F.toList.drop (s+(v::r).length):=by rw[List.drop_set_of_lt Ω];congr 1;simp;omega
  rw[aE,bA];simp
theorem acR(w:World):Sort.ahead w 0=w:=by simp[Sort.ahead]
theorem Vu{P:cM}(yO:Bool)(cd:Nat)(ab:∀args W,(callFunc cd args).run P W=((Ga yO args).run P W).andThen fun v w'=>.ok (.value v) w')(e:hl)(eD:TypeInfo)(uv:P.info? e=some eD)(yU:(∀w,(Go.isAgg e).run P w= .ok true w)\/(eD.size=1/\∀w,(Go.isAgg e).run P w= .ok false w)){s:cU}(af:dP s){K n el sz:Nat}(dY:eD.size=sz){xs:List aj}(ae:look (.obj K) s.e=some ⟨n,el,sz,some xs⟩)
  (i j:Nat) (hi:i<n) (ag:j<n):bL P cd [.int .i64 i,.int .i64 j,.row sz (.obj K) n,.cst (typeHandle P e)] s fun r ai=>r= .tuple []/\ai=⟨s.b,cI (.obj K) ⟨n,el,sz,some (hL xs i j)⟩ s.e⟩:=by
 subst dY;refine bL.sem af.obj fun w Z bc lh aN=>?_;right;have s0:=aN.slot 0;have s1:=aN.slot 1;have s2:=aN.slot 2;have s3:=aN.slot 3;simp[kg,get,be]at s0 s1 s2 s3;obtain⟨v,us,aW,bj,bM,cL⟩:=aN.good.own (.obj K) _ ae;obtain⟨c2,mG,wA⟩:=cL _ rfl;simp only at c2 mG aW bj;obtain⟨⟨g0,adl,sN⟩,_,n',fu,ar,aE,bA⟩:=s2;rw[aW]at ar;simp only[dD,kl]at ar;obtain⟨rfl,rfl⟩:=ar;have az:=bA rfl;have cG:v≠ .slice none 0 0:=by rw[<-az,sN];simp
 obtain⟨g,cap,rfl,rO,pJ,aiE,D0,DM⟩:=ajl bj cG;have ajL:bc= #[.int .i64 i,.int .i64 j,.slice (some ⟨g,0,none⟩) n cap,typeHandle P e]:=by
  have I:bc.size=4:=by simpa using lh
  apply Array.ext (by simpa using I);intro t U ao;simp at ao;rcases(by omega:t=0\/t=1\/t=2\/t=3)with rfl|rfl|rfl|rfl
  ·simpa[Array.getD,I]using s0
  ·simpa[Array.getD,I]using s1
  ·simpa[Array.getD,I]using az
  ·simpa[Array.getD,I]using s3
 subst ajL;obtain⟨p,bG⟩:∃p,xs[i]? =some p:=⟨_,cm Ω⟩;obtain⟨q,bs⟩:∃q,xs[j]? =some q:=⟨_,cm Ω⟩;obtain⟨u,jO,ki,rl,Ae⟩:=PL mG bG;obtain⟨x,tK,Ak,tL,Kr⟩:=PL mG bs;have Wl:i*eD.size+eD.size<=n*eD.size:=by have:=rr eD.size (show i+1<=n from hi);rwa[p8,Nat.one_mul]at this
 have Wm:j*eD.size+eD.size<=n*eD.size:=by have:=rr eD.size (show j+1<=n from ag);rwa[p8,Nat.one_mul]at this
 have cell:∀t v,us[t]? =some v->w.cell? ⟨g,t,none⟩=some v:=fun t v aC=>by obtain⟨I,U⟩:=fG.1 aC;have:=(DM t (by simpa using I)).1;simp at this;rw[this];simp[getElem!_pos,I,U]
 have Hm:∀t,t<n*eD.size->w.frozen? ⟨g,t,none⟩=false:=fun t aC=>by have:=(DM t (by simpa[D0]using aC)).2;simpa using this
 have run:(Ga yO #[.int .i64 i,.int .i64 j,.slice (some ⟨g,0,none⟩) n cap,typeHandle P e]).run P w= .ok (.tuple #[]) ((w.setCells g (0+i*eD.size) x.cells.toList).setCells g (0+j*eD.size) u.cells.toList):=by
  rcases yU with yU|⟨Hu,yU⟩
  ·exact run_swap_cells (P:=P) yO e eD uv yU g 0 n cap i j hi ag u.cells.toList x.cells.toList (by simp[rl]) (by simp[tL]) Ae Kr w
     (fun k v az=>by
      rw[<-jO,List.getElem?_take]at az;split at az
      ·rw[List.getElem?_drop]at az;simpa using cell _ _ az
      ·cases az)
     (fun k v az=>by
      rw[<-tK,List.getElem?_take]at az;split at az
      ·rw[List.getElem?_drop]at az;simpa using cell _ _ az
      ·cases az)
     (fun k ae=>by simpa using Hm (i*eD.size+k) Ω) (fun k ae=>by simpa using Hm (j*eD.size+k) Ω)
  ·rw[Hu]at jO rl tK tL⊢;obtain⟨G3,MF⟩:∃c,u.cells.toList=[c]:=List.length_eq_one_iff.1 (by simpa using rl);obtain⟨qh,ks⟩:∃c,x.cells.toList=[c]:=List.length_eq_one_iff.1 (by simpa using tL);rw[MF]at jO Ae⊢;rw[ks]at tK Kr⊢;simp only[World.setCells,Nat.mul_one]at jO tK⊢;have Vx:us[i]? =some G3:=by have:=eW (·[0]?) jO;simpa using this
   have Vz:us[j]? =some qh:=by have:=eW (·[0]?) tK;simpa using this
   have:=run_swap_one (P:=P) yO e eD uv Hu yU g 0 n cap i j hi ag G3 qh (Ae G3 Ψ) (Kr qh Ψ) w (by simpa using cell i G3 Vx) (by simpa using cell j qh Vz) (by simpa using Hm i (by rw[Hu];omega)) (by simpa using Hm j (by rw[Hu];omega));simpa using this
 have ajN:putRow id w g 0 us.toArray=w:=putRow_self id w g 0 _ DM;have ajE:us.toArray.size=n*eD.size:=by simpa using D0
 have zi:w.setCells g (0+i*eD.size) x.cells.toList=putRow id w g 0 (setMany us.toArray (i*eD.size) x.cells.toList):=by have I:=setCells_putRow w g 0 x.cells.toList (i*eD.size) us.toArray (by simp[tL,D0];exact Wl);rw[ajN]at I;exact I
 obtain⟨iR,mr⟩:∃iR,iR=setMany us.toArray (i*eD.size) x.cells.toList:=⟨_,rfl⟩;have ah0:iR.toList=us.take (i*eD.size)++x.cells.toList++us.drop (i*eD.size+eD.size):=by rw[mr,P3 _ _ _ (by simp[tL,D0];exact Wl)];simp[tL]
 have Mw:iR.size=n*eD.size:=by rw[mr,size_setMany];exact ajE
 have nF:(w.setCells g (0+i*eD.size) x.cells.toList).setCells g (0+j*eD.size) u.cells.toList=putRow id w g 0 (setMany iR (j*eD.size) u.cells.toList):=by rw[zi,<-mr,setCells_putRow w g 0 u.cells.toList (j*eD.size) iR (by simp[rl,Mw];exact Wm)]
 obtain⟨jg,xf⟩:∃jg,jg=setMany iR (j*eD.size) u.cells.toList:=⟨_,rfl⟩;have ah1:jg.toList=iR.toList.take (j*eD.size)++u.cells.toList++iR.toList.drop (j*eD.size+eD.size):=by rw[xf,P3 _ _ _ (by simp[rl,Mw];exact Wm)];simp[rl]
 have ah2:jg.size=n*eD.size:=by rw[xf,size_setMany];exact Mw
 have fc:=JF mG bG Ak tL Kr;rw[<-ah0]at fc;have gh:=JF (i:=j) (q:=q) fc (by rw[List.getElem?_set];split;(rename_i e;subst e;rw[if_pos Ω]);exact bs) ki rl Ae;rw[<-ah1]at gh;have H9:(xs.set i q).set j p=hL xs i j:=by simp[hL,bG,bs]
 rw[H9]at gh;have hlen:(hL xs i j).length=n:=by simpa using c2
 have mz:=anP (q:=0) (F:=jg) bj ah2;rw[acR]at mz;obtain⟨lz,p3,_⟩:=aN.setRowM (w':=putRow id w g 0 jg) ae rfl aW (bl:=g) rfl (v':= .slice (some ⟨g,0,none⟩) n cap) rfl (xs':=hL xs i j) (us:=jg.toList) (.inl ⟨hlen,rfl⟩) rfl rfl rfl
  (fun t aC=>by simp[putRow,mapBlock,Array.getElem?_modify,lY aC]) (by simp[putRow,mapBlock]) (by rw[hlen];exact mz) gh
 refine⟨.tuple #[],putRow id w g 0 jg,?_,?_⟩
 ·rw[ab,run,nF,<-xf];rfl
 ·have gZ:∀k,inObs ⟨s.b,cI (.obj K) ⟨n,el,eD.size,some (hL xs i j)⟩ s.e⟩ k↔inObs s k:=fun k=>by
   unfold inObs;simp only[jL];by_cases de:aM.obj K=k
   ·subst de;simp[ae]
   ·simp[de]
  refine⟨_,_,_,_,.tuple [],⟨s.b,cI (.obj K) ⟨n,el,eD.size,some (hL xs i j)⟩ s.e⟩,rfl,lz,by simp[be,cZ],Xo.2 fun k mx=>(gZ k).2 (.inl mx),Xo.2 fun k mx=>(gZ k).2 (.inr mx),fun k cs aq=>⟨aq,(gZ k).2 (.inl (by simp at aq;simp[aq])),kJ (fun k h=>(gZ k).2 h) _ (af.kb k cs aq)⟩,fun k o ax=>⟨by simpa[hlen]using ax,?_,fun ys aB=>?_⟩,⟨af.obj.1,fun m=>?_⟩,by simp[aK,aP],rfl,rfl⟩
  ·exact(.inr (by simp at ax;simp[ax]))
  ·simp only[jL]at ax;split at ax
   ·cases ax;simp only[dD]at aB;subst aB;have Wh:=af.ke _ _ ae xs rfl;refine kJ (fun k h=>(gZ k).2 h) _ ?_;rw[Xu]at Wh⊢;exact fun z a8=>Wh z ((XR xs i j).mem_iff.1 a8)
   ·exact kJ (fun k h=>(gZ k).2 h) _ (af.ke k o ax ys aB)
  ·simp only[jL];simp[af.obj.2 m]
theorem Vt{P:cM}(yO:Bool)(cd:Nat)(ab:∀args W,(callFunc cd args).run P W=((Ga yO args).run P W).andThen fun v w'=>.ok (.value v) w')(e:hl)(eD:TypeInfo)(uv:P.info? e=some eD)(yU:∀w,(Go.isAgg e).run P w= .ok true w){s:cU}(af:dP s){K n el sz:Nat}(dY:eD.size=sz){xs:List aj}(ae:look (.obj K) s.e=some ⟨n,el,sz,some xs⟩)
  (i j:Nat) (hi:i<n) (ag:j<n):bL P cd [.int .i64 i,.int .i64 j,.row sz (.obj K) n,.cst (typeHandle P e)] s fun r ai=>r= .tuple []/\ai=⟨s.b,cI (.obj K) ⟨n,el,sz,some (hL xs i j)⟩ s.e⟩:=Vu yO cd ab e eD uv (.inl yU) af dY ae i j hi ag
end
end Go.Pv
namespace Go.Proofs.YtohaalphocaebaaGreatDoor
section
open Go Go.RowKit Go.Lib Go.Sort Go.Pv
set_option maxRecDepth 100000 in
theorem apE(t e:hl)(i eD:TypeInfo)(hi:aA.info? t=some i)(aD:i.desc= .slice e)(Ec:aA.packed t=false)(uv:aA.info? e=some eD)(ke:Nat)(vL:∀w,(ace e).run aA w= .ok ke w)
  (p:Option Addr) (n c:Nat) (au:n<4611686018427387904) (f:Nat) (aO:aA.funcs.findIdx? (·.name== "internal/reflectlite" ++ ".Swapper$" ++toString (swapperK n eD ke))=some f) (XN:Fn) (NW rZ:Array Value) (w:World) (R:World->Prop)
  (bG:Calls aA 161 #[.agg #[.func XN NW rZ,.func (.func f) #[] (sliceBound aA e eD ke p n c)],.int .i64 n] ((w.alloc (.cells #[.slice p n c] t)).alloc (.cells #[typeHandle aA t,.pointer (some ⟨w.heap.size,0,none⟩),.int .u64 151] 150)) fun e w'=>e= .returned (.tuple #[])/\R w'):
  Calls aA 138 #[.iface t (.slice p n c),.func XN NW rZ] w fun e w'=>e= .returned (.tuple #[])/\R w':=by
 have az:=run_valueOf_slice (P:=aA) t e i hi aD p n c w;have af:=fun w=>run_swapper_slice (P:=aA) t e i eD hi aD uv ke vL p n c f aO w;have aw:=fun a w bk=>run_valueLen_slice (P:=aA) t e i hi aD Ec a p n c w bk;unfold sliceBound at bG;generalize (if swapperK n eD ke<=2 then(#[]:Array Value)else #[.slice p n c,typeHandle aA e])=B at af bG;have aiI:aA.globals.size=3:=by kernel_rfl
 simp only[typeHandle,aiI]at az aw bG;have G9:∀args w,(callFunc 161 args).run aA w= .ok (.enter 161 args) w:=enters_of Tryz.func161 ci rfl;go_enter Tryz.func138,Tryz.ntmps138;go_wp2;rw[run_callFunc_extern Tryz.func159 ci ci ci (e:=fun args=>arF (args.getD 0 (.tuple #[]))) ci,
  show Sem.run aA ((fun args:Array Value=>arF (args.getD 0 (.tuple #[]))) #[.iface t (.slice p n c)]) w=_ from az]
 simp only[Result.andThen];rw[Oper.upon_value];go_wp2;rw[run_callFunc_extern Tryz.func160 ci ci ci (e:=av2 "internal/reflectlite" (arG "Swapper")) ci,af];simp only[Result.andThen];rw[Oper.upon_value];go_wp2;rw[run_callFunc_extern Tryz.func162 ci ci ci (e:=av4 (arG "reflectlite.Value.Len" 0) av3) ci,
  aw _ _ Ψ]
 simp only[Result.andThen];rw[Oper.upon_value];go_wp2_with (go_at_fn 161;refine bG.mono ?_;rintro e w' ⟨rfl,bI⟩);go_end0;exact⟨rfl,bI⟩
theorem _root_.Go.Pv.Good.prMono{pr Fc:Nat->Prop}{w:World}{Z:bg}{b:List (aM×List aj)}{e:List (aM×fU)}(h:Pv.Good pr w Z b e)(bG:∀bl,pr bl->fE Z ⟨b,e⟩ bl->Fc bl):Pv.Good Fc w Z b e:=by
 refine⟨h.alt,fun k cs ae=>?_,h.inj,fun g o aT=>?_,h.oinj,h.obx,h.one,h.otr⟩
 ·obtain⟨bl,us,el,f1,f2,f3⟩:=h.box k cs ae;exact⟨bl,us,el,f1,bG bl f2 (.inl ⟨k,by simp[ae],f1⟩),f3⟩
 ·obtain⟨v,us,f1,f2,f3,f4⟩:=h.own g o aT;exact⟨v,us,f1,f2,fun bl ad=>⟨bG bl (f3 bl ad).1 (.inr ⟨g,o.n,v,by simp[aT],f1,ad⟩),(f3 bl ad).2⟩,f4⟩
theorem VA(w:World)(hh hb:Obj):w.grownBy ((w.alloc hh).alloc hb) none:=by
 have I:w.heap.size<=(w.alloc hh).heap.size:=by simp
 have U:(w.alloc hh).heap.size<=((w.alloc hh).alloc hb).heap.size:=by simp
 exact⟨rfl,rfl,rfl,hn I U,fun k ae _=>(Below.heap_alloc _ hb k (Nat.lt_of_lt_of_le ae I)).trans (Below.heap_alloc w hh k ae)⟩
def eb{α:Type}(e:α->aj)(K B el sz:Nat)(l:List α):cU:=⟨[(.obj B,[.row sz (.obj K) l.length])],[(.obj K,⟨l.length,el,sz,some (l.map e)⟩)]⟩
section
variable {α:Type} {e:α->aj} (he:∀S x,aK S (e x)) {K B el sz:Nat}
include he
theorem akK(S:aM->Prop)(l:List α):aP S (l.map e):=by
 induction l with
 |nil=>simp[aP]
 |cons x r bK=>simp only[hc,aP];exact⟨he S x,bK⟩
theorem yv(l:List α):dP (eb e K B el sz l):=by unfold eb;refine dP.of ⟨by intro m;simp[Pv.look],by intro m;simp[Pv.look]⟩ d9 ?_;intro x ab xs gp;simp at ab;subst ab;simp at gp;subst gp;exact akK he _ l
omit he in
theorem yw(l ba:List α):Same (eb e K B el sz l) (eb e K B el sz ba):=by
 refine⟨fun k=>?_,fun k=>?_⟩
 ·simp only[eb,Pv.look];split<;>rfl
 ·simp only[eb,Pv.look];split<;>rfl
theorem ag9(t:hl)(i eD:TypeInfo)(hi:aA.info? t=some i)(aD:i.desc= .slice el)(Ec:aA.packed t=false)(uv:aA.info? el=some eD)(ke:Nat)(vL:∀w,(ace el).run aA w= .ok ke w)(ih:∀n,2<=n->swapperK n eD ke=9)
  (g:Nat) (lt:α->α->Bool) (bD:rv lt) (l:List α) (aw:l.length<=68719476736)
  (y6:∀ba:List α,ba.length=l.length->∀(i j:Nat) x y,ba[i]? =some x->ba[j]? =some y->bL aA g [.int .i64 i,.int .i64 j,.ptr (.obj B) 0] (eb e K B el sz ba) fun r ai=>r= .bool (lt x y)/\ai=eb e K B el sz ba)
  (Bv:∀ba:List α,ba.length=l.length->∀i j:Nat,i<l.length->j<l.length->bL aA 186 [.int .i64 i,.int .i64 j,.row sz (.obj K) l.length,.cst (typeHandle aA el)] (eb e K B el sz ba) fun r ai=>r= .tuple []/\ai=eb e K B el sz (hL ba i j)):
  bL aA 138 [.iface t (.row sz (.obj K) l.length),.func g [.ptr (.obj B) 0]] (eb e K B el sz l) fun r ai=>r= .tuple []/\∃ba,ai=eb e K B el sz ba/\ba.Perm l/\ba.Pairwise fun x y=>lt y x=false:=by
 have DX:aA.funcs.findIdx? (·.name== "internal/reflectlite" ++ ".Swapper$" ++toString 1)=some 178:=by kernel_rfl
 have vH:aA.funcs.findIdx? (·.name== "internal/reflectlite" ++ ".Swapper$" ++toString 2)=some 179:=by kernel_rfl
 have MM:aA.funcs.findIdx? (·.name== "internal/reflectlite" ++ ".Swapper$" ++toString 9)=some 186:=by kernel_rfl
 have Ni:∃f ca,aA.funcs.findIdx? (·.name== "internal/reflectlite" ++ ".Swapper$" ++toString (swapperK l.length eD ke))=some f/\(ca=(if swapperK l.length eD ke<=2 then []else [aj.row sz (.obj K) l.length,.cst (typeHandle aA el)]))/\
   bL aA 161 [fe g f [.ptr (.obj B) 0] ca,.int .i64 l.length] (eb e K B el sz l) fun r ai=>r= .tuple []/\∃ba,ai=eb e K B el sz ba/\gM 0 l.length l ba/\fx lt 0 l.length ba:=by
  have eh:=fun ba=>yv (K:=K) (B:=B) (el:=el) (sz:=sz) he ba;rcases(by omega:l.length=0\/l.length=1\/2<=l.length)with bB|I|U
  ·refine⟨178,[],by rw[bB];exact DX,by rw[bB];rfl,Mp (lt:=lt) ⟨eh,fun kK hA _ _=>yw kK hA,fun ba _=>by simp[aP,aK,inObs,eb,Pv.look],fun ba _=>by simp[aP],by simp[ej,du],rfl,aw,fun ba h=>y6 ba h,fun ba _ U i j hi=>Ω⟩ bD l rfl⟩
  ·refine⟨179,[],by rw[I];exact vH,by rw[I];rfl,Mp (lt:=lt) ⟨eh,fun kK hA _ _=>yw kK hA,fun ba _=>by simp[aP,aK,inObs,eb,Pv.look],fun ba _=>by simp[aP],by simp[ej,du],rfl,aw,fun ba h=>y6 ba h,fun ba _ U i j hi ag=>Ω⟩ bD l rfl⟩
  ·refine⟨186,_,by rw[ih _ U];exact MM,rfl,?_⟩;rw[ih _ U];simp only[show¬((9:Nat)<=2)from by decide,if_false];exact Mp (lt:=lt) ⟨eh,fun kK hA _ _=>yw kK hA,fun ba _=>by simp[aP,aK,inObs,eb,Pv.look],fun ba _=>by simp[aP,aK,inObs,eb,Pv.look],by simp[ej,du],by simp[ej,du],aw,fun ba h=>y6 ba h,fun ba h _ i j hi ag=>Bv ba h i j hi ag⟩ bD l rfl
 obtain⟨f,ca,aO,Nd,da⟩:=Ni;intro w Z bc aT ab aN;have pM:=c7.start (yv he l).obj aT ab aN;have M8:=aN;simp only[cZ,be]at aN;obtain⟨v0,vs1,hv0,⟨u,rfl,⟨b,cap,rfl⟩,ik,n',fu,ar,aE,bA⟩,v1,vs2,hv1,⟨rZ,rfl,rQ⟩,rfl⟩:=aN;have lh:bc= #[.iface t (.slice (some ⟨b,0,none⟩) l.length cap),.func (.func g) #[] rZ]:=by apply Array.ext';rw[hv0,hv1]
 subst lh;have qs:∃fn,aA.funcs[(138:Nat)]? =some fn/\fn.body.isSome=true/\(fn.name== "runtime.NumGoroutine")=false:=⟨_,Tryz.func138,by kernel_rfl,by kernel_rfl⟩;refine .inl ⟨qs,?_⟩;obtain⟨dV,nF⟩:∃dV,dV=(w.alloc (.cells #[.slice (some ⟨b,0,none⟩) l.length cap] t)).alloc (.cells #[typeHandle aA t,.pointer (some ⟨w.heap.size,0,none⟩),.int .u64 151] 150):=⟨_,rfl⟩;have kE:w.grownBy dV none:=by rw[nF];exact VA _ _ _
 have M9:=pM.grown kE;have lK:mj w Z dV Z:=⟨fun b o bm=>⟨bm,GZ kE (aT.alt b o bm)⟩,fun _ _ _ h=>h,fun _ n u _ h=>⟨n,u,h,.inl ⟨rfl,rfl⟩⟩,fun b o bm=>x3 (kE.block b (aT.alt b o bm) Ψ),fun _ _ _ _ h=>h⟩;have pJ:Pv.Good (fE Z (eb e K B el sz l)) dV Z (eb e K B el sz l).b (eb e K B el sz l).e:=M9.good.prMono fun bl _ h=>h;have l7:=JJ lK M8;simp only[cZ]at l7;obtain⟨a0,ac2,uj,Ee,bF,ac3,l5,aju,rfl⟩:=l7;simp at uj;obtain⟨rfl,rfl⟩:=uj;simp at l5;subst l5;have Nc:be dV Z (.row sz (.obj K) l.length) (.slice (some ⟨b,0,none⟩) l.length cap):=by simp only[be]at Ee;obtain⟨u,hu,h⟩:=Ee;simp at hu;obtain⟨_,rfl⟩:=hu;simp only[be];exact h
 have lL:cZ dV Z ca (sliceBound aA el eD ke (some ⟨b,0,none⟩) l.length cap).toList:=by
  unfold sliceBound;rw[Nd];split
  ·simp[cZ]
  ·simp only[cZ];exact⟨_,_,rfl,Nc,_,_,rfl,by simp[be],rfl⟩
 have vE:cZ dV Z [fe g f [.ptr (.obj B) 0] ca,.int .i64 l.length] (#[.agg #[.func (.func g) #[] rZ,.func (.func f) #[] (sliceBound aA el eD ke (some ⟨b,0,none⟩) l.length cap)],.int .i64 l.length]:Array Value).toList:=by simp only[cZ,fe];refine⟨_,_,rfl,?_,_,_,rfl,by simp[be],rfl⟩;simp only[be,dt];exact⟨_,rfl,_,_,rfl,⟨⟨rZ,rfl,JJ lK rQ⟩,rfl⟩,_,_,rfl,⟨⟨_,rfl,lL⟩,rfl⟩,rfl⟩
 have MJ:=da dV Z _ pJ ab vE;have G9:∀args w,(callFunc 161 args).run aA w= .ok (.enter 161 args) w:=enters_of Tryz.func161 ci rfl;rcases MJ with⟨_,aq⟩|⟨v,w',aq,_⟩
 ·have MY:=apE t el i eD hi aD Ec uv ke vL (some ⟨b,0,none⟩) l.length cap Ω f aO (.func g) #[] rZ w
   (fun w'=> ∃ai bo,(∃ba,ai=eb e K B el sz ba/\gM 0 l.length l ba/\fx lt 0 l.length ba)/\Pv.Good (fun bl=>fE Z (eb e K B el sz l) bl\/dV.heap.size<=bl) w' bo ai.b ai.e/\pE bo ai/\jv ai/\qR ⟨dV,Z,fE Z (eb e K B el sz l),0,dc (eb e K B el sz l)⟩ w' bo) (by
    rw[<-nF];refine aq.mono ?_;rintro e w' ⟨v,r,ai,bo,rfl,⟨rfl,bs⟩,xx,a7,b8,c6,dM⟩;simp only[be,cZ]at xx;obtain⟨us,rfl,rS⟩:=xx;have:us= #[]:=by apply Array.ext';simpa using rS
    subst this;exact⟨rfl,ai,bo,bs,a7,b8,c6,dM⟩)
  refine MY.mono ?_;rintro e w' ⟨rfl,ai,bo,⟨ba,rfl,H8,Bu⟩,a7,b8,c6,dM⟩;refine⟨.tuple #[],.tuple [],_,bo,rfl,⟨rfl,ba,rfl,H8.perm,?_⟩,by simp[be,cZ],a7.prMono fun bl h _=>?_,b8,c6,⟨dM.os.trans kE.os,dM.tape.trans kE.tape,dM.output.trans kE.output,hn kE.size dM.size,fun k ae hm=>?_,fun b o bm=>?_,fun b o bm=>?_,dM.obj,dM.obn,dM.row,dM.obr,dM.trd,fun k j b ad=>⟨(dM.trb k j b ad).1.imp id (fun h=>hn kE.size h),(dM.trb k j b ad).2⟩,dM.trn,fun b o bm=>(dM.sh b o bm).trans (lK.sh b o bm)⟩⟩
  ·have y7:=H8.length;rw[<-y7]at Bu;exact Bu.pairwise
  ·rcases h with h|h
   ·exact .inl h
   ·exact .inr (hn kE.size h)
  ·rw[dM.block k (Nat.lt_of_lt_of_le ae kE.size) hm];exact kE.block k ae Ψ
  ·obtain⟨aS,bh⟩:=dM.keep b o bm;exact⟨aS,bh.trans (lK.A b o bm).2⟩
  ·rcases dM.fresh b o bm with h|h|h
   ·exact .inl h
   ·exact .inr (.inl h)
   ·exact .inr (.inr (hn kE.size h))
 ·rw[G9]at aq;cases aq
end
end
end Go.Proofs.YtohaalphocaebaaGreatDoor
namespace Go.Proofs
section
open Go.Shelf
def Tryz.lays6_ren:Go.Shelf.Ren:=⟨fun|6=>147|10=>159|11=>160|12=>162|13=>169|14=>170|24=>194|25=>195|26=>187|27=>196|28=>197|29=>198|30=>199|31=>200|32=>201|33=>202|34=>209|35=>210|36=>211|37=>212|38=>213|39=>218|n=>n,fun|20=>20|26=>138|35=>150|0=>0|37=>152|3=>3|41=>117|44=>156|49=>181|51=>170|4=>4|54=>183|53=>182|58=>161|5=>5|9=>9|60=>190|64=>194|66=>197|67=>198|17=>17|32=>147|33=>148|82=>227|12=>12|75=>220|76=>221|77=>222|78=>223|79=>224|80=>225|n=>n,fun|n=>n⟩
theorem Tryz.lays6:Go.Proofs.LaysGg.n6 aA Tryz.lays6_ren:={
 mixed:=by kernel_rfl
 f6:=Tryz.func147.trans (eW some ci)
 f10:=Tryz.func159.trans (eW some ci)
 f11:=Tryz.func160.trans (eW some ci)
 f12:=Tryz.func162.trans (eW some ci)
 f13:=Tryz.func169.trans (eW some ci)
 f14:=Tryz.func170.trans (eW some ci)
 f24:=Tryz.func194.trans (eW some ci)
 f25:=Tryz.func195.trans (eW some ci)
 f26:=Tryz.func187.trans (eW some ci)
 f27:=Tryz.func196.trans (eW some ci)
 f28:=Tryz.func197.trans (eW some ci)
 f29:=Tryz.func198.trans (eW some ci)
 f30:=Tryz.func199.trans (eW some ci)
 f31:=Tryz.func200.trans (eW some ci)
 f32:=Tryz.func201.trans (eW some ci)
 f33:=Tryz.func202.trans (eW some ci)
 f34:=Tryz.func209.trans (eW some ci)
 f35:=Tryz.func210.trans (eW some ci)
 f36:=Tryz.func211.trans (eW some ci)
 f37:=Tryz.func212.trans (eW some ci)
 f38:=Tryz.func213.trans (eW some ci)
 f39:=Tryz.func218.trans (eW some ci)
 t0:=Tryz.underlying0
 a0:=Tryz.isAgg0
 z0:=Tryz.sizeOf0
 v0:=Tryz.zeroValue0
 i0:=by kernel_rfl
 t3:=Tryz.underlying3
 a3:=Tryz.isAgg3
 z3:=Tryz.sizeOf3
 v3:=Tryz.zeroValue3
 i3:=by kernel_rfl
 t4:=Tryz.underlying4
 a4:=Tryz.isAgg4
 z4:=Tryz.sizeOf4
 v4:=Tryz.zeroValue4
 i4:=by kernel_rfl
 t5:=Tryz.underlying5
 a5:=Tryz.isAgg5
 z5:=Tryz.sizeOf5
 v5:=Tryz.zeroValue5
 i5:=by kernel_rfl
 t9:=Tryz.underlying9
 a9:=Tryz.isAgg9
 z9:=Tryz.sizeOf9
 v9:=Tryz.zeroValue9
 i9:=by kernel_rfl
 t12:=Tryz.underlying12
 a12:=Tryz.isAgg12
 z12:=Tryz.sizeOf12
 v12:=Tryz.zeroValue12
 i12:=by kernel_rfl
 t17:=Tryz.underlying17
 a17:=Tryz.isAgg17
 z17:=Tryz.sizeOf17
 v17:=Tryz.zeroValue17
 i17:=by kernel_rfl
 t20:=Tryz.underlying20
 a20:=Tryz.isAgg20
 z20:=Tryz.sizeOf20
 v20:=Tryz.zeroValue20
 i20:=by kernel_rfl
 t26:=Tryz.underlying138
 a26:=Tryz.isAgg138
 z26:=Tryz.sizeOf138
 v26:=Tryz.zeroValue138
 i26:=by kernel_rfl
 t32:=Tryz.underlying147
 a32:=Tryz.isAgg147
 z32:=Tryz.sizeOf147
 v32:=Tryz.zeroValue147
 i32:=by kernel_rfl
 t33:=Tryz.underlying148
 a33:=Tryz.isAgg148
 z33:=Tryz.sizeOf148
 v33:=Tryz.zeroValue148
 i33:=by kernel_rfl
 t35:=Tryz.underlying150
 a35:=Tryz.isAgg150
 z35:=Tryz.sizeOf150
 v35:=Tryz.zeroValue150
 i35:=by kernel_rfl
 t37:=Tryz.underlying152
 a37:=Tryz.isAgg152
 z37:=Tryz.sizeOf152
 v37:=Tryz.zeroValue152
 i37:=by kernel_rfl
 t41:=Tryz.underlying117
 a41:=Tryz.isAgg117
 z41:=Tryz.sizeOf117
 v41:=Tryz.zeroValue117
 i41:=by kernel_rfl
 t44:=Tryz.underlying156
 a44:=Tryz.isAgg156
 z44:=Tryz.sizeOf156
 v44:=Tryz.zeroValue156
 i44:=by kernel_rfl
 t49:=Tryz.underlying181
 a49:=Tryz.isAgg181
 z49:=Tryz.sizeOf181
 v49:=Tryz.zeroValue181
 i49:=by kernel_rfl
 t51:=Tryz.underlying170
 a51:=Tryz.isAgg170
 z51:=Tryz.sizeOf170
 v51:=Tryz.zeroValue170
 i51:=by kernel_rfl
 t53:=Tryz.underlying182
 a53:=Tryz.isAgg182
 z53:=Tryz.sizeOf182
 v53:=Tryz.zeroValue182
 i53:=by kernel_rfl
 t54:=Tryz.underlying183
 a54:=Tryz.isAgg183
 z54:=Tryz.sizeOf183
 v54:=Tryz.zeroValue183
 i54:=by kernel_rfl
 t58:=Tryz.underlying161
 a58:=Tryz.isAgg161
 z58:=Tryz.sizeOf161
 v58:=Tryz.zeroValue161
 i58:=by kernel_rfl
 t60:=Tryz.underlying190
 a60:=Tryz.isAgg190
 z60:=Tryz.sizeOf190
 v60:=Tryz.zeroValue190
 i60:=by kernel_rfl
 t64:=Tryz.underlying194
 a64:=Tryz.isAgg194
 z64:=Tryz.sizeOf194
 v64:=Tryz.zeroValue194
 i64:=by kernel_rfl
 t66:=Tryz.underlying197
 a66:=Tryz.isAgg197
 z66:=Tryz.sizeOf197
 v66:=Tryz.zeroValue197
 i66:=by kernel_rfl
 t67:=Tryz.underlying198
 a67:=Tryz.isAgg198
 z67:=Tryz.sizeOf198
 v67:=Tryz.zeroValue198
 i67:=by kernel_rfl
 t75:=Tryz.underlying220
 a75:=Tryz.isAgg220
 z75:=Tryz.sizeOf220
 v75:=Tryz.zeroValue220
 i75:=by kernel_rfl
 t76:=Tryz.underlying221
 a76:=Tryz.isAgg221
 z76:=Tryz.sizeOf221
 v76:=Tryz.zeroValue221
 i76:=by kernel_rfl
 t77:=Tryz.underlying222
 a77:=Tryz.isAgg222
 z77:=Tryz.sizeOf222
 v77:=Tryz.zeroValue222
 i77:=by kernel_rfl
 t78:=Tryz.underlying223
 a78:=Tryz.isAgg223
 z78:=Tryz.sizeOf223
 v78:=Tryz.zeroValue223
 i78:=by kernel_rfl
 t79:=Tryz.underlying224
 a79:=Tryz.isAgg224
 z79:=Tryz.sizeOf224
 v79:=Tryz.zeroValue224
 i79:=by kernel_rfl
 t80:=Tryz.underlying225
 a80:=Tryz.isAgg225
 z80:=Tryz.sizeOf225
 v80:=Tryz.zeroValue225
 i80:=by kernel_rfl
 t82:=Tryz.underlying227
 a82:=Tryz.isAgg227
 z82:=Tryz.sizeOf227
 v82:=Tryz.zeroValue227
 i82:=by kernel_rfl}
end
end Go.Proofs
namespace Go.Proofs.YtohaalphocaebaaGreatDoor
section
open Go Go.RowKit Go.Lib Go.Pv Go.Proofs
theorem ade(n:Nat)(h:n<1099511627776):Lib.bitLen n<=1000:=by
 have:∀f x,bitLenAux f x<=f:=by
  intro f;induction f with
  |zero=>intro x;simp[bitLenAux]
  |succ f bK=>
   intro x;rw[bitLenAux];split
   ·omega
   ·have:=bK (x/2);omega
 have:=this 64 n;unfold Lib.bitLen;omega
theorem anS{α:Type}[Inhabited α]{lt:α->α->Bool}{l:List α}{cn:Array α}(h:Sort.PermIn 0 l.length l.toArray cn)(af:Sort.SortedIn lt 0 l.length cn):cn.toList.Perm l/\cn.toList.Pairwise fun x y=>lt y x=false:=by
 obtain⟨lX,_,z3⟩:=h;have dY:cn.size=l.length:=by simpa using lX
 have ar:cn.extract 0 l.length=cn:=by rw[<-dY];simp
 have aE:l.toArray.extract 0 l.length=l.toArray:=by simp
 rw[ar,aE]at z3;refine⟨by simpa using z3,?_⟩;rw[p6];intro i j hi ag mv;have I:=af i j Ω mv (by simpa[dY]using ag);have uu:i<cn.size:=by simpa using hi
 have j9:j<cn.size:=by simpa using ag
 rw[getElem!_pos cn i uu,getElem!_pos cn j j9]at I;simpa using I
section
variable {α:Type} {e:α->aj} (he:∀S x,aK S (e x)) {K B el sz:Nat}
include he
theorem Vj[Inhabited α](VG:K≠901/\K≠902)(VE:B≠901/\B≠902)(t:hl)(i eD:TypeInfo)(hi:aA.info? t=some i)(aD:i.desc= .slice el)(Ec:aA.packed t=false)(uv:aA.info? el=some eD)(ke:Nat)(vL:∀w,(ace el).run aA w= .ok ke w)(ih:∀n,2<=n->swapperK n eD ke=9)
  (g:Nat) (lt:α->α->Bool) (bD:Sort.SWO lt) (l:List α) (aw:l.length<=68719476736)
  (y6:∀ba:List α,ba.length=l.length->∀(i j:Nat) x y,ba[i]? =some x->ba[j]? =some y->bL aA g [.int .i64 i,.int .i64 j,.ptr (.obj B) 0] (eb e K B el sz ba) fun r ai=>r= .bool (lt x y)/\ai=eb e K B el sz ba)
  (Bv:∀ba:List α,ba.length=l.length->∀i j:Nat,i<l.length->j<l.length->bL aA 186 [.int .i64 i,.int .i64 j,.row sz (.obj K) l.length,.cst (typeHandle aA el)] (eb e K B el sz ba) fun r ai=>r= .tuple []/\ai=eb e K B el sz (hL ba i j)):
  bL aA 147 [.iface t (.row sz (.obj K) l.length),.func g [.ptr (.obj B) 0]] (eb e K B el sz l) fun r ai=>r= .tuple []/\∃ba,ai=eb e K B el sz ba/\ba.Perm l/\ba.Pairwise fun x y=>lt y x=false:=by
 have DX:aA.funcs.findIdx? (·.name== "internal/reflectlite" ++ ".Swapper$" ++toString 1)=some 178:=by kernel_rfl
 have vH:aA.funcs.findIdx? (·.name== "internal/reflectlite" ++ ".Swapper$" ++toString 2)=some 179:=by kernel_rfl
 have MM:aA.funcs.findIdx? (·.name== "internal/reflectlite" ++ ".Swapper$" ++toString 9)=some 186:=by kernel_rfl
 have zd:tj (eb e K B el sz) 901:=fun l=>⟨by simp[eb,Pv.look,VE.1],by simp[eb,Pv.look,VG.1]⟩;have ze:tj (eb e K B el sz) 902:=fun l=>⟨by simp[eb,Pv.look,VE.2],by simp[eb,Pv.look,VG.2]⟩;have fA:=ade l.length Ω;have Ni:∃f ca,aA.funcs.findIdx? (·.name== "internal/reflectlite" ++ ".Swapper$" ++toString (swapperK l.length eD ke))=some f/\(ca=(if swapperK l.length eD ke<=2 then []else [aj.row sz (.obj K) l.length,.cst (typeHandle aA el)]))/\
   bL aA 170 [fe g f [.ptr (.obj B) 0] ca,.int .i64 0,.int .i64 l.length,.int .i64 (Lib.bitLen l.length)] (eb e K B el sz l) fun r ai=>r= .tuple []/\∃ba,ai=eb e K B el sz ba/\ba.Perm l/\ba.Pairwise fun x y=>lt y x=false:=by
  have eh:=fun ba=>yv (K:=K) (B:=B) (el:=el) (sz:=sz) he ba;have key:∀{cd:Nat} {ca:List aj},fo (eb e K B el sz) l.length g cd [.ptr (.obj B) 0] ca lt->bL aA 170 [fe g cd [.ptr (.obj B) 0] ca,.int .i64 0,.int .i64 l.length,.int .i64 (Lib.bitLen l.length)] (eb e K B el sz l) fun r ai=>r= .tuple []/\∃ba,ai=eb e K B el sz ba/\ba.Perm l/\ba.Pairwise fun x y=>lt y x=false:=by intro cd ca H;have:=aht H zd ze bD l.length l.toArray Ψ 0 l.length (Lib.bitLen l.length) Ω Ω (eo _) Ω (.inl rfl);simp only[Int.ofNat_zero,Int.natCast_zero,Int.cast_ofNat_Int]at this;refine bL.mono this ?_;rintro r ai ⟨aW,cn,bj,bM,cL⟩;obtain⟨cT,dm⟩:=anS bM cL;exact⟨aW,cn.toList,bj,cT,dm⟩
  rcases(by omega:l.length=0\/l.length=1\/2<=l.length)with bB|I|U
  ·refine⟨178,[],by rw[bB];exact DX,by rw[bB];rfl,key ⟨eh,fun kK hA _ _=>yw kK hA,fun ba _=>by simp[aP,aK,inObs,eb,Pv.look],fun ba _=>by simp[aP],by simp[ej,du],rfl,aw,fun ba h=>y6 ba h,fun ba _ U i j hi=>Ω⟩⟩
  ·refine⟨179,[],by rw[I];exact vH,by rw[I];rfl,key ⟨eh,fun kK hA _ _=>yw kK hA,fun ba _=>by simp[aP,aK,inObs,eb,Pv.look],fun ba _=>by simp[aP],by simp[ej,du],rfl,aw,fun ba h=>y6 ba h,fun ba _ U i j hi ag=>Ω⟩⟩
  ·refine⟨186,_,by rw[ih _ U];exact MM,rfl,?_⟩;rw[ih _ U];simp only[show¬((9:Nat)<=2)from by decide,if_false];exact key ⟨eh,fun kK hA _ _=>yw kK hA,fun ba _=>by simp[aP,aK,inObs,eb,Pv.look],fun ba _=>by simp[aP,aK,inObs,eb,Pv.look],by simp[ej,du],by simp[ej,du],aw,fun ba h=>y6 ba h,fun ba h _ i j hi ag=>Bv ba h i j hi ag⟩
 obtain⟨f,ca,aO,Nd,da⟩:=Ni;intro w Z bc aT ab aN;have pM:=c7.start (yv he l).obj aT ab aN;have M8:=aN;simp only[cZ,be]at aN;obtain⟨v0,vs1,hv0,⟨u,rfl,⟨b,cap,rfl⟩,ik,n',fu,ar,aE,bA⟩,v1,vs2,hv1,⟨rZ,rfl,rQ⟩,rfl⟩:=aN;have lh:bc= #[.iface t (.slice (some ⟨b,0,none⟩) l.length cap),.func (.func g) #[] rZ]:=by apply Array.ext';rw[hv0,hv1]
 subst lh;have qs:∃fn,aA.funcs[(147:Nat)]? =some fn/\fn.body.isSome=true/\(fn.name== "runtime.NumGoroutine")=false:=⟨_,Tryz.func147,by kernel_rfl,by kernel_rfl⟩;refine .inl ⟨qs,?_⟩;obtain⟨dV,nF⟩:∃dV,dV=sliceWorld aA Tryz.lays6_ren t (some ⟨b,0,none⟩) l.length cap w:=⟨_,rfl⟩;have kE:w.grownBy dV none:=by rw[nF];unfold sliceWorld;exact VA _ _ _
 have M9:=pM.grown kE;have lK:mj w Z dV Z:=⟨fun b o bm=>⟨bm,GZ kE (aT.alt b o bm)⟩,fun _ _ _ h=>h,fun _ n u _ h=>⟨n,u,h,.inl ⟨rfl,rfl⟩⟩,fun b o bm=>x3 (kE.block b (aT.alt b o bm) Ψ),fun _ _ _ _ h=>h⟩;have pJ:Pv.Good (fE Z (eb e K B el sz l)) dV Z (eb e K B el sz l).b (eb e K B el sz l).e:=M9.good.prMono fun bl _ h=>h;have l7:=JJ lK M8;simp only[cZ]at l7;obtain⟨a0,ac2,uj,Ee,bF,ac3,l5,aju,rfl⟩:=l7;simp at uj;obtain⟨rfl,rfl⟩:=uj;simp at l5;subst l5;have Nc:be dV Z (.row sz (.obj K) l.length) (.slice (some ⟨b,0,none⟩) l.length cap):=by simp only[be]at Ee;obtain⟨u,hu,h⟩:=Ee;simp at hu;obtain⟨_,rfl⟩:=hu;simp only[be];exact h
 have lL:cZ dV Z ca (sliceBound aA el eD ke (some ⟨b,0,none⟩) l.length cap).toList:=by
  unfold sliceBound;rw[Nd];split
  ·simp[cZ]
  ·simp only[cZ];exact⟨_,_,rfl,Nc,_,_,rfl,by simp[be],rfl⟩
 have vE:cZ dV Z [fe g f [.ptr (.obj B) 0] ca,.int .i64 0,.int .i64 l.length,.int .i64 (Lib.bitLen l.length)] (#[.agg #[.func (.func g) #[] rZ,.func (.func f) #[] (sliceBound aA el eD ke (some ⟨b,0,none⟩) l.length cap)],.int .i64 0,.int .i64 l.length,.int .i64 (Lib.bitLen l.length)]:Array Value).toList:=by simp only[cZ,fe];refine⟨_,_,rfl,?_,_,_,rfl,by simp[be],_,_,rfl,by simp[be],_,_,rfl,by simp[be],rfl⟩;simp only[be,dt];exact⟨_,rfl,_,_,rfl,⟨⟨rZ,rfl,JJ lK rQ⟩,rfl⟩,_,_,rfl,⟨⟨_,rfl,lL⟩,rfl⟩,rfl⟩
 have MJ:=da dV Z _ pJ ab vE;have G9:∀args w,(callFunc 170 args).run aA w= .ok (.enter 170 args) w:=enters_of Tryz.func170 ci rfl;rcases MJ with⟨_,aq⟩|⟨v,w',aq,_⟩
 ·have MY:=Any.sort_Slice_of_pdq Tryz.lays6 t el i eD hi aD Ec uv ke vL (some ⟨b,0,none⟩) l.length cap Ω f aO (.func g) #[] rZ w
   (fun w'=> ∃ai bo,(∃ba,ai=eb e K B el sz ba/\ba.Perm l/\ba.Pairwise fun x y=>lt y x=false)/\Pv.Good (fun bl=>fE Z (eb e K B el sz l) bl\/dV.heap.size<=bl) w' bo ai.b ai.e/\pE bo ai/\jv ai/\qR ⟨dV,Z,fE Z (eb e K B el sz l),0,dc (eb e K B el sz l)⟩ w' bo) (by
    rw[<-nF];refine aq.mono ?_;rintro e w' ⟨v,r,ai,bo,rfl,⟨rfl,bs⟩,xx,a7,b8,c6,dM⟩;simp only[be,cZ]at xx;obtain⟨us,rfl,rS⟩:=xx;have:us= #[]:=by apply Array.ext';simpa using rS
    subst this;exact⟨rfl,ai,bo,bs,a7,b8,c6,dM⟩)
  refine MY.mono ?_;rintro e w' ⟨rfl,ai,bo,⟨ba,rfl,H8,Bu⟩,a7,b8,c6,dM⟩;refine⟨.tuple #[],.tuple [],_,bo,rfl,⟨rfl,ba,rfl,H8,Bu⟩,by simp[be,cZ],a7.prMono fun bl h _=>?_,b8,c6,⟨dM.os.trans kE.os,dM.tape.trans kE.tape,dM.output.trans kE.output,hn kE.size dM.size,fun k ae hm=>?_,fun b o bm=>?_,fun b o bm=>?_,dM.obj,dM.obn,dM.row,dM.obr,dM.trd,fun k j b ad=>⟨(dM.trb k j b ad).1.imp id (fun h=>hn kE.size h),(dM.trb k j b ad).2⟩,dM.trn,fun b o bm=>(dM.sh b o bm).trans (lK.sh b o bm)⟩⟩
  ·rcases h with h|h
   ·exact .inl h
   ·exact .inr (hn kE.size h)
  ·rw[dM.block k (Nat.lt_of_lt_of_le ae kE.size) hm];exact kE.block k ae Ψ
  ·obtain⟨aS,bh⟩:=dM.keep b o bm;exact⟨aS,bh.trans (lK.A b o bm).2⟩
  ·rcases dM.fresh b o bm with h|h|h
   ·exact .inl h
   ·exact .inr (.inl h)
   ·exact .inr (.inr (hn kE.size h))
 ·rw[G9]at aq;cases aq
end
end
section
open Go Go.Pv Go.Lib
abbrev yu(l:List bn):cU:=eb bn.e 814 815 56 2 l
theorem Yn:∀(S:aM->Prop) (x:bn),aK S x.e:=fun S x=>by simp
theorem KC(l:List bn):dP (yu l):=yv Yn l
theorem ak4:Sort.SWO (im fs):=by
 refine⟨fun x=>?_,fun x y z I U=>?_,fun x y z I U=>?_⟩
 ·simp only[im,gJ];have:=lQ.refl x;omega
 ·simp only[im,eA]at*;exact lQ.ltr I Ω
 ·simp only[im,gJ]at*;have ar:=lQ.neg x y;have aE:=lQ.neg y z;have bA:=lQ.neg x z;have:=lQ.tr z y x Ω Ω;omega
theorem ag4(l:List bn)(i j:Nat)(x y:bn)(aw:l.length<=68719476736)(hi:l[i]? =some x)(ag:l[j]? =some y):bL aA 150 [.int .i64 i,.int .i64 j,.ptr (.obj 815) 0] (yu l) fun r ai=>r= .bool (im fs x y)/\ai=yu l:=by have af:=KC l;obtain⟨mW,h9⟩:=fG.1 hi;obtain⟨dX,oX⟩:=fG.1 ag;unfold yu eb at af⊢;refine bL.mk mixed kP Tryz.func150 alO Ψ af.obj fun aR cN=>?_;unfold RX;simp[mW,dX,h9,oX];(with_reducible repeat' first|refine ak ?_|refine aF (CM _ _) ?_|refine aG (CM _ _) ?_|simp[mW,dX,h9,oX]);refine cR.at _ (.inl rfl) af (Same.refl _) aL aL ?_;simp[cV,aY,a6,aX]
noncomputable def Tryz.maT:TypeInfo:=(aA.info? 26).get ci
noncomputable def Tryz.maE:TypeInfo:=(aA.info? 56).get ci
theorem Tryz.maK(n:Nat)(U:2<=n):Lib.swapperK n Tryz.maE 25=9:=by
 have a:Tryz.maE.hasPointers=true:=by kernel_rfl
 have b:Tryz.maE.bytes=24:=by kernel_rfl
 have c:(n==0)=false:=by simp;omega
 have d:(n==1)=false:=by simp;omega
 simp[Lib.swapperK,a,b,c,d]
theorem XQ{α β:Type}(f:α->β)(l:List α)(i j:Nat):(hL l i j).map f=hL (l.map f) i j:=by
 unfold hL;simp only[List.getElem?_map];cases l[i]? with
 |none=>simp
 |some x=>
  cases l[j]? with
  |none=>simp
  |some y=>simp[List.map_set]
theorem ahF(l:List bn)(aw:l.length<=68719476736):bL aA 147 [.iface 26 (.row 2 (.obj 814) l.length),.func 150 [.ptr (.obj 815) 0]] (yu l) fun r ai=>r= .tuple []/\ai=yu (pb fs l):=by
 refine(Vj Yn (K:=814) (B:=815) (sz:=2) (by decide) (by decide) 26 Tryz.maT Tryz.maE ci ci ci ci 25 (fun _=>by kernel_rfl) Tryz.maK 150 (im fs) ak4 l aw (fun ba h i j x y hi ag=>ag4 ba i j x y Ω hi ag) (fun ba h i j hi ag=>?_)).mono ?_
 ·have:=Vt (P:=aA) false 186 (fun args W=>run_callFunc_extern Tryz.func186 ci ci ci (e:=Ga false) ci args W)
   56 Tryz.maE ci (fun _=>by kernel_rfl) (KC ba) (K:=814) (n:=l.length) (el:=56) (sz:=2) ci (xs:=ba.map bn.e) (by simp[eb,Pv.look,h]) i j hi ag
  refine this.mono ?_;rintro r ai ⟨rfl,rfl⟩;refine⟨rfl,?_⟩;simp[eb,cI,XQ,h]
 ·rintro r ai ⟨rfl,ba,rfl,I,U⟩;exact⟨rfl,by rw[aaP lQ I U]⟩
def o7(l:List bn):List aj:= .hdm l.length (List.range l.length)::l.flatMap fun m=>[m.e,.bool true]
def l0(m:bn)(l:List bn):List bn:=if m∈l then l else l++[m]
theorem akF(a b:bn):rW (.a [false,true]) a.e b.e=some (decide (a=b)):=by simp only[bn.e,rW,kW,if_true,nT];congr 1;rw[qP];cases a;cases b;simp
theorem akG(a:bn):vV (.a [false,true]) a.e=true:=by simp[bn.e,vV,kW,-KP]
theorem Ys(m:bn):∀l:List bn,ti (.a [false,true]) m.e (.bool true) (l.flatMap fun m=>[m.e,.bool true])=some (if m∈l then some (l.flatMap fun m=>[m.e,.bool true])else none)
 |[]=>rfl
 |a::l=>by
  simp only[List.flatMap_cons,bQ,bU,ti,akF];by_cases h:m=a
  ·subst h;simp
  ·have b4:decide (m=a)=false:=by simp[h]
   rw[b4];simp only[Ys m l];by_cases hm:m∈l
   ·simp[hm]
   ·simp[hm,h]
@[simp]theorem auS(m:bn)(l:List bn):ov (.a [false,true]) m.e (.bool true) (o7 l)=some (o7 (l0 m l)):=by
 simp only[o7,ov,akG,Bool.true_eq_false,reduceCtorEq,if_false,Ys,l0];by_cases h:m∈l
 ·simp[h]
 ·simp[h,List.range_succ]
end
section
open Go Go.Pv
@[simp]theorem BM(S:aM->Prop)(l:List bn):aP S (o7 l)=True:=by
 refine eq_true ?_;unfold o7;have:∀l:List bn,aP S (l.flatMap fun m=>[m.e,aj.bool true]):=fun l=>by
  induction l with
  |nil=>simp[aP]
  |cons x r bK=>simp only[List.flatMap_cons,bQ,bU,aP,akL,aK,true_and];exact bK
 simp only[aP,aK,true_and];exact this l
@[simp]theorem auz:[aj.hdm 0 []]=o7 []:=rfl
def pt(tag:List UInt8)(l:List bn):cU:=⟨[(.obj 811,[.str tag]),(.obj 812,o7 l),(.obj 813,[.gmap (.obj 812)])],[]⟩
theorem Gj(tag:List UInt8)(l:List bn):dP (pt tag l):=by unfold pt;refine dP.of ⟨by intro m;simp[Pv.look],by intro m;simp[Pv.look]⟩ d9 Ψ
theorem KD(tag:List UInt8)(l ba:List bn):Same (pt tag l) (pt tag ba):=Same.keys (by simp[pt]) (by simp[pt])
theorem ag3(tag:List UInt8)(v:Int)(l:List bn):bL aA 149 [.int .i64 v,.ptr (.obj 813) 0,.ptr (.obj 811) 0] (pt tag l) fun r ai=>r= .tuple []/\ai=pt tag (l0 ⟨v,tag⟩ l):=by have af:=Gj tag l;have gb:=Gj tag (l0 ⟨v,tag⟩ l);have dU:=KD tag l (l0 ⟨v,tag⟩ l);unfold pt at af gb dU⊢;refine bL.mk mixed kP Tryz.func149 alN Ψ af.obj fun aR cN=>?_;unfold RW;simp;refine cR.at _ (.inr rfl) gb dU aL aL ?_;simp[cV,aY,a6,aX]
end
section
open Go Go.Pv Go.Lib
abbrev wT(l:List bV):cU:=eb bV.e 803 804 59 2 l
theorem Xl:∀(S:aM->Prop) (x:bV),aK S x.e:=fun S x=>by simp
theorem Gh(l:List bV):dP (wT l):=yv Xl l
def xM(x y:bV):Bool:=decide (x.v<y.v)
theorem ak3:Sort.SWO xM:=⟨fun x=>by simp[xM],fun x y z I U=>by simp[xM]at*;omega,fun x y z I U=>by simp[xM]at*;omega⟩
theorem ag5(l:List bV)(i j:Nat)(x y:bV)(aw:l.length<=68719476736)(hi:l[i]? =some x)(ag:l[j]? =some y):bL aA 148 [.int .i64 i,.int .i64 j,.ptr (.obj 804) 0] (wT l) fun r ai=>r= .bool (xM x y)/\ai=wT l:=by have af:=Gh l;obtain⟨mW,h9⟩:=fG.1 hi;obtain⟨dX,oX⟩:=fG.1 ag;unfold wT eb at af⊢;refine bL.mk mixed kP Tryz.func148 alP Ψ af.obj fun aR cN=>?_;unfold RY;simp[mW,dX,h9,oX];(with_reducible repeat' first|refine ak ?_|simp);refine cR.at _ (.inl rfl) af (Same.refl _) aL aL ?_;simp[cV,aY,a6,aX,xM]
noncomputable def Tryz.vkT:TypeInfo:=(aA.info? 25).get ci
noncomputable def Tryz.vkE:TypeInfo:=(aA.info? 59).get ci
theorem Tryz.vkK(n:Nat)(U:2<=n):Lib.swapperK n Tryz.vkE 25=9:=by
 have a:Tryz.vkE.hasPointers=false:=by kernel_rfl
 have b:Tryz.vkE.bytes=16:=by kernel_rfl
 have c:(n==0)=false:=by simp;omega
 have d:(n==1)=false:=by simp;omega
 simp[Lib.swapperK,a,b,c,d]
theorem ak2{α β:Type}(f:α->β)(l:List α)(i j:Nat):(hL l i j).map f=hL (l.map f) i j:=by
 unfold hL;simp only[List.getElem?_map];cases l[i]? with
 |none=>simp
 |some x=>
  cases l[j]? with
  |none=>simp
  |some y=>simp[List.map_set]
theorem Vs(l:List bV)(aw:l.length<=68719476736):bL aA 147 [.iface 25 (.row 2 (.obj 803) l.length),.func 148 [.ptr (.obj 804) 0]] (wT l) fun r ai=>r= .tuple []/\∃ba,ai=wT ba/\ba.Perm l/\ba.Pairwise fun x y=>xM y x=false:=by
 refine(Vj Xl (K:=803) (B:=804) (sz:=2) (by decide) (by decide) 25 Tryz.vkT Tryz.vkE ci ci ci ci 25 (fun _=>by kernel_rfl) Tryz.vkK 148 xM ak3 l aw (fun ba h i j x y hi ag=>ag5 ba i j x y Ω hi ag) (fun ba h i j hi ag=>?_));have:=Vt (P:=aA) false 186 (fun args W=>run_callFunc_extern Tryz.func186 ci ci ci (e:=Ga false) ci args W)
  59 Tryz.vkE ci (fun _=>by kernel_rfl) (Gh ba) (K:=803) (n:=l.length) (el:=59) (sz:=2) ci (xs:=ba.map bV.e) (by simp[eb,Pv.look,h]) i j hi ag
 refine this.mono ?_;rintro r ai ⟨rfl,rfl⟩;refine⟨rfl,?_⟩;simp[eb,cI,ak2,h]
end
section
open Go Go.Pv
def gd(o:Option (List bV)):aj:= .tuple [.slice 2 .no ((o.getD []).map bV.e),.bool o.isSome]
@[simp]theorem auj(S:aM->Prop)(o:Option (List bV)):aK S (gd o)=True:=by simp[gd]
theorem abn{l:List bV}(h:ho l):bR aA 54 [.slice 2 .no (l.map bV.e)] (.bool true):=by have:=abm l;simpa only[h,decide_true]using this
theorem Ag{t:T}(h:t.fit=true):bR aA 89 [t.e] (.bool true):=by have:=aqB t;rwa[h]at this
theorem abi{s:List ah}(af:ei s){l:List bV}(aw:ho l)(t:T)(aC:t.fit=true)(k:Int):
  bR aA 98 [.slice 5 .no (s.map ah.e),.slice 2 .no (l.map bV.e),t.e,.int .i64 k] (gd (if(k=2\/k=3)/\(t.ap (aV s)).size<=5000 then gU l (t.ap (aV s)) k else none)):=by
 have y7:=o5 aw;have c5:=p1 af;have dz:=Ag aC;have dg:=abn aw;have fM:=FX s t af.len af.sol.asc af.fit;generalize ab:t.ap (aV s)=x at fM⊢;generalize di:(if(k=2\/k=3)/\x.size<=5000 then gU l x k else none)=O;by_cases ae:k=2\/k=3;rotate_left
 ·have gQ:(k !=2)=true:=by simp;omega
  have jo:(k !=3)=true:=by simp;omega
  rw[if_neg (fun h=>ae h.1)]at di;rw[<-di];refine br kP Tryz.func98 tn fun aR=>?_;unfold rE;simp;(with_reducible repeat' first|refine ak ?_|refine aF c5 ?_|refine aG c5 ?_|refine aF dz ?_|refine aG dz ?_|refine aF dg ?_|refine aG dg ?_|simp[gQ,jo]);simp[bz,aY,a6,aX];simp[gd]
 by_cases a8:x.size<=5000;rotate_left
 ·rw[if_neg (fun h=>a8 h.2)]at di;rw[<-di];rw[if_neg a8,jf a8]at fM;refine br kP Tryz.func98 tn fun aR=>?_;unfold rE;simp;rcases ae with rfl|rfl;all_goals(with_reducible repeat' first|refine ak ?_|refine aF c5 ?_|refine aG c5 ?_|refine aF dz ?_|refine aG dz ?_|refine aF dg ?_|refine aG dg ?_|refine aF fM ?_|refine aG fM ?_|simp)
  all_goals simp[bz,aY,a6,aX]
  all_goals simp[gd]
 rw[if_pos ⟨ae,a8⟩]at di;rw[if_pos a8,hd a8]at fM;have xp:(k !=2)=true->(k !=3)=false:=fun h=>by simp at h⊢;omega
 have vK:((k !=2)=false)\/((k !=2)=true/\(k !=3)=false):=by
  rcases ae with rfl|rfl
  ·left;rfl
  ·right;exact⟨rfl,rfl⟩
 clear xp;cases x with
 |var n=>
  have ec:O=match jb l n with|some bJ=>if bJ=k then some l else none|none=>some (mD ⟨n,k⟩ l):=by rw[<-di];rfl
  refine br kP Tryz.func98 tn fun aR=>?_;unfold rE;simp;rcases vK with bs|⟨bs,lf⟩
  ·(with_reducible repeat' first|refine ak ?_|refine aF c5 ?_|refine aG c5 ?_|refine aF dz ?_|refine aG dz ?_|refine aF dg ?_|refine aG dg ?_|refine aF fM ?_|refine aG fM ?_|simp[bs]);refine ep [3,10,12,55,56] (fun i (_:Unit)=>[(57,.int .i64 i)]) l.length (fun i _=> ∀j y,j<i->l[j]? =some y->y.v≠n) () b0 (fun j y ag=>Ω) (fun _ ag _=>?_) (fun i _ hi ag _=>?_)
   ·have aT:jb l n=none:=zq.2 fun y aB=>by obtain⟨m,hm,e⟩:=oL aB;exact ag m y hm (by rw[cm hm,e])
    rw[aT]at ec;simp only at ec;simp;(with_reducible repeat' first|refine ak ?_|simp);all_goals first|(refine⟨by unfold lim;omega,?_⟩)|skip
    have key:=Vs (l++[⟨n,k⟩]) d7;have eh:=Gh (l++[⟨n,k⟩]);have hlen:(l++[(⟨n,k⟩:bV)]).length=l.length+1:=by simp
    unfold wT eb at key eh;rw[hlen,List.map_append,hc,nS]at key eh;refine cY.ob key eh aL aL (by simp[inObs,Pv.look]) ?_;rintro r ai ⟨rfl,ba,rfl,I,U⟩;have ux:ba=mD ⟨n,k⟩ l:=Xm (I.trans ((List.perm_append_comm (l₁:=l) (l₂:=[⟨n,k⟩])).trans (NC ⟨n,k⟩ l).symm)) (Im aw.asc (zq.1 aT)) U;subst ux;refine⟨Same.keys Ψ Ψ,?_⟩;rw[ec];simp[cc];(with_reducible repeat' first|refine ak ?_|simp);simp[bz,aY,a6,aX];simp[gd]
   ·obtain⟨b,ad,cK⟩:=en hi;by_cases mT:b.v=n
    ·have aT:jb l n=some b.k:=by rw[<-mT];exact zr aw.asc (ek ad)
     rw[aT]at ec;simp only at ec;by_cases pH:b.k=k
     ·rw[if_pos pH]at ec;rw[ec];have yW:(b.k !=k)=false:=by simp[pH]
      have sO:(b.v==n)=true:=by simp[mT]
      simp[hi,cK];(with_reducible repeat' first|refine ak ?_|simp[cK,hi,yW,sO,pH,mT]);simp[bz,aY,a6,aX];simp[gd]
     ·rw[if_neg pH]at ec;rw[ec];have yW:(b.k !=k)=true:=by simp[pH]
      have sO:(b.v==n)=true:=by simp[mT]
      simp[hi,cK];(with_reducible repeat' first|refine ak ?_|simp[cK,hi,yW,sO,pH,mT]);simp[bz,aY,a6,aX];simp[gd]
    ·have sO:(b.v==n)=false:=by simp[mT]
     simp[hi,cK];(with_reducible repeat' first|refine ak ?_|simp[cK,hi,sO,mT]);exact bS.rng () hi (fun j y j9 aB=>by
      rcases(by omega:j<i\/j=i)with h|rfl
      ·exact ag j y h aB
      ·rw[ad]at aB;cases aB;exact mT) b0
  ·(with_reducible repeat' first|refine ak ?_|refine aF c5 ?_|refine aG c5 ?_|refine aF dz ?_|refine aG dz ?_|refine aF dg ?_|refine aG dg ?_|refine aF fM ?_|refine aG fM ?_|simp[bs,lf]);refine ep [3,10,12,55,56] (fun i (_:Unit)=>[(57,.int .i64 i)]) l.length (fun i _=> ∀j y,j<i->l[j]? =some y->y.v≠n) () b0 (fun j y ag=>Ω) (fun _ ag _=>?_) (fun i _ hi ag _=>?_)
   ·have aT:jb l n=none:=zq.2 fun y aB=>by obtain⟨m,hm,e⟩:=oL aB;exact ag m y hm (by rw[cm hm,e])
    rw[aT]at ec;simp only at ec;simp;(with_reducible repeat' first|refine ak ?_|simp);all_goals first|(refine⟨by unfold lim;omega,?_⟩)|skip
    have key:=Vs (l++[⟨n,k⟩]) d7;have eh:=Gh (l++[⟨n,k⟩]);have hlen:(l++[(⟨n,k⟩:bV)]).length=l.length+1:=by simp
    unfold wT eb at key eh;rw[hlen,List.map_append,hc,nS]at key eh;refine cY.ob key eh aL aL (by simp[inObs,Pv.look]) ?_;rintro r ai ⟨rfl,ba,rfl,I,U⟩;have ux:ba=mD ⟨n,k⟩ l:=Xm (I.trans ((List.perm_append_comm (l₁:=l) (l₂:=[⟨n,k⟩])).trans (NC ⟨n,k⟩ l).symm)) (Im aw.asc (zq.1 aT)) U;subst ux;refine⟨Same.keys Ψ Ψ,?_⟩;rw[ec];simp[cc];(with_reducible repeat' first|refine ak ?_|simp);simp[bz,aY,a6,aX];simp[gd]
   ·obtain⟨b,ad,cK⟩:=en hi;by_cases mT:b.v=n
    ·have aT:jb l n=some b.k:=by rw[<-mT];exact zr aw.asc (ek ad)
     rw[aT]at ec;simp only at ec;by_cases pH:b.k=k
     ·rw[if_pos pH]at ec;rw[ec];have yW:(b.k !=k)=false:=by simp[pH]
      have sO:(b.v==n)=true:=by simp[mT]
      simp[hi,cK];(with_reducible repeat' first|refine ak ?_|simp[cK,hi,yW,sO,pH,mT]);simp[bz,aY,a6,aX];simp[gd]
     ·rw[if_neg pH]at ec;rw[ec];have yW:(b.k !=k)=true:=by simp[pH]
      have sO:(b.v==n)=true:=by simp[mT]
      simp[hi,cK];(with_reducible repeat' first|refine ak ?_|simp[cK,hi,yW,sO,pH,mT]);simp[bz,aY,a6,aX];simp[gd]
    ·have sO:(b.v==n)=false:=by simp[mT]
     simp[hi,cK];(with_reducible repeat' first|refine ak ?_|simp[cK,hi,sO,mT]);exact bS.rng () hi (fun j y j9 aB=>by
      rcases(by omega:j<i\/j=i)with h|rfl
      ·exact ag j y h aB
      ·rw[ad]at aB;cases aB;exact mT) b0
 |nil=>
  have ec:O=if T.nil.kind=k then some l else none:=by rw[<-di];rfl
  by_cases hZ:T.nil.kind=k
  ·rw[if_pos hZ]at ec;rw[ec];refine br kP Tryz.func98 tn fun aR=>?_;unfold rE;simp;simp at hZ;rcases vK with bs|⟨bs,lf⟩
   ·((with_reducible repeat' first|refine ak ?_|refine aF c5 ?_|refine aG c5 ?_|refine aF dz ?_|refine aG dz ?_|refine aF dg ?_|refine aG dg ?_|refine aF fM ?_|refine aG fM ?_|simp[bs,hZ]|((first|apply bN|apply bP|apply bO)<;>intro h<;>try simp at h))<;>(try exact cf));all_goals simp[bz,aY,a6,aX]
    all_goals simp[gd]
   ·((with_reducible repeat' first|refine ak ?_|refine aF c5 ?_|refine aG c5 ?_|refine aF dz ?_|refine aG dz ?_|refine aF dg ?_|refine aG dg ?_|refine aF fM ?_|refine aG fM ?_|simp[bs,lf,hZ]|((first|apply bN|apply bP|apply bO)<;>intro h<;>try simp at h))<;>(try exact cf));all_goals simp[bz,aY,a6,aX]
    all_goals simp[gd]
  ·rw[if_neg hZ]at ec;rw[ec];refine br kP Tryz.func98 tn fun aR=>?_;unfold rE;simp;simp at hZ;rcases vK with bs|⟨bs,lf⟩
   ·((with_reducible repeat' first|refine ak ?_|refine aF c5 ?_|refine aG c5 ?_|refine aF dz ?_|refine aG dz ?_|refine aF dg ?_|refine aG dg ?_|refine aF fM ?_|refine aG fM ?_|simp[bs,hZ]|((first|apply bN|apply bP|apply bO)<;>intro h<;>try simp at h))<;>(try exact cf));all_goals simp[bz,aY,a6,aX]
    all_goals simp[gd]
   ·((with_reducible repeat' first|refine ak ?_|refine aF c5 ?_|refine aG c5 ?_|refine aF dz ?_|refine aG dz ?_|refine aF dg ?_|refine aG dg ?_|refine aF fM ?_|refine aG fM ?_|simp[bs,lf,hZ]|((first|apply bN|apply bP|apply bO)<;>intro h<;>try simp at h))<;>(try exact cf));all_goals simp[bz,aY,a6,aX]
    all_goals simp[gd]
 |sym a=>
  have ec:O=if(T.sym a).kind=k then some l else none:=by rw[<-di];rfl
  by_cases hZ:(T.sym a).kind=k
  ·rw[if_pos hZ]at ec;rw[ec];refine br kP Tryz.func98 tn fun aR=>?_;unfold rE;simp;simp at hZ;rcases vK with bs|⟨bs,lf⟩
   ·((with_reducible repeat' first|refine ak ?_|refine aF c5 ?_|refine aG c5 ?_|refine aF dz ?_|refine aG dz ?_|refine aF dg ?_|refine aG dg ?_|refine aF fM ?_|refine aG fM ?_|simp[bs,hZ]|((first|apply bN|apply bP|apply bO)<;>intro h<;>try simp at h))<;>(try exact cf));all_goals simp[bz,aY,a6,aX]
    all_goals simp[gd]
   ·((with_reducible repeat' first|refine ak ?_|refine aF c5 ?_|refine aG c5 ?_|refine aF dz ?_|refine aG dz ?_|refine aF dg ?_|refine aG dg ?_|refine aF fM ?_|refine aG fM ?_|simp[bs,lf,hZ]|((first|apply bN|apply bP|apply bO)<;>intro h<;>try simp at h))<;>(try exact cf));all_goals simp[bz,aY,a6,aX]
    all_goals simp[gd]
  ·rw[if_neg hZ]at ec;rw[ec];refine br kP Tryz.func98 tn fun aR=>?_;unfold rE;simp;simp at hZ;rcases vK with bs|⟨bs,lf⟩
   ·((with_reducible repeat' first|refine ak ?_|refine aF c5 ?_|refine aG c5 ?_|refine aF dz ?_|refine aG dz ?_|refine aF dg ?_|refine aG dg ?_|refine aF fM ?_|refine aG fM ?_|simp[bs,hZ]|((first|apply bN|apply bP|apply bO)<;>intro h<;>try simp at h))<;>(try exact cf));all_goals simp[bz,aY,a6,aX]
    all_goals simp[gd]
   ·((with_reducible repeat' first|refine ak ?_|refine aF c5 ?_|refine aG c5 ?_|refine aF dz ?_|refine aG dz ?_|refine aF dg ?_|refine aG dg ?_|refine aF fM ?_|refine aG fM ?_|simp[bs,lf,hZ]|((first|apply bN|apply bP|apply bO)<;>intro h<;>try simp at h))<;>(try exact cf));all_goals simp[bz,aY,a6,aX]
    all_goals simp[gd]
 |num a=>
  have ec:O=if(T.num a).kind=k then some l else none:=by rw[<-di];rfl
  by_cases hZ:(T.num a).kind=k
  ·rw[if_pos hZ]at ec;rw[ec];refine br kP Tryz.func98 tn fun aR=>?_;unfold rE;simp;simp at hZ;rcases vK with bs|⟨bs,lf⟩
   ·((with_reducible repeat' first|refine ak ?_|refine aF c5 ?_|refine aG c5 ?_|refine aF dz ?_|refine aG dz ?_|refine aF dg ?_|refine aG dg ?_|refine aF fM ?_|refine aG fM ?_|simp[bs,hZ]|((first|apply bN|apply bP|apply bO)<;>intro h<;>try simp at h))<;>(try exact cf));all_goals simp[bz,aY,a6,aX]
    all_goals simp[gd]
   ·((with_reducible repeat' first|refine ak ?_|refine aF c5 ?_|refine aG c5 ?_|refine aF dz ?_|refine aG dz ?_|refine aF dg ?_|refine aG dg ?_|refine aF fM ?_|refine aG fM ?_|simp[bs,lf,hZ]|((first|apply bN|apply bP|apply bO)<;>intro h<;>try simp at h))<;>(try exact cf));all_goals simp[bz,aY,a6,aX]
    all_goals simp[gd]
  ·rw[if_neg hZ]at ec;rw[ec];refine br kP Tryz.func98 tn fun aR=>?_;unfold rE;simp;simp at hZ;rcases vK with bs|⟨bs,lf⟩
   ·((with_reducible repeat' first|refine ak ?_|refine aF c5 ?_|refine aG c5 ?_|refine aF dz ?_|refine aG dz ?_|refine aF dg ?_|refine aG dg ?_|refine aF fM ?_|refine aG fM ?_|simp[bs,hZ]|((first|apply bN|apply bP|apply bO)<;>intro h<;>try simp at h))<;>(try exact cf));all_goals simp[bz,aY,a6,aX]
    all_goals simp[gd]
   ·((with_reducible repeat' first|refine ak ?_|refine aF c5 ?_|refine aG c5 ?_|refine aF dz ?_|refine aG dz ?_|refine aF dg ?_|refine aG dg ?_|refine aF fM ?_|refine aG fM ?_|simp[bs,lf,hZ]|((first|apply bN|apply bP|apply bO)<;>intro h<;>try simp at h))<;>(try exact cf));all_goals simp[bz,aY,a6,aX]
    all_goals simp[gd]
 |pair a b=>
  have ec:O=if(T.pair a b).kind=k then some l else none:=by rw[<-di];rfl
  by_cases hZ:(T.pair a b).kind=k
  ·rw[if_pos hZ]at ec;rw[ec];refine br kP Tryz.func98 tn fun aR=>?_;unfold rE;simp;simp at hZ;rcases vK with bs|⟨bs,lf⟩
   ·((with_reducible repeat' first|refine ak ?_|refine aF c5 ?_|refine aG c5 ?_|refine aF dz ?_|refine aG dz ?_|refine aF dg ?_|refine aG dg ?_|refine aF fM ?_|refine aG fM ?_|simp[bs,hZ]|((first|apply bN|apply bP|apply bO)<;>intro h<;>try simp at h))<;>(try exact cf));all_goals simp[bz,aY,a6,aX]
    all_goals simp[gd]
   ·((with_reducible repeat' first|refine ak ?_|refine aF c5 ?_|refine aG c5 ?_|refine aF dz ?_|refine aG dz ?_|refine aF dg ?_|refine aG dg ?_|refine aF fM ?_|refine aG fM ?_|simp[bs,lf,hZ]|((first|apply bN|apply bP|apply bO)<;>intro h<;>try simp at h))<;>(try exact cf));all_goals simp[bz,aY,a6,aX]
    all_goals simp[gd]
  ·rw[if_neg hZ]at ec;rw[ec];refine br kP Tryz.func98 tn fun aR=>?_;unfold rE;simp;simp at hZ;rcases vK with bs|⟨bs,lf⟩
   ·((with_reducible repeat' first|refine ak ?_|refine aF c5 ?_|refine aG c5 ?_|refine aF dz ?_|refine aG dz ?_|refine aF dg ?_|refine aG dg ?_|refine aF fM ?_|refine aG fM ?_|simp[bs,hZ]|((first|apply bN|apply bP|apply bO)<;>intro h<;>try simp at h))<;>(try exact cf));all_goals simp[bz,aY,a6,aX]
    all_goals simp[gd]
   ·((with_reducible repeat' first|refine ak ?_|refine aF c5 ?_|refine aG c5 ?_|refine aF dz ?_|refine aG dz ?_|refine aF dg ?_|refine aG dg ?_|refine aF fM ?_|refine aG fM ?_|simp[bs,lf,hZ]|((first|apply bN|apply bP|apply bO)<;>intro h<;>try simp at h))<;>(try exact cf));all_goals simp[bz,aY,a6,aX]
    all_goals simp[gd]
def iE(o:Option (List bn)):aj:= .tuple [.slice 2 .no ((o.getD []).map bn.e),.bool o.isSome]
@[simp]theorem aul(S:aM->Prop)(o:Option (List bn)):aK S (iE o)=True:=by simp[iE]
theorem abr{l:List bn}(h:ju l):bR aA 55 [.slice 2 .no (l.map bn.e)] (.bool true):=by have:=abq l;simpa only[h,decide_true]using this
theorem aqq{s:List UInt8}(h:iB s=true):bR aA 109 [.str s] (.bool true):=by have:=u7 s;rwa[h]at this
def EM(l:List bn):List aj:=l.flatMap fun m=>[m.e,.bool true]
theorem XV(l:List bn):o7 l= .hdm l.length (List.range l.length)::EM l:=rfl
theorem Oh(b:Nat):∀(n:Nat) (l:List bn),nM b (List.range' n l.length) (EM l)=(if n<=b then(l[b-n]?).map fun x=>.tuple [x.e,.bool true]else none)
 |n,[]=>by simp[nM,EM]
 |n,x::r=>by
  have e:EM (x::r)=x.e:: .bool true::EM r:=rfl;simp only[mM,List.range'_succ,e,nM];by_cases h:n=b
  ·subst h;simp
  ·rw[if_neg h,Oh b (n+1) r];by_cases U:n<=b
   ·rw[if_pos U,if_pos Ω];have:b-n=(b-(n+1))+1:=Ω
    rw[this];simp
   ·rw[if_neg U,if_neg Ω]
@[simp]theorem au6(l:List bn):iq (o7 l)=false:=rfl
@[simp]theorem ave(m:aM)(l:List bn):zP m (o7 l)=some (cq l.length [] m):=rfl
theorem ale(f:aM->Option (List aj))(fL mk:aM)(n:Nat)(seen:List Nat)(b:Nat)(l:List bn)(x:bn)(hi:f fL=some (cq n (seen++[b]) mk))(hm:f mk=some (o7 l))(au:n=l.length)(ab:l[b]? =some x):qy f (.ptr fL 0)=some (True,.tuple [x.e,.bool true]):=by subst au;simp only[X5,hi,hm,cq,XV,List.getLast?_append,List.getLast?_singleton,Option.some_or,List.range_eq_range',Oh,Nat.zero_le,if_true,Nat.sub_zero,Option.map_map];simp[ab]
theorem adW{st:bt}{d:Nat}{K:bt->Prop}{fL mk:aM}{n:Nat}{seen:List Nat}{l:List bn}(hi:Pv.look fL st.b=some (cq n seen mk))(hm:Pv.look mk st.b=some (o7 l))(au:n=l.length)
  (I:(∀b,b<l.length->b∈seen)->K {st with t:=Pv.put d (.tuple [.bool false]) st.t}) (U:∀b x,l[b]? =some x->b∉seen->K {st with t:=Pv.put d (.tuple [.bool true,x.e,.bool true]) st.t,b:=cI fL (cq n (seen++[b]) mk) st.b}):
  uf st d (.ptr fL 0) K:=by
 subst au;simp only[uf,hi,cq,hm,XV,OA,and_self,true_and];refine⟨fun h=>I fun b ad=>h b (by simpa using ad),fun b k v za ad=>?_⟩;rw[List.range_eq_range',Oh]at za;simp only[Nat.zero_le,if_true,Nat.sub_zero,gB,aj.tuple.injEq,yn,and_true]at za;obtain⟨x,ar,aE,bA⟩:=za;subst aE bA;exact U b x ar ad
theorem ak9{m x:bn}{l:List bn}:x∈l0 m l↔x=m\/x∈l:=by
 unfold l0;split
 ·constructor
  ·exact .inr
  ·rintro(rfl|h)<;>assumption
 ·simp[or_comm]
theorem acN{m:bn}{l:List bn}(h:l.Nodup):(l0 m l).Nodup:=by
 unfold l0;split
 ·exact h
 ·rw[List.nodup_append];exact⟨h,Ψ,fun a bk b ad=>by simp at ad;subst ad;intro e;subst e;contradiction⟩
theorem acM(m:bn)(l:List bn):(l0 m l).length<=l.length+1:=by unfold l0;split<;>simp
theorem agU(s:List UInt8)(t:T):∀l:List bn,(t.fold (fun v l=>l0 ⟨v,s⟩ l) l).length<=l.length+t.size:=by
 induction t with
 |var n=>intro l;simp only[T.fold,T.size];exact acM _ _
 |pair a b dQ dR=>intro l;simp only[T.fold,T.size];have:=dQ l;have:=dR (a.fold (fun v l=>l0 ⟨v,s⟩ l) l);omega
 |_=>intro l;simp[T.fold,T.size]
theorem agV(s:List UInt8)(t:T):∀{l:List bn},l.Nodup->(t.fold (fun v l=>l0 ⟨v,s⟩ l) l).Nodup:=by
 induction t with
 |var n=>intro l h;exact acN h
 |pair a b dQ dR=>intro l h;exact dR (dQ h)
 |_=>intro l h;exact h
theorem ala(s:List UInt8)(t:T)(x:bn):∀{l:List bn},x∈t.fold (fun v l=>l0 ⟨v,s⟩ l) l↔x∈l\/(x.s=s/\t.occ x.v=true):=by
 induction t with
 |var n=>
  intro l;simp only[T.fold,ak9,T.occ,dO];constructor
  ·rintro(rfl|h)
   ·exact .inr ⟨rfl,rfl⟩
   ·exact .inl h
  ·rintro(h|⟨I,U⟩)
   ·exact .inr h
   ·left;cases x;simp at I U;subst I U;rfl
 |pair a b dQ dR=>
  intro l;simp only[T.fold,dR,dQ,T.occ,mg];constructor
  ·rintro((h|h)|h)
   ·exact .inl h
   ·exact .inr ⟨h.1,.inl h.2⟩
   ·exact .inr ⟨h.1,.inr h.2⟩
  ·rintro(h|⟨I,U|U⟩)
   ·exact .inl (.inl h)
   ·exact .inl (.inr ⟨I,U⟩)
   ·exact .inr ⟨I,U⟩
 |_=>intro l;simp[T.fold,T.occ]
def akl(M:List bn)(k:Nat)(st:bt):Prop:=∃(seen:List Nat) (xs:List bn),seen.Nodup/\(∀b∈seen,b<M.length)/\k=M.length-seen.length/\xs=seen.filterMap (fun b=>M[b]?)/\xs.length=seen.length/\st=⟨[(15,.ptr (.obj 815) 0),(63,.ptr (.loc 2) 0)],[(.obj 812,o7 M),(.loc 2,cq M.length seen (.obj 812)),(.obj 815,[.row 2 (.obj 814) xs.length])],[(.obj 814,⟨xs.length,56,2,some (xs.map bn.e)⟩)],3,[.obj 815,.obj 814,.obj 813,.obj 812,.obj 811]⟩
theorem abh{s:List ah}(af:ei s){l:List bn}(aw:ju l)(y7:l.length<=68719470000)(t:T)(aC:t.fit=true){g:List UInt8}(aT:iB g=true):
  bR aA 100 [.slice 5 .no (s.map ah.e),.slice 2 .no (l.map bn.e),t.e,.str g] (iE (if(t.ap (aV s)).size<=5000 then hv l (t.ap (aV s)) g else none)):=by
 have c5:=p1 af;have dz:=Ag aC;have dZ:=abr aw;have gx:=aqq aT;have fM:=FX s t af.len af.sol.asc af.fit;generalize ab:t.ap (aV s)=x at fM⊢;generalize di:(if x.size<=5000 then hv l x g else none)=O;by_cases a8:x.size<=5000;rotate_left
 ·rw[if_neg a8]at di;rw[<-di];rw[if_neg a8,jf a8]at fM;refine br kP Tryz.func100 OG fun aR=>?_;unfold GF;simp;(with_reducible repeat' first|refine ak ?_|refine aF c5 ?_|refine aG c5 ?_|refine aF dz ?_|refine aG dz ?_|refine aF dZ ?_|refine aG dZ ?_|refine aF gx ?_|refine aG gx ?_|refine aF fM ?_|refine aG fM ?_|simp);simp[bz,aY,a6,aX];simp[iE]
 rw[if_pos a8]at di;rw[if_pos a8,hd a8]at fM;have BK:=aqG g x;cases cA:x.has g;rotate_left
 ·rw[cA]at BK;have ec:O=none:=by rw[<-di];unfold hv;rw[cA];rfl
  rw[ec];refine br kP Tryz.func100 OG fun aR=>?_;unfold GF;simp;(with_reducible repeat' first|refine ak ?_|refine aF c5 ?_|refine aG c5 ?_|refine aF dz ?_|refine aG dz ?_|refine aF dZ ?_|refine aG dZ ?_|refine aF gx ?_|refine aG gx ?_|refine aF fM ?_|refine aG fM ?_|refine aF BK ?_|refine aG BK ?_|simp);simp[bz,aY,a6,aX];simp[iE]
 rw[cA]at BK;refine br kP Tryz.func100 OG fun aR=>?_;unfold GF;simp;(with_reducible repeat' first|refine ak ?_|refine aF c5 ?_|refine aG c5 ?_|refine aF dz ?_|refine aG dz ?_|refine aF dZ ?_|refine aG dZ ?_|refine aF gx ?_|refine aG gx ?_|refine aF fM ?_|refine aG fM ?_|refine aF BK ?_|refine aG BK ?_|simp);have D8:l.Nodup:=hG.nodup lQ aw.asc;have gp:∀xs:List bn,xs.Perm (x.fold (fun v l=>l0 ⟨v,g⟩ l) l)->O=some (pb fs xs):=fun xs bG=>by
  rw[<-di];refine KK cA ?_ fun y=>?_
  ·have I:=Qd lQ xs;have U:(pb fs xs).Nodup:=(((x5 fs xs).trans bG).nodup_iff).2 (agV g x D8);exact(I.and U).imp fun{a b} h=>by have:=mt (lQ.zero a b).1 h.2;omega
  ·rw[((x5 fs xs).trans bG).mem_iff,ala]
 have hlen:(x.fold (fun v l=>l0 ⟨v,g⟩ l) l).length<=68719475000:=by have:=agU g x l;omega
 rw[show kv []=o7 []from rfl];refine hH (fun i (_:Unit)=>⟨[(7,.ptr (.obj 811) 0),(10,.ptr (.loc 1) 0),(12,.ptr (.obj 813) 0),(49,.slice 2 .no (l.map bn.e)),(50,.int .i64 l.length),(51,.int .i64 i)],[(.obj 811,[.str g]),(.loc 1,[.int .i64 x.kind,.int .i64 x.int,.str x.name,.slice 4 .no (x.args.map T.e)]),(.obj 812,o7 (l.take i)),(.obj 813,[.gmap (.obj 812)])],[],2,[.obj 813,.obj 812,.obj 811]⟩) l.length (fun _ _=>True) () b0 trivial (fun _ _ _=>?_) (fun i _ hi _ _=>?_)
 ·rw[lB];simp;(with_reducible repeat' first|refine ak ?_|simp);have key:=Vl (pt g) (Gj g) (KD g) 149 [.ptr (.obj 813) 0,.ptr (.obj 811) 0] (by intro a;simp[inObs,pt,Pv.look,aP,aK]) Ψ (fun v l=>l0 ⟨v,g⟩ l) (fun v a=>ag3 g v a) x l;refine cY.ob key (Gj g l) (by unfold pt;exact aL) (by unfold pt;exact aL) (by simp[inObs,pt,Pv.look]) ?_;rintro r ai ⟨rfl,rfl⟩;refine⟨KD g _ _,?_⟩;unfold pt;generalize ga:x.fold (fun v l=>l0 ⟨v,g⟩ l) l=M at gp hlen⊢;simp[cc];(with_reducible repeat' first|refine ak ?_|simp);refine oT (akl M) M.length _ ⟨by simp[fresh,aP,aK,cq,inObs,Pv.look,BM],et (by simp[fresh,aP,aK,cq,inObs,Pv.look,BM]),eu (by simp[fresh,aP,aK,ee,inObs,Pv.look,BM]),Ψ⟩ ⟨[],[],Ψ,Ψ,Ψ,Ψ,Ψ,rfl⟩ ?_;rintro k st ⟨seen,xs,aD,bD,ae,WO,pP,rfl⟩ kr cN;clear kr cN;have hle:=JW aD bD;simp;refine adW (mk:= .obj 812) (seen:=seen) (l:=M) Ψ Ψ rfl (fun lI=>?_) (fun b y aB ad=>?_)
  ·have xv:=P1 aD bD lI;rw[<-WO]at xv;have ds:=gp xs xv;simp;(with_reducible repeat' first|refine ak ?_|simp);have key:=ahF xs Ω;have eh:=KC xs;unfold yu eb at key eh;refine cY.ob key eh aL aL (by simp[inObs,Pv.look]) ?_;rintro r ai ⟨rfl,rfl⟩;refine⟨Same.keys Ψ Ψ,?_⟩;rw[ds];simp[cc];(with_reducible repeat' first|refine ak ?_|simp);simp[bz,aY,a6,aX];simp[iE]
  ·have Bl:∀f:aM->Option (List aj),f (.loc 2)=some (cq M.length (seen++[b]) (.obj 812))->f (.obj 812)=some (o7 M)->qy f (.ptr (.loc 2) 0)=some (True,.tuple [y.e,.bool true]):=fun f I U=>ale f (.loc 2) (.obj 812) M.length seen b M y I U rfl aB;have fA:b<M.length:=(fG.1 aB).1;have q4:=P2 aD bD fA ad;simp[Bl];(with_reducible repeat' first|refine ak ?_|simp[Bl]);all_goals first|(refine⟨by unfold lim;omega,?_⟩)|skip
   have y4:∀S:aM->Prop,aP S (xs.map bn.e++[y.e])=True:=fun S=>by
    have e:xs.map bn.e++[y.e]=(xs++[y]).map bn.e:=by simp
    rw[e];simp[-List.map_append]
   refine bS.next (M.length-(seen.length+1)) Ω ⟨seen++[b],xs++[y],OE aD ad,(by simp;intro c aq;rcases aq with aq|rfl;exact bD c aq;exact fA),Ψ,by rw[List.filterMap_append,<-WO];simp[aB],by simp[pP],rfl⟩ ⟨by simp[fresh,aP,aK,cq,inObs,Pv.look,BM,y4],et (by simp[fresh,aP,aK,cq,inObs,Pv.look,BM,y4]),eu (by simp[fresh,aP,aK,ee,inObs,Pv.look,BM,y4]),Ψ⟩
 ·obtain⟨b,ad,cK⟩:=en hi;have kG:l0 b (l.take i)=l.take (i+1):=by
   have I:b∉l.take i:=fun h=>by
    obtain⟨j,ag,e⟩:=oL h;have j9:j<i:=by simp at ag;omega
    rw[List.getElem_take]at e;have:=(List.nodup_iff_pairwise_ne.1 D8);exact(p6.1 this j i Ω hi j9) (by rw[e,cK])
   rw[List.take_succ,ad];simp[l0,I]
  exact hj
def Sh:C:=(aa [bp 4 false] (.seq (aa [J 7 0,cH 8 7,cb 9 0] (fm 10 9 8 (.seq (.block 1 (aa [cE 11 5 7 9,aZ 12 5 11,cP 6 iC,bu 5 6 12] (aa [aJ 13 0 1 6,ay 14 1 13,J 15 1,bC 16 .geq 14 15,J 17 16,av 17 false (hN 18 1 4 6),av 17 false (aZ 19 4 18),ys 17 false (.bsl 20 4 36 [.t 19]),av 17 false (cD 21 88 20),b6 17 false 22 1,av 17 false (bC 23 .gtr 21 22),c8 24 17 23] (a1 24 (aa [bp 4 false] .ret) .skip)))) (.region [aU 25 .add 9 1,J 9 25])))) (aa [bp 4 true] .ret)))
def Sf:C:=(aa [cb 2 0] (.seq (aa [J 6 0,cD 7 87 6,ct 8 7] (a1 8 (aa [cb 2 (-1)] .ret) .skip)) (aa [cS (.alloc 3 (some 831) (.int .i64 0)),cS (.store 1 (.t 3) (ef 0))] (.seq (aa [J 9 0,cH 10 9,cb 11 0] (fm 12 11 10 (.seq (.block 1 (aa [cE 13 4 9 11,aZ 14 4 13,cP 5 dk,bu 4 5 14] (.region [aZ 15 4 5,bT 16 (.mkf 135 [.t 3]),ch 17 107 15 16]))) (.region [aU 18 .add 11 1,J 11 18])))) (aa [ay 19 1 3,J 2 19] .ret)))))
def R9:C:=(aa [eO 4 2,bp 5 false] (.seq (aa [J 11 0,cD 12 53 11,ct 13 12,J 14 13,b6 14 false 15 1,av 14 false (cD 16 54 15),av 14 false (ct 17 16),c8 18 14 17] (a1 18 (aa [eO 4 2,bp 5 false] .ret) .skip)) (aa [ea 19 2 59 [],J 6 19] (.seq (.seq (.fg false 6 (.region [J 20 1,cH 21 20,cb 22 0])) (fm 23 22 21 (.seq (.block 1 (aa [cE 24 2 20 22,aZ 25 2 24,cS (.alloc 8 none (.agg [.int .i64 0,.int .i64 0])),bu 2 8 25] (.seq (.drawn true 42 [J 27 0,J 28 6,aJ 29 0 1 8,ay 30 1 29,cD 31 28 30,aJ 32 1 1 8,ay 33 1 32,c4 34 98 [.t 27,.t 28,.t 31,.t 33],J 26 34,cg 35 0 26,cg 36 1 26,J 9 35,J 10 36]) (.seq (aa [J 37 10,ct 38 37] (a1 38 (aa [eO 4 2,bp 5 false] .ret) .skip)) (.region [J 39 9,J 6 39]))))) (.region [aU 40 .add 22 1,J 22 40])))) (aa [J 41 6,J 4 41,bp 5 true] .ret)))))
def Sa:C:=(aa [eO 4 2,bp 5 false] (.seq (aa [J 11 0,cD 12 53 11,ct 13 12,J 14 13,b6 14 false 15 1,av 14 false (cD 16 55 15),av 14 false (ct 17 16),c8 18 14 17] (a1 18 (aa [eO 4 2,bp 5 false] .ret) .skip)) (aa [ea 19 2 56 [],J 6 19] (.seq (.seq (.fg false 6 (.region [J 20 1,cH 21 20,cb 22 0])) (fm 23 22 21 (.seq (.block 1 (aa [cE 24 2 20 22,aZ 25 2 24,cS (.alloc 8 none (.agg [.int .i64 0,.str []])),bu 2 8 25] (.seq (.drawn true 42 [J 27 0,J 28 6,aJ 29 0 1 8,ay 30 1 29,cD 31 28 30,aJ 32 1 1 8,ay 33 1 32,c4 34 100 [.t 27,.t 28,.t 31,.t 33],J 26 34,cg 35 0 26,cg 36 1 26,J 9 35,J 10 36]) (.seq (aa [J 37 10,ct 38 37] (a1 38 (aa [eO 4 2,bp 5 false] .ret) .skip)) (.region [J 39 9,J 6 39]))))) (.region [aU 40 .add 22 1,J 22 40])))) (aa [J 41 6,J 4 41,bp 5 true] .ret)))))
def R6:C:=(aa [eO 2 1] (.seq (aa [J 12 0,cH 13 12,cb 14 0] (fm 15 14 13 (.seq (.block 1 (aa [cE 16 1 12 14,ay 17 1 16,J 4 17] (aa [J 18 4,cD 19 53 18,ct 20 19] (a1 20 (aa [eO 2 1] .ret) .skip)))) (.region [aU 21 .add 14 1,J 14 21])))) (aa [cS (.bslm 22 (some 821) 1 23 []),J 23 0,cS (.appm 24 none 1 23 (.t 22) (.t 23)),cS (.alloc 5 (some 822) (.slice 1 .nil [])),bu 1 5 24] (aa [ay 25 1 5,bT 26 (.mkif 24 (.t 25)),bT 27 (.mkf 139 [.t 5]),ch 28 138 26 27] (aa [ea 29 1 23 [],J 6 29] (.seq (aa [ay 30 1 5,cH 31 30,cb 32 0] (.block 2 (.loop (aa [bC 33 .lss 32 31] (.seq (a1 33 .skip (.exit 2)) (.seq (.block 3 (aa [J 34 32,cE 35 1 30 32,ay 36 1 35,J 7 34,J 8 36] (.seq (aa [J 37 7,aU 38 .gtr 37 0,J 39 38,av 39 true (ay 40 1 5),b6 39 true 41 7,av 39 true (aU 42 .sub 41 1),av 39 true (cE 43 1 40 42),av 39 true (ay 44 1 43),b6 39 true 45 8,av 39 true (ch 46 140 44 45),av 39 true (aU 47 .eql 46 0),dB 48 39 47] (a1 48 (.exit 3) .skip)) (aa [bp 9 true] (.seq (aa [ay 49 1 5,cH 50 49,cb 51 0] (.block 4 (.loop (aa [bC 52 .lss 51 50] (.seq (a1 52 .skip (.exit 4)) (.seq (.block 5 (aa [cE 53 1 49 51,ay 54 1 53,J 11 54] (aa [J 55 11,J 56 8,ch 57 140 55 56,aU 58 .neq 57 0,J 59 58,b6 59 true 60 11,b6 59 true 61 8,av 59 true (ch 62 141 60 61),dB 63 59 62] (a1 63 (.region [bp 9 false]) .skip)))) (.region [aU 64 .add 51 1,J 51 64]))))))) (aa [J 65 9] (a1 65 (.region [J 66 6,J 67 8,cD 68 91 67,ea 69 1 23 [.t 68],gT 70 1 23 66 69,J 6 70]) .skip))))))) (.region [aU 71 .add 32 1,J 32 71]))))))) (aa [J 72 6,J 2 72] .ret)))))))
def K8:C:=(.region [ay 3 1 1,J 4 0,aU 5 .add 4 1,bT 6 (.max2 (.t 3) (.t 5)),bu 1 1 6])
def R7:C:=(aa [bp 5 false] (.seq (.drawn true 16 [ay 6 1 2,J 7 0,cE 8 1 6 7,ay 9 1 8,ay 10 1 2,J 11 1,cE 12 1 10 11,ay 13 1 12,ch 14 140 9 13,aU 15 .lss 14 0,J 5 15]) .ret))
def yc:List (Nat×dG):=[
 (3,⟨1,8,.int .i64,.int .i64 0⟩),
 (9,⟨1,16,.str,.str []⟩),
 (23,⟨1,24,.slice 54,.slice 5 .nil []⟩),
 (24,⟨1,24,.slice 23,.slice 1 .nil []⟩),
 (25,⟨1,24,.slice 59,.slice 2 .nil []⟩),
 (26,⟨1,24,.slice 56,.slice 2 .nil []⟩),
 (34,⟨1,24,.slice 36,.slice 4 .nil []⟩),
 (36,⟨4,56,.struct [(0,3),(1,3),(2,9),(3,34)],.agg [.int .i64 0,.int .i64 0,.str [],.slice 4 .nil []]⟩),
 (54,⟨5,64,.struct [(0,3),(1,36)],.agg [.int .i64 0,.int .i64 0,.int .i64 0,.str [],.slice 4 .nil []]⟩),
 (56,⟨2,24,.struct [(0,3),(1,9)],.agg [.int .i64 0,.str []]⟩),
 (59,⟨2,16,.struct [(0,3),(1,3)],.agg [.int .i64 0,.int .i64 0]⟩)]
theorem ye:fX aA yc=true:=by kernel_rfl
theorem al6:b7 yc Sh [.tmp 4] 2 Tryz.f56=true:=by kernel_rfl
theorem al4:b7 yc Sf [.tmp 2] 1 Tryz.f88=true:=by kernel_rfl
theorem alY:b7 yc R9 [.tmp 4,.tmp 5] 2 Tryz.f92=true:=by kernel_rfl
theorem alZ:b7 yc Sa [.tmp 4,.tmp 5] 2 Tryz.f93=true:=by kernel_rfl
theorem alV:b7 yc R6 [.tmp 2] 1 Tryz.f96=true:=by kernel_rfl
theorem YM:b7 yc K8 [] 2 Tryz.f135=true:=by kernel_rfl
theorem alW:b7 yc R7 [.tmp 5] 3 Tryz.f139=true:=by kernel_rfl
def W9(s:List ah)(l:List bV)(i:Nat)(a:List bV):Prop:=ho a/\e3 s (l.drop i) a=e3 s l []
theorem abu{s:List ah}(af:ei s){l:List bV}(aw:ho l):bR aA 92 [.slice 5 .no (s.map ah.e),.slice 2 .no (l.map bV.e)] (gd (e3 s l [])):=by
 have y7:=o5 aw;have c5:=p1 af;have dg:=abn aw;refine br ye Tryz.func92 alY fun aR=>?_;unfold R9;simp;(with_reducible repeat' first|refine ak ?_|refine aF c5 ?_|refine aG c5 ?_|refine aF dg ?_|refine aG dg ?_|simp);refine ep [0,20,21] (fun i (a:List bV)=>[(6,.slice 2 .no (a.map bV.e)),(22,.int .i64 i)]) l.length (W9 s l) [] b0 ⟨⟨Ψ,Ψ⟩,rfl⟩ (fun a ag _=>?_) (fun i a hi ag _=>?_)
 ·obtain⟨_,ag⟩:=ag;rw[List.drop_length]at ag;simp only[e3]at ag;rw[<-ag];simp;(with_reducible repeat' first|refine ak ?_|simp);simp[bz,aY,a6,aX];simp[gd]
 ·obtain⟨bk,ag⟩:=ag;obtain⟨b,ad,cK⟩:=en hi;have pG:=aw.at' b (ek ad);rw[lA hi,cK]at ag;simp only[e3]at ag;have fC:=abi af bk (.var b.v) (by simp[T.fit,T.ok,T.size,pG.1]) b.k;have a8:((T.var b.v).ap (aV s)).size<=5000:=FH af b.v;rw[if_pos ⟨pG.2,a8⟩,show(T.var b.v).ap (aV s)=aV s b.v from rfl]at fC;simp[hi,cK];cases ec:gU a (aV s b.v) b.k with
  |none=>rw[ec]at ag fC;simp only at ag;rw[<-ag];simp only[gd]at fC;(with_reducible repeat' first|refine ak ?_|refine aF (kj _) ?_|refine aG (kj _) ?_|refine aF fC ?_|refine aG fC ?_|simp[cK,hi]);simp[bz,aY,a6,aX];simp[gd]
  |some bq=>rw[ec]at ag fC;simp only[gd]at fC;(with_reducible repeat' first|refine ak ?_|refine aF (kj _) ?_|refine aG (kj _) ?_|refine aF fC ?_|refine aG fC ?_|simp[cK,hi]);exact bS.rng bq hi ⟨Gq bk (z1 af pG.1) pG.2 ec,ag⟩ b0
def Xa(s:List ah)(G:List (List UInt8))(l:List bn)(i:Nat)(a:List bn):Prop:=ju a/\lv G a/\eS s (l.drop i) a=eS s l []
theorem abv{s:List ah}(af:ei s){l:List bn}(aw:ju l){G:List (List UInt8)}(hI:G.length<=687000)(aT:lv G l):bR aA 93 [.slice 5 .no (s.map ah.e),.slice 2 .no (l.map bn.e)] (iE (eS s l [])):=by
 have hlen:∀{a:List bn},ju a->lv G a->a.length<=68719470000:=fun I U=>by have:=EN I U;omega
 have y7:=hlen aw aT;have c5:=p1 af;have dg:=abr aw;refine br ye Tryz.func93 alZ fun aR=>?_;unfold Sa;simp;(with_reducible repeat' first|refine ak ?_|refine aF c5 ?_|refine aG c5 ?_|refine aF dg ?_|refine aG dg ?_|simp);refine ep [0,20,21] (fun i (a:List bn)=>[(6,.slice 2 .no (a.map bn.e)),(22,.int .i64 i)]) l.length (Xa s G l) [] b0 ⟨⟨Ψ,by simp[hG]⟩,fun x ab=>by simp at ab,rfl⟩ (fun a ag _=>?_) (fun i a hi ag _=>?_)
 ·obtain⟨_,_,ag⟩:=ag;rw[List.drop_length]at ag;simp only[eS]at ag;rw[<-ag];simp;(with_reducible repeat' first|refine ak ?_|simp);simp[bz,aY,a6,aX];simp[iE]
 ·obtain⟨bk,Ej,ag⟩:=ag;obtain⟨b,ad,cK⟩:=en hi;have pG:=aw.at' b (ek ad);have MD:=aT b (ek ad);rw[lA hi,cK]at ag;simp only[eS]at ag;have fC:=abh af bk (hlen bk Ej) (.var b.v) (by simp[T.fit,T.ok,T.size,pG.1]) pG.2;have a8:((T.var b.v).ap (aV s)).size<=5000:=FH af b.v;rw[if_pos a8,show(T.var b.v).ap (aV s)=aV s b.v from rfl]at fC;simp[hi,cK];cases ec:hv a (aV s b.v) b.s with
  |none=>rw[ec]at ag fC;simp only at ag;rw[<-ag];simp only[iE]at fC;(with_reducible repeat' first|refine ak ?_|refine aF (kj _) ?_|refine aG (kj _) ?_|refine aF fC ?_|refine aG fC ?_|simp[cK,hi]);simp[bz,aY,a6,aX];simp[iE]
  |some bq=>rw[ec]at ag fC;simp only[iE]at fC;(with_reducible repeat' first|refine ak ?_|refine aF (kj _) ?_|refine aG (kj _) ?_|refine aF fC ?_|refine aG fC ?_|simp[cK,hi]);exact bS.rng bq hi ⟨Gr bk (z1 af pG.1) pG.2 ec,C5 Ej MD ec,ag⟩ b0
end
section
open Go Go.Pv Go.Lib
def cF(d:List ah):aj:= .slice 5 .no (d.map ah.e)
@[simp]theorem aud(S:aM->Prop)(d:List ah):aK S (cF d)=True:=by simp[cF]
@[simp]theorem asq(d:List ah):cells (cF d)=[cF d]:=rfl
@[simp]theorem avu(d:List ah):e7 (cF d)=true:=rfl
@[simp]theorem avP(d:List ah):ej (cF d)=cF d:=by simp[cF]
theorem Ug:∀(S:aM->Prop) (x:List ah),aK S (cF x):=fun S x=>by simp
theorem NU(S:aM->Prop):∀l:List (List ah),aP S (l.map cF)
 |[]=>by simp[aP]
 |x::xs=>by simp[aP,NU S xs]
@[simp]theorem XB(S:aM->Prop)(l:List (List ah)):aP S (l.map cF)=True:=eq_true (NU S l)
@[simp]theorem Qi:∀l:List (List ah),du (l.map cF)=l.map cF
 |[]=>rfl
 |x::xs=>by simp[du,Qi xs]
def mo(d:List dS):aj:= .slice 5 .no (d.map dS.e)
@[simp]theorem asr(d:List dS):cells (mo d)=[mo d]:=rfl
@[simp]theorem avv(d:List dS):e7 (mo d)=true:=rfl
theorem LD(d:List ah):mo (d.map ah.b)=cF d:=by simp only[mo,cF,uQ]
theorem LF(l:List (List ah)):(l.map fun d=>d.map ah.b).map mo=l.map cF:=by rw[List.map_map];exact List.map_congr_left fun d _=>LD d
@[simp]theorem aue(S:aM->Prop)(d:List dS):aK S (mo d)=True:=by simp[mo]
@[simp]theorem avQ(d:List dS):ej (mo d)=mo d:=by simp[mo]
theorem XC(S:aM->Prop):∀l:List (List dS),aP S (l.map mo)
 |[]=>by simp[aP]
 |x::xs=>by simp[aP,XC S xs]
@[simp]theorem at6(S:aM->Prop)(l:List (List dS)):aP S (l.map mo)=True:=eq_true (XC S l)
abbrev vi(l:List (List ah)):cU:=eb cF 821 822 23 1 l
theorem Kz(l:List (List ah)):dP (vi l):=yv Ug l
theorem ag6(l:List (List ah))(aw:l.length<=68719476736)(i j:Nat)(x y:List ah)(hi:l[i]? =some x)(ag:l[j]? =some y):bL aA 139 [.int .i64 i,.int .i64 j,.ptr (.obj 822) 0] (vi l) fun r ai=>r= .bool (im eG x y)/\ai=vi l:=by have af:=Kz l;obtain⟨mW,h9⟩:=fG.1 hi;obtain⟨dX,oX⟩:=fG.1 ag;have aS:bR aA 140 [cF x,cF y] (.int .i64 (eG x y)):=Km x y;unfold vi eb at af⊢;refine bL.mk mixed ye Tryz.func139 alW Ψ af.obj fun aR cN=>?_;unfold R7;simp[mW,dX,h9,oX];(with_reducible repeat' first|refine ak ?_|refine aF aS ?_|refine aG aS ?_|simp[mW,dX,h9,oX]);refine cR.at _ (.inl rfl) af (Same.refl _) aL aL ?_;simp[cV,aY,a6,aX,im]
noncomputable def Tryz.dsT:TypeInfo:=(aA.info? 24).get ci
noncomputable def Tryz.dsE:TypeInfo:=(aA.info? 23).get ci
theorem Tryz.dsK(n:Nat)(U:2<=n):Lib.swapperK n Tryz.dsE 23=9:=by
 have a:Tryz.dsE.hasPointers=true:=by kernel_rfl
 have b:Tryz.dsE.bytes=24:=by kernel_rfl
 have c:(n==0)=false:=by simp;omega
 have d:(n==1)=false:=by simp;omega
 simp[Lib.swapperK,a,b,c,d]
theorem ahD(l:List (List ah))(aw:l.length<=68719476736):bL aA 138 [.iface 24 (.row 1 (.obj 821) l.length),.func 139 [.ptr (.obj 822) 0]] (vi l) fun r ai=>r= .tuple []/\ai=vi (pb eG l):=by
 refine(ag9 Ug (K:=821) (B:=822) (sz:=1) 24 Tryz.dsT Tryz.dsE ci ci ci ci 23 (fun _=>by kernel_rfl) Tryz.dsK 139 (im eG) lP.ltOk l aw (fun ba h i j x y hi ag=>ag6 ba Ω i j x y hi ag) (fun ba h i j hi ag=>?_)).mono ?_
 ·have:=Vu (P:=aA) false 186 (fun args W=>run_callFunc_extern Tryz.func186 ci ci ci (e:=Ga false) ci args W)
   23 Tryz.dsE ci (.inr ⟨by kernel_rfl,fun _=>by kernel_rfl⟩) (Kz ba) (K:=821) (n:=l.length) (el:=23) (sz:=1) ci (xs:=ba.map cF) (by simp[eb,Pv.look,h]) i j hi ag
  refine this.mono ?_;rintro r ai ⟨rfl,rfl⟩;refine⟨rfl,?_⟩;simp[eb,cI,XQ,h]
 ·rintro r ai ⟨rfl,ba,rfl,I,U⟩;exact⟨rfl,by rw[aaP lP I U]⟩
end
section
open Go Go.Pv
theorem BQ{α:Type}{s:List α}{i:Nat}{t:α}(h:s[i]? =some t):s.drop i=t::s.drop (i+1):=by obtain⟨hi,e⟩:=fG.1 h;rw[lA hi,e]
def rh(L:List (List ah))(a:List (List ah))(e:List ah):List (List ah):=if ja L e=true then kZ eG e a else a
theorem Ox{L:List (List ah)}:∀(xs:List (List ah)) {a:List (List ah)},hG eG a->hG eG (xs.foldl (rh L) a)
 |[],_,h=>h
 |x::xs,a,h=>Ox xs (a:=rh L a x) (by unfold rh;split<;>first|exact Nz lP h|exact h)
theorem Yj{L:List (List ah)}{x:List ah}:∀(xs:List (List ah)) {a:List (List ah)},x∈xs.foldl (rh L) a↔x∈a\/(x∈xs/\ja L x=true)
 |[],a=>by simp
 |y::xs,a=>by
  rw[List.foldl_cons,Yj xs,eU];unfold rh;by_cases ae:ja L y=true
  ·rw[if_pos ae,IU lP];constructor
   ·rintro((rfl|h)|h)
    ·exact .inr ⟨.inl rfl,ae⟩
    ·exact .inl h
    ·exact .inr ⟨.inr h.1,h.2⟩
   ·rintro(h|⟨rfl|I,U⟩)
    ·exact .inl (.inr h)
    ·exact .inl (.inl rfl)
    ·exact .inr ⟨I,U⟩
  ·rw[if_neg ae];constructor
   ·rintro(h|h)
    ·exact .inl h
    ·exact .inr ⟨.inr h.1,h.2⟩
   ·rintro(h|⟨rfl|I,U⟩)
    ·exact .inl h
    ·exact absurd U ae
    ·exact .inr ⟨I,U⟩
theorem Yi{L:List (List ah)}:∀(xs a:List (List ah)),(xs.foldl (rh L) a).length<=a.length+xs.length
 |[],a=>by simp
 |y::xs,a=>by
  have I:=Yi (L:=L) xs (rh L a y);have U:(rh L a y).length<=a.length+1:=by
   unfold rh;split
   ·exact NB _ _
   ·omega
  simp only[List.foldl_cons,mM];omega
theorem alu(L:List (List ah)):iN L=L.foldl (rh L) []:=Ye (Ox L (by simp[hG])) fun x=>by rw[Yj];simp
def zn(L:List (List ah))(i:Nat)(a:List (List ah)):Prop:=a=(L.take i).foldl (rh L) []
theorem zn.step{L:List (List ah)}{i:Nat}{a:List (List ah)}(h:zn L i a){e:List ah}(he:L[i]? =some e):zn L (i+1) (rh L a e):=by rw[zn,lT he,List.foldl_append,h];rfl
def xI(e d:List ah):Bool:=decide (d=e)|| !kN d e
def q7(L:List (List ah))(e:List ah)(j:Nat)(k:Bool):Prop:=k=(L.take j).all (xI e)
theorem q7.step{L:List (List ah)}{e:List ah}{j:Nat}{k:Bool}(h:q7 L e j k){d:List ah}(aD:L[j]? =some d):q7 L e (j+1) (k&&xI e d):=by rw[q7,lT aD,List.all_append,h];simp
def Is(a:List (List ah))(e:List ah)(k:Nat):Prop:=k<=a.length/\∀c,a[k]? =some c->0<=eG c e
theorem Is.fin{a:List (List ah)}{e:List ah}{k:Nat}(h:Is a e k)(bk:hG eG a)(aq:∀d,0<k->a[k-1]? =some d->eG d e<0):kZ eG e a=if(match a[k]? with|some y=>decide (eG y e=0)|none=>false)=true then a else a.take k++e::a.drop k:=
 (NA lP e a k (fun i c hi jF=>by
  have ae:=h.1;obtain⟨d,aD⟩:∃d,a[k-1]? =some d:=⟨_,cm Ω⟩;have I:=aq d Ω aD;rcases Nat.lt_or_ge i (k-1)with U|U
  ·have uu:=(fG.1 jF);have kD:=(fG.1 aD);have:=p6.1 bk i (k-1) uu.1 kD.1 U;rw[uu.2,kD.2]at this;exact lP.ltr this Ω
  ·have:i=k-1:=Ω
   subst this;rw[aD]at jF;cases jF;exact I) h.2 h.1).trans (by cases a[k]?<;>rfl)
theorem Xn(L:List (List ah))(e:List ah):ja L e=L.all (xI e):=rfl
theorem aaO{l:List (List ah)}{x:List ah}:x∈pb eG l↔x∈l:=(x5 eG l).mem_iff
theorem als(l:List (List ah)):iN l=(cQ none (pb eG l)).filter (ja (pb eG l)):=by have h:ja l=ja (pb eG l):=funext fun e=>akE (fun x=>aaO.symm) e;rw[iN,h];rfl
def nJ(s:List (List ah))(i:Nat)(acc:List (List ah)):Prop:=acc++(cQ (if i=0 then none else s[i-1]?) (s.drop i)).filter (ja s)=(cQ none s).filter (ja s)
def gH:bd:=⟨0,[],[],[],[]⟩
noncomputable def tA(s:bd):bd:=match e3 s.b s.k []with
 |none=>gH
 |some k=>match eS s.b s.m []with
  |none=>gH
  |some m=>match eF s.b k (m.filter (hp k)) s.d with
   |none=>gH
   |some L=>⟨s.n,s.b,iN L,k,m.filter (hp k)⟩
theorem JX{s ai:bd}(h:eH s=some ai):tA s=ai:=by
 unfold eH at h;unfold tA;cases I:e3 s.b s.k []with
 |none=>rw[I]at h;cases h
 |some k=>
  rw[I]at h;simp only at h⊢;cases U:eS s.b s.m []with
  |none=>rw[U]at h;cases h
  |some m=>
   rw[U]at h;simp only at h⊢;cases ao:eF s.b k (m.filter (hp k)) s.d with
   |none=>rw[ao]at h;cases h
   |some L=>
    rw[ao]at h;simp only at h⊢;split at h
    ·cases h;rfl
    ·cases h
theorem acJ{k:List bV}(ae:ho k)(v:Int):(gU k (.var v) 2).isSome=(jb k v !=some 3):=by
 unfold gU;simp only;cases h:jb k v with
 |none=>simp
 |some x=>have:=(ae.at' _ (zp h)).2;simp only at this;rcases this with rfl|rfl<;>simp
theorem acS{k:List bV}(bk:k.Pairwise fun x y=>x.v<y.v)(v:Int):(k.any fun x=>x.v==v&&x.k==3)=(jb k v==some 3):=by
 rw[qP,List.any_eq_true,dO];constructor
 ·rintro⟨x,ab,h⟩;simp only[cv,dO]at h;have:=zr bk ab;rw[h.1,h.2]at this;exact this
 ·intro h;exact⟨_,zp h,Ψ⟩
theorem NZ{b:List ah}{k:List bV}{m:List bn}{d:List ah}{r:List (List ah)}(h:mgu b (e0 d)=none):eF b k m (d::r)=eF b k m r:=by rw[eF,h]
theorem NY{b:List ah}{k:List bV}{m:List bn}{d x:List ah}{r:List (List ah)}(h:mgu b (e0 d)=some x)(ae:e3 x k []=none\/eS x m []=none):eF b k m (d::r)=eF b k m r:=by rw[eF,h];simp only[if_pos ae]
theorem NX{b:List ah}{k:List bV}{m:List bn}{d x:List ah}{r:List (List ah)}(h:mgu b (e0 d)=some x)(ae:¬(e3 x k []=none\/eS x m []=none))(au:dx b x=[]):eF b k m (d::r)=none:=by rw[eF,h];simp only[if_neg ae,if_pos au]
theorem N0{b:List ah}{k:List bV}{m:List bn}{d x:List ah}{r:List (List ah)}(h:mgu b (e0 d)=some x)(ae:¬(e3 x k []=none\/eS x m []=none))(au:dx b x≠[]):eF b k m (d::r)=(eF b k m r).map (dx b x:: ·):=by rw[eF,h];simp only[if_neg ae,if_neg au]
def q8(b:List ah)(k:List bV)(m:List bn)(D:List (List ah))(i:Nat)(a:List (List ah)):Prop:=a.length<=i/\(∀x∈a,ei x)/\(eF b k m (D.drop i)).map (a++ ·)=eF b k m D
def dy(n:Int):T->Bool
 | .var v=>decide (v<n)
 | .pair a b=>dy n a&&dy n b
 |_=>true
theorem qU{n:Int}:∀{t:T},dy n t=true↔wW t n
 | .var v=>by simp[dy,wW,T.occ]
 | .pair a b=>by simp only[dy,cv,qU (t:=a),qU (t:=b),wW,T.occ,mg];exact⟨fun h v az=>az.elim (h.1 v) (h.2 v),fun h=>⟨fun v az=>h v (.inl az),fun v az=>h v (.inr az)⟩⟩
 | .nil=>by simp[dy,wW,T.occ]
 | .sym _=>by simp[dy,wW,T.occ]
 | .num _=>by simp[dy,wW,T.occ]
def lF(n:Int)(b:ah):Bool:=decide (b.v<n)&&dy n b.t
theorem wY{n:Int}{s:List ah}:s.all (lF n)=true↔nY s n:=by simp[fi,lF,nY,qU]
def sl(v m:Int):Int:=if m<v+1 then v+1 else m
theorem Ko{n:Int}:∀(t:T) (m:Int),t.fold sl m<=n↔m<=n/\dy n t=true
 | .var v,m=>by simp only[T.fold,sl,dy,eA];split<;>omega
 | .pair a b,m=>by simp only[T.fold,Ko b,Ko a,dy,cv,and_assoc]
 | .nil,m=>by simp[T.fold,dy]
 | .sym _,m=>by simp[T.fold,dy]
 | .num _,m=>by simp[T.fold,dy]
def F1(v m:Int):Option Int:=if 0<=v/\v<=100000 then some (sl v m)else none
theorem QQ:∀(t:T) (m:Int),t.ok=true->t.foldO F1 m=some (t.fold sl m)
 | .var v,m,h=>by
  have:0<=v/\v<=100000:=by simpa[T.ok]using h
  simp[T.foldO,T.fold,F1,this]
 | .pair a b,m,h=>by
  have I:a.ok=true/\b.ok=true:=by simpa[T.ok]using h
  simp[T.foldO,T.fold,QQ a m I.1,QQ b _ I.2]
 | .nil,m,_=>rfl
 | .sym _,m,_=>rfl
 | .num _,m,_=>rfl
theorem nJ.fst{s:List (List ah)}{t:List ah}{acc:List (List ah)}(h:nJ s 0 acc)(aC:s[0]? =some t):nJ s 1 (if ja s t=true then acc++[t]else acc):=by
 unfold nJ at*;rw[BQ aC]at h;have e:(if(1:Nat)=0 then none else s[1-1]?)=some t:=by simpa using aC
 have b4:acc++(t::cQ (some t) (s.drop 1)).filter (ja s)=(cQ none s).filter (ja s):=by rw[<-h];simp[cQ]
 rw[e,<-b4];by_cases ae:ja s t=true<;>simp[ae]
theorem nJ.eq{s:List (List ah)}{i:Nat}{t:List ah}{acc:List (List ah)}(h:nJ s i acc)(hi:i≠0)(bG:s[i-1]? =some t)(aC:s[i]? =some t):nJ s (i+1) acc:=by
 unfold nJ at*;rw[if_neg hi,bG,BQ aC]at h;have e:(if i+1=0 then none else s[i+1-1]?)=some t:=by rw[if_neg Ω];exact aC
 rw[e,<-h];simp[cQ]
theorem nJ.ne{s:List (List ah)}{i:Nat}{p t:List ah}{acc:List (List ah)}(h:nJ s i acc)(hi:i≠0)(bG:s[i-1]? =some p)(aC:s[i]? =some t)(au:¬p=t):nJ s (i+1) (if ja s t=true then acc++[t]else acc):=by
 unfold nJ at*;rw[if_neg hi,bG,BQ aC]at h;have e:(if i+1=0 then none else s[i+1-1]?)=some t:=by rw[if_neg Ω];exact aC
 have aD:cQ (some p) (t::s.drop (i+1))=t::cQ (some t) (s.drop (i+1)):=by simp[cQ,au]
 rw[aD]at h;rw[e,<-h];by_cases ae:ja s t=true<;>simp[ae]
theorem apS(l:List (List ah)):(pb eG l).length=l.length:=(x5 eG l).length_eq
theorem zs(S:aM->Prop)(l:List (List ah))(d:List ah):aP S (l.map cF++[cF d])=True:=by have:=NU S (l++[d]);rw[List.map_append]at this;exact eq_true this
theorem aqx(l:List (List ah))(e1:∀d∈l,ei d):bR aA 96 [.slice 1 .no (l.map cF)] (.slice 1 .no ((iN l).map cF)):=by
 generalize bI:iN l=R;rw[als]at bI;refine br ye Tryz.func96 alV fun aR=>?_;unfold R6;have ik:l.length<=68719476736:=by simp[gO,gj,gE,lim]at aR;omega
 simp;refine ep [0,12,13] (fun i (_:Unit)=>[(14,.int .i64 i)]) l.length (fun _ _=>True) () b0 trivial (fun _ _ _=>?_) (fun i _ hi _ _=>?_);rotate_left
 ·obtain⟨e,he,MK⟩:=en hi;have c5:bR aA 53 [cF e] (.bool true):=p1 (e1 e (ek he));exact hj
 simp;(with_reducible repeat' first|refine ak ?_|simp);all_goals first|(refine⟨by unfold lim;omega,?_⟩)|skip
 all_goals(with_reducible repeat' first|refine ak ?_|simp)
 refine cY.ob (ahD l ik) (Kz l) (by unfold vi eb;exact aL) (by unfold vi eb;exact aL) (by simp[inObs,eb,Pv.look]) ?_;rintro r ai ⟨rfl,rfl⟩;refine⟨yw _ _,?_⟩;obtain⟨s,Ei⟩:∃s,s=pb eG l:=⟨_,rfl⟩;have q4:s.length=l.length:=by rw[Ei];exact apS l
 have af:∀d∈s,ei d:=fun d aD=>e1 d (by rw[Ei,aaO]at aD;exact aD);rw[<-Ei]at bI;rw[<-Ei];clear Ei;simp[vi,eb,cc];refine hH (fun i (acc:List (List ah))=>⟨[(5,.ptr (.obj 822) 0),(6,.slice 1 (.own (.loc 0)) (acc.map cF)),(30,.row 1 (.obj 821) s.length),(31,.int .i64 s.length),(32,.int .i64 i)],[(.obj 822,[.row 1 (.obj 821) s.length])],[(.loc 0,⟨acc.length,23,1,none⟩),(.obj 821,⟨s.length,23,1,some (s.map cF)⟩)],1,[.obj 821,.obj 822]⟩) s.length (fun i acc=>acc.length<=i/\nJ s i acc) [] b0 ⟨Ψ,by simp[nJ]⟩ (fun acc ag _=>?_) (fun i acc hi ag _=>?_)
 ·have ag:=ag.2;rw[nJ,List.drop_length]at ag;have:acc=R:=by rw[<-bI];simpa[cQ]using ag
  subst this;exact cu
 ·obtain⟨ata,ag⟩:=ag;have mS:acc.length<=68719476735:=Ω
  obtain⟨t,rR,aC⟩:=en hi;have da:=af t (ek rR);have jt:bR aA 91 [cF t] (cF t):=FV t da.len;have ku:(if ja s t=true then acc++[t]else acc).length<=acc.length+1:=by split<;>simp
  rcases Nat.eq_zero_or_pos i with rfl|fW
  ·have Wo:=ag.fst rR;have fQ:(if ja s t=true then acc++[t]else acc).length<=0+1/\nJ s (0+1) (if ja s t=true then acc++[t]else acc):=⟨hn ku Ω,Wo⟩;clear ag Wo rR;simp[hi,aC];(with_reducible repeat' first|refine ak ?_|simp[hi,aC]);refine ep [5,6,8,30,31,32,49,50] (fun j (b:Bool)=>[(9,.bool b),(51,.int .i64 j)]) s.length (q7 s t) true b0 (by simp[q7]) (fun keep ag _=>?_) (fun j keep dX ag _=>?_)
   ·rw[q7,lB,<-Xn]at ag;rw[<-ag]at fQ;clear ag;cases keep with
    |false=>simp only[hk,if_false]at fQ;simp;((with_reducible repeat' first|refine ak ?_|simp|((first|apply bN|apply bP|apply bO)<;>intro h<;>try simp at h))<;>(try exact cf));all_goals exact bS.rng acc hi fQ b0
    |true=>
     simp only[if_true]at fQ;clear ku;simp;((with_reducible repeat' first|refine ak ?_|refine aF jt ?_|refine aG jt ?_|simp|((first|apply bN|apply bP|apply bO)<;>intro h<;>try simp at h))<;>(try exact cf));all_goals first|(refine⟨by unfold lim;omega,?_⟩)|skip
     all_goals(with_reducible repeat' first|refine ak ?_|simp)
     all_goals exact bS.rng (acc++[t]) hi fQ ⟨by simp[fresh,aP,aK,cq,inObs,Pv.look,zs],et (by simp[fresh,aP,aK,cq,inObs,Pv.look,zs]),eu (by simp[fresh,aP,aK,ee,inObs,Pv.look,zs]),Ψ⟩
   ·obtain⟨d,aD,hdi⟩:=en dX;have au:=ag.step aD;have jU:=af d (ek aD);have dZ:bR aA 141 [cF d,cF t] (.bool (kN d t)):=abO d jU.len da;have jK:bR aA 140 [cF d,cF t] (.int .i64 (eG d t)):=Km d t;clear ag aD fQ;by_cases q:eG d t=0
    ·rw[xI,hd ((lP.zero _ _).1 q),Bool.true_or,Bool.and_true]at au;rw[q]at jK;simp[dX,hdi];((with_reducible repeat' first|refine ak ?_|refine aF jK ?_|refine aG jK ?_|simp[dX,hdi]|((first|apply bN|apply bP|apply bO)<;>intro h<;>try simp at h))<;>(try exact cf));all_goals exact bS.rng keep dX au b0
    ·rw[xI,jf (fun h=>q ((lP.zero _ _).2 h)),Bool.false_or]at au;have gq:(eG d t !=0)=true:=by simp[q]
     cases aT:kN d t
     ·rw[aT]at au dZ;simp only[Bool.not_false,Bool.and_true]at au;simp[dX,hdi];((with_reducible repeat' first|refine ak ?_|refine aF jK ?_|refine aG jK ?_|refine aF dZ ?_|refine aG dZ ?_|simp[dX,hdi,q,gq]|((first|apply bN|apply bP|apply bO)<;>intro h<;>try simp at h))<;>(try exact cf));all_goals exact bS.rng keep dX au b0
     ·rw[aT]at au dZ;simp only[Bool.not_true,Bool.and_false]at au;simp[dX,hdi];((with_reducible repeat' first|refine ak ?_|refine aF jK ?_|refine aG jK ?_|refine aF dZ ?_|refine aG dZ ?_|simp[dX,hdi,q,gq]|((first|apply bN|apply bP|apply bO)<;>intro h<;>try simp at h))<;>(try exact cf));all_goals exact bS.rng false dX au b0
  ·obtain⟨p,Br⟩:∃p,s[i-1]? =some p:=⟨_,cm Ω⟩;have ar:((i:Int)-1).toNat=i-1:=Ω
   have aE:∀h,(s[i-1]'h)=p:=fun h=>by rw[cm h]at Br;exact eV Br
   have bA:¬i=0:=Ω
   have dr:i-1<s.length:=Ω
   have jI:(0:Int)<i:=Ω
   have ho:bR aA 140 [cF p,cF t] (.int .i64 (eG p t)):=Km p t;by_cases H4:p=t
   ·have fQ:acc.length<=i+1/\nJ s (i+1) acc:=⟨Ω,ag.eq bA (by rw[Br,H4]) rR⟩;rw[(lP.zero _ _).2 H4]at ho;clear ag rR Br;simp[hi,aC,ar,aE,dr,jI];((with_reducible repeat' first|refine ak ?_|refine aF ho ?_|refine aG ho ?_|simp[hi,aC,ar,aE,dr,fW,jI]|((first|apply bN|apply bP|apply bO)<;>intro h<;>try simp at h))<;>(try exact cf));all_goals exact bS.rng acc hi fQ b0
   ·have fQ:(if ja s t=true then acc++[t]else acc).length<=i+1/\nJ s (i+1) (if ja s t=true then acc++[t]else acc):=⟨hn ku Ω,ag.ne bA Br rR H4⟩;have pW:¬eG p t=0:=fun h=>H4 ((lP.zero _ _).1 h);have Ze:(eG p t==0)=false:=by simp[pW]
    clear ag rR Br;simp[hi,aC,ar,aE,dr,jI];((with_reducible repeat' first|refine ak ?_|refine aF ho ?_|refine aG ho ?_|simp[hi,aC,ar,aE,dr,fW,jI,pW,Ze]|((first|apply bN|apply bP|apply bO)<;>intro h<;>try simp at h))<;>(try exact cf));refine ep [5,6,8,30,31,32,49,50] (fun j (b:Bool)=>[(9,.bool b),(51,.int .i64 j)]) s.length (q7 s t) true b0 (by simp[q7]) (fun keep ag _=>?_) (fun j keep dX ag _=>?_)
    ·rw[q7,lB,<-Xn]at ag;rw[<-ag]at fQ;clear ag;cases keep with
     |false=>simp only[hk,if_false]at fQ;simp;((with_reducible repeat' first|refine ak ?_|simp|((first|apply bN|apply bP|apply bO)<;>intro h<;>try simp at h))<;>(try exact cf));all_goals exact bS.rng acc hi fQ b0
     |true=>
      simp only[if_true]at fQ;clear ku;simp;(with_reducible repeat' first|refine ak ?_|refine aF jt ?_|refine aG jt ?_|simp);all_goals first|(refine⟨by unfold lim;omega,?_⟩)|skip
      all_goals(with_reducible repeat' first|refine ak ?_|simp)
      all_goals exact bS.rng (acc++[t]) hi fQ ⟨by simp[fresh,aP,aK,cq,inObs,Pv.look,zs],et (by simp[fresh,aP,aK,cq,inObs,Pv.look,zs]),eu (by simp[fresh,aP,aK,ee,inObs,Pv.look,zs]),Ψ⟩
    ·obtain⟨d,aD,hdi⟩:=en dX;have au:=ag.step aD;have jU:=af d (ek aD);have dZ:bR aA 141 [cF d,cF t] (.bool (kN d t)):=abO d jU.len da;have jK:bR aA 140 [cF d,cF t] (.int .i64 (eG d t)):=Km d t;clear ag aD fQ;by_cases q:eG d t=0
     ·rw[xI,hd ((lP.zero _ _).1 q),Bool.true_or,Bool.and_true]at au;rw[q]at jK;simp[dX,hdi];((with_reducible repeat' first|refine ak ?_|refine aF jK ?_|refine aG jK ?_|simp[dX,hdi]|((first|apply bN|apply bP|apply bO)<;>intro h<;>try simp at h))<;>(try exact cf));all_goals exact bS.rng keep dX au b0
     ·rw[xI,jf (fun h=>q ((lP.zero _ _).2 h)),Bool.false_or]at au;have gq:(eG d t !=0)=true:=by simp[q]
      cases aT:kN d t
      ·rw[aT]at au dZ;simp only[Bool.not_false,Bool.and_true]at au;simp[dX,hdi];((with_reducible repeat' first|refine ak ?_|refine aF jK ?_|refine aG jK ?_|refine aF dZ ?_|refine aG dZ ?_|simp[dX,hdi,q,gq]|((first|apply bN|apply bP|apply bO)<;>intro h<;>try simp at h))<;>(try exact cf));all_goals exact bS.rng keep dX au b0
      ·rw[aT]at au dZ;simp only[Bool.not_true,Bool.and_false]at au;simp[dX,hdi];((with_reducible repeat' first|refine ak ?_|refine aF jK ?_|refine aG jK ?_|refine aF dZ ?_|refine aG dZ ?_|simp[dX,hdi,q,gq]|((first|apply bN|apply bP|apply bO)<;>intro h<;>try simp at h))<;>(try exact cf));all_goals exact bS.rng false dX au b0
theorem arp(l:List T)(h:∀t∈l,t.fit=true):bR aA 87 [.slice 4 .no (l.map T.e)] (.bool true):=by
 refine br fY Tryz.func87 YR fun aR=>?_;unfold Ld;have ik:l.length<=68719476736:=by simp[gO,gj,gE,lim]at aR;omega
 simp;refine ep [5,6] (fun i (_:Unit)=>[(7,.int .i64 i)]) l.length (fun _ _=>True) () b0 trivial (fun _ _ _=>?_) (fun i _ hi _ _=>?_)
 ·exact cu
 ·obtain⟨t,aC,rR⟩:=en hi;have dz:=Ag (h t (ek aC));clear aC;exact hj
def jA(m:Int):cU:=⟨[(.obj 831,[.int .i64 m])],[]⟩
theorem wU(m:Int):dP (jA m):=by unfold jA;exact dP.of ⟨by intro m;simp[Pv.look],by intro m;simp[Pv.look]⟩ Ψ Ψ
theorem acy(a b:Int):Same (jA a) (jA b):=Same.keys (by simp[jA]) (by simp[jA])
theorem ahb(v m iD:Int)(h:F1 v m=some iD):bL aA 135 [.int .i64 v,.ptr (.obj 831) 0] (jA m) fun r ai=>r= .tuple []/\ai=jA iD:=by
 unfold F1 at h;split at h;rotate_left
 ·cases h
 rename_i az;cases h;have af:=wU m;simp only[jA]at af⊢;by_cases hm:m<v+1
 ·rw[sl,if_pos hm];refine bL.mk mixed ye Tryz.func135 YM Ψ af.obj fun aR cN=>?_;unfold K8;simp;(with_reducible repeat' first|refine ak ?_|simp[hm]);(refine cR.at (jA (v+1)) Ψ (by first|exact wU _|exact wU ‹_› _) (Same.keys (by simp[jA]) (by simp[jA])) (by simp only[jA,bQ,bU];exact aL) (by simp only[jA,bQ,bU];exact aL) ?_;simp[cV,aY,a6,aX,inObs,Pv.look,jA])
 ·rw[sl,if_neg hm];refine bL.mk mixed ye Tryz.func135 YM Ψ af.obj fun aR cN=>?_;unfold K8;simp;(with_reducible repeat' first|refine ak ?_|simp[hm]);(refine cR.at (jA m) Ψ (by first|exact wU _|exact wU ‹_› _) (Same.keys (by simp[jA]) (by simp[jA])) (by simp only[jA,bQ,bU];exact aL) (by simp only[jA,bQ,bU];exact aL) ?_;simp[cV,aY,a6,aX,inObs,Pv.look,jA])
def yh(l:List T):Int:=l.foldl (fun m t=>t.fold sl m) 0
def It(l:List T)(i:Nat)(m:Int):Prop:=m=yh (l.take i)
theorem abx(l:List T)(h:∀t∈l,t.fit=true):bR aA 88 [.slice 4 .no (l.map T.e)] (.int .i64 (yh l)):=by
 have dz:=arp l h;generalize bI:yh l=R;refine br ye Tryz.func88 al4 fun aR=>?_;unfold Sf;have ik:l.length<=68719476736:=by simp[gO,gj,gE,lim]at aR;omega
 simp;(with_reducible repeat' first|refine ak ?_|refine aF dz ?_|refine aG dz ?_|simp);refine hH (fun i (m:Int)=>⟨[(3,.ptr (.obj 831) 0),(9,.slice 4 .no (l.map T.e)),(10,.int .i64 l.length),(11,.int .i64 i)],[(.obj 831,[.int .i64 m])],[],0,[.obj 831]⟩) l.length (It l) 0 b0 rfl (fun m ag _=>?_) (fun i m hi ag _=>?_)
 ·rw[It,lB,bI]at ag;subst ag;exact cu
 ·obtain⟨t,aC,rR⟩:=en hi;have aiD:t.ok=true:=by have:=h t (ek aC);simp only[T.fit,cv]at this;exact this.1
  have au:It l (i+1) (t.fold sl m):=by rw[It,lT aC,yh,List.foldl_append,ag];rfl
  have key:=Mi jA wU acy 135 [.ptr (.obj 831) 0] (fun a=>by simp[jA,inObs,Pv.look]) Ψ F1 (fun v a bq h=>ahb v a bq h) t m _ (QQ t m aiD);clear ag aC;simp[hi,rR];(with_reducible repeat' first|refine ak ?_|simp[rR,hi]);(refine cY.ob (key) (by first|exact wU _|exact wU ‹_› _) (by simp only[jA,bQ,bU];exact aL) (by simp only[jA,bQ,bU];exact aL) (by simp[inObs,Pv.look,jA]) ?_;rintro r ai ⟨rfl,rfl⟩;refine⟨(Same.keys (by simp[jA]) (by simp[jA])),?_⟩;simp[cc,jA]);(with_reducible repeat' first|refine ak ?_|simp);refine bS.rng (t.fold sl m) hi au ?_;exact b0
theorem aby{s:List ah}(af:ei s){n:Int}(au:0<=n):bR aA 56 [.slice 5 .no (s.map ah.e),.int .i64 n] (.bool (s.all (lF n))):=by
 have q4:=af.len;generalize bI:s.all (lF n)=R;refine br ye Tryz.func56 al6 fun aR=>?_;unfold Sh;simp;refine ep [1,7,8] (fun i (_:Unit)=>[(9,.int .i64 i)]) s.length (lj (lF n) s) () b0 (fun k b ae=>Ω) (fun _ ag _=>?_) (fun i _ hi ag _=>?_)
 ·have:R=true:=by rw[<-bI,fi];intro b ad;obtain⟨k,ae,e⟩:=oL ad;exact ag k b ae (by rw[cm ae,e])
  rw[this];exact cu
 ·obtain⟨b,az,gw⟩:=en hi;have eg:lF n b=false->R=false:=fun h=>by rw[<-bI,Bool.eq_false_iff];intro b4;rw[fi]at b4;rw[b4 b (ek az)]at h;cases h
  have js:=abx [b.t] (fun t aC=>by simp at aC;subst aC;exact af.fit b (ek az));have hle:=Ko (n:=n) b.t 0;rw[show yh [b.t]=b.t.fold sl 0 from rfl]at js;simp only[hc,nS]at js;generalize b.t.fold sl 0=m at js hle;by_cases I:b.v<n
  ·have oV:¬n<=b.v:=Ω
   cases U:dy n b.t
   ·have ao:n<m:=by rw[U]at hle;simp at hle;omega
    rw[eg (by simp[lF,U])];clear ag az hle;exact cu
   ·have ao:¬n<m:=by rw[U]at hle;simp[au]at hle;omega
    have hy:=ag.step az (by simp[lF,I,U]);clear ag az hle;exact hj
  ·have oV:n<=b.v:=Ω
   rw[eg (by simp[lF,I])];clear ag az hle;exact cu
def wZ:C:=(aa [c0 1 0,bp 2 false] (.seq (aa [aJ 11 0 1 1,ay 12 1 11,aU 13 .lss 12 0,J 14 13,av 14 false (aJ 15 0 1 1),av 14 false (ay 16 1 15),av 14 false (aU 17 .gtr 16 100000),c8 18 14 17,J 19 18,av 19 false (aJ 20 1 1 1),av 19 false (ay 21 1 20),av 19 false (cD 22 53 21),av 19 false (ct 23 22),c8 24 19 23,J 25 24,av 25 false (aJ 26 3 1 1),av 25 false (ay 27 1 26),av 25 false (cD 28 54 27),av 25 false (ct 29 28),c8 30 25 29,J 31 30,av 31 false (aJ 32 4 1 1),av 31 false (ay 33 1 32),av 31 false (cD 34 55 33),av 31 false (ct 35 34),c8 36 31 35,J 37 36,av 37 false (aJ 38 1 1 1),av 37 false (ay 39 1 38),av 37 false (aJ 40 0 1 1),av 37 false (ay 41 1 40),av 37 false (ch 42 56 39 41),av 37 false (ct 43 42),c8 44 37 43] (a1 44 (aa [bp 2 false] .ret) .skip)) (.seq (aa [aJ 45 2 1 1,ay 46 1 45,cH 47 46,cb 48 0] (fm 49 48 47 (.seq (.block 1 (aa [cE 50 1 46 48,ay 51 1 50,J 4 51] (aa [J 52 4,cD 53 53 52,ct 54 53,J 55 54,b6 55 false 56 4,av 55 false (aJ 57 0 1 1),av 55 false (ay 58 1 57),av 55 false (ch 59 56 56 58),av 55 false (ct 60 59),c8 61 55 60] (a1 61 (aa [bp 2 false] .ret) .skip)))) (.region [aU 62 .add 48 1,J 48 62])))) (.seq (aa [aJ 63 3 1 1,ay 64 1 63,cH 65 64,cb 66 0] (.block 2 (.loop (aa [bC 67 .lss 66 65] (.seq (a1 67 .skip (.exit 2)) (.seq (.block 3 (aa [cE 68 2 64 66,aZ 69 2 68,cS (.alloc 6 none (.agg [.int .i64 0,.int .i64 0])),bu 2 6 69] (aa [aJ 70 0 1 6,ay 71 1 70,aJ 72 0 1 1,ay 73 1 72,bC 74 .geq 71 73] (a1 74 (aa [bp 2 false] .ret) .skip)))) (.region [aU 75 .add 66 1,J 66 75]))))))) (.seq (aa [aJ 76 4 1 1,ay 77 1 76,cH 78 77,cb 79 0] (.block 4 (.loop (aa [bC 80 .lss 79 78] (.seq (a1 80 .skip (.exit 4)) (.seq (.block 5 (aa [cE 81 2 77 79,aZ 82 2 81,cS (.alloc 8 none (.agg [.int .i64 0,.str []])),bu 2 8 82] (aa [aJ 83 0 1 8,ay 84 1 83,aJ 85 0 1 1,ay 86 1 85,bC 87 .geq 84 86] (a1 87 (aa [bp 2 false] .ret) .skip)))) (.region [aU 88 .add 79 1,J 79 88]))))))) (aa [aZ 90 5 1,cD 91 42 90,J 89 91,cg 92 0 89,cg 93 1 89,cP 9 fD,bu 5 9 92,J 10 93] (aa [J 94 10,J 95 94,av 95 true (aZ 96 5 9),av 95 true (aZ 97 5 1),av 95 true (ch 98 46 96 97),dB 99 95 98,J 2 99] .ret)))))))
def GP:C:=(aa [c0 1 0,cP 2 fD,bp 3 false] (aa [aJ 26 1 1 1,ay 27 1 26,aJ 28 3 1 1,ay 29 1 28,ch 30 92 27 29,J 25 30,cg 31 0 25,cg 32 1 25,J 4 31,J 5 32] (aa [aJ 34 1 1 1,ay 35 1 34,aJ 36 4 1 1,ay 37 1 36,ch 38 93 35 37,J 33 38,cg 39 0 33,cg 40 1 33,J 6 39,J 7 40] (.seq (aa [J 41 5,ct 42 41,J 43 42,b6 43 false 44 7,av 43 false (ct 45 44),c8 46 43 45] (a1 46 (aa [gr 47 fD [],bu 5 2 47,bp 3 false] .ret) .skip)) (aa [cS (.mkmap 48 none),J 8 48] (.seq (aa [J 49 4,cH 50 49,cb 51 0] (fm 52 51 50 (.seq (.block 1 (aa [cE 53 2 49 51,aZ 54 2 53,cS (.alloc 10 none (.agg [.int .i64 0,.int .i64 0])),bu 2 10 54] (aa [aJ 55 1 1 10,ay 56 1 55,aU 57 .eql 56 3] (a1 57 (.region [J 58 8,aJ 59 0 1 10,ay 60 1 59,cS (.mput .i (.t 58) (.t 60) (.c (.bool true)))]) .skip)))) (.region [aU 61 .add 51 1,J 51 61])))) (aa [ea 62 2 56 [],J 11 62] (.seq (aa [J 63 6,cH 64 63,cb 65 0] (.block 2 (.loop (aa [bC 66 .lss 65 64] (.seq (a1 66 .skip (.exit 2)) (.seq (.block 3 (aa [cE 67 2 63 65,aZ 68 2 67,cS (.alloc 13 none (.agg [.int .i64 0,.str []])),bu 2 13 68] (aa [J 69 8,aJ 70 0 1 13,ay 71 1 70,bT 72 (.mget .i (.bool false) false (.t 69) (.t 71)),ct 73 72] (a1 73 (.region [J 74 11,aZ 75 2 13,ea 76 2 56 [.t 75],gT 77 2 56 74 76,J 11 77]) .skip)))) (.region [aU 78 .add 65 1,J 65 78]))))))) (aa [ea 79 1 23 [],J 14 79] (.seq (aa [aJ 80 2 1 1,ay 81 1 80,cH 82 81,cb 83 0] (.block 4 (.loop (aa [bC 84 .lss 83 82] (.seq (a1 84 .skip (.exit 4)) (.seq (.block 5 (aa [cE 85 1 81 83,ay 86 1 85,J 16 86] (aa [aJ 88 1 1 1,ay 89 1 88,J 90 16,ch 91 94 89 90,J 87 91,cg 92 0 87,cg 93 1 87,J 17 92,J 18 93] (.seq (aa [J 94 18,ct 95 94] (a1 95 (.exit 5) .skip)) (aa [J 97 17,J 98 4,ch 99 92 97 98,J 96 99,cg 100 0 96,cg 101 1 96,J 19 100,J 20 101] (aa [J 103 17,J 104 11,ch 105 93 103 104,J 102 105,cg 106 0 102,cg 107 1 102,J 21 106,J 22 107] (.seq (aa [J 108 20,ct 109 108,J 110 109,b6 110 false 111 22,av 110 false (ct 112 111),c8 113 110 112] (a1 113 (.exit 5) .skip)) (aa [aJ 114 1 1 1,ay 115 1 114,J 116 17,ch 117 95 115 116,J 23 117] (.seq (aa [J 118 23,cH 119 118,aU 120 .eql 119 0] (a1 120 (aa [gr 121 fD [],bu 5 2 121,bp 3 false] .ret) .skip)) (.region [J 122 14,J 123 23,ea 124 1 23 [.t 123],gT 125 1 23 122 124,J 14 125])))))))))) (.region [aU 126 .add 83 1,J 83 126]))))))) (aa [J 127 14,cD 128 96 127,J 24 128] (.seq (aa [J 129 24,cH 130 129,aU 131 .gtr 130 30] (a1 131 (aa [gr 132 fD [],bu 5 2 132,bp 3 false] .ret) .skip)) (.seq (.drawn true 142 [aJ 133 0 1 1,ay 134 1 133,aJ 135 1 1 1,ay 136 1 135,cD 137 91 136,J 138 24,J 139 4,J 140 11,gr 141 fD [(0,1,(.t 134)),(1,1,(.t 137)),(2,1,(.t 138)),(3,1,(.t 139)),(4,1,(.t 140))],bu 5 2 141,bp 3 true]) .ret)))))))))))))
def yE:C:=(aa [c0 2 0,c0 3 1,bp 4 false] (.seq (aa [aJ 8 0 1 2,ay 9 1 8,aJ 10 0 1 3,ay 11 1 10,bC 12 .neq 9 11,J 13 12,av 13 false (aJ 14 1 1 2),av 13 false (ay 15 1 14),av 13 false (aJ 16 1 1 3),av 13 false (ay 17 1 16),av 13 false (ch 18 99 15 17),av 13 false (ct 19 18),c8 20 13 19,J 21 20,av 21 false (aJ 22 2 1 2),av 21 false (ay 23 1 22),av 21 false (cH 24 23),av 21 false (aJ 25 2 1 3),av 21 false (ay 26 1 25),av 21 false (cH 27 26),av 21 false (bC 28 .neq 24 27),c8 29 21 28,J 30 29,av 30 false (aJ 31 3 1 2),av 30 false (ay 32 1 31),av 30 false (cH 33 32),av 30 false (aJ 34 3 1 3),av 30 false (ay 35 1 34),av 30 false (cH 36 35),av 30 false (bC 37 .neq 33 36),c8 38 30 37,J 39 38,av 39 false (aJ 40 4 1 2),av 39 false (ay 41 1 40),av 39 false (cH 42 41),av 39 false (aJ 43 4 1 3),av 39 false (ay 44 1 43),av 39 false (cH 45 44),av 39 false (bC 46 .neq 42 45),c8 47 39 46] (a1 47 (aa [bp 4 false] .ret) .skip)) (.seq (aa [aJ 48 2 1 2,ay 49 1 48,cH 50 49,cb 51 0] (fm 52 51 50 (.seq (.block 1 (aa [J 53 51,J 5 53] (.seq (.drawn true 103 [aJ 54 2 1 2,ay 55 1 54,J 56 5,cE 57 1 55 56,ay 58 1 57,aJ 59 2 1 3,ay 60 1 59,J 61 5,cE 62 1 60 61,ay 63 1 62,ch 64 99 58 63,ct 65 64]) (a1 65 (aa [bp 4 false] .ret) .skip)))) (.region [aU 66 .add 51 1,J 51 66])))) (.seq (aa [aJ 67 3 1 2,ay 68 1 67,cH 69 68,cb 70 0] (.block 2 (.loop (aa [bC 71 .lss 70 69] (.seq (a1 71 .skip (.exit 2)) (.seq (.block 3 (aa [J 72 70,J 6 72] (.seq (.drawn true 103 [aJ 73 3 1 2,ay 74 1 73,J 75 6,cE 76 2 74 75,aZ 77 2 76,aJ 78 3 1 3,ay 79 1 78,J 80 6,cE 81 2 79 80,aZ 82 2 81,bT 83 (.beq true (some [false,false]) (.t 77) (.t 82))]) (a1 83 (aa [bp 4 false] .ret) .skip)))) (.region [aU 84 .add 70 1,J 70 84]))))))) (.seq (aa [aJ 85 4 1 2,ay 86 1 85,cH 87 86,cb 88 0] (.block 4 (.loop (aa [bC 89 .lss 88 87] (.seq (a1 89 .skip (.exit 4)) (.seq (.block 5 (aa [J 90 88,J 7 90] (.seq (.drawn true 103 [aJ 91 4 1 2,ay 92 1 91,J 93 7,cE 94 2 92 93,aZ 95 2 94,aJ 96 4 1 3,ay 97 1 96,J 98 7,cE 99 2 97 98,aZ 100 2 99,bT 101 (.beq true (some [false,true]) (.t 95) (.t 100))]) (a1 101 (aa [bp 4 false] .ret) .skip)))) (.region [aU 102 .add 88 1,J 88 102]))))))) (aa [bp 4 true] .ret))))))
def Ka:List (Nat×dG):=[
 (3,⟨1,8,.int .i64,.int .i64 0⟩),
 (4,⟨1,1,.bool,.bool false⟩),
 (9,⟨1,16,.str,.str []⟩),
 (23,⟨1,24,.slice 54,.slice 5 .nil []⟩),
 (24,⟨1,24,.slice 23,.slice 1 .nil []⟩),
 (25,⟨1,24,.slice 59,.slice 2 .nil []⟩),
 (26,⟨1,24,.slice 56,.slice 2 .nil []⟩),
 (28,⟨5,104,.struct [(0,3),(1,23),(2,24),(3,25),(4,26)],.agg [.int .i64 0,.slice 5 .nil [],.slice 1 .nil [],.slice 2 .nil [],.slice 2 .nil []]⟩),
 (51,⟨1,8,.map 3 4,.junk⟩),
 (56,⟨2,24,.struct [(0,3),(1,9)],.agg [.int .i64 0,.str []]⟩),
 (59,⟨2,16,.struct [(0,3),(1,3)],.agg [.int .i64 0,.int .i64 0]⟩)]
theorem pe:fX aA Ka=true:=by kernel_rfl
theorem zE:b7 Ka wZ [.tmp 2] 1 Tryz.f22=true:=by kernel_rfl
theorem OQ:b7 Ka GP [.cell 2 true 5,.tmp 3] 1 Tryz.f42=true:=by kernel_rfl
theorem B9:b7 Ka yE [.tmp 4] 2 Tryz.f46=true:=by kernel_rfl
end
end Go.Proofs.YtohaalphocaebaaGreatDoor
