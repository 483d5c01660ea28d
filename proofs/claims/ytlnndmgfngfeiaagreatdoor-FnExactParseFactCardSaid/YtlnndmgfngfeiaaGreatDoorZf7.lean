/- Contracts: a goal read, whole. -/
import Derived.Test.YtlnndmgfngfeiaaGreatDoorProg
import Derived.Test.YtlnndmgfngfeiaaGreatDoorZf6
set_option linter.all false
set_option maxHeartbeats 4000000
set_option maxRecDepth 4000
open Bool renaming and_eq_true->bA,false_eq_true->ia
open Go.IntKind renaming i64->jY
open Go.IntWalk renaming i64_in->ll
open Go.Proofs.Tryz renaming prog->aS
open List renaming all_eq_true->kj,cons_append->eI,drop_eq_getElem_cons->pR,drop_length->ml,getElem?_eq_getElem->eh,getElem?_eq_some_iff->fG,length_cons->lN,length_drop->lp,length_pos_iff->nT,map_cons->gZ,mem_append->ha,mem_cons->gp,mem_of_getElem?->gB,take_add_one->lq,take_length->kQ
open Nat renaming eq_or_lt_of_le->jB,le_refl->cE
open Option renaming getD_some->oP,isSome_none->qF,map_some->mZ
open Option.some renaming inj->iN,injEq->dv
open Prod.mk renaming injEq->hx
open _root_ renaming False->cw,Option->aV,UInt8->aC,beq_iff_eq->df,decide_eq_true_eq->fH,if_neg->be
namespace Go.Proofs.YtlnndmgfngfeiaaGreatDoor
section
open Go Go.Pv
theorem dK(n lo aB:Int):b5 aS 127 [.int .i64 n,.int .i64 lo,.int .i64 aB] (.bool (decide (lo<=n/\n<=aB))):=by
 refine bT hM PX Ub fun aQ=>?_;unfold Hi;simp;((with_reducible repeat' first|refine aI ?_|simp|((first|apply dy|apply dC|apply dB)<;>intro h<;>try simp at h))<;>(try exact ep));all_goals simp[ca,Ln,ba,bc,a1]
 all_goals first|omega|(simp;done)|(simp;omega)
def eW:aU->Bool
 | .mk k n s [a,b]=>k==4&&n==0&&s==[]&&eW a&&eW b
 | .mk k n s []=>jw k n s
 |_=>false
theorem wP:∀x:T,eW x.tm=x.ok
 | .nil=>by simp[T.tm,eW,jw,T.ok]
 | .var _=>by simp[T.tm,eW,jw,T.ok]
 | .sym _=>by simp[T.tm,eW,jw,T.ok]
 | .num _=>by simp[T.tm,eW,jw,T.ok]
 | .pair a b=>by simp[T.tm,eW,T.ok,wP a,wP b]
theorem Vp:∀(m:Nat) (t:aU),t.sz<=m->eW t=true->∃x:T,x.tm=t:=by
 intro m;induction m with
 |zero=>intro t au;cases t;simp[aU.sz]at au
 |succ m a8=>
  rintro⟨k,n,s,args⟩ au h;match args with
  |[a,b]=>
   simp[aU.sz,aU.szL]at au;simp only[eW,bA,df]at h;obtain⟨⟨⟨⟨rfl,rfl⟩,ak⟩,I⟩,aa⟩:=h;obtain⟨x,rfl⟩:=a8 a Ω I;obtain⟨y,rfl⟩:=a8 b Ω aa;have:s=[]:=by simpa using ak
   subst this;exact⟨.pair x y,rfl⟩
  |[]=>
   simp only[eW,jw]at h;split at h
   ·subst_vars;simp at h;exact⟨.nil,by simp[T.tm,h]⟩
   split at h
   ·subst_vars;simp at h;exact⟨.var n,by simp[T.tm,h]⟩
   split at h
   ·subst_vars;simp at h;exact⟨.sym s,by simp[T.tm,h]⟩
   split at h
   ·subst_vars;simp at h;exact⟨.num n,by simp[T.tm,h]⟩
   ·simp at h
  |[_]=>simp[eW]at h
  |_::_::_::_=>simp[eW]at h
theorem Qb(t:aU):t.fits=(decide (j2 t 5000<=5000)&&eW t):=by
 by_cases h:eW t=true
 ·obtain⟨x,rfl⟩:=Vp _ t (cE _) h;have:=(Cw x 5000 Ω).1;rw[aU.fits_T,T.fit,h];rw[wP]at h;simp[h,this];omega
 ·have bN:t.fits=false:=by
   cases aH:t.fits with
   |false=>rfl
   |true=>obtain⟨x,rfl,ad⟩:=aU.fits_ex aH;rw[wP]at h;simp[T.fit]at ad;exact absurd ad.1 h
  simp at h;rw[bN,h];simp
def D7(s:List aC)(i:Nat):Prop:=i<=s.length/\∀k,k<i->ka (s.getD k 0)=true/\(k=0->low (s.getD k 0)=true)
theorem SI{s:List aC}(h:D7 s s.length):gU s=decide (1<=s.length/\s.length<=12):=by
 unfold gU;by_cases aA:1<=s.length
 ·have I:=(h.2 0 Ω).2 rfl;have aa:(s.drop 1).all ka=true:=by rw[kj];intro b af;obtain⟨i,aB,e⟩:=List.getElem_of_mem af;simp at aB e;have:=(h.2 (i+1) Ω).1;rw[List.getD_eq_getElem?_getD,eh Ω]at this;simp only[oP]at this;rw[<-e];exact this
  rw[I,aa];simp
 ·have:decide (1<=s.length/\s.length<=12)=false:=by simp;omega
  rw[this];simp
theorem SH{s:List aC}{i:Nat}(aB:i<s.length)(h:ka (s.getD i 0)=false\/(i=0/\low (s.getD i 0)=false)):gU s=false:=by
 cases e:gU s with
 |false=>rfl
 |true=>
  exfalso;simp only[gU,bA,kj]at e;obtain⟨⟨_,ah⟩,aE⟩:=e;rcases h with h|⟨rfl,h⟩
  ·by_cases bN:i=0
   ·subst bN;rw[ka,ah]at h;simp at h
   ·have:=aE (s.getD i 0) (by rw[List.getD_eq_getElem?_getD,eh aB];simp only[oP];refine List.mem_iff_getElem.2 ⟨i-1,by simp;omega,?_⟩;simp[show i-1+1=i from by omega])
    rw[this]at h;cases h
  ·rw[ah]at h;cases h
theorem fX(s:List aC):b5 aS 188 [.str s] (.bool (gU s)):=by
 generalize bF:gU s=R;refine bT hM PU T8 fun aQ=>?_;unfold Hf;have hg:s.length<=68719476736:=by simp[jf,jE,jg,bX]at aQ;omega
 simp;refine H8 [0] (fun(i:Nat)=>[(3,.int .i64 i)]) (fun i=>s.length-i) (D7 s) 0 dp ⟨Ω,fun k J=>Ω⟩ (fun i av _=>?_);have jN:=av.1;by_cases aB:i<s.length
 ·have gd:=SH aB;rw[bF]at gd;obtain⟨c,az,eG⟩:=hy aB;have Dc:s.getD i 0=c:=by simp[List.getD_eq_getElem?_getD,az]
  rw[Dc]at gd;have fe:ka c=true->(i=0->low c=true)->D7 s (i+1):=fun I aa=>⟨Ω,fun k J=>by
   rcases(by omega:k<i\/k=i)with h|rfl
   ·exact av.2 k h
   ·rw[Dc];exact⟨I,aa⟩⟩
  have hw:jY.wrap (c.toNat:Int)=c.toNat:=ll _ (by have:=c.toNat_lt;omega);simp[aB,eG,az];by_cases bJ:(97:Int)<=c.toNat
  ·by_cases cj:(c.toNat:Int)<=122
   ·have aA:low c=true:=by simp[low];omega
    (with_reducible repeat' first|refine aI ?_|refine bn (dK _ _ _) ?_|refine bo (dK _ _ _) ?_|simp[aB,eG,az,bJ,cj]);exact cF.whl (i+1) Ω (fe (by simp[ka,aA]) (fun _=>aA)) dp
   ·have aA:low c=false:=by simp[low];omega
    by_cases bN:i=0
    ·rw[gd (.inr ⟨bN,aA⟩)];have o4:((i:Int)==0)=true:=by simp[bN]
     (with_reducible repeat' first|refine aI ?_|refine bn (dK _ _ _) ?_|refine bo (dK _ _ _) ?_|simp[aB,eG,az,bJ,cj,o4,hw]);simp[ca,wB,ba,bc,a1]
    ·have o4:((i:Int)==0)=false:=by simp[bN]
     by_cases de:(c.toNat:Int)=45
     ·have ry:((c.toNat:Int) !=45)=false:=by simp[de]
      (with_reducible repeat' first|refine aI ?_|refine bn (dK _ _ _) ?_|refine bo (dK _ _ _) ?_|simp[aB,eG,az,bJ,cj,o4,hw,de,ry]);all_goals exact cF.whl (i+1) Ω (fe (by simp[ka];omega) (fun h=>absurd h bN)) dp
     ·have ry:((c.toNat:Int) !=45)=true:=by simp[de]
      by_cases du:(48:Int)<=c.toNat/\(c.toNat:Int)<=57
      ·(with_reducible repeat' first|refine aI ?_|refine bn (dK _ _ _) ?_|refine bo (dK _ _ _) ?_|simp[aB,eG,az,bJ,cj,o4,hw,de,ry,du]);all_goals exact cF.whl (i+1) Ω (fe (by simp[ka];omega) (fun h=>absurd h bN)) dp
      ·rw[gd (.inl (by simp[ka,aA];omega))];(with_reducible repeat' first|refine aI ?_|refine bn (dK _ _ _) ?_|refine bo (dK _ _ _) ?_|simp[aB,eG,az,bJ,cj,o4,hw,de,ry,du]);simp[ca,wB,ba,bc,a1]
  ·have aA:low c=false:=by simp[low];omega
   by_cases bN:i=0
   ·rw[gd (.inr ⟨bN,aA⟩)];have o4:((i:Int)==0)=true:=by simp[bN]
    (with_reducible repeat' first|refine aI ?_|refine bn (dK _ _ _) ?_|refine bo (dK _ _ _) ?_|simp[aB,eG,az,bJ,o4,hw]);simp[ca,wB,ba,bc,a1]
   ·have o4:((i:Int)==0)=false:=by simp[bN]
    by_cases de:(c.toNat:Int)=45
    ·have ry:((c.toNat:Int) !=45)=false:=by simp[de]
     (with_reducible repeat' first|refine aI ?_|refine bn (dK _ _ _) ?_|refine bo (dK _ _ _) ?_|simp[aB,eG,az,bJ,o4,hw,de,ry]);all_goals exact cF.whl (i+1) Ω (fe (by simp[ka];omega) (fun h=>absurd h bN)) dp
    ·have ry:((c.toNat:Int) !=45)=true:=by simp[de]
     by_cases du:(48:Int)<=c.toNat/\(c.toNat:Int)<=57
     ·(with_reducible repeat' first|refine aI ?_|refine bn (dK _ _ _) ?_|refine bo (dK _ _ _) ?_|simp[aB,eG,az,bJ,o4,hw,de,ry,du]);all_goals exact cF.whl (i+1) Ω (fe (by simp[ka];omega) (fun h=>absurd h bN)) dp
     ·rw[gd (.inl (by simp[ka,aA];omega))];(with_reducible repeat' first|refine aI ?_|refine bn (dK _ _ _) ?_|refine bo (dK _ _ _) ?_|simp[aB,eG,az,bJ,o4,hw,de,ry,du]);simp[ca,wB,ba,bc,a1]
 ·have:i=s.length:=Ω
  subst this;rw[SI av]at bF;simp[aB];(with_reducible repeat' first|refine aI ?_|refine bn (dK _ _ _) ?_|refine bo (dK _ _ _) ?_|simp[aB]);simp[ca,wB,ba,bc,a1];rw[<-bF,Bool.eq_iff_iff];simp;omega
def vg:C:=(al [eu (.alloc 2 none (.agg [.int .i64 0,.str [],.slice 4 .nil [],.slice 4 .nil []])),bM 3 false] (al [ae 10 0,dY 11 107 10,ae 9 11,ek 12 0 9,ek 13 1 9,ae 4 12,ae 5 13] (.seq (al [ae 14 5,eQ 15 14] (bf 15 (al [a7 16 (.build [.int .i64 0,.str [],.slice 4 .nil [],.slice 4 .nil []] []),bO 4 2 16,bM 3 false] .ret) .skip)) (al [ae 18 4,mf 19 154 [.t 18,(cQ 0)],ae 17 19,ek 20 0 17,ek 21 1 17,ek 22 2 17,eu (.alloc 6 none (.agg [.int .i64 0,.str [],.slice 4 .nil [],.slice 4 .nil []])),bO 4 6 20,ae 7 21,ae 8 22] (.seq (al [ae 23 8,eQ 24 23,ae 25 24,b0 25 false 26 7,b0 25 false 27 4,aM 25 false (dT 28 27),aM 25 false (dm 29 .neq 26 28),ds 30 25 29,ae 31 30,aM 31 false (cP 32 4 6),aM 31 false (dY 33 155 32),aM 31 false (eQ 34 33),ds 35 31 34] (bf 35 (al [a7 36 (.build [.int .i64 0,.str [],.slice 4 .nil [],.slice 4 .nil []] []),bO 4 2 36,bM 3 false] .ret) .skip)) (al [cP 37 4 6,bO 4 2 37,bM 3 true] .ret))))))
@[simp] def Bt:List cr:=[.cell 2 true 4,.tmp 3]
def Cq:C:=(al [mY 2 1,bM 3 false] (.seq (al [ae 8 0,a7 9 (.slen (.t 8)),bd 10 .gtr 9 100000] (bf 10 (al [mY 2 1,bM 3 false] .ret) .skip)) (al [h9 11 1 9 [],ae 4 11] (al [cK 5 0] (.seq (.block 0 (.loop (.seq (al [ae 12 5,ae 13 0,a7 14 (.slen (.t 13)),dm 15 .lss 12 14] (bf 15 .skip (.exit 0))) (.block 1 (al [ae 16 5,bd 17 .add 16 1,ae 6 17] (.seq (al [ae 18 0,ae 19 5,a7 20 (.sidx (.t 18) (.t 19)),a7 21 (.bin .eql false (.t 20) (.c (.int .u8 59)))] (bf 21 (.block 2 (.loop (.seq (al [ae 22 6,ae 23 0,a7 24 (.slen (.t 23)),dm 25 .lss 22 24,ae 26 25,b0 26 true 27 0,b0 26 true 28 6,aM 26 true (a7 29 (.sidx (.t 27) (.t 28))),aM 26 true (a7 30 (.bin .neq false (.t 29) (.c (.int .u8 10)))),e7 31 26 30] (bf 31 .skip (.exit 2))) (.block 3 (.region [ae 32 6,bd 33 .add 32 1,ae 6 33]))))) (al [ae 34 0,ae 35 5,a7 36 (.sidx (.t 34) (.t 35)),dY 37 172 36,eQ 38 37] (bf 38 (.seq (.block 4 (.loop (.seq (al [ae 39 6,ae 40 0,a7 41 (.slen (.t 40)),dm 42 .lss 39 41,ae 43 42,b0 43 true 44 0,b0 43 true 45 6,aM 43 true (a7 46 (.sidx (.t 44) (.t 45))),aM 43 true (dY 47 172 46),aM 43 true (eQ 48 47),e7 49 43 48] (bf 49 .skip (.exit 4))) (.block 5 (.region [ae 50 6,bd 51 .add 50 1,ae 6 51]))))) (.region [ae 52 4,ae 53 0,ae 54 5,ae 55 6,a7 56 (.ssl (.t 53) (some (.t 54)) (some (.t 55))),h9 57 1 9 [.t 56],nP 58 1 9 52 57,ae 4 58])) (al [ae 59 0,ae 60 5,a7 61 (.sidx (.t 59) (.t 60)),a7 62 (.bin .eql false (.t 61) (.c (.int .u8 40))),ae 63 62,b0 63 false 64 0,b0 63 false 65 5,aM 63 false (a7 66 (.sidx (.t 64) (.t 65))),aM 63 false (a7 67 (.bin .eql false (.t 66) (.c (.int .u8 41)))),ds 68 63 67] (bf 68 (.region [ae 69 4,ae 70 0,ae 71 5,ae 72 6,a7 73 (.ssl (.t 70) (some (.t 71)) (some (.t 72))),h9 74 1 9 [.t 73],nP 75 1 9 69 74,ae 4 75]) .skip)))))) (.region [ae 76 6,ae 5 76]))))))) (.seq (al [cK 7 0] (.block 6 (.loop (.seq (al [ae 77 7,ae 78 0,a7 79 (.slen (.t 78)),dm 80 .lss 77 79] (bf 80 .skip (.exit 6))) (.seq (.block 7 (al [ae 83 0,ae 84 7,a7 85 (.sidx (.t 83) (.t 84)),a7 86 (.bin .neq false (.t 85) (.c (.int .u8 10))),ae 87 86,b0 87 true 88 0,b0 87 true 89 7,aM 87 true (a7 90 (.sidx (.t 88) (.t 89))),aM 87 true (a7 91 (.conv .i64 (.t 90))),aM 87 true (mf 92 127 [.t 91,(cQ 32),(cQ 126)]),aM 87 true (eQ 93 92),e7 94 87 93] (bf 94 (al [mY 2 1,bM 3 false] .ret) .skip))) (.region [ae 81 7,bd 82 .add 81 1,ae 7 82])))))) (.seq (al [ae 95 4,dT 96 95,bd 97 .gtr 96 20000] (bf 97 (al [mY 2 1,bM 3 false] .ret) .skip)) (al [ae 98 4,ae 2 98,bM 3 true] .ret))))))))
@[simp] def Bv:List cr:=[.tmp 2,.tmp 3]
def r8:C:=(al [eu (.alloc 4 none (.agg [.int .i64 0,.str [],.slice 4 .nil [],.slice 4 .nil []])),cK 5 0,bM 6 false] (.seq (al [ae 16 1,ae 17 0,dT 18 17,dm 19 .lss 16 18,ae 20 19,b0 20 true 21 0,b0 20 true 22 1,aM 20 true (e8 23 1 21 22),aM 20 true (bu 24 1 23),lL 20 true 25 (.bin .eql false (.t 24) (.c (.str [116,114,117,101]))),e7 26 20 25] (bf 26 (al [a7 27 (.build [.int .i64 0,.str [],.slice 4 .nil [],.slice 4 .nil []] []),ae 28 1,bd 29 .add 28 1,bO 4 4 27,ae 5 29,bM 6 true] .ret) .skip)) (.seq (al [ae 30 1,ae 31 0,dT 32 31,dm 33 .lss 30 32,ae 34 33,b0 34 true 35 0,b0 34 true 36 1,aM 34 true (e8 37 1 35 36),aM 34 true (bu 38 1 37),lL 34 true 39 (.bin .eql false (.t 38) (.c (.str [102,97,105,108]))),e7 40 34 39] (bf 40 (al [a7 41 (.build [.int .i64 0,.str [],.slice 4 .nil [],.slice 4 .nil []] [(0,1,(cQ 1))]),ae 42 1,bd 43 .add 42 1,bO 4 4 41,ae 5 43,bM 6 true] .ret) .skip)) (.seq (al [ae 44 1,bd 45 .add 44 1,ae 46 0,dT 47 46,dm 48 .geq 45 47,ae 49 48,b0 49 false 50 0,b0 49 false 51 1,aM 49 false (e8 52 1 50 51),aM 49 false (bu 53 1 52),lL 49 false 54 (.bin .neq false (.t 53) (.c (.str [40]))),ds 55 49 54] (bf 55 (al [a7 56 (.build [.int .i64 0,.str [],.slice 4 .nil [],.slice 4 .nil []] []),bO 4 4 56,cK 5 0,bM 6 false] .ret) .skip)) (al [ae 57 0,ae 58 1,bd 59 .add 58 1,e8 60 1 57 59,bu 61 1 60,a7 62 (.build [.int .i64 0,.str [],.slice 4 .nil [],.slice 4 .nil []] [(0,1,(cQ 9)),(1,1,(.t 61))]),eu (.alloc 7 none (.agg [.int .i64 0,.str [],.slice 4 .nil [],.slice 4 .nil []])),bO 4 7 62] (.seq (al [mf 63 131 [],dT 64 63,cK 65 0] (pN 66 65 64 (.seq (.block 1 (al [ae 67 65,e8 68 1 63 65,bu 69 1 68,ae 8 67,ae 9 69] (al [ae 70 9,ae 71 0,ae 72 1,bd 73 .add 72 1,e8 74 1 71 73,bu 75 1 74,dm 76 .eql 70 75] (bf 76 (.region [ae 77 8,a7 78 (.build [.int .i64 0,.str [],.slice 4 .nil [],.slice 4 .nil []] [(0,1,(.t 77))]),bO 4 7 78]) .skip)))) (.region [bd 79 .add 65 1,ae 65 79])))) (al [ae 80 1,bd 81 .add 80 2,ae 1 81] (.seq (.block 2 (.loop (.seq (al [ae 82 1,ae 83 0,dT 84 83,dm 85 .lss 82 84,ae 86 85,b0 86 true 87 0,b0 86 true 88 1,aM 86 true (e8 89 1 87 88),aM 86 true (bu 90 1 89),lL 86 true 91 (.bin .neq false (.t 90) (.c (.str [41]))),e7 92 86 91] (bf 92 .skip (.exit 2))) (.block 3 (al [bB 93 0 1 7,bu 94 1 93,bd 95 .eql 94 7,ae 96 95,aM 96 false (bB 97 0 1 7),aM 96 false (bu 98 1 97),aM 96 false (bd 99 .eql 98 8),ds 100 96 99,ae 101 100,aM 101 false (bB 102 0 1 7),aM 101 false (bu 103 1 102),aM 101 false (bd 104 .eql 103 10),ds 105 101 104] (bf 105 (al [ae 107 0,ae 108 1,gA 109 154 107 108,ae 106 109,ek 110 0 106,ek 111 1 106,ek 112 2 106,eu (.alloc 10 none (.agg [.int .i64 0,.str [],.slice 4 .nil [],.slice 4 .nil []])),bO 4 10 110,ae 11 111,ae 12 112] (.seq (al [ae 113 12,eQ 114 113] (bf 114 (al [a7 115 (.build [.int .i64 0,.str [],.slice 4 .nil [],.slice 4 .nil []] []),bO 4 4 115,cK 5 0,bM 6 false] .ret) .skip)) (al [bB 116 3 1 7,bu 117 1 116,cP 118 4 10,h9 119 4 65 [.t 118],nP 120 4 65 117 119,bB 121 3 1 7,bO 1 121 120] (.region [ae 122 11,ae 1 122])))) (al [ae 124 0,ae 125 1,gA 126 209 124 125,ae 123 126,ek 127 0 123,ek 128 1 123,ek 129 2 123,hv 13 dE,bO 4 13 127,ae 14 128,ae 15 129] (.seq (al [ae 130 15,eQ 131 130] (bf 131 (al [a7 132 (.build [.int .i64 0,.str [],.slice 4 .nil [],.slice 4 .nil []] []),bO 4 4 132,cK 5 0,bM 6 false] .ret) .skip)) (al [bB 133 2 1 7,bu 134 1 133,cP 135 4 13,h9 136 4 40 [.t 135],nP 137 4 40 134 136,bB 138 2 1 7,bO 1 138 137] (.region [ae 139 14,ae 1 139])))))))))) (.seq (.fz true 7 (.drawn true 152 [a7 140 (.loadZ true 4 (.t 7)),ae 141 1,bd 142 .add 141 1,ae 143 1,ae 144 0,dT 145 144,dm 146 .lss 143 145,ae 147 146,aM 147 true (bB 148 0 1 7),aM 147 true (a7 149 (.loadZ false 1 (.t 148))),aM 147 true (bd 150 .gtr 149 1),e7 151 147 150,bO 4 4 140,ae 5 142,ae 6 151])) .ret)))))))))
@[simp] def jy:List cr:=[.cell 4 true 4,.tmp 5,.tmp 6]
def tG:C:=(al [bM 2 false] (al [ae 3 0,a7 4 (.bin .eql false (.t 3) (.c (.int .u8 32))),ae 5 4,b0 5 false 6 0,aM 5 false (a7 7 (.bin .eql false (.t 6) (.c (.int .u8 10)))),ds 8 5 7,ae 9 8,b0 9 false 10 0,aM 9 false (a7 11 (.bin .eql false (.t 10) (.c (.int .u8 40)))),ds 12 9 11,ae 13 12,b0 13 false 14 0,aM 13 false (a7 15 (.bin .eql false (.t 14) (.c (.int .u8 41)))),ds 16 13 15,ae 17 16,b0 17 false 18 0,aM 17 false (a7 19 (.bin .eql false (.t 18) (.c (.int .u8 59)))),ds 20 17 19,ae 2 20] .ret))
@[simp] def UP:List cr:=[.tmp 2]
def tH:C:=(al [hv 4 dE,cK 5 0,bM 6 false] (.seq (al [ae 17 1,ae 18 0,dT 19 18,dm 20 .geq 17 19,ae 21 20,b0 21 false 22 0,b0 21 false 23 1,aM 21 false (e8 24 1 22 23),aM 21 false (bu 25 1 24),lL 21 false 26 (.bin .eql false (.t 25) (.c (.str [41]))),ds 27 21 26,ae 28 27,b0 28 false 29 0,b0 28 false 30 1,aM 28 false (e8 31 1 29 30),aM 28 false (bu 32 1 31),lL 28 false 33 (.bin .eql false (.t 32) (.c (.str [46]))),ds 34 28 33] (bf 34 (al [kO 35 dE [],bO 4 4 35,cK 5 0,bM 6 false] .ret) .skip)) (.seq (al [ae 36 0,ae 37 1,e8 38 1 36 37,bu 39 1 38,a7 40 (.bin .neq false (.t 39) (.c (.str [40])))] (bf 40 (al [ae 42 0,ae 43 1,e8 44 1 42 43,bu 45 1 44,dY 46 251 45,ae 41 46,ek 47 0 41,ek 48 1 41,hv 7 dE,bO 4 7 47,ae 8 48] (al [cP 49 4 7,ae 50 1,bd 51 .add 50 1,ae 52 8,bO 4 4 49,ae 5 51,ae 6 52] .ret)) .skip)) (al [h9 53 4 40 [],ae 9 53] (al [ae 54 1,bd 55 .add 54 1,ae 1 55] (.seq (.block 0 (.loop (.seq (al [ae 56 1,ae 57 0,dT 58 57,dm 59 .lss 56 58,ae 60 59,b0 60 true 61 0,b0 60 true 62 1,aM 60 true (e8 63 1 61 62),aM 60 true (bu 64 1 63),lL 60 true 65 (.bin .neq false (.t 64) (.c (.str [41]))),e7 66 60 65,ae 67 66,b0 67 true 68 0,b0 67 true 69 1,aM 67 true (e8 70 1 68 69),aM 67 true (bu 71 1 70),lL 67 true 72 (.bin .neq false (.t 71) (.c (.str [46]))),e7 73 67 72] (bf 73 .skip (.exit 0))) (.block 1 (al [ae 75 0,ae 76 1,gA 77 209 75 76,ae 74 77,ek 78 0 74,ek 79 1 74,ek 80 2 74,hv 10 dE,bO 4 10 78,ae 11 79,ae 12 80] (.seq (al [ae 81 12,eQ 82 81] (bf 82 (al [kO 83 dE [],bO 4 4 83,cK 5 0,bM 6 false] .ret) .skip)) (al [ae 84 9,cP 85 4 10,h9 86 4 40 [.t 85],nP 87 4 40 84 86,ae 9 87] (.region [ae 88 11,ae 1 88])))))))) (al [kO 89 dE [],hv 13 dE,bO 4 13 89] (.seq (al [ae 90 1,ae 91 0,dT 92 91,dm 93 .lss 90 92,ae 94 93,b0 94 true 95 0,b0 94 true 96 1,aM 94 true (e8 97 1 95 96),aM 94 true (bu 98 1 97),lL 94 true 99 (.bin .eql false (.t 98) (.c (.str [46]))),e7 100 94 99] (bf 100 (al [ae 102 0,ae 103 1,bd 104 .add 103 1,gA 105 209 102 104,ae 101 105,ek 106 0 101,ek 107 1 101,ek 108 2 101,hv 14 dE,bO 4 14 106,ae 15 107,ae 16 108] (.seq (al [ae 109 16,eQ 110 109,ae 111 110,b0 111 false 112 9,aM 111 false (dT 113 112),aM 111 false (bd 114 .eql 113 0),ds 115 111 114] (bf 115 (al [kO 116 dE [],bO 4 4 116,cK 5 0,bM 6 false] .ret) .skip)) (al [cP 117 4 14,bO 4 13 117] (.region [ae 118 15,ae 1 118])))) .skip)) (.seq (al [ae 119 1,ae 120 0,dT 121 120,dm 122 .geq 119 121,ae 123 122,b0 123 false 124 0,b0 123 false 125 1,aM 123 false (e8 126 1 124 125),aM 123 false (bu 127 1 126),lL 123 false 128 (.bin .neq false (.t 127) (.c (.str [41]))),ds 129 123 128] (bf 129 (al [kO 130 dE [],bO 4 4 130,cK 5 0,bM 6 false] .ret) .skip)) (al [ae 131 9,cP 132 4 13,gA 133 252 131 132,ae 134 1,bd 135 .add 134 1,bO 4 4 133,ae 5 135,bM 6 true] .ret))))))))))
@[simp] def tb:List cr:=[.cell 4 true 4,.tmp 5,.tmp 6]
def tF:C:=(al [cK 2 0,bM 3 false] (al [ae 9 0,a7 10 (.slen (.t 9)),bd 11 .gtr 10 0,ae 12 11,b0 12 true 13 0,aM 12 true (a7 14 (.sidx (.t 13) (cQ 0))),aM 12 true (a7 15 (.bin .eql false (.t 14) (.c (.int .u8 45)))),e7 16 12 15,ae 4 16] (al [ae 17 0,ae 5 17] (.seq (al [ae 18 4] (bf 18 (.region [ae 19 0,a7 20 (.ssl (.t 19) (some (cQ 1)) none),ae 5 20]) .skip)) (.seq (al [ae 21 5,a7 22 (.slen (.t 21)),bd 23 .lss 22 1,ae 24 23,b0 24 false 25 5,aM 24 false (a7 26 (.slen (.t 25))),aM 24 false (bd 27 .gtr 26 19),ds 28 24 27] (bf 28 (al [cK 2 0,bM 3 false] .ret) .skip)) (al [cK 6 0] (.seq (al [cK 7 0] (.block 0 (.loop (.seq (al [ae 29 7,ae 30 5,a7 31 (.slen (.t 30)),dm 32 .lss 29 31] (bf 32 .skip (.exit 0))) (.seq (.block 1 (al [ae 35 5,ae 36 7,a7 37 (.sidx (.t 35) (.t 36)),a7 38 (.conv .i64 (.t 37)),bd 39 .sub 38 48,ae 8 39] (.seq (al [ae 40 8,mf 41 127 [.t 40,(cQ 0),(cQ 9)],eQ 42 41,ae 43 42,b0 43 false 44 6,b0 43 false 45 8,aM 43 false (a7 46 (.bin .add false (cQ (-9223372036854775808)) (.t 45))),aM 43 false (bd 47 .quo 46 10),aM 43 false (dm 48 .lss 44 47),ds 49 43 48] (bf 49 (al [cK 2 0,bM 3 false] .ret) .skip)) (.region [ae 50 6,bd 51 .mul 50 10,ae 52 8,dm 53 .sub 51 52,ae 6 53])))) (.region [ae 33 7,bd 34 .add 33 1,ae 7 34])))))) (.seq (al [ae 54 4,eQ 55 54] (bf 55 (.seq (al [ae 56 6,bd 57 .eql 56 (-9223372036854775808)] (bf 57 (al [cK 2 0,bM 3 false] .ret) .skip)) (.region [ae 58 6,a7 59 (.neg (.t 58)),ae 6 59])) .skip)) (.seq (al [ae 60 6,dY 61 57 60,ae 62 0,dm 63 .neq 61 62] (bf 63 (al [cK 2 0,bM 3 false] .ret) .skip)) (al [ae 64 6,ae 2 64,bM 3 true] .ret))))))))))
@[simp] def Bu:List cr:=[.tmp 2,.tmp 3]
def r7:C:=(al [hv 2 dE,bM 3 false] (.seq (al [ae 7 0,dY 8 188 7] (bf 8 (al [ae 9 0,dY 10 195 9,bO 4 2 10,bM 3 true] .ret) .skip)) (al [kO 11 dE [(0,1,(cQ 3))],hv 4 dE,bO 4 4 11] (.seq (al [ae 12 0,a7 13 (.slen (.t 12)),bd 14 .gtr 13 0,ae 15 14,b0 15 true 16 0,aM 15 true (a7 17 (.sidx (.t 16) (cQ 0))),aM 15 true (a7 18 (.bin .eql false (.t 17) (.c (.int .u8 63)))),e7 19 15 18] (bf 19 (al [bB 20 0 1 4,eu (.store 1 (.t 20) (cQ 1))] (.region [ae 21 0,a7 22 (.ssl (.t 21) (some (cQ 1)) none),ae 0 22])) .skip)) (al [ae 24 0,dY 25 221 24,ae 23 25,ek 26 0 23,ek 27 1 23,ae 5 26,ae 6 27] (al [ae 28 5,bB 29 1 1 4,bO 1 29 28] (.seq (al [ae 30 6,eQ 31 30,ae 32 31,aM 32 false (cP 33 4 4),aM 32 false (dY 34 270 33),aM 32 false (eQ 35 34),ds 36 32 35] (bf 36 (al [kO 37 dE [],bO 4 2 37,bM 3 false] .ret) .skip)) (al [cP 38 4 4,bO 4 2 38,bM 3 true] .ret))))))))
@[simp] def US:List cr:=[.cell 2 true 4,.tmp 3]
def Hm:C:=(al [hW 3 1,hv 4 dE] (.seq (al [ae 6 0,dT 7 6,bd 8 .sub 7 1,ae 5 8] (.block 0 (.loop (.seq (al [ae 9 5,bd 10 .geq 9 0] (bf 10 .skip (.exit 0))) (.seq (.block 1 (.drawn true 20 [ae 13 0,ae 14 5,e8 15 4 13 14,cP 16 4 15,cP 17 4 3,gA 18 141 16 17,bO 4 3 18])) (.region [ae 11 5,bd 12 .sub 11 1,ae 5 12])))))) (al [cP 19 4 3,bO 4 4 19] .ret)))
@[simp] def UR:List cr:=[.cell 4 true 4]
def rM:List (Nat×cm):=[
 (3,⟨1,8,.int .i64,.int .i64 0⟩),
 (5,⟨1,1,.int .u8,.int .u8 0⟩),
 (9,⟨1,16,.str,.str []⟩),
 (38,⟨1,24,.slice 40,.slice 4 .nil []⟩),
 (40,⟨4,56,.struct [(0,3),(1,3),(2,9),(3,38)],.agg [.int .i64 0,.int .i64 0,.str [],.slice 4 .nil []]⟩),
 (63,⟨1,24,.slice 65,.slice 4 .nil []⟩),
 (65,⟨4,72,.struct [(0,3),(1,9),(2,38),(3,63)],.agg [.int .i64 0,.str [],.slice 4 .nil [],.slice 4 .nil []]⟩),
 (70,⟨1,24,.slice 9,.slice 1 .nil []⟩)]
theorem fv:dJ aS rM=true:=by kernel_rfl
theorem yy:c6 rM vg Bt 1 Tryz.f88=true:=by kernel_rfl
theorem xz:aS.funcs[(88:Nat)]? =some Tryz.f88:=Tryz.func88
theorem KV:c6 rM Cq Bv 1 Tryz.f107=true:=by kernel_rfl
theorem Ih:aS.funcs[(107:Nat)]? =some Tryz.f107:=Tryz.func107
theorem uI:c6 rM r8 jy 2 Tryz.f154=true:=by kernel_rfl
theorem tR:aS.funcs[(154:Nat)]? =some Tryz.f154:=Tryz.func154
theorem wo:c6 rM tG UP 1 Tryz.f172=true:=by kernel_rfl
theorem vu:aS.funcs[(172:Nat)]? =some Tryz.f172:=Tryz.func172
theorem wq:c6 rM tH tb 2 Tryz.f209=true:=by kernel_rfl
theorem vv:aS.funcs[(209:Nat)]? =some Tryz.f209:=Tryz.func209
theorem wm:c6 rM tF Bu 1 Tryz.f221=true:=by kernel_rfl
theorem vt:aS.funcs[(221:Nat)]? =some Tryz.f221:=Tryz.func221
theorem uH:c6 rM r7 US 1 Tryz.f251=true:=by kernel_rfl
theorem tQ:aS.funcs[(251:Nat)]? =some Tryz.f251:=Tryz.func251
theorem Uf:c6 rM Hm UR 2 Tryz.f252=true:=by kernel_rfl
theorem P1:aS.funcs[(252:Nat)]? =some Tryz.f252:=Tryz.func252
theorem wW(c:aC):b5 aS 172 [.int .u8 c.toNat] (.bool (lX c)):=by
 by_cases bt:c=32
 ·subst bt;rw[show lX _=true from rfl];refine bT fv vu wo fun aQ=>?_;unfold tG;clear aQ;exact cH
 by_cases a2:c=10
 ·subst a2;rw[show lX _=true from rfl];refine bT fv vu wo fun aQ=>?_;unfold tG;clear aQ;exact cH
 by_cases a3:c=40
 ·subst a3;rw[show lX _=true from rfl];refine bT fv vu wo fun aQ=>?_;unfold tG;clear aQ;exact cH
 by_cases a4:c=41
 ·subst a4;rw[show lX _=true from rfl];refine bT fv vu wo fun aQ=>?_;unfold tG;clear aQ;exact cH
 by_cases a5:c=59
 ·subst a5;rw[show lX _=true from rfl];refine bT fv vu wo fun aQ=>?_;unfold tG;clear aQ;exact cH
 have af:lX c=false:=by unfold lX;simp[bt,a2,a3,a4,a5]
 have m1:((c.toNat:Int)==32)=false:=mW (d:=32) bt;have m2:((c.toNat:Int)==10)=false:=mW (d:=10) a2;have m3:((c.toNat:Int)==40)=false:=mW (d:=40) a3;have m4:((c.toNat:Int)==41)=false:=mW (d:=41) a4;have m5:((c.toNat:Int)==59)=false:=mW (d:=59) a5;rw[af];refine bT fv vu wo fun aQ=>?_;unfold tG;clear aQ;exact cH
def kX(s:List aC)(x:List (List aC)×Nat):aN:=⟨[(0,.str s),(4,.slice 1 (.own (.loc 0)) (dz x.1)),(5,.int .i64 x.2)],[],[(.loc 0,⟨x.1.length,9,1,none⟩)],1,[]⟩
def n2(s:List aC)(out:List (List aC))(i:Nat)(k:Nat):aN:=⟨[(0,.str s),(4,.slice 1 (.own (.loc 0)) (dz out)),(5,.int .i64 i),(6,.int .i64 k)],[],[(.loc 0,⟨out.length,9,1,none⟩)],1,[]⟩
def qJ(s:List aC)(out:List (List aC))(k:Nat):aN:=⟨[(0,.str s),(4,.slice 1 (.own (.loc 0)) (dz out)),(7,.int .i64 k)],[],[(.loc 0,⟨out.length,9,1,none⟩)],1,[]⟩
set_option maxRecDepth 8000 in
theorem Wk(s:List aC)(ao:s.length<=bX):b5 aS 107 [.str s] (kh (hs s)):=by
 by_cases I:s.length<=100000;rotate_left
 ·have:hs s=none:=by unfold hs;rw[be (fun h=>I h.1)]
  rw[this,kh];have vC:(100000:Int)<s.length:=Ω
  refine bT fv Ih KV fun aQ=>?_;unfold Cq;clear aQ;exact cH
 have vC:¬(100000:Int)<s.length:=Ω
 generalize bF:kh (hs s)=R;have sA:kin (fun _=>cw) R:=by rw[<-bF];unfold kh;split<;>simp[kin,kinL]
 refine bT fv Ih KV (fun aQ=>?_) (hr:=sA);unfold Cq;clear aQ;simp[vC];refine jI (kX s) (fun x=>s.length-x.2) (fun x=>x.2<=s.length/\x.1++fP (s.drop x.2)=fP s/\x.1.length<=x.2) ([],0) (by simp[kX,dz];exact dp) ⟨Ψ,Ψ,Ψ⟩ ?_;rintro⟨out,i⟩ ⟨aB,hinv,As⟩ _;simp only at aB hinv As;rcases jB aB with rfl|bU
 ·rw[ml,BW,List.append_nil]at hinv;subst hinv;simp[kX];refine jI (qJ s (fP s)) (fun k=>s.length-k) (fun k=>k<=s.length/\∀c∈s.take k,pD c=true) 0 (by simp[qJ];exact⟨by simp[fresh,kinL,kin,b1,aG,Pv.look,dc,dD],eR (by simp[fresh,kinL,kin,b1,aG,Pv.look,dc,dD]),eS (by simp[fresh,kinL,kin,ef,aG,Pv.look,dc,dD]),Ψ⟩) ⟨Ω,Ψ⟩ ?_;rintro k ⟨J,dM⟩ _;rcases jB J with rfl|bU
  ·rw[kQ]at dM;have jJ:∀c∈s,pD c=true:=dM;by_cases aR:(fP s).length<=20000
   ·have gS:¬(20000:Int)<(fP s).length:=Ω
    have au:hs s=some (fP s):=by unfold hs;rw[if_pos ⟨I,jJ,aR⟩]
    simp[qJ];(with_reducible repeat' first|refine aI ?_|simp[gS]);rw[<-bF,au,kh];simp[ca,Bv,ba,bc,a1]
   ·have gS:(20000:Int)<(fP s).length:=Ω
    have au:hs s=none:=by unfold hs;rw[be fun h=>aR h.2.2]
    simp[qJ];(with_reducible repeat' first|refine aI ?_|simp[gS]);rw[<-bF,au,kh];simp[ca,Bv,ba,bc,a1]
  ·obtain⟨c,az,eG⟩:=hy bU;have cN:bm ((k:Int)+1):=by unfold bm;omega
   have iF:=KM c;have ec:=dK c.toNat 32 126;have hw:jY.wrap (c.toNat:Int)=c.toNat:=ll _ (by have:=c.toNat_lt;omega);by_cases sM:pD c=true
   ·have x4:∀x∈s.take (k+1),pD x=true:=fun x ad=>by
     rw[lq,az]at ad;rcases ha.1 ad with ad|ad
     ·exact dM x ad
     ·simp at ad;subst ad;exact sM
    rcases iF.1 sM with e6|xJ
    ·have lA:((c.toNat:Int) !=10)=false:=by simpa using e6
     clear dM iF sM;simp[qJ,bU,eG,az];(with_reducible repeat' first|refine aI ?_|refine bn ec ?_|refine bo ec ?_|simp[bU,eG,az,lA,cN,hw]);refine cF.whl (k+1) Ω ⟨bU,x4⟩ (by simp[qJ];exact⟨by simp[fresh,kinL,kin,b1,aG,Pv.look,dc,dD],eR (by simp[fresh,kinL,kin,b1,aG,Pv.look,dc,dD]),eS (by simp[fresh,kinL,kin,ef,aG,Pv.look,dc,dD]),Ψ⟩)
    ·have lA:((c.toNat:Int) !=10)=true:=bne_iff_ne.2 Ω;rw[decide_eq_true xJ]at ec;clear dM iF sM;simp[qJ,bU,eG,az];(with_reducible repeat' first|refine aI ?_|refine bn ec ?_|refine bo ec ?_|simp[bU,eG,az,lA,cN,hw]);refine cF.whl (k+1) Ω ⟨bU,x4⟩ (by simp[qJ];exact⟨by simp[fresh,kinL,kin,b1,aG,Pv.look,dc,dD],eR (by simp[fresh,kinL,kin,b1,aG,Pv.look,dc,dD]),eS (by simp[fresh,kinL,kin,ef,aG,Pv.look,dc,dD]),Ψ⟩)
   ·have au:hs s=none:=by unfold hs;rw[be];intro h;exact sM (h.2.1 c (gB az))
    have lA:((c.toNat:Int) !=10)=true:=bne_iff_ne.2 fun e=>sM (iF.2 (.inl e));rw[decide_eq_false fun e=>sM (iF.2 (.inr e))]at ec;clear dM iF sM;simp[qJ,bU,eG,az];(with_reducible repeat' first|refine aI ?_|refine bn ec ?_|refine bo ec ?_|simp[bU,eG,az,lA,cN,hw]);rw[<-bF,au,kh];simp[ca,Bv,ba,bc,a1]
 obtain⟨c,az,eG⟩:=hy bU;have cN:bm ((i:Int)+1):=by unfold bm;omega
 have uq:out.length+1<=bX:=by unfold bX;omega
 have la:=wW c;rw[fZ az,BV]at hinv;by_cases k9:c=32\/c=10
 ·rw[if_pos k9]at hinv;rcases k9 with rfl|rfl
  ·have la:b5 aS 172 [.int .u8 32] (.bool true):=wW 32;simp[kX,bU,eG,az];(with_reducible repeat' first|refine aI ?_|refine bn la ?_|refine bo la ?_|simp[bU,eG,az,cN]);refine cF.whl (out,i+1) (by simp;omega) ⟨bU,hinv,by simp;omega⟩ (by simp[kX];exact⟨by simp[fresh,kinL,kin,b1,aG,Pv.look,dc,dD],eR (by simp[fresh,kinL,kin,b1,aG,Pv.look,dc,dD]),eS (by simp[fresh,kinL,kin,ef,aG,Pv.look,dc,dD]),Ψ⟩)
  ·have la:b5 aS 172 [.int .u8 10] (.bool true):=wW 10;simp[kX,bU,eG,az];(with_reducible repeat' first|refine aI ?_|refine bn la ?_|refine bo la ?_|simp[bU,eG,az,cN]);refine cF.whl (out,i+1) (by simp;omega) ⟨bU,hinv,by simp;omega⟩ (by simp[kX];exact⟨by simp[fresh,kinL,kin,b1,aG,Pv.look,dc,dD],eR (by simp[fresh,kinL,kin,b1,aG,Pv.look,dc,dD]),eS (by simp[fresh,kinL,kin,ef,aG,Pv.look,dc,dD]),Ψ⟩)
 rw[be k9]at hinv;by_cases o5:c=59
 ·rw[if_pos o5]at hinv;subst o5;clear la;simp[kX,bU,eG,az];(with_reducible repeat' first|refine aI ?_|simp[bU,eG,az,cN]);refine jI (n2 s out i) (fun k=>s.length-k) (fun k=>i+1<=k/\k<=s.length/\∀c∈(s.drop (i+1)).take (k-(i+1)),mO c=true) (i+1) (by simp[n2];exact⟨by simp[fresh,kinL,kin,b1,aG,Pv.look,dc,dD],eR (by simp[fresh,kinL,kin,b1,aG,Pv.look,dc,dD]),eS (by simp[fresh,kinL,kin,ef,aG,Pv.look,dc,dD]),Ψ⟩) ⟨cE _,bU,Ψ⟩ ?_;rintro k ⟨jn,iW,iX⟩ _;have hF:(∀c,s[k]? =some c->mO c=false)->k<=s.length/\out++fP (s.drop k)=fP s/\out.length<=k:=by intro he;refine⟨iW,?_,Ω⟩;rw[<-(BL jn iW iX he).2];exact hinv
  rcases jB iW with rfl|iD
  ·have di:=hF fun c h=>by simp at h
   clear hF iX;simp[n2];(with_reducible repeat' first|refine aI ?_|simp);refine cF.whl (out,s.length) (by simp;omega) di (by simp[kX];exact⟨by simp[fresh,kinL,kin,b1,aG,Pv.look,dc,dD],eR (by simp[fresh,kinL,kin,b1,aG,Pv.look,dc,dD]),eS (by simp[fresh,kinL,kin,ef,aG,Pv.look,dc,dD]),Ψ⟩)
  ·obtain⟨d,aF,hdi⟩:=hy iD;have nq:bm ((k:Int)+1):=by unfold bm;omega
   by_cases e6:d=10
   ·subst e6;have di:=hF fun c h=>by rw[aF]at h;cases h;rfl
    clear hF iX;simp[n2,iD,hdi,aF];(with_reducible repeat' first|refine aI ?_|simp[iD,hdi,aF]);refine cF.whl (out,k) (by simp;omega) di (by simp[kX];exact⟨by simp[fresh,kinL,kin,b1,aG,Pv.look,dc,dD],eR (by simp[fresh,kinL,kin,b1,aG,Pv.look,dc,dD]),eS (by simp[fresh,kinL,kin,ef,aG,Pv.look,dc,dD]),Ψ⟩)
   ·have aR:((d.toNat:Int) !=10)=true:=uZ (d:=10) e6;have qd:∀c∈(s.drop (i+1)).take (k+1-(i+1)),mO c=true:=fun x ad=>by
     rw[show k+1-(i+1)=(k-(i+1))+1 by omega,lq,List.getElem?_drop,show i+1+(k-(i+1))=k by omega,aF]at ad;rcases ha.1 ad with ad|ad
     ·exact iX x ad
     ·simp at ad;subst ad;simp[mO,e6]
    clear hF iX;simp[n2,iD,hdi,aF];(with_reducible repeat' first|refine aI ?_|simp[iD,hdi,aF,aR,nq]);refine cF.whl (k+1) Ω ⟨Ω,iD,qd⟩ (by simp[n2];exact⟨by simp[fresh,kinL,kin,b1,aG,Pv.look,dc,dD],eR (by simp[fresh,kinL,kin,b1,aG,Pv.look,dc,dD]),eS (by simp[fresh,kinL,kin,ef,aG,Pv.look,dc,dD]),Ψ⟩)
 rw[be o5]at hinv;have ED:((c.toNat:Int)==59)=false:=mW (d:=59) o5;have hle:(i:Int)<=i+1:=Ω
 have Jl:(i:Int)+1<=s.length:=Ω
 by_cases pn:c=40\/c=41
 ·rw[if_pos pn]at hinv;have Az:(s.take (i+1)).drop i=[c]:=by rw[List.drop_take,fZ az];simp
  rcases pn with rfl|rfl
  ·have la:b5 aS 172 [.int .u8 40] (.bool true):=wW 40;simp[kX,bU,eG,az];(with_reducible repeat' first|refine aI ?_|refine bn la ?_|refine bo la ?_|simp[bU,eG,az,cN,Az,hle,Jl,uq]);refine cF.whl (out++[[40]],i+1) (by simp;omega) ⟨bU,(by simpa using hinv),by simp;omega⟩ (by simp[kX,dz];exact⟨by simp[fresh,kinL,kin,b1,aG,Pv.look,dc,dD],eR (by simp[fresh,kinL,kin,b1,aG,Pv.look,dc,dD]),eS (by simp[fresh,kinL,kin,ef,aG,Pv.look,dc,dD]),Ψ⟩)
  ·have la:b5 aS 172 [.int .u8 41] (.bool true):=wW 41;simp[kX,bU,eG,az];(with_reducible repeat' first|refine aI ?_|refine bn la ?_|refine bo la ?_|simp[bU,eG,az,cN,Az,hle,Jl,uq]);refine cF.whl (out++[[41]],i+1) (by simp;omega) ⟨bU,(by simpa using hinv),by simp;omega⟩ (by simp[kX,dz];exact⟨by simp[fresh,kinL,kin,b1,aG,Pv.look,dc,dD],eR (by simp[fresh,kinL,kin,b1,aG,Pv.look,dc,dD]),eS (by simp[fresh,kinL,kin,ef,aG,Pv.look,dc,dD]),Ψ⟩)
 rw[be pn]at hinv;have xP:h4 c=true:=(D2 c).2 ⟨k9,o5,pn⟩;have Q3:lX c=false:=by simpa[h4]using xP
 rw[Q3]at la;simp[kX,bU,eG,az];(with_reducible repeat' first|refine aI ?_|refine bn la ?_|refine bo la ?_|simp[bU,eG,az,ED,cN]);refine jI (n2 s out i) (fun k=>s.length-k) (fun k=>i+1<=k/\k<=s.length/\∀c∈(s.drop (i+1)).take (k-(i+1)),h4 c=true) (i+1) (by simp[n2];exact⟨by simp[fresh,kinL,kin,b1,aG,Pv.look,dc,dD],eR (by simp[fresh,kinL,kin,b1,aG,Pv.look,dc,dD]),eS (by simp[fresh,kinL,kin,ef,aG,Pv.look,dc,dD]),Ψ⟩) ⟨cE _,bU,Ψ⟩ ?_;rintro k ⟨jn,iW,iX⟩ _;have hF:(∀c,s[k]? =some c->h4 c=false)->k<=s.length/\(out++[(s.take k).drop i])++fP (s.drop k)=fP s/\(out++[(s.take k).drop i]).length<=k:=by intro he;refine⟨iW,?_,by simp;omega⟩;obtain⟨au,aF⟩:=BL jn iW iX he;rw[au,aF]at hinv;rw[List.drop_take,fZ az,show k-i=(k-(i+1))+1 from by omega,List.take_succ_cons,List.append_assoc];exact hinv
 have fK:(i:Int)<=k:=Ω
 have xX:(k:Int)<=s.length:=Ω
 clear hinv la;rcases jB iW with rfl|iD
 ·have di:=hF fun c h=>by simp at h
  clear hF iX;simp[n2];(with_reducible repeat' first|refine aI ?_|simp[fK,xX,uq]);refine cF.whl (out++[(s.take s.length).drop i],s.length) (by simp;omega) di (by simp[kX,dz];exact⟨by simp[fresh,kinL,kin,b1,aG,Pv.look,dc,dD],eR (by simp[fresh,kinL,kin,b1,aG,Pv.look,dc,dD]),eS (by simp[fresh,kinL,kin,ef,aG,Pv.look,dc,dD]),Ψ⟩)
 ·obtain⟨d,aF,hdi⟩:=hy iD;have nq:bm ((k:Int)+1):=by unfold bm;omega
  have vX:=wW d;cases hw:h4 d
  ·have Da:lX d=true:=by simpa[h4]using hw
   rw[Da]at vX;have di:=hF fun c h=>by rw[aF]at h;cases h;exact hw
   clear hF iX;simp[n2,iD,hdi,aF];(with_reducible repeat' first|refine aI ?_|refine bn vX ?_|refine bo vX ?_|simp[iD,hdi,aF,fK,xX,uq]);refine cF.whl (out++[(s.take k).drop i],k) (by simp;omega) di (by simp[kX,dz];exact⟨by simp[fresh,kinL,kin,b1,aG,Pv.look,dc,dD],eR (by simp[fresh,kinL,kin,b1,aG,Pv.look,dc,dD]),eS (by simp[fresh,kinL,kin,ef,aG,Pv.look,dc,dD]),Ψ⟩)
  ·have Da:lX d=false:=by simpa[h4]using hw
   rw[Da]at vX;have qd:∀c∈(s.drop (i+1)).take (k+1-(i+1)),h4 c=true:=fun x ad=>by
    rw[show k+1-(i+1)=(k-(i+1))+1 by omega,lq,List.getElem?_drop,show i+1+(k-(i+1))=k by omega,aF]at ad;rcases ha.1 ad with ad|ad
    ·exact iX x ad
    ·simp at ad;subst ad;exact hw
   clear hF iX;simp[n2,iD,hdi,aF];(with_reducible repeat' first|refine aI ?_|refine bn vX ?_|refine bo vX ?_|simp[iD,hdi,aF,nq]);refine cF.whl (k+1) Ω ⟨Ω,iD,qd⟩ (by simp[n2];exact⟨by simp[fresh,kinL,kin,b1,aG,Pv.look,dc,dD],eR (by simp[fresh,kinL,kin,b1,aG,Pv.look,dc,dD]),eS (by simp[fresh,kinL,kin,ef,aG,Pv.look,dc,dD]),Ψ⟩)
def yA(o:aV Int):ab:= .tuple [.int .i64 (o.getD 0),.bool o.isSome]
def iV(l:List aC):Int:=l.foldl (fun a c=>a*10+((c.toNat:Int)-48)) 0
def qR(l:List aC):Prop:= ∀c∈l,48<=c.toNat/\c.toNat<=57
theorem vk(l:List aC)(c:aC):iV (l++[c])=iV l*10+((c.toNat:Int)-48):=by simp[iV]
theorem oX(u:Nat):iV (Lib.decDigits u)=u:=by
 induction u using Nat.strongRecOn with
 |_ u a8=>
  by_cases hu:u<10
  ·rw[pZ hu];simp only[iV,List.foldl_cons,List.foldl_nil,xv hu];omega
  ·rw[sb Ω,vk,a8 _ Ω,xv (Nat.mod_lt _ Ω)];omega
theorem oV(u:Nat):qR (Lib.decDigits u):=Cz u
theorem xw{l:List aC}(h:qR l):∀k,0<=iV (l.take k)/\iV (l.take k)<=iV (l.take (k+1)):=by
 intro k;induction k with
 |zero=>
  cases l with
  |nil=>simp[iV]
  |cons c r=>have:=h c Ψ;simp[iV];omega
 |succ k a8=>
  rcases Nat.lt_or_ge (k+1) l.length with J|J
  ·obtain⟨c,az⟩:∃c,l[k+1]? =some c:=⟨_,eh J⟩;have aF:=h c (gB az);have e:l.take (k+1+1)=l.take (k+1)++[c]:=by rw[lq,az];rfl
   rw[e,vk];omega
  ·rw[List.take_of_length_le (by omega:l.length<=k+1+1),List.take_of_length_le J]at*;omega
theorem zD{l:List aC}(h:qR l){k m:Nat}(mE:k<=m):iV (l.take k)<=iV (l.take m):=by
 induction m with
 |zero=>rw[show k=0 by omega];exact Int.le_refl _
 |succ m a8=>
  rcases jB mE with rfl|bU
  ·exact Int.le_refl _
  ·have:=a8 Ω;have:=(xw h m).2;omega
def tf(s:List aC):Bool:=match s with|c::_=>c==45|[]=>false
def wc(s:List aC):List aC:=if tf s then s.drop 1 else s
theorem oE{s:List aC}{n:Int}(h:Lib.itoa n=s):wc s=Lib.decDigits n.natAbs/\(tf s=true↔n<0):=by
 subst h;unfold Lib.itoa;by_cases aR:n<0
 ·rw[if_pos aR];have:tf (45::Lib.decDigits n.natAbs)=true:=rfl;simp[wc,this,aR]
 ·rw[be aR,show n.natAbs=n.toNat by omega];have:tf (Lib.decDigits n.toNat)=false:=by
   cases aF:Lib.decDigits n.toNat with
   |nil=>rfl
   |cons c r=>have:=Cz n.toNat c (by rw[aF];simp);simp only[tf,beq_eq_false_iff_ne];rintro rfl;revert this;decide
  simp[wc,this,aR]
theorem oU{u:Nat}(h:u<=9223372036854775808):(Lib.decDigits u).length<=19:=by have:=HP 19 u Ω;omega
def kW(s t:List aC)(neg:Bool)(k:Nat)(acc:Int):aN:=⟨[(0,.str s),(4,.bool neg),(5,.str t),(6,.int .i64 acc),(7,.int .i64 k)],[],[],0,[]⟩
theorem MB(s:List aC):b5 aS 221 [.str s] (yA (gQ s)):=by
 generalize bF:yA (gQ s)=R;have sA:kin (fun _=>cw) R:=by rw[<-bF];simp[yA,kin,kinL]
 cases k8:tf s
 ·have oo:wc s=s:=by unfold wc;rw[k8];rfl
  have Jf:(s=[]->cw)->∃c r,s=c::r/\((c.toNat:Int)==45)=false:=by
   cases s with
   |nil=>intro h;exact absurd rfl h
   |cons c r=>exact fun _=>⟨c,r,rfl,mW (d:=45) (by simpa[tf]using k8)⟩
  by_cases q5:s.length<1
  ·have ao:s=[]:=List.length_eq_zero_iff.1 Ω;have aY:gQ s=none:=pG fun m hm hit=>by
    obtain⟨ah,aE⟩:=oE hit;have jP:¬m<0:=fun h=>by rw[aE.2 h]at k8;cases k8
    rw[oo]at ah;have fc:=hm;unfold bm at fc;have fD:=oV m.natAbs;have jl:=oX m.natAbs;have ji:=oU (u:=m.natAbs) Ω;have b7:=ng m.natAbs;rw[<-ah]at fD jl ji b7;exact b7 ao
   have:R= .tuple [.int .i64 0,.bool false]:=by rw[<-bF,aY];rfl
   subst this;subst ao;clear bF;refine bT fv vt wm (fun aQ=>?_);unfold tF;clear aQ;exact cH
  have fN:0<s.length:=Ω
  have qf:(0:Int)<s.length:=Ω
  have Dw:¬(s.length:Int)<1:=Ω
  obtain⟨c0,Bo,Jc,QT⟩:=Jf (fun h=>by rw[h]at fN;simp at fN);have qZ:s[0]? =some c0:=by rw[Jc];rfl
  have Q4:∀h,(s[0]'h)=c0:=fun h=>by rw[eh fN]at qZ;exact iN qZ
  clear Jf Jc;by_cases hG:19<s.length
  ·have aY:gQ s=none:=pG fun m hm hit=>by
    obtain⟨ah,aE⟩:=oE hit;have jP:¬m<0:=fun h=>by rw[aE.2 h]at k8;cases k8
    rw[oo]at ah;have fc:=hm;unfold bm at fc;have fD:=oV m.natAbs;have jl:=oX m.natAbs;have ji:=oU (u:=m.natAbs) Ω;have b7:=ng m.natAbs;rw[<-ah]at fD jl ji b7;omega
   have:R= .tuple [.int .i64 0,.bool false]:=by rw[<-bF,aY];rfl
   subst this;have xY:(19:Int)<s.length:=Ω
   clear bF aY;refine bT fv vt wm (fun aQ=>?_);unfold tF;clear aQ;exact cH
  have xY:¬(19:Int)<s.length:=Ω
  refine bT fv vt wm (fun aQ=>?_) (hr:=sA);unfold tF;clear aQ;simp;(with_reducible repeat' first|refine aI ?_|simp[fN,qf,qZ,Q4,QT,Dw,xY,hG]);refine iA (kW s s false) s.length (fun k acc=>acc= -iV (s.take k)/\qR (s.take k)/\ -9223372036854775808<=acc) 0 (by simp[kW];exact dp) ⟨by simp[iV],by simp[qR],Ω⟩ (fun acc av _=>?_) (fun k acc J av _=>?_)
  ·obtain⟨jN,gu,xV⟩:=av;rw[kQ]at jN gu;have q2:0<=iV s:=by have:=(xw gu 0).1;have:=zD gu (Nat.zero_le s.length);rw[kQ]at this;omega
   by_cases RS:acc= -9223372036854775808
   ·have aY:gQ s=none:=pG fun m hm hit=>by
     obtain⟨ah,aE⟩:=oE hit;have jP:¬m<0:=fun h=>by rw[aE.2 h]at k8;cases k8
     rw[oo]at ah;have fc:=hm;unfold bm at fc;have fD:=oV m.natAbs;have jl:=oX m.natAbs;have ji:=oU (u:=m.natAbs) Ω;have b7:=ng m.natAbs;rw[<-ah]at fD jl ji b7;omega
    have:R= .tuple [.int .i64 0,.bool false]:=by rw[<-bF,aY];rfl
    subst this;clear bF aY jN gu;simp[kW];exact cH
   ·have k0:bm (-acc):=by unfold bm;omega
    have Jn:(acc== -9223372036854775808)=false:=beq_eq_false_iff_ne.2 RS;have AD:jY.wrap (-acc)= -acc:=ll _ Ω;have rh:=MA (-acc) k0;by_cases he:Lib.itoa (-acc)=s
    ·have:R= .tuple [.int .i64 (-acc),.bool true]:=by rw[<-bF,Bj.2 ⟨k0,he⟩];rfl
     subst this;rw[he]at rh;clear bF jN gu;simp[kW];((with_reducible repeat' first|refine aI ?_|refine bn rh ?_|refine bo rh ?_|simp[Jn,AD,k0]|((first|apply dy|apply dC|apply dB)<;>intro h<;>try simp at h))<;>(try exact ep));simp[ca,Bu,ba,bc,a1]
    ·have aY:gQ s=none:=pG fun m hm hit=>by
      obtain⟨ah,aE⟩:=oE hit;have jP:¬m<0:=fun h=>by rw[aE.2 h]at k8;cases k8
      rw[oo]at ah;have fc:=hm;unfold bm at fc;have fD:=oV m.natAbs;have jl:=oX m.natAbs;have ji:=oU (u:=m.natAbs) Ω;have b7:=ng m.natAbs;rw[<-ah]at fD jl ji b7;exact he (by have:m= -acc:=Ω;rw[<-this];exact hit)
     have:R= .tuple [.int .i64 0,.bool false]:=by rw[<-bF,aY];rfl
     subst this;have xR:(Lib.itoa (-acc) !=s)=true:=by simpa using he
     clear bF aY jN gu;simp[kW];((with_reducible repeat' first|refine aI ?_|refine bn rh ?_|refine bo rh ?_|simp[Jn,AD,k0,xR]|((first|apply dy|apply dC|apply dB)<;>intro h<;>try simp at h))<;>(try exact ep));simp[ca,Bu,ba,bc,a1]
  ·obtain⟨jN,gu,xV⟩:=av;obtain⟨c,az,eG⟩:=hy J;have sC:=c.toNat_lt;have hw:jY.wrap (c.toNat:Int)=c.toNat:=ll _ Ω;have Dh:bm ((c.toNat:Int)-48):=by unfold bm;omega
   have nq:bm ((k:Int)+1):=by unfold bm;omega
   have ec:=dK ((c.toNat:Int)-48) 0 9;have e:s.take (k+1)=s.take k++[c]:=by rw[lq,az];rfl
   by_cases xQ:48<=c.toNat/\c.toNat<=57
   ·have q2:=(xw gu k).1;rw[List.take_take,Nat.min_self]at q2;have pf:bm (-9223372036854775808+((c.toNat:Int)-48)):=by unfold bm;omega
    have bj:(-9223372036854775808+((c.toNat:Int)-48)).tdiv 10= -((9223372036854775808-((c.toNat:Int)-48))/10):=by rw[show(-9223372036854775808+((c.toNat:Int)-48))= -(9223372036854775808-((c.toNat:Int)-48)) by omega,Int.neg_tdiv,Int.tdiv_eq_ediv_of_nonneg Ω]
    rw[decide_eq_true Ω]at ec;have DH:jY.wrap ((-9223372036854775808+((c.toNat:Int)-48)).tdiv 10)= -((9223372036854775808-((c.toNat:Int)-48))/10):=by rw[bj];exact ll _ Ω
    by_cases j8:acc< -((9223372036854775808-((c.toNat:Int)-48))/10)
    ·have Db:9223372036854775808<iV (s.take (k+1)):=by rw[e,vk];omega
     have aY:gQ s=none:=pG fun m hm hit=>by
      obtain⟨ah,aE⟩:=oE hit;have jP:¬m<0:=fun h=>by rw[aE.2 h]at k8;cases k8
      rw[oo]at ah;have fc:=hm;unfold bm at fc;have fD:=oV m.natAbs;have jl:=oX m.natAbs;have ji:=oU (u:=m.natAbs) Ω;have b7:=ng m.natAbs;rw[<-ah]at fD jl ji b7;have:=zD fD (show k+1<=s.length by omega);rw[kQ]at this;omega
     have:R= .tuple [.int .i64 0,.bool false]:=by rw[<-bF,aY];rfl
     subst this;clear bF aY jN gu Db bj;simp[kW,J,eG,az];exact cH
    ·have I:bm (acc*10):=by unfold bm;omega
     have aa:bm (acc*10-((c.toNat:Int)-48)):=by unfold bm;omega
     have kt:acc*10-((c.toNat:Int)-48)= -iV (s.take (k+1))/\qR (s.take (k+1))/\ -9223372036854775808<=acc*10-((c.toNat:Int)-48):=by
      refine⟨by rw[e,vk];omega,fun x ad=>?_,Ω⟩;rw[e]at ad;rcases ha.1 ad with ad|ad
      ·exact gu x ad
      ·simp at ad;subst ad;exact xQ
     clear bF jN gu bj;simp[kW,J,eG,az];(with_reducible repeat' first|refine aI ?_|refine bn ec ?_|refine bo ec ?_|simp[J,eG,az,hw,Dh,pf,DH,j8,I,aa,nq]);refine cF.rng (acc*10-((c.toNat:Int)-48)) J kt (by simp[kW];exact dp)
   ·rw[decide_eq_false Ω]at ec;have aY:gQ s=none:=pG fun m hm hit=>by
     obtain⟨ah,aE⟩:=oE hit;have jP:¬m<0:=fun h=>by rw[aE.2 h]at k8;cases k8
     rw[oo]at ah;have fc:=hm;unfold bm at fc;have fD:=oV m.natAbs;have jl:=oX m.natAbs;have ji:=oU (u:=m.natAbs) Ω;have b7:=ng m.natAbs;rw[<-ah]at fD jl ji b7;exact xQ (fD c (gB az))
    have:R= .tuple [.int .i64 0,.bool false]:=by rw[<-bF,aY];rfl
    subst this;clear bF aY jN gu;simp[kW,J,eG,az];exact cH
 ·obtain⟨t,rfl⟩:∃t',s=45::t':=by
   cases s with
   |nil=>cases k8
   |cons c r=>exact⟨r,by simp[tf]at k8;rw[k8]⟩
  have oo:wc (45::t)=t:=rfl;by_cases q5:t.length<1
  ·have au:t=[]:=List.length_eq_zero_iff.1 Ω;have aY:gQ (45::t)=none:=pG fun m hm hit=>by obtain⟨ah,aE⟩:=oE hit;have jP:m<0:=aE.1 rfl;rw[oo]at ah;have fc:=hm;unfold bm at fc;have fD:=oV m.natAbs;have jl:=oX m.natAbs;have ji:=oU (u:=m.natAbs) Ω;have b7:=ng m.natAbs;rw[<-ah]at fD jl ji b7;exact b7 au
   have:R= .tuple [.int .i64 0,.bool false]:=by rw[<-bF,aY];rfl
   subst this;subst au;clear bF;refine bT fv vt wm (fun aQ=>?_);unfold tF;clear aQ;exact cH
  have Dw:¬(t.length:Int)<1:=Ω
  have RF:¬t=[]:=fun h=>by rw[h]at q5;simp at q5
  have Jw:(0:Int)<(t.length:Int)+1:=Ω
  have Jx:(1:Int)<=(t.length:Int)+1:=Ω
  by_cases hG:19<t.length
  ·have aY:gQ (45::t)=none:=pG fun m hm hit=>by obtain⟨ah,aE⟩:=oE hit;have jP:m<0:=aE.1 rfl;rw[oo]at ah;have fc:=hm;unfold bm at fc;have fD:=oV m.natAbs;have jl:=oX m.natAbs;have ji:=oU (u:=m.natAbs) Ω;have b7:=ng m.natAbs;rw[<-ah]at fD jl ji b7;omega
   have:R= .tuple [.int .i64 0,.bool false]:=by rw[<-bF,aY];rfl
   subst this;have xY:(19:Int)<t.length:=Ω
   clear bF aY;refine bT fv vt wm (fun aQ=>?_);unfold tF;clear aQ;exact cH
  have xY:¬(19:Int)<t.length:=Ω
  refine bT fv vt wm (fun aQ=>?_) (hr:=sA);unfold tF;clear aQ;simp;(with_reducible repeat' first|refine aI ?_|simp[Jw,Jx,Dw,RF,xY,hG]);refine iA (kW (45::t) t true) t.length (fun k acc=>acc= -iV (t.take k)/\qR (t.take k)/\ -9223372036854775808<=acc) 0 (by simp[kW];exact dp) ⟨by simp[iV],by simp[qR],Ω⟩ (fun acc av _=>?_) (fun k acc J av _=>?_)
  ·obtain⟨jN,gu,xV⟩:=av;rw[kQ]at jN gu;have q2:0<=iV t:=by have:=(xw gu 0).1;have:=zD gu (Nat.zero_le t.length);rw[kQ]at this;omega
   have k0:bm acc:=by unfold bm;omega
   have rh:=MA (acc) k0;by_cases he:Lib.itoa (acc)=(45::t)
   ·have:R= .tuple [.int .i64 (acc),.bool true]:=by rw[<-bF,Bj.2 ⟨k0,he⟩];rfl
    subst this;rw[he]at rh;clear bF jN gu;simp[kW];exact cH
   ·have aY:gQ (45::t)=none:=pG fun m hm hit=>by obtain⟨ah,aE⟩:=oE hit;have jP:m<0:=aE.1 rfl;rw[oo]at ah;have fc:=hm;unfold bm at fc;have fD:=oV m.natAbs;have jl:=oX m.natAbs;have ji:=oU (u:=m.natAbs) Ω;have b7:=ng m.natAbs;rw[<-ah]at fD jl ji b7;exact he (by have:m=acc:=Ω;rw[<-this];exact hit)
    have:R= .tuple [.int .i64 0,.bool false]:=by rw[<-bF,aY];rfl
    subst this;have xR:(Lib.itoa (acc) !=(45::t))=true:=by simpa using he
    clear bF aY jN gu;simp[kW];((with_reducible repeat' first|refine aI ?_|refine bn rh ?_|refine bo rh ?_|simp[k0,xR]|((first|apply dy|apply dC|apply dB)<;>intro h<;>try simp at h))<;>(try exact ep));simp[ca,Bu,ba,bc,a1]
  ·obtain⟨jN,gu,xV⟩:=av;obtain⟨c,az,eG⟩:=hy J;have sC:=c.toNat_lt;have hw:jY.wrap (c.toNat:Int)=c.toNat:=ll _ Ω;have Dh:bm ((c.toNat:Int)-48):=by unfold bm;omega
   have nq:bm ((k:Int)+1):=by unfold bm;omega
   have ec:=dK ((c.toNat:Int)-48) 0 9;have e:t.take (k+1)=t.take k++[c]:=by rw[lq,az];rfl
   by_cases xQ:48<=c.toNat/\c.toNat<=57
   ·have q2:=(xw gu k).1;rw[List.take_take,Nat.min_self]at q2;have pf:bm (-9223372036854775808+((c.toNat:Int)-48)):=by unfold bm;omega
    have bj:(-9223372036854775808+((c.toNat:Int)-48)).tdiv 10= -((9223372036854775808-((c.toNat:Int)-48))/10):=by rw[show(-9223372036854775808+((c.toNat:Int)-48))= -(9223372036854775808-((c.toNat:Int)-48)) by omega,Int.neg_tdiv,Int.tdiv_eq_ediv_of_nonneg Ω]
    rw[decide_eq_true Ω]at ec;have DH:jY.wrap ((-9223372036854775808+((c.toNat:Int)-48)).tdiv 10)= -((9223372036854775808-((c.toNat:Int)-48))/10):=by rw[bj];exact ll _ Ω
    by_cases j8:acc< -((9223372036854775808-((c.toNat:Int)-48))/10)
    ·have Db:9223372036854775808<iV (t.take (k+1)):=by rw[e,vk];omega
     have aY:gQ (45::t)=none:=pG fun m hm hit=>by obtain⟨ah,aE⟩:=oE hit;have jP:m<0:=aE.1 rfl;rw[oo]at ah;have fc:=hm;unfold bm at fc;have fD:=oV m.natAbs;have jl:=oX m.natAbs;have ji:=oU (u:=m.natAbs) Ω;have b7:=ng m.natAbs;rw[<-ah]at fD jl ji b7;have:=zD fD (show k+1<=t.length by omega);rw[kQ]at this;omega
     have:R= .tuple [.int .i64 0,.bool false]:=by rw[<-bF,aY];rfl
     subst this;clear bF aY jN gu Db bj;simp[kW,J,eG,az];exact cH
    ·have I:bm (acc*10):=by unfold bm;omega
     have aa:bm (acc*10-((c.toNat:Int)-48)):=by unfold bm;omega
     have kt:acc*10-((c.toNat:Int)-48)= -iV (t.take (k+1))/\qR (t.take (k+1))/\ -9223372036854775808<=acc*10-((c.toNat:Int)-48):=by
      refine⟨by rw[e,vk];omega,fun x ad=>?_,Ω⟩;rw[e]at ad;rcases ha.1 ad with ad|ad
      ·exact gu x ad
      ·simp at ad;subst ad;exact xQ
     clear bF jN gu bj;simp[kW,J,eG,az];(with_reducible repeat' first|refine aI ?_|refine bn ec ?_|refine bo ec ?_|simp[J,eG,az,hw,Dh,pf,DH,j8,I,aa,nq]);refine cF.rng (acc*10-((c.toNat:Int)-48)) J kt (by simp[kW];exact dp)
   ·rw[decide_eq_false Ω]at ec;have aY:gQ (45::t)=none:=pG fun m hm hit=>by obtain⟨ah,aE⟩:=oE hit;have jP:m<0:=aE.1 rfl;rw[oo]at ah;have fc:=hm;unfold bm at fc;have fD:=oV m.natAbs;have jl:=oX m.natAbs;have ji:=oU (u:=m.natAbs) Ω;have b7:=ng m.natAbs;rw[<-ah]at fD jl ji b7;exact xQ (fD c (gB az))
    have:R= .tuple [.int .i64 0,.bool false]:=by rw[<-bF,aY];rfl
    subst this;clear bF aY jN gu;simp[kW,J,eG,az];exact cH
def rI:List aU->Bool
 |[a,b]=>eW a&&eW b
 |_=>false
theorem Vo(k n:Int)(s:List aC)(args:List aU):eW ⟨k,n,s,args⟩=if k≠1/\k≠3/\n≠0 then false else if k≠2/\s≠[]then false else if k≠4/\args≠[]then false else if k=0 then true else if k=1 then decide (0<=n/\n<=100000)else if k=2 then gU s else if k=3 then decide (-1000000000<=n/\n<=1000000000)else if k=4 then rI args else false:=by
 by_cases et:k=0
 ·subst et;match args with
  |[]=>by_cases aR:n=0<;>by_cases ao:s=[]<;>simp[eW,jw,aR,ao]
  |[a]=>simp[eW]
  |[a,b]=>simp[eW]
  |_::_::_::_=>simp[eW]
 by_cases cu:k=1
 ·subst cu;match args with
  |[]=>by_cases ao:s=[]<;>simp[eW,jw,ao]
  |[a]=>simp[eW]
  |[a,b]=>simp[eW]
  |_::_::_::_=>simp[eW]
 by_cases cI:k=2
 ·subst cI;match args with
  |[]=>by_cases aR:n=0<;>simp[eW,jw,aR]
  |[a]=>simp[eW]
  |[a,b]=>simp[eW]
  |_::_::_::_=>simp[eW]
 by_cases gI:k=3
 ·subst gI;match args with
  |[]=>by_cases ao:s=[]<;>simp[eW,jw,ao]
  |[a]=>simp[eW]
  |[a,b]=>simp[eW]
  |_::_::_::_=>simp[eW]
 by_cases ju:k=4
 ·subst ju;match args with
  |[]=>simp[eW,jw,rI]
  |[a]=>simp[eW,rI]
  |[a,b]=>by_cases aR:n=0<;>by_cases ao:s=[]<;>simp[eW,rI,aR,ao]
  |_::_::_::_=>simp[eW,rI]
 ·match args with
  |[]=>simp[eW,jw,et,cu,cI,gI,ju]
  |[a]=>simp[eW,et,cu,cI,gI,ju]
  |[a,b]=>simp[eW,et,cu,cI,gI,ju]
  |_::_::_::_=>simp[eW,et,cu,cI,gI,ju]
set_option maxRecDepth 8000 in
theorem FZ(m:Nat):∀(t:aU),t.sz<=m->b5 aS 270 [enc t] (.bool (eW t)):=by
 induction m with
 |zero=>intro t au;cases t;simp[aU.sz]at au
 |succ m a8=>
 rintro⟨k,n,s,args⟩ au;generalize bF:eW ⟨k,n,s,args⟩=R;have di:=Vo k n s args;rw[bF]at di;by_cases bS:k≠1/\k≠3/\n≠0
 ·rw[if_pos bS]at di;obtain⟨cu,gI,n0⟩:=bS;have vV:(k !=1)=true:=by simp[cu]
  have vW:(k !=3)=true:=by simp[gI]
  have EC:(n !=0)=true:=by simp[n0]
  subst di;refine bT hM kr kJ fun aQ=>?_;unfold j1;simp[aU.kind,aU.num,aU.name,aU.args];(with_reducible repeat' first|refine aI ?_|refine bn (dK _ _ _) ?_|refine bo (dK _ _ _) ?_|refine bn (fX _) ?_|refine bo (fX _) ?_|simp[vV,vW,EC]);all_goals simp[ca,jU,ba,bc,a1]
 rw[be bS]at di;have xg:(if k !=1 then k !=3 else false)=true->(n !=0)=false:=by intro h;simp at h⊢;exact Classical.byContradiction fun aR=>bS ⟨h.1,h.2,aR⟩
 by_cases bY:k≠2/\s≠[]
 ·rw[if_pos bY]at di;have AL:(k !=2)=true:=by simp[bY.1]
  have Fq:s.isEmpty=false:=by simp[bY.2]
  by_cases cu:k=1
  ·subst cu;subst di;refine bT hM kr kJ fun aQ=>?_;unfold j1;simp[aU.kind,aU.num,aU.name,aU.args];(with_reducible repeat' first|refine aI ?_|refine bn (dK _ _ _) ?_|refine bo (dK _ _ _) ?_|refine bn (fX _) ?_|refine bo (fX _) ?_|simp[Fq]);all_goals simp[ca,jU,ba,bc,a1]
  by_cases gI:k=3
  ·subst gI;subst di;refine bT hM kr kJ fun aQ=>?_;unfold j1;simp[aU.kind,aU.num,aU.name,aU.args];(with_reducible repeat' first|refine aI ?_|refine bn (dK _ _ _) ?_|refine bo (dK _ _ _) ?_|refine bn (fX _) ?_|refine bo (fX _) ?_|simp[Fq]);all_goals simp[ca,jU,ba,bc,a1]
  have vV:(k !=1)=true:=by simp[cu]
  have vW:(k !=3)=true:=by simp[gI]
  have EC:(n !=0)=false:=xg (by simp[cu,gI]);subst di;refine bT hM kr kJ fun aQ=>?_;unfold j1;simp[aU.kind,aU.num,aU.name,aU.args];(with_reducible repeat' first|refine aI ?_|refine bn (dK _ _ _) ?_|refine bo (dK _ _ _) ?_|refine bn (fX _) ?_|refine bo (fX _) ?_|simp[vV,vW,EC,AL,Fq]);all_goals simp[ca,jU,ba,bc,a1]
 rw[be bY]at di;by_cases et:k=0
 ·subst et;have n0:n=0:=by simpa using xg (by decide)
  have rH:s=[]:=Classical.byContradiction fun h=>bY ⟨Ω,h⟩;subst n0 rH;by_cases a0:args=[];rotate_left
  ·rw[if_pos ⟨Ω,a0⟩]at di;have qM:(0:Int)<args.length:=by have:=nT.2 a0;omega
   subst di;refine bT hM kr kJ fun aQ=>?_;unfold j1;simp[aU.kind,aU.num,aU.name,aU.args];((with_reducible repeat' first|refine aI ?_|refine bn (dK _ _ _) ?_|refine bo (dK _ _ _) ?_|refine bn (fX _) ?_|refine bo (fX _) ?_|simp[Int.natCast_nonneg,qM]|((first|apply dy|apply dC|apply dB)<;>intro h<;>try simp at h))<;>(try exact ep));all_goals simp[ca,jU,ba,bc,a1]
  rw[be (by simp[a0])]at di;subst a0;simp at di;subst di;refine bT hM kr kJ fun aQ=>?_;unfold j1;simp[aU.kind,aU.num,aU.name,aU.args];(with_reducible repeat' first|refine aI ?_|refine bn (dK _ _ _) ?_|refine bo (dK _ _ _) ?_|refine bn (fX _) ?_|refine bo (fX _) ?_|simp[Int.natCast_nonneg]);all_goals simp[ca,jU,ba,bc,a1]
 by_cases cu:k=1
 ·subst cu;have rH:s=[]:=Classical.byContradiction fun h=>bY ⟨Ω,h⟩;subst rH;by_cases a0:args=[];rotate_left
  ·rw[if_pos ⟨Ω,a0⟩]at di;have qM:(0:Int)<args.length:=by have:=nT.2 a0;omega
   subst di;refine bT hM kr kJ fun aQ=>?_;unfold j1;simp[aU.kind,aU.num,aU.name,aU.args];((with_reducible repeat' first|refine aI ?_|refine bn (dK _ _ _) ?_|refine bo (dK _ _ _) ?_|refine bn (fX _) ?_|refine bo (fX _) ?_|simp[Int.natCast_nonneg,qM]|((first|apply dy|apply dC|apply dB)<;>intro h<;>try simp at h))<;>(try exact ep));all_goals simp[ca,jU,ba,bc,a1]
  rw[be (by simp[a0])]at di;subst a0;simp at di;subst di;refine bT hM kr kJ fun aQ=>?_;unfold j1;simp[aU.kind,aU.num,aU.name,aU.args];(with_reducible repeat' first|refine aI ?_|refine bn (dK _ _ _) ?_|refine bo (dK _ _ _) ?_|refine bn (fX _) ?_|refine bo (fX _) ?_|simp[Int.natCast_nonneg]);all_goals simp[ca,jU,ba,bc,a1]
 by_cases cI:k=2
 ·subst cI;have n0:n=0:=by simpa using xg (by decide)
  subst n0;by_cases a0:args=[];rotate_left
  ·rw[if_pos ⟨Ω,a0⟩]at di;have qM:(0:Int)<args.length:=by have:=nT.2 a0;omega
   subst di;refine bT hM kr kJ fun aQ=>?_;unfold j1;simp[aU.kind,aU.num,aU.name,aU.args];((with_reducible repeat' first|refine aI ?_|refine bn (dK _ _ _) ?_|refine bo (dK _ _ _) ?_|refine bn (fX _) ?_|refine bo (fX _) ?_|simp[Int.natCast_nonneg,qM]|((first|apply dy|apply dC|apply dB)<;>intro h<;>try simp at h))<;>(try exact ep));all_goals simp[ca,jU,ba,bc,a1]
  rw[be (by simp[a0])]at di;subst a0;simp at di;subst di;refine bT hM kr kJ fun aQ=>?_;unfold j1;simp[aU.kind,aU.num,aU.name,aU.args];(with_reducible repeat' first|refine aI ?_|refine bn (dK _ _ _) ?_|refine bo (dK _ _ _) ?_|refine bn (fX _) ?_|refine bo (fX _) ?_|simp[Int.natCast_nonneg]);all_goals simp[ca,jU,ba,bc,a1]
 by_cases gI:k=3
 ·subst gI;have rH:s=[]:=Classical.byContradiction fun h=>bY ⟨Ω,h⟩;subst rH;by_cases a0:args=[];rotate_left
  ·rw[if_pos ⟨Ω,a0⟩]at di;have qM:(0:Int)<args.length:=by have:=nT.2 a0;omega
   subst di;refine bT hM kr kJ fun aQ=>?_;unfold j1;simp[aU.kind,aU.num,aU.name,aU.args];((with_reducible repeat' first|refine aI ?_|refine bn (dK _ _ _) ?_|refine bo (dK _ _ _) ?_|refine bn (fX _) ?_|refine bo (fX _) ?_|simp[Int.natCast_nonneg,qM]|((first|apply dy|apply dC|apply dB)<;>intro h<;>try simp at h))<;>(try exact ep));all_goals simp[ca,jU,ba,bc,a1]
  rw[be (by simp[a0])]at di;subst a0;simp at di;subst di;refine bT hM kr kJ fun aQ=>?_;unfold j1;simp[aU.kind,aU.num,aU.name,aU.args];(with_reducible repeat' first|refine aI ?_|refine bn (dK _ _ _) ?_|refine bo (dK _ _ _) ?_|refine bn (fX _) ?_|refine bo (fX _) ?_|simp[Int.natCast_nonneg]);all_goals simp[ca,jU,ba,bc,a1]
 by_cases ju:k=4
 ·subst ju;have n0:n=0:=by simpa using xg (by decide)
  have rH:s=[]:=Classical.byContradiction fun h=>bY ⟨Ω,h⟩;subst n0 rH;simp at di;match args,di with
  |[a,b],di=>
   simp[aU.sz,aU.szL]at au;have bL:=a8 a Ω;have af:=a8 b Ω;simp only[rI]at di;subst di;refine bT hM kr kJ fun aQ=>?_;unfold j1;simp[aU.kind,aU.num,aU.name,aU.args];cases q:eW a with
   |true=>rw[q]at bL;(with_reducible repeat' first|refine aI ?_|refine bn bL ?_|refine bo bL ?_|refine bn af ?_|refine bo af ?_|simp[Int.natCast_nonneg]);all_goals simp[ca,jU,ba,bc,a1]
   |false=>rw[q]at bL;(with_reducible repeat' first|refine aI ?_|refine bn bL ?_|refine bo bL ?_|refine bn af ?_|refine bo af ?_|simp[Int.natCast_nonneg]);all_goals simp[ca,jU,ba,bc,a1]
  |[],di=>simp only[rI]at di;subst di;refine bT hM kr kJ fun aQ=>?_;unfold j1;simp[aU.kind,aU.num,aU.name,aU.args];(with_reducible repeat' first|refine aI ?_|refine bn (dK _ _ _) ?_|refine bo (dK _ _ _) ?_|refine bn (fX _) ?_|refine bo (fX _) ?_|simp[Int.natCast_nonneg]);all_goals simp[ca,jU,ba,bc,a1]
  |[_],di=>simp only[rI]at di;subst di;refine bT hM kr kJ fun aQ=>?_;unfold j1;simp[aU.kind,aU.num,aU.name,aU.args];(with_reducible repeat' first|refine aI ?_|refine bn (dK _ _ _) ?_|refine bo (dK _ _ _) ?_|refine bn (fX _) ?_|refine bo (fX _) ?_|simp[Int.natCast_nonneg]);all_goals simp[ca,jU,ba,bc,a1]
  |_::_::_::l,di=>
   simp only[rI]at di;have aA:((l.length:Int)+1+1+1==2)=false:=by simp;omega
   subst di;refine bT hM kr kJ fun aQ=>?_;unfold j1;simp[aU.kind,aU.num,aU.name,aU.args];(with_reducible repeat' first|refine aI ?_|refine bn (dK _ _ _) ?_|refine bo (dK _ _ _) ?_|refine bn (fX _) ?_|refine bo (fX _) ?_|simp[aA]);all_goals simp[ca,jU,ba,bc,a1]
 have n0:(n !=0)=false:=xg (by simp[cu,gI]);have rH:s=[]:=Classical.byContradiction fun h=>bY ⟨cI,h⟩;subst rH;have J3:(k==0)=false:=by simp[et]
 have vV:(k==1)=false:=by simp[cu]
 have AL:(k==2)=false:=by simp[cI]
 have vW:(k==3)=false:=by simp[gI]
 have J7:(k==4)=false:=by simp[ju]
 have J4:(k !=1)=true:=by simp[cu]
 have J5:(k !=2)=true:=by simp[cI]
 have J6:(k !=3)=true:=by simp[gI]
 have J8:(k !=4)=true:=by simp[ju]
 by_cases a0:args=[]
 ·subst a0;simp[et,cu,cI,gI,ju]at di;subst di;refine bT hM kr kJ fun aQ=>?_;unfold j1;simp[aU.kind,aU.num,aU.name,aU.args];(with_reducible repeat' first|refine aI ?_|refine bn (dK _ _ _) ?_|refine bo (dK _ _ _) ?_|refine bn (fX _) ?_|refine bo (fX _) ?_|simp[J3,vV,AL,vW,J7,J4,J5,J6,J8,n0]);all_goals simp[ca,jU,ba,bc,a1]
 ·rw[if_pos ⟨ju,a0⟩]at di;have qM:(0:Int)<args.length:=by have:=nT.2 a0;omega
  subst di;refine bT hM kr kJ fun aQ=>?_;unfold j1;simp[aU.kind,aU.num,aU.name,aU.args];((with_reducible repeat' first|refine aI ?_|refine bn (dK _ _ _) ?_|refine bo (dK _ _ _) ?_|refine bn (fX _) ?_|refine bo (fX _) ?_|simp[qM,J3,vV,AL,vW,J7,J4,J5,J6,J8,n0]|((first|apply dy|apply dC|apply dB)<;>intro h<;>try simp at h))<;>(try exact ep));all_goals simp[ca,jU,ba,bc,a1]
theorem Wj(t:aU):b5 aS 271 [enc t] (.bool t.fits):=by
 rw[Qb];have az:=V2 t 5000 Ω Ω;have ao:=FZ t.sz t (cE _);refine bT hM PW Ua fun aQ=>?_;unfold Hh;simp;by_cases q:j2 t 5000<=5000
 ·exact cH
 ·exact cH
def Ho:C:=(al [hv 2 dE] (al [ae 3 0,kO 4 dE [(0,1,(cQ 2)),(2,1,(.t 3))],bO 4 2 4] .ret))
@[simp] def Lp:List cr:=[.cell 2 true 4]
def Mo:List (Nat×cm):=[
 (3,⟨1,8,.int .i64,.int .i64 0⟩),
 (5,⟨1,1,.int .u8,.int .u8 0⟩),
 (9,⟨1,16,.str,.str []⟩),
 (35,⟨1,24,.slice 5,.slice 1 .nil []⟩),
 (38,⟨1,24,.slice 40,.slice 4 .nil []⟩),
 (40,⟨4,56,.struct [(0,3),(1,3),(2,9),(3,38)],.agg [.int .i64 0,.int .i64 0,.str [],.slice 4 .nil []]⟩),
 (70,⟨1,24,.slice 9,.slice 1 .nil []⟩),
 (208,⟨3,40,.struct [(0,35),(1,3),(2,3)],.agg [.slice 1 .nil [],.int .i64 0,.int .i64 0]⟩)]
theorem VM:dJ aS Mo=true:=by kernel_rfl
theorem Uh:c6 Mo Ho Lp 1 Tryz.f195=true:=by kernel_rfl
theorem P3:aS.funcs[(195:Nat)]? =some Tryz.f195:=Tryz.func195
end
section
open Go Go.Pv
def M6(k:IntKind)(a b:Int):Int:=k.wrap (BitVec.ofInt k.bits a&&& BitVec.ofInt k.bits b).toNat
def Wu(k:IntKind)(a b:Int):Int:=k.wrap (BitVec.ofInt k.bits a ^^^ BitVec.ofInt k.bits b).toNat
def Vq(k:IntKind)(a b:Int):Int:=a.fdiv (2 ^ (min b.toNat k.bits))
section
variable (a b:Int)
@[simp]theorem Xb:jD .add true (.int .i64 a) (.int .i64 b)=some (True,.int .i64 (jY.wrap (a+b))):=rfl
@[simp]theorem Xi:jD .mul true (.int .i64 a) (.int .i64 b)=some (True,.int .i64 (jY.wrap (a*b))):=rfl
@[simp]theorem Xk:jD .quo false (.int .i64 a) (.int .i64 b)=some (b≠0,.int .i64 (jY.wrap (a.tdiv b))):=rfl
@[simp]theorem Xl:jD .rem false (.int .i64 a) (.int .i64 b)=some (b≠0,.int .i64 (a.tmod b)):=rfl
@[simp]theorem Xd:jD .eql false (.int .i64 a) (.int .i64 b)=some (True,.bool (a==b)):=rfl
@[simp]theorem Xj:jD .neq false (.int .i64 a) (.int .i64 b)=some (True,.bool (a !=b)):=rfl
@[simp]theorem Xh:jD .lss false (.int .i64 a) (.int .i64 b)=some (True,.bool (decide (a<b))):=rfl
@[simp]theorem Xg:jD .leq false (.int .i64 a) (.int .i64 b)=some (True,.bool (decide (a<=b))):=rfl
@[simp]theorem Xf:jD .gtr false (.int .i64 a) (.int .i64 b)=some (True,.bool (decide (b<a))):=rfl
@[simp]theorem Xe:jD .geq false (.int .i64 a) (.int .i64 b)=some (True,.bool (decide (b<=a))):=rfl
@[simp]theorem Xc:jD .and false (.int .i64 a) (.int .i64 b)=some (True,.int .i64 (M6 .i64 a b)):=rfl
@[simp]theorem Xn:jD .xor false (.int .i64 a) (.int .i64 b)=some (True,.int .i64 (Wu .i64 a b)):=rfl
@[simp]theorem Xm(k:IntKind):jD .shr false (.int .i64 a) (.int k b)=some (0<=b,.int .i64 (Vq .i64 a b)):=rfl
end
end
section
open Go Go.Pv
theorem V5(s:List aC):b5 aS 195 [.str s] (T.sym s).e:=by refine bT VM P3 Uh fun aQ=>?_;unfold Ho;simp[-vU,-jD];simp[-vU,-jD,ca,Lp,ba,bc,a1]
def Ce(o:aV T):ab:= .tuple [(o.getD .nil).e,.bool o.isSome]
theorem Wm(n:Int):b5 aS 270 [(T.var n).e] (.bool (decide (0<=n/\n<=100000))):=by
 have h:=FZ 1 (aU.mk 1 n [] []) (by simp[aU.sz,aU.szL]);have e:eW (aU.mk 1 n [] [])=decide (0<=n/\n<=100000):=by have:=wP (.var n);simpa[T.tm,T.ok]using this
 rw[e]at h;exact h
theorem Wl(n:Int):b5 aS 270 [(T.num n).e] (.bool (T.ok (.num n))):=by have h:=FZ 1 (aU.mk 3 n [] []) (by simp[aU.sz,aU.szL]);have e:eW (aU.mk 3 n [] [])=T.ok (.num n):=wP (.num n);rw[e]at h;exact h
theorem Nd(r:List aC):gD (63::r)=match gQ r with|some n=>if 0<=n/\n<=100000 then some (.var n)else none|none=>none:=by
 unfold gD fR;simp only;cases gQ r with
 |none=>rfl
 |some n=>
  simp only;by_cases h:0<=n/\n<=100000
  ·rw[if_pos h];simp only;rw[if_pos (by simp[T.ok,h])]
  ·rw[be h]
theorem Nc{w:List aC}(h:∀r,w≠63::r):gD w=if gU w then some (.sym w)else match gQ w with|some n=>if T.ok (.num n)then some (.num n)else none|none=>none:=by
 unfold gD;have:fR w=if gU w then some (.sym w)else(gQ w).map .num:=by
  unfold fR;split
  ·rename_i r;exact absurd rfl (h r)
  ·rfl
 rw[this];by_cases aR:gU w=true
 ·rw[if_pos aR,if_pos aR];simp[T.ok,aR]
 ·rw[be aR,be aR];cases gQ w with
  |none=>rfl
  |some n=>rfl
theorem Ty{r:List aC}:gU (63::r)=false:=by
 cases h:gU (63::r)with
 |false=>rfl
 |true=>obtain⟨x,cv,e,I,_⟩:=KJ h;cases e;revert I;decide
theorem V7(w:List aC)(hw:w≠[]):b5 aS 251 [.str w] (Ce (gD w)):=by
 have jc:=fX w;have pt:=V5 w;unfold Ce;obtain⟨c,r,rfl⟩:∃c r,w=c::r:=by
  cases w with
  |nil=>exact absurd rfl hw
  |cons c r=>exact⟨c,r,rfl⟩
 have Jw:(0:Int)<(r.length:Int)+1:=Ω
 have Jx:(1:Int)<=(r.length:Int)+1:=Ω
 by_cases vD:c=63
 ·subst vD;rw[Ty]at jc;have fs:=MB r;rw[Nd];unfold yA at fs;cases aY:gQ r with
  |none=>rw[aY]at fs;simp only[Option.getD_none,qF]at fs⊢;clear pt;refine bT fv tQ uH fun aQ=>?_;unfold r7;clear aQ;exact cH
  |some n=>
   rw[aY]at fs;have jR:=Wm n;by_cases aR:0<=n/\n<=100000
   ·rw[decide_eq_true aR]at jR;simp only[if_pos aR,oP,Option.isSome_some]at fs⊢;clear pt aR;refine bT fv tQ uH fun aQ=>?_;unfold r7;clear aQ;exact cH
   ·rw[decide_eq_false aR]at jR;simp only[be aR,oP,Option.isSome_some,Option.getD_none,qF]at fs⊢;clear pt aR;refine bT fv tQ uH fun aQ=>?_;unfold r7;clear aQ;exact cH
 ·have af:((c.toNat:Int)==63)=false:=mW (d:=63) vD;rw[Nc fun cv e=>vD (by cases e;rfl)];cases fL:gU (c::r)
  ·rw[fL]at jc;have fs:=MB (c::r);unfold yA at fs;rw[be Ψ];cases aY:gQ (c::r)with
   |none=>rw[aY]at fs;simp only[Option.getD_none,qF]at fs⊢;clear pt;refine bT fv tQ uH fun aQ=>?_;unfold r7;clear aQ;exact cH
   |some n=>
    rw[aY]at fs;have jR:=Wl n;cases ag:T.ok (.num n)
    ·rw[ag]at jR;simp only[ag,ia,if_false,oP,Option.isSome_some,Option.getD_none,qF]at fs⊢;clear pt;refine bT fv tQ uH fun aQ=>?_;unfold r7;clear aQ;exact cH
    ·rw[ag]at jR;simp only[ag,if_true,oP,Option.isSome_some]at fs⊢;clear pt;refine bT fv tQ uH fun aQ=>?_;unfold r7;clear aQ;exact cH
  ·rw[fL]at jc;rw[if_pos rfl];simp only[oP,Option.isSome_some];refine bT fv tQ uH fun aQ=>?_;unfold r7;clear aQ;exact cH
def w9(l:List T)(j:Int)(t:T):aN:=⟨[(0,.slice 4 .no (l.map T.e)),(3,.ptr (.loc 0) 0),(4,.ptr (.loc 1) 0),(5,.int .i64 j)],[(.loc 0,cells t.e),(.loc 1,[.int .i64 0,.int .i64 0,.str [],.slice 4 .nil []])],[],2,[]⟩
theorem My(l:List T)(t:T):b5 aS 252 [.slice 4 .no (l.map T.e),t.e] (gv l t).e:=by
 refine bT fv P1 Uf fun aQ=>?_;unfold Hm;have af:l.length<=bX:=by simp[jf,jE,jg]at aQ;exact aQ.1
 have Ab:bm ((l.length:Int)-1):=by unfold bm;unfold bX at af;omega
 clear aQ;simp;(with_reducible repeat' first|refine aI ?_|simp[Ab]);refine jI (fun x:Int×T=>w9 l x.1 x.2) (fun x=>(x.1+1).toNat) (fun x=> -1<=x.1/\x.1<l.length/\gv (l.take (x.1+1).toNat) x.2=gv l t) ((l.length:Int)-1,t) (by simp[w9];exact dp) ⟨by simp;omega,by simp;omega,Ψ⟩ ?_;rintro⟨j,u⟩ ⟨Rz,jN,gu⟩ _;simp only at Rz jN gu;by_cases j7:0<=j
 ·obtain⟨n,rfl⟩:∃n:Nat,j=n:=⟨j.toNat,Ω⟩;have aR:n<l.length:=Ω
  obtain⟨x,ad,lE⟩:=hy aR;have nq:bm ((n:Int)-1):=by unfold bm;unfold bX at af;omega
  have fs:=V4 x u;have qd: -1<=(n:Int)-1/\(n:Int)-1<l.length/\gv (l.take ((n:Int)-1+1).toNat) (.pair x u)=gv l t:=by refine⟨Ω,Ω,?_⟩;rw[<-gu,show((n:Int)-1+1).toNat=n by omega,show((n:Int)+1).toNat=n+1 by omega,lq,ad,Ta];rfl
  clear gu;simp[w9];(with_reducible repeat' first|refine aI ?_|refine bn fs ?_|refine bo fs ?_|simp[aR,lE,ad,nq]);refine cF.whl ((n:Int)-1,.pair x u) (by simp<;>omega) qd (by simp[w9];exact dp)
 ·have:j= -1:=Ω
  subst this;have e:u=gv l t:=by simpa[gv]using gu
  subst e;clear gu;simp[w9];exact cH
theorem BG{l rest:List (List aC)}{j:Nat}(h:rest<:+l.drop j):rest=l.drop (l.length-rest.length)/\rest.length<=l.length-j:=by
 have I:rest<:+l:=h.trans (List.drop_suffix j l);have aa:l.drop (l.length-rest.length)=rest:=by obtain⟨p,rfl⟩:=I;simp
 exact⟨aa.symm,by have:=h.length_le;simpa using this⟩
def nG(l:List (List aC))(i:Nat):Int:=match l[i]? with
 |some w=>if w=[40]\/w=[41]\/w=[46]then 0 else i+1
 |none=>0
def iv(l:List (List aC))(k:Int)(o:aV (T×List (List aC))):ab:=match o with
 |some (t,r)=>.tuple [t.e,.int .i64 (l.length-r.length:Nat),.bool true]
 |none=>.tuple [T.nil.e,.int .i64 k,.bool false]
def n1(l:List (List aC))(x:List T×Nat×Nat):aN:=⟨[(0,.slice 1 .no (dz l)),(1,.int .i64 x.2.1),(4,.ptr (.loc 0) 0),(9,.slice 4 (.own (.loc 1)) (x.1.map T.e))],[(.loc 0,[.int .i64 0,.int .i64 0,.str [],.slice 4 .nil []])],[(.loc 1,⟨x.1.length,40,4,none⟩)],2,[]⟩
theorem wi{a b:List aC}(h:a≠b):(a==b)=false:=by simpa using h
theorem uF{a b:List aC}(h:a≠b):(a !=b)=true:=by simpa using h
set_option maxRecDepth 8000 in
theorem V8(l:List (List aC))(aA:l.length<=100000)(hw:∀w∈l,w≠[]):∀n i:Nat,i<=l.length->2*(l.length-i)+1<=n->b5 aS 209 [.slice 1 .no (dz l),.int .i64 i] (iv l (nG l i) (rd gD n (l.drop i))):=by
 intro n;induction n using Nat.strongRecOn with
 |_ n a8=>
 intro i k4 aR;obtain⟨n,rfl⟩:∃m,n=m+1:=⟨n-1,Ω⟩;rcases jB k4 with rfl|aB
 ·have e:iv l (nG l l.length) (rd gD (n+1) (l.drop l.length))= .tuple [T.nil.e,.int .i64 0,.bool false]:=by rw[ml];simp[rd,iv,nG]
  rw[e];clear a8;refine bT fv vv wq fun aQ=>?_;unfold tH;clear aQ;exact cH
 obtain⟨w,ad⟩:∃v,l[i]? =some v:=⟨_,eh aB⟩;have gh:∀h,((dz l)[i]'h)= .str w:=fun h=>by rw[qw aB];rw[eh aB]at ad;rw[iN ad]
 have vR:=hw w (gB ad);have j7:¬(l.length:Int)<=i:=Ω
 rw[fZ ad];by_cases gr:w=[41]
 ·subst gr;have e:iv l (nG l i) (rd gD (n+1) ([41]::l.drop (i+1)))= .tuple [T.nil.e,.int .i64 0,.bool false]:=by simp[rd,iv,nG,ad]
  rw[e];clear a8;refine bT fv vv wq fun aQ=>?_;unfold tH;clear aQ;exact cH
 by_cases mA:w=[46]
 ·subst mA;have e:iv l (nG l i) (rd gD (n+1) ([46]::l.drop (i+1)))= .tuple [T.nil.e,.int .i64 0,.bool false]:=by simp[rd,iv,nG,ad]
  rw[e];clear a8;refine bT fv vv wq fun aQ=>?_;unfold tH;clear aQ;exact cH
 have uD:=wi gr;have A3:=wi mA;have cN:bm ((i:Int)+1):=by unfold bm;omega
 by_cases su:w=[40];rotate_left
 ·have wg:=uF su;have e1:=V7 w vR;have ah:nG l i=(i:Int)+1:=by unfold nG;rw[ad];simp[su,gr,mA]
  have aE:rd gD (n+1) (w::l.drop (i+1))=(gD w).map fun t=>(t,l.drop (i+1)):=by simp[rd,su,gr,mA]
  rw[ah,aE];unfold Ce at e1;cases bL:gD w with
  |none=>rw[bL]at e1;simp only[Option.map_none,iv,Option.getD_none,qF]at e1⊢;clear a8;refine bT fv vv wq fun aQ=>?_;unfold tH;clear aQ;simp;((with_reducible repeat' first|refine aI ?_|refine bn e1 ?_|refine bo e1 ?_|simp[j7,aB,gh,ad,wg,uD,A3,cN]|((first|apply dy|apply dC|apply dB)<;>intro h<;>try simp at h))<;>(try exact ep));all_goals simp[ca,tb,ba,bc,a1]
  |some t=>
   rw[bL]at e1;have aY:((l.length-(l.drop (i+1)).length:Nat):Int)=(i:Int)+1:=by rw[lp];omega
   simp only[mZ,iv,oP,Option.isSome_some,aY]at e1⊢;clear a8 aY;refine bT fv vv wq fun aQ=>?_;unfold tH;clear aQ;simp;((with_reducible repeat' first|refine aI ?_|refine bn e1 ?_|refine bo e1 ?_|simp[j7,aB,gh,ad,wg,uD,A3,cN]|((first|apply dy|apply dC|apply dB)<;>intro h<;>try simp at h))<;>(try exact ep));all_goals simp[ca,tb,ba,bc,a1]
 subst su;have ah:nG l i=0:=by unfold nG;rw[ad];simp
 have aE:rd gD (n+1) ([40]::l.drop (i+1))=bR gD n (l.drop (i+1)) []:=by simp[rd]
 rw[ah,aE];obtain⟨R,bF⟩:∃R,R=iv l 0 (bR gD n (l.drop (i+1)) []):=⟨_,rfl⟩;rw[<-bF];have sA:kin (fun _=>cw) R:=by rw[bF];unfold iv;split<;>simp[kin,kinL]
 refine bT fv vv wq (fun aQ=>?_) (hr:=sA);unfold tH;clear aQ;simp;((with_reducible repeat' first|refine aI ?_|simp[j7,aB,gh,ad,uD,A3,cN]|((first|apply dy|apply dC|apply dB)<;>intro h<;>try simp at h))<;>(try exact ep));refine jI (n1 l) (fun x=>l.length-x.2.1) (fun x=>x.2.1<=l.length/\2*(l.length-x.2.1)+2<=x.2.2/\x.2.2<=n/\iv l 0 (bR gD x.2.2 (l.drop x.2.1) x.1)=R/\x.1.length<=x.2.1) ([],i+1,n) (by simp[n1];exact dp) ⟨aB,by simp;omega,cE _,bF.symm,Ψ⟩ ?_;rintro⟨acc,j,k⟩ ⟨av,J,uf,c1,h2⟩ _;simp only at av J uf c1 h2;clear bF cN gh ad vR j7 uD A3 ah aE gr mA;obtain⟨k,rfl⟩:∃m,k=m+1:=⟨k-1,Ω⟩;rcases jB av with rfl|eV
 ·rw[ml]at c1;simp only[bR,iv]at c1;subst c1;clear a8;simp[n1];((with_reducible repeat' first|refine aI ?_|simp|((first|apply dy|apply dC|apply dB)<;>intro h<;>try simp at h))<;>(try exact ep));all_goals simp[ca,tb,ba,bc,a1]
 obtain⟨v,aL⟩:∃v,l[j]? =some v:=⟨_,eh eV⟩;have fl:∀h,((dz l)[j]'h)= .str v:=fun h=>by rw[qw eV];rw[eh eV]at aL;rw[iN aL]
 have gH:bm ((j:Int)+1):=by unfold bm;omega
 have xW:¬(l.length:Int)<=j:=Ω
 rw[fZ aL]at c1;by_cases gr:v=[41]
 ·subst gr;have aY:((l.length-(l.drop (j+1)).length:Nat):Int)=(j:Int)+1:=by rw[lp];omega
  have he:bR gD (k+1) ([41]::l.drop (j+1)) acc=some (gv acc .nil,l.drop (j+1)):=by simp[bR]
  rw[he]at c1;simp only[iv,aY]at c1;subst c1;have Ek:=My acc .nil;clear a8;simp[n1];exact cH
 have uD:=wi gr;have ld:=uF gr;by_cases mA:v=[46]
 ·subst mA;have cU:=a8 k Ω (j+1) Ω Ω;have Q6:((j+1:Nat):Int)=(j:Int)+1:=Ω
  rw[Q6]at cU;cases dS:rd gD k (l.drop (j+1))with
  |none=>
   rw[dS]at cU;have he:bR gD (k+1) ([46]::l.drop (j+1)) acc=none:=by simp[bR,dS]
   rw[he]at c1;simp only[iv]at c1 cU;subst c1;clear a8;simp[n1];exact cH
  |some tr=>
   obtain⟨t,rest⟩:=tr;rw[dS]at cU;obtain⟨gg,ot⟩:=BG (qt k _ _ _ dS).1;obtain⟨p,aY⟩:∃p,p=l.length-rest.length:=⟨_,rfl⟩;have hl:p<=l.length:=Ω
   simp only[iv,<-aY]at cU;rw[<-aY]at gg;by_cases vH:acc=[]
   ·have he:bR gD (k+1) ([46]::l.drop (j+1)) acc=none:=by simp[bR,vH]
    rw[he]at c1;simp only[iv]at c1;subst c1;subst vH;clear a8;simp[n1];((with_reducible repeat' first|refine aI ?_|refine bn cU ?_|refine bo cU ?_|simp[eV,fl,aL,xW,gH,ld]|((first|apply dy|apply dC|apply dB)<;>intro h<;>try simp at h))<;>(try exact ep));all_goals simp[ca,tb,ba,bc,a1]
   have I6:((acc.length:Int)==0)=false:=beq_eq_false_iff_ne.2 (by have:=nT.2 vH;omega);rcases jB hl with hpe|hl
   ·have he:bR gD (k+1) ([46]::l.drop (j+1)) acc=none:=by
     have:rest=[]:=by rw[gg,hpe,ml]
     simp[bR,dS,vH,this]
    rw[he]at c1;simp only[iv]at c1;subst c1;rw[hpe]at cU;clear a8;simp[n1];exact cH
   obtain⟨u,hu⟩:∃v,l[p]? =some v:=⟨_,eh hl⟩;have mH:∀h,((dz l)[p]'h)= .str u:=fun h=>by rw[qw hl];rw[eh hl]at hu;rw[iN hu]
   have JA:¬(l.length:Int)<=p:=Ω
   have Jy:bm ((p:Int)+1):=by unfold bm;omega
   rw[fZ hu]at gg;by_cases DU:u=[41]
   ·subst DU;have DE:((l.length-(l.drop (p+1)).length:Nat):Int)=(p:Int)+1:=by rw[lp];omega
    have he:bR gD (k+1) ([46]::l.drop (j+1)) acc=some (gv acc t,l.drop (p+1)):=by simp[bR,dS,vH,gg]
    rw[he]at c1;simp only[iv,DE]at c1;subst c1;have Ek:=My acc t;clear a8;simp[n1];((with_reducible repeat' first|refine aI ?_|refine bn cU ?_|refine bo cU ?_|refine bn Ek ?_|refine bo Ek ?_|simp[eV,fl,aL,xW,gH,ld,I6,hl,mH,hu,JA,Jy]|((first|apply dy|apply dC|apply dB)<;>intro h<;>try simp at h))<;>(try exact ep));all_goals simp[ca,tb,ba,bc,a1]
   ·have Tv:=uF DU;have he:bR gD (k+1) ([46]::l.drop (j+1)) acc=none:=by simp[bR,dS,vH,gg,DU]
    rw[he]at c1;simp only[iv]at c1;subst c1;clear a8;simp[n1];((with_reducible repeat' first|refine aI ?_|refine bn cU ?_|refine bo cU ?_|simp[eV,fl,aL,xW,gH,ld,I6,hl,mH,hu,JA,Jy,Tv]|((first|apply dy|apply dC|apply dB)<;>intro h<;>try simp at h))<;>(try exact ep));all_goals simp[ca,tb,ba,bc,a1]
 have Ks:=uF mA;have cU:=a8 k Ω j Ω Ω;rw[fZ aL]at cU;have he:bR gD (k+1) (v::l.drop (j+1)) acc=match rd gD k (v::l.drop (j+1))with
   |some (t,cv)=>bR gD k cv (acc++[t])
   |none=>none:=by
  conv=>lhs;unfold bR
  rw[be gr,be mA];cases rd gD k (v::l.drop (j+1))<;>rfl
 rw[he]at c1;cases dS:rd gD k (v::l.drop (j+1))with
 |none=>rw[dS]at cU c1;simp only[iv]at c1 cU;subst c1;clear a8 he;generalize nG l j=q at cU;simp[n1];((with_reducible repeat' first|refine aI ?_|refine bn cU ?_|refine bo cU ?_|simp[eV,fl,aL,xW,ld,Ks]|((first|apply dy|apply dC|apply dB)<;>intro h<;>try simp at h))<;>(try exact ep));all_goals simp[ca,tb,ba,bc,a1]
 |some tr=>
  obtain⟨t,rest⟩:=tr;rw[dS]at cU c1;obtain⟨gg,ot⟩:=BG (j:=j) (by rw[fZ aL];exact(qt k _ _ _ dS).1);have ya:=(qt k _ _ _ dS).2;have JH:rest.length<l.length-j:=by simp at ya;omega
  obtain⟨p,aY⟩:∃p,p=l.length-rest.length:=⟨_,rfl⟩;simp only[iv,<-aY]at cU;simp only at c1;rw[<-aY]at gg;rw[gg]at c1;have lx:acc.length+1<=bX:=by unfold bX;omega
  clear a8 he;simp[n1];((with_reducible repeat' first|refine aI ?_|refine bn cU ?_|refine bo cU ?_|simp[eV,fl,aL,xW,ld,Ks,lx]|((first|apply dy|apply dC|apply dB)<;>intro h<;>try simp at h))<;>(try exact ep));refine cF.whl (acc++[t],p,k) (by show l.length-p<l.length-j;omega) ⟨by show p<=l.length;omega,by show 2*(l.length-p)+2<=k;omega,by show k<=n;omega,c1,by simp;omega⟩ (by simp[n1];exact⟨by simp[fresh,kinL,kin,b1,aG,Pv.look,dc],eR (by simp[fresh,kinL,kin,b1,aG,Pv.look,dc]),eS (by simp[fresh,kinL,kin,ef,aG,Pv.look,dc]),Ψ⟩)
theorem F1(l:List aU):b5 aS 253 [.slice 4 .no (l.map enc)] (.bool (l.all aU.fits)):=by
 generalize bF:l.all aU.fits=R;refine bT jX PY Uc fun aQ=>?_;unfold Hj;have hg:l.length<=68719476736:=by simp[jf,jE,jg,bX]at aQ;omega
 clear aQ;simp;refine iA (fun i (_:Unit)=>⟨[(5,.slice 4 .no (l.map enc)),(6,.int .i64 l.length),(7,.int .i64 i)],[],[],0,[]⟩) l.length (mK aU.fits l) () dp (fun k b J=>Ω) (fun _ av _=>?_) (fun i _ aB av _=>?_)
 ·have:R=true:=by rw[<-bF];exact av.fin
  subst this;clear av bF;exact cH
 ·obtain⟨t,au,Se⟩:=hy aB;have cd:=Wj t;cases g:t.fits
  ·rw[g]at cd;have:R=false:=by rw[<-bF];exact va au g
   subst this;clear au av bF;exact cH
  ·rw[g]at cd;have aR:=av.step au g;clear au av bF;exact yI
mutual
def jG:Gm->Int->Int
 | .mk _ _ _ gs,m=>lY gs 1 m
def lY:List Gm->Int->Int->Int
 |[],n,_=>n
 |x::xs,n,m=>if m<n then n else lY xs (n+jG x (m-n)) m
end
mutual
theorem Cu:∀(t:Gm) (m:Int),0<=m->1<=jG t m/\jG t m<=m+1
 | .mk _ _ _ gs,m,h=>by simp only[jG];exact HE gs 1 m h Ω Ω
theorem HE:∀(l:List Gm) (n m:Int),0<=m->1<=n->n<=m+1->1<=lY l n m/\lY l n m<=m+1
 |[],n,m,_,I,aa=>by simp only[lY];exact⟨I,aa⟩
 |x::xs,n,m,bN,I,aa=>by
  simp only[lY];split
  ·exact⟨I,aa⟩
  ·have:=Cu x (m-n) Ω;exact HE xs _ m bN Ω Ω
end
mutual
theorem HG:∀(t:Gm) (m:Int),0<=m->(jG t m<=m↔(t.sz:Int)<=m)/\((t.sz:Int)<=m->jG t m=t.sz)
 | .mk _ _ _ gs,m,h=>by have:=HF gs 1 m h Ω;simp only[jG,Gm.sz];exact⟨this.1.trans Ω,fun h=>by rw[this.2 Ω];omega⟩
theorem HF:∀(l:List Gm) (n m:Int),0<=m->1<=n->(lY l n m<=m↔n+(mz l:Int)<=m)/\(n+(mz l:Int)<=m->lY l n m=n+mz l)
 |[],n,m,_,I=>by simp[lY,mz]
 |x::xs,n,m,bN,I=>by
  simp only[lY,mz];have aY:=x.sz_pos;by_cases hm:m<n
  ·rw[if_pos hm];exact⟨Ω,fun h=>Ω⟩
  ·rw[be hm];obtain⟨bt,a2⟩:=HG x (m-n) Ω;have a3:=Cu x (m-n) Ω;obtain⟨bS,bY⟩:=HF xs (n+jG x (m-n)) m bN Ω;by_cases ad:(x.sz:Int)<=m-n
   ·rw[a2 ad]at bS bY⊢;exact⟨bS.trans Ω,fun h=>by rw[bY Ω];omega⟩
   ·have:¬jG x (m-n)<=m-n:=fun h=>ad (bt.1 h);exact⟨bS.trans ⟨fun h=>Ω,fun h=>Ω⟩,fun h=>Ω⟩
end
theorem N5(g:Gm)(m:Int):jG g m=lY g.gs 1 m:=by cases g;rfl
theorem V9:∀(k:Nat) (t:Gm),t.sz<=k->∀m:Int,0<=m->m<=1000000->b5 aS 210 [t.e,.int .i64 m] (.int .i64 (jG t m)):=by
 intro k;induction k with
 |zero=>intro t au;have:=t.sz_pos;omega
 |succ k a8=>
  intro t au m bN I;refine bT jX P4 Ui fun aQ=>?_;unfold Hp;have hg:t.gs.length<=68719476736:=by rw[Gm.e_eq]at aQ;simp[jf,jE,jg,bX]at aQ;omega
  clear aQ;simp;refine iA (fun i (n:Int)=>⟨[(1,.int .i64 m),(5,.int .i64 n),(9,.slice 4 .no (t.gs.map Gm.e)),(10,.int .i64 t.gs.length),(11,.int .i64 i)],[],[],0,[]⟩) t.gs.length (fun i n=>(1<=n/\n<=m+1)/\lY (t.gs.drop i) n m=jG t m) 1 (by simp;exact dp) ⟨Ω,by simp[N5]⟩ (fun n av _=>?_) (fun i n aB av _=>?_)
  ·have he:n=jG t m:=by have:=av.2;simp[lY]at this;exact this
   subst he;clear av;exact cH
  ·obtain⟨⟨x0,oq⟩,av⟩:=av;obtain⟨x,ad,lE⟩:=hy aB;have aF:t.gs.drop i=x::t.gs.drop (i+1):=by rw[pR aB,lE]
   have cO:x.sz<=k:=by have:=t.gs_lt (gB ad);omega
   have cN:bm ((i:Int)+1):=by unfold bm;omega
   rw[aF]at av;simp only[lY]at av;by_cases af:m<n
   ·rw[if_pos af]at av;subst av;clear a8;exact cH
   ·rw[be af]at av;have az:=Cu x (m-n) Ω;have rl:=a8 x cO (m-n) Ω Ω;have k0:bm (m-n):=by unfold bm;omega
    have Ye:bm (n+jG x (m-n)):=by unfold bm;omega
    have kt:(1<=n+jG x (m-n)/\n+jG x (m-n)<=m+1)/\lY (t.gs.drop (i+1)) (n+jG x (m-n)) m=jG t m:=⟨Ω,av⟩;clear a8;have Kk:=rl;exact yI
theorem LG:dz iw=[.str [116,114,117,101],.str [102,97,105,108],.str [115,121,109,98,111,108],.str [110,117,109,98,101,114],.str [97,98,115,101,110,116],.str [97,110,100],.str [111,114],.str [110,111,116],.str [100,101,102,105,110,101]]:=rfl
theorem Wg(s:List aC):b5 aS 128 [.str s] (.bool (iq s)):=by
 have jc:=fX s;generalize bF:iq s=R;refine bT jX PV T9 fun aQ=>?_;unfold Hg;clear aQ;simp[<-LG];refine⟨by rw[LG];simp[n5],?_⟩;refine iA (fun i (_:Unit)=>⟨[(0,.str s),(5,.slice 1 (.own (.loc 0)) (dz iw)),(6,.int .i64 iw.length),(7,.int .i64 i)],[],[(.loc 0,⟨9,9,1,none⟩)],1,[]⟩) iw.length (mK (fun w=>w !=s) iw) () dp (fun k b J=>Ω) (fun _ av _=>?_) (fun i _ aB av _=>?_)
 ·have aR:iw.contains s=false:=by
   have:=(show mK (fun w=>w !=s) iw iw.length ()from av).fin;rw[kj]at this;cases az:iw.contains s with
   |false=>rfl
   |true=>
    have I:s∈iw:=by simpa using az
    have:=this s I;simp at this
  have:R=gU s:=by rw[<-bF,iq,aR];rfl
  rw[this];clear bF av;exact cH
 ·have k4:i<iw.length:=aB;obtain⟨w,hw⟩:∃w,iw[i]? =some w:=⟨_,eh k4⟩;have Sm:∀h,((dz iw)[i]'h)= .str w:=fun h=>by rw[qw k4];rw[eh k4]at hw;rw[iN hw]
  have Yt:(i:Int)<9:=by have h:i<9:=k4;omega
  have cN:bm ((i:Int)+1):=by unfold bm;omega
  have RH:i<(dz iw).length:=k4;have Ay:(dz iw)[i]? =some (.str w):=by rw[eh RH,Sm]
  by_cases he:w=s
  ·have:R=false:=by
    rw[<-bF,iq];have:iw.contains s=true:=by rw[<-he];simpa using gB hw
    rw[this];rfl
   subst this;subst he;clear bF av;exact cH
  ·have aR:=av.step hw (by simpa using he);have Yn:(w==s)=false:=by simpa using he
   clear bF av;exact yI
def ti(k:Int)(n:Int):Int:=if k=9 then n else jT k
def hdS(g:Gm):Prop:=(g.ts.length:Int)=ti g.kind g.ts.length/\g.ts.length<=4/\(g.kind<7->g.gs=[])/\g.gs.length<=8
def pM(g:Gm):Bool:=if g.kind=6 then(match g.ts with|x::_=>decide (x.kind=2)|[]=>false)else if g.kind=9 then g.gs.isEmpty&&iq g.name else if g.kind=10 then(match g.gs with|[x]=>decide (x.kind=9)|_=>false)else true
theorem Tx(k:Int):0<=jT k/\jT k<=2:=by
 unfold jT;repeat' split
 all_goals omega
theorem LW(g:Gm):g.shape=true↔(0<=g.kind/\g.kind<=10)/\(g.kind≠9->g.name=[])/\g.ts.all aU.fits=true/\hdS g/\g.gs.all Gm.shape=true/\pM g=true:=by
 rw[mR,bA];have aR:=Tx g.kind;unfold hdS ti pM;by_cases I:0<=g.kind/\g.kind<=6
 ·rw[if_pos I,be (show¬g.kind=9 by omega)];by_cases ct:g.kind=6
  ·simp[ct];constructor
   ·rintro⟨a,⟨⟨b,c⟩,d⟩,e⟩;rw[c]at*;refine⟨b,a,⟨d,by rw[ct]at aR;omega,rfl,Ψ⟩,Ψ,e⟩
   ·rintro⟨a,b,⟨c,d,e,_⟩,_,f⟩;exact⟨b,⟨⟨a,e⟩,c⟩,f⟩
  ·have Tw:¬g.kind=9:=Ω
   have n10:¬g.kind=10:=Ω
   simp[ct,Tw,n10];constructor
   ·rintro⟨a,⟨b,c⟩,d⟩;rw[c];exact⟨Ω,b,a,⟨d,Ω,fun _=>rfl,Ψ⟩,Ψ⟩
   ·rintro⟨_,a,b,⟨c,d,e,_⟩,_⟩;exact⟨b,⟨a,e Ω⟩,c⟩
 ·rw[be I];by_cases fb:g.kind=9
  ·simp[fb];intro _;constructor
   ·rintro⟨⟨b,c⟩,d⟩;rw[c];exact⟨⟨d,Ψ⟩,Ψ,rfl,b⟩
   ·rintro⟨⟨b,c⟩,d,e,f⟩;exact⟨⟨f,e⟩,b⟩
  ·rw[be fb];by_cases tX:g.kind=7\/g.kind=8
   ·rw[if_pos tX];have eB:jT g.kind=0:=by rcases tX with h|h<;>rw[h]<;>rfl
    rw[eB];rcases tX with h|h;all_goals
     simp[h]
     constructor
     ·rintro⟨a,⟨⟨b,c⟩,d⟩,e⟩
      rw[c];exact⟨b,Ψ,⟨rfl,Ψ,d⟩,e⟩
     ·rintro⟨a,b,⟨c,d,e⟩,f⟩
      exact⟨b,⟨⟨a,c⟩,e⟩,f⟩
   ·rw[be tX];by_cases e6:g.kind=10
    ·simp[e6,jT];constructor
     ·rintro⟨a,⟨⟨b,c⟩,d⟩,e⟩;rw[c];refine⟨b,Ψ,⟨rfl,Ψ,?_⟩,e,d⟩;split at d
      ·rename_i x ad;rw[ad];simp
      ·cases d
     ·rintro⟨a,b,⟨c,d,e⟩,f,h⟩;exact⟨b,⟨⟨a,c⟩,h⟩,f⟩
    ·rw[be e6];constructor
     ·rintro⟨_,h⟩;cases h
     ·rintro⟨h,_⟩;omega
theorem Vj(g:Gm)(h:¬(0<=g.kind/\g.kind<=10)):b5 aS 211 [g.e] (.bool false):=by have ec:=dK g.kind 0 10;rw[decide_eq_false h]at ec;refine bT jX p1 qp fun aQ=>?_;unfold oT;clear aQ;exact cH
theorem Vl(g:Gm)(h:0<=g.kind/\g.kind<=10)(fb:¬g.kind=9)(aR:g.name.isEmpty=false):b5 aS 211 [g.e] (.bool false):=by
 have ec:=dK g.kind 0 10;rw[decide_eq_true h]at ec;have C6:(g.kind !=9)=true:=by simpa using fb
 refine bT jX p1 qp fun aQ=>?_;unfold oT;clear aQ;exact cH
theorem Vm(g:Gm)(h:0<=g.kind/\g.kind<=10)(aR:g.kind≠9->g.name.isEmpty=true)(au:g.ts.all aU.fits=false):b5 aS 211 [g.e] (.bool false):=by
 have ec:=dK g.kind 0 10;rw[decide_eq_true h]at ec;have e1:=F1 g.ts;rw[au]at e1;by_cases fb:g.kind=9
 ·have C6:(g.kind !=9)=false:=by simpa using fb
  refine bT jX p1 qp fun aQ=>?_;unfold oT;clear aQ;simp;((with_reducible repeat' first|refine aI ?_|refine bn ec ?_|refine bo ec ?_|refine bn e1 ?_|refine bo e1 ?_|simp[C6]|((first|apply dy|apply dC|apply dB)<;>intro h<;>try simp at h))<;>(try exact ep));simp[ca,wD,ba,bc,a1]
 ·have C6:(g.kind !=9)=true:=by simpa using fb
  have gS:=aR fb;refine bT jX p1 qp fun aQ=>?_;unfold oT;clear aQ;exact cH
set_option maxRecDepth 8000 in
theorem Vi(g:Gm)(h:0<=g.kind/\g.kind<=10)(aR:g.kind≠9->g.name.isEmpty=true)(au:g.ts.all aU.fits=true)(hB:¬hdS g):b5 aS 211 [g.e] (.bool false):=by
 have ec:=dK g.kind 0 10;rw[decide_eq_true h]at ec;have e1:=F1 g.ts;rw[au]at e1;have mD:g.kind=0\/g.kind=1\/g.kind=2\/g.kind=3\/g.kind=4\/g.kind=5\/g.kind=6\/g.kind=7\/g.kind=8\/g.kind=9\/g.kind=10:=Ω
 have gS:g.kind≠9->g.name.isEmpty=true:=aR;have uh:∀l:List Gm,decide ((0:Int)<l.length)= !l.isEmpty:=fun l=>by cases l<;>simp
 clear h au aR;have zZ:¬((g.ts.length:Int)=ti g.kind g.ts.length/\g.ts.length<=4/\(g.kind<7->g.gs=[])/\g.gs.length<=8):=hB;clear hB;by_cases fb:g.kind=9
 ·rw[fb]at zZ ec;simp[ti]at zZ;clear mD gS;refine bT jX p1 qp fun aQ=>?_;unfold oT;clear aQ;simp;simp[fb];((with_reducible repeat' first|refine aI ?_|refine bn ec ?_|refine bo ec ?_|refine bn e1 ?_|refine bo e1 ?_|simp[fb,uh]|((first|apply dy|apply dC|apply dB)<;>intro h<;>try simp at h))<;>(try exact ep));all_goals first|(simp[ca,wD,ba,bc,a1];done)|(exfalso;clear ec e1;simp_all;done)|(exfalso;clear ec e1;simp_all;omega)|(exfalso;clear ec e1;grind)
 have mD:g.kind=0\/g.kind=1\/g.kind=2\/g.kind=3\/g.kind=4\/g.kind=5\/g.kind=6\/g.kind=7\/g.kind=8\/g.kind=10:=Ω
 rcases mD with J|J|J|J|J|J|J|J|J|J;all_goals
  rw[J]at zZ
  simp[ti,jT]at zZ
  have fL:=gS Ω
  rw[J]at ec
  refine bT jX p1 qp fun aQ=>?_;unfold oT
  clear aQ
  simp
  simp[J]
  ((with_reducible repeat' first|refine aI ?_|refine bn ec ?_|refine bo ec ?_|refine bn e1 ?_|refine bo e1 ?_|simp[J,fL,uh]|((first|apply dy|apply dC|apply dB)<;>intro h<;>try simp at h))<;>(try exact ep))
  all_goals first|(simp[ca,wD,ba,bc,a1];done)|(exfalso;clear ec e1;simp_all;done)|(exfalso;clear ec e1;simp_all;omega)|(exfalso;clear ec e1;grind)
def hY(g:Gm)(i:Nat)(_:Unit):aN:=⟨[(1,.ptr (.loc 0) 0),(61,.slice 4 .no (g.gs.map Gm.e)),(62,.int .i64 g.gs.length),(63,.int .i64 i)],[(.loc 0,[.int .i64 g.kind,.str g.name,.slice 4 .no (g.ts.map enc),.slice 4 .no (g.gs.map Gm.e)])],[],2,[]⟩
set_option maxRecDepth 8000 in
theorem Vk(g:Gm)(h:0<=g.kind/\g.kind<=10)(aR:g.kind≠9->g.name.isEmpty=true)(au:g.ts.all aU.fits=true)(hB:hdS g)(a8:∀x∈g.gs,b5 aS 211 [x.e] (.bool x.shape)):b5 aS 211 [g.e] (.bool (g.gs.all Gm.shape&&pM g)):=by
 have ec:=dK g.kind 0 10;rw[decide_eq_true h]at ec;have e1:=F1 g.ts;rw[au]at e1;have mD:g.kind=0\/g.kind=1\/g.kind=2\/g.kind=3\/g.kind=4\/g.kind=5\/g.kind=6\/g.kind=7\/g.kind=8\/g.kind=9\/g.kind=10:=Ω
 have gS:g.kind≠9->g.name.isEmpty=true:=aR;have uh:∀l:List Gm,decide ((0:Int)<l.length)= !l.isEmpty:=fun l=>by cases l<;>simp
 clear h au aR;obtain⟨bS,bY,fk,Ch⟩:=hB;have zm:¬(4:Int)<g.ts.length:=Ω
 have zn:¬(8:Int)<g.gs.length:=Ω
 generalize bF:(g.gs.all Gm.shape&&pM g)=R;have Rt:g.gs.length<=1000000:=Ω
 by_cases fb:g.kind=9
 ·rw[fb]at ec;clear mD gS;refine bT jX p1 qp fun aQ=>?_;unfold oT;clear aQ;simp;simp[fb];(with_reducible repeat' first|refine aI ?_|refine bn ec ?_|refine bo ec ?_|refine bn e1 ?_|refine bo e1 ?_|simp[fb,uh,zm,zn]);refine iA (hY g) g.gs.length (mK Gm.shape g.gs) () (by simp[hY,fb];exact dp) (fun k b J=>Ω) (fun _ av _=>?_) (fun i _ aB av _=>?_);rotate_left
  ·obtain⟨y,bk,gN⟩:=hy aB;have ky:=a8 y (gB bk);have cN:bm ((i:Int)+1):=by unfold bm;omega
   cases fA:y.shape
   ·have iB:R=false:=by rw[<-bF,va bk fA];rfl
    subst iB;rw[fA]at ky;clear bF av a8;simp[hY,fb,aB,gN];exact cH
   ·have kt:=av.step bk fA;rw[fA]at ky;clear bF av a8;simp[hY,fb,aB,gN];(with_reducible repeat' first|refine aI ?_|refine bn ky ?_|refine bo ky ?_|simp[aB,gN,cN]);refine cF.rng () aB kt (by simp[hY,fb];exact dp)
  have iB:R=(g.gs.isEmpty&&iq g.name):=by rw[<-bF,av.fin];simp[pM,fb]
  subst iB;clear bF av a8;have vY:=Wg g.name;cases eB:g.gs.isEmpty
  ·have Ss:((g.gs.length:Int)==0)=false:=by rw[AS,eB]
   simp[hY,fb];have Kk:=vY;exact cH
  ·have Ss:((g.gs.length:Int)==0)=true:=by rw[AS,eB]
   simp[hY,fb];have Kk:=vY;exact cH
 have fL:=gS fb;have GJ:g.kind<7->¬0<g.gs.length:=fun h=>by rw[fk h];simp
 clear fk gS;by_cases ct:g.kind=6
 ·rw[ct]at bS ec;simp only[ti,jT,Int.reduceEq,reduceIte]at bS;have fk:=GJ Ω;refine bT jX p1 qp fun aQ=>?_;unfold oT;clear aQ;simp;simp[ct];(with_reducible repeat' first|refine aI ?_|refine bn ec ?_|refine bo ec ?_|refine bn e1 ?_|refine bo e1 ?_|simp[ct,fL,uh,bS,fk,zm,zn]);refine iA (hY g) g.gs.length (mK Gm.shape g.gs) () (by simp[hY,ct];exact dp) (fun k b J=>Ω) (fun _ av _=>?_) (fun i _ aB av _=>?_);rotate_left
  ·obtain⟨y,bk,gN⟩:=hy aB;have ky:=a8 y (gB bk);have cN:bm ((i:Int)+1):=by unfold bm;omega
   cases fA:y.shape
   ·have iB:R=false:=by rw[<-bF,va bk fA];rfl
    subst iB;rw[fA]at ky;clear bF av a8;simp[hY,ct,aB,gN];exact cH
   ·have kt:=av.step bk fA;rw[fA]at ky;clear bF av a8;simp[hY,ct,aB,gN];(with_reducible repeat' first|refine aI ?_|refine bn ky ?_|refine bo ky ?_|simp[aB,gN,cN]);refine cF.rng () aB kt (by simp[hY,ct];exact dp)
  obtain⟨x,y,e⟩:∃x y,g.ts=[x,y]:=Mm Ω;have iB:R=decide (x.kind=2):=by rw[<-bF,av.fin];simp[pM,ct,e]
  subst iB;clear bF av a8;simp[hY,ct,e];(with_reducible repeat' first|refine aI ?_|simp[ct]);simp[ca,wD,ba,bc,a1];rfl
 by_cases e6:g.kind=10
 ·rw[e6]at bS ec;simp only[ti,jT,Int.reduceEq,reduceIte]at bS;refine bT jX p1 qp fun aQ=>?_;unfold oT;clear aQ;simp;simp[e6];(with_reducible repeat' first|refine aI ?_|refine bn ec ?_|refine bo ec ?_|refine bn e1 ?_|refine bo e1 ?_|simp[e6,fL,uh,bS,zm,zn]);refine iA (hY g) g.gs.length (mK Gm.shape g.gs) () (by simp[hY,e6];exact dp) (fun k b J=>Ω) (fun _ av _=>?_) (fun i _ aB av _=>?_);rotate_left
  ·obtain⟨y,bk,gN⟩:=hy aB;have ky:=a8 y (gB bk);have cN:bm ((i:Int)+1):=by unfold bm;omega
   cases fA:y.shape
   ·have iB:R=false:=by rw[<-bF,va bk fA];rfl
    subst iB;rw[fA]at ky;clear bF av a8;simp[hY,e6,aB,gN];exact cH
   ·have kt:=av.step bk fA;rw[fA]at ky;clear bF av a8;simp[hY,e6,aB,gN];(with_reducible repeat' first|refine aI ?_|refine bn ky ?_|refine bo ky ?_|simp[aB,gN,cN]);refine cF.rng () aB kt (by simp[hY,e6];exact dp)
  by_cases kA:g.gs.length=1
  ·obtain⟨x,e⟩:=List.length_eq_one_iff.1 kA;have iB:R=decide (x.kind=9):=by rw[<-bF,av.fin];simp[pM,e6,e]
   subst iB;clear bF av a8;simp[hY,e6,e];(with_reducible repeat' first|refine aI ?_|simp[e6]);simp[ca,wD,ba,bc,a1];rfl
  ·have iB:R=false:=by
    rw[<-bF,av.fin];simp[pM,e6];split
    ·rename_i x ad;rw[ad]at kA;simp at kA
    ·rfl
   subst iB;have Yp:((g.gs.length:Int)==1)=false:=beq_eq_false_iff_ne.2 Ω;clear bF av a8;simp[hY,e6];exact cH
 have mD:g.kind=0\/g.kind=1\/g.kind=2\/g.kind=3\/g.kind=4\/g.kind=5\/g.kind=7\/g.kind=8:=Ω
 rcases mD with J|J|J|J|J|J|J|J;all_goals
  rw[J]at bS ec
  simp only[ti,jT,Int.reduceEq,reduceIte]at bS
  have fk:=GJ
  simp only[J,Int.reduceLT,forall_const,false_imp_iff]at fk
  refine bT jX p1 qp fun aQ=>?_;unfold oT
  clear aQ
  simp
  simp[J]
  (with_reducible repeat' first|refine aI ?_|refine bn ec ?_|refine bo ec ?_|refine bn e1 ?_|refine bo e1 ?_|simp[J,fL,uh,bS,fk,zm,zn])
  refine iA (hY g) g.gs.length (mK Gm.shape g.gs) () (by simp[hY,J];exact dp) (fun k b J=>Ω) (fun _ av _=>?_) (fun i _ aB av _=>?_)
  rotate_left
  ·obtain⟨y,bk,gN⟩:=hy aB
   have ky:=a8 y (gB bk)
   have cN:bm ((i:Int)+1):=by unfold bm;omega
   cases fA:y.shape
   ·have iB:R=false:=by rw[<-bF,va bk fA];rfl
    subst iB
    rw[fA]at ky
    clear bF av a8
    simp[hY,J,aB,gN]
    exact cH
   ·have kt:=av.step bk fA
    rw[fA]at ky
    clear bF av a8
    simp[hY,J,aB,gN]
    (with_reducible repeat' first|refine aI ?_|refine bn ky ?_|refine bo ky ?_|simp[aB,gN,cN])
    refine cF.rng () aB kt (by simp[hY,J];exact dp)
  have iB:R=true:=by rw[<-bF,av.fin];simp[pM,J]
  subst iB
  clear bF av a8
  simp[hY,J]
  exact cH
end
end Go.Proofs.YtlnndmgfngfeiaaGreatDoor

namespace Go.Proofs.YtlnndmgfngfeiaaGreatDoor
section
open Go Go.Pv
def jQ(n:Int):List Int->List Int
 |[]=>[n]
 |c::l=>if c<n then c::jQ n l else if c=n then c::l else n::c::l
def pT(l:List Int):Prop:=l.Pairwise (· < ·)
theorem JM(n:Int):∀(l:List Int) (k:Nat),(∀i c,i<k->l[i]? =some c->c<n)->(∀c,l[k]? =some c->n<=c)->k<=l.length->jQ n l=if l[k]? =some n then l else l.take k++n::l.drop k
 |[],k,_,_,J=>by simp at J;subst J;rfl
 |c::l,0,_,aa,_=>by
  have:=aa c rfl;by_cases e:c=n
  ·simp[jQ,e]
  ·have ak:¬c<n:=Ω
   simp[jQ,ak,e]
 |c::l,k+1,I,aa,J=>by have bN:=I 0 c Ω rfl;simp only[jQ,if_pos bN,List.take_succ_cons,List.drop_succ_cons,eI,List.getElem?_cons_succ];rw[JM n l k (fun i d aB aF=>I (i+1) d Ω (by simpa using aF)) (fun d aF=>aa d (by simpa using aF)) (by simpa using J)];split<;>rfl
theorem Ew{n m:Int}:∀{l:List Int},m∈jQ n l↔m=n\/m∈l
 |[]=>by simp[jQ]
 |c::l=>by
  simp only[jQ];split
  ·simp only[gp,Ew (l:=l)];constructor
   ·rintro(h|h|h)
    ·exact .inr (.inl h)
    ·exact .inl h
    ·exact .inr (.inr h)
   ·rintro(h|h|h)
    ·exact .inr (.inl h)
    ·exact .inl h
    ·exact .inr (.inr h)
  ·split
   ·rename_i h;subst h;simp
   ·simp
theorem D3{n:Int}:∀{l:List Int},pT l->pT (jQ n l)
 |[],_=>by simp[jQ,pT]
 |c::l,h=>by
  obtain⟨I,aa⟩:=List.pairwise_cons.1 h;simp only[jQ];split
  ·rename_i ak;refine List.pairwise_cons.2 ⟨fun m hm=>?_,D3 aa⟩;rcases Ew.1 hm with rfl|hm
   ·exact ak
   ·exact I m hm
  ·split
   ·exact h
   ·refine List.pairwise_cons.2 ⟨fun m hm=>?_,h⟩;rcases gp.1 hm with rfl|hm
    ·omega
    ·have:=I m hm;omega
theorem JN(n:Int):∀l:List Int,(jQ n l).length<=l.length+1
 |[]=>by simp[jQ]
 |c::l=>by
  have:=JN n l;simp only[jQ];split
  ·simp;omega
  ·split<;>simp
theorem JP(l:List Int)(i:Nat):(dI l)[i]? =(l[i]?).map (ab.int .i64):=by simp[dI]
theorem uV:∀l:List Int,bz (dI l)=dI l
 |[]=>by simp[dI,bz]
 |a::l=>by have:=uV l;simp only[dI,gZ,bz,bC]at this⊢;rw[this]
theorem AH(l:List Int)(n:Int)(k:Nat):bz (List.take k (dI l)++ab.int .i64 n::List.drop k (List.take l.length (dI l)))=dI (List.take k l++n::List.drop k l):=by
 have e:List.take l.length (dI l)=dI l:=List.take_of_length_le (by simp[dI]);have aE:List.take k (dI l)++ab.int .i64 n::List.drop k (dI l)=dI (List.take k l++n::List.drop k l):=by simp only[dI,List.map_append,gZ,List.map_take,List.map_drop]
 rw[e,aE];exact uV _
theorem V3(l:List Int)(n:Int)(aA:l.length<=1000000)(bL:pT l):b5 aS 212 [.slice 1 .no (dI l),.int .i64 n] (.slice 1 .no (dI (jQ n l))):=by
 refine bT hM P0 Ue fun aQ=>?_;unfold Hl;simp;refine H8 [0,1] (fun(k:Nat)=>[(5,.int .i64 k)]) (fun k=>k) (fun k=>k<=l.length/\∀c,l[k]? =some c->n<=c) l.length dp ⟨Ω,fun c h=>by simp at h⟩ (fun k av _=>?_);obtain⟨J,av⟩:=av;have hF:(∀c,0<k->l[k-1]? =some c->c<n)->jQ n l=if l[k]? =some n then l else l.take k++n::l.drop k:=fun h=>JM n l k (fun i c aB az=>by
  obtain⟨d,aF⟩:∃d,l[k-1]? =some d:=⟨_,eh Ω⟩;have I:=h d Ω aF;rcases Nat.lt_or_ge i (k-1)with aa|aa
  ·have ue:=(fG.1 az);have mB:=(fG.1 aF);have:=List.pairwise_iff_getElem.1 bL i (k-1) ue.1 mB.1 aa;rw[ue.2,mB.2]at this;omega
  ·have:i=k-1:=Ω
   subst this;rw[aF]at az;cases az;exact I) av J
 have kv:∀c,l[k]? =some c->∀h,((dI l)[k]'h)= .int .i64 c:=fun c h b6=>by have:=JP l k;rw[h,eh b6]at this;exact iN this
 have jK:(0<k->∃d,l[k-1]? =some d/\d<n)->∀P:Prop,(jQ n l=(if l[k]? =some n then l else l.take k++n::l.drop k)->P)->P:=fun h P z7=>z7 (hF fun c bN az=>by obtain⟨d,aF,I⟩:=h bN;rw[aF]at az;cases az;exact I)
 rcases Nat.eq_zero_or_pos k with bN|fN
 ·have eB:decide ((0:Int)<k)=false:=by simp;omega
  refine jK (fun h=>Ω) _ fun e=>?_;by_cases k5:k<l.length
  ·obtain⟨c,az⟩:∃c,l[k]? =some c:=⟨_,eh k5⟩;have jj:=kv c az;rw[az]at e;by_cases q:c=n
   ·have hh:(c==n)=true:=by simp[q]
    rw[if_pos (by rw[q])]at e;rw[e];simp[eB,k5];((with_reducible repeat' first|refine aI ?_|simp[eB,k5,jj,hh]|((first|apply dy|apply dC|apply dB)<;>intro h<;>try simp at h))<;>(try exact ep));all_goals simp[ca,uJ,ba,bc,a1]
   ·have hh:(c==n)=false:=by simp[q]
    rw[be (by simp[q])]at e;rw[e];simp[eB,k5];((with_reducible repeat' first|refine aI ?_|simp[eB,k5,jj,hh]|((first|apply dy|apply dC|apply dB)<;>intro h<;>try simp at h))<;>(try exact ep));all_goals simp[ca,uJ,ba,bc,a1]
    all_goals exact AH l n k
  ·rw[List.getElem?_eq_none Ω]at e;simp only[reduceCtorEq,if_false]at e;rw[e];simp[eB,k5];((with_reducible repeat' first|refine aI ?_|simp[eB,k5]|((first|apply dy|apply dC|apply dB)<;>intro h<;>try simp at h))<;>(try exact ep));all_goals simp[ca,uJ,ba,bc,a1]
   all_goals exact AH l n k
 ·obtain⟨d,aF⟩:∃d,l[k-1]? =some d:=⟨_,eh Ω⟩;have ah:((k:Int)-1).toNat=k-1:=Ω
  have aE:∀h,((dI l)[k-1]'h)= .int .i64 d:=fun b6=>by have:=JP l (k-1);rw[aF,eh b6]at this;exact iN this
  have qf:(0:Int)<k:=Ω
  have sH:k-1<l.length:=Ω
  by_cases af:n<=d
  ·simp[fN,qf,ah,aE,af,sH];(with_reducible repeat' first|refine aI ?_|simp[fN,qf,ah,aE,af,sH]);refine cF.whl (k-1) Ω ⟨Ω,fun c az=>by rw[aF]at az;cases az;exact af⟩ ?_;have bg:((k-1:Nat):Int)=(k:Int)-1:=Ω
   simp[bg];exact dp
  ·refine jK (fun _=>⟨d,aF,Ω⟩) _ fun e=>?_;by_cases k5:k<l.length
   ·obtain⟨c,az⟩:∃c,l[k]? =some c:=⟨_,eh k5⟩;have jj:=kv c az;rw[az]at e;by_cases q:c=n
    ·have hh:(c==n)=true:=by simp[q]
     rw[if_pos (by rw[q])]at e;rw[e];simp[fN,qf,ah,aE,af,sH,k5];((with_reducible repeat' first|refine aI ?_|simp[fN,qf,ah,aE,af,sH,k5,jj,hh]|((first|apply dy|apply dC|apply dB)<;>intro h<;>try simp at h))<;>(try exact ep));all_goals simp[ca,uJ,ba,bc,a1]
    ·have hh:(c==n)=false:=by simp[q]
     rw[be (by simp[q])]at e;rw[e];simp[fN,qf,ah,aE,af,sH,k5];(with_reducible repeat' first|refine aI ?_|simp[fN,qf,ah,aE,af,sH,k5,jj,hh]);all_goals simp[ca,uJ,ba,bc,a1]
     all_goals exact AH l n k
   ·rw[List.getElem?_eq_none Ω]at e;simp only[reduceCtorEq,if_false]at e;rw[e];simp[fN,qf,ah,aE,af,sH,k5];(with_reducible repeat' first|refine aI ?_|simp[fN,qf,ah,aE,af,sH,k5]);all_goals simp[ca,uJ,ba,bc,a1]
    all_goals exact AH l n k
def iL:T->List Int->List Int
 | .var n,l=>jQ n l
 | .pair a b,l=>iL b (iL a l)
 |_,l=>l
theorem F3:∀(t:T) {l:List Int},pT l->pT (iL t l)
 | .var _,_,h=>D3 h
 | .pair a b,_,h=>F3 b (F3 a h)
 | .nil,_,h=>h
 | .sym _,_,h=>h
 | .num _,_,h=>h
theorem F4:∀(t:T) (l:List Int),(iL t l).length<=l.length+t.size
 | .var n,l=>by have:=JN n l;simp only[iL,T.size];omega
 | .pair a b,l=>by have I:=F4 a l;have aa:=F4 b (iL a l);simp only[iL,T.size];omega
 | .nil,l=>by simp[iL]
 | .sym _,l=>by simp[iL]
 | .num _,l=>by simp[iL]
theorem F0:∀(t:T) (l:List Int),l.length+t.size<=1000000->pT l->b5 aS 156 [t.e,.slice 1 .no (dI l)] (.slice 1 .no (dI (iL t l)))
 | .var n,l,aA,bL=>by
  simp only[T.size]at aA;have key:=V3 l n Ω bL;refine bT hM xA yz fun aQ=>?_;unfold vh;simp;(with_reducible repeat' first|refine aI ?_|refine bn key ?_|refine bo key ?_|simp);all_goals simp[ca,wC,ba,bc,a1]
  all_goals simp[iL,uV]
 | .pair a b,l,aA,bL=>by
  simp only[T.size]at aA;have Y7:=F4 a l;have cu:=F0 a l Ω bL;have cI:=F0 b (iL a l) Ω (F3 a bL);refine bT hM xA yz fun aQ=>?_;unfold vh;simp;refine vp [15,16] (fun i (_:Unit)=>[(1,.slice 1 .no (dI (if i=0 then l else if i=1 then iL a l else iL b (iL a l)))),(17,.int .i64 i)]) 2 (fun _ _=>True) () dp trivial (fun _ _ _=>?_) (fun i _ aB _ _=>?_)
  ·simp;(with_reducible repeat' first|refine aI ?_|simp);simp[ca,wC,ba,bc,a1];simp[iL,uV]
  ·rcases(by omega:i=0\/i=1)with rfl|rfl
   ·simp;((with_reducible repeat' first|refine aI ?_|refine bn cu ?_|refine bo cu ?_|simp|((first|apply dy|apply dC|apply dB)<;>intro h<;>try simp at h))<;>(try exact ep));exact cF.rng () aB trivial dp
   ·simp;((with_reducible repeat' first|refine aI ?_|refine bn cI ?_|refine bo cI ?_|simp|((first|apply dy|apply dC|apply dB)<;>intro h<;>try simp at h))<;>(try exact ep));exact cF.rng () aB trivial dp
 | .nil,l,aA,bL=>by refine bT hM xA yz fun aQ=>?_;unfold vh;simp;refine vp [15,16] (fun i (_:Unit)=>[(1,.slice 1 .no (dI l)),(17,.int .i64 i)]) 0 (fun _ _=>True) () dp trivial (fun _ _ _=>?_) (fun i _ aB _ _=>Ω);simp;((with_reducible repeat' first|refine aI ?_|simp|((first|apply dy|apply dC|apply dB)<;>intro h<;>try simp at h))<;>(try exact ep));simp[ca,wC,ba,bc,a1];simp[iL,uV]
 | .sym _,l,aA,bL=>by refine bT hM xA yz fun aQ=>?_;unfold vh;simp;refine vp [15,16] (fun i (_:Unit)=>[(1,.slice 1 .no (dI l)),(17,.int .i64 i)]) 0 (fun _ _=>True) () dp trivial (fun _ _ _=>?_) (fun i _ aB _ _=>Ω);simp;(with_reducible repeat' first|refine aI ?_|simp);simp[ca,wC,ba,bc,a1];simp[iL,uV]
 | .num _,l,aA,bL=>by refine bT hM xA yz fun aQ=>?_;unfold vh;simp;refine vp [15,16] (fun i (_:Unit)=>[(1,.slice 1 .no (dI l)),(17,.int .i64 i)]) 0 (fun _ _=>True) () dp trivial (fun _ _ _=>?_) (fun i _ aB _ _=>Ω);simp;(with_reducible repeat' first|refine aI ?_|simp);simp[ca,wC,ba,bc,a1];simp[iL,uV]
theorem Wa:∀(n:Nat) (g:Gm),g.sz<=n->b5 aS 211 [g.e] (.bool g.shape):=by
 intro n;induction n with
 |zero=>intro g aP;have:=g.sz_pos;omega
 |succ n a8=>
 intro g aP;have no:∀h:¬((0<=g.kind/\g.kind<=10)/\(g.kind≠9->g.name=[])/\g.ts.all aU.fits=true/\hdS g/\g.gs.all Gm.shape=true/\pM g=true),g.shape=false:=fun h=>by
  cases ao:g.shape with
  |false=>rfl
  |true=>exact absurd ((LW g).1 ao) h
 by_cases I:0<=g.kind/\g.kind<=10;rotate_left
 ·rw[no fun h=>I h.1];exact Vj g I
 by_cases aa:g.kind≠9->g.name=[];rotate_left
 ·rw[no fun h=>aa h.2.1];rw[Classical.not_imp]at aa;exact Vl g I aa.1 (by simpa using aa.2)
 have qV:g.kind≠9->g.name.isEmpty=true:=fun h=>by simpa using aa h
 cases ak:g.ts.all aU.fits
 ·rw[no fun h=>by rw[ak]at h;cases h.2.2.1];exact Vm g I qV ak
 by_cases aK:hdS g;rotate_left
 ·rw[no fun h=>aK h.2.2.2.1];exact Vi g I qV ak aK
 have aA:=Vk g I qV ak aK fun x ad=>a8 x (by have:=g.gs_lt ad;omega);have he:(g.gs.all Gm.shape&&pM g)=g.shape:=by rw[Bool.eq_iff_iff,bA,LW];exact⟨fun h=>⟨I,aa,ak,aK,h.1,h.2⟩,fun h=>⟨h.2.2.2.2.1,h.2.2.2.2.2⟩⟩
 rwa[he]at aA
theorem Wf(g:Gm):b5 aS 155 [g.e] (.bool (g.fits 80)):=by
 have AM:=V9 g.sz g (cE _) 80 Ω Ω;have pt:=Wa g.sz g (cE _);have az:=(HG g 80 Ω).1;by_cases h:g.sz<=80
 ·have I:jG g 80<=80:=az.2 Ω;have aH:g.fits 80=g.shape:=by unfold Gm.fits;rw[decide_eq_true h,Bool.and_true]
  rw[aH];refine bT jX Ig KU fun aQ=>?_;unfold Cp;clear aQ;simp;((with_reducible repeat' first|refine aI ?_|refine bn AM ?_|refine bo AM ?_|refine bn pt ?_|refine bo pt ?_|simp[I]|((first|apply dy|apply dC|apply dB)<;>intro h<;>try simp at h))<;>(try exact ep));simp[ca,E2,ba,bc,a1]
 ·have I:¬jG g 80<=80:=fun b6=>h (by have:=az.1 b6;omega);have aH:g.fits 80=false:=by unfold Gm.fits;rw[decide_eq_false h,Bool.and_false]
  rw[aH];refine bT jX Ig KU fun aQ=>?_;unfold Cp;clear aQ;simp;((with_reducible repeat' first|refine aI ?_|refine bn AM ?_|refine bo AM ?_|refine bn pt ?_|refine bo pt ?_|simp[I]|((first|apply dy|apply dC|apply dB)<;>intro h<;>try simp at h))<;>(try exact ep));simp[ca,E2,ba,bc,a1]
def gO(vs:List Int)(l:List Int):List Int:=vs.foldl (fun l v=>jQ v l) l
theorem AG(a b l:List Int):gO (a++b) l=gO b (gO a l):=List.foldl_append
theorem JO(vs:List Int):∀(l:List Int) (v:Int),v∈gO vs l↔v∈l\/v∈vs:=by
 induction vs with
 |nil=>intro l v;simp[gO]
 |cons x vs a8=>
  intro l v;show v∈gO vs (jQ x l)↔_;rw[a8,Ew];simp only[gp];constructor
  ·rintro((h|h)|h)
   ·exact .inr (.inl h)
   ·exact .inl h
   ·exact .inr (.inr h)
  ·rintro(h|h|h)
   ·exact .inl (.inr h)
   ·exact .inl (.inl h)
   ·exact .inr h
theorem Sz(vs:List Int):∀{l:List Int},pT l->pT (gO vs l):=by
 induction vs with
 |nil=>intro l h;exact h
 |cons x vs a8=>intro l h;exact a8 (D3 h)
theorem Wn(t:T):∀l:List Int,iL t l=gO t.tm.vs l:=by
 induction t with
 |pair a b rb re=>
  intro l;have:(T.pair a b).tm.vs=a.tm.vs++b.tm.vs:=by simp[T.tm,aU.vs,aU.vsL]
  rw[this,AG,<-rb,<-re];rfl
 |var n=>intro l;simp[T.tm,aU.vs,iL,gO]
 |_=>intro l;simp[T.tm,aU.vs,aU.vsL,iL,gO]
def nz(l:List Int):Prop:=pT l/\∀v∈l,0<=v/\v<=100000
theorem nz.len{l:List Int}(h:nz l):l.length<=100001:=KL (h.1.imp fun oj=>Int.ne_of_lt oj) h.2
theorem nz.ins{l vs:List Int}(h:nz l)(aL:∀v∈vs,0<=v/\v<=100000):nz (gO vs l):=⟨Sz vs h.1,fun v hm=>by rcases(JO vs l v).1 hm with b6|b6;exact h.2 v b6;exact aL v b6⟩
theorem V6{t:aU}(au:t.fits=true){l:List Int}(aA:nz l):b5 aS 156 [enc t,.slice 1 .no (dI l)] (.slice 1 .no (dI (gO t.vs l))):=by
 obtain⟨x,rfl,ad⟩:=aU.fits_ex au;rw[qT,<-Wn];have bb:x.size<=5000:=by simp only[T.fit,bA,fH]at ad;exact ad.2
 exact F0 x l (by have:=aA.len;omega) aA.1
theorem Wr{t:aU}(au:t.fits=true):∀v∈t.vs,0<=v/\v<=100000:=by obtain⟨x,rfl,ad⟩:=aU.fits_ex au;exact MD x (CX ad)
theorem SA{ts:List aU}{i:Nat}{t:aU}(h:ts[i]? =some t)(l:List Int):gO (aU.vsL (ts.take (i+1))) l=gO t.vs (gO (aU.vsL (ts.take i)) l):=by rw[lq,h,u0,u0,<-AG];simp
theorem Sy{gs:List Gm}{i:Nat}{g:Gm}(h:gs[i]? =some g)(l:List Int):gO (Gm.vsL (gs.take (i+1))) l=gO g.vs (gO (Gm.vsL (gs.take i)) l):=by rw[lq,h,tW,tW,<-AG];simp
def xa(g:Gm)(l:List Int)(i:Nat)(_:Unit):aN:=⟨[(1,.slice 1 .no (dI (gO (aU.vsL (g.ts.take i)) l))),(2,.ptr (.loc 0) 0),(10,.slice 4 .no (g.ts.map enc)),(11,.int .i64 g.ts.length),(12,.int .i64 i)],[(.loc 0,[.int .i64 g.kind,.str g.name,.slice 4 .no (g.ts.map enc),.slice 4 .no (g.gs.map Gm.e)])],[],1,[]⟩
def xb(g:Gm)(l:List Int)(i:Nat)(_:Unit):aN:=⟨[(1,.slice 1 .no (dI (gO (Gm.vsL (g.gs.take i)) l))),(21,.slice 4 .no (g.gs.map Gm.e)),(22,.int .i64 g.gs.length),(23,.int .i64 i)],[],[],1,[]⟩
theorem nz.tk{g:Gm}(ao:g.shape=true){l:List Int}(h:nz l)(i:Nat):nz (gO (aU.vsL (g.ts.take i)) l):=h.ins fun v aL=>by rw[u0,List.mem_flatMap]at aL;obtain⟨t,au,aL⟩:=aL;exact Wr (uS ao t (List.mem_of_mem_take au)) v aL
theorem nz.gk{g:Gm}(ao:g.shape=true){l:List Int}(h:nz l)(i:Nat):nz (gO (Gm.vsL (g.gs.take i)) l):=h.ins fun v aL=>by rw[tW,List.mem_flatMap]at aL;obtain⟨t,au,aL⟩:=aL;exact IZ t.sz t (cE _) (shape_gs ao t (List.mem_of_mem_take au)) v aL
theorem Wb:∀(n:Nat) (g:Gm),g.sz<=n->g.shape=true->∀l:List Int,nz l->b5 aS 89 [g.e,.slice 1 .no (dI l)] (.slice 1 .no (dI (gO g.vs l))):=by
 intro n;induction n with
 |zero=>intro g aP;have:=g.sz_pos;omega
 |succ n a8=>
 intro g aP ao l aA;have sQ:=LX ao;rw[C5,AG];refine bT jX P5 Uj fun aQ=>?_;unfold Hq;clear aQ;simp;refine iA (xa g l) g.ts.length (fun _ _=>True) () (by simp[xa,aU.vsL,gO];exact dp) trivial (fun _ _ _=>?_) (fun i _ aB _ _=>?_)
 ·have hG:=aA.tk ao g.ts.length;rw[kQ]at hG;simp[xa];generalize gO (aU.vsL g.ts) l=gP at hG⊢;(with_reducible repeat' first|refine aI ?_|simp);refine iA (xb g gP) g.gs.length (fun _ _=>True) () (by simp[xb,Gm.vsL,gO];exact dp) trivial (fun _ _ _=>?_) (fun i _ aB _ _=>?_)
  ·simp[xb];exact cH
  ·obtain⟨b,af,o9⟩:=hy aB;have cN:bm ((i:Int)+1):=by unfold bm;omega
   have hm:=gB af;have rl:=a8 b (by have:=g.gs_lt hm;omega) (shape_gs ao b hm) _ (hG.gk ao i);rw[<-Sy af]at rl;clear a8;simp[xb,aB,o9];(with_reducible repeat' first|refine aI ?_|refine bn rl ?_|refine bo rl ?_|simp[aB,o9,cN]);refine cF.rng () aB trivial (by simp[xb];exact dp)
 ·obtain⟨b,af,o9⟩:=hy aB;have cN:bm ((i:Int)+1):=by unfold bm;omega
  have rl:=V6 (uS ao b (gB af)) (aA.tk ao i);rw[<-SA af]at rl;clear a8;simp[xa,aB,o9];(with_reducible repeat' first|refine aI ?_|refine bn rl ?_|refine bo rl ?_|simp[aB,o9,cN]);refine cF.rng () aB trivial (by simp[xa];exact dp)
def pc:List (List aC):=[gX,hN,wY,wX,rW,rU,rR,rS,rV,[],rT]
theorem Rj:dz pc=[.str [116,114,117,101],.str [102,97,105,108],.str [61],.str [47,61],.str [115,121,109,98,111,108],.str [110,117,109,98,101,114],.str [97,98,115,101,110,116],.str [97,110,100],.str [111,114],.str [],.str [110,111,116]]:=rfl
theorem Wc:b5 aS 131 [] (.slice 1 .no (dz pc)):=by rw[Rj];refine bT jX P6 Uk fun aQ=>?_;unfold Hr;clear aQ;exact cH
end
end Go.Proofs.YtlnndmgfngfeiaaGreatDoor
namespace Go.Pv
section
open Go Go.Lib
def j4:Gm:= .mk 0 [] [] []
def Nn(es:List je)(P:List B9):Prop:= ∀(s:List aC) (r:B9),P.find? (fun r=>r.name==s)=some r->∃(k:Nat) (f:je),H2 es s=(k:Nat)/\es[k]? =some f/\f.ar=r.ar
section
variable {c:qG} {P:List B9} {e:je} {vl:Int} (az:Nn c.es P)
include az
end
end
end Go.Pv
namespace Go.Proofs.YtlnndmgfngfeiaaGreatDoor
section
open Go Go.Pv
theorem lH:ih ⟨[],[]⟩:=⟨⟨fun _=>rfl,fun _=>rfl⟩,fun k cs h=>by simp[Pv.look]at h,fun k cs h=>by simp[Pv.look]at h⟩
def w7(l:List (List aC))(o:aV (Gm×List (List aC)))(r:ab)(aj:cZ):Prop:=aj=⟨[],[]⟩/\match o with
 |some (g,rest)=>r= .tuple [g.e,.int .i64 (l.length-rest.length:Nat),.bool true]
 |none=> ∃(g:Gm) (k:Int),r= .tuple [g.e,.int .i64 k,.bool false]
theorem ev.rd{cA:List cr}{e:Exit}{st:aN}(l:List (List aC))(o:aV (Gm×List (List aC)))(x:ab)(k:Int)(b:Bool)(iC:e= .ret\/e= .normal)(oi:w7 l o (.tuple [x,.int .i64 k,.bool b]) ⟨[],[]⟩)(J:kin (fun _=>cw) x)(h:ff st cA fun r=>r= .tuple [x,.int .i64 k,.bool b]):ev cA ⟨[],[]⟩ (w7 l o) e st:=by
 refine ev.at ⟨[],[]⟩ iC lH (Same.refl _) (fun k cs h=>by simp[Pv.look]at h) (fun k cs h=>by simp[Pv.look]at h) ?_;unfold ff at h⊢;split at h
 ·rename_i c aZ hr;refine⟨h.1,?_⟩;rw[h.2];refine⟨?_,oi⟩;simp only[kin,kinL,and_true];exact l6 (fun _ h=>h.elim) _ J
 ·exact h.elim
theorem mr{l:List (List aC)}{g:Gm}{x:ab}(h:x=g.e)(k:Int):w7 l none (.tuple [x,.int .i64 k,.bool false]) ⟨[],[]⟩:=⟨rfl,g,k,by rw[h]⟩
theorem u9{l rest:List (List aC)}{g:Gm}{x:ab}(h:x=g.e){k:Int}(J:k=(l.length-rest.length:Nat)):w7 l (some (g,rest)) (.tuple [x,.int .i64 k,.bool true]) ⟨[],[]⟩:=⟨rfl,by rw[h,J]⟩
@[simp]theorem YK(a b c d:ab):Pv.isAgg 4 (.agg [a,b,c,d]):=⟨_,rfl,rfl⟩
theorem my:j4.e= .agg [.int .i64 0,.str [],.slice 4 .no [],.slice 4 .no []]:=by rw[Gm.e_eq];rfl
theorem o2(k:Int)(s:List aC)(ts:List T)(gs:List Gm):(Gm.mk k s (ts.map T.tm) gs).e= .agg [.int .i64 k,.str s,.slice 4 .no (ts.map T.e),.slice 4 .no (gs.map Gm.e)]:=by rw[Gm.e_eq];simp only[Gm.kind,Gm.name,Gm.ts,Gm.gs,List.map_map];rw[show ts.map (enc∘T.tm)=ts.map T.e from List.map_congr_left fun t _=>qT t]
def kx(h:List aC):Nat->Int×List aC
 |0=>(9,h)
 |i+1=>if pc[i]? =some h then((i:Int),[])else kx h i
theorem Rg{h:List aC}(b7:h≠[]):Go.Pv.hdS h=some (kx h 11):=by
 unfold Go.Pv.hdS l2;by_cases a0:h=gX
 ·subst a0;rfl
 by_cases bt:h=hN
 ·subst bt;rfl
 by_cases a2:h=wY
 ·subst a2;rfl
 by_cases a3:h=wX
 ·subst a3;rfl
 by_cases a4:h=rW
 ·subst a4;rfl
 by_cases a5:h=rU
 ·subst a5;rfl
 by_cases zj:h=rR
 ·subst zj;rfl
 by_cases lT:h=rS
 ·subst lT;rfl
 by_cases Cc:h=rV
 ·subst Cc;rfl
 by_cases a9:h=rT
 ·subst a9;rfl
 rw[be a0,be bt,be a2,be a3,be a4,be a5,be zj,be lT,be Cc,be a9];have key:∀i,i<=11->kx h i=(9,h):=by
  intro i;induction i with
  |zero=>intro _;rfl
  |succ i a8=>
   intro aB;unfold kx;rw[be fun e=>?_]
   ·exact a8 Ω
   ·have:=gB e;simp[pc,a0,bt,a2,a3,a4,a5,zj,lT,Cc,a9,b7]at this
 rw[key 11 Ω]
theorem Jd(h:List aC):∀i,i<=11->0<=(kx h i).1/\(kx h i).1<=10
 |0,_=>by simp[kx]
 |i+1,aB=>by
  unfold kx;split
  ·simp only;omega
  ·exact Jd h i Ω
def gb(k:Int)(s:List aC)(x y:ab):List (aq×List ab):=[(.loc 0,[.int .i64 0,.str [],.slice 4 .nil [],.slice 4 .nil []]),(.loc 1,[.int .i64 k,.str s,x,y])]
def tz(l:List (List aC))(h:List aC)(i:Nat)(j:Nat)(_:Unit):aN:=⟨[(0,.slice 1 .no (dz l)),(1,.int .i64 i),(4,.ptr (.loc 0) 0),(7,.ptr (.loc 1) 0),(63,.slice 1 .no (dz pc)),(64,.int .i64 11),(65,.int .i64 j)],gb (kx h j).1 (kx h j).2 (.slice 4 .nil []) (.slice 4 .nil []),[],2,[]⟩
def nZ(l:List (List aC))(dr:Int)(s:List aC):List Gm×Nat×Nat->aN
 |([],j,_)=>⟨[(0,.slice 1 .no (dz l)),(1,.int .i64 j),(4,.ptr (.loc 0) 0),(7,.ptr (.loc 1) 0)],gb dr s (.slice 4 .nil []) (.slice 4 .nil []),[],2,[]⟩
 |(x::xs,j,_)=>⟨[(0,.slice 1 .no (dz l)),(1,.int .i64 j),(4,.ptr (.loc 0) 0),(7,.ptr (.loc 1) 0)],gb dr s (.slice 4 .nil []) (.slice 4 (.own (.loc 4)) (x.e::xs.map Gm.e)),[(.loc 4,⟨xs.length+1,65,4,none⟩)],5,[]⟩
def mu(l:List (List aC))(dr:Int)(s:List aC):List T×Nat×Nat->aN
 |([],j,_)=>⟨[(0,.slice 1 .no (dz l)),(1,.int .i64 j),(4,.ptr (.loc 0) 0),(7,.ptr (.loc 1) 0)],gb dr s (.slice 4 .nil []) (.slice 4 .nil []),[],2,[]⟩
 |(x::xs,j,_)=>⟨[(0,.slice 1 .no (dz l)),(1,.int .i64 j),(4,.ptr (.loc 0) 0),(7,.ptr (.loc 1) 0)],gb dr s (.slice 4 (.own (.loc 4)) (x.e::xs.map T.e)) (.slice 4 .nil []),[(.loc 4,⟨xs.length+1,40,4,none⟩)],5,[]⟩
set_option maxRecDepth 8000 in
theorem Qv(l:List (List aC))(aA:l.length<=100000)(hw:∀w∈l,w≠[]):∀n i:Nat,i<=l.length->2*(l.length-i)+1<=n->cS aS 154 [.slice 1 .no (dz l),.int .i64 i] ⟨[],[]⟩ (w7 l (en hL Go.Pv.hdS n (l.drop i))):=by
 intro n;induction n using Nat.strongRecOn with
 |_ n a8=>
 intro i k4 aR;obtain⟨n,rfl⟩:∃m,n=m+1:=⟨n-1,Ω⟩;have cN:bm ((i:Int)+1):=by unfold bm;omega
 rcases jB k4 with rfl|aB
 ·have e:en hL Go.Pv.hdS (n+1) (l.drop l.length)=none:=by rw[ml];simp[en]
  rw[e];clear a8;have j7:(l.length:Int)<=(l.length:Int)+1:=Ω
  have ao:=lH;refine cS.mk mixed fv tR uI Ψ ao.obj fun aQ c7=>?_;unfold r8;clear aQ c7;simp;(with_reducible repeat' first|refine aI ?_|simp[cN,j7]);refine ev.rd l _ (.agg [.int .i64 0,.str [],.slice 4 .no [],.slice 4 .no []]) 0 false Ψ (mr my.symm 0) (by simp[kin,kinL]) ?_;simp[ff,jy,ba,bc,a1]
 obtain⟨w,ad⟩:∃v,l[i]? =some v:=⟨_,eh aB⟩;have gh:∀eB,((dz l)[i]'eB)= .str w:=fun eB=>by rw[qw aB];rw[eh aB]at ad;rw[iN ad]
 have bU:(i:Int)<l.length:=Ω
 rw[fZ ad];by_cases au:w=gX
 ·subst au;have e:en hL Go.Pv.hdS (n+1) (gX::l.drop (i+1))=some (.mk 0 [] [] [],l.drop (i+1)):=by simp[en]
  rw[e];unfold gX at gh ad;clear a8;have ao:=lH;refine cS.mk mixed fv tR uI Ψ ao.obj fun aQ c7=>?_;unfold r8;clear aQ c7;simp;(with_reducible repeat' first|refine aI ?_|simp[cN,aB,bU,gh,ad]);refine ev.rd l _ (.agg [.int .i64 0,.str [],.slice 4 .no [],.slice 4 .no []]) ((i:Int)+1) true Ψ (u9 my.symm (by rw[lp];omega)) (by simp[kin,kinL]) ?_;simp[ff,jy,ba,bc,a1]
 have wk:(w==[116,114,117,101])=false:=wi au;by_cases aH:w=hN
 ·subst aH;have e:en hL Go.Pv.hdS (n+1) (hN::l.drop (i+1))=some (.mk 1 [] [] [],l.drop (i+1)):=by simp[en,au]
  rw[e];unfold hN at gh ad wk;clear a8;have ao:=lH;refine cS.mk mixed fv tR uI Ψ ao.obj fun aQ c7=>?_;unfold r8;clear aQ c7;simp;(with_reducible repeat' first|refine aI ?_|simp[cN,aB,bU,gh,ad]);refine ev.rd l _ (.agg [.int .i64 1,.str [],.slice 4 .no [],.slice 4 .no []]) ((i:Int)+1) true Ψ (u9 (o2 1 [] [] []).symm (by rw[lp];omega)) (by simp[kin,kinL]) ?_;simp[ff,jy,ba,bc,a1]
 have yv:(w==[102,97,105,108])=false:=wi aH;by_cases su:w=[40];rotate_left
 ·have wg:=uF su;have e:en hL Go.Pv.hdS (n+1) (w::l.drop (i+1))=none:=by simp[en,au,aH,su]
  rw[e];clear a8;by_cases j7:(l.length:Int)<=(i:Int)+1
  ·have ao:=lH;refine cS.mk mixed fv tR uI Ψ ao.obj fun aQ c7=>?_;unfold r8;clear aQ c7;simp;(with_reducible repeat' first|refine aI ?_|simp[cN,aB,bU,gh,ad,wk,yv,j7]);refine ev.rd l _ (.agg [.int .i64 0,.str [],.slice 4 .no [],.slice 4 .no []]) 0 false Ψ (mr my.symm 0) (by simp[kin,kinL]) ?_;simp[ff,jy,ba,bc,a1]
  ·have ao:=lH;refine cS.mk mixed fv tR uI Ψ ao.obj fun aQ c7=>?_;unfold r8;clear aQ c7;simp;((with_reducible repeat' first|refine aI ?_|simp[cN,aB,bU,gh,ad,wk,yv,j7,wg]|((first|apply dy|apply dC|apply dB)<;>intro h<;>try simp at h))<;>(try exact ep));refine ev.rd l _ (.agg [.int .i64 0,.str [],.slice 4 .no [],.slice 4 .no []]) 0 false Ψ (mr my.symm 0) (by simp[kin,kinL]) ?_;simp[ff,jy,ba,bc,a1]
 subst su;rcases jB (show i+1<=l.length from aB)with I|I
 ·have e:en hL Go.Pv.hdS (n+1) ([40]::l.drop (i+1))=none:=by rw[I,ml];simp[en,au,aH]
  rw[e];have j7:(l.length:Int)<=(i:Int)+1:=Ω
  clear a8;have ao:=lH;refine cS.mk mixed fv tR uI Ψ ao.obj fun aQ c7=>?_;unfold r8;clear aQ c7;simp;(with_reducible repeat' first|refine aI ?_|simp[cN,aB,bU,gh,ad,wk,yv,j7]);refine ev.rd l _ (.agg [.int .i64 0,.str [],.slice 4 .no [],.slice 4 .no []]) 0 false Ψ (mr my.symm 0) (by simp[kin,kinL]) ?_;simp[ff,jy,ba,bc,a1]
 obtain⟨h,bq⟩:∃v,l[i+1]? =some v:=⟨_,eh I⟩;have Ai:∀eB,((dz l)[i+1]'eB)= .str h:=fun eB=>by rw[qw I];rw[eh I]at bq;rw[iN bq]
 have b7:=hw h (gB bq);have j7:¬(l.length:Int)<=(i:Int)+1:=Ω
 have lz:(0:Int)<=(i:Int)+1:=Ω
 have xU:(i:Int)+1<l.length:=Ω
 have jL:((i:Int)+1).toNat=i+1:=Ω
 have I1:bm ((i:Int)+2):=by unfold bm;omega
 have DJ:=Jd h;obtain⟨O,C8⟩:∃O,O=en hL Go.Pv.hdS (n+1) ([40]::l.drop (i+1)):=⟨_,rfl⟩;rw[<-C8];have tY:dO hL Go.Pv.hdS n (kx h 11).1 (kx h 11).2 [] [] (l.drop (i+2))=O:=by rw[C8,fZ bq];simp only[en];rw[be (by decide),be (by decide),if_pos trivial,Rg b7]
 have AN:=Wc;clear C8;have ao:=lH;refine cS.mk mixed fv tR uI Ψ ao.obj fun aQ c7=>?_;unfold r8;clear aQ c7;simp;(with_reducible repeat' first|refine aI ?_|refine bn AN ?_|refine bo AN ?_|simp[cN,aB,bU,gh,ad,wk,yv,j7,lz,xU,jL,Ai,bq,I]);refine iA (tz l h i) 11 (fun _ _=>True) () (by simp[tz,gb,kx,pc,lz];exact⟨by simp[fresh,kinL,kin,b1,aG,Pv.look,dD],eR (by simp[fresh,kinL,kin,b1,aG,Pv.look,dD]),eS (by simp[fresh,kinL,kin,ef,aG,Pv.look,dD]),Ψ⟩) trivial (fun _ _ _=>?_) (fun j _ av _ _=>?_);rotate_left
 ·obtain⟨u,hu⟩:∃u,pc[j]? =some u:=⟨_,eh av⟩;have jM:j<pc.length:=av;have mH:∀h,((dz pc)[j]'h)= .str u:=fun h=>by rw[qw jM];rw[eh jM]at hu;rw[iN hu]
  have gH:bm ((j:Int)+1):=by unfold bm;omega
  have eV:j<(dz pc).length:=av;have qd:kx h (j+1)=if u=h then((j:Int),[])else kx h j:=by show(if pc[j]? =some h then((j:Int),[])else kx h j)=_;rw[hu];simp only[dv]
  clear a8 tY DJ AN;by_cases he:u=h
  ·subst he;rw[if_pos rfl]at qd;simp[tz,gb,av];((with_reducible repeat' first|refine aI ?_|simp[av,mH,hu,jM,eV,cN,lz,xU,jL,Ai,bq,I,gH]|((first|apply dy|apply dC|apply dB)<;>intro h<;>try simp at h))<;>(try exact ep));refine cF.rng () av trivial (by simp[tz,gb,qd];exact⟨by simp[fresh,kinL,kin,b1,aG,Pv.look,dD],eR (by simp[fresh,kinL,kin,b1,aG,Pv.look,dD]),eS (by simp[fresh,kinL,kin,ef,aG,Pv.look,dD]),Ψ⟩)
  ·rw[be he]at qd;have af:=wi he;simp[tz,gb,av];((with_reducible repeat' first|refine aI ?_|simp[av,mH,hu,jM,eV,cN,lz,xU,jL,Ai,bq,I,gH,af]|((first|apply dy|apply dC|apply dB)<;>intro h<;>try simp at h))<;>(try exact ep));refine cF.rng () av trivial (by simp[tz,gb,qd];exact⟨by simp[fresh,kinL,kin,b1,aG,Pv.look,dD],eR (by simp[fresh,kinL,kin,b1,aG,Pv.look,dD]),eS (by simp[fresh,kinL,kin,ef,aG,Pv.look,dD]),Ψ⟩)
 obtain⟨Bo,eH⟩:=DJ 11 Ω;have pa:((i+2:Nat):Int)=(i:Int)+2:=Ω
 clear AN DJ gh ad Ai bq j7 lz xU jL cN wk yv au aH bU;simp[tz,gb];generalize (kx h 11).1=dr at tY Bo eH⊢;generalize (kx h 11).2=gi at tY⊢;cases mF:jb dr
 ·have Am:(dr==7)=false:=by simp[jb]at mF;exact beq_eq_false_iff_ne.2 mF.1.1
  have Ao:(dr==8)=false:=by simp[jb]at mF;exact beq_eq_false_iff_ne.2 mF.1.2
  have lA:(dr==10)=false:=by simp[jb]at mF;exact beq_eq_false_iff_ne.2 mF.2
  (with_reducible repeat' first|refine aI ?_|simp[I1]);refine jI (mu l dr gi) (fun x=>l.length-x.2.1) (fun x=>x.2.1<=l.length/\2*(l.length-x.2.1)+2<=x.2.2/\x.2.2<=n/\dO hL Go.Pv.hdS x.2.2 dr gi x.1 [] (l.drop x.2.1)=O/\x.1.length<=x.2.1) ([],i+2,n) (by simp[mu,gb,pa];exact dp) ⟨by simp;omega,by simp;omega,cE _,tY,Ψ⟩ ?_;rintro⟨acc,j,k⟩ ⟨av,J,uf,c1,h2⟩ _;simp only at av J uf c1 h2;clear tY a8;obtain⟨k,rfl⟩:∃m,k=m+1:=⟨k-1,Ω⟩;have lx:acc.length+1<=bX:=by unfold bX;omega
  rcases jB av with rfl|eV
  ·rw[ml]at c1;simp only[dO]at c1;subst c1;have gH:bm ((l.length:Int)+1):=by unfold bm;omega
   cases acc with
   |nil=>simp[mu,gb];(with_reducible repeat' first|refine aI ?_|simp[gH]);refine ev.rd l _ (.agg [.int .i64 dr,.str gi,.slice 4 .no [],.slice 4 .no []]) ((l.length:Int)+1) false Ψ (mr (o2 dr gi [] []).symm _) (by simp[kin,kinL]) ?_;simp[ff,jy,ba,bc,a1]
   |cons a fo=>simp[mu,gb];(with_reducible repeat' first|refine aI ?_|simp[gH]);refine ev.rd l _ (.agg [.int .i64 dr,.str gi,.slice 4 .no ((a::fo).map T.e),.slice 4 .no []]) ((l.length:Int)+1) false Ψ (mr (o2 dr gi (a::fo) []).symm _) (by simp[kin,kinL]) ?_;simp[ff,jy,ba,bc,a1]
  obtain⟨v,aL⟩:∃v,l[j]? =some v:=⟨_,eh eV⟩;have fl:∀eB,((dz l)[j]'eB)= .str v:=fun eB=>by rw[qw eV];rw[eh eV]at aL;rw[iN aL]
  have gH:bm ((j:Int)+1):=by unfold bm;omega
  have l4:(j:Int)<l.length:=Ω
  rw[fZ aL]at c1;by_cases gr:v=[41]
  ·subst gr;simp only[dO,if_true]at c1;have np:((j:Int)+1)=((l.length-(l.drop (j+1)).length:Nat):Int):=by rw[lp];omega
   by_cases jn:1<dr
   ·rw[if_pos jn]at c1;subst c1;cases acc with
    |nil=>simp[mu,gb];(with_reducible repeat' first|refine aI ?_|simp[gH,eV,l4,fl,aL,jn]);refine ev.rd l _ (.agg [.int .i64 dr,.str gi,.slice 4 .no [],.slice 4 .no []]) ((j:Int)+1) true Ψ (u9 (o2 dr gi [] []).symm np) (by simp[kin,kinL]) ?_;simp[ff,jy,ba,bc,a1]
    |cons a fo=>simp[mu,gb];(with_reducible repeat' first|refine aI ?_|simp[gH,eV,l4,fl,aL,jn]);refine ev.rd l _ (.agg [.int .i64 dr,.str gi,.slice 4 .no ((a::fo).map T.e),.slice 4 .no []]) ((j:Int)+1) true Ψ (u9 (o2 dr gi (a::fo) []).symm np) (by simp[kin,kinL]) ?_;simp[ff,jy,ba,bc,a1]
   ·rw[be jn]at c1;subst c1;cases acc with
    |nil=>simp[mu,gb];(with_reducible repeat' first|refine aI ?_|simp[gH,eV,l4,fl,aL,jn]);refine ev.rd l _ (.agg [.int .i64 dr,.str gi,.slice 4 .no [],.slice 4 .no []]) ((j:Int)+1) false Ψ (mr (o2 dr gi [] []).symm _) (by simp[kin,kinL]) ?_;simp[ff,jy,ba,bc,a1]
    |cons a fo=>simp[mu,gb];(with_reducible repeat' first|refine aI ?_|simp[gH,eV,l4,fl,aL,jn]);refine ev.rd l _ (.agg [.int .i64 dr,.str gi,.slice 4 .no ((a::fo).map T.e),.slice 4 .no []]) ((j:Int)+1) false Ψ (mr (o2 dr gi (a::fo) []).symm _) (by simp[kin,kinL]) ?_;simp[ff,jy,ba,bc,a1]
  have ld:=uF gr;have cU:=V8 l aA hw (2*(l.length-j)+1) j Ω (cE _);have eF:rd gD (2*(l.length-j)+1) (l.drop j)=hL (v::l.drop (j+1)):=by unfold hL;rw[<-fZ aL,lp]
  rw[eF]at cU;simp only[dO,be gr,mF,ia,if_false]at c1;cases dS:hL (v::l.drop (j+1))with
  |none=>
   rw[dS]at cU c1;simp only[iv]at c1 cU;subst c1;generalize nG l j=q at cU;cases acc with
   |nil=>simp[mu,gb];((with_reducible repeat' first|refine aI ?_|refine bn cU ?_|refine bo cU ?_|simp[gH,eV,l4,fl,aL,ld,Am,Ao,lA]|((first|apply dy|apply dC|apply dB)<;>intro h<;>try simp at h))<;>(try exact ep));refine ev.rd l _ (.agg [.int .i64 0,.str [],.slice 4 .no [],.slice 4 .no []]) 0 false Ψ (mr my.symm 0) (by simp[kin,kinL]) ?_;simp[ff,jy,ba,bc,a1]
   |cons a fo=>simp[mu,gb];((with_reducible repeat' first|refine aI ?_|refine bn cU ?_|refine bo cU ?_|simp[gH,eV,l4,fl,aL,ld,Am,Ao,lA]|((first|apply dy|apply dC|apply dB)<;>intro h<;>try simp at h))<;>(try exact ep));refine ev.rd l _ (.agg [.int .i64 0,.str [],.slice 4 .no [],.slice 4 .no []]) 0 false Ψ (mr my.symm 0) (by simp[kin,kinL]) ?_;simp[ff,jy,ba,bc,a1]
  |some tr=>
   obtain⟨t,rest⟩:=tr;rw[dS]at cU c1;obtain⟨gg,ot⟩:=BG (j:=j) (by rw[fZ aL];exact(y8 _ _ _ dS).1);have ya:=(y8 _ _ _ dS).2;have JH:rest.length<l.length-j:=by simp at ya;omega
   obtain⟨p,aY⟩:∃p,p=l.length-rest.length:=⟨_,rfl⟩;simp only[iv,<-aY]at cU;simp only at c1;rw[<-aY]at gg;rw[gg]at c1;cases acc with
   |nil=>simp[mu,gb];((with_reducible repeat' first|refine aI ?_|refine bn cU ?_|refine bo cU ?_|simp[gH,eV,l4,fl,aL,ld,Am,Ao,lA]|((first|apply dy|apply dC|apply dB)<;>intro h<;>try simp at h))<;>(try exact ep));refine cF.whl ([t],p,k) (by show l.length-p<l.length-j;omega) ⟨by show p<=l.length;omega,by show 2*(l.length-p)+2<=k;omega,by show k<=n;omega,c1,by simp;omega⟩ (by simp[mu,gb];exact⟨by simp[fresh,kinL,kin,b1,aG,Pv.look,dc],eR (by simp[fresh,kinL,kin,b1,aG,Pv.look,dc]),eS (by simp[fresh,kinL,kin,ef,aG,Pv.look,dc]),Ψ⟩)
   |cons a fo=>simp only[lN]at lx;simp[mu,gb];((with_reducible repeat' first|refine aI ?_|refine bn cU ?_|refine bo cU ?_|simp[gH,eV,l4,fl,aL,ld,Am,Ao,lA,lx]|((first|apply dy|apply dC|apply dB)<;>intro h<;>try simp at h))<;>(try exact ep));refine cF.whl (a::(fo++[t]),p,k) (by show l.length-p<l.length-j;omega) ⟨by show p<=l.length;omega,by show 2*(l.length-p)+2<=k;omega,by show k<=n;omega,c1,by simp at h2⊢;omega⟩ (by simp[mu,gb];exact⟨by simp[fresh,kinL,kin,b1,aG,Pv.look,dc],eR (by simp[fresh,kinL,kin,b1,aG,Pv.look,dc]),eS (by simp[fresh,kinL,kin,ef,aG,Pv.look,dc]),Ψ⟩)
 ·have jn:1<dr:=by simp[jb]at mF;omega
  have mD:dr=7\/dr=8\/dr=10:=by simp[jb]at mF;omega
  (with_reducible repeat' first|refine aI ?_|simp[I1]);refine jI (nZ l dr gi) (fun x=>l.length-x.2.1) (fun x=>x.2.1<=l.length/\2*(l.length-x.2.1)+2<=x.2.2/\x.2.2<=n/\dO hL Go.Pv.hdS x.2.2 dr gi [] x.1 (l.drop x.2.1)=O/\x.1.length<=x.2.1) ([],i+2,n) (by simp[nZ,gb,pa];exact dp) ⟨by simp;omega,by simp;omega,cE _,tY,Ψ⟩ ?_;rintro⟨acc,j,k⟩ ⟨av,J,uf,c1,h2⟩ _;simp only at av J uf c1 h2;clear tY;obtain⟨k,rfl⟩:∃m,k=m+1:=⟨k-1,Ω⟩;have lx:acc.length+1<=bX:=by unfold bX;omega
  rcases jB av with rfl|eV
  ·rw[ml]at c1;simp only[dO]at c1;subst c1;have gH:bm ((l.length:Int)+1):=by unfold bm;omega
   clear a8;cases acc with
   |nil=>simp[nZ,gb];(with_reducible repeat' first|refine aI ?_|simp[gH]);refine ev.rd l _ (.agg [.int .i64 dr,.str gi,.slice 4 .no [],.slice 4 .no []]) ((l.length:Int)+1) false Ψ (mr (o2 dr gi [] []).symm _) (by simp[kin,kinL]) ?_;simp[ff,jy,ba,bc,a1]
   |cons a fo=>simp[nZ,gb];(with_reducible repeat' first|refine aI ?_|simp[gH]);refine ev.rd l _ (.agg [.int .i64 dr,.str gi,.slice 4 .no [],.slice 4 .no ((a::fo).map Gm.e)]) ((l.length:Int)+1) false Ψ (mr (o2 dr gi [] (a::fo)).symm _) (by simp[kin,kinL]) ?_;simp[ff,jy,ba,bc,a1]
  obtain⟨v,aL⟩:∃v,l[j]? =some v:=⟨_,eh eV⟩;have fl:∀eB,((dz l)[j]'eB)= .str v:=fun eB=>by rw[qw eV];rw[eh eV]at aL;rw[iN aL]
  have gH:bm ((j:Int)+1):=by unfold bm;omega
  have l4:(j:Int)<l.length:=Ω
  rw[fZ aL]at c1;by_cases gr:v=[41]
  ·subst gr;simp only[dO,if_true]at c1;have np:((j:Int)+1)=((l.length-(l.drop (j+1)).length:Nat):Int):=by rw[lp];omega
   rw[if_pos jn]at c1;subst c1;clear a8;cases acc with
   |nil=>simp[nZ,gb];(with_reducible repeat' first|refine aI ?_|simp[gH,eV,l4,fl,aL,jn]);refine ev.rd l _ (.agg [.int .i64 dr,.str gi,.slice 4 .no [],.slice 4 .no []]) ((j:Int)+1) true Ψ (u9 (o2 dr gi [] []).symm np) (by simp[kin,kinL]) ?_;simp[ff,jy,ba,bc,a1]
   |cons a fo=>simp[nZ,gb];(with_reducible repeat' first|refine aI ?_|simp[gH,eV,l4,fl,aL,jn]);refine ev.rd l _ (.agg [.int .i64 dr,.str gi,.slice 4 .no [],.slice 4 .no ((a::fo).map Gm.e)]) ((j:Int)+1) true Ψ (u9 (o2 dr gi [] (a::fo)).symm np) (by simp[kin,kinL]) ?_;simp[ff,jy,ba,bc,a1]
  have ld:=uF gr;have cU:=a8 k Ω j Ω Ω;rw[fZ aL]at cU;simp only[dO,be gr,mF,if_true]at c1;cases dS:en hL Go.Pv.hdS k (v::l.drop (j+1))with
  |none=>
   rw[dS]at cU c1;simp only at c1;subst c1;clear a8;cases acc with
   |nil=>
    rcases mD with rfl|rfl|rfl;all_goals
     simp[nZ,gb]
     ((with_reducible repeat' first|refine aI ?_|simp[gH,eV,l4,fl,aL,ld]|((first|apply dy|apply dC|apply dB)<;>intro h<;>try simp at h))<;>(try exact ep))
     refine CallDo.ob (cU) lH (fun k cs h=>by simp[Pv.look]at h) (fun k cs h=>by simp[Pv.look]at h) (by simp[kinL,kin]) ?_
     rintro r aj bj
     obtain⟨rfl,x,q,rfl⟩:=bj
     refine⟨Same.refl _,?_⟩
     simp[bs]
     (with_reducible repeat' first|refine aI ?_|simp)
     refine ev.rd l _ (.agg [.int .i64 0,.str [],.slice 4 .no [],.slice 4 .no []]) 0 false Ψ (mr my.symm 0) (by simp[kin,kinL]) ?_
     simp[ff,jy,ba,bc,a1]
   |cons a fo=>
    rcases mD with rfl|rfl|rfl;all_goals
     simp[nZ,gb]
     ((with_reducible repeat' first|refine aI ?_|simp[gH,eV,l4,fl,aL,ld]|((first|apply dy|apply dC|apply dB)<;>intro h<;>try simp at h))<;>(try exact ep))
     refine CallDo.ob (cU) lH (fun k cs h=>by simp[Pv.look]at h) (fun k cs h=>by simp[Pv.look]at h) (by simp[kinL,kin]) ?_
     rintro r aj bj
     obtain⟨rfl,x,q,rfl⟩:=bj
     refine⟨Same.refl _,?_⟩
     simp[bs]
     (with_reducible repeat' first|refine aI ?_|simp)
     refine ev.rd l _ (.agg [.int .i64 0,.str [],.slice 4 .no [],.slice 4 .no []]) 0 false Ψ (mr my.symm 0) (by simp[kin,kinL]) ?_
     simp[ff,jy,ba,bc,a1]
  |some tr=>
   obtain⟨g,rest⟩:=tr;rw[dS]at cU c1;obtain⟨gg,ot⟩:=BG (j:=j) (by rw[fZ aL];exact(wE y8 _ _ _ _ dS).1);have ya:=(wE y8 _ _ _ _ dS).2;have JH:rest.length<l.length-j:=by simp at ya;omega
   obtain⟨p,aY⟩:∃p,p=l.length-rest.length:=⟨_,rfl⟩;simp only at c1;rw[<-aY]at gg;rw[gg]at c1;clear a8;cases acc with
   |nil=>
    rcases mD with rfl|rfl|rfl;all_goals
     simp[nZ,gb]
     ((with_reducible repeat' first|refine aI ?_|simp[gH,eV,l4,fl,aL,ld]|((first|apply dy|apply dC|apply dB)<;>intro h<;>try simp at h))<;>(try exact ep))
     refine CallDo.ob (cU) lH (fun k cs h=>by simp[Pv.look]at h) (fun k cs h=>by simp[Pv.look]at h) (by simp[kinL,kin]) ?_
     rintro r aj bj
     obtain⟨rfl,rfl⟩:=bj
     rw[<-aY]
     refine⟨Same.refl _,?_⟩
     simp[bs]
     (with_reducible repeat' first|refine aI ?_|simp)
     refine cF.whl ([g],p,k) (by show l.length-p<l.length-j;omega) ⟨by show p<=l.length;omega,by show 2*(l.length-p)+2<=k;omega,by show k<=n;omega,c1,by simp;omega⟩ (by simp[nZ,gb];exact⟨by simp[fresh,kinL,kin,b1,aG,Pv.look,dc],eR (by simp[fresh,kinL,kin,b1,aG,Pv.look,dc]),eS (by simp[fresh,kinL,kin,ef,aG,Pv.look,dc]),Ψ⟩)
   |cons a fo=>
    simp only[lN]at lx;rcases mD with rfl|rfl|rfl;all_goals
     simp[nZ,gb]
     ((with_reducible repeat' first|refine aI ?_|simp[gH,eV,l4,fl,aL,ld]|((first|apply dy|apply dC|apply dB)<;>intro h<;>try simp at h))<;>(try exact ep))
     refine CallDo.ob (cU) lH (fun k cs h=>by simp[Pv.look]at h) (fun k cs h=>by simp[Pv.look]at h) (by simp[kinL,kin]) ?_
     rintro r aj bj
     obtain⟨rfl,rfl⟩:=bj
     rw[<-aY]
     refine⟨Same.refl _,?_⟩
     simp[bs]
     (with_reducible repeat' first|refine aI ?_|simp[lx])
     refine cF.whl (a::(fo++[g]),p,k) (by show l.length-p<l.length-j;omega) ⟨by show p<=l.length;omega,by show 2*(l.length-p)+2<=k;omega,by show k<=n;omega,c1,by simp at h2⊢;omega⟩ (by simp[nZ,gb];exact⟨by simp[fresh,kinL,kin,b1,aG,Pv.look,dc],eR (by simp[fresh,kinL,kin,b1,aG,Pv.look,dc]),eS (by simp[fresh,kinL,kin,ef,aG,Pv.look,dc]),Ψ⟩)
def ve:C:=(al [eu (.alloc 2 none (.agg [.int .i64 0,.str [],.slice 4 .nil [],.slice 4 .nil []])),bM 3 false] (al [ae 9 0,dY 10 82 9,ae 8 10,ek 11 0 8,ek 12 1 8,ae 4 11,ae 5 12] (.seq (al [ae 13 5,eQ 14 13] (bf 14 (al [a7 15 (.build [.int .i64 0,.str [],.slice 4 .nil [],.slice 4 .nil []] []),bO 4 2 15,bM 3 false] .ret) .skip)) (al [ae 16 4,a7 17 (.build [.slice 1 .nil [],.int .i64 0] [(0,1,(.t 16))]),eu (.box 18 (some 871) (.t 17)),ae 6 18] (al [ae 20 6,ae 21 6,a7 22 (.mkf 1000084 [.t 21]),gA 23 114 20 22,ae 19 23,ek 24 0 19,ek 25 1 19,eu (.alloc 7 none (.agg [.int .i64 0,.str [],.slice 4 .nil [],.slice 4 .nil []])),bO 4 7 24,ae 5 25] (.seq (al [ae 26 5,eQ 27 26,ae 28 27,b0 28 false 29 6,aM 28 false (dY 30 83 29),aM 28 false (eQ 31 30),ds 32 28 31,ae 33 32,aM 33 false (cP 34 4 7),aM 33 false (dY 35 115 34),aM 33 false (eQ 36 35),ds 37 33 36] (bf 37 (al [a7 38 (.build [.int .i64 0,.str [],.slice 4 .nil [],.slice 4 .nil []] []),bO 4 2 38,bM 3 false] .ret) .skip)) (al [cP 39 4 7,bO 4 2 39,bM 3 true] .ret)))))))
@[simp] def wz:List cr:=[.cell 2 true 4,.tmp 3]
def vf:C:=(.seq (.block 0 (.loop (.seq (al [ae 56 0,⟨none,.call (some 57) (.c (.func 177 [])) [.t 56,(.c (.str [41]))]⟩,eQ 58 57] (bf 58 .skip (.exit 0))) (.block 1 (.seq (al [bB 59 0 1 10,bu 60 1 59,bd 61 .eql 60 7,ae 62 61,aM 62 false (bB 63 0 1 10),aM 62 false (bu 64 1 63),aM 62 false (bd 65 .eql 64 8),ds 66 62 65,ae 67 66,aM 67 false (bB 68 0 1 10),aM 67 false (bu 69 1 68),aM 67 false (bd 70 .eql 69 10),ds 71 67 70] (bf 71 (al [ae 73 0,ae 74 1,gA 75 114 73 74,ae 72 75,ek 76 0 72,ek 77 1 72,eu (.alloc 11 none (.agg [.int .i64 0,.str [],.slice 4 .nil [],.slice 4 .nil []])),bO 4 11 76,ae 12 77] (.seq (al [ae 78 12,eQ 79 78] (bf 79 (al [a7 80 (.build [.int .i64 0,.str [],.slice 4 .nil [],.slice 4 .nil []] []),bO 4 4 80,bM 5 false] .ret) .skip)) (al [bB 81 3 1 10,bu 82 1 81,cP 83 4 11,h9 84 4 65 [.t 83],nP 85 4 65 82 84,bB 86 3 1 10,bO 1 86 85] (.exit 1)))) .skip)) (al [ae 88 1,⟨none,.callb (some 89) (.t 88)⟩,ae 87 89,ek 90 0 87,ek 91 1 87,hv 13 dE,bO 4 13 90,ae 14 91] (.seq (al [ae 92 14,eQ 93 92] (bf 93 (al [a7 94 (.build [.int .i64 0,.str [],.slice 4 .nil [],.slice 4 .nil []] []),bO 4 4 94,bM 5 false] .ret) .skip)) (.region [bB 95 2 1 10,bu 96 1 95,cP 97 4 13,h9 98 4 40 [.t 97],nP 99 4 40 96 98,bB 100 2 1 10,bO 1 100 99])))))))) (al [cP 101 4 10,bO 4 4 101,bM 5 true] .ret))
def r6:C:=(al [eu (.alloc 4 none (.agg [.int .i64 0,.str [],.slice 4 .nil [],.slice 4 .nil []])),bM 5 false] (.seq (al [ae 15 0,⟨none,.call (some 16) (.c (.func 177 [])) [.t 15,(.c (.str [116,114,117,101]))]⟩] (bf 16 (al [a7 17 (.build [.int .i64 0,.str [],.slice 4 .nil [],.slice 4 .nil []] [(0,1,(cQ 0))]),bO 4 4 17,bM 5 true] .ret) .skip)) (.seq (al [ae 18 0,⟨none,.call (some 19) (.c (.func 177 [])) [.t 18,(.c (.str [102,97,105,108]))]⟩] (bf 19 (al [a7 20 (.build [.int .i64 0,.str [],.slice 4 .nil [],.slice 4 .nil []] [(0,1,(cQ 1))]),bO 4 4 20,bM 5 true] .ret) .skip)) (.seq (al [ae 21 0,⟨none,.call (some 22) (.c (.func 177 [])) [.t 21,(.c (.str [40]))]⟩,eQ 23 22,ae 24 23,b0 24 false 25 0,aM 24 false (dY 26 83 25),ds 27 24 26] (bf 27 (al [a7 28 (.build [.int .i64 0,.str [],.slice 4 .nil [],.slice 4 .nil []] []),bO 4 4 28,bM 5 false] .ret) .skip)) (al [ae 29 0,dY 30 178 29,ae 6 30] (al [ae 31 0,kP 32 31,bB 33 1 1 32,bu 34 1 33,bd 35 .add 34 1,kP 36 31,bB 37 1 1 36,bO 1 37 35] (al [eu (.mkmap 38 none),eu (.mput .s (.t 38) (.c (.str [61])) (cQ 2)),eu (.mput .s (.t 38) (.c (.str [47,61])) (cQ 3)),eu (.mput .s (.t 38) (.c (.str [115,121,109,98,111,108])) (cQ 4)),eu (.mput .s (.t 38) (.c (.str [110,117,109,98,101,114])) (cQ 5)),eu (.mput .s (.t 38) (.c (.str [97,98,115,101,110,116])) (cQ 6)),eu (.mput .s (.t 38) (.c (.str [97,110,100])) (cQ 7)),eu (.mput .s (.t 38) (.c (.str [111,114])) (cQ 8)),eu (.mput .s (.t 38) (.c (.str [110,111,116])) (cQ 10)),ae 39 38,ae 7 39] (al [ae 41 7,ae 42 6,a7 43 (.mget .s (.int .i64 0) true (.t 41) (.t 42)),ae 40 43,ek 44 0 40,ek 45 1 40,ae 8 44,ae 9 45] (al [ae 46 8,a7 47 (.build [.int .i64 0,.str [],.slice 4 .nil [],.slice 4 .nil []] [(0,1,(.t 46))]),eu (.alloc 10 none (.agg [.int .i64 0,.str [],.slice 4 .nil [],.slice 4 .nil []])),bO 4 10 47] (.seq (al [ae 48 9,eQ 49 48] (bf 49 (.seq (al [ae 50 6,dY 51 103 50,eQ 52 51] (bf 52 (al [a7 53 (.build [.int .i64 0,.str [],.slice 4 .nil [],.slice 4 .nil []] []),bO 4 4 53,bM 5 false] .ret) .skip)) (.region [ae 54 6,a7 55 (.build [.int .i64 0,.str [],.slice 4 .nil [],.slice 4 .nil []] [(0,1,(cQ 9)),(1,1,(.t 54))]),bO 4 10 55])) .skip)) vf))))))))))
@[simp] def UG:List cr:=[.cell 4 true 4,.tmp 5]
def FU:List (Nat×cm):=[
 (3,⟨1,8,.int .i64,.int .i64 0⟩),
 (9,⟨1,16,.str,.str []⟩),
 (38,⟨1,24,.slice 40,.slice 4 .nil []⟩),
 (40,⟨4,56,.struct [(0,3),(1,3),(2,9),(3,38)],.agg [.int .i64 0,.int .i64 0,.str [],.slice 4 .nil []]⟩),
 (63,⟨1,24,.slice 65,.slice 4 .nil []⟩),
 (65,⟨4,72,.struct [(0,3),(1,9),(2,38),(3,63)],.agg [.int .i64 0,.str [],.slice 4 .nil [],.slice 4 .nil []]⟩),
 (70,⟨1,24,.slice 9,.slice 1 .nil []⟩),
 (131,⟨2,32,.struct [(0,70),(1,3)],.agg [.slice 1 .nil [],.int .i64 0]⟩),
 (213,⟨1,8,.map 9 3,.junk⟩)]
theorem oJ:dJ aS FU=true:=by kernel_rfl
theorem yx:c6 FU ve wz 1 Tryz.f44=true:=by kernel_rfl
theorem xy:aS.funcs[(44:Nat)]? =some Tryz.f44:=Tryz.func44
theorem uG:c6 FU r6 UG 2 Tryz.f114=true:=by kernel_rfl
theorem tP:aS.funcs[(114:Nat)]? =some Tryz.f114:=Tryz.func114
end
end Go.Proofs.YtlnndmgfngfeiaaGreatDoor
namespace Go.Pv
section
open Go Go.RowKit
def jW:List (List aC×ab)->List ab
 |[]=>[]
 |(k,v)::r=>.str k::v::jW r
def mS(l:List (List aC×ab)):List ab:= .hdm l.length (List.range l.length)::jW l
def wQ(k:List aC):List (List aC×ab)->aV ab
 |[]=>none
 |(i,v)::r=>if k=i then some v else wQ k r
def rJ(k:List aC)(v:ab):List (List aC×ab)->aV (List (List aC×ab))
 |[]=>none
 |(i,w)::r=>if k=i then some ((k,v)::r)else match rJ k v r with|some cv=>some ((i,w)::cv)|none=>none
def pK(k:List aC)(v:ab)(l:List (List aC×ab)):List (List aC×ab):=match rJ k v l with|some fE=>fE|none=>l++[(k,v)]
theorem LV:∀a b,jW (a++b)=jW a++jW b
 |[],_=>rfl
 |(k,v)::r,b=>by simp[jW,LV r b]
theorem Kc(a b:List aC):rj .s (.str a) (.str b)=some (a==b):=rfl
theorem KA(k:List aC):∀l,qo .s (.str k) (jW l)=some (wQ k l)
 |[]=>rfl
 |(i,v)::r=>by
  simp only[jW,qo,Kc,wQ];by_cases h:k=i
  ·simp[h]
  ·have:(k==i)=false:=by simp[h]
   simp[h,KA k r,this]
theorem L3{k:List aC}{v:ab}:∀{l fE},rJ k v l=some fE->fE.length=l.length
 |[],_,h=>by simp[rJ]at h
 |(i,w)::r,fE,h=>by
  simp only[rJ]at h;split at h
  ·cases h;rfl
  ·split at h
   ·rename_i cv hr;cases h;simp[L3 hr]
   ·cases h
theorem KI(k:List aC)(v:ab):∀l,rq .s (.str k) v (jW l)=some ((rJ k v l).map jW)
 |[]=>rfl
 |(i,w)::r=>by
  simp only[jW,rq,Kc,rJ];by_cases h:k=i
  ·subst h;simp[jW]
  ·have:(k==i)=false:=by simp[h]
   simp only[this,h,if_false,KI k v r];cases rJ k v r<;>simp[jW]
@[simp]theorem Tu(k:List aC)(v:ab)(l:List (List aC×ab)):oy .s (.str k) v (mS l)=some (mS (pK k v l)):=by
 simp only[mS,oy,Kf,Bool.true_eq_false,reduceCtorEq,if_false,KI,pK];cases h:rJ k v l with
 |some fE=>simp[L3 h]
 |none=>simp[LV,jW,List.range_succ]
@[simp]theorem Zl(k:List aC)(v:ab):oy .s (.str k) v (kc [])=some (mS (pK k v [])):=Tu k v []
@[simp]theorem AZ(f:aq->aV (List ab))(m:aq)(l:List (List aC×ab))(z:ab)(ok:Bool)(k:List aC)(hm:f m=some (mS l)):nD f .s z ok (.gmap m) (.str k)=(match wQ k l with
  |some v=>some (True,if ok then .tuple [v,.bool true]else v)
  |none=>some (True,if ok then .tuple [z,.bool false]else z)):=by
 simp only[KC,hm,mS,Kf,Bool.true_eq_false,reduceCtorEq,if_false,KA];cases wQ k l<;>rfl
@[simp]theorem ZH(l:List (List aC×ab)):fm (mS l)=false:=rfl
end
end Go.Pv
namespace Go.Proofs.YtlnndmgfngfeiaaGreatDoor
section
open Go Go.Pv
variable {ky:Nat}
def eX(ky:Nat):ab:= .func 1000084 [aJ ky]
abbrev Me:List (List aC×ab):=pK [110,111,116] (.int .i64 10) (pK [111,114] (.int .i64 8) (pK [97,110,100] (.int .i64 7) (pK [97,98,115,101,110,116] (.int .i64 6) (pK [110,117,109,98,101,114] (.int .i64 5) (pK [115,121,109,98,111,108] (.int .i64 4) (pK [47,61] (.int .i64 3) (pK [61] (.int .i64 2) [])))))))
theorem Ez(f:aq->aV (List ab))(m:aq)(h:List aC)(hm:f m=some (mS Me)):nD f .s (.int .i64 0) true (.gmap m) (.str h)=some (True,.tuple [.int .i64 ((l2 h).getD 0),.bool (l2 h).isSome]):=by
 rw[AZ _ _ _ _ true h hm];have e:Me=[(wY,.int .i64 2),(wX,.int .i64 3),(rW,.int .i64 4),(rU,.int .i64 5),(rR,.int .i64 6),(rS,.int .i64 7),(rV,.int .i64 8),(rT,.int .i64 10)]:=rfl;rw[e];unfold l2;simp only[wQ];repeat' split
 all_goals first|rfl|simp_all
end
section
open Go Go.Pv
variable {ky:Nat}
theorem Re{w:List aC}{k:Int}{s:List aC}(h:eA w=some (k,s)):1<k/\(jb k=true->s=[])/\(jb k=false->(k==7)=false/\(k==8)=false/\(k==10)=false):=by
 unfold eA at h;cases J:l2 w with
 |some aX=>
  rw[J]at h;simp only[dv,hx]at h;obtain⟨rfl,rfl⟩:=h;unfold l2 at J;repeat' split at J
  all_goals first|cases J|skip
  all_goals simp[jb]
 |none=>
  rw[J]at h;simp only at h;split at h
  ·cases h;simp[jb]
  ·cases h
end
end Go.Proofs.YtlnndmgfngfeiaaGreatDoor
