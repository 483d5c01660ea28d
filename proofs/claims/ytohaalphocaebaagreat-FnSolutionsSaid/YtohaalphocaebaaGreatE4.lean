/- Contracts of pattern-defeating quicksort: the patterns broken. -/
import Derived.Test.YtohaalphocaebaaGreatProg
import Derived.Lib.OwnBridge
import Derived.Shelf.GgSortMore.Stable
import Derived.Shelf.GgSortFunc.SmallK
import Derived.Sort.AssemblyPlain
import Derived.Sort.LotD5
import Derived.Test.YtohaalphocaebaaGreatE3
set_option linter.all false
set_option maxHeartbeats 4000000
set_option maxRecDepth 4000
open Array renaming getElem?_toList->uO
open BitVec renaming ofInt->mr
open Bool renaming and_eq_true->cr,eq_iff_iff->q4,false_eq_true->gZ,or_eq_true->k6
open Go renaming Program->cJ,TypeId->ha
open Go.Extern.ReflectliteSwapper renaming swap->Fw,swapper->avg
open Go.Extern.ReflectliteValue renaming len->avh,method->avi,unpack->aqY,valueError->aqZ
open Go.Extern.Rtype renaming kind->aa9
open Go.IntKind renaming bits->oh,i64->nD,signed->r3,u64->hF,wrap->tz
open Go.IntWalk renaming i64_in->mT
open Go.Op renaming bytesLess->hL
open Go.Proofs.Tryz renaming f6->k7,prog->ax
open List renaming all_eq_true->fy,cons_append->bZ,getElem?_eq_getElem->bY,getElem?_eq_none->pT,getElem?_eq_some_iff->eS,getElem_of_mem->oi,length_append->o0,length_cons->oj,length_map->r5,map_append->r6,map_cons->ht,mem_append->iz,mem_cons->e7,mem_cons_of_mem->o1,mem_filter->iL,mem_map->hG,mem_of_getElem?->dP,mem_singleton->jT,pairwise_cons->mU,pairwise_iff_getElem->o2,take_of_length_le->gw,take_succ->q6
open List.Nodup renaming length_le_of_subset->Fx
open List.Pairwise renaming filter->aba,imp_of_mem->aq1,sublist->avm
open List.Perm renaming eq_of_pairwise->P5,swap->avn
open Nat renaming add_mul->o3,le_refl->eu,le_trans->gS,mul_le_mul_right->pV
open Ne renaming symm->lF
open Option renaming isSome_none->jG,map_eq_some_iff->gm,map_some->oq
open Option.some renaming inj->eH,injEq->dE
open Prod.mk renaming injEq->jU
open _root_ renaming False->eB,UInt8->c0,beq_iff_eq->dQ,congrArg->eP,decide_eq_false_iff_not->gn,decide_eq_true_eq->en
namespace Go.Proofs.YtohaalphocaebaaGreat
section
open Go Go.Pv
def iy:T->List Int->List Int
 | .var n,l=>np n l
 | .pair a b,l=>iy b (iy a l)
 |_,l=>l
theorem PR:∀(t:T) {l:List Int},tD l->tD (iy t l)
 | .var _,_,h=>VX h
 | .pair a b,_,h=>PR b (PR a h)
 | .nil,_,h=>h
 | .sym _,_,h=>h
 | .num _,_,h=>h
theorem Ef{m:Int}:∀(t:T) {l:List Int},m∈iy t l↔t.occ m=true\/m∈l
 | .var n,l=>by simp only[iy,Nn,T.occ,dQ];constructor<;>rintro(h|h)<;>first|exact .inr h|exact .inl h.symm
 | .pair a b,l=>by
  simp only[iy,Ef b,Ef a,T.occ,k6];constructor
  ·rintro(h|h|h)
   ·exact .inl (.inr h)
   ·exact .inl (.inl h)
   ·exact .inr h
  ·rintro((h|h)|h)
   ·exact .inr (.inl h)
   ·exact .inl h
   ·exact .inr (.inr h)
 | .nil,l=>by simp[iy,T.occ]
 | .sym _,l=>by simp[iy,T.occ]
 | .num _,l=>by simp[iy,T.occ]
theorem Cj:∀(t:T) (l:List Int),(iy t l).length<=l.length+t.size
 | .var n,l=>by have:=VZ n l;simp only[iy,T.size];omega
 | .pair a b,l=>by have J:=Cj a l;have U:=Cj b (iy a l);simp only[iy,T.size];omega
 | .nil,l=>by simp[iy]
 | .sym _,l=>by simp[iy]
 | .num _,l=>by simp[iy]
theorem Fj:∀(t:T) (l:List Int),l.length+t.size<=1000000->tD l->bQ ax 165 [t.e,.slice 1 .no (dV l)] (.slice 1 .no (dV (iy t l)))
 | .var n,l,av,bm=>by
  simp only[T.size]at av;have key:=ap7 l n Ω bm;refine bj eN CT Er fun aR=>?_;unfold z6;simp;(with_reducible repeat' first|refine aj ?_|refine aA key ?_|refine aB key ?_|simp);all_goals simp[bk,BP,aU,aW,aT]
  all_goals simp[iy,zv]
 | .pair a b,l,av,bm=>by
  simp only[T.size]at av;have MZ:=Cj a l;have aP:=Fj a l Ω bm;have bd:=Fj b (iy a l) Ω (PR a bm);refine bj eN CT Er fun aR=>?_;unfold z6;simp;refine dT [15,16] (fun i (_:Unit)=>[(1,.slice 1 .no (dV (if i=0 then l else if i=1 then iy a l else iy b (iy a l)))),(17,.int .i64 i)]) 2 (fun _ _=>True) () bT trivial (fun _ _ _=>?_) (fun i _ hi _ _=>?_)
  ·simp;(with_reducible repeat' first|refine aj ?_|simp);simp[bk,BP,aU,aW,aT];simp[iy,zv]
  ·rcases(by omega:i=0\/i=1)with rfl|rfl
   ·simp;((with_reducible repeat' first|refine aj ?_|refine aA aP ?_|refine aB aP ?_|simp|((first|apply bL|apply bN|apply bM)<;>intro h<;>try simp at h))<;>(try exact cm));exact bP.rng () hi trivial bT
   ·simp;((with_reducible repeat' first|refine aj ?_|refine aA bd ?_|refine aB bd ?_|simp|((first|apply bL|apply bN|apply bM)<;>intro h<;>try simp at h))<;>(try exact cm));exact bP.rng () hi trivial bT
 | .nil,l,av,bm=>by refine bj eN CT Er fun aR=>?_;unfold z6;simp;refine dT [15,16] (fun i (_:Unit)=>[(1,.slice 1 .no (dV l)),(17,.int .i64 i)]) 0 (fun _ _=>True) () bT trivial (fun _ _ _=>?_) (fun i _ hi _ _=>Ω);simp;((with_reducible repeat' first|refine aj ?_|simp|((first|apply bL|apply bN|apply bM)<;>intro h<;>try simp at h))<;>(try exact cm));simp[bk,BP,aU,aW,aT];simp[iy,zv]
 | .sym _,l,av,bm=>by refine bj eN CT Er fun aR=>?_;unfold z6;simp;refine dT [15,16] (fun i (_:Unit)=>[(1,.slice 1 .no (dV l)),(17,.int .i64 i)]) 0 (fun _ _=>True) () bT trivial (fun _ _ _=>?_) (fun i _ hi _ _=>Ω);simp;(with_reducible repeat' first|refine aj ?_|simp);simp[bk,BP,aU,aW,aT];simp[iy,zv]
 | .num _,l,av,bm=>by refine bj eN CT Er fun aR=>?_;unfold z6;simp;refine dT [15,16] (fun i (_:Unit)=>[(1,.slice 1 .no (dV l)),(17,.int .i64 i)]) 0 (fun _ _=>True) () bT trivial (fun _ _ _=>?_) (fun i _ hi _ _=>Ω);simp;(with_reducible repeat' first|refine aj ?_|simp);simp[bk,BP,aU,aW,aT];simp[iy,zv]
def F3:C:=(aa [bh 2 false] (.seq (aa [I 5 0,ct 6 5,aS 7 .lss 6 1,I 8 7,bO 8 false 9 0,al 8 false (ct 10 9),al 8 false (aS 11 .gtr 10 8),cV 12 8 11] (aZ 12 (aa [bh 2 false] .ret) .skip)) (.seq (aa [I 13 0,ct 14 13,b6 15 0] (eZ 16 15 14 (.seq (.block 1 (aa [I 17 15,cw 18 4 13 15,aV 19 4 18,cL 4 da,I 3 17,bu 4 4 19] (.seq (.drawn true 38 [aV 20 4 4,cG 21 169 20,cx 22 21,I 23 22,bO 23 false 24 3,al 23 false (aS 25 .gtr 24 0),bO 23 false 26 25,bO 26 true 27 0,bO 26 true 28 3,al 26 true (aS 29 .sub 28 1),al 26 true (cw 30 4 27 29),al 26 true (aV 31 4 30),al 26 true (aV 32 4 4),al 26 true (b5 33 170 31 32),al 26 true (aS 34 .geq 33 0),al 23 false (de 35 26 34),cV 36 23 35]) (aZ 36 (aa [bh 2 false] .ret) .skip)))) (.region [aS 37 .add 15 1,I 15 37])))) (aa [bh 2 true] .ret))))
@[simp] def Ob:List bW:=[.tmp 2]
def Rz:C:=(aa [b6 4 0] (aa [b6 5 1] (.seq (aa [b6 6 0] (.block 0 (.loop (.seq (aa [I 7 6,I 8 1,bq 9 .lss 7 8,I 10 9,bO 10 true 11 5,al 10 true (aS 12 .leq 11 512),de 13 10 12,I 14 13,bO 14 true 15 0,al 14 true (aS 16 .neq 15 1),de 17 14 16] (aZ 17 .skip (.exit 0))) (.seq (.block 1 (.region [I 20 5,I 21 0,bq 22 .mul 20 21,I 5 22])) (.region [I 18 6,aS 19 .add 18 1,I 6 19])))))) (aa [I 23 5,b2 24 (.min2 (.t 23) (dS 513)),I 4 24] .ret))))
@[simp] def IC:List bW:=[.tmp 4]
def Ra:C:=(aa [eA 4 1] (aa [dI 13 5 61 [],dI 14 1 23 [.t 13],I 5 14] (.seq (.seq (.fg false 5 (.region [I 15 0,ct 16 15,b6 17 0])) (eZ 18 17 16 (.seq (.block 1 (aa [cw 19 1 15 17,az 20 1 19,I 7 20] (aa [dI 21 1 23 [],I 8 21] (.seq (aa [I 22 5,ct 23 22,b6 24 0] (.block 2 (.loop (aa [bq 25 .lss 24 23] (.seq (aZ 25 .skip (.exit 2)) (.seq (.block 3 (aa [cw 26 1 22 24,az 27 1 26,I 10 27] (aa [I 28 1,ct 29 28,b6 30 0] (.block 4 (.loop (aa [bq 31 .lss 30 29] (.seq (aZ 31 .skip (.exit 4)) (.seq (.block 5 (aa [cw 32 4 28 30,aV 33 4 32,cL 12 da,bu 4 12 33] (.drawn true 50 [I 34 8,dI 35 5 61 [],I 36 10,gf 37 5 61 35 36,I 38 7,aV 39 4 12,gv 40 ib [(0,1,(.t 38)),(1,4,(.t 39))],dI 41 5 61 [.t 40],gf 42 5 61 37 41,dI 43 1 23 [.t 42],gf 44 1 23 34 43,I 8 44]))) (.fg true 8 (.region [aS 45 .add 30 1,I 30 45])))))))))) (.region [aS 46 .add 24 1,I 24 46]))))))) (.fg false 8 (.region [I 47 8,I 5 47])))))) (.region [aS 48 .add 17 1,I 17 48])))) (aa [I 49 5,I 4 49] .ret))))
@[simp] def Ym:List bW:=[.tmp 4]
def Sv:C:=(aa [cU 2 0,cU 3 1,bh 4 false] (aa [aV 5 4 2,aV 6 4 3,b5 7 229 5 6,aS 8 .eql 7 0,I 4 8] .ret))
@[simp] def Y1:List bW:=[.tmp 4]
def Kd:C:=(aa [cU 1 0,bh 2 false] (aa [aV 3 4 1,cG 4 117 3,I 5 4,al 5 true (aV 6 4 1),al 5 true (cG 7 171 6),de 8 5 7,I 2 8] .ret))
@[simp] def Yh:List bW:=[.tmp 2]
def Rr:C:=(aa [cU 1 0,bh 2 false] (aa [cX (.alloc 3 (some 501) (.bool false)),cX (.store 1 (.t 3) (.c (.bool true)))] (aa [aV 4 4 1,b2 5 (.mkf 233 [.t 3]),b5 6 129 4 5] (aa [az 7 1 3,I 2 7] .ret))))
@[simp] def YA:List bW:=[.tmp 2]
def CH:C:=(aa [cU 2 0,cU 3 1,b6 4 0] (.seq (aa [aI 7 0 1 2,az 8 1 7,aI 9 0 1 3,az 10 1 9,bq 11 .neq 8 10] (aZ 11 (aa [aI 12 0 1 2,az 13 1 12,aI 14 0 1 3,az 15 1 14,bq 16 .lss 13 15,cG 17 238 16,I 4 17] .ret) .skip)) (.seq (aa [aI 18 1 1 2,az 19 1 18,aI 20 1 1 3,az 21 1 20,bq 22 .neq 19 21] (aZ 22 (aa [aI 23 1 1 2,az 24 1 23,aI 25 1 1 3,az 26 1 25,bq 27 .lss 24 26,cG 28 238 27,I 4 28] .ret) .skip)) (.seq (aa [aI 29 2 1 2,az 30 1 29,aI 31 2 1 3,az 32 1 31,bq 33 .neq 30 32] (aZ 33 (aa [aI 34 2 1 2,az 35 1 34,aI 36 2 1 3,az 37 1 36,bq 38 .lss 35 37,cG 39 238 38,I 4 39] .ret) .skip)) (.seq (aa [b6 5 0] (.block 0 (.loop (.seq (aa [I 40 5,aI 41 3 1 2,az 42 1 41,ct 43 42,bq 44 .lss 40 43,I 45 44,bO 45 true 46 5,al 45 true (aI 47 3 1 3),al 45 true (az 48 1 47),al 45 true (ct 49 48),al 45 true (bq 50 .lss 46 49),de 51 45 50] (aZ 51 .skip (.exit 0))) (.seq (.block 1 (.seq (.drawn true 68 [aI 54 3 1 2,az 55 1 54,I 56 5,cw 57 4 55 56,aV 58 4 57,aI 59 3 1 3,az 60 1 59,I 61 5,cw 62 4 60 61,aV 63 4 62,b5 64 229 58 63,I 6 64]) (aa [I 65 6,aS 66 .neq 65 0] (aZ 66 (aa [I 67 6,I 4 67] .ret) .skip)))) (.region [I 52 5,aS 53 .add 52 1,I 5 53])))))) (aa [b6 4 0] .ret))))))
@[simp] def BO:List bW:=[.tmp 4]
def Rs:C:=(.region [cX (.store 1 (.t 1) (.c (.bool false)))])
@[simp] def YB:List bW:=[]
def Sw:C:=(aa [b6 2 0] (.seq (aa [I 3 0] (aZ 3 (aa [b6 2 (-1)] .ret) .skip)) (aa [b6 2 1] .ret)))
@[simp] def Y2:List bW:=[.tmp 2]
def uH:List (Nat×dB):=[
 (3,⟨1,8,.int .i64,.int .i64 0⟩),
 (4,⟨1,1,.bool,.bool false⟩),
 (9,⟨1,16,.str,.str []⟩),
 (23,⟨1,24,.slice 61,.slice 5 .nil []⟩),
 (24,⟨1,24,.slice 23,.slice 1 .nil []⟩),
 (30,⟨1,24,.slice 32,.slice 4 .nil []⟩),
 (32,⟨4,56,.struct [(0,3),(1,3),(2,9),(3,30)],.agg [.int .i64 0,.int .i64 0,.str [],.slice 4 .nil []]⟩),
 (61,⟨5,64,.struct [(0,3),(1,32)],.agg [.int .i64 0,.int .i64 0,.int .i64 0,.str [],.slice 4 .nil []]⟩),
 (112,⟨1,24,.slice 3,.slice 1 .nil []⟩)]
theorem pO:fM ax uH=true:=by kernel_rfl
theorem NK:b3 uH F3 Ob 1 Tryz.f81=true:=by kernel_rfl
theorem K1:ax.funcs[(81:Nat)]? =some Tryz.f81:=Tryz.func81
theorem alV:b3 uH Rz IC 2 Tryz.f82=true:=by kernel_rfl
theorem aeS:ax.funcs[(82:Nat)]? =some Tryz.f82:=Tryz.func82
theorem alx:b3 uH Ra Ym 2 Tryz.f83=true:=by kernel_rfl
theorem aeu:ax.funcs[(83:Nat)]? =some Tryz.f83:=Tryz.func83
theorem amP:b3 uH Sv Y1 2 Tryz.f167=true:=by kernel_rfl
theorem afL:ax.funcs[(167:Nat)]? =some Tryz.f167:=Tryz.func167
theorem XE:b3 uH Kd Yh 1 Tryz.f169=true:=by kernel_rfl
theorem TE:ax.funcs[(169:Nat)]? =some Tryz.f169:=Tryz.func169
theorem alN:b3 uH Rr YA 1 Tryz.f171=true:=by kernel_rfl
theorem aeK:ax.funcs[(171:Nat)]? =some Tryz.f171:=Tryz.func171
theorem If:b3 uH CH BO 2 Tryz.f229=true:=by kernel_rfl
theorem Gy:ax.funcs[(229:Nat)]? =some Tryz.f229:=Tryz.func229
theorem alO:b3 uH Rs YB 2 Tryz.f233=true:=by kernel_rfl
theorem aeL:ax.funcs[(233:Nat)]? =some Tryz.f233:=Tryz.func233
theorem amQ:b3 uH Sw Y2 1 Tryz.f238=true:=by kernel_rfl
theorem afM:ax.funcs[(238:Nat)]? =some Tryz.f238:=Tryz.func238
theorem Qf{t u:T}(J:t.kind=u.kind)(U:t.int=u.int)(ao:t.name=u.name)(a6:t.args=u.args):t=u:=by cases t<;>cases u<;>simp_all
theorem rZ(b:Bool):bQ ax 238 [.bool b] (.int .i64 (if b then-1 else 1)):=by
 refine bj pO afM amQ fun aR=>?_;unfold Sw;simp;((with_reducible repeat' first|refine aj ?_|simp|((first|apply bL|apply bN|apply bM)<;>intro h<;>try simp at h))<;>(try exact cm));all_goals simp[bk,Y2,aU,aW,aT]
 all_goals simp_all
theorem ang{a b:T}(bm:a.args=[]\/b.args=[])(J:a.kind=b.kind)(U:a.int=b.int):du a b=k2 a.name b.name:=by cases a<;>cases b<;>simp_all[du]
def DT(a b:T)(i:Nat)(_:Unit):Prop:=a.args.take i=b.args.take i
theorem aaw(a:T)(bR:∀x∈a.args,∀b:T,bQ ax 229 [x.e,b.e] (.int .i64 (du x b)))(b:T):bQ ax 229 [a.e,b.e] (.int .i64 (du a b)):=by
 have hle:a.args.length<=2:=by cases a<;>simp
 by_cases ae:a.kind=b.kind
 ·by_cases hi:a.int=b.int
  ·by_cases au:a.name=b.name
   ·have hlen:a.args.length=b.args.length:=by cases a<;>cases b<;>simp at ae⊢
    refine bj pO Gy If fun aR=>?_;unfold CH;simp[ae,hi,au];refine dT [2,3] (fun i (_:Unit)=>[(5,.int .i64 i)]) a.args.length (DT a b) () bT (by simp[DT]) (fun _ af _=>?_) (fun i _ bz af _=>?_)
    ·simp;(with_reducible repeat' first|refine aj ?_|simp);simp[bk,BO,aU,aW,aT];unfold DT at af;rw[gw Ω,gw Ω]at af;exact((qY a b).2 (Qf ae hi au af)).symm
    ·have rF:i<b.args.length:=Ω
     obtain⟨x,ad⟩:∃x,x=a.args[i]:=⟨_,rfl⟩;obtain⟨y,aC⟩:∃y,y=b.args[i]:=⟨_,rfl⟩;have oJ:=bR x (by rw[ad];exact List.getElem_mem bz) y;simp[bz,rF,<-ad,<-aC];(with_reducible repeat' first|((first|apply bL|apply bN|apply bM)<;>intro h<;>try simp at h)|refine aj ?_|refine aA oJ ?_|refine aB oJ ?_|simp)
     ·simp[bk,BO,aU,aW,aT];unfold DT at af;cases a with
      |pair bC a2=>
       cases b with
       |pair cg cc=>
        simp at bz af ad aC;rcases(by omega:i=0\/i=1)with rfl|rfl
        ·simp at ad aC;subst ad aC;simp[du,h]
        ·simp at af ad aC;subst ad aC af;simp[du,(qY bC bC).2 rfl]
       |_=>simp at ae
      |_=>simp at bz
     ·refine bP.rng () bz ?_ bT;unfold DT at af⊢;rw[q6,q6,af,bY bz,bY rF,<-ad,<-aC,(qY x y).1 h]
   ·refine bj pO Gy If fun aR=>?_;unfold CH;simp[ae,hi,au];((with_reducible repeat' first|refine aj ?_|refine aA (rZ _) ?_|refine aB (rZ _) ?_|simp|((first|apply bL|apply bN|apply bM)<;>intro h<;>try simp at h))<;>(try exact cm));simp[bk,BO,aU,aW,aT];have:a.args=[]\/b.args=[]:=by cases a<;>cases b<;>simp at ae au⊢
    rw[ang this ae hi,k2,if_neg au]
  ·refine bj pO Gy If fun aR=>?_;unfold CH;simp[ae,hi];((with_reducible repeat' first|refine aj ?_|refine aA (rZ _) ?_|refine aB (rZ _) ?_|simp|((first|apply bL|apply bN|apply bM)<;>intro h<;>try simp at h))<;>(try exact cm));simp[bk,BO,aU,aW,aT];cases a<;>cases b<;>simp at ae hi
   ·rw[X0];simp[eG];split<;>(try split)<;>omega
   ·rw[XZ];simp[eG];split<;>(try split)<;>omega
 ·refine bj pO Gy If fun aR=>?_;unfold CH;simp[ae];((with_reducible repeat' first|refine aj ?_|refine aA (rZ _) ?_|refine aB (rZ _) ?_|simp|((first|apply bL|apply bN|apply bM)<;>intro h<;>try simp at h))<;>(try exact cm));simp[bk,BO,aU,aW,aT];rw[s8 ae];simp[eG];split<;>(try split)<;>omega
theorem nC(a:T):∀b:T,bQ ax 229 [a.e,b.e] (.int .i64 (du a b)):=by
 induction a with
 |pair x y oJ qM=>
  refine aaw _ fun z ba=>?_;simp at ba;rcases ba with rfl|rfl
  ·exact oJ
  ·exact qM
 |_=>exact aaw _ fun x ad=>by simp at ad
theorem oX(a b:T):bQ ax 167 [a.e,b.e] (.bool (decide (a=b))):=by refine bj pO afL amP fun aR=>?_;unfold Sv;simp;(with_reducible repeat' first|refine aj ?_|refine aA (nC _ _) ?_|refine aB (nC _ _) ?_|simp);simp[bk,Y1,aU,aW,aT];have:=qY a b;by_cases h:du a b=0<;>simp_all
def Kc:C:=(aa [cU 3 0,cU 4 1,cU 5 2,cL 6 fW,bh 7 false] (.seq (aa [aV 13 5 3,aV 14 4 4,aV 15 4 5,dI 16 4 32 [.t 14,.t 15],b5 17 47 13 16,cx 18 17] (aZ 18 (aa [gv 19 fW [],bu 5 6 19,bh 7 false] .ret) .skip)) (aa [aI 21 1 1 3,az 22 1 21,aV 23 4 4,aV 24 4 5,c2 25 48 [.t 22,.t 23,.t 24],I 20 25,cj 26 0 20,cj 27 1 20,I 8 26,I 9 27] (.seq (aa [I 28 9,cx 29 28] (aZ 29 (aa [gv 30 fW [],bu 5 6 30,bh 7 false] .ret) .skip)) (aa [aV 31 5 3,cG 32 49 31,cL 10 fW,bu 5 10 32] (aa [I 33 8,aI 34 1 1 10,bu 1 34 33] (aa [aV 36 5 10,cG 37 50 36,I 35 37,cj 38 0 35,cj 39 1 35,cL 11 fW,bu 5 11 38,I 12 39] (aa [aV 40 5 11,I 41 12,bu 5 6 40,I 7 41] .ret))))))))
@[simp] def N6:List bW:=[.cell 6 true 5,.tmp 7]
def F0:C:=(aa [cU 3 0,cU 4 1,cU 5 2,cL 6 fW,bh 7 false] (.seq (aa [aV 13 5 3,aV 14 4 4,aV 15 4 5,dI 16 4 32 [.t 14,.t 15],b5 17 47 13 16,cx 18 17] (aZ 18 (aa [gv 19 fW [],bu 5 6 19,bh 7 false] .ret) .skip)) (aa [aI 21 1 1 3,az 22 1 21,aV 23 4 4,aV 24 4 5,c2 25 51 [.t 22,.t 23,.t 24],I 20 25,cj 26 0 20,cj 27 1 20,I 8 26,I 9 27] (.seq (aa [I 28 9,aS 29 .gtr 28 1] (aZ 29 (aa [gv 30 fW [],bu 5 6 30,bh 7 false] .ret) .skip)) (aa [aV 31 5 3,cG 32 49 31,cL 10 fW,bu 5 10 32] (.seq (aa [I 33 9,aS 34 .eql 33 0] (aZ 34 (.region [aI 35 2 1 10,az 36 1 35,I 37 8,dI 38 1 23 [.t 37],gf 39 1 23 36 38,aI 40 2 1 10,bu 1 40 39]) .skip)) (aa [aV 42 5 10,cG 43 50 42,I 41 43,cj 44 0 41,cj 45 1 41,cL 11 fW,bu 5 11 44,I 12 45] (aa [aV 46 5 11,I 47 12,bu 5 6 46,I 7 47] .ret))))))))
@[simp] def Yf:List bW:=[.cell 6 true 5,.tmp 7]
def F1:C:=(aa [cU 3 0,cU 4 1,cL 6 fW,bh 7 false] (.seq (aa [aV 13 5 3,aV 14 4 4,dI 15 4 32 [.t 14],b5 16 47 13 15,cx 17 16] (aZ 17 (aa [gv 18 fW [],bu 5 6 18,bh 7 false] .ret) .skip)) (aa [aI 20 1 1 3,az 21 1 20,aI 22 3 1 3,az 23 1 22,aV 24 4 4,I 25 2,c2 26 52 [.t 21,.t 23,.t 24,.t 25],I 19 26,cj 27 0 19,cj 28 1 19,I 8 27,I 9 28] (.seq (aa [I 29 9,cx 30 29] (aZ 30 (aa [gv 31 fW [],bu 5 6 31,bh 7 false] .ret) .skip)) (aa [aV 32 5 3,cG 33 49 32,cL 10 fW,bu 5 10 33] (aa [I 34 8,aI 35 3 1 10,bu 1 35 34] (aa [aV 37 5 10,cG 38 50 37,I 36 38,cj 39 0 36,cj 40 1 36,cL 11 fW,bu 5 11 39,I 12 40] (aa [aV 41 5 11,I 42 12,bu 5 6 41,I 7 42] .ret))))))))
@[simp] def anI:List bW:=[.cell 6 true 5,.tmp 7]
def F2:C:=(aa [cU 3 0,cU 4 1,cL 6 fW,bh 7 false] (.seq (aa [aV 13 5 3,aV 14 4 4,dI 15 4 32 [.t 14],b5 16 47 13 15,cx 17 16] (aZ 17 (aa [gv 18 fW [],bu 5 6 18,bh 7 false] .ret) .skip)) (aa [aI 20 1 1 3,az 21 1 20,aI 22 4 1 3,az 23 1 22,aV 24 4 4,I 25 2,c2 26 54 [.t 21,.t 23,.t 24,.t 25],I 19 26,cj 27 0 19,cj 28 1 19,I 8 27,I 9 28] (.seq (aa [I 29 9,cx 30 29] (aZ 30 (aa [gv 31 fW [],bu 5 6 31,bh 7 false] .ret) .skip)) (aa [aV 32 5 3,cG 33 49 32,cL 10 fW,bu 5 10 33] (aa [I 34 8,aI 35 4 1 10,bu 1 35 34] (aa [aV 37 5 10,cG 38 50 37,I 36 38,cj 39 0 36,cj 40 1 36,cL 11 fW,bu 5 11 39,I 12 40] (aa [aV 41 5 11,I 42 12,bu 5 6 41,I 7 42] .ret))))))))
@[simp] def anJ:List bW:=[.cell 6 true 5,.tmp 7]
def R5:C:=(aa [cU 2 0,bh 4 false] (aa [aV 5 4 2,cG 6 76 5,I 7 6,al 7 true (aV 8 4 2),bO 7 true 9 1,al 7 true (b5 10 77 8 9),de 11 7 10,I 4 11] .ret))
@[simp] def an7:List bW:=[.tmp 4]
def CG:C:=(aa [cU 2 0,bh 4 false] (.seq (aa [aV 7 5 2,cG 8 65 7,cx 9 8,I 10 9,bO 10 false 11 1,al 10 false (cG 12 78 11),al 10 false (cx 13 12),cV 14 10 13,I 15 14,bO 15 false 16 1,al 15 false (ct 17 16),al 15 false (aI 18 0 1 2),al 15 false (az 19 1 18),al 15 false (bq 20 .neq 17 19),cV 21 15 20] (aZ 21 (aa [bh 4 false] .ret) .skip)) (.seq (aa [I 22 1,ct 23 22,b6 24 0] (eZ 25 24 23 (.seq (.block 1 (aa [I 26 24,cw 27 5 22 24,aV 28 5 27,cL 6 ib,I 5 26,bu 5 6 28] (aa [aI 29 0 1 6,az 30 1 29,I 31 5,bq 32 .neq 30 31,I 33 32,al 33 false (hp 34 1 4 6),al 33 false (aV 35 4 34),al 33 false (cG 36 79 35),al 33 false (cx 37 36),cV 38 33 37] (aZ 38 (aa [bh 4 false] .ret) .skip)))) (.region [aS 39 .add 24 1,I 24 39])))) (aa [aV 40 5 2,I 41 1,b5 42 80 40 41,I 4 42] .ret))))
@[simp] def Om:List bW:=[.tmp 4]
def FZ:C:=(aa [cU 2 0,b6 4 0] (.seq (aa [aV 10 5 2,cG 11 18 10,cx 12 11,I 13 12,bO 13 false 14 1,al 13 false (cG 15 81 14),al 13 false (cx 16 15),cV 17 13 16,I 18 17,al 18 false (aI 19 0 1 2),al 18 false (az 20 1 19),al 18 false (aS 21 .gtr 20 400),cV 22 18 21,I 23 22,bO 23 false 24 1,al 23 false (ct 25 24),al 23 false (aI 26 0 1 2),al 23 false (az 27 1 26),al 23 false (b5 28 82 25 27),al 23 false (aS 29 .gtr 28 512),cV 30 23 29] (aZ 30 (aa [b6 4 (-1)] .ret) .skip)) (aa [dI 31 1 3 [],I 5 31] (.seq (aa [b6 6 0] (.block 0 (.loop (.seq (aa [I 32 6,aI 33 0 1 2,az 34 1 33,bq 35 .lss 32 34] (aZ 35 .skip (.exit 0))) (.seq (.block 1 (.region [I 38 5,I 39 6,dI 40 1 3 [.t 39],gf 41 1 3 38 40,I 5 41])) (.region [I 36 6,aS 37 .add 36 1,I 6 37])))))) (aa [b6 7 0] (.seq (aa [I 42 5,I 43 1,b5 44 83 42 43,ct 45 44,b6 46 0] (.block 2 (.loop (aa [bq 47 .lss 46 45] (.seq (aZ 47 .skip (.exit 2)) (.seq (.block 3 (aa [cw 48 1 44 46,az 49 1 48,I 9 49] (aa [aV 50 5 2,I 51 9,b5 52 84 50 51] (aZ 52 (.region [I 53 7,aS 54 .add 53 1,I 7 54]) .skip)))) (.region [aS 55 .add 46 1,I 46 55]))))))) (aa [I 56 7,I 4 56] .ret)))))))
@[simp] def anG:List bW:=[.tmp 4]
def F6:C:=(aa [cU 2 0,bh 4 false] (.seq (.drawn true 18 [aV 5 5 2,cG 6 18 5,I 7 6,bO 7 true 8 1,al 7 true (cG 9 68 8),de 10 7 9,I 11 10,bO 11 true 12 1,al 11 true (cG 13 116 12),al 11 true (aI 14 0 1 2),al 11 true (az 15 1 14),al 11 true (bq 16 .leq 13 15),de 17 11 16,I 4 17]) .ret))
@[simp] def anU:List bW:=[.tmp 4]
def Q7:C:=(aa [cU 4 1,cU 5 2,eA 6 5,bh 7 false] (.seq (aa [I 8 0,cG 9 55 8,cx 10 9,I 11 10,al 11 false (aV 12 4 4),al 11 false (cG 13 117 12),al 11 false (cx 14 13),cV 15 11 14,I 16 15,al 16 false (aV 17 4 5),al 16 false (cG 18 117 17),al 16 false (cx 19 18),cV 20 16 19] (aZ 20 (aa [eA 6 5,bh 7 false] .ret) .skip)) (aa [I 21 0,aV 22 4 4,dI 23 4 32 [.t 22],aV 24 4 5,dI 25 4 32 [.t 24],c2 26 118 [.t 21,.t 23,.t 25],cj 27 0 26,cj 28 1 26,I 6 27,I 7 28] .ret)))
@[simp] def anO:List bW:=[.tmp 6,.tmp 7]
def Ki:C:=(aa [cU 1 0,cL 2 fW] (.seq (.drawn true 39 [aI 6 0 1 1,az 7 1 6,aI 8 1 1 1,az 9 1 8,cG 10 119 9,dI 11 1 23 [],gv 12 fW [(0,1,(.t 7)),(1,1,(.t 10)),(2,1,(.t 11))],cL 3 fW,bu 5 3 12]) (.seq (aa [aI 13 2 1 1,az 14 1 13,ct 15 14,b6 16 0] (eZ 17 16 15 (.seq (.block 1 (aa [cw 18 1 14 16,az 19 1 18,I 5 19] (.drawn true 39 [aI 20 2 1 3,az 21 1 20,I 22 5,cG 23 119 22,dI 24 1 23 [.t 23],gf 25 1 23 21 24,aI 26 2 1 3,bu 1 26 25]))) (.region [aS 27 .add 16 1,I 16 27])))) (aa [dI 28 2 104 [],aI 29 3 1 1,az 30 1 29,gf 31 2 104 28 30,aI 32 3 1 3,bu 1 32 31] (aa [dI 33 2 106 [],aI 34 4 1 1,az 35 1 34,gf 36 2 106 33 35,aI 37 4 1 3,bu 1 37 36] (aa [aV 38 5 3,bu 5 2 38] .ret))))))
@[simp] def Yu:List bW:=[.cell 2 true 5]
def Kb:C:=(aa [cU 4 1,cU 5 2,eA 6 5,b6 7 0] (.seq (aa [I 12 0,cG 13 55 12,cx 14 13,I 15 14,al 15 false (aV 16 4 4),al 15 false (cG 17 117 16),al 15 false (cx 18 17),cV 19 15 18,I 20 19,al 20 false (aV 21 4 5),al 20 false (cG 22 117 21),al 20 false (cx 23 22),cV 24 20 23] (aZ 24 (aa [eA 6 5,b6 7 3] .ret) .skip)) (aa [I 26 0,aV 27 4 4,aV 28 4 5,c2 29 48 [.t 26,.t 27,.t 28],I 25 29,cj 30 0 25,cj 31 1 25,I 8 30,I 9 31] (aa [I 33 0,I 34 8,I 35 9,c2 36 125 [.t 33,.t 34,.t 35],I 32 36,cj 37 0 32,cj 38 1 32,I 10 37,I 11 38] (aa [I 39 10,I 40 11,I 6 39,I 7 40] .ret)))))
@[simp] def anH:List bW:=[.tmp 6,.tmp 7]
def Sh:C:=(aa [bh 2 false] (aa [I 3 0,cG 4 164 3,I 2 4] .ret))
@[simp] def aoe:List bW:=[.tmp 2]
def Ku:C:=(aa [cU 1 0,bh 2 false] (aa [aV 3 4 1,cG 4 76 3,I 5 4,al 5 true (aV 6 4 1),⟨(some (5,true)),.call (some 7) (.c (.func 165 [])) [.t 6,(.c (.slice 1 .nil []))]⟩,al 5 true (ct 8 7),al 5 true (aS 9 .eql 8 0),de 10 5 9,I 2 10] .ret))
@[simp] def YQ:List bW:=[.tmp 2]
def SR:C:=(aa [cU 2 0,bh 4 false] (.seq (aa [aI 21 1 1 2,az 22 1 21,ct 23 22,b6 24 0] (eZ 25 24 23 (.seq (.block 1 (aa [cw 26 5 22 24,aV 27 5 26,cL 6 ib,bu 5 6 27] (aa [I 29 1,aI 30 0 1 6,az 31 1 30,b5 32 161 29 31,I 28 32,cj 33 0 28,cj 34 1 28,cL 7 da,bu 4 7 33,I 8 34] (aa [I 36 1,hp 37 1 4 6,aV 38 4 37,b5 39 166 36 38,I 35 39,cj 40 0 35,cj 41 1 35,cL 9 da,bu 4 9 40,I 10 41] (aa [I 42 10,cx 43 42,I 44 43,al 44 false (aV 45 4 7),al 44 false (aV 46 4 9),al 44 false (b5 47 167 45 46),al 44 false (cx 48 47),cV 49 44 48] (aZ 49 (aa [bh 4 false] .ret) .skip)))))) (.region [aS 50 .add 24 1,I 24 50])))) (.seq (aa [aI 51 2 1 2,az 52 1 51,ct 53 52,b6 54 0] (.block 2 (.loop (aa [bq 55 .lss 54 53] (.seq (aZ 55 .skip (.exit 2)) (.seq (.block 3 (aa [cw 56 1 52 54,az 57 1 56,I 12 57] (aa [I 58 12,I 59 1,b5 60 168 58 59,cx 61 60] (aZ 61 (aa [bh 4 false] .ret) .skip)))) (.region [aS 62 .add 54 1,I 54 62]))))))) (.seq (aa [aI 63 3 1 2,az 64 1 63,ct 65 64,b6 66 0] (.block 4 (.loop (aa [bq 67 .lss 66 65] (.seq (aZ 67 .skip (.exit 4)) (.seq (.block 5 (aa [cw 68 2 64 66,aV 69 2 68,cX (.alloc 14 none (.agg [.int .i64 0,.int .i64 0])),bu 2 14 69] (aa [I 71 1,aI 72 0 1 14,az 73 1 72,b5 74 161 71 73,I 70 74,cj 75 0 70,cj 76 1 70,cL 15 da,bu 4 15 75,I 16 76] (aa [aI 77 0 1 15,az 78 1 77,aI 79 1 1 14,az 80 1 79,bq 81 .neq 78 80] (aZ 81 (aa [bh 4 false] .ret) .skip))))) (.region [aS 82 .add 66 1,I 66 82]))))))) (.seq (aa [aI 83 4 1 2,az 84 1 83,ct 85 84,b6 86 0] (.block 6 (.loop (aa [bq 87 .lss 86 85] (.seq (aZ 87 .skip (.exit 6)) (.seq (.block 7 (aa [cw 88 2 84 86,aV 89 2 88,cX (.alloc 18 none (.agg [.int .i64 0,.str []])),bu 2 18 89] (aa [I 91 1,aI 92 0 1 18,az 93 1 92,b5 94 161 91 93,I 90 94,cj 95 0 90,cj 96 1 90,cL 19 da,bu 4 19 95,I 20 96] (aa [aV 97 4 19,aI 98 1 1 18,az 99 1 98,b5 100 29 97 99] (aZ 100 (aa [bh 4 false] .ret) .skip))))) (.region [aS 101 .add 86 1,I 86 101]))))))) (aa [bh 4 true] .ret))))))
@[simp] def Y8:List bW:=[.tmp 4]
def F8:C:=(aa [cU 2 0,bh 4 false] (.seq (aa [I 17 1,cG 18 100 17,cx 19 18,I 20 19,bO 20 false 21 1,al 20 false (ct 22 21),al 20 false (aI 23 0 1 2),al 20 false (az 24 1 23),al 20 false (bq 25 .neq 22 24),cV 26 20 25] (aZ 26 (aa [bh 4 false] .ret) .skip)) (.seq (aa [I 27 1,ct 28 27,b6 29 0] (eZ 30 29 28 (.seq (.block 1 (aa [I 31 29,cw 32 5 27 29,aV 33 5 32,cL 6 ib,I 5 31,bu 5 6 33] (aa [aI 34 0 1 6,az 35 1 34,I 36 5,bq 37 .neq 35 36,I 38 37,al 38 false (hp 39 1 4 6),al 38 false (aV 40 4 39),al 38 false (cG 41 171 40),al 38 false (cx 42 41),cV 43 38 42] (aZ 43 (aa [bh 4 false] .ret) .skip)))) (.region [aS 44 .add 29 1,I 29 44])))) (.seq (aa [aI 45 1 1 2,az 46 1 45,ct 47 46,b6 48 0] (.block 2 (.loop (aa [bq 49 .lss 48 47] (.seq (aZ 49 .skip (.exit 2)) (.seq (.block 3 (aa [cw 50 5 46 48,aV 51 5 50,cL 8 ib,bu 5 8 51] (aa [I 53 1,hp 54 1 4 8,aV 55 4 54,b5 56 95 53 55,I 52 56,cj 57 0 52,cj 58 1 52,cL 9 da,bu 4 9 57,I 10 58] (.seq (.drawn true 120 [I 59 10,cx 60 59,I 61 60,al 61 false (aV 62 4 9),bO 61 false 63 1,al 61 false (aI 64 0 1 8),al 61 false (az 65 1 64),al 61 false (cw 66 5 63 65),al 61 false (hp 67 1 4 66),al 61 false (aV 68 4 67),al 61 false (b5 69 108 62 68),al 61 false (cx 70 69),cV 71 61 70]) (aZ 71 (aa [bh 4 false] .ret) .skip))))) (.region [aS 72 .add 48 1,I 48 72]))))))) (.seq (aa [aI 73 2 1 2,az 74 1 73,ct 75 74,b6 76 0] (.block 4 (.loop (aa [bq 77 .lss 76 75] (.seq (aZ 77 .skip (.exit 4)) (.seq (.block 5 (aa [cw 78 1 74 76,az 79 1 78,I 12 79] (aa [I 80 12,I 81 1,b5 82 172 80 81,cx 83 82] (aZ 83 (aa [bh 4 false] .ret) .skip)))) (.region [aS 84 .add 76 1,I 76 84]))))))) (.seq (aa [aI 85 3 1 2,az 86 1 85,ct 87 86,b6 88 0] (.block 6 (.loop (aa [bq 89 .lss 88 87] (.seq (aZ 89 .skip (.exit 6)) (.seq (.block 7 (aa [cw 90 2 86 88,aV 91 2 90,cX (.alloc 14 none (.agg [.int .i64 0,.int .i64 0])),bu 2 14 91] (.seq (.drawn true 120 [I 92 1,aI 93 0 1 14,az 94 1 93,cw 95 5 92 94,hp 96 1 4 95,aI 97 0 1 96,az 98 1 97,aI 99 1 1 14,az 100 1 99,bq 101 .neq 98 100]) (aZ 101 (aa [bh 4 false] .ret) .skip)))) (.region [aS 102 .add 88 1,I 88 102]))))))) (.seq (aa [aI 103 4 1 2,az 104 1 103,ct 105 104,b6 106 0] (.block 8 (.loop (aa [bq 107 .lss 106 105] (.seq (aZ 107 .skip (.exit 8)) (.seq (.block 9 (aa [cw 108 2 104 106,aV 109 2 108,cX (.alloc 16 none (.agg [.int .i64 0,.str []])),bu 2 16 109] (.seq (.drawn true 120 [I 110 1,aI 111 0 1 16,az 112 1 111,cw 113 5 110 112,hp 114 1 4 113,aV 115 4 114,aI 116 1 1 16,az 117 1 116,b5 118 109 115 117]) (aZ 118 (aa [bh 4 false] .ret) .skip)))) (.region [aS 119 .add 106 1,I 106 119]))))))) (aa [bh 4 true] .ret))))))))
@[simp] def Iz:List bW:=[.tmp 4]
def rj:C:=(aa [cU 6 0,cU 8 2,cU 9 3,cL 12 fW,bh 13 false] (aa [aV 21 5 6,cL 14 fW,bu 5 14 21] (aa [bh 15 true] (.seq (aa [I 22 1,aS 23 .lss 22 2] (aZ 23 (aa [aI 25 1 1 6,az 26 1 25,aV 27 4 8,aV 28 4 9,c2 29 176 [.t 26,.t 27,.t 28],I 24 29,cj 30 0 24,cj 31 1 24,I 16 30,I 17 31] (aa [I 32 1,aS 33 .eql 32 0] (aZ 33 (aa [I 34 16,aI 35 1 1 14,bu 1 35 34] (.region [I 36 17,I 15 36])) (aa [I 37 17] (aZ 37 (aa [aI 38 1 1 6,az 39 1 38,I 40 16,b5 41 177 39 40,I 18 41] (aa [I 42 18,ct 43 42,aS 44 .gtr 43 0,I 15 44] (.region [dI 45 1 23 [],aI 46 2 1 6,az 47 1 46,gf 48 1 23 45 47,I 49 18,dI 50 1 23 [.t 49],gf 51 1 23 48 50,aI 52 2 1 14,bu 1 52 51]))) .skip))))) (aa [aI 54 1 1 6,az 55 1 54,aV 56 4 8,b5 57 166 55 56,I 53 57,cj 58 0 53,cj 59 1 53,cL 19 da,bu 4 19 58,I 20 59] (aa [I 60 20,I 15 60] (aa [I 61 15,I 62 61,bO 62 true 63 1,al 62 true (aS 64 .eql 63 2),de 65 62 64] (aZ 65 (.region [aI 67 3 1 6,az 68 1 67,aV 69 4 19,I 70 4,c2 71 178 [.t 68,.t 69,.t 70],I 66 71,cj 72 0 66,cj 73 1 66,aI 74 3 1 14,bu 1 74 72,I 15 73]) (aa [I 75 15] (aZ 75 (.region [aI 77 4 1 6,az 78 1 77,aV 79 4 19,I 80 5,c2 81 179 [.t 78,.t 79,.t 80],I 76 81,cj 82 0 76,cj 83 1 76,aI 84 4 1 14,bu 1 84 82,I 15 83]) .skip)))))))) (.seq (aa [I 85 15,cx 86 85] (aZ 86 (aa [gv 87 fW [],bu 5 12 87,bh 13 false] .ret) .skip)) (aa [aV 88 5 14,cG 89 147 88,cj 90 0 89,cj 91 1 89,bu 5 12 90,I 13 91] .ret))))))
@[simp] def IK:List bW:=[.cell 12 true 5,.tmp 13]
def SO:C:=(aa [cU 1 0,cL 2 fW] (.seq (.drawn true 20 [aI 3 0 1 1,az 4 1 3,aI 5 1 1 1,az 6 1 5,cG 7 190 6,aI 8 2 1 1,az 9 1 8,cG 10 191 9,dI 11 2 104 [],aI 12 3 1 1,az 13 1 12,gf 14 2 104 11 13,dI 15 2 106 [],aI 16 4 1 1,az 17 1 16,gf 18 2 106 15 17,gv 19 fW [(0,1,(.t 4)),(1,1,(.t 7)),(2,1,(.t 10)),(3,1,(.t 14)),(4,1,(.t 18))],bu 5 2 19]) .ret))
@[simp] def aom:List bW:=[.cell 2 true 5]
def Ga:C:=(aa [eA 6 5,b6 7 0] (.seq (aa [I 8 2,cx 9 8] (aZ 9 (aa [eA 6 5,b6 7 1] .ret) .skip)) (.seq (aa [I 10 0,I 11 1,b5 12 135 10 11] (aZ 12 (aa [eA 6 5,b6 7 2] .ret) .skip)) (aa [I 13 0,I 14 1,b5 15 123 13 14,I 6 15,b6 7 0] .ret))))
@[simp] def anV:List bW:=[.tmp 6,.tmp 7]
def R6:C:=(aa [bh 4 false] (.seq (aa [I 11 0,cG 12 142 11,cx 13 12] (aZ 13 (aa [bh 4 false] .ret) .skip)) (.seq (aa [I 14 0,ct 15 14,b6 16 0] (eZ 17 16 15 (.seq (.block 1 (aa [cw 18 5 14 16,aV 19 5 18,cL 6 ib,bu 5 6 19] (aa [aI 21 0 1 6,az 22 1 21,cG 23 91 22,I 24 1,b5 25 231 23 24,I 20 25,cj 26 0 20,cj 27 1 20,cL 7 da,bu 4 7 26,I 8 27] (aa [hp 29 1 4 6,aV 30 4 29,I 31 1,b5 32 231 30 31,I 28 32,cj 33 0 28,cj 34 1 28,cL 9 da,bu 4 9 33,I 10 34] (aa [I 35 8,I 36 35,bO 36 true 37 10,de 38 36 37,I 39 38,al 39 true (aV 40 4 7),al 39 true (aV 41 4 9),al 39 true (b5 42 167 40 41),al 39 true (cx 43 42),de 44 39 43] (aZ 44 (aa [bh 4 true] .ret) .skip)))))) (.region [aS 45 .add 16 1,I 16 45])))) (aa [bh 4 false] .ret))))
@[simp] def an8:List bW:=[.tmp 4]
def QW:C:=(aa [bh 4 false] (.seq (aa [I 11 0,cG 12 55 11,cx 13 12,I 14 13,bO 14 false 15 1,al 14 false (cG 16 100 15),al 14 false (cx 17 16),cV 18 14 17] (aZ 18 (aa [bh 4 false] .ret) .skip)) (.seq (aa [I 19 0,ct 20 19,b6 21 0] (eZ 22 21 20 (.seq (.block 1 (aa [cw 23 5 19 21,aV 24 5 23,cL 6 ib,bu 5 6 24] (aa [I 26 1,aI 27 0 1 6,az 28 1 27,cG 29 96 28,b5 30 95 26 29,I 25 30,cj 31 0 25,cj 32 1 25,cL 7 da,bu 4 7 31,I 8 32] (aa [I 34 1,hp 35 1 4 6,aV 36 4 35,b5 37 95 34 36,I 33 37,cj 38 0 33,cj 39 1 33,cL 9 da,bu 4 9 38,I 10 39] (aa [I 40 8,I 41 40,bO 41 true 42 10,de 43 41 42,I 44 43,al 44 true (aV 45 4 7),al 44 true (aV 46 4 9),al 44 true (b5 47 108 45 46),al 44 true (cx 48 47),de 49 44 48] (aZ 49 (aa [bh 4 true] .ret) .skip)))))) (.region [aS 50 .add 21 1,I 21 50])))) (aa [bh 4 false] .ret))))
@[simp] def Yg:List bW:=[.tmp 4]
def Sz:C:=(aa [eA 2 5] (aa [dI 6 5 61 [],I 3 6] (.seq (aa [I 7 0,ct 8 7,b6 9 0] (eZ 10 9 8 (.seq (.block 1 (aa [cw 11 5 7 9,aV 12 5 11,cL 5 ib,bu 5 5 12] (.drawn true 24 [I 13 3,aI 14 0 1 5,az 15 1 14,hp 16 1 4 5,aV 17 4 16,cG 18 74 17,gv 19 ib [(0,1,(.t 15)),(1,4,(.t 18))],dI 20 5 61 [.t 19],gf 21 5 61 13 20,I 3 21]))) (.region [aS 22 .add 9 1,I 9 22])))) (aa [I 23 3,I 2 23] .ret))))
@[simp] def aog:List bW:=[.tmp 2]
def SK:C:=(aa [eA 2 1] (aa [dI 6 1 23 [],I 3 6] (.seq (aa [I 7 0,ct 8 7,b6 9 0] (eZ 10 9 8 (.seq (.block 1 (aa [cw 11 1 7 9,az 12 1 11,I 5 12] (.region [I 13 3,I 14 5,cG 15 190 14,dI 16 1 23 [.t 15],gf 17 1 23 13 16,I 3 17]))) (.region [aS 18 .add 9 1,I 9 18])))) (aa [I 19 3,I 2 19] .ret))))
@[simp] def aoj:List bW:=[.tmp 2]
def Kt:C:=(aa [cU 2 0,cL 4 da,bh 5 false] (.seq (aa [aV 8 4 2,cG 9 76 8,cx 10 9,I 11 10,bO 11 false 12 1,al 11 false (cG 13 78 12),al 11 false (cx 14 13),cV 15 11 14] (aZ 15 (aa [gv 16 da [],bu 4 4 16,bh 5 false] .ret) .skip)) (aa [I 18 1,aV 19 4 2,b5 20 166 18 19,I 17 20,cj 21 0 17,cj 22 1 17,cL 6 da,bu 4 6 21,I 7 22] (.seq (aa [I 23 7,cx 24 23] (aZ 24 (aa [gv 25 da [],bu 4 4 25,bh 5 false] .ret) .skip)) (aa [aV 26 4 6,cG 27 74 26,bu 4 4 27,bh 5 true] .ret)))))
@[simp] def an9:List bW:=[.cell 4 true 4,.tmp 5]
def kK:List (Nat×dB):=[
 (3,⟨1,8,.int .i64,.int .i64 0⟩),
 (9,⟨1,16,.str,.str []⟩),
 (23,⟨1,24,.slice 61,.slice 5 .nil []⟩),
 (24,⟨1,24,.slice 23,.slice 1 .nil []⟩),
 (25,⟨1,24,.slice 104,.slice 2 .nil []⟩),
 (26,⟨1,24,.slice 106,.slice 2 .nil []⟩),
 (28,⟨5,104,.struct [(0,3),(1,23),(2,24),(3,25),(4,26)],.agg [.int .i64 0,.slice 5 .nil [],.slice 1 .nil [],.slice 2 .nil [],.slice 2 .nil []]⟩),
 (30,⟨1,24,.slice 32,.slice 4 .nil []⟩),
 (32,⟨4,56,.struct [(0,3),(1,3),(2,9),(3,30)],.agg [.int .i64 0,.int .i64 0,.str [],.slice 4 .nil []]⟩),
 (61,⟨5,64,.struct [(0,3),(1,32)],.agg [.int .i64 0,.int .i64 0,.int .i64 0,.str [],.slice 4 .nil []]⟩),
 (104,⟨2,16,.struct [(0,3),(1,3)],.agg [.int .i64 0,.int .i64 0]⟩),
 (106,⟨2,24,.struct [(0,3),(1,9)],.agg [.int .i64 0,.str []]⟩),
 (112,⟨1,24,.slice 3,.slice 1 .nil []⟩)]
theorem fa:fM ax kK=true:=by kernel_rfl
theorem XD:b3 kK Kc N6 3 Tryz.f12=true:=by kernel_rfl
theorem TD:ax.funcs[(12:Nat)]? =some Tryz.f12:=Tryz.func12
theorem NH:b3 kK F0 Yf 3 Tryz.f13=true:=by kernel_rfl
theorem KY:ax.funcs[(13:Nat)]? =some Tryz.f13:=Tryz.func13
theorem NI:b3 kK F1 anI 3 Tryz.f14=true:=by kernel_rfl
theorem KZ:ax.funcs[(14:Nat)]? =some Tryz.f14:=Tryz.func14
theorem NJ:b3 kK F2 anJ 3 Tryz.f16=true:=by kernel_rfl
theorem K0:ax.funcs[(16:Nat)]? =some Tryz.f16:=Tryz.func16
theorem amq:b3 kK R5 an7 2 Tryz.f29=true:=by kernel_rfl
theorem afm:ax.funcs[(29:Nat)]? =some Tryz.f29:=Tryz.func29
theorem Ie:b3 kK CG Om 2 Tryz.f30=true:=by kernel_rfl
theorem Gx:ax.funcs[(30:Nat)]? =some Tryz.f30:=Tryz.func30
theorem NG:b3 kK FZ anG 2 Tryz.f31=true:=by kernel_rfl
theorem KX:ax.funcs[(31:Nat)]? =some Tryz.f31:=Tryz.func31
theorem NN:b3 kK F6 anU 2 Tryz.f47=true:=by kernel_rfl
theorem K4:ax.funcs[(47:Nat)]? =some Tryz.f47:=Tryz.func47
theorem alu:b3 kK Q7 anO 3 Tryz.f48=true:=by kernel_rfl
theorem aer:ax.funcs[(48:Nat)]? =some Tryz.f48:=Tryz.func48
theorem XJ:b3 kK Ki Yu 1 Tryz.f49=true:=by kernel_rfl
theorem TJ:ax.funcs[(49:Nat)]? =some Tryz.f49:=Tryz.func49
theorem XC:b3 kK Kb anH 3 Tryz.f51=true:=by kernel_rfl
theorem TC:ax.funcs[(51:Nat)]? =some Tryz.f51:=Tryz.func51
theorem amC:b3 kK Sh aoe 1 Tryz.f78=true:=by kernel_rfl
theorem afy:ax.funcs[(78:Nat)]? =some Tryz.f78:=Tryz.func78
theorem XQ:b3 kK Ku YQ 1 Tryz.f79=true:=by kernel_rfl
theorem TQ:ax.funcs[(79:Nat)]? =some Tryz.f79:=Tryz.func79
theorem anb:b3 kK SR Y8 2 Tryz.f80=true:=by kernel_rfl
theorem af7:ax.funcs[(80:Nat)]? =some Tryz.f80:=Tryz.func80
theorem NP:b3 kK F8 Iz 2 Tryz.f84=true:=by kernel_rfl
theorem K6:ax.funcs[(84:Nat)]? =some Tryz.f84:=Tryz.func84
theorem s7:b3 kK rj IK 6 Tryz.f93=true:=by kernel_rfl
theorem sk:ax.funcs[(93:Nat)]? =some Tryz.f93:=Tryz.func93
theorem am8:b3 kK SO aom 1 Tryz.f112=true:=by kernel_rfl
theorem af4:ax.funcs[(112:Nat)]? =some Tryz.f112:=Tryz.func112
theorem NR:b3 kK Ga anV 3 Tryz.f125=true:=by kernel_rfl
theorem K8:ax.funcs[(125:Nat)]? =some Tryz.f125:=Tryz.func125
theorem amr:b3 kK R6 an8 2 Tryz.f168=true:=by kernel_rfl
theorem afn:ax.funcs[(168:Nat)]? =some Tryz.f168:=Tryz.func168
theorem alh:b3 kK QW Yg 2 Tryz.f172=true:=by kernel_rfl
theorem aeg:ax.funcs[(172:Nat)]? =some Tryz.f172:=Tryz.func172
theorem amT:b3 kK Sz aog 1 Tryz.f190=true:=by kernel_rfl
theorem afP:ax.funcs[(190:Nat)]? =some Tryz.f190:=Tryz.func190
theorem am4:b3 kK SK aoj 1 Tryz.f191=true:=by kernel_rfl
theorem af0:ax.funcs[(191:Nat)]? =some Tryz.f191:=Tryz.func191
theorem XP:b3 kK Kt an9 2 Tryz.f231=true:=by kernel_rfl
theorem TP:ax.funcs[(231:Nat)]? =some Tryz.f231:=Tryz.func231
def DS(t:T)(k:Nat)(st:br):Prop:=
 (k=t.args.length/\st=⟨[(2,.ptr (.loc 1) 0),(3,.ptr (.loc 2) 0),(14,.slice 4 .no (t.args.map T.e)),(15,.int .i64 t.args.length),(16,.int .i64 0)],[(.loc 1,[.int .i64 0,.int .i64 0,.str [],.slice 4 .nil []]),(.loc 2,[.int .i64 t.kind,.int .i64 t.int,.str t.name,.slice 4 .nil []])],[],3,[]⟩)\/
 ∃i:Nat,1<=i/\i<=t.args.length/\k=t.args.length-i/\st=⟨[(2,.ptr (.loc 1) 0),(3,.ptr (.loc 2) 0),(14,.slice 4 .no (t.args.map T.e)),(15,.int .i64 t.args.length),(16,.int .i64 i)],[(.loc 1,[.int .i64 0,.int .i64 0,.str [],.slice 4 .nil []]),(.loc 2,[.int .i64 t.kind,.int .i64 t.int,.str t.name,.slice 4 (.own (.loc 29)) ((t.args.take i).map T.e)])],[(.loc 29,⟨i,32,4,none⟩)],30,[]⟩
theorem Fi(t:T):bQ ax 74 [t.e] t.e:=by
 induction t with
 |pair a b dJ dK=>
  refine bj fN CS Ep fun aR=>?_;unfold z1;simp;refine nJ (DS (.pair a b)) 2 _ bT (.inl ⟨rfl,rfl⟩) ?_;rintro k st (⟨ae,rfl⟩|⟨i,J,U,ae,rfl⟩) ju cI;all_goals clear ju cI
  ·simp;(with_reducible repeat' first|refine aj ?_|refine aA dJ ?_|refine aB dJ ?_|simp);refine bP.next 1 (by rw[ae];simp) (.inr ⟨1,Ω,Ψ,rfl,rfl⟩) bT
  ·rcases(by simp at U;omega:i=1\/i=2)with rfl|rfl
   ·simp;(with_reducible repeat' first|refine aj ?_|refine aA dK ?_|refine aB dK ?_|simp);refine bP.next 0 (by rw[ae];simp) (.inr ⟨2,Ω,Ψ,rfl,rfl⟩) bT
   ·exact cp
 |nil=>
  refine bj fN CS Ep fun aR=>?_;unfold z1;simp;refine nJ (DS (.nil)) 0 _ bT (.inl ⟨rfl,rfl⟩) ?_;rintro k st (⟨ae,rfl⟩|⟨i,J,U,ae,rfl⟩) ju cI;all_goals clear ju cI
  ·exact cp
  ·simp at U;omega
 |var n=>
  refine bj fN CS Ep fun aR=>?_;unfold z1;simp;refine nJ (DS (.var n)) 0 _ bT (.inl ⟨rfl,rfl⟩) ?_;rintro k st (⟨ae,rfl⟩|⟨i,J,U,ae,rfl⟩) ju cI;all_goals clear ju cI
  ·exact cp
  ·simp at U;omega
 |sym s=>
  refine bj fN CS Ep fun aR=>?_;unfold z1;simp;refine nJ (DS (.sym s)) 0 _ bT (.inl ⟨rfl,rfl⟩) ?_;rintro k st (⟨ae,rfl⟩|⟨i,J,U,ae,rfl⟩) ju cI;all_goals clear ju cI
  ·exact cp
  ·simp at U;omega
 |num n=>
  refine bj fN CS Ep fun aR=>?_;unfold z1;simp;refine nJ (DS (.num n)) 0 _ bT (.inl ⟨rfl,rfl⟩) ?_;rintro k st (⟨ae,rfl⟩|⟨i,J,U,ae,rfl⟩) ju cI;all_goals clear ju cI
  ·exact cp
  ·simp at U;omega
theorem aaB(t:List ai)(aH:t.length<=1000000):bQ ax 190 [.slice 5 .no (t.map ai.e)] (.slice 5 .no (t.map ai.e)):=by
 refine bj fa afP amT fun aR=>?_;unfold Sz;simp;(with_reducible repeat' first|refine aj ?_|simp);refine h0 (α:=List ai) (fun i out=>⟨[(7,.slice 5 .no (t.map ai.e)),(8,.int .i64 t.length),(3,.slice 5 (.own (.loc 0)) (out.map ai.e)),(9,.int .i64 i)],[],[(.loc 0,⟨out.length,61,5,none⟩)],1,[]⟩) t.length (fun i out=>out=t.take i) [] bT Ψ (fun out af _=>?_) (fun i out hi af _=>?_)
 ·rw[gw (eu _)]at af;subst af;exact cp
 ·obtain⟨b,ay,fV⟩:=ej hi;have AR:out.length<=1000000:=by rw[af];simp;omega
  simp[hi,fV];(with_reducible repeat' first|refine aj ?_|refine aA (Fi _) ?_|refine aB (Fi _) ?_|simp[fV,hi]);all_goals first|(refine⟨by unfold lim;omega,?_⟩)|skip
  all_goals(with_reducible repeat' first|refine aj ?_|simp)
  all_goals refine bP.rng (out++[b]) hi (by rw[mP ay,af]) ?_
  all_goals simp
  all_goals exact⟨by simp[fresh,aN,aJ,cz,inObs,Pv.look,jA],eD (by simp[fresh,aN,aJ,cz,inObs,Pv.look,jA]),eE (by simp[fresh,aN,aJ,eg,inObs,Pv.look,jA]),Ψ⟩
def RZ:C:=(aa [cU 2 0] (aa [b6 4 20] (aa [I 8 4,b6 5 0,I 6 8] (.seq (.block 0 (.loop (.seq (aa [I 9 6,I 10 1,bq 11 .leq 9 10] (aZ 11 .skip (.exit 0))) (.block 1 (aa [aV 12 2 2,I 13 5,I 14 6,c2 15 260 [.t 12,.t 13,.t 14]] (aa [I 16 6,I 5 16] (.region [I 17 6,I 18 4,bq 19 .add 17 18,I 6 19]))))))) (aa [aV 20 2 2,I 21 5,I 22 1,c2 23 260 [.t 20,.t 21,.t 22]] (.block 2 (.loop (.seq (aa [I 24 4,I 25 1,bq 26 .lss 24 25] (aZ 26 .skip (.exit 2))) (.block 3 (aa [I 27 4,b2 28 (.bin .mul false (dS 2) (.t 27)),b6 5 0,I 6 28] (.seq (.block 4 (.loop (.seq (aa [I 29 6,I 30 1,bq 31 .leq 29 30] (aZ 31 .skip (.exit 4))) (.block 5 (aa [aV 32 2 2,I 33 5,I 34 5,I 35 4,bq 36 .add 34 35,I 37 6,c2 38 277 [.t 32,.t 33,.t 36,.t 37]] (aa [I 39 6,I 5 39] (.region [I 40 6,I 41 4,b2 42 (.bin .mul false (dS 2) (.t 41)),bq 43 .add 40 42,I 6 43]))))))) (.seq (aa [I 44 5,I 45 4,bq 46 .add 44 45,I 7 46] (aa [I 47 7,I 48 1,bq 49 .lss 47 48] (aZ 49 (.region [aV 50 2 2,I 51 5,I 52 7,I 53 1,c2 54 277 [.t 50,.t 51,.t 52,.t 53]]) .skip))) (.region [I 55 4,aS 56 .mul 55 2,I 4 56])))))))))))))
@[simp] def an5:List bW:=[]
def Kn:C:=(aa [cU 3 0] (aa [I 8 1,aS 9 .add 8 1,I 6 9] (.block 0 (.loop (.seq (aa [I 10 6,I 11 2,bq 12 .lss 10 11] (aZ 12 .skip (.exit 0))) (.seq (.block 1 (aa [I 15 6,I 7 15] (.block 2 (.loop (.seq (aa [I 16 7,I 17 1,bq 18 .gtr 16 17,I 19 18,al 19 true (aI 20 0 1 3),al 19 true (az 21 1 20),bO 19 true 22 7,bO 19 true 23 7,al 19 true (aS 24 .sub 23 1),al 19 true (gY 25 21 [.t 22,.t 24]),de 26 19 25] (aZ 26 .skip (.exit 2))) (.seq (.block 3 (.region [aI 29 1 1 3,az 30 1 29,I 31 7,I 32 7,aS 33 .sub 32 1,gY 34 30 [.t 31,.t 33]])) (.region [I 27 7,aS 28 .sub 27 1,I 7 28]))))))) (.region [I 13 6,aS 14 .add 13 1,I 6 14])))))))
@[simp] def an1:List bW:=[]
def Gc:C:=(aa [I 164 16,I 165 22,bq 166 .lss 164 165,I 167 166,bO 167 true 168 22,bO 167 true 169 3,al 167 true (bq 170 .lss 168 169),de 171 167 170] (aZ 171 (.region [aV 172 2 4,I 173 16,I 174 22,I 175 3,c2 176 277 [.t 172,.t 173,.t 174,.t 175]]) .skip))
def Gd:C:=(.seq (aa [I 151 1,I 152 18,bq 153 .lss 151 152,I 154 153,bO 154 true 155 18,bO 154 true 156 16,al 154 true (bq 157 .lss 155 156),de 158 154 157] (aZ 158 (.region [aV 159 2 4,I 160 1,I 161 18,I 162 16,c2 163 277 [.t 159,.t 160,.t 161,.t 162]]) .skip)) Gc)
def Kr:C:=(.seq (aa [I 138 18,I 139 2,bq 140 .lss 138 139,I 141 140,bO 141 true 142 2,bO 141 true 143 22,al 141 true (bq 144 .lss 142 143),de 145 141 144] (aZ 145 (.region [aV 146 2 4,I 147 18,I 148 2,I 149 22,c2 150 284 [.t 146,.t 147,.t 148,.t 149]]) .skip)) Gd)
def Ks:C:=(aa [I 113 17,aS 114 .sub 113 1,I 20 114] (.seq (.block 8 (.loop (.seq (aa [I 115 18,I 116 19,bq 117 .lss 115 116] (aZ 117 .skip (.exit 8))) (.block 9 (aa [I 118 18,I 119 19,bq 120 .add 118 119,b2 121 (.conv .u64 (.t 120)),b2 122 (.bin .shr false (.t 121) (.c (.int .u64 1))),b2 123 (.conv .i64 (.t 122)),I 21 123] (aa [aI 124 0 1 4,az 125 1 124,I 126 20,I 127 21,bq 128 .sub 126 127,I 129 21,gY 130 125 [.t 128,.t 129],cx 131 130] (aZ 131 (.region [I 132 21,aS 133 .add 132 1,I 18 133]) (.region [I 134 21,I 19 134])))))))) (aa [I 135 17,I 136 18,bq 137 .sub 135 136,I 22 137] Kr)))
def R3:C:=(aa [cU 4 0] (.seq (aa [I 23 2,I 24 1,bq 25 .sub 23 24,aS 26 .eql 25 1] (aZ 26 (aa [I 27 2,I 8 27] (aa [I 28 3,I 9 28] (.seq (.block 0 (.loop (.seq (aa [I 29 8,I 30 9,bq 31 .lss 29 30] (aZ 31 .skip (.exit 0))) (.block 1 (aa [I 32 8,I 33 9,bq 34 .add 32 33,b2 35 (.conv .u64 (.t 34)),b2 36 (.bin .shr false (.t 35) (.c (.int .u64 1))),b2 37 (.conv .i64 (.t 36)),I 10 37] (aa [aI 38 0 1 4,az 39 1 38,I 40 10,I 41 1,gY 42 39 [.t 40,.t 41]] (aZ 42 (.region [I 43 10,aS 44 .add 43 1,I 8 44]) (.region [I 45 10,I 9 45])))))))) (.seq (aa [I 46 1,I 11 46] (.block 2 (.loop (.seq (aa [I 47 11,I 48 8,aS 49 .sub 48 1,bq 50 .lss 47 49] (aZ 50 .skip (.exit 2))) (.seq (.block 3 (.region [aI 53 1 1 4,az 54 1 53,I 55 11,I 56 11,aS 57 .add 56 1,gY 58 54 [.t 55,.t 57]])) (.region [I 51 11,aS 52 .add 51 1,I 11 52])))))) .ret)))) .skip)) (.seq (aa [I 59 3,I 60 2,bq 61 .sub 59 60,aS 62 .eql 61 1] (aZ 62 (aa [I 63 1,I 12 63] (aa [I 64 2,I 13 64] (.seq (.block 4 (.loop (.seq (aa [I 65 12,I 66 13,bq 67 .lss 65 66] (aZ 67 .skip (.exit 4))) (.block 5 (aa [I 68 12,I 69 13,bq 70 .add 68 69,b2 71 (.conv .u64 (.t 70)),b2 72 (.bin .shr false (.t 71) (.c (.int .u64 1))),b2 73 (.conv .i64 (.t 72)),I 14 73] (aa [aI 74 0 1 4,az 75 1 74,I 76 2,I 77 14,gY 78 75 [.t 76,.t 77],cx 79 78] (aZ 79 (.region [I 80 14,aS 81 .add 80 1,I 12 81]) (.region [I 82 14,I 13 82])))))))) (.seq (aa [I 83 2,I 15 83] (.block 6 (.loop (.seq (aa [I 84 15,I 85 12,bq 86 .gtr 84 85] (aZ 86 .skip (.exit 6))) (.seq (.block 7 (.region [aI 89 1 1 4,az 90 1 89,I 91 15,I 92 15,aS 93 .sub 92 1,gY 94 90 [.t 91,.t 93]])) (.region [I 87 15,aS 88 .sub 87 1,I 15 88])))))) .ret)))) .skip)) (aa [I 95 1,I 96 3,bq 97 .add 95 96,b2 98 (.conv .u64 (.t 97)),b2 99 (.bin .shr false (.t 98) (.c (.int .u64 1))),b2 100 (.conv .i64 (.t 99)),I 16 100] (aa [I 101 16,I 102 2,bq 103 .add 101 102,I 17 103] (aa [b6 18 0,b6 19 0] (.seq (aa [I 104 2,I 105 16,bq 106 .gtr 104 105] (aZ 106 (aa [I 107 17,I 108 3,bq 109 .sub 107 108,I 18 109] (.region [I 110 16,I 19 110])) (aa [I 111 1,I 18 111] (.region [I 112 2,I 19 112])))) Ks)))))))
@[simp] def an6:List bW:=[]
def RX:C:=(aa [cU 4 0] (aa [I 10 2,I 11 1,bq 12 .sub 10 11,I 8 12] (aa [I 13 3,I 14 2,bq 15 .sub 13 14,I 9 15] (.seq (.block 0 (.loop (.seq (aa [I 16 8,I 17 9,bq 18 .neq 16 17] (aZ 18 .skip (.exit 0))) (.block 1 (aa [I 19 8,I 20 9,bq 21 .gtr 19 20] (aZ 21 (aa [aV 22 2 4,I 23 2,I 24 8,bq 25 .sub 23 24,I 26 2,I 27 9,c2 28 295 [.t 22,.t 25,.t 26,.t 27]] (.region [I 29 8,I 30 9,bq 31 .sub 29 30,I 8 31])) (aa [aV 32 2 4,I 33 2,I 34 8,bq 35 .sub 33 34,I 36 2,I 37 9,bq 38 .add 36 37,I 39 8,bq 40 .sub 38 39,I 41 8,c2 42 295 [.t 32,.t 35,.t 40,.t 41]] (.region [I 43 9,I 44 8,bq 45 .sub 43 44,I 9 45])))))))) (.region [aV 46 2 4,I 47 2,I 48 8,bq 49 .sub 47 48,I 50 2,I 51 8,c2 52 295 [.t 46,.t 49,.t 50,.t 51]])))))
@[simp] def an3:List bW:=[]
def R0:C:=(aa [cU 4 0] (aa [b6 8 0] (.block 0 (.loop (.seq (aa [I 9 8,I 10 3,bq 11 .lss 9 10] (aZ 11 .skip (.exit 0))) (.seq (.block 1 (.region [aI 14 1 1 4,az 15 1 14,I 16 1,I 17 8,bq 18 .add 16 17,I 19 2,I 20 8,bq 21 .add 19 20,gY 22 15 [.t 18,.t 21]])) (.region [I 12 8,aS 13 .add 12 1,I 8 13])))))))
@[simp] def YO:List bW:=[]
def B5:List (Nat×dB):=[
 (3,⟨1,8,.int .i64,.int .i64 0⟩),
 (160,⟨1,8,.other,.junk⟩),
 (163,⟨1,8,.int .u64,.int .u64 0⟩),
 (216,⟨1,8,.other,.junk⟩),
 (222,⟨2,16,.struct [(0,160),(1,216)],.agg [.junk,.junk]⟩)]
theorem B7:fM ax B5=true:=by kernel_rfl
theorem amm:b3 B5 RZ an5 2 Tryz.f248=true:=by kernel_rfl
theorem afi:ax.funcs[(248:Nat)]? =some Tryz.f248:=Tryz.func248
theorem XO:b3 B5 Kn an1 3 Tryz.f260=true:=by kernel_rfl
theorem TO:ax.funcs[(260:Nat)]? =some Tryz.f260:=Tryz.func260
theorem amo:b3 B5 R3 an6 4 Tryz.f277=true:=by kernel_rfl
theorem afk:ax.funcs[(277:Nat)]? =some Tryz.f277:=Tryz.func277
theorem amk:b3 B5 RX an3 4 Tryz.f284=true:=by kernel_rfl
theorem afg:ax.funcs[(284:Nat)]? =some Tryz.f284:=Tryz.func284
theorem amn:b3 B5 R0 YO 4 Tryz.f295=true:=by kernel_rfl
theorem afj:ax.funcs[(295:Nat)]? =some Tryz.f295:=Tryz.func295
end
section
open Go Go.Pv
structure fb {α:Type} (S:List α->cR) (n:Nat) (g cf:Nat) (lc b9:List ak) (lt:α->α->Bool):Prop where
 ok:∀l,dM (S l)
 same:∀l a8,l.length=n->a8.length=n->Same (S l) (S a8)
 klc:∀l,l.length=n->aN (inObs (S l)) lc
 ksc:∀l,l.length=n->aN (inObs (S l)) b9
 slc:c7 lc=lc
 ssc:c7 b9=b9
 le:n<=68719476736
 less:∀l,l.length=n->∀(i j:Nat) x y,l[i]? =some x->l[j]? =some y->bI ax g (.int .i64 i:: .int .i64 j::lc) (S l) fun r ah=>r= .bool (lt x y)/\ah=S l
 swap:∀l,l.length=n->2<=n->∀i j:Nat,i<n->j<n->bI ax cf (.int .i64 i:: .int .i64 j::b9) (S l) fun r ah=>r= .tuple []/\ah=S (hA l i j)
variable {α:Type} {S:List α->cR} {n g cf:Nat} {lc b9:List ak} {lt:α->α->Bool}
def e3(g cf:Nat)(lc b9:List ak):ak:= .agg [.func g lc,.func cf b9]
theorem Lv(H:fb S n g cf lc b9 lt)(l:List α)(av:l.length=n)(a b c:Nat)(asy:a+c<=b)(UH:b+c<=n):
  bI ax 295 [e3 g cf lc b9,.int .i64 a,.int .i64 b,.int .i64 c] (S l) fun r ah=>r= .tuple []/\∃a8,ah=S a8/\gH a (b+c) l a8/\∀k,a8[k]? =l[tq a b c k]?:=by
 have ag:=H.ok l;have au:∀l m,Pv.look (.loc m) (S l).b=none:=fun l=>(H.ok l).obj.1;have hu:∀l m cs,cF (.loc m) cs (S l).b=(S l).b++[(.loc m,cs)]:=fun l m cs=>kr (au l m);have aw:∀m,aM.loc m∉c3 (S l):=kl ag.obj;have hle:=H.le;refine bI.mk mixed B7 afj amn Ψ ag.obj fun aR cI=>?_;unfold R0;simp[e3,hu,aw,cS,au,H.slc,H.ssc];refine h0 (fun i (lk:List α)=>⟨[(1,.int .i64 a),(2,.int .i64 b),(3,.int .i64 c),(4,.ptr (.loc 0) 0),(8,.int .i64 i)],[(.loc 0,[.func g lc,.func cf b9])]++(S lk).b,(S lk).e,1,c3 (S l)⟩) c (fun i lk=>lk.length=n/\gH a (b+c) l lk/\∀k,lk[k]? =l[tq a b i k]?) l
  (jc.obL ag (Same.refl _) (by simp[aJ]) (by simp[cS,au,aJ,aN,Bt (H.klc l av),Bt (H.ksc l av)]) aL aL) ⟨av,.refl _,fun k=>by simp[tq];split<;>(try split)<;>(try rfl)<;>(exfalso;omega)⟩ ?_ ?_
 ·rintro lk ⟨J,U,ao⟩ _;simp;refine cP.at (S lk) (.inr rfl) (H.ok lk) (H.same _ _ av J) aL aL ?_;simp[cW,YO,aU,aW,aT];exact⟨lk,rfl,U,ao⟩
 ·rintro i lk hi ⟨J,U,ao⟩ _;have aq:((a:Int)+i)=(a+i:Nat):=Ω
  have aG:((b:Int)+i)=(b+i:Nat):=Ω
  simp[hi,cS,au,H.ssc];(with_reducible repeat' first|refine aj ?_|simp);rw[aq,aG];refine cO.ob (H.swap lk J Ω (a+i) (b+i) Ω Ω) (H.ok lk) aL aL (by simp[H.ksc lk J]) ?_;rintro r ah ⟨rfl,rfl⟩;refine⟨H.same _ _ J (by simp[J]),?_⟩;simp[hr,iW,cb,au];(with_reducible repeat' first|refine aj ?_|simp);refine bP.rng (hA lk (a+i) (b+i)) hi ⟨by simp[J],.step U Ω Ω Ω Ω Ω Ω,fun k=>?_⟩ (jc.obL (L:=[(.loc 0,[.func g lc,.func cf b9])]) (H.ok _) (H.same _ _ av (by simp[J])) (by simp[aJ]) (by simp[cS,au,aJ,aN,Bt (H.klc (hA lk (a+i) (b+i)) (by simp[J])),Bt (H.ksc (hA lk (a+i) (b+i)) (by simp[J]))]) aL aL);rw[Bh _ _ _ _ Ω Ω,ao,ao,ao];have:tq a b (i+1) k=if k=a+i then tq a b i (b+i)else if k=b+i then tq a b i (a+i)else tq a b i k:=by
   simp only[tq];repeat' split
   all_goals omega
  rw[this];split
  ·rfl
  ·split<;>rfl
section
variable (H:fb S n g cf lc b9 lt)
include H
theorem fb.loc{l:List α}(m:Nat):Pv.look (.loc m) (S l).b=none:=(H.ok l).obj.1 m
theorem fb.weak{l lk:List α}(av:l.length=n)(ae:lk.length=n){st:br}{dO:List (Nat×ak)}(aH:∀x∈dO,Pv.get x.1 st.t=x.2/\aJ (mK (S lk) 1) x.2)(bE:Pv.look (.loc 0) st.b=some [.func g lc,.func cf b9])
  (ab:∀k cs,Pv.look k (S lk).b=some cs->Pv.look k st.b=some cs) (he:∀k o,Pv.look k (S lk).e=some o->Pv.look k st.e=some o):
  jc (c3 (S l)) st ⟨dO,(.loc 0,[.func g lc,.func cf b9])::(S lk).b,(S lk).e,1,c3 (S l)⟩:=
 jc.obL (L:=[(.loc 0,[.func g lc,.func cf b9])]) (H.ok _) (H.same _ _ av ae) aH (by simp[bE,aJ,aN,Bt (H.klc lk ae),Bt (H.ksc lk ae)]) ab he
theorem fb.weakC{l lk:List α}(av:l.length=n)(ae:lk.length=n){t dO:List (Nat×ak)}{q:Nat}{o:List aM}(aH:∀x∈dO,Pv.get x.1 t=x.2/\aJ (mK (S lk) 1) x.2):
  jc (c3 (S l)) ⟨t,(.loc 0,[.func g lc,.func cf b9])::(S lk).b,(S lk).e,q,o⟩ ⟨dO,(.loc 0,[.func g lc,.func cf b9])::(S lk).b,(S lk).e,1,c3 (S l)⟩:=
 H.weak av ae aH (by simp[Pv.look]) (fun k cs ad=>by
  cases k with
  |loc m=>rw[H.loc m]at ad;cases ad
  |obj m=>simpa[Pv.look]using ad) (fun _ _ ad=>ad)
theorem fb.call{lk:List α}(J:lk.length=n){f:Nat}{args:List ak}{R:ak->List α->Prop}(aQ:bI ax f args (S lk) fun r ah=> ∃a8,ah=S a8/\R r a8)(bA:∀r a8,R r a8->a8.length=n)(ae:aN (inObs (S lk)) args){t:List (Nat×ak)}{D:List ak}{o:List aM}{d:Option Nat}{K:br->Prop}
  (h:∀r a8,R r a8->K ⟨eY d r t,(.loc 0,D)::(S a8).b,(S a8).e,1,o++c3 (S a8)⟩):cO ax f args ⟨t,(.loc 0,D)::(S lk).b,(S lk).e,1,o⟩ d K:=by
 refine cO.ob aQ (H.ok lk) (fun k cs ad=>?_) (fun _ _ ad=>ad) ae ?_
 ·cases k with
  |loc m=>rw[H.loc m]at ad;cases ad
  |obj m=>simpa[Pv.look]using ad
 ·rintro r ah ⟨a8,rfl,aK⟩;refine⟨H.same _ _ J (bA _ _ aK),?_⟩;have aq:cb (S lk).b ((.loc 0,D)::(S lk).b)=[(.loc 0,D)]:=by have:=iW (S lk).b [(aM.loc 0,D)] (S lk).b;rw[hr]at this;simpa[cb,H.loc]using this
  have aG:cb (S lk).e (S lk).e=[]:=hr _;have:=h _ _ aK;simp only[aq,aG];exact this
theorem fb.doSwap{lk:List α}(J:lk.length=n)(i j:Nat)(hi:i<n)(af:j<n)(U:2<=n){t:List (Nat×ak)}{D:List ak}{o:List aM}{d:Option Nat}{K:br->Prop}
  (h:K ⟨eY d (.tuple []) t,(.loc 0,D)::(S (hA lk i j)).b,(S (hA lk i j)).e,1,o++c3 (S (hA lk i j))⟩):cO ax cf (.int .i64 i:: .int .i64 j::b9) ⟨t,(.loc 0,D)::(S lk).b,(S lk).e,1,o⟩ d K:=
 H.call J (R:=fun r a8=>r= .tuple []/\a8=hA lk i j) ((H.swap lk J U i j hi af).mono fun r ah ⟨aq,aG⟩=>⟨_,aG,aq,rfl⟩) (fun r a8 ⟨_,e⟩=>by rw[e];simp[J]) (by simp[aJ,aN,H.ksc lk J]) (by rintro r a8 ⟨rfl,rfl⟩;exact h)
theorem fb.doLess{lk:List α}(J:lk.length=n)(i j:Nat){x y:α}(hi:lk[i]? =some x)(af:lk[j]? =some y){t:List (Nat×ak)}{D:List ak}{o:List aM}{d:Option Nat}{K:br->Prop}
  (h:K ⟨eY d (.bool (lt x y)) t,(.loc 0,D)::(S lk).b,(S lk).e,1,o++c3 (S lk)⟩):cO ax g (.int .i64 i:: .int .i64 j::lc) ⟨t,(.loc 0,D)::(S lk).b,(S lk).e,1,o⟩ d K:=
 H.call J (R:=fun r a8=>r= .bool (lt x y)/\a8=lk) ((H.less lk J i j x y hi af).mono fun r ah ⟨aq,aG⟩=>⟨_,aG,aq,rfl⟩) (fun r a8 ⟨_,e⟩=>by rw[e];exact J) (by simp[aJ,aN,H.klc lk J]) (by rintro r a8 ⟨rfl,rfl⟩;exact h)
theorem fb.doFn{lk:List α}(J:lk.length=n){f:Nat}{args:List ak}{R:List α->Prop}(aQ:bI ax f args (S lk) fun r ah=>r= .tuple []/\∃a8,ah=S a8/\R a8)(bA:∀a8,R a8->a8.length=n)(ae:aN (inObs (S lk)) args){t:List (Nat×ak)}{D:List ak}{o:List aM}{d:Option Nat}{K:br->Prop}
  (h:∀a8,R a8->K ⟨eY d (.tuple []) t,(.loc 0,D)::(S a8).b,(S a8).e,1,o++c3 (S a8)⟩):cO ax f args ⟨t,(.loc 0,D)::(S lk).b,(S lk).e,1,o⟩ d K:=
 H.call J (R:=fun r a8=>r= .tuple []/\R a8) (aQ.mono fun r ah ⟨aq,a8,aG,bG⟩=>⟨a8,aG,aq,bG⟩) (fun r a8 h=>bA a8 h.2) ae (by rintro r a8 ⟨rfl,aK⟩;exact h a8 aK)
theorem fb.kdata{lk:List α}(J:lk.length=n):aJ (inObs (S lk)) (e3 g cf lc b9):=by simp[e3,aJ,aN,H.klc lk J,H.ksc lk J]
theorem fb.ret{l lk:List α}(av:l.length=n)(J:lk.length=n){Q:ak->cR->Prop}{e:Exit}(he:e= .ret\/e= .normal){t:List (Nat×ak)}{D:List ak}{q:Nat}{o:List aM}(bt:Q (.tuple []) (S lk)):cP [] (S l) Q e ⟨t,(.loc 0,D)::(S lk).b,(S lk).e,q,o⟩:=by
 refine cP.at (S lk) he (H.ok lk) (H.same _ _ av J) (fun k cs ad=>?_) (fun _ _ ad=>ad) ?_
 ·cases k with
  |loc m=>rw[H.loc m]at ad;cases ad
  |obj m=>simpa[Pv.look]using ad
 ·simp[cW,aU,aT,aJ,aN,bt]
end
theorem iK(H:fb S n g cf lc b9 lt):eb (e3 g cf lc b9)=e3 g cf lc b9:=by simp[e3,eb,c7,H.slc,H.ssc]
theorem iD:ak.agg [.func g lc,.func cf b9]=e3 g cf lc b9:=rfl
theorem ag0(H:fb S n g cf lc b9 lt)(l:List α)(av:l.length=n)(a m b:Nat)(Dd:a<m)(oG:m<b)(ab:b<=n):
  bI ax 284 [e3 g cf lc b9,.int .i64 a,.int .i64 m,.int .i64 b] (S l) fun r ah=>r= .tuple []/\∃a8,ah=S a8/\gH a b l a8/\∀k,a8[k]? =l[ih a m b k]?:=by
 have ag:=H.ok l;have au:∀l m,Pv.look (.loc m) (S l).b=none:=fun l=>(H.ok l).obj.1;have hu:∀l m cs,cF (.loc m) cs (S l).b=(S l).b++[(.loc m,cs)]:=fun l m cs=>kr (au l m);have aw:∀m,aM.loc m∉c3 (S l):=kl ag.obj;have hle:=H.le;refine bI.mk mixed B7 afg amk Ψ ag.obj fun aR cI=>?_;unfold RX;simp[e3,hu,aw,cS,au];(with_reducible repeat' first|refine aj ?_|simp[hu,aw,cS,au]);refine pd (fun(x:(Nat×Nat)×List α)=>⟨[(2,.int .i64 m),(4,.ptr (.loc 0) 0),(8,.int .i64 x.1.1),(9,.int .i64 x.1.2)],(.loc 0,[.func g lc,.func cf b9])::(S x.2).b,(S x.2).e,1,c3 (S l)⟩) (fun x=>x.1.1+x.1.2)
  (fun x=>x.2.length=n/\0<x.1.1/\0<x.1.2/\a+x.1.1<=m/\m+x.1.2<=b/\gH a b l x.2/\∀k,l[ih a m b k]? =x.2[ih (m-x.1.1) m (m+x.1.2) k]?) ((m-a,b-m),l)
  (H.weak av av (by simp[aJ];omega) (by simp[cS,au]) aL aL) ⟨av,by simp;omega,by simp;omega,by simp;omega,by simp;omega,.refl _,fun k=>by simp[show m-(m-a)=a by omega,show m+(b-m)=b by omega]⟩ ?_
 rintro⟨⟨i,j⟩,lk⟩ ⟨J,hi,af,gD,G6,U,ao⟩ _;simp only at J hi af gD G6 U ao;simp[Pv.look];((with_reducible repeat' first|refine aj ?_|simp[Pv.look]|((first|apply bL|apply bN|apply bM)<;>intro h<;>try simp at h))<;>(try exact cm))
 ·have aq:((m:Int)-i)=(m-i:Nat):=Ω
  simp only[iK H,H.slc,H.ssc,aq,iD];refine H.doFn J (Lv H lk J (m-i) m j Ω Ω) (fun a8 h=>by rw[h.1.length];exact J) (by simp[aN,aJ,H.kdata J]) ?_;rintro a8 ⟨a1,bp⟩;have bV:a8.length=n:=by rw[a1.length];exact J
  simp;((with_reducible repeat' first|refine aj ?_|simp|((first|apply bL|apply bN|apply bM)<;>intro h<;>try simp at h))<;>(try exact cm));refine bP.whl ((i-j,j),a8) (by simp;omega) ⟨bV,by simp;omega,af,by simp;omega,G6,U.trans (a1.mono Ω Ω),fun k=>?_⟩ (H.weakC av bV (by simp[aJ];omega));rw[ao,bp];congr 1;simp only[ih,tq];repeat' split
  all_goals omega
 ·have aq:((m:Int)-i)=(m-i:Nat):=Ω
  have aG:((m:Int)+j-i)=(m+j-i:Nat):=Ω
  simp only[iK H,H.slc,H.ssc,aq,aG,iD];refine H.doFn J (Lv H lk J (m-i) (m+j-i) i Ω Ω) (fun a8 h=>by rw[h.1.length];exact J) (by simp[aN,aJ,H.kdata J]) ?_;rintro a8 ⟨a1,bp⟩;have bV:a8.length=n:=by rw[a1.length];exact J
  simp;(with_reducible repeat' first|refine aj ?_|simp);refine bP.whl ((i,j-i),a8) (by simp;omega) ⟨bV,hi,by simp;omega,gD,by simp;omega,U.trans (a1.mono Ω Ω),fun k=>?_⟩ (H.weakC av bV (by simp[aJ];omega));rw[ao,bp];congr 1;simp only[ih,tq];repeat' split
  all_goals omega
 ·have aq:((m:Int)-i)=(m-i:Nat):=Ω
  simp only[iK H,H.slc,H.ssc,aq,iD];refine H.doFn J (Lv H lk J (m-i) m i Ω Ω) (fun a8 h=>by rw[h.1.length];exact J) (by simp[aN,aJ,H.kdata J]) ?_;rintro a8 ⟨a1,bp⟩;have bV:a8.length=n:=by rw[a1.length];exact J
  simp;refine H.ret av bV (.inr rfl) ⟨rfl,a8,rfl,U.trans (a1.mono Ω Ω),fun k=>?_⟩;rw[ao,bp];congr 1;simp only[ih,tq];repeat' split
  all_goals omega
end
section
open Go Go.Pv
variable {α:Type} {S:List α->cR} {n g cf:Nat} {lc b9:List ak} {lt:α->α->Bool}
def uW(lt:α->α->Bool)(a b j:Nat)(l:List α):Prop:= ∀p q x y,a<=p->p<q->q<b->q≠j->l[p]? =some x->l[q]? =some y->lt y x=false
theorem uW.swap(bz:q8 lt){a b j:Nat}{l:List α}(h:uW lt a b (j+1) l)(UG:a<=j)(G6:j+1<b)(af:j+1<l.length){x y:α}(ad:l[j+1]? =some x)(aC:l[j]? =some y)(gP:lt x y=true):uW lt a b j (hA l (j+1) j):=by
 intro p q u v bD jN bt asR hu ay;rw[Bh _ _ _ _ af Ω]at hu ay;rw[if_neg (by omega:¬(q=j))]at ay;split at ay
 ·rename_i e;subst e;rw[aC]at ay;cases ay;split at hu
  ·omega
  ·split at hu
   ·rw[ad]at hu;cases hu;exact bz.asym _ _ gP
   ·exact h p j u y bD Ω Ω Ω hu aC
 ·split at hu
  ·rename_i e;subst e;rw[aC]at hu;cases hu;exact h j q y v UG Ω bt Ω aC ay
  ·split at hu
   ·rename_i e;subst e;rw[ad]at hu;cases hu;exact h (p+1) q x v Ω Ω bt Ω ad ay
   ·exact h p q u v bD jN bt Ω hu ay
theorem uW.done(bz:q8 lt){a b j:Nat}{l:List α}(h:uW lt a b (j+1) l)(UG:a<=j)(G6:j+1<b){x y:α}(ad:l[j+1]? =some x)(aC:l[j]? =some y)(gP:lt x y=false):fl lt a b l:=by
 intro p q u v bD jN bt hu ay;by_cases e:q=j+1
 ·subst e;rw[ad]at ay;cases ay;by_cases aG:p=j
  ·subst aG;rw[aC]at hu;cases hu;exact gP
  ·exact bz.ntr _ _ _ (h p j u y bD Ω Ω Ω hu aC) gP
 ·exact h p q u v bD jN bt e hu ay
theorem uW.first{a b:Nat}{l:List α}(h:uW lt a b a l):fl lt a b l:=fun p q u v bD jN bt hu ay=>h p q u v bD jN bt Ω hu ay
theorem fl.but{a b:Nat}{l:List α}(h:fl lt a b l):uW lt a (b+1) b l:=fun p q u v bD jN bt Me hu ay=>h p q u v bD jN Ω hu ay
theorem Uf(H:fb S n g cf lc b9 lt)(bz:q8 lt)(l:List α)(av:l.length=n)(a b:Nat)(nP:a<=b)(ab:b<=n):
  bI ax 260 [e3 g cf lc b9,.int .i64 a,.int .i64 b] (S l) fun r ah=>r= .tuple []/\∃a8,ah=S a8/\gH a b l a8/\fl lt a b a8:=by
 have ag:=H.ok l;have au:∀l m,Pv.look (.loc m) (S l).b=none:=fun l=>(H.ok l).obj.1;have hu:∀l m cs,cF (.loc m) cs (S l).b=(S l).b++[(.loc m,cs)]:=fun l m cs=>kr (au l m);have aw:∀m,aM.loc m∉c3 (S l):=kl ag.obj;have hle:=H.le;refine bI.mk mixed B7 TO XO Ψ ag.obj fun aR cI=>?_;unfold Kn;simp[e3,hu,aw,cS,au];(with_reducible repeat' first|refine aj ?_|simp[hu,aw,cS,au]);refine pd (fun(x:Nat×List α)=>⟨[(1,.int .i64 a),(2,.int .i64 b),(3,.ptr (.loc 0) 0),(6,.int .i64 x.1)],(.loc 0,[.func g lc,.func cf b9])::(S x.2).b,(S x.2).e,1,c3 (S l)⟩) (fun x=>b+1-x.1)
  (fun x=>x.2.length=n/\a<x.1/\x.1<=b+1/\(x.1<=b\/x.1=a+1)/\gH a b l x.2/\fl lt a x.1 x.2) (a+1,l)
  (H.weak av av (by simp[aJ]) (by simp[cS,au]) aL aL) ⟨av,Ψ,by simp;omega,.inr rfl,.refl _,fun i j x y J U ao=>by simp at ao;omega⟩ ?_
 rintro⟨i,lk⟩ ⟨J,nQ,AI,ug,U,ao⟩ _;simp only at J nQ AI ug U ao;simp;((with_reducible repeat' first|refine aj ?_|simp|((first|apply bL|apply bN|apply bM)<;>intro h<;>try simp at h))<;>(try exact cm))
 ·refine pd (fun(x:Nat×List α)=>⟨[(1,.int .i64 a),(2,.int .i64 b),(3,.ptr (.loc 0) 0),(6,.int .i64 i),(7,.int .i64 x.1)],(.loc 0,[.func g lc,.func cf b9])::(S x.2).b,(S x.2).e,1,c3 (S l)⟩) (fun x=>x.1)
   (fun x=>x.2.length=n/\a<=x.1/\x.1<=i/\gH a b l x.2/\uW lt a (i+1) x.1 x.2) (i,lk)
   (H.weakC av J (by simp[aJ])) ⟨J,by simp;omega,Ψ,U,fl.but ao⟩ ?_
  rintro⟨j,D9⟩ ⟨aP,aj1,ake,bd,bS⟩ _;simp only at aP aj1 ake bd bS;simp[Pv.look];((with_reducible repeat' first|refine aj ?_|simp[Pv.look]|((first|apply bL|apply bN|apply bM)<;>intro h<;>try simp at h))<;>(try exact cm))
  ·obtain⟨dG,rfl⟩:∃dG,j=dG+1:=⟨j-1,Ω⟩;obtain⟨x,ad⟩:∃x,D9[dG+1]? =some x:=⟨_,bY Ω⟩;obtain⟨y,aC⟩:∃y,D9[dG]? =some y:=⟨_,bY Ω⟩;have aq:(((dG+1:Nat):Int)-1)=(dG:Nat):=Ω
   rw[H.slc,aq];refine H.doLess aP (dG+1) dG ad aC ?_;simp;cases gP:lt x y with
   |true=>
    simp[Pv.look];(with_reducible repeat' first|refine aj ?_|simp[Pv.look]);have bG:((dG:Int)+1)=(dG+1:Nat):=Ω
    rw[H.ssc,bG];refine H.doSwap aP (dG+1) dG Ω Ω Ω ?_;simp;(with_reducible repeat' first|refine aj ?_|simp);refine bP.whl (dG,hA D9 (dG+1) dG) Ψ ⟨by simp[aP],by simp;omega,by simp;omega,.step bd Ω Ω Ω Ω Ω Ω,bS.swap bz Ω Ω Ω ad aC gP⟩ (H.weakC av (by simp[aP]) (by simp[aJ]))
   |false=>simp;((with_reducible repeat' first|refine aj ?_|simp|((first|apply bL|apply bN|apply bM)<;>intro h<;>try simp at h))<;>(try exact cm));refine bP.whl (i+1,D9) (by simp;omega) ⟨aP,by simp;omega,by simp;omega,by simp;omega,bd,bS.done bz Ω Ω ad aC gP⟩ (H.weakC av aP (by simp[aJ]))
  ·obtain rfl:j=a:=Ω
   refine bP.whl (i+1,D9) (by simp;omega) ⟨aP,by simp;omega,by simp;omega,by simp;omega,bd,bS.first⟩ (H.weakC av aP (by simp[aJ]))
 ·refine H.ret av J (.inr rfl) ⟨rfl,lk,rfl,U,fun p q x y bD jN bt=>ao p q x y bD jN Ω⟩
end
section
open Go Go.Pv
variable {α:Type} {S:List α->cR} {n g cf:Nat} {lc b9:List ak} {lt:α->α->Bool}
theorem akE(bz:q8 lt){l lk:List α}{a b i:Nat}(nQ:a+1<=i)(AI:i<=b)(ab:b<=l.length)(ag:fl lt (a+1) b l){z:α}(ba:l[a]? =some z)(wP:∀h x,a+1<=h->h<i->l[h]? =some x->lt x z=true)(wL:∀h x,i<=h->h<b->l[h]? =some x->lt x z=false)
  (aK:∀k,lk[k]? =l[ih a (a+1) i k]?):fl lt a b lk:=by
 intro p q x y bD jN bt ad aC;rw[aK]at ad aC;simp only[ih]at ad aC;rw[if_neg Ω]at ad aC;by_cases a1:q<i-1
 ·rw[if_pos Ω]at ad aC;exact ag _ _ _ _ Ω Ω Ω ad aC
 ·rw[if_neg Ω]at aC;by_cases bp:q<i
  ·rw[if_pos bp,show q-(i-(a+1))=a by omega,ba]at aC;cases aC;rw[if_pos Ω]at ad;exact bz.asym _ _ (wP _ _ Ω Ω ad)
  ·rw[if_neg bp]at aC;by_cases c1:p<i-1
   ·rw[if_pos Ω]at ad;exact ag _ _ _ _ Ω Ω Ω ad aC
   ·rw[if_neg Ω]at ad;by_cases dv:p<i
    ·rw[if_pos dv,show p-(i-(a+1))=a by omega,ba]at ad;cases ad;exact wL _ _ Ω bt aC
    ·rw[if_neg dv]at ad;exact ag _ _ _ _ Ω Ω bt ad aC
theorem akF(bz:q8 lt){l lk:List α}{a m i:Nat}(nQ:a<=i)(asM:i<=m)(ab:m+1<=l.length)(ag:fl lt a m l){z:α}(ba:l[m]? =some z)(wP:∀h x,a<=h->h<i->l[h]? =some x->lt z x=false)(wL:∀h x,i<=h->h<m->l[h]? =some x->lt z x=true)
  (aK:∀k,lk[k]? =l[ih i m (m+1) k]?):fl lt a (m+1) lk:=by
 intro p q x y bD jN bt ad aC;rw[aK]at ad aC;simp only[ih]at ad aC;by_cases a1:q<i
 ·rw[if_pos Ω]at ad aC;exact ag _ _ _ _ bD jN Ω ad aC
 ·rw[if_neg a1]at aC;by_cases bp:q=i
  ·rw[if_pos Ω,show q+(m-i)=m by omega,ba]at aC;cases aC;rw[if_pos Ω]at ad;exact wP _ _ bD Ω ad
  ·rw[if_neg Ω,if_pos Ω]at aC;by_cases c1:p<i
   ·rw[if_pos c1]at ad;exact ag _ _ _ _ bD Ω Ω ad aC
   ·rw[if_neg c1]at ad;by_cases dv:p=i
    ·rw[if_pos Ω,show p+(m-i)=m by omega,ba]at ad;cases ad;exact bz.asym _ _ (wL _ _ Ω Ω aC)
    ·rw[if_neg Ω,if_pos Ω]at ad;exact ag _ _ _ _ Ω Ω Ω ad aC
structure FA (lt:α->α->Bool) (a s m e b mid:Nat) (lk:List α):Prop where
 s1:fl lt a s lk
 s2:fl lt s mid lk
 s3:fl lt mid e lk
 s4:fl lt e b lk
 cross:∀p q x y,a<=p->p<mid->mid<=q->q<b->lk[p]? =some x->lk[q]? =some y->lt y x=false
theorem fl.le(bz:q8 lt){a b:Nat}{l:List α}(h:fl lt a b l){i j:Nat}{x y:α}(J:a<=i)(U:i<=j)(ao:j<b)(ad:l[i]? =some x)(aC:l[j]? =some y):lt y x=false:=by
 by_cases e:i=j
 ·subst e;rw[ad]at aC;cases aC;cases VM:lt x x with
  |false=>rfl
  |true=>have:=bz.asym _ _ VM;rw[VM]at this;exact this
 ·exact h _ _ _ _ J Ω ao ad aC
theorem akN(bz:q8 lt){l lk:List α}{a m b mid s e:Nat}(has:a<=s)(eL:s<=m)(asQ:m<=e)(asJ:e<=b)(ab:b<=l.length)(kB:s+e=mid+m)(J:fl lt a m l)(U:fl lt m b l)
  (b0:s=a\/e=b\/ ∃x y,l[s-1]? =some x/\l[e]? =some y/\lt y x=false) (cu:s=m\/e=m\/ ∃x y,l[s]? =some x/\l[e-1]? =some y/\lt y x=true) (aK:∀k,lk[k]? =l[ih s m e k]?):FA lt a s m e b mid lk:=by
 have g1:∀p,p<s->lk[p]? =l[p]?:=fun p bD=>by rw[aK];simp[ih,bD]
 have g2:∀p,s<=p->p<mid->lk[p]? =l[p+(m-s)]?:=fun p ao a6=>by rw[aK];simp only[ih];rw[if_neg Ω,if_pos Ω]
 have g3:∀p,mid<=p->p<e->lk[p]? =l[p-(e-m)]?:=fun p ao a6=>by rw[aK];simp only[ih];rw[if_neg Ω,if_neg Ω,if_pos Ω]
 have g4:∀p,e<=p->lk[p]? =l[p]?:=fun p ao=>by
  rw[aK];simp only[ih];rw[if_neg Ω];by_cases b7:p<s+(e-m)
  ·omega
  ·rw[if_neg b7,if_neg Ω]
 refine⟨fun p q x y bD jN bt ad aC=>?_,fun p q x y bD jN bt ad aC=>?_,fun p q x y bD jN bt ad aC=>?_,fun p q x y bD jN bt ad aC=>?_,fun p q x y bD aiM bt Me ad aC=>?_⟩
 ·rw[g1 _ Ω]at ad aC;exact J _ _ _ _ bD jN Ω ad aC
 ·rw[g2 _ Ω Ω]at ad aC;exact U _ _ _ _ Ω Ω Ω ad aC
 ·rw[g3 _ Ω Ω]at ad aC;exact J _ _ _ _ Ω Ω Ω ad aC
 ·rw[g4 _ Ω]at ad aC;exact U _ _ _ _ Ω Ω Ω ad aC
 ·by_cases c1:p<s
  ·rw[g1 _ c1]at ad;by_cases a1:q<e
   ·rw[g3 _ bt a1]at aC;exact J _ _ _ _ bD Ω Ω ad aC
   ·rw[g4 _ Ω]at aC;rcases b0 with b0|b0|⟨u,v,aP,bd,bS⟩
    ·omega
    ·omega
    ·exact bz.ntr _ _ _ (bz.ntr _ _ _ (fl.le bz J bD Ω Ω ad aP) bS) (fl.le bz U Ω Ω Me bd aC)
  ·rw[g2 _ Ω aiM]at ad;by_cases a1:q<e
   ·rw[g3 _ bt a1]at aC;rcases cu with cu|cu|⟨u,v,aP,bd,bS⟩
    ·omega
    ·omega
    ·exact bz.ntr _ _ _ (bz.ntr _ _ _ (fl.le bz U Ω Ω Ω ad bd) (bz.asym _ _ bS)) (fl.le bz J Ω Ω Ω aP aC)
   ·rw[g4 _ Ω]at aC;exact U _ _ _ _ Ω Ω Me ad aC
theorem akO{a mid b:Nat}(Dd:a<=mid){lk kj ho:List α}(J:gH a mid lk kj)(s1:fl lt a mid kj)(U:gH mid b kj ho)(s2:fl lt mid b ho)(acX:∀p q x y,a<=p->p<mid->mid<=q->q<b->lk[p]? =some x->lk[q]? =some y->lt y x=false):fl lt a b ho:=by
 intro p q x y bD jN bt ad aC;by_cases ao:q<mid
 ·rw[U.out _ (.inl Ω)]at ad;rw[U.out _ (.inl Ω)]at aC;exact s1 _ _ _ _ bD jN ao ad aC
 ·by_cases a6:mid<=p
  ·exact s2 _ _ _ _ a6 jN bt ad aC
  ·rw[U.out _ (.inl Ω)]at ad;refine U.all (fun y=>lt y x=false) (fun k y fH jZ aC=>?_) q y Ω bt aC;rw[J.out _ (.inr fH)]at aC;exact J.all (fun x=>lt y x=false) (fun bH x aib aic ad=>acX bH k x y aib aic fH jZ ad aC) p x bD Ω ad
end
section
open Go Go.Pv
variable {α:Type} {S:List α->cR} {n g cf:Nat} {lc b9:List ak} {lt:α->α->Bool}
def apl(lt:α->α->Bool)(l:List α)(mid m s0 r0:Nat)(x:Nat×Nat):Prop:=s0<=x.1/\x.1<=x.2/\x.2<=r0/\(x.1=s0\/ ∃u v,l[x.1-1]? =some u/\l[mid+m-x.1]? =some v/\lt v u=false)/\(x.2=r0\/ ∃u v,l[x.2]? =some u/\l[mid+m-x.2-1]? =some v/\lt v u=true)
attribute [local simp] qc
def FI(S:List α->cR)(n g cf:Nat)(lc b9:List ak)(lt:α->α->Bool)(d:Nat):Prop:=
 ∀(l:List α) (a m b:Nat),l.length=n->b-a<=d->a<m->m<b->b<=n->fl lt a m l->fl lt m b l->
  bI ax 277 [e3 g cf lc b9,.int .i64 a,.int .i64 m,.int .i64 b] (S l) fun r ah=>r= .tuple []/\∃a8,ah=S a8/\gH a b l a8/\fl lt a b a8
def FJ(S:List α->cR)(g cf:Nat)(lc b9:List ak)(lt:α->α->Bool)(a b:Nat)(l:List α)(Q:Exit->br->Prop):Prop:=∀ho t o,gH a b l ho->fl lt a b ho->Q .normal ⟨t,(.loc 0,[.func g lc,.func cf b9])::(S ho).b,(S ho).e,1,o⟩
section
variable {a m b mid i e d:Nat} {l:List α} {t:List (Nat×ak)} {o:List aM} {ob:List aM} {Q:Exit->br->Prop}
theorem ao2(H:fb S n g cf lc b9 lt)(bR:FI S n g cf lc b9 lt d)(t3:Pv.get 3 t= .int .i64 b)(t4:Pv.get 4 t= .ptr (.loc 0) 0)(t16:Pv.get 16 t= .int .i64 mid)(t22:Pv.get 22 t= .int .i64 e)(av:l.length=n)(J:mid<=e)(U:e<=b)(ab:b<=n)(aF:b-mid<=d)(Vy:fl lt mid e l)(Vz:fl lt e b l)(iu:FJ S g cf lc b9 lt mid b l Q):
  c5 ax ob Gc Q ⟨t,(.loc 0,[.func g lc,.func cf b9])::(S l).b,(S l).e,1,o⟩:=by
 unfold Gc;by_cases l4:mid<e/\e<b
 ·simp[t3,t4,t16,t22,l4.1,l4.2,Pv.look];simp only[iK H,H.slc,H.ssc,iD];refine H.doFn av (bR l mid e b av aF l4.1 l4.2 ab Vy Vz) (fun a8 h=>by rw[h.1.length];exact av) (by simp[aN,aJ,H.kdata av]) ?_;rintro ho ⟨lD,z2⟩;simp;exact iu _ _ _ lD z2
 ·have qL:fl lt mid b l:=by
   by_cases pg:mid<e
   ·rwa[show e=b by omega]at Vy
   ·rwa[show e=mid by omega]at Vz
  by_cases pg:mid<e
  ·have ahC:¬e<b:=Ω
   simp[t3,t16,t22,pg,ahC];exact iu _ _ _ (.refl _) qL
  ·simp[t16,t22,pg];exact iu _ _ _ (.refl _) qL
theorem ao3(H:fb S n g cf lc b9 lt)(bR:FI S n g cf lc b9 lt d)(t1:Pv.get 1 t= .int .i64 a)(t3:Pv.get 3 t= .int .i64 b)(t4:Pv.get 4 t= .ptr (.loc 0) 0)(t16:Pv.get 16 t= .int .i64 mid)(t18:Pv.get 18 t= .int .i64 i)(t22:Pv.get 22 t= .int .i64 e)(av:l.length=n)(bE:a<=i/\i<=mid/\a<=m)(J:mid<=e)(U:e<=b)(ab:b<=n)(aF:b-mid<=d)(nk:mid-a<=d)(gC:FA lt a i m e b mid l)(iu:FJ S g cf lc b9 lt a b l Q):
  c5 ax ob Gd Q ⟨t,(.loc 0,[.func g lc,.func cf b9])::(S l).b,(S l).e,1,o⟩:=by
 unfold Gd;have next:∀{kj t o},Pv.get 3 t= .int .i64 b->Pv.get 4 t= .ptr (.loc 0) 0->Pv.get 16 t= .int .i64 mid->Pv.get 22 t= .int .i64 e->kj.length=n->gH a mid l kj->fl lt a mid kj->c5 ax ob Gc Q ⟨t,(.loc 0,[.func g lc,.func cf b9])::(S kj).b,(S kj).e,1,o⟩:=fun aq aG bG di yy c1 dv=>by
  refine ao2 H bR aq aG bG di yy J U ab aF (fun p q x y J U ao ad aC=>?_) (fun p q x y J U ao ad aC=>?_) fun ho t o a1 bp=>?_
  ·rw[c1.out _ (.inr J)]at ad;rw[c1.out _ (.inr Ω)]at aC;exact gC.s3 p q x y J U ao ad aC
  ·rw[c1.out _ (.inr Ω)]at ad;rw[c1.out _ (.inr Ω)]at aC;exact gC.s4 p q x y J U ao ad aC
  ·exact iu ho t o ((c1.mono Ω Ω).trans (a1.mono Ω Ω)) (akO Ω c1 dv a1 bp gC.cross)
 by_cases lL:a<i/\i<mid
 ·simp[t1,t4,t16,t18,lL.1,lL.2,Pv.look];simp only[iK H,H.slc,H.ssc,iD];refine H.doFn av (bR l a i mid av nk lL.1 lL.2 Ω gC.s1 gC.s2) (fun a8 h=>by rw[h.1.length];exact av) (by simp[aN,aJ,H.kdata av]) ?_;rintro kj ⟨c1,dv⟩;simp;exact next (by simp[t3]) (by simp[t4]) (by simp[t16]) (by simp[t22]) (by rw[c1.length];exact av) c1 dv
 ·have dv:fl lt a mid l:=by
   by_cases qH:a<i
   ·have:=gC.s1;rwa[show i=mid by omega]at this
   ·have:=gC.s2;rwa[show i=a by omega]at this
  by_cases qH:a<i
  ·have GR:¬i<mid:=Ω
   simp[t1,t16,t18,qH,GR];exact next (by simp[t3]) (by simp[t4]) (by simp[t16]) (by simp[t22]) av (.refl _) dv
  ·simp[t1,t18,qH];exact next (by simp[t3]) (by simp[t4]) (by simp[t16]) (by simp[t22]) av (.refl _) dv
theorem ao4(H:fb S n g cf lc b9 lt)(bR:FI S n g cf lc b9 lt d)(t1:Pv.get 1 t= .int .i64 a)(t2:Pv.get 2 t= .int .i64 m)(t3:Pv.get 3 t= .int .i64 b)(t4:Pv.get 4 t= .ptr (.loc 0) 0)(t16:Pv.get 16 t= .int .i64 mid)(t18:Pv.get 18 t= .int .i64 i)(t22:Pv.get 22 t= .int .i64 e)(av:l.length=n)(bE:a<=i/\i<=mid/\a<=m)(J:mid<=e)(U:e<=b)(ab:b<=n)(aF:b-mid<=d)(nk:mid-a<=d)(Vh:∀lk:List α,(∀k,lk[k]? =l[ih i m e k]?)->FA lt a i m e b mid lk)(iu:FJ S g cf lc b9 lt a b l Q):
  c5 ax ob Kr Q ⟨t,(.loc 0,[.func g lc,.func cf b9])::(S l).b,(S l).e,1,o⟩:=by
 unfold Kr;have next:∀{lk t o},Pv.get 1 t= .int .i64 a->Pv.get 3 t= .int .i64 b->Pv.get 4 t= .ptr (.loc 0) 0->Pv.get 16 t= .int .i64 mid->Pv.get 18 t= .int .i64 i->Pv.get 22 t= .int .i64 e->lk.length=n->FA lt a i m e b mid lk->gH a b l lk->c5 ax ob Gd Q ⟨t,(.loc 0,[.func g lc,.func cf b9])::(S lk).b,(S lk).e,1,o⟩:=fun aq aG bG di hx h7 hW gC ahz=>ao3 H bR aq aG bG di hx h7 hW bE J U ab aF nk gC fun ho t o a1 bp=>iu ho t o (ahz.trans a1) bp
 by_cases Hi:i<m/\m<e
 ·simp[t2,t4,t18,t22,Hi.1,Hi.2,Pv.look];simp only[iK H,H.slc,H.ssc,iD];refine H.doFn av (ag0 H l av i m e Hi.1 Hi.2 Ω) (fun a8 h=>by rw[h.1.length];exact av) (by simp[aN,aJ,H.kdata av]) ?_;rintro lk ⟨a1,bp⟩;simp;exact next (by simp[t1]) (by simp[t3]) (by simp[t4]) (by simp[t16]) (by simp[t18]) (by simp[t22]) (by rw[a1.length];exact av) (Vh lk bp) (a1.mono Ω Ω)
 ·have gC:=Vh l (fun k=>by
   congr 1;simp only[ih];repeat' split
   all_goals omega)
  by_cases l9:i<m
  ·have aiR:¬m<e:=Ω
   simp[t2,t18,t22,l9,aiR];exact next (by simp[t1]) (by simp[t3]) (by simp[t4]) (by simp[t16]) (by simp[t18]) (by simp[t22]) av gC (.refl _)
  ·simp[t2,t18,l9];exact next (by simp[t1]) (by simp[t3]) (by simp[t4]) (by simp[t16]) (by simp[t18]) (by simp[t22]) av gC (.refl _)
theorem ZH{bb:List (aM×List ak)}(H:fb S n g cf lc b9 lt)(sA:Pv.look (.loc 0) bb=some [.func g lc,.func cf b9])(cI:∀k cs,Pv.look k (S l).b=some cs->Pv.look k bb=some cs)(bz:q8 lt)(bR:FI S n g cf lc b9 lt d){s0 r0:Nat}(t1:Pv.get 1 t= .int .i64 a)(t2:Pv.get 2 t= .int .i64 m)(t3:Pv.get 3 t= .int .i64 b)(t4:Pv.get 4 t= .ptr (.loc 0) 0)(t16:Pv.get 16 t= .int .i64 mid)(t17:Pv.get 17 t= .int .i64 ((mid:Int)+m))(t18:Pv.get 18 t= .int .i64 s0)(t19:Pv.get 19 t= .int .i64 r0)(av:l.length=n)(bE:a<m/\m<b/\mid=(a+b)/2)(J:mid<m/\s0=mid+m-b/\r0=mid\/m<=mid/\s0=a/\r0=m)(ab:b<=n)(aF:b-a<=d+1)(kV:fl lt a m l)(qh:fl lt m b l)(iu:FJ S g cf lc b9 lt a b l Q):
  c5 ax (c3 (S l)) Ks Q ⟨t,bb,(S l).e,1,o⟩:=by
 have hle:=H.le;unfold Ks;simp[t17];(with_reducible repeat' first|refine aj ?_|simp[t17]);refine pd (fun(x:Nat×Nat)=>⟨[(1,.int .i64 a),(2,.int .i64 m),(3,.int .i64 b),(4,.ptr (.loc 0) 0),(16,.int .i64 mid),(17,.int .i64 (mid+m)),(20,.int .i64 (mid+m-1)),(18,.int .i64 x.1),(19,.int .i64 x.2)],(.loc 0,[.func g lc,.func cf b9])::(S l).b,(S l).e,1,c3 (S l)⟩) (fun x=>x.2-x.1)
  (apl lt l mid m s0 r0) (s0,r0) (H.weak av av (by simp[aJ,t1,t2,t3,t4,t16,t17,t18,t19]) sA cI fun _ _ h=>h) ⟨Ψ,by simp;omega,Ψ,.inl rfl,.inl rfl⟩ ?_
 rintro⟨i,j⟩ ⟨aP,bd,bS,ea,dj⟩ _;simp only at aP bd bS ea dj;have pD:=GU i j Ω;by_cases lp:i<j
 ·simp[lp];(with_reducible repeat' first|refine aj ?_|simp[Pv.look]);obtain⟨c,ar⟩:∃c,c=(i+j)/2:=⟨_,rfl⟩;rw[<-ar]at pD;simp only[pD];(with_reducible repeat' first|refine aj ?_|simp[Pv.look]);obtain⟨u,Mv⟩:∃u,l[c]? =some u:=⟨_,bY Ω⟩;obtain⟨v,DJ⟩:∃v,l[mid+m-1-c]? =some v:=⟨_,bY Ω⟩;have di:((mid:Int)+m-1-c)=(mid+m-1-c:Nat):=Ω
  simp only[H.slc,di];refine H.doLess av (mid+m-1-c) c DJ Mv ?_;simp;cases sQ:lt v u with
  |false=>simp;(with_reducible repeat' first|refine aj ?_|simp);refine bP.whl (c+1,j) (by simp;omega) ⟨by simp;omega,by simp;omega,bS,.inr ⟨u,v,by simpa using Mv,?_,sQ⟩,dj⟩ (H.weakC av av (by simp[aJ]));simp only;rw[show mid+m-(c+1)=mid+m-1-c by omega];exact DJ
  |true=>simp;(with_reducible repeat' first|refine aj ?_|simp);refine bP.whl (i,c) (by simp;omega) ⟨aP,by simp;omega,by simp;omega,ea,.inr ⟨u,v,Mv,?_,sQ⟩⟩ (H.weakC av av (by simp[aJ]));simp only;rw[show mid+m-c-1=mid+m-1-c by omega];exact DJ
 ·obtain rfl:i=j:=Ω
  obtain⟨e,he⟩:∃e,e=mid+m-i:=⟨_,rfl⟩;have hx:((mid:Int)+m-i)=(e:Nat):=Ω
  have b0:i=a\/e=b\/ ∃x y,l[i-1]? =some x/\l[e]? =some y/\lt y x=false:=by
   rcases ea with ea|⟨u,v,a1,bp,bV⟩
   ·omega
   ·exact .inr (.inr ⟨u,v,a1,by rw[he];exact bp,bV⟩)
  have cu:i=m\/e=m\/ ∃x y,l[i]? =some x/\l[e-1]? =some y/\lt y x=true:=by
   rcases dj with dj|⟨u,v,a1,bp,bV⟩
   ·omega
   ·exact .inr (.inr ⟨u,v,a1,by rw[he];exact bp,bV⟩)
  simp[lp];(with_reducible repeat' first|refine aj ?_|simp);rw[hx];exact ao4 H bR (a:=a) (m:=m) (b:=b) (mid:=mid) (i:=i) (e:=e) Ψ Ψ Ψ Ψ Ψ Ψ Ψ av Ω Ω Ω ab Ω Ω (fun lk aK=>akN bz Ω Ω Ω Ω Ω Ω kV qh b0 cu aK) iu
end
theorem Um(H:fb S n g cf lc b9 lt)(bz:q8 lt)(d:Nat):∀(l:List α) (a m b:Nat),l.length=n->b-a<=d->a<m->m<b->b<=n->fl lt a m l->fl lt m b l->
  bI ax 277 [e3 g cf lc b9,.int .i64 a,.int .i64 m,.int .i64 b] (S l) fun r ah=>r= .tuple []/\∃a8,ah=S a8/\gH a b l a8/\fl lt a b a8:=by
 induction d with
 |zero=>intro l a m b av aF Dd oG;omega
 |succ d bR=>
 intro l a m b av aF Dd oG ab kV qh;have ag:=H.ok l;have au:∀l m,Pv.look (.loc m) (S l).b=none:=fun l=>(H.ok l).obj.1;have hu:∀l m cs,cF (.loc m) cs (S l).b=(S l).b++[(.loc m,cs)]:=fun l m cs=>kr (au l m);have aw:∀m,aM.loc m∉c3 (S l):=kl ag.obj;have hle:=H.le;refine bI.mk mixed B7 afk amo Ψ ag.obj fun aR cI=>?_;unfold R3;simp[e3,hu,aw,cS,au];(with_reducible repeat' first|((first|apply bL|apply bN|apply bM)<;>intro h<;>try simp at h)|refine aj ?_|simp[hu,aw,cS,au])
 ·obtain rfl:m=a+1:=Ω
  have Mi:∀k,ih a (a+1) (a+1) k=k:=by
   intro k;simp only[ih];repeat' split
   all_goals omega
  obtain⟨z,ba⟩:∃z,l[a]? =some z:=⟨_,bY Ω⟩;refine pd (fun(x:Nat×Nat)=>⟨[(1,.int .i64 a),(4,.ptr (.loc 0) 0),(8,.int .i64 x.1),(9,.int .i64 x.2)],(.loc 0,[.func g lc,.func cf b9])::(S l).b,(S l).e,1,c3 (S l)⟩) (fun x=>x.2-x.1)
   (fun x=>a+1<=x.1/\x.1<=x.2/\x.2<=b/\(∀h y,a+1<=h->h<x.1->l[h]? =some y->lt y z=true)/\(∀h y,x.2<=h->h<b->l[h]? =some y->lt y z=false)) (a+1,b)
   (H.weak av av (by simp[aJ]) (by simp[cS,au]) aL aL) ⟨Ψ,by simp;omega,Ψ,fun h y J U=>by simp at U;omega,fun h y J U=>by simp at J;omega⟩ ?_
  rintro⟨i,j⟩ ⟨aP,bd,bS,ea,dj⟩ _;simp only at aP bd bS ea dj;have hw:=GU i j Ω;simp[Pv.look];(with_reducible repeat' first|((first|apply bL|apply bN|apply bM)<;>intro h<;>try simp at h)|refine aj ?_|simp[Pv.look])
  ·obtain⟨c,ar⟩:∃c,c=(i+j)/2:=⟨_,rfl⟩;rw[<-ar]at hw;obtain⟨y,aC⟩:∃y,l[c]? =some y:=⟨_,bY Ω⟩;simp only[hw,H.slc];refine H.doLess av c a aC ba ?_;simp;cases sQ:lt y z with
   |true=>
    simp;(with_reducible repeat' first|refine aj ?_|simp);refine bP.whl (c+1,j) (by simp;omega) ⟨by simp;omega,by simp;omega,bS,fun h u J U hu=>?_,dj⟩ (H.weakC av av (by simp[aJ]));cases e:lt u z with
    |true=>rfl
    |false=>simp only at U;have:=bz.ntr _ _ _ e (fl.le bz qh J Ω Ω hu aC);rw[sQ]at this;cases this
   |false=>simp;(with_reducible repeat' first|refine aj ?_|simp);refine bP.whl (i,c) (by simp;omega) ⟨aP,by simp;omega,by simp;omega,ea,fun h u J U hu=>?_⟩ (H.weakC av av (by simp[aJ]));exact bz.ntr _ _ _ sQ (fl.le bz qh Ω J U aC hu)
  ·obtain rfl:i=j:=Ω
   refine pd (fun(x:Nat×List α)=>⟨[(4,.ptr (.loc 0) 0),(8,.int .i64 i),(11,.int .i64 x.1)],(.loc 0,[.func g lc,.func cf b9])::(S x.2).b,(S x.2).e,1,c3 (S l)⟩) (fun x=>i-x.1)
    (fun x=>x.2.length=n/\a<=x.1/\x.1<i/\gH a b l x.2/\∀k,x.2[k]? =l[ih a (a+1) (x.1+1) k]?) (a,l)
    (H.weakC av av (by simp[aJ])) ⟨av,Ψ,by simp;omega,.refl _,fun k=>by simp[Mi]⟩ ?_
   rintro⟨k,lk⟩ ⟨a1,bp,bV,cQ,cZ⟩ _;simp only at a1 bp bV cQ cZ;simp[Pv.look];((with_reducible repeat' first|refine aj ?_|simp[Pv.look]|((first|apply bL|apply bN|apply bM)<;>intro h<;>try simp at h))<;>(try exact cm))
   ·have bG:((k:Int)+1)=(k+1:Nat):=Ω
    rw[H.ssc,bG];refine H.doSwap a1 k (k+1) Ω Ω Ω ?_;simp;(with_reducible repeat' first|((first|apply bL|apply bN|apply bM)<;>intro h<;>try simp at h)|refine aj ?_|simp);refine bP.whl (k+1,hA lk k (k+1)) (by simp;omega) ⟨by simp[a1],by simp;omega,by simp;omega,.step cQ Ω Ω Ω Ω Ω Ω,fun t=>?_⟩ (H.weakC av (by simp[a1]) (by simp[aJ]));rw[Bh _ _ _ _ Ω Ω,cZ,cZ,cZ];have:ih a (a+1) (k+1+1) t=if t=k then ih a (a+1) (k+1) (k+1)else if t=k+1 then ih a (a+1) (k+1) k else ih a (a+1) (k+1) t:=by
     simp only[ih];repeat' split
     all_goals omega
    rw[this];split
    ·rfl
    ·split<;>rfl
   ·obtain rfl:i=k+1:=Ω
    refine H.ret av a1 (.inl rfl) ⟨rfl,lk,rfl,cQ,akE bz Ω bS Ω qh ba ea dj cZ⟩
 ·obtain rfl:b=m+1:=Ω
  have Mi:∀k,ih m m (m+1) k=k:=by
   intro k;simp only[ih];repeat' split
   all_goals omega
  obtain⟨z,ba⟩:∃z,l[m]? =some z:=⟨_,bY Ω⟩;refine pd (fun(x:Nat×Nat)=>⟨[(2,.int .i64 m),(4,.ptr (.loc 0) 0),(12,.int .i64 x.1),(13,.int .i64 x.2)],(.loc 0,[.func g lc,.func cf b9])::(S l).b,(S l).e,1,c3 (S l)⟩) (fun x=>x.2-x.1)
   (fun x=>a<=x.1/\x.1<=x.2/\x.2<=m/\(∀h y,a<=h->h<x.1->l[h]? =some y->lt z y=false)/\(∀h y,x.2<=h->h<m->l[h]? =some y->lt z y=true)) (a,m)
   (H.weak av av (by simp[aJ]) (by simp[cS,au]) aL aL) ⟨Ψ,by simp;omega,Ψ,fun h y J U=>by simp at U;omega,fun h y J U=>by simp at J;omega⟩ ?_
  rintro⟨i,j⟩ ⟨aP,bd,bS,ea,dj⟩ _;simp only at aP bd bS ea dj;have hw:=GU i j Ω;simp[Pv.look];(with_reducible repeat' first|((first|apply bL|apply bN|apply bM)<;>intro h<;>try simp at h)|refine aj ?_|simp[Pv.look])
  ·obtain⟨c,ar⟩:∃c,c=(i+j)/2:=⟨_,rfl⟩;rw[<-ar]at hw;obtain⟨y,aC⟩:∃y,l[c]? =some y:=⟨_,bY Ω⟩;simp only[hw,H.slc];refine H.doLess av m c ba aC ?_;simp;cases sQ:lt z y with
   |false=>simp;((with_reducible repeat' first|refine aj ?_|simp|((first|apply bL|apply bN|apply bM)<;>intro h<;>try simp at h))<;>(try exact cm));refine bP.whl (c+1,j) (by simp;omega) ⟨by simp;omega,by simp;omega,bS,fun h u J U hu=>?_,dj⟩ (H.weakC av av (by simp[aJ]));simp only at U;exact bz.ntr _ _ _ (fl.le bz kV J Ω Ω hu aC) sQ
   |true=>
    simp;((with_reducible repeat' first|refine aj ?_|simp|((first|apply bL|apply bN|apply bM)<;>intro h<;>try simp at h))<;>(try exact cm));refine bP.whl (i,c) (by simp;omega) ⟨aP,by simp;omega,by simp;omega,ea,fun h u J U hu=>?_⟩ (H.weakC av av (by simp[aJ]));cases e:lt z u with
    |true=>rfl
    |false=>have:=bz.ntr _ _ _ (fl.le bz kV Ω J U aC hu) e;rw[sQ]at this;cases this
  ·obtain rfl:i=j:=Ω
   refine pd (fun(x:Nat×List α)=>⟨[(4,.ptr (.loc 0) 0),(12,.int .i64 i),(15,.int .i64 x.1)],(.loc 0,[.func g lc,.func cf b9])::(S x.2).b,(S x.2).e,1,c3 (S l)⟩) (fun x=>x.1)
    (fun x=>x.2.length=n/\i<=x.1/\x.1<=m/\gH a (m+1) l x.2/\∀k,x.2[k]? =l[ih x.1 m (m+1) k]?) (m,l)
    (H.weakC av av (by simp[aJ])) ⟨av,by simp;omega,Ψ,.refl _,fun k=>by simp[Mi]⟩ ?_
   rintro⟨k,lk⟩ ⟨a1,bp,bV,cQ,cZ⟩ _;simp only at a1 bp bV cQ cZ;simp[Pv.look];((with_reducible repeat' first|refine aj ?_|simp[Pv.look]|((first|apply bL|apply bN|apply bM)<;>intro h<;>try simp at h))<;>(try exact cm))
   ·have bG:((k:Int)-1)=(k-1:Nat):=Ω
    rw[H.ssc,bG];refine H.doSwap a1 k (k-1) Ω Ω Ω ?_;simp;(with_reducible repeat' first|refine aj ?_|simp);refine bP.whl (k-1,hA lk k (k-1)) (by simp;omega) ⟨by simp[a1],by simp;omega,by simp;omega,.step cQ Ω Ω Ω Ω Ω Ω,fun t=>?_⟩ (H.weakC av (by simp[a1]) (by simp[aJ];omega));rw[Bh _ _ _ _ Ω Ω,cZ,cZ,cZ];have:ih (k-1) m (m+1) t=if t=k then ih k m (m+1) (k-1)else if t=k-1 then ih k m (m+1) k else ih k m (m+1) t:=by
     simp only[ih];repeat' split
     all_goals omega
    rw[this];split
    ·rfl
    ·split<;>rfl
   ·obtain rfl:i=k:=Ω
    refine H.ret av a1 (.inl rfl) ⟨rfl,lk,rfl,cQ,akF bz Ω bS Ω kV ba ea dj cZ⟩
 ·obtain⟨mid,L5⟩:∃mid,mid=(a+b)/2:=⟨_,rfl⟩;have hw:=GU a b Ω;rw[<-L5]at hw;simp only[hw];(with_reducible repeat' first|((first|apply bL|apply bN|apply bM)<;>intro h<;>try simp at h)|refine aj ?_|simp[hu,aw,cS,au])
  ·exact ZH (s0:=mid+m-b) (r0:=mid) H (by simp[cS,au]) aL bz bR (a:=a) (m:=m) (b:=b) (mid:=mid) Ψ Ψ Ψ Ψ Ψ Ψ (by simp;omega) Ψ av ⟨Dd,oG,L5⟩ Ω ab aF kV qh fun ho t o a1 bp=>H.ret av (by rw[a1.length];exact av) (.inr rfl) ⟨rfl,ho,rfl,a1,bp⟩
  ·exact ZH (s0:=a) (r0:=m) H (by simp[cS,au]) aL bz bR (a:=a) (m:=m) (b:=b) (mid:=mid) Ψ Ψ Ψ Ψ Ψ Ψ Ψ Ψ av ⟨Dd,oG,L5⟩ Ω ab aF kV qh fun ho t o a1 bp=>H.ret av (by rw[a1.length];exact av) (.inr rfl) ⟨rfl,ho,rfl,a1,bp⟩
end
section
open Go Go.Pv
variable {α:Type} {S:List α->cR} {n g cf:Nat} {lc b9:List ak} {lt:α->α->Bool}
def pW(lt:α->α->Bool)(z a b:Nat)(l:List α):Prop:= ∀i j x y,a<=i->i<j->j<b->i/z=j/z->l[i]? =some x->l[j]? =some y->lt y x=false
theorem pW.snoc{z q:Nat}(ba:0<z){l a8:List α}(h:pW lt z 0 (q*z) l){b:Nat}(ag:gH (q*z) b l a8)(U:fl lt (q*z) b a8):pW lt z 0 b a8:=by
 intro i j x y hi lp af aF ad aC;by_cases U6:j<q*z
 ·rw[ag.out _ (.inl Ω)]at ad;rw[ag.out _ (.inl U6)]at aC;exact h i j x y hi lp U6 aF ad aC
 ·have ao:q<=j/z:=(Nat.le_div_iff_mul_le ba).2 Ω;have a6:q*z<=i:=(Nat.le_div_iff_mul_le ba).1 Ω;exact U i j x y a6 lp af ad aC
theorem pW.srt{z q:Nat}(ba:0<z){l:List α}{a b:Nat}(h:pW lt z a b l){c:Nat}(asB:a<=q*z)(ar:c<=(q+1)*z)(asF:c<=b):fl lt (q*z) c l:=by intro i j x y hi lp af ad aC;have hV:i/z=q:=Nat.div_eq_of_lt_le hi Ω;have lq:j/z=q:=Nat.div_eq_of_lt_le Ω Ω;exact h i j x y Ω lp Ω Ω ad aC
theorem pW.after{z a b bn b1:Nat}{l a8:List α}(h:pW lt z a b l)(ag:gH a bn l a8)(bm:a<=bn)(ab:b1<=b):pW lt z bn b1 a8:=by intro i j x y hi lp af aF ad aC;rw[ag.out _ (.inr Ω)]at ad;rw[ag.out _ (.inr Ω)]at aC;exact h i j x y Ω lp Ω aF ad aC
theorem Lu(H:fb S n g cf lc b9 lt)(bz:q8 lt)(l:List α)(av:l.length=n):
  bI ax 248 [e3 g cf lc b9,.int .i64 n] (S l) fun r ah=>r= .tuple []/\∃a8,ah=S a8/\gH 0 n l a8/\fl lt 0 n a8:=by
 have ag:=H.ok l;have au:∀l m,Pv.look (.loc m) (S l).b=none:=fun l=>(H.ok l).obj.1;have hu:∀l m cs,cF (.loc m) cs (S l).b=(S l).b++[(.loc m,cs)]:=fun l m cs=>kr (au l m);have aw:∀m,aM.loc m∉c3 (S l):=kl ag.obj;have hle:=H.le;refine bI.mk mixed B7 afi amm Ψ ag.obj fun aR cI=>?_;unfold RZ;simp[e3,hu,aw,cS,au];refine pd (fun(x:Nat×List α)=>⟨[(1,.int .i64 n),(2,.ptr (.loc 0) 0),(4,.int .i64 20),(5,.int .i64 (x.1*20)),(6,.int .i64 (x.1*20+20))],(.loc 0,[.func g lc,.func cf b9])::(S x.2).b,(S x.2).e,1,c3 (S l)⟩) (fun x=>n+20-x.1*20)
  (fun x=>x.2.length=n/\x.1*20<=n/\gH 0 n l x.2/\pW lt 20 0 (x.1*20) x.2) (0,l)
  (H.weak av av (by simp[aJ]) (by simp[cS,au]) aL aL) ⟨av,Ψ,.refl _,fun i j x y J U ao=>by simp at ao⟩ ?_
 rintro⟨q,lk⟩ ⟨J,U,ao,a6⟩ _;simp only at J U ao a6;simp[Pv.look];((with_reducible repeat' first|refine aj ?_|simp[Pv.look]|((first|apply bL|apply bN|apply bM)<;>intro h<;>try simp at h))<;>(try exact cm))
 ·have aq:((q:Int)*20)=(q*20:Nat):=Ω
  have aG:((q:Int)*20+20)=(q*20+20:Nat):=Ω
  simp only[iK H,H.slc,H.ssc,iD,aG];simp only[aq];refine H.doFn J (Uf H bz lk J (q*20) (q*20+20) Ω Ω) (fun a8 h=>by rw[h.1.length];exact J) (by simp[aN,aJ,H.kdata J]) ?_;rintro a8 ⟨c1,dv⟩;have uc:a8.length=n:=by rw[c1.length];exact J
  simp;((with_reducible repeat' first|refine aj ?_|simp|((first|apply bL|apply bN|apply bM)<;>intro h<;>try simp at h))<;>(try exact cm));refine bP.whl (q+1,a8) (by simp;omega) ⟨uc,by simp;omega,ao.trans (c1.mono Ω Ω),?_⟩ (H.weakC av uc (by simp[aJ];omega));have:=a6.snoc Ω c1 dv;rwa[show q*20+20=(q+1)*20 by omega]at this
 ·have aq:((q:Int)*20)=(q*20:Nat):=Ω
  simp only[iK H,H.slc,H.ssc,iD,aq];refine H.doFn J (Uf H bz lk J (q*20) n Ω Ω) (fun a8 h=>by rw[h.1.length];exact J) (by simp[aN,aJ,H.kdata J]) ?_;rintro a8 ⟨c1,dv⟩;have uc:a8.length=n:=by rw[c1.length];exact J
  have fm:=a6.snoc Ω c1 dv;simp;refine pd (fun(x:Nat×List α)=>⟨[(1,.int .i64 n),(2,.ptr (.loc 0) 0),(4,.int .i64 x.1)],(.loc 0,[.func g lc,.func cf b9])::(S x.2).b,(S x.2).e,1,c3 (S l)⟩) (fun x=>1099511627776-x.1)
   (fun x=>x.2.length=n/\20<=x.1/\x.1<=2*n+20/\gH 0 n l x.2/\pW lt x.1 0 n x.2) (20,a8)
   (H.weakC av uc (by simp[aJ])) ⟨uc,Ψ,Ψ,ao.trans (c1.mono Ω Ω),fm⟩ ?_
  rintro⟨z,W0⟩ ⟨lD,z2,z3,z4,z5⟩ _;simp only at lD z2 z3 z4 z5;simp[Pv.look];((with_reducible repeat' first|refine aj ?_|simp[Pv.look]|((first|apply bL|apply bN|apply bM)<;>intro h<;>try simp at h))<;>(try exact cm))
  ·refine pd (fun(x:Nat×List α)=>⟨[(1,.int .i64 n),(2,.ptr (.loc 0) 0),(4,.int .i64 z),(5,.int .i64 (x.1*(2*z):Nat)),(6,.int .i64 (x.1*(2*z)+2*z:Nat))],(.loc 0,[.func g lc,.func cf b9])::(S x.2).b,(S x.2).e,1,c3 (S l)⟩) (fun x=>n+2*z-x.1*(2*z))
    (fun x=>x.2.length=n/\x.1*(2*z)<=n/\gH 0 n l x.2/\pW lt (2*z) 0 (x.1*(2*z)) x.2/\pW lt z (x.1*(2*z)) n x.2) (0,W0)
    (H.weakC av lD (by simp[aJ])) ⟨lD,Ψ,z4,fun i j x y J U ao=>by simp at ao,by simpa using z5⟩ ?_
   rintro⟨p,Ea⟩ ⟨fx,ee,Jz,xR,Fp⟩ _;simp only at fx ee Jz xR Fp;obtain⟨A,bg⟩:∃A,A=p*(2*z):=⟨_,rfl⟩;have GP:A=(2*p)*z:=by rw[bg,Nat.mul_comm 2 p,Nat.mul_assoc]
   have Ly:(2*p+1)*z=A+z:=by rw[o3,<-GP,Nat.one_mul]
   have ahn:(2*p+2)*z=A+2*z:=by rw[o3,<-GP]
   have Ax:(p+1)*(2*z)=A+2*z:=by rw[o3,<-bg,Nat.one_mul]
   have kV:∀c,c<=A+z->c<=n->fl lt A c Ea:=fun c ar AE=>by have:=pW.srt (q:=2*p) Ω Fp (c:=c) (by rw[<-GP,bg];omega) (by rw[Ly];exact ar) AE;rwa[<-GP]at this
   have qh:∀c,c<=A+2*z->c<=n->fl lt (A+z) c Ea:=fun c ar AE=>by have:=pW.srt (q:=2*p+1) Ω Fp (c:=c) (by rw[Ly,bg];omega) (by rw[ahn];exact ar) AE;rwa[Ly]at this
   rw[<-bg]at ee xR Fp;simp only[<-bg];simp[Pv.look];((with_reducible repeat' first|refine aj ?_|simp[Pv.look]|((first|apply bL|apply bN|apply bM)<;>intro h<;>try simp at h))<;>(try exact cm))
   ·have bG:((A:Int)+z)=(A+z:Nat):=Ω
    have di:((A:Int)+2*z)=(A+2*z:Nat):=Ω
    simp only[iK H,H.slc,H.ssc,iD,bG,di];refine H.doFn fx (Um H bz (A+2*z-A) Ea A (A+z) (A+2*z) fx Ω Ω Ω Ω (kV _ Ω Ω) (qh _ Ω Ω)) (fun a8 h=>by rw[h.1.length];exact fx) (by simp[aN,aJ,H.kdata fx]) ?_;rintro ho ⟨k5,pP⟩;have oE:ho.length=n:=by rw[k5.length];exact fx
    simp;(with_reducible repeat' first|refine aj ?_|simp);refine bP.whl (p+1,ho) (by simp only[Ax,<-bg];omega) ⟨oE,by simp only[Ax];omega,Jz.trans (k5.mono Ω Ω),?_,?_⟩ ?_
    ·simp only[Ax];rw[bg]at xR k5 pP;have:=xR.snoc Ω k5 pP;rwa[<-bg]at this
    ·simp only[Ax];exact Fp.after k5 Ω Ω
    ·simp only[Ax];have aho:((p:Int)+1)*(2*(z:Int))=(A:Int)+2*z:=by have h:=eP (Nat.cast:Nat->Int) Ax;push_cast at h;exact h
     exact H.weakC av oE (by simp[aJ,aho])
   ·have bG:((A:Int)+z)=(A+z:Nat):=Ω
    simp only[iK H,H.slc,H.ssc,iD,bG];refine H.doFn fx (Um H bz (n-A) Ea A (A+z) n fx Ω Ω Ω Ω (kV _ Ω Ω) (qh _ Ω Ω)) (fun a8 h=>by rw[h.1.length];exact fx) (by simp[aN,aJ,H.kdata fx]) ?_;rintro ho ⟨k5,pP⟩;have oE:ho.length=n:=by rw[k5.length];exact fx
    simp;((with_reducible repeat' first|refine aj ?_|simp|((first|apply bL|apply bN|apply bM)<;>intro h<;>try simp at h))<;>(try exact cm));refine bP.whl (2*z,ho) (by simp;omega) ⟨oE,by simp;omega,by simp;omega,Jz.trans (k5.mono Ω Ω),?_⟩ (H.weakC av oE (by simp[aJ];omega));rw[bg]at xR k5 pP;exact xR.snoc Ω k5 pP
   ·refine bP.whl (2*z,Ea) (by simp;omega) ⟨fx,by simp;omega,by simp;omega,Jz,?_⟩ (H.weakC av fx (by simp[aJ];omega));have b7:=kV n Ω Ω;rw[bg]at xR b7;exact xR.snoc Ω (.refl _) b7
  ·refine H.ret av lD (.inr rfl) ?_;refine⟨rfl,W0,rfl,z4,fun i j x y J U ao=>z5 i j x y J U ao ?_⟩;rw[Nat.div_eq_of_lt Ω,Nat.div_eq_of_lt Ω]
end
section
open Go Go.Pv Go.Sort Go.RowKit
theorem aiI{w:World}{base:Nat}{e:ha}{sz:Nat}{v:Value}{n:Nat}{us:List Value}(h:w.ownsRow base e sz v n us)(ay:v≠ .slice none 0 0):
  ∃g cap,v= .slice (some ⟨g,0,none⟩) n cap/\g<w.heap.size/\cap<=maxLen/\n<=cap/\us.length=n*sz/\Holds id w g 0 us.toArray:=by
 rcases h.2 with⟨pb,_⟩|⟨g,cap,cur,rfl,ab,aX,au,hm,ag,aH⟩
 ·exact absurd pb ay
 ·have bz:g<w.heap.size:=by
   rcases Nat.lt_or_ge g w.heap.size with cd|cd
   ·exact cd
   ·rw[Array.getElem?_eq_none cd]at aX;cases aX
  refine⟨g,cap,rfl,bz,hm,au,h.1,fun j af=>?_⟩;have jL:j<us.length:=by simpa using af
  have av:=h.1;refine⟨?_,by simp[World.frozen?,aX]⟩;have aq:(cur.toList.take (n*sz))[j]? =us[j]?:=by rw[aH]
  rw[List.getElem?_take,if_pos Ω,uO,bY jL]at aq;simp only[World.cell?,aX,Nat.zero_add];simp only[jG,gZ,if_false];rw[aq];simp[getElem!_pos,jL]
theorem anj{w:World}{base:Nat}{e:ha}{sz g n cap q:Nat}{us:List Value}{F:Array Value}(h:w.ownsRow base e sz (.slice (some ⟨g,0,none⟩) n cap) n us)(gB:F.size=n*sz):
  (putRow id (Sort.ahead w q) g 0 F).ownsRow base e sz (.slice (some ⟨g,0,none⟩) n cap) n F.toList:=by
 rcases h.2 with⟨pb,_⟩|⟨fc,CJ,cur,pb,ab,aX,au,hm,ag,aH⟩
 ·cases pb
 ·injection pb with aq _ bG;injection aq with aq;injection aq with aq;subst aq;subst bG;refine⟨by simpa using gB,.inr ⟨g,cap,putCells id 0 F cur,rfl,ab,?_,au,hm,by simpa[putCells]using ag,?_⟩⟩
  ·simp[putRow,mapBlock,Sort.ahead,Array.getElem?_modify,aX,onCells]
  ·have hle:n*sz<=cur.size:=by rw[ag];exact pV _ au
   apply List.ext_getElem?;intro j;rw[List.getElem?_take,uO,uO];by_cases af:j<n*sz
   ·have ah8:j<cur.size:=Ω
    simp only[if_pos af,putCells,Array.getElem?_mapIdx,Array.getElem?_eq_getElem ah8,oq];rw[if_pos Ω];simp[getElem!_pos,show j<F.size by omega]
   ·simp[af];omega
end
end Go.Proofs.YtohaalphocaebaaGreat
namespace Go.Pv
section
open Go Go.RowKit Go.Lib Go.Sort Go.Proofs.YtohaalphocaebaaGreat
theorem Wy{S:aM->Prop}:∀{l:List ak},aN S l↔∀x∈l,aJ S x
 |[]=>by simp[aN]
 |x::r=>by simp only[aN,Wy (l:=r),e7,forall_eq_or_imp]
theorem Ws{α:Type}{s:cR}{l:List (aM×α)}:kh s l↔∀k,(look k l).isSome->inObs s k:=by
 refine⟨fun h k ae=>A9 h k ae,fun h=>?_⟩;have:∀a8:List (aM×α),(∀x∈a8,inObs s x.1)->kh s a8:=by
  intro a8;induction a8 with
  |nil=>intro _;trivial
  |cons x r bR=>obtain⟨k,x⟩:=x;exact fun h=>⟨h (k,x) Ψ,bR fun y aC=>h y (by simp[aC])⟩
 exact this l fun x ad=>h x.1 (vI (x:=x.2) ad)
theorem OL{w:World}{ν:be}{sz:Nat}:∀{xs:List ak} {us:List Value} {i:Nat} {p:ak},dD w ν sz xs us->xs[i]? =some p->∃u,(us.drop (i*sz)).take sz=u.cells.toList/\bc w ν p u/\u.cells.size=sz/\∀c∈u.cells.toList,c.oneCell'=true
 |[],_,_,_,_,bD=>by simp at bD
 |x::xs,us,0,p,h,bD=>by simp only[dD]at h;obtain⟨u,ck,rfl,⟨J,U,ao⟩,_⟩:=h;simp at bD;subst bD;refine⟨u,?_,J,U,ao⟩;simp only[Nat.zero_mul,List.drop_zero];rw[List.take_append_of_le_length (by simp[U])];exact gw (by simp[U])
 |x::xs,us,i+1,p,h,bD=>by simp only[dD]at h;obtain⟨u,ck,rfl,⟨J,U,ao⟩,b7⟩:=h;obtain⟨v,aq,aG⟩:=OL (i:=i) b7 (by simpa using bD);refine⟨v,?_,aG⟩;rw[<-aq,Nat.succ_mul,Nat.add_comm,<-List.drop_drop];congr 2;rw[List.drop_append_of_le_length (by simp[U]),List.drop_of_length_le (by simp[U])];rfl
theorem O1:∀(a7:List Value) (s:Nat) (F:Array Value),s+a7.length<=F.size->(setMany F s a7).toList=F.toList.take s++a7++F.toList.drop (s+a7.length)
 |[],s,F,h=>by simp[setMany]
 |v::r,s,F,h=>by
  simp only[oj]at h;rw[setMany,O1 r (s+1) _ (by simp;omega)];have bz:s<F.toList.length:=by simp;omega
  have aq:(F.setIfInBounds s v).toList=F.toList.set s v:=by simp
  rw[aq];have aG:(F.toList.set s v).take (s+1)=F.toList.take s++[v]:=by rw[q6,List.getElem?_set_self bz,List.take_set_of_le (eu _)];simp
  have bG:(F.toList.set s v).drop (s+1+r.length)=F.toList.drop (s+(v::r).length):=by rw[List.drop_set_of_lt Ω];congr 1;simp;omega
  rw[aG,bG];simp
theorem abH(w:World):Sort.ahead w 0=w:=by simp[Sort.ahead]
theorem Ul{P:cJ}(yh:Bool)(cf:Nat)(ad:∀args W,(callFunc cf args).run P W=((Fw yh args).run P W).andThen fun v w'=>.ok (.value v) w')(e:ha)(ey:TypeInfo)(ub:P.info? e=some ey)(yk:(∀w,(Go.isAgg e).run P w= .ok true w)\/(ey.size=1/\∀w,(Go.isAgg e).run P w= .ok false w)){s:cR}(ag:dM s){K n el sz:Nat}(ep:ey.size=sz){xs:List ak}(ae:look (.obj K) s.e=some ⟨n,el,sz,some xs⟩)
  (i j:Nat) (hi:i<n) (af:j<n):bI P cf [.int .i64 i,.int .i64 j,.row sz (.obj K) n,.cst (typeHandle P e)] s fun r ah=>r= .tuple []/\ah=⟨s.b,cF (.obj K) ⟨n,el,sz,some (hA xs i j)⟩ s.e⟩:=by
 subst ep;refine bI.sem ag.obj fun w ν a7 kW aK=>?_;right;have s0:=aK.slot 0;have s1:=aK.slot 1;have s2:=aK.slot 2;have s3:=aK.slot 3;simp[j8,get,bc]at s0 s1 s2 s3;obtain⟨v,us,a1,bp,bV,cQ⟩:=aK.good.own (.obj K) _ ae;obtain⟨cZ,oO,vR⟩:=cQ _ rfl;simp only at cZ oO a1 bp;obtain⟨⟨g0,ace,sA⟩,_,n',fi,aq,aG,bG⟩:=s2;rw[a1]at aq;simp only[dE,jU]at aq;obtain⟨rfl,rfl⟩:=aq;have ay:=bG rfl;have cK:v≠ .slice none 0 0:=by rw[<-ay,sA];simp
 obtain⟨g,cap,rfl,rC,pq,ahZ,Dm,C8⟩:=aiI bp cK;have ajb:a7= #[.int .i64 i,.int .i64 j,.slice (some ⟨g,0,none⟩) n cap,typeHandle P e]:=by
  have J:a7.size=4:=by simpa using kW
  apply Array.ext (by simpa using J);intro t U ao;simp at ao;rcases(by omega:t=0\/t=1\/t=2\/t=3)with rfl|rfl|rfl|rfl
  ·simpa[Array.getD,J]using s0
  ·simpa[Array.getD,J]using s1
  ·simpa[Array.getD,J]using ay
  ·simpa[Array.getD,J]using s3
 subst ajb;obtain⟨p,bD⟩:∃p,xs[i]? =some p:=⟨_,bY Ω⟩;obtain⟨q,bt⟩:∃q,xs[j]? =some q:=⟨_,bY Ω⟩;obtain⟨u,jm,jS,q1,zA⟩:=OL oO bD;obtain⟨x,tv,zF,tw,JA⟩:=OL oO bt;have L4:i*ey.size+ey.size<=n*ey.size:=by have:=pV ey.size (show i+1<=n from hi);rwa[o3,Nat.one_mul]at this
 have Vi:j*ey.size+ey.size<=n*ey.size:=by have:=pV ey.size (show j+1<=n from af);rwa[o3,Nat.one_mul]at this
 have cell:∀t v,us[t]? =some v->w.cell? ⟨g,t,none⟩=some v:=fun t v aH=>by obtain⟨J,U⟩:=eS.1 aH;have:=(C8 t (by simpa using J)).1;simp at this;rw[this];simp[getElem!_pos,J,U]
 have GD:∀t,t<n*ey.size->w.frozen? ⟨g,t,none⟩=false:=fun t aH=>by have:=(C8 t (by simpa[Dm]using aH)).2;simpa using this
 have run:(Fw yh #[.int .i64 i,.int .i64 j,.slice (some ⟨g,0,none⟩) n cap,typeHandle P e]).run P w= .ok (.tuple #[]) ((w.setCells g (0+i*ey.size) x.cells.toList).setCells g (0+j*ey.size) u.cells.toList):=by
  rcases yk with yk|⟨GN,yk⟩
  ·exact run_swap_cells (P:=P) yh e ey ub yk g 0 n cap i j hi af u.cells.toList x.cells.toList (by simp[q1]) (by simp[tw]) zA JA w
     (fun k v ay=>by
      rw[<-jm,List.getElem?_take]at ay;split at ay
      ·rw[List.getElem?_drop]at ay;simpa using cell _ _ ay
      ·cases ay)
     (fun k v ay=>by
      rw[<-tv,List.getElem?_take]at ay;split at ay
      ·rw[List.getElem?_drop]at ay;simpa using cell _ _ ay
      ·cases ay)
     (fun k ae=>by simpa using GD (i*ey.size+k) Ω) (fun k ae=>by simpa using GD (j*ey.size+k) Ω)
  ·rw[GN]at jm q1 tv tw⊢;obtain⟨Gn,LJ⟩:∃c,u.cells.toList=[c]:=List.length_eq_one_iff.1 (by simpa using q1);obtain⟨p5,kR⟩:∃c,x.cells.toList=[c]:=List.length_eq_one_iff.1 (by simpa using tw);rw[LJ]at jm zA⊢;rw[kR]at tv JA⊢;simp only[World.setCells,Nat.mul_one]at jm tv⊢;have Uo:us[i]? =some Gn:=by have:=eP (·[0]?) jm;simpa using this
   have Uq:us[j]? =some p5:=by have:=eP (·[0]?) tv;simpa using this
   have:=run_swap_one (P:=P) yh e ey ub GN yk g 0 n cap i j hi af Gn p5 (zA Gn Ψ) (JA p5 Ψ) w (by simpa using cell i Gn Uo) (by simpa using cell j p5 Uq) (by simpa using GD i (by rw[GN];omega)) (by simpa using GD j (by rw[GN];omega));simpa using this
 have ajd:putRow id w g 0 us.toArray=w:=putRow_self id w g 0 _ C8;have ai3:us.toArray.size=n*ey.size:=by simpa using Dm
 have Ht:w.setCells g (0+i*ey.size) x.cells.toList=putRow id w g 0 (setMany us.toArray (i*ey.size) x.cells.toList):=by have J:=setCells_putRow w g 0 x.cells.toList (i*ey.size) us.toArray (by simp[tw,Dm];exact L4);rw[ajd]at J;exact J
 obtain⟨iA,nN⟩:∃iA,iA=setMany us.toArray (i*ey.size) x.cells.toList:=⟨_,rfl⟩;have aht:iA.toList=us.take (i*ey.size)++x.cells.toList++us.drop (i*ey.size+ey.size):=by rw[nN,O1 _ _ _ (by simp[tw,Dm];exact L4)];simp[tw]
 have LC:iA.size=n*ey.size:=by rw[nN,size_setMany];exact ai3
 have pD:(w.setCells g (0+i*ey.size) x.cells.toList).setCells g (0+j*ey.size) u.cells.toList=putRow id w g 0 (setMany iA (j*ey.size) u.cells.toList):=by rw[Ht,<-nN,setCells_putRow w g 0 u.cells.toList (j*ey.size) iA (by simp[q1,LC];exact Vi)]
 obtain⟨iM,C7⟩:∃iM,iM=setMany iA (j*ey.size) u.cells.toList:=⟨_,rfl⟩;have ahu:iM.toList=iA.toList.take (j*ey.size)++u.cells.toList++iA.toList.drop (j*ey.size+ey.size):=by rw[C7,O1 _ _ _ (by simp[q1,LC];exact Vi)];simp[q1]
 have ahv:iM.size=n*ey.size:=by rw[C7,size_setMany];exact LC
 have e1:=IX oO bD zF tw JA;rw[<-aht]at e1;have fY:=IX (i:=j) (q:=q) e1 (by rw[List.getElem?_set];split;(rename_i e;subst e;rw[if_pos Ω]);exact bt) jS q1 zA;rw[<-ahu]at fY;have ai2:(xs.set i q).set j p=hA xs i j:=by simp[hA,bD,bt]
 rw[ai2]at fY;have hlen:(hA xs i j).length=n:=by simpa using cZ
 have l8:=anj (q:=0) (F:=iM) bp ahv;rw[abH]at l8;obtain⟨k5,pP,_⟩:=aK.setRowM (w':=putRow id w g 0 iM) ae rfl a1 (bl:=g) rfl (v':= .slice (some ⟨g,0,none⟩) n cap) rfl (xs':=hA xs i j) (us:=iM.toList) (.inl ⟨hlen,rfl⟩) rfl rfl rfl
  (fun t aH=>by simp[putRow,mapBlock,Array.getElem?_modify,lF aH]) (by simp[putRow,mapBlock]) (by rw[hlen];exact l8) fY
 refine⟨.tuple #[],putRow id w g 0 iM,?_,?_⟩
 ·rw[ad,run,pD,<-C7];rfl
 ·have jw:∀k,inObs ⟨s.b,cF (.obj K) ⟨n,el,ey.size,some (hA xs i j)⟩ s.e⟩ k↔inObs s k:=fun k=>by
   unfold inObs;simp only[jh];by_cases c4:aM.obj K=k
   ·subst c4;simp[ae]
   ·simp[c4]
  refine⟨_,_,_,_,.tuple [],⟨s.b,cF (.obj K) ⟨n,el,ey.size,some (hA xs i j)⟩ s.e⟩,rfl,k5,by simp[bc,cT],Ws.2 fun k oD=>(jw k).2 (.inl oD),Ws.2 fun k oD=>(jw k).2 (.inr oD),fun k cs ar=>⟨ar,(jw k).2 (.inl (by simp at ar;simp[ar])),ki (fun k h=>(jw k).2 h) _ (ag.kb k cs ar)⟩,fun k o aw=>⟨by simpa[hlen]using aw,?_,fun ys aC=>?_⟩,⟨ag.obj.1,fun m=>?_⟩,by simp[aJ,aN],rfl,rfl⟩
  ·exact(.inr (by simp at aw;simp[aw]))
  ·simp only[jh]at aw;split at aw
   ·cases aw;simp only[dE]at aC;subst aC;have Vb:=ag.ke _ _ ae xs rfl;refine ki (fun k h=>(jw k).2 h) _ ?_;rw[Wy]at Vb⊢;exact fun z ba=>Vb z ((WY xs i j).mem_iff.1 ba)
   ·exact ki (fun k h=>(jw k).2 h) _ (ag.ke k o aw ys aC)
  ·simp only[jh];simp[ag.obj.2 m]
theorem Uk{P:cJ}(yh:Bool)(cf:Nat)(ad:∀args W,(callFunc cf args).run P W=((Fw yh args).run P W).andThen fun v w'=>.ok (.value v) w')(e:ha)(ey:TypeInfo)(ub:P.info? e=some ey)(yk:∀w,(Go.isAgg e).run P w= .ok true w){s:cR}(ag:dM s){K n el sz:Nat}(ep:ey.size=sz){xs:List ak}(ae:look (.obj K) s.e=some ⟨n,el,sz,some xs⟩)
  (i j:Nat) (hi:i<n) (af:j<n):bI P cf [.int .i64 i,.int .i64 j,.row sz (.obj K) n,.cst (typeHandle P e)] s fun r ah=>r= .tuple []/\ah=⟨s.b,cF (.obj K) ⟨n,el,sz,some (hA xs i j)⟩ s.e⟩:=Ul yh cf ad e ey ub (.inl yk) ag ep ae i j hi af
end
end Go.Pv
namespace Go.Proofs.YtohaalphocaebaaGreat
section
open Go Go.RowKit Go.Lib Go.Sort Go.Pv
set_option maxRecDepth 100000 in
theorem aoX(t e:ha)(i ey:TypeInfo)(hi:ax.info? t=some i)(aF:i.desc= .slice e)(DA:ax.packed t=false)(ub:ax.info? e=some ey)(ke:Nat)(vr:∀w,(aa9 e).run ax w= .ok ke w)
  (p:Option Addr) (n c:Nat) (au:n<4611686018427387904) (f:Nat) (aQ:ax.funcs.findIdx? (·.name== "internal/reflectlite" ++ ".Swapper$" ++toString (swapperK n ey ke))=some f) (WU:Fn) (MZ rL:Array Value) (w:World) (R:World->Prop)
  (bD:Calls ax 248 #[.agg #[.func WU MZ rL,.func (.func f) #[] (sliceBound ax e ey ke p n c)],.int .i64 n] ((w.alloc (.cells #[.slice p n c] t)).alloc (.cells #[typeHandle ax t,.pointer (some ⟨w.heap.size,0,none⟩),.int .u64 151] 214)) fun e w'=>e= .returned (.tuple #[])/\R w'):
  Calls ax 202 #[.iface t (.slice p n c),.func WU MZ rL] w fun e w'=>e= .returned (.tuple #[])/\R w':=by
 have ay:=run_valueOf_slice (P:=ax) t e i hi aF p n c w;have ag:=fun w=>run_swapper_slice (P:=ax) t e i ey hi aF ub ke vr p n c f aQ w;have av:=fun a w bm=>run_valueLen_slice (P:=ax) t e i hi aF DA a p n c w bm;unfold sliceBound at bD;generalize (if swapperK n ey ke<=2 then(#[]:Array Value)else #[.slice p n c,typeHandle ax e])=B at ag bD;have ah3:ax.globals.size=0:=by kernel_rfl
 simp only[typeHandle,ah3]at ay av bD;have Gs:∀args w,(callFunc 248 args).run ax w= .ok (.enter 248 args) w:=enters_of Tryz.func248 (by kernel_rfl) rfl;go_enter Tryz.func202,Tryz.ntmps202;go_wp2;rw[run_callFunc_extern Tryz.func206 (by kernel_rfl) (by kernel_rfl) (by kernel_rfl) (e:=fun args=>aqY (args.getD 0 (.tuple #[]))) (by kernel_rfl),
  show Sem.run ax ((fun args:Array Value=>aqY (args.getD 0 (.tuple #[]))) #[.iface t (.slice p n c)]) w=_ from ay]
 simp only[Result.andThen];rw[Oper.upon_value];go_wp2;rw[run_callFunc_extern Tryz.func207 (by kernel_rfl) (by kernel_rfl) (by kernel_rfl) (e:=avg "internal/reflectlite" (aqZ "Swapper")) (by kernel_rfl),ag];simp only[Result.andThen];rw[Oper.upon_value];go_wp2;rw[run_callFunc_extern Tryz.func208 (by kernel_rfl) (by kernel_rfl) (by kernel_rfl) (e:=avi (aqZ "reflectlite.Value.Len" 0) avh) (by kernel_rfl),
  av _ _ Ψ]
 simp only[Result.andThen];rw[Oper.upon_value];go_wp2_with (go_at_fn 248;refine bD.mono ?_;rintro e w' ⟨rfl,bA⟩);go_end0;exact⟨rfl,bA⟩
theorem _root_.Go.Pv.Good.prMono{pr EC:Nat->Prop}{w:World}{ν:be}{b:List (aM×List ak)}{e:List (aM×fQ)}(h:Pv.Good pr w ν b e)(bD:∀bl,pr bl->fq ν ⟨b,e⟩ bl->EC bl):Pv.Good EC w ν b e:=by
 refine⟨h.alt,fun k cs ae=>?_,h.inj,fun g o aX=>?_,h.oinj,h.obx,h.one,h.otr⟩
 ·obtain⟨bl,us,el,f1,f2,f3⟩:=h.box k cs ae;exact⟨bl,us,el,f1,bD bl f2 (.inl ⟨k,by simp[ae],f1⟩),f3⟩
 ·obtain⟨v,us,f1,f2,f3,f4⟩:=h.own g o aX;exact⟨v,us,f1,f2,fun bl ab=>⟨bD bl (f3 bl ab).1 (.inr ⟨g,o.n,v,by simp[aX],f1,ab⟩),(f3 bl ab).2⟩,f4⟩
theorem Ur(w:World)(gW gR:Obj):w.grownBy ((w.alloc gW).alloc gR) none:=by
 have J:w.heap.size<=(w.alloc gW).heap.size:=by simp
 have U:(w.alloc gW).heap.size<=((w.alloc gW).alloc gR).heap.size:=by simp
 exact⟨rfl,rfl,rfl,gS J U,fun k ae _=>(Below.heap_alloc _ gR k (Nat.lt_of_lt_of_le ae J)).trans (Below.heap_alloc w gW k ae)⟩
def dW{α:Type}(e:α->ak)(K B el sz:Nat)(l:List α):cR:=⟨[(.obj B,[.row sz (.obj K) l.length])],[(.obj K,⟨l.length,el,sz,some (l.map e)⟩)]⟩
section
variable {α:Type} {e:α->ak} (he:∀S x,aJ S (e x)) {K B el sz:Nat}
include he
theorem aj7(S:aM->Prop)(l:List α):aN S (l.map e):=by
 induction l with
 |nil=>simp[aN]
 |cons x r bR=>simp only[ht,aN];exact⟨he S x,bR⟩
theorem xZ(l:List α):dM (dW e K B el sz l):=by unfold dW;refine dM.of ⟨by intro m;simp[Pv.look],by intro m;simp[Pv.look]⟩ (by simp[aN,aJ,inObs,Pv.look]) ?_;intro x ad xs hc;simp at ad;subst ad;simp at hc;subst hc;exact aj7 he _ l
omit he in
theorem x0(l a8:List α):Same (dW e K B el sz l) (dW e K B el sz a8):=by
 refine⟨fun k=>?_,fun k=>?_⟩
 ·simp only[dW,Pv.look];split<;>rfl
 ·simp only[dW,Pv.look];split<;>rfl
theorem agz(t:ha)(i ey:TypeInfo)(hi:ax.info? t=some i)(aF:i.desc= .slice el)(DA:ax.packed t=false)(ub:ax.info? el=some ey)(ke:Nat)(vr:∀w,(aa9 el).run ax w= .ok ke w)(tT:∀n,2<=n->swapperK n ey ke=9)
  (g:Nat) (lt:α->α->Bool) (bz:q8 lt) (l:List α) (av:l.length<=68719476736)
  (yz:∀a8:List α,a8.length=l.length->∀(i j:Nat) x y,a8[i]? =some x->a8[j]? =some y->bI ax g [.int .i64 i,.int .i64 j,.ptr (.obj B) 0] (dW e K B el sz a8) fun r ah=>r= .bool (lt x y)/\ah=dW e K B el sz a8)
  (AY:∀a8:List α,a8.length=l.length->∀i j:Nat,i<l.length->j<l.length->bI ax 257 [.int .i64 i,.int .i64 j,.row sz (.obj K) l.length,.cst (typeHandle ax el)] (dW e K B el sz a8) fun r ah=>r= .tuple []/\ah=dW e K B el sz (hA a8 i j)):
  bI ax 202 [.iface t (.row sz (.obj K) l.length),.func g [.ptr (.obj B) 0]] (dW e K B el sz l) fun r ah=>r= .tuple []/\∃a8,ah=dW e K B el sz a8/\a8.Perm l/\a8.Pairwise fun x y=>lt y x=false:=by
 have Di:ax.funcs.findIdx? (·.name== "internal/reflectlite" ++ ".Swapper$" ++toString 1)=some 249:=by kernel_rfl
 have vm:ax.funcs.findIdx? (·.name== "internal/reflectlite" ++ ".Swapper$" ++toString 2)=some 250:=by kernel_rfl
 have LO:ax.funcs.findIdx? (·.name== "internal/reflectlite" ++ ".Swapper$" ++toString 9)=some 257:=by kernel_rfl
 have Mn:∃f b9,ax.funcs.findIdx? (·.name== "internal/reflectlite" ++ ".Swapper$" ++toString (swapperK l.length ey ke))=some f/\(b9=(if swapperK l.length ey ke<=2 then []else [ak.row sz (.obj K) l.length,.cst (typeHandle ax el)]))/\
   bI ax 248 [e3 g f [.ptr (.obj B) 0] b9,.int .i64 l.length] (dW e K B el sz l) fun r ah=>r= .tuple []/\∃a8,ah=dW e K B el sz a8/\gH 0 l.length l a8/\fl lt 0 l.length a8:=by
  have eh:=fun a8=>xZ (K:=K) (B:=B) (el:=el) (sz:=sz) he a8;rcases(by omega:l.length=0\/l.length=1\/2<=l.length)with bE|J|U
  ·refine⟨249,[],by rw[bE];exact Di,by rw[bE];rfl,Lu (lt:=lt) ⟨eh,fun kj ho _ _=>x0 kj ho,fun a8 _=>by simp[aN,aJ,inObs,dW,Pv.look],fun a8 _=>by simp[aN],by simp[eb,c7],rfl,av,fun a8 h=>yz a8 h,fun a8 _ U i j hi=>Ω⟩ bz l rfl⟩
  ·refine⟨250,[],by rw[J];exact vm,by rw[J];rfl,Lu (lt:=lt) ⟨eh,fun kj ho _ _=>x0 kj ho,fun a8 _=>by simp[aN,aJ,inObs,dW,Pv.look],fun a8 _=>by simp[aN],by simp[eb,c7],rfl,av,fun a8 h=>yz a8 h,fun a8 _ U i j hi af=>Ω⟩ bz l rfl⟩
  ·refine⟨257,_,by rw[tT _ U];exact LO,rfl,?_⟩;rw[tT _ U];simp only[show¬((9:Nat)<=2)from by decide,if_false];exact Lu (lt:=lt) ⟨eh,fun kj ho _ _=>x0 kj ho,fun a8 _=>by simp[aN,aJ,inObs,dW,Pv.look],fun a8 _=>by simp[aN,aJ,inObs,dW,Pv.look],by simp[eb,c7],by simp[eb,c7],av,fun a8 h=>yz a8 h,fun a8 h _ i j hi af=>AY a8 h i j hi af⟩ bz l rfl
 obtain⟨f,b9,aQ,Mj,dh⟩:=Mn;intro w ν a7 aX ad aK;have pw:=cY.start (xZ he l).obj aX ad aK;have Mf:=aK;simp only[cT,bc]at aK;obtain⟨v0,vs1,hv0,⟨u,rfl,⟨b,cap,rfl⟩,h1,n',fi,aq,aG,bG⟩,v1,vs2,hv1,⟨rL,rfl,rF⟩,rfl⟩:=aK;have kW:a7= #[.iface t (.slice (some ⟨b,0,none⟩) l.length cap),.func (.func g) #[] rL]:=by apply Array.ext';rw[hv0,hv1]
 subst kW;have rB:∃fn,ax.funcs[(202:Nat)]? =some fn/\fn.body.isSome=true/\(fn.name== "runtime.NumGoroutine")=false:=⟨_,Tryz.func202,by kernel_rfl,by kernel_rfl⟩;refine .inl ⟨rB,?_⟩;obtain⟨ee,pD⟩:∃ee,ee=(w.alloc (.cells #[.slice (some ⟨b,0,none⟩) l.length cap] t)).alloc (.cells #[typeHandle ax t,.pointer (some ⟨w.heap.size,0,none⟩),.int .u64 151] 214):=⟨_,rfl⟩;have kf:w.grownBy ee none:=by rw[pD];exact Ur _ _ _
 have Mh:=pw.grown kf;have ls:lZ w ν ee ν:=⟨fun b o bg=>⟨bg,Gj kf (aX.alt b o bg)⟩,fun _ _ _ h=>h,fun _ n u _ h=>⟨n,u,h,.inl ⟨rfl,rfl⟩⟩,fun b o bg=>xz (kf.block b (aX.alt b o bg) Ψ),fun _ _ _ _ h=>h⟩;have pq:Pv.Good (fq ν (dW e K B el sz l)) ee ν (dW e K B el sz l).b (dW e K B el sz l).e:=Mh.good.prMono fun bl _ h=>h;have lM:=I1 ls Mf;simp only[cT]at lM;obtain⟨a0,abU,tU,DC,bC,abV,lL,aiS,rfl⟩:=lM;simp at tU;obtain⟨rfl,rfl⟩:=tU;simp at lL;subst lL;have DE:bc ee ν (.row sz (.obj K) l.length) (.slice (some ⟨b,0,none⟩) l.length cap):=by simp only[bc]at DC;obtain⟨u,hu,h⟩:=DC;simp at hu;obtain⟨_,rfl⟩:=hu;simp only[bc];exact h
 have lN:cT ee ν b9 (sliceBound ax el ey ke (some ⟨b,0,none⟩) l.length cap).toList:=by
  unfold sliceBound;rw[Mj];split
  ·simp[cT]
  ·simp only[cT];exact⟨_,_,rfl,DE,_,_,rfl,by simp[bc],rfl⟩
 have vj:cT ee ν [e3 g f [.ptr (.obj B) 0] b9,.int .i64 l.length] (#[.agg #[.func (.func g) #[] rL,.func (.func f) #[] (sliceBound ax el ey ke (some ⟨b,0,none⟩) l.length cap)],.int .i64 l.length]:Array Value).toList:=by simp only[cT,e3];refine⟨_,_,rfl,?_,_,_,rfl,by simp[bc],rfl⟩;simp only[bc,dr];exact⟨_,rfl,_,_,rfl,⟨⟨rL,rfl,I1 ls rF⟩,rfl⟩,_,_,rfl,⟨⟨_,rfl,lN⟩,rfl⟩,rfl⟩
 have LL:=dh ee ν _ pq ad vj;have Gs:∀args w,(callFunc 248 args).run ax w= .ok (.enter 248 args) w:=enters_of Tryz.func248 (by kernel_rfl) rfl;rcases LL with⟨_,ar⟩|⟨v,w',ar,_⟩
 ·have L3:=aoX t el i ey hi aF DA ub ke vr (some ⟨b,0,none⟩) l.length cap Ω f aQ (.func g) #[] rL w
   (fun w'=> ∃ah bo,(∃a8,ah=dW e K B el sz a8/\gH 0 l.length l a8/\fl lt 0 l.length a8)/\Pv.Good (fun bl=>fq ν (dW e K B el sz l) bl\/ee.heap.size<=bl) w' bo ah.b ah.e/\pe bo ah/\iV ah/\qB ⟨ee,ν,fq ν (dW e K B el sz l),0,c3 (dW e K B el sz l)⟩ w' bo) (by
    rw[<-pD];refine ar.mono ?_;rintro e w' ⟨v,r,ah,bo,rfl,⟨rfl,bt⟩,wU,a6,b7,dd,ed⟩;simp only[bc,cT]at wU;obtain⟨us,rfl,rH⟩:=wU;have:us= #[]:=by apply Array.ext';simpa using rH
    subst this;exact⟨rfl,ah,bo,bt,a6,b7,dd,ed⟩)
  refine L3.mono ?_;rintro e w' ⟨rfl,ah,bo,⟨a8,rfl,Hn,AX⟩,a6,b7,dd,ed⟩;refine⟨.tuple #[],.tuple [],_,bo,rfl,⟨rfl,a8,rfl,Hn.perm,?_⟩,by simp[bc,cT],a6.prMono fun bl h _=>?_,b7,dd,⟨ed.os.trans kf.os,ed.tape.trans kf.tape,ed.output.trans kf.output,gS kf.size ed.size,fun k ae hm=>?_,fun b o bg=>?_,fun b o bg=>?_,ed.obj,ed.obn,ed.row,ed.obr,ed.trd,fun k j b ab=>⟨(ed.trb k j b ab).1.imp id (fun h=>gS kf.size h),(ed.trb k j b ab).2⟩,ed.trn,fun b o bg=>(ed.sh b o bg).trans (ls.sh b o bg)⟩⟩
  ·have yA:=Hn.length;rw[<-yA]at AX;exact AX.pairwise
  ·rcases h with h|h
   ·exact .inl h
   ·exact .inr (gS kf.size h)
  ·rw[ed.block k (Nat.lt_of_lt_of_le ae kf.size) hm];exact kf.block k ae Ψ
  ·obtain⟨aP,bd⟩:=ed.keep b o bg;exact⟨aP,bd.trans (ls.A b o bg).2⟩
  ·rcases ed.fresh b o bg with h|h|h
   ·exact .inl h
   ·exact .inr (.inl h)
   ·exact .inr (.inr (gS kf.size h))
 ·rw[Gs]at ar;cases ar
end
end
section
open Go Go.Pv
def RH:C:=(aa [cU 2 0,cU 3 1,bh 4 false] (.seq (aa [aI 7 0 1 2,az 8 1 7,aI 9 0 1 3,az 10 1 9,bq 11 .neq 8 10,I 12 11,al 12 false (aI 13 1 1 2),al 12 false (az 14 1 13),al 12 false (aI 15 1 1 3),al 12 false (az 16 1 15),al 12 false (bq 17 .neq 14 16),cV 18 12 17,I 19 18,al 19 false (aI 20 2 1 2),al 19 false (az 21 1 20),al 19 false (aI 22 2 1 3),al 19 false (az 23 1 22),al 19 false (bq 24 .neq 21 23),cV 25 19 24,I 26 25,al 26 false (aI 27 3 1 2),al 26 false (az 28 1 27),al 26 false (ct 29 28),al 26 false (aI 30 3 1 3),al 26 false (az 31 1 30),al 26 false (ct 32 31),al 26 false (bq 33 .neq 29 32),cV 34 26 33] (aZ 34 (aa [bh 4 false] .ret) .skip)) (.seq (aa [aI 35 3 1 2,az 36 1 35,ct 37 36,b6 38 0] (eZ 39 38 37 (.seq (.block 1 (aa [I 40 38,cw 41 4 36 38,aV 42 4 41,cL 6 da,I 5 40,bu 4 6 42] (.seq (.drawn true 52 [aV 43 4 6,aI 44 3 1 3,az 45 1 44,I 46 5,cw 47 4 45 46,aV 48 4 47,b5 49 28 43 48,cx 50 49]) (aZ 50 (aa [bh 4 false] .ret) .skip)))) (.region [aS 51 .add 38 1,I 38 51])))) (aa [bh 4 true] .ret))))
@[simp] def EH:List bW:=[.tmp 4]
def Z1:List (Nat×dB):=[
 (3,⟨1,8,.int .i64,.int .i64 0⟩),
 (4,⟨1,1,.bool,.bool false⟩),
 (9,⟨1,16,.str,.str []⟩),
 (22,⟨1,24,.slice 5,.slice 1 .nil []⟩),
 (23,⟨1,24,.slice 61,.slice 5 .nil []⟩),
 (24,⟨1,24,.slice 23,.slice 1 .nil []⟩),
 (25,⟨1,24,.slice 104,.slice 2 .nil []⟩),
 (26,⟨1,24,.slice 106,.slice 2 .nil []⟩),
 (28,⟨5,104,.struct [(0,3),(1,23),(2,24),(3,25),(4,26)],.agg [.int .i64 0,.slice 5 .nil [],.slice 1 .nil [],.slice 2 .nil [],.slice 2 .nil []]⟩),
 (30,⟨1,24,.slice 32,.slice 4 .nil []⟩),
 (32,⟨4,56,.struct [(0,3),(1,3),(2,9),(3,30)],.agg [.int .i64 0,.int .i64 0,.str [],.slice 4 .nil []]⟩),
 (61,⟨5,64,.struct [(0,3),(1,32)],.agg [.int .i64 0,.int .i64 0,.int .i64 0,.str [],.slice 4 .nil []]⟩),
 (104,⟨2,16,.struct [(0,3),(1,3)],.agg [.int .i64 0,.int .i64 0]⟩),
 (106,⟨2,24,.struct [(0,3),(1,9)],.agg [.int .i64 0,.str []]⟩)]
theorem apy:fM ax Z1=true:=by kernel_rfl
theorem al3:b3 Z1 RH EH 2 Tryz.f28=true:=by kernel_rfl
theorem ae0:ax.funcs[(28:Nat)]? =some Tryz.f28:=Tryz.func28
def Km:C:=(aa [bh 2 false] (.seq (aa [I 21 0,ct 22 21,aS 23 .gtr 22 1048576] (aZ 23 (aa [bh 2 true] .ret) .skip)) (aa [I 24 0,c2 25 10 [.t 24,(dS 0),(dS 3)],cL 3 fW,bu 5 3 25] (aa [I 26 0,c2 27 26 [.t 26,(dS 60),(dS 3)],I 4 27] (aa [I 28 0,c2 29 11 [.t 28,(dS 80),(dS 3),(dS 3)],cL 5 da,bu 4 5 29] (aa [I 30 0,c2 31 11 [.t 30,(dS 100),(dS 4),(dS 3)],cL 6 da,bu 4 6 31] (aa [I 32 0,c2 33 15 [.t 32,(dS 120)],aS 34 .rem 33 4,I 7 34] (aa [cL 8 fW] (aa [bh 9 false] (.seq (aa [I 35 7] (.block 0 (aa [aS 37 .eql 35 0,I 36 37] (aZ 36 (.region [aV 39 5 3,aV 40 4 5,aV 41 4 6,c2 42 12 [.t 39,.t 40,.t 41],I 38 42,cj 43 0 38,cj 44 1 38,bu 5 8 43,I 9 44]) (aa [aS 46 .eql 35 1,I 45 46] (aZ 45 (.region [aV 48 5 3,aV 49 4 5,aV 50 4 6,c2 51 13 [.t 48,.t 49,.t 50],I 47 51,cj 52 0 47,cj 53 1 47,bu 5 8 52,I 9 53]) (aa [aS 55 .eql 35 2,I 54 55] (aZ 54 (.region [aV 57 5 3,aV 58 4 5,c2 59 14 [.t 57,.t 58,(dS 3)],I 56 59,cj 60 0 56,cj 61 1 56,bu 5 8 60,I 9 61]) (aa [aS 63 .eql 35 3,I 62 63] (aZ 62 (.region [aV 65 5 3,aV 66 4 6,⟨none,.call (some 67) (.c (.func 16 [])) [.t 65,.t 66,(.c (.str [98]))]⟩,I 64 67,cj 68 0 64,cj 69 1 64,bu 5 8 68,I 9 69]) .skip)))))))))) (aa [b6 10 0] (.seq (aa [I 70 4,ct 71 70,b6 72 0] (.block 1 (.loop (aa [bq 73 .lss 72 71] (.seq (aZ 73 .skip (.exit 1)) (.seq (.block 2 (aa [cw 74 4 70 72,aV 75 4 74,cL 12 da,bu 4 12 75] (aa [I 76 4,ct 77 76,b6 78 0] (.block 3 (.loop (aa [bq 79 .lss 78 77] (.seq (aZ 79 .skip (.exit 3)) (.seq (.block 4 (aa [cw 80 4 76 78,aV 81 4 80,cL 14 da,bu 4 14 81] (aa [I 82 4,ct 83 82,b6 84 0] (.block 5 (.loop (aa [bq 85 .lss 84 83] (.seq (aZ 85 .skip (.exit 5)) (.seq (.block 6 (aa [cw 86 4 82 84,aV 87 4 86,cL 16 da,bu 4 16 87] (aa [aV 88 4 12,gv 89 ib [(0,1,(dS 0)),(1,4,(.t 88))],aV 90 4 14,gv 91 ib [(0,1,(dS 1)),(1,4,(.t 90))],aV 92 4 16,gv 93 ib [(0,1,(dS 2)),(1,4,(.t 92))],dI 94 5 61 [.t 89,.t 91,.t 93],I 17 94] (aa [aV 95 4 5,I 96 17,b5 97 27 95 96,cL 18 da,bu 4 18 97] (aa [aV 98 4 6,I 99 17,b5 100 27 98 99,cL 19 da,bu 4 19 100] (aa [I 101 7,aS 102 .eql 101 0,I 103 102,al 103 true (aV 104 4 18),al 103 true (aV 105 4 19),al 103 true (b5 106 28 104 105),de 107 103 106,I 108 107,bO 108 false 109 7,al 108 false (aS 110 .eql 109 1),bO 108 false 111 110,al 111 true (aV 112 4 18),al 111 true (aV 113 4 19),al 111 true (b5 114 28 112 113),al 111 true (cx 115 114),al 108 false (de 116 111 115),cV 117 108 116,I 118 117,bO 118 false 119 7,al 118 false (aS 120 .eql 119 2),bO 118 false 121 120,al 121 true (aI 122 0 1 18),al 121 true (az 123 1 122),al 121 true (aS 124 .eql 123 3),al 118 false (de 125 121 124),cV 126 118 125,I 127 126,bO 127 false 128 7,al 127 false (aS 129 .eql 128 3),bO 127 false 130 129,al 130 true (aV 131 4 19),⟨(some (130,true)),.call (some 132) (.c (.func 29 [])) [.t 131,(.c (.str [98]))]⟩,al 130 true (cx 133 132),al 127 false (de 134 130 133),cV 135 127 134,I 20 135] (aa [I 136 20,I 137 136,al 137 true (aV 138 5 3),bO 137 true 139 17,al 137 true (b5 140 30 138 139),de 141 137 140] (aZ 141 (.region [I 142 10,aS 143 .add 142 1,I 10 143]) .skip)))))))) (.region [aS 144 .add 84 1,I 84 144]))))))))) (.region [aS 145 .add 78 1,I 78 145]))))))))) (.region [aS 146 .add 72 1,I 72 146]))))))) (aa [I 147 9,cx 148 147,I 149 148,al 149 false (aV 150 5 8),bO 149 false 151 4,al 149 false (b5 152 31 150 151),bO 149 false 153 10,al 149 false (bq 154 .eql 152 153),cV 155 149 154,I 156 155,bO 156 true 157 9,bO 156 true 158 157,bO 158 false 159 10,al 158 false (aS 160 .eql 159 0),al 156 true (cV 161 158 160),de 162 156 161,I 2 162] .ret)))))))))))))
@[simp] def anY:List bW:=[.tmp 2]
def Sc:C:=(aa [eA 6 4] (aa [I 7 0,I 8 1,b5 9 45 7 8,I 10 2,b5 11 73 9 10,I 6 11] .ret))
@[simp] def YS:List bW:=[.tmp 6]
def Sd:C:=(aa [cU 2 0,cL 4 da] (aa [I 5 1,aV 6 4 2,b5 7 75 5 6,cG 8 74 7,bu 4 4 8] .ret))
@[simp] def YT:List bW:=[.cell 4 true 4]
def SH:C:=(aa [eA 4 4] (aa [dI 7 4 32 [],I 5 7] (.seq (.seq (.fg false 5 (.region [I 8 0,I 9 1,b5 10 110 8 9,b2 11 (.bin .add false (dS 1) (.t 10)),I 6 11])) (.block 0 (.loop (.seq (aa [I 12 6,aS 13 .gtr 12 0] (aZ 13 .skip (.exit 0))) (.seq (.block 1 (.region [I 16 5,I 17 0,I 18 0,c2 19 110 [.t 18,(dS 2)],b2 20 (.bin .mul false (dS 2) (.t 19)),b2 21 (.bin .add false (dS 1) (.t 20)),c2 22 46 [.t 17,.t 21,(dS 0)],b5 23 160 16 22,I 5 23])) (.region [I 14 6,aS 15 .sub 14 1,I 6 15])))))) (aa [I 24 5,I 4 24] .ret))))
@[simp] def Y7:List bW:=[.tmp 4]
def SG:C:=(aa [cU 3 1,eA 4 4] (aa [I 7 0,ct 8 7,I 5 8] (.seq (.block 0 (.loop (.seq (.seq (.drawn true 50 [I 9 5,aS 10 .gtr 9 0,I 11 10,bO 11 true 12 0,bO 11 true 13 5,al 11 true (aS 14 .sub 13 1),al 11 true (cw 15 4 12 14),al 11 true (aV 16 4 15),al 11 true (aV 17 4 3),al 11 true (b5 18 229 16 17),al 11 true (aS 19 .geq 18 0),de 20 11 19]) (aZ 20 .skip (.exit 0))) (.block 1 (.region [I 21 5,aS 22 .sub 21 1,I 5 22]))))) (.seq (.seq (.drawn true 50 [I 23 5,I 24 0,ct 25 24,bq 26 .lss 23 25,I 27 26,bO 27 true 28 0,bO 27 true 29 5,al 27 true (cw 30 4 28 29),al 27 true (aV 31 4 30),al 27 true (aV 32 4 3),al 27 true (b5 33 167 31 32),de 34 27 33]) (aZ 34 (aa [I 35 0,I 4 35] .ret) .skip)) (aa [dI 36 4 32 [],I 37 0,I 38 5,b2 39 (.lsl 4 (.t 37) none (some (.t 38))),gf 40 4 32 36 39,I 6 40] (aa [I 41 6,aV 42 4 3,dI 43 4 32 [.t 42],gf 44 4 32 41 43,I 6 44] (aa [I 45 6,I 46 0,I 47 5,b2 48 (.lsl 4 (.t 46) (some (.t 47)) none),gf 49 4 32 45 48,I 4 49] .ret)))))))
@[simp] def zg:List bW:=[.tmp 4]
def B6:List (Nat×dB):=[
 (3,⟨1,8,.int .i64,.int .i64 0⟩),
 (22,⟨1,24,.slice 5,.slice 1 .nil []⟩),
 (23,⟨1,24,.slice 61,.slice 5 .nil []⟩),
 (28,⟨5,104,.struct [(0,3),(1,23),(2,24),(3,25),(4,26)],.agg [.int .i64 0,.slice 5 .nil [],.slice 1 .nil [],.slice 2 .nil [],.slice 2 .nil []]⟩),
 (30,⟨1,24,.slice 32,.slice 4 .nil []⟩),
 (32,⟨4,56,.struct [(0,3),(1,3),(2,9),(3,30)],.agg [.int .i64 0,.int .i64 0,.str [],.slice 4 .nil []]⟩),
 (61,⟨5,64,.struct [(0,3),(1,32)],.agg [.int .i64 0,.int .i64 0,.int .i64 0,.str [],.slice 4 .nil []]⟩)]
theorem B8:fM ax B6=true:=by kernel_rfl
theorem XN:b3 B6 Km anY 1 k7=true:=by kernel_rfl
theorem TN:ax.funcs[(6:Nat)]? =some k7:=Tryz.func6
theorem amx:b3 B6 Sc YS 3 Tryz.f26=true:=by kernel_rfl
theorem aft:ax.funcs[(26:Nat)]? =some Tryz.f26:=Tryz.func26
theorem amy:b3 B6 Sd YT 2 Tryz.f27=true:=by kernel_rfl
theorem afu:ax.funcs[(27:Nat)]? =some Tryz.f27:=Tryz.func27
theorem am1:b3 B6 SH Y7 2 Tryz.f73=true:=by kernel_rfl
theorem afX:ax.funcs[(73:Nat)]? =some Tryz.f73:=Tryz.func73
theorem am0:b3 B6 SG zg 2 Tryz.f160=true:=by kernel_rfl
theorem afW:ax.funcs[(160:Nat)]? =some Tryz.f160:=Tryz.func160
def ajJ(t u:T)(k:Nat)(st:br):Prop:=∃i:Nat,i<=t.args.length/\k=t.args.length-i/\t.args.take i=u.args.take i/\st=⟨[(3,.ptr (.loc 1) 0),(36,.slice 4 .no (t.args.map T.e)),(37,.int .i64 t.args.length),(38,.int .i64 i)],[(.loc 1,[.int .i64 u.kind,.int .i64 u.int,.str u.name,.slice 4 .no (u.args.map T.e)])],[],2,[]⟩
theorem aaP(t:T)(bR:∀x∈t.args,∀u:T,bQ ax 28 [x.e,u.e] (.bool (decide (x=u))))(u:T):bQ ax 28 [t.e,u.e] (.bool (decide (t=u))):=by
 have hle:t.args.length<=2:=by cases t<;>simp
 refine bj apy ae0 al3 fun aR=>?_;unfold RH;simp;(with_reducible repeat' first|((first|apply bL|apply bN|apply bM)<;>intro h<;>try simp at h)|refine aj ?_|simp)
 ·simp[bk,EH,aU,aW,aT];intro e;subst e;simp_all
 ·refine nJ (ajJ t u) t.args.length _ bT ⟨0,Ω,Ω,Ψ,rfl⟩ ?_;rintro k st ⟨i,hi,ae,oI,rfl⟩ ju cI;clear ju cI;by_cases bz:i<t.args.length
  ·have Ve:i<u.args.length:=Ω
   simp[bz,Ve];(with_reducible repeat' first|((first|apply bL|apply bN|apply bM)<;>intro h<;>try simp at h)|refine aj ?_|refine aA (bR _ (List.getElem_mem bz) _) ?_|refine aB (bR _ (List.getElem_mem bz) _) ?_|simp)
   ·simp[bk,EH,aU,aW,aT];intro e;subst e;simp_all
   ·refine bP.next (t.args.length-(i+1)) Ω ⟨i+1,Ω,rfl,?_,rfl⟩ bT;rw[q6,q6,oI,bY bz,bY Ve,h]
  ·simp[bz];(with_reducible repeat' first|refine aj ?_|simp);simp[bk,EH,aU,aW,aT];have:t.args=u.args:=by rw[gw Ω,gw Ω]at oI;exact oI
   simp_all;exact Qf (by assumption) (by assumption) (by assumption) (by assumption)
 all_goals simp[bk,EH,aU,aW,aT]
 all_goals(intro e;subst e;simp_all)
theorem aqH(t:T):∀u:T,bQ ax 28 [t.e,u.e] (.bool (decide (t=u))):=by
 induction t with
 |pair a b dJ dK=>
  refine aaP _ fun x ad=>?_;simp at ad;rcases ad with rfl|rfl
  ·exact dJ
  ·exact dK
 |_=>exact aaP _ fun x ad=>by simp at ad
theorem apX(l:List ai)(av:l.length<=1000000)(t:T):bQ ax 27 [t.e,.slice 5 .no (l.map ai.e)] (t.sub (df l)).e:=by refine bj B8 afu amy fun aR=>?_;unfold Sd;simp;(with_reducible repeat' first|refine aj ?_|refine aA (PF l av t) ?_|refine aB (PF l av t) ?_|refine aA (Fi _) ?_|refine aB (Fi _) ?_|simp);simp[bk,YT,aU,aW,aT]
def lv(l:List T)(t:T):Nat->Nat
 |0=>0
 |k+1=>match l[k]? with
  |some x=>if 0<=du x t then lv l t k else k+1
  |none=>0
theorem V2(l:List T)(t:T):∀k,lv l t k<=k
 |0=>by simp[lv]
 |k+1=>by
  simp only[lv];split
  ·split
   ·have:=V2 l t k;omega
   ·omega
  ·omega
def nX(l:List T)(t:T):List T:=if l[lv l t l.length]? =some t then l else l.take (lv l t l.length)++t::l.drop (lv l t l.length)
def ajU(l:List T)(t:T)(k:Nat):Prop:=k<=l.length/\lv l t k=lv l t l.length
theorem B3(a b:List ak):c7 (a++b)=c7 a++c7 b:=by rw[Jn,Jn,Jn,r6]
theorem aaF(l:List T)(av:l.length<=1000000)(t:T):bQ ax 160 [.slice 4 .no (l.map T.e),t.e] (.slice 4 .no ((nX l t).map T.e)):=by
 refine bj B8 afW am0 fun aR=>?_;unfold SG;simp;refine u9 [0,3] (fun(k:Nat)=>[(5,.int .i64 k)]) (fun k=>k) (ajU l t) l.length bT ⟨Ω,rfl⟩ (fun k af _=>?_);obtain⟨ae,LX⟩:=af;have wW:(l.map T.e).take l.length=l.map T.e:=gw Ψ;have Ho:∀k,c7 ((l.map T.e).take k)=(l.map T.e).take k:=fun k=>by rw[<-List.map_take,Ph]
 have Hp:∀k,c7 ((l.map T.e).drop k)=(l.map T.e).drop k:=fun k=>by rw[<-List.map_drop,Ph]
 rcases Nat.eq_zero_or_pos k with sG|eW
 ·subst sG;have ba:lv l t l.length=0:=by rw[<-LX];rfl
  by_cases gl:0<l.length
  ·obtain⟨y,aC⟩:∃y,l[0]? =some y:=⟨_,bY gl⟩;have DM:∀h,l[0]'h=y:=fun h=>by rw[bY h]at aC;simpa using aC
   by_cases sP:y=t
   ·(with_reducible repeat' first|refine aj ?_|refine aA (nC _ _) ?_|refine aB (nC _ _) ?_|refine aA (oX _ _) ?_|refine aB (oX _ _) ?_|simp[gl,aC,DM,sP,ba]);simp[bk,zg,aU,aW,aT];simp[nX,ba,aC,sP,wW,B3,Ho,Hp]
   ·(with_reducible repeat' first|refine aj ?_|refine aA (nC _ _) ?_|refine aB (nC _ _) ?_|refine aA (oX _ _) ?_|refine aB (oX _ _) ?_|simp[gl,aC,DM,sP,ba]);simp[bk,zg,aU,aW,aT];simp[nX,ba,aC,sP,wW,B3,Ho,Hp]
  ·have au:l[0]? =none:=pT Ω;have oI:l.take 0=l:=gw Ω;have eK:l.drop 0=[]:=List.drop_of_length_le Ω;(with_reducible repeat' first|refine aj ?_|refine aA (nC _ _) ?_|refine aB (nC _ _) ?_|refine aA (oX _ _) ?_|refine aB (oX _ _) ?_|simp[gl,ba]);simp[bk,zg,aU,aW,aT];have Mr:(l.map T.e).take 0=l.map T.e:=gw (by rw[r5];omega);have Dg:(l.map T.e).drop 0=[]:=List.drop_of_length_le (by rw[r5];omega);first
    |(simp[nX,ba,au,oI,eK,wW,B3,Mr,Dg];done)
    |(have ud:l=[]:=List.length_eq_zero_iff.1 Ω
      subst ud;simp[nX,lv];done)
 ·obtain⟨x,ad⟩:∃x,l[k-1]? =some x:=⟨_,bY Ω⟩;have lO:∀h,l[k-1]'h=x:=fun h=>by rw[bY h]at ad;simpa using ad
  have aq:((k:Int)-1).toNat=k-1:=Ω
  have di:((k-1:Nat):Int)=(k:Int)-1:=Ω
  have h2:lv l t k=if 0<=du x t then lv l t (k-1)else k:=by obtain⟨bH,rfl⟩:∃bH,k=bH+1:=⟨k-1,Ω⟩;simp at ad;simp[lv,ad]
  by_cases aw:0<=du x t
  ·(with_reducible repeat' first|refine aj ?_|refine aA (nC _ _) ?_|refine aB (nC _ _) ?_|simp[eW,ad,lO,aq,aw]);refine bP.whl (k-1) Ω ⟨Ω,?_⟩ ⟨by simp[fresh,aN,aJ,cz,inObs,Pv.look,di],eD (by simp[fresh,aN,aJ,cz,inObs,Pv.look,di]),eE (by simp[fresh,aN,aJ,eg,inObs,Pv.look,di]),Ψ⟩;rw[<-LX,h2,if_pos aw]
  ·have ba:lv l t l.length=k:=by rw[<-LX,h2,if_neg aw]
   by_cases gl:k<l.length
   ·obtain⟨y,aC⟩:∃y,l[k]? =some y:=⟨_,bY gl⟩;have DM:∀h,l[k]'h=y:=fun h=>by rw[bY h]at aC;simpa using aC
    by_cases sP:y=t
    ·(with_reducible repeat' first|refine aj ?_|refine aA (nC _ _) ?_|refine aB (nC _ _) ?_|refine aA (oX _ _) ?_|refine aB (oX _ _) ?_|simp[gl,aC,DM,sP,eW,ad,lO,aq,aw]);simp[bk,zg,aU,aW,aT];simp[nX,ba,aC,sP,wW,B3,Ho,Hp]
    ·(with_reducible repeat' first|refine aj ?_|refine aA (nC _ _) ?_|refine aB (nC _ _) ?_|refine aA (oX _ _) ?_|refine aB (oX _ _) ?_|simp[gl,aC,DM,sP,eW,ad,lO,aq,aw]);simp[bk,zg,aU,aW,aT];simp[nX,ba,aC,sP,wW,B3,Ho,Hp]
   ·have au:l[k]? =none:=pT Ω;have oI:l.take k=l:=gw Ω;have eK:l.drop k=[]:=List.drop_of_length_le Ω;(with_reducible repeat' first|refine aj ?_|refine aA (nC _ _) ?_|refine aB (nC _ _) ?_|refine aA (oX _ _) ?_|refine aB (oX _ _) ?_|simp[gl,eW,ad,lO,aq,aw]);simp[bk,zg,aU,aW,aT];have Mr:(l.map T.e).take k=l.map T.e:=gw (by rw[r5];omega);have Dg:(l.map T.e).drop k=[]:=List.drop_of_length_le (by rw[r5];omega);first
     |(simp[nX,ba,au,oI,eK,wW,B3,Mr,Dg];done)
     |(have ud:l=[]:=List.length_eq_zero_iff.1 Ω
       subst ud;simp[nX,lv];done)
end
end Go.Proofs.YtohaalphocaebaaGreat
namespace Go.Pv
section
open Go
structure ca where
 v:Int
 k:Int
 deriving DecidableEq,Inhabited
def ca.e(b:ca):ak:= .agg [.int .i64 b.v,.int .i64 b.k]
@[simp]theorem ca.eta(b:ca):ca.mk b.v b.k=b:=rfl
@[simp]theorem Qp(v k:Int):ak.agg [.int .i64 v,.int .i64 k]=(ca.mk v k).e:=rfl
@[simp]theorem atw(S:aM->Prop)(b:ca):aJ S b.e=True:=by simp[ca.e,-Qp]
@[simp]theorem au7(b:ca):eb b.e=b.e:=by simp[ca.e,-Qp]
theorem WD(S:aM->Prop):∀l:List ca,aN S (l.map ca.e)
 |[]=>by simp[aN]
 |x::xs=>by simp[aN,WD S xs]
@[simp]theorem atn(S:aM->Prop)(l:List ca):aN S (l.map ca.e)=True:=eq_true (WD S l)
@[simp]theorem Pj:∀l:List ca,c7 (l.map ca.e)=l.map ca.e
 |[]=>rfl
 |x::xs=>by simp[c7,Pj xs]
@[simp]theorem auR(b:ca):eR b.e=true:=rfl
@[simp]theorem arW(b:ca):cells b.e=[.int .i64 b.v,.int .i64 b.k]:=rfl
@[simp]theorem as8(b:ca):Pv.isAgg 2 b.e:=⟨_,rfl,rfl⟩
@[simp]theorem asq(off:Nat)(gh:Bool)(sz:Nat)(b:ca):vd off gh sz b.e=if gh then some (off+sz<=2,.agg (([.int .i64 b.v,.int .i64 b.k].drop off).take sz))else(([.int .i64 b.v,.int .i64 b.k]:List ak)[off]?).map fun p=>(True,p):=rfl
@[simp]theorem ash(off:Nat)(gh:Bool)(sz:Nat)(b:ca):rs off gh sz (.eptr b.e)=if gh then some (off+sz<=2,.eptr (.agg (([.int .i64 b.v,.int .i64 b.k].drop off).take sz)))else(([.int .i64 b.v,.int .i64 b.k]:List ak)[off]?).map fun p=>(eR p=true/\cells p=[p],.eptr p):=rfl
structure bs where
 v:Int
 s:List c0
 deriving DecidableEq,Inhabited
def bs.e(b:bs):ak:= .agg [.int .i64 b.v,.str b.s]
@[simp]theorem bs.eta(b:bs):bs.mk b.v b.s=b:=rfl
@[simp]theorem JX(v:Int)(s:List c0):ak.agg [.int .i64 v,.str s]=(bs.mk v s).e:=rfl
@[simp]theorem aj8(S:aM->Prop)(b:bs):aJ S b.e=True:=by simp[bs.e,-JX]
@[simp]theorem au8(b:bs):eb b.e=b.e:=by simp[bs.e,-JX]
theorem MX(S:aM->Prop):∀l:List bs,aN S (l.map bs.e)
 |[]=>by simp[aN]
 |x::xs=>by simp[aN,MX S xs]
@[simp]theorem WE(S:aM->Prop)(l:List bs):aN S (l.map bs.e)=True:=eq_true (MX S l)
@[simp]theorem Pk:∀l:List bs,c7 (l.map bs.e)=l.map bs.e
 |[]=>rfl
 |x::xs=>by simp[c7,Pk xs]
@[simp]theorem auS(b:bs):eR b.e=true:=rfl
@[simp]theorem arX(b:bs):cells b.e=[.int .i64 b.v,.str b.s]:=rfl
@[simp]theorem as9(b:bs):Pv.isAgg 2 b.e:=⟨_,rfl,rfl⟩
@[simp]theorem asr(off:Nat)(gh:Bool)(sz:Nat)(b:bs):vd off gh sz b.e=if gh then some (off+sz<=2,.agg (([.int .i64 b.v,.str b.s].drop off).take sz))else(([.int .i64 b.v,.str b.s]:List ak)[off]?).map fun p=>(True,p):=rfl
@[simp]theorem asi(off:Nat)(gh:Bool)(sz:Nat)(b:bs):rs off gh sz (.eptr b.e)=if gh then some (off+sz<=2,.eptr (.agg (([.int .i64 b.v,.str b.s].drop off).take sz)))else(([.int .i64 b.v,.str b.s]:List ak)[off]?).map fun p=>(eR p=true/\cells p=[p],.eptr p):=rfl
def fp(x y:bs):Int:=if eG x.v y.v=0 then k2 x.s y.s else eG x.v y.v
theorem mm:jV fp:=by
 refine⟨fun x y=>?_,fun x y z J U=>?_,fun x y=>?_⟩
 ·unfold fp;have:=kH.neg x.v y.v;have:=Ev.neg x.s y.s;by_cases e:eG x.v y.v=0
  ·rw[if_pos e,if_pos Ω];omega
  ·rw[if_neg e,if_neg Ω];omega
 ·unfold fp at J U⊢;by_cases aq:eG x.v y.v=0
  ·rw[if_pos aq]at J;rw[(kH.zero _ _).1 aq];by_cases aG:eG y.v z.v=0
   ·rw[if_pos aG]at U⊢;exact Ev.tr _ _ _ J U
   ·rw[if_neg aG]at U⊢;exact U
  ·rw[if_neg aq]at J;have bz:eG x.v y.v<0:=Ω
   by_cases aG:eG y.v z.v=0
   ·rw[<-(kH.zero _ _).1 aG,if_neg aq];exact J
   ·rw[if_neg aG]at U;have:=kH.ltr bz U;rw[if_neg Ω];omega
 ·unfold fp;by_cases e:eG x.v y.v=0
  ·rw[if_pos e,Ev.zero];have:=(kH.zero _ _).1 e;cases x;cases y;simp_all
  ·rw[if_neg e];exact⟨fun h=>absurd h e,fun h=>by rw[h]at e;exact absurd (kH.refl _) e⟩
def ux(x y:bs):Bool:=decide (x.v<y.v)||(x.v==y.v&&hL x.s y.s)
theorem ab8(a:List c0):hL a a=false:=by
 cases h:hL a a with
 |false=>rfl
 |true=>rw[J7 a a h]at h;cases h
theorem Xr(x y:bs):ux x y=h4 fp x y:=by
 unfold ux h4 fp;rw[q4];simp only[k6,en,cr,dQ];by_cases e:x.v=y.v
 ·have:eG x.v y.v=0:=(kH.zero _ _).2 e;rw[if_pos this];simp only[e,Int.lt_irrefl,false_or,true_and,k2];by_cases aG:x.s=y.s
  ·rw[if_pos aG,aG,ab8];simp
  ·rw[if_neg aG];split<;>simp_all
 ·have bE:¬eG x.v y.v=0:=fun h=>e ((kH.zero _ _).1 h);rw[if_neg bE];simp only[e,false_and,or_false];unfold eG;(repeat' split)<;>omega
def iC{α:Type}(p:α->Prop)(r:α->α->Prop)(l:List α)(i:Nat):Prop:= ∀b,l[i]? =some b->p b/\∀c,0<i->l[i-1]? =some c->r c b
theorem Ql{α:Type}{p:α->Prop}{r:α->α->Prop}(aH:∀a b c,r a b->r b c->r a c){l:List α}:(∀i,i<l.length->iC p r l i)↔(∀b∈l,p b)/\l.Pairwise r:=by
 constructor
 ·intro h;refine⟨fun b ab=>?_,?_⟩
  ·obtain⟨i,hi,e⟩:=oi ab;exact(h i hi b (by rw[bY hi,e])).1
  ·rw[o2];have h2:∀i (h:i+1<l.length),r l[i] l[i+1]:=fun i hi=>(h (i+1) hi l[i+1] (by simp[bY hi])).2 l[i] Ω (by simp[bY (show i<l.length by omega)]);have:∀(d i:Nat) (h:i+d+1<l.length),r l[i] l[i+d+1]:=by
    intro d;induction d with
    |zero=>intro i h;exact h2 i h
    |succ d bR=>intro i h;exact aH _ _ _ (bR i Ω) (h2 (i+d+1) Ω)
   intro i j hi af lp;have:=this (j-i-1) i Ω;simpa[show i+(j-i-1)+1=j from by omega]using this
 ·rintro⟨J,U⟩ i hi b ab;refine⟨J b (dP ab),fun c bE ar=>?_⟩;obtain⟨g1,aq⟩:=eS.1 ar;obtain⟨g2,aG⟩:=eS.1 ab;have:=o2.1 U (i-1) i g1 g2 Ω;rw[aq,aG]at this;exact this
def kC{α:Type}(c:α->α->Int)(x:α):List α->List α
 |[]=>[x]
 |y::l=>if c y x<0 then y::kC c x l else if c y x=0 then y::l else x::y::l
section
variable {α:Type} {c:α->α->Int}
theorem H4(ar:jV c){x z:α}:∀{l:List α},z∈kC c x l↔z=x\/z∈l
 |[]=>by simp[kC]
 |y::l=>by
  simp only[kC];split
  ·simp only[e7,H4 ar (l:=l)];constructor
   ·rintro(h|h|h)
    ·exact .inr (.inl h)
    ·exact .inl h
    ·exact .inr (.inr h)
   ·rintro(h|h|h)
    ·exact .inr (.inl h)
    ·exact .inl h
    ·exact .inr (.inr h)
  ·split
   ·rename_i h;obtain rfl:=(ar.zero _ _).1 h;simp
   ·simp
theorem MD(ar:jV c){x:α}:∀{l:List α},gT c l->gT c (kC c x l)
 |[],_=>by simp[kC,gT]
 |y::l,h=>by
  obtain⟨J,U⟩:=mU.1 h;simp only[kC];split
  ·rename_i ao;refine mU.2 ⟨fun z ba=>?_,MD ar U⟩;rcases(H4 ar).1 ba with rfl|ba
   ·exact ao
   ·exact J z ba
  ·split
   ·exact h
   ·rename_i ao a6;have gP:c x y<0:=by have:=ar.neg x y;omega
    refine mU.2 ⟨fun z ba=>?_,h⟩;rcases e7.1 ba with rfl|ba
    ·exact gP
    ·exact ar.ltr gP (by have:=J z ba;omega)
theorem MF(x:α):∀l:List α,(kC c x l).length<=l.length+1
 |[]=>by simp[kC]
 |y::l=>by
  have:=MF x l;simp only[kC];split
  ·simp;omega
  ·split<;>simp
theorem ME(ar:jV c)(x:α):∀(l:List α) (k:Nat),(∀i y,i<k->l[i]? =some y->c y x<0)->(∀y,l[k]? =some y->0<=c y x)->k<=l.length->kC c x l=if(match l[k]? with|some y=>decide (c y x=0)|none=>false)=true then l else l.take k++x::l.drop k
 |[],k,_,_,ae=>by simp at ae;subst ae;simp[kC]
 |y::l,0,_,U,_=>by
  have:=U y rfl;by_cases e:c y x=0
  ·simp[kC,e]
  ·have ao:¬c y x<0:=Ω
   simp[kC,ao,e]
 |y::l,k+1,J,U,ae=>by
  have bE:=J 0 y Ω rfl;simp only[kC,if_pos bE,List.take_succ_cons,List.drop_succ_cons,bZ,List.getElem?_cons_succ];rw[ME ar x l k (fun i d hi aF=>J (i+1) d Ω (by simpa using aF)) (fun d aF=>U d (by simpa using aF)) (by simpa using ae)];cases l[k]? with
  |none=>rfl
  |some z=>simp only[];split<;>rfl
end
structure hl (l:List ca):Prop where
 at':∀x∈l,(0<=x.v/\x.v<=100000)/\(x.k=2\/x.k=3)
 asc:l.Pairwise fun x y=>x.v<y.v
def lx(l:List ca)(v:Int):Option Int:=(l.find? fun x=>x.v==v).map (·.k)
def mg(x:ca):List ca->List ca
 |[]=>[x]
 |y::l=>if y.v<x.v then y::mg x l else x::y::l
theorem yY{x z:ca}:∀{l:List ca},z∈mg x l↔z=x\/z∈l
 |[]=>by simp[mg]
 |y::l=>by
  simp only[mg];split
  ·simp only[e7,yY (l:=l)];constructor
   ·rintro(h|h|h)
    ·exact .inr (.inl h)
    ·exact .inl h
    ·exact .inr (.inr h)
   ·rintro(h|h|h)
    ·exact .inr (.inl h)
    ·exact .inl h
    ·exact .inr (.inr h)
  ·simp
theorem MG(x:ca):∀l:List ca,(mg x l).Perm (x::l)
 |[]=>.refl _
 |y::l=>by
  simp only[mg];split
  ·exact((MG x l).cons y).trans (avn _ _ _)
  ·exact .refl _
theorem HA{x:ca}:∀{l:List ca},l.Pairwise (fun x y=>x.v<y.v)->(∀y∈l,y.v≠x.v)->(mg x l).Pairwise fun x y=>x.v<y.v
 |[],_,_=>by simp[mg]
 |y::l,h,au=>by
  obtain⟨J,U⟩:=mU.1 h;have aC:=au y Ψ;simp only[mg];split
  ·rename_i ao;refine mU.2 ⟨fun z ba=>?_,HA U fun z ba=>au z (by simp[ba])⟩;rcases yY.1 ba with rfl|ba
   ·exact ao
   ·exact J z ba
  ·refine mU.2 ⟨fun z ba=>?_,h⟩;rcases e7.1 ba with rfl|ba
   ·omega
   ·have:=J z ba;omega
theorem V0(x:ca):∀(l:List ca) (k:Nat),(∀i y,i<k->l[i]? =some y->y.v<x.v)->(∀y,l[k]? =some y->¬y.v<x.v)->k<=l.length->mg x l=l.take k++x::l.drop k
 |[],k,_,_,ae=>by simp at ae;subst ae;rfl
 |y::l,0,_,U,_=>by have:=U y rfl;simp[mg,this]
 |y::l,k+1,J,U,ae=>by have bE:=J 0 y Ω rfl;simp only[mg,if_pos bE,List.take_succ_cons,List.drop_succ_cons,bZ];rw[V0 x l k (fun i d hi aF=>J (i+1) d Ω (by simpa using aF)) (fun d aF=>U d (by simpa using aF)) (by simpa using ae)]
theorem Wq{l a8:List ca}(bD:a8.Perm l)(aF:l.Pairwise fun x y=>x.v<y.v)(ag:a8.Pairwise fun x y=>decide (y.v<x.v)=false):a8=l:=by
 refine P5 (le:=fun x y:ca=>x.v<=y.v) (fun x y ad aC J U=>?_) (ag.imp Ψ) (aF.imp Ω) bD;have iH:x∈l:=bD.mem_iff.1 ad;have sN:y∈l:=aC;obtain⟨i,hi,rfl⟩:=oi iH;obtain⟨j,af,rfl⟩:=oi sN;have:=o2.1 aF;rcases Nat.lt_trichotomy i j with h|h|h
 ·have:=this i j hi af h;omega
 ·subst h;rfl
 ·have:=this j i af hi h;omega
theorem yQ{l:List ca}{v:Int}:lx l v=none↔∀x∈l,x.v≠v:=by simp[lx]
theorem D4{l:List ca}{v k:Int}(h:lx l v=some k):(⟨v,k⟩:ca)∈l:=by unfold lx at h;rw[gm]at h;obtain⟨x,J,rfl⟩:=h;have U:=List.find?_some J;simp at U;subst U;exact List.mem_of_find?_eq_some J
theorem HO{l:List ca}(bm:l.Pairwise fun x y=>x.v<y.v){x:ca}(h:x∈l):lx l x.v=some x.k:=by
 induction l with
 |nil=>simp at h
 |cons y l bR=>
  obtain⟨J,U⟩:=mU.1 bm;rcases e7.1 h with rfl|h
  ·simp[lx]
  ·have:=J x h;have e:=bR U h;unfold lx at e⊢;rw[List.find?_cons_of_neg (by simp;omega)];exact e
def hN(l:List ca)(t:T)(k:Int):Option (List ca):=match t with
 | .var n=>match lx l n with
  |some bH=>if bH=k then some l else none
  |none=>some (mg ⟨n,k⟩ l)
 |t=>if t.kind=k then some l else none
theorem FN{l a8:List ca}{t:T}{k:Int}(h:hl l)(aH:t.ok=true)(ae:k=2\/k=3)(he:hN l t k=some a8):hl a8:=by
 unfold hN at he;split at he
 ·rename_i n;split at he
  ·split at he
   ·cases he;exact h
   ·cases he
  ·rename_i au;cases he;rw[yQ]at au;refine⟨fun x ad=>?_,HA h.asc au⟩;rcases yY.1 ad with rfl|ad
   ·exact⟨by simpa[T.ok]using aH,ae⟩
   ·exact h.at' x ad
 ·split at he
  ·cases he;exact h
  ·cases he
theorem oK{l:List ca}(h:hl l):l.length<=100001:=by
 have J:(l.map (·.v)).Nodup:=by rw[List.nodup_iff_pairwise_ne,List.pairwise_map];exact h.asc.imp fun h e=>Ω
 have:=Ww J fun v ay=>by obtain⟨x,ad,rfl⟩:=hG.1 ay;exact(h.at' x ad).1
 simpa using this
def fJ(s:List ai):List ca->List ca->Option (List ca)
 |[],acc=>some acc
 |x::r,acc=>match hN acc (aY s x.v) x.k with
  |some a=>fJ s r a
  |none=>none
structure ji (l:List bs):Prop where
 at':∀x∈l,(0<=x.v/\x.v<=100000)/\ix x.s=true
 asc:gT fp l
def _root_.Go.Pv.T.has(s:List c0):T->Bool
 | .sym n=>n==s
 | .pair a b=>a.has s||b.has s
 |_=>false
def im(l:List bs)(t:T)(s:List c0):Option (List bs):=if t.has s then none else some (asc fp (l++(oe t).map fun v=>⟨v,s⟩))
theorem Fm{t:T}{v:Int}:v∈oe t↔t.occ v=true:=by
 refine⟨fun h=>?_,yZ⟩;induction t with
 |var n=>simp[oe]at h;simp[T.occ,h]
 |pair a b dJ dK=>simp only[oe,iz]at h;simp only[T.occ,k6];exact h.imp dJ dK
 |_=>simp[oe]at h
theorem yX{l a8:List bs}{t:T}{s:List c0}(h:im l t s=some a8)(x:bs):x∈a8↔x∈l\/(x.s=s/\t.occ x.v=true):=by
 unfold im at h;split at h
 ·cases h
 ·cases h;rw[Nj,iz,hG];refine or_congr_right ?_;constructor
  ·rintro⟨v,ay,rfl⟩;exact⟨rfl,Fm.1 ay⟩
  ·rintro⟨J,U⟩;exact⟨x.v,Fm.2 U,by rw[<-J]⟩
theorem JU{l a8:List bs}{t:T}{s:List c0}(cA:t.has s=false)(bm:gT fp a8)(hm:∀x,x∈a8↔x∈l\/(x.s=s/\t.occ x.v=true)):im l t s=some a8:=by
 have h:im l t s=some (asc fp (l++(oe t).map fun v=>⟨v,s⟩)):=by unfold im;rw[cA];rfl
 rw[h];congr 1;exact(FQ mm _).ext mm bm fun x=>by rw[hm,<-yX h]
theorem FO{l a8:List bs}{t:T}{s:List c0}(h:ji l)(aH:t.ok=true)(ag:ix s=true)(he:im l t s=some a8):ji a8:=by
 refine⟨fun x ad=>?_,?_⟩
 ·rcases(yX he x).1 ad with J|⟨J,U⟩
  ·exact h.at' x J
  ·exact⟨xP aH U,by rw[J];exact ag⟩
 ·unfold im at he;split at he
  ·cases he
  ·cases he;exact FQ mm _
def fL(s:List ai):List bs->List bs->Option (List bs)
 |[],acc=>some acc
 |x::r,acc=>match im acc (aY s x.v) x.s with
  |some a=>fL s r a
  |none=>none
end
end Go.Pv
namespace Go.Proofs.YtohaalphocaebaaGreat
section
open Go Go.Pv
def iI(l:List (List ai))(e:List ai):Bool:=l.all fun d=>decide (d=e)|| !km d e
theorem aj2{l a8:List (List ai)}(h:∀x,x∈l↔x∈a8)(e:List ai):iI l e=iI a8 e:=by rw[q4,iI,iI,fy,fy];exact⟨fun J x ad=>J x ((h x).2 ad),fun J x ad=>J x ((h x).1 ad)⟩
def j4(l:List (List ai)):List (List ai):=(asc ez l).filter (iI l)
theorem sZ{l:List (List ai)}{x:List ai}:x∈j4 l↔x∈l/\iI l x=true:=by rw[j4,iL,Nj]
theorem Xh(l:List (List ai)):gT ez (j4 l):=(FQ ly l).filter _
theorem Xi{l a8:List (List ai)}(bm:gT ez a8)(hm:∀x,x∈a8↔x∈l/\iI l x=true):j4 l=a8:=(Xh l).ext ly bm fun x=>by rw[hm,sZ]
theorem Xj(l:List (List ai)):(j4 l).length<=l.length:=gS (List.length_filter_le _ _) (abW _ _)
structure bK where
 n:Int
 b:List ai
 d:List (List ai)
 k:List ca
 m:List bs
 deriving DecidableEq,Inhabited
noncomputable def fu(b:List ai)(k:List ca)(m:List bs):List (List ai)->Option (List (List ai))
 |[]=>some []
 |d::r=>match mgu b (ga d)with
  |none=>fu b k m r
  |some x=>if fJ x k []=none\/fL x m []=none then fu b k m r else if dN b x=[]then none else(fu b k m r).map (dN b x:: ·)
def jO(k:List ca)(x:bs):Bool:=lx k x.v !=some 3
noncomputable def e6(s:bK):Option bK:=match fJ s.b s.k []with
 |none=>none
 |some k=>match fL s.b s.m []with
  |none=>none
  |some m=>match fu s.b k (m.filter (jO k)) s.d with
   |none=>none
   |some L=>if(j4 L).length<=30 then some ⟨s.n,s.b,j4 L,k,m.filter (jO k)⟩else none
def wj(t:T)(n:Int):Prop:= ∀v,t.occ v=true->v<n
def ox(l:List ai)(n:Int):Prop:= ∀b∈l,b.v<n/\wj b.t n
structure gu (s:bK):Prop where
 n:0<=s.n/\s.n<=100000
 b:ek s.b
 d:∀x∈s.d,ek x
 k:hl s.k
 m:ji s.m
 bb:ox s.b s.n
 db:∀x∈s.d,ox x s.n
 kb:∀x∈s.k,x.v<s.n
 mb:∀x∈s.m,x.v<s.n
def mN(s:bK):Prop:=gu s/\e6 s=some s
theorem BZ{s:List ai}(ag:ek s){v:Int}(ay:0<=v/\v<=100000):(aY s v).ok=true:=by have:=BY ag.ok (t:= .var v) (by simpa[T.ok]using ay);exact this
theorem IN{s:List ai}(ag:ek s):∀{l acc a:List ca},(∀x∈l,(0<=x.v/\x.v<=100000)/\(x.k=2\/x.k=3))->hl acc->fJ s l acc=some a->hl a
 |[],acc,a,_,h,he=>by simp only[fJ,dE]at he;rw[<-he];exact h
 |x::r,acc,a,av,h,he=>by
  simp only[fJ]at he;split at he
  ·rename_i bC aq;have ad:=av x Ψ;exact IN ag (fun y aC=>av y (by simp[aC])) (FN h (BZ ag ad.1) ad.2 aq) he
  ·cases he
theorem IQ{s:List ai}(ag:ek s):∀{l acc a:List bs},(∀x∈l,(0<=x.v/\x.v<=100000)/\ix x.s=true)->ji acc->fL s l acc=some a->ji a
 |[],acc,a,_,h,he=>by simp only[fL,dE]at he;rw[<-he];exact h
 |x::r,acc,a,av,h,he=>by
  simp only[fL]at he;split at he
  ·rename_i bC aq;have ad:=av x Ψ;exact IQ ag (fun y aC=>av y (by simp[aC])) (FO h (BZ ag ad.1) ad.2 aq) he
  ·cases he
def lU(G:List (List c0))(l:List bs):Prop:= ∀x∈l,x.s∈G
theorem Cx{G:List (List c0)}{l a8:List bs}{t:T}{s:List c0}(h:lU G l)(ag:s∈G)(he:im l t s=some a8):lU G a8:=fun x ad=>by
 rcases(yX he x).1 ad with J|⟨J,_⟩
 ·exact h x J
 ·rw[J];exact ag
theorem IT{G:List (List c0)}{s:List ai}:∀{l acc a:List bs},lU G l->lU G acc->fL s l acc=some a->lU G a
 |[],acc,a,_,h,he=>by simp only[fL,dE]at he;rw[<-he];exact h
 |x::r,acc,a,av,h,he=>by
  simp only[fL]at he;split at he
  ·rename_i bC aq;exact IT (fun y aC=>av y (by simp[aC])) (Cx h (av x Ψ) aq) he
  ·cases he
theorem anq{α:Type}[DecidableEq α]:∀{G:List α} {l:List (Nat×α)},l.Nodup->(∀x∈l,x.1<100001/\x.2∈G)->l.length<=100001*G.length:=by
 intro G l au h;have:=Fx au (l₂:=(List.range 100001).flatMap fun i=>G.map fun g=>(i,g)) (fun x ad=>by obtain⟨J,U⟩:=h x ad;rw[List.mem_flatMap];exact⟨x.1,List.mem_range.2 J,hG.2 ⟨x.2,U,rfl⟩⟩)
 have e:((List.range 100001).flatMap fun i=>G.map fun g=>(i,g)).length=100001*G.length:=by
  generalize 100001=n;induction n with
  |zero=>simp
  |succ n bR=>rw[List.range_succ,List.flatMap_append,o0,bR];simp[Nat.succ_mul]
 omega
theorem Ed{G:List (List c0)}{l:List bs}(h:ji l)(aX:lU G l):l.length<=100001*G.length:=by
 have J:(l.map fun x=>(x.v.toNat,x.s)).Nodup:=by rw[List.nodup_iff_pairwise_ne,List.pairwise_map];refine aq1 (fun{a b} bm ab cK e=>cK ?_) (h.asc.nodup mm);have:=(h.at' a bm).1;have:=(h.at' b ab).1;simp only[jU]at e;cases a;cases b;simp only[bs.mk.injEq];simp only at*;exact⟨Ω,e.2⟩
 have:=anq (G:=G) J fun x ad=>by obtain⟨y,aC,rfl⟩:=hG.1 ad;have:=(h.at' y aC).1;exact⟨by simp;omega,aX y aC⟩
 simpa using this
def mQ(m:List bs):Prop:= ∃G:List (List c0),G.length<=687000/\lU G m
theorem mQ.len{m:List bs}(h:mQ m)(hm:ji m):m.length<=68719470000:=by obtain⟨G,J,U⟩:=h;have:=Ed hm U;omega
theorem aoH{s:List ai}(h:ek s)(p:ai->Bool):ek (s.filter p):=by
 have mH:∀b∈s.filter p,b∈s:=fun b ab=>(iL.1 ab).1;have au:∀w,df s w=none->df (s.filter p) w=none:=fun w hw=>by rw[wk]at hw⊢;exact fun b ab=>hw b (mH b ab)
 exact⟨fun b ab=>h.ok b (mH b ab),⟨aba p h.sol.asc,fun b ab w hw=>au w (h.sol.free b (mH b ab) w hw),fun b ab=>h.sol.ori b (mH b ab)⟩,
  gS (List.length_filter_le _ _) h.fits.1,fun b ab=>h.fits.2 b (mH b ab)⟩
theorem Ek{b x:List ai}(h:ek x):ek (dN b x):=aoH h _
theorem ak7{b x:List ai}(ab:eT b)(ad:eT x)(aQ:fP x)(h:∀θ,dY x θ->dY b θ):jb b (ga (dN b x)) (some x):=by
 refine⟨⟨ad,aQ⟩,fun θ=>⟨fun gb=>⟨h θ gb,fun e he=>?_⟩,fun⟨J,U⟩ c ar=>?_⟩⟩
 ·obtain⟨c,ar,rfl⟩:=hG.1 he;exact gb c (iL.1 ar).1
 ·have kg:∀c∈x,df b c.v=none->θ c.v=c.t.ap θ:=fun c ar au=>by have:=U (.var c.v,c.t) (hG.2 ⟨c,iL.2 ⟨ar,by simp[au]⟩,rfl⟩);exact this
  have yt:∀w,df b w=none->(aY x w).ap θ=θ w:=fun w hw=>by
   unfold aY;cases e:df x w with
   |none=>rfl
   |some t=>have hm:=jI e;exact(kg _ hm hw).symm
  cases e:df b c.v with
  |none=>exact kg c ar e
  |some t=>
   have aq:θ c.v=t.ap θ:=J _ (jI e);have aG:=h (aY x) (wa ad) _ (jI e);simp only at aG;have bG:aY x c.v=c.t:=by unfold aY;rw[sb ad.asc ar];rfl
   rw[bG]at aG;rw[aq,aG,x3];exact p1 fun w hw=>(yt w (ab.free _ (jI e) w hw)).symm
theorem rN{s:List ai}(ag:eT s)(aQ:fP s){E:List (T×T)}{x:List ai}(h:mgu s E=some x):∀θ,dY x θ↔dY s θ/\il E θ:=by have:=xg ag aQ E;rw[h]at this;exact this.2
theorem Eh{s:List ai}(ag:eT s)(aQ:fP s){E:List (T×T)}{x:List ai}(h:mgu s E=some x):mgu s (ga (dN s x))=some x:=qn (ak7 ag (sY ag aQ h).1 (sY ag aQ h).2 fun θ gb=>((rN ag aQ h θ).1 gb).1)
theorem Xg(p:Int->Prop){E:List (T×T)}:∀{s ah:List ai},eT s->fP s->(∀b∈s,p b.v/\∀w,b.t.occ w=true->p w)->(∀e∈E,(∀w,e.1.occ w=true->p w)/\∀w,e.2.occ w=true->p w)->mgu s E=some ah->∀b∈ah,p b.v/\∀w,b.t.occ w=true->p w:=by
 induction E with
 |nil=>intro s ah ag aQ J _ h;rw[Ei ag aQ]at h;cases h;exact J
 |cons e E bR=>
  intro s ah ag aQ J U h;rw[Ns ag aQ]at h;split at h
  ·rename_i s1 aq;obtain⟨V,gN⟩:∃V,V=s.flatMap (fun b=>b.v::oe b.t)++oe e.1++oe e.2:=⟨_,rfl⟩;have UC:∀w∈V,p w:=by
    intro w hw;rw[gN]at hw;simp only[iz,List.mem_flatMap,e7]at hw;rcases hw with(⟨b,ab,rfl|hw⟩|hw)|hw
    ·exact(J b ab).1
    ·exact(J b ab).2 w (Fm.1 hw)
    ·exact(U e Ψ).1 w (Fm.1 hw)
    ·exact(U e Ψ).2 w (Fm.1 hw)
   obtain⟨n,o,jm,jS,q1⟩:=Z6 V _ _ s e.1 e.2 ag aQ (fun c ar=>⟨by rw[gN];simp only[iz,List.mem_flatMap];exact .inl (.inl ⟨c,ar,Ψ⟩),fun w hw=>by rw[gN];simp only[iz,List.mem_flatMap];exact .inl (.inl ⟨c,ar,by simp[yZ hw]⟩)⟩)
    (fun w hw=>by rw[gN];simp only[iz];exact .inl (.inr (yZ hw))) (fun w hw=>by rw[gN];simp only[iz];exact .inr (yZ hw)) rfl rfl
   have zA:=qn jS;rw[aq]at zA;subst zA;obtain⟨Z3,_⟩:=q1 s1 rfl;have qi:=sY ag aQ aq;exact bR qi.1 qi.2 (fun b ab=>⟨UC _ (Z3 b ab).1,fun w hw=>UC w ((Z3 b ab).2 w hw)⟩) (fun fF he=>U fF (by simp[he])) h
  ·cases h
theorem aoP{s:List ai}(ag:eT s){v n:Int}(h:aY s v= .var n):df s n=none:=by have:=O3 ag (t:= .var v) (w:=n) (by show(aY s v).occ n=true;rw[h];simp[T.occ]);exact this
theorem JT{l a8:List ca}{t:T}{k:Int}(h:hN l t k=some a8):∀x∈a8,x∈l\/t= .var x.v:=by
 unfold hN at h;split at h
 ·rename_i n;split at h
  ·split at h
   ·cases h;exact fun x ad=>.inl ad
   ·cases h
  ·cases h;intro x ad;rcases yY.1 ad with rfl|ad
   ·exact .inr rfl
   ·exact .inl ad
 ·split at h
  ·cases h;exact fun x ad=>.inl ad
  ·cases h
theorem Zc{s:List ai}(ag:eT s):∀{l acc a:List ca},(∀x∈acc,df s x.v=none)->fJ s l acc=some a->∀x∈a,df s x.v=none
 |[],acc,a,h,he=>by simp only[fJ,dE]at he;rw[<-he];exact h
 |y::r,acc,a,h,he=>by
  simp only[fJ]at he;split at he
  ·rename_i bC aq;refine Zc ag (fun x ad=>?_) he;rcases JT aq x ad with J|J
   ·exact h x J
   ·exact aoP ag J
  ·cases he
theorem V1{x:ca}:∀{l:List ca},(∀y∈l,y.v<x.v)->mg x l=l++[x]
 |[],_=>rfl
 |y::l,h=>by simp only[mg,if_pos (h y Ψ),V1 (l:=l) fun z ba=>h z (by simp[ba]),bZ]
theorem Zd{s:List ai}:∀{l acc:List ca},(acc++l).Pairwise (fun x y=>x.v<y.v)->(∀x∈l,df s x.v=none)->fJ s l acc=some (acc++l)
 |[],acc,_,_=>by simp[fJ]
 |x::r,acc,bm,aQ=>by
  have J:∀y∈acc,y.v<x.v:=fun y aC=>(List.pairwise_append.1 bm).2.2 y aC x Ψ;have U:lx acc x.v=none:=yQ.2 fun y aC=>by have:=J y aC;omega
  have ao:hN acc (aY s x.v) x.k=some (acc++[x]):=by rw[BX (aQ x Ψ)];simp only[hN,U];rw[V1 J]
  simp only[fJ,ao];rw[Zd (by simpa using bm) fun y aC=>aQ y (by simp[aC])];simp
theorem Zf{s:List ai}(ag:eT s):∀{l acc a:List bs},(∀x∈acc,df s x.v=none)->fL s l acc=some a->∀x∈a,df s x.v=none
 |[],acc,a,h,he=>by simp only[fL,dE]at he;rw[<-he];exact h
 |y::r,acc,a,h,he=>by
  simp only[fL]at he;split at he
  ·rename_i bC aq;refine Zf ag (fun x ad=>?_) he;rcases(yX aq x).1 ad with J|⟨_,J⟩
   ·exact h x J
   ·exact O3 ag (t:= .var y.v) J
  ·cases he
theorem Zg{s:List ai}:∀{l acc:List bs},gT fp (acc++l)->(∀x∈l,df s x.v=none)->fL s l acc=some (acc++l)
 |[],acc,_,_=>by simp[fL]
 |x::r,acc,bm,aQ=>by
  have ao:im acc (aY s x.v) x.s=some (acc++[x]):=by
   rw[BX (aQ x Ψ)];refine JU rfl (avm ?_ bm) fun z=>?_
   ·simp
   ·simp only[iz,jT,T.occ,dQ];refine or_congr_right ⟨fun h=>by rw[h];exact⟨rfl,rfl⟩,fun⟨J,U⟩=>?_⟩;cases z;cases x;simp_all
  simp only[fL,ao];rw[Zg (by simpa using bm) fun y aC=>aQ y (by simp[aC])];simp
def E9(b:List ai)(k:List ca)(m:List bs)(d:List ai):Prop:= ∃x,mgu b (ga d)=some x/\¬(fJ x k []=none\/fL x m []=none)/\dN b x=d/\d≠[]
theorem HV{b:List ai}(ab:ek b){k:List ca}{m:List bs}:∀{l L:List (List ai)},fu b k m l=some L->∀d∈L,E9 b k m d
 |[],L,h=>by simp only[fu,dE]at h;rw[<-h];simp
 |d0::r,L,h=>by
  simp only[fu]at h;split at h
  ·exact HV ab h
  ·rename_i x ad;split at h
   ·exact HV ab h
   ·rename_i ae;split at h
    ·cases h
    ·rename_i au;rw[gm]at h;obtain⟨Fy,J,rfl⟩:=h;intro d aF;rcases e7.1 aF with rfl|aF
     ·exact⟨x,Eh ab.sol ab.fits ad,ae,rfl,au⟩
     ·exact HV ab J d aF
theorem WO{b:List ai}{k:List ca}{m:List bs}:∀{L:List (List ai)},(∀d∈L,E9 b k m d)->fu b k m L=some L
 |[],_=>rfl
 |d::L,h=>by obtain⟨x,J,U,ao,a6⟩:=h d Ψ;simp only[fu,J,if_neg U,ao,if_neg a6,WO (L:=L) fun e he=>h e (by simp[he]),oq]
theorem D7{b:List ai}(ab:ek b){k:List ca}{m:List bs}:∀{l L:List (List ai)},(∀d∈l,ek d)->fu b k m l=some L->∀d∈L,ek d
 |[],L,_,h=>by simp only[fu,dE]at h;rw[<-h];simp
 |d0::r,L,av,h=>by
  simp only[fu]at h;split at h
  ·exact D7 ab (fun d aF=>av d (by simp[aF])) h
  ·rename_i x ad;split at h
   ·exact D7 ab (fun d aF=>av d (by simp[aF])) h
   ·split at h
    ·cases h
    ·rw[gm]at h;obtain⟨Fy,J,rfl⟩:=h;intro d aF;rcases e7.1 aF with rfl|aF
     ·exact Ek (ab.mgu (fun e he=>by obtain⟨c,ar,rfl⟩:=hG.1 he;have:=(av d0 Ψ).ok c ar;exact⟨by simpa[T.ok]using this.1,this.2⟩) ad)
     ·exact D7 ab (fun d aF=>av d (by simp[aF])) J d aF
theorem HU{b:List ai}(ab:ek b){n:Int}(au:ox b n){k:List ca}{m:List bs}:∀{l L:List (List ai)},(∀d∈l,ox d n)->fu b k m l=some L->∀d∈L,ox d n
 |[],L,_,h=>by simp only[fu,dE]at h;rw[<-h];simp
 |d0::r,L,av,h=>by
  simp only[fu]at h;split at h
  ·exact HU ab au (fun d aF=>av d (by simp[aF])) h
  ·rename_i x ad;split at h
   ·exact HU ab au (fun d aF=>av d (by simp[aF])) h
   ·split at h
    ·cases h
    ·rw[gm]at h;obtain⟨Fy,J,rfl⟩:=h;intro d aF;rcases e7.1 aF with rfl|aF
     ·have:=Xg (fun v=>v<n) ab.sol ab.fits au (fun e he=>by obtain⟨c,ar,rfl⟩:=hG.1 he;have:=av d0 Ψ c ar;exact⟨fun w hw=>by simp[T.occ]at hw;subst hw;exact this.1,this.2⟩) ad
      exact fun c ar=>this c (iL.1 ar).1
     ·exact HU ab au (fun d aF=>av d (by simp[aF])) J d aF
theorem akQ{L:List (List ai)}:j4 (j4 L)=j4 L:=Xi (Xh L) fun x=>by rw[sZ,and_assoc];refine⟨fun⟨J,U⟩=>⟨J,U,?_⟩,fun⟨J,U,_⟩=>⟨J,U⟩⟩;rw[iI,fy]at U⊢;exact fun d aF=>U d (sZ.1 aF).1
theorem MR{b:List ai}(ab:ek b){n:Int}(au:ox b n){v w:Int}(ay:v<n)(h:(aY b v).occ w=true):w<n:=by
 unfold aY at h;cases e:df b v with
 |none=>rw[e]at h;simp[T.occ]at h;omega
 |some t=>rw[e]at h;exact(au _ (jI e)).2 w h
theorem Zb{b:List ai}(ab:ek b){n:Int}(au:ox b n):∀{l acc a:List ca},(∀x∈l,x.v<n)->(∀x∈acc,x.v<n)->fJ b l acc=some a->∀x∈a,x.v<n
 |[],acc,a,_,h,he=>by simp only[fJ,dE]at he;rw[<-he];exact h
 |y::r,acc,a,av,h,he=>by
  simp only[fJ]at he;split at he
  ·rename_i bC aq;refine Zb ab au (fun x ad=>av x (by simp[ad])) (fun x ad=>?_) he;rcases JT aq x ad with J|J
   ·exact h x J
   ·exact MR ab au (av y Ψ) (by rw[J];simp[T.occ])
  ·cases he
theorem Ze{b:List ai}(ab:ek b){n:Int}(au:ox b n):∀{l acc a:List bs},(∀x∈l,x.v<n)->(∀x∈acc,x.v<n)->fL b l acc=some a->∀x∈a,x.v<n
 |[],acc,a,_,h,he=>by simp only[fL,dE]at he;rw[<-he];exact h
 |y::r,acc,a,av,h,he=>by
  simp only[fL]at he;split at he
  ·rename_i bC aq;refine Ze ab au (fun x ad=>av x (by simp[ad])) (fun x ad=>?_) he;rcases(yX aq x).1 ad with J|⟨_,J⟩
   ·exact h x J
   ·exact MR ab au (av y Ψ) J
  ·cases he
theorem zq{s ah:bK}(h:gu s)(he:e6 s=some ah):mN ah/\ah.n=s.n/\ah.b=s.b:=by
 unfold e6 at he;split at he
 ·cases he
 rename_i k ae;split at he
 ·cases he
 rename_i m hm;split at he
 ·cases he
 rename_i L gU;split at he;rotate_left
 ·cases he
 rename_i lK;cases he;have aP:=IN h.b h.k.at' ⟨Ψ,Ψ⟩ ae;have m1:=IQ h.b h.m.at' ⟨Ψ,by simp[gT]⟩ hm;have m2:ji (m.filter (jO k)):=⟨fun x ad=>m1.at' x (iL.1 ad).1,aba _ m1.asc⟩;have dh:=HV h.b gU;have yG:=D7 h.b h.d gU;refine⟨⟨⟨h.n,h.b,fun x ad=>yG x (sZ.1 ad).1,aP,m2,h.bb,fun x ad=>HU h.b h.bb h.db gU x (sZ.1 ad).1,Zb h.b h.bb h.kb Ψ ae,fun x ad=>Ze h.b h.bb h.mb Ψ hm x (iL.1 ad).1⟩,?_⟩,rfl,rfl⟩;unfold e6;have aq:fJ s.b k []=some k:=Zd (acc:=[]) aP.asc (Zc h.b.sol Ψ ae);have aG:fL s.b (m.filter (jO k)) []=some (m.filter (jO k)):=Zg (acc:=[]) m2.asc fun x ad=>Zf h.b.sol Ψ hm x (iL.1 ad).1;have bG:(m.filter (jO k)).filter (jO k)=m.filter (jO k):=by rw[List.filter_filter];simp
 have di:fu s.b k (m.filter (jO k)) (j4 L)=some (j4 L):=WO fun d aF=>dh d (sZ.1 aF).1;simp only[aq,aG,bG,di,akQ,if_pos lK]
def ri:C:=(aa [cU 6 2,eA 8 2,bh 9 false] (.seq (aa [I 15 0,cG 16 55 15,cx 17 16,I 18 17,al 18 false (aV 19 4 6),al 18 false (cG 20 117 19),al 18 false (cx 21 20),cV 22 18 21,I 23 22,bO 23 false 24 1,al 23 false (cG 25 56 24),al 23 false (cx 26 25),cV 27 23 26,I 28 27,bO 28 false 29 3,al 28 false (aS 30 .neq 29 2),bO 28 false 31 30,bO 31 true 32 3,al 31 true (aS 33 .neq 32 3),al 28 false (de 34 31 33),cV 35 28 34] (aZ 35 (aa [eA 8 2,bh 9 false] .ret) .skip)) (aa [I 37 0,aV 38 4 6,b5 39 95 37 38,I 36 39,cj 40 0 36,cj 41 1 36,cL 10 da,bu 4 10 40,I 11 41] (.seq (aa [I 42 11,cx 43 42] (aZ 43 (aa [eA 8 2,bh 9 false] .ret) .skip)) (aa [cX (.bslm 44 (some 803) 2 104 []),I 45 1,cX (.appm 46 none 2 104 (.t 44) (.t 45)),cX (.alloc 12 (some 804) (.slice 2 .nil [])),bu 1 12 46] (.seq (aa [aI 47 0 1 10,az 48 1 47,aS 49 .neq 48 1] (aZ 49 (.seq (aa [aI 50 0 1 10,az 51 1 50,I 52 3,bq 53 .neq 51 52] (aZ 53 (aa [eA 8 2,bh 9 false] .ret) .skip)) (.seq (.pubB 12 (.region [az 54 1 12,I 8 54,bh 9 true])) .ret)) .skip)) (.seq (aa [I 55 1,ct 56 55,b6 57 0] (eZ 58 57 56 (.seq (.block 1 (aa [cw 59 2 55 57,aV 60 2 59,cX (.alloc 14 none (.agg [.int .i64 0,.int .i64 0])),bu 2 14 60] (aa [aI 61 0 1 14,az 62 1 61,aI 63 1 1 10,az 64 1 63,bq 65 .eql 62 64] (aZ 65 (.seq (aa [aI 66 1 1 14,az 67 1 66,I 68 3,bq 69 .neq 67 68] (aZ 69 (aa [eA 8 2,bh 9 false] .ret) .skip)) (.seq (.pubB 12 (.region [az 70 1 12,I 8 70,bh 9 true])) .ret)) .skip)))) (.region [aS 71 .add 57 1,I 57 71])))) (aa [az 72 1 12,aI 73 1 1 10,az 74 1 73,I 75 3,b2 76 (.build [.int .i64 0,.int .i64 0] [(0,1,(.t 74)),(1,1,(.t 75))]),dI 77 2 104 [.t 76],cX (.appm 78 none 2 104 (.t 72) (.t 77)),bu 1 12 78] (aa [az 79 1 12,b2 80 (.mkif 25 (.t 79)),b2 81 (.mkf 127 [.t 12]),b5 82 126 80 81] (.seq (.pubB 12 (.region [az 83 1 12,I 8 83,bh 9 true])) .ret))))))))))
@[simp] def kn:List bW:=[.tmp 8,.tmp 9]
def FY:C:=(aa [cU 6 2,cX (.box 7 (some 811) (.t 3)),eA 8 2,bh 9 false] (.seq (aa [I 17 0,cG 18 55 17,cx 19 18,I 20 19,al 20 false (aV 21 4 6),al 20 false (cG 22 117 21),al 20 false (cx 23 22),cV 24 20 23,I 25 24,bO 25 false 26 1,al 25 false (cG 27 57 26),al 25 false (cx 28 27),cV 29 25 28,I 30 29,al 30 false (az 31 1 7),al 30 false (cG 32 128 31),al 30 false (cx 33 32),cV 34 30 33] (aZ 34 (aa [eA 8 2,bh 9 false] .ret) .skip)) (aa [I 36 0,aV 37 4 6,b5 38 95 36 37,I 35 38,cj 39 0 35,cj 40 1 35,cL 10 da,bu 4 10 39,I 11 40] (.seq (aa [I 41 11,cx 42 41,I 43 42,al 43 false (aV 44 4 10),al 43 false (az 45 1 7),al 43 false (b5 46 109 44 45),cV 47 43 46] (aZ 47 (aa [eA 8 2,bh 9 false] .ret) .skip)) (aa [cX (.mkmap 48 (some 812)),cX (.alloc 12 (some 813) (.junk)),bu 1 12 48] (.seq (aa [I 49 1,ct 50 49,b6 51 0] (eZ 52 51 50 (.seq (.block 1 (aa [cw 53 2 49 51,aV 54 2 53,cX (.alloc 14 none (.agg [.int .i64 0,.str []])),bu 2 14 54] (.region [az 55 1 12,aV 56 2 14,cX (.mput (.a [false,true]) (.t 55) (.t 56) (.c (.bool true)))]))) (.region [aS 57 .add 51 1,I 51 57])))) (aa [aV 58 4 10,b2 59 (.mkf 130 [.t 12,.t 7]),b5 60 129 58 59] (aa [cX (.bslm 61 (some 814) 2 106 []),cX (.alloc 15 (some 815) (.slice 2 .nil [])),bu 1 15 61] (.seq (aa [az 62 1 12,cX (.range 63 none (.t 62))] (.block 2 (.loop (aa [⟨none,.next 64 (.t 63)⟩,cj 65 0 64] (.seq (aZ 65 .skip (.exit 2)) (.block 3 (aa [b2 66 (.ment (.t 63)),cj 67 0 66,cX (.alloc 16 none (.agg [.int .i64 0,.str []])),bu 2 16 67] (.region [az 68 1 15,aV 69 2 16,dI 70 2 106 [.t 69],cX (.appm 71 none 2 106 (.t 68) (.t 70)),bu 1 15 71])))))))) (aa [az 72 1 15,b2 73 (.mkif 26 (.t 72)),b2 74 (.mkf 131 [.t 15]),b5 75 126 73 74] (.seq (.pubB 15 (.region [az 76 1 15,I 8 76,bh 9 true])) .ret)))))))))))
@[simp] def Is:List bW:=[.tmp 8,.tmp 9]
def QZ:C:=(aa [bh 2 false] (.seq (aa [I 5 0,ct 6 5,b6 7 0] (eZ 8 7 6 (.seq (.block 1 (aa [I 9 7,cw 10 2 5 7,aV 11 2 10,cX (.alloc 4 none (.agg [.int .i64 0,.int .i64 0])),I 3 9,bu 2 4 11] (.seq (.drawn true 46 [aI 12 0 1 4,az 13 1 12,aS 14 .lss 13 0,I 15 14,al 15 false (aI 16 0 1 4),al 15 false (az 17 1 16),al 15 false (aS 18 .gtr 17 100000),cV 19 15 18,I 20 19,al 20 false (aI 21 1 1 4),al 20 false (az 22 1 21),al 20 false (aS 23 .neq 22 2),bO 20 false 24 23,al 24 true (aI 25 1 1 4),al 24 true (az 26 1 25),al 24 true (aS 27 .neq 26 3),al 20 false (de 28 24 27),cV 29 20 28,I 30 29,bO 30 false 31 3,al 30 false (aS 32 .gtr 31 0),bO 30 false 33 32,bO 33 true 34 0,bO 33 true 35 3,al 33 true (aS 36 .sub 35 1),al 33 true (cw 37 2 34 36),al 33 true (aI 38 0 1 37),al 33 true (az 39 1 38),al 33 true (aI 40 0 1 4),al 33 true (az 41 1 40),al 33 true (bq 42 .geq 39 41),al 30 false (de 43 33 42),cV 44 30 43]) (aZ 44 (aa [bh 2 false] .ret) .skip)))) (.region [aS 45 .add 7 1,I 7 45])))) (aa [bh 2 true] .ret)))
@[simp] def Yj:List bW:=[.tmp 2]
def Q0:C:=(aa [bh 2 false] (.seq (aa [I 5 0,ct 6 5,b6 7 0] (eZ 8 7 6 (.seq (.block 1 (aa [I 9 7,cw 10 2 5 7,aV 11 2 10,cX (.alloc 4 none (.agg [.int .i64 0,.str []])),I 3 9,bu 2 4 11] (.seq (.drawn true 41 [aI 12 0 1 4,az 13 1 12,aS 14 .lss 13 0,I 15 14,al 15 false (aI 16 0 1 4),al 15 false (az 17 1 16),al 15 false (aS 18 .gtr 17 100000),cV 19 15 18,I 20 19,al 20 false (aI 21 1 1 4),al 20 false (az 22 1 21),al 20 false (cG 23 128 22),al 20 false (cx 24 23),cV 25 20 24,I 26 25,bO 26 false 27 3,al 26 false (aS 28 .gtr 27 0),bO 26 false 29 28,bO 29 true 30 0,bO 29 true 31 3,al 29 true (aS 32 .sub 31 1),al 29 true (cw 33 2 30 32),al 29 true (aV 34 2 33),al 29 true (aV 35 2 4),al 29 true (b5 36 132 34 35),al 29 true (cx 37 36),al 26 false (de 38 29 37),cV 39 26 38]) (aZ 39 (aa [bh 2 false] .ret) .skip)))) (.region [aS 40 .add 7 1,I 7 40])))) (aa [bh 2 true] .ret)))
@[simp] def N7:List bW:=[.tmp 2]
def F7:C:=(aa [cU 2 0,bh 4 false] (.seq (aa [aI 5 0 1 2,az 6 1 5,aS 7 .eql 6 4] (aZ 7 (aa [aI 8 3 1 2,az 9 1 8,j9 10 4 9 0,aV 11 4 10,I 12 1,b5 13 109 11 12,I 14 13,al 14 false (aI 15 3 1 2),al 14 false (az 16 1 15),al 14 false (j9 17 4 16 1),al 14 false (aV 18 4 17),bO 14 false 19 1,al 14 false (b5 20 109 18 19),cV 21 14 20,I 4 21] .ret) .skip)) (aa [aI 22 0 1 2,az 23 1 22,aS 24 .eql 23 2,I 25 24,al 25 true (aI 26 2 1 2),al 25 true (az 27 1 26),bO 25 true 28 1,al 25 true (bq 29 .eql 27 28),de 30 25 29,I 4 30] .ret)))
@[simp] def Iy:List bW:=[.tmp 4]
def QV:C:=(aa [bh 5 false] (.seq (.drawn true 17 [az 6 1 2,I 7 0,cw 8 2 6 7,aI 9 0 1 8,az 10 1 9,az 11 1 2,I 12 1,cw 13 2 11 12,aI 14 0 1 13,az 15 1 14,bq 16 .lss 10 15,I 5 16]) .ret))
@[simp] def Ye:List bW:=[.tmp 5]
def QT:C:=(.region [az 4 1 1,I 5 0,az 6 1 2,b2 7 (.build [.int .i64 0,.str []] [(0,1,(.t 5)),(1,1,(.t 6))]),cX (.mput (.a [false,true]) (.t 4) (.t 7) (.c (.bool true)))])
@[simp] def Yc:List bW:=[]
def QU:C:=(aa [bh 5 false] (.seq (.drawn true 15 [az 6 1 2,I 7 0,cw 8 2 6 7,aV 9 2 8,az 10 1 2,I 11 1,cw 12 2 10 11,aV 13 2 12,b5 14 132 9 13,I 5 14]) .ret))
@[simp] def Yd:List bW:=[.tmp 5]
def F4:C:=(aa [cU 2 0,cU 3 1,bh 4 false] (aa [aI 5 0 1 2,az 6 1 5,aI 7 0 1 3,az 8 1 7,bq 9 .lss 6 8,I 10 9,al 10 false (aI 11 0 1 2),al 10 false (az 12 1 11),al 10 false (aI 13 0 1 3),al 10 false (az 14 1 13),al 10 false (bq 15 .eql 12 14),bO 10 false 16 15,al 16 true (aI 17 1 1 2),al 16 true (az 18 1 17),al 16 true (aI 19 1 1 3),al 16 true (az 20 1 19),al 16 true (bq 21 .lss 18 20),al 10 false (de 22 16 21),cV 23 10 22,I 4 23] .ret))
@[simp] def anQ:List bW:=[.tmp 4]
def uJ:List (Nat×dB):=[
 (3,⟨1,8,.int .i64,.int .i64 0⟩),
 (9,⟨1,16,.str,.str []⟩),
 (25,⟨1,24,.slice 104,.slice 2 .nil []⟩),
 (26,⟨1,24,.slice 106,.slice 2 .nil []⟩),
 (30,⟨1,24,.slice 32,.slice 4 .nil []⟩),
 (32,⟨4,56,.struct [(0,3),(1,3),(2,9),(3,30)],.agg [.int .i64 0,.int .i64 0,.str [],.slice 4 .nil []]⟩),
 (104,⟨2,16,.struct [(0,3),(1,3)],.agg [.int .i64 0,.int .i64 0]⟩),
 (106,⟨2,24,.struct [(0,3),(1,9)],.agg [.int .i64 0,.str []]⟩),
 (165,⟨1,8,.map 106 4,.junk⟩)]
theorem kp:fM ax uJ=true:=by kernel_rfl
theorem s6:b3 uJ ri kn 4 Tryz.f52=true:=by kernel_rfl
theorem sj:ax.funcs[(52:Nat)]? =some Tryz.f52:=Tryz.func52
theorem NF:b3 uJ FY Is 4 Tryz.f54=true:=by kernel_rfl
theorem KW:ax.funcs[(54:Nat)]? =some Tryz.f54:=Tryz.func54
theorem alk:b3 uJ QZ Yj 1 Tryz.f56=true:=by kernel_rfl
theorem aej:ax.funcs[(56:Nat)]? =some Tryz.f56:=Tryz.func56
theorem alm:b3 uJ Q0 N7 1 Tryz.f57=true:=by kernel_rfl
theorem aek:ax.funcs[(57:Nat)]? =some Tryz.f57:=Tryz.func57
theorem NO:b3 uJ F7 Iy 2 Tryz.f109=true:=by kernel_rfl
theorem K5:ax.funcs[(109:Nat)]? =some Tryz.f109:=Tryz.func109
theorem alg:b3 uJ QV Ye 3 Tryz.f127=true:=by kernel_rfl
theorem aef:ax.funcs[(127:Nat)]? =some Tryz.f127:=Tryz.func127
theorem ale:b3 uJ QT Yc 3 Tryz.f130=true:=by kernel_rfl
theorem aed:ax.funcs[(130:Nat)]? =some Tryz.f130:=Tryz.func130
theorem alf:b3 uJ QU Yd 3 Tryz.f131=true:=by kernel_rfl
theorem aee:ax.funcs[(131:Nat)]? =some Tryz.f131:=Tryz.func131
theorem NL:b3 uJ F4 anQ 2 Tryz.f132=true:=by kernel_rfl
theorem K2:ax.funcs[(132:Nat)]? =some Tryz.f132:=Tryz.func132
def mJ(x:ca):Prop:=(0<=x.v/\x.v<=100000)/\(x.k=2\/x.k=3)
def nZ(x y:ca):Prop:=x.v<y.v
theorem HL{l:List ca}:hl l↔∀i,i<l.length->iC mJ nZ l i:=by rw[Ql (p:=mJ) (r:=nZ) (fun a b c J U=>by unfold nZ at*;omega)];exact⟨fun h=>⟨h.at',h.asc⟩,fun h=>⟨h.1,h.2⟩⟩
def kF(x:bs):Prop:=(0<=x.v/\x.v<=100000)/\ix x.s=true
def k0(x y:bs):Prop:=fp x y<0
theorem H0{l:List bs}:ji l↔∀i,i<l.length->iC kF k0 l i:=by rw[Ql (p:=kF) (r:=k0) (fun a b c J U=>by unfold k0 at*;exact mm.ltr J (Int.le_of_lt U))];exact⟨fun h=>⟨h.at',h.asc⟩,fun h=>⟨h.1,h.2⟩⟩
open Classical in
theorem aad(l:List ca):bQ ax 56 [.slice 2 .no (l.map ca.e)] (.bool (decide (hl l))):=by
 generalize bA:decide (hl l)=R;refine bj kp aej alk fun aR=>?_;unfold QZ;have h1:l.length<=68719476736:=by simp[gI,fZ,gz,lim]at aR;omega
 simp;refine dT [0,5,6] (fun i (_:Unit)=>[(7,.int .i64 i)]) l.length (fun i _=> ∀j,j<i->iC mJ nZ l j) () bT (fun k ae=>Ω) (fun _ af _=>?_) (fun i _ hi af _=>?_)
 ·have:R=true:=by rw[<-bA,en,HL];exact af
  rw[this];exact cp
 ·obtain⟨b,ab⟩:∃b,l[i]? =some b:=⟨_,bY hi⟩;obtain⟨c,ar⟩:∃c,l[i-1]? =some c:=⟨_,bY Ω⟩;have cD:∀h,(l[i]'h)=b:=fun h=>by rw[bY hi]at ab;exact eH ab
  have cB:¬iC mJ nZ l i->R=false:=fun h=>by rw[<-bA,gn];exact fun cd=>h (HL.1 cd i hi)
  have dh:iC mJ nZ l i->∀j,j<i+1->iC mJ nZ l j:=fun h j jL=>by
   by_cases e:j=i
   ·rw[e];exact h
   ·exact af j Ω
  simp[hi,cD,ar];((with_reducible repeat' first|refine aj ?_|simp[cD,ar,hi]|((first|apply bL|apply bN|apply bM)<;>intro h<;>try simp at h))<;>(try exact cm));all_goals first
   |(have au:¬iC mJ nZ l i:=by(intro cd;have J:=cd b ab;have U:=J.2 c;have ao:=J.1;unfold mJ nZ at*;first|omega|(have a6:=U Ω ar;omega)|(simp_all;done)|(simp_all;omega))
     rw[cB au]
     simp[bk,Yj,aU,aW,aT]
     done)
   |(refine bP.rng () hi (dh fun b1 gk=>?_) ?_
     ·rw[ab]at gk;cases gk
      refine⟨?_,fun cq bE hy=>?_⟩
      ·unfold mJ;first|(simp_all;done)|(simp_all;omega)
      ·rw[ar]at hy;cases hy;unfold nZ;simp_all
     ·exact bT)
theorem Cd(a b:bs):bQ ax 132 [a.e,b.e] (.bool (h4 fp a b)):=by
 rw[<-Xr];have bA:ux a b=(decide (a.v<b.v)||(a.v==b.v&&hL a.s b.s)):=rfl;rcases Int.lt_trichotomy a.v b.v with h|h|h
 ·have:ux a b=true:=by rw[bA];simp[h]
  rw[this];refine bj kp K2 NL fun aR=>?_;unfold F4;exact cp
 ·have J:¬a.v<b.v:=Ω
  have U:(a.v==b.v)=true:=by simp[h]
  have:ux a b=hL a.s b.s:=by rw[bA];simp[h]
  rw[this];refine bj kp K2 NL fun aR=>?_;unfold F4;exact cp
 ·have J:¬a.v<b.v:=Ω
  have U:¬a.v=b.v:=Ω
  have ao:(a.v==b.v)=false:=by simp[U]
  have:ux a b=false:=by rw[bA];simp[J,U]
  rw[this];refine bj kp K2 NL fun aR=>?_;unfold F4;exact cp
open Classical in
theorem aah(l:List bs):bQ ax 57 [.slice 2 .no (l.map bs.e)] (.bool (decide (ji l))):=by
 generalize bA:decide (ji l)=R;refine bj kp aek alm fun aR=>?_;unfold Q0;have h1:l.length<=68719476736:=by simp[gI,fZ,gz,lim]at aR;omega
 simp;refine dT [0,5,6] (fun i (_:Unit)=>[(7,.int .i64 i)]) l.length (fun i _=> ∀j,j<i->iC kF k0 l j) () bT (fun k ae=>Ω) (fun _ af _=>?_) (fun i _ hi af _=>?_)
 ·have:R=true:=by rw[<-bA,en,H0];exact af
  rw[this];exact cp
 ·obtain⟨b,ab⟩:∃b,l[i]? =some b:=⟨_,bY hi⟩;obtain⟨c,ar⟩:∃c,l[i-1]? =some c:=⟨_,bY Ω⟩;have cD:∀h,(l[i]'h)=b:=fun h=>by rw[bY hi]at ab;exact eH ab
  have cB:¬iC kF k0 l i->R=false:=fun h=>by rw[<-bA,gn];exact fun cd=>h (H0.1 cd i hi)
  have dh:iC kF k0 l i->∀j,j<i+1->iC kF k0 l j:=fun h j jL=>by
   by_cases e:j=i
   ·rw[e];exact h
   ·exact af j Ω
  have e8:∀p:Prop,(p->eB)->(iC kF k0 l i->p)->R=false:=fun p J U=>cB fun h=>J (U h);have mA:iC kF k0 l i->kF b:=fun h=>(h b ab).1;have bz:iC kF k0 l i->0<i->h4 fp c b=true:=fun h bE=>by simpa[h4,k0]using(h b ab).2 c bE ar
  have eh:kF b->(0<i->h4 fp c b=true)->iC kF k0 l i:=fun J U b1 gk=>by rw[ab]at gk;cases gk;exact⟨J,fun cq bE hy=>by rw[ar]at hy;cases hy;simpa[h4,k0]using U bE⟩
  unfold kF at mA eh;by_cases g1:b.v<0
  ·rw[e8 _ (fun h=>Ω) (fun h=>(mA h).1.1)];exact cp
  by_cases g2:100000<b.v
  ·rw[e8 _ (fun h=>Ω) (fun h=>(mA h).1.2)];exact cp
  cases g3:ix b.s
  ·rw[e8 _ (fun h=>by rw[h]at g3;cases g3) (fun h=>(mA h).2)];simp[hi,cD,ar];(with_reducible repeat' first|refine aj ?_|refine aA (uK _) ?_|refine aB (uK _) ?_|simp[cD,ar,hi,g1,g2,g3]);simp[bk,N7,aU,aW,aT]
  by_cases g4:0<i
  ·cases g5:h4 fp c b
   ·rw[e8 _ (fun h=>by rw[h]at g5;cases g5) (fun h=>bz h g4)];simp[hi,cD,ar];(with_reducible repeat' first|refine aj ?_|refine aA (uK _) ?_|refine aB (uK _) ?_|refine aA (Cd _ _) ?_|refine aB (Cd _ _) ?_|simp[cD,ar,hi,g1,g2,g3,g4,g5]);simp[bk,N7,aU,aW,aT]
   ·simp[hi,cD,ar];(with_reducible repeat' first|refine aj ?_|refine aA (uK _) ?_|refine aB (uK _) ?_|refine aA (Cd _ _) ?_|refine aB (Cd _ _) ?_|simp[cD,ar,hi,g1,g2,g3,g4,g5]);exact bP.rng () hi (dh (eh ⟨⟨Ω,Ω⟩,g3⟩ fun _=>g5)) bT
  ·obtain rfl:i=0:=Ω
   simp[hi,cD,ar];(with_reducible repeat' first|refine aj ?_|refine aA (uK _) ?_|refine aB (uK _) ?_|simp[cD,ar,hi,g1,g2,g3,g4]);exact bP.rng () hi (dh (eh ⟨⟨Ω,Ω⟩,g3⟩ fun h=>Ω)) bT
theorem aau(s:List c0):∀t:T,bQ ax 109 [t.e,.str s] (.bool (t.has s)):=by
 intro t;induction t with
 |pair a b dJ dK=>
  refine bj kp K5 NO fun aR=>?_;unfold F7;simp;cases bm:a.has s<;>cases ab:b.has s<;>rw[bm]at dJ<;>rw[ab]at dK;all_goals(with_reducible repeat' first|refine aj ?_|refine aA dJ ?_|refine aB dJ ?_|refine aA dK ?_|refine aB dK ?_|simp)
  all_goals simp[bk,Iy,aU,aW,aT]
  all_goals simp[T.has,bm,ab]
 |sym n=>
  refine bj kp K5 NO fun aR=>?_;unfold F7;simp;(with_reducible repeat' first|refine aj ?_|simp);all_goals simp[bk,Iy,aU,aW,aT]
  all_goals simp[T.has]
 |_=>
  refine bj kp K5 NO fun aR=>?_;unfold F7;simp;(with_reducible repeat' first|refine aj ?_|simp);all_goals simp[bk,Iy,aU,aW,aT]
  all_goals simp[T.has]
end
section
open Go Go.Pv
variable {α:Type} [Inhabited α] {S:List α->cR} {n g cf:Nat} {lc b9:List ak} {lt:α->α->Bool}
theorem zT{d:Array α}{i:Nat}(h:i<d.size):d.toList[i]? =some d[i]!:=by simp[getElem!_pos,h]
theorem HZ(d:Array α){i j:Nat}(hi:i<d.size)(af:j<d.size):hA d.toList i j=(Sort.swp d i j).toList:=by simp[hA,Sort.swp,zT hi,zT af]
section
variable (H:fb S n g cf lc b9 lt)
include H
theorem fb.swapA{d:Array α}(J:d.size=n)(U:2<=n)(i j:Nat)(hi:i<n)(af:j<n){t:List (Nat×ak)}{D:List ak}{o:List aM}{cn:Option Nat}{K:br->Prop}
  (h:∀o,K ⟨eY cn (.tuple []) t,(.loc 0,D)::(S (Sort.swp d i j).toList).b,(S (Sort.swp d i j).toList).e,1,o⟩):cO ax cf (.int .i64 i:: .int .i64 j::b9) ⟨t,(.loc 0,D)::(S d.toList).b,(S d.toList).e,1,o⟩ cn K:=by
 refine H.doSwap (by simpa using J) i j hi af U ?_;rw[HZ d Ω Ω];exact h _
theorem fb.lessA{d:Array α}(J:d.size=n)(i j:Nat)(hi:i<n)(af:j<n){t:List (Nat×ak)}{D:List ak}{o:List aM}{cn:Option Nat}{K:br->Prop}
  (h:∀o,K ⟨eY cn (.bool (lt d[i]! d[j]!)) t,(.loc 0,D)::(S d.toList).b,(S d.toList).e,1,o⟩):cO ax g (.int .i64 i:: .int .i64 j::lc) ⟨t,(.loc 0,D)::(S d.toList).b,(S d.toList).e,1,o⟩ cn K:=
 H.doLess (by simpa using J) i j (zT Ω) (zT Ω) (h _)
theorem fb.fnA{d d2:Array α}(J:d.size=n)(U:d2.size=n){f:Nat}{args:List ak}{r:ak}(aQ:bI ax f args (S d.toList) fun eQ ah=>eQ=r/\ah=S d2.toList)(ae:aN (inObs (S d.toList)) args){t:List (Nat×ak)}{D:List ak}{o:List aM}{cn:Option Nat}{K:br->Prop}
  (h:∀o,K ⟨eY cn r t,(.loc 0,D)::(S d2.toList).b,(S d2.toList).e,1,o⟩):cO ax f args ⟨t,(.loc 0,D)::(S d.toList).b,(S d.toList).e,1,o⟩ cn K:=
 H.call (by simpa using J) (R:=fun eQ a8=>eQ=r/\a8=d2.toList) (aQ.mono fun r ah ⟨aq,aG⟩=>⟨_,aG,aq,rfl⟩) (fun r a8 ⟨_,e⟩=>by rw[e];simpa using U) ae (by rintro eQ a8 ⟨rfl,rfl⟩;exact h _)
end
section
variable (H:fb S n g cf lc b9 lt)
include H
theorem fb.loopA{β:Type}{yT:List α}(av:yT.length=n){t:List (Nat×ak)}{b:List (aM×List ak)}{e:List (aM×fQ)}{q:Nat}{o:List aM}(ch:List Nat)(cs:β->List (Nat×ak))(A:β->Array α)(μ:β->Nat)(hg:β->Prop)(a0:β)(bg:(A a0).size=n)(bE:hg a0)
  (sA:Pv.look (.loc 0) b=some [.func g lc,.func cf b9]) (ab:∀k cs,Pv.look k (S (A a0).toList).b=some cs->Pv.look k b=some cs) (he:∀k o,Pv.look k (S (A a0).toList).e=some o->Pv.look k e=some o)
  (aH:∀x∈vA t ch++cs a0,Pv.get x.1 t=x.2/\aJ (mK (S (A a0).toList) 1) x.2) {c:C} {Q:Exit->br->Prop}
  (ag:∀a,hg a->c5 ax (c3 (S yT)) c (bP (c3 (S yT)) (Cn (fun a=>⟨vA t ch++cs a,(.loc 0,[.func g lc,.func cf b9])::(S (A a).toList).b,(S (A a).toList).e,1,c3 (S yT)⟩) μ hg) (μ a) Q) ⟨vA t ch++cs a,(.loc 0,[.func g lc,.func cf b9])::(S (A a).toList).b,(S (A a).toList).e,1,c3 (S yT)⟩):
  c5 ax (c3 (S yT)) (.loop c) Q ⟨t,b,e,q,o⟩:=
 pd (fun a=>⟨vA t ch++cs a,(.loc 0,[.func g lc,.func cf b9])::(S (A a).toList).b,(S (A a).toList).e,1,c3 (S yT)⟩) μ hg a0 (H.weak av (by simpa using bg) aH sA ab he) bE fun a af _=>ag a af
theorem fb.callA0{lk:List α}(J:lk.length=n){f:Nat}{args:List ak}{R:ak->List α->Prop}(aQ:bI ax f args (S lk) fun r ah=> ∃a8,ah=S a8/\R r a8)(bA:∀r a8,R r a8->a8.length=n)(ae:aN (inObs (S lk)) args){t:List (Nat×ak)}{D:List ak}{o:List aM}{d:Option Nat}{K:br->Prop}
  (h:∀r a8,R r a8->∀o,K ⟨eY d r t,(.loc 0,D)::(S a8).b,(S a8).e,1,o⟩):cO ax f args ⟨t,(S lk).b++[(.loc 0,D)],(S lk).e,1,o⟩ d K:=by
 refine cO.ob aQ (H.ok lk) (fun k cs ad=>by rw[cS,ad]) (fun _ _ ad=>ad) ae ?_;rintro r ah ⟨a8,rfl,aK⟩;refine⟨H.same _ _ J (bA _ _ aK),?_⟩;have aq:cb (S lk).b ((S lk).b++[(.loc 0,D)])=[(.loc 0,D)]:=by rw[iW,hr];simp[cb,H.loc]
 have aG:cb (S lk).e (S lk).e=[]:=hr _;have:=h _ _ aK (o++c3 (S a8));simp only[aq,aG];exact this
theorem fb.swapA0{d:Array α}(J:d.size=n)(U:2<=n)(i j:Nat)(hi:i<n)(af:j<n){t:List (Nat×ak)}{D:List ak}{o:List aM}{cn:Option Nat}{K:br->Prop}
  (h:∀o,K ⟨eY cn (.tuple []) t,(.loc 0,D)::(S (Sort.swp d i j).toList).b,(S (Sort.swp d i j).toList).e,1,o⟩):cO ax cf (.int .i64 i:: .int .i64 j::b9) ⟨t,(S d.toList).b++[(.loc 0,D)],(S d.toList).e,1,o⟩ cn K:=by
 refine H.callA0 (by simpa using J) (R:=fun r a8=>r= .tuple []/\a8=(Sort.swp d i j).toList) ((H.swap d.toList (by simpa using J) U i j hi af).mono fun r ah ⟨aq,aG⟩=>⟨_,aG,aq,HZ d Ω Ω⟩) (fun r a8 ⟨_,e⟩=>by rw[e];simp[Sort.swp,J]) (by simp[aJ,aN,H.ksc d.toList (by simpa using J)]) ?_;rintro r a8 ⟨rfl,rfl⟩ o;exact h o
theorem fb.retA{l:List α}{d:Array α}(av:l.length=n)(J:d.size=n){Q:ak->cR->Prop}{e:Exit}(he:e= .ret\/e= .normal){t:List (Nat×ak)}{D:List ak}{q:Nat}{o:List aM}(bt:Q (.tuple []) (S d.toList)):cP [] (S l) Q e ⟨t,(.loc 0,D)::(S d.toList).b,(S d.toList).e,q,o⟩:=H.ret av (by simpa using J) he bt
theorem fb.retR{eM:List bW}{l:List α}{d:Array α}(av:l.length=n)(J:d.size=n){Q:ak->cR->Prop}{e:Exit}(he:e= .ret\/e= .normal){t:List (Nat×ak)}{D:List ak}{q:Nat}{o:List aM}(h:cW ⟨t,(.loc 0,D)::(S d.toList).b,(S d.toList).e,q,o⟩ eM fun r=>aJ (inObs (S d.toList)) r/\Q r (S d.toList)):cP eM (S l) Q e ⟨t,(.loc 0,D)::(S d.toList).b,(S d.toList).e,q,o⟩:=by
 refine cP.at (S d.toList) he (H.ok _) (H.same _ _ av (by simpa using J)) (fun k cs ad=>?_) (fun _ _ ad=>ad) h;cases k with
 |loc m=>rw[H.loc m]at ad;cases ad
 |obj m=>simpa[Pv.look]using ad
end
theorem hd(d:Array α)(i j:Nat):(Sort.swp d i j).size=d.size:=by simp[Sort.swp]
end
section
open Go Go.Pv
def RI:C:=(aa [b6 2 0] (.seq (.cond (.c (.bool false)) (aa [I 3 0,b2 4 (.conv .u32 (.t 3)),cG 5 258 4,I 2 5] .ret) .skip) (aa [I 6 0,cG 7 259 6,I 2 7] .ret)))
@[simp] def anZ:List bW:=[.tmp 2]
def Ko:C:=(aa [aV 91 2 4,I 92 1,I 93 2,I 94 11,c2 95 267 [.t 91,.t 92,.t 93,.t 94],I 90 95,cj 96 0 90,cj 97 1 90,I 14 96,I 15 97] (aa [I 98 15,I 9 98] (aa [I 99 14,I 100 1,bq 101 .sub 99 100,I 102 2,I 103 14,bq 104 .sub 102 103,I 16 101,I 17 104] (aa [I 105 10,aS 106 .quo 105 8,I 18 106] (aa [I 107 16,I 108 17,bq 109 .lss 107 108] (aZ 109 (aa [I 110 16,I 111 18,bq 112 .geq 110 111,I 8 112] (aa [aV 113 2 4,I 114 1,I 115 14,I 116 3,c2 117 210 [.t 113,.t 114,.t 115,.t 116]] (.region [I 118 14,aS 119 .add 118 1,I 1 119]))) (aa [I 120 17,I 121 18,bq 122 .geq 120 121,I 8 122] (aa [aV 123 2 4,I 124 14,aS 125 .add 124 1,I 126 2,I 127 3,c2 128 210 [.t 123,.t 125,.t 126,.t 127]] (.region [I 129 14,I 2 129])))))))))
def CF:C:=(.seq (aa [I 73 1,aS 74 .gtr 73 0,I 75 74,al 75 true (aI 76 0 1 4),al 75 true (az 77 1 76),bO 75 true 78 1,al 75 true (aS 79 .sub 78 1),bO 75 true 80 11,al 75 true (gY 81 77 [.t 79,.t 80]),al 75 true (cx 82 81),de 83 75 82] (aZ 83 (aa [aV 84 2 4,I 85 1,I 86 2,I 87 11,c2 88 266 [.t 84,.t 85,.t 86,.t 87],I 13 88] (aa [I 89 13,I 1 89] (.exit 1))) .skip)) Ko)
def Kp:C:=(.seq (aa [I 61 8,I 62 61,bO 62 true 63 9,de 64 62 63,I 65 64,bO 65 true 66 12,al 65 true (aS 67 .eql 66 1),de 68 65 67] (aZ 68 (aa [aV 69 2 4,I 70 1,I 71 2,c2 72 265 [.t 69,.t 70,.t 71]] (aZ 72 .ret .skip)) .skip)) CF)
def Kq:C:=(aa [aV 43 2 4,I 44 1,I 45 2,c2 46 263 [.t 43,.t 44,.t 45],I 42 46,cj 47 0 42,cj 48 1 42,I 11 47,I 12 48] (.seq (aa [I 49 12,aS 50 .eql 49 2] (aZ 50 (aa [aV 51 2 4,I 52 1,I 53 2,c2 54 264 [.t 51,.t 52,.t 53]] (aa [I 55 2,aS 56 .sub 55 1,I 57 11,I 58 1,bq 59 .sub 57 58,bq 60 .sub 56 59,I 11 60] (.region [b6 12 1]))) .skip)) Kp))
def RV:C:=(aa [cU 4 0] (aa [bh 8 true] (aa [bh 9 true] (.block 0 (.loop (.block 1 (aa [I 19 2,I 20 1,bq 21 .sub 19 20,I 10 21] (.seq (aa [I 22 10,aS 23 .leq 22 12] (aZ 23 (aa [aV 24 2 4,I 25 1,I 26 2,c2 27 260 [.t 24,.t 25,.t 26]] .ret) .skip)) (.seq (aa [I 28 3,aS 29 .eql 28 0] (aZ 29 (aa [aV 30 2 4,I 31 1,I 32 2,c2 33 261 [.t 30,.t 31,.t 32]] .ret) .skip)) (.seq (aa [I 34 8,cx 35 34] (aZ 35 (aa [aV 36 2 4,I 37 1,I 38 2,c2 39 262 [.t 36,.t 37,.t 38]] (.region [I 40 3,aS 41 .sub 40 1,I 3 41])) .skip)) Kq))))))))))
@[simp] def YN:List bW:=[]
def RJ:C:=(aa [b6 2 0] (.seq (aa [I 3 0,b2 4 (.bin .geq false (.t 3) (.c (.int .u64 4294967296)))] (aZ 4 (aa [I 5 0,b2 6 (.bin .shr false (.t 5) (.c (.int .u64 32))),I 0 6] (.region [b6 2 32])) .skip)) (.seq (aa [I 7 0,b2 8 (.bin .geq false (.t 7) (.c (.int .u64 65536)))] (aZ 8 (aa [I 9 0,b2 10 (.bin .shr false (.t 9) (.c (.int .u64 16))),I 0 10] (.region [I 11 2,aS 12 .add 11 16,I 2 12])) .skip)) (.seq (aa [I 13 0,b2 14 (.bin .geq false (.t 13) (.c (.int .u64 256)))] (aZ 14 (aa [I 15 0,b2 16 (.bin .shr false (.t 15) (.c (.int .u64 8))),I 0 16] (.region [I 17 2,aS 18 .add 17 8,I 2 18])) .skip)) (aa [I 19 2,I 20 0,b2 21 (.conv .u8 (.t 20)),b2 22 (.sidx (.c (.str [0,1,2,2,3,3,3,3,4,4,4,4,4,4,4,4,5,5,5,5,5,5,5,5,5,5,5,5,5,5,5,5,6,6,6,6,6,6,6,6,6,6,6,6,6,6,6,6,6,6,6,6,6,6,6,6,6,6,6,6,6,6,6,6,7,7,7,7,7,7,7,7,7,7,7,7,7,7,7,7,7,7,7,7,7,7,7,7,7,7,7,7,7,7,7,7,7,7,7,7,7,7,7,7,7,7,7,7,7,7,7,7,7,7,7,7,7,7,7,7,7,7,7,7,7,7,7,7,8,8,8,8,8,8,8,8,8,8,8,8,8,8,8,8,8,8,8,8,8,8,8,8,8,8,8,8,8,8,8,8,8,8,8,8,8,8,8,8,8,8,8,8,8,8,8,8,8,8,8,8,8,8,8,8,8,8,8,8,8,8,8,8,8,8,8,8,8,8,8,8,8,8,8,8,8,8,8,8,8,8,8,8,8,8,8,8,8,8,8,8,8,8,8,8,8,8,8,8,8,8,8,8,8,8,8,8,8,8,8,8,8,8,8,8,8,8,8,8,8,8,8,8,8,8,8,8])) (.t 21)),b2 23 (.conv .i64 (.t 22)),bq 24 .add 19 23,I 2 24] .ret)))))
@[simp] def BL:List bW:=[.tmp 2]
def RN:C:=(aa [cU 3 0] (aa [I 11 1,I 6 11] (aa [b6 7 0] (aa [I 12 2,I 13 1,bq 14 .sub 12 13,I 8 14] (.seq (aa [I 15 8,aS 16 .sub 15 1,aS 17 .quo 16 2,I 9 17] (.block 0 (.loop (.seq (aa [I 18 9,aS 19 .geq 18 0] (aZ 19 .skip (.exit 0))) (.seq (.block 1 (.region [aV 22 2 3,I 23 9,I 24 8,I 25 6,c2 26 278 [.t 22,.t 23,.t 24,.t 25]])) (.region [I 20 9,aS 21 .sub 20 1,I 9 21])))))) (aa [I 27 8,aS 28 .sub 27 1,I 10 28] (.block 2 (.loop (.seq (aa [I 29 10,aS 30 .geq 29 0] (aZ 30 .skip (.exit 2))) (.seq (.block 3 (aa [aI 33 1 1 3,az 34 1 33,I 35 6,I 36 6,I 37 10,bq 38 .add 36 37,gY 39 34 [.t 35,.t 38]] (.region [aV 40 2 3,I 41 7,I 42 10,I 43 6,c2 44 278 [.t 40,.t 41,.t 42,.t 43]]))) (.region [I 31 10,aS 32 .sub 31 1,I 10 32])))))))))))
@[simp] def an0:List bW:=[]
def RL:C:=(aa [cU 3 0] (aa [I 11 2,I 12 1,bq 13 .sub 11 12,I 6 13] (aa [I 14 6,aS 15 .geq 14 8] (aZ 15 (aa [I 16 6,b2 17 (.conv .u64 (.t 16)),cX (.alloc 7 (some 902) (.int .u64 0)),bu 1 7 17] (aa [I 18 6,cG 19 279 18,I 8 19] (aa [I 20 1,I 21 6,aS 22 .quo 21 4,aS 23 .mul 22 2,bq 24 .add 20 23,aS 25 .sub 24 1,I 9 25] (.block 0 (.loop (.seq (aa [I 26 9,I 27 1,I 28 6,aS 29 .quo 28 4,aS 30 .mul 29 2,bq 31 .add 27 30,aS 32 .add 31 1,bq 33 .leq 26 32] (aZ 33 .skip (.exit 0))) (.seq (.block 1 (aa [cG 36 280 7,I 37 8,b2 38 (.bin .sub true (.t 37) (.c (.int .u64 1))),bq 39 .and 36 38,b2 40 (.conv .i64 (.t 39)),I 10 40] (.seq (aa [I 41 10,I 42 6,bq 43 .geq 41 42] (aZ 43 (.region [I 44 10,I 45 6,bq 46 .sub 44 45,I 10 46]) .skip)) (.region [aI 47 1 1 3,az 48 1 47,I 49 9,I 50 1,I 51 10,bq 52 .add 50 51,gY 53 48 [.t 49,.t 52]])))) (.region [I 34 9,aS 35 .add 34 1,I 9 35])))))))) .skip))))
@[simp] def YJ:List bW:=[]
def RM:C:=(aa [cU 3 0,b6 6 0,b6 7 0] (aa [I 13 2,I 14 1,bq 15 .sub 13 14,I 8 15] (aa [cX (.alloc 9 (some 901) (.int .i64 0))] (aa [I 16 1,I 17 8,aS 18 .quo 17 4,aS 19 .mul 18 1,bq 20 .add 16 19,I 10 20] (aa [I 21 1,I 22 8,aS 23 .quo 22 4,aS 24 .mul 23 2,bq 25 .add 21 24,I 11 25] (aa [I 26 1,I 27 8,aS 28 .quo 27 4,aS 29 .mul 28 3,bq 30 .add 26 29,I 12 30] (.seq (aa [I 31 8,aS 32 .geq 31 8] (aZ 32 (.seq (aa [I 33 8,aS 34 .geq 33 50] (aZ 34 (aa [aV 35 2 3,I 36 10,c2 37 281 [.t 35,.t 36,.t 9],I 10 37] (aa [aV 38 2 3,I 39 11,c2 40 281 [.t 38,.t 39,.t 9],I 11 40] (.region [aV 41 2 3,I 42 12,c2 43 281 [.t 41,.t 42,.t 9],I 12 43]))) .skip)) (.region [aV 44 2 3,I 45 10,I 46 11,I 47 12,c2 48 282 [.t 44,.t 45,.t 46,.t 47,.t 9],I 11 48])) .skip)) (aa [az 49 1 9] (.block 0 (aa [aS 52 .eql 49 0,I 51 52] (aZ 51 (aa [I 53 11,I 6 53,b6 7 1] .ret) (aa [aS 55 .eql 49 12,I 54 55] (aZ 54 (aa [I 56 11,I 6 56,b6 7 2] .ret) (aa [I 50 11,I 6 50,b6 7 0] .ret))))))))))))))
@[simp] def Oi:List bW:=[.tmp 6,.tmp 7]
def RW:C:=(aa [cU 3 0] (aa [I 8 1,I 6 8] (aa [I 9 2,aS 10 .sub 9 1,I 7 10] (.block 0 (.loop (.seq (aa [I 11 6,I 12 7,bq 13 .lss 11 12] (aZ 13 .skip (.exit 0))) (.block 1 (aa [aI 14 1 1 3,az 15 1 14,I 16 6,I 17 7,gY 18 15 [.t 16,.t 17]] (aa [I 19 6,aS 20 .add 19 1,I 6 20] (.region [I 21 7,aS 22 .sub 21 1,I 7 22]))))))))))
@[simp] def an2:List bW:=[]
def RS:C:=(aa [cU 3 0,bh 6 false] (aa [I 11 1,aS 12 .add 11 1,I 7 12] (.seq (aa [b6 8 0] (.block 0 (.loop (.seq (aa [I 13 8,aS 14 .lss 13 5] (aZ 14 .skip (.exit 0))) (.seq (.block 1 (.seq (.block 2 (.loop (.seq (aa [I 17 7,I 18 2,bq 19 .lss 17 18,I 20 19,al 20 true (aI 21 0 1 3),al 20 true (az 22 1 21),bO 20 true 23 7,bO 20 true 24 7,al 20 true (aS 25 .sub 24 1),al 20 true (gY 26 22 [.t 23,.t 25]),al 20 true (cx 27 26),de 28 20 27] (aZ 28 .skip (.exit 2))) (.block 3 (.region [I 29 7,aS 30 .add 29 1,I 7 30]))))) (.seq (aa [I 31 7,I 32 2,bq 33 .eql 31 32] (aZ 33 (aa [bh 6 true] .ret) .skip)) (.seq (aa [I 34 2,I 35 1,bq 36 .sub 34 35,aS 37 .lss 36 50] (aZ 37 (aa [bh 6 false] .ret) .skip)) (aa [aI 38 1 1 3,az 39 1 38,I 40 7,I 41 7,aS 42 .sub 41 1,gY 43 39 [.t 40,.t 42]] (.seq (aa [I 44 7,I 45 1,bq 46 .sub 44 45,aS 47 .geq 46 2] (aZ 47 (aa [I 48 7,aS 49 .sub 48 1,I 9 49] (.block 4 (.loop (.seq (aa [I 50 9,aS 51 .geq 50 1] (aZ 51 .skip (.exit 4))) (.seq (.block 5 (.seq (aa [aI 54 0 1 3,az 55 1 54,I 56 9,I 57 9,aS 58 .sub 57 1,gY 59 55 [.t 56,.t 58],cx 60 59] (aZ 60 (.exit 4) .skip)) (.region [aI 61 1 1 3,az 62 1 61,I 63 9,I 64 9,aS 65 .sub 64 1,gY 66 62 [.t 63,.t 65]]))) (.region [I 52 9,aS 53 .sub 52 1,I 9 53])))))) .skip)) (aa [I 67 2,I 68 7,bq 69 .sub 67 68,aS 70 .geq 69 2] (aZ 70 (aa [I 71 7,aS 72 .add 71 1,I 10 72] (.block 6 (.loop (.seq (aa [I 73 10,I 74 2,bq 75 .lss 73 74] (aZ 75 .skip (.exit 6))) (.seq (.block 7 (.seq (aa [aI 78 0 1 3,az 79 1 78,I 80 10,I 81 10,aS 82 .sub 81 1,gY 83 79 [.t 80,.t 82],cx 84 83] (aZ 84 (.exit 6) .skip)) (.region [aI 85 1 1 3,az 86 1 85,I 87 10,I 88 10,aS 89 .sub 88 1,gY 90 86 [.t 87,.t 89]]))) (.region [I 76 10,aS 77 .add 76 1,I 10 77])))))) .skip)))))))) (.region [I 15 8,aS 16 .add 15 1,I 8 16])))))) (aa [bh 6 false] .ret))))
@[simp] def IE:List bW:=[.tmp 6]
def RT:C:=(aa [cU 4 0,b6 8 0] (aa [aI 11 1 1 4,az 12 1 11,I 13 1,I 14 3,gY 15 12 [.t 13,.t 14]] (aa [I 16 1,aS 17 .add 16 1,I 18 2,aS 19 .sub 18 1,I 9 17,I 10 19] (.seq (.block 0 (.loop (.block 1 (.seq (.block 2 (.loop (.seq (aa [I 20 9,I 21 10,bq 22 .leq 20 21,I 23 22,al 23 true (aI 24 0 1 4),al 23 true (az 25 1 24),bO 23 true 26 1,bO 23 true 27 9,al 23 true (gY 28 25 [.t 26,.t 27]),al 23 true (cx 29 28),de 30 23 29] (aZ 30 .skip (.exit 2))) (.block 3 (.region [I 31 9,aS 32 .add 31 1,I 9 32]))))) (.seq (.block 4 (.loop (.seq (aa [I 33 9,I 34 10,bq 35 .leq 33 34,I 36 35,al 36 true (aI 37 0 1 4),al 36 true (az 38 1 37),bO 36 true 39 1,bO 36 true 40 10,al 36 true (gY 41 38 [.t 39,.t 40]),de 42 36 41] (aZ 42 .skip (.exit 4))) (.block 5 (.region [I 43 10,aS 44 .sub 43 1,I 10 44]))))) (.seq (aa [I 45 9,I 46 10,bq 47 .gtr 45 46] (aZ 47 (.exit 0) .skip)) (aa [aI 48 1 1 4,az 49 1 48,I 50 9,I 51 10,gY 52 49 [.t 50,.t 51]] (aa [I 53 9,aS 54 .add 53 1,I 9 54] (.region [I 55 10,aS 56 .sub 55 1,I 10 56]))))))))) (aa [I 57 9,I 8 57] .ret)))))
@[simp] def Ol:List bW:=[.tmp 8]
def RU:C:=(aa [cU 4 0,b6 8 0,bh 9 false] (aa [aI 12 1 1 4,az 13 1 12,I 14 1,I 15 3,gY 16 13 [.t 14,.t 15]] (aa [I 17 1,aS 18 .add 17 1,I 19 2,aS 20 .sub 19 1,I 10 18,I 11 20] (.seq (.block 0 (.loop (.seq (aa [I 21 10,I 22 11,bq 23 .leq 21 22,I 24 23,al 24 true (aI 25 0 1 4),al 24 true (az 26 1 25),bO 24 true 27 10,bO 24 true 28 1,al 24 true (gY 29 26 [.t 27,.t 28]),de 30 24 29] (aZ 30 .skip (.exit 0))) (.block 1 (.region [I 31 10,aS 32 .add 31 1,I 10 32]))))) (.seq (.block 2 (.loop (.seq (aa [I 33 10,I 34 11,bq 35 .leq 33 34,I 36 35,al 36 true (aI 37 0 1 4),al 36 true (az 38 1 37),bO 36 true 39 11,bO 36 true 40 1,al 36 true (gY 41 38 [.t 39,.t 40]),al 36 true (cx 42 41),de 43 36 42] (aZ 43 .skip (.exit 2))) (.block 3 (.region [I 44 11,aS 45 .sub 44 1,I 11 45]))))) (.seq (aa [I 46 10,I 47 11,bq 48 .gtr 46 47] (aZ 48 (aa [aI 49 1 1 4,az 50 1 49,I 51 11,I 52 1,gY 53 50 [.t 51,.t 52]] (aa [I 54 11,I 8 54,bh 9 true] .ret)) .skip)) (aa [aI 55 1 1 4,az 56 1 55,I 57 10,I 58 11,gY 59 56 [.t 57,.t 58]] (aa [I 60 10,aS 61 .add 60 1,I 10 61] (aa [I 62 11,aS 63 .sub 62 1,I 11 63] (.seq (.block 4 (.loop (.block 5 (.seq (.block 6 (.loop (.seq (aa [I 64 10,I 65 11,bq 66 .leq 64 65,I 67 66,al 67 true (aI 68 0 1 4),al 67 true (az 69 1 68),bO 67 true 70 10,bO 67 true 71 1,al 67 true (gY 72 69 [.t 70,.t 71]),de 73 67 72] (aZ 73 .skip (.exit 6))) (.block 7 (.region [I 74 10,aS 75 .add 74 1,I 10 75]))))) (.seq (.block 8 (.loop (.seq (aa [I 76 10,I 77 11,bq 78 .leq 76 77,I 79 78,al 79 true (aI 80 0 1 4),al 79 true (az 81 1 80),bO 79 true 82 11,bO 79 true 83 1,al 79 true (gY 84 81 [.t 82,.t 83]),al 79 true (cx 85 84),de 86 79 85] (aZ 86 .skip (.exit 8))) (.block 9 (.region [I 87 11,aS 88 .sub 87 1,I 11 88]))))) (.seq (aa [I 89 10,I 90 11,bq 91 .gtr 89 90] (aZ 91 (.exit 4) .skip)) (aa [aI 92 1 1 4,az 93 1 92,I 94 10,I 95 11,gY 96 93 [.t 94,.t 95]] (aa [I 97 10,aS 98 .add 97 1,I 10 98] (.region [I 99 11,aS 100 .sub 99 1,I 11 100]))))))))) (aa [aI 101 1 1 4,az 102 1 101,I 103 11,I 104 1,gY 105 102 [.t 103,.t 104]] (aa [I 106 11,I 8 106,bh 9 false] .ret))))))))))))
@[simp] def EI:List bW:=[.tmp 8,.tmp 9]
def RY:C:=(aa [cU 4 0] (aa [I 10 1,I 8 10] (.block 0 (.loop (.block 1 (aa [I 11 8,b2 12 (.bin .mul false (dS 2) (.t 11)),aS 13 .add 12 1,I 9 13] (.seq (aa [I 14 9,I 15 2,bq 16 .geq 14 15] (aZ 16 (.exit 0) .skip)) (.seq (aa [I 17 9,aS 18 .add 17 1,I 19 2,bq 20 .lss 18 19,I 21 20,al 21 true (aI 22 0 1 4),al 21 true (az 23 1 22),bO 21 true 24 3,bO 21 true 25 9,al 21 true (bq 26 .add 24 25),bO 21 true 27 3,bO 21 true 28 9,al 21 true (bq 29 .add 27 28),al 21 true (aS 30 .add 29 1),al 21 true (gY 31 23 [.t 26,.t 30]),de 32 21 31] (aZ 32 (.region [I 33 9,aS 34 .add 33 1,I 9 34]) .skip)) (.seq (aa [aI 35 0 1 4,az 36 1 35,I 37 3,I 38 8,bq 39 .add 37 38,I 40 3,I 41 9,bq 42 .add 40 41,gY 43 36 [.t 39,.t 42],cx 44 43] (aZ 44 .ret .skip)) (aa [aI 45 1 1 4,az 46 1 45,I 47 3,I 48 8,bq 49 .add 47 48,I 50 3,I 51 9,bq 52 .add 50 51,gY 53 46 [.t 49,.t 52]] (.region [I 54 9,I 8 54])))))))))))
@[simp] def an4:List bW:=[]
def RQ:C:=(aa [b2 2 (.mov (.c (.int .u64 0)))] (aa [I 4 0,b2 5 (.conv .u64 (.t 4)),cG 6 209 5,b2 7 (.conv .u64 (.t 6)),I 3 7] (aa [I 8 3,b2 9 (.bin .shl false (.c (.int .u64 1)) (.t 8)),I 2 9] .ret)))
@[simp] def YM:List bW:=[.tmp 2]
def R4:C:=(aa [b2 2 (.mov (.c (.int .u64 0)))] (.seq (.drawn true 33 [I 3 0,eO 4 3,az 5 1 4,I 6 0,eO 7 6,az 8 1 7,b2 9 (.bin .shl false (.t 8) (.c (.int .u64 13))),bq 10 .xor 5 9,eO 11 3,bu 1 11 10]) (.seq (.drawn true 33 [I 12 0,eO 13 12,az 14 1 13,I 15 0,eO 16 15,az 17 1 16,b2 18 (.bin .shr false (.t 17) (.c (.int .u64 7))),bq 19 .xor 14 18,eO 20 12,bu 1 20 19]) (.seq (.drawn true 33 [I 21 0,eO 22 21,az 23 1 22,I 24 0,eO 25 24,az 26 1 25,b2 27 (.bin .shl false (.t 26) (.c (.int .u64 17))),bq 28 .xor 23 27,eO 29 21,bu 1 29 28]) (aa [I 30 0,eO 31 30,az 32 1 31,I 2 32] .ret)))))
@[simp] def YP:List bW:=[.tmp 2]
def RO:C:=(aa [cU 3 0,b6 6 0] (aa [aV 7 2 3,I 8 1,aS 9 .sub 8 1,I 10 1,I 11 1,aS 12 .add 11 1,I 13 2,c2 14 282 [.t 7,.t 9,.t 10,.t 12,.t 13],I 6 14] .ret))
@[simp] def YK:List bW:=[.tmp 6]
def RP:C:=(aa [cU 5 0,b6 10 0] (aa [aV 12 2 5,I 13 1,I 14 2,I 15 4,c2 16 285 [.t 12,.t 13,.t 14,.t 15],I 11 16,cj 17 0 11,cj 18 1 11,I 1 17,I 2 18] (aa [aV 20 2 5,I 21 2,I 22 3,I 23 4,c2 24 285 [.t 20,.t 21,.t 22,.t 23],I 19 24,cj 25 0 19,cj 26 1 19,I 2 25,I 3 26] (aa [aV 28 2 5,I 29 1,I 30 2,I 31 4,c2 32 285 [.t 28,.t 29,.t 30,.t 31],I 27 32,cj 33 0 27,cj 34 1 27,I 1 33,I 2 34] (aa [I 35 2,I 10 35] .ret)))))
@[simp] def YL:List bW:=[.tmp 10]
def RR:C:=(aa [cU 4 0,b6 8 0,b6 9 0] (.seq (aa [aI 10 0 1 4,az 11 1 10,I 12 2,I 13 1,gY 14 11 [.t 12,.t 13]] (aZ 14 (aa [I 15 3,eO 16 15,az 17 1 16,aS 18 .add 17 1,eO 19 15,bu 1 19 18] (aa [I 20 2,I 21 1,I 8 20,I 9 21] .ret)) .skip)) (aa [I 22 1,I 23 2,I 8 22,I 9 23] .ret)))
@[simp] def Oj:List bW:=[.tmp 8,.tmp 9]
def od:List (Nat×dB):=[
 (3,⟨1,8,.int .i64,.int .i64 0⟩),
 (5,⟨1,1,.int .u8,.int .u8 0⟩),
 (9,⟨1,16,.str,.str []⟩),
 (160,⟨1,8,.other,.junk⟩),
 (163,⟨1,8,.int .u64,.int .u64 0⟩),
 (216,⟨1,8,.other,.junk⟩),
 (222,⟨2,16,.struct [(0,160),(1,216)],.agg [.junk,.junk]⟩),
 (254,⟨1,4,.int .u32,.int .u32 0⟩),
 (256,⟨1,8,.int .u64,.int .u64 0⟩),
 (265,⟨1,8,.int .u64,.int .u64 0⟩)]
theorem oS:fM ax od=true:=by kernel_rfl
theorem al4:b3 od RI anZ 1 Tryz.f209=true:=by kernel_rfl
theorem ae1:ax.funcs[(209:Nat)]? =some Tryz.f209:=Tryz.func209
theorem ami:b3 od RV YN 4 Tryz.f210=true:=by kernel_rfl
theorem afe:ax.funcs[(210:Nat)]? =some Tryz.f210:=Tryz.func210
theorem al5:b3 od RJ BL 1 Tryz.f259=true:=by kernel_rfl
theorem ae2:ax.funcs[(259:Nat)]? =some Tryz.f259:=Tryz.func259
theorem ama:b3 od RN an0 3 Tryz.f261=true:=by kernel_rfl
theorem ae6:ax.funcs[(261:Nat)]? =some Tryz.f261:=Tryz.func261
theorem al8:b3 od RL YJ 3 Tryz.f262=true:=by kernel_rfl
theorem ae4:ax.funcs[(262:Nat)]? =some Tryz.f262:=Tryz.func262
theorem al9:b3 od RM Oi 3 Tryz.f263=true:=by kernel_rfl
theorem ae5:ax.funcs[(263:Nat)]? =some Tryz.f263:=Tryz.func263
theorem amj:b3 od RW an2 3 Tryz.f264=true:=by kernel_rfl
theorem aff:ax.funcs[(264:Nat)]? =some Tryz.f264:=Tryz.func264
theorem amf:b3 od RS IE 3 Tryz.f265=true:=by kernel_rfl
theorem afb:ax.funcs[(265:Nat)]? =some Tryz.f265:=Tryz.func265
theorem amg:b3 od RT Ol 4 Tryz.f266=true:=by kernel_rfl
theorem afc:ax.funcs[(266:Nat)]? =some Tryz.f266:=Tryz.func266
theorem amh:b3 od RU EI 4 Tryz.f267=true:=by kernel_rfl
theorem afd:ax.funcs[(267:Nat)]? =some Tryz.f267:=Tryz.func267
theorem aml:b3 od RY an4 4 Tryz.f278=true:=by kernel_rfl
theorem afh:ax.funcs[(278:Nat)]? =some Tryz.f278:=Tryz.func278
theorem amd:b3 od RQ YM 1 Tryz.f279=true:=by kernel_rfl
theorem ae9:ax.funcs[(279:Nat)]? =some Tryz.f279:=Tryz.func279
theorem amp:b3 od R4 YP 1 Tryz.f280=true:=by kernel_rfl
theorem afl:ax.funcs[(280:Nat)]? =some Tryz.f280:=Tryz.func280
theorem amb:b3 od RO YK 3 Tryz.f281=true:=by kernel_rfl
theorem ae7:ax.funcs[(281:Nat)]? =some Tryz.f281:=Tryz.func281
theorem amc:b3 od RP YL 5 Tryz.f282=true:=by kernel_rfl
theorem ae8:ax.funcs[(282:Nat)]? =some Tryz.f282:=Tryz.func282
theorem ame:b3 od RR Oj 4 Tryz.f285=true:=by kernel_rfl
theorem afa:ax.funcs[(285:Nat)]? =some Tryz.f285:=Tryz.func285
end
section
open Go Go.Pv
variable {α:Type} [Inhabited α] {S:List α->cR} {n g cf:Nat} {lc b9:List ak} {lt:α->α->Bool}
theorem Ui(H:fb S n g cf lc b9 lt)(d:Array α)(aF:d.size=n)(lo hi first:Nat)(J:first+hi<=n)(U:2<=n)(ao:lo<=n):
  bI ax 278 [e3 g cf lc b9,.int .i64 lo,.int .i64 hi,.int .i64 first] (S d.toList) fun r ah=>r= .tuple []/\∃cn,ah=S cn.toList/\cn=Sort.siftDown lt hi first lo d/\cn.size=n:=by
 have ag:=H.ok d.toList;have av:d.toList.length=n:=by simpa using aF
 have au:∀l m,Pv.look (.loc m) (S l).b=none:=fun l=>(H.ok l).obj.1;have hu:∀l m cs,cF (.loc m) cs (S l).b=(S l).b++[(.loc m,cs)]:=fun l m cs=>kr (au l m);have aw:∀m,aM.loc m∉c3 (S d.toList):=kl ag.obj;have hle:=H.le;refine bI.mk mixed oS afh aml Ψ ag.obj fun aR cI=>?_;unfold RY;simp[e3,hu,aw,cS,au];refine H.loopA av [2,3,4] (fun(x:Nat×Array α)=>[(8,.int .i64 x.1)]) (·.2) (fun x=>hi-x.1) (fun x=>x.2.size=n/\x.1<=n/\Sort.siftDown lt hi first x.1 x.2=Sort.siftDown lt hi first lo d) (lo,d) aF ⟨aF,ao,rfl⟩ (by simp[cS,au]) aL aL (by simp[aJ]) ?_;rintro⟨root,cv⟩ ⟨aP,bd,bS⟩;simp only at aP bd bS;have aq:((first:Int)+(2*root+1))=(first+(2*root+1):Nat):=Ω
 have aG:(((first+(2*root+1):Nat):Int)+1)=(first+(2*root+1)+1:Nat):=Ω
 have bG:((first:Int)+root)=(first+root:Nat):=Ω
 have di:((first:Int)+(2*root+1+1))=(first+(2*root+2):Nat):=Ω
 simp[Pv.look,H.slc,H.ssc];(with_reducible repeat' first|((first|apply bL|apply bN|apply bM)<;>intro h<;>try simp at h)|refine aj ?_|simp[Pv.look,H.slc,H.ssc])
 ·rw[Sort.siftDown,dif_pos Ω]at bS;exact H.retA av aP (.inr rfl) ⟨rfl,cv,rfl,bS,aP⟩
 ·rw[Sort.siftDown,dif_neg Ω]at bS;rw[aq,aG];refine H.lessA aP _ _ Ω Ω fun o=>?_;have ar:decide (2*root+1+1<hi)=true:=by simp;omega
  cases ad:lt cv[first+(2*root+1)]! cv[first+(2*root+1)+1]! with
  |true=>
   rw[if_pos (by rw[ar,ad];rfl)]at bS;simp;(with_reducible repeat' first|refine aj ?_|simp[Pv.look,H.slc,H.ssc]);rw[bG,di];refine H.lessA aP _ _ Ω Ω fun o=>?_;cases aC:lt cv[first+root]! cv[first+(2*root+2)]! with
   |true=>rw[if_neg (by simp[aC]),dif_pos Ω]at bS;simp;(with_reducible repeat' first|refine aj ?_|simp[Pv.look,H.slc,H.ssc]);rw[bG,di];refine H.swapA aP U _ _ Ω Ω fun o=>?_;simp;(with_reducible repeat' first|refine aj ?_|simp);refine bP.whl (2*root+2,Sort.swp cv (first+root) (first+(2*root+2))) (by simp;omega) ⟨by rw[hd,aP],by simp;omega,bS⟩ (H.weakC av (by simp[hd,aP]) (by simp[aJ];omega))
   |false=>rw[if_pos (by simp[aC])]at bS;simp;(with_reducible repeat' first|refine aj ?_|simp);all_goals exact H.retA av aP (.inl rfl) ⟨rfl,cv,rfl,bS,aP⟩
  |false=>
   rw[if_neg (by simp[ad])]at bS;simp;(with_reducible repeat' first|refine aj ?_|simp[Pv.look,H.slc,H.ssc]);rw[bG,aq];refine H.lessA aP _ _ Ω Ω fun o=>?_;cases aC:lt cv[first+root]! cv[first+(2*root+1)]! with
   |true=>rw[if_neg (by simp[aC])]at bS;simp;(with_reducible repeat' first|refine aj ?_|simp[Pv.look,H.slc,H.ssc]);rw[bG,aq];refine H.swapA aP U _ _ Ω Ω fun o=>?_;simp;(with_reducible repeat' first|refine aj ?_|simp);refine bP.whl (2*root+1,Sort.swp cv (first+root) (first+(2*root+1))) (by simp;omega) ⟨by rw[hd,aP],by simp;omega,bS⟩ (H.weakC av (by simp[hd,aP]) (by simp[aJ]))
   |false=>rw[if_pos (by simp[aC])]at bS;simp;(with_reducible repeat' first|refine aj ?_|simp);all_goals exact H.retA av aP (.inl rfl) ⟨rfl,cv,rfl,bS,aP⟩
 ·rw[Sort.siftDown,dif_neg Ω]at bS;have ar:decide (2*root+1+1<hi)=false:=by simp;omega
  rw[if_neg (by rw[ar];simp)]at bS;rw[bG,aq];refine H.lessA aP _ _ Ω Ω fun o=>?_;cases aC:lt cv[first+root]! cv[first+(2*root+1)]! with
  |true=>rw[if_neg (by simp[aC])]at bS;simp;(with_reducible repeat' first|refine aj ?_|simp[Pv.look,H.slc,H.ssc]);rw[bG,aq];refine H.swapA aP U _ _ Ω Ω fun o=>?_;simp;(with_reducible repeat' first|refine aj ?_|simp);refine bP.whl (2*root+1,Sort.swp cv (first+root) (first+(2*root+1))) (by simp;omega) ⟨by rw[hd,aP],by simp;omega,bS⟩ (H.weakC av (by simp[hd,aP]) (by simp[aJ]))
  |false=>rw[if_pos (by simp[aC])]at bS;simp;(with_reducible repeat' first|refine aj ?_|simp);all_goals exact H.retA av aP (.inl rfl) ⟨rfl,cv,rfl,bS,aP⟩
theorem agZ(H:fb S n g cf lc b9 lt)(d:Array α)(aF:d.size=n)(a b:Nat)(nP:a<b)(ab:b<=n)(U:2<=n):
  bI ax 264 [e3 g cf lc b9,.int .i64 a,.int .i64 b] (S d.toList) fun r ah=>r= .tuple []/\∃cn,ah=S cn.toList/\cn=Sort.reverseRange d a b/\cn.size=n:=by
 have ag:=H.ok d.toList;have av:d.toList.length=n:=by simpa using aF
 have au:∀l m,Pv.look (.loc m) (S l).b=none:=fun l=>(H.ok l).obj.1;have hu:∀l m cs,cF (.loc m) cs (S l).b=(S l).b++[(.loc m,cs)]:=fun l m cs=>kr (au l m);have aw:∀m,aM.loc m∉c3 (S d.toList):=kl ag.obj;have hle:=H.le;refine bI.mk mixed oS aff amj Ψ ag.obj fun aR cI=>?_;unfold RW;simp[e3,hu,aw,cS,au];have pb:((b:Int)-1)=(b-1:Nat):=Ω
 (with_reducible repeat' first|refine aj ?_|simp[hu,aw,cS,au]);rw[pb];refine H.loopA av [3] (fun(x:(Nat×Nat)×Array α)=>[(6,.int .i64 x.1.1),(7,.int .i64 x.1.2)]) (·.2) (fun x=>x.1.2+1-x.1.1) (fun x=>x.2.size=n/\x.1.2<n/\Sort.reverseLoop x.1.1 x.1.2 x.2=Sort.reverseRange d a b) ((a,b-1),d) aF ⟨aF,by simp;omega,rfl⟩ (by simp[cS,au]) aL aL (by simp[aJ]) ?_;rintro⟨⟨i,j⟩,cv⟩ ⟨aP,bd,bS⟩;simp only at aP bd bS;rw[Sort.reverseLoop]at bS;simp[Pv.look,H.slc,H.ssc];(with_reducible repeat' first|((first|apply bL|apply bN|apply bM)<;>intro h<;>try simp at h)|refine aj ?_|simp[Pv.look,H.slc,H.ssc])
 ·rw[if_pos Ω]at bS;refine H.swapA aP U _ _ Ω Ω fun o=>?_;have aq:((i:Int)+1)=(i+1:Nat):=Ω
  have aG:((j:Int)-1)=(j-1:Nat):=Ω
  simp;((with_reducible repeat' first|refine aj ?_|simp|((first|apply bL|apply bN|apply bM)<;>intro h<;>try simp at h))<;>(try exact cm));rw[aq,aG];refine bP.whl ((i+1,j-1),Sort.swp cv i j) (by simp;omega) ⟨by rw[hd,aP],by simp;omega,bS⟩ (H.weakC av (by simp[hd,aP]) (by simp[aJ]))
 ·rw[if_neg Ω]at bS;exact H.retA av aP (.inr rfl) ⟨rfl,cv,rfl,bS,aP⟩
theorem agG(H:fb S n g cf lc b9 lt)(d:Array α)(aF:d.size=n)(a b:Nat)(nP:a<=b)(ab:b<=n)(U:2<=n):
  bI ax 261 [e3 g cf lc b9,.int .i64 a,.int .i64 b] (S d.toList) fun r ah=>r= .tuple []/\∃cn,ah=S cn.toList/\cn=Sort.heapSort lt d a b/\cn.size=n:=by
 have ag:=H.ok d.toList;have av:d.toList.length=n:=by simpa using aF
 have au:∀l m,Pv.look (.loc m) (S l).b=none:=fun l=>(H.ok l).obj.1;have hu:∀l m cs,cF (.loc m) cs (S l).b=(S l).b++[(.loc m,cs)]:=fun l m cs=>kr (au l m);have aw:∀m,aM.loc m∉c3 (S d.toList):=kl ag.obj;have hle:=H.le;refine bI.mk mixed oS ae6 ama Ψ ag.obj fun aR cI=>?_;unfold RN;simp[e3,hu,aw,cS,au];(with_reducible repeat' first|refine aj ?_|simp[hu,aw,cS,au]);have pb:nD.wrap (((b:Int)-a-1).tdiv 2)=(((b-a-1)/2+1:Nat):Int)-1:=by
  have e:((b:Int)-a-1).tdiv 2=(((b-a-1)/2+1:Nat):Int)-1:=by
   rcases Nat.eq_or_lt_of_le nP with h|h
   ·subst h;simp
   ·rw[show((b:Int)-a-1)=((b-a-1:Nat):Int) by omega,Int.tdiv_eq_ediv_of_nonneg Ω];omega
  rw[e,mT _ Ω]
 rw[pb];refine H.loopA av [3,6,7,8] (fun(x:Nat×Array α)=>[(9,.int .i64 ((x.1:Int)-1))]) (·.2) (fun x=>x.1) (fun x=>x.2.size=n/\x.1<=n/\Sort.heapBuild lt (b-a) a x.1 x.2=Sort.heapBuild lt (b-a) a ((b-a-1)/2+1) d) ((b-a-1)/2+1,d) aF ⟨aF,by simp;omega,rfl⟩ (by simp[cS,au]) aL aL (by simp[aJ]) ?_;rintro⟨k,cv⟩ ⟨aP,bd,bS⟩;simp only at aP bd bS;have ac9:((b:Int)-a)=(b-a:Nat):=Ω
 simp[Pv.look,H.slc,H.ssc];(with_reducible repeat' first|((first|apply bL|apply bN|apply bM)<;>intro h<;>try simp at h)|refine aj ?_|simp[Pv.look,H.slc,H.ssc])
 ·obtain⟨k,rfl⟩:∃bH,k=bH+1:=⟨k-1,Ω⟩;have KO:(((k+1:Nat):Int)-1)=(k:Nat):=Ω
  rw[Sort.heapBuild]at bS;simp only[iK H,H.slc,H.ssc,iD,KO,ac9];refine H.doFn (lk:=cv.toList) (by simpa using aP) (R:=fun a8=> ∃cn,a8=cn.toList/\cn=Sort.siftDown lt (b-a) a k cv/\cn.size=n) ((Ui H cv aP k (b-a) a Ω U Ω).mono fun r ah ⟨a1,cn,bp,bV,cQ⟩=>⟨a1,cn.toList,bp,cn,rfl,bV,cQ⟩) (by rintro a8 ⟨cn,rfl,_,q⟩;simpa using q) (by simp[aN,aJ,H.kdata (lk:=cv.toList) (by simpa using aP)]) ?_;rintro a8 ⟨cn,rfl,a1,bp⟩;simp;((with_reducible repeat' first|refine aj ?_|simp|((first|apply bL|apply bN|apply bM)<;>intro h<;>try simp at h))<;>(try exact cm));refine bP.whl (k,cn) Ψ ⟨bp,by simp;omega,by rw[<-bS,a1]⟩ (H.weakC av (by simpa using bp) (by simp[aJ]))
 ·obtain rfl:k=0:=Ω
  rw[Sort.heapBuild]at bS;have asI:cv.size=n:=aP;refine H.loopA av [3,6,7] (fun(x:Nat×Array α)=>[(10,.int .i64 ((x.1:Int)-1))]) (·.2) (fun x=>x.1) (fun x=>x.2.size=n/\x.1<=b-a/\Sort.heapPop lt a x.1 x.2=Sort.heapPop lt a (b-a) cv) (b-a,cv) aP ⟨aP,Ψ,rfl⟩ (by simp[Pv.look]) aL aL (by simp[aJ];omega) ?_;rintro⟨k,fU⟩ ⟨hK,w3,hz⟩;simp only at hK w3 hz;simp[Pv.look,H.slc,H.ssc];(with_reducible repeat' first|((first|apply bL|apply bN|apply bM)<;>intro h<;>try simp at h)|refine aj ?_|simp[Pv.look,H.slc,H.ssc])
  ·obtain⟨k,rfl⟩:∃bH,k=bH+1:=⟨k-1,Ω⟩;have KO:(((k+1:Nat):Int)-1)=(k:Nat):=Ω
   have ac8:((a:Int)+k)=(a+k:Nat):=Ω
   rw[Sort.heapPop]at hz;simp only[KO,ac8];refine H.swapA hK U _ _ Ω Ω fun o=>?_;have MO:(Sort.swp fU a (a+k)).size=n:=by rw[hd,hK]
   simp;simp only[iK H,H.slc,H.ssc,iD];refine H.doFn (lk:=(Sort.swp fU a (a+k)).toList) (by simpa using MO) (R:=fun a8=> ∃cn,a8=cn.toList/\cn=Sort.siftDown lt k a 0 (Sort.swp fU a (a+k))/\cn.size=n) ((Ui H (Sort.swp fU a (a+k)) MO 0 k a Ω U Ω).mono fun r ah ⟨a1,cn,bp,bV,cQ⟩=>⟨a1,cn.toList,bp,cn,rfl,bV,cQ⟩) (by rintro a8 ⟨cn,rfl,_,q⟩;simpa using q) (by simp[aN,aJ,H.kdata (lk:=(Sort.swp fU a (a+k)).toList) (by simpa using MO)]) ?_;rintro a8 ⟨cn,rfl,a1,bp⟩;simp;((with_reducible repeat' first|refine aj ?_|simp|((first|apply bL|apply bN|apply bM)<;>intro h<;>try simp at h))<;>(try exact cm));refine bP.whl (k,cn) Ψ ⟨bp,by simp;omega,by rw[<-hz,a1]⟩ (H.weakC av (by simpa using bp) (by simp[aJ]))
  ·obtain rfl:k=0:=Ω
   rw[Sort.heapPop]at hz;refine H.retA av hK (.inr rfl) ⟨rfl,fU,rfl,?_,hK⟩;rw[Sort.heapSort,<-bS,<-hz]
theorem agH(H:fb S n g cf lc b9 lt)(d:Array α)(aF:d.size=n)(a b:Nat)(nP:a<=b)(ab:b<=n):
  bI ax 260 [e3 g cf lc b9,.int .i64 a,.int .i64 b] (S d.toList) fun r ah=>r= .tuple []/\∃cn,ah=S cn.toList/\cn=Sort.insertionSort lt d a b/\cn.size=n:=by
 have ag:=H.ok d.toList;have av:d.toList.length=n:=by simpa using aF
 have au:∀l m,Pv.look (.loc m) (S l).b=none:=fun l=>(H.ok l).obj.1;have hu:∀l m cs,cF (.loc m) cs (S l).b=(S l).b++[(.loc m,cs)]:=fun l m cs=>kr (au l m);have aw:∀m,aM.loc m∉c3 (S d.toList):=kl ag.obj;have hle:=H.le;refine bI.mk mixed B7 TO XO Ψ ag.obj fun aR cI=>?_;unfold Kn;simp[e3,hu,aw,cS,au];have pb:((a:Int)+1)=(a+1:Nat):=Ω
 (with_reducible repeat' first|refine aj ?_|simp[hu,aw,cS,au]);rw[pb];refine H.loopA av [1,2,3] (fun(x:Nat×Array α)=>[(6,.int .i64 x.1)]) (·.2) (fun x=>b+1-x.1) (fun x=>x.2.size=n/\x.1<=b+1/\Sort.insOuter lt a b x.1 x.2=Sort.insertionSort lt d a b) (a+1,d) aF ⟨aF,by simp;omega,rfl⟩ (by simp[cS,au]) aL aL (by simp[aJ]) ?_;rintro⟨i,cv⟩ ⟨aP,bd,bS⟩;simp only at aP bd bS;rw[Sort.insOuter]at bS;simp;(with_reducible repeat' first|((first|apply bL|apply bN|apply bM)<;>intro h<;>try simp at h)|refine aj ?_|simp)
 ·rw[if_pos Ω]at bS;refine H.loopA av [1,2,3,6] (fun(x:Nat×Array α)=>[(7,.int .i64 x.1)]) (·.2) (fun x=>x.1) (fun x=>x.2.size=n/\x.1<=i/\Sort.insInner lt a x.1 x.2=Sort.insInner lt a i cv) (i,cv) aP ⟨aP,Ψ,rfl⟩ (by simp[Pv.look]) aL aL (by simp[aJ]) ?_;rintro⟨j,fU⟩ ⟨hK,w3,hz⟩;simp only at hK w3 hz;simp[Pv.look,H.slc,H.ssc];(with_reducible repeat' first|((first|apply bL|apply bN|apply bM)<;>intro h<;>try simp at h)|refine aj ?_|simp[Pv.look,H.slc,H.ssc])
  ·obtain⟨j,rfl⟩:∃dG,j=dG+1:=⟨j-1,Ω⟩;have pc:(((j+1:Nat):Int)-1)=(j:Nat):=Ω
   have p9:((i:Int)+1)=(i+1:Nat):=Ω
   have adb:((j:Int)+1)=(j+1:Nat):=Ω
   rw[Sort.insInner]at hz;have ar:decide (j+1>a)=true:=by simp;omega
   rw[pc];refine H.lessA hK _ _ Ω Ω fun o=>?_;cases ad:lt fU[j+1]! fU[j]! with
   |true=>rw[if_pos (by rw[ar,ad];rfl)]at hz;simp;(with_reducible repeat' first|refine aj ?_|simp[Pv.look,H.slc,H.ssc]);rw[adb];refine H.swapA hK Ω _ _ Ω Ω fun o=>?_;simp;(with_reducible repeat' first|refine aj ?_|simp);refine bP.whl (j,Sort.swp fU (j+1) j) Ψ ⟨by rw[hd,hK],by simp;omega,hz⟩ (H.weakC av (by simp[hd,hK]) (by simp[aJ]))
   |false=>rw[if_neg (by simp[ad])]at hz;simp;((with_reducible repeat' first|refine aj ?_|simp|((first|apply bL|apply bN|apply bM)<;>intro h<;>try simp at h))<;>(try exact cm));rw[p9];refine bP.whl (i+1,fU) (by simp;omega) ⟨hK,by simp;omega,by rw[<-bS,<-hz]⟩ (H.weakC av (by simpa using hK) (by simp[aJ]))
  ·have p9:((i:Int)+1)=(i+1:Nat):=Ω
   have yN:Sort.insInner lt a j fU=fU:=by
    cases j with
    |zero=>rfl
    |succ j=>rw[Sort.insInner,if_neg (by simp;omega)]
   rw[p9];refine bP.whl (i+1,fU) (by simp;omega) ⟨hK,by simp;omega,by rw[<-bS,<-hz,yN]⟩ (H.weakC av (by simpa using hK) (by simp[aJ]))
 ·rw[if_neg Ω]at bS;exact H.retA av aP (.inr rfl) ⟨rfl,cv,rfl,bS,aP⟩
end
section
open Go Go.Pv
variable {α:Type} [Inhabited α] {S:List α->cR} {n g cf:Nat} {lc b9:List ak} {lt:α->α->Bool}
theorem v7{p:α->Bool}{d:Array α}{i j:Nat}(h:¬(i<=j/\p d[j]! =true)):Sort.scanDown p d i j=j:=by
 cases j with
 |zero=>rfl
 |succ j=>rw[Sort.scanDown,if_neg (by simpa using h)]
theorem BV{p:α->Bool}{d:Array α}{i j:Nat}(h:¬(i<=j/\p d[i]! =true)):Sort.scanUp p d j i=i:=by rw[Sort.scanUp,if_neg (by simpa using h)]
theorem OY{p:α->Bool}{d:Array α}{i j:Nat}(J:i<=j)(U:p d[i]! =true):Sort.scanUp p d j i=Sort.scanUp p d j (i+1):=by rw[Sort.scanUp,if_pos (by simp[J,U])]
theorem OX{p:α->Bool}{d:Array α}{i j:Nat}(J:i<=j+1)(U:p d[j+1]! =true):Sort.scanDown p d i (j+1)=Sort.scanDown p d i j:=by rw[Sort.scanDown,if_pos (by simp[J,U])]
theorem agT(H:fb S n g cf lc b9 lt)(d:Array α)(aF:d.size=n)(a b pivot:Nat)(sy:a<=pivot)(aiL:pivot<b)(nP:a+1<b)(ab:b<=n):
  bI ax 267 [e3 g cf lc b9,.int .i64 a,.int .i64 b,.int .i64 pivot] (S d.toList) fun r ah=>r= .tuple [.int .i64 (Sort.partition lt d a b pivot).1,.bool (Sort.partition lt d a b pivot).2.1]/\∃cn,ah=S cn.toList/\cn=(Sort.partition lt d a b pivot).2.2/\cn.size=n:=by
 obtain⟨R,bA⟩:∃R,R=Sort.partition lt d a b pivot:=⟨_,rfl⟩;rw[<-bA];unfold Sort.partition at bA;have ag:=H.ok d.toList;have av:d.toList.length=n:=by simpa using aF
 have au:∀l m,Pv.look (.loc m) (S l).b=none:=fun l=>(H.ok l).obj.1;have hu:∀l m cs,cF (.loc m) cs (S l).b=(S l).b++[(.loc m,cs)]:=fun l m cs=>kr (au l m);have aw:∀m,aM.loc m∉c3 (S d.toList):=kl ag.obj;have hle:=H.le;refine bI.mk mixed oS afd amh Ψ ag.obj fun aR cI=>?_;unfold RU;simp[e3,hu,aw,cS,au];rw[H.ssc];refine H.swapA0 aF Ω a pivot Ω Ω fun o=>?_;obtain⟨d1,fs⟩:∃d1,d1=Sort.swp d a pivot:=⟨_,rfl⟩;have s1:d1.size=n:=by rw[fs,hd,aF]
 rw[<-fs];simp only[<-fs]at bA;have aq:((a:Int)+1)=(a+1:Nat):=Ω
 have aG:((b:Int)-1)=(b-1:Nat):=Ω
 simp;(with_reducible repeat' first|refine aj ?_|simp);rw[aq,aG];refine H.loopA av [1,4,11] (fun(i:Nat)=>[(10,.int .i64 i)]) (fun _=>d1) (fun i=>b+1-i) (fun i=>a+1<=i/\i<=b/\Sort.scanUp (fun x=>lt x d1[a]!) d1 (b-1) i=Sort.scanUp (fun x=>lt x d1[a]!) d1 (b-1) (a+1)) (a+1) s1 ⟨Ω,Ω,rfl⟩ (by simp[Pv.look]) aL aL (by simp[aJ]) ?_;rintro i ⟨i1,i2,i3⟩;simp[Pv.look,H.slc];((with_reducible repeat' first|refine aj ?_|simp[Pv.look,H.slc]|((first|apply bL|apply bN|apply bM)<;>intro h<;>try simp at h))<;>(try exact cm));refine H.lessA s1 i a Ω Ω fun o=>?_;cases ad:lt d1[i]! d1[a]!;rotate_left
 ·have p9:((i:Int)+1)=(i+1:Nat):=Ω
  simp;(with_reducible repeat' first|refine aj ?_|simp);rw[p9];refine bP.whl (i+1) Ω ⟨Ω,Ω,by rw[<-i3];exact(OY (p:=fun x=>lt x d1[a]!) Ω ad).symm⟩ (H.weakC av (by simpa using s1) (by simp[aJ]))
 rotate_left
 ·have i4:Sort.scanUp (fun x=>lt x d1[a]!) d1 (b-1) i=i:=BV (by simp[ad]);rw[i4]at i3;rw[<-i3]at bA;simp;refine H.loopA av [1,4,10] (fun(j:Nat)=>[(11,.int .i64 j)]) (fun _=>d1) (fun j=>j) (fun j=>i<=j+1/\j<=b-1/\Sort.scanDown (fun x=> !lt x d1[a]!) d1 i j=Sort.scanDown (fun x=> !lt x d1[a]!) d1 i (b-1)) (b-1) s1 ⟨Ω,Ω,rfl⟩ (by simp[Pv.look]) aL aL (by simp[aJ]) ?_;rintro j ⟨hK,w3,hz⟩;simp[Pv.look,H.slc];((with_reducible repeat' first|refine aj ?_|simp[Pv.look,H.slc,H.ssc]|((first|apply bL|apply bN|apply bM)<;>intro h<;>try simp at h))<;>(try exact cm))
  ·refine H.lessA s1 j a Ω Ω fun o=>?_;cases aC:lt d1[j]! d1[a]!
   ·obtain⟨j,rfl⟩:∃dG,j=dG+1:=⟨j-1,Ω⟩;have pc:(((j+1:Nat):Int)-1)=(j:Nat):=Ω
    simp;(with_reducible repeat' first|refine aj ?_|simp);try rw[pc]
    refine bP.whl j Ω ⟨Ω,Ω,by rw[<-hz];exact(OX (p:=fun x=> !lt x d1[a]!) Ω (by simp[aC])).symm⟩ (H.weakC av (by simpa using s1) (by simp[aJ]))
   ·have yN:Sort.scanDown (fun x=> !lt x d1[a]!) d1 i j=j:=v7 (by simp[aC]);have cK:i≠j:=fun e=>by subst e;rw[ad]at aC;cases aC
    rw[yN]at hz;rw[<-hz,if_neg Ω]at bA;simp;((with_reducible repeat' first|refine aj ?_|simp[Pv.look,H.slc,H.ssc]|((first|apply bL|apply bN|apply bM)<;>intro h<;>try simp at h))<;>(try exact cm));refine H.swapA s1 Ω i j Ω Ω fun o=>?_;obtain⟨d2,eV⟩:∃d2,d2=Sort.swp d1 i j:=⟨_,rfl⟩;have s2:d2.size=n:=by rw[eV,hd,s1]
    rw[<-eV];rw[<-eV]at bA;have bG:((i:Int)+1)=(i+1:Nat):=Ω
    have di:((j:Int)-1)=(j-1:Nat):=Ω
    simp;(with_reducible repeat' first|refine aj ?_|simp);rw[bG,di];refine H.loopA av [1,4] (fun(x:(Nat×Nat)×Array α)=>[(10,.int .i64 x.1.1),(11,.int .i64 x.1.2)]) (·.2) (fun x=>x.1.2+1-x.1.1) (fun x=>x.2.size=n/\(a+1<=x.1.1/\x.1.1<=x.1.2+1/\x.1.2<=b-1)/\Sort.partLoop lt a x.1.1 x.1.2 x.2=Sort.partLoop lt a (i+1) (j-1) d2) ((i+1,j-1),d2) s2 ⟨s2,⟨by simp;omega,by simp;omega,by simp;omega⟩,rfl⟩ (by simp[Pv.look]) aL aL (by simp[aJ]) ?_;rintro⟨⟨w1,dG⟩,cv⟩ ⟨aP,⟨bd,bS,ea⟩,dj⟩;simp only at aP bd bS ea dj;rw[Sort.partLoop]at dj;generalize hR:Sort.partLoop lt a (i+1) (j-1) d2=G at dj bA;simp;refine H.loopA av [1,4,11] (fun(x:Nat)=>[(10,.int .i64 x)]) (fun _=>cv) (fun x=>b+1-x) (fun x=>w1<=x/\x<=dG+1/\Sort.scanUp (fun x=>lt x cv[a]!) cv dG x=Sort.scanUp (fun x=>lt x cv[a]!) cv dG w1) w1 aP ⟨Ω,Ω,rfl⟩ (by simp[Pv.look]) aL aL (by simp[aJ]) ?_;rintro p ⟨c1,dv,jj⟩;simp[Pv.look,H.slc];((with_reducible repeat' first|refine aj ?_|simp[Pv.look,H.slc]|((first|apply bL|apply bN|apply bM)<;>intro h<;>try simp at h))<;>(try exact cm))
    ·refine H.lessA aP p a Ω Ω fun o=>?_;cases iH:lt cv[p]! cv[a]!;rotate_left
     ·have p9:((p:Int)+1)=(p+1:Nat):=Ω
      simp;(with_reducible repeat' first|refine aj ?_|simp);rw[p9];refine bP.whl (p+1) Ω ⟨Ω,Ω,by rw[<-jj];exact(OY (p:=fun x=>lt x cv[a]!) Ω iH).symm⟩ (H.weakC av (by simpa using aP) (by simp[aJ]))
     ·have vO:Sort.scanUp (fun x=>lt x cv[a]!) cv dG p=p:=BV (by simp[iH]);rw[vO]at jj;simp only[<-jj]at dj;simp;refine H.loopA av [1,4,10] (fun(x:Nat)=>[(11,.int .i64 x)]) (fun _=>cv) (fun x=>x) (fun x=>p<=x+1/\x<=dG/\Sort.scanDown (fun x=> !lt x cv[a]!) cv p x=Sort.scanDown (fun x=> !lt x cv[a]!) cv p dG) dG aP ⟨Ω,Ω,rfl⟩ (by simp[Pv.look]) aL aL (by simp[aJ]) ?_;rintro q ⟨a1,bp,bV⟩;simp[Pv.look,H.slc];((with_reducible repeat' first|refine aj ?_|simp[Pv.look,H.slc,H.ssc]|((first|apply bL|apply bN|apply bM)<;>intro h<;>try simp at h))<;>(try exact cm))
      ·refine H.lessA aP q a Ω Ω fun o=>?_;cases sN:lt cv[q]! cv[a]!
       ·obtain⟨q,rfl⟩:∃dG,q=dG+1:=⟨q-1,Ω⟩;have pc:(((q+1:Nat):Int)-1)=(q:Nat):=Ω
        simp;(with_reducible repeat' first|refine aj ?_|simp);try rw[pc]
        refine bP.whl q Ω ⟨Ω,Ω,by rw[<-bV];exact(OX (p:=fun x=> !lt x cv[a]!) Ω (by simp[sN])).symm⟩ (H.weakC av (by simpa using aP) (by simp[aJ]))
       ·have cQ:Sort.scanDown (fun x=> !lt x cv[a]!) cv p q=q:=v7 (by simp[sN]);have cK:p≠q:=fun e=>by subst e;rw[iH]at sN;cases sN
        rw[cQ]at bV;simp only[<-bV]at dj;rw[if_neg Ω,dif_pos Ω]at dj;simp;((with_reducible repeat' first|refine aj ?_|simp[Pv.look,H.slc,H.ssc]|((first|apply bL|apply bN|apply bM)<;>intro h<;>try simp at h))<;>(try exact cm));refine H.swapA aP Ω p q Ω Ω fun o=>?_;have hx:((p:Int)+1)=(p+1:Nat):=Ω
        have h7:((q:Int)-1)=(q-1:Nat):=Ω
        simp;(with_reducible repeat' first|((first|apply bL|apply bN|apply bM)<;>intro h<;>try simp at h)|refine aj ?_|simp);rw[hx,h7];refine bP.whl ((p+1,q-1),Sort.swp cv p q) (by simp;omega) ⟨by rw[hd,aP],⟨by simp;omega,by simp;omega,by simp;omega⟩,dj⟩ (H.weakC av (by simp[hd,aP]) (by simp[aJ]))
      ·have cQ:Sort.scanDown (fun x=> !lt x cv[a]!) cv p q=q:=v7 Ω;rw[cQ]at bV;simp only[<-bV]at dj;rw[if_pos Ω]at dj;rw[<-dj]at bA;refine H.swapA aP Ω q a Ω Ω fun o=>?_;simp;refine H.retR av (d:=Sort.swp cv q a) (by rw[hd,aP]) (.inl rfl) ?_;simp[cW,EI,aU,aW,aT];rw[bA];exact⟨⟨rfl,rfl⟩,_,rfl,rfl,by rw[hd,aP]⟩
    ·have vO:Sort.scanUp (fun x=>lt x cv[a]!) cv dG p=p:=BV Ω;rw[vO]at jj;simp only[<-jj]at dj;have cQ:Sort.scanDown (fun x=> !lt x cv[a]!) cv p dG=dG:=v7 Ω;rw[cQ,if_pos Ω]at dj;rw[<-dj]at bA;refine H.loopA av [1,4,10] (fun(x:Nat)=>[(11,.int .i64 x)]) (fun _=>cv) (fun x=>x) (fun x=>x=dG) dG aP rfl (by simp[Pv.look]) aL aL (by simp[aJ]) ?_;rintro q rfl;simp[Pv.look,H.slc];((with_reducible repeat' first|refine aj ?_|simp[Pv.look,H.slc,H.ssc]|((first|apply bL|apply bN|apply bM)<;>intro h<;>try simp at h))<;>(try exact cm));refine H.swapA aP Ω q a Ω Ω fun o=>?_;simp;refine H.retR av (d:=Sort.swp cv q a) (by rw[hd,aP]) (.inl rfl) ?_;simp[cW,EI,aU,aW,aT];rw[bA];exact⟨⟨rfl,rfl⟩,_,rfl,rfl,by rw[hd,aP]⟩
  ·have yN:Sort.scanDown (fun x=> !lt x d1[a]!) d1 i j=j:=v7 Ω;rw[yN]at hz;rw[<-hz,if_pos Ω]at bA;refine H.swapA s1 Ω j a Ω Ω fun o=>?_;simp;refine H.retR av (d:=Sort.swp d1 j a) (by rw[hd,s1]) (.inl rfl) ?_;simp[cW,EI,aU,aW,aT];rw[bA];exact⟨⟨rfl,rfl⟩,_,rfl,rfl,by rw[hd,s1]⟩
 ·have i4:Sort.scanUp (fun x=>lt x d1[a]!) d1 (b-1) i=i:=BV Ω;rw[i4]at i3;have yN:Sort.scanDown (fun x=> !lt x d1[a]!) d1 i (b-1)=b-1:=v7 Ω;rw[<-i3,yN,if_pos Ω]at bA;refine H.loopA av [1,4,10] (fun(j:Nat)=>[(11,.int .i64 j)]) (fun _=>d1) (fun j=>j) (fun j=>j=b-1) (b-1) s1 rfl (by simp[Pv.look]) aL aL (by simp[aJ]) ?_;rintro j rfl;simp[Pv.look,H.slc];((with_reducible repeat' first|refine aj ?_|simp[Pv.look,H.slc,H.ssc]|((first|apply bL|apply bN|apply bM)<;>intro h<;>try simp at h))<;>(try exact cm));refine H.swapA s1 Ω (b-1) a Ω Ω fun o=>?_;simp;refine H.retR av (d:=Sort.swp d1 (b-1) a) (by rw[hd,s1]) (.inl rfl) ?_;simp[cW,EI,aU,aW,aT];rw[bA];exact⟨⟨rfl,rfl⟩,_,rfl,rfl,by rw[hd,s1]⟩
end
section
open Go Go.Pv
variable {α:Type} [Inhabited α] {S:List α->cR} {n g cf:Nat} {lc b9:List ak} {lt:α->α->Bool}
theorem agU(H:fb S n g cf lc b9 lt)(d:Array α)(aF:d.size=n)(a b pivot:Nat)(sy:a<=pivot)(aiL:pivot<b)(nP:a+1<b)(ab:b<=n):
  bI ax 266 [e3 g cf lc b9,.int .i64 a,.int .i64 b,.int .i64 pivot] (S d.toList) fun r ah=>r= .int .i64 (Sort.partitionEqual lt d a b pivot).1/\∃cn,ah=S cn.toList/\cn=(Sort.partitionEqual lt d a b pivot).2/\cn.size=n:=by
 obtain⟨R,bA⟩:∃R,R=Sort.partitionEqual lt d a b pivot:=⟨_,rfl⟩;rw[<-bA];unfold Sort.partitionEqual at bA;have ag:=H.ok d.toList;have av:d.toList.length=n:=by simpa using aF
 have au:∀l m,Pv.look (.loc m) (S l).b=none:=fun l=>(H.ok l).obj.1;have hu:∀l m cs,cF (.loc m) cs (S l).b=(S l).b++[(.loc m,cs)]:=fun l m cs=>kr (au l m);have aw:∀m,aM.loc m∉c3 (S d.toList):=kl ag.obj;have hle:=H.le;refine bI.mk mixed oS afc amg Ψ ag.obj fun aR cI=>?_;unfold RT;simp[e3,hu,aw,cS,au];rw[H.ssc];refine H.swapA0 aF Ω a pivot Ω Ω fun o=>?_;obtain⟨d1,fs⟩:∃d1,d1=Sort.swp d a pivot:=⟨_,rfl⟩;have s1:d1.size=n:=by rw[fs,hd,aF]
 rw[<-fs];rw[<-fs]at bA;have aq:((a:Int)+1)=(a+1:Nat):=Ω
 have aG:((b:Int)-1)=(b-1:Nat):=Ω
 simp;(with_reducible repeat' first|refine aj ?_|simp);rw[aq,aG];refine H.loopA av [1,4] (fun(x:(Nat×Nat)×Array α)=>[(9,.int .i64 x.1.1),(10,.int .i64 x.1.2)]) (·.2) (fun x=>x.1.2+1-x.1.1) (fun x=>x.2.size=n/\(a+1<=x.1.1/\x.1.1<=x.1.2+1/\x.1.2<=b-1)/\Sort.partEqLoop lt a x.1.1 x.1.2 x.2=R) ((a+1,b-1),d1) s1 ⟨s1,⟨Ψ,by simp;omega,Ψ⟩,bA.symm⟩ (by simp[Pv.look]) aL aL (by simp[aJ]) ?_;rintro⟨⟨w1,dG⟩,cv⟩ ⟨aP,⟨bd,bS,ea⟩,dj⟩;simp only at aP bd bS ea dj;rw[Sort.partEqLoop]at dj;simp;refine H.loopA av [1,4,10] (fun(x:Nat)=>[(9,.int .i64 x)]) (fun _=>cv) (fun x=>b+1-x) (fun x=>w1<=x/\x<=dG+1/\Sort.scanUp (fun x=> !lt cv[a]! x) cv dG x=Sort.scanUp (fun x=> !lt cv[a]! x) cv dG w1) w1 aP ⟨Ω,Ω,rfl⟩ (by simp[Pv.look]) aL aL (by simp[aJ]) ?_;rintro p ⟨c1,dv,jj⟩;simp[Pv.look,H.slc];((with_reducible repeat' first|refine aj ?_|simp[Pv.look,H.slc]|((first|apply bL|apply bN|apply bM)<;>intro h<;>try simp at h))<;>(try exact cm))
 ·refine H.lessA aP a p Ω Ω fun o=>?_;cases iH:lt cv[a]! cv[p]!
  ·have p9:((p:Int)+1)=(p+1:Nat):=Ω
   simp;(with_reducible repeat' first|refine aj ?_|simp);rw[p9];refine bP.whl (p+1) Ω ⟨Ω,Ω,by rw[<-jj];exact(OY (p:=fun x=> !lt cv[a]! x) Ω (by simp[iH])).symm⟩ (H.weakC av (by simpa using aP) (by simp[aJ]))
  ·have vO:Sort.scanUp (fun x=> !lt cv[a]! x) cv dG p=p:=BV (by simp[iH]);rw[vO]at jj;simp only[<-jj]at dj;simp;refine H.loopA av [1,4,9] (fun(x:Nat)=>[(10,.int .i64 x)]) (fun _=>cv) (fun x=>x) (fun x=>p<=x+1/\x<=dG/\Sort.scanDown (fun x=>lt cv[a]! x) cv p x=Sort.scanDown (fun x=>lt cv[a]! x) cv p dG) dG aP ⟨Ω,Ω,rfl⟩ (by simp[Pv.look]) aL aL (by simp[aJ]) ?_;rintro q ⟨a1,bp,bV⟩;simp[Pv.look,H.slc];((with_reducible repeat' first|refine aj ?_|simp[Pv.look,H.slc,H.ssc]|((first|apply bL|apply bN|apply bM)<;>intro h<;>try simp at h))<;>(try exact cm))
   ·refine H.lessA aP a q Ω Ω fun o=>?_;cases sN:lt cv[a]! cv[q]!;rotate_left
    ·obtain⟨q,rfl⟩:∃dG,q=dG+1:=⟨q-1,Ω⟩;have pc:(((q+1:Nat):Int)-1)=(q:Nat):=Ω
     simp;(with_reducible repeat' first|refine aj ?_|simp);try rw[pc]
     refine bP.whl q Ω ⟨Ω,Ω,by rw[<-bV];exact(OX (p:=fun x=>lt cv[a]! x) Ω (by simp[sN])).symm⟩ (H.weakC av (by simpa using aP) (by simp[aJ]))
    ·have cQ:Sort.scanDown (fun x=>lt cv[a]! x) cv p q=q:=v7 (by simp[sN]);have cK:p≠q:=fun e=>by subst e;rw[iH]at sN;cases sN
     rw[cQ]at bV;simp only[<-bV]at dj;rw[if_neg Ω,dif_pos Ω]at dj;simp;((with_reducible repeat' first|refine aj ?_|simp[Pv.look,H.slc,H.ssc]|((first|apply bL|apply bN|apply bM)<;>intro h<;>try simp at h))<;>(try exact cm));refine H.swapA aP Ω p q Ω Ω fun o=>?_;have hx:((p:Int)+1)=(p+1:Nat):=Ω
     have h7:((q:Int)-1)=(q-1:Nat):=Ω
     simp;(with_reducible repeat' first|((first|apply bL|apply bN|apply bM)<;>intro h<;>try simp at h)|refine aj ?_|simp);rw[hx,h7];refine bP.whl ((p+1,q-1),Sort.swp cv p q) (by simp;omega) ⟨by rw[hd,aP],⟨by simp;omega,by simp;omega,by simp;omega⟩,dj⟩ (H.weakC av (by simp[hd,aP]) (by simp[aJ]))
   ·have cQ:Sort.scanDown (fun x=>lt cv[a]! x) cv p q=q:=v7 Ω;rw[cQ]at bV;simp only[<-bV]at dj;rw[if_pos Ω]at dj;refine H.retR av (d:=cv) aP (.inl rfl) ?_;simp[cW,Ol,aU,aW,aT];rw[<-dj];exact⟨rfl,_,rfl,rfl,aP⟩
 ·have vO:Sort.scanUp (fun x=> !lt cv[a]! x) cv dG p=p:=BV Ω;rw[vO]at jj;simp only[<-jj]at dj;have cQ:Sort.scanDown (fun x=>lt cv[a]! x) cv p dG=dG:=v7 Ω;rw[cQ,if_pos Ω]at dj;refine H.loopA av [1,4,9] (fun(x:Nat)=>[(10,.int .i64 x)]) (fun _=>cv) (fun x=>x) (fun x=>x=dG) dG aP rfl (by simp[Pv.look]) aL aL (by simp[aJ]) ?_;rintro q rfl;simp[Pv.look,H.slc];((with_reducible repeat' first|refine aj ?_|simp[Pv.look,H.slc,H.ssc]|((first|apply bL|apply bN|apply bM)<;>intro h<;>try simp at h))<;>(try exact cm));refine H.retR av (d:=cv) aP (.inl rfl) ?_;simp[cW,Ol,aU,aW,aT];rw[<-dj];exact⟨rfl,_,rfl,rfl,aP⟩
end
section
open Go Go.Pv
variable {α:Type} [Inhabited α] {S:List α->cR} {n g cf:Nat} {lc b9:List ak} {lt:α->α->Bool}
theorem agS(H:fb S n g cf lc b9 lt)(d:Array α)(aF:d.size=n)(a b:Nat)(nP:a<b)(ab:b<=n)(U:2<=n):
  bI ax 265 [e3 g cf lc b9,.int .i64 a,.int .i64 b] (S d.toList) fun r ah=>r= .bool (Sort.partialInsertionSort lt d a b).2/\∃cn,ah=S cn.toList/\cn=(Sort.partialInsertionSort lt d a b).1/\cn.size=n:=by
 obtain⟨R,bA⟩:∃R,R=Sort.partialInsertionSort lt d a b:=⟨_,rfl⟩;rw[<-bA];unfold Sort.partialInsertionSort at bA;have ag:=H.ok d.toList;have av:d.toList.length=n:=by simpa using aF
 have au:∀l m,Pv.look (.loc m) (S l).b=none:=fun l=>(H.ok l).obj.1;have hu:∀l m cs,cF (.loc m) cs (S l).b=(S l).b++[(.loc m,cs)]:=fun l m cs=>kr (au l m);have aw:∀m,aM.loc m∉c3 (S d.toList):=kl ag.obj;have hle:=H.le;refine bI.mk mixed oS afb amf Ψ ag.obj fun aR cI=>?_;unfold RS;simp[e3,hu,aw,cS,au];have aq:((a:Int)+1)=(a+1:Nat):=Ω
 (with_reducible repeat' first|refine aj ?_|simp);rw[aq];refine H.loopA av [1,2,3] (fun(x:(Nat×Nat)×Array α)=>[(7,.int .i64 x.1.1),(8,.int .i64 x.1.2)]) (·.2) (fun x=>5-x.1.2) (fun x=>x.2.size=n/\(a+1<=x.1.1/\x.1.1<=b/\x.1.2<=5)/\Sort.partialIns lt a b (5-x.1.2) x.1.1 x.2=R) ((a+1,0),d) aF ⟨aF,⟨Ψ,by simp;omega,Ψ⟩,bA.symm⟩ (by simp[cS,au]) aL aL (by simp[aJ]) ?_;rintro⟨⟨i0,s⟩,cv⟩ ⟨aP,⟨bd,bS,ea⟩,dj⟩;simp only at aP bd bS ea dj;simp;((with_reducible repeat' first|refine aj ?_|simp|((first|apply bL|apply bN|apply bM)<;>intro h<;>try simp at h))<;>(try exact cm))
 ·obtain⟨m,hm⟩:∃m,5-s=m+1:=⟨5-s-1,Ω⟩;rw[hm,Sort.partialIns]at dj;refine H.loopA av [1,2,3,8] (fun(x:Nat)=>[(7,.int .i64 x)]) (fun _=>cv) (fun x=>b-x) (fun x=>i0<=x/\x<=b/\Sort.scanSorted lt cv b x=Sort.scanSorted lt cv b i0) i0 aP ⟨Ω,Ω,rfl⟩ (by simp[Pv.look]) aL aL (by simp[aJ]) ?_;rintro i ⟨i1,i2,i3⟩;rw[Sort.scanSorted]at i3;have p9:((i:Int)+1)=(i+1:Nat):=Ω
  have Gt:((i:Int)-1)=(i-1:Nat):=Ω
  have es:((s:Int)+1)=(s+1:Nat):=Ω
  have em:5-(s+1)=m:=Ω
  simp[Pv.look,H.slc];((with_reducible repeat' first|refine aj ?_|simp[Pv.look,H.slc]|((first|apply bL|apply bN|apply bM)<;>intro h<;>try simp at h))<;>(try exact cm))
  ·rw[Gt];refine H.lessA aP i (i-1) Ω Ω fun o=>?_;cases ad:lt cv[i]! cv[i-1]!
   ·rw[if_pos (by simp[ad];omega)]at i3;simp;(with_reducible repeat' first|refine aj ?_|simp);rw[p9];refine bP.whl (i+1) Ω ⟨Ω,Ω,i3⟩ (H.weakC av (by simpa using aP) (by simp[aJ]))
   ·rw[if_neg (by simp[ad])]at i3;simp only[<-i3]at dj;rw[if_neg Ω]at dj;have AI:(i:Int)≠b:=Ω
    have ah4:((i:Int)==b)=false:=by simp;omega
    simp;((with_reducible repeat' first|refine aj ?_|simp[AI,ah4,Pv.look,H.slc,H.ssc]|((first|apply bL|apply bN|apply bM)<;>intro h<;>try simp at h))<;>(try exact cm))
    ·rw[if_pos Ω]at dj;refine H.retR av (d:=cv) aP (.inl rfl) ?_;simp[cW,IE,aU,aW,aT];rw[<-dj];exact⟨rfl,_,rfl,rfl,aP⟩
    ·rw[if_neg Ω]at dj;rw[Gt];refine H.swapA aP U i (i-1) Ω Ω fun o=>?_;obtain⟨d2,eV⟩:∃d2,d2=Sort.swp cv i (i-1):=⟨_,rfl⟩;have s2:d2.size=n:=by rw[eV,hd,aP]
     rw[<-eV];simp only[<-eV]at dj;by_cases mf:2<=b-i
     ·rw[if_pos mf]at dj;have uj:(2:Int)<=(b:Int)-i:=Ω
      by_cases Dh:2<=i-a
      ·rw[if_pos Dh]at dj;have yq:(2:Int)<=(i:Int)-a:=Ω
       simp;(with_reducible repeat' first|refine aj ?_|simp[yq]);rw[Gt];refine H.loopA av [1,2,3,7,8] (fun(x:Nat×Array α)=>[(9,.int .i64 x.1)]) (·.2) (fun x=>x.1) (fun x=>x.2.size=n/\x.1<=i-1/\Sort.shiftDown lt x.1 x.2=Sort.shiftDown lt (i-1) d2) (i-1,d2) s2 ⟨s2,Ψ,rfl⟩ (by simp[Pv.look]) aL aL (by simp[aJ]) ?_;rintro⟨j,fU⟩ ⟨hK,w3,hz⟩;simp only at hK w3 hz;simp[Pv.look,H.slc,H.ssc];((with_reducible repeat' first|refine aj ?_|simp[Pv.look,H.slc,H.ssc,uj]|((first|apply bL|apply bN|apply bM)<;>intro h<;>try simp at h))<;>(try exact cm))
       ·obtain⟨j,rfl⟩:∃dG,j=dG+1:=⟨j-1,Ω⟩;have pc:(((j+1:Nat):Int)-1)=(j:Nat):=Ω
        rw[Sort.shiftDown]at hz;try rw[pc]
        refine H.lessA hK (j+1) j Ω Ω fun o=>?_;cases aC:lt fU[j+1]! fU[j]!
        ·rw[if_pos (by simp[aC])]at hz;rw[<-hz]at dj;try simp
         try(with_reducible repeat' first|refine aj ?_|simp[Pv.look,H.slc,H.ssc,uj])
         rw[p9];refine H.loopA av [1,2,3,7,8] (fun(x:Nat×Array α)=>[(10,.int .i64 x.1)]) (·.2) (fun x=>b-x.1) (fun x=>x.2.size=n/\(i+1<=x.1/\x.1<=b)/\Sort.shiftUp lt b x.1 x.2=Sort.shiftUp lt b (i+1) fU) (i+1,fU) hK ⟨hK,⟨Ψ,by simp;omega⟩,rfl⟩ (by simp[Pv.look]) aL aL (by simp[aJ]) ?_;rintro⟨q,nI⟩ ⟨a1,⟨bp,zb⟩,bV⟩;simp only at a1 bp zb bV;rw[Sort.shiftUp]at bV;have eq:((q:Int)-1)=(q-1:Nat):=Ω
         have CO:((q:Int)+1)=(q+1:Nat):=Ω
         simp[Pv.look,H.slc,H.ssc];((with_reducible repeat' first|refine aj ?_|simp[Pv.look,H.slc,H.ssc]|((first|apply bL|apply bN|apply bM)<;>intro h<;>try simp at h))<;>(try exact cm))
         ·rw[if_pos Ω]at bV;rw[eq];refine H.lessA a1 q (q-1) Ω Ω fun o=>?_;cases ba:lt nI[q]! nI[q-1]!
          ·rw[if_pos (by simp[ba])]at bV;rw[<-bV]at dj;simp;(with_reducible repeat' first|refine aj ?_|simp);rw[es];refine bP.whl ((i,s+1),nI) (by simp;omega) ⟨a1,⟨by simp;omega,by simp;omega,by simp;omega⟩,by simp only[em];exact dj⟩ (H.weakC av (by simpa using a1) (by simp[aJ]))
          ·rw[if_neg (by simp[ba])]at bV;simp;(with_reducible repeat' first|refine aj ?_|simp[Pv.look,H.slc,H.ssc]);rw[eq];refine H.swapA a1 Ω q (q-1) Ω Ω fun o=>?_;simp;((with_reducible repeat' first|refine aj ?_|simp|((first|apply bL|apply bN|apply bM)<;>intro h<;>try simp at h))<;>(try exact cm));rw[CO];refine bP.whl (q+1,Sort.swp nI q (q-1)) (by simp;omega) ⟨by rw[hd,a1],⟨by simp;omega,by simp;omega⟩,bV⟩ (H.weakC av (by simp[hd,a1]) (by simp[aJ]))
         ·rw[if_neg Ω]at bV;rw[<-bV]at dj;rw[es];refine bP.whl ((i,s+1),nI) (by simp;omega) ⟨a1,⟨by simp;omega,by simp;omega,by simp;omega⟩,by simp only[em];exact dj⟩ (H.weakC av (by simpa using a1) (by simp[aJ]))
        ·rw[if_neg (by simp[aC])]at hz;simp;(with_reducible repeat' first|refine aj ?_|simp[Pv.look,H.slc,H.ssc]);try rw[pc]
         refine H.swapA hK U (j+1) j Ω Ω fun o=>?_;simp;((with_reducible repeat' first|refine aj ?_|simp|((first|apply bL|apply bN|apply bM)<;>intro h<;>try simp at h))<;>(try exact cm));try rw[pc]
         refine bP.whl (j,Sort.swp fU (j+1) j) Ψ ⟨by rw[hd,hK],by simp;omega,hz⟩ (H.weakC av (by simp[hd,hK]) (by simp[aJ]))
       ·obtain rfl:j=0:=Ω
        rw[Sort.shiftDown]at hz;rw[<-hz]at dj;try simp
        try(with_reducible repeat' first|refine aj ?_|simp[Pv.look,H.slc,H.ssc,uj])
        rw[p9];refine H.loopA av [1,2,3,7,8] (fun(x:Nat×Array α)=>[(10,.int .i64 x.1)]) (·.2) (fun x=>b-x.1) (fun x=>x.2.size=n/\(i+1<=x.1/\x.1<=b)/\Sort.shiftUp lt b x.1 x.2=Sort.shiftUp lt b (i+1) fU) (i+1,fU) hK ⟨hK,⟨Ψ,by simp;omega⟩,rfl⟩ (by simp[Pv.look]) aL aL (by simp[aJ]) ?_;rintro⟨q,nI⟩ ⟨a1,⟨bp,zb⟩,bV⟩;simp only at a1 bp zb bV;rw[Sort.shiftUp]at bV;have eq:((q:Int)-1)=(q-1:Nat):=Ω
        have CO:((q:Int)+1)=(q+1:Nat):=Ω
        simp[Pv.look,H.slc,H.ssc];((with_reducible repeat' first|refine aj ?_|simp[Pv.look,H.slc,H.ssc]|((first|apply bL|apply bN|apply bM)<;>intro h<;>try simp at h))<;>(try exact cm))
        ·rw[if_pos Ω]at bV;rw[eq];refine H.lessA a1 q (q-1) Ω Ω fun o=>?_;cases ba:lt nI[q]! nI[q-1]!
         ·rw[if_pos (by simp[ba])]at bV;rw[<-bV]at dj;simp;(with_reducible repeat' first|refine aj ?_|simp);rw[es];refine bP.whl ((i,s+1),nI) (by simp;omega) ⟨a1,⟨by simp;omega,by simp;omega,by simp;omega⟩,by simp only[em];exact dj⟩ (H.weakC av (by simpa using a1) (by simp[aJ]))
         ·rw[if_neg (by simp[ba])]at bV;simp;(with_reducible repeat' first|refine aj ?_|simp[Pv.look,H.slc,H.ssc]);rw[eq];refine H.swapA a1 Ω q (q-1) Ω Ω fun o=>?_;simp;((with_reducible repeat' first|refine aj ?_|simp|((first|apply bL|apply bN|apply bM)<;>intro h<;>try simp at h))<;>(try exact cm));rw[CO];refine bP.whl (q+1,Sort.swp nI q (q-1)) (by simp;omega) ⟨by rw[hd,a1],⟨by simp;omega,by simp;omega⟩,bV⟩ (H.weakC av (by simp[hd,a1]) (by simp[aJ]))
        ·rw[if_neg Ω]at bV;rw[<-bV]at dj;rw[es];refine bP.whl ((i,s+1),nI) (by simp;omega) ⟨a1,⟨by simp;omega,by simp;omega,by simp;omega⟩,by simp only[em];exact dj⟩ (H.weakC av (by simpa using a1) (by simp[aJ]))
      ·rw[if_neg Dh]at dj;have yq:¬(2:Int)<=(i:Int)-a:=Ω
       simp;(with_reducible repeat' first|refine aj ?_|simp[yq,uj]);try simp
       try(with_reducible repeat' first|refine aj ?_|simp[Pv.look,H.slc,H.ssc,uj])
       rw[p9];refine H.loopA av [1,2,3,7,8] (fun(x:Nat×Array α)=>[(10,.int .i64 x.1)]) (·.2) (fun x=>b-x.1) (fun x=>x.2.size=n/\(i+1<=x.1/\x.1<=b)/\Sort.shiftUp lt b x.1 x.2=Sort.shiftUp lt b (i+1) d2) (i+1,d2) s2 ⟨s2,⟨Ψ,by simp;omega⟩,rfl⟩ (by simp[Pv.look]) aL aL (by simp[aJ]) ?_;rintro⟨q,nI⟩ ⟨a1,⟨bp,zb⟩,bV⟩;simp only at a1 bp zb bV;rw[Sort.shiftUp]at bV;have eq:((q:Int)-1)=(q-1:Nat):=Ω
       have CO:((q:Int)+1)=(q+1:Nat):=Ω
       simp[Pv.look,H.slc,H.ssc];((with_reducible repeat' first|refine aj ?_|simp[Pv.look,H.slc,H.ssc]|((first|apply bL|apply bN|apply bM)<;>intro h<;>try simp at h))<;>(try exact cm))
       ·rw[if_pos Ω]at bV;rw[eq];refine H.lessA a1 q (q-1) Ω Ω fun o=>?_;cases ba:lt nI[q]! nI[q-1]!
        ·rw[if_pos (by simp[ba])]at bV;rw[<-bV]at dj;simp;(with_reducible repeat' first|refine aj ?_|simp);rw[es];refine bP.whl ((i,s+1),nI) (by simp;omega) ⟨a1,⟨by simp;omega,by simp;omega,by simp;omega⟩,by simp only[em];exact dj⟩ (H.weakC av (by simpa using a1) (by simp[aJ]))
        ·rw[if_neg (by simp[ba])]at bV;simp;(with_reducible repeat' first|refine aj ?_|simp[Pv.look,H.slc,H.ssc]);rw[eq];refine H.swapA a1 Ω q (q-1) Ω Ω fun o=>?_;simp;((with_reducible repeat' first|refine aj ?_|simp|((first|apply bL|apply bN|apply bM)<;>intro h<;>try simp at h))<;>(try exact cm));rw[CO];refine bP.whl (q+1,Sort.swp nI q (q-1)) (by simp;omega) ⟨by rw[hd,a1],⟨by simp;omega,by simp;omega⟩,bV⟩ (H.weakC av (by simp[hd,a1]) (by simp[aJ]))
       ·rw[if_neg Ω]at bV;rw[<-bV]at dj;rw[es];refine bP.whl ((i,s+1),nI) (by simp;omega) ⟨a1,⟨by simp;omega,by simp;omega,by simp;omega⟩,by simp only[em];exact dj⟩ (H.weakC av (by simpa using a1) (by simp[aJ]))
     ·rw[if_neg mf]at dj;have uj:¬(2:Int)<=(b:Int)-i:=Ω
      by_cases Dh:2<=i-a
      ·rw[if_pos Dh]at dj;have yq:(2:Int)<=(i:Int)-a:=Ω
       simp;(with_reducible repeat' first|refine aj ?_|simp[yq]);rw[Gt];refine H.loopA av [1,2,3,7,8] (fun(x:Nat×Array α)=>[(9,.int .i64 x.1)]) (·.2) (fun x=>x.1) (fun x=>x.2.size=n/\x.1<=i-1/\Sort.shiftDown lt x.1 x.2=Sort.shiftDown lt (i-1) d2) (i-1,d2) s2 ⟨s2,Ψ,rfl⟩ (by simp[Pv.look]) aL aL (by simp[aJ]) ?_;rintro⟨j,fU⟩ ⟨hK,w3,hz⟩;simp only at hK w3 hz;simp[Pv.look,H.slc,H.ssc];((with_reducible repeat' first|refine aj ?_|simp[Pv.look,H.slc,H.ssc,uj]|((first|apply bL|apply bN|apply bM)<;>intro h<;>try simp at h))<;>(try exact cm))
       ·obtain⟨j,rfl⟩:∃dG,j=dG+1:=⟨j-1,Ω⟩;have pc:(((j+1:Nat):Int)-1)=(j:Nat):=Ω
        rw[Sort.shiftDown]at hz;try rw[pc]
        refine H.lessA hK (j+1) j Ω Ω fun o=>?_;cases aC:lt fU[j+1]! fU[j]!
        ·rw[if_pos (by simp[aC])]at hz;rw[<-hz]at dj;try simp
         try(with_reducible repeat' first|refine aj ?_|simp[Pv.look,H.slc,H.ssc,uj])
         rw[es];refine bP.whl ((i,s+1),fU) (by simp;omega) ⟨hK,⟨by simp;omega,by simp;omega,by simp;omega⟩,by simp only[em];exact dj⟩ (H.weakC av (by simpa using hK) (by simp[aJ]))
        ·rw[if_neg (by simp[aC])]at hz;simp;(with_reducible repeat' first|refine aj ?_|simp[Pv.look,H.slc,H.ssc]);try rw[pc]
         refine H.swapA hK U (j+1) j Ω Ω fun o=>?_;simp;((with_reducible repeat' first|refine aj ?_|simp|((first|apply bL|apply bN|apply bM)<;>intro h<;>try simp at h))<;>(try exact cm));try rw[pc]
         refine bP.whl (j,Sort.swp fU (j+1) j) Ψ ⟨by rw[hd,hK],by simp;omega,hz⟩ (H.weakC av (by simp[hd,hK]) (by simp[aJ]))
       ·obtain rfl:j=0:=Ω
        rw[Sort.shiftDown]at hz;rw[<-hz]at dj;try simp
        try(with_reducible repeat' first|refine aj ?_|simp[Pv.look,H.slc,H.ssc,uj])
        rw[es];refine bP.whl ((i,s+1),fU) (by simp;omega) ⟨hK,⟨by simp;omega,by simp;omega,by simp;omega⟩,by simp only[em];exact dj⟩ (H.weakC av (by simpa using hK) (by simp[aJ]))
      ·rw[if_neg Dh]at dj;have yq:¬(2:Int)<=(i:Int)-a:=Ω
       simp;((with_reducible repeat' first|refine aj ?_|simp[yq,uj]|((first|apply bL|apply bN|apply bM)<;>intro h<;>try simp at h))<;>(try exact cm));done
  ·rw[if_neg (by simp;omega)]at i3;simp only[<-i3]at dj;rw[if_pos Ω]at dj;refine H.retR av (d:=cv) aP (.inl rfl) ?_;simp[cW,IE,aU,aW,aT];rw[<-dj];exact⟨rfl,_,rfl,rfl,aP⟩
 ·have:5-s=0:=Ω
  rw[this,Sort.partialIns]at dj;refine H.retR av (d:=cv) aP (.inl rfl) ?_;simp[cW,IE,aU,aW,aT];rw[<-dj];exact⟨rfl,_,rfl,rfl,aP⟩
end
section
open Go Go.Pv
variable {α:Type} [Inhabited α] {S:List α->cR} {n g cf:Nat} {lc b9:List ak} {lt:α->α->Bool}
def fk(S:List α->cR)(d:Array α)(v:Nat):cR:=⟨(.obj 901,[.int .i64 v])::(S d.toList).b,(S d.toList).e⟩
def s5(S:List α->cR)(m:Nat):Prop:= ∀l,Pv.look (.obj m) (S l).b=none/\Pv.look (.obj m) (S l).e=none
theorem ou(H:fb S n g cf lc b9 lt)(d:Array α)(v:Nat):dM (fk S d v):=by
 have h:=H.ok d.toList;have jw:∀k,inObs (S d.toList) k->inObs (fk S d v) k:=fun k ae=>by
  rcases ae with ae|ae
  ·refine .inl ?_;simp only[fk,Pv.look];split
   ·rfl
   ·exact ae
  ·exact .inr ae
 refine⟨⟨fun m=>?_,h.obj.2⟩,fun k cs ae=>?_,fun k o aw xs ad=>ki jw _ (h.ke k o aw xs ad)⟩
 ·simp[fk,Pv.look,h.obj.1 m]
 ·simp only[fk,Pv.look]at ae;split at ae
  ·cases ae;simp[aN,aJ]
  ·exact ki jw _ (h.kb k cs ae)
theorem tE(d:Array α)(v v':Nat):Same (fk S d v) (fk S d v'):=⟨fun k=>by simp only[fk,Pv.look];split<;>rfl,fun _=>rfl⟩
theorem Lt(H:fb S n g cf lc b9 lt)(ae:s5 S 901)(d:Array α)(aF:d.size=n)(a b v:Nat)(bm:a<n)(ab:b<n)(ay:v<=1000):
  bI ax 285 [e3 g cf lc b9,.int .i64 a,.int .i64 b,.ptr (.obj 901) 0] (fk S d v) fun r ah=>r= .tuple [.int .i64 (Sort.order2 lt d a b v).1,.int .i64 (Sort.order2 lt d a b v).2.1]/\ah=fk S d (Sort.order2 lt d a b v).2.2:=by
 have ag:=H.ok d.toList;have av:d.toList.length=n:=by simpa using aF
 have au:∀l m,Pv.look (.loc m) (S l).b=none:=fun l=>(H.ok l).obj.1;have hu:∀l m cs,cF (.loc m) cs (S l).b=(S l).b++[(.loc m,cs)]:=fun l m cs=>kr (au l m);have aw:∀m,aM.loc m∉c3 (S d.toList):=kl ag.obj;have fH:∀l,Pv.look (.obj 901) (S l).b=none:=fun l=>(ae l).1;have jZ:∀l,Pv.look (.obj 901) (S l).e=none:=fun l=>(ae l).2;have hle:=H.le;have kV:=ou H d v;obtain⟨R,bA⟩:∃R,R=Sort.order2 lt d a b v:=⟨_,rfl⟩;rw[<-bA];unfold Sort.order2 at bA;refine bI.mk mixed oS afa ame Ψ kV.obj fun aR cI=>?_;unfold RR;have l7:aM.loc 0∉c3 (fk S d v):=kl kV.obj 0;generalize vu:c3 (fk S d v)=ob at l7⊢;unfold fk;simp[e3,hu,l7,cS,au,Pv.look,cF];rw[H.slc];refine cO.ob (H.less d.toList av b a _ _ (zT Ω) (zT Ω)) (H.ok _) (fun k cs ad=>?_) (fun _ _ ad=>ad) (by simp[aJ,aN,H.klc d.toList av]) ?_
 ·simp only[Pv.look];split
  ·rename_i e;subst e;rw[fH]at ad;cases ad
  ·rw[cS,ad]
 rintro r ah ⟨rfl,rfl⟩;refine⟨Same.refl _,?_⟩;have hw:cb (S d.toList).b ((aM.obj 901,[ak.int .i64 v])::((S d.toList).b++[(aM.loc 0,[ak.func g lc,ak.func cf b9])]))=[(aM.obj 901,[ak.int .i64 v]),(aM.loc 0,[ak.func g lc,ak.func cf b9])]:=by simp only[cb,fH];rw[iW,hr];simp[cb,au]
 rw[hw,hr];have dz:∀(t:List (Nat×ak)) (o:List aM) (v':Nat) (D:List ak) (x y:Nat),Pv.get 8 t= .int .i64 x->Pv.get 9 t= .int .i64 y->R=(x,y,v')->
   cP Oj (fk S d v) (fun r ah=>r= .tuple [.int .i64 R.1,.int .i64 R.2.1]/\ah=fk S d R.2.2) .ret ⟨t,(aM.obj 901,[.int .i64 v'])::(aM.loc 0,D)::(S d.toList).b,(S d.toList).e,1,o⟩:=by
  rintro t o v' D x y ad aC rfl;refine cP.at (fk S d v') (.inl rfl) (ou H d v') (tE _ _ _) (fun k cs ar=>?_) (fun _ _ ar=>ar) ?_
  ·simp only[fk,Pv.look]at ar⊢;split at ar
   ·rename_i e;rw[if_pos e];exact ar
   ·rename_i e;rw[if_neg e];split
    ·rename_i aG;subst aG;rw[au]at ar;cases ar
    ·exact ar
  ·simp[cW,Oj,aU,aW,aT,ad,aC]
 cases ad:lt d[b]! d[a]! with
 |true=>
  rw[if_pos ad]at bA;simp[Pv.look,cF];(with_reducible repeat' first|refine aj ?_|simp[Pv.look,cF]);have aq:((v:Int)+1)=(v+1:Nat):=Ω
  rw[aq];exact dz _ _ (v+1) _ b a rfl rfl bA
 |false=>rw[if_neg (by simp[ad])]at bA;simp[Pv.look,cF];exact dz _ _ v _ a b rfl rfl bA
theorem Xy{s ah:cR}{f:Nat}{args:List ak}{r:ak}(aQ:bI ax f args s fun eQ dO=>eQ=r/\dO=ah)(ag:dM s)(fo:Same s ah)(ae:aN (inObs s) args){t:List (Nat×ak)}{D:List ak}{o:List aM}{d:Option Nat}{K:br->Prop}
  (h:∀o,K ⟨eY d r t,(.loc 0,D)::ah.b,ah.e,1,o⟩):cO ax f args ⟨t,s.b++[(.loc 0,D)],s.e,1,o⟩ d K:=by
 refine cO.ob aQ ag (fun k cs ad=>by rw[cS,ad]) (fun _ _ ad=>ad) ae ?_;rintro r ah ⟨rfl,rfl⟩;refine⟨fo,?_⟩;have aq:cb s.b (s.b++[(.loc 0,D)])=[(.loc 0,D)]:=by rw[iW,hr];simp[cb,ag.obj.1 0]
 have aG:cb s.e s.e=[]:=hr _;simp only[aq,aG];exact h _
theorem En{s ah:cR}{f:Nat}{args:List ak}{r:ak}(aQ:bI ax f args s fun eQ dO=>eQ=r/\dO=ah)(ag:dM s)(fo:Same s ah)(ae:aN (inObs s) args){t:List (Nat×ak)}{D:List ak}{o:List aM}{d:Option Nat}{K:br->Prop}
  (h:∀o,K ⟨eY d r t,(.loc 0,D)::ah.b,ah.e,1,o⟩):cO ax f args ⟨t,(.loc 0,D)::s.b,s.e,1,o⟩ d K:=by
 refine cO.ob aQ ag (fun k cs ad=>?_) (fun _ _ ad=>ad) ae ?_
 ·cases k with
  |loc m=>rw[ag.obj.1 m]at ad;cases ad
  |obj m=>simpa[Pv.look]using ad
 rintro r ah ⟨rfl,rfl⟩;refine⟨fo,?_⟩;have aq:cb s.b ((.loc 0,D)::s.b)=[(.loc 0,D)]:=by have:=iW s.b [(aM.loc 0,D)] s.b;rw[hr]at this;simpa[cb,ag.obj.1 0]using this
 have aG:cb s.e s.e=[]:=hr _;simp only[aq,aG];exact h _
theorem BA{d:Array α}{a b v n:Nat}(bm:a<n)(ab:b<n):(Sort.order2 lt d a b v).1<n/\(Sort.order2 lt d a b v).2.1<n/\(Sort.order2 lt d a b v).2.2<=v+1:=by unfold Sort.order2;split<;>simp<;>omega
theorem vD(H:fb S n g cf lc b9 lt){d:Array α}(aF:d.size=n){v:Nat}:aJ (inObs (fk S d v)) (e3 g cf lc b9)/\aJ (inObs (fk S d v)) (.ptr (.obj 901) 0):=by
 refine⟨w9 (fun k ae=>?_) _ (H.kdata (lk:=d.toList) (by simpa using aF)),by simp[aJ,inObs,fk,Pv.look]⟩;rcases ae with ae|ae
 ·refine .inl ?_;simp only[fk,Pv.look];split
  ·rfl
  ·exact ae
 ·exact .inr ae
theorem Zy(H:fb S n g cf lc b9 lt){d:Array α}{v v':Nat}{eM:List bW}{Q:ak->cR->Prop}{t:List (Nat×ak)}{D:List ak}{o:List aM}(h:cW ⟨t,(.loc 0,D)::(fk S d v').b,(S d.toList).e,1,o⟩ eM fun r=>aJ (inObs (fk S d v')) r/\Q r (fk S d v')):
  cP eM (fk S d v) Q .ret ⟨t,(.loc 0,D)::(fk S d v').b,(S d.toList).e,1,o⟩:=by
 refine cP.at (fk S d v') (.inl rfl) (ou H d v') (tE _ _ _) (fun k cs ad=>?_) (fun _ _ ar=>ar) h;cases k with
 |loc m=>rw[(ou H d v').obj.1 m]at ad;cases ad
 |obj m=>simpa[Pv.look]using ad
theorem Lq(H:fb S n g cf lc b9 lt)(ae:s5 S 901)(d:Array α)(aF:d.size=n)(a b c v:Nat)(bm:a<n)(ab:b<n)(ar:c<n)(ay:v<=900):
  bI ax 282 [e3 g cf lc b9,.int .i64 a,.int .i64 b,.int .i64 c,.ptr (.obj 901) 0] (fk S d v) fun r ah=>r= .int .i64 (Sort.median lt d a b c v).1/\ah=fk S d (Sort.median lt d a b c v).2:=by
 have kV:=ou H d v;have qf:∀v m,Pv.look (.loc m) (fk S d v).b=none:=fun v=>(ou H d v).obj.1;have Mu:∀v m cs,cF (.loc m) cs (fk S d v).b=(fk S d v).b++[(.loc m,cs)]:=fun v m cs=>kr (qf v m);have l7:aM.loc 0∉c3 (fk S d v):=kl kV.obj 0;obtain⟨R,bA⟩:∃R,R=Sort.median lt d a b c v:=⟨_,rfl⟩;rw[<-bA];unfold Sort.median at bA;have a1:=BA (lt:=lt) (d:=d) (v:=v) bm ab;have aP:=Lt H ae d aF a b v bm ab Ω;generalize Sort.order2 lt d a b v=e1 at a1 aP bA;obtain⟨tv,k5,v1⟩:=e1;simp only at a1 aP bA;have bp:=BA (lt:=lt) (d:=d) (v:=v1) a1.2.1 ar;have bd:=Lt H ae d aF k5 c v1 a1.2.1 ar Ω;generalize Sort.order2 lt d k5 c v1=fY at bp bd bA;obtain⟨zF,pP,v2⟩:=fY;simp only at bp bd bA;have bV:=BA (lt:=lt) (d:=d) (v:=v2) a1.1 bp.1;have bS:=Lt H ae d aF tv zF v2 a1.1 bp.1 Ω;generalize Sort.order2 lt d tv zF v2=qs at bV bS bA;obtain⟨tw,JB,v3⟩:=qs;simp only at bV bS bA;refine bI.mk mixed oS ae8 amc Ψ kV.obj fun aR cI=>?_;unfold RP;simp[e3,Mu,l7,cS,qf];simp only[iK H,H.slc,H.ssc,iD];refine Xy aP (ou H d v) (tE _ _ _) (by simp[aJ,aN,(vD H aF).1];exact(vD H aF).2) fun o=>?_;simp[Pv.look];simp only[iK H,H.slc,H.ssc,iD];refine En bd (ou H d v1) (tE _ _ _) (by simp[aJ,aN,(vD H aF).1];exact(vD H aF).2) fun o=>?_;simp[Pv.look];simp only[iK H,H.slc,H.ssc,iD];refine En bS (ou H d v2) (tE _ _ _) (by simp[aJ,aN,(vD H aF).1];exact(vD H aF).2) fun o=>?_;simp;refine Zy H ?_;simp[cW,YL,aU,aW,aT];rw[bA];exact⟨rfl,rfl⟩
theorem Lr(H:fb S n g cf lc b9 lt)(ae:s5 S 901)(d:Array α)(aF:d.size=n)(a v:Nat)(bm:a+1<n)(lL:1<=a)(ay:v<=900):
  bI ax 281 [e3 g cf lc b9,.int .i64 a,.ptr (.obj 901) 0] (fk S d v) fun r ah=>r= .int .i64 (Sort.medianAdjacent lt d a v).1/\ah=fk S d (Sort.medianAdjacent lt d a v).2:=by
 have kV:=ou H d v;have qf:∀v m,Pv.look (.loc m) (fk S d v).b=none:=fun v=>(ou H d v).obj.1;have Mu:∀v m cs,cF (.loc m) cs (fk S d v).b=(fk S d v).b++[(.loc m,cs)]:=fun v m cs=>kr (qf v m);have l7:aM.loc 0∉c3 (fk S d v):=kl kV.obj 0;have hle:=H.le;have aP:=Lq H ae d aF (a-1) a (a+1) v Ω Ω Ω ay;unfold Sort.medianAdjacent;refine bI.mk mixed oS ae7 amb Ψ kV.obj fun aR cI=>?_;unfold RO;have aq:((a:Int)-1)=(a-1:Nat):=Ω
 have aG:((a:Int)+1)=(a+1:Nat):=Ω
 simp[e3,Mu,l7,cS,qf];(with_reducible repeat' first|refine aj ?_|simp);simp only[iK H,H.slc,H.ssc,iD,aq,aG];refine Xy aP (ou H d v) (tE _ _ _) (by simp[aJ,aN,(vD H aF).1];exact(vD H aF).2) fun o=>?_;simp;refine Zy H ?_;simp[cW,YK,aU,aW,aT]
theorem Xz{m:Nat}(h:s5 S m)(l:List α):aM.obj m∉c3 (S l):=fun hm=>by
 rcases VT hm with J|J
 ·rw[(h l).1]at J;cases J
 ·rw[(h l).2]at J;cases J
theorem Ee{d:Array α}{a b c v n:Nat}(bm:a<n)(ab:b<n)(ar:c<n):(Sort.median lt d a b c v).1<n/\(Sort.median lt d a b c v).2<=v+3:=by have a1:=BA (lt:=lt) (d:=d) (v:=v) bm ab;have bp:=BA (lt:=lt) (d:=d) (v:=(Sort.order2 lt d a b v).2.2) a1.2.1 ar;have bV:=BA (lt:=lt) (d:=d) (v:=(Sort.order2 lt d (Sort.order2 lt d a b v).2.1 c (Sort.order2 lt d a b v).2.2).2.2) a1.1 bp.1;refine⟨bV.2.1,gS bV.2.2 ?_⟩;omega
def AK:Sort.Hint->Int
 | .unknown=>0
 | .increasing=>1
 | .decreasing=>2
theorem agD(H:fb S n g cf lc b9 lt)(ae:s5 S 901)(d:Array α)(aF:d.size=n)(a b:Nat)(nP:a<b)(ab:b<=n):
  bI ax 263 [e3 g cf lc b9,.int .i64 a,.int .i64 b] (S d.toList) fun r ah=>r= .tuple [.int .i64 (Sort.choosePivot lt d a b).1,.int .i64 (AK (Sort.choosePivot lt d a b).2)]/\ah=S d.toList:=by
 have ag:=H.ok d.toList;have av:d.toList.length=n:=by simpa using aF
 have au:∀l m,Pv.look (.loc m) (S l).b=none:=fun l=>(H.ok l).obj.1;have hu:∀l m cs,cF (.loc m) cs (S l).b=(S l).b++[(.loc m,cs)]:=fun l m cs=>kr (au l m);have aw:∀m,aM.loc m∉c3 (S d.toList):=kl ag.obj;have fH:∀l,Pv.look (.obj 901) (S l).b=none:=fun l=>(ae l).1;have jZ:∀l,Pv.look (.obj 901) (S l).e=none:=fun l=>(ae l).2;have hle:=H.le;have l7:=Xz ae d.toList;obtain⟨R,bA⟩:∃R,R=Sort.choosePivot lt d a b:=⟨_,rfl⟩;rw[<-bA];unfold Sort.choosePivot at bA;refine bI.mk mixed oS ae5 al9 Ψ ag.obj fun aR cI=>?_;unfold RM;have yH:∀l D cs,cF (.obj 901) cs ((S l).b++[(.loc 0,D)])=(S l).b++[(.loc 0,D),(.obj 901,cs)]:=fun l D cs=>by rw[Cc (fH l)];rfl
 obtain⟨q,bt⟩:∃q,q=(b-a)/4:=⟨_,rfl⟩;have di:nD.wrap (((b:Int)-a).tdiv 4)=(q:Nat):=by rw[show((b:Int)-a)=((b-a:Nat):Int) by omega,Int.tdiv_eq_ediv_of_nonneg Ω,mT _ Ω];omega
 simp[e3,hu,yH,aw,l7,cS,au,fH,jZ,Pv.look,cF];have dz:∀(t:List (Nat×ak)) (o:List aM) (b1:List (aM×List ak)) (x:Nat) (h:Sort.Hint),Pv.get 6 t= .int .i64 x->Pv.get 7 t= .int .i64 (AK h)->R=(x,h)->(∀k cs,Pv.look k (S d.toList).b=some cs->Pv.look k b1=some cs)->
   cP Oi (S d.toList) (fun r ah=>r= .tuple [.int .i64 R.1,.int .i64 (AK R.2)]/\ah=S d.toList) .ret ⟨t,b1,(S d.toList).e,1,o⟩:=by
  rintro t o b1 x h ad aC rfl gk;refine cP.at (S d.toList) (.inl rfl) ag (Same.refl _) gk (fun _ _ ar=>ar) ?_;simp[cW,Oi,aU,aW,aT,ad,aC]
 have AA:∀(D:List ak) (v:Nat) k cs,Pv.look k (S d.toList).b=some cs->Pv.look k ((.loc 0,D)::(fk S d v).b)=some cs:=fun D v k cs h=>by
  simp only[fk,Pv.look];split
  ·rename_i e;subst e;rw[au]at h;cases h
  ·split
   ·rename_i e;subst e;rw[fH]at h;cases h
   ·exact h
 have UO:∀{f:Nat} {args:List ak} {r:ak} {v:Nat},(bI ax f args (fk S d 0) fun eQ dO=>eQ=r/\dO=fk S d v)->aN (inObs (fk S d 0)) args->∀{t:List (Nat×ak)} {D:List ak} {o:List aM} {cn:Option Nat} {K:br->Prop},(∀o,K ⟨eY cn r t,(.loc 0,D)::(fk S d v).b,(S d.toList).e,1,o⟩)->
   cO ax f args ⟨t,(S d.toList).b++[(.loc 0,D),(.obj 901,[.int .i64 0])],(S d.toList).e,1,o⟩ cn K:=by
  intro f args r v aQ hI t D o cn K h;refine cO.ob aQ (ou H d 0) (fun k cs ad=>?_) (fun _ _ ad=>ad) hI ?_
  ·simp only[fk,Pv.look]at ad;rw[cS];split at ad
   ·rename_i e;subst e;rw[fH];simp[Pv.look];simpa using ad
   ·rw[ad]
  rintro r ah ⟨rfl,rfl⟩;refine⟨tE _ _ _,?_⟩;have aq:cb (fk S d 0).b ((S d.toList).b++[(.loc 0,D),(.obj 901,[.int .i64 0])])=[(.loc 0,D)]:=by
   rw[iW];have:cb (fk S d 0).b (S d.toList).b=[]:=PZ _ _ fun k x hm=>by
    have:=vI hm;simp only[fk,Pv.look];split
    ·rfl
    ·exact this
   rw[this];simp[cb,fk,Pv.look,au]
  have aG:cb (fk S d 0).e (S d.toList).e=[]:=hr _;simp only[aq,aG];exact h _
 have hI:=fun(v:Nat)=>(vD H aF (v:=v));have f1:((a:Int)+q)=(a+q:Nat):=Ω
 have f2:((a:Int)+q*2)=(a+q*2:Nat):=Ω
 have f3:((a:Int)+q*3)=(a+q*3:Nat):=Ω
 dsimp only at bA;rw[<-bt,Nat.mul_one]at bA;by_cases ll:b-a<8
 ·have GO:¬(8:Int)<=(b:Int)-a:=Ω
  (with_reducible repeat' first|refine aj ?_|simp[GO,di,hu,yH,aw,l7,cS,au,fH,jZ,Pv.look,cF]);rw[f2];refine dz _ _ _ (a+q*2) .increasing rfl rfl (by rw[bA,if_neg Ω];simp) (fun k cs h=>by rw[cS,h])
 ·have GO:(8:Int)<=(b:Int)-a:=Ω
  by_cases asw:b-a<50
  ·have Lx:¬(50:Int)<=(b:Int)-a:=Ω
   (with_reducible repeat' first|refine aj ?_|simp[GO,Lx,di,hu,yH,aw,l7,cS,au,fH,jZ,Pv.look,cF]);simp only[iK H,H.slc,H.ssc,iD,f1,f2,f3];have aP:=Lq H ae d aF (a+q) (a+q*2) (a+q*3) 0 Ω Ω Ω Ω;have bd:=Ee (lt:=lt) (d:=d) (a:=a+q) (b:=a+q*2) (c:=a+q*3) (v:=0) (n:=n) Ω Ω Ω;rw[if_pos Ω,if_neg Ω]at bA;generalize Sort.median lt d (a+q) (a+q*2) (a+q*3) 0=m at aP bd bA;obtain⟨x,v⟩:=m;refine UO aP (by simp[aJ,aN,(hI 0).1];exact(hI 0).2) fun o=>?_;have yJ:((v:Int)==0)=decide (v=0):=by rw[q4];simp
   have DI:((v:Int)==12)=decide (v=12):=by rw[q4];simp;omega
   simp[Pv.look,fk];rcases(by omega:v=0\/v=12\/(v≠0/\v≠12))with bE|bE|bE
   ·have ad:((v:Int)==0)=true:=by rw[yJ];simp[bE]
    (with_reducible repeat' first|refine aj ?_|simp[ad]);all_goals exact dz _ _ _ x .increasing rfl rfl (by rw[bA];simp[bE]) (AA _ v)
   ·have ad:((v:Int)==0)=false:=by rw[yJ];simp[bE]
    have lO:((v:Int)==12)=true:=by rw[DI];simp[bE]
    (with_reducible repeat' first|refine aj ?_|simp[ad,lO]);all_goals exact dz _ _ _ x .decreasing rfl rfl (by rw[bA];simp[bE]) (AA _ v)
   ·have ad:((v:Int)==0)=false:=by rw[yJ];simp[bE.1]
    have lO:((v:Int)==12)=false:=by rw[DI];simp[bE.2]
    (with_reducible repeat' first|refine aj ?_|simp[ad,lO]);all_goals exact dz _ _ _ x .unknown rfl rfl (by rw[bA];simp[bE]) (AA _ v)
  ·have Lx:(50:Int)<=(b:Int)-a:=Ω
   (with_reducible repeat' first|refine aj ?_|simp[GO,Lx,di,hu,yH,aw,l7,cS,au,fH,jZ,Pv.look,cF]);simp only[iK H,H.slc,H.ssc,iD,f1,f2,f3];rw[if_pos Ω,if_pos Ω]at bA;have aP:=Lr H ae d aF (a+q) 0 Ω Ω Ω;have DX:=Ee (lt:=lt) (d:=d) (a:=a+q-1) (b:=a+q) (c:=a+q+1) (v:=0) (n:=n) Ω Ω Ω;change (Sort.medianAdjacent lt d (a+q) 0).1<n/\(Sort.medianAdjacent lt d (a+q) 0).2<=0+3 at DX;generalize Sort.medianAdjacent lt d (a+q) 0=m1 at aP DX bA;obtain⟨tv,v1⟩:=m1;simp only at aP DX bA;have bd:=Lr H ae d aF (a+q*2) v1 Ω Ω Ω;have DY:=Ee (lt:=lt) (d:=d) (a:=a+q*2-1) (b:=a+q*2) (c:=a+q*2+1) (v:=v1) (n:=n) Ω Ω Ω;change (Sort.medianAdjacent lt d (a+q*2) v1).1<n/\(Sort.medianAdjacent lt d (a+q*2) v1).2<=v1+3 at DY;generalize Sort.medianAdjacent lt d (a+q*2) v1=m2 at bd DY bA;obtain⟨zF,v2⟩:=m2;simp only at bd DY bA;have bS:=Lr H ae d aF (a+q*3) v2 Ω Ω Ω;have DZ:=Ee (lt:=lt) (d:=d) (a:=a+q*3-1) (b:=a+q*3) (c:=a+q*3+1) (v:=v2) (n:=n) Ω Ω Ω;change (Sort.medianAdjacent lt d (a+q*3) v2).1<n/\(Sort.medianAdjacent lt d (a+q*3) v2).2<=v2+3 at DZ;generalize Sort.medianAdjacent lt d (a+q*3) v2=m3 at bS DZ bA;obtain⟨tw,v3⟩:=m3;simp only at bS DZ bA;have ea:=Lq H ae d aF tv zF tw v3 DX.1 DY.1 DZ.1 Ω;have Wk:=Ee (lt:=lt) (d:=d) (v:=v3) DX.1 DY.1 DZ.1;generalize Sort.median lt d tv zF tw v3=m4 at ea Wk bA;obtain⟨x,v⟩:=m4;simp only at ea Wk bA;refine UO aP (by simp[aJ,aN,(hI 0).1];exact(hI 0).2) fun o=>?_;simp[Pv.look];simp only[iK H,H.slc,H.ssc,iD,f1,f2,f3];refine En bd (ou H d v1) (tE _ _ _) (by simp[aJ,aN,(hI v1).1];exact(hI v1).2) fun o=>?_;simp[Pv.look];simp only[iK H,H.slc,H.ssc,iD,f1,f2,f3];refine En bS (ou H d v2) (tE _ _ _) (by simp[aJ,aN,(hI v2).1];exact(hI v2).2) fun o=>?_;simp[Pv.look];simp only[iK H,H.slc,H.ssc,iD,f1,f2,f3];refine En ea (ou H d v3) (tE _ _ _) (by simp[aJ,aN,(hI v3).1];exact(hI v3).2) fun o=>?_;have yJ:((v:Int)==0)=decide (v=0):=by rw[q4];simp
   have DI:((v:Int)==12)=decide (v=12):=by rw[q4];simp;omega
   simp[Pv.look,fk];rcases(by omega:v=0\/v=12\/(v≠0/\v≠12))with bE|bE|bE
   ·have ad:((v:Int)==0)=true:=by rw[yJ];simp[bE]
    (with_reducible repeat' first|refine aj ?_|simp[ad]);all_goals exact dz _ _ _ x .increasing rfl rfl (by rw[bA];simp[bE]) (AA _ v)
   ·have ad:((v:Int)==0)=false:=by rw[yJ];simp[bE]
    have lO:((v:Int)==12)=true:=by rw[DI];simp[bE]
    (with_reducible repeat' first|refine aj ?_|simp[ad,lO]);all_goals exact dz _ _ _ x .decreasing rfl rfl (by rw[bA];simp[bE]) (AA _ v)
   ·have ad:((v:Int)==0)=false:=by rw[yJ];simp[bE.1]
    have lO:((v:Int)==12)=false:=by rw[DI];simp[bE.2]
    (with_reducible repeat' first|refine aj ?_|simp[ad,lO]);all_goals exact dz _ _ _ x .unknown rfl rfl (by rw[bA];simp[bE]) (AA _ v)
end
section
open Go Go.Pv
variable {α:Type} [Inhabited α] {S:List α->cR} {n g cf:Nat} {lc b9:List ak} {lt:α->α->Bool}
theorem apn:∀x:Nat,x<256->((([0,1,2,2,3,3,3,3,4,4,4,4,4,4,4,4,5,5,5,5,5,5,5,5,5,5,5,5,5,5,5,5,6,6,6,6,6,6,6,6,6,6,6,6,6,6,6,6,6,6,6,6,6,6,6,6,6,6,6,6,6,6,6,6,7,7,7,7,7,7,7,7,7,7,7,7,7,7,7,7,7,7,7,7,7,7,7,7,7,7,7,7,7,7,7,7,7,7,7,7,7,7,7,7,7,7,7,7,7,7,7,7,7,7,7,7,7,7,7,7,7,7,7,7,7,7,7,7,8,8,8,8,8,8,8,8,8,8,8,8,8,8,8,8,8,8,8,8,8,8,8,8,8,8,8,8,8,8,8,8,8,8,8,8,8,8,8,8,8,8,8,8,8,8,8,8,8,8,8,8,8,8,8,8,8,8,8,8,8,8,8,8,8,8,8,8,8,8,8,8,8,8,8,8,8,8,8,8,8,8,8,8,8,8,8,8,8,8,8,8,8,8,8,8,8,8,8,8,8,8,8,8,8,8,8,8,8,8,8,8,8,8,8,8,8,8,8,8,8,8,8,8,8,8,8,8]:List c0)[x]?).getD 0).toNat=Sort.bitsLen x:=by decide+kernel
theorem CY(x:Int):x.fdiv (2 ^ (min 32 hF.bits))=x/4294967296:=by rw[show(2:Int) ^ (min 32 hF.bits)=4294967296 from by decide,Int.fdiv_eq_ediv_of_nonneg _ Ω]
theorem CX(x:Int):x.fdiv (2 ^ (min 16 hF.bits))=x/65536:=by rw[show(2:Int) ^ (min 16 hF.bits)=65536 from by decide,Int.fdiv_eq_ediv_of_nonneg _ Ω]
theorem CZ(x:Int):x.fdiv (2 ^ (min 8 hF.bits))=x/256:=by rw[show(2:Int) ^ (min 8 hF.bits)=256 from by decide,Int.fdiv_eq_ediv_of_nonneg _ Ω]
theorem Fb(x:Nat)(h:x<256):IntKind.u8.wrap (x:Int)=x:=by simp[tz,oh,r3];omega
theorem J6(x k:Nat)(h:2 ^ k<=x):Sort.bitsLen x=Sort.bitsLen (x/2 ^ k)+k:=by
 have ad:x≠0:=by have:=Nat.two_pow_pos k;omega
 have bt:x/2 ^ k≠0:=by have:=Nat.div_pos h (Nat.two_pow_pos k);omega
 unfold Sort.bitsLen;rw[if_neg ad,if_neg bt];have av:=Nat.log2_lt ad (k:=Nat.log2 (x/2 ^ k)+k+1);have J:Nat.log2 (x/2 ^ k)+k<=Nat.log2 x:=by
  rw[Nat.le_log2 ad,Nat.pow_add];have:=Nat.log2_self_le bt;calc 2 ^ (x/2 ^ k).log2*2 ^ k<=(x/2 ^ k)*2 ^ k:=pV _ this
   _<=x:=Nat.div_mul_le_self x _
 have U:Nat.log2 x<Nat.log2 (x/2 ^ k)+k+1:=by rw[av,show Nat.log2 (x/2 ^ k)+k+1=(Nat.log2 (x/2 ^ k)+1)+k by omega,Nat.pow_add];have:=Nat.lt_log2_self (n:=x/2 ^ k);exact(Nat.div_lt_iff_lt_mul (Nat.two_pow_pos k)).1 this
 omega
set_option maxRecDepth 20000 in
theorem apT(x:Nat)(ad:x<1099511627776):bQ ax 259 [.int .u64 x] (.int .i64 (Sort.bitsLen x)):=by
 refine bQ.mk mixed oS ae2 al5 Ψ (by simp[aJ]) fun aR=>?_;unfold RJ;have aH:=apn;generalize UB:([0,1,2,2,3,3,3,3,4,4,4,4,4,4,4,4,5,5,5,5,5,5,5,5,5,5,5,5,5,5,5,5,6,6,6,6,6,6,6,6,6,6,6,6,6,6,6,6,6,6,6,6,6,6,6,6,6,6,6,6,6,6,6,6,7,7,7,7,7,7,7,7,7,7,7,7,7,7,7,7,7,7,7,7,7,7,7,7,7,7,7,7,7,7,7,7,7,7,7,7,7,7,7,7,7,7,7,7,7,7,7,7,7,7,7,7,7,7,7,7,7,7,7,7,7,7,7,7,8,8,8,8,8,8,8,8,8,8,8,8,8,8,8,8,8,8,8,8,8,8,8,8,8,8,8,8,8,8,8,8,8,8,8,8,8,8,8,8,8,8,8,8,8,8,8,8,8,8,8,8,8,8,8,8,8,8,8,8,8,8,8,8,8,8,8,8,8,8,8,8,8,8,8,8,8,8,8,8,8,8,8,8,8,8,8,8,8,8,8,8,8,8,8,8,8,8,8,8,8,8,8,8,8,8,8,8,8,8,8,8,8,8,8,8,8,8,8,8,8,8,8,8,8,8,8,8]:List c0)=tab at aH⊢;have Ay:tab.length=256:=by rw[<-UB];rfl
 clear UB;simp[Ay];have ab:∀y:Nat,y<256->Sort.bitsLen y<=8:=by decide+kernel
 have aiV:4294967296<=x->Sort.bitsLen x=Sort.bitsLen (x/4294967296)+32:=fun h=>J6 x 32 h;have Vx:∀y,65536<=y->Sort.bitsLen y=Sort.bitsLen (y/65536)+16:=fun y h=>J6 y 16 h;have VA:∀y,256<=y->Sort.bitsLen y=Sort.bitsLen (y/256)+8:=fun y h=>J6 y 8 h;by_cases J:4294967296<=x
 ·have oC:(4294967296:Int)<=x:=Ω
  have g1:¬(65536:Int)<=(x:Int)/4294967296:=Ω
  have g3:¬(256:Int)<=(x:Int)/4294967296:=Ω
  (with_reducible repeat' first|refine aj ?_|simp[oC,g1,g3,CY,CX,CZ,Ay]);have aC:x/4294967296<256:=Ω
  have l4:=ab _ aC;have eX:(x:Int)/4294967296=((x/4294967296:Nat):Int):=Ω
  rw[eX,Fb _ aC,Int.toNat_natCast];refine⟨Ω,?_⟩;have e:=aH _ aC;rw[e,mT _ Ω];refine⟨by unfold pE;omega,?_⟩;simp[bk,BL,aU,aW,aT];try((rw[aiV J])<;>omega)
 ·have oC:¬(4294967296:Int)<=x:=Ω
  by_cases U:65536<=x
  ·have g2:(65536:Int)<=x:=Ω
   by_cases ao:256<=x/65536
   ·have g3:(256:Int)<=(x:Int)/65536:=Ω
    (with_reducible repeat' first|refine aj ?_|simp[oC,g2,g3,CY,CX,CZ,Ay]);have aC:x/65536/256<256:=Ω
    have l4:=ab _ aC;have eX:(x:Int)/65536/256=((x/65536/256:Nat):Int):=Ω
    rw[eX,Fb _ aC,Int.toNat_natCast];refine⟨Ω,?_⟩;have e:=aH _ aC;rw[e,mT _ Ω];refine⟨by unfold pE;omega,?_⟩;simp[bk,BL,aU,aW,aT];try((rw[Vx x U,VA _ ao])<;>omega)
   ·have g3:¬(256:Int)<=(x:Int)/65536:=Ω
    (with_reducible repeat' first|refine aj ?_|simp[oC,g2,g3,CY,CX,CZ,Ay]);have aC:x/65536<256:=Ω
    have l4:=ab _ aC;have eX:(x:Int)/65536=((x/65536:Nat):Int):=Ω
    rw[eX,Fb _ aC,Int.toNat_natCast];refine⟨Ω,?_⟩;have e:=aH _ aC;rw[e,mT _ Ω];refine⟨by unfold pE;omega,?_⟩;simp[bk,BL,aU,aW,aT];try((rw[Vx x U])<;>omega)
  ·have g2:¬(65536:Int)<=x:=Ω
   by_cases ao:256<=x
   ·have g3:(256:Int)<=x:=Ω
    (with_reducible repeat' first|refine aj ?_|simp[oC,g2,g3,CY,CX,CZ,Ay]);have aC:x/256<256:=Ω
    have l4:=ab _ aC;have eX:(x:Int)/256=((x/256:Nat):Int):=Ω
    rw[eX,Fb _ aC,Int.toNat_natCast];refine⟨Ω,?_⟩;have e:=aH _ aC;rw[e,mT _ Ω];refine⟨by unfold pE;omega,?_⟩;simp[bk,BL,aU,aW,aT];try((rw[VA x ao])<;>omega)
   ·have g3:¬(256:Int)<=x:=Ω
    (with_reducible repeat' first|refine aj ?_|simp[oC,g2,g3,CY,CX,CZ,Ay]);have aC:x<256:=Ω
    have l4:=ab _ aC;have eX:(x:Int)=((x:Nat):Int):=Ω
    rw[eX,Fb _ aC,Int.toNat_natCast];refine⟨Ω,?_⟩;have e:=aH _ aC;rw[e,mT _ Ω];refine⟨by unfold pE;omega,?_⟩;simp[bk,BL,aU,aW,aT];try((rw[show Sort.bitsLen x=Sort.bitsLen x from rfl])<;>omega)
theorem apS(x:Nat)(ad:x<1099511627776):bQ ax 209 [.int .u64 x] (.int .i64 (Sort.bitsLen x)):=by refine bQ.mk mixed oS ae1 al4 Ψ (by simp[aJ]) fun aR=>?_;unfold RI;have aki:=apT x ad;exact cp
theorem ab7(x:Nat)(ad:x<1099511627776):Sort.bitsLen x<=40:=by
 unfold Sort.bitsLen;split
 ·omega
 ·rename_i h;have:=(Nat.log2_lt h (k:=40)).2 Ω;omega
theorem apw{x:Nat}(h:x≠0):2 ^ Sort.bitsLen x<=2*x/\x<2 ^ Sort.bitsLen x:=by unfold Sort.bitsLen;rw[if_neg h];have J:=Nat.log2_self_le h;have U:=Nat.lt_log2_self (n:=x);rw[Nat.pow_succ];rw[Nat.pow_succ]at U;omega
theorem aqu(x:Nat)(ad:x<1099511627776):bQ ax 279 [.int .i64 x] (.int .u64 (1<<<Sort.bitsLen x:Nat)):=by
 have ab:=ab7 x ad;have aq:hF.wrap ((x:Nat):Int)=x:=by simp[tz,oh,r3];omega
 have aG:hF.wrap ((Sort.bitsLen x:Nat):Int)=Sort.bitsLen x:=by simp[tz,oh,r3];omega
 refine bQ.mk mixed oS ae9 amd Ψ (by simp[aJ]) fun aR=>?_;unfold RQ;simp[aq];refine cO.val Ψ (apS x ad) ?_;simp[aq,aG];simp[bk,YM,aU,aW,aT];have hm:min (Sort.bitsLen x) hF.bits=Sort.bitsLen x:=by simp[oh];omega
 have bD:2 ^ Sort.bitsLen x<=2 ^ 40:=Nat.pow_le_pow_right Ω ab;rw[hm];have ar:((2:Int) ^ Sort.bitsLen x)=((2 ^ Sort.bitsLen x:Nat):Int):=by simp
 have pn:((1<<<Sort.bitsLen x:Nat):Int)=((2 ^ Sort.bitsLen x:Nat):Int):=by rw[Nat.one_shiftLeft]
 have rA:hF.wrap ((2:Int) ^ Sort.bitsLen x)=((1<<<Sort.bitsLen x:Nat):Int):=by rw[ar,pn];generalize 2 ^ Sort.bitsLen x=y at bD;simp[tz,oh,r3];omega
 simpa using rA
def nG(r:Nat):cR:=⟨[(.obj 902,[.int .u64 r])],[]⟩
theorem JO(r:Nat):dM (nG r):=by unfold nG;exact(dM.of ⟨by intro m;simp[Pv.look],by intro m;simp[Pv.look]⟩ (by simp[aN,aJ,inObs,Pv.look]) (by simp[aN,aJ,inObs,Pv.look]))
theorem Qe(a b:Nat):Same (nG a) (nG b):=⟨fun k=>by simp only[nG,Pv.look];split<;>rfl,fun _=>rfl⟩
theorem J8(a b:Nat)(bm:a<18446744073709551616)(ab:b<18446744073709551616):hF.wrap ((mr hF.bits (a:Int) ^^^ mr hF.bits (b:Int)).toNat:Int)=(a ^^^ b:Nat):=by
 have ao:a ^^^ b<18446744073709551616:=Nat.xor_lt_two_pow (n:=64) bm ab;have e:(mr hF.bits (a:Int) ^^^ mr hF.bits (b:Int)).toNat=a ^^^ b:=by
  rw[BitVec.toNat_xor,BitVec.toNat_ofInt,BitVec.toNat_ofInt];have aq:((a:Int)%(2 ^ hF.bits:Nat)).toNat=a:=by simp[oh];omega
  have aG:((b:Int)%(2 ^ hF.bits:Nat)).toNat=b:=by simp[oh];omega
  rw[aq,aG]
 rw[e];generalize a ^^^ b=c at ao;simp[tz,oh,r3];omega
theorem aoQ(r:Nat):hF.wrap ((r:Int)*2 ^ (min 13 hF.bits))=(r*8192%18446744073709551616:Nat):=by simp[tz,oh,r3]
theorem aoR(r:Nat):hF.wrap ((r:Int)*2 ^ (min 17 hF.bits))=(r*131072%18446744073709551616:Nat):=by simp[tz,oh,r3]
theorem aoS(r:Nat):((r:Int)).fdiv (2 ^ (min 7 hF.bits))=(r/128:Nat):=by rw[show(2:Int) ^ (min 7 hF.bits)=128 from by decide,Int.fdiv_eq_ediv_of_nonneg _ Ω];omega
theorem agx(r:Nat)(aK:r<18446744073709551616):bI ax 280 [.ptr (.obj 902) 0] (nG r) fun eQ ah=>eQ= .int .u64 (Sort.xorNextN r)/\ah=nG (Sort.xorNextN r):=by
 have ag:=JO r;unfold nG at ag⊢;refine bI.mk mixed oS afl amp Ψ ag.obj fun aR cI=>?_;unfold R4;obtain⟨m1,Dt⟩:∃m,m=r*8192%18446744073709551616:=⟨_,rfl⟩;have s1:=aoQ r;rw[<-Dt]at s1;have kj:m1<18446744073709551616:=Ω
 obtain⟨bC,lL⟩:∃m,m=r ^^^ m1:=⟨_,rfl⟩;have t1:=J8 r m1 aK kj;rw[<-lL]at t1;have WL:bC<18446744073709551616:=by rw[lL];exact Nat.xor_lt_two_pow (n:=64) aK kj
 obtain⟨m2,L2⟩:∃m,m=bC/128:=⟨_,rfl⟩;have s2:=aoS bC;rw[<-L2]at s2;have ho:m2<18446744073709551616:=Ω
 obtain⟨a2,qH⟩:∃m,m=bC ^^^ m2:=⟨_,rfl⟩;have t2:=J8 bC m2 WL ho;rw[<-qH]at t2;have akk:a2<18446744073709551616:=by rw[qH];exact Nat.xor_lt_two_pow (n:=64) WL ho
 obtain⟨m3,Vg⟩:∃m,m=a2*131072%18446744073709551616:=⟨_,rfl⟩;have s3:=aoR a2;rw[<-Vg]at s3;have akj:m3<18446744073709551616:=Ω
 obtain⟨a3,GR⟩:∃m,m=a2 ^^^ m3:=⟨_,rfl⟩;have t3:=J8 a2 m3 akk akj;rw[<-GR]at t3;have bA:Sort.xorNextN r=a3:=by unfold Sort.xorNextN;simp only[<-Dt,<-lL,<-L2,<-qH,<-Vg,<-GR]
 rw[bA];simp[-BitVec.toNat_xor,-BitVec.ofInt_natCast,s1,t1,s2,t2,s3,t3];have a6:=JO a3;have b7:=Qe r a3;unfold nG at a6 b7;refine cP.at _ (.inl rfl) a6 b7 aL aL ?_;simp[cW,YP,aU,aW,aT]
end
section
open Go Go.Pv
variable {α:Type} [Inhabited α] {S:List α->cR} {n g cf:Nat} {lc b9:List ak} {lt:α->α->Bool}
theorem ab2(a b:Nat)(bm:a<18446744073709551616)(ab:b<18446744073709551616):hF.wrap ((mr hF.bits (a:Int)&&& mr hF.bits (b:Int)).toNat:Int)=(a&&& b:Nat):=by
 have ao:a&&& b<18446744073709551616:=Nat.lt_of_le_of_lt Nat.and_le_left bm;have e:(mr hF.bits (a:Int)&&& mr hF.bits (b:Int)).toNat=a&&& b:=by
  rw[BitVec.toNat_and,BitVec.toNat_ofInt,BitVec.toNat_ofInt];have aq:((a:Int)%(2 ^ hF.bits:Nat)).toNat=a:=by simp[oh];omega
  have aG:((b:Int)%(2 ^ hF.bits:Nat)).toNat=b:=by simp[oh];omega
  rw[aq,aG]
 rw[e];generalize a&&& b=c at ao;simp[tz,oh,r3];omega
def zU(a len M i0:Nat)(d:Array α):Nat->UInt64×Array α
 |0=>(UInt64.ofNat len,d)
 |k+1=>Sort.breakStep a len M (zU a len M i0 d k) (i0+k)
theorem aca(d:Array α)(a b:Nat)(h:8<=b-a):Sort.breakPatterns d a b=(zU a (b-a) (1<<<Sort.bitsLen (b-a)) (a+(b-a)/4*2-1) d 3).2:=by unfold Sort.breakPatterns;simp only[if_pos h,zU];rfl
theorem aaX{ob O:List aM}{ah:cR}(fe:dM ah)(ds:∀k,inObs ah k->k∈O)(vu:∀k∈ob,k∈O){st:br}{dO:List (Nat×ak)}{L:List (aM×List ak)}{n:Nat}(aH:∀x∈dO,Pv.get x.1 st.t=x.2/\aJ (mK ah n) x.2)(gU:∀x∈L,Pv.look x.1 st.b=some x.2/\mK ah n x.1/\aN (mK ah n) x.2)
  (ab:∀k cs,Pv.look k ah.b=some cs->Pv.look k st.b=some cs) (he:∀k o,Pv.look k ah.e=some o->Pv.look k st.e=some o):jc ob st ⟨dO,L++ah.b,ah.e,n,O⟩:=by
 have mD:∀{k},mK ah n k->¬fresh n O k:=by
  rintro k (h|⟨m,hm,rfl⟩)
  ·exact fun aQ=>aQ.2 (ds k h)
  ·intro aQ;have:=aQ.1;simp at this;omega
 refine⟨fun x ad=>⟨(aH x ad).1,w9 (fun k ae=>mD ae) _ (aH x ad).2⟩,fun k cs ae=>?_,fun k o aw=>?_,vu⟩
 ·simp only at ae;rw[cS]at ae;cases av:Pv.look k L with
  |some x=>rw[av]at ae;simp only[dE]at ae;subst ae;obtain⟨J,U,ao⟩:=gU _ (uu av);exact⟨J,mD U,ki (fun k ae=>mD ae) _ ao⟩
  |none=>rw[av]at ae;exact⟨ab k cs ae,mD (.inl (.inl (by simp[ae]))),ki (fun k ae=>mD (.inl ae)) _ (fe.kb k cs ae)⟩
 ·exact⟨he k o aw,mD (.inl (.inr (by simp at aw;simp[aw]))),fun xs ad=>ki (fun k ae=>mD (.inl ae)) _ (fe.ke k o aw xs ad)⟩
theorem PX{aqV β:Type}(s:List (aM×β)):∀(l:List (aM×aqV)),(∀k x,(k,x)∈l->Pv.look k s=none)->cb s l=l
 |[],_=>rfl
 |(k,x)::r,h=>by have J:=h k x Ψ;simp only[cb,J];rw[PX s r fun k x ad=>h k x (by simp[ad])]
def jH(S:List α->cR)(d:Array α)(r:Nat):cR:=⟨(.obj 902,[.int .u64 r])::(S d.toList).b,(S d.toList).e⟩
theorem FH(H:fb S n g cf lc b9 lt)(d:Array α)(v:Nat):dM (jH S d v):=by
 have h:=H.ok d.toList;have jw:∀k,inObs (S d.toList) k->inObs (jH S d v) k:=fun k ae=>by
  rcases ae with ae|ae
  ·refine .inl ?_;simp only[jH,Pv.look];split
   ·rfl
   ·exact ae
  ·exact .inr ae
 refine⟨⟨fun m=>?_,h.obj.2⟩,fun k cs ae=>?_,fun k o aw xs ad=>ki jw _ (h.ke k o aw xs ad)⟩
 ·simp[jH,Pv.look,h.obj.1 m]
 ·simp only[jH,Pv.look]at ae;split at ae
  ·cases ae;simp[aN,aJ]
  ·exact ki jw _ (h.kb k cs ae)
theorem aaW{ob O:List aM}{d2:Array α}{y:Nat}{D:List ak}(fe:dM (jH S d2 y))(ds:∀k,inObs (jH S d2 y) k->k∈O)(vu:∀k∈ob,k∈O){st:br}{dO:List (Nat×ak)}(aH:∀x∈dO,Pv.get x.1 st.t=x.2/\aJ (mK (jH S d2 y) 1) x.2)(bE:Pv.look (.loc 0) st.b=some D)(qG:aN (mK (jH S d2 y) 1) D)
  (ab:∀k cs,Pv.look k (jH S d2 y).b=some cs->Pv.look k st.b=some cs) (he:∀k o,Pv.look k (jH S d2 y).e=some o->Pv.look k st.e=some o):jc ob st ⟨dO,(.loc 0,D)::(.obj 902,[.int .u64 y])::(S d2.toList).b,(S d2.toList).e,1,O⟩:=
 aaX (L:=[(.loc 0,D)]) fe ds vu aH (fun x ad=>by simp only[jT]at ad;subst ad;exact⟨bE,Xw _ _ _ Ω,qG⟩) ab he
theorem agC(H:fb S n g cf lc b9 lt)(ae:s5 S 902)(d:Array α)(aF:d.size=n)(a b:Nat)(nP:a<=b)(ab:b<=n)(ll:8<=b-a):
  bI ax 262 [e3 g cf lc b9,.int .i64 a,.int .i64 b] (S d.toList) fun r ah=>r= .tuple []/\∃cn,ah=S cn.toList/\cn=Sort.breakPatterns d a b/\cn.size=n:=by
 have ag:=H.ok d.toList;have av:d.toList.length=n:=by simpa using aF
 have au:∀l m,Pv.look (.loc m) (S l).b=none:=fun l=>(H.ok l).obj.1;have hu:∀l m cs,cF (.loc m) cs (S l).b=(S l).b++[(.loc m,cs)]:=fun l m cs=>kr (au l m);have aw:∀m,aM.loc m∉c3 (S d.toList):=kl ag.obj;have fH:∀l,Pv.look (.obj 902) (S l).b=none:=fun l=>(ae l).1;have jZ:∀l,Pv.look (.obj 902) (S l).e=none:=fun l=>(ae l).2;have hle:=H.le;have l7:=Xz ae d.toList;rw[aca d a b ll];obtain⟨len,hlen⟩:∃len,len=b-a:=⟨_,rfl⟩;rw[<-hlen];obtain⟨M,gC⟩:∃M,M=1<<<Sort.bitsLen len:=⟨_,rfl⟩;rw[<-gC];have asx:len<M/\M<=2*len:=by have:=apw (x:=len) Ω;rw[gC,Nat.one_shiftLeft];omega
 obtain⟨q,bt⟩:∃q,q=len/4:=⟨_,rfl⟩;rw[<-bt];have yH:∀l D cs,cF (.obj 902) cs ((S l).b++[(.loc 0,D)])=(S l).b++[(.loc 0,D),(.obj 902,cs)]:=fun l D cs=>by rw[Cc (fH l)];rfl
 have VH:∀l D x y,cF (.obj 902) y ((S l).b++[(.loc 0,D),(.obj 902,x)])=(S l).b++[(.loc 0,D),(.obj 902,y)]:=fun l D x y=>by rw[Cc (fH l)];simp[cF]
 have el:((b:Int)-a)=(len:Nat):=Ω
 have di:nD.wrap ((len:Int).tdiv 4)=(q:Nat):=by rw[Int.tdiv_eq_ediv_of_nonneg Ω,mT _ Ω];omega
 have ew:hF.wrap (len:Int)=len:=by simp[tz,oh,r3];omega
 refine bI.mk mixed oS ae4 al8 Ψ ag.obj fun aR cI=>?_;unfold RL;have jY:=aqu len Ω;rw[<-gC]at jY;simp[e3,hu,yH,VH,aw,l7,cS,au,fH,jZ,Pv.look,cF,el,ew];have hx:nD.wrap ((len:Int)/4)=(q:Nat):=by rw[mT _ Ω];omega
 ((with_reducible repeat' first|refine aj ?_|refine aA jY ?_|refine aB jY ?_|simp[el,ew,di,hx,hu,yH,VH,aw,l7,cS,au,fH,jZ,Pv.look,cF]|((first|apply bL|apply bN|apply bM)<;>intro h<;>try simp at h))<;>(try exact cm));obtain⟨i0,Dq⟩:∃i0,i0=a+q*2-1:=⟨_,rfl⟩;rw[<-Dq];have ada:((a:Int)+q*2-1)=(i0:Nat):=Ω
 rw[ada];have ds:∀(cv:Array α) r k,inObs (jH S cv r) k->cv.size=n->k∈aM.obj 902::c3 (S d.toList):=fun cv r k h eK=>by
  have eL:=H.same d.toList cv.toList av (by simpa using eK);rcases h with h|h
  ·simp only[jH,Pv.look]at h;split at h
   ·rename_i e;subst e;simp
   ·exact o1 _ (uz (.inl (by rw[eL.b];exact h)))
  ·exact o1 _ (uz (.inr (by rw[eL.e];exact h)))
 have yx:∀(cv:Array α) r,cv.size=n->aN (mK (jH S cv r) 1) [.func g lc,.func cf b9]:=fun cv r eK=>by
  have J:=H.kdata (lk:=cv.toList) (by simpa using eK);have U:aN (inObs (S cv.toList)) [.func g lc,.func cf b9]:=by simpa[e3,aJ,aN]using J
  refine ki (fun k ae=>.inl ?_) _ U;rcases ae with ae|ae
  ·refine .inl ?_;simp only[jH,Pv.look];split
   ·rfl
   ·exact ae
  ·exact .inr ae
 have asO:∀(cv:Array α) r D k cs,Pv.look k (jH S cv r).b=some cs->Pv.look k ((.loc 0,D)::(jH S cv r).b)=some cs:=fun cv r D k cs h=>by
  cases k with
  |loc m=>rw[(FH H cv r).obj.1 m]at h;cases h
  |obj m=>simpa[Pv.look]using h
 refine pd (fun(x:Nat×UInt64×Array α)=>⟨[(1,.int .i64 a),(3,.ptr (.loc 0) 0),(6,.int .i64 len),(7,.ptr (.obj 902) 0),(8,.int .u64 M),(9,.int .i64 ((i0+x.1:Nat):Int))],[(.loc 0,[.func g lc,.func cf b9])]++(jH S x.2.2 x.2.1.toNat).b,(jH S x.2.2 x.2.1.toNat).e,1,aM.obj 902::c3 (S d.toList)⟩) (fun x=>3-x.1)
  (fun x=>x.1<=3/\x.2.2.size=n/\zU a len M i0 d x.1=x.2) (0,UInt64.ofNat len,d) ?_ ⟨Ψ,aF,rfl⟩ ?_
 ·refine aaX (FH H d _) (fun k h=>ds d _ k h aF) (fun k h=>o1 _ h) (by simp[aJ,inObs,jH,Pv.look,mK]) ?_ ?_ aL
  ·intro x ad;simp only[jT]at ad;subst ad;exact⟨by simp[cS,au,Pv.look],Xw _ _ _ Ω,yx d _ aF⟩
  ·intro k cs h;simp only[jH,Pv.look]at h;rw[cS];split at h
   ·rename_i e;subst e;rw[fH];have:(UInt64.ofNat len).toNat=len:=by simp;omega
    rw[this]at h;simpa[Pv.look]using h
   ·rw[h]
 rintro⟨k,r,cv⟩ ⟨aP,bd,bS⟩ _;simp only at aP bd bS;have aK:=r.toNat_lt;obtain⟨x,ad⟩:∃x,x=r.toNat:=⟨_,rfl⟩;rw[<-ad]at aK⊢;have kA:Sort.xorNextN x<18446744073709551616:=Sort.xorNextN_lt x Ω;have ue:(Sort.xorNext r).toNat=Sort.xorNextN x:=by rw[Sort.xorNext_toNat,<-ad]
 obtain⟨y,aC⟩:∃y,y=Sort.xorNextN x:=⟨_,rfl⟩;have ac5:hF.wrap ((M:Int)-1)=(M-1:Nat):=by simp[tz,oh,r3];omega
 have yl:=ab2 y (M-1) Ω Ω;obtain⟨z,ba⟩:∃z,z=y&&& (M-1):=⟨_,rfl⟩;rw[<-ba]at yl;have asX:z<=M-1:=by rw[ba];exact Nat.and_le_right
 have oB:nD.wrap (z:Int)=z:=by rw[mT _ Ω]
 by_cases LZ:k=3
 ·subst LZ;simp[jH,Pv.look,hx];((with_reducible repeat' first|refine aj ?_|simp[hx]|((first|apply bL|apply bN|apply bM)<;>intro h<;>try simp at h))<;>(try exact cm));refine cP.at (S cv.toList) (.inr rfl) (H.ok _) (H.same _ _ av (by simpa using bd)) (fun k cs h=>?_) (fun _ _ h=>h) ?_
  ·simp only[Pv.look];split
   ·rename_i e;subst e;rw[au]at h;cases h
   ·split
    ·rename_i e;subst e;rw[fH]at h;cases h
    ·exact h
  ·simp[cW,YJ,aU,aW,aT];exact⟨cv,rfl,by rw[bS],bd⟩
 ·have rE:((i0+k:Nat):Int)<=(a:Int)+q*2+1:=Ω
  have U9:((i0:Int)+k)<=(a:Int)+q*2+1:=Ω
  simp[jH,Pv.look,hx,U9,rE];(with_reducible repeat' first|refine aj ?_|simp[hx,U9,rE,Pv.look]);have asT:=H.same d.toList cv.toList av (by simpa using bd);have aje:∀(fU:Array α) (v:List ak),cb [(aM.obj 902,v)] (S fU.toList).b=(S fU.toList).b:=fun fU v=>PX _ _ fun k x hm=>by
   have:=vI hm;simp only[Pv.look];split
   ·rename_i e;subst e;rw[fH]at this;cases this
   ·rfl
  refine cO.ob (agx x Ω) (JO x) (fun k cs h=>?_) (fun k o h=>by simp[nG,Pv.look]at h) (by simp[aJ,aN,inObs,nG,Pv.look]) ?_
  ·simp only[nG,Pv.look]at h⊢;split at h
   ·rename_i e;subst e;simpa using h
   ·cases h
  rintro eQ ah ⟨rfl,rfl⟩;refine⟨Qe _ _,?_⟩;rw[<-aC];have ad8:cb (nG x).b ((aM.loc 0,[ak.func g lc,ak.func cf b9])::(aM.obj 902,[ak.int .u64 x])::(S cv.toList).b)=(aM.loc 0,[ak.func g lc,ak.func cf b9])::(S cv.toList).b:=by simp[nG,cb,Pv.look,aje]
  have ad9:cb (nG x).e (S cv.toList).e=(S cv.toList).e:=PX _ _ fun _ _ _=>rfl;rw[ad8,ad9,show(nG y).b=[(aM.obj 902,[ak.int .u64 y])]from rfl,show(nG y).e=[]from rfl,List.append_nil];have asv:∀(v:List ak),Pv.look (.obj 902) ((aM.loc 0,[ak.func g lc,ak.func cf b9])::((S cv.toList).b++[(aM.obj 902,v)]))=some v:=fun v=>by simp[Pv.look,cS,fH]
  have QK:∀o',o'<len->o'=(if z≥len then z-len else z)->Sort.breakStep a len M (r,cv) (i0+k)=(Sort.xorNext r,Sort.swp cv (i0+k) (a+o')):=fun o' J U=>by unfold Sort.breakStep;simp only[ue,<-aC,<-ba,<-U]
  have Tn:((i0:Int)+k)=((i0+k:Nat):Int):=Ω
  simp only[eY,aM.obj.injEq];simp[-BitVec.toNat_and,-BitVec.ofInt_natCast,ac5,yl,oB,Pv.look,H.ssc];by_cases asY:len<=z
  ·have MA:(len:Int)<=z:=Ω
   have KR:((a:Int)+(z-len))=((a+(z-len):Nat):Int):=Ω
   ((with_reducible repeat' first|refine aj ?_|simp[MA,Pv.look,H.ssc]|((first|apply bL|apply bN|apply bM)<;>intro h<;>try simp at h))<;>(try exact cm));rw[KR,Tn];refine cO.ob (H.swap cv.toList (by simpa using bd) Ω (i0+k) (a+(z-len)) Ω Ω) (H.ok _) (fun bH cs h=>?_) (fun _ _ h=>h) (by simp[aJ,aN,H.ksc cv.toList (by simpa using bd)]) ?_
   ·simp only[Pv.look];split
    ·rename_i e;subst e;rw[au]at h;cases h
    ·rw[cS,h]
   rintro eQ ah ⟨rfl,rfl⟩;refine⟨H.same _ _ (by simpa using bd) (by simpa using bd),?_⟩;rw[HZ cv Ω Ω];obtain⟨d2,eV⟩:∃d2,d2=Sort.swp cv (i0+k) (a+(z-len)):=⟨_,rfl⟩;have s2:d2.size=n:=by rw[eV,hd,bd]
   rw[<-eV];have KV:∀v:List ak,cb (S cv.toList).b ((aM.loc 0,[ak.func g lc,ak.func cf b9])::((S cv.toList).b++[(aM.obj 902,v)]))=[(aM.loc 0,[ak.func g lc,ak.func cf b9]),(aM.obj 902,v)]:=fun v=>by simp only[cb,au];rw[iW,hr];simp[cb,fH]
   dsimp only;rw[KV,hr];simp;(with_reducible repeat' first|refine aj ?_|simp);have KN:((i0:Int)+k+1)=((i0+(k+1):Nat):Int):=Ω
   rw[KN];refine bP.whl (k+1,Sort.xorNext r,d2) (by simp;omega) ⟨by simp;omega,s2,by simp only[zU,bS];rw[QK (z-len) Ω (by rw[if_pos Ω]),eV]⟩ ?_;rw[ue,<-aC];refine aaW (FH H d2 y) (fun k h=>ds d2 _ k h s2) (fun k h=>o1 _ h) (by simp[aJ,inObs,jH,Pv.look,mK]) (by simp[Pv.look]) (yx d2 _ s2) ?_ (fun _ _ h=>h);intro k cs h;simp only[jH,Pv.look]at h⊢;split at h
   ·rename_i e;subst e;simpa using h
   ·rename_i e;split
    ·rename_i aG;subst aG;rw[au]at h;cases h
    ·exact h
  ·have MA:¬(len:Int)<=z:=Ω
   have KR:((a:Int)+z)=((a+z:Nat):Int):=Ω
   ((with_reducible repeat' first|refine aj ?_|simp[MA,Pv.look,H.ssc]|((first|apply bL|apply bN|apply bM)<;>intro h<;>try simp at h))<;>(try exact cm));rw[KR,Tn];refine cO.ob (H.swap cv.toList (by simpa using bd) Ω (i0+k) (a+z) Ω Ω) (H.ok _) (fun bH cs h=>?_) (fun _ _ h=>h) (by simp[aJ,aN,H.ksc cv.toList (by simpa using bd)]) ?_
   ·simp only[Pv.look];split
    ·rename_i e;subst e;rw[au]at h;cases h
    ·rw[cS,h]
   rintro eQ ah ⟨rfl,rfl⟩;refine⟨H.same _ _ (by simpa using bd) (by simpa using bd),?_⟩;rw[HZ cv Ω Ω];obtain⟨d2,eV⟩:∃d2,d2=Sort.swp cv (i0+k) (a+z):=⟨_,rfl⟩;have s2:d2.size=n:=by rw[eV,hd,bd]
   rw[<-eV];have KV:∀v:List ak,cb (S cv.toList).b ((aM.loc 0,[ak.func g lc,ak.func cf b9])::((S cv.toList).b++[(aM.obj 902,v)]))=[(aM.loc 0,[ak.func g lc,ak.func cf b9]),(aM.obj 902,v)]:=fun v=>by simp only[cb,au];rw[iW,hr];simp[cb,fH]
   dsimp only;rw[KV,hr];simp;(with_reducible repeat' first|refine aj ?_|simp);have KN:((i0:Int)+k+1)=((i0+(k+1):Nat):Int):=Ω
   rw[KN];refine bP.whl (k+1,Sort.xorNext r,d2) (by simp;omega) ⟨by simp;omega,s2,by simp only[zU,bS];rw[QK z Ω (by rw[if_neg Ω]),eV]⟩ ?_;rw[ue,<-aC];refine aaW (FH H d2 y) (fun k h=>ds d2 _ k h s2) (fun k h=>o1 _ h) (by simp[aJ,inObs,jH,Pv.look,mK]) (by simp[Pv.look]) (yx d2 _ s2) ?_ (fun _ _ h=>h);intro k cs h;simp only[jH,Pv.look]at h⊢;split at h
   ·rename_i e;subst e;simpa using h
   ·rename_i e;split
    ·rename_i aG;subst aG;rw[au]at h;cases h
    ·exact h
end
end Go.Proofs.YtohaalphocaebaaGreat
