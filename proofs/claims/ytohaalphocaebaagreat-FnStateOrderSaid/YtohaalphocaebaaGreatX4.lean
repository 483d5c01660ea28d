/- What the shelf lays at this translation: the body of sort.Slice, in plain words (written by the kit's own tool). -/
import Derived.Test.YtohaalphocaebaaGreatProg
import Derived.Lib.OwnBridge
import Derived.Shelf.GgSortMore.Stable
import Derived.Shelf.GgSortFunc.SmallK
import Derived.Sort.AssemblyPlain
import Derived.Sort.LotD5
import Derived.Shelf.GgSortFunc.Slice
import Derived.Ground.GgsProg
import Derived.Test.YtohaalphocaebaaGreatX3
set_option linter.all false
set_option maxHeartbeats 4000000
open Array renaming getElem?_toList→tU
open BitVec renaming ofInt→lX
open Bool renaming and_eq_true→cx,eq_iff_iff→qt,false_eq_true→gC,or_eq_true→lY
open Go renaming Program→cA,TypeId→gL
open Go.Extern.ReflectliteSwapper renaming swap→Es,swapper→arW
open Go.Extern.ReflectliteValue renaming len→arX,method→arY,unpack→am1,valueError→am2
open Go.Extern.Rtype renaming kind→YE
open Go.IntKind renaming bits→nF,i64→mN,signed→rl,u64→ht,wrap→sB
open Go.IntWalk renaming i64_in→ml
open Go.Op renaming bytesLess→hB
open Go.Proofs.Tryz renaming prog→az
open List renaming all_eq_true→ig,cons_append→bR,getElem?_eq_getElem→cb,getElem?_eq_some_iff→fU,getElem_of_mem→nG,length_append→pJ,length_cons→oa,map_cons→gP,mem_append→iH,mem_cons→fA,mem_cons_of_mem→lA,mem_filter→ha,mem_map→hJ,mem_of_getElem?→fR,mem_singleton→qv,pairwise_cons→mP,pairwise_iff_getElem→pK,take_of_length_le→hb
open List.Nodup renaming length_le_of_subset→Iq
open List.Pairwise renaming filter→vv,imp_of_mem→am4,sublist→ar2
open List.Perm renaming eq_of_pairwise→Oe,swap→ar3
open Nat renaming add_mul→pL,le_refl→ff,le_trans→jR,strongRecOn→qw
open Ne renaming symm→la
open Option renaming isSome_none→ja,map_eq_some_iff→gr,map_some→kN
open Option.some renaming inj→e3,injEq→dw
open Prod.mk renaming injEq→jB
open _root_ renaming False→ep,UInt8→cQ,beq_iff_eq→dK,congrArg→eU,decide_eq_false_iff_not→hK,decide_eq_true_eq→fo
namespace Go.Proofs.YtohaalphocaebaaGreat
open Go Go.Pv
def iF:T→List Int→List Int
 | .var n,l=>mE n l
 | .pair a b,l=>iF b (iF a l)
 |_,l=>l
theorem N1:∀(t:T) {l:List Int},tV l→tV (iF t l)
 | .var _,_,h=>TY h
 | .pair a b,_,h=>N1 b (N1 a h)
 | .nil,_,h=>h
 | .sym _,_,h=>h
 | .num _,_,h=>h
theorem GM{m:Int}:∀(t:T) {l:List Int},m∈iF t l↔t.occ m=true∨m∈l
 | .var n,l=>by simp only[iF,LR,T.occ,dK];constructor<;>rintro(h|h)<;>first|exact .inr h|exact .inl h.symm
 | .pair a b,l=>by
  simp only[iF,GM b,GM a,T.occ,lY];constructor
  ·rintro(h|h|h)
   ·exact .inl (.inr h)
   ·exact .inl (.inl h)
   ·exact .inr h
  ·rintro((h|h)|h)
   ·exact .inr (.inl h)
   ·exact .inl h
   ·exact .inr (.inr h)
 | .nil,l=>by simp[iF,T.occ]
 | .sym _,l=>by simp[iF,T.occ]
 | .num _,l=>by simp[iF,T.occ]
theorem Ei:∀(t:T) (l:List Int),(iF t l).length≤l.length+t.size
 | .var n,l=>by have:=T0 n l;simp only[iF,T.size];omega
 | .pair a b,l=>by have J:=Ei a l;have U:=Ei b (iF a l);simp only[iF,T.size];omega
 | .nil,l=>by simp[iF]
 | .sym _,l=>by simp[iF]
 | .num _,l=>by simp[iF]
theorem Ie:∀(t:T) (l:List Int),l.length+t.size≤1000000→tV l→bS az 165 [t.e,.slice 1 .no (eu l)] (.slice 1 .no (eu (iF t l)))
 | .var n,l,aq,bk=>by
  simp only[T.size]at aq;have key:=ame l n (by omega) bk;refine bq eH Cb Dv fun aP=>?_;unfold zn;simp;(with_reducible repeat' first|refine aj ?_|refine aB key ?_|refine aC key ?_|simp);all_goals simp[bp,Bd,aT,aW,aQ]
  all_goals simp[iF,yW]
 | .pair a b,l,aq,bk=>by
  simp only[T.size]at aq;have Lx:=Ei a l;have aS:=Ie a l (by omega) bk;have bc:=Ie b (iF a l) (by omega) (N1 a bk);refine bq eH Cb Dv fun aP=>?_;unfold zn;simp;refine eC [15,16] (fun i (_:Unit)=>[(1,.slice 1 .no (eu (if i=0 then l else if i=1 then iF a l else iF b (iF a l)))),(17,.int .i64 i)]) 2 (fun _ _=>True) () b3 trivial (fun _ _ _=>?_) (fun i _ hi _ _=>?_)
  ·simp;(with_reducible repeat' first|refine aj ?_|simp);simp[bp,Bd,aT,aW,aQ];simp[iF,yW]
  ·rcases(by omega:i=0∨i=1)with rfl|rfl
   ·simp;((with_reducible repeat' first|refine aj ?_|refine aB aS ?_|refine aC aS ?_|simp|((first|apply bG|apply bL|apply bK)<;>intro h<;>try simp at h))<;>(try exact cg));exact bN.rng () hi trivial b3
   ·simp;((with_reducible repeat' first|refine aj ?_|refine aB bc ?_|refine aC bc ?_|simp|((first|apply bG|apply bL|apply bK)<;>intro h<;>try simp at h))<;>(try exact cg));exact bN.rng () hi trivial b3
 | .nil,l,aq,bk=>by refine bq eH Cb Dv fun aP=>?_;unfold zn;simp;refine eC [15,16] (fun i (_:Unit)=>[(1,.slice 1 .no (eu l)),(17,.int .i64 i)]) 0 (fun _ _=>True) () b3 trivial (fun _ _ _=>?_) (fun i _ hi _ _=>by omega);simp;((with_reducible repeat' first|refine aj ?_|simp|((first|apply bG|apply bL|apply bK)<;>intro h<;>try simp at h))<;>(try exact cg));simp[bp,Bd,aT,aW,aQ];simp[iF,yW]
 | .sym _,l,aq,bk=>by refine bq eH Cb Dv fun aP=>?_;unfold zn;simp;refine eC [15,16] (fun i (_:Unit)=>[(1,.slice 1 .no (eu l)),(17,.int .i64 i)]) 0 (fun _ _=>True) () b3 trivial (fun _ _ _=>?_) (fun i _ hi _ _=>by omega);simp;(with_reducible repeat' first|refine aj ?_|simp);simp[bp,Bd,aT,aW,aQ];simp[iF,yW]
 | .num _,l,aq,bk=>by refine bq eH Cb Dv fun aP=>?_;unfold zn;simp;refine eC [15,16] (fun i (_:Unit)=>[(1,.slice 1 .no (eu l)),(17,.int .i64 i)]) 0 (fun _ _=>True) () b3 trivial (fun _ _ _=>?_) (fun i _ hi _ _=>by omega);simp;(with_reducible repeat' first|refine aj ?_|simp);simp[bp,Bd,aT,aW,aQ];simp[iF,yW]
@[simp] def aqy:List bA:=[.tmp 2]
@[simp] def aqF:List bA:=[.tmp 4]
@[simp] def aqz:List bA:=[.tmp 4]
def Qz:C:=(aa [cO 2 0,cO 3 1,bj 4 false] (aa [aX 5 4 2,aX 6 4 3,ck 7 229 5 6,aU 8 .eql 7 0,I 4 8] .ret))
@[simp] def WG:List bA:=[.tmp 4]
@[simp] def aqw:List bA:=[.tmp 2]
@[simp] def aqA:List bA:=[.tmp 2]
def B0:C:=(aa [cO 2 0,cO 3 1,cc 4 0] (.seq (aa [aF 7 0 1 2,aw 8 1 7,aF 9 0 1 3,aw 10 1 9,br 11 .neq 8 10] (aZ 11 (aa [aF 12 0 1 2,aw 13 1 12,aF 14 0 1 3,aw 15 1 14,br 16 .lss 13 15,cL 17 238 16,I 4 17] .ret) .skip)) (.seq (aa [aF 18 1 1 2,aw 19 1 18,aF 20 1 1 3,aw 21 1 20,br 22 .neq 19 21] (aZ 22 (aa [aF 23 1 1 2,aw 24 1 23,aF 25 1 1 3,aw 26 1 25,br 27 .lss 24 26,cL 28 238 27,I 4 28] .ret) .skip)) (.seq (aa [aF 29 2 1 2,aw 30 1 29,aF 31 2 1 3,aw 32 1 31,br 33 .neq 30 32] (aZ 33 (aa [aF 34 2 1 2,aw 35 1 34,aF 36 2 1 3,aw 37 1 36,br 38 .lss 35 37,cL 39 238 38,I 4 39] .ret) .skip)) (.seq (aa [cc 5 0] (.block 0 (.loop (.seq (aa [I 40 5,aF 41 3 1 2,aw 42 1 41,cv 43 42,br 44 .lss 40 43,I 45 44,bZ 45 true 46 5,al 45 true (aF 47 3 1 3),al 45 true (aw 48 1 47),al 45 true (cv 49 48),al 45 true (br 50 .lss 46 49),dv 51 45 50] (aZ 51 .skip (.exit 0))) (.seq (.block 1 (.seq (.drawn true 68 [aF 54 3 1 2,aw 55 1 54,I 56 5,cw 57 4 55 56,aX 58 4 57,aF 59 3 1 3,aw 60 1 59,I 61 5,cw 62 4 60 61,aX 63 4 62,ck 64 229 58 63,I 6 64]) (aa [I 65 6,aU 66 .neq 65 0] (aZ 66 (aa [I 67 6,I 4 67] .ret) .skip)))) (.region [I 52 5,aU 53 .add 52 1,I 5 53])))))) (aa [cc 4 0] .ret))))))
@[simp] def Bc:List bA:=[.tmp 4]
@[simp] def aqB:List bA:=[]
def QA:C:=(aa [cc 2 0] (.seq (aa [I 3 0] (aZ 3 (aa [cc 2 (-1)] .ret) .skip)) (aa [cc 2 1] .ret)))
@[simp] def WH:List bA:=[.tmp 2]
def H4:List (Nat×dx):=[
 (3,⟨1,8,.int .i64,.int .i64 0⟩),
 (4,⟨1,1,.bool,.bool false⟩),
 (9,⟨1,16,.str,.str []⟩),
 (23,⟨1,24,.slice 61,.slice 5 .nil []⟩),
 (24,⟨1,24,.slice 23,.slice 1 .nil []⟩),
 (30,⟨1,24,.slice 32,.slice 4 .nil []⟩),
 (32,⟨4,56,.struct [(0,3),(1,3),(2,9),(3,30)],.agg [.int .i64 0,.int .i64 0,.str [],.slice 4 .nil []]⟩),
 (61,⟨5,64,.struct [(0,3),(1,32)],.agg [.int .i64 0,.int .i64 0,.int .i64 0,.str [],.slice 4 .nil []]⟩),
 (112,⟨1,24,.slice 3,.slice 1 .nil []⟩)]
theorem Bt:fP az H4=true:=by kernel_rfl
theorem ajh:b4 H4 Qz WG 2 Tryz.f167=true:=by kernel_rfl
theorem acz:az.funcs[(167:Nat)]? =some Tryz.f167:=Tryz.func167
theorem GZ:b4 H4 B0 Bc 2 Tryz.f229=true:=by kernel_rfl
theorem Fo:az.funcs[(229:Nat)]? =some Tryz.f229:=Tryz.func229
theorem aji:b4 H4 QA WH 1 Tryz.f238=true:=by kernel_rfl
theorem acA:az.funcs[(238:Nat)]? =some Tryz.f238:=Tryz.func238
theorem Ot{t u:T}(J:t.kind=u.kind)(U:t.int=u.int)(ao:t.name=u.name)(a1:t.args=u.args):t=u:=by cases t<;>cases u<;>simp_all
theorem ri(b:Bool):bS az 238 [.bool b] (.int .i64 (if b then-1 else 1)):=by
 refine bq Bt acA aji fun aP=>?_;unfold QA;simp;((with_reducible repeat' first|refine aj ?_|simp|((first|apply bG|apply bL|apply bK)<;>intro h<;>try simp at h))<;>(try exact cg));all_goals simp[bp,WH,aT,aW,aQ]
 all_goals simp_all
theorem ajE{a b:T}(bk:a.args=[]∨b.args=[])(J:a.kind=b.kind)(U:a.int=b.int):eo a b=kI a.name b.name:=by cases a<;>cases b<;>simp_all[eo]
def C3(a b:T)(i:Nat)(_:Unit):Prop:=a.args.take i=b.args.take i
set_option maxRecDepth 4000 in
theorem X3(a:T)(bP:∀x∈a.args,∀b:T,bS az 229 [x.e,b.e] (.int .i64 (eo x b)))(b:T):bS az 229 [a.e,b.e] (.int .i64 (eo a b)):=by
 have hle:a.args.length≤2:=by cases a<;>simp
 by_cases ad:a.kind=b.kind
 ·by_cases hi:a.int=b.int
  ·by_cases au:a.name=b.name
   ·have hlen:a.args.length=b.args.length:=by cases a<;>cases b<;>simp at ad⊢
    refine bq Bt Fo GZ fun aP=>?_;unfold B0;simp[ad,hi,au];refine eC [2,3] (fun i (_:Unit)=>[(5,.int .i64 i)]) a.args.length (C3 a b) () b3 (by simp[C3]) (fun _ ag _=>?_) (fun i _ bm ag _=>?_)
    ·simp;(with_reducible repeat' first|refine aj ?_|simp);simp[bp,Bc,aT,aW,aQ];unfold C3 at ag;rw[hb (by omega),hb (by omega)]at ag;exact((q7 a b).2 (Ot ad hi au ag)).symm
    ·have qT:i<b.args.length:=by omega
     obtain⟨x,ab⟩:∃x,x=a.args[i]:=⟨_,rfl⟩;obtain⟨y,aD⟩:∃y,y=b.args[i]:=⟨_,rfl⟩;have ps:=bP x (by rw[ab];exact List.getElem_mem bm) y;simp[bm,qT,←ab,←aD];(with_reducible repeat' first|((first|apply bG|apply bL|apply bK)<;>intro h<;>try simp at h)|refine aj ?_|refine aB ps ?_|refine aC ps ?_|simp)
     ·simp[bp,Bc,aT,aW,aQ];unfold C3 at ag;cases a with
      |pair bt a2=>
       cases b with
       |pair bM bO=>
        simp at bm ag ab aD;rcases(by omega:i=0∨i=1)with rfl|rfl
        ·simp at ab aD;subst ab aD;simp[eo,h]
        ·simp at ag ab aD;subst ab aD ag;simp[eo,(q7 bt bt).2 rfl]
       |_=>simp at ad
      |_=>simp at bm
     ·refine bN.rng () bm ?_ b3;unfold C3 at ag⊢;rw[List.take_succ,List.take_succ,ag,cb bm,cb qT,←ab,←aD,(q7 x y).1 h]
   ·refine bq Bt Fo GZ fun aP=>?_;unfold B0;simp[ad,hi,au];((with_reducible repeat' first|refine aj ?_|refine aB (ri _) ?_|refine aC (ri _) ?_|simp|((first|apply bG|apply bL|apply bK)<;>intro h<;>try simp at h))<;>(try exact cg));simp[bp,Bc,aT,aW,aQ];have:a.args=[]∨b.args=[]:=by cases a<;>cases b<;>simp at ad au⊢
    rw[ajE this ad hi,kI,if_neg au]
  ·refine bq Bt Fo GZ fun aP=>?_;unfold B0;simp[ad,hi];((with_reducible repeat' first|refine aj ?_|refine aB (ri _) ?_|refine aC (ri _) ?_|simp|((first|apply bG|apply bL|apply bK)<;>intro h<;>try simp at h))<;>(try exact cg));simp[bp,Bc,aT,aW,aQ];cases a<;>cases b<;>simp at ad hi
   ·rw[VM];simp[ez];split<;>(try split)<;>omega
   ·rw[VL];simp[ez];split<;>(try split)<;>omega
 ·refine bq Bt Fo GZ fun aP=>?_;unfold B0;simp[ad];((with_reducible repeat' first|refine aj ?_|refine aB (ri _) ?_|refine aC (ri _) ?_|simp|((first|apply bG|apply bL|apply bK)<;>intro h<;>try simp at h))<;>(try exact cg));simp[bp,Bc,aT,aW,aQ];rw[sf ad];simp[ez];split<;>(try split)<;>omega
theorem Ib(a:T):∀b:T,bS az 229 [a.e,b.e] (.int .i64 (eo a b)):=by
 induction a with
 |pair x y ps r3=>
  refine X3 _ fun z aY=>?_;simp at aY;rcases aY with rfl|rfl
  ·exact ps
  ·exact r3
 |_=>exact X3 _ fun x ab=>by simp at ab
theorem X7(a b:T):bS az 167 [a.e,b.e] (.bool (decide (a=b))):=by refine bq Bt acz ajh fun aP=>?_;unfold Qz;simp;(with_reducible repeat' first|refine aj ?_|refine aB (Ib _ _) ?_|refine aC (Ib _ _) ?_|simp);simp[bp,WG,aT,aW,aQ];have:=q7 a b;by_cases h:eo a b=0<;>simp_all
def IY:C:=(aa [cO 3 0,cO 4 1,cO 5 2,cS 6 e1,bj 7 false] (.seq (aa [aX 13 5 3,aX 14 4 4,aX 15 4 5,eb 16 4 32 [.t 14,.t 15],ck 17 47 13 16,ct 18 17] (aZ 18 (aa [gJ 19 e1 [],bz 5 6 19,bj 7 false] .ret) .skip)) (aa [aF 21 1 1 3,aw 22 1 21,aX 23 4 4,aX 24 4 5,cT 25 48 [.t 22,.t 23,.t 24],I 20 25,cd 26 0 20,cd 27 1 20,I 8 26,I 9 27] (.seq (aa [I 28 9,ct 29 28] (aZ 29 (aa [gJ 30 e1 [],bz 5 6 30,bj 7 false] .ret) .skip)) (aa [aX 31 5 3,cL 32 49 31,cS 10 e1,bz 5 10 32] (aa [I 33 8,aF 34 1 1 10,bz 1 34 33] (aa [aX 36 5 10,cL 37 50 36,I 35 37,cd 38 0 35,cd 39 1 35,cS 11 e1,bz 5 11 38,I 12 39] (aa [aX 40 5 11,I 41 12,bz 5 6 40,I 7 41] .ret))))))))
@[simp] def Mx:List bA:=[.cell 6 true 5,.tmp 7]
def ES:C:=(aa [cO 3 0,cO 4 1,cO 5 2,cS 6 e1,bj 7 false] (.seq (aa [aX 13 5 3,aX 14 4 4,aX 15 4 5,eb 16 4 32 [.t 14,.t 15],ck 17 47 13 16,ct 18 17] (aZ 18 (aa [gJ 19 e1 [],bz 5 6 19,bj 7 false] .ret) .skip)) (aa [aF 21 1 1 3,aw 22 1 21,aX 23 4 4,aX 24 4 5,cT 25 51 [.t 22,.t 23,.t 24],I 20 25,cd 26 0 20,cd 27 1 20,I 8 26,I 9 27] (.seq (aa [I 28 9,aU 29 .gtr 28 1] (aZ 29 (aa [gJ 30 e1 [],bz 5 6 30,bj 7 false] .ret) .skip)) (aa [aX 31 5 3,cL 32 49 31,cS 10 e1,bz 5 10 32] (.seq (aa [I 33 9,aU 34 .eql 33 0] (aZ 34 (.region [aF 35 2 1 10,aw 36 1 35,I 37 8,eb 38 1 23 [.t 37],gO 39 1 23 36 38,aF 40 2 1 10,bz 1 40 39]) .skip)) (aa [aX 42 5 10,cL 43 50 42,I 41 43,cd 44 0 41,cd 45 1 41,cS 11 e1,bz 5 11 44,I 12 45] (aa [aX 46 5 11,I 47 12,bz 5 6 46,I 7 47] .ret))))))))
@[simp] def V0:List bA:=[.cell 6 true 5,.tmp 7]
def ET:C:=(aa [cO 3 0,cO 4 1,cS 6 e1,bj 7 false] (.seq (aa [aX 13 5 3,aX 14 4 4,eb 15 4 32 [.t 14],ck 16 47 13 15,ct 17 16] (aZ 17 (aa [gJ 18 e1 [],bz 5 6 18,bj 7 false] .ret) .skip)) (aa [aF 20 1 1 3,aw 21 1 20,aF 22 3 1 3,aw 23 1 22,aX 24 4 4,I 25 2,cT 26 52 [.t 21,.t 23,.t 24,.t 25],I 19 26,cd 27 0 19,cd 28 1 19,I 8 27,I 9 28] (.seq (aa [I 29 9,ct 30 29] (aZ 30 (aa [gJ 31 e1 [],bz 5 6 31,bj 7 false] .ret) .skip)) (aa [aX 32 5 3,cL 33 49 32,cS 10 e1,bz 5 10 33] (aa [I 34 8,aF 35 3 1 10,bz 1 35 34] (aa [aX 37 5 10,cL 38 50 37,I 36 38,cd 39 0 36,cd 40 1 36,cS 11 e1,bz 5 11 39,I 12 40] (aa [aX 41 5 11,I 42 12,bz 5 6 41,I 7 42] .ret))))))))
@[simp] def aj3:List bA:=[.cell 6 true 5,.tmp 7]
def EU:C:=(aa [cO 3 0,cO 4 1,cS 6 e1,bj 7 false] (.seq (aa [aX 13 5 3,aX 14 4 4,eb 15 4 32 [.t 14],ck 16 47 13 15,ct 17 16] (aZ 17 (aa [gJ 18 e1 [],bz 5 6 18,bj 7 false] .ret) .skip)) (aa [aF 20 1 1 3,aw 21 1 20,aF 22 4 1 3,aw 23 1 22,aX 24 4 4,I 25 2,cT 26 54 [.t 21,.t 23,.t 24,.t 25],I 19 26,cd 27 0 19,cd 28 1 19,I 8 27,I 9 28] (.seq (aa [I 29 9,ct 30 29] (aZ 30 (aa [gJ 31 e1 [],bz 5 6 31,bj 7 false] .ret) .skip)) (aa [aX 32 5 3,cL 33 49 32,cS 10 e1,bz 5 10 33] (aa [I 34 8,aF 35 4 1 10,bz 1 35 34] (aa [aX 37 5 10,cL 38 50 37,I 36 38,cd 39 0 36,cd 40 1 36,cS 11 e1,bz 5 11 39,I 12 40] (aa [aX 41 5 11,I 42 12,bz 5 6 41,I 7 42] .ret))))))))
@[simp] def aj4:List bA:=[.cell 6 true 5,.tmp 7]
def Qf:C:=(aa [cO 3 0,cO 4 1,cO 5 2,cS 6 e1,bj 7 false] (aa [aX 8 5 3,aX 9 4 4,aX 10 4 5,cT 11 60 [.t 8,(dN 0),.t 9,.t 10,(dN 0),(.c (.str []))],cd 12 0 11,cd 13 1 11,bz 5 6 12,I 7 13] .ret))
@[simp] def aku:List bA:=[.cell 6 true 5,.tmp 7]
@[simp] def aqO:List bA:=[.tmp 4]
@[simp] def aqT:List bA:=[.tmp 4]
@[simp] def aqs:List bA:=[.tmp 4]
def EX:C:=(aa [cO 2 0,bj 4 false] (.seq (.drawn true 18 [aX 5 5 2,cL 6 18 5,I 7 6,bZ 7 true 8 1,al 7 true (cL 9 68 8),dv 10 7 9,I 11 10,bZ 11 true 12 1,al 11 true (cL 13 116 12),al 11 true (aF 14 0 1 2),al 11 true (aw 15 1 14),al 11 true (br 16 .leq 13 15),dv 17 11 16,I 4 17]) .ret))
@[simp] def akf:List bA:=[.tmp 4]
def Pj:C:=(aa [cO 4 1,cO 5 2,eJ 6 5,bj 7 false] (.seq (aa [I 8 0,cL 9 55 8,ct 10 9,I 11 10,al 11 false (aX 12 4 4),al 11 false (cL 13 117 12),al 11 false (ct 14 13),cW 15 11 14,I 16 15,al 16 false (aX 17 4 5),al 16 false (cL 18 117 17),al 16 false (ct 19 18),cW 20 16 19] (aZ 20 (aa [eJ 6 5,bj 7 false] .ret) .skip)) (aa [I 21 0,aX 22 4 4,eb 23 4 32 [.t 22],aX 24 4 5,eb 25 4 32 [.t 24],cT 26 118 [.t 21,.t 23,.t 25],cd 27 0 26,cd 28 1 26,I 6 27,I 7 28] .ret)))
@[simp] def aj9:List bA:=[.tmp 6,.tmp 7]
def I3:C:=(aa [cO 1 0,cS 2 e1] (.seq (.drawn true 39 [aF 6 0 1 1,aw 7 1 6,aF 8 1 1 1,aw 9 1 8,cL 10 119 9,eb 11 1 23 [],gJ 12 e1 [(0,1,(.t 7)),(1,1,(.t 10)),(2,1,(.t 11))],cS 3 e1,bz 5 3 12]) (.seq (aa [aF 13 2 1 1,aw 14 1 13,cv 15 14,cc 16 0] (fe 17 16 15 (.seq (.block 1 (aa [cw 18 1 14 16,aw 19 1 18,I 5 19] (.drawn true 39 [aF 20 2 1 3,aw 21 1 20,I 22 5,cL 23 119 22,eb 24 1 23 [.t 23],gO 25 1 23 21 24,aF 26 2 1 3,bz 1 26 25]))) (.region [aU 27 .add 16 1,I 16 27])))) (aa [eb 28 2 104 [],aF 29 3 1 1,aw 30 1 29,gO 31 2 104 28 30,aF 32 3 1 3,bz 1 32 31] (aa [eb 33 2 106 [],aF 34 4 1 1,aw 35 1 34,gO 36 2 106 33 35,aF 37 4 1 3,bz 1 37 36] (aa [aX 38 5 3,bz 5 2 38] .ret))))))
@[simp] def Wc:List bA:=[.cell 2 true 5]
def IX:C:=(aa [cO 4 1,cO 5 2,eJ 6 5,cc 7 0] (.seq (aa [I 12 0,cL 13 55 12,ct 14 13,I 15 14,al 15 false (aX 16 4 4),al 15 false (cL 17 117 16),al 15 false (ct 18 17),cW 19 15 18,I 20 19,al 20 false (aX 21 4 5),al 20 false (cL 22 117 21),al 20 false (ct 23 22),cW 24 20 23] (aZ 24 (aa [eJ 6 5,cc 7 3] .ret) .skip)) (aa [I 26 0,aX 27 4 4,aX 28 4 5,cT 29 48 [.t 26,.t 27,.t 28],I 25 29,cd 30 0 25,cd 31 1 25,I 8 30,I 9 31] (aa [I 33 0,I 34 8,I 35 9,cT 36 125 [.t 33,.t 34,.t 35],I 32 36,cd 37 0 32,cd 38 1 32,I 10 37,I 11 38] (aa [I 39 10,I 40 11,I 6 39,I 7 40] .ret)))))
@[simp] def aj2:List bA:=[.tmp 6,.tmp 7]
def Ji:C:=(aa [cO 6 0,cO 8 2,cO 9 3,cS 12 e1,bj 13 false] (.seq (aa [aX 16 5 6,cL 17 65 16,ct 18 17,I 19 18,al 19 false (aX 20 4 8),al 19 false (cL 21 76 20),al 19 false (ct 22 21),cW 23 19 22,I 24 23,al 24 false (aX 25 4 9),al 24 false (cL 26 76 25),al 24 false (ct 27 26),cW 28 24 27,I 29 28,al 29 false (aX 30 4 8),al 29 false (aF 31 0 1 6),al 29 false (aw 32 1 31),al 29 false (ck 33 136 30 32),al 29 false (ct 34 33),cW 35 29 34,I 36 35,al 36 false (aX 37 4 9),al 36 false (aF 38 0 1 6),al 36 false (aw 39 1 38),al 36 false (ck 40 136 37 39),al 36 false (ct 41 40),cW 42 36 41] (aZ 42 (aa [gJ 43 e1 [],bz 5 12 43,bj 13 false] .ret) .skip)) (aa [aX 45 5 6,I 46 1,aX 47 4 8,aX 48 4 9,I 49 4,I 50 5,cT 51 93 [.t 45,.t 46,.t 47,.t 48,.t 49,.t 50],I 44 51,cd 52 0 44,cd 53 1 44,cS 14 e1,bz 5 14 52,I 15 53] (.seq (aa [I 54 15,ct 55 54] (aZ 55 (aa [gJ 56 e1 [],bz 5 12 56,bj 13 false] .ret) .skip)) (aa [aX 57 5 14,cL 58 112 57,bz 5 12 58,bj 13 true] .ret)))))
@[simp] def akG:List bA:=[.cell 12 true 5,.tmp 13]
@[simp] def aqY:List bA:=[.tmp 2]
@[simp] def aqS:List bA:=[.tmp 2]
@[simp] def aq2:List bA:=[.tmp 4]
@[simp] def aqC:List bA:=[.tmp 4]
def qG:C:=(aa [cO 6 0,cO 8 2,cO 9 3,cS 12 e1,bj 13 false] (aa [aX 21 5 6,cS 14 e1,bz 5 14 21] (aa [bj 15 true] (.seq (aa [I 22 1,aU 23 .lss 22 2] (aZ 23 (aa [aF 25 1 1 6,aw 26 1 25,aX 27 4 8,aX 28 4 9,cT 29 176 [.t 26,.t 27,.t 28],I 24 29,cd 30 0 24,cd 31 1 24,I 16 30,I 17 31] (aa [I 32 1,aU 33 .eql 32 0] (aZ 33 (aa [I 34 16,aF 35 1 1 14,bz 1 35 34] (.region [I 36 17,I 15 36])) (aa [I 37 17] (aZ 37 (aa [aF 38 1 1 6,aw 39 1 38,I 40 16,ck 41 177 39 40,I 18 41] (aa [I 42 18,cv 43 42,aU 44 .gtr 43 0,I 15 44] (.region [eb 45 1 23 [],aF 46 2 1 6,aw 47 1 46,gO 48 1 23 45 47,I 49 18,eb 50 1 23 [.t 49],gO 51 1 23 48 50,aF 52 2 1 14,bz 1 52 51]))) .skip))))) (aa [aF 54 1 1 6,aw 55 1 54,aX 56 4 8,ck 57 166 55 56,I 53 57,cd 58 0 53,cd 59 1 53,cS 19 du,bz 4 19 58,I 20 59] (aa [I 60 20,I 15 60] (aa [I 61 15,I 62 61,bZ 62 true 63 1,al 62 true (aU 64 .eql 63 2),dv 65 62 64] (aZ 65 (.region [aF 67 3 1 6,aw 68 1 67,aX 69 4 19,I 70 4,cT 71 178 [.t 68,.t 69,.t 70],I 66 71,cd 72 0 66,cd 73 1 66,aF 74 3 1 14,bz 1 74 72,I 15 73]) (aa [I 75 15] (aZ 75 (.region [aF 77 4 1 6,aw 78 1 77,aX 79 4 19,I 80 5,cT 81 179 [.t 78,.t 79,.t 80],I 76 81,cd 82 0 76,cd 83 1 76,aF 84 4 1 14,bz 1 84 82,I 15 83]) .skip)))))))) (.seq (aa [I 85 15,ct 86 85] (aZ 86 (aa [gJ 87 e1 [],bz 5 12 87,bj 13 false] .ret) .skip)) (aa [aX 88 5 14,cL 89 147 88,cd 90 0 89,cd 91 1 89,bz 5 12 90,I 13 91] .ret))))))
@[simp] def Ho:List bA:=[.cell 12 true 5,.tmp 13]
def QQ:C:=(aa [cO 1 0,cS 2 e1] (.seq (.drawn true 20 [aF 3 0 1 1,aw 4 1 3,aF 5 1 1 1,aw 6 1 5,cL 7 190 6,aF 8 2 1 1,aw 9 1 8,cL 10 191 9,eb 11 2 104 [],aF 12 3 1 1,aw 13 1 12,gO 14 2 104 11 13,eb 15 2 106 [],aF 16 4 1 1,aw 17 1 16,gO 18 2 106 15 17,gJ 19 e1 [(0,1,(.t 4)),(1,1,(.t 7)),(2,1,(.t 10)),(3,1,(.t 14)),(4,1,(.t 18))],bz 5 2 19]) .ret))
@[simp] def akF:List bA:=[.cell 2 true 5]
def E0:C:=(aa [eJ 6 5,cc 7 0] (.seq (aa [I 8 2,ct 9 8] (aZ 9 (aa [eJ 6 5,cc 7 1] .ret) .skip)) (.seq (aa [I 10 0,I 11 1,ck 12 135 10 11] (aZ 12 (aa [eJ 6 5,cc 7 2] .ret) .skip)) (aa [I 13 0,I 14 1,ck 15 123 13 14,I 6 15,cc 7 0] .ret))))
@[simp] def akg:List bA:=[.tmp 6,.tmp 7]
@[simp] def aqP:List bA:=[.tmp 4]
@[simp] def aqt:List bA:=[.tmp 4]
def QD:C:=(aa [eJ 2 5] (aa [eb 6 5 61 [],I 3 6] (.seq (aa [I 7 0,cv 8 7,cc 9 0] (fe 10 9 8 (.seq (.block 1 (aa [cw 11 5 7 9,aX 12 5 11,cS 5 kj,bz 5 5 12] (.drawn true 24 [I 13 3,aF 14 0 1 5,aw 15 1 14,iv 16 1 4 5,aX 17 4 16,cL 18 74 17,gJ 19 kj [(0,1,(.t 15)),(1,4,(.t 18))],eb 20 5 61 [.t 19],gO 21 5 61 13 20,I 3 21]))) (.region [aU 22 .add 9 1,I 9 22])))) (aa [I 23 3,I 2 23] .ret))))
@[simp] def akz:List bA:=[.tmp 2]
def QM:C:=(aa [eJ 2 1] (aa [eb 6 1 23 [],I 3 6] (.seq (aa [I 7 0,cv 8 7,cc 9 0] (fe 10 9 8 (.seq (.block 1 (aa [cw 11 1 7 9,aw 12 1 11,I 5 12] (.region [I 13 3,I 14 5,cL 15 190 14,eb 16 1 23 [.t 15],gO 17 1 23 13 16,I 3 17]))) (.region [aU 18 .add 9 1,I 9 18])))) (aa [I 19 3,I 2 19] .ret))))
@[simp] def akC:List bA:=[.tmp 2]
@[simp] def aqR:List bA:=[.cell 4 true 4,.tmp 5]
def n2:List (Nat×dx):=[
 (3,⟨1,8,.int .i64,.int .i64 0⟩),
 (9,⟨1,16,.str,.str []⟩),
 (23,⟨1,24,.slice 61,.slice 5 .nil []⟩),
 (24,⟨1,24,.slice 23,.slice 1 .nil []⟩),
 (25,⟨1,24,.slice 104,.slice 2 .nil []⟩),
 (26,⟨1,24,.slice 106,.slice 2 .nil []⟩),
 (28,⟨5,104,.struct [(0,3),(1,23),(2,24),(3,25),(4,26)],.agg [.int .i64 0,.slice 5 .nil [],.slice 1 .nil [],.slice 2 .nil [],.slice 2 .nil []]⟩),
 (30,⟨1,24,.slice 32,.slice 4 .nil []⟩),
 (32,⟨4,56,.struct [(0,3),(1,3),(2,9),(3,30)],.agg [.int .i64 0,.int .i64 0,.str [],.slice 4 .nil []]⟩),
 (61,⟨5,64,.struct [(0,3),(1,32)],.agg [.int .i64 0,.int .i64 0,.int .i64 0,.str [],.slice 4 .nil []]⟩),
 (104,⟨2,16,.struct [(0,3),(1,3)],.agg [.int .i64 0,.int .i64 0]⟩),
 (106,⟨2,24,.struct [(0,3),(1,9)],.agg [.int .i64 0,.str []]⟩),
 (112,⟨1,24,.slice 3,.slice 1 .nil []⟩)]
theorem gN:fP az n2=true:=by kernel_rfl
theorem Vn:b4 n2 IY Mx 3 Tryz.f12=true:=by kernel_rfl
theorem RA:az.funcs[(12:Nat)]? =some Tryz.f12:=Tryz.func12
theorem L8:b4 n2 ES V0 3 Tryz.f13=true:=by kernel_rfl
theorem JI:az.funcs[(13:Nat)]? =some Tryz.f13:=Tryz.func13
theorem L9:b4 n2 ET aj3 3 Tryz.f14=true:=by kernel_rfl
theorem JJ:az.funcs[(14:Nat)]? =some Tryz.f14:=Tryz.func14
theorem Ma:b4 n2 EU aj4 3 Tryz.f16=true:=by kernel_rfl
theorem JK:az.funcs[(16:Nat)]? =some Tryz.f16:=Tryz.func16
theorem aiX:b4 n2 Qf aku 3 Tryz.f19=true:=by kernel_rfl
theorem acd:az.funcs[(19:Nat)]? =some Tryz.f19:=Tryz.func19
theorem Md:b4 n2 EX akf 2 Tryz.f47=true:=by kernel_rfl
theorem JN:az.funcs[(47:Nat)]? =some Tryz.f47:=Tryz.func47
theorem ah2:b4 n2 Pj aj9 3 Tryz.f48=true:=by kernel_rfl
theorem abh:az.funcs[(48:Nat)]? =some Tryz.f48:=Tryz.func48
theorem Vs:b4 n2 I3 Wc 1 Tryz.f49=true:=by kernel_rfl
theorem RF:az.funcs[(49:Nat)]? =some Tryz.f49:=Tryz.func49
theorem Vm:b4 n2 IX aj2 3 Tryz.f51=true:=by kernel_rfl
theorem Rz:az.funcs[(51:Nat)]? =some Tryz.f51:=Tryz.func51
theorem VC:b4 n2 Ji akG 6 Tryz.f60=true:=by kernel_rfl
theorem RP:az.funcs[(60:Nat)]? =some Tryz.f60:=Tryz.func60
theorem se:b4 n2 qG Ho 6 Tryz.f93=true:=by kernel_rfl
theorem rE:az.funcs[(93:Nat)]? =some Tryz.f93:=Tryz.func93
theorem ajy:b4 n2 QQ akF 1 Tryz.f112=true:=by kernel_rfl
theorem acQ:az.funcs[(112:Nat)]? =some Tryz.f112:=Tryz.func112
theorem Mg:b4 n2 E0 akg 3 Tryz.f125=true:=by kernel_rfl
theorem JQ:az.funcs[(125:Nat)]? =some Tryz.f125:=Tryz.func125
theorem ajl:b4 n2 QD akz 1 Tryz.f190=true:=by kernel_rfl
theorem acD:az.funcs[(190:Nat)]? =some Tryz.f190:=Tryz.func190
theorem aju:b4 n2 QM akC 1 Tryz.f191=true:=by kernel_rfl
theorem acM:az.funcs[(191:Nat)]? =some Tryz.f191:=Tryz.func191
def C2(t:T)(k:Nat)(st:bh):Prop:=
 (k=t.args.length∧st=⟨[(2,.ptr (.loc 1) 0),(3,.ptr (.loc 2) 0),(14,.slice 4 .no (t.args.map T.e)),(15,.int .i64 t.args.length),(16,.int .i64 0)],[(.loc 1,[.int .i64 0,.int .i64 0,.str [],.slice 4 .nil []]),(.loc 2,[.int .i64 t.kind,.int .i64 t.int,.str t.name,.slice 4 .nil []])],[],3,[]⟩)∨
 ∃i:Nat,1≤i∧i≤t.args.length∧k=t.args.length-i∧st=⟨[(2,.ptr (.loc 1) 0),(3,.ptr (.loc 2) 0),(14,.slice 4 .no (t.args.map T.e)),(15,.int .i64 t.args.length),(16,.int .i64 i)],[(.loc 1,[.int .i64 0,.int .i64 0,.str [],.slice 4 .nil []]),(.loc 2,[.int .i64 t.kind,.int .i64 t.int,.str t.name,.slice 4 (.own (.loc 29)) ((t.args.take i).map T.e)])],[(.loc 29,⟨i,32,4,none⟩)],30,[]⟩
set_option maxRecDepth 4000 in
theorem X4(t:T):bS az 74 [t.e] t.e:=by
 induction t with
 |pair a b dQ dR=>
  refine bq fH Ca Du fun aP=>?_;unfold zm;simp;refine mX (C2 (.pair a b)) 2 _ b3 (.inl ⟨rfl,rfl⟩) ?_;rintro k st (⟨ad,rfl⟩|⟨i,J,U,ad,rfl⟩) je cF;all_goals clear je cF
  ·simp;(with_reducible repeat' first|refine aj ?_|refine aB dQ ?_|refine aC dQ ?_|simp);refine bN.next 1 (by rw[ad];simp) (.inr ⟨1,by omega,by simp,rfl,rfl⟩) b3
  ·rcases(by simp at U;omega:i=1∨i=2)with rfl|rfl
   ·simp;(with_reducible repeat' first|refine aj ?_|refine aB dR ?_|refine aC dR ?_|simp);refine bN.next 0 (by rw[ad];simp) (.inr ⟨2,by omega,by simp,rfl,rfl⟩) b3
   ·exact cB
 |nil=>
  refine bq fH Ca Du fun aP=>?_;unfold zm;simp;refine mX (C2 (.nil)) 0 _ b3 (.inl ⟨rfl,rfl⟩) ?_;rintro k st (⟨ad,rfl⟩|⟨i,J,U,ad,rfl⟩) je cF;all_goals clear je cF
  ·exact cB
  ·simp at U;omega
 |var n=>
  refine bq fH Ca Du fun aP=>?_;unfold zm;simp;refine mX (C2 (.var n)) 0 _ b3 (.inl ⟨rfl,rfl⟩) ?_;rintro k st (⟨ad,rfl⟩|⟨i,J,U,ad,rfl⟩) je cF;all_goals clear je cF
  ·exact cB
  ·simp at U;omega
 |sym s=>
  refine bq fH Ca Du fun aP=>?_;unfold zm;simp;refine mX (C2 (.sym s)) 0 _ b3 (.inl ⟨rfl,rfl⟩) ?_;rintro k st (⟨ad,rfl⟩|⟨i,J,U,ad,rfl⟩) je cF;all_goals clear je cF
  ·exact cB
  ·simp at U;omega
 |num n=>
  refine bq fH Ca Du fun aP=>?_;unfold zm;simp;refine mX (C2 (.num n)) 0 _ b3 (.inl ⟨rfl,rfl⟩) ?_;rintro k st (⟨ad,rfl⟩|⟨i,J,U,ad,rfl⟩) je cF;all_goals clear je cF
  ·exact cB
  ·simp at U;omega
theorem Ya(t:List ak)(aL:t.length≤1000000):bS az 190 [.slice 5 .no (t.map ak.e)] (.slice 5 .no (t.map ak.e)):=by
 refine bq gN acD ajl fun aP=>?_;unfold QD;simp;(with_reducible repeat' first|refine aj ?_|simp);refine iN (α:=List ak) (fun i out=>⟨[(7,.slice 5 .no (t.map ak.e)),(8,.int .i64 t.length),(3,.slice 5 (.own (.loc 0)) (out.map ak.e)),(9,.int .i64 i)],[],[(.loc 0,⟨out.length,61,5,none⟩)],1,[]⟩) t.length (fun i out=>out=t.take i) [] b3 (by simp) (fun out ag _=>?_) (fun i out hi ag _=>?_)
 ·rw[hb (ff _)]at ag;subst ag;exact cB
 ·obtain⟨b,aI,gj⟩:=eZ hi;have zZ:out.length≤1000000:=by rw[ag];simp;omega
  simp[hi,gj];(with_reducible repeat' first|refine aj ?_|refine aB (X4 _) ?_|refine aC (X4 _) ?_|simp[gj,hi]);all_goals first|(refine⟨by unfold lim;omega,?_⟩)|skip
  all_goals(with_reducible repeat' first|refine aj ?_|simp)
  all_goals refine bN.rng (out++[b]) hi (by rw[oT aI,ag]) ?_
  all_goals simp
  all_goals exact⟨by simp[fresh,aN,aH,cn,inObs,Pv.look,ji],eM (by simp[fresh,aN,aH,cn,inObs,Pv.look,ji]),eN (by simp[fresh,aN,aH,ej,inObs,Pv.look,ji]),by simp⟩
def Qb:C:=(aa [cO 2 0] (aa [cc 4 20] (aa [I 8 4,cc 5 0,I 6 8] (.seq (.block 0 (.loop (.seq (aa [I 9 6,I 10 1,br 11 .leq 9 10] (aZ 11 .skip (.exit 0))) (.block 1 (aa [aX 12 2 2,I 13 5,I 14 6,cT 15 260 [.t 12,.t 13,.t 14]] (aa [I 16 6,I 5 16] (.region [I 17 6,I 18 4,br 19 .add 17 18,I 6 19]))))))) (aa [aX 20 2 2,I 21 5,I 22 1,cT 23 260 [.t 20,.t 21,.t 22]] (.block 2 (.loop (.seq (aa [I 24 4,I 25 1,br 26 .lss 24 25] (aZ 26 .skip (.exit 2))) (.block 3 (aa [I 27 4,bW 28 (.bin .mul false (dN 2) (.t 27)),cc 5 0,I 6 28] (.seq (.block 4 (.loop (.seq (aa [I 29 6,I 30 1,br 31 .leq 29 30] (aZ 31 .skip (.exit 4))) (.block 5 (aa [aX 32 2 2,I 33 5,I 34 5,I 35 4,br 36 .add 34 35,I 37 6,cT 38 277 [.t 32,.t 33,.t 36,.t 37]] (aa [I 39 6,I 5 39] (.region [I 40 6,I 41 4,bW 42 (.bin .mul false (dN 2) (.t 41)),br 43 .add 40 42,I 6 43]))))))) (.seq (aa [I 44 5,I 45 4,br 46 .add 44 45,I 7 46] (aa [I 47 7,I 48 1,br 49 .lss 47 48] (aZ 49 (.region [aX 50 2 2,I 51 5,I 52 7,I 53 1,cT 54 277 [.t 50,.t 51,.t 52,.t 53]]) .skip))) (.region [I 55 4,aU 56 .mul 55 2,I 4 56])))))))))))))
@[simp] def aks:List bA:=[]
def I8:C:=(aa [cO 3 0] (aa [I 8 1,aU 9 .add 8 1,I 6 9] (.block 0 (.loop (.seq (aa [I 10 6,I 11 2,br 12 .lss 10 11] (aZ 12 .skip (.exit 0))) (.seq (.block 1 (aa [I 15 6,I 7 15] (.block 2 (.loop (.seq (aa [I 16 7,I 17 1,br 18 .gtr 16 17,I 19 18,al 19 true (aF 20 0 1 3),al 19 true (aw 21 1 20),bZ 19 true 22 7,bZ 19 true 23 7,al 19 true (aU 24 .sub 23 1),al 19 true (gK 25 21 [.t 22,.t 24]),dv 26 19 25] (aZ 26 .skip (.exit 2))) (.seq (.block 3 (.region [aF 29 1 1 3,aw 30 1 29,I 31 7,I 32 7,aU 33 .sub 32 1,gK 34 30 [.t 31,.t 33]])) (.region [I 27 7,aU 28 .sub 27 1,I 7 28]))))))) (.region [I 13 6,aU 14 .add 13 1,I 6 14])))))))
@[simp] def ako:List bA:=[]
def E2:C:=(aa [I 164 16,I 165 22,br 166 .lss 164 165,I 167 166,bZ 167 true 168 22,bZ 167 true 169 3,al 167 true (br 170 .lss 168 169),dv 171 167 170] (aZ 171 (.region [aX 172 2 4,I 173 16,I 174 22,I 175 3,cT 176 277 [.t 172,.t 173,.t 174,.t 175]]) .skip))
def E3:C:=(.seq (aa [I 151 1,I 152 18,br 153 .lss 151 152,I 154 153,bZ 154 true 155 18,bZ 154 true 156 16,al 154 true (br 157 .lss 155 156),dv 158 154 157] (aZ 158 (.region [aX 159 2 4,I 160 1,I 161 18,I 162 16,cT 163 277 [.t 159,.t 160,.t 161,.t 162]]) .skip)) E2)
def Jc:C:=(.seq (aa [I 138 18,I 139 2,br 140 .lss 138 139,I 141 140,bZ 141 true 142 2,bZ 141 true 143 22,al 141 true (br 144 .lss 142 143),dv 145 141 144] (aZ 145 (.region [aX 146 2 4,I 147 18,I 148 2,I 149 22,cT 150 284 [.t 146,.t 147,.t 148,.t 149]]) .skip)) E3)
def Jd:C:=(aa [I 113 17,aU 114 .sub 113 1,I 20 114] (.seq (.block 8 (.loop (.seq (aa [I 115 18,I 116 19,br 117 .lss 115 116] (aZ 117 .skip (.exit 8))) (.block 9 (aa [I 118 18,I 119 19,br 120 .add 118 119,bW 121 (.conv .u64 (.t 120)),bW 122 (.bin .shr false (.t 121) (.c (.int .u64 1))),bW 123 (.conv .i64 (.t 122)),I 21 123] (aa [aF 124 0 1 4,aw 125 1 124,I 126 20,I 127 21,br 128 .sub 126 127,I 129 21,gK 130 125 [.t 128,.t 129],ct 131 130] (aZ 131 (.region [I 132 21,aU 133 .add 132 1,I 18 133]) (.region [I 134 21,I 19 134])))))))) (aa [I 135 17,I 136 18,br 137 .sub 135 136,I 22 137] Jc)))
def Qd:C:=(aa [cO 4 0] (.seq (aa [I 23 2,I 24 1,br 25 .sub 23 24,aU 26 .eql 25 1] (aZ 26 (aa [I 27 2,I 8 27] (aa [I 28 3,I 9 28] (.seq (.block 0 (.loop (.seq (aa [I 29 8,I 30 9,br 31 .lss 29 30] (aZ 31 .skip (.exit 0))) (.block 1 (aa [I 32 8,I 33 9,br 34 .add 32 33,bW 35 (.conv .u64 (.t 34)),bW 36 (.bin .shr false (.t 35) (.c (.int .u64 1))),bW 37 (.conv .i64 (.t 36)),I 10 37] (aa [aF 38 0 1 4,aw 39 1 38,I 40 10,I 41 1,gK 42 39 [.t 40,.t 41]] (aZ 42 (.region [I 43 10,aU 44 .add 43 1,I 8 44]) (.region [I 45 10,I 9 45])))))))) (.seq (aa [I 46 1,I 11 46] (.block 2 (.loop (.seq (aa [I 47 11,I 48 8,aU 49 .sub 48 1,br 50 .lss 47 49] (aZ 50 .skip (.exit 2))) (.seq (.block 3 (.region [aF 53 1 1 4,aw 54 1 53,I 55 11,I 56 11,aU 57 .add 56 1,gK 58 54 [.t 55,.t 57]])) (.region [I 51 11,aU 52 .add 51 1,I 11 52])))))) .ret)))) .skip)) (.seq (aa [I 59 3,I 60 2,br 61 .sub 59 60,aU 62 .eql 61 1] (aZ 62 (aa [I 63 1,I 12 63] (aa [I 64 2,I 13 64] (.seq (.block 4 (.loop (.seq (aa [I 65 12,I 66 13,br 67 .lss 65 66] (aZ 67 .skip (.exit 4))) (.block 5 (aa [I 68 12,I 69 13,br 70 .add 68 69,bW 71 (.conv .u64 (.t 70)),bW 72 (.bin .shr false (.t 71) (.c (.int .u64 1))),bW 73 (.conv .i64 (.t 72)),I 14 73] (aa [aF 74 0 1 4,aw 75 1 74,I 76 2,I 77 14,gK 78 75 [.t 76,.t 77],ct 79 78] (aZ 79 (.region [I 80 14,aU 81 .add 80 1,I 12 81]) (.region [I 82 14,I 13 82])))))))) (.seq (aa [I 83 2,I 15 83] (.block 6 (.loop (.seq (aa [I 84 15,I 85 12,br 86 .gtr 84 85] (aZ 86 .skip (.exit 6))) (.seq (.block 7 (.region [aF 89 1 1 4,aw 90 1 89,I 91 15,I 92 15,aU 93 .sub 92 1,gK 94 90 [.t 91,.t 93]])) (.region [I 87 15,aU 88 .sub 87 1,I 15 88])))))) .ret)))) .skip)) (aa [I 95 1,I 96 3,br 97 .add 95 96,bW 98 (.conv .u64 (.t 97)),bW 99 (.bin .shr false (.t 98) (.c (.int .u64 1))),bW 100 (.conv .i64 (.t 99)),I 16 100] (aa [I 101 16,I 102 2,br 103 .add 101 102,I 17 103] (aa [cc 18 0,cc 19 0] (.seq (aa [I 104 2,I 105 16,br 106 .gtr 104 105] (aZ 106 (aa [I 107 17,I 108 3,br 109 .sub 107 108,I 18 109] (.region [I 110 16,I 19 110])) (aa [I 111 1,I 18 111] (.region [I 112 2,I 19 112])))) Jd)))))))
@[simp] def akt:List bA:=[]
def P9:C:=(aa [cO 4 0] (aa [I 10 2,I 11 1,br 12 .sub 10 11,I 8 12] (aa [I 13 3,I 14 2,br 15 .sub 13 14,I 9 15] (.seq (.block 0 (.loop (.seq (aa [I 16 8,I 17 9,br 18 .neq 16 17] (aZ 18 .skip (.exit 0))) (.block 1 (aa [I 19 8,I 20 9,br 21 .gtr 19 20] (aZ 21 (aa [aX 22 2 4,I 23 2,I 24 8,br 25 .sub 23 24,I 26 2,I 27 9,cT 28 295 [.t 22,.t 25,.t 26,.t 27]] (.region [I 29 8,I 30 9,br 31 .sub 29 30,I 8 31])) (aa [aX 32 2 4,I 33 2,I 34 8,br 35 .sub 33 34,I 36 2,I 37 9,br 38 .add 36 37,I 39 8,br 40 .sub 38 39,I 41 8,cT 42 295 [.t 32,.t 35,.t 40,.t 41]] (.region [I 43 9,I 44 8,br 45 .sub 43 44,I 9 45])))))))) (.region [aX 46 2 4,I 47 2,I 48 8,br 49 .sub 47 48,I 50 2,I 51 8,cT 52 295 [.t 46,.t 49,.t 50,.t 51]])))))
@[simp] def akq:List bA:=[]
def Qc:C:=(aa [cO 4 0] (aa [cc 8 0] (.block 0 (.loop (.seq (aa [I 9 8,I 10 3,br 11 .lss 9 10] (aZ 11 .skip (.exit 0))) (.seq (.block 1 (.region [aF 14 1 1 4,aw 15 1 14,I 16 1,I 17 8,br 18 .add 16 17,I 19 2,I 20 8,br 21 .add 19 20,gK 22 15 [.t 18,.t 21]])) (.region [I 12 8,aU 13 .add 12 1,I 8 13])))))))
@[simp] def Wv:List bA:=[]
def Br:List (Nat×dx):=[
 (3,⟨1,8,.int .i64,.int .i64 0⟩),
 (160,⟨1,8,.other,.junk⟩),
 (163,⟨1,8,.int .u64,.int .u64 0⟩),
 (216,⟨1,8,.other,.junk⟩),
 (222,⟨2,16,.struct [(0,160),(1,216)],.agg [.junk,.junk]⟩)]
theorem Bu:fP az Br=true:=by kernel_rfl
theorem aiT:b4 Br Qb aks 2 Tryz.f248=true:=by kernel_rfl
theorem ab8:az.funcs[(248:Nat)]? =some Tryz.f248:=Tryz.func248
theorem Vx:b4 Br I8 ako 3 Tryz.f260=true:=by kernel_rfl
theorem RK:az.funcs[(260:Nat)]? =some Tryz.f260:=Tryz.func260
theorem aiV:b4 Br Qd akt 4 Tryz.f277=true:=by kernel_rfl
theorem aca:az.funcs[(277:Nat)]? =some Tryz.f277:=Tryz.func277
theorem aiR:b4 Br P9 akq 4 Tryz.f284=true:=by kernel_rfl
theorem ab6:az.funcs[(284:Nat)]? =some Tryz.f284:=Tryz.func284
theorem aiU:b4 Br Qc Wv 4 Tryz.f295=true:=by kernel_rfl
theorem ab9:az.funcs[(295:Nat)]? =some Tryz.f295:=Tryz.func295
end Go.Proofs.YtohaalphocaebaaGreat
namespace Go.Proofs.YtohaalphocaebaaGreat
open Go Go.Pv
structure e7 {α:Type} (S:List α→cI) (n:Nat) (g b5:Nat) (lc b1:List ah) (lt:α→α→Bool):Prop where
 ok:∀l,dL (S l)
 same:∀l l',l.length=n→l'.length=n→Same (S l) (S l')
 klc:∀l,l.length=n→aN (inObs (S l)) lc
 ksc:∀l,l.length=n→aN (inObs (S l)) b1
 slc:di lc=lc
 ssc:di b1=b1
 le:n≤68719476736
 less:∀l,l.length=n→∀(i j:Nat) x y,l[i]? =some x→l[j]? =some y→bC az g (.int .i64 i:: .int .i64 j::lc) (S l) fun r s'=>r= .bool (lt x y)∧s'=S l
 swap:∀l,l.length=n→2≤n→∀i j:Nat,i<n→j<n→bC az b5 (.int .i64 i:: .int .i64 j::b1) (S l) fun r s'=>r= .tuple []∧s'=S (hn l i j)
variable {α:Type} {S:List α→cI} {n g b5:Nat} {lc b1:List ah} {lt:α→α→Bool}
def eY(g b5:Nat)(lc b1:List ah):ah:= .agg [.func g lc,.func b5 b1]
theorem Kc(H:e7 S n g b5 lc b1 lt)(l:List α)(aq:l.length=n)(a b c:Nat)(aoz:a+c≤b)(SG:b+c≤n):
  bC az 295 [eY g b5 lc b1,.int .i64 a,.int .i64 b,.int .i64 c] (S l) fun r s'=>r= .tuple []∧∃l',s'=S l'∧gw a (b+c) l l'∧∀k,l'[k]? =l[su a b c k]?:=by
 have af:=H.ok l;have au:∀l m,Pv.look (.loc m) (S l).b=none:=fun l=>(H.ok l).obj.1;have hu:∀l m cs,cu (.loc m) cs (S l).b=(S l).b++[(.loc m,cs)]:=fun l m cs=>j4 (au l m);have av:∀m,aJ.loc m∉cZ (S l):=j0 af.obj;have hle:=H.le;refine bC.mk mixed Bu ab9 aiU (by simp) af.obj fun aP cF=>?_;unfold Qc;simp[eY,hu,av,cH,au,H.slc,H.ssc];refine iN (fun i (lk:List α)=>⟨[(1,.int .i64 a),(2,.int .i64 b),(3,.int .i64 c),(4,.ptr (.loc 0) 0),(8,.int .i64 i)],[(.loc 0,[.func g lc,.func b5 b1])]++(S lk).b,(S lk).e,1,cZ (S l)⟩) c (fun i lk=>lk.length=n∧gw a (b+c) l lk∧∀k,lk[k]? =l[su a b i k]?) l
  (iM.obL af (Same.refl _) (by simp[aH]) (by simp[cH,au,aH,aN,AS (H.klc l aq),AS (H.ksc l aq)]) aG aG) ⟨aq,.refl _,fun k=>by simp[su];split<;>(try split)<;>(try rfl)<;>(exfalso;omega)⟩ ?_ ?_
 ·rintro lk ⟨J,U,ao⟩ _;simp;refine cJ.at (S lk) (.inr rfl) (H.ok lk) (H.same _ _ aq J) aG aG ?_;simp[cP,Wv,aT,aW,aQ];exact⟨lk,rfl,U,ao⟩
 ·rintro i lk hi ⟨J,U,ao⟩ _;have ai:((a:Int)+i)=(a+i:Nat):=by omega
  have ax:((b:Int)+i)=(b+i:Nat):=by omega
  simp[hi,cH,au,H.ssc];(with_reducible repeat' first|refine aj ?_|simp);rw[ai,ax];refine cM.ob (H.swap lk J (by omega) (a+i) (b+i) (by omega) (by omega)) (H.ok lk) aG aG (by simp[H.ksc lk J]) ?_;rintro r s' ⟨rfl,rfl⟩;refine⟨H.same _ _ J (by simp[J]),?_⟩;simp[gZ,iG,b0,au];(with_reducible repeat' first|refine aj ?_|simp);refine bN.rng (hn lk (a+i) (b+i)) hi ⟨by simp[J],.step U (by omega) (by omega) (by omega) (by omega) (by omega) (by omega),fun k=>?_⟩ (iM.obL (L:=[(.loc 0,[.func g lc,.func b5 b1])]) (H.ok _) (H.same _ _ aq (by simp[J])) (by simp[aH]) (by simp[cH,au,aH,aN,AS (H.klc (hn lk (a+i) (b+i)) (by simp[J])),AS (H.ksc (hn lk (a+i) (b+i)) (by simp[J]))]) aG aG);rw[AH _ _ _ _ (by omega) (by omega),ao,ao,ao];have:su a b (i+1) k=if k=a+i then su a b i (b+i)else if k=b+i then su a b i (a+i)else su a b i k:=by
   simp only[su];repeat' split
   all_goals omega
  rw[this];split
  ·rfl
  ·split<;>rfl
section
variable (H:e7 S n g b5 lc b1 lt)
include H
theorem e7.loc{l:List α}(m:Nat):Pv.look (.loc m) (S l).b=none:=(H.ok l).obj.1 m
theorem e7.weak{l lk:List α}(aq:l.length=n)(ad:lk.length=n){st:bh}{dF:List (Nat×ah)}(aL:∀x∈dF,Pv.get x.1 st.t=x.2∧aH (mf (S lk) 1) x.2)(bD:Pv.look (.loc 0) st.b=some [.func g lc,.func b5 b1])
  (ae:∀k cs,Pv.look k (S lk).b=some cs→Pv.look k st.b=some cs) (he:∀k o,Pv.look k (S lk).e=some o→Pv.look k st.e=some o):
  iM (cZ (S l)) st ⟨dF,(.loc 0,[.func g lc,.func b5 b1])::(S lk).b,(S lk).e,1,cZ (S l)⟩:=
 iM.obL (L:=[(.loc 0,[.func g lc,.func b5 b1])]) (H.ok _) (H.same _ _ aq ad) aL (by simp[bD,aH,aN,AS (H.klc lk ad),AS (H.ksc lk ad)]) ae he
theorem e7.weakC{l lk:List α}(aq:l.length=n)(ad:lk.length=n){t dF:List (Nat×ah)}{q:Nat}{o:List aJ}(aL:∀x∈dF,Pv.get x.1 t=x.2∧aH (mf (S lk) 1) x.2):
  iM (cZ (S l)) ⟨t,(.loc 0,[.func g lc,.func b5 b1])::(S lk).b,(S lk).e,q,o⟩ ⟨dF,(.loc 0,[.func g lc,.func b5 b1])::(S lk).b,(S lk).e,1,cZ (S l)⟩:=
 H.weak aq ad aL (by simp[Pv.look]) (fun k cs ab=>by
  cases k with
  |loc m=>rw[H.loc m]at ab;cases ab
  |obj m=>simpa[Pv.look]using ab) (fun _ _ ab=>ab)
theorem e7.call{lk:List α}(J:lk.length=n){f:Nat}{args:List ah}{R:ah→List α→Prop}(aO:bC az f args (S lk) fun r s'=> ∃l',s'=S l'∧R r l')(bH:∀r l',R r l'→l'.length=n)(ad:aN (inObs (S lk)) args){t:List (Nat×ah)}{D:List ah}{o:List aJ}{d:Option Nat}{K:bh→Prop}
  (h:∀r l',R r l'→K ⟨eS d r t,(.loc 0,D)::(S l').b,(S l').e,1,o++cZ (S l')⟩):cM az f args ⟨t,(.loc 0,D)::(S lk).b,(S lk).e,1,o⟩ d K:=by
 refine cM.ob aO (H.ok lk) (fun k cs ab=>?_) (fun _ _ ab=>ab) ad ?_
 ·cases k with
  |loc m=>rw[H.loc m]at ab;cases ab
  |obj m=>simpa[Pv.look]using ab
 ·rintro r s' ⟨l',rfl,aK⟩;refine⟨H.same _ _ J (bH _ _ aK),?_⟩;have ai:b0 (S lk).b ((.loc 0,D)::(S lk).b)=[(.loc 0,D)]:=by have:=iG (S lk).b [(aJ.loc 0,D)] (S lk).b;rw[gZ]at this;simpa[b0,H.loc]using this
  have ax:b0 (S lk).e (S lk).e=[]:=gZ _;have:=h _ _ aK;simp only[ai,ax];exact this
theorem e7.doSwap{lk:List α}(J:lk.length=n)(i j:Nat)(hi:i<n)(ag:j<n)(U:2≤n){t:List (Nat×ah)}{D:List ah}{o:List aJ}{d:Option Nat}{K:bh→Prop}
  (h:K ⟨eS d (.tuple []) t,(.loc 0,D)::(S (hn lk i j)).b,(S (hn lk i j)).e,1,o++cZ (S (hn lk i j))⟩):cM az b5 (.int .i64 i:: .int .i64 j::b1) ⟨t,(.loc 0,D)::(S lk).b,(S lk).e,1,o⟩ d K:=
 H.call J (R:=fun r l'=>r= .tuple []∧l'=hn lk i j) ((H.swap lk J U i j hi ag).mono fun r s' ⟨ai,ax⟩=>⟨_,ax,ai,rfl⟩) (fun r l' ⟨_,e⟩=>by rw[e];simp[J]) (by simp[aH,aN,H.ksc lk J]) (by rintro r l' ⟨rfl,rfl⟩;exact h)
theorem e7.doLess{lk:List α}(J:lk.length=n)(i j:Nat){x y:α}(hi:lk[i]? =some x)(ag:lk[j]? =some y){t:List (Nat×ah)}{D:List ah}{o:List aJ}{d:Option Nat}{K:bh→Prop}
  (h:K ⟨eS d (.bool (lt x y)) t,(.loc 0,D)::(S lk).b,(S lk).e,1,o++cZ (S lk)⟩):cM az g (.int .i64 i:: .int .i64 j::lc) ⟨t,(.loc 0,D)::(S lk).b,(S lk).e,1,o⟩ d K:=
 H.call J (R:=fun r l'=>r= .bool (lt x y)∧l'=lk) ((H.less lk J i j x y hi ag).mono fun r s' ⟨ai,ax⟩=>⟨_,ax,ai,rfl⟩) (fun r l' ⟨_,e⟩=>by rw[e];exact J) (by simp[aH,aN,H.klc lk J]) (by rintro r l' ⟨rfl,rfl⟩;exact h)
theorem e7.doFn{lk:List α}(J:lk.length=n){f:Nat}{args:List ah}{R:List α→Prop}(aO:bC az f args (S lk) fun r s'=>r= .tuple []∧∃l',s'=S l'∧R l')(bH:∀l',R l'→l'.length=n)(ad:aN (inObs (S lk)) args){t:List (Nat×ah)}{D:List ah}{o:List aJ}{d:Option Nat}{K:bh→Prop}
  (h:∀l',R l'→K ⟨eS d (.tuple []) t,(.loc 0,D)::(S l').b,(S l').e,1,o++cZ (S l')⟩):cM az f args ⟨t,(.loc 0,D)::(S lk).b,(S lk).e,1,o⟩ d K:=
 H.call J (R:=fun r l'=>r= .tuple []∧R l') (aO.mono fun r s' ⟨ai,l',ax,bn⟩=>⟨l',ax,ai,bn⟩) (fun r l' h=>bH l' h.2) ad (by rintro r l' ⟨rfl,aK⟩;exact h l' aK)
theorem e7.kdata{lk:List α}(J:lk.length=n):aH (inObs (S lk)) (eY g b5 lc b1):=by simp[eY,aH,aN,H.klc lk J,H.ksc lk J]
theorem e7.ret{l lk:List α}(aq:l.length=n)(J:lk.length=n){Q:ah→cI→Prop}{e:Exit}(he:e= .ret∨e= .normal){t:List (Nat×ah)}{D:List ah}{q:Nat}{o:List aJ}(bu:Q (.tuple []) (S lk)):cJ [] (S l) Q e ⟨t,(.loc 0,D)::(S lk).b,(S lk).e,q,o⟩:=by
 refine cJ.at (S lk) he (H.ok lk) (H.same _ _ aq J) (fun k cs ab=>?_) (fun _ _ ab=>ab) ?_
 ·cases k with
  |loc m=>rw[H.loc m]at ab;cases ab
  |obj m=>simpa[Pv.look]using ab
 ·simp[cP,aT,aQ,aH,aN,bu]
end
theorem iw(H:e7 S n g b5 lc b1 lt):dU (eY g b5 lc b1)=eY g b5 lc b1:=by simp[eY,dU,di,H.slc,H.ssc]
theorem il:ah.agg [.func g lc,.func b5 b1]=eY g b5 lc b1:=rfl
theorem adJ(H:e7 S n g b5 lc b1 lt)(l:List α)(aq:l.length=n)(a m b:Nat)(Ct:a<m)(tc:m<b)(ae:b≤n):
  bC az 284 [eY g b5 lc b1,.int .i64 a,.int .i64 m,.int .i64 b] (S l) fun r s'=>r= .tuple []∧∃l',s'=S l'∧gw a b l l'∧∀k,l'[k]? =l[h4 a m b k]?:=by
 have af:=H.ok l;have au:∀l m,Pv.look (.loc m) (S l).b=none:=fun l=>(H.ok l).obj.1;have hu:∀l m cs,cu (.loc m) cs (S l).b=(S l).b++[(.loc m,cs)]:=fun l m cs=>j4 (au l m);have av:∀m,aJ.loc m∉cZ (S l):=j0 af.obj;have hle:=H.le;refine bC.mk mixed Bu ab6 aiR (by simp) af.obj fun aP cF=>?_;unfold P9;simp[eY,hu,av,cH,au];(with_reducible repeat' first|refine aj ?_|simp[hu,av,cH,au]);refine ou (fun(x:(Nat×Nat)×List α)=>⟨[(2,.int .i64 m),(4,.ptr (.loc 0) 0),(8,.int .i64 x.1.1),(9,.int .i64 x.1.2)],(.loc 0,[.func g lc,.func b5 b1])::(S x.2).b,(S x.2).e,1,cZ (S l)⟩) (fun x=>x.1.1+x.1.2)
  (fun x=>x.2.length=n∧0<x.1.1∧0<x.1.2∧a+x.1.1≤m∧m+x.1.2≤b∧gw a b l x.2∧∀k,l[h4 a m b k]? =x.2[h4 (m-x.1.1) m (m+x.1.2) k]?) ((m-a,b-m),l)
  (H.weak aq aq (by simp[aH];omega) (by simp[cH,au]) aG aG) ⟨aq,by simp;omega,by simp;omega,by simp;omega,by simp;omega,.refl _,fun k=>by simp[show m-(m-a)=a by omega,show m+(b-m)=b by omega]⟩ ?_
 rintro⟨⟨i,j⟩,lk⟩ ⟨J,hi,ag,gn,FR,U,ao⟩ _;simp only at J hi ag gn FR U ao;simp[Pv.look];((with_reducible repeat' first|refine aj ?_|simp[Pv.look]|((first|apply bG|apply bL|apply bK)<;>intro h<;>try simp at h))<;>(try exact cg))
 ·have ai:((m:Int)-i)=(m-i:Nat):=by omega
  simp only[iw H,H.slc,H.ssc,ai,il];refine H.doFn J (Kc H lk J (m-i) m j (by omega) (by omega)) (fun l' h=>by rw[h.1.length];exact J) (by simp[aN,aH,H.kdata J]) ?_;rintro l' ⟨aV,bf⟩;have bI:l'.length=n:=by rw[aV.length];exact J
  simp;((with_reducible repeat' first|refine aj ?_|simp|((first|apply bG|apply bL|apply bK)<;>intro h<;>try simp at h))<;>(try exact cg));refine bN.whl ((i-j,j),l') (by simp;omega) ⟨bI,by simp;omega,ag,by simp;omega,FR,U.trans (aV.mono (by omega) (by omega)),fun k=>?_⟩ (H.weakC aq bI (by simp[aH];omega));rw[ao,bf];congr 1;simp only[h4,su];repeat' split
  all_goals omega
 ·have ai:((m:Int)-i)=(m-i:Nat):=by omega
  have ax:((m:Int)+j-i)=(m+j-i:Nat):=by omega
  simp only[iw H,H.slc,H.ssc,ai,ax,il];refine H.doFn J (Kc H lk J (m-i) (m+j-i) i (by omega) (by omega)) (fun l' h=>by rw[h.1.length];exact J) (by simp[aN,aH,H.kdata J]) ?_;rintro l' ⟨aV,bf⟩;have bI:l'.length=n:=by rw[aV.length];exact J
  simp;(with_reducible repeat' first|refine aj ?_|simp);refine bN.whl ((i,j-i),l') (by simp;omega) ⟨bI,hi,by simp;omega,gn,by simp;omega,U.trans (aV.mono (by omega) (by omega)),fun k=>?_⟩ (H.weakC aq bI (by simp[aH];omega));rw[ao,bf];congr 1;simp only[h4,su];repeat' split
  all_goals omega
 ·have ai:((m:Int)-i)=(m-i:Nat):=by omega
  simp only[iw H,H.slc,H.ssc,ai,il];refine H.doFn J (Kc H lk J (m-i) m i (by omega) (by omega)) (fun l' h=>by rw[h.1.length];exact J) (by simp[aN,aH,H.kdata J]) ?_;rintro l' ⟨aV,bf⟩;have bI:l'.length=n:=by rw[aV.length];exact J
  simp;refine H.ret aq bI (.inr rfl) ⟨rfl,l',rfl,U.trans (aV.mono (by omega) (by omega)),fun k=>?_⟩;rw[ao,bf];congr 1;simp only[h4,su];repeat' split
  all_goals omega
end Go.Proofs.YtohaalphocaebaaGreat
namespace Go.Proofs.YtohaalphocaebaaGreat
open Go Go.Pv
variable {α:Type} {S:List α→cI} {n g b5:Nat} {lc b1:List ah} {lt:α→α→Bool}
def ud(lt:α→α→Bool)(a b j:Nat)(l:List α):Prop:= ∀p q x y,a≤p→p<q→q<b→q≠j→l[p]? =some x→l[q]? =some y→lt y x=false
theorem ud.swap(bm:qy lt){a b j:Nat}{l:List α}(h:ud lt a b (j+1) l)(SF:a≤j)(FR:j+1<b)(ag:j+1<l.length){x y:α}(ab:l[j+1]? =some x)(aD:l[j]? =some y)(hY:lt x y=true):ud lt a b j (hn l (j+1) j):=by
 intro p q u v bB jV bu aoR hu aI;rw[AH _ _ _ _ ag (by omega)]at hu aI;rw[if_neg (by omega:¬(q=j))]at aI;split at aI
 ·rename_i e;subst e;rw[aD]at aI;cases aI;split at hu
  ·omega
  ·split at hu
   ·rw[ab]at hu;cases hu;exact bm.asym _ _ hY
   ·exact h p j u y bB (by omega) (by omega) (by omega) hu aD
 ·split at hu
  ·rename_i e;subst e;rw[aD]at hu;cases hu;exact h j q y v SF (by omega) bu (by omega) aD aI
  ·split at hu
   ·rename_i e;subst e;rw[ab]at hu;cases hu;exact h (p+1) q x v (by omega) (by omega) bu (by omega) ab aI
   ·exact h p q u v bB jV bu (by omega) hu aI
theorem ud.done(bm:qy lt){a b j:Nat}{l:List α}(h:ud lt a b (j+1) l)(SF:a≤j)(FR:j+1<b){x y:α}(ab:l[j+1]? =some x)(aD:l[j]? =some y)(hY:lt x y=false):fj lt a b l:=by
 intro p q u v bB jV bu hu aI;by_cases e:q=j+1
 ·subst e;rw[ab]at aI;cases aI;by_cases ax:p=j
  ·subst ax;rw[aD]at hu;cases hu;exact hY
  ·exact bm.ntr _ _ _ (h p j u y bB (by omega) (by omega) (by omega) hu aD) hY
 ·exact h p q u v bB jV bu e hu aI
theorem ud.first{a b:Nat}{l:List α}(h:ud lt a b a l):fj lt a b l:=fun p q u v bB jV bu hu aI=>h p q u v bB jV bu (by omega) hu aI
theorem fj.but{a b:Nat}{l:List α}(h:fj lt a b l):ud lt a (b+1) b l:=fun p q u v bB jV bu KP hu aI=>h p q u v bB jV (by omega) hu aI
theorem Sd(H:e7 S n g b5 lc b1 lt)(bm:qy lt)(l:List α)(aq:l.length=n)(a b:Nat)(ng:a≤b)(ae:b≤n):
  bC az 260 [eY g b5 lc b1,.int .i64 a,.int .i64 b] (S l) fun r s'=>r= .tuple []∧∃l',s'=S l'∧gw a b l l'∧fj lt a b l':=by
 have af:=H.ok l;have au:∀l m,Pv.look (.loc m) (S l).b=none:=fun l=>(H.ok l).obj.1;have hu:∀l m cs,cu (.loc m) cs (S l).b=(S l).b++[(.loc m,cs)]:=fun l m cs=>j4 (au l m);have av:∀m,aJ.loc m∉cZ (S l):=j0 af.obj;have hle:=H.le;refine bC.mk mixed Bu RK Vx (by simp) af.obj fun aP cF=>?_;unfold I8;simp[eY,hu,av,cH,au];(with_reducible repeat' first|refine aj ?_|simp[hu,av,cH,au]);refine ou (fun(x:Nat×List α)=>⟨[(1,.int .i64 a),(2,.int .i64 b),(3,.ptr (.loc 0) 0),(6,.int .i64 x.1)],(.loc 0,[.func g lc,.func b5 b1])::(S x.2).b,(S x.2).e,1,cZ (S l)⟩) (fun x=>b+1-x.1)
  (fun x=>x.2.length=n∧a<x.1∧x.1≤b+1∧(x.1≤b∨x.1=a+1)∧gw a b l x.2∧fj lt a x.1 x.2) (a+1,l)
  (H.weak aq aq (by simp[aH]) (by simp[cH,au]) aG aG) ⟨aq,by simp,by simp;omega,.inr rfl,.refl _,fun i j x y J U ao=>by simp at ao;omega⟩ ?_
 rintro⟨i,lk⟩ ⟨J,nh,zR,th,U,ao⟩ _;simp only at J nh zR th U ao;simp;((with_reducible repeat' first|refine aj ?_|simp|((first|apply bG|apply bL|apply bK)<;>intro h<;>try simp at h))<;>(try exact cg))
 ·refine ou (fun(x:Nat×List α)=>⟨[(1,.int .i64 a),(2,.int .i64 b),(3,.ptr (.loc 0) 0),(6,.int .i64 i),(7,.int .i64 x.1)],(.loc 0,[.func g lc,.func b5 b1])::(S x.2).b,(S x.2).e,1,cZ (S l)⟩) (fun x=>x.1)
   (fun x=>x.2.length=n∧a≤x.1∧x.1≤i∧gw a b l x.2∧ud lt a (i+1) x.1 x.2) (i,lk)
   (H.weakC aq J (by simp[aH])) ⟨J,by simp;omega,by simp,U,fj.but ao⟩ ?_
  rintro⟨j,Dd⟩ ⟨aS,agF,agS,bc,bT⟩ _;simp only at aS agF agS bc bT;simp[Pv.look];((with_reducible repeat' first|refine aj ?_|simp[Pv.look]|((first|apply bG|apply bL|apply bK)<;>intro h<;>try simp at h))<;>(try exact cg))
  ·obtain⟨dB,rfl⟩:∃dB,j=dB+1:=⟨j-1,by omega⟩;obtain⟨x,ab⟩:∃x,Dd[dB+1]? =some x:=⟨_,cb (by omega)⟩;obtain⟨y,aD⟩:∃y,Dd[dB]? =some y:=⟨_,cb (by omega)⟩;have ai:(((dB+1:Nat):Int)-1)=(dB:Nat):=by omega
   rw[H.slc,ai];refine H.doLess aS (dB+1) dB ab aD ?_;simp;cases hY:lt x y with
   |true=>
    simp[Pv.look];(with_reducible repeat' first|refine aj ?_|simp[Pv.look]);have bn:((dB:Int)+1)=(dB+1:Nat):=by omega
    rw[H.ssc,bn];refine H.doSwap aS (dB+1) dB (by omega) (by omega) (by omega) ?_;simp;(with_reducible repeat' first|refine aj ?_|simp);refine bN.whl (dB,hn Dd (dB+1) dB) (by simp) ⟨by simp[aS],by simp;omega,by simp;omega,.step bc (by omega) (by omega) (by omega) (by omega) (by omega) (by omega),bT.swap bm (by omega) (by omega) (by omega) ab aD hY⟩ (H.weakC aq (by simp[aS]) (by simp[aH]))
   |false=>simp;((with_reducible repeat' first|refine aj ?_|simp|((first|apply bG|apply bL|apply bK)<;>intro h<;>try simp at h))<;>(try exact cg));refine bN.whl (i+1,Dd) (by simp;omega) ⟨aS,by simp;omega,by simp;omega,by simp;omega,bc,bT.done bm (by omega) (by omega) ab aD hY⟩ (H.weakC aq aS (by simp[aH]))
  ·obtain rfl:j=a:=by omega
   refine bN.whl (i+1,Dd) (by simp;omega) ⟨aS,by simp;omega,by simp;omega,by simp;omega,bc,bT.first⟩ (H.weakC aq aS (by simp[aH]))
 ·refine H.ret aq J (.inr rfl) ⟨rfl,lk,rfl,U,fun p q x y bB jV bu=>ao p q x y bB jV (by omega)⟩
end Go.Proofs.YtohaalphocaebaaGreat
namespace Go.Proofs.YtohaalphocaebaaGreat
open Go Go.Pv
variable {α:Type} {S:List α→cI} {n g b5:Nat} {lc b1:List ah} {lt:α→α→Bool}
theorem ahi(bm:qy lt){l lk:List α}{a b i:Nat}(nh:a+1≤i)(zR:i≤b)(ae:b≤l.length)(af:fj lt (a+1) b l){z:α}(aY:l[a]? =some z)(CH:∀h x,a+1≤h→h<i→l[h]? =some x→lt x z=true)(CE:∀h x,i≤h→h<b→l[h]? =some x→lt x z=false)
  (aK:∀k,lk[k]? =l[h4 a (a+1) i k]?):fj lt a b lk:=by
 intro p q x y bB jV bu ab aD;rw[aK]at ab aD;simp only[h4]at ab aD;rw[if_neg (by omega)]at ab aD;by_cases aV:q<i-1
 ·rw[if_pos (by omega)]at ab aD;exact af _ _ _ _ (by omega) (by omega) (by omega) ab aD
 ·rw[if_neg (by omega)]at aD;by_cases bf:q<i
  ·rw[if_pos bf,show q-(i-(a+1))=a by omega,aY]at aD;cases aD;rw[if_pos (by omega)]at ab;exact bm.asym _ _ (CH _ _ (by omega) (by omega) ab)
  ·rw[if_neg bf]at aD;by_cases cC:p<i-1
   ·rw[if_pos (by omega)]at ab;exact af _ _ _ _ (by omega) (by omega) (by omega) ab aD
   ·rw[if_neg (by omega)]at ab;by_cases da:p<i
    ·rw[if_pos da,show p-(i-(a+1))=a by omega,aY]at ab;cases ab;exact CE _ _ (by omega) bu aD
    ·rw[if_neg da]at ab;exact af _ _ _ _ (by omega) (by omega) bu ab aD
theorem ahj(bm:qy lt){l lk:List α}{a m i:Nat}(nh:a≤i)(aoM:i≤m)(ae:m+1≤l.length)(af:fj lt a m l){z:α}(aY:l[m]? =some z)(CH:∀h x,a≤h→h<i→l[h]? =some x→lt z x=false)(CE:∀h x,i≤h→h<m→l[h]? =some x→lt z x=true)
  (aK:∀k,lk[k]? =l[h4 i m (m+1) k]?):fj lt a (m+1) lk:=by
 intro p q x y bB jV bu ab aD;rw[aK]at ab aD;simp only[h4]at ab aD;by_cases aV:q<i
 ·rw[if_pos (by omega)]at ab aD;exact af _ _ _ _ bB jV (by omega) ab aD
 ·rw[if_neg aV]at aD;by_cases bf:q=i
  ·rw[if_pos (by omega),show q+(m-i)=m by omega,aY]at aD;cases aD;rw[if_pos (by omega)]at ab;exact CH _ _ bB (by omega) ab
  ·rw[if_neg (by omega),if_pos (by omega)]at aD;by_cases cC:p<i
   ·rw[if_pos cC]at ab;exact af _ _ _ _ bB (by omega) (by omega) ab aD
   ·rw[if_neg cC]at ab;by_cases da:p=i
    ·rw[if_pos (by omega),show p+(m-i)=m by omega,aY]at ab;cases ab;exact bm.asym _ _ (CE _ _ (by omega) (by omega) aD)
    ·rw[if_neg (by omega),if_pos (by omega)]at ab;exact af _ _ _ _ (by omega) (by omega) (by omega) ab aD
structure Ew (lt:α→α→Bool) (a s m e b mid:Nat) (lk:List α):Prop where
 s1:fj lt a s lk
 s2:fj lt s mid lk
 s3:fj lt mid e lk
 s4:fj lt e b lk
 cross:∀p q x y,a≤p→p<mid→mid≤q→q<b→lk[p]? =some x→lk[q]? =some y→lt y x=false
theorem fj.le(bm:qy lt){a b:Nat}{l:List α}(h:fj lt a b l){i j:Nat}{x y:α}(J:a≤i)(U:i≤j)(ao:j<b)(ab:l[i]? =some x)(aD:l[j]? =some y):lt y x=false:=by
 by_cases e:i=j
 ·subst e;rw[ab]at aD;cases aD;cases TP:lt x x with
  |false=>rfl
  |true=>have:=bm.asym _ _ TP;rw[TP]at this;exact this
 ·exact h _ _ _ _ J (by omega) ao ab aD
theorem ahr(bm:qy lt){l lk:List α}{a m b mid s e:Nat}(has:a≤s)(eF:s≤m)(aoQ:m≤e)(aoJ:e≤b)(ae:b≤l.length)(lP:s+e=mid+m)(J:fj lt a m l)(U:fj lt m b l)
  (bQ:s=a∨e=b∨ ∃x y,l[s-1]? =some x∧l[e]? =some y∧lt y x=false) (cp:s=m∨e=m∨ ∃x y,l[s]? =some x∧l[e-1]? =some y∧lt y x=true) (aK:∀k,lk[k]? =l[h4 s m e k]?):Ew lt a s m e b mid lk:=by
 have g1:∀p,p<s→lk[p]? =l[p]?:=fun p bB=>by rw[aK];simp[h4,bB]
 have g2:∀p,s≤p→p<mid→lk[p]? =l[p+(m-s)]?:=fun p ao a1=>by rw[aK];simp only[h4];rw[if_neg (by omega),if_pos (by omega)]
 have g3:∀p,mid≤p→p<e→lk[p]? =l[p-(e-m)]?:=fun p ao a1=>by rw[aK];simp only[h4];rw[if_neg (by omega),if_neg (by omega),if_pos (by omega)]
 have g4:∀p,e≤p→lk[p]? =l[p]?:=fun p ao=>by
  rw[aK];simp only[h4];rw[if_neg (by omega)];by_cases b2:p<s+(e-m)
  ·omega
  ·rw[if_neg b2,if_neg (by omega)]
 refine⟨fun p q x y bB jV bu ab aD=>?_,fun p q x y bB jV bu ab aD=>?_,fun p q x y bB jV bu ab aD=>?_,fun p q x y bB jV bu ab aD=>?_,fun p q x y bB afu bu KP ab aD=>?_⟩
 ·rw[g1 _ (by omega)]at ab aD;exact J _ _ _ _ bB jV (by omega) ab aD
 ·rw[g2 _ (by omega) (by omega)]at ab aD;exact U _ _ _ _ (by omega) (by omega) (by omega) ab aD
 ·rw[g3 _ (by omega) (by omega)]at ab aD;exact J _ _ _ _ (by omega) (by omega) (by omega) ab aD
 ·rw[g4 _ (by omega)]at ab aD;exact U _ _ _ _ (by omega) (by omega) (by omega) ab aD
 ·by_cases cC:p<s
  ·rw[g1 _ cC]at ab;by_cases aV:q<e
   ·rw[g3 _ bu aV]at aD;exact J _ _ _ _ bB (by omega) (by omega) ab aD
   ·rw[g4 _ (by omega)]at aD;rcases bQ with bQ|bQ|⟨u,v,aS,bc,bT⟩
    ·omega
    ·omega
    ·exact bm.ntr _ _ _ (bm.ntr _ _ _ (fj.le bm J bB (by omega) (by omega) ab aS) bT) (fj.le bm U (by omega) (by omega) KP bc aD)
  ·rw[g2 _ (by omega) afu]at ab;by_cases aV:q<e
   ·rw[g3 _ bu aV]at aD;rcases cp with cp|cp|⟨u,v,aS,bc,bT⟩
    ·omega
    ·omega
    ·exact bm.ntr _ _ _ (bm.ntr _ _ _ (fj.le bm U (by omega) (by omega) (by omega) ab bc) (bm.asym _ _ bT)) (fj.le bm J (by omega) (by omega) (by omega) aS aD)
   ·rw[g4 _ (by omega)]at aD;exact U _ _ _ _ (by omega) (by omega) KP ab aD
theorem ahs{a mid b:Nat}(Ct:a≤mid){lk jY gX:List α}(J:gw a mid lk jY)(s1:fj lt a mid jY)(U:gw mid b jY gX)(s2:fj lt mid b gX)(ZM:∀p q x y,a≤p→p<mid→mid≤q→q<b→lk[p]? =some x→lk[q]? =some y→lt y x=false):fj lt a b gX:=by
 intro p q x y bB jV bu ab aD;by_cases ao:q<mid
 ·rw[U.out _ (.inl (by omega))]at ab;rw[U.out _ (.inl (by omega))]at aD;exact s1 _ _ _ _ bB jV ao ab aD
 ·by_cases a1:mid≤p
  ·exact s2 _ _ _ _ a1 jV bu ab aD
  ·rw[U.out _ (.inl (by omega))]at ab;refine U.all (fun y=>lt y x=false) (fun k y gz ka aD=>?_) q y (by omega) bu aD;rw[J.out _ (.inr gz)]at aD;exact J.all (fun x=>lt y x=false) (fun k' x aeV aeW ab=>ZM k' k x y aeV aeW gz ka ab aD) p x bB (by omega) ab
end Go.Proofs.YtohaalphocaebaaGreat
namespace Go.Proofs.YtohaalphocaebaaGreat
open Go Go.Pv
variable {α:Type} {S:List α→cI} {n g b5:Nat} {lc b1:List ah} {lt:α→α→Bool}
def alG(lt:α→α→Bool)(l:List α)(mid m s0 r0:Nat)(x:Nat×Nat):Prop:=s0≤x.1∧x.1≤x.2∧x.2≤r0∧(x.1=s0∨ ∃u v,l[x.1-1]? =some u∧l[mid+m-x.1]? =some v∧lt v u=false)∧(x.2=r0∨ ∃u v,l[x.2]? =some u∧l[mid+m-x.2-1]? =some v∧lt v u=true)
attribute [local simp] pd
def ED(S:List α→cI)(n g b5:Nat)(lc b1:List ah)(lt:α→α→Bool)(d:Nat):Prop:=
 ∀(l:List α) (a m b:Nat),l.length=n→b-a≤d→a<m→m<b→b≤n→fj lt a m l→fj lt m b l→
  bC az 277 [eY g b5 lc b1,.int .i64 a,.int .i64 m,.int .i64 b] (S l) fun r s'=>r= .tuple []∧∃l',s'=S l'∧gw a b l l'∧fj lt a b l'
def EE(S:List α→cI)(g b5:Nat)(lc b1:List ah)(lt:α→α→Bool)(a b:Nat)(l:List α)(Q:Exit→bh→Prop):Prop:=∀gX t o,gw a b l gX→fj lt a b gX→Q .normal ⟨t,(.loc 0,[.func g lc,.func b5 b1])::(S gX).b,(S gX).e,1,o⟩
section
variable {a m b mid i e d:Nat} {l:List α} {t:List (Nat×ah)} {o:List aJ} {ob:List aJ} {Q:Exit→bh→Prop}
theorem aln(H:e7 S n g b5 lc b1 lt)(bP:ED S n g b5 lc b1 lt d)(t3:Pv.get 3 t= .int .i64 b)(t4:Pv.get 4 t= .ptr (.loc 0) 0)(t16:Pv.get 16 t= .int .i64 mid)(t22:Pv.get 22 t= .int .i64 e)(aq:l.length=n)(J:mid≤e)(U:e≤b)(ae:b≤n)(aE:b-mid≤d)(Tz:fj lt mid e l)(TA:fj lt e b l)(ia:EE S g b5 lc b1 lt mid b l Q):
  c1 az ob E2 Q ⟨t,(.loc 0,[.func g lc,.func b5 b1])::(S l).b,(S l).e,1,o⟩:=by
 unfold E2;by_cases hP:mid<e∧e<b
 ·simp[t3,t4,t16,t22,hP.1,hP.2,Pv.look];simp only[iw H,H.slc,H.ssc,il];refine H.doFn aq (bP l mid e b aq aE hP.1 hP.2 ae Tz TA) (fun l' h=>by rw[h.1.length];exact aq) (by simp[aN,aH,H.kdata aq]) ?_;rintro gX ⟨k7,z2⟩;simp;exact ia _ _ _ k7 z2
 ·have p0:fj lt mid b l:=by
   by_cases nj:mid<e
   ·rwa[show e=b by omega]at Tz
   ·rwa[show e=mid by omega]at TA
  by_cases nj:mid<e
  ·have aeo:¬e<b:=by omega
   simp[t3,t16,t22,nj,aeo];exact ia _ _ _ (.refl _) p0
  ·simp[t16,t22,nj];exact ia _ _ _ (.refl _) p0
theorem alo(H:e7 S n g b5 lc b1 lt)(bP:ED S n g b5 lc b1 lt d)(t1:Pv.get 1 t= .int .i64 a)(t3:Pv.get 3 t= .int .i64 b)(t4:Pv.get 4 t= .ptr (.loc 0) 0)(t16:Pv.get 16 t= .int .i64 mid)(t18:Pv.get 18 t= .int .i64 i)(t22:Pv.get 22 t= .int .i64 e)(aq:l.length=n)(bD:a≤i∧i≤mid∧a≤m)(J:mid≤e)(U:e≤b)(ae:b≤n)(aE:b-mid≤d)(ln:mid-a≤d)(ga:Ew lt a i m e b mid l)(ia:EE S g b5 lc b1 lt a b l Q):
  c1 az ob E3 Q ⟨t,(.loc 0,[.func g lc,.func b5 b1])::(S l).b,(S l).e,1,o⟩:=by
 unfold E3;have next:∀{jY t o},Pv.get 3 t= .int .i64 b→Pv.get 4 t= .ptr (.loc 0) 0→Pv.get 16 t= .int .i64 mid→Pv.get 22 t= .int .i64 e→jY.length=n→gw a mid l jY→fj lt a mid jY→c1 az ob E2 Q ⟨t,(.loc 0,[.func g lc,.func b5 b1])::(S jY).b,(S jY).e,1,o⟩:=fun ai ax bn dp xY cC da=>by
  refine aln H bP ai ax bn dp xY J U ae aE (fun p q x y J U ao ab aD=>?_) (fun p q x y J U ao ab aD=>?_) fun gX t o aV bf=>?_
  ·rw[cC.out _ (.inr J)]at ab;rw[cC.out _ (.inr (by omega))]at aD;exact ga.s3 p q x y J U ao ab aD
  ·rw[cC.out _ (.inr (by omega))]at ab;rw[cC.out _ (.inr (by omega))]at aD;exact ga.s4 p q x y J U ao ab aD
  ·exact ia gX t o ((cC.mono (by omega) (by omega)).trans (aV.mono (by omega) (by omega))) (ahs (by omega) cC da aV bf ga.cross)
 by_cases ll:a<i∧i<mid
 ·simp[t1,t4,t16,t18,ll.1,ll.2,Pv.look];simp only[iw H,H.slc,H.ssc,il];refine H.doFn aq (bP l a i mid aq ln ll.1 ll.2 (by omega) ga.s1 ga.s2) (fun l' h=>by rw[h.1.length];exact aq) (by simp[aN,aH,H.kdata aq]) ?_;rintro jY ⟨cC,da⟩;simp;exact next (by simp[t3]) (by simp[t4]) (by simp[t16]) (by simp[t22]) (by rw[cC.length];exact aq) cC da
 ·have da:fj lt a mid l:=by
   by_cases pW:a<i
   ·have:=ga.s1;rwa[show i=mid by omega]at this
   ·have:=ga.s2;rwa[show i=a by omega]at this
  by_cases pW:a<i
  ·have FD:¬i<mid:=by omega
   simp[t1,t16,t18,pW,FD];exact next (by simp[t3]) (by simp[t4]) (by simp[t16]) (by simp[t22]) aq (.refl _) da
  ·simp[t1,t18,pW];exact next (by simp[t3]) (by simp[t4]) (by simp[t16]) (by simp[t22]) aq (.refl _) da
theorem alp(H:e7 S n g b5 lc b1 lt)(bP:ED S n g b5 lc b1 lt d)(t1:Pv.get 1 t= .int .i64 a)(t2:Pv.get 2 t= .int .i64 m)(t3:Pv.get 3 t= .int .i64 b)(t4:Pv.get 4 t= .ptr (.loc 0) 0)(t16:Pv.get 16 t= .int .i64 mid)(t18:Pv.get 18 t= .int .i64 i)(t22:Pv.get 22 t= .int .i64 e)(aq:l.length=n)(bD:a≤i∧i≤mid∧a≤m)(J:mid≤e)(U:e≤b)(ae:b≤n)(aE:b-mid≤d)(ln:mid-a≤d)(x5:∀lk:List α,(∀k,lk[k]? =l[h4 i m e k]?)→Ew lt a i m e b mid lk)(ia:EE S g b5 lc b1 lt a b l Q):
  c1 az ob Jc Q ⟨t,(.loc 0,[.func g lc,.func b5 b1])::(S l).b,(S l).e,1,o⟩:=by
 unfold Jc;have next:∀{lk t o},Pv.get 1 t= .int .i64 a→Pv.get 3 t= .int .i64 b→Pv.get 4 t= .ptr (.loc 0) 0→Pv.get 16 t= .int .i64 mid→Pv.get 18 t= .int .i64 i→Pv.get 22 t= .int .i64 e→lk.length=n→Ew lt a i m e b mid lk→gw a b l lk→c1 az ob E3 Q ⟨t,(.loc 0,[.func g lc,.func b5 b1])::(S lk).b,(S lk).e,1,o⟩:=fun ai ax bn dp hT hU gp ga aeh=>alo H bP ai ax bn dp hT hU gp bD J U ae aE ln ga fun gX t o aV bf=>ia gX t o (aeh.trans aV) bf
 by_cases F5:i<m∧m<e
 ·simp[t2,t4,t18,t22,F5.1,F5.2,Pv.look];simp only[iw H,H.slc,H.ssc,il];refine H.doFn aq (adJ H l aq i m e F5.1 F5.2 (by omega)) (fun l' h=>by rw[h.1.length];exact aq) (by simp[aN,aH,H.kdata aq]) ?_;rintro lk ⟨aV,bf⟩;simp;exact next (by simp[t1]) (by simp[t3]) (by simp[t4]) (by simp[t16]) (by simp[t18]) (by simp[t22]) (by rw[aV.length];exact aq) (x5 lk bf) (aV.mono (by omega) (by omega))
 ·have ga:=x5 l (fun k=>by
   congr 1;simp only[h4];repeat' split
   all_goals omega)
  by_cases mB:i<m
  ·have afx:¬m<e:=by omega
   simp[t2,t18,t22,mB,afx];exact next (by simp[t1]) (by simp[t3]) (by simp[t4]) (by simp[t16]) (by simp[t18]) (by simp[t22]) aq ga (.refl _)
  ·simp[t2,t18,mB];exact next (by simp[t1]) (by simp[t3]) (by simp[t4]) (by simp[t16]) (by simp[t18]) (by simp[t22]) aq ga (.refl _)
theorem Xj{bb:List (aJ×List ah)}(H:e7 S n g b5 lc b1 lt)(rM:Pv.look (.loc 0) bb=some [.func g lc,.func b5 b1])(cF:∀k cs,Pv.look k (S l).b=some cs→Pv.look k bb=some cs)(bm:qy lt)(bP:ED S n g b5 lc b1 lt d){s0 r0:Nat}(t1:Pv.get 1 t= .int .i64 a)(t2:Pv.get 2 t= .int .i64 m)(t3:Pv.get 3 t= .int .i64 b)(t4:Pv.get 4 t= .ptr (.loc 0) 0)(t16:Pv.get 16 t= .int .i64 mid)(t17:Pv.get 17 t= .int .i64 ((mid:Int)+m))(t18:Pv.get 18 t= .int .i64 s0)(t19:Pv.get 19 t= .int .i64 r0)(aq:l.length=n)(bD:a<m∧m<b∧mid=(a+b)/2)(J:mid<m∧s0=mid+m-b∧r0=mid∨m≤mid∧s0=a∧r0=m)(ae:b≤n)(aE:b-a≤d+1)(kA:fj lt a m l)(pg:fj lt m b l)(ia:EE S g b5 lc b1 lt a b l Q):
  c1 az (cZ (S l)) Jd Q ⟨t,bb,(S l).e,1,o⟩:=by
 have hle:=H.le;unfold Jd;simp[t17];(with_reducible repeat' first|refine aj ?_|simp[t17]);refine ou (fun(x:Nat×Nat)=>⟨[(1,.int .i64 a),(2,.int .i64 m),(3,.int .i64 b),(4,.ptr (.loc 0) 0),(16,.int .i64 mid),(17,.int .i64 (mid+m)),(20,.int .i64 (mid+m-1)),(18,.int .i64 x.1),(19,.int .i64 x.2)],(.loc 0,[.func g lc,.func b5 b1])::(S l).b,(S l).e,1,cZ (S l)⟩) (fun x=>x.2-x.1)
  (alG lt l mid m s0 r0) (s0,r0) (H.weak aq aq (by simp[aH,t1,t2,t3,t4,t16,t17,t18,t19]) rM cF fun _ _ h=>h) ⟨by simp,by simp;omega,by simp,.inl rfl,.inl rfl⟩ ?_
 rintro⟨i,j⟩ ⟨aS,bc,bT,dI,cY⟩ _;simp only at aS bc bT dI cY;have kg:=FF i j (by omega);by_cases l8:i<j
 ·simp[l8];(with_reducible repeat' first|refine aj ?_|simp[Pv.look]);obtain⟨c,ar⟩:∃c,c=(i+j)/2:=⟨_,rfl⟩;rw[←ar]at kg;simp only[kg];(with_reducible repeat' first|refine aj ?_|simp[Pv.look]);obtain⟨u,pn⟩:∃u,l[c]? =some u:=⟨_,cb (by omega)⟩;obtain⟨v,K4⟩:∃v,l[mid+m-1-c]? =some v:=⟨_,cb (by omega)⟩;have dp:((mid:Int)+m-1-c)=(mid+m-1-c:Nat):=by omega
  simp only[H.slc,dp];refine H.doLess aq (mid+m-1-c) c K4 pn ?_;simp;cases r1:lt v u with
  |false=>simp;(with_reducible repeat' first|refine aj ?_|simp);refine bN.whl (c+1,j) (by simp;omega) ⟨by simp;omega,by simp;omega,bT,.inr ⟨u,v,by simpa using pn,?_,r1⟩,cY⟩ (H.weakC aq aq (by simp[aH]));simp only;rw[show mid+m-(c+1)=mid+m-1-c by omega];exact K4
  |true=>simp;(with_reducible repeat' first|refine aj ?_|simp);refine bN.whl (i,c) (by simp;omega) ⟨aS,by simp;omega,by simp;omega,dI,.inr ⟨u,v,pn,?_,r1⟩⟩ (H.weakC aq aq (by simp[aH]));simp only;rw[show mid+m-c-1=mid+m-1-c by omega];exact K4
 ·obtain rfl:i=j:=by omega
  obtain⟨e,he⟩:∃e,e=mid+m-i:=⟨_,rfl⟩;have hT:((mid:Int)+m-i)=(e:Nat):=by omega
  have bQ:i=a∨e=b∨ ∃x y,l[i-1]? =some x∧l[e]? =some y∧lt y x=false:=by
   rcases dI with dI|⟨u,v,aV,bf,bI⟩
   ·omega
   ·exact .inr (.inr ⟨u,v,aV,by rw[he];exact bf,bI⟩)
  have cp:i=m∨e=m∨ ∃x y,l[i]? =some x∧l[e-1]? =some y∧lt y x=true:=by
   rcases cY with cY|⟨u,v,aV,bf,bI⟩
   ·omega
   ·exact .inr (.inr ⟨u,v,aV,by rw[he];exact bf,bI⟩)
  simp[l8];(with_reducible repeat' first|refine aj ?_|simp);rw[hT];exact alp H bP (a:=a) (m:=m) (b:=b) (mid:=mid) (i:=i) (e:=e) (by simp) (by simp) (by simp) (by simp) (by simp) (by simp) (by simp) aq (by omega) (by omega) (by omega) ae (by omega) (by omega) (fun lk aK=>ahr bm (by omega) (by omega) (by omega) (by omega) (by omega) (by omega) kA pg bQ cp aK) ia
end
theorem Sm(H:e7 S n g b5 lc b1 lt)(bm:qy lt)(d:Nat):∀(l:List α) (a m b:Nat),l.length=n→b-a≤d→a<m→m<b→b≤n→fj lt a m l→fj lt m b l→
  bC az 277 [eY g b5 lc b1,.int .i64 a,.int .i64 m,.int .i64 b] (S l) fun r s'=>r= .tuple []∧∃l',s'=S l'∧gw a b l l'∧fj lt a b l':=by
 induction d with
 |zero=>intro l a m b aq aE Ct tc;omega
 |succ d bP=>
 intro l a m b aq aE Ct tc ae kA pg;have af:=H.ok l;have au:∀l m,Pv.look (.loc m) (S l).b=none:=fun l=>(H.ok l).obj.1;have hu:∀l m cs,cu (.loc m) cs (S l).b=(S l).b++[(.loc m,cs)]:=fun l m cs=>j4 (au l m);have av:∀m,aJ.loc m∉cZ (S l):=j0 af.obj;have hle:=H.le;refine bC.mk mixed Bu aca aiV (by simp) af.obj fun aP cF=>?_;unfold Qd;simp[eY,hu,av,cH,au];(with_reducible repeat' first|((first|apply bG|apply bL|apply bK)<;>intro h<;>try simp at h)|refine aj ?_|simp[hu,av,cH,au])
 ·obtain rfl:m=a+1:=by omega
  have KT:∀k,h4 a (a+1) (a+1) k=k:=by
   intro k;simp only[h4];repeat' split
   all_goals omega
  obtain⟨z,aY⟩:∃z,l[a]? =some z:=⟨_,cb (by omega)⟩;refine ou (fun(x:Nat×Nat)=>⟨[(1,.int .i64 a),(4,.ptr (.loc 0) 0),(8,.int .i64 x.1),(9,.int .i64 x.2)],(.loc 0,[.func g lc,.func b5 b1])::(S l).b,(S l).e,1,cZ (S l)⟩) (fun x=>x.2-x.1)
   (fun x=>a+1≤x.1∧x.1≤x.2∧x.2≤b∧(∀h y,a+1≤h→h<x.1→l[h]? =some y→lt y z=true)∧(∀h y,x.2≤h→h<b→l[h]? =some y→lt y z=false)) (a+1,b)
   (H.weak aq aq (by simp[aH]) (by simp[cH,au]) aG aG) ⟨by simp,by simp;omega,by simp,fun h y J U=>by simp at U;omega,fun h y J U=>by simp at J;omega⟩ ?_
  rintro⟨i,j⟩ ⟨aS,bc,bT,dI,cY⟩ _;simp only at aS bc bT dI cY;have hw:=FF i j (by omega);simp[Pv.look];(with_reducible repeat' first|((first|apply bG|apply bL|apply bK)<;>intro h<;>try simp at h)|refine aj ?_|simp[Pv.look])
  ·obtain⟨c,ar⟩:∃c,c=(i+j)/2:=⟨_,rfl⟩;rw[←ar]at hw;obtain⟨y,aD⟩:∃y,l[c]? =some y:=⟨_,cb (by omega)⟩;simp only[hw,H.slc];refine H.doLess aq c a aD aY ?_;simp;cases r1:lt y z with
   |true=>
    simp;(with_reducible repeat' first|refine aj ?_|simp);refine bN.whl (c+1,j) (by simp;omega) ⟨by simp;omega,by simp;omega,bT,fun h u J U hu=>?_,cY⟩ (H.weakC aq aq (by simp[aH]));cases e:lt u z with
    |true=>rfl
    |false=>simp only at U;have:=bm.ntr _ _ _ e (fj.le bm pg J (by omega) (by omega) hu aD);rw[r1]at this;cases this
   |false=>simp;(with_reducible repeat' first|refine aj ?_|simp);refine bN.whl (i,c) (by simp;omega) ⟨aS,by simp;omega,by simp;omega,dI,fun h u J U hu=>?_⟩ (H.weakC aq aq (by simp[aH]));exact bm.ntr _ _ _ r1 (fj.le bm pg (by omega) J U aD hu)
  ·obtain rfl:i=j:=by omega
   refine ou (fun(x:Nat×List α)=>⟨[(4,.ptr (.loc 0) 0),(8,.int .i64 i),(11,.int .i64 x.1)],(.loc 0,[.func g lc,.func b5 b1])::(S x.2).b,(S x.2).e,1,cZ (S l)⟩) (fun x=>i-x.1)
    (fun x=>x.2.length=n∧a≤x.1∧x.1<i∧gw a b l x.2∧∀k,x.2[k]? =l[h4 a (a+1) (x.1+1) k]?) (a,l)
    (H.weakC aq aq (by simp[aH])) ⟨aq,by simp,by simp;omega,.refl _,fun k=>by simp[KT]⟩ ?_
   rintro⟨k,lk⟩ ⟨aV,bf,bI,cN,c6⟩ _;simp only at aV bf bI cN c6;simp[Pv.look];((with_reducible repeat' first|refine aj ?_|simp[Pv.look]|((first|apply bG|apply bL|apply bK)<;>intro h<;>try simp at h))<;>(try exact cg))
   ·have bn:((k:Int)+1)=(k+1:Nat):=by omega
    rw[H.ssc,bn];refine H.doSwap aV k (k+1) (by omega) (by omega) (by omega) ?_;simp;(with_reducible repeat' first|((first|apply bG|apply bL|apply bK)<;>intro h<;>try simp at h)|refine aj ?_|simp);refine bN.whl (k+1,hn lk k (k+1)) (by simp;omega) ⟨by simp[aV],by simp;omega,by simp;omega,.step cN (by omega) (by omega) (by omega) (by omega) (by omega) (by omega),fun t=>?_⟩ (H.weakC aq (by simp[aV]) (by simp[aH]));rw[AH _ _ _ _ (by omega) (by omega),c6,c6,c6];have:h4 a (a+1) (k+1+1) t=if t=k then h4 a (a+1) (k+1) (k+1)else if t=k+1 then h4 a (a+1) (k+1) k else h4 a (a+1) (k+1) t:=by
     simp only[h4];repeat' split
     all_goals omega
    rw[this];split
    ·rfl
    ·split<;>rfl
   ·obtain rfl:i=k+1:=by omega
    refine H.ret aq aV (.inl rfl) ⟨rfl,lk,rfl,cN,ahi bm (by omega) bT (by omega) pg aY dI cY c6⟩
 ·obtain rfl:b=m+1:=by omega
  have KT:∀k,h4 m m (m+1) k=k:=by
   intro k;simp only[h4];repeat' split
   all_goals omega
  obtain⟨z,aY⟩:∃z,l[m]? =some z:=⟨_,cb (by omega)⟩;refine ou (fun(x:Nat×Nat)=>⟨[(2,.int .i64 m),(4,.ptr (.loc 0) 0),(12,.int .i64 x.1),(13,.int .i64 x.2)],(.loc 0,[.func g lc,.func b5 b1])::(S l).b,(S l).e,1,cZ (S l)⟩) (fun x=>x.2-x.1)
   (fun x=>a≤x.1∧x.1≤x.2∧x.2≤m∧(∀h y,a≤h→h<x.1→l[h]? =some y→lt z y=false)∧(∀h y,x.2≤h→h<m→l[h]? =some y→lt z y=true)) (a,m)
   (H.weak aq aq (by simp[aH]) (by simp[cH,au]) aG aG) ⟨by simp,by simp;omega,by simp,fun h y J U=>by simp at U;omega,fun h y J U=>by simp at J;omega⟩ ?_
  rintro⟨i,j⟩ ⟨aS,bc,bT,dI,cY⟩ _;simp only at aS bc bT dI cY;have hw:=FF i j (by omega);simp[Pv.look];(with_reducible repeat' first|((first|apply bG|apply bL|apply bK)<;>intro h<;>try simp at h)|refine aj ?_|simp[Pv.look])
  ·obtain⟨c,ar⟩:∃c,c=(i+j)/2:=⟨_,rfl⟩;rw[←ar]at hw;obtain⟨y,aD⟩:∃y,l[c]? =some y:=⟨_,cb (by omega)⟩;simp only[hw,H.slc];refine H.doLess aq m c aY aD ?_;simp;cases r1:lt z y with
   |false=>simp;((with_reducible repeat' first|refine aj ?_|simp|((first|apply bG|apply bL|apply bK)<;>intro h<;>try simp at h))<;>(try exact cg));refine bN.whl (c+1,j) (by simp;omega) ⟨by simp;omega,by simp;omega,bT,fun h u J U hu=>?_,cY⟩ (H.weakC aq aq (by simp[aH]));simp only at U;exact bm.ntr _ _ _ (fj.le bm kA J (by omega) (by omega) hu aD) r1
   |true=>
    simp;((with_reducible repeat' first|refine aj ?_|simp|((first|apply bG|apply bL|apply bK)<;>intro h<;>try simp at h))<;>(try exact cg));refine bN.whl (i,c) (by simp;omega) ⟨aS,by simp;omega,by simp;omega,dI,fun h u J U hu=>?_⟩ (H.weakC aq aq (by simp[aH]));cases e:lt z u with
    |true=>rfl
    |false=>have:=bm.ntr _ _ _ (fj.le bm kA (by omega) J U aD hu) e;rw[r1]at this;cases this
  ·obtain rfl:i=j:=by omega
   refine ou (fun(x:Nat×List α)=>⟨[(4,.ptr (.loc 0) 0),(12,.int .i64 i),(15,.int .i64 x.1)],(.loc 0,[.func g lc,.func b5 b1])::(S x.2).b,(S x.2).e,1,cZ (S l)⟩) (fun x=>x.1)
    (fun x=>x.2.length=n∧i≤x.1∧x.1≤m∧gw a (m+1) l x.2∧∀k,x.2[k]? =l[h4 x.1 m (m+1) k]?) (m,l)
    (H.weakC aq aq (by simp[aH])) ⟨aq,by simp;omega,by simp,.refl _,fun k=>by simp[KT]⟩ ?_
   rintro⟨k,lk⟩ ⟨aV,bf,bI,cN,c6⟩ _;simp only at aV bf bI cN c6;simp[Pv.look];((with_reducible repeat' first|refine aj ?_|simp[Pv.look]|((first|apply bG|apply bL|apply bK)<;>intro h<;>try simp at h))<;>(try exact cg))
   ·have bn:((k:Int)-1)=(k-1:Nat):=by omega
    rw[H.ssc,bn];refine H.doSwap aV k (k-1) (by omega) (by omega) (by omega) ?_;simp;(with_reducible repeat' first|refine aj ?_|simp);refine bN.whl (k-1,hn lk k (k-1)) (by simp;omega) ⟨by simp[aV],by simp;omega,by simp;omega,.step cN (by omega) (by omega) (by omega) (by omega) (by omega) (by omega),fun t=>?_⟩ (H.weakC aq (by simp[aV]) (by simp[aH];omega));rw[AH _ _ _ _ (by omega) (by omega),c6,c6,c6];have:h4 (k-1) m (m+1) t=if t=k then h4 k m (m+1) (k-1)else if t=k-1 then h4 k m (m+1) k else h4 k m (m+1) t:=by
     simp only[h4];repeat' split
     all_goals omega
    rw[this];split
    ·rfl
    ·split<;>rfl
   ·obtain rfl:i=k:=by omega
    refine H.ret aq aV (.inl rfl) ⟨rfl,lk,rfl,cN,ahj bm (by omega) bT (by omega) kA aY dI cY c6⟩
 ·obtain⟨mid,KG⟩:∃mid,mid=(a+b)/2:=⟨_,rfl⟩;have hw:=FF a b (by omega);rw[←KG]at hw;simp only[hw];(with_reducible repeat' first|((first|apply bG|apply bL|apply bK)<;>intro h<;>try simp at h)|refine aj ?_|simp[hu,av,cH,au])
  ·exact Xj (s0:=mid+m-b) (r0:=mid) H (by simp[cH,au]) aG bm bP (a:=a) (m:=m) (b:=b) (mid:=mid) (by simp) (by simp) (by simp) (by simp) (by simp) (by simp) (by simp;omega) (by simp) aq ⟨Ct,tc,KG⟩ (by omega) ae aE kA pg fun gX t o aV bf=>H.ret aq (by rw[aV.length];exact aq) (.inr rfl) ⟨rfl,gX,rfl,aV,bf⟩
  ·exact Xj (s0:=a) (r0:=m) H (by simp[cH,au]) aG bm bP (a:=a) (m:=m) (b:=b) (mid:=mid) (by simp) (by simp) (by simp) (by simp) (by simp) (by simp) (by simp) (by simp) aq ⟨Ct,tc,KG⟩ (by omega) ae aE kA pg fun gX t o aV bf=>H.ret aq (by rw[aV.length];exact aq) (.inr rfl) ⟨rfl,gX,rfl,aV,bf⟩
end Go.Proofs.YtohaalphocaebaaGreat
namespace Go.Proofs.YtohaalphocaebaaGreat
open Go Go.Pv
variable {α:Type} {S:List α→cI} {n g b5:Nat} {lc b1:List ah} {lt:α→α→Bool}
def o0(lt:α→α→Bool)(z a b:Nat)(l:List α):Prop:= ∀i j x y,a≤i→i<j→j<b→i/z=j/z→l[i]? =some x→l[j]? =some y→lt y x=false
theorem o0.snoc{z q:Nat}(aY:0<z){l l':List α}(h:o0 lt z 0 (q*z) l){b:Nat}(af:gw (q*z) b l l')(U:fj lt (q*z) b l'):o0 lt z 0 b l':=by
 intro i j x y hi l8 ag aE ab aD;by_cases S7:j<q*z
 ·rw[af.out _ (.inl (by omega))]at ab;rw[af.out _ (.inl S7)]at aD;exact h i j x y hi l8 S7 aE ab aD
 ·have ao:q≤j/z:=(Nat.le_div_iff_mul_le aY).2 (by omega);have a1:q*z≤i:=(Nat.le_div_iff_mul_le aY).1 (by omega);exact U i j x y a1 l8 ag ab aD
theorem o0.srt{z q:Nat}(aY:0<z){l:List α}{a b:Nat}(h:o0 lt z a b l){c:Nat}(aoB:a≤q*z)(ar:c≤(q+1)*z)(SN:c≤b):fj lt (q*z) c l:=by intro i j x y hi l8 ag ab aD;have hG:i/z=q:=Nat.div_eq_of_lt_le hi (by omega);have oB:j/z=q:=Nat.div_eq_of_lt_le (by omega) (by omega);exact h i j x y (by omega) l8 (by omega) (by omega) ab aD
theorem o0.after{z a b be bV:Nat}{l l':List α}(h:o0 lt z a b l)(af:gw a be l l')(bk:a≤be)(ae:bV≤b):o0 lt z be bV l':=by intro i j x y hi l8 ag aE ab aD;rw[af.out _ (.inr (by omega))]at ab;rw[af.out _ (.inr (by omega))]at aD;exact h i j x y (by omega) l8 (by omega) aE ab aD
theorem Kb(H:e7 S n g b5 lc b1 lt)(bm:qy lt)(l:List α)(aq:l.length=n):
  bC az 248 [eY g b5 lc b1,.int .i64 n] (S l) fun r s'=>r= .tuple []∧∃l',s'=S l'∧gw 0 n l l'∧fj lt 0 n l':=by
 have af:=H.ok l;have au:∀l m,Pv.look (.loc m) (S l).b=none:=fun l=>(H.ok l).obj.1;have hu:∀l m cs,cu (.loc m) cs (S l).b=(S l).b++[(.loc m,cs)]:=fun l m cs=>j4 (au l m);have av:∀m,aJ.loc m∉cZ (S l):=j0 af.obj;have hle:=H.le;refine bC.mk mixed Bu ab8 aiT (by simp) af.obj fun aP cF=>?_;unfold Qb;simp[eY,hu,av,cH,au];refine ou (fun(x:Nat×List α)=>⟨[(1,.int .i64 n),(2,.ptr (.loc 0) 0),(4,.int .i64 20),(5,.int .i64 (x.1*20)),(6,.int .i64 (x.1*20+20))],(.loc 0,[.func g lc,.func b5 b1])::(S x.2).b,(S x.2).e,1,cZ (S l)⟩) (fun x=>n+20-x.1*20)
  (fun x=>x.2.length=n∧x.1*20≤n∧gw 0 n l x.2∧o0 lt 20 0 (x.1*20) x.2) (0,l)
  (H.weak aq aq (by simp[aH]) (by simp[cH,au]) aG aG) ⟨aq,by simp,.refl _,fun i j x y J U ao=>by simp at ao⟩ ?_
 rintro⟨q,lk⟩ ⟨J,U,ao,a1⟩ _;simp only at J U ao a1;simp[Pv.look];((with_reducible repeat' first|refine aj ?_|simp[Pv.look]|((first|apply bG|apply bL|apply bK)<;>intro h<;>try simp at h))<;>(try exact cg))
 ·have ai:((q:Int)*20)=(q*20:Nat):=by omega
  have ax:((q:Int)*20+20)=(q*20+20:Nat):=by omega
  simp only[iw H,H.slc,H.ssc,il,ax];simp only[ai];refine H.doFn J (Sd H bm lk J (q*20) (q*20+20) (by omega) (by omega)) (fun l' h=>by rw[h.1.length];exact J) (by simp[aN,aH,H.kdata J]) ?_;rintro l' ⟨cC,da⟩;have tb:l'.length=n:=by rw[cC.length];exact J
  simp;((with_reducible repeat' first|refine aj ?_|simp|((first|apply bG|apply bL|apply bK)<;>intro h<;>try simp at h))<;>(try exact cg));refine bN.whl (q+1,l') (by simp;omega) ⟨tb,by simp;omega,ao.trans (cC.mono (by omega) (by omega)),?_⟩ (H.weakC aq tb (by simp[aH];omega));have:=a1.snoc (by omega) cC da;rwa[show q*20+20=(q+1)*20 by omega]at this
 ·have ai:((q:Int)*20)=(q*20:Nat):=by omega
  simp only[iw H,H.slc,H.ssc,il,ai];refine H.doFn J (Sd H bm lk J (q*20) n (by omega) (by omega)) (fun l' h=>by rw[h.1.length];exact J) (by simp[aN,aH,H.kdata J]) ?_;rintro l' ⟨cC,da⟩;have tb:l'.length=n:=by rw[cC.length];exact J
  have fD:=a1.snoc (by omega) cC da;simp;refine ou (fun(x:Nat×List α)=>⟨[(1,.int .i64 n),(2,.ptr (.loc 0) 0),(4,.int .i64 x.1)],(.loc 0,[.func g lc,.func b5 b1])::(S x.2).b,(S x.2).e,1,cZ (S l)⟩) (fun x=>1099511627776-x.1)
   (fun x=>x.2.length=n∧20≤x.1∧x.1≤2*n+20∧gw 0 n l x.2∧o0 lt x.1 0 n x.2) (20,l')
   (H.weakC aq tb (by simp[aH])) ⟨tb,by simp,by simp,ao.trans (cC.mono (by omega) (by omega)),fD⟩ ?_
  rintro⟨z,UN⟩ ⟨k7,z2,z3,z4,z5⟩ _;simp only at k7 z2 z3 z4 z5;simp[Pv.look];((with_reducible repeat' first|refine aj ?_|simp[Pv.look]|((first|apply bG|apply bL|apply bK)<;>intro h<;>try simp at h))<;>(try exact cg))
  ·refine ou (fun(x:Nat×List α)=>⟨[(1,.int .i64 n),(2,.ptr (.loc 0) 0),(4,.int .i64 z),(5,.int .i64 (x.1*(2*z):Nat)),(6,.int .i64 (x.1*(2*z)+2*z:Nat))],(.loc 0,[.func g lc,.func b5 b1])::(S x.2).b,(S x.2).e,1,cZ (S l)⟩) (fun x=>n+2*z-x.1*(2*z))
    (fun x=>x.2.length=n∧x.1*(2*z)≤n∧gw 0 n l x.2∧o0 lt (2*z) 0 (x.1*(2*z)) x.2∧o0 lt z (x.1*(2*z)) n x.2) (0,UN)
    (H.weakC aq k7 (by simp[aH])) ⟨k7,by simp,z4,fun i j x y J U ao=>by simp at ao,by simpa using z5⟩ ?_
   rintro⟨p,De⟩ ⟨fW,dS,El,vs,Em⟩ _;simp only at fW dS El vs Em;obtain⟨A,ba⟩:∃A,A=p*(2*z):=⟨_,rfl⟩;have FB:A=(2*p)*z:=by rw[ba,Nat.mul_comm 2 p,Nat.mul_assoc]
   have Kf:(2*p+1)*z=A+z:=by rw[pL,←FB,Nat.one_mul]
   have ad3:(2*p+2)*z=A+2*z:=by rw[pL,←FB]
   have zJ:(p+1)*(2*z)=A+2*z:=by rw[pL,←ba,Nat.one_mul]
   have kA:∀c,c≤A+z→c≤n→fj lt A c De:=fun c ar zO=>by have:=o0.srt (q:=2*p) (by omega) Em (c:=c) (by rw[←FB,ba];omega) (by rw[Kf];exact ar) zO;rwa[←FB]at this
   have pg:∀c,c≤A+2*z→c≤n→fj lt (A+z) c De:=fun c ar zO=>by have:=o0.srt (q:=2*p+1) (by omega) Em (c:=c) (by rw[Kf,ba];omega) (by rw[ad3];exact ar) zO;rwa[Kf]at this
   rw[←ba]at dS vs Em;simp only[←ba];simp[Pv.look];((with_reducible repeat' first|refine aj ?_|simp[Pv.look]|((first|apply bG|apply bL|apply bK)<;>intro h<;>try simp at h))<;>(try exact cg))
   ·have bn:((A:Int)+z)=(A+z:Nat):=by omega
    have dp:((A:Int)+2*z)=(A+2*z:Nat):=by omega
    simp only[iw H,H.slc,H.ssc,il,bn,dp];refine H.doFn fW (Sm H bm (A+2*z-A) De A (A+z) (A+2*z) fW (by omega) (by omega) (by omega) (by omega) (kA _ (by omega) (by omega)) (pg _ (by omega) (by omega))) (fun l' h=>by rw[h.1.length];exact fW) (by simp[aN,aH,H.kdata fW]) ?_;rintro gX ⟨kM,oW⟩;have oC:gX.length=n:=by rw[kM.length];exact fW
    simp;(with_reducible repeat' first|refine aj ?_|simp);refine bN.whl (p+1,gX) (by simp only[zJ,←ba];omega) ⟨oC,by simp only[zJ];omega,El.trans (kM.mono (by omega) (by omega)),?_,?_⟩ ?_
    ·simp only[zJ];rw[ba]at vs kM oW;have:=vs.snoc (by omega) kM oW;rwa[←ba]at this
    ·simp only[zJ];exact Em.after kM (by omega) (by omega)
    ·simp only[zJ];have ad4:((p:Int)+1)*(2*(z:Int))=(A:Int)+2*z:=by have h:=eU (Nat.cast:Nat→Int) zJ;push_cast at h;exact h
     exact H.weakC aq oC (by simp[aH,ad4])
   ·have bn:((A:Int)+z)=(A+z:Nat):=by omega
    simp only[iw H,H.slc,H.ssc,il,bn];refine H.doFn fW (Sm H bm (n-A) De A (A+z) n fW (by omega) (by omega) (by omega) (by omega) (kA _ (by omega) (by omega)) (pg _ (by omega) (by omega))) (fun l' h=>by rw[h.1.length];exact fW) (by simp[aN,aH,H.kdata fW]) ?_;rintro gX ⟨kM,oW⟩;have oC:gX.length=n:=by rw[kM.length];exact fW
    simp;((with_reducible repeat' first|refine aj ?_|simp|((first|apply bG|apply bL|apply bK)<;>intro h<;>try simp at h))<;>(try exact cg));refine bN.whl (2*z,gX) (by simp;omega) ⟨oC,by simp;omega,by simp;omega,El.trans (kM.mono (by omega) (by omega)),?_⟩ (H.weakC aq oC (by simp[aH];omega));rw[ba]at vs kM oW;exact vs.snoc (by omega) kM oW
   ·refine bN.whl (2*z,De) (by simp;omega) ⟨fW,by simp;omega,by simp;omega,El,?_⟩ (H.weakC aq fW (by simp[aH];omega));have b2:=kA n (by omega) (by omega);rw[ba]at vs b2;exact vs.snoc (by omega) (.refl _) b2
  ·refine H.ret aq k7 (.inr rfl) ?_;refine⟨rfl,UN,rfl,z4,fun i j x y J U ao=>z5 i j x y J U ao ?_⟩;rw[Nat.div_eq_of_lt (by omega),Nat.div_eq_of_lt (by omega)]
end Go.Proofs.YtohaalphocaebaaGreat
namespace Go.Proofs.YtohaalphocaebaaGreat
open Go Go.Pv Go.Sort Go.RowKit
theorem afp{w:World}{base:Nat}{e:gL}{sz:Nat}{v:Value}{n:Nat}{us:List Value}(h:w.ownsRow base e sz v n us)(aI:v≠ .slice none 0 0):
  ∃g cap,v= .slice (some ⟨g,0,none⟩) n cap∧g<w.heap.size∧cap≤maxLen∧n≤cap∧us.length=n*sz∧Holds id w g 0 us.toArray:=by
 rcases h.2 with⟨pQ,_⟩|⟨g,cap,cur,rfl,ae,aR,au,hm,af,aL⟩
 ·exact absurd pQ aI
 ·have bm:g<w.heap.size:=by
   rcases Nat.lt_or_ge g w.heap.size with cr|cr
   ·exact cr
   ·rw[Array.getElem?_eq_none cr]at aR;cases aR
  refine⟨g,cap,rfl,bm,hm,au,h.1,fun j ag=>?_⟩;have ju:j<us.length:=by simpa using ag
  have aq:=h.1;refine⟨?_,by simp[World.frozen?,aR]⟩;have ai:(cur.toList.take (n*sz))[j]? =us[j]?:=by rw[aL]
  rw[List.getElem?_take,if_pos (by omega),tU,cb ju]at ai;simp only[World.cell?,aR,Nat.zero_add];simp only[ja,gC,if_false];rw[ai];simp[getElem!_pos,ju]
theorem ajI{w:World}{base:Nat}{e:gL}{sz g n cap q:Nat}{us:List Value}{F:Array Value}(h:w.ownsRow base e sz (.slice (some ⟨g,0,none⟩) n cap) n us)(fs:F.size=n*sz):
  (putRow id (Sort.ahead w q) g 0 F).ownsRow base e sz (.slice (some ⟨g,0,none⟩) n cap) n F.toList:=by
 rcases h.2 with⟨pQ,_⟩|⟨e9,B2,cur,pQ,ae,aR,au,hm,af,aL⟩
 ·cases pQ
 ·injection pQ with ai _ bn;injection ai with ai;injection ai with ai;subst ai;subst bn;refine⟨by simpa using fs,.inr ⟨g,cap,putCells id 0 F cur,rfl,ae,?_,au,hm,by simpa[putCells]using af,?_⟩⟩
  ·simp[putRow,mapBlock,Sort.ahead,Array.getElem?_modify,aR,onCells]
  ·have hle:n*sz≤cur.size:=by rw[af];exact Nat.mul_le_mul_right _ au
   apply List.ext_getElem?;intro j;rw[List.getElem?_take,tU,tU];by_cases ag:j<n*sz
   ·have aeT:j<cur.size:=by omega
    simp only[if_pos ag,putCells,Array.getElem?_mapIdx,Array.getElem?_eq_getElem aeT,kN];rw[if_pos (by omega)];simp[getElem!_pos,show j<F.size by omega]
   ·simp[ag];omega
end Go.Proofs.YtohaalphocaebaaGreat
namespace Go.Pv
open Go Go.RowKit Go.Lib Go.Sort Go.Proofs.YtohaalphocaebaaGreat
theorem Up{S:aJ→Prop}:∀{l:List ah},aN S l↔∀x∈l,aH S x
 |[]=>by simp[aN]
 |x::r=>by simp only[aN,Up (l:=r),fA,forall_eq_or_imp]
theorem Uj{α:Type}{s:cI}{l:List (aJ×α)}:kY s l↔∀k,(look k l).isSome→inObs s k:=by
 refine⟨fun h k ad=>Av h k ad,fun h=>?_⟩;have:∀l':List (aJ×α),(∀x∈l',inObs s x.1)→kY s l':=by
  intro l';induction l' with
  |nil=>intro _;trivial
  |cons x r bP=>obtain⟨k,x⟩:=x;exact fun h=>⟨h (k,x) (by simp),bP fun y aD=>h y (by simp[aD])⟩
 exact this l fun x ab=>h x.1 (u0 (x:=x.2) ab)
theorem M6{w:World}{ν:a8}{sz:Nat}:∀{xs:List ah} {us:List Value} {i:Nat} {p:ah},dA w ν sz xs us→xs[i]? =some p→∃u,(us.drop (i*sz)).take sz=u.cells.toList∧a6 w ν p u∧u.cells.size=sz∧∀c∈u.cells.toList,c.oneCell'=true
 |[],_,_,_,_,bB=>by simp at bB
 |x::xs,us,0,p,h,bB=>by simp only[dA]at h;obtain⟨u,b8,rfl,⟨J,U,ao⟩,_⟩:=h;simp at bB;subst bB;refine⟨u,?_,J,U,ao⟩;simp only[Nat.zero_mul,List.drop_zero];rw[List.take_append_of_le_length (by simp[U])];exact hb (by simp[U])
 |x::xs,us,i+1,p,h,bB=>by simp only[dA]at h;obtain⟨u,b8,rfl,⟨J,U,ao⟩,b2⟩:=h;obtain⟨v,ai,ax⟩:=M6 (i:=i) b2 (by simpa using bB);refine⟨v,?_,ax⟩;rw[←ai,Nat.succ_mul,Nat.add_comm,←List.drop_drop];congr 2;rw[List.drop_append_of_le_length (by simp[U]),List.drop_of_length_le (by simp[U])];rfl
theorem Np:∀(a7:List Value) (s:Nat) (F:Array Value),s+a7.length≤F.size→(setMany F s a7).toList=F.toList.take s++a7++F.toList.drop (s+a7.length)
 |[],s,F,h=>by simp[setMany]
 |v::r,s,F,h=>by
  simp only[oa]at h;rw[setMany,Np r (s+1) _ (by simp;omega)];have bm:s<F.toList.length:=by simp;omega
  have ai:(F.setIfInBounds s v).toList=F.toList.set s v:=by simp
  rw[ai];have ax:(F.toList.set s v).take (s+1)=F.toList.take s++[v]:=by rw[List.take_succ,List.getElem?_set_self bm,List.take_set_of_le (ff _)];simp
  have bn:(F.toList.set s v).drop (s+1+r.length)=F.toList.drop (s+(v::r).length):=by rw[List.drop_set_of_lt (by omega)];congr 1;simp;omega
  rw[ax,bn];simp
theorem Zf(w:World):Sort.ahead w 0=w:=by simp[Sort.ahead]
theorem Sl{P:cA}(xI:Bool)(b5:Nat)(ab:∀args W,(callFunc b5 args).run P W=((Es xI args).run P W).andThen fun v w'=>.ok (.value v) w')(e:gL)(ei:TypeInfo)(s9:P.info? e=some ei)(xM:(∀w,(Go.isAgg e).run P w= .ok true w)∨(ei.size=1∧∀w,(Go.isAgg e).run P w= .ok false w)){s:cI}(af:dL s){K n el sz:Nat}(et:ei.size=sz){xs:List ah}(ad:look (.obj K) s.e=some ⟨n,el,sz,some xs⟩)
  (i j:Nat) (hi:i<n) (ag:j<n):bC P b5 [.int .i64 i,.int .i64 j,.row sz (.obj K) n,.cst (typeHandle P e)] s fun r s'=>r= .tuple []∧s'=⟨s.b,cu (.obj K) ⟨n,el,sz,some (hn xs i j)⟩ s.e⟩:=by
 subst et;refine bC.sem af.obj fun w ν a7 kC aK=>?_;right;have s0:=aK.slot 0;have s1:=aK.slot 1;have s2:=aK.slot 2;have s3:=aK.slot 3;simp[jP,get,a6]at s0 s1 s2 s3;obtain⟨v,us,aV,bf,bI,cN⟩:=aK.good.own (.obj K) _ ad;obtain⟨c6,nV,va⟩:=cN _ rfl;simp only at c6 nV aV bf;obtain⟨⟨g0,ZG,rM⟩,_,n',fc,ai,ax,bn⟩:=s2;rw[aV]at ai;simp only[dw,jB]at ai;obtain⟨rfl,rfl⟩:=ai;have aI:=bn rfl;have cD:v≠ .slice none 0 0:=by rw[←aI,rM];simp
 obtain⟨g,cap,rfl,qR,oA,aeK,CB,Cq⟩:=afp bf cD;have afR:a7= #[.int .i64 i,.int .i64 j,.slice (some ⟨g,0,none⟩) n cap,typeHandle P e]:=by
  have J:a7.size=4:=by simpa using kC
  apply Array.ext (by simpa using J);intro t U ao;simp at ao;rcases(by omega:t=0∨t=1∨t=2∨t=3)with rfl|rfl|rfl|rfl
  ·simpa[Array.getD,J]using s0
  ·simpa[Array.getD,J]using s1
  ·simpa[Array.getD,J]using aI
  ·simpa[Array.getD,J]using s3
 subst afR;obtain⟨p,bB⟩:∃p,xs[i]? =some p:=⟨_,cb (by omega)⟩;obtain⟨q,bu⟩:∃q,xs[j]? =some q:=⟨_,cb (by omega)⟩;obtain⟨u,iY,jA,qo,y0⟩:=M6 nV bB;obtain⟨x,sy,y3,sA,Im⟩:=M6 nV bu;have Tk:i*ei.size+ei.size≤n*ei.size:=by have:=Nat.mul_le_mul_right ei.size (show i+1≤n from hi);rwa[pL,Nat.one_mul]at this
 have Tl:j*ei.size+ei.size≤n*ei.size:=by have:=Nat.mul_le_mul_right ei.size (show j+1≤n from ag);rwa[pL,Nat.one_mul]at this
 have cell:∀t v,us[t]? =some v→w.cell? ⟨g,t,none⟩=some v:=fun t v aL=>by obtain⟨J,U⟩:=fU.1 aL;have:=(Cq t (by simpa using J)).1;simp at this;rw[this];simp[getElem!_pos,J,U]
 have Fu:∀t,t<n*ei.size→w.frozen? ⟨g,t,none⟩=false:=fun t aL=>by have:=(Cq t (by simpa[CB]using aL)).2;simpa using this
 have run:(Es xI #[.int .i64 i,.int .i64 j,.slice (some ⟨g,0,none⟩) n cap,typeHandle P e]).run P w= .ok (.tuple #[]) ((w.setCells g (0+i*ei.size) x.cells.toList).setCells g (0+j*ei.size) u.cells.toList):=by
  rcases xM with xM|⟨Fz,xM⟩
  ·exact run_swap_cells (P:=P) xI e ei s9 xM g 0 n cap i j hi ag u.cells.toList x.cells.toList (by simp[qo]) (by simp[sA]) y0 Im w
     (fun k v aI=>by
      rw[←iY,List.getElem?_take]at aI;split at aI
      ·rw[List.getElem?_drop]at aI;simpa using cell _ _ aI
      ·cases aI)
     (fun k v aI=>by
      rw[←sy,List.getElem?_take]at aI;split at aI
      ·rw[List.getElem?_drop]at aI;simpa using cell _ _ aI
      ·cases aI)
     (fun k ad=>by simpa using Fu (i*ei.size+k) (by omega)) (fun k ad=>by simpa using Fu (j*ei.size+k) (by omega))
  ·rw[Fz]at iY qo sy sA⊢;obtain⟨Fc,Kp⟩:∃c,u.cells.toList=[c]:=List.length_eq_one_iff.1 (by simpa using qo);obtain⟨o6,kU⟩:∃c,x.cells.toList=[c]:=List.length_eq_one_iff.1 (by simpa using sA);rw[Kp]at iY y0⊢;rw[kU]at sy Im⊢;simp only[World.setCells,Nat.mul_one]at iY sy⊢;have Sp:us[i]? =some Fc:=by have:=eU (·[0]?) iY;simpa using this
   have Sr:us[j]? =some o6:=by have:=eU (·[0]?) sy;simpa using this
   have:=run_swap_one (P:=P) xI e ei s9 Fz xM g 0 n cap i j hi ag Fc o6 (y0 Fc (by simp)) (Im o6 (by simp)) w (by simpa using cell i Fc Sp) (by simpa using cell j o6 Sr) (by simpa using Fu i (by rw[Fz];omega)) (by simpa using Fu j (by rw[Fz];omega));simpa using this
 have afT:putRow id w g 0 us.toArray=w:=putRow_self id w g 0 _ Cq;have afJ:us.toArray.size=n*ei.size:=by simpa using CB
 have Ai:w.setCells g (0+i*ei.size) x.cells.toList=putRow id w g 0 (setMany us.toArray (i*ei.size) x.cells.toList):=by have J:=setCells_putRow w g 0 x.cells.toList (i*ei.size) us.toArray (by simp[sA,CB];exact Tk);rw[afT]at J;exact J
 obtain⟨ih,nb⟩:∃ih,ih=setMany us.toArray (i*ei.size) x.cells.toList:=⟨_,rfl⟩;have aea:ih.toList=us.take (i*ei.size)++x.cells.toList++us.drop (i*ei.size+ei.size):=by rw[nb,Np _ _ _ (by simp[sA,CB];exact Tk)];simp[sA]
 have Ki:ih.size=n*ei.size:=by rw[nb,size_setMany];exact afJ
 have kg:(w.setCells g (0+i*ei.size) x.cells.toList).setCells g (0+j*ei.size) u.cells.toList=putRow id w g 0 (setMany ih (j*ei.size) u.cells.toList):=by rw[Ai,←nb,setCells_putRow w g 0 u.cells.toList (j*ei.size) ih (by simp[qo,Ki];exact Tl)]
 obtain⟨ix,Cp⟩:∃ix,ix=setMany ih (j*ei.size) u.cells.toList:=⟨_,rfl⟩;have aeb:ix.toList=ih.toList.take (j*ei.size)++u.cells.toList++ih.toList.drop (j*ei.size+ei.size):=by rw[Cp,Np _ _ _ (by simp[qo,Ki];exact Tl)];simp[qo]
 have aec:ix.size=n*ei.size:=by rw[Cp,size_setMany];exact Ki
 have ev:=Hx nV bB y3 sA Im;rw[←aea]at ev;have e2:=Hx (i:=j) (q:=q) ev (by rw[List.getElem?_set];split;(rename_i e;subst e;rw[if_pos (by omega)]);exact bu) jA qo y0;rw[←aeb]at e2;have afI:(xs.set i q).set j p=hn xs i j:=by simp[hn,bB,bu]
 rw[afI]at e2;have hlen:(hn xs i j).length=n:=by simpa using c6
 have lN:=ajI (q:=0) (F:=ix) bf aec;rw[Zf]at lN;obtain⟨kM,oW,_⟩:=aK.setRowM (w':=putRow id w g 0 ix) ad rfl aV (bl:=g) rfl (v':= .slice (some ⟨g,0,none⟩) n cap) rfl (xs':=hn xs i j) (us:=ix.toList) (.inl ⟨hlen,rfl⟩) rfl rfl rfl
  (fun t aL=>by simp[putRow,mapBlock,Array.getElem?_modify,la aL]) (by simp[putRow,mapBlock]) (by rw[hlen];exact lN) e2
 refine⟨.tuple #[],putRow id w g 0 ix,?_,?_⟩
 ·rw[ab,run,kg,←Cp];rfl
 ·have jf:∀k,inObs ⟨s.b,cu (.obj K) ⟨n,el,ei.size,some (hn xs i j)⟩ s.e⟩ k↔inObs s k:=fun k=>by
   unfold inObs;simp only[iW];by_cases c3:aJ.obj K=k
   ·subst c3;simp[ad]
   ·simp[c3]
  refine⟨_,_,_,_,.tuple [],⟨s.b,cu (.obj K) ⟨n,el,ei.size,some (hn xs i j)⟩ s.e⟩,rfl,kM,by simp[a6,cK],Uj.2 fun k mz=>(jf k).2 (.inl mz),Uj.2 fun k mz=>(jf k).2 (.inr mz),fun k cs ar=>⟨ar,(jf k).2 (.inl (by simp at ar;simp[ar])),jX (fun k h=>(jf k).2 h) _ (af.kb k cs ar)⟩,fun k o av=>⟨by simpa[hlen]using av,?_,fun ys aD=>?_⟩,⟨af.obj.1,fun m=>?_⟩,by simp[aH,aN],rfl,rfl⟩
  ·exact(.inr (by simp at av;simp[av]))
  ·simp only[iW]at av;split at av
   ·cases av;simp only[dw]at aD;subst aD;have Tc:=af.ke _ _ ad xs rfl;refine jX (fun k h=>(jf k).2 h) _ ?_;rw[Up]at Tc⊢;exact fun z aY=>Tc z ((UM xs i j).mem_iff.1 aY)
   ·exact jX (fun k h=>(jf k).2 h) _ (af.ke k o av ys aD)
  ·simp only[iW];simp[af.obj.2 m]
theorem Sk{P:cA}(xI:Bool)(b5:Nat)(ab:∀args W,(callFunc b5 args).run P W=((Es xI args).run P W).andThen fun v w'=>.ok (.value v) w')(e:gL)(ei:TypeInfo)(s9:P.info? e=some ei)(xM:∀w,(Go.isAgg e).run P w= .ok true w){s:cI}(af:dL s){K n el sz:Nat}(et:ei.size=sz){xs:List ah}(ad:look (.obj K) s.e=some ⟨n,el,sz,some xs⟩)
  (i j:Nat) (hi:i<n) (ag:j<n):bC P b5 [.int .i64 i,.int .i64 j,.row sz (.obj K) n,.cst (typeHandle P e)] s fun r s'=>r= .tuple []∧s'=⟨s.b,cu (.obj K) ⟨n,el,sz,some (hn xs i j)⟩ s.e⟩:=Sl xI b5 ab e ei s9 (.inl xM) af et ad i j hi ag
end Go.Pv
namespace Go.Proofs.YtohaalphocaebaaGreat
open Go Go.RowKit Go.Lib Go.Sort Go.Pv
set_option maxRecDepth 100000 in
theorem alh(t e:gL)(i ei:TypeInfo)(hi:az.info? t=some i)(aE:i.desc= .slice e)(CO:az.packed t=false)(s9:az.info? e=some ei)(ke:Nat)(uI:∀w,(YE e).run az w= .ok ke w)
  (p:Option Addr) (n c:Nat) (au:n<4611686018427387904) (f:Nat) (aO:az.funcs.findIdx? (·.name== "internal/reflectlite" ++ ".Swapper$" ++toString (swapperK n ei ke))=some f) (UI:Fn) (Lx q3:Array Value) (w:World) (R:World→Prop)
  (bB:Calls az 248 #[.agg #[.func UI Lx q3,.func (.func f) #[] (sliceBound az e ei ke p n c)],.int .i64 n] ((w.alloc (.cells #[.slice p n c] t)).alloc (.cells #[typeHandle az t,.pointer (some ⟨w.heap.size,0,none⟩),.int .u64 151] 214)) fun e w'=>e= .returned (.tuple #[])∧R w'):
  Calls az 202 #[.iface t (.slice p n c),.func UI Lx q3] w fun e w'=>e= .returned (.tuple #[])∧R w':=by
 have aI:=run_valueOf_slice (P:=az) t e i hi aE p n c w;have af:=fun w=>run_swapper_slice (P:=az) t e i ei hi aE s9 ke uI p n c f aO w;have aq:=fun a w bk=>run_valueLen_slice (P:=az) t e i hi aE CO a p n c w bk;unfold sliceBound at bB;generalize (if swapperK n ei ke≤2 then(#[]:Array Value)else #[.slice p n c,typeHandle az e])=B at af bB;have aeO:az.globals.size=0:=by kernel_rfl
 simp only[typeHandle,aeO]at aI aq bB;have Fi:∀args w,(callFunc 248 args).run az w= .ok (.enter 248 args) w:=enters_of Tryz.func248 (by kernel_rfl) rfl;go_enter Tryz.func202,Tryz.ntmps202;go_wp2;rw[run_callFunc_extern Tryz.func206 (by kernel_rfl) (by kernel_rfl) (by kernel_rfl) (e:=fun args=>am1 (args.getD 0 (.tuple #[]))) (by kernel_rfl),
  show Sem.run az ((fun args:Array Value=>am1 (args.getD 0 (.tuple #[]))) #[.iface t (.slice p n c)]) w=_ from aI]
 simp only[Result.andThen];rw[Oper.upon_value];go_wp2;rw[run_callFunc_extern Tryz.func207 (by kernel_rfl) (by kernel_rfl) (by kernel_rfl) (e:=arW "internal/reflectlite" (am2 "Swapper")) (by kernel_rfl),af];simp only[Result.andThen];rw[Oper.upon_value];go_wp2;rw[run_callFunc_extern Tryz.func208 (by kernel_rfl) (by kernel_rfl) (by kernel_rfl) (e:=arY (am2 "reflectlite.Value.Len" 0) arX) (by kernel_rfl),
  aq _ _ (by simp)]
 simp only[Result.andThen];rw[Oper.upon_value];go_wp2_with (go_at_fn 248;refine bB.mono ?_;rintro e w' ⟨rfl,bH⟩);go_end0;exact⟨rfl,bH⟩
theorem _root_.Go.Pv.Good.prMono{pr DE:Nat→Prop}{w:World}{ν:a8}{b:List (aJ×List ah)}{e:List (aJ×fL)}(h:Pv.Good pr w ν b e)(bB:∀bl,pr bl→fl ν ⟨b,e⟩ bl→DE bl):Pv.Good DE w ν b e:=by
 refine⟨h.alt,fun k cs ad=>?_,h.inj,fun g o aR=>?_,h.oinj,h.obx,h.one,h.otr⟩
 ·obtain⟨bl,us,el,f1,f2,f3⟩:=h.box k cs ad;exact⟨bl,us,el,f1,bB bl f2 (.inl ⟨k,by simp[ad],f1⟩),f3⟩
 ·obtain⟨v,us,f1,f2,f3,f4⟩:=h.own g o aR;exact⟨v,us,f1,f2,fun bl ae=>⟨bB bl (f3 bl ae).1 (.inr ⟨g,o.n,v,by simp[aR],f1,ae⟩),(f3 bl ae).2⟩,f4⟩
theorem Ss(w:World)(fv gH:Obj):w.grownBy ((w.alloc fv).alloc gH) none:=by
 have J:w.heap.size≤(w.alloc fv).heap.size:=by simp
 have U:(w.alloc fv).heap.size≤((w.alloc fv).alloc gH).heap.size:=by simp
 exact⟨rfl,rfl,rfl,jR J U,fun k ad _=>(Below.heap_alloc _ gH k (Nat.lt_of_lt_of_le ad J)).trans (Below.heap_alloc w fv k ad)⟩
def dO{α:Type}(e:α→ah)(K B el sz:Nat)(l:List α):cI:=⟨[(.obj B,[.row sz (.obj K) l.length])],[(.obj K,⟨l.length,el,sz,some (l.map e)⟩)]⟩
section
variable {α:Type} {e:α→ah} (he:∀S x,aH S (e x)) {K B el sz:Nat}
include he
theorem agL(S:aJ→Prop)(l:List α):aN S (l.map e):=by
 induction l with
 |nil=>simp[aN]
 |cons x r bP=>simp only[gP,aN];exact⟨he S x,bP⟩
theorem xl(l:List α):dL (dO e K B el sz l):=by unfold dO;refine dL.of ⟨by intro m;simp[Pv.look],by intro m;simp[Pv.look]⟩ (by simp[aN,aH,inObs,Pv.look]) ?_;intro x ab xs hj;simp at ab;subst ab;simp at hj;subst hj;exact agL he _ l
omit he in
theorem xm(l l':List α):Same (dO e K B el sz l) (dO e K B el sz l'):=by
 refine⟨fun k=>?_,fun k=>?_⟩
 ·simp only[dO,Pv.look];split<;>rfl
 ·simp only[dO,Pv.look];split<;>rfl
theorem adk(t:gL)(i ei:TypeInfo)(hi:az.info? t=some i)(aE:i.desc= .slice el)(CO:az.packed t=false)(s9:az.info? el=some ei)(ke:Nat)(uI:∀w,(YE el).run az w= .ok ke w)(sW:∀n,2≤n→swapperK n ei ke=9)
  (g:Nat) (lt:α→α→Bool) (bm:qy lt) (l:List α) (aq:l.length≤68719476736)
  (xZ:∀l':List α,l'.length=l.length→∀(i j:Nat) x y,l'[i]? =some x→l'[j]? =some y→bC az g [.int .i64 i,.int .i64 j,.ptr (.obj B) 0] (dO e K B el sz l') fun r s'=>r= .bool (lt x y)∧s'=dO e K B el sz l')
  (Ad:∀l':List α,l'.length=l.length→∀i j:Nat,i<l.length→j<l.length→bC az 257 [.int .i64 i,.int .i64 j,.row sz (.obj K) l.length,.cst (typeHandle az el)] (dO e K B el sz l') fun r s'=>r= .tuple []∧s'=dO e K B el sz (hn l' i j)):
  bC az 202 [.iface t (.row sz (.obj K) l.length),.func g [.ptr (.obj B) 0]] (dO e K B el sz l) fun r s'=>r= .tuple []∧∃l',s'=dO e K B el sz l'∧l'.Perm l∧l'.Pairwise fun x y=>lt y x=false:=by
 have Cy:az.funcs.findIdx? (·.name== "internal/reflectlite" ++ ".Swapper$" ++toString 1)=some 249:=by kernel_rfl
 have uE:az.funcs.findIdx? (·.name== "internal/reflectlite" ++ ".Swapper$" ++toString 2)=some 250:=by kernel_rfl
 have Ku:az.funcs.findIdx? (·.name== "internal/reflectlite" ++ ".Swapper$" ++toString 9)=some 257:=by kernel_rfl
 have KZ:∃f b1,az.funcs.findIdx? (·.name== "internal/reflectlite" ++ ".Swapper$" ++toString (swapperK l.length ei ke))=some f∧(b1=(if swapperK l.length ei ke≤2 then []else [ah.row sz (.obj K) l.length,.cst (typeHandle az el)]))∧
   bC az 248 [eY g f [.ptr (.obj B) 0] b1,.int .i64 l.length] (dO e K B el sz l) fun r s'=>r= .tuple []∧∃l',s'=dO e K B el sz l'∧gw 0 l.length l l'∧fj lt 0 l.length l':=by
  have dT:=fun l'=>xl (K:=K) (B:=B) (el:=el) (sz:=sz) he l';rcases(by omega:l.length=0∨l.length=1∨2≤l.length)with bD|J|U
  ·refine⟨249,[],by rw[bD];exact Cy,by rw[bD];rfl,Kb (lt:=lt) ⟨dT,fun jY gX _ _=>xm jY gX,fun l' _=>by simp[aN,aH,inObs,dO,Pv.look],fun l' _=>by simp[aN],by simp[dU,di],rfl,aq,fun l' h=>xZ l' h,fun l' _ U i j hi=>by omega⟩ bm l rfl⟩
  ·refine⟨250,[],by rw[J];exact uE,by rw[J];rfl,Kb (lt:=lt) ⟨dT,fun jY gX _ _=>xm jY gX,fun l' _=>by simp[aN,aH,inObs,dO,Pv.look],fun l' _=>by simp[aN],by simp[dU,di],rfl,aq,fun l' h=>xZ l' h,fun l' _ U i j hi ag=>by omega⟩ bm l rfl⟩
  ·refine⟨257,_,by rw[sW _ U];exact Ku,rfl,?_⟩;rw[sW _ U];simp only[show¬((9:Nat)≤2)from by decide,if_false];exact Kb (lt:=lt) ⟨dT,fun jY gX _ _=>xm jY gX,fun l' _=>by simp[aN,aH,inObs,dO,Pv.look],fun l' _=>by simp[aN,aH,inObs,dO,Pv.look],by simp[dU,di],by simp[dU,di],aq,fun l' h=>xZ l' h,fun l' h _ i j hi ag=>Ad l' h i j hi ag⟩ bm l rfl
 obtain⟨f,b1,aO,KV,c8⟩:=KZ;intro w ν a7 aR ab aK;have oF:=cX.start (xl he l).obj aR ab aK;have KQ:=aK;simp only[cK,a6]at aK;obtain⟨v0,vs1,hv0,⟨u,rfl,⟨b,cap,rfl⟩,gV,n',fc,ai,ax,bn⟩,v1,vs2,hv1,⟨q3,rfl,qT⟩,rfl⟩:=aK;have kC:a7= #[.iface t (.slice (some ⟨b,0,none⟩) l.length cap),.func (.func g) #[] q3]:=by apply Array.ext';rw[hv0,hv1]
 subst kC;have qP:∃fn,az.funcs[(202:Nat)]? =some fn∧fn.body.isSome=true∧(fn.name== "runtime.NumGoroutine")=false:=⟨_,Tryz.func202,by kernel_rfl,by kernel_rfl⟩;refine .inl ⟨qP,?_⟩;obtain⟨dS,kg⟩:∃dS,dS=(w.alloc (.cells #[.slice (some ⟨b,0,none⟩) l.length cap] t)).alloc (.cells #[typeHandle az t,.pointer (some ⟨w.heap.size,0,none⟩),.int .u64 151] 214):=⟨_,rfl⟩;have jU:w.grownBy dS none:=by rw[kg];exact Ss _ _ _
 have KR:=oF.grown jU;have kW:lD w ν dS ν:=⟨fun b o ba=>⟨ba,E9 jU (aR.alt b o ba)⟩,fun _ _ _ h=>h,fun _ n u _ h=>⟨n,u,h,.inl ⟨rfl,rfl⟩⟩,fun b o ba=>w1 (jU.block b (aR.alt b o ba) (by simp)),fun _ _ _ _ h=>h⟩;have oA:Pv.Good (fl ν (dO e K B el sz l)) dS ν (dO e K B el sz l).b (dO e K B el sz l).e:=KR.good.prMono fun bl _ h=>h;have lp:=HB kW KQ;simp only[cK]at lp;obtain⟨a0,Zp,sX,CQ,bt,Zq,ll,afy,rfl⟩:=lp;simp at sX;obtain⟨rfl,rfl⟩:=sX;simp at ll;subst ll;have KU:a6 dS ν (.row sz (.obj K) l.length) (.slice (some ⟨b,0,none⟩) l.length cap):=by simp only[a6]at CQ;obtain⟨u,hu,h⟩:=CQ;simp at hu;obtain⟨_,rfl⟩:=hu;simp only[a6];exact h
 have qV:cK dS ν b1 (sliceBound az el ei ke (some ⟨b,0,none⟩) l.length cap).toList:=by
  unfold sliceBound;rw[KV];split
  ·simp[cK]
  ·simp only[cK];exact⟨_,_,rfl,KU,_,_,rfl,by simp[a6],rfl⟩
 have uz:cK dS ν [eY g f [.ptr (.obj B) 0] b1,.int .i64 l.length] (#[.agg #[.func (.func g) #[] q3,.func (.func f) #[] (sliceBound az el ei ke (some ⟨b,0,none⟩) l.length cap)],.int .i64 l.length]:Array Value).toList:=by simp only[cK,eY];refine⟨_,_,rfl,?_,_,_,rfl,by simp[a6],rfl⟩;simp only[a6,dg];exact⟨_,rfl,_,_,rfl,⟨⟨q3,rfl,HB kW qT⟩,rfl⟩,_,_,rfl,⟨⟨_,rfl,qV⟩,rfl⟩,rfl⟩
 have Kr:=c8 dS ν _ oA ab uz;have Fi:∀args w,(callFunc 248 args).run az w= .ok (.enter 248 args) w:=enters_of Tryz.func248 (by kernel_rfl) rfl;rcases Kr with⟨_,ar⟩|⟨v,w',ar,_⟩
 ·have KF:=alh t el i ei hi aE CO s9 ke uI (some ⟨b,0,none⟩) l.length cap (by omega) f aO (.func g) #[] q3 w
   (fun w'=> ∃s' bg,(∃l',s'=dO e K B el sz l'∧gw 0 l.length l l'∧fj lt 0 l.length l')∧Pv.Good (fun bl=>fl ν (dO e K B el sz l) bl∨dS.heap.size≤bl) w' bg s'.b s'.e∧ov bg s'∧iE s'∧pN ⟨dS,ν,fl ν (dO e K B el sz l),0,cZ (dO e K B el sz l)⟩ w' bg) (by
    rw[←kg];refine ar.mono ?_;rintro e w' ⟨v,r,s',bg,rfl,⟨rfl,bu⟩,wh,a1,b2,dc,dX⟩;simp only[a6,cK]at wh;obtain⟨us,rfl,qZ⟩:=wh;have:us= #[]:=by apply Array.ext';simpa using qZ
    subst this;exact⟨rfl,s',bg,bu,a1,b2,dc,dX⟩)
  refine KF.mono ?_;rintro e w' ⟨rfl,s',bg,⟨l',rfl,F9,Ac⟩,a1,b2,dc,dX⟩;refine⟨.tuple #[],.tuple [],_,bg,rfl,⟨rfl,l',rfl,F9.perm,?_⟩,by simp[a6,cK],a1.prMono fun bl h _=>?_,b2,dc,⟨dX.os.trans jU.os,dX.tape.trans jU.tape,dX.output.trans jU.output,jR jU.size dX.size,fun k ad hm=>?_,fun b o ba=>?_,fun b o ba=>?_,dX.obj,dX.obn,dX.row,dX.obr,dX.trd,fun k j b ae=>⟨(dX.trb k j b ae).1.imp id (fun h=>jR jU.size h),(dX.trb k j b ae).2⟩,dX.trn,fun b o ba=>(dX.sh b o ba).trans (kW.sh b o ba)⟩⟩
  ·have x1:=F9.length;rw[←x1]at Ac;exact Ac.pairwise
  ·rcases h with h|h
   ·exact .inl h
   ·exact .inr (jR jU.size h)
  ·rw[dX.block k (Nat.lt_of_lt_of_le ad jU.size) hm];exact jU.block k ad (by simp)
  ·obtain⟨aS,bc⟩:=dX.keep b o ba;exact⟨aS,bc.trans (kW.A b o ba).2⟩
  ·rcases dX.fresh b o ba with h|h|h
   ·exact .inl h
   ·exact .inr (.inl h)
   ·exact .inr (.inr (jR jU.size h))
 ·rw[Fi]at ar;cases ar
end
end Go.Proofs.YtohaalphocaebaaGreat
namespace Go.Proofs.YtohaalphocaebaaGreat
open Go Go.Pv
@[simp] def aqM:List bA:=[.tmp 2]
def I7:C:=(aa [bj 2 false] (.seq (aa [I 18 0,cv 19 18,aU 20 .gtr 19 1048576] (aZ 20 (aa [bj 2 true] .ret) .skip)) (aa [I 21 0,cT 22 10 [.t 21,(dN 0),(dN 6)],cS 3 e1,bz 5 3 22] (aa [I 23 0,cT 24 11 [.t 23,(dN 60),(dN 3),(dN 6)],cS 4 du,bz 4 4 24] (aa [I 25 0,cT 26 11 [.t 25,(dN 80),(dN 5),(dN 6)],cS 5 du,bz 4 5 26] (aa [I 27 0,cT 28 11 [.t 27,(dN 100),(dN 3),(dN 6)],cS 6 du,bz 4 6 28] (aa [I 29 0,cT 30 11 [.t 29,(dN 120),(dN 5),(dN 6)],cS 7 du,bz 4 7 30] (aa [aX 32 5 3,aX 33 4 4,aX 34 4 5,cT 35 12 [.t 32,.t 33,.t 34],I 31 35,cd 36 0 31,cd 37 1 31,cS 8 e1,bz 5 8 36,I 9 37] (aa [aX 39 5 3,aX 40 4 6,aX 41 4 7,cT 42 13 [.t 39,.t 40,.t 41],I 38 42,cd 43 0 38,cd 44 1 38,cS 10 e1,bz 5 10 43,I 11 44] (aa [aX 46 5 3,aX 47 4 4,aX 48 4 5,cT 49 19 [.t 46,.t 47,.t 48],I 45 49,cd 50 0 45,cd 51 1 45,cS 12 e1,bz 5 12 50,I 13 51] (.seq (aa [I 52 9,I 53 13,bW 54 (.beq true none (.t 52) (.t 53))] (aZ 54 (aa [bj 2 false] .ret) .skip)) (.seq (aa [I 55 9] (aZ 55 (.region [aX 57 5 8,aX 58 4 6,aX 59 4 7,cT 60 13 [.t 57,.t 58,.t 59],I 56 60,cd 61 0 56,cd 62 1 56,bz 5 8 61,I 9 62]) .skip)) (.seq (aa [I 63 11] (aZ 63 (.region [aX 65 5 10,aX 66 4 4,aX 67 4 5,cT 68 12 [.t 65,.t 66,.t 67],I 64 68,cd 69 0 64,cd 70 1 64,bz 5 10 69,I 11 70]) .skip)) (aa [aX 72 5 3,aX 73 4 4,cT 74 14 [.t 72,.t 73,(dN 3)],I 71 74,cd 75 0 71,cd 76 1 71,cS 14 e1,bz 5 14 75,I 15 76] (aa [aX 78 5 3,aX 79 4 5,⟨none,.call (some 80) (.c (.func 16 [])) [.t 78,.t 79,(.c (.str [97]))]⟩,I 77 80,cd 81 0 77,cd 82 1 77,cS 16 e1,bz 5 16 81,I 17 82] (.seq (aa [I 83 15] (aZ 83 (.region [aX 85 5 14,aX 86 4 5,⟨none,.call (some 87) (.c (.func 16 [])) [.t 85,.t 86,(.c (.str [97]))]⟩,I 84 87,cd 88 0 84,cd 89 1 84,bz 5 14 88,I 15 89]) .skip)) (.seq (aa [I 90 17] (aZ 90 (.region [aX 92 5 16,aX 93 4 4,cT 94 14 [.t 92,.t 93,(dN 3)],I 91 94,cd 95 0 91,cd 96 1 91,bz 5 16 95,I 17 96]) .skip)) (aa [I 97 9,I 98 11,bW 99 (.beq false none (.t 97) (.t 98)),I 100 99,bZ 100 true 101 9,al 100 true (ct 102 101),bZ 100 true 103 102,al 103 false (aX 104 5 8),al 103 false (aX 105 5 10),al 103 false (ck 106 20 104 105),al 100 true (cW 107 103 106),dv 108 100 107,I 109 108,bZ 109 true 110 15,bZ 109 true 111 17,al 109 true (bW 112 (.beq false none (.t 110) (.t 111))),dv 113 109 112,I 114 113,bZ 114 true 115 15,al 114 true (ct 116 115),bZ 114 true 117 116,al 117 false (aX 118 5 14),al 117 false (aX 119 5 16),al 117 false (ck 120 20 118 119),al 114 true (cW 121 117 120),dv 122 114 121,I 2 122] .ret))))))))))))))))))
@[simp] def Wo:List bA:=[.tmp 2]
@[simp] def aqu:List bA:=[.cell 4 true 5,.tmp 5]
def PT:C:=(aa [cO 2 0,cO 3 1,bj 4 false] (.seq (aa [aF 9 0 1 2,aw 10 1 9,aF 11 0 1 3,aw 12 1 11,br 13 .neq 10 12,I 14 13,al 14 false (aF 15 1 1 2),al 14 false (aw 16 1 15),al 14 false (aF 17 1 1 3),al 14 false (aw 18 1 17),al 14 false (ck 19 61 16 18),al 14 false (ct 20 19),cW 21 14 20,I 22 21,al 22 false (aF 23 2 1 2),al 22 false (aw 24 1 23),al 22 false (aF 25 2 1 3),al 22 false (aw 26 1 25),al 22 false (ck 27 62 24 26),al 22 false (ct 28 27),cW 29 22 28,I 30 29,al 30 false (aF 31 3 1 2),al 30 false (aw 32 1 31),al 30 false (cv 33 32),al 30 false (aF 34 3 1 3),al 30 false (aw 35 1 34),al 30 false (cv 36 35),al 30 false (br 37 .neq 33 36),cW 38 30 37,I 39 38,al 39 false (aF 40 4 1 2),al 39 false (aw 41 1 40),al 39 false (cv 42 41),al 39 false (aF 43 4 1 3),al 39 false (aw 44 1 43),al 39 false (cv 45 44),al 39 false (br 46 .neq 42 45),cW 47 39 46] (aZ 47 (aa [bj 4 false] .ret) .skip)) (.seq (aa [aF 48 3 1 2,aw 49 1 48,cv 50 49,cc 51 0] (fe 52 51 50 (.seq (.block 1 (aa [I 53 51,cw 54 2 49 51,aX 55 2 54,c0 (.alloc 6 none (.agg [.int .i64 0,.int .i64 0])),I 5 53,bz 2 6 55] (.seq (.drawn true 80 [aX 56 2 6,aF 57 3 1 3,aw 58 1 57,I 59 5,cw 60 2 58 59,aX 61 2 60,bW 62 (.beq true (some [false,false]) (.t 56) (.t 61))]) (aZ 62 (aa [bj 4 false] .ret) .skip)))) (.region [aU 63 .add 51 1,I 51 63])))) (.seq (aa [aF 64 4 1 2,aw 65 1 64,cv 66 65,cc 67 0] (.block 2 (.loop (aa [br 68 .lss 67 66] (.seq (aZ 68 .skip (.exit 2)) (.seq (.block 3 (aa [I 69 67,cw 70 2 65 67,aX 71 2 70,c0 (.alloc 8 none (.agg [.int .i64 0,.str []])),I 7 69,bz 2 8 71] (.seq (.drawn true 80 [aX 72 2 8,aF 73 4 1 3,aw 74 1 73,I 75 7,cw 76 2 74 75,aX 77 2 76,bW 78 (.beq true (some [false,true]) (.t 72) (.t 77))]) (aZ 78 (aa [bj 4 false] .ret) .skip)))) (.region [aU 79 .add 67 1,I 67 79]))))))) (aa [bj 4 true] .ret)))))
@[simp] def akl:List bA:=[.tmp 4]
def PS:C:=(aa [cO 2 0,cO 3 1,bj 4 false] (.seq (aa [aF 7 0 1 2,aw 8 1 7,aF 9 0 1 3,aw 10 1 9,br 11 .neq 8 10,I 12 11,al 12 false (aF 13 1 1 2),al 12 false (aw 14 1 13),al 12 false (aF 15 1 1 3),al 12 false (aw 16 1 15),al 12 false (br 17 .neq 14 16),cW 18 12 17,I 19 18,al 19 false (aF 20 2 1 2),al 19 false (aw 21 1 20),al 19 false (aF 22 2 1 3),al 19 false (aw 23 1 22),al 19 false (br 24 .neq 21 23),cW 25 19 24,I 26 25,al 26 false (aF 27 3 1 2),al 26 false (aw 28 1 27),al 26 false (cv 29 28),al 26 false (aF 30 3 1 3),al 26 false (aw 31 1 30),al 26 false (cv 32 31),al 26 false (br 33 .neq 29 32),cW 34 26 33] (aZ 34 (aa [bj 4 false] .ret) .skip)) (.seq (aa [aF 35 3 1 2,aw 36 1 35,cv 37 36,cc 38 0] (fe 39 38 37 (.seq (.block 1 (aa [I 40 38,cw 41 4 36 38,aX 42 4 41,cS 6 du,I 5 40,bz 4 6 42] (.seq (.drawn true 52 [aX 43 4 6,aF 44 3 1 3,aw 45 1 44,I 46 5,cw 47 4 45 46,aX 48 4 47,ck 49 28 43 48,ct 50 49]) (aZ 50 (aa [bj 4 false] .ret) .skip)))) (.region [aU 51 .add 38 1,I 38 51])))) (aa [bj 4 true] .ret))))
@[simp] def DJ:List bA:=[.tmp 4]
def PQ:C:=(aa [bj 4 false] (.seq (aa [I 7 0,cv 8 7,I 9 1,cv 10 9,br 11 .neq 8 10] (aZ 11 (aa [bj 4 false] .ret) .skip)) (.seq (aa [I 12 0,cv 13 12,cc 14 0] (fe 15 14 13 (.seq (.block 1 (aa [I 16 14,cw 17 5 12 14,aX 18 5 17,cS 6 kj,I 5 16,bz 5 6 18] (.seq (.drawn true 39 [aF 19 0 1 6,aw 20 1 19,I 21 1,I 22 5,cw 23 5 21 22,aF 24 0 1 23,aw 25 1 24,br 26 .neq 20 25,I 27 26,al 27 false (iv 28 1 4 6),al 27 false (aX 29 4 28),bZ 27 false 30 1,bZ 27 false 31 5,al 27 false (cw 32 5 30 31),al 27 false (iv 33 1 4 32),al 27 false (aX 34 4 33),al 27 false (ck 35 28 29 34),al 27 false (ct 36 35),cW 37 27 36]) (aZ 37 (aa [bj 4 false] .ret) .skip)))) (.region [aU 38 .add 14 1,I 14 38])))) (aa [bj 4 true] .ret))))
@[simp] def akj:List bA:=[.tmp 4]
def PR:C:=(aa [bj 4 false] (.seq (aa [I 7 0,cv 8 7,I 9 1,cv 10 9,br 11 .neq 8 10] (aZ 11 (aa [bj 4 false] .ret) .skip)) (.seq (aa [I 12 0,cv 13 12,cc 14 0] (fe 15 14 13 (.seq (.block 1 (aa [I 16 14,cw 17 1 12 14,aw 18 1 17,I 5 16,I 6 18] (aa [I 19 6,I 20 1,I 21 5,cw 22 1 20 21,aw 23 1 22,ck 24 61 19 23,ct 25 24] (aZ 25 (aa [bj 4 false] .ret) .skip)))) (.region [aU 26 .add 14 1,I 14 26])))) (aa [bj 4 true] .ret))))
@[simp] def akk:List bA:=[.tmp 4]
def Bs:List (Nat×dx):=[
 (3,⟨1,8,.int .i64,.int .i64 0⟩),
 (4,⟨1,1,.bool,.bool false⟩),
 (9,⟨1,16,.str,.str []⟩),
 (22,⟨1,24,.slice 5,.slice 1 .nil []⟩),
 (23,⟨1,24,.slice 61,.slice 5 .nil []⟩),
 (24,⟨1,24,.slice 23,.slice 1 .nil []⟩),
 (25,⟨1,24,.slice 104,.slice 2 .nil []⟩),
 (26,⟨1,24,.slice 106,.slice 2 .nil []⟩),
 (28,⟨5,104,.struct [(0,3),(1,23),(2,24),(3,25),(4,26)],.agg [.int .i64 0,.slice 5 .nil [],.slice 1 .nil [],.slice 2 .nil [],.slice 2 .nil []]⟩),
 (30,⟨1,24,.slice 32,.slice 4 .nil []⟩),
 (32,⟨4,56,.struct [(0,3),(1,3),(2,9),(3,30)],.agg [.int .i64 0,.int .i64 0,.str [],.slice 4 .nil []]⟩),
 (61,⟨5,64,.struct [(0,3),(1,32)],.agg [.int .i64 0,.int .i64 0,.int .i64 0,.str [],.slice 4 .nil []]⟩),
 (104,⟨2,16,.struct [(0,3),(1,3)],.agg [.int .i64 0,.int .i64 0]⟩),
 (106,⟨2,24,.struct [(0,3),(1,9)],.agg [.int .i64 0,.str []]⟩)]
theorem Bv:fP az Bs=true:=by kernel_rfl
theorem Vw:b4 Bs I7 Wo 1 Tryz.f4=true:=by kernel_rfl
theorem RJ:az.funcs[(4:Nat)]? =some Tryz.f4:=Tryz.func4
theorem aiB:b4 Bs PT akl 2 Tryz.f20=true:=by kernel_rfl
theorem abQ:az.funcs[(20:Nat)]? =some Tryz.f20:=Tryz.func20
theorem aiA:b4 Bs PS DJ 2 Tryz.f28=true:=by kernel_rfl
theorem abP:az.funcs[(28:Nat)]? =some Tryz.f28:=Tryz.func28
theorem aiy:b4 Bs PQ akj 2 Tryz.f61=true:=by kernel_rfl
theorem abN:az.funcs[(61:Nat)]? =some Tryz.f61:=Tryz.func61
theorem aiz:b4 Bs PR akk 2 Tryz.f62=true:=by kernel_rfl
theorem abO:az.funcs[(62:Nat)]? =some Tryz.f62:=Tryz.func62
@[simp] def aqL:List bA:=[.tmp 2]
@[simp] def aqV:List bA:=[.tmp 6]
@[simp] def aqW:List bA:=[.cell 4 true 4]
@[simp] def aq1:List bA:=[.tmp 4]
@[simp] def aq0:List bA:=[.tmp 4]
def agr(t u:T)(k:Nat)(st:bh):Prop:=∃i:Nat,i≤t.args.length∧k=t.args.length-i∧t.args.take i=u.args.take i∧st=⟨[(3,.ptr (.loc 1) 0),(36,.slice 4 .no (t.args.map T.e)),(37,.int .i64 t.args.length),(38,.int .i64 i)],[(.loc 1,[.int .i64 u.kind,.int .i64 u.int,.str u.name,.slice 4 .no (u.args.map T.e)])],[],2,[]⟩
set_option maxRecDepth 4000 in
theorem Ym(t:T)(bP:∀x∈t.args,∀u:T,bS az 28 [x.e,u.e] (.bool (decide (x=u))))(u:T):bS az 28 [t.e,u.e] (.bool (decide (t=u))):=by
 have hle:t.args.length≤2:=by cases t<;>simp
 refine bq Bv abP aiA fun aP=>?_;unfold PS;simp;(with_reducible repeat' first|((first|apply bG|apply bL|apply bK)<;>intro h<;>try simp at h)|refine aj ?_|simp)
 ·simp[bp,DJ,aT,aW,aQ];intro e;subst e;simp_all
 ·refine mX (agr t u) t.args.length _ b3 ⟨0,by omega,by omega,by simp,rfl⟩ ?_;rintro k st ⟨i,hi,ad,qY,rfl⟩ je cF;clear je cF;by_cases bm:i<t.args.length
  ·have Tg:i<u.args.length:=by omega
   simp[bm,Tg];(with_reducible repeat' first|((first|apply bG|apply bL|apply bK)<;>intro h<;>try simp at h)|refine aj ?_|refine aB (bP _ (List.getElem_mem bm) _) ?_|refine aC (bP _ (List.getElem_mem bm) _) ?_|simp)
   ·simp[bp,DJ,aT,aW,aQ];intro e;subst e;simp_all
   ·refine bN.next (t.args.length-(i+1)) (by omega) ⟨i+1,by omega,rfl,?_,rfl⟩ b3;rw[List.take_succ,List.take_succ,qY,cb bm,cb Tg,h]
  ·simp[bm];(with_reducible repeat' first|refine aj ?_|simp);simp[bp,DJ,aT,aW,aQ];have:t.args=u.args:=by rw[hb (by omega),hb (by omega)]at qY;exact qY
   simp_all;exact Ot (by assumption) (by assumption) (by assumption) (by assumption)
 all_goals simp[bp,DJ,aT,aW,aQ]
 all_goals(intro e;subst e;simp_all)
theorem amK(t:T):∀u:T,bS az 28 [t.e,u.e] (.bool (decide (t=u))):=by
 induction t with
 |pair a b dQ dR=>
  refine Ym _ fun x ab=>?_;simp at ab;rcases ab with rfl|rfl
  ·exact dQ
  ·exact dR
 |_=>exact Ym _ fun x ab=>by simp at ab
def kXb(l:List T)(t:T):Nat→Nat
 |0=>0
 |k+1=>match l[k]? with
  |some x=>if 0≤eo x t then kXb l t k else k+1
  |none=>0
end Go.Proofs.YtohaalphocaebaaGreat
namespace Go.Pv
open Go
structure bX where
 v:Int
 k:Int
 deriving DecidableEq,Inhabited
def bX.e(b:bX):ah:= .agg [.int .i64 b.v,.int .i64 b.k]
@[simp] theorem bX.eta(b:bX):bX.mk b.v b.k=b:=rfl
@[simp] theorem OB(v k:Int):ah.agg [.int .i64 v,.int .i64 k]=(bX.mk v k).e:=rfl
@[simp] theorem apz(S:aJ→Prop)(b:bX):aH S b.e=True:=by simp[bX.e,-OB]
@[simp] theorem arN(b:bX):dU b.e=b.e:=by simp[bX.e,-OB]
theorem Uu(S:aJ→Prop):∀l:List bX,aN S (l.map bX.e)
 |[]=>by simp[aN]
 |x::xs=>by simp[aN,Uu S xs]
@[simp] theorem apq(S:aJ→Prop)(l:List bX):aN S (l.map bX.e)=True:=eq_true (Uu S l)
@[simp] theorem NA:∀l:List bX,di (l.map bX.e)=l.map bX.e
 |[]=>rfl
 |x::xs=>by simp[di,NA xs]
@[simp] theorem arx(b:bX):eL b.e=true:=rfl
@[simp] theorem anW(b:bX):cells b.e=[.int .i64 b.v,.int .i64 b.k]:=rfl
@[simp] theorem ao7(b:bX):Pv.isAgg 2 b.e:=⟨_,rfl,rfl⟩
@[simp] theorem aor(off:Nat)(e8:Bool)(sz:Nat)(b:bX):rF off e8 sz b.e=if e8 then some (off+sz≤2,.agg (([.int .i64 b.v,.int .i64 b.k].drop off).take sz))else(([.int .i64 b.v,.int .i64 b.k]:List ah)[off]?).map fun p=>(True,p):=rfl
@[simp] theorem aoh(off:Nat)(e8:Bool)(sz:Nat)(b:bX):pV off e8 sz (.eptr b.e)=if e8 then some (off+sz≤2,.eptr (.agg (([.int .i64 b.v,.int .i64 b.k].drop off).take sz)))else(([.int .i64 b.v,.int .i64 b.k]:List ah)[off]?).map fun p=>(eL p=true∧cells p=[p],.eptr p):=rfl
structure bd where
 v:Int
 s:List cQ
 deriving DecidableEq,Inhabited
def bd.e(b:bd):ah:= .agg [.int .i64 b.v,.str b.s]
@[simp] theorem bd.eta(b:bd):bd.mk b.v b.s=b:=rfl
@[simp] theorem IJ(v:Int)(s:List cQ):ah.agg [.int .i64 v,.str s]=(bd.mk v s).e:=rfl
@[simp] theorem agM(S:aJ→Prop)(b:bd):aH S b.e=True:=by simp[bd.e,-IJ]
@[simp] theorem arO(b:bd):dU b.e=b.e:=by simp[bd.e,-IJ]
theorem Lv(S:aJ→Prop):∀l:List bd,aN S (l.map bd.e)
 |[]=>by simp[aN]
 |x::xs=>by simp[aN,Lv S xs]
@[simp] theorem Uv(S:aJ→Prop)(l:List bd):aN S (l.map bd.e)=True:=eq_true (Lv S l)
@[simp] theorem NB:∀l:List bd,di (l.map bd.e)=l.map bd.e
 |[]=>rfl
 |x::xs=>by simp[di,NB xs]
@[simp] theorem ary(b:bd):eL b.e=true:=rfl
@[simp] theorem anX(b:bd):cells b.e=[.int .i64 b.v,.str b.s]:=rfl
@[simp] theorem ao8(b:bd):Pv.isAgg 2 b.e:=⟨_,rfl,rfl⟩
@[simp] theorem aos(off:Nat)(e8:Bool)(sz:Nat)(b:bd):rF off e8 sz b.e=if e8 then some (off+sz≤2,.agg (([.int .i64 b.v,.str b.s].drop off).take sz))else(([.int .i64 b.v,.str b.s]:List ah)[off]?).map fun p=>(True,p):=rfl
@[simp] theorem aoi(off:Nat)(e8:Bool)(sz:Nat)(b:bd):pV off e8 sz (.eptr b.e)=if e8 then some (off+sz≤2,.eptr (.agg (([.int .i64 b.v,.str b.s].drop off).take sz)))else(([.int .i64 b.v,.str b.s]:List ah)[off]?).map fun p=>(eL p=true∧cells p=[p],.eptr p):=rfl
def e5(x y:bd):Int:=if ez x.v y.v=0 then kI x.s y.s else ez x.v y.v
theorem k0:jC e5:=by
 refine⟨fun x y=>?_,fun x y z J U=>?_,fun x y=>?_⟩
 ·unfold e5;have:=km.neg x.v y.v;have:=Dz.neg x.s y.s;by_cases e:ez x.v y.v=0
  ·rw[if_pos e,if_pos (by omega)];omega
  ·rw[if_neg e,if_neg (by omega)];omega
 ·unfold e5 at J U⊢;by_cases ai:ez x.v y.v=0
  ·rw[if_pos ai]at J;rw[(km.zero _ _).1 ai];by_cases ax:ez y.v z.v=0
   ·rw[if_pos ax]at U⊢;exact Dz.tr _ _ _ J U
   ·rw[if_neg ax]at U⊢;exact U
  ·rw[if_neg ai]at J;have bm:ez x.v y.v<0:=by omega
   by_cases ax:ez y.v z.v=0
   ·rw[←(km.zero _ _).1 ax,if_neg ai];exact J
   ·rw[if_neg ax]at U;have:=km.ltr bm U;rw[if_neg (by omega)];omega
 ·unfold e5;by_cases e:ez x.v y.v=0
  ·rw[if_pos e,Dz.zero];have:=(km.zero _ _).1 e;cases x;cases y;simp_all
  ·rw[if_neg e];exact⟨fun h=>absurd h e,fun h=>by rw[h]at e;exact absurd (km.refl _) e⟩
def tC(x y:bd):Bool:=decide (x.v<y.v)||(x.v==y.v&&hB x.s y.s)
theorem ZB(a:List cQ):hB a a=false:=by
 cases h:hB a a with
 |false=>rfl
 |true=>rw[IS a a h]at h;cases h
theorem Vc(x y:bd):tC x y=hR e5 x y:=by
 unfold tC hR e5;rw[qt];simp only[lY,fo,cx,dK];by_cases e:x.v=y.v
 ·have:ez x.v y.v=0:=(km.zero _ _).2 e;rw[if_pos this];simp only[e,Int.lt_irrefl,false_or,true_and,kI];by_cases ax:x.s=y.s
  ·rw[if_pos ax,ax,ZB];simp
  ·rw[if_neg ax];split<;>simp_all
 ·have bD:¬ez x.v y.v=0:=fun h=>e ((km.zero _ _).1 h);rw[if_neg bD];simp only[e,false_and,or_false];unfold ez;(repeat' split)<;>omega
def ik{α:Type}(p:α→Prop)(r:α→α→Prop)(l:List α)(i:Nat):Prop:= ∀b,l[i]? =some b→p b∧∀c,0<i→l[i-1]? =some c→r c b
theorem Ox{α:Type}{p:α→Prop}{r:α→α→Prop}(aL:∀a b c,r a b→r b c→r a c){l:List α}:(∀i,i<l.length→ik p r l i)↔(∀b∈l,p b)∧l.Pairwise r:=by
 constructor
 ·intro h;refine⟨fun b ae=>?_,?_⟩
  ·obtain⟨i,hi,e⟩:=nG ae;exact(h i hi b (by rw[cb hi,e])).1
  ·rw[pK];have jJ:∀i (h:i+1<l.length),r l[i] l[i+1]:=fun i hi=>(h (i+1) hi l[i+1] (by simp[cb hi])).2 l[i] (by omega) (by simp[cb (show i<l.length by omega)]);have:∀(d i:Nat) (h:i+d+1<l.length),r l[i] l[i+d+1]:=by
    intro d;induction d with
    |zero=>intro i h;exact jJ i h
    |succ d bP=>intro i h;exact aL _ _ _ (bP i (by omega)) (jJ (i+d+1) (by omega))
   intro i j hi ag l8;have:=this (j-i-1) i (by omega);simpa[show i+(j-i-1)+1=j from by omega]using this
 ·rintro⟨J,U⟩ i hi b ae;refine⟨J b (fR ae),fun c bD ar=>?_⟩;obtain⟨g1,ai⟩:=fU.1 ar;obtain⟨g2,ax⟩:=fU.1 ae;have:=pK.1 U (i-1) i g1 g2 (by omega);rw[ai,ax]at this;exact this
def kh{α:Type}(c:α→α→Int)(x:α):List α→List α
 |[]=>[x]
 |y::l=>if c y x<0 then y::kh c x l else if c y x=0 then y::l else x::y::l
section
variable {α:Type} {c:α→α→Int}
theorem GL(ar:jC c){x z:α}:∀{l:List α},z∈kh c x l↔z=x∨z∈l
 |[]=>by simp[kh]
 |y::l=>by
  simp only[kh];split
  ·simp only[fA,GL ar (l:=l)];constructor
   ·rintro(h|h|h)
    ·exact .inr (.inl h)
    ·exact .inl h
    ·exact .inr (.inr h)
   ·rintro(h|h|h)
    ·exact .inr (.inl h)
    ·exact .inl h
    ·exact .inr (.inr h)
  ·split
   ·rename_i h;obtain rfl:=(ar.zero _ _).1 h;simp
   ·simp
theorem Lf(ar:jC c){x:α}:∀{l:List α},gR c l→gR c (kh c x l)
 |[],_=>by simp[kh,gR]
 |y::l,h=>by
  obtain⟨J,U⟩:=mP.1 h;simp only[kh];split
  ·rename_i ao;refine mP.2 ⟨fun z aY=>?_,Lf ar U⟩;rcases(GL ar).1 aY with rfl|aY
   ·exact ao
   ·exact J z aY
  ·split
   ·exact h
   ·rename_i ao a1;have hY:c x y<0:=by have:=ar.neg x y;omega
    refine mP.2 ⟨fun z aY=>?_,h⟩;rcases fA.1 aY with rfl|aY
    ·exact hY
    ·exact ar.ltr hY (by have:=J z aY;omega)
theorem Lh(x:α):∀l:List α,(kh c x l).length≤l.length+1
 |[]=>by simp[kh]
 |y::l=>by
  have:=Lh x l;simp only[kh];split
  ·simp;omega
  ·split<;>simp
theorem Lg(ar:jC c)(x:α):∀(l:List α) (k:Nat),(∀i y,i<k→l[i]? =some y→c y x<0)→(∀y,l[k]? =some y→0≤c y x)→k≤l.length→kh c x l=if(match l[k]? with|some y=>decide (c y x=0)|none=>false)=true then l else l.take k++x::l.drop k
 |[],k,_,_,ad=>by simp at ad;subst ad;simp[kh]
 |y::l,0,_,U,_=>by
  have:=U y rfl;by_cases e:c y x=0
  ·simp[kh,e]
  ·have ao:¬c y x<0:=by omega
   simp[kh,ao,e]
 |y::l,k+1,J,U,ad=>by
  have bD:=J 0 y (by omega) rfl;simp only[kh,if_pos bD,List.take_succ_cons,List.drop_succ_cons,bR,List.getElem?_cons_succ];rw[Lg ar x l k (fun i d hi aE=>J (i+1) d (by omega) (by simpa using aE)) (fun d aE=>U d (by simpa using aE)) (by simpa using ad)];cases l[k]? with
  |none=>rfl
  |some z=>simp only[];split<;>rfl
end
structure jh (l:List bX):Prop where
 at':∀x∈l,(0≤x.v∧x.v≤100000)∧(x.k=2∨x.k=3)
 asc:l.Pairwise fun x y=>x.v<y.v
def ki(l:List bX)(v:Int):Option Int:=(l.find? fun x=>x.v==v).map (·.k)
def kX(x:bX):List bX→List bX
 |[]=>[x]
 |y::l=>if y.v<x.v then y::kX x l else x::y::l
theorem wG{x z:bX}:∀{l:List bX},z∈kX x l↔z=x∨z∈l
 |[]=>by simp[kX]
 |y::l=>by
  simp only[kX];split
  ·simp only[fA,wG (l:=l)];constructor
   ·rintro(h|h|h)
    ·exact .inr (.inl h)
    ·exact .inl h
    ·exact .inr (.inr h)
   ·rintro(h|h|h)
    ·exact .inr (.inl h)
    ·exact .inl h
    ·exact .inr (.inr h)
  ·simp
theorem Li(x:bX):∀l:List bX,(kX x l).Perm (x::l)
 |[]=>.refl _
 |y::l=>by
  simp only[kX];split
  ·exact((Li x l).cons y).trans (ar3 _ _ _)
  ·exact .refl _
theorem Gh{x:bX}:∀{l:List bX},l.Pairwise (fun x y=>x.v<y.v)→(∀y∈l,y.v≠x.v)→(kX x l).Pairwise fun x y=>x.v<y.v
 |[],_,_=>by simp[kX]
 |y::l,h,au=>by
  obtain⟨J,U⟩:=mP.1 h;have aD:=au y (by simp);simp only[kX];split
  ·rename_i ao;refine mP.2 ⟨fun z aY=>?_,Gh U fun z aY=>au z (by simp[aY])⟩;rcases wG.1 aY with rfl|aY
   ·exact ao
   ·exact J z aY
  ·refine mP.2 ⟨fun z aY=>?_,h⟩;rcases fA.1 aY with rfl|aY
   ·omega
   ·have:=J z aY;omega
theorem T1(x:bX):∀(l:List bX) (k:Nat),(∀i y,i<k→l[i]? =some y→y.v<x.v)→(∀y,l[k]? =some y→¬y.v<x.v)→k≤l.length→kX x l=l.take k++x::l.drop k
 |[],k,_,_,ad=>by simp at ad;subst ad;rfl
 |y::l,0,_,U,_=>by have:=U y rfl;simp[kX,this]
 |y::l,k+1,J,U,ad=>by have bD:=J 0 y (by omega) rfl;simp only[kX,if_pos bD,List.take_succ_cons,List.drop_succ_cons,bR];rw[T1 x l k (fun i d hi aE=>J (i+1) d (by omega) (by simpa using aE)) (fun d aE=>U d (by simpa using aE)) (by simpa using ad)]
theorem Uh{l l':List bX}(bB:l'.Perm l)(aE:l.Pairwise fun x y=>x.v<y.v)(af:l'.Pairwise fun x y=>decide (y.v<x.v)=false):l'=l:=by
 refine Oe (le:=fun x y:bX=>x.v≤y.v) (fun x y ab aD J U=>?_) (af.imp (by simp)) (aE.imp (by omega)) bB;have iq:x∈l:=bB.mem_iff.1 ab;have rZ:y∈l:=aD;obtain⟨i,hi,rfl⟩:=nG iq;obtain⟨j,ag,rfl⟩:=nG rZ;have:=pK.1 aE;rcases Nat.lt_trichotomy i j with h|h|h
 ·have:=this i j hi ag h;omega
 ·subst h;rfl
 ·have:=this j i ag hi h;omega
theorem yh{l:List bX}{v:Int}:ki l v=none↔∀x∈l,x.v≠v:=by simp[ki]
theorem Aw{l:List bX}{v k:Int}(h:ki l v=some k):(⟨v,k⟩:bX)∈l:=by unfold ki at h;rw[gr]at h;obtain⟨x,J,rfl⟩:=h;have U:=List.find?_some J;simp at U;subst U;exact List.mem_of_find?_eq_some J
theorem Ax{l:List bX}(bk:l.Pairwise fun x y=>x.v<y.v){x:bX}(h:x∈l):ki l x.v=some x.k:=by
 induction l with
 |nil=>simp at h
 |cons y l bP=>
  obtain⟨J,U⟩:=mP.1 bk;rcases fA.1 h with rfl|h
  ·simp[ki]
  ·have:=J x h;have e:=bP U h;unfold ki at e⊢;rw[List.find?_cons_of_neg (by simp;omega)];exact e
def gS(l:List bX)(t:T)(k:Int):Option (List bX):=match t with
 | .var n=>match ki l n with
  |some k'=>if k'=k then some l else none
  |none=>some (kX ⟨n,k⟩ l)
 |t=>if t.kind=k then some l else none
theorem EI{l l':List bX}{t:T}{k:Int}(h:jh l)(aL:t.ok=true)(ad:k=2∨k=3)(he:gS l t k=some l'):jh l':=by
 unfold gS at he;split at he
 ·rename_i n;split at he
  ·split at he
   ·cases he;exact h
   ·cases he
  ·rename_i au;cases he;rw[yh]at au;refine⟨fun x ab=>?_,Gh h.asc au⟩;rcases wG.1 ab with rfl|ab
   ·exact⟨by simpa[T.ok]using aL,ad⟩
   ·exact h.at' x ab
 ·split at he
  ·cases he;exact h
  ·cases he
theorem oN{l:List bX}(h:jh l):l.length≤100001:=by
 have J:(l.map (·.v)).Nodup:=by rw[List.nodup_iff_pairwise_ne,List.pairwise_map];exact h.asc.imp fun h e=>by omega
 have:=Un J fun v aI=>by obtain⟨x,ab,rfl⟩:=hJ.1 aI;exact(h.at' x ab).1
 simpa using this
def eT(s:List ak):List bX→List bX→Option (List bX)
 |[],acc=>some acc
 |x::r,acc=>match gS acc (bF s x.v) x.k with
  |some a=>eT s r a
  |none=>none
structure jj (l:List bd):Prop where
 at':∀x∈l,(0≤x.v∧x.v≤100000)∧ib x.s=true
 asc:gR e5 l
def _root_.Go.Pv.T.has(s:List cQ):T→Bool
 | .sym n=>n==s
 | .pair a b=>a.has s||b.has s
 |_=>false
def gm(l:List bd)(t:T)(s:List cQ):Option (List bd):=if t.has s then none else some (asc e5 (l++(nD t).map fun v=>⟨v,s⟩))
theorem Ej{t:T}{v:Int}:v∈nD t↔t.occ v=true:=by
 refine⟨fun h=>?_,yq⟩;induction t with
 |var n=>simp[nD]at h;simp[T.occ,h]
 |pair a b dQ dR=>simp only[nD,iH]at h;simp only[T.occ,lY];exact h.imp dQ dR
 |_=>simp[nD]at h
theorem q4{l l':List bd}{t:T}{s:List cQ}(h:gm l t s=some l')(x:bd):x∈l'↔x∈l∨(x.s=s∧t.occ x.v=true):=by
 unfold gm at h;split at h
 ·cases h
 ·cases h;rw[LO,iH,hJ];refine or_congr_right ?_;constructor
  ·rintro⟨v,aI,rfl⟩;exact⟨rfl,Ej.1 aI⟩
  ·rintro⟨J,U⟩;exact⟨x.v,Ej.2 U,by rw[←J]⟩
theorem IF{l l':List bd}{t:T}{s:List cQ}(cU:t.has s=false)(bk:gR e5 l')(hm:∀x,x∈l'↔x∈l∨(x.s=s∧t.occ x.v=true)):gm l t s=some l':=by
 have h:gm l t s=some (asc e5 (l++(nD t).map fun v=>⟨v,s⟩)):=by unfold gm;rw[cU];rfl
 rw[h];congr 1;exact(BU k0 _).ext k0 bk fun x=>by rw[hm,←q4 h]
theorem EJ{l l':List bd}{t:T}{s:List cQ}(h:jj l)(aL:t.ok=true)(af:ib s=true)(he:gm l t s=some l'):jj l':=by
 refine⟨fun x ab=>?_,?_⟩
 ·rcases(q4 he x).1 ab with J|⟨J,U⟩
  ·exact h.at' x J
  ·exact⟨xc aL U,by rw[J];exact af⟩
 ·unfold gm at he;split at he
  ·cases he
  ·cases he;exact BU k0 _
def eK(s:List ak):List bd→List bd→Option (List bd)
 |[],acc=>some acc
 |x::r,acc=>match gm acc (bF s x.v) x.s with
  |some a=>eK s r a
  |none=>none
end Go.Pv
namespace Go.Proofs.YtohaalphocaebaaGreat
open Go Go.Pv
def ie(l:List (List ak))(e:List ak):Bool:=l.all fun d=>decide (d=e)|| !hS d e
theorem agG{l l':List (List ak)}(h:∀x,x∈l↔x∈l')(e:List ak):ie l e=ie l' e:=by rw[qt,ie,ie,ig,ig];exact⟨fun J x ab=>J x ((h x).2 ab),fun J x ab=>J x ((h x).1 ab)⟩
def fV(l:List (List ak)):List (List ak):=(asc en l).filter (ie l)
theorem nr{l:List (List ak)}{x:List ak}:x∈fV l↔x∈l∧ie l x=true:=by rw[fV,ha,LO]
theorem GN(l:List (List ak)):gR en (fV l):=(BU kH l).filter _
theorem U4{l l':List (List ak)}(bk:gR en l')(hm:∀x,x∈l'↔x∈l∧ie l x=true):fV l=l':=(GN l).ext kH bk fun x=>by rw[hm,nr]
theorem Dm(l:List (List ak)):(fV l).length≤l.length:=jR (List.length_filter_le _ _) (Zr _ _)
structure bE where
 n:Int
 b:List ak
 d:List (List ak)
 k:List bX
 m:List bd
 deriving DecidableEq,Inhabited
noncomputable def dm(b:List ak)(k:List bX)(m:List bd):List (List ak)→Option (List (List ak))
 |[]=>some []
 |d::r=>match mgu b (eB d)with
  |none=>dm b k m r
  |some x=>if eT x k []=none∨eK x m []=none then dm b k m r else if cR b x=[]then none else(dm b k m r).map (cR b x:: ·)
def ek(k:List bX)(x:bd):Bool:=ki k x.v !=some 3
noncomputable def dM(s:bE):Option bE:=match eT s.b s.k []with
 |none=>none
 |some k=>match eK s.b s.m []with
  |none=>none
  |some m=>match dm s.b k (m.filter (ek k)) s.d with
   |none=>none
   |some L=>if(fV L).length≤30 then some ⟨s.n,s.b,fV L,k,m.filter (ek k)⟩else none
def xt(t:T)(n:Int):Prop:= ∀v,t.occ v=true→v<n
def o5(l:List ak)(n:Int):Prop:= ∀b∈l,b.v<n∧xt b.t n
structure h5 (s:bE):Prop where
 n:0≤s.n∧s.n≤100000
 b:dn s.b
 d:∀x∈s.d,dn x
 k:jh s.k
 m:jj s.m
 bb:o5 s.b s.n
 db:∀x∈s.d,o5 x s.n
 kb:∀x∈s.k,x.v<s.n
 mb:∀x∈s.m,x.v<s.n
def k2(s:bE):Prop:=h5 s∧dM s=some s
theorem Bn{s:List ak}(af:dn s){v:Int}(aI:0≤v∧v≤100000):(bF s v).ok=true:=by have:=D2 af.ok (t:= .var v) (by simpa[T.ok]using aI);exact this
theorem yI{s:List ak}(af:dn s):∀{l acc a:List bX},(∀x∈l,(0≤x.v∧x.v≤100000)∧(x.k=2∨x.k=3))→jh acc→eT s l acc=some a→jh a
 |[],acc,a,_,h,he=>by simp only[eT,dw]at he;rw[←he];exact h
 |x::r,acc,a,aq,h,he=>by
  simp only[eT]at he;split at he
  ·rename_i bt ai;have ab:=aq x (by simp);exact yI af (fun y aD=>aq y (by simp[aD])) (EI h (Bn af ab.1) ab.2 ai) he
  ·cases he
theorem DN{s:List ak}(af:dn s):∀{l acc a:List bd},(∀x∈l,(0≤x.v∧x.v≤100000)∧ib x.s=true)→jj acc→eK s l acc=some a→jj a
 |[],acc,a,_,h,he=>by simp only[eK,dw]at he;rw[←he];exact h
 |x::r,acc,a,aq,h,he=>by
  simp only[eK]at he;split at he
  ·rename_i bt ai;have ab:=aq x (by simp);exact DN af (fun y aD=>aq y (by simp[aD])) (EJ h (Bn af ab.1) ab.2 ai) he
  ·cases he
def lx(G:List (List cQ))(l:List bd):Prop:= ∀x∈l,x.s∈G
theorem BR{G:List (List cQ)}{l l':List bd}{t:T}{s:List cQ}(h:lx G l)(af:s∈G)(he:gm l t s=some l'):lx G l':=fun x ab=>by
 rcases(q4 he x).1 ab with J|⟨J,_⟩
 ·exact h x J
 ·rw[J];exact af
theorem DO{G:List (List cQ)}{s:List ak}:∀{l acc a:List bd},lx G l→lx G acc→eK s l acc=some a→lx G a
 |[],acc,a,_,h,he=>by simp only[eK,dw]at he;rw[←he];exact h
 |x::r,acc,a,aq,h,he=>by
  simp only[eK]at he;split at he
  ·rename_i bt ai;exact DO (fun y aD=>aq y (by simp[aD])) (BR h (aq x (by simp)) ai) he
  ·cases he
theorem ajN{α:Type}[DecidableEq α]:∀{G:List α} {l:List (Nat×α)},l.Nodup→(∀x∈l,x.1<100001∧x.2∈G)→l.length≤100001*G.length:=by
 intro G l au h;have:=Iq au (l₂:=(List.range 100001).flatMap fun i=>G.map fun g=>(i,g)) (fun x ab=>by obtain⟨J,U⟩:=h x ab;rw[List.mem_flatMap];exact⟨x.1,List.mem_range.2 J,hJ.2 ⟨x.2,U,rfl⟩⟩)
 have e:((List.range 100001).flatMap fun i=>G.map fun g=>(i,g)).length=100001*G.length:=by
  generalize 100001=n;induction n with
  |zero=>simp
  |succ n bP=>rw[List.range_succ,List.flatMap_append,pJ,bP];simp[Nat.succ_mul]
 omega
theorem Di{G:List (List cQ)}{l:List bd}(h:jj l)(aR:lx G l):l.length≤100001*G.length:=by
 have J:(l.map fun x=>(x.v.toNat,x.s)).Nodup:=by rw[List.nodup_iff_pairwise_ne,List.pairwise_map];refine am4 (fun{a b} bk ae cD e=>cD ?_) (h.asc.nodup k0);have:=(h.at' a bk).1;have:=(h.at' b ae).1;simp only[jB]at e;cases a;cases b;simp only[bd.mk.injEq];simp only at*;exact⟨by omega,e.2⟩
 have:=ajN (G:=G) J fun x ab=>by obtain⟨y,aD,rfl⟩:=hJ.1 ab;have:=(h.at' y aD).1;exact⟨by simp;omega,aR y aD⟩
 simpa using this
def kK(m:List bd):Prop:= ∃G:List (List cQ),G.length≤687000∧lx G m
theorem kK.len{m:List bd}(h:kK m)(hm:jj m):m.length≤68719470000:=by obtain⟨G,J,U⟩:=h;have:=Di hm U;omega
theorem akZ{s:List ak}(h:dn s)(p:ak→Bool):dn (s.filter p):=by
 have jW:∀b∈s.filter p,b∈s:=fun b ae=>(ha.1 ae).1;have au:∀w,cV s w=none→cV (s.filter p) w=none:=fun w hw=>by rw[sL]at hw⊢;exact fun b ae=>hw b (jW b ae)
 exact⟨fun b ae=>h.ok b (jW b ae),⟨vv p h.sol.asc,fun b ae w hw=>au w (h.sol.free b (jW b ae) w hw),fun b ae=>h.sol.ori b (jW b ae)⟩,
  jR (List.length_filter_le _ _) h.fits.1,fun b ae=>h.fits.2 b (jW b ae)⟩
theorem AQ{b x:List ak}(h:dn x):dn (cR b x):=akZ h _
theorem ahK{b x:List ak}(ae:ey b)(ab:ey x)(aO:gu x)(h:∀θ,dD x θ→dD b θ):iL b (eB (cR b x)) (some x):=by
 refine⟨⟨ab,aO⟩,fun θ=>⟨fun fF=>⟨h θ fF,fun e he=>?_⟩,fun⟨J,U⟩ c ar=>?_⟩⟩
 ·obtain⟨c,ar,rfl⟩:=hJ.1 he;exact fF c (ha.1 ar).1
 ·have iT:∀c∈x,cV b c.v=none→θ c.v=c.t.ap θ:=fun c ar au=>by have:=U (.var c.v,c.t) (hJ.2 ⟨c,ha.2 ⟨ar,by simp[au]⟩,rfl⟩);exact this
  have qQ:∀w,cV b w=none→(bF x w).ap θ=θ w:=fun w hw=>by
   unfold bF;cases e:cV x w with
   |none=>rfl
   |some t=>have hm:=jS e;exact(iT _ hm hw).symm
  cases e:cV b c.v with
  |none=>exact iT c ar e
  |some t=>
   have ai:θ c.v=t.ap θ:=J _ (jS e);have ax:=h (bF x) (vn ab) _ (jS e);simp only at ax;have bn:bF x c.v=c.t:=by unfold bF;rw[qE ab.asc ar];rfl
   rw[bn]at ax;rw[ai,ax,xq];exact pP fun w hw=>(qQ w (ae.free _ (jS e) w hw)).symm
theorem kl{s:List ak}(af:ey s)(aO:gu s){E:List (T×T)}{x:List ak}(h:mgu s E=some x):∀θ,dD x θ↔dD s θ∧iz E θ:=by have:=tB af aO E;rw[h]at this;exact this.2
theorem tA{s:List ak}(af:ey s)(aO:gu s){E:List (T×T)}{x:List ak}(h:mgu s E=some x):mgu s (eB (cR s x))=some x:=nU (ahK af (q5 af aO h).1 (q5 af aO h).2 fun θ fF=>((kl af aO h θ).1 fF).1)
theorem U3(p:Int→Prop){E:List (T×T)}:∀{s s':List ak},ey s→gu s→(∀b∈s,p b.v∧∀w,b.t.occ w=true→p w)→(∀e∈E,(∀w,e.1.occ w=true→p w)∧∀w,e.2.occ w=true→p w)→mgu s E=some s'→∀b∈s',p b.v∧∀w,b.t.occ w=true→p w:=by
 induction E with
 |nil=>intro s s' af aO J _ h;rw[Dl af aO]at h;cases h;exact J
 |cons e E bP=>
  intro s s' af aO J U h;rw[LW af aO]at h;split at h
  ·rename_i s1 ai;obtain⟨V,iP⟩:∃V,V=s.flatMap (fun b=>b.v::nD b.t)++nD e.1++nD e.2:=⟨_,rfl⟩;have SC:∀w∈V,p w:=by
    intro w hw;rw[iP]at hw;simp only[iH,List.mem_flatMap,fA]at hw;rcases hw with(⟨b,ae,rfl|hw⟩|hw)|hw
    ·exact(J b ae).1
    ·exact(J b ae).2 w (Ej.1 hw)
    ·exact(U e (by simp)).1 w (Ej.1 hw)
    ·exact(U e (by simp)).2 w (Ej.1 hw)
   obtain⟨n,o,iY,jA,qo⟩:=XD V _ _ s e.1 e.2 af aO (fun c ar=>⟨by rw[iP];simp only[iH,List.mem_flatMap];exact .inl (.inl ⟨c,ar,by simp⟩),fun w hw=>by rw[iP];simp only[iH,List.mem_flatMap];exact .inl (.inl ⟨c,ar,by simp[yq hw]⟩)⟩)
    (fun w hw=>by rw[iP];simp only[iH];exact .inl (.inr (yq hw))) (fun w hw=>by rw[iP];simp only[iH];exact .inr (yq hw)) rfl rfl
   have y0:=nU jA;rw[ai]at y0;subst y0;obtain⟨XC,_⟩:=qo s1 rfl;have pk:=q5 af aO ai;exact bP pk.1 pk.2 (fun b ae=>⟨SC _ (XC b ae).1,fun w hw=>SC w ((XC b ae).2 w hw)⟩) (fun fT he=>U fT (by simp[he])) h
  ·cases h
theorem ak9{s:List ak}(af:ey s){v n:Int}(h:bF s v= .var n):cV s n=none:=by have:=Nq af (t:= .var v) (w:=n) (by show(bF s v).occ n=true;rw[h];simp[T.occ]);exact this
theorem EH{l l':List bX}{t:T}{k:Int}(h:gS l t k=some l'):∀x∈l',x∈l∨t= .var x.v:=by
 unfold gS at h;split at h
 ·rename_i n;split at h
  ·split at h
   ·cases h;exact fun x ab=>.inl ab
   ·cases h
  ·cases h;intro x ab;rcases wG.1 ab with rfl|ab
   ·exact .inr rfl
   ·exact .inl ab
 ·split at h
  ·cases h;exact fun x ab=>.inl ab
  ·cases h
theorem Hr{s:List ak}(af:ey s):∀{l acc a:List bX},(∀x∈acc,cV s x.v=none)→eT s l acc=some a→∀x∈a,cV s x.v=none
 |[],acc,a,h,he=>by simp only[eT,dw]at he;rw[←he];exact h
 |y::r,acc,a,h,he=>by
  simp only[eT]at he;split at he
  ·rename_i bt ai;refine Hr af (fun x ab=>?_) he;rcases EH ai x ab with J|J
   ·exact h x J
   ·exact ak9 af J
  ·cases he
theorem T2{x:bX}:∀{l:List bX},(∀y∈l,y.v<x.v)→kX x l=l++[x]
 |[],_=>rfl
 |y::l,h=>by simp only[kX,if_pos (h y (by simp)),T2 (l:=l) fun z aY=>h z (by simp[aY]),bR]
theorem M0{s:List ak}:∀{l acc:List bX},(acc++l).Pairwise (fun x y=>x.v<y.v)→(∀x∈l,cV s x.v=none)→eT s l acc=some (acc++l)
 |[],acc,_,_=>by simp[eT]
 |x::r,acc,bk,aO=>by
  have J:∀y∈acc,y.v<x.v:=fun y aD=>(List.pairwise_append.1 bk).2.2 y aD x (by simp);have U:ki acc x.v=none:=yh.2 fun y aD=>by have:=J y aD;omega
  have ao:gS acc (bF s x.v) x.k=some (acc++[x]):=by rw[Bm (aO x (by simp))];simp only[gS,U];rw[T2 J]
  simp only[eT,ao];rw[M0 (by simpa using bk) fun y aD=>aO y (by simp[aD])];simp
theorem Bf{s:List ak}(af:ey s):∀{l acc a:List bd},(∀x∈acc,cV s x.v=none)→eK s l acc=some a→∀x∈a,cV s x.v=none
 |[],acc,a,h,he=>by simp only[eK,dw]at he;rw[←he];exact h
 |y::r,acc,a,h,he=>by
  simp only[eK]at he;split at he
  ·rename_i bt ai;refine Bf af (fun x ab=>?_) he;rcases(q4 ai x).1 ab with J|⟨_,J⟩
   ·exact h x J
   ·exact Nq af (t:= .var y.v) J
  ·cases he
theorem Ht{s:List ak}:∀{l acc:List bd},gR e5 (acc++l)→(∀x∈l,cV s x.v=none)→eK s l acc=some (acc++l)
 |[],acc,_,_=>by simp[eK]
 |x::r,acc,bk,aO=>by
  have ao:gm acc (bF s x.v) x.s=some (acc++[x]):=by
   rw[Bm (aO x (by simp))];refine IF rfl (ar2 ?_ bk) fun z=>?_
   ·simp
   ·simp only[iH,qv,T.occ,dK];refine or_congr_right ⟨fun h=>by rw[h];exact⟨rfl,rfl⟩,fun⟨J,U⟩=>?_⟩;cases z;cases x;simp_all
  simp only[eK,ao];rw[Ht (by simpa using bk) fun y aD=>aO y (by simp[aD])];simp
def yU(b:List ak)(k:List bX)(m:List bd)(d:List ak):Prop:= ∃x,mgu b (eB d)=some x∧¬(eT x k []=none∨eK x m []=none)∧cR b x=d∧d≠[]
theorem Db{b:List ak}(ae:dn b){k:List bX}{m:List bd}:∀{l L:List (List ak)},dm b k m l=some L→∀d∈L,yU b k m d
 |[],L,h=>by simp only[dm,dw]at h;rw[←h];simp
 |d0::r,L,h=>by
  simp only[dm]at h;split at h
  ·exact Db ae h
  ·rename_i x ab;split at h
   ·exact Db ae h
   ·rename_i ad;split at h
    ·cases h
    ·rename_i au;rw[gr]at h;obtain⟨sE,J,rfl⟩:=h;intro d aE;rcases fA.1 aE with rfl|aE
     ·exact⟨x,tA ae.sol ae.fits ab,ad,rfl,au⟩
     ·exact Db ae J d aE
theorem LA{b:List ak}{k:List bX}{m:List bd}:∀{L:List (List ak)},(∀d∈L,yU b k m d)→dm b k m L=some L
 |[],_=>rfl
 |d::L,h=>by obtain⟨x,J,U,ao,a1⟩:=h d (by simp);simp only[dm,J,if_neg U,ao,if_neg a1,LA (L:=L) fun e he=>h e (by simp[he]),kN]
theorem uY{b:List ak}(ae:dn b){k:List bX}{m:List bd}:∀{l L:List (List ak)},(∀d∈l,dn d)→dm b k m l=some L→∀d∈L,dn d
 |[],L,_,h=>by simp only[dm,dw]at h;rw[←h];simp
 |d0::r,L,aq,h=>by
  simp only[dm]at h;split at h
  ·exact uY ae (fun d aE=>aq d (by simp[aE])) h
  ·rename_i x ab;split at h
   ·exact uY ae (fun d aE=>aq d (by simp[aE])) h
   ·split at h
    ·cases h
    ·rw[gr]at h;obtain⟨sE,J,rfl⟩:=h;intro d aE;rcases fA.1 aE with rfl|aE
     ·exact AQ (ae.mgu (fun e he=>by obtain⟨c,ar,rfl⟩:=hJ.1 he;have:=(aq d0 (by simp)).ok c ar;exact⟨by simpa[T.ok]using this.1,this.2⟩) ab)
     ·exact uY ae (fun d aE=>aq d (by simp[aE])) J d aE
theorem Gz{b:List ak}(ae:dn b){n:Int}(au:o5 b n){k:List bX}{m:List bd}:∀{l L:List (List ak)},(∀d∈l,o5 d n)→dm b k m l=some L→∀d∈L,o5 d n
 |[],L,_,h=>by simp only[dm,dw]at h;rw[←h];simp
 |d0::r,L,aq,h=>by
  simp only[dm]at h;split at h
  ·exact Gz ae au (fun d aE=>aq d (by simp[aE])) h
  ·rename_i x ab;split at h
   ·exact Gz ae au (fun d aE=>aq d (by simp[aE])) h
   ·split at h
    ·cases h
    ·rw[gr]at h;obtain⟨sE,J,rfl⟩:=h;intro d aE;rcases fA.1 aE with rfl|aE
     ·have:=U3 (fun v=>v<n) ae.sol ae.fits au (fun e he=>by obtain⟨c,ar,rfl⟩:=hJ.1 he;have:=aq d0 (by simp) c ar;exact⟨fun w hw=>by simp[T.occ]at hw;subst hw;exact this.1,this.2⟩) ab
      exact fun c ar=>this c (ha.1 ar).1
     ·exact Gz ae au (fun d aE=>aq d (by simp[aE])) J d aE
theorem U5{L:List (List ak)}:fV (fV L)=fV L:=U4 (GN L) fun x=>by rw[nr,and_assoc];refine⟨fun⟨J,U⟩=>⟨J,U,?_⟩,fun⟨J,U,_⟩=>⟨J,U⟩⟩;rw[ie,ig]at U⊢;exact fun d aE=>U d (nr.1 aE).1
theorem Lp{b:List ak}(ae:dn b){n:Int}(au:o5 b n){v w:Int}(aI:v<n)(h:(bF b v).occ w=true):w<n:=by
 unfold bF at h;cases e:cV b v with
 |none=>rw[e]at h;simp[T.occ]at h;omega
 |some t=>rw[e]at h;exact(au _ (jS e)).2 w h
theorem WO{b:List ak}(ae:dn b){n:Int}(au:o5 b n):∀{l acc a:List bX},(∀x∈l,x.v<n)→(∀x∈acc,x.v<n)→eT b l acc=some a→∀x∈a,x.v<n
 |[],acc,a,_,h,he=>by simp only[eT,dw]at he;rw[←he];exact h
 |y::r,acc,a,aq,h,he=>by
  simp only[eT]at he;split at he
  ·rename_i bt ai;refine WO ae au (fun x ab=>aq x (by simp[ab])) (fun x ab=>?_) he;rcases EH ai x ab with J|J
   ·exact h x J
   ·exact Lp ae au (aq y (by simp)) (by rw[J];simp[T.occ])
  ·cases he
theorem WQ{b:List ak}(ae:dn b){n:Int}(au:o5 b n):∀{l acc a:List bd},(∀x∈l,x.v<n)→(∀x∈acc,x.v<n)→eK b l acc=some a→∀x∈a,x.v<n
 |[],acc,a,_,h,he=>by simp only[eK,dw]at he;rw[←he];exact h
 |y::r,acc,a,aq,h,he=>by
  simp only[eK]at he;split at he
  ·rename_i bt ai;refine WQ ae au (fun x ab=>aq x (by simp[ab])) (fun x ab=>?_) he;rcases(q4 ai x).1 ab with J|⟨_,J⟩
   ·exact h x J
   ·exact Lp ae au (aq y (by simp)) J
  ·cases he
theorem wZ{s s':bE}(h:h5 s)(he:dM s=some s'):k2 s'∧s'.n=s.n∧s'.b=s.b:=by
 unfold dM at he;split at he
 ·cases he
 rename_i k ad;split at he
 ·cases he
 rename_i m hm;split at he
 ·cases he
 rename_i L hg;split at he;rotate_left
 ·cases he
 rename_i lI;cases he;have aS:=yI h.b h.k.at' ⟨by simp,by simp⟩ ad;have m1:=DN h.b h.m.at' ⟨by simp,by simp[gR]⟩ hm;have m2:jj (m.filter (ek k)):=⟨fun x ab=>m1.at' x (ha.1 ab).1,vv _ m1.asc⟩;have c8:=Db h.b hg;have x9:=uY h.b h.d hg;refine⟨⟨⟨h.n,h.b,fun x ab=>x9 x (nr.1 ab).1,aS,m2,h.bb,fun x ab=>Gz h.b h.bb h.db hg x (nr.1 ab).1,WO h.b h.bb h.kb (by simp) ad,fun x ab=>WQ h.b h.bb h.mb (by simp) hm x (ha.1 ab).1⟩,?_⟩,rfl,rfl⟩;unfold dM;have ai:eT s.b k []=some k:=M0 (acc:=[]) aS.asc (Hr h.b.sol (by simp) ad);have ax:eK s.b (m.filter (ek k)) []=some (m.filter (ek k)):=Ht (acc:=[]) m2.asc fun x ab=>Bf h.b.sol (by simp) hm x (ha.1 ab).1;have bn:(m.filter (ek k)).filter (ek k)=m.filter (ek k):=by rw[List.filter_filter];simp
 have dp:dm s.b k (m.filter (ek k)) (fV L)=some (fV L):=LA fun d aE=>c8 d (nr.1 aE).1;simp only[ai,ax,bn,dp,U5,if_pos lI]
def qF:C:=(aa [cO 6 2,eJ 8 2,bj 9 false] (.seq (aa [I 15 0,cL 16 55 15,ct 17 16,I 18 17,al 18 false (aX 19 4 6),al 18 false (cL 20 117 19),al 18 false (ct 21 20),cW 22 18 21,I 23 22,bZ 23 false 24 1,al 23 false (cL 25 56 24),al 23 false (ct 26 25),cW 27 23 26,I 28 27,bZ 28 false 29 3,al 28 false (aU 30 .neq 29 2),bZ 28 false 31 30,bZ 31 true 32 3,al 31 true (aU 33 .neq 32 3),al 28 false (dv 34 31 33),cW 35 28 34] (aZ 35 (aa [eJ 8 2,bj 9 false] .ret) .skip)) (aa [I 37 0,aX 38 4 6,ck 39 95 37 38,I 36 39,cd 40 0 36,cd 41 1 36,cS 10 du,bz 4 10 40,I 11 41] (.seq (aa [I 42 11,ct 43 42] (aZ 43 (aa [eJ 8 2,bj 9 false] .ret) .skip)) (aa [c0 (.bslm 44 (some 803) 2 104 []),I 45 1,c0 (.appm 46 none 2 104 (.t 44) (.t 45)),c0 (.alloc 12 (some 804) (.slice 2 .nil [])),bz 1 12 46] (.seq (aa [aF 47 0 1 10,aw 48 1 47,aU 49 .neq 48 1] (aZ 49 (.seq (aa [aF 50 0 1 10,aw 51 1 50,I 52 3,br 53 .neq 51 52] (aZ 53 (aa [eJ 8 2,bj 9 false] .ret) .skip)) (.seq (.pubB 12 (.region [aw 54 1 12,I 8 54,bj 9 true])) .ret)) .skip)) (.seq (aa [I 55 1,cv 56 55,cc 57 0] (fe 58 57 56 (.seq (.block 1 (aa [cw 59 2 55 57,aX 60 2 59,c0 (.alloc 14 none (.agg [.int .i64 0,.int .i64 0])),bz 2 14 60] (aa [aF 61 0 1 14,aw 62 1 61,aF 63 1 1 10,aw 64 1 63,br 65 .eql 62 64] (aZ 65 (.seq (aa [aF 66 1 1 14,aw 67 1 66,I 68 3,br 69 .neq 67 68] (aZ 69 (aa [eJ 8 2,bj 9 false] .ret) .skip)) (.seq (.pubB 12 (.region [aw 70 1 12,I 8 70,bj 9 true])) .ret)) .skip)))) (.region [aU 71 .add 57 1,I 57 71])))) (aa [aw 72 1 12,aF 73 1 1 10,aw 74 1 73,I 75 3,bW 76 (.build [.int .i64 0,.int .i64 0] [(0,1,(.t 74)),(1,1,(.t 75))]),eb 77 2 104 [.t 76],c0 (.appm 78 none 2 104 (.t 72) (.t 77)),bz 1 12 78] (aa [aw 79 1 12,bW 80 (.mkif 25 (.t 79)),bW 81 (.mkf 127 [.t 12]),ck 82 126 80 81] (.seq (.pubB 12 (.region [aw 83 1 12,I 8 83,bj 9 true])) .ret))))))))))
@[simp] def j1:List bA:=[.tmp 8,.tmp 9]
def ER:C:=(aa [cO 6 2,c0 (.box 7 (some 811) (.t 3)),eJ 8 2,bj 9 false] (.seq (aa [I 17 0,cL 18 55 17,ct 19 18,I 20 19,al 20 false (aX 21 4 6),al 20 false (cL 22 117 21),al 20 false (ct 23 22),cW 24 20 23,I 25 24,bZ 25 false 26 1,al 25 false (cL 27 57 26),al 25 false (ct 28 27),cW 29 25 28,I 30 29,al 30 false (aw 31 1 7),al 30 false (cL 32 128 31),al 30 false (ct 33 32),cW 34 30 33] (aZ 34 (aa [eJ 8 2,bj 9 false] .ret) .skip)) (aa [I 36 0,aX 37 4 6,ck 38 95 36 37,I 35 38,cd 39 0 35,cd 40 1 35,cS 10 du,bz 4 10 39,I 11 40] (.seq (aa [I 41 11,ct 42 41,I 43 42,al 43 false (aX 44 4 10),al 43 false (aw 45 1 7),al 43 false (ck 46 109 44 45),cW 47 43 46] (aZ 47 (aa [eJ 8 2,bj 9 false] .ret) .skip)) (aa [c0 (.mkmap 48 (some 812)),c0 (.alloc 12 (some 813) (.junk)),bz 1 12 48] (.seq (aa [I 49 1,cv 50 49,cc 51 0] (fe 52 51 50 (.seq (.block 1 (aa [cw 53 2 49 51,aX 54 2 53,c0 (.alloc 14 none (.agg [.int .i64 0,.str []])),bz 2 14 54] (.region [aw 55 1 12,aX 56 2 14,c0 (.mput (.a [false,true]) (.t 55) (.t 56) (.c (.bool true)))]))) (.region [aU 57 .add 51 1,I 51 57])))) (aa [aX 58 4 10,bW 59 (.mkf 130 [.t 12,.t 7]),ck 60 129 58 59] (aa [c0 (.bslm 61 (some 814) 2 106 []),c0 (.alloc 15 (some 815) (.slice 2 .nil [])),bz 1 15 61] (.seq (aa [aw 62 1 12,c0 (.range 63 none (.t 62))] (.block 2 (.loop (aa [⟨none,.next 64 (.t 63)⟩,cd 65 0 64] (.seq (aZ 65 .skip (.exit 2)) (.block 3 (aa [bW 66 (.ment (.t 63)),cd 67 0 66,c0 (.alloc 16 none (.agg [.int .i64 0,.str []])),bz 2 16 67] (.region [aw 68 1 15,aX 69 2 16,eb 70 2 106 [.t 69],c0 (.appm 71 none 2 106 (.t 68) (.t 70)),bz 1 15 71])))))))) (aa [aw 72 1 15,bW 73 (.mkif 26 (.t 72)),bW 74 (.mkf 131 [.t 15]),ck 75 126 73 74] (.seq (.pubB 15 (.region [aw 76 1 15,I 8 76,bj 9 true])) .ret)))))))))))
@[simp] def G9:List bA:=[.tmp 8,.tmp 9]
def Pa:C:=(aa [bj 2 false] (.seq (aa [I 5 0,cv 6 5,cc 7 0] (fe 8 7 6 (.seq (.block 1 (aa [I 9 7,cw 10 2 5 7,aX 11 2 10,c0 (.alloc 4 none (.agg [.int .i64 0,.int .i64 0])),I 3 9,bz 2 4 11] (.seq (.drawn true 46 [aF 12 0 1 4,aw 13 1 12,aU 14 .lss 13 0,I 15 14,al 15 false (aF 16 0 1 4),al 15 false (aw 17 1 16),al 15 false (aU 18 .gtr 17 100000),cW 19 15 18,I 20 19,al 20 false (aF 21 1 1 4),al 20 false (aw 22 1 21),al 20 false (aU 23 .neq 22 2),bZ 20 false 24 23,al 24 true (aF 25 1 1 4),al 24 true (aw 26 1 25),al 24 true (aU 27 .neq 26 3),al 20 false (dv 28 24 27),cW 29 20 28,I 30 29,bZ 30 false 31 3,al 30 false (aU 32 .gtr 31 0),bZ 30 false 33 32,bZ 33 true 34 0,bZ 33 true 35 3,al 33 true (aU 36 .sub 35 1),al 33 true (cw 37 2 34 36),al 33 true (aF 38 0 1 37),al 33 true (aw 39 1 38),al 33 true (aF 40 0 1 4),al 33 true (aw 41 1 40),al 33 true (br 42 .geq 39 41),al 30 false (dv 43 33 42),cW 44 30 43]) (aZ 44 (aa [bj 2 false] .ret) .skip)))) (.region [aU 45 .add 7 1,I 7 45])))) (aa [bj 2 true] .ret)))
@[simp] def V2:List bA:=[.tmp 2]
def Pb:C:=(aa [bj 2 false] (.seq (aa [I 5 0,cv 6 5,cc 7 0] (fe 8 7 6 (.seq (.block 1 (aa [I 9 7,cw 10 2 5 7,aX 11 2 10,c0 (.alloc 4 none (.agg [.int .i64 0,.str []])),I 3 9,bz 2 4 11] (.seq (.drawn true 41 [aF 12 0 1 4,aw 13 1 12,aU 14 .lss 13 0,I 15 14,al 15 false (aF 16 0 1 4),al 15 false (aw 17 1 16),al 15 false (aU 18 .gtr 17 100000),cW 19 15 18,I 20 19,al 20 false (aF 21 1 1 4),al 20 false (aw 22 1 21),al 20 false (cL 23 128 22),al 20 false (ct 24 23),cW 25 20 24,I 26 25,bZ 26 false 27 3,al 26 false (aU 28 .gtr 27 0),bZ 26 false 29 28,bZ 29 true 30 0,bZ 29 true 31 3,al 29 true (aU 32 .sub 31 1),al 29 true (cw 33 2 30 32),al 29 true (aX 34 2 33),al 29 true (aX 35 2 4),al 29 true (ck 36 132 34 35),al 29 true (ct 37 36),al 26 false (dv 38 29 37),cW 39 26 38]) (aZ 39 (aa [bj 2 false] .ret) .skip)))) (.region [aU 40 .add 7 1,I 7 40])))) (aa [bj 2 true] .ret)))
@[simp] def My:List bA:=[.tmp 2]
def EY:C:=(aa [cO 2 0,bj 4 false] (.seq (aa [aF 5 0 1 2,aw 6 1 5,aU 7 .eql 6 4] (aZ 7 (aa [aF 8 3 1 2,aw 9 1 8,jQ 10 4 9 0,aX 11 4 10,I 12 1,ck 13 109 11 12,I 14 13,al 14 false (aF 15 3 1 2),al 14 false (aw 16 1 15),al 14 false (jQ 17 4 16 1),al 14 false (aX 18 4 17),bZ 14 false 19 1,al 14 false (ck 20 109 18 19),cW 21 14 20,I 4 21] .ret) .skip)) (aa [aF 22 0 1 2,aw 23 1 22,aU 24 .eql 23 2,I 25 24,al 25 true (aF 26 2 1 2),al 25 true (aw 27 1 26),bZ 25 true 28 1,al 25 true (br 29 .eql 27 28),dv 30 25 29,I 4 30] .ret)))
@[simp] def Hf:List bA:=[.tmp 4]
def O7:C:=(aa [bj 5 false] (.seq (.drawn true 17 [aw 6 1 2,I 7 0,cw 8 2 6 7,aF 9 0 1 8,aw 10 1 9,aw 11 1 2,I 12 1,cw 13 2 11 12,aF 14 0 1 13,aw 15 1 14,br 16 .lss 10 15,I 5 16]) .ret))
@[simp] def VZ:List bA:=[.tmp 5]
def O5:C:=(.region [aw 4 1 1,I 5 0,aw 6 1 2,bW 7 (.build [.int .i64 0,.str []] [(0,1,(.t 5)),(1,1,(.t 6))]),c0 (.mput (.a [false,true]) (.t 4) (.t 7) (.c (.bool true)))])
@[simp] def VX:List bA:=[]
def O6:C:=(aa [bj 5 false] (.seq (.drawn true 15 [aw 6 1 2,I 7 0,cw 8 2 6 7,aX 9 2 8,aw 10 1 2,I 11 1,cw 12 2 10 11,aX 13 2 12,ck 14 132 9 13,I 5 14]) .ret))
@[simp] def VY:List bA:=[.tmp 5]
def EV:C:=(aa [cO 2 0,cO 3 1,bj 4 false] (aa [aF 5 0 1 2,aw 6 1 5,aF 7 0 1 3,aw 8 1 7,br 9 .lss 6 8,I 10 9,al 10 false (aF 11 0 1 2),al 10 false (aw 12 1 11),al 10 false (aF 13 0 1 3),al 10 false (aw 14 1 13),al 10 false (br 15 .eql 12 14),bZ 10 false 16 15,al 16 true (aF 17 1 1 2),al 16 true (aw 18 1 17),al 16 true (aF 19 1 1 3),al 16 true (aw 20 1 19),al 16 true (br 21 .lss 18 20),al 10 false (dv 22 16 21),cW 23 10 22,I 4 23] .ret))
@[simp] def akb:List bA:=[.tmp 4]
def tO:List (Nat×dx):=[
 (3,⟨1,8,.int .i64,.int .i64 0⟩),
 (9,⟨1,16,.str,.str []⟩),
 (25,⟨1,24,.slice 104,.slice 2 .nil []⟩),
 (26,⟨1,24,.slice 106,.slice 2 .nil []⟩),
 (30,⟨1,24,.slice 32,.slice 4 .nil []⟩),
 (32,⟨4,56,.struct [(0,3),(1,3),(2,9),(3,30)],.agg [.int .i64 0,.int .i64 0,.str [],.slice 4 .nil []]⟩),
 (104,⟨2,16,.struct [(0,3),(1,3)],.agg [.int .i64 0,.int .i64 0]⟩),
 (106,⟨2,24,.struct [(0,3),(1,9)],.agg [.int .i64 0,.str []]⟩),
 (165,⟨1,8,.map 106 4,.junk⟩)]
theorem j2:fP az tO=true:=by kernel_rfl
theorem sd:b4 tO qF j1 4 Tryz.f52=true:=by kernel_rfl
theorem rD:az.funcs[(52:Nat)]? =some Tryz.f52:=Tryz.func52
theorem L7:b4 tO ER G9 4 Tryz.f54=true:=by kernel_rfl
theorem JH:az.funcs[(54:Nat)]? =some Tryz.f54:=Tryz.func54
theorem ahU:b4 tO Pa V2 1 Tryz.f56=true:=by kernel_rfl
theorem aa9:az.funcs[(56:Nat)]? =some Tryz.f56:=Tryz.func56
theorem ahV:b4 tO Pb My 1 Tryz.f57=true:=by kernel_rfl
theorem aba:az.funcs[(57:Nat)]? =some Tryz.f57:=Tryz.func57
theorem Me:b4 tO EY Hf 2 Tryz.f109=true:=by kernel_rfl
theorem JO:az.funcs[(109:Nat)]? =some Tryz.f109:=Tryz.func109
theorem ahR:b4 tO O7 VZ 3 Tryz.f127=true:=by kernel_rfl
theorem aa6:az.funcs[(127:Nat)]? =some Tryz.f127:=Tryz.func127
theorem ahP:b4 tO O5 VX 3 Tryz.f130=true:=by kernel_rfl
theorem aa4:az.funcs[(130:Nat)]? =some Tryz.f130:=Tryz.func130
theorem ahQ:b4 tO O6 VY 3 Tryz.f131=true:=by kernel_rfl
theorem aa5:az.funcs[(131:Nat)]? =some Tryz.f131:=Tryz.func131
theorem Mb:b4 tO EV akb 2 Tryz.f132=true:=by kernel_rfl
theorem JL:az.funcs[(132:Nat)]? =some Tryz.f132:=Tryz.func132
def me(x:bX):Prop:=(0≤x.v∧x.v≤100000)∧(x.k=2∨x.k=3)
def np(x y:bX):Prop:=x.v<y.v
theorem Gt{l:List bX}:jh l↔∀i,i<l.length→ik me np l i:=by rw[Ox (p:=me) (r:=np) (fun a b c J U=>by unfold np at*;omega)];exact⟨fun h=>⟨h.at',h.asc⟩,fun h=>⟨h.1,h.2⟩⟩
def kk(x:bd):Prop:=(0≤x.v∧x.v≤100000)∧ib x.s=true
def kG(x y:bd):Prop:=e5 x y<0
theorem GI{l:List bd}:jj l↔∀i,i<l.length→ik kk kG l i:=by rw[Ox (p:=kk) (r:=kG) (fun a b c J U=>by unfold kG at*;exact k0.ltr J (Int.le_of_lt U))];exact⟨fun h=>⟨h.at',h.asc⟩,fun h=>⟨h.1,h.2⟩⟩
open Classical in
theorem XN(l:List bX):bS az 56 [.slice 2 .no (l.map bX.e)] (.bool (decide (jh l))):=by
 generalize bH:decide (jh l)=R;refine bq j2 aa9 ahU fun aP=>?_;unfold Pa;have gV:l.length≤68719476736:=by simp[gD,fY,gx,lim]at aP;omega
 simp;refine eC [0,5,6] (fun i (_:Unit)=>[(7,.int .i64 i)]) l.length (fun i _=> ∀j,j<i→ik me np l j) () b3 (fun k ad=>by omega) (fun _ ag _=>?_) (fun i _ hi ag _=>?_)
 ·have:R=true:=by rw[←bH,fo,Gt];exact ag
  rw[this];exact cB
 ·obtain⟨b,ae⟩:∃b,l[i]? =some b:=⟨_,cb hi⟩;obtain⟨c,ar⟩:∃c,l[i-1]? =some c:=⟨_,cb (by omega)⟩;have cz:∀h,(l[i]'h)=b:=fun h=>by rw[cb hi]at ae;exact e3 ae
  have dd:¬ik me np l i→R=false:=fun h=>by rw[←bH,hK];exact fun cr=>h (Gt.1 cr i hi)
  have c8:ik me np l i→∀j,j<i+1→ik me np l j:=fun h j ju=>by
   by_cases e:j=i
   ·rw[e];exact h
   ·exact ag j (by omega)
  simp[hi,cz,ar];((with_reducible repeat' first|refine aj ?_|simp[cz,ar,hi]|((first|apply bG|apply bL|apply bK)<;>intro h<;>try simp at h))<;>(try exact cg));all_goals first
   |(have au:¬ik me np l i:=by(intro cr;have J:=cr b ae;have U:=J.2 c;have ao:=J.1;unfold me np at*;first|omega|(have a1:=U (by omega) ar;omega)|(simp_all;done)|(simp_all;omega))
     rw[dd au]
     simp[bp,V2,aT,aW,aQ]
     done)
   |(refine bN.rng () hi (c8 fun bV gd=>?_) ?_
     ·rw[ae]at gd;cases gd
      refine⟨?_,fun cf bD hh=>?_⟩
      ·unfold me;first|(simp_all;done)|(simp_all;omega)
      ·rw[ar]at hh;cases hh;unfold np;simp_all
     ·exact b3)
theorem Bz(a b:bd):bS az 132 [a.e,b.e] (.bool (hR e5 a b)):=by
 rw[←Vc];have bH:tC a b=(decide (a.v<b.v)||(a.v==b.v&&hB a.s b.s)):=rfl;rcases Int.lt_trichotomy a.v b.v with h|h|h
 ·have:tC a b=true:=by rw[bH];simp[h]
  rw[this];refine bq j2 JL Mb fun aP=>?_;unfold EV;exact cB
 ·have J:¬a.v<b.v:=by omega
  have U:(a.v==b.v)=true:=by simp[h]
  have:tC a b=hB a.s b.s:=by rw[bH];simp[h]
  rw[this];refine bq j2 JL Mb fun aP=>?_;unfold EV;exact cB
 ·have J:¬a.v<b.v:=by omega
  have U:¬a.v=b.v:=by omega
  have ao:(a.v==b.v)=false:=by simp[U]
  have:tC a b=false:=by rw[bH];simp[J,U]
  rw[this];refine bq j2 JL Mb fun aP=>?_;unfold EV;exact cB
open Classical in
theorem XQ(l:List bd):bS az 57 [.slice 2 .no (l.map bd.e)] (.bool (decide (jj l))):=by
 generalize bH:decide (jj l)=R;refine bq j2 aba ahV fun aP=>?_;unfold Pb;have gV:l.length≤68719476736:=by simp[gD,fY,gx,lim]at aP;omega
 simp;refine eC [0,5,6] (fun i (_:Unit)=>[(7,.int .i64 i)]) l.length (fun i _=> ∀j,j<i→ik kk kG l j) () b3 (fun k ad=>by omega) (fun _ ag _=>?_) (fun i _ hi ag _=>?_)
 ·have:R=true:=by rw[←bH,fo,GI];exact ag
  rw[this];exact cB
 ·obtain⟨b,ae⟩:∃b,l[i]? =some b:=⟨_,cb hi⟩;obtain⟨c,ar⟩:∃c,l[i-1]? =some c:=⟨_,cb (by omega)⟩;have cz:∀h,(l[i]'h)=b:=fun h=>by rw[cb hi]at ae;exact e3 ae
  have dd:¬ik kk kG l i→R=false:=fun h=>by rw[←bH,hK];exact fun cr=>h (GI.1 cr i hi)
  have c8:ik kk kG l i→∀j,j<i+1→ik kk kG l j:=fun h j ju=>by
   by_cases e:j=i
   ·rw[e];exact h
   ·exact ag j (by omega)
  have gF:∀p:Prop,(p→ep)→(ik kk kG l i→p)→R=false:=fun p J U=>dd fun h=>J (U h);have pf:ik kk kG l i→kk b:=fun h=>(h b ae).1;have bm:ik kk kG l i→0<i→hR e5 c b=true:=fun h bD=>by simpa[hR,kG]using(h b ae).2 c bD ar
  have dT:kk b→(0<i→hR e5 c b=true)→ik kk kG l i:=fun J U bV gd=>by rw[ae]at gd;cases gd;exact⟨J,fun cf bD hh=>by rw[ar]at hh;cases hh;simpa[hR,kG]using U bD⟩
  unfold kk at pf dT;by_cases g1:b.v<0
  ·rw[gF _ (fun h=>by omega) (fun h=>(pf h).1.1)];exact cB
  by_cases g2:100000<b.v
  ·rw[gF _ (fun h=>by omega) (fun h=>(pf h).1.2)];exact cB
  cases g3:ib b.s
  ·rw[gF _ (fun h=>by rw[h]at g3;cases g3) (fun h=>(pf h).2)];simp[hi,cz,ar];(with_reducible repeat' first|refine aj ?_|refine aB (tP _) ?_|refine aC (tP _) ?_|simp[cz,ar,hi,g1,g2,g3]);simp[bp,My,aT,aW,aQ]
  by_cases g4:0<i
  ·cases g5:hR e5 c b
   ·rw[gF _ (fun h=>by rw[h]at g5;cases g5) (fun h=>bm h g4)];simp[hi,cz,ar];(with_reducible repeat' first|refine aj ?_|refine aB (tP _) ?_|refine aC (tP _) ?_|refine aB (Bz _ _) ?_|refine aC (Bz _ _) ?_|simp[cz,ar,hi,g1,g2,g3,g4,g5]);simp[bp,My,aT,aW,aQ]
   ·simp[hi,cz,ar];(with_reducible repeat' first|refine aj ?_|refine aB (tP _) ?_|refine aC (tP _) ?_|refine aB (Bz _ _) ?_|refine aC (Bz _ _) ?_|simp[cz,ar,hi,g1,g2,g3,g4,g5]);exact bN.rng () hi (c8 (dT ⟨⟨by omega,by omega⟩,g3⟩ fun _=>g5)) b3
  ·obtain rfl:i=0:=by omega
   simp[hi,cz,ar];(with_reducible repeat' first|refine aj ?_|refine aB (tP _) ?_|refine aC (tP _) ?_|simp[cz,ar,hi,g1,g2,g3,g4]);exact bN.rng () hi (c8 (dT ⟨⟨by omega,by omega⟩,g3⟩ fun h=>by omega)) b3
theorem amd(s:List cQ):∀t:T,bS az 109 [t.e,.str s] (.bool (t.has s)):=by
 intro t;induction t with
 |pair a b dQ dR=>
  refine bq j2 JO Me fun aP=>?_;unfold EY;simp;cases bk:a.has s<;>cases ae:b.has s<;>rw[bk]at dQ<;>rw[ae]at dR;all_goals(with_reducible repeat' first|refine aj ?_|refine aB dQ ?_|refine aC dQ ?_|refine aB dR ?_|refine aC dR ?_|simp)
  all_goals simp[bp,Hf,aT,aW,aQ]
  all_goals simp[T.has,bk,ae]
 |sym n=>
  refine bq j2 JO Me fun aP=>?_;unfold EY;simp;(with_reducible repeat' first|refine aj ?_|simp);all_goals simp[bp,Hf,aT,aW,aQ]
  all_goals simp[T.has]
 |_=>
  refine bq j2 JO Me fun aP=>?_;unfold EY;simp;(with_reducible repeat' first|refine aj ?_|simp);all_goals simp[bp,Hf,aT,aW,aQ]
  all_goals simp[T.has]
end Go.Proofs.YtohaalphocaebaaGreat
namespace Go.Proofs.YtohaalphocaebaaGreat
open Go Go.Pv
variable {α:Type} [Inhabited α] {S:List α→cI} {n g b5:Nat} {lc b1:List ah} {lt:α→α→Bool}
theorem zg{d:Array α}{i:Nat}(h:i<d.size):d.toList[i]? =some d[i]!:=by simp[getElem!_pos,h]
theorem GH(d:Array α){i j:Nat}(hi:i<d.size)(ag:j<d.size):hn d.toList i j=(Sort.swp d i j).toList:=by simp[hn,Sort.swp,zg hi,zg ag]
section
variable (H:e7 S n g b5 lc b1 lt)
include H
theorem e7.swapA{d:Array α}(J:d.size=n)(U:2≤n)(i j:Nat)(hi:i<n)(ag:j<n){t:List (Nat×ah)}{D:List ah}{o:List aJ}{ca:Option Nat}{K:bh→Prop}
  (h:∀o,K ⟨eS ca (.tuple []) t,(.loc 0,D)::(S (Sort.swp d i j).toList).b,(S (Sort.swp d i j).toList).e,1,o⟩):cM az b5 (.int .i64 i:: .int .i64 j::b1) ⟨t,(.loc 0,D)::(S d.toList).b,(S d.toList).e,1,o⟩ ca K:=by
 refine H.doSwap (by simpa using J) i j hi ag U ?_;rw[GH d (by omega) (by omega)];exact h _
theorem e7.lessA{d:Array α}(J:d.size=n)(i j:Nat)(hi:i<n)(ag:j<n){t:List (Nat×ah)}{D:List ah}{o:List aJ}{ca:Option Nat}{K:bh→Prop}
  (h:∀o,K ⟨eS ca (.bool (lt d[i]! d[j]!)) t,(.loc 0,D)::(S d.toList).b,(S d.toList).e,1,o⟩):cM az g (.int .i64 i:: .int .i64 j::lc) ⟨t,(.loc 0,D)::(S d.toList).b,(S d.toList).e,1,o⟩ ca K:=
 H.doLess (by simpa using J) i j (zg (by omega)) (zg (by omega)) (h _)
theorem e7.fnA{d d2:Array α}(J:d.size=n)(U:d2.size=n){f:Nat}{args:List ah}{r:ah}(aO:bC az f args (S d.toList) fun eg s'=>eg=r∧s'=S d2.toList)(ad:aN (inObs (S d.toList)) args){t:List (Nat×ah)}{D:List ah}{o:List aJ}{ca:Option Nat}{K:bh→Prop}
  (h:∀o,K ⟨eS ca r t,(.loc 0,D)::(S d2.toList).b,(S d2.toList).e,1,o⟩):cM az f args ⟨t,(.loc 0,D)::(S d.toList).b,(S d.toList).e,1,o⟩ ca K:=
 H.call (by simpa using J) (R:=fun eg l'=>eg=r∧l'=d2.toList) (aO.mono fun r s' ⟨ai,ax⟩=>⟨_,ax,ai,rfl⟩) (fun r l' ⟨_,e⟩=>by rw[e];simpa using U) ad (by rintro eg l' ⟨rfl,rfl⟩;exact h _)
end
section
variable (H:e7 S n g b5 lc b1 lt)
include H
theorem e7.loopA{β:Type}{yk:List α}(aq:yk.length=n){t:List (Nat×ah)}{b:List (aJ×List ah)}{e:List (aJ×fL)}{q:Nat}{o:List aJ}(b7:List Nat)(cs:β→List (Nat×ah))(A:β→Array α)(μ:β→Nat)(gQ:β→Prop)(a0:β)(ba:(A a0).size=n)(bD:gQ a0)
  (rM:Pv.look (.loc 0) b=some [.func g lc,.func b5 b1]) (ae:∀k cs,Pv.look k (S (A a0).toList).b=some cs→Pv.look k b=some cs) (he:∀k o,Pv.look k (S (A a0).toList).e=some o→Pv.look k e=some o)
  (aL:∀x∈uQ t b7++cs a0,Pv.get x.1 t=x.2∧aH (mf (S (A a0).toList) 1) x.2) {c:C} {Q:Exit→bh→Prop}
  (af:∀a,gQ a→c1 az (cZ (S yk)) c (bN (cZ (S yk)) (BI (fun a=>⟨uQ t b7++cs a,(.loc 0,[.func g lc,.func b5 b1])::(S (A a).toList).b,(S (A a).toList).e,1,cZ (S yk)⟩) μ gQ) (μ a) Q) ⟨uQ t b7++cs a,(.loc 0,[.func g lc,.func b5 b1])::(S (A a).toList).b,(S (A a).toList).e,1,cZ (S yk)⟩):
  c1 az (cZ (S yk)) (.loop c) Q ⟨t,b,e,q,o⟩:=
 ou (fun a=>⟨uQ t b7++cs a,(.loc 0,[.func g lc,.func b5 b1])::(S (A a).toList).b,(S (A a).toList).e,1,cZ (S yk)⟩) μ gQ a0 (H.weak aq (by simpa using ba) aL rM ae he) bD fun a ag _=>af a ag
theorem e7.callA0{lk:List α}(J:lk.length=n){f:Nat}{args:List ah}{R:ah→List α→Prop}(aO:bC az f args (S lk) fun r s'=> ∃l',s'=S l'∧R r l')(bH:∀r l',R r l'→l'.length=n)(ad:aN (inObs (S lk)) args){t:List (Nat×ah)}{D:List ah}{o:List aJ}{d:Option Nat}{K:bh→Prop}
  (h:∀r l',R r l'→∀o,K ⟨eS d r t,(.loc 0,D)::(S l').b,(S l').e,1,o⟩):cM az f args ⟨t,(S lk).b++[(.loc 0,D)],(S lk).e,1,o⟩ d K:=by
 refine cM.ob aO (H.ok lk) (fun k cs ab=>by rw[cH,ab]) (fun _ _ ab=>ab) ad ?_;rintro r s' ⟨l',rfl,aK⟩;refine⟨H.same _ _ J (bH _ _ aK),?_⟩;have ai:b0 (S lk).b ((S lk).b++[(.loc 0,D)])=[(.loc 0,D)]:=by rw[iG,gZ];simp[b0,H.loc]
 have ax:b0 (S lk).e (S lk).e=[]:=gZ _;have:=h _ _ aK (o++cZ (S l'));simp only[ai,ax];exact this
theorem e7.swapA0{d:Array α}(J:d.size=n)(U:2≤n)(i j:Nat)(hi:i<n)(ag:j<n){t:List (Nat×ah)}{D:List ah}{o:List aJ}{ca:Option Nat}{K:bh→Prop}
  (h:∀o,K ⟨eS ca (.tuple []) t,(.loc 0,D)::(S (Sort.swp d i j).toList).b,(S (Sort.swp d i j).toList).e,1,o⟩):cM az b5 (.int .i64 i:: .int .i64 j::b1) ⟨t,(S d.toList).b++[(.loc 0,D)],(S d.toList).e,1,o⟩ ca K:=by
 refine H.callA0 (by simpa using J) (R:=fun r l'=>r= .tuple []∧l'=(Sort.swp d i j).toList) ((H.swap d.toList (by simpa using J) U i j hi ag).mono fun r s' ⟨ai,ax⟩=>⟨_,ax,ai,GH d (by omega) (by omega)⟩) (fun r l' ⟨_,e⟩=>by rw[e];simp[Sort.swp,J]) (by simp[aH,aN,H.ksc d.toList (by simpa using J)]) ?_;rintro r l' ⟨rfl,rfl⟩ o;exact h o
theorem e7.retA{l:List α}{d:Array α}(aq:l.length=n)(J:d.size=n){Q:ah→cI→Prop}{e:Exit}(he:e= .ret∨e= .normal){t:List (Nat×ah)}{D:List ah}{q:Nat}{o:List aJ}(bu:Q (.tuple []) (S d.toList)):cJ [] (S l) Q e ⟨t,(.loc 0,D)::(S d.toList).b,(S d.toList).e,q,o⟩:=H.ret aq (by simpa using J) he bu
theorem e7.retR{eG:List bA}{l:List α}{d:Array α}(aq:l.length=n)(J:d.size=n){Q:ah→cI→Prop}{e:Exit}(he:e= .ret∨e= .normal){t:List (Nat×ah)}{D:List ah}{q:Nat}{o:List aJ}(h:cP ⟨t,(.loc 0,D)::(S d.toList).b,(S d.toList).e,q,o⟩ eG fun r=>aH (inObs (S d.toList)) r∧Q r (S d.toList)):cJ eG (S l) Q e ⟨t,(.loc 0,D)::(S d.toList).b,(S d.toList).e,q,o⟩:=by
 refine cJ.at (S d.toList) he (H.ok _) (H.same _ _ aq (by simpa using J)) (fun k cs ab=>?_) (fun _ _ ab=>ab) h;cases k with
 |loc m=>rw[H.loc m]at ab;cases ab
 |obj m=>simpa[Pv.look]using ab
end
theorem gM(d:Array α)(i j:Nat):(Sort.swp d i j).size=d.size:=by simp[Sort.swp]
end Go.Proofs.YtohaalphocaebaaGreat
namespace Go.Proofs.YtohaalphocaebaaGreat
open Go Go.Pv
def PU:C:=(aa [cc 2 0] (.seq (.cond (.c (.bool false)) (aa [I 3 0,bW 4 (.conv .u32 (.t 3)),cL 5 258 4,I 2 5] .ret) .skip) (aa [I 6 0,cL 7 259 6,I 2 7] .ret)))
@[simp] def akm:List bA:=[.tmp 2]
def I9:C:=(aa [aX 91 2 4,I 92 1,I 93 2,I 94 11,cT 95 267 [.t 91,.t 92,.t 93,.t 94],I 90 95,cd 96 0 90,cd 97 1 90,I 14 96,I 15 97] (aa [I 98 15,I 9 98] (aa [I 99 14,I 100 1,br 101 .sub 99 100,I 102 2,I 103 14,br 104 .sub 102 103,I 16 101,I 17 104] (aa [I 105 10,aU 106 .quo 105 8,I 18 106] (aa [I 107 16,I 108 17,br 109 .lss 107 108] (aZ 109 (aa [I 110 16,I 111 18,br 112 .geq 110 111,I 8 112] (aa [aX 113 2 4,I 114 1,I 115 14,I 116 3,cT 117 210 [.t 113,.t 114,.t 115,.t 116]] (.region [I 118 14,aU 119 .add 118 1,I 1 119]))) (aa [I 120 17,I 121 18,br 122 .geq 120 121,I 8 122] (aa [aX 123 2 4,I 124 14,aU 125 .add 124 1,I 126 2,I 127 3,cT 128 210 [.t 123,.t 125,.t 126,.t 127]] (.region [I 129 14,I 2 129])))))))))
def BZ:C:=(.seq (aa [I 73 1,aU 74 .gtr 73 0,I 75 74,al 75 true (aF 76 0 1 4),al 75 true (aw 77 1 76),bZ 75 true 78 1,al 75 true (aU 79 .sub 78 1),bZ 75 true 80 11,al 75 true (gK 81 77 [.t 79,.t 80]),al 75 true (ct 82 81),dv 83 75 82] (aZ 83 (aa [aX 84 2 4,I 85 1,I 86 2,I 87 11,cT 88 266 [.t 84,.t 85,.t 86,.t 87],I 13 88] (aa [I 89 13,I 1 89] (.exit 1))) .skip)) I9)
def Ja:C:=(.seq (aa [I 61 8,I 62 61,bZ 62 true 63 9,dv 64 62 63,I 65 64,bZ 65 true 66 12,al 65 true (aU 67 .eql 66 1),dv 68 65 67] (aZ 68 (aa [aX 69 2 4,I 70 1,I 71 2,cT 72 265 [.t 69,.t 70,.t 71]] (aZ 72 .ret .skip)) .skip)) BZ)
def Jb:C:=(aa [aX 43 2 4,I 44 1,I 45 2,cT 46 263 [.t 43,.t 44,.t 45],I 42 46,cd 47 0 42,cd 48 1 42,I 11 47,I 12 48] (.seq (aa [I 49 12,aU 50 .eql 49 2] (aZ 50 (aa [aX 51 2 4,I 52 1,I 53 2,cT 54 264 [.t 51,.t 52,.t 53]] (aa [I 55 2,aU 56 .sub 55 1,I 57 11,I 58 1,br 59 .sub 57 58,br 60 .sub 56 59,I 11 60] (.region [cc 12 1]))) .skip)) Ja))
def P7:C:=(aa [cO 4 0] (aa [bj 8 true] (aa [bj 9 true] (.block 0 (.loop (.block 1 (aa [I 19 2,I 20 1,br 21 .sub 19 20,I 10 21] (.seq (aa [I 22 10,aU 23 .leq 22 12] (aZ 23 (aa [aX 24 2 4,I 25 1,I 26 2,cT 27 260 [.t 24,.t 25,.t 26]] .ret) .skip)) (.seq (aa [I 28 3,aU 29 .eql 28 0] (aZ 29 (aa [aX 30 2 4,I 31 1,I 32 2,cT 33 261 [.t 30,.t 31,.t 32]] .ret) .skip)) (.seq (aa [I 34 8,ct 35 34] (aZ 35 (aa [aX 36 2 4,I 37 1,I 38 2,cT 39 262 [.t 36,.t 37,.t 38]] (.region [I 40 3,aU 41 .sub 40 1,I 3 41])) .skip)) Jb))))))))))
@[simp] def Wu:List bA:=[]
@[simp] def aqN:List bA:=[.tmp 2]
def PV:C:=(aa [cc 2 0] (.seq (aa [I 3 0,bW 4 (.bin .geq false (.t 3) (.c (.int .u64 4294967296)))] (aZ 4 (aa [I 5 0,bW 6 (.bin .shr false (.t 5) (.c (.int .u64 32))),I 0 6] (.region [cc 2 32])) .skip)) (.seq (aa [I 7 0,bW 8 (.bin .geq false (.t 7) (.c (.int .u64 65536)))] (aZ 8 (aa [I 9 0,bW 10 (.bin .shr false (.t 9) (.c (.int .u64 16))),I 0 10] (.region [I 11 2,aU 12 .add 11 16,I 2 12])) .skip)) (.seq (aa [I 13 0,bW 14 (.bin .geq false (.t 13) (.c (.int .u64 256)))] (aZ 14 (aa [I 15 0,bW 16 (.bin .shr false (.t 15) (.c (.int .u64 8))),I 0 16] (.region [I 17 2,aU 18 .add 17 8,I 2 18])) .skip)) (aa [I 19 2,I 20 0,bW 21 (.conv .u8 (.t 20)),bW 22 (.sidx (.c (.str [0,1,2,2,3,3,3,3,4,4,4,4,4,4,4,4,5,5,5,5,5,5,5,5,5,5,5,5,5,5,5,5,6,6,6,6,6,6,6,6,6,6,6,6,6,6,6,6,6,6,6,6,6,6,6,6,6,6,6,6,6,6,6,6,7,7,7,7,7,7,7,7,7,7,7,7,7,7,7,7,7,7,7,7,7,7,7,7,7,7,7,7,7,7,7,7,7,7,7,7,7,7,7,7,7,7,7,7,7,7,7,7,7,7,7,7,7,7,7,7,7,7,7,7,7,7,7,7,8,8,8,8,8,8,8,8,8,8,8,8,8,8,8,8,8,8,8,8,8,8,8,8,8,8,8,8,8,8,8,8,8,8,8,8,8,8,8,8,8,8,8,8,8,8,8,8,8,8,8,8,8,8,8,8,8,8,8,8,8,8,8,8,8,8,8,8,8,8,8,8,8,8,8,8,8,8,8,8,8,8,8,8,8,8,8,8,8,8,8,8,8,8,8,8,8,8,8,8,8,8,8,8,8,8,8,8,8,8,8,8,8,8,8,8,8,8,8,8,8,8,8,8,8,8,8,8])) (.t 21)),bW 23 (.conv .i64 (.t 22)),br 24 .add 19 23,I 2 24] .ret)))))
@[simp] def A9:List bA:=[.tmp 2]
def PZ:C:=(aa [cO 3 0] (aa [I 11 1,I 6 11] (aa [cc 7 0] (aa [I 12 2,I 13 1,br 14 .sub 12 13,I 8 14] (.seq (aa [I 15 8,aU 16 .sub 15 1,aU 17 .quo 16 2,I 9 17] (.block 0 (.loop (.seq (aa [I 18 9,aU 19 .geq 18 0] (aZ 19 .skip (.exit 0))) (.seq (.block 1 (.region [aX 22 2 3,I 23 9,I 24 8,I 25 6,cT 26 278 [.t 22,.t 23,.t 24,.t 25]])) (.region [I 20 9,aU 21 .sub 20 1,I 9 21])))))) (aa [I 27 8,aU 28 .sub 27 1,I 10 28] (.block 2 (.loop (.seq (aa [I 29 10,aU 30 .geq 29 0] (aZ 30 .skip (.exit 2))) (.seq (.block 3 (aa [aF 33 1 1 3,aw 34 1 33,I 35 6,I 36 6,I 37 10,br 38 .add 36 37,gK 39 34 [.t 35,.t 38]] (.region [aX 40 2 3,I 41 7,I 42 10,I 43 6,cT 44 278 [.t 40,.t 41,.t 42,.t 43]]))) (.region [I 31 10,aU 32 .sub 31 1,I 10 32])))))))))))
@[simp] def akn:List bA:=[]
def PX:C:=(aa [cO 3 0] (aa [I 11 2,I 12 1,br 13 .sub 11 12,I 6 13] (aa [I 14 6,aU 15 .geq 14 8] (aZ 15 (aa [I 16 6,bW 17 (.conv .u64 (.t 16)),c0 (.alloc 7 (some 902) (.int .u64 0)),bz 1 7 17] (aa [I 18 6,cL 19 279 18,I 8 19] (aa [I 20 1,I 21 6,aU 22 .quo 21 4,aU 23 .mul 22 2,br 24 .add 20 23,aU 25 .sub 24 1,I 9 25] (.block 0 (.loop (.seq (aa [I 26 9,I 27 1,I 28 6,aU 29 .quo 28 4,aU 30 .mul 29 2,br 31 .add 27 30,aU 32 .add 31 1,br 33 .leq 26 32] (aZ 33 .skip (.exit 0))) (.seq (.block 1 (aa [cL 36 280 7,I 37 8,bW 38 (.bin .sub true (.t 37) (.c (.int .u64 1))),br 39 .and 36 38,bW 40 (.conv .i64 (.t 39)),I 10 40] (.seq (aa [I 41 10,I 42 6,br 43 .geq 41 42] (aZ 43 (.region [I 44 10,I 45 6,br 46 .sub 44 45,I 10 46]) .skip)) (.region [aF 47 1 1 3,aw 48 1 47,I 49 9,I 50 1,I 51 10,br 52 .add 50 51,gK 53 48 [.t 49,.t 52]])))) (.region [I 34 9,aU 35 .add 34 1,I 9 35])))))))) .skip))))
@[simp] def Wq:List bA:=[]
def PY:C:=(aa [cO 3 0,cc 6 0,cc 7 0] (aa [I 13 2,I 14 1,br 15 .sub 13 14,I 8 15] (aa [c0 (.alloc 9 (some 901) (.int .i64 0))] (aa [I 16 1,I 17 8,aU 18 .quo 17 4,aU 19 .mul 18 1,br 20 .add 16 19,I 10 20] (aa [I 21 1,I 22 8,aU 23 .quo 22 4,aU 24 .mul 23 2,br 25 .add 21 24,I 11 25] (aa [I 26 1,I 27 8,aU 28 .quo 27 4,aU 29 .mul 28 3,br 30 .add 26 29,I 12 30] (.seq (aa [I 31 8,aU 32 .geq 31 8] (aZ 32 (.seq (aa [I 33 8,aU 34 .geq 33 50] (aZ 34 (aa [aX 35 2 3,I 36 10,cT 37 281 [.t 35,.t 36,.t 9],I 10 37] (aa [aX 38 2 3,I 39 11,cT 40 281 [.t 38,.t 39,.t 9],I 11 40] (.region [aX 41 2 3,I 42 12,cT 43 281 [.t 41,.t 42,.t 9],I 12 43]))) .skip)) (.region [aX 44 2 3,I 45 10,I 46 11,I 47 12,cT 48 282 [.t 44,.t 45,.t 46,.t 47,.t 9],I 11 48])) .skip)) (aa [aw 49 1 9] (.block 0 (aa [aU 52 .eql 49 0,I 51 52] (aZ 51 (aa [I 53 11,I 6 53,cc 7 1] .ret) (aa [aU 55 .eql 49 12,I 54 55] (aZ 54 (aa [I 56 11,I 6 56,cc 7 2] .ret) (aa [I 50 11,I 6 50,cc 7 0] .ret))))))))))))))
@[simp] def MH:List bA:=[.tmp 6,.tmp 7]
def P8:C:=(aa [cO 3 0] (aa [I 8 1,I 6 8] (aa [I 9 2,aU 10 .sub 9 1,I 7 10] (.block 0 (.loop (.seq (aa [I 11 6,I 12 7,br 13 .lss 11 12] (aZ 13 .skip (.exit 0))) (.block 1 (aa [aF 14 1 1 3,aw 15 1 14,I 16 6,I 17 7,gK 18 15 [.t 16,.t 17]] (aa [I 19 6,aU 20 .add 19 1,I 6 20] (.region [I 21 7,aU 22 .sub 21 1,I 7 22]))))))))))
@[simp] def akp:List bA:=[]
def P4:C:=(aa [cO 3 0,bj 6 false] (aa [I 11 1,aU 12 .add 11 1,I 7 12] (.seq (aa [cc 8 0] (.block 0 (.loop (.seq (aa [I 13 8,aU 14 .lss 13 5] (aZ 14 .skip (.exit 0))) (.seq (.block 1 (.seq (.block 2 (.loop (.seq (aa [I 17 7,I 18 2,br 19 .lss 17 18,I 20 19,al 20 true (aF 21 0 1 3),al 20 true (aw 22 1 21),bZ 20 true 23 7,bZ 20 true 24 7,al 20 true (aU 25 .sub 24 1),al 20 true (gK 26 22 [.t 23,.t 25]),al 20 true (ct 27 26),dv 28 20 27] (aZ 28 .skip (.exit 2))) (.block 3 (.region [I 29 7,aU 30 .add 29 1,I 7 30]))))) (.seq (aa [I 31 7,I 32 2,br 33 .eql 31 32] (aZ 33 (aa [bj 6 true] .ret) .skip)) (.seq (aa [I 34 2,I 35 1,br 36 .sub 34 35,aU 37 .lss 36 50] (aZ 37 (aa [bj 6 false] .ret) .skip)) (aa [aF 38 1 1 3,aw 39 1 38,I 40 7,I 41 7,aU 42 .sub 41 1,gK 43 39 [.t 40,.t 42]] (.seq (aa [I 44 7,I 45 1,br 46 .sub 44 45,aU 47 .geq 46 2] (aZ 47 (aa [I 48 7,aU 49 .sub 48 1,I 9 49] (.block 4 (.loop (.seq (aa [I 50 9,aU 51 .geq 50 1] (aZ 51 .skip (.exit 4))) (.seq (.block 5 (.seq (aa [aF 54 0 1 3,aw 55 1 54,I 56 9,I 57 9,aU 58 .sub 57 1,gK 59 55 [.t 56,.t 58],ct 60 59] (aZ 60 (.exit 4) .skip)) (.region [aF 61 1 1 3,aw 62 1 61,I 63 9,I 64 9,aU 65 .sub 64 1,gK 66 62 [.t 63,.t 65]]))) (.region [I 52 9,aU 53 .sub 52 1,I 9 53])))))) .skip)) (aa [I 67 2,I 68 7,br 69 .sub 67 68,aU 70 .geq 69 2] (aZ 70 (aa [I 71 7,aU 72 .add 71 1,I 10 72] (.block 6 (.loop (.seq (aa [I 73 10,I 74 2,br 75 .lss 73 74] (aZ 75 .skip (.exit 6))) (.seq (.block 7 (.seq (aa [aF 78 0 1 3,aw 79 1 78,I 80 10,I 81 10,aU 82 .sub 81 1,gK 83 79 [.t 80,.t 82],ct 84 83] (aZ 84 (.exit 6) .skip)) (.region [aF 85 1 1 3,aw 86 1 85,I 87 10,I 88 10,aU 89 .sub 88 1,gK 90 86 [.t 87,.t 89]]))) (.region [I 76 10,aU 77 .add 76 1,I 10 77])))))) .skip)))))))) (.region [I 15 8,aU 16 .add 15 1,I 8 16])))))) (aa [bj 6 false] .ret))))
@[simp] def Hj:List bA:=[.tmp 6]
def P5:C:=(aa [cO 4 0,cc 8 0] (aa [aF 11 1 1 4,aw 12 1 11,I 13 1,I 14 3,gK 15 12 [.t 13,.t 14]] (aa [I 16 1,aU 17 .add 16 1,I 18 2,aU 19 .sub 18 1,I 9 17,I 10 19] (.seq (.block 0 (.loop (.block 1 (.seq (.block 2 (.loop (.seq (aa [I 20 9,I 21 10,br 22 .leq 20 21,I 23 22,al 23 true (aF 24 0 1 4),al 23 true (aw 25 1 24),bZ 23 true 26 1,bZ 23 true 27 9,al 23 true (gK 28 25 [.t 26,.t 27]),al 23 true (ct 29 28),dv 30 23 29] (aZ 30 .skip (.exit 2))) (.block 3 (.region [I 31 9,aU 32 .add 31 1,I 9 32]))))) (.seq (.block 4 (.loop (.seq (aa [I 33 9,I 34 10,br 35 .leq 33 34,I 36 35,al 36 true (aF 37 0 1 4),al 36 true (aw 38 1 37),bZ 36 true 39 1,bZ 36 true 40 10,al 36 true (gK 41 38 [.t 39,.t 40]),dv 42 36 41] (aZ 42 .skip (.exit 4))) (.block 5 (.region [I 43 10,aU 44 .sub 43 1,I 10 44]))))) (.seq (aa [I 45 9,I 46 10,br 47 .gtr 45 46] (aZ 47 (.exit 0) .skip)) (aa [aF 48 1 1 4,aw 49 1 48,I 50 9,I 51 10,gK 52 49 [.t 50,.t 51]] (aa [I 53 9,aU 54 .add 53 1,I 9 54] (.region [I 55 10,aU 56 .sub 55 1,I 10 56]))))))))) (aa [I 57 9,I 8 57] .ret)))))
@[simp] def MJ:List bA:=[.tmp 8]
def P6:C:=(aa [cO 4 0,cc 8 0,bj 9 false] (aa [aF 12 1 1 4,aw 13 1 12,I 14 1,I 15 3,gK 16 13 [.t 14,.t 15]] (aa [I 17 1,aU 18 .add 17 1,I 19 2,aU 20 .sub 19 1,I 10 18,I 11 20] (.seq (.block 0 (.loop (.seq (aa [I 21 10,I 22 11,br 23 .leq 21 22,I 24 23,al 24 true (aF 25 0 1 4),al 24 true (aw 26 1 25),bZ 24 true 27 10,bZ 24 true 28 1,al 24 true (gK 29 26 [.t 27,.t 28]),dv 30 24 29] (aZ 30 .skip (.exit 0))) (.block 1 (.region [I 31 10,aU 32 .add 31 1,I 10 32]))))) (.seq (.block 2 (.loop (.seq (aa [I 33 10,I 34 11,br 35 .leq 33 34,I 36 35,al 36 true (aF 37 0 1 4),al 36 true (aw 38 1 37),bZ 36 true 39 11,bZ 36 true 40 1,al 36 true (gK 41 38 [.t 39,.t 40]),al 36 true (ct 42 41),dv 43 36 42] (aZ 43 .skip (.exit 2))) (.block 3 (.region [I 44 11,aU 45 .sub 44 1,I 11 45]))))) (.seq (aa [I 46 10,I 47 11,br 48 .gtr 46 47] (aZ 48 (aa [aF 49 1 1 4,aw 50 1 49,I 51 11,I 52 1,gK 53 50 [.t 51,.t 52]] (aa [I 54 11,I 8 54,bj 9 true] .ret)) .skip)) (aa [aF 55 1 1 4,aw 56 1 55,I 57 10,I 58 11,gK 59 56 [.t 57,.t 58]] (aa [I 60 10,aU 61 .add 60 1,I 10 61] (aa [I 62 11,aU 63 .sub 62 1,I 11 63] (.seq (.block 4 (.loop (.block 5 (.seq (.block 6 (.loop (.seq (aa [I 64 10,I 65 11,br 66 .leq 64 65,I 67 66,al 67 true (aF 68 0 1 4),al 67 true (aw 69 1 68),bZ 67 true 70 10,bZ 67 true 71 1,al 67 true (gK 72 69 [.t 70,.t 71]),dv 73 67 72] (aZ 73 .skip (.exit 6))) (.block 7 (.region [I 74 10,aU 75 .add 74 1,I 10 75]))))) (.seq (.block 8 (.loop (.seq (aa [I 76 10,I 77 11,br 78 .leq 76 77,I 79 78,al 79 true (aF 80 0 1 4),al 79 true (aw 81 1 80),bZ 79 true 82 11,bZ 79 true 83 1,al 79 true (gK 84 81 [.t 82,.t 83]),al 79 true (ct 85 84),dv 86 79 85] (aZ 86 .skip (.exit 8))) (.block 9 (.region [I 87 11,aU 88 .sub 87 1,I 11 88]))))) (.seq (aa [I 89 10,I 90 11,br 91 .gtr 89 90] (aZ 91 (.exit 4) .skip)) (aa [aF 92 1 1 4,aw 93 1 92,I 94 10,I 95 11,gK 96 93 [.t 94,.t 95]] (aa [I 97 10,aU 98 .add 97 1,I 10 98] (.region [I 99 11,aU 100 .sub 99 1,I 11 100]))))))))) (aa [aF 101 1 1 4,aw 102 1 101,I 103 11,I 104 1,gK 105 102 [.t 103,.t 104]] (aa [I 106 11,I 8 106,bj 9 false] .ret))))))))))))
@[simp] def DK:List bA:=[.tmp 8,.tmp 9]
def Qa:C:=(aa [cO 4 0] (aa [I 10 1,I 8 10] (.block 0 (.loop (.block 1 (aa [I 11 8,bW 12 (.bin .mul false (dN 2) (.t 11)),aU 13 .add 12 1,I 9 13] (.seq (aa [I 14 9,I 15 2,br 16 .geq 14 15] (aZ 16 (.exit 0) .skip)) (.seq (aa [I 17 9,aU 18 .add 17 1,I 19 2,br 20 .lss 18 19,I 21 20,al 21 true (aF 22 0 1 4),al 21 true (aw 23 1 22),bZ 21 true 24 3,bZ 21 true 25 9,al 21 true (br 26 .add 24 25),bZ 21 true 27 3,bZ 21 true 28 9,al 21 true (br 29 .add 27 28),al 21 true (aU 30 .add 29 1),al 21 true (gK 31 23 [.t 26,.t 30]),dv 32 21 31] (aZ 32 (.region [I 33 9,aU 34 .add 33 1,I 9 34]) .skip)) (.seq (aa [aF 35 0 1 4,aw 36 1 35,I 37 3,I 38 8,br 39 .add 37 38,I 40 3,I 41 9,br 42 .add 40 41,gK 43 36 [.t 39,.t 42],ct 44 43] (aZ 44 .ret .skip)) (aa [aF 45 1 1 4,aw 46 1 45,I 47 3,I 48 8,br 49 .add 47 48,I 50 3,I 51 9,br 52 .add 50 51,gK 53 46 [.t 49,.t 52]] (.region [I 54 9,I 8 54])))))))))))
@[simp] def akr:List bA:=[]
def P2:C:=(aa [bW 2 (.mov (.c (.int .u64 0)))] (aa [I 4 0,bW 5 (.conv .u64 (.t 4)),cL 6 209 5,bW 7 (.conv .u64 (.t 6)),I 3 7] (aa [I 8 3,bW 9 (.bin .shl false (.c (.int .u64 1)) (.t 8)),I 2 9] .ret)))
@[simp] def Wt:List bA:=[.tmp 2]
def Qe:C:=(aa [bW 2 (.mov (.c (.int .u64 0)))] (.seq (.drawn true 33 [I 3 0,eI 4 3,aw 5 1 4,I 6 0,eI 7 6,aw 8 1 7,bW 9 (.bin .shl false (.t 8) (.c (.int .u64 13))),br 10 .xor 5 9,eI 11 3,bz 1 11 10]) (.seq (.drawn true 33 [I 12 0,eI 13 12,aw 14 1 13,I 15 0,eI 16 15,aw 17 1 16,bW 18 (.bin .shr false (.t 17) (.c (.int .u64 7))),br 19 .xor 14 18,eI 20 12,bz 1 20 19]) (.seq (.drawn true 33 [I 21 0,eI 22 21,aw 23 1 22,I 24 0,eI 25 24,aw 26 1 25,bW 27 (.bin .shl false (.t 26) (.c (.int .u64 17))),br 28 .xor 23 27,eI 29 21,bz 1 29 28]) (aa [I 30 0,eI 31 30,aw 32 1 31,I 2 32] .ret)))))
@[simp] def Ww:List bA:=[.tmp 2]
def P0:C:=(aa [cO 3 0,cc 6 0] (aa [aX 7 2 3,I 8 1,aU 9 .sub 8 1,I 10 1,I 11 1,aU 12 .add 11 1,I 13 2,cT 14 282 [.t 7,.t 9,.t 10,.t 12,.t 13],I 6 14] .ret))
@[simp] def Wr:List bA:=[.tmp 6]
def P1:C:=(aa [cO 5 0,cc 10 0] (aa [aX 12 2 5,I 13 1,I 14 2,I 15 4,cT 16 285 [.t 12,.t 13,.t 14,.t 15],I 11 16,cd 17 0 11,cd 18 1 11,I 1 17,I 2 18] (aa [aX 20 2 5,I 21 2,I 22 3,I 23 4,cT 24 285 [.t 20,.t 21,.t 22,.t 23],I 19 24,cd 25 0 19,cd 26 1 19,I 2 25,I 3 26] (aa [aX 28 2 5,I 29 1,I 30 2,I 31 4,cT 32 285 [.t 28,.t 29,.t 30,.t 31],I 27 32,cd 33 0 27,cd 34 1 27,I 1 33,I 2 34] (aa [I 35 2,I 10 35] .ret)))))
@[simp] def Ws:List bA:=[.tmp 10]
def P3:C:=(aa [cO 4 0,cc 8 0,cc 9 0] (.seq (aa [aF 10 0 1 4,aw 11 1 10,I 12 2,I 13 1,gK 14 11 [.t 12,.t 13]] (aZ 14 (aa [I 15 3,eI 16 15,aw 17 1 16,aU 18 .add 17 1,eI 19 15,bz 1 19 18] (aa [I 20 2,I 21 1,I 8 20,I 9 21] .ret)) .skip)) (aa [I 22 1,I 23 2,I 8 22,I 9 23] .ret)))
@[simp] def MI:List bA:=[.tmp 8,.tmp 9]
def nC:List (Nat×dx):=[
 (3,⟨1,8,.int .i64,.int .i64 0⟩),
 (5,⟨1,1,.int .u8,.int .u8 0⟩),
 (9,⟨1,16,.str,.str []⟩),
 (160,⟨1,8,.other,.junk⟩),
 (163,⟨1,8,.int .u64,.int .u64 0⟩),
 (216,⟨1,8,.other,.junk⟩),
 (222,⟨2,16,.struct [(0,160),(1,216)],.agg [.junk,.junk]⟩),
 (254,⟨1,4,.int .u32,.int .u32 0⟩),
 (256,⟨1,8,.int .u64,.int .u64 0⟩),
 (265,⟨1,8,.int .u64,.int .u64 0⟩)]
theorem n3:fP az nC=true:=by kernel_rfl
theorem aiC:b4 nC PU akm 1 Tryz.f209=true:=by kernel_rfl
theorem abR:az.funcs[(209:Nat)]? =some Tryz.f209:=Tryz.func209
theorem aiP:b4 nC P7 Wu 4 Tryz.f210=true:=by kernel_rfl
theorem ab4:az.funcs[(210:Nat)]? =some Tryz.f210:=Tryz.func210
theorem aiD:b4 nC PV A9 1 Tryz.f259=true:=by kernel_rfl
theorem abS:az.funcs[(259:Nat)]? =some Tryz.f259:=Tryz.func259
theorem aiH:b4 nC PZ akn 3 Tryz.f261=true:=by kernel_rfl
theorem abW:az.funcs[(261:Nat)]? =some Tryz.f261:=Tryz.func261
theorem aiF:b4 nC PX Wq 3 Tryz.f262=true:=by kernel_rfl
theorem abU:az.funcs[(262:Nat)]? =some Tryz.f262:=Tryz.func262
theorem aiG:b4 nC PY MH 3 Tryz.f263=true:=by kernel_rfl
theorem abV:az.funcs[(263:Nat)]? =some Tryz.f263:=Tryz.func263
theorem aiQ:b4 nC P8 akp 3 Tryz.f264=true:=by kernel_rfl
theorem ab5:az.funcs[(264:Nat)]? =some Tryz.f264:=Tryz.func264
theorem aiM:b4 nC P4 Hj 3 Tryz.f265=true:=by kernel_rfl
theorem ab1:az.funcs[(265:Nat)]? =some Tryz.f265:=Tryz.func265
theorem aiN:b4 nC P5 MJ 4 Tryz.f266=true:=by kernel_rfl
theorem ab2:az.funcs[(266:Nat)]? =some Tryz.f266:=Tryz.func266
theorem aiO:b4 nC P6 DK 4 Tryz.f267=true:=by kernel_rfl
theorem ab3:az.funcs[(267:Nat)]? =some Tryz.f267:=Tryz.func267
theorem aiS:b4 nC Qa akr 4 Tryz.f278=true:=by kernel_rfl
theorem ab7:az.funcs[(278:Nat)]? =some Tryz.f278:=Tryz.func278
theorem aiK:b4 nC P2 Wt 1 Tryz.f279=true:=by kernel_rfl
theorem abZ:az.funcs[(279:Nat)]? =some Tryz.f279:=Tryz.func279
theorem aiW:b4 nC Qe Ww 1 Tryz.f280=true:=by kernel_rfl
theorem acb:az.funcs[(280:Nat)]? =some Tryz.f280:=Tryz.func280
theorem aiI:b4 nC P0 Wr 3 Tryz.f281=true:=by kernel_rfl
theorem abX:az.funcs[(281:Nat)]? =some Tryz.f281:=Tryz.func281
theorem aiJ:b4 nC P1 Ws 5 Tryz.f282=true:=by kernel_rfl
theorem abY:az.funcs[(282:Nat)]? =some Tryz.f282:=Tryz.func282
theorem aiL:b4 nC P3 MI 4 Tryz.f285=true:=by kernel_rfl
theorem ab0:az.funcs[(285:Nat)]? =some Tryz.f285:=Tryz.func285
end Go.Proofs.YtohaalphocaebaaGreat
namespace Go.Proofs.YtohaalphocaebaaGreat
open Go Go.Pv
variable {α:Type} [Inhabited α] {S:List α→cI} {n g b5:Nat} {lc b1:List ah} {lt:α→α→Bool}
theorem Si(H:e7 S n g b5 lc b1 lt)(d:Array α)(aE:d.size=n)(lo hi first:Nat)(J:first+hi≤n)(U:2≤n)(ao:lo≤n):
  bC az 278 [eY g b5 lc b1,.int .i64 lo,.int .i64 hi,.int .i64 first] (S d.toList) fun r s'=>r= .tuple []∧∃ca,s'=S ca.toList∧ca=Sort.siftDown lt hi first lo d∧ca.size=n:=by
 have af:=H.ok d.toList;have aq:d.toList.length=n:=by simpa using aE
 have au:∀l m,Pv.look (.loc m) (S l).b=none:=fun l=>(H.ok l).obj.1;have hu:∀l m cs,cu (.loc m) cs (S l).b=(S l).b++[(.loc m,cs)]:=fun l m cs=>j4 (au l m);have av:∀m,aJ.loc m∉cZ (S d.toList):=j0 af.obj;have hle:=H.le;refine bC.mk mixed n3 ab7 aiS (by simp) af.obj fun aP cF=>?_;unfold Qa;simp[eY,hu,av,cH,au];refine H.loopA aq [2,3,4] (fun(x:Nat×Array α)=>[(8,.int .i64 x.1)]) (·.2) (fun x=>hi-x.1) (fun x=>x.2.size=n∧x.1≤n∧Sort.siftDown lt hi first x.1 x.2=Sort.siftDown lt hi first lo d) (lo,d) aE ⟨aE,ao,rfl⟩ (by simp[cH,au]) aG aG (by simp[aH]) ?_;rintro⟨root,ch⟩ ⟨aS,bc,bT⟩;simp only at aS bc bT;have ai:((first:Int)+(2*root+1))=(first+(2*root+1):Nat):=by omega
 have ax:(((first+(2*root+1):Nat):Int)+1)=(first+(2*root+1)+1:Nat):=by omega
 have bn:((first:Int)+root)=(first+root:Nat):=by omega
 have dp:((first:Int)+(2*root+1+1))=(first+(2*root+2):Nat):=by omega
 simp[Pv.look,H.slc,H.ssc];(with_reducible repeat' first|((first|apply bG|apply bL|apply bK)<;>intro h<;>try simp at h)|refine aj ?_|simp[Pv.look,H.slc,H.ssc])
 ·rw[Sort.siftDown,dif_pos (by omega)]at bT;exact H.retA aq aS (.inr rfl) ⟨rfl,ch,rfl,bT,aS⟩
 ·rw[Sort.siftDown,dif_neg (by omega)]at bT;rw[ai,ax];refine H.lessA aS _ _ (by omega) (by omega) fun o=>?_;have ar:decide (2*root+1+1<hi)=true:=by simp;omega
  cases ab:lt ch[first+(2*root+1)]! ch[first+(2*root+1)+1]! with
  |true=>
   rw[if_pos (by rw[ar,ab];rfl)]at bT;simp;(with_reducible repeat' first|refine aj ?_|simp[Pv.look,H.slc,H.ssc]);rw[bn,dp];refine H.lessA aS _ _ (by omega) (by omega) fun o=>?_;cases aD:lt ch[first+root]! ch[first+(2*root+2)]! with
   |true=>rw[if_neg (by simp[aD]),dif_pos (by omega)]at bT;simp;(with_reducible repeat' first|refine aj ?_|simp[Pv.look,H.slc,H.ssc]);rw[bn,dp];refine H.swapA aS U _ _ (by omega) (by omega) fun o=>?_;simp;(with_reducible repeat' first|refine aj ?_|simp);refine bN.whl (2*root+2,Sort.swp ch (first+root) (first+(2*root+2))) (by simp;omega) ⟨by rw[gM,aS],by simp;omega,bT⟩ (H.weakC aq (by simp[gM,aS]) (by simp[aH];omega))
   |false=>rw[if_pos (by simp[aD])]at bT;simp;(with_reducible repeat' first|refine aj ?_|simp);all_goals exact H.retA aq aS (.inl rfl) ⟨rfl,ch,rfl,bT,aS⟩
  |false=>
   rw[if_neg (by simp[ab])]at bT;simp;(with_reducible repeat' first|refine aj ?_|simp[Pv.look,H.slc,H.ssc]);rw[bn,ai];refine H.lessA aS _ _ (by omega) (by omega) fun o=>?_;cases aD:lt ch[first+root]! ch[first+(2*root+1)]! with
   |true=>rw[if_neg (by simp[aD])]at bT;simp;(with_reducible repeat' first|refine aj ?_|simp[Pv.look,H.slc,H.ssc]);rw[bn,ai];refine H.swapA aS U _ _ (by omega) (by omega) fun o=>?_;simp;(with_reducible repeat' first|refine aj ?_|simp);refine bN.whl (2*root+1,Sort.swp ch (first+root) (first+(2*root+1))) (by simp;omega) ⟨by rw[gM,aS],by simp;omega,bT⟩ (H.weakC aq (by simp[gM,aS]) (by simp[aH]))
   |false=>rw[if_pos (by simp[aD])]at bT;simp;(with_reducible repeat' first|refine aj ?_|simp);all_goals exact H.retA aq aS (.inl rfl) ⟨rfl,ch,rfl,bT,aS⟩
 ·rw[Sort.siftDown,dif_neg (by omega)]at bT;have ar:decide (2*root+1+1<hi)=false:=by simp;omega
  rw[if_neg (by rw[ar];simp)]at bT;rw[bn,ai];refine H.lessA aS _ _ (by omega) (by omega) fun o=>?_;cases aD:lt ch[first+root]! ch[first+(2*root+1)]! with
  |true=>rw[if_neg (by simp[aD])]at bT;simp;(with_reducible repeat' first|refine aj ?_|simp[Pv.look,H.slc,H.ssc]);rw[bn,ai];refine H.swapA aS U _ _ (by omega) (by omega) fun o=>?_;simp;(with_reducible repeat' first|refine aj ?_|simp);refine bN.whl (2*root+1,Sort.swp ch (first+root) (first+(2*root+1))) (by simp;omega) ⟨by rw[gM,aS],by simp;omega,bT⟩ (H.weakC aq (by simp[gM,aS]) (by simp[aH]))
  |false=>rw[if_pos (by simp[aD])]at bT;simp;(with_reducible repeat' first|refine aj ?_|simp);all_goals exact H.retA aq aS (.inl rfl) ⟨rfl,ch,rfl,bT,aS⟩
theorem adI(H:e7 S n g b5 lc b1 lt)(d:Array α)(aE:d.size=n)(a b:Nat)(ng:a<b)(ae:b≤n)(U:2≤n):
  bC az 264 [eY g b5 lc b1,.int .i64 a,.int .i64 b] (S d.toList) fun r s'=>r= .tuple []∧∃ca,s'=S ca.toList∧ca=Sort.reverseRange d a b∧ca.size=n:=by
 have af:=H.ok d.toList;have aq:d.toList.length=n:=by simpa using aE
 have au:∀l m,Pv.look (.loc m) (S l).b=none:=fun l=>(H.ok l).obj.1;have hu:∀l m cs,cu (.loc m) cs (S l).b=(S l).b++[(.loc m,cs)]:=fun l m cs=>j4 (au l m);have av:∀m,aJ.loc m∉cZ (S d.toList):=j0 af.obj;have hle:=H.le;refine bC.mk mixed n3 ab5 aiQ (by simp) af.obj fun aP cF=>?_;unfold P8;simp[eY,hu,av,cH,au];have pQ:((b:Int)-1)=(b-1:Nat):=by omega
 (with_reducible repeat' first|refine aj ?_|simp[hu,av,cH,au]);rw[pQ];refine H.loopA aq [3] (fun(x:(Nat×Nat)×Array α)=>[(6,.int .i64 x.1.1),(7,.int .i64 x.1.2)]) (·.2) (fun x=>x.1.2+1-x.1.1) (fun x=>x.2.size=n∧x.1.2<n∧Sort.reverseLoop x.1.1 x.1.2 x.2=Sort.reverseRange d a b) ((a,b-1),d) aE ⟨aE,by simp;omega,rfl⟩ (by simp[cH,au]) aG aG (by simp[aH]) ?_;rintro⟨⟨i,j⟩,ch⟩ ⟨aS,bc,bT⟩;simp only at aS bc bT;rw[Sort.reverseLoop]at bT;simp[Pv.look,H.slc,H.ssc];(with_reducible repeat' first|((first|apply bG|apply bL|apply bK)<;>intro h<;>try simp at h)|refine aj ?_|simp[Pv.look,H.slc,H.ssc])
 ·rw[if_pos (by omega)]at bT;refine H.swapA aS U _ _ (by omega) (by omega) fun o=>?_;have ai:((i:Int)+1)=(i+1:Nat):=by omega
  have ax:((j:Int)-1)=(j-1:Nat):=by omega
  simp;((with_reducible repeat' first|refine aj ?_|simp|((first|apply bG|apply bL|apply bK)<;>intro h<;>try simp at h))<;>(try exact cg));rw[ai,ax];refine bN.whl ((i+1,j-1),Sort.swp ch i j) (by simp;omega) ⟨by rw[gM,aS],by simp;omega,bT⟩ (H.weakC aq (by simp[gM,aS]) (by simp[aH]))
 ·rw[if_neg (by omega)]at bT;exact H.retA aq aS (.inr rfl) ⟨rfl,ch,rfl,bT,aS⟩
theorem adr(H:e7 S n g b5 lc b1 lt)(d:Array α)(aE:d.size=n)(a b:Nat)(ng:a≤b)(ae:b≤n)(U:2≤n):
  bC az 261 [eY g b5 lc b1,.int .i64 a,.int .i64 b] (S d.toList) fun r s'=>r= .tuple []∧∃ca,s'=S ca.toList∧ca=Sort.heapSort lt d a b∧ca.size=n:=by
 have af:=H.ok d.toList;have aq:d.toList.length=n:=by simpa using aE
 have au:∀l m,Pv.look (.loc m) (S l).b=none:=fun l=>(H.ok l).obj.1;have hu:∀l m cs,cu (.loc m) cs (S l).b=(S l).b++[(.loc m,cs)]:=fun l m cs=>j4 (au l m);have av:∀m,aJ.loc m∉cZ (S d.toList):=j0 af.obj;have hle:=H.le;refine bC.mk mixed n3 abW aiH (by simp) af.obj fun aP cF=>?_;unfold PZ;simp[eY,hu,av,cH,au];(with_reducible repeat' first|refine aj ?_|simp[hu,av,cH,au]);have pQ:mN.wrap (((b:Int)-a-1).tdiv 2)=(((b-a-1)/2+1:Nat):Int)-1:=by
  have e:((b:Int)-a-1).tdiv 2=(((b-a-1)/2+1:Nat):Int)-1:=by
   rcases Nat.eq_or_lt_of_le ng with h|h
   ·subst h;simp
   ·rw[show((b:Int)-a-1)=((b-a-1:Nat):Int) by omega,Int.tdiv_eq_ediv_of_nonneg (by omega)];omega
  rw[e,ml _ (by omega)]
 rw[pQ];refine H.loopA aq [3,6,7,8] (fun(x:Nat×Array α)=>[(9,.int .i64 ((x.1:Int)-1))]) (·.2) (fun x=>x.1) (fun x=>x.2.size=n∧x.1≤n∧Sort.heapBuild lt (b-a) a x.1 x.2=Sort.heapBuild lt (b-a) a ((b-a-1)/2+1) d) ((b-a-1)/2+1,d) aE ⟨aE,by simp;omega,rfl⟩ (by simp[cH,au]) aG aG (by simp[aH]) ?_;rintro⟨k,ch⟩ ⟨aS,bc,bT⟩;simp only at aS bc bT;have Z2:((b:Int)-a)=(b-a:Nat):=by omega
 simp[Pv.look,H.slc,H.ssc];(with_reducible repeat' first|((first|apply bG|apply bL|apply bK)<;>intro h<;>try simp at h)|refine aj ?_|simp[Pv.look,H.slc,H.ssc])
 ·obtain⟨k,rfl⟩:∃k',k=k'+1:=⟨k-1,by omega⟩;have Jy:(((k+1:Nat):Int)-1)=(k:Nat):=by omega
  rw[Sort.heapBuild]at bT;simp only[iw H,H.slc,H.ssc,il,Jy,Z2];refine H.doFn (lk:=ch.toList) (by simpa using aS) (R:=fun l'=> ∃ca,l'=ca.toList∧ca=Sort.siftDown lt (b-a) a k ch∧ca.size=n) ((Si H ch aS k (b-a) a (by omega) U (by omega)).mono fun r s' ⟨aV,ca,bf,bI,cN⟩=>⟨aV,ca.toList,bf,ca,rfl,bI,cN⟩) (by rintro l' ⟨ca,rfl,_,q⟩;simpa using q) (by simp[aN,aH,H.kdata (lk:=ch.toList) (by simpa using aS)]) ?_;rintro l' ⟨ca,rfl,aV,bf⟩;simp;((with_reducible repeat' first|refine aj ?_|simp|((first|apply bG|apply bL|apply bK)<;>intro h<;>try simp at h))<;>(try exact cg));refine bN.whl (k,ca) (by simp) ⟨bf,by simp;omega,by rw[←bT,aV]⟩ (H.weakC aq (by simpa using bf) (by simp[aH]))
 ·obtain rfl:k=0:=by omega
  rw[Sort.heapBuild]at bT;have aoI:ch.size=n:=aS;refine H.loopA aq [3,6,7] (fun(x:Nat×Array α)=>[(10,.int .i64 ((x.1:Int)-1))]) (·.2) (fun x=>x.1) (fun x=>x.2.size=n∧x.1≤b-a∧Sort.heapPop lt a x.1 x.2=Sort.heapPop lt a (b-a) ch) (b-a,ch) aS ⟨aS,by simp,rfl⟩ (by simp[Pv.look]) aG aG (by simp[aH];omega) ?_;rintro⟨k,fS⟩ ⟨hz,wu,hk⟩;simp only at hz wu hk;simp[Pv.look,H.slc,H.ssc];(with_reducible repeat' first|((first|apply bG|apply bL|apply bK)<;>intro h<;>try simp at h)|refine aj ?_|simp[Pv.look,H.slc,H.ssc])
  ·obtain⟨k,rfl⟩:∃k',k=k'+1:=⟨k-1,by omega⟩;have Jy:(((k+1:Nat):Int)-1)=(k:Nat):=by omega
   have Z1:((a:Int)+k)=(a+k:Nat):=by omega
   rw[Sort.heapPop]at hk;simp only[Jy,Z1];refine H.swapA hz U _ _ (by omega) (by omega) fun o=>?_;have Ln:(Sort.swp fS a (a+k)).size=n:=by rw[gM,hz]
   simp;simp only[iw H,H.slc,H.ssc,il];refine H.doFn (lk:=(Sort.swp fS a (a+k)).toList) (by simpa using Ln) (R:=fun l'=> ∃ca,l'=ca.toList∧ca=Sort.siftDown lt k a 0 (Sort.swp fS a (a+k))∧ca.size=n) ((Si H (Sort.swp fS a (a+k)) Ln 0 k a (by omega) U (by omega)).mono fun r s' ⟨aV,ca,bf,bI,cN⟩=>⟨aV,ca.toList,bf,ca,rfl,bI,cN⟩) (by rintro l' ⟨ca,rfl,_,q⟩;simpa using q) (by simp[aN,aH,H.kdata (lk:=(Sort.swp fS a (a+k)).toList) (by simpa using Ln)]) ?_;rintro l' ⟨ca,rfl,aV,bf⟩;simp;((with_reducible repeat' first|refine aj ?_|simp|((first|apply bG|apply bL|apply bK)<;>intro h<;>try simp at h))<;>(try exact cg));refine bN.whl (k,ca) (by simp) ⟨bf,by simp;omega,by rw[←hk,aV]⟩ (H.weakC aq (by simpa using bf) (by simp[aH]))
  ·obtain rfl:k=0:=by omega
   rw[Sort.heapPop]at hk;refine H.retA aq hz (.inr rfl) ⟨rfl,fS,rfl,?_,hz⟩;rw[Sort.heapSort,←bT,←hk]
theorem ads(H:e7 S n g b5 lc b1 lt)(d:Array α)(aE:d.size=n)(a b:Nat)(ng:a≤b)(ae:b≤n):
  bC az 260 [eY g b5 lc b1,.int .i64 a,.int .i64 b] (S d.toList) fun r s'=>r= .tuple []∧∃ca,s'=S ca.toList∧ca=Sort.insertionSort lt d a b∧ca.size=n:=by
 have af:=H.ok d.toList;have aq:d.toList.length=n:=by simpa using aE
 have au:∀l m,Pv.look (.loc m) (S l).b=none:=fun l=>(H.ok l).obj.1;have hu:∀l m cs,cu (.loc m) cs (S l).b=(S l).b++[(.loc m,cs)]:=fun l m cs=>j4 (au l m);have av:∀m,aJ.loc m∉cZ (S d.toList):=j0 af.obj;have hle:=H.le;refine bC.mk mixed Bu RK Vx (by simp) af.obj fun aP cF=>?_;unfold I8;simp[eY,hu,av,cH,au];have pQ:((a:Int)+1)=(a+1:Nat):=by omega
 (with_reducible repeat' first|refine aj ?_|simp[hu,av,cH,au]);rw[pQ];refine H.loopA aq [1,2,3] (fun(x:Nat×Array α)=>[(6,.int .i64 x.1)]) (·.2) (fun x=>b+1-x.1) (fun x=>x.2.size=n∧x.1≤b+1∧Sort.insOuter lt a b x.1 x.2=Sort.insertionSort lt d a b) (a+1,d) aE ⟨aE,by simp;omega,rfl⟩ (by simp[cH,au]) aG aG (by simp[aH]) ?_;rintro⟨i,ch⟩ ⟨aS,bc,bT⟩;simp only at aS bc bT;rw[Sort.insOuter]at bT;simp;(with_reducible repeat' first|((first|apply bG|apply bL|apply bK)<;>intro h<;>try simp at h)|refine aj ?_|simp)
 ·rw[if_pos (by omega)]at bT;refine H.loopA aq [1,2,3,6] (fun(x:Nat×Array α)=>[(7,.int .i64 x.1)]) (·.2) (fun x=>x.1) (fun x=>x.2.size=n∧x.1≤i∧Sort.insInner lt a x.1 x.2=Sort.insInner lt a i ch) (i,ch) aS ⟨aS,by simp,rfl⟩ (by simp[Pv.look]) aG aG (by simp[aH]) ?_;rintro⟨j,fS⟩ ⟨hz,wu,hk⟩;simp only at hz wu hk;simp[Pv.look,H.slc,H.ssc];(with_reducible repeat' first|((first|apply bG|apply bL|apply bK)<;>intro h<;>try simp at h)|refine aj ?_|simp[Pv.look,H.slc,H.ssc])
  ·obtain⟨j,rfl⟩:∃dB,j=dB+1:=⟨j-1,by omega⟩;have ot:(((j+1:Nat):Int)-1)=(j:Nat):=by omega
   have pa:((i:Int)+1)=(i+1:Nat):=by omega
   have Z4:((j:Int)+1)=(j+1:Nat):=by omega
   rw[Sort.insInner]at hk;have ar:decide (j+1>a)=true:=by simp;omega
   rw[ot];refine H.lessA hz _ _ (by omega) (by omega) fun o=>?_;cases ab:lt fS[j+1]! fS[j]! with
   |true=>rw[if_pos (by rw[ar,ab];rfl)]at hk;simp;(with_reducible repeat' first|refine aj ?_|simp[Pv.look,H.slc,H.ssc]);rw[Z4];refine H.swapA hz (by omega) _ _ (by omega) (by omega) fun o=>?_;simp;(with_reducible repeat' first|refine aj ?_|simp);refine bN.whl (j,Sort.swp fS (j+1) j) (by simp) ⟨by rw[gM,hz],by simp;omega,hk⟩ (H.weakC aq (by simp[gM,hz]) (by simp[aH]))
   |false=>rw[if_neg (by simp[ab])]at hk;simp;((with_reducible repeat' first|refine aj ?_|simp|((first|apply bG|apply bL|apply bK)<;>intro h<;>try simp at h))<;>(try exact cg));rw[pa];refine bN.whl (i+1,fS) (by simp;omega) ⟨hz,by simp;omega,by rw[←bT,←hk]⟩ (H.weakC aq (by simpa using hz) (by simp[aH]))
  ·have pa:((i:Int)+1)=(i+1:Nat):=by omega
   have ye:Sort.insInner lt a j fS=fS:=by
    cases j with
    |zero=>rfl
    |succ j=>rw[Sort.insInner,if_neg (by simp;omega)]
   rw[pa];refine bN.whl (i+1,fS) (by simp;omega) ⟨hz,by simp;omega,by rw[←bT,←hk,ye]⟩ (H.weakC aq (by simpa using hz) (by simp[aH]))
 ·rw[if_neg (by omega)]at bT;exact H.retA aq aS (.inr rfl) ⟨rfl,ch,rfl,bT,aS⟩
end Go.Proofs.YtohaalphocaebaaGreat
namespace Go.Proofs.YtohaalphocaebaaGreat
open Go Go.Pv
variable {α:Type} [Inhabited α] {S:List α→cI} {n g b5:Nat} {lc b1:List ah} {lt:α→α→Bool}
theorem vj{p:α→Bool}{d:Array α}{i j:Nat}(h:¬(i≤j∧p d[j]! =true)):Sort.scanDown p d i j=j:=by
 cases j with
 |zero=>rfl
 |succ j=>rw[Sort.scanDown,if_neg (by simpa using h)]
theorem Bk{p:α→Bool}{d:Array α}{i j:Nat}(h:¬(i≤j∧p d[i]! =true)):Sort.scanUp p d j i=i:=by rw[Sort.scanUp,if_neg (by simpa using h)]
theorem Nk{p:α→Bool}{d:Array α}{i j:Nat}(J:i≤j)(U:p d[i]! =true):Sort.scanUp p d j i=Sort.scanUp p d j (i+1):=by rw[Sort.scanUp,if_pos (by simp[J,U])]
theorem Nj{p:α→Bool}{d:Array α}{i j:Nat}(J:i≤j+1)(U:p d[j+1]! =true):Sort.scanDown p d i (j+1)=Sort.scanDown p d i j:=by rw[Sort.scanDown,if_pos (by simp[J,U])]
theorem adC(H:e7 S n g b5 lc b1 lt)(d:Array α)(aE:d.size=n)(a b pivot:Nat)(rL:a≤pivot)(aft:pivot<b)(ng:a+1<b)(ae:b≤n):
  bC az 267 [eY g b5 lc b1,.int .i64 a,.int .i64 b,.int .i64 pivot] (S d.toList) fun r s'=>r= .tuple [.int .i64 (Sort.partition lt d a b pivot).1,.bool (Sort.partition lt d a b pivot).2.1]∧∃ca,s'=S ca.toList∧ca=(Sort.partition lt d a b pivot).2.2∧ca.size=n:=by
 obtain⟨R,bH⟩:∃R,R=Sort.partition lt d a b pivot:=⟨_,rfl⟩;rw[←bH];unfold Sort.partition at bH;have af:=H.ok d.toList;have aq:d.toList.length=n:=by simpa using aE
 have au:∀l m,Pv.look (.loc m) (S l).b=none:=fun l=>(H.ok l).obj.1;have hu:∀l m cs,cu (.loc m) cs (S l).b=(S l).b++[(.loc m,cs)]:=fun l m cs=>j4 (au l m);have av:∀m,aJ.loc m∉cZ (S d.toList):=j0 af.obj;have hle:=H.le;refine bC.mk mixed n3 ab3 aiO (by simp) af.obj fun aP cF=>?_;unfold P6;simp[eY,hu,av,cH,au];rw[H.ssc];refine H.swapA0 aE (by omega) a pivot (by omega) (by omega) fun o=>?_;obtain⟨d1,fm⟩:∃d1,d1=Sort.swp d a pivot:=⟨_,rfl⟩;have s1:d1.size=n:=by rw[fm,gM,aE]
 rw[←fm];simp only[←fm]at bH;have ai:((a:Int)+1)=(a+1:Nat):=by omega
 have ax:((b:Int)-1)=(b-1:Nat):=by omega
 simp;(with_reducible repeat' first|refine aj ?_|simp);rw[ai,ax];refine H.loopA aq [1,4,11] (fun(i:Nat)=>[(10,.int .i64 i)]) (fun _=>d1) (fun i=>b+1-i) (fun i=>a+1≤i∧i≤b∧Sort.scanUp (fun x=>lt x d1[a]!) d1 (b-1) i=Sort.scanUp (fun x=>lt x d1[a]!) d1 (b-1) (a+1)) (a+1) s1 ⟨by omega,by omega,rfl⟩ (by simp[Pv.look]) aG aG (by simp[aH]) ?_;rintro i ⟨i1,i2,i3⟩;simp[Pv.look,H.slc];((with_reducible repeat' first|refine aj ?_|simp[Pv.look,H.slc]|((first|apply bG|apply bL|apply bK)<;>intro h<;>try simp at h))<;>(try exact cg));refine H.lessA s1 i a (by omega) (by omega) fun o=>?_;cases ab:lt d1[i]! d1[a]!;rotate_left
 ·have pa:((i:Int)+1)=(i+1:Nat):=by omega
  simp;(with_reducible repeat' first|refine aj ?_|simp);rw[pa];refine bN.whl (i+1) (by omega) ⟨by omega,by omega,by rw[←i3];exact(Nk (p:=fun x=>lt x d1[a]!) (by omega) ab).symm⟩ (H.weakC aq (by simpa using s1) (by simp[aH]))
 rotate_left
 ·have i4:Sort.scanUp (fun x=>lt x d1[a]!) d1 (b-1) i=i:=Bk (by simp[ab]);rw[i4]at i3;rw[←i3]at bH;simp;refine H.loopA aq [1,4,10] (fun(j:Nat)=>[(11,.int .i64 j)]) (fun _=>d1) (fun j=>j) (fun j=>i≤j+1∧j≤b-1∧Sort.scanDown (fun x=> !lt x d1[a]!) d1 i j=Sort.scanDown (fun x=> !lt x d1[a]!) d1 i (b-1)) (b-1) s1 ⟨by omega,by omega,rfl⟩ (by simp[Pv.look]) aG aG (by simp[aH]) ?_;rintro j ⟨hz,wu,hk⟩;simp[Pv.look,H.slc];((with_reducible repeat' first|refine aj ?_|simp[Pv.look,H.slc,H.ssc]|((first|apply bG|apply bL|apply bK)<;>intro h<;>try simp at h))<;>(try exact cg))
  ·refine H.lessA s1 j a (by omega) (by omega) fun o=>?_;cases aD:lt d1[j]! d1[a]!
   ·obtain⟨j,rfl⟩:∃dB,j=dB+1:=⟨j-1,by omega⟩;have ot:(((j+1:Nat):Int)-1)=(j:Nat):=by omega
    simp;(with_reducible repeat' first|refine aj ?_|simp);try rw[ot]
    refine bN.whl j (by omega) ⟨by omega,by omega,by rw[←hk];exact(Nj (p:=fun x=> !lt x d1[a]!) (by omega) (by simp[aD])).symm⟩ (H.weakC aq (by simpa using s1) (by simp[aH]))
   ·have ye:Sort.scanDown (fun x=> !lt x d1[a]!) d1 i j=j:=vj (by simp[aD]);have cD:i≠j:=fun e=>by subst e;rw[ab]at aD;cases aD
    rw[ye]at hk;rw[←hk,if_neg (by omega)]at bH;simp;((with_reducible repeat' first|refine aj ?_|simp[Pv.look,H.slc,H.ssc]|((first|apply bG|apply bL|apply bK)<;>intro h<;>try simp at h))<;>(try exact cg));refine H.swapA s1 (by omega) i j (by omega) (by omega) fun o=>?_;obtain⟨d2,eP⟩:∃d2,d2=Sort.swp d1 i j:=⟨_,rfl⟩;have s2:d2.size=n:=by rw[eP,gM,s1]
    rw[←eP];rw[←eP]at bH;have bn:((i:Int)+1)=(i+1:Nat):=by omega
    have dp:((j:Int)-1)=(j-1:Nat):=by omega
    simp;(with_reducible repeat' first|refine aj ?_|simp);rw[bn,dp];refine H.loopA aq [1,4] (fun(x:(Nat×Nat)×Array α)=>[(10,.int .i64 x.1.1),(11,.int .i64 x.1.2)]) (·.2) (fun x=>x.1.2+1-x.1.1) (fun x=>x.2.size=n∧(a+1≤x.1.1∧x.1.1≤x.1.2+1∧x.1.2≤b-1)∧Sort.partLoop lt a x.1.1 x.1.2 x.2=Sort.partLoop lt a (i+1) (j-1) d2) ((i+1,j-1),d2) s2 ⟨s2,⟨by simp;omega,by simp;omega,by simp;omega⟩,rfl⟩ (by simp[Pv.look]) aG aG (by simp[aH]) ?_;rintro⟨⟨wq,dB⟩,ch⟩ ⟨aS,⟨bc,bT,dI⟩,cY⟩;simp only at aS bc bT dI cY;rw[Sort.partLoop]at cY;generalize hf:Sort.partLoop lt a (i+1) (j-1) d2=G at cY bH;simp;refine H.loopA aq [1,4,11] (fun(x:Nat)=>[(10,.int .i64 x)]) (fun _=>ch) (fun x=>b+1-x) (fun x=>wq≤x∧x≤dB+1∧Sort.scanUp (fun x=>lt x ch[a]!) ch dB x=Sort.scanUp (fun x=>lt x ch[a]!) ch dB wq) wq aS ⟨by omega,by omega,rfl⟩ (by simp[Pv.look]) aG aG (by simp[aH]) ?_;rintro p ⟨cC,da,hp⟩;simp[Pv.look,H.slc];((with_reducible repeat' first|refine aj ?_|simp[Pv.look,H.slc]|((first|apply bG|apply bL|apply bK)<;>intro h<;>try simp at h))<;>(try exact cg))
    ·refine H.lessA aS p a (by omega) (by omega) fun o=>?_;cases iq:lt ch[p]! ch[a]!;rotate_left
     ·have pa:((p:Int)+1)=(p+1:Nat):=by omega
      simp;(with_reducible repeat' first|refine aj ?_|simp);rw[pa];refine bN.whl (p+1) (by omega) ⟨by omega,by omega,by rw[←hp];exact(Nk (p:=fun x=>lt x ch[a]!) (by omega) iq).symm⟩ (H.weakC aq (by simpa using aS) (by simp[aH]))
     ·have pD:Sort.scanUp (fun x=>lt x ch[a]!) ch dB p=p:=Bk (by simp[iq]);rw[pD]at hp;simp only[←hp]at cY;simp;refine H.loopA aq [1,4,10] (fun(x:Nat)=>[(11,.int .i64 x)]) (fun _=>ch) (fun x=>x) (fun x=>p≤x+1∧x≤dB∧Sort.scanDown (fun x=> !lt x ch[a]!) ch p x=Sort.scanDown (fun x=> !lt x ch[a]!) ch p dB) dB aS ⟨by omega,by omega,rfl⟩ (by simp[Pv.look]) aG aG (by simp[aH]) ?_;rintro q ⟨aV,bf,bI⟩;simp[Pv.look,H.slc];((with_reducible repeat' first|refine aj ?_|simp[Pv.look,H.slc,H.ssc]|((first|apply bG|apply bL|apply bK)<;>intro h<;>try simp at h))<;>(try exact cg))
      ·refine H.lessA aS q a (by omega) (by omega) fun o=>?_;cases rZ:lt ch[q]! ch[a]!
       ·obtain⟨q,rfl⟩:∃dB,q=dB+1:=⟨q-1,by omega⟩;have ot:(((q+1:Nat):Int)-1)=(q:Nat):=by omega
        simp;(with_reducible repeat' first|refine aj ?_|simp);try rw[ot]
        refine bN.whl q (by omega) ⟨by omega,by omega,by rw[←bI];exact(Nj (p:=fun x=> !lt x ch[a]!) (by omega) (by simp[rZ])).symm⟩ (H.weakC aq (by simpa using aS) (by simp[aH]))
       ·have cN:Sort.scanDown (fun x=> !lt x ch[a]!) ch p q=q:=vj (by simp[rZ]);have cD:p≠q:=fun e=>by subst e;rw[iq]at rZ;cases rZ
        rw[cN]at bI;simp only[←bI]at cY;rw[if_neg (by omega),dif_pos (by omega)]at cY;simp;((with_reducible repeat' first|refine aj ?_|simp[Pv.look,H.slc,H.ssc]|((first|apply bG|apply bL|apply bK)<;>intro h<;>try simp at h))<;>(try exact cg));refine H.swapA aS (by omega) p q (by omega) (by omega) fun o=>?_;have hT:((p:Int)+1)=(p+1:Nat):=by omega
        have hU:((q:Int)-1)=(q-1:Nat):=by omega
        simp;(with_reducible repeat' first|((first|apply bG|apply bL|apply bK)<;>intro h<;>try simp at h)|refine aj ?_|simp);rw[hT,hU];refine bN.whl ((p+1,q-1),Sort.swp ch p q) (by simp;omega) ⟨by rw[gM,aS],⟨by simp;omega,by simp;omega,by simp;omega⟩,cY⟩ (H.weakC aq (by simp[gM,aS]) (by simp[aH]))
      ·have cN:Sort.scanDown (fun x=> !lt x ch[a]!) ch p q=q:=vj (by omega);rw[cN]at bI;simp only[←bI]at cY;rw[if_pos (by omega)]at cY;rw[←cY]at bH;refine H.swapA aS (by omega) q a (by omega) (by omega) fun o=>?_;simp;refine H.retR aq (d:=Sort.swp ch q a) (by rw[gM,aS]) (.inl rfl) ?_;simp[cP,DK,aT,aW,aQ];rw[bH];exact⟨⟨rfl,rfl⟩,_,rfl,rfl,by rw[gM,aS]⟩
    ·have pD:Sort.scanUp (fun x=>lt x ch[a]!) ch dB p=p:=Bk (by omega);rw[pD]at hp;simp only[←hp]at cY;have cN:Sort.scanDown (fun x=> !lt x ch[a]!) ch p dB=dB:=vj (by omega);rw[cN,if_pos (by omega)]at cY;rw[←cY]at bH;refine H.loopA aq [1,4,10] (fun(x:Nat)=>[(11,.int .i64 x)]) (fun _=>ch) (fun x=>x) (fun x=>x=dB) dB aS rfl (by simp[Pv.look]) aG aG (by simp[aH]) ?_;rintro q rfl;simp[Pv.look,H.slc];((with_reducible repeat' first|refine aj ?_|simp[Pv.look,H.slc,H.ssc]|((first|apply bG|apply bL|apply bK)<;>intro h<;>try simp at h))<;>(try exact cg));refine H.swapA aS (by omega) q a (by omega) (by omega) fun o=>?_;simp;refine H.retR aq (d:=Sort.swp ch q a) (by rw[gM,aS]) (.inl rfl) ?_;simp[cP,DK,aT,aW,aQ];rw[bH];exact⟨⟨rfl,rfl⟩,_,rfl,rfl,by rw[gM,aS]⟩
  ·have ye:Sort.scanDown (fun x=> !lt x d1[a]!) d1 i j=j:=vj (by omega);rw[ye]at hk;rw[←hk,if_pos (by omega)]at bH;refine H.swapA s1 (by omega) j a (by omega) (by omega) fun o=>?_;simp;refine H.retR aq (d:=Sort.swp d1 j a) (by rw[gM,s1]) (.inl rfl) ?_;simp[cP,DK,aT,aW,aQ];rw[bH];exact⟨⟨rfl,rfl⟩,_,rfl,rfl,by rw[gM,s1]⟩
 ·have i4:Sort.scanUp (fun x=>lt x d1[a]!) d1 (b-1) i=i:=Bk (by omega);rw[i4]at i3;have ye:Sort.scanDown (fun x=> !lt x d1[a]!) d1 i (b-1)=b-1:=vj (by omega);rw[←i3,ye,if_pos (by omega)]at bH;refine H.loopA aq [1,4,10] (fun(j:Nat)=>[(11,.int .i64 j)]) (fun _=>d1) (fun j=>j) (fun j=>j=b-1) (b-1) s1 rfl (by simp[Pv.look]) aG aG (by simp[aH]) ?_;rintro j rfl;simp[Pv.look,H.slc];((with_reducible repeat' first|refine aj ?_|simp[Pv.look,H.slc,H.ssc]|((first|apply bG|apply bL|apply bK)<;>intro h<;>try simp at h))<;>(try exact cg));refine H.swapA s1 (by omega) (b-1) a (by omega) (by omega) fun o=>?_;simp;refine H.retR aq (d:=Sort.swp d1 (b-1) a) (by rw[gM,s1]) (.inl rfl) ?_;simp[cP,DK,aT,aW,aQ];rw[bH];exact⟨⟨rfl,rfl⟩,_,rfl,rfl,by rw[gM,s1]⟩
end Go.Proofs.YtohaalphocaebaaGreat
namespace Go.Proofs.YtohaalphocaebaaGreat
open Go Go.Pv
variable {α:Type} [Inhabited α] {S:List α→cI} {n g b5:Nat} {lc b1:List ah} {lt:α→α→Bool}
theorem adD(H:e7 S n g b5 lc b1 lt)(d:Array α)(aE:d.size=n)(a b pivot:Nat)(rL:a≤pivot)(aft:pivot<b)(ng:a+1<b)(ae:b≤n):
  bC az 266 [eY g b5 lc b1,.int .i64 a,.int .i64 b,.int .i64 pivot] (S d.toList) fun r s'=>r= .int .i64 (Sort.partitionEqual lt d a b pivot).1∧∃ca,s'=S ca.toList∧ca=(Sort.partitionEqual lt d a b pivot).2∧ca.size=n:=by
 obtain⟨R,bH⟩:∃R,R=Sort.partitionEqual lt d a b pivot:=⟨_,rfl⟩;rw[←bH];unfold Sort.partitionEqual at bH;have af:=H.ok d.toList;have aq:d.toList.length=n:=by simpa using aE
 have au:∀l m,Pv.look (.loc m) (S l).b=none:=fun l=>(H.ok l).obj.1;have hu:∀l m cs,cu (.loc m) cs (S l).b=(S l).b++[(.loc m,cs)]:=fun l m cs=>j4 (au l m);have av:∀m,aJ.loc m∉cZ (S d.toList):=j0 af.obj;have hle:=H.le;refine bC.mk mixed n3 ab2 aiN (by simp) af.obj fun aP cF=>?_;unfold P5;simp[eY,hu,av,cH,au];rw[H.ssc];refine H.swapA0 aE (by omega) a pivot (by omega) (by omega) fun o=>?_;obtain⟨d1,fm⟩:∃d1,d1=Sort.swp d a pivot:=⟨_,rfl⟩;have s1:d1.size=n:=by rw[fm,gM,aE]
 rw[←fm];rw[←fm]at bH;have ai:((a:Int)+1)=(a+1:Nat):=by omega
 have ax:((b:Int)-1)=(b-1:Nat):=by omega
 simp;(with_reducible repeat' first|refine aj ?_|simp);rw[ai,ax];refine H.loopA aq [1,4] (fun(x:(Nat×Nat)×Array α)=>[(9,.int .i64 x.1.1),(10,.int .i64 x.1.2)]) (·.2) (fun x=>x.1.2+1-x.1.1) (fun x=>x.2.size=n∧(a+1≤x.1.1∧x.1.1≤x.1.2+1∧x.1.2≤b-1)∧Sort.partEqLoop lt a x.1.1 x.1.2 x.2=R) ((a+1,b-1),d1) s1 ⟨s1,⟨by simp,by simp;omega,by simp⟩,bH.symm⟩ (by simp[Pv.look]) aG aG (by simp[aH]) ?_;rintro⟨⟨wq,dB⟩,ch⟩ ⟨aS,⟨bc,bT,dI⟩,cY⟩;simp only at aS bc bT dI cY;rw[Sort.partEqLoop]at cY;simp;refine H.loopA aq [1,4,10] (fun(x:Nat)=>[(9,.int .i64 x)]) (fun _=>ch) (fun x=>b+1-x) (fun x=>wq≤x∧x≤dB+1∧Sort.scanUp (fun x=> !lt ch[a]! x) ch dB x=Sort.scanUp (fun x=> !lt ch[a]! x) ch dB wq) wq aS ⟨by omega,by omega,rfl⟩ (by simp[Pv.look]) aG aG (by simp[aH]) ?_;rintro p ⟨cC,da,hp⟩;simp[Pv.look,H.slc];((with_reducible repeat' first|refine aj ?_|simp[Pv.look,H.slc]|((first|apply bG|apply bL|apply bK)<;>intro h<;>try simp at h))<;>(try exact cg))
 ·refine H.lessA aS a p (by omega) (by omega) fun o=>?_;cases iq:lt ch[a]! ch[p]!
  ·have pa:((p:Int)+1)=(p+1:Nat):=by omega
   simp;(with_reducible repeat' first|refine aj ?_|simp);rw[pa];refine bN.whl (p+1) (by omega) ⟨by omega,by omega,by rw[←hp];exact(Nk (p:=fun x=> !lt ch[a]! x) (by omega) (by simp[iq])).symm⟩ (H.weakC aq (by simpa using aS) (by simp[aH]))
  ·have pD:Sort.scanUp (fun x=> !lt ch[a]! x) ch dB p=p:=Bk (by simp[iq]);rw[pD]at hp;simp only[←hp]at cY;simp;refine H.loopA aq [1,4,9] (fun(x:Nat)=>[(10,.int .i64 x)]) (fun _=>ch) (fun x=>x) (fun x=>p≤x+1∧x≤dB∧Sort.scanDown (fun x=>lt ch[a]! x) ch p x=Sort.scanDown (fun x=>lt ch[a]! x) ch p dB) dB aS ⟨by omega,by omega,rfl⟩ (by simp[Pv.look]) aG aG (by simp[aH]) ?_;rintro q ⟨aV,bf,bI⟩;simp[Pv.look,H.slc];((with_reducible repeat' first|refine aj ?_|simp[Pv.look,H.slc,H.ssc]|((first|apply bG|apply bL|apply bK)<;>intro h<;>try simp at h))<;>(try exact cg))
   ·refine H.lessA aS a q (by omega) (by omega) fun o=>?_;cases rZ:lt ch[a]! ch[q]!;rotate_left
    ·obtain⟨q,rfl⟩:∃dB,q=dB+1:=⟨q-1,by omega⟩;have ot:(((q+1:Nat):Int)-1)=(q:Nat):=by omega
     simp;(with_reducible repeat' first|refine aj ?_|simp);try rw[ot]
     refine bN.whl q (by omega) ⟨by omega,by omega,by rw[←bI];exact(Nj (p:=fun x=>lt ch[a]! x) (by omega) (by simp[rZ])).symm⟩ (H.weakC aq (by simpa using aS) (by simp[aH]))
    ·have cN:Sort.scanDown (fun x=>lt ch[a]! x) ch p q=q:=vj (by simp[rZ]);have cD:p≠q:=fun e=>by subst e;rw[iq]at rZ;cases rZ
     rw[cN]at bI;simp only[←bI]at cY;rw[if_neg (by omega),dif_pos (by omega)]at cY;simp;((with_reducible repeat' first|refine aj ?_|simp[Pv.look,H.slc,H.ssc]|((first|apply bG|apply bL|apply bK)<;>intro h<;>try simp at h))<;>(try exact cg));refine H.swapA aS (by omega) p q (by omega) (by omega) fun o=>?_;have hT:((p:Int)+1)=(p+1:Nat):=by omega
     have hU:((q:Int)-1)=(q-1:Nat):=by omega
     simp;(with_reducible repeat' first|((first|apply bG|apply bL|apply bK)<;>intro h<;>try simp at h)|refine aj ?_|simp);rw[hT,hU];refine bN.whl ((p+1,q-1),Sort.swp ch p q) (by simp;omega) ⟨by rw[gM,aS],⟨by simp;omega,by simp;omega,by simp;omega⟩,cY⟩ (H.weakC aq (by simp[gM,aS]) (by simp[aH]))
   ·have cN:Sort.scanDown (fun x=>lt ch[a]! x) ch p q=q:=vj (by omega);rw[cN]at bI;simp only[←bI]at cY;rw[if_pos (by omega)]at cY;refine H.retR aq (d:=ch) aS (.inl rfl) ?_;simp[cP,MJ,aT,aW,aQ];rw[←cY];exact⟨rfl,_,rfl,rfl,aS⟩
 ·have pD:Sort.scanUp (fun x=> !lt ch[a]! x) ch dB p=p:=Bk (by omega);rw[pD]at hp;simp only[←hp]at cY;have cN:Sort.scanDown (fun x=>lt ch[a]! x) ch p dB=dB:=vj (by omega);rw[cN,if_pos (by omega)]at cY;refine H.loopA aq [1,4,9] (fun(x:Nat)=>[(10,.int .i64 x)]) (fun _=>ch) (fun x=>x) (fun x=>x=dB) dB aS rfl (by simp[Pv.look]) aG aG (by simp[aH]) ?_;rintro q rfl;simp[Pv.look,H.slc];((with_reducible repeat' first|refine aj ?_|simp[Pv.look,H.slc,H.ssc]|((first|apply bG|apply bL|apply bK)<;>intro h<;>try simp at h))<;>(try exact cg));refine H.retR aq (d:=ch) aS (.inl rfl) ?_;simp[cP,MJ,aT,aW,aQ];rw[←cY];exact⟨rfl,_,rfl,rfl,aS⟩
end Go.Proofs.YtohaalphocaebaaGreat
namespace Go.Proofs.YtohaalphocaebaaGreat
open Go Go.Pv
variable {α:Type} [Inhabited α] {S:List α→cI} {n g b5:Nat} {lc b1:List ah} {lt:α→α→Bool}
theorem adB(H:e7 S n g b5 lc b1 lt)(d:Array α)(aE:d.size=n)(a b:Nat)(ng:a<b)(ae:b≤n)(U:2≤n):
  bC az 265 [eY g b5 lc b1,.int .i64 a,.int .i64 b] (S d.toList) fun r s'=>r= .bool (Sort.partialInsertionSort lt d a b).2∧∃ca,s'=S ca.toList∧ca=(Sort.partialInsertionSort lt d a b).1∧ca.size=n:=by
 obtain⟨R,bH⟩:∃R,R=Sort.partialInsertionSort lt d a b:=⟨_,rfl⟩;rw[←bH];unfold Sort.partialInsertionSort at bH;have af:=H.ok d.toList;have aq:d.toList.length=n:=by simpa using aE
 have au:∀l m,Pv.look (.loc m) (S l).b=none:=fun l=>(H.ok l).obj.1;have hu:∀l m cs,cu (.loc m) cs (S l).b=(S l).b++[(.loc m,cs)]:=fun l m cs=>j4 (au l m);have av:∀m,aJ.loc m∉cZ (S d.toList):=j0 af.obj;have hle:=H.le;refine bC.mk mixed n3 ab1 aiM (by simp) af.obj fun aP cF=>?_;unfold P4;simp[eY,hu,av,cH,au];have ai:((a:Int)+1)=(a+1:Nat):=by omega
 (with_reducible repeat' first|refine aj ?_|simp);rw[ai];refine H.loopA aq [1,2,3] (fun(x:(Nat×Nat)×Array α)=>[(7,.int .i64 x.1.1),(8,.int .i64 x.1.2)]) (·.2) (fun x=>5-x.1.2) (fun x=>x.2.size=n∧(a+1≤x.1.1∧x.1.1≤b∧x.1.2≤5)∧Sort.partialIns lt a b (5-x.1.2) x.1.1 x.2=R) ((a+1,0),d) aE ⟨aE,⟨by simp,by simp;omega,by simp⟩,bH.symm⟩ (by simp[cH,au]) aG aG (by simp[aH]) ?_;rintro⟨⟨i0,s⟩,ch⟩ ⟨aS,⟨bc,bT,dI⟩,cY⟩;simp only at aS bc bT dI cY;simp;((with_reducible repeat' first|refine aj ?_|simp|((first|apply bG|apply bL|apply bK)<;>intro h<;>try simp at h))<;>(try exact cg))
 ·obtain⟨m,hm⟩:∃m,5-s=m+1:=⟨5-s-1,by omega⟩;rw[hm,Sort.partialIns]at cY;refine H.loopA aq [1,2,3,8] (fun(x:Nat)=>[(7,.int .i64 x)]) (fun _=>ch) (fun x=>b-x) (fun x=>i0≤x∧x≤b∧Sort.scanSorted lt ch b x=Sort.scanSorted lt ch b i0) i0 aS ⟨by omega,by omega,rfl⟩ (by simp[Pv.look]) aG aG (by simp[aH]) ?_;rintro i ⟨i1,i2,i3⟩;rw[Sort.scanSorted]at i3;have pa:((i:Int)+1)=(i+1:Nat):=by omega
  have Fj:((i:Int)-1)=(i-1:Nat):=by omega
  have es:((s:Int)+1)=(s+1:Nat):=by omega
  have em:5-(s+1)=m:=by omega
  simp[Pv.look,H.slc];((with_reducible repeat' first|refine aj ?_|simp[Pv.look,H.slc]|((first|apply bG|apply bL|apply bK)<;>intro h<;>try simp at h))<;>(try exact cg))
  ·rw[Fj];refine H.lessA aS i (i-1) (by omega) (by omega) fun o=>?_;cases ab:lt ch[i]! ch[i-1]!
   ·rw[if_pos (by simp[ab];omega)]at i3;simp;(with_reducible repeat' first|refine aj ?_|simp);rw[pa];refine bN.whl (i+1) (by omega) ⟨by omega,by omega,i3⟩ (H.weakC aq (by simpa using aS) (by simp[aH]))
   ·rw[if_neg (by simp[ab])]at i3;simp only[←i3]at cY;rw[if_neg (by omega)]at cY;have zR:(i:Int)≠b:=by omega
    have aeP:((i:Int)==b)=false:=by simp;omega
    simp;((with_reducible repeat' first|refine aj ?_|simp[zR,aeP,Pv.look,H.slc,H.ssc]|((first|apply bG|apply bL|apply bK)<;>intro h<;>try simp at h))<;>(try exact cg))
    ·rw[if_pos (by omega)]at cY;refine H.retR aq (d:=ch) aS (.inl rfl) ?_;simp[cP,Hj,aT,aW,aQ];rw[←cY];exact⟨rfl,_,rfl,rfl,aS⟩
    ·rw[if_neg (by omega)]at cY;rw[Fj];refine H.swapA aS U i (i-1) (by omega) (by omega) fun o=>?_;obtain⟨d2,eP⟩:∃d2,d2=Sort.swp ch i (i-1):=⟨_,rfl⟩;have s2:d2.size=n:=by rw[eP,gM,aS]
     rw[←eP];simp only[←eP]at cY;by_cases lR:2≤b-i
     ·rw[if_pos lR]at cY;have tk:(2:Int)≤(b:Int)-i:=by omega
      by_cases Cx:2≤i-a
      ·rw[if_pos Cx]at cY;have xR:(2:Int)≤(i:Int)-a:=by omega
       simp;(with_reducible repeat' first|refine aj ?_|simp[xR]);rw[Fj];refine H.loopA aq [1,2,3,7,8] (fun(x:Nat×Array α)=>[(9,.int .i64 x.1)]) (·.2) (fun x=>x.1) (fun x=>x.2.size=n∧x.1≤i-1∧Sort.shiftDown lt x.1 x.2=Sort.shiftDown lt (i-1) d2) (i-1,d2) s2 ⟨s2,by simp,rfl⟩ (by simp[Pv.look]) aG aG (by simp[aH]) ?_;rintro⟨j,fS⟩ ⟨hz,wu,hk⟩;simp only at hz wu hk;simp[Pv.look,H.slc,H.ssc];((with_reducible repeat' first|refine aj ?_|simp[Pv.look,H.slc,H.ssc,tk]|((first|apply bG|apply bL|apply bK)<;>intro h<;>try simp at h))<;>(try exact cg))
       ·obtain⟨j,rfl⟩:∃dB,j=dB+1:=⟨j-1,by omega⟩;have ot:(((j+1:Nat):Int)-1)=(j:Nat):=by omega
        rw[Sort.shiftDown]at hk;try rw[ot]
        refine H.lessA hz (j+1) j (by omega) (by omega) fun o=>?_;cases aD:lt fS[j+1]! fS[j]!
        ·rw[if_pos (by simp[aD])]at hk;rw[←hk]at cY;try simp
         try(with_reducible repeat' first|refine aj ?_|simp[Pv.look,H.slc,H.ssc,tk])
         rw[pa];refine H.loopA aq [1,2,3,7,8] (fun(x:Nat×Array α)=>[(10,.int .i64 x.1)]) (·.2) (fun x=>b-x.1) (fun x=>x.2.size=n∧(i+1≤x.1∧x.1≤b)∧Sort.shiftUp lt b x.1 x.2=Sort.shiftUp lt b (i+1) fS) (i+1,fS) hz ⟨hz,⟨by simp,by simp;omega⟩,rfl⟩ (by simp[Pv.look]) aG aG (by simp[aH]) ?_;rintro⟨q,mW⟩ ⟨aV,⟨bf,yD⟩,bI⟩;simp only at aV bf yD bI;rw[Sort.shiftUp]at bI;have eq:((q:Int)-1)=(q-1:Nat):=by omega
         have B6:((q:Int)+1)=(q+1:Nat):=by omega
         simp[Pv.look,H.slc,H.ssc];((with_reducible repeat' first|refine aj ?_|simp[Pv.look,H.slc,H.ssc]|((first|apply bG|apply bL|apply bK)<;>intro h<;>try simp at h))<;>(try exact cg))
         ·rw[if_pos (by omega)]at bI;rw[eq];refine H.lessA aV q (q-1) (by omega) (by omega) fun o=>?_;cases aY:lt mW[q]! mW[q-1]!
          ·rw[if_pos (by simp[aY])]at bI;rw[←bI]at cY;simp;(with_reducible repeat' first|refine aj ?_|simp);rw[es];refine bN.whl ((i,s+1),mW) (by simp;omega) ⟨aV,⟨by simp;omega,by simp;omega,by simp;omega⟩,by simp only[em];exact cY⟩ (H.weakC aq (by simpa using aV) (by simp[aH]))
          ·rw[if_neg (by simp[aY])]at bI;simp;(with_reducible repeat' first|refine aj ?_|simp[Pv.look,H.slc,H.ssc]);rw[eq];refine H.swapA aV (by omega) q (q-1) (by omega) (by omega) fun o=>?_;simp;((with_reducible repeat' first|refine aj ?_|simp|((first|apply bG|apply bL|apply bK)<;>intro h<;>try simp at h))<;>(try exact cg));rw[B6];refine bN.whl (q+1,Sort.swp mW q (q-1)) (by simp;omega) ⟨by rw[gM,aV],⟨by simp;omega,by simp;omega⟩,bI⟩ (H.weakC aq (by simp[gM,aV]) (by simp[aH]))
         ·rw[if_neg (by omega)]at bI;rw[←bI]at cY;rw[es];refine bN.whl ((i,s+1),mW) (by simp;omega) ⟨aV,⟨by simp;omega,by simp;omega,by simp;omega⟩,by simp only[em];exact cY⟩ (H.weakC aq (by simpa using aV) (by simp[aH]))
        ·rw[if_neg (by simp[aD])]at hk;simp;(with_reducible repeat' first|refine aj ?_|simp[Pv.look,H.slc,H.ssc]);try rw[ot]
         refine H.swapA hz U (j+1) j (by omega) (by omega) fun o=>?_;simp;((with_reducible repeat' first|refine aj ?_|simp|((first|apply bG|apply bL|apply bK)<;>intro h<;>try simp at h))<;>(try exact cg));try rw[ot]
         refine bN.whl (j,Sort.swp fS (j+1) j) (by simp) ⟨by rw[gM,hz],by simp;omega,hk⟩ (H.weakC aq (by simp[gM,hz]) (by simp[aH]))
       ·obtain rfl:j=0:=by omega
        rw[Sort.shiftDown]at hk;rw[←hk]at cY;try simp
        try(with_reducible repeat' first|refine aj ?_|simp[Pv.look,H.slc,H.ssc,tk])
        rw[pa];refine H.loopA aq [1,2,3,7,8] (fun(x:Nat×Array α)=>[(10,.int .i64 x.1)]) (·.2) (fun x=>b-x.1) (fun x=>x.2.size=n∧(i+1≤x.1∧x.1≤b)∧Sort.shiftUp lt b x.1 x.2=Sort.shiftUp lt b (i+1) fS) (i+1,fS) hz ⟨hz,⟨by simp,by simp;omega⟩,rfl⟩ (by simp[Pv.look]) aG aG (by simp[aH]) ?_;rintro⟨q,mW⟩ ⟨aV,⟨bf,yD⟩,bI⟩;simp only at aV bf yD bI;rw[Sort.shiftUp]at bI;have eq:((q:Int)-1)=(q-1:Nat):=by omega
        have B6:((q:Int)+1)=(q+1:Nat):=by omega
        simp[Pv.look,H.slc,H.ssc];((with_reducible repeat' first|refine aj ?_|simp[Pv.look,H.slc,H.ssc]|((first|apply bG|apply bL|apply bK)<;>intro h<;>try simp at h))<;>(try exact cg))
        ·rw[if_pos (by omega)]at bI;rw[eq];refine H.lessA aV q (q-1) (by omega) (by omega) fun o=>?_;cases aY:lt mW[q]! mW[q-1]!
         ·rw[if_pos (by simp[aY])]at bI;rw[←bI]at cY;simp;(with_reducible repeat' first|refine aj ?_|simp);rw[es];refine bN.whl ((i,s+1),mW) (by simp;omega) ⟨aV,⟨by simp;omega,by simp;omega,by simp;omega⟩,by simp only[em];exact cY⟩ (H.weakC aq (by simpa using aV) (by simp[aH]))
         ·rw[if_neg (by simp[aY])]at bI;simp;(with_reducible repeat' first|refine aj ?_|simp[Pv.look,H.slc,H.ssc]);rw[eq];refine H.swapA aV (by omega) q (q-1) (by omega) (by omega) fun o=>?_;simp;((with_reducible repeat' first|refine aj ?_|simp|((first|apply bG|apply bL|apply bK)<;>intro h<;>try simp at h))<;>(try exact cg));rw[B6];refine bN.whl (q+1,Sort.swp mW q (q-1)) (by simp;omega) ⟨by rw[gM,aV],⟨by simp;omega,by simp;omega⟩,bI⟩ (H.weakC aq (by simp[gM,aV]) (by simp[aH]))
        ·rw[if_neg (by omega)]at bI;rw[←bI]at cY;rw[es];refine bN.whl ((i,s+1),mW) (by simp;omega) ⟨aV,⟨by simp;omega,by simp;omega,by simp;omega⟩,by simp only[em];exact cY⟩ (H.weakC aq (by simpa using aV) (by simp[aH]))
      ·rw[if_neg Cx]at cY;have xR:¬(2:Int)≤(i:Int)-a:=by omega
       simp;(with_reducible repeat' first|refine aj ?_|simp[xR,tk]);try simp
       try(with_reducible repeat' first|refine aj ?_|simp[Pv.look,H.slc,H.ssc,tk])
       rw[pa];refine H.loopA aq [1,2,3,7,8] (fun(x:Nat×Array α)=>[(10,.int .i64 x.1)]) (·.2) (fun x=>b-x.1) (fun x=>x.2.size=n∧(i+1≤x.1∧x.1≤b)∧Sort.shiftUp lt b x.1 x.2=Sort.shiftUp lt b (i+1) d2) (i+1,d2) s2 ⟨s2,⟨by simp,by simp;omega⟩,rfl⟩ (by simp[Pv.look]) aG aG (by simp[aH]) ?_;rintro⟨q,mW⟩ ⟨aV,⟨bf,yD⟩,bI⟩;simp only at aV bf yD bI;rw[Sort.shiftUp]at bI;have eq:((q:Int)-1)=(q-1:Nat):=by omega
       have B6:((q:Int)+1)=(q+1:Nat):=by omega
       simp[Pv.look,H.slc,H.ssc];((with_reducible repeat' first|refine aj ?_|simp[Pv.look,H.slc,H.ssc]|((first|apply bG|apply bL|apply bK)<;>intro h<;>try simp at h))<;>(try exact cg))
       ·rw[if_pos (by omega)]at bI;rw[eq];refine H.lessA aV q (q-1) (by omega) (by omega) fun o=>?_;cases aY:lt mW[q]! mW[q-1]!
        ·rw[if_pos (by simp[aY])]at bI;rw[←bI]at cY;simp;(with_reducible repeat' first|refine aj ?_|simp);rw[es];refine bN.whl ((i,s+1),mW) (by simp;omega) ⟨aV,⟨by simp;omega,by simp;omega,by simp;omega⟩,by simp only[em];exact cY⟩ (H.weakC aq (by simpa using aV) (by simp[aH]))
        ·rw[if_neg (by simp[aY])]at bI;simp;(with_reducible repeat' first|refine aj ?_|simp[Pv.look,H.slc,H.ssc]);rw[eq];refine H.swapA aV (by omega) q (q-1) (by omega) (by omega) fun o=>?_;simp;((with_reducible repeat' first|refine aj ?_|simp|((first|apply bG|apply bL|apply bK)<;>intro h<;>try simp at h))<;>(try exact cg));rw[B6];refine bN.whl (q+1,Sort.swp mW q (q-1)) (by simp;omega) ⟨by rw[gM,aV],⟨by simp;omega,by simp;omega⟩,bI⟩ (H.weakC aq (by simp[gM,aV]) (by simp[aH]))
       ·rw[if_neg (by omega)]at bI;rw[←bI]at cY;rw[es];refine bN.whl ((i,s+1),mW) (by simp;omega) ⟨aV,⟨by simp;omega,by simp;omega,by simp;omega⟩,by simp only[em];exact cY⟩ (H.weakC aq (by simpa using aV) (by simp[aH]))
     ·rw[if_neg lR]at cY;have tk:¬(2:Int)≤(b:Int)-i:=by omega
      by_cases Cx:2≤i-a
      ·rw[if_pos Cx]at cY;have xR:(2:Int)≤(i:Int)-a:=by omega
       simp;(with_reducible repeat' first|refine aj ?_|simp[xR]);rw[Fj];refine H.loopA aq [1,2,3,7,8] (fun(x:Nat×Array α)=>[(9,.int .i64 x.1)]) (·.2) (fun x=>x.1) (fun x=>x.2.size=n∧x.1≤i-1∧Sort.shiftDown lt x.1 x.2=Sort.shiftDown lt (i-1) d2) (i-1,d2) s2 ⟨s2,by simp,rfl⟩ (by simp[Pv.look]) aG aG (by simp[aH]) ?_;rintro⟨j,fS⟩ ⟨hz,wu,hk⟩;simp only at hz wu hk;simp[Pv.look,H.slc,H.ssc];((with_reducible repeat' first|refine aj ?_|simp[Pv.look,H.slc,H.ssc,tk]|((first|apply bG|apply bL|apply bK)<;>intro h<;>try simp at h))<;>(try exact cg))
       ·obtain⟨j,rfl⟩:∃dB,j=dB+1:=⟨j-1,by omega⟩;have ot:(((j+1:Nat):Int)-1)=(j:Nat):=by omega
        rw[Sort.shiftDown]at hk;try rw[ot]
        refine H.lessA hz (j+1) j (by omega) (by omega) fun o=>?_;cases aD:lt fS[j+1]! fS[j]!
        ·rw[if_pos (by simp[aD])]at hk;rw[←hk]at cY;try simp
         try(with_reducible repeat' first|refine aj ?_|simp[Pv.look,H.slc,H.ssc,tk])
         rw[es];refine bN.whl ((i,s+1),fS) (by simp;omega) ⟨hz,⟨by simp;omega,by simp;omega,by simp;omega⟩,by simp only[em];exact cY⟩ (H.weakC aq (by simpa using hz) (by simp[aH]))
        ·rw[if_neg (by simp[aD])]at hk;simp;(with_reducible repeat' first|refine aj ?_|simp[Pv.look,H.slc,H.ssc]);try rw[ot]
         refine H.swapA hz U (j+1) j (by omega) (by omega) fun o=>?_;simp;((with_reducible repeat' first|refine aj ?_|simp|((first|apply bG|apply bL|apply bK)<;>intro h<;>try simp at h))<;>(try exact cg));try rw[ot]
         refine bN.whl (j,Sort.swp fS (j+1) j) (by simp) ⟨by rw[gM,hz],by simp;omega,hk⟩ (H.weakC aq (by simp[gM,hz]) (by simp[aH]))
       ·obtain rfl:j=0:=by omega
        rw[Sort.shiftDown]at hk;rw[←hk]at cY;try simp
        try(with_reducible repeat' first|refine aj ?_|simp[Pv.look,H.slc,H.ssc,tk])
        rw[es];refine bN.whl ((i,s+1),fS) (by simp;omega) ⟨hz,⟨by simp;omega,by simp;omega,by simp;omega⟩,by simp only[em];exact cY⟩ (H.weakC aq (by simpa using hz) (by simp[aH]))
      ·rw[if_neg Cx]at cY;have xR:¬(2:Int)≤(i:Int)-a:=by omega
       simp;((with_reducible repeat' first|refine aj ?_|simp[xR,tk]|((first|apply bG|apply bL|apply bK)<;>intro h<;>try simp at h))<;>(try exact cg));done
  ·rw[if_neg (by simp;omega)]at i3;simp only[←i3]at cY;rw[if_pos (by omega)]at cY;refine H.retR aq (d:=ch) aS (.inl rfl) ?_;simp[cP,Hj,aT,aW,aQ];rw[←cY];exact⟨rfl,_,rfl,rfl,aS⟩
 ·have:5-s=0:=by omega
  rw[this,Sort.partialIns]at cY;refine H.retR aq (d:=ch) aS (.inl rfl) ?_;simp[cP,Hj,aT,aW,aQ];rw[←cY];exact⟨rfl,_,rfl,rfl,aS⟩
end Go.Proofs.YtohaalphocaebaaGreat
namespace Go.Proofs.YtohaalphocaebaaGreat
open Go Go.Pv
variable {α:Type} [Inhabited α] {S:List α→cI} {n g b5:Nat} {lc b1:List ah} {lt:α→α→Bool}
def fi(S:List α→cI)(d:Array α)(v:Nat):cI:=⟨(.obj 901,[.int .i64 v])::(S d.toList).b,(S d.toList).e⟩
def sc(S:List α→cI)(m:Nat):Prop:= ∀l,Pv.look (.obj m) (S l).b=none∧Pv.look (.obj m) (S l).e=none
theorem nJ(H:e7 S n g b5 lc b1 lt)(d:Array α)(v:Nat):dL (fi S d v):=by
 have h:=H.ok d.toList;have jf:∀k,inObs (S d.toList) k→inObs (fi S d v) k:=fun k ad=>by
  rcases ad with ad|ad
  ·refine .inl ?_;simp only[fi,Pv.look];split
   ·rfl
   ·exact ad
  ·exact .inr ad
 refine⟨⟨fun m=>?_,h.obj.2⟩,fun k cs ad=>?_,fun k o av xs ab=>jX jf _ (h.ke k o av xs ab)⟩
 ·simp[fi,Pv.look,h.obj.1 m]
 ·simp only[fi,Pv.look]at ad;split at ad
  ·cases ad;simp[aN,aH]
  ·exact jX jf _ (h.kb k cs ad)
theorem sF(d:Array α)(v v':Nat):Same (fi S d v) (fi S d v'):=⟨fun k=>by simp only[fi,Pv.look];split<;>rfl,fun _=>rfl⟩
theorem Ka(H:e7 S n g b5 lc b1 lt)(ad:sc S 901)(d:Array α)(aE:d.size=n)(a b v:Nat)(bk:a<n)(ae:b<n)(aI:v≤1000):
  bC az 285 [eY g b5 lc b1,.int .i64 a,.int .i64 b,.ptr (.obj 901) 0] (fi S d v) fun r s'=>r= .tuple [.int .i64 (Sort.order2 lt d a b v).1,.int .i64 (Sort.order2 lt d a b v).2.1]∧s'=fi S d (Sort.order2 lt d a b v).2.2:=by
 have af:=H.ok d.toList;have aq:d.toList.length=n:=by simpa using aE
 have au:∀l m,Pv.look (.loc m) (S l).b=none:=fun l=>(H.ok l).obj.1;have hu:∀l m cs,cu (.loc m) cs (S l).b=(S l).b++[(.loc m,cs)]:=fun l m cs=>j4 (au l m);have av:∀m,aJ.loc m∉cZ (S d.toList):=j0 af.obj;have gz:∀l,Pv.look (.obj 901) (S l).b=none:=fun l=>(ad l).1;have ka:∀l,Pv.look (.obj 901) (S l).e=none:=fun l=>(ad l).2;have hle:=H.le;have kA:=nJ H d v;obtain⟨R,bH⟩:∃R,R=Sort.order2 lt d a b v:=⟨_,rfl⟩;rw[←bH];unfold Sort.order2 at bH;refine bC.mk mixed n3 ab0 aiL (by simp) kA.obj fun aP cF=>?_;unfold P3;have lM:aJ.loc 0∉cZ (fi S d v):=j0 kA.obj 0;generalize uL:cZ (fi S d v)=ob at lM⊢;unfold fi;simp[eY,hu,lM,cH,au,Pv.look,cu];rw[H.slc];refine cM.ob (H.less d.toList aq b a _ _ (zg (by omega)) (zg (by omega))) (H.ok _) (fun k cs ab=>?_) (fun _ _ ab=>ab) (by simp[aH,aN,H.klc d.toList aq]) ?_
 ·simp only[Pv.look];split
  ·rename_i e;subst e;rw[gz]at ab;cases ab
  ·rw[cH,ab]
 rintro r s' ⟨rfl,rfl⟩;refine⟨Same.refl _,?_⟩;have hw:b0 (S d.toList).b ((aJ.obj 901,[ah.int .i64 v])::((S d.toList).b++[(aJ.loc 0,[ah.func g lc,ah.func b5 b1])]))=[(aJ.obj 901,[ah.int .i64 v]),(aJ.loc 0,[ah.func g lc,ah.func b5 b1])]:=by simp only[b0,gz];rw[iG,gZ];simp[b0,au]
 rw[hw,gZ];have dz:∀(t:List (Nat×ah)) (o:List aJ) (v':Nat) (D:List ah) (x y:Nat),Pv.get 8 t= .int .i64 x→Pv.get 9 t= .int .i64 y→R=(x,y,v')→
   cJ MI (fi S d v) (fun r s'=>r= .tuple [.int .i64 R.1,.int .i64 R.2.1]∧s'=fi S d R.2.2) .ret ⟨t,(aJ.obj 901,[.int .i64 v'])::(aJ.loc 0,D)::(S d.toList).b,(S d.toList).e,1,o⟩:=by
  rintro t o v' D x y ab aD rfl;refine cJ.at (fi S d v') (.inl rfl) (nJ H d v') (sF _ _ _) (fun k cs ar=>?_) (fun _ _ ar=>ar) ?_
  ·simp only[fi,Pv.look]at ar⊢;split at ar
   ·rename_i e;rw[if_pos e];exact ar
   ·rename_i e;rw[if_neg e];split
    ·rename_i ax;subst ax;rw[au]at ar;cases ar
    ·exact ar
  ·simp[cP,MI,aT,aW,aQ,ab,aD]
 cases ab:lt d[b]! d[a]! with
 |true=>
  rw[if_pos ab]at bH;simp[Pv.look,cu];(with_reducible repeat' first|refine aj ?_|simp[Pv.look,cu]);have ai:((v:Int)+1)=(v+1:Nat):=by omega
  rw[ai];exact dz _ _ (v+1) _ b a rfl rfl bH
 |false=>rw[if_neg (by simp[ab])]at bH;simp[Pv.look,cu];exact dz _ _ v _ a b rfl rfl bH
theorem Vi{s s':cI}{f:Nat}{args:List ah}{r:ah}(aO:bC az f args s fun eg dF=>eg=r∧dF=s')(af:dL s)(fk:Same s s')(ad:aN (inObs s) args){t:List (Nat×ah)}{D:List ah}{o:List aJ}{d:Option Nat}{K:bh→Prop}
  (h:∀o,K ⟨eS d r t,(.loc 0,D)::s'.b,s'.e,1,o⟩):cM az f args ⟨t,s.b++[(.loc 0,D)],s.e,1,o⟩ d K:=by
 refine cM.ob aO af (fun k cs ab=>by rw[cH,ab]) (fun _ _ ab=>ab) ad ?_;rintro r s' ⟨rfl,rfl⟩;refine⟨fk,?_⟩;have ai:b0 s.b (s.b++[(.loc 0,D)])=[(.loc 0,D)]:=by rw[iG,gZ];simp[b0,af.obj.1 0]
 have ax:b0 s.e s.e=[]:=gZ _;simp only[ai,ax];exact h _
theorem Ds{s s':cI}{f:Nat}{args:List ah}{r:ah}(aO:bC az f args s fun eg dF=>eg=r∧dF=s')(af:dL s)(fk:Same s s')(ad:aN (inObs s) args){t:List (Nat×ah)}{D:List ah}{o:List aJ}{d:Option Nat}{K:bh→Prop}
  (h:∀o,K ⟨eS d r t,(.loc 0,D)::s'.b,s'.e,1,o⟩):cM az f args ⟨t,(.loc 0,D)::s.b,s.e,1,o⟩ d K:=by
 refine cM.ob aO af (fun k cs ab=>?_) (fun _ _ ab=>ab) ad ?_
 ·cases k with
  |loc m=>rw[af.obj.1 m]at ab;cases ab
  |obj m=>simpa[Pv.look]using ab
 rintro r s' ⟨rfl,rfl⟩;refine⟨fk,?_⟩;have ai:b0 s.b ((.loc 0,D)::s.b)=[(.loc 0,D)]:=by have:=iG s.b [(aJ.loc 0,D)] s.b;rw[gZ]at this;simpa[b0,af.obj.1 0]using this
 have ax:b0 s.e s.e=[]:=gZ _;simp only[ai,ax];exact h _
theorem AZ{d:Array α}{a b v n:Nat}(bk:a<n)(ae:b<n):(Sort.order2 lt d a b v).1<n∧(Sort.order2 lt d a b v).2.1<n∧(Sort.order2 lt d a b v).2.2≤v+1:=by unfold Sort.order2;split<;>simp<;>omega
theorem uU(H:e7 S n g b5 lc b1 lt){d:Array α}(aE:d.size=n){v:Nat}:aH (inObs (fi S d v)) (eY g b5 lc b1)∧aH (inObs (fi S d v)) (.ptr (.obj 901) 0):=by
 refine⟨wA (fun k ad=>?_) _ (H.kdata (lk:=d.toList) (by simpa using aE)),by simp[aH,inObs,fi,Pv.look]⟩;rcases ad with ad|ad
 ·refine .inl ?_;simp only[fi,Pv.look];split
  ·rfl
  ·exact ad
 ·exact .inr ad
theorem W9(H:e7 S n g b5 lc b1 lt){d:Array α}{v v':Nat}{eG:List bA}{Q:ah→cI→Prop}{t:List (Nat×ah)}{D:List ah}{o:List aJ}(h:cP ⟨t,(.loc 0,D)::(fi S d v').b,(S d.toList).e,1,o⟩ eG fun r=>aH (inObs (fi S d v')) r∧Q r (fi S d v')):
  cJ eG (fi S d v) Q .ret ⟨t,(.loc 0,D)::(fi S d v').b,(S d.toList).e,1,o⟩:=by
 refine cJ.at (fi S d v') (.inl rfl) (nJ H d v') (sF _ _ _) (fun k cs ab=>?_) (fun _ _ ar=>ar) h;cases k with
 |loc m=>rw[(nJ H d v').obj.1 m]at ab;cases ab
 |obj m=>simpa[Pv.look]using ab
theorem J7(H:e7 S n g b5 lc b1 lt)(ad:sc S 901)(d:Array α)(aE:d.size=n)(a b c v:Nat)(bk:a<n)(ae:b<n)(ar:c<n)(aI:v≤900):
  bC az 282 [eY g b5 lc b1,.int .i64 a,.int .i64 b,.int .i64 c,.ptr (.obj 901) 0] (fi S d v) fun r s'=>r= .int .i64 (Sort.median lt d a b c v).1∧s'=fi S d (Sort.median lt d a b c v).2:=by
 have kA:=nJ H d v;have rT:∀v m,Pv.look (.loc m) (fi S d v).b=none:=fun v=>(nJ H d v).obj.1;have oH:∀v m cs,cu (.loc m) cs (fi S d v).b=(fi S d v).b++[(.loc m,cs)]:=fun v m cs=>j4 (rT v m);have lM:aJ.loc 0∉cZ (fi S d v):=j0 kA.obj 0;obtain⟨R,bH⟩:∃R,R=Sort.median lt d a b c v:=⟨_,rfl⟩;rw[←bH];unfold Sort.median at bH;have aV:=AZ (lt:=lt) (d:=d) (v:=v) bk ae;have aS:=Ka H ad d aE a b v bk ae (by omega);generalize Sort.order2 lt d a b v=ev at aV aS bH;obtain⟨sy,kM,v1⟩:=ev;simp only at aV aS bH;have bf:=AZ (lt:=lt) (d:=d) (v:=v1) aV.2.1 ar;have bc:=Ka H ad d aE kM c v1 aV.2.1 ar (by omega);generalize Sort.order2 lt d kM c v1=e2 at bf bc bH;obtain⟨y3,oW,v2⟩:=e2;simp only at bf bc bH;have bI:=AZ (lt:=lt) (d:=d) (v:=v2) aV.1 bf.1;have bT:=Ka H ad d aE sy y3 v2 aV.1 bf.1 (by omega);generalize Sort.order2 lt d sy y3 v2=nW at bI bT bH;obtain⟨sA,Io,v3⟩:=nW;simp only at bI bT bH;refine bC.mk mixed n3 abY aiJ (by simp) kA.obj fun aP cF=>?_;unfold P1;simp[eY,oH,lM,cH,rT];simp only[iw H,H.slc,H.ssc,il];refine Vi aS (nJ H d v) (sF _ _ _) (by simp[aH,aN,(uU H aE).1];exact(uU H aE).2) fun o=>?_;simp[Pv.look];simp only[iw H,H.slc,H.ssc,il];refine Ds bc (nJ H d v1) (sF _ _ _) (by simp[aH,aN,(uU H aE).1];exact(uU H aE).2) fun o=>?_;simp[Pv.look];simp only[iw H,H.slc,H.ssc,il];refine Ds bT (nJ H d v2) (sF _ _ _) (by simp[aH,aN,(uU H aE).1];exact(uU H aE).2) fun o=>?_;simp;refine W9 H ?_;simp[cP,Ws,aT,aW,aQ];rw[bH];exact⟨rfl,rfl⟩
theorem J8(H:e7 S n g b5 lc b1 lt)(ad:sc S 901)(d:Array α)(aE:d.size=n)(a v:Nat)(bk:a+1<n)(ll:1≤a)(aI:v≤900):
  bC az 281 [eY g b5 lc b1,.int .i64 a,.ptr (.obj 901) 0] (fi S d v) fun r s'=>r= .int .i64 (Sort.medianAdjacent lt d a v).1∧s'=fi S d (Sort.medianAdjacent lt d a v).2:=by
 have kA:=nJ H d v;have rT:∀v m,Pv.look (.loc m) (fi S d v).b=none:=fun v=>(nJ H d v).obj.1;have oH:∀v m cs,cu (.loc m) cs (fi S d v).b=(fi S d v).b++[(.loc m,cs)]:=fun v m cs=>j4 (rT v m);have lM:aJ.loc 0∉cZ (fi S d v):=j0 kA.obj 0;have hle:=H.le;have aS:=J7 H ad d aE (a-1) a (a+1) v (by omega) (by omega) (by omega) aI;unfold Sort.medianAdjacent;refine bC.mk mixed n3 abX aiI (by simp) kA.obj fun aP cF=>?_;unfold P0;have ai:((a:Int)-1)=(a-1:Nat):=by omega
 have ax:((a:Int)+1)=(a+1:Nat):=by omega
 simp[eY,oH,lM,cH,rT];(with_reducible repeat' first|refine aj ?_|simp);simp only[iw H,H.slc,H.ssc,il,ai,ax];refine Vi aS (nJ H d v) (sF _ _ _) (by simp[aH,aN,(uU H aE).1];exact(uU H aE).2) fun o=>?_;simp;refine W9 H ?_;simp[cP,Wr,aT,aW,aQ]
theorem Vj{m:Nat}(h:sc S m)(l:List α):aJ.obj m∉cZ (S l):=fun hm=>by
 rcases TU hm with J|J
 ·rw[(h l).1]at J;cases J
 ·rw[(h l).2]at J;cases J
theorem Dj{d:Array α}{a b c v n:Nat}(bk:a<n)(ae:b<n)(ar:c<n):(Sort.median lt d a b c v).1<n∧(Sort.median lt d a b c v).2≤v+3:=by have aV:=AZ (lt:=lt) (d:=d) (v:=v) bk ae;have bf:=AZ (lt:=lt) (d:=d) (v:=(Sort.order2 lt d a b v).2.2) aV.2.1 ar;have bI:=AZ (lt:=lt) (d:=d) (v:=(Sort.order2 lt d (Sort.order2 lt d a b v).2.1 c (Sort.order2 lt d a b v).2.2).2.2) aV.1 bf.1;refine⟨bI.2.1,jR bI.2.2 ?_⟩;omega
def zS:Sort.Hint→Int
 | .unknown=>0
 | .increasing=>1
 | .decreasing=>2
theorem ado(H:e7 S n g b5 lc b1 lt)(ad:sc S 901)(d:Array α)(aE:d.size=n)(a b:Nat)(ng:a<b)(ae:b≤n):
  bC az 263 [eY g b5 lc b1,.int .i64 a,.int .i64 b] (S d.toList) fun r s'=>r= .tuple [.int .i64 (Sort.choosePivot lt d a b).1,.int .i64 (zS (Sort.choosePivot lt d a b).2)]∧s'=S d.toList:=by
 have af:=H.ok d.toList;have aq:d.toList.length=n:=by simpa using aE
 have au:∀l m,Pv.look (.loc m) (S l).b=none:=fun l=>(H.ok l).obj.1;have hu:∀l m cs,cu (.loc m) cs (S l).b=(S l).b++[(.loc m,cs)]:=fun l m cs=>j4 (au l m);have av:∀m,aJ.loc m∉cZ (S d.toList):=j0 af.obj;have gz:∀l,Pv.look (.obj 901) (S l).b=none:=fun l=>(ad l).1;have ka:∀l,Pv.look (.obj 901) (S l).e=none:=fun l=>(ad l).2;have hle:=H.le;have lM:=Vj ad d.toList;obtain⟨R,bH⟩:∃R,R=Sort.choosePivot lt d a b:=⟨_,rfl⟩;rw[←bH];unfold Sort.choosePivot at bH;refine bC.mk mixed n3 abV aiG (by simp) af.obj fun aP cF=>?_;unfold PY;have ya:∀l D cs,cu (.obj 901) cs ((S l).b++[(.loc 0,D)])=(S l).b++[(.loc 0,D),(.obj 901,cs)]:=fun l D cs=>by rw[By (gz l)];rfl
 obtain⟨q,bu⟩:∃q,q=(b-a)/4:=⟨_,rfl⟩;have dp:mN.wrap (((b:Int)-a).tdiv 4)=(q:Nat):=by rw[show((b:Int)-a)=((b-a:Nat):Int) by omega,Int.tdiv_eq_ediv_of_nonneg (by omega),ml _ (by omega)];omega
 simp[eY,hu,ya,av,lM,cH,au,gz,ka,Pv.look,cu];have dz:∀(t:List (Nat×ah)) (o:List aJ) (bV:List (aJ×List ah)) (x:Nat) (h:Sort.Hint),Pv.get 6 t= .int .i64 x→Pv.get 7 t= .int .i64 (zS h)→R=(x,h)→(∀k cs,Pv.look k (S d.toList).b=some cs→Pv.look k bV=some cs)→
   cJ MH (S d.toList) (fun r s'=>r= .tuple [.int .i64 R.1,.int .i64 (zS R.2)]∧s'=S d.toList) .ret ⟨t,bV,(S d.toList).e,1,o⟩:=by
  rintro t o bV x h ab aD rfl gd;refine cJ.at (S d.toList) (.inl rfl) af (Same.refl _) gd (fun _ _ ar=>ar) ?_;simp[cP,MH,aT,aW,aQ,ab,aD]
 have zL:∀(D:List ah) (v:Nat) k cs,Pv.look k (S d.toList).b=some cs→Pv.look k ((.loc 0,D)::(fi S d v).b)=some cs:=fun D v k cs h=>by
  simp only[fi,Pv.look];split
  ·rename_i e;subst e;rw[au]at h;cases h
  ·split
   ·rename_i e;subst e;rw[gz]at h;cases h
   ·exact h
 have SL:∀{f:Nat} {args:List ah} {r:ah} {v:Nat},(bC az f args (fi S d 0) fun eg dF=>eg=r∧dF=fi S d v)→aN (inObs (fi S d 0)) args→∀{t:List (Nat×ah)} {D:List ah} {o:List aJ} {ca:Option Nat} {K:bh→Prop},(∀o,K ⟨eS ca r t,(.loc 0,D)::(fi S d v).b,(S d.toList).e,1,o⟩)→
   cM az f args ⟨t,(S d.toList).b++[(.loc 0,D),(.obj 901,[.int .i64 0])],(S d.toList).e,1,o⟩ ca K:=by
  intro f args r v aO hx t D o ca K h;refine cM.ob aO (nJ H d 0) (fun k cs ab=>?_) (fun _ _ ab=>ab) hx ?_
  ·simp only[fi,Pv.look]at ab;rw[cH];split at ab
   ·rename_i e;subst e;rw[gz];simp[Pv.look];simpa using ab
   ·rw[ab]
  rintro r s' ⟨rfl,rfl⟩;refine⟨sF _ _ _,?_⟩;have ai:b0 (fi S d 0).b ((S d.toList).b++[(.loc 0,D),(.obj 901,[.int .i64 0])])=[(.loc 0,D)]:=by
   rw[iG];have:b0 (fi S d 0).b (S d.toList).b=[]:=N8 _ _ fun k x hm=>by
    have:=u0 hm;simp only[fi,Pv.look];split
    ·rfl
    ·exact this
   rw[this];simp[b0,fi,Pv.look,au]
  have ax:b0 (fi S d 0).e (S d.toList).e=[]:=gZ _;simp only[ai,ax];exact h _
 have hx:=fun(v:Nat)=>(uU H aE (v:=v));have f1:((a:Int)+q)=(a+q:Nat):=by omega
 have f2:((a:Int)+q*2)=(a+q*2:Nat):=by omega
 have f3:((a:Int)+q*3)=(a+q*3:Nat):=by omega
 dsimp only at bH;rw[←bu,Nat.mul_one]at bH;by_cases hW:b-a<8
 ·have FA:¬(8:Int)≤(b:Int)-a:=by omega
  (with_reducible repeat' first|refine aj ?_|simp[FA,dp,hu,ya,av,lM,cH,au,gz,ka,Pv.look,cu]);rw[f2];refine dz _ _ _ (a+q*2) .increasing rfl rfl (by rw[bH,if_neg (by omega)];simp) (fun k cs h=>by rw[cH,h])
 ·have FA:(8:Int)≤(b:Int)-a:=by omega
  by_cases aox:b-a<50
  ·have Ke:¬(50:Int)≤(b:Int)-a:=by omega
   (with_reducible repeat' first|refine aj ?_|simp[FA,Ke,dp,hu,ya,av,lM,cH,au,gz,ka,Pv.look,cu]);simp only[iw H,H.slc,H.ssc,il,f1,f2,f3];have aS:=J7 H ad d aE (a+q) (a+q*2) (a+q*3) 0 (by omega) (by omega) (by omega) (by omega);have bc:=Dj (lt:=lt) (d:=d) (a:=a+q) (b:=a+q*2) (c:=a+q*3) (v:=0) (n:=n) (by omega) (by omega) (by omega);rw[if_pos (by omega),if_neg (by omega)]at bH;generalize Sort.median lt d (a+q) (a+q*2) (a+q*3) 0=m at aS bc bH;obtain⟨x,v⟩:=m;refine SL aS (by simp[aH,aN,(hx 0).1];exact(hx 0).2) fun o=>?_;have tl:((v:Int)==0)=decide (v=0):=by rw[qt];simp
   have CW:((v:Int)==12)=decide (v=12):=by rw[qt];simp;omega
   simp[Pv.look,fi];rcases(by omega:v=0∨v=12∨(v≠0∧v≠12))with bD|bD|bD
   ·have ab:((v:Int)==0)=true:=by rw[tl];simp[bD]
    (with_reducible repeat' first|refine aj ?_|simp[ab]);all_goals exact dz _ _ _ x .increasing rfl rfl (by rw[bH];simp[bD]) (zL _ v)
   ·have ab:((v:Int)==0)=false:=by rw[tl];simp[bD]
    have po:((v:Int)==12)=true:=by rw[CW];simp[bD]
    (with_reducible repeat' first|refine aj ?_|simp[ab,po]);all_goals exact dz _ _ _ x .decreasing rfl rfl (by rw[bH];simp[bD]) (zL _ v)
   ·have ab:((v:Int)==0)=false:=by rw[tl];simp[bD.1]
    have po:((v:Int)==12)=false:=by rw[CW];simp[bD.2]
    (with_reducible repeat' first|refine aj ?_|simp[ab,po]);all_goals exact dz _ _ _ x .unknown rfl rfl (by rw[bH];simp[bD]) (zL _ v)
  ·have Ke:(50:Int)≤(b:Int)-a:=by omega
   (with_reducible repeat' first|refine aj ?_|simp[FA,Ke,dp,hu,ya,av,lM,cH,au,gz,ka,Pv.look,cu]);simp only[iw H,H.slc,H.ssc,il,f1,f2,f3];rw[if_pos (by omega),if_pos (by omega)]at bH;have aS:=J8 H ad d aE (a+q) 0 (by omega) (by omega) (by omega);have C6:=Dj (lt:=lt) (d:=d) (a:=a+q-1) (b:=a+q) (c:=a+q+1) (v:=0) (n:=n) (by omega) (by omega) (by omega);change (Sort.medianAdjacent lt d (a+q) 0).1<n∧(Sort.medianAdjacent lt d (a+q) 0).2≤0+3 at C6;generalize Sort.medianAdjacent lt d (a+q) 0=m1 at aS C6 bH;obtain⟨sy,v1⟩:=m1;simp only at aS C6 bH;have bc:=J8 H ad d aE (a+q*2) v1 (by omega) (by omega) (by omega);have C7:=Dj (lt:=lt) (d:=d) (a:=a+q*2-1) (b:=a+q*2) (c:=a+q*2+1) (v:=v1) (n:=n) (by omega) (by omega) (by omega);change (Sort.medianAdjacent lt d (a+q*2) v1).1<n∧(Sort.medianAdjacent lt d (a+q*2) v1).2≤v1+3 at C7;generalize Sort.medianAdjacent lt d (a+q*2) v1=m2 at bc C7 bH;obtain⟨y3,v2⟩:=m2;simp only at bc C7 bH;have bT:=J8 H ad d aE (a+q*3) v2 (by omega) (by omega) (by omega);have C8:=Dj (lt:=lt) (d:=d) (a:=a+q*3-1) (b:=a+q*3) (c:=a+q*3+1) (v:=v2) (n:=n) (by omega) (by omega) (by omega);change (Sort.medianAdjacent lt d (a+q*3) v2).1<n∧(Sort.medianAdjacent lt d (a+q*3) v2).2≤v2+3 at C8;generalize Sort.medianAdjacent lt d (a+q*3) v2=m3 at bT C8 bH;obtain⟨sA,v3⟩:=m3;simp only at bT C8 bH;have dI:=J7 H ad d aE sy y3 sA v3 C6.1 C7.1 C8.1 (by omega);have Uf:=Dj (lt:=lt) (d:=d) (v:=v3) C6.1 C7.1 C8.1;generalize Sort.median lt d sy y3 sA v3=m4 at dI Uf bH;obtain⟨x,v⟩:=m4;simp only at dI Uf bH;refine SL aS (by simp[aH,aN,(hx 0).1];exact(hx 0).2) fun o=>?_;simp[Pv.look];simp only[iw H,H.slc,H.ssc,il,f1,f2,f3];refine Ds bc (nJ H d v1) (sF _ _ _) (by simp[aH,aN,(hx v1).1];exact(hx v1).2) fun o=>?_;simp[Pv.look];simp only[iw H,H.slc,H.ssc,il,f1,f2,f3];refine Ds bT (nJ H d v2) (sF _ _ _) (by simp[aH,aN,(hx v2).1];exact(hx v2).2) fun o=>?_;simp[Pv.look];simp only[iw H,H.slc,H.ssc,il,f1,f2,f3];refine Ds dI (nJ H d v3) (sF _ _ _) (by simp[aH,aN,(hx v3).1];exact(hx v3).2) fun o=>?_;have tl:((v:Int)==0)=decide (v=0):=by rw[qt];simp
   have CW:((v:Int)==12)=decide (v=12):=by rw[qt];simp;omega
   simp[Pv.look,fi];rcases(by omega:v=0∨v=12∨(v≠0∧v≠12))with bD|bD|bD
   ·have ab:((v:Int)==0)=true:=by rw[tl];simp[bD]
    (with_reducible repeat' first|refine aj ?_|simp[ab]);all_goals exact dz _ _ _ x .increasing rfl rfl (by rw[bH];simp[bD]) (zL _ v)
   ·have ab:((v:Int)==0)=false:=by rw[tl];simp[bD]
    have po:((v:Int)==12)=true:=by rw[CW];simp[bD]
    (with_reducible repeat' first|refine aj ?_|simp[ab,po]);all_goals exact dz _ _ _ x .decreasing rfl rfl (by rw[bH];simp[bD]) (zL _ v)
   ·have ab:((v:Int)==0)=false:=by rw[tl];simp[bD.1]
    have po:((v:Int)==12)=false:=by rw[CW];simp[bD.2]
    (with_reducible repeat' first|refine aj ?_|simp[ab,po]);all_goals exact dz _ _ _ x .unknown rfl rfl (by rw[bH];simp[bD]) (zL _ v)
end Go.Proofs.YtohaalphocaebaaGreat
namespace Go.Proofs.YtohaalphocaebaaGreat
open Go Go.Pv
variable {α:Type} [Inhabited α] {S:List α→cI} {n g b5:Nat} {lc b1:List ah} {lt:α→α→Bool}
theorem alI:∀x:Nat,x<256→((([0,1,2,2,3,3,3,3,4,4,4,4,4,4,4,4,5,5,5,5,5,5,5,5,5,5,5,5,5,5,5,5,6,6,6,6,6,6,6,6,6,6,6,6,6,6,6,6,6,6,6,6,6,6,6,6,6,6,6,6,6,6,6,6,7,7,7,7,7,7,7,7,7,7,7,7,7,7,7,7,7,7,7,7,7,7,7,7,7,7,7,7,7,7,7,7,7,7,7,7,7,7,7,7,7,7,7,7,7,7,7,7,7,7,7,7,7,7,7,7,7,7,7,7,7,7,7,7,8,8,8,8,8,8,8,8,8,8,8,8,8,8,8,8,8,8,8,8,8,8,8,8,8,8,8,8,8,8,8,8,8,8,8,8,8,8,8,8,8,8,8,8,8,8,8,8,8,8,8,8,8,8,8,8,8,8,8,8,8,8,8,8,8,8,8,8,8,8,8,8,8,8,8,8,8,8,8,8,8,8,8,8,8,8,8,8,8,8,8,8,8,8,8,8,8,8,8,8,8,8,8,8,8,8,8,8,8,8,8,8,8,8,8,8,8,8,8,8,8,8,8,8,8,8,8,8]:List cQ)[x]?).getD 0).toNat=Sort.bitsLen x:=by decide+kernel
theorem Cg(x:Int):x.fdiv (2 ^ (min 32 ht.bits))=x/4294967296:=by rw[show(2:Int) ^ (min 32 ht.bits)=4294967296 from by decide,Int.fdiv_eq_ediv_of_nonneg _ (by omega)]
theorem Cf(x:Int):x.fdiv (2 ^ (min 16 ht.bits))=x/65536:=by rw[show(2:Int) ^ (min 16 ht.bits)=65536 from by decide,Int.fdiv_eq_ediv_of_nonneg _ (by omega)]
theorem Ch(x:Int):x.fdiv (2 ^ (min 8 ht.bits))=x/256:=by rw[show(2:Int) ^ (min 8 ht.bits)=256 from by decide,Int.fdiv_eq_ediv_of_nonneg _ (by omega)]
theorem Ea(x:Nat)(h:x<256):IntKind.u8.wrap (x:Int)=x:=by simp[sB,nF,rl];omega
theorem IQ(x k:Nat)(h:2 ^ k≤x):Sort.bitsLen x=Sort.bitsLen (x/2 ^ k)+k:=by
 have ab:x≠0:=by have:=Nat.two_pow_pos k;omega
 have bu:x/2 ^ k≠0:=by have:=Nat.div_pos h (Nat.two_pow_pos k);omega
 unfold Sort.bitsLen;rw[if_neg ab,if_neg bu];have aq:=Nat.log2_lt ab (k:=Nat.log2 (x/2 ^ k)+k+1);have J:Nat.log2 (x/2 ^ k)+k≤Nat.log2 x:=by
  rw[Nat.le_log2 ab,Nat.pow_add];have:=Nat.log2_self_le bu;calc 2 ^ (x/2 ^ k).log2*2 ^ k≤(x/2 ^ k)*2 ^ k:=Nat.mul_le_mul_right _ this
   _≤x:=Nat.div_mul_le_self x _
 have U:Nat.log2 x<Nat.log2 (x/2 ^ k)+k+1:=by rw[aq,show Nat.log2 (x/2 ^ k)+k+1=(Nat.log2 (x/2 ^ k)+1)+k by omega,Nat.pow_add];have:=Nat.lt_log2_self (n:=x/2 ^ k);exact(Nat.div_lt_iff_lt_mul (Nat.two_pow_pos k)).1 this
 omega
set_option maxRecDepth 20000 in
theorem al1(x:Nat)(ab:x<1099511627776):bS az 259 [.int .u64 x] (.int .i64 (Sort.bitsLen x)):=by
 refine bS.mk mixed n3 abS aiD (by simp) (by simp[aH]) fun aP=>?_;unfold PV;have aL:=alI;generalize uy:([0,1,2,2,3,3,3,3,4,4,4,4,4,4,4,4,5,5,5,5,5,5,5,5,5,5,5,5,5,5,5,5,6,6,6,6,6,6,6,6,6,6,6,6,6,6,6,6,6,6,6,6,6,6,6,6,6,6,6,6,6,6,6,6,7,7,7,7,7,7,7,7,7,7,7,7,7,7,7,7,7,7,7,7,7,7,7,7,7,7,7,7,7,7,7,7,7,7,7,7,7,7,7,7,7,7,7,7,7,7,7,7,7,7,7,7,7,7,7,7,7,7,7,7,7,7,7,7,8,8,8,8,8,8,8,8,8,8,8,8,8,8,8,8,8,8,8,8,8,8,8,8,8,8,8,8,8,8,8,8,8,8,8,8,8,8,8,8,8,8,8,8,8,8,8,8,8,8,8,8,8,8,8,8,8,8,8,8,8,8,8,8,8,8,8,8,8,8,8,8,8,8,8,8,8,8,8,8,8,8,8,8,8,8,8,8,8,8,8,8,8,8,8,8,8,8,8,8,8,8,8,8,8,8,8,8,8,8,8,8,8,8,8,8,8,8,8,8,8,8,8,8,8,8,8,8]:List cQ)=tab at aL⊢;have zK:tab.length=256:=by rw[←uy];rfl
 clear uy;simp[zK];have ae:∀y:Nat,y<256→Sort.bitsLen y≤8:=by decide+kernel
 have afA:4294967296≤x→Sort.bitsLen x=Sort.bitsLen (x/4294967296)+32:=fun h=>IQ x 32 h;have Ty:∀y,65536≤y→Sort.bitsLen y=Sort.bitsLen (y/65536)+16:=fun y h=>IQ y 16 h;have TB:∀y,256≤y→Sort.bitsLen y=Sort.bitsLen (y/256)+8:=fun y h=>IQ y 8 h;by_cases J:4294967296≤x
 ·have nP:(4294967296:Int)≤x:=by omega
  have g1:¬(65536:Int)≤(x:Int)/4294967296:=by omega
  have g3:¬(256:Int)≤(x:Int)/4294967296:=by omega
  (with_reducible repeat' first|refine aj ?_|simp[nP,g1,g3,Cg,Cf,Ch,zK]);have aD:x/4294967296<256:=by omega
  have hP:=ae _ aD;have eQ:(x:Int)/4294967296=((x/4294967296:Nat):Int):=by omega
  rw[eQ,Ea _ aD,Int.toNat_natCast];refine⟨by omega,?_⟩;have e:=aL _ aD;rw[e,ml _ (by omega)];refine⟨by unfold oK;omega,?_⟩;simp[bp,A9,aT,aW,aQ];try((rw[afA J])<;>omega)
 ·have nP:¬(4294967296:Int)≤x:=by omega
  by_cases U:65536≤x
  ·have g2:(65536:Int)≤x:=by omega
   by_cases ao:256≤x/65536
   ·have g3:(256:Int)≤(x:Int)/65536:=by omega
    (with_reducible repeat' first|refine aj ?_|simp[nP,g2,g3,Cg,Cf,Ch,zK]);have aD:x/65536/256<256:=by omega
    have hP:=ae _ aD;have eQ:(x:Int)/65536/256=((x/65536/256:Nat):Int):=by omega
    rw[eQ,Ea _ aD,Int.toNat_natCast];refine⟨by omega,?_⟩;have e:=aL _ aD;rw[e,ml _ (by omega)];refine⟨by unfold oK;omega,?_⟩;simp[bp,A9,aT,aW,aQ];try((rw[Ty x U,TB _ ao])<;>omega)
   ·have g3:¬(256:Int)≤(x:Int)/65536:=by omega
    (with_reducible repeat' first|refine aj ?_|simp[nP,g2,g3,Cg,Cf,Ch,zK]);have aD:x/65536<256:=by omega
    have hP:=ae _ aD;have eQ:(x:Int)/65536=((x/65536:Nat):Int):=by omega
    rw[eQ,Ea _ aD,Int.toNat_natCast];refine⟨by omega,?_⟩;have e:=aL _ aD;rw[e,ml _ (by omega)];refine⟨by unfold oK;omega,?_⟩;simp[bp,A9,aT,aW,aQ];try((rw[Ty x U])<;>omega)
  ·have g2:¬(65536:Int)≤x:=by omega
   by_cases ao:256≤x
   ·have g3:(256:Int)≤x:=by omega
    (with_reducible repeat' first|refine aj ?_|simp[nP,g2,g3,Cg,Cf,Ch,zK]);have aD:x/256<256:=by omega
    have hP:=ae _ aD;have eQ:(x:Int)/256=((x/256:Nat):Int):=by omega
    rw[eQ,Ea _ aD,Int.toNat_natCast];refine⟨by omega,?_⟩;have e:=aL _ aD;rw[e,ml _ (by omega)];refine⟨by unfold oK;omega,?_⟩;simp[bp,A9,aT,aW,aQ];try((rw[TB x ao])<;>omega)
   ·have g3:¬(256:Int)≤x:=by omega
    (with_reducible repeat' first|refine aj ?_|simp[nP,g2,g3,Cg,Cf,Ch,zK]);have aD:x<256:=by omega
    have hP:=ae _ aD;have eQ:(x:Int)=((x:Nat):Int):=by omega
    rw[eQ,Ea _ aD,Int.toNat_natCast];refine⟨by omega,?_⟩;have e:=aL _ aD;rw[e,ml _ (by omega)];refine⟨by unfold oK;omega,?_⟩;simp[bp,A9,aT,aW,aQ];try((rw[show Sort.bitsLen x=Sort.bitsLen x from rfl])<;>omega)
theorem al0(x:Nat)(ab:x<1099511627776):bS az 209 [.int .u64 x] (.int .i64 (Sort.bitsLen x)):=by refine bS.mk mixed n3 abR aiC (by simp) (by simp[aH]) fun aP=>?_;unfold PU;have agV:=al1 x ab;exact cB
theorem ZA(x:Nat)(ab:x<1099511627776):Sort.bitsLen x≤40:=by
 unfold Sort.bitsLen;split
 ·omega
 ·rename_i h;have:=(Nat.log2_lt h (k:=40)).2 (by omega);omega
theorem alP{x:Nat}(h:x≠0):2 ^ Sort.bitsLen x≤2*x∧x<2 ^ Sort.bitsLen x:=by unfold Sort.bitsLen;rw[if_neg h];have J:=Nat.log2_self_le h;have U:=Nat.lt_log2_self (n:=x);rw[Nat.pow_succ];rw[Nat.pow_succ]at U;omega
theorem amC(x:Nat)(ab:x<1099511627776):bS az 279 [.int .i64 x] (.int .u64 (1<<<Sort.bitsLen x:Nat)):=by
 have ae:=ZA x ab;have ai:ht.wrap ((x:Nat):Int)=x:=by simp[sB,nF,rl];omega
 have ax:ht.wrap ((Sort.bitsLen x:Nat):Int)=Sort.bitsLen x:=by simp[sB,nF,rl];omega
 refine bS.mk mixed n3 abZ aiK (by simp) (by simp[aH]) fun aP=>?_;unfold P2;simp[ai];refine cM.val (by simp) (al0 x ab) ?_;simp[ai,ax];simp[bp,Wt,aT,aW,aQ];have hm:min (Sort.bitsLen x) ht.bits=Sort.bitsLen x:=by simp[nF];omega
 have bB:2 ^ Sort.bitsLen x≤2 ^ 40:=Nat.pow_le_pow_right (by omega) ae;rw[hm];have ar:((2:Int) ^ Sort.bitsLen x)=((2 ^ Sort.bitsLen x:Nat):Int):=by simp
 have uB:((1<<<Sort.bitsLen x:Nat):Int)=((2 ^ Sort.bitsLen x:Nat):Int):=by rw[Nat.one_shiftLeft]
 have sY:ht.wrap ((2:Int) ^ Sort.bitsLen x)=((1<<<Sort.bitsLen x:Nat):Int):=by rw[ar,uB];generalize 2 ^ Sort.bitsLen x=y at bB;simp[sB,nF,rl];omega
 simpa using sY
def mU(r:Nat):cI:=⟨[(.obj 902,[.int .u64 r])],[]⟩
theorem IA(r:Nat):dL (mU r):=by unfold mU;exact(dL.of ⟨by intro m;simp[Pv.look],by intro m;simp[Pv.look]⟩ (by simp[aN,aH,inObs,Pv.look]) (by simp[aN,aH,inObs,Pv.look]))
theorem Oq(a b:Nat):Same (mU a) (mU b):=⟨fun k=>by simp only[mU,Pv.look];split<;>rfl,fun _=>rfl⟩
theorem IT(a b:Nat)(bk:a<18446744073709551616)(ae:b<18446744073709551616):ht.wrap ((lX ht.bits (a:Int) ^^^ lX ht.bits (b:Int)).toNat:Int)=(a ^^^ b:Nat):=by
 have ao:a ^^^ b<18446744073709551616:=Nat.xor_lt_two_pow (n:=64) bk ae;have e:(lX ht.bits (a:Int) ^^^ lX ht.bits (b:Int)).toNat=a ^^^ b:=by
  rw[BitVec.toNat_xor,BitVec.toNat_ofInt,BitVec.toNat_ofInt];have ai:((a:Int)%(2 ^ ht.bits:Nat)).toNat=a:=by simp[nF];omega
  have ax:((b:Int)%(2 ^ ht.bits:Nat)).toNat=b:=by simp[nF];omega
  rw[ai,ax]
 rw[e];generalize a ^^^ b=c at ao;simp[sB,nF,rl];omega
theorem ala(r:Nat):ht.wrap ((r:Int)*2 ^ (min 13 ht.bits))=(r*8192%18446744073709551616:Nat):=by simp[sB,nF,rl]
theorem alb(r:Nat):ht.wrap ((r:Int)*2 ^ (min 17 ht.bits))=(r*131072%18446744073709551616:Nat):=by simp[sB,nF,rl]
theorem alc(r:Nat):((r:Int)).fdiv (2 ^ (min 7 ht.bits))=(r/128:Nat):=by rw[show(2:Int) ^ (min 7 ht.bits)=128 from by decide,Int.fdiv_eq_ediv_of_nonneg _ (by omega)];omega
theorem adi(r:Nat)(aK:r<18446744073709551616):bC az 280 [.ptr (.obj 902) 0] (mU r) fun eg s'=>eg= .int .u64 (Sort.xorNextN r)∧s'=mU (Sort.xorNextN r):=by
 have af:=IA r;unfold mU at af⊢;refine bC.mk mixed n3 acb aiW (by simp) af.obj fun aP cF=>?_;unfold Qe;obtain⟨m1,Th⟩:∃m,m=r*8192%18446744073709551616:=⟨_,rfl⟩;have s1:=ala r;rw[←Th]at s1;have jY:m1<18446744073709551616:=by omega
 obtain⟨bt,ll⟩:∃m,m=r ^^^ m1:=⟨_,rfl⟩;have t1:=IT r m1 aK jY;rw[←ll]at t1;have UA:bt<18446744073709551616:=by rw[ll];exact Nat.xor_lt_two_pow (n:=64) aK jY
 obtain⟨m2,Ti⟩:∃m,m=bt/128:=⟨_,rfl⟩;have s2:=alc bt;rw[←Ti]at s2;have gX:m2<18446744073709551616:=by omega
 obtain⟨a2,pW⟩:∃m,m=bt ^^^ m2:=⟨_,rfl⟩;have t2:=IT bt m2 UA gX;rw[←pW]at t2;have agX:a2<18446744073709551616:=by rw[pW];exact Nat.xor_lt_two_pow (n:=64) UA gX
 obtain⟨m3,Tj⟩:∃m,m=a2*131072%18446744073709551616:=⟨_,rfl⟩;have s3:=alb a2;rw[←Tj]at s3;have agW:m3<18446744073709551616:=by omega
 obtain⟨a3,FD⟩:∃m,m=a2 ^^^ m3:=⟨_,rfl⟩;have t3:=IT a2 m3 agX agW;rw[←FD]at t3;have bH:Sort.xorNextN r=a3:=by unfold Sort.xorNextN;simp only[←Th,←ll,←Ti,←pW,←Tj,←FD]
 rw[bH];simp[-BitVec.toNat_xor,-BitVec.ofInt_natCast,s1,t1,s2,t2,s3,t3];have a1:=IA a3;have b2:=Oq r a3;unfold mU at a1 b2;refine cJ.at _ (.inl rfl) a1 b2 aG aG ?_;simp[cP,Ww,aT,aW,aQ]
end Go.Proofs.YtohaalphocaebaaGreat
namespace Go.Proofs.YtohaalphocaebaaGreat
open Go Go.Pv
variable {α:Type} [Inhabited α] {S:List α→cI} {n g b5:Nat} {lc b1:List ah} {lt:α→α→Bool}
theorem Zv(a b:Nat)(bk:a<18446744073709551616)(ae:b<18446744073709551616):ht.wrap ((lX ht.bits (a:Int)&&& lX ht.bits (b:Int)).toNat:Int)=(a&&& b:Nat):=by
 have ao:a&&& b<18446744073709551616:=Nat.lt_of_le_of_lt Nat.and_le_left bk;have e:(lX ht.bits (a:Int)&&& lX ht.bits (b:Int)).toNat=a&&& b:=by
  rw[BitVec.toNat_and,BitVec.toNat_ofInt,BitVec.toNat_ofInt];have ai:((a:Int)%(2 ^ ht.bits:Nat)).toNat=a:=by simp[nF];omega
  have ax:((b:Int)%(2 ^ ht.bits:Nat)).toNat=b:=by simp[nF];omega
  rw[ai,ax]
 rw[e];generalize a&&& b=c at ao;simp[sB,nF,rl];omega
def zi(a len M i0:Nat)(d:Array α):Nat→UInt64×Array α
 |0=>(UInt64.ofNat len,d)
 |k+1=>Sort.breakStep a len M (zi a len M i0 d k) (i0+k)
theorem ZD(d:Array α)(a b:Nat)(h:8≤b-a):Sort.breakPatterns d a b=(zi a (b-a) (1<<<Sort.bitsLen (b-a)) (a+(b-a)/4*2-1) d 3).2:=by unfold Sort.breakPatterns;simp only[if_pos h,zi];rfl
theorem Yv{ob O:List aJ}{s':cI}(fM:dL s')(dh:∀k,inObs s' k→k∈O)(uL:∀k∈ob,k∈O){st:bh}{dF:List (Nat×ah)}{L:List (aJ×List ah)}{n:Nat}(aL:∀x∈dF,Pv.get x.1 st.t=x.2∧aH (mf s' n) x.2)(hg:∀x∈L,Pv.look x.1 st.b=some x.2∧mf s' n x.1∧aN (mf s' n) x.2)
  (ae:∀k cs,Pv.look k s'.b=some cs→Pv.look k st.b=some cs) (he:∀k o,Pv.look k s'.e=some o→Pv.look k st.e=some o):iM ob st ⟨dF,L++s'.b,s'.e,n,O⟩:=by
 have l6:∀{k},mf s' n k→¬fresh n O k:=by
  rintro k (h|⟨m,hm,rfl⟩)
  ·exact fun aO=>aO.2 (dh k h)
  ·intro aO;have:=aO.1;simp at this;omega
 refine⟨fun x ab=>⟨(aL x ab).1,wA (fun k ad=>l6 ad) _ (aL x ab).2⟩,fun k cs ad=>?_,fun k o av=>?_,uL⟩
 ·simp only at ad;rw[cH]at ad;cases aq:Pv.look k L with
  |some x=>rw[aq]at ad;simp only[dw]at ad;subst ad;obtain⟨J,U,ao⟩:=hg _ (tv aq);exact⟨J,l6 U,jX (fun k ad=>l6 ad) _ ao⟩
  |none=>rw[aq]at ad;exact⟨ae k cs ad,l6 (.inl (.inl (by simp[ad]))),jX (fun k ad=>l6 (.inl ad)) _ (fM.kb k cs ad)⟩
 ·exact⟨he k o av,l6 (.inl (.inr (by simp at av;simp[av]))),fun xs ab=>jX (fun k ad=>l6 (.inl ad)) _ (fM.ke k o av xs ab)⟩
theorem N6{amY β:Type}(s:List (aJ×β)):∀(l:List (aJ×amY)),(∀k x,(k,x)∈l→Pv.look k s=none)→b0 s l=l
 |[],_=>rfl
 |(k,x)::r,h=>by have J:=h k x (by simp);simp only[b0,J];rw[N6 s r fun k x ab=>h k x (by simp[ab])]
def js(S:List α→cI)(d:Array α)(r:Nat):cI:=⟨(.obj 902,[.int .u64 r])::(S d.toList).b,(S d.toList).e⟩
theorem EC(H:e7 S n g b5 lc b1 lt)(d:Array α)(v:Nat):dL (js S d v):=by
 have h:=H.ok d.toList;have jf:∀k,inObs (S d.toList) k→inObs (js S d v) k:=fun k ad=>by
  rcases ad with ad|ad
  ·refine .inl ?_;simp only[js,Pv.look];split
   ·rfl
   ·exact ad
  ·exact .inr ad
 refine⟨⟨fun m=>?_,h.obj.2⟩,fun k cs ad=>?_,fun k o av xs ab=>jX jf _ (h.ke k o av xs ab)⟩
 ·simp[js,Pv.look,h.obj.1 m]
 ·simp only[js,Pv.look]at ad;split at ad
  ·cases ad;simp[aN,aH]
  ·exact jX jf _ (h.kb k cs ad)
theorem Yu{ob O:List aJ}{d2:Array α}{y:Nat}{D:List ah}(fM:dL (js S d2 y))(dh:∀k,inObs (js S d2 y) k→k∈O)(uL:∀k∈ob,k∈O){st:bh}{dF:List (Nat×ah)}(aL:∀x∈dF,Pv.get x.1 st.t=x.2∧aH (mf (js S d2 y) 1) x.2)(bD:Pv.look (.loc 0) st.b=some D)(lh:aN (mf (js S d2 y) 1) D)
  (ae:∀k cs,Pv.look k (js S d2 y).b=some cs→Pv.look k st.b=some cs) (he:∀k o,Pv.look k (js S d2 y).e=some o→Pv.look k st.e=some o):iM ob st ⟨dF,(.loc 0,D)::(.obj 902,[.int .u64 y])::(S d2.toList).b,(S d2.toList).e,1,O⟩:=
 Yv (L:=[(.loc 0,D)]) fM dh uL aL (fun x ab=>by simp only[qv]at ab;subst ab;exact⟨bD,Vh _ _ _ (by omega),lh⟩) ae he
theorem adn(H:e7 S n g b5 lc b1 lt)(ad:sc S 902)(d:Array α)(aE:d.size=n)(a b:Nat)(ng:a≤b)(ae:b≤n)(hW:8≤b-a):
  bC az 262 [eY g b5 lc b1,.int .i64 a,.int .i64 b] (S d.toList) fun r s'=>r= .tuple []∧∃ca,s'=S ca.toList∧ca=Sort.breakPatterns d a b∧ca.size=n:=by
 have af:=H.ok d.toList;have aq:d.toList.length=n:=by simpa using aE
 have au:∀l m,Pv.look (.loc m) (S l).b=none:=fun l=>(H.ok l).obj.1;have hu:∀l m cs,cu (.loc m) cs (S l).b=(S l).b++[(.loc m,cs)]:=fun l m cs=>j4 (au l m);have av:∀m,aJ.loc m∉cZ (S d.toList):=j0 af.obj;have gz:∀l,Pv.look (.obj 902) (S l).b=none:=fun l=>(ad l).1;have ka:∀l,Pv.look (.obj 902) (S l).e=none:=fun l=>(ad l).2;have hle:=H.le;have lM:=Vj ad d.toList;rw[ZD d a b hW];obtain⟨len,hlen⟩:∃len,len=b-a:=⟨_,rfl⟩;rw[←hlen];obtain⟨M,ga⟩:∃M,M=1<<<Sort.bitsLen len:=⟨_,rfl⟩;rw[←ga];have aoy:len<M∧M≤2*len:=by have:=alP (x:=len) (by omega);rw[ga,Nat.one_shiftLeft];omega
 obtain⟨q,bu⟩:∃q,q=len/4:=⟨_,rfl⟩;rw[←bu];have ya:∀l D cs,cu (.obj 902) cs ((S l).b++[(.loc 0,D)])=(S l).b++[(.loc 0,D),(.obj 902,cs)]:=fun l D cs=>by rw[By (gz l)];rfl
 have TJ:∀l D x y,cu (.obj 902) y ((S l).b++[(.loc 0,D),(.obj 902,x)])=(S l).b++[(.loc 0,D),(.obj 902,y)]:=fun l D x y=>by rw[By (gz l)];simp[cu]
 have el:((b:Int)-a)=(len:Nat):=by omega
 have dp:mN.wrap ((len:Int).tdiv 4)=(q:Nat):=by rw[Int.tdiv_eq_ediv_of_nonneg (by omega),ml _ (by omega)];omega
 have ew:ht.wrap (len:Int)=len:=by simp[sB,nF,rl];omega
 refine bC.mk mixed n3 abU aiF (by simp) af.obj fun aP cF=>?_;unfold PX;have mw:=amC len (by omega);rw[←ga]at mw;simp[eY,hu,ya,TJ,av,lM,cH,au,gz,ka,Pv.look,cu,el,ew];have hT:mN.wrap ((len:Int)/4)=(q:Nat):=by rw[ml _ (by omega)];omega
 ((with_reducible repeat' first|refine aj ?_|refine aB mw ?_|refine aC mw ?_|simp[el,ew,dp,hT,hu,ya,TJ,av,lM,cH,au,gz,ka,Pv.look,cu]|((first|apply bG|apply bL|apply bK)<;>intro h<;>try simp at h))<;>(try exact cg));obtain⟨i0,CF⟩:∃i0,i0=a+q*2-1:=⟨_,rfl⟩;rw[←CF];have Z3:((a:Int)+q*2-1)=(i0:Nat):=by omega
 rw[Z3];have dh:∀(ch:Array α) r k,inObs (js S ch r) k→ch.size=n→k∈aJ.obj 902::cZ (S d.toList):=fun ch r k h eW=>by
  have eF:=H.same d.toList ch.toList aq (by simpa using eW);rcases h with h|h
  ·simp only[js,Pv.look]at h;split at h
   ·rename_i e;subst e;simp
   ·exact lA _ (tE (.inl (by rw[eF.b];exact h)))
  ·exact lA _ (tE (.inr (by rw[eF.e];exact h)))
 have xX:∀(ch:Array α) r,ch.size=n→aN (mf (js S ch r) 1) [.func g lc,.func b5 b1]:=fun ch r eW=>by
  have J:=H.kdata (lk:=ch.toList) (by simpa using eW);have U:aN (inObs (S ch.toList)) [.func g lc,.func b5 b1]:=by simpa[eY,aH,aN]using J
  refine jX (fun k ad=>.inl ?_) _ U;rcases ad with ad|ad
  ·refine .inl ?_;simp only[js,Pv.look];split
   ·rfl
   ·exact ad
  ·exact .inr ad
 have aoO:∀(ch:Array α) r D k cs,Pv.look k (js S ch r).b=some cs→Pv.look k ((.loc 0,D)::(js S ch r).b)=some cs:=fun ch r D k cs h=>by
  cases k with
  |loc m=>rw[(EC H ch r).obj.1 m]at h;cases h
  |obj m=>simpa[Pv.look]using h
 refine ou (fun(x:Nat×UInt64×Array α)=>⟨[(1,.int .i64 a),(3,.ptr (.loc 0) 0),(6,.int .i64 len),(7,.ptr (.obj 902) 0),(8,.int .u64 M),(9,.int .i64 ((i0+x.1:Nat):Int))],[(.loc 0,[.func g lc,.func b5 b1])]++(js S x.2.2 x.2.1.toNat).b,(js S x.2.2 x.2.1.toNat).e,1,aJ.obj 902::cZ (S d.toList)⟩) (fun x=>3-x.1)
  (fun x=>x.1≤3∧x.2.2.size=n∧zi a len M i0 d x.1=x.2) (0,UInt64.ofNat len,d) ?_ ⟨by simp,aE,rfl⟩ ?_
 ·refine Yv (EC H d _) (fun k h=>dh d _ k h aE) (fun k h=>lA _ h) (by simp[aH,inObs,js,Pv.look,mf]) ?_ ?_ aG
  ·intro x ab;simp only[qv]at ab;subst ab;exact⟨by simp[cH,au,Pv.look],Vh _ _ _ (by omega),xX d _ aE⟩
  ·intro k cs h;simp only[js,Pv.look]at h;rw[cH];split at h
   ·rename_i e;subst e;rw[gz];have:(UInt64.ofNat len).toNat=len:=by simp;omega
    rw[this]at h;simpa[Pv.look]using h
   ·rw[h]
 rintro⟨k,r,ch⟩ ⟨aS,bc,bT⟩ _;simp only at aS bc bT;have aK:=r.toNat_lt;obtain⟨x,ab⟩:∃x,x=r.toNat:=⟨_,rfl⟩;rw[←ab]at aK⊢;have iU:Sort.xorNextN x<18446744073709551616:=Sort.xorNextN_lt x (by omega);have KL:(Sort.xorNext r).toNat=Sort.xorNextN x:=by rw[Sort.xorNext_toNat,←ab]
 obtain⟨y,aD⟩:∃y,y=Sort.xorNextN x:=⟨_,rfl⟩;have ZY:ht.wrap ((M:Int)-1)=(M-1:Nat):=by simp[sB,nF,rl];omega
 have xN:=Zv y (M-1) (by omega) (by omega);obtain⟨z,aY⟩:∃z,z=y&&& (M-1):=⟨_,rfl⟩;rw[←aY]at xN;have aoV:z≤M-1:=by rw[aY];exact Nat.and_le_right
 have nO:mN.wrap (z:Int)=z:=by rw[ml _ (by omega)]
 by_cases aeX:k=3
 ·subst aeX;simp[js,Pv.look,hT];((with_reducible repeat' first|refine aj ?_|simp[hT]|((first|apply bG|apply bL|apply bK)<;>intro h<;>try simp at h))<;>(try exact cg));refine cJ.at (S ch.toList) (.inr rfl) (H.ok _) (H.same _ _ aq (by simpa using bc)) (fun k cs h=>?_) (fun _ _ h=>h) ?_
  ·simp only[Pv.look];split
   ·rename_i e;subst e;rw[au]at h;cases h
   ·split
    ·rename_i e;subst e;rw[gz]at h;cases h
    ·exact h
  ·simp[cP,Wq,aT,aW,aQ];exact⟨ch,rfl,by rw[bT],bc⟩
 ·have v8:((i0+k:Nat):Int)≤(a:Int)+q*2+1:=by omega
  have Ta:((i0:Int)+k)≤(a:Int)+q*2+1:=by omega
  simp[js,Pv.look,hT,Ta,v8];(with_reducible repeat' first|refine aj ?_|simp[hT,Ta,v8,Pv.look]);have aoS:=H.same d.toList ch.toList aq (by simpa using bc);have afV:∀(fS:Array α) (v:List ah),b0 [(aJ.obj 902,v)] (S fS.toList).b=(S fS.toList).b:=fun fS v=>N6 _ _ fun k x hm=>by
   have:=u0 hm;simp only[Pv.look];split
   ·rename_i e;subst e;rw[gz]at this;cases this
   ·rfl
  refine cM.ob (adi x (by omega)) (IA x) (fun k cs h=>?_) (fun k o h=>by simp[mU,Pv.look]at h) (by simp[aH,aN,inObs,mU,Pv.look]) ?_
  ·simp only[mU,Pv.look]at h⊢;split at h
   ·rename_i e;subst e;simpa using h
   ·cases h
  rintro eg s' ⟨rfl,rfl⟩;refine⟨Oq _ _,?_⟩;rw[←aD];have aaZ:b0 (mU x).b ((aJ.loc 0,[ah.func g lc,ah.func b5 b1])::(aJ.obj 902,[ah.int .u64 x])::(S ch.toList).b)=(aJ.loc 0,[ah.func g lc,ah.func b5 b1])::(S ch.toList).b:=by simp[mU,b0,Pv.look,afV]
  have aa0:b0 (mU x).e (S ch.toList).e=(S ch.toList).e:=N6 _ _ fun _ _ _=>rfl;rw[aaZ,aa0,show(mU y).b=[(aJ.obj 902,[ah.int .u64 y])]from rfl,show(mU y).e=[]from rfl,List.append_nil];have aow:∀(v:List ah),Pv.look (.obj 902) ((aJ.loc 0,[ah.func g lc,ah.func b5 b1])::((S ch.toList).b++[(aJ.obj 902,v)]))=some v:=fun v=>by simp[Pv.look,cH,gz]
  have OW:∀o',o'<len→o'=(if z≥len then z-len else z)→Sort.breakStep a len M (r,ch) (i0+k)=(Sort.xorNext r,Sort.swp ch (i0+k) (a+o')):=fun o' J U=>by unfold Sort.breakStep;simp only[KL,←aD,←aY,←U]
  have Rl:((i0:Int)+k)=((i0+k:Nat):Int):=by omega
  simp only[eS,aJ.obj.injEq];simp[-BitVec.toNat_and,-BitVec.ofInt_natCast,ZY,xN,nO,Pv.look,H.ssc];by_cases aoW:len≤z
  ·have Lb:(len:Int)≤z:=by omega
   have JB:((a:Int)+(z-len))=((a+(z-len):Nat):Int):=by omega
   ((with_reducible repeat' first|refine aj ?_|simp[Lb,Pv.look,H.ssc]|((first|apply bG|apply bL|apply bK)<;>intro h<;>try simp at h))<;>(try exact cg));rw[JB,Rl];refine cM.ob (H.swap ch.toList (by simpa using bc) (by omega) (i0+k) (a+(z-len)) (by omega) (by omega)) (H.ok _) (fun k' cs h=>?_) (fun _ _ h=>h) (by simp[aH,aN,H.ksc ch.toList (by simpa using bc)]) ?_
   ·simp only[Pv.look];split
    ·rename_i e;subst e;rw[au]at h;cases h
    ·rw[cH,h]
   rintro eg s' ⟨rfl,rfl⟩;refine⟨H.same _ _ (by simpa using bc) (by simpa using bc),?_⟩;rw[GH ch (by omega) (by omega)];obtain⟨d2,eP⟩:∃d2,d2=Sort.swp ch (i0+k) (a+(z-len)):=⟨_,rfl⟩;have s2:d2.size=n:=by rw[eP,gM,bc]
   rw[←eP];have JG:∀v:List ah,b0 (S ch.toList).b ((aJ.loc 0,[ah.func g lc,ah.func b5 b1])::((S ch.toList).b++[(aJ.obj 902,v)]))=[(aJ.loc 0,[ah.func g lc,ah.func b5 b1]),(aJ.obj 902,v)]:=fun v=>by simp only[b0,au];rw[iG,gZ];simp[b0,gz]
   dsimp only;rw[JG,gZ];simp;(with_reducible repeat' first|refine aj ?_|simp);have Jx:((i0:Int)+k+1)=((i0+(k+1):Nat):Int):=by omega
   rw[Jx];refine bN.whl (k+1,Sort.xorNext r,d2) (by simp;omega) ⟨by simp;omega,s2,by simp only[zi,bT];rw[OW (z-len) (by omega) (by rw[if_pos (by omega)]),eP]⟩ ?_;rw[KL,←aD];refine Yu (EC H d2 y) (fun k h=>dh d2 _ k h s2) (fun k h=>lA _ h) (by simp[aH,inObs,js,Pv.look,mf]) (by simp[Pv.look]) (xX d2 _ s2) ?_ (fun _ _ h=>h);intro k cs h;simp only[js,Pv.look]at h⊢;split at h
   ·rename_i e;subst e;simpa using h
   ·rename_i e;split
    ·rename_i ax;subst ax;rw[au]at h;cases h
    ·exact h
  ·have Lb:¬(len:Int)≤z:=by omega
   have JB:((a:Int)+z)=((a+z:Nat):Int):=by omega
   ((with_reducible repeat' first|refine aj ?_|simp[Lb,Pv.look,H.ssc]|((first|apply bG|apply bL|apply bK)<;>intro h<;>try simp at h))<;>(try exact cg));rw[JB,Rl];refine cM.ob (H.swap ch.toList (by simpa using bc) (by omega) (i0+k) (a+z) (by omega) (by omega)) (H.ok _) (fun k' cs h=>?_) (fun _ _ h=>h) (by simp[aH,aN,H.ksc ch.toList (by simpa using bc)]) ?_
   ·simp only[Pv.look];split
    ·rename_i e;subst e;rw[au]at h;cases h
    ·rw[cH,h]
   rintro eg s' ⟨rfl,rfl⟩;refine⟨H.same _ _ (by simpa using bc) (by simpa using bc),?_⟩;rw[GH ch (by omega) (by omega)];obtain⟨d2,eP⟩:∃d2,d2=Sort.swp ch (i0+k) (a+z):=⟨_,rfl⟩;have s2:d2.size=n:=by rw[eP,gM,bc]
   rw[←eP];have JG:∀v:List ah,b0 (S ch.toList).b ((aJ.loc 0,[ah.func g lc,ah.func b5 b1])::((S ch.toList).b++[(aJ.obj 902,v)]))=[(aJ.loc 0,[ah.func g lc,ah.func b5 b1]),(aJ.obj 902,v)]:=fun v=>by simp only[b0,au];rw[iG,gZ];simp[b0,gz]
   dsimp only;rw[JG,gZ];simp;(with_reducible repeat' first|refine aj ?_|simp);have Jx:((i0:Int)+k+1)=((i0+(k+1):Nat):Int):=by omega
   rw[Jx];refine bN.whl (k+1,Sort.xorNext r,d2) (by simp;omega) ⟨by simp;omega,s2,by simp only[zi,bT];rw[OW z (by omega) (by rw[if_neg (by omega)]),eP]⟩ ?_;rw[KL,←aD];refine Yu (EC H d2 y) (fun k h=>dh d2 _ k h s2) (fun k h=>lA _ h) (by simp[aH,inObs,js,Pv.look,mf]) (by simp[Pv.look]) (xX d2 _ s2) ?_ (fun _ _ h=>h);intro k cs h;simp only[js,Pv.look]at h⊢;split at h
   ·rename_i e;subst e;simpa using h
   ·rename_i e;split
    ·rename_i ax;subst ax;rw[au]at h;cases h
    ·exact h
end Go.Proofs.YtohaalphocaebaaGreat
namespace Go.Proofs.YtohaalphocaebaaGreat
open Go Go.Pv
variable {α:Type} [Inhabited α] {S:List α→cI} {n g b5:Nat} {lc b1:List ah} {lt:α→α→Bool}
theorem e7.fnD{d d2:Array α}(H:e7 S n g b5 lc b1 lt)(J:d.size=n){f:Nat}{args:List ah}{r:ah}(aO:bC az f args (S d.toList) fun eg s'=>eg=r∧∃ca,s'=S ca.toList∧ca=d2∧ca.size=n)(ad:aN (inObs (S d.toList)) args){t:List (Nat×ah)}{D:List ah}{o:List aJ}{ca:Option Nat}{K:bh→Prop}
  (h:d2.size=n→∀o,K ⟨eS ca r t,(.loc 0,D)::(S d2.toList).b,(S d2.toList).e,1,o⟩):cM az f args ⟨t,(.loc 0,D)::(S d.toList).b,(S d.toList).e,1,o⟩ ca K:=
 H.call (by simpa using J) (R:=fun eg l'=>eg=r∧l'=d2.toList∧d2.size=n) (aO.mono fun r s' ⟨ai,ca,ax,bn,dp⟩=>⟨ca.toList,ax,ai,by rw[bn],by rw[←bn];exact dp⟩) (fun r l' ⟨_,e,h⟩=>by rw[e];simpa using h) ad (by rintro eg l' ⟨rfl,rfl,U⟩;exact h U _)
attribute [local simp] pd
def BL(S:List α→cI)(n g b5:Nat)(lc b1:List ah)(lt:α→α→Bool)(m:Nat):Prop:=
 ∀k,k<m→∀(d:Array α),d.size=n→∀a b wE:Nat,b-a≤k→a≤b→b≤n→wE≤1000→Sort.Below lt a b d→
  bC az 210 [eY g b5 lc b1,.int .i64 a,.int .i64 b,.int .i64 wE] (S d.toList) fun r s'=>r= .tuple []∧∃ca,s'=S ca.toList∧Sort.PermIn a b d ca∧Sort.SortedIn lt a b ca
structure xh (S:List α→cI) (n g b5:Nat) (lc b1:List ah) (lt:α→α→Bool) (be bV lim:Nat) (d:Array α) (Q:Exit→bh→Prop):Prop where
 k:∀e,e= .normal∨e= .exit 1→∀(a2 bO:Nat) (w v:Bool) (L:Array α) (t:List (Nat×ah)) (o:List aJ),L.size=n→a2≤bO→bO≤n→bO-a2<bV-be→Sort.Below lt a2 bO L→(∀R,Sort.PermIn a2 bO L R→Sort.SortedIn lt a2 bO R→Sort.PermIn be bV d R∧Sort.SortedIn lt be bV R)→
  Pv.get 1 t= .int .i64 a2→Pv.get 2 t= .int .i64 bO→Pv.get 3 t= .int .i64 lim→Pv.get 4 t= .ptr (.loc 0) 0→Pv.get 8 t= .bool w→Pv.get 9 t= .bool v→Q e ⟨t,(.loc 0,[.func g lc,.func b5 b1])::(S L.toList).b,(S L.toList).e,1,o⟩
 r:∀(R:Array α) t o,Sort.PermIn be bV d R→Sort.SortedIn lt be bV R→Q .ret ⟨t,(.loc 0,[.func g lc,.func b5 b1])::(S R.toList).b,(S R.toList).e,1,o⟩
theorem xh.mono{be bV lim:Nat}{d ca:Array α}{Q:Exit→bh→Prop}(h:xh S n g b5 lc b1 lt be bV lim d Q)(p:Sort.PermIn be bV d ca):xh S n g b5 lc b1 lt be bV lim ca Q:=⟨fun e he a2 bO w v L t o ai ax bn dp hT hU=>h.k e he a2 bO w v L t o ai ax bn dp hT fun R ev e2=>⟨Sort.permIn_trans _ _ _ be bV p (hU R ev e2).1,(hU R ev e2).2⟩,fun R t o ev e2=>h.r R t o (Sort.permIn_trans _ _ _ be bV p ev) e2⟩
structure zb (t:List (Nat×ah)) (be bV lim:Nat):Prop where
 t1:Pv.get 1 t= .int .i64 be
 t2:Pv.get 2 t= .int .i64 bV
 t3:Pv.get 3 t= .int .i64 lim
 t4:Pv.get 4 t= .ptr (.loc 0) 0
 t10:Pv.get 10 t= .int .i64 ((bV:Int)-be)
section
variable {be bV lim:Nat} {cE:Array α} {t:List (Nat×ah)} {o:List aJ} {ob:List aJ} {Q:Exit→bh→Prop}
theorem VQ(H:e7 S n g b5 lc b1 lt)(bm:Sort.SWO lt)(bP:BL S n g b5 lc b1 lt (bV-be)){pv:Nat}(T:zb t be bV lim)(t11:Pv.get 11 t= .int .i64 pv)(rS:lim≤1000)(oS:cE.size=n)(pZ:be≤pv∧pv<bV)(bT:bV≤n)(l3:12<bV-be)(tW:Sort.Below lt be bV cE)(ia:xh S n g b5 lc b1 lt be bV lim cE Q):
  c1 az ob I9 Q ⟨t,(.loc 0,[.func g lc,.func b5 b1])::(S cE.toList).b,(S cE.toList).e,1,o⟩:=by
 obtain⟨t1,t2,t3,t4,t10⟩:=T;have ta:∀fS:Array α,fS.size=n→aH (inObs (S fS.toList)) (eY g b5 lc b1):=fun fS h=>H.kdata (lk:=fS.toList) (by simpa using h);have hle:=H.le;unfold I9;simp[t1,t2,t4,t11,Pv.look,H.slc,H.ssc];simp only[iw H,H.slc,H.ssc,il];have q2:=adC H cE oS be bV pv pZ.1 pZ.2 (by omega) bT;have bu:Sort.partition lt cE be bV pv=((Sort.partition lt cE be bV pv).1,(Sort.partition lt cE be bV pv).2.1,(Sort.partition lt cE be bV pv).2.2):=rfl;generalize (Sort.partition lt cE be bV pv).1=mid at q2 bu;generalize (Sort.partition lt cE be bV pv).2.1=ap at q2 bu;generalize (Sort.partition lt cE be bV pv).2.2=d4 at q2 bu;obtain⟨g1,g2,g3,g4,g5,g6,g7⟩:=Sort.round_part bm (Sort.partition_holds lt) pZ.1 pZ.2 (by omega) tW bu;refine H.fnD oS q2 (by simp[aH,aN,ta cE oS]) fun s4 o=>?_;have em:((mid:Int)+1)=(mid+1:Nat):=by omega
 simp[t1,t2,t3,t4,t10];by_cases aoP:mid-be<bV-mid
 ·have KD:(mid:Int)-be<bV-mid:=by omega
  (with_reducible repeat' first|refine aj ?_|simp[KD,Pv.look,t1,t2,t3,t4,t10]);simp only[iw H,H.slc,H.ssc,il];refine H.doFn (lk:=d4.toList) (by simpa using s4) (R:=fun l'=> ∃L:Array α,l'=L.toList∧Sort.PermIn be mid d4 L∧Sort.SortedIn lt be mid L) ((bP (mid-be) (by omega) d4 s4 be mid lim (ff _) g1 (by omega) rS g4).mono fun r s' ⟨aV,ca,bf,bI,cN⟩=>⟨aV,ca.toList,bf,ca,rfl,bI,cN⟩) (by rintro l' ⟨L,rfl,q,_⟩;simpa using q.1.trans s4) (by simp[aN,aH,ta d4 s4]) ?_;rintro l' ⟨L,rfl,cC,da⟩;obtain⟨kM,oW⟩:=g6 L cC da;simp;(with_reducible repeat' first|refine aj ?_|simp[t1,t2,t3,t4]);rw[em];exact ia.k _ (.inl rfl) (mid+1) bV _ ap L _ _ (cC.1.trans s4) (by omega) bT (by omega) kM oW (by simp) (by simp[t2]) (by simp[t3]) (by simp[t4]) (by simp;rfl) (by simp)
 ·have KD:¬(mid:Int)-be<bV-mid:=by omega
  (with_reducible repeat' first|refine aj ?_|simp[KD,Pv.look,t1,t2,t3,t4,t10]);simp only[iw H,H.slc,H.ssc,il];rw[em];refine H.doFn (lk:=d4.toList) (by simpa using s4) (R:=fun l'=> ∃L:Array α,l'=L.toList∧Sort.PermIn (mid+1) bV d4 L∧Sort.SortedIn lt (mid+1) bV L) ((bP (bV-(mid+1)) (by omega) d4 s4 (mid+1) bV lim (ff _) (by omega) bT rS g5).mono fun r s' ⟨aV,ca,bf,bI,cN⟩=>⟨aV,ca.toList,bf,ca,rfl,bI,cN⟩) (by rintro l' ⟨L,rfl,q,_⟩;simpa using q.1.trans s4) (by simp[aN,aH,ta d4 s4]) ?_;rintro l' ⟨L,rfl,cC,da⟩;obtain⟨kM,oW⟩:=g7 L cC da;simp;(with_reducible repeat' first|refine aj ?_|simp[t1,t2,t3,t4]);exact ia.k _ (.inl rfl) be mid _ ap L _ _ (cC.1.trans s4) g1 (by omega) (by omega) kM oW (by simp[t1]) (by simp) (by simp[t3]) (by simp[t4]) (by simp;rfl) (by simp)
theorem ajK(H:e7 S n g b5 lc b1 lt)(bm:Sort.SWO lt)(bP:BL S n g b5 lc b1 lt (bV-be)){pv:Nat}(T:zb t be bV lim)(t11:Pv.get 11 t= .int .i64 pv){w v:Bool}(t8:Pv.get 8 t= .bool w)(t9:Pv.get 9 t= .bool v)(rS:lim≤1000)(oS:cE.size=n)(pZ:be≤pv∧pv<bV)(bT:bV≤n)(l3:12<bV-be)(tW:Sort.Below lt be bV cE)(ia:xh S n g b5 lc b1 lt be bV lim cE Q):
  c1 az ob BZ Q ⟨t,(.loc 0,[.func g lc,.func b5 b1])::(S cE.toList).b,(S cE.toList).e,1,o⟩:=by
 obtain⟨t1,t2,t3,t4,t10⟩:=id T;have hle:=H.le;unfold BZ;by_cases sX:0<be
 ·have Kl:(0:Int)<be:=by omega
  simp[t1,t2,t4,t11,sX,Kl,Pv.look,H.slc,H.ssc];(with_reducible repeat' first|refine aj ?_|simp[t1,t2,t4,t11,sX,Kl,Pv.look,H.slc,H.ssc]);rw[show((be:Int)-1)=((be-1:Nat):Int) by omega];refine H.lessA oS (be-1) pv (by omega) (by omega) fun o=>?_;cases jI:lt cE[be-1]! cE[pv]!
  ·simp;(with_reducible repeat' first|refine aj ?_|simp[Pv.look,H.slc,H.ssc,t1,t2,t4,t11]);simp only[iw H,H.slc,H.ssc,il];have q2:=adD H cE oS be bV pv pZ.1 pZ.2 (by omega) bT;have bu:Sort.partitionEqual lt cE be bV pv=((Sort.partitionEqual lt cE be bV pv).1,(Sort.partitionEqual lt cE be bV pv).2):=rfl;generalize (Sort.partitionEqual lt cE be bV pv).1=mid at q2 bu;generalize (Sort.partitionEqual lt cE be bV pv).2=d4 at q2 bu;obtain⟨g1,g2,g3,g4,g5⟩:=Sort.round_eq bm (Sort.partitionEqual_holds lt) sX pZ.1 pZ.2 (by omega) tW jI bu;refine H.fnD oS q2 (by simp[aH,aN,H.kdata (lk:=cE.toList) (by simpa using oS)]) fun s4 o=>?_;simp[t1,t2,t3,t4];exact ia.k _ (.inr rfl) mid bV w v d4 _ _ s4 g2 bT (by omega) g4 g5 (by simp) (by simp[t2]) (by simp[t3]) (by simp[t4]) (by simp[t8]) (by simp[t9])
  ·simp;exact VQ H bm bP ⟨by simp[t1],by simp[t2],by simp[t3],by simp[t4],by simp[t10]⟩ (by simp[t11]) rS oS pZ bT l3 tW ia
 ·have Kl:¬(0:Int)<be:=by omega
  simp[t1,sX];exact VQ H bm bP ⟨by simp[t1],by simp[t2],by simp[t3],by simp[t4],by simp[t10]⟩ (by simp[t11]) rS oS pZ bT l3 tW ia
theorem Ms(H:e7 S n g b5 lc b1 lt)(bm:Sort.SWO lt)(bP:BL S n g b5 lc b1 lt (bV-be)){pv:Nat}(T:zb t be bV lim)(t11:Pv.get 11 t= .int .i64 pv){h:Nat}(t12:Pv.get 12 t= .int .i64 h){w v:Bool}(t8:Pv.get 8 t= .bool w)(t9:Pv.get 9 t= .bool v)(rS:lim≤1000)(oS:cE.size=n)(pZ:be≤pv∧pv<bV)(bT:bV≤n)(l3:12<bV-be)(tW:Sort.Below lt be bV cE)(ia:xh S n g b5 lc b1 lt be bV lim cE Q):
  c1 az ob Ja Q ⟨t,(.loc 0,[.func g lc,.func b5 b1])::(S cE.toList).b,(S cE.toList).e,1,o⟩:=by
 obtain⟨t1,t2,t3,t4,t10⟩:=id T;have hle:=H.le;unfold Ja;have next:∀{d5:Array α} {t o},zb t be bV lim→Pv.get 11 t= .int .i64 pv→Pv.get 8 t= .bool w→Pv.get 9 t= .bool v→d5.size=n→Sort.Below lt be bV d5→Sort.PermIn be bV cE d5→c1 az ob BZ Q ⟨t,(.loc 0,[.func g lc,.func b5 b1])::(S d5.toList).b,(S d5.toList).e,1,o⟩:=fun ai ax bn dp hT hU ry=>ajK H bm bP ai ax bn dp rS hT pZ bT l3 hU (ia.mono ry)
 have skip:∀{t o},zb t be bV lim→Pv.get 11 t= .int .i64 pv→Pv.get 8 t= .bool w→Pv.get 9 t= .bool v→c1 az ob BZ Q ⟨t,(.loc 0,[.func g lc,.func b5 b1])::(S cE.toList).b,(S cE.toList).e,1,o⟩:=fun ai ax bn dp=>next ai ax bn dp oS tW (Sort.permIn_refl _ _ _)
 by_cases ar:(w=true∧v=true)∧h=1
 ·obtain⟨⟨rfl,rfl⟩,rfl⟩:=ar;simp[t1,t2,t4,t8,t9,t12,Pv.look,H.slc,H.ssc];simp only[iw H,H.slc,H.ssc,il];have q2:=adB H cE oS be bV (by omega) bT (by omega);have bu:=Sort.partialInsertionSort_holds bm cE be bV (by omega) (by omega) tW;generalize (Sort.partialInsertionSort lt cE be bV).1=d5 at q2 bu;generalize (Sort.partialInsertionSort lt cE be bV).2=ok at q2 bu;refine H.fnD oS q2 (by simp[aH,aN,H.kdata (lk:=cE.toList) (by simpa using oS)]) fun akX o=>?_;cases ok
  ·simp;exact next ⟨by simp[t1],by simp[t2],by simp[t3],by simp[t4],by simp[t10]⟩ (by simp[t11]) (by simp[t8]) (by simp[t9]) akX (tW.perm (by omega) bu.1) bu.1
  ·simp;exact ia.r _ _ _ bu.1 (bu.2 rfl)
 ·cases w
  ·simp[t8,t9,t12];exact skip ⟨by simp[t1],by simp[t2],by simp[t3],by simp[t4],by simp[t10]⟩ (by simp[t11]) (by simp[t8]) (by simp[t9])
  ·cases v
   ·simp[t8,t9,t12];exact skip ⟨by simp[t1],by simp[t2],by simp[t3],by simp[t4],by simp[t10]⟩ (by simp[t11]) (by simp[t8]) (by simp[t9])
   ·have J:((h:Int)==1)=false:=by simp at ar⊢;omega
    simp[t8,t9,t12,J];exact skip ⟨by simp[t1],by simp[t2],by simp[t3],by simp[t4],by simp[t10]⟩ (by simp[t11]) (by simp[t8]) (by simp[t9])
theorem VR(H:e7 S n g b5 lc b1 lt)(gz:sc S 901)(bm:Sort.SWO lt)(bP:BL S n g b5 lc b1 lt (bV-be))(T:zb t be bV lim){w v:Bool}(t8:Pv.get 8 t= .bool w)(t9:Pv.get 9 t= .bool v)(rS:lim≤1000)(s1:cE.size=n)(bT:bV≤n)(l3:12<bV-be)(Ir:Sort.Below lt be bV cE)(ia:xh S n g b5 lc b1 lt be bV lim cE Q):
  c1 az ob Jb Q ⟨t,(.loc 0,[.func g lc,.func b5 b1])::(S cE.toList).b,(S cE.toList).e,1,o⟩:=by
 obtain⟨t1,t2,t3,t4,t10⟩:=id T;have hle:=H.le;have ta:∀fS:Array α,fS.size=n→aH (inObs (S fS.toList)) (eY g b5 lc b1):=fun fS h=>H.kdata (lk:=fS.toList) (by simpa using h);unfold Jb;simp[t1,t2,t4,Pv.look,H.slc,H.ssc];simp only[iw H,H.slc,H.ssc,il];have uA:=Sort.choosePivot_holds lt cE be bV (by omega);have Lo:=ado H gz cE s1 be bV (by omega) bT;generalize Sort.choosePivot lt cE be bV=Jn at Lo uA;obtain⟨p,hint⟩:=Jn;simp only at Lo uA;refine H.fnA s1 s1 Lo (by simp[aH,aN,ta cE s1]) fun o=>?_;cases hint
 ·simp[zS];exact Ms H bm bP ⟨by simp[t1],by simp[t2],by simp[t3],by simp[t4],by simp[t10]⟩ (pv:=p) (by simp) (h:=0) (by simp) (w:=w) (v:=v) (by simp[t8]) (by simp[t9]) rS s1 uA bT l3 Ir ia
 ·simp[zS];exact Ms H bm bP ⟨by simp[t1],by simp[t2],by simp[t3],by simp[t4],by simp[t10]⟩ (pv:=p) (by simp) (h:=1) (by simp) (w:=w) (v:=v) (by simp[t8]) (by simp[t9]) rS s1 uA bT l3 Ir ia
 ·simp[zS,t1,t2,t4,Pv.look,H.slc,H.ssc];simp only[iw H,H.slc,H.ssc,il];refine H.fnD s1 (adI H cE s1 be bV (by omega) bT (by omega)) (by simp[aH,aN,ta cE s1]) fun s2 o=>?_;have aK:=Sort.reverseRange_holds cE be bV (by omega) (by omega);have Ro:((bV:Int)-1-(p-be))=((bV-1)-(p-be):Nat):=by omega
  simp[t1,t2,Ro];(with_reducible repeat' first|refine aj ?_|simp[Ro,t1,t2]);exact Ms H bm bP ⟨by simp[t1],by simp[t2],by simp[t3],by simp[t4],by simp[t10]⟩ (pv:=(bV-1)-(p-be)) (by simp) (h:=1) (by simp) (w:=w) (v:=v) (by simp[t8]) (by simp[t9]) rS s2 (by omega) bT l3 (Ir.perm (by omega) aK) (ia.mono aK)
end
theorem adE(H:e7 S n g b5 lc b1 lt)(gz:sc S 901)(ka:sc S 902)(bm:Sort.SWO lt)(m:Nat):∀(d:Array α) (aE:d.size=n) (a b wE:Nat) (hm:b-a≤m) (ng:a≤b) (ae:b≤n) (gV:wE≤1000) (Cu:Sort.Below lt a b d),
  bC az 210 [eY g b5 lc b1,.int .i64 a,.int .i64 b,.int .i64 wE] (S d.toList) fun r s'=>r= .tuple []∧∃ca,s'=S ca.toList∧Sort.PermIn a b d ca∧Sort.SortedIn lt a b ca:=by
 induction m using qw with
 |ind m bP=>
 intro d aE a b wE hm ng ae gV Cu;have af:=H.ok d.toList;have aq:d.toList.length=n:=by simpa using aE
 have au:∀l m,Pv.look (.loc m) (S l).b=none:=fun l=>(H.ok l).obj.1;have hu:∀l m cs,cu (.loc m) cs (S l).b=(S l).b++[(.loc m,cs)]:=fun l m cs=>j4 (au l m);have av:∀m,aJ.loc m∉cZ (S d.toList):=j0 af.obj;have hle:=H.le;refine bC.mk mixed n3 ab4 aiP (by simp) af.obj fun aP cF=>?_;unfold P7;simp[eY,hu,av,cH,au];refine H.loopA aq [4] (fun(x:((Nat×Nat×Nat)×Bool×Bool)×Array α)=>[(1,.int .i64 x.1.1.1),(2,.int .i64 x.1.1.2.1),(3,.int .i64 x.1.1.2.2),(8,.bool x.1.2.1),(9,.bool x.1.2.2)]) (·.2) (fun x=>x.1.1.2.1-x.1.1.1) (fun x=>x.2.size=n∧(x.1.1.1≤x.1.1.2.1∧x.1.1.2.1≤n∧x.1.1.2.1-x.1.1.1≤m∧x.1.1.2.2≤1000)∧Sort.Below lt x.1.1.1 x.1.1.2.1 x.2∧∀R,Sort.PermIn x.1.1.1 x.1.1.2.1 x.2 R→Sort.SortedIn lt x.1.1.1 x.1.1.2.1 R→Sort.PermIn a b d R∧Sort.SortedIn lt a b R)
  (((a,b,wE),true,true),d) aE ⟨aE,⟨ng,ae,hm,gV⟩,Cu,fun R J U=>⟨J,U⟩⟩ (by simp[cH,au]) aG aG (by simp[aH]) ?_
 rintro⟨⟨⟨be,bV,uZ⟩,amQ,wp⟩,ch⟩ ⟨aS,⟨bc,bT,dI,cY⟩,p5,Gq⟩;simp only at aS bc bT dI cY p5 Gq;have ta:∀fS:Array α,fS.size=n→aH (inObs (S fS.toList)) (eY g b5 lc b1):=fun fS h=>H.kdata (lk:=fS.toList) (by simpa using h);have HJ:∀(R:Array α) t o,Sort.PermIn be bV ch R→Sort.SortedIn lt be bV R→cJ Wu (S d.toList) (fun r s'=>r= .tuple []∧∃ca,s'=S ca.toList∧Sort.PermIn a b d ca∧Sort.SortedIn lt a b ca) .ret ⟨t,(.loc 0,[.func g lc,.func b5 b1])::(S R.toList).b,(S R.toList).e,1,o⟩:=fun R t o J U=>by refine H.retA aq (by rw[J.1];exact aS) (.inl rfl) ⟨rfl,R,rfl,Gq R J U⟩
 simp;by_cases l3:bV-be≤12
 ·have Cm:(bV:Int)-be≤12:=by omega
  (with_reducible repeat' first|refine aj ?_|simp[Cm,Pv.look,H.slc,H.ssc]);simp only[iw H,H.slc,H.ssc,il];refine H.fnD aS (ads H ch aS be bV bc bT) (by simp[aH,aN,ta ch aS]) fun s2 o=>?_;obtain⟨aV,bf⟩:=Sort.insertionSort_holds bm ch be bV bc (by omega);simp;exact HJ _ _ _ aV bf
 have Cm:¬(bV:Int)-be≤12:=by omega
 by_cases zV:uZ=0
 ·have FU:(((uZ:Nat):Int)==0)=true:=by simp[zV]
  (with_reducible repeat' first|refine aj ?_|simp[Cm,FU,Pv.look,H.slc,H.ssc]);simp only[iw H,H.slc,H.ssc,il];refine H.fnD aS (adr H ch aS be bV bc bT (by omega)) (by simp[aH,aN,ta ch aS]) fun s2 o=>?_;obtain⟨aV,bf⟩:=Sort.heapSort_holds bm ch be bV bc (by omega);simp;exact HJ _ _ _ aV bf
 have FU:(((uZ:Nat):Int)==0)=false:=by simp[zV]
 have C0:BL S n g b5 lc b1 lt (bV-be):=fun k ad=>bP k (by omega);cases amQ
 ·(with_reducible repeat' first|refine aj ?_|simp[Cm,FU,Pv.look,H.slc,H.ssc]);simp only[iw H,H.slc,H.ssc,il];refine H.fnD aS (adn H ka ch aS be bV bc bT (by omega)) (by simp[aH,aN,ta ch aS]) fun s1 o=>?_;have Ex:=Sort.breakPatterns_holds ch be bV bc (by omega);generalize Sort.breakPatterns ch be bV=d1 at s1 Ex;have el:((uZ:Int)-1)=(uZ-1:Nat):=by omega
  simp[el];(with_reducible repeat' first|refine aj ?_|simp[el,Pv.look]);refine VR (lim:=uZ-1) H gz bm C0 ⟨by simp,by simp,by simp,by simp,by simp⟩ (w:=false) (v:=wp) (by simp) (by simp) (by omega) s1 bT (by omega) (p5.perm (by omega) Ex) ⟨?_,fun R t o ev e2=>?_⟩
  ·rintro e he a2 bO w v L t o ai ax bn dp hT hU t1 t2 t3 t4 t8 t9;rcases he with rfl|rfl<;>simp<;>exact bN.whl (((a2,bO,uZ-1),w,v),L) (by simp;omega) ⟨ai,⟨ax,bn,by simp;omega,by simp;omega⟩,hT,fun R ev e2=>Gq R (Sort.permIn_trans _ _ _ be bV Ex (hU R ev e2).1) (hU R ev e2).2⟩ (H.weakC aq (by simpa using ai) (by simp[aH,t1,t2,t3,t4,t8,t9]))
  ·simpa using HJ R t o (Sort.permIn_trans _ _ _ be bV Ex ev) e2
 ·(with_reducible repeat' first|refine aj ?_|simp[Cm,FU,Pv.look,H.slc,H.ssc]);refine VR (lim:=uZ) H gz bm C0 ⟨by simp,by simp,by simp,by simp,by simp⟩ (w:=true) (v:=wp) (by simp) (by simp) cY aS bT (by omega) p5 ⟨?_,fun R t o ev e2=>?_⟩
  ·rintro e he a2 bO w v L t o ai ax bn dp hT hU t1 t2 t3 t4 t8 t9;rcases he with rfl|rfl<;>simp<;>exact bN.whl (((a2,bO,uZ),w,v),L) (by simp;omega) ⟨ai,⟨ax,bn,by simp;omega,cY⟩,hT,fun R ev e2=>Gq R (hU R ev e2).1 (hU R ev e2).2⟩ (H.weakC aq (by simpa using ai) (by simp[aH,t1,t2,t3,t4,t8,t9]))
  ·simpa using HJ R t o ev e2
end Go.Proofs.YtohaalphocaebaaGreat
namespace Go.Proofs
open Go.Shelf
def Tryz.lays6_ren:Go.Shelf.Ren:=⟨fun|6=>126|10=>206|11=>207|12=>208|13=>209|14=>210|24=>258|25=>259|26=>260|27=>261|28=>262|29=>263|30=>264|31=>265|32=>266|33=>267|34=>278|35=>279|36=>280|37=>281|38=>282|39=>285|n=>n,fun|20=>20|26=>160|35=>214|0=>0|37=>216|3=>3|41=>163|44=>222|49=>254|51=>256|4=>4|54=>259|53=>258|58=>246|5=>5|9=>9|60=>265|64=>269|66=>272|67=>273|17=>17|32=>211|33=>212|82=>300|12=>12|75=>293|76=>294|77=>295|78=>296|79=>297|80=>298|n=>n,fun|n=>n⟩
theorem Tryz.lays6:Go.Proofs.LaysGg.n6 az Tryz.lays6_ren:={
 mixed:=by kernel_rfl
 f6:=Tryz.func126.trans (eU some (by kernel_rfl))
 f10:=Tryz.func206.trans (eU some (by kernel_rfl))
 f11:=Tryz.func207.trans (eU some (by kernel_rfl))
 f12:=Tryz.func208.trans (eU some (by kernel_rfl))
 f13:=Tryz.func209.trans (eU some (by kernel_rfl))
 f14:=Tryz.func210.trans (eU some (by kernel_rfl))
 f24:=Tryz.func258.trans (eU some (by kernel_rfl))
 f25:=Tryz.func259.trans (eU some (by kernel_rfl))
 f26:=Tryz.func260.trans (eU some (by kernel_rfl))
 f27:=Tryz.func261.trans (eU some (by kernel_rfl))
 f28:=Tryz.func262.trans (eU some (by kernel_rfl))
 f29:=Tryz.func263.trans (eU some (by kernel_rfl))
 f30:=Tryz.func264.trans (eU some (by kernel_rfl))
 f31:=Tryz.func265.trans (eU some (by kernel_rfl))
 f32:=Tryz.func266.trans (eU some (by kernel_rfl))
 f33:=Tryz.func267.trans (eU some (by kernel_rfl))
 f34:=Tryz.func278.trans (eU some (by kernel_rfl))
 f35:=Tryz.func279.trans (eU some (by kernel_rfl))
 f36:=Tryz.func280.trans (eU some (by kernel_rfl))
 f37:=Tryz.func281.trans (eU some (by kernel_rfl))
 f38:=Tryz.func282.trans (eU some (by kernel_rfl))
 f39:=Tryz.func285.trans (eU some (by kernel_rfl))
 t0:=Tryz.underlying0
 a0:=Tryz.isAgg0
 z0:=Tryz.sizeOf0
 v0:=Tryz.zeroValue0
 i0:=by kernel_rfl
 t3:=Tryz.underlying3
 a3:=Tryz.isAgg3
 z3:=Tryz.sizeOf3
 v3:=Tryz.zeroValue3
 i3:=by kernel_rfl
 t4:=Tryz.underlying4
 a4:=Tryz.isAgg4
 z4:=Tryz.sizeOf4
 v4:=Tryz.zeroValue4
 i4:=by kernel_rfl
 t5:=Tryz.underlying5
 a5:=Tryz.isAgg5
 z5:=Tryz.sizeOf5
 v5:=Tryz.zeroValue5
 i5:=by kernel_rfl
 t9:=Tryz.underlying9
 a9:=Tryz.isAgg9
 z9:=Tryz.sizeOf9
 v9:=Tryz.zeroValue9
 i9:=by kernel_rfl
 t12:=Tryz.underlying12
 a12:=Tryz.isAgg12
 z12:=Tryz.sizeOf12
 v12:=Tryz.zeroValue12
 i12:=by kernel_rfl
 t17:=Tryz.underlying17
 a17:=Tryz.isAgg17
 z17:=Tryz.sizeOf17
 v17:=Tryz.zeroValue17
 i17:=by kernel_rfl
 t20:=Tryz.underlying20
 a20:=Tryz.isAgg20
 z20:=Tryz.sizeOf20
 v20:=Tryz.zeroValue20
 i20:=by kernel_rfl
 t26:=Tryz.underlying160
 a26:=Tryz.isAgg160
 z26:=Tryz.sizeOf160
 v26:=Tryz.zeroValue160
 i26:=by kernel_rfl
 t32:=Tryz.underlying211
 a32:=Tryz.isAgg211
 z32:=Tryz.sizeOf211
 v32:=Tryz.zeroValue211
 i32:=by kernel_rfl
 t33:=Tryz.underlying212
 a33:=Tryz.isAgg212
 z33:=Tryz.sizeOf212
 v33:=Tryz.zeroValue212
 i33:=by kernel_rfl
 t35:=Tryz.underlying214
 a35:=Tryz.isAgg214
 z35:=Tryz.sizeOf214
 v35:=Tryz.zeroValue214
 i35:=by kernel_rfl
 t37:=Tryz.underlying216
 a37:=Tryz.isAgg216
 z37:=Tryz.sizeOf216
 v37:=Tryz.zeroValue216
 i37:=by kernel_rfl
 t41:=Tryz.underlying163
 a41:=Tryz.isAgg163
 z41:=Tryz.sizeOf163
 v41:=Tryz.zeroValue163
 i41:=by kernel_rfl
 t44:=Tryz.underlying222
 a44:=Tryz.isAgg222
 z44:=Tryz.sizeOf222
 v44:=Tryz.zeroValue222
 i44:=by kernel_rfl
 t49:=Tryz.underlying254
 a49:=Tryz.isAgg254
 z49:=Tryz.sizeOf254
 v49:=Tryz.zeroValue254
 i49:=by kernel_rfl
 t51:=Tryz.underlying256
 a51:=Tryz.isAgg256
 z51:=Tryz.sizeOf256
 v51:=Tryz.zeroValue256
 i51:=by kernel_rfl
 t53:=Tryz.underlying258
 a53:=Tryz.isAgg258
 z53:=Tryz.sizeOf258
 v53:=Tryz.zeroValue258
 i53:=by kernel_rfl
 t54:=Tryz.underlying259
 a54:=Tryz.isAgg259
 z54:=Tryz.sizeOf259
 v54:=Tryz.zeroValue259
 i54:=by kernel_rfl
 t58:=Tryz.underlying246
 a58:=Tryz.isAgg246
 z58:=Tryz.sizeOf246
 v58:=Tryz.zeroValue246
 i58:=by kernel_rfl
 t60:=Tryz.underlying265
 a60:=Tryz.isAgg265
 z60:=Tryz.sizeOf265
 v60:=Tryz.zeroValue265
 i60:=by kernel_rfl
 t64:=Tryz.underlying269
 a64:=Tryz.isAgg269
 z64:=Tryz.sizeOf269
 v64:=Tryz.zeroValue269
 i64:=by kernel_rfl
 t66:=Tryz.underlying272
 a66:=Tryz.isAgg272
 z66:=Tryz.sizeOf272
 v66:=Tryz.zeroValue272
 i66:=by kernel_rfl
 t67:=Tryz.underlying273
 a67:=Tryz.isAgg273
 z67:=Tryz.sizeOf273
 v67:=Tryz.zeroValue273
 i67:=by kernel_rfl
 t75:=Tryz.underlying293
 a75:=Tryz.isAgg293
 z75:=Tryz.sizeOf293
 v75:=Tryz.zeroValue293
 i75:=by kernel_rfl
 t76:=Tryz.underlying294
 a76:=Tryz.isAgg294
 z76:=Tryz.sizeOf294
 v76:=Tryz.zeroValue294
 i76:=by kernel_rfl
 t77:=Tryz.underlying295
 a77:=Tryz.isAgg295
 z77:=Tryz.sizeOf295
 v77:=Tryz.zeroValue295
 i77:=by kernel_rfl
 t78:=Tryz.underlying296
 a78:=Tryz.isAgg296
 z78:=Tryz.sizeOf296
 v78:=Tryz.zeroValue296
 i78:=by kernel_rfl
 t79:=Tryz.underlying297
 a79:=Tryz.isAgg297
 z79:=Tryz.sizeOf297
 v79:=Tryz.zeroValue297
 i79:=by kernel_rfl
 t80:=Tryz.underlying298
 a80:=Tryz.isAgg298
 z80:=Tryz.sizeOf298
 v80:=Tryz.zeroValue298
 i80:=by kernel_rfl
 t82:=Tryz.underlying300
 a82:=Tryz.isAgg300
 z82:=Tryz.sizeOf300
 v82:=Tryz.zeroValue300
 i82:=by kernel_rfl}
end Go.Proofs
