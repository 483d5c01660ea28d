/- made by mk2.py: the code of the functions, and the checks against the program's own form. -/
import Derived.Test.YtlnndmgfngfeiaaGreatDoorProg
import Derived.Test.YtlnndmgfngfeiaaGreatDoorV5
set_option linter.all false
set_option maxHeartbeats 4000000
set_option maxRecDepth 4000
open Bool renaming and_eq_true->bF
open Go.IntKind renaming i64->iw
open Go.IntWalk renaming i64_in->lS
open Go.Proofs.Tryz renaming prog->aQ
open List renaming all_eq_true->hq,append_assoc->iI,append_nil->mg,cons_append->ds,drop_eq_getElem_cons->uk,drop_length->kG,getElem?_drop->lT,getElem?_eq_getElem->cS,getElem?_eq_some_iff->eV,length_append->fU,length_drop->hG,length_pos_iff->sY,map_cons->ek,mem_append->fM,mem_cons->gb,mem_of_getElem?->fq,nil_append->eW,take_add_one->kV,take_length->kH,take_of_length_le->rH,take_succ_cons->rI
open List.cons renaming injEq->w9
open Nat renaming eq_or_lt_of_le->jJ,le_refl->c7,lt_or_ge->lU,zero_le->o3
open Option renaming getD->lV,getD_some->qE,map_some->oa
open Option.some renaming inj->hd
open UInt8 renaming ofNat->pS
open _root_ renaming False->dD,Option->a1,UInt8->ah,beq_eq_false_iff_ne->jy,beq_iff_eq->dK,decide_eq_true->nD,decide_eq_true_eq->ea,if_neg->bo,if_pos->bP
namespace Go.Proofs.YtlnndmgfngfeiaaGreatDoor
section
open Go Go.Pv
def tU(o:a1 Int):al:= .tuple [.int .i64 (o.getD 0),.bool o.isSome]
theorem Mf(s:List ah)(aG:s.length<=bs):ct aQ 179 [.str s] (tU (gw s)):=by
 have eF:=ahW s aG;unfold xk at eF;unfold gw tU;rcases h:Lib.atoiAll s with v|_|_
 ·rw[h]at eF;obtain⟨Nd,ck⟩:=Lib.atoiAll_bounds h;have ey:=VG v (by unfold aZ;omega);simp only at eF⊢;by_cases he:Lib.itoa v=s
  ·rw[bP he];rw[he]at ey;refine bW jZ Ey Gc fun aL=>?_;unfold Br;exact cB
  ·rw[bo he];refine bW jZ Ey Gc fun aL=>?_;unfold Br;simp;((with_reducible repeat' first|refine av ?_|refine ba eF ?_|refine bb eF ?_|refine ba ey ?_|refine bb ey ?_|simp[he]|((first|apply cN|apply cP|apply cO)<;>intro h<;>try simp at h))<;>(try exact dr));simp[b8,TN,bg,bh,bf]
 ·rw[h]at eF;simp only at eF⊢;refine bW jZ Ey Gc fun aL=>?_;unfold Br;exact cB
 ·rw[h]at eF;simp only at eF⊢;refine bW jZ Ey Gc fun aL=>?_;unfold Br;exact cB
theorem vE(v:Int):ct aQ 86 [.int .i64 v] (T.var v).e:=by refine bW jZ ZL afq fun aL=>?_;unfold NY;exact cB
theorem VZ(g:List ah):ct aQ 207 [.str g] (T.sym g).e:=by refine bW jZ ZH afm fun aL=>?_;unfold NU;exact cB
theorem G8(k:Int):ct aQ 208 [.int .i64 k] (T.num k).e:=by refine bW jZ ZD afi fun aL=>?_;unfold NQ;exact cB
theorem Ss{l:List T}{i:Nat}{x:T}(h:l[i]? =some x)(t:T):gi (l.drop i) t= .pair x (gi (l.drop (i+1)) t):=by rw[fH h];rfl
def z1(l:List T)(k:Nat):List al:=if k=l.length then dv else cells (gi (l.drop k) .nil).e
theorem ad2(l:List T){k:Nat}(h:k<=l.length):∃a b c d,z1 l k=[.int .i64 a,.int .i64 b,.str c,d]/\(∀S:aO->Prop,ak S d=True)/\al.agg [.int .i64 a,.int .i64 b,.str c,cm d]=(gi (l.drop k) .nil).e:=by
 unfold z1;split
 ·rename_i h;rw[h,kG];exact⟨0,0,[],.slice 4 .nil [],rfl,fun S=>by simp[ak,aj],rfl⟩
 ·rw[Xc];refine⟨_,_,_,_,rfl,fun S=>by simp[ak],?_⟩;simp[cm]
theorem aif(l:List T):ct aQ 205 [.slice 4 .no (l.map T.e)] (gi l .nil).e:=by
 refine bW jZ ZB afg fun aL=>?_;unfold NO;have ao:l.length<=bs:=by simpa[lY,kn,kX]using aL
 have xQ:aZ ((l.length:Int)-1):=by unfold aZ;unfold bs at ao;omega
 clear aL;simp[xQ];(with_reducible repeat' first|refine av ?_|simp[xQ]);refine gf (fun j:Int=>⟨[(0,.slice 4 .no (l.map T.e)),(2,.ptr (.loc 0) 0),(3,.ptr (.loc 1) 0),(4,.int .i64 j)],[(.loc 0,dv),(.loc 1,z1 l (j+1).toNat)],[],2,[]⟩) (fun j=>(j+1).toNat) (fun j=> -1<=j/\j<l.length) (l.length-1) (by simp[z1];exact⟨by simp[fresh,aj,ak,bj,ag,Pv.look,dv],cg (by simp[fresh,aj,ak,bj,ag,Pv.look,dv]),ch (by simp[fresh,aj,ak,cc,ag,Pv.look,dv]),Ψ⟩) ⟨Ω,Ω⟩ ?_;rintro j ⟨E8,k1⟩ _;obtain⟨k,aa⟩:∃k,k=(j+1).toNat:=⟨_,rfl⟩;have e2:k<=l.length:=Ω
 simp only[<-aa];obtain⟨cC,aiJ,eM,aiK,cp,RD,eA⟩:=ad2 l e2;rw[cp];have k2:aZ (j-1):=by unfold aZ;unfold bs at ao;omega
 by_cases iK:0<=j
 ·obtain⟨n,rfl⟩:∃n:Nat,j=n:=⟨j.toNat,Ω⟩;obtain rfl:k=n+1:=Ω
  have aJ:n<l.length:=Ω
  obtain⟨x,ad,gr⟩:=gp aJ;have lH:=VU x (gi (l.drop (n+1)) .nil);simp[aJ,gr];(with_reducible repeat' first|refine av ?_|refine ba lH ?_|refine bb lH ?_|simp[aJ,gr,eA,RD,k2]);refine bU.whl ((n:Int)-1) Ω ⟨Ω,Ω⟩ ?_;have aB:((n:Int)-1+1).toNat=n:=Ω
  have aU:z1 l n=cells (gi (l.drop n) .nil).e:=by unfold z1;rw[bo Ω]
  rw[aB,aU,Ss ad];exact⟨by simp[fresh,aj,ak,bj,ag,Pv.look,dv],cg (by simp[fresh,aj,ak,bj,ag,Pv.look,dv]),ch (by simp[fresh,aj,ak,cc,ag,Pv.look,dv]),Ψ⟩
 ·obtain rfl:j= -1:=Ω
  obtain rfl:k=0:=Ω
  have adb:al.agg [al.int iw cC,al.int iw aiJ,al.str eM,cm aiK]=(gi l .nil).e:=eA;simp;simp[b8,TS,bg,bh,bf,cm,ca,adb,RD,ak,aj]
def NW:C:=(af [bZ 2 false] (.seq (.drawn true 13 [ab 3 0,gy 4 3,bm 5 1 1 4,a7 6 1 5,ab 7 0,gy 8 7,bm 9 0 1 8,a7 10 1 9,cJ 11 10,cA 12 .eql 6 11,ab 2 12]) .ret))
@[simp] def TV:List cu:=[.tmp 2]
def D8:C:=(af [gI 2 dv,bZ 3 false] (af [ab 7 0,cC 8 152 7,ab 6 8,dI 9 0 6,dI 10 1 6,gI 4 dv,bD 4 4 9,ab 5 10] (.seq (af [ab 11 5,dq 12 11,ab 13 12,aF 13 false (bO 14 4 4),aF 13 false (cC 15 77 14),aF 13 false (dq 16 15),cH 17 13 16] (bt 17 (af [ll 18 dv [],bD 4 2 18,bZ 3 false] .ret) .skip)) (af [bO 19 4 4,bD 4 2 19,bZ 3 true] .ret))))
@[simp] def agz:List cu:=[.cell 2 true 4,.tmp 3]
def uA:C:=(af [gI 2 dv,bZ 3 false] (.seq (af [ab 15 0,cC 16 83 15] (bt 16 (af [ll 17 dv [],bD 4 2 17,bZ 3 false] .ret) .skip)) (af [ab 18 0,cC 19 178 18,ab 4 19] (.seq (af [ab 20 4,a8 21 (.bin .eql false (.t 20) (.c (.str [40])))] (bt 21 (af [ab 22 0,gy 23 22,bm 24 1 1 23,a7 25 1 24,bk 26 .add 25 1,gy 27 22,bm 28 1 1 27,bD 1 28 26] (af [fm 29 4 40 [],ab 5 29] (.block 0 (.loop (.block 1 (.seq (af [ab 30 0,⟨none,.call (some 31) (.c (.func 177 [])) [.t 30,(.c (.str [41]))]⟩] (bt 31 (af [ab 32 5,cC 33 205 32,bD 4 2 33,bZ 3 true] .ret) .skip)) (.seq (af [ab 34 0,cC 35 178 34,a8 36 (.bin .eql false (.t 35) (.c (.str [46]))),ab 37 36,b0 37 true 38 0,aF 37 true (cC 39 83 38),aF 37 true (dq 40 39),ep 41 37 40] (bt 41 (af [ab 42 0,gy 43 42,bm 44 1 1 43,a7 45 1 44,bk 46 .add 45 1,gy 47 42,bm 48 1 1 47,bD 1 48 46] (af [ab 50 0,cC 51 152 50,ab 49 51,dI 52 0 49,dI 53 1 49,gI 6 dv,bD 4 6 52,ab 7 53] (.seq (af [ab 54 7,dq 55 54,ab 56 55,b0 56 false 57 5,aF 56 false (cJ 58 57),aF 56 false (bk 59 .eql 58 0),cH 60 56 59,ab 61 60,b0 61 false 62 0,⟨(some (61,false)),.call (some 63) (.c (.func 177 [])) [.t 62,(.c (.str [41]))]⟩,aF 61 false (dq 64 63),cH 65 61 64] (bt 65 (af [ll 66 dv [],bD 4 2 66,bZ 3 false] .ret) .skip)) (.seq (af [ab 67 5,cJ 68 67,bk 69 .sub 68 1,ab 8 69] (.block 2 (.loop (.seq (af [ab 70 8,bk 71 .geq 70 0] (bt 71 .skip (.exit 2))) (.seq (.block 3 (.drawn true 132 [ab 74 5,ab 75 8,dm 76 4 74 75,bO 77 4 76,bO 78 4 6,eN 79 206 77 78,bD 4 6 79])) (.region [ab 72 8,bk 73 .sub 72 1,ab 8 73])))))) (af [bO 80 4 6,bD 4 2 80,bZ 3 true] .ret))))) .skip)) (af [ab 82 0,cC 83 152 82,ab 81 83,dI 84 0 81,dI 85 1 81,gI 9 dv,bD 4 9 84,ab 10 85] (.seq (af [ab 86 10,dq 87 86] (bt 87 (af [ll 88 dv [],bD 4 2 88,bZ 3 false] .ret) .skip)) (.region [ab 89 5,bO 90 4 9,fm 91 4 40 [.t 90],j1 92 4 40 89 91,ab 5 92])))))))))) .skip)) (af [ab 93 0,gy 94 93,bm 95 1 1 94,a7 96 1 95,bk 97 .add 96 1,gy 98 93,bm 99 1 1 98,bD 1 99 97] (.seq (af [ab 100 4,a8 101 (.sidx (.t 100) (b6 0)),a8 102 (.bin .eql false (.t 101) (.c (.int .u8 63)))] (bt 102 (af [ab 104 4,a8 105 (.ssl (.t 104) (some (b6 1)) none),cC 106 179 105,ab 103 106,dI 107 0 103,dI 108 1 103,ab 11 107,ab 12 108] (af [ab 109 11,cC 110 86 109,ab 111 12,ab 112 111,b0 112 true 113 11,aF 112 true (bk 114 .geq 113 0),ep 115 112 114,ab 116 115,b0 116 true 117 11,aF 116 true (bk 118 .leq 117 100000),ep 119 116 118,bD 4 2 110,ab 3 119] .ret)) .skip)) (.seq (af [ab 120 4,cC 121 170 120] (bt 121 (af [ab 122 4,cC 123 207 122,bD 4 2 123,bZ 3 true] .ret) .skip)) (af [ab 125 4,cC 126 179 125,ab 124 126,dI 127 0 124,dI 128 1 124,ab 13 127,ab 14 128] (af [ab 129 13,cC 130 208 129,ab 131 14,bD 4 2 130,ab 3 131] .ret)))))))))
@[simp] def agA:List cu:=[.cell 2 true 4,.tmp 3]
def Bt:C:=(af [bZ 4 false] (.seq (.seq (.drawn false 28 [ab 5 0,cC 6 178 5,ab 7 1,cA 8 .eql 6 7,ab 9 8,b0 9 true 10 0,aF 9 true (gy 11 10),aF 9 true (bm 12 1 1 11),aF 9 true (a8 13 (.loadB false 1 (.t 12))),b0 9 true 14 0,aF 9 true (gy 15 14),aF 9 true (bm 16 0 1 15),aF 9 true (a8 17 (.loadB false 1 (.t 16))),aF 9 true (cJ 18 17),aF 9 true (cA 19 .lss 13 18),ep 20 9 19]) (bt 20 (af [ab 21 0,gy 22 21,bm 23 1 1 22,a7 24 1 23,bk 25 .add 24 1,gy 26 21,bm 27 1 1 26,bD 1 27 25] (af [bZ 4 true] .ret)) .skip)) (af [bZ 4 false] .ret)))
@[simp] def Dg:List cu:=[.tmp 4]
def NX:C:=(af [a8 2 (.mov (.c (.str [])))] (.seq (.seq (.drawn true 23 [ab 3 0,gy 4 3,bm 5 1 1 4,a7 6 1 5,ab 7 0,gy 8 7,bm 9 0 1 8,a7 10 1 9,cJ 11 10,cA 12 .lss 6 11]) (bt 12 (.seq (.drawn true 23 [ab 13 0,gy 14 13,bm 15 0 1 14,a7 16 1 15,ab 17 0,gy 18 17,bm 19 1 1 18,a7 20 1 19,dm 21 1 16 20,a7 22 1 21,ab 2 22]) .ret) .skip)) (af [a8 2 (.mov (.c (.str [])))] .ret)))
@[simp] def KW:List cu:=[.tmp 2]
def AP:List (Nat×dt):=[
 (3,⟨1,8,.int .i64,.int .i64 0⟩),
 (9,⟨1,16,.str,.str []⟩),
 (36,⟨1,24,.slice 120,.slice 5 .nil []⟩),
 (38,⟨1,24,.slice 40,.slice 4 .nil []⟩),
 (40,⟨4,56,.struct [(0,3),(1,3),(2,9),(3,38)],.agg [.int .i64 0,.int .i64 0,.str [],.slice 4 .nil []]⟩),
 (70,⟨1,24,.slice 9,.slice 1 .nil []⟩),
 (120,⟨5,64,.struct [(0,3),(1,40)],.agg [.int .i64 0,.int .i64 0,.int .i64 0,.str [],.slice 4 .nil []]⟩),
 (131,⟨2,32,.struct [(0,70),(1,3)],.agg [.slice 1 .nil [],.int .i64 0]⟩)]
theorem nz:e7 aQ AP=true:=by kernel_rfl
theorem afo:cI AP NW TV 1 Tryz.f83=true:=by kernel_rfl
theorem ZJ:aQ.funcs[(83:Nat)]? =some Tryz.f83:=Tryz.func83
theorem KM:cI AP D8 agz 1 Tryz.f84=true:=by kernel_rfl
theorem Iy:aQ.funcs[(84:Nat)]? =some Tryz.f84:=Tryz.func84
theorem wM:cI AP uA agA 1 Tryz.f152=true:=by kernel_rfl
theorem vX:aQ.funcs[(152:Nat)]? =some Tryz.f152:=Tryz.func152
theorem Ge:cI AP Bt Dg 2 Tryz.f177=true:=by kernel_rfl
theorem EA:aQ.funcs[(177:Nat)]? =some Tryz.f177:=Tryz.func177
theorem afp:cI AP NX KW 1 Tryz.f178=true:=by kernel_rfl
theorem ZK:aQ.funcs[(178:Nat)]? =some Tryz.f178:=Tryz.func178
theorem Kf{α β:Type}(k:aO):∀{l:List (aO×α)} {cF:List (aO×β)},l.map (·.1)=cF.map (·.1)->(Pv.look k l).isSome=(Pv.look k cF).isSome
 |[],[],_=>rfl
 |[],_::_,h=>by simp at h
 |_::_,[],h=>by simp at h
 |(i,x)::r,(j,y)::dh,h=>by
  simp only[ek,w9]at h;simp only[Pv.look];obtain⟨rfl,h⟩:=h;split
  ·rfl
  ·exact Kf k h
theorem _root_.Go.Pv.Same.keys{s aq:dF}(ao:s.b.map (·.1)=aq.b.map (·.1))(he:s.e.map (·.1)=aq.e.map (·.1)):Same s aq:=⟨fun k=>Kf k ao,fun k=>Kf k he⟩
end
section
open Go Go.Pv
variable {ky:Nat}
def aM(ky:Nat):al:= .ptr (.obj ky) 0
def ae(ky:Nat)(l:List (List ah))(i:Nat):dF:=⟨[(.obj ky,[.slice 1 .no (cl l),.int .i64 i])],[]⟩
theorem bE(l:List (List ah))(i:Nat):gJ (ae ky l i):=by unfold ae;exact gJ.of ⟨by intro m;simp[Pv.look],by intro m;simp[Pv.look]⟩ (by simp[aj,ak]) Ψ
theorem b9(l cF:List (List ah))(i j:Nat):Same (ae ky l i) (ae ky cF j):=Same.keys (by simp[ae]) (by simp[ae])
section
variable (l:List (List ah)) (i:Nat)
theorem P9:bJ aQ 83 [aM ky] (ae ky l i) fun r aq=>r= .bool ((i:Int)==l.length)/\aq=ae ky l i:=by have au:=bE (ky:=ky) l i;simp only[ae]at au⊢;refine bJ.mk mixed nz ZJ afo Ψ au.obj fun aL bT=>?_;unfold NW;simp[aM];refine bL.at (ae ky l i) Ψ (bE _ _) (Same.refl _) (by simp only[ae];exact ai) (by simp only[ae];exact ai) ?_;simp[bV,TV,bg,bh,bf,ae,ag,Pv.look,ak,aj]
theorem EK:bJ aQ 178 [aM ky] (ae ky l i) fun r aq=>r= .str (l[i]?.getD [])/\aq=ae ky l i:=by
 have au:=bE (ky:=ky) l i;simp only[ae]at au⊢;refine bJ.mk mixed nz ZK afp Ψ au.obj fun aL bT=>?_;unfold NX;simp[aM];by_cases h:i<l.length
 ·obtain⟨x,ad⟩:∃x,l[i]? =some x:=⟨_,cS h⟩;have q4:∀h,(cl l)[i]'h= .str x:=fun cx=>by rw[mc h,cS h]at*;cases ad;rfl
  rw[ad];simp[h,q4];refine bL.at (ae ky l i) Ψ (bE _ _) (Same.refl _) (by simp only[ae];exact ai) (by simp only[ae];exact ai) ?_;simp[bV,KW,bg,bh,bf,ae,ag,Pv.look,ak,aj]
 ·rw[List.getElem?_eq_none Ω];simp[h];refine bL.at (ae ky l i) Ψ (bE _ _) (Same.refl _) (by simp only[ae];exact ai) (by simp only[ae];exact ai) ?_;simp[bV,KW,bg,bh,bf,ae,ag,Pv.look,ak,aj]
theorem Qg(aE:i<=1000000)(s:List ah):bJ aQ 177 [aM ky,.str s] (ae ky l i) fun r aq=>r= .bool (decide (l[i]? =some s))/\aq=ae ky l (if l[i]? =some s then i+1 else i):=by
 have au:=bE (ky:=ky) l i;have lH:=EK (ky:=ky) l i;have cb:aZ ((i:Int)+1):=by unfold aZ;omega
 by_cases h:i<l.length
 ·obtain⟨x,ad⟩:∃x,l[i]? =some x:=⟨_,cS h⟩;rw[ad]at lH⊢;simp only[lV]at lH;by_cases eR:x=s
  ·subst eR;simp only[if_true,decide_true,ae]at au⊢;refine bJ.mk mixed nz EA Ge Ψ au.obj fun aL bT=>?_;unfold Bt;simp[aM];(refine hf.ob (lH) (by first|exact bE _|exact bE ‹_› _) (by first|exact bE _|exact bE ‹_› _) (Same.keys (by simp[ae]) (by simp[ae])) (by simp only[ae,ds,eW];exact ai) (by simp only[ae,ds,eW];exact ai) (by simp[ag,Pv.look,ae]) ?_;simp[aX,ae]);((with_reducible repeat' first|refine av ?_|simp[h,cb]|((first|apply cN|apply cP|apply cO)<;>intro h<;>try simp at h))<;>(try exact dr));refine bL.at (ae ky l (i+1)) Ψ (bE _ _) (b9 _ _ _ _) (by simp only[ae];exact ai) (by simp only[ae];exact ai) ?_;simp[bV,Dg,bg,bh,bf,ae,ag,Pv.look,ak,aj]
  ·have cD:¬(some x=some s):=by simpa using eR
   simp only[cD,if_false,decide_false,ae]at au⊢;refine bJ.mk mixed nz EA Ge Ψ au.obj fun aL bT=>?_;unfold Bt;simp[aM];(refine hf.ob (lH) (by first|exact bE _|exact bE ‹_› _) (by first|exact bE _|exact bE ‹_› _) (Same.keys (by simp[ae]) (by simp[ae])) (by simp only[ae,ds,eW];exact ai) (by simp only[ae,ds,eW];exact ai) (by simp[ag,Pv.look,ae]) ?_;simp[aX,ae]);((with_reducible repeat' first|refine av ?_|simp[eR]|((first|apply cN|apply cP|apply cO)<;>intro h<;>try simp at h))<;>(try exact dr));refine bL.at (ae ky l i) Ψ (bE _ _) (b9 _ _ _ _) (by simp only[ae];exact ai) (by simp only[ae];exact ai) ?_;simp[bV,Dg,bg,bh,bf,ae,ag,Pv.look,ak,aj]
 ·rw[List.getElem?_eq_none Ω]at lH⊢;simp only[lV]at lH;have cD:¬((none:a1 (List ah))=some s):=by simp
  simp only[cD,if_false,decide_false,ae]at au⊢;cases s with
  |nil=>refine bJ.mk mixed nz EA Ge Ψ au.obj fun aL bT=>?_;unfold Bt;simp[aM];(refine hf.ob (lH) (by first|exact bE _|exact bE ‹_› _) (by first|exact bE _|exact bE ‹_› _) (Same.keys (by simp[ae]) (by simp[ae])) (by simp only[ae,ds,eW];exact ai) (by simp only[ae,ds,eW];exact ai) (by simp[ag,Pv.look,ae]) ?_;simp[aX,ae]);((with_reducible repeat' first|refine av ?_|simp[h]|((first|apply cN|apply cP|apply cO)<;>intro h<;>try simp at h))<;>(try exact dr));refine bL.at (ae ky l i) Ψ (bE _ _) (b9 _ _ _ _) (by simp only[ae];exact ai) (by simp only[ae];exact ai) ?_;simp[bV,Dg,bg,bh,bf,ae,ag,Pv.look,ak,aj]
  |cons c s=>refine bJ.mk mixed nz EA Ge Ψ au.obj fun aL bT=>?_;unfold Bt;simp[aM];(refine hf.ob (lH) (by first|exact bE _|exact bE ‹_› _) (by first|exact bE _|exact bE ‹_› _) (Same.keys (by simp[ae]) (by simp[ae])) (by simp only[ae,ds,eW];exact ai) (by simp only[ae,ds,eW];exact ai) (by simp[ag,Pv.look,ae]) ?_;simp[aX,ae]);((with_reducible repeat' first|refine av ?_|simp[h]|((first|apply cN|apply cP|apply cO)<;>intro h<;>try simp at h))<;>(try exact dr));refine bL.at (ae ky l i) Ψ (bE _ _) (b9 _ _ _ _) (by simp only[ae];exact ai) (by simp only[ae];exact ai) ?_;simp[bV,Dg,bg,bh,bf,ae,ag,Pv.look,ak,aj]
end
end
section
open Go Go.Pv
variable {ky:Nat}
def ue(ky:Nat)(l:List (List ah))(o:a1 (T×List (List ah)))(r:al)(aq:dF):Prop:=match o with
 |some (t,rest)=>r= .tuple [t.e,.bool true]/\aq=ae ky l (l.length-rest.length)
 |none=> ∃(x:T) (j:Nat),j<=l.length/\r= .tuple [x.e,.bool false]/\aq=ae ky l j
theorem ry{l:List (List ah)}{j:Nat}(h:j<=l.length)(x:T):ue ky l none (.tuple [x.e,.bool false]) (ae ky l j):=⟨x,j,h,rfl,rfl⟩
theorem AO{l:List (List ah)}{j:Nat}{t:T}{rest:List (List ah)}(h:l.length-rest.length=j):ue ky l (some (t,rest)) (.tuple [t.e,.bool true]) (ae ky l j):=⟨rfl,by rw[h]⟩
theorem bL.tm{l:List (List ah)}{i:Nat}{o:a1 (T×List (List ah))}{st:a6}{e:Exit}(j:Nat)(x:T)(b:Bool)(k0:e= .ret\/e= .normal)(jm:ue ky l o (.tuple [x.e,.bool b]) (ae ky l j))(ao:∀k cs,Pv.look k (ae ky l j).b=some cs->Pv.look k st.b=some cs)(cQ:∀k p,Pv.look k (ae ky l j).e=some p->Pv.look k st.e=some p)
  (h:bV st [.cell 2 true 4,.tmp 3] fun r=>r= .tuple [x.e,.bool b]):bL [.cell 2 true 4,.tmp 3] (ae ky l i) (ue ky l o) e st:=by
 refine bL.at (ae ky l j) k0 (bE _ _) (b9 _ _ _ _) ao cQ ?_;unfold bV at h⊢;split at h
 ·rename_i c b2 hr;refine⟨h.1,?_⟩;rw[h.2];exact⟨by simp[ak,aj],jm⟩
 ·exact h.elim
theorem xz{l:List (List ah)}{i:Nat}{w:List ah}(h:l[i]? =some w):l.length-(l.drop (i+1)).length=i+1:=by have:=(eV.1 h).1;simp;omega
theorem pb{l:List (List ah)}{i:Nat}(h:i<l.length):bJ aQ 83 [aM ky] (ae ky l i) fun r aq=>r= .bool false/\aq=ae ky l i:=by have:=P9 (ky:=ky) l i;rwa[show((i:Int)==l.length)=false by simp;omega]at this
theorem BA(l:List (List ah)):bJ aQ 83 [aM ky] (ae ky l l.length) fun r aq=>r= .bool true/\aq=ae ky l l.length:=by have:=P9 (ky:=ky) l l.length;rwa[beq_self_eq_true]at this
theorem nZ{l:List (List ah)}{i:Nat}{w:List ah}(h:l[i]? =some w):bJ aQ 178 [aM ky] (ae ky l i) fun r aq=>r= .str w/\aq=ae ky l i:=by have:=EK (ky:=ky) l i;rwa[h]at this
theorem Qh(l:List (List ah)):bJ aQ 152 [aM ky] (ae ky l l.length) (ue ky l none):=by have au:=bE (ky:=ky) l l.length;have cM:=BA (ky:=ky) l;simp only[ae]at au;refine bJ.mk mixed nz vX wM Ψ au.obj fun aL bT=>?_;unfold uA;clear aL bT;simp[aM,ae];(refine bc.ob (cM) (by first|exact bE _|exact bE ‹_› _) (by simp only[ae,aM,ds,eW];exact ai) (by simp only[ae,aM,ds,eW];exact ai) (by simp[ag,Pv.look,ae,aM]) ?_;rintro r aq ⟨rfl,rfl⟩;refine⟨(Same.keys (by simp[ae,aM]) (by simp[ae,aM])),?_⟩;simp[aX,ae,aM]);(with_reducible repeat' first|refine av ?_|simp);refine bL.tm (l.length) (.nil) false Ψ (ry (c7 _) _) (by simp only[ae];exact ai) (by simp only[ae];exact ai) ?_;simp[bV,bg,bh,bf,cm,ca]
theorem aaG(l:List (List ah))(aG:l.length<=100000){i:Nat}{w:List ah}(ad:l[i]? =some w)(hw:w≠[])(zS:w.length<=bs)(bn:w≠[40]):bJ aQ 152 [aM ky] (ae ky l i) (ue ky l ((fs w).map fun t=>(t,l.drop (i+1)))):=by
 have au:=bE (ky:=ky) l i;have aE:=(eV.1 ad).1;have aP:=xz ad;have cb:aZ ((i:Int)+1):=by unfold aZ;omega
 obtain⟨c,w',rfl⟩:∃c w',w=c::w':=List.exists_cons_of_ne_nil hw;by_cases aH:c=63
 ·subst aH;have adq:w'.length<=bs:=by simp at zS;omega
  have cy:=Mf w' adq;unfold tU at cy;simp only[fs];cases aJ:gw w' with
  |none=>rw[aJ]at cy;simp only[lV,Option.isSome]at cy;simp only[Option.map_none];simp only[ae]at au;refine bJ.mk mixed nz vX wM Ψ au.obj fun aL bT=>?_;unfold uA;clear aL bT;simp[aM,ae];(refine bc.ob (pb aE) (by first|exact bE _|exact bE ‹_› _) (by simp only[ae,aM,ds,eW];exact ai) (by simp only[ae,aM,ds,eW];exact ai) (by simp[ag,Pv.look,ae,aM]) ?_;rintro r aq ⟨rfl,rfl⟩;refine⟨(Same.keys (by simp[ae,aM]) (by simp[ae,aM])),?_⟩;simp[aX,ae,aM]);(with_reducible repeat' first|refine av ?_|simp);(refine bc.ob (nZ ad) (by first|exact bE _|exact bE ‹_› _) (by simp only[ae,aM,ds,eW];exact ai) (by simp only[ae,aM,ds,eW];exact ai) (by simp[ag,Pv.look,ae,aM]) ?_;rintro r aq ⟨rfl,rfl⟩;refine⟨(Same.keys (by simp[ae,aM]) (by simp[ae,aM])),?_⟩;simp[aX,ae,aM]);(with_reducible repeat' first|refine av ?_|refine ba cy ?_|refine bb cy ?_|refine ba (vE _) ?_|refine bb (vE _) ?_|simp[cb]);refine bL.tm (i+1) (.var 0) false Ψ (ry Ω _) (by simp only[ae];exact ai) (by simp only[ae];exact ai) ?_;simp[bV,bg,bh,bf,cm,ca]
  |some v=>
   rw[aJ]at cy;simp only[lV,Option.isSome]at cy;simp only;by_cases aK:0<=v/\v<=100000
   ·rw[bP aK];simp only[oa];simp only[ae]at au;refine bJ.mk mixed nz vX wM Ψ au.obj fun aL bT=>?_;unfold uA;clear aL bT;simp[aM,ae];(refine bc.ob (pb aE) (by first|exact bE _|exact bE ‹_› _) (by simp only[ae,aM,ds,eW];exact ai) (by simp only[ae,aM,ds,eW];exact ai) (by simp[ag,Pv.look,ae,aM]) ?_;rintro r aq ⟨rfl,rfl⟩;refine⟨(Same.keys (by simp[ae,aM]) (by simp[ae,aM])),?_⟩;simp[aX,ae,aM]);(with_reducible repeat' first|refine av ?_|simp);(refine bc.ob (nZ ad) (by first|exact bE _|exact bE ‹_› _) (by simp only[ae,aM,ds,eW];exact ai) (by simp only[ae,aM,ds,eW];exact ai) (by simp[ag,Pv.look,ae,aM]) ?_;rintro r aq ⟨rfl,rfl⟩;refine⟨(Same.keys (by simp[ae,aM]) (by simp[ae,aM])),?_⟩;simp[aX,ae,aM]);(with_reducible repeat' first|refine av ?_|refine ba cy ?_|refine bb cy ?_|refine ba (vE _) ?_|refine bb (vE _) ?_|simp[cb,aK.1,aK.2]);refine bL.tm (i+1) (.var v) true Ψ (AO aP) (by simp only[ae];exact ai) (by simp only[ae];exact ai) ?_;simp[bV,bg,bh,bf,cm,ca]
   ·rw[bo aK];simp only[Option.map_none];simp only[ae]at au;refine bJ.mk mixed nz vX wM Ψ au.obj fun aL bT=>?_;unfold uA;clear aL bT;simp[aM,ae];(refine bc.ob (pb aE) (by first|exact bE _|exact bE ‹_› _) (by simp only[ae,aM,ds,eW];exact ai) (by simp only[ae,aM,ds,eW];exact ai) (by simp[ag,Pv.look,ae,aM]) ?_;rintro r aq ⟨rfl,rfl⟩;refine⟨(Same.keys (by simp[ae,aM]) (by simp[ae,aM])),?_⟩;simp[aX,ae,aM]);(with_reducible repeat' first|refine av ?_|simp);(refine bc.ob (nZ ad) (by first|exact bE _|exact bE ‹_› _) (by simp only[ae,aM,ds,eW];exact ai) (by simp only[ae,aM,ds,eW];exact ai) (by simp[ag,Pv.look,ae,aM]) ?_;rintro r aq ⟨rfl,rfl⟩;refine⟨(Same.keys (by simp[ae,aM]) (by simp[ae,aM])),?_⟩;simp[aX,ae,aM]);by_cases bK:0<=v
    ·have I:¬v<=100000:=fun h=>aK ⟨bK,h⟩;(with_reducible repeat' first|refine av ?_|refine ba cy ?_|refine bb cy ?_|refine ba (vE _) ?_|refine bb (vE _) ?_|simp[cb,bK,I]);refine bL.tm (i+1) (.var v) false Ψ (ry Ω _) (by simp only[ae];exact ai) (by simp only[ae];exact ai) ?_;simp[bV,bg,bh,bf,cm,ca]
    ·(with_reducible repeat' first|refine av ?_|refine ba cy ?_|refine bb cy ?_|refine ba (vE _) ?_|refine bb (vE _) ?_|simp[cb,bK]);refine bL.tm (i+1) (.var v) false Ψ (ry Ω _) (by simp only[ae];exact ai) (by simp only[ae];exact ai) ?_;simp[bV,bg,bh,bf,cm,ca]
 ·have bM:fs (c::w')=if fA (c::w')then some (.sym (c::w'))else(gw (c::w')).map .num:=by
   unfold fs;split
   ·rename_i e;cases e;exact absurd rfl aH
   ·rfl
  have IY:¬c.toNat=63:=fun h=>aH (UInt8.toNat_inj.1 (by simpa using h));have IZ:((c.toNat:Int)==63)=false:=jy.2 Ω;have zN:(c==40&&w'.isEmpty)=false:=by
   rw[Bool.and_eq_false_iff];by_cases h:c=40
   ·right;cases w' with
    |nil=>exact absurd (by rw[h]) bn
    |cons=>rfl
   ·left;simpa using h
  have cU:=G6 (c::w');rw[bM];by_cases tE:fA (c::w')=true
  ·rw[bP tE];rw[tE]at cU;simp only[oa];simp only[ae]at au;refine bJ.mk mixed nz vX wM Ψ au.obj fun aL bT=>?_;unfold uA;clear aL bT;simp[aM,ae];(refine bc.ob (pb aE) (by first|exact bE _|exact bE ‹_› _) (by simp only[ae,aM,ds,eW];exact ai) (by simp only[ae,aM,ds,eW];exact ai) (by simp[ag,Pv.look,ae,aM]) ?_;rintro r aq ⟨rfl,rfl⟩;refine⟨(Same.keys (by simp[ae,aM]) (by simp[ae,aM])),?_⟩;simp[aX,ae,aM]);(with_reducible repeat' first|refine av ?_|simp);(refine bc.ob (nZ ad) (by first|exact bE _|exact bE ‹_› _) (by simp only[ae,aM,ds,eW];exact ai) (by simp only[ae,aM,ds,eW];exact ai) (by simp[ag,Pv.look,ae,aM]) ?_;rintro r aq ⟨rfl,rfl⟩;refine⟨(Same.keys (by simp[ae,aM]) (by simp[ae,aM])),?_⟩;simp[aX,ae,aM]);(with_reducible repeat' first|refine av ?_|refine ba cU ?_|refine bb cU ?_|refine ba (VZ _) ?_|refine bb (VZ _) ?_|simp[cb,IZ,zN]);refine bL.tm (i+1) (.sym (c::w')) true Ψ (AO aP) (by simp only[ae];exact ai) (by simp only[ae];exact ai) ?_;simp[bV,bg,bh,bf,cm,ca]
  ·rw[bo tE];rw[Bool.not_eq_true]at tE;rw[tE]at cU;have cy:=Mf (c::w') zS;unfold tU at cy;cases aJ:gw (c::w')with
   |none=>rw[aJ]at cy;simp only[lV,Option.isSome]at cy;simp only[Option.map_none];simp only[ae]at au;refine bJ.mk mixed nz vX wM Ψ au.obj fun aL bT=>?_;unfold uA;clear aL bT;simp[aM,ae];(refine bc.ob (pb aE) (by first|exact bE _|exact bE ‹_› _) (by simp only[ae,aM,ds,eW];exact ai) (by simp only[ae,aM,ds,eW];exact ai) (by simp[ag,Pv.look,ae,aM]) ?_;rintro r aq ⟨rfl,rfl⟩;refine⟨(Same.keys (by simp[ae,aM]) (by simp[ae,aM])),?_⟩;simp[aX,ae,aM]);(with_reducible repeat' first|refine av ?_|simp);(refine bc.ob (nZ ad) (by first|exact bE _|exact bE ‹_› _) (by simp only[ae,aM,ds,eW];exact ai) (by simp only[ae,aM,ds,eW];exact ai) (by simp[ag,Pv.look,ae,aM]) ?_;rintro r aq ⟨rfl,rfl⟩;refine⟨(Same.keys (by simp[ae,aM]) (by simp[ae,aM])),?_⟩;simp[aX,ae,aM]);(with_reducible repeat' first|refine av ?_|refine ba cU ?_|refine bb cU ?_|refine ba cy ?_|refine bb cy ?_|refine ba (G8 _) ?_|refine bb (G8 _) ?_|simp[cb,IZ,zN]);refine bL.tm (i+1) (.num 0) false Ψ (ry Ω _) (by simp only[ae];exact ai) (by simp only[ae];exact ai) ?_;simp[bV,bg,bh,bf,cm,ca]
   |some v=>rw[aJ]at cy;simp only[lV,Option.isSome]at cy;simp only[oa];simp only[ae]at au;refine bJ.mk mixed nz vX wM Ψ au.obj fun aL bT=>?_;unfold uA;clear aL bT;simp[aM,ae];(refine bc.ob (pb aE) (by first|exact bE _|exact bE ‹_› _) (by simp only[ae,aM,ds,eW];exact ai) (by simp only[ae,aM,ds,eW];exact ai) (by simp[ag,Pv.look,ae,aM]) ?_;rintro r aq ⟨rfl,rfl⟩;refine⟨(Same.keys (by simp[ae,aM]) (by simp[ae,aM])),?_⟩;simp[aX,ae,aM]);(with_reducible repeat' first|refine av ?_|simp);(refine bc.ob (nZ ad) (by first|exact bE _|exact bE ‹_› _) (by simp only[ae,aM,ds,eW];exact ai) (by simp only[ae,aM,ds,eW];exact ai) (by simp[ag,Pv.look,ae,aM]) ?_;rintro r aq ⟨rfl,rfl⟩;refine⟨(Same.keys (by simp[ae,aM]) (by simp[ae,aM])),?_⟩;simp[aX,ae,aM]);(with_reducible repeat' first|refine av ?_|refine ba cU ?_|refine bb cU ?_|refine ba cy ?_|refine bb cy ?_|refine ba (G8 _) ?_|refine bb (G8 _) ?_|simp[cb,IZ,zN]);refine bL.tm (i+1) (.num v) true Ψ (AO aP) (by simp only[ae];exact ai) (by simp only[ae];exact ai) ?_;simp[bV,bg,bh,bf,cm,ca]
end
section
open Go Go.Pv
variable {ky:Nat}
theorem oZ{l:List (List ah)}{i:Nat}{s:List ah}(aE:i<=1000000)(h:l[i]? =some s):bJ aQ 177 [aM ky,.str s] (ae ky l i) fun r aq=>r= .bool true/\aq=ae ky l (i+1):=by have:=Qg (ky:=ky) l i aE s;rwa[bP h,nD h]at this
theorem jY{l:List (List ah)}{i:Nat}{s:List ah}(aE:i<=1000000)(h:l[i]?≠some s):bJ aQ 177 [aM ky,.str s] (ae ky l i) fun r aq=>r= .bool false/\aq=ae ky l i:=by have:=Qg (ky:=ky) l i aE s;rwa[bo h,decide_eq_false h]at this
theorem af8(l:List (List ah)):bJ aQ 178 [aM ky] (ae ky l l.length) fun r aq=>r= .str []/\aq=ae ky l l.length:=by have:=EK (ky:=ky) l l.length;rwa[List.getElem?_eq_none (c7 _)]at this
theorem LW{l:List (List ah)}{i p:Nat}{t:T}{rest:List (List ah)}(h:bJ aQ 152 [aM ky] (ae ky l i) (ue ky l (some (t,rest))))(bn:l.length-rest.length=p):bJ aQ 152 [aM ky] (ae ky l i) fun r aq=>r= .tuple [t.e,.bool true]/\aq=ae ky l p:=h.mono fun r aq bA=>by rw[<-bn];exact bA
theorem yD{l rest:List (List ah)}{j:Nat}(h:rest<:+l.drop j):rest=l.drop (l.length-rest.length)/\rest.length<=l.length-j:=by have I:rest<:+l:=h.trans (List.drop_suffix j l);exact⟨(X9 I).symm,by have:=h.length_le;simpa using this⟩
def rJ(ky:Nat)(l:List (List ah))(x:List T×Nat×Nat):a6:=⟨[(0,.ptr (.obj ky) 0),(2,.ptr (.loc 0) 0),(5,.slice 4 (.own (.loc 1)) (x.1.map T.e))],[(.loc 0,dv),(.obj ky,[.slice 1 .no (cl l),.int .i64 x.2.1])],[(.loc 1,⟨x.1.length,40,4,none⟩)],2,[.obj ky]⟩
def A5(ky:Nat)(l:List (List ah))(acc:List T)(t:T)(p:Nat)(m:Int):a6:=⟨[(2,.ptr (.loc 0) 0),(5,.slice 4 (.own (.loc 1)) (acc.map T.e)),(6,.ptr (.loc 2) 0),(8,.int .i64 m)],[(.loc 0,dv),(.loc 2,cells (gi (acc.drop (m+1).toNat) t).e),(.obj ky,[.slice 1 .no (cl l),.int .i64 (p+1:Nat)])],[(.loc 1,⟨acc.length,40,4,none⟩)],3,[.obj ky]⟩
theorem aa1(l:List (List ah))(aG:l.length<=100000)(hw:∀w∈l,w≠[]/\w.length<=bs):∀n i:Nat,i<=l.length->2*(l.length-i)+1<=n->bJ aQ 152 [aM ky] (ae ky l i) (ue ky l (rd fs n (l.drop i))):=by
 intro n;induction n using Nat.strongRecOn with
 |_ n bp=>
 intro i h2 aJ;obtain⟨n,rfl⟩:∃m,n=m+1:=⟨n-1,Ω⟩;rcases jJ h2 with rfl|aE
 ·rw[kG];exact Qh l
 obtain⟨w,ad⟩:∃w,l[i]? =some w:=⟨_,cS aE⟩;have tL:=hw w (fq ad);rw[fH ad];by_cases bn:w=[40];rotate_left
 ·have hr:rd fs (n+1) (w::l.drop (i+1))=(fs w).map fun t=>(t,l.drop (i+1)):=by
   simp only[rd,bo bn];split
   ·rename_i h;rcases h with rfl|rfl<;>rfl
   ·rfl
  rw[hr];exact aaG l aG ad tL.1 tL.2 bn
 subst bn;have hr:rd fs (n+1) ([40]::l.drop (i+1))=b5 fs n (l.drop (i+1)) []:=by simp[rd]
 rw[hr];have au:=bE (ky:=ky) l i;have cb:aZ ((i:Int)+1):=by unfold aZ;omega
 obtain⟨R,bH⟩:∃R,R=b5 fs n (l.drop (i+1)) []:=⟨_,rfl⟩;rw[<-bH];simp only[ae]at au;refine bJ.mk mixed nz vX wM Ψ au.obj fun aL bT=>?_;unfold uA;clear aL bT;simp[aM,ae];(refine bc.ob (pb aE) (by first|exact bE _|exact bE ‹_› _) (by simp only[ae,aM,ds,eW];exact ai) (by simp only[ae,aM,ds,eW];exact ai) (by simp[ag,Pv.look,ae,aM]) ?_;rintro r aq ⟨rfl,rfl⟩;refine⟨(Same.keys (by simp[ae,aM]) (by simp[ae,aM])),?_⟩;simp[aX,ae,aM]);(with_reducible repeat' first|refine av ?_|simp);(refine bc.ob (nZ ad) (by first|exact bE _|exact bE ‹_› _) (by simp only[ae,aM,ds,eW];exact ai) (by simp only[ae,aM,ds,eW];exact ai) (by simp[ag,Pv.look,ae,aM]) ?_;rintro r aq ⟨rfl,rfl⟩;refine⟨(Same.keys (by simp[ae,aM]) (by simp[ae,aM])),?_⟩;simp[aX,ae,aM]);(with_reducible repeat' first|refine av ?_|simp[cb]);refine gf (rJ ky l) (fun x=>l.length-x.2.1) (fun x=>x.2.1<=l.length/\2*(l.length-x.2.1)+2<=x.2.2/\x.2.2<=n/\b5 fs x.2.2 (l.drop x.2.1) x.1=R/\x.1.length<=x.2.1) ([],i+1,n) (by simp[rJ];exact⟨by simp[fresh,aj,ak,bj,ag,Pv.look,dv],cg (by simp[fresh,aj,ak,bj,ag,Pv.look,dv]),ch (by simp[fresh,aj,ak,cc,ag,Pv.look,dv]),Ψ⟩) ⟨aE,by simp;omega,c7 _,bH.symm,Ψ⟩ ?_;rintro⟨acc,j,k⟩ ⟨aD,aa,k3,dR,mA⟩ _;simp only at aD aa k3 dR mA;clear bH hr cb ad tL;subst dR;obtain⟨k,rfl⟩:∃m,k=m+1:=⟨k-1,Ω⟩;have sc:j<=1000000:=Ω
 rcases jJ aD with rfl|fJ
 ·rw[kG];simp only[b5];have ec:=jY (ky:=ky) (l:=l) (i:=l.length) (s:=[41]) sc Ψ;have ke:=Qh (ky:=ky) l;simp[rJ];refine bc.ob (ec) (bE _ _) (by simp only[ae];exact ai) (by simp only[ae];exact ai) (by simp[ag,Pv.look,ae,aM,aj,ak]) ?_;rintro r aq ⟨rfl,rfl⟩;refine⟨b9 _ _ _ _,?_⟩;simp[aX,ae,aM];(with_reducible repeat' first|refine av ?_|simp);refine bc.ob (af8 l) (bE _ _) (by simp only[ae];exact ai) (by simp only[ae];exact ai) (by simp[ag,Pv.look,ae,aM,aj,ak]) ?_;rintro r aq ⟨rfl,rfl⟩;refine⟨b9 _ _ _ _,?_⟩;simp[aX,ae,aM];(with_reducible repeat' first|refine av ?_|simp);refine bc.ob (ke) (bE _ _) (by simp only[ae];exact ai) (by simp only[ae];exact ai) (by simp[ag,Pv.look,ae,aM,aj,ak]) ?_;rintro r aq ⟨x,q,bA,rfl,rfl⟩;refine⟨b9 _ _ _ _,?_⟩;simp[aX,ae,aM];(with_reducible repeat' first|refine av ?_|simp);refine bL.tm (q) (.nil) false Ψ (ry bA _) (by simp only[ae];exact ai) (by simp only[ae];exact ai) ?_;simp[bV,bg,bh,bf,cm,ca]
 obtain⟨v,aK⟩:∃v,l[j]? =some v:=⟨_,cS fJ⟩;rw[fH aK];have h3:aZ ((j:Int)+1):=by unfold aZ;omega
 by_cases e1:v=[41]
 ·subst e1;have xW:b5 fs (k+1) ([41]::l.drop (j+1)) acc=some (gi acc .nil,l.drop (j+1)):=by simp[b5]
  rw[xW];have ec:=oZ (ky:=ky) sc aK;have zZ:=aif acc;have aP:=xz aK;simp[rJ];refine bc.ob (ec) (bE _ _) (by simp only[ae];exact ai) (by simp only[ae];exact ai) (by simp[ag,Pv.look,ae,aM,aj,ak]) ?_;rintro r aq ⟨rfl,rfl⟩;refine⟨b9 _ _ _ _,?_⟩;simp[aX,ae,aM];(with_reducible repeat' first|refine av ?_|refine ba zZ ?_|refine bb zZ ?_|simp);refine bL.tm (j+1) (gi acc .nil) true Ψ (AO aP) (by simp only[ae];exact ai) (by simp only[ae];exact ai) ?_;simp[bV,bg,bh,bf,cm,ca]
 have ec:=jY (ky:=ky) sc (show l[j]?≠some [41] by rw[aK];simpa using e1);by_cases pe:v=[46]
 ·subst pe;have cM:=pb (ky:=ky) fJ;have dP:=bp k Ω (j+1) Ω Ω;cases eb:rd fs k (l.drop (j+1))with
  |none=>
   rw[eb]at dP;have he:b5 fs (k+1) ([46]::l.drop (j+1)) acc=none:=by simp[b5,eb]
   rw[he];simp[rJ];refine bc.ob (ec) (bE _ _) (by simp only[ae];exact ai) (by simp only[ae];exact ai) (by simp[ag,Pv.look,ae,aM,aj,ak]) ?_;rintro r aq ⟨rfl,rfl⟩;refine⟨b9 _ _ _ _,?_⟩;simp[aX,ae,aM];(with_reducible repeat' first|refine av ?_|simp);refine bc.ob (nZ aK) (bE _ _) (by simp only[ae];exact ai) (by simp only[ae];exact ai) (by simp[ag,Pv.look,ae,aM,aj,ak]) ?_;rintro r aq ⟨rfl,rfl⟩;refine⟨b9 _ _ _ _,?_⟩;simp[aX,ae,aM];(with_reducible repeat' first|refine av ?_|simp);refine bc.ob (cM) (bE _ _) (by simp only[ae];exact ai) (by simp only[ae];exact ai) (by simp[ag,Pv.look,ae,aM,aj,ak]) ?_;rintro r aq ⟨rfl,rfl⟩;refine⟨b9 _ _ _ _,?_⟩;simp[aX,ae,aM];(with_reducible repeat' first|refine av ?_|simp[h3]);refine bc.ob (dP) (bE _ _) (by simp only[ae];exact ai) (by simp only[ae];exact ai) (by simp[ag,Pv.look,ae,aM,aj,ak]) ?_;rintro r aq ⟨x,q,bA,rfl,rfl⟩;refine⟨b9 _ _ _ _,?_⟩;simp[aX,ae,aM];(with_reducible repeat' first|refine av ?_|simp);refine bL.tm (q) (.nil) false Ψ (ry bA _) (by simp only[ae];exact ai) (by simp only[ae];exact ai) ?_;simp[bV,bg,bh,bf,cm,ca]
  |some tr=>
   obtain⟨t,rest⟩:=tr;rw[eb]at dP;obtain⟨gK,nT⟩:=yD (tX k _ _ _ eb).1;obtain⟨p,bn⟩:∃p,p=l.length-rest.length:=⟨_,rfl⟩;rw[<-bn]at gK;have u9:=LW dP bn.symm;have fx:p<=l.length:=Ω
   by_cases bM:acc=[]
   ·subst bM;rw[show b5 fs (k+1) ([46]::l.drop (j+1)) []=none by simp[b5]];simp[rJ];refine bc.ob (ec) (bE _ _) (by simp only[ae];exact ai) (by simp only[ae];exact ai) (by simp[ag,Pv.look,ae,aM,aj,ak]) ?_;rintro r aq ⟨rfl,rfl⟩;refine⟨b9 _ _ _ _,?_⟩;simp[aX,ae,aM];(with_reducible repeat' first|refine av ?_|simp);refine bc.ob (nZ aK) (bE _ _) (by simp only[ae];exact ai) (by simp only[ae];exact ai) (by simp[ag,Pv.look,ae,aM,aj,ak]) ?_;rintro r aq ⟨rfl,rfl⟩;refine⟨b9 _ _ _ _,?_⟩;simp[aX,ae,aM];(with_reducible repeat' first|refine av ?_|simp);refine bc.ob (cM) (bE _ _) (by simp only[ae];exact ai) (by simp only[ae];exact ai) (by simp[ag,Pv.look,ae,aM,aj,ak]) ?_;rintro r aq ⟨rfl,rfl⟩;refine⟨b9 _ _ _ _,?_⟩;simp[aX,ae,aM];(with_reducible repeat' first|refine av ?_|simp[h3]);refine bc.ob (u9) (bE _ _) (by simp only[ae];exact ai) (by simp only[ae];exact ai) (by simp[ag,Pv.look,ae,aM,aj,ak]) ?_;rintro r aq ⟨rfl,rfl⟩;refine⟨b9 _ _ _ _,?_⟩;simp[aX,ae,aM];(with_reducible repeat' first|refine av ?_|simp);refine bL.tm (p) (.nil) false Ψ (ry fx _) (by simp only[ae];exact ai) (by simp only[ae];exact ai) ?_;simp[bV,bg,bh,bf,cm,ca]
   ·have hZ:0<acc.length:=sY.2 bM;have aku:¬acc.length=0:=Ω
    have akv:acc.length<=100000:=Ω
    have tC:((acc.length:Int)==0)=false:=jy.2 Ω;by_cases BU:l[p]? =some [41]
    ·have FK:=oZ (ky:=ky) (show p<=1000000 by omega) BU;have tI:rest=[41]::l.drop (p+1):=by rw[gK];exact fH BU
     rw[show b5 fs (k+1) ([46]::l.drop (j+1)) acc=some (gi acc t,l.drop (p+1)) by simp[b5,eb,tI,bM]];have aP:=xz BU;have xQ:aZ ((acc.length:Int)-1):=by unfold aZ;omega
     simp[rJ];refine bc.ob (ec) (bE _ _) (by simp only[ae];exact ai) (by simp only[ae];exact ai) (by simp[ag,Pv.look,ae,aM,aj,ak]) ?_;rintro r aq ⟨rfl,rfl⟩;refine⟨b9 _ _ _ _,?_⟩;simp[aX,ae,aM];(with_reducible repeat' first|refine av ?_|simp);refine bc.ob (nZ aK) (bE _ _) (by simp only[ae];exact ai) (by simp only[ae];exact ai) (by simp[ag,Pv.look,ae,aM,aj,ak]) ?_;rintro r aq ⟨rfl,rfl⟩;refine⟨b9 _ _ _ _,?_⟩;simp[aX,ae,aM];(with_reducible repeat' first|refine av ?_|simp);refine bc.ob (cM) (bE _ _) (by simp only[ae];exact ai) (by simp only[ae];exact ai) (by simp[ag,Pv.look,ae,aM,aj,ak]) ?_;rintro r aq ⟨rfl,rfl⟩;refine⟨b9 _ _ _ _,?_⟩;simp[aX,ae,aM];(with_reducible repeat' first|refine av ?_|simp[h3]);refine bc.ob (u9) (bE _ _) (by simp only[ae];exact ai) (by simp only[ae];exact ai) (by simp[ag,Pv.look,ae,aM,aj,ak]) ?_;rintro r aq ⟨rfl,rfl⟩;refine⟨b9 _ _ _ _,?_⟩;simp[aX,ae,aM];(with_reducible repeat' first|refine av ?_|simp[tC]);refine bc.ob (FK) (bE _ _) (by simp only[ae];exact ai) (by simp only[ae];exact ai) (by simp[ag,Pv.look,ae,aM,aj,ak]) ?_;rintro r aq ⟨rfl,rfl⟩;refine⟨b9 _ _ _ _,?_⟩;simp[aX,ae,aM];(with_reducible repeat' first|refine av ?_|simp[xQ]);refine gf (A5 ky l acc t p) (fun m=>(m+1).toNat) (fun m=> -1<=m/\m<acc.length) ((acc.length:Int)-1) (by simp[A5,gi,xQ];exact⟨by simp[fresh,aj,ak,bj,ag,Pv.look,dv],cg (by simp[fresh,aj,ak,bj,ag,Pv.look,dv]),ch (by simp[fresh,aj,ak,cc,ag,Pv.look,dv]),Ψ⟩) ⟨Ω,Ω⟩ ?_;rintro m ⟨akL,akM⟩ _;clear ec FK dP u9 cM eb tI gK;have uU:aZ (m-1):=by unfold aZ;omega
     by_cases iK:0<=m
     ·obtain⟨m,rfl⟩:∃a:Nat,m=a:=⟨m.toNat,Ω⟩;have Jr:m<acc.length:=Ω
      obtain⟨y,bB,ih⟩:=gp Jr;have mY:((m:Int)+1).toNat=m+1:=Ω
      have aB:((m:Int)-1+1).toNat=m:=Ω
      have Sk:=VU y (gi (acc.drop (m+1)) t);simp[A5,mY,Jr,ih];(with_reducible repeat' first|refine av ?_|refine ba Sk ?_|refine bb Sk ?_|simp[Jr,ih,uU]);refine bU.whl ((m:Int)-1) Ω ⟨Ω,Ω⟩ ?_;simp only[A5,aB];rw[Ss bB];simp;exact⟨by simp[fresh,aj,ak,bj,ag,Pv.look,dv],cg (by simp[fresh,aj,ak,bj,ag,Pv.look,dv]),ch (by simp[fresh,aj,ak,cc,ag,Pv.look,dv]),Ψ⟩
     ·obtain rfl:m= -1:=Ω
      simp[A5];(with_reducible repeat' first|refine av ?_|simp);refine bL.tm (p+1) (gi acc t) true Ψ (AO aP) (by simp only[ae];exact ai) (by simp only[ae];exact ai) ?_;simp[bV,bg,bh,bf,cm,ca]
    ·have FK:=jY (ky:=ky) (show p<=1000000 by omega) BU;have nh:b5 fs (k+1) ([46]::l.drop (j+1)) acc=none:=by
      cases rest with
      |nil=>simp[b5,eb,bM]
      |cons v r=>
       have:l[p]? =some v:=by rw[<-List.head?_drop,<-gK];rfl
       have JP:¬v=[41]:=by rintro rfl;exact BU this
       simp[b5,eb,bM,JP]
     rw[nh];simp[rJ];refine bc.ob (ec) (bE _ _) (by simp only[ae];exact ai) (by simp only[ae];exact ai) (by simp[ag,Pv.look,ae,aM,aj,ak]) ?_;rintro r aq ⟨rfl,rfl⟩;refine⟨b9 _ _ _ _,?_⟩;simp[aX,ae,aM];(with_reducible repeat' first|refine av ?_|simp);refine bc.ob (nZ aK) (bE _ _) (by simp only[ae];exact ai) (by simp only[ae];exact ai) (by simp[ag,Pv.look,ae,aM,aj,ak]) ?_;rintro r aq ⟨rfl,rfl⟩;refine⟨b9 _ _ _ _,?_⟩;simp[aX,ae,aM];(with_reducible repeat' first|refine av ?_|simp);refine bc.ob (cM) (bE _ _) (by simp only[ae];exact ai) (by simp only[ae];exact ai) (by simp[ag,Pv.look,ae,aM,aj,ak]) ?_;rintro r aq ⟨rfl,rfl⟩;refine⟨b9 _ _ _ _,?_⟩;simp[aX,ae,aM];(with_reducible repeat' first|refine av ?_|simp[h3]);refine bc.ob (u9) (bE _ _) (by simp only[ae];exact ai) (by simp only[ae];exact ai) (by simp[ag,Pv.look,ae,aM,aj,ak]) ?_;rintro r aq ⟨rfl,rfl⟩;refine⟨b9 _ _ _ _,?_⟩;simp[aX,ae,aM];(with_reducible repeat' first|refine av ?_|simp[tC]);refine bc.ob (FK) (bE _ _) (by simp only[ae];exact ai) (by simp only[ae];exact ai) (by simp[ag,Pv.look,ae,aM,aj,ak]) ?_;rintro r aq ⟨rfl,rfl⟩;refine⟨b9 _ _ _ _,?_⟩;simp[aX,ae,aM];(with_reducible repeat' first|refine av ?_|simp);refine bL.tm (p) (.nil) false Ψ (ry fx _) (by simp only[ae];exact ai) (by simp only[ae];exact ai) ?_;simp[bV,bg,bh,bf,cm,ca]
 ·have dP:=bp k Ω j aD Ω;have h6:(v==[46])=false:=jy.2 pe;rw[fH aK]at dP;cases eb:rd fs k (v::l.drop (j+1))with
  |none=>rw[eb]at dP;rw[show b5 fs (k+1) (v::l.drop (j+1)) acc=none by simp[b5,eb,e1,pe]];simp[rJ];refine bc.ob (ec) (bE _ _) (by simp only[ae];exact ai) (by simp only[ae];exact ai) (by simp[ag,Pv.look,ae,aM,aj,ak]) ?_;rintro r aq ⟨rfl,rfl⟩;refine⟨b9 _ _ _ _,?_⟩;simp[aX,ae,aM];(with_reducible repeat' first|refine av ?_|simp);refine bc.ob (nZ aK) (bE _ _) (by simp only[ae];exact ai) (by simp only[ae];exact ai) (by simp[ag,Pv.look,ae,aM,aj,ak]) ?_;rintro r aq ⟨rfl,rfl⟩;refine⟨b9 _ _ _ _,?_⟩;simp[aX,ae,aM];(with_reducible repeat' first|refine av ?_|simp[h6]);refine bc.ob (dP) (bE _ _) (by simp only[ae];exact ai) (by simp only[ae];exact ai) (by simp[ag,Pv.look,ae,aM,aj,ak]) ?_;rintro r aq ⟨x,q,bA,rfl,rfl⟩;refine⟨b9 _ _ _ _,?_⟩;simp[aX,ae,aM];(with_reducible repeat' first|refine av ?_|simp);refine bL.tm (q) (.nil) false Ψ (ry bA _) (by simp only[ae];exact ai) (by simp only[ae];exact ai) ?_;simp[bV,bg,bh,bf,cm,ca]
  |some tr=>
   obtain⟨t,rest⟩:=tr;rw[eb]at dP;obtain⟨wu,wv⟩:=tX k _ _ _ eb;rw[<-fH aK]at wu wv;obtain⟨gK,nT⟩:=yD wu;obtain⟨p,bn⟩:∃p,p=l.length-rest.length:=⟨_,rfl⟩;rw[<-bn]at gK;have u9:=LW dP bn.symm;have fx:p<=l.length:=Ω
   have Ri:j<p:=by simp at wv;omega
   rw[show b5 fs (k+1) (v::l.drop (j+1)) acc=b5 fs k rest (acc++[t]) by simp[b5,eb,e1,pe]];have hZ:acc.length+1<=bs:=by unfold bs;omega
   simp[rJ];refine bc.ob (ec) (bE _ _) (by simp only[ae];exact ai) (by simp only[ae];exact ai) (by simp[ag,Pv.look,ae,aM,aj,ak]) ?_;rintro r aq ⟨rfl,rfl⟩;refine⟨b9 _ _ _ _,?_⟩;simp[aX,ae,aM];(with_reducible repeat' first|refine av ?_|simp);refine bc.ob (nZ aK) (bE _ _) (by simp only[ae];exact ai) (by simp only[ae];exact ai) (by simp[ag,Pv.look,ae,aM,aj,ak]) ?_;rintro r aq ⟨rfl,rfl⟩;refine⟨b9 _ _ _ _,?_⟩;simp[aX,ae,aM];(with_reducible repeat' first|refine av ?_|simp[h6]);refine bc.ob (u9) (bE _ _) (by simp only[ae];exact ai) (by simp only[ae];exact ai) (by simp[ag,Pv.look,ae,aM,aj,ak]) ?_;rintro r aq ⟨rfl,rfl⟩;refine⟨b9 _ _ _ _,?_⟩;simp[aX,ae,aM];(with_reducible repeat' first|refine av ?_|simp[hZ]);refine bU.whl (acc++[t],p,k) (by simp;omega) ⟨fx,by simp;omega,by simp;omega,by simp[<-gK],by simp;omega⟩ ?_;simp[rJ];exact⟨by simp[fresh,aj,ak,bj,ag,Pv.look,dv,bC],cg (by simp[fresh,aj,ak,bj,ag,Pv.look,dv,bC]),ch (by simp[fresh,aj,ak,cc,ag,Pv.look,dv,bC]),Ψ⟩
theorem EJ(l:List (List ah))(aG:l.length<=100000)(hw:∀w∈l,w≠[]/\w.length<=bs)(i:Nat)(aE:i<=l.length):bJ aQ 84 [aM ky] (ae ky l i) (ue ky l (er (l.drop i))):=by
 have au:=bE (ky:=ky) l i;have dP:=aa1 (ky:=ky) l aG hw (2*(l.length-i)+1) i aE (c7 _);cases eb:rd fs (2*(l.length-i)+1) (l.drop i)with
 |none=>rw[eb]at dP;rw[show er (l.drop i)=none by unfold er;rw[hG,eb]];simp only[ae]at au;refine bJ.mk mixed nz Iy KM Ψ au.obj fun aL bT=>?_;unfold D8;clear aL bT;simp[aM,ae];refine bc.ob (dP) (bE _ _) (by simp only[ae];exact ai) (by simp only[ae];exact ai) (by simp[ag,Pv.look,ae,aM,aj,ak]) ?_;rintro r aq ⟨x,q,bA,rfl,rfl⟩;refine⟨b9 _ _ _ _,?_⟩;simp[aX,ae,aM];(with_reducible repeat' first|refine av ?_|simp);refine bL.tm (q) (.nil) false Ψ (ry bA _) (by simp only[ae];exact ai) (by simp only[ae];exact ai) ?_;simp[bV,bg,bh,bf,cm,ca]
 |some tr=>
  obtain⟨t,rest⟩:=tr;rw[eb]at dP;obtain⟨gK,nT⟩:=yD (tX _ _ _ _ eb).1;have u9:=LW dP rfl;have cW:=VK t;rw[show er (l.drop i)=if t.fit then some (t,rest)else none by unfold er;rw[hG,eb]];simp only[ae]at au;by_cases aY:t.fit=true
  ·rw[bP aY];rw[aY]at cW;refine bJ.mk mixed nz Iy KM Ψ au.obj fun aL bT=>?_;unfold D8;clear aL bT;simp[aM,ae];refine bc.ob (u9) (bE _ _) (by simp only[ae];exact ai) (by simp only[ae];exact ai) (by simp[ag,Pv.look,ae,aM,aj,ak]) ?_;rintro r aq ⟨rfl,rfl⟩;refine⟨b9 _ _ _ _,?_⟩;simp[aX,ae,aM];(with_reducible repeat' first|refine av ?_|refine ba cW ?_|refine bb cW ?_|simp);refine bL.tm (l.length-rest.length) (t) true Ψ (AO rfl) (by simp only[ae];exact ai) (by simp only[ae];exact ai) ?_;simp[bV,bg,bh,bf,cm,ca]
  ·rw[bo aY];rw[Bool.not_eq_true]at aY;rw[aY]at cW;refine bJ.mk mixed nz Iy KM Ψ au.obj fun aL bT=>?_;unfold D8;clear aL bT;simp[aM,ae];refine bc.ob (u9) (bE _ _) (by simp only[ae];exact ai) (by simp only[ae];exact ai) (by simp[ag,Pv.look,ae,aM,aj,ak]) ?_;rintro r aq ⟨rfl,rfl⟩;refine⟨b9 _ _ _ _,?_⟩;simp[aX,ae,aM];(with_reducible repeat' first|refine av ?_|refine ba cW ?_|refine bb cW ?_|simp);refine bL.tm (l.length-rest.length) (.nil) false Ψ (ry Ω _) (by simp only[ae];exact ai) (by simp only[ae];exact ai) ?_;simp[bV,bg,bh,bf,cm,ca]
end
section
open Go Go.Pv
def ND:C:=(af [fl 1 0,cG 2 0] (af [bO 3 4 1,eM 4 117 [.t 3,(b6 80)],a8 5 (.max2 (.t 4) (b6 0)),ab 2 5] .ret))
@[simp] def TK:List cu:=[.tmp 2]
def NK:C:=(af [fl 1 0,a8 2 (.mov (.c (.str [])))] (af [cd (.mkmap 9 none),cd (.mput .i (.t 9) (b6 2) (.c (.str [61]))),cd (.mput .i (.t 9) (b6 3) (.c (.str [47,61]))),cd (.mput .i (.t 9) (b6 4) (.c (.str [115,121,109,98,111,108]))),cd (.mput .i (.t 9) (b6 5) (.c (.str [110,117,109,98,101,114]))),cd (.mput .i (.t 9) (b6 6) (.c (.str [97,98,115,101,110,116]))),cd (.mput .i (.t 9) (b6 7) (.c (.str [97,110,100]))),cd (.mput .i (.t 9) (b6 8) (.c (.str [111,114]))),cd (.mput .i (.t 9) (b6 10) (.c (.str [110,111,116]))),ab 10 9,bm 11 0 1 1,a7 12 1 11,a8 13 (.mget .i (.str []) false (.t 10) (.t 12)),ab 3 13] (.seq (af [bm 14 0 1 1,a7 15 1 14] (.block 0 (af [bk 17 .eql 15 0,ab 16 17] (bt 16 (af [a8 2 (.mov (.c (.str [116,114,117,101])))] .ret) (af [bk 19 .eql 15 1,ab 18 19] (bt 18 (af [a8 2 (.mov (.c (.str [102,97,105,108])))] .ret) (af [bk 21 .eql 15 9,ab 20 21] (bt 20 (.region [bm 22 1 1 1,a7 23 1 22,ab 3 23]) .skip)))))))) (af [ab 24 3,fm 25 1 9 [.t 24],ab 4 25] (.seq (af [bm 26 2 1 1,a7 27 1 26,cJ 28 27,cG 29 0] (.block 1 (.loop (af [cA 30 .lss 29 28] (.seq (bt 30 .skip (.exit 1)) (.seq (.block 2 (af [dm 31 4 27 29,bO 32 4 31,gI 6 dv,bD 4 6 32] (.region [ab 33 4,bO 34 4 6,cC 35 85 34,fm 36 1 9 [.t 35],j1 37 1 9 33 36,ab 4 37]))) (.region [bk 38 .add 29 1,ab 29 38]))))))) (.seq (af [bm 39 3 1 1,a7 40 1 39,cJ 41 40,cG 42 0] (.block 3 (.loop (af [cA 43 .lss 42 41] (.seq (bt 43 .skip (.exit 3)) (.seq (.block 4 (af [dm 44 4 40 42,bO 45 4 44,cd (.alloc 8 none (.agg [.int .i64 0,.str [],.slice 4 .nil [],.slice 4 .nil []])),bD 4 8 45] (.region [ab 46 4,bO 47 4 8,cC 48 65 47,fm 49 1 9 [.t 48],j1 50 1 9 46 49,ab 4 50]))) (.region [bk 51 .add 42 1,ab 42 51]))))))) (af [ab 52 4,⟨none,.call (some 53) (.c (.func 87 [])) [.t 52,(.c (.str [32]))]⟩,a8 54 (.bin .add false (.c (.str [40])) (.t 53)),a8 55 (.bin .add false (.t 54) (.c (.str [41]))),ab 2 55] .ret)))))))
@[simp] def KV:List cu:=[.tmp 2]
def NL:C:=(af [fl 1 0,n4 2 1] (af [cd (.mkmap 4 (some 304)),cd (.alloc 3 (some 305) (.junk)),bD 1 3 4] (af [bO 5 4 1,a8 6 (.mkf 158 [.t 3]),eN 7 157 5 6] (af [a7 8 1 3,cC 9 160 8,ab 2 9] .ret))))
@[simp] def TP:List cu:=[.tmp 2]
def HE:C:=(af [bZ 2 false] (.seq (af [ab 3 0] (.block 0 (.seq (af [a8 5 (.bin .eql false (.t 3) (.c (.str [116,114,117,101]))),ab 4 5] (bt 4 .skip (af [a8 6 (.bin .eql false (.t 3) (.c (.str [102,97,105,108]))),ab 4 6] (bt 4 .skip (af [a8 7 (.bin .eql false (.t 3) (.c (.str [115,121,109,98,111,108]))),ab 4 7] (bt 4 .skip (af [a8 8 (.bin .eql false (.t 3) (.c (.str [110,117,109,98,101,114]))),ab 4 8] (bt 4 .skip (af [a8 9 (.bin .eql false (.t 3) (.c (.str [97,98,115,101,110,116]))),ab 4 9] (bt 4 .skip (af [a8 10 (.bin .eql false (.t 3) (.c (.str [97,110,100]))),ab 4 10] (bt 4 .skip (af [a8 11 (.bin .eql false (.t 3) (.c (.str [111,114]))),ab 4 11] (bt 4 .skip (af [a8 12 (.bin .eql false (.t 3) (.c (.str [110,111,116]))),ab 4 12] (bt 4 .skip (.region [a8 13 (.bin .eql false (.t 3) (.c (.str [100,101,102,105,110,101]))),ab 4 13]))))))))))))))))) (bt 4 (af [bZ 2 false] .ret) .skip)))) (af [ab 14 0,cC 15 170 14,ab 2 15] .ret)))
@[simp] def agq:List cu:=[.tmp 2]
def NC:C:=(af [fl 1 0,bZ 2 false] (af [bO 3 4 1,eM 4 117 [.t 3,(b6 80)],bk 5 .gtr 4 0,ab 2 5] .ret))
@[simp] def agp:List cu:=[.tmp 2]
def qS:C:=(af [fl 2 0,cG 4 0] (.seq (af [ab 10 1,bk 11 .lss 10 1,ab 12 11,aF 12 false (bm 13 2 1 2),aF 12 false (a7 14 1 13),aF 12 false (cC 15 183 14),aF 12 false (dq 16 15),cH 17 12 16] (bt 17 (af [cG 4 (-1)] .ret) .skip)) (af [cd (.mkmap 18 none),cd (.mput .i (.t 18) (b6 2) (b6 2)),cd (.mput .i (.t 18) (b6 3) (b6 2)),cd (.mput .i (.t 18) (b6 4) (b6 1)),cd (.mput .i (.t 18) (b6 5) (b6 1)),cd (.mput .i (.t 18) (b6 6) (b6 2)),ab 19 18,bm 20 0 1 2,a7 21 1 20,a8 22 (.mget .i (.int .i64 0) false (.t 19) (.t 21)),ab 5 22] (.seq (af [bm 23 0 1 2,a7 24 1 23] (.block 0 (.seq (af [bk 26 .eql 24 0,ab 25 26] (bt 25 .skip (af [bk 27 .eql 24 1,ab 25 27] (bt 25 .skip (af [bk 28 .eql 24 2,ab 25 28] (bt 25 .skip (af [bk 29 .eql 24 3,ab 25 29] (bt 25 .skip (af [bk 30 .eql 24 4,ab 25 30] (bt 25 .skip (af [bk 31 .eql 24 5,ab 25 31] (bt 25 .skip (.region [bk 32 .eql 24 6,ab 25 32]))))))))))))) (bt 25 (.seq (af [bm 33 1 1 2,a7 34 1 33,a8 35 (.bin .neq false (.t 34) (.c (.str []))),ab 36 35,aF 36 false (bm 37 3 1 2),aF 36 false (a7 38 1 37),aF 36 false (cJ 39 38),aF 36 false (bk 40 .neq 39 0),cH 41 36 40,ab 42 41,aF 42 false (bm 43 2 1 2),aF 42 false (a7 44 1 43),aF 42 false (cJ 45 44),b0 42 false 46 5,aF 42 false (cA 47 .neq 45 46),cH 48 42 47,ab 49 48,aF 49 false (bm 50 0 1 2),aF 49 false (a7 51 1 50),aF 49 false (bk 52 .eql 51 6),b0 49 false 53 52,aF 53 true (bm 54 2 1 2),aF 53 true (a7 55 1 54),aF 53 true (mO 56 4 55 0),aF 53 true (bm 57 0 1 56),aF 53 true (a7 58 1 57),aF 53 true (bk 59 .neq 58 2),aF 49 false (ep 60 53 59),cH 61 49 60] (bt 61 (af [cG 4 (-1)] .ret) .skip)) (af [cG 4 1] .ret)) (af [bk 63 .eql 24 9,ab 62 63] (bt 62 (.seq (af [bm 64 1 1 2,a7 65 1 64,cC 66 103 65,dq 67 66,ab 68 67,aF 68 false (bm 69 3 1 2),aF 68 false (a7 70 1 69),aF 68 false (cJ 71 70),aF 68 false (bk 72 .neq 71 0),cH 73 68 72,ab 74 73,aF 74 false (bm 75 2 1 2),aF 74 false (a7 76 1 75),aF 74 false (cJ 77 76),aF 74 false (bk 78 .gtr 77 4),cH 79 74 78] (bt 79 (af [cG 4 (-1)] .ret) .skip)) (af [cG 4 1] .ret)) (.seq (af [bk 81 .eql 24 7,ab 80 81] (bt 80 .skip (.region [bk 82 .eql 24 8,ab 80 82]))) (bt 80 (af [bm 83 1 1 2,a7 84 1 83,a8 85 (.bin .neq false (.t 84) (.c (.str []))),ab 86 85,aF 86 false (bm 87 2 1 2),aF 86 false (a7 88 1 87),aF 86 false (cJ 89 88),aF 86 false (bk 90 .neq 89 0),cH 91 86 90,ab 92 91,aF 92 false (bm 93 3 1 2),aF 92 false (a7 94 1 93),aF 92 false (cJ 95 94),aF 92 false (bk 96 .gtr 95 8),cH 97 92 96] (bt 97 (af [cG 4 (-1)] .ret) .skip)) (af [bk 99 .eql 24 10,ab 98 99] (bt 98 (af [bm 100 1 1 2,a7 101 1 100,a8 102 (.bin .neq false (.t 101) (.c (.str []))),ab 103 102,aF 103 false (bm 104 2 1 2),aF 103 false (a7 105 1 104),aF 103 false (cJ 106 105),aF 103 false (bk 107 .neq 106 0),cH 108 103 107,ab 109 108,aF 109 false (bm 110 3 1 2),aF 109 false (a7 111 1 110),aF 109 false (cJ 112 111),aF 109 false (bk 113 .neq 112 1),cH 114 109 113,ab 115 114,aF 115 false (bm 116 3 1 2),aF 115 false (a7 117 1 116),aF 115 false (mO 118 4 117 0),aF 115 false (bm 119 0 1 118),aF 115 false (a7 120 1 119),aF 115 false (bk 121 .neq 120 9),cH 122 115 121] (bt 122 (af [cG 4 (-1)] .ret) .skip)) (af [cG 4 (-1)] .ret))))))))))) (af [cG 6 1] (.seq (af [bm 123 3 1 2,a7 124 1 123,cJ 125 124,cG 126 0] (.block 1 (.loop (af [cA 127 .lss 126 125] (.seq (bt 127 .skip (.exit 1)) (.seq (.block 2 (af [dm 128 4 124 126,bO 129 4 128,cd (.alloc 8 none (.agg [.int .i64 0,.str [],.slice 4 .nil [],.slice 4 .nil []])),bD 4 8 129] (af [bO 130 4 8,ab 131 1,ab 132 6,cA 133 .sub 131 132,eN 134 117 130 133,ab 9 134] (.seq (af [ab 135 9,bk 136 .lss 135 0] (bt 136 (af [cG 4 (-1)] .ret) .skip)) (.region [ab 137 6,ab 138 9,cA 139 .add 137 138,ab 6 139]))))) (.region [bk 140 .add 126 1,ab 126 140]))))))) (af [ab 141 6,ab 4 141] .ret)))))))
@[simp] def tV:List cu:=[.tmp 4]
def NZ:C:=(af [fl 2 0,bZ 4 false] (.seq (af [bO 7 4 2,cC 8 90 7,cJ 9 8,cG 10 0] (jx 11 10 9 (.seq (.block 1 (af [dm 12 1 8 10,a7 13 1 12,ab 6 13] (af [ab 14 6,ab 15 1,cA 16 .geq 14 15] (bt 16 (af [bZ 4 false] .ret) .skip)))) (.region [bk 17 .add 10 1,ab 10 17])))) (af [bZ 4 true] .ret)))
@[simp] def agC:List cu:=[.tmp 4]
def HI:C:=(af [fl 2 0] (af [ab 6 1,bO 7 4 2,We 8 6 [.t 7]] (af [bm 9 3 1 2,a7 10 1 9,cJ 11 10,cG 12 0] (jx 13 12 11 (.seq (.block 1 (af [dm 14 4 10 12,bO 15 4 14,cd (.alloc 5 none (.agg [.int .i64 0,.str [],.slice 4 .nil [],.slice 4 .nil []])),bD 4 5 15] (.region [bO 16 4 5,ab 17 1,eN 18 157 16 17]))) (.region [bk 19 .add 12 1,ab 12 19]))))))
@[simp] def KU:List cu:=[]
def NM:C:=(af [fl 2 0] (af [bm 5 2 1 2,a7 6 1 5,cJ 7 6,cG 8 0] (jx 9 8 7 (.seq (.block 1 (af [dm 10 4 6 8,bO 11 4 10,gI 4 dv,bD 4 4 11] (.region [bO 12 4 4,a8 13 (.mkf 159 [.t 1]),eN 14 79 12 13]))) (.region [bk 15 .add 8 1,ab 8 15])))))
@[simp] def TQ:List cu:=[]
def NN:C:=(.region [a7 3 1 1,ab 4 0,cd (.mput .i (.t 3) (.t 4) (.c (.bool true)))])
@[simp] def TR:List cu:=[]
def sO:List (Nat×dt):=[
 (3,⟨1,8,.int .i64,.int .i64 0⟩),
 (9,⟨1,16,.str,.str []⟩),
 (38,⟨1,24,.slice 40,.slice 4 .nil []⟩),
 (40,⟨4,56,.struct [(0,3),(1,3),(2,9),(3,38)],.agg [.int .i64 0,.int .i64 0,.str [],.slice 4 .nil []]⟩),
 (63,⟨1,24,.slice 65,.slice 4 .nil []⟩),
 (65,⟨4,72,.struct [(0,3),(1,9),(2,38),(3,63)],.agg [.int .i64 0,.str [],.slice 4 .nil [],.slice 4 .nil []]⟩),
 (70,⟨1,24,.slice 9,.slice 1 .nil []⟩),
 (136,⟨1,24,.slice 3,.slice 1 .nil []⟩),
 (180,⟨1,8,.map 3 9,.junk⟩),
 (199,⟨1,8,.map 3 4,.junk⟩),
 (219,⟨1,8,.map 3 3,.junk⟩)]
theorem kU:e7 aQ sO=true:=by kernel_rfl
theorem ae6:cI sO ND TK 1 Tryz.f48=true:=by kernel_rfl
theorem Zr:aQ.funcs[(48:Nat)]? =some Tryz.f48:=Tryz.func48
theorem afc:cI sO NK KV 1 Tryz.f65=true:=by kernel_rfl
theorem Zx:aQ.funcs[(65:Nat)]? =some Tryz.f65:=Tryz.func65
theorem afd:cI sO NL TP 1 Tryz.f90=true:=by kernel_rfl
theorem Zy:aQ.funcs[(90:Nat)]? =some Tryz.f90:=Tryz.func90
theorem Ta:cI sO HE agq 1 Tryz.f103=true:=by kernel_rfl
theorem Px:aQ.funcs[(103:Nat)]? =some Tryz.f103:=Tryz.func103
theorem ae5:cI sO NC agp 1 Tryz.f115=true:=by kernel_rfl
theorem Zq:aQ.funcs[(115:Nat)]? =some Tryz.f115:=Tryz.func115
theorem sy:cI sO qS tV 2 Tryz.f117=true:=by kernel_rfl
theorem rW:aQ.funcs[(117:Nat)]? =some Tryz.f117:=Tryz.func117
theorem afr:cI sO NZ agC 2 Tryz.f120=true:=by kernel_rfl
theorem ZM:aQ.funcs[(120:Nat)]? =some Tryz.f120:=Tryz.func120
theorem Te:cI sO HI KU 2 Tryz.f157=true:=by kernel_rfl
theorem PB:aQ.funcs[(157:Nat)]? =some Tryz.f157:=Tryz.func157
theorem afe:cI sO NM TQ 2 Tryz.f158=true:=by kernel_rfl
theorem Zz:aQ.funcs[(158:Nat)]? =some Tryz.f158:=Tryz.func158
theorem aff:cI sO NN TR 2 Tryz.f159=true:=by kernel_rfl
theorem ZA:aQ.funcs[(159:Nat)]? =some Tryz.f159:=Tryz.func159
end
end Go.Proofs.YtlnndmgfngfeiaaGreatDoor
namespace Go.Pv
section
open Go Go.Lib
structure qH where
 op:Int
 a:Int
 b:Int
 g:Gm
structure mj where
 name:List ah
 pos:Int
 ar:Int
 vars:Int
structure yW where
 is:List qH
 es:List mj
def Yg(es:List mj)(s:List ah):Int:=match es.findIdx? fun e=>e.name==s with
 |some i=>i
 |none=> -1
def Mr(g:Gm)(n:Int):Prop:= ∀v∈g.vs,v<n
def abW(e:mj):List ah:=e.name++([47]++(itoa e.ar++[58,10]))
def Fq(es:List mj)(k:Nat):List ah:=((es.filter fun e=>e.pos==(k:Int)).map abW).flatten
end
end Go.Pv
namespace Go.Proofs.YtlnndmgfngfeiaaGreatDoor
section
open Go Go.Pv
def oL{α:Type}(p:α->Bool)(s:List α)(i:Nat)(_:Unit):Prop:= ∀k b,k<i->s[k]? =some b->p b=true
theorem oL.step{α:Type}{p:α->Bool}{s:List α}{i:Nat}(h:oL p s i ()){b:α}(ao:s[i]? =some b)(bn:p b=true):oL p s (i+1) ():=fun k c aa aH=>by
 rcases lU k i with cx|cx
 ·exact h k c cx aH
 ·obtain rfl:k=i:=Ω
  rw[ao]at aH;cases aH;exact bn
theorem oL.fin{α:Type}{p:α->Bool}{s:List α}(h:oL p s s.length ()):s.all p=true:=by rw[hq];intro b ao;obtain⟨i,aE⟩:=List.mem_iff_getElem?.1 ao;exact h i b (eV.1 aE).1 aE
theorem xi{α:Type}{p:α->Bool}{s:List α}{i:Nat}{b:α}(ao:s[i]? =some b)(bn:p b=false):s.all p=false:=by rw[List.all_eq_false];exact⟨b,fq ao,by rw[bn];simp⟩
theorem ug(l:List aV):ct aQ 183 [.slice 4 .no (l.map enc)] (.bool (l.all aV.fits)):=by
 generalize bH:l.all aV.fits=R;refine bW sQ ZI afn fun aL=>?_;unfold NV;have gg:l.length<=68719476736:=by simp[lY,kn,kX,bs]at aL;omega
 simp;refine gP (fun i (_:Unit)=>⟨[(5,.slice 4 .no (l.map enc)),(6,.int .i64 l.length),(7,.int .i64 i)],[],[],0,[]⟩) l.length (oL aV.fits l) () cX (fun k b aa=>Ω) (fun _ aD _=>?_) (fun i _ aE aD _=>?_)
 ·have:R=true:=by rw[<-bH];exact aD.fin
  subst this;clear aD bH;exact cB
 ·obtain⟨t,aI,adj⟩:=gp aE;have cW:=VJ t;cases g:t.fits
  ·rw[g]at cW;have:R=false:=by rw[<-bH];exact xi aI g
   subst this;clear aI aD bH;exact cB
  ·rw[g]at cW;have aJ:=aD.step aI g;clear aI aD bH;exact wS
theorem Md(s:List ah):ct aQ 103 [.str s] (.bool (eS s)):=by
 have cU:=G6 s;by_cases h:hN.contains s=true
 ·have:eS s=false:=by unfold eS;rw[h];rfl
  rw[this];have hm:s∈hN:=by simpa using h
  simp only[hN,gb,List.not_mem_nil,or_false]at hm;rcases hm with rfl|rfl|rfl|rfl|rfl|rfl|rfl|rfl|rfl;all_goals
   refine bW kU Px Ta fun aL=>?_;unfold HE
   clear aL cU
   simp[hb,hQ,pO,pM,pJ,pK,pN,pL,ha]
   exact cB
 ·have:eS s=fA s:=by unfold eS;rw[Bool.not_eq_true]at h;rw[h];rfl
  rw[this];have hm:∀w∈hN,(s==w)=false:=fun w hw=>by rw[jy];rintro rfl;exact h (by simpa using hw)
  simp only[hN,gb,List.not_mem_nil,or_false,forall_eq_or_imp,forall_eq]at hm;obtain⟨I,J,aA,aS,bG,cq,dW,fZ,ee⟩:=hm;simp only[hb,hQ,pO,pM,pJ,pK,pN,pL,ha]at I J aA aS bG cq dW fZ ee;refine bW kU Px Ta fun aL=>?_;unfold HE;clear aL;exact cB
theorem FQ{α:Type}(l:List α):((l.length:Int)==0)=l.isEmpty:=by
 cases l with
 |nil=>rfl
 |cons a l=>simp;omega
theorem GP{α:Type}{p:α->Bool}{s:List α}{i k:Nat}(kd:i<=k)(aa:k<=s.length)(j9:∀c∈(s.drop i).take (k-i),p c=true)(jq:∀c,s[k]? =some c->p c=false):(s.drop i).takeWhile p=(s.drop i).take (k-i)/\(s.drop i).dropWhile p=s.drop k:=by
 have I:s.drop i=(s.drop i).take (k-i)++s.drop k:=by have:=(List.take_append_drop (k-i) (s.drop i)).symm;rwa[List.drop_drop,show i+(k-i)=k by omega]at this
 have J:(s.drop k).takeWhile p=[]/\(s.drop k).dropWhile p=s.drop k:=by
  cases h:s.drop k with
  |nil=>simp
  |cons c r=>
   have:s[k]? =some c:=by rw[<-List.head?_drop,h];rfl
   have aH:=jq c this;simp[aH]
 constructor
 ·conv=>lhs;rw[I]
  rw[List.takeWhile_append_of_pos j9,J.1,mg]
 ·conv=>lhs;rw[I]
  rw[List.dropWhile_append_of_pos j9,J.2]
def lk(o:a1 (List (List ah))):al:=match o with
 |some l=>.tuple [.slice 1 .no (cl l),.bool true]
 |none=>.tuple [.slice 1 .no [],.bool false]
theorem S2(c:ah):nX c=true↔(c.toNat:Int)=10\/(32<=(c.toNat:Int)/\(c.toNat:Int)<=126):=by
 unfold nX;simp only[Bool.or_eq_true,dK,bF,ea];have:c=10↔c.toNat=10:=by rw[<-UInt8.toNat_inj];rfl
 rw[this];omega
theorem pG{c d:ah}(h:c≠d):((c.toNat:Int)==(d.toNat:Int))=false:=jy.2 fun e=>h (UInt8.toNat_inj.1 Ω)
theorem w6{c d:ah}(h:c≠d):((c.toNat:Int) !=(d.toNat:Int))=true:=by simp only[bne,pG h];rfl
theorem eB(S:aO->Prop)(l:List (List ah)):aj S (l.map al.str)=True:=dO S l
def D9:C:=(af [a8 2 (.mov (.c (.str [])))] (.seq (af [ab 4 0,bk 5 .lss 4 0] (bt 5 (.seq (af [ab 6 0,bk 7 .quo 6 10,bk 8 .eql 7 0] (bt 8 (af [ab 9 0,a8 10 (.bin .sub false (b6 48) (.t 9)),a8 11 (.conv .u8 (.t 10)),fm 12 1 5 [.t 11],a8 13 (.b2s (.t 12)),a8 14 (.bin .add false (.c (.str [45])) (.t 13)),ab 2 14] .ret) .skip)) (.seq (.drawn true 44 [ab 15 0,bk 16 .quo 15 10,cC 17 57 16,ab 18 0,bk 19 .rem 18 10,a8 20 (.bin .sub false (b6 48) (.t 19)),a8 21 (.conv .u8 (.t 20)),fm 22 1 5 [.t 21],a8 23 (.b2s (.t 22)),cA 24 .add 17 23,ab 2 24]) .ret)) .skip)) (af [a8 3 (.mov (.c (.str [])))] (.seq (.block 0 (.loop (.seq (af [ab 25 0,bk 26 .gtr 25 9] (bt 26 .skip (.exit 0))) (.block 1 (af [ab 27 0,bk 28 .rem 27 10,a8 29 (.bin .add false (b6 48) (.t 28)),a8 30 (.conv .u8 (.t 29)),fm 31 1 5 [.t 30],a8 32 (.b2s (.t 31)),ab 33 3,cA 34 .add 32 33,ab 3 34] (.region [ab 35 0,bk 36 .quo 35 10,ab 0 36])))))) (af [ab 37 0,a8 38 (.bin .add false (b6 48) (.t 37)),a8 39 (.conv .u8 (.t 38)),fm 40 1 5 [.t 39],a8 41 (.b2s (.t 40)),ab 42 3,cA 43 .add 41 42,ab 2 43] .ret)))))
@[simp] def Gt:List cu:=[.tmp 2]
def Ov:C:=(af [fl 2 0,n4 4 1] (.seq (af [bm 9 2 1 2,a7 10 1 9,cJ 11 10,cG 12 0] (jx 13 12 11 (.seq (.block 1 (af [dm 14 4 10 12,bO 15 4 14,gI 6 dv,bD 4 6 15] (.region [bO 16 4 6,ab 17 1,eN 18 156 16 17,ab 1 18]))) (.region [bk 19 .add 12 1,ab 12 19])))) (.seq (af [bm 20 3 1 2,a7 21 1 20,cJ 22 21,cG 23 0] (.block 2 (.loop (af [cA 24 .lss 23 22] (.seq (bt 24 .skip (.exit 2)) (.seq (.block 3 (af [dm 25 4 21 23,bO 26 4 25,cd (.alloc 8 none (.agg [.int .i64 0,.str [],.slice 4 .nil [],.slice 4 .nil []])),bD 4 8 26] (.region [bO 27 4 8,ab 28 1,eN 29 89 27 28,ab 1 29]))) (.region [bk 30 .add 23 1,ab 23 30]))))))) (af [ab 31 1,ab 4 31] .ret))))
@[simp] def agO:List cu:=[.tmp 4]
def N5:C:=(af [bZ 2 false] (.seq (af [cd (.bsl 5 1 9 [(.c (.str [116,114,117,101])),(.c (.str [102,97,105,108])),(.c (.str [115,121,109,98,111,108])),(.c (.str [110,117,109,98,101,114])),(.c (.str [97,98,115,101,110,116])),(.c (.str [97,110,100])),(.c (.str [111,114])),(.c (.str [110,111,116])),(.c (.str [100,101,102,105,110,101]))]),cJ 6 5,cG 7 0] (jx 8 7 6 (.seq (.block 1 (af [dm 9 1 5 7,a7 10 1 9,ab 4 10] (af [ab 11 4,ab 12 0,cA 13 .eql 11 12] (bt 13 (af [bZ 2 false] .ret) .skip)))) (.region [bk 14 .add 7 1,ab 7 14])))) (af [ab 15 0,cC 16 188 15,ab 2 16] .ret)))
@[simp] def agE:List cu:=[.tmp 2]
def Oy:C:=(af [n4 0 1] (af [cd (.bsl 1 1 9 [(.c (.str [116,114,117,101])),(.c (.str [102,97,105,108])),(.c (.str [61])),(.c (.str [47,61])),(.c (.str [115,121,109,98,111,108])),(.c (.str [110,117,109,98,101,114])),(.c (.str [97,98,115,101,110,116])),(.c (.str [97,110,100])),(.c (.str [111,114])),(.c (.str [])),(.c (.str [110,111,116]))]),ab 0 1] .ret))
@[simp] def agR:List cu:=[.tmp 0]
def HO:C:=(af [fl 1 0,bZ 2 false] (af [bO 3 4 1,eM 4 210 [.t 3,(b6 80)],bk 5 .leq 4 80,ab 6 5,aF 6 true (bO 7 4 1),aF 6 true (cC 8 211 7),ep 9 6 8,ab 2 9] .ret))
@[simp] def KX:List cu:=[.tmp 2]
def Ou:C:=(af [fl 2 0,cG 4 0] (af [cG 5 1] (.seq (af [bm 8 3 1 2,a7 9 1 8,cJ 10 9,cG 11 0] (jx 12 11 10 (.seq (.block 1 (af [dm 13 4 9 11,bO 14 4 13,cd (.alloc 7 none (.agg [.int .i64 0,.str [],.slice 4 .nil [],.slice 4 .nil []])),bD 4 7 14] (.seq (af [ab 15 5,ab 16 1,cA 17 .gtr 15 16] (bt 17 (af [ab 18 5,ab 4 18] .ret) .skip)) (.region [ab 19 5,bO 20 4 7,ab 21 1,ab 22 5,cA 23 .sub 21 22,eN 24 210 20 23,cA 25 .add 19 24,ab 5 25])))) (.region [bk 26 .add 11 1,ab 11 26])))) (af [ab 27 5,ab 4 27] .ret))))
@[simp] def agM:List cu:=[.tmp 4]
def rP:C:=(af [fl 1 0,bZ 2 false] (.seq (af [bm 6 0 1 1,a7 7 1 6,eM 8 127 [.t 7,(b6 0),(b6 10)],dq 9 8,ab 10 9,aF 10 false (bm 11 0 1 1),aF 10 false (a7 12 1 11),aF 10 false (bk 13 .neq 12 9),b0 10 false 14 13,aF 14 true (bm 15 1 1 1),aF 14 true (a7 16 1 15),lR 14 true 17 (.bin .neq false (.t 16) (.c (.str []))),aF 10 false (ep 18 14 17),cH 19 10 18,ab 20 19,aF 20 false (bm 21 2 1 1),aF 20 false (a7 22 1 21),aF 20 false (cC 23 253 22),aF 20 false (dq 24 23),cH 25 20 24] (bt 25 (af [bZ 2 false] .ret) .skip)) (af [bm 26 2 1 1,a7 27 1 26,cJ 28 27,fm 29 1 3 [(b6 0),(b6 0),(b6 2),(b6 2),(b6 1),(b6 1),(b6 2),(b6 0),(b6 0),.t 28,(b6 0)],bm 30 0 1 1,a7 31 1 30,dm 32 1 29 31,a7 33 1 32,ab 3 33] (.seq (af [bm 34 2 1 1,a7 35 1 34,cJ 36 35,ab 37 3,cA 38 .neq 36 37,ab 39 38,b0 39 false 40 3,aF 39 false (bk 41 .gtr 40 4),cH 42 39 41,ab 43 42,aF 43 false (bm 44 0 1 1),aF 43 false (a7 45 1 44),aF 43 false (bk 46 .lss 45 7),b0 43 false 47 46,aF 47 true (bm 48 3 1 1),aF 47 true (a7 49 1 48),aF 47 true (cJ 50 49),aF 47 true (bk 51 .gtr 50 0),aF 43 false (ep 52 47 51),cH 53 43 52,ab 54 53,aF 54 false (bm 55 3 1 1),aF 54 false (a7 56 1 55),aF 54 false (cJ 57 56),aF 54 false (bk 58 .gtr 57 8),cH 59 54 58] (bt 59 (af [bZ 2 false] .ret) .skip)) (.seq (af [bm 60 3 1 1,a7 61 1 60,cJ 62 61,cG 63 0] (jx 64 63 62 (.seq (.block 1 (af [dm 65 4 61 63,bO 66 4 65,cd (.alloc 5 none (.agg [.int .i64 0,.str [],.slice 4 .nil [],.slice 4 .nil []])),bD 4 5 66] (af [bO 67 4 5,cC 68 211 67,dq 69 68] (bt 69 (af [bZ 2 false] .ret) .skip)))) (.region [bk 70 .add 63 1,ab 63 70])))) (.seq (af [bm 71 0 1 1,a7 72 1 71] (.block 2 (af [bk 74 .eql 72 6,ab 73 74] (bt 73 (af [bm 75 2 1 1,a7 76 1 75,mO 77 4 76 0,bm 78 0 1 77,a7 79 1 78,bk 80 .eql 79 2,ab 2 80] .ret) (af [bk 82 .eql 72 9,ab 81 82] (bt 81 (af [bm 83 3 1 1,a7 84 1 83,cJ 85 84,bk 86 .eql 85 0,ab 87 86,aF 87 true (bm 88 1 1 1),aF 87 true (a7 89 1 88),aF 87 true (cC 90 128 89),ep 91 87 90,ab 2 91] .ret) (af [bk 93 .eql 72 10,ab 92 93] (bt 92 (af [bm 94 3 1 1,a7 95 1 94,cJ 96 95,bk 97 .eql 96 1,ab 98 97,aF 98 true (bm 99 3 1 1),aF 98 true (a7 100 1 99),aF 98 true (mO 101 4 100 0),aF 98 true (bm 102 0 1 101),aF 98 true (a7 103 1 102),aF 98 true (bk 104 .eql 103 9),ep 105 98 104,ab 2 105] .ret) .skip)))))))) (af [bZ 2 true] .ret)))))))
@[simp] def Ay:List cu:=[.tmp 2]
def Og:C:=(af [bZ 2 false] (.seq (af [ab 5 0,cJ 6 5,cG 7 0] (jx 8 7 6 (.seq (.block 1 (af [dm 9 4 5 7,bO 10 4 9,gI 4 dv,bD 4 4 10] (af [bO 11 4 4,cC 12 271 11,dq 13 12] (bt 13 (af [bZ 2 false] .ret) .skip)))) (.region [bk 14 .add 7 1,ab 7 14])))) (af [bZ 2 true] .ret)))
@[simp] def agJ:List cu:=[.tmp 2]
def vB:List (Nat×dt):=[
 (3,⟨1,8,.int .i64,.int .i64 0⟩),
 (5,⟨1,1,.int .u8,.int .u8 0⟩),
 (9,⟨1,16,.str,.str []⟩),
 (35,⟨1,24,.slice 5,.slice 1 .nil []⟩),
 (38,⟨1,24,.slice 40,.slice 4 .nil []⟩),
 (40,⟨4,56,.struct [(0,3),(1,3),(2,9),(3,38)],.agg [.int .i64 0,.int .i64 0,.str [],.slice 4 .nil []]⟩),
 (63,⟨1,24,.slice 65,.slice 4 .nil []⟩),
 (65,⟨4,72,.struct [(0,3),(1,9),(2,38),(3,63)],.agg [.int .i64 0,.str [],.slice 4 .nil [],.slice 4 .nil []]⟩),
 (70,⟨1,24,.slice 9,.slice 1 .nil []⟩),
 (136,⟨1,24,.slice 3,.slice 1 .nil []⟩)]
theorem lP:e7 aQ vB=true:=by kernel_rfl
theorem KN:cI vB D9 Gt 1 Tryz.f57=true:=by kernel_rfl
theorem Iz:aQ.funcs[(57:Nat)]? =some Tryz.f57:=Tryz.func57
theorem afR:cI vB Ov agO 2 Tryz.f89=true:=by kernel_rfl
theorem aac:aQ.funcs[(89:Nat)]? =some Tryz.f89:=Tryz.func89
theorem afx:cI vB N5 agE 1 Tryz.f128=true:=by kernel_rfl
theorem ZS:aQ.funcs[(128:Nat)]? =some Tryz.f128:=Tryz.func128
theorem afU:cI vB Oy agR 0 Tryz.f131=true:=by kernel_rfl
theorem aaf:aQ.funcs[(131:Nat)]? =some Tryz.f131:=Tryz.func131
theorem Ti:cI vB HO KX 1 Tryz.f155=true:=by kernel_rfl
theorem PE:aQ.funcs[(155:Nat)]? =some Tryz.f155:=Tryz.func155
theorem afQ:cI vB Ou agM 2 Tryz.f210=true:=by kernel_rfl
theorem aab:aQ.funcs[(210:Nat)]? =some Tryz.f210:=Tryz.func210
theorem tT:cI vB rP Ay 1 Tryz.f211=true:=by kernel_rfl
theorem tv:aQ.funcs[(211:Nat)]? =some Tryz.f211:=Tryz.func211
theorem afG:cI vB Og agJ 1 Tryz.f253=true:=by kernel_rfl
theorem Z1:aQ.funcs[(253:Nat)]? =some Tryz.f253:=Tryz.func253
theorem Hc(d:Nat)(h:d<10):IntKind.u8.wrap (48+(d:Int))=((48+d:Nat):Int):=by rcases(by omega:d=0\/d=1\/d=2\/d=3\/d=4\/d=5\/d=6\/d=7\/d=8\/d=9)with rfl|rfl|rfl|rfl|rfl|rfl|rfl|rfl|rfl|rfl<;>rfl
theorem Pb(d:Nat):pS (48+(d:Int)).toNat=48+pS d:=by rw[show(48+(d:Int)).toNat=48+d by omega];simp
theorem Pa(d:Nat)(h:d<10):pS (IntKind.u8.wrap (48+(d:Int))).toNat=48+pS d:=by rw[Hc d h,Int.toNat_natCast];simp
theorem O6(m:Nat)(h:m<18446744073709551616):(Lib.decDigits m).length<=25:=by
 have:∀(k:Nat) (m:Nat),m<10 ^ (k+1)->(Lib.decDigits m).length<=k+1:=by
  intro k;induction k with
  |zero=>intro m hm;rw[tl (by simpa using hm)];simp
  |succ k bp=>
   intro m hm;by_cases h:m<10
   ·rw[tl h];simp
   ·rw[vU Ω,fU];have:=bp (m/10) (by rw[Nat.pow_succ]at hm;omega);simp;omega
 exact this 24 m Ω
theorem ahb(m:Nat)(h:m<=9223372036854775807):ct aQ 57 [.int .i64 m] (.str (Lib.decDigits m)):=by
 have bK:¬(m:Int)<0:=Ω
 have ka:=O6 m Ω;generalize bH:Lib.decDigits m=R at ka;refine bW lP Iz KN fun aL=>?_;unfold D9;clear aL;simp;(with_reducible repeat' first|refine av ?_|simp[bK]);refine gf (fun(x:Nat×List ah)=>⟨[(0,.int .i64 x.1),(3,.str x.2)],[],[],0,[]⟩) (fun x=>x.1) (fun x=>x.1<=9223372036854775807/\Lib.decDigits x.1++x.2=R) (m,[]) (by simp;exact cX) ⟨h,by simp[bH]⟩ ?_;rintro⟨j,o⟩ ⟨I,J⟩ _;simp only at I J;have tG:o.length<=25:=by rw[<-J]at ka;simp at ka;omega
 have jT:1+o.length<=bs:=by unfold bs;omega
 have hz:o.length+1<=bs:=by unfold bs;omega
 by_cases aD:9<j
 ·have aP:(j:Int).tdiv 10=(j/10:Nat):=by rw[Int.tdiv_eq_ediv_of_nonneg Ω];omega
  have hm:(j:Int).tmod 10=(j%10:Nat):=by rw[Int.tmod_eq_emod_of_nonneg Ω];omega
  have yc:=Hc (j%10) Ω;have en:aZ (48+((j%10:Nat):Int)):=by unfold aZ;omega
  have hw:iw.wrap ((j/10:Nat):Int)=((j/10:Nat):Int):=lS _ Ω;have Cz:iw.wrap ((j%10:Nat):Int)=((j%10:Nat):Int):=lS _ Ω;have CA:iw.wrap ((j:Int)/10)=(j:Int)/10:=lS _ Ω;have CB:pS (IntKind.u8.wrap (48+(j:Int)%10)).toNat=48+pS (j%10):=by have:=Pa (j%10) Ω;rwa[Int.natCast_emod]at this
  have lA:(9:Int)<j:=Ω
  rw[vU Ω]at J;simp[lA,aD];(with_reducible repeat' first|refine av ?_|simp[aP,hm,yc,en,hw,Cz,jT,hz]);refine bU.whl (j/10,pS (48+j%10)::o) (by simp;omega) ⟨by simp;omega,by rw[<-J];simp⟩ ⟨by simp[fresh,aj,ak,bj,ag,Pv.look,CA,CB],cg (by simp[fresh,aj,ak,bj,ag,Pv.look,CA,CB]),ch (by simp[fresh,aj,ak,cc,ag,Pv.look,CA,CB]),Ψ⟩
 ·have lA:¬(9:Int)<j:=Ω
  have yc:=Hc j Ω;have en:aZ (48+(j:Int)):=by unfold aZ;omega
  rw[tl Ω]at J;subst J;simp[lA,aD];(with_reducible repeat' first|refine av ?_|simp[yc,en,jT,hz]);simp[b8,Gt,bg,bh,bf];exact Pb j
theorem aha:∀m:Nat,1<=m->m<=9223372036854775808->ct aQ 57 [.int .i64 (-(m:Int))] (.str (45::Lib.decDigits m)):=by
 intro m;induction m using Nat.strongRecOn with
 |_ m bp=>
 intro I J;have bK:0<m:=Ω
 have ka:=O6 m Ω;have aP:(-(m:Int)).tdiv 10= -((m/10:Nat):Int):=by rw[Int.neg_tdiv,Int.tdiv_eq_ediv_of_nonneg Ω];omega
 have hm:(-(m:Int)).tmod 10= -((m%10:Nat):Int):=by rw[Int.neg_tmod,Int.tmod_eq_emod_of_nonneg Ω];omega
 have hw:iw.wrap (-((m/10:Nat):Int))= -((m/10:Nat):Int):=lS _ Ω;have Cz:iw.wrap (-((m%10:Nat):Int))= -((m%10:Nat):Int):=lS _ Ω;by_cases au:m<10
 ·have cp:m/10=0:=Ω
  have yc:=Hc m au;have en:aZ (48+(m:Int)):=by unfold aZ;omega
  have nL:(-(m:Int)).tdiv 10=0:=by rw[aP,cp];rfl
  have ado:iw.wrap 0=0:=rfl;have Ct:(48:Int)- -(m:Int)=48+m:=Ω
  rw[tl au];refine bW lP Iz KN fun aL=>?_;unfold D9;clear aL;simp;(with_reducible repeat' first|refine av ?_|simp[bK,nL,ado,Ct,yc,en]);simp[b8,Gt,bg,bh,bf];exact Pb m
 ·have bq:(-(m:Int)).tdiv 10= -((m:Int)/10):=by rw[aP];simp
  have hB:(-(m:Int)).tmod 10= -((m:Int)%10):=by rw[hm];simp
  have CA:iw.wrap (-((m:Int)/10))= -((m:Int)/10):=lS _ Ω;have CB:iw.wrap (-((m:Int)%10))= -((m:Int)%10):=lS _ Ω;have acT:((-((m:Int)/10))==0)=false:=jy.2 Ω;have dP:=bp (m/10) Ω Ω Ω;rw[Int.natCast_ediv]at dP;have yc:pS (IntKind.u8.wrap (48+(m:Int)%10)).toNat=48+pS (m%10):=by have:=Pa (m%10) Ω;rwa[Int.natCast_emod]at this
  have en:aZ (48+(m:Int)%10):=by unfold aZ;omega
  have Ct:(48:Int)- -((m:Int)%10)=48+(m:Int)%10:=Ω
  rw[vU Ω]at ka⊢;simp at ka;have jT:(Lib.decDigits (m/10)).length+1+1<=bs:=by unfold bs;omega
  clear aP hm hw Cz bp ka;refine bW lP Iz KN fun aL=>?_;unfold D9;clear aL;simp;(with_reducible repeat' first|refine av ?_|refine ba dP ?_|refine bb dP ?_|simp[bK,bq,hB,CA,CB,acT,Ct,yc,en,jT]);simp[b8,Gt,bg,bh,bf]
theorem yQ(n:Int)(h:aZ n):ct aQ 57 [.int .i64 n] (.str (Lib.itoa n)):=by
 unfold aZ at h;unfold Lib.itoa;by_cases bK:n<0
 ·rw[bP bK];have:=aha n.natAbs Ω Ω;rwa[show-(n.natAbs:Int)=n by omega]at this
 ·rw[bo bK];have:=ahb n.toNat Ω;rwa[show(n.toNat:Int)=n by omega]at this
def Ob:C:=(af [bZ 6 false] (af [ab 7 0,ab 8 1,cA 9 .geq 7 8,ab 10 9,b0 10 true 11 0,b0 10 true 12 2,aF 10 true (cA 13 .leq 11 12),ep 14 10 13,ab 6 14] .ret))
@[simp] def T0:List cu:=[.tmp 6]
def y9:C:=(af [fl 2 0,n4 4 1] (.seq (af [bm 7 0 1 2,a7 8 1 7,bk 9 .eql 8 1] (bt 9 (af [ab 10 1,bm 11 1 1 2,a7 12 1 11,eN 13 212 10 12,ab 4 13] .ret) .skip)) (.seq (af [bm 14 3 1 2,a7 15 1 14,cJ 16 15,cG 17 0] (jx 18 17 16 (.seq (.block 1 (af [dm 19 4 15 17,bO 20 4 19,gI 6 dv,bD 4 6 20] (.region [bO 21 4 6,ab 22 1,eN 23 156 21 22,ab 1 23]))) (.region [bk 24 .add 17 1,ab 17 24])))) (af [ab 25 1,ab 4 25] .ret))))
@[simp] def Ax:List cu:=[.tmp 4]
def N4:C:=(af [bZ 2 false] (.seq (af [cG 3 0] (.block 0 (.loop (.seq (af [ab 5 3,ab 6 0,a8 7 (.slen (.t 6)),cA 8 .lss 5 7] (bt 8 .skip (.exit 0))) (.seq (.block 1 (af [ab 11 0,ab 12 3,a8 13 (.sidx (.t 11) (.t 12)),a8 14 (.bin .geq false (.t 13) (.c (.int .u8 97))),ab 15 14,b0 15 true 16 0,b0 15 true 17 3,aF 15 true (a8 18 (.sidx (.t 16) (.t 17))),aF 15 true (a8 19 (.bin .leq false (.t 18) (.c (.int .u8 122)))),ep 20 15 19,ab 4 20] (af [ab 21 4,dq 22 21,ab 23 22,b0 23 true 24 3,aF 23 true (bk 25 .eql 24 0),b0 23 true 26 25,b0 26 false 27 0,b0 26 false 28 3,aF 26 false (a8 29 (.sidx (.t 27) (.t 28))),aF 26 false (a8 30 (.bin .neq false (.t 29) (.c (.int .u8 45)))),b0 26 false 31 30,b0 31 true 32 0,b0 31 true 33 3,aF 31 true (a8 34 (.sidx (.t 32) (.t 33))),aF 31 true (a8 35 (.conv .i64 (.t 34))),aF 31 true (eM 36 127 [.t 35,(b6 48),(b6 57)]),aF 31 true (dq 37 36),aF 26 false (ep 38 31 37),aF 23 true (cH 39 26 38),ep 40 23 39] (bt 40 (af [bZ 2 false] .ret) .skip)))) (.region [ab 9 3,bk 10 .add 9 1,ab 3 10])))))) (af [ab 41 0,a8 42 (.slen (.t 41)),eM 43 127 [.t 42,(b6 1),(b6 12)],ab 2 43] .ret)))
@[simp] def Aw:List cu:=[.tmp 2]
def Ol:C:=(af [n4 4 1] (af [ab 7 0,cJ 8 7,ab 5 8] (.seq (.block 0 (.loop (.seq (af [ab 9 5,bk 10 .gtr 9 0,ab 11 10,b0 11 true 12 0,b0 11 true 13 5,aF 11 true (bk 14 .sub 13 1),aF 11 true (dm 15 1 12 14),aF 11 true (a7 16 1 15),b0 11 true 17 1,aF 11 true (cA 18 .geq 16 17),ep 19 11 18] (bt 19 .skip (.exit 0))) (.block 1 (.region [ab 20 5,bk 21 .sub 20 1,ab 5 21]))))) (.seq (af [ab 22 5,ab 23 0,cJ 24 23,cA 25 .lss 22 24,ab 26 25,b0 26 true 27 0,b0 26 true 28 5,aF 26 true (dm 29 1 27 28),aF 26 true (a7 30 1 29),b0 26 true 31 1,aF 26 true (cA 32 .eql 30 31),ep 33 26 32] (bt 33 (af [ab 34 0,ab 4 34] .ret) .skip)) (af [fm 35 1 3 [],ab 36 0,ab 37 5,a8 38 (.lsl 1 (.t 36) none (some (.t 37))),j1 39 1 3 35 38,ab 6 39] (af [ab 40 6,ab 41 1,fm 42 1 3 [.t 41],j1 43 1 3 40 42,ab 6 43] (af [ab 44 6,ab 45 0,ab 46 5,a8 47 (.lsl 1 (.t 45) (some (.t 46)) none),j1 48 1 3 44 47,ab 4 48] .ret)))))))
@[simp] def yv:List cu:=[.tmp 4]
def lZ:C:=(af [fl 1 0,bZ 2 false] (.seq (af (bm 3 0 1 1::a7 4 1 3::bk 5 .neq 4 1::ab 6 5::aF 6 true (bm 7 0 1 1)::aF 6 true (a7 8 1 7)::aF 6 true (bk 9 .neq 8 3)::ep 10 6 9::ab 11 10::aF 11 true (bm 12 1 1 1)::aF 11 true (a7 13 1 12)::aF 11 true (bk 14 .neq 13 0)::ep 15 11 14::ab 16 15::aF 16 false (bm 17 0 1 1)::aF 16 false (a7 18 1 17)::aF 16 false (bk 19 .neq 18 2)::b0 16 false 20 19::aF 20 true (bm 21 2 1 1)::aF 20 true (a7 22 1 21)::lR 20 true 23 (.bin .neq false (.t 22) (.c (.str [])))::aF 16 false (ep 24 20 23)::cH 25 16 24::ab 26 25::aF 26 false (bm 27 0 1 1)::aF 26 false (a7 28 1 27)::aF 26 false (bk 29 .neq 28 4)::b0 26 false 30 29::aF 30 true (bm 31 3 1 1)::aF 30 true (a7 32 1 31)::aF 30 true (cJ 33 32)::aF 30 true (bk 34 .gtr 33 0)::aF 26 false (ep 35 30 34)::cH 36 26 35::[]) (bt 36 (af [bZ 2 false] .ret) .skip)) (.seq (af [bm 37 0 1 1,a7 38 1 37] (.block 0 (af [bk 40 .eql 38 0,ab 39 40] (bt 39 (af [bZ 2 true] .ret) (af [bk 42 .eql 38 1,ab 41 42] (bt 41 (af [bm 43 1 1 1,a7 44 1 43,eM 45 127 [.t 44,(b6 0),(b6 100000)],ab 2 45] .ret) (af [bk 47 .eql 38 2,ab 46 47] (bt 46 (af [bm 48 2 1 1,a7 49 1 48,cC 50 188 49,ab 2 50] .ret) (af [bk 52 .eql 38 3,ab 51 52] (bt 51 (af [bm 53 1 1 1,a7 54 1 53,eM 55 127 [.t 54,(b6 (-1000000000)),(b6 1000000000)],ab 2 55] .ret) (af [bk 57 .eql 38 4,ab 56 57] (bt 56 (af [bm 58 3 1 1,a7 59 1 58,cJ 60 59,bk 61 .eql 60 2,ab 62 61,aF 62 true (bm 63 3 1 1),aF 62 true (a7 64 1 63),aF 62 true (mO 65 4 64 0),aF 62 true (bO 66 4 65),aF 62 true (cC 67 270 66),ep 68 62 67,ab 69 68,aF 69 true (bm 70 3 1 1),aF 69 true (a7 71 1 70),aF 69 true (mO 72 4 71 1),aF 69 true (bO 73 4 72),aF 69 true (cC 74 270 73),ep 75 69 74,ab 2 75] .ret) .skip)))))))))))) (af [bZ 2 false] .ret))))
@[simp] def lM:List cu:=[.tmp 2]
def N9:C:=(af [fl 1 0,bZ 2 false] (af [bO 3 4 1,eM 4 283 [.t 3,(b6 5000)],bk 5 .leq 4 5000,ab 6 5,aF 6 true (bO 7 4 1),aF 6 true (cC 8 270 7),ep 9 6 8,ab 2 9] .ret))
@[simp] def agH:List cu:=[.tmp 2]
def Oi:C:=(af [fl 2 0,cG 4 0] (af [cG 5 1] (.seq (af [bm 8 3 1 2,a7 9 1 8,cJ 10 9,cG 11 0] (jx 12 11 10 (.seq (.block 1 (af [dm 13 4 9 11,bO 14 4 13,gI 7 dv,bD 4 7 14] (.seq (af [ab 15 5,ab 16 1,cA 17 .gtr 15 16] (bt 17 (af [ab 18 5,ab 4 18] .ret) .skip)) (.region [ab 19 5,bO 20 4 7,ab 21 1,ab 22 5,cA 23 .sub 21 22,eN 24 283 20 23,cA 25 .add 19 24,ab 5 25])))) (.region [bk 26 .add 11 1,ab 11 26])))) (af [ab 27 5,ab 4 27] .ret))))
@[simp] def K0:List cu:=[.tmp 4]
def w2:List (Nat×dt):=[
 (3,⟨1,8,.int .i64,.int .i64 0⟩),
 (5,⟨1,1,.int .u8,.int .u8 0⟩),
 (9,⟨1,16,.str,.str []⟩),
 (38,⟨1,24,.slice 40,.slice 4 .nil []⟩),
 (40,⟨4,56,.struct [(0,3),(1,3),(2,9),(3,38)],.agg [.int .i64 0,.int .i64 0,.str [],.slice 4 .nil []]⟩),
 (136,⟨1,24,.slice 3,.slice 1 .nil []⟩)]
theorem ji:e7 aQ w2=true:=by kernel_rfl
theorem afC:cI w2 Ob T0 3 Tryz.f127=true:=by kernel_rfl
theorem ZX:aQ.funcs[(127:Nat)]? =some Tryz.f127:=Tryz.func127
theorem C2:cI w2 y9 Ax 2 Tryz.f156=true:=by kernel_rfl
theorem BJ:aQ.funcs[(156:Nat)]? =some Tryz.f156:=Tryz.func156
theorem afw:cI w2 N4 Aw 1 Tryz.f188=true:=by kernel_rfl
theorem ZR:aQ.funcs[(188:Nat)]? =some Tryz.f188:=Tryz.func188
theorem afK:cI w2 Ol yv 2 Tryz.f212=true:=by kernel_rfl
theorem Z5:aQ.funcs[(212:Nat)]? =some Tryz.f212:=Tryz.func212
theorem mK:cI w2 lZ lM 1 Tryz.f270=true:=by kernel_rfl
theorem mx:aQ.funcs[(270:Nat)]? =some Tryz.f270:=Tryz.func270
theorem afA:cI w2 N9 agH 1 Tryz.f271=true:=by kernel_rfl
theorem ZV:aQ.funcs[(271:Nat)]? =some Tryz.f271:=Tryz.func271
theorem afI:cI w2 Oi K0 2 Tryz.f283=true:=by kernel_rfl
theorem Z3:aQ.funcs[(283:Nat)]? =some Tryz.f283:=Tryz.func283
mutual
def l0:aV->Int->Int
 | .mk _ _ _ args,m=>cntLS args 1 m
def cntLS:List aV->Int->Int->Int
 |[],n,_=>n
 |x::xs,n,m=>if m<n then n else cntLS xs (n+l0 x (m-n)) m
end
mutual
theorem Ib:∀(t:aV) (m:Int),0<=m->1<=l0 t m/\l0 t m<=m+1
 | .mk _ _ _ args,m,h=>by simp only[l0];exact OZ args 1 m h Ω Ω
theorem OZ:∀(l:List aV) (n m:Int),0<=m->1<=n->n<=m+1->1<=cntLS l n m/\cntLS l n m<=m+1
 |[],n,m,_,I,J=>by simp only[cntLS];exact⟨I,J⟩
 |x::xs,n,m,bK,I,J=>by
  simp only[cntLS];split
  ·exact⟨I,J⟩
  ·have:=Ib x (m-n) Ω;exact OZ xs _ m bK Ω Ω
end
theorem Ia:∀(t:T) (m:Int),0<=m->(l0 t.tm m<=m↔(t.size:Int)<=m)/\((t.size:Int)<=m->l0 t.tm m=t.size)
 | .pair a b,m,h=>by
  have bM:=T.size_pos a;have ao:=T.size_pos b;simp only[T.tm,l0,cntLS,T.size];by_cases I:m<1
  ·rw[bP I];exact⟨Ω,fun h=>Ω⟩
  ·rw[bo I];obtain⟨b4,a2⟩:=Ia a (m-1) Ω;have a3:=Ib a.tm (m-1) Ω;by_cases J:(a.size:Int)<=m-1
   ·have e:=a2 J;rw[e];by_cases aA:m<1+(a.size:Int)
    ·omega
    ·rw[bo aA];obtain⟨ck,cr⟩:=Ia b (m-(1+a.size)) Ω;refine⟨Ω,fun h=>?_⟩;rw[cr Ω];omega
   ·have:¬l0 a.tm (m-1)<=m-1:=fun h=>J (b4.1 h);rw[bP Ω];exact⟨Ω,fun h=>Ω⟩
 | .nil,m,h=>by simp[T.tm,l0,cntLS,T.size]
 | .var _,m,h=>by simp[T.tm,l0,cntLS,T.size]
 | .sym _,m,h=>by simp[T.tm,l0,cntLS,T.size]
 | .num _,m,h=>by simp[T.tm,l0,cntLS,T.size]
theorem XQ(t:aV)(m:Int):l0 t m=cntLS t.args 1 m:=by cases t;rfl
theorem ah4(t:aV):∀m:Int,0<=m->m<=1000000->ct aQ 283 [enc t,.int .i64 m] (.int .i64 (l0 t m)):=by
 suffices H:∀(k:Nat) (t:aV),t.sz<=k->∀m:Int,0<=m->m<=1000000->ct aQ 283 [enc t,.int .i64 m] (.int .i64 (l0 t m))from H _ t (c7 _)
 intro k;induction k with
 |zero=>intro t aI;cases t;simp[aV.sz]at aI
 |succ k bp=>
  intro t aI m bK I;refine bW ji Z3 afI fun aL=>?_;unfold Oi;have gg:t.args.length<=68719476736:=by rw[zk]at aL;simp[lY,kn,kX,bs]at aL;omega
  simp;refine BE [1,9,10] (fun i (n:Int)=>[(5,.int .i64 n),(11,.int .i64 i)]) t.args.length (fun i n=>(1<=n/\n<=m+1)/\cntLS (t.args.drop i) n m=l0 t m) 1 cX ⟨Ω,by simp[XQ]⟩ (fun n aD _=>?_) (fun i n aE aD _=>?_)
  ·simp;(with_reducible repeat' first|refine av ?_|simp);simp[b8,K0,bg,bh,bf];have:=aD.2;simp[cntLS]at this;exact this
  ·obtain⟨⟨mF,uV⟩,aD⟩:=aD;obtain⟨x,ad,gr⟩:=gp aE;have aP:t.args.drop i=x::t.args.drop (i+1):=by rw[uk aE,gr]
   have ef:x.sz<=k:=by have:=ahE (fq ad);omega
   rw[aP]at aD;simp only[cntLS]at aD;simp[aE,gr];by_cases ao:m<n
   ·rw[bP ao]at aD;(with_reducible repeat' first|refine av ?_|simp[ao]);simp[b8,K0,bg,bh,bf];exact aD
   ·rw[bo ao]at aD;have aH:=Ib x (m-n) Ω;((with_reducible repeat' first|refine av ?_|refine ba (bp x ef (m-n) Ω Ω) ?_|refine bb (bp x ef (m-n) Ω Ω) ?_|simp[ao]|((first|apply cN|apply cP|apply cO)<;>intro h<;>try simp at h))<;>(try exact dr));exact bU.rng (n+l0 x (m-n)) aE ⟨Ω,aD⟩ cX
theorem et(n lo aE:Int):ct aQ 127 [.int .i64 n,.int .i64 lo,.int .i64 aE] (.bool (decide (lo<=n/\n<=aE))):=by
 refine bW ji ZX afC fun aL=>?_;unfold Ob;simp;((with_reducible repeat' first|refine av ?_|simp|((first|apply cN|apply cP|apply cO)<;>intro h<;>try simp at h))<;>(try exact dr));all_goals simp[b8,T0,bg,bh,bf]
 all_goals first|omega|(simp;done)|(simp;omega)
def fL:aV->Bool
 | .mk k n s [a,b]=>k==4&&n==0&&s==[]&&fL a&&fL b
 | .mk k n s []=>la k n s
 |_=>false
theorem AK:∀x:T,fL x.tm=x.ok
 | .nil=>by simp[T.tm,fL,la,T.ok]
 | .var _=>by simp[T.tm,fL,la,T.ok]
 | .sym _=>by simp[T.tm,fL,la,T.ok]
 | .num _=>by simp[T.tm,fL,la,T.ok]
 | .pair a b=>by simp[T.tm,fL,T.ok,AK a,AK b]
theorem aho:∀(m:Nat) (t:aV),t.sz<=m->fL t=true->∃x:T,x.tm=t:=by
 intro m;induction m with
 |zero=>intro t aI;cases t;simp[aV.sz]at aI
 |succ m bp=>
  rintro⟨k,n,s,args⟩ aI h;match args with
  |[a,b]=>
   simp[aV.sz,aV.szL]at aI;simp only[fL,bF,dK]at h;obtain⟨⟨⟨⟨rfl,rfl⟩,aA⟩,I⟩,J⟩:=h;obtain⟨x,rfl⟩:=bp a Ω I;obtain⟨y,rfl⟩:=bp b Ω J;have:s=[]:=by simpa using aA
   subst this;exact⟨.pair x y,rfl⟩
  |[]=>
   simp only[fL,la]at h;split at h
   ·subst_vars;simp at h;exact⟨.nil,by simp[T.tm,h]⟩
   split at h
   ·subst_vars;simp at h;exact⟨.var n,by simp[T.tm,h]⟩
   split at h
   ·subst_vars;simp at h;exact⟨.sym s,by simp[T.tm,h]⟩
   split at h
   ·subst_vars;simp at h;exact⟨.num n,by simp[T.tm,h]⟩
   ·simp at h
  |[_]=>simp[fL]at h
  |_::_::_::_=>simp[fL]at h
theorem aap(t:aV):t.fits=(decide (l0 t 5000<=5000)&&fL t):=by
 by_cases h:fL t=true
 ·obtain⟨x,rfl⟩:=aho _ t (c7 _) h;have:=(Ia x 5000 Ω).1;rw[aV.fits_T,T.fit,h];rw[AK]at h;simp[h,this];omega
 ·have bK:t.fits=false:=by
   cases aY:t.fits with
   |false=>rfl
   |true=>obtain⟨x,rfl,ad⟩:=aV.fits_ex aY;rw[AK]at h;simp[T.fit]at ad;exact absurd ad.1 h
  simp at h;rw[bK,h];simp
def J2(s:List ah)(i:Nat):Prop:=i<=s.length/\∀k,k<i->kv (s.getD k 0)=true/\(k=0->low (s.getD k 0)=true)
theorem adM{s:List ah}(h:J2 s s.length):fA s=decide (1<=s.length/\s.length<=12):=by
 unfold fA;by_cases aG:1<=s.length
 ·have I:=(h.2 0 Ω).2 rfl;have J:(s.drop 1).all kv=true:=by rw[hq];intro b ao;obtain⟨i,aE,e⟩:=List.getElem_of_mem ao;simp at aE e;have:=(h.2 (i+1) Ω).1;rw[List.getD_eq_getElem?_getD,cS Ω]at this;simp only[qE]at this;rw[<-e];exact this
  rw[I,J];simp
 ·have:decide (1<=s.length/\s.length<=12)=false:=by simp;omega
  rw[this];simp
theorem adL{s:List ah}{i:Nat}(aE:i<s.length)(h:kv (s.getD i 0)=false\/(i=0/\low (s.getD i 0)=false)):fA s=false:=by
 cases e:fA s with
 |false=>rfl
 |true=>
  exfalso;simp only[fA,bF,hq]at e;obtain⟨⟨_,aB⟩,aU⟩:=e;rcases h with h|⟨rfl,h⟩
  ·by_cases bK:i=0
   ·subst bK;rw[kv,aB]at h;simp at h
   ·have:=aU (s.getD i 0) (by rw[List.getD_eq_getElem?_getD,cS aE];simp only[qE];refine List.mem_iff_getElem.2 ⟨i-1,by simp;omega,?_⟩;simp[show i-1+1=i from by omega])
    rw[this]at h;cases h
  ·rw[aB]at h;cases h
theorem gZ(s:List ah):ct aQ 188 [.str s] (.bool (fA s)):=by
 generalize bH:fA s=R;refine bW ji ZR afw fun aL=>?_;unfold N4;have gg:s.length<=68719476736:=by simp[lY,kn,kX,bs]at aL;omega
 simp;refine Pp [0] (fun(i:Nat)=>[(3,.int .i64 i)]) (fun i=>s.length-i) (J2 s) 0 cX ⟨Ω,fun k aa=>Ω⟩ (fun i aD _=>?_);have k1:=aD.1;by_cases aE:i<s.length
 ·have hM:=adL aE;rw[bH]at hM;obtain⟨c,aH,eK⟩:=gp aE;have QL:s.getD i 0=c:=by simp[List.getD_eq_getElem?_getD,aH]
  rw[QL]at hM;have eA:kv c=true->(i=0->low c=true)->J2 s (i+1):=fun I J=>⟨Ω,fun k aa=>by
   rcases(by omega:k<i\/k=i)with h|rfl
   ·exact aD.2 k h
   ·rw[QL];exact⟨I,J⟩⟩
  have hw:iw.wrap (c.toNat:Int)=c.toNat:=lS _ (by have:=c.toNat_lt;omega);simp[aE,eK,aH];by_cases cz:(97:Int)<=c.toNat
  ·by_cases db:(c.toNat:Int)<=122
   ·have aG:low c=true:=by simp[low];omega
    (with_reducible repeat' first|refine av ?_|refine ba (et _ _ _) ?_|refine bb (et _ _ _) ?_|simp[aE,eK,aH,cz,db]);exact bU.whl (i+1) Ω (eA (by simp[kv,aG]) (fun _=>aG)) cX
   ·have aG:low c=false:=by simp[low];omega
    by_cases bK:i=0
    ·rw[hM (.inr ⟨bK,aG⟩)];have r1:((i:Int)==0)=true:=by simp[bK]
     (with_reducible repeat' first|refine av ?_|refine ba (et _ _ _) ?_|refine bb (et _ _ _) ?_|simp[aE,eK,aH,cz,db,r1,hw]);simp[b8,Aw,bg,bh,bf]
    ·have r1:((i:Int)==0)=false:=by simp[bK]
     by_cases eo:(c.toNat:Int)=45
     ·have vn:((c.toNat:Int) !=45)=false:=by simp[eo]
      (with_reducible repeat' first|refine av ?_|refine ba (et _ _ _) ?_|refine bb (et _ _ _) ?_|simp[aE,eK,aH,cz,db,r1,hw,eo,vn]);all_goals exact bU.whl (i+1) Ω (eA (by simp[kv];omega) (fun h=>absurd h bK)) cX
     ·have vn:((c.toNat:Int) !=45)=true:=by simp[eo]
      by_cases dC:(48:Int)<=c.toNat/\(c.toNat:Int)<=57
      ·(with_reducible repeat' first|refine av ?_|refine ba (et _ _ _) ?_|refine bb (et _ _ _) ?_|simp[aE,eK,aH,cz,db,r1,hw,eo,vn,dC]);all_goals exact bU.whl (i+1) Ω (eA (by simp[kv];omega) (fun h=>absurd h bK)) cX
      ·rw[hM (.inl (by simp[kv,aG];omega))];(with_reducible repeat' first|refine av ?_|refine ba (et _ _ _) ?_|refine bb (et _ _ _) ?_|simp[aE,eK,aH,cz,db,r1,hw,eo,vn,dC]);simp[b8,Aw,bg,bh,bf]
  ·have aG:low c=false:=by simp[low];omega
   by_cases bK:i=0
   ·rw[hM (.inr ⟨bK,aG⟩)];have r1:((i:Int)==0)=true:=by simp[bK]
    (with_reducible repeat' first|refine av ?_|refine ba (et _ _ _) ?_|refine bb (et _ _ _) ?_|simp[aE,eK,aH,cz,r1,hw]);simp[b8,Aw,bg,bh,bf]
   ·have r1:((i:Int)==0)=false:=by simp[bK]
    by_cases eo:(c.toNat:Int)=45
    ·have vn:((c.toNat:Int) !=45)=false:=by simp[eo]
     (with_reducible repeat' first|refine av ?_|refine ba (et _ _ _) ?_|refine bb (et _ _ _) ?_|simp[aE,eK,aH,cz,r1,hw,eo,vn]);all_goals exact bU.whl (i+1) Ω (eA (by simp[kv];omega) (fun h=>absurd h bK)) cX
    ·have vn:((c.toNat:Int) !=45)=true:=by simp[eo]
     by_cases dC:(48:Int)<=c.toNat/\(c.toNat:Int)<=57
     ·(with_reducible repeat' first|refine av ?_|refine ba (et _ _ _) ?_|refine bb (et _ _ _) ?_|simp[aE,eK,aH,cz,r1,hw,eo,vn,dC]);all_goals exact bU.whl (i+1) Ω (eA (by simp[kv];omega) (fun h=>absurd h bK)) cX
     ·rw[hM (.inl (by simp[kv,aG];omega))];(with_reducible repeat' first|refine av ?_|refine ba (et _ _ _) ?_|refine bb (et _ _ _) ?_|simp[aE,eK,aH,cz,r1,hw,eo,vn,dC]);simp[b8,Aw,bg,bh,bf]
 ·have:i=s.length:=Ω
  subst this;rw[adM aD]at bH;simp[aE];(with_reducible repeat' first|refine av ?_|refine ba (et _ _ _) ?_|refine bb (et _ _ _) ?_|simp[aE]);simp[b8,Aw,bg,bh,bf];rw[<-bH,Bool.eq_iff_iff];simp;omega
def HS:C:=(af [n4 2 1,bZ 3 false] (.seq (af [ab 8 0,a8 9 (.slen (.t 8)),bk 10 .gtr 9 100000] (bt 10 (af [n4 2 1,bZ 3 false] .ret) .skip)) (af [fm 11 1 9 [],ab 4 11] (af [cG 5 0] (.seq (.block 0 (.loop (.seq (af [ab 12 5,ab 13 0,a8 14 (.slen (.t 13)),cA 15 .lss 12 14] (bt 15 .skip (.exit 0))) (.block 1 (af [ab 16 5,bk 17 .add 16 1,ab 6 17] (.seq (af [ab 18 0,ab 19 5,a8 20 (.sidx (.t 18) (.t 19)),a8 21 (.bin .eql false (.t 20) (.c (.int .u8 59)))] (bt 21 (.block 2 (.loop (.seq (af [ab 22 6,ab 23 0,a8 24 (.slen (.t 23)),cA 25 .lss 22 24,ab 26 25,b0 26 true 27 0,b0 26 true 28 6,aF 26 true (a8 29 (.sidx (.t 27) (.t 28))),aF 26 true (a8 30 (.bin .neq false (.t 29) (.c (.int .u8 10)))),ep 31 26 30] (bt 31 .skip (.exit 2))) (.block 3 (.region [ab 32 6,bk 33 .add 32 1,ab 6 33]))))) (af [ab 34 0,ab 35 5,a8 36 (.sidx (.t 34) (.t 35)),cC 37 172 36,dq 38 37] (bt 38 (.seq (.block 4 (.loop (.seq (af [ab 39 6,ab 40 0,a8 41 (.slen (.t 40)),cA 42 .lss 39 41,ab 43 42,b0 43 true 44 0,b0 43 true 45 6,aF 43 true (a8 46 (.sidx (.t 44) (.t 45))),aF 43 true (cC 47 172 46),aF 43 true (dq 48 47),ep 49 43 48] (bt 49 .skip (.exit 4))) (.block 5 (.region [ab 50 6,bk 51 .add 50 1,ab 6 51]))))) (.region [ab 52 4,ab 53 0,ab 54 5,ab 55 6,a8 56 (.ssl (.t 53) (some (.t 54)) (some (.t 55))),fm 57 1 9 [.t 56],j1 58 1 9 52 57,ab 4 58])) (af [ab 59 0,ab 60 5,a8 61 (.sidx (.t 59) (.t 60)),a8 62 (.bin .eql false (.t 61) (.c (.int .u8 40))),ab 63 62,b0 63 false 64 0,b0 63 false 65 5,aF 63 false (a8 66 (.sidx (.t 64) (.t 65))),aF 63 false (a8 67 (.bin .eql false (.t 66) (.c (.int .u8 41)))),cH 68 63 67] (bt 68 (.region [ab 69 4,ab 70 0,ab 71 5,ab 72 6,a8 73 (.ssl (.t 70) (some (.t 71)) (some (.t 72))),fm 74 1 9 [.t 73],j1 75 1 9 69 74,ab 4 75]) .skip)))))) (.region [ab 76 6,ab 5 76]))))))) (.seq (af [cG 7 0] (.block 6 (.loop (.seq (af [ab 77 7,ab 78 0,a8 79 (.slen (.t 78)),cA 80 .lss 77 79] (bt 80 .skip (.exit 6))) (.seq (.block 7 (af [ab 83 0,ab 84 7,a8 85 (.sidx (.t 83) (.t 84)),a8 86 (.bin .neq false (.t 85) (.c (.int .u8 10))),ab 87 86,b0 87 true 88 0,b0 87 true 89 7,aF 87 true (a8 90 (.sidx (.t 88) (.t 89))),aF 87 true (a8 91 (.conv .i64 (.t 90))),aF 87 true (eM 92 127 [.t 91,(b6 32),(b6 126)]),aF 87 true (dq 93 92),ep 94 87 93] (bt 94 (af [n4 2 1,bZ 3 false] .ret) .skip))) (.region [ab 81 7,bk 82 .add 81 1,ab 7 82])))))) (.seq (af [ab 95 4,cJ 96 95,bk 97 .gtr 96 20000] (bt 97 (af [n4 2 1,bZ 3 false] .ret) .skip)) (af [ab 98 4,ab 2 98,bZ 3 true] .ret))))))))
@[simp] def Gw:List cu:=[.tmp 2,.tmp 3]
def vR:C:=(af [cd (.alloc 4 none (.agg [.int .i64 0,.str [],.slice 4 .nil [],.slice 4 .nil []])),cG 5 0,bZ 6 false] (.seq (af [ab 16 1,ab 17 0,cJ 18 17,cA 19 .lss 16 18,ab 20 19,b0 20 true 21 0,b0 20 true 22 1,aF 20 true (dm 23 1 21 22),aF 20 true (a7 24 1 23),lR 20 true 25 (.bin .eql false (.t 24) (.c (.str [116,114,117,101]))),ep 26 20 25] (bt 26 (af [a8 27 (.build [.int .i64 0,.str [],.slice 4 .nil [],.slice 4 .nil []] []),ab 28 1,bk 29 .add 28 1,bD 4 4 27,ab 5 29,bZ 6 true] .ret) .skip)) (.seq (af [ab 30 1,ab 31 0,cJ 32 31,cA 33 .lss 30 32,ab 34 33,b0 34 true 35 0,b0 34 true 36 1,aF 34 true (dm 37 1 35 36),aF 34 true (a7 38 1 37),lR 34 true 39 (.bin .eql false (.t 38) (.c (.str [102,97,105,108]))),ep 40 34 39] (bt 40 (af [a8 41 (.build [.int .i64 0,.str [],.slice 4 .nil [],.slice 4 .nil []] [(0,1,(b6 1))]),ab 42 1,bk 43 .add 42 1,bD 4 4 41,ab 5 43,bZ 6 true] .ret) .skip)) (.seq (af [ab 44 1,bk 45 .add 44 1,ab 46 0,cJ 47 46,cA 48 .geq 45 47,ab 49 48,b0 49 false 50 0,b0 49 false 51 1,aF 49 false (dm 52 1 50 51),aF 49 false (a7 53 1 52),lR 49 false 54 (.bin .neq false (.t 53) (.c (.str [40]))),cH 55 49 54] (bt 55 (af [a8 56 (.build [.int .i64 0,.str [],.slice 4 .nil [],.slice 4 .nil []] []),bD 4 4 56,cG 5 0,bZ 6 false] .ret) .skip)) (af [ab 57 0,ab 58 1,bk 59 .add 58 1,dm 60 1 57 59,a7 61 1 60,a8 62 (.build [.int .i64 0,.str [],.slice 4 .nil [],.slice 4 .nil []] [(0,1,(b6 9)),(1,1,(.t 61))]),cd (.alloc 7 none (.agg [.int .i64 0,.str [],.slice 4 .nil [],.slice 4 .nil []])),bD 4 7 62] (.seq (af [eM 63 131 [],cJ 64 63,cG 65 0] (jx 66 65 64 (.seq (.block 1 (af [ab 67 65,dm 68 1 63 65,a7 69 1 68,ab 8 67,ab 9 69] (af [ab 70 9,ab 71 0,ab 72 1,bk 73 .add 72 1,dm 74 1 71 73,a7 75 1 74,cA 76 .eql 70 75] (bt 76 (.region [ab 77 8,a8 78 (.build [.int .i64 0,.str [],.slice 4 .nil [],.slice 4 .nil []] [(0,1,(.t 77))]),bD 4 7 78]) .skip)))) (.region [bk 79 .add 65 1,ab 65 79])))) (af [ab 80 1,bk 81 .add 80 2,ab 1 81] (.seq (.block 2 (.loop (.seq (af [ab 82 1,ab 83 0,cJ 84 83,cA 85 .lss 82 84,ab 86 85,b0 86 true 87 0,b0 86 true 88 1,aF 86 true (dm 89 1 87 88),aF 86 true (a7 90 1 89),lR 86 true 91 (.bin .neq false (.t 90) (.c (.str [41]))),ep 92 86 91] (bt 92 .skip (.exit 2))) (.block 3 (af [bm 93 0 1 7,a7 94 1 93,bk 95 .eql 94 7,ab 96 95,aF 96 false (bm 97 0 1 7),aF 96 false (a7 98 1 97),aF 96 false (bk 99 .eql 98 8),cH 100 96 99,ab 101 100,aF 101 false (bm 102 0 1 7),aF 101 false (a7 103 1 102),aF 101 false (bk 104 .eql 103 10),cH 105 101 104] (bt 105 (af [ab 107 0,ab 108 1,eN 109 154 107 108,ab 106 109,dI 110 0 106,dI 111 1 106,dI 112 2 106,cd (.alloc 10 none (.agg [.int .i64 0,.str [],.slice 4 .nil [],.slice 4 .nil []])),bD 4 10 110,ab 11 111,ab 12 112] (.seq (af [ab 113 12,dq 114 113] (bt 114 (af [a8 115 (.build [.int .i64 0,.str [],.slice 4 .nil [],.slice 4 .nil []] []),bD 4 4 115,cG 5 0,bZ 6 false] .ret) .skip)) (af [bm 116 3 1 7,a7 117 1 116,bO 118 4 10,fm 119 4 65 [.t 118],j1 120 4 65 117 119,bm 121 3 1 7,bD 1 121 120] (.region [ab 122 11,ab 1 122])))) (af [ab 124 0,ab 125 1,eN 126 209 124 125,ab 123 126,dI 127 0 123,dI 128 1 123,dI 129 2 123,gI 13 dv,bD 4 13 127,ab 14 128,ab 15 129] (.seq (af [ab 130 15,dq 131 130] (bt 131 (af [a8 132 (.build [.int .i64 0,.str [],.slice 4 .nil [],.slice 4 .nil []] []),bD 4 4 132,cG 5 0,bZ 6 false] .ret) .skip)) (af [bm 133 2 1 7,a7 134 1 133,bO 135 4 13,fm 136 4 40 [.t 135],j1 137 4 40 134 136,bm 138 2 1 7,bD 1 138 137] (.region [ab 139 14,ab 1 139])))))))))) (.seq (.fz true 7 (.drawn true 152 [a8 140 (.loadZ true 4 (.t 7)),ab 141 1,bk 142 .add 141 1,ab 143 1,ab 144 0,cJ 145 144,cA 146 .lss 143 145,ab 147 146,aF 147 true (bm 148 0 1 7),aF 147 true (a8 149 (.loadZ false 1 (.t 148))),aF 147 true (bk 150 .gtr 149 1),ep 151 147 150,bD 4 4 140,ab 5 142,ab 6 151])) .ret)))))))))
@[simp] def lg:List cu:=[.cell 4 true 4,.tmp 5,.tmp 6]
def xq:C:=(af [bZ 2 false] (af [ab 3 0,a8 4 (.bin .eql false (.t 3) (.c (.int .u8 32))),ab 5 4,b0 5 false 6 0,aF 5 false (a8 7 (.bin .eql false (.t 6) (.c (.int .u8 10)))),cH 8 5 7,ab 9 8,b0 9 false 10 0,aF 9 false (a8 11 (.bin .eql false (.t 10) (.c (.int .u8 40)))),cH 12 9 11,ab 13 12,b0 13 false 14 0,aF 13 false (a8 15 (.bin .eql false (.t 14) (.c (.int .u8 41)))),cH 16 13 15,ab 17 16,b0 17 false 18 0,aF 17 false (a8 19 (.bin .eql false (.t 18) (.c (.int .u8 59)))),cH 20 17 19,ab 2 20] .ret))
@[simp] def agI:List cu:=[.tmp 2]
def xr:C:=(af [gI 4 dv,cG 5 0,bZ 6 false] (.seq (af [ab 17 1,ab 18 0,cJ 19 18,cA 20 .geq 17 19,ab 21 20,b0 21 false 22 0,b0 21 false 23 1,aF 21 false (dm 24 1 22 23),aF 21 false (a7 25 1 24),lR 21 false 26 (.bin .eql false (.t 25) (.c (.str [41]))),cH 27 21 26,ab 28 27,b0 28 false 29 0,b0 28 false 30 1,aF 28 false (dm 31 1 29 30),aF 28 false (a7 32 1 31),lR 28 false 33 (.bin .eql false (.t 32) (.c (.str [46]))),cH 34 28 33] (bt 34 (af [ll 35 dv [],bD 4 4 35,cG 5 0,bZ 6 false] .ret) .skip)) (.seq (af [ab 36 0,ab 37 1,dm 38 1 36 37,a7 39 1 38,a8 40 (.bin .neq false (.t 39) (.c (.str [40])))] (bt 40 (af [ab 42 0,ab 43 1,dm 44 1 42 43,a7 45 1 44,cC 46 251 45,ab 41 46,dI 47 0 41,dI 48 1 41,gI 7 dv,bD 4 7 47,ab 8 48] (af [bO 49 4 7,ab 50 1,bk 51 .add 50 1,ab 52 8,bD 4 4 49,ab 5 51,ab 6 52] .ret)) .skip)) (af [fm 53 4 40 [],ab 9 53] (af [ab 54 1,bk 55 .add 54 1,ab 1 55] (.seq (.block 0 (.loop (.seq (af [ab 56 1,ab 57 0,cJ 58 57,cA 59 .lss 56 58,ab 60 59,b0 60 true 61 0,b0 60 true 62 1,aF 60 true (dm 63 1 61 62),aF 60 true (a7 64 1 63),lR 60 true 65 (.bin .neq false (.t 64) (.c (.str [41]))),ep 66 60 65,ab 67 66,b0 67 true 68 0,b0 67 true 69 1,aF 67 true (dm 70 1 68 69),aF 67 true (a7 71 1 70),lR 67 true 72 (.bin .neq false (.t 71) (.c (.str [46]))),ep 73 67 72] (bt 73 .skip (.exit 0))) (.block 1 (af [ab 75 0,ab 76 1,eN 77 209 75 76,ab 74 77,dI 78 0 74,dI 79 1 74,dI 80 2 74,gI 10 dv,bD 4 10 78,ab 11 79,ab 12 80] (.seq (af [ab 81 12,dq 82 81] (bt 82 (af [ll 83 dv [],bD 4 4 83,cG 5 0,bZ 6 false] .ret) .skip)) (af [ab 84 9,bO 85 4 10,fm 86 4 40 [.t 85],j1 87 4 40 84 86,ab 9 87] (.region [ab 88 11,ab 1 88])))))))) (af [ll 89 dv [],gI 13 dv,bD 4 13 89] (.seq (af [ab 90 1,ab 91 0,cJ 92 91,cA 93 .lss 90 92,ab 94 93,b0 94 true 95 0,b0 94 true 96 1,aF 94 true (dm 97 1 95 96),aF 94 true (a7 98 1 97),lR 94 true 99 (.bin .eql false (.t 98) (.c (.str [46]))),ep 100 94 99] (bt 100 (af [ab 102 0,ab 103 1,bk 104 .add 103 1,eN 105 209 102 104,ab 101 105,dI 106 0 101,dI 107 1 101,dI 108 2 101,gI 14 dv,bD 4 14 106,ab 15 107,ab 16 108] (.seq (af [ab 109 16,dq 110 109,ab 111 110,b0 111 false 112 9,aF 111 false (cJ 113 112),aF 111 false (bk 114 .eql 113 0),cH 115 111 114] (bt 115 (af [ll 116 dv [],bD 4 4 116,cG 5 0,bZ 6 false] .ret) .skip)) (af [bO 117 4 14,bD 4 13 117] (.region [ab 118 15,ab 1 118])))) .skip)) (.seq (af [ab 119 1,ab 120 0,cJ 121 120,cA 122 .geq 119 121,ab 123 122,b0 123 false 124 0,b0 123 false 125 1,aF 123 false (dm 126 1 124 125),aF 123 false (a7 127 1 126),lR 123 false 128 (.bin .neq false (.t 127) (.c (.str [41]))),cH 129 123 128] (bt 129 (af [ll 130 dv [],bD 4 4 130,cG 5 0,bZ 6 false] .ret) .skip)) (af [ab 131 9,bO 132 4 13,eN 133 252 131 132,ab 134 1,bk 135 .add 134 1,bD 4 4 133,ab 5 135,bZ 6 true] .ret))))))))))
@[simp] def wU:List cu:=[.cell 4 true 4,.tmp 5,.tmp 6]
def xp:C:=(af [cG 2 0,bZ 3 false] (af [ab 9 0,a8 10 (.slen (.t 9)),bk 11 .gtr 10 0,ab 12 11,b0 12 true 13 0,aF 12 true (a8 14 (.sidx (.t 13) (b6 0))),aF 12 true (a8 15 (.bin .eql false (.t 14) (.c (.int .u8 45)))),ep 16 12 15,ab 4 16] (af [ab 17 0,ab 5 17] (.seq (af [ab 18 4] (bt 18 (.region [ab 19 0,a8 20 (.ssl (.t 19) (some (b6 1)) none),ab 5 20]) .skip)) (.seq (af [ab 21 5,a8 22 (.slen (.t 21)),bk 23 .lss 22 1,ab 24 23,b0 24 false 25 5,aF 24 false (a8 26 (.slen (.t 25))),aF 24 false (bk 27 .gtr 26 19),cH 28 24 27] (bt 28 (af [cG 2 0,bZ 3 false] .ret) .skip)) (af [cG 6 0] (.seq (af [cG 7 0] (.block 0 (.loop (.seq (af [ab 29 7,ab 30 5,a8 31 (.slen (.t 30)),cA 32 .lss 29 31] (bt 32 .skip (.exit 0))) (.seq (.block 1 (af [ab 35 5,ab 36 7,a8 37 (.sidx (.t 35) (.t 36)),a8 38 (.conv .i64 (.t 37)),bk 39 .sub 38 48,ab 8 39] (.seq (af [ab 40 8,eM 41 127 [.t 40,(b6 0),(b6 9)],dq 42 41,ab 43 42,b0 43 false 44 6,b0 43 false 45 8,aF 43 false (a8 46 (.bin .add false (b6 (-9223372036854775808)) (.t 45))),aF 43 false (bk 47 .quo 46 10),aF 43 false (cA 48 .lss 44 47),cH 49 43 48] (bt 49 (af [cG 2 0,bZ 3 false] .ret) .skip)) (.region [ab 50 6,bk 51 .mul 50 10,ab 52 8,cA 53 .sub 51 52,ab 6 53])))) (.region [ab 33 7,bk 34 .add 33 1,ab 7 34])))))) (.seq (af [ab 54 4,dq 55 54] (bt 55 (.seq (af [ab 56 6,bk 57 .eql 56 (-9223372036854775808)] (bt 57 (af [cG 2 0,bZ 3 false] .ret) .skip)) (.region [ab 58 6,a8 59 (.neg (.t 58)),ab 6 59])) .skip)) (.seq (af [ab 60 6,cC 61 57 60,ab 62 0,cA 63 .neq 61 62] (bt 63 (af [cG 2 0,bZ 3 false] .ret) .skip)) (af [ab 64 6,ab 2 64,bZ 3 true] .ret))))))))))
@[simp] def Gv:List cu:=[.tmp 2,.tmp 3]
def vQ:C:=(af [gI 2 dv,bZ 3 false] (.seq (af [ab 7 0,cC 8 188 7] (bt 8 (af [ab 9 0,cC 10 195 9,bD 4 2 10,bZ 3 true] .ret) .skip)) (af [ll 11 dv [(0,1,(b6 3))],gI 4 dv,bD 4 4 11] (.seq (af [ab 12 0,a8 13 (.slen (.t 12)),bk 14 .gtr 13 0,ab 15 14,b0 15 true 16 0,aF 15 true (a8 17 (.sidx (.t 16) (b6 0))),aF 15 true (a8 18 (.bin .eql false (.t 17) (.c (.int .u8 63)))),ep 19 15 18] (bt 19 (af [bm 20 0 1 4,cd (.store 1 (.t 20) (b6 1))] (.region [ab 21 0,a8 22 (.ssl (.t 21) (some (b6 1)) none),ab 0 22])) .skip)) (af [ab 24 0,cC 25 221 24,ab 23 25,dI 26 0 23,dI 27 1 23,ab 5 26,ab 6 27] (af [ab 28 5,bm 29 1 1 4,bD 1 29 28] (.seq (af [ab 30 6,dq 31 30,ab 32 31,aF 32 false (bO 33 4 4),aF 32 false (cC 34 270 33),aF 32 false (dq 35 34),cH 36 32 35] (bt 36 (af [ll 37 dv [],bD 4 2 37,bZ 3 false] .ret) .skip)) (af [bO 38 4 4,bD 4 2 38,bZ 3 true] .ret))))))))
@[simp] def agL:List cu:=[.cell 2 true 4,.tmp 3]
def Om:C:=(af [fl 3 1,gI 4 dv] (.seq (af [ab 6 0,cJ 7 6,bk 8 .sub 7 1,ab 5 8] (.block 0 (.loop (.seq (af [ab 9 5,bk 10 .geq 9 0] (bt 10 .skip (.exit 0))) (.seq (.block 1 (.drawn true 20 [ab 13 0,ab 14 5,dm 15 4 13 14,bO 16 4 15,bO 17 4 3,eN 18 141 16 17,bD 4 3 18])) (.region [ab 11 5,bk 12 .sub 11 1,ab 5 12])))))) (af [bO 19 4 3,bD 4 4 19] .ret)))
@[simp] def agK:List cu:=[.cell 4 true 4]
def w3:List (Nat×dt):=[
 (3,⟨1,8,.int .i64,.int .i64 0⟩),
 (5,⟨1,1,.int .u8,.int .u8 0⟩),
 (9,⟨1,16,.str,.str []⟩),
 (38,⟨1,24,.slice 40,.slice 4 .nil []⟩),
 (40,⟨4,56,.struct [(0,3),(1,3),(2,9),(3,38)],.agg [.int .i64 0,.int .i64 0,.str [],.slice 4 .nil []]⟩),
 (63,⟨1,24,.slice 65,.slice 4 .nil []⟩),
 (65,⟨4,72,.struct [(0,3),(1,9),(2,38),(3,63)],.agg [.int .i64 0,.str [],.slice 4 .nil [],.slice 4 .nil []]⟩),
 (70,⟨1,24,.slice 9,.slice 1 .nil []⟩)]
theorem hE:e7 aQ w3=true:=by kernel_rfl
theorem Tm:cI w3 HS Gw 1 Tryz.f107=true:=by kernel_rfl
theorem PI:aQ.funcs[(107:Nat)]? =some Tryz.f107:=Tryz.func107
theorem yt:cI w3 vR lg 2 Tryz.f154=true:=by kernel_rfl
theorem xE:aQ.funcs[(154:Nat)]? =some Tryz.f154:=Tryz.func154
theorem Ak:cI w3 xq agI 1 Tryz.f172=true:=by kernel_rfl
theorem zn:aQ.funcs[(172:Nat)]? =some Tryz.f172:=Tryz.func172
theorem Al:cI w3 xr wU 2 Tryz.f209=true:=by kernel_rfl
theorem zo:aQ.funcs[(209:Nat)]? =some Tryz.f209:=Tryz.func209
theorem Aj:cI w3 xp Gv 1 Tryz.f221=true:=by kernel_rfl
theorem zm:aQ.funcs[(221:Nat)]? =some Tryz.f221:=Tryz.func221
theorem yr:cI w3 vQ agL 1 Tryz.f251=true:=by kernel_rfl
theorem xD:aQ.funcs[(251:Nat)]? =some Tryz.f251:=Tryz.func251
theorem afL:cI w3 Om agK 2 Tryz.f252=true:=by kernel_rfl
theorem Z6:aQ.funcs[(252:Nat)]? =some Tryz.f252:=Tryz.func252
theorem AR(c:ah):ct aQ 172 [.int .u8 c.toNat] (.bool (jN c)):=by
 by_cases b4:c=32
 ·subst b4;rw[show jN _=true from rfl];refine bW hE zn Ak fun aL=>?_;unfold xq;clear aL;exact cB
 by_cases a2:c=10
 ·subst a2;rw[show jN _=true from rfl];refine bW hE zn Ak fun aL=>?_;unfold xq;clear aL;exact cB
 by_cases a3:c=40
 ·subst a3;rw[show jN _=true from rfl];refine bW hE zn Ak fun aL=>?_;unfold xq;clear aL;exact cB
 by_cases a4:c=41
 ·subst a4;rw[show jN _=true from rfl];refine bW hE zn Ak fun aL=>?_;unfold xq;clear aL;exact cB
 by_cases a5:c=59
 ·subst a5;rw[show jN _=true from rfl];refine bW hE zn Ak fun aL=>?_;unfold xq;clear aL;exact cB
 have ao:jN c=false:=by unfold jN;simp[b4,a2,a3,a4,a5]
 have m1:((c.toNat:Int)==32)=false:=pG (d:=32) b4;have m2:((c.toNat:Int)==10)=false:=pG (d:=10) a2;have m3:((c.toNat:Int)==40)=false:=pG (d:=40) a3;have m4:((c.toNat:Int)==41)=false:=pG (d:=41) a4;have m5:((c.toNat:Int)==59)=false:=pG (d:=59) a5;rw[ao];refine bW hE zn Ak fun aL=>?_;unfold xq;clear aL;exact cB
def mU(s:List ah)(x:List (List ah)×Nat):a6:=⟨[(0,.str s),(4,.slice 1 (.own (.loc 0)) (cl x.1)),(5,.int .i64 x.2)],[],[(.loc 0,⟨x.1.length,9,1,none⟩)],1,[]⟩
def qO(s:List ah)(out:List (List ah))(i:Nat)(k:Nat):a6:=⟨[(0,.str s),(4,.slice 1 (.own (.loc 0)) (cl out)),(5,.int .i64 i),(6,.int .i64 k)],[],[(.loc 0,⟨out.length,9,1,none⟩)],1,[]⟩
def uw(s:List ah)(out:List (List ah))(k:Nat):a6:=⟨[(0,.str s),(4,.slice 1 (.own (.loc 0)) (cl out)),(7,.int .i64 k)],[],[(.loc 0,⟨out.length,9,1,none⟩)],1,[]⟩
set_option maxRecDepth 8000 in
theorem aio(s:List ah)(au:s.length<=bs):ct aQ 107 [.str s] (lk (gG s)):=by
 by_cases I:s.length<=100000;rotate_left
 ·have:gG s=none:=by unfold gG;rw[bo (fun h=>I h.1)]
  rw[this,lk];have zx:(100000:Int)<s.length:=Ω
  refine bW hE PI Tm fun aL=>?_;unfold HS;clear aL;exact cB
 have zx:¬(100000:Int)<s.length:=Ω
 generalize bH:lk (gG s)=R;have nI:ak (fun _=>dD) R:=by rw[<-bH];unfold lk;split<;>simp[ak,aj]
 refine bW hE PI Tm (fun aL=>?_) (hr:=nI);unfold HS;clear aL;simp[zx];refine gf (mU s) (fun x=>s.length-x.2) (fun x=>x.2<=s.length/\x.1++dp (s.drop x.2)=dp s/\x.1.length<=x.2) ([],0) (by simp[mU,cl];exact cX) ⟨Ψ,Ψ,Ψ⟩ ?_;rintro⟨out,i⟩ ⟨aE,hinv,tG⟩ _;simp only at aE hinv tG;rcases jJ aE with rfl|bY
 ·rw[kG,rs,mg]at hinv;subst hinv;simp[mU];refine gf (uw s (dp s)) (fun k=>s.length-k) (fun k=>k<=s.length/\∀c∈s.take k,nX c=true) 0 (by simp[uw];exact⟨by simp[fresh,aj,ak,bj,ag,Pv.look,bC,eB],cg (by simp[fresh,aj,ak,bj,ag,Pv.look,bC,eB]),ch (by simp[fresh,aj,ak,cc,ag,Pv.look,bC,eB]),Ψ⟩) ⟨Ω,Ψ⟩ ?_;rintro k ⟨aa,dS⟩ _;rcases jJ aa with rfl|bY
  ·rw[kH]at dS;have j9:∀c∈s,nX c=true:=dS;by_cases aJ:(dp s).length<=20000
   ·have gS:¬(20000:Int)<(dp s).length:=Ω
    have aI:gG s=some (dp s):=by unfold gG;rw[bP ⟨I,j9,aJ⟩]
    simp[uw];(with_reducible repeat' first|refine av ?_|simp[gS]);rw[<-bH,aI,lk];simp[b8,Gw,bg,bh,bf]
   ·have gS:(20000:Int)<(dp s).length:=Ω
    have aI:gG s=none:=by unfold gG;rw[bo fun h=>aJ h.2.2]
    simp[uw];(with_reducible repeat' first|refine av ?_|simp[gS]);rw[<-bH,aI,lk];simp[b8,Gw,bg,bh,bf]
  ·obtain⟨c,aH,eK⟩:=gp bY;have cb:aZ ((k:Int)+1):=by unfold aZ;omega
   have l4:=S2 c;have ey:=et c.toNat 32 126;have hw:iw.wrap (c.toNat:Int)=c.toNat:=lS _ (by have:=c.toNat_lt;omega);by_cases wm:nX c=true
   ·have Cj:∀x∈s.take (k+1),nX x=true:=fun x ad=>by
     rw[kV,aH]at ad;rcases fM.1 ad with ad|ad
     ·exact dS x ad
     ·simp at ad;subst ad;exact wm
    rcases l4.1 wm with fh|BT
    ·have nO:((c.toNat:Int) !=10)=false:=by simpa using fh
     clear dS l4 wm;simp[uw,bY,eK,aH];(with_reducible repeat' first|refine av ?_|refine ba ey ?_|refine bb ey ?_|simp[bY,eK,aH,nO,cb,hw]);refine bU.whl (k+1) Ω ⟨bY,Cj⟩ (by simp[uw];exact⟨by simp[fresh,aj,ak,bj,ag,Pv.look,bC,eB],cg (by simp[fresh,aj,ak,bj,ag,Pv.look,bC,eB]),ch (by simp[fresh,aj,ak,cc,ag,Pv.look,bC,eB]),Ψ⟩)
    ·have nO:((c.toNat:Int) !=10)=true:=bne_iff_ne.2 Ω;rw[nD BT]at ey;clear dS l4 wm;simp[uw,bY,eK,aH];(with_reducible repeat' first|refine av ?_|refine ba ey ?_|refine bb ey ?_|simp[bY,eK,aH,nO,cb,hw]);refine bU.whl (k+1) Ω ⟨bY,Cj⟩ (by simp[uw];exact⟨by simp[fresh,aj,ak,bj,ag,Pv.look,bC,eB],cg (by simp[fresh,aj,ak,bj,ag,Pv.look,bC,eB]),ch (by simp[fresh,aj,ak,cc,ag,Pv.look,bC,eB]),Ψ⟩)
   ·have aI:gG s=none:=by unfold gG;rw[bo];intro h;exact wm (h.2.1 c (fq aH))
    have nO:((c.toNat:Int) !=10)=true:=bne_iff_ne.2 fun e=>wm (l4.2 (.inl e));rw[decide_eq_false fun e=>wm (l4.2 (.inr e))]at ey;clear dS l4 wm;simp[uw,bY,eK,aH];(with_reducible repeat' first|refine av ?_|refine ba ey ?_|refine bb ey ?_|simp[bY,eK,aH,nO,cb,hw]);rw[<-bH,aI,lk];simp[b8,Gw,bg,bh,bf]
 obtain⟨c,aH,eK⟩:=gp bY;have cb:aZ ((i:Int)+1):=by unfold aZ;omega
 have x9:out.length+1<=bs:=by unfold bs;omega
 have fB:=AR c;rw[fH aH,sL]at hinv;by_cases lD:c=32\/c=10
 ·rw[bP lD]at hinv;rcases lD with rfl|rfl
  ·have fB:ct aQ 172 [.int .u8 32] (.bool true):=AR 32;simp[mU,bY,eK,aH];(with_reducible repeat' first|refine av ?_|refine ba fB ?_|refine bb fB ?_|simp[bY,eK,aH,cb]);refine bU.whl (out,i+1) (by simp;omega) ⟨bY,hinv,by simp;omega⟩ (by simp[mU];exact⟨by simp[fresh,aj,ak,bj,ag,Pv.look,bC,eB],cg (by simp[fresh,aj,ak,bj,ag,Pv.look,bC,eB]),ch (by simp[fresh,aj,ak,cc,ag,Pv.look,bC,eB]),Ψ⟩)
  ·have fB:ct aQ 172 [.int .u8 10] (.bool true):=AR 10;simp[mU,bY,eK,aH];(with_reducible repeat' first|refine av ?_|refine ba fB ?_|refine bb fB ?_|simp[bY,eK,aH,cb]);refine bU.whl (out,i+1) (by simp;omega) ⟨bY,hinv,by simp;omega⟩ (by simp[mU];exact⟨by simp[fresh,aj,ak,bj,ag,Pv.look,bC,eB],cg (by simp[fresh,aj,ak,bj,ag,Pv.look,bC,eB]),ch (by simp[fresh,aj,ak,cc,ag,Pv.look,bC,eB]),Ψ⟩)
 rw[bo lD]at hinv;by_cases r3:c=59
 ·rw[bP r3]at hinv;subst r3;clear fB;simp[mU,bY,eK,aH];(with_reducible repeat' first|refine av ?_|simp[bY,eK,aH,cb]);refine gf (qO s out i) (fun k=>s.length-k) (fun k=>i+1<=k/\k<=s.length/\∀c∈(s.drop (i+1)).take (k-(i+1)),mJ c=true) (i+1) (by simp[qO];exact⟨by simp[fresh,aj,ak,bj,ag,Pv.look,bC,eB],cg (by simp[fresh,aj,ak,bj,ag,Pv.look,bC,eB]),ch (by simp[fresh,aj,ak,cc,ag,Pv.look,bC,eB]),Ψ⟩) ⟨c7 _,bY,Ψ⟩ ?_;rintro k ⟨jE,h4,kf⟩ _;have jq:(∀c,s[k]? =some c->mJ c=false)->k<=s.length/\out++dp (s.drop k)=dp s/\out.length<=k:=by intro he;refine⟨h4,?_,Ω⟩;rw[<-(GP jE h4 kf he).2];exact hinv
  rcases jJ h4 with rfl|iM
  ·have cQ:=jq fun c h=>by simp at h
   clear jq kf;simp[qO];(with_reducible repeat' first|refine av ?_|simp);refine bU.whl (out,s.length) (by simp;omega) cQ (by simp[mU];exact⟨by simp[fresh,aj,ak,bj,ag,Pv.look,bC,eB],cg (by simp[fresh,aj,ak,bj,ag,Pv.look,bC,eB]),ch (by simp[fresh,aj,ak,cc,ag,Pv.look,bC,eB]),Ψ⟩)
  ·obtain⟨d,aP,hdi⟩:=gp iM;have k2:aZ ((k:Int)+1):=by unfold aZ;omega
   by_cases fh:d=10
   ·subst fh;have cQ:=jq fun c h=>by rw[aP]at h;cases h;rfl
    clear jq kf;simp[qO,iM,hdi,aP];(with_reducible repeat' first|refine av ?_|simp[iM,hdi,aP]);refine bU.whl (out,k) (by simp;omega) cQ (by simp[mU];exact⟨by simp[fresh,aj,ak,bj,ag,Pv.look,bC,eB],cg (by simp[fresh,aj,ak,bj,ag,Pv.look,bC,eB]),ch (by simp[fresh,aj,ak,cc,ag,Pv.look,bC,eB]),Ψ⟩)
   ·have aJ:((d.toNat:Int) !=10)=true:=w6 (d:=10) fh;have eZ:∀c∈(s.drop (i+1)).take (k+1-(i+1)),mJ c=true:=fun x ad=>by
     rw[show k+1-(i+1)=(k-(i+1))+1 by omega,kV,lT,show i+1+(k-(i+1))=k by omega,aP]at ad;rcases fM.1 ad with ad|ad
     ·exact kf x ad
     ·simp at ad;subst ad;simp[mJ,fh]
    clear jq kf;simp[qO,iM,hdi,aP];(with_reducible repeat' first|refine av ?_|simp[iM,hdi,aP,aJ,k2]);refine bU.whl (k+1) Ω ⟨Ω,iM,eZ⟩ (by simp[qO];exact⟨by simp[fresh,aj,ak,bj,ag,Pv.look,bC,eB],cg (by simp[fresh,aj,ak,bj,ag,Pv.look,bC,eB]),ch (by simp[fresh,aj,ak,cc,ag,Pv.look,bC,eB]),Ψ⟩)
 rw[bo r3]at hinv;have Kp:((c.toNat:Int)==59)=false:=pG (d:=59) r3;have hle:(i:Int)<=i+1:=Ω
 have Cg:(i:Int)+1<=s.length:=Ω
 by_cases sj:c=40\/c=41
 ·rw[bP sj]at hinv;have Ft:(s.take (i+1)).drop i=[c]:=by rw[List.drop_take,fH aH];simp
  rcases sj with rfl|rfl
  ·have fB:ct aQ 172 [.int .u8 40] (.bool true):=AR 40;simp[mU,bY,eK,aH];(with_reducible repeat' first|refine av ?_|refine ba fB ?_|refine bb fB ?_|simp[bY,eK,aH,cb,Ft,hle,Cg,x9]);refine bU.whl (out++[[40]],i+1) (by simp;omega) ⟨bY,(by simpa using hinv),by simp;omega⟩ (by simp[mU,cl];exact⟨by simp[fresh,aj,ak,bj,ag,Pv.look,bC,eB],cg (by simp[fresh,aj,ak,bj,ag,Pv.look,bC,eB]),ch (by simp[fresh,aj,ak,cc,ag,Pv.look,bC,eB]),Ψ⟩)
  ·have fB:ct aQ 172 [.int .u8 41] (.bool true):=AR 41;simp[mU,bY,eK,aH];(with_reducible repeat' first|refine av ?_|refine ba fB ?_|refine bb fB ?_|simp[bY,eK,aH,cb,Ft,hle,Cg,x9]);refine bU.whl (out++[[41]],i+1) (by simp;omega) ⟨bY,(by simpa using hinv),by simp;omega⟩ (by simp[mU,cl];exact⟨by simp[fresh,aj,ak,bj,ag,Pv.look,bC,eB],cg (by simp[fresh,aj,ak,bj,ag,Pv.look,bC,eB]),ch (by simp[fresh,aj,ak,cc,ag,Pv.look,bC,eB]),Ψ⟩)
 rw[bo sj]at hinv;have B2:fR c=true:=(ye c).2 ⟨lD,r3,sj⟩;have uN:jN c=false:=by simpa[fR]using B2
 rw[uN]at fB;simp[mU,bY,eK,aH];(with_reducible repeat' first|refine av ?_|refine ba fB ?_|refine bb fB ?_|simp[bY,eK,aH,Kp,cb]);refine gf (qO s out i) (fun k=>s.length-k) (fun k=>i+1<=k/\k<=s.length/\∀c∈(s.drop (i+1)).take (k-(i+1)),fR c=true) (i+1) (by simp[qO];exact⟨by simp[fresh,aj,ak,bj,ag,Pv.look,bC,eB],cg (by simp[fresh,aj,ak,bj,ag,Pv.look,bC,eB]),ch (by simp[fresh,aj,ak,cc,ag,Pv.look,bC,eB]),Ψ⟩) ⟨c7 _,bY,Ψ⟩ ?_;rintro k ⟨jE,h4,kf⟩ _;have jq:(∀c,s[k]? =some c->fR c=false)->k<=s.length/\(out++[(s.take k).drop i])++dp (s.drop k)=dp s/\(out++[(s.take k).drop i]).length<=k:=by intro he;refine⟨h4,?_,by simp;omega⟩;obtain⟨aI,aP⟩:=GP jE h4 kf he;rw[aI,aP]at hinv;rw[List.drop_take,fH aH,show k-i=(k-(i+1))+1 from by omega,rI,iI];exact hinv
 have kO:(i:Int)<=k:=Ω
 have Ce:(k:Int)<=s.length:=Ω
 clear hinv fB;rcases jJ h4 with rfl|iM
 ·have cQ:=jq fun c h=>by simp at h
  clear jq kf;simp[qO];(with_reducible repeat' first|refine av ?_|simp[kO,Ce,x9]);refine bU.whl (out++[(s.take s.length).drop i],s.length) (by simp;omega) cQ (by simp[mU,cl];exact⟨by simp[fresh,aj,ak,bj,ag,Pv.look,bC,eB],cg (by simp[fresh,aj,ak,bj,ag,Pv.look,bC,eB]),ch (by simp[fresh,aj,ak,cc,ag,Pv.look,bC,eB]),Ψ⟩)
 ·obtain⟨d,aP,hdi⟩:=gp iM;have k2:aZ ((k:Int)+1):=by unfold aZ;omega
  have h8:=AR d;cases hw:fR d
  ·have IU:jN d=true:=by simpa[fR]using hw
   rw[IU]at h8;have cQ:=jq fun c h=>by rw[aP]at h;cases h;exact hw
   clear jq kf;simp[qO,iM,hdi,aP];(with_reducible repeat' first|refine av ?_|refine ba h8 ?_|refine bb h8 ?_|simp[iM,hdi,aP,kO,Ce,x9]);refine bU.whl (out++[(s.take k).drop i],k) (by simp;omega) cQ (by simp[mU,cl];exact⟨by simp[fresh,aj,ak,bj,ag,Pv.look,bC,eB],cg (by simp[fresh,aj,ak,bj,ag,Pv.look,bC,eB]),ch (by simp[fresh,aj,ak,cc,ag,Pv.look,bC,eB]),Ψ⟩)
  ·have IU:jN d=false:=by simpa[fR]using hw
   rw[IU]at h8;have eZ:∀c∈(s.drop (i+1)).take (k+1-(i+1)),fR c=true:=fun x ad=>by
    rw[show k+1-(i+1)=(k-(i+1))+1 by omega,kV,lT,show i+1+(k-(i+1))=k by omega,aP]at ad;rcases fM.1 ad with ad|ad
    ·exact kf x ad
    ·simp at ad;subst ad;exact hw
   clear jq kf;simp[qO,iM,hdi,aP];(with_reducible repeat' first|refine av ?_|refine ba h8 ?_|refine bb h8 ?_|simp[iM,hdi,aP,k2]);refine bU.whl (k+1) Ω ⟨Ω,iM,eZ⟩ (by simp[qO];exact⟨by simp[fresh,aj,ak,bj,ag,Pv.look,bC,eB],cg (by simp[fresh,aj,ak,bj,ag,Pv.look,bC,eB]),ch (by simp[fresh,aj,ak,cc,ag,Pv.look,bC,eB]),Ψ⟩)
def Ao(o:a1 Int):al:= .tuple [.int .i64 (o.getD 0),.bool o.isSome]
def kM(l:List ah):Int:=l.foldl (fun a c=>a*10+((c.toNat:Int)-48)) 0
def uD(l:List ah):Prop:= ∀c∈l,48<=c.toNat/\c.toNat<=57
theorem zj(l:List ah)(c:ah):kM (l++[c])=kM l*10+((c.toNat:Int)-48):=by simp[kM]
theorem rU(u:Nat):kM (Lib.decDigits u)=u:=by
 induction u using Nat.strongRecOn with
 |_ u bp=>
  by_cases hu:u<10
  ·rw[tl hu];simp only[kM,List.foldl_cons,List.foldl_nil,Bz hu];omega
  ·rw[vU Ω,zj,bp _ Ω,Bz (Nat.mod_lt _ Ω)];omega
theorem rS(u:Nat):uD (Lib.decDigits u):=By u
theorem BB{l:List ah}(h:uD l):∀k,0<=kM (l.take k)/\kM (l.take k)<=kM (l.take (k+1)):=by
 intro k;induction k with
 |zero=>
  cases l with
  |nil=>simp[kM]
  |cons c r=>have:=h c Ψ;simp[kM];omega
 |succ k bp=>
  rcases lU (k+1) l.length with aa|aa
  ·obtain⟨c,aH⟩:∃c,l[k+1]? =some c:=⟨_,cS aa⟩;have aP:=h c (fq aH);have e:l.take (k+1+1)=l.take (k+1)++[c]:=by rw[kV,aH];rfl
   rw[e,zj];omega
  ·rw[rH (by omega:l.length<=k+1+1),rH aa]at*;omega
theorem En{l:List ah}(h:uD l){k m:Nat}(acy:k<=m):kM (l.take k)<=kM (l.take m):=by
 induction m with
 |zero=>rw[show k=0 by omega];exact Int.le_refl _
 |succ m bp=>
  rcases jJ acy with rfl|bY
  ·exact Int.le_refl _
  ·have:=bp Ω;have:=(BB h m).2;omega
def wW(s:List ah):Bool:=match s with|c::_=>c==45|[]=>false
def Aa(s:List ah):List ah:=if wW s then s.drop 1 else s
theorem rp{s:List ah}{n:Int}(h:Lib.itoa n=s):Aa s=Lib.decDigits n.natAbs/\(wW s=true↔n<0):=by
 subst h;unfold Lib.itoa;by_cases aJ:n<0
 ·rw[bP aJ];have:wW (45::Lib.decDigits n.natAbs)=true:=rfl;simp[Aa,this,aJ]
 ·rw[bo aJ,show n.natAbs=n.toNat by omega];have:wW (Lib.decDigits n.toNat)=false:=by
   cases aP:Lib.decDigits n.toNat with
   |nil=>rfl
   |cons c r=>have:=By n.toNat c (by rw[aP];simp);simp only[wW,jy];rintro rfl;revert this;decide
  simp[Aa,this,aJ]
theorem rR{u:Nat}(h:u<=9223372036854775808):(Lib.decDigits u).length<=19:=by have:=Ef 19 u Ω;omega
def mT(s t:List ah)(neg:Bool)(k:Nat)(acc:Int):a6:=⟨[(0,.str s),(4,.bool neg),(5,.str t),(6,.int .i64 acc),(7,.int .i64 k)],[],[],0,[]⟩
theorem Ml(s:List ah):ct aQ 221 [.str s] (Ao (gw s)):=by
 generalize bH:Ao (gw s)=R;have nI:ak (fun _=>dD) R:=by rw[<-bH];simp[Ao,ak,aj]
 cases nj:wW s
 ·have q3:Aa s=s:=by unfold Aa;rw[nj];rfl
  have QV:(s=[]->dD)->∃c r,s=c::r/\((c.toNat:Int)==45)=false:=by
   cases s with
   |nil=>intro h;exact absurd rfl h
   |cons c r=>exact fun _=>⟨c,r,rfl,pG (d:=45) (by simpa[wW]using nj)⟩
  by_cases wi:s.length<1
  ·have au:s=[]:=List.length_eq_zero_iff.1 Ω;have bn:gw s=none:=sA fun m hm hit=>by
    obtain⟨aB,aU⟩:=rp hit;have nk:¬m<0:=fun h=>by rw[aU.2 h]at nj;cases nj
    rw[q3]at aB;have jr:=hm;unfold aZ at jr;have fI:=rS m.natAbs;have kp:=rU m.natAbs;have kZ:=rR (u:=m.natAbs) Ω;have cD:=oq m.natAbs;rw[<-aB]at fI kp kZ cD;exact cD au
   have:R= .tuple [.int .i64 0,.bool false]:=by rw[<-bH,bn];rfl
   subst this;subst au;clear bH;refine bW hE zm Aj (fun aL=>?_);unfold xp;clear aL;exact cB
  have gW:0<s.length:=Ω
  have tH:(0:Int)<s.length:=Ω
  have Jm:¬(s.length:Int)<1:=Ω
  obtain⟨c0,Gp,QN,abq⟩:=QV (fun h=>by rw[h]at gW;simp at gW);have B0:s[0]? =some c0:=by rw[QN];rfl
  have abK:∀h,(s[0]'h)=c0:=fun h=>by rw[cS gW]at B0;exact hd B0
  clear QV QN;by_cases jT:19<s.length
  ·have bn:gw s=none:=sA fun m hm hit=>by
    obtain⟨aB,aU⟩:=rp hit;have nk:¬m<0:=fun h=>by rw[aU.2 h]at nj;cases nj
    rw[q3]at aB;have jr:=hm;unfold aZ at jr;have fI:=rS m.natAbs;have kp:=rU m.natAbs;have kZ:=rR (u:=m.natAbs) Ω;have cD:=oq m.natAbs;rw[<-aB]at fI kp kZ cD;omega
   have:R= .tuple [.int .i64 0,.bool false]:=by rw[<-bH,bn];rfl
   subst this;have Cf:(19:Int)<s.length:=Ω
   clear bH bn;refine bW hE zm Aj (fun aL=>?_);unfold xp;clear aL;exact cB
  have Cf:¬(19:Int)<s.length:=Ω
  refine bW hE zm Aj (fun aL=>?_) (hr:=nI);unfold xp;clear aL;simp;(with_reducible repeat' first|refine av ?_|simp[gW,tH,B0,abK,abq,Jm,Cf,jT]);refine gP (mT s s false) s.length (fun k acc=>acc= -kM (s.take k)/\uD (s.take k)/\ -9223372036854775808<=acc) 0 (by simp[mT];exact cX) ⟨by simp[kM],by simp[uD],Ω⟩ (fun acc aD _=>?_) (fun k acc aa aD _=>?_)
  ·obtain⟨k1,ig,Ca⟩:=aD;rw[kH]at k1 ig;have nL:0<=kM s:=by have:=(BB ig 0).1;have:=En ig (o3 s.length);rw[kH]at this;omega
   by_cases x3:acc= -9223372036854775808
   ·have bn:gw s=none:=sA fun m hm hit=>by
     obtain⟨aB,aU⟩:=rp hit;have nk:¬m<0:=fun h=>by rw[aU.2 h]at nj;cases nj
     rw[q3]at aB;have jr:=hm;unfold aZ at jr;have fI:=rS m.natAbs;have kp:=rU m.natAbs;have kZ:=rR (u:=m.natAbs) Ω;have cD:=oq m.natAbs;rw[<-aB]at fI kp kZ cD;omega
    have:R= .tuple [.int .i64 0,.bool false]:=by rw[<-bH,bn];rfl
    subst this;clear bH bn k1 ig;simp[mT];exact cB
   ·have en:aZ (-acc):=by unfold aZ;omega
    have Fg:(acc== -9223372036854775808)=false:=jy.2 x3;have Fw:iw.wrap (-acc)= -acc:=lS _ Ω;have cZ:=yQ (-acc) en;by_cases he:Lib.itoa (-acc)=s
    ·have:R= .tuple [.int .i64 (-acc),.bool true]:=by rw[<-bH,wP.2 ⟨en,he⟩];rfl
     subst this;rw[he]at cZ;clear bH k1 ig;simp[mT];((with_reducible repeat' first|refine av ?_|refine ba cZ ?_|refine bb cZ ?_|simp[Fg,Fw,en]|((first|apply cN|apply cP|apply cO)<;>intro h<;>try simp at h))<;>(try exact dr));simp[b8,Gv,bg,bh,bf]
    ·have bn:gw s=none:=sA fun m hm hit=>by
      obtain⟨aB,aU⟩:=rp hit;have nk:¬m<0:=fun h=>by rw[aU.2 h]at nj;cases nj
      rw[q3]at aB;have jr:=hm;unfold aZ at jr;have fI:=rS m.natAbs;have kp:=rU m.natAbs;have kZ:=rR (u:=m.natAbs) Ω;have cD:=oq m.natAbs;rw[<-aB]at fI kp kZ cD;exact he (by have:m= -acc:=Ω;rw[<-this];exact hit)
     have:R= .tuple [.int .i64 0,.bool false]:=by rw[<-bH,bn];rfl
     subst this;have B4:(Lib.itoa (-acc) !=s)=true:=by simpa using he
     clear bH bn k1 ig;simp[mT];((with_reducible repeat' first|refine av ?_|refine ba cZ ?_|refine bb cZ ?_|simp[Fg,Fw,en,B4]|((first|apply cN|apply cP|apply cO)<;>intro h<;>try simp at h))<;>(try exact dr));simp[b8,Gv,bg,bh,bf]
  ·obtain⟨k1,ig,Ca⟩:=aD;obtain⟨c,aH,eK⟩:=gp aa;have tD:=c.toNat_lt;have hw:iw.wrap (c.toNat:Int)=c.toNat:=lS _ Ω;have I1:aZ ((c.toNat:Int)-48):=by unfold aZ;omega
   have k2:aZ ((k:Int)+1):=by unfold aZ;omega
   have ey:=et ((c.toNat:Int)-48) 0 9;have e:s.take (k+1)=s.take k++[c]:=by rw[kV,aH];rfl
   by_cases B3:48<=c.toNat/\c.toNat<=57
   ·have nL:=(BB ig k).1;rw[List.take_take,Nat.min_self]at nL;have uU:aZ (-9223372036854775808+((c.toNat:Int)-48)):=by unfold aZ;omega
    have bA:(-9223372036854775808+((c.toNat:Int)-48)).tdiv 10= -((9223372036854775808-((c.toNat:Int)-48))/10):=by rw[show(-9223372036854775808+((c.toNat:Int)-48))= -(9223372036854775808-((c.toNat:Int)-48)) by omega,Int.neg_tdiv,Int.tdiv_eq_ediv_of_nonneg Ω]
    rw[nD Ω]at ey;have Jy:iw.wrap ((-9223372036854775808+((c.toNat:Int)-48)).tdiv 10)= -((9223372036854775808-((c.toNat:Int)-48))/10):=by rw[bA];exact lS _ Ω
    by_cases nP:acc< -((9223372036854775808-((c.toNat:Int)-48))/10)
    ·have zE:9223372036854775808<kM (s.take (k+1)):=by rw[e,zj];omega
     have bn:gw s=none:=sA fun m hm hit=>by
      obtain⟨aB,aU⟩:=rp hit;have nk:¬m<0:=fun h=>by rw[aU.2 h]at nj;cases nj
      rw[q3]at aB;have jr:=hm;unfold aZ at jr;have fI:=rS m.natAbs;have kp:=rU m.natAbs;have kZ:=rR (u:=m.natAbs) Ω;have cD:=oq m.natAbs;rw[<-aB]at fI kp kZ cD;have:=En fI (show k+1<=s.length by omega);rw[kH]at this;omega
     have:R= .tuple [.int .i64 0,.bool false]:=by rw[<-bH,bn];rfl
     subst this;clear bH bn k1 ig zE bA;simp[mT,aa,eK,aH];exact cB
    ·have I:aZ (acc*10):=by unfold aZ;omega
     have J:aZ (acc*10-((c.toNat:Int)-48)):=by unfold aZ;omega
     have jl:acc*10-((c.toNat:Int)-48)= -kM (s.take (k+1))/\uD (s.take (k+1))/\ -9223372036854775808<=acc*10-((c.toNat:Int)-48):=by
      refine⟨by rw[e,zj];omega,fun x ad=>?_,Ω⟩;rw[e]at ad;rcases fM.1 ad with ad|ad
      ·exact ig x ad
      ·simp at ad;subst ad;exact B3
     clear bH k1 ig bA;simp[mT,aa,eK,aH];(with_reducible repeat' first|refine av ?_|refine ba ey ?_|refine bb ey ?_|simp[aa,eK,aH,hw,I1,uU,Jy,nP,I,J,k2]);refine bU.rng (acc*10-((c.toNat:Int)-48)) aa jl (by simp[mT];exact cX)
   ·rw[decide_eq_false Ω]at ey;have bn:gw s=none:=sA fun m hm hit=>by
     obtain⟨aB,aU⟩:=rp hit;have nk:¬m<0:=fun h=>by rw[aU.2 h]at nj;cases nj
     rw[q3]at aB;have jr:=hm;unfold aZ at jr;have fI:=rS m.natAbs;have kp:=rU m.natAbs;have kZ:=rR (u:=m.natAbs) Ω;have cD:=oq m.natAbs;rw[<-aB]at fI kp kZ cD;exact B3 (fI c (fq aH))
    have:R= .tuple [.int .i64 0,.bool false]:=by rw[<-bH,bn];rfl
    subst this;clear bH bn k1 ig;simp[mT,aa,eK,aH];exact cB
 ·obtain⟨t,rfl⟩:∃eH,s=45::eH:=by
   cases s with
   |nil=>cases nj
   |cons c r=>exact⟨r,by simp[wW]at nj;rw[nj]⟩
  have q3:Aa (45::t)=t:=rfl;by_cases wi:t.length<1
  ·have aI:t=[]:=List.length_eq_zero_iff.1 Ω;have bn:gw (45::t)=none:=sA fun m hm hit=>by obtain⟨aB,aU⟩:=rp hit;have nk:m<0:=aU.1 rfl;rw[q3]at aB;have jr:=hm;unfold aZ at jr;have fI:=rS m.natAbs;have kp:=rU m.natAbs;have kZ:=rR (u:=m.natAbs) Ω;have cD:=oq m.natAbs;rw[<-aB]at fI kp kZ cD;exact cD aI
   have:R= .tuple [.int .i64 0,.bool false]:=by rw[<-bH,bn];rfl
   subst this;subst aI;clear bH;refine bW hE zm Aj (fun aL=>?_);unfold xp;clear aL;exact cB
  have Jm:¬(t.length:Int)<1:=Ω
  have acC:¬t=[]:=fun h=>by rw[h]at wi;simp at wi
  have ya:(0:Int)<(t.length:Int)+1:=Ω
  have wq:(1:Int)<=(t.length:Int)+1:=Ω
  by_cases jT:19<t.length
  ·have bn:gw (45::t)=none:=sA fun m hm hit=>by obtain⟨aB,aU⟩:=rp hit;have nk:m<0:=aU.1 rfl;rw[q3]at aB;have jr:=hm;unfold aZ at jr;have fI:=rS m.natAbs;have kp:=rU m.natAbs;have kZ:=rR (u:=m.natAbs) Ω;have cD:=oq m.natAbs;rw[<-aB]at fI kp kZ cD;omega
   have:R= .tuple [.int .i64 0,.bool false]:=by rw[<-bH,bn];rfl
   subst this;have Cf:(19:Int)<t.length:=Ω
   clear bH bn;refine bW hE zm Aj (fun aL=>?_);unfold xp;clear aL;exact cB
  have Cf:¬(19:Int)<t.length:=Ω
  refine bW hE zm Aj (fun aL=>?_) (hr:=nI);unfold xp;clear aL;simp;(with_reducible repeat' first|refine av ?_|simp[ya,wq,Jm,acC,Cf,jT]);refine gP (mT (45::t) t true) t.length (fun k acc=>acc= -kM (t.take k)/\uD (t.take k)/\ -9223372036854775808<=acc) 0 (by simp[mT];exact cX) ⟨by simp[kM],by simp[uD],Ω⟩ (fun acc aD _=>?_) (fun k acc aa aD _=>?_)
  ·obtain⟨k1,ig,Ca⟩:=aD;rw[kH]at k1 ig;have nL:0<=kM t:=by have:=(BB ig 0).1;have:=En ig (o3 t.length);rw[kH]at this;omega
   have en:aZ acc:=by unfold aZ;omega
   have cZ:=yQ (acc) en;by_cases he:Lib.itoa (acc)=(45::t)
   ·have:R= .tuple [.int .i64 (acc),.bool true]:=by rw[<-bH,wP.2 ⟨en,he⟩];rfl
    subst this;rw[he]at cZ;clear bH k1 ig;simp[mT];exact cB
   ·have bn:gw (45::t)=none:=sA fun m hm hit=>by obtain⟨aB,aU⟩:=rp hit;have nk:m<0:=aU.1 rfl;rw[q3]at aB;have jr:=hm;unfold aZ at jr;have fI:=rS m.natAbs;have kp:=rU m.natAbs;have kZ:=rR (u:=m.natAbs) Ω;have cD:=oq m.natAbs;rw[<-aB]at fI kp kZ cD;exact he (by have:m=acc:=Ω;rw[<-this];exact hit)
    have:R= .tuple [.int .i64 0,.bool false]:=by rw[<-bH,bn];rfl
    subst this;have B4:(Lib.itoa (acc) !=(45::t))=true:=by simpa using he
    clear bH bn k1 ig;simp[mT];((with_reducible repeat' first|refine av ?_|refine ba cZ ?_|refine bb cZ ?_|simp[en,B4]|((first|apply cN|apply cP|apply cO)<;>intro h<;>try simp at h))<;>(try exact dr));simp[b8,Gv,bg,bh,bf]
  ·obtain⟨k1,ig,Ca⟩:=aD;obtain⟨c,aH,eK⟩:=gp aa;have tD:=c.toNat_lt;have hw:iw.wrap (c.toNat:Int)=c.toNat:=lS _ Ω;have I1:aZ ((c.toNat:Int)-48):=by unfold aZ;omega
   have k2:aZ ((k:Int)+1):=by unfold aZ;omega
   have ey:=et ((c.toNat:Int)-48) 0 9;have e:t.take (k+1)=t.take k++[c]:=by rw[kV,aH];rfl
   by_cases B3:48<=c.toNat/\c.toNat<=57
   ·have nL:=(BB ig k).1;rw[List.take_take,Nat.min_self]at nL;have uU:aZ (-9223372036854775808+((c.toNat:Int)-48)):=by unfold aZ;omega
    have bA:(-9223372036854775808+((c.toNat:Int)-48)).tdiv 10= -((9223372036854775808-((c.toNat:Int)-48))/10):=by rw[show(-9223372036854775808+((c.toNat:Int)-48))= -(9223372036854775808-((c.toNat:Int)-48)) by omega,Int.neg_tdiv,Int.tdiv_eq_ediv_of_nonneg Ω]
    rw[nD Ω]at ey;have Jy:iw.wrap ((-9223372036854775808+((c.toNat:Int)-48)).tdiv 10)= -((9223372036854775808-((c.toNat:Int)-48))/10):=by rw[bA];exact lS _ Ω
    by_cases nP:acc< -((9223372036854775808-((c.toNat:Int)-48))/10)
    ·have zE:9223372036854775808<kM (t.take (k+1)):=by rw[e,zj];omega
     have bn:gw (45::t)=none:=sA fun m hm hit=>by obtain⟨aB,aU⟩:=rp hit;have nk:m<0:=aU.1 rfl;rw[q3]at aB;have jr:=hm;unfold aZ at jr;have fI:=rS m.natAbs;have kp:=rU m.natAbs;have kZ:=rR (u:=m.natAbs) Ω;have cD:=oq m.natAbs;rw[<-aB]at fI kp kZ cD;have:=En fI (show k+1<=t.length by omega);rw[kH]at this;omega
     have:R= .tuple [.int .i64 0,.bool false]:=by rw[<-bH,bn];rfl
     subst this;clear bH bn k1 ig zE bA;simp[mT,aa,eK,aH];exact cB
    ·have I:aZ (acc*10):=by unfold aZ;omega
     have J:aZ (acc*10-((c.toNat:Int)-48)):=by unfold aZ;omega
     have jl:acc*10-((c.toNat:Int)-48)= -kM (t.take (k+1))/\uD (t.take (k+1))/\ -9223372036854775808<=acc*10-((c.toNat:Int)-48):=by
      refine⟨by rw[e,zj];omega,fun x ad=>?_,Ω⟩;rw[e]at ad;rcases fM.1 ad with ad|ad
      ·exact ig x ad
      ·simp at ad;subst ad;exact B3
     clear bH k1 ig bA;simp[mT,aa,eK,aH];(with_reducible repeat' first|refine av ?_|refine ba ey ?_|refine bb ey ?_|simp[aa,eK,aH,hw,I1,uU,Jy,nP,I,J,k2]);refine bU.rng (acc*10-((c.toNat:Int)-48)) aa jl (by simp[mT];exact cX)
   ·rw[decide_eq_false Ω]at ey;have bn:gw (45::t)=none:=sA fun m hm hit=>by obtain⟨aB,aU⟩:=rp hit;have nk:m<0:=aU.1 rfl;rw[q3]at aB;have jr:=hm;unfold aZ at jr;have fI:=rS m.natAbs;have kp:=rU m.natAbs;have kZ:=rR (u:=m.natAbs) Ω;have cD:=oq m.natAbs;rw[<-aB]at fI kp kZ cD;exact B3 (fI c (fq aH))
    have:R= .tuple [.int .i64 0,.bool false]:=by rw[<-bH,bn];rfl
    subst this;clear bH bn k1 ig;simp[mT,aa,eK,aH];exact cB
def vy:List aV->Bool
 |[a,b]=>fL a&&fL b
 |_=>false
theorem ahn(k n:Int)(s:List ah)(args:List aV):fL ⟨k,n,s,args⟩=if k≠1/\k≠3/\n≠0 then false else if k≠2/\s≠[]then false else if k≠4/\args≠[]then false else if k=0 then true else if k=1 then decide (0<=n/\n<=100000)else if k=2 then fA s else if k=3 then decide (-1000000000<=n/\n<=1000000000)else if k=4 then vy args else false:=by
 by_cases fc:k=0
 ·subst fc;match args with
  |[]=>by_cases aJ:n=0<;>by_cases au:s=[]<;>simp[fL,la,aJ,au]
  |[a]=>simp[fL]
  |[a,b]=>simp[fL]
  |_::_::_::_=>simp[fL]
 by_cases cE:k=1
 ·subst cE;match args with
  |[]=>by_cases au:s=[]<;>simp[fL,la,au]
  |[a]=>simp[fL]
  |[a,b]=>simp[fL]
  |_::_::_::_=>simp[fL]
 by_cases dj:k=2
 ·subst dj;match args with
  |[]=>by_cases aJ:n=0<;>simp[fL,la,aJ]
  |[a]=>simp[fL]
  |[a,b]=>simp[fL]
  |_::_::_::_=>simp[fL]
 by_cases gD:k=3
 ·subst gD;match args with
  |[]=>by_cases au:s=[]<;>simp[fL,la,au]
  |[a]=>simp[fL]
  |[a,b]=>simp[fL]
  |_::_::_::_=>simp[fL]
 by_cases jV:k=4
 ·subst jV;match args with
  |[]=>simp[fL,la,vy]
  |[a]=>simp[fL,vy]
  |[a,b]=>by_cases aJ:n=0<;>by_cases au:s=[]<;>simp[fL,vy,aJ,au]
  |_::_::_::_=>simp[fL,vy]
 ·match args with
  |[]=>simp[fL,la,fc,cE,dj,gD,jV]
  |[a]=>simp[fL,fc,cE,dj,gD,jV]
  |[a,b]=>simp[fL,fc,cE,dj,gD,jV]
  |_::_::_::_=>simp[fL,fc,cE,dj,gD,jV]
set_option maxRecDepth 8000 in
theorem Mj(m:Nat):∀(t:aV),t.sz<=m->ct aQ 270 [enc t] (.bool (fL t)):=by
 induction m with
 |zero=>intro t aI;cases t;simp[aV.sz]at aI
 |succ m bp=>
 rintro⟨k,n,s,args⟩ aI;generalize bH:fL ⟨k,n,s,args⟩=R;have cQ:=ahn k n s args;rw[bH]at cQ;by_cases ck:k≠1/\k≠3/\n≠0
 ·rw[bP ck]at cQ;obtain⟨cE,gD,n0⟩:=ck;have zW:(k !=1)=true:=by simp[cE]
  have zX:(k !=3)=true:=by simp[gD]
  have Ko:(n !=0)=true:=by simp[n0]
  subst cQ;refine bW ji mx mK fun aL=>?_;unfold lZ;simp[aV.kind,aV.num,aV.name,aV.args];(with_reducible repeat' first|refine av ?_|refine ba (et _ _ _) ?_|refine bb (et _ _ _) ?_|refine ba (gZ _) ?_|refine bb (gZ _) ?_|simp[zW,zX,Ko]);all_goals simp[b8,lM,bg,bh,bf]
 rw[bo ck]at cQ;have Bm:(if k !=1 then k !=3 else false)=true->(n !=0)=false:=by intro h;simp at h⊢;exact Classical.byContradiction fun aJ=>ck ⟨h.1,h.2,aJ⟩
 by_cases cr:k≠2/\s≠[]
 ·rw[bP cr]at cQ;have FF:(k !=2)=true:=by simp[cr.1]
  have Ly:s.isEmpty=false:=by simp[cr.2]
  by_cases cE:k=1
  ·subst cE;subst cQ;refine bW ji mx mK fun aL=>?_;unfold lZ;simp[aV.kind,aV.num,aV.name,aV.args];(with_reducible repeat' first|refine av ?_|refine ba (et _ _ _) ?_|refine bb (et _ _ _) ?_|refine ba (gZ _) ?_|refine bb (gZ _) ?_|simp[Ly]);all_goals simp[b8,lM,bg,bh,bf]
  by_cases gD:k=3
  ·subst gD;subst cQ;refine bW ji mx mK fun aL=>?_;unfold lZ;simp[aV.kind,aV.num,aV.name,aV.args];(with_reducible repeat' first|refine av ?_|refine ba (et _ _ _) ?_|refine bb (et _ _ _) ?_|refine ba (gZ _) ?_|refine bb (gZ _) ?_|simp[Ly]);all_goals simp[b8,lM,bg,bh,bf]
  have zW:(k !=1)=true:=by simp[cE]
  have zX:(k !=3)=true:=by simp[gD]
  have Ko:(n !=0)=false:=Bm (by simp[cE,gD]);subst cQ;refine bW ji mx mK fun aL=>?_;unfold lZ;simp[aV.kind,aV.num,aV.name,aV.args];(with_reducible repeat' first|refine av ?_|refine ba (et _ _ _) ?_|refine bb (et _ _ _) ?_|refine ba (gZ _) ?_|refine bb (gZ _) ?_|simp[zW,zX,Ko,FF,Ly]);all_goals simp[b8,lM,bg,bh,bf]
 rw[bo cr]at cQ;by_cases fc:k=0
 ·subst fc;have n0:n=0:=by simpa using Bm (by decide)
  have vx:s=[]:=Classical.byContradiction fun h=>cr ⟨Ω,h⟩;subst n0 vx;by_cases a0:args=[];rotate_left
  ·rw[bP ⟨Ω,a0⟩]at cQ;have ux:(0:Int)<args.length:=by have:=sY.2 a0;omega
   subst cQ;refine bW ji mx mK fun aL=>?_;unfold lZ;simp[aV.kind,aV.num,aV.name,aV.args];((with_reducible repeat' first|refine av ?_|refine ba (et _ _ _) ?_|refine bb (et _ _ _) ?_|refine ba (gZ _) ?_|refine bb (gZ _) ?_|simp[Int.natCast_nonneg,ux]|((first|apply cN|apply cP|apply cO)<;>intro h<;>try simp at h))<;>(try exact dr));all_goals simp[b8,lM,bg,bh,bf]
  rw[bo (by simp[a0])]at cQ;subst a0;simp at cQ;subst cQ;refine bW ji mx mK fun aL=>?_;unfold lZ;simp[aV.kind,aV.num,aV.name,aV.args];(with_reducible repeat' first|refine av ?_|refine ba (et _ _ _) ?_|refine bb (et _ _ _) ?_|refine ba (gZ _) ?_|refine bb (gZ _) ?_|simp[Int.natCast_nonneg]);all_goals simp[b8,lM,bg,bh,bf]
 by_cases cE:k=1
 ·subst cE;have vx:s=[]:=Classical.byContradiction fun h=>cr ⟨Ω,h⟩;subst vx;by_cases a0:args=[];rotate_left
  ·rw[bP ⟨Ω,a0⟩]at cQ;have ux:(0:Int)<args.length:=by have:=sY.2 a0;omega
   subst cQ;refine bW ji mx mK fun aL=>?_;unfold lZ;simp[aV.kind,aV.num,aV.name,aV.args];((with_reducible repeat' first|refine av ?_|refine ba (et _ _ _) ?_|refine bb (et _ _ _) ?_|refine ba (gZ _) ?_|refine bb (gZ _) ?_|simp[Int.natCast_nonneg,ux]|((first|apply cN|apply cP|apply cO)<;>intro h<;>try simp at h))<;>(try exact dr));all_goals simp[b8,lM,bg,bh,bf]
  rw[bo (by simp[a0])]at cQ;subst a0;simp at cQ;subst cQ;refine bW ji mx mK fun aL=>?_;unfold lZ;simp[aV.kind,aV.num,aV.name,aV.args];(with_reducible repeat' first|refine av ?_|refine ba (et _ _ _) ?_|refine bb (et _ _ _) ?_|refine ba (gZ _) ?_|refine bb (gZ _) ?_|simp[Int.natCast_nonneg]);all_goals simp[b8,lM,bg,bh,bf]
 by_cases dj:k=2
 ·subst dj;have n0:n=0:=by simpa using Bm (by decide)
  subst n0;by_cases a0:args=[];rotate_left
  ·rw[bP ⟨Ω,a0⟩]at cQ;have ux:(0:Int)<args.length:=by have:=sY.2 a0;omega
   subst cQ;refine bW ji mx mK fun aL=>?_;unfold lZ;simp[aV.kind,aV.num,aV.name,aV.args];((with_reducible repeat' first|refine av ?_|refine ba (et _ _ _) ?_|refine bb (et _ _ _) ?_|refine ba (gZ _) ?_|refine bb (gZ _) ?_|simp[Int.natCast_nonneg,ux]|((first|apply cN|apply cP|apply cO)<;>intro h<;>try simp at h))<;>(try exact dr));all_goals simp[b8,lM,bg,bh,bf]
  rw[bo (by simp[a0])]at cQ;subst a0;simp at cQ;subst cQ;refine bW ji mx mK fun aL=>?_;unfold lZ;simp[aV.kind,aV.num,aV.name,aV.args];(with_reducible repeat' first|refine av ?_|refine ba (et _ _ _) ?_|refine bb (et _ _ _) ?_|refine ba (gZ _) ?_|refine bb (gZ _) ?_|simp[Int.natCast_nonneg]);all_goals simp[b8,lM,bg,bh,bf]
 by_cases gD:k=3
 ·subst gD;have vx:s=[]:=Classical.byContradiction fun h=>cr ⟨Ω,h⟩;subst vx;by_cases a0:args=[];rotate_left
  ·rw[bP ⟨Ω,a0⟩]at cQ;have ux:(0:Int)<args.length:=by have:=sY.2 a0;omega
   subst cQ;refine bW ji mx mK fun aL=>?_;unfold lZ;simp[aV.kind,aV.num,aV.name,aV.args];((with_reducible repeat' first|refine av ?_|refine ba (et _ _ _) ?_|refine bb (et _ _ _) ?_|refine ba (gZ _) ?_|refine bb (gZ _) ?_|simp[Int.natCast_nonneg,ux]|((first|apply cN|apply cP|apply cO)<;>intro h<;>try simp at h))<;>(try exact dr));all_goals simp[b8,lM,bg,bh,bf]
  rw[bo (by simp[a0])]at cQ;subst a0;simp at cQ;subst cQ;refine bW ji mx mK fun aL=>?_;unfold lZ;simp[aV.kind,aV.num,aV.name,aV.args];(with_reducible repeat' first|refine av ?_|refine ba (et _ _ _) ?_|refine bb (et _ _ _) ?_|refine ba (gZ _) ?_|refine bb (gZ _) ?_|simp[Int.natCast_nonneg]);all_goals simp[b8,lM,bg,bh,bf]
 by_cases jV:k=4
 ·subst jV;have n0:n=0:=by simpa using Bm (by decide)
  have vx:s=[]:=Classical.byContradiction fun h=>cr ⟨Ω,h⟩;subst n0 vx;simp at cQ;match args,cQ with
  |[a,b],cQ=>
   simp[aV.sz,aV.szL]at aI;have bM:=bp a Ω;have ao:=bp b Ω;simp only[vy]at cQ;subst cQ;refine bW ji mx mK fun aL=>?_;unfold lZ;simp[aV.kind,aV.num,aV.name,aV.args];cases q:fL a with
   |true=>rw[q]at bM;(with_reducible repeat' first|refine av ?_|refine ba bM ?_|refine bb bM ?_|refine ba ao ?_|refine bb ao ?_|simp[Int.natCast_nonneg]);all_goals simp[b8,lM,bg,bh,bf]
   |false=>rw[q]at bM;(with_reducible repeat' first|refine av ?_|refine ba bM ?_|refine bb bM ?_|refine ba ao ?_|refine bb ao ?_|simp[Int.natCast_nonneg]);all_goals simp[b8,lM,bg,bh,bf]
  |[],cQ=>simp only[vy]at cQ;subst cQ;refine bW ji mx mK fun aL=>?_;unfold lZ;simp[aV.kind,aV.num,aV.name,aV.args];(with_reducible repeat' first|refine av ?_|refine ba (et _ _ _) ?_|refine bb (et _ _ _) ?_|refine ba (gZ _) ?_|refine bb (gZ _) ?_|simp[Int.natCast_nonneg]);all_goals simp[b8,lM,bg,bh,bf]
  |[_],cQ=>simp only[vy]at cQ;subst cQ;refine bW ji mx mK fun aL=>?_;unfold lZ;simp[aV.kind,aV.num,aV.name,aV.args];(with_reducible repeat' first|refine av ?_|refine ba (et _ _ _) ?_|refine bb (et _ _ _) ?_|refine ba (gZ _) ?_|refine bb (gZ _) ?_|simp[Int.natCast_nonneg]);all_goals simp[b8,lM,bg,bh,bf]
  |_::_::_::l,cQ=>
   simp only[vy]at cQ;have aG:((l.length:Int)+1+1+1==2)=false:=by simp;omega
   subst cQ;refine bW ji mx mK fun aL=>?_;unfold lZ;simp[aV.kind,aV.num,aV.name,aV.args];(with_reducible repeat' first|refine av ?_|refine ba (et _ _ _) ?_|refine bb (et _ _ _) ?_|refine ba (gZ _) ?_|refine bb (gZ _) ?_|simp[aG]);all_goals simp[b8,lM,bg,bh,bf]
 have n0:(n !=0)=false:=Bm (by simp[cE,gD]);have vx:s=[]:=Classical.byContradiction fun h=>cr ⟨dj,h⟩;subst vx;have R1:(k==0)=false:=by simp[fc]
 have zW:(k==1)=false:=by simp[cE]
 have FF:(k==2)=false:=by simp[dj]
 have zX:(k==3)=false:=by simp[gD]
 have R5:(k==4)=false:=by simp[jV]
 have R2:(k !=1)=true:=by simp[cE]
 have R3:(k !=2)=true:=by simp[dj]
 have R4:(k !=3)=true:=by simp[gD]
 have R6:(k !=4)=true:=by simp[jV]
 by_cases a0:args=[]
 ·subst a0;simp[fc,cE,dj,gD,jV]at cQ;subst cQ;refine bW ji mx mK fun aL=>?_;unfold lZ;simp[aV.kind,aV.num,aV.name,aV.args];(with_reducible repeat' first|refine av ?_|refine ba (et _ _ _) ?_|refine bb (et _ _ _) ?_|refine ba (gZ _) ?_|refine bb (gZ _) ?_|simp[R1,zW,FF,zX,R5,R2,R3,R4,R6,n0]);all_goals simp[b8,lM,bg,bh,bf]
 ·rw[bP ⟨jV,a0⟩]at cQ;have ux:(0:Int)<args.length:=by have:=sY.2 a0;omega
  subst cQ;refine bW ji mx mK fun aL=>?_;unfold lZ;simp[aV.kind,aV.num,aV.name,aV.args];((with_reducible repeat' first|refine av ?_|refine ba (et _ _ _) ?_|refine bb (et _ _ _) ?_|refine ba (gZ _) ?_|refine bb (gZ _) ?_|simp[ux,R1,zW,FF,zX,R5,R2,R3,R4,R6,n0]|((first|apply cN|apply cP|apply cO)<;>intro h<;>try simp at h))<;>(try exact dr));all_goals simp[b8,lM,bg,bh,bf]
theorem ain(t:aV):ct aQ 271 [enc t] (.bool t.fits):=by
 rw[aap];have aH:=ah4 t 5000 Ω Ω;have au:=Mj t.sz t (c7 _);refine bW ji ZV afA fun aL=>?_;unfold N9;simp;by_cases q:l0 t 5000<=5000
 ·exact cB
 ·exact cB
def OB:C:=(af [a8 4 (.mov (.c (.nilp)))] (af [ab 7 0,cC 8 139 7,ab 5 8] (.seq (af [cG 6 0] (.block 0 (.loop (.seq (af [ab 9 6,ab 10 1,cA 11 .lss 9 10] (bt 11 .skip (.exit 0))) (.seq (.block 1 (.region [ab 14 5,cC 15 106 14])) (.region [ab 12 6,bk 13 .add 12 1,ab 6 13])))))) (af [ab 16 5,ab 4 16] .ret))))
@[simp] def Ub:List cu:=[.tmp 4]
def Oj:C:=(af [gI 6 dv] (af [ab 9 0,eM 10 140 [.t 9,(b6 8)],ab 7 10] (.seq (af [ab 11 1,bk 12 .gtr 11 2,ab 13 12,b0 13 true 14 7,aF 13 true (bk 15 .geq 14 3),ep 16 13 15] (bt 16 (af [ab 17 0,ab 18 1,bk 19 .quo 18 2,ab 20 2,eM 21 72 [.t 17,.t 19,.t 20],gI 8 dv,bD 4 8 21] (.seq (.drawn false 42 [bO 22 4 8,ab 23 0,ab 24 1,bk 25 .quo 24 2,ab 26 2,eM 27 72 [.t 23,.t 25,.t 26],eN 28 141 22 27,bD 4 6 28]) .ret)) .skip)) (.seq (af [ab 29 2,bk 30 .gtr 29 0,ab 31 30,b0 31 true 32 7,aF 31 true (bk 33 .rem 32 2),aF 31 true (bk 34 .eql 33 0),ep 35 31 34] (bt 35 (af [ab 36 0,ab 37 2,eN 38 140 36 37,cC 39 142 38,bD 4 6 39] .ret) .skip)) (af [ab 40 0,cC 41 143 40,bD 4 6 41] .ret)))))
@[simp] def Gx:List cu:=[.cell 6 true 4]
def Od:C:=(af [bZ 4 false] (af [ab 5 0,ab 6 1,eN 7 140 5 6,bk 8 .eql 7 0,ab 4 8] .ret))
@[simp] def T2:List cu:=[.tmp 4]
def HT:C:=(af [cG 2 0] (af [ab 4 0,ab 5 0,gy 6 5,bm 7 2 1 6,a7 8 1 7,a8 9 (.bin .mul true (.t 8) (b6 6364136223846793005)),a8 10 (.bin .add true (.t 9) (b6 1442695040888963407)),gy 11 4,bm 12 2 1 11,bD 1 12 10] (.seq (.drawn true 58 [ab 13 0,gy 14 13,bm 15 2 1 14,a7 16 1 15,a8 17 (.bin .shr false (.t 16) (.c (.int .u64 33))),ab 18 0,gy 19 18,bm 20 2 1 19,a7 21 1 20,a8 22 (.bin .shr false (.t 21) (.c (.int .u64 45))),cA 23 .xor 17 22,bk 24 .and 23 255,ab 3 24]) (.seq (.seq (.drawn true 58 [ab 25 0,gy 26 25,bm 27 1 1 26,a7 28 1 27,ab 29 0,gy 30 29,bm 31 0 1 30,a7 32 1 31,cJ 33 32,cA 34 .lss 28 33]) (bt 34 (.seq (.drawn true 58 [ab 35 3,ab 36 0,gy 37 36,bm 38 0 1 37,a7 39 1 38,ab 40 0,gy 41 40,bm 42 1 1 41,a7 43 1 42,dm 44 1 39 43,a7 45 1 44,a8 46 (.conv .i64 (.t 45)),cA 47 .add 35 46,bk 48 .and 47 255,ab 3 48]) (.region [ab 49 0,ab 50 0,gy 51 50,bm 52 1 1 51,a7 53 1 52,bk 54 .add 53 1,gy 55 49,bm 56 1 1 55,bD 1 56 54])) .skip)) (af [ab 57 3,ab 2 57] .ret)))))
@[simp] def KZ:List cu:=[.tmp 2]
def Oc:C:=(af [a8 2 (.mov (.c (.nilp)))] (af [ab 5 0,cJ 6 5,a8 7 (.bin .add false (b6 90411) (.t 6)),ab 3 7] (.seq (af [cG 4 0] (.block 0 (.loop (.seq (af [ab 8 4,ab 9 0,cJ 10 9,cA 11 .lss 8 10,ab 12 11,b0 12 true 13 4,aF 12 true (bk 14 .lss 13 4000),ep 15 12 14] (bt 15 .skip (.exit 0))) (.seq (.block 1 (.region [ab 18 3,bk 19 .mul 18 131,ab 20 0,ab 21 4,dm 22 1 20 21,a7 23 1 22,a8 24 (.conv .i64 (.t 23)),cA 25 .add 19 24,bk 26 .add 25 7,bk 27 .and 26 1073741823,ab 3 27])) (.region [ab 16 4,bk 17 .add 16 1,ab 4 17])))))) (af [ab 28 0,ab 29 3,a8 30 (.build [.slice 1 .nil [],.int .i64 0,.int .i64 0] [(0,1,(.t 28)),(2,1,(.t 29))]),cd (.box 31 (some 401) (.t 30)),ab 2 31] .ret))))
@[simp] def T1:List cu:=[.tmp 2]
def Oa:C:=(af [cG 4 0] (.seq (af [ab 5 1,bk 6 .leq 5 0] (bt 6 (af [cG 4 0] .ret) .skip)) (af [ab 7 0,cC 8 106 7,ab 9 1,cA 10 .rem 8 9,ab 4 10] .ret)))
@[simp] def KY:List cu:=[.tmp 4]
def Oh:C:=(af [gI 2 dv] (af [ab 4 0,eM 5 140 [.t 4,(b6 7)],ab 3 5] (.seq (af [ab 6 3,bk 7 .lss 6 2] (bt 7 (af [ab 8 3,cC 9 194 8,bD 4 2 9] .ret) .skip)) (.seq (af [ab 10 3,bk 11 .lss 10 5] (bt 11 (af [cd (.bsl 12 1 9 [(.c (.str [97])),(.c (.str [98])),(.c (.str [99]))]),ab 13 3,bk 14 .sub 13 2,dm 15 1 12 14,a7 16 1 15,cC 17 195 16,bD 4 2 17] .ret) .skip)) (af [ll 18 dv [],bD 4 2 18] .ret)))))
@[simp] def T4:List cu:=[.cell 2 true 4]
def Oe:C:=(af [a8 4 (.mov (.c (.str [])))] (af [ab 5 1,ab 6 0,ab 7 1,cJ 8 7,eN 9 140 6 8,dm 10 1 5 9,a7 11 1 10,ab 4 11] .ret))
@[simp] def T3:List cu:=[.tmp 4]
def On:C:=(af [gI 2 dv] (af [ab 3 0,ll 4 dv [(0,1,(b6 3)),(1,1,(.t 3))],bD 4 2 4] .ret))
@[simp] def T5:List cu:=[.cell 2 true 4]
def Oq:C:=(af [gI 2 dv] (af [ab 3 0,ll 4 dv [(0,1,(b6 2)),(2,1,(.t 3))],bD 4 2 4] .ret))
@[simp] def T7:List cu:=[.cell 2 true 4]
def sN:List (Nat×dt):=[
 (3,⟨1,8,.int .i64,.int .i64 0⟩),
 (5,⟨1,1,.int .u8,.int .u8 0⟩),
 (9,⟨1,16,.str,.str []⟩),
 (35,⟨1,24,.slice 5,.slice 1 .nil []⟩),
 (38,⟨1,24,.slice 40,.slice 4 .nil []⟩),
 (40,⟨4,56,.struct [(0,3),(1,3),(2,9),(3,38)],.agg [.int .i64 0,.int .i64 0,.str [],.slice 4 .nil []]⟩),
 (70,⟨1,24,.slice 9,.slice 1 .nil []⟩),
 (208,⟨3,40,.struct [(0,35),(1,3),(2,3)],.agg [.slice 1 .nil [],.int .i64 0,.int .i64 0]⟩)]
theorem sR:e7 aQ sN=true:=by kernel_rfl
theorem afX:cI sN OB Ub 2 Tryz.f70=true:=by kernel_rfl
theorem aai:aQ.funcs[(70:Nat)]? =some Tryz.f70:=Tryz.func70
theorem afJ:cI sN Oj Gx 3 Tryz.f72=true:=by kernel_rfl
theorem Z4:aQ.funcs[(72:Nat)]? =some Tryz.f72:=Tryz.func72
theorem afE:cI sN Od T2 2 Tryz.f96=true:=by kernel_rfl
theorem ZZ:aQ.funcs[(96:Nat)]? =some Tryz.f96:=Tryz.func96
theorem Tn:cI sN HT KZ 1 Tryz.f106=true:=by kernel_rfl
theorem PJ:aQ.funcs[(106:Nat)]? =some Tryz.f106:=Tryz.func106
theorem afD:cI sN Oc T1 1 Tryz.f139=true:=by kernel_rfl
theorem ZY:aQ.funcs[(139:Nat)]? =some Tryz.f139:=Tryz.func139
theorem afB:cI sN Oa KY 2 Tryz.f140=true:=by kernel_rfl
theorem ZW:aQ.funcs[(140:Nat)]? =some Tryz.f140:=Tryz.func140
theorem afH:cI sN Oh T4 1 Tryz.f143=true:=by kernel_rfl
theorem Z2:aQ.funcs[(143:Nat)]? =some Tryz.f143:=Tryz.func143
theorem afF:cI sN Oe T3 2 Tryz.f163=true:=by kernel_rfl
theorem Z0:aQ.funcs[(163:Nat)]? =some Tryz.f163:=Tryz.func163
theorem afM:cI sN On T5 1 Tryz.f194=true:=by kernel_rfl
theorem Z7:aQ.funcs[(194:Nat)]? =some Tryz.f194:=Tryz.func194
theorem afO:cI sN Oq T7 1 Tryz.f195=true:=by kernel_rfl
theorem Z9:aQ.funcs[(195:Nat)]? =some Tryz.f195:=Tryz.func195
end
end Go.Proofs.YtlnndmgfngfeiaaGreatDoor
