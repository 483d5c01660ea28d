/- Plain law: the places of variables; lists of terms that are matched. -/
import Derived.Test.YtfeencekjcjalaaGreatDoorProg
import Derived.Shelf.Strings.Builder1
import Derived.Shelf.Strconv.Itoa3
import Derived.Shelf.Strconv.AtoiAll
import Derived.Ground.NamesProg
import Derived.ProofKit
import Derived.WalkKit
import Derived.Lib.ItoaLen
import Derived.Test.YtfeencekjcjalaaGreatDoorZq7
set_option linter.all false
set_option maxHeartbeats 4000000
set_option maxRecDepth 4000
open Array renaming getElem?_toList->uh
open Bool renaming and_eq_true->cD,eq_iff_iff->rO,false_eq_true->hI,or_eq_true->mR
open Go renaming Program->cE
open Go.Extern.AbiNoEscape renaming same->ayg
open Go.IntKind renaming i64->oQ
open Go.IntWalk renaming i64_in->lY
open Go.Proofs.Tryz renaming f4->kS,prog->ar
open Go.Value renaming cells->nu,int->pz
open List renaming all_eq_true->iW,cons_append->b3,getElem?_eq_getElem->cl,getElem?_eq_some_iff->fp,getElem_of_mem->oS,length_append->ga,length_cons->ik,length_map->iz,length_nil->nv,length_take->oT,map_append->sP,map_cons->fG,map_nil->nx,mem_append->j0,mem_append_left->sQ,mem_cons->gj,mem_cons_of_mem->pB,mem_filter->n3,mem_map->iA,mem_of_getElem?->ev,nil_append->b6,nodup_append->rS,take_length->lZ,take_of_length_le->gv
open List.Pairwise renaming filter->acq
open List.cons renaming injEq->pA
open Nat renaming le_refl->e2,le_trans->j1
open Ne renaming symm->lb
open Option renaming bind_some->ld,getD_none->oU,getD_some->mv,isSome_iff_exists->gk,isSome_none->ny,isSome_some->um,map_eq_some_iff->gI
open Option.some renaming inj->ft,injEq->dz
open Prod.mk renaming injEq->hW
open UInt8 renaming ofNat->sS
open _root_ renaming False->eF,Option->aZ,UInt8->b7,beq_iff_eq->dW,congrArg->eG,decide_eq_false->l0,decide_eq_false_iff_not->hb,decide_eq_true->lL,decide_eq_true_eq->e3
namespace Go.Proofs.YtfeencekjcjalaaGreatDoor
section
open Go Go.Pv
def ab2(l:List T)(h:∀t∈l,t.fit=true):bK ar 97 [.slice 4 .no (l.map T.e)] (.bool true):=by
 refine br a7 Tryz.func97 Y2 fun a=>?_;unfold K1;have c:l.length<=68719476736:=by simp[eV,eN,eS,lim]at a;omega
 simp;refine eH [5,6] (fun i (_:Unit)=>[(7,.int .i64 i)]) l.length (fun _ _=>True) () bU trivial (fun _ _ _=>?_) (fun i _ hi _ _=>?_)
 ·exact ca
 ·obtain⟨t,aM,b⟩:=dX hi;have d:=Qu (h t (ev aM));clear aM;exact hS
def jB(m:Int):cS:=⟨[(.obj 831,[.int .i64 m])],[]⟩
def xc(m:Int):ea (jB m):=by unfold jB;exact ea.of ⟨by intro m;simp[Pv.look],by intro m;simp[Pv.look]⟩ Ψ Ψ
def acO(a b:Int):Same (jB a) (jB b):=Same.keys wL wL
def aiq(v m b:Int)(h:Gg v m=some b):bG ar 166 [.int .i64 v,.ptr (.obj 831) 0] (jB m) fun r d=>r= .tuple []/\d=jB b:=by
 unfold Gg at h;split at h;rotate_left
 ·cases h
 rename_i f;cases h;have a:=xc m;simp only[jB]at a⊢;by_cases hm:m<v+1
 ·rw[ud,if_pos hm];refine bG.mk mixed a7 Tryz.func166 YW Ψ a.obj fun e c=>?_;unfold KV;simp;(repeat' first|refine ak ?_|simp[hm]);(refine cJ.at (jB (v+1)) Ψ rd (Same.keys wL wL) ol ol ?_;simp[cM,aX,aY,aW,inObs,Pv.look,jB])
 ·rw[ud,if_neg hm];refine bG.mk mixed a7 Tryz.func166 YW Ψ a.obj fun e c=>?_;unfold KV;simp;(repeat' first|refine ak ?_|simp[hm]);(refine cJ.at (jB m) Ψ rd (Same.keys wL wL) ol ol ?_;simp[cM,aX,aY,aW,inObs,Pv.look,jB])
def Gf(l:List T):Int:=l.foldl (fun m t=>t.fold ud m) 0
def Ik(l:List T)(i:Nat)(m:Int):Prop:=m=Gf (l.take i)
def ash(l:List T)(h:∀t∈l,t.fit=true):bK ar 135 [.slice 4 .no (l.map T.e)] (.int .i64 (Gf l)):=by
 have e:=ab2 l h;generalize bg:Gf l=R;refine br a7 Tryz.func135 am5 fun g=>?_;unfold R7;have j:l.length<=68719476736:=by simp[eV,eN,eS,lim]at g;omega
 simp;(repeat' first|refine ak ?_|refine aI e ?_|refine aJ e ?_|simp);refine gb (fun i (m:Int)=>⟨[(3,.ptr (.obj 831) 0),(9,.slice 4 .no (l.map T.e)),(10,.int .i64 l.length),(11,.int .i64 i)],[(.obj 831,[.int .i64 m])],[],0,[.obj 831]⟩) l.length (Ik l) 0 bU rfl (fun m b _=>?_) (fun i m hi b _=>?_)
 ·rw[Ik,lZ,bg]at b;subst b;exact ca
 ·obtain⟨t,aM,d⟩:=dX hi;have c:t.ok=true:=by have:=h t (ev aM);simp only[T.fit,cD]at this;exact this.1
  have f:Ik l (i+1) (t.fold ud m):=by rw[Ik,sJ aM,Gf,List.foldl_append,b];rfl
  have key:=L6 jB xc acO 166 [.ptr (.obj 831) 0] (fun a=>by simp[jB,inObs,Pv.look]) Ψ Gg (fun v a bu h=>aiq v a bu h) t m _ (QF t m c);clear b aM;simp[hi,d];(repeat' first|refine ak ?_|simp[d,hi]);(refine cx.ob (key) rd ol ol (by simp[inObs,Pv.look,jB]) ?_;rintro r k ⟨rfl,rfl⟩;refine⟨(Same.keys wL wL),?_⟩;simp[bW,jB]);(repeat' first|refine ak ?_|simp);refine bQ.rng (t.fold ud m) hi f ?_;exact bU
def abA{s:List az}(l:e7 s){n:Int}(p:0<=n):bK ar 85 [.slice 5 .no (s.map az.e),.int .i64 n] (.bool (s.all (lP n))):=by
 have r:=l.len;generalize bg:s.all (lP n)=R;refine br a7 Tryz.func85 am6 fun w=>?_;unfold R8;simp;refine eH [1,7,8] (fun i (_:Unit)=>[(9,.int .i64 i)]) s.length (p3 (lP n) s) () bU (fun k b f=>Ω) (fun _ a _=>?_) (fun i _ hi a _=>?_)
 ·have:R=true:=by rw[<-bg,iW];intro b ae;obtain⟨k,f,e⟩:=oS ae;exact a k b f (by rw[cl f,e])
  rw[this];exact ca
 ·obtain⟨b,c,v⟩:=dX hi;have g:lP n b=false->R=false:=fun h=>by rw[<-bg,Bool.eq_false_iff];intro j;rw[iW]at j;rw[j b (ev c)]at h;cases h
  have d:=ash [b.t] (fun t aM=>by simp at aM;subst aM;exact l.fit b (ev c));have hle:=QG (n:=n) b.t 0;rw[show Gf [b.t]=b.t.fold ud 0 from rfl]at d;simp only[fG,nx]at d;generalize b.t.fold ud 0=m at d hle;by_cases J:b.v<n
  ·have o:¬n<=b.v:=Ω
   cases U:jF n b.t
   ·have q:n<m:=by rw[U]at hle;simp at hle;omega
    rw[g (by simp[lP,U])];clear a c hle;exact ca
   ·have q:¬n<m:=by rw[U]at hle;simp[p]at hle;omega
    have u:=a.step c (by simp[lP,J,U]);clear a c hle;exact hS
  ·have o:n<=b.v:=Ω
   rw[g (by simp[lP,J])];clear a c hle;exact ca
def xk:C:=(aa [c6 1 0,bs 2 false] (.seq (aa (aK 11 0 1 1::aw 12 1 11::aS 13 .lss 12 0::I 14 13::ax 14 false (aK 15 0 1 1)::ax 14 false (aw 16 1 15)::ax 14 false (aS 17 .gtr 16 100000)::dy 18 14 17::I 19 18::ax 19 false (aK 20 1 1 1)::ax 19 false (aw 21 1 20)::ax 19 false (cI 22 82 21)::ax 19 false (cH 23 22)::dy 24 19 23::I 25 24::ax 25 false (aK 26 3 1 1)::ax 25 false (aw 27 1 26)::ax 25 false (cI 28 83 27)::ax 25 false (cH 29 28)::dy 30 25 29::I 31 30::ax 31 false (aK 32 4 1 1)::ax 31 false (aw 33 1 32)::ax 31 false (cI 34 84 33)::ax 31 false (cH 35 34)::dy 36 31 35::I 37 36::ax 37 false (aK 38 1 1 1)::ax 37 false (aw 39 1 38)::ax 37 false (aK 40 0 1 1)::ax 37 false (aw 41 1 40)::ax 37 false (ch 42 85 39 41)::ax 37 false (cH 43 42)::dy 44 37 43::[]) (aU 44 (aa [bs 2 false] .ret) .skip)) (.seq (aa [aK 45 2 1 1,aw 46 1 45,cd 47 46,bT 48 0] (fo 49 48 47 (.seq (.block 1 (aa [cq 50 1 46 48,aw 51 1 50,I 4 51] (aa [I 52 4,cI 53 82 52,cH 54 53,I 55 54,ck 55 false 56 4,ax 55 false (aK 57 0 1 1),ax 55 false (aw 58 1 57),ax 55 false (ch 59 85 56 58),ax 55 false (cH 60 59),dy 61 55 60] (aU 61 (aa [bs 2 false] .ret) .skip)))) (.region [aS 62 .add 48 1,I 48 62])))) (.seq (aa [aK 63 3 1 1,aw 64 1 63,cd 65 64,bT 66 0] (.block 2 (.loop (aa [bp 67 .lss 66 65] (.seq (aU 67 .skip (.exit 2)) (.seq (.block 3 (aa [cq 68 2 64 66,bh 69 2 68,cU (.alloc 6 none (.agg [.int .i64 0,.int .i64 0])),b1 2 6 69] (aa [aK 70 0 1 6,aw 71 1 70,aK 72 0 1 1,aw 73 1 72,bp 74 .geq 71 73] (aU 74 (aa [bs 2 false] .ret) .skip)))) (.region [aS 75 .add 66 1,I 66 75]))))))) (.seq (aa [aK 76 4 1 1,aw 77 1 76,cd 78 77,bT 79 0] (.block 4 (.loop (aa [bp 80 .lss 79 78] (.seq (aU 80 .skip (.exit 4)) (.seq (.block 5 (aa [cq 81 2 77 79,bh 82 2 81,cU (.alloc 8 none (.agg [.int .i64 0,.str []])),b1 2 8 82] (aa [aK 83 0 1 8,aw 84 1 83,aK 85 0 1 1,aw 86 1 85,bp 87 .geq 84 86] (aU 87 (aa [bs 2 false] .ret) .skip)))) (.region [aS 88 .add 79 1,I 79 88]))))))) (aa [bh 90 5 1,cI 91 86 90,I 89 91,dr 92 0 89,dr 93 1 89,dV 9 qL,b1 5 9 92,I 10 93] (aa [I 94 10,I 95 94,ax 95 true (bh 96 5 9),ax 95 true (bh 97 5 1),ax 95 true (ch 98 87 96 97),ei 99 95 98,I 2 99] .ret)))))))
def GQ:C:=(aa [c6 1 0,dV 2 qL,bs 3 false] (aa [aK 26 1 1 1,aw 27 1 26,aK 28 3 1 1,aw 29 1 28,ch 30 136 27 29,I 25 30,dr 31 0 25,dr 32 1 25,I 4 31,I 5 32] (aa [aK 34 1 1 1,aw 35 1 34,aK 36 4 1 1,aw 37 1 36,ch 38 137 35 37,I 33 38,dr 39 0 33,dr 40 1 33,I 6 39,I 7 40] (.seq (aa [I 41 5,cH 42 41,I 43 42,ck 43 false 44 7,ax 43 false (cH 45 44),dy 46 43 45] (aU 46 (aa [lJ 47 qL [],b1 5 2 47,bs 3 false] .ret) .skip)) (aa [cU (.mkmap 48 none),I 8 48] (.seq (aa [I 49 4,cd 50 49,bT 51 0] (fo 52 51 50 (.seq (.block 1 (aa [cq 53 2 49 51,bh 54 2 53,cU (.alloc 10 none (.agg [.int .i64 0,.int .i64 0])),b1 2 10 54] (aa [aK 55 1 1 10,aw 56 1 55,aS 57 .eql 56 3] (aU 57 (.region [I 58 8,aK 59 0 1 10,aw 60 1 59,cU (.mput .i (.t 58) (.t 60) (.c (.bool true)))]) .skip)))) (.region [aS 61 .add 51 1,I 51 61])))) (aa [eE 62 2 82 [],I 11 62] (.seq (aa [I 63 6,cd 64 63,bT 65 0] (.block 2 (.loop (aa [bp 66 .lss 65 64] (.seq (aU 66 .skip (.exit 2)) (.seq (.block 3 (aa [cq 67 2 63 65,bh 68 2 67,cU (.alloc 13 none (.agg [.int .i64 0,.str []])),b1 2 13 68] (aa [I 69 8,aK 70 0 1 13,aw 71 1 70,bH 72 (.mget .i (.bool false) false (.t 69) (.t 71)),cH 73 72] (aU 73 (.region [I 74 11,bh 75 2 13,eE 76 2 82 [.t 75],hv 77 2 82 74 76,I 11 77]) .skip)))) (.region [aS 78 .add 65 1,I 65 78]))))))) (aa [eE 79 1 30 [],I 14 79] (.seq (aa [aK 80 2 1 1,aw 81 1 80,cd 82 81,bT 83 0] (.block 4 (.loop (aa [bp 84 .lss 83 82] (.seq (aU 84 .skip (.exit 4)) (.seq (.block 5 (aa [cq 85 1 81 83,aw 86 1 85,I 16 86] (aa [aK 88 1 1 1,aw 89 1 88,I 90 16,ch 91 138 89 90,I 87 91,dr 92 0 87,dr 93 1 87,I 17 92,I 18 93] (.seq (aa [I 94 18,cH 95 94] (aU 95 (.exit 5) .skip)) (aa [I 97 17,I 98 4,ch 99 136 97 98,I 96 99,dr 100 0 96,dr 101 1 96,I 19 100,I 20 101] (aa [I 103 17,I 104 11,ch 105 137 103 104,I 102 105,dr 106 0 102,dr 107 1 102,I 21 106,I 22 107] (.seq (aa [I 108 20,cH 109 108,I 110 109,ck 110 false 111 22,ax 110 false (cH 112 111),dy 113 110 112] (aU 113 (.exit 5) .skip)) (aa [aK 114 1 1 1,aw 115 1 114,I 116 17,ch 117 139 115 116,I 23 117] (.seq (aa [I 118 23,cd 119 118,aS 120 .eql 119 0] (aU 120 (aa [lJ 121 qL [],b1 5 2 121,bs 3 false] .ret) .skip)) (.region [I 122 14,I 123 23,eE 124 1 30 [.t 123],hv 125 1 30 122 124,I 14 125])))))))))) (.region [aS 126 .add 83 1,I 83 126]))))))) (aa [I 127 14,cI 128 140 127,I 24 128] (.seq (aa [I 129 24,cd 130 129,aS 131 .gtr 130 30] (aU 131 (aa [lJ 132 qL [],b1 5 2 132,bs 3 false] .ret) .skip)) (.seq (.drawn true 142 [aK 133 0 1 1,aw 134 1 133,aK 135 1 1 1,aw 136 1 135,cI 137 141 136,I 138 24,I 139 4,I 140 11,lJ 141 qL [(0,1,(.t 134)),(1,1,(.t 137)),(2,1,(.t 138)),(3,1,(.t 139)),(4,1,(.t 140))],b1 5 2 141,bs 3 true]) .ret)))))))))))))
def yQ:C:=(aa [c6 2 0,c6 3 1,bs 4 false] (.seq (aa (aK 8 0 1 2::aw 9 1 8::aK 10 0 1 3::aw 11 1 10::bp 12 .neq 9 11::I 13 12::ax 13 false (aK 14 1 1 2)::ax 13 false (aw 15 1 14)::ax 13 false (aK 16 1 1 3)::ax 13 false (aw 17 1 16)::ax 13 false (ch 18 142 15 17)::ax 13 false (cH 19 18)::dy 20 13 19::I 21 20::ax 21 false (aK 22 2 1 2)::ax 21 false (aw 23 1 22)::ax 21 false (cd 24 23)::ax 21 false (aK 25 2 1 3)::ax 21 false (aw 26 1 25)::ax 21 false (cd 27 26)::ax 21 false (bp 28 .neq 24 27)::dy 29 21 28::I 30 29::ax 30 false (aK 31 3 1 2)::ax 30 false (aw 32 1 31)::ax 30 false (cd 33 32)::ax 30 false (aK 34 3 1 3)::ax 30 false (aw 35 1 34)::ax 30 false (cd 36 35)::ax 30 false (bp 37 .neq 33 36)::dy 38 30 37::I 39 38::ax 39 false (aK 40 4 1 2)::ax 39 false (aw 41 1 40)::ax 39 false (cd 42 41)::ax 39 false (aK 43 4 1 3)::ax 39 false (aw 44 1 43)::ax 39 false (cd 45 44)::ax 39 false (bp 46 .neq 42 45)::dy 47 39 46::[]) (aU 47 (aa [bs 4 false] .ret) .skip)) (.seq (aa [aK 48 2 1 2,aw 49 1 48,cd 50 49,bT 51 0] (fo 52 51 50 (.seq (.block 1 (aa [I 53 51,I 5 53] (.seq (.drawn true 103 [aK 54 2 1 2,aw 55 1 54,I 56 5,cq 57 1 55 56,aw 58 1 57,aK 59 2 1 3,aw 60 1 59,I 61 5,cq 62 1 60 61,aw 63 1 62,ch 64 142 58 63,cH 65 64]) (aU 65 (aa [bs 4 false] .ret) .skip)))) (.region [aS 66 .add 51 1,I 51 66])))) (.seq (aa [aK 67 3 1 2,aw 68 1 67,cd 69 68,bT 70 0] (.block 2 (.loop (aa [bp 71 .lss 70 69] (.seq (aU 71 .skip (.exit 2)) (.seq (.block 3 (aa [I 72 70,I 6 72] (.seq (.drawn true 103 [aK 73 3 1 2,aw 74 1 73,I 75 6,cq 76 2 74 75,bh 77 2 76,aK 78 3 1 3,aw 79 1 78,I 80 6,cq 81 2 79 80,bh 82 2 81,bH 83 (.beq true (some [false,false]) (.t 77) (.t 82))]) (aU 83 (aa [bs 4 false] .ret) .skip)))) (.region [aS 84 .add 70 1,I 70 84]))))))) (.seq (aa [aK 85 4 1 2,aw 86 1 85,cd 87 86,bT 88 0] (.block 4 (.loop (aa [bp 89 .lss 88 87] (.seq (aU 89 .skip (.exit 4)) (.seq (.block 5 (aa [I 90 88,I 7 90] (.seq (.drawn true 103 [aK 91 4 1 2,aw 92 1 91,I 93 7,cq 94 2 92 93,bh 95 2 94,aK 96 4 1 3,aw 97 1 96,I 98 7,cq 99 2 97 98,bh 100 2 99,bH 101 (.beq true (some [false,true]) (.t 95) (.t 100))]) (aU 101 (aa [bs 4 false] .ret) .skip)))) (.region [aS 102 .add 88 1,I 88 102]))))))) (aa [bs 4 true] .ret))))))
def z6:b4 aT xk [.tmp 2] 1 Tryz.f32=true:=an
def Oz:b4 aT GQ [.cell 2 true 5,.tmp 3] 1 Tryz.f86=true:=an
def Cq:b4 aT yQ [.tmp 4] 2 Tryz.f87=true:=an
def dR.e(s:dR):ah:= .agg [.int .i64 s.n,.slice 5 .no (s.b.map az.e),.slice 1 .no (s.d.map c7),.slice 2 .no (s.k.map bR.e),.slice 2 .no (s.m.map bq.e)]
@[simp]def awl(S:aB->Prop)(s:dR):au S s.e=True:=by simp[dR.e,au,ay]
def wR(o:aZ dR):ah:= .tuple [(o.getD sN).e,.bool o.isSome]
@[simp]def awk(S:aB->Prop)(o:aZ dR):au S (wR o)=True:=by simp[wR,au,ay]
def wk(k:List bR)(i:Nat)(l:List (Int×Bool)):Prop:= ∀v,(dp v l).getD false=(k.take i).any fun x=>x.v==v&&x.k==3
def wk.put{k:List bR}{i:Nat}{l:List (Int×Bool)}(h:wk k i l){x:bR}(b:k[i]? =some x)(a:x.k=3):wk k (i+1) (fa x.v true l):=fun v=>by
 rw[oM,sJ b,List.any_append,<-h v];by_cases e:v=x.v
 ·rw[if_pos e];simp[e,a]
 ·rw[if_neg e];have:(x.v==v)=false:=by simp;exact fun h=>e h.symm
  simp[this]
def wk.skip{k:List bR}{i:Nat}{l:List (Int×Bool)}(h:wk k i l){x:bR}(b:k[i]? =some x)(a:¬x.k=3):wk k (i+1) l:=fun v=>by
 rw[sJ b,List.any_append,<-h v];have:(x.k==3)=false:=by simp[a]
 simp[this]
def wk.fin{k:List bR}{l:List (Int×Bool)}(h:wk k k.length l)(a:iR k)(x:bq):(dp x.v l).getD false= !lD k x:=by rw[h x.v,lZ,ac4 a.asc,lD,bne,Bool.not_not]
def uV(k:List bR)(m:List bq)(i:Nat)(a:List bq):Prop:=a=(m.take i).filter (lD k)
def uV.step{k:List bR}{m:List bq}{i:Nat}{a:List bq}(h:uV k m i a){x:bq}(b:m[i]? =some x):uV k m (i+1) (if lD k x=true then a++[x]else a):=by
 rw[uV,sJ b,List.filter_append,<-h];by_cases e:lD k x=true
 ·rw[if_pos e];simp[e]
 ·rw[if_neg e];simp[e]
def B6(S:aB->Prop)(l:List bq)(d:bq):ay S (l.map bq.e++[d.e])=True:=by have:=NF S (l++[d]);rw[sP]at this;exact eq_true this
def Yj{k:List bR}{m:List bq}(h:iH m):iH (m.filter (lD k)):=⟨fun x a=>h.at' x (n3.1 a).1,acq _ h.asc⟩
def abc{G:List (List b7)}{k:List bR}{m:List bq}(h:oL G m):oL G (m.filter (lD k)):=fun x a=>h x (n3.1 a).1
def rr.skip{b:List az}{k:List bR}{m:List bq}{D:List (List az)}{i:Nat}{a:List (List az)}(h:rr b k m D i a){d:List az}(c:D[i]? =some d)(he:∀r,hA b k m (d::r)=hA b k m r):rr b k m D (i+1) a:=⟨by have:=h.1;omega,h.2.1,by rw[<-h.2.2,u0 c,he]⟩
def rr.snoc{b:List az}{k:List bR}{m:List bq}{D:List (List az)}{i:Nat}{a:List (List az)}(h:rr b k m D i a){d x:List az}(f:D[i]? =some d)(e:e7 x)(he:∀r,hA b k m (d::r)=(hA b k m r).map (x:: ·)):rr b k m D (i+1) (a++[x]):=
 ⟨by have:=h.1;simp;omega,fun y c=>by
  rcases j0.1 c with c|c
  ·exact h.2.1 y c
  ·simp at c;subst c;exact e,by
  rw[<-h.2.2,u0 f,he,Option.map_map];congr 1;funext r;simp⟩
def rr.stop{b:List az}{k:List bR}{m:List bq}{D:List (List az)}{i:Nat}{a:List (List az)}(h:rr b k m D i a){d:List az}(c:D[i]? =some d)(he:∀r,hA b k m (d::r)=none):hA b k m D=none:=by rw[<-h.2.2,u0 c,he];rfl
def rr.fin{b:List az}{k:List bR}{m:List bq}{D:List (List az)}{a:List (List az)}(h:rr b k m D D.length a):hA b k m D=some a:=by rw[<-h.2.2,List.drop_length];simp[hA]
def wq(S:aB->Prop)(l:List (List az))(d:List az):ay S (l.map c7++[.slice 5 .no (d.map az.e)])=True:=zR S l d
def DD{d:List az}(a:e7 d):∀e∈iv d,e.1.ok=true/\e.2.ok=true:=fun e he=>by obtain⟨c,aA,rfl⟩:=iA.1 he;have:=a.ok c aA;exact⟨by simpa[T.ok]using this.1,this.2⟩
def as0{s:dR}(h:Az s){G:List (List b7)}(oo:G.length<=687000)(a1:oL G s.m):bK ar 86 [s.e] (wR (nr s)):=by
 generalize f:nr s=O;have w:=abx h.b h.k;have u:=aby h.b h.m oo a1;have E:=fun k=>Jx (acc:=[]) (a:=k) h.b h.k.at' ⟨Ψ,Ψ⟩;have D:=fun m=>Jy (acc:=[]) (a:=m) h.b h.m.at' ⟨Ψ,by simp[iB]⟩;have F:=fun m=>Pm (acc:=[]) (a:=m) (s:=s.b) a1 (fun x g=>by simp at g);have ae:=h.b;have aQ:=h.d;clear h a1;unfold nr at f;obtain⟨n,b,d,R,m0⟩:=s;simp only at w u E D F ae aQ f;have ed:=ae.len;simp only[dR.e];generalize gG b R []=ok at w f E;generalize gH b m0 []=om at u f D F;cases ok with
 |none=>
  simp only at f;subst f;simp only[gC]at w;simp only[jX]at u;clear E D F;refine br a7 Tryz.func86 Oz fun aN=>?_;unfold GQ;simp;(repeat' first|refine ak ?_|refine aI w ?_|refine aJ w ?_|refine aI u ?_|refine aJ u ?_|simp);all_goals simp[bF,aX,aY,aW]
  all_goals simp[wR,sN,dR.e]
 |some k=>
  simp only at f;cases om with
  |none=>
   simp only at f;subst f;simp only[gC]at w;simp only[jX]at u;clear E D F;refine br a7 Tryz.func86 Oz fun aN=>?_;unfold GQ;simp;(repeat' first|refine ak ?_|refine aI w ?_|refine aJ w ?_|refine aI u ?_|refine aJ u ?_|simp);all_goals simp[bF,aX,aY,aW]
   all_goals simp[wR,sN,dR.e]
  |some m=>
   simp only at f;have X:=E k rfl;have V:=D m rfl;have W:=F m rfl;have iP:=xY X;have k2:m.length<=68719470000:=by have:=E8 V W;omega
   have BI:=Yj (k:=k) V;have BC:=abc (k:=k) W;have aj9:(m.filter (lD k)).length<=68719470000:=j1 (List.length_filter_le _ _) k2;simp only[gC,mv,um]at w;simp only[jX,mv,um]at u;clear E D F;refine br a7 Tryz.func86 Oz fun aN=>?_;unfold GQ;have rh:d.length<=68719476736:=by simp[eV,eN,eS,lim]at aN;omega
   simp;(repeat' first|refine ak ?_|refine aI w ?_|refine aJ w ?_|refine aI u ?_|refine aJ u ?_|simp);refine gb (fun i (l:List (Int×Bool))=>⟨[(1,.ptr (.loc 0) 0),(2,.ptr (.loc 1) 0),(4,.slice 2 .no (k.map bR.e)),(6,.slice 2 .no (m.map bq.e)),(8,.gmap (.loc 2)),(49,.slice 2 .no (k.map bR.e)),(50,.int .i64 k.length),(51,.int .i64 i)],[(.loc 0,[.int .i64 n,.slice 5 .no (b.map az.e),.slice 1 .no (d.map c7),.slice 2 .no (R.map bR.e),.slice 2 .no (m0.map bq.e)]),(.loc 1,[.int .i64 0,.slice 5 .nil [],.slice 1 .nil [],.slice 2 .nil [],.slice 2 .nil []]),(.loc 2,qN l)],[],3,[]⟩) k.length (wk k) [] ⟨by simp[fresh,ay,au,bX,inObs,Pv.look,NT],dH (by simp[fresh,ay,au,bX,inObs,Pv.look,NT]),dK (by simp[fresh,ay,au,dD,inObs,Pv.look,NT]),Ψ⟩ (fun v=>by simp[dp]) (fun l c _=>?_) (fun i l hi c _=>?_);rotate_left
   ·obtain⟨x,g,o⟩:=dX hi;by_cases Z:x.k=3
    ·have j:=c.put g Z;clear c g;exact hS
    ·have j:=c.skip g Z;have uF:(x.k==3)=false:=by simp[Z]
     clear c g;exact hS
   have hints:=c.fin X;clear c;simp;(repeat' first|refine ak ?_|simp);refine gb (fun i (a:List bq)=>⟨[(1,.ptr (.loc 0) 0),(2,.ptr (.loc 1) 0),(4,.slice 2 .no (k.map bR.e)),(8,.gmap (.loc 2)),(11,.slice 2 (.own (.loc 3)) (a.map bq.e)),(63,.slice 2 .no (m.map bq.e)),(64,.int .i64 m.length),(65,.int .i64 i)],[(.loc 0,[.int .i64 n,.slice 5 .no (b.map az.e),.slice 1 .no (d.map c7),.slice 2 .no (R.map bR.e),.slice 2 .no (m0.map bq.e)]),(.loc 1,[.int .i64 0,.slice 5 .nil [],.slice 1 .nil [],.slice 2 .nil [],.slice 2 .nil []]),(.loc 2,qN l)],[(.loc 3,⟨a.length,82,2,none⟩)],4,[]⟩) m.length (uV k m) [] bU (by simp[uV]) (fun a c _=>?_) (fun i a hi c _=>?_);rotate_left
   ·obtain⟨x,g,o⟩:=dX hi;have tg:a.length<=68719470000:=by
     have:a.length<=(m.take i).length:=by rw[c];exact List.length_filter_le _ _
     simp at this;omega
    have j:=c.step g;have J:=hints x;cases S:lD k x
    ·rw[S]at j J;simp only[hI,if_false,Bool.not_false]at j J;clear c g S;simp[hi,o];((repeat' first|refine ak ?_|simp[hi,o,J]|((first|apply bV|apply b0|apply bZ)<;>intro h<;>try simp at h))<;>(try exact cA));all_goals exact bQ.rng a hi j bU
    ·rw[S]at j J;simp only[if_true,Bool.not_true]at j J;clear c g S;simp[hi,o];((repeat' first|refine ak ?_|simp[hi,o,J]|((first|apply bV|apply b0|apply bZ)<;>intro h<;>try simp at h))<;>(try exact cA));all_goals try refine⟨by unfold lim;omega,?_⟩
     all_goals(repeat' first|refine ak ?_|simp)
     all_goals exact bQ.rng (a++[x]) hi j ⟨by simp[fresh,ay,au,bX,inObs,Pv.look,B6],dH (by simp[fresh,ay,au,bX,inObs,Pv.look,B6]),dK (by simp[fresh,ay,au,dD,inObs,Pv.look,B6]),Ψ⟩
   rw[uV,lZ]at c;rw[<-c]at BI BC aj9 f;clear c hints iP V W;simp;(repeat' first|refine ak ?_|simp);refine gb (fun i (L:List (List az))=>⟨[(1,.ptr (.loc 0) 0),(2,.ptr (.loc 1) 0),(4,.slice 2 .no (k.map bR.e)),(11,.slice 2 (.own (.loc 3)) (a.map bq.e)),(14,.slice 1 (.own (.loc 4)) (L.map c7)),(81,.slice 1 .no (d.map c7)),(82,.int .i64 d.length),(83,.int .i64 i)],[(.loc 0,[.int .i64 n,.slice 5 .no (b.map az.e),.slice 1 .no (d.map c7),.slice 2 .no (R.map bR.e),.slice 2 .no (m0.map bq.e)]),(.loc 1,[.int .i64 0,.slice 5 .nil [],.slice 1 .nil [],.slice 2 .nil [],.slice 2 .nil []])],[(.loc 3,⟨a.length,82,2,none⟩),(.loc 4,⟨L.length,30,1,none⟩)],5,[]⟩) d.length (rr b k a d) [] bU ⟨Ψ,Ψ,Ψ⟩ (fun L c _=>?_) (fun i L hi c _=>?_)
   ·have kg:=c.fin;have xA:=c.2.1;rw[kg]at f;simp only at f;have K:=ar9 L xA;have P:bK ar 141 [.slice 5 .no (b.map az.e)] (.slice 5 .no (b.map az.e)):=abB b ed;clear c kg xA;generalize lV L=M at K f;by_cases N:M.length<=30
    ·have Y:¬(30:Int)<M.length:=Ω
     rw[if_pos N]at f;subst f;simp;(repeat' first|refine ak ?_|refine aI K ?_|refine aJ K ?_|refine aI P ?_|refine aJ P ?_|simp[N,Y]);all_goals simp[bF,aX,aY,aW]
     all_goals simp[wR,dR.e]
    ·have Y:(30:Int)<M.length:=Ω
     rw[if_neg N]at f;subst f;simp;(repeat' first|refine ak ?_|refine aI K ?_|refine aJ K ?_|refine aI P ?_|refine aJ P ?_|simp[N,Y]);all_goals simp[bF,aX,aY,aW]
     all_goals simp[wR,sN,dR.e]
   ·obtain⟨x,g,o⟩:=dX hi;have fU:=aQ x (ev g);have VQ:=c.1;have p:bK ar 138 [.slice 5 .no (b.map az.e),c7 x] (gO (mgu b (iv x))):=ar6 ae fU;simp only[gO]at p;cases hu:mgu b (iv x)with
    |none=>have j:=c.skip g fun r=>NL hu;rw[hu]at p;simp only[oU,ny]at p;clear c g f;exact hS
    |some y=>
     have Q:=ae.mgu (DD fU) hu;rw[hu]at p;simp only[mv,um]at p;have t:=abx Q X;have q:=aby Q BI oo BC;have H:=asb ae Q;simp only[gC]at t;simp only[jX]at q;by_cases A:gG y k []=none\/gH y a []=none
     ·have j:=c.skip g fun r=>NK hu A;clear c g f hu;rcases A with e|e
      ·rw[e]at t;simp only[oU,ny]at t;exact hS
      ·rw[e]at q;simp only[oU,ny]at q;cases (gG y k []).isSome
       ·simp[hi,o];((repeat' first|refine ak ?_|refine aI p ?_|refine aJ p ?_|refine aI t ?_|refine aJ t ?_|refine aI q ?_|refine aJ q ?_|simp[hi,o]|((first|apply bV|apply b0|apply bZ)<;>intro h<;>try simp at h))<;>(try exact cA));all_goals exact bQ.rng L hi j bU
       ·simp[hi,o];((repeat' first|refine ak ?_|refine aI p ?_|refine aJ p ?_|refine aI t ?_|refine aJ t ?_|refine aI q ?_|refine aJ q ?_|simp[hi,o]|((first|apply bV|apply b0|apply bZ)<;>intro h<;>try simp at h))<;>(try exact cA));all_goals exact bQ.rng L hi j bU
     ·have ai:(gG y k []).isSome=true:=by cases e:gG y k []with|none=>exact absurd (.inl e) A|some _=>rfl
      have aC:(gH y a []).isSome=true:=by cases e:gH y a []with|none=>exact absurd (.inr e) A|some _=>rfl
      rw[ai]at t;rw[aC]at q;by_cases B:hk b y=[]
      ·have ag:=c.stop g fun r=>NJ hu A B;rw[ag]at f;simp only at f;subst f;rw[B]at H;simp only[nx]at H;clear c g hu A;simp[hi,o];((repeat' first|refine ak ?_|refine aI p ?_|refine aJ p ?_|refine aI t ?_|refine aJ t ?_|refine aI q ?_|refine aJ q ?_|refine aI H ?_|refine aJ H ?_|simp[hi,o]|((first|apply bV|apply b0|apply bZ)<;>intro h<;>try simp at h))<;>(try exact cA));all_goals simp[bF,aX,aY,aW]
       all_goals simp[wR,sN,dR.e]
      ·have j:=c.snoc g (IT (b:=b) Q) fun r=>NM hu A B;have qD:¬((hk b y).length:Int)=0:=by have:(hk b y).length≠0:=fun h=>B (List.length_eq_zero_iff.1 h);omega
       have xL:(((hk b y).length:Int)==0)=false:=by simp[B]
       have U:bK ar 139 [.slice 5 .no (b.map az.e),.slice 5 .no (y.map az.e)] (c7 (hk b y)):=H;clear c g hu A f H;generalize hk b y=z at U j qD xL B;simp only[c7]at U;simp[hi,o];(repeat' first|refine ak ?_|refine aI p ?_|refine aJ p ?_|refine aI t ?_|refine aJ t ?_|refine aI q ?_|refine aJ q ?_|refine aI U ?_|refine aJ U ?_|simp[hi,o,qD,xL,B]);all_goals try refine⟨by unfold lim;omega,?_⟩
       all_goals(repeat' first|refine ak ?_|simp)
       all_goals exact bQ.rng (L++[z]) hi j ⟨by simp[fresh,ay,au,bX,inObs,Pv.look,wq,c7],dH py,dK pN,Ψ⟩
@[simp]def at1(neg:Bool)(x y:bR):jm neg (some [false,false]) x.e y.e=some (True,.bool (if neg then !decide (x=y)else decide (x=y))):=by
 have h:(x.v==y.v&&(x.k==y.k&&true))=decide (x=y):=by rw[rO];simp only[Bool.and_true,cD,dW,e3];cases x;cases y;simp
 rw[<-h];rfl
@[simp]def at2(neg:Bool)(x y:bq):jm neg (some [false,true]) x.e y.e=some (True,.bool (if neg then !decide (x=y)else decide (x=y))):=by
 have h:(x.v==y.v&&(x.s==y.s&&true))=decide (x=y):=by rw[rO];simp only[Bool.and_true,cD,dW,e3];cases x;cases y;simp
 rw[<-h];rfl
def ast(x y:List az)(h:x.length<=1000000):bK ar 142 [c7 x,c7 y] (.bool (decide (x=y))):=abF x y h
def asY(a c:dR)(L:a.b.length<=1000000)(N:∀x∈a.d,x.length<=1000000):bK ar 87 [a.e,c.e] (.bool (decide (a=c))):=by
 obtain⟨n,b,d,k,m⟩:=a;obtain⟨n',cf,t,u,s⟩:=c;simp only at L N;generalize bg:decide ((⟨n,b,d,k,m⟩:dR)=⟨n',cf,t,u,s⟩)=R;simp only[dR.mk.injEq,dR.e]at bg⊢;by_cases G:n=n';rotate_left
 ·have o:R=false:=by rw[<-bg];simp[G]
  have V:(n !=n')=true:=by simp[G]
  rw[o];clear bg o;refine br a7 Tryz.func87 Cq fun v=>?_;unfold yQ;exact ca
 subst G;have e:=abF b cf L;by_cases H:b=cf;rotate_left
 ·have o:R=false:=by rw[<-bg];simp[H]
  rw[l0 H]at e;rw[o];clear bg o;refine br a7 Tryz.func87 Cq fun v=>?_;unfold yQ;have F:=e;exact ca
 subst H;rw[lL rfl]at e;by_cases E:d.length=t.length;rotate_left
 ·have o:R=false:=by rw[<-bg];simp only[hb];rintro⟨_,_,rfl,_⟩;exact E rfl
  have W:((d.length:Int) !=t.length)=true:=by simp;omega
  rw[o];clear bg o;refine br a7 Tryz.func87 Cq fun v=>?_;unfold yQ;have F:=e;exact ca
 by_cases A:k.length=u.length;rotate_left
 ·have o:R=false:=by rw[<-bg];simp only[hb];rintro⟨_,_,_,rfl,_⟩;exact A rfl
  have P:((k.length:Int) !=u.length)=true:=by simp;omega
  rw[o];clear bg o;refine br a7 Tryz.func87 Cq fun v=>?_;unfold yQ;have F:=e;exact ca
 by_cases D:m.length=s.length;rotate_left
 ·have o:R=false:=by rw[<-bg];simp only[hb];rintro⟨_,_,_,_,rfl⟩;exact D rfl
  have O:((m.length:Int) !=s.length)=true:=by simp;omega
  rw[o];clear bg o;refine br a7 Tryz.func87 Cq fun v=>?_;unfold yQ;have F:=e;exact ca
 have K:d≠t->R=false:=fun h=>by rw[<-bg];simp[h]
 have J:k≠u->R=false:=fun h=>by rw[<-bg];simp[h]
 have Q:m≠s->R=false:=fun h=>by rw[<-bg];simp[h]
 refine br a7 Tryz.func87 Cq fun v=>?_;unfold yQ;have X:t.length<=68719476736:=by simp[eV,eN,eS,lim]at v;omega
 have U:u.length<=68719476736:=by simp[eV,eN,eS,lim]at v;omega
 have S:s.length<=68719476736:=by simp[eV,eN,eS,lim]at v;omega
 clear v;simp;(repeat' first|refine ak ?_|refine aI e ?_|refine aJ e ?_|simp[E,A,D]);have w:=K;refine eH [2,3,50] (fun i (_:Unit)=>[(51,.int .i64 i)]) t.length (s5 d t) () bU (fun k M=>Ω) (fun _ j _=>?_) (fun i _ hi j _=>?_);rotate_left
 ·obtain⟨x,f⟩:∃x,d[i]? =some x:=⟨_,cl Ω⟩;obtain⟨y,g⟩:∃y,t[i]? =some y:=⟨_,cl hi⟩;have l:i<d.length:=Ω
  have r:∀h,(d[i]'h)=x:=fun h=>by rw[cl l]at f;exact ft f
  have p:∀h,(t[i]'h)=y:=fun h=>by rw[cl hi]at g;exact ft g
  have e:=ast x y (N x (ev f));by_cases q:x=y
  ·subst q;have B:=j.step f g;rw[lL rfl]at e;clear j f g;simp[hi,l,r,p,-jm];(repeat' first|refine ak ?_|refine aI e ?_|refine aJ e ?_|simp[r,p,hi,l,-jm]);all_goals exact bQ.rng () hi B bU
  ·rw[w (fun h=>q (by rw[h]at f;rw[f]at g;exact ft g))];rw[l0 q]at e;clear j f g;simp[hi,l,r,p,-jm];(repeat' first|refine ak ?_|refine aI e ?_|refine aJ e ?_|simp[r,p,hi,l,q,-jm]);all_goals simp[bF,aX,aY,aW]
 have z:=j.fin E;subst z;clear j w K E;simp;(repeat' first|refine ak ?_|simp[A]);have w:=J;refine eH [2,3,69] (fun i (_:Unit)=>[(70,.int .i64 i)]) u.length (s5 k u) () bU (fun k M=>Ω) (fun _ j _=>?_) (fun i _ hi j _=>?_);rotate_left
 ·obtain⟨x,f⟩:∃x,k[i]? =some x:=⟨_,cl Ω⟩;obtain⟨y,g⟩:∃y,u[i]? =some y:=⟨_,cl hi⟩;have l:i<k.length:=Ω
  have r:∀h,(k[i]'h)=x:=fun h=>by rw[cl l]at f;exact ft f
  have p:∀h,(u[i]'h)=y:=fun h=>by rw[cl hi]at g;exact ft g
  have e:=True.intro;by_cases q:x=y
  ·subst q;have B:=j.step f g;skip;clear j f g;simp[hi,l,r,p,-jm];(repeat' first|refine ak ?_|refine aI e ?_|refine aJ e ?_|simp[r,p,hi,l,-jm]);all_goals exact bQ.rng () hi B bU
  ·rw[w (fun h=>q (by rw[h]at f;rw[f]at g;exact ft g))];skip;clear j f g;simp[hi,l,r,p,-jm];(repeat' first|refine ak ?_|refine aI e ?_|refine aJ e ?_|simp[r,p,hi,l,q,-jm]);all_goals simp[bF,aX,aY,aW]
 have z:=j.fin A;subst z;clear j w J A;simp;(repeat' first|refine ak ?_|simp[D]);have w:=Q;refine eH [2,3,87] (fun i (_:Unit)=>[(88,.int .i64 i)]) s.length (s5 m s) () bU (fun k M=>Ω) (fun _ j _=>?_) (fun i _ hi j _=>?_);rotate_left
 ·obtain⟨x,f⟩:∃x,m[i]? =some x:=⟨_,cl Ω⟩;obtain⟨y,g⟩:∃y,s[i]? =some y:=⟨_,cl hi⟩;have l:i<m.length:=Ω
  have r:∀h,(m[i]'h)=x:=fun h=>by rw[cl l]at f;exact ft f
  have p:∀h,(s[i]'h)=y:=fun h=>by rw[cl hi]at g;exact ft g
  have e:=True.intro;by_cases q:x=y
  ·subst q;have B:=j.step f g;skip;clear j f g;simp[hi,l,r,p,-jm];(repeat' first|refine ak ?_|refine aI e ?_|refine aJ e ?_|simp[r,p,hi,l,-jm]);all_goals exact bQ.rng () hi B bU
  ·rw[w (fun h=>q (by rw[h]at f;rw[f]at g;exact ft g))];skip;clear j f g;simp[hi,l,r,p,-jm];(repeat' first|refine ak ?_|refine aI e ?_|refine aJ e ?_|simp[r,p,hi,l,q,-jm]);all_goals simp[bF,aX,aY,aW]
 have z:=j.fin D;subst z;have o:R=true:=by rw[<-bg];simp
 rw[o];exact ca
def ja.e(r:ja):ah:= .agg [.int .i64 r.n,.slice 5 .no (r.b.map dm.e),.slice 1 .no (r.d.map gz),.slice 2 .no (r.k.map bR.e),.slice 2 .no (r.m.map bq.e)]
def PY(s:dR):s.r.e=s.e:=by simp only[dR.r,ja.e,dR.e,zX,Lr]
def asf(x:List dm):bK ar 82 [gz x] (.bool (hs x)):=Qt x
open Classical in
def ase(r:ja)(L:iH r.m->F4 r.m):bK ar 32 [r.e] (.bool (decide (tX r))):=by
 generalize bg:decide (tX r)=R;have f:¬Pk r->R=false:=fun h=>by rw[<-bg,hb];exact fun b9=>h b9.raw
 obtain⟨n,b,d,k,m⟩:=r;simp only[ja.e]at L⊢;by_cases g1:n<0
 ·rw[f fun h=>by have:=h.n.1;simp only at this;omega];refine br a7 Tryz.func32 z6 fun g=>?_;unfold xk;exact ca
 by_cases g2:100000<n
 ·rw[f fun h=>by have:=h.n.2;simp only at this;omega];refine br a7 Tryz.func32 z6 fun g=>?_;unfold xk;exact ca
 have q:bK ar 82 [.slice 5 .no (b.map dm.e)] (.bool (hs b)):=Qt b;cases g3:hs b
 ·rw[f fun h=>by obtain⟨s,l,S,_⟩:=h.b;have:=sG.2 (yr.2 ⟨s,l,S⟩);simp only at this;rw[g3]at this;cases this]
  rw[g3]at q;refine br a7 Tryz.func32 z6 fun g=>?_;unfold xk;exact ca
 rw[g3]at q;obtain⟨s,rfl,X⟩:=yr.1 (sG.1 g3);clear g3;rw[zX]at q⊢;have B:=abt k;by_cases g4:iR k;rotate_left
 ·rw[f fun h=>g4 h.k];rw[l0 g4]at B;refine br a7 Tryz.func32 z6 fun g=>?_;unfold xk;exact ca
 rw[lL g4]at B;have A:=abv m;by_cases g5:iH m;rotate_left
 ·rw[f fun h=>g5 h.m];rw[l0 g5]at A;refine br a7 Tryz.func32 z6 fun g=>?_;unfold xk;exact ca
 rw[lL g5]at A;have u:=abA X (n:=n) Ω;cases g6:s.all (lP n)
 ·rw[f fun h=>by obtain⟨P,l,_,O⟩:=h.b;have N:=xg l;subst N;rw[xj.2 O]at g6;cases g6]
  rw[g6]at u;refine br a7 Tryz.func32 z6 fun g=>?_;unfold xk;have qK:=u;exact ca
 rw[g6]at u;have cP:=xj.1 g6;clear g6;have Eo:=L g5;have k2:=Eo.len g5;refine br a7 Tryz.func32 z6 fun g=>?_;unfold xk;have rh:d.length<=68719476736:=by simp[eV,eN,eS,lim]at g;omega
 have iP:=xY g4;clear g L;simp;(repeat' first|refine ak ?_|refine aI q ?_|refine aJ q ?_|refine aI B ?_|refine aJ B ?_|refine aI A ?_|refine aJ A ?_|refine aI u ?_|refine aJ u ?_|simp[g1,g2]);refine eH [1,46,47] (fun i (_:Unit)=>[(48,.int .i64 i)]) d.length (tD (kv n) d) () bU (fun k b Y=>Ω) (fun _ a _=>?_) (fun i _ hi a _=>?_);rotate_left
 ·obtain⟨x,c,w⟩:=dX hi;have z:=ev c;have M:=asf x;cases e:hs x
  ·rw[f fun h=>by obtain⟨P,l,S,_⟩:=h.d x z;rw[sG.2 (yr.2 ⟨P,l,S⟩)]at e;cases e]
   rw[e]at M;clear a c z;exact ca
  ·rw[e]at M;obtain⟨y,rfl,Z⟩:=yr.1 (sG.1 e);clear e;rw[Lq]at M;have U:bK ar 85 [c7 y,.int .i64 n] (.bool (y.all (lP n))):=abA Z (n:=n) Ω;have avn:∀h,gz (d[i]'h)=c7 y:=fun h=>by rw[w h,Lq]
   cases p:y.all (lP n)
   ·rw[f fun h=>by obtain⟨P,l,_,O⟩:=h.d _ z;have N:=xg l;subst N;rw[xj.2 O]at p;cases p]
    rw[p]at U;clear a c z w;exact ca
   ·rw[p]at U;have W:=a.step c ⟨y,rfl,Z,xj.1 p⟩;clear a c z w;exact hS
 obtain⟨D,rfl,DY,Mk⟩:=Ui a.fin;clear a;simp only[Lr];simp;(repeat' first|refine ak ?_|simp);refine eH [1,64,65] (fun i (_:Unit)=>[(66,.int .i64 i)]) k.length (tD (fun x=>x.v<n) k) () bU (fun k b Y=>Ω) (fun _ a _=>?_) (fun i _ hi a _=>?_);rotate_left
 ·obtain⟨x,c,w⟩:=dX hi;by_cases e:x.v<n
  ·have F:¬n<=x.v:=Ω
   have W:=a.step c e;clear a c;exact hS
  ·have F:n<=x.v:=Ω
   rw[f fun h=>e (h.kb x (ev c))];clear a c;exact ca
 have E:=a.fin;clear a;simp;(repeat' first|refine ak ?_|simp);have zo:=E;refine eH [1,77,78] (fun i (_:Unit)=>[(79,.int .i64 i)]) m.length (tD (fun x=>x.v<n) m) () bU (fun k b Y=>Ω) (fun _ a _=>?_) (fun i _ hi a _=>?_);rotate_left
 ·obtain⟨x,c,w⟩:=dX hi;by_cases e:x.v<n
  ·have F:¬n<=x.v:=Ω
   have W:=a.step c e;clear a c;exact hS
  ·have F:n<=x.v:=Ω
   rw[f fun h=>e (h.mb x (ev c))];clear a c;exact ca
 have E:=a.fin;clear a;simp;(repeat' first|refine ak ?_|simp);have xN:=E;have dd:Az ⟨n,s,D,k,m⟩:=⟨by simp only;omega,X,DY,g4,g5,cP,Mk,zo,xN⟩;have V:=aaV dd;obtain⟨G,oo,a1⟩:=Eo;have j:=as0 dd oo a1;have o:tX ⟨n,s.map az.b,D.map fun x=>x.map az.b,k,m⟩↔nr ⟨n,s,D,k,m⟩=some ⟨n,s,D,k,m⟩:=V;clear V f;simp only[wR]at j;cases K:nr ⟨n,s,D,k,m⟩with
 |none=>
  rw[K]at j o;have v:R=false:=by rw[<-bg,hb,o];simp
  rw[v];simp only[oU,ny,dR.e]at j;clear bg v o;exact ca
 |some t=>
  have J:=aqK dd K;rw[K]at j o;have H:=asY t ⟨n,s,D,k,m⟩ J.1.1.b.len (fun x c=>(J.1.1.d x c).len);have v:R=decide (t=⟨n,s,D,k,m⟩):=by rw[<-bg,decide_eq_decide,o];simp
  rw[v];simp only[mv,um]at j;simp only[dR.e]at j H;clear bg v o J;generalize decide (t=(⟨n,s,D,k,m⟩:dR))=Q at H⊢;obtain⟨hD,abe,abf,tk,tm⟩:=t;simp only at j H;exact ca
def xo:C:=(aa [c6 1 0,bs 2 false] (.seq (aa (aK 11 0 1 1::aw 12 1 11::ec 13 69 [.t 12,(gu 0),(gu 100000)]::cH 14 13::I 15 14::ax 15 false (aK 16 1 1 1)::ax 15 false (aw 17 1 16)::ax 15 false (cI 18 70 17)::ax 15 false (cH 19 18)::dy 20 15 19::I 21 20::ax 21 false (aK 22 2 1 1)::ax 21 false (aw 23 1 22)::ax 21 false (cI 24 71 23)::ax 21 false (cH 25 24)::dy 26 21 25::I 27 26::ax 27 false (aK 28 3 1 1)::ax 27 false (aw 29 1 28)::ax 27 false (cI 30 72 29)::ax 27 false (cH 31 30)::dy 32 27 31::I 33 32::ax 33 false (aK 34 4 1 1)::ax 33 false (aw 35 1 34)::ax 33 false (cI 36 73 35)::ax 33 false (cH 37 36)::dy 38 33 37::I 39 38::ax 39 false (aK 40 1 1 1)::ax 39 false (aw 41 1 40)::ax 39 false (aK 42 0 1 1)::ax 39 false (aw 43 1 42)::ax 39 false (ch 44 74 41 43)::ax 39 false (cH 45 44)::dy 46 39 45::[]) (aU 46 (aa [bs 2 false] .ret) .skip)) (.seq (aa [aK 47 2 1 1,aw 48 1 47,cd 49 48,bT 50 0] (fo 51 50 49 (.seq (.block 1 (aa [cq 52 1 48 50,aw 53 1 52,I 4 53] (aa [I 54 4,aK 55 0 1 1,aw 56 1 55,ch 57 74 54 56,cH 58 57] (aU 58 (aa [bs 2 false] .ret) .skip)))) (.region [aS 59 .add 50 1,I 50 59])))) (.seq (aa [aK 60 3 1 1,aw 61 1 60,cd 62 61,bT 63 0] (.block 2 (.loop (aa [bp 64 .lss 63 62] (.seq (aU 64 .skip (.exit 2)) (.seq (.block 3 (aa [cq 65 2 61 63,bh 66 2 65,cU (.alloc 6 none (.agg [.int .i64 0,.int .i64 0])),b1 2 6 66] (aa [aK 67 0 1 6,aw 68 1 67,aK 69 0 1 1,aw 70 1 69,bp 71 .geq 68 70] (aU 71 (aa [bs 2 false] .ret) .skip)))) (.region [aS 72 .add 63 1,I 63 72]))))))) (.seq (aa [aK 73 4 1 1,aw 74 1 73,cd 75 74,bT 76 0] (.block 4 (.loop (aa [bp 77 .lss 76 75] (.seq (aU 77 .skip (.exit 4)) (.seq (.block 5 (aa [cq 78 2 74 76,bh 79 2 78,cU (.alloc 8 none (.agg [.int .i64 0,.str []])),b1 2 8 79] (aa [aK 80 0 1 8,aw 81 1 80,aK 82 0 1 1,aw 83 1 82,bp 84 .geq 81 83] (aU 84 (aa [bs 2 false] .ret) .skip)))) (.region [aS 85 .add 76 1,I 76 85]))))))) (aa [bh 87 5 1,cI 88 75 87,I 86 88,dr 89 0 86,dr 90 1 86,dV 9 qL,b1 5 9 89,I 10 90] (aa [I 91 10,I 92 91,ax 92 true (bh 93 5 9),ax 92 true (bh 94 5 1),ax 92 true (ch 95 76 93 94),ei 96 92 95,I 2 96] .ret)))))))
def G2:C:=(aa [c6 1 0,dV 2 qL,bs 3 false] (aa [aK 20 1 1 1,aw 21 1 20,aK 22 3 1 1,aw 23 1 22,ch 24 123 21 23,I 19 24,dr 25 0 19,dr 26 1 19,I 4 25,I 5 26] (aa [aK 28 1 1 1,aw 29 1 28,aK 30 4 1 1,aw 31 1 30,ch 32 124 29 31,I 27 32,dr 33 0 27,dr 34 1 27,I 6 33,I 7 34] (.seq (aa [I 35 5,cH 36 35,I 37 36,ck 37 false 38 7,ax 37 false (cH 39 38),dy 40 37 39] (aU 40 (aa [lJ 41 qL [],b1 5 2 41,bs 3 false] .ret) .skip)) (aa [aK 42 0 1 1,aw 43 1 42,aK 44 1 1 1,aw 45 1 44,I 46 4,lJ 47 qL [(0,1,(.t 43)),(1,1,(.t 45)),(3,1,(.t 46))],dV 8 qL,b1 5 8 47] (.seq (aa [I 48 6,cd 49 48,bT 50 0] (fo 51 50 49 (.seq (.block 1 (aa [cq 52 2 48 50,bh 53 2 52,cU (.alloc 10 none (.agg [.int .i64 0,.str []])),b1 2 10 53] (aa [I 55 4,aK 56 0 1 10,aw 57 1 56,cI 58 40 57,ec 59 125 [.t 55,.t 58,(gu 2)],I 54 59,dr 60 0 54,dr 61 1 54,I 11 60,I 12 61] (aa [I 62 12] (aU 62 (.region [aK 63 4 1 8,aw 64 1 63,bh 65 2 10,eE 66 2 82 [.t 65],hv 67 2 82 64 66,aK 68 4 1 8,b1 1 68 67]) .skip))))) (.region [aS 69 .add 50 1,I 50 69])))) (aa [eE 70 1 30 [],I 13 70] (.seq (aa [aK 71 2 1 1,aw 72 1 71,cd 73 72,bT 74 0] (.block 2 (.loop (aa [bp 75 .lss 74 73] (.seq (aU 75 .skip (.exit 2)) (.seq (.block 3 (aa [cq 76 1 72 74,aw 77 1 76,I 15 77] (aa [aK 79 1 1 1,aw 80 1 79,I 81 15,ch 82 126 80 81,I 78 82,dr 83 0 78,dr 84 1 78,I 16 83,I 17 84] (.seq (aa [I 85 17] (aU 85 (aa [I 87 16,aK 88 3 1 8,aw 89 1 88,ch 90 123 87 89,I 86 90,dr 91 0 86,dr 92 1 86,I 5 92] (.region [I 94 16,aK 95 4 1 8,aw 96 1 95,ch 97 124 94 96,I 93 97,dr 98 0 93,dr 99 1 93,I 7 99])) .skip)) (.seq (aa [I 100 17,cH 101 100,I 102 101,ck 102 false 103 5,ax 102 false (cH 104 103),dy 105 102 104,I 106 105,ck 106 false 107 7,ax 106 false (cH 108 107),dy 109 106 108] (aU 109 (aa [bs 5 true] (aa [bs 7 true] (.exit 3))) .skip)) (aa [aK 110 1 1 1,aw 111 1 110,I 112 16,ch 113 127 111 112,I 18 113] (.seq (aa [I 114 18,cd 115 114,aS 116 .eql 115 0] (aU 116 (aa [lJ 117 qL [],b1 5 2 117,bs 3 false] .ret) .skip)) (.region [I 118 13,I 119 18,eE 120 1 30 [.t 119],hv 121 1 30 118 120,I 13 121])))))))) (.region [aS 122 .add 74 1,I 74 122]))))))) (aa [I 123 13,cI 124 128 123,aK 125 2 1 8,b1 1 125 124] (.seq (.fz true 8 (.drawn true 131 [bH 126 (.loadZ true 5 (.t 8)),aK 127 2 1 8,bH 128 (.loadZ false 1 (.t 127)),cd 129 128,aS 130 .leq 129 30,b1 5 2 126,I 3 130])) .ret))))))))))
def yS:C:=(aa [c6 2 0,c6 3 1,bs 4 false] (.seq (aa (aK 11 0 1 2::aw 12 1 11::aK 13 0 1 3::aw 14 1 13::bp 15 .neq 12 14::I 16 15::ax 16 false (aK 17 1 1 2)::ax 16 false (aw 18 1 17)::ax 16 false (aK 19 1 1 3)::ax 16 false (aw 20 1 19)::ax 16 false (ch 21 129 18 20)::ax 16 false (aS 22 .neq 21 0)::dy 23 16 22::I 24 23::ax 24 false (aK 25 2 1 2)::ax 24 false (aw 26 1 25)::ax 24 false (cd 27 26)::ax 24 false (aK 28 2 1 3)::ax 24 false (aw 29 1 28)::ax 24 false (cd 30 29)::ax 24 false (bp 31 .neq 27 30)::dy 32 24 31::I 33 32::ax 33 false (aK 34 3 1 2)::ax 33 false (aw 35 1 34)::ax 33 false (cd 36 35)::ax 33 false (aK 37 3 1 3)::ax 33 false (aw 38 1 37)::ax 33 false (cd 39 38)::ax 33 false (bp 40 .neq 36 39)::dy 41 33 40::I 42 41::ax 42 false (aK 43 4 1 2)::ax 42 false (aw 44 1 43)::ax 42 false (cd 45 44)::ax 42 false (aK 46 4 1 3)::ax 42 false (aw 47 1 46)::ax 42 false (cd 48 47)::ax 42 false (bp 49 .neq 45 48)::dy 50 42 49::[]) (aU 50 (aa [bs 4 false] .ret) .skip)) (.seq (aa [aK 51 2 1 2,aw 52 1 51,cd 53 52,bT 54 0] (fo 55 54 53 (.seq (.block 1 (aa [I 56 54,cq 57 1 52 54,aw 58 1 57,I 5 56,I 6 58] (aa [I 59 6,aK 60 2 1 3,aw 61 1 60,I 62 5,cq 63 1 61 62,aw 64 1 63,ch 65 129 59 64,aS 66 .neq 65 0] (aU 66 (aa [bs 4 false] .ret) .skip)))) (.region [aS 67 .add 54 1,I 54 67])))) (.seq (aa [aK 68 3 1 2,aw 69 1 68,cd 70 69,bT 71 0] (.block 2 (.loop (aa [bp 72 .lss 71 70] (.seq (aU 72 .skip (.exit 2)) (.seq (.block 3 (aa [I 73 71,cq 74 2 69 71,bh 75 2 74,cU (.alloc 8 none (.agg [.int .i64 0,.int .i64 0])),I 7 73,b1 2 8 75] (.seq (.drawn true 100 [bh 76 2 8,aK 77 3 1 3,aw 78 1 77,I 79 7,cq 80 2 78 79,bh 81 2 80,bH 82 (.beq true (some [false,false]) (.t 76) (.t 81))]) (aU 82 (aa [bs 4 false] .ret) .skip)))) (.region [aS 83 .add 71 1,I 71 83]))))))) (.seq (aa [aK 84 4 1 2,aw 85 1 84,cd 86 85,bT 87 0] (.block 4 (.loop (aa [bp 88 .lss 87 86] (.seq (aU 88 .skip (.exit 4)) (.seq (.block 5 (aa [I 89 87,cq 90 2 85 87,bh 91 2 90,cU (.alloc 10 none (.agg [.int .i64 0,.str []])),I 9 89,b1 2 10 91] (.seq (.drawn true 100 [bh 92 2 10,aK 93 4 1 3,aw 94 1 93,I 95 9,cq 96 2 94 95,bh 97 2 96,bH 98 (.beq true (some [false,true]) (.t 92) (.t 97))]) (aU 98 (aa [bs 4 false] .ret) .skip)))) (.region [aS 99 .add 87 1,I 87 99]))))))) (aa [bs 4 true] .ret))))))
def Aa:b4 aT xo [.tmp 2] 1 Tryz.f26=true:=an
def OI:b4 aT G2 [.cell 2 true 5,.tmp 3] 1 Tryz.f75=true:=an
def Cs:b4 aT yS [.tmp 4] 2 Tryz.f76=true:=an
noncomputable def Pz(s:dR):ah:= .tuple [(CO s).e,.bool (nr s).isSome]
def asJ{k:List bR}(a:iR k)(v:Int):bK ar 125 [.slice 2 .no (k.map bR.e),(T.var v).e,.int .i64 2] (p8 k (lf k (.var v) 2)):=abS k (by have:=xY a;omega) a.asc (.var v) 2
def abQ{b y:List az}(ae:e7 b)(a:e7 y):bK ar 127 [.slice 5 .no (b.map az.e),.slice 5 .no (y.map az.e)] (c7 (hk b y)):=asE ae a
def abP{b x:List az}(ae:e7 b)(a:e7 x):bK ar 126 [.slice 5 .no (b.map az.e),c7 x] (gO (mgu b (iv x))):=asD b x ae.sol ae.fits a.len
def NX(a:List bq):ah:=match a with
 |[]=>.slice 2 .nil []
 |_::_=>.slice 2 (.own (.loc 5)) (a.map bq.e)
def NW(a:List bq):List (aB×er):=match a with
 |[]=>[]
 |_::_=>[(.loc 5,⟨a.length,82,2,none⟩)]
def NV(a:List bq):Nat:=match a with
 |[]=>3
 |_::_=>6
@[simp]def awD:NX []= .slice 2 .nil []:=rfl
@[simp]def awC(x:bq)(a:List bq):NX (x::a)= .slice 2 (.own (.loc 5)) (x.e::a.map bq.e):=rfl
@[simp]def awB:NW []=[]:=rfl
@[simp]def awA(x:bq)(a:List bq):NW (x::a)=[(.loc 5,⟨a.length+1,82,2,none⟩)]:=rfl
@[simp]def awz:NV []=3:=rfl
@[simp]def awy(x:bq)(a:List bq):NV (x::a)=6:=rfl
def asN{s:dR}(h:Az s){G:List (List b7)}(oo:G.length<=687000)(a1:oL G s.m):bK ar 75 [s.e] (Pz s):=by
 unfold Pz;generalize c:nr s=O;generalize du:CO s=SS;have F:=Qy h.b h.k;have E:=Qz h.b h.m oo a1;have K:=fun k=>Jx (acc:=[]) (a:=k) h.b h.k.at' ⟨Ψ,Ψ⟩;have J:=fun m=>Jy (acc:=[]) (a:=m) h.b h.m.at' ⟨Ψ,by simp[iB]⟩;have N:=fun m=>Pm (acc:=[]) (a:=m) (s:=s.b) a1 (fun x g=>by simp at g);have ae:=h.b;have aQ:=h.d;clear h a1;unfold nr at c;unfold CO at du;obtain⟨n,b,d,Y,m0⟩:=s;simp only at F E K J N ae aQ c du;have ed:=ae.len;simp only[dR.e];generalize gG b Y []=ok at F c du K;generalize gH b m0 []=om at E c du J N;cases ok with
 |none=>
  simp only at c du;subst c;subst du;simp only[gC]at F;simp only[jX]at E;clear K J N;refine br a7 Tryz.func75 OI fun Z=>?_;unfold G2;simp;(repeat' first|refine ak ?_|refine aI F ?_|refine aJ F ?_|refine aI E ?_|refine aJ E ?_|simp);all_goals simp[bF,aX,aY,aW]
  all_goals simp[sN,dR.e]
 |some k=>
  simp only at c du;cases om with
  |none=>
   simp only at c du;subst c;subst du;simp only[gC]at F;simp only[jX]at E;clear K J N;refine br a7 Tryz.func75 OI fun Z=>?_;unfold G2;simp;(repeat' first|refine ak ?_|refine aI F ?_|refine aJ F ?_|refine aI E ?_|refine aJ E ?_|simp);all_goals simp[bF,aX,aY,aW]
   all_goals simp[sN,dR.e]
  |some m=>
   simp only at c du;have X:=K k rfl;have zw:=J m rfl;have zk:=N m rfl;have k2:m.length<=68719470000:=by have:=E8 zw zk;omega
   have BI:=Yj (k:=k) zw;have BC:=abc (k:=k) zk;simp only[gC,mv,um]at F;simp only[jX,mv,um]at E;clear K J N;refine br a7 Tryz.func75 OI fun Z=>?_;unfold G2;have rh:d.length<=68719476736:=by simp[eV,eN,eS,lim]at Z;omega
   clear Z;simp;(repeat' first|refine ak ?_|refine aI F ?_|refine aJ F ?_|refine aI E ?_|refine aJ E ?_|simp);refine gb (fun i (a:List bq)=>⟨[(1,.ptr (.loc 0) 0),(2,.ptr (.loc 1) 0),(4,.slice 2 .no (k.map bR.e)),(8,.ptr (.loc 2) 0),(48,.slice 2 .no (m.map bq.e)),(49,.int .i64 m.length),(50,.int .i64 i)],[(.loc 0,[.int .i64 n,.slice 5 .no (b.map az.e),.slice 1 .no (d.map c7),.slice 2 .no (Y.map bR.e),.slice 2 .no (m0.map bq.e)]),(.loc 1,[.int .i64 0,.slice 5 .nil [],.slice 1 .nil [],.slice 2 .nil [],.slice 2 .nil []]),(.loc 2,[.int .i64 n,.slice 5 .no (b.map az.e),.slice 1 .nil [],.slice 2 .no (k.map bR.e),NX a])],NW a,NV a,[]⟩) m.length (uV k m) [] bU (by simp[uV]) (fun a f _=>?_) (fun i a hi f _=>?_);rotate_left
   ·obtain⟨x,g,p⟩:=dX hi;have tg:a.length<=68719470000:=by
     have:a.length<=(m.take i).length:=by rw[f];exact List.length_filter_le _ _
     simp at this;omega
    have q:=f.step g;have A:=asJ X x.v;have bA:(lf k (.var x.v) 2).isSome=lD k x:=acY X x.v;simp only[p8,bA]at A;clear bA;generalize (lf k (.var x.v) 2).getD k=kz at A;cases aH:lD k x
    ·rw[aH]at q A;simp only[hI,if_false]at q;clear f g aH;cases a with
     |nil=>simp[hi,p];(repeat' first|refine ak ?_|refine aI (kQ _) ?_|refine aJ (kQ _) ?_|refine aI A ?_|refine aJ A ?_|simp[hi,p]);all_goals exact bQ.rng [] hi q bU
     |cons y ys=>simp[hi,p];(repeat' first|refine ak ?_|refine aI (kQ _) ?_|refine aJ (kQ _) ?_|refine aI A ?_|refine aJ A ?_|simp[hi,p]);all_goals exact bQ.rng (y::ys) hi q bU
    ·rw[aH]at q A;simp only[if_true]at q;clear f g aH;cases a with
     |nil=>
      simp[hi,p];(repeat' first|refine ak ?_|refine aI (kQ _) ?_|refine aJ (kQ _) ?_|refine aI A ?_|refine aJ A ?_|simp[hi,p]);all_goals try refine⟨by unfold lim;omega,?_⟩
      all_goals(repeat' first|refine ak ?_|simp)
      all_goals exact bQ.rng [x] hi q bU
     |cons y ys=>
      simp only[ik]at tg;simp[hi,p];(repeat' first|refine ak ?_|refine aI (kQ _) ?_|refine aJ (kQ _) ?_|refine aI A ?_|refine aJ A ?_|simp[hi,p]);all_goals try refine⟨by unfold lim;omega,?_⟩
      all_goals(repeat' first|refine ak ?_|simp)
      all_goals exact bQ.rng (y::ys++[x]) hi q ⟨by simp[fresh,ay,au,bX,inObs,Pv.look,B6],dH (by simp[fresh,ay,au,bX,inObs,Pv.look,B6]),dK (by simp[fresh,ay,au,dD,inObs,Pv.look,B6]),Ψ⟩
   rw[uV,lZ]at f;rw[<-f]at BI BC c du;clear f zw zk;cases a with
   |nil=>
    simp;(repeat' first|refine ak ?_|simp);refine gb (fun i (L:List (List az))=>⟨[(1,.ptr (.loc 0) 0),(2,.ptr (.loc 1) 0),(8,.ptr (.loc 2) 0),(13,.slice 1 (.own (.loc 3)) (L.map c7)),(72,.slice 1 .no (d.map c7)),(73,.int .i64 d.length),(74,.int .i64 i)],[(.loc 0,[.int .i64 n,.slice 5 .no (b.map az.e),.slice 1 .no (d.map c7),.slice 2 .no (Y.map bR.e),.slice 2 .no (m0.map bq.e)]),(.loc 1,[.int .i64 0,.slice 5 .nil [],.slice 1 .nil [],.slice 2 .nil [],.slice 2 .nil []]),(.loc 2,[.int .i64 n,.slice 5 .no (b.map az.e),.slice 1 .nil [],.slice 2 .no (k.map bR.e),.slice 2 .nil []])],[(.loc 3,⟨L.length,30,1,none⟩)],3+1,[]⟩) d.length (rr b k [] d) [] bU ⟨Ψ,Ψ,Ψ⟩ (fun L f _=>?_) (fun i L hi f _=>?_)
    ·have S:=f.fin;have Q:=f.2.1;rw[S]at c du;simp only at c du;have D:=abR L Q;clear f S Q;generalize lV L=M at D c du;subst du;by_cases w:M.length<=30
     ·have B:(M.length:Int)<=30:=Ω
      rw[if_pos w]at c;subst c;simp;(repeat' first|refine ak ?_|refine aI D ?_|refine aJ D ?_|simp[w,B]);all_goals simp[bF,aX,aY,aW]
      all_goals try simp[dR.e,w,B]
      all_goals first|exact⟨_,rfl,rfl⟩|skip
     ·have B:¬(M.length:Int)<=30:=Ω
      rw[if_neg w]at c;subst c;simp;(repeat' first|refine ak ?_|refine aI D ?_|refine aJ D ?_|simp[w,B]);all_goals simp[bF,aX,aY,aW]
      all_goals try simp[dR.e,w,B]
      all_goals first|exact⟨_,rfl,rfl⟩|skip
    ·obtain⟨x,g,p⟩:=dX hi;have U:=aQ x (ev g);have VQ:=f.1;have l:=abP ae U;simp only[gO]at l;cases hu:mgu b (iv x)with
     |none=>have q:=f.skip g fun r=>NL hu;rw[hu]at l;simp only[oU,ny]at l;clear f g c du;exact hS
     |some y=>
      have H:=ae.mgu (DD U) hu;rw[hu]at l;simp only[mv,um]at l;have o:=Qy H X;have u:=Qz H BI oo BC;have j:=abQ ae H;simp only[gC]at o;simp only[jX,nx,fG]at u;by_cases t:gG y k []=none\/gH y [] []=none
      ·have q:=f.skip g fun r=>NK hu t;clear f g c du hu j;rcases t with e|e
       ·rw[e]at o;simp only[oU,ny]at o;exact hS
       ·rw[e]at u;simp only[oU,ny]at u;generalize (gG y k []).isSome=be at o;cases be
        ·exact hS
        ·exact hS
      ·have ai:(gG y k []).isSome=true:=by cases e:gG y k []with|none=>exact absurd (.inl e) t|some _=>rfl
       have aC:(gH y [] []).isSome=true:=by cases e:gH y [] []with|none=>exact absurd (.inr e) t|some _=>rfl
       rw[ai]at o;rw[aC]at u;by_cases v:hk b y=[]
       ·have ag:=f.stop g fun r=>NJ hu t v;rw[ag]at c du;simp only at c du;subst c;subst du;rw[v]at j;simp only[c7,nx]at j;clear f g hu t;simp[hi,p];(repeat' first|refine ak ?_|refine aI l ?_|refine aJ l ?_|refine aI o ?_|refine aJ o ?_|refine aI u ?_|refine aJ u ?_|refine aI j ?_|refine aJ j ?_|simp[hi,p]);all_goals simp[bF,aX,aY,aW]
        all_goals try simp[sN,dR.e]
       ·have q:=f.snoc g (IT (b:=b) H) fun r=>NM hu t v;have R:¬((hk b y).length:Int)=0:=by have:(hk b y).length≠0:=fun h=>v (List.length_eq_zero_iff.1 h);omega
        have P:(((hk b y).length:Int)==0)=false:=by simp[v]
        clear f g hu t c du;generalize hk b y=z at j q R P v;simp only[c7]at j;simp[hi,p];(repeat' first|refine ak ?_|refine aI l ?_|refine aJ l ?_|refine aI o ?_|refine aJ o ?_|refine aI u ?_|refine aJ u ?_|refine aI j ?_|refine aJ j ?_|simp[hi,p,R,P,v]);all_goals try refine⟨by unfold lim;omega,?_⟩
        all_goals(repeat' first|refine ak ?_|simp)
        all_goals exact bQ.rng (L++[z]) hi q ⟨by simp[fresh,ay,au,bX,inObs,Pv.look,wq,c7],dH py,dK pN,Ψ⟩
   |cons W V=>
    simp;(repeat' first|refine ak ?_|simp);refine gb (fun i (L:List (List az))=>⟨[(1,.ptr (.loc 0) 0),(2,.ptr (.loc 1) 0),(8,.ptr (.loc 2) 0),(13,.slice 1 (.own (.loc 6)) (L.map c7)),(72,.slice 1 .no (d.map c7)),(73,.int .i64 d.length),(74,.int .i64 i)],[(.loc 0,[.int .i64 n,.slice 5 .no (b.map az.e),.slice 1 .no (d.map c7),.slice 2 .no (Y.map bR.e),.slice 2 .no (m0.map bq.e)]),(.loc 1,[.int .i64 0,.slice 5 .nil [],.slice 1 .nil [],.slice 2 .nil [],.slice 2 .nil []]),(.loc 2,[.int .i64 n,.slice 5 .no (b.map az.e),.slice 1 .nil [],.slice 2 .no (k.map bR.e),.slice 2 (.own (.loc 5)) (W.e::V.map bq.e)])],[(.loc 6,⟨L.length,30,1,none⟩)],6+1,[]⟩) d.length (rr b k (W::V) d) [] bU ⟨Ψ,Ψ,Ψ⟩ (fun L f _=>?_) (fun i L hi f _=>?_)
    ·have S:=f.fin;have Q:=f.2.1;rw[S]at c du;simp only at c du;have D:=abR L Q;clear f S Q;generalize lV L=M at D c du;subst du;by_cases w:M.length<=30
     ·have B:(M.length:Int)<=30:=Ω
      rw[if_pos w]at c;subst c;simp;(repeat' first|refine ak ?_|refine aI D ?_|refine aJ D ?_|simp[w,B]);all_goals simp[bF,aX,aY,aW]
      all_goals try simp[dR.e,w,B]
      all_goals first|exact⟨_,rfl,rfl⟩|skip
     ·have B:¬(M.length:Int)<=30:=Ω
      rw[if_neg w]at c;subst c;simp;(repeat' first|refine ak ?_|refine aI D ?_|refine aJ D ?_|simp[w,B]);all_goals simp[bF,aX,aY,aW]
      all_goals try simp[dR.e,w,B]
      all_goals first|exact⟨_,rfl,rfl⟩|skip
    ·obtain⟨x,g,p⟩:=dX hi;have U:=aQ x (ev g);have VQ:=f.1;have l:=abP ae U;simp only[gO]at l;cases hu:mgu b (iv x)with
     |none=>have q:=f.skip g fun r=>NL hu;rw[hu]at l;simp only[oU,ny]at l;clear f g c du;exact hS
     |some y=>
      have H:=ae.mgu (DD U) hu;rw[hu]at l;simp only[mv,um]at l;have o:=Qy H X;have u:=Qz H BI oo BC;have j:=abQ ae H;simp only[gC]at o;simp only[jX,nx,fG]at u;by_cases t:gG y k []=none\/gH y (W::V) []=none
      ·have q:=f.skip g fun r=>NK hu t;clear f g c du hu j;rcases t with e|e
       ·rw[e]at o;simp only[oU,ny]at o;exact hS
       ·rw[e]at u;simp only[oU,ny]at u;generalize (gG y k []).isSome=be at o;cases be
        ·exact hS
        ·exact hS
      ·have ai:(gG y k []).isSome=true:=by cases e:gG y k []with|none=>exact absurd (.inl e) t|some _=>rfl
       have aC:(gH y (W::V) []).isSome=true:=by cases e:gH y (W::V) []with|none=>exact absurd (.inr e) t|some _=>rfl
       rw[ai]at o;rw[aC]at u;by_cases v:hk b y=[]
       ·have ag:=f.stop g fun r=>NJ hu t v;rw[ag]at c du;simp only at c du;subst c;subst du;rw[v]at j;simp only[c7,nx]at j;clear f g hu t;simp[hi,p];(repeat' first|refine ak ?_|refine aI l ?_|refine aJ l ?_|refine aI o ?_|refine aJ o ?_|refine aI u ?_|refine aJ u ?_|refine aI j ?_|refine aJ j ?_|simp[hi,p]);all_goals simp[bF,aX,aY,aW]
        all_goals try simp[sN,dR.e]
       ·have q:=f.snoc g (IT (b:=b) H) fun r=>NM hu t v;have R:¬((hk b y).length:Int)=0:=by have:(hk b y).length≠0:=fun h=>v (List.length_eq_zero_iff.1 h);omega
        have P:(((hk b y).length:Int)==0)=false:=by simp[v]
        clear f g hu t c du;generalize hk b y=z at j q R P v;simp only[c7]at j;simp[hi,p];(repeat' first|refine ak ?_|refine aI l ?_|refine aJ l ?_|refine aI o ?_|refine aJ o ?_|refine aI u ?_|refine aJ u ?_|refine aI j ?_|refine aJ j ?_|simp[hi,p,R,P,v]);all_goals try refine⟨by unfold lim;omega,?_⟩
        all_goals(repeat' first|refine ak ?_|simp)
        all_goals exact bQ.rng (L++[z]) hi q ⟨by simp[fresh,ay,au,bX,inObs,Pv.look,wq,c7],dH py,dK pN,Ψ⟩
def asI(x y:List az):bK ar 129 [c7 x,c7 y] (.int .i64 (e5 x y)):=Qw x y
def asP{x y:List az}(h:¬x=y):(e5 x y !=0)=true:=by have:¬e5 x y=0:=fun e=>h ((mM.zero _ _).1 e);simp[this]
def asM(a c:dR):bK ar 76 [a.e,c.e] (.bool (decide (a=c))):=by
 obtain⟨n,b,d,k,m⟩:=a;obtain⟨n',cf,t,u,s⟩:=c;generalize bg:decide ((⟨n,b,d,k,m⟩:dR)=⟨n',cf,t,u,s⟩)=R;simp only[dR.mk.injEq,dR.e]at bg⊢;by_cases H:n=n';rotate_left
 ·have o:R=false:=by rw[<-bg];simp[H]
  have U:(n !=n')=true:=by simp[H]
  rw[o];clear bg o;refine br a7 Tryz.func76 Cs fun v=>?_;unfold yS;exact ca
 subst H;have e:=Qw b cf;by_cases J:b=cf;rotate_left
 ·have o:R=false:=by rw[<-bg];simp[J]
  have G:¬e5 b cf=0:=fun h=>J ((mM.zero _ _).1 h);have X:(e5 b cf !=0)=true:=by simp[G]
  rw[o];clear bg o;refine br a7 Tryz.func76 Cs fun v=>?_;unfold yS;have F:=e;exact ca
 subst J;rw[(mM.zero b b).2 rfl]at e;by_cases E:d.length=t.length;rotate_left
 ·have o:R=false:=by rw[<-bg];simp only[hb];rintro⟨_,_,rfl,_⟩;exact E rfl
  have V:((d.length:Int) !=t.length)=true:=by simp;omega
  rw[o];clear bg o;refine br a7 Tryz.func76 Cs fun v=>?_;unfold yS;have F:=e;exact ca
 by_cases A:k.length=u.length;rotate_left
 ·have o:R=false:=by rw[<-bg];simp only[hb];rintro⟨_,_,_,rfl,_⟩;exact A rfl
  have O:((k.length:Int) !=u.length)=true:=by simp;omega
  rw[o];clear bg o;refine br a7 Tryz.func76 Cs fun v=>?_;unfold yS;have F:=e;exact ca
 by_cases D:m.length=s.length;rotate_left
 ·have o:R=false:=by rw[<-bg];simp only[hb];rintro⟨_,_,_,_,rfl⟩;exact D rfl
  have N:((m.length:Int) !=s.length)=true:=by simp;omega
  rw[o];clear bg o;refine br a7 Tryz.func76 Cs fun v=>?_;unfold yS;have F:=e;exact ca
 have L:d≠t->R=false:=fun h=>by rw[<-bg];simp[h]
 have K:k≠u->R=false:=fun h=>by rw[<-bg];simp[h]
 have P:m≠s->R=false:=fun h=>by rw[<-bg];simp[h]
 refine br a7 Tryz.func76 Cs fun v=>?_;unfold yS;have W:t.length<=68719476736:=by simp[eV,eN,eS,lim]at v;omega
 have S:u.length<=68719476736:=by simp[eV,eN,eS,lim]at v;omega
 have Q:s.length<=68719476736:=by simp[eV,eN,eS,lim]at v;omega
 clear v;simp;(repeat' first|refine ak ?_|refine aI e ?_|refine aJ e ?_|simp[E,A,D]);have w:=L;refine eH [2,3,52,53] (fun i (_:Unit)=>[(54,.int .i64 i)]) t.length (s5 d t) () bU (fun k M=>Ω) (fun _ j _=>?_) (fun i _ hi j _=>?_);rotate_left
 ·obtain⟨x,f⟩:∃x,d[i]? =some x:=⟨_,cl Ω⟩;obtain⟨y,g⟩:∃y,t[i]? =some y:=⟨_,cl hi⟩;have l:i<d.length:=Ω
  have r:∀h,(d[i]'h)=x:=fun h=>by rw[cl l]at f;exact ft f
  have p:∀h,(t[i]'h)=y:=fun h=>by rw[cl hi]at g;exact ft g
  have e:=asI x y;by_cases q:x=y
  ·subst q;have B:=j.step f g;rw[(mM.zero _ _).2 rfl]at e;clear j f g;simp[hi,l,r,p,-jm];(repeat' first|refine ak ?_|refine aI e ?_|refine aJ e ?_|simp[r,p,hi,l,-jm]);all_goals exact bQ.rng () hi B bU
  ·rw[w (fun h=>q (by rw[h]at f;rw[f]at g;exact ft g))];have G:=asP q;clear j f g;simp[hi,l,r,p,-jm];(repeat' first|refine ak ?_|refine aI e ?_|refine aJ e ?_|simp[r,p,hi,l,q,G,-jm]);all_goals simp[bF,aX,aY,aW]
 have z:=j.fin E;subst z;clear j w L E;simp;(repeat' first|refine ak ?_|simp[A]);have w:=K;refine eH [2,3,69,70] (fun i (_:Unit)=>[(71,.int .i64 i)]) u.length (s5 k u) () bU (fun k M=>Ω) (fun _ j _=>?_) (fun i _ hi j _=>?_);rotate_left
 ·obtain⟨x,f⟩:∃x,k[i]? =some x:=⟨_,cl Ω⟩;obtain⟨y,g⟩:∃y,u[i]? =some y:=⟨_,cl hi⟩;have l:i<k.length:=Ω
  have r:∀h,(k[i]'h)=x:=fun h=>by rw[cl l]at f;exact ft f
  have p:∀h,(u[i]'h)=y:=fun h=>by rw[cl hi]at g;exact ft g
  have e:=True.intro;by_cases q:x=y
  ·subst q;have B:=j.step f g;skip;clear j f g;simp[hi,l,r,p,-jm];(repeat' first|refine ak ?_|refine aI e ?_|refine aJ e ?_|simp[r,p,hi,l,-jm]);all_goals exact bQ.rng () hi B bU
  ·rw[w (fun h=>q (by rw[h]at f;rw[f]at g;exact ft g))];skip;clear j f g;simp[hi,l,r,p,-jm];(repeat' first|refine ak ?_|refine aI e ?_|refine aJ e ?_|simp[r,p,hi,l,q,q,-jm]);all_goals simp[bF,aX,aY,aW]
 have z:=j.fin A;subst z;clear j w K A;simp;(repeat' first|refine ak ?_|simp[D]);have w:=P;refine eH [3,85,86] (fun i (_:Unit)=>[(87,.int .i64 i)]) s.length (s5 m s) () bU (fun k M=>Ω) (fun _ j _=>?_) (fun i _ hi j _=>?_);rotate_left
 ·obtain⟨x,f⟩:∃x,m[i]? =some x:=⟨_,cl Ω⟩;obtain⟨y,g⟩:∃y,s[i]? =some y:=⟨_,cl hi⟩;have l:i<m.length:=Ω
  have r:∀h,(m[i]'h)=x:=fun h=>by rw[cl l]at f;exact ft f
  have p:∀h,(s[i]'h)=y:=fun h=>by rw[cl hi]at g;exact ft g
  have e:=True.intro;by_cases q:x=y
  ·subst q;have B:=j.step f g;skip;clear j f g;simp[hi,l,r,p,-jm];(repeat' first|refine ak ?_|refine aI e ?_|refine aJ e ?_|simp[r,p,hi,l,-jm]);all_goals exact bQ.rng () hi B bU
  ·rw[w (fun h=>q (by rw[h]at f;rw[f]at g;exact ft g))];skip;clear j f g;simp[hi,l,r,p,-jm];(repeat' first|refine ak ?_|refine aI e ?_|refine aJ e ?_|simp[r,p,hi,l,q,q,-jm]);all_goals simp[bF,aX,aY,aW]
 have z:=j.fin D;subst z;have o:R=true:=by rw[<-bg];simp
 rw[o];exact ca
@[simp]def ark:∀l:List (List dm),cR (l.map gz)=l.map gz
 |[]=>rfl
 |x::xs=>by simp[cR,ark xs]
def aa3:∀{d:List (List dm)},d.all hs=true->∃D:List (List az),d=(D.map fun x=>x.map az.b)/\∀x∈D,e7 x
 |[],_=>⟨[],rfl,Ψ⟩
 |x::d,h=>by
  rw[List.all_cons,cD]at h;obtain⟨D,J,U⟩:=aa3 h.2;obtain⟨s,b,c⟩:=yr.1 (sG.1 h.1);refine⟨s::D,by rw[J,b];rfl,fun y a=>?_⟩;rcases gj.1 a with rfl|a
  ·exact c
  ·exact U y a
open Classical in
def asX(r:ja)(M:iH r.m->F4 r.m):bK ar 26 [r.e] (.bool (decide (tX r))):=by
 generalize bg:decide (tX r)=R;have e:¬Pk r->R=false:=fun h=>by rw[<-bg,hb];exact fun b9=>h b9.raw
 obtain⟨n,b,d,k,m⟩:=r;simp only[ja.e]at M⊢;have J:=dQ n 0 100000;by_cases g1:0<=n/\n<=100000;rotate_left
 ·rw[e fun h=>g1 h.n];rw[l0 g1]at J;refine br a7 Tryz.func26 Aa fun j=>?_;unfold xo;exact ca
 rw[lL g1]at J;have u:bK ar 70 [.slice 5 .no (b.map dm.e)] (.bool (hs b)):=QB b;cases g3:hs b
 ·rw[e fun h=>by obtain⟨s,f,U,_⟩:=h.b;have:=sG.2 (yr.2 ⟨s,f,U⟩);simp only at this;rw[g3]at this;cases this]
  rw[g3]at u;refine br a7 Tryz.func26 Aa fun j=>?_;unfold xo;exact ca
 rw[g3]at u;obtain⟨s,rfl,ag⟩:=yr.1 (sG.1 g3);clear g3;rw[zX]at u⊢;have w:=asH d;cases o:d.all hs
 ·rw[e fun h=>by
   have:d.all hs=true:=by rw[iW];intro x c;obtain⟨s,f,U,_⟩:=h.d x c;exact sG.2 (yr.2 ⟨s,f,U⟩)
   rw[o]at this;cases this]
  rw[o]at w;refine br a7 Tryz.func26 Aa fun j=>?_;unfold xo;exact ca
 rw[o]at w;obtain⟨D,rfl,DY⟩:=aa3 o;clear o;rw[Lr]at w⊢;have F:=asV k;by_cases g4:iR k;rotate_left
 ·rw[e fun h=>g4 h.k];rw[l0 g4]at F;refine br a7 Tryz.func26 Aa fun j=>?_;unfold xo;exact ca
 rw[lL g4]at F;have E:=asW m;by_cases g5:iH m;rotate_left
 ·rw[e fun h=>g5 h.m];rw[l0 g5]at E;refine br a7 Tryz.func26 Aa fun j=>?_;unfold xo;exact ca
 rw[lL g5]at E;have v:=abT s n;cases g6:s.all (lP n)
 ·rw[e fun h=>by obtain⟨aj,f,_,O⟩:=h.b;have N:=xg f;subst N;rw[xj.2 O]at g6;cases g6]
  rw[g6]at v;refine br a7 Tryz.func26 Aa fun j=>?_;unfold xo;have qK:=v;exact ca
 rw[g6]at v;have cP:=xj.1 g6;clear g6;have Eo:=M g5;have k2:=Eo.len g5;refine br a7 Tryz.func26 Aa fun j=>?_;unfold xo;have rh:D.length<=68719476736:=by simp[eV,eN,eS,lim]at j;omega
 have iP:=xY g4;clear j M;simp;(repeat' first|refine ak ?_|refine aI J ?_|refine aJ J ?_|refine aI u ?_|refine aJ u ?_|refine aI w ?_|refine aJ w ?_|refine aI F ?_|refine aJ F ?_|refine aI E ?_|refine aJ E ?_|refine aI v ?_|refine aJ v ?_|simp);refine eH [1,48,49] (fun i (_:Unit)=>[(50,.int .i64 i)]) D.length (tD (fun x=>q5 x n) D) () bU (fun k b ad=>Ω) (fun _ a _=>?_) (fun i _ hi a _=>?_);rotate_left
 ·obtain⟨y,H,fs⟩:=dX hi;have V:=ev H;have X:bK ar 74 [c7 y,.int .i64 n] (.bool (y.all (lP n))):=abT y n;cases p:y.all (lP n)
  ·rw[e fun h=>by obtain⟨aj,f,_,O⟩:=h.d _ (List.mem_map_of_mem V);have N:=xg f;subst N;rw[xj.2 O]at p;cases p]
   rw[p]at X;clear a H V;exact ca
  ·rw[p]at X;have Z:=a.step H (xj.1 p);clear a H V;exact hS
 have Mk:=a.fin;clear a;simp;(repeat' first|refine ak ?_|simp);refine eH [1,61,62] (fun i (_:Unit)=>[(63,.int .i64 i)]) k.length (tD (fun x=>x.v<n) k) () bU (fun k b ad=>Ω) (fun _ a _=>?_) (fun i _ hi a _=>?_);rotate_left
 ·obtain⟨x,c,cp⟩:=dX hi;by_cases q:x.v<n
  ·have L:¬n<=x.v:=Ω
   have Z:=a.step c q;clear a c;exact hS
  ·have L:n<=x.v:=Ω
   rw[e fun h=>q (h.kb x (ev c))];clear a c;exact ca
 have K:=a.fin;clear a;simp;(repeat' first|refine ak ?_|simp);have zo:=K;refine eH [1,74,75] (fun i (_:Unit)=>[(76,.int .i64 i)]) m.length (tD (fun x=>x.v<n) m) () bU (fun k b ad=>Ω) (fun _ a _=>?_) (fun i _ hi a _=>?_);rotate_left
 ·obtain⟨x,c,cp⟩:=dX hi;by_cases q:x.v<n
  ·have L:¬n<=x.v:=Ω
   have Z:=a.step c q;clear a c;exact hS
  ·have L:n<=x.v:=Ω
   rw[e fun h=>q (h.mb x (ev c))];clear a c;exact ca
 have K:=a.fin;clear a;simp;(repeat' first|refine ak ?_|simp);have xN:=K;have dd:Az ⟨n,s,D,k,m⟩:=⟨g1,ag,DY,g4,g5,cP,Mk,zo,xN⟩;have Y:=aaV dd;obtain⟨G,oo,a1⟩:=Eo;have g:=asN dd oo a1;have l:tX ⟨n,s.map az.b,D.map fun x=>x.map az.b,k,m⟩↔nr ⟨n,s,D,k,m⟩=some ⟨n,s,D,k,m⟩:=Y;clear Y e;simp only[Pz]at g;generalize W:CO ⟨n,s,D,k,m⟩=t at g;have A:=asM t ⟨n,s,D,k,m⟩;cases B:nr ⟨n,s,D,k,m⟩with
 |none=>
  rw[B]at g l;have z:R=false:=by rw[<-bg,hb,l];simp
  rw[z];obtain⟨hD,S,P,tk,tm⟩:=t;simp only[ny,dR.e]at g;clear bg z l W A;exact ca
 |some dP=>
  have f:=aqL B;rw[W]at f;subst f;rw[B]at g l;have z:R=decide (t=⟨n,s,D,k,m⟩):=by rw[<-bg,decide_eq_decide,l];simp
  rw[z];simp only[um]at g;simp only[dR.e]at g A;clear bg z l B;generalize decide (t=(⟨n,s,D,k,m⟩:dR))=Q at A⊢;clear W;obtain⟨hD,S,P,tk,tm⟩:=t;simp only at g A;exact ca
def sY(d:dn (dn fP)):ah:=d.e 1 kZ
def tE(k:dn bR):ah:=k.e 2 bR.e
def tL(m:dn im):ah:=m.e 2 im.e
@[simp]def av6(S:aB->Prop)(d:dn (dn fP)):au S (sY d)=True:=by cases d<;>simp[sY,dn.e,au]
@[simp]def axO(d:dn (dn fP)):de (sY d)=sY d:=by
 cases d with
 |l l=>
  have:∀l:List (dn fP),cR (l.map kZ)=l.map kZ:=by
   intro l;induction l with
   |nil=>rfl
   |cons x l a=>simp[cR,a]
  simp[sY,dn.e,de,this]
 |b=>simp[sY,dn.e,de]
@[simp]def awd(S:aB->Prop)(d:dn bR):au S (tE d)=True:=by cases d<;>simp[tE,dn.e,au]
@[simp]def axV(d:dn bR):de (tE d)=tE d:=by
 cases d with
 |l l=>
  have:∀l:List bR,cR (l.map bR.e)=l.map bR.e:=by
   intro l;induction l with
   |nil=>rfl
   |cons x l a=>simp[cR,a]
  simp[tE,dn.e,de,this]
 |b=>simp[tE,dn.e,de]
@[simp]def awf(S:aB->Prop)(d:dn im):au S (tL d)=True:=by cases d<;>simp[tL,dn.e,au]
@[simp]def axX(d:dn im):de (tL d)=tL d:=by
 cases d with
 |l l=>
  have:∀l:List im,cR (l.map im.e)=l.map im.e:=by
   intro l;induction l with
   |nil=>rfl
   |cons x l a=>simp[cR,a]
  simp[tL,dn.e,de,this]
 |b=>simp[tL,dn.e,de]
structure pI where
 n:Int
 b:dn fP
 d:dn (dn fP)
 k:dn bR
 m:dn im
def pI.e(r:pI):ah:= .agg [.int .i64 r.n,kZ r.b,sY r.d,tE r.k,tL r.m]
structure pI.wf (r:pI):Prop where
 b:yz r.b
 d:r.d.wf yz
 k:∀p n cap,r.k= .b p n cap->nZ n
 m:r.m.wf fun x=>x.s.wf
def sI(r:pI)(m:Int):Int:=if iT r.b m<0 then-1 else if gP iT r.d (iT r.b m)<0 then-1 else if nY r.k (gP iT r.d (iT r.b m))<0 then-1 else if gP lW r.m (nY r.k (gP iT r.d (iT r.b m)))<0 then-1 else gP lW r.m (nY r.k (gP iT r.d (iT r.b m)))
def AX(b:dm):fP:=⟨b.v,oN b.t⟩
def u5(b:bq):im:=⟨b.v,.s b.s⟩
def adA(b:dm):(AX b).e=b.e:=by have h:=Qk b.t;rw[cv.e_eq,Ba]at h;simp only[ah.agg.injEq,pA,and_true,true_and]at h;obtain⟨J,U,a,c⟩:=h;show ah.agg [_,_,_,_,_]=ah.agg [_,_,_,_,_];rw[show(AX b).t=oN b.t from rfl,J,U,a,c];rfl
def amq(b:bq):(u5 b).e=b.e:=rfl
def adB(l:List dm):(l.map AX).map fP.e=l.map dm.e:=by rw[List.map_map];exact List.map_congr_left fun b _=>adA b
def amr(l:List bq):(l.map u5).map im.e=l.map bq.e:=by rw[List.map_map];exact List.map_congr_left fun b _=>amq b
def vG(d:List dm):dn fP:= .l (d.map AX)
def Ur(d:List dm):kZ (vG d)=gz d:=by simp only[kZ,vG,dn.e,gz,adB]
def aez(l:List (List dm)):(l.map vG).map kZ=l.map gz:=by rw[List.map_map];exact List.map_congr_left fun b _=>Ur b
def ja.h(r:ja):pI:=⟨r.n,vG r.b,.l (r.d.map vG),.l r.k,.l (r.m.map u5)⟩
def ard(r:ja):r.h.e=r.e:=by simp only[pI.e,ja.h,ja.e,Ur,sY,tE,tL,dn.e,aez,amr];rfl
def aru(x:fP)(m:Int)(hw:x.t.wf)(J:m<=1048576)(a:0<=m)(h:0<=ub x m):∃y,x=AX y:=by obtain⟨u,hu⟩:=Qb x.t m hw J a h;exact⟨⟨x.v,u⟩,by cases x;simp only[AX]at hu⊢;rw[hu]⟩
def arw(x:im)(m:Int)(hw:x.s.wf)(J:m<=1048576)(b:0<=m)(h:0<=lW x m):∃y,x=u5 y:=by
 unfold lW at h;split at h
 ·omega
 ·obtain⟨l,a⟩:=hy.small hw J h;exact⟨⟨x.v,l⟩,by cases x;simp only[u5]at a⊢;rw[a]⟩
def aa4(x:dn fP)(m:Int)(hw:yz x)(J:m<=1048576)(a:0<=m)(h:0<=iT x m):∃y,x=vG y:=JY (P:=fun b:fP=>b.t.wf) P7 aru x m (show dn.wf (fun b:fP=>b.t.wf) x from hw) J a h
def aba:∀(l:List bq) (m:Int),(∀x∈l,1<=x.s.length)->0<=kt lW (l.map u5) m->(l.length:Int)<=m
 |[],m,_,h=>by simpa[kt]using h
 |x::l,m,J,h=>by
  simp only[fG,kt]at h;split at h
  ·omega
  ·rename_i U;have a:=aba l _ (fun y d=>J y (by simp[d])) h;have e:=J x Ψ;have c:lW (u5 x) m=if m-x.s.length<0 then-1 else m-x.s.length:=rfl
   rw[c]at U a;split at a
   ·rename_i b;rw[if_pos b]at U;omega
   ·simp only[ik];omega
def amy{s:List b7}(h:jg s=true):1<=s.length:=by
 cases s with
 |nil=>simp[jg]at h
 |cons c s=>simp
def as8(r:pI)(hw:r.wf)(m:Int)(f:0<=m)(J:m<=1048576):bK ar 6 [r.e,.int .i64 m] (.int .i64 (sI r m)):=by
 generalize bg:sI r m=R;obtain⟨n,b,d,k,l⟩:=r;obtain⟨z,s,v,q⟩:=hw;simp only at z s v q;unfold sI at bg;simp only[pI.e]at bg⊢;have G:=ab0 b z m f J;have E:=yt b m f;generalize iT b m=g at bg G E;have t:_->bK ar 23 [sY d,.int .i64 g] (.int .i64 (gP iT d g)):=fun h=>as5 d (fun p n c e=>by subst e;exact s) (fun xs e x D m f J=>by subst e;exact ab0 x (s x D) m f J) g h Ω;have B:=fun h=>w1 yt d g h;generalize gP iT d g=j at bg t B;have o:_->_->bK ar 24 [tE k,.int .i64 j] (.int .i64 (nY k j)):=fun h A=>ata k v j h A;have y:=fun h=>P8 k j h;generalize nY k j=i at bg o y;have a:_->_->bK ar 25 [tL l,.int .i64 i] (.int .i64 (gP lW l i)):=fun h A=>as7 l (fun p n c e=>by subst e;exact q) (fun xs e x D m f J=>by subst e;exact as6 x (q x D) m f J) i h A;have w:=fun h=>w1 J0 l i h;generalize gP lW l i=F at bg a w;clear z s v q;by_cases g1:g<0
 ·rw[if_pos g1]at bg;subst bg;clear t o a;refine br a7 Tryz.func6 Fo fun u=>?_;unfold A1;exact ca
 rw[if_neg g1]at bg;have t:=t Ω;have B:=B Ω;by_cases g2:j<0
 ·rw[if_pos g2]at bg;subst bg;clear o a;refine br a7 Tryz.func6 Fo fun u=>?_;unfold A1;exact ca
 rw[if_neg g2]at bg;have o:=o Ω Ω;have y:=y Ω;by_cases g3:i<0
 ·rw[if_pos g3]at bg;subst bg;clear a;refine br a7 Tryz.func6 Fo fun u=>?_;unfold A1;exact ca
 rw[if_neg g3]at bg;have a:=a Ω Ω;have w:=w Ω;by_cases g4:F<0
 ·rw[if_pos g4]at bg;subst bg;refine br a7 Tryz.func6 Fo fun u=>?_;unfold A1;exact ca
 rw[if_neg g4]at bg;subst bg;refine br a7 Tryz.func6 Fo fun u=>?_;unfold A1;exact ca
def ati(r:ja):bK ar 8 [r.e] r.e:=by obtain⟨n,b,d,k,l⟩:=r;simp only[ja.e];have e:bK ar 28 [.slice 5 .no (b.map dm.e)] (.slice 5 .no (b.map dm.e)):=ab3 b;have f:=atf d fun x _=>ab3 x;have c:=atl k fun x _=>atk x;have a:=ath l fun x _=>atg x;refine br a7 Tryz.func8 anT fun g=>?_;unfold SX;exact ca
def asp(r:ja):bK ar 10 [r.e,r.e] (.bool true):=by obtain⟨n,b,d,k,l⟩:=r;simp only[ja.e];have e:bK ar 18 [.slice 5 .no (b.map dm.e),.slice 5 .no (b.map dm.e)] (.bool true):=abC b;have f:=asm d fun x _=>abC x;have c:=ass k fun x _=>asr x;have a:=aso l fun x _=>asn x;refine br a7 Tryz.func10 anI fun g=>?_;unfold SJ;exact ca
def arJ{x y:List T}(h:x.map T.tm=y.map T.tm):x=y:=(List.map_inj_right fun _ _=>Ql).1 h
def Bb(l:List T):(l.map T.tm).map enc=l.map T.e:=by rw[List.map_map];exact List.map_congr_left fun t _=>vH t
def LZ:∀{l:List bO},l.all bO.fits=true->∃x:List T,l=x.map T.tm/\∀t∈x,t.fit=true
 |[],_=>⟨[],rfl,Ψ⟩
 |t::l,h=>by rw[List.all_cons,cD]at h;obtain⟨x,rfl,U⟩:=LZ h.2;obtain⟨y,rfl,b⟩:=bO.fits_ex h.1;exact⟨y::x,rfl,fun z a=>(gj.1 a).elim (fun e=>by rw[e];exact b) (U z)⟩
def p3.fin{α:Type}{p:α->Bool}{s:List α}(h:p3 p s s.length ()):∀b∈s,p b=true:=fun b ae=>by obtain⟨i,hi⟩:=List.mem_iff_getElem?.1 ae;exact h i b (by have:=(fp.1 hi).1;omega) hi
def atb(l:List bO):bK ar 97 [.slice 4 .no (l.map enc)] (.bool (l.all bO.fits)):=by
 generalize bg:l.all bO.fits=R;refine br a7 Tryz.func97 Y2 fun d=>?_;unfold K1;have f:l.length<=68719476736:=by simp[eV,eN,eS,lim]at d;omega
 simp;refine eH [5,6] (fun i (_:Unit)=>[(7,.int .i64 i)]) l.length (p3 bO.fits l) () bU (fun k b j=>Ω) (fun _ a _=>?_) (fun i _ hi a _=>?_)
 ·have:R=true:=by rw[<-bg,iW];exact a.fin
  subst this;clear a bg;exact ca
 ·obtain⟨t,aM,e⟩:=dX hi;have c:=J7 t;cases g:t.fits
  ·rw[g]at c;have:R=false:=by rw[<-bg,List.all_eq_false];exact⟨t,ev aM,by rw[g];simp⟩
   subst this;clear aM a bg;exact ca
  ·rw[g]at c;have h:=a.step aM g;clear aM a bg;exact hS
def GR:C:=(aa [c6 2 0,bT 4 0] (aa [aK 5 0 1 2,aw 6 1 5,I 7 1,ch 8 37 6 7,I 1 8] (.seq (aa [I 9 1,aS 10 .lss 9 0] (aU 10 (aa [bT 4 (-1)] .ret) .skip)) (aa [fY 11 1 5 2,bh 12 5 11,I 13 1,ch 14 6 12 13,I 1 14] (.seq (aa [I 15 1,aS 16 .lss 15 0] (aU 16 (aa [bT 4 (-1)] .ret) .skip)) (aa [I 17 1,I 4 17] .ret))))))
def SO:C:=(aa [c6 1 0,cU (.alloc 2 none (.agg [.slice 4 .nil [],.int .i64 0,.slice 5 .nil [],.slice 1 .nil [],.slice 2 .nil [],.slice 2 .nil []]))] (aa [cU (.alloc 3 none (.agg [.slice 4 .nil [],.int .i64 0,.slice 5 .nil [],.slice 1 .nil [],.slice 2 .nil [],.slice 2 .nil []]))] (aa [aK 4 0 1 1,aw 5 1 4,cI 6 45 5,aK 7 0 1 3,b1 1 7 6] (aa [fY 8 1 5 1,bh 9 5 8,cI 10 8 9,fY 11 1 5 3,b1 5 11 10] (aa [bh 12 6 3,b1 6 2 12] .ret)))))
def SD:C:=(aa [c6 2 0,c6 3 1,bs 4 false] (.seq (aa [aK 5 0 1 2,aw 6 1 5,aK 7 0 1 3,aw 8 1 7,ch 9 52 6 8,cH 10 9] (aU 10 (aa [bs 4 false] .ret) .skip)) (.seq (aa [fY 11 1 5 2,bh 12 5 11,fY 13 1 5 3,bh 14 5 13,ch 15 10 12 14,cH 16 15] (aU 16 (aa [bs 4 false] .ret) .skip)) (aa [bs 4 true] .ret))))
def Ds:C:=(aa [c6 1 0,bs 2 false] (.seq (aa [aK 6 0 1 1,aw 7 1 6,cI 8 93 7,cH 9 8,I 10 9,ax 10 false (fY 11 1 5 1),ax 10 false (bh 12 5 11),ax 10 false (cI 13 26 12),ax 10 false (cH 14 13),dy 15 10 14,I 16 15,ax 16 false (fY 17 1 5 1),ax 16 false (aK 18 1 1 17),ax 16 false (aw 19 1 18),ax 16 false (cd 20 19),ax 16 false (aS 21 .gtr 20 0),dy 22 16 21] (aU 22 (aa [bs 2 false] .ret) .skip)) (aa [aK 23 0 1 1,aw 24 1 23,cI 25 94 24,I 3 25] (.seq (aa [I 26 3,cd 27 26,bT 28 0] (fo 29 28 27 (.seq (.block 1 (aa [I 30 28,cq 31 1 26 28,aw 32 1 31,I 4 30,I 5 32] (aa [I 33 5,I 34 4,bp 35 .neq 33 34] (aU 35 (aa [bs 2 false] .ret) .skip)))) (.region [aS 36 .add 28 1,I 28 36])))) (aa [fY 37 1 5 1,aK 38 0 1 37,aw 39 1 38,I 40 3,cd 41 40,bp 42 .eql 39 41,I 2 42] .ret)))))
def yO:C:=(aa [c6 1 0,bs 2 false] (.seq (aa [aK 3 0 1 1,aw 4 1 3,cI 5 97 4,cH 6 5,I 7 6,ax 7 false (fY 8 1 5 1),ax 7 false (bh 9 5 8),ax 7 false (cI 10 32 9),ax 7 false (cH 11 10),dy 12 7 11,I 13 12,ax 13 false (fY 14 1 5 1),ax 13 false (aK 15 1 1 14),ax 13 false (aw 16 1 15),ax 13 false (cd 17 16),ax 13 false (aS 18 .neq 17 0),dy 19 13 18] (aU 19 (aa [bs 2 false] .ret) .skip)) (.seq (.drawn true 36 [aK 20 0 1 1,aw 21 1 20,cI 22 99 21,aK 23 0 1 1,aw 24 1 23,ch 25 98 22 24,I 26 25,ax 26 true (fY 27 1 5 1),ax 26 true (aK 28 0 1 27),ax 26 true (aw 29 1 28),ax 26 true (aK 30 0 1 1),ax 26 true (aw 31 1 30),ax 26 true (cI 32 100 31),ax 26 true (cd 33 32),ax 26 true (bp 34 .eql 29 33),ei 35 26 34,I 2 35]) .ret)))
def Tv:C:=(aa [bs 2 false] (.seq (aa [I 5 0,cd 6 5,bT 7 0] (fo 8 7 6 (.seq (.block 1 (aa [cq 9 4 5 7,bh 10 4 9,dV 4 eb,b1 4 4 10] (aa [bh 11 4 4,cI 12 143 11,cH 13 12] (aU 13 (aa [bs 2 false] .ret) .skip)))) (.region [aS 14 .add 7 1,I 7 14])))) (aa [bs 2 true] .ret)))
def Ts:C:=(aa [e1 2 1] (.seq (aa [I 6 0,cI 7 93 6,cH 8 7] (aU 8 (aa [e1 2 1] .ret) .skip)) (aa [cU (.bslm 9 (some 881) 1 3 []),I 3 9] (.seq (aa [I 10 0,cd 11 10,bT 12 0] (fo 13 12 11 (.seq (.block 1 (aa [cq 14 4 10 12,bh 15 4 14,dV 5 eb,b1 4 5 15] (.region [bh 16 4 5,I 17 3,ch 18 144 16 17,I 3 18]))) (.region [aS 19 .add 12 1,I 12 19])))) (.seq (.pub 3 (.region [I 20 3,I 2 20])) .ret)))))
def K0:C:=(aa [bs 4 false] (.seq (aa [I 6 0,cd 7 6,I 8 1,cd 9 8,bp 10 .neq 7 9] (aU 10 (aa [bs 4 false] .ret) .skip)) (.seq (aa [I 11 0,cd 12 11,bT 13 0] (fo 14 13 12 (.seq (.block 1 (aa [I 15 13,I 5 15] (.seq (.drawn true 27 [I 16 0,I 17 5,cq 18 4 16 17,bh 19 4 18,I 20 1,I 21 5,cq 22 4 20 21,bh 23 4 22,ch 24 145 19 23,cH 25 24]) (aU 25 (aa [bs 4 false] .ret) .skip)))) (.region [aS 26 .add 13 1,I 13 26])))) (aa [bs 4 true] .ret))))
def RP:C:=(aa [e1 2 4] (.seq (aa [I 9 0,cI 10 97 9,cH 11 10] (aU 11 (aa [e1 2 4] .ret) .skip)) (aa [cU (.mkmap 12 (some 865)),cU (.alloc 3 (some 866) (.junk)),b1 1 3 12] (.seq (aa [I 13 0,cI 14 100 13,cd 15 14,bT 16 0] (fo 17 16 15 (.seq (.block 1 (aa [I 18 16,cq 19 1 14 16,aw 20 1 19,I 4 18,I 5 20] (.region [aw 21 1 3,I 22 5,I 23 4,cU (.mput .i (.t 21) (.t 22) (.t 23))]))) (.region [aS 24 .add 16 1,I 16 24])))) (aa [eE 25 4 71 [],I 6 25] (.seq (aa [I 26 0,cd 27 26,bT 28 0] (.block 2 (.loop (aa [bp 29 .lss 28 27] (.seq (aU 29 .skip (.exit 2)) (.seq (.block 3 (aa [cq 30 4 26 28,bh 31 4 30,dV 8 eb,b1 4 8 31] (.region [I 32 6,bh 33 4 8,bH 34 (.mkf 147 [.t 3]),ch 35 146 33 34,eE 36 4 71 [.t 35],hv 37 4 71 32 36,I 6 37]))) (.region [aS 38 .add 28 1,I 28 38]))))))) (aa [I 39 6,I 2 39] .ret)))))))
def Su:C:=(aa [e1 2 1] (aa [cU (.bslm 7 (some 861) 1 3 []),cU (.alloc 3 (some 862) (.slice 1 .nil [])),b1 1 3 7] (aa [cU (.mkmap 8 (some 863)),cU (.alloc 4 (some 864) (.junk)),b1 1 4 8] (.seq (aa [I 9 0,cd 10 9,bT 11 0] (fo 12 11 10 (.seq (.block 1 (aa [cq 13 4 9 11,bh 14 4 13,dV 6 eb,b1 4 6 14] (.region [bh 15 4 6,bH 16 (.mkf 148 [.t 4,.t 3]),ch 17 131 15 16]))) (.region [aS 18 .add 11 1,I 11 18])))) (.seq (.pubB 3 (.region [aw 19 1 3,I 2 19])) .ret)))))
def yR:C:=(aa [c6 2 0,e1 4 1] (.seq (aa [aK 7 0 1 2,aw 8 1 7,aS 9 .eql 8 1,I 10 9,ck 10 true 11 1,ax 10 true (aK 12 1 1 2),ax 10 true (aw 13 1 12),ax 10 true (ch 14 177 11 13),ax 10 true (cH 15 14),ei 16 10 15] (aU 16 (aa [I 17 1,aK 18 1 1 2,aw 19 1 18,eE 20 1 3 [.t 19],cU (.appm 21 none 1 3 (.t 17) (.t 20)),I 4 21] .ret) .skip)) (.seq (aa [aK 22 3 1 2,aw 23 1 22,cd 24 23,bT 25 0] (fo 26 25 24 (.seq (.block 1 (aa [cq 27 4 23 25,bh 28 4 27,dV 6 eb,b1 4 6 28] (.region [bh 29 4 6,I 30 1,ch 31 144 29 30,I 1 31]))) (.region [aS 32 .add 25 1,I 25 32])))) (aa [I 33 1,I 4 33] .ret))))
def RQ:C:=(aa [dV 3 eb,bs 4 false] (aa [aw 5 1 1,I 6 0,bH 7 (.mget .i (.int .i64 0) false (.t 5) (.t 6)),cI 8 50 7,b1 4 3 8,bs 4 true] .ret))
def KZ:C:=(aa [aw 4 1 1,I 5 0,bH 6 (.mget .i (.bool false) false (.t 4) (.t 5)),cH 7 6] (aU 7 (aa [aw 8 1 1,I 9 0,cU (.mput .i (.t 8) (.t 9) (.c (.bool true)))] (.region [bH 10 (.loadB false 1 (.t 2)),I 11 0,eE 12 1 3 [.t 11],cU (.appm 13 none 1 3 (.t 10) (.t 12)),b1 1 2 13])) .skip))
def Ty:C:=(aa [bs 4 false] (.seq (aa [I 7 0,cd 8 7,bT 9 0] (fo 10 9 8 (.seq (.block 1 (aa [cq 11 1 7 9,aw 12 1 11,I 6 12] (aa [I 13 6,I 14 1,bp 15 .eql 13 14] (aU 15 (aa [bs 4 true] .ret) .skip)))) (.region [aS 16 .add 9 1,I 9 16])))) (aa [bs 4 false] .ret)))
def OA:b4 aT GR [.tmp 4] 2 Tryz.f11=true:=an
def anN:b4 aT SO [.cell 2 true 6] 1 Tryz.f13=true:=an
def anC:b4 aT SD [.tmp 4] 2 Tryz.f15=true:=an
def I0:b4 aT Ds [.tmp 2] 1 Tryz.f38=true:=an
def Co:b4 aT yO [.tmp 2] 1 Tryz.f46=true:=an
def aor:b4 aT Tv [.tmp 2] 1 Tryz.f93=true:=an
def aoo:b4 aT Ts [.tmp 2] 1 Tryz.f94=true:=an
def Y1:b4 aT K0 [.tmp 4] 2 Tryz.f98=true:=an
def amP:b4 aT RP [.tmp 2] 1 Tryz.f99=true:=an
def ans:b4 aT Su [.tmp 2] 1 Tryz.f100=true:=an
def Cr:b4 aT yR [.tmp 4] 2 Tryz.f144=true:=an
def amQ:b4 aT RQ [.cell 3 true 4,.tmp 4] 2 Tryz.f147=true:=an
def Y0:b4 aT KZ [] 3 Tryz.f148=true:=an
def aou:b4 aT Ty [.tmp 4] 2 Tryz.f177=true:=an
def w4(m:List bq):Prop:= ∃G:List (List b7),G.length<=686999/\oL G m
def w4.w{m:List bq}(h:w4 m):F4 m:=by obtain⟨G,J,U⟩:=h;exact⟨G,Ω,U⟩
def sK(a:dn cv):ah:=a.e 4 cv.e
@[simp]def awn(S:aB->Prop)(d:dn cv):au S (sK d)=True:=by cases d<;>simp[sK,dn.e,au]
@[simp]def ax1(d:dn cv):de (sK d)=sK d:=by
 cases d with
 |l l=>
  have:∀l:List cv,cR (l.map cv.e)=l.map cv.e:=by
   intro l;induction l with
   |nil=>rfl
   |cons x l a=>simp[cR,a]
  simp[sK,dn.e,de,this]
 |b=>simp[sK,dn.e,de]
def arN(l:List bO):sK (.l (l.map oN))= .slice 4 .no (l.map enc):=by simp only[sK,dn.e,List.map_map];congr 1;exact List.map_congr_left fun t _=>Qk t
def qd(a:dn cv)(m:Int):Int:=gP h4 a m
def Qc(a:dn cv)(m:Int)(h:0<=m): -1<=qd a m/\qd a m<=m:=w1 w2 a m h
def as9(a:dn cv)(hw:a.wf fun t=>t.wf)(m:Int)(b:0<=m)(J:m<=1048576):bK ar 37 [sK a,.int .i64 m] (.int .i64 (qd a m)):=QD a (fun p n c e=>by subst e;exact hw) (fun xs e x d m b J=>by subst e;exact ab1 x (hw x d) m b J) m b J
def atj(l:List bO):bK ar 45 [.slice 4 .no (l.map enc)] (.slice 4 .no (l.map enc)):=ab5 l fun x _=>ab4 x
def asq(l:List bO):bK ar 52 [.slice 4 .no (l.map enc),.slice 4 .no (l.map enc)] (.bool true):=abE l fun x _=>abD x
def arz{r:pI}{a:Int}(hw:r.wf)(z:a<=1048576)(q:0<=a)(h:0<=sI r a):∃u:ja,r=u.h/\(iH u.m->u.m.length<=524288):=by
 obtain⟨n,b,d,k,l⟩:=r;obtain⟨f,g,o,c⟩:=hw;simp only at f g o c;unfold sI at h;simp only at h;have w:=yt b a Ω;split at h
 ·omega
 have y:=w1 yt d (iT b a) Ω;split at h
 ·omega
 have v:=P8 k (gP iT d (iT b a)) Ω;split at h
 ·omega
 split at h
 ·omega
 obtain⟨cf,rfl⟩:=aa4 b a f Ω Ω Ω;obtain⟨i,rfl⟩:=JY yt (P:=yz) aa4 d (iT (vG cf) a) g Ω Ω Ω;generalize gP iT (.l (i.map vG)) (iT (vG cf) a)=p at*;cases k with
 |b=>simp only[nY]at*;omega
 |l j=>
  generalize nY (.l j) p=m at*;have t:=w1 J0 l m Ω;obtain⟨e,rfl⟩:=JY J0 (P:=fun x=>x.s.wf) arw l m c Ω Ω Ω;refine⟨⟨n,cf,i,j,e⟩,rfl,fun hm=>?_⟩;simp only at hm⊢;simp only[gP,oK]at h;split at h
  ·omega
  ·have:=aba e _ (fun x s=>amy (hm.at' x s).2) h;simp only[iz]at this;omega
def w4.of{m:List bq}(h:m.length<=524288):w4 m:=⟨m.map (·.s),by simp;omega,fun _ a=>List.mem_map_of_mem a⟩
@[simp high] def aw4(d:dn cv)(r:List ah):gN (sK d::r)=true:=by cases d<;>rfl
def arB{a:dn cv}(hw:a.wf fun t=>t.wf){m:Int}(b:0<=m)(J:m<=1048576)(h:0<=qd a m):∃l:List bO,a= .l (l.map oN):=JY w2 (P:=fun t=>t.wf) (fun x m c J b h=>Qb x m c J b h) a m hw J b h
structure qh where
 t:dn cv
 s:pI
def qh.e(a:qh):ah:= .agg [sK a.t,.int .i64 a.s.n,kZ a.s.b,sY a.s.d,tE a.s.k,tL a.s.m]
structure qh.wf (a:qh):Prop where
 t:a.t.wf fun t=>t.wf
 s:a.s.wf
def sH(a:qh)(m:Int):Int:=if qd a.t m<0 then-1 else if sI a.s (qd a.t m)<0 then-1 else sI a.s (qd a.t m)
structure j8 where
 t:List bO
 s:ja
def j8.e(a:j8):ah:= .agg [.slice 4 .no (a.t.map enc),.int .i64 a.s.n,.slice 5 .no (a.s.b.map dm.e),.slice 1 .no (a.s.d.map gz),.slice 2 .no (a.s.k.map bR.e),.slice 2 .no (a.s.m.map bq.e)]
def j8.h(a:j8):qh:=⟨.l (a.t.map oN),a.s.h⟩
def ac9(a:j8):a.h.e=a.e:=by have h:=ard a.s;simp only[pI.e,ja.e,ah.agg.injEq,pA,and_true]at h;obtain⟨J,U,c,d,b⟩:=h;simp only[qh.e,j8.e,j8.h,arN,ah.agg.injEq,pA,and_true,true_and];exact⟨J,U,c,d,b⟩
def art{a:qh}(hw:a.wf){m:Int}(d:0<=m)(J:m<=1048576)(h:0<=sH a m):∃u:j8,a=u.h/\(iH u.s.m->w4 u.s.m):=by
 obtain⟨t,s⟩:=a;obtain⟨b,c⟩:=hw;have hle:=Qc t m d;unfold sH at h;simp only at h b c;split at h
 ·omega
 split at h
 ·omega
 obtain⟨l,rfl⟩:=arB b d J Ω;obtain⟨u,rfl,hu⟩:=arz c Ω Ω h;exact⟨⟨l,u⟩,rfl,fun hm=>w4.of (hu hm)⟩
def arA(l:List bO)(m:Int)(h:0<=qd (.l (l.map oN)) m):(l.length:Int)<=m:=by
 unfold qd at h;simp only[gP,oK]at h;split at h
 ·omega
 ·simp only[iz]at*;omega
def ars(r:j8){m:Int}(h:0<=sH r.h m)(J:m<=1048576:=by omega):r.t.length<=1048576:=by
 unfold sH at h;split at h
 ·omega
 ·rename_i U;have:=arA r.t m (by have:r.h.t= .l (r.t.map oN):=rfl;rw[this]at U;omega)
  omega
def as2(a:qh)(hw:a.wf)(m:Int)(o:0<=m)(J:m<=1048576):bK ar 11 [a.e,.int .i64 m] (.int .i64 (sH a m)):=by
 obtain⟨t,s⟩:=a;obtain⟨f,g⟩:=hw;simp only at f g;have e:=as9 t f m o J;have j:=Qc t m o;generalize bg:sH ⟨t,s⟩ m=R;unfold sH at bg;simp only at bg;generalize qd t m=i at e j bg;have c:=fun h=>as8 s g i h Ω;generalize sI s i=q at c bg;clear f g j;obtain⟨n,b,d,k,l⟩:=s;simp only[pI.e,qh.e]at c⊢;by_cases g1:i<0
 ·rw[if_pos g1]at bg;subst bg;clear c;refine br a7 Tryz.func11 OA fun p=>?_;unfold GR;simp[-gN];(with_reducible repeat' first|refine ak ?_|refine aI e ?_|refine aJ e ?_|simp[g1,-gN]);all_goals simp[bF,aX,aY,aW]
 rw[if_neg g1]at bg;have c:=c Ω;by_cases g2:q<0
 ·rw[if_pos g2]at bg;subst bg;refine br a7 Tryz.func11 OA fun p=>?_;unfold GR;simp[-gN];(with_reducible repeat' first|refine ak ?_|refine aI e ?_|refine aJ e ?_|refine aI c ?_|refine aJ c ?_|simp[g1,g2,-gN]);all_goals simp[bF,aX,aY,aW]
 rw[if_neg g2]at bg;subst bg;refine br a7 Tryz.func11 OA fun p=>?_;unfold GR;simp[-gN];(with_reducible repeat' first|refine ak ?_|refine aI e ?_|refine aJ e ?_|refine aI c ?_|refine aJ c ?_|simp[g1,g2,-gN]);all_goals simp[bF,aX,aY,aW]
def atc(a:j8):bK ar 13 [a.e] a.e:=by obtain⟨t,s⟩:=a;have e:=atj t;have c:=ati s;obtain⟨n,b,d,k,l⟩:=s;simp only[ja.e,j8.e]at c⊢;refine br a7 Tryz.func13 anN fun f=>?_;unfold SO;exact ca
def asi(a:j8):bK ar 15 [a.e,a.e] (.bool true):=by obtain⟨t,s⟩:=a;have e:=asq t;have c:=asp s;obtain⟨n,b,d,k,l⟩:=s;simp only[ja.e,j8.e]at c⊢;refine br a7 Tryz.func15 anC fun f=>?_;unfold SD;exact ca
mutual
def arv:∀(t:bO) (m:Int),0<=h4 (oN t) m->h4 (oN t) m<=m-((t.sz:Int)-1)
 | .mk k n s a,m,h=>by
  simp only[oN,h4]at h⊢;have c:(0:Int)<=(hy.s s).len:=by simp[hy.len]
  split at h
  ·omega
  ·split at h
   ·omega
   ·rename_i J U;rw[if_neg J,if_neg U];have b:=Qa a _ h;have e:((rG a).length:Int)=a.length:=by rw[Qj];simp
    have d:((bO.mk k n s a).sz:Int)=1+bO.szL a:=by simp[bO.sz]
    omega
def Qa:∀(l:List bO) (m:Int),0<=qW (rG l) m->qW (rG l) m<=m-((bO.szL l:Int)-l.length)
 |[],m,h=>by simp[rG,qW,bO.szL]
 |x::l,m,h=>by
  simp only[rG,qW]at h⊢;split at h
  ·omega
  ·rename_i J;rw[if_neg J];have U:=arv x m Ω;have a:=Qa l _ h;simp only[bO.szL,ik];omega
end
def arC{l:List bO}{m:Int}(h:0<=qd (.l (l.map oN)) m):(bO.szL l:Int)<=m:=by
 simp only[qd,gP,oK,iz]at h;split at h
 ·omega
 ·rw[<-P9,<-Qj]at h;have:=Qa l _ h;omega
def aa7:∀l:List T,bO.szL (l.map T.tm)=(l.map T.size).sum
 |[]=>rfl
 |x::l=>by
  have e:x.tm.sz=x.size:=by
   clear l;induction x with
   |pair a b d c=>simp[T.tm,bO.sz,bO.szL,T.size,d,c];omega
   |_=>rfl
  simp[bO.szL,aa7 l,e]
def nS(l:List T):List b7:=40::(hQ [32] (l.map cF)++[41])
def nG(d:List az):List b7:=[40,47,61,32]++nS (d.map fun b=>T.var b.v)++[32]++nS (d.map (·.t))++[41]
def oD(x:bR):List b7:=[40]++(if x.k=3 then yx else yy)++[32]++oP x.v++[41]
def p6(x:bq):List b7:=[40,97,98,115,101,110,116,32]++x.s++[32]++oP x.v++[41]
def xe(u:List T)(s:dR):List (List b7):=u.map cF++s.d.map nG++s.k.map oD++s.m.map p6
def vz(u:List T)(s:dR):List b7:=hQ [32] (xe u s)
def afO(l:List T):cF (kK l .nil)=nS l:=by
 have key:∀l:List T,∀x:T,cF x++fq (kK l .nil)=hQ [32] ((x::l).map cF)++[41]:=by
  intro l;induction l with
  |nil=>intro x;simp[kK,fq,hQ]
  |cons y l a=>intro x;simp only[kK,fq,fG,hQ];have:=a y;simp only[fG]at this;rw[this];simp
 cases l with
 |nil=>rfl
 |cons x l=>simp only[kK,cF,nS];rw[key]
def x7{l:List T}(h:∀t∈l,t.ok=true/\t.size<=5000)(b:l.length<=400):(nS l).length<=52000410:=by
 have J:=Xn (l.map cF);rw[List.map_map]at J;have U:(l.map ((fun x=>x.length+1)∘cF)).sum<=130001*l.length:=F3 fun x a=>by have:=Bd x (h x a).1;have:=(h x a).2;simp only[Function.comp];omega
 have c:130001*l.length<=130001*400:=Nat.mul_le_mul_left _ b;simp only[nS,ik,ga,nv];omega
def QI{d:List az}(h:e7 d):∀t∈d.map fun b=>T.var b.v,t.ok=true/\t.size<=5000:=fun t aM=>by obtain⟨b,ae,rfl⟩:=iA.1 aM;have:=(h.ok b ae).1;exact⟨by simpa[T.ok]using this,by simp[T.size]⟩
def Qo{d:List az}(h:e7 d):∀t∈d.map (·.t),t.ok=true/\t.size<=5000:=fun t aM=>by obtain⟨b,ae,rfl⟩:=iA.1 aM;exact⟨(h.ok b ae).2,h.fits.2 b ae⟩
def aey{d:List az}(h:e7 d):(nG d).length<=105000000:=by have J:=x7 (QI h) (by rw[iz];exact h.fits.1);have U:=x7 (Qo h) (by rw[iz];exact h.fits.1);simp only[nG,ga,ik,nv];omega
structure Dh (u:List T) (s:dR):Prop where
 x:abk s
 uf:∀t∈u,t.fit=true
 l:u.length<=1048576
 z:(u.map T.size).sum<=1048576
def Dh.le{u:List T}{s:dR}(h:Dh u s):(vz u s).length<=4000000000:=by
 have d:=Xn (xe u s);have J:((u.map cF).map fun x=>x.length+1).sum<=26*(u.map T.size).sum+u.length:=by
  have hu:=h.uf;clear h d;induction u with
  |nil=>simp
  |cons x u f=>have a:=f fun t aM=>hu t (by simp[aM]);have c:=hu x Ψ;unfold T.fit at c;simp only[cD]at c;have b:=Bd x c.1;simp only[fG,List.sum_cons,ik];omega
 have U:((s.d.map nG).map fun x=>x.length+1).sum<=105000001*30:=by
  rw[List.map_map];have:(s.d.map ((fun x=>x.length+1)∘nG)).sum<=105000001*s.d.length:=F3 fun x c=>by have:=aey (h.x.d x c);simp only[Function.comp];omega
  have e:105000001*s.d.length<=105000001*30:=Nat.mul_le_mul_left _ h.x.dl;omega
 have e:((s.k.map oD).map fun x=>x.length+1).sum<=50*1048576:=by
  rw[List.map_map];have:(s.k.map ((fun x=>x.length+1)∘oD)).sum<=50*s.k.length:=F3 fun x c=>by have:=BZ (h.x.k.at' x c).1;simp only[Function.comp,oD,oP,ga,ik,nv];split<;>simp[yx,yy]<;>omega
  have e:50*s.k.length<=50*1048576:=Nat.mul_le_mul_left _ h.x.kl;omega
 have j:((s.m.map p6).map fun x=>x.length+1).sum<=60*1048576:=by
  rw[List.map_map];have:(s.m.map ((fun x=>x.length+1)∘p6)).sum<=60*s.m.length:=F3 fun x c=>by have a:=BZ (h.x.m.at' x c).1;have b:=Fh (h.x.m.at' x c).2;simp only[Function.comp,p6,oP,ga,ik,nv];omega
  have e:60*s.m.length<=60*1048576:=Nat.mul_le_mul_left _ h.x.ml;omega
 have g:=h.z;have i:=h.l;simp only[xe,sP,List.sum_append]at d;unfold vz;simp only[xe]at d⊢;omega
end
end Go.Proofs.YtfeencekjcjalaaGreatDoor
namespace Go.Pv
section
open Go Go.RowKit
end
end Go.Pv
namespace Go.Pv
open Go Go.RowKit
def ah8(w:World)(a:Addr)(n:Nat):(w.freeze a n).os=w.os/\(w.freeze a n).tape=w.tape/\(w.freeze a n).output=w.output/\(w.freeze a n).heap.size=w.heap.size/\∀j,j≠a.block->(w.freeze a n).heap[j]? =w.heap[j]?:=by
 unfold World.freeze;split
 ·exact⟨rfl,rfl,rfl,rfl,fun _ _=>rfl⟩
 ·exact⟨rfl,rfl,rfl,Ψ,fun j b=>by simp only[Array.getElem?_modify];rw[if_neg (lb b)]⟩
def cZ.dropRow{C:fb}{st:bn}{a:Act}{w w':World}{Z:a8}(h:cZ C st a w Z){g:aB}{o:er}(a1:look g st.e=some o){xs:List ah}(O:o.xs=some xs){n:Nat}{v:Value}(y:Z.ow g=some (n,v)){bl:Nat}(i:v.ownBlock=some bl)
  (E:w'.os=w.os) (R:w'.tape=w.tape) (Q:w'.output=w.output) (f:∀j,j≠bl->w'.heap[j]? =w.heap[j]?) (r:w'.heap.size=w.heap.size):cZ C {st with e:=bW [(g,o)] st.e} a w' Z:=by
 obtain⟨v0,us,s,V,M,K⟩:=h.good.own g o a1;rw[y]at s;simp only[dz,hW]at s;obtain⟨S,rfl⟩:=s;obtain⟨_,_,P⟩:=K xs O;have bj:∀b o,Z.A b o->b≠bl:=fun b o bj e=>P bl i o (e▸bj);have al:l1 w Z w' Z:=⟨fun b o d=>⟨d,World.cell?_of_block (f b (bj b o d))⟩,fun _ _ _ h=>h,fun g n u _ a1=>⟨n,u,a1,.inl ⟨rfl,rfl⟩⟩,fun b o d=>wX (f b (bj b o d)),fun _ _ _ _ h=>h⟩;have x:∀k p,look k (bW [(g,o)] st.e)=some p->k≠g/\look k st.e=some p:=by
  intro k p c;rw[u3]at c;by_cases e:g=k
  ·subst e;simp[look]at c
  ·simp[look,e]at c;exact⟨lb e,c⟩
 have q:∀k,(look k (bW [(g,o)] st.e)).isSome->k≠g/\(look k st.e).isSome:=by intro k c;obtain⟨p,l⟩:=gk.1 c;exact⟨(x k p l).1,by simp[(x k p l).2]⟩
 refine h.over al rfl ⟨fun b o ae=>by rw[r];exact h.good.alt b o ae,fun k cs c=>?_,h.good.inj,fun k p c=>?_,fun k A n n' u F b J U=>h.good.oinj k A n n' u F b (q k J).2 (q A U).2,fun k j n u b J U=>h.good.obx k j n u b (q k J).2 U,h.good.one,fun b ae=>h.good.otr b (ae.imp id fun⟨k,n,u,J,U⟩=>⟨k,n,u,(q k J).2,U⟩)⟩
  ⟨E.trans h.fr.os,R.trans h.fr.tape,Q.trans h.fr.output,by rw[r];exact h.fr.size,fun k c hm=>?_,fun b o d=>?_,h.fr.fresh,h.fr.obj,h.fr.obn,h.fr.row,h.fr.obr,h.fr.trd,fun k j b ae=>⟨(h.fr.trb k j b ae).1,by rw[r];exact(h.fr.trb k j b ae).2⟩,h.fr.trn,fun b o d=>(al.sh b o (h.fr.keep b o d).1).trans (h.fr.sh b o d),h.fr.nrow⟩ h.new
 ·obtain⟨b,t,el,g1,g2,g3,g4,g5⟩:=h.good.box k cs c;refine⟨b,t,el,g1,g2,g3,?_,qT al g5⟩;rw[f b fun e=>h.good.obx g k n v b (by simp[a1]) (by simp[c]) y (by rw[e];exact i) g1];exact g4
 ·obtain⟨H,z⟩:=x k p c;obtain⟨u,t,D,m,L,G⟩:=h.good.own k p z;refine⟨u,t,D,⟨m.1,?_⟩,L,sy al (fun _ _ _ h=>h) G⟩;rcases m.2 with m|⟨bb,cap,cur,f1,f2,f3,f4⟩
  ·exact .inl m
  ·refine .inr ⟨bb,cap,cur,f1,f2,?_,f4⟩;rw[f bb fun e=>H (h.good.oinj k g _ _ _ _ bl (by simp[z]) (by simp[a1]) D y (by rw[f1,<-e];rfl) i)];exact f3
 ·have l:=(M bl i).1;rw[f k fun e=>by subst e;exact l.elim hm (fun U=>Ω)];exact h.fr.block k c hm
 ·obtain⟨B,N⟩:=h.fr.keep b o d;exact⟨B,(al.A b o B).2.trans N⟩
def aas{w:World}{Z:a8}:∀{l:List b7} {us:List Value},dk w Z 1 (gE l) us->us=Lib.byteCells l
 |[],us,h=>by simpa[gE,dk,Lib.byteCells]using h
 |x::xs,us,h=>by simp only[gE,fG,dk]at h;obtain⟨u,a,rfl,⟨J,_,_⟩,U⟩:=h;simp only[aV]at J;subst J;have:=aas (l:=xs) U;rw[this];simp[Lib.byteCells,nu]
end Go.Pv
namespace Go.Proofs
open Go.Shelf Go.RowKit
variable {P:cE} {ρ:Ren}
set_option maxRecDepth 100000 in
def Any.Builder_String_ex(L:Lays.n169 P ρ)(X:Builder.Extra P ρ)(b:Nat)(l:List b7)(w:World)(c:l≠[])(p:Value)(g cap:Nat)(cur:Array Value)(d:w.heap[b]? =some (.cells #[p,.slice (some ⟨g,0,none⟩) l.length cap] (ρ.t 72) (0,0)))
  (f:w.ownsRow 0 (ρ.t 5) 1 (.slice (some ⟨g,0,none⟩) l.length cap) l.length (Lib.byteCells l)) (a1:w.heap[g]? =some (.cells cur (ρ.t 5) (0,0))) (u:l.length<=cap) (s:cap<=maxLen) (z:cur.size=cap*1):
  Calls P (ρ.f 169) #[.pointer (some ⟨b,0,none⟩)] w fun e w'=>e= .returned (.string ⟨l.toArray⟩)/\w'=w.drew.freeze ⟨g,0,none⟩ l.length:=by
 have t:l.length≠0:=by simpa using c
 have y:w.drew.cell? ⟨b,1,none⟩=some (.slice (some ⟨g,0,none⟩) l.length cap):=by have:w.drew.heap[b]? =some (.cells #[p,.slice (some ⟨g,0,none⟩) l.length cap] (ρ.t 72) (0,0)):=d;rw[Lib.cell_of_heap this];rfl
 have q:(Builtin.unsafeSliceData_ #[(ρ.t 37)] (ρ.t 127) #[.slice (some ⟨g,0,none⟩) l.length cap]).run P w.drew= .ok (.pointer (some ⟨g,0,none⟩)) w.drew:=Lib.run_unsafeSliceData_row _ _ _ _ _ _ Ω
 have o:(Builtin.unsafeString_ #[(ρ.t 127),(ρ.t 3)] (ρ.t 9) #[.pointer (some ⟨g,0,none⟩),.int .i64 l.length]).run P w.drew= .ok (.string ⟨l.toArray⟩) (w.drew.freeze ⟨g,0,none⟩ l.length):=by refine Lib.run_unsafeString_row w.drew (ρ.t 127) (ρ.t 3) (ρ.t 9) (ρ.t 5) L.t127 X.cellsByte g cur.size (by have a:w.drew.heap[g]? =some (.cells cur (ρ.t 5) (0,0)):=a1;simp[World.shape?,a]) l c Ω (by unfold maxLen at s;omega) ?_;intro j x r;have:=f.cells (g:=g) rfl j (.int .u8 x.toNat) (by simp[Lib.byteCells,r]);exact this
 have mixed:=L.mixed;have t72:=L.t72;have a72:=L.a72;have z72:=L.z72;have v72:=L.v72;have i:=run_underlying L.t72;have t70:=L.t70;have a70:=L.a70;have z70:=L.z70;have v70:=L.v70;have k:=run_underlying L.t70;have t37:=L.t37;have a37:=L.a37;have z37:=L.z37;have v37:=L.v37;have m:=run_underlying L.t37;have t127:=L.t127;have a127:=L.a127;have z127:=L.z127;have v127:=L.v127;have n:=run_underlying L.t127;have t3:=L.t3;have a3:=L.a3;have z3:=L.z3;have v3:=L.v3;have v:=run_underlying L.t3;have t9:=L.t9;have a9:=L.a9;have z9:=L.z9;have v9:=L.v9;have h:=run_underlying L.t9;have t5:=X.t5;have a5:=X.a5;have z5:=X.z5;have v5:=X.v5;have A:=run_underlying X.t5;go_enter L.f169,Body.n169_ntmps ρ;go_wp2;go_region_o;all_goals(go_wp2;go_ret;exact⟨rfl,rfl⟩)
end Go.Proofs
namespace Go.Proofs
section
open Go.Shelf
def Tryz.lays169_ren:Go.Shelf.Ren:=⟨fun|169=>103|n=>n,fun|70=>135|9=>9|0=>0|72=>137|37=>131|127=>173|3=>3|5=>5|n=>n,fun|n=>n⟩
def Tryz.lays169:Go.Proofs.Lays.n169 ar Tryz.lays169_ren:={
 mixed:=an
 f169:=Tryz.func103.trans (eG some an)
 t0:=Tryz.underlying0
 a0:=Tryz.isAgg0
 z0:=Tryz.sizeOf0
 v0:=Tryz.zeroValue0
 t3:=Tryz.underlying3
 a3:=Tryz.isAgg3
 z3:=Tryz.sizeOf3
 v3:=Tryz.zeroValue3
 t9:=Tryz.underlying9
 a9:=Tryz.isAgg9
 z9:=Tryz.sizeOf9
 v9:=Tryz.zeroValue9
 t37:=Tryz.underlying131
 a37:=Tryz.isAgg131
 z37:=Tryz.sizeOf131
 v37:=Tryz.zeroValue131
 t70:=Tryz.underlying135
 a70:=Tryz.isAgg135
 z70:=Tryz.sizeOf135
 v70:=Tryz.zeroValue135
 t72:=Tryz.underlying137
 a72:=Tryz.isAgg137
 z72:=Tryz.sizeOf137
 v72:=Tryz.zeroValue137
 t127:=Tryz.underlying173
 a127:=Tryz.isAgg173
 z127:=Tryz.sizeOf173
 v127:=Tryz.zeroValue173}
def Tryz.builderE:Builder.Extra ar Tryz.lays169_ren:={
 sizeBuilder:=an
 liesBuilder:=an
 t5:=Tryz.underlying5
 a5:=Tryz.isAgg5
 z5:=Tryz.sizeOf5
 v5:=Tryz.zeroValue5
 infoByte:=an
 cellsByte:=an
 sizeByte:=an
 neB5:=by decide}
def Tryz.laysM171_ren:Go.Shelf.Ren:=⟨fun|171=>115|243=>157|246=>181|283=>201|284=>202|285=>203|286=>204|129=>227|317=>226|318=>228|319=>229|320=>230|337=>247|338=>248|n=>n,fun|3=>3|9=>9|2=>2|4=>4|171=>210|0=>0|53=>211|37=>131|5=>5|173=>214|212=>230|51=>231|20=>20|213=>232|46=>178|232=>248|233=>249|n=>n,fun|17=>0|18=>1|19=>2|n=>n⟩
def Tryz.laysM171:Go.Proofs.LaysM.n171 ar Tryz.laysM171_ren:={
 mixed:=an
 f129:=Tryz.func227.trans (eG some an)
 f171:=Tryz.func115.trans (eG some an)
 f243:=Tryz.func157.trans (eG some an)
 f246:=Tryz.func181.trans (eG some an)
 f283:=Tryz.func201.trans (eG some an)
 f284:=Tryz.func202.trans (eG some an)
 f285:=Tryz.func203.trans (eG some an)
 f286:=Tryz.func204.trans (eG some an)
 f317:=Tryz.func226.trans (eG some an)
 f318:=Tryz.func228.trans (eG some an)
 f319:=Tryz.func229.trans (eG some an)
 f320:=Tryz.func230.trans (eG some an)
 f337:=Tryz.func247.trans (eG some an)
 f338:=Tryz.func248.trans (eG some an)
 t0:=Tryz.underlying0
 a0:=Tryz.isAgg0
 z0:=Tryz.sizeOf0
 v0:=Tryz.zeroValue0
 t2:=Tryz.underlying2
 a2:=Tryz.isAgg2
 z2:=Tryz.sizeOf2
 v2:=Tryz.zeroValue2
 t3:=Tryz.underlying3
 a3:=Tryz.isAgg3
 z3:=Tryz.sizeOf3
 v3:=Tryz.zeroValue3
 t4:=Tryz.underlying4
 a4:=Tryz.isAgg4
 z4:=Tryz.sizeOf4
 v4:=Tryz.zeroValue4
 t5:=Tryz.underlying5
 a5:=Tryz.isAgg5
 z5:=Tryz.sizeOf5
 v5:=Tryz.zeroValue5
 t9:=Tryz.underlying9
 a9:=Tryz.isAgg9
 z9:=Tryz.sizeOf9
 v9:=Tryz.zeroValue9
 t20:=Tryz.underlying20
 a20:=Tryz.isAgg20
 z20:=Tryz.sizeOf20
 v20:=Tryz.zeroValue20
 t37:=Tryz.underlying131
 a37:=Tryz.isAgg131
 z37:=Tryz.sizeOf131
 v37:=Tryz.zeroValue131
 t46:=Tryz.underlying178
 a46:=Tryz.isAgg178
 z46:=Tryz.sizeOf178
 v46:=Tryz.zeroValue178
 t51:=Tryz.underlying231
 a51:=Tryz.isAgg231
 z51:=Tryz.sizeOf231
 v51:=Tryz.zeroValue231
 t53:=Tryz.underlying211
 a53:=Tryz.isAgg211
 z53:=Tryz.sizeOf211
 v53:=Tryz.zeroValue211
 t171:=Tryz.underlying210
 a171:=Tryz.isAgg210
 z171:=Tryz.sizeOf210
 v171:=Tryz.zeroValue210
 t173:=Tryz.underlying214
 a173:=Tryz.isAgg214
 z173:=Tryz.sizeOf214
 v173:=Tryz.zeroValue214
 t212:=Tryz.underlying230
 a212:=Tryz.isAgg230
 z212:=Tryz.sizeOf230
 v212:=Tryz.zeroValue230
 t213:=Tryz.underlying232
 a213:=Tryz.isAgg232
 z213:=Tryz.sizeOf232
 t232:=Tryz.underlying248
 a232:=Tryz.isAgg248
 z232:=Tryz.sizeOf248
 v232:=Tryz.zeroValue248
 t233:=Tryz.underlying249
 a233:=Tryz.isAgg249
 z233:=Tryz.sizeOf249
 v233:=Tryz.zeroValue249
 g17:=an
 g18:=an
 g19:=an
 i0:=an
 i2:=an
 i3:=an
 i4:=an
 i5:=an
 i9:=an
 i20:=an
 i37:=an
 i46:=an
 i51:=an
 i53:=an
 i171:=an
 i173:=an
 i212:=an
 i232:=an
 i233:=an
 m17:=an
 m18:=an
 m19:=by kernel_rfl}
end
end Go.Proofs
namespace Go.Proofs.YtfeencekjcjalaaGreatDoor
section
open Go Go.Pv
def RS:C:=(aa [c6 1 0,bH 2 (.mov (.c (.str [])))] (.seq (aa [bh 4 4 1,cI 5 101 4,cH 6 5] (aU 6 (aa [bH 2 (.mov (.c (.str [])))] .ret) .skip)) (aa [bH 7 (.build [.nilp,.slice 1 .nil []] []),cU (.box 8 (some 861) (.t 7)),I 3 8] (aa [I 9 3,bh 10 4 1,ch 11 102 9 10] (aa [I 12 3,⟨none,.opn (some 13) (.c (.func 103 [])) [.t 12]⟩,I 2 13] .ret)))))
def RU:C:=(aa [bH 4 (.mov (.c (.str [])))] (aa [cU (.bslm 8 none 1 5 []),I 5 8] (.seq (aa [I 9 0,cd 10 9,bT 11 0] (fo 12 11 10 (.seq (.block 1 (aa [I 13 11,cq 14 1 9 11,aw 15 1 14,I 6 13,I 7 15] (.seq (aa [I 16 6,aS 17 .gtr 16 0] (aU 17 (.region [I 18 5,I 19 1,cU (.apps 20 5 (.t 18) (.t 19)),I 5 20]) .skip)) (.region [I 21 5,I 22 7,cU (.apps 23 5 (.t 21) (.t 22)),I 5 23])))) (.region [aS 24 .add 11 1,I 11 24])))) (.seq (.pub 5 (.region [I 25 5,bH 26 (.b2s (.t 25)),I 4 26])) .ret))))
def RR:C:=(aa [bH 2 (.mov (.c (.str [])))] (aa [I 3 0,cI 4 115 3,I 2 4] .ret))
def sX:C:=(aa [c6 3 1] (aa [aK 4 0 1 3,aw 5 1 4] (.block 0 (aa [aS 7 .eql 5 0,I 6 7] (aU 6 (.region [I 8 0,⟨none,.call (some 9) (.c (.func 150 [])) [.t 8,(.c (.str [40,41]))]⟩]) (aa [aS 11 .eql 5 1,I 10 11] (aU 10 (.region [I 12 0,aK 13 1 1 3,aw 14 1 13,cI 15 56 14,bH 16 (.bin .add false (.c (.str [63])) (.t 15)),ch 17 150 12 16]) (aa [aS 19 .eql 5 2,I 18 19] (aU 18 (.region [I 20 0,aK 21 2 1 3,aw 22 1 21,ch 23 150 20 22]) (aa [aS 25 .eql 5 3,I 24 25] (aU 24 (.region [I 26 0,aK 27 1 1 3,aw 28 1 27,cI 29 56 28,ch 30 150 26 29]) (aa [aS 32 .eql 5 4,I 31 32] (aU 31 (aa [I 33 0,⟨none,.call (some 34) (.c (.func 150 [])) [.t 33,(.c (.str [40]))]⟩] (aa [I 35 0,aK 36 3 1 3,aw 37 1 36,iy 38 4 37 0,bh 39 4 38,ch 40 102 35 39] (aa [aK 41 3 1 3,aw 42 1 41,iy 43 4 42 1,bh 44 4 43,b1 4 3 44] (.seq (.block 1 (.loop (.seq (aa [aK 45 0 1 3,aw 46 1 45,aS 47 .eql 46 4] (aU 47 .skip (.exit 1))) (.block 2 (aa [I 48 0,⟨none,.call (some 49) (.c (.func 150 [])) [.t 48,(.c (.str [32]))]⟩] (aa [I 50 0,aK 51 3 1 3,aw 52 1 51,iy 53 4 52 0,bh 54 4 53,ch 55 102 50 54] (.region [aK 56 3 1 3,aw 57 1 56,iy 58 4 57 1,bh 59 4 58,b1 4 3 59]))))))) (.seq (aa [aK 60 0 1 3,aw 61 1 60,aS 62 .neq 61 0] (aU 62 (aa [I 63 0,⟨none,.call (some 64) (.c (.func 150 [])) [.t 63,(.c (.str [32,46,32]))]⟩] (.region [I 65 0,bh 66 4 3,ch 67 102 65 66])) .skip)) (.region [I 68 0,⟨none,.call (some 69) (.c (.func 150 [])) [.t 68,(.c (.str [41]))]⟩])))))) .skip)))))))))))))
def Lh:C:=(aa [bT 4 0,bH 5 (.mov (.c (.junk)))] (aa [I 6 0,cI 7 180 6] (aa [I 8 0,I 9 0,fT 10 9,aK 11 1 1 10,aw 12 1 11,I 13 1,cU (.apps 14 5 (.t 12) (.t 13)),fT 15 8,aK 16 1 1 15,b1 1 16 14] (aa [I 17 1,bH 18 (.slen (.t 17)),I 4 18,bH 5 (.mov (.c (.junk)))] .ret))))
def amS:b4 aT RS [.tmp 2] 1 Tryz.f47=true:=an
def amU:b4 aT RU [.tmp 4] 2 Tryz.f51=true:=an
def amR:b4 aT RR [.tmp 2] 1 Tryz.f56=true:=an
def va:b4 aT sX [] 2 Tryz.f102=true:=an
def Zd:b4 aT Lh [.tmp 4,.tmp 5] 2 Tryz.f150=true:=an
def bz:ah:= .ptr (.obj 861) 0
def cb:cS:=⟨[(.obj 861,[.nilp,.slice 1 .nil []])],[]⟩
def qi:cS:=⟨[(.obj 861,[bz,.slice 1 .nil []])],[]⟩
def bk(l:List b7):cS:=⟨[(.obj 861,[bz,.row 1 (.obj 862) l.length])],[(.obj 862,⟨l.length,5,1,some (gE l)⟩)]⟩
def lU(S:aB->Prop)(l:List b7):ay S (gE l):=by
 induction l with
 |nil=>simp[gE,ay]
 |cons x r a=>simp only[gE,fG,ay,au]at a⊢;exact⟨trivial,a⟩
def Gq:ea cb:=by unfold cb;exact ea.of ⟨by intro m;simp[Pv.look],by intro m;simp[Pv.look]⟩ (by simp[ay,au]) Ψ
def acs:ea qi:=by unfold qi;exact ea.of ⟨by intro m;simp[Pv.look],by intro m;simp[Pv.look]⟩ (by simp[ay,au,bz,inObs,Pv.look]) Ψ
def kU(l:List b7):ea (bk l):=by unfold bk;refine ea.of ⟨by intro m;simp[Pv.look],by intro m;simp[Pv.look]⟩ (by simp[ay,au,bz,inObs,Pv.look]) ?_;intro x b xs a;simp at b;subst b;simp at a;subst a;exact lU _ l
def acu(l a:List b7):Same (bk l) (bk a):=⟨fun k=>by simp only[bk,Pv.look];split<;>rfl,fun k=>by simp only[bk,Pv.look];split<;>rfl⟩
def wZ:(ar.info? 137).map (·.size)=some 2:=an
def alR:liesAt ar ar.depth 137 (2/ar.cellsOf 137) 0 137 1=true:=an
set_option maxRecDepth 100000 in
def aev(b:Nat)(w:World)(c:w.cell? ⟨b,0,none⟩=some (.pointer (some ⟨b,0,none⟩))):
  Calls ar 180 #[.pointer (some ⟨b,0,none⟩)] w fun e w'=>e= .returned (.tuple #[])/\w'=w:=by
 obtain⟨j,a,_⟩:=gI.1 wZ;go_enter Tryz.func180,Tryz.ntmps180;go_wp2;rw[Lib.run_neq_ptr_same w _ Tryz.underlying135 a];go_wp2;go_end0;exact⟨rfl,rfl⟩
set_option maxRecDepth 100000 in
def aeu(b:Nat)(w:World)(g:w.cell? ⟨b,0,none⟩=some (.pointer none))(c:w.shape? b=some (137,2))(f:w.frozen? ⟨b,0,none⟩=false):
  Calls ar 180 #[.pointer (some ⟨b,0,none⟩)] w fun e w'=>e= .returned (.tuple #[])/\w'=w.setCell ⟨b,0,none⟩ (.pointer (some ⟨b,0,none⟩)):=by
 obtain⟨j,d,a⟩:=gI.1 wZ;go_enter Tryz.func180,Tryz.ntmps180;go_wp2;rw[Lib.run_to_unsafe w ⟨b,0,none⟩ Tryz.underlying135 Tryz.underlying197 d (by rw[a];decide) c (Nat.zero_lt_succ 1)];simp only[Result.andThen];rw[Oper.upon_value];go_wp2;rw[run_callFunc_extern Tryz.func200 an an an (e:=ayg) an];rw[Lib.run_noEscape];simp only[Result.andThen];rw[Oper.upon_value];go_wp2;rw[Lib.run_from_unsafe w ⟨b,0,none⟩ Tryz.underlying197 Tryz.underlying135 d c alR];simp only[Result.andThen];rw[Oper.upon_value];go_wp2;go_end0;exact⟨rfl,rfl⟩
def ab7{bf:Array Value}(h:bf.size=1):bf= #[bf.getD 0 undef]:=by apply Array.ext (by simpa using h);intro i J U;simp at U;subst U;simp[Array.getD,h]
def aiv:bG ar 180 [bz] cb fun r p=>r= .tuple []/\p=qi:=by
 refine bG.sem Gq.obj fun w Z bf gl m f=>?_;refine .inl ⟨⟨Tryz.f180,Tryz.func180,by kernel_rfl,by kernel_rfl⟩,?_⟩;obtain⟨bl,us,el,d,y,x,a,c⟩:=f.good.box (.obj 861) _ (show Pv.look (.obj 861) cb.b=some [.nilp,.slice 1 .nil []]from rfl);have s:=el.2 rfl;rw[rE (by rfl)]at a;rw[qR (by rfl)]at c;simp only[c1,aV]at c;obtain⟨v,z,J,⟨rfl,_⟩,u,t,rfl,⟨⟨_,o,_⟩,_⟩,rfl⟩:=c;obtain rfl:=o trivial;have l:us= #[.pointer none,.slice none 0 0]:=by rw[<-Array.toList_inj];simpa using J
 subst l;have h:=f.slot 0;simp only[j7,Pv.get,if_true,bz,aV]at h;obtain⟨b,ae,i⟩:=h;rw[d]at ae;cases ae;have g:=ab7 (by simpa using m);rw[i]at g;clear i;subst g;have n:w.shape? bl=some (137,2):=by have:(137:Nat)=F5:=rfl;rw[this];simp[World.shape?,a,s]
 refine(aeu bl w (by simp[World.cell?,a]) n (by simp[World.frozen?,a])).mono ?_;rintro e w' ⟨rfl,rfl⟩;have k:=(f.setBox (w':=w.setCell ⟨bl,0,none⟩ (.pointer (some ⟨bl,0,none⟩))) (cs':=[bz,.slice 1 .nil []]) (show Pv.look (.obj 861) cb.b=some [.nilp,.slice 1 .nil []]from rfl) d (us:= #[.pointer (some ⟨bl,0,none⟩),.slice none 0 0]) (el:=el) rfl rfl rfl (fun j q=>RowKit.Below.heap_setCell _ _ _ _ (fun e=>q (by simp[e]))) (by simp[World.setCell])
  (by rw[rE (by rfl)];simp[World.setCell,Array.getElem?_modify,a]) (by rw[qR (by rfl)];simp only[c1];exact⟨_,_,rfl,⟨by simp only[bz,aV];exact⟨bl,d,rfl⟩,rfl⟩,_,_,rfl,⟨by simp[aV,maxLen,lim];exact⟨none,0,⟨rfl,rfl⟩,Ω⟩,rfl⟩,rfl⟩)).1
 refine⟨_,_,_,_,.tuple [],qi,rfl,k,by simp[aV,cN],by simp[cb,qi,ho,inObs,Pv.look],by simp[cb,ho],?_,?_,acs.obj,by simp[au,ay],rfl,rfl⟩
 ·refine dH ?_;simp[cb,qi,cG,Pv.look,inObs,ay,au,bz]
 ·refine dK ?_;simp[qi]
def aiw(l:List b7):bG ar 180 [bz] (bk l) fun r q=>r= .tuple []/\q=bk l:=by
 refine bG.sem (kU l).obj fun w Z bf gl n d=>?_;refine .inl ⟨⟨Tryz.f180,Tryz.func180,by kernel_rfl,by kernel_rfl⟩,?_⟩;obtain⟨bl,us,el,j,y,x,i,a⟩:=d.good.box (.obj 861) _ (show Pv.look (.obj 861) (bk l).b=some [bz,.row 1 (.obj 862) l.length]from rfl);rw[rE (by rfl)]at i;rw[qR (by rfl)]at a;simp only[c1,aV,bz]at a;obtain⟨u,z,J,⟨⟨v,h,rfl⟩,_⟩,t,s,rfl,_,rfl⟩:=a;rw[j]at h;cases h;have g:=d.slot 0;simp only[j7,Pv.get,if_true,bz,aV]at g;obtain⟨b,ae,m⟩:=g;rw[j]at ae;cases ae;have f:=ab7 (by simpa using n);rw[m]at f;clear m;subst f;have p:us[0]? =some (.pointer (some ⟨bl,0,none⟩)):=by rw[<-uh,J];rfl
 refine(aev bl w (by simp[World.cell?,i,p])).mono ?_;rintro e w' ⟨rfl,rfl⟩;refine⟨_,_,_,_,.tuple [],bk l,rfl,d,by simp[aV,cN],by simp[bk,ho,inObs,Pv.look],by simp[bk,ho,inObs,Pv.look],?_,?_,(kU l).obj,by simp[au,ay],rfl,rfl⟩
 ·refine dH ?_;simp[bk,Pv.look,inObs,ay,au,bz]
 ·intro k o c;exact⟨c,.inr (by simp[c]),(kU l).ke k o c⟩
def amJ(l:List b7)(p:l≠[]){ob:List aB}{st:bn}{d:aZ Nat}{K:bn->Prop}(ae:Pv.look (.obj 861) st.b=some [bz,.row 1 (.obj 862) l.length])(he:Pv.look (.obj 862) st.e=some ⟨l.length,5,1,some (gE l)⟩)
  (H:K ⟨eY d (.str l) st.t,st.b,bW [(aB.obj 862,(⟨l.length,5,1,some (gE l)⟩:er))] st.e,st.n,st.o⟩):C8 ar ob 103 [bz] st d K:=by
 intro C a w Z bf Hz i m P;refine .inl ⟨⟨Tryz.f103,Tryz.func103,by kernel_rfl,by kernel_rfl⟩,?_⟩;obtain⟨bl,us,el,q,aC,bo,n,c⟩:=i.good.box (.obj 861) _ ae;have Q:=el.2 rfl;rw[rE (by rfl)]at n;rw[qR (by rfl)]at c;simp only[c1,aV,bz]at c;obtain⟨W,CW,J,⟨⟨cn,k,rfl⟩,_⟩,V,U,rfl,⟨⟨⟨g,cap,rfl⟩,G,n',u,b,X,z⟩,_⟩,rfl⟩:=c;rw[q]at k;cases k;obtain⟨v,cs,o,f,bY,L⟩:=i.good.own (.obj 862) _ he;rw[o]at b;simp only[dz,hW]at b;obtain⟨rfl,rfl⟩:=b;obtain rfl:=z rfl;obtain⟨df,E,S⟩:=L _ rfl;obtain rfl:=aas E;simp only at f;rcases f.2 with⟨h,_⟩|⟨Y,R,cur,O,_,a1,t,x,A,N⟩
 ·cases h
 cases O;have y:us= #[.pointer (some ⟨bl,0,none⟩),.slice (some ⟨g,0,none⟩) l.length cap]:=by rw[<-Array.toList_inj];simpa using J
 subst y;simp only[bz,cN,aV]at m;obtain⟨eQ,ws,M,⟨b8,j,rfl⟩,rfl⟩:=m;rw[q]at j;cases j;have s:bf= #[.pointer (some ⟨bl,0,none⟩)]:=by rw[<-Array.toList_inj];simpa using M
 rw[s];have B:(Tryz.lays169_ren.t 72:Nat)=F5:=an
 have r:(Tryz.lays169_ren.t 5:Nat)=5:=an
 have BK:l.length≠0:=by simpa using p
 refine(Go.Proofs.Any.Builder_String_ex Tryz.lays169 Tryz.builderE bl l w p _ g cap cur (by rw[B,<-Q];exact n) (by rw[r];exact f) (by rw[r];exact a1) t x A).mono ?_;rintro e w' ⟨rfl,rfl⟩;obtain⟨D,z2,z3,z4,z5⟩:=ah8 w.drew ⟨g,0,none⟩ l.length;have F:=i.dropRow (w':=w.drew.freeze ⟨g,0,none⟩ l.length) he rfl o rfl D z2 z3 z5 z4;exact⟨_,_,Z,rfl,H,F.put P (by simp only[aV];exact⟨trivial,G⟩)⟩
def bK.sem{f:FuncId}{fn:Func}(aH:ar.funcs[f]? =some fn)(ae:fn.body.isSome=true)(av:(fn.name== "runtime.NumGoroutine")=false){args:List ah}{r:ah}(aD:au (fun _=>eF) r)
  (h:∀(w:World) (Z:a8) (bf:Array Value),n7 w Z->(∀b o,Z.A b o->b<w.heap.size)->cN w Z args bf.toList->Calls ar f bf w fun e w'=> ∃v,e= .returned v/\(∀Z',(∀b o,Z.A b o->Z'.A b o)->aV w' Z' r v)/\w.grownBy w' none):bK ar f args r:=by
 refine bG.sem wD fun w Z bf gl ju oA=>?_;have j3:cN w Z args bf.toList:=by
  have bI:args.length=bf.toList.length:=by simpa using ju.symm
  have:∀(l:List ah) (us:List Value),l.length=us.length->(∀i p,l[i]? =some p->aV w Z p (us.getD i undef))->cN w Z l us:=by
   intro l;induction l with
   |nil=>intro us h _;cases us<;>simp at h⊢;simp[cN]
   |cons p l bB=>
    intro us h hi;cases us with
    |nil=>simp at h
    |cons u us=>simp only[cN];exact⟨u,us,rfl,by simpa using hi 0 p rfl,bB us (by simpa using h) fun i q bA=>by simpa using hi (i+1) q (by simpa using bA)⟩
  refine this _ _ bI fun i p bM=>?_;have ag:=oA.slot i;have hi:=(fp.1 bM).1;rw[Hw,if_pos Ω]at ag;have:args.getD i .junk=p:=by simp[List.getD,bM]
  simp only[Nat.sub_zero,this]at ag;simpa[Array.getD_eq_getD_getElem?]using ag
 refine .inl ⟨⟨fn,aH,ae,av⟩,(h w Z bf gl oA.good.alt j3).mono ?_⟩;rintro e w' ⟨v,rfl,aL,a1⟩;exact⟨v,_,_,Z,r,⟨[],[]⟩,rfl,oA.grown a1,aL Z fun _ _ h=>h,trivial,trivial,fun k cs ad=>by simp[Pv.look]at ad,fun k cs ad=>by simp[Pv.look]at ad,wD,tF (fun _ h=>h.elim) _ aD,rfl,rfl⟩
def Xg{n:Int}(h:eR n):(Lib.itoa n).length<=lim:=by unfold eR at h;have:=Lib.itoa_length_le n Ω Ω;unfold lim;omega
def ai7(w:World)(k:Nat)(os:Array Obj):w.grownBy (Sort.grow (w.drewN k) os) none:=⟨rfl,rfl,rfl,Ψ,fun j a _=>Sort.heap_grow_old _ _ a⟩
def VG(i:Nat)(hi:i<20):(0,i,20,fun v=>v=pz .u64 ((10 ^ i:Nat):Int))∈Bq:=by unfold Bq;exact sQ _ (iA.2 ⟨i,List.mem_range.2 hi,rfl⟩)
def arE{w:World}{Z:a8}(h:n7 w Z):Lib.TabIs ar w "internal/strconv.uint64pow10" .u64 Lib.pow10Tab:=by
 have a1:ar.globalNamed "internal/strconv.uint64pow10" =some 0:=an
 obtain⟨_,_,el,fS⟩:=h _ (VG 0 Ω);unfold Lib.TabIs;simp only[World.var?,a1,ld];unfold Pv.shape at fS;simp only at fS;split at fS
 ·rename_i cur fi fz hw;rw[hw];simp only[dz,hW]at fS;simp only[dz];apply Array.ext
  ·simp[fS.1,Lib.pow10Tab]
  ·intro i J U;obtain⟨_,⟨v,aL,bM⟩,_⟩:=h _ (VG i Ω);simp only at aL bM;subst bM;have aA:cur[i]? =some (pz .u64 ((10 ^ i:Nat):Int)):=by simpa[World.cell?,hw]using aL
   rw[Array.getElem?_eq_getElem J]at aA;rw[ft aA];simp[Lib.pow10Tab]
 ·cases fS
def ar5(n:Int)(h:eR n):bK ar 115 [.int .i64 n] (.str (Lib.itoa n)):=by
 refine bK.sem Tryz.func115 an an go fun w Z bf gl bj a=>?_;simp only[cN,aV]at a;obtain⟨v,us,c,rfl,rfl⟩:=a;have b:bf= #[.int .i64 n]:=by rw[<-Array.toList_inj];simpa using c
 subst b;unfold eR at h;refine(Any.strconv_Itoa Tryz.laysM171 n Ω Ω w (arE gl)).mono ?_;rintro e w' ⟨rfl,k,os,rfl⟩;exact⟨_,rfl,fun Z' _=>by simp only[aV];exact⟨trivial,Xg t7⟩,ai7 w k os⟩
def acr:Same cb qi:=⟨fun k=>by simp only[cb,qi,Pv.look];split<;>rfl,fun k=>rfl⟩
def cx.two{P:cE}{n:Nat}{args:List ah}{st:bn}{d:aZ Nat}{K:bn->Prop}{s:cS}{Q:ah->cS->Prop}(f:bG P n args s Q)(b:ea s)(ae:∀k cs,Pv.look k s.b=some cs->Pv.look k st.b=some cs)(he:∀k o,Pv.look k s.e=some o->Pv.look k st.e=some o)
  (e:ay (inObs s) args) (h:∀r a,Q r a->((∀m,(Pv.look (.obj m) a.b).isSome->(Pv.look (.obj m) s.b).isSome\/ .obj m∉st.o)/\(∀m,(Pv.look (.obj m) a.e).isSome->(Pv.look (.obj m) s.e).isSome\/ .obj m∉st.o))/\K ⟨eY d r st.t,bW s.b st.b++a.b,bW s.e st.e++a.e,st.n,st.o++di a⟩):cx P n args st d K:=
 .inl ⟨s,Q,fun k cs aA=>⟨ae k cs aA,.inl (by simp[aA]),b.kb k cs aA⟩,fun k o al=>⟨he k o al,.inr (by simp[al]),b.ke k o al⟩,b.obj,e,f,fun r a c=>h r a c⟩
def yN(a b:List b7):gE (a++b)=gE a++gE b:=by simp[gE]
def air(t:List b7)(aM:t≠[])(c:t.length<=lim):bG ar 150 [bz,.str t] cb fun r a=>r= .tuple [.int .i64 t.length,.junk]/\a=bk t:=by have b:=Gq;simp only[cb]at b⊢;refine bG.mk mixed a7 Tryz.func150 Zd Ψ b.obj fun e d=>?_;unfold Lh;simp[bz];refine cx.ob aiv Gq (by simp only[cb];exact aG) (by simp only[cb];exact aG) (by simp[inObs,Pv.look,cb,bz,ay,au]) ?_;rintro r a ⟨rfl,rfl⟩;refine⟨acr,?_⟩;simp[bW,cb,qi,bz,aM,c];refine cJ.new (bk t) (.inl rfl) (kU t) gQ f9 f9 ?_;simp[cM,aX,aY,aW,bk,bz,inObs,Pv.look,au,ay]
def ais(l t:List b7)(e:(l++t).length<=lim):bG ar 150 [bz,.str t] (bk l) fun r a=>r= .tuple [.int .i64 t.length,.junk]/\a=bk (l++t):=by
 have b:=kU l;have c:l.length+t.length<=lim:=by simpa using e
 have d:(gE l).length=l.length:=by simp[gE]
 simp only[bk]at b⊢;refine bG.mk mixed a7 Tryz.func150 Zd Ψ b.obj fun g f=>?_;unfold Lh;simp[bz];refine cx.ob (aiw l) (kU l) f9 f9 (by simp[inObs,Pv.look,bk,bz,ay,au]) ?_;rintro r a ⟨rfl,rfl⟩;refine⟨Same.refl _,?_⟩;simp[bW,bk,bz,c,d];refine cJ.at (bk (l++t)) (.inl rfl) (kU _) (acu l (l++t)) f9 (by simp only[bk,bz,yN];exact aG) ?_;simp[cM,aX,aY,aW,bk,bz,inObs,Pv.look,au,ay]
def abq(n:Int)(h:eR n):bK ar 56 [.int .i64 n] (.str (Lib.itoa n)):=by have k:=ar5 n h;refine br a7 Tryz.func56 amR fun a=>?_;unfold RR;exact ca
def cj:aZ (List b7)->cS
 |none=>cb
 |some l=>bk l
def QW:∀o,ea (cj o)
 |none=>Gq
 |some l=>kU l
def cx.bd{P:cE}{n:Nat}{args:List ah}{st:bn}{d:aZ Nat}{K:bn->Prop}{o:aZ (List b7)}{r:ah}{a:List b7}(i:bG P n args (cj o) fun b c=>b=r/\c=bk a)(ae:∀k cs,Pv.look k (cj o).b=some cs->Pv.look k st.b=some cs)(he:∀k p,Pv.look k (cj o).e=some p->Pv.look k st.e=some p)
  (g:ay (inObs (cj o)) args) (f:o=none->aB.obj 862∉st.o) (h:K ⟨eY d r st.t,bW (cj o).b st.b++(bk a).b,bW (cj o).e st.e++(bk a).e,st.n,st.o++[.obj 861,.obj 862]⟩):cx P n args st d K:=by
 refine cx.two i (QW o) ae he g ?_;rintro b c ⟨rfl,rfl⟩;refine⟨⟨fun m hm=>.inl ?_,fun m hm=>?_⟩,h⟩
 ·simp only[bk,Pv.look]at hm;split at hm
  ·rename_i e;rw[<-e];cases o<;>simp[cj,cb,bk,Pv.look]
  ·cases hm
 ·simp only[bk,Pv.look]at hm;split at hm
  ·rename_i e;rw[<-e];cases o with
   |none=>exact .inr (f rfl)
   |some l=>exact .inl (by simp[cj,bk,Pv.look])
  ·cases hm
def kf(o:aZ (List b7))(t:List b7)(aM:o=none->t≠[])(a:(o.getD []++t).length<=lim):bG ar 150 [bz,.str t] (cj o) fun r b=>r= .tuple [.int .i64 t.length,.junk]/\b=bk (o.getD []++t):=by
 cases o with
 |none=>exact air t (aM rfl) (by simpa using a)
 |some l=>exact ais l t a
def uU(n:Int):Lib.itoa n≠[]:=by
 unfold Lib.itoa;split
 ·simp
 ·exact Ul _
def oV(l:List b7)(u:T):bn:=⟨[(0,.ptr (.obj 861) 0),(3,.ptr (.loc 0) 0)],(bk l).b++[(.loc 0,cells u.e)],(bk l).e,1,[.obj 861,.obj 862]⟩
def ai3(n:Nat):∀t:T,t.size<=n->t.ok=true->∀o:aZ (List b7),(o.getD []++cF t).length<=lim->bG ar 102 [bz,t.e] (cj o) fun r M=>r= .tuple []/\M=bk (o.getD []++cF t):=by
 induction n with
 |zero=>intro t h;have:=t.size_pos;omega
 |succ n j=>
  intro t L z o c;have d:=QW o;have q:(40:b7)=40:=rfl;cases t with
  |nil=>
   clear j;simp only[cF]at c⊢;cases o with
   |none=>simp only[cj,cb,bk,Option.getD]at d c⊢;refine bG.mk mixed a7 Tryz.func102 va Ψ d.obj fun f e=>?_;unfold sX;clear f e;simp[bz];(with_reducible repeat' first|refine ak ?_|simp);refine cx.bd (o:=_) (kf (none) ([40,41]) (by simp[uU,q]) c) ci ci dg Ψ ?_;simp[bW,cj,cb,bk,bz];refine cJ.new (bk ([]++([40,41]))) Ψ (kU _) gQ f9 f9 ?_;simp[cM,aX,aY,aW,bk,bz,inObs,Pv.look,au,ay]
   |some l=>simp only[cj,cb,bk,Option.getD]at d c⊢;refine bG.mk mixed a7 Tryz.func102 va Ψ d.obj fun f e=>?_;unfold sX;clear f e;simp[bz];(with_reducible repeat' first|refine ak ?_|simp);refine cx.bd (o:=_) (kf (some l) ([40,41]) (by simp[uU,q]) c) ci ci dg Ψ ?_;simp[bW,cj,cb,bk,bz];refine cJ.new (bk (l++([40,41]))) Ψ (kU _) gQ f9 f9 ?_;simp[cM,aX,aY,aW,bk,bz,inObs,Pv.look,au,ay]
  |var v=>
   clear j;have A:eR v:=by simp[T.ok]at z;unfold eR;omega
   have p:=abq v A;have N:=Xg A;have K:(Lib.itoa v).length+1<=lim:=by have:=Lib.itoa_length_le v (by unfold eR at A;omega) (by unfold eR at A;omega);unfold lim;omega
   simp only[cF]at c⊢;cases o with
   |none=>simp only[cj,cb,bk,Option.getD]at d c⊢;refine bG.mk mixed a7 Tryz.func102 va Ψ d.obj fun f e=>?_;unfold sX;clear f e;simp[bz];(with_reducible repeat' first|refine ak ?_|refine aI p ?_|refine aJ p ?_|simp[K]);refine cx.bd (o:=_) (kf (none) (63::Lib.itoa v) (by simp[uU,q]) c) ci ci dg Ψ ?_;simp[bW,cj,cb,bk,bz];refine cJ.new (bk ([]++(63::Lib.itoa v))) Ψ (kU _) gQ f9 f9 ?_;simp[cM,aX,aY,aW,bk,bz,inObs,Pv.look,au,ay]
   |some l=>simp only[cj,cb,bk,Option.getD]at d c⊢;refine bG.mk mixed a7 Tryz.func102 va Ψ d.obj fun f e=>?_;unfold sX;clear f e;simp[bz];(with_reducible repeat' first|refine ak ?_|refine aI p ?_|refine aJ p ?_|simp[K]);refine cx.bd (o:=_) (kf (some l) (63::Lib.itoa v) (by simp[uU,q]) c) ci ci dg Ψ ?_;simp[bW,cj,cb,bk,bz];refine cJ.new (bk (l++(63::Lib.itoa v))) Ψ (kU _) gQ f9 f9 ?_;simp[cM,aX,aY,aW,bk,bz,inObs,Pv.look,au,ay]
  |sym s=>
   clear j;have q:s≠[]:=YK (by simpa[T.ok]using z);simp only[cF]at c⊢;cases o with
   |none=>simp only[cj,cb,bk,Option.getD]at d c⊢;refine bG.mk mixed a7 Tryz.func102 va Ψ d.obj fun f e=>?_;unfold sX;clear f e;simp[bz];(with_reducible repeat' first|refine ak ?_|simp);refine cx.bd (o:=_) (kf (none) (s) (by simp[uU,q]) c) ci ci dg Ψ ?_;simp[bW,cj,cb,bk,bz];refine cJ.new (bk ([]++(s))) Ψ (kU _) gQ f9 f9 ?_;simp[cM,aX,aY,aW,bk,bz,inObs,Pv.look,au,ay]
   |some l=>simp only[cj,cb,bk,Option.getD]at d c⊢;refine bG.mk mixed a7 Tryz.func102 va Ψ d.obj fun f e=>?_;unfold sX;clear f e;simp[bz];(with_reducible repeat' first|refine ak ?_|simp);refine cx.bd (o:=_) (kf (some l) (s) (by simp[uU,q]) c) ci ci dg Ψ ?_;simp[bW,cj,cb,bk,bz];refine cJ.new (bk (l++(s))) Ψ (kU _) gQ f9 f9 ?_;simp[cM,aX,aY,aW,bk,bz,inObs,Pv.look,au,ay]
  |num v=>
   clear j;have A:eR v:=by simp[T.ok]at z;unfold eR;omega
   have p:=abq v A;simp only[cF]at c⊢;cases o with
   |none=>simp only[cj,cb,bk,Option.getD]at d c⊢;refine bG.mk mixed a7 Tryz.func102 va Ψ d.obj fun f e=>?_;unfold sX;clear f e;simp[bz];(with_reducible repeat' first|refine ak ?_|refine aI p ?_|refine aJ p ?_|simp);refine cx.bd (o:=_) (kf (none) (Lib.itoa v) (by simp[uU,q]) c) ci ci dg Ψ ?_;simp[bW,cj,cb,bk,bz];refine cJ.new (bk ([]++(Lib.itoa v))) Ψ (kU _) gQ f9 f9 ?_;simp[cM,aX,aY,aW,bk,bz,inObs,Pv.look,au,ay]
   |some l=>simp only[cj,cb,bk,Option.getD]at d c⊢;refine bG.mk mixed a7 Tryz.func102 va Ψ d.obj fun f e=>?_;unfold sX;clear f e;simp[bz];(with_reducible repeat' first|refine ak ?_|refine aI p ?_|refine aJ p ?_|simp);refine cx.bd (o:=_) (kf (some l) (Lib.itoa v) (by simp[uU,q]) c) ci ci dg Ψ ?_;simp[bW,cj,cb,bk,bz];refine cJ.new (bk (l++(Lib.itoa v))) Ψ (kU _) gQ f9 f9 ?_;simp[cM,aX,aY,aW,bk,bz,inObs,Pv.look,au,ay]
  |pair a b=>
   simp only[T.size]at L;simp only[T.ok,cD]at z;have G:=j a Ω z.1;have E:(o.getD []).length+(1+((cF a).length+(fq b).length))<=lim:=by simpa[cF,Nat.add_comm 1]using c
   simp only[cF]at c⊢;obtain⟨H,D⟩:∃H,H=o.getD []++40::(cF a++fq b):=⟨_,rfl⟩;rw[<-D]at c⊢;have O:=b.size_pos;cases o with
   |none=>
    have kw:=kf none [40] Ψ (by unfold lim;simp);have B:=G (some [40]) (by simp at E⊢;omega);simp only[cj,cb,bk,Option.getD]at d⊢;refine bG.mk mixed a7 Tryz.func102 va Ψ d.obj fun f e=>?_;unfold sX;clear f e;simp[bz];(with_reducible repeat' first|refine ak ?_|simp);refine cx.bd (o:=_) (kw) ci ci dg Ψ ?_;simp[bW,cj,cb,bk,bz];(with_reducible repeat' first|refine ak ?_|simp);refine cx.bd (o:=_) (B) ci ci dg Ψ ?_;simp[bW,cj,cb,bk,bz];(with_reducible repeat' first|refine ak ?_|simp);refine mB (fun x:T×List b7=>oV x.2 x.1) (fun x=>x.1.size) (fun x=>x.1.ok=true/\x.1.size<=n/\x.2++fq x.1=H) (b,[]++40::cF a) (by simp[oV,bk,bz];exact⟨by simp[fresh,ay,au,bX,inObs,Pv.look,lU],dH m7,dK m8,Ψ⟩) ⟨z.2,(by show b.size<=n;omega),by rw[D];simp⟩ ?_;rintro⟨u,acc⟩ ⟨g,k,F⟩ J;clear J kw B G D E;simp only at g k F;subst F;cases u with
    |pair x y=>
     simp only[T.size]at k;simp only[T.ok,cD]at g;have w:acc.length+(1+((cF x).length+(fq y).length))<=lim:=by simpa[fq,Nat.add_comm 1]using c
     have kw:=kf (some acc) [32] Ψ gc;have i:=j x Ω g.1 (some (acc++[32])) gc;simp[oV,bk,bz];(with_reducible repeat' first|refine ak ?_|simp);refine cx.bd (o:=_) (kw) ci ci dg Ψ ?_;simp[bW,cj,cb,bk,bz];(with_reducible repeat' first|refine ak ?_|simp);refine cx.bd (o:=_) (i) ci ci dg Ψ ?_;simp[bW,cj,cb,bk,bz];(with_reducible repeat' first|refine ak ?_|simp);refine bQ.whl (y,acc++32::cF x) (by show y.size<1+x.size+y.size;omega) ⟨g.2,(by show y.size<=n;omega),by simp[fq]⟩ ?_;simp[oV,bk,bz];exact⟨by simp[fresh,ay,au,bX,inObs,Pv.look,lU],dH m7,dK m8,Ψ⟩
    |nil=>have kw:=kf (some acc) [41] Ψ (by simpa[fq]using c);simp only[fq];simp[oV,bk,bz];(with_reducible repeat' first|refine ak ?_|simp);refine cx.bd (o:=_) (kw) ci ci dg Ψ ?_;simp[bW,cj,cb,bk,bz];refine cJ.new (bk (acc++[41])) Ψ (kU _) gQ f9 f9 ?_;simp[cM,aX,aY,aW,bk,bz,inObs,Pv.look,au,ay]
    |var v=>
     have w:acc.length+(3+((cF (T.var v)).length+1))<=lim:=by simp[fq,cF]at c⊢;omega
     have kw:=kf (some acc) [32,46,32] Ψ gc;have i:=j (T.var v) k g (some (acc++[32,46,32])) gc;have m:=kf (some (acc++[32,46,32]++cF (T.var v))) [41] Ψ gc;have he:acc++fq (T.var v)=acc++[32,46,32]++cF (T.var v)++[41]:=by simp[fq,cF]
     rw[he];simp[oV,bk,bz];(with_reducible repeat' first|refine ak ?_|simp);refine cx.bd (o:=_) (kw) ci ci dg Ψ ?_;simp[bW,cj,cb,bk,bz];(with_reducible repeat' first|refine ak ?_|simp);refine cx.bd (o:=_) (i) ci ci dg Ψ ?_;simp[bW,cj,cb,bk,bz];(with_reducible repeat' first|refine ak ?_|simp);refine cx.bd (o:=_) (m) ci ci dg Ψ ?_;simp[bW,cj,cb,bk,bz];refine cJ.new (bk (acc++[32,46,32]++cF (T.var v)++[41])) Ψ (kU _) gQ f9 f9 ?_;simp[cM,aX,aY,aW,bk,bz,inObs,Pv.look,au,ay]
    |sym v=>
     have w:acc.length+(3+((cF (T.sym v)).length+1))<=lim:=by simp[fq,cF]at c⊢;omega
     have kw:=kf (some acc) [32,46,32] Ψ gc;have i:=j (T.sym v) k g (some (acc++[32,46,32])) gc;have m:=kf (some (acc++[32,46,32]++cF (T.sym v))) [41] Ψ gc;have he:acc++fq (T.sym v)=acc++[32,46,32]++cF (T.sym v)++[41]:=by simp[fq,cF]
     rw[he];simp[oV,bk,bz];(with_reducible repeat' first|refine ak ?_|simp);refine cx.bd (o:=_) (kw) ci ci dg Ψ ?_;simp[bW,cj,cb,bk,bz];(with_reducible repeat' first|refine ak ?_|simp);refine cx.bd (o:=_) (i) ci ci dg Ψ ?_;simp[bW,cj,cb,bk,bz];(with_reducible repeat' first|refine ak ?_|simp);refine cx.bd (o:=_) (m) ci ci dg Ψ ?_;simp[bW,cj,cb,bk,bz];refine cJ.new (bk (acc++[32,46,32]++cF (T.sym v)++[41])) Ψ (kU _) gQ f9 f9 ?_;simp[cM,aX,aY,aW,bk,bz,inObs,Pv.look,au,ay]
    |num v=>
     have w:acc.length+(3+((cF (T.num v)).length+1))<=lim:=by simp[fq,cF]at c⊢;omega
     have kw:=kf (some acc) [32,46,32] Ψ gc;have i:=j (T.num v) k g (some (acc++[32,46,32])) gc;have m:=kf (some (acc++[32,46,32]++cF (T.num v))) [41] Ψ gc;have he:acc++fq (T.num v)=acc++[32,46,32]++cF (T.num v)++[41]:=by simp[fq,cF]
     rw[he];simp[oV,bk,bz];(with_reducible repeat' first|refine ak ?_|simp);refine cx.bd (o:=_) (kw) ci ci dg Ψ ?_;simp[bW,cj,cb,bk,bz];(with_reducible repeat' first|refine ak ?_|simp);refine cx.bd (o:=_) (i) ci ci dg Ψ ?_;simp[bW,cj,cb,bk,bz];(with_reducible repeat' first|refine ak ?_|simp);refine cx.bd (o:=_) (m) ci ci dg Ψ ?_;simp[bW,cj,cb,bk,bz];refine cJ.new (bk (acc++[32,46,32]++cF (T.num v)++[41])) Ψ (kU _) gQ f9 f9 ?_;simp[cM,aX,aY,aW,bk,bz,inObs,Pv.look,au,ay]
   |some l=>
    have kw:=kf (some l) [40] Ψ (by simp at E⊢;omega);have B:=G (some (l++[40])) (by simp at E⊢;omega);simp only[cj,cb,bk,Option.getD]at d⊢;refine bG.mk mixed a7 Tryz.func102 va Ψ d.obj fun f e=>?_;unfold sX;clear f e;simp[bz];(with_reducible repeat' first|refine ak ?_|simp);refine cx.bd (o:=_) (kw) ci ci dg Ψ ?_;simp[bW,cj,cb,bk,bz];(with_reducible repeat' first|refine ak ?_|simp);refine cx.bd (o:=_) (B) ci ci dg Ψ ?_;simp[bW,cj,cb,bk,bz];(with_reducible repeat' first|refine ak ?_|simp);refine mB (fun x:T×List b7=>oV x.2 x.1) (fun x=>x.1.size) (fun x=>x.1.ok=true/\x.1.size<=n/\x.2++fq x.1=H) (b,l++40::cF a) (by simp[oV,bk,bz];exact⟨by simp[fresh,ay,au,bX,inObs,Pv.look,lU],dH m7,dK m8,Ψ⟩) ⟨z.2,(by show b.size<=n;omega),by rw[D];simp⟩ ?_;rintro⟨u,acc⟩ ⟨g,k,F⟩ J;clear J kw B G D E;simp only at g k F;subst F;cases u with
    |pair x y=>
     simp only[T.size]at k;simp only[T.ok,cD]at g;have w:acc.length+(1+((cF x).length+(fq y).length))<=lim:=by simpa[fq,Nat.add_comm 1]using c
     have kw:=kf (some acc) [32] Ψ gc;have i:=j x Ω g.1 (some (acc++[32])) gc;simp[oV,bk,bz];(with_reducible repeat' first|refine ak ?_|simp);refine cx.bd (o:=_) (kw) ci ci dg Ψ ?_;simp[bW,cj,cb,bk,bz];(with_reducible repeat' first|refine ak ?_|simp);refine cx.bd (o:=_) (i) ci ci dg Ψ ?_;simp[bW,cj,cb,bk,bz];(with_reducible repeat' first|refine ak ?_|simp);refine bQ.whl (y,acc++32::cF x) (by show y.size<1+x.size+y.size;omega) ⟨g.2,(by show y.size<=n;omega),by simp[fq]⟩ ?_;simp[oV,bk,bz];exact⟨by simp[fresh,ay,au,bX,inObs,Pv.look,lU],dH m7,dK m8,Ψ⟩
    |nil=>have kw:=kf (some acc) [41] Ψ (by simpa[fq]using c);simp only[fq];simp[oV,bk,bz];(with_reducible repeat' first|refine ak ?_|simp);refine cx.bd (o:=_) (kw) ci ci dg Ψ ?_;simp[bW,cj,cb,bk,bz];refine cJ.new (bk (acc++[41])) Ψ (kU _) gQ f9 f9 ?_;simp[cM,aX,aY,aW,bk,bz,inObs,Pv.look,au,ay]
    |var v=>
     have w:acc.length+(3+((cF (T.var v)).length+1))<=lim:=by simp[fq,cF]at c⊢;omega
     have kw:=kf (some acc) [32,46,32] Ψ gc;have i:=j (T.var v) k g (some (acc++[32,46,32])) gc;have m:=kf (some (acc++[32,46,32]++cF (T.var v))) [41] Ψ gc;have he:acc++fq (T.var v)=acc++[32,46,32]++cF (T.var v)++[41]:=by simp[fq,cF]
     rw[he];simp[oV,bk,bz];(with_reducible repeat' first|refine ak ?_|simp);refine cx.bd (o:=_) (kw) ci ci dg Ψ ?_;simp[bW,cj,cb,bk,bz];(with_reducible repeat' first|refine ak ?_|simp);refine cx.bd (o:=_) (i) ci ci dg Ψ ?_;simp[bW,cj,cb,bk,bz];(with_reducible repeat' first|refine ak ?_|simp);refine cx.bd (o:=_) (m) ci ci dg Ψ ?_;simp[bW,cj,cb,bk,bz];refine cJ.new (bk (acc++[32,46,32]++cF (T.var v)++[41])) Ψ (kU _) gQ f9 f9 ?_;simp[cM,aX,aY,aW,bk,bz,inObs,Pv.look,au,ay]
    |sym v=>
     have w:acc.length+(3+((cF (T.sym v)).length+1))<=lim:=by simp[fq,cF]at c⊢;omega
     have kw:=kf (some acc) [32,46,32] Ψ gc;have i:=j (T.sym v) k g (some (acc++[32,46,32])) gc;have m:=kf (some (acc++[32,46,32]++cF (T.sym v))) [41] Ψ gc;have he:acc++fq (T.sym v)=acc++[32,46,32]++cF (T.sym v)++[41]:=by simp[fq,cF]
     rw[he];simp[oV,bk,bz];(with_reducible repeat' first|refine ak ?_|simp);refine cx.bd (o:=_) (kw) ci ci dg Ψ ?_;simp[bW,cj,cb,bk,bz];(with_reducible repeat' first|refine ak ?_|simp);refine cx.bd (o:=_) (i) ci ci dg Ψ ?_;simp[bW,cj,cb,bk,bz];(with_reducible repeat' first|refine ak ?_|simp);refine cx.bd (o:=_) (m) ci ci dg Ψ ?_;simp[bW,cj,cb,bk,bz];refine cJ.new (bk (acc++[32,46,32]++cF (T.sym v)++[41])) Ψ (kU _) gQ f9 f9 ?_;simp[cM,aX,aY,aW,bk,bz,inObs,Pv.look,au,ay]
    |num v=>
     have w:acc.length+(3+((cF (T.num v)).length+1))<=lim:=by simp[fq,cF]at c⊢;omega
     have kw:=kf (some acc) [32,46,32] Ψ gc;have i:=j (T.num v) k g (some (acc++[32,46,32])) gc;have m:=kf (some (acc++[32,46,32]++cF (T.num v))) [41] Ψ gc;have he:acc++fq (T.num v)=acc++[32,46,32]++cF (T.num v)++[41]:=by simp[fq,cF]
     rw[he];simp[oV,bk,bz];(with_reducible repeat' first|refine ak ?_|simp);refine cx.bd (o:=_) (kw) ci ci dg Ψ ?_;simp[bW,cj,cb,bk,bz];(with_reducible repeat' first|refine ak ?_|simp);refine cx.bd (o:=_) (i) ci ci dg Ψ ?_;simp[bW,cj,cb,bk,bz];(with_reducible repeat' first|refine ak ?_|simp);refine cx.bd (o:=_) (m) ci ci dg Ψ ?_;simp[bW,cj,cb,bk,bz];refine cJ.new (bk (acc++[32,46,32]++cF (T.num v)++[41])) Ψ (kU _) gQ f9 f9 ?_;simp[cM,aX,aY,aW,bk,bz,inObs,Pv.look,au,ay]
def afP(t:T)(h:t.ok=true):cF t≠[]:=by
 cases t with
 |sym s=>simp only[cF];exact YK (by simpa[T.ok]using h)
 |num n=>simp only[cF];exact uU n
 |_=>simp[cF]
def afN{t:T}(h:t.fit=true):(cF t).length<=lim:=by
 have J:=Bd t (LX h);have U:t.size<=5000:=by unfold T.fit at h;simp at h;exact h.2
 unfold lim;omega
def J6(t:T)(h:t.fit=true):bK ar 47 [t.e] (.str (cF t)):=by have a:=abz t;rw[h]at a;have kw:=ai3 t.size t (e2 _) (LX h) none (by simpa using afN h);have b:=afP t (LX h);refine br a7 Tryz.func47 amS fun c=>?_;unfold RS;simp;((with_reducible repeat' first|refine ak ?_|refine aI a ?_|refine aJ a ?_|simp|((first|apply bV|apply b0|apply bZ)<;>intro h<;>try simp at h))<;>(try exact cA));refine cx.bd (o:=none) kw ci ci dg Ψ ?_;simp[bW,cj,cb,bk,bz];refine amJ (cF t) b (by simp[bz,Pv.look]) i7 ?_;simp;simp[bF,aX,aY,aW]
def RG:∀l:List b7,qq (gE l)=some l
 |[]=>rfl
 |c::l=>by have:=RG l;simp only[gE,fG,qq]at this⊢;rw[this];simp
def jY(l:List (List b7)):List ah:=l.map ah.str
@[simp]def avZ(S:aB->Prop)(l:List (List b7)):ay S (jY l)=True:=by
 apply eq_true;induction l with
 |nil=>simp[jY,ay]
 |cons x r a=>simp only[jY,fG,ay,au]at a⊢;exact⟨trivial,a⟩
@[simp]def axI(l:List (List b7)):cR (jY l)=jY l:=by
 induction l with
 |nil=>rfl
 |cons x r a=>simp only[jY,fG,cR,de]at a⊢;rw[a]
@[simp]def ax2(l:List (List b7)):(jY l).length=l.length:=by simp[jY]
def aa1{l:List (List b7)}{i:Nat}(h:i<l.length):∀a,(jY l)[i]'a= .str l[i]:=fun _=>by simp[jY]
def gM(S:aB->Prop):∀a b:List ah,ay S (a++b)=(ay S a/\ay S b)
 |[],b=>by simp[ay]
 |x::a,b=>by simp only[b3,ay,gM S a b,and_assoc]
def Nv(b:List b7):∀(l:List (List b7)) (k:Nat),(hQ b (l.take k)).length<=(hQ b l).length
 |[],k=>by simp
 |[x],k=>by cases k<;>simp[hQ]
 |x::y::r,0=>by simp[hQ]
 |x::y::r,1=>by simp[hQ]
 |x::y::r,k+2=>by have:=Nv b (y::r) (k+1);simp only[List.take_succ_cons,hQ,ga]at this⊢;omega
def abr(l:List (List b7))(b:List b7)(r:(hQ b l).length<=lim):bK ar 51 [.slice 1 .no (jY l),.str b] (.str (hQ b l)):=by
 refine br a7 Tryz.func51 amU fun n=>?_;unfold RU;have ae:l.length<=lim/\b.length<=lim:=by simpa[eV,eN,eS]using n
 clear n;simp;((with_reducible repeat' first|refine ak ?_|simp|((first|apply bV|apply b0|apply bZ)<;>intro h<;>try simp at h))<;>(try exact cA));refine gb (fun i (acc:List b7)=>⟨[(1,.str b),(9,.slice 1 .no (jY l)),(10,.int .i64 l.length),(5,.row 1 (.loc 0) acc.length),(11,.int .i64 i)],[],[(.loc 0,⟨acc.length,5,1,some (gE acc)⟩)],1,[]⟩) l.length (fun i acc=>acc=hQ b (l.take i)) [] (by simp[show gE []=[]from rfl];exact⟨by simp[fresh,ay,au,bX,inObs,Pv.look,lU],dH m7,dK m8,Ψ⟩) (by simp[hQ]) (fun acc c _=>?_) (fun i acc hi c _=>?_)
 ·rw[gv (e2 _)]at c;subst c;simp;(with_reducible repeat' first|refine ak ?_|simp);simp[w8,wI,RG];simp[bF,aX,aY,aW]
 ·obtain⟨x,m⟩:∃x,l[i]? =some x:=⟨_,cl hi⟩;have d:∀h,(jY l)[i]'h= .str x:=fun h=>by rw[aa1 hi,cl hi]at*;cases m;rfl
  have hle:=Nv b l (i+1);have a:=Xp b l m;rw[a]at hle;have k:(gE acc).length=acc.length:=by simp[gE]
  have q:eR ((i:Int)+1):=by unfold eR;have:=ae.1;unfold lim at this;omega
  by_cases f:i=0
  ·rw[if_pos f]at hle a;have j:¬0<i:=Ω
   have o:acc=[]:=by rw[c,f];simp[hQ]
   have e:acc.length+x.length<=lim:=by rw[o];simp;omega
   simp[hi,d];(with_reducible repeat' first|refine ak ?_|simp[hi,d,j,k,e]);refine bQ.rng (acc++x) hi (by rw[o];exact a.symm) ?_;exact⟨by simp[fresh,ay,au,bX,inObs,Pv.look,lU,yN,gM],dH (by simp[fresh,ay,au,bX,inObs,Pv.look,lU,yN,gM]),dK (by simp[fresh,ay,au,dD,inObs,Pv.look,lU,yN,gM]),Ψ⟩
  ·rw[if_neg f]at hle a;have j:0<i:=Ω
   rw[<-c]at hle a;simp only[ga]at hle;have e:acc.length+b.length<=lim:=Ω
   have p:acc.length+b.length+x.length<=lim:=Ω
   have g:(gE acc++gE b).length=acc.length+b.length:=by simp[gE]
   simp[hi,d];(with_reducible repeat' first|refine ak ?_|simp[hi,d,j,k,e,p,g]);refine bQ.rng (acc++b++x) hi a.symm ?_;exact⟨by simp[fresh,ay,au,bX,inObs,Pv.look,lU,yN,Nat.add_assoc,gM],dH (by simp[fresh,ay,au,bX,inObs,Pv.look,lU,yN,Nat.add_assoc,gM]),dK (by simp[fresh,ay,au,dD,inObs,Pv.look,lU,yN,Nat.add_assoc,gM]),Ψ⟩
def A3:C:=(aa [c6 1 0,bH 2 (.mov (.c (.str [])))] (.seq (aa [aK 4 0 1 1,aw 5 1 4] (.block 0 (aa [aS 7 .eql 5 0,I 6 7] (aU 6 (aa [bH 2 (.mov (.c (.str [40,41])))] .ret) (aa [aS 9 .eql 5 1,I 8 9] (aU 8 (aa [aK 10 1 1 1,aw 11 1 10,cI 12 43 11,bH 13 (.bin .add false (.c (.str [63])) (.t 12)),I 2 13] .ret) (aa [aS 15 .eql 5 2,I 14 15] (aU 14 (aa [aK 16 2 1 1,aw 17 1 16,I 2 17] .ret) (aa [aS 19 .eql 5 3,I 18 19] (aU 18 (aa [aK 20 1 1 1,aw 21 1 20,cI 22 43 21,I 2 22] .ret) .skip)))))))))) (aa [aK 23 3 1 1,aw 24 1 23,iy 25 4 24 0,bh 26 4 25,cI 27 39 26,bH 28 (.bin .add false (.c (.str [40])) (.t 27)),I 3 28] (.seq (aa [aK 29 3 1 1,aw 30 1 29,iy 31 4 30 1,bh 32 4 31,b1 4 1 32] (.block 1 (.loop (.seq (aa [aK 33 0 1 1,aw 34 1 33,aS 35 .eql 34 4] (aU 35 .skip (.exit 1))) (.seq (.block 2 (.region [I 40 3,bH 41 (.bin .add false (.t 40) (.c (.str [32]))),aK 42 3 1 1,aw 43 1 42,iy 44 4 43 0,bh 45 4 44,cI 46 39 45,bp 47 .add 41 46,I 3 47])) (.region [aK 36 3 1 1,aw 37 1 36,iy 38 4 37 1,bh 39 4 38,b1 4 1 39])))))) (.seq (aa [aK 48 0 1 1,aw 49 1 48,aS 50 .neq 49 0] (aU 50 (.region [I 51 3,bH 52 (.bin .add false (.t 51) (.c (.str [32,46,32]))),bh 53 4 1,cI 54 39 53,bp 55 .add 52 54,I 3 55]) .skip)) (aa [I 56 3,bH 57 (.bin .add false (.t 56) (.c (.str [41]))),I 2 57] .ret))))))
def TA:C:=(aa [c6 3 1,dV 4 eb] (.seq (aa [I 6 0,cd 7 6,aS 8 .sub 7 1,I 5 8] (.block 0 (.loop (.seq (aa [I 9 5,aS 10 .geq 9 0] (aU 10 .skip (.exit 0))) (.seq (.block 1 (.drawn true 20 [I 13 0,I 14 5,cq 15 4 13 14,bh 16 4 15,bh 17 4 3,ch 18 95 16 17,b1 4 3 18])) (.region [I 11 5,aS 12 .sub 11 1,I 5 12])))))) (aa [bh 19 4 3,b1 4 4 19] .ret)))
def TT:C:=(aa [e1 0 1] (aa [cU (.bsl 1 1 9 [(.c (.str [116,114,117,101])),(.c (.str [102,97,105,108])),(.c (.str [61])),(.c (.str [47,61])),(.c (.str [115,121,109,98,111,108])),(.c (.str [110,117,109,98,101,114])),(.c (.str [97,98,115,101,110,116])),(.c (.str [97,110,100])),(.c (.str [111,114])),(.c (.str [])),(.c (.str [110,111,116]))]),I 0 1] .ret))
def GX:C:=(aa [bH 2 (.mov (.c (.str [])))] (.seq (aa [I 4 0,aS 5 .lss 4 0] (aU 5 (.seq (aa [I 6 0,aS 7 .quo 6 10,aS 8 .eql 7 0] (aU 8 (aa [I 9 0,bH 10 (.bin .sub false (gu 48) (.t 9)),bH 11 (.conv .u8 (.t 10)),eE 12 1 5 [.t 11],bH 13 (.b2s (.t 12)),bH 14 (.bin .add false (.c (.str [45])) (.t 13)),I 2 14] .ret) .skip)) (.seq (.drawn true 44 [I 15 0,aS 16 .quo 15 10,cI 17 43 16,I 18 0,aS 19 .rem 18 10,bH 20 (.bin .sub false (gu 48) (.t 19)),bH 21 (.conv .u8 (.t 20)),eE 22 1 5 [.t 21],bH 23 (.b2s (.t 22)),bp 24 .add 17 23,I 2 24]) .ret)) .skip)) (aa [bH 3 (.mov (.c (.str [])))] (.seq (.block 0 (.loop (.seq (aa [I 25 0,aS 26 .gtr 25 9] (aU 26 .skip (.exit 0))) (.block 1 (aa [I 27 0,aS 28 .rem 27 10,bH 29 (.bin .add false (gu 48) (.t 28)),bH 30 (.conv .u8 (.t 29)),eE 31 1 5 [.t 30],bH 32 (.b2s (.t 31)),I 33 3,bp 34 .add 32 33,I 3 34] (.region [I 35 0,aS 36 .quo 35 10,I 0 36])))))) (aa [I 37 0,bH 38 (.bin .add false (gu 48) (.t 37)),bH 39 (.conv .u8 (.t 38)),eE 40 1 5 [.t 39],bH 41 (.b2s (.t 40)),I 42 3,bp 43 .add 41 42,I 2 43] .ret)))))
def To:C:=(aa [bH 4 (.mov (.c (.str [])))] (aa [bH 5 (.mov (.c (.str [])))] (.seq (aa [I 8 0,cd 9 8,bT 10 0] (fo 11 10 9 (.seq (.block 1 (aa [I 12 10,cq 13 1 8 10,aw 14 1 13,I 6 12,I 7 14] (.seq (aa [I 15 6,aS 16 .gtr 15 0] (aU 16 (.region [I 17 5,I 18 1,bp 19 .add 17 18,I 5 19]) .skip)) (.region [I 20 5,I 21 7,bp 22 .add 20 21,I 5 22])))) (.region [aS 23 .add 10 1,I 10 23])))) (aa [I 24 5,I 4 24] .ret))))
def Fq:b4 aT A3 [.tmp 2] 1 Tryz.f39=true:=an
def aow:b4 aT TA [.cell 4 true 4] 2 Tryz.f41=true:=an
def aoP:b4 aT TT [.tmp 0] 0 Tryz.f42=true:=an
def OD:b4 aT GX [.tmp 2] 1 Tryz.f43=true:=an
def aok:b4 aT To [.tmp 4] 2 Tryz.f44=true:=an
def Kh(d:Nat)(h:d<10):IntKind.u8.wrap (48+(d:Int))=((48+d:Nat):Int):=by rcases(by omega:d=0\/d=1\/d=2\/d=3\/d=4\/d=5\/d=6\/d=7\/d=8\/d=9)with rfl|rfl|rfl|rfl|rfl|rfl|rfl|rfl|rfl|rfl<;>rfl
def Uo(d:Nat):sS (48+(d:Int)).toNat=48+sS d:=by rw[show(48+(d:Int)).toNat=48+d by omega];simp
def Un(d:Nat)(h:d<10):sS (IntKind.u8.wrap (48+(d:Int))).toNat=48+sS d:=by rw[Kh d h,Int.toNat_natCast];simp
def Um(m:Nat)(h:m<18446744073709551616):(Lib.decDigits m).length<=25:=by
 have:∀(k:Nat) (m:Nat),m<10 ^ (k+1)->(Lib.decDigits m).length<=k+1:=by
  intro k;induction k with
  |zero=>intro m hm;rw[yW (by simpa using hm)];simp
  |succ k a=>
   intro m hm;by_cases h:m<10
   ·rw[yW h];simp
   ·rw[DA Ω,ga];have:=a (m/10) (by rw[Nat.pow_succ]at hm;omega);simp;omega
 exact this 24 m Ω
def aqE(m:Nat)(h:m<=9223372036854775807):bK ar 43 [.int .i64 m] (.str (Lib.decDigits m)):=by
 have n:¬(m:Int)<0:=Ω
 have b:=Um m Ω;generalize bg:Lib.decDigits m=R at b;refine br a7 Tryz.func43 OD fun q=>?_;unfold GX;clear q;simp;(with_reducible repeat' first|refine ak ?_|simp[n]);refine mB (fun(x:Nat×List b7)=>⟨[(0,.int .i64 x.1),(3,.str x.2)],[],[],0,[]⟩) (fun x=>x.1) (fun x=>x.1<=9223372036854775807/\Lib.decDigits x.1++x.2=R) (m,[]) (by simp;exact bU) ⟨h,by simp[bg]⟩ ?_;rintro⟨j,o⟩ ⟨J,U⟩ _;simp only at J U;have r:o.length<=25:=by rw[<-U]at b;simp at b;omega
 have g:1+o.length<=lim:=by unfold lim;omega
 have i:o.length+1<=lim:=by unfold lim;omega
 by_cases k:9<j
 ·have p:(j:Int).tdiv 10=(j/10:Nat):=by rw[Int.tdiv_eq_ediv_of_nonneg Ω];omega
  have hm:(j:Int).tmod 10=(j%10:Nat):=by rw[Int.tmod_eq_emod_of_nonneg Ω];omega
  have a:=Kh (j%10) Ω;have c:eR (48+((j%10:Nat):Int)):=by unfold eR;omega
  have hw:oQ.wrap ((j/10:Nat):Int)=((j/10:Nat):Int):=lY _ Ω;have l:oQ.wrap ((j%10:Nat):Int)=((j%10:Nat):Int):=lY _ Ω;have f:oQ.wrap ((j:Int)/10)=(j:Int)/10:=lY _ Ω;have e:sS (IntKind.u8.wrap (48+(j:Int)%10)).toNat=48+sS (j%10):=by have:=Un (j%10) Ω;rwa[Int.natCast_emod]at this
  have d:(9:Int)<j:=Ω
  rw[DA Ω]at U;simp[d,k];(with_reducible repeat' first|refine ak ?_|simp[p,hm,a,c,hw,l,g,i]);refine bQ.whl (j/10,sS (48+j%10)::o) gc ⟨by simp;omega,by rw[<-U];simp⟩ ⟨by simp[fresh,ay,au,bX,inObs,Pv.look,f,e],dH (by simp[fresh,ay,au,bX,inObs,Pv.look,f,e]),dK (by simp[fresh,ay,au,dD,inObs,Pv.look,f,e]),Ψ⟩
 ·have d:¬(9:Int)<j:=Ω
  have a:=Kh j Ω;have c:eR (48+(j:Int)):=by unfold eR;omega
  rw[yW Ω]at U;subst U;simp[d,k];(with_reducible repeat' first|refine ak ?_|simp[a,c,g,i]);simp[bF,aX,aY,aW];exact Uo j
def aqD:∀m:Nat,1<=m->m<=9223372036854775808->bK ar 43 [.int .i64 (-(m:Int))] (.str (45::Lib.decDigits m)):=by
 intro m;induction m using Nat.strongRecOn with
 |_ m j=>
 intro J U;have i:0<m:=Ω
 have b:=Um m Ω;have f:(-(m:Int)).tdiv 10= -((m/10:Nat):Int):=by rw[Int.neg_tdiv,Int.tdiv_eq_ediv_of_nonneg Ω];omega
 have hm:(-(m:Int)).tmod 10= -((m%10:Nat):Int):=by rw[Int.neg_tmod,Int.tmod_eq_emod_of_nonneg Ω];omega
 have hw:oQ.wrap (-((m/10:Nat):Int))= -((m/10:Nat):Int):=lY _ Ω;have l:oQ.wrap (-((m%10:Nat):Int))= -((m%10:Nat):Int):=lY _ Ω;by_cases k:m<10
 ·have o:m/10=0:=Ω
  have a:=Kh m k;have c:eR (48+(m:Int)):=by unfold eR;omega
  have p:(-(m:Int)).tdiv 10=0:=by rw[f,o];rfl
  have q:oQ.wrap 0=0:=rfl;have d:(48:Int)- -(m:Int)=48+m:=Ω
  rw[yW k];refine br a7 Tryz.func43 OD fun g=>?_;unfold GX;clear g;simp;(with_reducible repeat' first|refine ak ?_|simp[i,p,q,d,a,c]);simp[bF,aX,aY,aW];exact Uo m
 ·have bj:(-(m:Int)).tdiv 10= -((m:Int)/10):=by rw[f];simp
  have hB:(-(m:Int)).tmod 10= -((m:Int)%10):=by rw[hm];simp
  have s:oQ.wrap (-((m:Int)/10))= -((m:Int)/10):=lY _ Ω;have r:oQ.wrap (-((m:Int)%10))= -((m:Int)%10):=lY _ Ω;have e:((-((m:Int)/10))==0)=false:=beq_eq_false_iff_ne.2 Ω;have h:=j (m/10) Ω Ω Ω;rw[Int.natCast_ediv]at h;have a:sS (IntKind.u8.wrap (48+(m:Int)%10)).toNat=48+sS (m%10):=by have:=Un (m%10) Ω;rwa[Int.natCast_emod]at this
  have c:eR (48+(m:Int)%10):=by unfold eR;omega
  have d:(48:Int)- -((m:Int)%10)=48+(m:Int)%10:=Ω
  rw[DA Ω]at b⊢;simp at b;have n:(Lib.decDigits (m/10)).length+1+1<=lim:=by unfold lim;omega
  clear f hm hw l j b;refine br a7 Tryz.func43 OD fun g=>?_;unfold GX;clear g;simp;(with_reducible repeat' first|refine ak ?_|refine aI h ?_|refine aJ h ?_|simp[i,bj,hB,s,r,e,d,a,c,n]);simp[bF,aX,aY,aW]
def Kf(n:Int)(h:eR n):bK ar 43 [.int .i64 n] (.str (Lib.itoa n)):=by
 unfold eR at h;unfold Lib.itoa;by_cases a:n<0
 ·rw[if_pos a];have:=aqD n.natAbs Ω Ω;rwa[show-(n.natAbs:Int)=n by omega]at this
 ·rw[if_neg a];have:=aqE n.toNat Ω;rwa[show(n.toNat:Int)=n by omega]at this
def asU(l:List (List b7))(b:List b7)(p:(hQ b l).length<=lim):bK ar 44 [.slice 1 .no (jY l),.str b] (.str (hQ b l)):=by
 refine br a7 Tryz.func44 aok fun k=>?_;unfold To;have ae:l.length<=lim/\b.length<=lim:=by simpa[eV,eN,eS]using k
 clear k;simp;(with_reducible repeat' first|refine ak ?_|simp);refine gb (fun i (acc:List b7)=>⟨[(1,.str b),(5,.str acc),(8,.slice 1 .no (jY l)),(9,.int .i64 l.length),(10,.int .i64 i)],[],[],0,[]⟩) l.length (fun i acc=>acc=hQ b (l.take i)) [] (by simp;exact bU) (by simp[hQ]) (fun acc c _=>?_) (fun i acc hi c _=>?_)
 ·rw[lZ]at c;subst c;exact ca
 ·obtain⟨x,g⟩:∃x,l[i]? =some x:=⟨_,cl hi⟩;have d:∀h,((jY l)[i]'h)= .str x:=fun h=>by rw[aa1 hi];rw[cl hi]at g;rw[ft g]
  have j:eR ((i:Int)+1):=by unfold eR;unfold lim at ae;omega
  have hle:=Nv b l (i+1);have a:=Xp b l g;by_cases f:i=0
  ·rw[if_pos f]at a;have o:acc=[]:=by rw[c,f];simp[hQ]
   have a1:¬0<i:=Ω
   have e:x.length<=lim:=by rw[a]at hle;omega
   subst o;simp[hi,d];(with_reducible repeat' first|refine ak ?_|simp[hi,d,a1,e,j]);refine bQ.rng x hi a.symm bU
  ·rw[if_neg f,<-c]at a;have a1:0<i:=Ω
   rw[a]at hle;simp only[ga]at hle;have e:acc.length+b.length<=lim:=Ω
   have n:acc.length+b.length+x.length<=lim:=Ω
   have m:acc.length+(b.length+x.length)<=lim:=Ω
   simp[hi,d];(with_reducible repeat' first|refine ak ?_|simp[hi,d,a1,e,n,m,j]);refine bQ.rng (acc++b++x) hi a.symm (by simp only[List.append_assoc];exact bU)
def xd(x:List b7×T):bn:=⟨[(1,.ptr (.loc 0) 0),(3,.str x.1)],[(.loc 0,cells x.2.e)],[],1,[]⟩
def abM:∀(n:Nat) (t:T),t.size<=n->t.ok=true->(cF t).length<=lim->bK ar 39 [t.e] (.str (cF t)):=by
 intro n;induction n with
 |zero=>intro t aM;cases t<;>simp[T.size]at aM
 |succ n o=>
 intro t aM B j;cases t with
 |nil=>refine br a7 Tryz.func39 Fq fun d=>?_;unfold A3;clear d;simp;(with_reducible repeat' first|refine ak ?_|simp);simp[bF,aX,aY,aW];rfl
 |var m=>
  have K:0<=m/\m<=100000:=by simpa[T.ok]using B
  have L:=Kf m t7;have H:=j;simp only[cF,ik]at H⊢;have f:1+(Lib.itoa m).length<=lim:=Ω
  refine br a7 Tryz.func39 Fq fun d=>?_;unfold A3;clear d;exact ca
 |sym s=>refine br a7 Tryz.func39 Fq fun d=>?_;unfold A3;clear d;simp;(with_reducible repeat' first|refine ak ?_|simp);simp[bF,aX,aY,aW];rfl
 |num m=>
  have K: -1000000000<=m/\m<=1000000000:=by simpa[T.ok]using B
  have L:=Kf m t7;simp only[cF];refine br a7 Tryz.func39 Fq fun d=>?_;unfold A3;clear d;exact ca
 |pair a b=>
  simp only[T.size]at aM;have G:a.ok=true/\b.ok=true:=by simpa[T.ok]using B
  have he:cF (.pair a b)=(40::cF a)++fq b:=by simp[cF]
  generalize hw:cF (.pair a b)=W at j he⊢;have z:(40::cF a).length<=lim:=by rw[he]at j;simp only[ga]at j;omega
  have A:=o a Ω G.1 (by simp at z;omega);simp only[ik]at z;have E:1+(cF a).length<=lim:=Ω
  refine br a7 Tryz.func39 Fq fun d=>?_;unfold A3;clear d;simp;(with_reducible repeat' first|refine ak ?_|refine aI A ?_|refine aJ A ?_|simp[z,E]);refine mB xd (fun x=>x.2.size) (fun x=>x.1++fq x.2=W/\x.2.size<=n/\x.2.ok=true) (40::cF a,b) (by simp[xd];exact bU) ⟨by simpa using he.symm,by simp;omega,G.2⟩ ?_;rintro⟨s,u⟩ ⟨J,U,p⟩ _;simp only at J U p;have l:s.length+(fq u).length<=lim:=by rw[<-J]at j;simpa using j
  subst J;clear hw he A z E;cases u with
  |pair x y=>
   simp only[T.size]at U;have F:x.ok=true/\y.ok=true:=by simpa[T.ok]using p
   simp only[fq,ik,ga]at l;have c:=o x Ω F.1 Ω;have f:s.length+1<=lim:=Ω
   have i:s.length+1+(cF x).length<=lim:=Ω
   have h:s.length+(1+(cF x).length)<=lim:=Ω
   have g:s.length+((cF x).length+1)<=lim:=Ω
   simp[xd];(with_reducible repeat' first|refine ak ?_|refine aI c ?_|refine aJ c ?_|simp[f,i,h,g]);refine bQ.whl (s++32::cF x,y) (by simp[T.size];omega) ⟨by simp[fq],by simp;omega,F.2⟩ (by simp[xd];exact bU)
  |nil=>simp only[fq,ik,nv]at l⊢;simp[xd];exact ca
  |var m=>
   have e:fq (T.var m)=32::46::32::(cF (T.var m)++[41]):=by simp[fq,cF]
   have q:(fq (T.var m)).length=(cF (T.var m)).length+4:=by rw[e];simp
   rw[q]at l;have c:=o _ U p Ω;rw[e];have f:s.length+3<=lim:=Ω
   have i:s.length+3+(cF (T.var m)).length<=lim:=Ω
   have h:s.length+((cF (T.var m)).length+3)<=lim:=Ω
   have g:s.length+((cF (T.var m)).length+3)+1<=lim:=Ω
   have k:s.length+3+(cF (T.var m)).length+1<=lim:=Ω
   have v:s.length+((cF (T.var m)).length+1+1+1)<=lim:=Ω
   have r:s.length+((cF (T.var m)).length+1+1+1)+1<=lim:=Ω
   generalize cF (T.var m)=w at c f i h g k v r⊢;simp[xd];have D:=c;exact ca
  |sym m=>
   have e:fq (T.sym m)=32::46::32::(cF (T.sym m)++[41]):=by simp[fq,cF]
   have q:(fq (T.sym m)).length=(cF (T.sym m)).length+4:=by rw[e];simp
   rw[q]at l;have c:=o _ U p Ω;rw[e];have f:s.length+3<=lim:=Ω
   have i:s.length+3+(cF (T.sym m)).length<=lim:=Ω
   have h:s.length+((cF (T.sym m)).length+3)<=lim:=Ω
   have g:s.length+((cF (T.sym m)).length+3)+1<=lim:=Ω
   have k:s.length+3+(cF (T.sym m)).length+1<=lim:=Ω
   have v:s.length+((cF (T.sym m)).length+1+1+1)<=lim:=Ω
   have r:s.length+((cF (T.sym m)).length+1+1+1)+1<=lim:=Ω
   generalize cF (T.sym m)=w at c f i h g k v r⊢;simp[xd];have D:=c;exact ca
  |num m=>
   have e:fq (T.num m)=32::46::32::(cF (T.num m)++[41]):=by simp[fq,cF]
   have q:(fq (T.num m)).length=(cF (T.num m)).length+4:=by rw[e];simp
   rw[q]at l;have c:=o _ U p Ω;rw[e];have f:s.length+3<=lim:=Ω
   have i:s.length+3+(cF (T.num m)).length<=lim:=Ω
   have h:s.length+((cF (T.num m)).length+3)<=lim:=Ω
   have g:s.length+((cF (T.num m)).length+3)+1<=lim:=Ω
   have k:s.length+3+(cF (T.num m)).length+1<=lim:=Ω
   have v:s.length+((cF (T.num m)).length+1+1+1)<=lim:=Ω
   have r:s.length+((cF (T.num m)).length+1+1+1)+1<=lim:=Ω
   generalize cF (T.num m)=w at c f i h g k v r⊢;simp[xd];have D:=c;exact ca
def Le:C:=(aa [c6 1 0,bH 2 (.mov (.c (.str [])))] (.seq (aa [bh 16 6 1,cI 17 38 16,cH 18 17] (aU 18 (aa [bH 2 (.mov (.c (.str [])))] .ret) .skip)) (aa [eE 19 1 9 [],I 3 19] (.seq (aa [aK 20 0 1 1,aw 21 1 20,cd 22 21,bT 23 0] (fo 24 23 22 (.seq (.block 1 (aa [cq 25 4 21 23,bh 26 4 25,dV 5 eb,b1 4 5 26] (.region [I 27 3,bh 28 4 5,cI 29 39 28,eE 30 1 9 [.t 29],hv 31 1 9 27 30,I 3 31]))) (.region [aS 32 .add 23 1,I 23 32])))) (.seq (aa [fY 33 1 5 1,aK 34 2 1 33,aw 35 1 34,cd 36 35,bT 37 0] (.block 2 (.loop (aa [bp 38 .lss 37 36] (.seq (aU 38 .skip (.exit 2)) (.seq (.block 3 (aa [cq 39 1 35 37,aw 40 1 39,I 7 40] (aa [eE 41 4 71 [],I 8 41] (aa [eE 42 4 71 [],I 9 42] (.seq (aa [I 43 7,cd 44 43,bT 45 0] (.block 4 (.loop (aa [bp 46 .lss 45 44] (.seq (aU 46 .skip (.exit 4)) (.seq (.block 5 (aa [cq 47 5 43 45,bh 48 5 47,dV 11 kI,b1 5 11 48] (aa [I 49 8,aK 50 0 1 11,aw 51 1 50,cI 52 40 51,eE 53 4 71 [.t 52],hv 54 4 71 49 53,I 8 54] (.region [I 55 9,fY 56 1 4 11,bh 57 4 56,eE 58 4 71 [.t 57],hv 59 4 71 55 58,I 9 59])))) (.region [aS 60 .add 45 1,I 45 60]))))))) (.region [I 61 3,I 62 8,lJ 63 eb [],ch 64 41 62 63,cI 65 39 64,bH 66 (.bin .add false (.c (.str [40,47,61,32])) (.t 65)),bH 67 (.bin .add false (.t 66) (.c (.str [32]))),I 68 9,lJ 69 eb [],ch 70 41 68 69,cI 71 39 70,bp 72 .add 67 71,bH 73 (.bin .add false (.t 72) (.c (.str [41]))),eE 74 1 9 [.t 73],hv 75 1 9 61 74,I 3 75])))))) (.region [aS 76 .add 37 1,I 37 76]))))))) (.seq (aa [fY 77 1 5 1,aK 78 3 1 77,aw 79 1 78,cd 80 79,bT 81 0] (.block 6 (.loop (aa [bp 82 .lss 81 80] (.seq (aU 82 .skip (.exit 6)) (.seq (.block 7 (aa [cq 83 2 79 81,bh 84 2 83,cU (.alloc 13 none (.agg [.int .i64 0,.int .i64 0])),b1 2 13 84] (.drawn true 126 [I 85 3,ec 86 42 [],aK 87 1 1 13,aw 88 1 87,bH 89 (.bin .add false (gu 4) (.t 88)),aS 90 .sub 89 2,cq 91 1 86 90,aw 92 1 91,bH 93 (.bin .add false (.c (.str [40])) (.t 92)),bH 94 (.bin .add false (.t 93) (.c (.str [32,63]))),aK 95 0 1 13,aw 96 1 95,cI 97 43 96,bp 98 .add 94 97,bH 99 (.bin .add false (.t 98) (.c (.str [41]))),eE 100 1 9 [.t 99],hv 101 1 9 85 100,I 3 101]))) (.region [aS 102 .add 81 1,I 81 102]))))))) (.seq (aa [fY 103 1 5 1,aK 104 4 1 103,aw 105 1 104,cd 106 105,bT 107 0] (.block 8 (.loop (aa [bp 108 .lss 107 106] (.seq (aU 108 .skip (.exit 8)) (.seq (.block 9 (aa [cq 109 2 105 107,bh 110 2 109,cU (.alloc 15 none (.agg [.int .i64 0,.str []])),b1 2 15 110] (.drawn true 126 [I 111 3,aK 112 1 1 15,aw 113 1 112,bH 114 (.bin .add false (.c (.str [40,97,98,115,101,110,116,32])) (.t 113)),bH 115 (.bin .add false (.t 114) (.c (.str [32,63]))),aK 116 0 1 15,aw 117 1 116,cI 118 43 117,bp 119 .add 115 118,bH 120 (.bin .add false (.t 119) (.c (.str [41]))),eE 121 1 9 [.t 120],hv 122 1 9 111 121,I 3 122]))) (.region [aS 123 .add 107 1,I 107 123]))))))) (aa [I 124 3,⟨none,.call (some 125) (.c (.func 44 [])) [.t 124,(.c (.str [32]))]⟩,I 2 125] .ret))))))))
def KS:C:=(aa [c6 1 0,bH 2 (.mov (.c (.str [])))] (.seq (aa [bh 15 6 1,cI 16 46 15,cH 17 16] (aU 17 (aa [bH 2 (.mov (.c (.str [])))] .ret) .skip)) (aa [eE 18 1 9 [],I 3 18] (.seq (aa [aK 19 0 1 1,aw 20 1 19,cd 21 20,bT 22 0] (fo 23 22 21 (.seq (.block 1 (aa [cq 24 4 20 22,bh 25 4 24,dV 5 eb,b1 4 5 25] (.region [I 26 3,bh 27 4 5,cI 28 47 27,eE 29 1 9 [.t 28],hv 30 1 9 26 29,I 3 30]))) (.region [aS 31 .add 22 1,I 22 31])))) (.seq (aa [fY 32 1 5 1,aK 33 2 1 32,aw 34 1 33,cd 35 34,bT 36 0] (.block 2 (.loop (aa [bp 37 .lss 36 35] (.seq (aU 37 .skip (.exit 2)) (.seq (.block 3 (aa [cq 38 1 34 36,aw 39 1 38,I 7 39] (aa [I 41 7,cI 42 48 41,I 40 42,dr 43 0 40,dr 44 1 40,I 8 43,I 9 44] (.region [I 45 3,I 46 8,cI 47 49 46,bH 48 (.bin .add false (.c (.str [40,47,61,32])) (.t 47)),bH 49 (.bin .add false (.t 48) (.c (.str [32]))),I 50 9,cI 51 49 50,bp 52 .add 49 51,bH 53 (.bin .add false (.t 52) (.c (.str [41]))),eE 54 1 9 [.t 53],hv 55 1 9 45 54,I 3 55])))) (.region [aS 56 .add 36 1,I 36 56]))))))) (.seq (aa [fY 57 1 5 1,aK 58 3 1 57,aw 59 1 58,cd 60 59,bT 61 0] (.block 4 (.loop (aa [bp 62 .lss 61 60] (.seq (aU 62 .skip (.exit 4)) (.seq (.block 5 (aa [cq 63 2 59 61,bh 64 2 63,cU (.alloc 11 none (.agg [.int .i64 0,.int .i64 0])),b1 2 11 64] (aa [bH 12 (.mov (.c (.str [115,121,109,98,111,108])))] (.seq (aa [aK 65 1 1 11,aw 66 1 65,aS 67 .eql 66 3] (aU 67 (.region [bH 12 (.mov (.c (.str [110,117,109,98,101,114])))]) .skip)) (.region [I 68 3,I 69 12,bH 70 (.bin .add false (.c (.str [40])) (.t 69)),bH 71 (.bin .add false (.t 70) (.c (.str [32]))),aK 72 0 1 11,aw 73 1 72,cI 74 50 73,cI 75 47 74,bp 76 .add 71 75,bH 77 (.bin .add false (.t 76) (.c (.str [41]))),eE 78 1 9 [.t 77],hv 79 1 9 68 78,I 3 79]))))) (.region [aS 80 .add 61 1,I 61 80]))))))) (.seq (aa [fY 81 1 5 1,aK 82 4 1 81,aw 83 1 82,cd 84 83,bT 85 0] (.block 6 (.loop (aa [bp 86 .lss 85 84] (.seq (aU 86 .skip (.exit 6)) (.seq (.block 7 (aa [cq 87 2 83 85,bh 88 2 87,cU (.alloc 14 none (.agg [.int .i64 0,.str []])),b1 2 14 88] (.drawn true 105 [I 89 3,aK 90 1 1 14,aw 91 1 90,bH 92 (.bin .add false (.c (.str [40,97,98,115,101,110,116,32])) (.t 91)),bH 93 (.bin .add false (.t 92) (.c (.str [32]))),aK 94 0 1 14,aw 95 1 94,cI 96 50 95,cI 97 47 96,bp 98 .add 93 97,bH 99 (.bin .add false (.t 98) (.c (.str [41]))),eE 100 1 9 [.t 99],hv 101 1 9 89 100,I 3 101]))) (.region [aS 102 .add 85 1,I 85 102]))))))) (aa [I 103 3,⟨none,.call (some 104) (.c (.func 51 [])) [.t 103,(.c (.str [32]))]⟩,I 2 104] .ret))))))))
def Sn:C:=(aa [bH 2 (.mov (.c (.str [])))] (aa [eE 6 1 9 [],I 3 6] (.seq (aa [I 7 0,cd 8 7,bT 9 0] (fo 10 9 8 (.seq (.block 1 (aa [cq 11 4 7 9,bh 12 4 11,dV 5 eb,b1 4 5 12] (.region [I 13 3,bh 14 4 5,cI 15 47 14,eE 16 1 9 [.t 15],hv 17 1 9 13 16,I 3 17]))) (.region [aS 18 .add 9 1,I 9 18])))) (aa [I 19 3,⟨none,.call (some 20) (.c (.func 51 [])) [.t 19,(.c (.str [32]))]⟩,bH 21 (.bin .add false (.c (.str [40])) (.t 20)),bH 22 (.bin .add false (.t 21) (.c (.str [41]))),I 2 22] .ret))))
def Za:b4 aT Le [.tmp 2] 1 Tryz.f12=true:=an
def YT:b4 aT KS [.tmp 2] 1 Tryz.f14=true:=an
def anm:b4 aT Sn [.tmp 2] 1 Tryz.f49=true:=an
def tZ(x:List b7)(l:List (List b7)):jY (x::l)= .str x::jY l:=rfl
def qV:jY []=[]:=rfl
def tY(a b:List (List b7)):jY (a++b)=jY a++jY b:=sP
def V7:List (List b7):=[atw,att,ats,atr,yy,yx,atp,atq,atv,[],atu]
def V8:jY V7=[.str [116,114,117,101],.str [102,97,105,108],.str [61],.str [47,61],.str [115,121,109,98,111,108],.str [110,117,109,98,101,114],.str [97,98,115,101,110,116],.str [97,110,100],.str [111,114],.str [],.str [110,111,116]]:=rfl
def asO:bK ar 42 [] (.slice 1 .no (jY V7)):=by rw[V8];refine br a7 Tryz.func42 aoP fun a=>?_;unfold TT;clear a;exact ca
def IH{α β:Type}(f:α->β){l:List α}{i:Nat}{x:α}(h:l[i]? =some x):(l.map f).take (i+1)=(l.map f).take i++[f x]:=by rw[List.take_add_one,List.getElem?_map,h];simp
def abU{l:List T}(h:∀t∈l,t.ok=true/\t.size<=5000)(m:l.length<=400):bK ar 49 [.slice 4 .no (l.map T.e)] (.str (nS l)):=by
 have hle:=x7 h m;have r:=abr (l.map cF) [32] (by simp only[nS,ik,ga,nv]at hle;unfold lim;omega);have s:1+(hQ [32] (l.map cF)).length<=lim:=by simp only[nS,ik,ga,nv]at hle;unfold lim;omega
 have u:1+(hQ [32] (l.map cF)).length+1<=lim:=by simp only[nS,ik,ga,nv]at hle;unfold lim;omega
 have q:(hQ [32] (l.map cF)).length+1<=lim:=Ω
 have o:(hQ [32] (l.map cF)).length+1+1<=lim:=Ω
 unfold nS;refine br a7 Tryz.func49 anm fun n=>?_;unfold Sn;clear n;simp;refine gb (fun i (p:List (List b7))=>⟨[(3,.slice 1 (.own (.loc 0)) (jY p)),(7,.slice 4 .no (l.map T.e)),(8,.int .i64 l.length),(9,.int .i64 i)],[],[(.loc 0,⟨p.length,9,1,none⟩)],1,[]⟩) l.length (fun i p=>p=(l.map cF).take i) [] (by simp[qV];exact bU) Ψ (fun p a _=>?_) (fun i p hi a _=>?_)
 ·rw[gv Ψ]at a;subst a;exact ca
 ·obtain⟨x,c⟩:∃b,l[i]? =some b:=⟨_,cl hi⟩;have f:∀h,(l[i]'h)=x:=fun h=>by rw[cl hi]at c;exact ft c
  have d:=h x (ev c);have e:=J6 x (by unfold T.fit;rw[d.1];simpa using d.2);have j:p.length+1<=lim:=by rw[a];simp;unfold lim;omega
  have g:eR ((i:Int)+1):=by unfold eR;omega
  have k:p++[cF x]=(l.map cF).take (i+1):=by rw[a,IH cF c]
  simp[hi,f];(with_reducible repeat' first|refine ak ?_|refine aI e ?_|refine aJ e ?_|simp[hi,f,j,g]);refine bQ.rng (p++[cF x]) hi k ?_;simp[tY,tZ,qV];exact⟨by simp[fresh,ay,au,bX,inObs,Pv.look,gM],dH ii,dK io,Ψ⟩
def Dd(l:List T)(j:Int)(t:T):bn:=⟨[(0,.slice 4 .no (l.map T.e)),(3,.ptr (.loc 0) 0),(4,.ptr (.loc 1) 0),(5,.int .i64 j)],[(.loc 0,cells t.e),(.loc 1,[.int .i64 0,.int .i64 0,.str [],.slice 4 .nil []])],[],2,[]⟩
def abK(l:List T)(t:T):bK ar 41 [.slice 4 .no (l.map T.e),t.e] (kK l t).e:=by
 refine br a7 Tryz.func41 aow fun d=>?_;unfold TA;have ae:l.length<=lim:=by simp[eV,eN,eS]at d;exact d.1
 have m:eR ((l.length:Int)-1):=by unfold eR;unfold lim at ae;omega
 clear d;simp;(with_reducible repeat' first|refine ak ?_|simp[m]);refine mB (fun x:Int×T=>Dd l x.1 x.2) (fun x=>(x.1+1).toNat) (fun x=> -1<=x.1/\x.1<l.length/\kK (l.take (x.1+1).toNat) x.2=kK l t) ((l.length:Int)-1,t) (by simp[Dd];exact bU) ⟨by simp;omega,by simp;omega,Ψ⟩ ?_;rintro⟨j,u⟩ ⟨b,i,a⟩ _;simp only at b i a;by_cases o:0<=j
 ·obtain⟨n,rfl⟩:∃n:Nat,j=n:=⟨j.toNat,Ω⟩;have f:n<l.length:=Ω
  obtain⟨x,g,k⟩:=dX f;have c:eR ((n:Int)-1):=by unfold eR;unfold lim at ae;omega
  have iR:=Gb x u;have h: -1<=(n:Int)-1/\(n:Int)-1<l.length/\kK (l.take ((n:Int)-1+1).toNat) (.pair x u)=kK l t:=by refine⟨Ω,Ω,?_⟩;rw[<-a,show((n:Int)-1+1).toNat=n by omega,show((n:Int)+1).toNat=n+1 by omega,List.take_add_one,g,alV];rfl
  clear a;simp[Dd];(with_reducible repeat' first|refine ak ?_|refine aI iR ?_|refine aJ iR ?_|simp[f,k,g,c]);refine bQ.whl ((n:Int)-1,.pair x u) (by simp<;>omega) h (by simp[Dd];exact bU)
 ·have:j= -1:=Ω
  subst this;have e:u=kK l t:=by simpa[kK]using a
  subst e;clear a;simp[Dd];exact ca
def AS(u:List T)(s:dR):ah:= .agg [.slice 4 .no (u.map T.e),.int .i64 s.n,.slice 5 .no (s.b.map az.e),.slice 1 .no (s.d.map c7),.slice 2 .no (s.k.map bR.e),.slice 2 .no (s.m.map bq.e)]
def iu(u:List T)(s:dR):List (aB×List ah):=[(.loc 0,[.slice 4 .no (u.map T.e),.int .i64 s.n,.slice 5 .no (s.b.map az.e),.slice 1 .no (s.d.map c7),.slice 2 .no (s.k.map bR.e),.slice 2 .no (s.m.map bq.e)])]
def ir(u:List T)(s:dR)(c0 a c2:Nat)(v:ah)(n:Nat)(i:Nat)(p:List (List b7)):bn:=⟨[(1,.ptr (.loc 0) 0),(3,.slice 1 (.own (.loc 1)) (jY p)),(c0,v),(a,.int .i64 n),(c2,.int .i64 i)],iu u s,[(.loc 1,⟨p.length,9,1,none⟩)],2,[]⟩
def uv(c0 a c2:Nat)(v:ah)(n:Nat)(i:Nat)(p:List (List b7)):bn:=⟨[(3,.slice 1 (.own (.loc 1)) (jY p)),(c0,v),(a,.int .i64 n),(c2,.int .i64 i)],[],[(.loc 1,⟨p.length,9,1,none⟩)],2,[]⟩
def xf{α β:Type}(a:List β)(f:α->β){l:List α}{i:Nat}{x:α}(h:l[i]? =some x):a++(l.map f).take (i+1)=(a++(l.map f).take i)++[f x]:=by rw[IH f h,List.append_assoc]
def Up(d:List az):nG d=[40,47,61,32]++nS (d.map fun b=>T.var b.v)++[32]++nS (d.map (·.t))++[41]:=rfl
def XZ(x:bR):oD x=[40]++(if x.k=3 then yx else yy)++[32]++oP x.v++[41]:=rfl
def YG(x:bq):p6 x=[40,97,98,115,101,110,116,32]++x.s++[32]++oP x.v++[41]:=rfl
def ar3{u:List T}{s:dR}(h:Dh u s)(q:bK ar 46 [AS u s] (.bool true)):bK ar 14 [AS u s] (.str (vz u s)):=by
 have hle:=h.le;have G:=h.l;have U:=h.uf;have L:=h.x.d;have rh:=h.x.dl;have K:=h.x.k.at';have iP:=h.x.kl;have hm:=h.x.m.at';have k2:=h.x.ml;have y:=abr (xe u s) [32] (by unfold vz at hle;unfold lim;omega);clear h;unfold vz;obtain⟨W,E⟩:∃W,W=xe u s:=⟨_,rfl⟩;rw[<-E]at y⊢;unfold AS at q⊢;refine br a7 Tryz.func14 YT fun M=>?_;unfold KS;clear M;simp;(with_reducible repeat' first|refine ak ?_|refine aI q ?_|refine aJ q ?_|simp);clear q;refine gb (ir u s 20 21 22 (.slice 4 .no (u.map T.e)) u.length) u.length (fun i p=>p=[]++(u.map cF).take i) [] (by simp[ir,iu,qV];exact bU) Ψ (fun p a _=>?_) (fun i p hi a _=>?_);rotate_left
 ·obtain⟨x,g,f⟩:=dX hi;have j:eR ((i:Int)+1):=by unfold eR;omega
  have F:=U x (ev g);have c:=J6 x F;have l:p.length+1<=lim:=by rw[a];simp;unfold lim;omega
  have d:p++[cF x]=[]++(u.map cF).take (i+1):=by rw[a,xf [] cF g]
  simp[ir,iu,hi,f];(with_reducible repeat' first|refine ak ?_|refine aI c ?_|refine aJ c ?_|simp[hi,f,l,j]);simp only[b6]at d;refine bQ.rng (p++[cF x]) hi d ?_;simp[ir,iu,tY,tZ,qV];exact⟨by simp[fresh,ay,au,bX,inObs,Pv.look,gM],dH ii,dK io,Ψ⟩
 rw[gv Ψ]at a;subst a;have bj:([]++u.map cF).length<=1048576:=by simpa using G
 generalize S:[]++u.map cF=A at bj⊢;simp[ir,iu];(with_reducible repeat' first|refine ak ?_|simp);refine gb (ir u s 34 35 36 (.slice 1 .no (s.d.map c7)) s.d.length) s.d.length (fun i p=>p=A++(s.d.map nG).take i) A vM Ψ (fun p a _=>?_) (fun i p hi a _=>?_);rotate_left
 ·obtain⟨x,g,f⟩:=dX hi;have j:eR ((i:Int)+1):=by unfold eR;omega
  have o:=L x (ev g);have r:bK ar 48 [c7 x] (.tuple [.slice 4 .no ((x.map fun b=>T.var b.v).map T.e),.slice 4 .no ((x.map (·.t)).map T.e)]):=abG x (by have:=o.fits.1;omega);have w:=QI o;have z:=Qo o;have m1:(x.map fun b=>T.var b.v).length<=400:=by rw[iz];exact o.fits.1
  have m2:(x.map (·.t)).length<=400:=by rw[iz];exact o.fits.1
  have e:=Up x;have BK:=xf A nG g;generalize (x.map fun b=>T.var b.v)=X at r w m1 e;generalize (x.map (·.t))=Y at r z m2 e;have c:=abU w m1;have t:=abU z m2;have H:=x7 w m1;have c2:=x7 z m2;generalize nS X=P at c H e;generalize nS Y=R at t c2 e;have l:p.length+1<=lim:=by rw[a];simp only[ga,oT,iz];unfold lim;omega
  have d:p++[nG x]=A++(s.d.map nG).take (i+1):=by rw[BK,a]
  rw[e]at d;have d1:4+P.length<=lim:=by unfold lim;omega
  have d2:4+P.length+1<=lim:=by unfold lim;omega
  have d3:P.length+1+1+1+1<=lim:=by unfold lim;omega
  have d4:P.length+1+1+1+1+1<=lim:=by unfold lim;omega
  have d5:P.length+1+1+1+1+1+R.length<=lim:=by unfold lim;omega
  have d6:P.length+(1+R.length)+1+1+1+1<=lim:=by unfold lim;omega
  have d7:P.length+(R.length+1)+1+1+1+1<=lim:=by unfold lim;omega
  have d8:P.length+(R.length+1+1)+1+1+1+1<=lim:=by unfold lim;omega
  simp[ir,iu,hi,f];(with_reducible repeat' first|refine ak ?_|refine aI r ?_|refine aJ r ?_|refine aI c ?_|refine aJ c ?_|refine aI t ?_|refine aJ t ?_|simp[hi,f,l,j,d1,d2,d3,d4,d5,d6,d7,d8]);refine bQ.rng (p++[[40,47,61,32]++P++[32]++R++[41]]) hi d ?_;simp[ir,iu,tY,tZ,qV];exact⟨by simp[fresh,ay,au,bX,inObs,Pv.look,gM],dH ii,dK io,Ψ⟩
 rw[gv Ψ]at a;subst a;have hB:(A++s.d.map nG).length<=1100000:=by simp only[ga,iz];omega
 generalize Q:A++s.d.map nG=B at hB⊢;simp[ir,iu];(with_reducible repeat' first|refine ak ?_|simp);refine gb (ir u s 59 60 61 (.slice 2 .no (s.k.map bR.e)) s.k.length) s.k.length (fun i p=>p=B++(s.k.map oD).take i) B vM Ψ (fun p a _=>?_) (fun i p hi a _=>?_);rotate_left
 ·obtain⟨x,g,f⟩:=dX hi;have j:eR ((i:Int)+1):=by unfold eR;omega
  obtain⟨n,k⟩:=K x (ev g);have m:=kR x.v;have c:=J6 (.var x.v) (ab6 n);have D:cF (.var x.v)=oP x.v:=rfl;rw[D]at c;have v:(oP x.v).length<=21:=by have:=BZ n;simp[oP];omega
  have e:=XZ x;generalize oP x.v=V at c v e;have l:p.length+1<=lim:=by rw[a];simp only[ga,oT,iz];unfold lim;omega
  have d:p++[oD x]=B++(s.k.map oD).take (i+1):=by rw[xf B oD g,a]
  have d1:V.length+8<=lim:=by unfold lim;omega
  have d2:8+V.length<=lim:=by unfold lim;omega
  have d3:8+V.length+1<=lim:=by unfold lim;omega
  have d4:V.length+1+1+1+1+1+1+1+1<=lim:=by unfold lim;omega
  have d5:V.length+1+1+1+1+1+1+1+1+1<=lim:=by unfold lim;omega
  rw[e]at d;rcases k with k|k
  ·have ae:(x.k==3)=false:=by rw[k];rfl
   have J:¬x.k=3:=Ω
   rw[if_neg J]at d;simp[ir,iu,hi,f];(with_reducible repeat' first|refine ak ?_|refine aI m ?_|refine aJ m ?_|refine aI c ?_|refine aJ c ?_|simp[hi,f,l,j,ae,d1,d2,d3,d4,d5]);refine bQ.rng (p++[[40]++yy++[32]++V++[41]]) hi d ?_;simp[ir,iu,tY,tZ,qV,yy];exact⟨by simp[fresh,ay,au,bX,inObs,Pv.look,gM],dH ii,dK io,Ψ⟩
  ·have ae:(x.k==3)=true:=by rw[k];rfl
   rw[if_pos k]at d;simp[ir,iu,hi,f];(with_reducible repeat' first|refine ak ?_|refine aI m ?_|refine aJ m ?_|refine aI c ?_|refine aJ c ?_|simp[hi,f,l,j,ae,d1,d2,d3,d4,d5]);refine bQ.rng (p++[[40]++yx++[32]++V++[41]]) hi d ?_;simp[ir,iu,tY,tZ,qV,yx];exact⟨by simp[fresh,ay,au,bX,inObs,Pv.look,gM],dH ii,dK io,Ψ⟩
 rw[gv Ψ]at a;subst a;have Z:(B++s.k.map oD).length<=2200000:=by simp only[ga,iz];omega
 generalize O:B++s.k.map oD=C at Z⊢;simp[ir,iu];(with_reducible repeat' first|refine ak ?_|simp);refine gb (uv 83 84 85 (.slice 2 .no (s.m.map bq.e)) s.m.length) s.m.length (fun i p=>p=C++(s.m.map p6).take i) C (by simp[uv];exact bU) Ψ (fun p a _=>?_) (fun i p hi a _=>?_);rotate_left
 ·obtain⟨x,g,f⟩:=dX hi;have j:eR ((i:Int)+1):=by unfold eR;omega
  obtain⟨n,k⟩:=hm x (ev g);have lu:=Fh k;have m:=kR x.v;have c:=J6 (.var x.v) (ab6 n);have D:cF (.var x.v)=oP x.v:=rfl;rw[D]at c;have v:(oP x.v).length<=21:=by have:=BZ n;simp[oP];omega
  have e:=YG x;generalize oP x.v=V at c v e;have l:p.length+1<=lim:=by rw[a];simp only[ga,oT,iz];unfold lim;omega
  have d:p++[p6 x]=C++(s.m.map p6).take (i+1):=by rw[xf C p6 g,a]
  rw[e]at d;have d1:8+x.s.length<=lim:=by unfold lim;omega
  have d2:8+x.s.length+1<=lim:=by unfold lim;omega
  have d3:8+x.s.length+1+V.length<=lim:=by unfold lim;omega
  have d4:x.s.length+1+1+1+1+1+1+1+1<=lim:=by unfold lim;omega
  have d5:x.s.length+1+1+1+1+1+1+1+1+1<=lim:=by unfold lim;omega
  have d6:x.s.length+(1+V.length)+1+1+1+1+1+1+1+1<=lim:=by unfold lim;omega
  have d7:x.s.length+(V.length+1)+1+1+1+1+1+1+1+1<=lim:=by unfold lim;omega
  have d8:x.s.length+(V.length+1+1)+1+1+1+1+1+1+1+1<=lim:=by unfold lim;omega
  have d9:x.s.length+1+1+1+1+1+1+1+1+1+V.length<=lim:=by unfold lim;omega
  simp[uv,hi,f];(with_reducible repeat' first|refine ak ?_|refine aI m ?_|refine aJ m ?_|refine aI c ?_|refine aJ c ?_|simp[hi,f,l,j,d1,d2,d3,d4,d5,d6,d7,d8,d9]);refine bQ.rng (p++[[40,97,98,115,101,110,116,32]++x.s++[32]++V++[41]]) hi d ?_;simp[uv,tY,tZ,qV];exact⟨by simp[fresh,ay,au,bX,inObs,Pv.look,gM],dH ii,dK io,Ψ⟩
 rw[gv Ψ]at a;subst a;have N:C++s.m.map p6=W:=by rw[E,<-O,<-Q,<-S];rfl
 rw[N];simp[uv];((with_reducible repeat' first|refine ak ?_|refine aI y ?_|refine aJ y ?_|simp|((first|apply bV|apply b0|apply bZ)<;>intro h<;>try simp at h))<;>(try exact cA));all_goals simp[bF,aX,aY,aW]
def IE:∀l:List T,(∀t∈l,t.ok=true)->(kK l .nil).ok=true
 |[],_=>rfl
 |x::l,h=>by simp only[kK,T.ok,cD];exact⟨h x Ψ,IE l fun t aM=>h t (by simp[aM])⟩
def abN{l:List T}(h:∀t∈l,t.ok=true/\t.size<=5000)(a:l.length<=400):bK ar 39 [(kK l .nil).e] (.str (nS l)):=by have J:=x7 h a;rw[<-afO]at J⊢;exact abM _ _ (e2 _) (IE l fun t aM=>(h t aM).1) (by unfold lim;omega)
def Dc(u:List T)(s:dR)(x:List az)(p:List (List b7))(i j:Nat)(q:List T×List T):bn:=⟨[(1,.ptr (.loc 0) 0),(3,.slice 1 (.own (.loc 1)) (jY p)),(8,.slice 4 (.own (.loc 2)) (q.1.map T.e)),(9,.slice 4 (.own (.loc 3)) (q.2.map T.e)),(35,.slice 1 .no (s.d.map c7)),(36,.int .i64 s.d.length),(37,.int .i64 i),(43,.slice 5 .no (x.map az.e)),(44,.int .i64 x.length),(45,.int .i64 j)],iu u s,[(.loc 1,⟨p.length,9,1,none⟩),(.loc 2,⟨q.1.length,71,4,none⟩),(.loc 3,⟨q.2.length,71,4,none⟩)],4,[]⟩
def asT{u:List T}{s:dR}(h:Dh u s)(t:bK ar 38 [AS u s] (.bool true)):bK ar 12 [AS u s] (.str (vz u s)):=by
 have hle:=h.le;have Z:=h.l;have M9:=h.uf;have aQ:=h.x.d;have rh:=h.x.dl;have ad:=h.x.k.at';have iP:=h.x.kl;have hm:=h.x.m.at';have k2:=h.x.ml;have D:=asU (xe u s) [32] (by unfold vz at hle;unfold lim;omega);have o:=asO;rw[V8]at o;clear h;unfold vz;obtain⟨W,L⟩:∃W,W=xe u s:=⟨_,rfl⟩;rw[<-L]at D⊢;unfold AS at t⊢;refine br a7 Tryz.func12 Za fun aN=>?_;unfold Le;clear aN;simp;(with_reducible repeat' first|refine ak ?_|refine aI t ?_|refine aJ t ?_|simp);clear t;refine gb (ir u s 21 22 23 (.slice 4 .no (u.map T.e)) u.length) u.length (fun i p=>p=[]++(u.map cF).take i) [] (by simp[ir,iu,qV];exact bU) Ψ (fun p a _=>?_) (fun i p hi a _=>?_);rotate_left
 ·obtain⟨x,g,d⟩:=dX hi;have k:eR ((i:Int)+1):=by unfold eR;omega
  have J:=M9 x (ev g);have U:x.ok=true/\x.size<=5000:=by unfold T.fit at J;simpa using J
  have c:=abM x.size x (e2 _) U.1 (by have:=Bd x U.1;unfold lim;omega);have m:p.length+1<=lim:=by rw[a];simp;unfold lim;omega
  have f:p++[cF x]=[]++(u.map cF).take (i+1):=by rw[a,xf [] cF g]
  simp[ir,iu,hi,d];(with_reducible repeat' first|refine ak ?_|refine aI c ?_|refine aJ c ?_|simp[hi,d,m,k]);simp only[b6]at f;refine bQ.rng (p++[cF x]) hi f ?_;simp[ir,iu,tY,tZ,qV];exact⟨by simp[fresh,ay,au,bX,inObs,Pv.look,gM],dH ii,dK io,Ψ⟩
 rw[gv Ψ]at a;subst a;have bj:([]++u.map cF).length<=1048576:=by simpa using Z
 generalize Mg:[]++u.map cF=A at bj⊢;simp[ir,iu];(with_reducible repeat' first|refine ak ?_|simp);refine gb (ir u s 35 36 37 (.slice 1 .no (s.d.map c7)) s.d.length) s.d.length (fun i p=>p=A++(s.d.map nG).take i) A vM Ψ (fun p a _=>?_) (fun i p hi a _=>?_);rotate_left
 ·obtain⟨x,g,d⟩:=dX hi;have k:eR ((i:Int)+1):=by unfold eR;omega
  have F:=aQ x (ev g);have z:=QI F;have E:=Qo F;have M:=F.fits.1;have m1:(x.map fun b=>T.var b.v).length<=400:=by rw[iz];exact M
  have m2:(x.map (·.t)).length<=400:=by rw[iz];exact M
  have e:=Up x;have BK:=xf A nG g;have K:c7 x= .slice 5 .no (x.map az.e):=rfl;simp[ir,iu,hi,d,K];(with_reducible repeat' first|refine ak ?_|simp[hi,d,K]);refine gb (Dc u s x p i) x.length (fun j q=>q=((x.map fun b=>T.var b.v).take j,(x.map (·.t)).take j)) ([],[]) (by simp[Dc,iu,c7];exact bU) Ψ (fun q n _=>?_) (fun j q r n _=>?_);rotate_left
  ·obtain⟨b,ae⟩:∃b,x[j]? =some b:=⟨_,cl r⟩;have O:∀h,(x[j]'h)=b:=fun h=>by rw[cl r]at ae;exact ft ae
   have N:=kQ b.v;have G:eR ((j:Int)+1):=by unfold eR;omega
   have H3:q.1.length+1<=lim:=by rw[n];simp only[oT,iz];unfold lim;omega
   have kC:q.2.length+1<=lim:=by rw[n];simp only[oT,iz];unfold lim;omega
   have H:(q.1++[T.var b.v],q.2++[b.t])=((x.map fun b=>T.var b.v).take (j+1),(x.map (·.t)).take (j+1)):=by rw[n,IH _ ae,IH _ ae]
   simp[Dc,iu,r,O];(with_reducible repeat' first|refine ak ?_|refine aI N ?_|refine aJ N ?_|simp[r,O,G,H3,kC]);refine bQ.rng (q.1++[T.var b.v],q.2++[b.t]) r H ?_;simp[Dc,iu];exact⟨by simp[fresh,ay,au,bX,inObs,Pv.look,gM,E0],dH (by simp[fresh,ay,au,bX,inObs,Pv.look,gM,E0]),dK (by simp[fresh,ay,au,dD,inObs,Pv.look,gM,E0]),Ψ⟩
  rw[gv Ψ,gv Ψ]at n;subst n;generalize (x.map fun b=>T.var b.v)=X at z m1 e⊢;generalize (x.map (·.t))=Y at E m2 e⊢;have Q:=abK X .nil;have S:=abK Y .nil;have c:=abN z m1;have w:=abN E m2;have bP:=x7 z m1;have c2:=x7 E m2;generalize nS X=P at c bP e;generalize nS Y=R at w c2 e;have f:p++[nG x]=A++(s.d.map nG).take (i+1):=by rw[BK,a]
  rw[e]at f;have m:p.length+1<=lim:=by rw[a];simp only[ga,oT,iz];unfold lim;omega
  have d1:4+P.length<=lim:=by unfold lim;omega
  have d2:4+P.length+1<=lim:=by unfold lim;omega
  have d3:P.length+1+1+1+1<=lim:=by unfold lim;omega
  have d4:P.length+1+1+1+1+1<=lim:=by unfold lim;omega
  have d5:P.length+1+1+1+1+1+R.length<=lim:=by unfold lim;omega
  have d6:P.length+(1+R.length)+1+1+1+1<=lim:=by unfold lim;omega
  have d7:P.length+(R.length+1)+1+1+1+1<=lim:=by unfold lim;omega
  have d8:P.length+(R.length+1+1)+1+1+1+1<=lim:=by unfold lim;omega
  simp[Dc,iu];(with_reducible repeat' first|refine ak ?_|refine aI Q ?_|refine aJ Q ?_|refine aI S ?_|refine aJ S ?_|refine aI c ?_|refine aJ c ?_|refine aI w ?_|refine aJ w ?_|simp[hi,d,m,k,d1,d2,d3,d4,d5,d6,d7,d8]);refine bQ.rng (p++[[40,47,61,32]++P++[32]++R++[41]]) hi f ?_;simp[ir,iu,tY,tZ,qV];exact⟨by simp[fresh,ay,au,bX,inObs,Pv.look,gM],dH ii,dK io,Ψ⟩
 rw[gv Ψ]at a;subst a;have hB:(A++s.d.map nG).length<=1100000:=by simp only[ga,iz];omega
 generalize Mh:A++s.d.map nG=B at hB⊢;simp[ir,iu];(with_reducible repeat' first|refine ak ?_|simp);refine gb (ir u s 79 80 81 (.slice 2 .no (s.k.map bR.e)) s.k.length) s.k.length (fun i p=>p=B++(s.k.map oD).take i) B vM Ψ (fun p a _=>?_) (fun i p hi a _=>?_);rotate_left
 ·obtain⟨x,g,d⟩:=dX hi;have k:eR ((i:Int)+1):=by unfold eR;omega
  obtain⟨v,l⟩:=ad x (ev g);have c:=Kf x.v t7;have y:=BZ v;have e:=XZ x;rw[show oP x.v=63::Lib.itoa x.v from rfl]at e;generalize Lib.itoa x.v=V at c y e;have m:p.length+1<=lim:=by rw[a];simp only[ga,oT,iz];unfold lim;omega
  have f:p++[oD x]=B++(s.k.map oD).take (i+1):=by rw[xf B oD g,a]
  have d0:V.length+9<=lim:=by unfold lim;omega
  have d1:V.length+8<=lim:=by unfold lim;omega
  have d2:8+V.length<=lim:=by unfold lim;omega
  have d3:8+V.length+1<=lim:=by unfold lim;omega
  have d4:V.length+1+1+1+1+1+1+1+1<=lim:=by unfold lim;omega
  have d5:V.length+1+1+1+1+1+1+1+1+1<=lim:=by unfold lim;omega
  rw[e]at f;rcases l with l|l
  ·have aq:¬x.k=3:=Ω
   rw[if_neg aq]at f;simp[ir,iu,hi,d];(with_reducible repeat' first|refine ak ?_|refine aI o ?_|refine aJ o ?_|refine aI c ?_|refine aJ c ?_|simp[hi,d,m,k,l,d1,d2,d3,d4,d5]);refine bQ.rng (p++[[40]++yy++[32]++(63::V)++[41]]) hi f ?_;simp[ir,iu,tY,tZ,qV,yy];exact⟨by simp[fresh,ay,au,bX,inObs,Pv.look,gM],dH ii,dK io,Ψ⟩
  ·rw[if_pos l]at f;simp[ir,iu,hi,d];(with_reducible repeat' first|refine ak ?_|refine aI o ?_|refine aJ o ?_|refine aI c ?_|refine aJ c ?_|simp[hi,d,m,k,l,d1,d2,d3,d4,d5]);refine bQ.rng (p++[[40]++yx++[32]++(63::V)++[41]]) hi f ?_;simp[ir,iu,tY,tZ,qV,yx];exact⟨by simp[fresh,ay,au,bX,inObs,Pv.look,gM],dH ii,dK io,Ψ⟩
 rw[gv Ψ]at a;subst a;have Hz:(B++s.k.map oD).length<=2200000:=by simp only[ga,iz];omega
 generalize Mi:B++s.k.map oD=C at Hz⊢;simp[ir,iu];(with_reducible repeat' first|refine ak ?_|simp);refine gb (uv 105 106 107 (.slice 2 .no (s.m.map bq.e)) s.m.length) s.m.length (fun i p=>p=C++(s.m.map p6).take i) C (by simp[uv];exact bU) Ψ (fun p a _=>?_) (fun i p hi a _=>?_);rotate_left
 ·obtain⟨x,g,d⟩:=dX hi;have k:eR ((i:Int)+1):=by unfold eR;omega
  obtain⟨v,l⟩:=hm x (ev g);have lu:=Fh l;have c:=Kf x.v t7;have y:=BZ v;have e:=YG x;rw[show oP x.v=63::Lib.itoa x.v from rfl]at e;generalize Lib.itoa x.v=V at c y e;have m:p.length+1<=lim:=by rw[a];simp only[ga,oT,iz];unfold lim;omega
  have f:p++[p6 x]=C++(s.m.map p6).take (i+1):=by rw[xf C p6 g,a]
  rw[e]at f;have d1:8+x.s.length<=lim:=by unfold lim;omega
  have d2:8+x.s.length+1<=lim:=by unfold lim;omega
  have d3:8+x.s.length+1+V.length<=lim:=by unfold lim;omega
  have d4:x.s.length+1+1+1+1+1+1+1+1<=lim:=by unfold lim;omega
  have d5:x.s.length+1+1+1+1+1+1+1+1+1<=lim:=by unfold lim;omega
  have d6:x.s.length+(1+V.length)+1+1+1+1+1+1+1+1<=lim:=by unfold lim;omega
  have d7:x.s.length+(V.length+1)+1+1+1+1+1+1+1+1<=lim:=by unfold lim;omega
  have d8:x.s.length+(V.length+1+1)+1+1+1+1+1+1+1+1<=lim:=by unfold lim;omega
  have d9:x.s.length+1+1+1+1+1+1+1+1+1+V.length<=lim:=by unfold lim;omega
  simp[uv,hi,d];(with_reducible repeat' first|refine ak ?_|refine aI c ?_|refine aJ c ?_|simp[hi,d,m,k,d1,d2,d3,d4,d5,d6,d7,d8,d9]);refine bQ.rng (p++[[40,97,98,115,101,110,116,32]++x.s++[32]++(63::V)++[41]]) hi f ?_;simp[uv,tY,tZ,qV];exact⟨by simp[fresh,ay,au,bX,inObs,Pv.look,gM],dH ii,dK io,Ψ⟩
 rw[gv Ψ]at a;subst a;have Mj:C++s.m.map p6=W:=by rw[L,<-Mi,<-Mh,<-Mg];rfl
 rw[Mj];simp[uv];((with_reducible repeat' first|refine ak ?_|refine aI D ?_|refine aJ D ?_|simp|((first|apply bV|apply b0|apply bZ)<;>intro h<;>try simp at h))<;>(try exact cA));all_goals simp[bF,aX,aY,aW]
def K2:C:=(aa [c6 1 0,bs 2 false] (aa [bT 3 1048576] (aa [bh 7 6 1,I 8 3,ch 9 11 7 8,I 3 9] (.seq (aa [I 10 3,aS 11 .lss 10 0] (aU 11 (aa [bs 2 true] .ret) .skip)) (aa [bh 12 6 1,cI 13 13 12,cI 14 12 13,I 4 14] (aa [bh 15 6 1,cI 16 13 15,cU (.alloc 5 none (.agg [.slice 4 .nil [],.int .i64 0,.slice 5 .nil [],.slice 1 .nil [],.slice 2 .nil [],.slice 2 .nil []])),b1 6 5 16] (aa [bh 17 6 5,cI 18 14 17,I 6 18] (.seq (aa [I 19 6,I 20 4,bp 21 .neq 19 20] (aU 21 (aa [bs 2 false] .ret) .skip)) (.seq (.seq (.drawn true 27 [bh 22 6 5,bh 23 6 1,cI 24 13 23,ch 25 15 22 24,cH 26 25]) (aU 26 (aa [bs 2 false] .ret) .skip)) (aa [bs 2 true] .ret))))))))))
def Y3:b4 aT K2 [.tmp 2] 1 kS=true:=an
def US:ar.funcs[(4:Nat)]? =some kS:=Tryz.func4
def aqJ{s:dR}(h:nr s=some s):s.d.length<=30:=by
 unfold nr at h;split at h
 ·cases h
 ·split at h
  ·cases h
  ·split at h
   ·cases h
   ·split at h
    ·rename_i b;have a:=ft h;rw[<-a];exact b
    ·cases h
def arP{s:dR}(h:JV s)(a:s.k.length<=1048576)(hm:s.m.length<=1048576):abk s:=⟨h.1.n,h.1.b,h.1.d,aqJ h.2,h.1.k,a,h.1.m,hm⟩
def hq:T->List Int->List Int
 | .var n,l=>if n∈l then l else l++[n]
 | .pair a b,l=>hq b (hq a l)
 |_,l=>l
def gB(u:List T)(l:List Int):List Int:=u.foldl (fun l t=>hq t l) l
def OL{m:Int}:∀(t:T) {l:List Int},m∈hq t l↔m∈l\/t.occ m=true
 | .var n,l=>by
  simp only[hq,T.occ,dW];split
  ·rename_i h;exact⟨.inl,fun c=>c.elim id fun e=>by subst e;exact h⟩
  ·rw[j0,List.mem_singleton];exact or_congr Iff.rfl eq_comm
 | .pair a b,l=>by simp only[hq,OL b,OL a,T.occ,mR,or_assoc]
 | .nil,l=>by simp[hq,T.occ]
 | .sym _,l=>by simp[hq,T.occ]
 | .num _,l=>by simp[hq,T.occ]
def OM:∀(t:T) {l:List Int},l.Nodup->(hq t l).Nodup
 | .var n,l,h=>by
  simp only[hq];split
  ·exact h
  ·rename_i d;rw[rS];exact⟨h,Ψ,fun a c b ae e=>by rw[List.mem_singleton.1 ae]at e;rw[e]at c;exact d c⟩
 | .pair a b,l,h=>OM b (OM a h)
 | .nil,_,h=>h
 | .sym _,_,h=>h
 | .num _,_,h=>h
def I7:∀(t:T) (l:List Int),(hq t l).length<=l.length+t.size
 | .var n,l=>by simp only[hq,T.size];split<;>simp<;>omega
 | .pair a b,l=>by have J:=I7 a l;have U:=I7 b (hq a l);simp only[hq,T.size];omega
 | .nil,l=>by simp[hq]
 | .sym _,l=>by simp[hq]
 | .num _,l=>by simp[hq]
def I9{m:Int}:∀(u:List T) {l:List Int},m∈gB u l↔m∈l\/ ∃t∈u,t.occ m=true
 |[],l=>by simp[gB]
 |t::u,l=>by show m∈gB u (hq t l)↔_;rw[I9 u,OL];simp[or_assoc]
def ON:∀(u:List T) {l:List Int},l.Nodup->(gB u l).Nodup
 |[],_,h=>h
 |t::u,_,h=>ON u (OM t h)
def GD{f:Int->Int}:∀{t:T},t.ap (fun v=>.var (f v))=t↔∀v,t.occ v=true->f v=v
 | .var n=>by simp[T.ap,T.occ]
 | .pair a b=>by simp only[T.ap,T.pair.injEq,T.occ,mR,GD (t:=a),GD (t:=b)];exact⟨fun h v c=>c.elim (h.1 v) (h.2 v),fun h=>⟨fun v c=>h v (.inl c),fun v c=>h v (.inr c)⟩⟩
 | .nil=>by simp[T.ap,T.occ]
 | .sym _=>by simp[T.ap,T.occ]
 | .num _=>by simp[T.ap,T.occ]
def adF{u:List T}{f:Int->Int}(b:∀(i:Nat) v,(gB u [])[i]? =some v->f v=(i:Int)):(∀t∈u,t.ap (fun v=>.var (f v))=t)↔∀(i:Nat) v,(gB u [])[i]? =some v->v=(i:Int):=by
 constructor
 ·intro h i v a;have hm:=ev a;rw[I9]at hm;rcases hm with hm|⟨t,aM,al⟩
  ·simp at hm
  ·rw[<-GD.1 (h t aM) v al];exact b i v a
 ·intro h t aM;rw[GD];intro v a;have hm:v∈gB u []:=(I9 u).2 (.inr ⟨t,aM,a⟩);obtain⟨i,hi⟩:=List.mem_iff_getElem?.1 hm;rw[b i v hi];exact(h i v hi).symm
def ah7(t:T):∀l:List Int,t.fold qn l=hq t l:=by
 induction t with
 |pair a b d c=>intro l;simp only[T.fold,hq,d,c]
 |_=>intro l;rfl
def Zk(u:List T)(t:T)(l:List Int):gB (u++[t]) l=hq t (gB u l):=by simp[gB,List.foldl_append]
def tC:List Int->Int->Nat
 |[],_=>0
 |x::r,v=>if x=v then 0 else tC r v+1
def W3:∀{l:List Int} (_:l.Nodup) {i:Nat} {v:Int},l[i]? =some v->tC l v=i
 |[],_,i,v,h=>by simp at h
 |x::r,b,0,v,h=>by simp at h;simp[tC,h]
 |x::r,b,i+1,v,h=>by simp only[List.getElem?_cons_succ]at h;have hm:=ev h;have a:=List.nodup_cons.1 b;have:x≠v:=fun e=>a.1 (e▸hm);rw[tC,if_neg this,W3 a.2 h]
def aro(g:Int->Int)(t:T):t.sub (fun v=>some (.var (g v)))=t.ap (fun v=>.var (g v)):=by
 induction t with
 |pair a b d c=>simp only[T.sub,T.ap,d,c]
 |_=>rfl
def wO(o:List Int)(t:T):T:=t.sub fun v=>some (.var (tC o v))
def yT(u:List T):List T:=u.map (wO (gB u []))
def Yl{α:Type}(f:α->α):∀l:List α,l.map f=l↔∀x∈l,f x=x
 |[]=>by simp
 |x::r=>by simp[Yl f r]
def F8(o:List Int):Prop:= ∀(i:Nat) (v:Int),o[i]? =some v->v=i
def adE(u:List T):yT u=u↔F8 (gB u []):=by
 unfold yT;rw[Yl];have a:(gB u []).Nodup:=ON u Ψ;have:=adF (u:=u) (f:=fun v=>(tC (gB u []) v:Int)) fun i v h=>by rw[W3 a h]
 rw[show F8 (gB u [])↔_ from this.symm];exact forall_congr' fun t=>forall_congr' fun _=>by rw[wO,aro]
def I8(u:List T):∀l:List Int,(∀t∈u,t.fit=true)->(gB u l).length<=l.length+5000*u.length:=by
 induction u with
 |nil=>intro l _;simp[gB]
 |cons t r a=>intro l aM;have J:=a (hq t l) fun x c=>aM x (pB _ c);have U:=I7 t l;have b:=aM t (List.mem_cons_self ..);simp only[T.fit,cD,e3]at b;have d:gB (t::r) l=gB r (hq t l):=rfl;rw[d];simp only[ik];omega
end
end Go.Proofs.YtfeencekjcjalaaGreatDoor
