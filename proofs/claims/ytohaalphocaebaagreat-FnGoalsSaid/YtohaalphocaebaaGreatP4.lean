/- Contracts: states that are the same; valid states. -/
import Derived.Sort.AssemblyPlain
import Derived.Sort.LotD5
import Derived.Test.YtohaalphocaebaaGreatProg
import Derived.Lib.OwnBridge
import Derived.Shelf.GgSortMore.Stable
import Derived.Shelf.GgSortFunc.SmallK
import Derived.Shelf.GgSortFunc.Slice
import Derived.Ground.GgsProg
import Derived.Test.YtohaalphocaebaaGreatP3
set_option linter.all false
set_option maxHeartbeats 4000000
set_option maxRecDepth 4000
open Array renaming getElem?_toList->tN
open BitVec renaming ofInt->lS
open Bool renaming and_eq_true->ct,eq_iff_iff->pN,false_eq_true->gF,or_eq_true->ls
open Go renaming Program->cG,TypeId->gG
open Go.Extern.ReflectliteSwapper renaming swap->Ee,swapper->arD
open Go.Extern.ReflectliteValue renaming len->arE,method->arF,unpack->anj,valueError->ank
open Go.Extern.Rtype renaming kind->X2
open Go.IntKind renaming bits->nD,i64->mj,signed->rf,u64->hl,wrap->sy
open Go.IntWalk renaming i64_in->ml
open Go.Proofs.Tryz renaming prog->ay
open List renaming all_eq_true->gH,cons_append->bV,drop_eq_getElem_cons->k4,getElem?_eq_getElem->cr,getElem?_eq_none->qp,getElem?_eq_some_iff->fp,getElem_of_mem->od,length_cons->oe,map_cons->eO,map_nil->hn,mem_append->h9,mem_cons->fI,mem_cons_of_mem->og,mem_filter->iA,mem_map->ia,mem_of_getElem?->eZ,mem_singleton->kg,nil_append->b3,pairwise_iff_getElem->oX,take_length->oZ,take_of_length_le->hv
open List.Pairwise renaming filter->X3
open List.cons renaming injEq->yO
open Nat renaming add_mul->o0,le_refl->eC,le_trans->gZ,mul_le_mul_right->qq,strongRecOn->pO
open Ne renaming symm->k5
open Option renaming getD_none->jq,getD_some->hV,isSome_none->iL,isSome_some->kM,map_eq_some_iff->gr,map_some->nE
open Option.some renaming inj->gu,injEq->dy
open Prod.mk renaming injEq->jE
open _root_ renaming UInt8->c4,beq_iff_eq->dM,congrArg->e4,decide_eq_false->lT,decide_eq_false_iff_not->hx,decide_eq_true->jS,decide_eq_true_eq->eF
namespace Go.Proofs.YtohaalphocaebaaGreat
section
open Go Go.Pv
variable {α:Type} {S:List α->cM} {n g b8:Nat} {lc b1:List ai} {lt:α->α->Bool}
def tU(lt:α->α->Bool)(a b j:Nat)(l:List α):Prop:= ∀p q x y,a<=p->p<q->q<b->q≠j->l[p]? =some x->l[q]? =some y->lt y x=false
theorem tU.swap(bt:qu lt){a b j:Nat}{l:List α}(h:tU lt a b (j+1) l)(Se:a<=j)(FE:j+1<b)(ag:j+1<l.length){x y:α}(ae:l[j+1]? =some x)(aM:l[j]? =some y)(gz:lt x y=true):tU lt a b j (hd l (j+1) j):=by
 intro p q u v bL jz bI apa hu av;rw[z8 _ _ _ _ ag Ω]at hu av;rw[if_neg (by omega:¬(q=j))]at av;split at av
 ·rename_i e;subst e;rw[aM]at av;cases av;split at hu
  ·omega
  ·split at hu
   ·rw[ae]at hu;cases hu;exact bt.asym _ _ gz
   ·exact h p j u y bL Ω Ω Ω hu aM
 ·split at hu
  ·rename_i e;subst e;rw[aM]at hu;cases hu;exact h j q y v Se Ω bI Ω aM av
  ·split at hu
   ·rename_i e;subst e;rw[ae]at hu;cases hu;exact h (p+1) q x v Ω Ω bI Ω ae av
   ·exact h p q u v bL jz bI Ω hu av
theorem tU.done(bt:qu lt){a b j:Nat}{l:List α}(h:tU lt a b (j+1) l)(Se:a<=j)(FE:j+1<b){x y:α}(ae:l[j+1]? =some x)(aM:l[j]? =some y)(gz:lt x y=false):e7 lt a b l:=by
 intro p q u v bL jz bI hu av;by_cases e:q=j+1
 ·subst e;rw[ae]at av;cases av;by_cases aF:p=j
  ·subst aF;rw[aM]at hu;cases hu;exact gz
  ·exact bt.ntr _ _ _ (h p j u y bL Ω Ω Ω hu aM) gz
 ·exact h p q u v bL jz bI e hu av
theorem tU.first{a b:Nat}{l:List α}(h:tU lt a b a l):e7 lt a b l:=fun p q u v bL jz bI hu av=>h p q u v bL jz bI Ω hu av
theorem e7.but{a b:Nat}{l:List α}(h:e7 lt a b l):tU lt a (b+1) b l:=fun p q u v bL jz bI Kh hu av=>h p q u v bL jz Ω hu av
theorem RF(H:e1 S n g b8 lc b1 lt)(bt:qu lt)(l:List α)(au:l.length=n)(a b:Nat)(pn:a<=b)(ab:b<=n):
  bJ ay 260 [eV g b8 lc b1,.int .i64 a,.int .i64 b] (S l) fun r ah=>r= .tuple []/\∃a6,ah=S a6/\gl a b l a6/\e7 lt a b a6:=by
 have af:=H.ok l;have az:∀l m,Pv.look (.loc m) (S l).b=none:=fun l=>(H.ok l).obj.1;have hu:∀l m cs,cy (.loc m) cs (S l).b=(S l).b++[(.loc m,cs)]:=fun l m cs=>kc (az l m);have aw:∀m,aL.loc m∉cX (S l):=j5 af.obj;have hle:=H.le;refine bJ.mk mixed A1 Rc U0 Ψ af.obj fun aR cE=>?_;unfold Iy;simp[eV,hu,aw,cN,az];(with_reducible repeat' first|refine aj ?_|simp[hu,aw,cN,az]);refine oy (fun(x:Nat×List α)=>⟨[(1,.int .i64 a),(2,.int .i64 b),(3,.ptr (.loc 0) 0),(6,.int .i64 x.1)],(.loc 0,[.func g lc,.func b8 b1])::(S x.2).b,(S x.2).e,1,cX (S l)⟩) (fun x=>b+1-x.1)
  (fun x=>x.2.length=n/\a<x.1/\x.1<=b+1/\(x.1<=b\/x.1=a+1)/\gl a b l x.2/\e7 lt a x.1 x.2) (a+1,l)
  (H.weak au au d7 (by simp[cN,az]) aE aE) ⟨au,Ψ,by simp;omega,.inr rfl,.refl _,fun i j x y J U al=>by simp at al;omega⟩ ?_
 rintro⟨i,lk⟩ ⟨J,nh,zy,te,U,al⟩ _;simp only at J nh zy te U al;simp;((with_reducible repeat' first|refine aj ?_|simp|((first|apply bD|apply bH|apply bG)<;>intro h<;>try simp at h))<;>(try exact b2))
 ·refine oy (fun(x:Nat×List α)=>⟨[(1,.int .i64 a),(2,.int .i64 b),(3,.ptr (.loc 0) 0),(6,.int .i64 i),(7,.int .i64 x.1)],(.loc 0,[.func g lc,.func b8 b1])::(S x.2).b,(S x.2).e,1,cX (S l)⟩) (fun x=>x.1)
   (fun x=>x.2.length=n/\a<=x.1/\x.1<=i/\gl a b l x.2/\tU lt a (i+1) x.1 x.2) (i,lk)
   (H.weakC au J d7) ⟨J,by simp;omega,Ψ,U,e7.but al⟩ ?_
  rintro⟨j,C2⟩ ⟨aX,agF,agS,bg,b6⟩ _;simp only at aX agF agS bg b6;simp[Pv.look];((with_reducible repeat' first|refine aj ?_|simp[Pv.look]|((first|apply bD|apply bH|apply bG)<;>intro h<;>try simp at h))<;>(try exact b2))
  ·obtain⟨dD,rfl⟩:∃dD,j=dD+1:=⟨j-1,Ω⟩;obtain⟨x,ae⟩:∃x,C2[dD+1]? =some x:=⟨_,cr Ω⟩;obtain⟨y,aM⟩:∃y,C2[dD]? =some y:=⟨_,cr Ω⟩;have ao:(((dD+1:Nat):Int)-1)=(dD:Nat):=Ω
   rw[H.slc,ao];refine H.doLess aX (dD+1) dD ae aM ?_;simp;cases gz:lt x y with
   |true=>
    simp[Pv.look];(with_reducible repeat' first|refine aj ?_|simp[Pv.look]);have bM:((dD:Int)+1)=(dD+1:Nat):=Ω
    rw[H.ssc,bM];refine H.doSwap aX (dD+1) dD Ω Ω Ω ?_;simp;(with_reducible repeat' first|refine aj ?_|simp);refine bR.whl (dD,hd C2 (dD+1) dD) Ψ ⟨by simp[aX],by simp;omega,by simp;omega,.step bg Ω Ω Ω Ω Ω Ω,b6.swap bt Ω Ω Ω ae aM gz⟩ (H.weakC au (by simp[aX]) d7)
   |false=>simp;((with_reducible repeat' first|refine aj ?_|simp|((first|apply bD|apply bH|apply bG)<;>intro h<;>try simp at h))<;>(try exact b2));refine bR.whl (i+1,C2) d8 ⟨aX,by simp;omega,by simp;omega,by simp;omega,bg,b6.done bt Ω Ω ae aM gz⟩ (H.weakC au aX d7)
  ·obtain rfl:j=a:=Ω
   refine bR.whl (i+1,C2) d8 ⟨aX,by simp;omega,by simp;omega,by simp;omega,bg,b6.first⟩ (H.weakC au aX d7)
 ·refine H.ret au J (.inr rfl) ⟨rfl,lk,rfl,U,fun p q x y bL jz bI=>al p q x y bL jz Ω⟩
end
section
open Go Go.Pv
variable {α:Type} [Inhabited α] {S:List α->cM} {n g b8:Nat} {lc b1:List ai} {lt:α->α->Bool}
theorem yY{d:Array α}{i:Nat}(h:i<d.size):d.toList[i]? =some d[i]!:=by simp[getElem!_pos,h]
theorem Gr(d:Array α){i j:Nat}(hi:i<d.size)(ag:j<d.size):hd d.toList i j=(Sort.swp d i j).toList:=by simp[hd,Sort.swp,yY hi,yY ag]
section
variable (H:e1 S n g b8 lc b1 lt)
include H
theorem e1.swapA{d:Array α}(J:d.size=n)(U:2<=n)(i j:Nat)(hi:i<n)(ag:j<n){t:List (Nat×ai)}{D:List ai}{o:List aL}{cp:Option Nat}{K:bo->Prop}
  (h:∀o,K ⟨eM cp (.tuple []) t,(.loc 0,D)::(S (Sort.swp d i j).toList).b,(S (Sort.swp d i j).toList).e,1,o⟩):cA ay b8 (.int .i64 i:: .int .i64 j::b1) ⟨t,(.loc 0,D)::(S d.toList).b,(S d.toList).e,1,o⟩ cp K:=by
 refine H.doSwap (by simpa using J) i j hi ag U ?_;rw[Gr d Ω Ω];exact h _
theorem e1.lessA{d:Array α}(J:d.size=n)(i j:Nat)(hi:i<n)(ag:j<n){t:List (Nat×ai)}{D:List ai}{o:List aL}{cp:Option Nat}{K:bo->Prop}
  (h:∀o,K ⟨eM cp (.bool (lt d[i]! d[j]!)) t,(.loc 0,D)::(S d.toList).b,(S d.toList).e,1,o⟩):cA ay g (.int .i64 i:: .int .i64 j::lc) ⟨t,(.loc 0,D)::(S d.toList).b,(S d.toList).e,1,o⟩ cp K:=
 H.doLess (by simpa using J) i j (yY Ω) (yY Ω) (h _)
theorem e1.fnA{d d2:Array α}(J:d.size=n)(U:d2.size=n){f:Nat}{args:List ai}{r:ai}(aO:bJ ay f args (S d.toList) fun eG ah=>eG=r/\ah=S d2.toList)(ad:aP (inObs (S d.toList)) args){t:List (Nat×ai)}{D:List ai}{o:List aL}{cp:Option Nat}{K:bo->Prop}
  (h:∀o,K ⟨eM cp r t,(.loc 0,D)::(S d2.toList).b,(S d2.toList).e,1,o⟩):cA ay f args ⟨t,(.loc 0,D)::(S d.toList).b,(S d.toList).e,1,o⟩ cp K:=
 H.call (by simpa using J) (R:=fun eG a6=>eG=r/\a6=d2.toList) (aO.mono fun r ah ⟨ao,aF⟩=>⟨_,aF,ao,rfl⟩) (fun r a6 ⟨_,e⟩=>by rw[e];simpa using U) ad (by rintro eG a6 ⟨rfl,rfl⟩;exact h _)
end
section
variable (H:e1 S n g b8 lc b1 lt)
include H
theorem e1.loopA{β:Type}{x0:List α}(au:x0.length=n){t:List (Nat×ai)}{b:List (aL×List ai)}{e:List (aL×fQ)}{q:Nat}{o:List aL}(cc:List Nat)(cs:β->List (Nat×ai))(A:β->Array α)(lq:β->Nat)(gO:β->Prop)(a0:β)(bj:(A a0).size=n)(bA:gO a0)
  (rJ:Pv.look (.loc 0) b=some [.func g lc,.func b8 b1]) (ab:∀k cs,Pv.look k (S (A a0).toList).b=some cs->Pv.look k b=some cs) (he:∀k o,Pv.look k (S (A a0).toList).e=some o->Pv.look k e=some o)
  (aI:∀x∈uH t cc++cs a0,Pv.get x.1 t=x.2/\aJ (mc (S (A a0).toList) 1) x.2) {c:C} {Q:Exit->bo->Prop}
  (af:∀a,gO a->cY ay (cX (S x0)) c (bR (cX (S x0)) (Bf (fun a=>⟨uH t cc++cs a,(.loc 0,[.func g lc,.func b8 b1])::(S (A a).toList).b,(S (A a).toList).e,1,cX (S x0)⟩) lq gO) (lq a) Q) ⟨uH t cc++cs a,(.loc 0,[.func g lc,.func b8 b1])::(S (A a).toList).b,(S (A a).toList).e,1,cX (S x0)⟩):
  cY ay (cX (S x0)) (.loop c) Q ⟨t,b,e,q,o⟩:=
 oy (fun a=>⟨uH t cc++cs a,(.loc 0,[.func g lc,.func b8 b1])::(S (A a).toList).b,(S (A a).toList).e,1,cX (S x0)⟩) lq gO a0 (H.weak au (by simpa using bj) aI rJ ab he) bA fun a ag _=>af a ag
theorem e1.callA0{lk:List α}(J:lk.length=n){f:Nat}{args:List ai}{R:ai->List α->Prop}(aO:bJ ay f args (S lk) fun r ah=> ∃a6,ah=S a6/\R r a6)(bS:∀r a6,R r a6->a6.length=n)(ad:aP (inObs (S lk)) args){t:List (Nat×ai)}{D:List ai}{o:List aL}{d:Option Nat}{K:bo->Prop}
  (h:∀r a6,R r a6->∀o,K ⟨eM d r t,(.loc 0,D)::(S a6).b,(S a6).e,1,o⟩):cA ay f args ⟨t,(S lk).b++[(.loc 0,D)],(S lk).e,1,o⟩ d K:=by
 refine cA.ob aO (H.ok lk) (fun k cs ae=>by rw[cN,ae]) (fun _ _ ae=>ae) ad ?_;rintro r ah ⟨a6,rfl,aK⟩;refine⟨H.same _ _ J (bS _ _ aK),?_⟩;have ao:bX (S lk).b ((S lk).b++[(.loc 0,D)])=[(.loc 0,D)]:=by rw[iJ,gX];simp[bX,H.loc]
 have aF:bX (S lk).e (S lk).e=[]:=gX _;have:=h _ _ aK (o++cX (S a6));simp only[ao,aF];exact this
theorem e1.swapA0{d:Array α}(J:d.size=n)(U:2<=n)(i j:Nat)(hi:i<n)(ag:j<n){t:List (Nat×ai)}{D:List ai}{o:List aL}{cp:Option Nat}{K:bo->Prop}
  (h:∀o,K ⟨eM cp (.tuple []) t,(.loc 0,D)::(S (Sort.swp d i j).toList).b,(S (Sort.swp d i j).toList).e,1,o⟩):cA ay b8 (.int .i64 i:: .int .i64 j::b1) ⟨t,(S d.toList).b++[(.loc 0,D)],(S d.toList).e,1,o⟩ cp K:=by
 refine H.callA0 (by simpa using J) (R:=fun r a6=>r= .tuple []/\a6=(Sort.swp d i j).toList) ((H.swap d.toList (by simpa using J) U i j hi ag).mono fun r ah ⟨ao,aF⟩=>⟨_,aF,ao,Gr d Ω Ω⟩) (fun r a6 ⟨_,e⟩=>by rw[e];simp[Sort.swp,J]) (by simp[aJ,aP,H.ksc d.toList (by simpa using J)]) ?_;rintro r a6 ⟨rfl,rfl⟩ o;exact h o
theorem e1.retA{l:List α}{d:Array α}(au:l.length=n)(J:d.size=n){Q:ai->cM->Prop}{e:Exit}(he:e= .ret\/e= .normal){t:List (Nat×ai)}{D:List ai}{q:Nat}{o:List aL}(bI:Q (.tuple []) (S d.toList)):cI [] (S l) Q e ⟨t,(.loc 0,D)::(S d.toList).b,(S d.toList).e,q,o⟩:=H.ret au (by simpa using J) he bI
theorem e1.retR{fi:List bY}{l:List α}{d:Array α}(au:l.length=n)(J:d.size=n){Q:ai->cM->Prop}{e:Exit}(he:e= .ret\/e= .normal){t:List (Nat×ai)}{D:List ai}{q:Nat}{o:List aL}(h:cL ⟨t,(.loc 0,D)::(S d.toList).b,(S d.toList).e,q,o⟩ fi fun r=>aJ (inObs (S d.toList)) r/\Q r (S d.toList)):cI fi (S l) Q e ⟨t,(.loc 0,D)::(S d.toList).b,(S d.toList).e,q,o⟩:=by
 refine cI.at (S d.toList) he (H.ok _) (H.same _ _ au (by simpa using J)) (fun k cs ae=>?_) (fun _ _ ae=>ae) h;cases k with
 |loc m=>rw[H.loc m]at ae;cases ae
 |obj m=>simpa[Pv.look]using ae
end
theorem gL(d:Array α)(i j:Nat):(Sort.swp d i j).size=d.size:=by simp[Sort.swp]
end
section
open Go Go.Pv
def Pu:C:=(aa [b7 2 0] (.seq (.cond (.c (.bool false)) (aa [I 3 0,bQ 4 (.conv .u32 (.t 3)),cV 5 258 4,I 2 5] .ret) .skip) (aa [I 6 0,cV 7 259 6,I 2 7] .ret)))
@[simp] def akn:List bY:=[.tmp 2]
def Iz:C:=(aa [a8 91 2 4,I 92 1,I 93 2,I 94 11,c1 95 267 [.t 91,.t 92,.t 93,.t 94],I 90 95,cu 96 0 90,cu 97 1 90,I 14 96,I 15 97] (aa [I 98 15,I 9 98] (aa [I 99 14,I 100 1,bF 101 .sub 99 100,I 102 2,I 103 14,bF 104 .sub 102 103,I 16 101,I 17 104] (aa [I 105 10,aQ 106 .quo 105 8,I 18 106] (aa [I 107 16,I 108 17,bF 109 .lss 107 108] (aV 109 (aa [I 110 16,I 111 18,bF 112 .geq 110 111,I 8 112] (aa [a8 113 2 4,I 114 1,I 115 14,I 116 3,c1 117 210 [.t 113,.t 114,.t 115,.t 116]] (.region [I 118 14,aQ 119 .add 118 1,I 1 119]))) (aa [I 120 17,I 121 18,bF 122 .geq 120 121,I 8 122] (aa [a8 123 2 4,I 124 14,aQ 125 .add 124 1,I 126 2,I 127 3,c1 128 210 [.t 123,.t 125,.t 126,.t 127]] (.region [I 129 14,I 2 129])))))))))
def Bx:C:=(.seq (aa [I 73 1,aQ 74 .gtr 73 0,I 75 74,ar 75 true (aH 76 0 1 4),ar 75 true (ax 77 1 76),bU 75 true 78 1,ar 75 true (aQ 79 .sub 78 1),bU 75 true 80 11,ar 75 true (gp 81 77 [.t 79,.t 80]),ar 75 true (cB 82 81),dv 83 75 82] (aV 83 (aa [a8 84 2 4,I 85 1,I 86 2,I 87 11,c1 88 266 [.t 84,.t 85,.t 86,.t 87],I 13 88] (aa [I 89 13,I 1 89] (.exit 1))) .skip)) Iz)
def IA:C:=(.seq (aa [I 61 8,I 62 61,bU 62 true 63 9,dv 64 62 63,I 65 64,bU 65 true 66 12,ar 65 true (aQ 67 .eql 66 1),dv 68 65 67] (aV 68 (aa [a8 69 2 4,I 70 1,I 71 2,c1 72 265 [.t 69,.t 70,.t 71]] (aV 72 .ret .skip)) .skip)) Bx)
def IB:C:=(aa [a8 43 2 4,I 44 1,I 45 2,c1 46 263 [.t 43,.t 44,.t 45],I 42 46,cu 47 0 42,cu 48 1 42,I 11 47,I 12 48] (.seq (aa [I 49 12,aQ 50 .eql 49 2] (aV 50 (aa [a8 51 2 4,I 52 1,I 53 2,c1 54 264 [.t 51,.t 52,.t 53]] (aa [I 55 2,aQ 56 .sub 55 1,I 57 11,I 58 1,bF 59 .sub 57 58,bF 60 .sub 56 59,I 11 60] (.region [b7 12 1]))) .skip)) IA))
def PI:C:=(aa [c3 4 0] (aa [bu 8 true] (aa [bu 9 true] (.block 0 (.loop (.block 1 (aa [I 19 2,I 20 1,bF 21 .sub 19 20,I 10 21] (.seq (aa [I 22 10,aQ 23 .leq 22 12] (aV 23 (aa [a8 24 2 4,I 25 1,I 26 2,c1 27 260 [.t 24,.t 25,.t 26]] .ret) .skip)) (.seq (aa [I 28 3,aQ 29 .eql 28 0] (aV 29 (aa [a8 30 2 4,I 31 1,I 32 2,c1 33 261 [.t 30,.t 31,.t 32]] .ret) .skip)) (.seq (aa [I 34 8,cB 35 34] (aV 35 (aa [a8 36 2 4,I 37 1,I 38 2,c1 39 262 [.t 36,.t 37,.t 38]] (.region [I 40 3,aQ 41 .sub 40 1,I 3 41])) .skip)) IB))))))))))
@[simp] def V0:List bY:=[]
def Pw:C:=(aa [b7 2 0] (.seq (aa [I 3 0,bQ 4 (.bin .geq false (.t 3) (.c (.int .u64 4294967296)))] (aV 4 (aa [I 5 0,bQ 6 (.bin .shr false (.t 5) (.c (.int .u64 32))),I 0 6] (.region [b7 2 32])) .skip)) (.seq (aa [I 7 0,bQ 8 (.bin .geq false (.t 7) (.c (.int .u64 65536)))] (aV 8 (aa [I 9 0,bQ 10 (.bin .shr false (.t 9) (.c (.int .u64 16))),I 0 10] (.region [I 11 2,aQ 12 .add 11 16,I 2 12])) .skip)) (.seq (aa [I 13 0,bQ 14 (.bin .geq false (.t 13) (.c (.int .u64 256)))] (aV 14 (aa [I 15 0,bQ 16 (.bin .shr false (.t 15) (.c (.int .u64 8))),I 0 16] (.region [I 17 2,aQ 18 .add 17 8,I 2 18])) .skip)) (aa [I 19 2,I 20 0,bQ 21 (.conv .u8 (.t 20)),bQ 22 (.sidx (.c (.str [0,1,2,2,3,3,3,3,4,4,4,4,4,4,4,4,5,5,5,5,5,5,5,5,5,5,5,5,5,5,5,5,6,6,6,6,6,6,6,6,6,6,6,6,6,6,6,6,6,6,6,6,6,6,6,6,6,6,6,6,6,6,6,6,7,7,7,7,7,7,7,7,7,7,7,7,7,7,7,7,7,7,7,7,7,7,7,7,7,7,7,7,7,7,7,7,7,7,7,7,7,7,7,7,7,7,7,7,7,7,7,7,7,7,7,7,7,7,7,7,7,7,7,7,7,7,7,7,8,8,8,8,8,8,8,8,8,8,8,8,8,8,8,8,8,8,8,8,8,8,8,8,8,8,8,8,8,8,8,8,8,8,8,8,8,8,8,8,8,8,8,8,8,8,8,8,8,8,8,8,8,8,8,8,8,8,8,8,8,8,8,8,8,8,8,8,8,8,8,8,8,8,8,8,8,8,8,8,8,8,8,8,8,8,8,8,8,8,8,8,8,8,8,8,8,8,8,8,8,8,8,8,8,8,8,8,8,8,8,8,8,8,8,8,8,8,8,8,8,8,8,8,8,8,8,8])) (.t 21)),bQ 23 (.conv .i64 (.t 22)),bF 24 .add 19 23,I 2 24] .ret)))))
@[simp] def AE:List bY:=[.tmp 2]
def PA:C:=(aa [c3 3 0] (aa [I 11 1,I 6 11] (aa [b7 7 0] (aa [I 12 2,I 13 1,bF 14 .sub 12 13,I 8 14] (.seq (aa [I 15 8,aQ 16 .sub 15 1,aQ 17 .quo 16 2,I 9 17] (.block 0 (.loop (.seq (aa [I 18 9,aQ 19 .geq 18 0] (aV 19 .skip (.exit 0))) (.seq (.block 1 (.region [a8 22 2 3,I 23 9,I 24 8,I 25 6,c1 26 278 [.t 22,.t 23,.t 24,.t 25]])) (.region [I 20 9,aQ 21 .sub 20 1,I 9 21])))))) (aa [I 27 8,aQ 28 .sub 27 1,I 10 28] (.block 2 (.loop (.seq (aa [I 29 10,aQ 30 .geq 29 0] (aV 30 .skip (.exit 2))) (.seq (.block 3 (aa [aH 33 1 1 3,ax 34 1 33,I 35 6,I 36 6,I 37 10,bF 38 .add 36 37,gp 39 34 [.t 35,.t 38]] (.region [a8 40 2 3,I 41 7,I 42 10,I 43 6,c1 44 278 [.t 40,.t 41,.t 42,.t 43]]))) (.region [I 31 10,aQ 32 .sub 31 1,I 10 32])))))))))))
@[simp] def ako:List bY:=[]
def Py:C:=(aa [c3 3 0] (aa [I 11 2,I 12 1,bF 13 .sub 11 12,I 6 13] (aa [I 14 6,aQ 15 .geq 14 8] (aV 15 (aa [I 16 6,bQ 17 (.conv .u64 (.t 16)),cH (.alloc 7 (some 902) (.int .u64 0)),bC 1 7 17] (aa [I 18 6,cV 19 279 18,I 8 19] (aa [I 20 1,I 21 6,aQ 22 .quo 21 4,aQ 23 .mul 22 2,bF 24 .add 20 23,aQ 25 .sub 24 1,I 9 25] (.block 0 (.loop (.seq (aa [I 26 9,I 27 1,I 28 6,aQ 29 .quo 28 4,aQ 30 .mul 29 2,bF 31 .add 27 30,aQ 32 .add 31 1,bF 33 .leq 26 32] (aV 33 .skip (.exit 0))) (.seq (.block 1 (aa [cV 36 280 7,I 37 8,bQ 38 (.bin .sub true (.t 37) (.c (.int .u64 1))),bF 39 .and 36 38,bQ 40 (.conv .i64 (.t 39)),I 10 40] (.seq (aa [I 41 10,I 42 6,bF 43 .geq 41 42] (aV 43 (.region [I 44 10,I 45 6,bF 46 .sub 44 45,I 10 46]) .skip)) (.region [aH 47 1 1 3,ax 48 1 47,I 49 9,I 50 1,I 51 10,bF 52 .add 50 51,gp 53 48 [.t 49,.t 52]])))) (.region [I 34 9,aQ 35 .add 34 1,I 9 35])))))))) .skip))))
@[simp] def VW:List bY:=[]
def Pz:C:=(aa [c3 3 0,b7 6 0,b7 7 0] (aa [I 13 2,I 14 1,bF 15 .sub 13 14,I 8 15] (aa [cH (.alloc 9 (some 901) (.int .i64 0))] (aa [I 16 1,I 17 8,aQ 18 .quo 17 4,aQ 19 .mul 18 1,bF 20 .add 16 19,I 10 20] (aa [I 21 1,I 22 8,aQ 23 .quo 22 4,aQ 24 .mul 23 2,bF 25 .add 21 24,I 11 25] (aa [I 26 1,I 27 8,aQ 28 .quo 27 4,aQ 29 .mul 28 3,bF 30 .add 26 29,I 12 30] (.seq (aa [I 31 8,aQ 32 .geq 31 8] (aV 32 (.seq (aa [I 33 8,aQ 34 .geq 33 50] (aV 34 (aa [a8 35 2 3,I 36 10,c1 37 281 [.t 35,.t 36,.t 9],I 10 37] (aa [a8 38 2 3,I 39 11,c1 40 281 [.t 38,.t 39,.t 9],I 11 40] (.region [a8 41 2 3,I 42 12,c1 43 281 [.t 41,.t 42,.t 9],I 12 43]))) .skip)) (.region [a8 44 2 3,I 45 10,I 46 11,I 47 12,c1 48 282 [.t 44,.t 45,.t 46,.t 47,.t 9],I 11 48])) .skip)) (aa [ax 49 1 9] (.block 0 (aa [aQ 52 .eql 49 0,I 51 52] (aV 51 (aa [I 53 11,I 6 53,b7 7 1] .ret) (aa [aQ 55 .eql 49 12,I 54 55] (aV 54 (aa [I 56 11,I 6 56,b7 7 2] .ret) (aa [I 50 11,I 6 50,b7 7 0] .ret))))))))))))))
@[simp] def Mb:List bY:=[.tmp 6,.tmp 7]
def PJ:C:=(aa [c3 3 0] (aa [I 8 1,I 6 8] (aa [I 9 2,aQ 10 .sub 9 1,I 7 10] (.block 0 (.loop (.seq (aa [I 11 6,I 12 7,bF 13 .lss 11 12] (aV 13 .skip (.exit 0))) (.block 1 (aa [aH 14 1 1 3,ax 15 1 14,I 16 6,I 17 7,gp 18 15 [.t 16,.t 17]] (aa [I 19 6,aQ 20 .add 19 1,I 6 20] (.region [I 21 7,aQ 22 .sub 21 1,I 7 22]))))))))))
@[simp] def akq:List bY:=[]
def PF:C:=(aa [c3 3 0,bu 6 false] (aa [I 11 1,aQ 12 .add 11 1,I 7 12] (.seq (aa [b7 8 0] (.block 0 (.loop (.seq (aa [I 13 8,aQ 14 .lss 13 5] (aV 14 .skip (.exit 0))) (.seq (.block 1 (.seq (.block 2 (.loop (.seq (aa [I 17 7,I 18 2,bF 19 .lss 17 18,I 20 19,ar 20 true (aH 21 0 1 3),ar 20 true (ax 22 1 21),bU 20 true 23 7,bU 20 true 24 7,ar 20 true (aQ 25 .sub 24 1),ar 20 true (gp 26 22 [.t 23,.t 25]),ar 20 true (cB 27 26),dv 28 20 27] (aV 28 .skip (.exit 2))) (.block 3 (.region [I 29 7,aQ 30 .add 29 1,I 7 30]))))) (.seq (aa [I 31 7,I 32 2,bF 33 .eql 31 32] (aV 33 (aa [bu 6 true] .ret) .skip)) (.seq (aa [I 34 2,I 35 1,bF 36 .sub 34 35,aQ 37 .lss 36 50] (aV 37 (aa [bu 6 false] .ret) .skip)) (aa [aH 38 1 1 3,ax 39 1 38,I 40 7,I 41 7,aQ 42 .sub 41 1,gp 43 39 [.t 40,.t 42]] (.seq (aa [I 44 7,I 45 1,bF 46 .sub 44 45,aQ 47 .geq 46 2] (aV 47 (aa [I 48 7,aQ 49 .sub 48 1,I 9 49] (.block 4 (.loop (.seq (aa [I 50 9,aQ 51 .geq 50 1] (aV 51 .skip (.exit 4))) (.seq (.block 5 (.seq (aa [aH 54 0 1 3,ax 55 1 54,I 56 9,I 57 9,aQ 58 .sub 57 1,gp 59 55 [.t 56,.t 58],cB 60 59] (aV 60 (.exit 4) .skip)) (.region [aH 61 1 1 3,ax 62 1 61,I 63 9,I 64 9,aQ 65 .sub 64 1,gp 66 62 [.t 63,.t 65]]))) (.region [I 52 9,aQ 53 .sub 52 1,I 9 53])))))) .skip)) (aa [I 67 2,I 68 7,bF 69 .sub 67 68,aQ 70 .geq 69 2] (aV 70 (aa [I 71 7,aQ 72 .add 71 1,I 10 72] (.block 6 (.loop (.seq (aa [I 73 10,I 74 2,bF 75 .lss 73 74] (aV 75 .skip (.exit 6))) (.seq (.block 7 (.seq (aa [aH 78 0 1 3,ax 79 1 78,I 80 10,I 81 10,aQ 82 .sub 81 1,gp 83 79 [.t 80,.t 82],cB 84 83] (aV 84 (.exit 6) .skip)) (.region [aH 85 1 1 3,ax 86 1 85,I 87 10,I 88 10,aQ 89 .sub 88 1,gp 90 86 [.t 87,.t 89]]))) (.region [I 76 10,aQ 77 .add 76 1,I 10 77])))))) .skip)))))))) (.region [I 15 8,aQ 16 .add 15 1,I 8 16])))))) (aa [bu 6 false] .ret))))
@[simp] def G3:List bY:=[.tmp 6]
def PG:C:=(aa [c3 4 0,b7 8 0] (aa [aH 11 1 1 4,ax 12 1 11,I 13 1,I 14 3,gp 15 12 [.t 13,.t 14]] (aa [I 16 1,aQ 17 .add 16 1,I 18 2,aQ 19 .sub 18 1,I 9 17,I 10 19] (.seq (.block 0 (.loop (.block 1 (.seq (.block 2 (.loop (.seq (aa [I 20 9,I 21 10,bF 22 .leq 20 21,I 23 22,ar 23 true (aH 24 0 1 4),ar 23 true (ax 25 1 24),bU 23 true 26 1,bU 23 true 27 9,ar 23 true (gp 28 25 [.t 26,.t 27]),ar 23 true (cB 29 28),dv 30 23 29] (aV 30 .skip (.exit 2))) (.block 3 (.region [I 31 9,aQ 32 .add 31 1,I 9 32]))))) (.seq (.block 4 (.loop (.seq (aa [I 33 9,I 34 10,bF 35 .leq 33 34,I 36 35,ar 36 true (aH 37 0 1 4),ar 36 true (ax 38 1 37),bU 36 true 39 1,bU 36 true 40 10,ar 36 true (gp 41 38 [.t 39,.t 40]),dv 42 36 41] (aV 42 .skip (.exit 4))) (.block 5 (.region [I 43 10,aQ 44 .sub 43 1,I 10 44]))))) (.seq (aa [I 45 9,I 46 10,bF 47 .gtr 45 46] (aV 47 (.exit 0) .skip)) (aa [aH 48 1 1 4,ax 49 1 48,I 50 9,I 51 10,gp 52 49 [.t 50,.t 51]] (aa [I 53 9,aQ 54 .add 53 1,I 9 54] (.region [I 55 10,aQ 56 .sub 55 1,I 10 56]))))))))) (aa [I 57 9,I 8 57] .ret)))))
@[simp] def Md:List bY:=[.tmp 8]
def PH:C:=(aa [c3 4 0,b7 8 0,bu 9 false] (aa [aH 12 1 1 4,ax 13 1 12,I 14 1,I 15 3,gp 16 13 [.t 14,.t 15]] (aa [I 17 1,aQ 18 .add 17 1,I 19 2,aQ 20 .sub 19 1,I 10 18,I 11 20] (.seq (.block 0 (.loop (.seq (aa [I 21 10,I 22 11,bF 23 .leq 21 22,I 24 23,ar 24 true (aH 25 0 1 4),ar 24 true (ax 26 1 25),bU 24 true 27 10,bU 24 true 28 1,ar 24 true (gp 29 26 [.t 27,.t 28]),dv 30 24 29] (aV 30 .skip (.exit 0))) (.block 1 (.region [I 31 10,aQ 32 .add 31 1,I 10 32]))))) (.seq (.block 2 (.loop (.seq (aa [I 33 10,I 34 11,bF 35 .leq 33 34,I 36 35,ar 36 true (aH 37 0 1 4),ar 36 true (ax 38 1 37),bU 36 true 39 11,bU 36 true 40 1,ar 36 true (gp 41 38 [.t 39,.t 40]),ar 36 true (cB 42 41),dv 43 36 42] (aV 43 .skip (.exit 2))) (.block 3 (.region [I 44 11,aQ 45 .sub 44 1,I 11 45]))))) (.seq (aa [I 46 10,I 47 11,bF 48 .gtr 46 47] (aV 48 (aa [aH 49 1 1 4,ax 50 1 49,I 51 11,I 52 1,gp 53 50 [.t 51,.t 52]] (aa [I 54 11,I 8 54,bu 9 true] .ret)) .skip)) (aa [aH 55 1 1 4,ax 56 1 55,I 57 10,I 58 11,gp 59 56 [.t 57,.t 58]] (aa [I 60 10,aQ 61 .add 60 1,I 10 61] (aa [I 62 11,aQ 63 .sub 62 1,I 11 63] (.seq (.block 4 (.loop (.block 5 (.seq (.block 6 (.loop (.seq (aa [I 64 10,I 65 11,bF 66 .leq 64 65,I 67 66,ar 67 true (aH 68 0 1 4),ar 67 true (ax 69 1 68),bU 67 true 70 10,bU 67 true 71 1,ar 67 true (gp 72 69 [.t 70,.t 71]),dv 73 67 72] (aV 73 .skip (.exit 6))) (.block 7 (.region [I 74 10,aQ 75 .add 74 1,I 10 75]))))) (.seq (.block 8 (.loop (.seq (aa [I 76 10,I 77 11,bF 78 .leq 76 77,I 79 78,ar 79 true (aH 80 0 1 4),ar 79 true (ax 81 1 80),bU 79 true 82 11,bU 79 true 83 1,ar 79 true (gp 84 81 [.t 82,.t 83]),ar 79 true (cB 85 84),dv 86 79 85] (aV 86 .skip (.exit 8))) (.block 9 (.region [I 87 11,aQ 88 .sub 87 1,I 11 88]))))) (.seq (aa [I 89 10,I 90 11,bF 91 .gtr 89 90] (aV 91 (.exit 4) .skip)) (aa [aH 92 1 1 4,ax 93 1 92,I 94 10,I 95 11,gp 96 93 [.t 94,.t 95]] (aa [I 97 10,aQ 98 .add 97 1,I 10 98] (.region [I 99 11,aQ 100 .sub 99 1,I 11 100]))))))))) (aa [aH 101 1 1 4,ax 102 1 101,I 103 11,I 104 1,gp 105 102 [.t 103,.t 104]] (aa [I 106 11,I 8 106,bu 9 false] .ret))))))))))))
@[simp] def Dx:List bY:=[.tmp 8,.tmp 9]
def PL:C:=(aa [c3 4 0] (aa [I 10 1,I 8 10] (.block 0 (.loop (.block 1 (aa [I 11 8,bQ 12 (.bin .mul false (dI 2) (.t 11)),aQ 13 .add 12 1,I 9 13] (.seq (aa [I 14 9,I 15 2,bF 16 .geq 14 15] (aV 16 (.exit 0) .skip)) (.seq (aa [I 17 9,aQ 18 .add 17 1,I 19 2,bF 20 .lss 18 19,I 21 20,ar 21 true (aH 22 0 1 4),ar 21 true (ax 23 1 22),bU 21 true 24 3,bU 21 true 25 9,ar 21 true (bF 26 .add 24 25),bU 21 true 27 3,bU 21 true 28 9,ar 21 true (bF 29 .add 27 28),ar 21 true (aQ 30 .add 29 1),ar 21 true (gp 31 23 [.t 26,.t 30]),dv 32 21 31] (aV 32 (.region [I 33 9,aQ 34 .add 33 1,I 9 34]) .skip)) (.seq (aa [aH 35 0 1 4,ax 36 1 35,I 37 3,I 38 8,bF 39 .add 37 38,I 40 3,I 41 9,bF 42 .add 40 41,gp 43 36 [.t 39,.t 42],cB 44 43] (aV 44 .ret .skip)) (aa [aH 45 1 1 4,ax 46 1 45,I 47 3,I 48 8,bF 49 .add 47 48,I 50 3,I 51 9,bF 52 .add 50 51,gp 53 46 [.t 49,.t 52]] (.region [I 54 9,I 8 54])))))))))))
@[simp] def aks:List bY:=[]
def PD:C:=(aa [bQ 2 (.mov (.c (.int .u64 0)))] (aa [I 4 0,bQ 5 (.conv .u64 (.t 4)),cV 6 209 5,bQ 7 (.conv .u64 (.t 6)),I 3 7] (aa [I 8 3,bQ 9 (.bin .shl false (.c (.int .u64 1)) (.t 8)),I 2 9] .ret)))
@[simp] def VZ:List bY:=[.tmp 2]
def PQ:C:=(aa [bQ 2 (.mov (.c (.int .u64 0)))] (.seq (.drawn true 33 [I 3 0,eE 4 3,ax 5 1 4,I 6 0,eE 7 6,ax 8 1 7,bQ 9 (.bin .shl false (.t 8) (.c (.int .u64 13))),bF 10 .xor 5 9,eE 11 3,bC 1 11 10]) (.seq (.drawn true 33 [I 12 0,eE 13 12,ax 14 1 13,I 15 0,eE 16 15,ax 17 1 16,bQ 18 (.bin .shr false (.t 17) (.c (.int .u64 7))),bF 19 .xor 14 18,eE 20 12,bC 1 20 19]) (.seq (.drawn true 33 [I 21 0,eE 22 21,ax 23 1 22,I 24 0,eE 25 24,ax 26 1 25,bQ 27 (.bin .shl false (.t 26) (.c (.int .u64 17))),bF 28 .xor 23 27,eE 29 21,bC 1 29 28]) (aa [I 30 0,eE 31 30,ax 32 1 31,I 2 32] .ret)))))
@[simp] def V2:List bY:=[.tmp 2]
def PB:C:=(aa [c3 3 0,b7 6 0] (aa [a8 7 2 3,I 8 1,aQ 9 .sub 8 1,I 10 1,I 11 1,aQ 12 .add 11 1,I 13 2,c1 14 282 [.t 7,.t 9,.t 10,.t 12,.t 13],I 6 14] .ret))
@[simp] def VX:List bY:=[.tmp 6]
def PC:C:=(aa [c3 5 0,b7 10 0] (aa [a8 12 2 5,I 13 1,I 14 2,I 15 4,c1 16 285 [.t 12,.t 13,.t 14,.t 15],I 11 16,cu 17 0 11,cu 18 1 11,I 1 17,I 2 18] (aa [a8 20 2 5,I 21 2,I 22 3,I 23 4,c1 24 285 [.t 20,.t 21,.t 22,.t 23],I 19 24,cu 25 0 19,cu 26 1 19,I 2 25,I 3 26] (aa [a8 28 2 5,I 29 1,I 30 2,I 31 4,c1 32 285 [.t 28,.t 29,.t 30,.t 31],I 27 32,cu 33 0 27,cu 34 1 27,I 1 33,I 2 34] (aa [I 35 2,I 10 35] .ret)))))
@[simp] def VY:List bY:=[.tmp 10]
def PE:C:=(aa [c3 4 0,b7 8 0,b7 9 0] (.seq (aa [aH 10 0 1 4,ax 11 1 10,I 12 2,I 13 1,gp 14 11 [.t 12,.t 13]] (aV 14 (aa [I 15 3,eE 16 15,ax 17 1 16,aQ 18 .add 17 1,eE 19 15,bC 1 19 18] (aa [I 20 2,I 21 1,I 8 20,I 9 21] .ret)) .skip)) (aa [I 22 1,I 23 2,I 8 22,I 9 23] .ret)))
@[simp] def Mc:List bY:=[.tmp 8,.tmp 9]
def nB:List (Nat×dA):=[
 (3,⟨1,8,.int .i64,.int .i64 0⟩),
 (5,⟨1,1,.int .u8,.int .u8 0⟩),
 (9,⟨1,16,.str,.str []⟩),
 (160,⟨1,8,.other,.junk⟩),
 (163,⟨1,8,.int .u64,.int .u64 0⟩),
 (216,⟨1,8,.other,.junk⟩),
 (222,⟨2,16,.struct [(0,160),(1,216)],.agg [.junk,.junk]⟩),
 (254,⟨1,4,.int .u32,.int .u32 0⟩),
 (256,⟨1,8,.int .u64,.int .u64 0⟩),
 (265,⟨1,8,.int .u64,.int .u64 0⟩)]
theorem n5:fN ay nB=true:=by kernel_rfl
theorem aiJ:ca nB Pu akn 1 Tryz.f209=true:=by kernel_rfl
theorem abR:ay.funcs[(209:Nat)]? =some Tryz.f209:=Tryz.func209
theorem aiX:ca nB PI V0 4 Tryz.f210=true:=by kernel_rfl
theorem ab4:ay.funcs[(210:Nat)]? =some Tryz.f210:=Tryz.func210
theorem aiK:ca nB Pw AE 1 Tryz.f259=true:=by kernel_rfl
theorem abS:ay.funcs[(259:Nat)]? =some Tryz.f259:=Tryz.func259
theorem aiP:ca nB PA ako 3 Tryz.f261=true:=by kernel_rfl
theorem abW:ay.funcs[(261:Nat)]? =some Tryz.f261:=Tryz.func261
theorem aiN:ca nB Py VW 3 Tryz.f262=true:=by kernel_rfl
theorem abU:ay.funcs[(262:Nat)]? =some Tryz.f262:=Tryz.func262
theorem aiO:ca nB Pz Mb 3 Tryz.f263=true:=by kernel_rfl
theorem abV:ay.funcs[(263:Nat)]? =some Tryz.f263:=Tryz.func263
theorem aiY:ca nB PJ akq 3 Tryz.f264=true:=by kernel_rfl
theorem ab5:ay.funcs[(264:Nat)]? =some Tryz.f264:=Tryz.func264
theorem aiU:ca nB PF G3 3 Tryz.f265=true:=by kernel_rfl
theorem ab1:ay.funcs[(265:Nat)]? =some Tryz.f265:=Tryz.func265
theorem aiV:ca nB PG Md 4 Tryz.f266=true:=by kernel_rfl
theorem ab2:ay.funcs[(266:Nat)]? =some Tryz.f266:=Tryz.func266
theorem aiW:ca nB PH Dx 4 Tryz.f267=true:=by kernel_rfl
theorem ab3:ay.funcs[(267:Nat)]? =some Tryz.f267:=Tryz.func267
theorem ai0:ca nB PL aks 4 Tryz.f278=true:=by kernel_rfl
theorem ab7:ay.funcs[(278:Nat)]? =some Tryz.f278:=Tryz.func278
theorem aiS:ca nB PD VZ 1 Tryz.f279=true:=by kernel_rfl
theorem abZ:ay.funcs[(279:Nat)]? =some Tryz.f279:=Tryz.func279
theorem ai4:ca nB PQ V2 1 Tryz.f280=true:=by kernel_rfl
theorem acb:ay.funcs[(280:Nat)]? =some Tryz.f280:=Tryz.func280
theorem aiQ:ca nB PB VX 3 Tryz.f281=true:=by kernel_rfl
theorem abX:ay.funcs[(281:Nat)]? =some Tryz.f281:=Tryz.func281
theorem aiR:ca nB PC VY 5 Tryz.f282=true:=by kernel_rfl
theorem abY:ay.funcs[(282:Nat)]? =some Tryz.f282:=Tryz.func282
theorem aiT:ca nB PE Mc 4 Tryz.f285=true:=by kernel_rfl
theorem ab0:ay.funcs[(285:Nat)]? =some Tryz.f285:=Tryz.func285
end
section
open Go Go.Pv
variable {α:Type} [Inhabited α] {S:List α->cM} {n g b8:Nat} {lc b1:List ai} {lt:α->α->Bool}
theorem RK(H:e1 S n g b8 lc b1 lt)(d:Array α)(aG:d.size=n)(lo hi first:Nat)(J:first+hi<=n)(U:2<=n)(al:lo<=n):
  bJ ay 278 [eV g b8 lc b1,.int .i64 lo,.int .i64 hi,.int .i64 first] (S d.toList) fun r ah=>r= .tuple []/\∃cp,ah=S cp.toList/\cp=Sort.siftDown lt hi first lo d/\cp.size=n:=by
 have af:=H.ok d.toList;have au:d.toList.length=n:=by simpa using aG
 have az:∀l m,Pv.look (.loc m) (S l).b=none:=fun l=>(H.ok l).obj.1;have hu:∀l m cs,cy (.loc m) cs (S l).b=(S l).b++[(.loc m,cs)]:=fun l m cs=>kc (az l m);have aw:∀m,aL.loc m∉cX (S d.toList):=j5 af.obj;have hle:=H.le;refine bJ.mk mixed n5 ab7 ai0 Ψ af.obj fun aR cE=>?_;unfold PL;simp[eV,hu,aw,cN,az];refine H.loopA au [2,3,4] (fun(x:Nat×Array α)=>[(8,.int .i64 x.1)]) (·.2) (fun x=>hi-x.1) (fun x=>x.2.size=n/\x.1<=n/\Sort.siftDown lt hi first x.1 x.2=Sort.siftDown lt hi first lo d) (lo,d) aG ⟨aG,al,rfl⟩ (by simp[cN,az]) aE aE d7 ?_;rintro⟨root,cj⟩ ⟨aX,bg,b6⟩;simp only at aX bg b6;have ao:((first:Int)+(2*root+1))=(first+(2*root+1):Nat):=Ω
 have aF:(((first+(2*root+1):Nat):Int)+1)=(first+(2*root+1)+1:Nat):=Ω
 have bM:((first:Int)+root)=(first+root:Nat):=Ω
 have dt:((first:Int)+(2*root+1+1))=(first+(2*root+2):Nat):=Ω
 simp[Pv.look,H.slc,H.ssc];(with_reducible repeat' first|((first|apply bD|apply bH|apply bG)<;>intro h<;>try simp at h)|refine aj ?_|simp[Pv.look,H.slc,H.ssc])
 ·rw[Sort.siftDown,dif_pos Ω]at b6;exact H.retA au aX (.inr rfl) ⟨rfl,cj,rfl,b6,aX⟩
 ·rw[Sort.siftDown,dif_neg Ω]at b6;rw[ao,aF];refine H.lessA aX _ _ Ω Ω fun o=>?_;have aq:decide (2*root+1+1<hi)=true:=by simp;omega
  cases ae:lt cj[first+(2*root+1)]! cj[first+(2*root+1)+1]! with
  |true=>
   rw[if_pos (by rw[aq,ae];rfl)]at b6;simp;(with_reducible repeat' first|refine aj ?_|simp[Pv.look,H.slc,H.ssc]);rw[bM,dt];refine H.lessA aX _ _ Ω Ω fun o=>?_;cases aM:lt cj[first+root]! cj[first+(2*root+2)]! with
   |true=>rw[if_neg (by simp[aM]),dif_pos Ω]at b6;simp;(with_reducible repeat' first|refine aj ?_|simp[Pv.look,H.slc,H.ssc]);rw[bM,dt];refine H.swapA aX U _ _ Ω Ω fun o=>?_;simp;(with_reducible repeat' first|refine aj ?_|simp);refine bR.whl (2*root+2,Sort.swp cj (first+root) (first+(2*root+2))) d8 ⟨by rw[gL,aX],by simp;omega,b6⟩ (H.weakC au (by simp[gL,aX]) (by simp[aJ];omega))
   |false=>rw[if_pos (by simp[aM])]at b6;simp;(with_reducible repeat' first|refine aj ?_|simp);all_goals exact H.retA au aX (.inl rfl) ⟨rfl,cj,rfl,b6,aX⟩
  |false=>
   rw[if_neg (by simp[ae])]at b6;simp;(with_reducible repeat' first|refine aj ?_|simp[Pv.look,H.slc,H.ssc]);rw[bM,ao];refine H.lessA aX _ _ Ω Ω fun o=>?_;cases aM:lt cj[first+root]! cj[first+(2*root+1)]! with
   |true=>rw[if_neg (by simp[aM])]at b6;simp;(with_reducible repeat' first|refine aj ?_|simp[Pv.look,H.slc,H.ssc]);rw[bM,ao];refine H.swapA aX U _ _ Ω Ω fun o=>?_;simp;(with_reducible repeat' first|refine aj ?_|simp);refine bR.whl (2*root+1,Sort.swp cj (first+root) (first+(2*root+1))) d8 ⟨by rw[gL,aX],by simp;omega,b6⟩ (H.weakC au (by simp[gL,aX]) d7)
   |false=>rw[if_pos (by simp[aM])]at b6;simp;(with_reducible repeat' first|refine aj ?_|simp);all_goals exact H.retA au aX (.inl rfl) ⟨rfl,cj,rfl,b6,aX⟩
 ·rw[Sort.siftDown,dif_neg Ω]at b6;have aq:decide (2*root+1+1<hi)=false:=by simp;omega
  rw[if_neg (by rw[aq];simp)]at b6;rw[bM,ao];refine H.lessA aX _ _ Ω Ω fun o=>?_;cases aM:lt cj[first+root]! cj[first+(2*root+1)]! with
  |true=>rw[if_neg (by simp[aM])]at b6;simp;(with_reducible repeat' first|refine aj ?_|simp[Pv.look,H.slc,H.ssc]);rw[bM,ao];refine H.swapA aX U _ _ Ω Ω fun o=>?_;simp;(with_reducible repeat' first|refine aj ?_|simp);refine bR.whl (2*root+1,Sort.swp cj (first+root) (first+(2*root+1))) d8 ⟨by rw[gL,aX],by simp;omega,b6⟩ (H.weakC au (by simp[gL,aX]) d7)
  |false=>rw[if_pos (by simp[aM])]at b6;simp;(with_reducible repeat' first|refine aj ?_|simp);all_goals exact H.retA au aX (.inl rfl) ⟨rfl,cj,rfl,b6,aX⟩
theorem adN(H:e1 S n g b8 lc b1 lt)(d:Array α)(aG:d.size=n)(a b:Nat)(pn:a<b)(ab:b<=n)(U:2<=n):
  bJ ay 264 [eV g b8 lc b1,.int .i64 a,.int .i64 b] (S d.toList) fun r ah=>r= .tuple []/\∃cp,ah=S cp.toList/\cp=Sort.reverseRange d a b/\cp.size=n:=by
 have af:=H.ok d.toList;have au:d.toList.length=n:=by simpa using aG
 have az:∀l m,Pv.look (.loc m) (S l).b=none:=fun l=>(H.ok l).obj.1;have hu:∀l m cs,cy (.loc m) cs (S l).b=(S l).b++[(.loc m,cs)]:=fun l m cs=>kc (az l m);have aw:∀m,aL.loc m∉cX (S d.toList):=j5 af.obj;have hle:=H.le;refine bJ.mk mixed n5 ab5 aiY Ψ af.obj fun aR cE=>?_;unfold PJ;simp[eV,hu,aw,cN,az];have kt:((b:Int)-1)=(b-1:Nat):=Ω
 (with_reducible repeat' first|refine aj ?_|simp[hu,aw,cN,az]);rw[kt];refine H.loopA au [3] (fun(x:(Nat×Nat)×Array α)=>[(6,.int .i64 x.1.1),(7,.int .i64 x.1.2)]) (·.2) (fun x=>x.1.2+1-x.1.1) (fun x=>x.2.size=n/\x.1.2<n/\Sort.reverseLoop x.1.1 x.1.2 x.2=Sort.reverseRange d a b) ((a,b-1),d) aG ⟨aG,by simp;omega,rfl⟩ (by simp[cN,az]) aE aE d7 ?_;rintro⟨⟨i,j⟩,cj⟩ ⟨aX,bg,b6⟩;simp only at aX bg b6;rw[Sort.reverseLoop]at b6;simp[Pv.look,H.slc,H.ssc];(with_reducible repeat' first|((first|apply bD|apply bH|apply bG)<;>intro h<;>try simp at h)|refine aj ?_|simp[Pv.look,H.slc,H.ssc])
 ·rw[if_pos Ω]at b6;refine H.swapA aX U _ _ Ω Ω fun o=>?_;have ao:((i:Int)+1)=(i+1:Nat):=Ω
  have aF:((j:Int)-1)=(j-1:Nat):=Ω
  simp;((with_reducible repeat' first|refine aj ?_|simp|((first|apply bD|apply bH|apply bG)<;>intro h<;>try simp at h))<;>(try exact b2));rw[ao,aF];refine bR.whl ((i+1,j-1),Sort.swp cj i j) d8 ⟨by rw[gL,aX],by simp;omega,b6⟩ (H.weakC au (by simp[gL,aX]) d7)
 ·rw[if_neg Ω]at b6;exact H.retA au aX (.inr rfl) ⟨rfl,cj,rfl,b6,aX⟩
theorem adw(H:e1 S n g b8 lc b1 lt)(d:Array α)(aG:d.size=n)(a b:Nat)(pn:a<=b)(ab:b<=n)(U:2<=n):
  bJ ay 261 [eV g b8 lc b1,.int .i64 a,.int .i64 b] (S d.toList) fun r ah=>r= .tuple []/\∃cp,ah=S cp.toList/\cp=Sort.heapSort lt d a b/\cp.size=n:=by
 have af:=H.ok d.toList;have au:d.toList.length=n:=by simpa using aG
 have az:∀l m,Pv.look (.loc m) (S l).b=none:=fun l=>(H.ok l).obj.1;have hu:∀l m cs,cy (.loc m) cs (S l).b=(S l).b++[(.loc m,cs)]:=fun l m cs=>kc (az l m);have aw:∀m,aL.loc m∉cX (S d.toList):=j5 af.obj;have hle:=H.le;refine bJ.mk mixed n5 abW aiP Ψ af.obj fun aR cE=>?_;unfold PA;simp[eV,hu,aw,cN,az];(with_reducible repeat' first|refine aj ?_|simp[hu,aw,cN,az]);have kt:mj.wrap (((b:Int)-a-1).tdiv 2)=(((b-a-1)/2+1:Nat):Int)-1:=by
  have e:((b:Int)-a-1).tdiv 2=(((b-a-1)/2+1:Nat):Int)-1:=by
   rcases Nat.eq_or_lt_of_le pn with h|h
   ·subst h;simp
   ·rw[show((b:Int)-a-1)=((b-a-1:Nat):Int) by omega,Int.tdiv_eq_ediv_of_nonneg Ω];omega
  rw[e,ml _ Ω]
 rw[kt];refine H.loopA au [3,6,7,8] (fun(x:Nat×Array α)=>[(9,.int .i64 ((x.1:Int)-1))]) (·.2) (fun x=>x.1) (fun x=>x.2.size=n/\x.1<=n/\Sort.heapBuild lt (b-a) a x.1 x.2=Sort.heapBuild lt (b-a) a ((b-a-1)/2+1) d) ((b-a-1)/2+1,d) aG ⟨aG,by simp;omega,rfl⟩ (by simp[cN,az]) aE aE d7 ?_;rintro⟨k,cj⟩ ⟨aX,bg,b6⟩;simp only at aX bg b6;have ZU:((b:Int)-a)=(b-a:Nat):=Ω
 simp[Pv.look,H.slc,H.ssc];(with_reducible repeat' first|((first|apply bD|apply bH|apply bG)<;>intro h<;>try simp at h)|refine aj ?_|simp[Pv.look,H.slc,H.ssc])
 ·obtain⟨k,rfl⟩:∃bN,k=bN+1:=⟨k-1,Ω⟩;have I1:(((k+1:Nat):Int)-1)=(k:Nat):=Ω
  rw[Sort.heapBuild]at b6;simp only[iy H,H.slc,H.ssc,ig,I1,ZU];refine H.doFn (lk:=cj.toList) (by simpa using aX) (R:=fun a6=> ∃cp,a6=cp.toList/\cp=Sort.siftDown lt (b-a) a k cj/\cp.size=n) ((RK H cj aX k (b-a) a Ω U Ω).mono fun r ah ⟨aZ,cp,bm,bP,cP⟩=>⟨aZ,cp.toList,bm,cp,rfl,bP,cP⟩) (by rintro a6 ⟨cp,rfl,_,q⟩;simpa using q) (by simp[aP,aJ,H.kdata (lk:=cj.toList) (by simpa using aX)]) ?_;rintro a6 ⟨cp,rfl,aZ,bm⟩;simp;((with_reducible repeat' first|refine aj ?_|simp|((first|apply bD|apply bH|apply bG)<;>intro h<;>try simp at h))<;>(try exact b2));refine bR.whl (k,cp) Ψ ⟨bm,by simp;omega,by rw[<-b6,aZ]⟩ (H.weakC au (by simpa using bm) d7)
 ·obtain rfl:k=0:=Ω
  rw[Sort.heapBuild]at b6;have aoY:cj.size=n:=aX;refine H.loopA au [3,6,7] (fun(x:Nat×Array α)=>[(10,.int .i64 ((x.1:Int)-1))]) (·.2) (fun x=>x.1) (fun x=>x.2.size=n/\x.1<=b-a/\Sort.heapPop lt a x.1 x.2=Sort.heapPop lt a (b-a) cj) (b-a,cj) aX ⟨aX,Ψ,rfl⟩ (by simp[Pv.look]) aE aE (by simp[aJ];omega) ?_;rintro⟨k,fK⟩ ⟨hr,vZ,hc⟩;simp only at hr vZ hc;simp[Pv.look,H.slc,H.ssc];(with_reducible repeat' first|((first|apply bD|apply bH|apply bG)<;>intro h<;>try simp at h)|refine aj ?_|simp[Pv.look,H.slc,H.ssc])
  ·obtain⟨k,rfl⟩:∃bN,k=bN+1:=⟨k-1,Ω⟩;have I1:(((k+1:Nat):Int)-1)=(k:Nat):=Ω
   have ZT:((a:Int)+k)=(a+k:Nat):=Ω
   rw[Sort.heapPop]at hc;simp only[I1,ZT];refine H.swapA hr U _ _ Ω Ω fun o=>?_;have KO:(Sort.swp fK a (a+k)).size=n:=by rw[gL,hr]
   simp;simp only[iy H,H.slc,H.ssc,ig];refine H.doFn (lk:=(Sort.swp fK a (a+k)).toList) (by simpa using KO) (R:=fun a6=> ∃cp,a6=cp.toList/\cp=Sort.siftDown lt k a 0 (Sort.swp fK a (a+k))/\cp.size=n) ((RK H (Sort.swp fK a (a+k)) KO 0 k a Ω U Ω).mono fun r ah ⟨aZ,cp,bm,bP,cP⟩=>⟨aZ,cp.toList,bm,cp,rfl,bP,cP⟩) (by rintro a6 ⟨cp,rfl,_,q⟩;simpa using q) (by simp[aP,aJ,H.kdata (lk:=(Sort.swp fK a (a+k)).toList) (by simpa using KO)]) ?_;rintro a6 ⟨cp,rfl,aZ,bm⟩;simp;((with_reducible repeat' first|refine aj ?_|simp|((first|apply bD|apply bH|apply bG)<;>intro h<;>try simp at h))<;>(try exact b2));refine bR.whl (k,cp) Ψ ⟨bm,by simp;omega,by rw[<-hc,aZ]⟩ (H.weakC au (by simpa using bm) d7)
  ·obtain rfl:k=0:=Ω
   rw[Sort.heapPop]at hc;refine H.retA au hr (.inr rfl) ⟨rfl,fK,rfl,?_,hr⟩;rw[Sort.heapSort,<-b6,<-hc]
theorem adx(H:e1 S n g b8 lc b1 lt)(d:Array α)(aG:d.size=n)(a b:Nat)(pn:a<=b)(ab:b<=n):
  bJ ay 260 [eV g b8 lc b1,.int .i64 a,.int .i64 b] (S d.toList) fun r ah=>r= .tuple []/\∃cp,ah=S cp.toList/\cp=Sort.insertionSort lt d a b/\cp.size=n:=by
 have af:=H.ok d.toList;have au:d.toList.length=n:=by simpa using aG
 have az:∀l m,Pv.look (.loc m) (S l).b=none:=fun l=>(H.ok l).obj.1;have hu:∀l m cs,cy (.loc m) cs (S l).b=(S l).b++[(.loc m,cs)]:=fun l m cs=>kc (az l m);have aw:∀m,aL.loc m∉cX (S d.toList):=j5 af.obj;have hle:=H.le;refine bJ.mk mixed A1 Rc U0 Ψ af.obj fun aR cE=>?_;unfold Iy;simp[eV,hu,aw,cN,az];have kt:((a:Int)+1)=(a+1:Nat):=Ω
 (with_reducible repeat' first|refine aj ?_|simp[hu,aw,cN,az]);rw[kt];refine H.loopA au [1,2,3] (fun(x:Nat×Array α)=>[(6,.int .i64 x.1)]) (·.2) (fun x=>b+1-x.1) (fun x=>x.2.size=n/\x.1<=b+1/\Sort.insOuter lt a b x.1 x.2=Sort.insertionSort lt d a b) (a+1,d) aG ⟨aG,by simp;omega,rfl⟩ (by simp[cN,az]) aE aE d7 ?_;rintro⟨i,cj⟩ ⟨aX,bg,b6⟩;simp only at aX bg b6;rw[Sort.insOuter]at b6;simp;(with_reducible repeat' first|((first|apply bD|apply bH|apply bG)<;>intro h<;>try simp at h)|refine aj ?_|simp)
 ·rw[if_pos Ω]at b6;refine H.loopA au [1,2,3,6] (fun(x:Nat×Array α)=>[(7,.int .i64 x.1)]) (·.2) (fun x=>x.1) (fun x=>x.2.size=n/\x.1<=i/\Sort.insInner lt a x.1 x.2=Sort.insInner lt a i cj) (i,cj) aX ⟨aX,Ψ,rfl⟩ (by simp[Pv.look]) aE aE d7 ?_;rintro⟨j,fK⟩ ⟨hr,vZ,hc⟩;simp only at hr vZ hc;simp[Pv.look,H.slc,H.ssc];(with_reducible repeat' first|((first|apply bD|apply bH|apply bG)<;>intro h<;>try simp at h)|refine aj ?_|simp[Pv.look,H.slc,H.ssc])
  ·obtain⟨j,rfl⟩:∃dD,j=dD+1:=⟨j-1,Ω⟩;have ov:(((j+1:Nat):Int)-1)=(j:Nat):=Ω
   have pc:((i:Int)+1)=(i+1:Nat):=Ω
   have ZX:((j:Int)+1)=(j+1:Nat):=Ω
   rw[Sort.insInner]at hc;have aq:decide (j+1>a)=true:=by simp;omega
   rw[ov];refine H.lessA hr _ _ Ω Ω fun o=>?_;cases ae:lt fK[j+1]! fK[j]! with
   |true=>rw[if_pos (by rw[aq,ae];rfl)]at hc;simp;(with_reducible repeat' first|refine aj ?_|simp[Pv.look,H.slc,H.ssc]);rw[ZX];refine H.swapA hr Ω _ _ Ω Ω fun o=>?_;simp;(with_reducible repeat' first|refine aj ?_|simp);refine bR.whl (j,Sort.swp fK (j+1) j) Ψ ⟨by rw[gL,hr],by simp;omega,hc⟩ (H.weakC au (by simp[gL,hr]) d7)
   |false=>rw[if_neg (by simp[ae])]at hc;simp;((with_reducible repeat' first|refine aj ?_|simp|((first|apply bD|apply bH|apply bG)<;>intro h<;>try simp at h))<;>(try exact b2));rw[pc];refine bR.whl (i+1,fK) d8 ⟨hr,by simp;omega,by rw[<-b6,<-hc]⟩ (H.weakC au (by simpa using hr) d7)
  ·have pc:((i:Int)+1)=(i+1:Nat):=Ω
   have xU:Sort.insInner lt a j fK=fK:=by
    cases j with
    |zero=>rfl
    |succ j=>rw[Sort.insInner,if_neg d8]
   rw[pc];refine bR.whl (i+1,fK) d8 ⟨hr,by simp;omega,by rw[<-b6,<-hc,xU]⟩ (H.weakC au (by simpa using hr) d7)
 ·rw[if_neg Ω]at b6;exact H.retA au aX (.inr rfl) ⟨rfl,cj,rfl,b6,aX⟩
end
section
open Go Go.Pv
variable {α:Type} [Inhabited α] {S:List α->cM} {n g b8:Nat} {lc b1:List ai} {lt:α->α->Bool}
theorem u7{p:α->Bool}{d:Array α}{i j:Nat}(h:¬(i<=j/\p d[j]! =true)):Sort.scanDown p d i j=j:=by
 cases j with
 |zero=>rfl
 |succ j=>rw[Sort.scanDown,if_neg (by simpa using h)]
theorem AO{p:α->Bool}{d:Array α}{i j:Nat}(h:¬(i<=j/\p d[i]! =true)):Sort.scanUp p d j i=i:=by rw[Sort.scanUp,if_neg (by simpa using h)]
theorem MM{p:α->Bool}{d:Array α}{i j:Nat}(J:i<=j)(U:p d[i]! =true):Sort.scanUp p d j i=Sort.scanUp p d j (i+1):=by rw[Sort.scanUp,if_pos (by simp[J,U])]
theorem ML{p:α->Bool}{d:Array α}{i j:Nat}(J:i<=j+1)(U:p d[j+1]! =true):Sort.scanDown p d i (j+1)=Sort.scanDown p d i j:=by rw[Sort.scanDown,if_pos (by simp[J,U])]
theorem adH(H:e1 S n g b8 lc b1 lt)(d:Array α)(aG:d.size=n)(a b pivot:Nat)(rI:a<=pivot)(afw:pivot<b)(pn:a+1<b)(ab:b<=n):
  bJ ay 267 [eV g b8 lc b1,.int .i64 a,.int .i64 b,.int .i64 pivot] (S d.toList) fun r ah=>r= .tuple [.int .i64 (Sort.partition lt d a b pivot).1,.bool (Sort.partition lt d a b pivot).2.1]/\∃cp,ah=S cp.toList/\cp=(Sort.partition lt d a b pivot).2.2/\cp.size=n:=by
 obtain⟨R,bS⟩:∃R,R=Sort.partition lt d a b pivot:=⟨_,rfl⟩;rw[<-bS];unfold Sort.partition at bS;have af:=H.ok d.toList;have au:d.toList.length=n:=by simpa using aG
 have az:∀l m,Pv.look (.loc m) (S l).b=none:=fun l=>(H.ok l).obj.1;have hu:∀l m cs,cy (.loc m) cs (S l).b=(S l).b++[(.loc m,cs)]:=fun l m cs=>kc (az l m);have aw:∀m,aL.loc m∉cX (S d.toList):=j5 af.obj;have hle:=H.le;refine bJ.mk mixed n5 ab3 aiW Ψ af.obj fun aR cE=>?_;unfold PH;simp[eV,hu,aw,cN,az];rw[H.ssc];refine H.swapA0 aG Ω a pivot Ω Ω fun o=>?_;obtain⟨d1,ff⟩:∃d1,d1=Sort.swp d a pivot:=⟨_,rfl⟩;have s1:d1.size=n:=by rw[ff,gL,aG]
 rw[<-ff];simp only[<-ff]at bS;have ao:((a:Int)+1)=(a+1:Nat):=Ω
 have aF:((b:Int)-1)=(b-1:Nat):=Ω
 simp;(with_reducible repeat' first|refine aj ?_|simp);rw[ao,aF];refine H.loopA au [1,4,11] (fun(i:Nat)=>[(10,.int .i64 i)]) (fun _=>d1) (fun i=>b+1-i) (fun i=>a+1<=i/\i<=b/\Sort.scanUp (fun x=>lt x d1[a]!) d1 (b-1) i=Sort.scanUp (fun x=>lt x d1[a]!) d1 (b-1) (a+1)) (a+1) s1 ⟨Ω,Ω,rfl⟩ (by simp[Pv.look]) aE aE d7 ?_;rintro i ⟨i1,i2,i3⟩;simp[Pv.look,H.slc];((with_reducible repeat' first|refine aj ?_|simp[Pv.look,H.slc]|((first|apply bD|apply bH|apply bG)<;>intro h<;>try simp at h))<;>(try exact b2));refine H.lessA s1 i a Ω Ω fun o=>?_;cases ae:lt d1[i]! d1[a]!;rotate_left
 ·have pc:((i:Int)+1)=(i+1:Nat):=Ω
  simp;(with_reducible repeat' first|refine aj ?_|simp);rw[pc];refine bR.whl (i+1) Ω ⟨Ω,Ω,by rw[<-i3];exact(MM (p:=fun x=>lt x d1[a]!) Ω ae).symm⟩ (H.weakC au (by simpa using s1) d7)
 rotate_left
 ·have i4:Sort.scanUp (fun x=>lt x d1[a]!) d1 (b-1) i=i:=AO (by simp[ae]);rw[i4]at i3;rw[<-i3]at bS;simp;refine H.loopA au [1,4,10] (fun(j:Nat)=>[(11,.int .i64 j)]) (fun _=>d1) (fun j=>j) (fun j=>i<=j+1/\j<=b-1/\Sort.scanDown (fun x=> !lt x d1[a]!) d1 i j=Sort.scanDown (fun x=> !lt x d1[a]!) d1 i (b-1)) (b-1) s1 ⟨Ω,Ω,rfl⟩ (by simp[Pv.look]) aE aE d7 ?_;rintro j ⟨hr,vZ,hc⟩;simp[Pv.look,H.slc];((with_reducible repeat' first|refine aj ?_|simp[Pv.look,H.slc,H.ssc]|((first|apply bD|apply bH|apply bG)<;>intro h<;>try simp at h))<;>(try exact b2))
  ·refine H.lessA s1 j a Ω Ω fun o=>?_;cases aM:lt d1[j]! d1[a]!
   ·obtain⟨j,rfl⟩:∃dD,j=dD+1:=⟨j-1,Ω⟩;have ov:(((j+1:Nat):Int)-1)=(j:Nat):=Ω
    simp;(with_reducible repeat' first|refine aj ?_|simp);try rw[ov]
    refine bR.whl j Ω ⟨Ω,Ω,by rw[<-hc];exact(ML (p:=fun x=> !lt x d1[a]!) Ω (by simp[aM])).symm⟩ (H.weakC au (by simpa using s1) d7)
   ·have xU:Sort.scanDown (fun x=> !lt x d1[a]!) d1 i j=j:=u7 (by simp[aM]);have cF:i≠j:=fun e=>by subst e;rw[ae]at aM;cases aM
    rw[xU]at hc;rw[<-hc,if_neg Ω]at bS;simp;((with_reducible repeat' first|refine aj ?_|simp[Pv.look,H.slc,H.ssc]|((first|apply bD|apply bH|apply bG)<;>intro h<;>try simp at h))<;>(try exact b2));refine H.swapA s1 Ω i j Ω Ω fun o=>?_;obtain⟨d2,eK⟩:∃d2,d2=Sort.swp d1 i j:=⟨_,rfl⟩;have s2:d2.size=n:=by rw[eK,gL,s1]
    rw[<-eK];rw[<-eK]at bS;have bM:((i:Int)+1)=(i+1:Nat):=Ω
    have dt:((j:Int)-1)=(j-1:Nat):=Ω
    simp;(with_reducible repeat' first|refine aj ?_|simp);rw[bM,dt];refine H.loopA au [1,4] (fun(x:(Nat×Nat)×Array α)=>[(10,.int .i64 x.1.1),(11,.int .i64 x.1.2)]) (·.2) (fun x=>x.1.2+1-x.1.1) (fun x=>x.2.size=n/\(a+1<=x.1.1/\x.1.1<=x.1.2+1/\x.1.2<=b-1)/\Sort.partLoop lt a x.1.1 x.1.2 x.2=Sort.partLoop lt a (i+1) (j-1) d2) ((i+1,j-1),d2) s2 ⟨s2,⟨by simp;omega,by simp;omega,by simp;omega⟩,rfl⟩ (by simp[Pv.look]) aE aE d7 ?_;rintro⟨⟨vY,dD⟩,cj⟩ ⟨aX,⟨bg,b6,cT⟩,de⟩;simp only at aX bg b6 cT de;rw[Sort.partLoop]at de;generalize lb:Sort.partLoop lt a (i+1) (j-1) d2=G at de bS;simp;refine H.loopA au [1,4,11] (fun(x:Nat)=>[(10,.int .i64 x)]) (fun _=>cj) (fun x=>b+1-x) (fun x=>vY<=x/\x<=dD+1/\Sort.scanUp (fun x=>lt x cj[a]!) cj dD x=Sort.scanUp (fun x=>lt x cj[a]!) cj dD vY) vY aX ⟨Ω,Ω,rfl⟩ (by simp[Pv.look]) aE aE d7 ?_;rintro p ⟨cU,dq,iY⟩;simp[Pv.look,H.slc];((with_reducible repeat' first|refine aj ?_|simp[Pv.look,H.slc]|((first|apply bD|apply bH|apply bG)<;>intro h<;>try simp at h))<;>(try exact b2))
    ·refine H.lessA aX p a Ω Ω fun o=>?_;cases iq:lt cj[p]! cj[a]!;rotate_left
     ·have pc:((p:Int)+1)=(p+1:Nat):=Ω
      simp;(with_reducible repeat' first|refine aj ?_|simp);rw[pc];refine bR.whl (p+1) Ω ⟨Ω,Ω,by rw[<-iY];exact(MM (p:=fun x=>lt x cj[a]!) Ω iq).symm⟩ (H.weakC au (by simpa using aX) d7)
     ·have uT:Sort.scanUp (fun x=>lt x cj[a]!) cj dD p=p:=AO (by simp[iq]);rw[uT]at iY;simp only[<-iY]at de;simp;refine H.loopA au [1,4,10] (fun(x:Nat)=>[(11,.int .i64 x)]) (fun _=>cj) (fun x=>x) (fun x=>p<=x+1/\x<=dD/\Sort.scanDown (fun x=> !lt x cj[a]!) cj p x=Sort.scanDown (fun x=> !lt x cj[a]!) cj p dD) dD aX ⟨Ω,Ω,rfl⟩ (by simp[Pv.look]) aE aE d7 ?_;rintro q ⟨aZ,bm,bP⟩;simp[Pv.look,H.slc];((with_reducible repeat' first|refine aj ?_|simp[Pv.look,H.slc,H.ssc]|((first|apply bD|apply bH|apply bG)<;>intro h<;>try simp at h))<;>(try exact b2))
      ·refine H.lessA aX q a Ω Ω fun o=>?_;cases rZ:lt cj[q]! cj[a]!
       ·obtain⟨q,rfl⟩:∃dD,q=dD+1:=⟨q-1,Ω⟩;have ov:(((q+1:Nat):Int)-1)=(q:Nat):=Ω
        simp;(with_reducible repeat' first|refine aj ?_|simp);try rw[ov]
        refine bR.whl q Ω ⟨Ω,Ω,by rw[<-bP];exact(ML (p:=fun x=> !lt x cj[a]!) Ω (by simp[rZ])).symm⟩ (H.weakC au (by simpa using aX) d7)
       ·have cP:Sort.scanDown (fun x=> !lt x cj[a]!) cj p q=q:=u7 (by simp[rZ]);have cF:p≠q:=fun e=>by subst e;rw[iq]at rZ;cases rZ
        rw[cP]at bP;simp only[<-bP]at de;rw[if_neg Ω,dif_pos Ω]at de;simp;((with_reducible repeat' first|refine aj ?_|simp[Pv.look,H.slc,H.ssc]|((first|apply bD|apply bH|apply bG)<;>intro h<;>try simp at h))<;>(try exact b2));refine H.swapA aX Ω p q Ω Ω fun o=>?_;have hO:((p:Int)+1)=(p+1:Nat):=Ω
        have hI:((q:Int)-1)=(q-1:Nat):=Ω
        simp;(with_reducible repeat' first|((first|apply bD|apply bH|apply bG)<;>intro h<;>try simp at h)|refine aj ?_|simp);rw[hO,hI];refine bR.whl ((p+1,q-1),Sort.swp cj p q) d8 ⟨by rw[gL,aX],⟨by simp;omega,by simp;omega,by simp;omega⟩,de⟩ (H.weakC au (by simp[gL,aX]) d7)
      ·have cP:Sort.scanDown (fun x=> !lt x cj[a]!) cj p q=q:=u7 Ω;rw[cP]at bP;simp only[<-bP]at de;rw[if_pos Ω]at de;rw[<-de]at bS;refine H.swapA aX Ω q a Ω Ω fun o=>?_;simp;refine H.retR au (d:=Sort.swp cj q a) (by rw[gL,aX]) (.inl rfl) ?_;simp[cL,Dx,aT,aU,aS];rw[bS];exact⟨⟨rfl,rfl⟩,_,rfl,rfl,by rw[gL,aX]⟩
    ·have uT:Sort.scanUp (fun x=>lt x cj[a]!) cj dD p=p:=AO Ω;rw[uT]at iY;simp only[<-iY]at de;have cP:Sort.scanDown (fun x=> !lt x cj[a]!) cj p dD=dD:=u7 Ω;rw[cP,if_pos Ω]at de;rw[<-de]at bS;refine H.loopA au [1,4,10] (fun(x:Nat)=>[(11,.int .i64 x)]) (fun _=>cj) (fun x=>x) (fun x=>x=dD) dD aX rfl (by simp[Pv.look]) aE aE d7 ?_;rintro q rfl;simp[Pv.look,H.slc];((with_reducible repeat' first|refine aj ?_|simp[Pv.look,H.slc,H.ssc]|((first|apply bD|apply bH|apply bG)<;>intro h<;>try simp at h))<;>(try exact b2));refine H.swapA aX Ω q a Ω Ω fun o=>?_;simp;refine H.retR au (d:=Sort.swp cj q a) (by rw[gL,aX]) (.inl rfl) ?_;simp[cL,Dx,aT,aU,aS];rw[bS];exact⟨⟨rfl,rfl⟩,_,rfl,rfl,by rw[gL,aX]⟩
  ·have xU:Sort.scanDown (fun x=> !lt x d1[a]!) d1 i j=j:=u7 Ω;rw[xU]at hc;rw[<-hc,if_pos Ω]at bS;refine H.swapA s1 Ω j a Ω Ω fun o=>?_;simp;refine H.retR au (d:=Sort.swp d1 j a) (by rw[gL,s1]) (.inl rfl) ?_;simp[cL,Dx,aT,aU,aS];rw[bS];exact⟨⟨rfl,rfl⟩,_,rfl,rfl,by rw[gL,s1]⟩
 ·have i4:Sort.scanUp (fun x=>lt x d1[a]!) d1 (b-1) i=i:=AO Ω;rw[i4]at i3;have xU:Sort.scanDown (fun x=> !lt x d1[a]!) d1 i (b-1)=b-1:=u7 Ω;rw[<-i3,xU,if_pos Ω]at bS;refine H.loopA au [1,4,10] (fun(j:Nat)=>[(11,.int .i64 j)]) (fun _=>d1) (fun j=>j) (fun j=>j=b-1) (b-1) s1 rfl (by simp[Pv.look]) aE aE d7 ?_;rintro j rfl;simp[Pv.look,H.slc];((with_reducible repeat' first|refine aj ?_|simp[Pv.look,H.slc,H.ssc]|((first|apply bD|apply bH|apply bG)<;>intro h<;>try simp at h))<;>(try exact b2));refine H.swapA s1 Ω (b-1) a Ω Ω fun o=>?_;simp;refine H.retR au (d:=Sort.swp d1 (b-1) a) (by rw[gL,s1]) (.inl rfl) ?_;simp[cL,Dx,aT,aU,aS];rw[bS];exact⟨⟨rfl,rfl⟩,_,rfl,rfl,by rw[gL,s1]⟩
end
section
open Go Go.Pv
variable {α:Type} [Inhabited α] {S:List α->cM} {n g b8:Nat} {lc b1:List ai} {lt:α->α->Bool}
theorem adI(H:e1 S n g b8 lc b1 lt)(d:Array α)(aG:d.size=n)(a b pivot:Nat)(rI:a<=pivot)(afw:pivot<b)(pn:a+1<b)(ab:b<=n):
  bJ ay 266 [eV g b8 lc b1,.int .i64 a,.int .i64 b,.int .i64 pivot] (S d.toList) fun r ah=>r= .int .i64 (Sort.partitionEqual lt d a b pivot).1/\∃cp,ah=S cp.toList/\cp=(Sort.partitionEqual lt d a b pivot).2/\cp.size=n:=by
 obtain⟨R,bS⟩:∃R,R=Sort.partitionEqual lt d a b pivot:=⟨_,rfl⟩;rw[<-bS];unfold Sort.partitionEqual at bS;have af:=H.ok d.toList;have au:d.toList.length=n:=by simpa using aG
 have az:∀l m,Pv.look (.loc m) (S l).b=none:=fun l=>(H.ok l).obj.1;have hu:∀l m cs,cy (.loc m) cs (S l).b=(S l).b++[(.loc m,cs)]:=fun l m cs=>kc (az l m);have aw:∀m,aL.loc m∉cX (S d.toList):=j5 af.obj;have hle:=H.le;refine bJ.mk mixed n5 ab2 aiV Ψ af.obj fun aR cE=>?_;unfold PG;simp[eV,hu,aw,cN,az];rw[H.ssc];refine H.swapA0 aG Ω a pivot Ω Ω fun o=>?_;obtain⟨d1,ff⟩:∃d1,d1=Sort.swp d a pivot:=⟨_,rfl⟩;have s1:d1.size=n:=by rw[ff,gL,aG]
 rw[<-ff];rw[<-ff]at bS;have ao:((a:Int)+1)=(a+1:Nat):=Ω
 have aF:((b:Int)-1)=(b-1:Nat):=Ω
 simp;(with_reducible repeat' first|refine aj ?_|simp);rw[ao,aF];refine H.loopA au [1,4] (fun(x:(Nat×Nat)×Array α)=>[(9,.int .i64 x.1.1),(10,.int .i64 x.1.2)]) (·.2) (fun x=>x.1.2+1-x.1.1) (fun x=>x.2.size=n/\(a+1<=x.1.1/\x.1.1<=x.1.2+1/\x.1.2<=b-1)/\Sort.partEqLoop lt a x.1.1 x.1.2 x.2=R) ((a+1,b-1),d1) s1 ⟨s1,⟨Ψ,by simp;omega,Ψ⟩,bS.symm⟩ (by simp[Pv.look]) aE aE d7 ?_;rintro⟨⟨vY,dD⟩,cj⟩ ⟨aX,⟨bg,b6,cT⟩,de⟩;simp only at aX bg b6 cT de;rw[Sort.partEqLoop]at de;simp;refine H.loopA au [1,4,10] (fun(x:Nat)=>[(9,.int .i64 x)]) (fun _=>cj) (fun x=>b+1-x) (fun x=>vY<=x/\x<=dD+1/\Sort.scanUp (fun x=> !lt cj[a]! x) cj dD x=Sort.scanUp (fun x=> !lt cj[a]! x) cj dD vY) vY aX ⟨Ω,Ω,rfl⟩ (by simp[Pv.look]) aE aE d7 ?_;rintro p ⟨cU,dq,iY⟩;simp[Pv.look,H.slc];((with_reducible repeat' first|refine aj ?_|simp[Pv.look,H.slc]|((first|apply bD|apply bH|apply bG)<;>intro h<;>try simp at h))<;>(try exact b2))
 ·refine H.lessA aX a p Ω Ω fun o=>?_;cases iq:lt cj[a]! cj[p]!
  ·have pc:((p:Int)+1)=(p+1:Nat):=Ω
   simp;(with_reducible repeat' first|refine aj ?_|simp);rw[pc];refine bR.whl (p+1) Ω ⟨Ω,Ω,by rw[<-iY];exact(MM (p:=fun x=> !lt cj[a]! x) Ω (by simp[iq])).symm⟩ (H.weakC au (by simpa using aX) d7)
  ·have uT:Sort.scanUp (fun x=> !lt cj[a]! x) cj dD p=p:=AO (by simp[iq]);rw[uT]at iY;simp only[<-iY]at de;simp;refine H.loopA au [1,4,9] (fun(x:Nat)=>[(10,.int .i64 x)]) (fun _=>cj) (fun x=>x) (fun x=>p<=x+1/\x<=dD/\Sort.scanDown (fun x=>lt cj[a]! x) cj p x=Sort.scanDown (fun x=>lt cj[a]! x) cj p dD) dD aX ⟨Ω,Ω,rfl⟩ (by simp[Pv.look]) aE aE d7 ?_;rintro q ⟨aZ,bm,bP⟩;simp[Pv.look,H.slc];((with_reducible repeat' first|refine aj ?_|simp[Pv.look,H.slc,H.ssc]|((first|apply bD|apply bH|apply bG)<;>intro h<;>try simp at h))<;>(try exact b2))
   ·refine H.lessA aX a q Ω Ω fun o=>?_;cases rZ:lt cj[a]! cj[q]!;rotate_left
    ·obtain⟨q,rfl⟩:∃dD,q=dD+1:=⟨q-1,Ω⟩;have ov:(((q+1:Nat):Int)-1)=(q:Nat):=Ω
     simp;(with_reducible repeat' first|refine aj ?_|simp);try rw[ov]
     refine bR.whl q Ω ⟨Ω,Ω,by rw[<-bP];exact(ML (p:=fun x=>lt cj[a]! x) Ω (by simp[rZ])).symm⟩ (H.weakC au (by simpa using aX) d7)
    ·have cP:Sort.scanDown (fun x=>lt cj[a]! x) cj p q=q:=u7 (by simp[rZ]);have cF:p≠q:=fun e=>by subst e;rw[iq]at rZ;cases rZ
     rw[cP]at bP;simp only[<-bP]at de;rw[if_neg Ω,dif_pos Ω]at de;simp;((with_reducible repeat' first|refine aj ?_|simp[Pv.look,H.slc,H.ssc]|((first|apply bD|apply bH|apply bG)<;>intro h<;>try simp at h))<;>(try exact b2));refine H.swapA aX Ω p q Ω Ω fun o=>?_;have hO:((p:Int)+1)=(p+1:Nat):=Ω
     have hI:((q:Int)-1)=(q-1:Nat):=Ω
     simp;(with_reducible repeat' first|((first|apply bD|apply bH|apply bG)<;>intro h<;>try simp at h)|refine aj ?_|simp);rw[hO,hI];refine bR.whl ((p+1,q-1),Sort.swp cj p q) d8 ⟨by rw[gL,aX],⟨by simp;omega,by simp;omega,by simp;omega⟩,de⟩ (H.weakC au (by simp[gL,aX]) d7)
   ·have cP:Sort.scanDown (fun x=>lt cj[a]! x) cj p q=q:=u7 Ω;rw[cP]at bP;simp only[<-bP]at de;rw[if_pos Ω]at de;refine H.retR au (d:=cj) aX (.inl rfl) ?_;simp[cL,Md,aT,aU,aS];rw[<-de];exact⟨rfl,_,rfl,rfl,aX⟩
 ·have uT:Sort.scanUp (fun x=> !lt cj[a]! x) cj dD p=p:=AO Ω;rw[uT]at iY;simp only[<-iY]at de;have cP:Sort.scanDown (fun x=>lt cj[a]! x) cj p dD=dD:=u7 Ω;rw[cP,if_pos Ω]at de;refine H.loopA au [1,4,9] (fun(x:Nat)=>[(10,.int .i64 x)]) (fun _=>cj) (fun x=>x) (fun x=>x=dD) dD aX rfl (by simp[Pv.look]) aE aE d7 ?_;rintro q rfl;simp[Pv.look,H.slc];((with_reducible repeat' first|refine aj ?_|simp[Pv.look,H.slc,H.ssc]|((first|apply bD|apply bH|apply bG)<;>intro h<;>try simp at h))<;>(try exact b2));refine H.retR au (d:=cj) aX (.inl rfl) ?_;simp[cL,Md,aT,aU,aS];rw[<-de];exact⟨rfl,_,rfl,rfl,aX⟩
end
section
open Go Go.Pv
variable {α:Type} [Inhabited α] {S:List α->cM} {n g b8:Nat} {lc b1:List ai} {lt:α->α->Bool}
theorem adG(H:e1 S n g b8 lc b1 lt)(d:Array α)(aG:d.size=n)(a b:Nat)(pn:a<b)(ab:b<=n)(U:2<=n):
  bJ ay 265 [eV g b8 lc b1,.int .i64 a,.int .i64 b] (S d.toList) fun r ah=>r= .bool (Sort.partialInsertionSort lt d a b).2/\∃cp,ah=S cp.toList/\cp=(Sort.partialInsertionSort lt d a b).1/\cp.size=n:=by
 obtain⟨R,bS⟩:∃R,R=Sort.partialInsertionSort lt d a b:=⟨_,rfl⟩;rw[<-bS];unfold Sort.partialInsertionSort at bS;have af:=H.ok d.toList;have au:d.toList.length=n:=by simpa using aG
 have az:∀l m,Pv.look (.loc m) (S l).b=none:=fun l=>(H.ok l).obj.1;have hu:∀l m cs,cy (.loc m) cs (S l).b=(S l).b++[(.loc m,cs)]:=fun l m cs=>kc (az l m);have aw:∀m,aL.loc m∉cX (S d.toList):=j5 af.obj;have hle:=H.le;refine bJ.mk mixed n5 ab1 aiU Ψ af.obj fun aR cE=>?_;unfold PF;simp[eV,hu,aw,cN,az];have ao:((a:Int)+1)=(a+1:Nat):=Ω
 (with_reducible repeat' first|refine aj ?_|simp);rw[ao];refine H.loopA au [1,2,3] (fun(x:(Nat×Nat)×Array α)=>[(7,.int .i64 x.1.1),(8,.int .i64 x.1.2)]) (·.2) (fun x=>5-x.1.2) (fun x=>x.2.size=n/\(a+1<=x.1.1/\x.1.1<=b/\x.1.2<=5)/\Sort.partialIns lt a b (5-x.1.2) x.1.1 x.2=R) ((a+1,0),d) aG ⟨aG,⟨Ψ,by simp;omega,Ψ⟩,bS.symm⟩ (by simp[cN,az]) aE aE d7 ?_;rintro⟨⟨i0,s⟩,cj⟩ ⟨aX,⟨bg,b6,cT⟩,de⟩;simp only at aX bg b6 cT de;simp;((with_reducible repeat' first|refine aj ?_|simp|((first|apply bD|apply bH|apply bG)<;>intro h<;>try simp at h))<;>(try exact b2))
 ·obtain⟨m,hm⟩:∃m,5-s=m+1:=⟨5-s-1,Ω⟩;rw[hm,Sort.partialIns]at de;refine H.loopA au [1,2,3,8] (fun(x:Nat)=>[(7,.int .i64 x)]) (fun _=>cj) (fun x=>b-x) (fun x=>i0<=x/\x<=b/\Sort.scanSorted lt cj b x=Sort.scanSorted lt cj b i0) i0 aX ⟨Ω,Ω,rfl⟩ (by simp[Pv.look]) aE aE d7 ?_;rintro i ⟨i1,i2,i3⟩;rw[Sort.scanSorted]at i3;have pc:((i:Int)+1)=(i+1:Nat):=Ω
  have E2:((i:Int)-1)=(i-1:Nat):=Ω
  have es:((s:Int)+1)=(s+1:Nat):=Ω
  have em:5-(s+1)=m:=Ω
  simp[Pv.look,H.slc];((with_reducible repeat' first|refine aj ?_|simp[Pv.look,H.slc]|((first|apply bD|apply bH|apply bG)<;>intro h<;>try simp at h))<;>(try exact b2))
  ·rw[E2];refine H.lessA aX i (i-1) Ω Ω fun o=>?_;cases ae:lt cj[i]! cj[i-1]!
   ·rw[if_pos (by simp[ae];omega)]at i3;simp;(with_reducible repeat' first|refine aj ?_|simp);rw[pc];refine bR.whl (i+1) Ω ⟨Ω,Ω,i3⟩ (H.weakC au (by simpa using aX) d7)
   ·rw[if_neg (by simp[ae])]at i3;simp only[<-i3]at de;rw[if_neg Ω]at de;have zy:(i:Int)≠b:=Ω
    have aeX:((i:Int)==b)=false:=by simp;omega
    simp;((with_reducible repeat' first|refine aj ?_|simp[zy,aeX,Pv.look,H.slc,H.ssc]|((first|apply bD|apply bH|apply bG)<;>intro h<;>try simp at h))<;>(try exact b2))
    ·rw[if_pos Ω]at de;refine H.retR au (d:=cj) aX (.inl rfl) ?_;simp[cL,G3,aT,aU,aS];rw[<-de];exact⟨rfl,_,rfl,rfl,aX⟩
    ·rw[if_neg Ω]at de;rw[E2];refine H.swapA aX U i (i-1) Ω Ω fun o=>?_;obtain⟨d2,eK⟩:∃d2,d2=Sort.swp cj i (i-1):=⟨_,rfl⟩;have s2:d2.size=n:=by rw[eK,gL,aX]
     rw[<-eK];simp only[<-eK]at de;by_cases lI:2<=b-i
     ·rw[if_pos lI]at de;have ti:(2:Int)<=(b:Int)-i:=Ω
      by_cases Cb:2<=i-a
      ·rw[if_pos Cb]at de;have xB:(2:Int)<=(i:Int)-a:=Ω
       simp;(with_reducible repeat' first|refine aj ?_|simp[xB]);rw[E2];refine H.loopA au [1,2,3,7,8] (fun(x:Nat×Array α)=>[(9,.int .i64 x.1)]) (·.2) (fun x=>x.1) (fun x=>x.2.size=n/\x.1<=i-1/\Sort.shiftDown lt x.1 x.2=Sort.shiftDown lt (i-1) d2) (i-1,d2) s2 ⟨s2,Ψ,rfl⟩ (by simp[Pv.look]) aE aE d7 ?_;rintro⟨j,fK⟩ ⟨hr,vZ,hc⟩;simp only at hr vZ hc;simp[Pv.look,H.slc,H.ssc];((with_reducible repeat' first|refine aj ?_|simp[Pv.look,H.slc,H.ssc,ti]|((first|apply bD|apply bH|apply bG)<;>intro h<;>try simp at h))<;>(try exact b2))
       ·obtain⟨j,rfl⟩:∃dD,j=dD+1:=⟨j-1,Ω⟩;have ov:(((j+1:Nat):Int)-1)=(j:Nat):=Ω
        rw[Sort.shiftDown]at hc;try rw[ov]
        refine H.lessA hr (j+1) j Ω Ω fun o=>?_;cases aM:lt fK[j+1]! fK[j]!
        ·rw[if_pos (by simp[aM])]at hc;rw[<-hc]at de;try simp
         try(with_reducible repeat' first|refine aj ?_|simp[Pv.look,H.slc,H.ssc,ti])
         rw[pc];refine H.loopA au [1,2,3,7,8] (fun(x:Nat×Array α)=>[(10,.int .i64 x.1)]) (·.2) (fun x=>b-x.1) (fun x=>x.2.size=n/\(i+1<=x.1/\x.1<=b)/\Sort.shiftUp lt b x.1 x.2=Sort.shiftUp lt b (i+1) fK) (i+1,fK) hr ⟨hr,⟨Ψ,by simp;omega⟩,rfl⟩ (by simp[Pv.look]) aE aE d7 ?_;rintro⟨q,mY⟩ ⟨aZ,⟨bm,yj⟩,bP⟩;simp only at aZ bm yj bP;rw[Sort.shiftUp]at bP;have eq:((q:Int)-1)=(q-1:Nat):=Ω
         have BF:((q:Int)+1)=(q+1:Nat):=Ω
         simp[Pv.look,H.slc,H.ssc];((with_reducible repeat' first|refine aj ?_|simp[Pv.look,H.slc,H.ssc]|((first|apply bD|apply bH|apply bG)<;>intro h<;>try simp at h))<;>(try exact b2))
         ·rw[if_pos Ω]at bP;rw[eq];refine H.lessA aZ q (q-1) Ω Ω fun o=>?_;cases bk:lt mY[q]! mY[q-1]!
          ·rw[if_pos (by simp[bk])]at bP;rw[<-bP]at de;simp;(with_reducible repeat' first|refine aj ?_|simp);rw[es];refine bR.whl ((i,s+1),mY) d8 ⟨aZ,⟨by simp;omega,by simp;omega,by simp;omega⟩,by simp only[em];exact de⟩ (H.weakC au (by simpa using aZ) d7)
          ·rw[if_neg (by simp[bk])]at bP;simp;(with_reducible repeat' first|refine aj ?_|simp[Pv.look,H.slc,H.ssc]);rw[eq];refine H.swapA aZ Ω q (q-1) Ω Ω fun o=>?_;simp;((with_reducible repeat' first|refine aj ?_|simp|((first|apply bD|apply bH|apply bG)<;>intro h<;>try simp at h))<;>(try exact b2));rw[BF];refine bR.whl (q+1,Sort.swp mY q (q-1)) d8 ⟨by rw[gL,aZ],⟨by simp;omega,by simp;omega⟩,bP⟩ (H.weakC au (by simp[gL,aZ]) d7)
         ·rw[if_neg Ω]at bP;rw[<-bP]at de;rw[es];refine bR.whl ((i,s+1),mY) d8 ⟨aZ,⟨by simp;omega,by simp;omega,by simp;omega⟩,by simp only[em];exact de⟩ (H.weakC au (by simpa using aZ) d7)
        ·rw[if_neg (by simp[aM])]at hc;simp;(with_reducible repeat' first|refine aj ?_|simp[Pv.look,H.slc,H.ssc]);try rw[ov]
         refine H.swapA hr U (j+1) j Ω Ω fun o=>?_;simp;((with_reducible repeat' first|refine aj ?_|simp|((first|apply bD|apply bH|apply bG)<;>intro h<;>try simp at h))<;>(try exact b2));try rw[ov]
         refine bR.whl (j,Sort.swp fK (j+1) j) Ψ ⟨by rw[gL,hr],by simp;omega,hc⟩ (H.weakC au (by simp[gL,hr]) d7)
       ·obtain rfl:j=0:=Ω
        rw[Sort.shiftDown]at hc;rw[<-hc]at de;try simp
        try(with_reducible repeat' first|refine aj ?_|simp[Pv.look,H.slc,H.ssc,ti])
        rw[pc];refine H.loopA au [1,2,3,7,8] (fun(x:Nat×Array α)=>[(10,.int .i64 x.1)]) (·.2) (fun x=>b-x.1) (fun x=>x.2.size=n/\(i+1<=x.1/\x.1<=b)/\Sort.shiftUp lt b x.1 x.2=Sort.shiftUp lt b (i+1) fK) (i+1,fK) hr ⟨hr,⟨Ψ,by simp;omega⟩,rfl⟩ (by simp[Pv.look]) aE aE d7 ?_;rintro⟨q,mY⟩ ⟨aZ,⟨bm,yj⟩,bP⟩;simp only at aZ bm yj bP;rw[Sort.shiftUp]at bP;have eq:((q:Int)-1)=(q-1:Nat):=Ω
        have BF:((q:Int)+1)=(q+1:Nat):=Ω
        simp[Pv.look,H.slc,H.ssc];((with_reducible repeat' first|refine aj ?_|simp[Pv.look,H.slc,H.ssc]|((first|apply bD|apply bH|apply bG)<;>intro h<;>try simp at h))<;>(try exact b2))
        ·rw[if_pos Ω]at bP;rw[eq];refine H.lessA aZ q (q-1) Ω Ω fun o=>?_;cases bk:lt mY[q]! mY[q-1]!
         ·rw[if_pos (by simp[bk])]at bP;rw[<-bP]at de;simp;(with_reducible repeat' first|refine aj ?_|simp);rw[es];refine bR.whl ((i,s+1),mY) d8 ⟨aZ,⟨by simp;omega,by simp;omega,by simp;omega⟩,by simp only[em];exact de⟩ (H.weakC au (by simpa using aZ) d7)
         ·rw[if_neg (by simp[bk])]at bP;simp;(with_reducible repeat' first|refine aj ?_|simp[Pv.look,H.slc,H.ssc]);rw[eq];refine H.swapA aZ Ω q (q-1) Ω Ω fun o=>?_;simp;((with_reducible repeat' first|refine aj ?_|simp|((first|apply bD|apply bH|apply bG)<;>intro h<;>try simp at h))<;>(try exact b2));rw[BF];refine bR.whl (q+1,Sort.swp mY q (q-1)) d8 ⟨by rw[gL,aZ],⟨by simp;omega,by simp;omega⟩,bP⟩ (H.weakC au (by simp[gL,aZ]) d7)
        ·rw[if_neg Ω]at bP;rw[<-bP]at de;rw[es];refine bR.whl ((i,s+1),mY) d8 ⟨aZ,⟨by simp;omega,by simp;omega,by simp;omega⟩,by simp only[em];exact de⟩ (H.weakC au (by simpa using aZ) d7)
      ·rw[if_neg Cb]at de;have xB:¬(2:Int)<=(i:Int)-a:=Ω
       simp;(with_reducible repeat' first|refine aj ?_|simp[xB,ti]);try simp
       try(with_reducible repeat' first|refine aj ?_|simp[Pv.look,H.slc,H.ssc,ti])
       rw[pc];refine H.loopA au [1,2,3,7,8] (fun(x:Nat×Array α)=>[(10,.int .i64 x.1)]) (·.2) (fun x=>b-x.1) (fun x=>x.2.size=n/\(i+1<=x.1/\x.1<=b)/\Sort.shiftUp lt b x.1 x.2=Sort.shiftUp lt b (i+1) d2) (i+1,d2) s2 ⟨s2,⟨Ψ,by simp;omega⟩,rfl⟩ (by simp[Pv.look]) aE aE d7 ?_;rintro⟨q,mY⟩ ⟨aZ,⟨bm,yj⟩,bP⟩;simp only at aZ bm yj bP;rw[Sort.shiftUp]at bP;have eq:((q:Int)-1)=(q-1:Nat):=Ω
       have BF:((q:Int)+1)=(q+1:Nat):=Ω
       simp[Pv.look,H.slc,H.ssc];((with_reducible repeat' first|refine aj ?_|simp[Pv.look,H.slc,H.ssc]|((first|apply bD|apply bH|apply bG)<;>intro h<;>try simp at h))<;>(try exact b2))
       ·rw[if_pos Ω]at bP;rw[eq];refine H.lessA aZ q (q-1) Ω Ω fun o=>?_;cases bk:lt mY[q]! mY[q-1]!
        ·rw[if_pos (by simp[bk])]at bP;rw[<-bP]at de;simp;(with_reducible repeat' first|refine aj ?_|simp);rw[es];refine bR.whl ((i,s+1),mY) d8 ⟨aZ,⟨by simp;omega,by simp;omega,by simp;omega⟩,by simp only[em];exact de⟩ (H.weakC au (by simpa using aZ) d7)
        ·rw[if_neg (by simp[bk])]at bP;simp;(with_reducible repeat' first|refine aj ?_|simp[Pv.look,H.slc,H.ssc]);rw[eq];refine H.swapA aZ Ω q (q-1) Ω Ω fun o=>?_;simp;((with_reducible repeat' first|refine aj ?_|simp|((first|apply bD|apply bH|apply bG)<;>intro h<;>try simp at h))<;>(try exact b2));rw[BF];refine bR.whl (q+1,Sort.swp mY q (q-1)) d8 ⟨by rw[gL,aZ],⟨by simp;omega,by simp;omega⟩,bP⟩ (H.weakC au (by simp[gL,aZ]) d7)
       ·rw[if_neg Ω]at bP;rw[<-bP]at de;rw[es];refine bR.whl ((i,s+1),mY) d8 ⟨aZ,⟨by simp;omega,by simp;omega,by simp;omega⟩,by simp only[em];exact de⟩ (H.weakC au (by simpa using aZ) d7)
     ·rw[if_neg lI]at de;have ti:¬(2:Int)<=(b:Int)-i:=Ω
      by_cases Cb:2<=i-a
      ·rw[if_pos Cb]at de;have xB:(2:Int)<=(i:Int)-a:=Ω
       simp;(with_reducible repeat' first|refine aj ?_|simp[xB]);rw[E2];refine H.loopA au [1,2,3,7,8] (fun(x:Nat×Array α)=>[(9,.int .i64 x.1)]) (·.2) (fun x=>x.1) (fun x=>x.2.size=n/\x.1<=i-1/\Sort.shiftDown lt x.1 x.2=Sort.shiftDown lt (i-1) d2) (i-1,d2) s2 ⟨s2,Ψ,rfl⟩ (by simp[Pv.look]) aE aE d7 ?_;rintro⟨j,fK⟩ ⟨hr,vZ,hc⟩;simp only at hr vZ hc;simp[Pv.look,H.slc,H.ssc];((with_reducible repeat' first|refine aj ?_|simp[Pv.look,H.slc,H.ssc,ti]|((first|apply bD|apply bH|apply bG)<;>intro h<;>try simp at h))<;>(try exact b2))
       ·obtain⟨j,rfl⟩:∃dD,j=dD+1:=⟨j-1,Ω⟩;have ov:(((j+1:Nat):Int)-1)=(j:Nat):=Ω
        rw[Sort.shiftDown]at hc;try rw[ov]
        refine H.lessA hr (j+1) j Ω Ω fun o=>?_;cases aM:lt fK[j+1]! fK[j]!
        ·rw[if_pos (by simp[aM])]at hc;rw[<-hc]at de;try simp
         try(with_reducible repeat' first|refine aj ?_|simp[Pv.look,H.slc,H.ssc,ti])
         rw[es];refine bR.whl ((i,s+1),fK) d8 ⟨hr,⟨by simp;omega,by simp;omega,by simp;omega⟩,by simp only[em];exact de⟩ (H.weakC au (by simpa using hr) d7)
        ·rw[if_neg (by simp[aM])]at hc;simp;(with_reducible repeat' first|refine aj ?_|simp[Pv.look,H.slc,H.ssc]);try rw[ov]
         refine H.swapA hr U (j+1) j Ω Ω fun o=>?_;simp;((with_reducible repeat' first|refine aj ?_|simp|((first|apply bD|apply bH|apply bG)<;>intro h<;>try simp at h))<;>(try exact b2));try rw[ov]
         refine bR.whl (j,Sort.swp fK (j+1) j) Ψ ⟨by rw[gL,hr],by simp;omega,hc⟩ (H.weakC au (by simp[gL,hr]) d7)
       ·obtain rfl:j=0:=Ω
        rw[Sort.shiftDown]at hc;rw[<-hc]at de;try simp
        try(with_reducible repeat' first|refine aj ?_|simp[Pv.look,H.slc,H.ssc,ti])
        rw[es];refine bR.whl ((i,s+1),fK) d8 ⟨hr,⟨by simp;omega,by simp;omega,by simp;omega⟩,by simp only[em];exact de⟩ (H.weakC au (by simpa using hr) d7)
      ·rw[if_neg Cb]at de;have xB:¬(2:Int)<=(i:Int)-a:=Ω
       simp;((with_reducible repeat' first|refine aj ?_|simp[xB,ti]|((first|apply bD|apply bH|apply bG)<;>intro h<;>try simp at h))<;>(try exact b2));done
  ·rw[if_neg d8]at i3;simp only[<-i3]at de;rw[if_pos Ω]at de;refine H.retR au (d:=cj) aX (.inl rfl) ?_;simp[cL,G3,aT,aU,aS];rw[<-de];exact⟨rfl,_,rfl,rfl,aX⟩
 ·have:5-s=0:=Ω
  rw[this,Sort.partialIns]at de;refine H.retR au (d:=cj) aX (.inl rfl) ?_;simp[cL,G3,aT,aU,aS];rw[<-de];exact⟨rfl,_,rfl,rfl,aX⟩
end
section
open Go Go.Pv
variable {α:Type} [Inhabited α] {S:List α->cM} {n g b8:Nat} {lc b1:List ai} {lt:α->α->Bool}
def e6(S:List α->cM)(d:Array α)(v:Nat):cM:=⟨(.obj 901,[.int .i64 v])::(S d.toList).b,(S d.toList).e⟩
def sb(S:List α->cM)(m:Nat):Prop:= ∀l,Pv.look (.obj m) (S l).b=none/\Pv.look (.obj m) (S l).e=none
theorem nG(H:e1 S n g b8 lc b1 lt)(d:Array α)(v:Nat):dN (e6 S d v):=by
 have h:=H.ok d.toList;have jw:∀k,inObs (S d.toList) k->inObs (e6 S d v) k:=fun k ad=>by
  rcases ad with ad|ad
  ·refine .inl ?_;simp only[e6,Pv.look];split
   ·rfl
   ·exact ad
  ·exact .inr ad
 refine⟨⟨fun m=>?_,h.obj.2⟩,fun k cs ad=>?_,fun k o aw xs ae=>j2 jw _ (h.ke k o aw xs ae)⟩
 ·simp[e6,Pv.look,h.obj.1 m]
 ·simp only[e6,Pv.look]at ad;split at ad
  ·cases ad;simp[aP,aJ]
  ·exact j2 jw _ (h.kb k cs ad)
theorem sF(d:Array α)(v v':Nat):Same (e6 S d v) (e6 S d v'):=⟨fun k=>by simp only[e6,Pv.look];split<;>rfl,fun _=>rfl⟩
theorem JA(H:e1 S n g b8 lc b1 lt)(ad:sb S 901)(d:Array α)(aG:d.size=n)(a b v:Nat)(a7:a<n)(ab:b<n)(av:v<=1000):
  bJ ay 285 [eV g b8 lc b1,.int .i64 a,.int .i64 b,.ptr (.obj 901) 0] (e6 S d v) fun r ah=>r= .tuple [.int .i64 (Sort.order2 lt d a b v).1,.int .i64 (Sort.order2 lt d a b v).2.1]/\ah=e6 S d (Sort.order2 lt d a b v).2.2:=by
 have af:=H.ok d.toList;have au:d.toList.length=n:=by simpa using aG
 have az:∀l m,Pv.look (.loc m) (S l).b=none:=fun l=>(H.ok l).obj.1;have hu:∀l m cs,cy (.loc m) cs (S l).b=(S l).b++[(.loc m,cs)]:=fun l m cs=>kc (az l m);have aw:∀m,aL.loc m∉cX (S d.toList):=j5 af.obj;have gn:∀l,Pv.look (.obj 901) (S l).b=none:=fun l=>(ad l).1;have lf:∀l,Pv.look (.obj 901) (S l).e=none:=fun l=>(ad l).2;have hle:=H.le;have kD:=nG H d v;obtain⟨R,bS⟩:∃R,R=Sort.order2 lt d a b v:=⟨_,rfl⟩;rw[<-bS];unfold Sort.order2 at bS;refine bJ.mk mixed n5 ab0 aiT Ψ kD.obj fun aR cE=>?_;unfold PE;have lE:aL.loc 0∉cX (e6 S d v):=j5 kD.obj 0;generalize uC:cX (e6 S d v)=ob at lE⊢;unfold e6;simp[eV,hu,lE,cN,az,Pv.look,cy];rw[H.slc];refine cA.ob (H.less d.toList au b a _ _ (yY Ω) (yY Ω)) (H.ok _) (fun k cs ae=>?_) (fun _ _ ae=>ae) (by simp[aJ,aP,H.klc d.toList au]) ?_
 ·simp only[Pv.look];split
  ·rename_i e;subst e;rw[gn]at ae;cases ae
  ·rw[cN,ae]
 rintro r ah ⟨rfl,rfl⟩;refine⟨Same.refl _,?_⟩;have hw:bX (S d.toList).b ((aL.obj 901,[ai.int .i64 v])::((S d.toList).b++[(aL.loc 0,[ai.func g lc,ai.func b8 b1])]))=[(aL.obj 901,[ai.int .i64 v]),(aL.loc 0,[ai.func g lc,ai.func b8 b1])]:=by simp only[bX,gn];rw[iJ,gX];simp[bX,az]
 rw[hw,gX];have dF:∀(t:List (Nat×ai)) (o:List aL) (v':Nat) (D:List ai) (x y:Nat),Pv.get 8 t= .int .i64 x->Pv.get 9 t= .int .i64 y->R=(x,y,v')->
   cI Mc (e6 S d v) (fun r ah=>r= .tuple [.int .i64 R.1,.int .i64 R.2.1]/\ah=e6 S d R.2.2) .ret ⟨t,(aL.obj 901,[.int .i64 v'])::(aL.loc 0,D)::(S d.toList).b,(S d.toList).e,1,o⟩:=by
  rintro t o v' D x y ae aM rfl;refine cI.at (e6 S d v') (.inl rfl) (nG H d v') (sF _ _ _) (fun k cs aq=>?_) (fun _ _ aq=>aq) ?_
  ·simp only[e6,Pv.look]at aq⊢;split at aq
   ·rename_i e;rw[if_pos e];exact aq
   ·rename_i e;rw[if_neg e];split
    ·rename_i aF;subst aF;rw[az]at aq;cases aq
    ·exact aq
  ·simp[cL,Mc,aT,aU,aS,ae,aM]
 cases ae:lt d[b]! d[a]! with
 |true=>
  rw[if_pos ae]at bS;simp[Pv.look,cy];(with_reducible repeat' first|refine aj ?_|simp[Pv.look,cy]);have ao:((v:Int)+1)=(v+1:Nat):=Ω
  rw[ao];exact dF _ _ (v+1) _ b a rfl rfl bS
 |false=>rw[if_neg (by simp[ae])]at bS;simp[Pv.look,cy];exact dF _ _ v _ a b rfl rfl bS
theorem UQ{s ah:cM}{f:Nat}{args:List ai}{r:ai}(aO:bJ ay f args s fun eG dK=>eG=r/\dK=ah)(af:dN s)(e8:Same s ah)(ad:aP (inObs s) args){t:List (Nat×ai)}{D:List ai}{o:List aL}{d:Option Nat}{K:bo->Prop}
  (h:∀o,K ⟨eM d r t,(.loc 0,D)::ah.b,ah.e,1,o⟩):cA ay f args ⟨t,s.b++[(.loc 0,D)],s.e,1,o⟩ d K:=by
 refine cA.ob aO af (fun k cs ae=>by rw[cN,ae]) (fun _ _ ae=>ae) ad ?_;rintro r ah ⟨rfl,rfl⟩;refine⟨e8,?_⟩;have ao:bX s.b (s.b++[(.loc 0,D)])=[(.loc 0,D)]:=by rw[iJ,gX];simp[bX,af.obj.1 0]
 have aF:bX s.e s.e=[]:=gX _;simp only[ao,aF];exact h _
theorem Df{s ah:cM}{f:Nat}{args:List ai}{r:ai}(aO:bJ ay f args s fun eG dK=>eG=r/\dK=ah)(af:dN s)(e8:Same s ah)(ad:aP (inObs s) args){t:List (Nat×ai)}{D:List ai}{o:List aL}{d:Option Nat}{K:bo->Prop}
  (h:∀o,K ⟨eM d r t,(.loc 0,D)::ah.b,ah.e,1,o⟩):cA ay f args ⟨t,(.loc 0,D)::s.b,s.e,1,o⟩ d K:=by
 refine cA.ob aO af (fun k cs ae=>?_) (fun _ _ ae=>ae) ad ?_
 ·cases k with
  |loc m=>rw[af.obj.1 m]at ae;cases ae
  |obj m=>simpa[Pv.look]using ae
 rintro r ah ⟨rfl,rfl⟩;refine⟨e8,?_⟩;have ao:bX s.b ((.loc 0,D)::s.b)=[(.loc 0,D)]:=by have:=iJ s.b [(aL.loc 0,D)] s.b;rw[gX]at this;simpa[bX,af.obj.1 0]using this
 have aF:bX s.e s.e=[]:=gX _;simp only[ao,aF];exact h _
theorem Au{d:Array α}{a b v n:Nat}(a7:a<n)(ab:b<n):(Sort.order2 lt d a b v).1<n/\(Sort.order2 lt d a b v).2.1<n/\(Sort.order2 lt d a b v).2.2<=v+1:=by unfold Sort.order2;split<;>simp<;>omega
theorem uJ(H:e1 S n g b8 lc b1 lt){d:Array α}(aG:d.size=n){v:Nat}:aJ (inObs (e6 S d v)) (eV g b8 lc b1)/\aJ (inObs (e6 S d v)) (.ptr (.obj 901) 0):=by
 refine⟨we (fun k ad=>?_) _ (H.kdata (lk:=d.toList) (by simpa using aG)),by simp[aJ,inObs,e6,Pv.look]⟩;rcases ad with ad|ad
 ·refine .inl ?_;simp only[e6,Pv.look];split
  ·rfl
  ·exact ad
 ·exact .inr ad
theorem WI(H:e1 S n g b8 lc b1 lt){d:Array α}{v v':Nat}{fi:List bY}{Q:ai->cM->Prop}{t:List (Nat×ai)}{D:List ai}{o:List aL}(h:cL ⟨t,(.loc 0,D)::(e6 S d v').b,(S d.toList).e,1,o⟩ fi fun r=>aJ (inObs (e6 S d v')) r/\Q r (e6 S d v')):
  cI fi (e6 S d v) Q .ret ⟨t,(.loc 0,D)::(e6 S d v').b,(S d.toList).e,1,o⟩:=by
 refine cI.at (e6 S d v') (.inl rfl) (nG H d v') (sF _ _ _) (fun k cs ae=>?_) (fun _ _ aq=>aq) h;cases k with
 |loc m=>rw[(nG H d v').obj.1 m]at ae;cases ae
 |obj m=>simpa[Pv.look]using ae
theorem Jx(H:e1 S n g b8 lc b1 lt)(ad:sb S 901)(d:Array α)(aG:d.size=n)(a b c v:Nat)(a7:a<n)(ab:b<n)(aq:c<n)(av:v<=900):
  bJ ay 282 [eV g b8 lc b1,.int .i64 a,.int .i64 b,.int .i64 c,.ptr (.obj 901) 0] (e6 S d v) fun r ah=>r= .int .i64 (Sort.median lt d a b c v).1/\ah=e6 S d (Sort.median lt d a b c v).2:=by
 have kD:=nG H d v;have rS:∀v m,Pv.look (.loc m) (e6 S d v).b=none:=fun v=>(nG H d v).obj.1;have Kv:∀v m cs,cy (.loc m) cs (e6 S d v).b=(e6 S d v).b++[(.loc m,cs)]:=fun v m cs=>kc (rS v m);have lE:aL.loc 0∉cX (e6 S d v):=j5 kD.obj 0;obtain⟨R,bS⟩:∃R,R=Sort.median lt d a b c v:=⟨_,rfl⟩;rw[<-bS];unfold Sort.median at bS;have aZ:=Au (lt:=lt) (d:=d) (v:=v) a7 ab;have aX:=JA H ad d aG a b v a7 ab Ω;generalize Sort.order2 lt d a b v=eR at aZ aX bS;obtain⟨sv,kK,v1⟩:=eR;simp only at aZ aX bS;have bm:=Au (lt:=lt) (d:=d) (v:=v1) aZ.2.1 aq;have bg:=JA H ad d aG kK c v1 aZ.2.1 aq Ω;generalize Sort.order2 lt d kK c v1=fM at bm bg bS;obtain⟨yK,oT,v2⟩:=fM;simp only at bm bg bS;have bP:=Au (lt:=lt) (d:=d) (v:=v2) aZ.1 bm.1;have b6:=JA H ad d aG sv yK v2 aZ.1 bm.1 Ω;generalize Sort.order2 lt d sv yK v2=pG at bP b6 bS;obtain⟨sw,HT,v3⟩:=pG;simp only at bP b6 bS;refine bJ.mk mixed n5 abY aiR Ψ kD.obj fun aR cE=>?_;unfold PC;simp[eV,Kv,lE,cN,rS];simp only[iy H,H.slc,H.ssc,ig];refine UQ aX (nG H d v) (sF _ _ _) (by simp[aJ,aP,(uJ H aG).1];exact(uJ H aG).2) fun o=>?_;simp[Pv.look];simp only[iy H,H.slc,H.ssc,ig];refine Df bg (nG H d v1) (sF _ _ _) (by simp[aJ,aP,(uJ H aG).1];exact(uJ H aG).2) fun o=>?_;simp[Pv.look];simp only[iy H,H.slc,H.ssc,ig];refine Df b6 (nG H d v2) (sF _ _ _) (by simp[aJ,aP,(uJ H aG).1];exact(uJ H aG).2) fun o=>?_;simp;refine WI H ?_;simp[cL,VY,aT,aU,aS];rw[bS];exact⟨rfl,rfl⟩
theorem Jy(H:e1 S n g b8 lc b1 lt)(ad:sb S 901)(d:Array α)(aG:d.size=n)(a v:Nat)(a7:a+1<n)(ld:1<=a)(av:v<=900):
  bJ ay 281 [eV g b8 lc b1,.int .i64 a,.ptr (.obj 901) 0] (e6 S d v) fun r ah=>r= .int .i64 (Sort.medianAdjacent lt d a v).1/\ah=e6 S d (Sort.medianAdjacent lt d a v).2:=by
 have kD:=nG H d v;have rS:∀v m,Pv.look (.loc m) (e6 S d v).b=none:=fun v=>(nG H d v).obj.1;have Kv:∀v m cs,cy (.loc m) cs (e6 S d v).b=(e6 S d v).b++[(.loc m,cs)]:=fun v m cs=>kc (rS v m);have lE:aL.loc 0∉cX (e6 S d v):=j5 kD.obj 0;have hle:=H.le;have aX:=Jx H ad d aG (a-1) a (a+1) v Ω Ω Ω av;unfold Sort.medianAdjacent;refine bJ.mk mixed n5 abX aiQ Ψ kD.obj fun aR cE=>?_;unfold PB;have ao:((a:Int)-1)=(a-1:Nat):=Ω
 have aF:((a:Int)+1)=(a+1:Nat):=Ω
 simp[eV,Kv,lE,cN,rS];(with_reducible repeat' first|refine aj ?_|simp);simp only[iy H,H.slc,H.ssc,ig,ao,aF];refine UQ aX (nG H d v) (sF _ _ _) (by simp[aJ,aP,(uJ H aG).1];exact(uJ H aG).2) fun o=>?_;simp;refine WI H ?_;simp[cL,VX,aT,aU,aS]
theorem UR{m:Nat}(h:sb S m)(l:List α):aL.obj m∉cX (S l):=fun hm=>by
 rcases Tm hm with J|J
 ·rw[(h l).1]at J;cases J
 ·rw[(h l).2]at J;cases J
theorem C7{d:Array α}{a b c v n:Nat}(a7:a<n)(ab:b<n)(aq:c<n):(Sort.median lt d a b c v).1<n/\(Sort.median lt d a b c v).2<=v+3:=by have aZ:=Au (lt:=lt) (d:=d) (v:=v) a7 ab;have bm:=Au (lt:=lt) (d:=d) (v:=(Sort.order2 lt d a b v).2.2) aZ.2.1 aq;have bP:=Au (lt:=lt) (d:=d) (v:=(Sort.order2 lt d (Sort.order2 lt d a b v).2.1 c (Sort.order2 lt d a b v).2.2).2.2) aZ.1 bm.1;refine⟨bP.2.1,gZ bP.2.2 ?_⟩;omega
def zA:Sort.Hint->Int
 | .unknown=>0
 | .increasing=>1
 | .decreasing=>2
theorem adq(H:e1 S n g b8 lc b1 lt)(ad:sb S 901)(d:Array α)(aG:d.size=n)(a b:Nat)(pn:a<b)(ab:b<=n):
  bJ ay 263 [eV g b8 lc b1,.int .i64 a,.int .i64 b] (S d.toList) fun r ah=>r= .tuple [.int .i64 (Sort.choosePivot lt d a b).1,.int .i64 (zA (Sort.choosePivot lt d a b).2)]/\ah=S d.toList:=by
 have af:=H.ok d.toList;have au:d.toList.length=n:=by simpa using aG
 have az:∀l m,Pv.look (.loc m) (S l).b=none:=fun l=>(H.ok l).obj.1;have hu:∀l m cs,cy (.loc m) cs (S l).b=(S l).b++[(.loc m,cs)]:=fun l m cs=>kc (az l m);have aw:∀m,aL.loc m∉cX (S d.toList):=j5 af.obj;have gn:∀l,Pv.look (.obj 901) (S l).b=none:=fun l=>(ad l).1;have lf:∀l,Pv.look (.obj 901) (S l).e=none:=fun l=>(ad l).2;have hle:=H.le;have lE:=UR ad d.toList;obtain⟨R,bS⟩:∃R,R=Sort.choosePivot lt d a b:=⟨_,rfl⟩;rw[<-bS];unfold Sort.choosePivot at bS;refine bJ.mk mixed n5 abV aiO Ψ af.obj fun aR cE=>?_;unfold Pz;have xO:∀l D cs,cy (.obj 901) cs ((S l).b++[(.loc 0,D)])=(S l).b++[(.loc 0,D),(.obj 901,cs)]:=fun l D cs=>by rw[A4 (gn l)];rfl
 obtain⟨q,bI⟩:∃q,q=(b-a)/4:=⟨_,rfl⟩;have dt:mj.wrap (((b:Int)-a).tdiv 4)=(q:Nat):=by rw[show((b:Int)-a)=((b-a:Nat):Int) by omega,Int.tdiv_eq_ediv_of_nonneg Ω,ml _ Ω];omega
 simp[eV,hu,xO,aw,lE,cN,az,gn,lf,Pv.look,cy];have dF:∀(t:List (Nat×ai)) (o:List aL) (b0:List (aL×List ai)) (x:Nat) (h:Sort.Hint),Pv.get 6 t= .int .i64 x->Pv.get 7 t= .int .i64 (zA h)->R=(x,h)->(∀k cs,Pv.look k (S d.toList).b=some cs->Pv.look k b0=some cs)->
   cI Mb (S d.toList) (fun r ah=>r= .tuple [.int .i64 R.1,.int .i64 (zA R.2)]/\ah=S d.toList) .ret ⟨t,b0,(S d.toList).e,1,o⟩:=by
  rintro t o b0 x h ae aM rfl fX;refine cI.at (S d.toList) (.inl rfl) af (Same.refl _) fX (fun _ _ aq=>aq) ?_;simp[cL,Mb,aT,aU,aS,ae,aM]
 have zq:∀(D:List ai) (v:Nat) k cs,Pv.look k (S d.toList).b=some cs->Pv.look k ((.loc 0,D)::(e6 S d v).b)=some cs:=fun D v k cs h=>by
  simp only[e6,Pv.look];split
  ·rename_i e;subst e;rw[az]at h;cases h
  ·split
   ·rename_i e;subst e;rw[gn]at h;cases h
   ·exact h
 have Sh:∀{f:Nat} {args:List ai} {r:ai} {v:Nat},(bJ ay f args (e6 S d 0) fun eG dK=>eG=r/\dK=e6 S d v)->aP (inObs (e6 S d 0)) args->∀{t:List (Nat×ai)} {D:List ai} {o:List aL} {cp:Option Nat} {K:bo->Prop},(∀o,K ⟨eM cp r t,(.loc 0,D)::(e6 S d v).b,(S d.toList).e,1,o⟩)->
   cA ay f args ⟨t,(S d.toList).b++[(.loc 0,D),(.obj 901,[.int .i64 0])],(S d.toList).e,1,o⟩ cp K:=by
  intro f args r v aO hp t D o cp K h;refine cA.ob aO (nG H d 0) (fun k cs ae=>?_) (fun _ _ ae=>ae) hp ?_
  ·simp only[e6,Pv.look]at ae;rw[cN];split at ae
   ·rename_i e;subst e;rw[gn];simp[Pv.look];simpa using ae
   ·rw[ae]
  rintro r ah ⟨rfl,rfl⟩;refine⟨sF _ _ _,?_⟩;have ao:bX (e6 S d 0).b ((S d.toList).b++[(.loc 0,D),(.obj 901,[.int .i64 0])])=[(.loc 0,D)]:=by
   rw[iJ];have:bX (e6 S d 0).b (S d.toList).b=[]:=NF _ _ fun k x hm=>by
    have:=uO hm;simp only[e6,Pv.look];split
    ·rfl
    ·exact this
   rw[this];simp[bX,e6,Pv.look,az]
  have aF:bX (e6 S d 0).e (S d.toList).e=[]:=gX _;simp only[ao,aF];exact h _
 have hp:=fun(v:Nat)=>(uJ H aG (v:=v));have f1:((a:Int)+q)=(a+q:Nat):=Ω
 have f2:((a:Int)+q*2)=(a+q*2:Nat):=Ω
 have f3:((a:Int)+q*3)=(a+q*3:Nat):=Ω
 dsimp only at bS;rw[<-bI,Nat.mul_one]at bS;by_cases nQ:b-a<8
 ·have Fm:¬(8:Int)<=(b:Int)-a:=Ω
  (with_reducible repeat' first|refine aj ?_|simp[Fm,dt,hu,xO,aw,lE,cN,az,gn,lf,Pv.look,cy]);rw[f2];refine dF _ _ _ (a+q*2) .increasing rfl rfl (by rw[bS,if_neg Ω];simp) (fun k cs h=>by rw[cN,h])
 ·have Fm:(8:Int)<=(b:Int)-a:=Ω
  by_cases aoO:b-a<50
  ·have JJ:¬(50:Int)<=(b:Int)-a:=Ω
   (with_reducible repeat' first|refine aj ?_|simp[Fm,JJ,dt,hu,xO,aw,lE,cN,az,gn,lf,Pv.look,cy]);simp only[iy H,H.slc,H.ssc,ig,f1,f2,f3];have aX:=Jx H ad d aG (a+q) (a+q*2) (a+q*3) 0 Ω Ω Ω Ω;have bg:=C7 (lt:=lt) (d:=d) (a:=a+q) (b:=a+q*2) (c:=a+q*3) (v:=0) (n:=n) Ω Ω Ω;rw[if_pos Ω,if_neg Ω]at bS;generalize Sort.median lt d (a+q) (a+q*2) (a+q*3) 0=m at aX bg bS;obtain⟨x,v⟩:=m;refine Sh aX (by simp[aJ,aP,(hp 0).1];exact(hp 0).2) fun o=>?_;have xQ:((v:Int)==0)=decide (v=0):=by rw[pN];simp
   have CG:((v:Int)==12)=decide (v=12):=by rw[pN];simp;omega
   simp[Pv.look,e6];rcases(by omega:v=0\/v=12\/(v≠0/\v≠12))with bA|bA|bA
   ·have ae:((v:Int)==0)=true:=by rw[xQ];simp[bA]
    (with_reducible repeat' first|refine aj ?_|simp[ae]);all_goals exact dF _ _ _ x .increasing rfl rfl (by rw[bS];simp[bA]) (zq _ v)
   ·have ae:((v:Int)==0)=false:=by rw[xQ];simp[bA]
    have rY:((v:Int)==12)=true:=by rw[CG];simp[bA]
    (with_reducible repeat' first|refine aj ?_|simp[ae,rY]);all_goals exact dF _ _ _ x .decreasing rfl rfl (by rw[bS];simp[bA]) (zq _ v)
   ·have ae:((v:Int)==0)=false:=by rw[xQ];simp[bA.1]
    have rY:((v:Int)==12)=false:=by rw[CG];simp[bA.2]
    (with_reducible repeat' first|refine aj ?_|simp[ae,rY]);all_goals exact dF _ _ _ x .unknown rfl rfl (by rw[bS];simp[bA]) (zq _ v)
  ·have JJ:(50:Int)<=(b:Int)-a:=Ω
   (with_reducible repeat' first|refine aj ?_|simp[Fm,JJ,dt,hu,xO,aw,lE,cN,az,gn,lf,Pv.look,cy]);simp only[iy H,H.slc,H.ssc,ig,f1,f2,f3];rw[if_pos Ω,if_pos Ω]at bS;have aX:=Jy H ad d aG (a+q) 0 Ω Ω Ω;have CS:=C7 (lt:=lt) (d:=d) (a:=a+q-1) (b:=a+q) (c:=a+q+1) (v:=0) (n:=n) Ω Ω Ω;change (Sort.medianAdjacent lt d (a+q) 0).1<n/\(Sort.medianAdjacent lt d (a+q) 0).2<=0+3 at CS;generalize Sort.medianAdjacent lt d (a+q) 0=m1 at aX CS bS;obtain⟨sv,v1⟩:=m1;simp only at aX CS bS;have bg:=Jy H ad d aG (a+q*2) v1 Ω Ω Ω;have CT:=C7 (lt:=lt) (d:=d) (a:=a+q*2-1) (b:=a+q*2) (c:=a+q*2+1) (v:=v1) (n:=n) Ω Ω Ω;change (Sort.medianAdjacent lt d (a+q*2) v1).1<n/\(Sort.medianAdjacent lt d (a+q*2) v1).2<=v1+3 at CT;generalize Sort.medianAdjacent lt d (a+q*2) v1=m2 at bg CT bS;obtain⟨yK,v2⟩:=m2;simp only at bg CT bS;have b6:=Jy H ad d aG (a+q*3) v2 Ω Ω Ω;have CU:=C7 (lt:=lt) (d:=d) (a:=a+q*3-1) (b:=a+q*3) (c:=a+q*3+1) (v:=v2) (n:=n) Ω Ω Ω;change (Sort.medianAdjacent lt d (a+q*3) v2).1<n/\(Sort.medianAdjacent lt d (a+q*3) v2).2<=v2+3 at CU;generalize Sort.medianAdjacent lt d (a+q*3) v2=m3 at b6 CU bS;obtain⟨sw,v3⟩:=m3;simp only at b6 CU bS;have cT:=Jx H ad d aG sv yK sw v3 CS.1 CT.1 CU.1 Ω;have TI:=C7 (lt:=lt) (d:=d) (v:=v3) CS.1 CT.1 CU.1;generalize Sort.median lt d sv yK sw v3=m4 at cT TI bS;obtain⟨x,v⟩:=m4;simp only at cT TI bS;refine Sh aX (by simp[aJ,aP,(hp 0).1];exact(hp 0).2) fun o=>?_;simp[Pv.look];simp only[iy H,H.slc,H.ssc,ig,f1,f2,f3];refine Df bg (nG H d v1) (sF _ _ _) (by simp[aJ,aP,(hp v1).1];exact(hp v1).2) fun o=>?_;simp[Pv.look];simp only[iy H,H.slc,H.ssc,ig,f1,f2,f3];refine Df b6 (nG H d v2) (sF _ _ _) (by simp[aJ,aP,(hp v2).1];exact(hp v2).2) fun o=>?_;simp[Pv.look];simp only[iy H,H.slc,H.ssc,ig,f1,f2,f3];refine Df cT (nG H d v3) (sF _ _ _) (by simp[aJ,aP,(hp v3).1];exact(hp v3).2) fun o=>?_;have xQ:((v:Int)==0)=decide (v=0):=by rw[pN];simp
   have CG:((v:Int)==12)=decide (v=12):=by rw[pN];simp;omega
   simp[Pv.look,e6];rcases(by omega:v=0\/v=12\/(v≠0/\v≠12))with bA|bA|bA
   ·have ae:((v:Int)==0)=true:=by rw[xQ];simp[bA]
    (with_reducible repeat' first|refine aj ?_|simp[ae]);all_goals exact dF _ _ _ x .increasing rfl rfl (by rw[bS];simp[bA]) (zq _ v)
   ·have ae:((v:Int)==0)=false:=by rw[xQ];simp[bA]
    have rY:((v:Int)==12)=true:=by rw[CG];simp[bA]
    (with_reducible repeat' first|refine aj ?_|simp[ae,rY]);all_goals exact dF _ _ _ x .decreasing rfl rfl (by rw[bS];simp[bA]) (zq _ v)
   ·have ae:((v:Int)==0)=false:=by rw[xQ];simp[bA.1]
    have rY:((v:Int)==12)=false:=by rw[CG];simp[bA.2]
    (with_reducible repeat' first|refine aj ?_|simp[ae,rY]);all_goals exact dF _ _ _ x .unknown rfl rfl (by rw[bS];simp[bA]) (zq _ v)
end
section
open Go Go.Pv
variable {α:Type} [Inhabited α] {S:List α->cM} {n g b8:Nat} {lc b1:List ai} {lt:α->α->Bool}
theorem alU:∀x:Nat,x<256->((([0,1,2,2,3,3,3,3,4,4,4,4,4,4,4,4,5,5,5,5,5,5,5,5,5,5,5,5,5,5,5,5,6,6,6,6,6,6,6,6,6,6,6,6,6,6,6,6,6,6,6,6,6,6,6,6,6,6,6,6,6,6,6,6,7,7,7,7,7,7,7,7,7,7,7,7,7,7,7,7,7,7,7,7,7,7,7,7,7,7,7,7,7,7,7,7,7,7,7,7,7,7,7,7,7,7,7,7,7,7,7,7,7,7,7,7,7,7,7,7,7,7,7,7,7,7,7,7,8,8,8,8,8,8,8,8,8,8,8,8,8,8,8,8,8,8,8,8,8,8,8,8,8,8,8,8,8,8,8,8,8,8,8,8,8,8,8,8,8,8,8,8,8,8,8,8,8,8,8,8,8,8,8,8,8,8,8,8,8,8,8,8,8,8,8,8,8,8,8,8,8,8,8,8,8,8,8,8,8,8,8,8,8,8,8,8,8,8,8,8,8,8,8,8,8,8,8,8,8,8,8,8,8,8,8,8,8,8,8,8,8,8,8,8,8,8,8,8,8,8,8,8,8,8,8,8]:List c4)[x]?).getD 0).toNat=Sort.bitsLen x:=by decide+kernel
theorem BP(x:Int):x.fdiv (2 ^ (min 32 hl.bits))=x/4294967296:=by rw[show(2:Int) ^ (min 32 hl.bits)=4294967296 from by decide,Int.fdiv_eq_ediv_of_nonneg _ Ω]
theorem BO(x:Int):x.fdiv (2 ^ (min 16 hl.bits))=x/65536:=by rw[show(2:Int) ^ (min 16 hl.bits)=65536 from by decide,Int.fdiv_eq_ediv_of_nonneg _ Ω]
theorem BQ(x:Int):x.fdiv (2 ^ (min 8 hl.bits))=x/256:=by rw[show(2:Int) ^ (min 8 hl.bits)=256 from by decide,Int.fdiv_eq_ediv_of_nonneg _ Ω]
theorem DZ(x:Nat)(h:x<256):IntKind.u8.wrap (x:Int)=x:=by simp[sy,nD,rf];omega
theorem Io(x k:Nat)(h:2 ^ k<=x):Sort.bitsLen x=Sort.bitsLen (x/2 ^ k)+k:=by
 have ae:x≠0:=by have:=Nat.two_pow_pos k;omega
 have bI:x/2 ^ k≠0:=by have:=Nat.div_pos h (Nat.two_pow_pos k);omega
 unfold Sort.bitsLen;rw[if_neg ae,if_neg bI];have au:=Nat.log2_lt ae (k:=Nat.log2 (x/2 ^ k)+k+1);have J:Nat.log2 (x/2 ^ k)+k<=Nat.log2 x:=by
  rw[Nat.le_log2 ae,Nat.pow_add];have:=Nat.log2_self_le bI;calc 2 ^ (x/2 ^ k).log2*2 ^ k<=(x/2 ^ k)*2 ^ k:=qq _ this
   _<=x:=Nat.div_mul_le_self x _
 have U:Nat.log2 x<Nat.log2 (x/2 ^ k)+k+1:=by rw[au,show Nat.log2 (x/2 ^ k)+k+1=(Nat.log2 (x/2 ^ k)+1)+k by omega,Nat.pow_add];have:=Nat.lt_log2_self (n:=x/2 ^ k);exact(Nat.div_lt_iff_lt_mul (Nat.two_pow_pos k)).1 this
 omega
set_option maxRecDepth 20000 in
theorem amf(x:Nat)(ae:x<1099511627776):bZ ay 259 [.int .u64 x] (.int .i64 (Sort.bitsLen x)):=by
 refine bZ.mk mixed n5 abS aiK Ψ d7 fun aR=>?_;unfold Pw;have aI:=alU;generalize R9:([0,1,2,2,3,3,3,3,4,4,4,4,4,4,4,4,5,5,5,5,5,5,5,5,5,5,5,5,5,5,5,5,6,6,6,6,6,6,6,6,6,6,6,6,6,6,6,6,6,6,6,6,6,6,6,6,6,6,6,6,6,6,6,6,7,7,7,7,7,7,7,7,7,7,7,7,7,7,7,7,7,7,7,7,7,7,7,7,7,7,7,7,7,7,7,7,7,7,7,7,7,7,7,7,7,7,7,7,7,7,7,7,7,7,7,7,7,7,7,7,7,7,7,7,7,7,7,7,8,8,8,8,8,8,8,8,8,8,8,8,8,8,8,8,8,8,8,8,8,8,8,8,8,8,8,8,8,8,8,8,8,8,8,8,8,8,8,8,8,8,8,8,8,8,8,8,8,8,8,8,8,8,8,8,8,8,8,8,8,8,8,8,8,8,8,8,8,8,8,8,8,8,8,8,8,8,8,8,8,8,8,8,8,8,8,8,8,8,8,8,8,8,8,8,8,8,8,8,8,8,8,8,8,8,8,8,8,8,8,8,8,8,8,8,8,8,8,8,8,8,8,8,8,8,8,8]:List c4)=tab at aI⊢;have zo:tab.length=256:=by rw[<-R9];rfl
 clear R9;simp[zo];have ab:∀y:Nat,y<256->Sort.bitsLen y<=8:=by decide+kernel
 have afF:4294967296<=x->Sort.bitsLen x=Sort.bitsLen (x/4294967296)+32:=fun h=>Io x 32 h;have S2:∀y,65536<=y->Sort.bitsLen y=Sort.bitsLen (y/65536)+16:=fun y h=>Io y 16 h;have S6:∀y,256<=y->Sort.bitsLen y=Sort.bitsLen (y/256)+8:=fun y h=>Io y 8 h;by_cases J:4294967296<=x
 ·have pk:(4294967296:Int)<=x:=Ω
  have g1:¬(65536:Int)<=(x:Int)/4294967296:=Ω
  have g3:¬(256:Int)<=(x:Int)/4294967296:=Ω
  (with_reducible repeat' first|refine aj ?_|simp[pk,g1,g3,BP,BO,BQ,zo]);have aM:x/4294967296<256:=Ω
  have lB:=ab _ aM;have gh:(x:Int)/4294967296=((x/4294967296:Nat):Int):=Ω
  rw[gh,DZ _ aM,Int.toNat_natCast];refine⟨Ω,?_⟩;have e:=aI _ aM;rw[e,ml _ Ω];refine⟨by unfold p5;omega,?_⟩;simp[bn,AE,aT,aU,aS];try((rw[afF J])<;>omega)
 ·have pk:¬(4294967296:Int)<=x:=Ω
  by_cases U:65536<=x
  ·have g2:(65536:Int)<=x:=Ω
   by_cases al:256<=x/65536
   ·have g3:(256:Int)<=(x:Int)/65536:=Ω
    (with_reducible repeat' first|refine aj ?_|simp[pk,g2,g3,BP,BO,BQ,zo]);have aM:x/65536/256<256:=Ω
    have lB:=ab _ aM;have gh:(x:Int)/65536/256=((x/65536/256:Nat):Int):=Ω
    rw[gh,DZ _ aM,Int.toNat_natCast];refine⟨Ω,?_⟩;have e:=aI _ aM;rw[e,ml _ Ω];refine⟨by unfold p5;omega,?_⟩;simp[bn,AE,aT,aU,aS];try((rw[S2 x U,S6 _ al])<;>omega)
   ·have g3:¬(256:Int)<=(x:Int)/65536:=Ω
    (with_reducible repeat' first|refine aj ?_|simp[pk,g2,g3,BP,BO,BQ,zo]);have aM:x/65536<256:=Ω
    have lB:=ab _ aM;have gh:(x:Int)/65536=((x/65536:Nat):Int):=Ω
    rw[gh,DZ _ aM,Int.toNat_natCast];refine⟨Ω,?_⟩;have e:=aI _ aM;rw[e,ml _ Ω];refine⟨by unfold p5;omega,?_⟩;simp[bn,AE,aT,aU,aS];try((rw[S2 x U])<;>omega)
  ·have g2:¬(65536:Int)<=x:=Ω
   by_cases al:256<=x
   ·have g3:(256:Int)<=x:=Ω
    (with_reducible repeat' first|refine aj ?_|simp[pk,g2,g3,BP,BO,BQ,zo]);have aM:x/256<256:=Ω
    have lB:=ab _ aM;have gh:(x:Int)/256=((x/256:Nat):Int):=Ω
    rw[gh,DZ _ aM,Int.toNat_natCast];refine⟨Ω,?_⟩;have e:=aI _ aM;rw[e,ml _ Ω];refine⟨by unfold p5;omega,?_⟩;simp[bn,AE,aT,aU,aS];try((rw[S6 x al])<;>omega)
   ·have g3:¬(256:Int)<=x:=Ω
    (with_reducible repeat' first|refine aj ?_|simp[pk,g2,g3,BP,BO,BQ,zo]);have aM:x<256:=Ω
    have lB:=ab _ aM;have gh:(x:Int)=((x:Nat):Int):=Ω
    rw[gh,DZ _ aM,Int.toNat_natCast];refine⟨Ω,?_⟩;have e:=aI _ aM;rw[e,ml _ Ω];refine⟨by unfold p5;omega,?_⟩;simp[bn,AE,aT,aU,aS];try((rw[show Sort.bitsLen x=Sort.bitsLen x from rfl])<;>omega)
theorem ame(x:Nat)(ae:x<1099511627776):bZ ay 209 [.int .u64 x] (.int .i64 (Sort.bitsLen x)):=by refine bZ.mk mixed n5 abR aiJ Ψ d7 fun aR=>?_;unfold Pu;have agV:=amf x ae;exact c0
theorem YV(x:Nat)(ae:x<1099511627776):Sort.bitsLen x<=40:=by
 unfold Sort.bitsLen;split
 ·omega
 ·rename_i h;have:=(Nat.log2_lt h (k:=40)).2 Ω;omega
theorem al2{x:Nat}(h:x≠0):2 ^ Sort.bitsLen x<=2*x/\x<2 ^ Sort.bitsLen x:=by unfold Sort.bitsLen;rw[if_neg h];have J:=Nat.log2_self_le h;have U:=Nat.lt_log2_self (n:=x);rw[Nat.pow_succ];rw[Nat.pow_succ]at U;omega
theorem amQ(x:Nat)(ae:x<1099511627776):bZ ay 279 [.int .i64 x] (.int .u64 (1<<<Sort.bitsLen x:Nat)):=by
 have ab:=YV x ae;have ao:hl.wrap ((x:Nat):Int)=x:=by simp[sy,nD,rf];omega
 have aF:hl.wrap ((Sort.bitsLen x:Nat):Int)=Sort.bitsLen x:=by simp[sy,nD,rf];omega
 refine bZ.mk mixed n5 abZ aiS Ψ d7 fun aR=>?_;unfold PD;simp[ao];refine cA.val Ψ (ame x ae) ?_;simp[ao,aF];simp[bn,VZ,aT,aU,aS];have hm:min (Sort.bitsLen x) hl.bits=Sort.bitsLen x:=by simp[nD];omega
 have bL:2 ^ Sort.bitsLen x<=2 ^ 40:=Nat.pow_le_pow_right Ω ab;rw[hm];have aq:((2:Int) ^ Sort.bitsLen x)=((2 ^ Sort.bitsLen x:Nat):Int):=by simp
 have oC:((1<<<Sort.bitsLen x:Nat):Int)=((2 ^ Sort.bitsLen x:Nat):Int):=by rw[Nat.one_shiftLeft]
 have oD:hl.wrap ((2:Int) ^ Sort.bitsLen x)=((1<<<Sort.bitsLen x:Nat):Int):=by rw[aq,oC];generalize 2 ^ Sort.bitsLen x=y at bL;simp[sy,nD,rf];omega
 simpa using oD
def mV(r:Nat):cM:=⟨[(.obj 902,[.int .u64 r])],[]⟩
theorem H6(r:Nat):dN (mV r):=by unfold mV;exact(dN.of ⟨by intro m;simp[Pv.look],by intro m;simp[Pv.look]⟩ f8 f8)
theorem NS(a b:Nat):Same (mV a) (mV b):=⟨fun k=>by simp only[mV,Pv.look];split<;>rfl,fun _=>rfl⟩
theorem Iq(a b:Nat)(a7:a<18446744073709551616)(ab:b<18446744073709551616):hl.wrap ((lS hl.bits (a:Int) ^^^ lS hl.bits (b:Int)).toNat:Int)=(a ^^^ b:Nat):=by
 have al:a ^^^ b<18446744073709551616:=Nat.xor_lt_two_pow (n:=64) a7 ab;have e:(lS hl.bits (a:Int) ^^^ lS hl.bits (b:Int)).toNat=a ^^^ b:=by
  rw[BitVec.toNat_xor,BitVec.toNat_ofInt,BitVec.toNat_ofInt];have ao:((a:Int)%(2 ^ hl.bits:Nat)).toNat=a:=by simp[nD];omega
  have aF:((b:Int)%(2 ^ hl.bits:Nat)).toNat=b:=by simp[nD];omega
  rw[ao,aF]
 rw[e];generalize a ^^^ b=c at al;simp[sy,nD,rf];omega
theorem alb(r:Nat):hl.wrap ((r:Int)*2 ^ (min 13 hl.bits))=(r*8192%18446744073709551616:Nat):=by simp[sy,nD,rf]
theorem alc(r:Nat):hl.wrap ((r:Int)*2 ^ (min 17 hl.bits))=(r*131072%18446744073709551616:Nat):=by simp[sy,nD,rf]
theorem ald(r:Nat):((r:Int)).fdiv (2 ^ (min 7 hl.bits))=(r/128:Nat):=by rw[show(2:Int) ^ (min 7 hl.bits)=128 from by decide,Int.fdiv_eq_ediv_of_nonneg _ Ω];omega
theorem adl(r:Nat)(aK:r<18446744073709551616):bJ ay 280 [.ptr (.obj 902) 0] (mV r) fun eG ah=>eG= .int .u64 (Sort.xorNextN r)/\ah=mV (Sort.xorNextN r):=by
 have af:=H6 r;unfold mV at af⊢;refine bJ.mk mixed n5 acb ai4 Ψ af.obj fun aR cE=>?_;unfold PQ;obtain⟨m1,SF⟩:∃m,m=r*8192%18446744073709551616:=⟨_,rfl⟩;have s1:=alb r;rw[<-SF]at s1;have j3:m1<18446744073709551616:=Ω
 obtain⟨bz,ld⟩:∃m,m=r ^^^ m1:=⟨_,rfl⟩;have t1:=Iq r m1 aK j3;rw[<-ld]at t1;have T5:bz<18446744073709551616:=by rw[ld];exact Nat.xor_lt_two_pow (n:=64) aK j3
 obtain⟨m2,SG⟩:∃m,m=bz/128:=⟨_,rfl⟩;have s2:=ald bz;rw[<-SG]at s2;have gT:m2<18446744073709551616:=Ω
 obtain⟨a2,pY⟩:∃m,m=bz ^^^ m2:=⟨_,rfl⟩;have t2:=Iq bz m2 T5 gT;rw[<-pY]at t2;have agX:a2<18446744073709551616:=by rw[pY];exact Nat.xor_lt_two_pow (n:=64) T5 gT
 obtain⟨m3,SH⟩:∃m,m=a2*131072%18446744073709551616:=⟨_,rfl⟩;have s3:=alc a2;rw[<-SH]at s3;have agW:m3<18446744073709551616:=Ω
 obtain⟨a3,Fq⟩:∃m,m=a2 ^^^ m3:=⟨_,rfl⟩;have t3:=Iq a2 m3 agX agW;rw[<-Fq]at t3;have bS:Sort.xorNextN r=a3:=by unfold Sort.xorNextN;simp only[<-SF,<-ld,<-SG,<-pY,<-SH,<-Fq]
 rw[bS];simp[-BitVec.toNat_xor,-BitVec.ofInt_natCast,s1,t1,s2,t2,s3,t3];have a1:=H6 a3;have bW:=NS r a3;unfold mV at a1 bW;refine cI.at _ (.inl rfl) a1 bW aE aE ?_;simp[cL,V2,aT,aU,aS]
end
section
open Go Go.Pv
variable {α:Type} [Inhabited α] {S:List α->cM} {n g b8:Nat} {lc b1:List ai} {lt:α->α->Bool}
theorem YQ(a b:Nat)(a7:a<18446744073709551616)(ab:b<18446744073709551616):hl.wrap ((lS hl.bits (a:Int)&&& lS hl.bits (b:Int)).toNat:Int)=(a&&& b:Nat):=by
 have al:a&&& b<18446744073709551616:=Nat.lt_of_le_of_lt Nat.and_le_left a7;have e:(lS hl.bits (a:Int)&&& lS hl.bits (b:Int)).toNat=a&&& b:=by
  rw[BitVec.toNat_and,BitVec.toNat_ofInt,BitVec.toNat_ofInt];have ao:((a:Int)%(2 ^ hl.bits:Nat)).toNat=a:=by simp[nD];omega
  have aF:((b:Int)%(2 ^ hl.bits:Nat)).toNat=b:=by simp[nD];omega
  rw[ao,aF]
 rw[e];generalize a&&& b=c at al;simp[sy,nD,rf];omega
def yZ(a len M i0:Nat)(d:Array α):Nat->UInt64×Array α
 |0=>(UInt64.ofNat len,d)
 |k+1=>Sort.breakStep a len M (yZ a len M i0 d k) (i0+k)
theorem YY(d:Array α)(a b:Nat)(h:8<=b-a):Sort.breakPatterns d a b=(yZ a (b-a) (1<<<Sort.bitsLen (b-a)) (a+(b-a)/4*2-1) d 3).2:=by unfold Sort.breakPatterns;simp only[if_pos h,yZ];rfl
theorem XS{ob O:List aL}{ah:cM}(eL:dN ah)(c7:∀k,inObs ah k->k∈O)(uC:∀k∈ob,k∈O){st:bo}{dK:List (Nat×ai)}{L:List (aL×List ai)}{n:Nat}(aI:∀x∈dK,Pv.get x.1 st.t=x.2/\aJ (mc ah n) x.2)(fe:∀x∈L,Pv.look x.1 st.b=some x.2/\mc ah n x.1/\aP (mc ah n) x.2)
  (ab:∀k cs,Pv.look k ah.b=some cs->Pv.look k st.b=some cs) (he:∀k o,Pv.look k ah.e=some o->Pv.look k st.e=some o):iP ob st ⟨dK,L++ah.b,ah.e,n,O⟩:=by
 have l2:∀{k},mc ah n k->¬fresh n O k:=by
  rintro k (h|⟨m,hm,rfl⟩)
  ·exact fun aO=>aO.2 (c7 k h)
  ·intro aO;have:=aO.1;simp at this;omega
 refine⟨fun x ae=>⟨(aI x ae).1,we (fun k ad=>l2 ad) _ (aI x ae).2⟩,fun k cs ad=>?_,fun k o aw=>?_,uC⟩
 ·simp only at ad;rw[cN]at ad;cases au:Pv.look k L with
  |some x=>rw[au]at ad;simp only[dy]at ad;subst ad;obtain⟨J,U,al⟩:=fe _ (ts au);exact⟨J,l2 U,j2 (fun k ad=>l2 ad) _ al⟩
  |none=>rw[au]at ad;exact⟨ab k cs ad,l2 (.inl (.inl (by simp[ad]))),j2 (fun k ad=>l2 (.inl ad)) _ (eL.kb k cs ad)⟩
 ·exact⟨he k o aw,l2 (.inl (.inr (by simp at aw;simp[aw]))),fun xs ae=>j2 (fun k ad=>l2 (.inl ad)) _ (eL.ke k o aw xs ae)⟩
theorem NC{ang β:Type}(s:List (aL×β)):∀(l:List (aL×ang)),(∀k x,(k,x)∈l->Pv.look k s=none)->bX s l=l
 |[],_=>rfl
 |(k,x)::r,h=>by have J:=h k x Ψ;simp only[bX,J];rw[NC s r fun k x ae=>h k x (by simp[ae])]
def js(S:List α->cM)(d:Array α)(r:Nat):cM:=⟨(.obj 902,[.int .u64 r])::(S d.toList).b,(S d.toList).e⟩
theorem Eo(H:e1 S n g b8 lc b1 lt)(d:Array α)(v:Nat):dN (js S d v):=by
 have h:=H.ok d.toList;have jw:∀k,inObs (S d.toList) k->inObs (js S d v) k:=fun k ad=>by
  rcases ad with ad|ad
  ·refine .inl ?_;simp only[js,Pv.look];split
   ·rfl
   ·exact ad
  ·exact .inr ad
 refine⟨⟨fun m=>?_,h.obj.2⟩,fun k cs ad=>?_,fun k o aw xs ae=>j2 jw _ (h.ke k o aw xs ae)⟩
 ·simp[js,Pv.look,h.obj.1 m]
 ·simp only[js,Pv.look]at ad;split at ad
  ·cases ad;simp[aP,aJ]
  ·exact j2 jw _ (h.kb k cs ad)
theorem XR{ob O:List aL}{d2:Array α}{y:Nat}{D:List ai}(eL:dN (js S d2 y))(c7:∀k,inObs (js S d2 y) k->k∈O)(uC:∀k∈ob,k∈O){st:bo}{dK:List (Nat×ai)}(aI:∀x∈dK,Pv.get x.1 st.t=x.2/\aJ (mc (js S d2 y) 1) x.2)(bA:Pv.look (.loc 0) st.b=some D)(B2:aP (mc (js S d2 y) 1) D)
  (ab:∀k cs,Pv.look k (js S d2 y).b=some cs->Pv.look k st.b=some cs) (he:∀k o,Pv.look k (js S d2 y).e=some o->Pv.look k st.e=some o):iP ob st ⟨dK,(.loc 0,D)::(.obj 902,[.int .u64 y])::(S d2.toList).b,(S d2.toList).e,1,O⟩:=
 XS (L:=[(.loc 0,D)]) eL c7 uC aI (fun x ae=>by simp only[kg]at ae;subst ae;exact⟨bA,UP _ _ _ Ω,B2⟩) ab he
theorem adp(H:e1 S n g b8 lc b1 lt)(ad:sb S 902)(d:Array α)(aG:d.size=n)(a b:Nat)(pn:a<=b)(ab:b<=n)(nQ:8<=b-a):
  bJ ay 262 [eV g b8 lc b1,.int .i64 a,.int .i64 b] (S d.toList) fun r ah=>r= .tuple []/\∃cp,ah=S cp.toList/\cp=Sort.breakPatterns d a b/\cp.size=n:=by
 have af:=H.ok d.toList;have au:d.toList.length=n:=by simpa using aG
 have az:∀l m,Pv.look (.loc m) (S l).b=none:=fun l=>(H.ok l).obj.1;have hu:∀l m cs,cy (.loc m) cs (S l).b=(S l).b++[(.loc m,cs)]:=fun l m cs=>kc (az l m);have aw:∀m,aL.loc m∉cX (S d.toList):=j5 af.obj;have gn:∀l,Pv.look (.obj 902) (S l).b=none:=fun l=>(ad l).1;have lf:∀l,Pv.look (.obj 902) (S l).e=none:=fun l=>(ad l).2;have hle:=H.le;have lE:=UR ad d.toList;rw[YY d a b nQ];obtain⟨len,hlen⟩:∃len,len=b-a:=⟨_,rfl⟩;rw[<-hlen];obtain⟨M,il⟩:∃M,M=1<<<Sort.bitsLen len:=⟨_,rfl⟩;rw[<-il];have aoP:len<M/\M<=2*len:=by have:=al2 (x:=len) Ω;rw[il,Nat.one_shiftLeft];omega
 obtain⟨q,bI⟩:∃q,q=len/4:=⟨_,rfl⟩;rw[<-bI];have xO:∀l D cs,cy (.obj 902) cs ((S l).b++[(.loc 0,D)])=(S l).b++[(.loc 0,D),(.obj 902,cs)]:=fun l D cs=>by rw[A4 (gn l)];rfl
 have Td:∀l D x y,cy (.obj 902) y ((S l).b++[(.loc 0,D),(.obj 902,x)])=(S l).b++[(.loc 0,D),(.obj 902,y)]:=fun l D x y=>by rw[A4 (gn l)];simp[cy]
 have el:((b:Int)-a)=(len:Nat):=Ω
 have dt:mj.wrap ((len:Int).tdiv 4)=(q:Nat):=by rw[Int.tdiv_eq_ediv_of_nonneg Ω,ml _ Ω];omega
 have ew:hl.wrap (len:Int)=len:=by simp[sy,nD,rf];omega
 refine bJ.mk mixed n5 abU aiN Ψ af.obj fun aR cE=>?_;unfold Py;have kQ:=amQ len Ω;rw[<-il]at kQ;simp[eV,hu,xO,Td,aw,lE,cN,az,gn,lf,Pv.look,cy,el,ew];have hO:mj.wrap ((len:Int)/4)=(q:Nat):=by rw[ml _ Ω];omega
 ((with_reducible repeat' first|refine aj ?_|refine aC kQ ?_|refine aD kQ ?_|simp[el,ew,dt,hO,hu,xO,Td,aw,lE,cN,az,gn,lf,Pv.look,cy]|((first|apply bD|apply bH|apply bG)<;>intro h<;>try simp at h))<;>(try exact b2));obtain⟨i0,Ck⟩:∃i0,i0=a+q*2-1:=⟨_,rfl⟩;rw[<-Ck];have ZW:((a:Int)+q*2-1)=(i0:Nat):=Ω
 rw[ZW];have c7:∀(cj:Array α) r k,inObs (js S cj r) k->cj.size=n->k∈aL.obj 902::cX (S d.toList):=fun cj r k h eW=>by
  have dT:=H.same d.toList cj.toList au (by simpa using eW);rcases h with h|h
  ·simp only[js,Pv.look]at h;split at h
   ·rename_i e;subst e;simp
   ·exact og _ (tz (.inl (by rw[dT.b];exact h)))
  ·exact og _ (tz (.inr (by rw[dT.e];exact h)))
 have xG:∀(cj:Array α) r,cj.size=n->aP (mc (js S cj r) 1) [.func g lc,.func b8 b1]:=fun cj r eW=>by
  have J:=H.kdata (lk:=cj.toList) (by simpa using eW);have U:aP (inObs (S cj.toList)) [.func g lc,.func b8 b1]:=by simpa[eV,aJ,aP]using J
  refine j2 (fun k ad=>.inl ?_) _ U;rcases ad with ad|ad
  ·refine .inl ?_;simp only[js,Pv.look];split
   ·rfl
   ·exact ad
  ·exact .inr ad
 have ao7:∀(cj:Array α) r D k cs,Pv.look k (js S cj r).b=some cs->Pv.look k ((.loc 0,D)::(js S cj r).b)=some cs:=fun cj r D k cs h=>by
  cases k with
  |loc m=>rw[(Eo H cj r).obj.1 m]at h;cases h
  |obj m=>simpa[Pv.look]using h
 refine oy (fun(x:Nat×UInt64×Array α)=>⟨[(1,.int .i64 a),(3,.ptr (.loc 0) 0),(6,.int .i64 len),(7,.ptr (.obj 902) 0),(8,.int .u64 M),(9,.int .i64 ((i0+x.1:Nat):Int))],[(.loc 0,[.func g lc,.func b8 b1])]++(js S x.2.2 x.2.1.toNat).b,(js S x.2.2 x.2.1.toNat).e,1,aL.obj 902::cX (S d.toList)⟩) (fun x=>3-x.1)
  (fun x=>x.1<=3/\x.2.2.size=n/\yZ a len M i0 d x.1=x.2) (0,UInt64.ofNat len,d) ?_ ⟨Ψ,aG,rfl⟩ ?_
 ·refine XS (Eo H d _) (fun k h=>c7 d _ k h aG) (fun k h=>og _ h) (by simp[aJ,inObs,js,Pv.look,mc]) ?_ ?_ aE
  ·intro x ae;simp only[kg]at ae;subst ae;exact⟨by simp[cN,az,Pv.look],UP _ _ _ Ω,xG d _ aG⟩
  ·intro k cs h;simp only[js,Pv.look]at h;rw[cN];split at h
   ·rename_i e;subst e;rw[gn];have:(UInt64.ofNat len).toNat=len:=by simp;omega
    rw[this]at h;simpa[Pv.look]using h
   ·rw[h]
 rintro⟨k,r,cj⟩ ⟨aX,bg,b6⟩ _;simp only at aX bg b6;have aK:=r.toNat_lt;obtain⟨x,ae⟩:∃x,x=r.toNat:=⟨_,rfl⟩;rw[<-ae]at aK⊢;have uB:Sort.xorNextN x<18446744073709551616:=Sort.xorNextN_lt x Ω;have Kd:(Sort.xorNext r).toNat=Sort.xorNextN x:=by rw[Sort.xorNext_toNat,<-ae]
 obtain⟨y,aM⟩:∃y,y=Sort.xorNextN x:=⟨_,rfl⟩;have ZQ:hl.wrap ((M:Int)-1)=(M-1:Nat):=by simp[sy,nD,rf];omega
 have xx:=YQ y (M-1) Ω Ω;obtain⟨z,bk⟩:∃z,z=y&&& (M-1):=⟨_,rfl⟩;rw[<-bk]at xx;have apf:z<=M-1:=by rw[bk];exact Nat.and_le_right
 have nN:mj.wrap (z:Int)=z:=by rw[ml _ Ω]
 by_cases ae5:k=3
 ·subst ae5;simp[js,Pv.look,hO];((with_reducible repeat' first|refine aj ?_|simp[hO]|((first|apply bD|apply bH|apply bG)<;>intro h<;>try simp at h))<;>(try exact b2));refine cI.at (S cj.toList) (.inr rfl) (H.ok _) (H.same _ _ au (by simpa using bg)) (fun k cs h=>?_) (fun _ _ h=>h) ?_
  ·simp only[Pv.look];split
   ·rename_i e;subst e;rw[az]at h;cases h
   ·split
    ·rename_i e;subst e;rw[gn]at h;cases h
    ·exact h
  ·simp[cL,VW,aT,aU,aS];exact⟨cj,rfl,by rw[b6],bg⟩
 ·have vJ:((i0+k:Nat):Int)<=(a:Int)+q*2+1:=Ω
  have SB:((i0:Int)+k)<=(a:Int)+q*2+1:=Ω
  simp[js,Pv.look,hO,SB,vJ];(with_reducible repeat' first|refine aj ?_|simp[hO,SB,vJ,Pv.look]);have apc:=H.same d.toList cj.toList au (by simpa using bg);have afW:∀(fK:Array α) (v:List ai),bX [(aL.obj 902,v)] (S fK.toList).b=(S fK.toList).b:=fun fK v=>NC _ _ fun k x hm=>by
   have:=uO hm;simp only[Pv.look];split
   ·rename_i e;subst e;rw[gn]at this;cases this
   ·rfl
  refine cA.ob (adl x Ω) (H6 x) (fun k cs h=>?_) (fun k o h=>by simp[mV,Pv.look]at h) (by simp[aJ,aP,inObs,mV,Pv.look]) ?_
  ·simp only[mV,Pv.look]at h⊢;split at h
   ·rename_i e;subst e;simpa using h
   ·cases h
  rintro eG ah ⟨rfl,rfl⟩;refine⟨NS _ _,?_⟩;rw[<-aM];have aaS:bX (mV x).b ((aL.loc 0,[ai.func g lc,ai.func b8 b1])::(aL.obj 902,[ai.int .u64 x])::(S cj.toList).b)=(aL.loc 0,[ai.func g lc,ai.func b8 b1])::(S cj.toList).b:=by simp[mV,bX,Pv.look,afW]
  have aaT:bX (mV x).e (S cj.toList).e=(S cj.toList).e:=NC _ _ fun _ _ _=>rfl;rw[aaS,aaT,show(mV y).b=[(aL.obj 902,[ai.int .u64 y])]from rfl,show(mV y).e=[]from rfl,List.append_nil];have aoN:∀(v:List ai),Pv.look (.obj 902) ((aL.loc 0,[ai.func g lc,ai.func b8 b1])::((S cj.toList).b++[(aL.obj 902,v)]))=some v:=fun v=>by simp[Pv.look,cN,gn]
  have Oo:∀o',o'<len->o'=(if z≥len then z-len else z)->Sort.breakStep a len M (r,cj) (i0+k)=(Sort.xorNext r,Sort.swp cj (i0+k) (a+o')):=fun o' J U=>by unfold Sort.breakStep;simp only[Kd,<-aM,<-bk,<-U]
  have QU:((i0:Int)+k)=((i0+k:Nat):Int):=Ω
  simp only[eM,aL.obj.injEq];simp[-BitVec.toNat_and,-BitVec.ofInt_natCast,ZQ,xx,nN,Pv.look,H.ssc];by_cases apg:len<=z
  ·have KC:(len:Int)<=z:=Ω
   have I4:((a:Int)+(z-len))=((a+(z-len):Nat):Int):=Ω
   ((with_reducible repeat' first|refine aj ?_|simp[KC,Pv.look,H.ssc]|((first|apply bD|apply bH|apply bG)<;>intro h<;>try simp at h))<;>(try exact b2));rw[I4,QU];refine cA.ob (H.swap cj.toList (by simpa using bg) Ω (i0+k) (a+(z-len)) Ω Ω) (H.ok _) (fun bN cs h=>?_) (fun _ _ h=>h) (by simp[aJ,aP,H.ksc cj.toList (by simpa using bg)]) ?_
   ·simp only[Pv.look];split
    ·rename_i e;subst e;rw[az]at h;cases h
    ·rw[cN,h]
   rintro eG ah ⟨rfl,rfl⟩;refine⟨H.same _ _ (by simpa using bg) (by simpa using bg),?_⟩;rw[Gr cj Ω Ω];obtain⟨d2,eK⟩:∃d2,d2=Sort.swp cj (i0+k) (a+(z-len)):=⟨_,rfl⟩;have s2:d2.size=n:=by rw[eK,gL,bg]
   rw[<-eK];have I8:∀v:List ai,bX (S cj.toList).b ((aL.loc 0,[ai.func g lc,ai.func b8 b1])::((S cj.toList).b++[(aL.obj 902,v)]))=[(aL.loc 0,[ai.func g lc,ai.func b8 b1]),(aL.obj 902,v)]:=fun v=>by simp only[bX,az];rw[iJ,gX];simp[bX,gn]
   dsimp only;rw[I8,gX];simp;(with_reducible repeat' first|refine aj ?_|simp);have I0:((i0:Int)+k+1)=((i0+(k+1):Nat):Int):=Ω
   rw[I0];refine bR.whl (k+1,Sort.xorNext r,d2) d8 ⟨by simp;omega,s2,by simp only[yZ,b6];rw[Oo (z-len) Ω (by rw[if_pos Ω]),eK]⟩ ?_;rw[Kd,<-aM];refine XR (Eo H d2 y) (fun k h=>c7 d2 _ k h s2) (fun k h=>og _ h) (by simp[aJ,inObs,js,Pv.look,mc]) (by simp[Pv.look]) (xG d2 _ s2) ?_ (fun _ _ h=>h);intro k cs h;simp only[js,Pv.look]at h⊢;split at h
   ·rename_i e;subst e;simpa using h
   ·rename_i e;split
    ·rename_i aF;subst aF;rw[az]at h;cases h
    ·exact h
  ·have KC:¬(len:Int)<=z:=Ω
   have I4:((a:Int)+z)=((a+z:Nat):Int):=Ω
   ((with_reducible repeat' first|refine aj ?_|simp[KC,Pv.look,H.ssc]|((first|apply bD|apply bH|apply bG)<;>intro h<;>try simp at h))<;>(try exact b2));rw[I4,QU];refine cA.ob (H.swap cj.toList (by simpa using bg) Ω (i0+k) (a+z) Ω Ω) (H.ok _) (fun bN cs h=>?_) (fun _ _ h=>h) (by simp[aJ,aP,H.ksc cj.toList (by simpa using bg)]) ?_
   ·simp only[Pv.look];split
    ·rename_i e;subst e;rw[az]at h;cases h
    ·rw[cN,h]
   rintro eG ah ⟨rfl,rfl⟩;refine⟨H.same _ _ (by simpa using bg) (by simpa using bg),?_⟩;rw[Gr cj Ω Ω];obtain⟨d2,eK⟩:∃d2,d2=Sort.swp cj (i0+k) (a+z):=⟨_,rfl⟩;have s2:d2.size=n:=by rw[eK,gL,bg]
   rw[<-eK];have I8:∀v:List ai,bX (S cj.toList).b ((aL.loc 0,[ai.func g lc,ai.func b8 b1])::((S cj.toList).b++[(aL.obj 902,v)]))=[(aL.loc 0,[ai.func g lc,ai.func b8 b1]),(aL.obj 902,v)]:=fun v=>by simp only[bX,az];rw[iJ,gX];simp[bX,gn]
   dsimp only;rw[I8,gX];simp;(with_reducible repeat' first|refine aj ?_|simp);have I0:((i0:Int)+k+1)=((i0+(k+1):Nat):Int):=Ω
   rw[I0];refine bR.whl (k+1,Sort.xorNext r,d2) d8 ⟨by simp;omega,s2,by simp only[yZ,b6];rw[Oo z Ω (by rw[if_neg Ω]),eK]⟩ ?_;rw[Kd,<-aM];refine XR (Eo H d2 y) (fun k h=>c7 d2 _ k h s2) (fun k h=>og _ h) (by simp[aJ,inObs,js,Pv.look,mc]) (by simp[Pv.look]) (xG d2 _ s2) ?_ (fun _ _ h=>h);intro k cs h;simp only[js,Pv.look]at h⊢;split at h
   ·rename_i e;subst e;simpa using h
   ·rename_i e;split
    ·rename_i aF;subst aF;rw[az]at h;cases h
    ·exact h
end
section
open Go Go.Pv
variable {α:Type} [Inhabited α] {S:List α->cM} {n g b8:Nat} {lc b1:List ai} {lt:α->α->Bool}
theorem e1.fnD{d d2:Array α}(H:e1 S n g b8 lc b1 lt)(J:d.size=n){f:Nat}{args:List ai}{r:ai}(aO:bJ ay f args (S d.toList) fun eG ah=>eG=r/\∃cp,ah=S cp.toList/\cp=d2/\cp.size=n)(ad:aP (inObs (S d.toList)) args){t:List (Nat×ai)}{D:List ai}{o:List aL}{cp:Option Nat}{K:bo->Prop}
  (h:d2.size=n->∀o,K ⟨eM cp r t,(.loc 0,D)::(S d2.toList).b,(S d2.toList).e,1,o⟩):cA ay f args ⟨t,(.loc 0,D)::(S d.toList).b,(S d.toList).e,1,o⟩ cp K:=
 H.call (by simpa using J) (R:=fun eG a6=>eG=r/\a6=d2.toList/\d2.size=n) (aO.mono fun r ah ⟨ao,cp,aF,bM,dt⟩=>⟨cp.toList,aF,ao,by rw[bM],by rw[<-bM];exact dt⟩) (fun r a6 ⟨_,e,h⟩=>by rw[e];simpa using h) ad (by rintro eG a6 ⟨rfl,rfl,U⟩;exact h U _)
attribute [local simp] pg
def Bi(S:List α->cM)(n g b8:Nat)(lc b1:List ai)(lt:α->α->Bool)(m:Nat):Prop:=
 ∀k,k<m->∀(d:Array α),d.size=n->∀a b wj:Nat,b-a<=k->a<=b->b<=n->wj<=1000->Sort.Below lt a b d->
  bJ ay 210 [eV g b8 lc b1,.int .i64 a,.int .i64 b,.int .i64 wj] (S d.toList) fun r ah=>r= .tuple []/\∃cp,ah=S cp.toList/\Sort.PermIn a b d cp/\Sort.SortedIn lt a b cp
structure w7 (S:List α->cM) (n g b8:Nat) (lc b1:List ai) (lt:α->α->Bool) (bp b0 lim:Nat) (d:Array α) (Q:Exit->bo->Prop):Prop where
 k:∀e,e= .normal\/e= .exit 1->∀(a2 b9:Nat) (w v:Bool) (L:Array α) (t:List (Nat×ai)) (o:List aL),L.size=n->a2<=b9->b9<=n->b9-a2<b0-bp->Sort.Below lt a2 b9 L->(∀R,Sort.PermIn a2 b9 L R->Sort.SortedIn lt a2 b9 R->Sort.PermIn bp b0 d R/\Sort.SortedIn lt bp b0 R)->
  Pv.get 1 t= .int .i64 a2->Pv.get 2 t= .int .i64 b9->Pv.get 3 t= .int .i64 lim->Pv.get 4 t= .ptr (.loc 0) 0->Pv.get 8 t= .bool w->Pv.get 9 t= .bool v->Q e ⟨t,(.loc 0,[.func g lc,.func b8 b1])::(S L.toList).b,(S L.toList).e,1,o⟩
 r:∀(R:Array α) t o,Sort.PermIn bp b0 d R->Sort.SortedIn lt bp b0 R->Q .ret ⟨t,(.loc 0,[.func g lc,.func b8 b1])::(S R.toList).b,(S R.toList).e,1,o⟩
theorem w7.mono{bp b0 lim:Nat}{d cp:Array α}{Q:Exit->bo->Prop}(h:w7 S n g b8 lc b1 lt bp b0 lim d Q)(p:Sort.PermIn bp b0 d cp):w7 S n g b8 lc b1 lt bp b0 lim cp Q:=⟨fun e he a2 b9 w v L t o ao aF bM dt hO hI=>h.k e he a2 b9 w v L t o ao aF bM dt hO fun R eR fM=>⟨Sort.permIn_trans _ _ _ bp b0 p (hI R eR fM).1,(hI R eR fM).2⟩,fun R t o eR fM=>h.r R t o (Sort.permIn_trans _ _ _ bp b0 p eR) fM⟩
structure yS (t:List (Nat×ai)) (bp b0 lim:Nat):Prop where
 t1:Pv.get 1 t= .int .i64 bp
 t2:Pv.get 2 t= .int .i64 b0
 t3:Pv.get 3 t= .int .i64 lim
 t4:Pv.get 4 t= .ptr (.loc 0) 0
 t10:Pv.get 10 t= .int .i64 ((b0:Int)-bp)
section
variable {bp b0 lim:Nat} {cK:Array α} {t:List (Nat×ai)} {o:List aL} {ob:List aL} {Q:Exit->bo->Prop}
theorem Vg(H:e1 S n g b8 lc b1 lt)(bt:Sort.SWO lt)(bO:Bi S n g b8 lc b1 lt (b0-bp)){pv:Nat}(T:yS t bp b0 lim)(t11:Pv.get 11 t= .int .i64 pv)(rQ:lim<=1000)(oR:cK.size=n)(p3:bp<=pv/\pv<b0)(b6:b0<=n)(sU:12<b0-bp)(tO:Sort.Below lt bp b0 cK)(h2:w7 S n g b8 lc b1 lt bp b0 lim cK Q):
  cY ay ob Iz Q ⟨t,(.loc 0,[.func g lc,.func b8 b1])::(S cK.toList).b,(S cK.toList).e,1,o⟩:=by
 obtain⟨t1,t2,t3,t4,t10⟩:=T;have ta:∀fK:Array α,fK.size=n->aJ (inObs (S fK.toList)) (eV g b8 lc b1):=fun fK h=>H.kdata (lk:=fK.toList) (by simpa using h);have hle:=H.le;unfold Iz;simp[t1,t2,t4,t11,Pv.look,H.slc,H.ssc];simp only[iy H,H.slc,H.ssc,ig];have qW:=adH H cK oR bp b0 pv p3.1 p3.2 Ω b6;have bI:Sort.partition lt cK bp b0 pv=((Sort.partition lt cK bp b0 pv).1,(Sort.partition lt cK bp b0 pv).2.1,(Sort.partition lt cK bp b0 pv).2.2):=rfl;generalize (Sort.partition lt cK bp b0 pv).1=mid at qW bI;generalize (Sort.partition lt cK bp b0 pv).2.1=ap at qW bI;generalize (Sort.partition lt cK bp b0 pv).2.2=d4 at qW bI;obtain⟨g1,g2,g3,g4,g5,g6,g7⟩:=Sort.round_part bt (Sort.partition_holds lt) p3.1 p3.2 Ω tO bI;refine H.fnD oR qW (by simp[aJ,aP,ta cK oR]) fun s4 o=>?_;have em:((mid:Int)+1)=(mid+1:Nat):=Ω
 simp[t1,t2,t3,t4,t10];by_cases ao8:mid-bp<b0-mid
 ·have J6:(mid:Int)-bp<b0-mid:=Ω
  (with_reducible repeat' first|refine aj ?_|simp[J6,Pv.look,t1,t2,t3,t4,t10]);simp only[iy H,H.slc,H.ssc,ig];refine H.doFn (lk:=d4.toList) (by simpa using s4) (R:=fun a6=> ∃L:Array α,a6=L.toList/\Sort.PermIn bp mid d4 L/\Sort.SortedIn lt bp mid L) ((bO (mid-bp) Ω d4 s4 bp mid lim (eC _) g1 Ω rQ g4).mono fun r ah ⟨aZ,cp,bm,bP,cP⟩=>⟨aZ,cp.toList,bm,cp,rfl,bP,cP⟩) (by rintro a6 ⟨L,rfl,q,_⟩;simpa using q.1.trans s4) (by simp[aP,aJ,ta d4 s4]) ?_;rintro a6 ⟨L,rfl,cU,dq⟩;obtain⟨kK,oT⟩:=g6 L cU dq;simp;(with_reducible repeat' first|refine aj ?_|simp[t1,t2,t3,t4]);rw[em];exact h2.k _ (.inl rfl) (mid+1) b0 _ ap L _ _ (cU.1.trans s4) Ω b6 Ω kK oT Ψ (by simp[t2]) (by simp[t3]) (by simp[t4]) (by simp;rfl) Ψ
 ·have J6:¬(mid:Int)-bp<b0-mid:=Ω
  (with_reducible repeat' first|refine aj ?_|simp[J6,Pv.look,t1,t2,t3,t4,t10]);simp only[iy H,H.slc,H.ssc,ig];rw[em];refine H.doFn (lk:=d4.toList) (by simpa using s4) (R:=fun a6=> ∃L:Array α,a6=L.toList/\Sort.PermIn (mid+1) b0 d4 L/\Sort.SortedIn lt (mid+1) b0 L) ((bO (b0-(mid+1)) Ω d4 s4 (mid+1) b0 lim (eC _) Ω b6 rQ g5).mono fun r ah ⟨aZ,cp,bm,bP,cP⟩=>⟨aZ,cp.toList,bm,cp,rfl,bP,cP⟩) (by rintro a6 ⟨L,rfl,q,_⟩;simpa using q.1.trans s4) (by simp[aP,aJ,ta d4 s4]) ?_;rintro a6 ⟨L,rfl,cU,dq⟩;obtain⟨kK,oT⟩:=g7 L cU dq;simp;(with_reducible repeat' first|refine aj ?_|simp[t1,t2,t3,t4]);exact h2.k _ (.inl rfl) bp mid _ ap L _ _ (cU.1.trans s4) g1 Ω Ω kK oT (by simp[t1]) Ψ (by simp[t3]) (by simp[t4]) (by simp;rfl) Ψ
theorem ajS(H:e1 S n g b8 lc b1 lt)(bt:Sort.SWO lt)(bO:Bi S n g b8 lc b1 lt (b0-bp)){pv:Nat}(T:yS t bp b0 lim)(t11:Pv.get 11 t= .int .i64 pv){w v:Bool}(t8:Pv.get 8 t= .bool w)(t9:Pv.get 9 t= .bool v)(rQ:lim<=1000)(oR:cK.size=n)(p3:bp<=pv/\pv<b0)(b6:b0<=n)(sU:12<b0-bp)(tO:Sort.Below lt bp b0 cK)(h2:w7 S n g b8 lc b1 lt bp b0 lim cK Q):
  cY ay ob Bx Q ⟨t,(.loc 0,[.func g lc,.func b8 b1])::(S cK.toList).b,(S cK.toList).e,1,o⟩:=by
 obtain⟨t1,t2,t3,t4,t10⟩:=id T;have hle:=H.le;unfold Bx;by_cases sX:0<bp
 ·have JN:(0:Int)<bp:=Ω
  simp[t1,t2,t4,t11,sX,JN,Pv.look,H.slc,H.ssc];(with_reducible repeat' first|refine aj ?_|simp[t1,t2,t4,t11,sX,JN,Pv.look,H.slc,H.ssc]);rw[show((bp:Int)-1)=((bp-1:Nat):Int) by omega];refine H.lessA oR (bp-1) pv Ω Ω fun o=>?_;cases jJ:lt cK[bp-1]! cK[pv]!
  ·simp;(with_reducible repeat' first|refine aj ?_|simp[Pv.look,H.slc,H.ssc,t1,t2,t4,t11]);simp only[iy H,H.slc,H.ssc,ig];have qW:=adI H cK oR bp b0 pv p3.1 p3.2 Ω b6;have bI:Sort.partitionEqual lt cK bp b0 pv=((Sort.partitionEqual lt cK bp b0 pv).1,(Sort.partitionEqual lt cK bp b0 pv).2):=rfl;generalize (Sort.partitionEqual lt cK bp b0 pv).1=mid at qW bI;generalize (Sort.partitionEqual lt cK bp b0 pv).2=d4 at qW bI;obtain⟨g1,g2,g3,g4,g5⟩:=Sort.round_eq bt (Sort.partitionEqual_holds lt) sX p3.1 p3.2 Ω tO jJ bI;refine H.fnD oR qW (by simp[aJ,aP,H.kdata (lk:=cK.toList) (by simpa using oR)]) fun s4 o=>?_;simp[t1,t2,t3,t4];exact h2.k _ (.inr rfl) mid b0 w v d4 _ _ s4 g2 b6 Ω g4 g5 Ψ (by simp[t2]) (by simp[t3]) (by simp[t4]) (by simp[t8]) (by simp[t9])
  ·simp;exact Vg H bt bO ⟨by simp[t1],by simp[t2],by simp[t3],by simp[t4],by simp[t10]⟩ (by simp[t11]) rQ oR p3 b6 sU tO h2
 ·have JN:¬(0:Int)<bp:=Ω
  simp[t1,sX];exact Vg H bt bO ⟨by simp[t1],by simp[t2],by simp[t3],by simp[t4],by simp[t10]⟩ (by simp[t11]) rQ oR p3 b6 sU tO h2
theorem LX(H:e1 S n g b8 lc b1 lt)(bt:Sort.SWO lt)(bO:Bi S n g b8 lc b1 lt (b0-bp)){pv:Nat}(T:yS t bp b0 lim)(t11:Pv.get 11 t= .int .i64 pv){h:Nat}(t12:Pv.get 12 t= .int .i64 h){w v:Bool}(t8:Pv.get 8 t= .bool w)(t9:Pv.get 9 t= .bool v)(rQ:lim<=1000)(oR:cK.size=n)(p3:bp<=pv/\pv<b0)(b6:b0<=n)(sU:12<b0-bp)(tO:Sort.Below lt bp b0 cK)(h2:w7 S n g b8 lc b1 lt bp b0 lim cK Q):
  cY ay ob IA Q ⟨t,(.loc 0,[.func g lc,.func b8 b1])::(S cK.toList).b,(S cK.toList).e,1,o⟩:=by
 obtain⟨t1,t2,t3,t4,t10⟩:=id T;have hle:=H.le;unfold IA;have next:∀{d5:Array α} {t o},yS t bp b0 lim->Pv.get 11 t= .int .i64 pv->Pv.get 8 t= .bool w->Pv.get 9 t= .bool v->d5.size=n->Sort.Below lt bp b0 d5->Sort.PermIn bp b0 cK d5->cY ay ob Bx Q ⟨t,(.loc 0,[.func g lc,.func b8 b1])::(S d5.toList).b,(S d5.toList).e,1,o⟩:=fun ao aF bM dt hO hI rq=>ajS H bt bO ao aF bM dt rQ hO p3 b6 sU hI (h2.mono rq)
 have skip:∀{t o},yS t bp b0 lim->Pv.get 11 t= .int .i64 pv->Pv.get 8 t= .bool w->Pv.get 9 t= .bool v->cY ay ob Bx Q ⟨t,(.loc 0,[.func g lc,.func b8 b1])::(S cK.toList).b,(S cK.toList).e,1,o⟩:=fun ao aF bM dt=>next ao aF bM dt oR tO (Sort.permIn_refl _ _ _)
 by_cases aq:(w=true/\v=true)/\h=1
 ·obtain⟨⟨rfl,rfl⟩,rfl⟩:=aq;simp[t1,t2,t4,t8,t9,t12,Pv.look,H.slc,H.ssc];simp only[iy H,H.slc,H.ssc,ig];have qW:=adG H cK oR bp b0 Ω b6 Ω;have bI:=Sort.partialInsertionSort_holds bt cK bp b0 Ω Ω tO;generalize (Sort.partialInsertionSort lt cK bp b0).1=d5 at qW bI;generalize (Sort.partialInsertionSort lt cK bp b0).2=ok at qW bI;refine H.fnD oR qW (by simp[aJ,aP,H.kdata (lk:=cK.toList) (by simpa using oR)]) fun ak0 o=>?_;cases ok
  ·simp;exact next ⟨by simp[t1],by simp[t2],by simp[t3],by simp[t4],by simp[t10]⟩ (by simp[t11]) (by simp[t8]) (by simp[t9]) ak0 (tO.perm Ω bI.1) bI.1
  ·simp;exact h2.r _ _ _ bI.1 (bI.2 rfl)
 ·cases w
  ·simp[t8,t9,t12];exact skip ⟨by simp[t1],by simp[t2],by simp[t3],by simp[t4],by simp[t10]⟩ (by simp[t11]) (by simp[t8]) (by simp[t9])
  ·cases v
   ·simp[t8,t9,t12];exact skip ⟨by simp[t1],by simp[t2],by simp[t3],by simp[t4],by simp[t10]⟩ (by simp[t11]) (by simp[t8]) (by simp[t9])
   ·have J:((h:Int)==1)=false:=by simp at aq⊢;omega
    simp[t8,t9,t12,J];exact skip ⟨by simp[t1],by simp[t2],by simp[t3],by simp[t4],by simp[t10]⟩ (by simp[t11]) (by simp[t8]) (by simp[t9])
theorem Vh(H:e1 S n g b8 lc b1 lt)(gn:sb S 901)(bt:Sort.SWO lt)(bO:Bi S n g b8 lc b1 lt (b0-bp))(T:yS t bp b0 lim){w v:Bool}(t8:Pv.get 8 t= .bool w)(t9:Pv.get 9 t= .bool v)(rQ:lim<=1000)(s1:cK.size=n)(b6:b0<=n)(sU:12<b0-bp)(HV:Sort.Below lt bp b0 cK)(h2:w7 S n g b8 lc b1 lt bp b0 lim cK Q):
  cY ay ob IB Q ⟨t,(.loc 0,[.func g lc,.func b8 b1])::(S cK.toList).b,(S cK.toList).e,1,o⟩:=by
 obtain⟨t1,t2,t3,t4,t10⟩:=id T;have hle:=H.le;have ta:∀fK:Array α,fK.size=n->aJ (inObs (S fK.toList)) (eV g b8 lc b1):=fun fK h=>H.kdata (lk:=fK.toList) (by simpa using h);unfold IB;simp[t1,t2,t4,Pv.look,H.slc,H.ssc];simp only[iy H,H.slc,H.ssc,ig];have uq:=Sort.choosePivot_holds lt cK bp b0 Ω;have KQ:=adq H gn cK s1 bp b0 Ω b6;generalize Sort.choosePivot lt cK bp b0=IQ at KQ uq;obtain⟨p,hint⟩:=IQ;simp only at KQ uq;refine H.fnA s1 s1 KQ (by simp[aJ,aP,ta cK s1]) fun o=>?_;cases hint
 ·simp[zA];exact LX H bt bO ⟨by simp[t1],by simp[t2],by simp[t3],by simp[t4],by simp[t10]⟩ (pv:=p) Ψ (h:=0) Ψ (w:=w) (v:=v) (by simp[t8]) (by simp[t9]) rQ s1 uq b6 sU HV h2
 ·simp[zA];exact LX H bt bO ⟨by simp[t1],by simp[t2],by simp[t3],by simp[t4],by simp[t10]⟩ (pv:=p) Ψ (h:=1) Ψ (w:=w) (v:=v) (by simp[t8]) (by simp[t9]) rQ s1 uq b6 sU HV h2
 ·simp[zA,t1,t2,t4,Pv.look,H.slc,H.ssc];simp only[iy H,H.slc,H.ssc,ig];refine H.fnD s1 (adN H cK s1 bp b0 Ω b6 Ω) (by simp[aJ,aP,ta cK s1]) fun s2 o=>?_;have aK:=Sort.reverseRange_holds cK bp b0 Ω Ω;have QX:((b0:Int)-1-(p-bp))=((b0-1)-(p-bp):Nat):=Ω
  simp[t1,t2,QX];(with_reducible repeat' first|refine aj ?_|simp[QX,t1,t2]);exact LX H bt bO ⟨by simp[t1],by simp[t2],by simp[t3],by simp[t4],by simp[t10]⟩ (pv:=(b0-1)-(p-bp)) Ψ (h:=1) Ψ (w:=w) (v:=v) (by simp[t8]) (by simp[t9]) rQ s2 Ω b6 sU (HV.perm Ω aK) (h2.mono aK)
end
theorem adJ(H:e1 S n g b8 lc b1 lt)(gn:sb S 901)(lf:sb S 902)(bt:Sort.SWO lt)(m:Nat):∀(d:Array α) (aG:d.size=n) (a b wj:Nat) (hm:b-a<=m) (pn:a<=b) (ab:b<=n) (iH:wj<=1000) (B9:Sort.Below lt a b d),
  bJ ay 210 [eV g b8 lc b1,.int .i64 a,.int .i64 b,.int .i64 wj] (S d.toList) fun r ah=>r= .tuple []/\∃cp,ah=S cp.toList/\Sort.PermIn a b d cp/\Sort.SortedIn lt a b cp:=by
 induction m using pO with
 |ind m bO=>
 intro d aG a b wj hm pn ab iH B9;have af:=H.ok d.toList;have au:d.toList.length=n:=by simpa using aG
 have az:∀l m,Pv.look (.loc m) (S l).b=none:=fun l=>(H.ok l).obj.1;have hu:∀l m cs,cy (.loc m) cs (S l).b=(S l).b++[(.loc m,cs)]:=fun l m cs=>kc (az l m);have aw:∀m,aL.loc m∉cX (S d.toList):=j5 af.obj;have hle:=H.le;refine bJ.mk mixed n5 ab4 aiX Ψ af.obj fun aR cE=>?_;unfold PI;simp[eV,hu,aw,cN,az];refine H.loopA au [4] (fun(x:((Nat×Nat×Nat)×Bool×Bool)×Array α)=>[(1,.int .i64 x.1.1.1),(2,.int .i64 x.1.1.2.1),(3,.int .i64 x.1.1.2.2),(8,.bool x.1.2.1),(9,.bool x.1.2.2)]) (·.2) (fun x=>x.1.1.2.1-x.1.1.1) (fun x=>x.2.size=n/\(x.1.1.1<=x.1.1.2.1/\x.1.1.2.1<=n/\x.1.1.2.1-x.1.1.1<=m/\x.1.1.2.2<=1000)/\Sort.Below lt x.1.1.1 x.1.1.2.1 x.2/\∀R,Sort.PermIn x.1.1.1 x.1.1.2.1 x.2 R->Sort.SortedIn lt x.1.1.1 x.1.1.2.1 R->Sort.PermIn a b d R/\Sort.SortedIn lt a b R)
  (((a,b,wj),true,true),d) aG ⟨aG,⟨pn,ab,hm,iH⟩,B9,fun R J U=>⟨J,U⟩⟩ (by simp[cN,az]) aE aE d7 ?_
 rintro⟨⟨⟨bp,b0,uN⟩,am7,wp⟩,cj⟩ ⟨aX,⟨bg,b6,cT,de⟩,KP,Gb⟩;simp only at aX bg b6 cT de KP Gb;have ta:∀fK:Array α,fK.size=n->aJ (inObs (S fK.toList)) (eV g b8 lc b1):=fun fK h=>H.kdata (lk:=fK.toList) (by simpa using h);have Ho:∀(R:Array α) t o,Sort.PermIn bp b0 cj R->Sort.SortedIn lt bp b0 R->cI V0 (S d.toList) (fun r ah=>r= .tuple []/\∃cp,ah=S cp.toList/\Sort.PermIn a b d cp/\Sort.SortedIn lt a b cp) .ret ⟨t,(.loc 0,[.func g lc,.func b8 b1])::(S R.toList).b,(S R.toList).e,1,o⟩:=fun R t o J U=>by refine H.retA au (by rw[J.1];exact aX) (.inl rfl) ⟨rfl,R,rfl,Gb R J U⟩
 simp;by_cases sU:b0-bp<=12
 ·have B0:(b0:Int)-bp<=12:=Ω
  (with_reducible repeat' first|refine aj ?_|simp[B0,Pv.look,H.slc,H.ssc]);simp only[iy H,H.slc,H.ssc,ig];refine H.fnD aX (adx H cj aX bp b0 bg b6) (by simp[aJ,aP,ta cj aX]) fun s2 o=>?_;obtain⟨aZ,bm⟩:=Sort.insertionSort_holds bt cj bp b0 bg Ω;simp;exact Ho _ _ _ aZ bm
 have B0:¬(b0:Int)-bp<=12:=Ω
 by_cases zD:uN=0
 ·have FG:(((uN:Nat):Int)==0)=true:=by simp[zD]
  (with_reducible repeat' first|refine aj ?_|simp[B0,FG,Pv.look,H.slc,H.ssc]);simp only[iy H,H.slc,H.ssc,ig];refine H.fnD aX (adw H cj aX bp b0 bg b6 Ω) (by simp[aJ,aP,ta cj aX]) fun s2 o=>?_;obtain⟨aZ,bm⟩:=Sort.heapSort_holds bt cj bp b0 bg Ω;simp;exact Ho _ _ _ aZ bm
 have FG:(((uN:Nat):Int)==0)=false:=by simp[zD]
 have CJ:Bi S n g b8 lc b1 lt (b0-bp):=fun k ad=>bO k Ω;cases am7
 ·(with_reducible repeat' first|refine aj ?_|simp[B0,FG,Pv.look,H.slc,H.ssc]);simp only[iy H,H.slc,H.ssc,ig];refine H.fnD aX (adp H lf cj aX bp b0 bg b6 Ω) (by simp[aJ,aP,ta cj aX]) fun s1 o=>?_;have Ej:=Sort.breakPatterns_holds cj bp b0 bg Ω;generalize Sort.breakPatterns cj bp b0=d1 at s1 Ej;have el:((uN:Int)-1)=(uN-1:Nat):=Ω
  simp[el];(with_reducible repeat' first|refine aj ?_|simp[el,Pv.look]);refine Vh (lim:=uN-1) H gn bt CJ ⟨Ψ,Ψ,Ψ,Ψ,Ψ⟩ (w:=false) (v:=wp) Ψ Ψ Ω s1 b6 Ω (KP.perm Ω Ej) ⟨?_,fun R t o eR fM=>?_⟩
  ·rintro e he a2 b9 w v L t o ao aF bM dt hO hI t1 t2 t3 t4 t8 t9;rcases he with rfl|rfl<;>simp<;>exact bR.whl (((a2,b9,uN-1),w,v),L) d8 ⟨ao,⟨aF,bM,by simp;omega,by simp;omega⟩,hO,fun R eR fM=>Gb R (Sort.permIn_trans _ _ _ bp b0 Ej (hI R eR fM).1) (hI R eR fM).2⟩ (H.weakC au (by simpa using ao) (by simp[aJ,t1,t2,t3,t4,t8,t9]))
  ·simpa using Ho R t o (Sort.permIn_trans _ _ _ bp b0 Ej eR) fM
 ·(with_reducible repeat' first|refine aj ?_|simp[B0,FG,Pv.look,H.slc,H.ssc]);refine Vh (lim:=uN) H gn bt CJ ⟨Ψ,Ψ,Ψ,Ψ,Ψ⟩ (w:=true) (v:=wp) Ψ Ψ de aX b6 Ω KP ⟨?_,fun R t o eR fM=>?_⟩
  ·rintro e he a2 b9 w v L t o ao aF bM dt hO hI t1 t2 t3 t4 t8 t9;rcases he with rfl|rfl<;>simp<;>exact bR.whl (((a2,b9,uN),w,v),L) d8 ⟨ao,⟨aF,bM,by simp;omega,de⟩,hO,fun R eR fM=>Gb R (hI R eR fM).1 (hI R eR fM).2⟩ (H.weakC au (by simpa using ao) (by simp[aJ,t1,t2,t3,t4,t8,t9]))
  ·simpa using Ho R t o eR fM
end
section
open Go Go.Pv
variable {α:Type} {S:List α->cM} {n g b8:Nat} {lc b1:List ai} {lt:α->α->Bool}
theorem ahh(bt:qu lt){l lk:List α}{a b i:Nat}(nh:a+1<=i)(zy:i<=b)(ab:b<=l.length)(af:e7 lt (a+1) b l){z:α}(bk:l[a]? =some z)(Cn:∀h x,a+1<=h->h<i->l[h]? =some x->lt x z=true)(Cj:∀h x,i<=h->h<b->l[h]? =some x->lt x z=false)
  (aK:∀k,lk[k]? =l[hT a (a+1) i k]?):e7 lt a b lk:=by
 intro p q x y bL jz bI ae aM;rw[aK]at ae aM;simp only[hT]at ae aM;rw[if_neg Ω]at ae aM;by_cases aZ:q<i-1
 ·rw[if_pos Ω]at ae aM;exact af _ _ _ _ Ω Ω Ω ae aM
 ·rw[if_neg Ω]at aM;by_cases bm:q<i
  ·rw[if_pos bm,show q-(i-(a+1))=a by omega,bk]at aM;cases aM;rw[if_pos Ω]at ae;exact bt.asym _ _ (Cn _ _ Ω Ω ae)
  ·rw[if_neg bm]at aM;by_cases cU:p<i-1
   ·rw[if_pos Ω]at ae;exact af _ _ _ _ Ω Ω Ω ae aM
   ·rw[if_neg Ω]at ae;by_cases dq:p<i
    ·rw[if_pos dq,show p-(i-(a+1))=a by omega,bk]at ae;cases ae;exact Cj _ _ Ω bI aM
    ·rw[if_neg dq]at ae;exact af _ _ _ _ Ω Ω bI ae aM
theorem ahi(bt:qu lt){l lk:List α}{a m i:Nat}(nh:a<=i)(ao2:i<=m)(ab:m+1<=l.length)(af:e7 lt a m l){z:α}(bk:l[m]? =some z)(Cn:∀h x,a<=h->h<i->l[h]? =some x->lt z x=false)(Cj:∀h x,i<=h->h<m->l[h]? =some x->lt z x=true)
  (aK:∀k,lk[k]? =l[hT i m (m+1) k]?):e7 lt a (m+1) lk:=by
 intro p q x y bL jz bI ae aM;rw[aK]at ae aM;simp only[hT]at ae aM;by_cases aZ:q<i
 ·rw[if_pos Ω]at ae aM;exact af _ _ _ _ bL jz Ω ae aM
 ·rw[if_neg aZ]at aM;by_cases bm:q=i
  ·rw[if_pos Ω,show q+(m-i)=m by omega,bk]at aM;cases aM;rw[if_pos Ω]at ae;exact Cn _ _ bL Ω ae
  ·rw[if_neg Ω,if_pos Ω]at aM;by_cases cU:p<i
   ·rw[if_pos cU]at ae;exact af _ _ _ _ bL Ω Ω ae aM
   ·rw[if_neg cU]at ae;by_cases dq:p=i
    ·rw[if_pos Ω,show p+(m-i)=m by omega,bk]at ae;cases ae;exact bt.asym _ _ (Cj _ _ Ω Ω aM)
    ·rw[if_neg Ω,if_pos Ω]at ae;exact af _ _ _ _ Ω Ω Ω ae aM
structure Ei (lt:α->α->Bool) (a s m e b mid:Nat) (lk:List α):Prop where
 s1:e7 lt a s lk
 s2:e7 lt s mid lk
 s3:e7 lt mid e lk
 s4:e7 lt e b lk
 cross:∀p q x y,a<=p->p<mid->mid<=q->q<b->lk[p]? =some x->lk[q]? =some y->lt y x=false
theorem e7.le(bt:qu lt){a b:Nat}{l:List α}(h:e7 lt a b l){i j:Nat}{x y:α}(J:a<=i)(U:i<=j)(al:j<b)(ae:l[i]? =some x)(aM:l[j]? =some y):lt y x=false:=by
 by_cases e:i=j
 ·subst e;rw[ae]at aM;cases aM;cases Tg:lt x x with
  |false=>rfl
  |true=>have:=bt.asym _ _ Tg;rw[Tg]at this;exact this
 ·exact h _ _ _ _ J Ω al ae aM
theorem ahp(bt:qu lt){l lk:List α}{a m b mid s e:Nat}(has:a<=s)(dT:s<=m)(ao9:m<=e)(aoZ:e<=b)(ab:b<=l.length)(lG:s+e=mid+m)(J:e7 lt a m l)(U:e7 lt m b l)
  (bT:s=a\/e=b\/ ∃x y,l[s-1]? =some x/\l[e]? =some y/\lt y x=false) (cv:s=m\/e=m\/ ∃x y,l[s]? =some x/\l[e-1]? =some y/\lt y x=true) (aK:∀k,lk[k]? =l[hT s m e k]?):Ei lt a s m e b mid lk:=by
 have g1:∀p,p<s->lk[p]? =l[p]?:=fun p bL=>by rw[aK];simp[hT,bL]
 have g2:∀p,s<=p->p<mid->lk[p]? =l[p+(m-s)]?:=fun p al a1=>by rw[aK];simp only[hT];rw[if_neg Ω,if_pos Ω]
 have g3:∀p,mid<=p->p<e->lk[p]? =l[p-(e-m)]?:=fun p al a1=>by rw[aK];simp only[hT];rw[if_neg Ω,if_neg Ω,if_pos Ω]
 have g4:∀p,e<=p->lk[p]? =l[p]?:=fun p al=>by
  rw[aK];simp only[hT];rw[if_neg Ω];by_cases bW:p<s+(e-m)
  ·omega
  ·rw[if_neg bW,if_neg Ω]
 refine⟨fun p q x y bL jz bI ae aM=>?_,fun p q x y bL jz bI ae aM=>?_,fun p q x y bL jz bI ae aM=>?_,fun p q x y bL jz bI ae aM=>?_,fun p q x y bL afx bI Kh ae aM=>?_⟩
 ·rw[g1 _ Ω]at ae aM;exact J _ _ _ _ bL jz Ω ae aM
 ·rw[g2 _ Ω Ω]at ae aM;exact U _ _ _ _ Ω Ω Ω ae aM
 ·rw[g3 _ Ω Ω]at ae aM;exact J _ _ _ _ Ω Ω Ω ae aM
 ·rw[g4 _ Ω]at ae aM;exact U _ _ _ _ Ω Ω Ω ae aM
 ·by_cases cU:p<s
  ·rw[g1 _ cU]at ae;by_cases aZ:q<e
   ·rw[g3 _ bI aZ]at aM;exact J _ _ _ _ bL Ω Ω ae aM
   ·rw[g4 _ Ω]at aM;rcases bT with bT|bT|⟨u,v,aX,bg,b6⟩
    ·omega
    ·omega
    ·exact bt.ntr _ _ _ (bt.ntr _ _ _ (e7.le bt J bL Ω Ω ae aX) b6) (e7.le bt U Ω Ω Kh bg aM)
  ·rw[g2 _ Ω afx]at ae;by_cases aZ:q<e
   ·rw[g3 _ bI aZ]at aM;rcases cv with cv|cv|⟨u,v,aX,bg,b6⟩
    ·omega
    ·omega
    ·exact bt.ntr _ _ _ (bt.ntr _ _ _ (e7.le bt U Ω Ω Ω ae bg) (bt.asym _ _ b6)) (e7.le bt J Ω Ω Ω aX aM)
   ·rw[g4 _ Ω]at aM;exact U _ _ _ _ Ω Ω Kh ae aM
theorem ahq{a mid b:Nat}(B8:a<=mid){lk j3 gT:List α}(J:gl a mid lk j3)(s1:e7 lt a mid j3)(U:gl mid b j3 gT)(s2:e7 lt mid b gT)(ZF:∀p q x y,a<=p->p<mid->mid<=q->q<b->lk[p]? =some x->lk[q]? =some y->lt y x=false):e7 lt a b gT:=by
 intro p q x y bL jz bI ae aM;by_cases al:q<mid
 ·rw[U.out _ (.inl Ω)]at ae;rw[U.out _ (.inl Ω)]at aM;exact s1 _ _ _ _ bL jz al ae aM
 ·by_cases a1:mid<=p
  ·exact s2 _ _ _ _ a1 jz bI ae aM
  ·rw[U.out _ (.inl Ω)]at ae;refine U.all (fun y=>lt y x=false) (fun k y gn lf aM=>?_) q y Ω bI aM;rw[J.out _ (.inr gn)]at aM;exact J.all (fun x=>lt y x=false) (fun bN x ae3 ae4 ae=>ZF bN k x y ae3 ae4 gn lf ae aM) p x bL Ω ae
end
section
open Go Go.Pv
variable {α:Type} {S:List α->cM} {n g b8:Nat} {lc b1:List ai} {lt:α->α->Bool}
def alL(lt:α->α->Bool)(l:List α)(mid m s0 r0:Nat)(x:Nat×Nat):Prop:=s0<=x.1/\x.1<=x.2/\x.2<=r0/\(x.1=s0\/ ∃u v,l[x.1-1]? =some u/\l[mid+m-x.1]? =some v/\lt v u=false)/\(x.2=r0\/ ∃u v,l[x.2]? =some u/\l[mid+m-x.2-1]? =some v/\lt v u=true)
attribute [local simp] pg
def Ep(S:List α->cM)(n g b8:Nat)(lc b1:List ai)(lt:α->α->Bool)(d:Nat):Prop:=
 ∀(l:List α) (a m b:Nat),l.length=n->b-a<=d->a<m->m<b->b<=n->e7 lt a m l->e7 lt m b l->
  bJ ay 277 [eV g b8 lc b1,.int .i64 a,.int .i64 m,.int .i64 b] (S l) fun r ah=>r= .tuple []/\∃a6,ah=S a6/\gl a b l a6/\e7 lt a b a6
def Er(S:List α->cM)(g b8:Nat)(lc b1:List ai)(lt:α->α->Bool)(a b:Nat)(l:List α)(Q:Exit->bo->Prop):Prop:=∀gT t o,gl a b l gT->e7 lt a b gT->Q .normal ⟨t,(.loc 0,[.func g lc,.func b8 b1])::(S gT).b,(S gT).e,1,o⟩
section
variable {a m b mid i e d:Nat} {l:List α} {t:List (Nat×ai)} {o:List aL} {ob:List aL} {Q:Exit->bo->Prop}
theorem alr(H:e1 S n g b8 lc b1 lt)(bO:Ep S n g b8 lc b1 lt d)(t3:Pv.get 3 t= .int .i64 b)(t4:Pv.get 4 t= .ptr (.loc 0) 0)(t16:Pv.get 16 t= .int .i64 mid)(t22:Pv.get 22 t= .int .i64 e)(au:l.length=n)(J:mid<=e)(U:e<=b)(ab:b<=n)(aG:b-mid<=d)(S3:e7 lt mid e l)(S4:e7 lt e b l)(h2:Er S g b8 lc b1 lt mid b l Q):
  cY ay ob EL Q ⟨t,(.loc 0,[.func g lc,.func b8 b1])::(S l).b,(S l).e,1,o⟩:=by
 unfold EL;by_cases lB:mid<e/\e<b
 ·simp[t3,t4,t16,t22,lB.1,lB.2,Pv.look];simp only[iy H,H.slc,H.ssc,ig];refine H.doFn au (bO l mid e b au aG lB.1 lB.2 ab S3 S4) (fun a6 h=>by rw[h.1.length];exact au) (by simp[aP,aJ,H.kdata au]) ?_;rintro gT ⟨k2,z2⟩;simp;exact h2 _ _ _ k2 z2
 ·have qQ:e7 lt mid b l:=by
   by_cases po:mid<e
   ·rwa[show e=b by omega]at S3
   ·rwa[show e=mid by omega]at S4
  by_cases po:mid<e
  ·have aev:¬e<b:=Ω
   simp[t3,t16,t22,po,aev];exact h2 _ _ _ (.refl _) qQ
  ·simp[t16,t22,po];exact h2 _ _ _ (.refl _) qQ
theorem als(H:e1 S n g b8 lc b1 lt)(bO:Ep S n g b8 lc b1 lt d)(t1:Pv.get 1 t= .int .i64 a)(t3:Pv.get 3 t= .int .i64 b)(t4:Pv.get 4 t= .ptr (.loc 0) 0)(t16:Pv.get 16 t= .int .i64 mid)(t18:Pv.get 18 t= .int .i64 i)(t22:Pv.get 22 t= .int .i64 e)(au:l.length=n)(bA:a<=i/\i<=mid/\a<=m)(J:mid<=e)(U:e<=b)(ab:b<=n)(aG:b-mid<=d)(mC:mid-a<=d)(il:Ei lt a i m e b mid l)(h2:Er S g b8 lc b1 lt a b l Q):
  cY ay ob EM Q ⟨t,(.loc 0,[.func g lc,.func b8 b1])::(S l).b,(S l).e,1,o⟩:=by
 unfold EM;have next:∀{j3 t o},Pv.get 3 t= .int .i64 b->Pv.get 4 t= .ptr (.loc 0) 0->Pv.get 16 t= .int .i64 mid->Pv.get 22 t= .int .i64 e->j3.length=n->gl a mid l j3->e7 lt a mid j3->cY ay ob EL Q ⟨t,(.loc 0,[.func g lc,.func b8 b1])::(S j3).b,(S j3).e,1,o⟩:=fun ao aF bM dt xH cU dq=>by
  refine alr H bO ao aF bM dt xH J U ab aG (fun p q x y J U al ae aM=>?_) (fun p q x y J U al ae aM=>?_) fun gT t o aZ bm=>?_
  ·rw[cU.out _ (.inr J)]at ae;rw[cU.out _ (.inr Ω)]at aM;exact il.s3 p q x y J U al ae aM
  ·rw[cU.out _ (.inr Ω)]at ae;rw[cU.out _ (.inr Ω)]at aM;exact il.s4 p q x y J U al ae aM
  ·exact h2 gT t o ((cU.mono Ω Ω).trans (aZ.mono Ω Ω)) (ahq Ω cU dq aZ bm il.cross)
 by_cases ld:a<i/\i<mid
 ·simp[t1,t4,t16,t18,ld.1,ld.2,Pv.look];simp only[iy H,H.slc,H.ssc,ig];refine H.doFn au (bO l a i mid au mC ld.1 ld.2 Ω il.s1 il.s2) (fun a6 h=>by rw[h.1.length];exact au) (by simp[aP,aJ,H.kdata au]) ?_;rintro j3 ⟨cU,dq⟩;simp;exact next (by simp[t3]) (by simp[t4]) (by simp[t16]) (by simp[t22]) (by rw[cU.length];exact au) cU dq
 ·have dq:e7 lt a mid l:=by
   by_cases pY:a<i
   ·have:=il.s1;rwa[show i=mid by omega]at this
   ·have:=il.s2;rwa[show i=a by omega]at this
  by_cases pY:a<i
  ·have Fq:¬i<mid:=Ω
   simp[t1,t16,t18,pY,Fq];exact next (by simp[t3]) (by simp[t4]) (by simp[t16]) (by simp[t22]) au (.refl _) dq
  ·simp[t1,t18,pY];exact next (by simp[t3]) (by simp[t4]) (by simp[t16]) (by simp[t22]) au (.refl _) dq
theorem alu(H:e1 S n g b8 lc b1 lt)(bO:Ep S n g b8 lc b1 lt d)(t1:Pv.get 1 t= .int .i64 a)(t2:Pv.get 2 t= .int .i64 m)(t3:Pv.get 3 t= .int .i64 b)(t4:Pv.get 4 t= .ptr (.loc 0) 0)(t16:Pv.get 16 t= .int .i64 mid)(t18:Pv.get 18 t= .int .i64 i)(t22:Pv.get 22 t= .int .i64 e)(au:l.length=n)(bA:a<=i/\i<=mid/\a<=m)(J:mid<=e)(U:e<=b)(ab:b<=n)(aG:b-mid<=d)(mC:mid-a<=d)(SI:∀lk:List α,(∀k,lk[k]? =l[hT i m e k]?)->Ei lt a i m e b mid lk)(h2:Er S g b8 lc b1 lt a b l Q):
  cY ay ob IC Q ⟨t,(.loc 0,[.func g lc,.func b8 b1])::(S l).b,(S l).e,1,o⟩:=by
 unfold IC;have next:∀{lk t o},Pv.get 1 t= .int .i64 a->Pv.get 3 t= .int .i64 b->Pv.get 4 t= .ptr (.loc 0) 0->Pv.get 16 t= .int .i64 mid->Pv.get 18 t= .int .i64 i->Pv.get 22 t= .int .i64 e->lk.length=n->Ei lt a i m e b mid lk->gl a b l lk->cY ay ob EM Q ⟨t,(.loc 0,[.func g lc,.func b8 b1])::(S lk).b,(S lk).e,1,o⟩:=fun ao aF bM dt hO hI h3 il aes=>als H bO ao aF bM dt hO hI h3 bA J U ab aG mC il fun gT t o aZ bm=>h2 gT t o (aes.trans aZ) bm
 by_cases FT:i<m/\m<e
 ·simp[t2,t4,t18,t22,FT.1,FT.2,Pv.look];simp only[iy H,H.slc,H.ssc,ig];refine H.doFn au (adO H l au i m e FT.1 FT.2 Ω) (fun a6 h=>by rw[h.1.length];exact au) (by simp[aP,aJ,H.kdata au]) ?_;rintro lk ⟨aZ,bm⟩;simp;exact next (by simp[t1]) (by simp[t3]) (by simp[t4]) (by simp[t16]) (by simp[t18]) (by simp[t22]) (by rw[aZ.length];exact au) (SI lk bm) (aZ.mono Ω Ω)
 ·have il:=SI l (fun k=>by
   congr 1;simp only[hT];repeat' split
   all_goals omega)
  by_cases mF:i<m
  ·have afA:¬m<e:=Ω
   simp[t2,t18,t22,mF,afA];exact next (by simp[t1]) (by simp[t3]) (by simp[t4]) (by simp[t16]) (by simp[t18]) (by simp[t22]) au il (.refl _)
  ·simp[t2,t18,mF];exact next (by simp[t1]) (by simp[t3]) (by simp[t4]) (by simp[t16]) (by simp[t18]) (by simp[t22]) au il (.refl _)
theorem WV{bb:List (aL×List ai)}(H:e1 S n g b8 lc b1 lt)(rJ:Pv.look (.loc 0) bb=some [.func g lc,.func b8 b1])(cE:∀k cs,Pv.look k (S l).b=some cs->Pv.look k bb=some cs)(bt:qu lt)(bO:Ep S n g b8 lc b1 lt d){s0 r0:Nat}(t1:Pv.get 1 t= .int .i64 a)(t2:Pv.get 2 t= .int .i64 m)(t3:Pv.get 3 t= .int .i64 b)(t4:Pv.get 4 t= .ptr (.loc 0) 0)(t16:Pv.get 16 t= .int .i64 mid)(t17:Pv.get 17 t= .int .i64 ((mid:Int)+m))(t18:Pv.get 18 t= .int .i64 s0)(t19:Pv.get 19 t= .int .i64 r0)(au:l.length=n)(bA:a<m/\m<b/\mid=(a+b)/2)(J:mid<m/\s0=mid+m-b/\r0=mid\/m<=mid/\s0=a/\r0=m)(ab:b<=n)(aG:b-a<=d+1)(kD:e7 lt a m l)(ps:e7 lt m b l)(h2:Er S g b8 lc b1 lt a b l Q):
  cY ay (cX (S l)) ID Q ⟨t,bb,(S l).e,1,o⟩:=by
 have hle:=H.le;unfold ID;simp[t17];(with_reducible repeat' first|refine aj ?_|simp[t17]);refine oy (fun(x:Nat×Nat)=>⟨[(1,.int .i64 a),(2,.int .i64 m),(3,.int .i64 b),(4,.ptr (.loc 0) 0),(16,.int .i64 mid),(17,.int .i64 (mid+m)),(20,.int .i64 (mid+m-1)),(18,.int .i64 x.1),(19,.int .i64 x.2)],(.loc 0,[.func g lc,.func b8 b1])::(S l).b,(S l).e,1,cX (S l)⟩) (fun x=>x.2-x.1)
  (alL lt l mid m s0 r0) (s0,r0) (H.weak au au (by simp[aJ,t1,t2,t3,t4,t16,t17,t18,t19]) rJ cE fun _ _ h=>h) ⟨Ψ,by simp;omega,Ψ,.inl rfl,.inl rfl⟩ ?_
 rintro⟨i,j⟩ ⟨aX,bg,b6,cT,de⟩ _;simp only at aX bg b6 cT de;have oJ:=Fs i j Ω;by_cases lD:i<j
 ·simp[lD];(with_reducible repeat' first|refine aj ?_|simp[Pv.look]);obtain⟨c,aq⟩:∃c,c=(i+j)/2:=⟨_,rfl⟩;rw[<-aq]at oJ;simp only[oJ];(with_reducible repeat' first|refine aj ?_|simp[Pv.look]);obtain⟨u,Kw⟩:∃u,l[c]? =some u:=⟨_,cr Ω⟩;obtain⟨v,Kx⟩:∃v,l[mid+m-1-c]? =some v:=⟨_,cr Ω⟩;have dt:((mid:Int)+m-1-c)=(mid+m-1-c:Nat):=Ω
  simp only[H.slc,dt];refine H.doLess au (mid+m-1-c) c Kx Kw ?_;simp;cases r2:lt v u with
  |false=>simp;(with_reducible repeat' first|refine aj ?_|simp);refine bR.whl (c+1,j) d8 ⟨by simp;omega,by simp;omega,b6,.inr ⟨u,v,by simpa using Kw,?_,r2⟩,de⟩ (H.weakC au au d7);simp only;rw[show mid+m-(c+1)=mid+m-1-c by omega];exact Kx
  |true=>simp;(with_reducible repeat' first|refine aj ?_|simp);refine bR.whl (i,c) d8 ⟨aX,by simp;omega,by simp;omega,cT,.inr ⟨u,v,Kw,?_,r2⟩⟩ (H.weakC au au d7);simp only;rw[show mid+m-c-1=mid+m-1-c by omega];exact Kx
 ·obtain rfl:i=j:=Ω
  obtain⟨e,he⟩:∃e,e=mid+m-i:=⟨_,rfl⟩;have hO:((mid:Int)+m-i)=(e:Nat):=Ω
  have bT:i=a\/e=b\/ ∃x y,l[i-1]? =some x/\l[e]? =some y/\lt y x=false:=by
   rcases cT with cT|⟨u,v,aZ,bm,bP⟩
   ·omega
   ·exact .inr (.inr ⟨u,v,aZ,by rw[he];exact bm,bP⟩)
  have cv:i=m\/e=m\/ ∃x y,l[i]? =some x/\l[e-1]? =some y/\lt y x=true:=by
   rcases de with de|⟨u,v,aZ,bm,bP⟩
   ·omega
   ·exact .inr (.inr ⟨u,v,aZ,by rw[he];exact bm,bP⟩)
  simp[lD];(with_reducible repeat' first|refine aj ?_|simp);rw[hO];exact alu H bO (a:=a) (m:=m) (b:=b) (mid:=mid) (i:=i) (e:=e) Ψ Ψ Ψ Ψ Ψ Ψ Ψ au Ω Ω Ω ab Ω Ω (fun lk aK=>ahp bt Ω Ω Ω Ω Ω Ω kD ps bT cv aK) h2
end
theorem RP(H:e1 S n g b8 lc b1 lt)(bt:qu lt)(d:Nat):∀(l:List α) (a m b:Nat),l.length=n->b-a<=d->a<m->m<b->b<=n->e7 lt a m l->e7 lt m b l->
  bJ ay 277 [eV g b8 lc b1,.int .i64 a,.int .i64 m,.int .i64 b] (S l) fun r ah=>r= .tuple []/\∃a6,ah=S a6/\gl a b l a6/\e7 lt a b a6:=by
 induction d with
 |zero=>intro l a m b au aG B8 rR;omega
 |succ d bO=>
 intro l a m b au aG B8 rR ab kD ps;have af:=H.ok l;have az:∀l m,Pv.look (.loc m) (S l).b=none:=fun l=>(H.ok l).obj.1;have hu:∀l m cs,cy (.loc m) cs (S l).b=(S l).b++[(.loc m,cs)]:=fun l m cs=>kc (az l m);have aw:∀m,aL.loc m∉cX (S l):=j5 af.obj;have hle:=H.le;refine bJ.mk mixed A1 aca ai3 Ψ af.obj fun aR cE=>?_;unfold PO;simp[eV,hu,aw,cN,az];(with_reducible repeat' first|((first|apply bD|apply bH|apply bG)<;>intro h<;>try simp at h)|refine aj ?_|simp[hu,aw,cN,az])
 ·obtain rfl:m=a+1:=Ω
  have Kk:∀k,hT a (a+1) (a+1) k=k:=by
   intro k;simp only[hT];repeat' split
   all_goals omega
  obtain⟨z,bk⟩:∃z,l[a]? =some z:=⟨_,cr Ω⟩;refine oy (fun(x:Nat×Nat)=>⟨[(1,.int .i64 a),(4,.ptr (.loc 0) 0),(8,.int .i64 x.1),(9,.int .i64 x.2)],(.loc 0,[.func g lc,.func b8 b1])::(S l).b,(S l).e,1,cX (S l)⟩) (fun x=>x.2-x.1)
   (fun x=>a+1<=x.1/\x.1<=x.2/\x.2<=b/\(∀h y,a+1<=h->h<x.1->l[h]? =some y->lt y z=true)/\(∀h y,x.2<=h->h<b->l[h]? =some y->lt y z=false)) (a+1,b)
   (H.weak au au d7 (by simp[cN,az]) aE aE) ⟨Ψ,by simp;omega,Ψ,fun h y J U=>by simp at U;omega,fun h y J U=>by simp at J;omega⟩ ?_
  rintro⟨i,j⟩ ⟨aX,bg,b6,cT,de⟩ _;simp only at aX bg b6 cT de;have hw:=Fs i j Ω;simp[Pv.look];(with_reducible repeat' first|((first|apply bD|apply bH|apply bG)<;>intro h<;>try simp at h)|refine aj ?_|simp[Pv.look])
  ·obtain⟨c,aq⟩:∃c,c=(i+j)/2:=⟨_,rfl⟩;rw[<-aq]at hw;obtain⟨y,aM⟩:∃y,l[c]? =some y:=⟨_,cr Ω⟩;simp only[hw,H.slc];refine H.doLess au c a aM bk ?_;simp;cases r2:lt y z with
   |true=>
    simp;(with_reducible repeat' first|refine aj ?_|simp);refine bR.whl (c+1,j) d8 ⟨by simp;omega,by simp;omega,b6,fun h u J U hu=>?_,de⟩ (H.weakC au au d7);cases e:lt u z with
    |true=>rfl
    |false=>simp only at U;have:=bt.ntr _ _ _ e (e7.le bt ps J Ω Ω hu aM);rw[r2]at this;cases this
   |false=>simp;(with_reducible repeat' first|refine aj ?_|simp);refine bR.whl (i,c) d8 ⟨aX,by simp;omega,by simp;omega,cT,fun h u J U hu=>?_⟩ (H.weakC au au d7);exact bt.ntr _ _ _ r2 (e7.le bt ps Ω J U aM hu)
  ·obtain rfl:i=j:=Ω
   refine oy (fun(x:Nat×List α)=>⟨[(4,.ptr (.loc 0) 0),(8,.int .i64 i),(11,.int .i64 x.1)],(.loc 0,[.func g lc,.func b8 b1])::(S x.2).b,(S x.2).e,1,cX (S l)⟩) (fun x=>i-x.1)
    (fun x=>x.2.length=n/\a<=x.1/\x.1<i/\gl a b l x.2/\∀k,x.2[k]? =l[hT a (a+1) (x.1+1) k]?) (a,l)
    (H.weakC au au d7) ⟨au,Ψ,by simp;omega,.refl _,fun k=>by simp[Kk]⟩ ?_
   rintro⟨k,lk⟩ ⟨aZ,bm,bP,cP,cZ⟩ _;simp only at aZ bm bP cP cZ;simp[Pv.look];((with_reducible repeat' first|refine aj ?_|simp[Pv.look]|((first|apply bD|apply bH|apply bG)<;>intro h<;>try simp at h))<;>(try exact b2))
   ·have bM:((k:Int)+1)=(k+1:Nat):=Ω
    rw[H.ssc,bM];refine H.doSwap aZ k (k+1) Ω Ω Ω ?_;simp;(with_reducible repeat' first|((first|apply bD|apply bH|apply bG)<;>intro h<;>try simp at h)|refine aj ?_|simp);refine bR.whl (k+1,hd lk k (k+1)) d8 ⟨by simp[aZ],by simp;omega,by simp;omega,.step cP Ω Ω Ω Ω Ω Ω,fun t=>?_⟩ (H.weakC au (by simp[aZ]) d7);rw[z8 _ _ _ _ Ω Ω,cZ,cZ,cZ];have:hT a (a+1) (k+1+1) t=if t=k then hT a (a+1) (k+1) (k+1)else if t=k+1 then hT a (a+1) (k+1) k else hT a (a+1) (k+1) t:=by
     simp only[hT];repeat' split
     all_goals omega
    rw[this];split
    ·rfl
    ·split<;>rfl
   ·obtain rfl:i=k+1:=Ω
    refine H.ret au aZ (.inl rfl) ⟨rfl,lk,rfl,cP,ahh bt Ω b6 Ω ps bk cT de cZ⟩
 ·obtain rfl:b=m+1:=Ω
  have Kk:∀k,hT m m (m+1) k=k:=by
   intro k;simp only[hT];repeat' split
   all_goals omega
  obtain⟨z,bk⟩:∃z,l[m]? =some z:=⟨_,cr Ω⟩;refine oy (fun(x:Nat×Nat)=>⟨[(2,.int .i64 m),(4,.ptr (.loc 0) 0),(12,.int .i64 x.1),(13,.int .i64 x.2)],(.loc 0,[.func g lc,.func b8 b1])::(S l).b,(S l).e,1,cX (S l)⟩) (fun x=>x.2-x.1)
   (fun x=>a<=x.1/\x.1<=x.2/\x.2<=m/\(∀h y,a<=h->h<x.1->l[h]? =some y->lt z y=false)/\(∀h y,x.2<=h->h<m->l[h]? =some y->lt z y=true)) (a,m)
   (H.weak au au d7 (by simp[cN,az]) aE aE) ⟨Ψ,by simp;omega,Ψ,fun h y J U=>by simp at U;omega,fun h y J U=>by simp at J;omega⟩ ?_
  rintro⟨i,j⟩ ⟨aX,bg,b6,cT,de⟩ _;simp only at aX bg b6 cT de;have hw:=Fs i j Ω;simp[Pv.look];(with_reducible repeat' first|((first|apply bD|apply bH|apply bG)<;>intro h<;>try simp at h)|refine aj ?_|simp[Pv.look])
  ·obtain⟨c,aq⟩:∃c,c=(i+j)/2:=⟨_,rfl⟩;rw[<-aq]at hw;obtain⟨y,aM⟩:∃y,l[c]? =some y:=⟨_,cr Ω⟩;simp only[hw,H.slc];refine H.doLess au m c bk aM ?_;simp;cases r2:lt z y with
   |false=>simp;((with_reducible repeat' first|refine aj ?_|simp|((first|apply bD|apply bH|apply bG)<;>intro h<;>try simp at h))<;>(try exact b2));refine bR.whl (c+1,j) d8 ⟨by simp;omega,by simp;omega,b6,fun h u J U hu=>?_,de⟩ (H.weakC au au d7);simp only at U;exact bt.ntr _ _ _ (e7.le bt kD J Ω Ω hu aM) r2
   |true=>
    simp;((with_reducible repeat' first|refine aj ?_|simp|((first|apply bD|apply bH|apply bG)<;>intro h<;>try simp at h))<;>(try exact b2));refine bR.whl (i,c) d8 ⟨aX,by simp;omega,by simp;omega,cT,fun h u J U hu=>?_⟩ (H.weakC au au d7);cases e:lt z u with
    |true=>rfl
    |false=>have:=bt.ntr _ _ _ (e7.le bt kD Ω J U aM hu) e;rw[r2]at this;cases this
  ·obtain rfl:i=j:=Ω
   refine oy (fun(x:Nat×List α)=>⟨[(4,.ptr (.loc 0) 0),(12,.int .i64 i),(15,.int .i64 x.1)],(.loc 0,[.func g lc,.func b8 b1])::(S x.2).b,(S x.2).e,1,cX (S l)⟩) (fun x=>x.1)
    (fun x=>x.2.length=n/\i<=x.1/\x.1<=m/\gl a (m+1) l x.2/\∀k,x.2[k]? =l[hT x.1 m (m+1) k]?) (m,l)
    (H.weakC au au d7) ⟨au,by simp;omega,Ψ,.refl _,fun k=>by simp[Kk]⟩ ?_
   rintro⟨k,lk⟩ ⟨aZ,bm,bP,cP,cZ⟩ _;simp only at aZ bm bP cP cZ;simp[Pv.look];((with_reducible repeat' first|refine aj ?_|simp[Pv.look]|((first|apply bD|apply bH|apply bG)<;>intro h<;>try simp at h))<;>(try exact b2))
   ·have bM:((k:Int)-1)=(k-1:Nat):=Ω
    rw[H.ssc,bM];refine H.doSwap aZ k (k-1) Ω Ω Ω ?_;simp;(with_reducible repeat' first|refine aj ?_|simp);refine bR.whl (k-1,hd lk k (k-1)) d8 ⟨by simp[aZ],by simp;omega,by simp;omega,.step cP Ω Ω Ω Ω Ω Ω,fun t=>?_⟩ (H.weakC au (by simp[aZ]) (by simp[aJ];omega));rw[z8 _ _ _ _ Ω Ω,cZ,cZ,cZ];have:hT (k-1) m (m+1) t=if t=k then hT k m (m+1) (k-1)else if t=k-1 then hT k m (m+1) k else hT k m (m+1) t:=by
     simp only[hT];repeat' split
     all_goals omega
    rw[this];split
    ·rfl
    ·split<;>rfl
   ·obtain rfl:i=k:=Ω
    refine H.ret au aZ (.inl rfl) ⟨rfl,lk,rfl,cP,ahi bt Ω b6 Ω kD bk cT de cZ⟩
 ·obtain⟨mid,J8⟩:∃mid,mid=(a+b)/2:=⟨_,rfl⟩;have hw:=Fs a b Ω;rw[<-J8]at hw;simp only[hw];(with_reducible repeat' first|((first|apply bD|apply bH|apply bG)<;>intro h<;>try simp at h)|refine aj ?_|simp[hu,aw,cN,az])
  ·exact WV (s0:=mid+m-b) (r0:=mid) H (by simp[cN,az]) aE bt bO (a:=a) (m:=m) (b:=b) (mid:=mid) Ψ Ψ Ψ Ψ Ψ Ψ d8 Ψ au ⟨B8,rR,J8⟩ Ω ab aG kD ps fun gT t o aZ bm=>H.ret au (by rw[aZ.length];exact au) (.inr rfl) ⟨rfl,gT,rfl,aZ,bm⟩
  ·exact WV (s0:=a) (r0:=m) H (by simp[cN,az]) aE bt bO (a:=a) (m:=m) (b:=b) (mid:=mid) Ψ Ψ Ψ Ψ Ψ Ψ Ψ Ψ au ⟨B8,rR,J8⟩ Ω ab aG kD ps fun gT t o aZ bm=>H.ret au (by rw[aZ.length];exact au) (.inr rfl) ⟨rfl,gT,rfl,aZ,bm⟩
end
section
open Go Go.Pv
variable {α:Type} {S:List α->cM} {n g b8:Nat} {lc b1:List ai} {lt:α->α->Bool}
def o1(lt:α->α->Bool)(z a b:Nat)(l:List α):Prop:= ∀i j x y,a<=i->i<j->j<b->i/z=j/z->l[i]? =some x->l[j]? =some y->lt y x=false
theorem o1.snoc{z q:Nat}(bk:0<z){l a6:List α}(h:o1 lt z 0 (q*z) l){b:Nat}(af:gl (q*z) b l a6)(U:e7 lt (q*z) b a6):o1 lt z 0 b a6:=by
 intro i j x y hi lD ag aG ae aM;by_cases Sy:j<q*z
 ·rw[af.out _ (.inl Ω)]at ae;rw[af.out _ (.inl Sy)]at aM;exact h i j x y hi lD Sy aG ae aM
 ·have al:q<=j/z:=(Nat.le_div_iff_mul_le bk).2 Ω;have a1:q*z<=i:=(Nat.le_div_iff_mul_le bk).1 Ω;exact U i j x y a1 lD ag ae aM
theorem o1.srt{z q:Nat}(bk:0<z){l:List α}{a b:Nat}(h:o1 lt z a b l){c:Nat}(aoS:a<=q*z)(aq:c<=(q+1)*z)(aoV:c<=b):e7 lt (q*z) c l:=by intro i j x y hi lD ag ae aM;have hE:i/z=q:=Nat.div_eq_of_lt_le hi Ω;have p2:j/z=q:=Nat.div_eq_of_lt_le Ω Ω;exact h i j x y Ω lD Ω Ω ae aM
theorem o1.after{z a b bp b0:Nat}{l a6:List α}(h:o1 lt z a b l)(af:gl a bp l a6)(a7:a<=bp)(ab:b0<=b):o1 lt z bp b0 a6:=by intro i j x y hi lD ag aG ae aM;rw[af.out _ (.inr Ω)]at ae;rw[af.out _ (.inr Ω)]at aM;exact h i j x y Ω lD Ω aG ae aM
theorem JB(H:e1 S n g b8 lc b1 lt)(bt:qu lt)(l:List α)(au:l.length=n):
  bJ ay 248 [eV g b8 lc b1,.int .i64 n] (S l) fun r ah=>r= .tuple []/\∃a6,ah=S a6/\gl 0 n l a6/\e7 lt 0 n a6:=by
 have af:=H.ok l;have az:∀l m,Pv.look (.loc m) (S l).b=none:=fun l=>(H.ok l).obj.1;have hu:∀l m cs,cy (.loc m) cs (S l).b=(S l).b++[(.loc m,cs)]:=fun l m cs=>kc (az l m);have aw:∀m,aL.loc m∉cX (S l):=j5 af.obj;have hle:=H.le;refine bJ.mk mixed A1 ab8 ai1 Ψ af.obj fun aR cE=>?_;unfold PM;simp[eV,hu,aw,cN,az];refine oy (fun(x:Nat×List α)=>⟨[(1,.int .i64 n),(2,.ptr (.loc 0) 0),(4,.int .i64 20),(5,.int .i64 (x.1*20)),(6,.int .i64 (x.1*20+20))],(.loc 0,[.func g lc,.func b8 b1])::(S x.2).b,(S x.2).e,1,cX (S l)⟩) (fun x=>n+20-x.1*20)
  (fun x=>x.2.length=n/\x.1*20<=n/\gl 0 n l x.2/\o1 lt 20 0 (x.1*20) x.2) (0,l)
  (H.weak au au d7 (by simp[cN,az]) aE aE) ⟨au,Ψ,.refl _,fun i j x y J U al=>by simp at al⟩ ?_
 rintro⟨q,lk⟩ ⟨J,U,al,a1⟩ _;simp only at J U al a1;simp[Pv.look];((with_reducible repeat' first|refine aj ?_|simp[Pv.look]|((first|apply bD|apply bH|apply bG)<;>intro h<;>try simp at h))<;>(try exact b2))
 ·have ao:((q:Int)*20)=(q*20:Nat):=Ω
  have aF:((q:Int)*20+20)=(q*20+20:Nat):=Ω
  simp only[iy H,H.slc,H.ssc,ig,aF];simp only[ao];refine H.doFn J (RF H bt lk J (q*20) (q*20+20) Ω Ω) (fun a6 h=>by rw[h.1.length];exact J) (by simp[aP,aJ,H.kdata J]) ?_;rintro a6 ⟨cU,dq⟩;have tb:a6.length=n:=by rw[cU.length];exact J
  simp;((with_reducible repeat' first|refine aj ?_|simp|((first|apply bD|apply bH|apply bG)<;>intro h<;>try simp at h))<;>(try exact b2));refine bR.whl (q+1,a6) d8 ⟨tb,by simp;omega,al.trans (cU.mono Ω Ω),?_⟩ (H.weakC au tb (by simp[aJ];omega));have:=a1.snoc Ω cU dq;rwa[show q*20+20=(q+1)*20 by omega]at this
 ·have ao:((q:Int)*20)=(q*20:Nat):=Ω
  simp only[iy H,H.slc,H.ssc,ig,ao];refine H.doFn J (RF H bt lk J (q*20) n Ω Ω) (fun a6 h=>by rw[h.1.length];exact J) (by simp[aP,aJ,H.kdata J]) ?_;rintro a6 ⟨cU,dq⟩;have tb:a6.length=n:=by rw[cU.length];exact J
  have fk:=a1.snoc Ω cU dq;simp;refine oy (fun(x:Nat×List α)=>⟨[(1,.int .i64 n),(2,.ptr (.loc 0) 0),(4,.int .i64 x.1)],(.loc 0,[.func g lc,.func b8 b1])::(S x.2).b,(S x.2).e,1,cX (S l)⟩) (fun x=>1099511627776-x.1)
   (fun x=>x.2.length=n/\20<=x.1/\x.1<=2*n+20/\gl 0 n l x.2/\o1 lt x.1 0 n x.2) (20,a6)
   (H.weakC au tb d7) ⟨tb,Ψ,Ψ,al.trans (cU.mono Ω Ω),fk⟩ ?_
  rintro⟨z,Uj⟩ ⟨k2,z2,z3,z4,z5⟩ _;simp only at k2 z2 z3 z4 z5;simp[Pv.look];((with_reducible repeat' first|refine aj ?_|simp[Pv.look]|((first|apply bD|apply bH|apply bG)<;>intro h<;>try simp at h))<;>(try exact b2))
  ·refine oy (fun(x:Nat×List α)=>⟨[(1,.int .i64 n),(2,.ptr (.loc 0) 0),(4,.int .i64 z),(5,.int .i64 (x.1*(2*z):Nat)),(6,.int .i64 (x.1*(2*z)+2*z:Nat))],(.loc 0,[.func g lc,.func b8 b1])::(S x.2).b,(S x.2).e,1,cX (S l)⟩) (fun x=>n+2*z-x.1*(2*z))
    (fun x=>x.2.length=n/\x.1*(2*z)<=n/\gl 0 n l x.2/\o1 lt (2*z) 0 (x.1*(2*z)) x.2/\o1 lt z (x.1*(2*z)) n x.2) (0,Uj)
    (H.weakC au k2 d7) ⟨k2,Ψ,z4,fun i j x y J U al=>by simp at al,by simpa using z5⟩ ?_
   rintro⟨p,C3⟩ ⟨fZ,dU,HR,w1,D9⟩ _;simp only at fZ dU HR w1 D9;obtain⟨A,bj⟩:∃A,A=p*(2*z):=⟨_,rfl⟩;have Fo:A=(2*p)*z:=by rw[bj,Nat.mul_comm 2 p,Nat.mul_assoc]
   have JK:(2*p+1)*z=A+z:=by rw[o0,<-Fo,Nat.one_mul]
   have aec:(2*p+2)*z=A+2*z:=by rw[o0,<-Fo]
   have zn:(p+1)*(2*z)=A+2*z:=by rw[o0,<-bj,Nat.one_mul]
   have kD:∀c,c<=A+z->c<=n->e7 lt A c C3:=fun c aq zt=>by have:=o1.srt (q:=2*p) Ω D9 (c:=c) (by rw[<-Fo,bj];omega) (by rw[JK];exact aq) zt;rwa[<-Fo]at this
   have ps:∀c,c<=A+2*z->c<=n->e7 lt (A+z) c C3:=fun c aq zt=>by have:=o1.srt (q:=2*p+1) Ω D9 (c:=c) (by rw[JK,bj];omega) (by rw[aec];exact aq) zt;rwa[JK]at this
   rw[<-bj]at dU w1 D9;simp only[<-bj];simp[Pv.look];((with_reducible repeat' first|refine aj ?_|simp[Pv.look]|((first|apply bD|apply bH|apply bG)<;>intro h<;>try simp at h))<;>(try exact b2))
   ·have bM:((A:Int)+z)=(A+z:Nat):=Ω
    have dt:((A:Int)+2*z)=(A+2*z:Nat):=Ω
    simp only[iy H,H.slc,H.ssc,ig,bM,dt];refine H.doFn fZ (RP H bt (A+2*z-A) C3 A (A+z) (A+2*z) fZ Ω Ω Ω Ω (kD _ Ω Ω) (ps _ Ω Ω)) (fun a6 h=>by rw[h.1.length];exact fZ) (by simp[aP,aJ,H.kdata fZ]) ?_;rintro gT ⟨kK,oT⟩;have nS:gT.length=n:=by rw[kK.length];exact fZ
    simp;(with_reducible repeat' first|refine aj ?_|simp);refine bR.whl (p+1,gT) (by simp only[zn,<-bj];omega) ⟨nS,by simp only[zn];omega,HR.trans (kK.mono Ω Ω),?_,?_⟩ ?_
    ·simp only[zn];rw[bj]at w1 kK oT;have:=w1.snoc Ω kK oT;rwa[<-bj]at this
    ·simp only[zn];exact D9.after kK Ω Ω
    ·simp only[zn];have aed:((p:Int)+1)*(2*(z:Int))=(A:Int)+2*z:=by have h:=e4 (Nat.cast:Nat->Int) zn;push_cast at h;exact h
     exact H.weakC au nS (by simp[aJ,aed])
   ·have bM:((A:Int)+z)=(A+z:Nat):=Ω
    simp only[iy H,H.slc,H.ssc,ig,bM];refine H.doFn fZ (RP H bt (n-A) C3 A (A+z) n fZ Ω Ω Ω Ω (kD _ Ω Ω) (ps _ Ω Ω)) (fun a6 h=>by rw[h.1.length];exact fZ) (by simp[aP,aJ,H.kdata fZ]) ?_;rintro gT ⟨kK,oT⟩;have nS:gT.length=n:=by rw[kK.length];exact fZ
    simp;((with_reducible repeat' first|refine aj ?_|simp|((first|apply bD|apply bH|apply bG)<;>intro h<;>try simp at h))<;>(try exact b2));refine bR.whl (2*z,gT) d8 ⟨nS,by simp;omega,by simp;omega,HR.trans (kK.mono Ω Ω),?_⟩ (H.weakC au nS (by simp[aJ];omega));rw[bj]at w1 kK oT;exact w1.snoc Ω kK oT
   ·refine bR.whl (2*z,C3) d8 ⟨fZ,by simp;omega,by simp;omega,HR,?_⟩ (H.weakC au fZ (by simp[aJ];omega));have bW:=kD n Ω Ω;rw[bj]at w1 bW;exact w1.snoc Ω (.refl _) bW
  ·refine H.ret au k2 (.inr rfl) ?_;refine⟨rfl,Uj,rfl,z4,fun i j x y J U al=>z5 i j x y J U al ?_⟩;rw[Nat.div_eq_of_lt Ω,Nat.div_eq_of_lt Ω]
end
section
open Go Go.Pv Go.Sort Go.RowKit
theorem aft{w:World}{base:Nat}{e:gG}{sz:Nat}{v:Value}{n:Nat}{us:List Value}(h:w.ownsRow base e sz v n us)(av:v≠ .slice none 0 0):
  ∃g cap,v= .slice (some ⟨g,0,none⟩) n cap/\g<w.heap.size/\cap<=maxLen/\n<=cap/\us.length=n*sz/\Holds id w g 0 us.toArray:=by
 rcases h.2 with⟨kt,_⟩|⟨g,cap,cur,rfl,ab,aW,az,hm,af,aI⟩
 ·exact absurd kt av
 ·have bt:g<w.heap.size:=by
   rcases Nat.lt_or_ge g w.heap.size with ck|ck
   ·exact ck
   ·rw[Array.getElem?_eq_none ck]at aW;cases aW
  refine⟨g,cap,rfl,bt,hm,az,h.1,fun j ag=>?_⟩;have jx:j<us.length:=by simpa using ag
  have au:=h.1;refine⟨?_,by simp[World.frozen?,aW]⟩;have ao:(cur.toList.take (n*sz))[j]? =us[j]?:=by rw[aI]
  rw[List.getElem?_take,if_pos Ω,tN,cr jx]at ao;simp only[World.cell?,aW,Nat.zero_add];simp only[iL,gF,if_false];rw[ao];simp[getElem!_pos,jx]
theorem ajP{w:World}{base:Nat}{e:gG}{sz g n cap q:Nat}{us:List Value}{F:Array Value}(h:w.ownsRow base e sz (.slice (some ⟨g,0,none⟩) n cap) n us)(gw:F.size=n*sz):
  (putRow id (Sort.ahead w q) g 0 F).ownsRow base e sz (.slice (some ⟨g,0,none⟩) n cap) n F.toList:=by
 rcases h.2 with⟨kt,_⟩|⟨fc,BB,cur,kt,ab,aW,az,hm,af,aI⟩
 ·cases kt
 ·injection kt with ao _ bM;injection ao with ao;injection ao with ao;subst ao;subst bM;refine⟨by simpa using gw,.inr ⟨g,cap,putCells id 0 F cur,rfl,ab,?_,az,hm,by simpa[putCells]using af,?_⟩⟩
  ·simp[putRow,mapBlock,Sort.ahead,Array.getElem?_modify,aW,onCells]
  ·have hle:n*sz<=cur.size:=by rw[af];exact qq _ az
   apply List.ext_getElem?;intro j;rw[List.getElem?_take,tN,tN];by_cases ag:j<n*sz
   ·have ae1:j<cur.size:=Ω
    simp only[if_pos ag,putCells,Array.getElem?_mapIdx,Array.getElem?_eq_getElem ae1,nE];rw[if_pos Ω];simp[getElem!_pos,show j<F.size by omega]
   ·simp[ag];omega
end
end Go.Proofs.YtohaalphocaebaaGreat
namespace Go.Pv
section
open Go Go.RowKit Go.Lib Go.Sort Go.Proofs.YtohaalphocaebaaGreat
theorem TT{S:aL->Prop}:∀{l:List ai},aP S l↔∀x∈l,aJ S x
 |[]=>by simp[aP]
 |x::r=>by simp only[aP,TT (l:=r),fI,forall_eq_or_imp]
theorem TN{α:Type}{s:cM}{l:List (aL×α)}:j0 s l↔∀k,(look k l).isSome->inObs s k:=by
 refine⟨fun h k ad=>zV h k ad,fun h=>?_⟩;have:∀a6:List (aL×α),(∀x∈a6,inObs s x.1)->j0 s a6:=by
  intro a6;induction a6 with
  |nil=>intro _;trivial
  |cons x r bO=>obtain⟨k,x⟩:=x;exact fun h=>⟨h (k,x) Ψ,bO fun y aM=>h y (by simp[aM])⟩
 exact this l fun x ae=>h x.1 (uO (x:=x.2) ae)
theorem Mx{w:World}{Z:bc}{sz:Nat}:∀{xs:List ai} {us:List Value} {i:Nat} {p:ai},dx w Z sz xs us->xs[i]? =some p->∃u,(us.drop (i*sz)).take sz=u.cells.toList/\bd w Z p u/\u.cells.size=sz/\∀c∈u.cells.toList,c.oneCell'=true
 |[],_,_,_,_,bL=>by simp at bL
 |x::xs,us,0,p,h,bL=>by simp only[dx]at h;obtain⟨u,ch,rfl,⟨J,U,al⟩,_⟩:=h;simp at bL;subst bL;refine⟨u,?_,J,U,al⟩;simp only[Nat.zero_mul,List.drop_zero];rw[List.take_append_of_le_length (by simp[U])];exact hv (by simp[U])
 |x::xs,us,i+1,p,h,bL=>by simp only[dx]at h;obtain⟨u,ch,rfl,⟨J,U,al⟩,bW⟩:=h;obtain⟨v,ao,aF⟩:=Mx (i:=i) bW (by simpa using bL);refine⟨v,?_,aF⟩;rw[<-ao,Nat.succ_mul,Nat.add_comm,<-List.drop_drop];congr 2;rw[List.drop_append_of_le_length (by simp[U]),List.drop_of_length_le (by simp[U])];rfl
theorem MP:∀(ba:List Value) (s:Nat) (F:Array Value),s+ba.length<=F.size->(setMany F s ba).toList=F.toList.take s++ba++F.toList.drop (s+ba.length)
 |[],s,F,h=>by simp[setMany]
 |v::r,s,F,h=>by
  simp only[oe]at h;rw[setMany,MP r (s+1) _ d8];have bt:s<F.toList.length:=by simp;omega
  have ao:(F.setIfInBounds s v).toList=F.toList.set s v:=by simp
  rw[ao];have aF:(F.toList.set s v).take (s+1)=F.toList.take s++[v]:=by rw[List.take_succ,List.getElem?_set_self bt,List.take_set_of_le (eC _)];simp
  have bM:(F.toList.set s v).drop (s+1+r.length)=F.toList.drop (s+(v::r).length):=by rw[List.drop_set_of_lt Ω];congr 1;simp;omega
  rw[aF,bM];simp
theorem Yz(w:World):Sort.ahead w 0=w:=by simp[Sort.ahead]
theorem RO{P:cG}(xt:Bool)(b8:Nat)(ae:∀args W,(callFunc b8 args).run P W=((Ee xt args).run P W).andThen fun v w'=>.ok (.value v) w')(e:gG)(ej:TypeInfo)(s9:P.info? e=some ej)(xw:(∀w,(Go.isAgg e).run P w= .ok true w)\/(ej.size=1/\∀w,(Go.isAgg e).run P w= .ok false w)){s:cM}(af:dN s){K n el sz:Nat}(ee:ej.size=sz){xs:List ai}(ad:look (.obj K) s.e=some ⟨n,el,sz,some xs⟩)
  (i j:Nat) (hi:i<n) (ag:j<n):bJ P b8 [.int .i64 i,.int .i64 j,.row sz (.obj K) n,.cst (typeHandle P e)] s fun r ah=>r= .tuple []/\ah=⟨s.b,cy (.obj K) ⟨n,el,sz,some (hd xs i j)⟩ s.e⟩:=by
 subst ee;refine bJ.sem af.obj fun w Z ba kU aK=>?_;right;have s0:=aK.slot 0;have s1:=aK.slot 1;have s2:=aK.slot 2;have s3:=aK.slot 3;simp[kq,get,bd]at s0 s1 s2 s3;obtain⟨v,us,aZ,bm,bP,cP⟩:=aK.good.own (.obj K) _ ad;obtain⟨cZ,n1,uX⟩:=cP _ rfl;simp only at cZ n1 aZ bm;obtain⟨⟨g0,Y1,rJ⟩,_,n',e3,ao,aF,bM⟩:=s2;rw[aZ]at ao;simp only[dy,jE]at ao;obtain⟨rfl,rfl⟩:=ao;have av:=bM rfl;have cF:v≠ .slice none 0 0:=by rw[<-av,rJ];simp
 obtain⟨g,cap,rfl,qN,rN,aeT,Cg,B4⟩:=aft bm cF;have afT:ba= #[.int .i64 i,.int .i64 j,.slice (some ⟨g,0,none⟩) n cap,typeHandle P e]:=by
  have J:ba.size=4:=by simpa using kU
  apply Array.ext (by simpa using J);intro t U al;simp at al;rcases(by omega:t=0\/t=1\/t=2\/t=3)with rfl|rfl|rfl|rfl
  ·simpa[Array.getD,J]using s0
  ·simpa[Array.getD,J]using s1
  ·simpa[Array.getD,J]using av
  ·simpa[Array.getD,J]using s3
 subst afT;obtain⟨p,bL⟩:∃p,xs[i]? =some p:=⟨_,cr Ω⟩;obtain⟨q,bI⟩:∃q,xs[j]? =some q:=⟨_,cr Ω⟩;obtain⟨u,ja,jD,qk,yI⟩:=Mx n1 bL;obtain⟨x,sv,yK,sw,HS⟩:=Mx n1 bI;have SJ:i*ej.size+ej.size<=n*ej.size:=by have:=qq ej.size (show i+1<=n from hi);rwa[o0,Nat.one_mul]at this
 have SK:j*ej.size+ej.size<=n*ej.size:=by have:=qq ej.size (show j+1<=n from ag);rwa[o0,Nat.one_mul]at this
 have cell:∀t v,us[t]? =some v->w.cell? ⟨g,t,none⟩=some v:=fun t v aI=>by obtain⟨J,U⟩:=fp.1 aI;have:=(B4 t (by simpa using J)).1;simp at this;rw[this];simp[getElem!_pos,J,U]
 have Fe:∀t,t<n*ej.size->w.frozen? ⟨g,t,none⟩=false:=fun t aI=>by have:=(B4 t (by simpa[Cg]using aI)).2;simpa using this
 have run:(Ee xt #[.int .i64 i,.int .i64 j,.slice (some ⟨g,0,none⟩) n cap,typeHandle P e]).run P w= .ok (.tuple #[]) ((w.setCells g (0+i*ej.size) x.cells.toList).setCells g (0+j*ej.size) u.cells.toList):=by
  rcases xw with xw|⟨Fl,xw⟩
  ·exact run_swap_cells (P:=P) xt e ej s9 xw g 0 n cap i j hi ag u.cells.toList x.cells.toList (by simp[qk]) (by simp[sw]) yI HS w
     (fun k v av=>by
      rw[<-ja,List.getElem?_take]at av;split at av
      ·rw[List.getElem?_drop]at av;simpa using cell _ _ av
      ·cases av)
     (fun k v av=>by
      rw[<-sv,List.getElem?_take]at av;split at av
      ·rw[List.getElem?_drop]at av;simpa using cell _ _ av
      ·cases av)
     (fun k ad=>by simpa using Fe (i*ej.size+k) Ω) (fun k ad=>by simpa using Fe (j*ej.size+k) Ω)
  ·rw[Fl]at ja qk sv sw⊢;obtain⟨EX,JR⟩:∃c,u.cells.toList=[c]:=List.length_eq_one_iff.1 (by simpa using qk);obtain⟨o9,kA⟩:∃c,x.cells.toList=[c]:=List.length_eq_one_iff.1 (by simpa using sw);rw[JR]at ja yI⊢;rw[kA]at sv HS⊢;simp only[World.setCells,Nat.mul_one]at ja sv⊢;have RR:us[i]? =some EX:=by have:=e4 (·[0]?) ja;simpa using this
   have RT:us[j]? =some o9:=by have:=e4 (·[0]?) sv;simpa using this
   have:=run_swap_one (P:=P) xt e ej s9 Fl xw g 0 n cap i j hi ag EX o9 (yI EX Ψ) (HS o9 Ψ) w (by simpa using cell i EX RR) (by simpa using cell j o9 RT) (by simpa using Fe i (by rw[Fl];omega)) (by simpa using Fe j (by rw[Fl];omega));simpa using this
 have afV:putRow id w g 0 us.toArray=w:=putRow_self id w g 0 _ B4;have afM:us.toArray.size=n*ej.size:=by simpa using Cg
 have FZ:w.setCells g (0+i*ej.size) x.cells.toList=putRow id w g 0 (setMany us.toArray (i*ej.size) x.cells.toList):=by have J:=setCells_putRow w g 0 x.cells.toList (i*ej.size) us.toArray (by simp[sw,Cg];exact SJ);rw[afV]at J;exact J
 obtain⟨ib,nf⟩:∃ib,ib=setMany us.toArray (i*ej.size) x.cells.toList:=⟨_,rfl⟩;have aek:ib.toList=us.take (i*ej.size)++x.cells.toList++us.drop (i*ej.size+ej.size):=by rw[nf,MP _ _ _ (by simp[sw,Cg];exact SJ)];simp[sw]
 have JL:ib.size=n*ej.size:=by rw[nf,size_setMany];exact afM
 have oJ:(w.setCells g (0+i*ej.size) x.cells.toList).setCells g (0+j*ej.size) u.cells.toList=putRow id w g 0 (setMany ib (j*ej.size) u.cells.toList):=by rw[FZ,<-nf,setCells_putRow w g 0 u.cells.toList (j*ej.size) ib (by simp[qk,JL];exact SK)]
 obtain⟨iB,B3⟩:∃iB,iB=setMany ib (j*ej.size) u.cells.toList:=⟨_,rfl⟩;have ael:iB.toList=ib.toList.take (j*ej.size)++u.cells.toList++ib.toList.drop (j*ej.size+ej.size):=by rw[B3,MP _ _ _ (by simp[qk,JL];exact SK)];simp[qk]
 have aem:iB.size=n*ej.size:=by rw[B3,size_setMany];exact JL
 have eR:=Hh n1 bL yK sw HS;rw[<-aek]at eR;have fM:=Hh (i:=j) (q:=q) eR (by rw[List.getElem?_set];split;(rename_i e;subst e;rw[if_pos Ω]);exact bI) jD qk yI;rw[<-ael]at fM;have afL:(xs.set i q).set j p=hd xs i j:=by simp[hd,bL,bI]
 rw[afL]at fM;have hlen:(hd xs i j).length=n:=by simpa using cZ
 have lF:=ajP (q:=0) (F:=iB) bm aem;rw[Yz]at lF;obtain⟨kK,oT,_⟩:=aK.setRowM (w':=putRow id w g 0 iB) ad rfl aZ (bl:=g) rfl (v':= .slice (some ⟨g,0,none⟩) n cap) rfl (xs':=hd xs i j) (us:=iB.toList) (.inl ⟨hlen,rfl⟩) rfl rfl rfl
  (fun t aI=>by simp[putRow,mapBlock,Array.getElem?_modify,k5 aI]) (by simp[putRow,mapBlock]) (by rw[hlen];exact lF) fM
 refine⟨.tuple #[],putRow id w g 0 iB,?_,?_⟩
 ·rw[ae,run,oJ,<-B3];rfl
 ·have jw:∀k,inObs ⟨s.b,cy (.obj K) ⟨n,el,ej.size,some (hd xs i j)⟩ s.e⟩ k↔inObs s k:=fun k=>by
   unfold inObs;simp only[iW];by_cases c2:aL.obj K=k
   ·subst c2;simp[ad]
   ·simp[c2]
  refine⟨_,_,_,_,.tuple [],⟨s.b,cy (.obj K) ⟨n,el,ej.size,some (hd xs i j)⟩ s.e⟩,rfl,kK,by simp[bd,cR],TN.2 fun k nR=>(jw k).2 (.inl nR),TN.2 fun k nR=>(jw k).2 (.inr nR),fun k cs aq=>⟨aq,(jw k).2 (.inl (by simp at aq;simp[aq])),j2 (fun k h=>(jw k).2 h) _ (af.kb k cs aq)⟩,fun k o aw=>⟨by simpa[hlen]using aw,?_,fun ys aM=>?_⟩,⟨af.obj.1,fun m=>?_⟩,by simp[aJ,aP],rfl,rfl⟩
  ·exact(.inr (by simp at aw;simp[aw]))
  ·simp only[iW]at aw;split at aw
   ·cases aw;simp only[dy]at aM;subst aM;have SD:=af.ke _ _ ad xs rfl;refine j2 (fun k h=>(jw k).2 h) _ ?_;rw[TT]at SD⊢;exact fun z bk=>SD z ((Uh xs i j).mem_iff.1 bk)
   ·exact j2 (fun k h=>(jw k).2 h) _ (af.ke k o aw ys aM)
  ·simp only[iW];simp[af.obj.2 m]
theorem RN{P:cG}(xt:Bool)(b8:Nat)(ae:∀args W,(callFunc b8 args).run P W=((Ee xt args).run P W).andThen fun v w'=>.ok (.value v) w')(e:gG)(ej:TypeInfo)(s9:P.info? e=some ej)(xw:∀w,(Go.isAgg e).run P w= .ok true w){s:cM}(af:dN s){K n el sz:Nat}(ee:ej.size=sz){xs:List ai}(ad:look (.obj K) s.e=some ⟨n,el,sz,some xs⟩)
  (i j:Nat) (hi:i<n) (ag:j<n):bJ P b8 [.int .i64 i,.int .i64 j,.row sz (.obj K) n,.cst (typeHandle P e)] s fun r ah=>r= .tuple []/\ah=⟨s.b,cy (.obj K) ⟨n,el,sz,some (hd xs i j)⟩ s.e⟩:=RO xt b8 ae e ej s9 (.inl xw) af ee ad i j hi ag
end
end Go.Pv
namespace Go.Proofs.YtohaalphocaebaaGreat
section
open Go Go.RowKit Go.Lib Go.Sort Go.Pv
set_option maxRecDepth 100000 in
theorem alm(t e:gG)(i ej:TypeInfo)(hi:ay.info? t=some i)(aG:i.desc= .slice e)(Cx:ay.packed t=false)(s9:ay.info? e=some ej)(ke:Nat)(uz:∀w,(X2 e).run ay w= .ok ke w)
  (p:Option Addr) (n c:Nat) (az:n<4611686018427387904) (f:Nat) (aO:ay.funcs.findIdx? (·.name== "internal/reflectlite" ++ ".Swapper$" ++toString (swapperK n ej ke))=some f) (Ud:Fn) (K2 qX:Array Value) (w:World) (R:World->Prop)
  (bL:Calls ay 248 #[.agg #[.func Ud K2 qX,.func (.func f) #[] (sliceBound ay e ej ke p n c)],.int .i64 n] ((w.alloc (.cells #[.slice p n c] t)).alloc (.cells #[typeHandle ay t,.pointer (some ⟨w.heap.size,0,none⟩),.int .u64 151] 214)) fun e w'=>e= .returned (.tuple #[])/\R w'):
  Calls ay 202 #[.iface t (.slice p n c),.func Ud K2 qX] w fun e w'=>e= .returned (.tuple #[])/\R w':=by
 have av:=run_valueOf_slice (P:=ay) t e i hi aG p n c w;have af:=fun w=>run_swapper_slice (P:=ay) t e i ej hi aG s9 ke uz p n c f aO w;have au:=fun a w a7=>run_valueLen_slice (P:=ay) t e i hi aG Cx a p n c w a7;unfold sliceBound at bL;generalize (if swapperK n ej ke<=2 then(#[]:Array Value)else #[.slice p n c,typeHandle ay e])=B at af bL;have aeW:ay.globals.size=0:=by kernel_rfl
 simp only[typeHandle,aeW]at av au bL;have E1:∀args w,(callFunc 248 args).run ay w= .ok (.enter 248 args) w:=enters_of Tryz.func248 co rfl;go_enter Tryz.func202,Tryz.ntmps202;go_wp2;rw[run_callFunc_extern Tryz.func206 co co co (e:=fun args=>anj (args.getD 0 (.tuple #[]))) co,
  show Sem.run ay ((fun args:Array Value=>anj (args.getD 0 (.tuple #[]))) #[.iface t (.slice p n c)]) w=_ from av]
 simp only[Result.andThen];rw[Oper.upon_value];go_wp2;rw[run_callFunc_extern Tryz.func207 co co co (e:=arD "internal/reflectlite" (ank "Swapper")) co,af];simp only[Result.andThen];rw[Oper.upon_value];go_wp2;rw[run_callFunc_extern Tryz.func208 co co co (e:=arF (ank "reflectlite.Value.Len" 0) arE) co,
  au _ _ Ψ]
 simp only[Result.andThen];rw[Oper.upon_value];go_wp2_with (go_at_fn 248;refine bL.mono ?_;rintro e w' ⟨rfl,bS⟩);go_end0;exact⟨rfl,bS⟩
theorem _root_.Go.Pv.Good.prMono{pr Ds:Nat->Prop}{w:World}{Z:bc}{b:List (aL×List ai)}{e:List (aL×fQ)}(h:Pv.Good pr w Z b e)(bL:∀bl,pr bl->fx Z ⟨b,e⟩ bl->Ds bl):Pv.Good Ds w Z b e:=by
 refine⟨h.alt,fun k cs ad=>?_,h.inj,fun g o aW=>?_,h.oinj,h.obx,h.one,h.otr⟩
 ·obtain⟨bl,us,el,f1,f2,f3⟩:=h.box k cs ad;exact⟨bl,us,el,f1,bL bl f2 (.inl ⟨k,by simp[ad],f1⟩),f3⟩
 ·obtain⟨v,us,f1,f2,f3,f4⟩:=h.own g o aW;exact⟨v,us,f1,f2,fun bl ab=>⟨bL bl (f3 bl ab).1 (.inr ⟨g,o.n,v,by simp[aW],f1,ab⟩),(f3 bl ab).2⟩,f4⟩
theorem RW(w:World)(gU gJ:Obj):w.grownBy ((w.alloc gU).alloc gJ) none:=by
 have J:w.heap.size<=(w.alloc gU).heap.size:=by simp
 have U:(w.alloc gU).heap.size<=((w.alloc gU).alloc gJ).heap.size:=by simp
 exact⟨rfl,rfl,rfl,gZ J U,fun k ad _=>(Below.heap_alloc _ gJ k (Nat.lt_of_lt_of_le ad J)).trans (Below.heap_alloc w gU k ad)⟩
def dP{α:Type}(e:α->ai)(K B el sz:Nat)(l:List α):cM:=⟨[(.obj B,[.row sz (.obj K) l.length])],[(.obj K,⟨l.length,el,sz,some (l.map e)⟩)]⟩
section
variable {α:Type} {e:α->ai} (he:∀S x,aJ S (e x)) {K B el sz:Nat}
include he
theorem agL(S:aL->Prop)(l:List α):aP S (l.map e):=by
 induction l with
 |nil=>simp[aP]
 |cons x r bO=>simp only[eO,aP];exact⟨he S x,bO⟩
theorem xb(l:List α):dN (dP e K B el sz l):=by unfold dP;refine dN.of ⟨by intro m;simp[Pv.look],by intro m;simp[Pv.look]⟩ f8 ?_;intro x ae xs hb;simp at ae;subst ae;simp at hb;subst hb;exact agL he _ l
omit he in
theorem xc(l a6:List α):Same (dP e K B el sz l) (dP e K B el sz a6):=by
 refine⟨fun k=>?_,fun k=>?_⟩
 ·simp only[dP,Pv.look];split<;>rfl
 ·simp only[dP,Pv.look];split<;>rfl
theorem adn(t:gG)(i ej:TypeInfo)(hi:ay.info? t=some i)(aG:i.desc= .slice el)(Cx:ay.packed t=false)(s9:ay.info? el=some ej)(ke:Nat)(uz:∀w,(X2 el).run ay w= .ok ke w)(sW:∀n,2<=n->swapperK n ej ke=9)
  (g:Nat) (lt:α->α->Bool) (bt:qu lt) (l:List α) (au:l.length<=68719476736)
  (xI:∀a6:List α,a6.length=l.length->∀(i j:Nat) x y,a6[i]? =some x->a6[j]? =some y->bJ ay g [.int .i64 i,.int .i64 j,.ptr (.obj B) 0] (dP e K B el sz a6) fun r ah=>r= .bool (lt x y)/\ah=dP e K B el sz a6)
  (zL:∀a6:List α,a6.length=l.length->∀i j:Nat,i<l.length->j<l.length->bJ ay 257 [.int .i64 i,.int .i64 j,.row sz (.obj K) l.length,.cst (typeHandle ay el)] (dP e K B el sz a6) fun r ah=>r= .tuple []/\ah=dP e K B el sz (hd a6 i j)):
  bJ ay 202 [.iface t (.row sz (.obj K) l.length),.func g [.ptr (.obj B) 0]] (dP e K B el sz l) fun r ah=>r= .tuple []/\∃a6,ah=dP e K B el sz a6/\a6.Perm l/\a6.Pairwise fun x y=>lt y x=false:=by
 have Cc:ay.funcs.findIdx? (·.name== "internal/reflectlite" ++ ".Swapper$" ++toString 1)=some 249:=by kernel_rfl
 have uv:ay.funcs.findIdx? (·.name== "internal/reflectlite" ++ ".Swapper$" ++toString 2)=some 250:=by kernel_rfl
 have JW:ay.funcs.findIdx? (·.name== "internal/reflectlite" ++ ".Swapper$" ++toString 9)=some 257:=by kernel_rfl
 have Kq:∃f b1,ay.funcs.findIdx? (·.name== "internal/reflectlite" ++ ".Swapper$" ++toString (swapperK l.length ej ke))=some f/\(b1=(if swapperK l.length ej ke<=2 then []else [ai.row sz (.obj K) l.length,.cst (typeHandle ay el)]))/\
   bJ ay 248 [eV g f [.ptr (.obj B) 0] b1,.int .i64 l.length] (dP e K B el sz l) fun r ah=>r= .tuple []/\∃a6,ah=dP e K B el sz a6/\gl 0 l.length l a6/\e7 lt 0 l.length a6:=by
  have e0:=fun a6=>xb (K:=K) (B:=B) (el:=el) (sz:=sz) he a6;rcases(by omega:l.length=0\/l.length=1\/2<=l.length)with bA|J|U
  ·refine⟨249,[],by rw[bA];exact Cc,by rw[bA];rfl,JB (lt:=lt) ⟨e0,fun j3 gT _ _=>xc j3 gT,fun a6 _=>by simp[aP,aJ,inObs,dP,Pv.look],fun a6 _=>by simp[aP],by simp[ev,dr],rfl,au,fun a6 h=>xI a6 h,fun a6 _ U i j hi=>Ω⟩ bt l rfl⟩
  ·refine⟨250,[],by rw[J];exact uv,by rw[J];rfl,JB (lt:=lt) ⟨e0,fun j3 gT _ _=>xc j3 gT,fun a6 _=>by simp[aP,aJ,inObs,dP,Pv.look],fun a6 _=>by simp[aP],by simp[ev,dr],rfl,au,fun a6 h=>xI a6 h,fun a6 _ U i j hi ag=>Ω⟩ bt l rfl⟩
  ·refine⟨257,_,by rw[sW _ U];exact JW,rfl,?_⟩;rw[sW _ U];simp only[show¬((9:Nat)<=2)from by decide,if_false];exact JB (lt:=lt) ⟨e0,fun j3 gT _ _=>xc j3 gT,fun a6 _=>by simp[aP,aJ,inObs,dP,Pv.look],fun a6 _=>by simp[aP,aJ,inObs,dP,Pv.look],by simp[ev,dr],by simp[ev,dr],au,fun a6 h=>xI a6 h,fun a6 h _ i j hi ag=>zL a6 h i j hi ag⟩ bt l rfl
 obtain⟨f,b1,aO,Km,dh⟩:=Kq;intro w Z ba aW ae aK;have p4:=cS.start (xb he l).obj aW ae aK;have Ki:=aK;simp only[cR,bd]at aK;obtain⟨v0,vs1,hv0,⟨u,rfl,⟨b,cap,rfl⟩,iH,n',e3,ao,aF,bM⟩,v1,vs2,hv1,⟨qX,rfl,qO⟩,rfl⟩:=aK;have kU:ba= #[.iface t (.slice (some ⟨b,0,none⟩) l.length cap),.func (.func g) #[] qX]:=by apply Array.ext';rw[hv0,hv1]
 subst kU;have qM:∃fn,ay.funcs[(202:Nat)]? =some fn/\fn.body.isSome=true/\(fn.name== "runtime.NumGoroutine")=false:=⟨_,Tryz.func202,by kernel_rfl,by kernel_rfl⟩;refine .inl ⟨qM,?_⟩;obtain⟨dU,oJ⟩:∃dU,dU=(w.alloc (.cells #[.slice (some ⟨b,0,none⟩) l.length cap] t)).alloc (.cells #[typeHandle ay t,.pointer (some ⟨w.heap.size,0,none⟩),.int .u64 151] 214):=⟨_,rfl⟩;have jW:w.grownBy dU none:=by rw[oJ];exact RW _ _ _
 have Kj:=p4.grown jW;have kT:lx w Z dU Z:=⟨fun b o bj=>⟨bj,ET jW (aW.alt b o bj)⟩,fun _ _ _ h=>h,fun _ n u _ h=>⟨n,u,h,.inl ⟨rfl,rfl⟩⟩,fun b o bj=>wO (jW.block b (aW.alt b o bj) Ψ),fun _ _ _ _ h=>h⟩;have rN:Pv.Good (fx Z (dP e K B el sz l)) dU Z (dP e K B el sz l).b (dP e K B el sz l).e:=Kj.good.prMono fun bl _ h=>h;have pq:=Hm kT Ki;simp only[cR]at pq;obtain⟨a0,YK,sX,Cz,bz,YL,ld,afB,rfl⟩:=pq;simp at sX;obtain⟨rfl,rfl⟩:=sX;simp at ld;subst ld;have Kl:bd dU Z (.row sz (.obj K) l.length) (.slice (some ⟨b,0,none⟩) l.length cap):=by simp only[bd]at Cz;obtain⟨u,hu,h⟩:=Cz;simp at hu;obtain⟨_,rfl⟩:=hu;simp only[bd];exact h
 have nU:cR dU Z b1 (sliceBound ay el ej ke (some ⟨b,0,none⟩) l.length cap).toList:=by
  unfold sliceBound;rw[Km];split
  ·simp[cR]
  ·simp only[cR];exact⟨_,_,rfl,Kl,_,_,rfl,by simp[bd],rfl⟩
 have uo:cR dU Z [eV g f [.ptr (.obj B) 0] b1,.int .i64 l.length] (#[.agg #[.func (.func g) #[] qX,.func (.func f) #[] (sliceBound ay el ej ke (some ⟨b,0,none⟩) l.length cap)],.int .i64 l.length]:Array Value).toList:=by simp only[cR,eV];refine⟨_,_,rfl,?_,_,_,rfl,by simp[bd],rfl⟩;simp only[bd,dn];exact⟨_,rfl,_,_,rfl,⟨⟨qX,rfl,Hm kT qO⟩,rfl⟩,_,_,rfl,⟨⟨_,rfl,nU⟩,rfl⟩,rfl⟩
 have JT:=dh dU Z _ rN ae uo;have E1:∀args w,(callFunc 248 args).run ay w= .ok (.enter 248 args) w:=enters_of Tryz.func248 co rfl;rcases JT with⟨_,aq⟩|⟨v,w',aq,_⟩
 ·have J7:=alm t el i ej hi aG Cx s9 ke uz (some ⟨b,0,none⟩) l.length cap Ω f aO (.func g) #[] qX w
   (fun w'=> ∃ah bq,(∃a6,ah=dP e K B el sz a6/\gl 0 l.length l a6/\e7 lt 0 l.length a6)/\Pv.Good (fun bl=>fx Z (dP e K B el sz l) bl\/dU.heap.size<=bl) w' bq ah.b ah.e/\pe bq ah/\iX ah/\qt ⟨dU,Z,fx Z (dP e K B el sz l),0,cX (dP e K B el sz l)⟩ w' bq) (by
    rw[<-oJ];refine aq.mono ?_;rintro e w' ⟨v,r,ah,bq,rfl,⟨rfl,bI⟩,vQ,a1,bW,dd,dW⟩;simp only[bd,cR]at vQ;obtain⟨us,rfl,qS⟩:=vQ;have:us= #[]:=by apply Array.ext';simpa using qS
    subst this;exact⟨rfl,ah,bq,bI,a1,bW,dd,dW⟩)
  refine J7.mono ?_;rintro e w' ⟨rfl,ah,bq,⟨a6,rfl,FW,zK⟩,a1,bW,dd,dW⟩;refine⟨.tuple #[],.tuple [],_,bq,rfl,⟨rfl,a6,rfl,FW.perm,?_⟩,by simp[bd,cR],a1.prMono fun bl h _=>?_,bW,dd,⟨dW.os.trans jW.os,dW.tape.trans jW.tape,dW.output.trans jW.output,gZ jW.size dW.size,fun k ad hm=>?_,fun b o bj=>?_,fun b o bj=>?_,dW.obj,dW.obn,dW.row,dW.obr,dW.trd,fun k j b ab=>⟨(dW.trb k j b ab).1.imp id (fun h=>gZ jW.size h),(dW.trb k j b ab).2⟩,dW.trn,fun b o bj=>(dW.sh b o bj).trans (kT.sh b o bj)⟩⟩
  ·have tc:=FW.length;rw[<-tc]at zK;exact zK.pairwise
  ·rcases h with h|h
   ·exact .inl h
   ·exact .inr (gZ jW.size h)
  ·rw[dW.block k (Nat.lt_of_lt_of_le ad jW.size) hm];exact jW.block k ad Ψ
  ·obtain⟨aX,bg⟩:=dW.keep b o bj;exact⟨aX,bg.trans (kT.A b o bj).2⟩
  ·rcases dW.fresh b o bj with h|h|h
   ·exact .inl h
   ·exact .inr (.inl h)
   ·exact .inr (.inr (gZ jW.size h))
 ·rw[E1]at aq;cases aq
end
end
end Go.Proofs.YtohaalphocaebaaGreat
namespace Go.Proofs
section
open Go.Shelf
def Tryz.lays6_ren:Go.Shelf.Ren:=⟨fun|6=>126|10=>206|11=>207|12=>208|13=>209|14=>210|24=>258|25=>259|26=>260|27=>261|28=>262|29=>263|30=>264|31=>265|32=>266|33=>267|34=>278|35=>279|36=>280|37=>281|38=>282|39=>285|n=>n,fun|20=>20|26=>160|35=>214|0=>0|37=>216|3=>3|41=>163|44=>222|49=>254|51=>256|4=>4|54=>259|53=>258|58=>246|5=>5|9=>9|60=>265|64=>269|66=>272|67=>273|17=>17|32=>211|33=>212|82=>300|12=>12|75=>293|76=>294|77=>295|78=>296|79=>297|80=>298|n=>n,fun|n=>n⟩
theorem Tryz.lays6:Go.Proofs.LaysGg.n6 ay Tryz.lays6_ren:={
 mixed:=by kernel_rfl
 f6:=Tryz.func126.trans (e4 some co)
 f10:=Tryz.func206.trans (e4 some co)
 f11:=Tryz.func207.trans (e4 some co)
 f12:=Tryz.func208.trans (e4 some co)
 f13:=Tryz.func209.trans (e4 some co)
 f14:=Tryz.func210.trans (e4 some co)
 f24:=Tryz.func258.trans (e4 some co)
 f25:=Tryz.func259.trans (e4 some co)
 f26:=Tryz.func260.trans (e4 some co)
 f27:=Tryz.func261.trans (e4 some co)
 f28:=Tryz.func262.trans (e4 some co)
 f29:=Tryz.func263.trans (e4 some co)
 f30:=Tryz.func264.trans (e4 some co)
 f31:=Tryz.func265.trans (e4 some co)
 f32:=Tryz.func266.trans (e4 some co)
 f33:=Tryz.func267.trans (e4 some co)
 f34:=Tryz.func278.trans (e4 some co)
 f35:=Tryz.func279.trans (e4 some co)
 f36:=Tryz.func280.trans (e4 some co)
 f37:=Tryz.func281.trans (e4 some co)
 f38:=Tryz.func282.trans (e4 some co)
 f39:=Tryz.func285.trans (e4 some co)
 t0:=Tryz.underlying0
 a0:=Tryz.isAgg0
 z0:=Tryz.sizeOf0
 v0:=Tryz.zeroValue0
 i0:=by kernel_rfl
 t3:=Tryz.underlying3
 a3:=Tryz.isAgg3
 z3:=Tryz.sizeOf3
 v3:=Tryz.zeroValue3
 i3:=by kernel_rfl
 t4:=Tryz.underlying4
 a4:=Tryz.isAgg4
 z4:=Tryz.sizeOf4
 v4:=Tryz.zeroValue4
 i4:=by kernel_rfl
 t5:=Tryz.underlying5
 a5:=Tryz.isAgg5
 z5:=Tryz.sizeOf5
 v5:=Tryz.zeroValue5
 i5:=by kernel_rfl
 t9:=Tryz.underlying9
 a9:=Tryz.isAgg9
 z9:=Tryz.sizeOf9
 v9:=Tryz.zeroValue9
 i9:=by kernel_rfl
 t12:=Tryz.underlying12
 a12:=Tryz.isAgg12
 z12:=Tryz.sizeOf12
 v12:=Tryz.zeroValue12
 i12:=by kernel_rfl
 t17:=Tryz.underlying17
 a17:=Tryz.isAgg17
 z17:=Tryz.sizeOf17
 v17:=Tryz.zeroValue17
 i17:=by kernel_rfl
 t20:=Tryz.underlying20
 a20:=Tryz.isAgg20
 z20:=Tryz.sizeOf20
 v20:=Tryz.zeroValue20
 i20:=by kernel_rfl
 t26:=Tryz.underlying160
 a26:=Tryz.isAgg160
 z26:=Tryz.sizeOf160
 v26:=Tryz.zeroValue160
 i26:=by kernel_rfl
 t32:=Tryz.underlying211
 a32:=Tryz.isAgg211
 z32:=Tryz.sizeOf211
 v32:=Tryz.zeroValue211
 i32:=by kernel_rfl
 t33:=Tryz.underlying212
 a33:=Tryz.isAgg212
 z33:=Tryz.sizeOf212
 v33:=Tryz.zeroValue212
 i33:=by kernel_rfl
 t35:=Tryz.underlying214
 a35:=Tryz.isAgg214
 z35:=Tryz.sizeOf214
 v35:=Tryz.zeroValue214
 i35:=by kernel_rfl
 t37:=Tryz.underlying216
 a37:=Tryz.isAgg216
 z37:=Tryz.sizeOf216
 v37:=Tryz.zeroValue216
 i37:=by kernel_rfl
 t41:=Tryz.underlying163
 a41:=Tryz.isAgg163
 z41:=Tryz.sizeOf163
 v41:=Tryz.zeroValue163
 i41:=by kernel_rfl
 t44:=Tryz.underlying222
 a44:=Tryz.isAgg222
 z44:=Tryz.sizeOf222
 v44:=Tryz.zeroValue222
 i44:=by kernel_rfl
 t49:=Tryz.underlying254
 a49:=Tryz.isAgg254
 z49:=Tryz.sizeOf254
 v49:=Tryz.zeroValue254
 i49:=by kernel_rfl
 t51:=Tryz.underlying256
 a51:=Tryz.isAgg256
 z51:=Tryz.sizeOf256
 v51:=Tryz.zeroValue256
 i51:=by kernel_rfl
 t53:=Tryz.underlying258
 a53:=Tryz.isAgg258
 z53:=Tryz.sizeOf258
 v53:=Tryz.zeroValue258
 i53:=by kernel_rfl
 t54:=Tryz.underlying259
 a54:=Tryz.isAgg259
 z54:=Tryz.sizeOf259
 v54:=Tryz.zeroValue259
 i54:=by kernel_rfl
 t58:=Tryz.underlying246
 a58:=Tryz.isAgg246
 z58:=Tryz.sizeOf246
 v58:=Tryz.zeroValue246
 i58:=by kernel_rfl
 t60:=Tryz.underlying265
 a60:=Tryz.isAgg265
 z60:=Tryz.sizeOf265
 v60:=Tryz.zeroValue265
 i60:=by kernel_rfl
 t64:=Tryz.underlying269
 a64:=Tryz.isAgg269
 z64:=Tryz.sizeOf269
 v64:=Tryz.zeroValue269
 i64:=by kernel_rfl
 t66:=Tryz.underlying272
 a66:=Tryz.isAgg272
 z66:=Tryz.sizeOf272
 v66:=Tryz.zeroValue272
 i66:=by kernel_rfl
 t67:=Tryz.underlying273
 a67:=Tryz.isAgg273
 z67:=Tryz.sizeOf273
 v67:=Tryz.zeroValue273
 i67:=by kernel_rfl
 t75:=Tryz.underlying293
 a75:=Tryz.isAgg293
 z75:=Tryz.sizeOf293
 v75:=Tryz.zeroValue293
 i75:=by kernel_rfl
 t76:=Tryz.underlying294
 a76:=Tryz.isAgg294
 z76:=Tryz.sizeOf294
 v76:=Tryz.zeroValue294
 i76:=by kernel_rfl
 t77:=Tryz.underlying295
 a77:=Tryz.isAgg295
 z77:=Tryz.sizeOf295
 v77:=Tryz.zeroValue295
 i77:=by kernel_rfl
 t78:=Tryz.underlying296
 a78:=Tryz.isAgg296
 z78:=Tryz.sizeOf296
 v78:=Tryz.zeroValue296
 i78:=by kernel_rfl
 t79:=Tryz.underlying297
 a79:=Tryz.isAgg297
 z79:=Tryz.sizeOf297
 v79:=Tryz.zeroValue297
 i79:=by kernel_rfl
 t80:=Tryz.underlying298
 a80:=Tryz.isAgg298
 z80:=Tryz.sizeOf298
 v80:=Tryz.zeroValue298
 i80:=by kernel_rfl
 t82:=Tryz.underlying300
 a82:=Tryz.isAgg300
 z82:=Tryz.sizeOf300
 v82:=Tryz.zeroValue300
 i82:=by kernel_rfl}
end
end Go.Proofs
namespace Go.Proofs.YtohaalphocaebaaGreat
section
open Go Go.RowKit Go.Lib Go.Pv Go.Proofs
theorem YU(n:Nat)(h:n<1099511627776):Lib.bitLen n<=1000:=by
 have:∀f x,bitLenAux f x<=f:=by
  intro f;induction f with
  |zero=>intro x;simp[bitLenAux]
  |succ f bO=>
   intro x;rw[bitLenAux];split
   ·omega
   ·have:=bO (x/2);omega
 have:=this 64 n;unfold Lib.bitLen;omega
theorem ajT{α:Type}[Inhabited α]{lt:α->α->Bool}{l:List α}{cp:Array α}(h:Sort.PermIn 0 l.length l.toArray cp)(af:Sort.SortedIn lt 0 l.length cp):cp.toList.Perm l/\cp.toList.Pairwise fun x y=>lt y x=false:=by
 obtain⟨k2,_,z3⟩:=h;have ee:cp.size=l.length:=by simpa using k2
 have ao:cp.extract 0 l.length=cp:=by rw[<-ee];simp
 have aF:l.toArray.extract 0 l.length=l.toArray:=by simp
 rw[ao,aF]at z3;refine⟨by simpa using z3,?_⟩;rw[oX];intro i j hi ag lD;have J:=af i j Ω lD (by simpa[ee]using ag);have s8:i<cp.size:=by simpa using hi
 have jx:j<cp.size:=by simpa using ag
 rw[getElem!_pos cp i s8,getElem!_pos cp j jx]at J;simpa using J
section
variable {α:Type} {e:α->ai} (he:∀S x,aJ S (e x)) {K B el sz:Nat}
include he
theorem RB[Inhabited α](R4:K≠901/\K≠902)(R3:B≠901/\B≠902)(t:gG)(i ej:TypeInfo)(hi:ay.info? t=some i)(aG:i.desc= .slice el)(Cx:ay.packed t=false)(s9:ay.info? el=some ej)(ke:Nat)(uz:∀w,(X2 el).run ay w= .ok ke w)(sW:∀n,2<=n->swapperK n ej ke=9)
  (g:Nat) (lt:α->α->Bool) (bt:Sort.SWO lt) (l:List α) (au:l.length<=68719476736)
  (xI:∀a6:List α,a6.length=l.length->∀(i j:Nat) x y,a6[i]? =some x->a6[j]? =some y->bJ ay g [.int .i64 i,.int .i64 j,.ptr (.obj B) 0] (dP e K B el sz a6) fun r ah=>r= .bool (lt x y)/\ah=dP e K B el sz a6)
  (zL:∀a6:List α,a6.length=l.length->∀i j:Nat,i<l.length->j<l.length->bJ ay 257 [.int .i64 i,.int .i64 j,.row sz (.obj K) l.length,.cst (typeHandle ay el)] (dP e K B el sz a6) fun r ah=>r= .tuple []/\ah=dP e K B el sz (hd a6 i j)):
  bJ ay 126 [.iface t (.row sz (.obj K) l.length),.func g [.ptr (.obj B) 0]] (dP e K B el sz l) fun r ah=>r= .tuple []/\∃a6,ah=dP e K B el sz a6/\a6.Perm l/\a6.Pairwise fun x y=>lt y x=false:=by
 have Cc:ay.funcs.findIdx? (·.name== "internal/reflectlite" ++ ".Swapper$" ++toString 1)=some 249:=by kernel_rfl
 have uv:ay.funcs.findIdx? (·.name== "internal/reflectlite" ++ ".Swapper$" ++toString 2)=some 250:=by kernel_rfl
 have JW:ay.funcs.findIdx? (·.name== "internal/reflectlite" ++ ".Swapper$" ++toString 9)=some 257:=by kernel_rfl
 have FJ:sb (dP e K B el sz) 901:=fun l=>⟨by simp[dP,Pv.look,R3.1],by simp[dP,Pv.look,R4.1]⟩;have FK:sb (dP e K B el sz) 902:=fun l=>⟨by simp[dP,Pv.look,R3.2],by simp[dP,Pv.look,R4.2]⟩;have fk:=YU l.length Ω;have Kq:∃f b1,ay.funcs.findIdx? (·.name== "internal/reflectlite" ++ ".Swapper$" ++toString (swapperK l.length ej ke))=some f/\(b1=(if swapperK l.length ej ke<=2 then []else [ai.row sz (.obj K) l.length,.cst (typeHandle ay el)]))/\
   bJ ay 210 [eV g f [.ptr (.obj B) 0] b1,.int .i64 0,.int .i64 l.length,.int .i64 (Lib.bitLen l.length)] (dP e K B el sz l) fun r ah=>r= .tuple []/\∃a6,ah=dP e K B el sz a6/\a6.Perm l/\a6.Pairwise fun x y=>lt y x=false:=by
  have e0:=fun a6=>xb (K:=K) (B:=B) (el:=el) (sz:=sz) he a6;have key:∀{b8:Nat} {b1:List ai},e1 (dP e K B el sz) l.length g b8 [.ptr (.obj B) 0] b1 lt->bJ ay 210 [eV g b8 [.ptr (.obj B) 0] b1,.int .i64 0,.int .i64 l.length,.int .i64 (Lib.bitLen l.length)] (dP e K B el sz l) fun r ah=>r= .tuple []/\∃a6,ah=dP e K B el sz a6/\a6.Perm l/\a6.Pairwise fun x y=>lt y x=false:=by intro b8 b1 H;have:=adJ H FJ FK bt l.length l.toArray Ψ 0 l.length (Lib.bitLen l.length) Ω Ω (eC _) Ω (.inl rfl);simp only[Int.ofNat_zero,Int.natCast_zero,Int.cast_ofNat_Int]at this;refine bJ.mono this ?_;rintro r ah ⟨aZ,cp,bm,bP,cP⟩;obtain⟨cU,dq⟩:=ajT bP cP;exact⟨aZ,cp.toList,bm,cU,dq⟩
  rcases(by omega:l.length=0\/l.length=1\/2<=l.length)with bA|J|U
  ·refine⟨249,[],by rw[bA];exact Cc,by rw[bA];rfl,key ⟨e0,fun j3 gT _ _=>xc j3 gT,fun a6 _=>by simp[aP,aJ,inObs,dP,Pv.look],fun a6 _=>by simp[aP],by simp[ev,dr],rfl,au,fun a6 h=>xI a6 h,fun a6 _ U i j hi=>Ω⟩⟩
  ·refine⟨250,[],by rw[J];exact uv,by rw[J];rfl,key ⟨e0,fun j3 gT _ _=>xc j3 gT,fun a6 _=>by simp[aP,aJ,inObs,dP,Pv.look],fun a6 _=>by simp[aP],by simp[ev,dr],rfl,au,fun a6 h=>xI a6 h,fun a6 _ U i j hi ag=>Ω⟩⟩
  ·refine⟨257,_,by rw[sW _ U];exact JW,rfl,?_⟩;rw[sW _ U];simp only[show¬((9:Nat)<=2)from by decide,if_false];exact key ⟨e0,fun j3 gT _ _=>xc j3 gT,fun a6 _=>by simp[aP,aJ,inObs,dP,Pv.look],fun a6 _=>by simp[aP,aJ,inObs,dP,Pv.look],by simp[ev,dr],by simp[ev,dr],au,fun a6 h=>xI a6 h,fun a6 h _ i j hi ag=>zL a6 h i j hi ag⟩
 obtain⟨f,b1,aO,Km,dh⟩:=Kq;intro w Z ba aW ae aK;have p4:=cS.start (xb he l).obj aW ae aK;have Ki:=aK;simp only[cR,bd]at aK;obtain⟨v0,vs1,hv0,⟨u,rfl,⟨b,cap,rfl⟩,iH,n',e3,ao,aF,bM⟩,v1,vs2,hv1,⟨qX,rfl,qO⟩,rfl⟩:=aK;have kU:ba= #[.iface t (.slice (some ⟨b,0,none⟩) l.length cap),.func (.func g) #[] qX]:=by apply Array.ext';rw[hv0,hv1]
 subst kU;have qM:∃fn,ay.funcs[(126:Nat)]? =some fn/\fn.body.isSome=true/\(fn.name== "runtime.NumGoroutine")=false:=⟨_,Tryz.func126,by kernel_rfl,by kernel_rfl⟩;refine .inl ⟨qM,?_⟩;obtain⟨dU,oJ⟩:∃dU,dU=sliceWorld ay Tryz.lays6_ren t (some ⟨b,0,none⟩) l.length cap w:=⟨_,rfl⟩;have jW:w.grownBy dU none:=by rw[oJ];unfold sliceWorld;exact RW _ _ _
 have Kj:=p4.grown jW;have kT:lx w Z dU Z:=⟨fun b o bj=>⟨bj,ET jW (aW.alt b o bj)⟩,fun _ _ _ h=>h,fun _ n u _ h=>⟨n,u,h,.inl ⟨rfl,rfl⟩⟩,fun b o bj=>wO (jW.block b (aW.alt b o bj) Ψ),fun _ _ _ _ h=>h⟩;have rN:Pv.Good (fx Z (dP e K B el sz l)) dU Z (dP e K B el sz l).b (dP e K B el sz l).e:=Kj.good.prMono fun bl _ h=>h;have pq:=Hm kT Ki;simp only[cR]at pq;obtain⟨a0,YK,sX,Cz,bz,YL,ld,afB,rfl⟩:=pq;simp at sX;obtain⟨rfl,rfl⟩:=sX;simp at ld;subst ld;have Kl:bd dU Z (.row sz (.obj K) l.length) (.slice (some ⟨b,0,none⟩) l.length cap):=by simp only[bd]at Cz;obtain⟨u,hu,h⟩:=Cz;simp at hu;obtain⟨_,rfl⟩:=hu;simp only[bd];exact h
 have nU:cR dU Z b1 (sliceBound ay el ej ke (some ⟨b,0,none⟩) l.length cap).toList:=by
  unfold sliceBound;rw[Km];split
  ·simp[cR]
  ·simp only[cR];exact⟨_,_,rfl,Kl,_,_,rfl,by simp[bd],rfl⟩
 have uo:cR dU Z [eV g f [.ptr (.obj B) 0] b1,.int .i64 0,.int .i64 l.length,.int .i64 (Lib.bitLen l.length)] (#[.agg #[.func (.func g) #[] qX,.func (.func f) #[] (sliceBound ay el ej ke (some ⟨b,0,none⟩) l.length cap)],.int .i64 0,.int .i64 l.length,.int .i64 (Lib.bitLen l.length)]:Array Value).toList:=by simp only[cR,eV];refine⟨_,_,rfl,?_,_,_,rfl,by simp[bd],_,_,rfl,by simp[bd],_,_,rfl,by simp[bd],rfl⟩;simp only[bd,dn];exact⟨_,rfl,_,_,rfl,⟨⟨qX,rfl,Hm kT qO⟩,rfl⟩,_,_,rfl,⟨⟨_,rfl,nU⟩,rfl⟩,rfl⟩
 have JT:=dh dU Z _ rN ae uo;have E1:∀args w,(callFunc 210 args).run ay w= .ok (.enter 210 args) w:=enters_of Tryz.func210 co rfl;rcases JT with⟨_,aq⟩|⟨v,w',aq,_⟩
 ·have J7:=Any.sort_Slice_of_pdq Tryz.lays6 t el i ej hi aG Cx s9 ke uz (some ⟨b,0,none⟩) l.length cap Ω f aO (.func g) #[] qX w
   (fun w'=> ∃ah bq,(∃a6,ah=dP e K B el sz a6/\a6.Perm l/\a6.Pairwise fun x y=>lt y x=false)/\Pv.Good (fun bl=>fx Z (dP e K B el sz l) bl\/dU.heap.size<=bl) w' bq ah.b ah.e/\pe bq ah/\iX ah/\qt ⟨dU,Z,fx Z (dP e K B el sz l),0,cX (dP e K B el sz l)⟩ w' bq) (by
    rw[<-oJ];refine aq.mono ?_;rintro e w' ⟨v,r,ah,bq,rfl,⟨rfl,bI⟩,vQ,a1,bW,dd,dW⟩;simp only[bd,cR]at vQ;obtain⟨us,rfl,qS⟩:=vQ;have:us= #[]:=by apply Array.ext';simpa using qS
    subst this;exact⟨rfl,ah,bq,bI,a1,bW,dd,dW⟩)
  refine J7.mono ?_;rintro e w' ⟨rfl,ah,bq,⟨a6,rfl,FW,zK⟩,a1,bW,dd,dW⟩;refine⟨.tuple #[],.tuple [],_,bq,rfl,⟨rfl,a6,rfl,FW,zK⟩,by simp[bd,cR],a1.prMono fun bl h _=>?_,bW,dd,⟨dW.os.trans jW.os,dW.tape.trans jW.tape,dW.output.trans jW.output,gZ jW.size dW.size,fun k ad hm=>?_,fun b o bj=>?_,fun b o bj=>?_,dW.obj,dW.obn,dW.row,dW.obr,dW.trd,fun k j b ab=>⟨(dW.trb k j b ab).1.imp id (fun h=>gZ jW.size h),(dW.trb k j b ab).2⟩,dW.trn,fun b o bj=>(dW.sh b o bj).trans (kT.sh b o bj)⟩⟩
  ·rcases h with h|h
   ·exact .inl h
   ·exact .inr (gZ jW.size h)
  ·rw[dW.block k (Nat.lt_of_lt_of_le ad jW.size) hm];exact jW.block k ad Ψ
  ·obtain⟨aX,bg⟩:=dW.keep b o bj;exact⟨aX,bg.trans (kT.A b o bj).2⟩
  ·rcases dW.fresh b o bj with h|h|h
   ·exact .inl h
   ·exact .inr (.inl h)
   ·exact .inr (.inr (gZ jW.size h))
 ·rw[E1]at aq;cases aq
end
end
section
open Go Go.Pv Go.Lib
abbrev xa(l:List br):cM:=dP br.e 814 815 106 2 l
theorem UJ:∀(S:aL->Prop) (x:br),aJ S x.e:=fun S x=>by simp
theorem H4(l:List br):dN (xa l):=xb UJ l
theorem ag6:Sort.SWO (hK e9):=by
 refine⟨fun x=>?_,fun x y z J U=>?_,fun x y z J U=>?_⟩
 ·simp only[hK,hx];have:=lN.refl x;omega
 ·simp only[hK,eF]at*;exact lN.ltr J Ω
 ·simp only[hK,hx]at*;have ao:=lN.neg x y;have aF:=lN.neg y z;have bM:=lN.neg x z;have:=lN.tr z y x Ω Ω;omega
theorem adh(l:List br)(i j:Nat)(x y:br)(au:l.length<=68719476736)(hi:l[i]? =some x)(ag:l[j]? =some y):bJ ay 131 [.int .i64 i,.int .i64 j,.ptr (.obj 815) 0] (xa l) fun r ah=>r= .bool (hK e9 x y)/\ah=xa l:=by have af:=H4 l;obtain⟨l3,hE⟩:=fp.1 hi;obtain⟨eb,p2⟩:=fp.1 ag;unfold xa dP at af⊢;refine bJ.mk mixed j9 aaY ahQ Ψ af.obj fun aR cE=>?_;unfold OB;simp[l3,eb,hE,p2];(with_reducible repeat' first|refine aj ?_|refine aC (A5 _ _) ?_|refine aD (A5 _ _) ?_|simp[l3,eb,hE,p2]);refine cI.at _ (.inl rfl) af (Same.refl _) aE aE ?_;simp[cL,Vo,aT,aU,aS]
noncomputable def Tryz.maT:TypeInfo:=(ay.info? 26).get co
noncomputable def Tryz.maE:TypeInfo:=(ay.info? 106).get co
theorem Tryz.maK(n:Nat)(U:2<=n):Lib.swapperK n Tryz.maE 25=9:=by
 have a:Tryz.maE.hasPointers=true:=by kernel_rfl
 have b:Tryz.maE.bytes=24:=by kernel_rfl
 have c:(n==0)=false:=by simp;omega
 have d:(n==1)=false:=by simp;omega
 simp[Lib.swapperK,a,b,c,d]
theorem Ug{α β:Type}(f:α->β)(l:List α)(i j:Nat):(hd l i j).map f=hd (l.map f) i j:=by
 unfold hd;simp only[List.getElem?_map];cases l[i]? with
 |none=>simp
 |some x=>
  cases l[j]? with
  |none=>simp
  |some y=>simp[List.map_set]
theorem adV(l:List br)(au:l.length<=68719476736):bJ ay 126 [.iface 26 (.row 2 (.obj 814) l.length),.func 131 [.ptr (.obj 815) 0]] (xa l) fun r ah=>r= .tuple []/\ah=xa (n4 e9 l):=by
 refine(RB UJ (K:=814) (B:=815) (sz:=2) (by decide) (by decide) 26 Tryz.maT Tryz.maE co co co co 25 (fun _=>by kernel_rfl) Tryz.maK 131 (hK e9) ag6 l au (fun a6 h i j x y hi ag=>adh a6 i j x y Ω hi ag) (fun a6 h i j hi ag=>?_)).mono ?_
 ·have:=RN (P:=ay) false 257 (fun args W=>run_callFunc_extern Tryz.func257 co co co (e:=Ee false) co args W)
   106 Tryz.maE co (fun _=>by kernel_rfl) (H4 a6) (K:=814) (n:=l.length) (el:=106) (sz:=2) co (xs:=a6.map br.e) (by simp[dP,Pv.look,h]) i j hi ag
  refine this.mono ?_;rintro r ah ⟨rfl,rfl⟩;refine⟨rfl,?_⟩;simp[dP,cy,Ug,h]
 ·rintro r ah ⟨rfl,a6,rfl,J,U⟩;exact⟨rfl,by rw[W2 lN J U]⟩
def nX(l:List br):List ai:= .hdm l.length (List.range l.length)::l.flatMap fun m=>[m.e,.bool true]
def k7(m:br)(l:List br):List br:=if m∈l then l else l++[m]
theorem agH(a b:br):tl (.a [false,true]) a.e b.e=some (decide (a=b)):=by simp only[br.e,tl,ki,if_true,nE];congr 1;rw[pN];cases a;cases b;simp
theorem agI(a:br):wb (.a [false,true]) a.e=true:=by simp[br.e,wb,ki,-If]
theorem UN(m:br):∀l:List br,uR (.a [false,true]) m.e (.bool true) (l.flatMap fun m=>[m.e,.bool true])=some (if m∈l then some (l.flatMap fun m=>[m.e,.bool true])else none)
 |[]=>rfl
 |a::l=>by
  simp only[List.flatMap_cons,bV,b3,uR,agH];by_cases h:m=a
  ·subst h;simp
  ·have ck:decide (m=a)=false:=by simp[h]
   rw[ck];simp only[UN m l];by_cases hm:m∈l
   ·simp[hm]
   ·simp[hm,h]
@[simp]theorem aqp(m:br)(l:List br):oN (.a [false,true]) m.e (.bool true) (nX l)=some (nX (k7 m l)):=by
 simp only[nX,oN,agI,Bool.true_eq_false,reduceCtorEq,if_false,UN,k7];by_cases h:m∈l
 ·simp[h]
 ·simp[h,List.range_succ]
end
section
open Go Go.Pv
@[simp]theorem zY(S:aL->Prop)(l:List br):aP S (nX l)=True:=by
 refine eq_true ?_;unfold nX;have:∀l:List br,aP S (l.flatMap fun m=>[m.e,ai.bool true]):=fun l=>by
  induction l with
  |nil=>simp[aP]
  |cons x r bO=>simp only[List.flatMap_cons,bV,b3,aP,agM,aJ,true_and];exact bO
 simp only[aP,aJ,true_and];exact this l
@[simp]theorem ap8:[ai.hdm 0 []]=nX []:=rfl
def oo(tag:List c4)(l:List br):cM:=⟨[(.obj 811,[.str tag]),(.obj 812,nX l),(.obj 813,[.gmap (.obj 812)])],[]⟩
theorem En(tag:List c4)(l:List br):dN (oo tag l):=by unfold oo;refine dN.of ⟨by intro m;simp[Pv.look],by intro m;simp[Pv.look]⟩ f8 Ψ
theorem H5(tag:List c4)(l a6:List br):Same (oo tag l) (oo tag a6):=Same.keys (by simp[oo]) (by simp[oo])
theorem adg(tag:List c4)(v:Int)(l:List br):bJ ay 130 [.int .i64 v,.ptr (.obj 813) 0,.ptr (.obj 811) 0] (oo tag l) fun r ah=>r= .tuple []/\ah=oo tag (k7 ⟨v,tag⟩ l):=by have af:=En tag l;have eL:=En tag (k7 ⟨v,tag⟩ l);have dT:=H5 tag l (k7 ⟨v,tag⟩ l);unfold oo at af eL dT⊢;refine bJ.mk mixed j9 aaX ahP Ψ af.obj fun aR cE=>?_;unfold OA;simp;refine cI.at _ (.inr rfl) eL dT aE aE ?_;simp[cL,Vn,aT,aU,aS]
end
section
open Go Go.Pv Go.Lib
abbrev vi(l:List b4):cM:=dP b4.e 803 804 104 2 l
theorem TK:∀(S:aL->Prop) (x:b4),aJ S x.e:=fun S x=>by simp
theorem El(l:List b4):dN (vi l):=xb TK l
def wk(x y:b4):Bool:=decide (x.v<y.v)
theorem ag5:Sort.SWO wk:=⟨fun x=>by simp[wk],fun x y z J U=>by simp[wk]at*;omega,fun x y z J U=>by simp[wk]at*;omega⟩
theorem adi(l:List b4)(i j:Nat)(x y:b4)(au:l.length<=68719476736)(hi:l[i]? =some x)(ag:l[j]? =some y):bJ ay 127 [.int .i64 i,.int .i64 j,.ptr (.obj 804) 0] (vi l) fun r ah=>r= .bool (wk x y)/\ah=vi l:=by have af:=El l;obtain⟨l3,hE⟩:=fp.1 hi;obtain⟨eb,p2⟩:=fp.1 ag;unfold vi dP at af⊢;refine bJ.mk mixed j9 aaZ ahR Ψ af.obj fun aR cE=>?_;unfold OC;simp[l3,eb,hE,p2];(with_reducible repeat' first|refine aj ?_|simp);refine cI.at _ (.inl rfl) af (Same.refl _) aE aE ?_;simp[cL,Vp,aT,aU,aS,wk]
noncomputable def Tryz.vkT:TypeInfo:=(ay.info? 25).get co
noncomputable def Tryz.vkE:TypeInfo:=(ay.info? 104).get co
theorem Tryz.vkK(n:Nat)(U:2<=n):Lib.swapperK n Tryz.vkE 25=9:=by
 have a:Tryz.vkE.hasPointers=false:=by kernel_rfl
 have b:Tryz.vkE.bytes=16:=by kernel_rfl
 have c:(n==0)=false:=by simp;omega
 have d:(n==1)=false:=by simp;omega
 simp[Lib.swapperK,a,b,c,d]
theorem ag4{α β:Type}(f:α->β)(l:List α)(i j:Nat):(hd l i j).map f=hd (l.map f) i j:=by
 unfold hd;simp only[List.getElem?_map];cases l[i]? with
 |none=>simp
 |some x=>
  cases l[j]? with
  |none=>simp
  |some y=>simp[List.map_set]
theorem RL(l:List b4)(au:l.length<=68719476736):bJ ay 126 [.iface 25 (.row 2 (.obj 803) l.length),.func 127 [.ptr (.obj 804) 0]] (vi l) fun r ah=>r= .tuple []/\∃a6,ah=vi a6/\a6.Perm l/\a6.Pairwise fun x y=>wk y x=false:=by
 refine(RB TK (K:=803) (B:=804) (sz:=2) (by decide) (by decide) 25 Tryz.vkT Tryz.vkE co co co co 25 (fun _=>by kernel_rfl) Tryz.vkK 127 wk ag5 l au (fun a6 h i j x y hi ag=>adi a6 i j x y Ω hi ag) (fun a6 h i j hi ag=>?_));have:=RN (P:=ay) false 257 (fun args W=>run_callFunc_extern Tryz.func257 co co co (e:=Ee false) co args W)
  104 Tryz.vkE co (fun _=>by kernel_rfl) (El a6) (K:=803) (n:=l.length) (el:=104) (sz:=2) co (xs:=a6.map b4.e) (by simp[dP,Pv.look,h]) i j hi ag
 refine this.mono ?_;rintro r ah ⟨rfl,rfl⟩;refine⟨rfl,?_⟩;simp[dP,cy,ag4,h]
end
section
open Go Go.Pv
def fo(o:Option (List b4)):ai:= .tuple [.slice 2 .no ((o.getD []).map b4.e),.bool o.isSome]
@[simp]theorem apT(S:aL->Prop)(o:Option (List b4)):aJ S (fo o)=True:=by simp[fo]
theorem Xo{l:List b4}(h:ir l):bZ ay 56 [.slice 2 .no (l.map b4.e)] (.bool true):=by have:=amd l;simpa only[h,decide_true]using this
theorem Np{t:T}(h:t.fit=true):bZ ay 117 [t.e] (.bool true):=by have:=amo t;rwa[h]at this
theorem Nk{s:List ak}(af:eB s){l:List b4}(au:ir l)(t:T)(aI:t.fit=true)(k:Int):
  bZ ay 52 [.slice 5 .no (s.map ak.e),.slice 2 .no (l.map b4.e),t.e,.int .i64 k] (fo (if(k=2\/k=3)/\(t.ap (aY s)).size<=5000 then hM l (t.ap (aY s)) k else none)):=by
 have tc:=uG au;have c9:=ql af;have du:=Np aI;have di:=Xo au;have fm:=D5 s t af.len af.sol.asc af.fit;generalize ae:t.ap (aY s)=x at fm⊢;generalize c7:(if(k=2\/k=3)/\x.size<=5000 then hM l x k else none)=O;by_cases ad:k=2\/k=3;rotate_left
 ·have gn:(k !=2)=true:=by simp;omega
  have lf:(k !=3)=true:=by simp;omega
  rw[if_neg (fun h=>ad h.1)]at c7;rw[<-c7];refine bE j9 rA sc fun aR=>?_;unfold qC;simp;(with_reducible repeat' first|refine aj ?_|refine aC c9 ?_|refine aD c9 ?_|refine aC du ?_|refine aD du ?_|refine aC di ?_|refine aD di ?_|simp[gn,lf]);simp[bn,j8,aT,aU,aS];simp[fo]
 by_cases bk:x.size<=5000;rotate_left
 ·rw[if_neg (fun h=>bk h.2)]at c7;rw[<-c7];rw[if_neg bk,lT bk]at fm;refine bE j9 rA sc fun aR=>?_;unfold qC;simp;rcases ad with rfl|rfl;all_goals(with_reducible repeat' first|refine aj ?_|refine aC c9 ?_|refine aD c9 ?_|refine aC du ?_|refine aD du ?_|refine aC di ?_|refine aD di ?_|refine aC fm ?_|refine aD fm ?_|simp)
  all_goals simp[bn,j8,aT,aU,aS]
  all_goals simp[fo]
 rw[if_pos ⟨ad,bk⟩]at c7;rw[if_pos bk,jS bk]at fm;have vJ:(k !=2)=true->(k !=3)=false:=fun h=>by simp at h⊢;omega
 have uy:((k !=2)=false)\/((k !=2)=true/\(k !=3)=false):=by
  rcases ad with rfl|rfl
  ·left;rfl
  ·right;exact⟨rfl,rfl⟩
 clear vJ;cases x with
 |var n=>
  have dQ:O=match kV l n with|some bN=>if bN=k then some l else none|none=>some (lJ ⟨n,k⟩ l):=by rw[<-c7];rfl
  refine bE j9 rA sc fun aR=>?_;unfold qC;simp;rcases uy with bI|⟨bI,kC⟩
  ·(with_reducible repeat' first|refine aj ?_|refine aC c9 ?_|refine aD c9 ?_|refine aC du ?_|refine aD du ?_|refine aC di ?_|refine aD di ?_|refine aC fm ?_|refine aD fm ?_|simp[bI]);refine eQ [3,10,12,55,56] (fun i (_:Unit)=>[(57,.int .i64 i)]) l.length (fun i _=> ∀j y,j<i->l[j]? =some y->y.v≠n) () cb (fun j y ag=>Ω) (fun _ ag _=>?_) (fun i _ hi ag _=>?_)
   ·have aW:kV l n=none:=xX.2 fun y aM=>by obtain⟨m,hm,e⟩:=od aM;exact ag m y hm (by rw[cr hm,e])
    rw[aW]at dQ;simp only at dQ;simp;(with_reducible repeat' first|refine aj ?_|simp);all_goals first|(refine⟨by unfold lim;omega,?_⟩)|skip
    have key:=RL (l++[⟨n,k⟩]) d8;have e0:=El (l++[⟨n,k⟩]);have hlen:(l++[(⟨n,k⟩:b4)]).length=l.length+1:=by simp
    unfold vi dP at key e0;rw[hlen,List.map_append,eO,hn]at key e0;refine cA.ob key e0 aE aE (by simp[inObs,Pv.look]) ?_;rintro r ah ⟨rfl,a6,rfl,J,U⟩;have tb:a6=lJ ⟨n,k⟩ l:=TL (J.trans ((List.perm_append_comm (l₁:=l) (l₂:=[⟨n,k⟩])).trans (KI ⟨n,k⟩ l).symm)) (F4 au.asc (xX.1 aW)) U;subst tb;refine⟨Same.keys Ψ Ψ,?_⟩;rw[dQ];simp[bX];(with_reducible repeat' first|refine aj ?_|simp);simp[bn,j8,aT,aU,aS];simp[fo]
   ·obtain⟨b,ab,cq⟩:=fb hi;by_cases l0:b.v=n
    ·have aW:kV l n=some b.k:=by rw[<-l0];exact Gf au.asc (eZ ab)
     rw[aW]at dQ;simp only at dQ;by_cases oB:b.k=k
     ·rw[if_pos oB]at dQ;rw[dQ];have xy:(b.k !=k)=false:=by simp[oB]
      have rK:(b.v==n)=true:=by simp[l0]
      simp[hi,cq];(with_reducible repeat' first|refine aj ?_|simp[cq,hi,xy,rK,oB,l0]);simp[bn,j8,aT,aU,aS];simp[fo]
     ·rw[if_neg oB]at dQ;rw[dQ];have xy:(b.k !=k)=true:=by simp[oB]
      have rK:(b.v==n)=true:=by simp[l0]
      simp[hi,cq];(with_reducible repeat' first|refine aj ?_|simp[cq,hi,xy,rK,oB,l0]);simp[bn,j8,aT,aU,aS];simp[fo]
    ·have rK:(b.v==n)=false:=by simp[l0]
     simp[hi,cq];(with_reducible repeat' first|refine aj ?_|simp[cq,hi,rK,l0]);exact bR.rng () hi (fun j y jx aM=>by
      rcases(by omega:j<i\/j=i)with h|rfl
      ·exact ag j y h aM
      ·rw[ab]at aM;cases aM;exact l0) cb
  ·(with_reducible repeat' first|refine aj ?_|refine aC c9 ?_|refine aD c9 ?_|refine aC du ?_|refine aD du ?_|refine aC di ?_|refine aD di ?_|refine aC fm ?_|refine aD fm ?_|simp[bI,kC]);refine eQ [3,10,12,55,56] (fun i (_:Unit)=>[(57,.int .i64 i)]) l.length (fun i _=> ∀j y,j<i->l[j]? =some y->y.v≠n) () cb (fun j y ag=>Ω) (fun _ ag _=>?_) (fun i _ hi ag _=>?_)
   ·have aW:kV l n=none:=xX.2 fun y aM=>by obtain⟨m,hm,e⟩:=od aM;exact ag m y hm (by rw[cr hm,e])
    rw[aW]at dQ;simp only at dQ;simp;(with_reducible repeat' first|refine aj ?_|simp);all_goals first|(refine⟨by unfold lim;omega,?_⟩)|skip
    have key:=RL (l++[⟨n,k⟩]) d8;have e0:=El (l++[⟨n,k⟩]);have hlen:(l++[(⟨n,k⟩:b4)]).length=l.length+1:=by simp
    unfold vi dP at key e0;rw[hlen,List.map_append,eO,hn]at key e0;refine cA.ob key e0 aE aE (by simp[inObs,Pv.look]) ?_;rintro r ah ⟨rfl,a6,rfl,J,U⟩;have tb:a6=lJ ⟨n,k⟩ l:=TL (J.trans ((List.perm_append_comm (l₁:=l) (l₂:=[⟨n,k⟩])).trans (KI ⟨n,k⟩ l).symm)) (F4 au.asc (xX.1 aW)) U;subst tb;refine⟨Same.keys Ψ Ψ,?_⟩;rw[dQ];simp[bX];(with_reducible repeat' first|refine aj ?_|simp);simp[bn,j8,aT,aU,aS];simp[fo]
   ·obtain⟨b,ab,cq⟩:=fb hi;by_cases l0:b.v=n
    ·have aW:kV l n=some b.k:=by rw[<-l0];exact Gf au.asc (eZ ab)
     rw[aW]at dQ;simp only at dQ;by_cases oB:b.k=k
     ·rw[if_pos oB]at dQ;rw[dQ];have xy:(b.k !=k)=false:=by simp[oB]
      have rK:(b.v==n)=true:=by simp[l0]
      simp[hi,cq];(with_reducible repeat' first|refine aj ?_|simp[cq,hi,xy,rK,oB,l0]);simp[bn,j8,aT,aU,aS];simp[fo]
     ·rw[if_neg oB]at dQ;rw[dQ];have xy:(b.k !=k)=true:=by simp[oB]
      have rK:(b.v==n)=true:=by simp[l0]
      simp[hi,cq];(with_reducible repeat' first|refine aj ?_|simp[cq,hi,xy,rK,oB,l0]);simp[bn,j8,aT,aU,aS];simp[fo]
    ·have rK:(b.v==n)=false:=by simp[l0]
     simp[hi,cq];(with_reducible repeat' first|refine aj ?_|simp[cq,hi,rK,l0]);exact bR.rng () hi (fun j y jx aM=>by
      rcases(by omega:j<i\/j=i)with h|rfl
      ·exact ag j y h aM
      ·rw[ab]at aM;cases aM;exact l0) cb
 |nil=>
  have dQ:O=if T.nil.kind=k then some l else none:=by rw[<-c7];rfl
  by_cases hq:T.nil.kind=k
  ·rw[if_pos hq]at dQ;rw[dQ];refine bE j9 rA sc fun aR=>?_;unfold qC;simp;simp at hq;rcases uy with bI|⟨bI,kC⟩
   ·((with_reducible repeat' first|refine aj ?_|refine aC c9 ?_|refine aD c9 ?_|refine aC du ?_|refine aD du ?_|refine aC di ?_|refine aD di ?_|refine aC fm ?_|refine aD fm ?_|simp[bI,hq]|((first|apply bD|apply bH|apply bG)<;>intro h<;>try simp at h))<;>(try exact b2));all_goals simp[bn,j8,aT,aU,aS]
    all_goals simp[fo]
   ·((with_reducible repeat' first|refine aj ?_|refine aC c9 ?_|refine aD c9 ?_|refine aC du ?_|refine aD du ?_|refine aC di ?_|refine aD di ?_|refine aC fm ?_|refine aD fm ?_|simp[bI,kC,hq]|((first|apply bD|apply bH|apply bG)<;>intro h<;>try simp at h))<;>(try exact b2));all_goals simp[bn,j8,aT,aU,aS]
    all_goals simp[fo]
  ·rw[if_neg hq]at dQ;rw[dQ];refine bE j9 rA sc fun aR=>?_;unfold qC;simp;simp at hq;rcases uy with bI|⟨bI,kC⟩
   ·((with_reducible repeat' first|refine aj ?_|refine aC c9 ?_|refine aD c9 ?_|refine aC du ?_|refine aD du ?_|refine aC di ?_|refine aD di ?_|refine aC fm ?_|refine aD fm ?_|simp[bI,hq]|((first|apply bD|apply bH|apply bG)<;>intro h<;>try simp at h))<;>(try exact b2));all_goals simp[bn,j8,aT,aU,aS]
    all_goals simp[fo]
   ·((with_reducible repeat' first|refine aj ?_|refine aC c9 ?_|refine aD c9 ?_|refine aC du ?_|refine aD du ?_|refine aC di ?_|refine aD di ?_|refine aC fm ?_|refine aD fm ?_|simp[bI,kC,hq]|((first|apply bD|apply bH|apply bG)<;>intro h<;>try simp at h))<;>(try exact b2));all_goals simp[bn,j8,aT,aU,aS]
    all_goals simp[fo]
 |sym a=>
  have dQ:O=if(T.sym a).kind=k then some l else none:=by rw[<-c7];rfl
  by_cases hq:(T.sym a).kind=k
  ·rw[if_pos hq]at dQ;rw[dQ];refine bE j9 rA sc fun aR=>?_;unfold qC;simp;simp at hq;rcases uy with bI|⟨bI,kC⟩
   ·((with_reducible repeat' first|refine aj ?_|refine aC c9 ?_|refine aD c9 ?_|refine aC du ?_|refine aD du ?_|refine aC di ?_|refine aD di ?_|refine aC fm ?_|refine aD fm ?_|simp[bI,hq]|((first|apply bD|apply bH|apply bG)<;>intro h<;>try simp at h))<;>(try exact b2));all_goals simp[bn,j8,aT,aU,aS]
    all_goals simp[fo]
   ·((with_reducible repeat' first|refine aj ?_|refine aC c9 ?_|refine aD c9 ?_|refine aC du ?_|refine aD du ?_|refine aC di ?_|refine aD di ?_|refine aC fm ?_|refine aD fm ?_|simp[bI,kC,hq]|((first|apply bD|apply bH|apply bG)<;>intro h<;>try simp at h))<;>(try exact b2));all_goals simp[bn,j8,aT,aU,aS]
    all_goals simp[fo]
  ·rw[if_neg hq]at dQ;rw[dQ];refine bE j9 rA sc fun aR=>?_;unfold qC;simp;simp at hq;rcases uy with bI|⟨bI,kC⟩
   ·((with_reducible repeat' first|refine aj ?_|refine aC c9 ?_|refine aD c9 ?_|refine aC du ?_|refine aD du ?_|refine aC di ?_|refine aD di ?_|refine aC fm ?_|refine aD fm ?_|simp[bI,hq]|((first|apply bD|apply bH|apply bG)<;>intro h<;>try simp at h))<;>(try exact b2));all_goals simp[bn,j8,aT,aU,aS]
    all_goals simp[fo]
   ·((with_reducible repeat' first|refine aj ?_|refine aC c9 ?_|refine aD c9 ?_|refine aC du ?_|refine aD du ?_|refine aC di ?_|refine aD di ?_|refine aC fm ?_|refine aD fm ?_|simp[bI,kC,hq]|((first|apply bD|apply bH|apply bG)<;>intro h<;>try simp at h))<;>(try exact b2));all_goals simp[bn,j8,aT,aU,aS]
    all_goals simp[fo]
 |num a=>
  have dQ:O=if(T.num a).kind=k then some l else none:=by rw[<-c7];rfl
  by_cases hq:(T.num a).kind=k
  ·rw[if_pos hq]at dQ;rw[dQ];refine bE j9 rA sc fun aR=>?_;unfold qC;simp;simp at hq;rcases uy with bI|⟨bI,kC⟩
   ·((with_reducible repeat' first|refine aj ?_|refine aC c9 ?_|refine aD c9 ?_|refine aC du ?_|refine aD du ?_|refine aC di ?_|refine aD di ?_|refine aC fm ?_|refine aD fm ?_|simp[bI,hq]|((first|apply bD|apply bH|apply bG)<;>intro h<;>try simp at h))<;>(try exact b2));all_goals simp[bn,j8,aT,aU,aS]
    all_goals simp[fo]
   ·((with_reducible repeat' first|refine aj ?_|refine aC c9 ?_|refine aD c9 ?_|refine aC du ?_|refine aD du ?_|refine aC di ?_|refine aD di ?_|refine aC fm ?_|refine aD fm ?_|simp[bI,kC,hq]|((first|apply bD|apply bH|apply bG)<;>intro h<;>try simp at h))<;>(try exact b2));all_goals simp[bn,j8,aT,aU,aS]
    all_goals simp[fo]
  ·rw[if_neg hq]at dQ;rw[dQ];refine bE j9 rA sc fun aR=>?_;unfold qC;simp;simp at hq;rcases uy with bI|⟨bI,kC⟩
   ·((with_reducible repeat' first|refine aj ?_|refine aC c9 ?_|refine aD c9 ?_|refine aC du ?_|refine aD du ?_|refine aC di ?_|refine aD di ?_|refine aC fm ?_|refine aD fm ?_|simp[bI,hq]|((first|apply bD|apply bH|apply bG)<;>intro h<;>try simp at h))<;>(try exact b2));all_goals simp[bn,j8,aT,aU,aS]
    all_goals simp[fo]
   ·((with_reducible repeat' first|refine aj ?_|refine aC c9 ?_|refine aD c9 ?_|refine aC du ?_|refine aD du ?_|refine aC di ?_|refine aD di ?_|refine aC fm ?_|refine aD fm ?_|simp[bI,kC,hq]|((first|apply bD|apply bH|apply bG)<;>intro h<;>try simp at h))<;>(try exact b2));all_goals simp[bn,j8,aT,aU,aS]
    all_goals simp[fo]
 |pair a b=>
  have dQ:O=if(T.pair a b).kind=k then some l else none:=by rw[<-c7];rfl
  by_cases hq:(T.pair a b).kind=k
  ·rw[if_pos hq]at dQ;rw[dQ];refine bE j9 rA sc fun aR=>?_;unfold qC;simp;simp at hq;rcases uy with bI|⟨bI,kC⟩
   ·((with_reducible repeat' first|refine aj ?_|refine aC c9 ?_|refine aD c9 ?_|refine aC du ?_|refine aD du ?_|refine aC di ?_|refine aD di ?_|refine aC fm ?_|refine aD fm ?_|simp[bI,hq]|((first|apply bD|apply bH|apply bG)<;>intro h<;>try simp at h))<;>(try exact b2));all_goals simp[bn,j8,aT,aU,aS]
    all_goals simp[fo]
   ·((with_reducible repeat' first|refine aj ?_|refine aC c9 ?_|refine aD c9 ?_|refine aC du ?_|refine aD du ?_|refine aC di ?_|refine aD di ?_|refine aC fm ?_|refine aD fm ?_|simp[bI,kC,hq]|((first|apply bD|apply bH|apply bG)<;>intro h<;>try simp at h))<;>(try exact b2));all_goals simp[bn,j8,aT,aU,aS]
    all_goals simp[fo]
  ·rw[if_neg hq]at dQ;rw[dQ];refine bE j9 rA sc fun aR=>?_;unfold qC;simp;simp at hq;rcases uy with bI|⟨bI,kC⟩
   ·((with_reducible repeat' first|refine aj ?_|refine aC c9 ?_|refine aD c9 ?_|refine aC du ?_|refine aD du ?_|refine aC di ?_|refine aD di ?_|refine aC fm ?_|refine aD fm ?_|simp[bI,hq]|((first|apply bD|apply bH|apply bG)<;>intro h<;>try simp at h))<;>(try exact b2));all_goals simp[bn,j8,aT,aU,aS]
    all_goals simp[fo]
   ·((with_reducible repeat' first|refine aj ?_|refine aC c9 ?_|refine aD c9 ?_|refine aC du ?_|refine aD du ?_|refine aC di ?_|refine aD di ?_|refine aC fm ?_|refine aD fm ?_|simp[bI,kC,hq]|((first|apply bD|apply bH|apply bG)<;>intro h<;>try simp at h))<;>(try exact b2));all_goals simp[bn,j8,aT,aU,aS]
    all_goals simp[fo]
def ix(o:Option (List br)):ai:= .tuple [.slice 2 .no ((o.getD []).map br.e),.bool o.isSome]
@[simp]theorem apV(S:aL->Prop)(o:Option (List br)):aJ S (ix o)=True:=by simp[ix]
theorem Xp{l:List br}(h:jM l):bZ ay 57 [.slice 2 .no (l.map br.e)] (.bool true):=by have:=ami l;simpa only[h,decide_true]using this
theorem amb{s:List c4}(h:ji s=true):bZ ay 128 [.str s] (.bool true):=by have:=tK s;rwa[h]at this
def C5(l:List br):List ai:=l.flatMap fun m=>[m.e,.bool true]
theorem Ul(l:List br):nX l= .hdm l.length (List.range l.length)::C5 l:=rfl
theorem Lk(b:Nat):∀(n:Nat) (l:List br),mO b (List.range' n l.length) (C5 l)=(if n<=b then(l[b-n]?).map fun x=>.tuple [x.e,.bool true]else none)
 |n,[]=>by simp[mO,C5]
 |n,x::r=>by
  have e:C5 (x::r)=x.e:: .bool true::C5 r:=rfl;simp only[oe,List.range'_succ,e,mO];by_cases h:n=b
  ·subst h;simp
  ·rw[if_neg h,Lk b (n+1) r];by_cases U:n<=b
   ·rw[if_pos U,if_pos Ω];have:b-n=(b-(n+1))+1:=Ω
    rw[this];simp
   ·rw[if_neg U,if_neg Ω]
@[simp]theorem aqD(l:List br):hS (nX l)=false:=rfl
@[simp]theorem aqM(m:aL)(l:List br):yq m (nX l)=some (cx l.length [] m):=rfl
theorem ahg(f:aL->Option (List ai))(fl mk:aL)(n:Nat)(seen:List Nat)(b:Nat)(l:List br)(x:br)(hi:f fl=some (cx n (seen++[b]) mk))(hm:f mk=some (nX l))(az:n=l.length)(ae:l[b]? =some x):pB f (.ptr fl 0)=some (True,.tuple [x.e,.bool true]):=by subst az;simp only[Uu,hi,hm,cx,Ul,List.getLast?_append,List.getLast?_singleton,Option.some_or,List.range_eq_range',Lk,Nat.zero_le,if_true,Nat.sub_zero,Option.map_map];simp[ae]
theorem Z7{st:bo}{d:Nat}{K:bo->Prop}{fl mk:aL}{n:Nat}{seen:List Nat}{l:List br}(hi:Pv.look fl st.b=some (cx n seen mk))(hm:Pv.look mk st.b=some (nX l))(az:n=l.length)
  (J:(∀b,b<l.length->b∈seen)->K {st with t:=Pv.put d (.tuple [.bool false]) st.t}) (U:∀b x,l[b]? =some x->b∉seen->K {st with t:=Pv.put d (.tuple [.bool true,x.e,.bool true]) st.t,b:=cy fl (cx n (seen++[b]) mk) st.b}):
  sS st d (.ptr fl 0) K:=by
 subst az;simp only[sS,hi,cx,hm,Ul,Ly,and_self,true_and];refine⟨fun h=>J fun b ab=>h b (by simpa using ab),fun b k v xK ab=>?_⟩;rw[List.range_eq_range',Lk]at xK;simp only[Nat.zero_le,if_true,Nat.sub_zero,gr,ai.tuple.injEq,yO,and_true]at xK;obtain⟨x,ao,aF,bM⟩:=xK;subst aF bM;exact U b x ao ab
theorem aha{m x:br}{l:List br}:x∈k7 m l↔x=m\/x∈l:=by
 unfold k7;split
 ·constructor
  ·exact .inr
  ·rintro(rfl|h)<;>assumption
 ·simp[or_comm]
theorem Yv{m:br}{l:List br}(h:l.Nodup):(k7 m l).Nodup:=by
 unfold k7;split
 ·exact h
 ·rw[List.nodup_append];exact⟨h,Ψ,fun a a7 b ab=>by simp at ab;subst ab;intro e;subst e;contradiction⟩
theorem Yu(m:br)(l:List br):(k7 m l).length<=l.length+1:=by unfold k7;split<;>simp
theorem ac4(s:List c4)(t:T):∀l:List br,(t.fold (fun v l=>k7 ⟨v,s⟩ l) l).length<=l.length+t.size:=by
 induction t with
 |var n=>intro l;simp only[T.fold,T.size];exact Yu _ _
 |pair a b dB dC=>intro l;simp only[T.fold,T.size];have:=dB l;have:=dC (a.fold (fun v l=>k7 ⟨v,s⟩ l) l);omega
 |_=>intro l;simp[T.fold,T.size]
theorem ac5(s:List c4)(t:T):∀{l:List br},l.Nodup->(t.fold (fun v l=>k7 ⟨v,s⟩ l) l).Nodup:=by
 induction t with
 |var n=>intro l h;exact Yv h
 |pair a b dB dC=>intro l h;exact dC (dB h)
 |_=>intro l h;exact h
theorem ahb(s:List c4)(t:T)(x:br):∀{l:List br},x∈t.fold (fun v l=>k7 ⟨v,s⟩ l) l↔x∈l\/(x.s=s/\t.occ x.v=true):=by
 induction t with
 |var n=>
  intro l;simp only[T.fold,aha,T.occ,dM];constructor
  ·rintro(rfl|h)
   ·exact .inr ⟨rfl,rfl⟩
   ·exact .inl h
  ·rintro(h|⟨J,U⟩)
   ·exact .inr h
   ·left;cases x;simp at J U;subst J U;rfl
 |pair a b dB dC=>
  intro l;simp only[T.fold,dC,dB,T.occ,ls];constructor
  ·rintro((h|h)|h)
   ·exact .inl h
   ·exact .inr ⟨h.1,.inl h.2⟩
   ·exact .inr ⟨h.1,.inr h.2⟩
  ·rintro(h|⟨J,U|U⟩)
   ·exact .inl (.inl h)
   ·exact .inl (.inr ⟨J,U⟩)
   ·exact .inr ⟨J,U⟩
 |_=>intro l;simp[T.fold,T.occ]
def ago(M:List br)(k:Nat)(st:bo):Prop:=∃(seen:List Nat) (xs:List br),seen.Nodup/\(∀b∈seen,b<M.length)/\k=M.length-seen.length/\xs=seen.filterMap (fun b=>M[b]?)/\xs.length=seen.length/\st=⟨[(15,.ptr (.obj 815) 0),(63,.ptr (.loc 2) 0)],[(.obj 812,nX M),(.loc 2,cx M.length seen (.obj 812)),(.obj 815,[.row 2 (.obj 814) xs.length])],[(.obj 814,⟨xs.length,106,2,some (xs.map br.e)⟩)],3,[.obj 815,.obj 814,.obj 813,.obj 812,.obj 811]⟩
theorem Xm{s:List ak}(af:eB s){l:List br}(au:jM l)(tc:l.length<=68719470000)(t:T)(aI:t.fit=true){g:List c4}(aW:ji g=true):
  bZ ay 54 [.slice 5 .no (s.map ak.e),.slice 2 .no (l.map br.e),t.e,.str g] (ix (if(t.ap (aY s)).size<=5000 then iQ l (t.ap (aY s)) g else none)):=by
 have c9:=ql af;have du:=Np aI;have eo:=Xp au;have hR:=amb aW;have fm:=D5 s t af.len af.sol.asc af.fit;generalize ae:t.ap (aY s)=x at fm⊢;generalize c7:(if x.size<=5000 then iQ l x g else none)=O;by_cases bk:x.size<=5000;rotate_left
 ·rw[if_neg bk]at c7;rw[<-c7];rw[if_neg bk,lT bk]at fm;refine bE j9 I9 LF fun aR=>?_;unfold ED;simp;(with_reducible repeat' first|refine aj ?_|refine aC c9 ?_|refine aD c9 ?_|refine aC du ?_|refine aD du ?_|refine aC eo ?_|refine aD eo ?_|refine aC hR ?_|refine aD hR ?_|refine aC fm ?_|refine aD fm ?_|simp);simp[bn,GU,aT,aU,aS];simp[ix]
 rw[if_pos bk]at c7;rw[if_pos bk,jS bk]at fm;have zW:=Xv g x;cases cw:x.has g;rotate_left
 ·rw[cw]at zW;have dQ:O=none:=by rw[<-c7];unfold iQ;rw[cw];rfl
  rw[dQ];refine bE j9 I9 LF fun aR=>?_;unfold ED;simp;(with_reducible repeat' first|refine aj ?_|refine aC c9 ?_|refine aD c9 ?_|refine aC du ?_|refine aD du ?_|refine aC eo ?_|refine aD eo ?_|refine aC hR ?_|refine aD hR ?_|refine aC fm ?_|refine aD fm ?_|refine aC zW ?_|refine aD zW ?_|simp);simp[bn,GU,aT,aU,aS];simp[ix]
 rw[cw]at zW;refine bE j9 I9 LF fun aR=>?_;unfold ED;simp;(with_reducible repeat' first|refine aj ?_|refine aC c9 ?_|refine aD c9 ?_|refine aC du ?_|refine aD du ?_|refine aC eo ?_|refine aD eo ?_|refine aC hR ?_|refine aD hR ?_|refine aC fm ?_|refine aD fm ?_|refine aC zW ?_|refine aD zW ?_|simp);have Cr:l.Nodup:=hH.nodup lN au.asc;have hb:∀xs:List br,xs.Perm (x.fold (fun v l=>k7 ⟨v,g⟩ l) l)->O=some (n4 e9 xs):=fun xs bL=>by
  rw[<-c7];refine Ic cw ?_ fun y=>?_
  ·have J:=M1 lN xs;have U:(n4 e9 xs).Nodup:=(((wQ e9 xs).trans bL).nodup_iff).2 (ac5 g x Cr);exact(J.and U).imp fun{a b} h=>by have:=mt (lN.zero a b).1 h.2;omega
  ·rw[((wQ e9 xs).trans bL).mem_iff,ahb]
 have hlen:(x.fold (fun v l=>k7 ⟨v,g⟩ l) l).length<=68719475000:=by have:=ac4 g x l;omega
 rw[show iv []=nX []from rfl];refine ik (fun i (_:Unit)=>⟨[(7,.ptr (.obj 811) 0),(10,.ptr (.loc 1) 0),(12,.ptr (.obj 813) 0),(49,.slice 2 .no (l.map br.e)),(50,.int .i64 l.length),(51,.int .i64 i)],[(.obj 811,[.str g]),(.loc 1,[.int .i64 x.kind,.int .i64 x.int,.str x.name,.slice 4 .no (x.args.map T.e)]),(.obj 812,nX (l.take i)),(.obj 813,[.gmap (.obj 812)])],[],2,[.obj 813,.obj 812,.obj 811]⟩) l.length (fun _ _=>True) () cb trivial (fun _ _ _=>?_) (fun i _ hi _ _=>?_)
 ·rw[oZ];simp;(with_reducible repeat' first|refine aj ?_|simp);have key:=Jv (oo g) (En g) (H5 g) 130 [.ptr (.obj 813) 0,.ptr (.obj 811) 0] (by intro a;simp[inObs,oo,Pv.look,aP,aJ]) Ψ (fun v l=>k7 ⟨v,g⟩ l) (fun v a=>adg g v a) x l;refine cA.ob key (En g l) (by unfold oo;exact aE) (by unfold oo;exact aE) (by simp[inObs,oo,Pv.look]) ?_;rintro r ah ⟨rfl,rfl⟩;refine⟨H5 g _ _,?_⟩;unfold oo;generalize il:x.fold (fun v l=>k7 ⟨v,g⟩ l) l=M at hb hlen⊢;simp[bX];(with_reducible repeat' first|refine aj ?_|simp);refine mZ (ago M) M.length _ ⟨by simp[fresh,aP,aJ,cx,inObs,Pv.look,zY],eS (by simp[fresh,aP,aJ,cx,inObs,Pv.look,zY]),eT (by simp[fresh,aP,aJ,et,inObs,Pv.look,zY]),Ψ⟩ ⟨[],[],Ψ,Ψ,Ψ,Ψ,Ψ,rfl⟩ ?_;rintro k st ⟨seen,xs,aG,bt,ad,Tf,pw,rfl⟩ jf cE;clear jf cE;have hle:=Ht aG bt;simp;refine Z7 (mk:= .obj 812) (seen:=seen) (l:=M) Ψ Ψ rfl (fun lA=>?_) (fun b y aM ab=>?_)
  ·have vO:=MN aG bt lA;rw[<-Tf]at vO;have dF:=hb xs vO;simp;(with_reducible repeat' first|refine aj ?_|simp);have key:=adV xs Ω;have e0:=H4 xs;unfold xa dP at key e0;refine cA.ob key e0 aE aE (by simp[inObs,Pv.look]) ?_;rintro r ah ⟨rfl,rfl⟩;refine⟨Same.keys Ψ Ψ,?_⟩;rw[dF];simp[bX];(with_reducible repeat' first|refine aj ?_|simp);simp[bn,GU,aT,aU,aS];simp[ix]
  ·have zF:∀f:aL->Option (List ai),f (.loc 2)=some (cx M.length (seen++[b]) (.obj 812))->f (.obj 812)=some (nX M)->pB f (.ptr (.loc 2) 0)=some (True,.tuple [y.e,.bool true]):=fun f J U=>ahg f (.loc 2) (.obj 812) M.length seen b M y J U rfl aM;have fk:b<M.length:=(fp.1 aM).1;have qQ:=MO aG bt fk ab;simp[zF];(with_reducible repeat' first|refine aj ?_|simp[zF]);all_goals first|(refine⟨by unfold lim;omega,?_⟩)|skip
   have xG:∀S:aL->Prop,aP S (xs.map br.e++[y.e])=True:=fun S=>by
    have e:xs.map br.e++[y.e]=(xs++[y]).map br.e:=by simp
    rw[e];simp[-List.map_append]
   refine bR.next (M.length-(seen.length+1)) Ω ⟨seen++[b],xs++[y],LC aG ab,(by simp;intro c aq;rcases aq with aq|rfl;exact bt c aq;exact fk),Ψ,by rw[List.filterMap_append,<-Tf];simp[aM],by simp[pw],rfl⟩ ⟨by simp[fresh,aP,aJ,cx,inObs,Pv.look,zY,xG],eS (by simp[fresh,aP,aJ,cx,inObs,Pv.look,zY,xG]),eT (by simp[fresh,aP,aJ,et,inObs,Pv.look,zY,xG]),Ψ⟩
 ·obtain⟨b,ab,cq⟩:=fb hi;have jY:k7 b (l.take i)=l.take (i+1):=by
   have J:b∉l.take i:=fun h=>by
    obtain⟨j,ag,e⟩:=od h;have jx:j<i:=by simp at ag;omega
    rw[List.getElem_take]at e;have:=(List.nodup_iff_pairwise_ne.1 Cr);exact(oX.1 this j i Ω hi jx) (by rw[e,cq])
   rw[List.take_succ,ab];simp[k7,J]
  exact h6
def OO:C:=(aa [ey 4 2,bu 5 false] (.seq (aa [I 11 0,cV 12 55 11,cB 13 12,I 14 13,bU 14 false 15 1,ar 14 false (cV 16 56 15),ar 14 false (cB 17 16),cW 18 14 17] (aV 18 (aa [ey 4 2,bu 5 false] .ret) .skip)) (aa [ec 19 2 104 [],I 6 19] (.seq (.seq (.fg false 6 (.region [I 20 1,cD 21 20,b7 22 0])) (fj 23 22 21 (.seq (.block 1 (aa [cJ 24 2 20 22,a8 25 2 24,cH (.alloc 8 none (.agg [.int .i64 0,.int .i64 0])),bC 2 8 25] (.seq (.drawn true 42 [I 27 0,I 28 6,aH 29 0 1 8,ax 30 1 29,cV 31 96 30,aH 32 1 1 8,ax 33 1 32,c1 34 52 [.t 27,.t 28,.t 31,.t 33],I 26 34,cu 35 0 26,cu 36 1 26,I 9 35,I 10 36]) (.seq (aa [I 37 10,cB 38 37] (aV 38 (aa [ey 4 2,bu 5 false] .ret) .skip)) (.region [I 39 9,I 6 39]))))) (.region [aQ 40 .add 22 1,I 22 40])))) (aa [I 41 6,I 4 41,bu 5 true] .ret)))))
@[simp] def L3:List bY:=[.tmp 4,.tmp 5]
def OP:C:=(aa [ey 4 2,bu 5 false] (.seq (aa [I 11 0,cV 12 55 11,cB 13 12,I 14 13,bU 14 false 15 1,ar 14 false (cV 16 57 15),ar 14 false (cB 17 16),cW 18 14 17] (aV 18 (aa [ey 4 2,bu 5 false] .ret) .skip)) (aa [ec 19 2 106 [],I 6 19] (.seq (.seq (.fg false 6 (.region [I 20 1,cD 21 20,b7 22 0])) (fj 23 22 21 (.seq (.block 1 (aa [cJ 24 2 20 22,a8 25 2 24,cH (.alloc 8 none (.agg [.int .i64 0,.str []])),bC 2 8 25] (.seq (.drawn true 42 [I 27 0,I 28 6,aH 29 0 1 8,ax 30 1 29,cV 31 96 30,aH 32 1 1 8,ax 33 1 32,c1 34 54 [.t 27,.t 28,.t 31,.t 33],I 26 34,cu 35 0 26,cu 36 1 26,I 9 35,I 10 36]) (.seq (aa [I 37 10,cB 38 37] (aV 38 (aa [ey 4 2,bu 5 false] .ret) .skip)) (.region [I 39 9,I 6 39]))))) (.region [aQ 40 .add 22 1,I 22 40])))) (aa [I 41 6,I 4 41,bu 5 true] .ret)))))
@[simp] def L4:List bY:=[.tmp 4,.tmp 5]
def OK:C:=(aa [ey 2 1] (.seq (aa [I 12 0,cD 13 12,b7 14 0] (fj 15 14 13 (.seq (.block 1 (aa [cJ 16 1 12 14,ax 17 1 16,I 4 17] (aa [I 18 4,cV 19 55 18,cB 20 19] (aV 20 (aa [ey 2 1] .ret) .skip)))) (.region [aQ 21 .add 14 1,I 14 21])))) (aa [cH (.bslm 22 (some 821) 1 23 []),I 23 0,cH (.appm 24 none 1 23 (.t 22) (.t 23)),cH (.alloc 5 (some 822) (.slice 1 .nil [])),bC 1 5 24] (aa [ax 25 1 5,bQ 26 (.mkif 24 (.t 25)),bQ 27 (.mkf 203 [.t 5]),cg 28 202 26 27] (aa [ec 29 1 23 [],I 6 29] (.seq (aa [ax 30 1 5,cD 31 30,b7 32 0] (.block 2 (.loop (aa [bF 33 .lss 32 31] (.seq (aV 33 .skip (.exit 2)) (.seq (.block 3 (aa [I 34 32,cJ 35 1 30 32,ax 36 1 35,I 7 34,I 8 36] (.seq (aa [I 37 7,aQ 38 .gtr 37 0,I 39 38,ar 39 true (ax 40 1 5),bU 39 true 41 7,ar 39 true (aQ 42 .sub 41 1),ar 39 true (cJ 43 1 40 42),ar 39 true (ax 44 1 43),bU 39 true 45 8,ar 39 true (cg 46 204 44 45),ar 39 true (aQ 47 .eql 46 0),dv 48 39 47] (aV 48 (.exit 3) .skip)) (aa [bu 9 true] (.seq (aa [ax 49 1 5,cD 50 49,b7 51 0] (.block 4 (.loop (aa [bF 52 .lss 51 50] (.seq (aV 52 .skip (.exit 4)) (.seq (.block 5 (aa [cJ 53 1 49 51,ax 54 1 53,I 11 54] (aa [I 55 11,I 56 8,cg 57 204 55 56,aQ 58 .neq 57 0,I 59 58,bU 59 true 60 11,bU 59 true 61 8,ar 59 true (cg 62 205 60 61),dv 63 59 62] (aV 63 (.region [bu 9 false]) .skip)))) (.region [aQ 64 .add 51 1,I 51 64]))))))) (aa [I 65 9] (aV 65 (.region [I 66 6,I 67 8,cV 68 119 67,ec 69 1 23 [.t 68],gY 70 1 23 66 69,I 6 70]) .skip))))))) (.region [aQ 71 .add 32 1,I 32 71]))))))) (aa [I 72 6,I 2 72] .ret)))))))
@[simp] def aka:List bY:=[.tmp 2]
def OL:C:=(aa [bu 5 false] (.seq (.drawn true 16 [ax 6 1 2,I 7 0,cJ 8 1 6 7,ax 9 1 8,ax 10 1 2,I 11 1,cJ 12 1 10 11,ax 13 1 12,cg 14 204 9 13,aQ 15 .lss 14 0,I 5 15]) .ret))
@[simp] def Vu:List bY:=[.tmp 5]
def DY:List (Nat×dA):=[
 (3,⟨1,8,.int .i64,.int .i64 0⟩),
 (9,⟨1,16,.str,.str []⟩),
 (23,⟨1,24,.slice 61,.slice 5 .nil []⟩),
 (24,⟨1,24,.slice 23,.slice 1 .nil []⟩),
 (25,⟨1,24,.slice 104,.slice 2 .nil []⟩),
 (26,⟨1,24,.slice 106,.slice 2 .nil []⟩),
 (30,⟨1,24,.slice 32,.slice 4 .nil []⟩),
 (32,⟨4,56,.struct [(0,3),(1,3),(2,9),(3,30)],.agg [.int .i64 0,.int .i64 0,.str [],.slice 4 .nil []]⟩),
 (61,⟨5,64,.struct [(0,3),(1,32)],.agg [.int .i64 0,.int .i64 0,.int .i64 0,.str [],.slice 4 .nil []]⟩),
 (104,⟨2,16,.struct [(0,3),(1,3)],.agg [.int .i64 0,.int .i64 0]⟩),
 (106,⟨2,24,.struct [(0,3),(1,9)],.agg [.int .i64 0,.str []]⟩)]
theorem HG:fN ay DY=true:=by kernel_rfl
theorem ah3:ca DY OO L3 2 Tryz.f120=true:=by kernel_rfl
theorem abb:ay.funcs[(120:Nat)]? =some Tryz.f120:=Tryz.func120
theorem ah4:ca DY OP L4 2 Tryz.f121=true:=by kernel_rfl
theorem abc:ay.funcs[(121:Nat)]? =some Tryz.f121:=Tryz.func121
theorem ahZ:ca DY OK aka 1 Tryz.f124=true:=by kernel_rfl
theorem aa7:ay.funcs[(124:Nat)]? =some Tryz.f124:=Tryz.func124
theorem ah0:ca DY OL Vu 3 Tryz.f203=true:=by kernel_rfl
theorem aa8:ay.funcs[(203:Nat)]? =some Tryz.f203:=Tryz.func203
def Tx(s:List ak)(l:List b4)(i:Nat)(a:List b4):Prop:=ir a/\fC s (l.drop i) a=fC s l []
theorem Xr{s:List ak}(af:eB s){l:List b4}(au:ir l):bZ ay 120 [.slice 5 .no (s.map ak.e),.slice 2 .no (l.map b4.e)] (fo (fC s l [])):=by
 have tc:=uG au;have c9:=ql af;have di:=Xo au;refine bE HG abb ah3 fun aR=>?_;unfold OO;simp;(with_reducible repeat' first|refine aj ?_|refine aC c9 ?_|refine aD c9 ?_|refine aC di ?_|refine aD di ?_|simp);refine eQ [0,20,21] (fun i (a:List b4)=>[(6,.slice 2 .no (a.map b4.e)),(22,.int .i64 i)]) l.length (Tx s l) [] cb ⟨⟨Ψ,Ψ⟩,rfl⟩ (fun a ag _=>?_) (fun i a hi ag _=>?_)
 ·obtain⟨_,ag⟩:=ag;rw[List.drop_length]at ag;simp only[fC]at ag;rw[<-ag];simp;(with_reducible repeat' first|refine aj ?_|simp);simp[bn,L3,aT,aU,aS];simp[fo]
 ·obtain⟨a7,ag⟩:=ag;obtain⟨b,ab,cq⟩:=fb hi;have oA:=au.at' b (eZ ab);rw[k4 hi,cq]at ag;simp only[fC]at ag;have fs:=Nk af a7 (.var b.v) (by simp[T.fit,T.ok,T.size,oA.1]) b.k;have bk:((T.var b.v).ap (aY s)).size<=5000:=DQ af b.v;rw[if_pos ⟨oA.2,bk⟩,show(T.var b.v).ap (aY s)=aY s b.v from rfl]at fs;simp[hi,cq];cases dQ:hM a (aY s b.v) b.k with
  |none=>rw[dQ]at ag fs;simp only at ag;rw[<-ag];simp only[fo]at fs;(with_reducible repeat' first|refine aj ?_|refine aC (k1 _) ?_|refine aD (k1 _) ?_|refine aC fs ?_|refine aD fs ?_|simp[cq,hi]);simp[bn,L3,aT,aU,aS];simp[fo]
  |some bp=>rw[dQ]at ag fs;simp only[fo]at fs;(with_reducible repeat' first|refine aj ?_|refine aC (k1 _) ?_|refine aD (k1 _) ?_|refine aC fs ?_|refine aD fs ?_|simp[cq,hi]);exact bR.rng bp hi ⟨Eu a7 (AU af oA.1) oA.2 dQ,ag⟩ cb
def Ty(s:List ak)(G:List (List c4))(l:List br)(i:Nat)(a:List br):Prop:=jM a/\kY G a/\fD s (l.drop i) a=fD s l []
theorem Xs{s:List ak}(af:eB s){l:List br}(au:jM l){G:List (List c4)}(lb:G.length<=687000)(aW:kY G l):bZ ay 121 [.slice 5 .no (s.map ak.e),.slice 2 .no (l.map br.e)] (ix (fD s l [])):=by
 have hlen:∀{a:List br},jM a->kY G a->a.length<=68719470000:=fun J U=>by have:=C6 J U;omega
 have tc:=hlen au aW;have c9:=ql af;have di:=Xp au;refine bE HG abc ah4 fun aR=>?_;unfold OP;simp;(with_reducible repeat' first|refine aj ?_|refine aC c9 ?_|refine aD c9 ?_|refine aC di ?_|refine aD di ?_|simp);refine eQ [0,20,21] (fun i (a:List br)=>[(6,.slice 2 .no (a.map br.e)),(22,.int .i64 i)]) l.length (Ty s G l) [] cb ⟨⟨Ψ,by simp[hH]⟩,fun x ae=>by simp at ae,rfl⟩ (fun a ag _=>?_) (fun i a hi ag _=>?_)
 ·obtain⟨_,_,ag⟩:=ag;rw[List.drop_length]at ag;simp only[fD]at ag;rw[<-ag];simp;(with_reducible repeat' first|refine aj ?_|simp);simp[bn,L4,aT,aU,aS];simp[ix]
 ·obtain⟨a7,CE,ag⟩:=ag;obtain⟨b,ab,cq⟩:=fb hi;have oA:=au.at' b (eZ ab);have JQ:=aW b (eZ ab);rw[k4 hi,cq]at ag;simp only[fD]at ag;have fs:=Xm af a7 (hlen a7 CE) (.var b.v) (by simp[T.fit,T.ok,T.size,oA.1]) oA.2;have bk:((T.var b.v).ap (aY s)).size<=5000:=DQ af b.v;rw[if_pos bk,show(T.var b.v).ap (aY s)=aY s b.v from rfl]at fs;simp[hi,cq];cases dQ:iQ a (aY s b.v) b.s with
  |none=>rw[dQ]at ag fs;simp only at ag;rw[<-ag];simp only[ix]at fs;(with_reducible repeat' first|refine aj ?_|refine aC (k1 _) ?_|refine aD (k1 _) ?_|refine aC fs ?_|refine aD fs ?_|simp[cq,hi]);simp[bn,L4,aT,aU,aS];simp[ix]
  |some bp=>rw[dQ]at ag fs;simp only[ix]at fs;(with_reducible repeat' first|refine aj ?_|refine aC (k1 _) ?_|refine aD (k1 _) ?_|refine aC fs ?_|refine aD fs ?_|simp[cq,hi]);exact bR.rng bp hi ⟨Ev a7 (AU af oA.1) oA.2 dQ,Bp CE JQ dQ,ag⟩ cb
end
section
open Go Go.Pv Go.Lib
def cQ(d:List ak):ai:= .slice 5 .no (d.map ak.e)
@[simp]theorem apN(S:aL->Prop)(d:List ak):aJ S (cQ d)=True:=by simp[cQ]
@[simp]theorem an4(d:List ak):cells (cQ d)=[cQ d]:=rfl
@[simp]theorem aq1(d:List ak):eH (cQ d)=true:=rfl
@[simp]theorem arp(d:List ak):ev (cQ d)=cQ d:=by simp[cQ]
theorem QO:∀(S:aL->Prop) (x:List ak),aJ S (cQ x):=fun S x=>by simp
theorem K0(S:aL->Prop):∀l:List (List ak),aP S (l.map cQ)
 |[]=>by simp[aP]
 |x::xs=>by simp[aP,K0 S xs]
@[simp]theorem T0(S:aL->Prop)(l:List (List ak)):aP S (l.map cQ)=True:=eq_true (K0 S l)
@[simp]theorem M6:∀l:List (List ak),dr (l.map cQ)=l.map cQ
 |[]=>rfl
 |x::xs=>by simp[dr,M6 xs]
def mz(d:List dO):ai:= .slice 5 .no (d.map dO.e)
@[simp]theorem an5(d:List dO):cells (mz d)=[mz d]:=rfl
@[simp]theorem aq2(d:List dO):eH (mz d)=true:=rfl
theorem ZP(d:List ak):mz (d.map ak.b)=cQ d:=by simp only[mz,cQ,tv]
theorem QS(l:List (List ak)):(l.map fun d=>d.map ak.b).map mz=l.map cQ:=by rw[List.map_map];exact List.map_congr_left fun d _=>ZP d
@[simp]theorem apO(S:aL->Prop)(d:List dO):aJ S (mz d)=True:=by simp[mz]
@[simp]theorem arq(d:List dO):ev (mz d)=mz d:=by simp[mz]
theorem T1(S:aL->Prop):∀l:List (List dO),aP S (l.map mz)
 |[]=>by simp[aP]
 |x::xs=>by simp[aP,T1 S xs]
@[simp]theorem apJ(S:aL->Prop)(l:List (List dO)):aP S (l.map mz)=True:=eq_true (T1 S l)
abbrev tT(l:List (List ak)):cM:=dP cQ 821 822 23 1 l
theorem H0(l:List (List ak)):dN (tT l):=xb QO l
theorem adk(l:List (List ak))(au:l.length<=68719476736)(i j:Nat)(x y:List ak)(hi:l[i]? =some x)(ag:l[j]? =some y):bJ ay 203 [.int .i64 i,.int .i64 j,.ptr (.obj 822) 0] (tT l) fun r ah=>r= .bool (hK ek x y)/\ah=tT l:=by have af:=H0 l;obtain⟨l3,hE⟩:=fp.1 hi;obtain⟨eb,p2⟩:=fp.1 ag;have aX:bZ ay 204 [cQ x,cQ y] (.int .i64 (ek x y)):=HP x y;unfold tT dP at af⊢;refine bJ.mk mixed HG aa8 ah0 Ψ af.obj fun aR cE=>?_;unfold OL;simp[l3,eb,hE,p2];(with_reducible repeat' first|refine aj ?_|refine aC aX ?_|refine aD aX ?_|simp[l3,eb,hE,p2]);refine cI.at _ (.inl rfl) af (Same.refl _) aE aE ?_;simp[cL,Vu,aT,aU,aS,hK]
noncomputable def Tryz.dsT:TypeInfo:=(ay.info? 24).get co
noncomputable def Tryz.dsE:TypeInfo:=(ay.info? 23).get co
theorem Tryz.dsK(n:Nat)(U:2<=n):Lib.swapperK n Tryz.dsE 23=9:=by
 have a:Tryz.dsE.hasPointers=true:=by kernel_rfl
 have b:Tryz.dsE.bytes=24:=by kernel_rfl
 have c:(n==0)=false:=by simp;omega
 have d:(n==1)=false:=by simp;omega
 simp[Lib.swapperK,a,b,c,d]
theorem adT(l:List (List ak))(au:l.length<=68719476736):bJ ay 202 [.iface 24 (.row 1 (.obj 821) l.length),.func 203 [.ptr (.obj 822) 0]] (tT l) fun r ah=>r= .tuple []/\ah=tT (n4 ek l):=by
 refine(adn QO (K:=821) (B:=822) (sz:=1) 24 Tryz.dsT Tryz.dsE co co co co 23 (fun _=>by kernel_rfl) Tryz.dsK 203 (hK ek) kW.ltOk l au (fun a6 h i j x y hi ag=>adk a6 Ω i j x y hi ag) (fun a6 h i j hi ag=>?_)).mono ?_
 ·have:=RO (P:=ay) false 257 (fun args W=>run_callFunc_extern Tryz.func257 co co co (e:=Ee false) co args W)
   23 Tryz.dsE co (.inr ⟨by kernel_rfl,fun _=>by kernel_rfl⟩) (H0 a6) (K:=821) (n:=l.length) (el:=23) (sz:=1) co (xs:=a6.map cQ) (by simp[dP,Pv.look,h]) i j hi ag
  refine this.mono ?_;rintro r ah ⟨rfl,rfl⟩;refine⟨rfl,?_⟩;simp[dP,cy,Ug,h]
 ·rintro r ah ⟨rfl,a6,rfl,J,U⟩;exact⟨rfl,by rw[W2 kW J U]⟩
end
section
open Go Go.Pv
theorem z7{α:Type}{s:List α}{i:Nat}{t:α}(h:s[i]? =some t):s.drop i=t::s.drop (i+1):=by obtain⟨hi,e⟩:=fp.1 h;rw[k4 hi,e]
def qg(L:List (List ak))(a:List (List ak))(e:List ak):List (List ak):=if iu L e=true then km ek e a else a
theorem Lt{L:List (List ak)}:∀(xs:List (List ak)) {a:List (List ak)},hH ek a->hH ek (xs.foldl (qg L) a)
 |[],_,h=>h
 |x::xs,a,h=>Lt xs (a:=qg L a x) (by unfold qg;split<;>first|exact KF kW h|exact h)
theorem UF{L:List (List ak)}{x:List ak}:∀(xs:List (List ak)) {a:List (List ak)},x∈xs.foldl (qg L) a↔x∈a\/(x∈xs/\iu L x=true)
 |[],a=>by simp
 |y::xs,a=>by
  rw[List.foldl_cons,UF xs,fI];unfold qg;by_cases ad:iu L y=true
  ·rw[if_pos ad,Gv kW];constructor
   ·rintro((rfl|h)|h)
    ·exact .inr ⟨.inl rfl,ad⟩
    ·exact .inl h
    ·exact .inr ⟨.inr h.1,h.2⟩
   ·rintro(h|⟨rfl|J,U⟩)
    ·exact .inl (.inr h)
    ·exact .inl (.inl rfl)
    ·exact .inr ⟨J,U⟩
  ·rw[if_neg ad];constructor
   ·rintro(h|h)
    ·exact .inl h
    ·exact .inr ⟨.inr h.1,h.2⟩
   ·rintro(h|⟨rfl|J,U⟩)
    ·exact .inl h
    ·exact absurd U ad
    ·exact .inr ⟨J,U⟩
theorem UE{L:List (List ak)}:∀(xs a:List (List ak)),(xs.foldl (qg L) a).length<=a.length+xs.length
 |[],a=>by simp
 |y::xs,a=>by
  have J:=UE (L:=L) xs (qg L a y);have U:(qg L a y).length<=a.length+1:=by
   unfold qg;split
   ·exact KH _ _
   ·omega
  simp only[List.foldl_cons,oe];omega
theorem ahu(L:List (List ak)):jN L=L.foldl (qg L) []:=UB (Lt L (by simp[hH])) fun x=>by rw[UF];simp
def xV(L:List (List ak))(i:Nat)(a:List (List ak)):Prop:=a=(L.take i).foldl (qg L) []
theorem xV.step{L:List (List ak)}{i:Nat}{a:List (List ak)}(h:xV L i a){e:List ak}(he:L[i]? =some e):xV L (i+1) (qg L a e):=by rw[xV,sp he,List.foldl_append,h];rfl
def wg(e d:List ak):Bool:=decide (d=e)|| !j6 d e
def p8(L:List (List ak))(e:List ak)(j:Nat)(k:Bool):Prop:=k=(L.take j).all (wg e)
theorem p8.step{L:List (List ak)}{e:List ak}{j:Nat}{k:Bool}(h:p8 L e j k){d:List ak}(aG:L[j]? =some d):p8 L e (j+1) (k&&wg e d):=by rw[p8,sp aG,List.all_append,h];simp
def F8(a:List (List ak))(e:List ak)(k:Nat):Prop:=k<=a.length/\∀c,a[k]? =some c->0<=ek c e
theorem F8.fin{a:List (List ak)}{e:List ak}{k:Nat}(h:F8 a e k)(a7:hH ek a)(aq:∀d,0<k->a[k-1]? =some d->ek d e<0):km ek e a=if(match a[k]? with|some y=>decide (ek y e=0)|none=>false)=true then a else a.take k++e::a.drop k:=
 (KG kW e a k (fun i c hi kl=>by
  have ad:=h.1;obtain⟨d,aG⟩:∃d,a[k-1]? =some d:=⟨_,cr Ω⟩;have J:=aq d Ω aG;rcases Nat.lt_or_ge i (k-1)with U|U
  ·have s8:=(fp.1 kl);have mC:=(fp.1 aG);have:=oX.1 a7 i (k-1) s8.1 mC.1 U;rw[s8.2,mC.2]at this;exact kW.ltr this Ω
  ·have:i=k-1:=Ω
   subst this;rw[aG]at kl;cases kl;exact J) h.2 h.1).trans (by cases a[k]?<;>rfl)
theorem TM(L:List (List ak))(e:List ak):iu L e=L.all (wg e):=rfl
theorem W1{l:List (List ak)}{x:List ak}:x∈n4 ek l↔x∈l:=(wQ ek l).mem_iff
theorem aht(l:List (List ak)):jN l=(cK none (n4 ek l)).filter (iu (n4 ek l)):=by have h:iu l=iu (n4 ek l):=funext fun e=>agG (fun x=>W1.symm) e;rw[jN,h];rfl
def mK(s:List (List ak))(i:Nat)(acc:List (List ak)):Prop:=acc++(cK (if i=0 then none else s[i-1]?) (s.drop i)).filter (iu s)=(cK none s).filter (iu s)
def pM:cC:=⟨0,[],[],[],[]⟩
noncomputable def AQ(s:cC):cC:=match fC s.b s.k []with
 |none=>pM
 |some k=>match fD s.b s.m []with
  |none=>pM
  |some m=>match fh s.b k (m.filter (jB k)) s.d with
   |none=>pM
   |some L=>⟨s.n,s.b,jN L,k,m.filter (jB k)⟩
theorem ak8{s ah:cC}(h:fu s=some ah):AQ s=ah:=by
 unfold fu at h;unfold AQ;cases J:fC s.b s.k []with
 |none=>rw[J]at h;cases h
 |some k=>
  rw[J]at h;simp only at h⊢;cases U:fD s.b s.m []with
  |none=>rw[U]at h;cases h
  |some m=>
   rw[U]at h;simp only at h⊢;cases al:fh s.b k (m.filter (jB k)) s.d with
   |none=>rw[al]at h;cases h
   |some L=>
    rw[al]at h;simp only at h⊢;split at h
    ·cases h;rfl
    ·cases h
theorem Yt{k:List b4}(ad:ir k)(v:Int):(hM k (.var v) 2).isSome=(kV k v !=some 3):=by
 unfold hM;simp only;cases h:kV k v with
 |none=>simp
 |some x=>have:=(ad.at' _ (CX h)).2;simp only at this;rcases this with rfl|rfl<;>simp
theorem YA{k:List b4}(a7:k.Pairwise fun x y=>x.v<y.v)(v:Int):(k.any fun x=>x.v==v&&x.k==3)=(kV k v==some 3):=by
 rw[pN,List.any_eq_true,dM];constructor
 ·rintro⟨x,ae,h⟩;simp only[ct,dM]at h;have:=Gf a7 ae;rw[h.1,h.2]at this;exact this
 ·intro h;exact⟨_,CX h,Ψ⟩
theorem K5{b:List ak}{k:List b4}{m:List br}{d:List ak}{r:List (List ak)}(h:mgu b (fR d)=none):fh b k m (d::r)=fh b k m r:=by rw[fh,h]
theorem K4{b:List ak}{k:List b4}{m:List br}{d x:List ak}{r:List (List ak)}(h:mgu b (fR d)=some x)(ad:fC x k []=none\/fD x m []=none):fh b k m (d::r)=fh b k m r:=by rw[fh,h];simp only[if_pos ad]
theorem K3{b:List ak}{k:List b4}{m:List br}{d x:List ak}{r:List (List ak)}(h:mgu b (fR d)=some x)(ad:¬(fC x k []=none\/fD x m []=none))(az:dR b x=[]):fh b k m (d::r)=none:=by rw[fh,h];simp only[if_neg ad,if_pos az]
theorem K6{b:List ak}{k:List b4}{m:List br}{d x:List ak}{r:List (List ak)}(h:mgu b (fR d)=some x)(ad:¬(fC x k []=none\/fD x m []=none))(az:dR b x≠[]):fh b k m (d::r)=(fh b k m r).map (dR b x:: ·):=by rw[fh,h];simp only[if_neg ad,if_neg az]
def p9(b:List ak)(k:List b4)(m:List br)(D:List (List ak))(i:Nat)(a:List (List ak)):Prop:=a.length<=i/\(∀x∈a,eB x)/\(fh b k m (D.drop i)).map (a++ ·)=fh b k m D
def gd(n:Int):T->Bool
 | .var v=>decide (v<n)
 | .pair a b=>gd n a&&gd n b
 |_=>true
theorem rp{n:Int}:∀{t:T},gd n t=true↔vk t n
 | .var v=>by simp[gd,vk,T.occ]
 | .pair a b=>by simp only[gd,ct,rp (t:=a),rp (t:=b),vk,T.occ,ls];exact⟨fun h v av=>av.elim (h.1 v) (h.2 v),fun h=>⟨fun v av=>h v (.inl av),fun v av=>h v (.inr av)⟩⟩
 | .nil=>by simp[gd,vk,T.occ]
 | .sym _=>by simp[gd,vk,T.occ]
 | .num _=>by simp[gd,vk,T.occ]
def qB(n:Int)(b:ak):Bool:=decide (b.v<n)&&gd n b.t
theorem Ez{n:Int}{s:List ak}:s.all (qB n)=true↔ot s n:=by simp[gH,qB,ot,rp]
theorem mK.fst{s:List (List ak)}{t:List ak}{acc:List (List ak)}(h:mK s 0 acc)(aI:s[0]? =some t):mK s 1 (if iu s t=true then acc++[t]else acc):=by
 unfold mK at*;rw[z7 aI]at h;have e:(if(1:Nat)=0 then none else s[1-1]?)=some t:=by simpa using aI
 have ck:acc++(t::cK (some t) (s.drop 1)).filter (iu s)=(cK none s).filter (iu s):=by rw[<-h];simp[cK]
 rw[e,<-ck];by_cases ad:iu s t=true<;>simp[ad]
theorem mK.eq{s:List (List ak)}{i:Nat}{t:List ak}{acc:List (List ak)}(h:mK s i acc)(hi:i≠0)(bL:s[i-1]? =some t)(aI:s[i]? =some t):mK s (i+1) acc:=by
 unfold mK at*;rw[if_neg hi,bL,z7 aI]at h;have e:(if i+1=0 then none else s[i+1-1]?)=some t:=by rw[if_neg Ω];exact aI
 rw[e,<-h];simp[cK]
theorem mK.ne{s:List (List ak)}{i:Nat}{p t:List ak}{acc:List (List ak)}(h:mK s i acc)(hi:i≠0)(bL:s[i-1]? =some p)(aI:s[i]? =some t)(az:¬p=t):mK s (i+1) (if iu s t=true then acc++[t]else acc):=by
 unfold mK at*;rw[if_neg hi,bL,z7 aI]at h;have e:(if i+1=0 then none else s[i+1-1]?)=some t:=by rw[if_neg Ω];exact aI
 have aG:cK (some p) (t::s.drop (i+1))=t::cK (some t) (s.drop (i+1)):=by simp[cK,az]
 rw[aG]at h;rw[e,<-h];by_cases ad:iu s t=true<;>simp[ad]
theorem alC(l:List (List ak)):(n4 ek l).length=l.length:=(wQ ek l).length_eq
theorem xY(S:aL->Prop)(l:List (List ak))(d:List ak):aP S (l.map cQ++[cQ d])=True:=by have:=K0 S (l++[d]);rw[List.map_append]at this;exact eq_true this
theorem amj(l:List (List ak))(fe:∀d∈l,eB d):bZ ay 124 [.slice 1 .no (l.map cQ)] (.slice 1 .no ((jN l).map cQ)):=by
 generalize bS:jN l=R;rw[aht]at bS;refine bE HG aa7 ahZ fun aR=>?_;unfold OK;have iH:l.length<=68719476736:=by simp[ij,ho,hN,lim]at aR;omega
 simp;refine eQ [0,12,13] (fun i (_:Unit)=>[(14,.int .i64 i)]) l.length (fun _ _=>True) () cb trivial (fun _ _ _=>?_) (fun i _ hi _ _=>?_);rotate_left
 ·obtain⟨e,he,JU⟩:=fb hi;have c9:bZ ay 55 [cQ e] (.bool true):=ql (fe e (eZ he));exact h6
 simp;(with_reducible repeat' first|refine aj ?_|simp);all_goals first|(refine⟨by unfold lim;omega,?_⟩)|skip
 all_goals(with_reducible repeat' first|refine aj ?_|simp)
 refine cA.ob (adT l iH) (H0 l) (by unfold tT dP;exact aE) (by unfold tT dP;exact aE) (by simp[inObs,dP,Pv.look]) ?_;rintro r ah ⟨rfl,rfl⟩;refine⟨xc _ _,?_⟩;obtain⟨s,CD⟩:∃s,s=n4 ek l:=⟨_,rfl⟩;have qQ:s.length=l.length:=by rw[CD];exact alC l
 have af:∀d∈s,eB d:=fun d aG=>fe d (by rw[CD,W1]at aG;exact aG);rw[<-CD]at bS;rw[<-CD];clear CD;simp[tT,dP,bX];refine ik (fun i (acc:List (List ak))=>⟨[(5,.ptr (.obj 822) 0),(6,.slice 1 (.own (.loc 0)) (acc.map cQ)),(30,.row 1 (.obj 821) s.length),(31,.int .i64 s.length),(32,.int .i64 i)],[(.obj 822,[.row 1 (.obj 821) s.length])],[(.loc 0,⟨acc.length,23,1,none⟩),(.obj 821,⟨s.length,23,1,some (s.map cQ)⟩)],1,[.obj 821,.obj 822]⟩) s.length (fun i acc=>acc.length<=i/\mK s i acc) [] cb ⟨Ψ,by simp[mK]⟩ (fun acc ag _=>?_) (fun i acc hi ag _=>?_)
 ·have ag:=ag.2;rw[mK,List.drop_length]at ag;have:acc=R:=by rw[<-bS];simpa[cK]using ag
  subst this;exact c0
 ·obtain⟨aoR,ag⟩:=ag;have pZ:acc.length<=68719476735:=Ω
  obtain⟨t,vT,aI⟩:=fb hi;have dh:=af t (eZ vT);have jZ:bZ ay 119 [cQ t] (cQ t):=HJ t dh.len;have jK:(if iu s t=true then acc++[t]else acc).length<=acc.length+1:=by split<;>simp
  rcases Nat.eq_zero_or_pos i with rfl|fB
  ·have SN:=ag.fst vT;have fq:(if iu s t=true then acc++[t]else acc).length<=0+1/\mK s (0+1) (if iu s t=true then acc++[t]else acc):=⟨gZ jK Ω,SN⟩;clear ag SN vT;simp[hi,aI];(with_reducible repeat' first|refine aj ?_|simp[hi,aI]);refine eQ [5,6,8,30,31,32,49,50] (fun j (b:Bool)=>[(9,.bool b),(51,.int .i64 j)]) s.length (p8 s t) true cb (by simp[p8]) (fun keep ag _=>?_) (fun j keep eb ag _=>?_)
   ·rw[p8,oZ,<-TM]at ag;rw[<-ag]at fq;clear ag;cases keep with
    |false=>simp only[gF,if_false]at fq;simp;((with_reducible repeat' first|refine aj ?_|simp|((first|apply bD|apply bH|apply bG)<;>intro h<;>try simp at h))<;>(try exact b2));all_goals exact bR.rng acc hi fq cb
    |true=>
     simp only[if_true]at fq;clear jK;simp;((with_reducible repeat' first|refine aj ?_|refine aC jZ ?_|refine aD jZ ?_|simp|((first|apply bD|apply bH|apply bG)<;>intro h<;>try simp at h))<;>(try exact b2));all_goals first|(refine⟨by unfold lim;omega,?_⟩)|skip
     all_goals(with_reducible repeat' first|refine aj ?_|simp)
     all_goals exact bR.rng (acc++[t]) hi fq ⟨by simp[fresh,aP,aJ,cx,inObs,Pv.look,xY],eS (by simp[fresh,aP,aJ,cx,inObs,Pv.look,xY]),eT (by simp[fresh,aP,aJ,et,inObs,Pv.look,xY]),Ψ⟩
   ·obtain⟨d,aG,hdi⟩:=fb eb;have az:=ag.step aG;have jg:=af d (eZ aG);have eo:bZ ay 205 [cQ d,cQ t] (.bool (j6 d t)):=XH d jg.len dh;have oL:bZ ay 204 [cQ d,cQ t] (.int .i64 (ek d t)):=HP d t;clear ag aG fq;by_cases q:ek d t=0
    ·rw[wg,jS ((kW.zero _ _).1 q),Bool.true_or,Bool.and_true]at az;rw[q]at oL;simp[eb,hdi];((with_reducible repeat' first|refine aj ?_|refine aC oL ?_|refine aD oL ?_|simp[eb,hdi]|((first|apply bD|apply bH|apply bG)<;>intro h<;>try simp at h))<;>(try exact b2));all_goals exact bR.rng keep eb az cb
    ·rw[wg,lT (fun h=>q ((kW.zero _ _).2 h)),Bool.false_or]at az;have gD:(ek d t !=0)=true:=by simp[q]
     cases aW:j6 d t
     ·rw[aW]at az eo;simp only[Bool.not_false,Bool.and_true]at az;simp[eb,hdi];((with_reducible repeat' first|refine aj ?_|refine aC oL ?_|refine aD oL ?_|refine aC eo ?_|refine aD eo ?_|simp[eb,hdi,q,gD]|((first|apply bD|apply bH|apply bG)<;>intro h<;>try simp at h))<;>(try exact b2));all_goals exact bR.rng keep eb az cb
     ·rw[aW]at az eo;simp only[Bool.not_true,Bool.and_false]at az;simp[eb,hdi];((with_reducible repeat' first|refine aj ?_|refine aC oL ?_|refine aD oL ?_|refine aC eo ?_|refine aD eo ?_|simp[eb,hdi,q,gD]|((first|apply bD|apply bH|apply bG)<;>intro h<;>try simp at h))<;>(try exact b2));all_goals exact bR.rng false eb az cb
  ·obtain⟨p,zI⟩:∃p,s[i-1]? =some p:=⟨_,cr Ω⟩;have ao:((i:Int)-1).toNat=i-1:=Ω
   have aF:∀h,(s[i-1]'h)=p:=fun h=>by rw[cr h]at zI;exact gu zI
   have bM:¬i=0:=Ω
   have dt:i-1<s.length:=Ω
   have iU:(0:Int)<i:=Ω
   have ir:bZ ay 204 [cQ p,cQ t] (.int .i64 (ek p t)):=HP p t;by_cases FR:p=t
   ·have fq:acc.length<=i+1/\mK s (i+1) acc:=⟨Ω,ag.eq bM (by rw[zI,FR]) vT⟩;rw[(kW.zero _ _).2 FR]at ir;clear ag vT zI;simp[hi,aI,ao,aF,dt,iU];((with_reducible repeat' first|refine aj ?_|refine aC ir ?_|refine aD ir ?_|simp[hi,aI,ao,aF,dt,fB,iU]|((first|apply bD|apply bH|apply bG)<;>intro h<;>try simp at h))<;>(try exact b2));all_goals exact bR.rng acc hi fq cb
   ·have fq:(if iu s t=true then acc++[t]else acc).length<=i+1/\mK s (i+1) (if iu s t=true then acc++[t]else acc):=⟨gZ jK Ω,ag.ne bM zI vT FR⟩;have oO:¬ek p t=0:=fun h=>FR ((kW.zero _ _).1 h);have Vm:(ek p t==0)=false:=by simp[oO]
    clear ag vT zI;simp[hi,aI,ao,aF,dt,iU];((with_reducible repeat' first|refine aj ?_|refine aC ir ?_|refine aD ir ?_|simp[hi,aI,ao,aF,dt,fB,iU,oO,Vm]|((first|apply bD|apply bH|apply bG)<;>intro h<;>try simp at h))<;>(try exact b2));refine eQ [5,6,8,30,31,32,49,50] (fun j (b:Bool)=>[(9,.bool b),(51,.int .i64 j)]) s.length (p8 s t) true cb (by simp[p8]) (fun keep ag _=>?_) (fun j keep eb ag _=>?_)
    ·rw[p8,oZ,<-TM]at ag;rw[<-ag]at fq;clear ag;cases keep with
     |false=>simp only[gF,if_false]at fq;simp;((with_reducible repeat' first|refine aj ?_|simp|((first|apply bD|apply bH|apply bG)<;>intro h<;>try simp at h))<;>(try exact b2));all_goals exact bR.rng acc hi fq cb
     |true=>
      simp only[if_true]at fq;clear jK;simp;(with_reducible repeat' first|refine aj ?_|refine aC jZ ?_|refine aD jZ ?_|simp);all_goals first|(refine⟨by unfold lim;omega,?_⟩)|skip
      all_goals(with_reducible repeat' first|refine aj ?_|simp)
      all_goals exact bR.rng (acc++[t]) hi fq ⟨by simp[fresh,aP,aJ,cx,inObs,Pv.look,xY],eS (by simp[fresh,aP,aJ,cx,inObs,Pv.look,xY]),eT (by simp[fresh,aP,aJ,et,inObs,Pv.look,xY]),Ψ⟩
    ·obtain⟨d,aG,hdi⟩:=fb eb;have az:=ag.step aG;have jg:=af d (eZ aG);have eo:bZ ay 205 [cQ d,cQ t] (.bool (j6 d t)):=XH d jg.len dh;have oL:bZ ay 204 [cQ d,cQ t] (.int .i64 (ek d t)):=HP d t;clear ag aG fq;by_cases q:ek d t=0
     ·rw[wg,jS ((kW.zero _ _).1 q),Bool.true_or,Bool.and_true]at az;rw[q]at oL;simp[eb,hdi];((with_reducible repeat' first|refine aj ?_|refine aC oL ?_|refine aD oL ?_|simp[eb,hdi]|((first|apply bD|apply bH|apply bG)<;>intro h<;>try simp at h))<;>(try exact b2));all_goals exact bR.rng keep eb az cb
     ·rw[wg,lT (fun h=>q ((kW.zero _ _).2 h)),Bool.false_or]at az;have gD:(ek d t !=0)=true:=by simp[q]
      cases aW:j6 d t
      ·rw[aW]at az eo;simp only[Bool.not_false,Bool.and_true]at az;simp[eb,hdi];((with_reducible repeat' first|refine aj ?_|refine aC oL ?_|refine aD oL ?_|refine aC eo ?_|refine aD eo ?_|simp[eb,hdi,q,gD]|((first|apply bD|apply bH|apply bG)<;>intro h<;>try simp at h))<;>(try exact b2));all_goals exact bR.rng keep eb az cb
      ·rw[aW]at az eo;simp only[Bool.not_true,Bool.and_false]at az;simp[eb,hdi];((with_reducible repeat' first|refine aj ?_|refine aC oL ?_|refine aD oL ?_|refine aC eo ?_|refine aD eo ?_|simp[eb,hdi,q,gD]|((first|apply bD|apply bH|apply bG)<;>intro h<;>try simp at h))<;>(try exact b2));all_goals exact bR.rng false eb az cb
theorem am4(l:List T)(h:∀t∈l,t.fit=true):bZ ay 68 [.slice 4 .no (l.map T.e)] (.bool true):=by
 refine bE fF abO aiG fun aR=>?_;unfold Pr;have iH:l.length<=68719476736:=by simp[ij,ho,hN,lim]at aR;omega
 simp;refine eQ [5,6] (fun i (_:Unit)=>[(7,.int .i64 i)]) l.length (fun _ _=>True) () cb trivial (fun _ _ _=>?_) (fun i _ hi _ _=>?_)
 ·exact c0
 ·obtain⟨t,aI,vT⟩:=fb hi;have du:=Np (h t (eZ aI));clear aI;exact h6
def EJ:C:=(aa [c3 1 0,da 2 h5,bu 3 false] (aa [aH 26 1 1 1,ax 27 1 26,aH 28 3 1 1,ax 29 1 28,cg 30 120 27 29,I 25 30,cu 31 0 25,cu 32 1 25,I 4 31,I 5 32] (aa [aH 34 1 1 1,ax 35 1 34,aH 36 4 1 1,ax 37 1 36,cg 38 121 35 37,I 33 38,cu 39 0 33,cu 40 1 33,I 6 39,I 7 40] (.seq (aa [I 41 5,cB 42 41,I 43 42,bU 43 false 44 7,ar 43 false (cB 45 44),cW 46 43 45] (aV 46 (aa [gE 47 h5 [],bC 5 2 47,bu 3 false] .ret) .skip)) (aa [cH (.mkmap 48 none),I 8 48] (.seq (aa [I 49 4,cD 50 49,b7 51 0] (fj 52 51 50 (.seq (.block 1 (aa [cJ 53 2 49 51,a8 54 2 53,cH (.alloc 10 none (.agg [.int .i64 0,.int .i64 0])),bC 2 10 54] (aa [aH 55 1 1 10,ax 56 1 55,aQ 57 .eql 56 3] (aV 57 (.region [I 58 8,aH 59 0 1 10,ax 60 1 59,cH (.mput .i (.t 58) (.t 60) (.c (.bool true)))]) .skip)))) (.region [aQ 61 .add 51 1,I 51 61])))) (aa [ec 62 2 106 [],I 11 62] (.seq (aa [I 63 6,cD 64 63,b7 65 0] (.block 2 (.loop (aa [bF 66 .lss 65 64] (.seq (aV 66 .skip (.exit 2)) (.seq (.block 3 (aa [cJ 67 2 63 65,a8 68 2 67,cH (.alloc 13 none (.agg [.int .i64 0,.str []])),bC 2 13 68] (aa [I 69 8,aH 70 0 1 13,ax 71 1 70,bQ 72 (.mget .i (.bool false) false (.t 69) (.t 71)),cB 73 72] (aV 73 (.region [I 74 11,a8 75 2 13,ec 76 2 106 [.t 75],gY 77 2 106 74 76,I 11 77]) .skip)))) (.region [aQ 78 .add 65 1,I 65 78]))))))) (aa [ec 79 1 23 [],I 14 79] (.seq (aa [aH 80 2 1 1,ax 81 1 80,cD 82 81,b7 83 0] (.block 4 (.loop (aa [bF 84 .lss 83 82] (.seq (aV 84 .skip (.exit 4)) (.seq (.block 5 (aa [cJ 85 1 81 83,ax 86 1 85,I 16 86] (aa [aH 88 1 1 1,ax 89 1 88,I 90 16,cg 91 122 89 90,I 87 91,cu 92 0 87,cu 93 1 87,I 17 92,I 18 93] (.seq (aa [I 94 18,cB 95 94] (aV 95 (.exit 5) .skip)) (aa [I 97 17,I 98 4,cg 99 120 97 98,I 96 99,cu 100 0 96,cu 101 1 96,I 19 100,I 20 101] (aa [I 103 17,I 104 11,cg 105 121 103 104,I 102 105,cu 106 0 102,cu 107 1 102,I 21 106,I 22 107] (.seq (aa [I 108 20,cB 109 108,I 110 109,bU 110 false 111 22,ar 110 false (cB 112 111),cW 113 110 112] (aV 113 (.exit 5) .skip)) (aa [aH 114 1 1 1,ax 115 1 114,I 116 17,cg 117 123 115 116,I 23 117] (.seq (aa [I 118 23,cD 119 118,aQ 120 .eql 119 0] (aV 120 (aa [gE 121 h5 [],bC 5 2 121,bu 3 false] .ret) .skip)) (.region [I 122 14,I 123 23,ec 124 1 23 [.t 123],gY 125 1 23 122 124,I 14 125])))))))))) (.region [aQ 126 .add 83 1,I 83 126]))))))) (aa [I 127 14,cV 128 124 127,I 24 128] (.seq (aa [I 129 24,cD 130 129,aQ 131 .gtr 130 30] (aV 131 (aa [gE 132 h5 [],bC 5 2 132,bu 3 false] .ret) .skip)) (.seq (.drawn true 142 [aH 133 0 1 1,ax 134 1 133,aH 135 1 1 1,ax 136 1 135,cV 137 119 136,I 138 24,I 139 4,I 140 11,gE 141 h5 [(0,1,(.t 134)),(1,1,(.t 137)),(2,1,(.t 138)),(3,1,(.t 139)),(4,1,(.t 140))],bC 5 2 141,bu 3 true]) .ret)))))))))))))
@[simp] def AD:List bY:=[.cell 2 true 5,.tmp 3]
def Xf:List (Nat×dA):=[
 (3,⟨1,8,.int .i64,.int .i64 0⟩),
 (4,⟨1,1,.bool,.bool false⟩),
 (9,⟨1,16,.str,.str []⟩),
 (23,⟨1,24,.slice 61,.slice 5 .nil []⟩),
 (24,⟨1,24,.slice 23,.slice 1 .nil []⟩),
 (25,⟨1,24,.slice 104,.slice 2 .nil []⟩),
 (26,⟨1,24,.slice 106,.slice 2 .nil []⟩),
 (28,⟨5,104,.struct [(0,3),(1,23),(2,24),(3,25),(4,26)],.agg [.int .i64 0,.slice 5 .nil [],.slice 1 .nil [],.slice 2 .nil [],.slice 2 .nil []]⟩),
 (104,⟨2,16,.struct [(0,3),(1,3)],.agg [.int .i64 0,.int .i64 0]⟩),
 (106,⟨2,24,.struct [(0,3),(1,9)],.agg [.int .i64 0,.str []]⟩),
 (154,⟨1,8,.map 3 4,.junk⟩)]
theorem Ng:fN ay Xf=true:=by kernel_rfl
theorem LL:ca Xf EJ AD 1 Tryz.f50=true:=by kernel_rfl
theorem Jf:ay.funcs[(50:Nat)]? =some Tryz.f50:=Tryz.func50
def cC.e(s:cC):ai:= .agg [.int .i64 s.n,.slice 5 .no (s.b.map ak.e),.slice 1 .no (s.d.map cQ),.slice 2 .no (s.k.map b4.e),.slice 2 .no (s.m.map br.e)]
@[simp]theorem apX(S:aL->Prop)(s:cC):aJ S s.e=True:=by simp[cC.e,aJ,aP]
def hg(o:Option cC):ai:= .tuple [(o.getD pM).e,.bool o.isSome]
@[simp]theorem apW(S:aL->Prop)(o:Option cC):aJ S (hg o)=True:=by simp[hg,aJ,aP]
def uF(k:List b4)(i:Nat)(l:List (Int×Bool)):Prop:= ∀v,(tg v l).getD false=(k.take i).any fun x=>x.v==v&&x.k==3
theorem uF.put{k:List b4}{i:Nat}{l:List (Int×Bool)}(h:uF k i l){x:b4}(ae:k[i]? =some x)(al:x.k=3):uF k (i+1) (eU x.v true l):=fun v=>by
 rw[nA,sp ae,List.any_append,<-h v];by_cases e:v=x.v
 ·rw[if_pos e];simp[e,al]
 ·rw[if_neg e];have:(x.v==v)=false:=by simp;exact fun h=>e h.symm
  simp[this]
theorem uF.skip{k:List b4}{i:Nat}{l:List (Int×Bool)}(h:uF k i l){x:b4}(ae:k[i]? =some x)(al:¬x.k=3):uF k (i+1) l:=fun v=>by
 rw[sp ae,List.any_append,<-h v];have:(x.k==3)=false:=by simp[al]
 simp[this]
theorem uF.fin{k:List b4}{l:List (Int×Bool)}(h:uF k k.length l)(ad:ir k)(x:br):(tg x.v l).getD false= !jB k x:=by rw[h x.v,oZ,YA ad.asc,jB,bne,Bool.not_not]
def tj(k:List b4)(m:List br)(i:Nat)(a:List br):Prop:=a=(m.take i).filter (jB k)
theorem tj.step{k:List b4}{m:List br}{i:Nat}{a:List br}(h:tj k m i a){x:br}(ae:m[i]? =some x):tj k m (i+1) (if jB k x=true then a++[x]else a):=by
 rw[tj,sp ae,List.filter_append,<-h];by_cases e:jB k x=true
 ·rw[if_pos e];simp[e]
 ·rw[if_neg e];simp[e]
theorem zX(S:aL->Prop)(l:List br)(d:br):aP S (l.map br.e++[d.e])=True:=by have:=KZ S (l++[d]);rw[List.map_append]at this;exact eq_true this
theorem Um{k:List b4}{m:List br}(h:jM m):jM (m.filter (jB k)):=⟨fun x ae=>h.at' x (iA.1 ae).1,X3 _ h.asc⟩
theorem M9{G:List (List c4)}{k:List b4}{m:List br}(h:kY G m):kY G (m.filter (jB k)):=fun x ae=>h x (iA.1 ae).1
theorem p9.skip{b:List ak}{k:List b4}{m:List br}{D:List (List ak)}{i:Nat}{a:List (List ak)}(h:p9 b k m D i a){d:List ak}(aG:D[i]? =some d)(he:∀r,fh b k m (d::r)=fh b k m r):p9 b k m D (i+1) a:=⟨by have:=h.1;omega,h.2.1,by rw[<-h.2.2,z7 aG,he]⟩
theorem p9.snoc{b:List ak}{k:List b4}{m:List br}{D:List (List ak)}{i:Nat}{a:List (List ak)}(h:p9 b k m D i a){d x:List ak}(aG:D[i]? =some d)(ae:eB x)(he:∀r,fh b k m (d::r)=(fh b k m r).map (x:: ·)):p9 b k m D (i+1) (a++[x]):=
 ⟨by have:=h.1;simp;omega,fun y aM=>by
  rcases h9.1 aM with aM|aM
  ·exact h.2.1 y aM
  ·simp at aM;subst aM;exact ae,by
  rw[<-h.2.2,z7 aG,he,Option.map_map];congr 1;funext r;simp⟩
theorem p9.stop{b:List ak}{k:List b4}{m:List br}{D:List (List ak)}{i:Nat}{a:List (List ak)}(h:p9 b k m D i a){d:List ak}(aG:D[i]? =some d)(he:∀r,fh b k m (d::r)=none):fh b k m D=none:=by rw[<-h.2.2,z7 aG,he];rfl
theorem p9.fin{b:List ak}{k:List b4}{m:List br}{D:List (List ak)}{a:List (List ak)}(h:p9 b k m D D.length a):fh b k m D=some a:=by rw[<-h.2.2,List.drop_length];simp[fh]
theorem tp(S:aL->Prop)(l:List (List ak))(d:List ak):aP S (l.map cQ++[.slice 5 .no (d.map ak.e)])=True:=xY S l d
theorem BG{d:List ak}(aG:eB d):∀e∈fR d,e.1.ok=true/\e.2.ok=true:=fun e he=>by obtain⟨c,aq,rfl⟩:=ia.1 he;have:=aG.ok c aq;exact⟨by simpa[T.ok]using this.1,this.2⟩
theorem Ba{s:cC}(h:gK s){G:List (List c4)}(lb:G.length<=687000)(aW:kY G s.m):bZ ay 50 [s.e] (hg (fu s)):=by
 generalize c7:fu s=O;have kF:=Xr h.b h.k;have kG:=Xs h.b h.m lb aW;have kk:=fun k=>Ha (acc:=[]) (a:=k) h.b h.k.at' ⟨Ψ,Ψ⟩;have qh:=fun m=>Hc (acc:=[]) (a:=m) h.b h.m.at' ⟨Ψ,by simp[hH]⟩;have nc:=fun m=>He (acc:=[]) (a:=m) (s:=s.b) aW (fun x ae=>by simp at ae);have ab:=h.b;have aG:=h.d;clear h aW;unfold fu at c7;obtain⟨n,b,d,gR,m0⟩:=s;simp only at kF kG kk qh nc ab aG c7;have fk:=ab.len;simp only[cC.e];generalize fC b gR []=ok at kF c7 kk;generalize fD b m0 []=om at kG c7 qh nc;cases ok with
 |none=>
  simp only at c7;subst c7;simp only[fo]at kF;simp only[ix]at kG;clear kk qh nc;refine bE Ng Jf LL fun aR=>?_;unfold EJ;simp;(with_reducible repeat' first|refine aj ?_|refine aC kF ?_|refine aD kF ?_|refine aC kG ?_|refine aD kG ?_|simp);all_goals simp[bn,AD,aT,aU,aS]
  all_goals simp[hg,pM,cC.e]
 |some k=>
  simp only at c7;cases om with
  |none=>
   simp only at c7;subst c7;simp only[fo]at kF;simp only[ix]at kG;clear kk qh nc;refine bE Ng Jf LL fun aR=>?_;unfold EJ;simp;(with_reducible repeat' first|refine aj ?_|refine aC kF ?_|refine aD kF ?_|refine aC kG ?_|refine aD kG ?_|simp);all_goals simp[bn,AD,aT,aU,aS]
   all_goals simp[hg,pM,cC.e]
  |some m=>
   simp only at c7;have vG:=kk k rfl;have xJ:=qh m rfl;have xE:=nc m rfl;have im:=uG vG;have mE:m.length<=68719470000:=by have:=C6 xJ xE;omega
   have zE:=Um (k:=k) xJ;have zw:=M9 (k:=k) xE;have afe:(m.filter (jB k)).length<=68719470000:=gZ (List.length_filter_le _ _) mE;simp only[fo,hV,kM]at kF;simp only[ix,hV,kM]at kG;clear kk qh nc;refine bE Ng Jf LL fun aR=>?_;unfold EJ;have Fx:d.length<=68719476736:=by simp[ij,ho,hN,lim]at aR;omega
   simp;(with_reducible repeat' first|refine aj ?_|refine aC kF ?_|refine aD kF ?_|refine aC kG ?_|refine aD kG ?_|simp);refine ik (fun i (l:List (Int×Bool))=>⟨[(1,.ptr (.loc 0) 0),(2,.ptr (.loc 1) 0),(4,.slice 2 .no (k.map b4.e)),(6,.slice 2 .no (m.map br.e)),(8,.gmap (.loc 2)),(49,.slice 2 .no (k.map b4.e)),(50,.int .i64 k.length),(51,.int .i64 i)],[(.loc 0,[.int .i64 n,.slice 5 .no (b.map ak.e),.slice 1 .no (d.map cQ),.slice 2 .no (gR.map b4.e),.slice 2 .no (m0.map br.e)]),(.loc 1,[.int .i64 0,.slice 5 .nil [],.slice 1 .nil [],.slice 2 .nil [],.slice 2 .nil []]),(.loc 2,qe l)],[],3,[]⟩) k.length (uF k) [] ⟨by simp[fresh,aP,aJ,cx,inObs,Pv.look,Lc],eS (by simp[fresh,aP,aJ,cx,inObs,Pv.look,Lc]),eT (by simp[fresh,aP,aJ,et,inObs,Pv.look,Lc]),Ψ⟩ (fun v=>by simp[tg]) (fun l ag _=>?_) (fun i l hi ag _=>?_);rotate_left
   ·obtain⟨x,ae,dJ⟩:=fb hi;by_cases al:x.k=3
    ·have az:=ag.put ae al;clear ag ae;exact h6
    ·have az:=ag.skip ae al;have sV:(x.k==3)=false:=by simp[al]
     clear ag ae;exact h6
   have hints:=ag.fin vG;clear ag;simp;(with_reducible repeat' first|refine aj ?_|simp);refine ik (fun i (a:List br)=>⟨[(1,.ptr (.loc 0) 0),(2,.ptr (.loc 1) 0),(4,.slice 2 .no (k.map b4.e)),(8,.gmap (.loc 2)),(11,.slice 2 (.own (.loc 3)) (a.map br.e)),(63,.slice 2 .no (m.map br.e)),(64,.int .i64 m.length),(65,.int .i64 i)],[(.loc 0,[.int .i64 n,.slice 5 .no (b.map ak.e),.slice 1 .no (d.map cQ),.slice 2 .no (gR.map b4.e),.slice 2 .no (m0.map br.e)]),(.loc 1,[.int .i64 0,.slice 5 .nil [],.slice 1 .nil [],.slice 2 .nil [],.slice 2 .nil []]),(.loc 2,qe l)],[(.loc 3,⟨a.length,106,2,none⟩)],4,[]⟩) m.length (tj k m) [] cb (by simp[tj]) (fun a ag _=>?_) (fun i a hi ag _=>?_);rotate_left
   ·obtain⟨x,ae,dJ⟩:=fb hi;have pZ:a.length<=68719470000:=by
     have:a.length<=(m.take i).length:=by rw[ag];exact List.length_filter_le _ _
     simp at this;omega
    have az:=ag.step ae;have bI:=hints x;cases aO:jB k x
    ·rw[aO]at az bI;simp only[gF,if_false,Bool.not_false]at az bI;clear ag ae aO;simp[hi,dJ];((with_reducible repeat' first|refine aj ?_|simp[hi,dJ,bI]|((first|apply bD|apply bH|apply bG)<;>intro h<;>try simp at h))<;>(try exact b2));all_goals exact bR.rng a hi az cb
    ·rw[aO]at az bI;simp only[if_true,Bool.not_true]at az bI;clear ag ae aO;simp[hi,dJ];((with_reducible repeat' first|refine aj ?_|simp[hi,dJ,bI]|((first|apply bD|apply bH|apply bG)<;>intro h<;>try simp at h))<;>(try exact b2));all_goals first|(refine⟨by unfold lim;omega,?_⟩)|skip
     all_goals(with_reducible repeat' first|refine aj ?_|simp)
     all_goals exact bR.rng (a++[x]) hi az ⟨by simp[fresh,aP,aJ,cx,inObs,Pv.look,zX],eS (by simp[fresh,aP,aJ,cx,inObs,Pv.look,zX]),eT (by simp[fresh,aP,aJ,et,inObs,Pv.look,zX]),Ψ⟩
   rw[tj,oZ]at ag;rw[<-ag]at zE zw afe c7;clear ag hints im xJ xE;simp;(with_reducible repeat' first|refine aj ?_|simp);refine ik (fun i (L:List (List ak))=>⟨[(1,.ptr (.loc 0) 0),(2,.ptr (.loc 1) 0),(4,.slice 2 .no (k.map b4.e)),(11,.slice 2 (.own (.loc 3)) (a.map br.e)),(14,.slice 1 (.own (.loc 4)) (L.map cQ)),(81,.slice 1 .no (d.map cQ)),(82,.int .i64 d.length),(83,.int .i64 i)],[(.loc 0,[.int .i64 n,.slice 5 .no (b.map ak.e),.slice 1 .no (d.map cQ),.slice 2 .no (gR.map b4.e),.slice 2 .no (m0.map br.e)]),(.loc 1,[.int .i64 0,.slice 5 .nil [],.slice 1 .nil [],.slice 2 .nil [],.slice 2 .nil []])],[(.loc 3,⟨a.length,106,2,none⟩),(.loc 4,⟨L.length,23,1,none⟩)],5,[]⟩) d.length (p9 b k a d) [] cb ⟨Ψ,Ψ,Ψ⟩ (fun L ag _=>?_) (fun i L hi ag _=>?_)
   ·have fe:=ag.fin;have rG:=ag.2.1;rw[fe]at c7;simp only at c7;have nq:=amj L rG;have jZ:bZ ay 119 [.slice 5 .no (b.map ak.e)] (.slice 5 .no (b.map ak.e)):=HJ b fk;clear ag fe rG;generalize jN L=M at nq c7;by_cases la:M.length<=30
    ·have oz:¬(30:Int)<M.length:=Ω
     rw[if_pos la]at c7;subst c7;simp;(with_reducible repeat' first|refine aj ?_|refine aC nq ?_|refine aD nq ?_|refine aC jZ ?_|refine aD jZ ?_|simp[la,oz]);all_goals simp[bn,AD,aT,aU,aS]
     all_goals simp[hg,cC.e]
    ·have oz:(30:Int)<M.length:=Ω
     rw[if_neg la]at c7;subst c7;simp;(with_reducible repeat' first|refine aj ?_|refine aC nq ?_|refine aD nq ?_|refine aC jZ ?_|refine aD jZ ?_|simp[la,oz]);all_goals simp[bn,AD,aT,aU,aS]
     all_goals simp[hg,pM,cC.e]
   ·obtain⟨x,ae,dJ⟩:=fb hi;have hb:=aG x (eZ ae);have R6:=ag.1;have gC:bZ ay 122 [.slice 5 .no (b.map ak.e),cQ x] (fE (mgu b (fR x))):=amc ab hb;simp only[fE]at gC;cases hu:mgu b (fR x)with
    |none=>have az:=ag.skip ae fun r=>K5 hu;rw[hu]at gC;simp only[jq,iL]at gC;clear ag ae c7;exact h6
    |some y=>
     have jh:=ab.mgu (BG hb) hu;rw[hu]at gC;simp only[hV,kM]at gC;have di:=Xr jh vG;have eo:=Xs jh zE lb zw;have hR:=Xq ab jh;simp only[fo]at di;simp only[ix]at eo;by_cases iG:fC y k []=none\/fD y a []=none
     ·have az:=ag.skip ae fun r=>K4 hu iG;clear ag ae c7 hu;rcases iG with e|e
      ·rw[e]at di;simp only[jq,iL]at di;exact h6
      ·rw[e]at eo;simp only[jq,iL]at eo;cases (fC y k []).isSome
       ·simp[hi,dJ];((with_reducible repeat' first|refine aj ?_|refine aC gC ?_|refine aD gC ?_|refine aC di ?_|refine aD di ?_|refine aC eo ?_|refine aD eo ?_|simp[hi,dJ]|((first|apply bD|apply bH|apply bG)<;>intro h<;>try simp at h))<;>(try exact b2));all_goals exact bR.rng L hi az cb
       ·simp[hi,dJ];((with_reducible repeat' first|refine aj ?_|refine aC gC ?_|refine aD gC ?_|refine aC di ?_|refine aD di ?_|refine aC eo ?_|refine aD eo ?_|simp[hi,dJ]|((first|apply bD|apply bH|apply bG)<;>intro h<;>try simp at h))<;>(try exact b2));all_goals exact bR.rng L hi az cb
     ·have ao:(fC y k []).isSome=true:=by cases e:fC y k []with|none=>exact absurd (.inl e) iG|some _=>rfl
      have aF:(fD y a []).isSome=true:=by cases e:fD y a []with|none=>exact absurd (.inr e) iG|some _=>rfl
      rw[ao]at di;rw[aF]at eo;by_cases cF:dR b y=[]
      ·have af:=ag.stop ae fun r=>K3 hu iG cF;rw[af]at c7;simp only at c7;subst c7;rw[cF]at hR;simp only[hn]at hR;clear ag ae hu iG;simp[hi,dJ];((with_reducible repeat' first|refine aj ?_|refine aC gC ?_|refine aD gC ?_|refine aC di ?_|refine aD di ?_|refine aC eo ?_|refine aD eo ?_|refine aC hR ?_|refine aD hR ?_|simp[hi,dJ]|((first|apply bD|apply bH|apply bG)<;>intro h<;>try simp at h))<;>(try exact b2));all_goals simp[bn,AD,aT,aU,aS]
       all_goals simp[hg,pM,cC.e]
      ·have az:=ag.snoc ae (Dc (b:=b) jh) fun r=>K6 hu iG cF;have vK:¬((dR b y).length:Int)=0:=by have:(dR b y).length≠0:=fun h=>cF (List.length_eq_zero_iff.1 h);omega
       have vL:(((dR b y).length:Int)==0)=false:=by simp[cF]
       have Gc:bZ ay 123 [.slice 5 .no (b.map ak.e),.slice 5 .no (y.map ak.e)] (cQ (dR b y)):=hR;clear ag ae hu iG c7 hR;generalize dR b y=z at Gc az vK vL cF;simp only[cQ]at Gc;simp[hi,dJ];(with_reducible repeat' first|refine aj ?_|refine aC gC ?_|refine aD gC ?_|refine aC di ?_|refine aD di ?_|refine aC eo ?_|refine aD eo ?_|refine aC Gc ?_|refine aD Gc ?_|simp[hi,dJ,vK,vL,cF]);all_goals first|(refine⟨by unfold lim;omega,?_⟩)|skip
       all_goals(with_reducible repeat' first|refine aj ?_|simp)
       all_goals exact bR.rng (L++[z]) hi az ⟨by simp[fresh,aP,aJ,cx,inObs,Pv.look,tp,cQ],eS (by simp[fresh,aP,aJ,cx,inObs,Pv.look,tp,cQ]),eT (by simp[fresh,aP,aJ,et,inObs,Pv.look,tp,cQ]),Ψ⟩
structure pR where
 n:Int
 b:List dO
 d:List (List dO)
 k:List b4
 m:List br
def cC.r(s:cC):pR:=⟨s.n,s.b.map ak.b,s.d.map fun x=>x.map ak.b,s.k,s.m⟩
def yE(r:pR):Prop:= ∃s:cC,r=s.r/\q8 s
def kP(n:Int)(x:List dO):Prop:= ∃s:List ak,x=s.map ak.b/\eB s/\ot s n
structure Wl (r:pR):Prop where
 n:0<=r.n/\r.n<=100000
 b:kP r.n r.b
 d:∀x∈r.d,kP r.n x
 k:ir r.k
 m:jM r.m
 kb:∀x∈r.k,x.v<r.n
 mb:∀x∈r.m,x.v<r.n
theorem yE.raw{r:pR}(h:yE r):Wl r:=by obtain⟨s,rfl,J,_⟩:=h;exact⟨J.n,⟨s.b,rfl,J.b,J.bb⟩,fun x ae=>by obtain⟨y,aM,rfl⟩:=ia.1 ae;exact⟨y,rfl,J.d y aM,J.db y aM⟩,J.k,J.m,J.kb,J.mb⟩
theorem sK:∀{a b:List ak},a.map ak.b=b.map ak.b->a=b
 |[],b,h=>by cases b<;>simp at h⊢
 |x::a,[],h=>by simp at h
 |x::a,y::b,h=>by simp only[eO,yO,ak.b,dO.mk.injEq]at h;rw[sK h.2];have:=Xb h.1.2;obtain⟨⟨J,_⟩,_⟩:=h;cases x;cases y;simp_all
theorem Og:∀{a b:List (List ak)},(a.map fun x=>x.map ak.b)=(b.map fun x=>x.map ak.b)->a=b
 |[],b,h=>by cases b<;>simp at h⊢
 |x::a,[],h=>by simp at h
 |x::a,y::b,h=>by rw[eO,eO,yO]at h;rw[Og h.2,sK h.1]
theorem cC.r_inj{s t:cC}(h:s.r=t.r):s=t:=by obtain⟨n,b,d,k,m⟩:=s;obtain⟨n',b0,cp,bN,lL⟩:=t;simp only[cC.r,pR.mk.injEq]at h;obtain⟨J,U,al,a1,bW⟩:=h;rw[J,sK U,Og al,a1,bW]
theorem alE{s:cC}(h:gK s):yE s.r↔fu s=some s:=by
 constructor
 ·rintro⟨t,e,_,U⟩;rw[cC.r_inj e];exact U
 ·intro U;exact⟨s,rfl,h,U⟩
theorem HC{l:List dO}:H7 l↔∃s:List ak,l=s.map ak.b/\eB s:=⟨fun⟨s,J,U,al,a1⟩=>⟨s,J,U,al,a1⟩,fun⟨s,J,U⟩=>⟨s,J,U.ok,U.sol,U.fits⟩⟩
def vs{α:Type}(a b:List α)(i:Nat)(_:Unit):Prop:= ∀k,k<i->a[k]? =b[k]?
theorem vs.fin{α:Type}{a b:List α}(h:vs a b b.length ())(au:a.length=b.length):a=b:=by
 apply List.ext_getElem?;intro k;by_cases ad:k<b.length
 ·exact h k ad
 ·rw[qp Ω,qp Ω]
theorem vs.step{α:Type}{a b:List α}{i:Nat}(h:vs a b i ()){x:α}(a7:a[i]? =some x)(ab:b[i]? =some x):vs a b (i+1) ():=fun k ad=>by
 rcases(by omega:k<i\/k=i)with J|rfl
 ·exact h k J
 ·rw[a7,ab]
def v7{α:Type}(p:α->Prop)(s:List α)(i:Nat)(_:Unit):Prop:= ∀k b,k<i->s[k]? =some b->p b
theorem v7.step{α:Type}{p:α->Prop}{s:List α}{i:Nat}(h:v7 p s i ()){b:α}(ab:s[i]? =some b)(bL:p b):v7 p s (i+1) ():=fun k c ad aq=>by
 rcases(by omega:k<i\/k=i)with J|rfl
 ·exact h k c J aq
 ·rw[ab]at aq;cases aq;exact bL
theorem v7.fin{α:Type}{p:α->Prop}{s:List α}(h:v7 p s s.length ()):∀b∈s,p b:=fun b ab=>by obtain⟨k,ad,e⟩:=od ab;exact h k b ad (by rw[cr ad,e])
@[simp]theorem anD(neg:Bool)(x y:b4):mv neg (some [false,false]) x.e y.e=some (True,.bool (if neg then !decide (x=y)else decide (x=y))):=by
 have h:(x.v==y.v&&(x.k==y.k&&true))=decide (x=y):=by rw[pN];simp only[Bool.and_true,ct,dM,eF];cases x;cases y;simp
 rw[<-h];rfl
@[simp]theorem anE(neg:Bool)(x y:br):mv neg (some [false,true]) x.e y.e=some (True,.bool (if neg then !decide (x=y)else decide (x=y))):=by
 have h:(x.v==y.v&&(x.s==y.s&&true))=decide (x=y):=by rw[pN];simp only[Bool.and_true,ct,dM,eF];cases x;cases y;simp
 rw[<-h];rfl
def pR.e(r:pR):ai:= .agg [.int .i64 r.n,.slice 5 .no (r.b.map dO.e),.slice 1 .no (r.d.map mz),.slice 2 .no (r.k.map b4.e),.slice 2 .no (r.m.map br.e)]
theorem W3(s:cC):s.r.e=s.e:=by simp only[cC.r,pR.e,cC.e,tv,QS]
end
end Go.Proofs.YtohaalphocaebaaGreat
