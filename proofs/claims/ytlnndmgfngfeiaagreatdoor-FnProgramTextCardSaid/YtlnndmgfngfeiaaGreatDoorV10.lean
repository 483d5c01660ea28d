/- From a contract of a law of bytes to its row. -/
import Derived.ProofKit
import Derived.Carry
import Derived.WalkKit
import Derived.Lib.LaidTab
import Derived.Stop.LaidErr
import Derived.Lib.ItoaNum
import Derived.Test.YtlnndmgfngfeiaaGreatDoorV9
set_option linter.all false
set_option maxHeartbeats 4000000
set_option maxRecDepth 4000
open Bool renaming and_eq_true->bF
open Go renaming TypeId->fT,program->iT
open Go.IntKind renaming i64->iw
open Go.Proofs.Tryz renaming prog->aQ
open Go.Value renaming cells->mf,int->mP
open List renaming all_eq_true->hq,append_nil->mg,cons_append->ds,eq_nil_of_length_eq_zero->n5,getElem?_append_left->rE,getElem?_eq_getElem->cS,getElem?_eq_some_iff->eV,getElem?_map->pQ,length_append->fU,length_cons->ga,length_map->pR,length_nil->mh,map_cons->ek,map_nil->mQ,mem_append->fM,mem_cons->gb,mem_map->n8,mem_of_getElem?->fq,mem_singleton->mi,nil_append->eW,sum_cons->qD
open List.cons renaming injEq->w9
open Nat renaming le_refl->c7,lt_or_ge->lU,zero_le->o3
open Option renaming getD_some->qE
open Option.some renaming inj->hd,injEq->dH
open Prod.mk renaming injEq->gz
open _root_ renaming False->dD,UInt8->ah,congrArg->dZ,decide_eq_true_eq->ea,if_neg->bo,if_pos->bP
namespace Go.Proofs.YtlnndmgfngfeiaaGreatDoor
section
open Go Go.Pv
theorem aaV(P:List Rl)(hW:0<P.length)(uM:∀r∈P,0<=r.ar/\r.ar<=4)(c:bS)(aH:c.ok):bJ aQ 100 [.ptr (.obj 401) 0,ho P,.int .i64 3,.int .i64 2] (aN c) fun r aq=>r=(tA P c).1.e/\aq=aN (tA P c).2:=by
 have au:=cn c;have l9:=aaU P hW uM 3 Ω 1 Ω c aH;have ad:=Ec (P:=P) (n:=3) (m:=1) aH;have fC:=BQ _ ad 4;unfold tA;have hlen:0<(fQ P 3 1 c).1.length/\(fQ P 3 1 c).1.length<=10:=by have ao:=c.below_le 2 Ω;unfold fQ gO;rcases fa:jg 3 (1+(c.below 2).toNat) (c.belowC 2)with⟨l,c8⟩;have:=wX 3 (c.belowC 2) (1+(c.below 2).toNat);rw[fa]at this;simp only at this;simp only[gO,fU,List.length_singleton,this];omega
 unfold jO at l9⊢;rcases nb:fQ P 3 1 c with⟨l,c8⟩;rw[nb]at l9 fC hlen;simp only at l9 fC hlen⊢;clear ad;obtain⟨cF,y,rfl⟩:∃cF y,l=cF++[y]:=by
  rcases List.eq_nil_or_concat l with h|⟨cF,y,h⟩
  ·rw[h]at hlen;simp[-aC,-aw]at hlen
  ·exact⟨cF,y,by simpa using h⟩
 rw[v8]at l9;have hz:cF.length<=10:=by rw[fU,List.length_singleton]at hlen;omega
 have e:List.map Gm.e cF++[y.e]=List.map Gm.e (cF++[y]):=by simp[-aC,-aw]
 have kq:∀h,((cF++[y])[cF.length]'h)=y:=fun h=>by simp[-aC,-aw]
 by_cases bK:c8.below 4=0
 ·rw[bP bK];have r2:(c8.below 4==0)=true:=by simpa using bK
  rw[r2]at fC;refine bJ.mk mixed o0 PM Tq (by simp[-aC,-aw]) au.obj fun aL bT=>?_;unfold HW;clear aL bT;unfold aN;simp[-aC,-aw];(refine bc.ob (l9) (cn _) (by unfold aN;exact ai) (by unfold aN;exact ai) (by simp[-aC,-aw,ag,aN,Pv.look]) ?_;rintro r aq ⟨rfl,rfl⟩;refine⟨c6 _ _,?_⟩;unfold aN;simp[-aC,-aw,aX]);(with_reducible repeat' first|refine av ?_|simp[-aC,-aw]);(refine bc.ob (fC) (cn _) (by unfold aN;exact ai) (by unfold aN;exact ai) (by simp[-aC,-aw,ag,aN,Pv.look]) ?_;rintro r aq ⟨rfl,rfl⟩;refine⟨c6 _ _,?_⟩;unfold aN;simp[-aC,-aw,aX]);(with_reducible repeat' first|refine av ?_|simp[-aC,-aw]);rw[v8];(refine bL.at (aN ((c8.belowC 4))) (.inl rfl) (cn _) (c6 _ _) (by unfold aN;exact ai) (by unfold aN;exact ai) ?_;simp[-aC,-aw,bV,K3,bg,bh,bf,aN]);exact⟨by rw[e,U8,ad0];trivial,by rw[e,U8]⟩
 ·rw[bo bK];have r2:(c8.below 4==0)=false:=by simpa using bK
  rw[r2]at fC;rw[show(cF++[y]).getLastD my=y by simp];refine bJ.mk mixed o0 PM Tq (by simp[-aC,-aw]) au.obj fun aL bT=>?_;unfold HW;clear aL bT;unfold aN;simp[-aC,-aw];(refine bc.ob (l9) (cn _) (by unfold aN;exact ai) (by unfold aN;exact ai) (by simp[-aC,-aw,ag,aN,Pv.look]) ?_;rintro r aq ⟨rfl,rfl⟩;refine⟨c6 _ _,?_⟩;unfold aN;simp[-aC,-aw,aX]);(with_reducible repeat' first|refine av ?_|simp[-aC,-aw]);(refine bc.ob (fC) (cn _) (by unfold aN;exact ai) (by unfold aN;exact ai) (by simp[-aC,-aw,ag,aN,Pv.look]) ?_;rintro r aq ⟨rfl,rfl⟩;refine⟨c6 _ _,?_⟩;unfold aN;simp[-aC,-aw,aX]);(with_reducible repeat' first|refine av ?_|simp[-aC,-aw,kq]);(refine bL.at (aN ((c8.belowC 4))) (.inl rfl) (cn _) (c6 _ _) (by unfold aN;exact ai) (by unfold aN;exact ai) ?_;simp[-aC,-aw,bV,K3,bg,bh,bf,aN])
theorem ahZ(d:List Int)(aP:tg d)(aG:d.length<=10000000)(n:Nat)(aJ:n<=1000000)(P:List Rl)(hW:0<P.length)(uM:∀r∈P,0<=r.ar/\r.ar<=4):ct aQ 32 [.slice 1 .no (iz d),.int .i64 n,ho P,.int .i64 2] (tA P (rQ d n)).1.e:=by have iN:=aaV P hW uM _ (O0 aP aG n);have dS:∀c,gJ (aN c):=cn;refine bW o0 ZT afy fun aL=>?_;unfold N7;clear aL;simp[-aC,-aw];refine hf.new (m:=401) (cs:=(rQ d n).e) (Qf d aP aG n aJ) (by simp[-aC,-aw]) (by simp[-aC,-aw]) (by simp[-aC,-aw]) (by simp[-aC,-aw]) ?_;simp[-aC,-aw];(with_reducible repeat' first|refine av ?_|simp[-aC,-aw]);refine hf.ob iN (cn _) (cn _) (c6 _ _) (by unfold aN;exact ai) (by unfold aN;exact ai) (by simp[-aC,-aw,ag,aN,Pv.look]) ?_;unfold aN;simp[-aC,-aw,aX];exact cB
def lq(P:List Rl)(c:bS):dF:=⟨[(.obj 401,c.e)],[(.obj 402,⟨P.length,86,7,some (P.map Rl.e)⟩)]⟩
theorem A6(P:List Rl)(c:bS):gJ (lq P c):=by unfold lq;exact gJ.of ⟨by intro m;simp[-aC,-aw,Pv.look],by intro m;simp[-aC,-aw,Pv.look]⟩ (by simp[-aC,-aw,cV,ag,Pv.look]) (by simp[-aC,-aw,aj,ak,ag,Pv.look])
theorem Hm(P:List Rl)(c d:bS):Same (lq P c) (lq P d):=by refine⟨fun k=>?_,fun k=>rfl⟩;simp only[lq,Pv.look];split<;>rfl
def xd(P:List Rl)(n:Int)(m:Nat)(k:Int)(c:bS):List Gm->a6
 |[]=>⟨[(0,.ptr (.obj 401) 0),(1,.row 7 (.obj 402) P.length),(2,.int .i64 n),(3,.int .i64 m),(4,.int .i64 2),(10,.ptr (.loc 0) 0),(11,.ptr (.loc 1) 0),(12,.int .i64 k)],[(.obj 401,c.e),(.loc 0,[.int .i64 0,.str [],.slice 4 .nil [],.slice 4 .nil []]),(.loc 1,[.int .i64 7,.str [],.slice 4 .nil [],.slice 4 .nil []])],[(.obj 402,⟨P.length,86,7,some (P.map Rl.e)⟩)],2,[.obj 401,.obj 402]⟩
 |x::xs=>⟨[(0,.ptr (.obj 401) 0),(1,.row 7 (.obj 402) P.length),(2,.int .i64 n),(3,.int .i64 m),(4,.int .i64 2),(10,.ptr (.loc 0) 0),(11,.ptr (.loc 1) 0),(12,.int .i64 k)],[(.obj 401,c.e),(.loc 0,[.int .i64 0,.str [],.slice 4 .nil [],.slice 4 .nil []]),(.loc 1,[.int .i64 7,.str [],.slice 4 .nil [],.slice 4 (.own (.loc 34)) (x.e::xs.map Gm.e)])],[(.obj 402,⟨P.length,86,7,some (P.map Rl.e)⟩),(.loc 34,⟨xs.length+1,65,4,none⟩)],89,[.obj 401,.obj 402]⟩
def s7(P:List Rl)(n:Int)(q:Int)(x:Gm)(xs:List Gm)(r:Rl)(i:Int)(c:bS):List T->a6
 |[]=>⟨[(0,.ptr (.obj 401) 0),(1,.row 7 (.obj 402) P.length),(2,.int .i64 n),(3,.int .i64 q),(4,.int .i64 2),(10,.ptr (.loc 0) 0),(11,.ptr (.loc 1) 0),(13,.ptr (.loc 89) 0),(14,.ptr (.loc 90) 0),(15,.int .i64 i)],[(.obj 401,c.e),(.loc 0,[.int .i64 0,.str [],.slice 4 .nil [],.slice 4 .nil []]),(.loc 1,[.int .i64 7,.str [],.slice 4 .nil [],.slice 4 (.own (.loc 34)) (x.e::xs.map Gm.e)]),(.loc 89,Pv.cells r.e),(.loc 90,[.int .i64 9,.str r.name,.slice 4 .nil [],.slice 4 .nil []])],[(.obj 402,⟨P.length,86,7,some (P.map Rl.e)⟩),(.loc 34,⟨xs.length+1,65,4,none⟩)],91,[.obj 401,.obj 402]⟩
 |t::ts=>⟨[(0,.ptr (.obj 401) 0),(1,.row 7 (.obj 402) P.length),(2,.int .i64 n),(3,.int .i64 q),(4,.int .i64 2),(10,.ptr (.loc 0) 0),(11,.ptr (.loc 1) 0),(13,.ptr (.loc 89) 0),(14,.ptr (.loc 90) 0),(15,.int .i64 i)],[(.obj 401,c.e),(.loc 0,[.int .i64 0,.str [],.slice 4 .nil [],.slice 4 .nil []]),(.loc 1,[.int .i64 7,.str [],.slice 4 .nil [],.slice 4 (.own (.loc 34)) (x.e::xs.map Gm.e)]),(.loc 89,Pv.cells r.e),(.loc 90,[.int .i64 9,.str r.name,.slice 4 (.own (.loc 160)) (t.e::ts.map T.e),.slice 4 .nil []])],[(.obj 402,⟨P.length,86,7,some (P.map Rl.e)⟩),(.loc 34,⟨xs.length+1,65,4,none⟩),(.loc 160,⟨ts.length+1,40,4,none⟩)],178,[.obj 401,.obj 402]⟩
def vJ(P:List Rl)(n:Int)(q:Int)(c:bS)(x:Gm)(xs:List Gm):a6:=⟨[(0,.ptr (.obj 401) 0),(1,.row 7 (.obj 402) P.length),(2,.int .i64 n),(3,.int .i64 q),(4,.int .i64 2),(10,.ptr (.loc 0) 0),(11,.ptr (.loc 1) 0)],[(.obj 401,c.e),(.loc 0,[.int .i64 0,.str [],.slice 4 .nil [],.slice 4 .nil []]),(.loc 1,[.int .i64 7,.str [],.slice 4 .nil [],.slice 4 (.own (.loc 34)) (x.e::xs.map Gm.e)])],[(.obj 402,⟨P.length,86,7,some (P.map Rl.e)⟩),(.loc 34,⟨xs.length+1,65,4,none⟩)],89,[.obj 401,.obj 402]⟩
theorem Qd(P:List Rl)(hW:0<P.length)(uM:∀r∈P,0<=r.ar/\r.ar<=4)(n:Int)(aJ:n<=1000000)(m:Nat)(hm:m<=1000)(c:bS)(aH:c.ok):bJ aQ 165 [.ptr (.obj 401) 0,.row 7 (.obj 402) P.length,.int .i64 n,.int .i64 m,.int .i64 2] (lq P c) fun r aq=>r=(jO P n m c).e/\aq=lq P (fQ P n m c).2:=by
 have au:=A6 P c;have fB:=mz c aH 2;have ao:=c.below_le 2 Ω;refine bJ.mk mixed o0 PL Tp (by simp[-aC,-aw]) au.obj fun aL bT=>?_;unfold HV;clear aL bT;unfold lq;simp[-aC,-aw];(with_reducible repeat' first|refine av ?_|simp[-aC,-aw]);(refine bc.ob (fB) (cn _) (by unfold aN;exact ai) (by unfold aN;exact ai) (by simp[-aC,-aw,ag,aN,Pv.look]) ?_;rintro r aq ⟨rfl,rfl⟩;refine⟨c6 _ _,?_⟩;unfold aN;simp[-aC,-aw,aX]);(with_reducible repeat' first|refine av ?_|simp[-aC,-aw]);generalize uN:c.below 2=b at*;have hj:=aH.below 2;generalize pf:c.belowC 2=c2 at*;obtain⟨eu,rfl⟩:∃eu:Nat,b=eu:=⟨b.toNat,Ω⟩;have qY:eu<2:=Ω
 refine gf (fun k:Nat=>xd P n m (1+eu-k) (jg n k c2).2 (jg n k c2).1) (fun k=>1+eu-k) (fun k=>k<=1+eu) 0 (by simp[-aC,-aw,xd,jg];exact⟨by simp[-aC,-aw,fresh,aj,ak,bj,ag,Pv.look,cV,bC],cg (by simp[-aC,-aw,fresh,aj,ak,bj,ag,Pv.look,cV,bC]),ch (by simp[-aC,-aw,fresh,aj,ak,cc,ag,Pv.look,cV,bC]),by simp[-aC,-aw]⟩) Ω ?_;intro k aa _;have ad:=GS (n:=n) hj k;have jF:=Qc n aJ _ ad;rcases hsk:jg n k c2 with⟨l,c3⟩;rw[hsk]at jF ad;simp only at jF ad⊢;by_cases h4:k<1+eu
 ·have aR:(0:Int)<1+eu-k:=Ω
  have lz:(k:Int)<1+eu:=Ω
  have vo:aZ (1+(eu:Int)-k-1):=by unfold aZ;omega
  have Ch:l.length+1<=bs:=by have:=wX n c2 k;rw[hsk]at this;simp only at this;unfold bs;omega
  cases l with
  |nil=>simp[-aC,-aw,xd,aR];(with_reducible repeat' first|refine av ?_|simp[-aC,-aw,aR,lz,vo]);refine hf.ob jF (cn c3) (cn _) (c6 c3 _) (by unfold aN;exact ai) (by unfold aN;exact ai) (by simp[-aC,-aw,ag,aN,Pv.look]) ?_;unfold aN;simp[-aC,-aw,aX];(with_reducible repeat' first|refine av ?_|simp[-aC,-aw,aR,lz,vo,Ch]);refine bU.whl (k+1) Ω Ω ?_;simp only[jg,hsk];simp[-aC,-aw,xd,show(1:Int)+eu-((k:Int)+1)=1+eu-k-1 by omega];exact⟨by simp[-aC,-aw,fresh,aj,ak,bj,ag,Pv.look,cV,bC],cg (by simp[-aC,-aw,fresh,aj,ak,bj,ag,Pv.look,cV,bC]),ch (by simp[-aC,-aw,fresh,aj,ak,cc,ag,Pv.look,cV,bC]),by simp[-aC,-aw]⟩
  |cons a eX=>simp[-aC,-aw,xd,aR];(with_reducible repeat' first|refine av ?_|simp[-aC,-aw,aR,lz,vo]);refine hf.ob jF (cn c3) (cn _) (c6 c3 _) (by unfold aN;exact ai) (by unfold aN;exact ai) (by simp[-aC,-aw,ag,aN,Pv.look]) ?_;unfold aN;simp[-aC,-aw,aX];(with_reducible repeat' first|refine av ?_|simp[-aC,-aw,aR,lz,vo,Ch]);refine bU.whl (k+1) Ω Ω ?_;simp only[jg,hsk];simp[-aC,-aw,xd,show(1:Int)+eu-((k:Int)+1)=1+eu-k-1 by omega];exact⟨by simp[-aC,-aw,fresh,aj,ak,bj,ag,Pv.look,cV,bC],cg (by simp[-aC,-aw,fresh,aj,ak,bj,ag,Pv.look,cV,bC]),ch (by simp[-aC,-aw,fresh,aj,ak,cc,ag,Pv.look,cV,bC]),by simp[-aC,-aw]⟩
 obtain rfl:k=1+eu:=Ω
 have aG:=wX n c2 (1+eu);rw[hsk]at aG;simp only at aG;have nb:fQ P n m c=gO P n m (l,c3):=by unfold fQ;rw[uN,pf];simp[-aC,-aw,hsk]
 cases l with
 |nil=>simp[-aC,-aw]at aG;omega
 |cons x xs=>
 have bA:¬(0:Int)<1+eu-((1+eu:Nat):Int):=Ω
 simp[-aC,-aw,xd];(with_reducible repeat' first|refine av ?_|simp[-aC,-aw,bA]);rw[show jO P n m c= .mk 7 [] [] (gO P n m (x::xs,c3)).1 by unfold jO;rw[nb],nb];clear bA jF hsk aa fB ao h4 nb uN pf hj;simp only[ga]at aG;obtain⟨eR,QK⟩:xs.length=eu/\eu<2:=⟨Ω,by have:=qY;omega⟩;clear aG;refine gf (fun j:Nat=>vJ P n (m-j) (gO P n j (x::xs,c3)).2 x ((gO P n j (x::xs,c3)).1.drop 1)) (fun j=>m-j) (fun j=>j<=m) 0 (by simp[-aC,-aw,vJ,gO];exact⟨by simp[-aC,-aw,fresh,aj,ak,bj,ag,Pv.look,cV,bC],cg (by simp[-aC,-aw,fresh,aj,ak,bj,ag,Pv.look,cV,bC]),ch (by simp[-aC,-aw,fresh,aj,ak,cc,ag,Pv.look,cV,bC]),by simp[-aC,-aw]⟩) Ω ?_;intro j aD _;have oJ:=Eb (P:=P) (n:=n) (x:=(x::xs,c3)) ad j;obtain⟨ys,bB,pk⟩:=HZ (P:=P) (n:=n) (x:=x) (xs:=xs) (c:=c3) j;rcases hcj:gO P n j (x::xs,c3)with⟨du,c4⟩;rw[hcj]at oJ bB;simp only at oJ bB⊢;subst bB;have kQ:aZ ((m:Int)-j-1):=by unfold aZ;omega
 by_cases Cc:j<m;rotate_left
 ·obtain rfl:j=m:=Ω
  simp[-aC,-aw,vJ];(with_reducible repeat' first|refine av ?_|simp[-aC,-aw]);(refine bL.at (lq P c4) (.inl rfl) (A6 P _) (Hm P _ _) (by unfold lq;exact ai) (by unfold lq;exact ai) ?_;simp[-aC,-aw,bV,K1,bg,bh,bf,lq]);rw[v8];simp[-aC,-aw,hcj]
 have Ji:(j:Int)<m:=Ω
 have Jj:(0:Int)<(m:Int)-j:=Ω
 have fB:=mz c4 oJ P.length;have eE:=c4.below_le P.length Ω;obtain⟨d,aP⟩:∃d:Nat,c4.below P.length=d:=⟨(c4.below P.length).toNat,Ω⟩;rw[aP]at fB eE;have ka:d<P.length:=Ω
 obtain⟨r,hr,hk⟩:=gp ka;have zD:=uM r (fq hr);have IW:mW P c4=r:=by unfold mW;rw[aP];simp[-aC,-aw,hr]
 have zT:=oJ.below P.length;simp[-aC,-aw,vJ];(with_reducible repeat' first|refine av ?_|simp[-aC,-aw,Cc,Ji,Jj,kQ]);(refine bc.ob (fB) (cn _) (by unfold aN;exact ai) (by unfold aN;exact ai) (by simp[-aC,-aw,ag,aN,Pv.look]) ?_;rintro r aq ⟨rfl,rfl⟩;refine⟨c6 _ _,?_⟩;unfold aN;simp[-aC,-aw,aX]);(with_reducible repeat' first|refine av ?_|simp[-aC,-aw,ka,hk,hr]);refine gf (fun i:Nat=>s7 P n (m-j) x ys r i (hs n i (c4.belowC P.length)).2 (hs n i (c4.belowC P.length)).1) (fun i=>r.ar.toNat-i) (fun i=>i<=r.ar.toNat) 0 (by simp[-aC,-aw,s7,hs];exact⟨by simp[-aC,-aw,fresh,aj,ak,bj,ag,Pv.look,cV,bC],cg (by simp[-aC,-aw,fresh,aj,ak,bj,ag,Pv.look,cV,bC]),ch (by simp[-aC,-aw,fresh,aj,ak,cc,ag,Pv.look,cV,bC]),by simp[-aC,-aw]⟩) Ω ?_;intro i aE _;have qb:=DY (n:=n) zT i;have hZ:=DX n (c4.belowC P.length) i;rcases eK:hs n i (c4.belowC P.length)with⟨ts,c5⟩;rw[eK]at qb hZ;simp only at qb hZ⊢;have fB:=mz c5 qb 4;by_cases acr:i<r.ar.toNat
 rotate_left
 ·have ng:¬(i:Int)<r.ar:=Ω
  have iZ:ti P n c4= .mk 9 r.name (ts.map T.tm) []/\xu P n c4=c5:=by unfold ti xu;rw[IW,show r.ar.toNat=i by omega,eK];exact⟨rfl,rfl⟩
  have l8:ys.length+1+1<=bs:=by unfold bs;omega
  have fC:=BQ c5 qb 3;have uQ:zc P n c4=c5.belowC 3:=by unfold zc;rw[iZ.2]
  by_cases uW:c5.below 3=0
  ·have sf:(c5.below 3==0)=true:=by simpa using uW
   rw[sf]at fC;have r6:oj P n c4= .mk 10 [] [] [.mk 9 r.name (ts.map T.tm) []]:=by unfold oj;rw[iZ.2,bP uW,iZ.1]
   have qg:=VS 10 [.mk 9 r.name (ts.map T.tm) []];cases ts with
   |nil=>
    have sb:(Gm.mk 9 r.name [] []).e= .agg [.int .i64 9,.str r.name,.slice 4 .no [],.slice 4 .no []]:=gQ 9 r.name [] [];have he:(Gm.mk 10 [] [] [.mk 9 r.name [] []]).e= .agg [.int .i64 10,.str [],.slice 4 .no [],.slice 4 .no [.agg [.int .i64 9,.str r.name,.slice 4 .no [],.slice 4 .no []]]]:=by rw[v8];simp only[ek,mQ,sb]
    simp only[ek,mQ,sb]at qg;simp[-aC,-aw,s7];(with_reducible repeat' first|refine av ?_|simp[-aC,-aw,ng,kQ,l8]);(refine bc.ob (fC) (cn _) (by unfold aN;exact ai) (by unfold aN;exact ai) (by simp[-aC,-aw,ag,aN,Pv.look]) ?_;rintro r aq ⟨rfl,rfl⟩;refine⟨c6 _ _,?_⟩;unfold aN;simp[-aC,-aw,aX]);(with_reducible repeat' first|refine av ?_|refine ba qg ?_|refine bb qg ?_|simp[-aC,-aw,ng,kQ,l8]);refine bU.whl (j+1) Ω Ω ?_;simp only[gO,hcj];rw[r6,uQ];simp[-aC,-aw,vJ,he,show(m:Int)-((j:Int)+1)=m-j-1 by omega];exact⟨by simp[-aC,-aw,fresh,aj,ak,bj,ag,Pv.look,cV,bC,fi,he],cg (by simp[-aC,-aw,fresh,aj,ak,bj,ag,Pv.look,cV,bC,fi,he]),ch (by simp[-aC,-aw,fresh,aj,ak,cc,ag,Pv.look,cV,bC,fi,he]),by simp[-aC,-aw]⟩
   |cons t ts=>
    have sb:(Gm.mk 9 r.name (t.tm::ts.map T.tm) []).e= .agg [.int .i64 9,.str r.name,.slice 4 .no (t.e::ts.map T.e),.slice 4 .no []]:=gQ 9 r.name (t::ts) [];have he:(Gm.mk 10 [] [] [.mk 9 r.name (t.tm::ts.map T.tm) []]).e= .agg [.int .i64 10,.str [],.slice 4 .no [],.slice 4 .no [.agg [.int .i64 9,.str r.name,.slice 4 .no (t.e::ts.map T.e),.slice 4 .no []]]]:=by rw[v8];simp only[ek,mQ,sb]
    simp only[ek,mQ,sb]at qg;simp[-aC,-aw,s7];(with_reducible repeat' first|refine av ?_|simp[-aC,-aw,ng,kQ,l8]);(refine bc.ob (fC) (cn _) (by unfold aN;exact ai) (by unfold aN;exact ai) (by simp[-aC,-aw,ag,aN,Pv.look]) ?_;rintro r aq ⟨rfl,rfl⟩;refine⟨c6 _ _,?_⟩;unfold aN;simp[-aC,-aw,aX]);(with_reducible repeat' first|refine av ?_|refine ba qg ?_|refine bb qg ?_|simp[-aC,-aw,ng,kQ,l8]);refine bU.whl (j+1) Ω Ω ?_;simp only[gO,hcj];rw[r6,uQ];simp[-aC,-aw,vJ,he,show(m:Int)-((j:Int)+1)=m-j-1 by omega];exact⟨by simp[-aC,-aw,fresh,aj,ak,bj,ag,Pv.look,cV,bC,fi,he],cg (by simp[-aC,-aw,fresh,aj,ak,bj,ag,Pv.look,cV,bC,fi,he]),ch (by simp[-aC,-aw,fresh,aj,ak,cc,ag,Pv.look,cV,bC,fi,he]),by simp[-aC,-aw]⟩
  ·have sf:(c5.below 3==0)=false:=by simpa using uW
   rw[sf]at fC;have r6:oj P n c4= .mk 9 r.name (ts.map T.tm) []:=by unfold oj;rw[iZ.2,bo uW,iZ.1]
   cases ts with
   |nil=>have he:(Gm.mk 9 r.name [] []).e= .agg [.int .i64 9,.str r.name,.slice 4 .no [],.slice 4 .no []]:=gQ 9 r.name [] [];simp[-aC,-aw,s7];(with_reducible repeat' first|refine av ?_|simp[-aC,-aw,ng,kQ,l8]);(refine bc.ob (fC) (cn _) (by unfold aN;exact ai) (by unfold aN;exact ai) (by simp[-aC,-aw,ag,aN,Pv.look]) ?_;rintro r aq ⟨rfl,rfl⟩;refine⟨c6 _ _,?_⟩;unfold aN;simp[-aC,-aw,aX]);(with_reducible repeat' first|refine av ?_|simp[-aC,-aw,ng,kQ,l8]);refine bU.whl (j+1) Ω Ω ?_;simp only[gO,hcj];rw[r6,uQ];simp[-aC,-aw,vJ,he,show(m:Int)-((j:Int)+1)=m-j-1 by omega];exact⟨by simp[-aC,-aw,fresh,aj,ak,bj,ag,Pv.look,cV,bC,fi,he],cg (by simp[-aC,-aw,fresh,aj,ak,bj,ag,Pv.look,cV,bC,fi,he]),ch (by simp[-aC,-aw,fresh,aj,ak,cc,ag,Pv.look,cV,bC,fi,he]),by simp[-aC,-aw]⟩
   |cons t ts=>have he:(Gm.mk 9 r.name (t.tm::ts.map T.tm) []).e= .agg [.int .i64 9,.str r.name,.slice 4 .no (t.e::ts.map T.e),.slice 4 .no []]:=gQ 9 r.name (t::ts) [];simp[-aC,-aw,s7];(with_reducible repeat' first|refine av ?_|simp[-aC,-aw,ng,kQ,l8]);(refine bc.ob (fC) (cn _) (by unfold aN;exact ai) (by unfold aN;exact ai) (by simp[-aC,-aw,ag,aN,Pv.look]) ?_;rintro r aq ⟨rfl,rfl⟩;refine⟨c6 _ _,?_⟩;unfold aN;simp[-aC,-aw,aX]);(with_reducible repeat' first|refine av ?_|simp[-aC,-aw,ng,kQ,l8]);refine bU.whl (j+1) Ω Ω ?_;simp only[gO,hcj];rw[r6,uQ];simp[-aC,-aw,vJ,he,show(m:Int)-((j:Int)+1)=m-j-1 by omega];exact⟨by simp[-aC,-aw,fresh,aj,ak,bj,ag,Pv.look,cV,bC,fi,he],cg (by simp[-aC,-aw,fresh,aj,ak,bj,ag,Pv.look,cV,bC,fi,he]),ch (by simp[-aC,-aw,fresh,aj,ak,cc,ag,Pv.look,cV,bC,fi,he]),by simp[-aC,-aw]⟩
 have B8:(i:Int)<r.ar:=Ω
 have B9:(i:Int)<6:=Ω
 have i64:aZ ((i:Int)+1):=by unfold aZ;omega
 obtain⟨w,hw,JS,cp⟩:∃w:Nat,(c5.below 4).tdiv 3=(w:Int)/\w<=1/\(tf c5).toNat=1+w*2:=by have h:=c5.below_le 4 Ω;unfold tf;generalize c5.below 4=q at*;obtain⟨k,rfl⟩:∃k:Nat,q=k:=⟨q.toNat,Ω⟩;rcases(by omega:k=0\/k=1\/k=2\/k=3)with rfl|rfl|rfl|rfl<;>first|exact⟨0,by decide,by decide,by decide⟩|exact⟨1,by decide,by decide,by decide⟩
 have h8:=EI n aJ (1+w*2) Ω (c5.belowC 4) (qb.below 4);rw[show((1+w*2:Nat):Int)=1+(w:Int)*2 by push_cast;rfl]at h8;have qB:iw.wrap (w:Int)=w:=by rcases(by omega:w=0\/w=1)with rfl|rfl<;>rfl
 have sU:aZ ((w:Int)*2):=by unfold aZ;omega
 have rB:aZ (1+(w:Int)*2):=by unfold aZ;omega
 have ef:ts.length+1<=bs:=by unfold bs;omega
 cases ts with
 |nil=>simp[-aC,-aw,s7];(with_reducible repeat' first|refine av ?_|simp[-aC,-aw,B8,B9,i64]);refine hf.ob fB (cn c5) (cn _) (c6 c5 _) (by unfold aN;exact ai) (by unfold aN;exact ai) (by simp[-aC,-aw,ag,aN,Pv.look]) ?_;unfold aN;simp[-aC,-aw,aX];(with_reducible repeat' first|refine av ?_|simp[-aC,-aw,hw,qB,sU,rB]);refine hf.ob h8 (cn _) (cn _) (c6 _ _) (by unfold aN;exact ai) (by unfold aN;exact ai) (by simp[-aC,-aw,ag,aN,Pv.look]) ?_;unfold aN;simp[-aC,-aw,aX];(with_reducible repeat' first|refine av ?_|simp[-aC,-aw,hw,qB,sU,rB,i64,ef]);refine bU.whl (i+1) Ω Ω ?_;simp only[hs,eK,cp];simp[-aC,-aw,s7];exact⟨by simp[-aC,-aw,fresh,aj,ak,bj,ag,Pv.look,cV,bC,fi],cg (by simp[-aC,-aw,fresh,aj,ak,bj,ag,Pv.look,cV,bC,fi]),ch (by simp[-aC,-aw,fresh,aj,ak,cc,ag,Pv.look,cV,bC,fi]),by simp[-aC,-aw]⟩
 |cons t ts=>simp[-aC,-aw,s7];(with_reducible repeat' first|refine av ?_|simp[-aC,-aw,B8,B9,i64]);refine hf.ob fB (cn c5) (cn _) (c6 c5 _) (by unfold aN;exact ai) (by unfold aN;exact ai) (by simp[-aC,-aw,ag,aN,Pv.look]) ?_;unfold aN;simp[-aC,-aw,aX];(with_reducible repeat' first|refine av ?_|simp[-aC,-aw,hw,qB,sU,rB]);refine hf.ob h8 (cn _) (cn _) (c6 _ _) (by unfold aN;exact ai) (by unfold aN;exact ai) (by simp[-aC,-aw,ag,aN,Pv.look]) ?_;unfold aN;simp[-aC,-aw,aX];(with_reducible repeat' first|refine av ?_|simp[-aC,-aw,hw,qB,sU,rB,i64,ef]);refine bU.whl (i+1) Ω Ω ?_;simp only[hs,eK,cp];simp[-aC,-aw,s7];exact⟨by simp[-aC,-aw,fresh,aj,ak,bj,ag,Pv.look,cV,bC,fi],cg (by simp[-aC,-aw,fresh,aj,ak,bj,ag,Pv.look,cV,bC,fi]),ch (by simp[-aC,-aw,fresh,aj,ak,cc,ag,Pv.look,cV,bC,fi]),by simp[-aC,-aw]⟩
theorem Mv{v:Int}:∀t:T,v∈t.tm.vs->t.occ v=true
 | .var n,h=>by simp[T.tm,aV.vs]at h;simp[T.occ,h]
 | .pair a b,h=>by
  have:(T.pair a b).tm.vs=a.tm.vs++b.tm.vs:=by simp[T.tm,aV.vs,aV.vsL]
  rw[this,fM]at h;simp only[T.occ,Bool.or_eq_true];exact h.imp (Mv a) (Mv b)
 | .nil,h=>by simp[T.tm,aV.vs,aV.vsL]at h
 | .sym _,h=>by simp[T.tm,aV.vs,aV.vsL]at h
 | .num _,h=>by simp[T.tm,aV.vs,aV.vsL]at h
theorem Mu{v:Int}:∀{l:List T},v∈aV.vsL (l.map T.tm)->∃t∈l,v∈t.tm.vs
 |x::l,h=>by
  simp only[ek,aV.vsL,fM]at h;rcases h with h|h
  ·exact⟨x,Ψ,h⟩
  ·obtain⟨t,aI,aK⟩:=Mu h;exact⟨t,by simp[aI],aK⟩
theorem Ih{n:Int}(aJ:n<=100001){z:Nat}(cp:z<=4)(c:bS):(eD z n c).1.tm.fits=true/\∀v∈(eD z n c).1.tm.vs,v<n:=by obtain⟨I,J,aA⟩:=Pg n aJ z c;refine⟨?_,fun v aK=>(J v (Mv _ aK)).2⟩;rw[aV.fits_T,T.fit,I,Bool.true_and,ea];split at aA<;>omega
structure iU (F:List Rl) (n:Int) (g:Gm):Prop where
 sh:g.shape=true
 vb:∀v∈g.vs,v<n
 cf:g.cf F=true
theorem iU.list{F:List Rl}{n:Int}:∀{l:List Gm},(∀x∈l,iU F n x)->hO l=true/\(∀v∈Gm.vsL l,v<n)/\Gm.cfL F l=true
 |[],_=>⟨rfl,fun v h=>by simp[Gm.vsL]at h,rfl⟩
 |x::l,h=>by obtain⟨b4,a2,a3⟩:=h x Ψ;obtain⟨ck,cr,fo⟩:=iU.list (l:=l) fun y bB=>h y (by simp[bB]);refine⟨by simp[hO,b4,ck],fun v aK=>?_,by simp[Gm.cfL,a3,fo]⟩;simp only[Gm.vsL,fM]at aK;exact aK.elim (a2 v) (cr v)
theorem iU.and{F:List Rl}{n:Int}{l:List Gm}(k:Int)(aa:k=7\/k=8)(h:∀x∈l,iU F n x)(aG:l.length<=8):iU F n (.mk k [] [] l):=by
 obtain⟨ck,cr,fo⟩:=iU.list h;refine⟨?_,fun v aK=>?_,?_⟩
 ·simp only[Gm.shape];rw[bo Ω,bo Ω,bP aa];simp[ck,aG]
 ·simp only[Gm.vs,aV.vsL,eW]at aK;exact cr v aK
 ·simp only[Gm.cf];rw[bo Ω];exact fo
theorem iU.not{F:List Rl}{n:Int}{x:Gm}(h:iU F n x)(aa:x.kind=9):iU F n (.mk 10 [] [] [x]):=by
 obtain⟨ck,cr,fo⟩:=iU.list (l:=[x]) fun y bB=>by rw[mi.1 bB];exact h
 refine⟨?_,fun v aK=>?_,?_⟩
 ·simp only[Gm.shape];rw[bo Ω,bo Ω,bo Ω,bP trivial];simp[ck,aa]
 ·simp only[Gm.vs,aV.vsL,eW]at aK;exact cr v aK
 ·simp only[Gm.cf];rw[bo Ω];exact fo
theorem ahg{F:List Rl}{n cM:Int}{a b:T}(bK:0<=cM)(cq:cM<=6)(bM:a.tm.fits=true/\∀v∈a.tm.vs,v<n)(ao:b.tm.fits=true/\∀v∈b.tm.vs,v<n):iU F n (sH cM a b):=by
 have au:(T.sym [97]).tm.fits=true:=by rw[aV.fits_T];rfl
 have adg:(T.sym [97]).tm.vs=[]:=rfl;have aa:(T.sym [97]).tm.kind=2:=rfl;have hm:∀t∈yI cM a b,t.tm.fits=true/\∀v∈t.tm.vs,v<n:=by
  intro t aI;unfold yI at aI;repeat' split at aI
  all_goals simp at aI
  ·rcases aI with rfl|rfl
   ·exact bM
   ·exact ao
  ·rcases aI with rfl|rfl
   ·exact bM
   ·exact ao
  ·subst aI;exact bM
  ·subst aI;exact bM
  ·rcases aI with rfl|rfl
   ·exact⟨au,fun v aK=>by rw[adg]at aK;simp at aK⟩
   ·exact ao
 unfold sH;refine⟨?_,fun v aK=>?_,?_⟩
 ·simp only[Gm.shape];rw[bP Ω];have I:((yI cM a b).map T.tm).all aV.fits=true:=by rw[hq];intro x ad;obtain⟨t,aI,rfl⟩:=n8.1 ad;exact(hm t aI).1
  rw[I];rcases(by omega:cM=0\/cM=1\/cM=2\/cM=3\/cM=4\/cM=5\/cM=6)with rfl|rfl|rfl|rfl|rfl|rfl|rfl<;>simp[yI,lb,aa]
 ·simp only[Gm.vs,Gm.vsL,mg]at aK;obtain⟨t,aI,aK⟩:=Mu aK;exact(hm t aI).2 v aK
 ·simp only[Gm.cf];rw[bo Ω];rfl
theorem ahs{F:List Rl}{n:Int}(aJ:n<=100001)(c:bS):iU F n (AL n c):=by have aa:=ahh (k:=(eD 4 n (eD 1 n c).2).2.below 16) (((eD 4 n (eD 1 n c).2).2.belowC 16).below_le 8 Ω).1 (((eD 4 n (eD 1 n c).2).2.belowC 16).below_le 8 Ω).2;exact ahg aa.1 aa.2 (Ih aJ Ω _) (Ih aJ Ω _)
theorem LI{F:List Rl}{n:Int}(aJ:n<=100001)(c:bS):∀k,∀x∈(jg n k c).1,iU F n x/\x.sz=1
 |0,x,h=>by simp[jg]at h
 |k+1,x,h=>by
  simp only[jg,fM,mi]at h;rcases h with h|rfl
  ·exact LI aJ c k x h
  ·exact⟨ahs aJ _,rfl⟩
def uv(F P:List Rl):Prop:= ∀r∈P,eS r.name=true/\(0<=r.ar/\r.ar<=4)/\∃q,F.find? (fun q=>q.name==r.name)=some q/\q.ar=r.ar
theorem M9{n:Int}(aJ:n<=100001)(c:bS):∀k,∀t∈(hs n k c).1,t.tm.fits=true/\∀v∈t.tm.vs,v<n
 |0,x,h=>by simp[hs]at h
 |k+1,x,h=>by
  simp only[hs,fM,mi]at h;rcases h with h|rfl
  ·exact M9 aJ c k x h
  ·exact Ih aJ (by rcases M8 (hs n k c).2 with h|h<;>rw[h]<;>decide) _
theorem WZ{F P:List Rl}(gR:uv F P)(hW:0<P.length){n:Int}(aJ:n<=100001)(c:bS):iU F n (ti P n c):=by
 have ao:=c.below_le P.length Ω;have hr:mW P c∈P:=by unfold mW;rw[cS (show(c.below P.length).toNat<P.length by omega)];exact List.getElem_mem _
 obtain⟨I,J,q,aA,aS⟩:=gR _ hr;have aG:=DX n (c.belowC P.length) (mW P c).ar.toNat
 have aI:=M9 aJ (c.belowC P.length) (mW P c).ar.toNat
 unfold ti;refine⟨?_,fun v aK=>?_,?_⟩
 ·simp only[Gm.shape];rw[bo Ω,bP trivial];have bG:((hs n (mW P c).ar.toNat (c.belowC P.length)).1.map T.tm).all aV.fits=true:=by rw[hq];intro x ad;obtain⟨t,oH,rfl⟩:=n8.1 ad;exact(aI t oH).1
  rw[bG,I];simp[aG];omega
 ·simp only[Gm.vs,Gm.vsL,mg]at aK;obtain⟨t,oH,aK⟩:=Mu aK;exact(aI t oH).2 v aK
 ·simp only[Gm.cf,bP,aA,pR,aG,aS];simp;omega
theorem W0{F P:List Rl}(gR:uv F P)(hW:0<P.length){n:Int}(aJ:n<=100001)(c:bS):iU F n (oj P n c)/\(oj P n c).sz<=2:=by
 have h:=WZ gR hW aJ c;unfold oj;split
 ·exact⟨h.not rfl,c7 2⟩
 ·exact⟨h,Nat.le_succ 1⟩
theorem OF{F P:List Rl}(gR:uv F P)(hW:0<P.length){n:Int}(aJ:n<=100001){x:List Gm×bS}(ad:∀y∈x.1,iU F n y/\y.sz<=2):∀m,(∀y∈(gO P n m x).1,iU F n y/\y.sz<=2)/\(gO P n m x).1.length=x.1.length+m
 |0=>⟨ad,rfl⟩
 |m+1=>by
  obtain⟨I,J⟩:=OF gR hW aJ ad m;refine⟨fun y bB=>?_,by simp[gO,J];omega⟩;simp only[gO,fM,mi]at bB;rcases bB with bB|rfl
  ·exact I y bB
  ·exact W0 gR hW aJ _
theorem Qv:∀{l:List Gm},(∀x∈l,x.sz<=2)->jQ l<=2*l.length
 |[],_=>o3 _
 |x::l,h=>by have I:=h x Ψ;have J:=Qv (l:=l) fun y bB=>h y (by simp[bB]);simp only[jQ,ga];omega
theorem OR{F P:List Rl}(gR:uv F P){m:Nat}(hW:0<P.length){n:Int}(aJ:n<=100001)(c:bS):(∀y∈(fQ P n m c).1,iU F n y/\y.sz<=2)/\m<(fQ P n m c).1.length/\(fQ P n m c).1.length<=2+m:=by have ao:=c.below_le 2 Ω;have h:=OF gR hW aJ (x:=jg n (1+(c.below 2).toNat) (c.belowC 2)) (fun y bB=>⟨(LI aJ _ _ y bB).1,by rw[(LI (F:=F) aJ _ _ y bB).2];omega⟩) m;rw[wX]at h;exact⟨h.1,by unfold fQ;omega,by unfold fQ;omega⟩
theorem H5{F P:List Rl}(gR:uv F P){m:Nat}(hm:m<=6)(hW:0<P.length){n:Int}(aJ:n<=100001)(c:bS):iU F n (jO P n m c)/\(jO P n m c).sz<=5+2*m:=by obtain⟨I,J,aA⟩:=OR gR (m:=m) hW aJ c;refine⟨.and 7 (.inl rfl) (fun x ad=>(I x ad).1) Ω,?_⟩;unfold jO;have aS:=Qv fun x ad=>(I x ad).2;simp only[Gm.sz];omega
theorem Qt:∀(a b:List Gm),jQ (a++b)=jQ a+jQ b
 |[],b=>by simp[jQ]
 |x::a,b=>by simp only[ds,jQ,Qt a b];omega
theorem Nk{F P:List Rl}(gR:uv F P)(hW:0<P.length){n:Int}(aJ:n<=100001){x:List Gm×bS}(ad:∀y∈x.1,iU F n y):∀k,(∀y∈(gN P n k x).1,iU F n y)/\jQ (gN P n k x).1<=jQ x.1+9*k/\(gN P n k x).1.length=x.1.length+k
 |0=>⟨ad,by simp[gN],rfl⟩
 |k+1=>by
  obtain⟨I,J,aA⟩:=Nk gR hW aJ ad k;have aH:=Kq (gN P n k x).2;have aP:=H5 gR (m:=oO (gN P n k x).2) Ω hW aJ ((gN P n k x).2.belowC 5);refine⟨fun y bB=>?_,?_,by simp[gN,aA];omega⟩
  ·simp only[gN,fM,mi]at bB;rcases bB with bB|rfl
   ·exact I y bB
   ·exact aP.1
  ·simp only[gN,Qt,jQ];omega
theorem WS{F P:List Rl}(gR:uv F P)(hW:0<P.length){n:Int}(aJ:n<=100001)(c:bS):iU F n (o9 P n c)/\(o9 P n c).sz<=60:=by
 have bK:=H5 gR (m:=0) Ω hW aJ c;have ao:=(fQ P n 0 c).2.below_le 3 Ω;obtain⟨I,J,aA⟩:=Nk gR hW aJ (x:=([jO P n 0 c],(fQ P n 0 c).2.belowC 3)) (fun y bB=>by rw[mi.1 bB];exact bK.1) ((fQ P n 0 c).2.below 3).toNat
 simp only[jQ,List.length_singleton]at J aA;unfold o9;split
 ·exact⟨bK.1,Ω⟩
 ·refine⟨.and 8 (.inr rfl) I (by unfold rN;omega),?_⟩;simp only[Gm.sz];unfold rN;omega
def kT(P:List Rl):List (List ah×Int×Int):=P.map fun r=>(r.name,r.ar,r.loc)
theorem ahq{P:List Rl}{k:Nat}{g:Gm}:kT (P.set k {P[k]?.getD oT with body:=g})=kT P:=by
 apply List.ext_getElem?;intro i;unfold kT;rw[pQ,pQ,List.getElem?_set];split
 ·rename_i h;subst h;split
  ·rename_i J;rw[cS J];rfl
  ·rename_i J;rw[List.getElem?_eq_none Ω]
 ·rfl
theorem BN(x:List Rl×bS):∀k,kT (fY k x).1=kT x.1
 |0=>rfl
 |k+1=>by rw[<-BN x k];exact ahq
theorem ahp{F P:List Rl}(h:kT F=kT P)(s:List ah):(F.find? fun q=>q.name==s).map Rl.ar=(P.find? fun q=>q.name==s).map Rl.ar:=by
 induction F generalizing P with
 |nil=>cases P with
  |nil=>rfl
  |cons y P=>simp[kT]at h
 |cons x F bp=>cases P with
  |nil=>simp[kT]at h
  |cons y P=>
   simp only[kT,ek,w9,gz]at h
   obtain⟨⟨I,J,aA⟩,aS⟩:=h
   simp only[List.find?_cons,I]
   split
   ·simp[J]
   ·exact bp aS
def zw(r:Rl):Prop:=eS r.name=true/\(0<=r.ar/\r.ar<=4)/\(0<=r.loc/\r.loc<=8)
theorem MU{F P:List Rl}(h:kT F=kT P)(aR:∀r∈P,zw r)(aJ:(P.map Rl.name).Nodup):uv F P:=by
 intro r hr;obtain⟨I,J,aA⟩:=aR r hr;refine⟨I,J,?_⟩;have aY:=ahp h r.name;obtain⟨q,bA,ac3⟩:∃q,P.find? (fun q=>q.name==r.name)=some q/\q.ar=r.ar:=by
  cases bn:P.find? (fun q=>q.name==r.name)with
  |none=>exact absurd (List.find?_eq_none.1 bn r hr) Ψ
  |some q=>
   refine⟨q,rfl,?_⟩;have aS:q.name=r.name:=by have:=List.find?_some bn;simpa using this
   have bG:=List.mem_of_find?_eq_some bn;obtain⟨i,aE⟩:=List.getElem?_of_mem hr;obtain⟨j,aD⟩:=List.getElem?_of_mem bG;have aB:(P.map Rl.name)[i]? =some r.name:=by rw[pQ,aE];rfl
   have aU:(P.map Rl.name)[j]? =some r.name:=by rw[pQ,aD,<-aS];rfl
   have:i=j:=by
    obtain⟨b4,a2⟩:=eV.1 aB;obtain⟨ck,cr⟩:=eV.1 aU;rcases Nat.lt_trichotomy i j with xX|xX|xX
    ·exact absurd (a2.trans cr.symm) ((List.pairwise_iff_getElem.1 aJ) i j b4 ck xX)
    ·exact xX
    ·exact absurd (cr.trans a2.symm) ((List.pairwise_iff_getElem.1 aJ) j i ck b4 xX)
   subst this;rw[aE]at aD;cases aD;rfl
 rw[bA]at aY;cases fw:F.find? (fun q=>q.name==r.name)with
 |none=>rw[fw]at aY;simp at aY
 |some iQ=>rw[fw]at aY;simp at aY;exact⟨iQ,rfl,by rw[aY,ac3]⟩
theorem Dm(c:bS):∀k,∀(i:Nat) r,(iR k c).1[i]? =some r->r.name=sw i/\1<=r.ar/\r.ar<=2/\0<=r.loc/\r.loc<=1
 |0,i,r,h=>by simp[iR]at h
 |k+1,i,r,h=>by
  simp only[iR]at h;rcases lU i k with aE|aE
  ·rw[rE (by rw[tY];exact aE)]at h;exact Dm c k i r h
  ·rw[List.getElem?_append_right (by rw[tY];exact aE),tY]at h;have:=(eV.1 h).1;simp at this;have:i=k:=Ω
   subst this;simp at h;subst h;have I:=(iR i c).2.below_le 2 Ω;have J:=((iR i c).2.belowC 2).below_le 2 Ω;exact⟨rfl,by simp only;omega,by simp only;omega,by simp only;omega,by simp only;omega⟩
theorem GC{c:bS}{k:Nat}:∀r∈(iR k c).1,zw r:=fun r hr=>by
 obtain⟨i,aE⟩:=List.getElem?_of_mem hr;obtain⟨I,J⟩:=Dm c k i r aE;refine⟨?_,Ω,Ω⟩;rw[I];unfold sw;repeat' split
 all_goals decide
theorem Um{c:bS}{k:Nat}(aa:k<=3):((iR k c).1.map Rl.name).Nodup:=by refine List.pairwise_iff_getElem.2 fun i j aE aD xX he=>?_;simp only[pR,tY]at aE aD;simp only[List.getElem_map]at he;rw[(Dm c k i _ (cS (by rw[tY];exact aE))).1,(Dm c k j _ (cS (by rw[tY];exact aD))).1]at he;rcases(by omega:(i=0/\j=1)\/(i=0/\j=2)\/(i=1/\j=2))with⟨rfl,rfl⟩|⟨rfl,rfl⟩|⟨rfl,rfl⟩<;>simp[sw]at he
theorem U1{P Q:List Rl}(h:kT P=kT Q){Pr:List ah->Int->Int->Prop}(bA:∀r∈Q,Pr r.name r.ar r.loc):∀r∈P,Pr r.name r.ar r.loc:=fun r hr=>by have:(r.name,r.ar,r.loc)∈kT P:=n8.2 ⟨r,hr,rfl⟩;rw[h]at this;obtain⟨q,Co,zP⟩:=n8.1 this;simp only[gz]at zP;obtain⟨aB,aU,b1⟩:=zP;rw[<-aB,<-aU,<-b1];exact bA q Co
theorem U2{P Q:List Rl}(h:kT P=kT Q):P.map Rl.name=Q.map Rl.name:=by have:=dZ (List.map fun x:List ah×Int×Int=>x.1) h;simpa[kT,List.map_map,Function.comp_def]using this
theorem GR{P Q:List Rl}(h:kT P=kT Q)(bA:∀r∈Q,zw r):∀r∈P,zw r:=U1 h (Pr:=fun s a l=>eS s=true/\(0<=a/\a<=4)/\(0<=l/\l<=8)) bA
theorem PO{F:List Rl}{x:List Rl×bS}(fw:kT F=kT x.1)(aR:∀r∈x.1,zw r)(aJ:(x.1.map Rl.name).Nodup):∀k,k<=x.1.length->∀(i:Nat) r,i<k->(fY k x).1[i]? =some r->iU F (r.ar+r.loc) r.body/\r.body.sz<=60
 |0,_,i,r,aE,_=>Ω
 |k+1,aa,i,r,aE,h=>by
  simp only[fY]at h;rw[List.getElem?_set]at h;by_cases kd:k=i
  ·subst kd;have e2:k<(fY k x).1.length:=by rw[uF];omega
   rw[bP rfl,bP e2]at h;simp only[dH]at h;have au:=BN x k;have E4:=GR au aR;have hm:(fY k x).1[k]?.getD oT∈(fY k x).1:=by rw[cS e2];exact List.getElem_mem _
   have hr:=E4 _ hm;rw[<-h];simp only;have l5:=hr.2;exact WS (MU (fw.trans au.symm) E4 (by rw[U2 au];exact aJ)) Ω Ω _
  ·rw[bo kd]at h;exact PO fw aR aJ k Ω i r Ω h
theorem El(c:bS):gC (vW c).1=true/\0<(vW c).1.length:=by
 have ao:=c.below_le 3 Ω;unfold vW;generalize aa:1+(c.below 3).toNat=k;have kf:k<=3:=Ω
 have hlen:(iR k (c.belowC 3)).1.length=k:=tY _ _;have au:=BN (iR k (c.belowC 3)) k;have j9:=PO (x:=iR k (c.belowC 3)) au GC (Um kf) k Ω;have k4:∀r∈(fY k (iR k (c.belowC 3))).1,iU (fY k (iR k (c.belowC 3))).1 (r.ar+r.loc) r.body/\r.body.sz<=60:=fun r hr=>by obtain⟨i,aE⟩:=List.getElem?_of_mem hr;have:=(eV.1 aE).1;rw[uF,hlen]at this;exact j9 i r this aE
 refine⟨?_,by rw[uF,hlen];omega⟩;unfold gC;simp only[bF,ea,hq];refine⟨⟨by rw[uF,hlen];omega,by rw[U2 au];exact Um kf⟩,fun r hr=>?_⟩;obtain⟨⟨I,J,aA⟩,bG⟩:=k4 r hr;obtain⟨g1,g2,g3⟩:=GR au GC r hr;unfold Rl.ok Gm.fits;simp only[bF,ea,hq];exact⟨⟨⟨⟨⟨g1,g2⟩,g3⟩,I,bG⟩,J⟩,aA⟩
theorem aeZ{P:List Rl}(h:gC P=true):uv P P:=by simp only[gC,bF,ea,hq]at h;obtain⟨⟨I,J⟩,aA⟩:=h;refine MU rfl (fun r hr=>?_) J;have:=aA r hr;simp only[Rl.ok,bF,ea]at this;exact⟨this.1.1.1.1.1,this.1.1.1.1.2,this.1.1.1.2⟩
theorem abi{P:List Rl}(h:gC P=true)(hW:0<P.length)(c:bS):iU P 3 (tA P c).1/\(tA P c).1.fits 80=true:=by
 have gR:=aeZ h;have bK:=H5 gR (m:=1) Ω hW (n:=3) Ω c;obtain⟨I,J,aA⟩:=OR gR (m:=1) hW (n:=3) Ω c;have key:∀g:Gm,iU P 3 g->g.sz<=80->iU P 3 g/\g.fits 80=true:=fun g aR cp=>⟨aR,by simp[Gm.fits,aR.sh,cp]⟩;unfold tA;split
 ·exact key _ bK.1 (by simp only;omega)
 ·simp only;generalize (fQ P 3 1 c).1=l at*;have:l.getLastD my∈l:=by
   have cD:l≠[]:=by intro e;rw[e]at J;simp at J
   rw[List.getLastD_eq_getLast?,List.getLast?_eq_some_getLast cD];exact List.getLast_mem cD
  exact key _ (I _ this).1 (by have:=(I _ this).2;omega)
def vh:List (List ah):=[[112],[113],[114]]
theorem u6(S:aO->Prop)(k:Nat)(l:List (List ah)):aj S (List.take k (l.map al.str))=True:=by
 apply eq_true;rw[<-List.map_take];generalize l.take k=l;induction l with
 |nil=>trivial
 |cons x l bp=>exact⟨trivial,bp⟩
def xa(k:Nat)(i:Int)(c:bS):List Rl->a6
 |[]=>⟨[(0,.ptr (.obj 401) 0),(1,.int .i64 2),(4,.ptr (.loc 0) 0),(5,.ptr (.loc 1) 0),(18,.slice 1 .no ((vh.take k).map al.str)),(19,.int .i64 k),(20,.int .i64 i)],[(.obj 401,c.e),(.loc 0,[.slice 7 .nil []]),(.loc 1,[.slice 7 .nil []])],[],2,[.obj 401]⟩
 |x::xs=>⟨[(0,.ptr (.obj 401) 0),(1,.int .i64 2),(4,.ptr (.loc 0) 0),(5,.ptr (.loc 1) 0),(18,.slice 1 .no ((vh.take k).map al.str)),(19,.int .i64 k),(20,.int .i64 i)],[(.obj 401,c.e),(.loc 0,[.slice 7 .nil []]),(.loc 1,[.row 7 (.obj 402) (xs.length+1)])],[(.obj 402,⟨xs.length+1,86,7,some (x.e::xs.map Rl.e)⟩)],2,[.obj 401,.obj 402]⟩
theorem u5(S:aO->Prop)(Q:List Rl)(k:Nat)(x:al):aj S ((Q.map Rl.e).set k x)=(k<Q.length->ak S x):=by
 apply propext;induction Q generalizing k with
 |nil=>simp[-aC,-aw,aj]
 |cons y Q bp=>
  cases k with
  |zero=>simp[-aC,-aw,aj]
  |succ k=>simp only[ek,List.set_cons_succ,aj,Si,true_and,bp,ga,Nat.add_lt_add_iff_right]
theorem aam(k:Nat)(x:List Rl×bS):fY (k+1) x=((fY k x).1.set k {(fY k x).1[k]?.getD oT with body:=o9 (fY k x).1 (((fY k x).1[k]?.getD oT).ar+((fY k x).1[k]?.getD oT).loc) (fY k x).2},rM (fY k x).1 (((fY k x).1[k]?.getD oT).ar+((fY k x).1[k]?.getD oT).loc) (fY k x).2):=rfl
theorem WV(P:List Rl)(n:Int)(k:Nat)(x:List Gm×bS):gN P n (k+1) x=((gN P n k x).1++[jO P n (oO (gN P n k x).2) ((gN P n k x).2.belowC 5)],(fQ P n (oO (gN P n k x).2) ((gN P n k x).2.belowC 5)).2):=rfl
def xb(Q:List Rl)(k:Int)(c:bS):a6:=⟨[(0,.ptr (.obj 401) 0),(1,.int .i64 2),(4,.ptr (.loc 0) 0),(5,.ptr (.loc 1) 0),(38,.row 7 (.obj 402) Q.length),(39,.int .i64 Q.length),(40,.int .i64 k)],[(.obj 401,c.e),(.loc 0,[.slice 7 .nil []]),(.loc 1,[.row 7 (.obj 402) Q.length])],[(.obj 402,⟨Q.length,86,7,some (Q.map Rl.e)⟩)],2,[.obj 401,.obj 402]⟩
def AW(Q:List Rl)(k n q:Int)(c:bS)(x:Gm)(xs:List Gm):a6:=⟨[(0,.ptr (.obj 401) 0),(1,.int .i64 2),(4,.ptr (.loc 0) 0),(5,.ptr (.loc 1) 0),(8,.int .i64 k),(10,.int .i64 n),(11,.ptr (.loc 4) 0),(12,.int .i64 q),(38,.row 7 (.obj 402) Q.length),(39,.int .i64 Q.length),(40,.int .i64 k)],[(.obj 401,c.e),(.loc 0,[.slice 7 .nil []]),(.loc 1,[.row 7 (.obj 402) Q.length]),(.loc 4,[.int .i64 8,.str [],.slice 4 .nil [],.slice 4 (.own (.loc 3)) (x.e::xs.map Gm.e)])],[(.obj 402,⟨Q.length,86,7,some (Q.map Rl.e)⟩),(.loc 3,⟨xs.length+1,65,4,none⟩)],5,[.obj 401,.obj 402]⟩
theorem Qe(c:bS)(aH:c.ok):bJ aQ 99 [.ptr (.obj 401) 0,.int .i64 2] (aN c) fun r aq=>r=ho (vW c).1/\aq=aN (vW c).2:=by
 have au:=cn c;have fB:=mz c aH 3;have ao:=c.below_le 3 Ω;refine bJ.mk mixed o0 aad afS (by simp[-aC,-aw]) au.obj fun aL bT=>?_;unfold Ow;clear aL bT;unfold aN;simp[-aC,-aw];(with_reducible repeat' first|refine av ?_|simp[-aC,-aw]);(refine bc.ob (fB) (cn _) (by unfold aN;exact ai) (by unfold aN;exact ai) (by simp[-aC,-aw,ag,aN,Pv.look]) ?_;rintro r aq ⟨rfl,rfl⟩;refine⟨c6 _ _,?_⟩;unfold aN;simp[-aC,-aw,aX]);unfold vW;have hj:=aH.below 3;generalize c.below 3=b at*;generalize c.belowC 3=c2 at*;obtain⟨eu,rfl⟩:∃eu:Nat,b=eu:=⟨b.toNat,Ω⟩;rw[Int.toNat_natCast];have QK:eu<3:=Ω
 (with_reducible repeat' first|refine av ?_|simp[-aC,-aw]);refine gf (fun i:Nat=>xa (1+eu) i (iR i c2).2 (iR i c2).1) (fun i=>1+eu-i) (fun i=>i<=1+eu) 0 ?_ Ω ?_
 ·have aB:((1:Int)+eu).toNat=1+eu:=Ω
  have aU:min (1+eu) 3=1+eu:=Ω
  rw[show [al.str [112],al.str [113],al.str [114]]=List.map al.str vh from rfl];simp[-aC,-aw,xa,iR,aB,aU];exact⟨by simp[-aC,-aw,fresh,aj,ak,bj,ag,Pv.look,cV,bC,u6],cg (by simp[-aC,-aw,fresh,aj,ak,bj,ag,Pv.look,cV,bC,u6]),ch (by simp[-aC,-aw,fresh,aj,ak,cc,ag,Pv.look,cV,bC,u6]),by simp[-aC,-aw]⟩
 intro i aE _;have ad:=Un hj i;have aG:=tY c2 i;rcases hr:iR i c2 with⟨l,c3⟩;rw[hr]at ad aG;simp only at ad aG⊢;have eF:=mz _ ad 2;have fB:=mz _ (ad.below 2) 2;have bq:=c3.below_le 2 Ω;have hB:=(c3.belowC 2).below_le 2 Ω;by_cases QY:i<1+eu
 ·have cb:aZ ((i:Int)+1):=by unfold aZ;omega
  have iD:vh[i]? =some (sw i):=by rcases(by omega:(i=0)\/(i=1)\/(i=2))with rfl|rfl|rfl<;>rfl
  have x3:i<min (1+eu) vh.length:=by simp[-aC,-aw,vh];omega
  have bY:(i:Int)<1+eu:=Ω
  have gg:l.length+1<=bs:=by unfold bs;omega
  have a64:aZ (1+c3.below 2):=by unfold aZ;omega
  cases l with
  |nil=>
   simp[-aC,-aw,xa];(with_reducible repeat' first|refine av ?_|simp[-aC,-aw,bY,QY,iD,x3,cb,a64,gg]);refine hf.ob eF (cn c3) (cn _) (c6 c3 _) (by unfold aN;exact ai) (by unfold aN;exact ai) (by simp[-aC,-aw,ag,aN,Pv.look]) ?_;unfold aN;simp[-aC,-aw,aX];(with_reducible repeat' first|refine av ?_|simp[-aC,-aw,cb,a64,gg]);refine hf.ob fB (cn _) (cn _) (c6 _ _) (by unfold aN;exact ai) (by unfold aN;exact ai) (by simp[-aC,-aw,ag,aN,Pv.look]) ?_;unfold aN;simp[-aC,-aw,aX];(with_reducible repeat' first|refine av ?_|simp[-aC,-aw,cb,a64,gg]);refine bU.whl (i+1) Ω Ω ?_;simp only[iR,hr];have he:({name:=sw i,ar:=1+c3.below 2,loc:=(c3.belowC 2).below 2,body:=my}:Rl).e= .agg [.str (sw i),.int .i64 (1+c3.below 2),.int .i64 ((c3.belowC 2).below 2),.int .i64 0,.str [],.slice 4 .no [],.slice 4 .no []]:=rfl;have uX:∀h,vh[i]'h=sw i:=fun h=>by rw[cS h]at iD;exact hd iD
   simp[-aC,-aw,xa,he,uX];exact⟨by simp[-aC,-aw,fresh,aj,ak,bj,ag,Pv.look,cV,bC,u6,he,uX],cg (by simp[-aC,-aw,fresh,aj,ak,bj,ag,Pv.look,cV,bC,u6,he,uX]),ch (by simp[-aC,-aw,fresh,aj,ak,cc,ag,Pv.look,cV,bC,u6,he,uX]),by simp[-aC,-aw]⟩
  |cons x xs=>
   simp only[ga]at gg;simp[-aC,-aw,xa];(with_reducible repeat' first|refine av ?_|simp[-aC,-aw,bY,QY,iD,x3,cb,a64,gg]);refine hf.ob eF (cn c3) (cn _) (c6 c3 _) (by unfold aN;exact ai) (by unfold aN;exact ai) (by simp[-aC,-aw,ag,aN,Pv.look]) ?_;unfold aN;simp[-aC,-aw,aX];(with_reducible repeat' first|refine av ?_|simp[-aC,-aw,cb,a64,gg]);refine hf.ob fB (cn _) (cn _) (c6 _ _) (by unfold aN;exact ai) (by unfold aN;exact ai) (by simp[-aC,-aw,ag,aN,Pv.look]) ?_;unfold aN;simp[-aC,-aw,aX];(with_reducible repeat' first|refine av ?_|simp[-aC,-aw,cb,a64,gg]);refine bU.whl (i+1) Ω Ω ?_;simp only[iR,hr];have he:({name:=sw i,ar:=1+c3.below 2,loc:=(c3.belowC 2).below 2,body:=my}:Rl).e= .agg [.str (sw i),.int .i64 (1+c3.below 2),.int .i64 ((c3.belowC 2).below 2),.int .i64 0,.str [],.slice 4 .no [],.slice 4 .no []]:=rfl;have uX:∀h,vh[i]'h=sw i:=fun h=>by rw[cS h]at iD;exact hd iD
   simp[-aC,-aw,xa,he,uX];exact⟨by simp[-aC,-aw,fresh,aj,ak,bj,ag,Pv.look,cV,bC,u6,he,uX],cg (by simp[-aC,-aw,fresh,aj,ak,bj,ag,Pv.look,cV,bC,u6,he,uX]),ch (by simp[-aC,-aw,fresh,aj,ak,cc,ag,Pv.look,cV,bC,u6,he,uX]),by simp[-aC,-aw]⟩
 obtain rfl:i=1+eu:=Ω
 have bA:¬((1+eu:Nat):Int)<1+eu:=Ω
 have E5:=GC (c:=c2) (k:=1+eu);rw[hr]at E5⊢;cases l with
 |nil=>rw[mh]at aG;omega
 |cons x xs=>
 simp[-aC,-aw,xa];(with_reducible repeat' first|refine av ?_|simp[-aC,-aw,bA]);clear bA eF fB bq hB aE hr;generalize Qz:x::xs=P0 at*;have mF:xs.length+1=P0.length:=by rw[<-Qz];rfl
 refine gf (fun k:Nat=>xb (fY k (P0,c3)).1 k (fY k (P0,c3)).2) (fun k=>1+eu-k) (fun k=>k<=1+eu) 0 ?_ Ω ?_
 ·simp[-aC,-aw,xb,fY,<-Qz];exact⟨by simp[-aC,-aw,fresh,aj,ak,bj,ag,Pv.look,cV,bC],cg (by simp[-aC,-aw,fresh,aj,ak,bj,ag,Pv.look,cV,bC]),ch (by simp[-aC,-aw,fresh,aj,ak,cc,ag,Pv.look,cV,bC]),by simp[-aC,-aw]⟩
 intro k aa _;have oJ:=PQ (x:=(P0,c3)) ad k;have hz:=uF (P0,c3) k;have nT:=BN (P0,c3) k;have lz:=GR nT E5;have eA:=aam k (P0,c3);generalize nM:fY k (P0,c3)=y at*;obtain⟨Q,c4⟩:=y;simp only at oJ hz nT lz eA⊢;by_cases Fa:k<1+eu;rotate_left
 ·obtain rfl:k=1+eu:=Ω
  have zP:¬(1+(eu:Int))<P0.length:=Ω
  simp[-aC,-aw,xb,hz];(with_reducible repeat' first|refine av ?_|simp[-aC,-aw,zP]);rw[nM];(refine bL.at (aN (c4)) (.inl rfl) (cn _) (c6 _ _) (by unfold aN;exact ai) (by unfold aN;exact ai) ?_;simp[-aC,-aw,bV,T9,bg,bh,bf,aN])
 have Cd:k<Q.length:=Ω
 obtain⟨r,hr⟩:∃r,Q[k]? =some r:=⟨_,cS Cd⟩;have hk:∀h,(Q[k]'h)=r:=fun h=>by rw[cS h]at hr;exact hd hr
 have Rn:=lz r (fq hr);have QB:∀r∈Q,0<=r.ar/\r.ar<=4:=fun r h=>(lz r h).2.1;have e2:(k:Int)<Q.length:=Ω
 have x7:aZ (r.ar+r.loc):=by have:=Rn.2;unfold aZ;omega
 have cb:aZ ((k:Int)+1):=by unfold aZ;omega
 have zM:r.ar+r.loc<=1000000:=by have:=Rn.2;omega
 have l9:=Qd Q Ω QB (r.ar+r.loc) zM 0 Ω c4 oJ;rw[show((0:Nat):Int)=0 from rfl]at l9;have zT:=Ec (P:=Q) (n:=r.ar+r.loc) (m:=0) oJ;have u1:=mz _ zT 3;have QH:=(fQ Q (r.ar+r.loc) 0 c4).2.below_le 3 Ω;have we:rN Q (r.ar+r.loc) c4=gN Q (r.ar+r.loc) ((fQ Q (r.ar+r.loc) 0 c4).2.below 3).toNat ([jO Q (r.ar+r.loc) 0 c4],(fQ Q (r.ar+r.loc) 0 c4).2.belowC 3):=rfl;rw[hr]at eA;simp only[qE]at eA;simp[-aC,-aw,xb];(with_reducible repeat' first|refine av ?_|simp[-aC,-aw,e2,Cd,hk,hr,x7]);refine bc.ob l9 (A6 Q c4) (by unfold lq;exact ai) (by unfold lq;exact ai) (by simp[-aC,-aw,ag,lq,Pv.look]) ?_;rintro dh aq ⟨rfl,rfl⟩;refine⟨Hm _ _ _,?_⟩;unfold lq;simp[-aC,-aw,aX];generalize tD:jO Q (r.ar+r.loc) 0 c4=g1 at*;generalize l2:(fQ Q (r.ar+r.loc) 0 c4).2=c5 at*;(with_reducible repeat' first|refine av ?_|simp[-aC,-aw]);(refine bc.ob (u1) (cn _) (by unfold aN;exact ai) (by unfold aN;exact ai) (by simp[-aC,-aw,ag,aN,Pv.look]) ?_;rintro r aq ⟨rfl,rfl⟩;refine⟨c6 _ _,?_⟩;unfold aN;simp[-aC,-aw,aX]);have qb:=zT.below 3;generalize c5.below 3=m at*;generalize c5.belowC 3=iW at*;obtain⟨ss,rfl⟩:∃ss:Nat,m=ss:=⟨m.toNat,Ω⟩;rw[Int.toNat_natCast]at we;(with_reducible repeat' first|refine av ?_|simp[-aC,-aw]);refine gf (fun j:Nat=>AW Q k (r.ar+r.loc) (ss-j) (gN Q (r.ar+r.loc) j ([g1],iW)).2 g1 ((gN Q (r.ar+r.loc) j ([g1],iW)).1.drop 1)) (fun j=>ss-j) (fun j=>j<=ss) 0 (by simp[-aC,-aw,AW,gN];exact⟨by simp[-aC,-aw,fresh,aj,ak,bj,ag,Pv.look,cV,bC],cg (by simp[-aC,-aw,fresh,aj,ak,bj,ag,Pv.look,cV,bC]),ch (by simp[-aC,-aw,fresh,aj,ak,cc,ag,Pv.look,cV,bC]),by simp[-aC,-aw]⟩) Ω ?_;intro j aD _;have CE:=HB (P:=Q) (n:=r.ar+r.loc) (x:=([g1],iW)) qb j;obtain⟨ys,bB,pk⟩:=Nl (P:=Q) (n:=r.ar+r.loc) (x:=g1) (xs:=[]) (c:=iW) j;have JJ:=WV Q (r.ar+r.loc) j ([g1],iW);rcases hbj:gN Q (r.ar+r.loc) j ([g1],iW)with⟨du,jB⟩;rw[hbj]at CE bB JJ;simp only at CE bB JJ⊢;subst bB;by_cases Cc:j<ss
 ·have aR:(0:Int)<(ss:Int)-j:=Ω
  have kQ:aZ ((ss:Int)-j-1):=by unfold aZ;omega
  have cU:=mz _ CE 5;obtain⟨x8,akN⟩:=Kq jB;have hw:iw.wrap (oO jB:Int)=oO jB:=by rcases(by omega:oO jB=0\/oO jB=1\/oO jB=2)with h|h|h<;>rw[h]<;>rfl
  have adX:=Qd Q Ω QB (r.ar+r.loc) zM (oO jB) Ω (jB.belowC 5) (CE.below 5);have l8:ys.length+1+1<=bs:=by simp[-aC,-aw]at pk;unfold bs;omega
  simp[-aC,-aw,AW];(with_reducible repeat' first|refine av ?_|simp[-aC,-aw,Cc,aR,kQ]);refine hf.ob cU (cn jB) (cn _) (c6 jB _) (by unfold aN;exact ai) (by unfold aN;exact ai) (by simp[-aC,-aw,ag,aN,Pv.look]) ?_;unfold aN;simp[-aC,-aw,aX];(with_reducible repeat' first|refine av ?_|simp[-aC,-aw,x8,hw]);refine hf.ob adX (A6 Q _) (A6 Q _) (Hm Q _ _) (by unfold lq;exact ai) (by unfold lq;exact ai) (by simp[-aC,-aw,ag,lq,Pv.look]) ?_;unfold lq;simp[-aC,-aw,aX];(with_reducible repeat' first|refine av ?_|simp[-aC,-aw,kQ,l8]);refine bU.whl (j+1) Ω Ω ?_;rw[JJ];simp[-aC,-aw,AW,show(ss:Int)-((j:Int)+1)=ss-j-1 by omega];exact⟨by simp[-aC,-aw,fresh,aj,ak,bj,ag,Pv.look,cV,bC,fi],cg (by simp[-aC,-aw,fresh,aj,ak,bj,ag,Pv.look,cV,bC,fi]),ch (by simp[-aC,-aw,fresh,aj,ak,cc,ag,Pv.look,cV,bC,fi]),by simp[-aC,-aw]⟩
 obtain rfl:j=ss:=Ω
 have aR:¬(0:Int)<(j:Int)-j:=Ω
 rw[hbj]at we;clear l9 u1;simp[-aC,-aw,AW];(with_reducible repeat' first|refine av ?_|simp[-aC,-aw,aR]);have tI:fY (k+1) (P0,c3)=(Q.set k {r with body:=o9 Q (r.ar+r.loc) c4},rM Q (r.ar+r.loc) c4):=eA;have adu:ys.length=j:=by simpa using pk
 have JA:∀h,(Q[k]'h).e= .agg [.str r.name,.int .i64 r.ar,.int .i64 r.loc,.int .i64 r.body.kind,.str r.body.name,.slice 4 .no (r.body.ts.map enc),.slice 4 .no (r.body.gs.map Gm.e)]:=fun h=>by rw[hk];rfl
 have ni:∀b:Gm,List.map Rl.e (Q.set k {r with body:=b})=(List.map Rl.e Q).set k (.agg [.str r.name,.int .i64 r.ar,.int .i64 r.loc,.int .i64 b.kind,.str b.name,.slice 4 .no (b.ts.map enc),.slice 4 .no (b.gs.map Gm.e)]):=fun b=>by rw[List.map_set];rfl
 have Rp:∀l:List Gm,List.map Rl.e (Q.set k {r with body:= .mk 8 [] [] l})=(List.map Rl.e Q).set k (.agg [.str r.name,.int .i64 r.ar,.int .i64 r.loc,.int .i64 8,.str [],.slice 4 .no [],.slice 4 .no (l.map Gm.e)]):=fun l=>ni _;by_cases E8:j=0
 ·subst E8;obtain rfl:ys=[]:=n5 adu;have fC:=BQ _ CE 2;by_cases bK:jB.below 2=0
  ·have r2:(jB.below 2==0)=true:=by simpa using bK
   rw[r2]at fC;have hB:o9 Q (r.ar+r.loc) c4=g1:=by unfold o9;rw[we];simp[-aC,-aw,bK,tD]
   have uK:rM Q (r.ar+r.loc) c4=jB.belowC 2:=by unfold rM;rw[we];simp[-aC,-aw]
   simp[-aC,-aw];(with_reducible repeat' first|refine av ?_|simp[-aC,-aw]);(refine bc.ob (fC) (cn _) (by unfold aN;exact ai) (by unfold aN;exact ai) (by simp[-aC,-aw,ag,aN,Pv.look]) ?_;rintro r aq ⟨rfl,rfl⟩;refine⟨c6 _ _,?_⟩;unfold aN;simp[-aC,-aw,aX]);(with_reducible repeat' first|refine av ?_|simp[-aC,-aw,e2,Cd,hr,cb,JA,-Hw]);refine bU.whl (k+1) Ω Ω ?_;rw[tI,hB,uK];simp[-aC,-aw,xb,ni];exact⟨by simp[-aC,-aw,fresh,aj,ak,bj,ag,Pv.look,cV,bC,u5],cg (by simp[-aC,-aw,fresh,aj,ak,bj,ag,Pv.look,cV,bC,u5]),ch (by simp[-aC,-aw,fresh,aj,ak,cc,ag,Pv.look,cV,bC,u5]),by simp[-aC,-aw]⟩
  ·have r2:(jB.below 2==0)=false:=by simpa using bK
   rw[r2]at fC;have hB:o9 Q (r.ar+r.loc) c4= .mk 8 [] [] [g1]:=by unfold o9;rw[we];simp[-aC,-aw,bK]
   have uK:rM Q (r.ar+r.loc) c4=jB.belowC 2:=by unfold rM;rw[we];simp[-aC,-aw]
   simp[-aC,-aw];(with_reducible repeat' first|refine av ?_|simp[-aC,-aw]);(refine bc.ob (fC) (cn _) (by unfold aN;exact ai) (by unfold aN;exact ai) (by simp[-aC,-aw,ag,aN,Pv.look]) ?_;rintro r aq ⟨rfl,rfl⟩;refine⟨c6 _ _,?_⟩;unfold aN;simp[-aC,-aw,aX]);(with_reducible repeat' first|refine av ?_|simp[-aC,-aw,e2,Cd,hr,cb,JA,-Hw]);refine bU.whl (k+1) Ω Ω ?_;rw[tI,hB,uK];simp[-aC,-aw,xb,Rp];exact⟨by simp[-aC,-aw,fresh,aj,ak,bj,ag,Pv.look,cV,bC,u5],cg (by simp[-aC,-aw,fresh,aj,ak,bj,ag,Pv.look,cV,bC,u5]),ch (by simp[-aC,-aw,fresh,aj,ak,cc,ag,Pv.look,cV,bC,u5]),by simp[-aC,-aw]⟩
 ·have cD:((ys.length:Int)+1==1)=false:=by simp[-aC,-aw];omega
  have hB:o9 Q (r.ar+r.loc) c4= .mk 8 [] [] (g1::ys):=by unfold o9;rw[we];rw[bo (by simp only[ga];omega)]
  have uK:rM Q (r.ar+r.loc) c4=jB:=by unfold rM;rw[we];rw[bo (by simp only[ga];omega)]
  simp[-aC,-aw,cD];(with_reducible repeat' first|refine av ?_|simp[-aC,-aw,e2,Cd,hr,cb,JA,-Hw]);refine bU.whl (k+1) Ω Ω ?_;rw[tI,hB,uK];simp[-aC,-aw,xb,Rp];exact⟨by simp[-aC,-aw,fresh,aj,ak,bj,ag,Pv.look,cV,bC,u5],cg (by simp[-aC,-aw,fresh,aj,ak,bj,ag,Pv.look,cV,bC,u5]),ch (by simp[-aC,-aw,fresh,aj,ak,cc,ag,Pv.look,cV,bC,u5]),by simp[-aC,-aw]⟩
def CN:List ah:=[40,100,101,102,105,110,101,32,40,97,112,112,101,110,100,32,63,97,32,63,98,32,63,99,41,32,40,111,114,32,40,97,110,100,32,40,61,32,63,97,32,40,41,41,32,40,61,32,63,98,32,63,99,41,41,32,40,97,110,100,32,40,61,32,63,97,32,40,63,120,32,46,32,63,121,41,41,32,40,61,32,63,99,32,40,63,120,32,46,32,63,122,41,41,32,40,97,112,112,101,110,100,32,63,121,32,63,98,32,63,122,41,41,41,41]
theorem ad4:CN.length<=119:=by decide
theorem ad3:CN.head? =some 40:=rfl
def CO:List ah:=[40,100,101,102,105,110,101,32,40,109,101,109,98,101,114,32,63,120,32,63,108,41,32,40,111,114,32,40,61,32,63,108,32,40,63,120,32,46,32,63,114,41,41,32,40,97,110,100,32,40,61,32,63,108,32,40,63,121,32,46,32,63,114,41,41,32,40,109,101,109,98,101,114,32,63,120,32,63,114,41,41,41,41]
theorem ad5:CO.length<=119:=by decide
def CP:List ah:=[40,100,101,102,105,110,101,32,40,101,100,103,101,32,63,97,32,63,98,41,32,40,111,114,32,40,97,110,100,32,40,61,32,63,97,32,97,41,32,40,61,32,63,98,32,98,41,41,32,40,97,110,100,32,40,61,32,63,97,32,98,41,32,40,61,32,63,98,32,99,41,41,32,40,97,110,100,32,40,61,32,63,97,32,99,41,32,40,61,32,63,98,32,97,41,41,41,41]
theorem ad7:CP.length<=119:=by decide
theorem ad6:CP.head? =some 40:=rfl
def CQ:List ah:=[40,100,101,102,105,110,101,32,40,112,97,116,104,32,63,97,32,63,98,41,32,40,111,114,32,40,101,100,103,101,32,63,97,32,63,98,41,32,40,97,110,100,32,40,112,97,116,104,32,63,97,32,63,99,41,32,40,101,100,103,101,32,63,99,32,63,98,41,41,41,41]
theorem ad8:CQ.length<=119:=by decide
def CR:List ah:=[40,100,101,102,105,110,101,32,40,111,117,116,115,105,100,101,32,63,120,32,63,108,41,32,40,111,114,32,40,61,32,63,108,32,40,41,41,32,40,97,110,100,32,40,61,32,63,108,32,40,63,121,32,46,32,63,114,41,41,32,40,47,61,32,63,120,32,63,121,41,32,40,111,117,116,115,105,100,101,32,63,120,32,63,114,41,41,41,41]
theorem aea:CR.length<=119:=by decide
theorem ad9:CR.head? =some 40:=rfl
def CS:List ah:=[40,100,101,102,105,110,101,32,40,100,105,115,116,105,110,99,116,32,63,108,41,32,40,111,114,32,40,61,32,63,108,32,40,41,41,32,40,97,110,100,32,40,61,32,63,108,32,40,63,120,32,46,32,63,114,41,41,32,40,111,117,116,115,105,100,101,32,63,120,32,63,114,41,32,40,100,105,115,116,105,110,99,116,32,63,114,41,41,41,41]
theorem aeb:CS.length<=119:=by decide
def CT:List ah:=[40,100,101,102,105,110,101,32,40,109,111,118,101,32,63,97,32,63,98,41,32,40,111,114,32,40,97,110,100,32,40,61,32,63,97,32,97,41,32,40,61,32,63,98,32,98,41,41,32,40,97,110,100,32,40,61,32,63,97,32,98,41,32,40,61,32,63,98,32,97,41,41,32,40,97,110,100,32,40,61,32,63,97,32,98,41,32,40,61,32,63,98,32,99,41,41,41,41]
theorem aed:CT.length<=119:=by decide
theorem aec:CT.head? =some 40:=rfl
def CU:List ah:=[40,100,101,102,105,110,101,32,40,119,105,110,32,63,97,41,32,40,97,110,100,32,40,109,111,118,101,32,63,97,32,63,98,41,32,40,110,111,116,32,40,119,105,110,32,63,98,41,41,41,41]
theorem aee:CU.length<=119:=by decide
def Bq:C:=(af [a8 2 (.mov (.c (.str [])))] (af [fm 7 1 9 [],ab 3 7] (.seq (af [ab 8 0] (.block 0 (af [a8 10 (.bin .eql false (.t 8) (.c (.str [108,105,115,116,115]))),ab 9 10] (bt 9 (.region [cd (.bsl 11 1 9 [(.c (.str CN)),(.c (.str CO))]),ab 3 11]) (af [a8 13 (.bin .eql false (.t 8) (.c (.str [103,114,97,112,104]))),ab 12 13] (bt 12 (.region [cd (.bsl 14 1 9 [(.c (.str CP)),(.c (.str CQ))]),ab 3 14]) (af [a8 16 (.bin .eql false (.t 8) (.c (.str [115,101,116,115]))),ab 15 16] (bt 15 (.region [cd (.bsl 17 1 9 [(.c (.str CR)),(.c (.str CS))]),ab 3 17]) (af [a8 19 (.bin .eql false (.t 8) (.c (.str [103,97,109,101,115]))),ab 18 19] (bt 18 (.region [cd (.bsl 20 1 9 [(.c (.str CT)),(.c (.str CU))]),ab 3 20]) .skip)))))))))) (af [a8 4 (.mov (.c (.str [])))] (.seq (af [ab 21 3,cJ 22 21,cG 23 0] (.block 1 (.loop (af [cA 24 .lss 23 22] (.seq (bt 24 .skip (.exit 1)) (.seq (.block 2 (af [dm 25 1 21 23,a7 26 1 25,ab 6 26] (.region [ab 27 4,ab 28 6,cA 29 .add 27 28,fm 30 1 5 [(.c (.int .u8 10))],a8 31 (.b2s (.t 30)),cA 32 .add 29 31,ab 4 32]))) (.region [bk 33 .add 23 1,ab 23 33]))))))) (af [ab 34 4,ab 2 34] .ret))))))
theorem D4:N6=Bq:=rfl
def CZ(k:Int):List ah:=if k=0 then [108,105,115,116,115]else if k=1 then [103,114,97,112,104]else if k=2 then [115,101,116,115]else [103,97,109,101,115]
set_option maxRecDepth 8000 in
theorem aaC(k:Int):bJ aQ 94 [.str (CZ k)] ⟨[],[]⟩ fun r aq=>aq=⟨[],[]⟩/\∃t:List ah,r= .str t/\t.length<=300/\t.head? =some 40:=by
 unfold CZ;by_cases c0:k=0
 ·rw[bP c0];have au:=gF;refine bJ.mk mixed jI EB Gf Ψ au.obj fun aL bT=>?_;rw[D4];unfold Bq;clear aL bT;simp;(with_reducible repeat' first|refine av ?_|simp);refine gf (fun x:List ah×Nat=>⟨[(4,.str x.1),(21,.slice 1 (.own (.loc 1)) [.str CN,.str CO]),(22,.int .i64 2),(23,.int .i64 x.2)],[],[(.loc 1,⟨2,9,1,none⟩)],2,[]⟩) (fun x=>2-x.2) (fun x=>x.2<=2/\x.1.length<=120*x.2/\(x.2≠0->x.1.head? =some 40)) ([],0) (by simp;exact cX) ⟨Ψ,Ψ,Ψ⟩ ?_;rintro⟨s,i⟩ ⟨aE,ao,bX⟩ _;simp only at aE ao bX⊢;have I:=ad4;have J:=ad5;have aP:=ad3;rcases(by omega:i=0\/i=1\/i=2)with rfl|rfl|rfl
  ·obtain rfl:s=[]:=n5 Ω;simp;(with_reducible repeat' first|refine av ?_|simp);refine bU.whl (CN++[10],1) Ψ ⟨Ψ,by simp;omega,fun _=>by simp[aP]⟩ ?_;simp;exact cX
  ·have aG:s.length+(CO).length+1<=bs:=by unfold bs;omega
   simp;(with_reducible repeat' first|refine av ?_|simp[aG]);refine bU.whl (s++CO++[10],2) Ψ ⟨Ψ,by simp;omega,fun _=>by simp[bX]⟩ ?_;simp;exact cX
  ·simp;(with_reducible repeat' first|refine av ?_|simp);refine bL.at ⟨[],[]⟩ (.inl rfl) gF (Same.refl _) ai ai ?_;simp[bV,Di,bg,bh,bf];exact⟨Ω,bX Ψ⟩
 rw[bo c0];by_cases c8:k=1
 ·rw[bP c8];have au:=gF;refine bJ.mk mixed jI EB Gf Ψ au.obj fun aL bT=>?_;rw[D4];unfold Bq;clear aL bT;simp;(with_reducible repeat' first|refine av ?_|simp);refine gf (fun x:List ah×Nat=>⟨[(4,.str x.1),(21,.slice 1 (.own (.loc 1)) [.str CP,.str CQ]),(22,.int .i64 2),(23,.int .i64 x.2)],[],[(.loc 1,⟨2,9,1,none⟩)],2,[]⟩) (fun x=>2-x.2) (fun x=>x.2<=2/\x.1.length<=120*x.2/\(x.2≠0->x.1.head? =some 40)) ([],0) (by simp;exact cX) ⟨Ψ,Ψ,Ψ⟩ ?_;rintro⟨s,i⟩ ⟨aE,ao,bX⟩ _;simp only at aE ao bX⊢;have I:=ad7;have J:=ad8;have aP:=ad6;rcases(by omega:i=0\/i=1\/i=2)with rfl|rfl|rfl
  ·obtain rfl:s=[]:=n5 Ω;simp;(with_reducible repeat' first|refine av ?_|simp);refine bU.whl (CP++[10],1) Ψ ⟨Ψ,by simp;omega,fun _=>by simp[aP]⟩ ?_;simp;exact cX
  ·have aG:s.length+(CQ).length+1<=bs:=by unfold bs;omega
   simp;(with_reducible repeat' first|refine av ?_|simp[aG]);refine bU.whl (s++CQ++[10],2) Ψ ⟨Ψ,by simp;omega,fun _=>by simp[bX]⟩ ?_;simp;exact cX
  ·simp;(with_reducible repeat' first|refine av ?_|simp);refine bL.at ⟨[],[]⟩ (.inl rfl) gF (Same.refl _) ai ai ?_;simp[bV,Di,bg,bh,bf];exact⟨Ω,bX Ψ⟩
 rw[bo c8];by_cases c2:k=2
 ·rw[bP c2];have au:=gF;refine bJ.mk mixed jI EB Gf Ψ au.obj fun aL bT=>?_;rw[D4];unfold Bq;clear aL bT;simp;(with_reducible repeat' first|refine av ?_|simp);refine gf (fun x:List ah×Nat=>⟨[(4,.str x.1),(21,.slice 1 (.own (.loc 1)) [.str CR,.str CS]),(22,.int .i64 2),(23,.int .i64 x.2)],[],[(.loc 1,⟨2,9,1,none⟩)],2,[]⟩) (fun x=>2-x.2) (fun x=>x.2<=2/\x.1.length<=120*x.2/\(x.2≠0->x.1.head? =some 40)) ([],0) (by simp;exact cX) ⟨Ψ,Ψ,Ψ⟩ ?_;rintro⟨s,i⟩ ⟨aE,ao,bX⟩ _;simp only at aE ao bX⊢;have I:=aea;have J:=aeb;have aP:=ad9;rcases(by omega:i=0\/i=1\/i=2)with rfl|rfl|rfl
  ·obtain rfl:s=[]:=n5 Ω;simp;(with_reducible repeat' first|refine av ?_|simp);refine bU.whl (CR++[10],1) Ψ ⟨Ψ,by simp;omega,fun _=>by simp[aP]⟩ ?_;simp;exact cX
  ·have aG:s.length+(CS).length+1<=bs:=by unfold bs;omega
   simp;(with_reducible repeat' first|refine av ?_|simp[aG]);refine bU.whl (s++CS++[10],2) Ψ ⟨Ψ,by simp;omega,fun _=>by simp[bX]⟩ ?_;simp;exact cX
  ·simp;(with_reducible repeat' first|refine av ?_|simp);refine bL.at ⟨[],[]⟩ (.inl rfl) gF (Same.refl _) ai ai ?_;simp[bV,Di,bg,bh,bf];exact⟨Ω,bX Ψ⟩
 rw[bo c2];have au:=gF;refine bJ.mk mixed jI EB Gf Ψ au.obj fun aL bT=>?_;rw[D4];unfold Bq;clear aL bT;simp;(with_reducible repeat' first|refine av ?_|simp);refine gf (fun x:List ah×Nat=>⟨[(4,.str x.1),(21,.slice 1 (.own (.loc 1)) [.str CT,.str CU]),(22,.int .i64 2),(23,.int .i64 x.2)],[],[(.loc 1,⟨2,9,1,none⟩)],2,[]⟩) (fun x=>2-x.2) (fun x=>x.2<=2/\x.1.length<=120*x.2/\(x.2≠0->x.1.head? =some 40)) ([],0) (by simp;exact cX) ⟨Ψ,Ψ,Ψ⟩ ?_;rintro⟨s,i⟩ ⟨aE,ao,bX⟩ _;simp only at aE ao bX⊢;have I:=aed;have J:=aee;have aP:=aec;rcases(by omega:i=0\/i=1\/i=2)with rfl|rfl|rfl
 ·obtain rfl:s=[]:=n5 Ω;simp;(with_reducible repeat' first|refine av ?_|simp);refine bU.whl (CT++[10],1) Ψ ⟨Ψ,by simp;omega,fun _=>by simp[aP]⟩ ?_;simp;exact cX
 ·have aG:s.length+(CU).length+1<=bs:=by unfold bs;omega
  simp;(with_reducible repeat' first|refine av ?_|simp[aG]);refine bU.whl (s++CU++[10],2) Ψ ⟨Ψ,by simp;omega,fun _=>by simp[bX]⟩ ?_;simp;exact cX
 ·simp;(with_reducible repeat' first|refine av ?_|simp);refine bL.at ⟨[],[]⟩ (.inl rfl) gF (Same.refl _) ai ai ?_;simp[bV,Di,bg,bh,bf];exact⟨Ω,bX Ψ⟩
theorem Em{n:Int}(aJ:n<=100001){z:Nat}(bK:0<z)(c:bS):(eD z n c).1.size<=2*z-1:=by have:=(Pg n aJ z c).2.2;rw[bo Ω]at this;exact this
theorem aht{n:Int}(aJ:n<=100001)(c:bS):(AL n c).w<=9:=by
 have I:=Em aJ (z:=1) Ω c;have aS:=Em aJ (z:=4) Ω (eD 1 n c).2;have au:((T.sym [97]).size)=1:=rfl;unfold AL sH yI;repeat' split
 all_goals simp[Gm.w,mZ,aV.szL,G1,au]
 all_goals omega
theorem U3{n:Int}(aJ:n<=100001)(c:bS):∀k,∀x∈(jg n k c).1,x.w<=9
 |0,x,h=>by simp[jg]at h
 |k+1,x,h=>by
  simp only[jg,fM,mi]at h;rcases h with h|rfl
  ·exact U3 aJ c k x h
  ·exact aht aJ _
theorem Na{n:Int}(aJ:n<=100001)(c:bS):∀k,((hs n k c).1.map T.size).sum<=5*k
 |0=>by simp[hs]
 |k+1=>by
  have I:=Na aJ c k;have J:(eD (tf (hs n k c).2).toNat n ((hs n k c).2.belowC 4)).1.size<=5:=by
   rcases M8 (hs n k c).2 with h|h
   ·rw[h];exact Nat.le_trans (Em aJ (by decide) _) (by decide)
   ·rw[h];exact Nat.le_trans (Em aJ (by decide) _) (by decide)
  simp only[hs,List.map_append,List.sum_append,ek,mQ,qD,List.sum_nil];omega
theorem W1{P:List Rl}{A:Nat}(bq:∀r∈P,r.ar<=A){n:Int}(aJ:n<=100001)(c:bS):(oj P n c).w<=2+5*A:=by
 have bK:(mW P c).ar<=A:=by
  unfold mW;cases h:P[(c.below P.length).toNat]? with
  |none=>simp[oT]
  |some r=>exact bq r (fq h)
 have I:=Na aJ (c.belowC P.length) (mW P c).ar.toNat
 have J:(ti P n c).w<=1+5*A:=by
  have e:aV.szL ((hs n (mW P c).ar.toNat (c.belowC P.length)).1.map T.tm)=((hs n (mW P c).ar.toNat (c.belowC P.length)).1.map T.size).sum:=by rw[AM,List.map_map];congr 1;exact List.map_congr_left fun x _=>G1 x
  simp only[ti,Gm.w,mZ,e];omega
 unfold oj;split
 ·simp only[Gm.w,mZ,aV.szL];omega
 ·omega
theorem OG{P:List Rl}{A:Nat}(bq:∀r∈P,r.ar<=A){n:Int}(aJ:n<=100001){x:List Gm×bS}(ad:∀y∈x.1,y.w<=2+5*A):∀m,(∀y∈(gO P n m x).1,y.w<=2+5*A)/\(gO P n m x).1.length=x.1.length+m
 |0=>⟨ad,rfl⟩
 |m+1=>by
  obtain⟨I,J⟩:=OG bq aJ ad m;refine⟨fun y bB=>?_,by simp[gO,J];omega⟩;simp only[gO,fM,mi]at bB;rcases bB with bB|rfl
  ·exact I y bB
  ·exact W1 bq aJ _
theorem EO{W:Nat}:∀{l:List Gm},(∀x∈l,x.w<=W)->mZ l<=W*l.length
 |[],_=>o3 _
 |x::l,h=>by have I:=h x Ψ;have J:=EO (l:=l) fun y bB=>h y (by simp[bB]);simp only[mZ,ga,Nat.mul_add];omega
theorem OS{P:List Rl}{A:Nat}(akp:2<=A)(bq:∀r∈P,r.ar<=A){m:Nat}{n:Int}(aJ:n<=100001)(c:bS):(∀y∈(fQ P n m c).1,y.w<=2+5*A)/\(fQ P n m c).1.length<=2+m:=by have ao:=c.below_le 2 Ω;have h:=OG bq aJ (x:=jg n (1+(c.below 2).toNat) (c.belowC 2)) (fun y bB=>by have:=U3 aJ _ _ y bB;omega) m;rw[wX]at h;exact⟨h.1,by unfold fQ;omega⟩
theorem OQ{P:List Rl}(bq:∀r∈P,r.ar<=(2:Nat)){m:Nat}(hm:m<=2){n:Int}(aJ:n<=100001)(c:bS):(jO P n m c).w<=49:=by obtain⟨I,J⟩:=OS (c7 2) bq (m:=m) aJ c;have aA:=EO I;simp only[jO,Gm.w,aV.szL];have:(2+5*2)*(fQ P n m c).1.length<=12*4:=Nat.mul_le_mul (c7 _) Ω;omega
theorem Nn{P:List Rl}(bq:∀r∈P,r.ar<=(2:Nat)){n:Int}(aJ:n<=100001){x:List Gm×bS}(ad:∀y∈x.1,y.w<=49):∀k,(∀y∈(gN P n k x).1,y.w<=49)/\(gN P n k x).1.length=x.1.length+k
 |0=>⟨ad,rfl⟩
 |k+1=>by
  obtain⟨I,J⟩:=Nn bq aJ ad k;have aH:=Kq (gN P n k x).2;refine⟨fun y bB=>?_,by simp[gN,J];omega⟩;simp only[gN,fM,mi]at bB;rcases bB with bB|rfl
  ·exact I y bB
  ·exact OQ bq aH.2 aJ _
theorem WT{P:List Rl}(bq:∀r∈P,r.ar<=(2:Nat)){n:Int}(aJ:n<=100001)(c:bS):(o9 P n c).w<=150:=by
 have bK:=OQ bq (m:=0) Ω aJ c;have ao:=(fQ P n 0 c).2.below_le 3 Ω;obtain⟨I,J⟩:=Nn bq aJ (x:=([jO P n 0 c],(fQ P n 0 c).2.belowC 3)) (fun y bB=>by rw[mi.1 bB];exact bK) ((fQ P n 0 c).2.below 3).toNat
 simp only[List.length_singleton]at J;unfold o9;split
 ·omega
 ·have aA:=EO I;have:49*(gN P n ((fQ P n 0 c).2.below 3).toNat ([jO P n 0 c],(fQ P n 0 c).2.belowC 3)).1.length<=49*3:=Nat.mul_le_mul (c7 _) Ω;simp only[Gm.w,aV.szL];unfold rN;omega
theorem PR{x:List Rl×bS}(bq:∀r∈x.1,r.ar<=(2:Nat))(aR:∀r∈x.1,zw r):∀k,k<=x.1.length->∀(i:Nat) r,i<k->(fY k x).1[i]? =some r->r.body.w<=150
 |0,_,i,r,aE,_=>Ω
 |k+1,aa,i,r,aE,h=>by
  simp only[fY]at h;rw[List.getElem?_set]at h;by_cases kd:k=i
  ·subst kd;have e2:k<(fY k x).1.length:=by rw[uF];omega
   rw[bP rfl,bP e2]at h;simp only[dH]at h;have au:=BN x k;have E4:=GR au aR;have abr:=U1 au (Pr:=fun _ a _=>a<=(2:Nat)) bq;have hm:(fY k x).1[k]?.getD oT∈(fY k x).1:=by rw[cS e2];exact List.getElem_mem _
   have hr:=E4 _ hm;rw[<-h];simp only;have l5:=hr.2;exact WT abr Ω _
  ·rw[bo kd]at h;exact PR bq aR k Ω i r Ω h
theorem Vb{α:Type}{f:α->Nat}{W:Nat}:∀{l:List α},(∀x∈l,f x<=W)->(l.map f).sum<=W*l.length
 |[],_=>by simp
 |x::l,h=>by have I:=h x Ψ;have J:=Vb (l:=l) fun y bB=>h y (by simp[bB]);simp only[ek,qD,ga,Nat.mul_add];omega
theorem Pf(c:bS):pC (vW c).1:=by
 have ao:=c.below_le 3 Ω;unfold vW;generalize aa:1+(c.below 3).toNat=k;have hlen:(iR k (c.belowC 3)).1.length=k:=tY _ _;have j9:=PR (x:=iR k (c.belowC 3)) (fun r hr=>by obtain⟨i,aE⟩:=List.getElem?_of_mem hr;have:=(Dm _ k i r aE).2.2.1;omega) GC k Ω
 have I:=Vb (l:=(fY k (iR k (c.belowC 3))).1) (f:=fun x=>x.body.w) (W:=150) fun r hr=>by obtain⟨i,aE⟩:=List.getElem?_of_mem hr;have:=(eV.1 aE).1;rw[uF,hlen]at this;exact j9 i r this aE
 rw[uF,hlen]at I;unfold pC;omega
theorem abj{P:List Rl}(h:gC P=true)(c:bS):(tA P c).1.w<=600:=by
 have bq:∀r∈P,r.ar<=(4:Nat):=fun r hr=>(nv h hr).2.1.2;obtain⟨I,J⟩:=OS Ω bq (m:=1) (n:=3) Ω c;unfold tA;split
 ·have aA:=EO I;have:(2+5*4)*(fQ P 3 1 c).1.length<=22*3:=Nat.mul_le_mul (c7 _) Ω;simp only[jO,Gm.w,aV.szL];omega
 ·simp only;generalize (fQ P 3 1 c).1=l at*;cases aG:l.getLast? with
  |none=>rw[List.getLastD_eq_getLast?,aG];simp[my,Gm.w,aV.szL,mZ]
  |some y=>rw[List.getLastD_eq_getLast?,aG];have:=I y (List.mem_of_getLast? aG);simp only[qE];omega
theorem af4{t:List ah}{P:List Rl}(h:nY t=some P)(aI:t.head? =some 40):0<P.length:=by
 unfold nY at h;cases t with
 |nil=>simp at aI
 |cons c t=>
  simp at aI;subst aI;cases aa:gG (40::t)with
  |none=>rw[aa]at h;simp at h
  |some l=>
   rw[aa]at h;simp only[DN]at h;have aG:l=[40]::dp t:=by
    unfold gG at aa;split at aa
    ·cases aa;rw[sL];simp
    ·cases aa
   subst aG;obtain⟨I,_⟩:=h;simp only[ga,lN]at I;split at I
   ·cases hr:lN (dp t).length _ with
    |none=>rw[hr]at I;simp at I
    |some Q=>rw[hr]at I;simp at I;rw[<-I];simp
   ·cases I
def SG(P:List Rl):Prop:=gC P=true/\pC P/\0<P.length
theorem aaS(c:bS)(aH:c.ok):bJ aQ 163 [.ptr (.obj 401) 0,.slice 1 .no [.str [108,105,115,116,115],.str [103,114,97,112,104],.str [115,101,116,115],.str [103,97,109,101,115]]] (aN c) fun r aq=>r= .str (CZ (c.below 4))/\aq=aN (c.belowC 4):=by
 have au:=cn c;have ao:=c.below_le 4 Ω;refine bJ.mk mixed sR Z0 afF Ψ au.obj fun aL bT=>?_;unfold Oe;unfold aN;simp;(refine bc.ob (mz c aH 4) (cn _) (by unfold aN;exact ai) (by unfold aN;exact ai) (by simp[ag,aN,Pv.look]) ?_;rintro r aq ⟨rfl,rfl⟩;refine⟨c6 _ _,?_⟩;unfold aN;simp[aX]);generalize aa:c.below 4=k at ao⊢;rcases(by omega:k=0\/k=1\/k=2\/k=3)with rfl|rfl|rfl|rfl;all_goals(with_reducible repeat' first|refine av ?_|simp)
 all_goals(refine bL.at (aN (c.belowC 4)) (.inl rfl) (cn _) (c6 _ _) (by unfold aN;exact ai) (by unfold aN;exact ai) ?_;simp[bV,T3,bg,bh,bf,aN])
 all_goals simp[CZ]
theorem aaX(c:bS)(aH:c.ok):bJ aQ 95 [.ptr (.obj 401) 0] (aN c) fun r aq=>r= .str (CZ (c.below 4))/\aq=aN (c.belowC 4):=by have au:=cn c;refine bJ.mk mixed jI aag afV Ψ au.obj fun aL bT=>?_;unfold Oz;clear aL bT;unfold aN;simp;(with_reducible repeat' first|refine av ?_|simp);(refine bc.ob (aaS c aH) (cn _) (by unfold aN;exact ai) (by unfold aN;exact ai) (by simp[ag,aN,Pv.look]) ?_;rintro r aq ⟨rfl,rfl⟩;refine⟨c6 _ _,?_⟩;unfold aN;simp[aX]);(with_reducible repeat' first|refine av ?_|simp);(refine bL.at (aN (c.belowC 4)) (.inl rfl) (cn _) (c6 _ _) (by unfold aN;exact ai) (by unfold aN;exact ai) ?_;simp[bV,Ua,bg,bh,bf,aN])
theorem aaD(d:List Int)(aP:tg d)(aG:d.length<=10000000)(n:Nat)(aJ:n<=1000000):bJ aQ 31 [.slice 1 .no (iz d),.int .i64 n,.int .i64 2] ⟨[],[]⟩ fun r aq=>aq=⟨[],[]⟩/\∃P,r=ho P/\SG P:=by
 have au:=gF;have aH:=O0 aP aG n;have jo:=aH.below 4;have hj:=jo.below 8;refine bJ.mk mixed o0 ZU afz Ψ au.obj fun aL bT=>?_;unfold N8;clear aL bT;simp;refine bc.new (Qf d aP aG n aJ) ((gJ.of ⟨by intro m;simp[Pv.look],by intro m;simp[Pv.look]⟩ (by simp[aj,ak,ag,Pv.look]) (by simp[aj,ak,ag,Pv.look]))) ai ai Ψ ?_;rintro r aq ⟨rfl,rfl⟩;refine⟨fun m _=>.inr Ψ,?_⟩;unfold aN;simp[aX];(with_reducible repeat' first|refine av ?_|simp);(refine bc.ob (aaX _ aH) (cn _) (by unfold aN;exact ai) (by unfold aN;exact ai) (by simp[ag,aN,Pv.look]) ?_;rintro r aq ⟨rfl,rfl⟩;refine⟨c6 _ _,?_⟩;unfold aN;simp[aX]);(with_reducible repeat' first|refine av ?_|simp);refine bc.ob (aaC _) gF (fun k cs h=>by simp[Pv.look]at h) (fun k cs h=>by simp[Pv.look]at h) (by simp[aj,ak]) ?_;rintro r aq ⟨rfl,t,rfl,aI,bX⟩;refine⟨Same.refl _,?_⟩;simp[aX];have cy:=ail t (by unfold bs;omega);cases bn:nY t with
 |none=>rw[bn]at cy;simp only[je]at cy;(with_reducible repeat' first|refine av ?_|refine ba cy ?_|refine bb cy ?_|simp);(refine bc.ob (Qe _ jo) (cn _) (by unfold aN;exact ai) (by unfold aN;exact ai) (by simp[ag,aN,Pv.look]) ?_;rintro r aq ⟨rfl,rfl⟩;refine⟨c6 _ _,?_⟩;unfold aN;simp[aX]);(with_reducible repeat' first|refine av ?_|simp);refine bL.at ⟨[],[]⟩ (.inl rfl) gF (Same.refl _) ai ai ?_;simp[bV,Gu,bg,bh,bf];exact⟨_,rfl,(El _).1,Pf _,(El _).2⟩
 |some P=>
  have abx:SG P:=⟨(Tw bn aI).1,(Tw bn aI).2,af4 bn bX⟩;rw[bn]at cy;simp only[je]at cy;have fC:=BQ _ jo 8;by_cases bK:((rQ d n).belowC 4).below 8=0;rotate_left
  ·have r2:(((rQ d n).belowC 4).below 8==0)=false:=by simpa using bK
   rw[r2]at fC;(with_reducible repeat' first|refine av ?_|refine ba cy ?_|refine bb cy ?_|simp);(refine bc.ob (fC) (cn _) (by unfold aN;exact ai) (by unfold aN;exact ai) (by simp[ag,aN,Pv.look]) ?_;rintro r aq ⟨rfl,rfl⟩;refine⟨c6 _ _,?_⟩;unfold aN;simp[aX]);(with_reducible repeat' first|refine av ?_|simp);(refine bc.ob (Qe _ hj) (cn _) (by unfold aN;exact ai) (by unfold aN;exact ai) (by simp[ag,aN,Pv.look]) ?_;rintro r aq ⟨rfl,rfl⟩;refine⟨c6 _ _,?_⟩;unfold aN;simp[aX]);(with_reducible repeat' first|refine av ?_|simp);refine bL.at ⟨[],[]⟩ (.inl rfl) gF (Same.refl _) ai ai ?_;simp[bV,Gu,bg,bh,bf];exact⟨_,rfl,(El _).1,Pf _,(El _).2⟩
  ·have r2:(((rQ d n).belowC 4).below 8==0)=true:=by simpa using bK
   rw[r2]at fC;(with_reducible repeat' first|refine av ?_|refine ba cy ?_|refine bb cy ?_|simp);(refine bc.ob (fC) (cn _) (by unfold aN;exact ai) (by unfold aN;exact ai) (by simp[ag,aN,Pv.look]) ?_;rintro r aq ⟨rfl,rfl⟩;refine⟨c6 _ _,?_⟩;unfold aN;simp[aX]);(with_reducible repeat' first|refine av ?_|simp);refine bL.at ⟨[],[]⟩ (.inl rfl) gF (Same.refl _) ai ai ?_;simp[bV,Gu,bg,bh,bf];exact⟨P,rfl,abx⟩
def Ba(P Q:List Rl)(g:Gm)(i:Nat)(_:Unit):a6:=⟨[(3,.ptr (.loc 0) 0),(4,.ptr (.loc 1) 0),(5,.ptr (.loc 2) 0),(72,.slice 7 .no (Q.map Rl.e)),(73,.int .i64 Q.length),(74,.int .i64 i)],[(.loc 0,[.slice 7 .no (P.map Rl.e)]),(.loc 1,[.int .i64 g.kind,.str g.name,.slice 4 .no (g.ts.map enc),.slice 4 .no (g.gs.map Gm.e)]),(.loc 2,[.slice 7 .no (Q.map Rl.e)])],[],5,[]⟩
theorem VB(d:List Int)(aP:tg d):ct aQ 8 [.slice 1 .no (iz d)] (.bool true):=by
 by_cases zE:1048576<d.length
 ·have oC:(1048576:Int)<d.length:=Ω
  refine bW DI PD Tg fun aL=>?_;unfold HN;exact cB
 have aG:d.length<=10000000:=Ω
 have abI:¬(1048576:Int)<d.length:=Ω
 have cy:=aaD d aP aG 0 Ω;refine bW DI PD Tg fun aL=>?_;unfold HN;clear aL;simp;(with_reducible repeat' first|refine av ?_|simp[abI]);refine bc.ob cy gF (fun k cs h=>by simp[Pv.look]at h) (fun k cs h=>by simp[Pv.look]at h) (by simp[aj,ak]) ?_;rintro r aq ⟨rfl,P,rfl,dS,fa,QA⟩;refine⟨Same.refl _,?_⟩;simp[aX];have uM:∀r∈P,0<=r.ar/\r.ar<=4:=fun r hr=>(nv dS hr).2.1;have iN:=ahZ d aP aG 60 Ω P QA uM;obtain⟨EX,q2⟩:=abi dS QA (rQ d 60);have Je:=abj dS (rQ d 60);generalize (tA P (rQ d 60)).1=g at iN EX q2 Je;obtain⟨t1,t2,t3⟩:=TD dS fa;have Fs:=U5 dS fa;have cU:=ah0 P dS fa;have kq:∀(i:Nat) (x:Rl),(P.map Rl.num)[i]? =some x->∃y,P[i]? =some y/\x=y.num:=fun i x h=>by
  rw[pQ]at h;cases bn:P[i]? with
  |none=>rw[bn]at h;cases h
  |some y=>rw[bn]at h;cases h;exact⟨y,rfl,rfl⟩
 have aby:(P.map Rl.num).length=P.length:=pR ..;generalize P.map Rl.num=Q at t1 t2 t3 Fs cU kq aby
 have cZ:=VC Q t2 Fs;have abz:=(Dz t2 Fs).1;have nm:=VH (hi Q++[59,32,101,110,100]) (by simp;unfold bs;omega);rw[t3]at nm;simp only[je]at nm;have nU:=ahX q2 Ω;have Jc:=BG g.sz g (c7 _) (by unfold Gm.fits at q2;simp only[bF]at q2;exact q2.1);have FH:=ah1 (s:=32::ff g) (by simp;unfold bs;omega);rw[abk q2 Je]at FH;simp only[xK]at FH;have jn:(hi Q).length+5<=bs:=by unfold bs;omega
 have nJ:1+(ff g).length<=bs:=by unfold bs;omega
 have QH:(ff g).length+1<=bs:=by unfold bs;omega
 have abw:P.length<=8:=by unfold gC at dS;simp only[bF,ea]at dS;exact dS.1.1
 have gA:g.shape=true:=by unfold Gm.fits at q2;simp only[bF]at q2;exact q2.1
 have lH:=aij Q Ω fun x ad=>(nv t2 ad).2.2.1;have Sl:=VN g.sz g (c7 _) gA;have Sd:=ahY dS q2 3 ((Ms g 3).2 EX.vb) EX.cf;have Ka:=DK Q;rw[t2]at Ka;clear t1 t3 Fs fa Je EX abz Jc cy;have cD:((Q.length:Int) !=P.length)=false:=by simp;omega
 ((with_reducible repeat' first|refine av ?_|refine ba iN ?_|refine bb iN ?_|refine ba cU ?_|refine bb cU ?_|refine ba cZ ?_|refine bb cZ ?_|refine ba nm ?_|refine bb nm ?_|refine ba nU ?_|refine bb nU ?_|refine ba FH ?_|refine bb FH ?_|refine ba lH ?_|refine bb lH ?_|refine ba Sl ?_|refine bb Sl ?_|simp[jn,nJ,QH,cD]|((first|apply cN|apply cP|apply cO)<;>intro h<;>try simp at h))<;>(try exact dr));refine gP (Ba P Q g) Q.length (fun _ _=>True) () (by simp[Ba];exact cX) trivial (fun p aD _=>?_) (fun i p aE aD _=>?_)
 ·simp[Ba];((with_reducible repeat' first|refine av ?_|refine ba Sd ?_|refine bb Sd ?_|refine ba Ka ?_|refine bb Ka ?_|simp|((first|apply cN|apply cP|apply cO)<;>intro h<;>try simp at h))<;>(try exact dr));simp[b8,TW,bg,bh,bf]
 ·obtain⟨x,ad,gr⟩:=gp aE;obtain⟨y,bB,rfl⟩:=kq i x ad;have Q1:i<P.length:=Ω
  have ih:∀h,(P[i]'h)=y:=fun h=>by rw[cS Q1]at bB;exact hd bB
  have cb:aZ ((i:Int)+1):=by unfold aZ;omega
  have CF:y.ok P=true:=by simp only[gC,bF,hq]at dS;exact dS.2 y (fq bB)
  have RB:y.body.fits 80=true:=by simp only[Rl.ok,Gm.fits,bF,ea]at CF;simp only[Gm.fits,bF,ea];exact⟨CF.1.1.2.1,by have:=CF.1.1.2.2;omega⟩
  have Rz:y.num.body.fits 80=true:=by
   have JV:y.num.ok Q=true:=by simp only[gC,bF,hq]at t2;exact t2.2 _ (fq ad)
   simp only[Rl.ok,Gm.fits,bF,ea]at JV;simp only[Gm.fits,bF,ea];exact⟨JV.1.1.2.1,by have:=JV.1.1.2.2;omega⟩
  have cE:=VF RB;have dj:=VF Rz;have kR:y.num.body.sz=y.body.sz:=Lk _ _;rw[kR]at dj;have acR:y.num.name=y.name:=rfl;have acS:y.num.ar=y.ar:=rfl;have Jn:¬y.loc<y.num.loc:=by have:=(Th CF).2;omega
  clear kq CF RB Rz dS t2 aD;simp[Ba,aE,gr];(with_reducible repeat' first|refine av ?_|refine ba cE ?_|refine bb cE ?_|refine ba dj ?_|refine bb dj ?_|simp[aE,Q1,gr,ih,cb,acR,acS,Jn]);refine bU.rng () aE trivial (by simp[Ba];exact cX)
end
section
open Go Go.Pv Go.ChangeShapes Go.WideShapes Go.ChangeAt Go.RowKit
theorem ag3:ownKnob aQ.godebug=none:=by kernel_rfl
theorem ag2:laidOutB aQ=true:=by kernel_rfl
theorem Xa:aQ.cellsOf 5=1:=by kernel_rfl
theorem Nu(w:World)(ν:aW):∀xs:List Int,cR w ν 1 (iz xs) (xs.map (mP .u8))
 |[]=>by simp[iz,cR]
 |x::xs=>by simp only[iz,ek,cR];exact⟨.int .u8 x,_,rfl,⟨by simp[aT],rfl,by intro c aH;simp[mf]at aH;subst aH;rfl⟩,Nu w ν xs⟩
def IH(b o:Nat):Prop:= ∃x∈wa,x.1=b/\x.2.1=o
def tz(w:World):Prop:= ∀x∈wa,(∃v,w.cell? ⟨x.1,x.2.1,none⟩=some v/\x.2.2.2 v)/\∃el,Pv.shape w x.1=some (x.2.2.1,el)
theorem tz.lt{w:World}(h:tz w){b o:Nat}(aR:IH b o):b<w.heap.size:=by
 obtain⟨x,ad,rfl,rfl⟩:=aR;obtain⟨⟨v,aK,_⟩,_⟩:=h x ad;rcases lU x.1 w.heap.size with h|h
 ·exact h
 ·simp[World.cell?,Array.getElem?_eq_none h]at aK
theorem tz.gl{w:World}(h:tz w){ν:aW}(bq:∀b o,IH b o->ν.A b o):oc w ν:=fun x ad=>⟨bq _ _ ⟨x,ad,rfl,rfl⟩,h x ad⟩
theorem Mo{w:World}{n:String}{g:Nat}{cs:Array Value}(aR:aQ.globalNamed n=some g)(h:w.var? aQ n=some cs):∃el,Pv.shape w g=some (cs.size,el):=by
 simp only[World.var?,aR,Option.bind_some]at h;unfold Pv.shape;split at h
 ·rename_i c t fz e;cases h;rw[e];exact⟨_,rfl⟩
 ·cases h
theorem aa4{w:World}(aI:Lib.TabIs aQ w "internal/strconv.uint64pow10" .u64 Lib.pow10Tab)(au:∃u v,w.var? aQ "strconv.ErrSyntax" =some #[.iface u v])(hr:∃u v,w.var? aQ "strconv.ErrRange" =some #[.iface u v]):tz w:=by
 have my:aQ.globalNamed "internal/strconv.uint64pow10" =some 0:=by kernel_rfl
 have g1:aQ.globalNamed "strconv.ErrSyntax" =some 1:=by kernel_rfl
 have g2:aQ.globalNamed "strconv.ErrRange" =some 2:=by kernel_rfl
 obtain⟨ik,v1,I⟩:=au;obtain⟨hF,v2,J⟩:=hr;intro x ad;unfold wa at ad;rcases fM.1 ad with ad|ad
 ·obtain⟨i,aE,rfl⟩:=n8.1 ad;have aE:=List.mem_range.1 aE;refine⟨⟨_,aI.cell my i (by simpa[Lib.pow10Tab]using aE),?_⟩,?_⟩
  ·show mP .u64 _=_;rw[Lib.pow10Tab_at i aE]
  ·obtain⟨el,h⟩:=Mo my aI;exact⟨el,by simpa[Lib.pow10Tab]using h⟩
 ·simp only[gb,List.not_mem_nil,or_false]at ad;rcases ad with rfl|rfl
  ·refine⟨⟨.iface ik v1,by simpa using World.var?_cell g1 I 0,_,_,rfl⟩,?_⟩;obtain⟨el,h⟩:=Mo g1 I;exact⟨el,by simpa using h⟩
  ·refine⟨⟨.iface hF v2,by simpa using World.var?_cell g2 J 0,_,_,rfl⟩,?_⟩;obtain⟨el,h⟩:=Mo g2 J;exact⟨el,by simpa using h⟩
theorem Sn{n jH:String}{d:DataW Unit}{r:List (String×DataW Unit)}{W:World}{g:Nat}{ez:fT}{ms:Array (String×fT)}(h:laidMet aQ ((n,.iface jH d)::r) W)
  (aR:aQ.globalNamed n=some g) (aI:(aQ.globals[g]?).map (·.type)=some ez) (aE:aQ.underlying ez=some (.interface ms)):∃u v,W.var? aQ n=some #[.iface u v]:=by
 obtain⟨b2,⟨my,t0,XU,f0,Tu,KS,acj,adh,Fv,nL,_,mY⟩,_,_⟩:=h;obtain rfl:=hd (aR.symm.trans acj);obtain rfl:=hd (aI.symm.trans adh);obtain⟨FL⟩:=XU;obtain⟨_,u,v,aH,_,_⟩:=iface_of_trod aE nL;simp only at aH;subst aH;exact⟨u,v,Fv⟩
def BD(b off n:Nat):aW:=⟨fun fN o=>(fN=b/\off<=o/\o<off+n)\/IH fN o,fun _=>none,fun _=>none,fun _ _ _=>dD⟩
theorem Ip{w:World}(hm:tz w){b off n:Nat}(ao:n=0\/b<w.heap.size):∀fN o,(BD b off n).A fN o->fN<w.heap.size:=by
 rintro fN o (⟨rfl,I,J⟩|h)
 ·rcases ao with rfl|ao
  ·omega
  ·exact ao
 ·exact hm.lt h
theorem Io{w:World}(hm:tz w)(b off n:Nat):oc w (BD b off n):=hm.gl fun _ _ h=>.inr h
theorem yk(w:World)(A:Nat->Nat->Prop)(b:Nat):∀(us:List Value) (off:Nat),(∀i u,us[i]? =some u->A b (off+i)/\w.cell? ⟨b,off+i,none⟩=some u)->kx w A b off us
 |[],_,_=>trivial
 |u::us,off,h=>⟨by simpa using h 0 u rfl,yk w A b us (off+1) fun i fe hu=>by have:=h (i+1) fe (by simpa using hu);rwa[show off+(i+1)=off+1+i from by omega]at this⟩
theorem HY{f:FuncId}{fn:Func}(zI:aQ.funcs[f]? =some fn)(Yf:∀args w,(callFunc f args).run aQ w= .ok (.enter f args) w){w:World}{ν:aW}{args:List al}{vs:Array Value}(gl:oc w ν)(h:ct aQ f args (.bool true))(aI:∀k j b,¬ν.tr k j b)(bq:∀b o,ν.A b o->b<w.heap.size)(ao:∀k,ν.bx k=none)(az:∀k,ν.ow k=none)(hr:cw w ν args vs.toList):
  Calls aQ f vs w fun e w'=>e= .returned (.bool true)/\Below w.heap.size w w':=by
 have aR:Pv.Good (gn ν ⟨[],[]⟩) w ν [] []:=⟨bq,fun k cs aa=>by simp[Pv.look]at aa,fun k bz bl I=>by simp[Pv.look]at I,fun g o aa=>by simp[Pv.look]at aa,fun g eP n n' v v' bl I=>by simp[Pv.look]at I,fun g k n v bl I=>by simp[Pv.look]at I,fun k=>.inl (ao k),fun _ _ k j=>aI k j _⟩;rcases h w ν vs gl aR (fun k=>⟨fun _=>ao k,fun _=>az k,aI k⟩) hr with⟨_,aH⟩|⟨v,w',aH,_⟩
 ·refine aH.mono ?_;rintro e w' ⟨v,r,aq,ν',rfl,⟨rfl,rfl⟩,kh,_,_,_,l3⟩;simp only[aT]at kh;subst kh;refine⟨rfl,l3.os,l3.tape,l3.output,l3.size,fun k aa=>l3.block k aa ?_⟩;simp[gn,Pv.look]
 ·rw[Yf]at aH;cases aH
theorem aiE{n:Int}(h:(Lit.int .u8 n).wf=true):0<=n/\n<256:=by simp[Lit.wf,IntKind.min,IntKind.max,IntKind.signed,IntKind.bits]at h;omega
end
end Go.Proofs.YtlnndmgfngfeiaaGreatDoor
