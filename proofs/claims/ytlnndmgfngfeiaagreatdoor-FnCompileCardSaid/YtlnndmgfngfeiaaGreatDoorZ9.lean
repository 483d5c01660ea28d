/- Contracts: whether code is valid, the program's side: the loops. -/
import Derived.Test.YtlnndmgfngfeiaaGreatDoorProg
import Derived.Test.YtlnndmgfngfeiaaGreatDoorZ8
set_option linter.all false
set_option maxHeartbeats 4000000
set_option maxRecDepth 4000
open Bool renaming and_eq_true->bB,false_eq_true->iR,true_and->mD
open Go.IntKind renaming i64->iF
open Go.Proofs.Tryz renaming prog->aP
open List renaming all_eq_true->gC,cons_append->iT,eq_nil_of_length_eq_zero->l3,getElem?_append_left->mF,getElem?_append_right->rb,getElem?_eq_getElem->bO,getElem?_eq_some_iff->cX,getElem?_map->oG,getElem?_of_mem->l4,length_append->dF,length_cons->e3,length_map->qk,length_nil->nj,length_pos_iff->re,length_take->pt,map_cons->eQ,mem_append->iG,mem_map->pv,mem_of_getElem?->eR,take_add_one->jw,take_of_length_le->pw
open List.cons renaming injEq->AB
open Nat renaming eq_or_lt_of_le->k1,le_refl->da,lt_or_ge->hS,zero_add->nk
open Option renaming getD_some->rh
open Option.some renaming inj->dZ,injEq->dL
open Prod.mk renaming injEq->gp
open _root_ renaming UInt8->aF,beq_eq_false_iff_ne->jL,congrArg->fT,decide_eq_false->ly,decide_eq_true->k2,decide_eq_true_eq->ef,if_neg->bf,if_pos->bN
namespace Go.Proofs.YtlnndmgfngfeiaaGreatDoor
section
open Go Go.Pv
def jg(r:Rl):jO:=⟨r.name,r.ar,r.ar+r.loc,r.body⟩
theorem Sy(P:List Rl)(g:Gm)(n:Int):fR P g n=P.map jg++[⟨[],0,n,g⟩]:=rfl
theorem L9{is:List Ix}{es:List Ey}(h:is≠[]){x:List ag}:(∀m,(Pv.look (.obj m) (bU is es).b).isSome->(Pv.look (.obj m) [(aJ.obj 881,x)]).isSome\/aJ.obj m∉[aJ.obj 881])/\(∀m,(Pv.look (.obj m) (bU is es).e).isSome->(Pv.look (.obj m) ([]:List (aJ×dw))).isSome\/aJ.obj m∉[aJ.obj 881]):=by
 refine⟨fun m hm=>.inl ?_,fun m hm=>.inr fun J=>?_⟩
 ·simp only[bU,Pv.look]at hm⊢;split at hm
  ·rename_i e;rw[bN e];rfl
  ·cases hm
 ·simp only[List.mem_singleton,aJ.obj.injEq]at J;subst J;simp[bU,nG h,Pv.look]at hm
theorem Q3{is nE:List Ix}{es HQ:List Ey}{o:List aJ}:∀m,(Pv.look (.obj m) (bU nE HQ).b).isSome->(Pv.look (.obj m) (bU is es).b).isSome\/ .obj m∉o:=fun m h=>by
 left;simp only[bU,Pv.look]at h⊢;split at h
 ·rename_i e;rw[bN e];rfl
 ·cases h
theorem Q5{is nE:List Ix}{es HQ:List Ey}{o:List aJ}(aj: .obj 882∈o->is≠[]):∀m,(Pv.look (.obj m) (bU nE HQ).e).isSome->(Pv.look (.obj m) (bU is es).e).isSome\/ .obj m∉o:=fun m h=>by
 have J:(Pv.look (.obj m) (bU nE es).e).isSome:=by
  cases nE with
  |nil=>simp only[bU,dV,Pv.look]at h⊢;split at h;(rename_i e;rw[bN e];rfl);cases h
  |cons x xs=>
   simp only[bU,dV,Pv.look]at h⊢;split at h
   ·rename_i e;rw[bN e];rfl
   ·rename_i e;rw[bf e];exact h
 exact oi aj m J
def vi(P:List Rl)(g:Gm)(n:Int)(i:Nat)(is:List Ix):List Ey->bb
 |[]=>⟨[(2,.int .i64 n),(4,.ptr (.loc 1) 0),(6,.ptr (.loc 2) 0),(8,.ptr (.obj 881) 0),(20,.slice 7 .no (P.map Rl.e)),(21,.int .i64 P.length),(22,.int .i64 i)],[(.loc 1,Pv.cells g.e),(.loc 2,[.slice 7 .nil [],.slice 4 .nil []]),(.obj 881,[.slice 7 .nil [],.slice 4 .nil []])],[],3,[.obj 881]⟩
 |y::ys=>⟨[(2,.int .i64 n),(4,.ptr (.loc 1) 0),(6,.ptr (.loc 2) 0),(8,.ptr (.obj 881) 0),(20,.slice 7 .no (P.map Rl.e)),(21,.int .i64 P.length),(22,.int .i64 i)],[(.loc 1,Pv.cells g.e),(.loc 2,[.slice 7 .nil [],.slice 4 .nil []]),(.obj 881,[.row 7 (.obj 882) is.length,.row 4 (.obj 883) (ys.length+1)])],[(.obj 883,⟨ys.length+1,99,4,some (y.e::ys.map Ey.e)⟩),(.obj 882,⟨is.length,74,7,some (is.map Ix.e)⟩)],3,[.obj 881,.obj 883,.obj 882]⟩
theorem af6(P:List Rl)(g:Gm)(n:Int):cg aP 33 [gW P,g.e,.int .i64 n] (if w7 P g n then .tuple [(k6 P g n).e,.bool true]else .tuple [(⟨[],[]⟩:Cd).e,.bool false]):=by
 have gU:=age P g n;cases aD:w7 P g n with
 |false=>rw[aD]at gU;simp only[iR,if_false];refine bJ nO Oz R1 fun aG=>?_;unfold G3;clear aG;simp;(with_reducible repeat' first|refine aA ?_|refine aX gU ?_|refine aY gU ?_|simp);simp[b1,SG,bn,bp,bk];simp[Cd.e_eq]
 |true=>
 rw[aD]at gU;simp only[if_true];unfold w7 zY at aD;simp only[bB,ef]at aD;obtain⟨⟨⟨⟨⟨vR,oc⟩,ec,_⟩,hgf⟩,_⟩,_⟩:=aD;have dQ:g.shape=true:=by unfold Gm.fits at hgf;rw[bB]at hgf;exact hgf.1
 have aiQ:g.sz<=80:=by unfold Gm.fits at hgf;rw[bB,ef]at hgf;exact hgf.2
 simp only[il,bB,ef,gC]at ec;obtain⟨⟨ZK,_⟩,hPr⟩:=ec;have bh:∀r∈P,r.body.shape=true/\r.body.sz<=60/\0<=r.ar/\r.ar<=4/\0<=r.loc/\r.loc<=8:=fun r hr=>by have:=hPr r hr;simp only[Rl.ok,Gm.fits,bB,ef]at this;obtain⟨⟨⟨⟨⟨b9,cx⟩,dp⟩,c6⟩,cH⟩,iD⟩:=this;exact⟨c6.1,c6.2,cx.1,cx.2,dp.1,dp.2⟩
 have cn:∀x∈P.map jg,x.body.sz<=80:=fun x ad=>by obtain⟨r,hr,rfl⟩:=pv.1 ad;have:=(bh r hr).2.1;simp only[jg];omega
 have hlen:∀i,(fL ((P.map jg).take i) 0).length<=1920:=fun i=>by have:=Hw ((P.map jg).take i) 0 fun x ad=>cn x (List.mem_of_mem_take ad);rw[pt,qk]at this;omega
 refine bJ nO Oz R1 fun aG=>?_;unfold G3;clear aG;simp;(with_reducible repeat' first|refine aA ?_|refine aX gU ?_|refine aY gU ?_|simp);refine fM (fun i (_:Unit)=>vi P g n i (fL ((P.map jg).take i) 0) (jC ((P.map jg).take i) 0)) P.length (fun _ _=>True) () ?_ trivial (fun _ _ _=>?_) (fun i _ aw _ _=>?_)
 ·simp[vi,jC,fL];exact⟨by simp[fresh,ai,ak,bc,ah,Pv.look,br],cb (by simp[fresh,ai,ak,bc,ah,Pv.look,br]),cc (by simp[fresh,ai,ak,b6,ah,Pv.look,br]),Ψ⟩
 ·rw[pw Ψ];have Bw:(k6 P g n).is=fL (P.map jg) 0++fj g (fL (P.map jg) 0).length++[p9]:=by show fL (fR P g n) 0=_;rw[Sy,Hx,nk]
  have Ex:(k6 P g n).es=jC (P.map jg) 0++[⟨[],(fL (P.map jg) 0).length,0,n⟩]:=by show jC (fR P g n) 0=_;rw[Sy,Hr,nk]
  have aE:=hlen P.length;rw[pw Ψ]at aE;have EB:=A1 g;have ug:(jC (P.map jg) 0).length=P.length:=by rw[w9,qk]
  obtain⟨C,lG⟩:∃C,C=k6 P g n:=⟨_,rfl⟩;rw[<-lG]at Bw Ex⊢;have eW:C.is≠[]:=by rw[Bw];simp
  generalize oZ:fL (P.map jg) 0=is at*;generalize oX:jC (P.map jg) 0=es at*;have aiK:C.e= .agg [.slice 7 .no (C.is.map Ix.e),.slice 4 .no (C.es.map Ey.e)]:=rfl;cases es with
  |nil=>
   have Br:P=[]:=l3 (by rw[<-ug];rfl);have IL:is=[]:=by rw[<-oZ,Br];rfl
   rw[IL]at Bw Ex;have dV:=Pe [] 0 n g dQ Ω;rw[show fj g 0++[p9]=C.is by rw[Bw];simp,show [(⟨[],0,0,n⟩:Ey)]=C.es by rw[Ex];simp]at dV;have xv:P.length=0:=by rw[Br];rfl
   simp[vi];(with_reducible repeat' first|refine aA ?_|simp);refine bI.more dV ((fq.of ⟨by intro m;simp[Pv.look],by intro m;simp[Pv.look]⟩ (by simp[ai,ak,ah,Pv.look]) (by simp[ai,ak,ah,Pv.look]))) aH aH (by simp[ah,Pv.look]) ?_;rintro r aC ⟨rfl,rfl⟩;refine⟨L9 eW,?_⟩;simp only[bU,pW eW,nG eW];simp[bu,Pv.look];exact bZ
  |cons y ys=>
   have uk:is≠[]:=by rw[<-oZ];refine NR (fun e=>?_) 0;rw[e]at oX;simp[jC]at oX
   have hd:ys.length+1=P.length:=by rw[<-ug];rfl
   have dV:=Pf is (y::ys) uk (by simp only[e3];omega) [] 0 n g dQ Ω;rw[<-Bw,<-Ex]at dV;have vF:(bU is (y::ys)).b=[(.obj 881,[.row 7 (.obj 882) is.length,.row 4 (.obj 883) (ys.length+1)])]:=by simp only[bU,pW uk,e3]
   have vG:(bU is (y::ys)).e=[(.obj 883,⟨ys.length+1,99,4,some (y.e::ys.map Ey.e)⟩),(.obj 882,⟨is.length,74,7,some (is.map Ix.e)⟩)]:=by simp only[bU,nG uk,e3,eQ]
   simp[vi];(with_reducible repeat' first|refine aA ?_|simp);refine bI.more dV (hZ _ _) ?_ ?_ (by simp[ah,bU,Pv.look]) ?_
   ·rw[vF];exact aH
   ·rw[vG];exact aH
   rintro r aC ⟨rfl,rfl⟩;refine⟨⟨Q3,Q5 (fun _=>uk)⟩,?_⟩;rw[vF,vG];simp only[bU,pW eW,nG eW];simp[bu,Pv.look];exact bZ
 ·obtain⟨r,hr⟩:∃e,P[i]? =some e:=⟨_,bO aw⟩;have gg:∀h,(P[i]'h)=r:=fun h=>by rw[bO h]at hr;exact dZ hr
  have b2:aZ ((i:Int)+1):=by unfold aZ;omega
  obtain⟨fp,fI,nb,akl,SF,akm⟩:=bh r (eR hr);have o2:aZ (r.ar+r.loc):=by unfold aZ;omega
  have aE:=hlen i;have EB:=A1 r.body;have jG:(P.map jg).take (i+1)=(P.map jg).take i++[jg r]:=by rw[jw,oG,hr];rfl
  have oc:fL ((P.map jg).take (i+1)) 0=fL ((P.map jg).take i) 0++fj r.body (fL ((P.map jg).take i) 0).length++[p9]:=by rw[jG,Hx,nk];rfl
  have rR:jC ((P.map jg).take (i+1)) 0=jC ((P.map jg).take i) 0++[⟨r.name,(fL ((P.map jg).take i) 0).length,r.ar,r.ar+r.loc⟩]:=by rw[jG,Hr,nk];rfl
  have ug:(jC ((P.map jg).take i) 0).length=i:=by rw[w9,pt,qk];omega
  obtain⟨F,Ep⟩:∃F,F=fL ((P.map jg).take (i+1)) 0:=⟨_,rfl⟩;have eW:F≠[]:=by rw[Ep,oc];simp
  rw[<-Ep]at oc;generalize oZ:fL ((P.map jg).take i) 0=is at*;generalize oX:jC ((P.map jg).take i) 0=es at*;cases es with
  |nil=>
   have n8:i=0:=by rw[<-ug];rfl
   have IL:is=[]:=by rw[<-oZ,n8];rfl
   rw[IL]at oc rR;have dV:=Pe r.name r.ar (r.ar+r.loc) r.body fp Ω;rw[show fj r.body 0++[p9]=F by rw[oc];simp]at dV;simp[vi,aw,gg];(with_reducible repeat' first|refine aA ?_|simp[aw,gg,o2]);refine bI.more dV ((fq.of ⟨by intro m;simp[Pv.look],by intro m;simp[Pv.look]⟩ (by simp[ai,ak,ah,Pv.look]) (by simp[ai,ak,ah,Pv.look]))) aH aH (by simp[ah,Pv.look]) ?_;rintro dt aC ⟨rfl,rfl⟩;refine⟨L9 eW,?_⟩;simp only[bU,pW eW,nG eW];simp[bu,Pv.look];(with_reducible repeat' first|refine aA ?_|simp[b2]);refine bP.rng () aw trivial ?_;rw[<-Ep,rR];simp[vi];exact⟨by simp[fresh,ai,ak,bc,ah,Pv.look,br],cb (by simp[fresh,ai,ak,bc,ah,Pv.look,br]),cc (by simp[fresh,ai,ak,b6,ah,Pv.look,br]),Ψ⟩
  |cons y ys=>
   have uk:is≠[]:=by rw[<-oZ];refine NR (fun e=>?_) 0;rw[e]at oX;simp[jC]at oX
   have hd:ys.length+1=i:=by rw[<-ug];rfl
   have dV:=Pf is (y::ys) uk (by simp only[e3];omega) r.name r.ar (r.ar+r.loc) r.body fp Ω;rw[<-oc]at dV;have vF:(bU is (y::ys)).b=[(.obj 881,[.row 7 (.obj 882) is.length,.row 4 (.obj 883) (ys.length+1)])]:=by simp only[bU,pW uk,e3]
   have vG:(bU is (y::ys)).e=[(.obj 883,⟨ys.length+1,99,4,some (y.e::ys.map Ey.e)⟩),(.obj 882,⟨is.length,74,7,some (is.map Ix.e)⟩)]:=by simp only[bU,nG uk,e3,eQ]
   simp[vi,aw,gg];(with_reducible repeat' first|refine aA ?_|simp[aw,gg,o2]);refine bI.more dV (hZ _ _) ?_ ?_ (by simp[ah,bU,Pv.look]) ?_
   ·rw[vF];exact aH
   ·rw[vG];exact aH
   rintro dt aC ⟨rfl,rfl⟩;refine⟨⟨Q3,Q5 (fun _=>uk)⟩,?_⟩;rw[vF,vG];simp only[bU,pW eW,nG eW];simp[bu,Pv.look];(with_reducible repeat' first|refine aA ?_|simp[b2]);refine bP.rng () aw trivial ?_;rw[<-Ep,rR];simp[vi];exact⟨by simp[fresh,ai,ak,bc,ah,Pv.look,br],cb (by simp[fresh,ai,ak,bc,ah,Pv.look,br]),cc (by simp[fresh,ai,ak,b6,ah,Pv.look,br]),Ψ⟩
def wU(P:List Rl)(n:Int)(m:Nat)(k:Int)(c:bS):List Gm->bb
 |[]=>⟨[(0,.ptr (.obj 401) 0),(1,.slice 7 .no (P.map Rl.e)),(2,.int .i64 n),(3,.int .i64 m),(4,.int .i64 1),(10,.ptr (.loc 0) 0),(11,.ptr (.loc 1) 0),(12,.int .i64 k)],[(.obj 401,c.e),(.loc 0,[.int .i64 0,.str [],.slice 4 .nil [],.slice 4 .nil []]),(.loc 1,[.int .i64 7,.str [],.slice 4 .nil [],.slice 4 .nil []])],[],2,[.obj 401]⟩
 |x::xs=>⟨[(0,.ptr (.obj 401) 0),(1,.slice 7 .no (P.map Rl.e)),(2,.int .i64 n),(3,.int .i64 m),(4,.int .i64 1),(10,.ptr (.loc 0) 0),(11,.ptr (.loc 1) 0),(12,.int .i64 k)],[(.obj 401,c.e),(.loc 0,[.int .i64 0,.str [],.slice 4 .nil [],.slice 4 .nil []]),(.loc 1,[.int .i64 7,.str [],.slice 4 .nil [],.slice 4 (.own (.loc 34)) (x.e::xs.map Gm.e)])],[(.loc 34,⟨xs.length+1,65,4,none⟩)],89,[.obj 401]⟩
def vl(P:List Rl)(n:Int)(q:Int)(x:Gm)(xs:List Gm)(r:Rl)(i:Int)(c:bS):List T->bb
 |[]=>⟨[(0,.ptr (.obj 401) 0),(1,.slice 7 .no (P.map Rl.e)),(2,.int .i64 n),(3,.int .i64 q),(4,.int .i64 1),(10,.ptr (.loc 0) 0),(11,.ptr (.loc 1) 0),(13,.ptr (.loc 89) 0),(14,.ptr (.loc 90) 0),(15,.int .i64 i)],[(.obj 401,c.e),(.loc 0,[.int .i64 0,.str [],.slice 4 .nil [],.slice 4 .nil []]),(.loc 1,[.int .i64 7,.str [],.slice 4 .nil [],.slice 4 (.own (.loc 34)) (x.e::xs.map Gm.e)]),(.loc 89,Pv.cells r.e),(.loc 90,[.int .i64 9,.str r.name,.slice 4 .nil [],.slice 4 .nil []])],[(.loc 34,⟨xs.length+1,65,4,none⟩)],91,[.obj 401]⟩
 |t::ts=>⟨[(0,.ptr (.obj 401) 0),(1,.slice 7 .no (P.map Rl.e)),(2,.int .i64 n),(3,.int .i64 q),(4,.int .i64 1),(10,.ptr (.loc 0) 0),(11,.ptr (.loc 1) 0),(13,.ptr (.loc 89) 0),(14,.ptr (.loc 90) 0),(15,.int .i64 i)],[(.obj 401,c.e),(.loc 0,[.int .i64 0,.str [],.slice 4 .nil [],.slice 4 .nil []]),(.loc 1,[.int .i64 7,.str [],.slice 4 .nil [],.slice 4 (.own (.loc 34)) (x.e::xs.map Gm.e)]),(.loc 89,Pv.cells r.e),(.loc 90,[.int .i64 9,.str r.name,.slice 4 (.own (.loc 160)) (t.e::ts.map T.e),.slice 4 .nil []])],[(.loc 34,⟨xs.length+1,65,4,none⟩),(.loc 160,⟨ts.length+1,40,4,none⟩)],178,[.obj 401]⟩
def yM(P:List Rl)(n:Int)(q:Int)(c:bS)(x:Gm)(xs:List Gm):bb:=⟨[(0,.ptr (.obj 401) 0),(1,.slice 7 .no (P.map Rl.e)),(2,.int .i64 n),(3,.int .i64 q),(4,.int .i64 1),(10,.ptr (.loc 0) 0),(11,.ptr (.loc 1) 0)],[(.obj 401,c.e),(.loc 0,[.int .i64 0,.str [],.slice 4 .nil [],.slice 4 .nil []]),(.loc 1,[.int .i64 7,.str [],.slice 4 .nil [],.slice 4 (.own (.loc 34)) (x.e::xs.map Gm.e)])],[(.loc 34,⟨xs.length+1,65,4,none⟩)],89,[.obj 401]⟩
theorem Zc(P:List Rl)(gL:0<P.length)(pO:∀r∈P,0<=r.ar/\r.ar<=4)(n:Int)(aK:n<=1000000)(m:Nat)(hm:m<=1000)(c:bS)(aD:c.ok):bT aP 165 [.ptr (.obj 401) 0,.slice 7 .no (P.map Rl.e),.int .i64 n,.int .i64 m,.int .i64 1] (aL c) fun r aC=>r=(k7 P n m c).e/\aC=aL (hl P n m c).2:=by
 have ao:=cm c;have eh:=mg c aD 2;have af:=c.below_le 2 Ω;refine bT.mk mixed pk OS Sk (by simp[-az,-au]) ao.obj fun aG b5=>?_;unfold Hm;clear aG b5;unfold aL;simp[-az,-au];(with_reducible repeat' first|refine aA ?_|simp[-az,-au]);(refine bI.ob (eh) (cm _) (by unfold aL;exact aH) (by unfold aL;exact aH) (by simp[-az,-au,ah,aL,Pv.look]) ?_;rintro r aC ⟨rfl,rfl⟩;refine⟨cY _ _,?_⟩;unfold aL;simp[-az,-au,bu]);(with_reducible repeat' first|refine aA ?_|simp[-az,-au]);generalize ub:c.below 2=b at*;have fV:=aD.below 2;generalize oV:c.belowC 2=c2 at*;obtain⟨ej,rfl⟩:∃ej:Nat,b=ej:=⟨b.toNat,Ω⟩;have vH:ej<2:=Ω
 refine gZ (fun k:Nat=>wU P n m (1+ej-k) (jZ n k c2).2 (jZ n k c2).1) (fun k=>1+ej-k) (fun k=>k<=1+ej) 0 (by simp[-az,-au,wU,jZ];exact⟨by simp[-az,-au,fresh,ai,ak,bc,ah,Pv.look,dd,br],cb (by simp[-az,-au,fresh,ai,ak,bc,ah,Pv.look,dd,br]),cc (by simp[-az,-au,fresh,ai,ak,b6,ah,Pv.look,dd,br]),by simp[-az,-au]⟩) Ω ?_;intro k aa _;have ad:=Gv (n:=n) fV k;have gU:=Ph n aK _ ad;rcases hsk:jZ n k c2 with⟨l,c3⟩;rw[hsk]at gU ad;simp only at gU ad⊢;by_cases fG:k<1+ej
 ·have aO:(0:Int)<1+ej-k:=Ω
  have lf:(k:Int)<1+ej:=Ω
  have uQ:aZ (1+(ej:Int)-k-1):=by unfold aZ;omega
  have jF:l.length+1<=bA:=by have:=yq n c2 k;rw[hsk]at this;simp only at this;unfold bA;omega
  cases l with
  |nil=>simp[-az,-au,wU,aO];(with_reducible repeat' first|refine aA ?_|simp[-az,-au,aO,lf,uQ]);refine gI.ob gU (cm c3) (cm _) (cY c3 _) (by unfold aL;exact aH) (by unfold aL;exact aH) (by simp[-az,-au,ah,aL,Pv.look]) ?_;unfold aL;simp[-az,-au,bu];(with_reducible repeat' first|refine aA ?_|simp[-az,-au,aO,lf,uQ,jF]);refine bP.whl (k+1) Ω Ω ?_;simp only[jZ,hsk];simp[-az,-au,wU,show(1:Int)+ej-((k:Int)+1)=1+ej-k-1 by omega];exact⟨by simp[-az,-au,fresh,ai,ak,bc,ah,Pv.look,dd,br],cb (by simp[-az,-au,fresh,ai,ak,bc,ah,Pv.look,dd,br]),cc (by simp[-az,-au,fresh,ai,ak,b6,ah,Pv.look,dd,br]),by simp[-az,-au]⟩
  |cons a gD=>simp[-az,-au,wU,aO];(with_reducible repeat' first|refine aA ?_|simp[-az,-au,aO,lf,uQ]);refine gI.ob gU (cm c3) (cm _) (cY c3 _) (by unfold aL;exact aH) (by unfold aL;exact aH) (by simp[-az,-au,ah,aL,Pv.look]) ?_;unfold aL;simp[-az,-au,bu];(with_reducible repeat' first|refine aA ?_|simp[-az,-au,aO,lf,uQ,jF]);refine bP.whl (k+1) Ω Ω ?_;simp only[jZ,hsk];simp[-az,-au,wU,show(1:Int)+ej-((k:Int)+1)=1+ej-k-1 by omega];exact⟨by simp[-az,-au,fresh,ai,ak,bc,ah,Pv.look,dd,br],cb (by simp[-az,-au,fresh,ai,ak,bc,ah,Pv.look,dd,br]),cc (by simp[-az,-au,fresh,ai,ak,b6,ah,Pv.look,dd,br]),by simp[-az,-au]⟩
 obtain rfl:k=1+ej:=Ω
 have aE:=yq n c2 (1+ej);rw[hsk]at aE;simp only at aE;have mM:hl P n m c=ia P n m (l,c3):=by unfold hl;rw[ub,oV];simp[-az,-au,hsk]
 cases l with
 |nil=>simp[-az,-au]at aE;omega
 |cons x xs=>
 have bG:¬(0:Int)<1+ej-((1+ej:Nat):Int):=Ω
 simp[-az,-au,wU];(with_reducible repeat' first|refine aA ?_|simp[-az,-au,bG]);rw[show k7 P n m c= .mk 7 [] [] (ia P n m (x::xs,c3)).1 by unfold k7;rw[mM],mM];clear bG gU hsk aa eh af fG mM ub oV fV;simp only[e3]at aE;obtain⟨ey,PL⟩:xs.length=ej/\ej<2:=⟨Ω,by have:=vH;omega⟩;clear aE;refine gZ (fun j:Nat=>yM P n (m-j) (ia P n j (x::xs,c3)).2 x ((ia P n j (x::xs,c3)).1.drop 1)) (fun j=>m-j) (fun j=>j<=m) 0 (by simp[-az,-au,yM,ia];exact⟨by simp[-az,-au,fresh,ai,ak,bc,ah,Pv.look,dd,br],cb (by simp[-az,-au,fresh,ai,ak,bc,ah,Pv.look,dd,br]),cc (by simp[-az,-au,fresh,ai,ak,b6,ah,Pv.look,dd,br]),by simp[-az,-au]⟩) Ω ?_;intro j al _;have mT:=DH (P:=P) (n:=n) (x:=(x::xs,c3)) ad j;obtain⟨ys,bC,o5⟩:=Hq (P:=P) (n:=n) (x:=x) (xs:=xs) (c:=c3) j;rcases hcj:ia P n j (x::xs,c3)with⟨pZ,c4⟩;rw[hcj]at mT bC;simp only at mT bC⊢;subst bC;have s0:aZ ((m:Int)-j-1):=by unfold aZ;omega
 by_cases BJ:j<m;rotate_left
 ·obtain rfl:j=m:=Ω
  simp[-az,-au,yM];(with_reducible repeat' first|refine aA ?_|simp[-az,-au]);(refine ck.at (aL (c4)) (.inl rfl) (cm _) (cY _ _) (by unfold aL;exact aH) (by unfold aL;exact aH) ?_;simp[-az,-au,cz,KB,bn,bp,bk,aL]);rw[Ej];simp[-az,-au,hcj]
 have IP:(j:Int)<m:=Ω
 have IQ:(0:Int)<(m:Int)-j:=Ω
 have eh:=mg c4 mT P.length;have er:=c4.below_le P.length Ω;obtain⟨d,a7⟩:∃d:Nat,c4.below P.length=d:=⟨(c4.below P.length).toNat,Ω⟩;rw[a7]at eh er;have kz:d<P.length:=Ω
 obtain⟨r,hr,gg⟩:=gd kz;have rM:=pO r (eR hr);have Ip:qz P c4=r:=by unfold qz;rw[a7];simp[-az,-au,hr]
 have zy:=mT.below P.length;simp[-az,-au,yM];(with_reducible repeat' first|refine aA ?_|simp[-az,-au,BJ,IP,IQ,s0]);(refine bI.ob (eh) (cm _) (by unfold aL;exact aH) (by unfold aL;exact aH) (by simp[-az,-au,ah,aL,Pv.look]) ?_;rintro r aC ⟨rfl,rfl⟩;refine⟨cY _ _,?_⟩;unfold aL;simp[-az,-au,bu]);(with_reducible repeat' first|refine aA ?_|simp[-az,-au,kz,gg,hr]);refine gZ (fun i:Nat=>vl P n (m-j) x ys r i (iV n i (c4.belowC P.length)).2 (iV n i (c4.belowC P.length)).1) (fun i=>r.ar.toNat-i) (fun i=>i<=r.ar.toNat) 0 (by simp[-az,-au,vl,iV];exact⟨by simp[-az,-au,fresh,ai,ak,bc,ah,Pv.look,dd,br],cb (by simp[-az,-au,fresh,ai,ak,bc,ah,Pv.look,dd,br]),cc (by simp[-az,-au,fresh,ai,ak,b6,ah,Pv.look,dd,br]),by simp[-az,-au]⟩) Ω ?_;intro i aw _;have rX:=Du (n:=n) zy i;have h2:=Dt n (c4.belowC P.length) i;rcases eX:iV n i (c4.belowC P.length)with⟨ts,c5⟩;rw[eX]at rX h2;simp only at rX h2⊢;have eh:=mg c5 rX 4;by_cases aax:i<r.ar.toNat
 rotate_left
 ·have BG:¬(i:Int)<r.ar:=Ω
  have hK:tN P n c4= .mk 9 r.name (ts.map T.tm) []/\yW P n c4=c5:=by unfold tN yW;rw[Ip,show r.ar.toNat=i by omega,eX];exact⟨rfl,rfl⟩
  have xU:ys.length+1+1<=bA:=by unfold bA;omega
  cases ts with
  |nil=>simp[-az,-au,vl];((with_reducible repeat' first|refine aA ?_|simp[-az,-au,BG,s0,xU]|((first|apply cu|apply cw|apply cv)<;>intro h<;>try simp[-az,-au]at h))<;>(try exact cK));refine bP.whl (j+1) Ω Ω ?_;simp only[ia,hcj];rw[hK.1,hK.2];have he:(Gm.mk 9 r.name [] []).e= .agg [.int .i64 9,.str r.name,.slice 4 .no [],.slice 4 .no []]:=nt 9 r.name [] [];simp[-az,-au,yM,he,show(m:Int)-((j:Int)+1)=m-j-1 by omega];exact⟨by simp[-az,-au,fresh,ai,ak,bc,ah,Pv.look,dd,br,fX,he],cb (by simp[-az,-au,fresh,ai,ak,bc,ah,Pv.look,dd,br,fX,he]),cc (by simp[-az,-au,fresh,ai,ak,b6,ah,Pv.look,dd,br,fX,he]),by simp[-az,-au]⟩
  |cons t ts=>simp[-az,-au,vl];((with_reducible repeat' first|refine aA ?_|simp[-az,-au,BG,s0,xU]|((first|apply cu|apply cw|apply cv)<;>intro h<;>try simp[-az,-au]at h))<;>(try exact cK));refine bP.whl (j+1) Ω Ω ?_;simp only[ia,hcj];rw[hK.1,hK.2];have he:(Gm.mk 9 r.name (t.tm::ts.map T.tm) []).e= .agg [.int .i64 9,.str r.name,.slice 4 .no (t.e::ts.map T.e),.slice 4 .no []]:=nt 9 r.name (t::ts) [];simp[-az,-au,yM,he,show(m:Int)-((j:Int)+1)=m-j-1 by omega];exact⟨by simp[-az,-au,fresh,ai,ak,bc,ah,Pv.look,dd,br,fX,he],cb (by simp[-az,-au,fresh,ai,ak,bc,ah,Pv.look,dd,br,fX,he]),cc (by simp[-az,-au,fresh,ai,ak,b6,ah,Pv.look,dd,br,fX,he]),by simp[-az,-au]⟩
 have BF:(i:Int)<r.ar:=Ω
 have BH:(i:Int)<6:=Ω
 have i64:aZ ((i:Int)+1):=by unfold aZ;omega
 obtain⟨w,hw,abv,cn⟩:∃w:Nat,(c5.below 4).tdiv 3=(w:Int)/\w<=1/\(tL c5).toNat=1+w*2:=by have h:=c5.below_le 4 Ω;unfold tL;generalize c5.below 4=q at*;obtain⟨k,rfl⟩:∃k:Nat,q=k:=⟨q.toNat,Ω⟩;rcases(by omega:k=0\/k=1\/k=2\/k=3)with rfl|rfl|rfl|rfl<;>first|exact⟨0,by decide,by decide,by decide⟩|exact⟨1,by decide,by decide,by decide⟩
 have jW:=Ef n aK (1+w*2) Ω (c5.belowC 4) (rX.below 4);rw[show((1+w*2:Nat):Int)=1+(w:Int)*2 by push_cast;rfl]at jW;have tC:iF.wrap (w:Int)=w:=by rcases(by omega:w=0\/w=1)with rfl|rfl<;>rfl
 have u7:aZ ((w:Int)*2):=by unfold aZ;omega
 have u9:aZ (1+(w:Int)*2):=by unfold aZ;omega
 have ev:ts.length+1<=bA:=by unfold bA;omega
 cases ts with
 |nil=>simp[-az,-au,vl];((with_reducible repeat' first|refine aA ?_|simp[-az,-au,BF,BH,i64]|((first|apply cu|apply cw|apply cv)<;>intro h<;>try simp[-az,-au]at h))<;>(try exact cK));refine gI.ob eh (cm c5) (cm _) (cY c5 _) (by unfold aL;exact aH) (by unfold aL;exact aH) (by simp[-az,-au,ah,aL,Pv.look]) ?_;unfold aL;simp[-az,-au,bu];(with_reducible repeat' first|refine aA ?_|simp[-az,-au,hw,tC,u7,u9]);refine gI.ob jW (cm _) (cm _) (cY _ _) (by unfold aL;exact aH) (by unfold aL;exact aH) (by simp[-az,-au,ah,aL,Pv.look]) ?_;unfold aL;simp[-az,-au,bu];(with_reducible repeat' first|refine aA ?_|simp[-az,-au,hw,tC,u7,u9,i64,ev]);refine bP.whl (i+1) Ω Ω ?_;simp only[iV,eX,cn];simp[-az,-au,vl];exact⟨by simp[-az,-au,fresh,ai,ak,bc,ah,Pv.look,dd,br,fX],cb (by simp[-az,-au,fresh,ai,ak,bc,ah,Pv.look,dd,br,fX]),cc (by simp[-az,-au,fresh,ai,ak,b6,ah,Pv.look,dd,br,fX]),by simp[-az,-au]⟩
 |cons t ts=>simp[-az,-au,vl];(with_reducible repeat' first|refine aA ?_|simp[-az,-au,BF,BH,i64]);refine gI.ob eh (cm c5) (cm _) (cY c5 _) (by unfold aL;exact aH) (by unfold aL;exact aH) (by simp[-az,-au,ah,aL,Pv.look]) ?_;unfold aL;simp[-az,-au,bu];(with_reducible repeat' first|refine aA ?_|simp[-az,-au,hw,tC,u7,u9]);refine gI.ob jW (cm _) (cm _) (cY _ _) (by unfold aL;exact aH) (by unfold aL;exact aH) (by simp[-az,-au,ah,aL,Pv.look]) ?_;unfold aL;simp[-az,-au,bu];(with_reducible repeat' first|refine aA ?_|simp[-az,-au,hw,tC,u7,u9,i64,ev]);refine bP.whl (i+1) Ω Ω ?_;simp only[iV,eX,cn];simp[-az,-au,vl];exact⟨by simp[-az,-au,fresh,ai,ak,bc,ah,Pv.look,dd,br,fX],cb (by simp[-az,-au,fresh,ai,ak,bc,ah,Pv.look,dd,br,fX]),cc (by simp[-az,-au,fresh,ai,ak,b6,ah,Pv.look,dd,br,fX]),by simp[-az,-au]⟩
theorem Zd(P:List Rl)(gL:0<P.length)(pO:∀r∈P,0<=r.ar/\r.ar<=4)(c:bS)(aD:c.ok):bT aP 100 [.ptr (.obj 401) 0,gW P,.int .i64 3,.int .i64 1] (aL c) fun r aC=>r=(xp P c).1.e/\aC=aL (xp P c).2:=by
 have ao:=cm c;have nH:=Zc P gL pO 3 Ω 1 Ω c aD;have ad:=DK (P:=P) (n:=3) (m:=1) aD;have jI:=H8 _ ad 4;unfold xp;have hlen:0<(hl P 3 1 c).1.length/\(hl P 3 1 c).1.length<=10:=by have af:=c.below_le 2 Ω;unfold hl ia;rcases eu:jZ 3 (1+(c.below 2).toNat) (c.belowC 2)with⟨l,cJ⟩;have:=yq 3 (c.belowC 2) (1+(c.below 2).toNat);rw[eu]at this;simp only at this;simp only[ia,dF,List.length_singleton,this];omega
 unfold k7 at nH⊢;rcases mM:hl P 3 1 c with⟨l,cJ⟩;rw[mM]at nH jI hlen;simp only at nH jI hlen⊢;clear ad;obtain⟨cQ,y,rfl⟩:∃cQ y,l=cQ++[y]:=by
  rcases List.eq_nil_or_concat l with h|⟨cQ,y,h⟩
  ·rw[h]at hlen;simp[-az,-au]at hlen
  ·exact⟨cQ,y,by simpa using h⟩
 rw[Ej]at nH;have j9:cQ.length<=10:=by rw[dF,List.length_singleton]at hlen;omega
 have e:List.map Gm.e cQ++[y.e]=List.map Gm.e (cQ++[y]):=by simp[-az,-au]
 have lN:∀h,((cQ++[y])[cQ.length]'h)=y:=fun h=>by simp[-az,-au]
 by_cases bD:cJ.below 4=0
 ·rw[bN bD];have rJ:(cJ.below 4==0)=true:=by simpa using bD
  rw[rJ]at jI;refine bT.mk mixed pk OT Sl (by simp[-az,-au]) ao.obj fun aG b5=>?_;unfold Hn;clear aG b5;unfold aL;simp[-az,-au];(refine bI.ob (nH) (cm _) (by unfold aL;exact aH) (by unfold aL;exact aH) (by simp[-az,-au,ah,aL,Pv.look]) ?_;rintro r aC ⟨rfl,rfl⟩;refine⟨cY _ _,?_⟩;unfold aL;simp[-az,-au,bu]);(with_reducible repeat' first|refine aA ?_|simp[-az,-au]);(refine bI.ob (jI) (cm _) (by unfold aL;exact aH) (by unfold aL;exact aH) (by simp[-az,-au,ah,aL,Pv.look]) ?_;rintro r aC ⟨rfl,rfl⟩;refine⟨cY _ _,?_⟩;unfold aL;simp[-az,-au,bu]);(with_reducible repeat' first|refine aA ?_|simp[-az,-au]);rw[Ej];(refine ck.at (aL ((cJ.belowC 4))) (.inl rfl) (cm _) (cY _ _) (by unfold aL;exact aH) (by unfold aL;exact aH) ?_;simp[-az,-au,cz,KD,bn,bp,bk,aL]);exact⟨by rw[e,TM,acd];trivial,by rw[e,TM]⟩
 ·rw[bf bD];have rJ:(cJ.below 4==0)=false:=by simpa using bD
  rw[rJ]at jI;rw[show(cQ++[y]).getLastD dN=y by simp];refine bT.mk mixed pk OT Sl (by simp[-az,-au]) ao.obj fun aG b5=>?_;unfold Hn;clear aG b5;unfold aL;simp[-az,-au];(refine bI.ob (nH) (cm _) (by unfold aL;exact aH) (by unfold aL;exact aH) (by simp[-az,-au,ah,aL,Pv.look]) ?_;rintro r aC ⟨rfl,rfl⟩;refine⟨cY _ _,?_⟩;unfold aL;simp[-az,-au,bu]);(with_reducible repeat' first|refine aA ?_|simp[-az,-au]);(refine bI.ob (jI) (cm _) (by unfold aL;exact aH) (by unfold aL;exact aH) (by simp[-az,-au,ah,aL,Pv.look]) ?_;rintro r aC ⟨rfl,rfl⟩;refine⟨cY _ _,?_⟩;unfold aL;simp[-az,-au,bu]);(with_reducible repeat' first|refine aA ?_|simp[-az,-au,lN]);(refine ck.at (aL ((cJ.belowC 4))) (.inl rfl) (cm _) (cY _ _) (by unfold aL;exact aH) (by unfold aL;exact aH) ?_;simp[-az,-au,cz,KD,bn,bp,bk,aL])
theorem aga(d:List Int)(a7:rp d)(aE:d.length<=10000000)(n:Nat)(aK:n<=1000000)(P:List Rl)(gL:0<P.length)(pO:∀r∈P,0<=r.ar/\r.ar<=4):cg aP 32 [.slice 1 .no (h1 d),.int .i64 n,gW P,.int .i64 1] (xp P (ku d n)).1.e:=by have e0:=Zd P gL pO _ (DO a7 aE n);have ec:∀c,fq (aL c):=cm;refine bJ pk X0 adP fun aG=>?_;unfold M5;clear aG;simp[-az,-au];refine gI.new (m:=401) (cs:=(ku d n).e) (Ia d a7 aE n aK) (by simp[-az,-au]) (by simp[-az,-au]) (by simp[-az,-au]) (by simp[-az,-au]) ?_;simp[-az,-au];(with_reducible repeat' first|refine aA ?_|simp[-az,-au]);refine gI.ob e0 (cm _) (cm _) (cY _ _) (by unfold aL;exact aH) (by unfold aL;exact aH) (by simp[-az,-au,ah,aL,Pv.look]) ?_;unfold aL;simp[-az,-au,bu];exact bZ
def k5(P:List Rl)(c:bS):dM:=⟨[(.obj 401,c.e)],[(.obj 402,⟨P.length,86,7,some (P.map Rl.e)⟩)]⟩
theorem AN(P:List Rl)(c:bS):fq (k5 P c):=by unfold k5;exact fq.of ⟨by intro m;simp[-az,-au,Pv.look],by intro m;simp[-az,-au,Pv.look]⟩ (by simp[-az,-au,dd,ah,Pv.look]) (by simp[-az,-au,ai,ak,ah,Pv.look])
theorem GO(P:List Rl)(c d:bS):fJ (k5 P c) (k5 P d):=by refine⟨fun k=>?_,fun k=>rfl⟩;simp only[k5,Pv.look];split<;>rfl
def wO(P:List Rl)(n:Int)(m:Nat)(k:Int)(c:bS):List Gm->bb
 |[]=>⟨[(0,.ptr (.obj 401) 0),(1,.row 7 (.obj 402) P.length),(2,.int .i64 n),(3,.int .i64 m),(4,.int .i64 1),(10,.ptr (.loc 0) 0),(11,.ptr (.loc 1) 0),(12,.int .i64 k)],[(.obj 401,c.e),(.loc 0,[.int .i64 0,.str [],.slice 4 .nil [],.slice 4 .nil []]),(.loc 1,[.int .i64 7,.str [],.slice 4 .nil [],.slice 4 .nil []])],[(.obj 402,⟨P.length,86,7,some (P.map Rl.e)⟩)],2,[.obj 401,.obj 402]⟩
 |x::xs=>⟨[(0,.ptr (.obj 401) 0),(1,.row 7 (.obj 402) P.length),(2,.int .i64 n),(3,.int .i64 m),(4,.int .i64 1),(10,.ptr (.loc 0) 0),(11,.ptr (.loc 1) 0),(12,.int .i64 k)],[(.obj 401,c.e),(.loc 0,[.int .i64 0,.str [],.slice 4 .nil [],.slice 4 .nil []]),(.loc 1,[.int .i64 7,.str [],.slice 4 .nil [],.slice 4 (.own (.loc 34)) (x.e::xs.map Gm.e)])],[(.obj 402,⟨P.length,86,7,some (P.map Rl.e)⟩),(.loc 34,⟨xs.length+1,65,4,none⟩)],89,[.obj 401,.obj 402]⟩
def vf(P:List Rl)(n:Int)(q:Int)(x:Gm)(xs:List Gm)(r:Rl)(i:Int)(c:bS):List T->bb
 |[]=>⟨[(0,.ptr (.obj 401) 0),(1,.row 7 (.obj 402) P.length),(2,.int .i64 n),(3,.int .i64 q),(4,.int .i64 1),(10,.ptr (.loc 0) 0),(11,.ptr (.loc 1) 0),(13,.ptr (.loc 89) 0),(14,.ptr (.loc 90) 0),(15,.int .i64 i)],[(.obj 401,c.e),(.loc 0,[.int .i64 0,.str [],.slice 4 .nil [],.slice 4 .nil []]),(.loc 1,[.int .i64 7,.str [],.slice 4 .nil [],.slice 4 (.own (.loc 34)) (x.e::xs.map Gm.e)]),(.loc 89,Pv.cells r.e),(.loc 90,[.int .i64 9,.str r.name,.slice 4 .nil [],.slice 4 .nil []])],[(.obj 402,⟨P.length,86,7,some (P.map Rl.e)⟩),(.loc 34,⟨xs.length+1,65,4,none⟩)],91,[.obj 401,.obj 402]⟩
 |t::ts=>⟨[(0,.ptr (.obj 401) 0),(1,.row 7 (.obj 402) P.length),(2,.int .i64 n),(3,.int .i64 q),(4,.int .i64 1),(10,.ptr (.loc 0) 0),(11,.ptr (.loc 1) 0),(13,.ptr (.loc 89) 0),(14,.ptr (.loc 90) 0),(15,.int .i64 i)],[(.obj 401,c.e),(.loc 0,[.int .i64 0,.str [],.slice 4 .nil [],.slice 4 .nil []]),(.loc 1,[.int .i64 7,.str [],.slice 4 .nil [],.slice 4 (.own (.loc 34)) (x.e::xs.map Gm.e)]),(.loc 89,Pv.cells r.e),(.loc 90,[.int .i64 9,.str r.name,.slice 4 (.own (.loc 160)) (t.e::ts.map T.e),.slice 4 .nil []])],[(.obj 402,⟨P.length,86,7,some (P.map Rl.e)⟩),(.loc 34,⟨xs.length+1,65,4,none⟩),(.loc 160,⟨ts.length+1,40,4,none⟩)],178,[.obj 401,.obj 402]⟩
def yJ(P:List Rl)(n:Int)(q:Int)(c:bS)(x:Gm)(xs:List Gm):bb:=⟨[(0,.ptr (.obj 401) 0),(1,.row 7 (.obj 402) P.length),(2,.int .i64 n),(3,.int .i64 q),(4,.int .i64 1),(10,.ptr (.loc 0) 0),(11,.ptr (.loc 1) 0)],[(.obj 401,c.e),(.loc 0,[.int .i64 0,.str [],.slice 4 .nil [],.slice 4 .nil []]),(.loc 1,[.int .i64 7,.str [],.slice 4 .nil [],.slice 4 (.own (.loc 34)) (x.e::xs.map Gm.e)])],[(.obj 402,⟨P.length,86,7,some (P.map Rl.e)⟩),(.loc 34,⟨xs.length+1,65,4,none⟩)],89,[.obj 401,.obj 402]⟩
theorem Pj(P:List Rl)(gL:0<P.length)(pO:∀r∈P,0<=r.ar/\r.ar<=4)(n:Int)(aK:n<=1000000)(m:Nat)(hm:m<=1000)(c:bS)(aD:c.ok):bT aP 165 [.ptr (.obj 401) 0,.row 7 (.obj 402) P.length,.int .i64 n,.int .i64 m,.int .i64 1] (k5 P c) fun r aC=>r=(k7 P n m c).e/\aC=k5 P (hl P n m c).2:=by
 have ao:=AN P c;have eh:=mg c aD 2;have af:=c.below_le 2 Ω;refine bT.mk mixed pk OS Sk (by simp[-az,-au]) ao.obj fun aG b5=>?_;unfold Hm;clear aG b5;unfold k5;simp[-az,-au];(with_reducible repeat' first|refine aA ?_|simp[-az,-au]);(refine bI.ob (eh) (cm _) (by unfold aL;exact aH) (by unfold aL;exact aH) (by simp[-az,-au,ah,aL,Pv.look]) ?_;rintro r aC ⟨rfl,rfl⟩;refine⟨cY _ _,?_⟩;unfold aL;simp[-az,-au,bu]);(with_reducible repeat' first|refine aA ?_|simp[-az,-au]);generalize ub:c.below 2=b at*;have fV:=aD.below 2;generalize oV:c.belowC 2=c2 at*;obtain⟨ej,rfl⟩:∃ej:Nat,b=ej:=⟨b.toNat,Ω⟩;have vH:ej<2:=Ω
 refine gZ (fun k:Nat=>wO P n m (1+ej-k) (jZ n k c2).2 (jZ n k c2).1) (fun k=>1+ej-k) (fun k=>k<=1+ej) 0 (by simp[-az,-au,wO,jZ];exact⟨by simp[-az,-au,fresh,ai,ak,bc,ah,Pv.look,dd,br],cb (by simp[-az,-au,fresh,ai,ak,bc,ah,Pv.look,dd,br]),cc (by simp[-az,-au,fresh,ai,ak,b6,ah,Pv.look,dd,br]),by simp[-az,-au]⟩) Ω ?_;intro k aa _;have ad:=Gv (n:=n) fV k;have gU:=Ph n aK _ ad;rcases hsk:jZ n k c2 with⟨l,c3⟩;rw[hsk]at gU ad;simp only at gU ad⊢;by_cases fG:k<1+ej
 ·have aO:(0:Int)<1+ej-k:=Ω
  have lf:(k:Int)<1+ej:=Ω
  have uQ:aZ (1+(ej:Int)-k-1):=by unfold aZ;omega
  have jF:l.length+1<=bA:=by have:=yq n c2 k;rw[hsk]at this;simp only at this;unfold bA;omega
  cases l with
  |nil=>simp[-az,-au,wO,aO];(with_reducible repeat' first|refine aA ?_|simp[-az,-au,aO,lf,uQ]);refine gI.ob gU (cm c3) (cm _) (cY c3 _) (by unfold aL;exact aH) (by unfold aL;exact aH) (by simp[-az,-au,ah,aL,Pv.look]) ?_;unfold aL;simp[-az,-au,bu];(with_reducible repeat' first|refine aA ?_|simp[-az,-au,aO,lf,uQ,jF]);refine bP.whl (k+1) Ω Ω ?_;simp only[jZ,hsk];simp[-az,-au,wO,show(1:Int)+ej-((k:Int)+1)=1+ej-k-1 by omega];exact⟨by simp[-az,-au,fresh,ai,ak,bc,ah,Pv.look,dd,br],cb (by simp[-az,-au,fresh,ai,ak,bc,ah,Pv.look,dd,br]),cc (by simp[-az,-au,fresh,ai,ak,b6,ah,Pv.look,dd,br]),by simp[-az,-au]⟩
  |cons a gD=>simp[-az,-au,wO,aO];(with_reducible repeat' first|refine aA ?_|simp[-az,-au,aO,lf,uQ]);refine gI.ob gU (cm c3) (cm _) (cY c3 _) (by unfold aL;exact aH) (by unfold aL;exact aH) (by simp[-az,-au,ah,aL,Pv.look]) ?_;unfold aL;simp[-az,-au,bu];(with_reducible repeat' first|refine aA ?_|simp[-az,-au,aO,lf,uQ,jF]);refine bP.whl (k+1) Ω Ω ?_;simp only[jZ,hsk];simp[-az,-au,wO,show(1:Int)+ej-((k:Int)+1)=1+ej-k-1 by omega];exact⟨by simp[-az,-au,fresh,ai,ak,bc,ah,Pv.look,dd,br],cb (by simp[-az,-au,fresh,ai,ak,bc,ah,Pv.look,dd,br]),cc (by simp[-az,-au,fresh,ai,ak,b6,ah,Pv.look,dd,br]),by simp[-az,-au]⟩
 obtain rfl:k=1+ej:=Ω
 have aE:=yq n c2 (1+ej);rw[hsk]at aE;simp only at aE;have mM:hl P n m c=ia P n m (l,c3):=by unfold hl;rw[ub,oV];simp[-az,-au,hsk]
 cases l with
 |nil=>simp[-az,-au]at aE;omega
 |cons x xs=>
 have bG:¬(0:Int)<1+ej-((1+ej:Nat):Int):=Ω
 simp[-az,-au,wO];(with_reducible repeat' first|refine aA ?_|simp[-az,-au,bG]);rw[show k7 P n m c= .mk 7 [] [] (ia P n m (x::xs,c3)).1 by unfold k7;rw[mM],mM];clear bG gU hsk aa eh af fG mM ub oV fV;simp only[e3]at aE;obtain⟨ey,PL⟩:xs.length=ej/\ej<2:=⟨Ω,by have:=vH;omega⟩;clear aE;refine gZ (fun j:Nat=>yJ P n (m-j) (ia P n j (x::xs,c3)).2 x ((ia P n j (x::xs,c3)).1.drop 1)) (fun j=>m-j) (fun j=>j<=m) 0 (by simp[-az,-au,yJ,ia];exact⟨by simp[-az,-au,fresh,ai,ak,bc,ah,Pv.look,dd,br],cb (by simp[-az,-au,fresh,ai,ak,bc,ah,Pv.look,dd,br]),cc (by simp[-az,-au,fresh,ai,ak,b6,ah,Pv.look,dd,br]),by simp[-az,-au]⟩) Ω ?_;intro j al _;have mT:=DH (P:=P) (n:=n) (x:=(x::xs,c3)) ad j;obtain⟨ys,bC,o5⟩:=Hq (P:=P) (n:=n) (x:=x) (xs:=xs) (c:=c3) j;rcases hcj:ia P n j (x::xs,c3)with⟨pZ,c4⟩;rw[hcj]at mT bC;simp only at mT bC⊢;subst bC;have s0:aZ ((m:Int)-j-1):=by unfold aZ;omega
 by_cases BJ:j<m;rotate_left
 ·obtain rfl:j=m:=Ω
  simp[-az,-au,yJ];(with_reducible repeat' first|refine aA ?_|simp[-az,-au]);(refine ck.at (k5 P c4) (.inl rfl) (AN P _) (GO P _ _) (by unfold k5;exact aH) (by unfold k5;exact aH) ?_;simp[-az,-au,cz,KB,bn,bp,bk,k5]);rw[Ej];simp[-az,-au,hcj]
 have IP:(j:Int)<m:=Ω
 have IQ:(0:Int)<(m:Int)-j:=Ω
 have eh:=mg c4 mT P.length;have er:=c4.below_le P.length Ω;obtain⟨d,a7⟩:∃d:Nat,c4.below P.length=d:=⟨(c4.below P.length).toNat,Ω⟩;rw[a7]at eh er;have kz:d<P.length:=Ω
 obtain⟨r,hr,gg⟩:=gd kz;have rM:=pO r (eR hr);have Ip:qz P c4=r:=by unfold qz;rw[a7];simp[-az,-au,hr]
 have zy:=mT.below P.length;simp[-az,-au,yJ];(with_reducible repeat' first|refine aA ?_|simp[-az,-au,BJ,IP,IQ,s0]);(refine bI.ob (eh) (cm _) (by unfold aL;exact aH) (by unfold aL;exact aH) (by simp[-az,-au,ah,aL,Pv.look]) ?_;rintro r aC ⟨rfl,rfl⟩;refine⟨cY _ _,?_⟩;unfold aL;simp[-az,-au,bu]);(with_reducible repeat' first|refine aA ?_|simp[-az,-au,kz,gg,hr]);refine gZ (fun i:Nat=>vf P n (m-j) x ys r i (iV n i (c4.belowC P.length)).2 (iV n i (c4.belowC P.length)).1) (fun i=>r.ar.toNat-i) (fun i=>i<=r.ar.toNat) 0 (by simp[-az,-au,vf,iV];exact⟨by simp[-az,-au,fresh,ai,ak,bc,ah,Pv.look,dd,br],cb (by simp[-az,-au,fresh,ai,ak,bc,ah,Pv.look,dd,br]),cc (by simp[-az,-au,fresh,ai,ak,b6,ah,Pv.look,dd,br]),by simp[-az,-au]⟩) Ω ?_;intro i aw _;have rX:=Du (n:=n) zy i;have h2:=Dt n (c4.belowC P.length) i;rcases eX:iV n i (c4.belowC P.length)with⟨ts,c5⟩;rw[eX]at rX h2;simp only at rX h2⊢;have eh:=mg c5 rX 4;by_cases aax:i<r.ar.toNat
 rotate_left
 ·have BG:¬(i:Int)<r.ar:=Ω
  have hK:tN P n c4= .mk 9 r.name (ts.map T.tm) []/\yW P n c4=c5:=by unfold tN yW;rw[Ip,show r.ar.toNat=i by omega,eX];exact⟨rfl,rfl⟩
  have xU:ys.length+1+1<=bA:=by unfold bA;omega
  cases ts with
  |nil=>simp[-az,-au,vf];(with_reducible repeat' first|refine aA ?_|simp[-az,-au,BG,s0,xU]);refine bP.whl (j+1) Ω Ω ?_;simp only[ia,hcj];rw[hK.1,hK.2];have he:(Gm.mk 9 r.name [] []).e= .agg [.int .i64 9,.str r.name,.slice 4 .no [],.slice 4 .no []]:=nt 9 r.name [] [];simp[-az,-au,yJ,he,show(m:Int)-((j:Int)+1)=m-j-1 by omega];exact⟨by simp[-az,-au,fresh,ai,ak,bc,ah,Pv.look,dd,br,fX,he],cb (by simp[-az,-au,fresh,ai,ak,bc,ah,Pv.look,dd,br,fX,he]),cc (by simp[-az,-au,fresh,ai,ak,b6,ah,Pv.look,dd,br,fX,he]),by simp[-az,-au]⟩
  |cons t ts=>simp[-az,-au,vf];(with_reducible repeat' first|refine aA ?_|simp[-az,-au,BG,s0,xU]);refine bP.whl (j+1) Ω Ω ?_;simp only[ia,hcj];rw[hK.1,hK.2];have he:(Gm.mk 9 r.name (t.tm::ts.map T.tm) []).e= .agg [.int .i64 9,.str r.name,.slice 4 .no (t.e::ts.map T.e),.slice 4 .no []]:=nt 9 r.name (t::ts) [];simp[-az,-au,yJ,he,show(m:Int)-((j:Int)+1)=m-j-1 by omega];exact⟨by simp[-az,-au,fresh,ai,ak,bc,ah,Pv.look,dd,br,fX,he],cb (by simp[-az,-au,fresh,ai,ak,bc,ah,Pv.look,dd,br,fX,he]),cc (by simp[-az,-au,fresh,ai,ak,b6,ah,Pv.look,dd,br,fX,he]),by simp[-az,-au]⟩
 have BF:(i:Int)<r.ar:=Ω
 have BH:(i:Int)<6:=Ω
 have i64:aZ ((i:Int)+1):=by unfold aZ;omega
 obtain⟨w,hw,abv,cn⟩:∃w:Nat,(c5.below 4).tdiv 3=(w:Int)/\w<=1/\(tL c5).toNat=1+w*2:=by have h:=c5.below_le 4 Ω;unfold tL;generalize c5.below 4=q at*;obtain⟨k,rfl⟩:∃k:Nat,q=k:=⟨q.toNat,Ω⟩;rcases(by omega:k=0\/k=1\/k=2\/k=3)with rfl|rfl|rfl|rfl<;>first|exact⟨0,by decide,by decide,by decide⟩|exact⟨1,by decide,by decide,by decide⟩
 have jW:=Ef n aK (1+w*2) Ω (c5.belowC 4) (rX.below 4);rw[show((1+w*2:Nat):Int)=1+(w:Int)*2 by push_cast;rfl]at jW;have tC:iF.wrap (w:Int)=w:=by rcases(by omega:w=0\/w=1)with rfl|rfl<;>rfl
 have u7:aZ ((w:Int)*2):=by unfold aZ;omega
 have u9:aZ (1+(w:Int)*2):=by unfold aZ;omega
 have ev:ts.length+1<=bA:=by unfold bA;omega
 cases ts with
 |nil=>simp[-az,-au,vf];(with_reducible repeat' first|refine aA ?_|simp[-az,-au,BF,BH,i64]);refine gI.ob eh (cm c5) (cm _) (cY c5 _) (by unfold aL;exact aH) (by unfold aL;exact aH) (by simp[-az,-au,ah,aL,Pv.look]) ?_;unfold aL;simp[-az,-au,bu];(with_reducible repeat' first|refine aA ?_|simp[-az,-au,hw,tC,u7,u9]);refine gI.ob jW (cm _) (cm _) (cY _ _) (by unfold aL;exact aH) (by unfold aL;exact aH) (by simp[-az,-au,ah,aL,Pv.look]) ?_;unfold aL;simp[-az,-au,bu];(with_reducible repeat' first|refine aA ?_|simp[-az,-au,hw,tC,u7,u9,i64,ev]);refine bP.whl (i+1) Ω Ω ?_;simp only[iV,eX,cn];simp[-az,-au,vf];exact⟨by simp[-az,-au,fresh,ai,ak,bc,ah,Pv.look,dd,br,fX],cb (by simp[-az,-au,fresh,ai,ak,bc,ah,Pv.look,dd,br,fX]),cc (by simp[-az,-au,fresh,ai,ak,b6,ah,Pv.look,dd,br,fX]),by simp[-az,-au]⟩
 |cons t ts=>simp[-az,-au,vf];(with_reducible repeat' first|refine aA ?_|simp[-az,-au,BF,BH,i64]);refine gI.ob eh (cm c5) (cm _) (cY c5 _) (by unfold aL;exact aH) (by unfold aL;exact aH) (by simp[-az,-au,ah,aL,Pv.look]) ?_;unfold aL;simp[-az,-au,bu];(with_reducible repeat' first|refine aA ?_|simp[-az,-au,hw,tC,u7,u9]);refine gI.ob jW (cm _) (cm _) (cY _ _) (by unfold aL;exact aH) (by unfold aL;exact aH) (by simp[-az,-au,ah,aL,Pv.look]) ?_;unfold aL;simp[-az,-au,bu];(with_reducible repeat' first|refine aA ?_|simp[-az,-au,hw,tC,u7,u9,i64,ev]);refine bP.whl (i+1) Ω Ω ?_;simp only[iV,eX,cn];simp[-az,-au,vf];exact⟨by simp[-az,-au,fresh,ai,ak,bc,ah,Pv.look,dd,br,fX],cb (by simp[-az,-au,fresh,ai,ak,bc,ah,Pv.look,dd,br,fX]),cc (by simp[-az,-au,fresh,ai,ak,b6,ah,Pv.look,dd,br,fX]),by simp[-az,-au]⟩
/-What is drawn. -/
theorem U7(k:Int)(bD:0<=k)(I:k<7):(wX k).ok=true/\(∀v,(wX k).occ v=false)/\(wX k).size=1:=by obtain⟨n,rfl⟩:∃n:Nat,k=n:=⟨k.toNat,Ω⟩;rcases(by omega:n=0\/n=1\/n=2\/n=3\/n=4\/n=5\/n=6)with rfl|rfl|rfl|rfl|rfl|rfl|rfl<;>refine⟨?_,fun v=>?_,?_⟩<;>first|rfl|decide
theorem Wo(vars:Int)(aS:vars<=100001)(n:Nat):∀c:bS,(eI n vars c).1.ok=true/\(∀v,(eI n vars c).1.occ v=true->0<=v/\v<vars)/\(eI n vars c).1.size<=2*n-1+(if n=0 then 1 else 0):=by
 induction n using Nat.strongRecOn with
 |ind n a8=>
  intro c;have dD:=c.next.below_le 7 Ω;rw[eI];split
  ·rename_i h;obtain⟨bV,a2,a3⟩:=a8 (n/2) Ω c.next;obtain⟨bQ,b3,eV⟩:=a8 (n/2) Ω (eI (n/2) vars c.next).2;refine⟨by simp[T.ok,bV,bQ],fun v aS=>?_,?_⟩
   ·simp only[T.occ,Bool.or_eq_true]at aS;rcases aS with aS|aS
    ·exact a2 v aS
    ·exact b3 v aS
   ·simp only[T.size];split at a3<;>split at eV<;>split<;>omega
  ·split
   ·rename_i h;have:=c.next.below_le vars h.1;refine⟨by simp[T.ok];omega,fun v aS=>?_,by simp only[T.size];split<;>omega⟩;simp[T.occ]at aS;omega
   ·obtain⟨bV,a2,a3⟩:=U7 _ dD.1 dD.2;refine⟨bV,fun v aS=>?_,?_⟩
    ·simp only[a2 v]at aS;cases aS
    ·simp only[a3];split<;>omega
theorem LL{v:Int}:∀t:T,v∈t.tm.vs->t.occ v=true
 | .var n,h=>by simp[T.tm,ba.vs]at h;simp[T.occ,h]
 | .pair a b,h=>by
  have:(T.pair a b).tm.vs=a.tm.vs++b.tm.vs:=by simp[T.tm,ba.vs,ba.vsL]
  rw[this,iG]at h;simp only[T.occ,Bool.or_eq_true];exact h.imp (LL a) (LL b)
 | .nil,h=>by simp[T.tm,ba.vs,ba.vsL]at h
 | .sym _,h=>by simp[T.tm,ba.vs,ba.vsL]at h
 | .num _,h=>by simp[T.tm,ba.vs,ba.vsL]at h
theorem LK{v:Int}:∀{l:List T},v∈ba.vsL (l.map T.tm)->∃t∈l,v∈t.tm.vs
 |x::l,h=>by
  simp only[eQ,ba.vsL,iG]at h;rcases h with h|h
  ·exact⟨x,Ψ,h⟩
  ·obtain⟨t,aI,aS⟩:=LK h;exact⟨t,by simp[aI],aS⟩
theorem HH{n:Int}(aK:n<=100001){z:Nat}(cn:z<=4)(c:bS):(eI z n c).1.tm.fits=true/\∀v∈(eI z n c).1.tm.vs,v<n:=by obtain⟨I,J,av⟩:=Wo n aK z c;refine⟨?_,fun v aS=>(J v (LL _ aS)).2⟩;rw[ba.fits_T,T.fit,I,mD,ef];split at av<;>omega
structure kI (F:List Rl) (n:Int) (g:Gm):Prop where
 sh:g.shape=true
 vb:∀v∈g.vs,v<n
 cf:g.cf F=true
 nn:nI g=true
theorem kI.list{F:List Rl}{n:Int}:∀{l:List Gm},(∀x∈l,kI F n x)->qc l=true/\(∀v∈Gm.vsL l,v<n)/\Gm.cfL F l=true/\r6 l=true
 |[],_=>⟨rfl,fun v h=>by simp[Gm.vsL]at h,rfl,rfl⟩
 |x::l,h=>by obtain⟨bV,a2,a3,a4⟩:=h x Ψ;obtain⟨bQ,b3,eV,l7⟩:=kI.list (l:=l) fun y bC=>h y (by simp[bC]);refine⟨by simp[qc,bV,bQ],fun v aS=>?_,by simp[Gm.cfL,a3,eV],by simp[r6,a4,l7]⟩;simp only[Gm.vsL,iG]at aS;exact aS.elim (a2 v) (b3 v)
theorem kI.and{F:List Rl}{n:Int}{l:List Gm}(k:Int)(aa:k=7\/k=8)(h:∀x∈l,kI F n x)(aE:l.length<=8):kI F n (.mk k [] [] l):=by
 obtain⟨bQ,b3,eV,l7⟩:=kI.list h;refine⟨?_,fun v aS=>?_,?_,?_⟩
 ·simp only[Gm.shape];rw[bf Ω,bf Ω,bN aa];simp[bQ,aE]
 ·simp only[Gm.vs,ba.vsL,List.nil_append]at aS;exact b3 v aS
 ·simp only[Gm.cf];rw[bf Ω];exact eV
 ·simp only[nI,l7,Bool.and_true,bne_iff_ne];omega
theorem aft{F:List Rl}{n dR:Int}{a b:T}(bD:0<=dR)(ch:dR<=6)(b4:a.tm.fits=true/\∀v∈a.tm.vs,v<n)(af:b.tm.fits=true/\∀v∈b.tm.vs,v<n):kI F n (tu dR a b):=by
 have ao:(T.sym [97]).tm.fits=true:=by rw[ba.fits_T];rfl
 have abo:(T.sym [97]).tm.vs=[]:=rfl;have aa:(T.sym [97]).tm.kind=2:=rfl;have hm:∀t∈Ao dR a b,t.tm.fits=true/\∀v∈t.tm.vs,v<n:=by
  intro t aI;unfold Ao at aI;repeat' split at aI
  all_goals simp at aI
  ·rcases aI with rfl|rfl
   ·exact b4
   ·exact af
  ·rcases aI with rfl|rfl
   ·exact b4
   ·exact af
  ·subst aI;exact b4
  ·subst aI;exact b4
  ·rcases aI with rfl|rfl
   ·exact⟨ao,fun v aS=>by rw[abo]at aS;simp at aS⟩
   ·exact af
 unfold tu;refine⟨?_,fun v aS=>?_,?_,?_⟩
 ·simp only[Gm.shape];rw[bN Ω];have I:((Ao dR a b).map T.tm).all ba.fits=true:=by rw[gC];intro x ad;obtain⟨t,aI,rfl⟩:=pv.1 ad;exact(hm t aI).1
  rw[I];rcases(by omega:dR=0\/dR=1\/dR=2\/dR=3\/dR=4\/dR=5\/dR=6)with rfl|rfl|rfl|rfl|rfl|rfl|rfl<;>simp[Ao,kU,aa]
 ·simp only[Gm.vs,Gm.vsL,List.append_nil]at aS;obtain⟨t,aI,aS⟩:=LK aS;exact(hm t aI).2 v aS
 ·simp only[Gm.cf];rw[bf Ω];rfl
 ·simp only[nI,r6,Bool.and_true,bne_iff_ne];omega
theorem afH{F:List Rl}{n:Int}(aK:n<=100001)(c:bS):kI F n (Gu n c):=by have aa:=afu (k:=(eI 4 n (eI 1 n c).2).2.below 16) (((eI 4 n (eI 1 n c).2).2.belowC 16).below_le 8 Ω).1 (((eI 4 n (eI 1 n c).2).2.belowC 16).below_le 8 Ω).2;exact aft aa.1 aa.2 (HH aK Ω _) (HH aK Ω _)
theorem TK{F:List Rl}{n:Int}(aK:n<=100001)(c:bS):∀k,∀x∈(jZ n k c).1,kI F n x/\x.sz=1
 |0,x,h=>by simp[jZ]at h
 |k+1,x,h=>by
  simp only[jZ,iG,List.mem_singleton]at h;rcases h with h|rfl
  ·exact TK aK c k x h
  ·exact⟨afH aK _,rfl⟩
def vk(F P:List Rl):Prop:= ∀r∈P,fw r.name=true/\(0<=r.ar/\r.ar<=4)/\∃q,F.find? (fun q=>q.name==r.name)=some q/\q.ar=r.ar
theorem Mf{n:Int}(aK:n<=100001)(c:bS):∀k,∀t∈(iV n k c).1,t.tm.fits=true/\∀v∈t.tm.vs,v<n
 |0,x,h=>by simp[iV]at h
 |k+1,x,h=>by
  simp only[iV,iG,List.mem_singleton]at h;rcases h with h|rfl
  ·exact Mf aK c k x h
  ·exact HH aK (by rcases U4 (iV n k c).2 with h|h<;>rw[h]<;>decide) _
theorem Vn{F P:List Rl}(gy:vk F P)(gL:0<P.length){n:Int}(aK:n<=100001)(c:bS):kI F n (tN P n c)/\(tN P n c).sz=1:=by
 have af:=c.below_le P.length Ω;have hr:qz P c∈P:=by unfold qz;rw[bO (show(c.below P.length).toNat<P.length by omega)];exact List.getElem_mem _
 obtain⟨I,J,q,av,aV⟩:=gy _ hr;have aE:=Dt n (c.belowC P.length) (qz P c).ar.toNat
 have aI:=Mf aK (c.belowC P.length) (qz P c).ar.toNat
 unfold tN;refine⟨⟨?_,fun v aS=>?_,?_,?_⟩,rfl⟩
 ·simp only[Gm.shape];rw[bf Ω,bN trivial];have bE:((iV n (qz P c).ar.toNat (c.belowC P.length)).1.map T.tm).all ba.fits=true:=by rw[gC];intro x ad;obtain⟨t,oe,rfl⟩:=pv.1 ad;exact(aI t oe).1
  rw[bE,I];simp[aE];omega
 ·simp only[Gm.vs,Gm.vsL,List.append_nil]at aS;obtain⟨t,oe,aS⟩:=LK aS;exact(aI t oe).2 v aS
 ·simp only[Gm.cf,bN,av,qk,aE,aV];simp;omega
 ·rfl
theorem NF{F P:List Rl}(gy:vk F P)(gL:0<P.length){n:Int}(aK:n<=100001){x:List Gm×bS}(ad:∀y∈x.1,kI F n y/\y.sz=1):∀m,(∀y∈(ia P n m x).1,kI F n y/\y.sz=1)/\(ia P n m x).1.length=x.1.length+m
 |0=>⟨ad,rfl⟩
 |m+1=>by
  obtain⟨I,J⟩:=NF gy gL aK ad m;refine⟨fun y bC=>?_,by simp[ia,J];omega⟩;simp only[ia,iG,List.mem_singleton]at bC;rcases bC with bC|rfl
  ·exact I y bC
  ·exact Vn gy gL aK _
theorem Pu:∀{l:List Gm},(∀x∈l,x.sz=1)->iu l=l.length
 |[],_=>rfl
 |x::l,h=>by simp only[iu,h x Ψ,Pu (l:=l) (fun y bC=>h y (by simp[bC])),e3];omega
theorem NX{F P:List Rl}(gy:vk F P){m:Nat}(gL:0<P.length){n:Int}(aK:n<=100001)(c:bS):(∀y∈(hl P n m c).1,kI F n y/\y.sz=1)/\m<(hl P n m c).1.length/\(hl P n m c).1.length<=2+m:=by have af:=c.below_le 2 Ω;have h:=NF gy gL aK (x:=jZ n (1+(c.below 2).toNat) (c.belowC 2)) (TK aK _ _) m;rw[yq]at h;exact⟨h.1,by unfold hl;omega,by unfold hl;omega⟩
theorem Hy{F P:List Rl}(gy:vk F P){m:Nat}(hm:m<=6)(gL:0<P.length){n:Int}(aK:n<=100001)(c:bS):kI F n (k7 P n m c)/\(k7 P n m c).sz<=3+m:=by obtain⟨I,J,av⟩:=NX gy (m:=m) gL aK c;refine⟨.and 7 (.inl rfl) (fun x ad=>(I x ad).1) Ω,?_⟩;unfold k7;simp only[Gm.sz,Pu fun x ad=>(I x ad).2];omega
theorem Pt:∀(a b:List Gm),iu (a++b)=iu a+iu b
 |[],b=>by simp[iu]
 |x::a,b=>by simp only[iT,iu,Pt a b];omega
theorem Mn{F P:List Rl}(gy:vk F P)(gL:0<P.length){n:Int}(aK:n<=100001){x:List Gm×bS}(ad:∀y∈x.1,kI F n y):∀k,(∀y∈(hW P n k x).1,kI F n y)/\iu (hW P n k x).1<=iu x.1+5*k/\(hW P n k x).1.length=x.1.length+k
 |0=>⟨ad,by simp[hW],rfl⟩
 |k+1=>by
  obtain⟨I,J,av⟩:=Mn gy gL aK ad k;have aD:=RJ (hW P n k x).2;have a7:=Hy gy (m:=oo (hW P n k x).2) Ω gL aK ((hW P n k x).2.belowC 5);refine⟨fun y bC=>?_,?_,by simp[hW,av];omega⟩
  ·simp only[hW,iG,List.mem_singleton]at bC;rcases bC with bC|rfl
   ·exact I y bC
   ·exact a7.1
  ·simp only[hW,Pt,iu];omega
theorem Vh{F P:List Rl}(gy:vk F P)(gL:0<P.length){n:Int}(aK:n<=100001)(c:bS):kI F n (qx P n c)/\(qx P n c).sz<=60:=by
 have bD:=Hy gy (m:=0) Ω gL aK c;have af:=(hl P n 0 c).2.below_le 3 Ω;obtain⟨I,J,av⟩:=Mn gy gL aK (x:=([k7 P n 0 c],(hl P n 0 c).2.belowC 3)) (fun y bC=>by rw[List.mem_singleton.1 bC];exact bD.1) ((hl P n 0 c).2.below 3).toNat
 simp only[iu,List.length_singleton]at J av;unfold qx;split
 ·exact⟨bD.1,Ω⟩
 ·refine⟨.and 8 (.inr rfl) I (by unfold sH;omega),?_⟩;simp only[Gm.sz];unfold sH;omega
def kE(P:List Rl):List (List aF×Int×Int):=P.map fun r=>(r.name,r.ar,r.loc)
theorem afF{P:List Rl}{k:Nat}{g:Gm}:kE (P.set k {P[k]?.getD qa with body:=g})=kE P:=by
 apply List.ext_getElem?;intro i;unfold kE;rw[oG,oG,List.getElem?_set];split
 ·rename_i h;subst h;split
  ·rename_i J;rw[bO J];rfl
  ·rename_i J;rw[List.getElem?_eq_none Ω]
 ·rfl
theorem D8(x:List Rl×bS):∀k,kE (gF k x).1=kE x.1
 |0=>rfl
 |k+1=>by rw[<-D8 x k];exact afF
theorem afD{F P:List Rl}(h:kE F=kE P)(s:List aF):(F.find? fun q=>q.name==s).map Rl.ar=(P.find? fun q=>q.name==s).map Rl.ar:=by
 induction F generalizing P with
 |nil=>cases P with
  |nil=>rfl
  |cons y P=>simp[kE]at h
 |cons x F a8=>cases P with
  |nil=>simp[kE]at h
  |cons y P=>
   simp only[kE,eQ,AB,gp]at h
   obtain⟨⟨I,J,av⟩,aV⟩:=h
   simp only[List.find?_cons,I]
   split
   ·simp[J]
   ·exact a8 aV
def Bl(r:Rl):Prop:=fw r.name=true/\(0<=r.ar/\r.ar<=4)/\(0<=r.loc/\r.loc<=8)
theorem Ma{F P:List Rl}(h:kE F=kE P)(aO:∀r∈P,Bl r)(aK:(P.map Rl.name).Nodup):vk F P:=by
 intro r hr;obtain⟨I,J,av⟩:=aO r hr;refine⟨I,J,?_⟩;have aM:=afD h r.name;obtain⟨q,bG,abd⟩:∃q,P.find? (fun q=>q.name==r.name)=some q/\q.ar=r.ar:=by
  cases bq:P.find? (fun q=>q.name==r.name)with
  |none=>exact absurd (List.find?_eq_none.1 bq r hr) Ψ
  |some q=>
   refine⟨q,rfl,?_⟩;have aV:q.name=r.name:=by have:=List.find?_some bq;simpa using this
   have bE:=List.mem_of_find?_eq_some bq;obtain⟨i,aw⟩:=l4 hr;obtain⟨j,al⟩:=l4 bE;have aq:(P.map Rl.name)[i]? =some r.name:=by rw[oG,aw];rfl
   have aU:(P.map Rl.name)[j]? =some r.name:=by rw[oG,al,<-aV];rfl
   have:i=j:=by
    obtain⟨bV,a2⟩:=cX.1 aq;obtain⟨bQ,b3⟩:=cX.1 aU;rcases Nat.lt_trichotomy i j with rP|rP|rP
    ·exact absurd (a2.trans b3.symm) ((List.pairwise_iff_getElem.1 aK) i j bV bQ rP)
    ·exact rP
    ·exact absurd (b3.trans a2.symm) ((List.pairwise_iff_getElem.1 aK) j i bQ bV rP)
   subst this;rw[aw]at al;cases al;rfl
 rw[bG]at aM;cases eW:F.find? (fun q=>q.name==r.name)with
 |none=>rw[eW]at aM;simp at aM
 |some iC=>rw[eW]at aM;simp at aM;exact⟨iC,rfl,by rw[aM,abd]⟩
theorem Gd(c:bS):∀k,∀(i:Nat) r,(jt k c).1[i]? =some r->r.name=r5 i/\1<=r.ar/\r.ar<=2/\0<=r.loc/\r.loc<=1
 |0,i,r,h=>by simp[jt]at h
 |k+1,i,r,h=>by
  simp only[jt]at h;rcases hS i k with aw|aw
  ·rw[mF (by rw[uT];exact aw)]at h;exact Gd c k i r h
  ·rw[rb (by rw[uT];exact aw),uT]at h;have:=(cX.1 h).1;simp at this;have:i=k:=Ω
   subst this;simp at h;subst h;have I:=(jt i c).2.below_le 2 Ω;have J:=((jt i c).2.belowC 2).below_le 2 Ω;exact⟨rfl,by simp only;omega,by simp only;omega,by simp only;omega,by simp only;omega⟩
theorem KP{c:bS}{k:Nat}:∀r∈(jt k c).1,Bl r:=fun r hr=>by
 obtain⟨i,aw⟩:=l4 hr;obtain⟨I,J⟩:=Gd c k i r aw;refine⟨?_,Ω,Ω⟩;rw[I];unfold r5;repeat' split
 all_goals decide
theorem Tb{c:bS}{k:Nat}(aa:k<=3):((jt k c).1.map Rl.name).Nodup:=by refine List.pairwise_iff_getElem.2 fun i j aw al rP he=>?_;simp only[qk,uT]at aw al;simp only[List.getElem_map]at he;rw[(Gd c k i _ (bO (by rw[uT];exact aw))).1,(Gd c k j _ (bO (by rw[uT];exact al))).1]at he;rcases(by omega:(i=0/\j=1)\/(i=0/\j=2)\/(i=1/\j=2))with⟨rfl,rfl⟩|⟨rfl,rfl⟩|⟨rfl,rfl⟩<;>simp[r5]at he
theorem afE{P Q:List Rl}(h:kE P=kE Q){Pr:List aF->Int->Int->Prop}(bG:∀r∈Q,Pr r.name r.ar r.loc):∀r∈P,Pr r.name r.ar r.loc:=fun r hr=>by have:(r.name,r.ar,r.loc)∈kE P:=pv.2 ⟨r,hr,rfl⟩;rw[h]at this;obtain⟨q,BU,zw⟩:=pv.1 this;simp only[gp]at zw;obtain⟨aq,aU,bR⟩:=zw;rw[<-aq,<-aU,<-bR];exact bG q BU
theorem TJ{P Q:List Rl}(h:kE P=kE Q):P.map Rl.name=Q.map Rl.name:=by have:=fT (List.map fun x:List aF×Int×Int=>x.1) h;simpa[kE,List.map_map,Function.comp_def]using this
theorem La{P Q:List Rl}(h:kE P=kE Q)(bG:∀r∈Q,Bl r):∀r∈P,Bl r:=afE h (Pr:=fun s a l=>fw s=true/\(0<=a/\a<=4)/\(0<=l/\l<=8)) bG
theorem OX{F:List Rl}{x:List Rl×bS}(eW:kE F=kE x.1)(aO:∀r∈x.1,Bl r)(aK:(x.1.map Rl.name).Nodup):∀k,k<=x.1.length->∀(i:Nat) r,i<k->(gF k x).1[i]? =some r->kI F (r.ar+r.loc) r.body/\r.body.sz<=60
 |0,_,i,r,aw,_=>Ω
 |k+1,aa,i,r,aw,h=>by
  simp only[gF]at h;rw[List.getElem?_set]at h;by_cases qI:k=i
  ·subst qI;have dW:k<(gF k x).1.length:=by rw[ze];omega
   rw[bN rfl,bN dW]at h;simp only[dL]at h;have ao:=D8 x k;have PX:=La ao aO;have hm:(gF k x).1[k]?.getD qa∈(gF k x).1:=by rw[bO dW];exact List.getElem_mem _
   have hr:=PX _ hm;rw[<-h];simp only;have nC:=hr.2;exact Vh (Ma (eW.trans ao.symm) PX (by rw[TJ ao];exact aK)) Ω Ω _
  ·rw[bf qI]at h;exact OX eW aO aK k Ω i r Ω h
theorem HG(c:bS):il (xd c).1=true/\(∀r∈(xd c).1,nI r.body=true)/\0<(xd c).1.length:=by
 have af:=c.below_le 3 Ω;unfold xd;generalize aa:1+(c.below 3).toNat=k;have lg:k<=3:=Ω
 have hlen:(jt k (c.belowC 3)).1.length=k:=uT _ _;have ao:=D8 (jt k (c.belowC 3)) k;have j4:=OX (x:=jt k (c.belowC 3)) ao KP (Tb lg) k Ω;have kB:∀r∈(gF k (jt k (c.belowC 3))).1,kI (gF k (jt k (c.belowC 3))).1 (r.ar+r.loc) r.body/\r.body.sz<=60:=fun r hr=>by obtain⟨i,aw⟩:=l4 hr;have:=(cX.1 aw).1;rw[ze,hlen]at this;exact j4 i r this aw
 refine⟨?_,fun r hr=>(kB r hr).1.nn,by rw[ze,hlen];omega⟩;unfold il;simp only[bB,ef,gC];refine⟨⟨by rw[ze,hlen];omega,by rw[TJ ao];exact Tb lg⟩,fun r hr=>?_⟩;obtain⟨⟨I,J,av,aV⟩,bE⟩:=kB r hr;obtain⟨g1,g2,g3⟩:=La ao KP r hr;unfold Rl.ok Gm.fits;simp only[bB,ef,gC];exact⟨⟨⟨⟨⟨g1,g2⟩,g3⟩,I,bE⟩,J⟩,av⟩
theorem adk{P:List Rl}(h:il P=true):vk P P:=by simp only[il,bB,ef,gC]at h;obtain⟨⟨I,J⟩,av⟩:=h;refine Ma rfl (fun r hr=>?_) J;have:=av r hr;simp only[Rl.ok,bB,ef]at this;exact⟨this.1.1.1.1.1,this.1.1.1.1.2,this.1.1.1.2⟩
theorem Zy{P:List Rl}(h:il P=true)(gL:0<P.length)(c:bS):rj P 3 (xp P c).1:=by
 have gy:=adk h;have bD:=Hy gy (m:=1) Ω gL (n:=3) Ω c;obtain⟨I,J,av⟩:=NX gy (m:=1) gL (n:=3) Ω c;have key:∀g:Gm,kI P 3 g->g.sz<=80->rj P 3 g:=fun g aO cn=>⟨by simp[Gm.fits,aO.sh,cn],aO.vb,aO.cf,aO.nn⟩;unfold xp;split
 ·exact key _ bD.1 (by simp only;omega)
 ·simp only;generalize (hl P 3 1 c).1=l at*;have:l.getLastD dN∈l:=by
   have cE:l≠[]:=by intro e;rw[e]at J;simp at J
   rw[List.getLastD_eq_getLast?,List.getLast?_eq_some_getLast cE];exact List.getLast_mem cE
  exact key _ (I _ this).1 (by have:=(I _ this).2;omega)
def uI:List (List aF):=[[112],[113],[114]]
theorem uz(S:aJ->Prop)(k:Nat)(l:List (List aF)):ai S (List.take k (l.map ag.str))=True:=by
 apply eq_true;rw[<-List.map_take];generalize l.take k=l;induction l with
 |nil=>trivial
 |cons x l a8=>exact⟨trivial,a8⟩
def wK(k:Nat)(i:Int)(c:bS):List Rl->bb
 |[]=>⟨[(0,.ptr (.obj 401) 0),(1,.int .i64 1),(4,.ptr (.loc 0) 0),(5,.ptr (.loc 1) 0),(18,.slice 1 .no ((uI.take k).map ag.str)),(19,.int .i64 k),(20,.int .i64 i)],[(.obj 401,c.e),(.loc 0,[.slice 7 .nil []]),(.loc 1,[.slice 7 .nil []])],[],2,[.obj 401]⟩
 |x::xs=>⟨[(0,.ptr (.obj 401) 0),(1,.int .i64 1),(4,.ptr (.loc 0) 0),(5,.ptr (.loc 1) 0),(18,.slice 1 .no ((uI.take k).map ag.str)),(19,.int .i64 k),(20,.int .i64 i)],[(.obj 401,c.e),(.loc 0,[.slice 7 .nil []]),(.loc 1,[.row 7 (.obj 402) (xs.length+1)])],[(.obj 402,⟨xs.length+1,86,7,some (x.e::xs.map Rl.e)⟩)],2,[.obj 401,.obj 402]⟩
theorem uy(S:aJ->Prop)(Q:List Rl)(k:Nat)(x:ag):ai S ((Q.map Rl.e).set k x)=(k<Q.length->ak S x):=by
 apply propext;induction Q generalizing k with
 |nil=>simp[-az,-au,ai]
 |cons y Q a8=>
  cases k with
  |zero=>simp[-az,-au,ai]
  |succ k=>simp only[eQ,List.set_cons_succ,ai,Rk,true_and,a8,e3,Nat.add_lt_add_iff_right]
theorem Yz(k:Nat)(x:List Rl×bS):gF (k+1) x=((gF k x).1.set k {(gF k x).1[k]?.getD qa with body:=qx (gF k x).1 (((gF k x).1[k]?.getD qa).ar+((gF k x).1[k]?.getD qa).loc) (gF k x).2},rn (gF k x).1 (((gF k x).1[k]?.getD qa).ar+((gF k x).1[k]?.getD qa).loc) (gF k x).2):=rfl
theorem Vj(P:List Rl)(n:Int)(k:Nat)(x:List Gm×bS):hW P n (k+1) x=((hW P n k x).1++[k7 P n (oo (hW P n k x).2) ((hW P n k x).2.belowC 5)],(hl P n (oo (hW P n k x).2) ((hW P n k x).2.belowC 5)).2):=rfl
def wL(Q:List Rl)(k:Int)(c:bS):bb:=⟨[(0,.ptr (.obj 401) 0),(1,.int .i64 1),(4,.ptr (.loc 0) 0),(5,.ptr (.loc 1) 0),(38,.row 7 (.obj 402) Q.length),(39,.int .i64 Q.length),(40,.int .i64 k)],[(.obj 401,c.e),(.loc 0,[.slice 7 .nil []]),(.loc 1,[.row 7 (.obj 402) Q.length])],[(.obj 402,⟨Q.length,86,7,some (Q.map Rl.e)⟩)],2,[.obj 401,.obj 402]⟩
def AD(Q:List Rl)(k n q:Int)(c:bS)(x:Gm)(xs:List Gm):bb:=⟨[(0,.ptr (.obj 401) 0),(1,.int .i64 1),(4,.ptr (.loc 0) 0),(5,.ptr (.loc 1) 0),(8,.int .i64 k),(10,.int .i64 n),(11,.ptr (.loc 4) 0),(12,.int .i64 q),(38,.row 7 (.obj 402) Q.length),(39,.int .i64 Q.length),(40,.int .i64 k)],[(.obj 401,c.e),(.loc 0,[.slice 7 .nil []]),(.loc 1,[.row 7 (.obj 402) Q.length]),(.loc 4,[.int .i64 8,.str [],.slice 4 .nil [],.slice 4 (.own (.loc 3)) (x.e::xs.map Gm.e)])],[(.obj 402,⟨Q.length,86,7,some (Q.map Rl.e)⟩),(.loc 3,⟨xs.length+1,65,4,none⟩)],5,[.obj 401,.obj 402]⟩
theorem H9(c:bS)(aD:c.ok):bT aP 99 [.ptr (.obj 401) 0,.int .i64 1] (aL c) fun r aC=>r=gW (xd c).1/\aC=aL (xd c).2:=by
 have ao:=cm c;have eh:=mg c aD 3;have af:=c.below_le 3 Ω;refine bT.mk mixed pk Ym aeb (by simp[-az,-au]) ao.obj fun aG b5=>?_;unfold Nu;clear aG b5;unfold aL;simp[-az,-au];(with_reducible repeat' first|refine aA ?_|simp[-az,-au]);(refine bI.ob (eh) (cm _) (by unfold aL;exact aH) (by unfold aL;exact aH) (by simp[-az,-au,ah,aL,Pv.look]) ?_;rintro r aC ⟨rfl,rfl⟩;refine⟨cY _ _,?_⟩;unfold aL;simp[-az,-au,bu]);unfold xd;have fV:=aD.below 3;generalize c.below 3=b at*;generalize c.belowC 3=c2 at*;obtain⟨ej,rfl⟩:∃ej:Nat,b=ej:=⟨b.toNat,Ω⟩;rw[Int.toNat_natCast];have PL:ej<3:=Ω
 (with_reducible repeat' first|refine aA ?_|simp[-az,-au]);refine gZ (fun i:Nat=>wK (1+ej) i (jt i c2).2 (jt i c2).1) (fun i=>1+ej-i) (fun i=>i<=1+ej) 0 ?_ Ω ?_
 ·have aq:((1:Int)+ej).toNat=1+ej:=Ω
  have aU:min (1+ej) 3=1+ej:=Ω
  rw[show [ag.str [112],ag.str [113],ag.str [114]]=List.map ag.str uI from rfl];simp[-az,-au,wK,jt,aq,aU];exact⟨by simp[-az,-au,fresh,ai,ak,bc,ah,Pv.look,dd,br,uz],cb (by simp[-az,-au,fresh,ai,ak,bc,ah,Pv.look,dd,br,uz]),cc (by simp[-az,-au,fresh,ai,ak,b6,ah,Pv.look,dd,br,uz]),by simp[-az,-au]⟩
 intro i aw _;have ad:=Tc fV i;have aE:=uT c2 i;rcases hr:jt i c2 with⟨l,c3⟩;rw[hr]at ad aE;simp only at ad aE⊢;have ek:=mg _ ad 2;have eh:=mg _ (ad.below 2) 2;have bg:=c3.below_le 2 Ω;have hB:=(c3.belowC 2).below_le 2 Ω;by_cases PZ:i<1+ej
 ·have b2:aZ ((i:Int)+1):=by unfold aZ;omega
  have hM:uI[i]? =some (r5 i):=by rcases(by omega:(i=0)\/(i=1)\/(i=2))with rfl|rfl|rfl<;>rfl
  have EV:i<min (1+ej) uI.length:=by simp[-az,-au,uI];omega
  have b7:(i:Int)<1+ej:=Ω
  have fW:l.length+1<=bA:=by unfold bA;omega
  have a64:aZ (1+c3.below 2):=by unfold aZ;omega
  cases l with
  |nil=>
   simp[-az,-au,wK];(with_reducible repeat' first|refine aA ?_|simp[-az,-au,b7,PZ,hM,EV,b2,a64,fW]);refine gI.ob ek (cm c3) (cm _) (cY c3 _) (by unfold aL;exact aH) (by unfold aL;exact aH) (by simp[-az,-au,ah,aL,Pv.look]) ?_;unfold aL;simp[-az,-au,bu];(with_reducible repeat' first|refine aA ?_|simp[-az,-au,b2,a64,fW]);refine gI.ob eh (cm _) (cm _) (cY _ _) (by unfold aL;exact aH) (by unfold aL;exact aH) (by simp[-az,-au,ah,aL,Pv.look]) ?_;unfold aL;simp[-az,-au,bu];(with_reducible repeat' first|refine aA ?_|simp[-az,-au,b2,a64,fW]);refine bP.whl (i+1) Ω Ω ?_;simp only[jt,hr];have he:({name:=r5 i,ar:=1+c3.below 2,loc:=(c3.belowC 2).below 2,body:=dN}:Rl).e= .agg [.str (r5 i),.int .i64 (1+c3.below 2),.int .i64 ((c3.belowC 2).below 2),.int .i64 0,.str [],.slice 4 .no [],.slice 4 .no []]:=rfl;have uo:∀h,uI[i]'h=r5 i:=fun h=>by rw[bO h]at hM;exact dZ hM
   simp[-az,-au,wK,he,uo];exact⟨by simp[-az,-au,fresh,ai,ak,bc,ah,Pv.look,dd,br,uz,he,uo],cb (by simp[-az,-au,fresh,ai,ak,bc,ah,Pv.look,dd,br,uz,he,uo]),cc (by simp[-az,-au,fresh,ai,ak,b6,ah,Pv.look,dd,br,uz,he,uo]),by simp[-az,-au]⟩
  |cons x xs=>
   simp only[e3]at fW;simp[-az,-au,wK];(with_reducible repeat' first|refine aA ?_|simp[-az,-au,b7,PZ,hM,EV,b2,a64,fW]);refine gI.ob ek (cm c3) (cm _) (cY c3 _) (by unfold aL;exact aH) (by unfold aL;exact aH) (by simp[-az,-au,ah,aL,Pv.look]) ?_;unfold aL;simp[-az,-au,bu];(with_reducible repeat' first|refine aA ?_|simp[-az,-au,b2,a64,fW]);refine gI.ob eh (cm _) (cm _) (cY _ _) (by unfold aL;exact aH) (by unfold aL;exact aH) (by simp[-az,-au,ah,aL,Pv.look]) ?_;unfold aL;simp[-az,-au,bu];(with_reducible repeat' first|refine aA ?_|simp[-az,-au,b2,a64,fW]);refine bP.whl (i+1) Ω Ω ?_;simp only[jt,hr];have he:({name:=r5 i,ar:=1+c3.below 2,loc:=(c3.belowC 2).below 2,body:=dN}:Rl).e= .agg [.str (r5 i),.int .i64 (1+c3.below 2),.int .i64 ((c3.belowC 2).below 2),.int .i64 0,.str [],.slice 4 .no [],.slice 4 .no []]:=rfl;have uo:∀h,uI[i]'h=r5 i:=fun h=>by rw[bO h]at hM;exact dZ hM
   simp[-az,-au,wK,he,uo];exact⟨by simp[-az,-au,fresh,ai,ak,bc,ah,Pv.look,dd,br,uz,he,uo],cb (by simp[-az,-au,fresh,ai,ak,bc,ah,Pv.look,dd,br,uz,he,uo]),cc (by simp[-az,-au,fresh,ai,ak,b6,ah,Pv.look,dd,br,uz,he,uo]),by simp[-az,-au]⟩
 obtain rfl:i=1+ej:=Ω
 have bG:¬((1+ej:Nat):Int)<1+ej:=Ω
 have EJ:=KP (c:=c2) (k:=1+ej);rw[hr]at EJ⊢;cases l with
 |nil=>rw[nj]at aE;omega
 |cons x xs=>
 simp[-az,-au,wK];(with_reducible repeat' first|refine aA ?_|simp[-az,-au,bG]);clear bG ek eh bg hB aw hr;generalize Br:x::xs=P0 at*;have oc:xs.length+1=P0.length:=by rw[<-Br];rfl
 refine gZ (fun k:Nat=>wL (gF k (P0,c3)).1 k (gF k (P0,c3)).2) (fun k=>1+ej-k) (fun k=>k<=1+ej) 0 ?_ Ω ?_
 ·simp[-az,-au,wL,gF,<-Br];exact⟨by simp[-az,-au,fresh,ai,ak,bc,ah,Pv.look,dd,br],cb (by simp[-az,-au,fresh,ai,ak,bc,ah,Pv.look,dd,br]),cc (by simp[-az,-au,fresh,ai,ak,b6,ah,Pv.look,dd,br]),by simp[-az,-au]⟩
 intro k aa _;have mT:=OY (x:=(P0,c3)) ad k;have j9:=ze (P0,c3) k;have s4:=D8 (P0,c3) k;have lf:=La s4 EJ;have eZ:=Yz k (P0,c3);generalize oY:gF k (P0,c3)=y at*;obtain⟨Q,c4⟩:=y;simp only at mT j9 s4 lf eZ⊢;by_cases EN:k<1+ej;rotate_left
 ·obtain rfl:k=1+ej:=Ω
  have zw:¬(1+(ej:Int))<P0.length:=Ω
  simp[-az,-au,wL,j9];(with_reducible repeat' first|refine aA ?_|simp[-az,-au,zw]);rw[oY];(refine ck.at (aL (c4)) (.inl rfl) (cm _) (cY _ _) (by unfold aL;exact aH) (by unfold aL;exact aH) ?_;simp[-az,-au,cz,S2,bn,bp,bk,aL])
 have BK:k<Q.length:=Ω
 obtain⟨r,hr⟩:∃r,Q[k]? =some r:=⟨_,bO BK⟩;have gg:∀h,(Q[k]'h)=r:=fun h=>by rw[bO h]at hr;exact dZ hr
 have Qk:=lf r (eR hr);have PC:∀r∈Q,0<=r.ar/\r.ar<=4:=fun r h=>(lf r h).2.1;have dW:(k:Int)<Q.length:=Ω
 have o2:aZ (r.ar+r.loc):=by have:=Qk.2;unfold aZ;omega
 have b2:aZ ((k:Int)+1):=by unfold aZ;omega
 have mo:r.ar+r.loc<=1000000:=by have:=Qk.2;omega
 have nH:=Pj Q Ω PC (r.ar+r.loc) mo 0 Ω c4 mT;rw[show((0:Nat):Int)=0 from rfl]at nH;have zy:=DK (P:=Q) (n:=r.ar+r.loc) (m:=0) mT;have uw:=mg _ zy 3;have aiG:=(hl Q (r.ar+r.loc) 0 c4).2.below_le 3 Ω;have vI:sH Q (r.ar+r.loc) c4=hW Q (r.ar+r.loc) ((hl Q (r.ar+r.loc) 0 c4).2.below 3).toNat ([k7 Q (r.ar+r.loc) 0 c4],(hl Q (r.ar+r.loc) 0 c4).2.belowC 3):=rfl;rw[hr]at eZ;simp only[rh]at eZ;simp[-az,-au,wL];(with_reducible repeat' first|refine aA ?_|simp[-az,-au,dW,BK,gg,hr,o2]);refine bI.ob nH (AN Q c4) (by unfold k5;exact aH) (by unfold k5;exact aH) (by simp[-az,-au,ah,k5,Pv.look]) ?_;rintro dt aC ⟨rfl,rfl⟩;refine⟨GO _ _ _,?_⟩;unfold k5;simp[-az,-au,bu];generalize mi:k7 Q (r.ar+r.loc) 0 c4=g1 at*;generalize lK:(hl Q (r.ar+r.loc) 0 c4).2=c5 at*;(with_reducible repeat' first|refine aA ?_|simp[-az,-au]);(refine bI.ob (uw) (cm _) (by unfold aL;exact aH) (by unfold aL;exact aH) (by simp[-az,-au,ah,aL,Pv.look]) ?_;rintro r aC ⟨rfl,rfl⟩;refine⟨cY _ _,?_⟩;unfold aL;simp[-az,-au,bu]);have rX:=zy.below 3;generalize c5.below 3=m at*;generalize c5.belowC 3=iI at*;obtain⟨r4,rfl⟩:∃r4:Nat,m=r4:=⟨m.toNat,Ω⟩;rw[Int.toNat_natCast]at vI;(with_reducible repeat' first|refine aA ?_|simp[-az,-au]);refine gZ (fun j:Nat=>AD Q k (r.ar+r.loc) (r4-j) (hW Q (r.ar+r.loc) j ([g1],iI)).2 g1 ((hW Q (r.ar+r.loc) j ([g1],iI)).1.drop 1)) (fun j=>r4-j) (fun j=>j<=r4) 0 (by simp[-az,-au,AD,hW];exact⟨by simp[-az,-au,fresh,ai,ak,bc,ah,Pv.look,dd,br],cb (by simp[-az,-au,fresh,ai,ak,bc,ah,Pv.look,dd,br]),cc (by simp[-az,-au,fresh,ai,ak,b6,ah,Pv.look,dd,br]),by simp[-az,-au]⟩) Ω ?_;intro j al _;have Ca:=G0 (P:=Q) (n:=r.ar+r.loc) (x:=([g1],iI)) rX j;obtain⟨ys,bC,o5⟩:=Mo (P:=Q) (n:=r.ar+r.loc) (x:=g1) (xs:=[]) (c:=iI) j;have Jg:=Vj Q (r.ar+r.loc) j ([g1],iI);rcases hbj:hW Q (r.ar+r.loc) j ([g1],iI)with⟨pZ,jo⟩;rw[hbj]at Ca bC Jg;simp only at Ca bC Jg⊢;subst bC;by_cases BJ:j<r4
 ·have aO:(0:Int)<(r4:Int)-j:=Ω
  have s0:aZ ((r4:Int)-j-1):=by unfold aZ;omega
  have bX:=mg _ Ca 5;obtain⟨xL,ai3⟩:=RJ jo;have hw:iF.wrap (oo jo:Int)=oo jo:=by rcases(by omega:oo jo=0\/oo jo=1\/oo jo=2)with h|h|h<;>rw[h]<;>rfl
  have ab9:=Pj Q Ω PC (r.ar+r.loc) mo (oo jo) Ω (jo.belowC 5) (Ca.below 5);have xU:ys.length+1+1<=bA:=by simp[-az,-au]at o5;unfold bA;omega
  simp[-az,-au,AD];(with_reducible repeat' first|refine aA ?_|simp[-az,-au,BJ,aO,s0]);refine gI.ob bX (cm jo) (cm _) (cY jo _) (by unfold aL;exact aH) (by unfold aL;exact aH) (by simp[-az,-au,ah,aL,Pv.look]) ?_;unfold aL;simp[-az,-au,bu];(with_reducible repeat' first|refine aA ?_|simp[-az,-au,xL,hw]);refine gI.ob ab9 (AN Q _) (AN Q _) (GO Q _ _) (by unfold k5;exact aH) (by unfold k5;exact aH) (by simp[-az,-au,ah,k5,Pv.look]) ?_;unfold k5;simp[-az,-au,bu];(with_reducible repeat' first|refine aA ?_|simp[-az,-au,s0,xU]);refine bP.whl (j+1) Ω Ω ?_;rw[Jg];simp[-az,-au,AD,show(r4:Int)-((j:Int)+1)=r4-j-1 by omega];exact⟨by simp[-az,-au,fresh,ai,ak,bc,ah,Pv.look,dd,br,fX],cb (by simp[-az,-au,fresh,ai,ak,bc,ah,Pv.look,dd,br,fX]),cc (by simp[-az,-au,fresh,ai,ak,b6,ah,Pv.look,dd,br,fX]),by simp[-az,-au]⟩
 obtain rfl:j=r4:=Ω
 have aO:¬(0:Int)<(j:Int)-j:=Ω
 rw[hbj]at vI;clear nH uw;simp[-az,-au,AD];(with_reducible repeat' first|refine aA ?_|simp[-az,-au,aO]);have xP:gF (k+1) (P0,c3)=(Q.set k {r with body:=qx Q (r.ar+r.loc) c4},rn Q (r.ar+r.loc) c4):=eZ;have abB:ys.length=j:=by simpa using o5
 have I8:∀h,(Q[k]'h).e= .agg [.str r.name,.int .i64 r.ar,.int .i64 r.loc,.int .i64 r.body.kind,.str r.body.name,.slice 4 .no (r.body.ts.map enc),.slice 4 .no (r.body.gs.map Gm.e)]:=fun h=>by rw[gg];rfl
 have pS:∀b:Gm,List.map Rl.e (Q.set k {r with body:=b})=(List.map Rl.e Q).set k (.agg [.str r.name,.int .i64 r.ar,.int .i64 r.loc,.int .i64 b.kind,.str b.name,.slice 4 .no (b.ts.map enc),.slice 4 .no (b.gs.map Gm.e)]):=fun b=>by rw[List.map_set];rfl
 have Qn:∀l:List Gm,List.map Rl.e (Q.set k {r with body:= .mk 8 [] [] l})=(List.map Rl.e Q).set k (.agg [.str r.name,.int .i64 r.ar,.int .i64 r.loc,.int .i64 8,.str [],.slice 4 .no [],.slice 4 .no (l.map Gm.e)]):=fun l=>pS _;by_cases IM:j=0
 ·subst IM;obtain rfl:ys=[]:=l3 abB;have jI:=H8 _ Ca 2;by_cases bD:jo.below 2=0
  ·have rJ:(jo.below 2==0)=true:=by simpa using bD
   rw[rJ]at jI;have hB:qx Q (r.ar+r.loc) c4=g1:=by unfold qx;rw[vI];simp[-az,-au,bD,mi]
   have lG:rn Q (r.ar+r.loc) c4=jo.belowC 2:=by unfold rn;rw[vI];simp[-az,-au]
   simp[-az,-au];(with_reducible repeat' first|refine aA ?_|simp[-az,-au]);(refine bI.ob (jI) (cm _) (by unfold aL;exact aH) (by unfold aL;exact aH) (by simp[-az,-au,ah,aL,Pv.look]) ?_;rintro r aC ⟨rfl,rfl⟩;refine⟨cY _ _,?_⟩;unfold aL;simp[-az,-au,bu]);(with_reducible repeat' first|refine aA ?_|simp[-az,-au,dW,BK,hr,b2,I8,-GW]);refine bP.whl (k+1) Ω Ω ?_;rw[xP,hB,lG];simp[-az,-au,wL,pS];exact⟨by simp[-az,-au,fresh,ai,ak,bc,ah,Pv.look,dd,br,uy],cb (by simp[-az,-au,fresh,ai,ak,bc,ah,Pv.look,dd,br,uy]),cc (by simp[-az,-au,fresh,ai,ak,b6,ah,Pv.look,dd,br,uy]),by simp[-az,-au]⟩
  ·have rJ:(jo.below 2==0)=false:=by simpa using bD
   rw[rJ]at jI;have hB:qx Q (r.ar+r.loc) c4= .mk 8 [] [] [g1]:=by unfold qx;rw[vI];simp[-az,-au,bD]
   have lG:rn Q (r.ar+r.loc) c4=jo.belowC 2:=by unfold rn;rw[vI];simp[-az,-au]
   simp[-az,-au];(with_reducible repeat' first|refine aA ?_|simp[-az,-au]);(refine bI.ob (jI) (cm _) (by unfold aL;exact aH) (by unfold aL;exact aH) (by simp[-az,-au,ah,aL,Pv.look]) ?_;rintro r aC ⟨rfl,rfl⟩;refine⟨cY _ _,?_⟩;unfold aL;simp[-az,-au,bu]);(with_reducible repeat' first|refine aA ?_|simp[-az,-au,dW,BK,hr,b2,I8,-GW]);refine bP.whl (k+1) Ω Ω ?_;rw[xP,hB,lG];simp[-az,-au,wL,Qn];exact⟨by simp[-az,-au,fresh,ai,ak,bc,ah,Pv.look,dd,br,uy],cb (by simp[-az,-au,fresh,ai,ak,bc,ah,Pv.look,dd,br,uy]),cc (by simp[-az,-au,fresh,ai,ak,b6,ah,Pv.look,dd,br,uy]),by simp[-az,-au]⟩
 ·have cE:((ys.length:Int)+1==1)=false:=by simp[-az,-au];omega
  have hB:qx Q (r.ar+r.loc) c4= .mk 8 [] [] (g1::ys):=by unfold qx;rw[vI];rw[bf (by simp only[e3];omega)]
  have lG:rn Q (r.ar+r.loc) c4=jo:=by unfold rn;rw[vI];rw[bf (by simp only[e3];omega)]
  simp[-az,-au,cE];(with_reducible repeat' first|refine aA ?_|simp[-az,-au,dW,BK,hr,b2,I8,-GW]);refine bP.whl (k+1) Ω Ω ?_;rw[xP,hB,lG];simp[-az,-au,wL,Qn];exact⟨by simp[-az,-au,fresh,ai,ak,bc,ah,Pv.look,dd,br,uy],cb (by simp[-az,-au,fresh,ai,ak,bc,ah,Pv.look,dd,br,uy]),cc (by simp[-az,-au,fresh,ai,ak,b6,ah,Pv.look,dd,br,uy]),by simp[-az,-au]⟩
def Ck:List aF:=[40,100,101,102,105,110,101,32,40,97,112,112,101,110,100,32,63,97,32,63,98,32,63,99,41,32,40,111,114,32,40,97,110,100,32,40,61,32,63,97,32,40,41,41,32,40,61,32,63,98,32,63,99,41,41,32,40,97,110,100,32,40,61,32,63,97,32,40,63,120,32,46,32,63,121,41,41,32,40,61,32,63,99,32,40,63,120,32,46,32,63,122,41,41,32,40,97,112,112,101,110,100,32,63,121,32,63,98,32,63,122,41,41,41,41]
theorem acj:Ck.length<=400:=by decide
theorem aci:Ck.head? =some 40:=rfl
def Cl:List aF:=[40,100,101,102,105,110,101,32,40,109,101,109,98,101,114,32,63,120,32,63,108,41,32,40,111,114,32,40,61,32,63,108,32,40,63,120,32,46,32,63,114,41,41,32,40,97,110,100,32,40,61,32,63,108,32,40,63,121,32,46,32,63,114,41,41,32,40,109,101,109,98,101,114,32,63,120,32,63,114,41,41,41,41]
theorem ack:Cl.length<=400:=by decide
def Cm:List aF:=[40,100,101,102,105,110,101,32,40,101,100,103,101,32,63,97,32,63,98,41,32,40,111,114,32,40,97,110,100,32,40,61,32,63,97,32,97,41,32,40,61,32,63,98,32,98,41,41,32,40,97,110,100,32,40,61,32,63,97,32,98,41,32,40,61,32,63,98,32,99,41,41,32,40,97,110,100,32,40,61,32,63,97,32,99,41,32,40,61,32,63,98,32,97,41,41,41,41]
theorem acn:Cm.length<=400:=by decide
theorem acm:Cm.head? =some 40:=rfl
def Cn:List aF:=[40,100,101,102,105,110,101,32,40,112,97,116,104,32,63,97,32,63,98,41,32,40,111,114,32,40,101,100,103,101,32,63,97,32,63,98,41,32,40,97,110,100,32,40,112,97,116,104,32,63,97,32,63,99,41,32,40,101,100,103,101,32,63,99,32,63,98,41,41,41,41]
theorem aco:Cn.length<=400:=by decide
def Co:List aF:=[40,100,101,102,105,110,101,32,40,111,117,116,115,105,100,101,32,63,120,32,63,108,41,32,40,111,114,32,40,61,32,63,108,32,40,41,41,32,40,97,110,100,32,40,61,32,63,108,32,40,63,121,32,46,32,63,114,41,41,32,40,47,61,32,63,120,32,63,121,41,32,40,111,117,116,115,105,100,101,32,63,120,32,63,114,41,41,41,41]
theorem acq:Co.length<=400:=by decide
theorem acp:Co.head? =some 40:=rfl
def Cp:List aF:=[40,100,101,102,105,110,101,32,40,100,105,115,116,105,110,99,116,32,63,108,41,32,40,111,114,32,40,61,32,63,108,32,40,41,41,32,40,97,110,100,32,40,61,32,63,108,32,40,63,120,32,46,32,63,114,41,41,32,40,111,117,116,115,105,100,101,32,63,120,32,63,114,41,32,40,100,105,115,116,105,110,99,116,32,63,114,41,41,41,41]
theorem acr:Cp.length<=400:=by decide
def Cq:List aF:=[40,100,101,102,105,110,101,32,40,109,111,118,101,32,63,97,32,63,98,41,32,40,111,114,32,40,97,110,100,32,40,61,32,63,97,32,97,41,32,40,61,32,63,98,32,98,41,41,32,40,97,110,100,32,40,61,32,63,97,32,98,41,32,40,61,32,63,98,32,97,41,41,32,40,97,110,100,32,40,61,32,63,97,32,98,41,32,40,61,32,63,98,32,99,41,41,41,41]
theorem acu:Cq.length<=400:=by decide
theorem acs:Cq.head? =some 40:=rfl
def Cr:List aF:=[40,100,101,102,105,110,101,32,40,119,105,110,32,63,97,41,32,40,97,110,100,32,40,109,111,118,101,32,63,97,32,63,98,41,32,40,110,111,116,32,40,119,105,110,32,63,98,41,41,41,41]
theorem acv:Cr.length<=400:=by decide
def AY:C:=(ae [bm 2 (.mov (.c (.str [])))] (ae [ff 7 1 9 [],ab 3 7] (.seq (ae [ab 8 0] (.block 0 (ae [bm 10 (.bin .eql false (.t 8) (.c (.str [108,105,115,116,115]))),ab 9 10] (bt 9 (.region [cd (.bsl 11 1 9 [(.c (.str Ck)),(.c (.str Cl))]),ab 3 11]) (ae [bm 13 (.bin .eql false (.t 8) (.c (.str [103,114,97,112,104]))),ab 12 13] (bt 12 (.region [cd (.bsl 14 1 9 [(.c (.str Cm)),(.c (.str Cn))]),ab 3 14]) (ae [bm 16 (.bin .eql false (.t 8) (.c (.str [115,101,116,115]))),ab 15 16] (bt 15 (.region [cd (.bsl 17 1 9 [(.c (.str Co)),(.c (.str Cp))]),ab 3 17]) (ae [bm 19 (.bin .eql false (.t 8) (.c (.str [103,97,109,101,115]))),ab 18 19] (bt 18 (.region [cd (.bsl 20 1 9 [(.c (.str Cq)),(.c (.str Cr))]),ab 3 20]) .skip)))))))))) (ae [bm 4 (.mov (.c (.str [])))] (.seq (ae [ab 21 3,cy 22 21,cA 23 0] (.block 1 (.loop (ae [cC 24 .lss 23 22] (.seq (bt 24 .skip (.exit 1)) (.seq (.block 2 (ae [di 25 1 21 23,aW 26 1 25,ab 6 26] (.region [ab 27 4,ab 28 6,cC 29 .add 27 28,ff 30 1 5 [(.c (.int .u8 10))],bm 31 (.b2s (.t 30)),cC 32 .add 29 31,ab 4 32]))) (.region [a1 33 .add 23 1,ab 23 33]))))))) (ae [ab 34 4,ab 2 34] .ret))))))
theorem DB:M4=AY:=rfl
def Cx(k:Int):List aF:=if k=0 then [108,105,115,116,115]else if k=1 then [103,114,97,112,104]else if k=2 then [115,101,116,115]else [103,97,109,101,115]
set_option maxRecDepth 8000 in
theorem YR(k:Int):bT aP 94 [.str (Cx k)] ⟨[],[]⟩ fun r aC=>aC=⟨[],[]⟩/\∃t:List aF,r= .str t/\t.length<=10000/\t.head? =some 40:=by
 unfold Cx;by_cases c0:k=0
 ·rw[bN c0];have ao:=gb;refine bT.mk mixed h6 D7 FV Ψ ao.obj fun aG b5=>?_;rw[DB];unfold AY;clear aG b5;simp;(with_reducible repeat' first|refine aA ?_|simp);refine gZ (fun x:List aF×Nat=>⟨[(4,.str x.1),(21,.slice 1 (.own (.loc 1)) [.str Ck,.str Cl]),(22,.int .i64 2),(23,.int .i64 x.2)],[],[(.loc 1,⟨2,9,1,none⟩)],2,[]⟩) (fun x=>2-x.2) (fun x=>x.2<=2/\x.1.length<=401*x.2/\(x.2≠0->x.1.head? =some 40)) ([],0) (by simp;exact c8) ⟨Ψ,Ψ,Ψ⟩ ?_;rintro⟨s,i⟩ ⟨aw,af,bK⟩ _;simp only at aw af bK⊢;have I:=acj;have J:=ack;have a7:=aci;rcases(by omega:i=0\/i=1\/i=2)with rfl|rfl|rfl
  ·obtain rfl:s=[]:=l3 Ω;simp;(with_reducible repeat' first|refine aA ?_|simp);refine bP.whl (Ck++[10],1) Ψ ⟨Ψ,by simp;omega,fun _=>by simp[a7]⟩ ?_;simp;exact c8
  ·have aE:s.length+(Cl).length+1<=bA:=by unfold bA;omega
   simp;(with_reducible repeat' first|refine aA ?_|simp[aE]);refine bP.whl (s++Cl++[10],2) Ψ ⟨Ψ,by simp;omega,fun _=>by simp[bK]⟩ ?_;simp;exact c8
  ·simp;(with_reducible repeat' first|refine aA ?_|simp);refine ck.at ⟨[],[]⟩ (.inl rfl) gb (fJ.refl _) aH aH ?_;simp[cz,CQ,bn,bp,bk];exact⟨Ω,bK Ψ⟩
 rw[bf c0];by_cases cJ:k=1
 ·rw[bN cJ];have ao:=gb;refine bT.mk mixed h6 D7 FV Ψ ao.obj fun aG b5=>?_;rw[DB];unfold AY;clear aG b5;simp;(with_reducible repeat' first|refine aA ?_|simp);refine gZ (fun x:List aF×Nat=>⟨[(4,.str x.1),(21,.slice 1 (.own (.loc 1)) [.str Cm,.str Cn]),(22,.int .i64 2),(23,.int .i64 x.2)],[],[(.loc 1,⟨2,9,1,none⟩)],2,[]⟩) (fun x=>2-x.2) (fun x=>x.2<=2/\x.1.length<=401*x.2/\(x.2≠0->x.1.head? =some 40)) ([],0) (by simp;exact c8) ⟨Ψ,Ψ,Ψ⟩ ?_;rintro⟨s,i⟩ ⟨aw,af,bK⟩ _;simp only at aw af bK⊢;have I:=acn;have J:=aco;have a7:=acm;rcases(by omega:i=0\/i=1\/i=2)with rfl|rfl|rfl
  ·obtain rfl:s=[]:=l3 Ω;simp;(with_reducible repeat' first|refine aA ?_|simp);refine bP.whl (Cm++[10],1) Ψ ⟨Ψ,by simp;omega,fun _=>by simp[a7]⟩ ?_;simp;exact c8
  ·have aE:s.length+(Cn).length+1<=bA:=by unfold bA;omega
   simp;(with_reducible repeat' first|refine aA ?_|simp[aE]);refine bP.whl (s++Cn++[10],2) Ψ ⟨Ψ,by simp;omega,fun _=>by simp[bK]⟩ ?_;simp;exact c8
  ·simp;(with_reducible repeat' first|refine aA ?_|simp);refine ck.at ⟨[],[]⟩ (.inl rfl) gb (fJ.refl _) aH aH ?_;simp[cz,CQ,bn,bp,bk];exact⟨Ω,bK Ψ⟩
 rw[bf cJ];by_cases c2:k=2
 ·rw[bN c2];have ao:=gb;refine bT.mk mixed h6 D7 FV Ψ ao.obj fun aG b5=>?_;rw[DB];unfold AY;clear aG b5;simp;(with_reducible repeat' first|refine aA ?_|simp);refine gZ (fun x:List aF×Nat=>⟨[(4,.str x.1),(21,.slice 1 (.own (.loc 1)) [.str Co,.str Cp]),(22,.int .i64 2),(23,.int .i64 x.2)],[],[(.loc 1,⟨2,9,1,none⟩)],2,[]⟩) (fun x=>2-x.2) (fun x=>x.2<=2/\x.1.length<=401*x.2/\(x.2≠0->x.1.head? =some 40)) ([],0) (by simp;exact c8) ⟨Ψ,Ψ,Ψ⟩ ?_;rintro⟨s,i⟩ ⟨aw,af,bK⟩ _;simp only at aw af bK⊢;have I:=acq;have J:=acr;have a7:=acp;rcases(by omega:i=0\/i=1\/i=2)with rfl|rfl|rfl
  ·obtain rfl:s=[]:=l3 Ω;simp;(with_reducible repeat' first|refine aA ?_|simp);refine bP.whl (Co++[10],1) Ψ ⟨Ψ,by simp;omega,fun _=>by simp[a7]⟩ ?_;simp;exact c8
  ·have aE:s.length+(Cp).length+1<=bA:=by unfold bA;omega
   simp;(with_reducible repeat' first|refine aA ?_|simp[aE]);refine bP.whl (s++Cp++[10],2) Ψ ⟨Ψ,by simp;omega,fun _=>by simp[bK]⟩ ?_;simp;exact c8
  ·simp;(with_reducible repeat' first|refine aA ?_|simp);refine ck.at ⟨[],[]⟩ (.inl rfl) gb (fJ.refl _) aH aH ?_;simp[cz,CQ,bn,bp,bk];exact⟨Ω,bK Ψ⟩
 rw[bf c2];have ao:=gb;refine bT.mk mixed h6 D7 FV Ψ ao.obj fun aG b5=>?_;rw[DB];unfold AY;clear aG b5;simp;(with_reducible repeat' first|refine aA ?_|simp);refine gZ (fun x:List aF×Nat=>⟨[(4,.str x.1),(21,.slice 1 (.own (.loc 1)) [.str Cq,.str Cr]),(22,.int .i64 2),(23,.int .i64 x.2)],[],[(.loc 1,⟨2,9,1,none⟩)],2,[]⟩) (fun x=>2-x.2) (fun x=>x.2<=2/\x.1.length<=401*x.2/\(x.2≠0->x.1.head? =some 40)) ([],0) (by simp;exact c8) ⟨Ψ,Ψ,Ψ⟩ ?_;rintro⟨s,i⟩ ⟨aw,af,bK⟩ _;simp only at aw af bK⊢;have I:=acu;have J:=acv;have a7:=acs;rcases(by omega:i=0\/i=1\/i=2)with rfl|rfl|rfl
 ·obtain rfl:s=[]:=l3 Ω;simp;(with_reducible repeat' first|refine aA ?_|simp);refine bP.whl (Cq++[10],1) Ψ ⟨Ψ,by simp;omega,fun _=>by simp[a7]⟩ ?_;simp;exact c8
 ·have aE:s.length+(Cr).length+1<=bA:=by unfold bA;omega
  simp;(with_reducible repeat' first|refine aA ?_|simp[aE]);refine bP.whl (s++Cr++[10],2) Ψ ⟨Ψ,by simp;omega,fun _=>by simp[bK]⟩ ?_;simp;exact c8
 ·simp;(with_reducible repeat' first|refine aA ?_|simp);refine ck.at ⟨[],[]⟩ (.inl rfl) gb (fJ.refl _) aH aH ?_;simp[cz,CQ,bn,bp,bk];exact⟨Ω,bK Ψ⟩
theorem aep{t:List aF}{P:List Rl}(h:ye t=some P)(aI:t.head? =some 40):0<P.length:=by
 unfold ye at h;cases t with
 |nil=>simp at aI
 |cons c t=>
  simp at aI;subst aI;cases aa:nN (40::t)with
  |none=>rw[aa]at h;simp at h
  |some l=>
   rw[aa]at h;simp only[LI]at h;have aE:l=[40]::iO t:=by
    unfold nN at aa;split at aa
    ·cases aa;rw[Lp];simp
    ·cases aa
   subst aE;obtain⟨I,_⟩:=h;simp only[e3,uR]at I;split at I
   ·cases hr:uR (iO t).length _ with
    |none=>rw[hr]at I;simp at I
    |some Q=>rw[hr]at I;simp at I;rw[<-I];simp
   ·cases I
mutual
theorem RO(b:Bool):∀g:Gm,g.on b=true->nI g=true
 | .mk k s t gs,h=>by simp only[Gm.on,yd,bB]at h;simp only[nI,bB];exact⟨by have:=h.1.1;simpa using this,RP b gs h.2⟩
theorem RP(b:Bool):∀l:List Gm,Gm.onL b l=true->r6 l=true
 |[],_=>rfl
 |x::l,h=>by simp only[Gm.onL,bB]at h;simp only[r6,bB];exact⟨RO b x h.1,RP b l h.2⟩
end
def RD(P:List Rl):Prop:=il P=true/\(∀r∈P,nI r.body=true)/\0<P.length
theorem RE{b:Bool}{P:List Rl}(h:wk b P=true)(aE:0<P.length):RD P:=by unfold wk at h;simp only[bB,gC]at h;exact⟨h.1,fun r hr=>RO b _ (h.2 r hr),aE⟩
theorem Za(c:bS)(aD:c.ok):bT aP 163 [.ptr (.obj 401) 0,.slice 1 .no [.str [108,105,115,116,115],.str [103,114,97,112,104],.str [115,101,116,115],.str [103,97,109,101,115]]] (aL c) fun r aC=>r= .str (Cx (c.below 4))/\aC=aL (c.belowC 4):=by
 have ao:=cm c;have af:=c.below_le 4 Ω;refine bT.mk mixed q6 X8 adX Ψ ao.obj fun aG b5=>?_;unfold Nd;unfold aL;simp;(refine bI.ob (mg c aD 4) (cm _) (by unfold aL;exact aH) (by unfold aL;exact aH) (by simp[ah,aL,Pv.look]) ?_;rintro r aC ⟨rfl,rfl⟩;refine⟨cY _ _,?_⟩;unfold aL;simp[bu]);generalize aa:c.below 4=k at af⊢;rcases(by omega:k=0\/k=1\/k=2\/k=3)with rfl|rfl|rfl|rfl;all_goals(with_reducible repeat' first|refine aA ?_|simp)
 all_goals(refine ck.at (aL (c.belowC 4)) (.inl rfl) (cm _) (cY _ _) (by unfold aL;exact aH) (by unfold aL;exact aH) ?_;simp[cz,SV,bn,bp,bk,aL])
 all_goals simp[Cx]
theorem Zf(c:bS)(aD:c.ok):bT aP 95 [.ptr (.obj 401) 0] (aL c) fun r aC=>r= .str (Cx (c.below 4))/\aC=aL (c.belowC 4):=by have ao:=cm c;refine bT.mk mixed h6 Yq aef Ψ ao.obj fun aG b5=>?_;unfold Ny;clear aG b5;unfold aL;simp;(with_reducible repeat' first|refine aA ?_|simp);(refine bI.ob (Za c aD) (cm _) (by unfold aL;exact aH) (by unfold aL;exact aH) (by simp[ah,aL,Pv.look]) ?_;rintro r aC ⟨rfl,rfl⟩;refine⟨cY _ _,?_⟩;unfold aL;simp[bu]);(with_reducible repeat' first|refine aA ?_|simp);(refine ck.at (aL (c.belowC 4)) (.inl rfl) (cm _) (cY _ _) (by unfold aL;exact aH) (by unfold aL;exact aH) ?_;simp[cz,S3,bn,bp,bk,aL])
theorem YS(d:List Int)(a7:rp d)(aE:d.length<=10000000)(n:Nat)(aK:n<=1000000):bT aP 31 [.slice 1 .no (h1 d),.int .i64 n,.int .i64 1] ⟨[],[]⟩ fun r aC=>aC=⟨[],[]⟩/\∃P,r=gW P/\RD P:=by
 have ao:=gb;have aD:=DO a7 aE n;have hI:=aD.below 4;have fV:=hI.below 8;refine bT.mk mixed pk X2 adR Ψ ao.obj fun aG b5=>?_;unfold M7;clear aG b5;simp;refine bI.new (Ia d a7 aE n aK) ((fq.of ⟨by intro m;simp[Pv.look],by intro m;simp[Pv.look]⟩ (by simp[ai,ak,ah,Pv.look]) (by simp[ai,ak,ah,Pv.look]))) aH aH Ψ ?_;rintro r aC ⟨rfl,rfl⟩;refine⟨fun m _=>.inr Ψ,?_⟩;unfold aL;simp[bu];(with_reducible repeat' first|refine aA ?_|simp);(refine bI.ob (Zf _ aD) (cm _) (by unfold aL;exact aH) (by unfold aL;exact aH) (by simp[ah,aL,Pv.look]) ?_;rintro r aC ⟨rfl,rfl⟩;refine⟨cY _ _,?_⟩;unfold aL;simp[bu]);(with_reducible repeat' first|refine aA ?_|simp);refine bI.ob (YR _) gb (fun k cs h=>by simp[Pv.look]at h) (fun k cs h=>by simp[Pv.look]at h) (by simp[ai,ak]) ?_;rintro r aC ⟨rfl,t,rfl,aI,bK⟩;refine⟨fJ.refl _,?_⟩;simp[bu];have c1:=agG t (by unfold bA;omega);cases bq:ye t with
 |none=>rw[bq]at c1;simp only[nK]at c1;(with_reducible repeat' first|refine aA ?_|refine aX c1 ?_|refine aY c1 ?_|simp);(refine bI.ob (H9 _ hI) (cm _) (by unfold aL;exact aH) (by unfold aL;exact aH) (by simp[ah,aL,Pv.look]) ?_;rintro r aC ⟨rfl,rfl⟩;refine⟨cY _ _,?_⟩;unfold aL;simp[bu]);(with_reducible repeat' first|refine aA ?_|simp);refine ck.at ⟨[],[]⟩ (.inl rfl) gb (fJ.refl _) aH aH ?_;simp[cz,z8,bn,bp,bk];exact⟨_,rfl,HG _⟩
 |some P=>
  rw[bq]at c1;simp only[nK]at c1;have xv:=aep bq bK;have jI:=H8 _ hI 8;have dx:=agE P;have zC:=agF P;by_cases bD:((ku d n).belowC 4).below 8=0;rotate_left
  ·have rJ:(((ku d n).belowC 4).below 8==0)=false:=by simpa using bD
   rw[rJ]at jI;(with_reducible repeat' first|refine aA ?_|refine aX c1 ?_|refine aY c1 ?_|simp);(refine bI.ob (jI) (cm _) (by unfold aL;exact aH) (by unfold aL;exact aH) (by simp[ah,aL,Pv.look]) ?_;rintro r aC ⟨rfl,rfl⟩;refine⟨cY _ _,?_⟩;unfold aL;simp[bu]);(with_reducible repeat' first|refine aA ?_|simp);(refine bI.ob (H9 _ fV) (cm _) (by unfold aL;exact aH) (by unfold aL;exact aH) (by simp[ah,aL,Pv.look]) ?_;rintro r aC ⟨rfl,rfl⟩;refine⟨cY _ _,?_⟩;unfold aL;simp[bu]);(with_reducible repeat' first|refine aA ?_|simp);refine ck.at ⟨[],[]⟩ (.inl rfl) gb (fJ.refl _) aH aH ?_;simp[cz,z8,bn,bp,bk];exact⟨_,rfl,HG _⟩
  ·have rJ:(((ku d n).belowC 4).below 8==0)=true:=by simpa using bD
   rw[rJ]at jI;cases I:wk false P
   ·rw[I]at dx;cases J:wk true P
    ·rw[J]at zC;(with_reducible repeat' first|refine aA ?_|refine aX c1 ?_|refine aY c1 ?_|simp);(refine bI.ob (jI) (cm _) (by unfold aL;exact aH) (by unfold aL;exact aH) (by simp[ah,aL,Pv.look]) ?_;rintro r aC ⟨rfl,rfl⟩;refine⟨cY _ _,?_⟩;unfold aL;simp[bu]);(with_reducible repeat' first|refine aA ?_|refine aX dx ?_|refine aY dx ?_|refine aX zC ?_|refine aY zC ?_|simp);(refine bI.ob (H9 _ fV) (cm _) (by unfold aL;exact aH) (by unfold aL;exact aH) (by simp[ah,aL,Pv.look]) ?_;rintro r aC ⟨rfl,rfl⟩;refine⟨cY _ _,?_⟩;unfold aL;simp[bu]);(with_reducible repeat' first|refine aA ?_|simp);refine ck.at ⟨[],[]⟩ (.inl rfl) gb (fJ.refl _) aH aH ?_;simp[cz,z8,bn,bp,bk];exact⟨_,rfl,HG _⟩
    ·rw[J]at zC;(with_reducible repeat' first|refine aA ?_|refine aX c1 ?_|refine aY c1 ?_|simp);(refine bI.ob (jI) (cm _) (by unfold aL;exact aH) (by unfold aL;exact aH) (by simp[ah,aL,Pv.look]) ?_;rintro r aC ⟨rfl,rfl⟩;refine⟨cY _ _,?_⟩;unfold aL;simp[bu]);(with_reducible repeat' first|refine aA ?_|refine aX dx ?_|refine aY dx ?_|refine aX zC ?_|refine aY zC ?_|simp);refine ck.at ⟨[],[]⟩ (.inl rfl) gb (fJ.refl _) aH aH ?_;simp[cz,z8,bn,bp,bk];exact⟨P,rfl,RE J xv⟩
   ·rw[I]at dx;(with_reducible repeat' first|refine aA ?_|refine aX c1 ?_|refine aY c1 ?_|simp);(refine bI.ob (jI) (cm _) (by unfold aL;exact aH) (by unfold aL;exact aH) (by simp[ah,aL,Pv.look]) ?_;rintro r aC ⟨rfl,rfl⟩;refine⟨cY _ _,?_⟩;unfold aL;simp[bu]);(with_reducible repeat' first|refine aA ?_|refine aX dx ?_|refine aY dx ?_|simp);refine ck.at ⟨[],[]⟩ (.inl rfl) gb (fJ.refl _) aH aH ?_;simp[cz,z8,bn,bp,bk];exact⟨P,rfl,RE I xv⟩
def G4:C:=(ae [eA 1 0,bm 2 (.mov (.c (.str [])))] (.seq (ae [bH 9 2 1,cW 10 34 9,eP 11 10] (bt 11 (ae [bm 2 (.mov (.c (.str [])))] .ret) .skip)) (ae [bm 12 (.build [.nilp,.slice 1 .nil []] []),cd (.box 13 (some 861) (.t 12)),ab 3 13] (.seq (ae [a6 14 1 1 1,aW 15 1 14,cy 16 15,cA 17 0] (ir 18 17 16 (.seq (.block 1 (ae [ab 19 17,di 20 4 15 17,bH 21 4 20,cd (.alloc 5 none (.agg [.str [],.int .i64 0,.int .i64 0,.int .i64 0])),ab 4 19,bM 4 5 21] (.seq (.drawnW [862] 98 [ab 22 3,a6 23 0 1 5,aW 24 1 23,bm 25 (.bin .add false (.t 24) (.c (.str [47]))),a6 26 2 1 5,aW 27 1 26,cW 28 63 27,cC 29 .add 25 28,bm 30 (.bin .add false (.t 29) (.c (.str [58,10]))),dJ 31 62 22 30]) (ae [a6 32 1 1 5,aW 33 1 32,ab 6 33] (.block 2 (.loop (.seq (ae [ab 34 6,bH 35 2 1,ab 36 4,dJ 37 64 35 36,cC 38 .lss 34 37] (bt 38 .skip (.exit 2))) (.seq (.block 3 (ae [a6 41 0 1 1,aW 42 1 41,ab 43 6,di 44 7 42 43,bH 45 7 44,cd (.alloc 7 none (.agg [.int .i64 0,.int .i64 0,.int .i64 0,.int .i64 0,.str [],.slice 4 .nil [],.slice 4 .nil []])),bM 7 7 45] (ae [bm 8 (.mov (.c (.str [])))] (.seq (ae [a6 46 0 1 7,aW 47 1 46] (.block 4 (ae [a1 49 .eql 47 0,ab 48 49] (bt 48 (.region [hP 50 3 4 7,bH 51 4 50,cW 52 65 51,bm 53 (.bin .add false (.c (.str [114,101,113,117,105,114,101,32])) (.t 52)),ab 8 53]) (ae [a1 55 .eql 47 1,ab 54 55] (bt 54 (.drawn true 98 [a6 56 1 1 7,aW 57 1 56,cW 58 63 57,bm 59 (.bin .add false (.c (.str [116,114,121,32])) (.t 58)),bm 60 (.bin .add false (.t 59) (.c (.str [32]))),a6 61 2 1 7,aW 62 1 61,cW 63 63 62,cC 64 .add 60 63,ab 8 64]) (ae [a1 66 .eql 47 2,ab 65 66] (bt 65 (.region [a6 67 2 1 7,aW 68 1 67,cW 69 63 68,bm 70 (.bin .add false (.c (.str [112,105,99,107,32])) (.t 69)),ab 8 70]) (ae [a1 72 .eql 47 3,ab 71 72] (bt 71 (.region [a6 73 1 1 7,aW 74 1 73,cW 75 63 74,bm 76 (.bin .add false (.c (.str [106,117,109,112,32])) (.t 75)),ab 8 76]) (ae [a1 78 .eql 47 4,ab 77 78] (bt 77 (.region [bm 8 (.mov (.c (.str [102,97,105,108])))]) (ae [a1 80 .eql 47 5,ab 79 80] (bt 79 (.region [hP 81 3 4 7,bH 82 4 81,cW 83 65 82,bm 84 (.bin .add false (.c (.str [99,97,108,108,32])) (.t 83)),ab 8 84]) (ae [a1 86 .eql 47 6,ab 85 86] (bt 85 (.region [bm 8 (.mov (.c (.str [114,101,116,117,114,110])))]) .skip)))))))))))))))) (.region [ab 87 3,ab 88 6,cW 89 63 88,bm 90 (.bin .add false (.t 89) (.c (.str [32]))),ab 91 8,cC 92 .add 90 91,bm 93 (.bin .add false (.t 92) (.c (.str [10]))),dJ 94 62 87 93]))))) (.region [ab 39 6,a1 40 .add 39 1,ab 6 40]))))))))) (.region [a1 95 .add 17 1,ab 17 95])))) (ae [ab 96 3,⟨none,.opn (some 97) (.c (.func 66 [])) [.t 96]⟩,ab 2 97] .ret)))))
@[simp] def SH:List cp:=[.tmp 2]
def DC:C:=(ae [eA 1 0,cl 2 false] (.seq (ae [a6 10 1 1 1,aW 11 1 10,cy 12 11,a1 13 .eql 12 0,ab 14 13,aB 14 false (a6 15 1 1 1),aB 14 false (aW 16 1 15),aB 14 false (k0 17 4 16 0),aB 14 false (a6 18 1 1 17),aB 14 false (aW 19 1 18),aB 14 false (a1 20 .neq 19 0),c7 21 14 20] (bt 21 (ae [cl 2 false] .ret) .skip)) (.seq (ae [a6 22 1 1 1,aW 23 1 22,cy 24 23,cA 25 0] (ir 26 25 24 (.seq (.block 1 (ae [ab 27 25,di 28 4 23 25,bH 29 4 28,cd (.alloc 4 none (.agg [.str [],.int .i64 0,.int .i64 0,.int .i64 0])),ab 3 27,bM 4 4 29] (ae [ab 30 3,a6 31 1 1 1,aW 32 1 31,cy 33 32,a1 34 .sub 33 1,cC 35 .eql 30 34,ab 5 35] (.seq (ae [ab 36 5,ab 37 36,aB 37 true (a6 38 0 1 4),aB 37 true (aW 39 1 38),kF 37 true 40 (.bin .neq false (.t 39) (.c (.str []))),cj 37 true 41 40,aB 41 false (a6 42 2 1 4),aB 41 false (aW 43 1 42),aB 41 false (a1 44 .neq 43 0),aB 37 true (c7 45 41 44),dq 46 37 45,ab 47 46,cj 47 false 48 5,aB 47 false (eP 49 48),cj 47 false 50 49,aB 50 true (a6 51 0 1 4),aB 50 true (aW 52 1 51),aB 50 true (cW 53 103 52),aB 50 true (eP 54 53),cj 50 true 55 54,aB 55 false (bH 56 2 1),aB 55 false (a6 57 0 1 4),aB 55 false (aW 58 1 57),aB 55 false (dJ 59 104 56 58),cj 55 false 60 3,aB 55 false (cC 61 .neq 59 60),aB 50 true (c7 62 55 61),aB 47 false (dq 63 50 62),c7 64 47 63] (bt 64 (ae [cl 2 false] .ret) .skip)) (.seq (.drawn true 147 (a6 65 2 1 4::aW 66 1 65::a1 67 .lss 66 0::ab 68 67::aB 68 false (a6 69 2 1 4)::aB 68 false (aW 70 1 69)::aB 68 false (a1 71 .gtr 70 4)::c7 72 68 71::ab 73 72::aB 73 false (a6 74 3 1 4)::aB 73 false (aW 75 1 74)::aB 73 false (a6 76 2 1 4)::aB 73 false (aW 77 1 76)::aB 73 false (cC 78 .lss 75 77)::c7 79 73 78::ab 80 79::aB 80 false (a6 81 3 1 4)::aB 80 false (aW 82 1 81)::aB 80 false (a1 83 .gtr 82 100000)::c7 84 80 83::ab 85 84::aB 85 false (a6 86 1 1 4)::aB 85 false (aW 87 1 86)::aB 85 false (a1 88 .lss 87 0)::c7 89 85 88::ab 90 89::aB 90 false (a6 91 1 1 4)::aB 90 false (aW 92 1 91)::aB 90 false (a6 93 0 1 1)::aB 90 false (aW 94 1 93)::aB 90 false (cy 95 94)::aB 90 false (cC 96 .geq 92 95)::c7 97 90 96::ab 98 97::cj 98 false 99 3::aB 98 false (a1 100 .gtr 99 0)::cj 98 false 101 100::aB 101 true (a6 102 1 1 1)::aB 101 true (aW 103 1 102)::cj 101 true 104 3::aB 101 true (a1 105 .sub 104 1)::aB 101 true (di 106 4 103 105)::aB 101 true (a6 107 1 1 106)::aB 101 true (aW 108 1 107)::aB 101 true (a6 109 1 1 4)::aB 101 true (aW 110 1 109)::aB 101 true (cC 111 .geq 108 110)::aB 98 false (dq 112 101 111)::c7 113 98 112::[])) (bt 113 (ae [cl 2 false] .ret) .skip)))))) (.region [a1 114 .add 25 1,ab 25 114])))) (.seq (ae [a6 115 1 1 1,aW 116 1 115,cy 117 116,cA 118 0] (.block 2 (.loop (ae [cC 119 .lss 118 117] (.seq (bt 119 .skip (.exit 2)) (.seq (.block 3 (ae [ab 120 118,di 121 4 116 118,bH 122 4 121,cd (.alloc 7 none (.agg [.str [],.int .i64 0,.int .i64 0,.int .i64 0])),ab 6 120,bM 4 7 122] (ae [bH 123 2 1,ab 124 6,dJ 125 64 123 124,ab 8 125] (.seq (ae [a6 126 0 1 1,aW 127 1 126,ab 128 8,a1 129 .sub 128 1,di 130 7 127 129,a6 131 0 1 130,aW 132 1 131,a1 133 .neq 132 6] (bt 133 (ae [cl 2 false] .ret) .skip)) (ae [a6 134 1 1 7,aW 135 1 134,ab 9 135] (.block 4 (.loop (.seq (ae [ab 136 9,ab 137 8,cC 138 .lss 136 137] (bt 138 .skip (.exit 4))) (.seq (.block 5 (ae [bH 141 2 1,ab 142 9,ab 143 6,eg 144 105 [.t 141,.t 142,.t 143],eP 145 144] (bt 145 (ae [cl 2 false] .ret) .skip))) (.region [ab 139 9,a1 140 .add 139 1,ab 9 140])))))))))) (.region [a1 146 .add 118 1,ab 118 146]))))))) (ae [cl 2 true] .ret)))))
@[simp] def CO:List cp:=[.tmp 2]
def Hd:C:=(ae [eA 2 0,cA 4 0] (.seq (ae [ab 5 1,a1 6 .add 5 1,a6 7 1 1 2,aW 8 1 7,cy 9 8,cC 10 .lss 6 9] (bt 10 (ae [a6 11 1 1 2,aW 12 1 11,ab 13 1,a1 14 .add 13 1,di 15 4 12 14,a6 16 1 1 15,aW 17 1 16,ab 4 17] .ret) .skip)) (ae [a6 18 0 1 2,aW 19 1 18,cy 20 19,ab 4 20] .ret)))
@[simp] def aeP:List cp:=[.tmp 4]
def ML:C:=(ae [eA 2 0,cA 4 0] (.seq (ae [a6 7 1 1 2,aW 8 1 7,cy 9 8,cA 10 0] (ir 11 10 9 (.seq (.block 1 (ae [ab 12 10,di 13 4 8 10,bH 14 4 13,cd (.alloc 6 none (.agg [.str [],.int .i64 0,.int .i64 0,.int .i64 0])),ab 5 12,bM 4 6 14] (ae [a6 15 0 1 6,aW 16 1 15,ab 17 1,cC 18 .eql 16 17] (bt 18 (ae [ab 19 5,ab 4 19] .ret) .skip)))) (.region [a1 20 .add 10 1,ab 10 20])))) (ae [cA 4 (-1)] .ret)))
@[simp] def aeJ:List cp:=[.tmp 4]
def oR:C:=(ae [eA 3 0,cl 6 false] (ae [a6 14 0 1 3,aW 15 1 14,ab 16 1,di 17 7 15 16,bH 18 7 17,cd (.alloc 7 none (.agg [.int .i64 0,.int .i64 0,.int .i64 0,.int .i64 0,.str [],.slice 4 .nil [],.slice 4 .nil []])),bM 7 7 18] (ae [a6 19 1 1 3,aW 20 1 19,ab 21 2,di 22 4 20 21,a6 23 1 1 22,aW 24 1 23,ab 8 24] (ae [bH 25 2 3,ab 26 2,dJ 27 64 25 26,ab 9 27] (ae [a6 28 1 1 3,aW 29 1 28,ab 30 2,di 31 4 29 30,a6 32 3 1 31,aW 33 1 32,ab 10 33] (.seq (ae [a6 34 0 1 7,aW 35 1 34,a1 36 .neq 35 0,ab 37 36,aB 37 true (a6 38 0 1 7),aB 37 true (aW 39 1 38),aB 37 true (a1 40 .neq 39 5),dq 41 37 40,ab 42 41,aB 42 true (hP 43 3 4 7),aB 42 true (bH 44 4 43),aB 42 true (cW 45 171 44),aB 42 true (eP 46 45),dq 47 42 46] (bt 47 (ae [cl 6 false] .ret) .skip)) (ae [a6 48 1 1 7,aW 49 1 48,ab 50 1,cC 51 .gtr 49 50,ab 52 51,aB 52 true (a6 53 1 1 7),aB 52 true (aW 54 1 53),cj 52 true 55 8,aB 52 true (cC 56 .geq 54 55),dq 57 52 56,ab 58 57,aB 58 true (a6 59 1 1 7),aB 58 true (aW 60 1 59),cj 58 true 61 9,aB 58 true (cC 62 .lss 60 61),dq 63 58 62,ab 11 63] (.seq (ae [a6 64 0 1 7,aW 65 1 64] (.block 0 (ae [a1 67 .eql 65 0,ab 66 67] (bt 66 (ae (a6 68 1 1 7::aW 69 1 68::a1 70 .eql 69 0::ab 71 70::aB 71 true (a6 72 2 1 7)::aB 71 true (aW 73 1 72)::aB 71 true (a1 74 .eql 73 0)::dq 75 71 74::ab 76 75::aB 76 true (hP 77 3 4 7)::aB 76 true (bH 78 4 77)::aB 76 true (cW 79 115 78)::dq 80 76 79::ab 81 80::aB 81 true (hP 82 3 4 7)::aB 81 true (a6 83 0 1 82)::aB 81 true (aW 84 1 83)::aB 81 true (a1 85 .geq 84 2)::dq 86 81 85::ab 87 86::aB 87 true (hP 88 3 4 7)::aB 87 true (a6 89 0 1 88)::aB 87 true (aW 90 1 89)::aB 87 true (a1 91 .leq 90 6)::dq 92 87 91::ab 93 92::aB 93 true (hP 94 3 4 7)::aB 93 true (bH 95 4 94)::cj 93 true 96 10::aB 93 true (dJ 97 120 95 96)::dq 98 93 97::ab 6 98::[]) .ret) (ae [a1 100 .eql 65 5,ab 99 100] (bt 99 (.seq (ae [a6 101 1 1 7,aW 102 1 101,a1 103 .neq 102 0,ab 104 103,aB 104 false (a6 105 2 1 7),aB 104 false (aW 106 1 105),aB 104 false (a1 107 .neq 106 0),c7 108 104 107,ab 109 108,aB 109 false (hP 110 3 4 7),aB 109 false (bH 111 4 110),aB 109 false (cW 112 115 111),aB 109 false (eP 113 112),c7 114 109 113,ab 115 114,aB 115 false (hP 116 3 4 7),aB 115 false (a6 117 0 1 116),aB 115 false (aW 118 1 117),aB 115 false (a1 119 .neq 118 9),c7 120 115 119,ab 121 120,aB 121 false (hP 122 3 4 7),aB 121 false (bH 123 4 122),cj 121 false 124 10,aB 121 false (dJ 125 120 123 124),aB 121 false (eP 126 125),c7 127 121 126] (bt 127 (ae [cl 6 false] .ret) .skip)) (ae [bH 128 2 3,hP 129 3 4 7,a6 130 1 1 129,aW 131 1 130,dJ 132 104 128 131,ab 12 132] (.seq (.drawn true 233 [ab 133 12,a1 134 .geq 133 0,ab 135 134,aB 135 true (a6 136 1 1 3),aB 135 true (aW 137 1 136),cj 135 true 138 12,aB 135 true (di 139 4 137 138),aB 135 true (a6 140 2 1 139),aB 135 true (aW 141 1 140),aB 135 true (hP 142 3 4 7),aB 135 true (a6 143 2 1 142),aB 135 true (aW 144 1 143),aB 135 true (cy 145 144),aB 135 true (cC 146 .eql 141 145),dq 147 135 146,ab 6 147]) .ret))) (ae [a1 149 .eql 65 1,ab 148 149] (bt 148 (.seq (ae [ab 150 11,eP 151 150,ab 152 151,aB 152 false (a6 153 2 1 7),aB 152 false (aW 154 1 153),aB 152 false (a1 155 .lss 154 0),c7 156 152 155,ab 157 156,aB 157 false (a6 158 2 1 7),aB 157 false (aW 159 1 158),aB 157 false (a1 160 .gtr 159 7),c7 161 157 160] (bt 161 (ae [cl 6 false] .ret) .skip)) (ae [a6 162 0 1 3,aW 163 1 162,a6 164 1 1 7,aW 165 1 164,di 166 7 163 165,bH 167 7 166,cd (.alloc 13 none (.agg [.int .i64 0,.int .i64 0,.int .i64 0,.int .i64 0,.str [],.slice 4 .nil [],.slice 4 .nil []])),bM 7 13 167] (ae [a6 168 0 1 13,aW 169 1 168,a1 170 .eql 169 1,ab 171 170,aB 171 false (a6 172 0 1 13),aB 171 false (aW 173 1 172),aB 171 false (a1 174 .eql 173 2),c7 175 171 174,ab 176 175,aB 176 true (a6 177 2 1 13),aB 176 true (aW 178 1 177),aB 176 true (a6 179 2 1 7),aB 176 true (aW 180 1 179),aB 176 true (a1 181 .add 180 1),aB 176 true (cC 182 .eql 178 181),dq 183 176 182,ab 6 183] .ret))) (ae [a1 185 .eql 65 2,ab 184 185] (bt 184 (ae [a6 186 1 1 7,aW 187 1 186,a1 188 .eql 187 0,ab 189 188,aB 189 true (a6 190 2 1 7),aB 189 true (aW 191 1 190),aB 189 true (a1 192 .geq 191 0),dq 193 189 192,ab 194 193,aB 194 true (a6 195 2 1 7),aB 194 true (aW 196 1 195),aB 194 true (a1 197 .leq 196 7),dq 198 194 197,ab 6 198] .ret) (ae [a1 200 .eql 65 3,ab 199 200] (bt 199 (ae [ab 201 11,ab 202 201,aB 202 true (a6 203 2 1 7),aB 202 true (aW 204 1 203),aB 202 true (a1 205 .eql 204 0),dq 206 202 205,ab 6 206] .ret) (ae [a1 208 .eql 65 4,ab 207 208] (bt 207 (ae [a6 209 1 1 7,aW 210 1 209,a1 211 .eql 210 0,ab 212 211,aB 212 true (a6 213 2 1 7),aB 212 true (aW 214 1 213),aB 212 true (a1 215 .eql 214 0),dq 216 212 215,ab 6 216] .ret) (ae [a1 218 .eql 65 6,ab 217 218] (bt 217 (ae [a6 219 1 1 7,aW 220 1 219,a1 221 .eql 220 0,ab 222 221,aB 222 true (a6 223 2 1 7),aB 222 true (aW 224 1 223),aB 222 true (a1 225 .eql 224 0),dq 226 222 225,ab 227 226,cj 227 true 228 1,cj 227 true 229 9,aB 227 true (a1 230 .sub 229 1),aB 227 true (cC 231 .eql 228 230),dq 232 227 231,ab 6 232] .ret) .skip)))))))))))))))) (ae [cl 6 false] .ret)))))))))
@[simp] def pd:List cp:=[.tmp 6]
def Ar:List (Nat×du):=[
 (3,⟨1,8,.int .i64,.int .i64 0⟩),
 (9,⟨1,16,.str,.str []⟩),
 (28,⟨1,24,.slice 74,.slice 7 .nil []⟩),
 (29,⟨1,24,.slice 99,.slice 4 .nil []⟩),
 (31,⟨2,48,.struct [(0,28),(1,29)],.agg [.slice 7 .nil [],.slice 4 .nil []]⟩),
 (35,⟨1,24,.slice 5,.slice 1 .nil []⟩),
 (38,⟨1,24,.slice 40,.slice 4 .nil []⟩),
 (65,⟨4,72,.struct [(0,3),(1,9),(2,38),(3,63)],.agg [.int .i64 0,.str [],.slice 4 .nil [],.slice 4 .nil []]⟩),
 (74,⟨7,96,.struct [(0,3),(1,3),(2,3),(3,65)],.agg [.int .i64 0,.int .i64 0,.int .i64 0,.int .i64 0,.str [],.slice 4 .nil [],.slice 4 .nil []]⟩),
 (99,⟨4,40,.struct [(0,9),(1,3),(2,3),(3,3)],.agg [.str [],.int .i64 0,.int .i64 0,.int .i64 0]⟩),
 (104,⟨1,8,.other,.nilp⟩),
 (106,⟨2,32,.struct [(0,104),(1,35)],.agg [.nilp,.slice 1 .nil []]⟩)]
theorem kZ:fS aP Ar=true:=by kernel_rfl
theorem R2:cF Ar G4 SH 1 Tryz.f13=true:=by kernel_rfl
theorem OA:aP.funcs[(13:Nat)]? =some Tryz.f13:=Tryz.func13
theorem Kg:cF Ar DC CO 1 Tryz.f34=true:=by kernel_rfl
theorem HW:aP.funcs[(34:Nat)]? =some Tryz.f34:=Tryz.func34
theorem Sb:cF Ar Hd aeP 2 Tryz.f64=true:=by kernel_rfl
theorem OJ:aP.funcs[(64:Nat)]? =some Tryz.f64:=Tryz.func64
theorem adw:cF Ar ML aeJ 2 Tryz.f104=true:=by kernel_rfl
theorem XH:aP.funcs[(104:Nat)]? =some Tryz.f104:=Tryz.func104
theorem p4:cF Ar oR pd 3 Tryz.f105=true:=by kernel_rfl
theorem pL:aP.funcs[(105:Nat)]? =some Tryz.f105:=Tryz.func105
def QR(es:List Ey)(s:List aF)(i:Nat):Prop:= ∀(k:Nat) (e:Ey),k<i->es[k]? =some e->e.name≠s
theorem Ue(c:Cd)(s:List aF):cg aP 104 [c.e,.str s] (.int .i64 (iY c.es s)):=by
 generalize bh:iY c.es s=R;refine bJ kZ XH adw fun aG=>?_;unfold ML;have fW:c.es.length<=68719476736:=by simp[Cd.e_eq,-GS,j1,iW,jA,bA]at aG;omega
 clear aG;simp;refine fM (fun i (_:Unit)=>⟨[(1,.str s),(8,.slice 4 .no (c.es.map Ey.e)),(9,.int .i64 c.es.length),(10,.int .i64 i)],[],[],0,[]⟩) c.es.length (fun i _=>QR c.es s i) () (by simp;exact c8) (fun k b aa=>Ω) (fun _ al _=>?_) (fun i _ aw al _=>?_)
 ·have:R= -1:=by rw[<-bh];exact Wu fun j f aM=>al j f (cX.1 aM).1 aM
  subst this;clear al bh;exact bZ
 ·obtain⟨e,he,eF⟩:=gd aw;have b2:aZ ((i:Int)+1):=by unfold aZ;omega
  by_cases aK:e.name=s
  ·have:R=i:=by rw[<-bh];exact DZ he aK al
   subst this;clear al bh;subst aK;exact bZ
  ·have hb:(e.name==s)=false:=by simpa using aK
   have gr:QR c.es s (i+1):=fun k f aa aM=>by
    rcases hS k i with h|h
    ·exact al k f h aM
    ·obtain rfl:k=i:=Ω
     rw[he]at aM;cases aM;exact aK
   clear al bh;exact qU
theorem tA(c:Cd)(i:Nat)(aw:i<c.es.length):cg aP 64 [c.e,.int .i64 i] (.int .i64 (c.fin i)):=by
 by_cases h:i+1<c.es.length
 ·obtain⟨e,he⟩:∃e,c.es[i+1]? =some e:=⟨_,bO h⟩;have eF:∀h,(c.es[i+1]'h)=e:=fun cr=>by rw[bO h]at he;exact dZ he
  rw[Cd.fin_of he];refine bJ kZ OJ Sb fun aG=>?_;unfold Hd;have fW:c.es.length<=68719476736:=by simp[Cd.e_eq,-GS,j1,iW,jA,bA]at aG;omega
  have b2:aZ ((i:Int)+1):=by unfold aZ;omega
  have b7:(i:Int)+1<c.es.length:=Ω
  have ai1:(0:Int)<=(i:Int)+1:=Ω
  have ai2:((i:Int)+1).toNat=i+1:=Ω
  clear aG;exact bZ
 ·rw[Cd.fin_last Ω];refine bJ kZ OJ Sb fun aG=>?_;unfold Hd;have fW:c.es.length<=68719476736:=by simp[Cd.e_eq,-GS,j1,iW,jA,bA]at aG;omega
  have b2:aZ ((i:Int)+1):=by unfold aZ;omega
  have b7:¬(i:Int)+1<c.es.length:=Ω
  clear aG;exact bZ
def iL(c:Cd)(e:Ey)(en at':Int)(x:Ix):Bool:=
 if x.op=0 then x.a==0&&x.b==0&&x.g.fits 80&&decide (2<=x.g.kind)&&decide (x.g.kind<=6)&&mC x.g e.vars
 else if x.op=5 then x.a==0&&x.b==0&&x.g.fits 80&&x.g.kind==9&&mC x.g e.vars&&(decide (0<=iY c.es x.g.name)&&(match c.es[(iY c.es x.g.name).toNat]? with|some f=>f.ar==(x.g.ts.length:Int)|none=>false))
 else x5 x.g&&(
  if x.op=1 then(decide (at'<x.a)&&decide (e.pos<=x.a)&&decide (x.a<en))&&(decide (0<=x.b)&&decide (x.b<=7))&&(match c.is[x.a.toNat]? with|some y=>(y.op==1||y.op==2)&&y.b==x.b+1|none=>false)
  else if x.op=2 then x.a==0&&decide (0<=x.b)&&decide (x.b<=7)
  else if x.op=3 then(decide (at'<x.a)&&decide (e.pos<=x.a)&&decide (x.a<en))&&x.b==0
  else if x.op=4 then x.a==0&&x.b==0
  else if x.op=6 then x.a==0&&x.b==0&&at'==en-1
  else false)
theorem Wv(es:List Ey)(s:List aF)(P:Ey->Prop)(B:Ey->Bool)(hB:∀f,B f=true↔P f):(decide (0<=iY es s)&&(match es[(iY es s).toNat]? with|some f=>B f|none=>false))=true↔∃(k:Nat) (f:Ey),iY es s=(k:Nat)/\es[k]? =some f/\P f:=by
 constructor
 ·intro h;rw[bB,ef]at h;obtain⟨bD,h⟩:=h;split at h
  ·rename_i f aM;exact⟨_,f,Ω,aM,(hB f).1 h⟩
  ·cases h
 ·rintro⟨k,f,I,J,av⟩;rw[I];simp only[Int.toNat_natCast,J,(hB f).2 av];simp
theorem Zl(l:List Ix)(n:Nat)(P:Ix->Prop)(B:Ix->Bool)(hB:∀f,B f=true↔P f):(match l[n]? with|some f=>B f|none=>false)=true↔∃f,l[n]? =some f/\P f:=by
 cases h:l[n]? with
 |none=>simp
 |some f=>simp[hB]
theorem QO(c:Cd)(e:Ey)(en at':Int)(x:Ix):iL c e en at' x=true↔rY c e en at' x:=by
 unfold iL rY;by_cases bD:x.op=0
 ·simp[bD,Da,and_assoc]
 by_cases bE:x.op=5
 ·have e:=Wv c.es x.g.name (fun f=>f.ar=x.g.ts.length) (fun f=>f.ar==(x.g.ts.length:Int)) (fun f=>by simp);rw[bf bD,bN bE];rw[bB];refine(and_congr Iff.rfl e).trans ?_;simp[bE,Da,and_assoc]
 by_cases I:x.op=1
 ·have e:=Zl c.is x.a.toNat (fun y=>(y.op=1\/y.op=2)/\y.b=x.b+1) (fun y=>(y.op==1||y.op==2)&&y.b==x.b+1) (fun f=>by simp);rw[bf bD,bf bE,bN I];rw[bB,bB];refine(and_congr Iff.rfl (and_congr Iff.rfl e)).trans ?_;simp[I,and_assoc]
 by_cases J:x.op=2
 ·simp[J,and_assoc]
 by_cases av:x.op=3
 ·simp[av,and_assoc]
 by_cases aV:x.op=4
 ·simp[aV,and_assoc]
 by_cases ch:x.op=6
 ·simp[ch,and_assoc]
 simp[bD,I,J,av,aV,bE,ch];intro _ _;omega
end
section
open Go Go.Pv
section
variable (c:Cd) (k i:Nat) {x:Ix} {e:Ey} (ad:c.is[k]? =some x) (he:c.es[i]? =some e)
include ad he
set_option maxRecDepth 8000 in
theorem abS(bD:x.op=0):cg aP 105 [c.e,.int .i64 k,.int .i64 i] (.bool (iL c e (c.fin i) k x)):=by
 have fZ:=(cX.1 ad).1;have fm:=(cX.1 he).1;have dn:∀h,(c.is[k]'h)=x:=fun h=>by rw[bO fZ]at ad;exact dZ ad
 have eF:∀h,(c.es[i]'h)=e:=fun h=>by rw[bO fm]at he;exact dZ he
 have cB:=tA c i fm;generalize bh:iL c e (c.fin i) k x=R;unfold iL at bh;have e0:=Lx x.g;rw[bN bD]at bh;generalize c.fin i=en at cB;cases aM:x.g.fits 80
 ·rw[aM]at e0 bh;simp at bh;refine bJ kZ pL p4 fun aG=>?_;unfold oR;clear aG;simp[fZ,fm,dn,eF,ad,he];((with_reducible repeat' first|refine aA ?_|refine aX cB ?_|refine aY cB ?_|refine aX e0 ?_|refine aY e0 ?_|simp[bD,fZ,fm,dn,eF,ad,he]|((first|apply cu|apply cw|apply cv)<;>intro h<;>try simp at h))<;>(try exact cK));all_goals(simp[b1,pd,bn,bp,bk];simp_all;done)
 ·have ga:=C8 x.g (by unfold Gm.fits at aM;rw[bB]at aM;exact aM.1) e.vars;rw[aM]at e0 bh;refine bJ kZ pL p4 fun aG=>?_;unfold oR;clear aG;simp[fZ,fm,dn,eF,ad,he];((with_reducible repeat' first|refine aA ?_|refine aX cB ?_|refine aY cB ?_|refine aX e0 ?_|refine aY e0 ?_|refine aX ga ?_|refine aY ga ?_|simp[bD,fZ,fm,dn,eF,ad,he]|((first|apply cu|apply cw|apply cv)<;>intro h<;>try simp at h))<;>(try exact cK));all_goals simp[b1,pd,bn,bp,bk]
  all_goals clear cB e0 ga
  all_goals first|(simp_all;done)|grind
end
end
section
open Go Go.Pv
section
variable (c:Cd) (k i:Nat) {x:Ix} {e:Ey} (ad:c.is[k]? =some x) (he:c.es[i]? =some e)
include ad he
set_option maxRecDepth 8000 in
theorem abX(bD:x.op=5):cg aP 105 [c.e,.int .i64 k,.int .i64 i] (.bool (iL c e (c.fin i) k x)):=by
 have fZ:=(cX.1 ad).1;have fm:=(cX.1 he).1;have dn:∀h,(c.is[k]'h)=x:=fun h=>by rw[bO fZ]at ad;exact dZ ad
 have eF:∀h,(c.es[i]'h)=e:=fun h=>by rw[bO fm]at he;exact dZ he
 have cB:=tA c i fm;generalize bh:iL c e (c.fin i) k x=R;unfold iL at bh;have e0:=Lx x.g;have dV:=Ue c x.g.name;rw[bf Ω,bN bD]at bh;generalize c.fin i=en at cB;cases aM:x.g.fits 80
 ·rw[aM]at e0 bh;simp at bh;refine bJ kZ pL p4 fun aG=>?_;unfold oR;clear aG;simp[fZ,fm,dn,eF,ad,he];((with_reducible repeat' first|refine aA ?_|refine aX cB ?_|refine aY cB ?_|refine aX e0 ?_|refine aY e0 ?_|simp[bD,fZ,fm,dn,eF,ad,he]|((first|apply cu|apply cw|apply cv)<;>intro h<;>try simp at h))<;>(try exact cK));all_goals(simp[b1,pd,bn,bp,bk];simp_all;done)
 ·have ga:=C8 x.g (by unfold Gm.fits at aM;rw[bB]at aM;exact aM.1) e.vars;rw[aM]at e0 bh;have aa:iY c.es x.g.name= -1\/ ∃j f,iY c.es x.g.name=(j:Nat)/\c.es[j]? =some f:=by
   by_cases h:0<=iY c.es x.g.name
   ·obtain⟨j,al⟩:∃j:Nat,iY c.es x.g.name=j:=⟨(iY c.es x.g.name).toNat,Ω⟩;obtain⟨f,I,_⟩:=HK al;exact .inr ⟨j,f,al,I⟩
   ·left;unfold iY at h⊢;split at h
    ·omega
    ·rfl
  rcases aa with aa|⟨j,f,al,mm⟩
  ·rw[aa]at bh dV;simp at bh;refine bJ kZ pL p4 fun aG=>?_;unfold oR;clear aG;simp[fZ,fm,dn,eF,ad,he];((with_reducible repeat' first|refine aA ?_|refine aX cB ?_|refine aY cB ?_|refine aX e0 ?_|refine aY e0 ?_|refine aX ga ?_|refine aY ga ?_|refine aX dV ?_|refine aY dV ?_|simp[bD,fZ,fm,dn,eF,ad,he]|((first|apply cu|apply cw|apply cv)<;>intro h<;>try simp at h))<;>(try exact cK));all_goals simp[b1,pd,bn,bp,bk]
   all_goals clear cB e0 ga
   all_goals first|(simp_all;done)|grind
  ·have eS:=(cX.1 mm).1;have aaB:∀h,(c.es[j]'h)=f:=fun h=>by rw[bO eS]at mm;exact dZ mm
   rw[al]at bh dV;simp[mm]at bh;refine bJ kZ pL p4 fun aG=>?_;unfold oR;clear aG;simp[fZ,fm,dn,eF,ad,he];((with_reducible repeat' first|refine aA ?_|refine aX cB ?_|refine aY cB ?_|refine aX e0 ?_|refine aY e0 ?_|refine aX ga ?_|refine aY ga ?_|refine aX dV ?_|refine aY dV ?_|simp[bD,fZ,fm,dn,eF,ad,he,eS,aaB,mm]|((first|apply cu|apply cw|apply cv)<;>intro h<;>try simp at h))<;>(try exact cK));all_goals simp[b1,pd,bn,bp,bk]
   all_goals clear cB e0 ga
   all_goals first|(simp_all;done)|grind
end
end
section
open Go Go.Pv
section
variable (c:Cd) (k i:Nat) {x:Ix} {e:Ey} (ad:c.is[k]? =some x) (he:c.es[i]? =some e)
include ad he
set_option maxRecDepth 8000 in
theorem abT(bD:x.op=1)(ml:c.fin i<=c.is.length)(oW:0<=e.pos):cg aP 105 [c.e,.int .i64 k,.int .i64 i] (.bool (iL c e (c.fin i) k x)):=by
 have fZ:=(cX.1 ad).1;have fm:=(cX.1 he).1;have dn:∀h,(c.is[k]'h)=x:=fun h=>by rw[bO fZ]at ad;exact dZ ad
 have eF:∀h,(c.es[i]'h)=e:=fun h=>by rw[bO fm]at he;exact dZ he
 have cB:=tA c i fm;generalize bh:iL c e (c.fin i) k x=R;unfold iL at bh;have bX:=Ax x.g;rw[bf Ω,bf Ω,bN bD]at bh;generalize c.fin i=en at cB bh ml;by_cases lO:(k:Int)<x.a/\e.pos<=x.a/\x.a<en
 ·obtain⟨y,bC⟩:∃y,c.is[x.a.toNat]? =some y:=⟨_,bO Ω⟩;obtain⟨a,b4⟩:∃a:Nat,x.a=a:=⟨x.a.toNat,Ω⟩;rw[b4]at bC lO bh;simp only[Int.toNat_natCast]at bC bh;have h2:=(cX.1 bC).1;have Qz:∀h,(c.is[a]'h)=y:=fun h=>by rw[bO h2]at bC;exact dZ bC
  obtain⟨i1,i2,i3⟩:=lO;simp[bC,i1,i2,i3]at bh;by_cases af:0<=x.b/\x.b<=7
  ·obtain⟨bQ,b3⟩:=af;have Ik:aZ (x.b+1):=by unfold aZ;omega
   simp[bQ,b3]at bh;have acZ:¬x.b<0:=Ω
   have ac0:¬7<x.b:=Ω
   refine bJ kZ pL p4 fun aG=>?_;unfold oR;clear aG;simp[fZ,fm,dn,eF,ad,he];((with_reducible repeat' first|refine aA ?_|refine aX cB ?_|refine aY cB ?_|refine aX bX ?_|refine aY bX ?_|simp[bD,fZ,fm,dn,eF,ad,he,b4,h2,Qz,bC,i1,i2,i3,acZ,ac0,Ik]|((first|apply cu|apply cw|apply cv)<;>intro h<;>try simp at h))<;>(try exact cK));all_goals simp[b1,pd,bn,bp,bk]
   all_goals clear cB bX
   all_goals first|(simp_all;done)|grind
  ·have Ij:R=false:=by rw[<-bh];simp;intro _ I J;exact absurd ⟨I,J⟩ af
   clear bh;subst Ij;refine bJ kZ pL p4 fun aG=>?_;unfold oR;clear aG;simp[fZ,fm,dn,eF,ad,he];((with_reducible repeat' first|refine aA ?_|refine aX cB ?_|refine aY cB ?_|refine aX bX ?_|refine aY bX ?_|simp[bD,fZ,fm,dn,eF,ad,he,b4,h2,Qz,bC,i1,i2,i3]|((first|apply cu|apply cw|apply cv)<;>intro h<;>try simp at h))<;>(try exact cK));all_goals simp[b1,pd,bn,bp,bk]
   all_goals clear cB bX
   all_goals first|(simp_all;done)|grind
 ·have Ij:R=false:=by rw[<-bh];simp;intro _ I J av;exact absurd ⟨I,J,av⟩ lO
  clear bh;subst Ij;refine bJ kZ pL p4 fun aG=>?_;unfold oR;clear aG;simp[fZ,fm,dn,eF,ad,he];((with_reducible repeat' first|refine aA ?_|refine aX cB ?_|refine aY cB ?_|refine aX bX ?_|refine aY bX ?_|simp[bD,fZ,fm,dn,eF,ad,he]|((first|apply cu|apply cw|apply cv)<;>intro h<;>try simp at h))<;>(try exact cK));all_goals simp[b1,pd,bn,bp,bk]
  all_goals clear cB bX
  all_goals first|(simp_all;done)|grind
end
end
section
open Go Go.Pv
section
variable (c:Cd) (k i:Nat) {x:Ix} {e:Ey} (ad:c.is[k]? =some x) (he:c.es[i]? =some e)
include ad he
set_option maxRecDepth 8000 in
theorem abU(bD:x.op=2):cg aP 105 [c.e,.int .i64 k,.int .i64 i] (.bool (iL c e (c.fin i) k x)):=by
 have fZ:=(cX.1 ad).1;have fm:=(cX.1 he).1;have dn:∀h,(c.is[k]'h)=x:=fun h=>by rw[bO fZ]at ad;exact dZ ad
 have eF:∀h,(c.es[i]'h)=e:=fun h=>by rw[bO fm]at he;exact dZ he
 have cB:=tA c i fm;generalize bh:iL c e (c.fin i) k x=R;unfold iL at bh;have bX:=Ax x.g;rw[bf Ω,bf Ω,bf Ω,bN bD]at bh;generalize c.fin i=en at cB bh;refine bJ kZ pL p4 fun aG=>?_;unfold oR;clear aG;simp[fZ,fm,dn,eF,ad,he];((with_reducible repeat' first|refine aA ?_|refine aX cB ?_|refine aY cB ?_|refine aX bX ?_|refine aY bX ?_|simp[bD,fZ,fm,dn,eF,ad,he]|((first|apply cu|apply cw|apply cv)<;>intro h<;>try simp at h))<;>(try exact cK));all_goals simp[b1,pd,bn,bp,bk]
 all_goals clear cB bX
 all_goals first|(simp_all;done)|grind
set_option maxRecDepth 8000 in
theorem abV(bD:x.op=3):cg aP 105 [c.e,.int .i64 k,.int .i64 i] (.bool (iL c e (c.fin i) k x)):=by
 have fZ:=(cX.1 ad).1;have fm:=(cX.1 he).1;have dn:∀h,(c.is[k]'h)=x:=fun h=>by rw[bO fZ]at ad;exact dZ ad
 have eF:∀h,(c.es[i]'h)=e:=fun h=>by rw[bO fm]at he;exact dZ he
 have cB:=tA c i fm;generalize bh:iL c e (c.fin i) k x=R;unfold iL at bh;have bX:=Ax x.g;rw[bf Ω,bf Ω,bf Ω,bf Ω,bN bD]at bh;generalize c.fin i=en at cB bh;refine bJ kZ pL p4 fun aG=>?_;unfold oR;clear aG;simp[fZ,fm,dn,eF,ad,he];((with_reducible repeat' first|refine aA ?_|refine aX cB ?_|refine aY cB ?_|refine aX bX ?_|refine aY bX ?_|simp[bD,fZ,fm,dn,eF,ad,he]|((first|apply cu|apply cw|apply cv)<;>intro h<;>try simp at h))<;>(try exact cK));all_goals simp[b1,pd,bn,bp,bk]
 all_goals clear cB bX
 all_goals first|(simp_all;done)|grind
set_option maxRecDepth 8000 in
theorem abW(bD:x.op=4):cg aP 105 [c.e,.int .i64 k,.int .i64 i] (.bool (iL c e (c.fin i) k x)):=by
 have fZ:=(cX.1 ad).1;have fm:=(cX.1 he).1;have dn:∀h,(c.is[k]'h)=x:=fun h=>by rw[bO fZ]at ad;exact dZ ad
 have eF:∀h,(c.es[i]'h)=e:=fun h=>by rw[bO fm]at he;exact dZ he
 have cB:=tA c i fm;generalize bh:iL c e (c.fin i) k x=R;unfold iL at bh;have bX:=Ax x.g;rw[bf Ω,bf Ω,bf Ω,bf Ω,bf Ω,bN bD]at bh;generalize c.fin i=en at cB bh;refine bJ kZ pL p4 fun aG=>?_;unfold oR;clear aG;simp[fZ,fm,dn,eF,ad,he];((with_reducible repeat' first|refine aA ?_|refine aX cB ?_|refine aY cB ?_|refine aX bX ?_|refine aY bX ?_|simp[bD,fZ,fm,dn,eF,ad,he]|((first|apply cu|apply cw|apply cv)<;>intro h<;>try simp at h))<;>(try exact cK));all_goals simp[b1,pd,bn,bp,bk]
 all_goals clear cB bX
 all_goals first|(simp_all;done)|grind
end
end
section
open Go Go.Pv
section
variable (c:Cd) (k i:Nat) {x:Ix} {e:Ey} (ad:c.is[k]? =some x) (he:c.es[i]? =some e)
include ad he
set_option maxRecDepth 8000 in
theorem abY(bD:x.op=6)(ml:c.fin i<=c.is.length)(aK:c.is.length<=100000000)(IB:0<=c.fin i):cg aP 105 [c.e,.int .i64 k,.int .i64 i] (.bool (iL c e (c.fin i) k x)):=by
 have fZ:=(cX.1 ad).1;have fm:=(cX.1 he).1;have dn:∀h,(c.is[k]'h)=x:=fun h=>by rw[bO fZ]at ad;exact dZ ad
 have eF:∀h,(c.es[i]'h)=e:=fun h=>by rw[bO fm]at he;exact dZ he
 have cB:=tA c i fm;generalize bh:iL c e (c.fin i) k x=R;unfold iL at bh;have bX:=Ax x.g;rw[bf Ω,bf Ω,bf Ω,bf Ω,bf Ω,bf Ω,bN bD]at bh;generalize c.fin i=en at cB bh ml IB;have aah:aZ (en-1):=by unfold aZ;omega
 refine bJ kZ pL p4 fun aG=>?_;unfold oR;clear aG;simp[fZ,fm,dn,eF,ad,he];((with_reducible repeat' first|refine aA ?_|refine aX cB ?_|refine aY cB ?_|refine aX bX ?_|refine aY bX ?_|simp[bD,fZ,fm,dn,eF,ad,he,aah]|((first|apply cu|apply cw|apply cv)<;>intro h<;>try simp at h))<;>(try exact cK));all_goals simp[b1,pd,bn,bp,bk]
 all_goals clear cB bX
 all_goals first|(simp_all;done)|grind
set_option maxRecDepth 8000 in
theorem abZ(bD:x.op<0\/6<x.op):cg aP 105 [c.e,.int .i64 k,.int .i64 i] (.bool (iL c e (c.fin i) k x)):=by
 have fZ:=(cX.1 ad).1;have fm:=(cX.1 he).1;have dn:∀h,(c.is[k]'h)=x:=fun h=>by rw[bO fZ]at ad;exact dZ ad
 have eF:∀h,(c.es[i]'h)=e:=fun h=>by rw[bO fm]at he;exact dZ he
 have cB:=tA c i fm;generalize bh:iL c e (c.fin i) k x=R;unfold iL at bh;have bX:=Ax x.g;have q:∀n:Int,0<=n->n<=6->(x.op==n)=false:=fun n I J=>jL.2 Ω;have wv:=q 0 Ω Ω;have b9:=q 1 Ω Ω;have cx:=q 2 Ω Ω;have dp:=q 3 Ω Ω;have c6:=q 4 Ω Ω;have cH:=q 5 Ω Ω;have iD:=q 6 Ω Ω;have z1:(x.op !=0)=true:=by simp only[bne,wv];rfl
 have SF:(x.op !=5)=true:=by simp only[bne,cH];rfl
 rw[bf Ω,bf Ω,bf Ω,bf Ω,bf Ω,bf Ω,bf Ω,Bool.and_false]at bh;subst bh;generalize c.fin i=en at cB;clear q bD;refine bJ kZ pL p4 fun aG=>?_;unfold oR;clear aG;simp[fZ,fm,dn,eF,ad,he];((with_reducible repeat' first|refine aA ?_|refine aX cB ?_|refine aY cB ?_|refine aX bX ?_|refine aY bX ?_|simp[fZ,fm,dn,eF,ad,he,wv,b9,cx,dp,c6,cH,iD,z1,SF]|((first|apply cu|apply cw|apply cv)<;>intro h<;>try simp at h))<;>(try exact cK));all_goals simp[b1,pd,bn,bp,bk]
 all_goals clear cB bX
 all_goals first|(simp_all;done)|grind
end
end
section
open Go Go.Pv
theorem agn(c:Cd)(k i:Nat){x:Ix}{e:Ey}(ad:c.is[k]? =some x)(he:c.es[i]? =some e)(aK:c.is.length<=100000000)(ml:c.fin i<=c.is.length)(IB:0<=c.fin i)(oW:0<=e.pos):cg aP 105 [c.e,.int .i64 k,.int .i64 i] (.bool (iL c e (c.fin i) k x)):=by
 by_cases bD:x.op=0
 ·exact abS c k i ad he bD
 by_cases I:x.op=1
 ·exact abT c k i ad he I ml oW
 by_cases J:x.op=2
 ·exact abU c k i ad he J
 by_cases av:x.op=3
 ·exact abV c k i ad he av
 by_cases aV:x.op=4
 ·exact abW c k i ad he aV
 by_cases bE:x.op=5
 ·exact abX c k i ad he bE
 by_cases ch:x.op=6
 ·exact abY c k i ad he ch ml aK IB
 exact abZ c k i ad he Ω
def jB(c:Cd):List (aJ×List ag):=[(.loc 0,[.slice 7 .no (c.is.map Ix.e),.slice 4 .no (c.es.map Ey.e)])]
def pC(c:Cd)(i:Nat)(_:Unit):bb:=⟨[(1,.ptr (.loc 0) 0),(23,.slice 4 .no (c.es.map Ey.e)),(24,.int .i64 c.es.length),(25,.int .i64 i)],jB c,[],1,[]⟩
def yK(c:Cd)(i:Nat)(_:Unit):bb:=⟨[(1,.ptr (.loc 0) 0),(116,.slice 4 .no (c.es.map Ey.e)),(117,.int .i64 c.es.length),(118,.int .i64 i)],jB c,[],1,[]⟩
def Dl(c:Cd)(i:Nat)(_:Unit):Prop:= ∀(k:Nat) (e:Ey),k<i->c.es[k]? =some e->wM c k e
def Dm(c:Cd)(i:Nat)(_:Unit):Prop:= ∀(k:Nat) (e:Ey),k<i->c.es[k]? =some e->Di c k e
def yL(c:Cd)(i N:Nat)(k:Nat):bb:=⟨[(1,.ptr (.loc 0) 0),(116,.slice 4 .no (c.es.map Ey.e)),(117,.int .i64 c.es.length),(118,.int .i64 i),(6,.int .i64 i),(8,.int .i64 N),(9,.int .i64 k)],jB c,[],1,[]⟩
theorem Dl.all{c:Cd}{u:Unit}(h:Dl c c.es.length u):∀i e,c.es[i]? =some e->wM c i e:=fun i e he=>h i e (cX.1 he).1 he
theorem Dm.all{c:Cd}{u:Unit}(h:Dm c c.es.length u):∀i e,c.es[i]? =some e->Di c i e:=fun i e he=>h i e (cX.1 he).1 he
open Classical in
set_option maxRecDepth 8000 in
theorem Lw(c:Cd)(ie:c.is.length<=100000000)(xA:c.es.length<=100000000):cg aP 34 [c.e] (.bool (decide (lE c))):=by
 generalize bh:decide (lE c)=R;by_cases bD:c.es=[]
 ·have:R=false:=by rw[<-bh];refine ly ?_;rintro⟨⟨e,he,_⟩,_⟩;rw[bD]at he;cases he
  subst this;clear bh;refine bJ kZ HW Kg fun aG=>?_;unfold DC;clear aG;simp;(with_reducible repeat' first|refine aA ?_|simp[bD]);simp[b1,CO,bn,bp,bk]
 have fb:0<c.es.length:=re.2 bD;have cn:((c.es.length:Int)==0)=false:=jL.2 Ω;obtain⟨ib,oW⟩:∃e,c.es[0]? =some e:=⟨_,bO fb⟩;have ED:∀h,(c.es[0]'h)=ib:=fun h=>by rw[bO fb]at oW;exact dZ oW
 by_cases bq:ib.pos=0;rotate_left
 ·have:R=false:=by rw[<-bh];refine ly ?_;rintro⟨⟨e,he,h⟩,_⟩;rw[oW]at he;cases he;exact bq h
  subst this;have abc:(ib.pos !=0)=true:=by simpa using bq
  clear bh;refine bJ kZ HW Kg fun aG=>?_;unfold DC;clear aG;simp;(with_reducible repeat' first|refine aA ?_|simp[cn,fb,ED,oW,abc]);simp[b1,CO,bn,bp,bk]
 refine bJ kZ HW Kg fun aG=>?_;unfold DC;clear aG;simp;(with_reducible repeat' first|refine aA ?_|simp[cn,fb,ED,oW,bq]);refine fM (pC c) c.es.length (Dl c) () (by simp[pC,jB];exact c8) (fun k e aa=>Ω) (fun _ iw _=>?_) (fun i _ aw al _=>?_)
 ·have J:=iw.all;simp[pC,jB];(with_reducible repeat' first|refine aA ?_|simp);refine fM (yK c) c.es.length (Dm c) () (by simp[yK,jB];exact c8) (fun k e aa=>Ω) (fun _ gR _=>?_) (fun i _ aw al _=>?_)
  ·have:R=true:=by rw[<-bh];exact k2 ⟨⟨ib,oW,bq⟩,J,gR.all⟩
   subst this;clear bh iw gR J;simp[yK,jB];exact bZ
  ·obtain⟨e,he,eF⟩:=gd aw;have cB:=tA c i aw;obtain⟨f1,f2⟩:=AE J he;obtain⟨_,_,_,_,⟨f3,f4⟩,_⟩:=J i e he;obtain⟨N,ja⟩:∃N:Nat,c.fin i=N:=⟨(c.fin i).toNat,Ω⟩;obtain⟨A,bg⟩:∃A:Nat,e.pos=A:=⟨e.pos.toNat,Ω⟩;have mm:=f2;rw[ja]at cB f1 f2;rw[bg]at f1 f3 f4;have b2:aZ ((i:Int)+1):=by unfold aZ;omega
   have o2:aZ ((N:Int)-1):=by unfold aZ;omega
   have vR:(0:Int)<=(N:Int)-1:=Ω
   have mo:((N:Int)-1).toNat=N-1:=Ω
   have je:N-1<c.is.length:=Ω
   obtain⟨y,bC⟩:∃y,c.is[N-1]? =some y:=⟨_,bO je⟩;have h3:∀h,(c.is[N-1]'h)=y:=fun h=>by rw[bO je]at bC;exact dZ bC
   by_cases Fc:y.op=6;rotate_left
   ·have:R=false:=by rw[<-bh];refine ly fun h=>Fc ((h.2.2 i e he).1 y ?_);rw[ja,mo];exact bC
    subst this;have ai7:(y.op !=6)=true:=by simpa using Fc
    clear bh al iw J;simp[yK,jB,aw,eF];exact bZ
   simp[yK,jB,aw,eF];(with_reducible repeat' first|refine aA ?_|refine aX cB ?_|refine aY cB ?_|simp[aw,eF,o2,vR,mo,je,h3,Fc,bg]);refine gZ (yL c i N) (fun k=>N-k) (fun k=>A<=k/\k<=N/\∀(m:Nat) x,A<=m->m<k->c.is[m]? =some x->rY c e N m x) A (by simp[yL,jB];exact c8) ⟨da _,Ω,fun m x I J=>Ω⟩ ?_;rintro k ⟨fO,fG,lg⟩ _;rcases k1 fG with rfl|hk4
   ·have hH:Di c i e:=⟨fun z cn=>by rw[ja,mo,bC]at cn;cases cn;exact Fc,fun m x I av ad=>by rw[ja]at av⊢;exact lg m x Ω Ω ad⟩;have gr:Dm c (i+1) ():=fun m f hm aM=>by
     rcases hS m i with h|h
     ·exact al m f h aM
     ·obtain rfl:m=i:=Ω
      rw[he]at aM;cases aM;exact hH
    clear bh al iw J lg hH;simp[yL,jB];(with_reducible repeat' first|refine aA ?_|simp[b2]);refine bP.rng () aw gr (by simp only[yK,jB];exact c8)
   ·have dW:k<c.is.length:=Ω
    obtain⟨x,ad⟩:∃x,c.is[k]? =some x:=⟨_,bO dW⟩;have dx:=agn c k i ad he ie mm Ω Ω;rw[ja]at dx;have hL:aZ ((k:Int)+1):=by unfold aZ;omega
    cases af:iL c e N k x
    ·have:R=false:=by rw[<-bh];refine ly fun h=>?_;have av:=(h.2.2 i e he).2 k x Ω (by rw[ja];omega) ad;rw[ja,<-QO,af]at av;cases av
     subst this;rw[af]at dx;clear bh al iw J lg;simp[yL,jB];exact bZ
    ·rw[af]at dx;have qK:∀(m:Nat) z,A<=m->m<k+1->c.is[m]? =some z->rY c e N m z:=fun m z I av cn=>by
      rcases hS m k with h|h
      ·exact lg m z I h cn
      ·obtain rfl:m=k:=Ω
       rw[ad]at cn;cases cn;exact(QO _ _ _ _ _).1 af
     clear bh al iw J lg;simp[yL,jB];(with_reducible repeat' first|refine aA ?_|refine aX dx ?_|refine aY dx ?_|simp[hk4,hL]);refine bP.whl (k+1) Ω ⟨Ω,Ω,qK⟩ (by simp only[yL,jB];exact c8)
 ·obtain⟨e,he,eF⟩:=gd aw;have fc:=Ly e.name;have dV:=Ue c e.name;have vN:aZ ((c.es.length:Int)-1):=by unfold aZ;omega
  have b2:aZ ((i:Int)+1):=by unfold aZ;omega
  have Iw:i=0\/0<i/\∃p,c.es[i-1]? =some p:=by
   rcases Nat.eq_zero_or_pos i with h|h
   ·exact .inl h
   ·exact .inr ⟨h,_,bO Ω⟩
  by_cases cN:wM c i e
  ·have gr:Dl c (i+1) ():=fun k f aa aM=>by
    rcases hS k i with h|h
    ·exact al k f h aM
    ·obtain rfl:k=i:=Ω
     rw[he]at aM;cases aM;exact cN
   obtain⟨bV,a2,⟨a3,a4⟩,⟨a5,wV⟩,⟨AS,Dr⟩,a9⟩:=cN;have h4:¬e.ar<0:=Ω
   have RG:¬4<e.ar:=Ω
   have RH:¬e.vars<e.ar:=Ω
   have n6:¬100000<e.vars:=Ω
   have FF:¬e.pos<0:=Ω
   have FG:¬(c.is.length:Int)<=e.pos:=Ω
   clear bh al oW ED bq;by_cases nx:i+1=c.es.length
   ·have ig:((i:Int)==(c.es.length:Int)-1)=true:=by simp;omega
    obtain⟨hM,rM⟩:=bV nx;have RI:¬e.vars<0:=Ω
    rcases Iw with n8|⟨n8,p,pQ⟩
    ·have aO:¬0<i:=Ω
     simp[pC,jB,aw,eF];(with_reducible repeat' first|refine aA ?_|simp[vN,ig,hM,rM,RI,n6,FF,FG,aO,b2,aw,eF]);refine bP.rng () aw gr (by simp only[pC,jB];exact c8)
    ·have eS:i-1<c.es.length:=Ω
     have BR:∀h,(c.es[i-1]'h)=p:=fun h=>by rw[bO eS]at pQ;exact dZ pQ
     have Cv:¬e.pos<=p.pos:=by have:=a9 p Ω pQ;omega
     have aO:0<i:=n8;have hs:aZ ((i:Int)-1):=by unfold aZ;omega
     have vQ:(0:Int)<=(i:Int)-1:=Ω
     have BM:((i:Int)-1).toNat=i-1:=Ω
     simp[pC,jB,aw,eF];(with_reducible repeat' first|refine aA ?_|simp[vN,ig,hM,rM,RI,n6,FF,FG,Cv,aO,b2,aw,eF,eS,BR,hs,vQ,BM,pQ]);refine bP.rng () aw gr (by simp only[pC,jB];exact c8)
   ·have ig:((i:Int)==(c.es.length:Int)-1)=false:=jL.2 Ω;obtain⟨I9,ml⟩:=a2 nx;rw[I9]at fc;rw[ml]at dV;rcases Iw with n8|⟨n8,p,pQ⟩
    ·have aO:¬0<i:=Ω
     simp[pC,jB,aw,eF];(with_reducible repeat' first|refine aA ?_|refine aX fc ?_|refine aY fc ?_|refine aX dV ?_|refine aY dV ?_|simp[vN,ig,h4,RG,RH,n6,FF,FG,aO,b2,aw,eF]);refine bP.rng () aw gr (by simp only[pC,jB];exact c8)
    ·have eS:i-1<c.es.length:=Ω
     have BR:∀h,(c.es[i-1]'h)=p:=fun h=>by rw[bO eS]at pQ;exact dZ pQ
     have Cv:¬e.pos<=p.pos:=by have:=a9 p Ω pQ;omega
     have aO:0<i:=n8;have hs:aZ ((i:Int)-1):=by unfold aZ;omega
     have vQ:(0:Int)<=(i:Int)-1:=Ω
     have BM:((i:Int)-1).toNat=i-1:=Ω
     simp[pC,jB,aw,eF];(with_reducible repeat' first|refine aA ?_|refine aX fc ?_|refine aY fc ?_|refine aX dV ?_|refine aY dV ?_|simp[vN,ig,h4,RG,RH,n6,FF,FG,Cv,aO,b2,aw,eF,eS,BR,hs,vQ,BM,pQ]);refine bP.rng () aw gr (by simp only[pC,jB];exact c8)
  ·have:R=false:=by rw[<-bh];exact ly fun h=>cN (h.2.1 i e he)
   subst this;clear bh al oW ED bq;have PB:¬((i+1=c.es.length->e.name=[]/\e.ar=0)/\(i+1≠c.es.length->fw e.name=true/\iY c.es e.name=i)/\(0<=e.ar/\e.ar<=4)/\(e.ar<=e.vars/\e.vars<=100000)/\(0<=e.pos/\e.pos<c.is.length)/\∀p,0<i->c.es[i-1]? =some p->p.pos<e.pos):=cN;clear cN;generalize iY c.es e.name=m at dV PB;generalize fw e.name=qX at fc PB;have ig:((i:Int)==(c.es.length:Int)-1)=decide (i+1=c.es.length):=by
    by_cases h:i+1=c.es.length
    ·rw[k2 h];simp;omega
    ·rw[ly h];exact jL.2 Ω
   rcases Iw with n8|⟨n8,p,pQ⟩
   ·have aO:¬0<i:=Ω
    simp[pC,jB,aw,eF];((with_reducible repeat' first|refine aA ?_|refine aX fc ?_|refine aY fc ?_|refine aX dV ?_|refine aY dV ?_|simp[vN,ig,aO,b2,aw,eF]|((first|apply cu|apply cw|apply cv)<;>intro h<;>try simp at h))<;>(try exact cK));all_goals first|(simp[b1,CO,bn,bp,bk];done)|(exfalso;clear fc dV;grind)
   ·have eS:i-1<c.es.length:=Ω
    have BR:∀h,(c.es[i-1]'h)=p:=fun h=>by rw[bO eS]at pQ;exact dZ pQ
    have hs:aZ ((i:Int)-1):=by unfold aZ;omega
    have vQ:(0:Int)<=(i:Int)-1:=Ω
    have BM:((i:Int)-1).toNat=i-1:=Ω
    simp[pC,jB,aw,eF];((with_reducible repeat' first|refine aA ?_|refine aX fc ?_|refine aY fc ?_|refine aX dV ?_|refine aY dV ?_|simp[vN,ig,n8,b2,aw,eF,eS,BR,hs,vQ,BM,pQ]|((first|apply cu|apply cw|apply cv)<;>intro h<;>try simp at h))<;>(try exact cK));all_goals first|(simp[b1,CO,bn,bp,bk];done)|(exfalso;clear fc dV;grind)
end
end Go.Proofs.YtlnndmgfngfeiaaGreatDoor
