/- From a contract to the row: answers. -/
import Derived.Test.YtohaalphocaebaaGreatProg
import Derived.Test.YtohaalphocaebaaGreatH6
set_option linter.all false
set_option maxHeartbeats 4000000
set_option maxRecDepth 4000
open Bool renaming and_eq_true->cy,false_eq_true->ho,or_eq_true->lu
open Go renaming TypeId->gu
open Go.DataW renaming trod->iC
open Go.Extern.ReflectliteSwapper renaming swap->Cw
open Go.Proofs.Tryz renaming f8->k2,prog->al
open Go.Proofs.YtohaalphocaebaaGreat.Rows renaming fnExactSubsumesRow->kh,fnExactSubsumesSpec->tj
open Go.Value renaming cells->pP
open List renaming all_eq_true->jd,cons_append->bW,drop->ny,getElem?_eq_getElem->b6,getElem?_eq_some_iff->eV,getElem?_map->tk,length_append->pQ,length_cons->oX,length_map->oh,map_append->rT,map_cons->gM,map_nil->mN,mem_append->kt,mem_cons->fT,mem_cons_of_mem->oY,mem_map->iu,mem_of_getElem?->dV,take->ku,take_length->je,take_succ->lS
open List.Pairwise renaming nil->Jx
open List.cons renaming injEq->oW
open Option renaming bind_eq_some_iff->kK,bind_some->ki,getD_none->kv,getD_some->jM,isSome_iff_exists->fL,isSome_none->jN,isSome_some->oZ
open Option.some renaming inj->ed
open _root_ renaming UInt8->dw,beq_iff_eq->eb,congrArg->fh,decide_eq_false->hQ,decide_eq_false_iff_not->fC,decide_eq_true->gN,decide_eq_true_eq->eW
namespace Go.Proofs.YtohaalphocaebaaGreat
section
open Go
set_option maxRecDepth 100000 in
theorem acZ:joinedFacts al 8 k2 tj kh=true:=(iH (iH (iH (iH (iH (iH (iH (iH (iH (iH (iH (iH (iH (iH (iH (iH (iH (iH (iH (iH (iH (iH (iH (iH (iH (iH (iH (iH (iH (iH (iH acs acu) acF) acQ) acT) acU) acV) acW) acX) acY) acv) acw) acx) acy) acz) acA) acB) acC) acD) acE) acG) acH) acI) acJ) acK) acL) acM) acN) acO) acP) acR) acS)
end
section
open Go Go.Pv
def J7:C:=(aa [cC 3 0,cC 4 1,cC 5 2,c1 6 gJ,a8 7 false] (.seq (aa [aY 13 5 3,aY 14 4 4,aY 15 4 5,eI 16 4 32 [.t 14,.t 15],b2 17 47 13 16,cj 18 17] (aT 18 (aa [iq 19 gJ [],bB 5 6 19,a8 7 false] .ret) .skip)) (aa [aE 21 1 1 3,av 22 1 21,aY 23 4 4,aY 24 4 5,dn 25 48 [.t 22,.t 23,.t 24],I 20 25,cr 26 0 20,cr 27 1 20,I 8 26,I 9 27] (.seq (aa [I 28 9,cj 29 28] (aT 29 (aa [iq 30 gJ [],bB 5 6 30,a8 7 false] .ret) .skip)) (aa [aY 31 5 3,cB 32 49 31,c1 10 gJ,bB 5 10 32] (aa [I 33 8,aE 34 1 1 10,bB 1 34 33] (aa [aY 36 5 10,cB 37 50 36,I 35 37,cr 38 0 35,cr 39 1 35,c1 11 gJ,bB 5 11 38,I 12 39] (aa [aY 40 5 11,I 41 12,bB 5 6 40,I 7 41] .ret))))))))
@[simp] def Od:List bO:=[.cell 6 true 5,.tmp 7]
def FO:C:=(aa [cC 3 0,cC 4 1,c1 6 gJ,a8 7 false] (.seq (aa [aY 13 5 3,aY 14 4 4,eI 15 4 32 [.t 14],b2 16 47 13 15,cj 17 16] (aT 17 (aa [iq 18 gJ [],bB 5 6 18,a8 7 false] .ret) .skip)) (aa [aE 20 1 1 3,av 21 1 20,aE 22 3 1 3,av 23 1 22,aY 24 4 4,I 25 2,dn 26 52 [.t 21,.t 23,.t 24,.t 25],I 19 26,cr 27 0 19,cr 28 1 19,I 8 27,I 9 28] (.seq (aa [I 29 9,cj 30 29] (aT 30 (aa [iq 31 gJ [],bB 5 6 31,a8 7 false] .ret) .skip)) (aa [aY 32 5 3,cB 33 49 32,c1 10 gJ,bB 5 10 33] (aa [I 34 8,aE 35 3 1 10,bB 1 35 34] (aa [aY 37 5 10,cB 38 50 37,I 36 38,cr 39 0 36,cr 40 1 36,c1 11 gJ,bB 5 11 39,I 12 40] (aa [aY 41 5 11,I 42 12,bB 5 6 41,I 7 42] .ret))))))))
@[simp] def anF:List bO:=[.cell 6 true 5,.tmp 7]
def FP:C:=(aa [cC 3 0,cC 4 1,c1 6 gJ,a8 7 false] (.seq (aa [aY 13 5 3,aY 14 4 4,eI 15 4 32 [.t 14],b2 16 47 13 15,cj 17 16] (aT 17 (aa [iq 18 gJ [],bB 5 6 18,a8 7 false] .ret) .skip)) (aa [aE 20 1 1 3,av 21 1 20,aE 22 4 1 3,av 23 1 22,aY 24 4 4,I 25 2,dn 26 54 [.t 21,.t 23,.t 24,.t 25],I 19 26,cr 27 0 19,cr 28 1 19,I 8 27,I 9 28] (.seq (aa [I 29 9,cj 30 29] (aT 30 (aa [iq 31 gJ [],bB 5 6 31,a8 7 false] .ret) .skip)) (aa [aY 32 5 3,cB 33 49 32,c1 10 gJ,bB 5 10 33] (aa [I 34 8,aE 35 4 1 10,bB 1 35 34] (aa [aY 37 5 10,cB 38 50 37,I 36 38,cr 39 0 36,cr 40 1 36,c1 11 gJ,bB 5 11 39,I 12 40] (aa [aY 41 5 11,I 42 12,bB 5 6 41,I 7 42] .ret))))))))
@[simp] def anG:List bO:=[.cell 6 true 5,.tmp 7]
def FT:C:=(aa [cC 2 0,a8 4 false] (.seq (.drawn true 18 [aY 5 5 2,cB 6 18 5,I 7 6,cb 7 true 8 1,aq 7 true (cB 9 68 8),dL 10 7 9,I 11 10,cb 11 true 12 1,aq 11 true (cB 13 116 12),aq 11 true (aE 14 0 1 2),aq 11 true (av 15 1 14),aq 11 true (bk 16 .leq 13 15),dL 17 11 16,I 4 17]) .ret))
@[simp] def anS:List bO:=[.tmp 4]
def Rf:C:=(aa [cC 4 1,cC 5 2,er 6 5,a8 7 false] (.seq (aa [I 8 0,cB 9 55 8,cj 10 9,I 11 10,aq 11 false (aY 12 4 4),aq 11 false (cB 13 117 12),aq 11 false (cj 14 13),cW 15 11 14,I 16 15,aq 16 false (aY 17 4 5),aq 16 false (cB 18 117 17),aq 16 false (cj 19 18),cW 20 16 19] (aT 20 (aa [er 6 5,a8 7 false] .ret) .skip)) (aa [I 21 0,aY 22 4 4,eI 23 4 32 [.t 22],aY 24 4 5,eI 25 4 32 [.t 24],dn 26 118 [.t 21,.t 23,.t 25],cr 27 0 26,cr 28 1 26,I 6 27,I 7 28] .ret)))
@[simp] def anL:List bO:=[.tmp 6,.tmp 7]
def Rt:C:=(aa [cC 1 0,c1 2 gJ] (.seq (.drawn true 39 [aE 6 0 1 1,av 7 1 6,aE 8 1 1 1,av 9 1 8,cB 10 119 9,eI 11 1 23 [],iq 12 gJ [(0,1,(.t 7)),(1,1,(.t 10)),(2,1,(.t 11))],c1 3 gJ,bB 5 3 12]) (.seq (aa [aE 13 2 1 1,av 14 1 13,ca 15 14,bS 16 0] (e0 17 16 15 (.seq (.block 1 (aa [cf 18 1 14 16,av 19 1 18,I 5 19] (.drawn true 39 [aE 20 2 1 3,av 21 1 20,I 22 5,cB 23 119 22,eI 24 1 23 [.t 23],h6 25 1 23 21 24,aE 26 2 1 3,bB 1 26 25]))) (.region [aV 27 .add 16 1,I 16 27])))) (aa [eI 28 2 104 [],aE 29 3 1 1,av 30 1 29,h6 31 2 104 28 30,aE 32 3 1 3,bB 1 32 31] (aa [eI 33 2 106 [],aE 34 4 1 1,av 35 1 34,h6 36 2 106 33 35,aE 37 4 1 3,bB 1 37 36] (aa [aY 38 5 3,bB 5 2 38] .ret))))))
@[simp] def anQ:List bO:=[.cell 2 true 5]
def u1:C:=(aa [cC 6 0,cC 8 2,cC 9 3,c1 12 gJ,a8 13 false] (aa [aY 21 5 6,c1 14 gJ,bB 5 14 21] (aa [a8 15 true] (.seq (aa [I 22 1,aV 23 .lss 22 2] (aT 23 (aa [aE 25 1 1 6,av 26 1 25,aY 27 4 8,aY 28 4 9,dn 29 176 [.t 26,.t 27,.t 28],I 24 29,cr 30 0 24,cr 31 1 24,I 16 30,I 17 31] (aa [I 32 1,aV 33 .eql 32 0] (aT 33 (aa [I 34 16,aE 35 1 1 14,bB 1 35 34] (.region [I 36 17,I 15 36])) (aa [I 37 17] (aT 37 (aa [aE 38 1 1 6,av 39 1 38,I 40 16,b2 41 177 39 40,I 18 41] (aa [I 42 18,ca 43 42,aV 44 .gtr 43 0,I 15 44] (.region [eI 45 1 23 [],aE 46 2 1 6,av 47 1 46,h6 48 1 23 45 47,I 49 18,eI 50 1 23 [.t 49],h6 51 1 23 48 50,aE 52 2 1 14,bB 1 52 51]))) .skip))))) (aa [aE 54 1 1 6,av 55 1 54,aY 56 4 8,b2 57 166 55 56,I 53 57,cr 58 0 53,cr 59 1 53,c1 19 dH,bB 4 19 58,I 20 59] (aa [I 60 20,I 15 60] (aa [I 61 15,I 62 61,cb 62 true 63 1,aq 62 true (aV 64 .eql 63 2),dL 65 62 64] (aT 65 (.region [aE 67 3 1 6,av 68 1 67,aY 69 4 19,I 70 4,dn 71 178 [.t 68,.t 69,.t 70],I 66 71,cr 72 0 66,cr 73 1 66,aE 74 3 1 14,bB 1 74 72,I 15 73]) (aa [I 75 15] (aT 75 (.region [aE 77 4 1 6,av 78 1 77,aY 79 4 19,I 80 5,dn 81 179 [.t 78,.t 79,.t 80],I 76 81,cr 82 0 76,cr 83 1 76,aE 84 4 1 14,bB 1 84 82,I 15 83]) .skip)))))))) (.seq (aa [I 85 15,cj 86 85] (aT 86 (aa [iq 87 gJ [],bB 5 12 87,a8 13 false] .ret) .skip)) (aa [aY 88 5 14,cB 89 147 88,cr 90 0 89,cr 91 1 89,bB 5 12 90,I 13 91] .ret))))))
@[simp] def aoK:List bO:=[.cell 12 true 5,.tmp 13]
def xR:List (Nat×dN):=[
 (3,⟨1,8,.int .i64,.int .i64 0⟩),
 (9,⟨1,16,.str,.str []⟩),
 (23,⟨1,24,.slice 61,.slice 5 .nil []⟩),
 (24,⟨1,24,.slice 23,.slice 1 .nil []⟩),
 (25,⟨1,24,.slice 104,.slice 2 .nil []⟩),
 (26,⟨1,24,.slice 106,.slice 2 .nil []⟩),
 (28,⟨5,104,.struct [(0,3),(1,23),(2,24),(3,25),(4,26)],.agg [.int .i64 0,.slice 5 .nil [],.slice 1 .nil [],.slice 2 .nil [],.slice 2 .nil []]⟩),
 (30,⟨1,24,.slice 32,.slice 4 .nil []⟩),
 (32,⟨4,56,.struct [(0,3),(1,3),(2,9),(3,30)],.agg [.int .i64 0,.int .i64 0,.str [],.slice 4 .nil []]⟩),
 (61,⟨5,64,.struct [(0,3),(1,32)],.agg [.int .i64 0,.int .i64 0,.int .i64 0,.str [],.slice 4 .nil []]⟩),
 (104,⟨2,16,.struct [(0,3),(1,3)],.agg [.int .i64 0,.int .i64 0]⟩),
 (106,⟨2,24,.struct [(0,3),(1,9)],.agg [.int .i64 0,.str []]⟩),
 (112,⟨1,24,.slice 3,.slice 1 .nil []⟩)]
theorem lO:fY al xR=true:=by kernel_rfl
theorem XE:bZ xR J7 Od 3 Tryz.f12=true:=by kernel_rfl
theorem TO:al.funcs[(12:Nat)]? =some Tryz.f12:=Tryz.func12
theorem NJ:bZ xR FO anF 3 Tryz.f14=true:=by kernel_rfl
theorem KU:al.funcs[(14:Nat)]? =some Tryz.f14:=Tryz.func14
theorem NK:bZ xR FP anG 3 Tryz.f16=true:=by kernel_rfl
theorem KV:al.funcs[(16:Nat)]? =some Tryz.f16:=Tryz.func16
theorem NN:bZ xR FT anS 2 Tryz.f47=true:=by kernel_rfl
theorem KY:al.funcs[(47:Nat)]? =some Tryz.f47:=Tryz.func47
theorem alv:bZ xR Rf anL 3 Tryz.f48=true:=by kernel_rfl
theorem aev:al.funcs[(48:Nat)]? =some Tryz.f48:=Tryz.func48
theorem alJ:bZ xR Rt anQ 1 Tryz.f49=true:=by kernel_rfl
theorem aeJ:al.funcs[(49:Nat)]? =some Tryz.f49:=Tryz.func49
theorem xw:bZ xR u1 aoK 6 Tryz.f93=true:=by kernel_rfl
theorem wG:al.funcs[(93:Nat)]? =some Tryz.f93:=Tryz.func93
def Ld(n:Int)(l:List bL):Prop:= ∃x:List T,l=x.map T.tm/\(∀t∈x,t.fit=true)/\∀t∈x,ez n t=true
theorem Ja{x y:List T}(h:x.map T.tm=y.map T.tm):x=y:=(List.map_inj_right fun _ _=>Py).1 h
theorem yl(l:List T):(l.map T.tm).map enc=l.map T.e:=by rw[List.map_map];exact List.map_congr_left fun t _=>r5 t
theorem Gt:∀{l:List bL},l.all bL.fits=true->∃x:List T,l=x.map T.tm/\∀t∈x,t.fit=true
 |[],_=>⟨[],rfl,Ψ⟩
 |t::l,h=>by rw[List.all_cons,cy]at h;obtain⟨x,rfl,U⟩:=Gt h.2;obtain⟨y,rfl,a6⟩:=bL.fits_ex h.1;exact⟨y::x,rfl,fun z bz=>(fT.1 bz).elim (fun e=>by rw[e];exact a6) (U z)⟩
theorem agl{n:Int}{x y:T}(ab:x.fit=true)(aL:y.fit=true)(J:ez n x=true)(U:ez n y=true):Ld n [x.tm,y.tm]:=⟨[x,y],rfl,by simp[ab,aL],by simp[J,U]⟩
theorem aaU{n:Int}:∀(l:List T) (m:Int),l.foldl (fun m t=>t.fold rS m) m<=n↔m<=n/\∀t∈l,ez n t=true
 |[],m=>by simp
 |t::l,m=>by rw[List.foldl_cons,aaU l,Jt];simp[and_assoc]
theorem pA.fin{α:Type}{p:α->Bool}{s:List α}(h:pA p s s.length ()):∀b∈s,p b=true:=fun b af=>by obtain⟨i,hi⟩:=List.mem_iff_getElem?.1 af;exact h i b (by have:=(eV.1 hi).1;omega) hi
theorem aaO(l:List bL):bC al 68 [.slice 4 .no (l.map enc)] (.bool (l.all bL.fits)):=by
 generalize aU:l.all bL.fits=R;refine bc gj TX XN fun aM=>?_;unfold Kg;have ev:l.length<=68719476736:=by simp[eA,eo,et,lim]at aM;omega
 simp;refine dO [5,6] (fun i (_:Unit)=>[(7,.int .i64 i)]) l.length (pA bL.fits l) () bT (fun k b ad=>Ω) (fun _ ae _=>?_) (fun i _ hi ae _=>?_)
 ·have:R=true:=by rw[<-aU,jd];exact ae.fin
  subst this;clear ae aU;exact bQ
 ·obtain⟨t,aJ,qC⟩:=eh hi;have ds:=Jh t;cases g:t.fits
  ·rw[g]at ds;have:R=false:=by rw[<-aU,List.all_eq_false];exact⟨t,dV aJ,by rw[g];simp⟩
   subst this;clear aJ ae aU;exact bQ
  ·rw[g]at ds;have ax:=ae.step aJ g;clear aJ ae aU;exact hE
open Classical in
theorem aar(r:h1)(ei:hN r.m->nt r.m)(l:List bL):bC al 47 [r.e,.slice 4 .no (l.map enc)] (.bool (decide (oO r/\Ld r.n l))):=by
 generalize aU:decide (oO r/\Ld r.n l)=R;have cE:=aaj r ei;have ds:=aaO l;have ax:=fun h:oO r=>(oO.raw h).n;by_cases g1:oO r;rotate_left
 ·rw[hQ g1]at cE;have:R=false:=by rw[<-aU];exact hQ fun h=>g1 h.1
  subst this;obtain⟨n,b,d,k,m⟩:=r;simp only[h1.e]at cE⊢;clear aU ax ei g1;refine bc lO KY NN fun aM=>?_;unfold FT;exact bQ
 rw[gN g1]at cE;cases g2:l.all bL.fits
 ·rw[g2]at ds;have:R=false:=by rw[<-aU];refine hQ fun h=>?_;obtain⟨x,rfl,U,_⟩:=h.2;rw[List.all_eq_false]at g2;obtain⟨t,aJ,aK⟩:=g2;obtain⟨y,aL,rfl⟩:=iu.1 aJ;rw[bL.fits_T]at aK;exact aK (U y aL)
  subst this;obtain⟨n,b,d,k,m⟩:=r;simp only[h1.e]at cE⊢;clear aU ax ei g1 g2;refine bc lO KY NN fun aM=>?_;unfold FT;exact bQ
 rw[g2]at ds;obtain⟨x,rfl,ab⟩:=Gt g2;rw[yl]at ds⊢;have mH:=aak x ab;have aF:decide (xX x<=r.n)=R:=by rw[<-aU,xX];refine decide_eq_decide.2 ?_;rw[aaU];refine⟨fun h=>⟨g1,x,rfl,ab,h.2⟩,fun h=>⟨(ax g1).1,?_⟩⟩;obtain⟨y,e,_,U⟩:=h.2;rw[Ja e];exact U
 generalize xX x=q at mH aF;obtain⟨n,b,d,k,m⟩:=r;simp only[h1.e]at cE aF⊢;clear aU ax ei g1 g2 ab;subst aF;refine bc lO KY NN fun aM=>?_;unfold FT;exact bQ
noncomputable def mx(s:ch)(x y:T):Option ch:=(mgu s.b [(x,y)]).bind fun b=>ij {s with b:=b}
theorem aqy{b:List ao}(af:e5 b){x y:T}(ab:x.fit=true)(aL:y.fit=true):bC al 48 [.slice 5 .no (b.map ao.e),x.e,y.e] (fR (mgu b [(x,y)])):=by have cE:=qn af;have aS:=Fe ab;have be:=Fe aL;have key:=aaK b [x] [y] rfl af.sol af.fits af.ok Ψ (by simp only[T.fit,cy]at ab;simpa using ab.1) (by simp only[T.fit,cy]at aL;simpa using aL.1);simp only[gM,mN,List.zip_cons_cons,List.zip_nil_left]at key;unfold fR at key⊢;generalize mgu b [(x,y)]=O at key;refine bc lO aev alv fun aM=>?_;unfold Rf;exact bQ
theorem MT(S:aI->Prop)(l:List (List ao))(d:List ao):aC S (l.map cO++[cO d])=True:=tZ S l d
theorem aqA{x:List ao}(h:x.length<=1000000):bC al 119 [cO x] (cO x):=Ji x h
theorem PG(s:ch)(af:s.b.length<=1000000)(aR:∀x∈s.d,x.length<=1000000)(ad:s.k.length<=1000000)(hm:s.m.length<=68719470000):bC al 49 [s.e] s.e:=by
 obtain⟨n,b,d,k,m⟩:=s;simp only[ch.e]at af aR ad hm⊢;have eR:=Ji b af;refine bc lO aeJ alJ fun aM=>?_;unfold Rt;have ev:d.length<=68719476736:=by simp[eA,eo,et,lim]at aM;omega
 clear aM;simp;(with_reducible repeat' first|refine ai ?_|refine az eR ?_|refine aA eR ?_|simp);refine gA (fun i (L:List (List ao))=>⟨[(1,.ptr (.loc 0) 0),(2,.ptr (.loc 1) 0),(3,.ptr (.loc 5) 0),(14,.slice 1 .no (d.map cO)),(15,.int .i64 d.length),(16,.int .i64 i)],[(.loc 0,[.int .i64 n,.slice 5 .no (b.map ao.e),.slice 1 .no (d.map cO),.slice 2 .no (k.map bN.e),.slice 2 .no (m.map bj.e)]),(.loc 1,[.int .i64 0,.slice 5 .nil [],.slice 1 .nil [],.slice 2 .nil [],.slice 2 .nil []]),(.loc 5,[.int .i64 n,.slice 5 .no (b.map ao.e),.slice 1 (.own (.loc 13)) (L.map cO),.slice 2 .nil [],.slice 2 .nil []])],[(.loc 13,⟨L.length,23,1,none⟩)],41,[]⟩) d.length (fun i L=>L=d.take i) [] bT Ψ (fun L ae _=>?_) (fun i L hi ae _=>?_)
 ·rw[je]at ae;subst ae;simp;(with_reducible repeat' first|refine ai ?_|simp);all_goals first|(refine⟨by unfold lim;omega,?_⟩)|skip
  exact bQ
 ·obtain⟨x,ab,cG⟩:=eh hi;have Wk:=aqA (aR x (dV ab));have au:L.length<=i:=by rw[ae];simp;omega
  simp[hi,cG];(with_reducible repeat' first|refine ai ?_|refine az Wk ?_|refine aA Wk ?_|simp[cG,hi]);all_goals first|(refine⟨by unfold lim;omega,?_⟩)|skip
  (with_reducible repeat' first|refine ai ?_|simp);refine bK.rng (L++[x]) hi (by rw[qQ ab,ae]) ?_;simp;exact⟨by simp[fresh,aC,aB,bP,inObs,Pv.look,MT],dD (by simp[fresh,aC,aB,bP,inObs,Pv.look,MT]),dE (by simp[fresh,aC,aB,dt,inObs,Pv.look,MT]),Ψ⟩
theorem T.fit_ok{x:T}(h:x.fit=true):x.ok=true:=by simp only[T.fit,cy]at h;exact h.1
theorem jw.bind{s:ch}(h:jw s){x y:T}(ab:x.fit=true)(aL:y.fit=true)(bx:ez s.n x=true)(qt:ez s.n y=true){b:List ao}(hm:mgu s.b [(x,y)]=some b):jw {s with b:=b}:=⟨h.n,h.b.mgu (by simp[T.fit_ok ab,T.fit_ok aL]) hm,h.d,h.k,h.m,Xl (fun v=>v<s.n) h.b.sol h.b.fits h.bb (fun e he=>by simp only[List.mem_singleton]at he;subst he;exact⟨yc.1 bx,yc.1 qt⟩) hm,h.db,h.kb,h.mb⟩
open Classical in
theorem aqM{s:ch}(h:rL s)(hm:nt s.m){x y:T}(ab:x.fit=true)(aL:y.fit=true)(bx:ez s.n x=true)(qt:ez s.n y=true):bC al 47 [s.e,.slice 4 .no [x.e,y.e]] (.bool true):=by have:=aar s.r (fun _=>hm) [x.tm,y.tm];rw[gN ⟨⟨s,rfl,h⟩,agl ab aL bx qt⟩,E5]at this;simpa[r5]using this
theorem aac{s:ch}(h:rL s)(hm:nt s.m){x y:T}(ab:x.fit=true)(aL:y.fit=true)(bx:ez s.n x=true)(qt:ez s.n y=true):bC al 12 [s.e,x.e,y.e] (lK (mx s x y)):=by
 have aS:=aqM h hm ab aL bx qt;have be:=aqy h.1.b ab aL;have b8:=PG s h.1.b.len (fun z bz=>(h.1.d z bz).len) (by have:=rv h.1.k;omega) (hm.len h.1.m);unfold mx;cases hu:mgu s.b [(x,y)]with
 |none=>rw[hu]at be;clear h hu b8;obtain⟨n,b,d,k,m⟩:=s;simp only[ch.e,fR,lK,Option.bind_none,kv,jN,ir]at aS be⊢;refine bc lO TO XE fun aM=>?_;unfold J7;simp;((with_reducible repeat' first|refine ai ?_|refine az aS ?_|refine aA aS ?_|refine az be ?_|refine aA be ?_|simp|((first|apply bU|apply bY|apply bX)<;>intro h<;>try simp at h))<;>(try exact cz));all_goals simp[bq,Od,aX,aZ,aW]
 |some b4=>rw[hu]at be;obtain⟨G,iI,a7⟩:=hm;have eg:=Jr (h.1.bind ab aL bx qt hu) iI a7;rw[ki];generalize ij {s with b:=b4}=O at eg;clear h hu;obtain⟨n,b,d,k,m⟩:=s;simp only[ch.e,fR,lK]at aS be b8 eg⊢;refine bc lO TO XE fun aM=>?_;unfold J7;simp;(with_reducible repeat' first|refine ai ?_|refine az aS ?_|refine aA aS ?_|refine az be ?_|refine aA be ?_|refine az b8 ?_|refine aA b8 ?_|refine az eg ?_|refine aA eg ?_|simp);all_goals simp[bq,Od,aX,aZ,aW]
noncomputable def IK(s:ch)(x y:T):aj:=match mgu s.b [(x,y)]with
 |none=>.tuple [ir.e,.bool false]
 |some b=>uq {s with b:=b}
theorem aoP(s:ch)(x y:T):∃t:ch,∃q:Bool,IK s x y= .tuple [t.e,.bool q]/\(q=true->mx s x y=some t)/\(q=false->mx s x y=none):=by
 unfold IK mx;cases mgu s.b [(x,y)]with
 |none=>exact⟨ir,false,rfl,(fun h=>by cases h),fun _=>rfl⟩
 |some b=>
  refine⟨_,_,rfl,(fun h=>?_),fun h=>?_⟩
  ·obtain⟨t,aJ⟩:=fL.1 h;rw[IX aJ];exact aJ
  ·rw[ki];cases e:ij {s with b:=b}with
   |none=>rfl
   |some t=>rw[e]at h;cases h
theorem aq3{s:ch}(h:jw s)(hm:nt s.m){x y:T}(ab:x.fit=true)(aL:y.fit=true)(bx:ez s.n x=true)(qt:ez s.n y=true)(me:Int)(tag:List dw):bC al 93 [s.e,.int .i64 0,x.e,y.e,.int .i64 me,.str tag] (IK s x y):=by
 have aS:=aaz s.b x y h.b.sol h.b.fits;unfold IK;cases hu:mgu s.b [(x,y)]with
 |none=>rw[hu]at aS;clear h hu;obtain⟨n,b,d,k,m⟩:=s;simp only[ch.e,fR,ir]at aS⊢;refine bc lO wG xw fun aM=>?_;unfold u1;exact bQ
 |some b4=>rw[hu]at aS;obtain⟨G,iI,a7⟩:=hm;have be:=Jo (h.bind ab aL bx qt hu) iI a7;simp only[uq]at be⊢;generalize wb {s with b:=b4}=t at be;generalize (ij {s with b:=b4}).isSome=q at be;clear h hu;obtain⟨n,b,d,k,m⟩:=s;obtain⟨qS,zO,E8,qR,tm⟩:=t;simp only[ch.e,fR]at aS be⊢;refine bc lO wG xw fun aM=>?_;unfold u1;exact bQ
theorem adk{s t:ch}(h:jw s){x y:T}(ab:x.fit=true)(aL:y.fit=true)(bx:ez s.n x=true)(qt:ez s.n y=true)(he:mx s x y=some t):rL t:=by unfold mx at he;obtain⟨b,J,U⟩:=kK.1 he;exact(EU (h.bind ab aL bx qt J) U).1
theorem apa{s t:ch}(hm:nt s.m)(he:ij s=some t):nt t.m:=by
 obtain⟨G,iI,a7⟩:=hm;refine⟨G,iI,?_⟩;have:=IX he;unfold ij at he;split at he
 ·cases he
 ·split at he
  ·cases he
  ·rename_i m e;split at he
   ·cases he
   ·split at he
    ·have U:=Iz a7 (fun x ab=>by simp at ab) e;have ar:=ed he;rw[<-ar];exact Pr U
    ·cases he
theorem adl{s t:ch}(hm:nt s.m){x y:T}(he:mx s x y=some t):nt t.m:=by unfold mx at he;obtain⟨b,J,U⟩:=kK.1 he;exact apa (s:={s with b:=b}) hm U
theorem apV(r:oo)(m:Int)(h:0<=m):uz r m<=m:=by
 have bV:=xN r.b m h;unfold uz;split
 ·omega
 have b7:=ux xN r.d (iB r.b m) Ω;split
 ·omega
 have fV:=Pn r.k (gV iB r.d (iB r.b m)) Ω;split
 ·omega
 have o8:=ux E7 r.m (pJ r.k (gV iB r.d (iB r.b m))) Ω;split<;>omega
def FZ:C:=(aa [cC 2 0,bS 4 0] (aa [aE 5 0 1 2,av 6 1 5,I 7 1,b2 8 32 6 7,I 1 8] (.seq (aa [I 9 1,aV 10 .lss 9 0] (aT 10 (aa [bS 4 (-1)] .ret) .skip)) (aa [eO 11 1 5 2,aY 12 5 11,I 13 1,b2 14 63 12 13,I 1 14] (.seq (aa [I 15 1,aV 16 .lss 15 0] (aT 16 (aa [bS 4 (-1)] .ret) .skip)) (aa [I 17 1,I 4 17] .ret))))))
@[simp] def Iq:List bO:=[.tmp 4]
def CP:C:=(aa [cC 1 0,a8 2 false] (.seq (aa [aE 6 0 1 1,av 7 1 6,cB 8 64 7,cj 9 8,I 10 9,aq 10 false (eO 11 1 5 1),aq 10 false (aY 12 5 11),aq 10 false (cB 13 65 12),aq 10 false (cj 14 13),cW 15 10 14,I 16 15,aq 16 false (eO 17 1 5 1),aq 16 false (aE 18 1 1 17),aq 16 false (av 19 1 18),aq 16 false (ca 20 19),aq 16 false (aV 21 .gtr 20 0),cW 22 16 21] (aT 22 (aa [a8 2 false] .ret) .skip)) (aa [aE 23 0 1 1,av 24 1 23,cB 25 66 24,I 3 25] (.seq (aa [I 26 3,ca 27 26,bS 28 0] (e0 29 28 27 (.seq (.block 1 (aa [I 30 28,cf 31 1 26 28,av 32 1 31,I 4 30,I 5 32] (aa [I 33 5,I 34 4,bk 35 .neq 33 34] (aT 35 (aa [a8 2 false] .ret) .skip)))) (.region [aV 36 .add 28 1,I 28 36])))) (aa [eO 37 1 5 1,aE 38 0 1 37,av 39 1 38,I 40 3,ca 41 40,bk 42 .eql 39 41,I 2 42] .ret)))))
@[simp] def aoz:List bO:=[.tmp 2]
def R0:C:=(aa [cC 1 0,cP (.alloc 2 none (.agg [.slice 4 .nil [],.int .i64 0,.slice 5 .nil [],.slice 1 .nil [],.slice 2 .nil [],.slice 2 .nil []]))] (aa [cP (.alloc 3 none (.agg [.slice 4 .nil [],.int .i64 0,.slice 5 .nil [],.slice 1 .nil [],.slice 2 .nil [],.slice 2 .nil []]))] (aa [aE 4 0 1 1,av 5 1 4,cB 6 34 5,aE 7 0 1 3,bB 1 7 6] (aa [eO 8 1 5 1,aY 9 5 8,cB 10 67 9,eO 11 1 5 3,bB 5 11 10] (aa [aY 12 6 3,bB 6 2 12] .ret)))))
@[simp] def aog:List bO:=[.cell 2 true 6]
def ye:C:=(aa [cC 1 0,a8 2 false] (.seq (aa [aE 3 0 1 1,av 4 1 3,cB 5 68 4,cj 6 5,I 7 6,aq 7 false (eO 8 1 5 1),aq 7 false (aY 9 5 8),aq 7 false (cB 10 18 9),aq 7 false (cj 11 10),cW 12 7 11,I 13 12,aq 13 false (eO 14 1 5 1),aq 13 false (aE 15 1 1 14),aq 13 false (av 16 1 15),aq 13 false (ca 17 16),aq 13 false (aV 18 .neq 17 0),cW 19 13 18] (aT 19 (aa [a8 2 false] .ret) .skip)) (.seq (.drawn true 36 [aE 20 0 1 1,av 21 1 20,cB 22 70 21,aE 23 0 1 1,av 24 1 23,b2 25 69 22 24,I 26 25,aq 26 true (eO 27 1 5 1),aq 26 true (aE 28 0 1 27),aq 26 true (av 29 1 28),aq 26 true (aE 30 0 1 1),aq 26 true (av 31 1 30),aq 26 true (cB 32 71 31),aq 26 true (ca 33 32),aq 26 true (bk 34 .eql 29 33),dL 35 26 34,I 2 35]) .ret)))
@[simp] def anD:List bO:=[.tmp 2]
def RP:C:=(aa [cC 2 0,cC 3 1,a8 4 false] (.seq (aa [aE 5 0 1 2,av 6 1 5,aE 7 0 1 3,av 8 1 7,b2 9 36 6 8,cj 10 9] (aT 10 (aa [a8 4 false] .ret) .skip)) (.seq (aa [eO 11 1 5 2,aY 12 5 11,eO 13 1 5 3,aY 14 5 13,b2 15 72 12 14,cj 16 15] (aT 16 (aa [a8 4 false] .ret) .skip)) (aa [a8 4 true] .ret))))
@[simp] def anX:List bO:=[.tmp 4]
def SG:C:=(aa [a8 2 false] (.seq (aa [I 5 0,ca 6 5,bS 7 0] (e0 8 7 6 (.seq (.block 1 (aa [cf 9 4 5 7,aY 10 4 9,c1 4 dH,bB 4 4 10] (aa [aY 11 4 4,cB 12 76 11,cj 13 12] (aT 13 (aa [a8 2 false] .ret) .skip)))) (.region [aV 14 .add 7 1,I 7 14])))) (aa [a8 2 true] .ret)))
@[simp] def aoD:List bO:=[.tmp 2]
def SD:C:=(aa [er 2 1] (.seq (aa [I 6 0,cB 7 64 6,cj 8 7] (aT 8 (aa [er 2 1] .ret) .skip)) (aa [cP (.bslm 9 (some 881) 1 3 []),I 3 9] (.seq (aa [I 10 0,ca 11 10,bS 12 0] (e0 13 12 11 (.seq (.block 1 (aa [cf 14 4 10 12,aY 15 4 14,c1 5 dH,bB 4 5 15] (.region [aY 16 4 5,I 17 3,b2 18 148 16 17,I 3 18]))) (.region [aV 19 .add 12 1,I 12 19])))) (.seq (.pub 3 (.region [I 20 3,I 2 20])) .ret)))))
@[simp] def aoA:List bO:=[.tmp 2]
def Kf:C:=(aa [a8 4 false] (.seq (aa [I 6 0,ca 7 6,I 8 1,ca 9 8,bk 10 .neq 7 9] (aT 10 (aa [a8 4 false] .ret) .skip)) (.seq (aa [I 11 0,ca 12 11,bS 13 0] (e0 14 13 12 (.seq (.block 1 (aa [I 15 13,I 5 15] (.seq (.drawn true 27 [I 16 0,I 17 5,cf 18 4 16 17,aY 19 4 18,I 20 1,I 21 5,cf 22 4 20 21,aY 23 4 22,b2 24 108 19 23,cj 25 24]) (aT 25 (aa [a8 4 false] .ret) .skip)))) (.region [aV 26 .add 13 1,I 13 26])))) (aa [a8 4 true] .ret))))
@[simp] def anU:List bO:=[.tmp 4]
def Q2:C:=(aa [er 2 4] (.seq (aa [I 9 0,cB 10 68 9,cj 11 10] (aT 11 (aa [er 2 4] .ret) .skip)) (aa [cP (.mkmap 12 (some 865)),cP (.alloc 3 (some 866) (.junk)),bB 1 3 12] (.seq (aa [I 13 0,cB 14 71 13,ca 15 14,bS 16 0] (e0 17 16 15 (.seq (.block 1 (aa [I 18 16,cf 19 1 14 16,av 20 1 19,I 4 18,I 5 20] (.region [av 21 1 3,I 22 5,I 23 4,cP (.mput .i (.t 21) (.t 22) (.t 23))]))) (.region [aV 24 .add 16 1,I 16 24])))) (aa [eI 25 4 32 [],I 6 25] (.seq (aa [I 26 0,ca 27 26,bS 28 0] (.block 2 (.loop (aa [bk 29 .lss 28 27] (.seq (aT 29 .skip (.exit 2)) (.seq (.block 3 (aa [cf 30 4 26 28,aY 31 4 30,c1 8 dH,bB 4 8 31] (.region [I 32 6,aY 33 4 8,b5 34 (.mkf 154 [.t 3]),b2 35 153 33 34,eI 36 4 32 [.t 35],h6 37 4 32 32 36,I 6 37]))) (.region [aV 38 .add 28 1,I 28 38]))))))) (aa [I 39 6,I 2 39] .ret)))))))
@[simp] def anE:List bO:=[.tmp 2]
def RD:C:=(aa [er 2 1] (aa [cP (.bslm 7 (some 861) 1 3 []),cP (.alloc 3 (some 862) (.slice 1 .nil [])),bB 1 3 7] (aa [cP (.mkmap 8 (some 863)),cP (.alloc 4 (some 864) (.junk)),bB 1 4 8] (.seq (aa [I 9 0,ca 10 9,bS 11 0] (e0 12 11 10 (.seq (.block 1 (aa [cf 13 4 9 11,aY 14 4 13,c1 6 dH,bB 4 6 14] (.region [aY 15 4 6,b5 16 (.mkf 155 [.t 4,.t 3]),b2 17 129 15 16]))) (.region [aV 18 .add 11 1,I 11 18])))) (.seq (.pubB 3 (.region [av 19 1 3,I 2 19])) .ret)))))
@[simp] def anT:List bO:=[.tmp 2]
def yi:C:=(aa [cC 2 0,er 4 1] (.seq (aa [aE 7 0 1 2,av 8 1 7,aV 9 .eql 8 1,I 10 9,cb 10 true 11 1,aq 10 true (aE 12 1 1 2),aq 10 true (av 13 1 12),aq 10 true (b2 14 221 11 13),aq 10 true (cj 15 14),dL 16 10 15] (aT 16 (aa [I 17 1,aE 18 1 1 2,av 19 1 18,eI 20 1 3 [.t 19],cP (.appm 21 none 1 3 (.t 17) (.t 20)),I 4 21] .ret) .skip)) (.seq (aa [aE 22 3 1 2,av 23 1 22,ca 24 23,bS 25 0] (e0 26 25 24 (.seq (.block 1 (aa [cf 27 4 23 25,aY 28 4 27,c1 6 dH,bB 4 6 28] (.region [aY 29 4 6,I 30 1,b2 31 148 29 30,I 1 31]))) (.region [aV 32 .add 25 1,I 25 32])))) (aa [I 33 1,I 4 33] .ret))))
@[simp] def zy:List bO:=[.tmp 4]
def Q3:C:=(aa [c1 3 dH,a8 4 false] (aa [av 5 1 1,I 6 0,b5 7 (.mget .i (.int .i64 0) false (.t 5) (.t 6)),cB 8 96 7,bB 4 3 8,a8 4 true] .ret))
@[simp] def Yi:List bO:=[.cell 3 true 4,.tmp 4]
def Ke:C:=(aa [av 4 1 1,I 5 0,b5 6 (.mget .i (.bool false) false (.t 4) (.t 5)),cj 7 6] (aT 7 (aa [av 8 1 1,I 9 0,cP (.mput .i (.t 8) (.t 9) (.c (.bool true)))] (.region [b5 10 (.loadB false 1 (.t 2)),I 11 0,eI 12 1 3 [.t 11],cP (.appm 13 none 1 3 (.t 10) (.t 12)),bB 1 2 13])) .skip))
@[simp] def Om:List bO:=[]
def SJ:C:=(aa [a8 4 false] (.seq (aa [I 7 0,ca 8 7,bS 9 0] (e0 10 9 8 (.seq (.block 1 (aa [cf 11 1 7 9,av 12 1 11,I 6 12] (aa [I 13 6,I 14 1,bk 15 .eql 13 14] (aT 15 (aa [a8 4 true] .ret) .skip)))) (.region [aV 16 .add 9 1,I 9 16])))) (aa [a8 4 false] .ret)))
@[simp] def OB:List bO:=[.tmp 4]
def pL:List (Nat×dN):=[
 (3,⟨1,8,.int .i64,.int .i64 0⟩),
 (4,⟨1,1,.bool,.bool false⟩),
 (23,⟨1,24,.slice 61,.slice 5 .nil []⟩),
 (28,⟨5,104,.struct [(0,3),(1,23),(2,24),(3,25),(4,26)],.agg [.int .i64 0,.slice 5 .nil [],.slice 1 .nil [],.slice 2 .nil [],.slice 2 .nil []]⟩),
 (30,⟨1,24,.slice 32,.slice 4 .nil []⟩),
 (32,⟨4,56,.struct [(0,3),(1,3),(2,9),(3,30)],.agg [.int .i64 0,.int .i64 0,.str [],.slice 4 .nil []]⟩),
 (43,⟨1,24,.slice 124,.slice 4 .nil []⟩),
 (49,⟨5,104,.struct [(0,3),(1,44),(2,45),(3,46),(4,47)],.agg [.int .i64 0,.slice 5 .nil [],.slice 1 .nil [],.slice 2 .nil [],.slice 2 .nil []]⟩),
 (51,⟨6,128,.struct [(0,43),(1,49)],.agg [.slice 4 .nil [],.int .i64 0,.slice 5 .nil [],.slice 1 .nil [],.slice 2 .nil [],.slice 2 .nil []]⟩),
 (55,⟨6,128,.struct [(0,30),(1,28)],.agg [.slice 4 .nil [],.int .i64 0,.slice 5 .nil [],.slice 1 .nil [],.slice 2 .nil [],.slice 2 .nil []]⟩),
 (112,⟨1,24,.slice 3,.slice 1 .nil []⟩),
 (154,⟨1,8,.map 3 4,.junk⟩),
 (182,⟨1,8,.map 3 3,.junk⟩)]
theorem iN:fY al pL=true:=by kernel_rfl
theorem NT:bZ pL FZ Iq 2 Tryz.f21=true:=by kernel_rfl
theorem K4:al.funcs[(21:Nat)]? =some Tryz.f21:=Tryz.func21
theorem HZ:bZ pL CP aoz 1 Tryz.f22=true:=by kernel_rfl
theorem Gm:al.funcs[(22:Nat)]? =some Tryz.f22:=Tryz.func22
theorem amg:bZ pL R0 aog 1 Tryz.f23=true:=by kernel_rfl
theorem afg:al.funcs[(23:Nat)]? =some Tryz.f23:=Tryz.func23
theorem BL:bZ pL ye anD 1 Tryz.f24=true:=by kernel_rfl
theorem Ay:al.funcs[(24:Nat)]? =some Tryz.f24:=Tryz.func24
theorem al5:bZ pL RP anX 2 Tryz.f25=true:=by kernel_rfl
theorem ae5:al.funcs[(25:Nat)]? =some Tryz.f25:=Tryz.func25
theorem amU:bZ pL SG aoD 1 Tryz.f64=true:=by kernel_rfl
theorem afT:al.funcs[(64:Nat)]? =some Tryz.f64:=Tryz.func64
theorem amR:bZ pL SD aoA 1 Tryz.f66=true:=by kernel_rfl
theorem afQ:al.funcs[(66:Nat)]? =some Tryz.f66:=Tryz.func66
theorem XM:bZ pL Kf anU 2 Tryz.f69=true:=by kernel_rfl
theorem TW:al.funcs[(69:Nat)]? =some Tryz.f69:=Tryz.func69
theorem alh:bZ pL Q2 anE 1 Tryz.f70=true:=by kernel_rfl
theorem aej:al.funcs[(70:Nat)]? =some Tryz.f70:=Tryz.func70
theorem alT:bZ pL RD anT 1 Tryz.f71=true:=by kernel_rfl
theorem aeT:al.funcs[(71:Nat)]? =some Tryz.f71:=Tryz.func71
theorem BP:bZ pL yi zy 2 Tryz.f148=true:=by kernel_rfl
theorem AD:al.funcs[(148:Nat)]? =some Tryz.f148:=Tryz.func148
theorem ali:bZ pL Q3 Yi 2 Tryz.f154=true:=by kernel_rfl
theorem aek:al.funcs[(154:Nat)]? =some Tryz.f154:=Tryz.func154
theorem XL:bZ pL Ke Om 3 Tryz.f155=true:=by kernel_rfl
theorem TV:al.funcs[(155:Nat)]? =some Tryz.f155:=Tryz.func155
theorem amX:bZ pL SJ OB 2 Tryz.f221=true:=by kernel_rfl
theorem afW:al.funcs[(221:Nat)]? =some Tryz.f221:=Tryz.func221
open Classical in
noncomputable def nj(s:ch)(t:T)(k:Int):Option ch:=if(k=2\/k=3)/\(t.ap (bp s.b)).size<=5000 then(jk s.k (t.ap (bp s.b)) k).bind fun l=>ij {s with k:=l}else none
open Classical in
noncomputable def np(s:ch)(t:T)(g:List dw):Option ch:=if(t.ap (bp s.b)).size<=5000 then(j1 s.m (t.ap (bp s.b)) g).bind fun l=>ij {s with m:=l}else none
def mo(m:List bj):Prop:= ∃G:List (List dw),G.length<=686999/\n7 G m
theorem mo.w{m:List bj}(h:mo m):nt m:=by obtain⟨G,J,U⟩:=h;exact⟨G,Ω,U⟩
theorem jw.apb{s:ch}(h:jw s){t:T}(uY:ez s.n t=true){w:Int}(hw:(t.ap (bp s.b)).occ w=true):w<s.n:=by obtain⟨v,J,U⟩:=BI.1 hw;exact MO h.b h.bb (yc.1 uY v J) U
theorem jw.apo{s:ch}(h:jw s){t:T}(aJ:t.fit=true):(t.ap (bp s.b)).ok=true:=EV h.b.ok (T.fit_ok aJ)
theorem jw.knd{s:ch}(h:jw s){t:T}(aJ:t.fit=true)(uY:ez s.n t=true){k:Int}(ad:k=2\/k=3){l:List bN}(he:jk s.k (t.ap (bp s.b)) k=some l):jw {s with k:=l}:=⟨h.n,h.b,h.d,FD h.k (h.apo aJ) ad he,h.m,h.bb,h.db,fun x ab=>(JQ he x ab).elim (h.kb x) fun e=>h.apb uY (by rw[e];simp[T.occ]),h.mb⟩
theorem jw.mrk{s:ch}(h:jw s){t:T}(aJ:t.fit=true)(uY:ez s.n t=true){g:List dw}(a7:iX g=true){l:List bj}(he:j1 s.m (t.ap (bp s.b)) g=some l):jw {s with m:=l}:=⟨h.n,h.b,h.d,h.k,FE h.m (h.apo aJ) a7 he,h.bb,h.db,h.kb,fun x ab=>((Bz he x).1 ab).elim (h.mb x) fun e=>h.apb uY e.2⟩
theorem mo.mrk{m l:List bj}(h:mo m){t:T}{g:List dw}(he:j1 m t g=some l):nt l:=by obtain⟨G,J,U⟩:=h;exact⟨g::G,by simp only[oX];omega,FF (fun x ab=>oY _ (U x ab)) Ψ he⟩
theorem aj5{s u:ch}(h:jw s){t:T}(aJ:t.fit=true)(uY:ez s.n t=true){k:Int}(he:nj s t k=some u):rL u:=by
 unfold nj at he;split at he
 ·rename_i g;obtain⟨l,J,U⟩:=kK.1 he;exact(EU (h.knd aJ uY g.1 J) U).1
 ·cases he
theorem akT{s u:ch}(h:jw s){t:T}(aJ:t.fit=true)(uY:ez s.n t=true){g:List dw}(a7:iX g=true)(he:np s t g=some u):rL u:=by
 unfold np at he;split at he
 ·obtain⟨l,J,U⟩:=kK.1 he;exact(EU (h.mrk aJ uY a7 J) U).1
 ·cases he
def rP(a:c4 cq):aj:=a.e 4 cq.e
@[simp]theorem auo(S:aI->Prop)(d:c4 cq):aB S (rP d)=True:=by cases d<;>simp[rP,c4.e,aB]
@[simp]theorem av5(d:c4 cq):dz (rP d)=rP d:=by
 cases d with
 |l l=>
  have:∀l:List cq,c6 (l.map cq.e)=l.map cq.e:=by
   intro l;induction l with
   |nil=>rfl
   |cons x l bR=>simp[c6,bR]
  simp[rP,c4.e,dz,this]
 |b=>simp[rP,c4.e,dz]
theorem ap8(l:List bL):rP (.l (l.map rO))= .slice 4 .no (l.map enc):=by simp only[rP,c4.e,List.map_map];congr 1;exact List.map_congr_left fun t _=>Px t
def ta(a:c4 cq)(m:Int):Int:=gV ik a m
theorem Pp(a:c4 cq)(m:Int)(h:0<=m): -1<=ta a m/\ta a m<=m:=ux wg a m h
theorem arp(a:c4 cq)(hw:a.wf fun t=>t.wf)(m:Int)(br:0<=m)(J:m<=1048576):bC al 32 [rP a,.int .i64 m] (.int .i64 (ta a m)):=PT a (fun p n c e=>by subst e;exact hw) (fun xs e x ab m br J=>by subst e;exact aaN x (hw x ab) m br J) m br J
theorem ary(l:List bL):bC al 34 [.slice 4 .no (l.map enc)] (.slice 4 .no (l.map enc)):=aaT l fun x _=>aaS x
theorem aqH(l:List bL):bC al 36 [.slice 4 .no (l.map enc),.slice 4 .no (l.map enc)] (.bool true):=aap l fun x _=>aao x
theorem apW{r:oo}{ko:Int}(hw:r.wf)(VD:ko<=1048576)(atl:0<=ko)(h:0<=uz r ko):∃u:h1,r=u.h/\(hN u.m->u.m.length<=524288):=by
 obtain⟨n,b,d,k,l⟩:=r;obtain⟨ej,dp,pM,nv⟩:=hw;simp only at ej dp pM nv;unfold uz at h;simp only at h;have bV:=xN b ko Ω;split at h
 ·omega
 have b7:=ux xN d (iB b ko) Ω;split at h
 ·omega
 have fV:=Pn k (gV iB d (iB b ko)) Ω;split at h
 ·omega
 split at h
 ·omega
 obtain⟨b4,rfl⟩:=ZO b ko ej Ω Ω Ω;obtain⟨cd,rfl⟩:=I7 xN (P:=xY) ZO d (iB (u2 b4) ko) dp Ω Ω Ω;generalize gV iB (.l (cd.map u2)) (iB (u2 b4) ko)=bo at*;cases k with
 |b=>simp only[pJ]at*;omega
 |l bJ=>
  generalize pJ (.l bJ) bo=b3 at*;have o8:=ux E7 l b3 Ω;obtain⟨ha,rfl⟩:=I7 E7 (P:=fun x=>x.s.wf) apT l b3 nv Ω Ω Ω;refine⟨⟨n,b4,cd,bJ,ha⟩,rfl,fun hm=>?_⟩;simp only at hm⊢;simp only[gV,oP]at h;split at h
  ·omega
  ·have:=ZU ha _ (fun x ab=>ak2 (hm.at' x ab).2) h;simp only[oh]at this;omega
theorem mo.of{m:List bj}(h:m.length<=524288):mo m:=⟨m.map (·.s),by simp;omega,fun _ ab=>List.mem_map_of_mem ab⟩
@[simp high] theorem au6(d:c4 cq)(r:List aj):gr (rP d::r)=true:=by cases d<;>rfl
theorem apY{a:c4 cq}(hw:a.wf fun t=>t.wf){m:Int}(br:0<=m)(J:m<=1048576)(h:0<=ta a m):∃l:List bL,a= .l (l.map rO):=I7 wg (P:=fun t=>t.wf) (fun x m bF J br h=>Po x m bF J br h) a m hw J br h
structure nA where
 t:c4 cq
 s:oo
def nA.e(a:nA):aj:= .agg [rP a.t,.int .i64 a.s.n,kB a.s.b,r2 a.s.d,sK a.s.k,sR a.s.m]
structure nA.wf (a:nA):Prop where
 t:a.t.wf fun t=>t.wf
 s:a.s.wf
def pI(a:nA)(m:Int):Int:=if ta a.t m<0 then-1 else if uz a.s (ta a.t m)<0 then-1 else uz a.s (ta a.t m)
theorem ZL(a:nA)(m:Int)(h:0<=m):pI a m<=m:=by
 have J:=Pp a.t m h;unfold pI;split
 ·omega
 ·have U:=apV a.s (ta a.t m) Ω;split<;>omega
structure hp where
 t:List bL
 s:h1
def hp.e(a:hp):aj:= .agg [.slice 4 .no (a.t.map enc),.int .i64 a.s.n,.slice 5 .no (a.s.b.map c3.e),.slice 1 .no (a.s.d.map gl),.slice 2 .no (a.s.k.map bN.e),.slice 2 .no (a.s.m.map bj.e)]
def hp.h(a:hp):nA:=⟨.l (a.t.map rO),a.s.h⟩
theorem QB(a:hp):a.h.e=a.e:=by have h:=apH a.s;simp only[oo.e,h1.e,aj.agg.injEq,oW,and_true]at h;obtain⟨J,U,ar,a6,b0⟩:=h;simp only[nA.e,hp.e,hp.h,ap8,aj.agg.injEq,oW,and_true,true_and];exact⟨J,U,ar,a6,b0⟩
theorem ZN{a:nA}(hw:a.wf){m:Int}(br:0<=m)(J:m<=1048576)(h:0<=pI a m):∃u:hp,a=u.h/\(hN u.s.m->mo u.s.m):=by
 obtain⟨t,s⟩:=a;obtain⟨ej,dp⟩:=hw;have hle:=Pp t m br;unfold pI at h;simp only at h ej dp;split at h
 ·omega
 split at h
 ·omega
 obtain⟨l,rfl⟩:=apY ej br J Ω;obtain⟨u,rfl,hu⟩:=apW dp Ω Ω h;exact⟨⟨l,u⟩,rfl,fun hm=>mo.of (hu hm)⟩
theorem apX(l:List bL)(m:Int)(h:0<=ta (.l (l.map rO)) m):(l.length:Int)<=m:=by
 unfold ta at h;simp only[gV,oP]at h;split at h
 ·omega
 ·simp only[oh]at*;omega
theorem ZM(r:hp){m:Int}(h:0<=pI r.h m)(J:m<=1048576:=by omega):r.t.length<=1048576:=by
 unfold pI at h;split at h
 ·omega
 ·rename_i U;have:=apX r.t m (by have:r.h.t= .l (r.t.map rO):=rfl;rw[this]at U;omega)
  omega
theorem aaL(a:nA)(hw:a.wf)(m:Int)(br:0<=m)(J:m<=1048576):bC al 21 [a.e,.int .i64 m] (.int .i64 (pI a m)):=by
 obtain⟨t,s⟩:=a;obtain⟨ej,dp⟩:=hw;simp only at ej dp;have aS:=arp t ej m br J;have bV:=Pp t m br;generalize aU:pI ⟨t,s⟩ m=R;unfold pI at aU;simp only at aU;generalize ta t m=ba at aS bV aU;have be:=fun h=>aro s dp ba h Ω;generalize uz s ba=bo at be aU;clear ej dp bV;obtain⟨n,b,d,k,l⟩:=s;simp only[oo.e,nA.e]at be⊢;by_cases g1:ba<0
 ·rw[if_pos g1]at aU;subst aU;clear be;refine bc iN K4 NT fun aM=>?_;unfold FZ;simp[-gr];(with_reducible repeat' first|refine ai ?_|refine az aS ?_|refine aA aS ?_|simp[g1,-gr]);all_goals simp[bq,Iq,aX,aZ,aW]
 rw[if_neg g1]at aU;have be:=be Ω;by_cases g2:bo<0
 ·rw[if_pos g2]at aU;subst aU;refine bc iN K4 NT fun aM=>?_;unfold FZ;simp[-gr];(with_reducible repeat' first|refine ai ?_|refine az aS ?_|refine aA aS ?_|refine az be ?_|refine aA be ?_|simp[g1,g2,-gr]);all_goals simp[bq,Iq,aX,aZ,aW]
 rw[if_neg g2]at aU;subst aU;refine bc iN K4 NT fun aM=>?_;unfold FZ;simp[-gr];(with_reducible repeat' first|refine ai ?_|refine az aS ?_|refine aA aS ?_|refine az be ?_|refine aA be ?_|simp[g1,g2,-gr]);all_goals simp[bq,Iq,aX,aZ,aW]
theorem aaQ(a:hp):bC al 23 [a.e] a.e:=by obtain⟨t,s⟩:=a;have aS:=ary t;have be:=arx s;obtain⟨n,b,d,k,l⟩:=s;simp only[h1.e,hp.e]at be⊢;refine bc iN afg amg fun aM=>?_;unfold R0;exact bQ
theorem aam(a:hp):bC al 25 [a.e,a.e] (.bool true):=by obtain⟨t,s⟩:=a;have aS:=aqH t;have be:=aqG s;obtain⟨n,b,d,k,l⟩:=s;simp only[h1.e,hp.e]at be⊢;refine bc iN ae5 al5 fun aM=>?_;unfold RP;exact bQ
def hb:T->List Int->List Int
 | .var n,l=>if n∈l then l else l++[n]
 | .pair a b,l=>hb b (hb a l)
 |_,l=>l
def fQ(u:List T)(l:List Int):List Int:=u.foldl (fun l t=>hb t l) l
theorem N3{m:Int}:∀(t:T) {l:List Int},m∈hb t l↔m∈l\/t.occ m=true
 | .var n,l=>by
  simp only[hb,T.occ,eb];split
  ·rename_i h;exact⟨.inl,fun cn=>cn.elim id fun e=>by subst e;exact h⟩
  ·rw[kt,List.mem_singleton];exact or_congr Iff.rfl eq_comm
 | .pair a b,l=>by simp only[hb,N3 b,N3 a,T.occ,lu,or_assoc]
 | .nil,l=>by simp[hb,T.occ]
 | .sym _,l=>by simp[hb,T.occ]
 | .num _,l=>by simp[hb,T.occ]
theorem N4:∀(t:T) {l:List Int},l.Nodup->(hb t l).Nodup
 | .var n,l,h=>by
  simp only[hb];split
  ·exact h
  ·rename_i ax;rw[List.nodup_append];exact⟨h,Ψ,fun a bD b af e=>by rw[List.mem_singleton.1 af]at e;rw[e]at bD;exact ax bD⟩
 | .pair a b,l,h=>N4 b (N4 a h)
 | .nil,_,h=>h
 | .sym _,_,h=>h
 | .num _,_,h=>h
theorem H7:∀(t:T) (l:List Int),(hb t l).length<=l.length+t.size
 | .var n,l=>by simp only[hb,T.size];split<;>simp<;>omega
 | .pair a b,l=>by have J:=H7 a l;have U:=H7 b (hb a l);simp only[hb,T.size];omega
 | .nil,l=>by simp[hb]
 | .sym _,l=>by simp[hb]
 | .num _,l=>by simp[hb]
theorem Ev{m:Int}:∀(u:List T) {l:List Int},m∈fQ u l↔m∈l\/ ∃t∈u,t.occ m=true
 |[],l=>by simp[fQ]
 |t::u,l=>by show m∈fQ u (hb t l)↔_;rw[Ev u,N3];simp[or_assoc]
theorem N5:∀(u:List T) {l:List Int},l.Nodup->(fQ u l).Nodup
 |[],_,h=>h
 |t::u,_,h=>N5 u (N4 t h)
theorem FH{f:Int->Int}:∀{t:T},t.ap (fun v=>.var (f v))=t↔∀v,t.occ v=true->f v=v
 | .var n=>by simp[T.ap,T.occ]
 | .pair a b=>by simp only[T.ap,T.pair.injEq,T.occ,lu,FH (t:=a),FH (t:=b)];exact⟨fun h v aF=>aF.elim (h.1 v) (h.2 v),fun h=>⟨fun v aF=>h v (.inl aF),fun v aF=>h v (.inr aF)⟩⟩
 | .nil=>by simp[T.ap,T.occ]
 | .sym _=>by simp[T.ap,T.occ]
 | .num _=>by simp[T.ap,T.occ]
theorem acg{u:List T}{f:Int->Int}(aK:∀(i:Nat) v,(fQ u [])[i]? =some v->f v=(i:Int)):(∀t∈u,t.ap (fun v=>.var (f v))=t)↔∀(i:Nat) v,(fQ u [])[i]? =some v->v=(i:Int):=by
 constructor
 ·intro h i v aF;have hm:=dV aF;rw[Ev]at hm;rcases hm with hm|⟨t,aJ,ay⟩
  ·simp at hm
  ·rw[<-FH.1 (h t aJ) v ay];exact aK i v aF
 ·intro h t aJ;rw[FH];intro v aF;have hm:v∈fQ u []:=(Ev u).2 (.inr ⟨t,aJ,aF⟩);obtain⟨i,hi⟩:=List.mem_iff_getElem?.1 hm;rw[aK i v hi];exact(h i v hi).symm
def ec:T->T->List ao->Bool×List ao
 | .var n,t,l=>match cS l n with
  |some x=>(decide (x=t),l)
  |none=>(true,l9 ⟨n,t⟩ l)
 | .pair a b,.pair c d,l=>if(ec a c l).1 then(if(ec b d (ec a c l).2).1 then ec b d (ec a c l).2 else(false,[]))else(false,[])
 |p,t,l=>if p=t then(true,l)else(false,[])
structure uV (m:List (Int×T)) (l:List ao):Prop where
 asc:hg l
 look:∀v,jL v m=cS l v
theorem QL{b:ao}{s:List ao}(bD:hg s)(ax:cS s b.v=none)(v:Int):cS (l9 b s) v=if b.v=v then some b.t else cS s v:=by
 have GY:=nF.1 ax;have hi:=Ad bD GY;split
 ·rename_i e;subst e;exact pY hi (zg.2 (.inl rfl))
 ·rename_i e;cases h:cS s v with
  |some t=>exact pY (b:=⟨v,t⟩) hi (zg.2 (.inr (j2 h)))
  |none=>
   refine nF.2 fun c aw=>?_;rcases zg.1 aw with rfl|aw
   ·exact e
   ·exact nF.1 h c aw
theorem ZY(k:Int)(x:Int×T):∀m:List (Int×T),jL k (m++[x])=match jL k m with|some t=>some t|none=>if k=x.1 then some x.2 else none
 |[]=>by obtain⟨i,t⟩:=x;simp[jL]
 |(i,t)::m=>by
  simp only[bW,jL];split
  ·rfl
  ·exact ZY k x m
theorem uV.ins{m:List (Int×T)}{l:List ao}(h:uV m l){n:Int}(t:T)(ax:cS l n=none):uV (m++[(n,t)]) (l9 ⟨n,t⟩ l):=by
 refine⟨Ad h.asc (nF.1 ax),fun v=>?_⟩;rw[ZY,QL h.asc ax,h.look];simp only;by_cases e:n=v
 ·subst e;simp[ax]
 ·rw[if_neg e,if_neg fun h=>e h.symm];cases cS l v<;>first|rfl|simp
theorem NA:∀(p t:T) {m:List (Int×T)} {l:List ao},uV m l->(fW p t m).1=(ec p t l).1/\((ec p t l).1=true->uV (fW p t m).2 (ec p t l).2)
 | .var n,t,m,l,h=>by
  simp only[fW,ec,h.look n];cases e:cS l n with
  |some x=>exact⟨rfl,fun _=>h⟩
  |none=>exact⟨rfl,fun _=>h.ins t e⟩
 | .pair a b,.pair c d,m,l,h=>by
  obtain⟨J,U⟩:=NA a c h;simp only[fW,ec,J];cases e:(ec a c l).1 with
  |false=>exact⟨rfl,fun h=>by cases h⟩
  |true=>
   obtain⟨ar,a6⟩:=NA b d (U e);simp only[if_true];rw[ar];cases aD:(ec b d (ec a c l).2).1 with
   |false=>exact⟨Ψ,fun h=>by simp at h⟩
   |true=>simp only[if_true];exact⟨aD.symm▸rfl,fun _=>a6 aD⟩
 | .pair a b,.var _,m,l,h=>by simp[fW,ec]
 | .pair a b,.nil,m,l,h=>by simp[fW,ec]
 | .pair a b,.sym _,m,l,h=>by simp[fW,ec]
 | .pair a b,.num _,m,l,h=>by simp[fW,ec]
 | .nil,t,m,l,h=>by
  by_cases e:T.nil=t
  ·subst e;simp[fW,ec];exact h
  ·cases t<;>simp_all[fW,ec]
 | .sym s,t,m,l,h=>by
  by_cases e:T.sym s=t
  ·subst e;simp[fW,ec];exact h
  ·cases t<;>simp_all[fW,ec]
 | .num k,t,m,l,h=>by
  by_cases e:T.num k=t
  ·subst e;simp[fW,ec];exact h
  ·cases t<;>simp_all[fW,ec]
theorem agt(t:T):∀l:List Int,t.fold pV l=hb t l:=by
 induction t with
 |pair a b dG dK=>intro l;simp only[T.fold,hb,dG,dK]
 |_=>intro l;rfl
theorem X3(u:List T)(t:T)(l:List Int):fQ (u++[t]) l=hb t (fQ u l):=by simp[fQ,List.foldl_append]
def sI:List Int->Int->Nat
 |[],_=>0
 |x::r,v=>if x=v then 0 else sI r v+1
theorem VU:∀{l:List Int} (_:l.Nodup) {i:Nat} {v:Int},l[i]? =some v->sI l v=i
 |[],_,i,v,h=>by simp at h
 |x::r,ax,0,v,h=>by simp at h;simp[sI,h]
 |x::r,ax,i+1,v,h=>by simp only[List.getElem?_cons_succ]at h;have hm:=dV h;have GY:=List.nodup_cons.1 ax;have:x≠v:=fun e=>GY.1 (e▸hm);rw[sI,if_neg this,VU GY.2 h]
theorem apQ(g:Int->Int)(t:T):t.sub (fun v=>some (.var (g v)))=t.ap (fun v=>.var (g v)):=by
 induction t with
 |pair a b dG dK=>simp only[T.sub,T.ap,dG,dK]
 |_=>rfl
def B6(o:List Int)(t:T):T:=t.sub fun v=>some (.var (sI o v))
def yk(u:List T):List T:=u.map (B6 (fQ u []))
theorem W9{α:Type}(f:α->α):∀l:List α,l.map f=l↔∀x∈l,f x=x
 |[]=>by simp
 |x::r=>by simp[W9 f r]
def Cn(o:List Int):Prop:= ∀(i:Nat) (v:Int),o[i]? =some v->v=i
theorem acf(u:List T):yk u=u↔Cn (fQ u []):=by
 unfold yk;rw[W9];have ax:(fQ u []).Nodup:=N5 u Ψ;have:=acg (u:=u) (f:=fun v=>(sI (fQ u []) v:Int)) fun i v h=>by rw[VU ax h]
 rw[show Cn (fQ u [])↔_ from this.symm];exact forall_congr' fun t=>forall_congr' fun _=>by rw[B6,apQ]
theorem H8(u:List T):∀l:List Int,(∀t∈u,t.fit=true)->(fQ u l).length<=l.length+5000*u.length:=by
 induction u with
 |nil=>intro l _;simp[fQ]
 |cons t r bR=>intro l aJ;have J:=bR (hb t l) fun x ab=>aJ x (oY _ ab);have U:=H7 t l;have ar:=aJ t (List.mem_cons_self ..);simp only[T.fit,cy,eW]at ar;have a6:fQ (t::r) l=fQ r (hb t l):=rfl;rw[a6];simp only[oX];omega
def mtL:List T->List T->List (Int×T)->Bool×List (Int×T)
 |p::b1,t::eP,m=>if(fW p t m).1 then mtL b1 eP (fW p t m).2 else(false,(fW p t m).2)
 |_,_,m=>(true,m)
def en:List T->List T->List ao->Bool×List ao
 |p::b1,t::eP,l=>if(ec p t l).1 then en b1 eP (ec p t l).2 else(false,(ec p t l).2)
 |_,_,l=>(true,l)
theorem HP:∀(b1 eP:List T) {m:List (Int×T)} {l:List ao},uV m l->(mtL b1 eP m).1=(en b1 eP l).1/\((en b1 eP l).1=true->uV (mtL b1 eP m).2 (en b1 eP l).2)
 |[],_,m,l,h=>by simp[mtL,en,h]
 |_::_,[],m,l,h=>by simp[mtL,en,h]
 |p::b1,t::eP,m,l,h=>by
  obtain⟨J,U⟩:=NA p t h;simp only[mtL,en,J];cases e:(ec p t l).1 with
  |false=>exact⟨rfl,fun h=>by cases h⟩
  |true=>simp only[if_true];exact HP b1 eP (U e)
def aiH(v:List ao)(b:ao):Bool:=decide ((b.t.ap (bp v)).size<=5000)&& !decide (bp v b.v=b.t.ap (bp v))
def ac4(v:List ao)(d:List ao):Bool:=d.any (aiH v)
def ald(v:List ao)(b:ao):Bool:=decide ((b.t.ap (bp v)).size<=5000)&&decide (b.t.ap (bp v)=bp v b.v)
structure apB (s:ch) (v:List ao):Prop where
 b:s.b.all (ald v)=true
 d:s.d.all (ac4 v)=true
 k:s.k.all (fun k=>decide ((bp v k.v).kind=k.k))=true
 m:s.m.all (fun m=> !(bp v m.v).has m.s)=true
def zP(x:Int×T):ao:=⟨x.1,x.2⟩
def ql(l:List ao):List ao:=l.mergeSort fun x y=>decide (x.v<=y.v)
theorem E2(l:List ao):(ql l).length=l.length:=List.length_mergeSort l
theorem ZZ{k:Int}:∀{m:List (Int×T)},jL k m=none->k∉m.map (·.1)
 |[],_=>by simp
 |(i,v)::r,h=>by
  simp only[jL]at h;split at h
  ·cases h
  ·rename_i cM;have:=ZZ h;simp only[gM,fT,not_or];exact⟨cM,this⟩
theorem akY(p:T):∀(t:T) (m:List (Int×T)),(m.map (·.1)).Nodup->((fW p t m).2.map (·.1)).Nodup:=by
 induction p with
 |var n=>
  intro t m hm;simp only[fW];split
  ·exact hm
  ·rename_i h;have:=ZZ h;rw[rT,List.nodup_append];refine⟨hm,Ψ,?_⟩;intro a bD b af e;simp at af;subst af e;exact this bD
 |pair a b dG dK=>
  intro t m hm;cases t with
  |pair c d=>
   simp only[fW];split
   ·exact dK d _ (dG c m hm)
   ·exact dG c m hm
  |_=>simpa[fW]using hm
 |_=>intro t m hm;cases t<;>simpa[fW]using hm
structure pD (o:Int->Bool) (P:(Int->T)->Prop) (Q:(T->Prop)->Prop) (l a1:List ao):Prop where
 asc:hg a1
 mono:∀v x,cS l v=some x->cS a1 v=some x
 keys:∀v,(cS a1 v).isSome=true↔(cS l v).isSome=true\/o v=true
 sound:∀vG:List ao,(∀v x,cS a1 v=some x->cS vG v=some x)->P (bp vG)
 vals:∀R:T->Prop,(∀a b,R (.pair a b)->R a/\R b)->Q R->(∀v x,cS l v=some x->R x)->∀v x,cS a1 v=some x->R x
theorem pD.seq{gU fB:Int->Bool}{x3 Qg:(Int->T)->Prop}{Qh Qi:(T->Prop)->Prop}{l hC fP:List ao}(J:pD gU x3 Qh l hC)(U:pD fB Qg Qi hC fP):
  pD (fun v=>gU v||fB v) (fun aQ=>x3 aQ/\Qg aQ) (fun R=>Qh R/\Qi R) l fP where
 asc:=U.asc
 mono v x h:=U.mono v x (J.mono v x h)
 keys v:=by rw[U.keys,J.keys,lu,or_assoc]
 sound vG h:=⟨J.sound vG fun v x e=>h v x (U.mono v x e),U.sound vG h⟩
 vals R aw bn h:=U.vals R aw bn.2 (J.vals R aw bn.1 h)
theorem pD.imp{o o':Int->Bool}{P Qf:(Int->T)->Prop}{Q o2:(T->Prop)->Prop}{l a1:List ao}(h:pD o P Q l a1)(ay:∀v,o v=o' v)(LB:∀aQ,P aQ->Qf aQ)(h4:∀R:T->Prop,(∀a b,R (.pair a b)->R a/\R b)->o2 R->Q R):pD o' Qf o2 l a1 where
 asc:=h.asc
 mono:=h.mono
 keys v:=by rw[h.keys,ay]
 sound vG e:=LB _ (h.sound vG e)
 vals R aw bn e:=h.vals R aw (h4 R aw bn) e
theorem pD.refl{l:List ao}(h:hg l):pD (fun _=>false) (fun _=>True) (fun _=>True) l l where
 asc:=h
 mono _ _ e:=e
 keys v:=by simp
 sound _ _:=trivial
 vals _ _ _ e:=e
theorem Nz:∀(p t:T) {l:List ao},hg l->(ec p t l).1=true->pD p.occ (fun aQ=>p.ap aQ=t) (fun R=>R t) l (ec p t l).2
 | .var n,t,l,h,J=>by
  simp only[ec]at J⊢;cases e:cS l n with
  |some x=>
   simp only[e]at J⊢;have:x=t:=of_decide_eq_true J;subst this;refine⟨h,fun _ _ e=>e,fun v=>?_,fun vG Lv=>?_,fun _ _ _ e=>e⟩
   ·simp only[T.occ,eb];exact⟨.inl,fun h=>h.elim id fun h=>by subst h;rw[e];rfl⟩
   ·simp only[T.ap,bp,Lv n x e,jM]
  |none=>
   simp only[e]at J⊢;have af:∀v,cS (l9 ⟨n,t⟩ l) v=if n=v then some t else cS l v:=QL (b:=⟨n,t⟩) h e
   refine⟨Ad h (nF.1 e),fun v x aF=>?_,fun v=>?_,fun vG Lv=>?_,fun R aw bn au v x aF=>?_⟩
   ·rw[af,if_neg (fun ax=>by subst ax;rw[e]at aF;cases aF)];exact aF
   ·rw[af];simp only[T.occ,eb];split
    ·rename_i ax;simp[ax]
    ·rename_i ax;simp[ax]
   ·have:=Lv n t (by rw[af,if_pos rfl]);simp only[T.ap,bp,this,jM]
   ·rw[af]at aF;split at aF
    ·rw[<-ed aF];exact bn
    ·exact au v x aF
 | .pair a b,.pair c d,l,h,J=>by
  simp only[ec]at J⊢;cases ak:(ec a c l).1 with
  |false=>simp[ak]at J
  |true=>
   simp only[ak,if_true]at J⊢;cases aD:(ec b d (ec a c l).2).1 with
   |false=>simp[aD]at J
   |true=>simp only[if_true];have dC:=Nz a c h ak;refine(dC.seq (Nz b d dC.asc aD)).imp (fun v=>by simp only[T.occ]) (fun aQ h=>by simp only[T.ap,h.1,h.2]) fun R aw bn=>aw _ _ bn
 | .pair a b,.var _,l,h,J=>by simp[ec]at J
 | .pair a b,.nil,l,h,J=>by simp[ec]at J
 | .pair a b,.sym _,l,h,J=>by simp[ec]at J
 | .pair a b,.num _,l,h,J=>by simp[ec]at J
 | .nil,t,l,h,J=>by
  by_cases e:T.nil=t
  ·subst e;simp only[ec,if_true];exact(pD.refl h).imp (fun v=>rfl) (fun _ _=>rfl) fun _ _ _=>trivial
  ·simp[ec,e]at J
 | .sym s,t,l,h,J=>by
  by_cases e:T.sym s=t
  ·subst e;simp only[ec,if_true];exact(pD.refl h).imp (fun v=>rfl) (fun _ _=>rfl) fun _ _ _=>trivial
  ·simp[ec,e]at J
 | .num k,t,l,h,J=>by
  by_cases e:T.num k=t
  ·subst e;simp only[ec,if_true];exact(pD.refl h).imp (fun v=>rfl) (fun _ _=>rfl) fun _ _ _=>trivial
  ·simp[ec,e]at J
def zl(u:List T)(v:Int):Bool:=u.any fun t=>t.occ v
theorem Nw:∀(u eP:List T) {l:List ao},hg l->u.length=eP.length->(en u eP l).1=true->pD (zl u) (fun aQ=>u.map (T.ap aQ)=eP) (fun R=> ∀t∈eP,R t) l (en u eP l).2
 |[],[],l,h,_,_=>(pD.refl h).imp (fun v=>rfl) (fun _ _=>rfl) fun _ _ _=>trivial
 |[],_::_,l,h,au,_=>by simp at au
 |_::_,[],l,h,au,_=>by simp at au
 |p::u,t::eP,l,h,au,J=>by
  simp only[en]at J⊢;cases ak:(ec p t l).1 with
  |false=>simp[ak]at J
  |true=>simp only[ak,if_true]at J⊢;have dC:=Nz p t h ak;refine(dC.seq (Nw u eP dC.asc (by simpa using au) J)).imp (fun v=>by simp[zl]) (fun aQ h=>by simp[h.1,h.2]) fun R aw bn=>⟨bn t Ψ,fun x ab=>bn x (by simp[ab])⟩
theorem HX{u:List T}{n:Nat}(ax:(fQ u []).length=n)(hu:Cn (fQ u []))(v:Int):zl u v=true↔0<=v/\v<n:=by
 have J:zl u v=true↔v∈fQ u []:=by rw[Ev];simp[zl]
 rw[J,List.mem_iff_getElem?];constructor
 ·rintro⟨i,hi⟩;have:=hu i v hi;have:=(eV.1 hi).1;omega
 ·intro h;have hi:v.toNat<(fQ u []).length:=Ω
  refine⟨v.toNat,?_⟩;rw[b6 hi];have:=hu _ _ (b6 hi);rw[this];congr 1;omega
theorem Pa{l:List ao}(aR:(l.map (·.v)).Nodup):hg (ql l):=by
 have aJ:∀a b c:ao,(decide (a.v<=b.v))=true->(decide (b.v<=c.v))=true->(decide (a.v<=c.v))=true:=by intro a b c;simp;omega
 have w5:∀a b:ao,(decide (a.v<=b.v)||decide (b.v<=a.v))=true:=by intro a b;simp;omega
 have J:=List.pairwise_mergeSort aJ w5 l;have U:(ql l).Pairwise fun x y=>x.v≠y.v:=by have bF:((ql l).map (·.v)).Nodup:=((List.mergeSort_perm l _).map _).nodup_iff.2 aR;rw[List.nodup_iff_pairwise_ne,List.pairwise_map]at bF;exact bF
 refine(J.and U).imp fun h=>?_;have:=of_decide_eq_true h.1;omega
theorem abX{m:List (Int×T)}{v:Int}{x:T}:jL v m=some x->(v,x)∈m:=by
 induction m with
 |nil=>intro h;simp[jL]at h
 |cons y r bR=>
  obtain⟨i,t⟩:=y;simp only[jL];split
  ·rename_i e;intro h;rw[e,ed h];simp
  ·intro h;simp[bR h]
theorem abW{m:List (Int×T)}{v:Int}{x:T}(h:(v,x)∈m):jL v m≠none:=by
 induction m with
 |nil=>cases h
 |cons y r bR=>
  obtain⟨i,t⟩:=y;simp only[jL];split
  ·simp
  ·rename_i e;rcases fT.1 h with h|h
   ·injection h with J U;exact absurd J e
   ·exact bR h
theorem JX{m:List (Int×T)}{l:List ao}(h:uV m l)(aR:(m.map (·.1)).Nodup):ql (m.map zP)=l:=by
 have k9:((m.map zP).map (·.v)).Nodup:=by rw[List.map_map];exact aR
 have bD:=Pa k9;refine FI bD h.asc fun v=>?_;rw[<-h.look];cases e:jL v m with
 |some x=>exact pY (b:=⟨v,x⟩) bD ((List.mergeSort_perm _ _).mem_iff.2 (iu.2 ⟨(v,x),abX e,rfl⟩))
 |none=>refine nF.2 fun b af he=>?_;obtain⟨y,aL,rfl⟩:=iu.1 ((List.mergeSort_perm _ _).mem_iff.1 af);have:y.1=v:=he;subst this;exact abW (x:=y.2) aL e
theorem HQ:∀(u eP:List T) {m:List (Int×T)},(m.map (·.1)).Nodup->((mtL u eP m).2.map (·.1)).Nodup
 |[],_,m,h=>by simpa[mtL]using h
 |_::_,[],m,h=>by simpa[mtL]using h
 |p::u,t::eP,m,h=>by
  simp only[mtL];have:=akY p t m h;split
  ·exact HQ u eP this
  ·exact this
theorem amt{t:T}(aJ:t.ok=true){v:Int}(aF:t.occ v=true):0<=v:=by
 induction t with
 |var n=>simp only[T.ok,T.occ,eW,eb]at aJ aF;omega
 |pair a b dG dK=>simp only[T.ok,T.occ,cy,lu]at aJ aF;exact aF.elim (dG aJ.1) (dK aJ.2)
 |_=>simp[T.occ]at aF
end
section
open Go Go.Pv
section
variable {α:Type} (S:α->cL) (f:Int->α->α) (fl:Nat->α->Prop)
theorem ags(AM:∀n v a,fl (n+1) a->fl n (f v a))(ei:∀n a,fl (n+1) a->fl n a)(t:T):∀n a,fl (n+t.size) a->fl n (t.fold f a):=by
 induction t with
 |var v=>intro n a h;exact AM n v a h
 |pair x y mF oH=>intro n a h;refine oH n _ (mF _ a (ei _ _ ?_));simp only[T.size]at h;rwa[show n+y.size+x.size+1=n+(1+x.size+y.size) by omega]
 |_=>intro n a h;exact ei n a h
theorem agN(dy:∀a,dW (S a))(dr:∀a b,Same (S a) (S b))(g:Nat)(di:List aj)(aw:∀a,aC (inObs (S a)) di)(cF:c6 di=di)(AM:∀n v a,fl (n+1) a->fl n (f v a))(ei:∀n a,fl (n+1) a->fl n a)(aK:∀n v a,fl (n+1) a->bI al g (.int .i64 v::di) (S a) fun r ah=>r= .tuple []/\ah=S (f v a))(t:T):
  ∀n a,fl (n+t.size) a->bI al 129 [t.e,.func g di] (S a) fun r ah=>r= .tuple []/\ah=S (t.fold f a):=by
 have ax:∀a m,Pv.look (.loc m) (S a).b=none:=fun a=>(dy a).obj.1;have hu:∀a m cs,cA (.loc m) cs (S a).b=(S a).b++[(.loc m,cs)]:=fun a m cs=>kg (ax a m);have ay:∀a m,aI.loc m∉c2 (S a):=fun a=>j9 (dy a).obj;induction t with
 |pair x y mF oH=>intro n a ae;simp only[T.size]at ae;have hj:fl (n+y.size+x.size) a:=ei _ _ (by rwa[show n+y.size+x.size+1=n+(1+x.size+y.size) by omega]);have y9:=mF _ a hj;have sL:=oH n (x.fold f a) (ags f fl AM ei x _ a hj);clear mF oH aK AM ei;have ag:=dy a;refine bI.mk mixed gj u9 vN Ψ ag.obj fun aM cR=>?_;unfold tw;simp[hu,ay,cK,ax,cF];(with_reducible repeat' first|refine ai ?_|simp[hu,ay,cK,ax]);refine cV.ob y9 ag aN aN (by simp[aw]) ?_;rintro r ah ⟨rfl,rfl⟩;refine⟨dr _ _,?_⟩;simp[gW,im,cl,ax];(with_reducible repeat' first|refine ai ?_|simp[hu,ay,cK,ax]);rw[cF];refine cV.ob sL (dy (x.fold f a)) aN aN (by simp[aw]) ?_;rintro r ah ⟨rfl,rfl⟩;refine⟨dr _ _,?_⟩;simp[gW,im,cl,ax];refine cH.at (S (y.fold f (x.fold f a))) (.inr rfl) (dy _) (dr _ _) aN aN ?_;simp[cN,uk,aX,aZ,aW];simp[T.fold]
 |var v=>intro n a ae;have ajT:=aK n v a ae;clear aK AM ei;have ag:=dy a;refine bI.mk mixed gj u9 vN Ψ ag.obj fun aM cR=>?_;unfold tw;simp[hu,ay,cK,ax,cF];(with_reducible repeat' first|refine ai ?_|simp[hu,ay,cK,ax]);refine cV.ob ajT ag aN aN (by simp[aw]) ?_;rintro r ah ⟨rfl,rfl⟩;refine⟨dr _ _,?_⟩;simp[gW,im,cl,ax,cK];refine cH.at (S (f v a)) (.inr rfl) (dy _) (dr _ _) aN aN ?_;simp[cN,uk,aX,aZ,aW];simp[T.fold]
 |_=>intro n a ae;clear aK AM ei;have ag:=dy a;refine bI.mk mixed gj u9 vN Ψ ag.obj fun aM cR=>?_;unfold tw;simp[hu,ay,cK,ax,cF];(with_reducible repeat' first|refine ai ?_|simp[hu,ay,cK,ax]);refine cH.at (S a) (.inr rfl) ag (Same.refl _) aN aN ?_;simp[cN,uk,aX,aZ,aW];simp[T.fold]
end
def rH(l:List Int):List (Int×Bool):=l.map fun v=>(v,true)
theorem Pw(v:Int):∀l:List Int,c7 v (rH l)=if v∈l then some true else none
 |[]=>rfl
 |x::l=>by have bR:=Pw v l;simp only[rH]at bR;simp only[rH,gM,c7,bR,fT];by_cases h:v=x<;>simp[h]
theorem ap7{v:Int}{l:List Int}(h:v∉l):eU v true (rH l)=rH (l++[v]):=by rw[Jb (by rw[Pw,if_neg h])];simp[rH]
def o4(n:Nat)(m:List (Int×Bool))(xs:List aj):cL:=⟨[(.obj 862,[.row 1 (.obj 861) n]),(.obj 863,qg m),(.obj 864,[.gmap (.obj 863)])],[(.obj 861,⟨n,3,1,some xs⟩)]⟩
def k5(l:List Int):cL:=o4 l.length (rH l) (dM l)
theorem Fx(l:List Int):dW (k5 l):=by unfold k5 o4;refine dW.of ⟨by intro m;simp[Pv.look],by intro m;simp[Pv.look]⟩ d8 ?_;intro x ab xs gY;simp at ab;subst ab;simp at gY;subst gY;simp
theorem JI(l a1:List Int):Same (k5 l) (k5 a1):=Same.keys rfl rfl
theorem abu(l:List Int){n:Nat}{m:List (Int×Bool)}{xs:List aj}(ax:n=l.length)(hm:m=rH l)(ab:xs=dM l):o4 n m xs=k5 l:=by subst ax ab hm;rfl
theorem agY(v:Int)(l:List Int)(au:l.length<=10000000000):bI al 155 [.int .i64 v,.ptr (.obj 864) 0,.ptr (.obj 862) 0] (k5 l) fun r ah=>r= .tuple []/\ah=k5 (pV v l):=by
 have ag:=Fx l;have aJ:=Pw v l;by_cases h:v∈l
 ·rw[if_pos h]at aJ;rw[show pV v l=l from if_pos h];unfold k5 o4 at ag⊢;generalize rH l=m at aJ ag⊢;refine bI.mk mixed iN TV XL Ψ ag.obj fun aM cR=>?_;unfold Ke;simp[aJ];(with_reducible repeat' first|refine ai ?_|simp[aJ]);all_goals refine cH.at _ (.inr rfl) ag (Same.refl _) aN aN ?_
  all_goals simp[cN,Om,aX,aZ,aW]
 ·rw[if_neg h]at aJ;have bF:=ap7 h;have ep:=Fx (pV v l);have ak:o4 (l.length+1) (eU v true (rH l)) (dM l++[.int .i64 v])=k5 (pV v l):=by rw[show pV v l=l++[v]from if_neg h];exact abu _ Ψ bF (MF l v)
  have be:=JI l (pV v l);rw[<-ak]at ep be⊢;simp only[k5,o4]at ag ep be⊢;generalize rH l=m at aJ ag ep be⊢;clear bF ak;refine bI.mk mixed iN TV XL Ψ ag.obj fun aM cR=>?_;unfold Ke;simp[aJ];(with_reducible repeat' first|refine ai ?_|simp[aJ]);all_goals first|(refine⟨by unfold lim;omega,?_⟩)|skip
  all_goals(with_reducible repeat' first|refine ai ?_|simp[aJ])
  all_goals refine cH.at _ (.inr rfl) ep be aN aN ?_
  all_goals simp[cN,Om,aX,aZ,aW]
end
section
open Go Go.Pv
def tp(n:Nat)(l:List Int):Prop:=l.length+n<=10000000000
theorem abi(n:Nat)(v:Int)(a:List Int)(h:tp (n+1) a):tp n (pV v a):=by
 unfold tp at*;unfold pV;split
 ·omega
 ·simp only[pQ,List.length_singleton];omega
theorem abh(n:Nat)(a:List Int)(h:tp (n+1) a):tp n a:=by unfold tp at*;omega
theorem aaH(u:List T)(hu:u.length<=1048576)(aK:∀t∈u,t.fit=true):bC al 71 [.slice 4 .no (u.map T.e)] (.slice 1 .no (dM (fQ u []))):=by
 have hlen:=fun i=>H8 (u.take i) [] fun t aJ=>aK t (List.mem_of_mem_take aJ);have a7:=fun(t:T) (l:List Int) (h:tp (0+t.size) l)=>agN k5 pV tp Fx JI 155 [.ptr (.obj 864) 0,.ptr (.obj 862) 0] (by intro a;simp[inObs,k5,o4,Pv.look,aC,aB]) Ψ abi abh (fun n v a h=>agY v a (by unfold tp at h;omega)) t 0 l h;refine bc iN aeT alT fun aM=>?_;unfold RD;clear aM;simp;refine gA (fun i (_:Unit)=>⟨[(3,.ptr (.obj 862) 0),(4,.ptr (.obj 864) 0),(9,.slice 4 .no (u.map T.e)),(10,.int .i64 u.length),(11,.int .i64 i)],(k5 (fQ (u.take i) [])).b,(k5 (fQ (u.take i) [])).e,0,[.obj 861,.obj 862,.obj 863,.obj 864]⟩) u.length (fun _ _=>True) () (by simp[k5,o4,fQ,rH];exact bT) trivial (fun _ _ _=>?_) (fun i _ hi _ _=>?_)
 ·simp only[je,k5,o4];exact bQ
 ·obtain⟨b,af,cD⟩:=eh hi;have LJ:=aK b (dV af);simp only[T.fit,cy,eW]at LJ;have DA:=hlen i;simp only[List.length_take,List.length_nil]at DA;have oF:fQ (u.take (i+1)) []=b.fold pV (fQ (u.take i) []):=by rw[lS,af,agt];exact X3 _ _ _
  have nX:=a7 b (fQ (u.take i) []) (by unfold tp;omega);rw[<-oF]at nX;clear a7 hlen oF DA;simp only[k5,o4];simp[hi,cD];(with_reducible repeat' first|refine ai ?_|simp[hi,cD]);refine cV.ob nX (Fx _) (by unfold k5 o4;exact aN) (by unfold k5 o4;exact aN) (by simp[inObs,k5,o4,Pv.look]) ?_;rintro r ah ⟨rfl,rfl⟩;refine⟨JI _ _,?_⟩;unfold k5 o4;simp[cl];(with_reducible repeat' first|refine ai ?_|simp);all_goals refine bK.rng () hi trivial (by simp[k5,o4];exact bT)
theorem Ht(S:aI->Prop):∀a b:List aj,aC S (a++b)↔aC S a/\aC S b
 |[],b=>by simp[aC]
 |x::r,b=>by simp only[bW,aC,Ht S r b,and_assoc]
theorem WK(S:aI->Prop):∀(W:List T) (i:Nat),aC S (ku i (List.map T.e W))
 |[],i=>by simp[aC]
 |_::_,0=>by simp[aC]
 |x::W,i+1=>by simp only[gM,List.take_succ_cons,aC];exact⟨Ψ,WK S W i⟩
def mc:List Int->Nat->List (Int×Int)
 |[],_=>[]
 |v::r,k=>(v,(k:Int))::mc r (k+1)
theorem V7(v:Int):∀(l:List Int) (k:Nat),mc (l++[v]) k=mc l k++[(v,((k+l.length:Nat):Int))]
 |[],k=>by simp[mc]
 |x::l,k=>by simp only[bW,mc,V7 v l,oX];rw[show k+1+l.length=k+(l.length+1) by omega]
theorem Pu(v:Int):∀(l:List Int) (k:Nat),c7 v (mc l k)=if v∈l then some ((k+sI l v:Nat):Int)else none
 |[],k=>rfl
 |x::l,k=>by
  simp only[mc,c7,Pu v l,fT,sI];by_cases h:v=x
  ·subst h;simp
  ·simp only[h,if_false,false_or,if_neg fun e:x=v=>h e.symm];split
   ·congr 1;omega
   ·rfl
theorem ap6{v:Int}{l:List Int}(h:v∉l):eU v (l.length:Int) (mc l 0)=mc (l++[v]) 0:=by rw[Jb (by rw[Pu,if_neg h]),V7];simp
theorem aqb{v:Int}{l:List Int}(h:v∈l):il (mc l 0) v=(sI l v:Int):=by unfold il;rw[Pu,if_pos h];simp
theorem M9:lJ []=jG []:=rfl
def rY(m:List (Int×Int)):cL:=⟨[(.obj 865,lJ m),(.obj 866,[.gmap (.obj 865)])],[]⟩
theorem JD(m:List (Int×Int)):dW (rY m):=by unfold rY;exact dW.of ⟨by intro m;simp[Pv.look],by intro m;simp[Pv.look]⟩ d8 Ψ
theorem agE(v:Int)(m:List (Int×Int)):bI al 154 [.int .i64 v,.ptr (.obj 866) 0] (rY m) fun r ah=>r= .tuple [(T.var (il m v)).e,.bool true]/\ah=rY m:=by
 have ag:=JD m;have mH:=kI (il m v);unfold rY at ag⊢;refine bI.mk mixed iN aek ali Ψ ag.obj fun aM cR=>?_;unfold Q3;simp;(with_reducible repeat' first|refine ai ?_|refine az mH ?_|refine aA mH ?_|simp);all_goals refine cH.at _ (.inl rfl) ag (Same.refl _) aN aN ?_
 all_goals simp[cN,Yi,aX,aZ,aW]
theorem aqi(u:List T)(hu:u.length<=1048576)(aK:∀t∈u,t.fit=true):bC al 70 [.slice 4 .no (u.map T.e)] (.slice 4 .no ((yk u).map T.e)):=by
 have aS:=aaP u aK;have be:=aaH u hu aK;have oE:(fQ u []).Nodup:=N5 u Ψ;have iW:∀t∈u,∀v,t.occ v=true->v∈fQ u []:=fun t aJ v aF=>(Ev u).2 (.inr ⟨t,aJ,aF⟩);have vw:(fQ u []).length<=10000000000:=by have:=H8 u [] aK;simp only[List.length_nil]at this;omega
 unfold yk;generalize fQ u []=o at be oE iW vw⊢;have dg:=fun(t:T) (aJ:t∈u)=>Ut (rY (mc o 0)) (JD _) 154 [.ptr (.obj 866) 0] (by simp[inObs,rY,Pv.look,aC,aB]) Ψ (fun v=>some (.var (sI o v))) t fun v aF=>by have:=agE v (mc o 0);rw[aqb (iW t aJ v aF)]at this;exact this
 clear iW aK;obtain⟨W,jR⟩:∃W,W=u.map (B6 o):=⟨_,rfl⟩;rw[<-jR];have vg:W.length=u.length:=by rw[jR,oh]
 have ahI:∀(i:Nat) b,u[i]? =some b->W[i]? =some (B6 o b):=fun i b af=>by rw[jR,tk,af];rfl
 clear jR;refine bc iN aej alh fun aM=>?_;unfold Q2;clear aM;simp;(with_reducible repeat' first|refine ai ?_|refine az aS ?_|refine aA aS ?_|simp);(with_reducible repeat' first|refine ai ?_|refine az be ?_|refine aA be ?_|simp);refine gA (fun i (_:Unit)=>⟨[(0,.slice 4 .no (u.map T.e)),(3,.ptr (.obj 866) 0),(14,.slice 1 .no (dM o)),(15,.int .i64 o.length),(16,.int .i64 i)],[(.obj 865,lJ (mc (o.take i) 0)),(.obj 866,[.gmap (.obj 865)])],[],0,[.obj 865,.obj 866]⟩) o.length (fun _ _=>True) () (by simp[mc];exact⟨by simp[fresh,aC,aB,bP,inObs,Pv.look,M9,mc],dD (by simp[fresh,aC,aB,bP,inObs,Pv.look,M9,mc]),dE (by simp[fresh,aC,aB,dt,inObs,Pv.look,M9,mc]),Ψ⟩) trivial (fun _ _ _=>?_) (fun i _ hi _ _=>?_);rotate_left
 ·obtain⟨b,af,cD⟩:=eh hi;have oF:eU b (i:Int) (mc (o.take i) 0)=mc (o.take (i+1)) 0:=by
   have gb:b∉o.take i:=fun hm=>by
    obtain⟨j,ae⟩:=List.mem_iff_getElem?.1 hm;rw[List.getElem?_take]at ae;split at ae
    ·rename_i qb;have:=(List.getElem?_inj Ω oE).1 (ae.trans af.symm);omega
    ·cases ae
   have:=ap6 gb;rw[List.length_take,Nat.min_eq_left Ω]at this;rw[this,lS,af];rfl
  have A6:∀h,((dM o)[i]'h)= .int .i64 b:=fun h=>by simp[dM,cD]
  simp[hi,A6];(with_reducible repeat' first|refine ai ?_|simp[hi,A6]);all_goals refine bK.rng () hi trivial ⟨by simp[fresh,aC,aB,bP,inObs,Pv.look,oF],dD (by simp[fresh,aC,aB,bP,inObs,Pv.look,oF]),dE (by simp[fresh,aC,aB,dt,inObs,Pv.look,oF]),Ψ⟩
 rw[je];simp;(with_reducible repeat' first|refine ai ?_|simp);refine gA (fun i (_:Unit)=>⟨[(3,.ptr (.obj 866) 0),(26,.slice 4 .no (u.map T.e)),(27,.int .i64 u.length),(6,.slice 4 (.own (.loc 0)) ((W.take i).map T.e)),(28,.int .i64 i)],[(.obj 865,lJ (mc o 0)),(.obj 866,[.gmap (.obj 865)])],[(.loc 0,⟨i,32,4,none⟩)],1,[.obj 865,.obj 866]⟩) u.length (fun _ _=>True) () bT trivial (fun _ _ _=>?_) (fun i _ hi _ _=>?_)
 ·rw[<-vg,je];exact bQ
 ·obtain⟨b,af,cD⟩:=eh hi;have eR:=dg b (dV af);have ahH:=ahI i b af;rw[show T.sub (fun v=>some (T.var (sI o v))) b=B6 o b from rfl]at eR;clear dg;simp[hi,cD];(with_reducible repeat' first|refine ai ?_|simp[hi,cD]);refine cV.ob eR (JD _) (by unfold rY;exact aN) (by unfold rY;exact aN) (by simp[inObs,rY,Pv.look]) ?_;rintro r ah ⟨rfl,rfl⟩;refine⟨Same.refl _,?_⟩;unfold rY;simp[cl];(with_reducible repeat' first|refine ai ?_|simp);all_goals first|(refine⟨by unfold lim;omega,?_⟩)|skip
  all_goals(with_reducible repeat' first|refine ai ?_|simp)
  have ab:ku (i+1) (List.map T.e W)=ku i (List.map T.e W)++[(B6 o b).e]:=by rw[lS,tk,ahH];rfl
  have L6:min i W.length=i:=Ω
  have Dz:∀S:aI->Prop,aC S (ku i (List.map T.e W)):=fun S=>WK S W i;all_goals refine bK.rng () hi trivial ⟨by simp[fresh,aC,aB,bP,inObs,Pv.look,ab,L6,Dz,Ht],dD (by simp[fresh,aC,aB,bP,inObs,Pv.look,ab,L6,Dz,Ht]),dE (by simp[fresh,aC,aB,dt,inObs,Pv.look,ab,L6,Dz,Ht]),Ψ⟩
theorem ap1{α:Type}{a b:List α}{i:Nat}{x y:α}(bD:a[i]? =some x)(af:b[i]? =some y):a.take (i+1)=b.take (i+1)↔a.take i=b.take i/\x=y:=by
 rw[lS,lS,bD,af];have J:(a.take i).length=i:=by have:=(eV.1 bD).1;simp;omega
 have U:(b.take i).length=i:=by have:=(eV.1 af).1;simp;omega
 constructor
 ·intro h;obtain⟨ar,a6⟩:=List.append_inj h (J.trans U.symm);exact⟨ar,by simpa using a6⟩
 ·rintro⟨ar,rfl⟩;rw[ar]
theorem arh(x y:List T):bC al 69 [.slice 4 .no (x.map T.e),.slice 4 .no (y.map T.e)] (.bool (decide (x=y))):=by
 by_cases au:x.length=y.length;rotate_left
 ·have:decide (x=y)=false:=hQ fun e=>au (by rw[e]);rw[this];have mW:((x.length:Int) !=(y.length:Int))=true:=bne_iff_ne.2 Ω;refine bc iN TW XM fun aM=>?_;unfold Kf;exact bQ
 generalize aU:decide (x=y)=R;have mW:((x.length:Int) !=(y.length:Int))=false:=by rw[bne_eq_false_iff_eq];omega
 refine bc iN TW XM fun aM=>?_;unfold Kf;have ev:x.length<=68719476736:=by simp[eA,eo,et,lim]at aM;omega
 clear aM;simp[mW];(with_reducible repeat' first|refine ai ?_|simp[mW]);refine dO [0,1,12] (fun i (_:Unit)=>[(13,.int .i64 i)]) x.length (fun i _=>x.take i=y.take i) () bT Ψ (fun _ ae _=>?_) (fun i _ hi ae _=>?_)
 ·have:R=true:=by rw[<-aU,decide_eq_true_iff];rw[je,au,je]at ae;exact ae
  subst this;exact bQ
 ·obtain⟨b,af,cD⟩:=eh hi;obtain⟨c,aw⟩:∃c,y[i]? =some c:=⟨_,b6 (au▸hi)⟩;have kj:∀h,(y[i]'h)=c:=fun h=>by rw[b6 (au▸hi)]at aw;exact ed aw
  have fO:i<y.length:=au▸hi;have aS:=qU b c;by_cases e:b=c
  ·rw[gN e]at aS;have ax:x.take (i+1)=y.take (i+1):=(ap1 af aw).2 ⟨ae,e⟩;clear ae aU;subst e;exact hE
  ·rw[hQ e]at aS;have:R=false:=by rw[<-aU,fC];rintro rfl;rw[af]at aw;exact e (ed aw)
   subst this;clear ae aU;exact bQ
theorem aat(l:List bL):bC al 64 [.slice 4 .no (l.map enc)] (.bool (l.all bL.fits)):=by
 generalize aU:l.all bL.fits=R;refine bc iN afT amU fun aM=>?_;unfold SG;have ev:l.length<=68719476736:=by simp[eA,eo,et,lim]at aM;omega
 simp;refine dO [5,6] (fun i (_:Unit)=>[(7,.int .i64 i)]) l.length (pA bL.fits l) () bT (fun k b ad=>Ω) (fun _ ae _=>?_) (fun i _ hi ae _=>?_)
 ·have:R=true:=by rw[<-aU,jd];exact ae.fin
  subst this;clear ae aU;exact bQ
 ·obtain⟨t,aJ,qC⟩:=eh hi;have ds:=PR t;cases g:t.fits
  ·rw[g]at ds;have:R=false:=by rw[<-aU,List.all_eq_false];exact⟨t,dV aJ,by rw[g];simp⟩
   subst this;clear aJ ae aU;exact bQ
  ·rw[g]at ds;have ax:=ae.step aJ g;clear aJ ae aU;exact hE
theorem aqO(u:List T)(h:∀t∈u,t.fit=true):bC al 64 [.slice 4 .no (u.map T.e)] (.bool true):=by have:=aat (u.map T.tm);rwa[yl,show(u.map T.tm).all bL.fits=true by rw[List.all_map,jd];exact fun t aJ=>(bL.fits_T t).trans (h t aJ)]at this
def gD(l:List Int):cL:=⟨[],[(.obj 881,⟨l.length,3,1,some (dM l)⟩)]⟩
theorem qs(l:List Int):dW (gD l):=by unfold gD;refine dW.of ⟨by intro m;simp[Pv.look],by intro m;simp[Pv.look]⟩ Ψ ?_;intro x ab xs gY;simp at ab;subst ab;simp at gY;subst gY;simp
theorem CC(l a1:List Int):Same (gD l) (gD a1):=Same.keys rfl rfl
theorem agR(l:List Int)(n:Int)(ev:l.length<=10000000000):bI al 221 [.row 1 (.obj 881) l.length,.int .i64 n] (gD l) fun r ah=>r= .bool (decide (n∈l))/\ah=gD l:=by
 have ag:=qs l;generalize aU:decide (n∈l)=R;unfold gD at ag⊢;refine bI.mk mixed iN afW amX Ψ ag.obj fun aM cR=>?_;unfold SJ;simp;refine dO [1,7,8] (fun i (_:Unit)=>[(9,.int .i64 i)]) l.length (fun i _=>n∉l.take i) () bT Ψ (fun _ ae _=>?_) (fun i _ hi ae _=>?_)
 ·have:R=false:=by rw[<-aU,fC];rwa[je]at ae
  subst this;clear ae aU;simp;(with_reducible repeat' first|refine ai ?_|simp);all_goals refine cH.at _ (.inl rfl) ag (Same.refl _) aN aN ?_
  all_goals simp[cN,OB,aX,aZ,aW]
 ·obtain⟨b,af,cD⟩:=eh hi;have A6:∀h,((dM l)[i]'h)= .int .i64 b:=fun h=>by simp[dM,cD]
  by_cases e:b=n
  ·have:R=true:=by rw[<-aU,decide_eq_true_iff,<-e];exact dV af
   subst this;clear ae aU;simp[hi,A6];(with_reducible repeat' first|refine ai ?_|simp[hi,A6,e]);all_goals refine cH.at _ (.inl rfl) ag (Same.refl _) aN aN ?_
   all_goals simp[cN,OB,aX,aZ,aW]
  ·have ax:n∉l.take (i+1):=by
    rw[lS,af,kt];rintro(h|h)
    ·exact ae h
    ·simp at h;exact e h.symm
   clear ae aU;have he:(b==n)=false:=beq_eq_false_iff_ne.2 e;exact hE
theorem agS(t:T):∀l:List Int,l.length+t.size<=10000000000->bI al 148 [t.e,.row 1 (.obj 881) l.length] (gD l) fun r ah=>r= .row 1 (.obj 881) (hb t l).length/\ah=gD (hb t l):=by
 induction t with
 |var n=>
  intro l au;simp only[T.size]at au;have Hp:=agR l n Ω;have ag:=qs l;by_cases h:n∈l
  ·rw[gN h]at Hp;have e:hb (.var n) l=l:=if_pos h;rw[e];clear e;unfold gD at ag⊢;refine bI.mk mixed iN AD BP Ψ ag.obj fun aM cR=>?_;unfold yi;simp;refine cV.ob Hp (qs _) (by unfold gD;exact aN) (by unfold gD;exact aN) (by simp[inObs,gD,Pv.look]) ?_;rintro r ah ⟨rfl,rfl⟩;refine⟨Same.refl _,?_⟩;unfold gD;simp[cl];(with_reducible repeat' first|refine ai ?_|simp);refine gA (fun i (_:Unit)=>⟨[(1,.row 1 (.obj 881) l.length),(23,.slice 4 .no []),(24,.int .i64 0),(25,.int .i64 i)],[],[(.obj 881,⟨l.length,3,1,some (dM l)⟩)],1,[.obj 881]⟩) 0 (fun _ _=>True) () bT trivial (fun _ _ _=>?_) (fun i _ hi _ _=>absurd hi Ω);simp;(with_reducible repeat' first|refine ai ?_|simp);refine cH.at _ (.inl rfl) ag (Same.refl _) aN aN ?_;simp[cN,zy,aX,aZ,aW,inObs,Pv.look]
  ·rw[hQ h]at Hp;have e:hb (.var n) l=l++[n]:=if_neg h;have ep:=qs (l++[n]);have dr:=CC l (l++[n]);have ak:(⟨[],[(.obj 881,⟨l.length+1,3,1,some (dM l++[.int .i64 n])⟩)]⟩:cL)=gD (l++[n]):=by simp[gD,MF]
   have aD:(l++[n]).length=l.length+1:=by simp
   rw[e,aD];rw[<-ak]at ep dr⊢;clear e ak aD;unfold gD at ag dr⊢;refine bI.mk mixed iN AD BP Ψ ag.obj fun aM cR=>?_;unfold yi;simp;refine cV.ob Hp (qs _) (by unfold gD;exact aN) (by unfold gD;exact aN) (by simp[inObs,gD,Pv.look]) ?_;rintro r ah ⟨rfl,rfl⟩;refine⟨Same.refl _,?_⟩;unfold gD;simp[cl];(with_reducible repeat' first|refine ai ?_|simp);all_goals first|(refine⟨by unfold lim;omega,?_⟩)|skip
   all_goals(with_reducible repeat' first|refine ai ?_|simp)
   refine cH.at _ (.inl rfl) ep dr aN aN ?_;simp[cN,zy,aX,aZ,aW,inObs,Pv.look]
 |pair a b dG dK=>
  intro l au;simp only[T.size]at au;have D6:=H7 a l;have Wl:=dG l Ω;have kb:=dK (hb a l) Ω;have ag:=qs l;have ep:=qs (hb (.pair a b) l);have dr:=CC l (hb (.pair a b) l);have e:hb (.pair a b) l=hb b (hb a l):=rfl;rw[e]at ep dr⊢;clear e dG dK D6;generalize hb a l=hC at Wl kb ep dr⊢;generalize hb b hC=fP at kb ep dr⊢;unfold gD at ag ep dr⊢;refine bI.mk mixed iN AD BP Ψ ag.obj fun aM cR=>?_;unfold yi;simp;(with_reducible repeat' first|refine ai ?_|simp);refine gA (fun i (L:List Int)=>⟨[(1,.row 1 (.obj 881) L.length),(23,.slice 4 .no [a.e,b.e]),(24,.int .i64 2),(25,.int .i64 i)],[],[(.obj 881,⟨L.length,3,1,some (dM L)⟩)],1,[.obj 881]⟩) 2 (fun i L=>(i=0->L=l)/\(i=1->L=hC)/\(i=2->L=fP)) l bT ⟨fun _=>rfl,fun h=>Ω,fun h=>Ω⟩ (fun L ae _=>?_) (fun i L hi ae _=>?_)
  ·obtain rfl:=ae.2.2 rfl;clear ae;simp;(with_reducible repeat' first|refine ai ?_|simp);refine cH.at _ (.inl rfl) ep dr aN aN ?_;simp[cN,zy,aX,aZ,aW,inObs,Pv.look]
  ·rcases(by omega:i=0\/i=1)with rfl|rfl
   ·obtain rfl:=ae.1 rfl;clear ae;simp;(with_reducible repeat' first|refine ai ?_|simp);refine cV.ob Wl (qs _) (by unfold gD;exact aN) (by unfold gD;exact aN) (by simp[inObs,gD,Pv.look]) ?_;rintro r ah ⟨rfl,rfl⟩;refine⟨CC _ _,?_⟩;unfold gD;simp[cl];(with_reducible repeat' first|refine ai ?_|simp);all_goals refine bK.rng (n:=2) (i:=0) hC Ω ⟨fun h=>Ω,fun _=>rfl,fun h=>Ω⟩ bT
   ·obtain rfl:=ae.2.1 rfl;clear ae;simp;(with_reducible repeat' first|refine ai ?_|simp);refine cV.ob kb (qs _) (by unfold gD;exact aN) (by unfold gD;exact aN) (by simp[inObs,gD,Pv.look]) ?_;rintro r ah ⟨rfl,rfl⟩;refine⟨CC _ _,?_⟩;unfold gD;simp[cl];(with_reducible repeat' first|refine ai ?_|simp);all_goals refine bK.rng (n:=2) (i:=1) fP Ω ⟨fun h=>Ω,fun h=>Ω,fun _=>rfl⟩ bT
 |nil=>intro l au;have ag:=qs l;have e:hb T.nil l=l:=rfl;rw[e];clear e;unfold gD at ag⊢;refine bI.mk mixed iN AD BP Ψ ag.obj fun aM cR=>?_;unfold yi;simp;(with_reducible repeat' first|refine ai ?_|simp);refine gA (fun i (_:Unit)=>⟨[(1,.row 1 (.obj 881) l.length),(23,.slice 4 .no []),(24,.int .i64 0),(25,.int .i64 i)],[],[(.obj 881,⟨l.length,3,1,some (dM l)⟩)],1,[.obj 881]⟩) 0 (fun _ _=>True) () bT trivial (fun _ _ _=>?_) (fun i _ hi _ _=>absurd hi Ω);simp;(with_reducible repeat' first|refine ai ?_|simp);refine cH.at _ (.inl rfl) ag (Same.refl _) aN aN ?_;simp[cN,zy,aX,aZ,aW,inObs,Pv.look]
 |sym s=>intro l au;have ag:=qs l;have e:hb (T.sym s) l=l:=rfl;rw[e];clear e;unfold gD at ag⊢;refine bI.mk mixed iN AD BP Ψ ag.obj fun aM cR=>?_;unfold yi;simp;(with_reducible repeat' first|refine ai ?_|simp);refine gA (fun i (_:Unit)=>⟨[(1,.row 1 (.obj 881) l.length),(23,.slice 4 .no []),(24,.int .i64 0),(25,.int .i64 i)],[],[(.obj 881,⟨l.length,3,1,some (dM l)⟩)],1,[.obj 881]⟩) 0 (fun _ _=>True) () bT trivial (fun _ _ _=>?_) (fun i _ hi _ _=>absurd hi Ω);simp;(with_reducible repeat' first|refine ai ?_|simp);refine cH.at _ (.inl rfl) ag (Same.refl _) aN aN ?_;simp[cN,zy,aX,aZ,aW,inObs,Pv.look]
 |num s=>intro l au;have ag:=qs l;have e:hb (T.num s) l=l:=rfl;rw[e];clear e;unfold gD at ag⊢;refine bI.mk mixed iN AD BP Ψ ag.obj fun aM cR=>?_;unfold yi;simp;(with_reducible repeat' first|refine ai ?_|simp);refine gA (fun i (_:Unit)=>⟨[(1,.row 1 (.obj 881) l.length),(23,.slice 4 .no []),(24,.int .i64 0),(25,.int .i64 i)],[],[(.obj 881,⟨l.length,3,1,some (dM l)⟩)],1,[.obj 881]⟩) 0 (fun _ _=>True) () bT trivial (fun _ _ _=>?_) (fun i _ hi _ _=>absurd hi Ω);simp;(with_reducible repeat' first|refine ai ?_|simp);refine cH.at _ (.inl rfl) ag (Same.refl _) aN aN ?_;simp[cN,zy,aX,aZ,aW,inObs,Pv.look]
theorem aqt(u:List T)(hu:u.length<=1048576)(aK:∀t∈u,t.fit=true):bC al 66 [.slice 4 .no (u.map T.e)] (.slice 1 .no (dM (fQ u []))):=by
 have aS:=aqO u aK;have hlen:=fun i=>H8 (u.take i) [] fun t aJ=>aK t (List.mem_of_mem_take aJ);refine bc iN afQ amR fun aM=>?_;unfold SD;clear aM;simp;(with_reducible repeat' first|refine ai ?_|refine az aS ?_|refine aA aS ?_|simp);refine gA (fun i (_:Unit)=>⟨[(3,.row 1 (.obj 881) (fQ (u.take i) []).length),(10,.slice 4 .no (u.map T.e)),(11,.int .i64 u.length),(12,.int .i64 i)],[],(gD (fQ (u.take i) [])).e,0,[.obj 881]⟩) u.length (fun _ _=>True) () (by simp[gD,fQ];exact bT) trivial (fun _ _ _=>?_) (fun i _ hi _ _=>?_)
 ·simp only[je,gD];exact bQ
 ·obtain⟨b,af,cD⟩:=eh hi;have LJ:=aK b (dV af);simp only[T.fit,cy,eW]at LJ;have DA:=hlen i;simp only[List.length_take,List.length_nil]at DA;have oF:fQ (u.take (i+1)) []=hb b (fQ (u.take i) []):=by rw[lS,af];exact X3 _ _ _
  have nX:=agS b (fQ (u.take i) []) Ω;rw[<-oF]at nX;clear hlen oF DA;simp only[gD];simp[hi,cD];(with_reducible repeat' first|refine ai ?_|simp[hi,cD]);refine cV.ob nX (qs _) (by unfold gD;exact aN) (by unfold gD;exact aN) (by simp[inObs,gD,Pv.look]) ?_;rintro r ah ⟨rfl,rfl⟩;refine⟨CC _ _,?_⟩;unfold gD;simp[cl];(with_reducible repeat' first|refine ai ?_|simp);all_goals refine bK.rng () hi trivial (by simp[gD];exact bT)
structure o7 (u:List T) (s:ch):Prop where
 f:∀t∈u,t.fit=true
 ok:rL s
 b:s.b=[]
 up:Cn (fQ u [])
 n:s.n=((fQ u []).length:Nat)
def uT(a:hp):Prop:= ∃(u:List T) (s:ch),a.t=u.map T.tm/\a.s=s.r/\o7 u s
theorem Qy{u:List T}{s:ch}:uT ⟨u.map T.tm,s.r⟩↔o7 u s:=by
 constructor
 ·rintro⟨e6,ah,J,U,ar⟩;have ak:=Ja J;have aD:=ch.r_inj U;rw[ak,aD];exact ar
 ·intro h;exact⟨u,s,rfl,rfl,h⟩
theorem oq(u:List T)(s:ch):(⟨u.map T.tm,s.r⟩:hp).e= .agg [.slice 4 .no (u.map T.e),.int .i64 s.n,.slice 5 .no (s.b.map ao.e),.slice 1 .no (s.d.map cO),.slice 2 .no (s.k.map bN.e),.slice 2 .no (s.m.map bj.e)]:=by have h:[_,_,_,_,_]=[_,_,_,_,_]:=aj.agg.inj (E5 s);have U:=fh (fun l=>aj.agg (.slice 4 .no (u.map T.e)::l)) h;rw[<-yl]at U⊢;exact U
open Classical in
theorem aab(a:hp)(ei:hN a.s.m->mo a.s.m)(au:a.t.length<=1048576):bC al 24 [a.e] (.bool (decide (uT a))):=by
 have ds:=aaO a.t;have cE:=aaj a.s fun h=>(ei h).w;generalize aU:decide (uT a)=R;obtain⟨t,s⟩:=a;simp only at ds cE ei au;cases g1:t.all bL.fits with
 |false=>
  rw[g1]at ds;have:R=false:=by rw[<-aU,fC];rintro⟨u,ah,e,_,h⟩;simp only at e;subst e;rw[List.all_map,List.all_eq_false]at g1;obtain⟨x,ab,U⟩:=g1;exact U ((bL.fits_T x).trans (h.f x ab))
  subst this;clear aU ei au;obtain⟨n,b,d,k,m⟩:=s;simp only[h1.e,hp.e]at cE⊢;refine bc iN Ay BL fun aM=>?_;unfold ye;exact bQ
 |true=>
  obtain⟨u,rfl,hu⟩:=Gt g1;rw[g1,yl]at ds;by_cases g2:oO s;rotate_left
  ·rw[hQ g2]at cE;have:R=false:=by rw[<-aU,fC];rintro⟨e6,ah,_,e,h⟩;exact g2 ⟨ah,e,h.ok⟩
   subst this;clear aU ei au g1 g2;obtain⟨n,b,d,k,m⟩:=s;simp only[h1.e,hp.e,yl]at cE⊢;refine bc iN Ay BL fun aM=>?_;unfold ye;exact bQ
  rw[gN g2]at cE;obtain⟨st,rfl,cF⟩:=g2;rw[E5]at cE;rw[oq];simp only[Qy]at aU;rw[oh]at au;have aS:=aqi u au hu;have be:=aaH u au hu;have b8:=arh (yk u) u;obtain⟨n,b,d,k,m⟩:=st;by_cases g3:b=[];rotate_left
  ·have:R=false:=by rw[<-aU,fC];exact fun h=>g3 h.b
   subst this;have agA:b.length≠0:=fun h=>g3 (List.length_eq_zero_iff.1 h);have Un:((b.length:Int) !=0)=true:=bne_iff_ne.2 Ω;clear aU ei au cF hu g1 aS be b8;simp only[ch.e,mN]at cE⊢;refine bc iN Ay BL fun aM=>?_;unfold ye;exact bQ
  subst g3;have j5:R=true↔yk u=u/\n=((fQ u []).length:Nat):=by rw[<-aU,decide_eq_true_iff,acf];exact⟨fun h=>⟨h.up,h.n⟩,fun h=>⟨hu,cF,rfl,h.1,h.2⟩⟩
  generalize fQ u []=o at be j5;by_cases g4:yk u=u
  ·rw[gN g4]at b8;by_cases g5:n=(o.length:Nat)
   ·have:R=true:=j5.2 ⟨g4,g5⟩;subst this;clear j5 aU ei au cF hu g1 g4;subst g5;simp only[ch.e,mN]at cE⊢;refine bc iN Ay BL fun aM=>?_;unfold ye;exact bQ
   ·have:R=false:=by cases R with|false=>rfl|true=>exact absurd (j5.1 rfl).2 g5
    subst this;clear j5 aU ei au cF hu g1 g4;simp only[ch.e,mN]at cE⊢;refine bc iN Ay BL fun aM=>?_;unfold ye;exact bQ
  ·rw[hQ g4]at b8;have:R=false:=by cases R with|false=>rfl|true=>exact absurd (j5.1 rfl).1 g4
   subst this;clear j5 aU ei au cF hu g1 g4;simp only[ch.e,mN]at cE⊢;refine bc iN Ay BL fun aM=>?_;unfold ye;exact bQ
open Classical in
theorem aaI(a:hp)(ei:hN a.s.m->mo a.s.m)(au:a.t.length<=1048576):bC al 22 [a.e] (.bool (decide (uT a))):=by
 have ds:=aat a.t;have cE:=arc a.s fun h=>(ei h).w;generalize aU:decide (uT a)=R;obtain⟨t,s⟩:=a;simp only at ds cE ei au;cases g1:t.all bL.fits with
 |false=>
  rw[g1]at ds;have:R=false:=by rw[<-aU,fC];rintro⟨u,ah,e,_,h⟩;simp only at e;subst e;rw[List.all_map,List.all_eq_false]at g1;obtain⟨x,ab,U⟩:=g1;exact U ((bL.fits_T x).trans (h.f x ab))
  subst this;clear aU ei au;obtain⟨n,b,d,k,m⟩:=s;simp only[h1.e,hp.e]at cE⊢;refine bc iN Gm HZ fun aM=>?_;unfold CP;exact bQ
 |true=>
  obtain⟨u,rfl,hu⟩:=Gt g1;rw[g1,yl]at ds;by_cases g2:oO s;rotate_left
  ·rw[hQ g2]at cE;have:R=false:=by rw[<-aU,fC];rintro⟨e6,ah,_,e,h⟩;exact g2 ⟨ah,e,h.ok⟩
   subst this;clear aU ei au g1 g2;obtain⟨n,b,d,k,m⟩:=s;simp only[h1.e,hp.e,yl]at cE⊢;refine bc iN Gm HZ fun aM=>?_;unfold CP;exact bQ
  rw[gN g2]at cE;obtain⟨st,rfl,cF⟩:=g2;rw[E5]at cE;rw[oq];simp only[Qy]at aU;rw[oh]at au;have be:=aqt u au hu;obtain⟨n,b,d,k,m⟩:=st;by_cases g3:b=[];rotate_left
  ·have:R=false:=by rw[<-aU,fC];exact fun h=>g3 h.b
   subst this;have agA:b.length≠0:=fun h=>g3 (List.length_eq_zero_iff.1 h);have Un:(0:Int)<(b.length:Int):=Ω
   have as0:0<b.length:=Ω
   have asZ:decide ((0:Int)<(b.length:Int))=true:=gN Un;clear aU ei au cF hu g1 be;simp only[ch.e,mN]at cE⊢;refine bc iN Gm HZ fun aM=>?_;unfold CP;exact bQ
  subst g3;have vw:(fQ u []).length<=10000000000:=by have:=H8 u [] hu;simp only[List.length_nil]at this;omega
  have j5:R=true↔Cn (fQ u [])/\n=((fQ u []).length:Nat):=by rw[<-aU,decide_eq_true_iff];exact⟨fun h=>⟨h.up,h.n⟩,fun h=>⟨hu,cF,rfl,h.1,h.2⟩⟩
  generalize fQ u []=o at be j5 vw;clear aU ei au cF hu g1;simp only[ch.e,mN]at cE⊢;refine bc iN Gm HZ fun aM=>?_;unfold CP;clear aM;simp;(with_reducible repeat' first|refine ai ?_|refine az ds ?_|refine aA ds ?_|refine az cE ?_|refine aA cE ?_|simp);(with_reducible repeat' first|refine ai ?_|refine az be ?_|refine aA be ?_|simp);refine dO [1,3,26,27] (fun i (_:Unit)=>[(28,.int .i64 i)]) o.length (fun i _=> ∀(j:Nat) v,j<i->o[j]? =some v->v=j) () bT (fun j v h=>Ω) (fun _ ae _=>?_) (fun i _ hi ae _=>?_)
  ·have kD:Cn o:=fun j v aF=>ae j v (eV.1 aF).1 aF;by_cases g5:n=(o.length:Nat)
   ·have:R=true:=j5.2 ⟨kD,g5⟩;subst this;subst g5;clear j5 ae kD;exact bQ
   ·have:R=false:=by cases R with|false=>rfl|true=>exact absurd (j5.1 rfl).2 g5
    subst this;have as1:(n==(o.length:Int))=false:=beq_eq_false_iff_ne.2 g5;clear j5 ae kD;exact bQ
  ·obtain⟨b,af,cD⟩:=eh hi;have A6:∀h,((dM o)[i]'h)= .int .i64 b:=fun h=>by simp[dM,cD]
   by_cases e:b=(i:Int)
   ·have ax:∀(j:Nat) v,j<i+1->o[j]? =some v->v=j:=fun j v h aF=>by
     by_cases qb:j<i
     ·exact ae j v qb aF
     ·obtain rfl:j=i:=Ω
      rw[af]at aF;rw[<-ed aF];exact e
    clear ae j5;subst e;exact hE
   ·have:R=false:=by cases R with|false=>rfl|true=>exact absurd ((j5.1 rfl).1 i b af) e
    subst this;have fj:(b !=(i:Int))=true:=bne_iff_ne.2 e;clear ae j5;exact bQ
structure iz (l:List ao):Prop where
 asc:hg l
 low:∀b∈l,0<=b.v/\b.v<=100000
theorem iz.len{l:List ao}(h:iz l):l.length<=100001:=by
 have:=MS (QC h.asc) fun v aF=>by obtain⟨x,ab,rfl⟩:=iu.1 aF;exact h.low x ab
 simpa using this
def zd(t:T):Prop:= ∀v,t.occ v=true->0<=v/\v<=100000
theorem iz.nil:iz []:=⟨Jx,Ψ⟩
theorem iz.mt:∀(p t:T) {l:List ao},iz l->zd p->iz (ec p t l).2
 | .var n,t,l,h,bF=>by
  simp only[ec];cases e:cS l n with
  |some x=>exact h
  |none=>
   refine⟨Ad h.asc (nF.1 e),fun b af=>?_⟩;rcases zg.1 af with rfl|af
   ·exact bF n (by simp[T.occ])
   ·exact h.low b af
 | .pair a b,.pair c d,l,h,bF=>by
  have J:=iz.mt a c h fun v aF=>bF v (by simp[T.occ,aF]);have U:=iz.mt b d J fun v aF=>bF v (by simp[T.occ,aF]);simp only[ec];split
  ·split
   ·exact U
   ·exact iz.nil
  ·exact iz.nil
 | .pair a b,.var _,l,h,_=>by simp only[ec];split<;>first|exact h|exact iz.nil
 | .pair a b,.nil,l,h,_=>by simp only[ec];split<;>first|exact h|exact iz.nil
 | .pair a b,.sym _,l,h,_=>by simp only[ec];split<;>first|exact h|exact iz.nil
 | .pair a b,.num _,l,h,_=>by simp only[ec];split<;>first|exact h|exact iz.nil
 | .nil,t,l,h,_=>by simp only[ec];split<;>first|exact h|exact iz.nil
 | .sym _,t,l,h,_=>by simp only[ec];split<;>first|exact h|exact iz.nil
 | .num _,t,l,h,_=>by simp only[ec];split<;>first|exact h|exact iz.nil
theorem aqY(p:T):∀(t:T) (l:List ao),iz l->zd p->bC al 173 [p.e,t.e,.slice 5 .no (l.map ao.e)] (.tuple [.slice 5 .no ((ec p t l).2.map ao.e),.bool (ec p t l).1]):=by
 induction p with
 |var n=>
  intro t l au bF;have iK:=uF l n (by have:=au.len;omega);cases e:cS l n with
  |some x=>rw[e]at iK;have cE:=PH x t;simp only[ec,e];generalize decide (x=t)=q at cE;simp only[jM,oZ]at iK;clear e au bF;refine bc hn rf rB fun aM=>?_;unfold qv;exact bQ
  |none=>rw[e]at iK;have Bq:=aaw l ⟨n,t⟩ (by have:=au.len;omega) au.asc;simp only[ec,e];simp only[kv,jN]at iK;clear e au bF;generalize l9 ⟨n,t⟩ l=w at Bq;refine bc hn rf rB fun aM=>?_;unfold qv;exact bQ
 |pair a b dG dK=>
  intro t l au bF;cases t with
  |pair c d=>
   have aS:=dG c l au fun v aF=>bF v (by simp[T.occ,aF]);have J:=iz.mt a c au fun v aF=>bF v (by simp[T.occ,aF]);have be:=dK d _ J fun v aF=>bF v (by simp[T.occ,aF]);generalize aU:ec (.pair a b) (.pair c d) l=R;simp only[ec]at aU;clear dG dK au bF J;generalize ec a c l=dC at aS be aU;obtain⟨ba,ej⟩:=dC;simp only at aS be aU;generalize ec b d ej=eH at be aU;obtain⟨bo,dp⟩:=eH;simp only at be aU;refine bc hn rf rB fun aM=>?_;unfold qv;simp;(with_reducible repeat' first|refine ai ?_|simp);refine dO [4,54,55] (fun i (L:List ao)=>[(2,.slice 5 .no (L.map ao.e)),(56,.int .i64 i)]) 2 (fun i L=>(i=0->L=l)/\(i=1->ba=true/\L=ej)/\(i=2->ba=true/\bo=true/\L=dp)) l bT ⟨fun _=>rfl,fun h=>Ω,fun h=>Ω⟩ (fun L ae _=>?_) (fun i L hi ae _=>?_)
   ·obtain⟨rfl,rfl,rfl⟩:=ae.2.2 rfl;simp only[if_true]at aU;subst aU;clear ae aS be;exact bQ
   ·rcases(by omega:i=0\/i=1)with rfl|rfl
    ·obtain rfl:=ae.1 rfl;cases ba with
     |false=>rw[if_neg Ψ]at aU;subst aU;clear ae be;exact bQ
     |true=>clear ae be aU;simp;(with_reducible repeat' first|refine ai ?_|refine az aS ?_|refine aA aS ?_|simp);all_goals refine bK.rng (n:=2) (i:=0) ej Ω Ψ bT
    ·obtain⟨rfl,rfl⟩:=ae.2.1 rfl;cases bo with
     |false=>simp only[if_true]at aU;rw[if_neg Ψ]at aU;subst aU;clear ae aS;exact bQ
     |true=>clear ae aS aU;simp;(with_reducible repeat' first|refine ai ?_|refine az be ?_|refine aA be ?_|simp);all_goals refine bK.rng (n:=2) (i:=1) dp Ω Ψ bT
  |_=>simp only[ec];rw[if_neg Ψ];clear dG dK;refine bc hn rf rB fun aM=>?_;unfold qv;exact bQ
 |nil=>
  intro t l _ _;simp only[ec];by_cases e:T.nil=t
  ·subst e;rw[if_pos rfl];refine bc hn rf rB fun aM=>?_;unfold qv;simp;(with_reducible repeat' first|refine ai ?_|simp);refine dO [4,54,55] (fun i (_:Unit)=>[(2,.slice 5 .no (l.map ao.e)),(56,.int .i64 i)]) 0 (fun _ _=>True) () bT trivial (fun _ _ _=>?_) (fun i _ hi _ _=>absurd hi Ω);exact bQ
  ·rw[if_neg e];cases t with
   |nil=>exact absurd rfl e
   |_=>clear e;refine bc hn rf rB fun aM=>?_;unfold qv;exact bQ
 |sym s=>
  intro t l _ _;simp only[ec];by_cases e:T.sym s=t
  ·subst e;rw[if_pos rfl];refine bc hn rf rB fun aM=>?_;unfold qv;simp;(with_reducible repeat' first|refine ai ?_|simp);refine dO [4,54,55] (fun i (_:Unit)=>[(2,.slice 5 .no (l.map ao.e)),(56,.int .i64 i)]) 0 (fun _ _=>True) () bT trivial (fun _ _ _=>?_) (fun i _ hi _ _=>absurd hi Ω);exact bQ
  ·rw[if_neg e];cases t with
   |sym y=>have fj:¬s=y:=fun h=>e (by rw[h]);have ac6:(s !=y)=true:=bne_iff_ne.2 fj;have bh:(s==y)=false:=beq_eq_false_iff_ne.2 fj;clear e;refine bc hn rf rB fun aM=>?_;unfold qv;exact bQ
   |_=>clear e;refine bc hn rf rB fun aM=>?_;unfold qv;exact bQ
 |num s=>
  intro t l _ _;simp only[ec];by_cases e:T.num s=t
  ·subst e;rw[if_pos rfl];refine bc hn rf rB fun aM=>?_;unfold qv;simp;(with_reducible repeat' first|refine ai ?_|simp);refine dO [4,54,55] (fun i (_:Unit)=>[(2,.slice 5 .no (l.map ao.e)),(56,.int .i64 i)]) 0 (fun _ _=>True) () bT trivial (fun _ _ _=>?_) (fun i _ hi _ _=>absurd hi Ω);exact bQ
  ·rw[if_neg e];cases t with
   |num y=>have fj:¬s=y:=fun h=>e (by rw[h]);have ac6:(s !=y)=true:=bne_iff_ne.2 fj;have bh:(s==y)=false:=beq_eq_false_iff_ne.2 fj;clear e;refine bc hn rf rB fun aM=>?_;unfold qv;exact bQ
   |_=>clear e;refine bc hn rf rB fun aM=>?_;unfold qv;exact bQ
def OX(r:List ao):aj:= .slice 5 .no (r.map ao.e)
@[simp]theorem avd(r:List ao):eT (OX r)=true:=rfl
@[simp]theorem avc(r:List ao):cells (OX r)=[OX r]:=rfl
theorem Nx:∀(b1 eP mj oa:List T) (l:List ao),b1.length=eP.length->en (b1++mj) (eP++oa) l=if(en b1 eP l).1 then en mj oa (en b1 eP l).2 else en b1 eP l
 |[],[],mj,oa,l,_=>by simp[en]
 |[],_::_,_,_,_,h=>by simp at h
 |_::_,[],_,_,_,h=>by simp at h
 |p::b1,t::eP,mj,oa,l,h=>by
  by_cases e:(ec p t l).1=true
  ·have ak:en (p::b1) (t::eP) l=en b1 eP (ec p t l).2:=by simp[en,e]
   have aD:en (p::b1++mj) (t::eP++oa) l=en (b1++mj) (eP++oa) (ec p t l).2:=by simp[en,e]
   rw[ak,aD];exact Nx b1 eP mj oa _ (by simpa using h)
  ·have ak:en (p::b1) (t::eP) l=(false,(ec p t l).2):=by simp[en,e]
   have aD:en (p::b1++mj) (t::eP++oa) l=(false,(ec p t l).2):=by simp[en,e]
   rw[ak,aD];simp
theorem akV{u l:List T}(au:u.length=l.length){i:Nat}{x y:T}(ab:u[i]? =some x)(aL:l[i]? =some y){W:List ao}(h:en (u.take i) (l.take i) []=(true,W)):en (u.take (i+1)) (l.take (i+1)) []=ec x y W:=by
 rw[lS,lS,ab,aL];simp only[Option.toList];rw[Nx _ _ _ _ _ d7,h];simp only[if_true,en];cases e:ec x y W with
 |mk q w=>cases q<;>simp
theorem akU{u l:List T}(au:u.length=l.length){i:Nat}{W:List ao}(h:en (u.take i) (l.take i) []=(false,W)):en u l []=(false,W):=by have:=Nx (u.take i) (l.take i) (u.drop i) (l.drop i) [] d7;rw[List.take_append_drop,List.take_append_drop,h]at this;rw[this];simp
structure Hk (u l:List T) (a:List ao×Bool×Nat):Prop where
 i:a.2.2<=u.length
 low:iz a.1
 yes:a.2.1=true->en (u.take a.2.2) (l.take a.2.2) []=(true,a.1)
 no:a.2.1=false->en u l []=(false,a.1)
theorem Hk.step{u l:List T}(au:u.length=l.length){W:List ao}{i:Nat}(h:Hk u l (W,true,i)){x y:T}(ab:u[i]? =some x)(aL:l[i]? =some y)(GX:zd x):Hk u l ((ec x y W).2,(ec x y W).1,i+1):=by
 have ag:=akV au ab aL (h.yes rfl);have hi:=(eV.1 ab).1;refine⟨hi,iz.mt x y h.low GX,fun e=>?_,fun e=>?_⟩
 ·simp only at e⊢;rw[ag,<-e]
 ·simp only at e⊢;exact akU au (i:=i+1) (by rw[ag,<-e])
theorem aq6(u l:List T)(au:u.length≠l.length):bC al 86 [.slice 4 .no (u.map T.e),.slice 4 .no (l.map T.e)] (.tuple [.slice 5 .no [],.bool false]):=by
 have mW:((u.length:Int)==(l.length:Int))=false:=beq_eq_false_iff_ne.2 Ω;refine bc hn T6 XW fun aM=>?_;unfold Ku;simp[mW];(with_reducible repeat' first|refine ai ?_|simp[mW]);refine dO [0,1] (fun i (_:Unit)=>[(6,.slice 5 .no []),(7,.bool false),(8,.int .i64 0)]) 0 (fun _ _=>True) () bT trivial (fun _ _ _=>?_) (fun i _ hi _ _=>absurd hi Ω);simp;(with_reducible repeat' first|refine ai ?_|simp);by_cases br:0<u.length
 ·exact bQ
 ·exact bQ
theorem aaD(u l:List T)(au:u.length=l.length)(hu:∀t∈u,zd t):bC al 86 [.slice 4 .no (u.map T.e),.slice 4 .no (l.map T.e)] (.tuple [.slice 5 .no ((en u l []).2.map ao.e),.bool ((en u l []).1&&decide ((en u l []).2.length<=400))]):=by
 have mW:((u.length:Int)==(l.length:Int))=true:=eb.2 Ω;generalize aU:en u l []=R;refine bc hn T6 XW fun aM=>?_;unfold Ku;have ev:u.length<=68719476736:=by simp[eA,eo,et,lim]at aM;omega
 clear aM;simp[mW];(with_reducible repeat' first|refine ai ?_|simp[mW]);refine u5 [0,1] (fun(a:List ao×Bool×Nat)=>[(6,.slice 5 .no (a.1.map ao.e)),(7,.bool a.2.1),(8,.int .i64 a.2.2)]) (fun a=>u.length-a.2.2) (Hk u l) ([],true,0) bT ⟨Nat.zero_le _,iz.nil,fun _=>by simp[en],fun h=>by cases h⟩ (fun a ae _=>?_);obtain⟨W,q,i⟩:=a;simp only;by_cases hi:i<u.length
 ·cases q with
  |true=>
   obtain⟨x,gp⟩:∃y,u[i]? =some y:=⟨_,b6 hi⟩;have l1:∀h,(u[i]'h)=x:=fun h=>by rw[b6 hi]at gp;exact ed gp
   have fO:i<l.length:=au▸hi;obtain⟨y,qa,AR⟩:=eh fO;have GX:=hu x (dV gp);have aS:=aqY x y W ae.low GX;have ax:=ae.step au gp qa GX;clear ae aU;generalize ec x y W=r at aS ax;obtain⟨gK,Qp⟩:=r;simp only at aS ax;simp[hi];(with_reducible repeat' first|refine ai ?_|refine az aS ?_|refine aA aS ?_|simp[hi,fO,l1,AR]);all_goals refine bK.whl (Qp,gK,i+1) (by simp only;omega) ax bT
  |false=>have:=ae.no rfl;rw[aU]at this;subst this;clear ae aU;simp[hi];(with_reducible repeat' first|refine ai ?_|simp[hi]);skip;all_goals simp[bq,OK,aX,aZ,aW]
 ·have rl:i=u.length:=by have:=ae.i;simp only at this;omega
  cases q with
  |true=>
   have:=ae.yes rfl;simp only[rl,je]at this;rw[au,je,aU]at this;subst this;clear ae aU;by_cases a6:W.length<=400
   ·have ahu:(W.length:Int)<=400:=Ω
    exact bQ
   ·have ahu:¬(W.length:Int)<=400:=Ω
    exact bQ
  |false=>have:=ae.no rfl;rw[aU]at this;subst this;clear ae aU;simp[hi];(with_reducible repeat' first|refine ai ?_|simp[hi]);skip;all_goals simp[bq,OK,aX,aZ,aW]
theorem o7.low{u:List T}{s:ch}(h:o7 u s):∀t∈u,zd t:=fun t aJ v aF=>by have J:=(HX rfl h.up v).1 (by simp only[zl,List.any_eq_true];exact⟨t,aJ,aF⟩);have U:=h.n;have ar:=h.ok.1.n.2;omega
structure E6 (n N:Int) (W:List ao):Prop where
 asc:hg W
 low:iz W
 get:∀v,0<=v->v<n->∃x,cS W v=some x/\x.fit=true/\ez N x=true
theorem E6.val{n N:Int}{W:List ao}(h:E6 n N W){v:Int}(br:0<=v)(J:v<n):(bp W v).fit=true/\ez N (bp W v)=true:=by
 obtain⟨x,e,U,ar⟩:=h.get v br J;have:bp W v=x:=by unfold bp;rw[e];rfl
 rw[this];exact⟨U,ar⟩
theorem ZI{u v:List T}{s t:ch}(ag:o7 u s)(aJ:o7 v t)(hlen:u.length=v.length)(J:(en u v []).1=true):E6 s.n t.n (en u v []).2:=by
 have r:=Nw u v (l:=[]) Jx hlen J;refine⟨r.asc,?_,fun w br hw=>?_⟩
 ·have au:iz (en u v []).2:=by refine⟨r.asc,fun b af=>?_⟩;have nP:=(r.keys b.v).1 (by rw[pY r.asc af];rfl);simp only[cS,List.find?_nil,Option.map_none,jN,ho,false_or]at nP;have:=(HX rfl ag.up b.v).1 nP;have:=ag.n;have:=ag.ok.1.n.2;omega
  exact au
 ·have ad:=(r.keys w).2 (.inr ((HX rfl ag.up w).2 ⟨br,by have:=ag.n;omega⟩));obtain⟨x,ab⟩:=fL.1 ad;have aF:=r.vals (fun x=>x.ok=true/\x.size<=5000/\ez t.n x=true) (fun a b h=>by
   simp only[T.ok,T.size,cy,ez]at h⊢;exact⟨⟨h.1.1,Ω,h.2.2.1⟩,h.1.2,Ω,h.2.2.2⟩) (fun x ab=>by
   have aK:=aJ.f x ab;simp only[T.fit,cy,eW]at aK;refine⟨aK.1,aK.2,yc.2 fun w hw=>?_⟩;have:=(HX rfl aJ.up w).1 (by simp only[zl,List.any_eq_true];exact⟨x,ab,hw⟩);have:=aJ.n;omega) (fun w x e=>by simp[cS]at e) w x ab
  exact⟨x,ab,by simp only[T.fit,cy,eW];exact⟨aF.1,aF.2.1⟩,aF.2.2⟩
noncomputable def hx(W:List ao):List ao->ch->Option ch
 |[],t=>some t
 |x::r,t=>if(bp W x.v).size<=5000/\(x.t.ap (bp W)).size<=5000 then(mx t (bp W x.v) (x.t.ap (bp W))).bind (hx W r)else none
def uw(u v:List T)(s t:ch):Prop:=u.length=v.length/\(en u v []).1=true/\(en u v []).2.length<=400/\(∀d∈s.d,hx (en u v []).2 d t=none)/\(∀k∈s.k,nj t (bp (en u v []).2 k.v) k.k=some t)/\∀m∈s.m,np t (bp (en u v []).2 m.v) m.s=some t
theorem ao9{s t:ch}(h:jw s)(he:ij s=some t):t.n=s.n:=(EU h he).2.1
structure zS (N:Int) (t:ch):Prop where
 ok:rL t
 n:t.n=N
 g:nt t.m
theorem zS.equ{N:Int}{t da:ch}(h:zS N t){x y:T}(ab:x.fit=true)(aL:y.fit=true)(bx:ez N x=true)(qt:ez N y=true)(he:mx t x y=some da):zS N da:=by obtain⟨J,U,ar⟩:=h;subst U;refine⟨adk J.1 ab aL bx qt he,?_,adl ar he⟩;unfold mx at he;obtain⟨b,ak,aD⟩:=kK.1 he;exact ao9 (s:={t with b:=b}) (J.1.bind ab aL bx qt ak) aD
structure dB (n:Int) (x:ao):Prop where
 v:0<=x.v/\x.v<n
 ok:x.t.ok=true
 t:∀w,x.t.occ w=true->0<=w/\w<n
theorem J4{N:Int}{aQ:Int->T}:∀{t:T},(∀v,t.occ v=true->ez N (aQ v)=true)->ez N (t.ap aQ)=true
 | .var n,h=>h n (by simp[T.occ])
 | .pair a b,h=>by simp only[T.ap,ez,cy];exact⟨J4 fun v aF=>h v (by simp[T.occ,aF]),J4 fun v aF=>h v (by simp[T.occ,aF])⟩
 | .nil,_=>rfl
 | .sym _,_=>rfl
 | .num _,_=>rfl
theorem dB.val{n N:Int}{W:List ao}(h:E6 n N W){x:ao}(ab:dB n x):((bp W x.v).fit=true/\ez N (bp W x.v)=true)/\(x.t.ap (bp W)).ok=true/\ez N (x.t.ap (bp W))=true:=by have J:=h.val ab.v.1 ab.v.2;have U:=fun w (hw:x.t.occ w=true)=>h.val (ab.t w hw).1 (ab.t w hw).2;refine⟨J,JV ab.ok fun w hw=>?_,J4 fun w hw=>(U w hw).2⟩;have:=(U w hw).1;simp only[T.fit,cy]at this;exact this.1
theorem Td(W:List ao)(x:ao):∀(l:List ao) (t:ch),hx W (l++[x]) t=(hx W l t).bind (hx W [x])
 |[],t=>by simp[hx]
 |y::l,t=>by
  simp only[bW,hx];split
  ·cases mx t (bp W y.v) (y.t.ap (bp W))with
   |none=>rfl
   |some da=>exact Td W x l da
  ·rfl
theorem acm(W:List ao)(x:ao)(t:ch):hx W [x] t=if(bp W x.v).size<=5000/\(x.t.ap (bp W)).size<=5000 then mx t (bp W x.v) (x.t.ap (bp W))else none:=by
 simp only[hx];split
 ·cases mx t (bp W x.v) (x.t.ap (bp W))<;>rfl
 ·rfl
theorem Kw{n N:Int}{W:List ao}(h:E6 n N W):∀(l:List ao) {t da:ch},(∀x∈l,dB n x)->zS N t->hx W l t=some da->zS N da
 |[],t,da,_,aJ,he=>by rw[<-ed he];exact aJ
 |x::l,t,da,au,aJ,he=>by
  simp only[hx]at he;split at he
  ·rename_i bz;obtain⟨t1,ak,aD⟩:=kK.1 he;obtain⟨J,U,ar⟩:=dB.val h (au x Ψ);exact Kw h l (fun y aL=>au y (by simp[aL])) (aJ.equ J.1 (by simp only[T.fit,cy,eW];exact⟨U,bz.2⟩) J.2 ar ak) aD
  ·cases he
theorem Zk(s:ch):∃t:ch,∃q:Bool,uq s= .tuple [t.e,.bool q]/\(q=true->ij s=some t)/\(q=false->ij s=none):=by
 refine⟨_,_,rfl,(fun h=>?_),fun h=>?_⟩
 ·obtain⟨t,aJ⟩:=fL.1 h;rw[IX aJ];exact aJ
 ·cases e:ij s with
  |none=>rfl
  |some t=>rw[e]at h;cases h
noncomputable def IL(s:ch)(x:T)(k:Int):aj:=if(x.ap (bp s.b)).size<=5000 then(match jk s.k (x.ap (bp s.b)) k with
 |none=>.tuple [ir.e,.bool false]
 |some l=>uq {s with k:=l})else .tuple [ir.e,.bool false]
theorem aoQ(s:ch)(x:T){k:Int}(ad:k=2\/k=3):∃t:ch,∃q:Bool,IL s x k= .tuple [t.e,.bool q]/\(q=true->nj s x k=some t)/\(q=false->nj s x k=none):=by
 unfold IL nj;by_cases g:(x.ap (bp s.b)).size<=5000
 ·rw[if_pos g,if_pos ⟨ad,g⟩];cases jk s.k (x.ap (bp s.b)) k with
  |none=>exact⟨ir,false,rfl,(fun h=>by cases h),fun _=>rfl⟩
  |some l=>exact Zk _
 ·rw[if_neg g,if_neg fun h=>g h.2];exact⟨ir,false,rfl,(fun h=>by cases h),fun _=>rfl⟩
noncomputable def IN(s:ch)(x:T)(g:List dw):aj:=if(x.ap (bp s.b)).size<=5000 then(match j1 s.m (x.ap (bp s.b)) g with
 |none=>.tuple [ir.e,.bool false]
 |some l=>uq {s with m:=l})else .tuple [ir.e,.bool false]
theorem aoR(s:ch)(x:T)(g:List dw):∃t:ch,∃q:Bool,IN s x g= .tuple [t.e,.bool q]/\(q=true->np s x g=some t)/\(q=false->np s x g=none):=by
 unfold IN np;by_cases g1:(x.ap (bp s.b)).size<=5000
 ·rw[if_pos g1,if_pos g1];cases j1 s.m (x.ap (bp s.b)) g with
  |none=>exact⟨ir,false,rfl,(fun h=>by cases h),fun _=>rfl⟩
  |some l=>exact Zk _
 ·rw[if_neg g1,if_neg g1];exact⟨ir,false,rfl,(fun h=>by cases h),fun _=>rfl⟩
theorem aq4{s:ch}(h:jw s)(hm:nt s.m){x:T}(ab:x.fit=true)(bx:ez s.n x=true){k:Int}(ad:k=2\/k=3)(y:T)(tag:List dw):bC al 93 [s.e,.int .i64 2,x.e,y.e,.int .i64 k,.str tag] (IL s x k):=by
 have aS:=Ff s.b h.b.len x;have be:=PK s.k (by have:=rv h.k;omega) h.k.asc (x.ap (bp s.b)) k;unfold IL;by_cases g:(x.ap (bp s.b)).size<=5000
 ·rw[gN g]at aS;rw[if_pos g];cases hu:jk s.k (x.ap (bp s.b)) k with
  |none=>rw[hu]at be;generalize x.ap (bp s.b)=y at aS be;clear h hu g;obtain⟨n,b,d,bJ,m⟩:=s;simp only[ch.e,n4,ir,kv,jN]at aS be⊢;refine bc lO wG xw fun aM=>?_;unfold u1;exact bQ
  |some l=>rw[hu]at be;obtain⟨G,iI,a7⟩:=hm;have b8:=Jo (h.knd ab bx ad hu) iI a7;generalize x.ap (bp s.b)=y at aS be;simp only[uq]at b8⊢;generalize wb {s with k:=l}=t at b8;generalize (ij {s with k:=l}).isSome=q at b8;clear h hu g;obtain⟨n,b,d,bJ,m⟩:=s;obtain⟨qS,zO,E8,qR,tm⟩:=t;simp only[ch.e,n4,jM,oZ]at aS be b8⊢;refine bc lO wG xw fun aM=>?_;unfold u1;exact bQ
 ·rw[hQ g]at aS;rw[if_neg g];generalize x.ap (bp s.b)=y at aS be;clear be;clear h g;obtain⟨n,b,d,bJ,m⟩:=s;simp only[ch.e,ir]at aS⊢;refine bc lO wG xw fun aM=>?_;unfold u1;exact bQ
theorem aq5{s:ch}(h:jw s)(hm:mo s.m){x:T}(ab:x.fit=true)(bx:ez s.n x=true){g:List dw}(a7:iX g=true)(y:T)(me:Int):bC al 93 [s.e,.int .i64 3,x.e,y.e,.int .i64 me,.str g] (IN s x g):=by
 have aS:=Ff s.b h.b.len x;have be:=fun bz=>aaB s.m (hm.w.len h.m) (x.ap (bp s.b)) bz g h.m.asc;unfold IN;by_cases g1:(x.ap (bp s.b)).size<=5000
 ·have be:=be g1;rw[gN g1]at aS;rw[if_pos g1];cases hu:j1 s.m (x.ap (bp s.b)) g with
  |none=>rw[hu]at be;generalize x.ap (bp s.b)=y at aS be;clear h hu g1;obtain⟨n,b,d,bJ,m⟩:=s;simp only[ch.e,ig,ir,kv,jN]at aS be⊢;refine bc lO wG xw fun aM=>?_;unfold u1;exact bQ
  |some l=>rw[hu]at be;obtain⟨G,iI,pn⟩:=hm.mrk hu;have b8:=Jo (h.mrk ab bx a7 hu) iI pn;generalize x.ap (bp s.b)=y at aS be;simp only[uq]at b8⊢;generalize wb {s with m:=l}=t at b8;generalize (ij {s with m:=l}).isSome=q at b8;clear h hu g1;obtain⟨n,b,d,bJ,m⟩:=s;obtain⟨qS,zO,E8,qR,tm⟩:=t;simp only[ch.e,ig,jM,oZ]at aS be b8⊢;refine bc lO wG xw fun aM=>?_;unfold u1;exact bQ
 ·rw[hQ g1]at aS;rw[if_neg g1];generalize x.ap (bp s.b)=y at aS be;clear be;clear h g1;obtain⟨n,b,d,bJ,m⟩:=s;simp only[ch.e,ir]at aS⊢;refine bc lO wG xw fun aM=>?_;unfold u1;exact bQ
def Ch(a b:hp):Prop:= ∃(u v:List T) (s t:ch),a=⟨u.map T.tm,s.r⟩/\b=⟨v.map T.tm,t.r⟩/\o7 u s/\o7 v t/\uw u v s t
theorem I6{u v:List T}{s t:ch}:Ch ⟨u.map T.tm,s.r⟩ ⟨v.map T.tm,t.r⟩↔o7 u s/\o7 v t/\uw u v s t:=by
 constructor
 ·rintro⟨e6,v',ah,da,J,U,ar⟩;injection J with bH a2;injection U with bV b7;rw[Ja bH,ch.r_inj a2,Ja bV,ch.r_inj b7];exact ar
 ·intro h;exact⟨u,v,s,t,rfl,rfl,h⟩
theorem jw.dB{s:ch}(h:jw s):∀d∈s.d,∀x∈d,Go.Proofs.YtohaalphocaebaaGreat.dB s.n x:=fun d aR x ab=>by have J:=(h.d d aR).ok x ab;have U:=h.db d aR x ab;exact⟨⟨J.1.1,U.1⟩,J.2,fun w hw=>⟨amt J.2 hw,U.2 w hw⟩⟩
theorem Tc(W:List ao):∀(hC fP:List ao) {t:ch},hx W hC t=none->hx W (hC++fP) t=none
 |[],fP,t,h=>by simp[hx]at h
 |x::hC,fP,t,h=>by
  simp only[bW,hx]at h⊢;split
  ·rename_i bz;rw[if_pos bz]at h;cases e:mx t (bp W x.v) (x.t.ap (bp W))with
   |none=>rfl
   |some da=>rw[e]at h;exact Tc W hC fP h
  ·rfl
theorem Kv{W d:List ao}{t:ch}{j:Nat}(h:hx W (d.take j) t=none):hx W d t=none:=by have:=Tc W (d.take j) (d.drop j) h;rwa[List.take_append_drop]at this
theorem Te{W d:List ao}{t da:ch}{j:Nat}{x:ao}(ab:d[j]? =some x)(h:hx W (d.take j) t=some da):hx W (d.take (j+1)) t=if(bp W x.v).size<=5000/\(x.t.ap (bp W)).size<=5000 then mx da (bp W x.v) (x.t.ap (bp W))else none:=by rw[lS,ab];show hx W (d.take j++[x]) t=_;rw[Td,h,<-acm];rfl
def jc(t:ch):List aj:=[.int .i64 t.n,.slice 5 .no (t.b.map ao.e),.slice 1 .no (t.d.map cO),.slice 2 .no (t.k.map bN.e),.slice 2 .no (t.m.map bj.e)]
open Classical in
theorem arf{u v:List T}{s t:ch}(ag:o7 u s)(aJ:o7 v t)(jn:mo t.m)(hlen:u.length=v.length)(J:(en u v []).1=true)(a6:(en u v []).2.length<=400)
  (dv:bC al 22 [(⟨u.map T.tm,s.r⟩:hp).e] (.bool true)) (eR:bC al 22 [(⟨v.map T.tm,t.r⟩:hp).e] (.bool true)):bC al 37 [(⟨u.map T.tm,s.r⟩:hp).e,(⟨v.map T.tm,t.r⟩:hp).e] (.bool (decide (uw u v s t))):=by
 have dg:=aaD u v hlen ag.low;rw[J,Bool.true_and,gN a6]at dg;have jR:=ZI ag aJ hlen J;have Dg:∀{R:Bool},decide (uw u v s t)=R->(R=true↔(∀d∈s.d,hx (en u v []).2 d t=none)/\(∀k∈s.k,nj t (bp (en u v []).2 k.v) k.k=some t)/\∀m∈s.m,np t (bp (en u v []).2 m.v) m.s=some t):=fun{R} e=>by rw[<-e,decide_eq_true_iff];exact⟨fun h=>h.2.2.2,fun h=>⟨hlen,J,a6,h⟩⟩
 generalize bn:decide (uw u v s t)=R;have aU:=Dg bn;clear bn Dg;generalize (en u v []).2=W at dg jR aU;have vj:=ag.ok.1.dB;have vx:zS t.n t:=⟨aJ.ok,rfl,jn.w⟩;have vg:W.length<=1000000:=by have:=jR.low.len;omega
 have yD:∀d∈s.d,d.length<=1000000:=fun d aR=>(ag.ok.1.d d aR).len;have w3:=ag.ok.1.k;have Bb:=ag.ok.1.kb;have dr:=ag.ok.1.m;have Bc:=ag.ok.1.mb;rw[oq]at dv eR⊢;rw[oq];clear ag aJ hlen J a6;obtain⟨uv,ES,lL,n5,sm⟩:=s;have ai1:t.e= .agg (jc t):=rfl;simp only at aU vj jR w3 Bb dr Bc yD dv⊢;refine bc hn C0 Eo fun aM=>?_;unfold Al;have ev:lL.length<=68719476736/\n5.length<=68719476736/\sm.length<=68719476736:=by simp[eA,eo,et,lim]at aM;omega
 clear aM;obtain⟨mX,fE,L1⟩:=ev;simp;(with_reducible repeat' first|refine ai ?_|refine az dv ?_|refine aA dv ?_|refine az eR ?_|refine aA eR ?_|refine az dg ?_|refine aA dg ?_|simp);refine dO [2,3,5,43,44] (fun i (_:Unit)=>[(45,.int .i64 i)]) lL.length (fun i _=> ∀(j:Nat) d,j<i->lL[j]? =some d->hx W d t=none) () bT (fun j d h=>Ω) (fun _ ae _=>?_) (fun i _ hi ae _=>?_)
 ·have pf:∀d∈lL,hx W d t=none:=fun d aR=>by obtain⟨j,gq⟩:=List.mem_iff_getElem?.1 aR;exact ae j d (eV.1 gq).1 gq
  clear ae yD vj;simp;(with_reducible repeat' first|refine ai ?_|simp);refine dO [2,3,5,88,89] (fun i (_:Unit)=>[(90,.int .i64 i)]) n5.length (fun i _=> ∀(j:Nat) k,j<i->n5[j]? =some k->nj t (bp W k.v) k.k=some t) () bT (fun j k h=>Ω) (fun _ ae _=>?_) (fun i _ hi ae _=>?_)
  ·have c5:∀k∈n5,nj t (bp W k.v) k.k=some t:=fun k ad=>by obtain⟨j,gq⟩:=List.mem_iff_getElem?.1 ad;exact ae j k (eV.1 gq).1 gq
   clear ae;simp;(with_reducible repeat' first|refine ai ?_|simp);refine dO [3,5,120,121] (fun i (_:Unit)=>[(122,.int .i64 i)]) sm.length (fun i _=> ∀(j:Nat) m,j<i->sm[j]? =some m->np t (bp W m.v) m.s=some t) () bT (fun j k h=>Ω) (fun _ ae _=>?_) (fun i _ hi ae _=>?_)
   ·have ei:∀m∈sm,np t (bp W m.v) m.s=some t:=fun m hm=>by obtain⟨j,gq⟩:=List.mem_iff_getElem?.1 hm;exact ae j m (eV.1 gq).1 gq
    rw[aU.2 ⟨pf,c5,ei⟩];clear ae ei pf c5 aU;simp;(with_reducible repeat' first|refine ai ?_|simp);skip;all_goals simp[bq,sY,aX,aZ,aW]
   ·obtain⟨m,GJ⟩:∃y,sm[i]? =some y:=⟨_,b6 hi⟩;have AQ:∀h,(sm[i]'h)=m:=fun h=>by rw[b6 hi]at GJ;exact ed GJ
    have fy:=dV GJ;obtain⟨f1,bV⟩:=jR.val (dr.at' m fy).1.1 (Bc m fy);have dU:=jW m.v;have aS:=Cq W vg (.var m.v);rw[show(T.var m.v).ap (bp W)=bp W m.v from rfl]at aS;have cT:=aq5 vx.ok.1 jn f1 bV (dr.at' m fy).2 .nil 0;obtain⟨t2,bo,ak,aD,bh⟩:=aoR t (bp W m.v) m.s;rw[ak]at cT;have cE:=PO t2 t;have cU:¬(bo=true/\t2=t)->R=false:=fun h=>by
     cases R with
     |false=>rfl
     |true=>
      have U:=(aU.1 rfl).2.2 m fy;cases bo with
      |true=>rw[aD rfl]at U;exact absurd ⟨rfl,ed U⟩ h
      |false=>rw[bh rfl]at U;cases U
    have ef:bo=true/\t2=t->∀(j:Nat) m,j<i+1->sm[j]? =some m->np t (bp W m.v) m.s=some t:=fun h j bJ dj aF=>by
     by_cases qb:j<i
     ·exact ae j bJ qb aF
     ·obtain rfl:j=i:=Ω
      rw[GJ]at aF;rw[<-ed aF,aD h.1,h.2]
    clear ak aD bh ae aU f1 bV pf c5;generalize bp W m.v=ja at aS cT;cases bo with
    |false=>rw[cU fun h=>by cases h.1];clear cU ef cE;simp only[ch.e]at cT;simp[hi,AQ];(with_reducible repeat' first|refine ai ?_|refine az dU ?_|refine aA dU ?_|refine az aS ?_|refine aA aS ?_|refine az cT ?_|refine aA cT ?_|simp[hi,AQ]);skip;all_goals simp[bq,sY,aX,aZ,aW]
    |true=>
     by_cases h:t2=t
     ·rw[gN h]at cE;have ax:=ef ⟨rfl,h⟩;subst h;clear cU ef;simp only[ch.e]at cT cE;simp[hi,AQ];(with_reducible repeat' first|refine ai ?_|refine az dU ?_|refine aA dU ?_|refine az aS ?_|refine aA aS ?_|refine az cT ?_|refine aA cT ?_|refine az cE ?_|refine aA cE ?_|simp[hi,AQ]);refine bK.rng () hi ax ?_;exact bT
     ·rw[hQ h]at cE;rw[cU fun cn=>h cn.2];clear cU ef h;simp only[ch.e]at cT cE;simp[hi,AQ];(with_reducible repeat' first|refine ai ?_|refine az dU ?_|refine aA dU ?_|refine az aS ?_|refine aA aS ?_|refine az cT ?_|refine aA cT ?_|refine az cE ?_|refine aA cE ?_|simp[hi,AQ]);skip;all_goals simp[bq,sY,aX,aZ,aW]
  ·obtain⟨k,iU⟩:∃y,n5[i]? =some y:=⟨_,b6 hi⟩;have l0:∀h,(n5[i]'h)=k:=fun h=>by rw[b6 hi]at iU;exact ed iU
   have fy:=dV iU;obtain⟨f1,bV⟩:=jR.val (w3.at' k fy).1.1 (Bb k fy);have dU:=jW k.v;have aS:=Cq W vg (.var k.v);rw[show(T.var k.v).ap (bp W)=bp W k.v from rfl]at aS;have cT:=aq4 vx.ok.1 jn.w f1 bV (w3.at' k fy).2 .nil [];obtain⟨t2,bo,ak,aD,bh⟩:=aoQ t (bp W k.v) (w3.at' k fy).2;rw[ak]at cT;have cE:=PO t2 t;have cU:¬(bo=true/\t2=t)->R=false:=fun h=>by
    cases R with
    |false=>rfl
    |true=>
     have U:=(aU.1 rfl).2.1 k fy;cases bo with
     |true=>rw[aD rfl]at U;exact absurd ⟨rfl,ed U⟩ h
     |false=>rw[bh rfl]at U;cases U
   have ef:bo=true/\t2=t->∀(j:Nat) k,j<i+1->n5[j]? =some k->nj t (bp W k.v) k.k=some t:=fun h j bJ dj aF=>by
    by_cases qb:j<i
    ·exact ae j bJ qb aF
    ·obtain rfl:j=i:=Ω
     rw[iU]at aF;rw[<-ed aF,aD h.1,h.2]
   clear ak aD bh ae aU f1 bV pf;generalize bp W k.v=ja at aS cT;cases bo with
   |false=>rw[cU fun h=>by cases h.1];clear cU ef cE;simp only[ch.e]at cT;simp[hi,l0];(with_reducible repeat' first|refine ai ?_|refine az dU ?_|refine aA dU ?_|refine az aS ?_|refine aA aS ?_|refine az cT ?_|refine aA cT ?_|simp[hi,l0]);skip;all_goals simp[bq,sY,aX,aZ,aW]
   |true=>
    by_cases h:t2=t
    ·rw[gN h]at cE;have ax:=ef ⟨rfl,h⟩;subst h;clear cU ef;simp only[ch.e]at cT cE;simp[hi,l0];(with_reducible repeat' first|refine ai ?_|refine az dU ?_|refine aA dU ?_|refine az aS ?_|refine aA aS ?_|refine az cT ?_|refine aA cT ?_|refine az cE ?_|refine aA cE ?_|simp[hi,l0]);refine bK.rng () hi ax ?_;exact bT
    ·rw[hQ h]at cE;rw[cU fun cn=>h cn.2];clear cU ef h;simp only[ch.e]at cT cE;simp[hi,l0];(with_reducible repeat' first|refine ai ?_|refine az dU ?_|refine aA dU ?_|refine az aS ?_|refine aA aS ?_|refine az cT ?_|refine aA cT ?_|refine az cE ?_|refine aA cE ?_|simp[hi,l0]);skip;all_goals simp[bq,sY,aX,aZ,aW]
 ·obtain⟨d,kQ⟩:∃y,lL[i]? =some y:=⟨_,b6 hi⟩;have Dm:∀h,(lL[i]'h)=d:=fun h=>by rw[b6 hi]at kQ;exact ed kQ
  have LM:cO d= .slice 5 .no (d.map ao.e):=rfl;have Dn:=yD d (dV kQ);simp[hi,Dm];(with_reducible repeat' first|refine ai ?_|simp[hi,Dm]);simp[LM];(with_reducible repeat' first|refine ai ?_|simp);refine gA (fun j (a:Bool×ch)=>⟨[(2,.ptr (.loc 0) 0),(3,.ptr (.loc 1) 0),(5,.slice 5 .no (W.map ao.e)),(9,.ptr (.loc 2) 0),(10,.bool a.1),(43,.slice 1 .no (lL.map cO)),(44,.int .i64 lL.length),(45,.int .i64 i),(51,.slice 5 .no (d.map ao.e)),(52,.int .i64 d.length),(53,.int .i64 j)],[(.loc 0,[.slice 4 .no (u.map T.e),.int .i64 uv,.slice 5 .no (ES.map ao.e),.slice 1 .no (lL.map cO),.slice 2 .no (n5.map bN.e),.slice 2 .no (sm.map bj.e)]),(.loc 1,[.slice 4 .no (v.map T.e),.int .i64 t.n,.slice 5 .no (t.b.map ao.e),.slice 1 .no (t.d.map cO),.slice 2 .no (t.k.map bN.e),.slice 2 .no (t.m.map bj.e)]),(.loc 2,jc a.2)],[],3,[]⟩) d.length (fun j a=>(a.1=true->hx W (d.take j) t=some a.2)/\(a.1=false->hx W d t=none)) (true,t) ⟨by simp[fresh,aC,aB,bP,inObs,Pv.look,jc],dD (by simp[fresh,aC,aB,bP,inObs,Pv.look,jc]),dE (by simp[fresh,aC,aB,dt,inObs,Pv.look,jc]),Ψ⟩ ⟨fun _=>by simp[hx],fun h=>by cases h⟩ (fun a ad _=>?_) (fun j a dj ad _=>?_)
  ·obtain⟨q,da⟩:=a;cases q with
   |true=>
    have ad:=ad.1 rfl;rw[je]at ad;have:R=false:=by
     cases R with
     |false=>rfl
     |true=>have:=(aU.1 rfl).1 d (dV kQ);rw[ad]at this;cases this
    subst this;clear ad ae aU;simp only[jc];simp;(with_reducible repeat' first|refine ai ?_|simp);skip;all_goals simp[bq,sY,aX,aZ,aW]
   |false=>
    have ad:=ad.2 rfl;have ax:∀(j:Nat) d,j<i+1->lL[j]? =some d->hx W d t=none:=fun j cd h aF=>by
     by_cases qb:j<i
     ·exact ae j cd qb aF
     ·obtain rfl:j=i:=Ω
      rw[kQ]at aF;rw[<-ed aF];exact ad
    clear ad ae aU;simp only[jc];simp;(with_reducible repeat' first|refine ai ?_|simp);refine bK.rng () hi ax ?_;exact bT
  ·obtain⟨q,da⟩:=a;obtain⟨x,gp⟩:∃y,d[j]? =some y:=⟨_,b6 dj⟩;have l1:∀h,(d[j]'h)=x:=fun h=>by rw[b6 dj]at gp;exact ed gp
   have ab:=vj d (dV kQ) x (dV gp);obtain⟨⟨f1,bV⟩,fB,b7⟩:=dB.val jR ab;have dU:=jW x.v;have aS:=Cq W vg (.var x.v);have be:=Cq W vg x.t;have b8:=xU (bp W x.v);have eg:=xU (x.t.ap (bp W));have wE:(bp W x.v).size<=5000:=by simp only[T.fit,cy,eW]at f1;exact f1.2
   rw[gN wE]at b8;rw[show(T.var x.v).ap (bp W)=bp W x.v from rfl]at aS;cases q with
   |false=>have ad:=ad.2 rfl;clear b8 eg ab f1 bV fB b7 ae aU;simp only[jc];simp[dj,l1];(with_reducible repeat' first|refine ai ?_|refine az dU ?_|refine aA dU ?_|refine az aS ?_|refine aA aS ?_|refine az be ?_|refine aA be ?_|simp[dj,l1]);refine bK.rng (false,da) dj ⟨(fun h=>by cases h),fun _=>ad⟩ ?_;exact⟨by simp[fresh,aC,aB,bP,inObs,Pv.look,jc],dD (by simp[fresh,aC,aB,bP,inObs,Pv.look,jc]),dE (by simp[fresh,aC,aB,dt,inObs,Pv.look,jc]),Ψ⟩
   |true=>
    have ad:=ad.1 rfl;have cF:=Te gp ad;have aF:=Kw jR (d.take j) (fun y aL=>vj d (dV kQ) y (List.mem_of_mem_take aL)) vx ad;by_cases b0:(x.t.ap (bp W)).size<=5000
    ·rw[if_pos ⟨wE,b0⟩]at cF;rw[gN b0]at eg;have f2:(x.t.ap (bp W)).fit=true:=by simp only[T.fit,cy,eW];exact⟨fB,b0⟩
     have cT:=aq3 aF.ok.1 aF.g f1 f2 (by rw[aF.n];exact bV) (by rw[aF.n];exact b7) 0 [];obtain⟨t2,bo,ak,aD,bh⟩:=aoP da (bp W x.v) (x.t.ap (bp W));rw[ak]at cT;have ax:(bo=true->hx W (d.take (j+1)) t=some t2)/\(bo=false->hx W d t=none):=⟨fun h=>by rw[cF];exact aD h,fun h=>Kv (j:=j+1) (by rw[cF];exact bh h)⟩;clear cF aF ak aD bh ad ab f1 bV fB b7 f2 ae aU;generalize bp W x.v=ja at aS b8 cT;generalize x.t.ap (bp W)=oe at be eg cT;simp only[ch.e]at cT;simp only[jc];simp[dj,l1];(with_reducible repeat' first|refine ai ?_|refine az dU ?_|refine aA dU ?_|refine az aS ?_|refine aA aS ?_|refine az be ?_|refine aA be ?_|refine az b8 ?_|refine aA b8 ?_|refine az eg ?_|refine aA eg ?_|refine az cT ?_|refine aA cT ?_|simp[dj,l1]);refine bK.rng (bo,t2) dj ax ?_;exact⟨by simp[fresh,aC,aB,bP,inObs,Pv.look,jc],dD (by simp[fresh,aC,aB,bP,inObs,Pv.look,jc]),dE (by simp[fresh,aC,aB,dt,inObs,Pv.look,jc]),Ψ⟩
    ·rw[if_neg fun h=>b0 h.2]at cF;rw[hQ b0]at eg;have ax:=Kv cF;clear cF aF ad ab f1 bV fB b7 ae aU;simp only[jc];simp[dj,l1];(with_reducible repeat' first|refine ai ?_|refine az dU ?_|refine aA dU ?_|refine az aS ?_|refine aA aS ?_|refine az be ?_|refine aA be ?_|refine az b8 ?_|refine aA b8 ?_|refine az eg ?_|refine aA eg ?_|simp[dj,l1]);refine bK.rng (false,da) dj ⟨(fun h=>by cases h),fun _=>ax⟩ ?_;exact⟨by simp[fresh,aC,aB,bP,inObs,Pv.look,jc],dD (by simp[fresh,aC,aB,bP,inObs,Pv.look,jc]),dE (by simp[fresh,aC,aB,dt,inObs,Pv.look,jc]),Ψ⟩
end
section
open Go Go.Pv Go.Lib
instance:Inhabited ao:=⟨⟨0,.nil⟩⟩
abbrev rX(l:List ao):cL:=dS ao.e 868 307 61 5 l
theorem QI:∀(S:aI->Prop) (x:ao),aB S x.e:=fun S x=>by simp
theorem JC(l:List ao):dW (rX l):=wq QI l
def xm(x y:ao):Bool:=decide (x.v<y.v)
theorem akj:Sort.SWO xm:=⟨fun x=>by simp[xm],fun x y z J U=>by simp[xm]at*;omega,fun x y z J U=>by simp[xm]at*;omega⟩
theorem ahe(l:List ao)(i j:Nat)(x y:ao)(au:l.length<=68719476736)(hi:l[i]? =some x)(ae:l[j]? =some y):bI al 235 [.int .i64 i,.int .i64 j,.ptr (.obj 307) 0] (rX l) fun r ah=>r= .bool (xm x y)/\ah=rX l:=by have ag:=JC l;obtain⟨la,fO⟩:=eV.1 hi;obtain⟨dj,oC⟩:=eV.1 ae;unfold rX dS at ag⊢;refine bI.mk mixed hn ae1 al1 Ψ ag.obj fun aM cR=>?_;unfold RL;simp[la,dj,fO,oC];(with_reducible repeat' first|refine ai ?_|simp[la,dj,fO,oC]);refine cH.at _ (.inl rfl) ag (Same.refl _) aN aN ?_;simp[cN,YG,aX,aZ,aW,xm]
noncomputable def Tryz.bdT:TypeInfo:=(al.info? 23).get co
noncomputable def Tryz.bdE:TypeInfo:=(al.info? 61).get co
theorem Tryz.bdK(n:Nat)(U:2<=n):Lib.swapperK n Tryz.bdE 25=9:=by
 have a:Tryz.bdE.hasPointers=true:=by kernel_rfl
 have b:Tryz.bdE.bytes=64:=by kernel_rfl
 have c:(n==0)=false:=by simp;omega
 have d:(n==1)=false:=by simp;omega
 simp[Lib.swapperK,a,b,c,d]
theorem aki{α β:Type}(f:α->β)(l:List α)(i j:Nat):(gZ l i j).map f=gZ (l.map f) i j:=by
 unfold gZ;simp only[tk];cases l[i]? with
 |none=>simp
 |some x=>
  cases l[j]? with
  |none=>simp
  |some y=>simp[List.map_set]
theorem Zy{l a1:List ao}(bF:a1.Perm l)(aR:(l.map (·.v)).Nodup)(ag:a1.Pairwise fun x y=>x.v<=y.v):a1=ql l:=by
 have k9:(a1.map (·.v)).Nodup:=(bF.map _).nodup_iff.2 aR;have bD:hg a1:=by have U:=k9;rw[List.nodup_iff_pairwise_ne,List.pairwise_map]at U;exact(ag.and U).imp fun h=>by have:=h.1;have:=h.2;omega
 have af:=Pa aR;have hm:∀b,b∈a1↔b∈ql l:=fun b=>by rw[bF.mem_iff];exact(List.mergeSort_perm l _).mem_iff.symm
 refine FI bD af fun v=>?_;cases e:cS a1 v with
 |some x=>exact(pY (b:=⟨v,x⟩) af ((hm _).1 (j2 e))).symm
 |none=>exact(nF.2 fun b h=>nF.1 e b ((hm b).2 h)).symm
theorem ahc(l:List ao)(au:l.length<=68719476736)(aR:(l.map (·.v)).Nodup):bI al 126 [.iface 23 (.row 5 (.obj 868) l.length),.func 235 [.ptr (.obj 307) 0]] (rX l) fun r ah=>r= .tuple []/\ah=rX (ql l):=by
 refine(Lk QI (K:=868) (B:=307) (sz:=5) (by decide) (by decide) 23 Tryz.bdT Tryz.bdE co co co co 25 (fun _=>by kernel_rfl) Tryz.bdK 235 xm akj l au (fun a1 h i j x y hi ae=>ahe a1 i j x y Ω hi ae) (fun a1 h i j hi ae=>?_)).mono ?_
 ·have:=Ls (P:=al) false 257 (fun args W=>run_callFunc_extern Tryz.func257 co co co (e:=Cw false) co args W)
   61 Tryz.bdE co (fun _=>by kernel_rfl) (JC a1) (K:=868) (n:=l.length) (el:=61) (sz:=5) co (xs:=a1.map ao.e) (by simp[dS,Pv.look,h]) i j hi ae
  refine this.mono ?_;rintro r ah ⟨rfl,rfl⟩;refine⟨rfl,?_⟩;simp[dS,cA,aki,h]
 ·rintro r ah ⟨rfl,a1,rfl,J,U⟩;exact⟨rfl,by rw[Zy J aR (U.imp fun h=>by simp[xm]at h;omega)]⟩
def rZ(l:List ao):cL:=⟨[],[(.obj 868,⟨l.length,61,5,some (l.map ao.e)⟩)]⟩
theorem JJ(l:List ao):dW (rZ l):=by unfold rZ;refine dW.of ⟨by intro m;simp[Pv.look],by intro m;simp[Pv.look]⟩ Ψ ?_;intro x ab ys aL;simp at ab;subst ab;simp at aL;subst aL;simp
theorem Ql(l a1:List ao):Same (rZ l) (rZ a1):=Same.keys rfl rfl
theorem abr(l a1:List ao):Same (rX l) (rX a1):=Same.keys rfl rfl
theorem ahd(l:List ao)(au:l.length<=68719476736)(aR:(l.map (·.v)).Nodup):bI al 175 [.row 5 (.obj 868) l.length] (rZ l) fun r ah=>r= .tuple []/\ah=rZ (ql l):=by have ag:=JJ l;have ep:=JJ (ql l);have dr:=Ql l (ql l);have ax:=E2 l;have nX:=ahc l au aR;unfold rZ at ag ep dr⊢;refine bI.mk mixed hn ae0 al0 Ψ ag.obj fun aM cR=>?_;unfold RK;simp;refine cV.ob nX (JC l) (by unfold rX dS;exact aN) (by unfold rX dS;exact aN) (by simp[inObs,dS,Pv.look]) ?_;rintro r ah ⟨rfl,rfl⟩;refine⟨abr _ _,?_⟩;unfold rX dS;simp[cl];refine cH.at _ (.inr rfl) ep dr aN aN ?_;simp[cN,YF,aX,aZ,aW]
theorem apC{a b:List ao}(h:a.Perm b)(aR:(b.map (·.v)).Nodup):ql a=ql b:=by refine Zy ((List.mergeSort_perm a _).trans h) aR ?_;exact(Pa ((h.map _).nodup_iff.2 aR)).imp fun h=>Ω
theorem Hu(S:aI->Prop):∀a b:List aj,aC S (a++b)↔aC S a/\aC S b
 |[],b=>by simp[aC]
 |x::r,b=>by simp only[bW,aC,Hu S r b,and_assoc]
def ajB(m:List (Int×T))(k:Nat)(st:bu):Prop:=∃(seen:List Nat) (xs:List ao),seen.Nodup/\(∀b∈seen,b<m.length)/\k=m.length-seen.length/\xs=(seen.filterMap fun b=>m[b]?).map zP/\xs.length=seen.length/\st=⟨[(3,.row 5 (.obj 868) xs.length),(8,.ptr (.loc 0) 0)],[(.obj 867,lj m),(.loc 0,bP m.length seen (.obj 867))],[(.obj 868,⟨xs.length,61,5,some (xs.map ao.e)⟩)],1,[.obj 868,.obj 867]⟩
theorem ahl(m:List (Int×T))(au:m.length<=10000000000)(hm:(m.map (·.1)).Nodup):bI al 89 [.gmap (.obj 867)] (gh 867 m) fun r ah=>r= .slice 5 .no ((ql (m.map zP)).map ao.e)/\ah=gh 867 m:=by
 have ag:=mu 867 m;have oE:((m.map zP).map (·.v)).Nodup:=by rw[List.map_map];exact hm
 unfold gh at ag⊢;refine bI.mk mixed hn ae3 al3 Ψ ag.obj fun aM cR=>?_;unfold RN;simp;refine tD (ajB m) m.length _ ⟨by simp[fresh,aC,aB,bP,inObs,Pv.look,gi],dD f9,dE gc,Ψ⟩ ⟨[],[],Ψ,Ψ,Ψ,Ψ,Ψ,rfl⟩ ?_;rintro k st ⟨seen,xs,aR,bE,ad,gY,jB,rfl⟩ p9 cR;clear p9 cR;have hle:=ET aR bE;simp;refine adp (mk:= .obj 867) (seen:=seen) (l:=m) Ψ Ψ rfl (fun k8=>?_) (fun b x ab af=>?_)
 ·simp;have sB:xs.Perm (m.map zP):=by rw[gY];exact(IU aR bE k8).map _
  have ajf:(xs.map (·.v)).Nodup:=(sB.map _).nodup_iff.2 oE;refine cV.ob (ahd xs Ω ajf) (JJ xs) (by unfold rZ;exact aN) (by unfold rZ;exact aN) (by simp[rZ,inObs,Pv.look]) ?_;rintro r ah ⟨rfl,rfl⟩;refine⟨Ql _ _,?_⟩;unfold rZ;simp[cl,E2];refine cH.at _ (.inl rfl) ag (Same.refl _) aN aN ?_;simp[cN,YI,aX,aZ,aW];rw[apC sB oE]
 ·obtain⟨v,x⟩:=x;have wY:∀f:aI->Option (List aj),f (.loc 0)=some (bP m.length (seen++[b]) (.obj 867))->f (.obj 867)=some (lj m)->oJ f (.ptr (.loc 0) 0)=some (True,.tuple [.int .i64 v,x.e]):=fun f J U=>akv f (.loc 0) (.obj 867) m.length seen b m (v,x) J U rfl ab;have fw:b<m.length:=(eV.1 ab).1;have qd:=IW aR bE fw af;simp[wY];(with_reducible repeat' first|refine ai ?_|simp);refine bK.next (m.length-(seen.length+1)) Ω ⟨seen++[b],xs++[⟨v,x⟩],HV aR af,(by simp;intro c aw;rcases aw with aw|rfl;exact bE c aw;exact fw),Ψ,by rw[List.filterMap_append,rT,<-gY];simp[ab,zP],by simp[jB],rfl⟩ ⟨by simp[fresh,aC,aB,bP,inObs,Pv.look,gi,Hu],dD (by simp[fresh,aC,aB,bP,inObs,Pv.look,gi,Hu]),dE (by simp[fresh,aC,aB,dt,inObs,Pv.look,gi,Hu]),Ψ⟩
end
section
open Go Go.Pv
theorem Ny:∀(b1 eP mj oa:List T) (m:List (Int×T)),b1.length=eP.length->mtL (b1++mj) (eP++oa) m=if(mtL b1 eP m).1 then mtL mj oa (mtL b1 eP m).2 else mtL b1 eP m
 |[],[],mj,oa,l,_=>by simp[mtL]
 |[],_::_,_,_,_,h=>by simp at h
 |_::_,[],_,_,_,h=>by simp at h
 |p::b1,t::eP,mj,oa,l,h=>by
  by_cases e:(fW p t l).1=true
  ·have ak:mtL (p::b1) (t::eP) l=mtL b1 eP (fW p t l).2:=by simp[mtL,e]
   have aD:mtL (p::b1++mj) (t::eP++oa) l=mtL (b1++mj) (eP++oa) (fW p t l).2:=by simp[mtL,e]
   rw[ak,aD];exact Ny b1 eP mj oa _ (by simpa using h)
  ·have ak:mtL (p::b1) (t::eP) l=(false,(fW p t l).2):=by simp[mtL,e]
   have aD:mtL (p::b1++mj) (t::eP++oa) l=(false,(fW p t l).2):=by simp[mtL,e]
   rw[ak,aD];simp
theorem Xy{u l:List T}(au:u.length=l.length){i:Nat}{x y:T}(ab:u[i]? =some x)(aL:l[i]? =some y)(h:(mtL (u.take i) (l.take i) []).1=true):mtL (u.take (i+1)) (l.take (i+1)) []=fW x y (mtL (u.take i) (l.take i) []).2:=by
 rw[lS,lS,ab,aL];simp only[Option.toList];rw[Ny _ _ _ _ _ d7,h];simp only[if_true,mtL];cases e:fW x y (mtL (u.take i) (l.take i) []).2 with
 |mk q w=>cases q<;>simp
theorem akX{u l:List T}(au:u.length=l.length){i:Nat}(h:(mtL (u.take i) (l.take i) []).1=false):(mtL u l []).1=false:=by have:=Ny (u.take i) (l.take i) (u.drop i) (l.drop i) [] d7;rw[List.take_append_drop,List.take_append_drop,h]at this;rw[this];simp[h]
theorem agU(u l:List T)(au:u.length≠l.length):bC al 88 [.slice 4 .no (u.map T.e),.slice 4 .no (l.map T.e)] (.tuple [.junk,.bool false]):=by have mW:((u.length:Int) !=(l.length:Int))=true:=bne_iff_ne.2 Ω;refine bc hn K0 NP fun aM=>?_;unfold FV;exact bQ
theorem agV(u l:List T)(au:u.length=l.length)(h:(mtL u l []).1=false):bC al 88 [.slice 4 .no (u.map T.e),.slice 4 .no (l.map T.e)] (.tuple [.junk,.bool false]):=by
 have mW:((u.length:Int) !=(l.length:Int))=false:=by rw[bne_eq_false_iff_eq];omega
 refine bc hn K0 NP fun aM=>?_;unfold FV;have ev:u.length<=68719476736:=by simp[eA,eo,et,lim]at aM;omega
 clear aM;simp[mW];(with_reducible repeat' first|refine ai ?_|simp[mW]);refine gA (fun i (_:Unit)=>⟨[(0,.slice 4 .no (u.map T.e)),(1,.slice 4 .no (l.map T.e)),(6,.gmap (.obj 867)),(15,.int .i64 u.length),(16,.int .i64 i)],[(.obj 867,lj (mtL (u.take i) (l.take i) []).2)],[],0,[.obj 867]⟩) u.length (fun i _=>(mtL (u.take i) (l.take i) []).1=true) () (by simp[mtL];exact⟨by simp[fresh,aC,aB,bP,inObs,Pv.look,gi],dD f9,dE gc,Ψ⟩) (by simp[mtL]) (fun _ ae _=>?_) (fun i _ hi ae _=>?_);rotate_left
 ·obtain⟨x,gp⟩:∃y,u[i]? =some y:=⟨_,b6 hi⟩;have l1:∀h,(u[i]'h)=x:=fun h=>by rw[b6 hi]at gp;exact ed gp
  have fO:i<l.length:=au▸hi;obtain⟨y,qa,AR⟩:=eh fO;have cF:=Xy au gp qa ae;have nX:=Uv 867 x y (mtL (u.take i) (l.take i) []).2;rw[<-cF]at nX;clear cF gp qa ae;by_cases e:(mtL (u.take (i+1)) (l.take (i+1)) []).1=true
  ·rw[e]at nX;simp[hi];(with_reducible repeat' first|refine ai ?_|simp[hi,fO,l1,AR]);refine hJ.ob nX (mu 867 _) (mu 867 _) (wo 867 _ _) (by unfold gh;exact aN) (by unfold gh;exact aN) (by simp[inObs,gh]) ?_;unfold gh;simp[cl];(with_reducible repeat' first|refine ai ?_|simp);all_goals refine bK.rng () hi e ⟨by simp[fresh,aC,aB,bP,inObs,Pv.look,gi],dD f9,dE gc,Ψ⟩
  ·rw[Bool.eq_false_iff.2 e]at nX;simp[hi];(with_reducible repeat' first|refine ai ?_|simp[hi,fO,l1,AR]);refine hJ.ob nX (mu 867 _) (mu 867 _) (wo 867 _ _) (by unfold gh;exact aN) (by unfold gh;exact aN) (by simp[inObs,gh]) ?_;unfold gh;simp[cl];exact bQ
 ·rw[je,au,je,h]at ae;cases ae
theorem Uu(u l:List T)(au:u.length=l.length)(ev:u.length<=68719476736)(h:(mtL u l []).1=true):bI al 88 [.slice 4 .no (u.map T.e),.slice 4 .no (l.map T.e)] ⟨[],[]⟩ fun r ah=>r= .tuple [.gmap (.obj 867),.bool true]/\ah=gh 867 (mtL u l []).2:=by
 have mW:((u.length:Int) !=(l.length:Int))=false:=by rw[bne_eq_false_iff_eq];omega
 have ag:dW ⟨[],[]⟩:=(dW.of ⟨by intro m;simp[Pv.look],by intro m;simp[Pv.look]⟩ d8 d8);refine bI.mk mixed hn K0 NP Ψ ag.obj fun aM cR=>?_;unfold FV;simp[mW];(with_reducible repeat' first|refine ai ?_|simp[mW]);refine gA (fun i (_:Unit)=>⟨[(0,.slice 4 .no (u.map T.e)),(1,.slice 4 .no (l.map T.e)),(6,.gmap (.obj 867)),(15,.int .i64 u.length),(16,.int .i64 i)],[(.obj 867,lj (mtL (u.take i) (l.take i) []).2)],[],0,[.obj 867]⟩) u.length (fun i _=>(mtL (u.take i) (l.take i) []).1=true) () (by simp[mtL];exact⟨by simp[fresh,aC,aB,bP,inObs,Pv.look,gi],dD f9,dE gc,Ψ⟩) (by simp[mtL]) (fun _ ae _=>?_) (fun i _ hi ae _=>?_);rotate_left
 ·obtain⟨x,gp⟩:∃y,u[i]? =some y:=⟨_,b6 hi⟩;have l1:∀h,(u[i]'h)=x:=fun h=>by rw[b6 hi]at gp;exact ed gp
  have fO:i<l.length:=au▸hi;obtain⟨y,qa,AR⟩:=eh fO;have cF:=Xy au gp qa ae;have nX:=Uv 867 x y (mtL (u.take i) (l.take i) []).2;rw[<-cF]at nX;clear cF gp qa ae;have e:(mtL (u.take (i+1)) (l.take (i+1)) []).1=true:=by
   cases e:(mtL (u.take (i+1)) (l.take (i+1)) []).1 with
   |true=>rfl
   |false=>rw[akX au e]at h;cases h
  rw[e]at nX;simp[hi];(with_reducible repeat' first|refine ai ?_|simp[hi,fO,l1,AR]);refine hJ.ob nX (mu 867 _) (mu 867 _) (wo 867 _ _) (by unfold gh;exact aN) (by unfold gh;exact aN) (by simp[inObs,gh]) ?_;unfold gh;simp[cl];(with_reducible repeat' first|refine ai ?_|simp);all_goals refine bK.rng () hi e ⟨by simp[fresh,aC,aB,bP,inObs,Pv.look,gi],dD f9,dE gc,Ψ⟩
 ·have e:mtL (u.take u.length) (l.take u.length) []=mtL u l []:=by rw[je,au,je]
  rw[e];clear ae;generalize (mtL u l []).2=m;have ad:=mu 867 m;unfold gh at ad⊢;simp;(with_reducible repeat' first|refine ai ?_|simp);refine cH.new _ (.inl rfl) ad (by simp[lG]) aN aN ?_;simp[cN,Yz,aX,aZ,aW,gh,inObs,Pv.look]
theorem iz.mtL:∀(u eP:List T) {l:List ao},iz l->(∀t∈u,zd t)->iz (en u eP l).2
 |[],_,_,h,_=>by simpa[en]using h
 |_::_,[],_,h,_=>by simpa[en]using h
 |p::u,t::eP,l,h,hu=>by
  have J:=iz.mt p t h (hu p Ψ);simp only[en];split
  ·exact iz.mtL u eP J fun x ab=>hu x (by simp[ab])
  ·exact J
theorem JW:uV [] []:=⟨Jx,fun v=>by simp[jL,cS]⟩
theorem akW{u l:List T}(h:(mtL u l []).1=true)(hu:∀t∈u,zd t):(mtL u l []).2.length<=100001:=by obtain⟨ak,aD⟩:=HP u l JW;have U:=JX (aD (ak▸h)) (HQ u l Ψ);have ar:=(iz.mtL u l iz.nil hu).len;rw[<-U,E2,oh]at ar;exact ar
open Classical in
theorem aas{s:ch}(h:rL s)(hm:nt s.m){x:T}(ab:x.fit=true)(bx:ez s.n x=true):bC al 47 [s.e,.slice 4 .no [x.e]] (.bool true):=by have:=aar s.r (fun _=>hm) [x.tm];rw[gN ⟨⟨s,rfl,h⟩,⟨[x],rfl,by simp[ab],fun t aJ=>by rw[List.mem_singleton.1 aJ];exact bx⟩⟩,E5]at this;simpa[r5]using this
open Classical in
theorem aqk{s:ch}(h:rL s)(hm:nt s.m){x:T}(ab:x.fit=true)(bx:ez s.n x=true)(k:Int):bC al 14 [s.e,x.e,.int .i64 k] (lK (nj s x k)):=by
 have aS:=aas h hm ab bx;have be:=aaa h.1.b h.1.k x ab k;have b8:=PG s h.1.b.len (fun z bz=>(h.1.d z bz).len) (by have:=rv h.1.k;omega) (hm.len h.1.m);unfold nj;by_cases g:(k=2\/k=3)/\(x.ap (bp s.b)).size<=5000
 ·rw[if_pos g]at be;rw[if_pos g];cases hu:jk s.k (x.ap (bp s.b)) k with
  |none=>rw[hu]at be;clear h b8 hu g;obtain⟨n,b,d,bJ,m⟩:=s;simp only[ch.e,fX,lK,Option.bind_none,kv,jN,ir]at aS be⊢;refine bc lO KU NJ fun aM=>?_;unfold FO;exact bQ
  |some l=>rw[hu]at be;obtain⟨G,iI,a7⟩:=hm;have eg:=Jr (h.1.knd ab bx g.1 hu) iI a7;rw[ki];generalize ij {s with k:=l}=O at eg;clear h hu g;obtain⟨n,b,d,bJ,m⟩:=s;simp only[ch.e,fX,lK,jM,oZ]at aS be b8 eg⊢;refine bc lO KU NJ fun aM=>?_;unfold FO;exact bQ
 ·rw[if_neg g];rw[if_neg g]at be;clear h b8 g;obtain⟨n,b,d,bJ,m⟩:=s;simp only[ch.e,fX,lK,Option.bind_none,kv,jN,ir]at aS be⊢;refine bc lO KU NJ fun aM=>?_;unfold FO;exact bQ
open Classical in
theorem aqn{s:ch}(h:rL s)(hm:mo s.m){x:T}(ab:x.fit=true)(bx:ez s.n x=true){g:List dw}(a7:iX g=true):bC al 16 [s.e,x.e,.str g] (lK (np s x g)):=by
 have aS:=aas h hm.w ab bx;have au:=hm.w.len h.1.m;have be:=Z9 h.1.b h.1.m au x ab a7;have b8:=PG s h.1.b.len (fun z bz=>(h.1.d z bz).len) (by have:=rv h.1.k;omega) au;unfold np;by_cases g1:(x.ap (bp s.b)).size<=5000
 ·rw[if_pos g1]at be;rw[if_pos g1];cases hu:j1 s.m (x.ap (bp s.b)) g with
  |none=>rw[hu]at be;clear h b8 hu g1 au hm;obtain⟨n,b,d,bJ,m⟩:=s;simp only[ch.e,ig,lK,Option.bind_none,kv,jN,ir]at aS be⊢;refine bc lO KV NK fun aM=>?_;unfold FP;exact bQ
  |some l=>rw[hu]at be;obtain⟨G,iI,pn⟩:=hm.mrk hu;have eg:=Jr (h.1.mrk ab bx a7 hu) iI pn;rw[ki];generalize ij {s with m:=l}=O at eg;clear h hu g1 au hm;obtain⟨n,b,d,bJ,m⟩:=s;simp only[ch.e,ig,lK,jM,oZ]at aS be b8 eg⊢;refine bc lO KV NK fun aM=>?_;unfold FP;exact bQ
 ·rw[if_neg g1];rw[if_neg g1]at be;clear h b8 g1 au hm;obtain⟨n,b,d,bJ,m⟩:=s;simp only[ch.e,ig,lK,Option.bind_none,kv,jN,ir]at aS be⊢;refine bc lO KV NK fun aM=>?_;unfold FP;exact bQ
theorem rA{f:aI->Option (List aj)}{m:aI}{l:List (Int×T)}{z:aj}{k:Int}(hm:f m=some (lj l)):nn f .i z false (.gmap m) (.int .i64 k)=some (True,((jL k l).map T.e).getD z):=by rw[Nq f m _ z false k hm,JU];cases jL k l<;>rfl
theorem apP{u v:List T}{t:ch}(aJ:o7 v t)(hlen:u.length=v.length)(J:(en u v []).1=true):yr (en u v []).2:=fun b af=>by
 have r:=Nw u v (l:=[]) Jx hlen J;have aF:=r.vals (fun x=>x.ok=true/\x.size<=5000) (fun a b h=>by
  simp only[T.ok,T.size,cy]at h⊢;exact⟨⟨h.1.1,Ω⟩,h.1.2,Ω⟩) (fun x ab=>by
  have aK:=aJ.f x ab;simp only[T.fit,cy,eW]at aK;exact aK) (fun w x e=>by simp[cS]at e) b.v b.t (pY r.asc af)
 simp only[T.fit,cy,eW];exact aF
theorem IM(O:Option ch):∃t2:ch,∃q:Bool,lK O= .tuple [t2.e,.bool q]/\(q=true->O=some t2)/\(q=false->O=none):=by
 cases O with
 |none=>exact⟨ir,false,rfl,(fun h=>by cases h),fun _=>rfl⟩
 |some t=>exact⟨t,true,rfl,fun _=>rfl,(fun h=>by cases h)⟩
theorem ala:T.nil.fit=true:=rfl
theorem ak9(n:Int):ez n .nil=true:=rfl
open Classical in
theorem aqw{u v:List T}{s t:ch}(ag:o7 u s)(aJ:o7 v t)(jn:mo t.m)(l8:u.length<=68719476736)(hlen:u.length=v.length)(J:(en u v []).1=true)(a6:(en u v []).2.length<=400)
  (dv:bC al 24 [(⟨u.map T.tm,s.r⟩:hp).e] (.bool true)) (eR:bC al 24 [(⟨v.map T.tm,t.r⟩:hp).e] (.bool true)):bC al 38 [(⟨u.map T.tm,s.r⟩:hp).e,(⟨v.map T.tm,t.r⟩:hp).e] (.bool (decide (uw u v s t))):=by
 obtain⟨sx,vs⟩:=HP u v JW;have hm:=sx.trans J;have has:=vs J;have oE:=HQ u v (m:=[]) Ψ;have dg:=Uu u v hlen l8 hm;have jR:=ZI ag aJ hlen J;have LF:=apP (u:=u) aJ hlen J;have Dg:∀{R:Bool},decide (uw u v s t)=R->(R=true↔(∀d∈s.d,hx (en u v []).2 d t=none)/\(∀k∈s.k,nj t (bp (en u v []).2 k.v) k.k=some t)/\∀m∈s.m,np t (bp (en u v []).2 m.v) m.s=some t):=fun{R} e=>by rw[<-e,decide_eq_true_iff];exact⟨fun h=>h.2.2.2,fun h=>⟨hlen,J,a6,h⟩⟩
 generalize bn:decide (uw u v s t)=R;have aU:=Dg bn;clear bn Dg sx vs;generalize (en u v []).2=W at a6 jR LF aU has;generalize (mtL u v []).2=m at dg oE has;have Be:=JX has oE;have lC:m.length=W.length:=by rw[<-Be,E2,oh]
 have atk:m.length<=400:=Ω
 have mH:=ahl m Ω oE;rw[Be]at mH;have L0:∀w,0<=w->w<s.n->jL w m=some (bp W w):=fun w br hw=>by obtain⟨x,e,_⟩:=jR.get w br hw;rw[has.look,e];unfold bp;rw[e];rfl
 have vj:=ag.ok.1.dB;have vx:zS t.n t:=⟨aJ.ok,rfl,jn.w⟩;have vg:W.length<=1000000:=Ω
 have UQ:=jR.asc;have yD:∀d∈s.d,d.length<=1000000:=fun d aR=>(ag.ok.1.d d aR).len;have w3:=ag.ok.1.k;have Bb:=ag.ok.1.kb;have dr:=ag.ok.1.m;have Bc:=ag.ok.1.mb;rw[oq]at dv eR⊢;rw[oq];clear ag aJ hlen J a6 hm Be has oE l8;obtain⟨uv,ES,lL,n5,sm⟩:=s;have ai1:t.e= .agg (jc t):=rfl;simp only at aU vj jR w3 Bb dr Bc yD dv L0⊢;refine bc hn Az BM fun aM=>?_;unfold yf;have ev:lL.length<=68719476736/\n5.length<=68719476736/\sm.length<=68719476736:=by simp[eA,eo,et,lim]at aM;omega
 clear aM;obtain⟨mX,fE,L1⟩:=ev;simp;(with_reducible repeat' first|refine ai ?_|refine az dv ?_|refine aA dv ?_|refine az eR ?_|refine aA eR ?_|simp);refine cV.new dg ((dW.of ⟨by intro m;simp[Pv.look],by intro m;simp[Pv.look]⟩ d8 d8)) aN aN Ψ ?_;rintro r ah ⟨rfl,rfl⟩;refine⟨fun m _=>.inr Ψ,?_⟩;have DC:∀f:aI->Option (List aj),f (.obj 867)=some (lj m)->sS f (.gmap (.obj 867))=some (True,.int .i64 m.length):=fun f h=>Xt f _ m h;have L3:¬(400:Int)<m.length:=Ω
 unfold gh;simp[cl,DC];((with_reducible repeat' first|refine ai ?_|simp[DC,L3]|((first|apply bU|apply bY|apply bX)<;>intro h<;>try simp at h))<;>(try exact cz));refine cV.ob mH (mu 867 m) (by unfold gh;exact aN) (by unfold gh;exact aN) (by simp[inObs,gh]) ?_;rintro r ah ⟨rfl,rfl⟩;refine⟨Same.refl _,?_⟩;unfold gh;simp[cl];((with_reducible repeat' first|refine ai ?_|simp|((first|apply bU|apply bY|apply bX)<;>intro h<;>try simp at h))<;>(try exact cz));refine dO [2,3,5,7,55,56] (fun i (_:Unit)=>[(57,.int .i64 i)]) lL.length (fun i _=> ∀(j:Nat) d,j<i->lL[j]? =some d->hx W d t=none) () ⟨by simp[fresh,aC,aB,bP,inObs,Pv.look,gi],dD f9,dE gc,Ψ⟩ (fun j d h=>Ω) (fun _ ae _=>?_) (fun i _ hi ae _=>?_)
 ·have pf:∀d∈lL,hx W d t=none:=fun d aR=>by obtain⟨j,gq⟩:=List.mem_iff_getElem?.1 aR;exact ae j d (eV.1 gq).1 gq
  clear ae yD vj;simp;(with_reducible repeat' first|refine ai ?_|simp);refine dO [2,3,5,108,109] (fun i (_:Unit)=>[(110,.int .i64 i)]) n5.length (fun i _=> ∀(j:Nat) k,j<i->n5[j]? =some k->nj t (bp W k.v) k.k=some t) () ⟨by simp[fresh,aC,aB,bP,inObs,Pv.look,gi],dD f9,dE gc,Ψ⟩ (fun j k h=>Ω) (fun _ ae _=>?_) (fun i _ hi ae _=>?_)
  ·have c5:∀k∈n5,nj t (bp W k.v) k.k=some t:=fun k ad=>by obtain⟨j,gq⟩:=List.mem_iff_getElem?.1 ad;exact ae j k (eV.1 gq).1 gq
   clear ae;simp;(with_reducible repeat' first|refine ai ?_|simp);refine dO [3,5,138,139] (fun i (_:Unit)=>[(140,.int .i64 i)]) sm.length (fun i _=> ∀(j:Nat) m,j<i->sm[j]? =some m->np t (bp W m.v) m.s=some t) () ⟨by simp[fresh,aC,aB,bP,inObs,Pv.look,gi],dD f9,dE gc,Ψ⟩ (fun j k h=>Ω) (fun _ ae _=>?_) (fun i _ hi ae _=>?_)
   ·have ei:∀m∈sm,np t (bp W m.v) m.s=some t:=fun m hm=>by obtain⟨j,gq⟩:=List.mem_iff_getElem?.1 hm;exact ae j m (eV.1 gq).1 gq
    rw[aU.2 ⟨pf,c5,ei⟩];clear ae ei pf c5 aU;simp;(with_reducible repeat' first|refine ai ?_|simp);skip;all_goals simp[bq,rF,aX,aZ,aW]
   ·obtain⟨k,iU⟩:∃y,sm[i]? =some y:=⟨_,b6 hi⟩;have l0:∀h,(sm[i]'h)=k:=fun h=>by rw[b6 hi]at iU;exact ed iU
    have fy:=dV iU;obtain⟨f1,bV⟩:=jR.val (dr.at' k fy).1.1 (Bc k fy);have fE:=L0 k.v (dr.at' k fy).1.1 (Bc k fy);have cT:=aqn vx.ok jn f1 bV (dr.at' k fy).2;have MM:=fun(x:ch) (h:np t (bp W k.v) k.s=some x)=>akT vx.ok.1 f1 bV (dr.at' k fy).2 h;clear pf c5;obtain⟨t2,bo,ak,aD,bh⟩:=IM (np t (bp W k.v) k.s);rw[ak]at cT;have cU:¬(bo=true/\t2=t)->R=false:=fun h=>by
     cases R with
     |false=>rfl
     |true=>
      have U:=(aU.1 rfl).2.2 k fy;cases bo with
      |true=>rw[aD rfl]at U;exact absurd ⟨rfl,ed U⟩ h
      |false=>rw[bh rfl]at U;cases U
    have ef:bo=true/\t2=t->∀(j:Nat) k,j<i+1->sm[j]? =some k->np t (bp W k.v) k.s=some t:=fun h j bJ dj aF=>by
     by_cases qb:j<i
     ·exact ae j bJ qb aF
     ·obtain rfl:j=i:=Ω
      rw[iU]at aF;rw[<-ed aF,aD h.1,h.2]
    have lg:bo=true->bC al 59 [t2.e,t.e] (.bool (decide (t2=t))):=fun h=>by have ar:=MM t2 (aD h);exact PS t2 t ar.1.b.len fun z bz=>(ar.1.d z bz).len
    clear ak aD bh ae aU f1 bV;generalize bp W k.v=ja at cT fE;cases bo with
    |false=>rw[cU fun h=>by cases h.1];clear cU ef lg;simp only[ch.e]at cT;simp[hi,l0,rA (m:= .obj 867) (l:=m),fE];(with_reducible repeat' first|refine ai ?_|refine az cT ?_|refine aA cT ?_|simp[hi,l0,rA (m:= .obj 867) (l:=m),fE]);skip;all_goals simp[bq,rF,aX,aZ,aW]
    |true=>
     have cE:=lg rfl;clear lg;by_cases h:t2=t
     ·rw[gN h]at cE;have ax:=ef ⟨rfl,h⟩;subst h;clear cU ef;simp only[ch.e]at cT cE;simp[hi,l0,rA (m:= .obj 867) (l:=m),fE];(with_reducible repeat' first|refine ai ?_|refine az cT ?_|refine aA cT ?_|refine az cE ?_|refine aA cE ?_|simp[hi,l0,rA (m:= .obj 867) (l:=m),fE]);refine bK.rng () hi ax ?_;exact⟨by simp[fresh,aC,aB,bP,inObs,Pv.look,gi],dD f9,dE gc,Ψ⟩
     ·rw[hQ h]at cE;rw[cU fun cn=>h cn.2];clear cU ef h;simp only[ch.e]at cT cE;simp[hi,l0,rA (m:= .obj 867) (l:=m),fE];(with_reducible repeat' first|refine ai ?_|refine az cT ?_|refine aA cT ?_|refine az cE ?_|refine aA cE ?_|simp[hi,l0,rA (m:= .obj 867) (l:=m),fE]);skip;all_goals simp[bq,rF,aX,aZ,aW]
  ·obtain⟨k,iU⟩:∃y,n5[i]? =some y:=⟨_,b6 hi⟩;have l0:∀h,(n5[i]'h)=k:=fun h=>by rw[b6 hi]at iU;exact ed iU
   have fy:=dV iU;obtain⟨f1,bV⟩:=jR.val (w3.at' k fy).1.1 (Bb k fy);have fE:=L0 k.v (w3.at' k fy).1.1 (Bb k fy);have cT:=aqk vx.ok jn.w f1 bV k.k;have MM:=fun(x:ch) (h:nj t (bp W k.v) k.k=some x)=>aj5 vx.ok.1 f1 bV h;clear pf;obtain⟨t2,bo,ak,aD,bh⟩:=IM (nj t (bp W k.v) k.k);rw[ak]at cT;have cU:¬(bo=true/\t2=t)->R=false:=fun h=>by
    cases R with
    |false=>rfl
    |true=>
     have U:=(aU.1 rfl).2.1 k fy;cases bo with
     |true=>rw[aD rfl]at U;exact absurd ⟨rfl,ed U⟩ h
     |false=>rw[bh rfl]at U;cases U
   have ef:bo=true/\t2=t->∀(j:Nat) k,j<i+1->n5[j]? =some k->nj t (bp W k.v) k.k=some t:=fun h j bJ dj aF=>by
    by_cases qb:j<i
    ·exact ae j bJ qb aF
    ·obtain rfl:j=i:=Ω
     rw[iU]at aF;rw[<-ed aF,aD h.1,h.2]
   have lg:bo=true->bC al 59 [t2.e,t.e] (.bool (decide (t2=t))):=fun h=>by have ar:=MM t2 (aD h);exact PS t2 t ar.1.b.len fun z bz=>(ar.1.d z bz).len
   clear ak aD bh ae aU f1 bV;generalize bp W k.v=ja at cT fE;cases bo with
   |false=>rw[cU fun h=>by cases h.1];clear cU ef lg;simp only[ch.e]at cT;simp[hi,l0,rA (m:= .obj 867) (l:=m),fE];(with_reducible repeat' first|refine ai ?_|refine az cT ?_|refine aA cT ?_|simp[hi,l0,rA (m:= .obj 867) (l:=m),fE]);skip;all_goals simp[bq,rF,aX,aZ,aW]
   |true=>
    have cE:=lg rfl;clear lg;by_cases h:t2=t
    ·rw[gN h]at cE;have ax:=ef ⟨rfl,h⟩;subst h;clear cU ef;simp only[ch.e]at cT cE;simp[hi,l0,rA (m:= .obj 867) (l:=m),fE];(with_reducible repeat' first|refine ai ?_|refine az cT ?_|refine aA cT ?_|refine az cE ?_|refine aA cE ?_|simp[hi,l0,rA (m:= .obj 867) (l:=m),fE]);refine bK.rng () hi ax ?_;exact⟨by simp[fresh,aC,aB,bP,inObs,Pv.look,gi],dD f9,dE gc,Ψ⟩
    ·rw[hQ h]at cE;rw[cU fun cn=>h cn.2];clear cU ef h;simp only[ch.e]at cT cE;simp[hi,l0,rA (m:= .obj 867) (l:=m),fE];(with_reducible repeat' first|refine ai ?_|refine az cT ?_|refine aA cT ?_|refine az cE ?_|refine aA cE ?_|simp[hi,l0,rA (m:= .obj 867) (l:=m),fE]);skip;all_goals simp[bq,rF,aX,aZ,aW]
 ·obtain⟨d,kQ⟩:∃y,lL[i]? =some y:=⟨_,b6 hi⟩;have Dm:∀h,(lL[i]'h)=d:=fun h=>by rw[b6 hi]at kQ;exact ed kQ
  have LM:cO d= .slice 5 .no (d.map ao.e):=rfl;have Dn:=yD d (dV kQ);simp[hi,Dm];(with_reducible repeat' first|refine ai ?_|simp[hi,Dm]);simp[LM];(with_reducible repeat' first|refine ai ?_|simp);refine gA (fun j (a:ch)=>⟨[(2,.ptr (.loc 0) 0),(3,.ptr (.loc 1) 0),(5,.gmap (.obj 867)),(7,.slice 5 .no (W.map ao.e)),(10,.ptr (.loc 2) 0),(11,.bool false),(55,.slice 1 .no (lL.map cO)),(56,.int .i64 lL.length),(57,.int .i64 i),(63,.slice 5 .no (d.map ao.e)),(64,.int .i64 d.length),(65,.int .i64 j)],[(.loc 0,[.slice 4 .no (u.map T.e),.int .i64 uv,.slice 5 .no (ES.map ao.e),.slice 1 .no (lL.map cO),.slice 2 .no (n5.map bN.e),.slice 2 .no (sm.map bj.e)]),(.loc 1,[.slice 4 .no (v.map T.e),.int .i64 t.n,.slice 5 .no (t.b.map ao.e),.slice 1 .no (t.d.map cO),.slice 2 .no (t.k.map bN.e),.slice 2 .no (t.m.map bj.e)]),(.loc 2,jc a),(.obj 867,lj m)],[],3,[.obj 867]⟩) d.length (fun j a=>hx W (d.take j) t=some a) t ⟨by simp[fresh,aC,aB,bP,inObs,Pv.look,jc,gi],dD (by simp[fresh,aC,aB,bP,inObs,Pv.look,jc,gi]),dE (by simp[fresh,aC,aB,dt,inObs,Pv.look,jc,gi]),Ψ⟩ (by simp[hx]) (fun a ad _=>?_) (fun j a dj ad _=>?_)
  ·rw[je]at ad;have:R=false:=by
    cases R with
    |false=>rfl
    |true=>have:=(aU.1 rfl).1 d (dV kQ);rw[ad]at this;cases this
   subst this;clear ad ae aU;simp only[jc];simp;(with_reducible repeat' first|refine ai ?_|simp);skip;all_goals simp[bq,rF,aX,aZ,aW]
  ·obtain⟨x,gp⟩:∃y,d[j]? =some y:=⟨_,b6 dj⟩;have l1:∀h,(d[j]'h)=x:=fun h=>by rw[b6 dj]at gp;exact ed gp
   have ab:=vj d (dV kQ) x (dV gp);obtain⟨⟨f1,bV⟩,fB,b7⟩:=dB.val jR ab;have dU:=kI x.v;have aS:=Cs W (.var x.v) vg UQ LF;have be:=Cs W x.t vg UQ LF;have wE:(bp W x.v).size<=5000:=by simp only[T.fit,cy,eW]at f1;exact f1.2
   rw[show(T.var x.v).ap (bp W)=bp W x.v from rfl,gN wE,if_pos wE]at aS;have cF:=Te gp ad;have aF:=Kw jR (d.take j) (fun y aL=>vj d (dV kQ) y (List.mem_of_mem_take aL)) vx ad;have sA:hx W (d.take (j+1)) t=none->∀(j:Nat) d,j<i+1->lL[j]? =some d->hx W d t=none:=fun br j cd h aF=>by
    by_cases qb:j<i
    ·exact ae j cd qb aF
    ·obtain rfl:j=i:=Ω
     rw[kQ]at aF;rw[<-ed aF];exact Kv br
   by_cases b0:(x.t.ap (bp W)).size<=5000
   ·rw[if_pos ⟨wE,b0⟩]at cF;rw[gN b0,if_pos b0]at be;have f2:(x.t.ap (bp W)).fit=true:=by simp only[T.fit,cy,eW];exact⟨fB,b0⟩
    have cT:=aac aF.ok aF.g f1 f2 (by rw[aF.n];exact bV) (by rw[aF.n];exact b7);obtain⟨t2,bo,ak,aD,bh⟩:=IM (mx a (bp W x.v) (x.t.ap (bp W)));rw[ak]at cT;rw[cF]at sA;have po:bo=true->hx W (d.take (j+1)) t=some t2:=fun h=>by rw[cF];exact aD h
    have vu:=fun h=>sA (bh h);clear cF aF ak aD bh ad ab f1 bV fB b7 f2 ae aU sA;generalize bp W x.v=ja at aS cT;generalize x.t.ap (bp W)=oe at be cT;simp only[ch.e]at cT;simp only[jc];cases bo with
    |true=>have ax:=po rfl;clear po vu;simp[dj,l1];(with_reducible repeat' first|refine ai ?_|refine az dU ?_|refine aA dU ?_|refine az aS ?_|refine aA aS ?_|refine az be ?_|refine aA be ?_|refine az cT ?_|refine aA cT ?_|simp[dj,l1]);refine bK.rng t2 dj ax ?_;exact⟨by simp[fresh,aC,aB,bP,inObs,Pv.look,jc,gi],dD (by simp[fresh,aC,aB,bP,inObs,Pv.look,jc,gi]),dE (by simp[fresh,aC,aB,dt,inObs,Pv.look,jc,gi]),Ψ⟩
    |false=>have ax:=vu rfl;clear po vu;simp[dj,l1];(with_reducible repeat' first|refine ai ?_|refine az dU ?_|refine aA dU ?_|refine az aS ?_|refine aA aS ?_|refine az be ?_|refine aA be ?_|refine az cT ?_|refine aA cT ?_|simp[dj,l1]);refine bK.rng () hi ax ?_;exact⟨by simp[fresh,aC,aB,bP,inObs,Pv.look,gi],dD f9,dE gc,Ψ⟩
   ·rw[if_neg fun h=>b0 h.2]at cF;rw[hQ b0,if_neg b0]at be;have ax:=sA cF;have cT:=aac aF.ok aF.g f1 ala (by rw[aF.n];exact bV) (ak9 _);obtain⟨t2,bo,ak,aD,bh⟩:=IM (mx a (bp W x.v) .nil);rw[ak]at cT;clear cF aF ak aD bh ad ab f1 bV fB b7 ae aU sA;generalize bp W x.v=ja at aS cT;simp only[ch.e]at cT;simp only[jc];simp[dj,l1];(with_reducible repeat' first|refine ai ?_|refine az dU ?_|refine aA dU ?_|refine az aS ?_|refine aA aS ?_|refine az be ?_|refine aA be ?_|refine az cT ?_|refine aA cT ?_|simp[dj,l1]);refine bK.rng () hi ax ?_;exact⟨by simp[fresh,aC,aB,bP,inObs,Pv.look,gi],dD f9,dE gc,Ψ⟩
open Classical in
theorem ard(a b:hp)(vf:hN a.s.m->mo a.s.m)(tP:a.t.length<=1048576)(sl:hN b.s.m->mo b.s.m)(lb:b.t.length<=1048576):bC al 37 [a.e,b.e] (.bool (decide (Ch a b))):=by
 have dv:=aaI a vf tP;have eR:=aaI b sl lb;generalize aU:decide (Ch a b)=R;by_cases pd:uT a;rotate_left
 ·rw[hQ pd]at dv;have:R=false:=by rw[<-aU,fC];rintro⟨u,v,s,t,J,U,ar,_⟩;exact pd ⟨u,s,by rw[J],by rw[J],ar⟩
  clear vf sl tP lb pd;obtain⟨t,n,bV,d,k,m⟩:=a;obtain⟨da,n',b4,cd,bJ,ha⟩:=b;simp only[hp.e]at dv⊢;subst this;clear aU;refine bc hn C0 Eo fun aM=>?_;unfold Al;simp;(with_reducible repeat' first|refine ai ?_|refine az dv ?_|refine aA dv ?_|simp);skip;all_goals simp[bq,sY,aX,aZ,aW]
 by_cases sf:uT b;rotate_left
 ·rw[gN pd]at dv;rw[hQ sf]at eR;have:R=false:=by rw[<-aU,fC];rintro⟨u,v,s,t,J,U,_,ar,_⟩;exact sf ⟨v,t,by rw[U],by rw[U],ar⟩
  clear vf sl tP lb pd sf;obtain⟨t,n,bV,d,k,m⟩:=a;obtain⟨da,n',b4,cd,bJ,ha⟩:=b;simp only[hp.e]at dv eR⊢;subst this;clear aU;refine bc hn C0 Eo fun aM=>?_;unfold Al;simp;(with_reducible repeat' first|refine ai ?_|refine az dv ?_|refine aA dv ?_|refine az eR ?_|refine aA eR ?_|simp);skip;all_goals simp[bq,sY,aX,aZ,aW]
 rw[gN pd]at dv;rw[gN sf]at eR;obtain⟨apZ,ao5⟩:=a;obtain⟨zO,ES⟩:=b;obtain⟨u,s,J,U,ag⟩:=pd;obtain⟨v,t,ar,a6,aJ⟩:=sf;simp only at J U ar a6;subst J U ar a6;have jn:mo t.m:=sl aJ.ok.1.m;have gP:decide (uw u v s t)=R:=by rw[<-aU];exact decide_eq_decide.2 ⟨fun h=>I6.2 ⟨ag,aJ,h⟩,fun h=>(I6.1 h).2.2⟩
 clear aU vf sl tP lb;by_cases hlen:u.length=v.length;rotate_left
 ·have:R=false:=by rw[<-gP,fC];exact fun h=>hlen h.1
  have dg:=aq6 u v hlen;rw[oq]at dv eR⊢;rw[oq];have aU:=gP;clear ag aJ jn hlen gP;subst this;clear aU;refine bc hn C0 Eo fun aM=>?_;unfold Al;simp;(with_reducible repeat' first|refine ai ?_|refine az dv ?_|refine aA dv ?_|refine az eR ?_|refine aA eR ?_|refine az dg ?_|refine aA dg ?_|simp);skip;all_goals simp[bq,sY,aX,aZ,aW]
 have dg:=aaD u v hlen ag.low;by_cases J:(en u v []).1=true/\(en u v []).2.length<=400
 ·rw[<-gP];exact arf ag aJ jn hlen J.1 J.2 dv eR
 ·have:R=false:=by rw[<-gP,fC];exact fun h=>J ⟨h.2.1,h.2.2.1⟩
  have e:((en u v []).1&&decide ((en u v []).2.length<=400))=false:=by rw[Bool.eq_false_iff];intro h;rw[cy,decide_eq_true_iff]at h;exact J h
  rw[e]at dg;generalize (en u v []).2=W at dg;rw[oq]at dv eR⊢;rw[oq];have aU:=gP;clear ag aJ jn hlen gP J e;subst this;clear aU;refine bc hn C0 Eo fun aM=>?_;unfold Al;simp;(with_reducible repeat' first|refine ai ?_|refine az dv ?_|refine aA dv ?_|refine az eR ?_|refine aA eR ?_|refine az dg ?_|refine aA dg ?_|simp);skip;all_goals simp[bq,sY,aX,aZ,aW]
open Classical in
theorem aqv(a b:hp)(vf:hN a.s.m->mo a.s.m)(tP:a.t.length<=1048576)(sl:hN b.s.m->mo b.s.m)(lb:b.t.length<=1048576):bC al 38 [a.e,b.e] (.bool (decide (Ch a b))):=by
 have dv:=aab a vf tP;have eR:=aab b sl lb;generalize aU:decide (Ch a b)=R;by_cases pd:uT a;rotate_left
 ·rw[hQ pd]at dv;have:R=false:=by rw[<-aU,fC];rintro⟨u,v,s,t,J,U,ar,_⟩;exact pd ⟨u,s,by rw[J],by rw[J],ar⟩
  clear vf sl tP lb pd;obtain⟨t,n,bV,d,k,m⟩:=a;obtain⟨da,n',b4,cd,bJ,ha⟩:=b;simp only[hp.e]at dv⊢;subst this;clear aU;refine bc hn Az BM fun aM=>?_;unfold yf;simp;(with_reducible repeat' first|refine ai ?_|refine az dv ?_|refine aA dv ?_|simp);skip;all_goals simp[bq,rF,aX,aZ,aW]
 by_cases sf:uT b;rotate_left
 ·rw[gN pd]at dv;rw[hQ sf]at eR;have:R=false:=by rw[<-aU,fC];rintro⟨u,v,s,t,J,U,_,ar,_⟩;exact sf ⟨v,t,by rw[U],by rw[U],ar⟩
  clear vf sl tP lb pd sf;obtain⟨t,n,bV,d,k,m⟩:=a;obtain⟨da,n',b4,cd,bJ,ha⟩:=b;simp only[hp.e]at dv eR⊢;subst this;clear aU;refine bc hn Az BM fun aM=>?_;unfold yf;simp;(with_reducible repeat' first|refine ai ?_|refine az dv ?_|refine aA dv ?_|refine az eR ?_|refine aA eR ?_|simp);skip;all_goals simp[bq,rF,aX,aZ,aW]
 rw[gN pd]at dv;rw[gN sf]at eR;obtain⟨apZ,ao5⟩:=a;obtain⟨zO,ES⟩:=b;obtain⟨u,s,J,U,ag⟩:=pd;obtain⟨v,t,ar,a6,aJ⟩:=sf;simp only at J U ar a6;subst J U ar a6;have jn:mo t.m:=sl aJ.ok.1.m;have l8:u.length<=68719476736:=by rw[oh]at tP;omega
 have gP:decide (uw u v s t)=R:=by rw[<-aU];exact decide_eq_decide.2 ⟨fun h=>I6.2 ⟨ag,aJ,h⟩,fun h=>(I6.1 h).2.2⟩
 clear aU vf sl tP lb;by_cases hlen:u.length=v.length;rotate_left
 ·have:R=false:=by rw[<-gP,fC];exact fun h=>hlen h.1
  have dg:=agU u v hlen;rw[oq]at dv eR⊢;rw[oq];have aU:=gP;clear ag aJ jn hlen gP l8;subst this;clear aU;refine bc hn Az BM fun aM=>?_;unfold yf;simp;(with_reducible repeat' first|refine ai ?_|refine az dv ?_|refine aA dv ?_|refine az eR ?_|refine aA eR ?_|refine az dg ?_|refine aA dg ?_|simp);skip;all_goals simp[bq,rF,aX,aZ,aW]
 obtain⟨sx,vs⟩:=HP u v JW;cases J:(en u v []).1 with
 |false=>
  have dg:=agV u v hlen (sx.trans J);have:R=false:=by rw[<-gP,fC];intro h;have:=h.2.1;rw[J]at this;cases this
  rw[oq]at dv eR⊢;rw[oq];have aU:=gP;clear ag aJ jn hlen gP l8 sx vs J;subst this;clear aU;refine bc hn Az BM fun aM=>?_;unfold yf;simp;(with_reducible repeat' first|refine ai ?_|refine az dv ?_|refine aA dv ?_|refine az eR ?_|refine aA eR ?_|refine az dg ?_|refine aA dg ?_|simp);skip;all_goals simp[bq,rF,aX,aZ,aW]
 |true=>
  by_cases a6:(en u v []).2.length<=400
  ·rw[<-gP];exact aqw ag aJ jn l8 hlen J a6 dv eR
  ·have:R=false:=by rw[<-gP,fC];exact fun h=>a6 h.2.2.1
   have dg:=Uu u v hlen l8 (sx.trans J);have Be:=JX (vs J) (HQ u v (m:=[]) Ψ);have lC:400<(mtL u v []).2.length:=by
    have:(mtL u v []).2.length=(en u v []).2.length:=by rw[<-Be,E2,oh]
    omega
   have ait:(mtL u v []).2.length<=100001:=akW (sx.trans J) ag.low;generalize (mtL u v []).2=m at dg lC ait;rw[oq]at dv eR⊢;rw[oq];subst this;clear ag aJ jn hlen gP l8 sx vs J a6 Be;refine bc hn Az BM fun aM=>?_;unfold yf;simp;(with_reducible repeat' first|refine ai ?_|refine az dv ?_|refine aA dv ?_|refine az eR ?_|refine aA eR ?_|simp);refine cV.new dg ((dW.of ⟨by intro m;simp[Pv.look],by intro m;simp[Pv.look]⟩ d8 d8)) aN aN Ψ ?_;rintro r ah ⟨rfl,rfl⟩;refine⟨fun m _=>.inr Ψ,?_⟩;have DC:∀f:aI->Option (List aj),f (.obj 867)=some (lj m)->sS f (.gmap (.obj 867))=some (True,.int .i64 m.length):=fun f h=>Xt f _ m h;have L3:(400:Int)<m.length:=Ω
   unfold gh;simp[cl,DC];(with_reducible repeat' first|refine ai ?_|simp[DC,L3]);skip;all_goals simp[bq,rF,aX,aZ,aW]
theorem Yb(w:Nat)(t:z7)(l r:List aj):gr (.slice w t l::r)=true:=rfl
open Classical in
theorem aqj(a:nA)(hw:a.wf)(b:nA)(af:b.wf):bC al 8 [a.e,b.e] (.bool true):=by
 have aS:=aaL a hw 1048576 Ω Ω;have bn:=ZL a 1048576 Ω;by_cases g:pI a 1048576<0
 ·generalize pI a 1048576=q at aS g;clear hw bn af;obtain⟨t,n,bV,d,k,l⟩:=a;obtain⟨da,n',b4,cd,bJ,a1⟩:=b;simp only[nA.e]at aS⊢;refine bc hn K3 NS fun aM=>?_;unfold FY;simp[-gr];(with_reducible repeat' first|refine ai ?_|refine az aS ?_|refine aA aS ?_|simp[g,-gr]);all_goals simp[bq,Ot,aX,aZ,aW]
 obtain⟨r,rfl,ei⟩:=ZN (m:=1048576) hw Ω Ω Ω;clear hw;have au:=ZM (m:=1048576) r Ω;rw[QB]at aS⊢;generalize pI r.h 1048576=q at aS g bn;have be:=aaL b af q Ω Ω;have j7:=ZL b q Ω;by_cases g2:pI b q<0
 ·generalize pI b q=bo at be g2;clear bn j7 ei au af;obtain⟨t,n,bV,d,k,l⟩:=r;obtain⟨da,n',b4,cd,bJ,a1⟩:=b;simp only[hp.e,nA.e]at aS be⊢;refine bc hn K3 NS fun aM=>?_;unfold FY;simp[-gr,Yb];(with_reducible repeat' first|refine ai ?_|refine az aS ?_|refine aA aS ?_|refine az be ?_|refine aA be ?_|simp[g,g2,-gr,Yb]);all_goals simp[bq,Ot,aX,aZ,aW]
 obtain⟨eH,rfl,LA⟩:=ZN (m:=q) af Ω Ω Ω;clear af;have nR:=ZM (m:=q) eH Ω;rw[QB]at be⊢;generalize pI eH.h q=bo at be g2;have t1:=aaQ r;have t2:=aaQ eH;have s1:=ard r eH ei au LA Ω;have i1:=aqv r eH ei au LA Ω;have ak:=aam r;have aD:=aam eH;generalize decide (Ch r eH)=Q at s1 i1;clear bn j7 ei au LA nR;obtain⟨t,n,b,d,k,l⟩:=r;obtain⟨da,n',b4,cd,bJ,a1⟩:=eH;simp only[hp.e]at aS t1 be t2 s1 i1 ak aD⊢;refine bc hn K3 NS fun aM=>?_;unfold FY;have WO:=t1;exact bQ
end
section
open Go Go.Pv Go.ChangeShapes Go.WideShapes Go.ChangeAt Go.RowKit Go.Deep
theorem acn:al.cellsOf 51=6:=by kernel_rfl
theorem akb{α:Type}:∀{cs:List α},cs.length=6->∃a b c d e f,cs=[a,b,c,d,e,f]
 |[a,b,c,d,e,f],_=>⟨a,b,c,d,e,f,rfl⟩
section
variable {H:Type} {enc:gu×Value->H} {W:World} {spare:Nat->Bool} {held:Bool} {cs:List Value} {x:DataW H×List MemPlace} {fuel:Nat}
theorem ap2(h:iC enc al W 0 spare held fuel 43 cs=some x):∃d:c4 cq,d.wf (fun t=>t.wf)/\∃v,cs=[v]/\um W (rP d) v:=Cf cq.e cq.wf Tryz.underlying43 Gb Ω (fun n' cs' Fm ax cn=>by obtain⟨t,t1,t2⟩:=ZX _ _ _ cn;exact⟨t,t1,by rw[cq.e_eq];exact zz t2⟩) h
theorem abJ(h:iC enc al W 0 spare held fuel 51 cs=some x):∃a:nA,a.wf/\reads W a.e cs:=by
 obtain⟨xs,n,rfl,_,hlen,jB,aK⟩:=DataW.trod_struct Tryz.underlying51 h;rw[acn]at hlen;obtain⟨iw,bM,cp,dc,h2,kM,rfl⟩:=akb hlen;have DU:xs.length=2:=jB;have f0:iC enc al W 0 spare held n 43 (([iw,bM,cp,dc,h2,kM].drop 0).take (al.cellsOf 43))=xs[0]?:=aK 0 _ rfl;have f1:iC enc al W 0 spare held n 49 (([iw,bM,cp,dc,h2,kM].drop 1).take (al.cellsOf 49))=xs[1]?:=aK 1 _ rfl;simp only[Tl,Tj,ny,ku]at f0 f1;rw[b6 Ω]at f0 f1;obtain⟨l,w0,v0,fp,r0⟩:=ap2 f0;obtain⟨s,ej,u,hu,aO,ay⟩:=apG f1;simp only[oW,and_true]at fp;subst fp;simp only[oo.e,bd]at aO;obtain⟨us,rfl,aO⟩:=aO;have sE:us.toList=[bM,cp,dc,h2,kM]:=by simpa[pP]using hu
 rw[sE]at aO;refine⟨⟨l,s⟩,⟨w0,ej⟩,zz ?_⟩;rw[dd];exact⟨_,_,rfl,⟨r0.1,r0.2.1⟩,aO⟩
end
theorem Qz{H:Type}{enc:gu×Value->H}{W:World}{spare:Nat->Bool}{held:Bool}{us:Array Value}{x:DataW H×List MemPlace}{fuel:Nat}(h:iC enc al W 0 spare held fuel 51 us.toList=some x):∃r:nA,r.wf/\bd W (r6 W) r.e (.agg us):=by obtain⟨r,aO,aiQ⟩:=abJ h;exact⟨r,aO,aoO aiQ⟩
end
end Go.Proofs.YtohaalphocaebaaGreat
