/- HaveKind, exact. -/
import Derived.Test.YtahlgcidhnjlbaaGreatProg
import Derived.Test.YtahlgcidhnjlbaaGreatE7
set_option linter.all false
set_option maxHeartbeats 4000000
set_option maxRecDepth 4000
open Bool renaming and_eq_true->cQ
open Go renaming Program->cI
open Go.IntKind renaming i64->vn
open Go.IntWalk renaming i64_in->pt
open Go.Proofs.Tryz renaming f11->lF,prog->au
open Go.Proofs.YtahlgcidhnjlbaaGreat.Rows renaming fnExactHaveKindRow->kC,fnExactHaveKindSpec->uc
open List renaming all_eq_true->j6,drop_eq_getElem_cons->lG,getElem?_append_right->vo,getElem?_eq_getElem->cl,getElem?_eq_some_iff->fH,length_cons->mV,map_cons->gY,mem_cons->gI,mem_map->gZ,mem_of_getElem?->ft,take_length->jA,take_of_length_le->iv
open Nat renaming le_refl->dO,mul_le_mul_right->rT
open Option renaming bind_eq_some_iff->mX,bind_some->lH,getD_none->k5,getD_some->lI,isSome_iff_exists->fx,isSome_none->kf,isSome_some->rU
open Option.some renaming inj->e6
open _root_ renaming False->eu,Option->bd,UInt8->cS,and_true->jd,decide_eq_false->mv,decide_eq_true->lJ,eq_true->h2
namespace Go.Proofs.YtahlgcidhnjlbaaGreat
section
open Go
set_option maxRecDepth 100000 in
def aeZ:joinedFacts au 11 lF uc kC=true:=(jh (jh (jh (jh (jh (jh (jh (jh (jh (jh (jh (jh (jh (jh (jh (jh (jh (jh (jh (jh (jh (jh (jh (jh (jh (jh (jh (jh (jh (jh (jh aet aeu) aeF) aeQ) aeT) aeU) aeV) aeW) aeX) aeY) aev) aew) aex) aey) aez) aeA) aeB) aeC) aeD) aeE) aeG) aeH) aeI) aeJ) aeK) aeL) aeM) aeN) aeO) aeP) aeR) aeS)
end
end Go.Proofs.YtahlgcidhnjlbaaGreat
namespace Go.Pv
section
open Go Go.RowKit
def lA{ε:Nat->Nat}{b sz:Nat}{t:jF}:∀{xs:List af},xs≠[]->dQ ε b (.slice sz t xs)=(.obj b,⟨xs.length,ε b,sz,some (fK (b+1) xs)⟩)::gN ε (b+1) xs
 |[],h=>absurd rfl h
 |_::_,_=>rfl
def uz{b sz:Nat}{t:jF}:∀{xs:List af},xs≠[]->dv b (.slice sz t xs)= .row sz (.obj b) xs.length
 |[],h=>absurd rfl h
 |_::_,_=>rfl
def yX{b sz:Nat}{t:jF}:∀{xs ys:List af},xs.length=ys.length->dv b (.slice sz t xs)=dv b (.slice sz t ys)
 |[],[],_=>rfl
 |[],_::_,h=>by simp at h
 |_::_,[],h=>by simp at h
 |_::xs,_::ys,h=>by simp only[dv];simp at h;rw[h]
def uy{b:Nat}{l r:List af}{x:af}{i:Nat}(hi:l.length=i):(fK b (l++x::r))[i]? =some (dv (b+da l) x):=by subst hi;rw[AZ,vo (by rw[o6];exact dO _)];simp[o6,fK]
def Ha{b:Nat}{l r:List af}{x x':af}{i:Nat}(hi:l.length=i)(aw:bE x'=bE x):(fK b (l++x::r)).set i (dv (b+da l) x')=fK b (l++x'::r):=by subst hi;rw[AZ,AZ,List.set_append_right _ _ (by rw[o6];exact dO _)];simp[o6,fK,aw]
def YL(c8:Int->List cS)(l:List af)(x:af)(k:Int):bD c8 (l++[x]) k=((bD c8 l k).1++[(dJ c8 x (bD c8 l k).2).1],(dJ c8 x (bD c8 l k).2).2):=by rw[IN];simp[bD]
def amS(c8:Int->List cS)(l:List af)(k:Int)(i:Nat):(bD c8 (l.take i) k).2<=(bD c8 l k).2:=by have h:=IN c8 (l.take i) (l.drop i) k;rw[List.take_append_drop]at h;rw[h];exact mm c8 _ _
def k1(c8:Int->List cS)(l:List af)(k:Int)(i:Nat):List af:=(bD c8 (l.take i) k).1++l.drop i
def EZ(c8:Int->List cS)(l:List af)(k:Int):k1 c8 l k 0=l:=by simp[k1,bD]
def p3(c8:Int->List cS)(l:List af)(k:Int):k1 c8 l k l.length=(bD c8 l k).1:=by simp[k1]
def n7(c8:Int->List cS)(l:List af)(k:Int)(i:Nat):(k1 c8 l k i).length=l.length:=by simp[k1,kK];omega
def YI(c8:Int->List cS)(l:List af)(k:Int)(i:Nat):da (k1 c8 l k i)=da l:=by unfold k1;rw[Lw,mA,<-Lw,List.take_append_drop]
def YJ(c8:Int->List cS){l:List af}(k:Int)(i:Nat)(h:dX l):dX (k1 c8 l k i):=by rw[<-List.take_append_drop i l,LH]at h;unfold k1;rw[LH];exact⟨q8 c8 _ _ h.1,h.2⟩
def EX(c8:Int->List cS){l:List af}(k:Int){i:Nat}{x:af}(h:l[i]? =some x):k1 c8 l k i=(bD c8 (l.take i) k).1++x::l.drop (i+1):=by unfold k1;congr 1;obtain⟨hi,e⟩:=fH.1 h;rw[lG hi,e]
def EY(c8:Int->List cS){l:List af}(k:Int){i:Nat}{x:af}(h:l[i]? =some x):k1 c8 l k (i+1)=(bD c8 (l.take i) k).1++(dJ c8 x (bD c8 (l.take i) k).2).1::l.drop (i+1):=by
 unfold k1;have:l.take (i+1)=l.take i++[x]:=by rw[List.take_add_one,h];rfl
 rw[this,YL];simp
def E0(c8:Int->List cS){l:List af}(k:Int){i:Nat}{x:af}(h:l[i]? =some x):(bD c8 l k).1=(bD c8 (l.take i) k).1++(dJ c8 x (bD c8 (l.take i) k).2).1::(bD c8 (l.drop (i+1)) (dJ c8 x (bD c8 (l.take i) k).2).2).1:=by
 obtain⟨hi,e⟩:=fH.1 h;have J:l=l.take i++x::l.drop (i+1):=by rw[<-e,<-lG hi,List.take_append_drop]
 have U:=IN c8 (l.take i) (x::l.drop (i+1)) k;rw[<-J]at U;rw[U];simp only[bD]
def amR(c8:Int->List cS){l:List af}(k:Int){i:Nat}{x:af}(h:l[i]? =some x):(bD c8 (l.take (i+1)) k).2=(dJ c8 x (bD c8 (l.take i) k).2).2:=by
 have:l.take (i+1)=l.take i++[x]:=by rw[List.take_add_one,h];rfl
 rw[this,YL]
def wy(c8:Int->List cS):∀{xs:List af} (k:Int),(∀x∈xs,∃b a cs,x= .agg (.int b a::cs))->k+xs.length<=(bD c8 xs k).2
 |[],k,_=>by simp[bD]
 |x::xs,k,h=>by
  obtain⟨b,a,cs,rfl⟩:=h x Ψ;have J:=wy c8 (xs:=xs) (dJ c8 (.agg (.int b a::cs)) k).2 fun y c=>h y (by simp[c]);have U:k+1<=(dJ c8 (.agg (.int b a::cs)) k).2:=by simp only[dJ,bD];exact mm c8 cs (k+1)
  simp only[bD,mV];omega
def AY:∀{l:List af},dX l↔∀x∈l,cN x
 |[]=>by simp[dX]
 |x::l=>by simp[dX,AY (l:=l)]
def ma{sz:Nat}{t:jF}:∀{xs ys:List af},xs.length=ys.length->da xs=da ys->bE (.slice sz t xs)=bE (.slice sz t ys)
 |[],[],_,_=>rfl
 |[],_::_,h,_=>by simp at h
 |_::_,[],h,_=>by simp at h
 |_::_,_::_,_,h=>by simp only[bE,da]at h⊢;omega
@[simp]def CP{b sz:Nat}{t:jF}:∀{xs:List af},b5 (dv b (.slice sz t xs))=dv b (.slice sz t xs)
 |[]=>rfl
 |_::_=>rfl
def afj{b:Nat}{l r:List af}{x x':af}(he:dv (b+da l) x'=dv (b+da l) x)(aw:bE x'=bE x):fK b (l++x'::r)=fK b (l++x::r):=by rw[AZ,AZ];simp only[fK,he,aw]
@[simp]def abF{b sz:Nat}{t:jF}:∀{xs:List af},eT (dv b (.slice sz t xs))=true
 |[]=>rfl
 |_::_=>rfl
@[simp]def T2{b sz:Nat}{t:jF}:∀{xs:List af},cells (dv b (.slice sz t xs))=[dv b (.slice sz t xs)]
 |[]=>rfl
 |_::_=>rfl
@[simp]def awO{ε:Nat->Nat}{b m:Nat}{p:af}(x:dW):((aB.loc m,x)∈dQ ε b p)=eu:=eq_false fun h=>by have:=uZ h;rw[(KB ε b p).2 m]at this;cases this
def gn.to{ε:Nat->Nat}{b:Nat}{p c:af}{st:bp}{t':List (Nat×af)}(f:cN p)(aw:bE p=bE c)(e:∀x∈t',get x.1 st.t=x.2/\az (rng b (b+bE c)) x.2)(he:∀k o,ae k (dQ ε b p)=some o->ae k st.e=some o):
  gn (cK (c1 ε b c)) st ⟨t',[],dQ ε b p,0,cK (c1 ε b c)⟩:=by
 have dF:∀k,rng b (b+bE c) k->¬fresh 0 (cK (c1 ε b c)) k:=fun k a g=>g.2 (ady.2 a);refine⟨fun x d=>⟨(e x d).1,tE dF _ (e x d).2⟩,fun k cs a=>by simp[ae]at a,fun k o a=>⟨he k o a,dF k ?_,EL dF ?_⟩,fun m hm=>hm⟩
 ·rw[<-aw];exact u1 ε p b k o a
 ·rw[<-aw];exact N4 p b f k o a
def u4(c8:Int->List cS){l:List af}(k:Int){i:Nat}(hi:i<l.length):∃x,l[i]? =some x/\x∈l/\k<=(bD c8 (l.take i) k).2/\(dJ c8 x (bD c8 (l.take i) k).2).2<=(bD c8 l k).2/\(bD c8 (l.take (i+1)) k).2=(dJ c8 x (bD c8 (l.take i) k).2).2/\(bD c8 (l.take i) k).1.length=i:=by have h:l[i]? =some l[i]:=cl hi;have e:=amR c8 k h;have U:=amS c8 l k (i+1);rw[e]at U;exact⟨_,h,ft h,mm _ _ _,U,e,by rw[kK];simp;omega⟩
def IP(c8:Int->List cS){l:List af}(k:Int){sz:Nat}(ε:Nat->Nat)(b:Nat)(c:dX l)(a:0<sz)(d:¬l=[]):ez (c1 ε b (.slice sz .no l))/\(∀i,bE (.slice sz .no (k1 c8 l k i))=bE (.slice sz .no l))/\(∀i,cN (.slice sz .no (k1 c8 l k i)))/\rng b (b+bE (.slice sz .no l)) (.obj b):=⟨oo ⟨a,c⟩,fun i=>ma (n7 ..) (YI ..),fun i=>⟨a,YJ _ _ _ c⟩,b,rfl,dO _,by cases l with|nil=>exact absurd rfl d|cons x xs=>simp only[bE];omega⟩
def HF(c8:Int->List cS){l:List af}(k:Int){sz:Nat}(ε:Nat->Nat)(b:Nat)(f:dX l)(d:0<sz)(c:¬l=[]):cN (.slice sz .no (bD c8 l k).1)/\ez (c1 ε b (.slice sz .no (bD c8 l k).1))/\(bD c8 l k).1.length=l.length/\(bD c8 l k).1≠[]/\rng b (b+bE (.slice sz .no (bD c8 l k).1)) (.obj b):=by
 have J:cN (.slice sz .no (bD c8 l k).1):=⟨d,q8 _ _ _ f⟩;have U:(bD c8 l k).1.length=l.length:=kK ..;have a:(bD c8 l k).1≠[]:=fun e=>c (List.length_eq_zero_iff.1 (by rw[<-U,e];rfl));refine⟨J,oo J,U,a,b,rfl,dO _,?_⟩;revert a;cases (bD c8 l k).1 with
 |nil=>exact fun h=>absurd rfl h
 |cons x xs=>intro _;simp only[bE];omega
def CallDo.subR{P:cI}{n:Nat}{args:List af}{st:bp}{d:bd Nat}{K:bp->Prop}{ε:Nat->Nat}{b:Nat}{l r:List af}{y y' g:af}{O:dW}(t:cN y)(aw:bE y'=bE y)
  (u:bG P n args (c1 ε (b+1+da l) y) fun j s=>j=g/\s=c1 ε (b+1+da l) y') {Z:List af} (f:Z=l++y::r) (he:st.e=(.obj b,O)::gN ε (b+1) Z) (c:aH (rng (b+1+da l) (b+1+da l+bE y)) args)
  (h:∀a,ae (.obj b) a=some O->(∀k o,ae k (gN ε (b+1) (l++y'::r))=some o->ae k a=some o)->K ⟨e5 d g st.t,st.b,a,st.n,st.o++cK (c1 ε (b+1+da l) y')⟩):CallDo P n args st d K:=by
 subst f;refine CallDo.sub t aw u (fun k o c=>?_) c fun a q hu=>h a ?_ q
 ·obtain⟨m,rfl,i,p⟩:=B0 _ _ _ _ _ c;rw[he];simp only[ae];rw[if_neg d6];exact c
 ·rw[hu (.obj b) (fun⟨m,e,i,p⟩=>by cases e;omega),he];simp[ae]
end
end Go.Pv
namespace Go.Proofs.YtahlgcidhnjlbaaGreat
section
open Go Go.Pv
def SU:C:=(aa [cZ 2 0,bP 4 0] (aa [aF 5 3 1 2,ay 6 1 5,I 7 1,cb 8 24 6 7,I 1 8] (aa [I 9 1,I 4 9] .ret)))
def Ld:C:=(aa [bP 4 0] (.seq (aa [bP 5 0] (.block 0 (.loop (.seq (aa [I 6 5,I 7 0,cw 8 7,bu 9 .lss 6 8] (aW 9 .skip (.exit 0))) (.seq (.block 1 (aa [I 12 0,I 13 5,I 14 1,ck 15 4 12 13,aF 16 0 1 15,bV 1 16 14] (aa [I 17 1,aV 18 .add 17 1,I 1 18] (aa [I 19 0,I 20 5,I 21 1,ck 22 4 19 20,aF 23 1 1 22,bV 1 23 21] (aa [I 24 1,aV 25 .add 24 1,I 1 25] (aa [I 26 0,I 27 5,I 28 1,c0 29 71 28,ck 30 4 26 27,aF 31 2 1 30,bV 1 31 29] (aa [I 32 1,aV 33 .add 32 1,I 1 33] (.region [I 34 0,I 35 5,ck 36 4 34 35,aF 37 3 1 36,ay 38 1 37,I 39 1,cb 40 24 38 39,I 1 40])))))))) (.region [I 10 5,aV 11 .add 10 1,I 5 11])))))) (aa [I 41 1,I 4 41] .ret)))
def K8:C:=(aa [bP 4 0] (.seq (aa [bP 5 0] (.block 0 (.loop (.seq (aa [I 6 5,I 7 0,cw 8 7,bu 9 .lss 6 8] (aW 9 .skip (.exit 0))) (.seq (.block 1 (.seq (aa [I 12 0,I 13 5,ck 14 4 12 13,aF 15 0 1 14,ay 16 1 15,I 17 1,bu 18 .neq 16 17] (aW 18 (aa [bP 4 (-1)] .ret) .skip)) (aa [I 19 1,aV 20 .add 19 1,I 1 20] (.seq (aa [I 21 0,I 22 5,ck 23 4 21 22,aF 24 1 1 23,ay 25 1 24,I 26 1,bu 27 .neq 25 26] (aW 27 (aa [bP 4 (-1)] .ret) .skip)) (aa [I 28 1,aV 29 .add 28 1,I 1 29] (.seq (.seq (.drawn true 50 [I 30 0,I 31 5,ck 32 4 30 31,aF 33 2 1 32,ay 34 1 33,I 35 1,c0 36 71 35,bu 37 .neq 34 36]) (aW 37 (aa [bP 4 (-1)] .ret) .skip)) (aa [I 38 1,aV 39 .add 38 1,I 1 39] (aa [I 40 0,I 41 5,ck 42 4 40 41,aF 43 3 1 42,ay 44 1 43,I 45 1,cb 46 25 44 45,I 1 46] (aa [I 47 1,aV 48 .lss 47 0] (aW 48 (aa [bP 4 (-1)] .ret) .skip)))))))))) (.region [I 10 5,aV 11 .add 10 1,I 5 11])))))) (aa [I 49 1,I 4 49] .ret)))
def SR:C:=(aa [cZ 2 0,bP 4 0] (aa [aF 5 1 1 2,ay 6 1 5,I 7 1,cb 8 106 6 7,I 1 8] (aa [aF 9 2 1 2,ay 10 1 9,I 11 1,cb 12 107 10 11,I 1 12] (aa [aF 13 3 1 2,ay 14 1 13,I 15 1,cb 16 108 14 15,I 1 16] (aa [aF 17 4 1 2,ay 18 1 17,I 19 1,cb 20 109 18 19,I 1 20] (aa [I 21 1,I 4 21] .ret))))))
def SQ:C:=(aa [cZ 2 0,bP 4 0] (aa [aF 5 1 1 2,ay 6 1 5,I 7 1,cb 8 110 6 7,I 1 8] (.seq (aa [I 9 1,aV 10 .lss 9 0] (aW 10 (aa [bP 4 (-1)] .ret) .skip)) (aa [aF 11 2 1 2,ay 12 1 11,I 13 1,cb 14 111 12 13,I 1 14] (.seq (aa [I 15 1,aV 16 .lss 15 0] (aW 16 (aa [bP 4 (-1)] .ret) .skip)) (aa [aF 17 3 1 2,ay 18 1 17,I 19 1,cb 20 112 18 19,I 1 20] (.seq (aa [I 21 1,aV 22 .lss 21 0] (aW 22 (aa [bP 4 (-1)] .ret) .skip)) (aa [aF 23 4 1 2,ay 24 1 23,I 25 1,cb 26 113 24 25,I 1 26] (.seq (aa [I 27 1,aV 28 .lss 27 0] (aW 28 (aa [bP 4 (-1)] .ret) .skip)) (aa [I 29 1,I 4 29] .ret))))))))))
def Le:C:=(aa [cd 2 (.mov (.c (.str [])))] (.seq (aa [I 4 0,aV 5 .leq 4 0] (aW 5 (aa [cd 2 (.mov (.c (.str [109,48])))] .ret) .skip)) (aa [cd 3 (.mov (.c (.str [])))] (.seq (.block 0 (.loop (.seq (aa [I 6 0,aV 7 .gtr 6 0] (aW 7 .skip (.exit 0))) (.block 1 (aa [I 8 0,aV 9 .rem 8 10,cd 10 (.bin .add false (gX 48) (.t 9)),cd 11 (.conv .u8 (.t 10)),fe 12 1 5 [.t 11],cd 13 (.b2s (.t 12)),I 14 3,bu 15 .add 13 14,I 3 15] (.region [I 16 0,aV 17 .quo 16 10,I 0 17])))))) (aa [I 18 3,cd 19 (.bin .add false (.c (.str [109])) (.t 18)),I 2 19] .ret)))))
def La:C:=(aa [bP 4 0] (.seq (aa [bP 5 0] (.block 0 (.loop (.seq (aa [I 6 5,I 7 0,cw 8 7,bu 9 .lss 6 8] (aW 9 .skip (.exit 0))) (.seq (.block 1 (aa [I 12 0,I 13 5,I 14 1,ck 15 5 12 13,aF 16 0 1 15,bV 1 16 14] (aa [I 17 1,aV 18 .add 17 1,I 1 18] (aa [I 19 0,I 20 5,I 21 1,ck 22 5 19 20,hp 23 1 4 22,aF 24 0 1 23,bV 1 24 21] (aa [I 25 1,aV 26 .add 25 1,I 1 26] (aa [I 27 0,I 28 5,I 29 1,ck 30 5 27 28,hp 31 1 4 30,aF 32 1 1 31,bV 1 32 29] (aa [I 33 1,aV 34 .add 33 1,I 1 34] (aa [I 35 0,I 36 5,I 37 1,c0 38 71 37,ck 39 5 35 36,hp 40 1 4 39,aF 41 2 1 40,bV 1 41 38] (aa [I 42 1,aV 43 .add 42 1,I 1 43] (.region [I 44 0,I 45 5,ck 46 5 44 45,hp 47 1 4 46,aF 48 3 1 47,ay 49 1 48,I 50 1,cb 51 24 49 50,I 1 51])))))))))) (.region [I 10 5,aV 11 .add 10 1,I 5 11])))))) (aa [I 52 1,I 4 52] .ret)))
def Lb:C:=(aa [bP 4 0] (.seq (aa [bP 5 0] (.block 0 (.loop (.seq (aa [I 6 5,I 7 0,cw 8 7,bu 9 .lss 6 8] (aW 9 .skip (.exit 0))) (.seq (.block 1 (.region [I 12 0,I 13 5,ck 14 1 12 13,ay 15 1 14,I 16 1,cb 17 106 15 16,I 1 17])) (.region [I 10 5,aV 11 .add 10 1,I 5 11])))))) (aa [I 18 1,I 4 18] .ret)))
def Lf:C:=(aa [bP 4 0] (.seq (aa [bP 5 0] (.block 0 (.loop (.seq (aa [I 6 5,I 7 0,cw 8 7,bu 9 .lss 6 8] (aW 9 .skip (.exit 0))) (.seq (.block 1 (aa [I 12 0,I 13 5,I 14 1,ck 15 2 12 13,aF 16 0 1 15,bV 1 16 14] (aa [I 17 1,aV 18 .add 17 1,I 1 18] (aa [I 19 0,I 20 5,I 21 1,ck 22 2 19 20,aF 23 1 1 22,bV 1 23 21] (.region [I 24 1,aV 25 .add 24 1,I 1 25]))))) (.region [I 10 5,aV 11 .add 10 1,I 5 11])))))) (aa [I 26 1,I 4 26] .ret)))
def Lc:C:=(aa [bP 4 0] (.seq (aa [bP 5 0] (.block 0 (.loop (.seq (aa [I 6 5,I 7 0,cw 8 7,bu 9 .lss 6 8] (aW 9 .skip (.exit 0))) (.seq (.block 1 (aa [I 12 0,I 13 5,I 14 1,ck 15 2 12 13,aF 16 0 1 15,bV 1 16 14] (aa [I 17 1,aV 18 .add 17 1,I 1 18] (aa [I 19 0,I 20 5,I 21 1,c0 22 71 21,ck 23 2 19 20,aF 24 1 1 23,bV 1 24 22] (.region [I 25 1,aV 26 .add 25 1,I 1 26]))))) (.region [I 10 5,aV 11 .add 10 1,I 5 11])))))) (aa [I 27 1,I 4 27] .ret)))
def K5:C:=(aa [bP 4 0] (.seq (aa [bP 5 0] (.block 0 (.loop (.seq (aa [I 6 5,I 7 0,cw 8 7,bu 9 .lss 6 8] (aW 9 .skip (.exit 0))) (.seq (.block 1 (.seq (aa [I 12 0,I 13 5,ck 14 5 12 13,aF 15 0 1 14,ay 16 1 15,I 17 1,bu 18 .neq 16 17] (aW 18 (aa [bP 4 (-1)] .ret) .skip)) (aa [I 19 1,aV 20 .add 19 1,I 1 20] (.seq (aa [I 21 0,I 22 5,ck 23 5 21 22,hp 24 1 4 23,aF 25 0 1 24,ay 26 1 25,I 27 1,bu 28 .neq 26 27] (aW 28 (aa [bP 4 (-1)] .ret) .skip)) (aa [I 29 1,aV 30 .add 29 1,I 1 30] (.seq (aa [I 31 0,I 32 5,ck 33 5 31 32,hp 34 1 4 33,aF 35 1 1 34,ay 36 1 35,I 37 1,bu 38 .neq 36 37] (aW 38 (aa [bP 4 (-1)] .ret) .skip)) (aa [I 39 1,aV 40 .add 39 1,I 1 40] (.seq (.seq (.drawn true 63 [I 41 0,I 42 5,ck 43 5 41 42,hp 44 1 4 43,aF 45 2 1 44,ay 46 1 45,I 47 1,c0 48 71 47,bu 49 .neq 46 48]) (aW 49 (aa [bP 4 (-1)] .ret) .skip)) (aa [I 50 1,aV 51 .add 50 1,I 1 51] (aa [I 52 0,I 53 5,ck 54 5 52 53,hp 55 1 4 54,aF 56 3 1 55,ay 57 1 56,I 58 1,cb 59 25 57 58,I 1 59] (aa [I 60 1,aV 61 .lss 60 0] (aW 61 (aa [bP 4 (-1)] .ret) .skip)))))))))))) (.region [I 10 5,aV 11 .add 10 1,I 5 11])))))) (aa [I 62 1,I 4 62] .ret)))
def K6:C:=(aa [bP 4 0] (.seq (aa [bP 5 0] (.block 0 (.loop (.seq (aa [I 6 5,I 7 0,cw 8 7,bu 9 .lss 6 8] (aW 9 .skip (.exit 0))) (.seq (.block 1 (aa [I 12 0,I 13 5,ck 14 1 12 13,ay 15 1 14,I 16 1,cb 17 110 15 16,I 1 17] (aa [I 18 1,aV 19 .lss 18 0] (aW 19 (aa [bP 4 (-1)] .ret) .skip)))) (.region [I 10 5,aV 11 .add 10 1,I 5 11])))))) (aa [I 20 1,I 4 20] .ret)))
def K9:C:=(aa [bP 4 0] (.seq (aa [bP 5 0] (.block 0 (.loop (.seq (aa [I 6 5,I 7 0,cw 8 7,bu 9 .lss 6 8] (aW 9 .skip (.exit 0))) (.seq (.block 1 (.seq (aa [I 12 0,I 13 5,ck 14 2 12 13,aF 15 0 1 14,ay 16 1 15,I 17 1,bu 18 .neq 16 17] (aW 18 (aa [bP 4 (-1)] .ret) .skip)) (aa [I 19 1,aV 20 .add 19 1,I 1 20] (.seq (aa [I 21 0,I 22 5,ck 23 2 21 22,aF 24 1 1 23,ay 25 1 24,I 26 1,bu 27 .neq 25 26] (aW 27 (aa [bP 4 (-1)] .ret) .skip)) (.region [I 28 1,aV 29 .add 28 1,I 1 29]))))) (.region [I 10 5,aV 11 .add 10 1,I 5 11])))))) (aa [I 30 1,I 4 30] .ret)))
def K7:C:=(aa [bP 4 0] (.seq (aa [bP 5 0] (.block 0 (.loop (.seq (aa [I 6 5,I 7 0,cw 8 7,bu 9 .lss 6 8] (aW 9 .skip (.exit 0))) (.seq (.block 1 (.seq (aa [I 12 0,I 13 5,ck 14 2 12 13,aF 15 0 1 14,ay 16 1 15,I 17 1,bu 18 .neq 16 17] (aW 18 (aa [bP 4 (-1)] .ret) .skip)) (aa [I 19 1,aV 20 .add 19 1,I 1 20] (.seq (.seq (.drawn true 32 [I 21 0,I 22 5,ck 23 2 21 22,aF 24 1 1 23,ay 25 1 24,I 26 1,c0 27 71 26,bu 28 .neq 25 27]) (aW 28 (aa [bP 4 (-1)] .ret) .skip)) (.region [I 29 1,aV 30 .add 29 1,I 1 30]))))) (.region [I 10 5,aV 11 .add 10 1,I 5 11])))))) (aa [I 31 1,I 4 31] .ret)))
def aoc:b4 aT SU [.tmp 4] 2 Tryz.f23=true:=bi
def Zt:b4 aT Ld [.tmp 4] 2 Tryz.f24=true:=bi
def Zo:b4 aT K8 [.tmp 4] 2 Tryz.f25=true:=bi
def aob:b4 aT SR [.tmp 4] 2 Tryz.f44=true:=bi
def aoa:b4 aT SQ [.tmp 4] 2 Tryz.f45=true:=bi
def Zu:b4 aT Le [.tmp 2] 1 Tryz.f71=true:=bi
def Zq:b4 aT La [.tmp 4] 2 Tryz.f106=true:=bi
def Zr:b4 aT Lb [.tmp 4] 2 Tryz.f107=true:=bi
def Zv:b4 aT Lf [.tmp 4] 2 Tryz.f108=true:=bi
def Zs:b4 aT Lc [.tmp 4] 2 Tryz.f109=true:=bi
def Zl:b4 aT K5 [.tmp 4] 2 Tryz.f110=true:=bi
def Zm:b4 aT K6 [.tmp 4] 2 Tryz.f111=true:=bi
def Zp:b4 aT K9 [.tmp 4] 2 Tryz.f112=true:=bi
def Zn:b4 aT K7 [.tmp 4] 2 Tryz.f113=true:=bi
def zK:Nat->Int->List cS->List cS
 |0,_,o=>o
 |f+1,k,o=>if k<=0 then o else zK f (k/10) (UInt8.ofNat (IntKind.u8.wrap (48+k.tmod 10)).toNat::o)
def bF(k:Int):List cS:=if k<=0 then [109,48]else 109::zK k.toNat k []
def CY(k:Int)(n:k<=4611686018427387904):bU au 71 [aj k] (.str (bF k)):=by
 by_cases c:k<=0
 ·rw[bF,if_pos c];refine bI a6 Tryz.func71 Zu fun q=>?_;unfold Le;exact cr
 rw[bF,if_neg c];refine bI a6 Tryz.func71 Zu fun q=>?_;unfold Le;simp;(repeat' first|refine al ?_|simp[c]);refine o7 (fun(x:Int×List cS)=>⟨[(0,aj x.1),(3,.str x.2)],[],[],0,[]⟩) (fun x=>x.1.toNat) (fun x=>0<=x.1/\x.1<=4611686018427387904/\x.1.toNat*10 ^ x.2.length<=4611686018427387904/\x.2.length<=19/\∃f:Nat,x.1<=f/\zK f x.1 x.2=zK k.toNat k []) (k,[]) b9 ⟨Ω,n,by simp;omega,Ψ,k.toNat,by simp;omega,rfl⟩ ?_;rintro⟨j,o⟩ ⟨J,U,m,i,f,p,a⟩ _;simp only at J U m i p a;by_cases g:0<j
 ·have s:o.length<=18:=by
   rcases Nat.lt_or_ge 18 o.length with h|h
   ·have e:10 ^ 19<=10 ^ o.length:=Nat.pow_le_pow_right Ω Ω;have d:1*10 ^ o.length<=j.toNat*10 ^ o.length:=rT _ Ω;omega
   ·exact h
  have r:j.tdiv 10=j/10:=Int.tdiv_eq_ediv_of_nonneg J;have hm:j.tmod 10=j%10:=Int.tmod_eq_emod_of_nonneg J;have hw:vn.wrap (j.tdiv 10)=j/10:=by rw[r];exact pt _ Ω
  simp[g];(repeat' first|refine al ?_|simp);all_goals first|(refine⟨by unfold tB;omega,by unfold lim;omega,?_⟩)|skip
  rw[hw];obtain⟨b,rfl⟩:∃b,f=b+1:=⟨f-1,Ω⟩;refine bY.whl (j/10,UInt8.ofNat (IntKind.u8.wrap (48+j.tmod 10)).toNat::o) d6 ⟨by simp;omega,by simp;omega,?_,by simp;omega,b,by simp;omega,?_⟩ b9
  ·simp only[mV,Nat.pow_succ];have e:(j/10).toNat*10<=j.toNat:=Ω
   have d:=rT (10 ^ o.length) e;rw[Nat.mul_assoc,Nat.mul_comm 10]at d;omega
  ·rw[<-a];simp only[zK];rw[if_neg Ω]
 ·simp[g];(repeat' first|refine al ?_|simp);all_goals try refine⟨by unfold lim;omega,?_⟩
  have l:zK f j o=o:=by cases f<;>simp[zK];omega
  rw[l]at a;rw[<-a];simp[bZ,ba,be,a1]
def jC.dt':∀(n:Nat),(∀p,CQ p<=n->jC p->cN p)/\(∀c,qV c<=n->(∀p∈c,jC p)->dX c)
 |0=>by
  refine⟨fun p d h=>?_,fun c d h=>?_⟩
  ·obtain⟨a,b,s,ys,_,_,e⟩:=h.inv;omega
  ·cases c with
   |nil=>simp[dX]
   |cons p c=>obtain⟨a,b,s,ys,_,_,e⟩:=(h p Ψ).inv;simp only[qV]at d;omega
 |n+1=>by
  obtain⟨_,g⟩:=jC.dt' n;have J:∀p,CQ p<=n+1->jC p->cN p:=fun p d h=>by obtain⟨a,b,s,ys,rfl,i,e⟩:=h.inv;simp only[cN,dX,true_and,jd];exact⟨Ω,g ys Ω i⟩
  refine⟨J,fun c d h=>AY.2 fun x f=>J x ?_ (h x f)⟩;have:=J2 f;omega
def jC.dtL{a:List af}(h:∀p∈a,jC p):dX a:=(jC.dt' _).2 a (dO _) h
def Dz(c:Nat)(a br:Int)(s:List cS)(t:jF)(ys:List af):dv c (.agg [aj a,aj br,.str s,.slice 4 t ys])= .agg [aj a,aj br,.str s,dv c (.slice 4 t ys)]:=rfl
def YT(c8:Int->List cS)(a br:Int)(s:List cS)(t:jF)(ys:List af)(k:Int):dJ c8 (.agg [aj a,aj br,.str s,.slice 4 t ys]) k=(.agg [aj k,aj (k+1),.str (c8 (k+1+1)),.slice 4 t (bD c8 ys (k+1+1+1)).1],(bD c8 ys (k+1+1+1)).2):=by simp[dJ,bD]
def P4(ε:Nat->Nat)(c:Nat)(a br:Int)(s:List cS)(t:jF)(ys:List af):dQ ε c (.agg [aj a,aj br,.str s,.slice 4 t ys])=dQ ε c (.slice 4 t ys):=by show []++([]++([]++(dQ ε (c+0+0+0) (.slice 4 t ys)++[])))=_;simp
def w8(a br:Int)(s:List cS)(t:jF)(ys:List af):bE (.agg [aj a,aj br,.str s,.slice 4 t ys])=bE (.slice 4 t ys):=by show 0+(0+(0+(bE (.slice 4 t ys)+0)))=_;omega
def asO(k:Int):bU au 24 [dx [],aj k] (aj k):=by refine bI a6 Tryz.func24 Zt fun a=>?_;unfold Ld;simp;(repeat' first|refine al ?_|simp);refine fS (fun i (_:Unit)=>⟨[(0,dx []),(1,aj k),(5,aj i)],[],[],0,[]⟩) 0 (fun _ _=>True) () b9 trivial (fun _ _ _=>?_) (fun i _ hi _ _=>Ω);exact cr
def VM(k:Int)(b:Nat)(ε:Nat->Nat):bG au 24 [dv b (dx []),aj k] (c1 ε b (dx [])) fun r a=>r=aj k/\a=c1 ε b (dx []):=asO k
def asm(k:Int):bU au 25 [dx [],aj k] (aj k):=by refine bI a6 Tryz.func25 Zo fun a=>?_;unfold K8;simp;(repeat' first|refine al ?_|simp);refine fS (fun i (_:Unit)=>⟨[(0,dx []),(1,aj k),(5,aj i)],[],[],0,[]⟩) 0 (fun _ _=>True) () b9 trivial (fun _ _ _=>?_) (fun i _ hi _ _=>Ω);exact cr
def VF(k:Int)(b:Nat)(ε:Nat->Nat):bG au 25 [dv b (dx []),aj k] (c1 ε b (dx [])) fun r a=>r=aj k/\a=c1 ε b (dx []):=asm k
def VL:∀(n:Nat) (xs:List af),qV xs<=n->(∀x∈xs,jC x)->∀(k:Int) (b:Nat) (ε:Nat->Nat),0<=k->(bD bF xs k).2<=4611686018427387904->
  bG au 24 [dv b (dx xs),aj k] (c1 ε b (dx xs)) fun r ak=>r=aj (bD bF xs k).2/\ak=c1 ε b (dx (bD bF xs k).1):=by
 intro n;induction n with
 |zero=>
  intro xs G g k b ε bA ab;cases xs with
  |nil=>exact VM k b ε
  |cons x xs=>obtain⟨a,br,s,ys,_,_,e⟩:=(g x Ψ).inv;simp only[qV]at G;omega
 |succ n b0=>
 intro xs G g k b ε bA ab;have O:dX xs:=jC.dtL g;have ai:ez (c1 ε b (dx xs)):=oo (by simp[cN,O]);by_cases m:xs=[]
 ·subst m;exact VM k b ε
 have vS:(bD bF (xs.take 0) k).2=k:=by simp[bD]
 refine bG.mk mixed a6 Tryz.func24 Zt Ψ ai.obj fun aR c4=>?_;unfold Ld;rw[uz m];simp;(repeat' first|refine al ?_|simp);have t:∀i,bE (dx (k1 bF xs k i))=bE (dx xs):=fun i=>ma (n7 ..) (YI ..);have u:∀i,cN (dx (k1 bF xs k i)):=fun i=>by simp only[cN];exact⟨Ω,YJ _ _ _ O⟩
 have F:rng b (b+bE (dx xs)) (.obj b):=⟨b,rfl,dO _,by cases xs with|nil=>exact absurd rfl m|cons x xs=>simp only[bE];omega⟩;have oD:=wy bF (xs:=xs) k fun x h=>by obtain⟨a,br,s,ys,rfl,_⟩:=(g x h).inv;exact⟨_,_,_,rfl⟩
 have avc:∀i,k1 bF xs k i≠[]:=fun i e=>m (List.length_eq_zero_iff.1 (by rw[<-n7 bF xs k i,e];rfl));refine fS (fun i (_:Unit)=>⟨[(0,.row 4 (.obj b) xs.length),(1,aj (bD bF (xs.take i) k).2),(5,aj i)],[],dQ ε b (dx (k1 bF xs k i)),0,cK (c1 ε b (dx xs))⟩) xs.length (fun _ _=>True) () ?_ trivial (fun _ _ _=>?_) (fun i _ hi _ _=>?_)
 ·refine gn.to (u _) (t _) ?_ (fun k o h=>by rw[EZ]at h;exact h);simp[az,F,bD]
 ·rw[p3,jA];simp;(repeat' first|refine al ?_|simp);refine c5.at (c1 ε b (dx (bD bF xs k).1)) Ψ (oo (by rw[<-p3];exact u _)) (oZ (by rw[<-p3];exact t _)) (fun k cs h=>by simp[ae]at h) (fun k o h=>h) ?_;simp[dc,ba,be,a1]
 ·obtain⟨x,N,hm,J,U,p,w⟩:=u4 bF k hi;have f:=EX bF k N;have c:=EY bF k N;have W:=fun(t':List (Nat×af)) (st:bp)=>gn.to (t':=t') (st:=st) (ε:=ε) (b:=b) (u (i+1)) (t (i+1));have hlen:((bD bF (xs.take i) k).1++x::xs.drop (i+1)).length=xs.length:=by rw[<-f];exact n7 ..
  rw[f,lA (xs:=_++x::_) Ψ,hlen];generalize eG:(bD bF (xs.take i) k).1=M at w f c⊢;generalize dk:(bD bF (xs.take i) k).2=K at p c J U⊢;generalize bt:xs.drop (i+1)=R at f c⊢;obtain⟨a,br,s,ys,rfl,B,qD⟩:=(g x hm).inv;have d:=uy (b:=b+1) (r:=R) (x:= .agg [aj a,aj br,.str s,dx ys]) w;have v:(fK (b+1) (M++ .agg [aj a,aj br,.str s,dx ys]::R)).length=xs.length:=by rw[o6,<-f];exact n7 ..
  rw[Dz]at d;rw[YT]at p c U;generalize L:dv (b+1+da M) (dx ys)=E at d;generalize V:fK (b+1) (M++ .agg [aj a,aj br,.str s,dx ys]::R)=X at d v⊢;have Y:K+1+1+1<=(bD bF ys (K+1+1+1)).2:=mm ..;simp only at U;have H:=CY (K+1+1) Ω;have A:∀h,(X[i]'h)= .agg [aj a,aj br,.str s,E]:=fun h=>by rw[cl h]at d;exact e6 d
  clear d;simp[hi,A,v];(repeat' first|refine al ?_|refine aO H ?_|refine aP H ?_|simp[A,v,hi]);have z:dX ys:=jC.dtL B;have P:=b0 ys (by have:=J2 hm;omega) B (K+1+1+1) (b+1+da M) ε Ω Ω;have j:(bD bF ys (K+1+1+1)).1.length=ys.length:=kK ..;have q:da (bD bF ys (K+1+1+1)).1=da ys:=mA ..;generalize bD bF ys (K+1+1+1)=Q at j q P p c U Y;have Z:b5 E=E:=by rw[<-L];exact CP
  rw[Z];subst L;refine CallDo.subR (ε:=ε) (b:=b) (l:=M) (r:=R) (y:= .agg [aj a,aj br,.str s,dx ys]) (y':= .agg [aj K,aj (K+1),.str (bF (K+1+1)),dx Q.1]) (by simp[cN,dX,z]) (by rw[w8,w8];exact ma j q) (by simp only[c1,P4];exact P) rfl rfl ?_ (fun eO S av=>?_)
  ·rw[w8];simp only[aH,az,jd];exact n2 _ _ (by simp only[cN];exact⟨Ω,z⟩)
  ·skip;simp;(repeat' first|refine al ?_|simp);refine bY.rng () hi ?_ ?_
   ·trivial
   rw[show(bD bF (xs.take (i+1)) k).2=Q.2 from p];refine W _ _ (by simp[az,F]) fun k o h=>?_;rw[c,lA Ψ]at h;simp only[ae]at h;split at h
   ·rename_i e;subst e;rw[S,<-h,<-V,<-yX j,<-Dz (b+1+da M) K (K+1) (bF (K+1+1)),Ha w (by rw[w8,w8];exact ma j q),<-n7 bF xs k (i+1),c]
   ·exact av k o h
def aiS:∀(n:Nat) (xs:List af),qV xs<=n->(∀x∈xs,jC x)->∀(k:Int) (b:Nat) (ε:Nat->Nat),0<=k->(bD bF xs k).2<=4611686018427387904->
  bG au 25 [dv b (dx (bD bF xs k).1),aj k] (c1 ε b (dx (bD bF xs k).1)) fun r ak=>r=aj (bD bF xs k).2/\ak=c1 ε b (dx (bD bF xs k).1):=by
 intro n;induction n with
 |zero=>
  intro xs L j k b ε bA ab;cases xs with
  |nil=>exact VF k b ε
  |cons x xs=>obtain⟨a,br,s,ys,_,_,e⟩:=(j x Ψ).inv;simp only[qV]at L;omega
 |succ n b0=>
 intro xs L j k b ε bA ab;have aL:dX (bD bF xs k).1:=q8 _ _ _ (jC.dtL j);have z:cN (dx (bD bF xs k).1):=by simp only[cN];exact⟨Ω,aL⟩
 have S:ez (c1 ε b (dx (bD bF xs k).1)):=oo z;by_cases O:xs=[]
 ·subst O;exact VF k b ε
 have g:(bD bF xs k).1.length=xs.length:=kK ..;have f:(bD bF xs k).1≠[]:=fun e=>O (List.length_eq_zero_iff.1 (by rw[<-g,e];rfl));have oD:=wy bF (xs:=xs) k fun x h=>by obtain⟨a,br,s,ys,rfl,_⟩:=(j x h).inv;exact⟨_,_,_,rfl⟩
 have G:rng b (b+bE (dx (bD bF xs k).1)) (.obj b):=⟨b,rfl,dO _,by revert f;cases (bD bF xs k).1 with|nil=>exact fun h=>absurd rfl h|cons x xs=>intro _;simp only[bE];omega⟩;have A:=fun(t':List (Nat×af)) (st:bp)=>gn.to (t':=t') (st:=st) (ε:=ε) (b:=b) z rfl;refine bG.mk mixed a6 Tryz.func25 Zo Ψ S.obj fun aR c4=>?_;unfold K8;rw[uz f,g];simp;(repeat' first|refine al ?_|simp);refine fS (fun i (_:Unit)=>⟨[(0,.row 4 (.obj b) xs.length),(1,aj (bD bF (xs.take i) k).2),(5,aj i)],[],dQ ε b (dx (bD bF xs k).1),0,cK (c1 ε b (dx (bD bF xs k).1))⟩) xs.length (fun _ _=>True) () ?_ trivial (fun _ _ _=>?_) (fun i _ hi _ _=>?_)
 ·refine A _ _ ?_ (fun k o h=>h);simp[az,G,bD]
 ·rw[jA];simp;(repeat' first|refine al ?_|simp);refine c5.at (c1 ε b (dx (bD bF xs k).1)) Ψ S (oZ rfl) (fun k cs h=>by simp[ae]at h) (fun k o h=>h) ?_;simp[dc,ba,be,a1]
 ·obtain⟨x,cB,hm,J,U,p,H⟩:=u4 bF k hi;have c:=E0 bF k cB;generalize uF:(bD bF xs k).1=Y at*;have m:=lA (ε:=ε) (b:=b) (sz:=4) (t:= .no) f;rw[g]at m;rw[m];generalize eG:(bD bF (xs.take i) k).1=M at H c;generalize dk:(bD bF (xs.take i) k).2=K at p c J U⊢;obtain⟨a,br,s,ys,rfl,F,qD⟩:=(j x hm).inv;rw[YT]at p c U;simp only at U;generalize (bD bF (xs.drop (i+1)) _).1=R at c;have d:=uy (b:=b+1) (r:=R) (x:= .agg [aj K,aj (K+1),.str (bF (K+1+1)),dx (bD bF ys (K+1+1+1)).1]) H;rw[<-c,Dz]at d;have u:(fK (b+1) Y).length=xs.length:=by rw[o6,g]
  generalize v:dv (b+1+da M) (dx (bD bF ys (K+1+1+1)).1)=E at d;generalize lf:fK (b+1) Y=X at d u m⊢;have il:K+1+1+1<=(bD bF ys (K+1+1+1)).2:=mm ..;have N:=CY (K+1+1) Ω;have B:∀h,(X[i]'h)= .agg [aj K,aj (K+1),.str (bF (K+1+1)),E]:=fun h=>by rw[cl h]at d;exact e6 d
  clear d;have V:=b0 ys (by have:=J2 hm;omega) F (K+1+1+1) (b+1+da M) ε Ω Ω;have q:dX (bD bF ys (K+1+1+1)).1:=q8 _ _ _ (jC.dtL F);generalize bD bF ys (K+1+1+1)=Q at q v V p c U il;simp[hi,B,u];(repeat' first|refine al ?_|refine aO N ?_|refine aP N ?_|simp[B,u,hi]);have h9:b5 E=E:=by rw[<-v];exact CP
  rw[h9];subst v;refine CallDo.subR (ε:=ε) (b:=b) (l:=M) (r:=R) (y:= .agg [aj K,aj (K+1),.str (bF (K+1+1)),dx Q.1]) (y':= .agg [aj K,aj (K+1),.str (bF (K+1+1)),dx Q.1]) (by simp[cN,dX,q]) rfl (by simp only[c1,P4];exact V) c rfl ?_ (fun eO Z P=>?_)
  ·rw[w8];simp only[aH,az,jd];exact n2 _ _ (by simp only[cN];exact⟨Ω,q⟩)
  ·skip;have w:¬(Q.2<0):=Ω
   simp[w];(repeat' first|refine al ?_|simp[w]);refine bY.rng () hi ?_ ?_
   ·trivial
   rw[show(bD bF (xs.take (i+1)) k).2=Q.2 from p];have W:aB.obj b::(gN ε (b+1) Y).map (fun x=>x.1)=cK (c1 ε b (dx Y)):=by simp[lA f]
   rw[W,<-m];refine A _ _ ?_ (fun k o h=>?_)
   ·simp[az,G]
   rw[lA f,g,lf]at h;simp only[ae]at h;split at h
   ·rename_i e;subst e;rw[Z,<-h]
   ·rw[<-c]at P;exact P k o h
def ug(x:af):Prop:= ∃(a:Int) (b:Int) (a2:Int) (s:List cS) (ys:List af),x= .agg [aj a,aj b,aj a2,.str s,dx ys]/\∀y∈ys,jC y
def LN(c:Nat)(a:Int)(b:Int)(a2:Int)(s:List cS)(ys:List af)(t:jF):dv c (.agg [aj a,aj b,aj a2,.str s,.slice 4 t ys])= .agg [aj a,aj b,aj a2,.str s,dv c (.slice 4 t ys)]:=rfl
def abn(ε:Nat->Nat)(c:Nat)(a:Int)(b:Int)(a2:Int)(s:List cS)(ys:List af)(t:jF):dQ ε c (.agg [aj a,aj b,aj a2,.str s,.slice 4 t ys])=dQ ε c (.slice 4 t ys):=by show []++([]++([]++([]++((dQ ε (c+0+0+0+0) (.slice 4 t ys)++[])))))=_;simp
def AW(a:Int)(b:Int)(a2:Int)(s:List cS)(ys:List af)(t:jF):bE (.agg [aj a,aj b,aj a2,.str s,.slice 4 t ys])=bE (.slice 4 t ys):=by show 0+(0+(0+(0+((bE (.slice 4 t ys)+0)))))=_;omega
def YQ(a:Int)(b:Int)(a2:Int)(s:List cS)(ys:List af)(K:Int):dJ bF (.agg [aj a,aj b,aj a2,.str s,dx ys]) K=(.agg [aj K,aj (K+1),aj (K+1+1),.str (bF (K+1+1+1)),dx (bD bF ys (K+1+1+1+1)).1],(bD bF ys (K+1+1+1+1)).2):=by simp[dJ,bD]
def yW{xs:List af}(h:∀x∈xs,ug x):dX xs:=AY.2 fun x b=>by obtain⟨a,d,a2,s,ys,rfl,c⟩:=h x b;simp[cN,dX,jC.dtL c]
def asM(k:Int):bU au 106 [bL [],aj k] (aj k):=by refine bI a6 Tryz.func106 Zq fun a=>?_;unfold La;simp;(repeat' first|refine al ?_|simp);refine fS (fun i (_:Unit)=>⟨[(0,bL []),(1,aj k),(5,aj i)],[],[],0,[]⟩) 0 (fun _ _=>True) () b9 trivial (fun _ _ _=>?_) (fun i _ hi _ _=>Ω);exact cr
def ai0(k:Int)(b:Nat)(ε:Nat->Nat):bG au 106 [dv b (bL []),aj k] (c1 ε b (bL [])) fun r a=>r=aj k/\a=c1 ε b (bL []):=asM k
def asj(k:Int):bU au 110 [bL [],aj k] (aj k):=by refine bI a6 Tryz.func110 Zl fun a=>?_;unfold K5;simp;(repeat' first|refine al ?_|simp);refine fS (fun i (_:Unit)=>⟨[(0,bL []),(1,aj k),(5,aj i)],[],[],0,[]⟩) 0 (fun _ _=>True) () b9 trivial (fun _ _ _=>?_) (fun i _ hi _ _=>Ω);exact cr
def aiO(k:Int)(b:Nat)(ε:Nat->Nat):bG au 110 [dv b (bL []),aj k] (c1 ε b (bL [])) fun r a=>r=aj k/\a=c1 ε b (bL []):=asj k
def VJ(xs:List af)(w:∀x∈xs,ug x)(k:Int)(b:Nat)(ε:Nat->Nat)(bA:0<=k)(ab:(bD bF xs k).2<=4611686018427387904):
  bG au 106 [dv b (bL xs),aj k] (c1 ε b (bL xs)) fun r Z=>r=aj (bD bF xs k).2/\Z=c1 ε b (bL (bD bF xs k).1):=by
 have aL:dX xs:=yW w;by_cases v:xs=[]
 ·subst v;exact ai0 k b ε
 have oD:=wy bF (xs:=xs) k fun x h=>by obtain⟨a,f,a2,s,ys,rfl,_⟩:=w x h;exact⟨_,_,_,rfl⟩
 obtain⟨ai,p,q,F⟩:=IP bF k (sz:=5) ε b aL Ω v;refine bG.mk mixed a6 Tryz.func106 Zq Ψ ai.obj fun aR c4=>?_;unfold La;rw[uz v];simp;(repeat' first|refine al ?_|simp);refine fS (fun i (_:Unit)=>⟨[(0,.row 5 (.obj b) xs.length),(1,aj (bD bF (xs.take i) k).2),(5,aj i)],[],dQ ε b (bL (k1 bF xs k i)),0,cK (c1 ε b (bL xs))⟩) xs.length (fun _ _=>True) () ?_ trivial (fun _ _ _=>?_) (fun i _ hi _ _=>?_)
 ·refine gn.to (q _) (p _) ?_ (fun k o h=>by rw[EZ]at h;exact h);simp[az,F,bD]
 ·rw[p3,jA];simp;(repeat' first|refine al ?_|simp);refine c5.at (c1 ε b (bL (bD bF xs k).1)) Ψ (oo (by rw[<-p3];exact q _)) (oZ (by rw[<-p3];exact p _)) (fun k cs h=>by simp[ae]at h) (fun k o h=>h) ?_;simp[dc,ba,be,a1]
 ·obtain⟨x,L,hm,J,U,m,u⟩:=u4 bF k hi;have g:=EX bF k L;have c:=EY bF k L;have S:=fun(t':List (Nat×af)) (st:bp)=>gn.to (t':=t') (st:=st) (ε:=ε) (b:=b) (q (i+1)) (p (i+1));have hlen:((bD bF (xs.take i) k).1++x::xs.drop (i+1)).length=xs.length:=by rw[<-g];exact n7 ..
  rw[g,lA (xs:=_++x::_) Ψ,hlen];generalize eG:(bD bF (xs.take i) k).1=M at u g c⊢;generalize dk:(bD bF (xs.take i) k).2=K at m c J U⊢;generalize bt:xs.drop (i+1)=R at g c⊢;obtain⟨a,f,a2,s,ys,rfl,B⟩:=w x hm;have d:=uy (b:=b+1) (r:=R) (x:= .agg [aj a,aj f,aj a2,.str s,dx ys]) u;have t:(fK (b+1) (M++ .agg [aj a,aj f,aj a2,.str s,dx ys]::R)).length=xs.length:=by rw[o6,<-g];exact n7 ..
  rw[LN]at d;rw[YQ]at m c U;generalize H:dv (b+1+da M) (dx ys)=E at d;generalize P:fK (b+1) (M++ .agg [aj a,aj f,aj a2,.str s,dx ys]::R)=X at d t⊢;have V:(K+1+1+1+1)<=(bD bF ys (K+1+1+1+1)).2:=mm ..;simp only at U;have G:=CY (K+1+1+1) Ω;have A:∀h,(X[i]'h)= .agg [aj a,aj f,aj a2,.str s,E]:=fun h=>by rw[cl h]at d;exact e6 d
  clear d;have N:=VL _ ys (dO _) B (K+1+1+1+1) (b+1+da M) ε Ω Ω;have z:dX ys:=jC.dtL B;have j:(bD bF ys (K+1+1+1+1)).1.length=ys.length:=kK ..;have n:da (bD bF ys (K+1+1+1+1)).1=da ys:=mA ..;generalize bD bF ys (K+1+1+1+1)=Q at j n N m c U V;simp[hi,A,t];(repeat' first|refine al ?_|refine aO G ?_|refine aP G ?_|simp[A,t,hi]);have W:b5 E=E:=by rw[<-H];exact CP
  rw[W];subst H;refine CallDo.subR (ε:=ε) (b:=b) (l:=M) (r:=R) (y:= .agg [aj a,aj f,aj a2,.str s,dx ys]) (y':= .agg [aj K,aj (K+1),aj (K+1+1),.str (bF (K+1+1+1)),dx Q.1]) (by simp[cN,dX,z]) (by rw[AW,AW];exact ma j n) (by simp only[c1,abn];exact N) rfl rfl ?_ (fun eO O Y=>?_)
  ·rw[AW];simp only[aH,az,jd];exact n2 _ _ (by simp only[cN];exact⟨Ω,z⟩)
  ·skip;simp;(repeat' first|refine al ?_|simp);refine bY.rng () hi ?_ ?_
   ·trivial
   rw[show(bD bF (xs.take (i+1)) k).2=Q.2 from m];refine S _ _ ?_ (fun k o h=>?_)
   ·simp[az,F]
   rw[c,lA Ψ]at h;simp only[ae]at h;split at h
   ·rename_i e;subst e;rw[O,<-h,<-P,<-yX j,<-LN (b+1+da M) K (K+1) (K+1+1) (bF (K+1+1+1)),Ha u (by rw[AW,AW];exact ma j n),<-n7 bF xs k (i+1),c]
   ·exact Y k o h
def VE(xs:List af)(u:∀x∈xs,ug x)(k:Int)(b:Nat)(ε:Nat->Nat)(bA:0<=k)(ab:(bD bF xs k).2<=4611686018427387904):
  bG au 110 [dv b (bL (bD bF xs k).1),aj k] (c1 ε b (bL (bD bF xs k).1)) fun r ak=>r=aj (bD bF xs k).2/\ak=c1 ε b (bL (bD bF xs k).1):=by
 by_cases H:xs=[]
 ·subst H;exact aiO k b ε
 have oD:=wy bF (xs:=xs) k fun x h=>by obtain⟨a,bq,a2,s,ys,rfl,_⟩:=u x h;exact⟨_,_,_,rfl⟩
 obtain⟨P,N,g,f,B⟩:=HF bF k (sz:=5) ε b (yW u) Ω H;have w:=fun(t':List (Nat×af)) (st:bp)=>gn.to (t':=t') (st:=st) (ε:=ε) (b:=b) P rfl;refine bG.mk mixed a6 Tryz.func110 Zl Ψ N.obj fun aR c4=>?_;unfold K5;rw[uz f,g];simp;(repeat' first|refine al ?_|simp);refine fS (fun i (_:Unit)=>⟨[(0,.row 5 (.obj b) xs.length),(1,aj (bD bF (xs.take i) k).2),(5,aj i)],[],dQ ε b (bL (bD bF xs k).1),0,cK (c1 ε b (bL (bD bF xs k).1))⟩) xs.length (fun _ _=>True) () ?_ trivial (fun _ _ _=>?_) (fun i _ hi _ _=>?_)
 ·refine w _ _ ?_ (fun k o h=>h);simp[az,B,bD]
 ·rw[jA];simp;(repeat' first|refine al ?_|simp);refine c5.at (c1 ε b (bL (bD bF xs k).1)) Ψ N (oZ rfl) (fun k cs h=>by simp[ae]at h) (fun k o h=>h) ?_;simp[dc,ba,be,a1]
 ·obtain⟨x,cB,hm,J,U,m,F⟩:=u4 bF k hi;have c:=E0 bF k cB;generalize uF:(bD bF xs k).1=Y at*;have j:=lA (ε:=ε) (b:=b) (sz:=5) (t:= .no) f;rw[g]at j;rw[j];generalize eG:(bD bF (xs.take i) k).1=M at F c;generalize dk:(bD bF (xs.take i) k).2=K at m c J U⊢;obtain⟨a,bq,a2,s,ys,rfl,A⟩:=u x hm;rw[YQ]at m c U;simp only at U;generalize (bD bF (xs.drop (i+1)) _).1=R at c;have d:=uy (b:=b+1) (r:=R) (x:= .agg [aj K,aj (K+1),aj (K+1+1),.str (bF (K+1+1+1)),dx (bD bF ys (K+1+1+1+1)).1]) F;rw[<-c,LN]at d;have p:(fK (b+1) Y).length=xs.length:=by rw[o6,g]
  generalize q:dv (b+1+da M) (dx (bD bF ys (K+1+1+1+1)).1)=E at d;generalize W:fK (b+1) Y=X at d p j⊢;have Z:(K+1+1+1+1)<=(bD bF ys (K+1+1+1+1)).2:=mm ..;have G:=CY (K+1+1+1) Ω;have z:∀h,(X[i]'h)= .agg [aj K,aj (K+1),aj (K+1+1),.str (bF (K+1+1+1)),E]:=fun h=>by rw[cl h]at d;exact e6 d
  clear d;have O:=aiS _ ys (dO _) A (K+1+1+1+1) (b+1+da M) ε Ω Ω;have n:dX (bD bF ys (K+1+1+1+1)).1:=q8 _ _ _ (jC.dtL A);generalize bD bF ys (K+1+1+1+1)=Q at n q O m c U Z;simp[hi,z,p];(repeat' first|refine al ?_|refine aO G ?_|refine aP G ?_|simp[z,p,hi]);have h9:b5 E=E:=by rw[<-q];exact CP
  rw[h9];subst q;refine CallDo.subR (ε:=ε) (b:=b) (l:=M) (r:=R) (y:= .agg [aj K,aj (K+1),aj (K+1+1),.str (bF (K+1+1+1)),dx Q.1]) (y':= .agg [aj K,aj (K+1),aj (K+1+1),.str (bF (K+1+1+1)),dx Q.1]) (by simp[cN,dX,n]) rfl (by simp only[c1,abn];exact O) c rfl ?_ (fun eO V L=>?_)
  ·rw[AW];simp only[aH,az,jd];exact n2 _ _ (by simp only[cN];exact⟨Ω,n⟩)
  ·skip;have v:¬(Q.2<0):=Ω
   simp[v];(repeat' first|refine al ?_|simp[v]);refine bY.rng () hi ?_ ?_
   ·trivial
   rw[show(bD bF (xs.take (i+1)) k).2=Q.2 from m];have S:aB.obj b::(gN ε (b+1) Y).map (fun x=>x.1)=cK (c1 ε b (bL Y)):=by simp[lA f]
   rw[S,<-j];refine w _ _ ?_ (fun k o h=>?_)
   ·simp[az,B]
   rw[lA f,g,W]at h;simp only[ae]at h;split at h
   ·rename_i e;subst e;rw[V,<-h]
   ·rw[<-c]at L;exact L k o h
def Gb(x:af):Prop:= ∃(a:Int) (b:Int),x= .agg [aj a,aj b]
def YR(a:Int)(b:Int)(K:Int):dJ bF (.agg [aj a,aj b]) K=(.agg [aj K,aj (K+1)],K+1+1):=by simp[dJ,bD]
def G3{xs:List af}(h:∀x∈xs,Gb x):dX xs:=AY.2 fun x b=>by obtain⟨a,c,rfl⟩:=h x b;simp[cN,dX]
def asP(k:Int):bU au 108 [b6 [],aj k] (aj k):=by refine bI a6 Tryz.func108 Zv fun a=>?_;unfold Lf;simp;(repeat' first|refine al ?_|simp);refine fS (fun i (_:Unit)=>⟨[(0,b6 []),(1,aj k),(5,aj i)],[],[],0,[]⟩) 0 (fun _ _=>True) () b9 trivial (fun _ _ _=>?_) (fun i _ hi _ _=>Ω);exact cr
def ai5(k:Int)(b:Nat)(ε:Nat->Nat):bG au 108 [dv b (b6 []),aj k] (c1 ε b (b6 [])) fun r a=>r=aj k/\a=c1 ε b (b6 []):=asP k
def asn(k:Int):bU au 112 [b6 [],aj k] (aj k):=by refine bI a6 Tryz.func112 Zp fun a=>?_;unfold K9;simp;(repeat' first|refine al ?_|simp);refine fS (fun i (_:Unit)=>⟨[(0,b6 []),(1,aj k),(5,aj i)],[],[],0,[]⟩) 0 (fun _ _=>True) () b9 trivial (fun _ _ _=>?_) (fun i _ hi _ _=>Ω);exact cr
def aiU(k:Int)(b:Nat)(ε:Nat->Nat):bG au 112 [dv b (b6 []),aj k] (c1 ε b (b6 [])) fun r a=>r=aj k/\a=c1 ε b (b6 []):=asn k
def ai4(xs:List af)(s:∀x∈xs,Gb x)(k:Int)(b:Nat)(ε:Nat->Nat)(L:0<=k)(N:(bD bF xs k).2<=4611686018427387904):
  bG au 108 [dv b (b6 xs),aj k] (c1 ε b (b6 xs)) fun r z=>r=aj (bD bF xs k).2/\z=c1 ε b (b6 (bD bF xs k).1):=by
 have B:dX xs:=G3 s;by_cases n:xs=[]
 ·subst n;exact ai5 k b ε
 have E:=wy bF (xs:=xs) k fun x h=>by obtain⟨a,d,rfl⟩:=s x h;exact⟨_,_,_,rfl⟩
 obtain⟨A,g,j,u⟩:=IP bF k (sz:=2) ε b B Ω n;refine bG.mk mixed a6 Tryz.func108 Zv Ψ A.obj fun O H=>?_;unfold Lf;rw[uz n];simp[-Ru];(repeat' first|refine al ?_|simp[-Ru]);refine fS (fun i (_:Unit)=>⟨[(0,.row 2 (.obj b) xs.length),(1,aj (bD bF (xs.take i) k).2),(5,aj i)],[],dQ ε b (b6 (k1 bF xs k i)),0,cK (c1 ε b (b6 xs))⟩) xs.length (fun _ _=>True) () ?_ trivial (fun _ _ _=>?_) (fun i _ hi _ _=>?_)
 ·refine gn.to (j _) (g _) ?_ (fun k o h=>by rw[EZ]at h;exact h);simp[-Ru,az,u,bD]
 ·rw[p3,jA];simp[-Ru];(repeat' first|refine al ?_|simp[-Ru]);refine c5.at (c1 ε b (b6 (bD bF xs k).1)) Ψ (oo (by rw[<-p3];exact j _)) (oZ (by rw[<-p3];exact g _)) (fun k cs h=>by simp[-Ru,ae]at h) (fun k o h=>h) ?_;simp[-Ru,dc,ba,be,a1]
 ·obtain⟨x,v,hm,J,U,p,m⟩:=u4 bF k hi;have e:=EX bF k v;have c:=EY bF k v;have y:=fun(t':List (Nat×af)) (st:bp)=>gn.to (t':=t') (st:=st) (ε:=ε) (b:=b) (j (i+1)) (g (i+1));have hlen:((bD bF (xs.take i) k).1++x::xs.drop (i+1)).length=xs.length:=by rw[<-e];exact n7 ..
  rw[e,lA (xs:=_++x::_) Ψ,hlen];generalize F:(bD bF (xs.take i) k).1=M at m e c⊢;generalize G:(bD bF (xs.take i) k).2=K at p c J U⊢;generalize bt:xs.drop (i+1)=R at e c⊢;obtain⟨a,d,rfl⟩:=s x hm;have f:=uy (b:=b+1) (r:=R) (x:= .agg [aj a,aj d]) m;have l:(fK (b+1) (M++ .agg [aj a,aj d]::R)).length=xs.length:=by rw[o6,<-e];exact n7 ..
  rw[YR]at p c U;generalize w:fK (b+1) (M++ .agg [aj a,aj d]::R)=X at f l⊢;simp only at U;have t:∀h,(X[i]'h)= .agg [aj a,aj d]:=fun h=>by rw[cl h]at f;exact e6 f
  clear f;simp[-Ru,hi,t,l];(repeat' first|refine al ?_|simp[-Ru,t,l,hi]);refine bY.rng () hi ?_ ?_
  ·trivial
  rw[show(bD bF (xs.take (i+1)) k).2=K+1+1 from p];refine y _ _ ?_ (fun q o h=>?_)
  ·simp[-Ru,az,u]
  rw[c,lA Ψ]at h;have es:X.set i (.agg [aj K,aj (K+1)])=fK (b+1) (M++ .agg [aj K,aj (K+1)]::R):=by rw[<-w];exact Ha (x:= .agg [aj a,aj d]) (x':= .agg [aj K,aj (K+1)]) m rfl
  rw[es,<-n7 bF xs k (i+1),c];rw[FA]at h⊢;exact h
def aiT(xs:List af)(m:∀x∈xs,Gb x)(k:Int)(b:Nat)(ε:Nat->Nat)(O:0<=k)(P:(bD bF xs k).2<=4611686018427387904):
  bG au 112 [dv b (b6 (bD bF xs k).1),aj k] (c1 ε b (b6 (bD bF xs k).1)) fun r B=>r=aj (bD bF xs k).2/\B=c1 ε b (b6 (bD bF xs k).1):=by
 by_cases u:xs=[]
 ·subst u;exact aiU k b ε
 have F:=wy bF (xs:=xs) k fun x h=>by obtain⟨a,A,rfl⟩:=m x h;exact⟨_,_,_,rfl⟩
 obtain⟨w,v,g,f,q⟩:=HF bF k (sz:=2) ε b (G3 m) Ω u;have n:=fun(t':List (Nat×af)) (st:bp)=>gn.to (t':=t') (st:=st) (ε:=ε) (b:=b) w rfl;refine bG.mk mixed a6 Tryz.func112 Zp Ψ v.obj fun Q N=>?_;unfold K9;rw[uz f,g];simp[-Ru];(repeat' first|refine al ?_|simp[-Ru]);refine fS (fun i (_:Unit)=>⟨[(0,.row 2 (.obj b) xs.length),(1,aj (bD bF (xs.take i) k).2),(5,aj i)],[],dQ ε b (b6 (bD bF xs k).1),0,cK (c1 ε b (b6 (bD bF xs k).1))⟩) xs.length (fun _ _=>True) () ?_ trivial (fun _ _ _=>?_) (fun i _ hi _ _=>?_)
 ·refine n _ _ ?_ (fun k o h=>h);simp[-Ru,az,q,bD]
 ·rw[jA];simp[-Ru];(repeat' first|refine al ?_|simp[-Ru]);refine c5.at (c1 ε b (b6 (bD bF xs k).1)) Ψ v (oZ rfl) (fun k cs h=>by simp[-Ru,ae]at h) (fun k o h=>h) ?_;simp[-Ru,dc,ba,be,a1]
 ·obtain⟨x,z,hm,J,U,l,s⟩:=u4 bF k hi;have d:=E0 bF k z;generalize E:(bD bF xs k).1=Y at*;have e:=lA (ε:=ε) (b:=b) (sz:=2) (t:= .no) f;rw[g]at e;rw[e];generalize H:(bD bF (xs.take i) k).1=M at s d;generalize L:(bD bF (xs.take i) k).2=K at l d J U⊢;obtain⟨a,A,rfl⟩:=m x hm;rw[YR]at l d U;simp only at U;generalize (bD bF (xs.drop (i+1)) _).1=R at d;have c:=uy (b:=b+1) (r:=R) (x:= .agg [aj K,aj (K+1)]) s;rw[<-d]at c;have j:(fK (b+1) Y).length=xs.length:=by rw[o6,g]
  generalize G:fK (b+1) Y=X at c j e⊢;have p:∀h,(X[i]'h)= .agg [aj K,aj (K+1)]:=fun h=>by rw[cl h]at c;exact e6 c
  clear c;simp[-Ru,hi,p,j];(repeat' first|refine al ?_|simp[-Ru,p,j,hi]);refine bY.rng () hi ?_ ?_
  ·trivial
  rw[show(bD bF (xs.take (i+1)) k).2=K+1+1 from l];have y:aB.obj b::(gN ε (b+1) Y).map (fun x=>x.1)=cK (c1 ε b (b6 Y)):=by simp[-Ru,lA f]
  rw[y,<-e];refine n _ _ ?_ (fun k o h=>h)
  ·simp[-Ru,az,q]
def Gc(x:af):Prop:= ∃(a:Int) (s:List cS),x= .agg [aj a,.str s]
def YS(a:Int)(s:List cS)(K:Int):dJ bF (.agg [aj a,.str s]) K=(.agg [aj K,.str (bF (K+1))],K+1+1):=by simp[dJ,bD]
def G4{xs:List af}(h:∀x∈xs,Gc x):dX xs:=AY.2 fun x b=>by obtain⟨a,s,rfl⟩:=h x b;simp[cN,dX]
def asN(k:Int):bU au 109 [b6 [],aj k] (aj k):=by refine bI a6 Tryz.func109 Zs fun a=>?_;unfold Lc;simp;(repeat' first|refine al ?_|simp);refine fS (fun i (_:Unit)=>⟨[(0,b6 []),(1,aj k),(5,aj i)],[],[],0,[]⟩) 0 (fun _ _=>True) () b9 trivial (fun _ _ _=>?_) (fun i _ hi _ _=>Ω);exact cr
def ai2(k:Int)(b:Nat)(ε:Nat->Nat):bG au 109 [dv b (b6 []),aj k] (c1 ε b (b6 [])) fun r a=>r=aj k/\a=c1 ε b (b6 []):=asN k
def asl(k:Int):bU au 113 [b6 [],aj k] (aj k):=by refine bI a6 Tryz.func113 Zn fun a=>?_;unfold K7;simp;(repeat' first|refine al ?_|simp);refine fS (fun i (_:Unit)=>⟨[(0,b6 []),(1,aj k),(5,aj i)],[],[],0,[]⟩) 0 (fun _ _=>True) () b9 trivial (fun _ _ _=>?_) (fun i _ hi _ _=>Ω);exact cr
def aiQ(k:Int)(b:Nat)(ε:Nat->Nat):bG au 113 [dv b (b6 []),aj k] (c1 ε b (b6 [])) fun r a=>r=aj k/\a=c1 ε b (b6 []):=asl k
def ai1(xs:List af)(p:∀x∈xs,Gc x)(k:Int)(b:Nat)(ε:Nat->Nat)(N:0<=k)(O:(bD bF xs k).2<=4611686018427387904):
  bG au 109 [dv b (b6 xs),aj k] (c1 ε b (b6 xs)) fun r A=>r=aj (bD bF xs k).2/\A=c1 ε b (b6 (bD bF xs k).1):=by
 have E:dX xs:=G4 p;by_cases m:xs=[]
 ·subst m;exact ai2 k b ε
 have F:=wy bF (xs:=xs) k fun x h=>by obtain⟨a,s,rfl⟩:=p x h;exact⟨_,_,_,rfl⟩
 obtain⟨B,f,g,u⟩:=IP bF k (sz:=2) ε b E Ω m;refine bG.mk mixed a6 Tryz.func109 Zs Ψ B.obj fun P L=>?_;unfold Lc;rw[uz m];simp[-KL];(repeat' first|refine al ?_|simp[-KL]);refine fS (fun i (_:Unit)=>⟨[(0,.row 2 (.obj b) xs.length),(1,aj (bD bF (xs.take i) k).2),(5,aj i)],[],dQ ε b (b6 (k1 bF xs k i)),0,cK (c1 ε b (b6 xs))⟩) xs.length (fun _ _=>True) () ?_ trivial (fun _ _ _=>?_) (fun i _ hi _ _=>?_)
 ·refine gn.to (g _) (f _) ?_ (fun k o h=>by rw[EZ]at h;exact h);simp[-KL,az,u,bD]
 ·rw[p3,jA];simp[-KL];(repeat' first|refine al ?_|simp[-KL]);refine c5.at (c1 ε b (b6 (bD bF xs k).1)) Ψ (oo (by rw[<-p3];exact g _)) (oZ (by rw[<-p3];exact f _)) (fun k cs h=>by simp[-KL,ae]at h) (fun k o h=>h) ?_;simp[-KL,dc,ba,be,a1]
 ·obtain⟨x,w,hm,J,U,n,l⟩:=u4 bF k hi;have d:=EX bF k w;have c:=EY bF k w;have z:=fun(t':List (Nat×af)) (st:bp)=>gn.to (t':=t') (st:=st) (ε:=ε) (b:=b) (g (i+1)) (f (i+1));have hlen:((bD bF (xs.take i) k).1++x::xs.drop (i+1)).length=xs.length:=by rw[<-d];exact n7 ..
  rw[d,lA (xs:=_++x::_) Ψ,hlen];generalize G:(bD bF (xs.take i) k).1=M at l d c⊢;generalize H:(bD bF (xs.take i) k).2=K at n c J U⊢;generalize bt:xs.drop (i+1)=R at d c⊢;obtain⟨a,s,rfl⟩:=p x hm;have e:=uy (b:=b+1) (r:=R) (x:= .agg [aj a,.str s]) l;have j:(fK (b+1) (M++ .agg [aj a,.str s]::R)).length=xs.length:=by rw[o6,<-d];exact n7 ..
  rw[YS]at n c U;generalize y:fK (b+1) (M++ .agg [aj a,.str s]::R)=X at e j⊢;simp only at U;have v:=CY (K+1) Ω;have t:∀h,(X[i]'h)= .agg [aj a,.str s]:=fun h=>by rw[cl h]at e;exact e6 e
  clear e;simp[-KL,hi,t,j];(repeat' first|refine al ?_|refine aO v ?_|refine aP v ?_|simp[-KL,t,j,hi]);refine bY.rng () hi ?_ ?_
  ·trivial
  rw[show(bD bF (xs.take (i+1)) k).2=K+1+1 from n];refine z _ _ ?_ (fun q o h=>?_)
  ·simp[-KL,az,u]
  rw[c,lA Ψ]at h;have es:X.set i (.agg [aj K,.str (bF (K+1))])=fK (b+1) (M++ .agg [aj K,.str (bF (K+1))]::R):=by rw[<-y];exact Ha (x:= .agg [aj a,.str s]) (x':= .agg [aj K,.str (bF (K+1))]) l rfl
  rw[es,<-n7 bF xs k (i+1),c];rw[FA]at h⊢;exact h
def aiP(xs:List af)(m:∀x∈xs,Gc x)(k:Int)(b:Nat)(ε:Nat->Nat)(P:0<=k)(Q:(bD bF xs k).2<=4611686018427387904):
  bG au 113 [dv b (b6 (bD bF xs k).1),aj k] (c1 ε b (b6 (bD bF xs k).1)) fun r E=>r=aj (bD bF xs k).2/\E=c1 ε b (b6 (bD bF xs k).1):=by
 by_cases w:xs=[]
 ·subst w;exact aiQ k b ε
 have G:=wy bF (xs:=xs) k fun x h=>by obtain⟨a,s,rfl⟩:=m x h;exact⟨_,_,_,rfl⟩
 obtain⟨z,y,g,f,q⟩:=HF bF k (sz:=2) ε b (G4 m) Ω w;have n:=fun(t':List (Nat×af)) (st:bp)=>gn.to (t':=t') (st:=st) (ε:=ε) (b:=b) z rfl;refine bG.mk mixed a6 Tryz.func113 Zn Ψ y.obj fun S O=>?_;unfold K7;rw[uz f,g];simp[-KL];(repeat' first|refine al ?_|simp[-KL]);refine fS (fun i (_:Unit)=>⟨[(0,.row 2 (.obj b) xs.length),(1,aj (bD bF (xs.take i) k).2),(5,aj i)],[],dQ ε b (b6 (bD bF xs k).1),0,cK (c1 ε b (b6 (bD bF xs k).1))⟩) xs.length (fun _ _=>True) () ?_ trivial (fun _ _ _=>?_) (fun i _ hi _ _=>?_)
 ·refine n _ _ ?_ (fun k o h=>h);simp[-KL,az,q,bD]
 ·rw[jA];simp[-KL];(repeat' first|refine al ?_|simp[-KL]);refine c5.at (c1 ε b (b6 (bD bF xs k).1)) Ψ y (oZ rfl) (fun k cs h=>by simp[-KL,ae]at h) (fun k o h=>h) ?_;simp[-KL,dc,ba,be,a1]
 ·obtain⟨x,B,hm,J,U,l,u⟩:=u4 bF k hi;have d:=E0 bF k B;generalize F:(bD bF xs k).1=Y at*;have e:=lA (ε:=ε) (b:=b) (sz:=2) (t:= .no) f;rw[g]at e;rw[e];generalize L:(bD bF (xs.take i) k).1=M at u d;generalize N:(bD bF (xs.take i) k).2=K at l d J U⊢;obtain⟨a,s,rfl⟩:=m x hm;rw[YS]at l d U;simp only at U;generalize (bD bF (xs.drop (i+1)) _).1=R at d;have c:=uy (b:=b+1) (r:=R) (x:= .agg [aj K,.str (bF (K+1))]) u;rw[<-d]at c;have j:(fK (b+1) Y).length=xs.length:=by rw[o6,g]
  generalize H:fK (b+1) Y=X at c j e⊢;have v:=CY (K+1) Ω;have p:∀h,(X[i]'h)= .agg [aj K,.str (bF (K+1))]:=fun h=>by rw[cl h]at c;exact e6 c
  clear c;simp[-KL,hi,p,j];(repeat' first|refine al ?_|refine aO v ?_|refine aP v ?_|simp[-KL,p,j,hi]);refine bY.rng () hi ?_ ?_
  ·trivial
  rw[show(bD bF (xs.take (i+1)) k).2=K+1+1 from l];have A:aB.obj b::(gN ε (b+1) Y).map (fun x=>x.1)=cK (c1 ε b (b6 Y)):=by simp[-KL,lA f]
  rw[A,<-e];refine n _ _ ?_ (fun k o h=>h)
  ·simp[-KL,az,q]
def G7{xs:List af}(c:∀x∈xs,∃a,x=bL a/\∀y∈a,ug y):dX xs:=AY.2 fun x h=>by obtain⟨a,rfl,b⟩:=c x h;simp only[cN];exact⟨Ω,yW b⟩
def asL(k:Int):bU au 107 [cX [],aj k] (aj k):=by refine bI a6 Tryz.func107 Zr fun a=>?_;unfold Lb;simp;(repeat' first|refine al ?_|simp);refine fS (fun i (_:Unit)=>⟨[(0,cX []),(1,aj k),(5,aj i)],[],[],0,[]⟩) 0 (fun _ _=>True) () b9 trivial (fun _ _ _=>?_) (fun i _ hi _ _=>Ω);exact cr
def aiZ(k:Int)(b:Nat)(ε:Nat->Nat):bG au 107 [dv b (cX []),aj k] (c1 ε b (cX [])) fun r a=>r=aj k/\a=c1 ε b (cX []):=asL k
def asi(k:Int):bU au 111 [cX [],aj k] (aj k):=by refine bI a6 Tryz.func111 Zm fun a=>?_;unfold K6;simp;(repeat' first|refine al ?_|simp);refine fS (fun i (_:Unit)=>⟨[(0,cX []),(1,aj k),(5,aj i)],[],[],0,[]⟩) 0 (fun _ _=>True) () b9 trivial (fun _ _ _=>?_) (fun i _ hi _ _=>Ω);exact cr
def aiN(k:Int)(b:Nat)(ε:Nat->Nat):bG au 111 [dv b (cX []),aj k] (c1 ε b (cX [])) fun r a=>r=aj k/\a=c1 ε b (cX []):=asi k
def aiY(xs:List af)(H:∀x∈xs,∃a,x=bL a/\∀y∈a,ug y)(oD:xs.length<=4611686018427387904)(k:Int)(b:Nat)(ε:Nat->Nat)(bA:0<=k)(ab:(bD bF xs k).2<=4611686018427387904):
  bG au 107 [dv b (cX xs),aj k] (c1 ε b (cX xs)) fun r Y=>r=aj (bD bF xs k).2/\Y=c1 ε b (cX (bD bF xs k).1):=by
 have aL:dX xs:=G7 H;by_cases t:xs=[]
 ·subst t;exact aiZ k b ε
 obtain⟨Z,p,q,B⟩:=IP bF k (sz:=1) ε b aL Ω t;refine bG.mk mixed a6 Tryz.func107 Zr Ψ Z.obj fun aR c4=>?_;unfold Lb;rw[uz t];simp;(repeat' first|refine al ?_|simp);refine fS (fun i (_:Unit)=>⟨[(0,.row 1 (.obj b) xs.length),(1,aj (bD bF (xs.take i) k).2),(5,aj i)],[],dQ ε b (cX (k1 bF xs k i)),0,cK (c1 ε b (cX xs))⟩) xs.length (fun _ _=>True) () ?_ trivial (fun _ _ _=>?_) (fun i _ hi _ _=>?_)
 ·refine gn.to (q _) (p _) ?_ (fun k o h=>by rw[EZ]at h;exact h);simp[az,B,bD]
 ·rw[p3,jA];simp;(repeat' first|refine al ?_|simp);refine c5.at (c1 ε b (cX (bD bF xs k).1)) Ψ (oo (by rw[<-p3];exact q _)) (oZ (by rw[<-p3];exact p _)) (fun k cs h=>by simp[ae]at h) (fun k o h=>h) ?_;simp[dc,ba,be,a1]
 ·obtain⟨x,G,hm,J,U,m,F⟩:=u4 bF k hi;have f:=EX bF k G;have c:=EY bF k G;have P:=fun(t':List (Nat×af)) (st:bp)=>gn.to (t':=t') (st:=st) (ε:=ε) (b:=b) (q (i+1)) (p (i+1));have hlen:((bD bF (xs.take i) k).1++x::xs.drop (i+1)).length=xs.length:=by rw[<-f];exact n7 ..
  rw[f,lA (xs:=_++x::_) Ψ,hlen];generalize eG:(bD bF (xs.take i) k).1=M at F f c⊢;generalize dk:(bD bF (xs.take i) k).2=K at m c J U⊢;generalize bt:xs.drop (i+1)=R at f c⊢;obtain⟨a,rfl,w⟩:=H x hm;have d:=uy (b:=b+1) (r:=R) (x:=bL a) F;have s:(fK (b+1) (M++bL a::R)).length=xs.length:=by rw[o6,<-f];exact n7 ..
  simp only[dJ]at m c U;generalize j:dv (b+1+da M) (bL a)=E at d;generalize O:fK (b+1) (M++bL a::R)=X at d s⊢;have S:K<=(bD bF a K).2:=mm ..;have A:∀h,(X[i]'h)=E:=fun h=>by rw[cl h]at d;exact e6 d
  clear d;have L:=VJ a w K (b+1+da M) ε Ω Ω;have z:dX a:=yW w;have g:(bD bF a K).1.length=a.length:=kK ..;have n:da (bD bF a K).1=da a:=mA ..;generalize bD bF a K=Q at g n L m c U S;have u:cells E=[E]:=by rw[<-j];exact T2
  have v:eT E=true:=by rw[<-j];exact abF
  simp[hi,A,s,u,v];(repeat' first|refine al ?_|simp[A,s,hi,u,v]);have V:b5 E=E:=by rw[<-j];exact CP
  rw[V];subst j;refine CallDo.subR (ε:=ε) (b:=b) (l:=M) (r:=R) (y:=bL a) (y':=bL Q.1) (by simp only[cN];exact⟨Ω,z⟩) (ma g n) L rfl rfl ?_ (fun eO N W=>?_)
  ·simp only[aH,az,jd];exact n2 _ _ (by simp only[cN];exact⟨Ω,z⟩)
  ·skip;simp;(repeat' first|refine al ?_|simp);refine bY.rng () hi ?_ ?_
   ·trivial
   rw[show(bD bF (xs.take (i+1)) k).2=Q.2 from m];refine P _ _ ?_ (fun k o h=>?_)
   ·simp[az,B]
   rw[c,lA Ψ]at h;simp only[ae]at h;split at h
   ·rename_i e;subst e;rw[N,<-h,<-O,<-afj (yX g) (ma g n),<-n7 bF xs k (i+1),c]
   ·exact W k o h
def aiM(xs:List af)(N:∀x∈xs,∃a,x=bL a/\∀y∈a,ug y)(oD:xs.length<=4611686018427387904)(k:Int)(b:Nat)(ε:Nat->Nat)(bA:0<=k)(ab:(bD bF xs k).2<=4611686018427387904):
  bG au 111 [dv b (cX (bD bF xs k).1),aj k] (c1 ε b (cX (bD bF xs k).1)) fun r ak=>r=aj (bD bF xs k).2/\ak=c1 ε b (cX (bD bF xs k).1):=by
 by_cases G:xs=[]
 ·subst G;exact aiN k b ε
 obtain⟨P,L,j,g,B⟩:=HF bF k (sz:=1) ε b (G7 N) Ω G;have z:=fun(t':List (Nat×af)) (st:bp)=>gn.to (t':=t') (st:=st) (ε:=ε) (b:=b) P rfl;refine bG.mk mixed a6 Tryz.func111 Zm Ψ L.obj fun aR c4=>?_;unfold K6;rw[uz g,j];simp;(repeat' first|refine al ?_|simp);refine fS (fun i (_:Unit)=>⟨[(0,.row 1 (.obj b) xs.length),(1,aj (bD bF (xs.take i) k).2),(5,aj i)],[],dQ ε b (cX (bD bF xs k).1),0,cK (c1 ε b (cX (bD bF xs k).1))⟩) xs.length (fun _ _=>True) () ?_ trivial (fun _ _ _=>?_) (fun i _ hi _ _=>?_)
 ·refine z _ _ ?_ (fun k o h=>h);simp[az,B,bD]
 ·rw[jA];simp;(repeat' first|refine al ?_|simp);refine c5.at (c1 ε b (cX (bD bF xs k).1)) Ψ L (oZ rfl) (fun k cs h=>by simp[ae]at h) (fun k o h=>h) ?_;simp[dc,ba,be,a1]
 ·obtain⟨x,cB,hm,J,U,n,F⟩:=u4 bF k hi;have c:=E0 bF k cB;generalize uF:(bD bF xs k).1=Y at*;have m:=lA (ε:=ε) (b:=b) (sz:=1) (t:= .no) g;rw[j]at m;rw[m];generalize eG:(bD bF (xs.take i) k).1=M at F c;generalize dk:(bD bF (xs.take i) k).2=K at n c J U⊢;obtain⟨a,rfl,w⟩:=N x hm;simp only[dJ]at n c U;generalize (bD bF (xs.drop (i+1)) _).1=R at c;have d:=uy (b:=b+1) (r:=R) (x:=bL (bD bF a K).1) F;rw[<-c]at d;have q:(fK (b+1) Y).length=xs.length:=by rw[o6,j]
  generalize f:dv (b+1+da M) (bL (bD bF a K).1)=E at d;generalize W:fK (b+1) Y=X at d q m⊢;have Z:K<=(bD bF a K).2:=mm ..;have A:∀h,(X[i]'h)=E:=fun h=>by rw[cl h]at d;exact e6 d
  clear d;have O:=VE a w K (b+1+da M) ε Ω Ω;have p:dX (bD bF a K).1:=q8 _ _ _ (yW w);generalize bD bF a K=Q at p f O n c U Z;have s:cells E=[E]:=by rw[<-f];exact T2
  have v:eT E=true:=by rw[<-f];exact abF
  simp[hi,A,q,s,v];(repeat' first|refine al ?_|simp[A,q,hi,s,v]);have h9:b5 E=E:=by rw[<-f];exact CP
  rw[h9];subst f;refine CallDo.subR (ε:=ε) (b:=b) (l:=M) (r:=R) (y:=bL Q.1) (y':=bL Q.1) (by simp only[cN];exact⟨Ω,p⟩) rfl O c rfl ?_ (fun eO V H=>?_)
  ·simp only[aH,az,jd];exact n2 _ _ (by simp only[cN];exact⟨Ω,p⟩)
  ·skip;have u:¬(Q.2<0):=Ω
   simp[u];(repeat' first|refine al ?_|simp[u]);refine bY.rng () hi ?_ ?_
   ·trivial
   rw[show(bD bF (xs.take (i+1)) k).2=Q.2 from n];have S:aB.obj b::(gN ε (b+1) Y).map (fun x=>x.1)=cK (c1 ε b (cX Y)):=by simp[lA g]
   rw[S,<-m];refine z _ _ ?_ (fun k o h=>?_)
   ·simp[az,B]
   rw[lA g,j,W]at h;simp only[ae]at h;split at h
   ·rename_i e;subst e;rw[V,<-h]
   ·rw[<-c]at H;exact H k o h
def ai3(a br:Int)(s:List cS)(ys:List af)(i:∀y∈ys,jC y)(k:Int)(b:Nat)(ε:Nat->Nat)(m:0<=k)(n:(bD bF ys k).2<=4611686018427387904):
  bG au 23 [dv b (.agg [aj a,aj br,.str s,dx ys]),aj k] (c1 ε b (.agg [aj a,aj br,.str s,dx ys])) fun r f=>r=aj (bD bF ys k).2/\f=c1 ε b (.agg [aj a,aj br,.str s,dx (bD bF ys k).1]):=by
 have l:dX ys:=jC.dtL i;have d:cN (dx ys):=by simp only[cN];exact⟨Ω,l⟩
 have e:cN (dx (bD bF ys k).1):=Ut bF (dx ys) k d;have j:=VL _ ys (dO _) i k b ε m n;have c:bE (dx (bD bF ys k).1)=bE (dx ys):=ma (kK ..) (mA ..);simp only[c1,P4];rw[Dz];have g:ez (c1 ε b (dx ys)):=oo d;generalize bD bF ys k=Q at j c e;refine bG.mk mixed a6 Tryz.func23 aoc Ψ g.obj fun q p=>?_;unfold SU;simp;(repeat' first|refine al ?_|simp);refine CallDo.ob j g (fun k cs h=>by simp[ae]at h) (fun k o h=>?_) ?_ ?_
 ·exact h
 ·simp only[aH,jd];exact⟨adz d,by simp[az]⟩
 rintro r f ⟨rfl,rfl⟩;refine⟨oZ c,?_⟩;simp;(repeat' first|refine al ?_|simp);refine c5.at (c1 ε b (dx Q.1)) Ψ (oo e) (oZ c) (fun k cs h=>by simp[ae]at h) (fun k o h=>?_) ?_
 ·rw[hH];exact h
 simp[dc,ba,be,a1]
structure AD (B aY K M:List af):Prop where
 b:∀x∈B,ug x
 d:∀x∈aY,∃dC,x=bL dC/\∀y∈dC,ug y
 k:∀x∈K,Gb x
 m:∀x∈M,Gc x
 l:aY.length<=4611686018427387904
abbrev kL(n:Int)(B aY K M:List af):af:= .agg [aj n,bL B,cX aY,b6 K,b6 M]
def eh(B:List af)(k:Int):=bD bF B k
def eR(B aY:List af)(k:Int):=bD bF aY (eh B k).2
def fG(B aY K:List af)(k:Int):=bD bF K (eR B aY k).2
def gF(B aY K M:List af)(k:Int):=bD bF M (fG B aY K k).2
def A0(b:Nat)(n:Int)(B aY K M:List af):dv b (kL n B aY K M)= .agg [aj n,dv b (bL B),dv (b+bE (bL B)) (cX aY),dv (b+bE (bL B)+bE (cX aY)) (b6 K),dv (b+bE (bL B)+bE (cX aY)+bE (b6 K)) (b6 M)]:=rfl
def G5{n:Int}{B aY K M:List af}(h:AD B aY K M):cN (kL n B aY K M):=by simp only[cN,dX,jd,true_and];exact⟨⟨Ω,yW h.b⟩,⟨Ω,G7 h.d⟩,⟨Ω,G3 h.k⟩,Ω,G4 h.m⟩
def G6{n:Int}{B aY K M:List af}(h:AD B aY K M)(k:Int):cN (kL n (eh B k).1 (eR B aY k).1 (fG B aY K k).1 (gF B aY K M k).1):=by simp only[cN,dX,jd,true_and];exact⟨⟨Ω,q8 _ _ _ (yW h.b)⟩,⟨Ω,q8 _ _ _ (G7 h.d)⟩,⟨Ω,q8 _ _ _ (G3 h.k)⟩,Ω,q8 _ _ _ (G4 h.m)⟩
def GX(n:Int)(B aY K M:List af):bE (kL n B aY K M)=bE (bL B)+bE (cX aY)+bE (b6 K)+bE (b6 M):=by show 0+(bE (bL B)+(bE (cX aY)+(bE (b6 K)+(bE (b6 M)+0))))=_;omega
def VK(n:Int){B aY K M:List af}(h:AD B aY K M)(k:Int)(b:Nat)(ε:Nat->Nat)(S:0<=k)(U:(gF B aY K M k).2<=4611686018427387904):
  bG au 44 [dv b (kL n B aY K M),aj k] (c1 ε b (kL n B aY K M)) fun r a=>r=aj (gF B aY K M k).2/\a=c1 ε b (kL n (eh B k).1 (eR B aY k).1 (fG B aY K k).1 (gF B aY K M k).1):=by
 have W:k<=(eh B k).2:=mm ..;have R:(eh B k).2<=(eR B aY k).2:=mm ..;have P:(eR B aY k).2<=(fG B aY K k).2:=mm ..;have O:(fG B aY K k).2<=(gF B aY K M k).2:=mm ..;have d0:cN (kL n B aY K M):=G5 h;have d5:cN (kL n (eh B k).1 (eR B aY k).1 (fG B aY K k).1 (gF B aY K M k).1):=G6 h k;have x:ez (c1 ε b (kL n B aY K M)):=oo d0;have w:bE (bL (eh B k).1)=bE (bL B):=ma (kK ..) (mA ..);have v:bE (cX (eR B aY k).1)=bE (cX aY):=ma (kK ..) (mA ..);have u:bE (b6 (fG B aY K k).1)=bE (b6 K):=ma (kK ..) (mA ..);have q:bE (b6 (gF B aY K M k).1)=bE (b6 M):=ma (kK ..) (mA ..);have f1:bG au 106 [dv (b) (bL B),aj k] (c1 ε (b) (bL B)) fun r a=>r=aj (eh B k).2/\a=c1 ε (b) (bL (eh B k).1):=VJ B h.b k (b) ε Ω (show(eh B k).2<=_ by omega);have f2:bG au 107 [dv (b+bE (bL B)) (cX aY),aj (eh B k).2] (c1 ε (b+bE (bL B)) (cX aY)) fun r a=>r=aj (eR B aY k).2/\a=c1 ε (b+bE (bL B)) (cX (eR B aY k).1):=aiY aY h.d h.l (eh B k).2 (b+bE (bL B)) ε Ω (show(eR B aY k).2<=_ by omega);have f3:bG au 108 [dv (b+bE (bL B)+bE (cX aY)) (b6 K),aj (eR B aY k).2] (c1 ε (b+bE (bL B)+bE (cX aY)) (b6 K)) fun r a=>r=aj (fG B aY K k).2/\a=c1 ε (b+bE (bL B)+bE (cX aY)) (b6 (fG B aY K k).1):=ai4 K h.k (eR B aY k).2 (b+bE (bL B)+bE (cX aY)) ε Ω (show(fG B aY K k).2<=_ by omega);have f4:bG au 109 [dv (b+bE (bL B)+bE (cX aY)+bE (b6 K)) (b6 M),aj (fG B aY K k).2] (c1 ε (b+bE (bL B)+bE (cX aY)+bE (b6 K)) (b6 M)) fun r a=>r=aj (gF B aY K M k).2/\a=c1 ε (b+bE (bL B)+bE (cX aY)+bE (b6 K)) (b6 (gF B aY K M k).1):=ai1 M h.m (fG B aY K k).2 (b+bE (bL B)+bE (cX aY)+bE (b6 K)) ε Ω (show(gF B aY K M k).2<=_ by omega);have j:cN (bL B):=by simp only[cN,dX]at d0;exact d0.2.1
 have m:cN (cX aY):=by simp only[cN,dX]at d0;exact d0.2.2.1
 have f:cN (b6 K):=by simp only[cN,dX]at d0;exact d0.2.2.2.1
 have i:cN (b6 M):=by simp only[cN,dX]at d0;exact d0.2.2.2.2.1
 refine bG.mk mixed a6 Tryz.func44 aob Ψ x.obj fun V Q=>?_;unfold SR;rw[A0];simp;(repeat' first|refine al ?_|simp);have e:b+da [aj n]=b:=by show b+(0+0)=_;omega
 refine CallDo.sub (ε:=ε) (b:=b) (l:=[aj n]) (r:=[cX aY,b6 K,b6 M]) (y:=bL B) (y':=bL (eh B k).1) j w (by rw[e];exact f1) (fun k o h=>?_) ?_ (fun J s L=>?_)
 ·exact h
 ·simp only[aH,jd];rw[e];exact⟨n2 _ _ j,by simp[az]⟩
 simp;(repeat' first|refine al ?_|simp);have g:b+da [aj n,bL (eh B k).1]=b+bE (bL B):=by show b+(0+(bE (bL (eh B k).1)+0))=_;omega
 refine CallDo.sub (ε:=ε) (b:=b) (l:=[aj n,bL (eh B k).1]) (r:=[b6 K,b6 M]) (y:=cX aY) (y':=cX (eR B aY k).1) m v (by rw[g];exact f2) (fun k o h=>?_) ?_ (fun E t N=>?_)
 ·exact s k o h
 ·simp only[aH,jd];rw[g];exact⟨n2 _ _ m,by simp[az]⟩
 simp;(repeat' first|refine al ?_|simp);have d:b+da [aj n,bL (eh B k).1,cX (eR B aY k).1]=b+bE (bL B)+bE (cX aY):=by show b+(0+(bE (bL (eh B k).1)+(bE (cX (eR B aY k).1)+0)))=_;omega
 refine CallDo.sub (ε:=ε) (b:=b) (l:=[aj n,bL (eh B k).1,cX (eR B aY k).1]) (r:=[b6 M]) (y:=b6 K) (y':=b6 (fG B aY K k).1) f u (by rw[d];exact f3) (fun k o h=>?_) ?_ (fun A p H=>?_)
 ·exact t k o h
 ·simp only[aH,jd];rw[d];exact⟨n2 _ _ f,by simp[az]⟩
 simp;(repeat' first|refine al ?_|simp);have c:b+da [aj n,bL (eh B k).1,cX (eR B aY k).1,b6 (fG B aY K k).1]=b+bE (bL B)+bE (cX aY)+bE (b6 K):=by show b+(0+(bE (bL (eh B k).1)+(bE (cX (eR B aY k).1)+(bE (b6 (fG B aY K k).1)+0))))=_;omega
 refine CallDo.sub (ε:=ε) (b:=b) (l:=[aj n,bL (eh B k).1,cX (eR B aY k).1,b6 (fG B aY K k).1]) (r:=[]) (y:=b6 M) (y':=b6 (gF B aY K M k).1) i q (by rw[c];exact f4) (fun k o h=>?_) ?_ (fun z F G=>?_)
 ·exact p k o h
 ·simp only[aH,jd];rw[c];exact⟨n2 _ _ i,by simp[az]⟩
 simp;(repeat' first|refine al ?_|simp);refine c5.at (c1 ε b (kL n (eh B k).1 (eR B aY k).1 (fG B aY K k).1 (gF B aY K M k).1)) Ψ (oo d5) (oZ (by rw[GX,GX];omega)) (fun k cs h=>by simp[ae]at h) (fun k o h=>?_) ?_
 ·exact F k o h
 simp[dc,ba,be,a1]
def aiR(n:Int){B aY K M:List af}(h:AD B aY K M)(k:Int)(b:Nat)(ε:Nat->Nat)(X:0<=k)(Y:(gF B aY K M k).2<=4611686018427387904):
  bG au 45 [dv b (kL n (eh B k).1 (eR B aY k).1 (fG B aY K k).1 (gF B aY K M k).1),aj k] (c1 ε b (kL n (eh B k).1 (eR B aY k).1 (fG B aY K k).1 (gF B aY K M k).1)) fun r a=>r=aj (gF B aY K M k).2/\a=c1 ε b (kL n (eh B k).1 (eR B aY k).1 (fG B aY K k).1 (gF B aY K M k).1):=by
 have a7:k<=(eh B k).2:=mm ..;have W:(eh B k).2<=(eR B aY k).2:=mm ..;have U:(eR B aY k).2<=(fG B aY K k).2:=mm ..;have S:(fG B aY K k).2<=(gF B aY K M k).2:=mm ..;have d0:cN (kL n (eh B k).1 (eR B aY k).1 (fG B aY K k).1 (gF B aY K M k).1):=G6 h k;have d5:cN (kL n (eh B k).1 (eR B aY k).1 (fG B aY K k).1 (gF B aY K M k).1):=G6 h k;have F:ez (c1 ε b (kL n (eh B k).1 (eR B aY k).1 (fG B aY K k).1 (gF B aY K M k).1)):=oo d0;have E:bE (bL (eh B k).1)=bE (bL (eh B k).1):=rfl;have A:bE (cX (eR B aY k).1)=bE (cX (eR B aY k).1):=rfl;have z:bE (b6 (fG B aY K k).1)=bE (b6 (fG B aY K k).1):=rfl;have v:bE (b6 (gF B aY K M k).1)=bE (b6 (gF B aY K M k).1):=rfl;have f1:bG au 110 [dv (b) (bL (eh B k).1),aj k] (c1 ε (b) (bL (eh B k).1)) fun r a=>r=aj (eh B k).2/\a=c1 ε (b) (bL (eh B k).1):=VE B h.b k (b) ε Ω (show(eh B k).2<=_ by omega);have f2:bG au 111 [dv (b+bE (bL (eh B k).1)) (cX (eR B aY k).1),aj (eh B k).2] (c1 ε (b+bE (bL (eh B k).1)) (cX (eR B aY k).1)) fun r a=>r=aj (eR B aY k).2/\a=c1 ε (b+bE (bL (eh B k).1)) (cX (eR B aY k).1):=aiM aY h.d h.l (eh B k).2 (b+bE (bL (eh B k).1)) ε Ω (show(eR B aY k).2<=_ by omega);have f3:bG au 112 [dv (b+bE (bL (eh B k).1)+bE (cX (eR B aY k).1)) (b6 (fG B aY K k).1),aj (eR B aY k).2] (c1 ε (b+bE (bL (eh B k).1)+bE (cX (eR B aY k).1)) (b6 (fG B aY K k).1)) fun r a=>r=aj (fG B aY K k).2/\a=c1 ε (b+bE (bL (eh B k).1)+bE (cX (eR B aY k).1)) (b6 (fG B aY K k).1):=aiT K h.k (eR B aY k).2 (b+bE (bL (eh B k).1)+bE (cX (eR B aY k).1)) ε Ω (show(fG B aY K k).2<=_ by omega);have f4:bG au 113 [dv (b+bE (bL (eh B k).1)+bE (cX (eR B aY k).1)+bE (b6 (fG B aY K k).1)) (b6 (gF B aY K M k).1),aj (fG B aY K k).2] (c1 ε (b+bE (bL (eh B k).1)+bE (cX (eR B aY k).1)+bE (b6 (fG B aY K k).1)) (b6 (gF B aY K M k).1)) fun r a=>r=aj (gF B aY K M k).2/\a=c1 ε (b+bE (bL (eh B k).1)+bE (cX (eR B aY k).1)+bE (b6 (fG B aY K k).1)) (b6 (gF B aY K M k).1):=aiP M h.m (fG B aY K k).2 (b+bE (bL (eh B k).1)+bE (cX (eR B aY k).1)+bE (b6 (fG B aY K k).1)) ε Ω (show(gF B aY K M k).2<=_ by omega);have s:cN (bL (eh B k).1):=by simp only[cN,dX]at d0;exact d0.2.1
 have t:cN (cX (eR B aY k).1):=by simp only[cN,dX]at d0;exact d0.2.2.1
 have m:cN (b6 (fG B aY K k).1):=by simp only[cN,dX]at d0;exact d0.2.2.2.1
 have q:cN (b6 (gF B aY K M k).1):=by simp only[cN,dX]at d0;exact d0.2.2.2.2.1
 have e:¬((eh B k).2<0):=Ω
 have f:¬((eR B aY k).2<0):=Ω
 have d:¬((fG B aY K k).2<0):=Ω
 have c:¬((gF B aY K M k).2<0):=Ω
 refine bG.mk mixed a6 Tryz.func45 aoa Ψ F.obj fun Z V=>?_;unfold SQ;rw[A0];simp;(repeat' first|refine al ?_|simp);have j:b+da [aj n]=b:=by show b+(0+0)=_;omega
 refine CallDo.sub (ε:=ε) (b:=b) (l:=[aj n]) (r:=[cX (eR B aY k).1,b6 (fG B aY K k).1,b6 (gF B aY K M k).1]) (y:=bL (eh B k).1) (y':=bL (eh B k).1) s E (by rw[j];exact f1) (fun k o h=>?_) ?_ (fun P w Q=>?_)
 ·exact h
 ·simp only[aH,jd];rw[j];exact⟨n2 _ _ s,by simp[az]⟩
 simp[e,f,d,c];(repeat' first|refine al ?_|simp[e,f,d,c]);have p:b+da [aj n,bL (eh B k).1]=b+bE (bL (eh B k).1):=by show b+(0+(bE (bL (eh B k).1)+0))=_;omega
 refine CallDo.sub (ε:=ε) (b:=b) (l:=[aj n,bL (eh B k).1]) (r:=[b6 (fG B aY K k).1,b6 (gF B aY K M k).1]) (y:=cX (eR B aY k).1) (y':=cX (eR B aY k).1) t A (by rw[p];exact f2) (fun k o h=>?_) ?_ (fun J x R=>?_)
 ·exact w k o h
 ·simp only[aH,jd];rw[p];exact⟨n2 _ _ t,by simp[az]⟩
 simp[e,f,d,c];(repeat' first|refine al ?_|simp[e,f,d,c]);have i:b+da [aj n,bL (eh B k).1,cX (eR B aY k).1]=b+bE (bL (eh B k).1)+bE (cX (eR B aY k).1):=by show b+(0+(bE (bL (eh B k).1)+(bE (cX (eR B aY k).1)+0)))=_;omega
 refine CallDo.sub (ε:=ε) (b:=b) (l:=[aj n,bL (eh B k).1,cX (eR B aY k).1]) (r:=[b6 (gF B aY K M k).1]) (y:=b6 (fG B aY K k).1) (y':=b6 (fG B aY K k).1) m z (by rw[i];exact f3) (fun k o h=>?_) ?_ (fun H u O=>?_)
 ·exact x k o h
 ·simp only[aH,jd];rw[i];exact⟨n2 _ _ m,by simp[az]⟩
 simp[e,f,d,c];(repeat' first|refine al ?_|simp[e,f,d,c]);have g:b+da [aj n,bL (eh B k).1,cX (eR B aY k).1,b6 (fG B aY K k).1]=b+bE (bL (eh B k).1)+bE (cX (eR B aY k).1)+bE (b6 (fG B aY K k).1):=by show b+(0+(bE (bL (eh B k).1)+(bE (cX (eR B aY k).1)+(bE (b6 (fG B aY K k).1)+0))))=_;omega
 refine CallDo.sub (ε:=ε) (b:=b) (l:=[aj n,bL (eh B k).1,cX (eR B aY k).1,b6 (fG B aY K k).1]) (r:=[]) (y:=b6 (gF B aY K M k).1) (y':=b6 (gF B aY K M k).1) q v (by rw[g];exact f4) (fun k o h=>?_) ?_ (fun G L N=>?_)
 ·exact u k o h
 ·simp only[aH,jd];rw[g];exact⟨n2 _ _ q,by simp[az]⟩
 simp[e,f,d,c];(repeat' first|refine al ?_|simp[e,f,d,c]);refine c5.at (c1 ε b (kL n (eh B k).1 (eR B aY k).1 (fG B aY K k).1 (gF B aY K M k).1)) Ψ (oo d5) (oZ rfl) (fun k cs h=>by simp[ae]at h) (fun k o h=>?_) ?_
 ·exact L k o h
 simp[dc,ba,be,a1]
def GN:C:=(aa [cZ 3 0,cZ 4 1,dI 6 ic,bz 7 false] (.seq (aa [I 8 2,aV 9 .neq 8 2,I 10 9,cg 10 true 11 2,ax 10 true (aV 12 .neq 11 3),eg 13 10 12] (aW 13 (aa [jn 14 ic [],bV 5 6 14,bz 7 false] .ret) .skip)) (aa [bk 15 5 3,bk 16 4 4,bk 17 4 4,I 18 2,dT 19 117 [.t 15,(gX 2),.t 16,.t 17,.t 18,(.c (.str []))],cV 20 0 19,cV 21 1 19,bV 5 6 20,I 7 21] .ret)))
def Dp:C:=(aa [cZ 3 0,cZ 4 1,dI 6 ic,bz 7 false] (.seq (aa [bk 13 5 3,bk 14 4 4,fe 15 4 30 [.t 14],cb 16 96 13 15,cO 17 16] (aW 17 (aa [jn 18 ic [],bV 5 6 18,bz 7 false] .ret) .skip)) (aa [aF 20 1 1 3,ay 21 1 20,aF 22 3 1 3,ay 23 1 22,bk 24 4 4,I 25 2,dT 26 118 [.t 21,.t 23,.t 24,.t 25],I 19 26,cV 27 0 19,cV 28 1 19,I 8 27,I 9 28] (.seq (aa [I 29 9,cO 30 29] (aW 30 (aa [jn 31 ic [],bV 5 6 31,bz 7 false] .ret) .skip)) (aa [bk 32 5 3,c0 33 105 32,dI 10 ic,bV 5 10 33] (aa [I 34 8,aF 35 3 1 10,bV 1 35 34] (aa [bk 37 5 10,c0 38 90 37,I 36 38,cV 39 0 36,cV 40 1 36,dI 11 ic,bV 5 11 39,I 12 40] (aa [bk 41 5 11,I 42 12,bV 5 6 41,I 7 42] .ret))))))))
def GD:C:=(aa [cZ 2 0,bz 4 false] (.seq (.drawn true 18 [bk 5 5 2,c0 6 29 5,I 7 6,cg 7 true 8 1,ax 7 true (c0 9 172 8),eg 10 7 9,I 11 10,cg 11 true 12 1,ax 11 true (c0 13 162 12),ax 11 true (aF 14 0 1 2),ax 11 true (ay 15 1 14),ax 11 true (bu 16 .leq 13 15),eg 17 11 16,I 4 17]) .ret))
def TU:C:=(aa [cZ 1 0,dI 2 ic] (.seq (.drawn true 20 [aF 3 0 1 1,ay 4 1 3,aF 5 1 1 1,ay 6 1 5,c0 7 178 6,aF 8 2 1 1,ay 9 1 8,c0 10 179 9,fe 11 2 98 [],aF 12 3 1 1,ay 13 1 12,h1 14 2 98 11 13,fe 15 2 100 [],aF 16 4 1 1,ay 17 1 16,h1 18 2 100 15 17,jn 19 ic [(0,1,(.t 4)),(1,1,(.t 7)),(2,1,(.t 10)),(3,1,(.t 14)),(4,1,(.t 18))],bV 5 2 19]) .ret))
def Sn:C:=(aa [cZ 1 0,dI 2 ic] (.seq (.drawn true 39 [aF 6 0 1 1,ay 7 1 6,aF 8 1 1 1,ay 9 1 8,c0 10 168 9,fe 11 1 46 [],jn 12 ic [(0,1,(.t 7)),(1,1,(.t 10)),(2,1,(.t 11))],dI 3 ic,bV 5 3 12]) (.seq (aa [aF 13 2 1 1,ay 14 1 13,cw 15 14,bP 16 0] (gw 17 16 15 (.seq (.block 1 (aa [ck 18 1 14 16,ay 19 1 18,I 5 19] (.drawn true 39 [aF 20 2 1 3,ay 21 1 20,I 22 5,c0 23 168 22,fe 24 1 46 [.t 23],h1 25 1 46 21 24,aF 26 2 1 3,bV 1 26 25]))) (.region [aV 27 .add 16 1,I 16 27])))) (aa [fe 28 2 98 [],aF 29 3 1 1,ay 30 1 29,h1 31 2 98 28 30,aF 32 3 1 3,bV 1 32 31] (aa [fe 33 2 100 [],aF 34 4 1 1,ay 35 1 34,h1 36 2 100 33 35,aF 37 4 1 3,bV 1 37 36] (aa [bk 38 5 3,bV 5 2 38] .ret))))))
def GS:C:=(aa [cZ 6 0,cZ 8 2,cZ 9 3,dI 12 ic,bz 13 false] (aa [bk 21 5 6,dI 14 ic,bV 5 14 21] (aa [bz 15 true] (.seq (aa [I 22 1,aV 23 .lss 22 2] (aW 23 (aa [aF 25 1 1 6,ay 26 1 25,bk 27 4 8,bk 28 4 9,dT 29 180 [.t 26,.t 27,.t 28],I 24 29,cV 30 0 24,cV 31 1 24,I 16 30,I 17 31] (aa [I 32 1,aV 33 .eql 32 0] (aW 33 (aa [I 34 16,aF 35 1 1 14,bV 1 35 34] (.region [I 36 17,I 15 36])) (aa [I 37 17] (aW 37 (aa [aF 38 1 1 6,ay 39 1 38,I 40 16,cb 41 153 39 40,I 18 41] (aa [I 42 18,cw 43 42,aV 44 .gtr 43 0,I 15 44] (.region [fe 45 1 46 [],aF 46 2 1 6,ay 47 1 46,h1 48 1 46 45 47,I 49 18,fe 50 1 46 [.t 49],h1 51 1 46 48 50,aF 52 2 1 14,bV 1 52 51]))) .skip))))) (aa [aF 54 1 1 6,ay 55 1 54,bk 56 4 8,cb 57 60 55 56,I 53 57,cV 58 0 53,cV 59 1 53,dI 19 eB,bV 4 19 58,I 20 59] (aa [I 60 20,I 15 60] (aa [I 61 15,I 62 61,cg 62 true 63 1,ax 62 true (aV 64 .eql 63 2),eg 65 62 64] (aW 65 (.region [aF 67 3 1 6,ay 68 1 67,bk 69 4 19,I 70 4,dT 71 151 [.t 68,.t 69,.t 70],I 66 71,cV 72 0 66,cV 73 1 66,aF 74 3 1 14,bV 1 74 72,I 15 73]) (aa [I 75 15] (aW 75 (.region [aF 77 4 1 6,ay 78 1 77,bk 79 4 19,I 80 5,dT 81 181 [.t 78,.t 79,.t 80],I 76 81,cV 82 0 76,cV 83 1 76,aF 84 4 1 14,bV 1 84 82,I 15 83]) .skip)))))))) (.seq (aa [I 85 15,cO 86 85] (aW 86 (aa [jn 87 ic [],bV 5 12 87,bz 13 false] .ret) .skip)) (aa [bk 88 5 14,c0 89 81 88,cV 90 0 89,cV 91 1 89,bV 5 12 90,I 13 91] .ret))))))
def w5:C:=(aa [cZ 6 0,cZ 8 2,cZ 9 3,dI 12 ic,bz 13 false] (.seq (aa [bk 16 5 6,c0 17 27 16,cO 18 17,I 19 18,ax 19 false (bk 20 4 8),ax 19 false (c0 21 56 20),ax 19 false (cO 22 21),ds 23 19 22,I 24 23,ax 24 false (bk 25 4 9),ax 24 false (c0 26 56 25),ax 24 false (cO 27 26),ds 28 24 27,I 29 28,ax 29 false (bk 30 4 8),ax 29 false (aF 31 0 1 6),ax 29 false (ay 32 1 31),ax 29 false (cb 33 148 30 32),ax 29 false (cO 34 33),ds 35 29 34,I 36 35,ax 36 false (bk 37 4 9),ax 36 false (aF 38 0 1 6),ax 36 false (ay 39 1 38),ax 36 false (cb 40 148 37 39),ax 36 false (cO 41 40),ds 42 36 41] (aW 42 (aa [jn 43 ic [],bV 5 12 43,bz 13 false] .ret) .skip)) (aa [bk 45 5 6,I 46 1,bk 47 4 8,bk 48 4 9,I 49 4,I 50 5,dT 51 115 [.t 45,.t 46,.t 47,.t 48,.t 49,.t 50],I 44 51,cV 52 0 44,cV 53 1 44,dI 14 ic,bV 5 14 52,I 15 53] (.seq (aa [I 54 15,cO 55 54] (aW 55 (aa [jn 56 ic [],bV 5 12 56,bz 13 false] .ret) .skip)) (aa [bk 57 5 14,c0 58 104 57,bV 5 12 58,bz 13 true] .ret)))))
def TH:C:=(aa [fw 2 5] (aa [fe 6 5 113 [],I 3 6] (.seq (aa [I 7 0,cw 8 7,bP 9 0] (gw 10 9 8 (.seq (.block 1 (aa [ck 11 5 7 9,bk 12 5 11,dI 5 ku,bV 5 5 12] (.drawn true 24 [I 13 3,aF 14 0 1 5,ay 15 1 14,hp 16 1 4 5,bk 17 4 16,c0 18 130 17,jn 19 ku [(0,1,(.t 15)),(1,4,(.t 18))],fe 20 5 113 [.t 19],h1 21 5 113 13 20,I 3 21]))) (.region [aV 22 .add 9 1,I 9 22])))) (aa [I 23 3,I 2 23] .ret))))
def TQ:C:=(aa [fw 2 1] (aa [fe 6 1 46 [],I 3 6] (.seq (aa [I 7 0,cw 8 7,bP 9 0] (gw 10 9 8 (.seq (.block 1 (aa [ck 11 1 7 9,ay 12 1 11,I 5 12] (.region [I 13 3,I 14 5,c0 15 178 14,fe 16 1 46 [.t 15],h1 17 1 46 13 16,I 3 17]))) (.region [aV 18 .add 9 1,I 9 18])))) (aa [I 19 3,I 2 19] .ret))))
def O7:b4 aT GN [.cell 6 true 5,.tmp 7] 3 Tryz.f48=true:=bi
def I0:b4 aT Dp [.cell 6 true 5,.tmp 7] 3 Tryz.f49=true:=bi
def O0:b4 aT GD [.tmp 4] 2 Tryz.f96=true:=bi
def apa:b4 aT TU [.cell 2 true 5] 1 Tryz.f104=true:=bi
def anI:b4 aT Sn [.cell 2 true 5] 1 Tryz.f105=true:=bi
def Pc:b4 aT GS [.cell 12 true 5,.tmp 13] 6 Tryz.f115=true:=bi
def zT:b4 aT w5 [.cell 12 true 5,.tmp 13] 6 Tryz.f117=true:=bi
def aoX:b4 aT TH [.tmp 2] 1 Tryz.f178=true:=bi
def ao6:b4 aT TQ [.tmp 2] 1 Tryz.f179=true:=bi
def EA(t:T)(k:Nat)(st:bp):Prop:=
 (k=t.args.length/\st=⟨[(2,.ptr (.loc 1) 0),(3,.ptr (.loc 2) 0),(14,.slice 4 .no (t.args.map T.e)),(15,.int .i64 t.args.length),(16,.int .i64 0)],[(.loc 1,[.int .i64 0,.int .i64 0,.str [],.slice 4 .nil []]),(.loc 2,[.int .i64 t.kind,.int .i64 t.int,.str t.name,.slice 4 .nil []])],[],3,[]⟩)\/
 ∃i:Nat,1<=i/\i<=t.args.length/\k=t.args.length-i/\st=⟨[(2,.ptr (.loc 1) 0),(3,.ptr (.loc 2) 0),(14,.slice 4 .no (t.args.map T.e)),(15,.int .i64 t.args.length),(16,.int .i64 i)],[(.loc 1,[.int .i64 0,.int .i64 0,.str [],.slice 4 .nil []]),(.loc 2,[.int .i64 t.kind,.int .i64 t.int,.str t.name,.slice 4 (.own (.loc 29)) ((t.args.take i).map T.e)])],[(.loc 29,⟨i,30,4,none⟩)],30,[]⟩
def acD(t:T):bU au 130 [t.e] t.e:=by
 induction t with
 |pair a b h g=>
  refine bI a6 Tryz.func130 E8 fun f=>?_;unfold AQ;simp;refine qq (EA (.pair a b)) 2 _ b9 (.inl ⟨rfl,rfl⟩) ?_;rintro k st (⟨c,rfl⟩|⟨i,J,U,c,rfl⟩) d e;all_goals clear d e
  ·simp;(repeat' first|refine al ?_|refine aO h ?_|refine aP h ?_|simp);refine bY.next 1 (by rw[c];simp) (.inr ⟨1,Ω,Ψ,rfl,rfl⟩) b9
  ·rcases(by simp at U;omega:i=1\/i=2)with rfl|rfl
   ·simp;(repeat' first|refine al ?_|refine aO g ?_|refine aP g ?_|simp);refine bY.next 0 (by rw[c];simp) (.inr ⟨2,Ω,Ψ,rfl,rfl⟩) b9
   ·exact cr
 |nil=>
  refine bI a6 Tryz.func130 E8 fun f=>?_;unfold AQ;simp;refine qq (EA (.nil)) 0 _ b9 (.inl ⟨rfl,rfl⟩) ?_;rintro k st (⟨c,rfl⟩|⟨i,J,U,c,rfl⟩) d e;all_goals clear d e
  ·exact cr
  ·simp at U;omega
 |var n=>
  refine bI a6 Tryz.func130 E8 fun f=>?_;unfold AQ;simp;refine qq (EA (.var n)) 0 _ b9 (.inl ⟨rfl,rfl⟩) ?_;rintro k st (⟨c,rfl⟩|⟨i,J,U,c,rfl⟩) d e;all_goals clear d e
  ·exact cr
  ·simp at U;omega
 |sym s=>
  refine bI a6 Tryz.func130 E8 fun f=>?_;unfold AQ;simp;refine qq (EA (.sym s)) 0 _ b9 (.inl ⟨rfl,rfl⟩) ?_;rintro k st (⟨c,rfl⟩|⟨i,J,U,c,rfl⟩) d e;all_goals clear d e
  ·exact cr
  ·simp at U;omega
 |num n=>
  refine bI a6 Tryz.func130 E8 fun f=>?_;unfold AQ;simp;refine qq (EA (.num n)) 0 _ b9 (.inl ⟨rfl,rfl⟩) ?_;rintro k st (⟨c,rfl⟩|⟨i,J,U,c,rfl⟩) d e;all_goals clear d e
  ·exact cr
  ·simp at U;omega
def acG(t:List Bd)(g:t.length<=1000000):bU au 178 [.slice 5 .no (t.map Bd.e)] (.slice 5 .no (t.map Bd.e)):=by
 refine bI a6 Tryz.func178 aoX fun f=>?_;unfold TH;simp;(repeat' first|refine al ?_|simp);refine fS (α:=List Bd) (fun i out=>⟨[(7,.slice 5 .no (t.map Bd.e)),(8,.int .i64 t.length),(3,.slice 5 (.own (.loc 0)) (out.map Bd.e)),(9,.int .i64 i)],[],[(.loc 0,⟨out.length,113,5,none⟩)],1,[]⟩) t.length (fun i out=>out=t.take i) [] b9 Ψ (fun out a _=>?_) (fun i out hi a _=>?_)
 ·rw[iv (dO _)]at a;subst a;exact cr
 ·obtain⟨b,d,c⟩:=eW hi;have e:out.length<=1000000:=by rw[a];simp;omega
  simp[hi,c];(repeat' first|refine al ?_|refine aO (acD _) ?_|refine aP (acD _) ?_|simp[c,hi]);all_goals try refine⟨by unfold lim;omega,?_⟩
  all_goals(repeat' first|refine al ?_|simp)
  all_goals refine bY.rng (out++[b]) hi (by rw[nG d,a]) ?_
  all_goals simp
  all_goals exact⟨by simp[fresh,aH,az,cc,aM,ae,j0],eo (by simp[fresh,aH,az,cc,aM,ae,j0]),ep (by simp[fresh,aH,az,dV,aM,ae,j0]),Ψ⟩
def o9(n:Int)(l:List Tm):Prop:= ∃x:List T,l=x.map T.tm/\(∀t∈x,t.fit=true)/\∀t∈x,gi n t=true
def ace{x y:List T}(h:x.map T.tm=y.map T.tm):x=y:=(List.map_inj_right fun _ _=>QK).1 h
def afm(l:List T):(l.map T.tm).map enc=l.map T.e:=by rw[List.map_map];exact List.map_congr_left fun t _=>mB t
def Ve:∀{l:List Tm},l.all Tm.fits=true->∃x:List T,l=x.map T.tm/\∀t∈x,t.fit=true
 |[],_=>⟨[],rfl,Ψ⟩
 |t::l,h=>by rw[List.all_cons,cQ]at h;obtain⟨x,rfl,U⟩:=Ve h.2;obtain⟨y,rfl,b⟩:=Tm.fits_ex h.1;exact⟨y::x,rfl,fun z a=>(gI.1 a).elim (fun e=>by rw[e];exact b) (U z)⟩
def Me{n:Int}{l:List Tm}(h:o9 n l):∀t∈l,t.fits=true:=fun t b=>by obtain⟨x,rfl,U,_⟩:=h;obtain⟨y,a,rfl⟩:=gZ.1 b;rw[Tm.fits_T];exact U y a
def ail{n:Int}{x y:T}(a:x.fit=true)(b:y.fit=true)(J:gi n x=true)(U:gi n y=true):o9 n [x.tm,y.tm]:=⟨[x,y],rfl,by simp[a,b],by simp[J,U]⟩
def Vd{n:Int}{x y:T}(h:o9 n [x.tm,y.tm]):(x.fit=true/\y.fit=true)/\gi n x=true/\gi n y=true:=by obtain⟨l,e,J,U⟩:=h;have:=ace (x:=[x,y]) e;subst this;exact⟨⟨J x Ψ,J y Ψ⟩,U x Ψ,U y Ψ⟩
def acW{n:Int}:∀(l:List T) (m:Int),l.foldl (fun m t=>t.fold sL m) m<=n↔m<=n/\∀t∈l,gi n t=true
 |[],m=>by simp
 |t::l,m=>by rw[List.foldl_cons,acW l,Ki];simp[and_assoc]
def qJ.fin{α:Type}{p:α->Bool}{s:List α}(h:qJ p s s.length ()):∀b∈s,p b=true:=fun b a=>by obtain⟨i,hi⟩:=List.mem_iff_getElem?.1 a;exact h i b (by have:=(fH.1 hi).1;omega) hi
def as7(l:List Tm):bU au 172 [dx (l.map enc)] (.bool (l.all Tm.fits)):=by
 generalize bt:l.all Tm.fits=R;refine bI a6 Tryz.func172 Zk fun e=>?_;unfold K4;have h:l.length<=68719476736:=by simp[eM,eV,eN,lim]at e;omega
 simp;refine eZ [5,6] (fun i (_:Unit)=>[(7,aj i)]) l.length (qJ Tm.fits l) () b9 (fun k b j=>Ω) (fun _ a _=>?_) (fun i _ hi a _=>?_)
 ·have:R=true:=by rw[<-bt,j6];exact a.fin
  subst this;clear a bt;exact cr
 ·obtain⟨t,c,f⟩:=eW hi;have d:=J7 t;cases g:t.fits
  ·rw[g]at d;have:R=false:=by rw[<-bt,List.all_eq_false];exact⟨t,ft c,by rw[g];simp⟩
   subst this;clear c a bt;exact cr
  ·rw[g]at d;have m:=a.step c g;clear c a bt;exact iV
open Classical in
def acB(r:gm)(c:iU r.m->kM r.m)(l:List Tm):bU au 96 [r.e,dx (l.map enc)] (.bool (decide (ka r/\o9 r.n l))):=by
 generalize bt:decide (ka r/\o9 r.n l)=R;have a:=arZ r c;have g:=as7 l;have f:=fun h:ka r=>(ka.raw h).n;by_cases g1:ka r;rotate_left
 ·rw[mv g1]at a;have:R=false:=by rw[<-bt];exact mv fun h=>g1 h.1
  subst this;obtain⟨n,b,d,k,m⟩:=r;simp only[gm.e]at a⊢;clear bt f c g1;refine bI a6 Tryz.func96 O0 fun o=>?_;unfold GD;exact cr
 rw[lJ g1]at a;cases g2:l.all Tm.fits
 ·rw[g2]at g;have:R=false:=by rw[<-bt];refine mv fun h=>?_;obtain⟨x,rfl,U,_⟩:=h.2;rw[List.all_eq_false]at g2;obtain⟨t,v,p⟩:=g2;obtain⟨y,u,rfl⟩:=gZ.1 v;rw[Tm.fits_T]at p;exact p (U y u)
  subst this;obtain⟨n,b,d,k,m⟩:=r;simp only[gm.e]at a⊢;clear bt f c g1 g2;refine bI a6 Tryz.func96 O0 fun o=>?_;unfold GD;exact cr
 rw[g2]at g;obtain⟨x,rfl,i⟩:=Ve g2;rw[afm]at g⊢;have s:=acu x i;have j:decide (yw x<=r.n)=R:=by rw[<-bt,yw];refine decide_eq_decide.2 ?_;rw[acW];refine⟨fun h=>⟨g1,x,rfl,i,h.2⟩,fun h=>⟨(f g1).1,?_⟩⟩;obtain⟨y,e,_,U⟩:=h.2;rw[ace e];exact U
 generalize yw x=q at s j;obtain⟨n,b,d,k,m⟩:=r;simp only[gm.e]at a j⊢;clear bt f c g1 g2 i;subst j;refine bI a6 Tryz.func96 O0 fun o=>?_;unfold GD;exact cr
def BT(S:aB->Prop)(l:List (List Bd))(d:List Bd):aH S (l.map cP++[cP d])=True:=uU S l d
def ar3{x:List Bd}(h:x.length<=1000000):bU au 168 [cP x] (cP x):=acw x h
def ar4(s:de)(f:s.b.length<=1000000)(j:∀x∈s.d,x.length<=1000000)(o:s.k.length<=1000000)(hm:s.m.length<=68719470000):bU au 105 [s.e] s.e:=by
 obtain⟨n,b,d,k,m⟩:=s;simp only[de.e]at f j o hm⊢;have c:=acw b f;refine bI a6 Tryz.func105 anI fun h=>?_;unfold Sn;have p:d.length<=68719476736:=by simp[eM,eV,eN,lim]at h;omega
 clear h;simp;(repeat' first|refine al ?_|refine aO c ?_|refine aP c ?_|simp);refine fS (fun i (L:List (List Bd))=>⟨[(1,.ptr (.loc 0) 0),(2,.ptr (.loc 1) 0),(3,.ptr (.loc 5) 0),(14,cX (d.map cP)),(15,aj d.length),(16,aj i)],[(.loc 0,[aj n,bL (b.map Bd.e),cX (d.map cP),b6 (k.map bH.e),b6 (m.map bo.e)]),(.loc 1,[aj 0,.slice 5 .nil [],.slice 1 .nil [],.slice 2 .nil [],.slice 2 .nil []]),(.loc 5,[aj n,bL (b.map Bd.e),.slice 1 (.own (.loc 13)) (L.map cP),.slice 2 .nil [],.slice 2 .nil []])],[(.loc 13,⟨L.length,46,1,none⟩)],41,[]⟩) d.length (fun i L=>L=d.take i) [] b9 Ψ (fun L a _=>?_) (fun i L hi a _=>?_)
 ·rw[jA]at a;subst a;simp;(repeat' first|refine al ?_|simp);all_goals try refine⟨by unfold lim;omega,?_⟩
  exact cr
 ·obtain⟨x,g,e⟩:=eW hi;have l:=ar3 (j x (ft g));have q:L.length<=i:=by rw[a];simp;omega
  simp[hi,e];(repeat' first|refine al ?_|refine aO l ?_|refine aP l ?_|simp[e,hi]);all_goals try refine⟨by unfold lim;omega,?_⟩
  (repeat' first|refine al ?_|simp);refine bY.rng (L++[x]) hi (by rw[nG g,a]) ?_;simp;exact⟨by simp[fresh,aH,az,cc,aM,ae,BT],eo (by simp[fresh,aH,az,cc,aM,ae,BT]),ep (by simp[fresh,aH,az,dV,aM,ae,BT]),Ψ⟩
def T.fit_ok{x:T}(h:x.fit=true):x.ok=true:=by simp only[T.fit,cQ]at h;exact h.1
def atd(r:gm)(a b:Tm):(¬ka r/\¬(ka r/\o9 r.n [a,b]))\/(ka r/\a.fits=false/\¬(ka r/\o9 r.n [a,b]))\/(ka r/\a.fits=true/\b.fits=false/\¬(ka r/\o9 r.n [a,b]))\/
  (ka r/\∃x y:T,a=x.tm/\b=y.tm/\x.fit=true/\y.fit=true/\((ka r/\o9 r.n [a,b])↔(gi r.n x&&gi r.n y)=true)):=by
 by_cases g:ka r;rotate_left
 ·exact .inl ⟨g,fun h=>g h.1⟩
 refine .inr ?_;cases g1:a.fits
 ·refine .inl ⟨g,rfl,fun h=>?_⟩;have:=Me h.2 a Ψ;rw[g1]at this;cases this
 refine .inr ?_;cases g2:b.fits
 ·refine .inl ⟨g,rfl,rfl,fun h=>?_⟩;have:=Me h.2 b Ψ;rw[g2]at this;cases this
 obtain⟨x,rfl,c⟩:=Tm.fits_ex g1;obtain⟨y,rfl,d⟩:=Tm.fits_ex g2;exact .inr ⟨g,x,y,rfl,rfl,c,d,by rw[cQ];exact⟨fun h=>(Vd h.2).2,fun h=>⟨g,ail c d h.1 h.2⟩⟩⟩
open Classical in
def asK(r:gm)(j:iU r.m->kM r.m)(a b:Tm)(w:¬(ka r/\o9 r.n [a,b]))(z kk:Int)(tag:List cS):bU au 117 [r.e,aj z,enc a,enc b,aj kk,.str tag] (qR none):=by
 simp only[qR,k5,kf,hI,de.e];have c:=acR r j;have f:=C0 a;have i:=C0 b;rcases atd r a b with⟨g,e⟩|⟨g,g1,e⟩|⟨g,g1,g2,e⟩|⟨g,x,y,rfl,rfl,u,v,e⟩
 ·skip;rw[mv g]at c;clear j g e f i;obtain⟨n,b2,d,k,m⟩:=r;simp only[gm.e]at c⊢;refine bI a6 Tryz.func117 zT fun o=>?_;unfold w5;simp;((repeat' first|refine al ?_|refine aO c ?_|refine aP c ?_|simp|((first|apply ct|apply cz|apply cy)<;>intro h<;>try simp at h))<;>(try exact c3));all_goals simp[bZ,ba,be,a1]
 ·skip;rw[lJ g]at c;rw[g1]at f;clear j g e g1 i;obtain⟨n,b2,d,k,m⟩:=r;simp only[gm.e]at c⊢;refine bI a6 Tryz.func117 zT fun o=>?_;unfold w5;simp;((repeat' first|refine al ?_|refine aO c ?_|refine aP c ?_|refine aO f ?_|refine aP f ?_|simp|((first|apply ct|apply cz|apply cy)<;>intro h<;>try simp at h))<;>(try exact c3));all_goals simp[bZ,ba,be,a1]
 ·skip;rw[lJ g]at c;rw[g1]at f;rw[g2]at i;clear j g e g1 g2;obtain⟨n,b2,d,k,m⟩:=r;simp only[gm.e]at c⊢;refine bI a6 Tryz.func117 zT fun o=>?_;unfold w5;simp;((repeat' first|refine al ?_|refine aO c ?_|refine aP c ?_|refine aO f ?_|refine aP f ?_|refine aO i ?_|refine aP i ?_|simp|((first|apply ct|apply cz|apply cy)<;>intro h<;>try simp at h))<;>(try exact c3));all_goals simp[bZ,ba,be,a1]
 rw[lJ g]at c;rw[Tm.fits_T,u,mB]at f;rw[Tm.fits_T,v,mB]at i;rw[mB,mB];have t:=Aq r.n x;have s:=Aq r.n y;have l:(gi r.n x&&gi r.n y)=false:=Bool.eq_false_iff.2 fun h=>w (e.2 h);clear j g u v e w;obtain⟨n,b2,d,k,m⟩:=r;simp only[gm.e]at c t s l⊢;generalize gi n x=p at t l;generalize gi n y=q at s l;cases p
 ·refine bI a6 Tryz.func117 zT fun o=>?_;unfold w5;exact cr
 ·simp only[Bool.true_and]at l;subst l;refine bI a6 Tryz.func117 zT fun o=>?_;unfold w5;exact cr
def asq{x:List Bd}(h:x.length<=1000000):bU au 178 [cP x] (cP x):=acG x h
def asC(t:List (List Bd))(g:∀x∈t,x.length<=1000000):bU au 179 [cX (t.map cP)] (cX (t.map cP)):=by
 refine bI a6 Tryz.func179 ao6 fun e=>?_;unfold TQ;have h:t.length<=68719476736:=by simp[eM,eV,eN,lim]at e;omega
 clear e;have c:=fun x b=>asq (g x b);simp;(repeat' first|refine al ?_|simp);refine fS (fun i (L:List (List Bd))=>⟨[(7,cX (t.map cP)),(8,aj t.length),(3,.slice 1 (.own (.loc 0)) (L.map cP)),(9,aj i)],[],[(.loc 0,⟨L.length,46,1,none⟩)],1,[]⟩) t.length (fun i L=>L=t.take i) [] b9 Ψ (fun L a _=>?_) (fun i L hi a _=>?_)
 ·rw[jA]at a;subst a;exact cr
 ·obtain⟨x,b,d⟩:=eW hi;have f:=c x (ft b);have j:L.length<=i:=by rw[a];simp;omega
  clear c;simp[hi,d];(repeat' first|refine al ?_|refine aO f ?_|refine aP f ?_|simp[d,hi]);all_goals try refine⟨by unfold lim;omega,?_⟩
  all_goals(repeat' first|refine al ?_|simp)
  all_goals refine bY.rng (L++[x]) hi (by rw[nG b,a]) ?_
  all_goals simp
  all_goals exact⟨by simp[fresh,aH,az,cc,aM,ae,BT],eo (by simp[fresh,aH,az,cc,aM,ae,BT]),ep (by simp[fresh,aH,az,dV,aM,ae,BT]),Ψ⟩
def asH(s:de)(e:s.b.length<=1000000)(g:∀x∈s.d,x.length<=1000000)(f:s.k.length<=1000000)(hm:s.m.length<=68719470000):bU au 104 [s.e] s.e:=by
 have c:=acG s.b e;have a:=asC s.d g;obtain⟨n,b,d,k,m⟩:=s;simp only[de.e]at c a f hm⊢;refine bI a6 Tryz.func104 apa fun h=>?_;unfold TU;simp;(repeat' first|refine al ?_|refine aO c ?_|refine aP c ?_|refine aO a ?_|refine aP a ?_|simp);all_goals try refine⟨by unfold lim;omega,?_⟩
 exact cr
def aqN{s t:de}(hm:kM s.m)(he:j4 s=some t):kM t.m:=by
 obtain⟨G,a,bf⟩:=hm;refine⟨G,a,?_⟩;have:=Qh he;unfold j4 at he;split at he
 ·cases he
 ·split at he
  ·cases he
  ·rename_i m e;split at he
   ·cases he
   ·split at he
    ·have U:=Jw bf (fun x c=>by simp at c) e;have b:=e6 he;rw[<-b];exact QG U
    ·cases he
open Classical in
def asJ{s:de}(h:ve s)(hm:kM s.m){x y:T}(l:x.fit=true)(o:y.fit=true)(bx:gi s.n x=true)(p:gi s.n y=true){r kk:Int}{tag:List cS}{F:bd de}{t:de}{q:Bool}
  (u:bU au 115 [s.e,aj r,x.e,y.e,aj kk,.str tag] (.tuple [t.e,.bool q])) (a:q=true->F=some t) (j:q=false->F=none) (f:F=some t->ve t/\kM t.m):bU au 117 [s.e,aj r,x.e,y.e,aj kk,.str tag] (qR F):=by
 have e:=acR s.r fun _=>hm;rw[lJ ⟨s,rfl,h⟩,FR]at e;have E:=C0 x.tm;have w:=C0 y.tm;rw[Tm.fits_T,l,mB]at E;rw[Tm.fits_T,o,mB]at w;have i:=Aq s.n x;have g:=Aq s.n y;rw[bx]at i;rw[p]at g;cases q
 ·rw[j rfl];clear h hm l o bx p a j f;obtain⟨n,b,d,k,m⟩:=s;obtain⟨tn,H,G,v,tm⟩:=t;simp only[de.e,qR,hI,k5,kf]at e i g u⊢;refine bI a6 Tryz.func117 zT fun B=>?_;unfold w5;exact cr
 ·have a:=a rfl;obtain⟨c,bf⟩:=f a;rw[a];have J:=asH t c.1.b.len (fun z A=>(c.1.d z A).len) (by have:=ss c.1.k;omega) (bf.len c.1.m);clear h hm l o bx p a j c f bf;obtain⟨n,b,d,k,m⟩:=s;obtain⟨tn,H,G,v,tm⟩:=t;simp only[de.e,qR,lI,rU]at e i g u J⊢;refine bI a6 Tryz.func117 zT fun B=>?_;unfold w5;exact cr
def aqM{s t:de}(he:j4 s=some t):t.d.length<=30:=by
 unfold j4 at he;split at he
 ·cases he
 split at he
 ·cases he
 split at he
 ·cases he
 split at he
 ·rename_i h;have:=e6 he;rw[<-this];exact h
 ·cases he
open Classical in
noncomputable def su(s:de)(t:T)(k:Int):bd de:=if(k=2\/k=3)/\(t.ap (cG s.b)).size<=5000 then(jr s.k (t.ap (cG s.b)) k).bind fun l=>j4 {s with k:=l}else none
def oQ.apb{s:de}(h:oQ s){t:T}(a:gi s.n t=true){w:Int}(hw:(t.ap (cG s.b)).occ w=true):w<s.n:=by obtain⟨v,J,U⟩:=Cg.1 hw;exact NR h.b h.bb (Gw.1 a v J) U
def oQ.apo{s:de}(h:oQ s){t:T}(a:t.fit=true):(t.ap (cG s.b)).ok=true:=FG h.b.ok (T.fit_ok a)
def oQ.knd{s:de}(h:oQ s){t:T}(c:t.fit=true)(d:gi s.n t=true){k:Int}(b:k=2\/k=3){l:List bH}(he:jr s.k (t.ap (cG s.b)) k=some l):oQ {s with k:=l}:=⟨h.n,h.b,h.d,Gr h.k (h.apo c) b he,h.m,h.bb,h.db,fun x a=>(KF he x a).elim (h.kb x) fun e=>h.apb d (by rw[e];simp[T.occ]),h.mb⟩
def X1{s u:de}(h:oQ s){t:T}(a:t.fit=true)(b:gi s.n t=true){k:Int}(he:su s t k=some u):ve u:=by
 unfold su at he;split at he
 ·rename_i g;obtain⟨l,J,U⟩:=mX.1 he;exact(abz (h.knd a b g.1 J) U).1
 ·cases he
def X2{s u:de}(hm:kM s.m){t:T}{k:Int}(he:su s t k=some u):kM u.m:=by
 unfold su at he;split at he
 ·obtain⟨l,J,U⟩:=mX.1 he;exact aqN (s:={s with k:=l}) hm U
 ·cases he
mutual
def hQ:af->Nat
 | .int _ _=>1
 | .str _=>1
 | .slice _ _ xs=>iF xs
 | .agg cs=>iF cs
 |_=>0
def iF:List af->Nat
 |[]=>0
 |x::xs=>hQ x+iF xs
end
mutual
def amV(c8:Int->List cS):∀(p:af) (k:Int),(dJ c8 p k).2=k+hQ p
 | .int _ _,k=>by simp[dJ,hQ]
 | .str _,k=>by simp[dJ,hQ]
 | .slice _ _ xs,k=>by simp only[dJ,hQ];exact xZ c8 xs k
 | .agg cs,k=>by simp only[dJ,hQ];exact xZ c8 cs k
 | .bool _,k=>by simp[dJ,hQ]
 | .junk,k=>by simp[dJ,hQ]
 | .ptr _ _,k=>by simp[dJ,hQ]
 | .eptr _,k=>by simp[dJ,hQ]
 | .iface _ _,k=>by simp[dJ,hQ]
 | .nilp,k=>by simp[dJ,hQ]
 | .tuple _,k=>by simp[dJ,hQ]
 | .func _ _,k=>by simp[dJ,hQ]
 | .gmap _,k=>by simp[dJ,hQ]
 | .row _ _ _,k=>by simp[dJ,hQ]
 | .rptr _ _ _ _ _,k=>by simp[dJ,hQ]
 | .hdm _ _,k=>by simp[dJ,hQ]
 | .hdi _ _ _,k=>by simp[dJ,hQ]
 | .cst _,k=>by simp[dJ,hQ]
def xZ(c8:Int->List cS):∀(a:List af) (k:Int),(bD c8 a k).2=k+iF a
 |[],k=>by simp[bD,iF]
 |x::xs,k=>by simp only[bD,iF];rw[xZ c8 xs,amV c8 x];omega
end
def YP(B aY K M:List af)(k:Int):(gF B aY K M k).2=k+(iF B+iF aY+iF K+iF M:Nat):=by unfold gF fG eR eh;rw[xZ,xZ,xZ,xZ];omega
def Kk{α:Type}{f:α->af}{c:Nat}:∀(l:List α),(∀x∈l,hQ (f x)<=c)->iF (l.map f)<=c*l.length
 |[],_=>by simp[iF]
 |x::l,h=>by have J:=h x Ψ;have U:=Kk l fun y a=>h y (by simp[a]);simp only[gY,iF,mV,Nat.mul_succ];omega
mutual
def Q6:∀t:Tm,hQ (enc t)=3*t.sz
 | .mk k n s a=>by simp only[enc,hQ,iF,Tm.sz,ac4 a];omega
def ac4:∀l:List Tm,iF (mc l)=3*Tm.szL l
 |[]=>rfl
 |x::xs=>by simp only[mc,iF,Tm.szL,Q6 x,ac4 xs];omega
end
mutual
def Ie:∀t:Tm,jC (enc t)
 | .mk k n s a=>by simp only[enc];exact .mk k n s (mc a) fun y b=>Xl a y b
def Xl:∀(l:List Tm),∀y∈mc l,jC y
 |[],y,h=>by simp[mc]at h
 |x::xs,y,h=>by
  simp only[mc,gI]at h;rcases h with rfl|h
  ·exact Ie x
  ·exact Xl xs y h
end
def alK(t:T):jC t.e:=by rw[<-mB];exact Ie _
mutual
def QB:∀(t:Tm) (m:Int),0<=hz (qa t) m->hz (qa t) m+t.sz<=m+1
 | .mk k n s a,m,h=>by
  simp only[qa,hz]at h⊢;have b:(hB.s s).len=s.length:=rfl;have c:(qX a).length=a.length:=by rw[acd];simp
  by_cases g1:m-(hB.s s).len<0
  ·rw[if_pos g1]at h;omega
  by_cases g2:m-(hB.s s).len-((qX a).length:Int)<0
  ·rw[if_neg g1,if_pos g2]at h;omega
  rw[if_neg g1,if_neg g2]at h⊢;have:=ab2 a _ h;simp only[Tm.sz];omega
def ab2:∀(l:List Tm) (m:Int),0<=qU (qX l) m->qU (qX l) m+Tm.szL l<=m+l.length
 |[],m,h=>by simp[qX,qU,Tm.szL]
 |x::xs,m,h=>by
  simp only[qX,qU]at h⊢;split at h
  ·omega
  rename_i g;rw[if_neg g];have J:=QB x m Ω;have U:=ab2 xs _ h;simp only[Tm.szL,mV];omega
end
def abY{α β:Type}{f:α->Int->Int}{g:β->α}{w:β->af}:∀(l:List β) (m:Int),(∀x m,0<=f (g x) m->(hQ (w x):Int)<=4*(m-f (g x) m)+4)->0<=jQ f (l.map g) m->(iF (l.map w):Int)<=4*(m-jQ f (l.map g) m)+4*l.length
 |[],m,_,h=>by simp[jQ,iF]
 |x::xs,m,a,h=>by
  simp only[gY,jQ]at h⊢;split at h
  ·omega
  rename_i q;rw[if_neg q];have J:=a x m Ω;have U:=abY xs _ a h;simp only[iF,mV];omega
def QC{α β:Type}{f:α->Int->Int}{g:β->α}{w:β->af}(l:List β)(m:Int)(a:∀x m,0<=f (g x) m->(hQ (w x):Int)<=4*(m-f (g x) m)+4)(h:0<=mq f (l.map g) m):(iF (l.map w):Int)<=4*(m-mq f (l.map g) m):=by
 unfold mq at h⊢;split at h
 ·omega
 rename_i q;rw[if_neg q];have:=abY l _ a h;simp at this q⊢;omega
def ath(x:Bt)(m:Int)(h:0<=qT (vF x) m):(hQ x.e:Int)<=4*(m-qT (vF x) m)+4:=by
 have J:0<=hz (qa x.t) m:=h;have U:=QB x.t m J;have b:hQ x.e=1+3*x.t.sz:=by have a:=Q6 x.t;rw[vI]at a;simp only[hQ,iF]at a;simp only[Bt.e,hQ,iF];omega
 have a:qT (vF x) m=hz (qa x.t) m:=rfl;have c:1<=x.t.sz:=by cases x.t;simp[Tm.sz]
 rw[b,a];omega
def abV(l:List Bt)(m:Int)(h:0<=eE (ha l) m):(iF (l.map Bt.e):Int)<=4*(m-eE (ha l) m):=QC l m ath h
def ati(x:List Bt)(m:Int)(h:0<=eE (ha x) m):(hQ (gz x):Int)<=4*(m-eE (ha x) m)+4:=by have:=abV x m h;simp only[gz,hQ];omega
def atk(x:bo)(m:Int)(h:0<=jR (pg x) m):(hQ x.e:Int)<=4*(m-jR (pg x) m)+4:=by
 have J:hQ x.e=2:=rfl;have U:=(pg x).s.len_nn;unfold jR at h⊢;by_cases g:m-(pg x).s.len<0
 ·rw[if_pos g]at h;omega
 ·rw[if_neg g]at h⊢;omega
def ac5(l:List bH):iF (l.map bH.e)=2*l.length:=by
 induction l with
 |nil=>rfl
 |cons x l a=>simp only[gY,iF,mV,a];show 1+(1+0)+_=_;omega
structure l7 (b d k m:List af):Prop where
 f:AD b d k m
 w:iF b+iF d+iF k+iF m<=1000000000000
def l7.le{B aY K M:List af}(h:l7 B aY K M):(gF B aY K M 1).2<=4611686018427387904:=by have:=h.w;rw[YP];omega
def arv(n:Int)(b:dA fP)(d:dA (dA fP))(k:dA bH)(m:dA ix)(q:Int):rK ⟨n,b,d,k,m⟩ q=if eE b q<0 then-1 else if fs eE d (eE b q)<0 then-1 else if lC k (fs eE d (eE b q))<0 then-1 else if fs jR m (lC k (fs eE d (eE b q)))<0 then-1 else fs jR m (lC k (fs eE d (eE b q))):=rfl
def l7.raw{r:gm}{q:Int}(o:0<=q)(B:q<=1048576)(h:0<=rK r.h q):l7 (r.b.map Bt.e) (r.d.map gz) (r.k.map bH.e) (r.m.map bo.e):=by
 obtain⟨n,b,d,k,m⟩:=r;have h:0<=rK ⟨n,ha b,.l (d.map ha),.l k,.l (m.map pg)⟩ q:=h;rw[arv]at h;have A:=vg (ha b) q o;by_cases g1:eE (ha b) q<0
 ·rw[if_pos g1]at h;omega
 rw[if_neg g1]at h;have E:=vh vg (.l (d.map ha)) (eE (ha b) q) Ω;by_cases g2:fs eE (.l (d.map ha)) (eE (ha b) q)<0
 ·rw[if_pos g2]at h;omega
 rw[if_neg g2]at h;have v:=J0 (.l k) (fs eE (.l (d.map ha)) (eE (ha b) q)) Ω;by_cases g3:lC (.l k) (fs eE (.l (d.map ha)) (eE (ha b) q))<0
 ·rw[if_pos g3]at h;omega
 rw[if_neg g3]at h;by_cases g4:fs jR (.l (m.map pg)) (lC (.l k) (fs eE (.l (d.map ha)) (eE (ha b) q)))<0
 ·rw[if_pos g4]at h;omega
 rw[if_neg g4]at h;have t:=abV b q Ω;have i:=QC (f:=eE) (g:=ha) (w:=gz) d (eE (ha b) q) ati (by simpa only[fs]using(by omega:0<=fs eE (.l (d.map ha)) (eE (ha b) q)));have e:=QC (f:=jR) (g:=pg) (w:=bo.e) m _ atk (by simpa only[fs]using h);have s:=ac5 k;have F:(k.length:Int)<=1048576:=by
  by_cases g:fs eE (.l (d.map ha)) (eE (ha b) q)-k.length<0
  ·simp only[lC,if_pos g]at g3;omega
  ·omega
 have G:(d.length:Int)<=1048576:=by
  by_cases g:eE (ha b) q-(d.map ha).length<0
  ·simp only[fs,mq,if_pos g]at g2;omega
  ·simp at g;omega
 have c:mq eE (d.map ha) (eE (ha b) q)=fs eE (.l (d.map ha)) (eE (ha b) q):=rfl;have p:mq jR (m.map pg) (lC (.l k) (fs eE (.l (d.map ha)) (eE (ha b) q)))=fs jR (.l (m.map pg)) (lC (.l k) (fs eE (.l (d.map ha)) (eE (ha b) q))):=rfl;rw[c]at i;rw[c,p]at e;have isB:∀(l:List Bt),∀x∈l.map Bt.e,ug x:=fun l x a=>by obtain⟨y,_,rfl⟩:=gZ.1 a;exact⟨_,_,_,_,_,rfl,fun z j=>by obtain⟨u,_,rfl⟩:=gZ.1 j;exact Ie u⟩
 refine⟨⟨isB b,fun x a=>?_,fun x a=>?_,fun x a=>?_,by simp;omega⟩,by simp only;omega⟩
 ·obtain⟨y,_,rfl⟩:=gZ.1 a;exact⟨_,rfl,isB y⟩
 ·obtain⟨y,_,rfl⟩:=gZ.1 a;exact⟨_,_,rfl⟩
 ·obtain⟨y,_,rfl⟩:=gZ.1 a;exact⟨_,_,rfl⟩
def atj(t:T):hQ t.e=3*t.size:=by
 induction t with
 |pair a b d c=>simp only[T.e,hQ,iF,T.size,d,c];omega
 |_=>rfl
def ac6{s:List Bd}(h:fl s):iF (s.map Bd.e)<=15001*400:=by
 have J:=Kk (f:=Bd.e) (c:=15001) s fun x b=>by have U:=h.fits.2 x b;have a:=atj x.t;rw[T.e_eq]at a;simp only[hQ,iF]at a;simp only[Bd.e,hQ,iF];omega
 have U:=h.fits.1;omega
def l7.of{s:de}(h:ve s)(hm:s.m.length<=68719470000):l7 (s.b.map Bd.e) (s.d.map cP) (s.k.map bH.e) (s.m.map bo.e):=by
 have isB:∀(l:List Bd),∀x∈l.map Bd.e,ug x:=fun l x a=>by obtain⟨y,_,rfl⟩:=gZ.1 a;exact⟨_,_,_,_,_,rfl,fun z b=>by obtain⟨u,_,rfl⟩:=gZ.1 b;exact alK u⟩
 have k:=aqM h.2;have g:=ac6 h.1.b;have i:=Kk (f:=cP) (c:=15001*400) s.d fun x a=>by simp only[cP,hQ];exact ac6 (h.1.d x a)
 have d:=ac5 s.k;have e:=Kk (f:=bo.e) (c:=2) s.m fun x _=>dO 2;have j:=ss h.1.k;refine⟨⟨isB s.b,fun x a=>?_,fun x a=>?_,fun x a=>?_,by simp;omega⟩,Ω⟩
 ·obtain⟨y,_,rfl⟩:=gZ.1 a;exact⟨_,rfl,isB y⟩
 ·obtain⟨y,_,rfl⟩:=gZ.1 a;exact⟨_,_,rfl⟩
 ·obtain⟨y,_,rfl⟩:=gZ.1 a;exact⟨_,_,rfl⟩
def l7.zero:l7 (hI.b.map Bd.e) (hI.d.map cP) (hI.k.map bH.e) (hI.m.map bo.e):=⟨⟨fun x h=>by simp[hI]at h,fun x h=>by simp[hI]at h,fun x h=>by simp[hI]at h,fun x h=>by simp[hI]at h,by simp[hI]⟩,by simp[hI,iF]⟩
def arw(r:pG)(m:Int)(h:0<=m):rK r m<=m:=by
 have c:=vg r.b m h;unfold rK;split
 ·omega
 have d:=vh vg r.d (eE r.b m) Ω;split
 ·omega
 have b:=J0 r.k (fs eE r.d (eE r.b m)) Ω;split
 ·omega
 have a:=vh FT r.m (lC r.k (fs eE r.d (eE r.b m))) Ω;split<;>omega
@[simp]def awi(n:Nat):(aB.loc n=ei)=eu:=eq_false (Cf n)
@[simp]def aw9(n:Nat):(ei=aB.loc n)=eu:=eq_false fun h=>Cf n h.symm
@[simp]def awj(m b n:Nat):(aB.loc m∈FW b n)=eu:=eq_false fun h=>by obtain⟨_,e,_⟩:=Yx.1 h;cases e
@[simp]def awk(m:Nat)(ε:Nat->Nat)(b:Nat)(p:af):ae (aB.loc m) (dQ ε b p)=none:=(KB ε b p).2 m
def _root_.Go.Pv.CallDo.tree{P:cI}{n:Nat}{args:List af}{st:bp}{d:bd Nat}{K:bp->Prop}{ε:Nat->Nat}{b:Nat}{p c e:af}(i:cN p)(aw:bE c=bE p)
  (j:bG P n args (c1 ε b p) fun g f=>g=e/\f=c1 ε b c) (he:st.e=dQ ε b p) (a:aH (rng b (b+bE p)) args) (h:K ⟨e5 d e st.t,st.b,dQ ε b c,st.n,st.o++cK (c1 ε b c)⟩):CallDo P n args st d K:=by
 refine CallDo.ob j (oo i) (fun k cs a=>by simp[ae]at a) (fun k o a=>by rw[he];exact a) (jj (fun k a=>(Dc k).2 a) _ a) ?_;rintro r f ⟨rfl,rfl⟩;refine⟨oZ aw,?_⟩;rw[he,hH,C2];simpa using h
def Ub(n:Int)(B aY K M:List af)(k:Int):bE (kL n (eh B k).1 (eR B aY k).1 (fG B aY K k).1 (gF B aY K M k).1)=bE (kL n B aY K M):=by rw[GX,GX];have d:bE (bL (eh B k).1)=bE (bL B):=ma (kK ..) (mA ..);have c:bE (cX (eR B aY k).1)=bE (cX aY):=ma (kK ..) (mA ..);have b:bE (b6 (fG B aY K k).1)=bE (b6 K):=ma (kK ..) (mA ..);have a:bE (b6 (gF B aY K M k).1)=bE (b6 M):=ma (kK ..) (mA ..);omega
def afk(b:Nat)(n:Int)(B aY K M:List af)(k:Int):dv b (kL n (eh B k).1 (eR B aY k).1 (fG B aY K k).1 (gF B aY K M k).1)=dv b (kL n B aY K M):=by have g:bE (bL (eh B k).1)=bE (bL B):=ma (kK ..) (mA ..);have f:bE (cX (eR B aY k).1)=bE (cX aY):=ma (kK ..) (mA ..);have e:bE (b6 (fG B aY K k).1)=bE (b6 K):=ma (kK ..) (mA ..);rw[A0,A0,g,f,e];have c:∀b,dv b (bL (eh B k).1)=dv b (bL B):=fun b=>yX (kK ..);have d:∀b,dv b (cX (eR B aY k).1)=dv b (cX aY):=fun b=>yX (kK ..);have a:∀b,dv b (b6 (fG B aY K k).1)=dv b (b6 K):=fun b=>yX (kK ..);have h:∀b,dv b (b6 (gF B aY K M k).1)=dv b (b6 M):=fun b=>yX (kK ..);rw[c,d,a,h]
def XY{b:Nat}{n:Int}{B aY K M:List af}(h:AD B aY K M)(k:Int):aH (rng b (b+bE (kL n B aY K M))) [dv b (kL n B aY K M),aj k]:=⟨n2 _ _ (G5 h),by simp[az],trivial⟩
mutual
def Uq:∀t:Tm,cN (enc t)
 | .mk k n s a=>by simp only[enc,cN,dX,true_and,jd];exact⟨Ω,LI a⟩
def LI:∀l:List Tm,dX (mc l)
 |[]=>trivial
 |x::xs=>⟨Uq x,LI xs⟩
end
@[simp]def auu(l:List Tm):dX (l.map enc)=True:=by rw[<-A1];exact h2 (LI l)
@[simp]def aut(l:List T):dX (l.map T.e)=True:=h2 ((w9 T.e l).2 fun x _=>by rw[<-mB];exact Uq _)
@[simp]def auq(l:List Bt):dX (l.map Bt.e)=True:=h2 ((w9 Bt.e l).2 fun x _=>by show True/\True/\True/\True/\(0<4/\dX (x.t.args.map enc))/\True;simp)
@[simp]def aup(l:List Bd):dX (l.map Bd.e)=True:=h2 ((w9 Bd.e l).2 fun x _=>by show True/\True/\True/\True/\(0<4/\dX (x.t.args.map T.e))/\True;simp)
@[simp]def aus(l:List (List Bt)):dX (l.map gz)=True:=h2 ((w9 gz l).2 fun x _=>by simp[gz,cN])
@[simp]def aur(l:List (List Bd)):dX (l.map cP)=True:=h2 ((w9 cP l).2 fun x _=>by simp[cP,cN])
@[simp]def auv(l:List bH):dX (l.map bH.e)=True:=h2 ((w9 bH.e l).2 fun x _=>⟨trivial,trivial,trivial⟩)
@[simp]def auw(l:List bo):dX (l.map bo.e)=True:=h2 ((w9 bo.e l).2 fun x _=>⟨trivial,trivial,trivial⟩)
@[reducible,simp] def Dn(t:Nat->jF)(n:Int)(b:List Bt)(d:List (List Bt))(k:List bH)(m:List bo):List af:=[aj n,.slice 5 (t 0) (b.map Bt.e),.slice 1 (t 1) (d.map gz),.slice 2 (t 2) (k.map bH.e),.slice 2 (t 3) (m.map bo.e)]
@[reducible,simp] def yP(t:Nat->jF)(n:Int)(b:List Bd)(d:List (List Bd))(k:List bH)(m:List bo):List af:=[aj n,.slice 5 (t 0) (b.map Bd.e),.slice 1 (t 1) (d.map cP),.slice 2 (t 2) (k.map bH.e),.slice 2 (t 3) (m.map bo.e)]
@[reducible,simp] def AM(t:Nat->jF)(a:Tm):List af:=[aj a.kind,aj a.num,.str a.name,.slice 4 (t 0) (a.args.map enc)]
@[reducible,simp] def wP(_:Nat):jF:= .lo ei
@[reducible,simp] def CR(n j:Nat):jF:= .tr (.loc n) j
@[reducible,simp] def QE(_:Nat):jF:= .no
def Uw(b:Nat)(n:Int)(B aY K M:List af):fK b [aj n,bL B,cX aY,b6 K,b6 M]=[aj n,dv b (bL B),dv (b+bE (bL B)) (cX aY),dv (b+bE (bL B)+bE (cX aY)) (b6 K),dv (b+bE (bL B)+bE (cX aY)+bE (b6 K)) (b6 M)]:=rfl
def afi(b:Nat)(a br:Int)(s:List cS)(ys:List af):fK b [aj a,aj br,.str s,dx ys]=[aj a,aj br,.str s,dv b (dx ys)]:=rfl
def arE{a:Tm}{q:Int}(b:q<=1048576)(h:0<=hz (qa a) q)(k:Int):(bD bF (a.args.map enc) k).2<=k+3145731:=by have J:=QB a q h;have U:=Q6 a;rw[vI]at U;simp only[hQ,iF]at U;rw[xZ];omega
def l7.k{B aY K M:List af}(h:l7 B aY K M):1<=(gF B aY K M 1).2/\(gF B aY K M 1).2<=1000000000001:=by have:=h.w;rw[YP];omega
def afl{a:Tm}:∀y∈a.args.map enc,jC y:=fun y b=>by obtain⟨u,_,rfl⟩:=gZ.1 b;exact Ie u
def ae1(a br:Int)(s:List cS)(ys:List af)(k:Int):bE (.agg [aj a,aj br,.str s,dx (bD bF ys k).1])=bE (.agg [aj a,aj br,.str s,dx ys]):=by rw[w8,w8];exact ma (kK ..) (mA ..)
def Up(a:Tm):cN (.agg [aj a.kind,aj a.num,.str a.name,dx (a.args.map enc)]):=by simp[cN,dX]
def l7.opt{O:bd de}(h:∀t,O=some t->ve t/\kM t.m):l7 ((O.getD hI).b.map Bd.e) ((O.getD hI).d.map cP) ((O.getD hI).k.map bH.e) ((O.getD hI).m.map bo.e):=by
 cases O with
 |none=>exact l7.zero
 |some t=>obtain⟨J,U⟩:=h t rfl;exact l7.of J (U.len J.1.m)
open Classical in
def asg{s:de}(h:ve s)(hm:kM s.m){x:T}(a:x.fit=true)(bx:gi s.n x=true):bU au 96 [s.e,dx [x.e]] (.bool true):=by have:=acB s.r (fun _=>hm) [x.tm];rw[lJ ⟨⟨s,rfl,h⟩,⟨[x],rfl,by simp[a],fun t b=>by rw[List.mem_singleton.1 b];exact bx⟩⟩,FR]at this;simpa[mB]using this
open Classical in
def Y1{s:de}(h:ve s)(hm:kM s.m){x:T}(i:x.fit=true)(bx:gi s.n x=true)(k:Int):fW au 49 [s.e,x.e,aj k] (qS (su s x k)):=by
 have c:=asg h hm i bx;have a:=arQ h.1.b h.1.k x i k;have e:=ar4 s h.1.b.len (fun z p=>(h.1.d z p).len) (by have:=ss h.1.k;omega) (hm.len h.1.m);unfold su;by_cases g:(k=2\/k=3)/\(x.ap (cG s.b)).size<=5000
 ·rw[if_pos g]at a;rw[if_pos g];cases hu:jr s.k (x.ap (cG s.b)) k with
  |none=>
   rw[hu]at a;clear h e hu g;obtain⟨n,b,d,bs,m⟩:=s;simp only[de.e,nB,Option.bind_none,k5,kf]at c a⊢;refine fW.mk mixed a6 Tryz.func49 I0 Ψ fun j κ=>?_;unfold Dp;simp;(repeat' first|refine al ?_|refine aO c ?_|refine aP c ?_|refine aO a ?_|refine aP a ?_|simp);all_goals(refine h4.val Ψ ?_;simp[ba,be,a1,e9,hn,eC,gR,ef,gH,tnL,tn,fq,gb,fold,hE,hC,iH,ae,ei,cf,b5])
   all_goals simp[qS,hI,de.kk]
  |some l=>
   rw[hu]at a;obtain⟨G,o,bf⟩:=hm;have f:=Y4 (h.1.knd i bx g.1 hu) o bf;rw[lH];generalize j4 {s with k:=l}=O at f;clear h hu g;obtain⟨n,b,d,bs,m⟩:=s;simp only[de.e,nB,lI,rU]at c a e f⊢;unfold qS de.kk at f⊢;refine fW.mk mixed a6 Tryz.func49 I0 Ψ fun j κ=>?_;unfold Dp;simp;(repeat' first|refine al ?_|refine aO c ?_|refine aP c ?_|refine aO a ?_|refine aP a ?_|refine aO e ?_|refine aP e ?_|simp);(refine CallDo.own Ψ (f) (by simp[ei]) ?_;simp);(repeat' first|refine al ?_|simp);all_goals(refine h4.val Ψ ?_;simp[ba,be,a1,e9,hn,eC,gR,ef,gH,tnL,tn,fq,gb,fold,hE,hC,iH,ae,ei,cf,b5])
   all_goals simp[de.kk]
 ·rw[if_neg g];rw[if_neg g]at a;clear h e g;obtain⟨n,b,d,bs,m⟩:=s;simp only[de.e,nB,Option.bind_none,k5,kf]at c a⊢;refine fW.mk mixed a6 Tryz.func49 I0 Ψ fun j κ=>?_;unfold Dp;simp;(repeat' first|refine al ?_|refine aO c ?_|refine aP c ?_|refine aO a ?_|refine aP a ?_|simp);all_goals(refine h4.val Ψ ?_;simp[ba,be,a1,e9,hn,eC,gR,ef,gH,tnL,tn,fq,gb,fold,hE,hC,iH,ae,ei,cf,b5])
  all_goals simp[qS,hI,de.kk]
def aqv(s:de):∃t:de,∃q:Bool,CG s= .tuple [t.e,.bool q]/\(q=true->j4 s=some t)/\(q=false->j4 s=none):=by
 refine⟨_,_,rfl,(fun h=>?_),fun h=>?_⟩
 ·obtain⟨t,a⟩:=fx.1 h;rw[Qh a];exact a
 ·cases e:j4 s with
  |none=>rfl
  |some t=>rw[e]at h;cases h
noncomputable def JG(s:de)(x:T)(k:Int):af:=if(x.ap (cG s.b)).size<=5000 then(match jr s.k (x.ap (cG s.b)) k with
 |none=>.tuple [hI.e,.bool false]
 |some l=>CG {s with k:=l})else .tuple [hI.e,.bool false]
def aqx(s:de)(x:T){k:Int}(a:k=2\/k=3):∃t:de,∃q:Bool,JG s x k= .tuple [t.e,.bool q]/\(q=true->su s x k=some t)/\(q=false->su s x k=none):=by
 unfold JG su;by_cases g:(x.ap (cG s.b)).size<=5000
 ·rw[if_pos g,if_pos ⟨a,g⟩];cases jr s.k (x.ap (cG s.b)) k with
  |none=>exact⟨hI,false,rfl,(fun h=>by cases h),fun _=>rfl⟩
  |some l=>exact aqv _
 ·rw[if_neg g,if_neg fun h=>g h.2];exact⟨hI,false,rfl,(fun h=>by cases h),fun _=>rfl⟩
def asG{s:de}(h:oQ s)(hm:kM s.m){x:T}(j:x.fit=true)(bx:gi s.n x=true){k:Int}(o:k=2\/k=3)(y:T)(tag:List cS):bU au 115 [s.e,aj 2,x.e,y.e,aj k,.str tag] (JG s x k):=by
 have c:=Kc s.b h.b.len x;have a:=QV s.k (by have:=ss h.k;omega) h.k.asc (x.ap (cG s.b)) k;unfold JG;by_cases g:(x.ap (cG s.b)).size<=5000
 ·rw[lJ g]at c;rw[if_pos g];cases hu:jr s.k (x.ap (cG s.b)) k with
  |none=>rw[hu]at a;generalize x.ap (cG s.b)=y at c a;clear h hu g;obtain⟨n,b,d,bs,m⟩:=s;simp only[de.e,oO,hI,k5,kf]at c a⊢;refine bI a6 Tryz.func115 Pc fun f=>?_;unfold GS;exact cr
  |some l=>rw[hu]at a;obtain⟨G,i,bf⟩:=hm;have e:=acL (h.knd j bx o hu) i bf;generalize x.ap (cG s.b)=y at c a;simp only[CG]at e⊢;generalize Ag {s with k:=l}=t at e;generalize (j4 {s with k:=l}).isSome=q at e;clear h hu g;obtain⟨n,b,d,bs,m⟩:=s;obtain⟨tn,u,r,p,tm⟩:=t;simp only[de.e,oO,lI,rU]at c a e⊢;refine bI a6 Tryz.func115 Pc fun f=>?_;unfold GS;exact cr
 ·rw[mv g]at c;rw[if_neg g];generalize x.ap (cG s.b)=y at c a;clear a;clear h g;obtain⟨n,b,d,bs,m⟩:=s;simp only[de.e,hI]at c⊢;refine bI a6 Tryz.func115 Pc fun f=>?_;unfold GS;exact cr
def asT{s:de}(h:ve s)(hm:kM s.m){x:T}(a:x.fit=true)(bx:gi s.n x=true){k:Int}(g:k=2\/k=3):bU au 48 [s.e,x.e,aj k] (qR (su s x k)):=by
 have f:=asG h.1 hm a bx g x [];obtain⟨t,q,j,l,i⟩:=aqx s x g;rw[j]at f;have c:=asJ h hm a a bx bx f l i fun e=>⟨X1 h.1 a bx e,X2 hm e⟩;generalize su s x k=O at c⊢;clear h hm f j l i;obtain⟨n,b,d,bs,m⟩:=s;simp only[qR,de.e]at c⊢;rcases g with rfl|rfl;all_goals refine bI a6 Tryz.func48 O7 fun o=>?_;unfold GN
 all_goals simp
 all_goals(repeat' first|refine al ?_|refine aO c ?_|refine aP c ?_|simp)
 all_goals simp[bZ,ba,be,a1]
def GI:aY:=(.sq (.region [cZ 3 0,cZ 4 1,bz 6 false]) (.sq (.region [bP 7 1048576]) (.sq (.region [bk 19 5 3,I 20 7,cb 21 26 19 20,I 7 21]) (.sq (aa [I 22 7,aV 23 .lss 22 0] (aW 23 (aa [bz 6 true] .ret) .skip)) (.sq (.region [bk 24 4 4,I 25 7,cb 26 15 24 25,I 7 26]) (.sq (aa [I 27 7,aV 28 .lss 27 0] (aW 28 (aa [bz 6 true] .ret) .skip)) (.sq (.drawn true 124 [bk 30 5 3,c0 31 28 30,bk 32 4 4,c0 33 18 32,I 34 2,dT 35 48 [.t 31,.t 33,.t 34],I 29 35,cV 36 0 29,cV 37 1 29,dI 8 ic,bV 5 8 36,I 9 37]) (.sl (.sq (.region [bk 38 5 3,c0 39 28 38,dI 10 ic,bV 5 10 39]) (.sq (.region [bk 40 4 4,c0 41 18 40,dI 11 eB,bV 4 11 41]) (.sq (.region [bk 43 5 10,bk 44 4 11,I 45 2,dT 46 49 [.t 43,.t 44,.t 45],I 42 46,cV 47 0 42,cV 48 1 42,dI 12 ic,bV 5 12 47,I 13 48]) (.sq (aa [bk 49 5 12,bk 50 5 8,cb 51 30 49 50,cO 52 51,I 53 52,cg 53 false 54 13,cg 53 false 55 9,ax 53 false (cd 56 (.beq true none (.t 54) (.t 55))),ds 57 53 56] (aW 57 (aa [bz 6 false] .ret) .skip)) (.sq (.seq (.drawn true 124 [bk 58 5 10,bk 59 5 3,c0 60 28 59,cb 61 30 58 60,cO 62 61]) (aW 62 (aa [bz 6 false] .ret) .skip)) (.sq (.seq (.drawn true 124 [bk 63 4 11,bk 64 4 4,c0 65 18 64,cb 66 22 63 65,cO 67 66]) (aW 67 (aa [bz 6 false] .ret) .skip)) (.sq (.region [bP 14 1]) (.th 10 (.sq (.region [bk 68 5 10,I 69 14,cb 70 44 68 69,I 14 70]) (.th 11 (.sq (.region [bk 71 4 11,I 72 14,cb 73 23 71 72,I 14 73]) (.sq (aa [I 74 14,aV 75 .lss 74 0,I 76 75,ax 76 false (bk 77 5 12),ax 76 false (bk 78 5 8),ax 76 false (cb 79 30 77 78),ax 76 false (cO 80 79),ds 81 76 80,I 82 81,cg 82 false 83 13,cg 82 false 84 9,ax 82 false (cd 85 (.beq true none (.t 83) (.t 84))),ds 86 82 85] (aW 86 (aa [bz 6 false] .ret) .skip)) (.sq (.region [bP 15 1]) (.th 12 (.sq (.region [bk 87 5 12,I 88 15,cb 89 44 87 88,I 15 89]) (.sq (.region [bP 16 1]) (.sq (.region [bk 90 5 12,I 91 16,cb 92 45 90 91,I 16 92]) (.sq (aa [I 93 16,aV 94 .lss 93 0] (aW 94 (aa [bz 6 false] .ret) .skip)) (.sq (aa [I 95 16,I 96 15,bu 97 .neq 95 96] (aW 97 (aa [bz 6 false] .ret) .skip)) (.sq (.drawn true 124 [bk 99 5 3,c0 100 28 99,bk 101 4 4,c0 102 18 101,I 103 2,dT 104 49 [.t 100,.t 102,.t 103],I 98 104,cV 105 0 98,cV 106 1 98,dI 17 ic,bV 5 17 105,I 18 106]) (.sq (aa [bk 107 5 17,bk 108 5 8,cb 109 30 107 108,cO 110 109,I 111 110,cg 111 false 112 18,cg 111 false 113 9,ax 111 false (cd 114 (.beq true none (.t 112) (.t 113))),ds 115 111 114] (aW 115 (aa [bz 6 false] .ret) .skip)) (.sq (.region [bP 16 1]) (.sq (.region [bk 116 5 12,I 117 16,cb 118 45 116 117,I 16 118]) (.sq (aa [I 119 16,aV 120 .lss 119 0] (aW 120 (aa [bz 6 false] .ret) .skip)) (.sq (aa [I 121 16,I 122 15,bu 123 .neq 121 122] (aW 123 (aa [bz 6 false] .ret) .skip)) (.sq (.region [bz 6 true]) (.of .ret)))))))))))))))))))))))))))))))))))
def O4:Hl aT GI [.tmp 6] 3 lF=true:=bi
def L3:au.funcs[(11:Nat)]? =some lF:=Tryz.func11
def Vc{n:Int}{a:Tm}:o9 n [a,a]↔o9 n [a]:=by
 constructor
 ·rintro⟨l,e,J,U⟩;match l,e with
  |[],e=>simp at e
  |[_],e=>simp at e
  |_::_::_::_,e=>simp at e
  |[x,y],e=>exact⟨[x],by simp at e;simp[e.1],fun t b=>J t (by simp at b;simp[b]),fun t b=>U t (by simp at b;simp[b])⟩
 ·rintro⟨l,e,J,U⟩;match l,e with
  |[],e=>simp at e
  |_::_::_,e=>simp at e
  |[x],e=>exact⟨[x,x],by simp at e;simp[e],fun t b=>J t (by simpa using b),fun t b=>U t (by simpa using b)⟩
def aim{n:Int}{x:T}(h:o9 n [x.tm]):x.fit=true/\gi n x=true:=(fun h=>⟨h.1.1,h.2.1⟩) (Vd (Vc.2 h))
open Classical in
def Y2(r:gm)(c:iU r.m->kM r.m)(a:Tm)(kk:Int)(e:¬(ka r/\o9 r.n [a])):fW au 49 [r.e,enc a,aj kk] (qS none):=by
 have b:=acB r c [a];simp only[gY,List.map_nil]at b;rw[mv e]at b;clear e c;obtain⟨n,b2,d,k,m⟩:=r;simp only[gm.e]at b⊢;refine fW.mk mixed a6 Tryz.func49 I0 Ψ fun f κ=>?_;unfold Dp;simp;(repeat' first|refine al ?_|refine aO b ?_|refine aP b ?_|simp);all_goals(refine h4.val Ψ ?_;simp[ba,be,a1,e9,hn,eC,gR,ef,gH,tnL,tn,fq,gb,fold,hE,hC,iH,ae,ei,cf,b5])
 all_goals simp[qS,hI,de.kk]
def acQ(r:gm)(a:Tm)(kk:Int)(e:¬(kk=2\/kk=3)):bU au 48 [r.e,enc a,aj kk] (qR none):=by
 have c:(kk !=2)=true:=by simp;omega
 have b:(kk !=3)=true:=by simp;omega
 obtain⟨n,b2,d,k,m⟩:=r;simp only[qR,gm.e,de.e,hI,k5,kf];refine bI a6 Tryz.func48 O7 fun f=>?_;unfold GN;exact cr
def asU(r:gm)(c:iU r.m->kM r.m)(a:Tm)(kk:Int)(f:kk=2\/kk=3)(e:¬(ka r/\o9 r.n [a])):bU au 48 [r.e,enc a,aj kk] (qR none):=by
 have b:=asK r c a a (fun h=>e ⟨h.1,Vc.1 h.2⟩) 2 kk [];clear e c;obtain⟨n,b2,d,k,m⟩:=r;simp only[qR,gm.e,de.e,hI,k5,kf]at b⊢;rcases f with rfl|rfl;all_goals refine bI a6 Tryz.func48 O7 fun g=>?_;unfold GN
 all_goals simp
 all_goals(repeat' first|refine al ?_|refine aO b ?_|refine aP b ?_|simp)
 all_goals simp[bZ,ba,be,a1]
def agk(r:gm)(d:iU r.m->kM r.m)(a:Tm)(kk:Int):∃(S:de) (B:Bool),l7 (S.b.map Bd.e) (S.d.map cP) (S.k.map bH.e) (S.m.map bo.e)/\bU au 48 [r.e,enc a,aj kk] (.tuple [S.e,.bool B])/\fW au 49 [r.e,enc a,aj kk] fun κ=>.tuple [S.kk κ,.bool B]:=by
 by_cases g:ka r/\o9 r.n [a];rotate_left
 ·by_cases b:kk=2\/kk=3
  ·exact⟨_,_,l7.zero,asU r d a kk b g,Y2 r d a kk g⟩
  ·exact⟨_,_,l7.zero,acQ r a kk b,Y2 r d a kk g⟩
 obtain⟨⟨s,rfl,c⟩,i⟩:=g;obtain⟨x,rfl,_⟩:=Tm.fits_ex (Me i a Ψ);obtain⟨e,bx⟩:=aim i;have hm:kM s.m:=d c.1.m;by_cases b:kk=2\/kk=3
 ·rw[FR,mB];exact⟨_,_,l7.opt fun t f=>⟨X1 c.1 e bx f,X2 hm f⟩,asT c hm e bx b,Y1 c hm e bx kk⟩
 ·have J:=Y1 c hm e bx kk;rw[show su s x kk=none from if_neg fun h=>b h.1]at J;rw[<-FR,<-mB]at J;exact⟨_,_,l7.zero,acQ s.r x.tm kk b,J⟩
def arR(r:pG)(hw:r.wf)(a:cH)(kk:Int)(x:a.wf):bU au 11 [r.e,a.e,aj kk] (.bool true):=by
 have m:=as5 r hw 1048576 Ω Ω;have t:=arw r 1048576 Ω;by_cases g:rK r 1048576<0
 ·generalize rK r 1048576=q at m g;clear hw t;obtain⟨n,b2,d,k,l⟩:=r;simp only[pG.e]at m⊢;refine bU.mkD mixed a6 L3 O4 Ψ dl fun M=>?_;unfold GI;exact cr
 obtain⟨r,rfl,w⟩:=arx hw Ω;clear hw;have e7:=l7.raw (r:=r) (q:=1048576) Ω Ω Ω;rw[ari]at m⊢;generalize rK r.h 1048576=p at m g t;have s:=acU a x p Ω Ω;have u:=yq a p Ω;by_cases g2:hz a p<0
 ·generalize hz a p=R at s g2;rw[cH.e_eq]at s;clear t w e7 u;obtain⟨n,b2,d,k,l⟩:=r;simp only[gm.e]at m⊢;refine bU.mkD mixed a6 L3 O4 Ψ dl fun M=>?_;unfold GI;exact cr
 obtain⟨a,rfl⟩:=QA a p x Ω Ω Ω;have E:=arE (a:=a) (q:=p) Ω Ω;rw[QJ]at s⊢;generalize hz (qa a) p=R at s g2 u;have t1:=ata r;have v:=Y6 r;have y:=acy r;have t2:=atb a;have H:=OS a;have N:=acz a;obtain⟨S,B,i,s1,i1⟩:=agk r w a kk;have j:=acy S.r;rw[FR]at j;clear t x u w;have F:bU au 49 [r.e,enc a,aj kk] (.tuple [S.e,.bool B]):=by have:=i1.val (by simp[de.kk,b5,cf,az,aH]);simpa[de.kk,de.e,b5,cf]using this
 obtain⟨n,b2,d,k,l⟩:=r;obtain⟨c,e,f,h,hr⟩:=S;unfold de.kk at i1;unfold gm.kk at v;unfold Tm.k at H;simp only[gm.e,de.e]at m t1 s1 i1 F y j v⊢;refine bU.mkD mixed a6 L3 O4 Ψ dl fun M=>?_;unfold GI;simp;(repeat' first|refine al ?_|refine aO m ?_|refine aP m ?_|refine aO s ?_|refine aP s ?_|refine aO t1 ?_|refine aP t1 ?_|refine aO t2 ?_|refine aP t2 ?_|refine aO s1 ?_|refine aP s1 ?_|simp[g,g2]);refine af4 ⟨[(2,aj kk),(3,.ptr (.loc 0) 0),(4,.ptr (.loc 1) 0),(8,.ptr (.loc 10) 0),(9,.bool B)],
  [(.loc 0,Dn QE n b2 d k l),(.loc 1,AM QE a),(.loc 10,yP QE c e f h hr)],[],12,[]⟩ b9 ?_ ?_
 ·simp[JN,JP,JO,yk,Af]
 simp[wN,JQ,FF,lB,yj];(repeat' first|refine al ?_|simp);(refine CallDo.own Ψ (v) (by simp[ei]) ?_;simp);(repeat' first|refine al ?_|simp);(refine CallDo.own Ψ (H) (by simp[ei]) ?_;simp);(repeat' first|refine al ?_|simp);(refine CallDo.own Ψ (i1) (by simp[ei]) ?_;simp);(repeat' first|refine al ?_|refine aO j ?_|refine aP j ?_|refine aO t1 ?_|refine aP t1 ?_|refine aO t2 ?_|refine aP t2 ?_|refine aO y ?_|refine aP y ?_|refine aO N ?_|refine aP N ?_|simp);refine LS ⟨[(2,aj kk),(3,.ptr (.loc 0) 0),(4,.ptr (.loc 1) 0),(8,.ptr (.loc 10) 0),(9,.bool B),(10,.ptr (.loc 13) 0),(11,.ptr (.loc 15) 0),(12,.ptr (.loc 17) 0),(13,.bool B),(14,aj 1)],
  [(.loc 0,Dn wP n b2 d k l),(.loc 1,AM wP a),(.loc 10,yP wP c e f h hr),(.loc 13,Dn (CR 12) n b2 d k l),(.loc 15,AM (CR 14) a),(.loc 17,yP (CR 16) c e f h hr)],[],20,[ei]⟩ 1000000 b9 ?_ fun ε=>?_
 ·simp[Ap,qW,fq,gb,tn,tnL,Cr,ae,ei]
 simp[sI,sH,uq,sS,jH,ot,b5,cf,tn,tnL,ae];(repeat' first|refine al ?_|simp[Uw]);have f1:=VK n e7.f 1 1000000 ε Ω e7.le;have f2:=XY (b:=1000000) (n:=n) e7.f 1;rw[A0]at f1 f2;refine CallDo.tree (G5 e7.f) (Ub ..) f1 rfl f2 ?_;obtain⟨G,J⟩:=e7.k;clear f1 f2 e7;simp only at G J;generalize (gF (b2.map Bt.e) (d.map gz) (k.map bH.e) (l.map bo.e) 1).2=o at G J⊢;simp;(repeat' first|refine al ?_|simp);refine LS ⟨[(2,aj kk),(3,.ptr (.loc 0) 0),(4,.ptr (.loc 1) 0),(8,.ptr (.loc 10) 0),(9,.bool B),(11,.ptr (.loc 15) 0),(12,.ptr (.loc 17) 0),(13,.bool B),(14,aj o)],
  [(.loc 0,Dn wP n b2 d k l),(.loc 1,AM wP a),(.loc 10,yP wP c e f h hr),(.loc 15,AM (CR 14) a),(.loc 17,yP (CR 16) c e f h hr)],[],20,[ei]⟩ 1000000 b9 ?_ fun ε=>?_
 ·simp[Ap,qW,fq,gb,tn,tnL,Cr,ae,ei]
 simp[sI,sH,uq,sS,jH,ot,b5,cf,tn,tnL,ae];(repeat' first|refine al ?_|simp[afi]);have f1:=ai3 a.kind a.num a.name (a.args.map enc) afl o 1000000 ε Ω (by have:=E o;omega);have f2:aH (rng 1000000 _) [_,aj o]:=⟨n2 _ 1000000 (Up a),by simp[az],trivial⟩;rw[Dz]at f1 f2;refine CallDo.tree (Up a) (ae1 ..) f1 (by first|rfl|rw[vI]) f2 ?_;have A:=mm bF (a.args.map enc) o;have z:=E o;clear f1 f2 E;generalize (bD bF (a.args.map enc) o).2=K2 at A z⊢;have O:¬K2<0:=Ω
 simp[O];(repeat' first|refine al ?_|refine aO j ?_|refine aP j ?_|simp[O]);refine LS ⟨[(2,aj kk),(3,.ptr (.loc 0) 0),(4,.ptr (.loc 1) 0),(8,.ptr (.loc 10) 0),(9,.bool B),(12,.ptr (.loc 17) 0),(15,aj 1)],
  [(.loc 0,Dn wP n b2 d k l),(.loc 1,AM wP a),(.loc 10,yP wP c e f h hr),(.loc 17,yP (CR 16) c e f h hr)],[],20,[ei]⟩ 1000000 b9 ?_ fun ε=>?_
 ·simp[Ap,qW,fq,gb,tn,tnL,Cr,ae,ei]
 simp[sI,sH,uq,sS,jH,ot,b5,cf,tn,tnL,ae];(repeat' first|refine al ?_|simp[Uw]);have i:l7 (e.map Bd.e) (f.map cP) (h.map bH.e) (hr.map bo.e):=i;have f1:=VK c i.f 1 1000000 ε Ω i.le;have f2:=XY (b:=1000000) (n:=c) i.f 1;have f3:=aiR c i.f 1 1000000 ε Ω i.le;have f4:=f2;have f5:=G6 (n:=c) i.f 1;have f6:=Ub c (e.map Bd.e) (f.map cP) (h.map bH.e) (hr.map bo.e) 1;have f7:=i.k;have f8:=G5 (n:=c) i.f;rw[<-f6]at f4;rw[afk]at f3;obtain⟨P,Q⟩:∃P,P=kL c (eh (e.map Bd.e) 1).1 (eR (e.map Bd.e) (f.map cP) 1).1 (fG (e.map Bd.e) (f.map cP) (h.map bH.e) 1).1 (gF (e.map Bd.e) (f.map cP) (h.map bH.e) (hr.map bo.e) 1).1:=⟨_,rfl⟩;rw[<-Q]at f1 f3 f4 f5 f6;generalize (gF (e.map Bd.e) (f.map cP) (h.map bH.e) (hr.map bo.e) 1).2=K at f1 f3 f7;rw[A0]at f1 f2 f3 f4;clear Q i;refine CallDo.tree f8 f6 f1 rfl f2 ?_;have L:¬K<0:=Ω
 clear f1 f2 f6 f7 f8;simp;(repeat' first|refine al ?_|simp);refine CallDo.tree f5 rfl f3 ?_ f4 ?_
 ·rfl
 simp[L];(repeat' first|refine al ?_|refine aO t1 ?_|refine aP t1 ?_|refine aO t2 ?_|refine aP t2 ?_|refine aO F ?_|refine aP F ?_|refine aO j ?_|refine aP j ?_|simp[L]);refine CallDo.tree f5 rfl f3 ?_ f4 ?_
 ·rfl
 exact cr
end
end Go.Proofs.YtahlgcidhnjlbaaGreat
