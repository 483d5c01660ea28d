/- Equate, exact. -/
import Derived.Test.YtahlgcidhnjlbaaGreatProg
import Derived.Test.YtahlgcidhnjlbaaGreatX7
set_option linter.all false
set_option maxHeartbeats 4000000
set_option maxRecDepth 4000
open Bool renaming and_eq_true->cP
open Go renaming Program->cH
open Go.IntKind renaming i64->vu
open Go.IntWalk renaming i64_in->pw
open Go.Proofs.Tryz renaming f13->lF,prog->au
open Go.Proofs.YtahlgcidhnjlbaaGreat.Rows renaming fnExactEquateRow->kB,fnExactEquateSpec->ui
open List renaming all_eq_true->j4,drop_eq_getElem_cons->lG,getElem?_append_right->vv,getElem?_eq_getElem->cl,getElem?_eq_some_iff->fI,length_cons->mT,map_cons->gV,map_nil->rZ,mem_cons->gI,mem_map->hb,mem_of_getElem?->fu,take_length->jz,take_of_length_le->iu
open Nat renaming le_refl->dP,mul_le_mul_right->r2
open Option renaming bind_eq_some_iff->mV,bind_some->k4,getD_none->mW,getD_some->mr,isSome_iff_exists->fx,isSome_none->lH,isSome_some->uk
open Option.some renaming inj->e8
open _root_ renaming False->er,Option->bd,UInt8->cU,and_true->jc,decide_eq_false->mX,decide_eq_true->l6,eq_true->h1
namespace Go.Proofs.YtahlgcidhnjlbaaGreat
section
open Go
set_option maxRecDepth 100000 in
def ae9:joinedFacts au 13 lF ui kB=true:=(jg (jg (jg (jg (jg (jg (jg (jg (jg (jg (jg (jg (jg (jg (jg (jg (jg (jg (jg (jg (jg (jg (jg (jg (jg (jg (jg (jg (jg (jg (jg aeD aeE) aeP) ae0) ae3) ae4) ae5) ae6) ae7) ae8) aeF) aeG) aeH) aeI) aeJ) aeK) aeL) aeM) aeN) aeO) aeQ) aeR) aeS) aeT) aeU) aeV) aeW) aeX) aeY) aeZ) ae1) ae2)
end
end Go.Proofs.YtahlgcidhnjlbaaGreat
namespace Go.Pv
section
open Go Go.RowKit
def lA{ε:Nat->Nat}{b sz:Nat}{t:jE}:∀{xs:List af},xs≠[]->dR ε b (.slice sz t xs)=(.obj b,⟨xs.length,ε b,sz,some (fL (b+1) xs)⟩)::gN ε (b+1) xs
 |[],h=>absurd rfl h
 |_::_,_=>rfl
def uF{b sz:Nat}{t:jE}:∀{xs:List af},xs≠[]->dv b (.slice sz t xs)= .row sz (.obj b) xs.length
 |[],h=>absurd rfl h
 |_::_,_=>rfl
def y3{b sz:Nat}{t:jE}:∀{xs ys:List af},xs.length=ys.length->dv b (.slice sz t xs)=dv b (.slice sz t ys)
 |[],[],_=>rfl
 |[],_::_,h=>by simp at h
 |_::_,[],h=>by simp at h
 |_::xs,_::ys,h=>by simp only[dv];simp at h;rw[h]
def uE{b:Nat}{l r:List af}{x:af}{i:Nat}(hi:l.length=i):(fL b (l++x::r))[i]? =some (dv (b+da l) x):=by subst hi;rw[A5,vv (by rw[o6];exact dP _)];simp[o6,fL]
def G8{b:Nat}{l r:List af}{x x':af}{i:Nat}(hi:l.length=i)(ax:bF x'=bF x):(fL b (l++x::r)).set i (dv (b+da l) x')=fL b (l++x'::r):=by subst hi;rw[A5,A5,List.set_append_right _ _ (by rw[o6];exact dP _)];simp[o6,fL,ax]
def YS(c8:Int->List cU)(l:List af)(x:af)(k:Int):bD c8 (l++[x]) k=((bD c8 l k).1++[(dJ c8 x (bD c8 l k).2).1],(dJ c8 x (bD c8 l k).2).2):=by rw[IN];simp[bD]
def amW(c8:Int->List cU)(l:List af)(k:Int)(i:Nat):(bD c8 (l.take i) k).2<=(bD c8 l k).2:=by have h:=IN c8 (l.take i) (l.drop i) k;rw[List.take_append_drop]at h;rw[h];exact lX c8 _ _
def k0(c8:Int->List cU)(l:List af)(k:Int)(i:Nat):List af:=(bD c8 (l.take i) k).1++l.drop i
def E0(c8:Int->List cU)(l:List af)(k:Int):k0 c8 l k 0=l:=by simp[k0,bD]
def p6(c8:Int->List cU)(l:List af)(k:Int):k0 c8 l k l.length=(bD c8 l k).1:=by simp[k0]
def n7(c8:Int->List cU)(l:List af)(k:Int)(i:Nat):(k0 c8 l k i).length=l.length:=by simp[k0,kJ];omega
def YP(c8:Int->List cU)(l:List af)(k:Int)(i:Nat):da (k0 c8 l k i)=da l:=by unfold k0;rw[LD,mz,<-LD,List.take_append_drop]
def YQ(c8:Int->List cU){l:List af}(k:Int)(i:Nat)(h:dX l):dX (k0 c8 l k i):=by rw[<-List.take_append_drop i l,LO]at h;unfold k0;rw[LO];exact⟨rb c8 _ _ h.1,h.2⟩
def EY(c8:Int->List cU){l:List af}(k:Int){i:Nat}{x:af}(h:l[i]? =some x):k0 c8 l k i=(bD c8 (l.take i) k).1++x::l.drop (i+1):=by unfold k0;congr 1;obtain⟨hi,e⟩:=fI.1 h;rw[lG hi,e]
def EZ(c8:Int->List cU){l:List af}(k:Int){i:Nat}{x:af}(h:l[i]? =some x):k0 c8 l k (i+1)=(bD c8 (l.take i) k).1++(dJ c8 x (bD c8 (l.take i) k).2).1::l.drop (i+1):=by
 unfold k0;have:l.take (i+1)=l.take i++[x]:=by rw[List.take_add_one,h];rfl
 rw[this,YS];simp
def E1(c8:Int->List cU){l:List af}(k:Int){i:Nat}{x:af}(h:l[i]? =some x):(bD c8 l k).1=(bD c8 (l.take i) k).1++(dJ c8 x (bD c8 (l.take i) k).2).1::(bD c8 (l.drop (i+1)) (dJ c8 x (bD c8 (l.take i) k).2).2).1:=by
 obtain⟨hi,e⟩:=fI.1 h;have J:l=l.take i++x::l.drop (i+1):=by rw[<-e,<-lG hi,List.take_append_drop]
 have U:=IN c8 (l.take i) (x::l.drop (i+1)) k;rw[<-J]at U;rw[U];simp only[bD]
def amV(c8:Int->List cU){l:List af}(k:Int){i:Nat}{x:af}(h:l[i]? =some x):(bD c8 (l.take (i+1)) k).2=(dJ c8 x (bD c8 (l.take i) k).2).2:=by
 have:l.take (i+1)=l.take i++[x]:=by rw[List.take_add_one,h];rfl
 rw[this,YS]
def wF(c8:Int->List cU):∀{xs:List af} (k:Int),(∀x∈xs,∃b a cs,x= .agg (.int b a::cs))->k+xs.length<=(bD c8 xs k).2
 |[],k,_=>by simp[bD]
 |x::xs,k,h=>by
  obtain⟨b,a,cs,rfl⟩:=h x Ψ;have J:=wF c8 (xs:=xs) (dJ c8 (.agg (.int b a::cs)) k).2 fun y c=>h y (by simp[c]);have U:k+1<=(dJ c8 (.agg (.int b a::cs)) k).2:=by simp only[dJ,bD];exact lX c8 cs (k+1)
  simp only[bD,mT];omega
def A4:∀{l:List af},dX l↔∀x∈l,cN x
 |[]=>by simp[dX]
 |x::l=>by simp[dX,A4 (l:=l)]
def l9{sz:Nat}{t:jE}:∀{xs ys:List af},xs.length=ys.length->da xs=da ys->bF (.slice sz t xs)=bF (.slice sz t ys)
 |[],[],_,_=>rfl
 |[],_::_,h,_=>by simp at h
 |_::_,[],h,_=>by simp at h
 |_::_,_::_,_,h=>by simp only[bF,da]at h⊢;omega
@[simp]def CT{b sz:Nat}{t:jE}:∀{xs:List af},b7 (dv b (.slice sz t xs))=dv b (.slice sz t xs)
 |[]=>rfl
 |_::_=>rfl
def afr{b:Nat}{l r:List af}{x x':af}(he:dv (b+da l) x'=dv (b+da l) x)(ax:bF x'=bF x):fL b (l++x'::r)=fL b (l++x::r):=by rw[A5,A5];simp only[fL,he,ax]
@[simp]def abL{b sz:Nat}{t:jE}:∀{xs:List af},eT (dv b (.slice sz t xs))=true
 |[]=>rfl
 |_::_=>rfl
@[simp]def T2{b sz:Nat}{t:jE}:∀{xs:List af},cells (dv b (.slice sz t xs))=[dv b (.slice sz t xs)]
 |[]=>rfl
 |_::_=>rfl
@[simp]def awQ{ε:Nat->Nat}{b m:Nat}{p:af}(x:dW):((aB.loc m,x)∈dR ε b p)=er:=eq_false fun h=>by have:=u7 h;rw[(KH ε b p).2 m]at this;cases this
def gn.to{ε:Nat->Nat}{b:Nat}{p a:af}{st:bp}{t':List (Nat×af)}(e:cN p)(ax:bF p=bF a)(d:∀x∈t',get x.1 st.t=x.2/\az (rng b (b+bF a)) x.2)(he:∀k o,ae k (dR ε b p)=some o->ae k st.e=some o):
  gn (cJ (c1 ε b a)) st ⟨t',[],dR ε b p,0,cJ (c1 ε b a)⟩:=by
 have dF:∀k,rng b (b+bF a) k->¬fresh 0 (cJ (c1 ε b a)) k:=fun k ab f=>f.2 (adI.2 ab);refine⟨fun x c=>⟨(d x c).1,tJ dF _ (d x c).2⟩,fun k cs ab=>by simp[ae]at ab,fun k o ab=>⟨he k o ab,dF k ?_,EM dF ?_⟩,fun m hm=>hm⟩
 ·rw[<-ax];exact va ε p b k o ab
 ·rw[<-ax];exact N8 p b e k o ab
def vd(c8:Int->List cU){l:List af}(k:Int){i:Nat}(hi:i<l.length):∃x,l[i]? =some x/\x∈l/\k<=(bD c8 (l.take i) k).2/\(dJ c8 x (bD c8 (l.take i) k).2).2<=(bD c8 l k).2/\(bD c8 (l.take (i+1)) k).2=(dJ c8 x (bD c8 (l.take i) k).2).2/\(bD c8 (l.take i) k).1.length=i:=by have h:l[i]? =some l[i]:=cl hi;have e:=amV c8 k h;have U:=amW c8 l k (i+1);rw[e]at U;exact⟨_,h,fu h,lX _ _ _,U,e,by rw[kJ];simp;omega⟩
def IP(c8:Int->List cU){l:List af}(k:Int){sz:Nat}(ε:Nat->Nat)(b:Nat)(c:dX l)(a:0<sz)(d:¬l=[]):eA (c1 ε b (.slice sz .no l))/\(∀i,bF (.slice sz .no (k0 c8 l k i))=bF (.slice sz .no l))/\(∀i,cN (.slice sz .no (k0 c8 l k i)))/\rng b (b+bF (.slice sz .no l)) (.obj b):=⟨ot ⟨a,c⟩,fun i=>l9 (n7 ..) (YP ..),fun i=>⟨a,YQ _ _ _ c⟩,b,rfl,dP _,by cases l with|nil=>exact absurd rfl d|cons x xs=>simp only[bF];omega⟩
def HF(c8:Int->List cU){l:List af}(k:Int){sz:Nat}(ε:Nat->Nat)(b:Nat)(f:dX l)(d:0<sz)(c:¬l=[]):cN (.slice sz .no (bD c8 l k).1)/\eA (c1 ε b (.slice sz .no (bD c8 l k).1))/\(bD c8 l k).1.length=l.length/\(bD c8 l k).1≠[]/\rng b (b+bF (.slice sz .no (bD c8 l k).1)) (.obj b):=by
 have J:cN (.slice sz .no (bD c8 l k).1):=⟨d,rb _ _ _ f⟩;have U:(bD c8 l k).1.length=l.length:=kJ ..;have a:(bD c8 l k).1≠[]:=fun e=>c (List.length_eq_zero_iff.1 (by rw[<-U,e];rfl));refine⟨J,ot J,U,a,b,rfl,dP _,?_⟩;revert a;cases (bD c8 l k).1 with
 |nil=>exact fun h=>absurd rfl h
 |cons x xs=>intro _;simp only[bF];omega
def CallDo.subR{P:cH}{n:Nat}{args:List af}{st:bp}{d:bd Nat}{K:bp->Prop}{ε:Nat->Nat}{b:Nat}{l r:List af}{y y' f:af}{O:dW}(s:cN y)(ax:bF y'=bF y)
  (t:bG P n args (c1 ε (b+1+da l) y) fun i q=>i=f/\q=c1 ε (b+1+da l) y') {Z:List af} (c:Z=l++y::r) (he:st.e=(.obj b,O)::gN ε (b+1) Z) (ab:aH (rng (b+1+da l) (b+1+da l+bF y)) args)
  (h:∀a,ae (.obj b) a=some O->(∀k o,ae k (gN ε (b+1) (l++y'::r))=some o->ae k a=some o)->K ⟨e7 d f st.t,st.b,a,st.n,st.o++cJ (c1 ε (b+1+da l) y')⟩):CallDo P n args st d K:=by
 subst c;refine CallDo.sub s ax t (fun k o ab=>?_) ab fun a p hu=>h a ?_ p
 ·obtain⟨m,rfl,g,j⟩:=B7 _ _ _ _ _ ab;rw[he];simp only[ae];rw[if_neg d6];exact ab
 ·rw[hu (.obj b) (fun⟨m,e,g,j⟩=>by cases e;omega),he];simp[ae]
end
end Go.Pv
namespace Go.Proofs.YtahlgcidhnjlbaaGreat
section
open Go Go.Pv
def SU:C:=(aa [cW 2 0,bP 4 0] (aa [aF 5 3 1 2,ay 6 1 5,I 7 1,b8 8 24 6 7,I 1 8] (aa [I 9 1,I 4 9] .ret)))
def Li:C:=(aa [bP 4 0] (.seq (aa [bP 5 0] (.block 0 (.loop (.seq (aa [I 6 5,I 7 0,cw 8 7,bu 9 .lss 6 8] (aW 9 .skip (.exit 0))) (.seq (.block 1 (aa [I 12 0,I 13 5,I 14 1,ck 15 4 12 13,aF 16 0 1 15,bV 1 16 14] (aa [I 17 1,aU 18 .add 17 1,I 1 18] (aa [I 19 0,I 20 5,I 21 1,ck 22 4 19 20,aF 23 1 1 22,bV 1 23 21] (aa [I 24 1,aU 25 .add 24 1,I 1 25] (aa [I 26 0,I 27 5,I 28 1,cT 29 71 28,ck 30 4 26 27,aF 31 2 1 30,bV 1 31 29] (aa [I 32 1,aU 33 .add 32 1,I 1 33] (.region [I 34 0,I 35 5,ck 36 4 34 35,aF 37 3 1 36,ay 38 1 37,I 39 1,b8 40 24 38 39,I 1 40])))))))) (.region [I 10 5,aU 11 .add 10 1,I 5 11])))))) (aa [I 41 1,I 4 41] .ret)))
def Ld:C:=(aa [bP 4 0] (.seq (aa [bP 5 0] (.block 0 (.loop (.seq (aa [I 6 5,I 7 0,cw 8 7,bu 9 .lss 6 8] (aW 9 .skip (.exit 0))) (.seq (.block 1 (.seq (aa [I 12 0,I 13 5,ck 14 4 12 13,aF 15 0 1 14,ay 16 1 15,I 17 1,bu 18 .neq 16 17] (aW 18 (aa [bP 4 (-1)] .ret) .skip)) (aa [I 19 1,aU 20 .add 19 1,I 1 20] (.seq (aa [I 21 0,I 22 5,ck 23 4 21 22,aF 24 1 1 23,ay 25 1 24,I 26 1,bu 27 .neq 25 26] (aW 27 (aa [bP 4 (-1)] .ret) .skip)) (aa [I 28 1,aU 29 .add 28 1,I 1 29] (.seq (.seq (.drawn true 50 [I 30 0,I 31 5,ck 32 4 30 31,aF 33 2 1 32,ay 34 1 33,I 35 1,cT 36 71 35,bu 37 .neq 34 36]) (aW 37 (aa [bP 4 (-1)] .ret) .skip)) (aa [I 38 1,aU 39 .add 38 1,I 1 39] (aa [I 40 0,I 41 5,ck 42 4 40 41,aF 43 3 1 42,ay 44 1 43,I 45 1,b8 46 25 44 45,I 1 46] (aa [I 47 1,aU 48 .lss 47 0] (aW 48 (aa [bP 4 (-1)] .ret) .skip)))))))))) (.region [I 10 5,aU 11 .add 10 1,I 5 11])))))) (aa [I 49 1,I 4 49] .ret)))
def SR:C:=(aa [cW 2 0,bP 4 0] (aa [aF 5 1 1 2,ay 6 1 5,I 7 1,b8 8 106 6 7,I 1 8] (aa [aF 9 2 1 2,ay 10 1 9,I 11 1,b8 12 107 10 11,I 1 12] (aa [aF 13 3 1 2,ay 14 1 13,I 15 1,b8 16 108 14 15,I 1 16] (aa [aF 17 4 1 2,ay 18 1 17,I 19 1,b8 20 109 18 19,I 1 20] (aa [I 21 1,I 4 21] .ret))))))
def SQ:C:=(aa [cW 2 0,bP 4 0] (aa [aF 5 1 1 2,ay 6 1 5,I 7 1,b8 8 110 6 7,I 1 8] (.seq (aa [I 9 1,aU 10 .lss 9 0] (aW 10 (aa [bP 4 (-1)] .ret) .skip)) (aa [aF 11 2 1 2,ay 12 1 11,I 13 1,b8 14 111 12 13,I 1 14] (.seq (aa [I 15 1,aU 16 .lss 15 0] (aW 16 (aa [bP 4 (-1)] .ret) .skip)) (aa [aF 17 3 1 2,ay 18 1 17,I 19 1,b8 20 112 18 19,I 1 20] (.seq (aa [I 21 1,aU 22 .lss 21 0] (aW 22 (aa [bP 4 (-1)] .ret) .skip)) (aa [aF 23 4 1 2,ay 24 1 23,I 25 1,b8 26 113 24 25,I 1 26] (.seq (aa [I 27 1,aU 28 .lss 27 0] (aW 28 (aa [bP 4 (-1)] .ret) .skip)) (aa [I 29 1,I 4 29] .ret))))))))))
def Lj:C:=(aa [cd 2 (.mov (.c (.str [])))] (.seq (aa [I 4 0,aU 5 .leq 4 0] (aW 5 (aa [cd 2 (.mov (.c (.str [109,48])))] .ret) .skip)) (aa [cd 3 (.mov (.c (.str [])))] (.seq (.block 0 (.loop (.seq (aa [I 6 0,aU 7 .gtr 6 0] (aW 7 .skip (.exit 0))) (.block 1 (aa [I 8 0,aU 9 .rem 8 10,cd 10 (.bin .add false (gT 48) (.t 9)),cd 11 (.conv .u8 (.t 10)),e1 12 1 5 [.t 11],cd 13 (.b2s (.t 12)),I 14 3,bu 15 .add 13 14,I 3 15] (.region [I 16 0,aU 17 .quo 16 10,I 0 17])))))) (aa [I 18 3,cd 19 (.bin .add false (.c (.str [109])) (.t 18)),I 2 19] .ret)))))
def Lf:C:=(aa [bP 4 0] (.seq (aa [bP 5 0] (.block 0 (.loop (.seq (aa [I 6 5,I 7 0,cw 8 7,bu 9 .lss 6 8] (aW 9 .skip (.exit 0))) (.seq (.block 1 (aa [I 12 0,I 13 5,I 14 1,ck 15 5 12 13,aF 16 0 1 15,bV 1 16 14] (aa [I 17 1,aU 18 .add 17 1,I 1 18] (aa [I 19 0,I 20 5,I 21 1,ck 22 5 19 20,hq 23 1 4 22,aF 24 0 1 23,bV 1 24 21] (aa [I 25 1,aU 26 .add 25 1,I 1 26] (aa [I 27 0,I 28 5,I 29 1,ck 30 5 27 28,hq 31 1 4 30,aF 32 1 1 31,bV 1 32 29] (aa [I 33 1,aU 34 .add 33 1,I 1 34] (aa [I 35 0,I 36 5,I 37 1,cT 38 71 37,ck 39 5 35 36,hq 40 1 4 39,aF 41 2 1 40,bV 1 41 38] (aa [I 42 1,aU 43 .add 42 1,I 1 43] (.region [I 44 0,I 45 5,ck 46 5 44 45,hq 47 1 4 46,aF 48 3 1 47,ay 49 1 48,I 50 1,b8 51 24 49 50,I 1 51])))))))))) (.region [I 10 5,aU 11 .add 10 1,I 5 11])))))) (aa [I 52 1,I 4 52] .ret)))
def Lg:C:=(aa [bP 4 0] (.seq (aa [bP 5 0] (.block 0 (.loop (.seq (aa [I 6 5,I 7 0,cw 8 7,bu 9 .lss 6 8] (aW 9 .skip (.exit 0))) (.seq (.block 1 (.region [I 12 0,I 13 5,ck 14 1 12 13,ay 15 1 14,I 16 1,b8 17 106 15 16,I 1 17])) (.region [I 10 5,aU 11 .add 10 1,I 5 11])))))) (aa [I 18 1,I 4 18] .ret)))
def Lk:C:=(aa [bP 4 0] (.seq (aa [bP 5 0] (.block 0 (.loop (.seq (aa [I 6 5,I 7 0,cw 8 7,bu 9 .lss 6 8] (aW 9 .skip (.exit 0))) (.seq (.block 1 (aa [I 12 0,I 13 5,I 14 1,ck 15 2 12 13,aF 16 0 1 15,bV 1 16 14] (aa [I 17 1,aU 18 .add 17 1,I 1 18] (aa [I 19 0,I 20 5,I 21 1,ck 22 2 19 20,aF 23 1 1 22,bV 1 23 21] (.region [I 24 1,aU 25 .add 24 1,I 1 25]))))) (.region [I 10 5,aU 11 .add 10 1,I 5 11])))))) (aa [I 26 1,I 4 26] .ret)))
def Lh:C:=(aa [bP 4 0] (.seq (aa [bP 5 0] (.block 0 (.loop (.seq (aa [I 6 5,I 7 0,cw 8 7,bu 9 .lss 6 8] (aW 9 .skip (.exit 0))) (.seq (.block 1 (aa [I 12 0,I 13 5,I 14 1,ck 15 2 12 13,aF 16 0 1 15,bV 1 16 14] (aa [I 17 1,aU 18 .add 17 1,I 1 18] (aa [I 19 0,I 20 5,I 21 1,cT 22 71 21,ck 23 2 19 20,aF 24 1 1 23,bV 1 24 22] (.region [I 25 1,aU 26 .add 25 1,I 1 26]))))) (.region [I 10 5,aU 11 .add 10 1,I 5 11])))))) (aa [I 27 1,I 4 27] .ret)))
def La:C:=(aa [bP 4 0] (.seq (aa [bP 5 0] (.block 0 (.loop (.seq (aa [I 6 5,I 7 0,cw 8 7,bu 9 .lss 6 8] (aW 9 .skip (.exit 0))) (.seq (.block 1 (.seq (aa [I 12 0,I 13 5,ck 14 5 12 13,aF 15 0 1 14,ay 16 1 15,I 17 1,bu 18 .neq 16 17] (aW 18 (aa [bP 4 (-1)] .ret) .skip)) (aa [I 19 1,aU 20 .add 19 1,I 1 20] (.seq (aa [I 21 0,I 22 5,ck 23 5 21 22,hq 24 1 4 23,aF 25 0 1 24,ay 26 1 25,I 27 1,bu 28 .neq 26 27] (aW 28 (aa [bP 4 (-1)] .ret) .skip)) (aa [I 29 1,aU 30 .add 29 1,I 1 30] (.seq (aa [I 31 0,I 32 5,ck 33 5 31 32,hq 34 1 4 33,aF 35 1 1 34,ay 36 1 35,I 37 1,bu 38 .neq 36 37] (aW 38 (aa [bP 4 (-1)] .ret) .skip)) (aa [I 39 1,aU 40 .add 39 1,I 1 40] (.seq (.seq (.drawn true 63 [I 41 0,I 42 5,ck 43 5 41 42,hq 44 1 4 43,aF 45 2 1 44,ay 46 1 45,I 47 1,cT 48 71 47,bu 49 .neq 46 48]) (aW 49 (aa [bP 4 (-1)] .ret) .skip)) (aa [I 50 1,aU 51 .add 50 1,I 1 51] (aa [I 52 0,I 53 5,ck 54 5 52 53,hq 55 1 4 54,aF 56 3 1 55,ay 57 1 56,I 58 1,b8 59 25 57 58,I 1 59] (aa [I 60 1,aU 61 .lss 60 0] (aW 61 (aa [bP 4 (-1)] .ret) .skip)))))))))))) (.region [I 10 5,aU 11 .add 10 1,I 5 11])))))) (aa [I 62 1,I 4 62] .ret)))
def Lb:C:=(aa [bP 4 0] (.seq (aa [bP 5 0] (.block 0 (.loop (.seq (aa [I 6 5,I 7 0,cw 8 7,bu 9 .lss 6 8] (aW 9 .skip (.exit 0))) (.seq (.block 1 (aa [I 12 0,I 13 5,ck 14 1 12 13,ay 15 1 14,I 16 1,b8 17 110 15 16,I 1 17] (aa [I 18 1,aU 19 .lss 18 0] (aW 19 (aa [bP 4 (-1)] .ret) .skip)))) (.region [I 10 5,aU 11 .add 10 1,I 5 11])))))) (aa [I 20 1,I 4 20] .ret)))
def Le:C:=(aa [bP 4 0] (.seq (aa [bP 5 0] (.block 0 (.loop (.seq (aa [I 6 5,I 7 0,cw 8 7,bu 9 .lss 6 8] (aW 9 .skip (.exit 0))) (.seq (.block 1 (.seq (aa [I 12 0,I 13 5,ck 14 2 12 13,aF 15 0 1 14,ay 16 1 15,I 17 1,bu 18 .neq 16 17] (aW 18 (aa [bP 4 (-1)] .ret) .skip)) (aa [I 19 1,aU 20 .add 19 1,I 1 20] (.seq (aa [I 21 0,I 22 5,ck 23 2 21 22,aF 24 1 1 23,ay 25 1 24,I 26 1,bu 27 .neq 25 26] (aW 27 (aa [bP 4 (-1)] .ret) .skip)) (.region [I 28 1,aU 29 .add 28 1,I 1 29]))))) (.region [I 10 5,aU 11 .add 10 1,I 5 11])))))) (aa [I 30 1,I 4 30] .ret)))
def Lc:C:=(aa [bP 4 0] (.seq (aa [bP 5 0] (.block 0 (.loop (.seq (aa [I 6 5,I 7 0,cw 8 7,bu 9 .lss 6 8] (aW 9 .skip (.exit 0))) (.seq (.block 1 (.seq (aa [I 12 0,I 13 5,ck 14 2 12 13,aF 15 0 1 14,ay 16 1 15,I 17 1,bu 18 .neq 16 17] (aW 18 (aa [bP 4 (-1)] .ret) .skip)) (aa [I 19 1,aU 20 .add 19 1,I 1 20] (.seq (.seq (.drawn true 32 [I 21 0,I 22 5,ck 23 2 21 22,aF 24 1 1 23,ay 25 1 24,I 26 1,cT 27 71 26,bu 28 .neq 25 27]) (aW 28 (aa [bP 4 (-1)] .ret) .skip)) (.region [I 29 1,aU 30 .add 29 1,I 1 30]))))) (.region [I 10 5,aU 11 .add 10 1,I 5 11])))))) (aa [I 31 1,I 4 31] .ret)))
def aok:b3 aT SU [.tmp 4] 2 Tryz.f23=true:=bi
def Zx:b3 aT Li [.tmp 4] 2 Tryz.f24=true:=bi
def Zs:b3 aT Ld [.tmp 4] 2 Tryz.f25=true:=bi
def aoj:b3 aT SR [.tmp 4] 2 Tryz.f44=true:=bi
def aoi:b3 aT SQ [.tmp 4] 2 Tryz.f45=true:=bi
def Zy:b3 aT Lj [.tmp 2] 1 Tryz.f71=true:=bi
def Zu:b3 aT Lf [.tmp 4] 2 Tryz.f106=true:=bi
def Zv:b3 aT Lg [.tmp 4] 2 Tryz.f107=true:=bi
def Zz:b3 aT Lk [.tmp 4] 2 Tryz.f108=true:=bi
def Zw:b3 aT Lh [.tmp 4] 2 Tryz.f109=true:=bi
def Zp:b3 aT La [.tmp 4] 2 Tryz.f110=true:=bi
def Zq:b3 aT Lb [.tmp 4] 2 Tryz.f111=true:=bi
def Zt:b3 aT Le [.tmp 4] 2 Tryz.f112=true:=bi
def Zr:b3 aT Lc [.tmp 4] 2 Tryz.f113=true:=bi
def zQ:Nat->Int->List cU->List cU
 |0,_,o=>o
 |f+1,k,o=>if k<=0 then o else zQ f (k/10) (UInt8.ofNat (IntKind.u8.wrap (48+k.tmod 10)).toNat::o)
def bE(k:Int):List cU:=if k<=0 then [109,48]else 109::zQ k.toNat k []
def C1(k:Int)(ab:k<=4611686018427387904):bU au 71 [aj k] (.str (bE k)):=by
 by_cases c:k<=0
 ·rw[bE,if_pos c];refine bH a1 Tryz.func71 Zy fun p=>?_;unfold Lj;exact cp
 rw[bE,if_neg c];refine bH a1 Tryz.func71 Zy fun p=>?_;unfold Lj;simp;(repeat' first|refine al ?_|simp[c]);refine o7 (fun(x:Int×List cU)=>⟨[(0,aj x.1),(3,.str x.2)],[],[],0,[]⟩) (fun x=>x.1.toNat) (fun x=>0<=x.1/\x.1<=4611686018427387904/\x.1.toNat*10 ^ x.2.length<=4611686018427387904/\x.2.length<=19/\∃f:Nat,x.1<=f/\zQ f x.1 x.2=zQ k.toNat k []) (k,[]) ca ⟨Ω,ab,by simp;omega,Ψ,k.toNat,by simp;omega,rfl⟩ ?_;rintro⟨j,o⟩ ⟨J,U,m,i,f,n,a⟩ _;simp only at J U m i n a;by_cases g:0<j
 ·have r:o.length<=18:=by
   rcases Nat.lt_or_ge 18 o.length with h|h
   ·have e:10 ^ 19<=10 ^ o.length:=Nat.pow_le_pow_right Ω Ω;have d:1*10 ^ o.length<=j.toNat*10 ^ o.length:=r2 _ Ω;omega
   ·exact h
  have q:j.tdiv 10=j/10:=Int.tdiv_eq_ediv_of_nonneg J;have hm:j.tmod 10=j%10:=Int.tmod_eq_emod_of_nonneg J;have hw:vu.wrap (j.tdiv 10)=j/10:=by rw[q];exact pw _ Ω
  simp[g];(repeat' first|refine al ?_|simp);all_goals first|(refine⟨by unfold tF;omega,by unfold lim;omega,?_⟩)|skip
  rw[hw];obtain⟨b,rfl⟩:∃b,f=b+1:=⟨f-1,Ω⟩;refine bY.whl (j/10,UInt8.ofNat (IntKind.u8.wrap (48+j.tmod 10)).toNat::o) d6 ⟨by simp;omega,by simp;omega,?_,by simp;omega,b,by simp;omega,?_⟩ ca
  ·simp only[mT,Nat.pow_succ];have e:(j/10).toNat*10<=j.toNat:=Ω
   have d:=r2 (10 ^ o.length) e;rw[Nat.mul_assoc,Nat.mul_comm 10]at d;omega
  ·rw[<-a];simp only[zQ];rw[if_neg Ω]
 ·simp[g];(repeat' first|refine al ?_|simp);all_goals try refine⟨by unfold lim;omega,?_⟩
  have l:zQ f j o=o:=by cases f<;>simp[zQ];omega
  rw[l]at a;rw[<-a];simp[bZ,ba,bf,a6]
def jB.dt':∀(n:Nat),(∀p,CU p<=n->jB p->cN p)/\(∀c,qZ c<=n->(∀p∈c,jB p)->dX c)
 |0=>by
  refine⟨fun p d h=>?_,fun c d h=>?_⟩
  ·obtain⟨a,b,s,ys,_,_,e⟩:=h.inv;omega
  ·cases c with
   |nil=>simp[dX]
   |cons p c=>obtain⟨a,b,s,ys,_,_,e⟩:=(h p Ψ).inv;simp only[qZ]at d;omega
 |n+1=>by
  obtain⟨_,g⟩:=jB.dt' n;have J:∀p,CU p<=n+1->jB p->cN p:=fun p d h=>by obtain⟨a,b,s,ys,rfl,i,e⟩:=h.inv;simp only[cN,dX,true_and,jc];exact⟨Ω,g ys Ω i⟩
  refine⟨J,fun c d h=>A4.2 fun x f=>J x ?_ (h x f)⟩;have:=J7 f;omega
def jB.dtL{a:List af}(h:∀p∈a,jB p):dX a:=(jB.dt' _).2 a (dP _) h
def A7(c:Nat)(a br:Int)(s:List cU)(t:jE)(ys:List af):dv c (.agg [aj a,aj br,.str s,.slice 4 t ys])= .agg [aj a,aj br,.str s,dv c (.slice 4 t ys)]:=rfl
def Y0(c8:Int->List cU)(a br:Int)(s:List cU)(t:jE)(ys:List af)(k:Int):dJ c8 (.agg [aj a,aj br,.str s,.slice 4 t ys]) k=(.agg [aj k,aj (k+1),.str (c8 (k+1+1)),.slice 4 t (bD c8 ys (k+1+1+1)).1],(bD c8 ys (k+1+1+1)).2):=by simp[dJ,bD]
def P4(ε:Nat->Nat)(c:Nat)(a br:Int)(s:List cU)(t:jE)(ys:List af):dR ε c (.agg [aj a,aj br,.str s,.slice 4 t ys])=dR ε c (.slice 4 t ys):=by show []++([]++([]++(dR ε (c+0+0+0) (.slice 4 t ys)++[])))=_;simp
def xf(a br:Int)(s:List cU)(t:jE)(ys:List af):bF (.agg [aj a,aj br,.str s,.slice 4 t ys])=bF (.slice 4 t ys):=by show 0+(0+(0+(bF (.slice 4 t ys)+0)))=_;omega
def asT(k:Int):bU au 24 [dx [],aj k] (aj k):=by refine bH a1 Tryz.func24 Zx fun a=>?_;unfold Li;simp;(repeat' first|refine al ?_|simp);refine fT (fun i (_:Unit)=>⟨[(0,dx []),(1,aj k),(5,aj i)],[],[],0,[]⟩) 0 (fun _ _=>True) () ca trivial (fun _ _ _=>?_) (fun i _ hi _ _=>Ω);exact cp
def VT(k:Int)(b:Nat)(ε:Nat->Nat):bG au 24 [dv b (dx []),aj k] (c1 ε b (dx [])) fun r a=>r=aj k/\a=c1 ε b (dx []):=asT k
def asr(k:Int):bU au 25 [dx [],aj k] (aj k):=by refine bH a1 Tryz.func25 Zs fun a=>?_;unfold Ld;simp;(repeat' first|refine al ?_|simp);refine fT (fun i (_:Unit)=>⟨[(0,dx []),(1,aj k),(5,aj i)],[],[],0,[]⟩) 0 (fun _ _=>True) () ca trivial (fun _ _ _=>?_) (fun i _ hi _ _=>Ω);exact cp
def VM(k:Int)(b:Nat)(ε:Nat->Nat):bG au 25 [dv b (dx []),aj k] (c1 ε b (dx [])) fun r a=>r=aj k/\a=c1 ε b (dx []):=asr k
def VS:∀(n:Nat) (xs:List af),qZ xs<=n->(∀x∈xs,jB x)->∀(k:Int) (b:Nat) (ε:Nat->Nat),0<=k->(bD bE xs k).2<=4611686018427387904->
  bG au 24 [dv b (dx xs),aj k] (c1 ε b (dx xs)) fun r ak=>r=aj (bD bE xs k).2/\ak=c1 ε b (dx (bD bE xs k).1):=by
 intro n;induction n with
 |zero=>
  intro xs G g k b ε bA ab;cases xs with
  |nil=>exact VT k b ε
  |cons x xs=>obtain⟨a,br,s,ys,_,_,e⟩:=(g x Ψ).inv;simp only[qZ]at G;omega
 |succ n b1=>
 intro xs G g k b ε bA ab;have O:dX xs:=jB.dtL g;have ai:eA (c1 ε b (dx xs)):=ot (by simp[cN,O]);by_cases m:xs=[]
 ·subst m;exact VT k b ε
 have vZ:(bD bE (xs.take 0) k).2=k:=by simp[bD]
 refine bG.mk mixed a1 Tryz.func24 Zx Ψ ai.obj fun aR c4=>?_;unfold Li;rw[uF m];simp;(repeat' first|refine al ?_|simp);have t:∀i,bF (dx (k0 bE xs k i))=bF (dx xs):=fun i=>l9 (n7 ..) (YP ..);have u:∀i,cN (dx (k0 bE xs k i)):=fun i=>by simp only[cN];exact⟨Ω,YQ _ _ _ O⟩
 have F:rng b (b+bF (dx xs)) (.obj b):=⟨b,rfl,dP _,by cases xs with|nil=>exact absurd rfl m|cons x xs=>simp only[bF];omega⟩;have oE:=wF bE (xs:=xs) k fun x h=>by obtain⟨a,br,s,ys,rfl,_⟩:=(g x h).inv;exact⟨_,_,_,rfl⟩
 have ave:∀i,k0 bE xs k i≠[]:=fun i e=>m (List.length_eq_zero_iff.1 (by rw[<-n7 bE xs k i,e];rfl));refine fT (fun i (_:Unit)=>⟨[(0,.row 4 (.obj b) xs.length),(1,aj (bD bE (xs.take i) k).2),(5,aj i)],[],dR ε b (dx (k0 bE xs k i)),0,cJ (c1 ε b (dx xs))⟩) xs.length (fun _ _=>True) () ?_ trivial (fun _ _ _=>?_) (fun i _ hi _ _=>?_)
 ·refine gn.to (u _) (t _) ?_ (fun k o h=>by rw[E0]at h;exact h);simp[az,F,bD]
 ·rw[p6,jz];simp;(repeat' first|refine al ?_|simp);refine c5.at (c1 ε b (dx (bD bE xs k).1)) Ψ (ot (by rw[<-p6];exact u _)) (oZ (by rw[<-p6];exact t _)) (fun k cs h=>by simp[ae]at h) (fun k o h=>h) ?_;simp[dc,ba,bf,a6]
 ·obtain⟨x,N,hm,J,U,p,w⟩:=vd bE k hi;have f:=EY bE k N;have c:=EZ bE k N;have W:=fun(t':List (Nat×af)) (st:bp)=>gn.to (t':=t') (st:=st) (ε:=ε) (b:=b) (u (i+1)) (t (i+1));have hlen:((bD bE (xs.take i) k).1++x::xs.drop (i+1)).length=xs.length:=by rw[<-f];exact n7 ..
  rw[f,lA (xs:=_++x::_) Ψ,hlen];generalize eH:(bD bE (xs.take i) k).1=M at w f c⊢;generalize dj:(bD bE (xs.take i) k).2=K at p c J U⊢;generalize bs:xs.drop (i+1)=R at f c⊢;obtain⟨a,br,s,ys,rfl,B,qH⟩:=(g x hm).inv;have d:=uE (b:=b+1) (r:=R) (x:= .agg [aj a,aj br,.str s,dx ys]) w;have v:(fL (b+1) (M++ .agg [aj a,aj br,.str s,dx ys]::R)).length=xs.length:=by rw[o6,<-f];exact n7 ..
  rw[A7]at d;rw[Y0]at p c U;generalize L:dv (b+1+da M) (dx ys)=E at d;generalize V:fL (b+1) (M++ .agg [aj a,aj br,.str s,dx ys]::R)=X at d v⊢;have Y:K+1+1+1<=(bD bE ys (K+1+1+1)).2:=lX ..;simp only at U;have H:=C1 (K+1+1) Ω;have A:∀h,(X[i]'h)= .agg [aj a,aj br,.str s,E]:=fun h=>by rw[cl h]at d;exact e8 d
  clear d;simp[hi,A,v];(repeat' first|refine al ?_|refine aO H ?_|refine aP H ?_|simp[A,v,hi]);have z:dX ys:=jB.dtL B;have P:=b1 ys (by have:=J7 hm;omega) B (K+1+1+1) (b+1+da M) ε Ω Ω;have j:(bD bE ys (K+1+1+1)).1.length=ys.length:=kJ ..;have q:da (bD bE ys (K+1+1+1)).1=da ys:=mz ..;generalize bD bE ys (K+1+1+1)=Q at j q P p c U Y;have Z:b7 E=E:=by rw[<-L];exact CT
  rw[Z];subst L;refine CallDo.subR (ε:=ε) (b:=b) (l:=M) (r:=R) (y:= .agg [aj a,aj br,.str s,dx ys]) (y':= .agg [aj K,aj (K+1),.str (bE (K+1+1)),dx Q.1]) (by simp[cN,dX,z]) (by rw[xf,xf];exact l9 j q) (by simp only[c1,P4];exact P) rfl rfl ?_ (fun eO S av=>?_)
  ·rw[xf];simp only[aH,az,jc];exact nA _ _ (by simp only[cN];exact⟨Ω,z⟩)
  ·skip;simp;(repeat' first|refine al ?_|simp);refine bY.rng () hi ?_ ?_
   ·trivial
   rw[show(bD bE (xs.take (i+1)) k).2=Q.2 from p];refine W _ _ (by simp[az,F]) fun k o h=>?_;rw[c,lA Ψ]at h;simp only[ae]at h;split at h
   ·rename_i e;subst e;rw[S,<-h,<-V,<-y3 j,<-A7 (b+1+da M) K (K+1) (bE (K+1+1)),G8 w (by rw[xf,xf];exact l9 j q),<-n7 bE xs k (i+1),c]
   ·exact av k o h
def aiY:∀(n:Nat) (xs:List af),qZ xs<=n->(∀x∈xs,jB x)->∀(k:Int) (b:Nat) (ε:Nat->Nat),0<=k->(bD bE xs k).2<=4611686018427387904->
  bG au 25 [dv b (dx (bD bE xs k).1),aj k] (c1 ε b (dx (bD bE xs k).1)) fun r ak=>r=aj (bD bE xs k).2/\ak=c1 ε b (dx (bD bE xs k).1):=by
 intro n;induction n with
 |zero=>
  intro xs L j k b ε bA ab;cases xs with
  |nil=>exact VM k b ε
  |cons x xs=>obtain⟨a,br,s,ys,_,_,e⟩:=(j x Ψ).inv;simp only[qZ]at L;omega
 |succ n b1=>
 intro xs L j k b ε bA ab;have aK:dX (bD bE xs k).1:=rb _ _ _ (jB.dtL j);have z:cN (dx (bD bE xs k).1):=by simp only[cN];exact⟨Ω,aK⟩
 have S:eA (c1 ε b (dx (bD bE xs k).1)):=ot z;by_cases O:xs=[]
 ·subst O;exact VM k b ε
 have g:(bD bE xs k).1.length=xs.length:=kJ ..;have f:(bD bE xs k).1≠[]:=fun e=>O (List.length_eq_zero_iff.1 (by rw[<-g,e];rfl));have oE:=wF bE (xs:=xs) k fun x h=>by obtain⟨a,br,s,ys,rfl,_⟩:=(j x h).inv;exact⟨_,_,_,rfl⟩
 have G:rng b (b+bF (dx (bD bE xs k).1)) (.obj b):=⟨b,rfl,dP _,by revert f;cases (bD bE xs k).1 with|nil=>exact fun h=>absurd rfl h|cons x xs=>intro _;simp only[bF];omega⟩;have A:=fun(t':List (Nat×af)) (st:bp)=>gn.to (t':=t') (st:=st) (ε:=ε) (b:=b) z rfl;refine bG.mk mixed a1 Tryz.func25 Zs Ψ S.obj fun aR c4=>?_;unfold Ld;rw[uF f,g];simp;(repeat' first|refine al ?_|simp);refine fT (fun i (_:Unit)=>⟨[(0,.row 4 (.obj b) xs.length),(1,aj (bD bE (xs.take i) k).2),(5,aj i)],[],dR ε b (dx (bD bE xs k).1),0,cJ (c1 ε b (dx (bD bE xs k).1))⟩) xs.length (fun _ _=>True) () ?_ trivial (fun _ _ _=>?_) (fun i _ hi _ _=>?_)
 ·refine A _ _ ?_ (fun k o h=>h);simp[az,G,bD]
 ·rw[jz];simp;(repeat' first|refine al ?_|simp);refine c5.at (c1 ε b (dx (bD bE xs k).1)) Ψ S (oZ rfl) (fun k cs h=>by simp[ae]at h) (fun k o h=>h) ?_;simp[dc,ba,bf,a6]
 ·obtain⟨x,cB,hm,J,U,p,H⟩:=vd bE k hi;have c:=E1 bE k cB;generalize uM:(bD bE xs k).1=Y at*;have m:=lA (ε:=ε) (b:=b) (sz:=4) (t:= .no) f;rw[g]at m;rw[m];generalize eH:(bD bE (xs.take i) k).1=M at H c;generalize dj:(bD bE (xs.take i) k).2=K at p c J U⊢;obtain⟨a,br,s,ys,rfl,F,qH⟩:=(j x hm).inv;rw[Y0]at p c U;simp only at U;generalize (bD bE (xs.drop (i+1)) _).1=R at c;have d:=uE (b:=b+1) (r:=R) (x:= .agg [aj K,aj (K+1),.str (bE (K+1+1)),dx (bD bE ys (K+1+1+1)).1]) H;rw[<-c,A7]at d;have u:(fL (b+1) Y).length=xs.length:=by rw[o6,g]
  generalize v:dv (b+1+da M) (dx (bD bE ys (K+1+1+1)).1)=E at d;generalize lf:fL (b+1) Y=X at d u m⊢;have iB:K+1+1+1<=(bD bE ys (K+1+1+1)).2:=lX ..;have N:=C1 (K+1+1) Ω;have B:∀h,(X[i]'h)= .agg [aj K,aj (K+1),.str (bE (K+1+1)),E]:=fun h=>by rw[cl h]at d;exact e8 d
  clear d;have V:=b1 ys (by have:=J7 hm;omega) F (K+1+1+1) (b+1+da M) ε Ω Ω;have q:dX (bD bE ys (K+1+1+1)).1:=rb _ _ _ (jB.dtL F);generalize bD bE ys (K+1+1+1)=Q at q v V p c U iB;simp[hi,B,u];(repeat' first|refine al ?_|refine aO N ?_|refine aP N ?_|simp[B,u,hi]);have h7:b7 E=E:=by rw[<-v];exact CT
  rw[h7];subst v;refine CallDo.subR (ε:=ε) (b:=b) (l:=M) (r:=R) (y:= .agg [aj K,aj (K+1),.str (bE (K+1+1)),dx Q.1]) (y':= .agg [aj K,aj (K+1),.str (bE (K+1+1)),dx Q.1]) (by simp[cN,dX,q]) rfl (by simp only[c1,P4];exact V) c rfl ?_ (fun eO Z P=>?_)
  ·rw[xf];simp only[aH,az,jc];exact nA _ _ (by simp only[cN];exact⟨Ω,q⟩)
  ·skip;have w:¬(Q.2<0):=Ω
   simp[w];(repeat' first|refine al ?_|simp[w]);refine bY.rng () hi ?_ ?_
   ·trivial
   rw[show(bD bE (xs.take (i+1)) k).2=Q.2 from p];have W:aB.obj b::(gN ε (b+1) Y).map (fun x=>x.1)=cJ (c1 ε b (dx Y)):=by simp[lA f]
   rw[W,<-m];refine A _ _ ?_ (fun k o h=>?_)
   ·simp[az,G]
   rw[lA f,g,lf]at h;simp only[ae]at h;split at h
   ·rename_i e;subst e;rw[Z,<-h]
   ·rw[<-c]at P;exact P k o h
def uq(x:af):Prop:= ∃(a:Int) (b:Int) (a2:Int) (s:List cU) (ys:List af),x= .agg [aj a,aj b,aj a2,.str s,dx ys]/\∀y∈ys,jB y
def LV(c:Nat)(a:Int)(b:Int)(a2:Int)(s:List cU)(ys:List af)(t:jE):dv c (.agg [aj a,aj b,aj a2,.str s,.slice 4 t ys])= .agg [aj a,aj b,aj a2,.str s,dv c (.slice 4 t ys)]:=rfl
def abu(ε:Nat->Nat)(c:Nat)(a:Int)(b:Int)(a2:Int)(s:List cU)(ys:List af)(t:jE):dR ε c (.agg [aj a,aj b,aj a2,.str s,.slice 4 t ys])=dR ε c (.slice 4 t ys):=by show []++([]++([]++([]++((dR ε (c+0+0+0+0) (.slice 4 t ys)++[])))))=_;simp
def A2(a:Int)(b:Int)(a2:Int)(s:List cU)(ys:List af)(t:jE):bF (.agg [aj a,aj b,aj a2,.str s,.slice 4 t ys])=bF (.slice 4 t ys):=by show 0+(0+(0+(0+((bF (.slice 4 t ys)+0)))))=_;omega
def YX(a:Int)(b:Int)(a2:Int)(s:List cU)(ys:List af)(K:Int):dJ bE (.agg [aj a,aj b,aj a2,.str s,dx ys]) K=(.agg [aj K,aj (K+1),aj (K+1+1),.str (bE (K+1+1+1)),dx (bD bE ys (K+1+1+1+1)).1],(bD bE ys (K+1+1+1+1)).2):=by simp[dJ,bD]
def y2{xs:List af}(h:∀x∈xs,uq x):dX xs:=A4.2 fun x b=>by obtain⟨a,d,a2,s,ys,rfl,c⟩:=h x b;simp[cN,dX,jB.dtL c]
def asR(k:Int):bU au 106 [bL [],aj k] (aj k):=by refine bH a1 Tryz.func106 Zu fun a=>?_;unfold Lf;simp;(repeat' first|refine al ?_|simp);refine fT (fun i (_:Unit)=>⟨[(0,bL []),(1,aj k),(5,aj i)],[],[],0,[]⟩) 0 (fun _ _=>True) () ca trivial (fun _ _ _=>?_) (fun i _ hi _ _=>Ω);exact cp
def ai6(k:Int)(b:Nat)(ε:Nat->Nat):bG au 106 [dv b (bL []),aj k] (c1 ε b (bL [])) fun r a=>r=aj k/\a=c1 ε b (bL []):=asR k
def asp(k:Int):bU au 110 [bL [],aj k] (aj k):=by refine bH a1 Tryz.func110 Zp fun a=>?_;unfold La;simp;(repeat' first|refine al ?_|simp);refine fT (fun i (_:Unit)=>⟨[(0,bL []),(1,aj k),(5,aj i)],[],[],0,[]⟩) 0 (fun _ _=>True) () ca trivial (fun _ _ _=>?_) (fun i _ hi _ _=>Ω);exact cp
def aiU(k:Int)(b:Nat)(ε:Nat->Nat):bG au 110 [dv b (bL []),aj k] (c1 ε b (bL [])) fun r a=>r=aj k/\a=c1 ε b (bL []):=asp k
def VP(xs:List af)(w:∀x∈xs,uq x)(k:Int)(b:Nat)(ε:Nat->Nat)(bA:0<=k)(ab:(bD bE xs k).2<=4611686018427387904):
  bG au 106 [dv b (bL xs),aj k] (c1 ε b (bL xs)) fun r Z=>r=aj (bD bE xs k).2/\Z=c1 ε b (bL (bD bE xs k).1):=by
 have aK:dX xs:=y2 w;by_cases v:xs=[]
 ·subst v;exact ai6 k b ε
 have oE:=wF bE (xs:=xs) k fun x h=>by obtain⟨a,f,a2,s,ys,rfl,_⟩:=w x h;exact⟨_,_,_,rfl⟩
 obtain⟨ai,p,q,F⟩:=IP bE k (sz:=5) ε b aK Ω v;refine bG.mk mixed a1 Tryz.func106 Zu Ψ ai.obj fun aR c4=>?_;unfold Lf;rw[uF v];simp;(repeat' first|refine al ?_|simp);refine fT (fun i (_:Unit)=>⟨[(0,.row 5 (.obj b) xs.length),(1,aj (bD bE (xs.take i) k).2),(5,aj i)],[],dR ε b (bL (k0 bE xs k i)),0,cJ (c1 ε b (bL xs))⟩) xs.length (fun _ _=>True) () ?_ trivial (fun _ _ _=>?_) (fun i _ hi _ _=>?_)
 ·refine gn.to (q _) (p _) ?_ (fun k o h=>by rw[E0]at h;exact h);simp[az,F,bD]
 ·rw[p6,jz];simp;(repeat' first|refine al ?_|simp);refine c5.at (c1 ε b (bL (bD bE xs k).1)) Ψ (ot (by rw[<-p6];exact q _)) (oZ (by rw[<-p6];exact p _)) (fun k cs h=>by simp[ae]at h) (fun k o h=>h) ?_;simp[dc,ba,bf,a6]
 ·obtain⟨x,L,hm,J,U,m,u⟩:=vd bE k hi;have g:=EY bE k L;have c:=EZ bE k L;have S:=fun(t':List (Nat×af)) (st:bp)=>gn.to (t':=t') (st:=st) (ε:=ε) (b:=b) (q (i+1)) (p (i+1));have hlen:((bD bE (xs.take i) k).1++x::xs.drop (i+1)).length=xs.length:=by rw[<-g];exact n7 ..
  rw[g,lA (xs:=_++x::_) Ψ,hlen];generalize eH:(bD bE (xs.take i) k).1=M at u g c⊢;generalize dj:(bD bE (xs.take i) k).2=K at m c J U⊢;generalize bs:xs.drop (i+1)=R at g c⊢;obtain⟨a,f,a2,s,ys,rfl,B⟩:=w x hm;have d:=uE (b:=b+1) (r:=R) (x:= .agg [aj a,aj f,aj a2,.str s,dx ys]) u;have t:(fL (b+1) (M++ .agg [aj a,aj f,aj a2,.str s,dx ys]::R)).length=xs.length:=by rw[o6,<-g];exact n7 ..
  rw[LV]at d;rw[YX]at m c U;generalize H:dv (b+1+da M) (dx ys)=E at d;generalize P:fL (b+1) (M++ .agg [aj a,aj f,aj a2,.str s,dx ys]::R)=X at d t⊢;have V:(K+1+1+1+1)<=(bD bE ys (K+1+1+1+1)).2:=lX ..;simp only at U;have G:=C1 (K+1+1+1) Ω;have A:∀h,(X[i]'h)= .agg [aj a,aj f,aj a2,.str s,E]:=fun h=>by rw[cl h]at d;exact e8 d
  clear d;have N:=VS _ ys (dP _) B (K+1+1+1+1) (b+1+da M) ε Ω Ω;have z:dX ys:=jB.dtL B;have j:(bD bE ys (K+1+1+1+1)).1.length=ys.length:=kJ ..;have n:da (bD bE ys (K+1+1+1+1)).1=da ys:=mz ..;generalize bD bE ys (K+1+1+1+1)=Q at j n N m c U V;simp[hi,A,t];(repeat' first|refine al ?_|refine aO G ?_|refine aP G ?_|simp[A,t,hi]);have W:b7 E=E:=by rw[<-H];exact CT
  rw[W];subst H;refine CallDo.subR (ε:=ε) (b:=b) (l:=M) (r:=R) (y:= .agg [aj a,aj f,aj a2,.str s,dx ys]) (y':= .agg [aj K,aj (K+1),aj (K+1+1),.str (bE (K+1+1+1)),dx Q.1]) (by simp[cN,dX,z]) (by rw[A2,A2];exact l9 j n) (by simp only[c1,abu];exact N) rfl rfl ?_ (fun eO O Y=>?_)
  ·rw[A2];simp only[aH,az,jc];exact nA _ _ (by simp only[cN];exact⟨Ω,z⟩)
  ·skip;simp;(repeat' first|refine al ?_|simp);refine bY.rng () hi ?_ ?_
   ·trivial
   rw[show(bD bE (xs.take (i+1)) k).2=Q.2 from m];refine S _ _ ?_ (fun k o h=>?_)
   ·simp[az,F]
   rw[c,lA Ψ]at h;simp only[ae]at h;split at h
   ·rename_i e;subst e;rw[O,<-h,<-P,<-y3 j,<-LV (b+1+da M) K (K+1) (K+1+1) (bE (K+1+1+1)),G8 u (by rw[A2,A2];exact l9 j n),<-n7 bE xs k (i+1),c]
   ·exact Y k o h
def VL(xs:List af)(u:∀x∈xs,uq x)(k:Int)(b:Nat)(ε:Nat->Nat)(bA:0<=k)(ab:(bD bE xs k).2<=4611686018427387904):
  bG au 110 [dv b (bL (bD bE xs k).1),aj k] (c1 ε b (bL (bD bE xs k).1)) fun r ak=>r=aj (bD bE xs k).2/\ak=c1 ε b (bL (bD bE xs k).1):=by
 by_cases H:xs=[]
 ·subst H;exact aiU k b ε
 have oE:=wF bE (xs:=xs) k fun x h=>by obtain⟨a,bq,a2,s,ys,rfl,_⟩:=u x h;exact⟨_,_,_,rfl⟩
 obtain⟨P,N,g,f,B⟩:=HF bE k (sz:=5) ε b (y2 u) Ω H;have w:=fun(t':List (Nat×af)) (st:bp)=>gn.to (t':=t') (st:=st) (ε:=ε) (b:=b) P rfl;refine bG.mk mixed a1 Tryz.func110 Zp Ψ N.obj fun aR c4=>?_;unfold La;rw[uF f,g];simp;(repeat' first|refine al ?_|simp);refine fT (fun i (_:Unit)=>⟨[(0,.row 5 (.obj b) xs.length),(1,aj (bD bE (xs.take i) k).2),(5,aj i)],[],dR ε b (bL (bD bE xs k).1),0,cJ (c1 ε b (bL (bD bE xs k).1))⟩) xs.length (fun _ _=>True) () ?_ trivial (fun _ _ _=>?_) (fun i _ hi _ _=>?_)
 ·refine w _ _ ?_ (fun k o h=>h);simp[az,B,bD]
 ·rw[jz];simp;(repeat' first|refine al ?_|simp);refine c5.at (c1 ε b (bL (bD bE xs k).1)) Ψ N (oZ rfl) (fun k cs h=>by simp[ae]at h) (fun k o h=>h) ?_;simp[dc,ba,bf,a6]
 ·obtain⟨x,cB,hm,J,U,m,F⟩:=vd bE k hi;have c:=E1 bE k cB;generalize uM:(bD bE xs k).1=Y at*;have j:=lA (ε:=ε) (b:=b) (sz:=5) (t:= .no) f;rw[g]at j;rw[j];generalize eH:(bD bE (xs.take i) k).1=M at F c;generalize dj:(bD bE (xs.take i) k).2=K at m c J U⊢;obtain⟨a,bq,a2,s,ys,rfl,A⟩:=u x hm;rw[YX]at m c U;simp only at U;generalize (bD bE (xs.drop (i+1)) _).1=R at c;have d:=uE (b:=b+1) (r:=R) (x:= .agg [aj K,aj (K+1),aj (K+1+1),.str (bE (K+1+1+1)),dx (bD bE ys (K+1+1+1+1)).1]) F;rw[<-c,LV]at d;have p:(fL (b+1) Y).length=xs.length:=by rw[o6,g]
  generalize q:dv (b+1+da M) (dx (bD bE ys (K+1+1+1+1)).1)=E at d;generalize W:fL (b+1) Y=X at d p j⊢;have Z:(K+1+1+1+1)<=(bD bE ys (K+1+1+1+1)).2:=lX ..;have G:=C1 (K+1+1+1) Ω;have z:∀h,(X[i]'h)= .agg [aj K,aj (K+1),aj (K+1+1),.str (bE (K+1+1+1)),E]:=fun h=>by rw[cl h]at d;exact e8 d
  clear d;have O:=aiY _ ys (dP _) A (K+1+1+1+1) (b+1+da M) ε Ω Ω;have n:dX (bD bE ys (K+1+1+1+1)).1:=rb _ _ _ (jB.dtL A);generalize bD bE ys (K+1+1+1+1)=Q at n q O m c U Z;simp[hi,z,p];(repeat' first|refine al ?_|refine aO G ?_|refine aP G ?_|simp[z,p,hi]);have h7:b7 E=E:=by rw[<-q];exact CT
  rw[h7];subst q;refine CallDo.subR (ε:=ε) (b:=b) (l:=M) (r:=R) (y:= .agg [aj K,aj (K+1),aj (K+1+1),.str (bE (K+1+1+1)),dx Q.1]) (y':= .agg [aj K,aj (K+1),aj (K+1+1),.str (bE (K+1+1+1)),dx Q.1]) (by simp[cN,dX,n]) rfl (by simp only[c1,abu];exact O) c rfl ?_ (fun eO V L=>?_)
  ·rw[A2];simp only[aH,az,jc];exact nA _ _ (by simp only[cN];exact⟨Ω,n⟩)
  ·skip;have v:¬(Q.2<0):=Ω
   simp[v];(repeat' first|refine al ?_|simp[v]);refine bY.rng () hi ?_ ?_
   ·trivial
   rw[show(bD bE (xs.take (i+1)) k).2=Q.2 from m];have S:aB.obj b::(gN ε (b+1) Y).map (fun x=>x.1)=cJ (c1 ε b (bL Y)):=by simp[lA f]
   rw[S,<-j];refine w _ _ ?_ (fun k o h=>?_)
   ·simp[az,B]
   rw[lA f,g,W]at h;simp only[ae]at h;split at h
   ·rename_i e;subst e;rw[V,<-h]
   ·rw[<-c]at L;exact L k o h
def Gc(x:af):Prop:= ∃(a:Int) (b:Int),x= .agg [aj a,aj b]
def YY(a:Int)(b:Int)(K:Int):dJ bE (.agg [aj a,aj b]) K=(.agg [aj K,aj (K+1)],K+1+1):=by simp[dJ,bD]
def G0{xs:List af}(h:∀x∈xs,Gc x):dX xs:=A4.2 fun x b=>by obtain⟨a,c,rfl⟩:=h x b;simp[cN,dX]
def asU(k:Int):bU au 108 [b6 [],aj k] (aj k):=by refine bH a1 Tryz.func108 Zz fun a=>?_;unfold Lk;simp;(repeat' first|refine al ?_|simp);refine fT (fun i (_:Unit)=>⟨[(0,b6 []),(1,aj k),(5,aj i)],[],[],0,[]⟩) 0 (fun _ _=>True) () ca trivial (fun _ _ _=>?_) (fun i _ hi _ _=>Ω);exact cp
def aja(k:Int)(b:Nat)(ε:Nat->Nat):bG au 108 [dv b (b6 []),aj k] (c1 ε b (b6 [])) fun r a=>r=aj k/\a=c1 ε b (b6 []):=asU k
def ass(k:Int):bU au 112 [b6 [],aj k] (aj k):=by refine bH a1 Tryz.func112 Zt fun a=>?_;unfold Le;simp;(repeat' first|refine al ?_|simp);refine fT (fun i (_:Unit)=>⟨[(0,b6 []),(1,aj k),(5,aj i)],[],[],0,[]⟩) 0 (fun _ _=>True) () ca trivial (fun _ _ _=>?_) (fun i _ hi _ _=>Ω);exact cp
def ai0(k:Int)(b:Nat)(ε:Nat->Nat):bG au 112 [dv b (b6 []),aj k] (c1 ε b (b6 [])) fun r a=>r=aj k/\a=c1 ε b (b6 []):=ass k
def ai9(xs:List af)(s:∀x∈xs,Gc x)(k:Int)(b:Nat)(ε:Nat->Nat)(L:0<=k)(ab:(bD bE xs k).2<=4611686018427387904):
  bG au 108 [dv b (b6 xs),aj k] (c1 ε b (b6 xs)) fun r z=>r=aj (bD bE xs k).2/\z=c1 ε b (b6 (bD bE xs k).1):=by
 have B:dX xs:=G0 s;by_cases n:xs=[]
 ·subst n;exact aja k b ε
 have E:=wF bE (xs:=xs) k fun x h=>by obtain⟨a,d,rfl⟩:=s x h;exact⟨_,_,_,rfl⟩
 obtain⟨A,g,j,u⟩:=IP bE k (sz:=2) ε b B Ω n;refine bG.mk mixed a1 Tryz.func108 Zz Ψ A.obj fun N H=>?_;unfold Lk;rw[uF n];simp[-Rt];(repeat' first|refine al ?_|simp[-Rt]);refine fT (fun i (_:Unit)=>⟨[(0,.row 2 (.obj b) xs.length),(1,aj (bD bE (xs.take i) k).2),(5,aj i)],[],dR ε b (b6 (k0 bE xs k i)),0,cJ (c1 ε b (b6 xs))⟩) xs.length (fun _ _=>True) () ?_ trivial (fun _ _ _=>?_) (fun i _ hi _ _=>?_)
 ·refine gn.to (j _) (g _) ?_ (fun k o h=>by rw[E0]at h;exact h);simp[-Rt,az,u,bD]
 ·rw[p6,jz];simp[-Rt];(repeat' first|refine al ?_|simp[-Rt]);refine c5.at (c1 ε b (b6 (bD bE xs k).1)) Ψ (ot (by rw[<-p6];exact j _)) (oZ (by rw[<-p6];exact g _)) (fun k cs h=>by simp[-Rt,ae]at h) (fun k o h=>h) ?_;simp[-Rt,dc,ba,bf,a6]
 ·obtain⟨x,v,hm,J,U,p,m⟩:=vd bE k hi;have e:=EY bE k v;have c:=EZ bE k v;have y:=fun(t':List (Nat×af)) (st:bp)=>gn.to (t':=t') (st:=st) (ε:=ε) (b:=b) (j (i+1)) (g (i+1));have hlen:((bD bE (xs.take i) k).1++x::xs.drop (i+1)).length=xs.length:=by rw[<-e];exact n7 ..
  rw[e,lA (xs:=_++x::_) Ψ,hlen];generalize F:(bD bE (xs.take i) k).1=M at m e c⊢;generalize G:(bD bE (xs.take i) k).2=K at p c J U⊢;generalize bs:xs.drop (i+1)=R at e c⊢;obtain⟨a,d,rfl⟩:=s x hm;have f:=uE (b:=b+1) (r:=R) (x:= .agg [aj a,aj d]) m;have l:(fL (b+1) (M++ .agg [aj a,aj d]::R)).length=xs.length:=by rw[o6,<-e];exact n7 ..
  rw[YY]at p c U;generalize w:fL (b+1) (M++ .agg [aj a,aj d]::R)=X at f l⊢;simp only at U;have t:∀h,(X[i]'h)= .agg [aj a,aj d]:=fun h=>by rw[cl h]at f;exact e8 f
  clear f;simp[-Rt,hi,t,l];(repeat' first|refine al ?_|simp[-Rt,t,l,hi]);refine bY.rng () hi ?_ ?_
  ·trivial
  rw[show(bD bE (xs.take (i+1)) k).2=K+1+1 from p];refine y _ _ ?_ (fun q o h=>?_)
  ·simp[-Rt,az,u]
  rw[c,lA Ψ]at h;have es:X.set i (.agg [aj K,aj (K+1)])=fL (b+1) (M++ .agg [aj K,aj (K+1)]::R):=by rw[<-w];exact G8 (x:= .agg [aj a,aj d]) (x':= .agg [aj K,aj (K+1)]) m rfl
  rw[es,<-n7 bE xs k (i+1),c];rw[FC]at h⊢;exact h
def aiZ(xs:List af)(m:∀x∈xs,Gc x)(k:Int)(b:Nat)(ε:Nat->Nat)(O:0<=k)(ab:(bD bE xs k).2<=4611686018427387904):
  bG au 112 [dv b (b6 (bD bE xs k).1),aj k] (c1 ε b (b6 (bD bE xs k).1)) fun r B=>r=aj (bD bE xs k).2/\B=c1 ε b (b6 (bD bE xs k).1):=by
 by_cases u:xs=[]
 ·subst u;exact ai0 k b ε
 have F:=wF bE (xs:=xs) k fun x h=>by obtain⟨a,A,rfl⟩:=m x h;exact⟨_,_,_,rfl⟩
 obtain⟨w,v,g,f,q⟩:=HF bE k (sz:=2) ε b (G0 m) Ω u;have n:=fun(t':List (Nat×af)) (st:bp)=>gn.to (t':=t') (st:=st) (ε:=ε) (b:=b) w rfl;refine bG.mk mixed a1 Tryz.func112 Zt Ψ v.obj fun P N=>?_;unfold Le;rw[uF f,g];simp[-Rt];(repeat' first|refine al ?_|simp[-Rt]);refine fT (fun i (_:Unit)=>⟨[(0,.row 2 (.obj b) xs.length),(1,aj (bD bE (xs.take i) k).2),(5,aj i)],[],dR ε b (b6 (bD bE xs k).1),0,cJ (c1 ε b (b6 (bD bE xs k).1))⟩) xs.length (fun _ _=>True) () ?_ trivial (fun _ _ _=>?_) (fun i _ hi _ _=>?_)
 ·refine n _ _ ?_ (fun k o h=>h);simp[-Rt,az,q,bD]
 ·rw[jz];simp[-Rt];(repeat' first|refine al ?_|simp[-Rt]);refine c5.at (c1 ε b (b6 (bD bE xs k).1)) Ψ v (oZ rfl) (fun k cs h=>by simp[-Rt,ae]at h) (fun k o h=>h) ?_;simp[-Rt,dc,ba,bf,a6]
 ·obtain⟨x,z,hm,J,U,l,s⟩:=vd bE k hi;have d:=E1 bE k z;generalize E:(bD bE xs k).1=Y at*;have e:=lA (ε:=ε) (b:=b) (sz:=2) (t:= .no) f;rw[g]at e;rw[e];generalize H:(bD bE (xs.take i) k).1=M at s d;generalize L:(bD bE (xs.take i) k).2=K at l d J U⊢;obtain⟨a,A,rfl⟩:=m x hm;rw[YY]at l d U;simp only at U;generalize (bD bE (xs.drop (i+1)) _).1=R at d;have c:=uE (b:=b+1) (r:=R) (x:= .agg [aj K,aj (K+1)]) s;rw[<-d]at c;have j:(fL (b+1) Y).length=xs.length:=by rw[o6,g]
  generalize G:fL (b+1) Y=X at c j e⊢;have p:∀h,(X[i]'h)= .agg [aj K,aj (K+1)]:=fun h=>by rw[cl h]at c;exact e8 c
  clear c;simp[-Rt,hi,p,j];(repeat' first|refine al ?_|simp[-Rt,p,j,hi]);refine bY.rng () hi ?_ ?_
  ·trivial
  rw[show(bD bE (xs.take (i+1)) k).2=K+1+1 from l];have y:aB.obj b::(gN ε (b+1) Y).map (fun x=>x.1)=cJ (c1 ε b (b6 Y)):=by simp[-Rt,lA f]
  rw[y,<-e];refine n _ _ ?_ (fun k o h=>h)
  ·simp[-Rt,az,q]
def Gd(x:af):Prop:= ∃(a:Int) (s:List cU),x= .agg [aj a,.str s]
def YZ(a:Int)(s:List cU)(K:Int):dJ bE (.agg [aj a,.str s]) K=(.agg [aj K,.str (bE (K+1))],K+1+1):=by simp[dJ,bD]
def G1{xs:List af}(h:∀x∈xs,Gd x):dX xs:=A4.2 fun x b=>by obtain⟨a,s,rfl⟩:=h x b;simp[cN,dX]
def asS(k:Int):bU au 109 [b6 [],aj k] (aj k):=by refine bH a1 Tryz.func109 Zw fun a=>?_;unfold Lh;simp;(repeat' first|refine al ?_|simp);refine fT (fun i (_:Unit)=>⟨[(0,b6 []),(1,aj k),(5,aj i)],[],[],0,[]⟩) 0 (fun _ _=>True) () ca trivial (fun _ _ _=>?_) (fun i _ hi _ _=>Ω);exact cp
def ai8(k:Int)(b:Nat)(ε:Nat->Nat):bG au 109 [dv b (b6 []),aj k] (c1 ε b (b6 [])) fun r a=>r=aj k/\a=c1 ε b (b6 []):=asS k
def asq(k:Int):bU au 113 [b6 [],aj k] (aj k):=by refine bH a1 Tryz.func113 Zr fun a=>?_;unfold Lc;simp;(repeat' first|refine al ?_|simp);refine fT (fun i (_:Unit)=>⟨[(0,b6 []),(1,aj k),(5,aj i)],[],[],0,[]⟩) 0 (fun _ _=>True) () ca trivial (fun _ _ _=>?_) (fun i _ hi _ _=>Ω);exact cp
def aiW(k:Int)(b:Nat)(ε:Nat->Nat):bG au 113 [dv b (b6 []),aj k] (c1 ε b (b6 [])) fun r a=>r=aj k/\a=c1 ε b (b6 []):=asq k
def ai7(xs:List af)(p:∀x∈xs,Gd x)(k:Int)(b:Nat)(ε:Nat->Nat)(N:0<=k)(ab:(bD bE xs k).2<=4611686018427387904):
  bG au 109 [dv b (b6 xs),aj k] (c1 ε b (b6 xs)) fun r A=>r=aj (bD bE xs k).2/\A=c1 ε b (b6 (bD bE xs k).1):=by
 have E:dX xs:=G1 p;by_cases m:xs=[]
 ·subst m;exact ai8 k b ε
 have F:=wF bE (xs:=xs) k fun x h=>by obtain⟨a,s,rfl⟩:=p x h;exact⟨_,_,_,rfl⟩
 obtain⟨B,f,g,u⟩:=IP bE k (sz:=2) ε b E Ω m;refine bG.mk mixed a1 Tryz.func109 Zw Ψ B.obj fun O L=>?_;unfold Lh;rw[uF m];simp[-KR];(repeat' first|refine al ?_|simp[-KR]);refine fT (fun i (_:Unit)=>⟨[(0,.row 2 (.obj b) xs.length),(1,aj (bD bE (xs.take i) k).2),(5,aj i)],[],dR ε b (b6 (k0 bE xs k i)),0,cJ (c1 ε b (b6 xs))⟩) xs.length (fun _ _=>True) () ?_ trivial (fun _ _ _=>?_) (fun i _ hi _ _=>?_)
 ·refine gn.to (g _) (f _) ?_ (fun k o h=>by rw[E0]at h;exact h);simp[-KR,az,u,bD]
 ·rw[p6,jz];simp[-KR];(repeat' first|refine al ?_|simp[-KR]);refine c5.at (c1 ε b (b6 (bD bE xs k).1)) Ψ (ot (by rw[<-p6];exact g _)) (oZ (by rw[<-p6];exact f _)) (fun k cs h=>by simp[-KR,ae]at h) (fun k o h=>h) ?_;simp[-KR,dc,ba,bf,a6]
 ·obtain⟨x,w,hm,J,U,n,l⟩:=vd bE k hi;have d:=EY bE k w;have c:=EZ bE k w;have z:=fun(t':List (Nat×af)) (st:bp)=>gn.to (t':=t') (st:=st) (ε:=ε) (b:=b) (g (i+1)) (f (i+1));have hlen:((bD bE (xs.take i) k).1++x::xs.drop (i+1)).length=xs.length:=by rw[<-d];exact n7 ..
  rw[d,lA (xs:=_++x::_) Ψ,hlen];generalize G:(bD bE (xs.take i) k).1=M at l d c⊢;generalize H:(bD bE (xs.take i) k).2=K at n c J U⊢;generalize bs:xs.drop (i+1)=R at d c⊢;obtain⟨a,s,rfl⟩:=p x hm;have e:=uE (b:=b+1) (r:=R) (x:= .agg [aj a,.str s]) l;have j:(fL (b+1) (M++ .agg [aj a,.str s]::R)).length=xs.length:=by rw[o6,<-d];exact n7 ..
  rw[YZ]at n c U;generalize y:fL (b+1) (M++ .agg [aj a,.str s]::R)=X at e j⊢;simp only at U;have v:=C1 (K+1) Ω;have t:∀h,(X[i]'h)= .agg [aj a,.str s]:=fun h=>by rw[cl h]at e;exact e8 e
  clear e;simp[-KR,hi,t,j];(repeat' first|refine al ?_|refine aO v ?_|refine aP v ?_|simp[-KR,t,j,hi]);refine bY.rng () hi ?_ ?_
  ·trivial
  rw[show(bD bE (xs.take (i+1)) k).2=K+1+1 from n];refine z _ _ ?_ (fun q o h=>?_)
  ·simp[-KR,az,u]
  rw[c,lA Ψ]at h;have es:X.set i (.agg [aj K,.str (bE (K+1))])=fL (b+1) (M++ .agg [aj K,.str (bE (K+1))]::R):=by rw[<-y];exact G8 (x:= .agg [aj a,.str s]) (x':= .agg [aj K,.str (bE (K+1))]) l rfl
  rw[es,<-n7 bE xs k (i+1),c];rw[FC]at h⊢;exact h
def aiV(xs:List af)(m:∀x∈xs,Gd x)(k:Int)(b:Nat)(ε:Nat->Nat)(P:0<=k)(ab:(bD bE xs k).2<=4611686018427387904):
  bG au 113 [dv b (b6 (bD bE xs k).1),aj k] (c1 ε b (b6 (bD bE xs k).1)) fun r E=>r=aj (bD bE xs k).2/\E=c1 ε b (b6 (bD bE xs k).1):=by
 by_cases w:xs=[]
 ·subst w;exact aiW k b ε
 have G:=wF bE (xs:=xs) k fun x h=>by obtain⟨a,s,rfl⟩:=m x h;exact⟨_,_,_,rfl⟩
 obtain⟨z,y,g,f,q⟩:=HF bE k (sz:=2) ε b (G1 m) Ω w;have n:=fun(t':List (Nat×af)) (st:bp)=>gn.to (t':=t') (st:=st) (ε:=ε) (b:=b) z rfl;refine bG.mk mixed a1 Tryz.func113 Zr Ψ y.obj fun Q O=>?_;unfold Lc;rw[uF f,g];simp[-KR];(repeat' first|refine al ?_|simp[-KR]);refine fT (fun i (_:Unit)=>⟨[(0,.row 2 (.obj b) xs.length),(1,aj (bD bE (xs.take i) k).2),(5,aj i)],[],dR ε b (b6 (bD bE xs k).1),0,cJ (c1 ε b (b6 (bD bE xs k).1))⟩) xs.length (fun _ _=>True) () ?_ trivial (fun _ _ _=>?_) (fun i _ hi _ _=>?_)
 ·refine n _ _ ?_ (fun k o h=>h);simp[-KR,az,q,bD]
 ·rw[jz];simp[-KR];(repeat' first|refine al ?_|simp[-KR]);refine c5.at (c1 ε b (b6 (bD bE xs k).1)) Ψ y (oZ rfl) (fun k cs h=>by simp[-KR,ae]at h) (fun k o h=>h) ?_;simp[-KR,dc,ba,bf,a6]
 ·obtain⟨x,B,hm,J,U,l,u⟩:=vd bE k hi;have d:=E1 bE k B;generalize F:(bD bE xs k).1=Y at*;have e:=lA (ε:=ε) (b:=b) (sz:=2) (t:= .no) f;rw[g]at e;rw[e];generalize L:(bD bE (xs.take i) k).1=M at u d;generalize N:(bD bE (xs.take i) k).2=K at l d J U⊢;obtain⟨a,s,rfl⟩:=m x hm;rw[YZ]at l d U;simp only at U;generalize (bD bE (xs.drop (i+1)) _).1=R at d;have c:=uE (b:=b+1) (r:=R) (x:= .agg [aj K,.str (bE (K+1))]) u;rw[<-d]at c;have j:(fL (b+1) Y).length=xs.length:=by rw[o6,g]
  generalize H:fL (b+1) Y=X at c j e⊢;have v:=C1 (K+1) Ω;have p:∀h,(X[i]'h)= .agg [aj K,.str (bE (K+1))]:=fun h=>by rw[cl h]at c;exact e8 c
  clear c;simp[-KR,hi,p,j];(repeat' first|refine al ?_|refine aO v ?_|refine aP v ?_|simp[-KR,p,j,hi]);refine bY.rng () hi ?_ ?_
  ·trivial
  rw[show(bD bE (xs.take (i+1)) k).2=K+1+1 from l];have A:aB.obj b::(gN ε (b+1) Y).map (fun x=>x.1)=cJ (c1 ε b (b6 Y)):=by simp[-KR,lA f]
  rw[A,<-e];refine n _ _ ?_ (fun k o h=>h)
  ·simp[-KR,az,q]
def G4{xs:List af}(c:∀x∈xs,∃a,x=bL a/\∀y∈a,uq y):dX xs:=A4.2 fun x h=>by obtain⟨a,rfl,b⟩:=c x h;simp only[cN];exact⟨Ω,y2 b⟩
def asQ(k:Int):bU au 107 [cZ [],aj k] (aj k):=by refine bH a1 Tryz.func107 Zv fun a=>?_;unfold Lg;simp;(repeat' first|refine al ?_|simp);refine fT (fun i (_:Unit)=>⟨[(0,cZ []),(1,aj k),(5,aj i)],[],[],0,[]⟩) 0 (fun _ _=>True) () ca trivial (fun _ _ _=>?_) (fun i _ hi _ _=>Ω);exact cp
def ai5(k:Int)(b:Nat)(ε:Nat->Nat):bG au 107 [dv b (cZ []),aj k] (c1 ε b (cZ [])) fun r a=>r=aj k/\a=c1 ε b (cZ []):=asQ k
def aso(k:Int):bU au 111 [cZ [],aj k] (aj k):=by refine bH a1 Tryz.func111 Zq fun a=>?_;unfold Lb;simp;(repeat' first|refine al ?_|simp);refine fT (fun i (_:Unit)=>⟨[(0,cZ []),(1,aj k),(5,aj i)],[],[],0,[]⟩) 0 (fun _ _=>True) () ca trivial (fun _ _ _=>?_) (fun i _ hi _ _=>Ω);exact cp
def aiT(k:Int)(b:Nat)(ε:Nat->Nat):bG au 111 [dv b (cZ []),aj k] (c1 ε b (cZ [])) fun r a=>r=aj k/\a=c1 ε b (cZ []):=aso k
def ai4(xs:List af)(H:∀x∈xs,∃a,x=bL a/\∀y∈a,uq y)(oE:xs.length<=4611686018427387904)(k:Int)(b:Nat)(ε:Nat->Nat)(bA:0<=k)(ab:(bD bE xs k).2<=4611686018427387904):
  bG au 107 [dv b (cZ xs),aj k] (c1 ε b (cZ xs)) fun r Y=>r=aj (bD bE xs k).2/\Y=c1 ε b (cZ (bD bE xs k).1):=by
 have aK:dX xs:=G4 H;by_cases t:xs=[]
 ·subst t;exact ai5 k b ε
 obtain⟨Z,p,q,B⟩:=IP bE k (sz:=1) ε b aK Ω t;refine bG.mk mixed a1 Tryz.func107 Zv Ψ Z.obj fun aR c4=>?_;unfold Lg;rw[uF t];simp;(repeat' first|refine al ?_|simp);refine fT (fun i (_:Unit)=>⟨[(0,.row 1 (.obj b) xs.length),(1,aj (bD bE (xs.take i) k).2),(5,aj i)],[],dR ε b (cZ (k0 bE xs k i)),0,cJ (c1 ε b (cZ xs))⟩) xs.length (fun _ _=>True) () ?_ trivial (fun _ _ _=>?_) (fun i _ hi _ _=>?_)
 ·refine gn.to (q _) (p _) ?_ (fun k o h=>by rw[E0]at h;exact h);simp[az,B,bD]
 ·rw[p6,jz];simp;(repeat' first|refine al ?_|simp);refine c5.at (c1 ε b (cZ (bD bE xs k).1)) Ψ (ot (by rw[<-p6];exact q _)) (oZ (by rw[<-p6];exact p _)) (fun k cs h=>by simp[ae]at h) (fun k o h=>h) ?_;simp[dc,ba,bf,a6]
 ·obtain⟨x,G,hm,J,U,m,F⟩:=vd bE k hi;have f:=EY bE k G;have c:=EZ bE k G;have P:=fun(t':List (Nat×af)) (st:bp)=>gn.to (t':=t') (st:=st) (ε:=ε) (b:=b) (q (i+1)) (p (i+1));have hlen:((bD bE (xs.take i) k).1++x::xs.drop (i+1)).length=xs.length:=by rw[<-f];exact n7 ..
  rw[f,lA (xs:=_++x::_) Ψ,hlen];generalize eH:(bD bE (xs.take i) k).1=M at F f c⊢;generalize dj:(bD bE (xs.take i) k).2=K at m c J U⊢;generalize bs:xs.drop (i+1)=R at f c⊢;obtain⟨a,rfl,w⟩:=H x hm;have d:=uE (b:=b+1) (r:=R) (x:=bL a) F;have s:(fL (b+1) (M++bL a::R)).length=xs.length:=by rw[o6,<-f];exact n7 ..
  simp only[dJ]at m c U;generalize j:dv (b+1+da M) (bL a)=E at d;generalize O:fL (b+1) (M++bL a::R)=X at d s⊢;have S:K<=(bD bE a K).2:=lX ..;have A:∀h,(X[i]'h)=E:=fun h=>by rw[cl h]at d;exact e8 d
  clear d;have L:=VP a w K (b+1+da M) ε Ω Ω;have z:dX a:=y2 w;have g:(bD bE a K).1.length=a.length:=kJ ..;have n:da (bD bE a K).1=da a:=mz ..;generalize bD bE a K=Q at g n L m c U S;have u:cells E=[E]:=by rw[<-j];exact T2
  have v:eT E=true:=by rw[<-j];exact abL
  simp[hi,A,s,u,v];(repeat' first|refine al ?_|simp[A,s,hi,u,v]);have V:b7 E=E:=by rw[<-j];exact CT
  rw[V];subst j;refine CallDo.subR (ε:=ε) (b:=b) (l:=M) (r:=R) (y:=bL a) (y':=bL Q.1) (by simp only[cN];exact⟨Ω,z⟩) (l9 g n) L rfl rfl ?_ (fun eO N W=>?_)
  ·simp only[aH,az,jc];exact nA _ _ (by simp only[cN];exact⟨Ω,z⟩)
  ·skip;simp;(repeat' first|refine al ?_|simp);refine bY.rng () hi ?_ ?_
   ·trivial
   rw[show(bD bE (xs.take (i+1)) k).2=Q.2 from m];refine P _ _ ?_ (fun k o h=>?_)
   ·simp[az,B]
   rw[c,lA Ψ]at h;simp only[ae]at h;split at h
   ·rename_i e;subst e;rw[N,<-h,<-O,<-afr (y3 g) (l9 g n),<-n7 bE xs k (i+1),c]
   ·exact W k o h
def aiS(xs:List af)(N:∀x∈xs,∃a,x=bL a/\∀y∈a,uq y)(oE:xs.length<=4611686018427387904)(k:Int)(b:Nat)(ε:Nat->Nat)(bA:0<=k)(ab:(bD bE xs k).2<=4611686018427387904):
  bG au 111 [dv b (cZ (bD bE xs k).1),aj k] (c1 ε b (cZ (bD bE xs k).1)) fun r ak=>r=aj (bD bE xs k).2/\ak=c1 ε b (cZ (bD bE xs k).1):=by
 by_cases G:xs=[]
 ·subst G;exact aiT k b ε
 obtain⟨P,L,j,g,B⟩:=HF bE k (sz:=1) ε b (G4 N) Ω G;have z:=fun(t':List (Nat×af)) (st:bp)=>gn.to (t':=t') (st:=st) (ε:=ε) (b:=b) P rfl;refine bG.mk mixed a1 Tryz.func111 Zq Ψ L.obj fun aR c4=>?_;unfold Lb;rw[uF g,j];simp;(repeat' first|refine al ?_|simp);refine fT (fun i (_:Unit)=>⟨[(0,.row 1 (.obj b) xs.length),(1,aj (bD bE (xs.take i) k).2),(5,aj i)],[],dR ε b (cZ (bD bE xs k).1),0,cJ (c1 ε b (cZ (bD bE xs k).1))⟩) xs.length (fun _ _=>True) () ?_ trivial (fun _ _ _=>?_) (fun i _ hi _ _=>?_)
 ·refine z _ _ ?_ (fun k o h=>h);simp[az,B,bD]
 ·rw[jz];simp;(repeat' first|refine al ?_|simp);refine c5.at (c1 ε b (cZ (bD bE xs k).1)) Ψ L (oZ rfl) (fun k cs h=>by simp[ae]at h) (fun k o h=>h) ?_;simp[dc,ba,bf,a6]
 ·obtain⟨x,cB,hm,J,U,n,F⟩:=vd bE k hi;have c:=E1 bE k cB;generalize uM:(bD bE xs k).1=Y at*;have m:=lA (ε:=ε) (b:=b) (sz:=1) (t:= .no) g;rw[j]at m;rw[m];generalize eH:(bD bE (xs.take i) k).1=M at F c;generalize dj:(bD bE (xs.take i) k).2=K at n c J U⊢;obtain⟨a,rfl,w⟩:=N x hm;simp only[dJ]at n c U;generalize (bD bE (xs.drop (i+1)) _).1=R at c;have d:=uE (b:=b+1) (r:=R) (x:=bL (bD bE a K).1) F;rw[<-c]at d;have q:(fL (b+1) Y).length=xs.length:=by rw[o6,j]
  generalize f:dv (b+1+da M) (bL (bD bE a K).1)=E at d;generalize W:fL (b+1) Y=X at d q m⊢;have Z:K<=(bD bE a K).2:=lX ..;have A:∀h,(X[i]'h)=E:=fun h=>by rw[cl h]at d;exact e8 d
  clear d;have O:=VL a w K (b+1+da M) ε Ω Ω;have p:dX (bD bE a K).1:=rb _ _ _ (y2 w);generalize bD bE a K=Q at p f O n c U Z;have s:cells E=[E]:=by rw[<-f];exact T2
  have v:eT E=true:=by rw[<-f];exact abL
  simp[hi,A,q,s,v];(repeat' first|refine al ?_|simp[A,q,hi,s,v]);have h7:b7 E=E:=by rw[<-f];exact CT
  rw[h7];subst f;refine CallDo.subR (ε:=ε) (b:=b) (l:=M) (r:=R) (y:=bL Q.1) (y':=bL Q.1) (by simp only[cN];exact⟨Ω,p⟩) rfl O c rfl ?_ (fun eO V H=>?_)
  ·simp only[aH,az,jc];exact nA _ _ (by simp only[cN];exact⟨Ω,p⟩)
  ·skip;have u:¬(Q.2<0):=Ω
   simp[u];(repeat' first|refine al ?_|simp[u]);refine bY.rng () hi ?_ ?_
   ·trivial
   rw[show(bD bE (xs.take (i+1)) k).2=Q.2 from n];have S:aB.obj b::(gN ε (b+1) Y).map (fun x=>x.1)=cJ (c1 ε b (cZ Y)):=by simp[lA g]
   rw[S,<-m];refine z _ _ ?_ (fun k o h=>?_)
   ·simp[az,B]
   rw[lA g,j,W]at h;simp only[ae]at h;split at h
   ·rename_i e;subst e;rw[V,<-h]
   ·rw[<-c]at H;exact H k o h
def VR(a br:Int)(s:List cU)(ys:List af)(i:∀y∈ys,jB y)(k:Int)(b:Nat)(ε:Nat->Nat)(m:0<=k)(ab:(bD bE ys k).2<=4611686018427387904):
  bG au 23 [dv b (.agg [aj a,aj br,.str s,dx ys]),aj k] (c1 ε b (.agg [aj a,aj br,.str s,dx ys])) fun r f=>r=aj (bD bE ys k).2/\f=c1 ε b (.agg [aj a,aj br,.str s,dx (bD bE ys k).1]):=by
 have l:dX ys:=jB.dtL i;have d:cN (dx ys):=by simp only[cN];exact⟨Ω,l⟩
 have e:cN (dx (bD bE ys k).1):=Ut bE (dx ys) k d;have j:=VS _ ys (dP _) i k b ε m ab;have c:bF (dx (bD bE ys k).1)=bF (dx ys):=l9 (kJ ..) (mz ..);simp only[c1,P4];rw[A7];have g:eA (c1 ε b (dx ys)):=ot d;generalize bD bE ys k=Q at j c e;refine bG.mk mixed a1 Tryz.func23 aok Ψ g.obj fun p n=>?_;unfold SU;simp;(repeat' first|refine al ?_|simp);refine CallDo.ob j g (fun k cs h=>by simp[ae]at h) (fun k o h=>?_) ?_ ?_
 ·exact h
 ·simp only[aH,jc];exact⟨adJ d,by simp[az]⟩
 rintro r f ⟨rfl,rfl⟩;refine⟨oZ c,?_⟩;simp;(repeat' first|refine al ?_|simp);refine c5.at (c1 ε b (dx Q.1)) Ψ (ot e) (oZ c) (fun k cs h=>by simp[ae]at h) (fun k o h=>?_) ?_
 ·rw[hF];exact h
 simp[dc,ba,bf,a6]
structure AJ (B aY K M:List af):Prop where
 b:∀x∈B,uq x
 d:∀x∈aY,∃dC,x=bL dC/\∀y∈dC,uq y
 k:∀x∈K,Gc x
 m:∀x∈M,Gd x
 l:aY.length<=4611686018427387904
abbrev kK(n:Int)(B aY K M:List af):af:= .agg [aj n,bL B,cZ aY,b6 K,b6 M]
def eh(B:List af)(k:Int):=bD bE B k
def eR(B aY:List af)(k:Int):=bD bE aY (eh B k).2
def fH(B aY K:List af)(k:Int):=bD bE K (eR B aY k).2
def gG(B aY K M:List af)(k:Int):=bD bE M (fH B aY K k).2
def A6(b:Nat)(n:Int)(B aY K M:List af):dv b (kK n B aY K M)= .agg [aj n,dv b (bL B),dv (b+bF (bL B)) (cZ aY),dv (b+bF (bL B)+bF (cZ aY)) (b6 K),dv (b+bF (bL B)+bF (cZ aY)+bF (b6 K)) (b6 M)]:=rfl
def G2{n:Int}{B aY K M:List af}(h:AJ B aY K M):cN (kK n B aY K M):=by simp only[cN,dX,jc,true_and];exact⟨⟨Ω,y2 h.b⟩,⟨Ω,G4 h.d⟩,⟨Ω,G0 h.k⟩,Ω,G1 h.m⟩
def G3{n:Int}{B aY K M:List af}(h:AJ B aY K M)(k:Int):cN (kK n (eh B k).1 (eR B aY k).1 (fH B aY K k).1 (gG B aY K M k).1):=by simp only[cN,dX,jc,true_and];exact⟨⟨Ω,rb _ _ _ (y2 h.b)⟩,⟨Ω,rb _ _ _ (G4 h.d)⟩,⟨Ω,rb _ _ _ (G0 h.k)⟩,Ω,rb _ _ _ (G1 h.m)⟩
def GU(n:Int)(B aY K M:List af):bF (kK n B aY K M)=bF (bL B)+bF (cZ aY)+bF (b6 K)+bF (b6 M):=by show 0+(bF (bL B)+(bF (cZ aY)+(bF (b6 K)+(bF (b6 M)+0))))=_;omega
def VQ(n:Int){B aY K M:List af}(h:AJ B aY K M)(k:Int)(b:Nat)(ε:Nat->Nat)(S:0<=k)(ab:(gG B aY K M k).2<=4611686018427387904):
  bG au 44 [dv b (kK n B aY K M),aj k] (c1 ε b (kK n B aY K M)) fun r a=>r=aj (gG B aY K M k).2/\a=c1 ε b (kK n (eh B k).1 (eR B aY k).1 (fH B aY K k).1 (gG B aY K M k).1):=by
 have V:k<=(eh B k).2:=lX ..;have R:(eh B k).2<=(eR B aY k).2:=lX ..;have P:(eR B aY k).2<=(fH B aY K k).2:=lX ..;have O:(fH B aY K k).2<=(gG B aY K M k).2:=lX ..;have d0:cN (kK n B aY K M):=G2 h;have d5:cN (kK n (eh B k).1 (eR B aY k).1 (fH B aY K k).1 (gG B aY K M k).1):=G3 h k;have x:eA (c1 ε b (kK n B aY K M)):=ot d0;have w:bF (bL (eh B k).1)=bF (bL B):=l9 (kJ ..) (mz ..);have v:bF (cZ (eR B aY k).1)=bF (cZ aY):=l9 (kJ ..) (mz ..);have u:bF (b6 (fH B aY K k).1)=bF (b6 K):=l9 (kJ ..) (mz ..);have q:bF (b6 (gG B aY K M k).1)=bF (b6 M):=l9 (kJ ..) (mz ..);have f1:bG au 106 [dv (b) (bL B),aj k] (c1 ε (b) (bL B)) fun r a=>r=aj (eh B k).2/\a=c1 ε (b) (bL (eh B k).1):=VP B h.b k (b) ε Ω (show(eh B k).2<=_ by omega);have f2:bG au 107 [dv (b+bF (bL B)) (cZ aY),aj (eh B k).2] (c1 ε (b+bF (bL B)) (cZ aY)) fun r a=>r=aj (eR B aY k).2/\a=c1 ε (b+bF (bL B)) (cZ (eR B aY k).1):=ai4 aY h.d h.l (eh B k).2 (b+bF (bL B)) ε Ω (show(eR B aY k).2<=_ by omega);have f3:bG au 108 [dv (b+bF (bL B)+bF (cZ aY)) (b6 K),aj (eR B aY k).2] (c1 ε (b+bF (bL B)+bF (cZ aY)) (b6 K)) fun r a=>r=aj (fH B aY K k).2/\a=c1 ε (b+bF (bL B)+bF (cZ aY)) (b6 (fH B aY K k).1):=ai9 K h.k (eR B aY k).2 (b+bF (bL B)+bF (cZ aY)) ε Ω (show(fH B aY K k).2<=_ by omega);have f4:bG au 109 [dv (b+bF (bL B)+bF (cZ aY)+bF (b6 K)) (b6 M),aj (fH B aY K k).2] (c1 ε (b+bF (bL B)+bF (cZ aY)+bF (b6 K)) (b6 M)) fun r a=>r=aj (gG B aY K M k).2/\a=c1 ε (b+bF (bL B)+bF (cZ aY)+bF (b6 K)) (b6 (gG B aY K M k).1):=ai7 M h.m (fH B aY K k).2 (b+bF (bL B)+bF (cZ aY)+bF (b6 K)) ε Ω (show(gG B aY K M k).2<=_ by omega);have j:cN (bL B):=by simp only[cN,dX]at d0;exact d0.2.1
 have m:cN (cZ aY):=by simp only[cN,dX]at d0;exact d0.2.2.1
 have f:cN (b6 K):=by simp only[cN,dX]at d0;exact d0.2.2.2.1
 have i:cN (b6 M):=by simp only[cN,dX]at d0;exact d0.2.2.2.2.1
 refine bG.mk mixed a1 Tryz.func44 aoj Ψ x.obj fun U Q=>?_;unfold SR;rw[A6];simp;(repeat' first|refine al ?_|simp);have e:b+da [aj n]=b:=by show b+(0+0)=_;omega
 refine CallDo.sub (ε:=ε) (b:=b) (l:=[aj n]) (r:=[cZ aY,b6 K,b6 M]) (y:=bL B) (y':=bL (eh B k).1) j w (by rw[e];exact f1) (fun k o h=>?_) ?_ (fun J s N=>?_)
 ·exact h
 ·simp only[aH,jc];rw[e];exact⟨nA _ _ j,by simp[az]⟩
 simp;(repeat' first|refine al ?_|simp);have g:b+da [aj n,bL (eh B k).1]=b+bF (bL B):=by show b+(0+(bF (bL (eh B k).1)+0))=_;omega
 refine CallDo.sub (ε:=ε) (b:=b) (l:=[aj n,bL (eh B k).1]) (r:=[b6 K,b6 M]) (y:=cZ aY) (y':=cZ (eR B aY k).1) m v (by rw[g];exact f2) (fun k o h=>?_) ?_ (fun E t L=>?_)
 ·exact s k o h
 ·simp only[aH,jc];rw[g];exact⟨nA _ _ m,by simp[az]⟩
 simp;(repeat' first|refine al ?_|simp);have d:b+da [aj n,bL (eh B k).1,cZ (eR B aY k).1]=b+bF (bL B)+bF (cZ aY):=by show b+(0+(bF (bL (eh B k).1)+(bF (cZ (eR B aY k).1)+0)))=_;omega
 refine CallDo.sub (ε:=ε) (b:=b) (l:=[aj n,bL (eh B k).1,cZ (eR B aY k).1]) (r:=[b6 M]) (y:=b6 K) (y':=b6 (fH B aY K k).1) f u (by rw[d];exact f3) (fun k o h=>?_) ?_ (fun A p H=>?_)
 ·exact t k o h
 ·simp only[aH,jc];rw[d];exact⟨nA _ _ f,by simp[az]⟩
 simp;(repeat' first|refine al ?_|simp);have c:b+da [aj n,bL (eh B k).1,cZ (eR B aY k).1,b6 (fH B aY K k).1]=b+bF (bL B)+bF (cZ aY)+bF (b6 K):=by show b+(0+(bF (bL (eh B k).1)+(bF (cZ (eR B aY k).1)+(bF (b6 (fH B aY K k).1)+0))))=_;omega
 refine CallDo.sub (ε:=ε) (b:=b) (l:=[aj n,bL (eh B k).1,cZ (eR B aY k).1,b6 (fH B aY K k).1]) (r:=[]) (y:=b6 M) (y':=b6 (gG B aY K M k).1) i q (by rw[c];exact f4) (fun k o h=>?_) ?_ (fun z F G=>?_)
 ·exact p k o h
 ·simp only[aH,jc];rw[c];exact⟨nA _ _ i,by simp[az]⟩
 simp;(repeat' first|refine al ?_|simp);refine c5.at (c1 ε b (kK n (eh B k).1 (eR B aY k).1 (fH B aY K k).1 (gG B aY K M k).1)) Ψ (ot d5) (oZ (by rw[GU,GU];omega)) (fun k cs h=>by simp[ae]at h) (fun k o h=>?_) ?_
 ·exact F k o h
 simp[dc,ba,bf,a6]
def aiX(n:Int){B aY K M:List af}(h:AJ B aY K M)(k:Int)(b:Nat)(ε:Nat->Nat)(X:0<=k)(ab:(gG B aY K M k).2<=4611686018427387904):
  bG au 45 [dv b (kK n (eh B k).1 (eR B aY k).1 (fH B aY K k).1 (gG B aY K M k).1),aj k] (c1 ε b (kK n (eh B k).1 (eR B aY k).1 (fH B aY K k).1 (gG B aY K M k).1)) fun r a=>r=aj (gG B aY K M k).2/\a=c1 ε b (kK n (eh B k).1 (eR B aY k).1 (fH B aY K k).1 (gG B aY K M k).1):=by
 have Z:k<=(eh B k).2:=lX ..;have W:(eh B k).2<=(eR B aY k).2:=lX ..;have U:(eR B aY k).2<=(fH B aY K k).2:=lX ..;have S:(fH B aY K k).2<=(gG B aY K M k).2:=lX ..;have d0:cN (kK n (eh B k).1 (eR B aY k).1 (fH B aY K k).1 (gG B aY K M k).1):=G3 h k;have d5:cN (kK n (eh B k).1 (eR B aY k).1 (fH B aY K k).1 (gG B aY K M k).1):=G3 h k;have F:eA (c1 ε b (kK n (eh B k).1 (eR B aY k).1 (fH B aY K k).1 (gG B aY K M k).1)):=ot d0;have E:bF (bL (eh B k).1)=bF (bL (eh B k).1):=rfl;have A:bF (cZ (eR B aY k).1)=bF (cZ (eR B aY k).1):=rfl;have z:bF (b6 (fH B aY K k).1)=bF (b6 (fH B aY K k).1):=rfl;have v:bF (b6 (gG B aY K M k).1)=bF (b6 (gG B aY K M k).1):=rfl;have f1:bG au 110 [dv (b) (bL (eh B k).1),aj k] (c1 ε (b) (bL (eh B k).1)) fun r a=>r=aj (eh B k).2/\a=c1 ε (b) (bL (eh B k).1):=VL B h.b k (b) ε Ω (show(eh B k).2<=_ by omega);have f2:bG au 111 [dv (b+bF (bL (eh B k).1)) (cZ (eR B aY k).1),aj (eh B k).2] (c1 ε (b+bF (bL (eh B k).1)) (cZ (eR B aY k).1)) fun r a=>r=aj (eR B aY k).2/\a=c1 ε (b+bF (bL (eh B k).1)) (cZ (eR B aY k).1):=aiS aY h.d h.l (eh B k).2 (b+bF (bL (eh B k).1)) ε Ω (show(eR B aY k).2<=_ by omega);have f3:bG au 112 [dv (b+bF (bL (eh B k).1)+bF (cZ (eR B aY k).1)) (b6 (fH B aY K k).1),aj (eR B aY k).2] (c1 ε (b+bF (bL (eh B k).1)+bF (cZ (eR B aY k).1)) (b6 (fH B aY K k).1)) fun r a=>r=aj (fH B aY K k).2/\a=c1 ε (b+bF (bL (eh B k).1)+bF (cZ (eR B aY k).1)) (b6 (fH B aY K k).1):=aiZ K h.k (eR B aY k).2 (b+bF (bL (eh B k).1)+bF (cZ (eR B aY k).1)) ε Ω (show(fH B aY K k).2<=_ by omega);have f4:bG au 113 [dv (b+bF (bL (eh B k).1)+bF (cZ (eR B aY k).1)+bF (b6 (fH B aY K k).1)) (b6 (gG B aY K M k).1),aj (fH B aY K k).2] (c1 ε (b+bF (bL (eh B k).1)+bF (cZ (eR B aY k).1)+bF (b6 (fH B aY K k).1)) (b6 (gG B aY K M k).1)) fun r a=>r=aj (gG B aY K M k).2/\a=c1 ε (b+bF (bL (eh B k).1)+bF (cZ (eR B aY k).1)+bF (b6 (fH B aY K k).1)) (b6 (gG B aY K M k).1):=aiV M h.m (fH B aY K k).2 (b+bF (bL (eh B k).1)+bF (cZ (eR B aY k).1)+bF (b6 (fH B aY K k).1)) ε Ω (show(gG B aY K M k).2<=_ by omega);have s:cN (bL (eh B k).1):=by simp only[cN,dX]at d0;exact d0.2.1
 have t:cN (cZ (eR B aY k).1):=by simp only[cN,dX]at d0;exact d0.2.2.1
 have m:cN (b6 (fH B aY K k).1):=by simp only[cN,dX]at d0;exact d0.2.2.2.1
 have q:cN (b6 (gG B aY K M k).1):=by simp only[cN,dX]at d0;exact d0.2.2.2.2.1
 have e:¬((eh B k).2<0):=Ω
 have f:¬((eR B aY k).2<0):=Ω
 have d:¬((fH B aY K k).2<0):=Ω
 have c:¬((gG B aY K M k).2<0):=Ω
 refine bG.mk mixed a1 Tryz.func45 aoi Ψ F.obj fun Y V=>?_;unfold SQ;rw[A6];simp;(repeat' first|refine al ?_|simp);have j:b+da [aj n]=b:=by show b+(0+0)=_;omega
 refine CallDo.sub (ε:=ε) (b:=b) (l:=[aj n]) (r:=[cZ (eR B aY k).1,b6 (fH B aY K k).1,b6 (gG B aY K M k).1]) (y:=bL (eh B k).1) (y':=bL (eh B k).1) s E (by rw[j];exact f1) (fun k o h=>?_) ?_ (fun P w R=>?_)
 ·exact h
 ·simp only[aH,jc];rw[j];exact⟨nA _ _ s,by simp[az]⟩
 simp[e,f,d,c];(repeat' first|refine al ?_|simp[e,f,d,c]);have p:b+da [aj n,bL (eh B k).1]=b+bF (bL (eh B k).1):=by show b+(0+(bF (bL (eh B k).1)+0))=_;omega
 refine CallDo.sub (ε:=ε) (b:=b) (l:=[aj n,bL (eh B k).1]) (r:=[b6 (fH B aY K k).1,b6 (gG B aY K M k).1]) (y:=cZ (eR B aY k).1) (y':=cZ (eR B aY k).1) t A (by rw[p];exact f2) (fun k o h=>?_) ?_ (fun J x Q=>?_)
 ·exact w k o h
 ·simp only[aH,jc];rw[p];exact⟨nA _ _ t,by simp[az]⟩
 simp[e,f,d,c];(repeat' first|refine al ?_|simp[e,f,d,c]);have i:b+da [aj n,bL (eh B k).1,cZ (eR B aY k).1]=b+bF (bL (eh B k).1)+bF (cZ (eR B aY k).1):=by show b+(0+(bF (bL (eh B k).1)+(bF (cZ (eR B aY k).1)+0)))=_;omega
 refine CallDo.sub (ε:=ε) (b:=b) (l:=[aj n,bL (eh B k).1,cZ (eR B aY k).1]) (r:=[b6 (gG B aY K M k).1]) (y:=b6 (fH B aY K k).1) (y':=b6 (fH B aY K k).1) m z (by rw[i];exact f3) (fun k o h=>?_) ?_ (fun H u O=>?_)
 ·exact x k o h
 ·simp only[aH,jc];rw[i];exact⟨nA _ _ m,by simp[az]⟩
 simp[e,f,d,c];(repeat' first|refine al ?_|simp[e,f,d,c]);have g:b+da [aj n,bL (eh B k).1,cZ (eR B aY k).1,b6 (fH B aY K k).1]=b+bF (bL (eh B k).1)+bF (cZ (eR B aY k).1)+bF (b6 (fH B aY K k).1):=by show b+(0+(bF (bL (eh B k).1)+(bF (cZ (eR B aY k).1)+(bF (b6 (fH B aY K k).1)+0))))=_;omega
 refine CallDo.sub (ε:=ε) (b:=b) (l:=[aj n,bL (eh B k).1,cZ (eR B aY k).1,b6 (fH B aY K k).1]) (r:=[]) (y:=b6 (gG B aY K M k).1) (y':=b6 (gG B aY K M k).1) q v (by rw[g];exact f4) (fun k o h=>?_) ?_ (fun G L N=>?_)
 ·exact u k o h
 ·simp only[aH,jc];rw[g];exact⟨nA _ _ q,by simp[az]⟩
 simp[e,f,d,c];(repeat' first|refine al ?_|simp[e,f,d,c]);refine c5.at (c1 ε b (kK n (eh B k).1 (eR B aY k).1 (fH B aY K k).1 (gG B aY K M k).1)) Ψ (ot d5) (oZ rfl) (fun k cs h=>by simp[ae]at h) (fun k o h=>?_) ?_
 ·exact L k o h
 simp[dc,ba,bf,a6]
def Lw:C:=(aa [cW 3 0,cW 4 1,cW 5 2,dG 6 im,bz 7 false] (aa [bg 8 5 3,bg 9 4 4,bg 10 4 5,dS 11 117 [.t 8,(gT 0),.t 9,.t 10,(gT 0),(.c (.str []))],cX 12 0 11,cX 13 1 11,bV 5 6 12,I 7 13] .ret))
def GA:C:=(aa [cW 3 0,cW 4 1,cW 5 2,dG 6 im,bz 7 false] (.seq (aa [bg 13 5 3,bg 14 4 4,bg 15 4 5,e1 16 4 30 [.t 14,.t 15],b8 17 96 13 16,cM 18 17] (aW 18 (aa [jy 19 im [],bV 5 6 19,bz 7 false] .ret) .skip)) (aa [aF 21 1 1 3,ay 22 1 21,bg 23 4 4,bg 24 4 5,dS 25 121 [.t 22,.t 23,.t 24],I 20 25,cX 26 0 20,cX 27 1 20,I 8 26,I 9 27] (.seq (aa [I 28 9,cM 29 28] (aW 29 (aa [jy 30 im [],bV 5 6 30,bz 7 false] .ret) .skip)) (aa [bg 31 5 3,cT 32 105 31,dG 10 im,bV 5 10 32] (aa [I 33 8,aF 34 1 1 10,bV 1 34 33] (aa [bg 36 5 10,cT 37 90 36,I 35 37,cX 38 0 35,cX 39 1 35,dG 11 im,bV 5 11 38,I 12 39] (aa [bg 40 5 11,I 41 12,bV 5 6 40,I 7 41] .ret))))))))
def GD:C:=(aa [cW 2 0,bz 4 false] (.seq (.drawn true 18 [bg 5 5 2,cT 6 29 5,I 7 6,cg 7 true 8 1,aw 7 true (cT 9 172 8),ei 10 7 9,I 11 10,cg 11 true 12 1,aw 11 true (cT 13 162 12),aw 11 true (aF 14 0 1 2),aw 11 true (ay 15 1 14),aw 11 true (bu 16 .leq 13 15),ei 17 11 16,I 4 17]) .ret))
def TU:C:=(aa [cW 1 0,dG 2 im] (.seq (.drawn true 20 [aF 3 0 1 1,ay 4 1 3,aF 5 1 1 1,ay 6 1 5,cT 7 178 6,aF 8 2 1 1,ay 9 1 8,cT 10 179 9,e1 11 2 98 [],aF 12 3 1 1,ay 13 1 12,h0 14 2 98 11 13,e1 15 2 100 [],aF 16 4 1 1,ay 17 1 16,h0 18 2 100 15 17,jy 19 im [(0,1,(.t 4)),(1,1,(.t 7)),(2,1,(.t 10)),(3,1,(.t 14)),(4,1,(.t 18))],bV 5 2 19]) .ret))
def Sn:C:=(aa [cW 1 0,dG 2 im] (.seq (.drawn true 39 [aF 6 0 1 1,ay 7 1 6,aF 8 1 1 1,ay 9 1 8,cT 10 168 9,e1 11 1 46 [],jy 12 im [(0,1,(.t 7)),(1,1,(.t 10)),(2,1,(.t 11))],dG 3 im,bV 5 3 12]) (.seq (aa [aF 13 2 1 1,ay 14 1 13,cw 15 14,bP 16 0] (gw 17 16 15 (.seq (.block 1 (aa [ck 18 1 14 16,ay 19 1 18,I 5 19] (.drawn true 39 [aF 20 2 1 3,ay 21 1 20,I 22 5,cT 23 168 22,e1 24 1 46 [.t 23],h0 25 1 46 21 24,aF 26 2 1 3,bV 1 26 25]))) (.region [aU 27 .add 16 1,I 16 27])))) (aa [e1 28 2 98 [],aF 29 3 1 1,ay 30 1 29,h0 31 2 98 28 30,aF 32 3 1 3,bV 1 32 31] (aa [e1 33 2 100 [],aF 34 4 1 1,ay 35 1 34,h0 36 2 100 33 35,aF 37 4 1 3,bV 1 37 36] (aa [bg 38 5 3,bV 5 2 38] .ret))))))
def Lz:C:=(aa [cW 6 0,cW 8 2,cW 9 3,dG 12 im,bz 13 false] (aa [bg 21 5 6,dG 14 im,bV 5 14 21] (aa [bz 15 true] (.seq (aa [I 22 1,aU 23 .lss 22 2] (aW 23 (aa [aF 25 1 1 6,ay 26 1 25,bg 27 4 8,bg 28 4 9,dS 29 180 [.t 26,.t 27,.t 28],I 24 29,cX 30 0 24,cX 31 1 24,I 16 30,I 17 31] (aa [I 32 1,aU 33 .eql 32 0] (aW 33 (aa [I 34 16,aF 35 1 1 14,bV 1 35 34] (.region [I 36 17,I 15 36])) (aa [I 37 17] (aW 37 (aa [aF 38 1 1 6,ay 39 1 38,I 40 16,b8 41 153 39 40,I 18 41] (aa [I 42 18,cw 43 42,aU 44 .gtr 43 0,I 15 44] (.region [e1 45 1 46 [],aF 46 2 1 6,ay 47 1 46,h0 48 1 46 45 47,I 49 18,e1 50 1 46 [.t 49],h0 51 1 46 48 50,aF 52 2 1 14,bV 1 52 51]))) .skip))))) (aa [aF 54 1 1 6,ay 55 1 54,bg 56 4 8,b8 57 60 55 56,I 53 57,cX 58 0 53,cX 59 1 53,dG 19 ez,bV 4 19 58,I 20 59] (aa [I 60 20,I 15 60] (aa [I 61 15,I 62 61,cg 62 true 63 1,aw 62 true (aU 64 .eql 63 2),ei 65 62 64] (aW 65 (.region [aF 67 3 1 6,ay 68 1 67,bg 69 4 19,I 70 4,dS 71 151 [.t 68,.t 69,.t 70],I 66 71,cX 72 0 66,cX 73 1 66,aF 74 3 1 14,bV 1 74 72,I 15 73]) (aa [I 75 15] (aW 75 (.region [aF 77 4 1 6,ay 78 1 77,bg 79 4 19,I 80 5,dS 81 181 [.t 78,.t 79,.t 80],I 76 81,cX 82 0 76,cX 83 1 76,aF 84 4 1 14,bV 1 84 82,I 15 83]) .skip)))))))) (.seq (aa [I 85 15,cM 86 85] (aW 86 (aa [jy 87 im [],bV 5 12 87,bz 13 false] .ret) .skip)) (aa [bg 88 5 14,cT 89 81 88,cX 90 0 89,cX 91 1 89,bV 5 12 90,I 13 91] .ret))))))
def xc:C:=(aa [cW 6 0,cW 8 2,cW 9 3,dG 12 im,bz 13 false] (.seq (aa [bg 16 5 6,cT 17 27 16,cM 18 17,I 19 18,aw 19 false (bg 20 4 8),aw 19 false (cT 21 56 20),aw 19 false (cM 22 21),dr 23 19 22,I 24 23,aw 24 false (bg 25 4 9),aw 24 false (cT 26 56 25),aw 24 false (cM 27 26),dr 28 24 27,I 29 28,aw 29 false (bg 30 4 8),aw 29 false (aF 31 0 1 6),aw 29 false (ay 32 1 31),aw 29 false (b8 33 148 30 32),aw 29 false (cM 34 33),dr 35 29 34,I 36 35,aw 36 false (bg 37 4 9),aw 36 false (aF 38 0 1 6),aw 36 false (ay 39 1 38),aw 36 false (b8 40 148 37 39),aw 36 false (cM 41 40),dr 42 36 41] (aW 42 (aa [jy 43 im [],bV 5 12 43,bz 13 false] .ret) .skip)) (aa [bg 45 5 6,I 46 1,bg 47 4 8,bg 48 4 9,I 49 4,I 50 5,dS 51 115 [.t 45,.t 46,.t 47,.t 48,.t 49,.t 50],I 44 51,cX 52 0 44,cX 53 1 44,dG 14 im,bV 5 14 52,I 15 53] (.seq (aa [I 54 15,cM 55 54] (aW 55 (aa [jy 56 im [],bV 5 12 56,bz 13 false] .ret) .skip)) (aa [bg 57 5 14,cT 58 104 57,bV 5 12 58,bz 13 true] .ret)))))
def Sa:C:=(aa [cW 4 1,cW 5 2,fo 6 5,bz 7 false] (.seq (aa [I 8 0,cT 9 86 8,cM 10 9,I 11 10,aw 11 false (bg 12 4 4),aw 11 false (cT 13 64 12),aw 11 false (cM 14 13),dr 15 11 14,I 16 15,aw 16 false (bg 17 4 5),aw 16 false (cT 18 64 17),aw 16 false (cM 19 18),dr 20 16 19] (aW 20 (aa [fo 6 5,bz 7 false] .ret) .skip)) (aa [I 21 0,bg 22 4 4,e1 23 4 30 [.t 22],bg 24 4 5,e1 25 4 30 [.t 24],dS 26 186 [.t 21,.t 23,.t 25],cX 27 0 26,cX 28 1 26,I 6 27,I 7 28] .ret)))
def TH:C:=(aa [fo 2 5] (aa [e1 6 5 113 [],I 3 6] (.seq (aa [I 7 0,cw 8 7,bP 9 0] (gw 10 9 8 (.seq (.block 1 (aa [ck 11 5 7 9,bg 12 5 11,dG 5 ks,bV 5 5 12] (.drawn true 24 [I 13 3,aF 14 0 1 5,ay 15 1 14,hq 16 1 4 5,bg 17 4 16,cT 18 130 17,jy 19 ks [(0,1,(.t 15)),(1,4,(.t 18))],e1 20 5 113 [.t 19],h0 21 5 113 13 20,I 3 21]))) (.region [aU 22 .add 9 1,I 9 22])))) (aa [I 23 3,I 2 23] .ret))))
def TQ:C:=(aa [fo 2 1] (aa [e1 6 1 46 [],I 3 6] (.seq (aa [I 7 0,cw 8 7,bP 9 0] (gw 10 9 8 (.seq (.block 1 (aa [ck 11 1 7 9,ay 12 1 11,I 5 12] (.region [I 13 3,I 14 5,cT 15 178 14,e1 16 1 46 [.t 15],h0 17 1 46 13 16,I 3 17]))) (.region [aU 18 .add 9 1,I 9 18])))) (aa [I 19 3,I 2 19] .ret))))
def ZG:b3 aT Lw [.cell 6 true 5,.tmp 7] 3 Tryz.f52=true:=bi
def O1:b3 aT GA [.cell 6 true 5,.tmp 7] 3 Tryz.f53=true:=bi
def O4:b3 aT GD [.tmp 4] 2 Tryz.f96=true:=bi
def api:b3 aT TU [.cell 2 true 5] 1 Tryz.f104=true:=bi
def anQ:b3 aT Sn [.cell 2 true 5] 1 Tryz.f105=true:=bi
def ZJ:b3 aT Lz [.cell 12 true 5,.tmp 13] 6 Tryz.f115=true:=bi
def zZ:b3 aT xc [.cell 12 true 5,.tmp 13] 6 Tryz.f117=true:=bi
def anD:b3 aT Sa [.tmp 6,.tmp 7] 3 Tryz.f121=true:=bi
def ao5:b3 aT TH [.tmp 2] 1 Tryz.f178=true:=bi
def ape:b3 aT TQ [.tmp 2] 1 Tryz.f179=true:=bi
def EB(t:T)(k:Nat)(st:bp):Prop:=
 (k=t.args.length/\st=⟨[(2,.ptr (.loc 1) 0),(3,.ptr (.loc 2) 0),(14,.slice 4 .no (t.args.map T.e)),(15,.int .i64 t.args.length),(16,.int .i64 0)],[(.loc 1,[.int .i64 0,.int .i64 0,.str [],.slice 4 .nil []]),(.loc 2,[.int .i64 t.kind,.int .i64 t.int,.str t.name,.slice 4 .nil []])],[],3,[]⟩)\/
 ∃i:Nat,1<=i/\i<=t.args.length/\k=t.args.length-i/\st=⟨[(2,.ptr (.loc 1) 0),(3,.ptr (.loc 2) 0),(14,.slice 4 .no (t.args.map T.e)),(15,.int .i64 t.args.length),(16,.int .i64 i)],[(.loc 1,[.int .i64 0,.int .i64 0,.str [],.slice 4 .nil []]),(.loc 2,[.int .i64 t.kind,.int .i64 t.int,.str t.name,.slice 4 (.own (.loc 29)) ((t.args.take i).map T.e)])],[(.loc 29,⟨i,30,4,none⟩)],30,[]⟩
def acK(t:T):bU au 130 [t.e] t.e:=by
 induction t with
 |pair a b g f=>
  refine bH a1 Tryz.func130 Fa fun e=>?_;unfold AW;simp;refine qu (EB (.pair a b)) 2 _ ca (.inl ⟨rfl,rfl⟩) ?_;rintro k st (⟨ab,rfl⟩|⟨i,J,U,ab,rfl⟩) c d;all_goals clear c d
  ·simp;(repeat' first|refine al ?_|refine aO g ?_|refine aP g ?_|simp);refine bY.next 1 (by rw[ab];simp) (.inr ⟨1,Ω,Ψ,rfl,rfl⟩) ca
  ·rcases(by simp at U;omega:i=1\/i=2)with rfl|rfl
   ·simp;(repeat' first|refine al ?_|refine aO f ?_|refine aP f ?_|simp);refine bY.next 0 (by rw[ab];simp) (.inr ⟨2,Ω,Ψ,rfl,rfl⟩) ca
   ·exact cp
 |nil=>
  refine bH a1 Tryz.func130 Fa fun e=>?_;unfold AW;simp;refine qu (EB (.nil)) 0 _ ca (.inl ⟨rfl,rfl⟩) ?_;rintro k st (⟨ab,rfl⟩|⟨i,J,U,ab,rfl⟩) c d;all_goals clear c d
  ·exact cp
  ·simp at U;omega
 |var n=>
  refine bH a1 Tryz.func130 Fa fun e=>?_;unfold AW;simp;refine qu (EB (.var n)) 0 _ ca (.inl ⟨rfl,rfl⟩) ?_;rintro k st (⟨ab,rfl⟩|⟨i,J,U,ab,rfl⟩) c d;all_goals clear c d
  ·exact cp
  ·simp at U;omega
 |sym s=>
  refine bH a1 Tryz.func130 Fa fun e=>?_;unfold AW;simp;refine qu (EB (.sym s)) 0 _ ca (.inl ⟨rfl,rfl⟩) ?_;rintro k st (⟨ab,rfl⟩|⟨i,J,U,ab,rfl⟩) c d;all_goals clear c d
  ·exact cp
  ·simp at U;omega
 |num n=>
  refine bH a1 Tryz.func130 Fa fun e=>?_;unfold AW;simp;refine qu (EB (.num n)) 0 _ ca (.inl ⟨rfl,rfl⟩) ?_;rintro k st (⟨ab,rfl⟩|⟨i,J,U,ab,rfl⟩) c d;all_goals clear c d
  ·exact cp
  ·simp at U;omega
def acN(t:List Bd)(g:t.length<=1000000):bU au 178 [.slice 5 .no (t.map Bd.e)] (.slice 5 .no (t.map Bd.e)):=by
 refine bH a1 Tryz.func178 ao5 fun f=>?_;unfold TH;simp;(repeat' first|refine al ?_|simp);refine fT (α:=List Bd) (fun i out=>⟨[(7,.slice 5 .no (t.map Bd.e)),(8,.int .i64 t.length),(3,.slice 5 (.own (.loc 0)) (out.map Bd.e)),(9,.int .i64 i)],[],[(.loc 0,⟨out.length,113,5,none⟩)],1,[]⟩) t.length (fun i out=>out=t.take i) [] ca Ψ (fun out a _=>?_) (fun i out hi a _=>?_)
 ·rw[iu (dP _)]at a;subst a;exact cp
 ·obtain⟨b,d,c⟩:=eW hi;have e:out.length<=1000000:=by rw[a];simp;omega
  simp[hi,c];(repeat' first|refine al ?_|refine aO (acK _) ?_|refine aP (acK _) ?_|simp[c,hi]);all_goals try refine⟨by unfold lim;omega,?_⟩
  all_goals(repeat' first|refine al ?_|simp)
  all_goals refine bY.rng (out++[b]) hi (by rw[nH d,a]) ?_
  all_goals simp
  all_goals exact⟨by simp[fresh,aH,az,cc,aM,ae,jZ],eo (by simp[fresh,aH,az,cc,aM,ae,jZ]),ep (by simp[fresh,aH,az,dV,aM,ae,jZ]),Ψ⟩
def ri(n:Int)(l:List Tm):Prop:= ∃x:List T,l=x.map T.tm/\(∀t∈x,t.fit=true)/\∀t∈x,fA n t=true
def acn{x y:List T}(h:x.map T.tm=y.map T.tm):x=y:=(List.map_inj_right fun _ _=>QH).1 h
def aft(l:List T):(l.map T.tm).map enc=l.map T.e:=by rw[List.map_map];exact List.map_congr_left fun t _=>mA t
def Vk:∀{l:List Tm},l.all Tm.fits=true->∃x:List T,l=x.map T.tm/\∀t∈x,t.fit=true
 |[],_=>⟨[],rfl,Ψ⟩
 |t::l,h=>by rw[List.all_cons,cP]at h;obtain⟨x,rfl,U⟩:=Vk h.2;obtain⟨y,rfl,b⟩:=Tm.fits_ex h.1;exact⟨y::x,rfl,fun z a=>(gI.1 a).elim (fun e=>by rw[e];exact b) (U z)⟩
def Hj{n:Int}{l:List Tm}(h:ri n l):∀t∈l,t.fits=true:=fun t a=>by obtain⟨x,rfl,U,_⟩:=h;obtain⟨y,b,rfl⟩:=hb.1 a;rw[Tm.fits_T];exact U y b
def Vi{n:Int}{x y:T}(a:x.fit=true)(b:y.fit=true)(J:fA n x=true)(U:fA n y=true):ri n [x.tm,y.tm]:=⟨[x,y],rfl,by simp[a,b],by simp[J,U]⟩
def Vj{n:Int}{x y:T}(h:ri n [x.tm,y.tm]):(x.fit=true/\y.fit=true)/\fA n x=true/\fA n y=true:=by obtain⟨l,e,J,U⟩:=h;have:=acn (x:=[x,y]) e;subst this;exact⟨⟨J x Ψ,J y Ψ⟩,U x Ψ,U y Ψ⟩
def ac5{n:Int}:∀(l:List T) (m:Int),l.foldl (fun m t=>t.fold sP m) m<=n↔m<=n/\∀t∈l,fA n t=true
 |[],m=>by simp
 |t::l,m=>by rw[List.foldl_cons,ac5 l,Ko];simp[and_assoc]
def qN.fin{α:Type}{p:α->Bool}{s:List α}(h:qN p s s.length ()):∀b∈s,p b=true:=fun b a=>by obtain⟨i,hi⟩:=List.mem_iff_getElem?.1 a;exact h i b (by have:=(fI.1 hi).1;omega) hi
def atb(l:List Tm):bU au 172 [dx (l.map enc)] (.bool (l.all Tm.fits)):=by
 generalize bs:l.all Tm.fits=R;refine bH a1 Tryz.func172 Zo fun e=>?_;unfold K9;have h:l.length<=68719476736:=by simp[eM,eV,eN,lim]at e;omega
 simp;refine eZ [5,6] (fun i (_:Unit)=>[(7,aj i)]) l.length (qN Tm.fits l) () ca (fun k b ab=>Ω) (fun _ a _=>?_) (fun i _ hi a _=>?_)
 ·have:R=true:=by rw[<-bs,j4];exact a.fin
  subst this;clear a bs;exact cp
 ·obtain⟨t,c,f⟩:=eW hi;have d:=Ke t;cases g:t.fits
  ·rw[g]at d;have:R=false:=by rw[<-bs,List.all_eq_false];exact⟨t,fu c,by rw[g];simp⟩
   subst this;clear c a bs;exact cp
  ·rw[g]at d;have j:=a.step c g;clear c a bs;exact iU
open Classical in
def acI(r:gm)(c:iT r.m->ky r.m)(l:List Tm):bU au 96 [r.e,dx (l.map enc)] (.bool (decide (j8 r/\ri r.n l))):=by
 generalize bs:decide (j8 r/\ri r.n l)=R;have a:=ar3 r c;have g:=atb l;have f:=fun h:j8 r=>(j8.raw h).n;by_cases g1:j8 r;rotate_left
 ·rw[mX g1]at a;have:R=false:=by rw[<-bs];exact mX fun h=>g1 h.1
  subst this;obtain⟨n,b,d,k,m⟩:=r;simp only[gm.e]at a⊢;clear bs f c g1;refine bH a1 Tryz.func96 O4 fun o=>?_;unfold GD;exact cp
 rw[l6 g1]at a;cases g2:l.all Tm.fits
 ·rw[g2]at g;have:R=false:=by rw[<-bs];refine mX fun h=>?_;obtain⟨x,rfl,U,_⟩:=h.2;rw[List.all_eq_false]at g2;obtain⟨t,u,p⟩:=g2;obtain⟨y,v,rfl⟩:=hb.1 u;rw[Tm.fits_T]at p;exact p (U y v)
  subst this;obtain⟨n,b,d,k,m⟩:=r;simp only[gm.e]at a⊢;clear bs f c g1 g2;refine bH a1 Tryz.func96 O4 fun o=>?_;unfold GD;exact cp
 rw[g2]at g;obtain⟨x,rfl,i⟩:=Vk g2;rw[aft]at g⊢;have s:=acC x i;have j:decide (yC x<=r.n)=R:=by rw[<-bs,yC];refine decide_eq_decide.2 ?_;rw[ac5];refine⟨fun h=>⟨g1,x,rfl,i,h.2⟩,fun h=>⟨(f g1).1,?_⟩⟩;obtain⟨y,e,_,U⟩:=h.2;rw[acn e];exact U
 generalize yC x=q at s j;obtain⟨n,b,d,k,m⟩:=r;simp only[gm.e]at a j⊢;clear bs f c g1 g2 i;subst j;refine bH a1 Tryz.func96 O4 fun o=>?_;unfold GD;exact cp
noncomputable def si(s:dk)(x y:T):bd dk:=(mgu s.b [(x,y)]).bind fun b=>kx {s with b:=b}
def ar6{b:List Bd}(a:fm b){x y:T}(c:x.fit=true)(d:y.fit=true):bU au 121 [bL (b.map Bd.e),x.e,y.e] (gB (mgu b [(x,y)])):=by have e:=q2 a;have h:=F2 c;have f:=F2 d;have key:=ac1 b [x] [y] rfl a.sol a.fits a.ok Ψ (by simp only[T.fit,cP]at c;simpa using c.1) (by simp only[T.fit,cP]at d;simpa using d.1);simp only[gV,rZ,List.zip_cons_cons,List.zip_nil_left]at key;unfold gB at key⊢;generalize mgu b [(x,y)]=O at key;refine bH a1 Tryz.func121 anD fun g=>?_;unfold Sa;exact cp
def B0(S:aB->Prop)(l:List (List Bd))(d:List Bd):aH S (l.map cO++[cO d])=True:=u2 S l d
def ar8{x:List Bd}(h:x.length<=1000000):bU au 168 [cO x] (cO x):=acE x h
def ar9(s:dk)(f:s.b.length<=1000000)(j:∀x∈s.d,x.length<=1000000)(ab:s.k.length<=1000000)(hm:s.m.length<=68719470000):bU au 105 [s.e] s.e:=by
 obtain⟨n,b,d,k,m⟩:=s;simp only[dk.e]at f j ab hm⊢;have c:=acE b f;refine bH a1 Tryz.func105 anQ fun h=>?_;unfold Sn;have o:d.length<=68719476736:=by simp[eM,eV,eN,lim]at h;omega
 clear h;simp;(repeat' first|refine al ?_|refine aO c ?_|refine aP c ?_|simp);refine fT (fun i (L:List (List Bd))=>⟨[(1,.ptr (.loc 0) 0),(2,.ptr (.loc 1) 0),(3,.ptr (.loc 5) 0),(14,cZ (d.map cO)),(15,aj d.length),(16,aj i)],[(.loc 0,[aj n,bL (b.map Bd.e),cZ (d.map cO),b6 (k.map bI.e),b6 (m.map bo.e)]),(.loc 1,[aj 0,.slice 5 .nil [],.slice 1 .nil [],.slice 2 .nil [],.slice 2 .nil []]),(.loc 5,[aj n,bL (b.map Bd.e),.slice 1 (.own (.loc 13)) (L.map cO),.slice 2 .nil [],.slice 2 .nil []])],[(.loc 13,⟨L.length,46,1,none⟩)],41,[]⟩) d.length (fun i L=>L=d.take i) [] ca Ψ (fun L a _=>?_) (fun i L hi a _=>?_)
 ·rw[jz]at a;subst a;simp;(repeat' first|refine al ?_|simp);all_goals try refine⟨by unfold lim;omega,?_⟩
  exact cp
 ·obtain⟨x,g,e⟩:=eW hi;have l:=ar8 (j x (fu g));have p:L.length<=i:=by rw[a];simp;omega
  simp[hi,e];(repeat' first|refine al ?_|refine aO l ?_|refine aP l ?_|simp[e,hi]);all_goals try refine⟨by unfold lim;omega,?_⟩
  (repeat' first|refine al ?_|simp);refine bY.rng (L++[x]) hi (by rw[nH g,a]) ?_;simp;exact⟨by simp[fresh,aH,az,cc,aM,ae,B0],eo (by simp[fresh,aH,az,cc,aM,ae,B0]),ep (by simp[fresh,aH,az,dV,aM,ae,B0]),Ψ⟩
def T.fit_ok{x:T}(h:x.fit=true):x.ok=true:=by simp only[T.fit,cP]at h;exact h.1
def rP.bind{s:dk}(h:rP s){x y:T}(c:x.fit=true)(d:y.fit=true)(bx:fA s.n x=true)(a:fA s.n y=true){b:List Bd}(hm:mgu s.b [(x,y)]=some b):rP {s with b:=b}:=⟨h.n,h.b.mgu (by simp[T.fit_ok c,T.fit_ok d]) hm,h.d,h.k,h.m,YJ (fun v=>v<s.n) h.b.sol h.b.fits h.bb (fun e he=>by simp only[List.mem_singleton]at he;subst he;exact⟨Dn.1 bx,Dn.1 a⟩) hm,h.db,h.kb,h.mb⟩
open Classical in
def asm{s:dk}(h:ub s)(hm:ky s.m){x y:T}(b:x.fit=true)(c:y.fit=true)(bx:fA s.n x=true)(a:fA s.n y=true):bU au 96 [s.e,dx [x.e,y.e]] (.bool true):=by have:=acI s.r (fun _=>hm) [x.tm,y.tm];rw[l6 ⟨⟨s,rfl,h⟩,Vi b c bx a⟩,J3]at this;simpa[mA]using this
def atg(r:gm)(a b:Tm):(¬j8 r/\¬(j8 r/\ri r.n [a,b]))\/(j8 r/\a.fits=false/\¬(j8 r/\ri r.n [a,b]))\/(j8 r/\a.fits=true/\b.fits=false/\¬(j8 r/\ri r.n [a,b]))\/
  (j8 r/\∃x y:T,a=x.tm/\b=y.tm/\x.fit=true/\y.fit=true/\((j8 r/\ri r.n [a,b])↔(fA r.n x&&fA r.n y)=true)):=by
 by_cases g:j8 r;rotate_left
 ·exact .inl ⟨g,fun h=>g h.1⟩
 refine .inr ?_;cases g1:a.fits
 ·refine .inl ⟨g,rfl,fun h=>?_⟩;have:=Hj h.2 a Ψ;rw[g1]at this;cases this
 refine .inr ?_;cases g2:b.fits
 ·refine .inl ⟨g,rfl,rfl,fun h=>?_⟩;have:=Hj h.2 b Ψ;rw[g2]at this;cases this
 obtain⟨x,rfl,c⟩:=Tm.fits_ex g1;obtain⟨y,rfl,d⟩:=Tm.fits_ex g2;exact .inr ⟨g,x,y,rfl,rfl,c,d,by rw[cP];exact⟨fun h=>(Vj h.2).2,fun h=>⟨g,Vi c d h.1 h.2⟩⟩⟩
open Classical in
def asP(r:gm)(j:iT r.m->ky r.m)(a b:Tm)(w:¬(j8 r/\ri r.n [a,b]))(z kk:Int)(tag:List cU):bU au 117 [r.e,aj z,enc a,enc b,aj kk,.str tag] (rO none):=by
 simp only[rO,mW,lH,iq,dk.e];have c:=acZ r j;have f:=C3 a;have i:=C3 b;rcases atg r a b with⟨g,e⟩|⟨g,g1,e⟩|⟨g,g1,g2,e⟩|⟨g,x,y,rfl,rfl,u,v,e⟩
 ·skip;rw[mX g]at c;clear j g e f i;obtain⟨n,b0,d,k,m⟩:=r;simp only[gm.e]at c⊢;refine bH a1 Tryz.func117 zZ fun o=>?_;unfold xc;simp;((repeat' first|refine al ?_|refine aO c ?_|refine aP c ?_|simp|((first|apply ct|apply cz|apply cy)<;>intro h<;>try simp at h))<;>(try exact c3));all_goals simp[bZ,ba,bf,a6]
 ·skip;rw[l6 g]at c;rw[g1]at f;clear j g e g1 i;obtain⟨n,b0,d,k,m⟩:=r;simp only[gm.e]at c⊢;refine bH a1 Tryz.func117 zZ fun o=>?_;unfold xc;simp;((repeat' first|refine al ?_|refine aO c ?_|refine aP c ?_|refine aO f ?_|refine aP f ?_|simp|((first|apply ct|apply cz|apply cy)<;>intro h<;>try simp at h))<;>(try exact c3));all_goals simp[bZ,ba,bf,a6]
 ·skip;rw[l6 g]at c;rw[g1]at f;rw[g2]at i;clear j g e g1 g2;obtain⟨n,b0,d,k,m⟩:=r;simp only[gm.e]at c⊢;refine bH a1 Tryz.func117 zZ fun o=>?_;unfold xc;simp;((repeat' first|refine al ?_|refine aO c ?_|refine aP c ?_|refine aO f ?_|refine aP f ?_|refine aO i ?_|refine aP i ?_|simp|((first|apply ct|apply cz|apply cy)<;>intro h<;>try simp at h))<;>(try exact c3));all_goals simp[bZ,ba,bf,a6]
 rw[l6 g]at c;rw[Tm.fits_T,u,mA]at f;rw[Tm.fits_T,v,mA]at i;rw[mA,mA];have t:=Ay r.n x;have s:=Ay r.n y;have l:(fA r.n x&&fA r.n y)=false:=Bool.eq_false_iff.2 fun h=>w (e.2 h);clear j g u v e w;obtain⟨n,b0,d,k,m⟩:=r;simp only[gm.e]at c t s l⊢;generalize fA n x=p at t l;generalize fA n y=q at s l;cases p
 ·refine bH a1 Tryz.func117 zZ fun o=>?_;unfold xc;exact cp
 ·simp only[Bool.true_and]at l;subst l;refine bH a1 Tryz.func117 zZ fun o=>?_;unfold xc;exact cp
noncomputable def JH(s:dk)(x y:T):af:=match mgu s.b [(x,y)]with
 |none=>.tuple [iq.e,.bool false]
 |some b=>Fz {s with b:=b}
def aqD(s:dk)(x y:T):∃t:dk,∃q:Bool,JH s x y= .tuple [t.e,.bool q]/\(q=true->si s x y=some t)/\(q=false->si s x y=none):=by
 unfold JH si;cases mgu s.b [(x,y)]with
 |none=>exact⟨iq,false,rfl,(fun h=>by cases h),fun _=>rfl⟩
 |some b=>
  refine⟨_,_,rfl,(fun h=>?_),fun h=>?_⟩
  ·obtain⟨t,a⟩:=fx.1 h;rw[Qh a];exact a
  ·rw[k4];cases e:kx {s with b:=b}with
   |none=>rfl
   |some t=>rw[e]at h;cases h
def asK{s:dk}(h:rP s)(hm:ky s.m){x y:T}(g:x.fit=true)(j:y.fit=true)(bx:fA s.n x=true)(e:fA s.n y=true)(kk:Int)(tag:List cU):bU au 115 [s.e,aj 0,x.e,y.e,aj kk,.str tag] (JH s x y):=by
 have c:=acR s.b x y h.b.sol h.b.fits;unfold JH;cases hu:mgu s.b [(x,y)]with
 |none=>rw[hu]at c;clear h hu;obtain⟨n,b,d,k,m⟩:=s;simp only[dk.e,gB,iq]at c⊢;refine bH a1 Tryz.func115 ZJ fun i=>?_;unfold Lz;exact cp
 |some b0=>rw[hu]at c;obtain⟨G,f,be⟩:=hm;have a:=acU (h.bind g j bx e hu) f be;simp only[Fz]at a⊢;generalize Ao {s with b:=b0}=t at a;generalize (kx {s with b:=b0}).isSome=q at a;clear h hu;obtain⟨n,b,d,k,m⟩:=s;obtain⟨tn,p,o,l,tm⟩:=t;simp only[dk.e,gB]at c a⊢;refine bH a1 Tryz.func115 ZJ fun i=>?_;unfold Lz;exact cp
def asv{x:List Bd}(h:x.length<=1000000):bU au 178 [cO x] (cO x):=acN x h
def asG(t:List (List Bd))(g:∀x∈t,x.length<=1000000):bU au 179 [cZ (t.map cO)] (cZ (t.map cO)):=by
 refine bH a1 Tryz.func179 ape fun e=>?_;unfold TQ;have h:t.length<=68719476736:=by simp[eM,eV,eN,lim]at e;omega
 clear e;have c:=fun x b=>asv (g x b);simp;(repeat' first|refine al ?_|simp);refine fT (fun i (L:List (List Bd))=>⟨[(7,cZ (t.map cO)),(8,aj t.length),(3,.slice 1 (.own (.loc 0)) (L.map cO)),(9,aj i)],[],[(.loc 0,⟨L.length,46,1,none⟩)],1,[]⟩) t.length (fun i L=>L=t.take i) [] ca Ψ (fun L a _=>?_) (fun i L hi a _=>?_)
 ·rw[jz]at a;subst a;exact cp
 ·obtain⟨x,b,d⟩:=eW hi;have f:=c x (fu b);have j:L.length<=i:=by rw[a];simp;omega
  clear c;simp[hi,d];(repeat' first|refine al ?_|refine aO f ?_|refine aP f ?_|simp[d,hi]);all_goals try refine⟨by unfold lim;omega,?_⟩
  all_goals(repeat' first|refine al ?_|simp)
  all_goals refine bY.rng (L++[x]) hi (by rw[nH b,a]) ?_
  all_goals simp
  all_goals exact⟨by simp[fresh,aH,az,cc,aM,ae,B0],eo (by simp[fresh,aH,az,cc,aM,ae,B0]),ep (by simp[fresh,aH,az,dV,aM,ae,B0]),Ψ⟩
def asL(s:dk)(e:s.b.length<=1000000)(f:∀x∈s.d,x.length<=1000000)(ab:s.k.length<=1000000)(hm:s.m.length<=68719470000):bU au 104 [s.e] s.e:=by
 have c:=acN s.b e;have a:=asG s.d f;obtain⟨n,b,d,k,m⟩:=s;simp only[dk.e]at c a ab hm⊢;refine bH a1 Tryz.func104 api fun g=>?_;unfold TU;simp;(repeat' first|refine al ?_|refine aO c ?_|refine aP c ?_|refine aO a ?_|refine aP a ?_|simp);all_goals try refine⟨by unfold lim;omega,?_⟩
 exact cp
def UE{s t:dk}(h:rP s){x y:T}(c:x.fit=true)(d:y.fit=true)(bx:fA s.n x=true)(a:fA s.n y=true)(he:si s x y=some t):ub t:=by unfold si at he;obtain⟨b,J,U⟩:=mV.1 he;exact(abF (h.bind c d bx a J) U).1
def aqU{s t:dk}(hm:ky s.m)(he:kx s=some t):ky t.m:=by
 obtain⟨G,a,be⟩:=hm;refine⟨G,a,?_⟩;have:=Qh he;unfold kx at he;split at he
 ·cases he
 ·split at he
  ·cases he
  ·rename_i m e;split at he
   ·cases he
   ·split at he
    ·have U:=Jy be (fun x c=>by simp at c) e;have b:=e8 he;rw[<-b];exact QE U
    ·cases he
def UF{s t:dk}(hm:ky s.m){x y:T}(he:si s x y=some t):ky t.m:=by unfold si at he;obtain⟨b,J,U⟩:=mV.1 he;exact aqU (s:={s with b:=b}) hm U
open Classical in
def asO{s:dk}(h:ub s)(hm:ky s.m){x y:T}(o:x.fit=true)(p:y.fit=true)(bx:fA s.n x=true)(e:fA s.n y=true){r kk:Int}{tag:List cU}{F:bd dk}{t:dk}{q:Bool}
  (u:bU au 115 [s.e,aj r,x.e,y.e,aj kk,.str tag] (.tuple [t.e,.bool q])) (a:q=true->F=some t) (l:q=false->F=none) (g:F=some t->ub t/\ky t.m):bU au 117 [s.e,aj r,x.e,y.e,aj kk,.str tag] (rO F):=by
 have f:=acZ s.r fun _=>hm;rw[l6 ⟨s,rfl,h⟩,J3]at f;have E:=C3 x.tm;have w:=C3 y.tm;rw[Tm.fits_T,o,mA]at E;rw[Tm.fits_T,p,mA]at w;have j:=Ay s.n x;have i:=Ay s.n y;rw[bx]at j;rw[e]at i;cases q
 ·rw[l rfl];clear h hm o p bx e a l g;obtain⟨n,b,d,k,m⟩:=s;obtain⟨tn,H,G,v,tm⟩:=t;simp only[dk.e,rO,iq,mW,lH]at f j i u⊢;refine bH a1 Tryz.func117 zZ fun B=>?_;unfold xc;exact cp
 ·have a:=a rfl;obtain⟨c,be⟩:=g a;rw[a];have J:=asL t c.1.b.len (fun z A=>(c.1.d z A).len) (by have:=tH c.1.k;omega) (be.len c.1.m);clear h hm o p bx e a l c g be;obtain⟨n,b,d,k,m⟩:=s;obtain⟨tn,H,G,v,tm⟩:=t;simp only[dk.e,rO,mr,uk]at f j i u J⊢;refine bH a1 Tryz.func117 zZ fun B=>?_;unfold xc;exact cp
def asN{s:dk}(h:ub s)(hm:ky s.m){x y:T}(b:x.fit=true)(c:y.fit=true)(bx:fA s.n x=true)(a:fA s.n y=true):bU au 117 [s.e,aj 0,x.e,y.e,aj 0,.str []] (rO (si s x y)):=by have d:=asK h.1 hm b c bx a 0 [];obtain⟨t,q,g,i,f⟩:=aqD s x y;rw[g]at d;exact asO h hm b c bx a d i f fun e=>⟨UE h.1 b c bx a e,UF hm e⟩
def asZ(r:gm)(e:iT r.m->ky r.m)(a b:Tm)(f:¬(j8 r/\ri r.n [a,b])):bU au 52 [r.e,enc a,enc b] (rO none):=by have c:=asP r e a b f 0 0 [];generalize (none:bd dk)=O at c⊢;obtain⟨n,b0,d,k,m⟩:=r;simp only[rO,dk.e,gm.e]at c⊢;refine bH a1 Tryz.func52 ZG fun g=>?_;unfold Lw;exact cp
def asY{s:dk}(h:ub s)(hm:ky s.m){x y:T}(c:x.fit=true)(e:y.fit=true)(bx:fA s.n x=true)(b:fA s.n y=true):bU au 52 [s.e,x.e,y.e] (rO (si s x y)):=by have a:=asN h hm c e bx b;generalize si s x y=O at a⊢;obtain⟨n,b0,d,k,m⟩:=s;simp only[rO,dk.e,gm.e]at a⊢;refine bH a1 Tryz.func52 ZG fun f=>?_;unfold Lw;exact cp
def aqT{s t:dk}(he:kx s=some t):t.d.length<=30:=by
 unfold kx at he;split at he
 ·cases he
 split at he
 ·cases he
 split at he
 ·cases he
 split at he
 ·rename_i h;have:=e8 he;rw[<-this];exact h
 ·cases he
mutual
def hP:af->Nat
 | .int _ _=>1
 | .str _=>1
 | .slice _ _ xs=>iF xs
 | .agg cs=>iF cs
 |_=>0
def iF:List af->Nat
 |[]=>0
 |x::xs=>hP x+iF xs
end
mutual
def amZ(c8:Int->List cU):∀(p:af) (k:Int),(dJ c8 p k).2=k+hP p
 | .int _ _,k=>by simp[dJ,hP]
 | .str _,k=>by simp[dJ,hP]
 | .slice _ _ xs,k=>by simp only[dJ,hP];exact x5 c8 xs k
 | .agg cs,k=>by simp only[dJ,hP];exact x5 c8 cs k
 | .bool _,k=>by simp[dJ,hP]
 | .junk,k=>by simp[dJ,hP]
 | .ptr _ _,k=>by simp[dJ,hP]
 | .eptr _,k=>by simp[dJ,hP]
 | .iface _ _,k=>by simp[dJ,hP]
 | .nilp,k=>by simp[dJ,hP]
 | .tuple _,k=>by simp[dJ,hP]
 | .func _ _,k=>by simp[dJ,hP]
 | .gmap _,k=>by simp[dJ,hP]
 | .row _ _ _,k=>by simp[dJ,hP]
 | .rptr _ _ _ _ _,k=>by simp[dJ,hP]
 | .hdm _ _,k=>by simp[dJ,hP]
 | .hdi _ _ _,k=>by simp[dJ,hP]
 | .cst _,k=>by simp[dJ,hP]
def x5(c8:Int->List cU):∀(a:List af) (k:Int),(bD c8 a k).2=k+iF a
 |[],k=>by simp[bD,iF]
 |x::xs,k=>by simp only[bD,iF];rw[x5 c8 xs,amZ c8 x];omega
end
def YW(B aY K M:List af)(k:Int):(gG B aY K M k).2=k+(iF B+iF aY+iF K+iF M:Nat):=by unfold gG fH eR eh;rw[x5,x5,x5,x5];omega
def Kq{α:Type}{f:α->af}{c:Nat}:∀(l:List α),(∀x∈l,hP (f x)<=c)->iF (l.map f)<=c*l.length
 |[],_=>by simp[iF]
 |x::l,h=>by have J:=h x Ψ;have U:=Kq l fun y a=>h y (by simp[a]);simp only[gV,iF,mT,Nat.mul_succ];omega
mutual
def Q4:∀t:Tm,hP (enc t)=3*t.sz
 | .mk k n s a=>by simp only[enc,hP,iF,Tm.sz,adf a];omega
def adf:∀l:List Tm,iF (ma l)=3*Tm.szL l
 |[]=>rfl
 |x::xs=>by simp only[ma,iF,Tm.szL,Q4 x,adf xs];omega
end
mutual
def Ie:∀t:Tm,jB (enc t)
 | .mk k n s a=>by simp only[enc];exact .mk k n s (ma a) fun y b=>Xs a y b
def Xs:∀(l:List Tm),∀y∈ma l,jB y
 |[],y,h=>by simp[ma]at h
 |x::xs,y,h=>by
  simp only[ma,gI]at h;rcases h with rfl|h
  ·exact Ie x
  ·exact Xs xs y h
end
def alP(t:T):jB t.e:=by rw[<-mA];exact Ie _
mutual
def QA:∀(t:Tm) (m:Int),0<=ha (pq t) m->ha (pq t) m+t.sz<=m+1
 | .mk k n s a,m,h=>by
  simp only[pq,ha]at h⊢;have b:(hB.s s).len=s.length:=rfl;have c:(q0 a).length=a.length:=by rw[ack];simp
  by_cases g1:m-(hB.s s).len<0
  ·rw[if_pos g1]at h;omega
  by_cases g2:m-(hB.s s).len-((q0 a).length:Int)<0
  ·rw[if_neg g1,if_pos g2]at h;omega
  rw[if_neg g1,if_neg g2]at h⊢;have:=ab8 a _ h;simp only[Tm.sz];omega
def ab8:∀(l:List Tm) (m:Int),0<=qY (q0 l) m->qY (q0 l) m+Tm.szL l<=m+l.length
 |[],m,h=>by simp[q0,qY,Tm.szL]
 |x::xs,m,h=>by
  simp only[q0,qY]at h⊢;split at h
  ·omega
  rename_i g;rw[if_neg g];have J:=QA x m Ω;have U:=ab8 xs _ h;simp only[Tm.szL,mT];omega
end
def ab4{α β:Type}{f:α->Int->Int}{g:β->α}{w:β->af}:∀(l:List β) (m:Int),(∀x m,0<=f (g x) m->(hP (w x):Int)<=4*(m-f (g x) m)+4)->0<=jP f (l.map g) m->(iF (l.map w):Int)<=4*(m-jP f (l.map g) m)+4*l.length
 |[],m,_,h=>by simp[jP,iF]
 |x::xs,m,a,h=>by
  simp only[gV,jP]at h⊢;split at h
  ·omega
  rename_i q;rw[if_neg q];have J:=a x m Ω;have U:=ab4 xs _ a h;simp only[iF,mT];omega
def QB{α β:Type}{f:α->Int->Int}{g:β->α}{w:β->af}(l:List β)(m:Int)(a:∀x m,0<=f (g x) m->(hP (w x):Int)<=4*(m-f (g x) m)+4)(h:0<=mn f (l.map g) m):(iF (l.map w):Int)<=4*(m-mn f (l.map g) m):=by
 unfold mn at h⊢;split at h
 ·omega
 rename_i q;rw[if_neg q];have:=ab4 l _ a h;simp at this q⊢;omega
def atk(x:Bt)(m:Int)(h:0<=qX (vM x) m):(hP x.e:Int)<=4*(m-qX (vM x) m)+4:=by
 have J:0<=ha (pq x.t) m:=h;have U:=QA x.t m J;have b:hP x.e=1+3*x.t.sz:=by have a:=Q4 x.t;rw[uG]at a;simp only[hP,iF]at a;simp only[Bt.e,hP,iF];omega
 have a:qX (vM x) m=ha (pq x.t) m:=rfl;have c:1<=x.t.sz:=by cases x.t;simp[Tm.sz]
 rw[b,a];omega
def ab1(l:List Bt)(m:Int)(h:0<=eF (hd l) m):(iF (l.map Bt.e):Int)<=4*(m-eF (hd l) m):=QB l m atk h
def atl(x:List Bt)(m:Int)(h:0<=eF (hd x) m):(hP (gz x):Int)<=4*(m-eF (hd x) m)+4:=by have:=ab1 x m h;simp only[gz,hP];omega
def atn(x:bo)(m:Int)(h:0<=jQ (pf x) m):(hP x.e:Int)<=4*(m-jQ (pf x) m)+4:=by
 have J:hP x.e=2:=rfl;have U:=(pf x).s.len_nn;unfold jQ at h⊢;by_cases g:m-(pf x).s.len<0
 ·rw[if_pos g]at h;omega
 ·rw[if_neg g]at h⊢;omega
def adg(l:List bI):iF (l.map bI.e)=2*l.length:=by
 induction l with
 |nil=>rfl
 |cons x l a=>simp only[gV,iF,mT,a];show 1+(1+0)+_=_;omega
structure na (b d k m:List af):Prop where
 f:AJ b d k m
 w:iF b+iF d+iF k+iF m<=1000000000000
def na.le{B aY K M:List af}(h:na B aY K M):(gG B aY K M 1).2<=4611686018427387904:=by have:=h.w;rw[YW];omega
def arC(n:Int)(b:dA fQ)(d:dA (dA fQ))(k:dA bI)(m:dA iw)(q:Int):rQ ⟨n,b,d,k,m⟩ q=if eF b q<0 then-1 else if ft eF d (eF b q)<0 then-1 else if lC k (ft eF d (eF b q))<0 then-1 else if ft jQ m (lC k (ft eF d (eF b q)))<0 then-1 else ft jQ m (lC k (ft eF d (eF b q))):=rfl
def na.raw{r:gm}{q:Int}(o:0<=q)(B:q<=1048576)(h:0<=rQ r.h q):na (r.b.map Bt.e) (r.d.map gz) (r.k.map bI.e) (r.m.map bo.e):=by
 obtain⟨n,b,d,k,m⟩:=r;have h:0<=rQ ⟨n,hd b,.l (d.map hd),.l k,.l (m.map pf)⟩ q:=h;rw[arC]at h;have A:=vm (hd b) q o;by_cases g1:eF (hd b) q<0
 ·rw[if_pos g1]at h;omega
 rw[if_neg g1]at h;have E:=vn vm (.l (d.map hd)) (eF (hd b) q) Ω;by_cases g2:ft eF (.l (d.map hd)) (eF (hd b) q)<0
 ·rw[if_pos g2]at h;omega
 rw[if_neg g2]at h;have v:=J4 (.l k) (ft eF (.l (d.map hd)) (eF (hd b) q)) Ω;by_cases g3:lC (.l k) (ft eF (.l (d.map hd)) (eF (hd b) q))<0
 ·rw[if_pos g3]at h;omega
 rw[if_neg g3]at h;by_cases g4:ft jQ (.l (m.map pf)) (lC (.l k) (ft eF (.l (d.map hd)) (eF (hd b) q)))<0
 ·rw[if_pos g4]at h;omega
 rw[if_neg g4]at h;have t:=ab1 b q Ω;have i:=QB (f:=eF) (g:=hd) (w:=gz) d (eF (hd b) q) atl (by simpa only[ft]using(by omega:0<=ft eF (.l (d.map hd)) (eF (hd b) q)));have e:=QB (f:=jQ) (g:=pf) (w:=bo.e) m _ atn (by simpa only[ft]using h);have s:=adg k;have ab:(k.length:Int)<=1048576:=by
  by_cases g:ft eF (.l (d.map hd)) (eF (hd b) q)-k.length<0
  ·simp only[lC,if_pos g]at g3;omega
  ·omega
 have F:(d.length:Int)<=1048576:=by
  by_cases g:eF (hd b) q-(d.map hd).length<0
  ·simp only[ft,mn,if_pos g]at g2;omega
  ·simp at g;omega
 have c:mn eF (d.map hd) (eF (hd b) q)=ft eF (.l (d.map hd)) (eF (hd b) q):=rfl;have p:mn jQ (m.map pf) (lC (.l k) (ft eF (.l (d.map hd)) (eF (hd b) q)))=ft jQ (.l (m.map pf)) (lC (.l k) (ft eF (.l (d.map hd)) (eF (hd b) q))):=rfl;rw[c]at i;rw[c,p]at e;have isB:∀(l:List Bt),∀x∈l.map Bt.e,uq x:=fun l x a=>by obtain⟨y,_,rfl⟩:=hb.1 a;exact⟨_,_,_,_,_,rfl,fun z j=>by obtain⟨u,_,rfl⟩:=hb.1 j;exact Ie u⟩
 refine⟨⟨isB b,fun x a=>?_,fun x a=>?_,fun x a=>?_,by simp;omega⟩,by simp only;omega⟩
 ·obtain⟨y,_,rfl⟩:=hb.1 a;exact⟨_,rfl,isB y⟩
 ·obtain⟨y,_,rfl⟩:=hb.1 a;exact⟨_,_,rfl⟩
 ·obtain⟨y,_,rfl⟩:=hb.1 a;exact⟨_,_,rfl⟩
def atm(t:T):hP t.e=3*t.size:=by
 induction t with
 |pair a b d c=>simp only[T.e,hP,iF,T.size,d,c];omega
 |_=>rfl
def adh{s:List Bd}(h:fm s):iF (s.map Bd.e)<=15001*400:=by
 have J:=Kq (f:=Bd.e) (c:=15001) s fun x b=>by have U:=h.fits.2 x b;have a:=atm x.t;rw[T.e_eq]at a;simp only[hP,iF]at a;simp only[Bd.e,hP,iF];omega
 have U:=h.fits.1;omega
def na.of{s:dk}(h:ub s)(hm:s.m.length<=68719470000):na (s.b.map Bd.e) (s.d.map cO) (s.k.map bI.e) (s.m.map bo.e):=by
 have isB:∀(l:List Bd),∀x∈l.map Bd.e,uq x:=fun l x a=>by obtain⟨y,_,rfl⟩:=hb.1 a;exact⟨_,_,_,_,_,rfl,fun z b=>by obtain⟨u,_,rfl⟩:=hb.1 b;exact alP u⟩
 have j:=aqT h.2;have g:=adh h.1.b;have i:=Kq (f:=cO) (c:=15001*400) s.d fun x a=>by simp only[cO,hP];exact adh (h.1.d x a)
 have d:=adg s.k;have e:=Kq (f:=bo.e) (c:=2) s.m fun x _=>dP 2;have ab:=tH h.1.k;refine⟨⟨isB s.b,fun x a=>?_,fun x a=>?_,fun x a=>?_,by simp;omega⟩,Ω⟩
 ·obtain⟨y,_,rfl⟩:=hb.1 a;exact⟨_,rfl,isB y⟩
 ·obtain⟨y,_,rfl⟩:=hb.1 a;exact⟨_,_,rfl⟩
 ·obtain⟨y,_,rfl⟩:=hb.1 a;exact⟨_,_,rfl⟩
def na.zero:na (iq.b.map Bd.e) (iq.d.map cO) (iq.k.map bI.e) (iq.m.map bo.e):=⟨⟨fun x h=>by simp[iq]at h,fun x h=>by simp[iq]at h,fun x h=>by simp[iq]at h,fun x h=>by simp[iq]at h,by simp[iq]⟩,by simp[iq,iF]⟩
def arD(r:pI)(m:Int)(h:0<=m):rQ r m<=m:=by
 have c:=vm r.b m h;unfold rQ;split
 ·omega
 have d:=vn vm r.d (eF r.b m) Ω;split
 ·omega
 have b:=J4 r.k (ft eF r.d (eF r.b m)) Ω;split
 ·omega
 have a:=vn FT r.m (lC r.k (ft eF r.d (eF r.b m))) Ω;split<;>omega
@[simp]def awk(n:Nat):(aB.loc n=ef)=er:=eq_false (Cm n)
@[simp]def axb(n:Nat):(ef=aB.loc n)=er:=eq_false fun h=>Cm n h.symm
@[simp]def awl(m b n:Nat):(aB.loc m∈FW b n)=er:=eq_false fun h=>by obtain⟨_,e,_⟩:=YD.1 h;cases e
@[simp]def awm(m:Nat)(ε:Nat->Nat)(b:Nat)(p:af):ae (aB.loc m) (dR ε b p)=none:=(KH ε b p).2 m
def _root_.Go.Pv.CallDo.tree{P:cH}{n:Nat}{args:List af}{st:bp}{d:bd Nat}{K:bp->Prop}{ε:Nat->Nat}{b:Nat}{p a c:af}(g:cN p)(ax:bF a=bF p)
  (i:bG P n args (c1 ε b p) fun f e=>f=c/\e=c1 ε b a) (he:st.e=dR ε b p) (ab:aH (rng b (b+bF p)) args) (h:K ⟨e7 d c st.t,st.b,dR ε b a,st.n,st.o++cJ (c1 ε b a)⟩):CallDo P n args st d K:=by
 refine CallDo.ob i (ot g) (fun k cs ab=>by simp[ae]at ab) (fun k o ab=>by rw[he];exact ab) (ji (fun k ab=>(Df k).2 ab) _ ab) ?_;rintro r e ⟨rfl,rfl⟩;refine⟨oZ ax,?_⟩;rw[he,hF,C5];simpa using h
def Ub(n:Int)(B aY K M:List af)(k:Int):bF (kK n (eh B k).1 (eR B aY k).1 (fH B aY K k).1 (gG B aY K M k).1)=bF (kK n B aY K M):=by rw[GU,GU];have d:bF (bL (eh B k).1)=bF (bL B):=l9 (kJ ..) (mz ..);have c:bF (cZ (eR B aY k).1)=bF (cZ aY):=l9 (kJ ..) (mz ..);have b:bF (b6 (fH B aY K k).1)=bF (b6 K):=l9 (kJ ..) (mz ..);have a:bF (b6 (gG B aY K M k).1)=bF (b6 M):=l9 (kJ ..) (mz ..);omega
def afs(b:Nat)(n:Int)(B aY K M:List af)(k:Int):dv b (kK n (eh B k).1 (eR B aY k).1 (fH B aY K k).1 (gG B aY K M k).1)=dv b (kK n B aY K M):=by have g:bF (bL (eh B k).1)=bF (bL B):=l9 (kJ ..) (mz ..);have f:bF (cZ (eR B aY k).1)=bF (cZ aY):=l9 (kJ ..) (mz ..);have e:bF (b6 (fH B aY K k).1)=bF (b6 K):=l9 (kJ ..) (mz ..);rw[A6,A6,g,f,e];have c:∀b,dv b (bL (eh B k).1)=dv b (bL B):=fun b=>y3 (kJ ..);have d:∀b,dv b (cZ (eR B aY k).1)=dv b (cZ aY):=fun b=>y3 (kJ ..);have a:∀b,dv b (b6 (fH B aY K k).1)=dv b (b6 K):=fun b=>y3 (kJ ..);have h:∀b,dv b (b6 (gG B aY K M k).1)=dv b (b6 M):=fun b=>y3 (kJ ..);rw[c,d,a,h]
def X6{b:Nat}{n:Int}{B aY K M:List af}(h:AJ B aY K M)(k:Int):aH (rng b (b+bF (kK n B aY K M))) [dv b (kK n B aY K M),aj k]:=⟨nA _ _ (G2 h),by simp[az],trivial⟩
mutual
def Uq:∀t:Tm,cN (enc t)
 | .mk k n s a=>by simp only[enc,cN,dX,true_and,jc];exact⟨Ω,LP a⟩
def LP:∀l:List Tm,dX (ma l)
 |[]=>trivial
 |x::xs=>⟨Uq x,LP xs⟩
end
@[simp]def auw(l:List Tm):dX (l.map enc)=True:=by rw[<-A8];exact h1 (LP l)
@[simp]def auv(l:List T):dX (l.map T.e)=True:=h1 ((xg T.e l).2 fun x _=>by rw[<-mA];exact Uq _)
@[simp]def aus(l:List Bt):dX (l.map Bt.e)=True:=h1 ((xg Bt.e l).2 fun x _=>by show True/\True/\True/\True/\(0<4/\dX (x.t.args.map enc))/\True;simp)
@[simp]def aur(l:List Bd):dX (l.map Bd.e)=True:=h1 ((xg Bd.e l).2 fun x _=>by show True/\True/\True/\True/\(0<4/\dX (x.t.args.map T.e))/\True;simp)
@[simp]def auu(l:List (List Bt)):dX (l.map gz)=True:=h1 ((xg gz l).2 fun x _=>by simp[gz,cN])
@[simp]def aut(l:List (List Bd)):dX (l.map cO)=True:=h1 ((xg cO l).2 fun x _=>by simp[cO,cN])
@[simp]def auy(l:List bI):dX (l.map bI.e)=True:=h1 ((xg bI.e l).2 fun x _=>⟨trivial,trivial,trivial⟩)
@[simp]def auz(l:List bo):dX (l.map bo.e)=True:=h1 ((xg bo.e l).2 fun x _=>⟨trivial,trivial,trivial⟩)
@[reducible,simp] def AS(t:Nat->jE)(n:Int)(b:List Bt)(d:List (List Bt))(k:List bI)(m:List bo):List af:=[aj n,.slice 5 (t 0) (b.map Bt.e),.slice 1 (t 1) (d.map gz),.slice 2 (t 2) (k.map bI.e),.slice 2 (t 3) (m.map bo.e)]
@[reducible,simp] def vO(t:Nat->jE)(n:Int)(b:List Bd)(d:List (List Bd))(k:List bI)(m:List bo):List af:=[aj n,.slice 5 (t 0) (b.map Bd.e),.slice 1 (t 1) (d.map cO),.slice 2 (t 2) (k.map bI.e),.slice 2 (t 3) (m.map bo.e)]
@[reducible,simp] def pN(t:Nat->jE)(a:Tm):List af:=[aj a.kind,aj a.num,.str a.name,.slice 4 (t 0) (a.args.map enc)]
@[reducible,simp] def po(_:Nat):jE:= .lo ef
@[reducible,simp] def vo(n j:Nat):jE:= .tr (.loc n) j
@[reducible,simp] def J8(_:Nat):jE:= .no
def Uw(b:Nat)(n:Int)(B aY K M:List af):fL b [aj n,bL B,cZ aY,b6 K,b6 M]=[aj n,dv b (bL B),dv (b+bF (bL B)) (cZ aY),dv (b+bF (bL B)+bF (cZ aY)) (b6 K),dv (b+bF (bL B)+bF (cZ aY)+bF (b6 K)) (b6 M)]:=rfl
def Ux(b:Nat)(a br:Int)(s:List cU)(ys:List af):fL b [aj a,aj br,.str s,dx ys]=[aj a,aj br,.str s,dv b (dx ys)]:=rfl
def acm{a:Tm}{q:Int}(b:q<=1048576)(h:0<=ha (pq a) q)(k:Int):(bD bE (a.args.map enc) k).2<=k+3145731:=by have J:=QA a q h;have U:=Q4 a;rw[uG]at U;simp only[hP,iF]at U;rw[x5];omega
def na.k{B aY K M:List af}(h:na B aY K M):1<=(gG B aY K M 1).2/\(gG B aY K M 1).2<=1000000000001:=by have:=h.w;rw[YW];omega
def Uy{a:Tm}:∀y∈a.args.map enc,jB y:=fun y b=>by obtain⟨u,_,rfl⟩:=hb.1 b;exact Ie u
def Uc(a br:Int)(s:List cU)(ys:List af)(k:Int):bF (.agg [aj a,aj br,.str s,dx (bD bE ys k).1])=bF (.agg [aj a,aj br,.str s,dx ys]):=by rw[xf,xf];exact l9 (kJ ..) (mz ..)
def G5(a:Tm):cN (.agg [aj a.kind,aj a.num,.str a.name,dx (a.args.map enc)]):=by simp[cN,dX]
def na.opt{O:bd dk}(h:∀t,O=some t->ub t/\ky t.m):na ((O.getD iq).b.map Bd.e) ((O.getD iq).d.map cO) ((O.getD iq).k.map bI.e) ((O.getD iq).m.map bo.e):=by
 cases O with
 |none=>exact na.zero
 |some t=>obtain⟨J,U⟩:=h t rfl;exact na.of J (U.len J.1.m)
end
end Go.Proofs.YtahlgcidhnjlbaaGreat
namespace Go.Pv
section
open Go Go.RowKit
section
variable {w:World} {ν μ:bc} {k:aB} {m:Nat} (ar:oi (fun _=>er) w ν w μ) (ab:∀n v,ν.ow k=some (n,v)->μ.ow (.obj m)=some (n,v))
include ar ab
end
end
end Go.Pv
namespace Go.Proofs.YtahlgcidhnjlbaaGreat
section
open Go Go.Pv
def ane{s:dk}(h:ub s)(hm:ky s.m){x y:T}(g:x.fit=true)(i:y.fit=true)(bx:fA s.n x=true)(j:fA s.n y=true):gf au 53 [s.e,x.e,y.e] (qW (si s x y)):=by
 have c:=asm h hm g i bx j;have a:=ar6 h.1.b g i;have f:=ar9 s h.1.b.len (fun z o=>(h.1.d z o).len) (by have:=tH h.1.k;omega) (hm.len h.1.m);unfold si;cases hu:mgu s.b [(x,y)]with
 |none=>
  rw[hu]at a;clear h hu f;obtain⟨n,b,d,k,m⟩:=s;simp only[dk.e,gB,Option.bind_none,mW,lH,iq]at c a⊢;refine gf.mk mixed a1 Tryz.func53 O1 Ψ fun p κ=>?_;unfold GA;simp;(repeat' first|refine al ?_|refine aO c ?_|refine aP c ?_|refine aO a ?_|refine aP a ?_|simp);all_goals(refine ih.val Ψ ?_;simp[ba,bf,a6,ff,hy,eD,gX,eg,gO,tnL,tn,fs,gb,fold,hJ,hI,iO,ae,ef,cf,b7])
  all_goals simp[qW,iq,dk.kk]
 |some b0=>
  rw[hu]at a;obtain⟨G,l,be⟩:=hm;have e:=Y8 (h.1.bind g i bx j hu) l be;rw[k4];generalize kx {s with b:=b0}=O at e;clear h hu;obtain⟨n,b,d,k,m⟩:=s;simp only[dk.e,gB]at c a f e⊢;unfold qW dk.kk at e⊢;refine gf.mk mixed a1 Tryz.func53 O1 Ψ fun p κ=>?_;unfold GA;simp;(repeat' first|refine al ?_|refine aO c ?_|refine aP c ?_|refine aO a ?_|refine aP a ?_|refine aO f ?_|refine aP f ?_|simp);(refine CallDo.own Ψ (e) (by simp[ef]) ?_;simp);(repeat' first|refine al ?_|simp);all_goals(refine ih.val Ψ ?_;simp[ba,bf,a6,ff,hy,eD,gX,eg,gO,tnL,tn,fs,gb,fold,hJ,hI,iO,ae,ef,cf,b7])
  all_goals simp[qW,iq,dk.kk]
def Ds:aY:=(.sq (.region [cW 3 0,cW 4 1,cW 5 2,bz 6 false]) (.sq (.region [bP 7 1048576]) (.sq (.region [bg 20 5 3,I 21 7,b8 22 26 20 21,I 7 22]) (.sq (aa [I 23 7,aU 24 .lss 23 0] (aW 24 (aa [bz 6 true] .ret) .skip)) (.sq (.region [bg 25 4 4,I 26 7,b8 27 15 25 26,I 7 27]) (.sq (aa [I 28 7,aU 29 .lss 28 0] (aW 29 (aa [bz 6 true] .ret) .skip)) (.sq (.region [bg 30 4 5,I 31 7,b8 32 15 30 31,I 7 32]) (.sq (aa [I 33 7,aU 34 .lss 33 0] (aW 34 (aa [bz 6 true] .ret) .skip)) (.sq (.drawn true 142 [bg 36 5 3,cT 37 28 36,bg 38 4 4,cT 39 18 38,bg 40 4 5,cT 41 18 40,dS 42 52 [.t 37,.t 39,.t 41],I 35 42,cX 43 0 35,cX 44 1 35,dG 8 im,bV 5 8 43,I 9 44]) (.sl (.sq (.region [bg 45 5 3,cT 46 28 45,dG 10 im,bV 5 10 46]) (.sq (.region [bg 47 4 4,cT 48 18 47,dG 11 ez,bV 4 11 48]) (.sq (.region [bg 49 4 5,cT 50 18 49,dG 12 ez,bV 4 12 50]) (.sq (.region [bg 52 5 10,bg 53 4 11,bg 54 4 12,dS 55 53 [.t 52,.t 53,.t 54],I 51 55,cX 56 0 51,cX 57 1 51,dG 13 im,bV 5 13 56,I 14 57]) (.sq (aa [bg 58 5 13,bg 59 5 8,b8 60 30 58 59,cM 61 60,I 62 61,cg 62 false 63 14,cg 62 false 64 9,aw 62 false (cd 65 (.beq true none (.t 63) (.t 64))),dr 66 62 65] (aW 66 (aa [bz 6 false] .ret) .skip)) (.sq (.seq (.drawn true 142 [bg 67 5 10,bg 68 5 3,cT 69 28 68,b8 70 30 67 69,cM 71 70]) (aW 71 (aa [bz 6 false] .ret) .skip)) (.sq (.seq (.drawn true 142 [bg 72 4 11,bg 73 4 4,cT 74 18 73,b8 75 22 72 74,cM 76 75]) (aW 76 (aa [bz 6 false] .ret) .skip)) (.sq (.seq (.drawn true 142 [bg 77 4 12,bg 78 4 5,cT 79 18 78,b8 80 22 77 79,cM 81 80]) (aW 81 (aa [bz 6 false] .ret) .skip)) (.sq (.region [bP 15 1]) (.th 10 (.sq (.region [bg 82 5 10,I 83 15,b8 84 44 82 83,I 15 84]) (.th 11 (.sq (.region [bg 85 4 11,I 86 15,b8 87 23 85 86,I 15 87]) (.th 12 (.sq (.region [bg 88 4 12,I 89 15,b8 90 23 88 89,I 15 90]) (.sq (aa [I 91 15,aU 92 .lss 91 0,I 93 92,aw 93 false (bg 94 5 13),aw 93 false (bg 95 5 8),aw 93 false (b8 96 30 94 95),aw 93 false (cM 97 96),dr 98 93 97,I 99 98,cg 99 false 100 14,cg 99 false 101 9,aw 99 false (cd 102 (.beq true none (.t 100) (.t 101))),dr 103 99 102] (aW 103 (aa [bz 6 false] .ret) .skip)) (.sq (.region [bP 16 1]) (.th 13 (.sq (.region [bg 104 5 13,I 105 16,b8 106 44 104 105,I 16 106]) (.sq (.region [bP 17 1]) (.sq (.region [bg 107 5 13,I 108 17,b8 109 45 107 108,I 17 109]) (.sq (aa [I 110 17,aU 111 .lss 110 0] (aW 111 (aa [bz 6 false] .ret) .skip)) (.sq (aa [I 112 17,I 113 16,bu 114 .neq 112 113] (aW 114 (aa [bz 6 false] .ret) .skip)) (.sq (.drawn true 142 [bg 116 5 3,cT 117 28 116,bg 118 4 4,cT 119 18 118,bg 120 4 5,cT 121 18 120,dS 122 53 [.t 117,.t 119,.t 121],I 115 122,cX 123 0 115,cX 124 1 115,dG 18 im,bV 5 18 123,I 19 124]) (.sq (aa [bg 125 5 18,bg 126 5 8,b8 127 30 125 126,cM 128 127,I 129 128,cg 129 false 130 19,cg 129 false 131 9,aw 129 false (cd 132 (.beq true none (.t 130) (.t 131))),dr 133 129 132] (aW 133 (aa [bz 6 false] .ret) .skip)) (.sq (.region [bP 17 1]) (.sq (.region [bg 134 5 13,I 135 17,b8 136 45 134 135,I 17 136]) (.sq (aa [I 137 17,aU 138 .lss 137 0] (aW 138 (aa [bz 6 false] .ret) .skip)) (.sq (aa [I 139 17,I 140 16,bu 141 .neq 139 140] (aW 141 (aa [bz 6 false] .ret) .skip)) (.sq (.region [bz 6 true]) (.of .ret)))))))))))))))))))))))))))))))))))))))))
def I2:Hl aT Ds [.tmp 6] 3 lF=true:=bi
def Hd:au.funcs[(13:Nat)]? =some lF:=Tryz.func13
open Classical in
def anf(r:gm)(e:iT r.m->ky r.m)(a b:Tm)(f:¬(j8 r/\ri r.n [a,b])):gf au 53 [r.e,enc a,enc b] (qW none):=by
 have c:=acI r e [a,b];simp only[gV,rZ]at c;rw[mX f]at c;clear f e;obtain⟨n,b0,d,k,m⟩:=r;simp only[gm.e]at c⊢;refine gf.mk mixed a1 Tryz.func53 O1 Ψ fun g κ=>?_;unfold GA;simp;(repeat' first|refine al ?_|refine aO c ?_|refine aP c ?_|simp);all_goals(refine ih.val Ψ ?_;simp[ba,bf,a6,ff,hy,eD,gX,eg,gO,tnL,tn,fs,gb,fold,hJ,hI,iO,ae,ef,cf,b7])
 all_goals simp[qW,iq,dk.kk]
def agr(r:gm)(e:iT r.m->ky r.m)(a b:Tm):∃(S:dk) (B:Bool),na (S.b.map Bd.e) (S.d.map cO) (S.k.map bI.e) (S.m.map bo.e)/\bU au 52 [r.e,enc a,enc b] (.tuple [S.e,.bool B])/\gf au 53 [r.e,enc a,enc b] fun κ=>.tuple [S.kk κ,.bool B]:=by
 by_cases g:j8 r/\ri r.n [a,b];rotate_left
 ·exact⟨_,_,na.zero,asZ r e a b g,anf r e a b g⟩
 obtain⟨⟨s,rfl,c⟩,i⟩:=g;obtain⟨x,rfl,_⟩:=Tm.fits_ex (Hj i a Ψ);obtain⟨y,rfl,_⟩:=Tm.fits_ex (Hj i b Ψ);obtain⟨⟨f,h⟩,bx,d⟩:=Vj i;have hm:ky s.m:=e c.1.m;rw[J3,mA,mA];exact⟨_,_,na.opt fun t j=>⟨UE c.1 f h bx d j,UF hm j⟩,asY c hm f h bx d,ane c hm f h bx d⟩
def arV(r:pI)(hw:r.wf)(a:cF)(b:cF)(A:a.wf)(H:b.wf):bU au 13 [r.e,a.e,b.e] (.bool true):=by
 have j:=as9 r hw 1048576 Ω Ω;have w:=arD r 1048576 Ω;by_cases g:rQ r 1048576<0
 ·generalize rQ r 1048576=q at j g;clear hw w;obtain⟨n,b0,d,k,l⟩:=r;simp only[pI.e]at j⊢;refine bU.mkD mixed a1 Hd I2 Ψ dl fun J=>?_;unfold Ds;exact cp
 obtain⟨r,rfl,y⟩:=arE hw Ω;clear hw;have e3:=na.raw (r:=r) (q:=1048576) Ω Ω Ω;rw[arq]at j⊢;generalize rQ r.h 1048576=t at j g w;have v:=QW a A t Ω Ω;have x:=wW a t Ω;by_cases g2:ha a t<0
 ·generalize ha a t=o at v g2;rw[cF.e_eq]at v;clear w y e3 x;obtain⟨n,b0,d,k,l⟩:=r;simp only[gm.e]at j⊢;refine bU.mkD mixed a1 Hd I2 Ψ dl fun J=>?_;unfold Ds;exact cp
 obtain⟨a,rfl⟩:=J6 a t A Ω Ω Ω;have O:=acm (a:=a) (q:=t) Ω Ω;rw[Ka]at v⊢;generalize ha (pq a) t=o at v g2 x;have u:=QW b H o Ω Ω;have L:=wW b o Ω;by_cases g3:ha b o<0
 ·generalize ha b o=bX at u g3;rw[cF.e_eq]at u;clear w y e3 x L;obtain⟨n,b0,d,k,l⟩:=r;simp only[gm.e]at j⊢;refine bU.mkD mixed a1 Hd I2 Ψ dl fun J=>?_;unfold Ds;exact cp
 obtain⟨b,rfl⟩:=J6 b o H Ω Ω Ω;have N:=acm (a:=b) (q:=o) Ω Ω;rw[Ka]at u⊢;generalize ha (pq b) o=bX at u g3 L;have t1:=ate r;have z:=Za r;have E:=acG r;have t2:=ac4 a;have U:=IX a;have Y:=QP a;have t3:=ac4 b;have R:=IX b;have X:=QP b;obtain⟨S,B,i,s1,i1⟩:=agr r y a b;have m:=acG S.r;rw[J3]at m;clear w A H x L y;have M:bU au 53 [r.e,enc a,enc b] (.tuple [S.e,.bool B]):=by have:=i1.val (by simp[dk.kk,b7,cf,az,aH]);simpa[dk.kk,dk.e,b7,cf]using this
 obtain⟨n,b0,d,k,l⟩:=r;obtain⟨c,e,f,h,hc⟩:=S;unfold dk.kk at i1;unfold gm.kk at z;unfold Tm.k at U R;simp only[gm.e,dk.e]at j t1 s1 i1 M E m z⊢;refine bU.mkD mixed a1 Hd I2 Ψ dl fun J=>?_;unfold Ds;simp;(repeat' first|refine al ?_|refine aO j ?_|refine aP j ?_|refine aO v ?_|refine aP v ?_|refine aO u ?_|refine aP u ?_|refine aO t1 ?_|refine aP t1 ?_|refine aO t2 ?_|refine aP t2 ?_|refine aO t3 ?_|refine aP t3 ?_|refine aO s1 ?_|refine aP s1 ?_|simp[g,g2,g3]);refine agb ⟨[(3,.ptr (.loc 0) 0),(4,.ptr (.loc 1) 0),(5,.ptr (.loc 2) 0),(8,.ptr (.loc 11) 0),(9,.bool B)],
  [(.loc 0,AS J8 n b0 d k l),(.loc 1,pN J8 a),(.loc 2,pN J8 b),(.loc 11,vO J8 c e f h hc)],[],12,[]⟩ ca ?_ ?_
 ·simp[JP,JR,JQ,yq,Am]
 simp[wU,JS,FH,lB,yp];(repeat' first|refine al ?_|simp);(refine CallDo.own Ψ (z) (by simp[ef]) ?_;simp);(repeat' first|refine al ?_|simp);(refine CallDo.own Ψ (U) (by simp[ef]) ?_;simp);(repeat' first|refine al ?_|simp);(refine CallDo.own Ψ (R) (by simp[ef]) ?_;simp);(repeat' first|refine al ?_|simp);(refine CallDo.own Ψ (i1) (by simp[ef]) ?_;simp);(repeat' first|refine al ?_|refine aO m ?_|refine aP m ?_|refine aO t1 ?_|refine aP t1 ?_|refine aO t2 ?_|refine aP t2 ?_|refine aO t3 ?_|refine aP t3 ?_|refine aO E ?_|refine aP E ?_|refine aO Y ?_|refine aP Y ?_|refine aO X ?_|refine aP X ?_|simp);refine Ha ⟨[(3,.ptr (.loc 0) 0),(4,.ptr (.loc 1) 0),(5,.ptr (.loc 2) 0),(8,.ptr (.loc 11) 0),(9,.bool B),(10,.ptr (.loc 13) 0),(11,.ptr (.loc 15) 0),(12,.ptr (.loc 17) 0),(13,.ptr (.loc 19) 0),(14,.bool B),(15,aj 1)],
  [(.loc 0,AS po n b0 d k l),(.loc 1,pN po a),(.loc 2,pN po b),(.loc 11,vO po c e f h hc),(.loc 13,AS (vo 12) n b0 d k l),(.loc 15,pN (vo 14) a),(.loc 17,pN (vo 16) b),(.loc 19,vO (vo 18) c e f h hc)],[],20,[ef]⟩ 1000000 ca ?_ fun ε=>?_
 ·simp[yy,qe,fs,gb,tn,tnL,z7,ae,ef]
 simp[rS,rR,sW,r9,jq,nL,b7,cf,tn,tnL,ae];(repeat' first|refine al ?_|simp[Uw]);have f1:=VQ n e3.f 1 1000000 ε Ω e3.le;have f2:=X6 (b:=1000000) (n:=n) e3.f 1;rw[A6]at f1 f2;refine CallDo.tree (G2 e3.f) (Ub ..) f1 rfl f2 ?_;obtain⟨Q,V⟩:=e3.k;clear f1 f2 e3;simp only at Q V;generalize (gG (b0.map Bt.e) (d.map gz) (k.map bI.e) (l.map bo.e) 1).2=s at Q V⊢;simp;(repeat' first|refine al ?_|simp);refine Ha ⟨[(3,.ptr (.loc 0) 0),(4,.ptr (.loc 1) 0),(5,.ptr (.loc 2) 0),(8,.ptr (.loc 11) 0),(9,.bool B),(11,.ptr (.loc 15) 0),(12,.ptr (.loc 17) 0),(13,.ptr (.loc 19) 0),(14,.bool B),(15,aj s)],
  [(.loc 0,AS po n b0 d k l),(.loc 1,pN po a),(.loc 2,pN po b),(.loc 11,vO po c e f h hc),(.loc 15,pN (vo 14) a),(.loc 17,pN (vo 16) b),(.loc 19,vO (vo 18) c e f h hc)],[],20,[ef]⟩ 1000000 ca ?_ fun ε=>?_
 ·simp[yy,qe,fs,gb,tn,tnL,z7,ae,ef]
 simp[rS,rR,sW,r9,jq,nL,b7,cf,tn,tnL,ae];(repeat' first|refine al ?_|simp[Ux]);have f1:=VR a.kind a.num a.name (a.args.map enc) Uy s 1000000 ε Ω (by have:=O s;omega);have f2:aH (rng 1000000 _) [_,aj s]:=⟨nA _ 1000000 (G5 a),by simp[az],trivial⟩;rw[A7]at f1 f2;refine CallDo.tree (G5 a) (Uc ..) f1 (by first|rfl|rw[uG]) f2 ?_;have F:=lX bE (a.args.map enc) s;have G:=O s;clear f1 f2 O;generalize (bD bE (a.args.map enc) s).2=p at F G⊢;simp;(repeat' first|refine al ?_|simp);refine Ha ⟨[(3,.ptr (.loc 0) 0),(4,.ptr (.loc 1) 0),(5,.ptr (.loc 2) 0),(8,.ptr (.loc 11) 0),(9,.bool B),(12,.ptr (.loc 17) 0),(13,.ptr (.loc 19) 0),(14,.bool B),(15,aj p)],
  [(.loc 0,AS po n b0 d k l),(.loc 1,pN po a),(.loc 2,pN po b),(.loc 11,vO po c e f h hc),(.loc 17,pN (vo 16) b),(.loc 19,vO (vo 18) c e f h hc)],[],20,[ef]⟩ 1000000 ca ?_ fun ε=>?_
 ·simp[yy,qe,fs,gb,tn,tnL,z7,ae,ef]
 simp[rS,rR,sW,r9,jq,nL,b7,cf,tn,tnL,ae];(repeat' first|refine al ?_|simp[Ux]);have f1:=VR b.kind b.num b.name (b.args.map enc) Uy p 1000000 ε Ω (by have:=N p;omega);have f2:aH (rng 1000000 _) [_,aj p]:=⟨nA _ 1000000 (G5 b),by simp[az],trivial⟩;rw[A7]at f1 f2;refine CallDo.tree (G5 b) (Uc ..) f1 (by first|rfl|rw[uG]) f2 ?_;have qC:=lX bE (b.args.map enc) p;have uS:=N p;clear f1 f2 N;generalize (bD bE (b.args.map enc) p).2=K3 at qC uS⊢;have Z:¬K3<0:=Ω
 simp[Z];(repeat' first|refine al ?_|refine aO m ?_|refine aP m ?_|simp[Z]);refine Ha ⟨[(3,.ptr (.loc 0) 0),(4,.ptr (.loc 1) 0),(5,.ptr (.loc 2) 0),(8,.ptr (.loc 11) 0),(9,.bool B),(13,.ptr (.loc 19) 0),(16,aj 1)],
  [(.loc 0,AS po n b0 d k l),(.loc 1,pN po a),(.loc 2,pN po b),(.loc 11,vO po c e f h hc),(.loc 19,vO (vo 18) c e f h hc)],[],20,[ef]⟩ 1000000 ca ?_ fun ε=>?_
 ·simp[yy,qe,fs,gb,tn,tnL,z7,ae,ef]
 simp[rS,rR,sW,r9,jq,nL,b7,cf,tn,tnL,ae];(repeat' first|refine al ?_|simp[Uw]);have i:na (e.map Bd.e) (f.map cO) (h.map bI.e) (hc.map bo.e):=i;have f1:=VQ c i.f 1 1000000 ε Ω i.le;have f2:=X6 (b:=1000000) (n:=c) i.f 1;have f3:=aiX c i.f 1 1000000 ε Ω i.le;have f4:=f2;have f5:=G3 (n:=c) i.f 1;have f6:=Ub c (e.map Bd.e) (f.map cO) (h.map bI.e) (hc.map bo.e) 1;have f7:=i.k;have f8:=G2 (n:=c) i.f;rw[<-f6]at f4;rw[afs]at f3;obtain⟨P,Hy⟩:∃P,P=kK c (eh (e.map Bd.e) 1).1 (eR (e.map Bd.e) (f.map cO) 1).1 (fH (e.map Bd.e) (f.map cO) (h.map bI.e) 1).1 (gG (e.map Bd.e) (f.map cO) (h.map bI.e) (hc.map bo.e) 1).1:=⟨_,rfl⟩;rw[<-Hy]at f1 f3 f4 f5 f6;generalize (gG (e.map Bd.e) (f.map cO) (h.map bI.e) (hc.map bo.e) 1).2=K at f1 f3 f7;rw[A6]at f1 f2 f3 f4;clear Hy i;refine CallDo.tree f8 f6 f1 rfl f2 ?_;have W:¬K<0:=Ω
 clear f1 f2 f6 f7 f8;simp;(repeat' first|refine al ?_|simp);refine CallDo.tree f5 rfl f3 ?_ f4 ?_
 ·rfl
 simp[W];(repeat' first|refine al ?_|refine aO t1 ?_|refine aP t1 ?_|refine aO t2 ?_|refine aP t2 ?_|refine aO t3 ?_|refine aP t3 ?_|refine aO M ?_|refine aP M ?_|refine aO m ?_|refine aP m ?_|simp[W]);refine CallDo.tree f5 rfl f3 ?_ f4 ?_
 ·rfl
 exact cp
end
end Go.Proofs.YtahlgcidhnjlbaaGreat
