/- From a contract to the row: texts. -/
import Derived.Test.YtahlgcidhnjlbaaGreatProg
import Derived.Test.YtahlgcidhnjlbaaGreatF7
set_option linter.all false
set_option maxHeartbeats 4000000
set_option maxRecDepth 4000
open Bool renaming and_eq_true->cR
open Go renaming Program->cI,TypeId->gQ
open Go.DataW renaming trod->jB
open Go.IntKind renaming i64->vo
open Go.IntWalk renaming i64_in->pt
open Go.Proofs.Tryz renaming f12->lG,prog->au
open Go.Proofs.YtahlgcidhnjlbaaGreat.Rows renaming fnExactLackSymbolRow->kD,fnExactLackSymbolSpec->ue
open List renaming all_eq_true->j7,drop_eq_getElem_cons->lH,getElem?_append_right->vp,getElem?_eq_getElem->cl,getElem?_eq_some_iff->fH,length_cons->mw,map_cons->ha,mem_cons->gJ,mem_cons_of_mem->qf,mem_map->hb,mem_of_getElem?->ft,take_length->jC,take_of_length_le->ix
open Nat renaming le_refl->dP,mul_le_mul_right->rU
open Option renaming bind_eq_some_iff->mY,bind_some->lI,getD_none->k5,getD_some->lJ,isSome_iff_exists->fx,isSome_none->kh,isSome_some->rV
open Option.some renaming inj->e7
open _root_ renaming False->er,Option->be,UInt8->cJ,and_true->jf,decide_eq_false->mx,decide_eq_true->lK,eq_true->h4
namespace Go.Proofs.YtahlgcidhnjlbaaGreat
section
open Go
set_option maxRecDepth 100000 in
def ae3:joinedFacts au 12 lG ue kD=true:=(jj (jj (jj (jj (jj (jj (jj (jj (jj (jj (jj (jj (jj (jj (jj (jj (jj (jj (jj (jj (jj (jj (jj (jj (jj (jj (jj (jj (jj (jj (jj aex aey) aeJ) aeU) aeX) aeY) aeZ) ae0) ae1) ae2) aez) aeA) aeB) aeC) aeD) aeE) aeF) aeG) aeH) aeI) aeK) aeL) aeM) aeN) aeO) aeP) aeQ) aeR) aeS) aeT) aeV) aeW)
end
end Go.Proofs.YtahlgcidhnjlbaaGreat
namespace Go.Pv
section
open Go Go.RowKit
def lB{ε:Nat->Nat}{b sz:Nat}{t:jH}:∀{xs:List af},xs≠[]->dR ε b (.slice sz t xs)=(.obj b,⟨xs.length,ε b,sz,some (fL (b+1) xs)⟩)::gP ε (b+1) xs
 |[],h=>absurd rfl h
 |_::_,_=>rfl
def uB{b sz:Nat}{t:jH}:∀{xs:List af},xs≠[]->dv b (.slice sz t xs)= .row sz (.obj b) xs.length
 |[],h=>absurd rfl h
 |_::_,_=>rfl
def yY{b sz:Nat}{t:jH}:∀{xs ys:List af},xs.length=ys.length->dv b (.slice sz t xs)=dv b (.slice sz t ys)
 |[],[],_=>rfl
 |[],_::_,h=>by simp at h
 |_::_,[],h=>by simp at h
 |_::xs,_::ys,h=>by simp only[dv];simp at h;rw[h]
def uA{b:Nat}{l r:List af}{x:af}{i:Nat}(hi:l.length=i):(fL b (l++x::r))[i]? =some (dv (b+dc l) x):=by subst hi;rw[A3,vp (by rw[o5];exact dP _)];simp[o5,fL]
def Hh{b:Nat}{l r:List af}{x x':af}{i:Nat}(hi:l.length=i)(aw:bF x'=bF x):(fL b (l++x::r)).set i (dv (b+dc l) x')=fL b (l++x'::r):=by subst hi;rw[A3,A3,List.set_append_right _ _ (by rw[o5];exact dP _)];simp[o5,fL,aw]
def YM(c8:Int->List cJ)(l:List af)(x:af)(k:Int):bD c8 (l++[x]) k=((bD c8 l k).1++[(dJ c8 x (bD c8 l k).2).1],(dJ c8 x (bD c8 l k).2).2):=by rw[IX];simp[bD]
def amY(c8:Int->List cJ)(l:List af)(k:Int)(i:Nat):(bD c8 (l.take i) k).2<=(bD c8 l k).2:=by have h:=IX c8 (l.take i) (l.drop i) k;rw[List.take_append_drop]at h;rw[h];exact mn c8 _ _
def k1(c8:Int->List cJ)(l:List af)(k:Int)(i:Nat):List af:=(bD c8 (l.take i) k).1++l.drop i
def E6(c8:Int->List cJ)(l:List af)(k:Int):k1 c8 l k 0=l:=by simp[k1,bD]
def p3(c8:Int->List cJ)(l:List af)(k:Int):k1 c8 l k l.length=(bD c8 l k).1:=by simp[k1]
def n7(c8:Int->List cJ)(l:List af)(k:Int)(i:Nat):(k1 c8 l k i).length=l.length:=by simp[k1,kL];omega
def YJ(c8:Int->List cJ)(l:List af)(k:Int)(i:Nat):dc (k1 c8 l k i)=dc l:=by unfold k1;rw[LC,mC,<-LC,List.take_append_drop]
def YK(c8:Int->List cJ){l:List af}(k:Int)(i:Nat)(h:dX l):dX (k1 c8 l k i):=by rw[<-List.take_append_drop i l,LN]at h;unfold k1;rw[LN];exact⟨ra c8 _ _ h.1,h.2⟩
def E4(c8:Int->List cJ){l:List af}(k:Int){i:Nat}{x:af}(h:l[i]? =some x):k1 c8 l k i=(bD c8 (l.take i) k).1++x::l.drop (i+1):=by unfold k1;congr 1;obtain⟨hi,e⟩:=fH.1 h;rw[lH hi,e]
def E5(c8:Int->List cJ){l:List af}(k:Int){i:Nat}{x:af}(h:l[i]? =some x):k1 c8 l k (i+1)=(bD c8 (l.take i) k).1++(dJ c8 x (bD c8 (l.take i) k).2).1::l.drop (i+1):=by
 unfold k1;have:l.take (i+1)=l.take i++[x]:=by rw[List.take_add_one,h];rfl
 rw[this,YM];simp
def E7(c8:Int->List cJ){l:List af}(k:Int){i:Nat}{x:af}(h:l[i]? =some x):(bD c8 l k).1=(bD c8 (l.take i) k).1++(dJ c8 x (bD c8 (l.take i) k).2).1::(bD c8 (l.drop (i+1)) (dJ c8 x (bD c8 (l.take i) k).2).2).1:=by
 obtain⟨hi,e⟩:=fH.1 h;have J:l=l.take i++x::l.drop (i+1):=by rw[<-e,<-lH hi,List.take_append_drop]
 have U:=IX c8 (l.take i) (x::l.drop (i+1)) k;rw[<-J]at U;rw[U];simp only[bD]
def amX(c8:Int->List cJ){l:List af}(k:Int){i:Nat}{x:af}(h:l[i]? =some x):(bD c8 (l.take (i+1)) k).2=(dJ c8 x (bD c8 (l.take i) k).2).2:=by
 have:l.take (i+1)=l.take i++[x]:=by rw[List.take_add_one,h];rfl
 rw[this,YM]
def wA(c8:Int->List cJ):∀{xs:List af} (k:Int),(∀x∈xs,∃b a cs,x= .agg (.int b a::cs))->k+xs.length<=(bD c8 xs k).2
 |[],k,_=>by simp[bD]
 |x::xs,k,h=>by
  obtain⟨b,a,cs,rfl⟩:=h x Ψ;have J:=wA c8 (xs:=xs) (dJ c8 (.agg (.int b a::cs)) k).2 fun y c=>h y (by simp[c]);have U:k+1<=(dJ c8 (.agg (.int b a::cs)) k).2:=by simp only[dJ,bD];exact mn c8 cs (k+1)
  simp only[bD,mw];omega
def A2:∀{l:List af},dX l↔∀x∈l,cP x
 |[]=>by simp[dX]
 |x::l=>by simp[dX,A2 (l:=l)]
def mc{sz:Nat}{t:jH}:∀{xs ys:List af},xs.length=ys.length->dc xs=dc ys->bF (.slice sz t xs)=bF (.slice sz t ys)
 |[],[],_,_=>rfl
 |[],_::_,h,_=>by simp at h
 |_::_,[],h,_=>by simp at h
 |_::_,_::_,_,h=>by simp only[bF,dc]at h⊢;omega
@[simp]def CV{b sz:Nat}{t:jH}:∀{xs:List af},b7 (dv b (.slice sz t xs))=dv b (.slice sz t xs)
 |[]=>rfl
 |_::_=>rfl
def afo{b:Nat}{l r:List af}{x x':af}(he:dv (b+dc l) x'=dv (b+dc l) x)(aw:bF x'=bF x):fL b (l++x'::r)=fL b (l++x::r):=by rw[A3,A3];simp only[fL,he,aw]
@[simp]def abG{b sz:Nat}{t:jH}:∀{xs:List af},eU (dv b (.slice sz t xs))=true
 |[]=>rfl
 |_::_=>rfl
@[simp]def T5{b sz:Nat}{t:jH}:∀{xs:List af},cells (dv b (.slice sz t xs))=[dv b (.slice sz t xs)]
 |[]=>rfl
 |_::_=>rfl
@[simp]def awW{ε:Nat->Nat}{b m:Nat}{p:af}(x:dW):((aB.loc m,x)∈dR ε b p)=er:=eq_false fun h=>by have:=u1 h;rw[(KJ ε b p).2 m]at this;cases this
def gp.to{ε:Nat->Nat}{b:Nat}{p a:af}{st:bp}{t':List (Nat×af)}(e:cP p)(aw:bF p=bF a)(d:∀x∈t',get x.1 st.t=x.2/\az (rng b (b+bF a)) x.2)(he:∀k o,ae k (dR ε b p)=some o->ae k st.e=some o):
  gp (cL (c1 ε b a)) st ⟨t',[],dR ε b p,0,cL (c1 ε b a)⟩:=by
 have dF:∀k,rng b (b+bF a) k->¬fresh 0 (cL (c1 ε b a)) k:=fun k ab f=>f.2 (adC.2 ab);refine⟨fun x c=>⟨(d x c).1,tD dF _ (d x c).2⟩,fun k cs ab=>by simp[ae]at ab,fun k o ab=>⟨he k o ab,dF k ?_,EU dF ?_⟩,fun m hm=>hm⟩
 ·rw[<-aw];exact u3 ε p b k o ab
 ·rw[<-aw];exact N9 p b e k o ab
def u6(c8:Int->List cJ){l:List af}(k:Int){i:Nat}(hi:i<l.length):∃x,l[i]? =some x/\x∈l/\k<=(bD c8 (l.take i) k).2/\(dJ c8 x (bD c8 (l.take i) k).2).2<=(bD c8 l k).2/\(bD c8 (l.take (i+1)) k).2=(dJ c8 x (bD c8 (l.take i) k).2).2/\(bD c8 (l.take i) k).1.length=i:=by have h:l[i]? =some l[i]:=cl hi;have e:=amX c8 k h;have U:=amY c8 l k (i+1);rw[e]at U;exact⟨_,h,ft h,mn _ _ _,U,e,by rw[kL];simp;omega⟩
def IY(c8:Int->List cJ){l:List af}(k:Int){sz:Nat}(ε:Nat->Nat)(b:Nat)(c:dX l)(a:0<sz)(d:¬l=[]):eA (c1 ε b (.slice sz .no l))/\(∀i,bF (.slice sz .no (k1 c8 l k i))=bF (.slice sz .no l))/\(∀i,cP (.slice sz .no (k1 c8 l k i)))/\rng b (b+bF (.slice sz .no l)) (.obj b):=⟨ou ⟨a,c⟩,fun i=>mc (n7 ..) (YJ ..),fun i=>⟨a,YK _ _ _ c⟩,b,rfl,dP _,by cases l with|nil=>exact absurd rfl d|cons x xs=>simp only[bF];omega⟩
def HM(c8:Int->List cJ){l:List af}(k:Int){sz:Nat}(ε:Nat->Nat)(b:Nat)(f:dX l)(d:0<sz)(c:¬l=[]):cP (.slice sz .no (bD c8 l k).1)/\eA (c1 ε b (.slice sz .no (bD c8 l k).1))/\(bD c8 l k).1.length=l.length/\(bD c8 l k).1≠[]/\rng b (b+bF (.slice sz .no (bD c8 l k).1)) (.obj b):=by
 have J:cP (.slice sz .no (bD c8 l k).1):=⟨d,ra _ _ _ f⟩;have U:(bD c8 l k).1.length=l.length:=kL ..;have a:(bD c8 l k).1≠[]:=fun e=>c (List.length_eq_zero_iff.1 (by rw[<-U,e];rfl));refine⟨J,ou J,U,a,b,rfl,dP _,?_⟩;revert a;cases (bD c8 l k).1 with
 |nil=>exact fun h=>absurd rfl h
 |cons x xs=>intro _;simp only[bF];omega
def CallDo.subR{P:cI}{n:Nat}{args:List af}{st:bp}{d:be Nat}{K:bp->Prop}{ε:Nat->Nat}{b:Nat}{l r:List af}{y y' f:af}{O:dW}(s:cP y)(aw:bF y'=bF y)
  (t:bH P n args (c1 ε (b+1+dc l) y) fun i q=>i=f/\q=c1 ε (b+1+dc l) y') {Z:List af} (c:Z=l++y::r) (he:st.e=(.obj b,O)::gP ε (b+1) Z) (ab:aH (rng (b+1+dc l) (b+1+dc l+bF y)) args)
  (h:∀a,ae (.obj b) a=some O->(∀k o,ae k (gP ε (b+1) (l++y'::r))=some o->ae k a=some o)->K ⟨e6 d f st.t,st.b,a,st.n,st.o++cL (c1 ε (b+1+dc l) y')⟩):CallDo P n args st d K:=by
 subst c;refine CallDo.sub s aw t (fun k o ab=>?_) ab fun a p hu=>h a ?_ p
 ·obtain⟨m,rfl,g,j⟩:=B4 _ _ _ _ _ ab;rw[he];simp only[ae];rw[if_neg d6];exact ab
 ·rw[hu (.obj b) (fun⟨m,e,g,j⟩=>by cases e;omega),he];simp[ae]
end
end Go.Pv
namespace Go.Proofs.YtahlgcidhnjlbaaGreat
section
open Go Go.Pv
def SY:C:=(aa [c0 2 0,bQ 4 0] (aa [aF 5 3 1 2,ay 6 1 5,I 7 1,cc 8 24 6 7,I 1 8] (aa [I 9 1,I 4 9] .ret)))
def Lj:C:=(aa [bQ 4 0] (.seq (aa [bQ 5 0] (.block 0 (.loop (.seq (aa [I 6 5,I 7 0,cw 8 7,bu 9 .lss 6 8] (aW 9 .skip (.exit 0))) (.seq (.block 1 (aa [I 12 0,I 13 5,I 14 1,ck 15 4 12 13,aF 16 0 1 15,bV 1 16 14] (aa [I 17 1,aV 18 .add 17 1,I 1 18] (aa [I 19 0,I 20 5,I 21 1,ck 22 4 19 20,aF 23 1 1 22,bV 1 23 21] (aa [I 24 1,aV 25 .add 24 1,I 1 25] (aa [I 26 0,I 27 5,I 28 1,cY 29 71 28,ck 30 4 26 27,aF 31 2 1 30,bV 1 31 29] (aa [I 32 1,aV 33 .add 32 1,I 1 33] (.region [I 34 0,I 35 5,ck 36 4 34 35,aF 37 3 1 36,ay 38 1 37,I 39 1,cc 40 24 38 39,I 1 40])))))))) (.region [I 10 5,aV 11 .add 10 1,I 5 11])))))) (aa [I 41 1,I 4 41] .ret)))
def Le:C:=(aa [bQ 4 0] (.seq (aa [bQ 5 0] (.block 0 (.loop (.seq (aa [I 6 5,I 7 0,cw 8 7,bu 9 .lss 6 8] (aW 9 .skip (.exit 0))) (.seq (.block 1 (.seq (aa [I 12 0,I 13 5,ck 14 4 12 13,aF 15 0 1 14,ay 16 1 15,I 17 1,bu 18 .neq 16 17] (aW 18 (aa [bQ 4 (-1)] .ret) .skip)) (aa [I 19 1,aV 20 .add 19 1,I 1 20] (.seq (aa [I 21 0,I 22 5,ck 23 4 21 22,aF 24 1 1 23,ay 25 1 24,I 26 1,bu 27 .neq 25 26] (aW 27 (aa [bQ 4 (-1)] .ret) .skip)) (aa [I 28 1,aV 29 .add 28 1,I 1 29] (.seq (.seq (.drawn true 50 [I 30 0,I 31 5,ck 32 4 30 31,aF 33 2 1 32,ay 34 1 33,I 35 1,cY 36 71 35,bu 37 .neq 34 36]) (aW 37 (aa [bQ 4 (-1)] .ret) .skip)) (aa [I 38 1,aV 39 .add 38 1,I 1 39] (aa [I 40 0,I 41 5,ck 42 4 40 41,aF 43 3 1 42,ay 44 1 43,I 45 1,cc 46 25 44 45,I 1 46] (aa [I 47 1,aV 48 .lss 47 0] (aW 48 (aa [bQ 4 (-1)] .ret) .skip)))))))))) (.region [I 10 5,aV 11 .add 10 1,I 5 11])))))) (aa [I 49 1,I 4 49] .ret)))
def SX:C:=(aa [c0 2 0,bQ 4 0] (aa [aF 5 1 1 2,ay 6 1 5,I 7 1,cc 8 106 6 7,I 1 8] (aa [aF 9 2 1 2,ay 10 1 9,I 11 1,cc 12 107 10 11,I 1 12] (aa [aF 13 3 1 2,ay 14 1 13,I 15 1,cc 16 108 14 15,I 1 16] (aa [aF 17 4 1 2,ay 18 1 17,I 19 1,cc 20 109 18 19,I 1 20] (aa [I 21 1,I 4 21] .ret))))))
def SV:C:=(aa [c0 2 0,bQ 4 0] (aa [aF 5 1 1 2,ay 6 1 5,I 7 1,cc 8 110 6 7,I 1 8] (.seq (aa [I 9 1,aV 10 .lss 9 0] (aW 10 (aa [bQ 4 (-1)] .ret) .skip)) (aa [aF 11 2 1 2,ay 12 1 11,I 13 1,cc 14 111 12 13,I 1 14] (.seq (aa [I 15 1,aV 16 .lss 15 0] (aW 16 (aa [bQ 4 (-1)] .ret) .skip)) (aa [aF 17 3 1 2,ay 18 1 17,I 19 1,cc 20 112 18 19,I 1 20] (.seq (aa [I 21 1,aV 22 .lss 21 0] (aW 22 (aa [bQ 4 (-1)] .ret) .skip)) (aa [aF 23 4 1 2,ay 24 1 23,I 25 1,cc 26 113 24 25,I 1 26] (.seq (aa [I 27 1,aV 28 .lss 27 0] (aW 28 (aa [bQ 4 (-1)] .ret) .skip)) (aa [I 29 1,I 4 29] .ret))))))))))
def Lk:C:=(aa [cb 2 (.mov (.c (.str [])))] (.seq (aa [I 4 0,aV 5 .leq 4 0] (aW 5 (aa [cb 2 (.mov (.c (.str [109,48])))] .ret) .skip)) (aa [cb 3 (.mov (.c (.str [])))] (.seq (.block 0 (.loop (.seq (aa [I 6 0,aV 7 .gtr 6 0] (aW 7 .skip (.exit 0))) (.block 1 (aa [I 8 0,aV 9 .rem 8 10,cb 10 (.bin .add false (gV 48) (.t 9)),cb 11 (.conv .u8 (.t 10)),fe 12 1 5 [.t 11],cb 13 (.b2s (.t 12)),I 14 3,bu 15 .add 13 14,I 3 15] (.region [I 16 0,aV 17 .quo 16 10,I 0 17])))))) (aa [I 18 3,cb 19 (.bin .add false (.c (.str [109])) (.t 18)),I 2 19] .ret)))))
def Lg:C:=(aa [bQ 4 0] (.seq (aa [bQ 5 0] (.block 0 (.loop (.seq (aa [I 6 5,I 7 0,cw 8 7,bu 9 .lss 6 8] (aW 9 .skip (.exit 0))) (.seq (.block 1 (aa [I 12 0,I 13 5,I 14 1,ck 15 5 12 13,aF 16 0 1 15,bV 1 16 14] (aa [I 17 1,aV 18 .add 17 1,I 1 18] (aa [I 19 0,I 20 5,I 21 1,ck 22 5 19 20,hr 23 1 4 22,aF 24 0 1 23,bV 1 24 21] (aa [I 25 1,aV 26 .add 25 1,I 1 26] (aa [I 27 0,I 28 5,I 29 1,ck 30 5 27 28,hr 31 1 4 30,aF 32 1 1 31,bV 1 32 29] (aa [I 33 1,aV 34 .add 33 1,I 1 34] (aa [I 35 0,I 36 5,I 37 1,cY 38 71 37,ck 39 5 35 36,hr 40 1 4 39,aF 41 2 1 40,bV 1 41 38] (aa [I 42 1,aV 43 .add 42 1,I 1 43] (.region [I 44 0,I 45 5,ck 46 5 44 45,hr 47 1 4 46,aF 48 3 1 47,ay 49 1 48,I 50 1,cc 51 24 49 50,I 1 51])))))))))) (.region [I 10 5,aV 11 .add 10 1,I 5 11])))))) (aa [I 52 1,I 4 52] .ret)))
def Lh:C:=(aa [bQ 4 0] (.seq (aa [bQ 5 0] (.block 0 (.loop (.seq (aa [I 6 5,I 7 0,cw 8 7,bu 9 .lss 6 8] (aW 9 .skip (.exit 0))) (.seq (.block 1 (.region [I 12 0,I 13 5,ck 14 1 12 13,ay 15 1 14,I 16 1,cc 17 106 15 16,I 1 17])) (.region [I 10 5,aV 11 .add 10 1,I 5 11])))))) (aa [I 18 1,I 4 18] .ret)))
def Ll:C:=(aa [bQ 4 0] (.seq (aa [bQ 5 0] (.block 0 (.loop (.seq (aa [I 6 5,I 7 0,cw 8 7,bu 9 .lss 6 8] (aW 9 .skip (.exit 0))) (.seq (.block 1 (aa [I 12 0,I 13 5,I 14 1,ck 15 2 12 13,aF 16 0 1 15,bV 1 16 14] (aa [I 17 1,aV 18 .add 17 1,I 1 18] (aa [I 19 0,I 20 5,I 21 1,ck 22 2 19 20,aF 23 1 1 22,bV 1 23 21] (.region [I 24 1,aV 25 .add 24 1,I 1 25]))))) (.region [I 10 5,aV 11 .add 10 1,I 5 11])))))) (aa [I 26 1,I 4 26] .ret)))
def Li:C:=(aa [bQ 4 0] (.seq (aa [bQ 5 0] (.block 0 (.loop (.seq (aa [I 6 5,I 7 0,cw 8 7,bu 9 .lss 6 8] (aW 9 .skip (.exit 0))) (.seq (.block 1 (aa [I 12 0,I 13 5,I 14 1,ck 15 2 12 13,aF 16 0 1 15,bV 1 16 14] (aa [I 17 1,aV 18 .add 17 1,I 1 18] (aa [I 19 0,I 20 5,I 21 1,cY 22 71 21,ck 23 2 19 20,aF 24 1 1 23,bV 1 24 22] (.region [I 25 1,aV 26 .add 25 1,I 1 26]))))) (.region [I 10 5,aV 11 .add 10 1,I 5 11])))))) (aa [I 27 1,I 4 27] .ret)))
def Lb:C:=(aa [bQ 4 0] (.seq (aa [bQ 5 0] (.block 0 (.loop (.seq (aa [I 6 5,I 7 0,cw 8 7,bu 9 .lss 6 8] (aW 9 .skip (.exit 0))) (.seq (.block 1 (.seq (aa [I 12 0,I 13 5,ck 14 5 12 13,aF 15 0 1 14,ay 16 1 15,I 17 1,bu 18 .neq 16 17] (aW 18 (aa [bQ 4 (-1)] .ret) .skip)) (aa [I 19 1,aV 20 .add 19 1,I 1 20] (.seq (aa [I 21 0,I 22 5,ck 23 5 21 22,hr 24 1 4 23,aF 25 0 1 24,ay 26 1 25,I 27 1,bu 28 .neq 26 27] (aW 28 (aa [bQ 4 (-1)] .ret) .skip)) (aa [I 29 1,aV 30 .add 29 1,I 1 30] (.seq (aa [I 31 0,I 32 5,ck 33 5 31 32,hr 34 1 4 33,aF 35 1 1 34,ay 36 1 35,I 37 1,bu 38 .neq 36 37] (aW 38 (aa [bQ 4 (-1)] .ret) .skip)) (aa [I 39 1,aV 40 .add 39 1,I 1 40] (.seq (.seq (.drawn true 63 [I 41 0,I 42 5,ck 43 5 41 42,hr 44 1 4 43,aF 45 2 1 44,ay 46 1 45,I 47 1,cY 48 71 47,bu 49 .neq 46 48]) (aW 49 (aa [bQ 4 (-1)] .ret) .skip)) (aa [I 50 1,aV 51 .add 50 1,I 1 51] (aa [I 52 0,I 53 5,ck 54 5 52 53,hr 55 1 4 54,aF 56 3 1 55,ay 57 1 56,I 58 1,cc 59 25 57 58,I 1 59] (aa [I 60 1,aV 61 .lss 60 0] (aW 61 (aa [bQ 4 (-1)] .ret) .skip)))))))))))) (.region [I 10 5,aV 11 .add 10 1,I 5 11])))))) (aa [I 62 1,I 4 62] .ret)))
def Lc:C:=(aa [bQ 4 0] (.seq (aa [bQ 5 0] (.block 0 (.loop (.seq (aa [I 6 5,I 7 0,cw 8 7,bu 9 .lss 6 8] (aW 9 .skip (.exit 0))) (.seq (.block 1 (aa [I 12 0,I 13 5,ck 14 1 12 13,ay 15 1 14,I 16 1,cc 17 110 15 16,I 1 17] (aa [I 18 1,aV 19 .lss 18 0] (aW 19 (aa [bQ 4 (-1)] .ret) .skip)))) (.region [I 10 5,aV 11 .add 10 1,I 5 11])))))) (aa [I 20 1,I 4 20] .ret)))
def Lf:C:=(aa [bQ 4 0] (.seq (aa [bQ 5 0] (.block 0 (.loop (.seq (aa [I 6 5,I 7 0,cw 8 7,bu 9 .lss 6 8] (aW 9 .skip (.exit 0))) (.seq (.block 1 (.seq (aa [I 12 0,I 13 5,ck 14 2 12 13,aF 15 0 1 14,ay 16 1 15,I 17 1,bu 18 .neq 16 17] (aW 18 (aa [bQ 4 (-1)] .ret) .skip)) (aa [I 19 1,aV 20 .add 19 1,I 1 20] (.seq (aa [I 21 0,I 22 5,ck 23 2 21 22,aF 24 1 1 23,ay 25 1 24,I 26 1,bu 27 .neq 25 26] (aW 27 (aa [bQ 4 (-1)] .ret) .skip)) (.region [I 28 1,aV 29 .add 28 1,I 1 29]))))) (.region [I 10 5,aV 11 .add 10 1,I 5 11])))))) (aa [I 30 1,I 4 30] .ret)))
def Ld:C:=(aa [bQ 4 0] (.seq (aa [bQ 5 0] (.block 0 (.loop (.seq (aa [I 6 5,I 7 0,cw 8 7,bu 9 .lss 6 8] (aW 9 .skip (.exit 0))) (.seq (.block 1 (.seq (aa [I 12 0,I 13 5,ck 14 2 12 13,aF 15 0 1 14,ay 16 1 15,I 17 1,bu 18 .neq 16 17] (aW 18 (aa [bQ 4 (-1)] .ret) .skip)) (aa [I 19 1,aV 20 .add 19 1,I 1 20] (.seq (.seq (.drawn true 32 [I 21 0,I 22 5,ck 23 2 21 22,aF 24 1 1 23,ay 25 1 24,I 26 1,cY 27 71 26,bu 28 .neq 25 27]) (aW 28 (aa [bQ 4 (-1)] .ret) .skip)) (.region [I 29 1,aV 30 .add 29 1,I 1 30]))))) (.region [I 10 5,aV 11 .add 10 1,I 5 11])))))) (aa [I 31 1,I 4 31] .ret)))
def aom:b4 aT SY [.tmp 4] 2 Tryz.f23=true:=bi
def Zu:b4 aT Lj [.tmp 4] 2 Tryz.f24=true:=bi
def Zp:b4 aT Le [.tmp 4] 2 Tryz.f25=true:=bi
def aol:b4 aT SX [.tmp 4] 2 Tryz.f44=true:=bi
def aok:b4 aT SV [.tmp 4] 2 Tryz.f45=true:=bi
def Zv:b4 aT Lk [.tmp 2] 1 Tryz.f71=true:=bi
def Zr:b4 aT Lg [.tmp 4] 2 Tryz.f106=true:=bi
def Zs:b4 aT Lh [.tmp 4] 2 Tryz.f107=true:=bi
def Zw:b4 aT Ll [.tmp 4] 2 Tryz.f108=true:=bi
def Zt:b4 aT Li [.tmp 4] 2 Tryz.f109=true:=bi
def Zm:b4 aT Lb [.tmp 4] 2 Tryz.f110=true:=bi
def Zn:b4 aT Lc [.tmp 4] 2 Tryz.f111=true:=bi
def Zq:b4 aT Lf [.tmp 4] 2 Tryz.f112=true:=bi
def Zo:b4 aT Ld [.tmp 4] 2 Tryz.f113=true:=bi
def zM:Nat->Int->List cJ->List cJ
 |0,_,o=>o
 |f+1,k,o=>if k<=0 then o else zM f (k/10) (UInt8.ofNat (IntKind.u8.wrap (48+k.tmod 10)).toNat::o)
def bG(k:Int):List cJ:=if k<=0 then [109,48]else 109::zM k.toNat k []
def C4(k:Int)(ab:k<=4611686018427387904):bT au 71 [aj k] (.str (bG k)):=by
 by_cases c:k<=0
 ·rw[bG,if_pos c];refine bI a1 Tryz.func71 Zv fun p=>?_;unfold Lk;exact cn
 rw[bG,if_neg c];refine bI a1 Tryz.func71 Zv fun p=>?_;unfold Lk;simp;(repeat' first|refine ao ?_|simp[c]);refine o6 (fun(x:Int×List cJ)=>⟨[(0,aj x.1),(3,.str x.2)],[],[],0,[]⟩) (fun x=>x.1.toNat) (fun x=>0<=x.1/\x.1<=4611686018427387904/\x.1.toNat*10 ^ x.2.length<=4611686018427387904/\x.2.length<=19/\∃f:Nat,x.1<=f/\zM f x.1 x.2=zM k.toNat k []) (k,[]) b9 ⟨Ω,ab,by simp;omega,Ψ,k.toNat,by simp;omega,rfl⟩ ?_;rintro⟨j,o⟩ ⟨J,U,m,i,f,n,a⟩ _;simp only at J U m i n a;by_cases g:0<j
 ·have r:o.length<=18:=by
   rcases Nat.lt_or_ge 18 o.length with h|h
   ·have e:10 ^ 19<=10 ^ o.length:=Nat.pow_le_pow_right Ω Ω;have d:1*10 ^ o.length<=j.toNat*10 ^ o.length:=rU _ Ω;omega
   ·exact h
  have q:j.tdiv 10=j/10:=Int.tdiv_eq_ediv_of_nonneg J;have hm:j.tmod 10=j%10:=Int.tmod_eq_emod_of_nonneg J;have hw:vo.wrap (j.tdiv 10)=j/10:=by rw[q];exact pt _ Ω
  simp[g];(repeat' first|refine ao ?_|simp);all_goals first|(refine⟨by unfold tz;omega,by unfold lim;omega,?_⟩)|skip
  rw[hw];obtain⟨b,rfl⟩:∃b,f=b+1:=⟨f-1,Ω⟩;refine bY.whl (j/10,UInt8.ofNat (IntKind.u8.wrap (48+j.tmod 10)).toNat::o) d6 ⟨by simp;omega,by simp;omega,?_,by simp;omega,b,by simp;omega,?_⟩ b9
  ·simp only[mw,Nat.pow_succ];have e:(j/10).toNat*10<=j.toNat:=Ω
   have d:=rU (10 ^ o.length) e;rw[Nat.mul_assoc,Nat.mul_comm 10]at d;omega
  ·rw[<-a];simp only[zM];rw[if_neg Ω]
 ·simp[g];(repeat' first|refine ao ?_|simp);all_goals try refine⟨by unfold lim;omega,?_⟩
  have l:zM f j o=o:=by cases f<;>simp[zM];omega
  rw[l]at a;rw[<-a];simp[bZ,bc,bf,a6]
def jE.dt':∀(n:Nat),(∀p,CW p<=n->jE p->cP p)/\(∀c,qW c<=n->(∀p∈c,jE p)->dX c)
 |0=>by
  refine⟨fun p d h=>?_,fun c d h=>?_⟩
  ·obtain⟨a,b,s,ys,_,_,e⟩:=h.inv;omega
  ·cases c with
   |nil=>simp[dX]
   |cons p c=>obtain⟨a,b,s,ys,_,_,e⟩:=(h p Ψ).inv;simp only[qW]at d;omega
 |n+1=>by
  obtain⟨_,g⟩:=jE.dt' n;have J:∀p,CW p<=n+1->jE p->cP p:=fun p d h=>by obtain⟨a,b,s,ys,rfl,i,e⟩:=h.inv;simp only[cP,dX,true_and,jf];exact⟨Ω,g ys Ω i⟩
  refine⟨J,fun c d h=>A2.2 fun x f=>J x ?_ (h x f)⟩;have:=J9 f;omega
def jE.dtL{a:List af}(h:∀p∈a,jE p):dX a:=(jE.dt' _).2 a (dP _) h
def DF(c:Nat)(a br:Int)(s:List cJ)(t:jH)(ys:List af):dv c (.agg [aj a,aj br,.str s,.slice 4 t ys])= .agg [aj a,aj br,.str s,dv c (.slice 4 t ys)]:=rfl
def YU(c8:Int->List cJ)(a br:Int)(s:List cJ)(t:jH)(ys:List af)(k:Int):dJ c8 (.agg [aj a,aj br,.str s,.slice 4 t ys]) k=(.agg [aj k,aj (k+1),.str (c8 (k+1+1)),.slice 4 t (bD c8 ys (k+1+1+1)).1],(bD c8 ys (k+1+1+1)).2):=by simp[dJ,bD]
def P6(ε:Nat->Nat)(c:Nat)(a br:Int)(s:List cJ)(t:jH)(ys:List af):dR ε c (.agg [aj a,aj br,.str s,.slice 4 t ys])=dR ε c (.slice 4 t ys):=by show []++([]++([]++(dR ε (c+0+0+0) (.slice 4 t ys)++[])))=_;simp
def xa(a br:Int)(s:List cJ)(t:jH)(ys:List af):bF (.agg [aj a,aj br,.str s,.slice 4 t ys])=bF (.slice 4 t ys):=by show 0+(0+(0+(bF (.slice 4 t ys)+0)))=_;omega
def asY(k:Int):bT au 24 [dx [],aj k] (aj k):=by refine bI a1 Tryz.func24 Zu fun a=>?_;unfold Lj;simp;(repeat' first|refine ao ?_|simp);refine fU (fun i (_:Unit)=>⟨[(0,dx []),(1,aj k),(5,aj i)],[],[],0,[]⟩) 0 (fun _ _=>True) () b9 trivial (fun _ _ _=>?_) (fun i _ hi _ _=>Ω);exact cn
def VP(k:Int)(b:Nat)(ε:Nat->Nat):bH au 24 [dv b (dx []),aj k] (c1 ε b (dx [])) fun r a=>r=aj k/\a=c1 ε b (dx []):=asY k
def asx(k:Int):bT au 25 [dx [],aj k] (aj k):=by refine bI a1 Tryz.func25 Zp fun a=>?_;unfold Le;simp;(repeat' first|refine ao ?_|simp);refine fU (fun i (_:Unit)=>⟨[(0,dx []),(1,aj k),(5,aj i)],[],[],0,[]⟩) 0 (fun _ _=>True) () b9 trivial (fun _ _ _=>?_) (fun i _ hi _ _=>Ω);exact cn
def VJ(k:Int)(b:Nat)(ε:Nat->Nat):bH au 25 [dv b (dx []),aj k] (c1 ε b (dx [])) fun r a=>r=aj k/\a=c1 ε b (dx []):=asx k
def VO:∀(n:Nat) (xs:List af),qW xs<=n->(∀x∈xs,jE x)->∀(k:Int) (b:Nat) (ε:Nat->Nat),0<=k->(bD bG xs k).2<=4611686018427387904->
  bH au 24 [dv b (dx xs),aj k] (c1 ε b (dx xs)) fun r ak=>r=aj (bD bG xs k).2/\ak=c1 ε b (dx (bD bG xs k).1):=by
 intro n;induction n with
 |zero=>
  intro xs G g k b ε bA ab;cases xs with
  |nil=>exact VP k b ε
  |cons x xs=>obtain⟨a,br,s,ys,_,_,e⟩:=(g x Ψ).inv;simp only[qW]at G;omega
 |succ n b0=>
 intro xs G g k b ε bA ab;have O:dX xs:=jE.dtL g;have ai:eA (c1 ε b (dx xs)):=ou (by simp[cP,O]);by_cases m:xs=[]
 ·subst m;exact VP k b ε
 have vT:(bD bG (xs.take 0) k).2=k:=by simp[bD]
 refine bH.mk mixed a1 Tryz.func24 Zu Ψ ai.obj fun aR c4=>?_;unfold Lj;rw[uB m];simp;(repeat' first|refine ao ?_|simp);have t:∀i,bF (dx (k1 bG xs k i))=bF (dx xs):=fun i=>mc (n7 ..) (YJ ..);have u:∀i,cP (dx (k1 bG xs k i)):=fun i=>by simp only[cP];exact⟨Ω,YK _ _ _ O⟩
 have F:rng b (b+bF (dx xs)) (.obj b):=⟨b,rfl,dP _,by cases xs with|nil=>exact absurd rfl m|cons x xs=>simp only[bF];omega⟩;have oF:=wA bG (xs:=xs) k fun x h=>by obtain⟨a,br,s,ys,rfl,_⟩:=(g x h).inv;exact⟨_,_,_,rfl⟩
 have avk:∀i,k1 bG xs k i≠[]:=fun i e=>m (List.length_eq_zero_iff.1 (by rw[<-n7 bG xs k i,e];rfl));refine fU (fun i (_:Unit)=>⟨[(0,.row 4 (.obj b) xs.length),(1,aj (bD bG (xs.take i) k).2),(5,aj i)],[],dR ε b (dx (k1 bG xs k i)),0,cL (c1 ε b (dx xs))⟩) xs.length (fun _ _=>True) () ?_ trivial (fun _ _ _=>?_) (fun i _ hi _ _=>?_)
 ·refine gp.to (u _) (t _) ?_ (fun k o h=>by rw[E6]at h;exact h);simp[az,F,bD]
 ·rw[p3,jC];simp;(repeat' first|refine ao ?_|simp);refine c5.at (c1 ε b (dx (bD bG xs k).1)) Ψ (ou (by rw[<-p3];exact u _)) (oY (by rw[<-p3];exact t _)) (fun k cs h=>by simp[ae]at h) (fun k o h=>h) ?_;simp[dd,bc,bf,a6]
 ·obtain⟨x,N,hm,J,U,p,w⟩:=u6 bG k hi;have f:=E4 bG k N;have c:=E5 bG k N;have W:=fun(t':List (Nat×af)) (st:bp)=>gp.to (t':=t') (st:=st) (ε:=ε) (b:=b) (u (i+1)) (t (i+1));have hlen:((bD bG (xs.take i) k).1++x::xs.drop (i+1)).length=xs.length:=by rw[<-f];exact n7 ..
  rw[f,lB (xs:=_++x::_) Ψ,hlen];generalize eK:(bD bG (xs.take i) k).1=M at w f c⊢;generalize dk:(bD bG (xs.take i) k).2=K at p c J U⊢;generalize bt:xs.drop (i+1)=R at f c⊢;obtain⟨a,br,s,ys,rfl,B,qE⟩:=(g x hm).inv;have d:=uA (b:=b+1) (r:=R) (x:= .agg [aj a,aj br,.str s,dx ys]) w;have v:(fL (b+1) (M++ .agg [aj a,aj br,.str s,dx ys]::R)).length=xs.length:=by rw[o5,<-f];exact n7 ..
  rw[DF]at d;rw[YU]at p c U;generalize L:dv (b+1+dc M) (dx ys)=E at d;generalize V:fL (b+1) (M++ .agg [aj a,aj br,.str s,dx ys]::R)=X at d v⊢;have Z:K+1+1+1<=(bD bG ys (K+1+1+1)).2:=mn ..;simp only at U;have H:=C4 (K+1+1) Ω;have A:∀h,(X[i]'h)= .agg [aj a,aj br,.str s,E]:=fun h=>by rw[cl h]at d;exact e7 d
  clear d;simp[hi,A,v];(repeat' first|refine ao ?_|refine aO H ?_|refine aP H ?_|simp[A,v,hi]);have z:dX ys:=jE.dtL B;have P:=b0 ys (by have:=J9 hm;omega) B (K+1+1+1) (b+1+dc M) ε Ω Ω;have j:(bD bG ys (K+1+1+1)).1.length=ys.length:=kL ..;have q:dc (bD bG ys (K+1+1+1)).1=dc ys:=mC ..;generalize bD bG ys (K+1+1+1)=Q at j q P p c U Z;have Y:b7 E=E:=by rw[<-L];exact CV
  rw[Y];subst L;refine CallDo.subR (ε:=ε) (b:=b) (l:=M) (r:=R) (y:= .agg [aj a,aj br,.str s,dx ys]) (y':= .agg [aj K,aj (K+1),.str (bG (K+1+1)),dx Q.1]) (by simp[cP,dX,z]) (by rw[xa,xa];exact mc j q) (by simp only[c1,P6];exact P) rfl rfl ?_ (fun eQ S av=>?_)
  ·rw[xa];simp only[aH,az,jf];exact n2 _ _ (by simp only[cP];exact⟨Ω,z⟩)
  ·skip;simp;(repeat' first|refine ao ?_|simp);refine bY.rng () hi ?_ ?_
   ·trivial
   rw[show(bD bG (xs.take (i+1)) k).2=Q.2 from p];refine W _ _ (by simp[az,F]) fun k o h=>?_;rw[c,lB Ψ]at h;simp only[ae]at h;split at h
   ·rename_i e;subst e;rw[S,<-h,<-V,<-yY j,<-DF (b+1+dc M) K (K+1) (bG (K+1+1)),Hh w (by rw[xa,xa];exact mc j q),<-n7 bG xs k (i+1),c]
   ·exact av k o h
def aiX:∀(n:Nat) (xs:List af),qW xs<=n->(∀x∈xs,jE x)->∀(k:Int) (b:Nat) (ε:Nat->Nat),0<=k->(bD bG xs k).2<=4611686018427387904->
  bH au 25 [dv b (dx (bD bG xs k).1),aj k] (c1 ε b (dx (bD bG xs k).1)) fun r ak=>r=aj (bD bG xs k).2/\ak=c1 ε b (dx (bD bG xs k).1):=by
 intro n;induction n with
 |zero=>
  intro xs L j k b ε bA ab;cases xs with
  |nil=>exact VJ k b ε
  |cons x xs=>obtain⟨a,br,s,ys,_,_,e⟩:=(j x Ψ).inv;simp only[qW]at L;omega
 |succ n b0=>
 intro xs L j k b ε bA ab;have aL:dX (bD bG xs k).1:=ra _ _ _ (jE.dtL j);have z:cP (dx (bD bG xs k).1):=by simp only[cP];exact⟨Ω,aL⟩
 have S:eA (c1 ε b (dx (bD bG xs k).1)):=ou z;by_cases O:xs=[]
 ·subst O;exact VJ k b ε
 have g:(bD bG xs k).1.length=xs.length:=kL ..;have f:(bD bG xs k).1≠[]:=fun e=>O (List.length_eq_zero_iff.1 (by rw[<-g,e];rfl));have oF:=wA bG (xs:=xs) k fun x h=>by obtain⟨a,br,s,ys,rfl,_⟩:=(j x h).inv;exact⟨_,_,_,rfl⟩
 have G:rng b (b+bF (dx (bD bG xs k).1)) (.obj b):=⟨b,rfl,dP _,by revert f;cases (bD bG xs k).1 with|nil=>exact fun h=>absurd rfl h|cons x xs=>intro _;simp only[bF];omega⟩;have A:=fun(t':List (Nat×af)) (st:bp)=>gp.to (t':=t') (st:=st) (ε:=ε) (b:=b) z rfl;refine bH.mk mixed a1 Tryz.func25 Zp Ψ S.obj fun aR c4=>?_;unfold Le;rw[uB f,g];simp;(repeat' first|refine ao ?_|simp);refine fU (fun i (_:Unit)=>⟨[(0,.row 4 (.obj b) xs.length),(1,aj (bD bG (xs.take i) k).2),(5,aj i)],[],dR ε b (dx (bD bG xs k).1),0,cL (c1 ε b (dx (bD bG xs k).1))⟩) xs.length (fun _ _=>True) () ?_ trivial (fun _ _ _=>?_) (fun i _ hi _ _=>?_)
 ·refine A _ _ ?_ (fun k o h=>h);simp[az,G,bD]
 ·rw[jC];simp;(repeat' first|refine ao ?_|simp);refine c5.at (c1 ε b (dx (bD bG xs k).1)) Ψ S (oY rfl) (fun k cs h=>by simp[ae]at h) (fun k o h=>h) ?_;simp[dd,bc,bf,a6]
 ·obtain⟨x,cB,hm,J,U,p,H⟩:=u6 bG k hi;have c:=E7 bG k cB;generalize uH:(bD bG xs k).1=Y at*;have m:=lB (ε:=ε) (b:=b) (sz:=4) (t:= .no) f;rw[g]at m;rw[m];generalize eK:(bD bG (xs.take i) k).1=M at H c;generalize dk:(bD bG (xs.take i) k).2=K at p c J U⊢;obtain⟨a,br,s,ys,rfl,F,qE⟩:=(j x hm).inv;rw[YU]at p c U;simp only at U;generalize (bD bG (xs.drop (i+1)) _).1=R at c;have d:=uA (b:=b+1) (r:=R) (x:= .agg [aj K,aj (K+1),.str (bG (K+1+1)),dx (bD bG ys (K+1+1+1)).1]) H;rw[<-c,DF]at d;have u:(fL (b+1) Y).length=xs.length:=by rw[o5,g]
  generalize v:dv (b+1+dc M) (dx (bD bG ys (K+1+1+1)).1)=E at d;generalize lg:fL (b+1) Y=X at d u m⊢;have iF:K+1+1+1<=(bD bG ys (K+1+1+1)).2:=mn ..;have N:=C4 (K+1+1) Ω;have B:∀h,(X[i]'h)= .agg [aj K,aj (K+1),.str (bG (K+1+1)),E]:=fun h=>by rw[cl h]at d;exact e7 d
  clear d;have V:=b0 ys (by have:=J9 hm;omega) F (K+1+1+1) (b+1+dc M) ε Ω Ω;have q:dX (bD bG ys (K+1+1+1)).1:=ra _ _ _ (jE.dtL F);generalize bD bG ys (K+1+1+1)=Q at q v V p c U iF;simp[hi,B,u];(repeat' first|refine ao ?_|refine aO N ?_|refine aP N ?_|simp[B,u,hi]);have ia:b7 E=E:=by rw[<-v];exact CV
  rw[ia];subst v;refine CallDo.subR (ε:=ε) (b:=b) (l:=M) (r:=R) (y:= .agg [aj K,aj (K+1),.str (bG (K+1+1)),dx Q.1]) (y':= .agg [aj K,aj (K+1),.str (bG (K+1+1)),dx Q.1]) (by simp[cP,dX,q]) rfl (by simp only[c1,P6];exact V) c rfl ?_ (fun eQ Z P=>?_)
  ·rw[xa];simp only[aH,az,jf];exact n2 _ _ (by simp only[cP];exact⟨Ω,q⟩)
  ·skip;have w:¬(Q.2<0):=Ω
   simp[w];(repeat' first|refine ao ?_|simp[w]);refine bY.rng () hi ?_ ?_
   ·trivial
   rw[show(bD bG (xs.take (i+1)) k).2=Q.2 from p];have W:aB.obj b::(gP ε (b+1) Y).map (fun x=>x.1)=cL (c1 ε b (dx Y)):=by simp[lB f]
   rw[W,<-m];refine A _ _ ?_ (fun k o h=>?_)
   ·simp[az,G]
   rw[lB f,g,lg]at h;simp only[ae]at h;split at h
   ·rename_i e;subst e;rw[Z,<-h]
   ·rw[<-c]at P;exact P k o h
def ui(x:af):Prop:= ∃(a:Int) (b:Int) (a2:Int) (s:List cJ) (ys:List af),x= .agg [aj a,aj b,aj a2,.str s,dx ys]/\∀y∈ys,jE y
def LU(c:Nat)(a:Int)(b:Int)(a2:Int)(s:List cJ)(ys:List af)(t:jH):dv c (.agg [aj a,aj b,aj a2,.str s,.slice 4 t ys])= .agg [aj a,aj b,aj a2,.str s,dv c (.slice 4 t ys)]:=rfl
def abo(ε:Nat->Nat)(c:Nat)(a:Int)(b:Int)(a2:Int)(s:List cJ)(ys:List af)(t:jH):dR ε c (.agg [aj a,aj b,aj a2,.str s,.slice 4 t ys])=dR ε c (.slice 4 t ys):=by show []++([]++([]++([]++((dR ε (c+0+0+0+0) (.slice 4 t ys)++[])))))=_;simp
def A0(a:Int)(b:Int)(a2:Int)(s:List cJ)(ys:List af)(t:jH):bF (.agg [aj a,aj b,aj a2,.str s,.slice 4 t ys])=bF (.slice 4 t ys):=by show 0+(0+(0+(0+((bF (.slice 4 t ys)+0)))))=_;omega
def YR(a:Int)(b:Int)(a2:Int)(s:List cJ)(ys:List af)(K:Int):dJ bG (.agg [aj a,aj b,aj a2,.str s,dx ys]) K=(.agg [aj K,aj (K+1),aj (K+1+1),.str (bG (K+1+1+1)),dx (bD bG ys (K+1+1+1+1)).1],(bD bG ys (K+1+1+1+1)).2):=by simp[dJ,bD]
def yX{xs:List af}(h:∀x∈xs,ui x):dX xs:=A2.2 fun x b=>by obtain⟨a,d,a2,s,ys,rfl,c⟩:=h x b;simp[cP,dX,jE.dtL c]
def asW(k:Int):bT au 106 [bL [],aj k] (aj k):=by refine bI a1 Tryz.func106 Zr fun a=>?_;unfold Lg;simp;(repeat' first|refine ao ?_|simp);refine fU (fun i (_:Unit)=>⟨[(0,bL []),(1,aj k),(5,aj i)],[],[],0,[]⟩) 0 (fun _ _=>True) () b9 trivial (fun _ _ _=>?_) (fun i _ hi _ _=>Ω);exact cn
def ai5(k:Int)(b:Nat)(ε:Nat->Nat):bH au 106 [dv b (bL []),aj k] (c1 ε b (bL [])) fun r a=>r=aj k/\a=c1 ε b (bL []):=asW k
def asv(k:Int):bT au 110 [bL [],aj k] (aj k):=by refine bI a1 Tryz.func110 Zm fun a=>?_;unfold Lb;simp;(repeat' first|refine ao ?_|simp);refine fU (fun i (_:Unit)=>⟨[(0,bL []),(1,aj k),(5,aj i)],[],[],0,[]⟩) 0 (fun _ _=>True) () b9 trivial (fun _ _ _=>?_) (fun i _ hi _ _=>Ω);exact cn
def aiT(k:Int)(b:Nat)(ε:Nat->Nat):bH au 110 [dv b (bL []),aj k] (c1 ε b (bL [])) fun r a=>r=aj k/\a=c1 ε b (bL []):=asv k
def VM(xs:List af)(w:∀x∈xs,ui x)(k:Int)(b:Nat)(ε:Nat->Nat)(bA:0<=k)(ab:(bD bG xs k).2<=4611686018427387904):
  bH au 106 [dv b (bL xs),aj k] (c1 ε b (bL xs)) fun r Z=>r=aj (bD bG xs k).2/\Z=c1 ε b (bL (bD bG xs k).1):=by
 have aL:dX xs:=yX w;by_cases v:xs=[]
 ·subst v;exact ai5 k b ε
 have oF:=wA bG (xs:=xs) k fun x h=>by obtain⟨a,f,a2,s,ys,rfl,_⟩:=w x h;exact⟨_,_,_,rfl⟩
 obtain⟨ai,p,q,F⟩:=IY bG k (sz:=5) ε b aL Ω v;refine bH.mk mixed a1 Tryz.func106 Zr Ψ ai.obj fun aR c4=>?_;unfold Lg;rw[uB v];simp;(repeat' first|refine ao ?_|simp);refine fU (fun i (_:Unit)=>⟨[(0,.row 5 (.obj b) xs.length),(1,aj (bD bG (xs.take i) k).2),(5,aj i)],[],dR ε b (bL (k1 bG xs k i)),0,cL (c1 ε b (bL xs))⟩) xs.length (fun _ _=>True) () ?_ trivial (fun _ _ _=>?_) (fun i _ hi _ _=>?_)
 ·refine gp.to (q _) (p _) ?_ (fun k o h=>by rw[E6]at h;exact h);simp[az,F,bD]
 ·rw[p3,jC];simp;(repeat' first|refine ao ?_|simp);refine c5.at (c1 ε b (bL (bD bG xs k).1)) Ψ (ou (by rw[<-p3];exact q _)) (oY (by rw[<-p3];exact p _)) (fun k cs h=>by simp[ae]at h) (fun k o h=>h) ?_;simp[dd,bc,bf,a6]
 ·obtain⟨x,L,hm,J,U,m,u⟩:=u6 bG k hi;have g:=E4 bG k L;have c:=E5 bG k L;have S:=fun(t':List (Nat×af)) (st:bp)=>gp.to (t':=t') (st:=st) (ε:=ε) (b:=b) (q (i+1)) (p (i+1));have hlen:((bD bG (xs.take i) k).1++x::xs.drop (i+1)).length=xs.length:=by rw[<-g];exact n7 ..
  rw[g,lB (xs:=_++x::_) Ψ,hlen];generalize eK:(bD bG (xs.take i) k).1=M at u g c⊢;generalize dk:(bD bG (xs.take i) k).2=K at m c J U⊢;generalize bt:xs.drop (i+1)=R at g c⊢;obtain⟨a,f,a2,s,ys,rfl,B⟩:=w x hm;have d:=uA (b:=b+1) (r:=R) (x:= .agg [aj a,aj f,aj a2,.str s,dx ys]) u;have t:(fL (b+1) (M++ .agg [aj a,aj f,aj a2,.str s,dx ys]::R)).length=xs.length:=by rw[o5,<-g];exact n7 ..
  rw[LU]at d;rw[YR]at m c U;generalize H:dv (b+1+dc M) (dx ys)=E at d;generalize P:fL (b+1) (M++ .agg [aj a,aj f,aj a2,.str s,dx ys]::R)=X at d t⊢;have W:(K+1+1+1+1)<=(bD bG ys (K+1+1+1+1)).2:=mn ..;simp only at U;have G:=C4 (K+1+1+1) Ω;have A:∀h,(X[i]'h)= .agg [aj a,aj f,aj a2,.str s,E]:=fun h=>by rw[cl h]at d;exact e7 d
  clear d;have N:=VO _ ys (dP _) B (K+1+1+1+1) (b+1+dc M) ε Ω Ω;have z:dX ys:=jE.dtL B;have j:(bD bG ys (K+1+1+1+1)).1.length=ys.length:=kL ..;have n:dc (bD bG ys (K+1+1+1+1)).1=dc ys:=mC ..;generalize bD bG ys (K+1+1+1+1)=Q at j n N m c U W;simp[hi,A,t];(repeat' first|refine ao ?_|refine aO G ?_|refine aP G ?_|simp[A,t,hi]);have V:b7 E=E:=by rw[<-H];exact CV
  rw[V];subst H;refine CallDo.subR (ε:=ε) (b:=b) (l:=M) (r:=R) (y:= .agg [aj a,aj f,aj a2,.str s,dx ys]) (y':= .agg [aj K,aj (K+1),aj (K+1+1),.str (bG (K+1+1+1)),dx Q.1]) (by simp[cP,dX,z]) (by rw[A0,A0];exact mc j n) (by simp only[c1,abo];exact N) rfl rfl ?_ (fun eQ O Y=>?_)
  ·rw[A0];simp only[aH,az,jf];exact n2 _ _ (by simp only[cP];exact⟨Ω,z⟩)
  ·skip;simp;(repeat' first|refine ao ?_|simp);refine bY.rng () hi ?_ ?_
   ·trivial
   rw[show(bD bG (xs.take (i+1)) k).2=Q.2 from m];refine S _ _ ?_ (fun k o h=>?_)
   ·simp[az,F]
   rw[c,lB Ψ]at h;simp only[ae]at h;split at h
   ·rename_i e;subst e;rw[O,<-h,<-P,<-yY j,<-LU (b+1+dc M) K (K+1) (K+1+1) (bG (K+1+1+1)),Hh u (by rw[A0,A0];exact mc j n),<-n7 bG xs k (i+1),c]
   ·exact Y k o h
def VH(xs:List af)(u:∀x∈xs,ui x)(k:Int)(b:Nat)(ε:Nat->Nat)(bA:0<=k)(ab:(bD bG xs k).2<=4611686018427387904):
  bH au 110 [dv b (bL (bD bG xs k).1),aj k] (c1 ε b (bL (bD bG xs k).1)) fun r ak=>r=aj (bD bG xs k).2/\ak=c1 ε b (bL (bD bG xs k).1):=by
 by_cases H:xs=[]
 ·subst H;exact aiT k b ε
 have oF:=wA bG (xs:=xs) k fun x h=>by obtain⟨a,bq,a2,s,ys,rfl,_⟩:=u x h;exact⟨_,_,_,rfl⟩
 obtain⟨P,N,g,f,B⟩:=HM bG k (sz:=5) ε b (yX u) Ω H;have w:=fun(t':List (Nat×af)) (st:bp)=>gp.to (t':=t') (st:=st) (ε:=ε) (b:=b) P rfl;refine bH.mk mixed a1 Tryz.func110 Zm Ψ N.obj fun aR c4=>?_;unfold Lb;rw[uB f,g];simp;(repeat' first|refine ao ?_|simp);refine fU (fun i (_:Unit)=>⟨[(0,.row 5 (.obj b) xs.length),(1,aj (bD bG (xs.take i) k).2),(5,aj i)],[],dR ε b (bL (bD bG xs k).1),0,cL (c1 ε b (bL (bD bG xs k).1))⟩) xs.length (fun _ _=>True) () ?_ trivial (fun _ _ _=>?_) (fun i _ hi _ _=>?_)
 ·refine w _ _ ?_ (fun k o h=>h);simp[az,B,bD]
 ·rw[jC];simp;(repeat' first|refine ao ?_|simp);refine c5.at (c1 ε b (bL (bD bG xs k).1)) Ψ N (oY rfl) (fun k cs h=>by simp[ae]at h) (fun k o h=>h) ?_;simp[dd,bc,bf,a6]
 ·obtain⟨x,cB,hm,J,U,m,F⟩:=u6 bG k hi;have c:=E7 bG k cB;generalize uH:(bD bG xs k).1=Y at*;have j:=lB (ε:=ε) (b:=b) (sz:=5) (t:= .no) f;rw[g]at j;rw[j];generalize eK:(bD bG (xs.take i) k).1=M at F c;generalize dk:(bD bG (xs.take i) k).2=K at m c J U⊢;obtain⟨a,bq,a2,s,ys,rfl,A⟩:=u x hm;rw[YR]at m c U;simp only at U;generalize (bD bG (xs.drop (i+1)) _).1=R at c;have d:=uA (b:=b+1) (r:=R) (x:= .agg [aj K,aj (K+1),aj (K+1+1),.str (bG (K+1+1+1)),dx (bD bG ys (K+1+1+1+1)).1]) F;rw[<-c,LU]at d;have p:(fL (b+1) Y).length=xs.length:=by rw[o5,g]
  generalize q:dv (b+1+dc M) (dx (bD bG ys (K+1+1+1+1)).1)=E at d;generalize W:fL (b+1) Y=X at d p j⊢;have iF:(K+1+1+1+1)<=(bD bG ys (K+1+1+1+1)).2:=mn ..;have G:=C4 (K+1+1+1) Ω;have z:∀h,(X[i]'h)= .agg [aj K,aj (K+1),aj (K+1+1),.str (bG (K+1+1+1)),E]:=fun h=>by rw[cl h]at d;exact e7 d
  clear d;have O:=aiX _ ys (dP _) A (K+1+1+1+1) (b+1+dc M) ε Ω Ω;have n:dX (bD bG ys (K+1+1+1+1)).1:=ra _ _ _ (jE.dtL A);generalize bD bG ys (K+1+1+1+1)=Q at n q O m c U iF;simp[hi,z,p];(repeat' first|refine ao ?_|refine aO G ?_|refine aP G ?_|simp[z,p,hi]);have Z:b7 E=E:=by rw[<-q];exact CV
  rw[Z];subst q;refine CallDo.subR (ε:=ε) (b:=b) (l:=M) (r:=R) (y:= .agg [aj K,aj (K+1),aj (K+1+1),.str (bG (K+1+1+1)),dx Q.1]) (y':= .agg [aj K,aj (K+1),aj (K+1+1),.str (bG (K+1+1+1)),dx Q.1]) (by simp[cP,dX,n]) rfl (by simp only[c1,abo];exact O) c rfl ?_ (fun eQ V L=>?_)
  ·rw[A0];simp only[aH,az,jf];exact n2 _ _ (by simp only[cP];exact⟨Ω,n⟩)
  ·skip;have v:¬(Q.2<0):=Ω
   simp[v];(repeat' first|refine ao ?_|simp[v]);refine bY.rng () hi ?_ ?_
   ·trivial
   rw[show(bD bG (xs.take (i+1)) k).2=Q.2 from m];have S:aB.obj b::(gP ε (b+1) Y).map (fun x=>x.1)=cL (c1 ε b (bL Y)):=by simp[lB f]
   rw[S,<-j];refine w _ _ ?_ (fun k o h=>?_)
   ·simp[az,B]
   rw[lB f,g,W]at h;simp only[ae]at h;split at h
   ·rename_i e;subst e;rw[V,<-h]
   ·rw[<-c]at L;exact L k o h
def Gj(x:af):Prop:= ∃(a:Int) (b:Int),x= .agg [aj a,aj b]
def YS(a:Int)(b:Int)(K:Int):dJ bG (.agg [aj a,aj b]) K=(.agg [aj K,aj (K+1)],K+1+1):=by simp[dJ,bD]
def Ha{xs:List af}(h:∀x∈xs,Gj x):dX xs:=A2.2 fun x b=>by obtain⟨a,c,rfl⟩:=h x b;simp[cP,dX]
def asZ(k:Int):bT au 108 [b5 [],aj k] (aj k):=by refine bI a1 Tryz.func108 Zw fun a=>?_;unfold Ll;simp;(repeat' first|refine ao ?_|simp);refine fU (fun i (_:Unit)=>⟨[(0,b5 []),(1,aj k),(5,aj i)],[],[],0,[]⟩) 0 (fun _ _=>True) () b9 trivial (fun _ _ _=>?_) (fun i _ hi _ _=>Ω);exact cn
def aja(k:Int)(b:Nat)(ε:Nat->Nat):bH au 108 [dv b (b5 []),aj k] (c1 ε b (b5 [])) fun r a=>r=aj k/\a=c1 ε b (b5 []):=asZ k
def asy(k:Int):bT au 112 [b5 [],aj k] (aj k):=by refine bI a1 Tryz.func112 Zq fun a=>?_;unfold Lf;simp;(repeat' first|refine ao ?_|simp);refine fU (fun i (_:Unit)=>⟨[(0,b5 []),(1,aj k),(5,aj i)],[],[],0,[]⟩) 0 (fun _ _=>True) () b9 trivial (fun _ _ _=>?_) (fun i _ hi _ _=>Ω);exact cn
def aiZ(k:Int)(b:Nat)(ε:Nat->Nat):bH au 112 [dv b (b5 []),aj k] (c1 ε b (b5 [])) fun r a=>r=aj k/\a=c1 ε b (b5 []):=asy k
def ai9(xs:List af)(s:∀x∈xs,Gj x)(k:Int)(b:Nat)(ε:Nat->Nat)(L:0<=k)(ab:(bD bG xs k).2<=4611686018427387904):
  bH au 108 [dv b (b5 xs),aj k] (c1 ε b (b5 xs)) fun r z=>r=aj (bD bG xs k).2/\z=c1 ε b (b5 (bD bG xs k).1):=by
 have B:dX xs:=Ha s;by_cases n:xs=[]
 ·subst n;exact aja k b ε
 have E:=wA bG (xs:=xs) k fun x h=>by obtain⟨a,d,rfl⟩:=s x h;exact⟨_,_,_,rfl⟩
 obtain⟨A,g,j,u⟩:=IY bG k (sz:=2) ε b B Ω n;refine bH.mk mixed a1 Tryz.func108 Zw Ψ A.obj fun N H=>?_;unfold Ll;rw[uB n];simp[-Rx];(repeat' first|refine ao ?_|simp[-Rx]);refine fU (fun i (_:Unit)=>⟨[(0,.row 2 (.obj b) xs.length),(1,aj (bD bG (xs.take i) k).2),(5,aj i)],[],dR ε b (b5 (k1 bG xs k i)),0,cL (c1 ε b (b5 xs))⟩) xs.length (fun _ _=>True) () ?_ trivial (fun _ _ _=>?_) (fun i _ hi _ _=>?_)
 ·refine gp.to (j _) (g _) ?_ (fun k o h=>by rw[E6]at h;exact h);simp[-Rx,az,u,bD]
 ·rw[p3,jC];simp[-Rx];(repeat' first|refine ao ?_|simp[-Rx]);refine c5.at (c1 ε b (b5 (bD bG xs k).1)) Ψ (ou (by rw[<-p3];exact j _)) (oY (by rw[<-p3];exact g _)) (fun k cs h=>by simp[-Rx,ae]at h) (fun k o h=>h) ?_;simp[-Rx,dd,bc,bf,a6]
 ·obtain⟨x,v,hm,J,U,p,m⟩:=u6 bG k hi;have e:=E4 bG k v;have c:=E5 bG k v;have y:=fun(t':List (Nat×af)) (st:bp)=>gp.to (t':=t') (st:=st) (ε:=ε) (b:=b) (j (i+1)) (g (i+1));have hlen:((bD bG (xs.take i) k).1++x::xs.drop (i+1)).length=xs.length:=by rw[<-e];exact n7 ..
  rw[e,lB (xs:=_++x::_) Ψ,hlen];generalize F:(bD bG (xs.take i) k).1=M at m e c⊢;generalize G:(bD bG (xs.take i) k).2=K at p c J U⊢;generalize bt:xs.drop (i+1)=R at e c⊢;obtain⟨a,d,rfl⟩:=s x hm;have f:=uA (b:=b+1) (r:=R) (x:= .agg [aj a,aj d]) m;have l:(fL (b+1) (M++ .agg [aj a,aj d]::R)).length=xs.length:=by rw[o5,<-e];exact n7 ..
  rw[YS]at p c U;generalize w:fL (b+1) (M++ .agg [aj a,aj d]::R)=X at f l⊢;simp only at U;have t:∀h,(X[i]'h)= .agg [aj a,aj d]:=fun h=>by rw[cl h]at f;exact e7 f
  clear f;simp[-Rx,hi,t,l];(repeat' first|refine ao ?_|simp[-Rx,t,l,hi]);refine bY.rng () hi ?_ ?_
  ·trivial
  rw[show(bD bG (xs.take (i+1)) k).2=K+1+1 from p];refine y _ _ ?_ (fun q o h=>?_)
  ·simp[-Rx,az,u]
  rw[c,lB Ψ]at h;have es:X.set i (.agg [aj K,aj (K+1)])=fL (b+1) (M++ .agg [aj K,aj (K+1)]::R):=by rw[<-w];exact Hh (x:= .agg [aj a,aj d]) (x':= .agg [aj K,aj (K+1)]) m rfl
  rw[es,<-n7 bG xs k (i+1),c];rw[FI]at h⊢;exact h
def aiY(xs:List af)(m:∀x∈xs,Gj x)(k:Int)(b:Nat)(ε:Nat->Nat)(O:0<=k)(ab:(bD bG xs k).2<=4611686018427387904):
  bH au 112 [dv b (b5 (bD bG xs k).1),aj k] (c1 ε b (b5 (bD bG xs k).1)) fun r B=>r=aj (bD bG xs k).2/\B=c1 ε b (b5 (bD bG xs k).1):=by
 by_cases u:xs=[]
 ·subst u;exact aiZ k b ε
 have F:=wA bG (xs:=xs) k fun x h=>by obtain⟨a,A,rfl⟩:=m x h;exact⟨_,_,_,rfl⟩
 obtain⟨w,v,g,f,q⟩:=HM bG k (sz:=2) ε b (Ha m) Ω u;have n:=fun(t':List (Nat×af)) (st:bp)=>gp.to (t':=t') (st:=st) (ε:=ε) (b:=b) w rfl;refine bH.mk mixed a1 Tryz.func112 Zq Ψ v.obj fun P N=>?_;unfold Lf;rw[uB f,g];simp[-Rx];(repeat' first|refine ao ?_|simp[-Rx]);refine fU (fun i (_:Unit)=>⟨[(0,.row 2 (.obj b) xs.length),(1,aj (bD bG (xs.take i) k).2),(5,aj i)],[],dR ε b (b5 (bD bG xs k).1),0,cL (c1 ε b (b5 (bD bG xs k).1))⟩) xs.length (fun _ _=>True) () ?_ trivial (fun _ _ _=>?_) (fun i _ hi _ _=>?_)
 ·refine n _ _ ?_ (fun k o h=>h);simp[-Rx,az,q,bD]
 ·rw[jC];simp[-Rx];(repeat' first|refine ao ?_|simp[-Rx]);refine c5.at (c1 ε b (b5 (bD bG xs k).1)) Ψ v (oY rfl) (fun k cs h=>by simp[-Rx,ae]at h) (fun k o h=>h) ?_;simp[-Rx,dd,bc,bf,a6]
 ·obtain⟨x,z,hm,J,U,l,s⟩:=u6 bG k hi;have d:=E7 bG k z;generalize E:(bD bG xs k).1=Y at*;have e:=lB (ε:=ε) (b:=b) (sz:=2) (t:= .no) f;rw[g]at e;rw[e];generalize H:(bD bG (xs.take i) k).1=M at s d;generalize L:(bD bG (xs.take i) k).2=K at l d J U⊢;obtain⟨a,A,rfl⟩:=m x hm;rw[YS]at l d U;simp only at U;generalize (bD bG (xs.drop (i+1)) _).1=R at d;have c:=uA (b:=b+1) (r:=R) (x:= .agg [aj K,aj (K+1)]) s;rw[<-d]at c;have j:(fL (b+1) Y).length=xs.length:=by rw[o5,g]
  generalize G:fL (b+1) Y=X at c j e⊢;have p:∀h,(X[i]'h)= .agg [aj K,aj (K+1)]:=fun h=>by rw[cl h]at c;exact e7 c
  clear c;simp[-Rx,hi,p,j];(repeat' first|refine ao ?_|simp[-Rx,p,j,hi]);refine bY.rng () hi ?_ ?_
  ·trivial
  rw[show(bD bG (xs.take (i+1)) k).2=K+1+1 from l];have y:aB.obj b::(gP ε (b+1) Y).map (fun x=>x.1)=cL (c1 ε b (b5 Y)):=by simp[-Rx,lB f]
  rw[y,<-e];refine n _ _ ?_ (fun k o h=>h)
  ·simp[-Rx,az,q]
def Gk(x:af):Prop:= ∃(a:Int) (s:List cJ),x= .agg [aj a,.str s]
def YT(a:Int)(s:List cJ)(K:Int):dJ bG (.agg [aj a,.str s]) K=(.agg [aj K,.str (bG (K+1))],K+1+1):=by simp[dJ,bD]
def Hb{xs:List af}(h:∀x∈xs,Gk x):dX xs:=A2.2 fun x b=>by obtain⟨a,s,rfl⟩:=h x b;simp[cP,dX]
def asX(k:Int):bT au 109 [b5 [],aj k] (aj k):=by refine bI a1 Tryz.func109 Zt fun a=>?_;unfold Li;simp;(repeat' first|refine ao ?_|simp);refine fU (fun i (_:Unit)=>⟨[(0,b5 []),(1,aj k),(5,aj i)],[],[],0,[]⟩) 0 (fun _ _=>True) () b9 trivial (fun _ _ _=>?_) (fun i _ hi _ _=>Ω);exact cn
def ai7(k:Int)(b:Nat)(ε:Nat->Nat):bH au 109 [dv b (b5 []),aj k] (c1 ε b (b5 [])) fun r a=>r=aj k/\a=c1 ε b (b5 []):=asX k
def asw(k:Int):bT au 113 [b5 [],aj k] (aj k):=by refine bI a1 Tryz.func113 Zo fun a=>?_;unfold Ld;simp;(repeat' first|refine ao ?_|simp);refine fU (fun i (_:Unit)=>⟨[(0,b5 []),(1,aj k),(5,aj i)],[],[],0,[]⟩) 0 (fun _ _=>True) () b9 trivial (fun _ _ _=>?_) (fun i _ hi _ _=>Ω);exact cn
def aiV(k:Int)(b:Nat)(ε:Nat->Nat):bH au 113 [dv b (b5 []),aj k] (c1 ε b (b5 [])) fun r a=>r=aj k/\a=c1 ε b (b5 []):=asw k
def ai6(xs:List af)(p:∀x∈xs,Gk x)(k:Int)(b:Nat)(ε:Nat->Nat)(N:0<=k)(ab:(bD bG xs k).2<=4611686018427387904):
  bH au 109 [dv b (b5 xs),aj k] (c1 ε b (b5 xs)) fun r A=>r=aj (bD bG xs k).2/\A=c1 ε b (b5 (bD bG xs k).1):=by
 have E:dX xs:=Hb p;by_cases m:xs=[]
 ·subst m;exact ai7 k b ε
 have F:=wA bG (xs:=xs) k fun x h=>by obtain⟨a,s,rfl⟩:=p x h;exact⟨_,_,_,rfl⟩
 obtain⟨B,f,g,u⟩:=IY bG k (sz:=2) ε b E Ω m;refine bH.mk mixed a1 Tryz.func109 Zt Ψ B.obj fun O L=>?_;unfold Li;rw[uB m];simp[-KR];(repeat' first|refine ao ?_|simp[-KR]);refine fU (fun i (_:Unit)=>⟨[(0,.row 2 (.obj b) xs.length),(1,aj (bD bG (xs.take i) k).2),(5,aj i)],[],dR ε b (b5 (k1 bG xs k i)),0,cL (c1 ε b (b5 xs))⟩) xs.length (fun _ _=>True) () ?_ trivial (fun _ _ _=>?_) (fun i _ hi _ _=>?_)
 ·refine gp.to (g _) (f _) ?_ (fun k o h=>by rw[E6]at h;exact h);simp[-KR,az,u,bD]
 ·rw[p3,jC];simp[-KR];(repeat' first|refine ao ?_|simp[-KR]);refine c5.at (c1 ε b (b5 (bD bG xs k).1)) Ψ (ou (by rw[<-p3];exact g _)) (oY (by rw[<-p3];exact f _)) (fun k cs h=>by simp[-KR,ae]at h) (fun k o h=>h) ?_;simp[-KR,dd,bc,bf,a6]
 ·obtain⟨x,w,hm,J,U,n,l⟩:=u6 bG k hi;have d:=E4 bG k w;have c:=E5 bG k w;have z:=fun(t':List (Nat×af)) (st:bp)=>gp.to (t':=t') (st:=st) (ε:=ε) (b:=b) (g (i+1)) (f (i+1));have hlen:((bD bG (xs.take i) k).1++x::xs.drop (i+1)).length=xs.length:=by rw[<-d];exact n7 ..
  rw[d,lB (xs:=_++x::_) Ψ,hlen];generalize G:(bD bG (xs.take i) k).1=M at l d c⊢;generalize H:(bD bG (xs.take i) k).2=K at n c J U⊢;generalize bt:xs.drop (i+1)=R at d c⊢;obtain⟨a,s,rfl⟩:=p x hm;have e:=uA (b:=b+1) (r:=R) (x:= .agg [aj a,.str s]) l;have j:(fL (b+1) (M++ .agg [aj a,.str s]::R)).length=xs.length:=by rw[o5,<-d];exact n7 ..
  rw[YT]at n c U;generalize y:fL (b+1) (M++ .agg [aj a,.str s]::R)=X at e j⊢;simp only at U;have v:=C4 (K+1) Ω;have t:∀h,(X[i]'h)= .agg [aj a,.str s]:=fun h=>by rw[cl h]at e;exact e7 e
  clear e;simp[-KR,hi,t,j];(repeat' first|refine ao ?_|refine aO v ?_|refine aP v ?_|simp[-KR,t,j,hi]);refine bY.rng () hi ?_ ?_
  ·trivial
  rw[show(bD bG (xs.take (i+1)) k).2=K+1+1 from n];refine z _ _ ?_ (fun q o h=>?_)
  ·simp[-KR,az,u]
  rw[c,lB Ψ]at h;have es:X.set i (.agg [aj K,.str (bG (K+1))])=fL (b+1) (M++ .agg [aj K,.str (bG (K+1))]::R):=by rw[<-y];exact Hh (x:= .agg [aj a,.str s]) (x':= .agg [aj K,.str (bG (K+1))]) l rfl
  rw[es,<-n7 bG xs k (i+1),c];rw[FI]at h⊢;exact h
def aiU(xs:List af)(m:∀x∈xs,Gk x)(k:Int)(b:Nat)(ε:Nat->Nat)(P:0<=k)(ab:(bD bG xs k).2<=4611686018427387904):
  bH au 113 [dv b (b5 (bD bG xs k).1),aj k] (c1 ε b (b5 (bD bG xs k).1)) fun r E=>r=aj (bD bG xs k).2/\E=c1 ε b (b5 (bD bG xs k).1):=by
 by_cases w:xs=[]
 ·subst w;exact aiV k b ε
 have G:=wA bG (xs:=xs) k fun x h=>by obtain⟨a,s,rfl⟩:=m x h;exact⟨_,_,_,rfl⟩
 obtain⟨z,y,g,f,q⟩:=HM bG k (sz:=2) ε b (Hb m) Ω w;have n:=fun(t':List (Nat×af)) (st:bp)=>gp.to (t':=t') (st:=st) (ε:=ε) (b:=b) z rfl;refine bH.mk mixed a1 Tryz.func113 Zo Ψ y.obj fun Q O=>?_;unfold Ld;rw[uB f,g];simp[-KR];(repeat' first|refine ao ?_|simp[-KR]);refine fU (fun i (_:Unit)=>⟨[(0,.row 2 (.obj b) xs.length),(1,aj (bD bG (xs.take i) k).2),(5,aj i)],[],dR ε b (b5 (bD bG xs k).1),0,cL (c1 ε b (b5 (bD bG xs k).1))⟩) xs.length (fun _ _=>True) () ?_ trivial (fun _ _ _=>?_) (fun i _ hi _ _=>?_)
 ·refine n _ _ ?_ (fun k o h=>h);simp[-KR,az,q,bD]
 ·rw[jC];simp[-KR];(repeat' first|refine ao ?_|simp[-KR]);refine c5.at (c1 ε b (b5 (bD bG xs k).1)) Ψ y (oY rfl) (fun k cs h=>by simp[-KR,ae]at h) (fun k o h=>h) ?_;simp[-KR,dd,bc,bf,a6]
 ·obtain⟨x,B,hm,J,U,l,u⟩:=u6 bG k hi;have d:=E7 bG k B;generalize F:(bD bG xs k).1=Y at*;have e:=lB (ε:=ε) (b:=b) (sz:=2) (t:= .no) f;rw[g]at e;rw[e];generalize L:(bD bG (xs.take i) k).1=M at u d;generalize N:(bD bG (xs.take i) k).2=K at l d J U⊢;obtain⟨a,s,rfl⟩:=m x hm;rw[YT]at l d U;simp only at U;generalize (bD bG (xs.drop (i+1)) _).1=R at d;have c:=uA (b:=b+1) (r:=R) (x:= .agg [aj K,.str (bG (K+1))]) u;rw[<-d]at c;have j:(fL (b+1) Y).length=xs.length:=by rw[o5,g]
  generalize H:fL (b+1) Y=X at c j e⊢;have v:=C4 (K+1) Ω;have p:∀h,(X[i]'h)= .agg [aj K,.str (bG (K+1))]:=fun h=>by rw[cl h]at c;exact e7 c
  clear c;simp[-KR,hi,p,j];(repeat' first|refine ao ?_|refine aO v ?_|refine aP v ?_|simp[-KR,p,j,hi]);refine bY.rng () hi ?_ ?_
  ·trivial
  rw[show(bD bG (xs.take (i+1)) k).2=K+1+1 from l];have A:aB.obj b::(gP ε (b+1) Y).map (fun x=>x.1)=cL (c1 ε b (b5 Y)):=by simp[-KR,lB f]
  rw[A,<-e];refine n _ _ ?_ (fun k o h=>h)
  ·simp[-KR,az,q]
def He{xs:List af}(c:∀x∈xs,∃a,x=bL a/\∀y∈a,ui y):dX xs:=A2.2 fun x h=>by obtain⟨a,rfl,b⟩:=c x h;simp only[cP];exact⟨Ω,yX b⟩
def asV(k:Int):bT au 107 [cX [],aj k] (aj k):=by refine bI a1 Tryz.func107 Zs fun a=>?_;unfold Lh;simp;(repeat' first|refine ao ?_|simp);refine fU (fun i (_:Unit)=>⟨[(0,cX []),(1,aj k),(5,aj i)],[],[],0,[]⟩) 0 (fun _ _=>True) () b9 trivial (fun _ _ _=>?_) (fun i _ hi _ _=>Ω);exact cn
def ai4(k:Int)(b:Nat)(ε:Nat->Nat):bH au 107 [dv b (cX []),aj k] (c1 ε b (cX [])) fun r a=>r=aj k/\a=c1 ε b (cX []):=asV k
def asu(k:Int):bT au 111 [cX [],aj k] (aj k):=by refine bI a1 Tryz.func111 Zn fun a=>?_;unfold Lc;simp;(repeat' first|refine ao ?_|simp);refine fU (fun i (_:Unit)=>⟨[(0,cX []),(1,aj k),(5,aj i)],[],[],0,[]⟩) 0 (fun _ _=>True) () b9 trivial (fun _ _ _=>?_) (fun i _ hi _ _=>Ω);exact cn
def aiS(k:Int)(b:Nat)(ε:Nat->Nat):bH au 111 [dv b (cX []),aj k] (c1 ε b (cX [])) fun r a=>r=aj k/\a=c1 ε b (cX []):=asu k
def ai3(xs:List af)(H:∀x∈xs,∃a,x=bL a/\∀y∈a,ui y)(oF:xs.length<=4611686018427387904)(k:Int)(b:Nat)(ε:Nat->Nat)(bA:0<=k)(ab:(bD bG xs k).2<=4611686018427387904):
  bH au 107 [dv b (cX xs),aj k] (c1 ε b (cX xs)) fun r Y=>r=aj (bD bG xs k).2/\Y=c1 ε b (cX (bD bG xs k).1):=by
 have aL:dX xs:=He H;by_cases t:xs=[]
 ·subst t;exact ai4 k b ε
 obtain⟨Z,p,q,B⟩:=IY bG k (sz:=1) ε b aL Ω t;refine bH.mk mixed a1 Tryz.func107 Zs Ψ Z.obj fun aR c4=>?_;unfold Lh;rw[uB t];simp;(repeat' first|refine ao ?_|simp);refine fU (fun i (_:Unit)=>⟨[(0,.row 1 (.obj b) xs.length),(1,aj (bD bG (xs.take i) k).2),(5,aj i)],[],dR ε b (cX (k1 bG xs k i)),0,cL (c1 ε b (cX xs))⟩) xs.length (fun _ _=>True) () ?_ trivial (fun _ _ _=>?_) (fun i _ hi _ _=>?_)
 ·refine gp.to (q _) (p _) ?_ (fun k o h=>by rw[E6]at h;exact h);simp[az,B,bD]
 ·rw[p3,jC];simp;(repeat' first|refine ao ?_|simp);refine c5.at (c1 ε b (cX (bD bG xs k).1)) Ψ (ou (by rw[<-p3];exact q _)) (oY (by rw[<-p3];exact p _)) (fun k cs h=>by simp[ae]at h) (fun k o h=>h) ?_;simp[dd,bc,bf,a6]
 ·obtain⟨x,G,hm,J,U,m,F⟩:=u6 bG k hi;have f:=E4 bG k G;have c:=E5 bG k G;have P:=fun(t':List (Nat×af)) (st:bp)=>gp.to (t':=t') (st:=st) (ε:=ε) (b:=b) (q (i+1)) (p (i+1));have hlen:((bD bG (xs.take i) k).1++x::xs.drop (i+1)).length=xs.length:=by rw[<-f];exact n7 ..
  rw[f,lB (xs:=_++x::_) Ψ,hlen];generalize eK:(bD bG (xs.take i) k).1=M at F f c⊢;generalize dk:(bD bG (xs.take i) k).2=K at m c J U⊢;generalize bt:xs.drop (i+1)=R at f c⊢;obtain⟨a,rfl,w⟩:=H x hm;have d:=uA (b:=b+1) (r:=R) (x:=bL a) F;have s:(fL (b+1) (M++bL a::R)).length=xs.length:=by rw[o5,<-f];exact n7 ..
  simp only[dJ]at m c U;generalize j:dv (b+1+dc M) (bL a)=E at d;generalize O:fL (b+1) (M++bL a::R)=X at d s⊢;have V:K<=(bD bG a K).2:=mn ..;have A:∀h,(X[i]'h)=E:=fun h=>by rw[cl h]at d;exact e7 d
  clear d;have L:=VM a w K (b+1+dc M) ε Ω Ω;have z:dX a:=yX w;have g:(bD bG a K).1.length=a.length:=kL ..;have n:dc (bD bG a K).1=dc a:=mC ..;generalize bD bG a K=Q at g n L m c U V;have u:cells E=[E]:=by rw[<-j];exact T5
  have v:eU E=true:=by rw[<-j];exact abG
  simp[hi,A,s,u,v];(repeat' first|refine ao ?_|simp[A,s,hi,u,v]);have S:b7 E=E:=by rw[<-j];exact CV
  rw[S];subst j;refine CallDo.subR (ε:=ε) (b:=b) (l:=M) (r:=R) (y:=bL a) (y':=bL Q.1) (by simp only[cP];exact⟨Ω,z⟩) (mc g n) L rfl rfl ?_ (fun eQ N W=>?_)
  ·simp only[aH,az,jf];exact n2 _ _ (by simp only[cP];exact⟨Ω,z⟩)
  ·skip;simp;(repeat' first|refine ao ?_|simp);refine bY.rng () hi ?_ ?_
   ·trivial
   rw[show(bD bG (xs.take (i+1)) k).2=Q.2 from m];refine P _ _ ?_ (fun k o h=>?_)
   ·simp[az,B]
   rw[c,lB Ψ]at h;simp only[ae]at h;split at h
   ·rename_i e;subst e;rw[N,<-h,<-O,<-afo (yY g) (mc g n),<-n7 bG xs k (i+1),c]
   ·exact W k o h
def aiR(xs:List af)(N:∀x∈xs,∃a,x=bL a/\∀y∈a,ui y)(oF:xs.length<=4611686018427387904)(k:Int)(b:Nat)(ε:Nat->Nat)(bA:0<=k)(ab:(bD bG xs k).2<=4611686018427387904):
  bH au 111 [dv b (cX (bD bG xs k).1),aj k] (c1 ε b (cX (bD bG xs k).1)) fun r ak=>r=aj (bD bG xs k).2/\ak=c1 ε b (cX (bD bG xs k).1):=by
 by_cases G:xs=[]
 ·subst G;exact aiS k b ε
 obtain⟨P,L,j,g,B⟩:=HM bG k (sz:=1) ε b (He N) Ω G;have z:=fun(t':List (Nat×af)) (st:bp)=>gp.to (t':=t') (st:=st) (ε:=ε) (b:=b) P rfl;refine bH.mk mixed a1 Tryz.func111 Zn Ψ L.obj fun aR c4=>?_;unfold Lc;rw[uB g,j];simp;(repeat' first|refine ao ?_|simp);refine fU (fun i (_:Unit)=>⟨[(0,.row 1 (.obj b) xs.length),(1,aj (bD bG (xs.take i) k).2),(5,aj i)],[],dR ε b (cX (bD bG xs k).1),0,cL (c1 ε b (cX (bD bG xs k).1))⟩) xs.length (fun _ _=>True) () ?_ trivial (fun _ _ _=>?_) (fun i _ hi _ _=>?_)
 ·refine z _ _ ?_ (fun k o h=>h);simp[az,B,bD]
 ·rw[jC];simp;(repeat' first|refine ao ?_|simp);refine c5.at (c1 ε b (cX (bD bG xs k).1)) Ψ L (oY rfl) (fun k cs h=>by simp[ae]at h) (fun k o h=>h) ?_;simp[dd,bc,bf,a6]
 ·obtain⟨x,cB,hm,J,U,n,F⟩:=u6 bG k hi;have c:=E7 bG k cB;generalize uH:(bD bG xs k).1=Y at*;have m:=lB (ε:=ε) (b:=b) (sz:=1) (t:= .no) g;rw[j]at m;rw[m];generalize eK:(bD bG (xs.take i) k).1=M at F c;generalize dk:(bD bG (xs.take i) k).2=K at n c J U⊢;obtain⟨a,rfl,w⟩:=N x hm;simp only[dJ]at n c U;generalize (bD bG (xs.drop (i+1)) _).1=R at c;have d:=uA (b:=b+1) (r:=R) (x:=bL (bD bG a K).1) F;rw[<-c]at d;have q:(fL (b+1) Y).length=xs.length:=by rw[o5,j]
  generalize f:dv (b+1+dc M) (bL (bD bG a K).1)=E at d;generalize W:fL (b+1) Y=X at d q m⊢;have iF:K<=(bD bG a K).2:=mn ..;have A:∀h,(X[i]'h)=E:=fun h=>by rw[cl h]at d;exact e7 d
  clear d;have O:=VH a w K (b+1+dc M) ε Ω Ω;have p:dX (bD bG a K).1:=ra _ _ _ (yX w);generalize bD bG a K=Q at p f O n c U iF;have s:cells E=[E]:=by rw[<-f];exact T5
  have v:eU E=true:=by rw[<-f];exact abG
  simp[hi,A,q,s,v];(repeat' first|refine ao ?_|simp[A,q,hi,s,v]);have Z:b7 E=E:=by rw[<-f];exact CV
  rw[Z];subst f;refine CallDo.subR (ε:=ε) (b:=b) (l:=M) (r:=R) (y:=bL Q.1) (y':=bL Q.1) (by simp only[cP];exact⟨Ω,p⟩) rfl O c rfl ?_ (fun eQ V H=>?_)
  ·simp only[aH,az,jf];exact n2 _ _ (by simp only[cP];exact⟨Ω,p⟩)
  ·skip;have u:¬(Q.2<0):=Ω
   simp[u];(repeat' first|refine ao ?_|simp[u]);refine bY.rng () hi ?_ ?_
   ·trivial
   rw[show(bD bG (xs.take (i+1)) k).2=Q.2 from n];have S:aB.obj b::(gP ε (b+1) Y).map (fun x=>x.1)=cL (c1 ε b (cX Y)):=by simp[lB g]
   rw[S,<-m];refine z _ _ ?_ (fun k o h=>?_)
   ·simp[az,B]
   rw[lB g,j,W]at h;simp only[ae]at h;split at h
   ·rename_i e;subst e;rw[V,<-h]
   ·rw[<-c]at H;exact H k o h
def ai8(a br:Int)(s:List cJ)(ys:List af)(i:∀y∈ys,jE y)(k:Int)(b:Nat)(ε:Nat->Nat)(m:0<=k)(ab:(bD bG ys k).2<=4611686018427387904):
  bH au 23 [dv b (.agg [aj a,aj br,.str s,dx ys]),aj k] (c1 ε b (.agg [aj a,aj br,.str s,dx ys])) fun r f=>r=aj (bD bG ys k).2/\f=c1 ε b (.agg [aj a,aj br,.str s,dx (bD bG ys k).1]):=by
 have l:dX ys:=jE.dtL i;have d:cP (dx ys):=by simp only[cP];exact⟨Ω,l⟩
 have e:cP (dx (bD bG ys k).1):=Uw bG (dx ys) k d;have j:=VO _ ys (dP _) i k b ε m ab;have c:bF (dx (bD bG ys k).1)=bF (dx ys):=mc (kL ..) (mC ..);simp only[c1,P6];rw[DF];have g:eA (c1 ε b (dx ys)):=ou d;generalize bD bG ys k=Q at j c e;refine bH.mk mixed a1 Tryz.func23 aom Ψ g.obj fun p n=>?_;unfold SY;simp;(repeat' first|refine ao ?_|simp);refine CallDo.ob j g (fun k cs h=>by simp[ae]at h) (fun k o h=>?_) ?_ ?_
 ·exact h
 ·simp only[aH,jf];exact⟨adD d,by simp[az]⟩
 rintro r f ⟨rfl,rfl⟩;refine⟨oY c,?_⟩;simp;(repeat' first|refine ao ?_|simp);refine c5.at (c1 ε b (dx Q.1)) Ψ (ou e) (oY c) (fun k cs h=>by simp[ae]at h) (fun k o h=>?_) ?_
 ·rw[hK];exact h
 simp[dd,bc,bf,a6]
structure AF (B aY K M:List af):Prop where
 b:∀x∈B,ui x
 d:∀x∈aY,∃dC,x=bL dC/\∀y∈dC,ui y
 k:∀x∈K,Gj x
 m:∀x∈M,Gk x
 l:aY.length<=4611686018427387904
abbrev kM(n:Int)(B aY K M:List af):af:= .agg [aj n,bL B,cX aY,b5 K,b5 M]
def eh(B:List af)(k:Int):=bD bG B k
def eS(B aY:List af)(k:Int):=bD bG aY (eh B k).2
def fG(B aY K:List af)(k:Int):=bD bG K (eS B aY k).2
def gG(B aY K M:List af)(k:Int):=bD bG M (fG B aY K k).2
def A4(b:Nat)(n:Int)(B aY K M:List af):dv b (kM n B aY K M)= .agg [aj n,dv b (bL B),dv (b+bF (bL B)) (cX aY),dv (b+bF (bL B)+bF (cX aY)) (b5 K),dv (b+bF (bL B)+bF (cX aY)+bF (b5 K)) (b5 M)]:=rfl
def Hc{n:Int}{B aY K M:List af}(h:AF B aY K M):cP (kM n B aY K M):=by simp only[cP,dX,jf,true_and];exact⟨⟨Ω,yX h.b⟩,⟨Ω,He h.d⟩,⟨Ω,Ha h.k⟩,Ω,Hb h.m⟩
def Hd{n:Int}{B aY K M:List af}(h:AF B aY K M)(k:Int):cP (kM n (eh B k).1 (eS B aY k).1 (fG B aY K k).1 (gG B aY K M k).1):=by simp only[cP,dX,jf,true_and];exact⟨⟨Ω,ra _ _ _ (yX h.b)⟩,⟨Ω,ra _ _ _ (He h.d)⟩,⟨Ω,ra _ _ _ (Ha h.k)⟩,Ω,ra _ _ _ (Hb h.m)⟩
def G4(n:Int)(B aY K M:List af):bF (kM n B aY K M)=bF (bL B)+bF (cX aY)+bF (b5 K)+bF (b5 M):=by show 0+(bF (bL B)+(bF (cX aY)+(bF (b5 K)+(bF (b5 M)+0))))=_;omega
def VN(n:Int){B aY K M:List af}(h:AF B aY K M)(k:Int)(b:Nat)(ε:Nat->Nat)(S:0<=k)(ab:(gG B aY K M k).2<=4611686018427387904):
  bH au 44 [dv b (kM n B aY K M),aj k] (c1 ε b (kM n B aY K M)) fun r a=>r=aj (gG B aY K M k).2/\a=c1 ε b (kM n (eh B k).1 (eS B aY k).1 (fG B aY K k).1 (gG B aY K M k).1):=by
 have V:k<=(eh B k).2:=mn ..;have R:(eh B k).2<=(eS B aY k).2:=mn ..;have P:(eS B aY k).2<=(fG B aY K k).2:=mn ..;have O:(fG B aY K k).2<=(gG B aY K M k).2:=mn ..;have d0:cP (kM n B aY K M):=Hc h;have d5:cP (kM n (eh B k).1 (eS B aY k).1 (fG B aY K k).1 (gG B aY K M k).1):=Hd h k;have x:eA (c1 ε b (kM n B aY K M)):=ou d0;have w:bF (bL (eh B k).1)=bF (bL B):=mc (kL ..) (mC ..);have v:bF (cX (eS B aY k).1)=bF (cX aY):=mc (kL ..) (mC ..);have u:bF (b5 (fG B aY K k).1)=bF (b5 K):=mc (kL ..) (mC ..);have q:bF (b5 (gG B aY K M k).1)=bF (b5 M):=mc (kL ..) (mC ..);have f1:bH au 106 [dv (b) (bL B),aj k] (c1 ε (b) (bL B)) fun r a=>r=aj (eh B k).2/\a=c1 ε (b) (bL (eh B k).1):=VM B h.b k (b) ε Ω (show(eh B k).2<=_ by omega);have f2:bH au 107 [dv (b+bF (bL B)) (cX aY),aj (eh B k).2] (c1 ε (b+bF (bL B)) (cX aY)) fun r a=>r=aj (eS B aY k).2/\a=c1 ε (b+bF (bL B)) (cX (eS B aY k).1):=ai3 aY h.d h.l (eh B k).2 (b+bF (bL B)) ε Ω (show(eS B aY k).2<=_ by omega);have f3:bH au 108 [dv (b+bF (bL B)+bF (cX aY)) (b5 K),aj (eS B aY k).2] (c1 ε (b+bF (bL B)+bF (cX aY)) (b5 K)) fun r a=>r=aj (fG B aY K k).2/\a=c1 ε (b+bF (bL B)+bF (cX aY)) (b5 (fG B aY K k).1):=ai9 K h.k (eS B aY k).2 (b+bF (bL B)+bF (cX aY)) ε Ω (show(fG B aY K k).2<=_ by omega);have f4:bH au 109 [dv (b+bF (bL B)+bF (cX aY)+bF (b5 K)) (b5 M),aj (fG B aY K k).2] (c1 ε (b+bF (bL B)+bF (cX aY)+bF (b5 K)) (b5 M)) fun r a=>r=aj (gG B aY K M k).2/\a=c1 ε (b+bF (bL B)+bF (cX aY)+bF (b5 K)) (b5 (gG B aY K M k).1):=ai6 M h.m (fG B aY K k).2 (b+bF (bL B)+bF (cX aY)+bF (b5 K)) ε Ω (show(gG B aY K M k).2<=_ by omega);have j:cP (bL B):=by simp only[cP,dX]at d0;exact d0.2.1
 have m:cP (cX aY):=by simp only[cP,dX]at d0;exact d0.2.2.1
 have f:cP (b5 K):=by simp only[cP,dX]at d0;exact d0.2.2.2.1
 have i:cP (b5 M):=by simp only[cP,dX]at d0;exact d0.2.2.2.2.1
 refine bH.mk mixed a1 Tryz.func44 aol Ψ x.obj fun U Q=>?_;unfold SX;rw[A4];simp;(repeat' first|refine ao ?_|simp);have e:b+dc [aj n]=b:=by show b+(0+0)=_;omega
 refine CallDo.sub (ε:=ε) (b:=b) (l:=[aj n]) (r:=[cX aY,b5 K,b5 M]) (y:=bL B) (y':=bL (eh B k).1) j w (by rw[e];exact f1) (fun k o h=>?_) ?_ (fun J s N=>?_)
 ·exact h
 ·simp only[aH,jf];rw[e];exact⟨n2 _ _ j,by simp[az]⟩
 simp;(repeat' first|refine ao ?_|simp);have g:b+dc [aj n,bL (eh B k).1]=b+bF (bL B):=by show b+(0+(bF (bL (eh B k).1)+0))=_;omega
 refine CallDo.sub (ε:=ε) (b:=b) (l:=[aj n,bL (eh B k).1]) (r:=[b5 K,b5 M]) (y:=cX aY) (y':=cX (eS B aY k).1) m v (by rw[g];exact f2) (fun k o h=>?_) ?_ (fun E t L=>?_)
 ·exact s k o h
 ·simp only[aH,jf];rw[g];exact⟨n2 _ _ m,by simp[az]⟩
 simp;(repeat' first|refine ao ?_|simp);have d:b+dc [aj n,bL (eh B k).1,cX (eS B aY k).1]=b+bF (bL B)+bF (cX aY):=by show b+(0+(bF (bL (eh B k).1)+(bF (cX (eS B aY k).1)+0)))=_;omega
 refine CallDo.sub (ε:=ε) (b:=b) (l:=[aj n,bL (eh B k).1,cX (eS B aY k).1]) (r:=[b5 M]) (y:=b5 K) (y':=b5 (fG B aY K k).1) f u (by rw[d];exact f3) (fun k o h=>?_) ?_ (fun A p H=>?_)
 ·exact t k o h
 ·simp only[aH,jf];rw[d];exact⟨n2 _ _ f,by simp[az]⟩
 simp;(repeat' first|refine ao ?_|simp);have c:b+dc [aj n,bL (eh B k).1,cX (eS B aY k).1,b5 (fG B aY K k).1]=b+bF (bL B)+bF (cX aY)+bF (b5 K):=by show b+(0+(bF (bL (eh B k).1)+(bF (cX (eS B aY k).1)+(bF (b5 (fG B aY K k).1)+0))))=_;omega
 refine CallDo.sub (ε:=ε) (b:=b) (l:=[aj n,bL (eh B k).1,cX (eS B aY k).1,b5 (fG B aY K k).1]) (r:=[]) (y:=b5 M) (y':=b5 (gG B aY K M k).1) i q (by rw[c];exact f4) (fun k o h=>?_) ?_ (fun z F G=>?_)
 ·exact p k o h
 ·simp only[aH,jf];rw[c];exact⟨n2 _ _ i,by simp[az]⟩
 simp;(repeat' first|refine ao ?_|simp);refine c5.at (c1 ε b (kM n (eh B k).1 (eS B aY k).1 (fG B aY K k).1 (gG B aY K M k).1)) Ψ (ou d5) (oY (by rw[G4,G4];omega)) (fun k cs h=>by simp[ae]at h) (fun k o h=>?_) ?_
 ·exact F k o h
 simp[dd,bc,bf,a6]
def aiW(n:Int){B aY K M:List af}(h:AF B aY K M)(k:Int)(b:Nat)(ε:Nat->Nat)(X:0<=k)(ab:(gG B aY K M k).2<=4611686018427387904):
  bH au 45 [dv b (kM n (eh B k).1 (eS B aY k).1 (fG B aY K k).1 (gG B aY K M k).1),aj k] (c1 ε b (kM n (eh B k).1 (eS B aY k).1 (fG B aY K k).1 (gG B aY K M k).1)) fun r a=>r=aj (gG B aY K M k).2/\a=c1 ε b (kM n (eh B k).1 (eS B aY k).1 (fG B aY K k).1 (gG B aY K M k).1):=by
 have Z:k<=(eh B k).2:=mn ..;have W:(eh B k).2<=(eS B aY k).2:=mn ..;have U:(eS B aY k).2<=(fG B aY K k).2:=mn ..;have S:(fG B aY K k).2<=(gG B aY K M k).2:=mn ..;have d0:cP (kM n (eh B k).1 (eS B aY k).1 (fG B aY K k).1 (gG B aY K M k).1):=Hd h k;have d5:cP (kM n (eh B k).1 (eS B aY k).1 (fG B aY K k).1 (gG B aY K M k).1):=Hd h k;have F:eA (c1 ε b (kM n (eh B k).1 (eS B aY k).1 (fG B aY K k).1 (gG B aY K M k).1)):=ou d0;have E:bF (bL (eh B k).1)=bF (bL (eh B k).1):=rfl;have A:bF (cX (eS B aY k).1)=bF (cX (eS B aY k).1):=rfl;have z:bF (b5 (fG B aY K k).1)=bF (b5 (fG B aY K k).1):=rfl;have v:bF (b5 (gG B aY K M k).1)=bF (b5 (gG B aY K M k).1):=rfl;have f1:bH au 110 [dv (b) (bL (eh B k).1),aj k] (c1 ε (b) (bL (eh B k).1)) fun r a=>r=aj (eh B k).2/\a=c1 ε (b) (bL (eh B k).1):=VH B h.b k (b) ε Ω (show(eh B k).2<=_ by omega);have f2:bH au 111 [dv (b+bF (bL (eh B k).1)) (cX (eS B aY k).1),aj (eh B k).2] (c1 ε (b+bF (bL (eh B k).1)) (cX (eS B aY k).1)) fun r a=>r=aj (eS B aY k).2/\a=c1 ε (b+bF (bL (eh B k).1)) (cX (eS B aY k).1):=aiR aY h.d h.l (eh B k).2 (b+bF (bL (eh B k).1)) ε Ω (show(eS B aY k).2<=_ by omega);have f3:bH au 112 [dv (b+bF (bL (eh B k).1)+bF (cX (eS B aY k).1)) (b5 (fG B aY K k).1),aj (eS B aY k).2] (c1 ε (b+bF (bL (eh B k).1)+bF (cX (eS B aY k).1)) (b5 (fG B aY K k).1)) fun r a=>r=aj (fG B aY K k).2/\a=c1 ε (b+bF (bL (eh B k).1)+bF (cX (eS B aY k).1)) (b5 (fG B aY K k).1):=aiY K h.k (eS B aY k).2 (b+bF (bL (eh B k).1)+bF (cX (eS B aY k).1)) ε Ω (show(fG B aY K k).2<=_ by omega);have f4:bH au 113 [dv (b+bF (bL (eh B k).1)+bF (cX (eS B aY k).1)+bF (b5 (fG B aY K k).1)) (b5 (gG B aY K M k).1),aj (fG B aY K k).2] (c1 ε (b+bF (bL (eh B k).1)+bF (cX (eS B aY k).1)+bF (b5 (fG B aY K k).1)) (b5 (gG B aY K M k).1)) fun r a=>r=aj (gG B aY K M k).2/\a=c1 ε (b+bF (bL (eh B k).1)+bF (cX (eS B aY k).1)+bF (b5 (fG B aY K k).1)) (b5 (gG B aY K M k).1):=aiU M h.m (fG B aY K k).2 (b+bF (bL (eh B k).1)+bF (cX (eS B aY k).1)+bF (b5 (fG B aY K k).1)) ε Ω (show(gG B aY K M k).2<=_ by omega);have s:cP (bL (eh B k).1):=by simp only[cP,dX]at d0;exact d0.2.1
 have t:cP (cX (eS B aY k).1):=by simp only[cP,dX]at d0;exact d0.2.2.1
 have m:cP (b5 (fG B aY K k).1):=by simp only[cP,dX]at d0;exact d0.2.2.2.1
 have q:cP (b5 (gG B aY K M k).1):=by simp only[cP,dX]at d0;exact d0.2.2.2.2.1
 have e:¬((eh B k).2<0):=Ω
 have f:¬((eS B aY k).2<0):=Ω
 have d:¬((fG B aY K k).2<0):=Ω
 have c:¬((gG B aY K M k).2<0):=Ω
 refine bH.mk mixed a1 Tryz.func45 aok Ψ F.obj fun Y V=>?_;unfold SV;rw[A4];simp;(repeat' first|refine ao ?_|simp);have j:b+dc [aj n]=b:=by show b+(0+0)=_;omega
 refine CallDo.sub (ε:=ε) (b:=b) (l:=[aj n]) (r:=[cX (eS B aY k).1,b5 (fG B aY K k).1,b5 (gG B aY K M k).1]) (y:=bL (eh B k).1) (y':=bL (eh B k).1) s E (by rw[j];exact f1) (fun k o h=>?_) ?_ (fun P w R=>?_)
 ·exact h
 ·simp only[aH,jf];rw[j];exact⟨n2 _ _ s,by simp[az]⟩
 simp[e,f,d,c];(repeat' first|refine ao ?_|simp[e,f,d,c]);have p:b+dc [aj n,bL (eh B k).1]=b+bF (bL (eh B k).1):=by show b+(0+(bF (bL (eh B k).1)+0))=_;omega
 refine CallDo.sub (ε:=ε) (b:=b) (l:=[aj n,bL (eh B k).1]) (r:=[b5 (fG B aY K k).1,b5 (gG B aY K M k).1]) (y:=cX (eS B aY k).1) (y':=cX (eS B aY k).1) t A (by rw[p];exact f2) (fun k o h=>?_) ?_ (fun J x Q=>?_)
 ·exact w k o h
 ·simp only[aH,jf];rw[p];exact⟨n2 _ _ t,by simp[az]⟩
 simp[e,f,d,c];(repeat' first|refine ao ?_|simp[e,f,d,c]);have i:b+dc [aj n,bL (eh B k).1,cX (eS B aY k).1]=b+bF (bL (eh B k).1)+bF (cX (eS B aY k).1):=by show b+(0+(bF (bL (eh B k).1)+(bF (cX (eS B aY k).1)+0)))=_;omega
 refine CallDo.sub (ε:=ε) (b:=b) (l:=[aj n,bL (eh B k).1,cX (eS B aY k).1]) (r:=[b5 (gG B aY K M k).1]) (y:=b5 (fG B aY K k).1) (y':=b5 (fG B aY K k).1) m z (by rw[i];exact f3) (fun k o h=>?_) ?_ (fun H u O=>?_)
 ·exact x k o h
 ·simp only[aH,jf];rw[i];exact⟨n2 _ _ m,by simp[az]⟩
 simp[e,f,d,c];(repeat' first|refine ao ?_|simp[e,f,d,c]);have g:b+dc [aj n,bL (eh B k).1,cX (eS B aY k).1,b5 (fG B aY K k).1]=b+bF (bL (eh B k).1)+bF (cX (eS B aY k).1)+bF (b5 (fG B aY K k).1):=by show b+(0+(bF (bL (eh B k).1)+(bF (cX (eS B aY k).1)+(bF (b5 (fG B aY K k).1)+0))))=_;omega
 refine CallDo.sub (ε:=ε) (b:=b) (l:=[aj n,bL (eh B k).1,cX (eS B aY k).1,b5 (fG B aY K k).1]) (r:=[]) (y:=b5 (gG B aY K M k).1) (y':=b5 (gG B aY K M k).1) q v (by rw[g];exact f4) (fun k o h=>?_) ?_ (fun G L N=>?_)
 ·exact u k o h
 ·simp only[aH,jf];rw[g];exact⟨n2 _ _ q,by simp[az]⟩
 simp[e,f,d,c];(repeat' first|refine ao ?_|simp[e,f,d,c]);refine c5.at (c1 ε b (kM n (eh B k).1 (eS B aY k).1 (fG B aY K k).1 (gG B aY K M k).1)) Ψ (ou d5) (oY rfl) (fun k cs h=>by simp[ae]at h) (fun k o h=>?_) ?_
 ·exact L k o h
 simp[dd,bc,bf,a6]
def GV:C:=(aa [c0 3 0,c0 4 1,dI 6 ig,bz 7 false] (.seq (aa [I 8 2,cY 9 119 8,cO 10 9] (aW 10 (aa [jr 11 ig [],bV 5 6 11,bz 7 false] .ret) .skip)) (aa [bk 12 5 3,bk 13 4 4,bk 14 4 4,I 15 2,dT 16 117 [.t 12,(gV 3),.t 13,.t 14,(gV 0),.t 15],cV 17 0 16,cV 18 1 16,bV 5 6 17,I 7 18] .ret)))
def AQ:C:=(aa [c0 3 0,c0 4 1,dI 6 ig,bz 7 false] (.seq (aa [bk 13 5 3,bk 14 4 4,fe 15 4 30 [.t 14],cc 16 96 13 15,cO 17 16] (aW 17 (aa [jr 18 ig [],bV 5 6 18,bz 7 false] .ret) .skip)) (aa [aF 20 1 1 3,ay 21 1 20,aF 22 4 1 3,ay 23 1 22,bk 24 4 4,I 25 2,dT 26 120 [.t 21,.t 23,.t 24,.t 25],I 19 26,cV 27 0 19,cV 28 1 19,I 8 27,I 9 28] (.seq (aa [I 29 9,cO 30 29] (aW 30 (aa [jr 31 ig [],bV 5 6 31,bz 7 false] .ret) .skip)) (aa [bk 32 5 3,cY 33 105 32,dI 10 ig,bV 5 10 33] (aa [I 34 8,aF 35 4 1 10,bV 1 35 34] (aa [bk 37 5 10,cY 38 90 37,I 36 38,cV 39 0 36,cV 40 1 36,dI 11 ig,bV 5 11 39,I 12 40] (aa [bk 41 5 11,I 42 12,bV 5 6 41,I 7 42] .ret))))))))
def GM:C:=(aa [c0 2 0,bz 4 false] (.seq (.drawn true 18 [bk 5 5 2,cY 6 29 5,I 7 6,cg 7 true 8 1,ax 7 true (cY 9 172 8),ei 10 7 9,I 11 10,cg 11 true 12 1,ax 11 true (cY 13 162 12),ax 11 true (aF 14 0 1 2),ax 11 true (ay 15 1 14),ax 11 true (bu 16 .leq 13 15),ei 17 11 16,I 4 17]) .ret))
def TX:C:=(aa [c0 1 0,dI 2 ig] (.seq (.drawn true 20 [aF 3 0 1 1,ay 4 1 3,aF 5 1 1 1,ay 6 1 5,cY 7 178 6,aF 8 2 1 1,ay 9 1 8,cY 10 179 9,fe 11 2 98 [],aF 12 3 1 1,ay 13 1 12,h3 14 2 98 11 13,fe 15 2 100 [],aF 16 4 1 1,ay 17 1 16,h3 18 2 100 15 17,jr 19 ig [(0,1,(.t 4)),(1,1,(.t 7)),(2,1,(.t 10)),(3,1,(.t 14)),(4,1,(.t 18))],bV 5 2 19]) .ret))
def Sr:C:=(aa [c0 1 0,dI 2 ig] (.seq (.drawn true 39 [aF 6 0 1 1,ay 7 1 6,aF 8 1 1 1,ay 9 1 8,cY 10 168 9,fe 11 1 46 [],jr 12 ig [(0,1,(.t 7)),(1,1,(.t 10)),(2,1,(.t 11))],dI 3 ig,bV 5 3 12]) (.seq (aa [aF 13 2 1 1,ay 14 1 13,cw 15 14,bQ 16 0] (gx 17 16 15 (.seq (.block 1 (aa [ck 18 1 14 16,ay 19 1 18,I 5 19] (.drawn true 39 [aF 20 2 1 3,ay 21 1 20,I 22 5,cY 23 168 22,fe 24 1 46 [.t 23],h3 25 1 46 21 24,aF 26 2 1 3,bV 1 26 25]))) (.region [aV 27 .add 16 1,I 16 27])))) (aa [fe 28 2 98 [],aF 29 3 1 1,ay 30 1 29,h3 31 2 98 28 30,aF 32 3 1 3,bV 1 32 31] (aa [fe 33 2 100 [],aF 34 4 1 1,ay 35 1 34,h3 36 2 100 33 35,aF 37 4 1 3,bV 1 37 36] (aa [bk 38 5 3,bV 5 2 38] .ret))))))
def G0:C:=(aa [c0 6 0,c0 8 2,c0 9 3,dI 12 ig,bz 13 false] (aa [bk 21 5 6,dI 14 ig,bV 5 14 21] (aa [bz 15 true] (.seq (aa [I 22 1,aV 23 .lss 22 2] (aW 23 (aa [aF 25 1 1 6,ay 26 1 25,bk 27 4 8,bk 28 4 9,dT 29 180 [.t 26,.t 27,.t 28],I 24 29,cV 30 0 24,cV 31 1 24,I 16 30,I 17 31] (aa [I 32 1,aV 33 .eql 32 0] (aW 33 (aa [I 34 16,aF 35 1 1 14,bV 1 35 34] (.region [I 36 17,I 15 36])) (aa [I 37 17] (aW 37 (aa [aF 38 1 1 6,ay 39 1 38,I 40 16,cc 41 153 39 40,I 18 41] (aa [I 42 18,cw 43 42,aV 44 .gtr 43 0,I 15 44] (.region [fe 45 1 46 [],aF 46 2 1 6,ay 47 1 46,h3 48 1 46 45 47,I 49 18,fe 50 1 46 [.t 49],h3 51 1 46 48 50,aF 52 2 1 14,bV 1 52 51]))) .skip))))) (aa [aF 54 1 1 6,ay 55 1 54,bk 56 4 8,cc 57 60 55 56,I 53 57,cV 58 0 53,cV 59 1 53,dI 19 eC,bV 4 19 58,I 20 59] (aa [I 60 20,I 15 60] (aa [I 61 15,I 62 61,cg 62 true 63 1,ax 62 true (aV 64 .eql 63 2),ei 65 62 64] (aW 65 (.region [aF 67 3 1 6,ay 68 1 67,bk 69 4 19,I 70 4,dT 71 151 [.t 68,.t 69,.t 70],I 66 71,cV 72 0 66,cV 73 1 66,aF 74 3 1 14,bV 1 74 72,I 15 73]) (aa [I 75 15] (aW 75 (.region [aF 77 4 1 6,ay 78 1 77,bk 79 4 19,I 80 5,dT 81 181 [.t 78,.t 79,.t 80],I 76 81,cV 82 0 76,cV 83 1 76,aF 84 4 1 14,bV 1 84 82,I 15 83]) .skip)))))))) (.seq (aa [I 85 15,cO 86 85] (aW 86 (aa [jr 87 ig [],bV 5 12 87,bz 13 false] .ret) .skip)) (aa [bk 88 5 14,cY 89 81 88,cV 90 0 89,cV 91 1 89,bV 5 12 90,I 13 91] .ret))))))
def w7:C:=(aa [c0 6 0,c0 8 2,c0 9 3,dI 12 ig,bz 13 false] (.seq (aa [bk 16 5 6,cY 17 27 16,cO 18 17,I 19 18,ax 19 false (bk 20 4 8),ax 19 false (cY 21 56 20),ax 19 false (cO 22 21),ds 23 19 22,I 24 23,ax 24 false (bk 25 4 9),ax 24 false (cY 26 56 25),ax 24 false (cO 27 26),ds 28 24 27,I 29 28,ax 29 false (bk 30 4 8),ax 29 false (aF 31 0 1 6),ax 29 false (ay 32 1 31),ax 29 false (cc 33 148 30 32),ax 29 false (cO 34 33),ds 35 29 34,I 36 35,ax 36 false (bk 37 4 9),ax 36 false (aF 38 0 1 6),ax 36 false (ay 39 1 38),ax 36 false (cc 40 148 37 39),ax 36 false (cO 41 40),ds 42 36 41] (aW 42 (aa [jr 43 ig [],bV 5 12 43,bz 13 false] .ret) .skip)) (aa [bk 45 5 6,I 46 1,bk 47 4 8,bk 48 4 9,I 49 4,I 50 5,dT 51 115 [.t 45,.t 46,.t 47,.t 48,.t 49,.t 50],I 44 51,cV 52 0 44,cV 53 1 44,dI 14 ig,bV 5 14 52,I 15 53] (.seq (aa [I 54 15,cO 55 54] (aW 55 (aa [jr 56 ig [],bV 5 12 56,bz 13 false] .ret) .skip)) (aa [bk 57 5 14,cY 58 104 57,bV 5 12 58,bz 13 true] .ret)))))
def TK:C:=(aa [fw 2 5] (aa [fe 6 5 113 [],I 3 6] (.seq (aa [I 7 0,cw 8 7,bQ 9 0] (gx 10 9 8 (.seq (.block 1 (aa [ck 11 5 7 9,bk 12 5 11,dI 5 kx,bV 5 5 12] (.drawn true 24 [I 13 3,aF 14 0 1 5,ay 15 1 14,hr 16 1 4 5,bk 17 4 16,cY 18 130 17,jr 19 kx [(0,1,(.t 15)),(1,4,(.t 18))],fe 20 5 113 [.t 19],h3 21 5 113 13 20,I 3 21]))) (.region [aV 22 .add 9 1,I 9 22])))) (aa [I 23 3,I 2 23] .ret))))
def TT:C:=(aa [fw 2 1] (aa [fe 6 1 46 [],I 3 6] (.seq (aa [I 7 0,cw 8 7,bQ 9 0] (gx 10 9 8 (.seq (.block 1 (aa [ck 11 1 7 9,ay 12 1 11,I 5 12] (.region [I 13 3,I 14 5,cY 15 178 14,fe 16 1 46 [.t 15],h3 17 1 46 13 16,I 3 17]))) (.region [aV 18 .add 9 1,I 9 18])))) (aa [I 19 3,I 2 19] .ret))))
def Pa:b4 aT GV [.cell 6 true 5,.tmp 7] 3 Tryz.f50=true:=bi
def Fe:b4 aT AQ [.cell 6 true 5,.tmp 7] 3 Tryz.f51=true:=bi
def O4:b4 aT GM [.tmp 4] 2 Tryz.f96=true:=bi
def apl:b4 aT TX [.cell 2 true 5] 1 Tryz.f104=true:=bi
def anS:b4 aT Sr [.cell 2 true 5] 1 Tryz.f105=true:=bi
def Pf:b4 aT G0 [.cell 12 true 5,.tmp 13] 6 Tryz.f115=true:=bi
def zV:b4 aT w7 [.cell 12 true 5,.tmp 13] 6 Tryz.f117=true:=bi
def ao7:b4 aT TK [.tmp 2] 1 Tryz.f178=true:=bi
def aph:b4 aT TT [.tmp 2] 1 Tryz.f179=true:=bi
def EI(t:T)(k:Nat)(st:bp):Prop:=
 (k=t.args.length/\st=⟨[(2,.ptr (.loc 1) 0),(3,.ptr (.loc 2) 0),(14,.slice 4 .no (t.args.map T.e)),(15,.int .i64 t.args.length),(16,.int .i64 0)],[(.loc 1,[.int .i64 0,.int .i64 0,.str [],.slice 4 .nil []]),(.loc 2,[.int .i64 t.kind,.int .i64 t.int,.str t.name,.slice 4 .nil []])],[],3,[]⟩)\/
 ∃i:Nat,1<=i/\i<=t.args.length/\k=t.args.length-i/\st=⟨[(2,.ptr (.loc 1) 0),(3,.ptr (.loc 2) 0),(14,.slice 4 .no (t.args.map T.e)),(15,.int .i64 t.args.length),(16,.int .i64 i)],[(.loc 1,[.int .i64 0,.int .i64 0,.str [],.slice 4 .nil []]),(.loc 2,[.int .i64 t.kind,.int .i64 t.int,.str t.name,.slice 4 (.own (.loc 29)) ((t.args.take i).map T.e)])],[(.loc 29,⟨i,30,4,none⟩)],30,[]⟩
def acE(t:T):bT au 130 [t.e] t.e:=by
 induction t with
 |pair a b g f=>
  refine bI a1 Tryz.func130 Fi fun e=>?_;unfold AU;simp;refine qs (EI (.pair a b)) 2 _ b9 (.inl ⟨rfl,rfl⟩) ?_;rintro k st (⟨ab,rfl⟩|⟨i,J,U,ab,rfl⟩) c d;all_goals clear c d
  ·simp;(repeat' first|refine ao ?_|refine aO g ?_|refine aP g ?_|simp);refine bY.next 1 (by rw[ab];simp) (.inr ⟨1,Ω,Ψ,rfl,rfl⟩) b9
  ·rcases(by simp at U;omega:i=1\/i=2)with rfl|rfl
   ·simp;(repeat' first|refine ao ?_|refine aO f ?_|refine aP f ?_|simp);refine bY.next 0 (by rw[ab];simp) (.inr ⟨2,Ω,Ψ,rfl,rfl⟩) b9
   ·exact cn
 |nil=>
  refine bI a1 Tryz.func130 Fi fun e=>?_;unfold AU;simp;refine qs (EI (.nil)) 0 _ b9 (.inl ⟨rfl,rfl⟩) ?_;rintro k st (⟨ab,rfl⟩|⟨i,J,U,ab,rfl⟩) c d;all_goals clear c d
  ·exact cn
  ·simp at U;omega
 |var n=>
  refine bI a1 Tryz.func130 Fi fun e=>?_;unfold AU;simp;refine qs (EI (.var n)) 0 _ b9 (.inl ⟨rfl,rfl⟩) ?_;rintro k st (⟨ab,rfl⟩|⟨i,J,U,ab,rfl⟩) c d;all_goals clear c d
  ·exact cn
  ·simp at U;omega
 |sym s=>
  refine bI a1 Tryz.func130 Fi fun e=>?_;unfold AU;simp;refine qs (EI (.sym s)) 0 _ b9 (.inl ⟨rfl,rfl⟩) ?_;rintro k st (⟨ab,rfl⟩|⟨i,J,U,ab,rfl⟩) c d;all_goals clear c d
  ·exact cn
  ·simp at U;omega
 |num n=>
  refine bI a1 Tryz.func130 Fi fun e=>?_;unfold AU;simp;refine qs (EI (.num n)) 0 _ b9 (.inl ⟨rfl,rfl⟩) ?_;rintro k st (⟨ab,rfl⟩|⟨i,J,U,ab,rfl⟩) c d;all_goals clear c d
  ·exact cn
  ·simp at U;omega
def acH(t:List Bd)(g:t.length<=1000000):bT au 178 [.slice 5 .no (t.map Bd.e)] (.slice 5 .no (t.map Bd.e)):=by
 refine bI a1 Tryz.func178 ao7 fun f=>?_;unfold TK;simp;(repeat' first|refine ao ?_|simp);refine fU (α:=List Bd) (fun i out=>⟨[(7,.slice 5 .no (t.map Bd.e)),(8,.int .i64 t.length),(3,.slice 5 (.own (.loc 0)) (out.map Bd.e)),(9,.int .i64 i)],[],[(.loc 0,⟨out.length,113,5,none⟩)],1,[]⟩) t.length (fun i out=>out=t.take i) [] b9 Ψ (fun out a _=>?_) (fun i out hi a _=>?_)
 ·rw[ix (dP _)]at a;subst a;exact cn
 ·obtain⟨b,d,c⟩:=eW hi;have e:out.length<=1000000:=by rw[a];simp;omega
  simp[hi,c];(repeat' first|refine ao ?_|refine aO (acE _) ?_|refine aP (acE _) ?_|simp[c,hi]);all_goals try refine⟨by unfold lim;omega,?_⟩
  all_goals(repeat' first|refine ao ?_|simp)
  all_goals refine bY.rng (out++[b]) hi (by rw[nE d,a]) ?_
  all_goals simp
  all_goals exact⟨by simp[fresh,aH,az,cd,aM,ae,j2],eo (by simp[fresh,aH,az,cd,aM,ae,j2]),ep (by simp[fresh,aH,az,dV,aM,ae,j2]),Ψ⟩
def o8(n:Int)(l:List Tm):Prop:= ∃x:List T,l=x.map T.tm/\(∀t∈x,t.fit=true)/\∀t∈x,gg n t=true
def ace{x y:List T}(h:x.map T.tm=y.map T.tm):x=y:=(List.map_inj_right fun _ _=>QN).1 h
def afr(l:List T):(l.map T.tm).map enc=l.map T.e:=by rw[List.map_map];exact List.map_congr_left fun t _=>mD t
def Vh:∀{l:List Tm},l.all Tm.fits=true->∃x:List T,l=x.map T.tm/\∀t∈x,t.fit=true
 |[],_=>⟨[],rfl,Ψ⟩
 |t::l,h=>by rw[List.all_cons,cR]at h;obtain⟨x,rfl,U⟩:=Vh h.2;obtain⟨y,rfl,b⟩:=Tm.fits_ex h.1;exact⟨y::x,rfl,fun z a=>(gJ.1 a).elim (fun e=>by rw[e];exact b) (U z)⟩
def Mi{n:Int}{l:List Tm}(h:o8 n l):∀t∈l,t.fits=true:=fun t b=>by obtain⟨x,rfl,U,_⟩:=h;obtain⟨y,a,rfl⟩:=hb.1 b;rw[Tm.fits_T];exact U y a
def aiq{n:Int}{x y:T}(a:x.fit=true)(b:y.fit=true)(J:gg n x=true)(U:gg n y=true):o8 n [x.tm,y.tm]:=⟨[x,y],rfl,by simp[a,b],by simp[J,U]⟩
def Vg{n:Int}{x y:T}(h:o8 n [x.tm,y.tm]):(x.fit=true/\y.fit=true)/\gg n x=true/\gg n y=true:=by obtain⟨l,e,J,U⟩:=h;have:=ace (x:=[x,y]) e;subst this;exact⟨⟨J x Ψ,J y Ψ⟩,U x Ψ,U y Ψ⟩
def acZ{n:Int}:∀(l:List T) (m:Int),l.foldl (fun m t=>t.fold sK m) m<=n↔m<=n/\∀t∈l,gg n t=true
 |[],m=>by simp
 |t::l,m=>by rw[List.foldl_cons,acZ l,Kq];simp[and_assoc]
def qK.fin{α:Type}{p:α->Bool}{s:List α}(h:qK p s s.length ()):∀b∈s,p b=true:=fun b a=>by obtain⟨i,hi⟩:=List.mem_iff_getElem?.1 a;exact h i b (by have:=(fH.1 hi).1;omega) hi
def ath(l:List Tm):bT au 172 [dx (l.map enc)] (.bool (l.all Tm.fits)):=by
 generalize bt:l.all Tm.fits=R;refine bI a1 Tryz.func172 Zl fun e=>?_;unfold La;have h:l.length<=68719476736:=by simp[eI,eN,eJ,lim]at e;omega
 simp;refine eZ [5,6] (fun i (_:Unit)=>[(7,aj i)]) l.length (qK Tm.fits l) () b9 (fun k b ab=>Ω) (fun _ a _=>?_) (fun i _ hi a _=>?_)
 ·have:R=true:=by rw[<-bt,j7];exact a.fin
  subst this;clear a bt;exact cn
 ·obtain⟨t,c,f⟩:=eW hi;have d:=Ke t;cases g:t.fits
  ·rw[g]at d;have:R=false:=by rw[<-bt,List.all_eq_false];exact⟨t,ft c,by rw[g];simp⟩
   subst this;clear c a bt;exact cn
  ·rw[g]at d;have j:=a.step c g;clear c a bt;exact iW
open Classical in
def acB(r:gn)(c:iv r.m->nF r.m)(l:List Tm):bT au 96 [r.e,dx (l.map enc)] (.bool (decide (kc r/\o8 r.n l))):=by
 generalize bt:decide (kc r/\o8 r.n l)=R;have a:=asb r c;have g:=ath l;have f:=fun h:kc r=>(kc.raw h).n;by_cases g1:kc r;rotate_left
 ·rw[mx g1]at a;have:R=false:=by rw[<-bt];exact mx fun h=>g1 h.1
  subst this;obtain⟨n,b,d,k,m⟩:=r;simp only[gn.e]at a⊢;clear bt f c g1;refine bI a1 Tryz.func96 O4 fun o=>?_;unfold GM;exact cn
 rw[lK g1]at a;cases g2:l.all Tm.fits
 ·rw[g2]at g;have:R=false:=by rw[<-bt];refine mx fun h=>?_;obtain⟨x,rfl,U,_⟩:=h.2;rw[List.all_eq_false]at g2;obtain⟨t,v,p⟩:=g2;obtain⟨y,u,rfl⟩:=hb.1 v;rw[Tm.fits_T]at p;exact p (U y u)
  subst this;obtain⟨n,b,d,k,m⟩:=r;simp only[gn.e]at a⊢;clear bt f c g1 g2;refine bI a1 Tryz.func96 O4 fun o=>?_;unfold GM;exact cn
 rw[g2]at g;obtain⟨x,rfl,i⟩:=Vh g2;rw[afr]at g⊢;have s:=acu x i;have j:decide (yx x<=r.n)=R:=by rw[<-bt,yx];refine decide_eq_decide.2 ?_;rw[acZ];refine⟨fun h=>⟨g1,x,rfl,i,h.2⟩,fun h=>⟨(f g1).1,?_⟩⟩;obtain⟨y,e,_,U⟩:=h.2;rw[ace e];exact U
 generalize yx x=q at s j;obtain⟨n,b,d,k,m⟩:=r;simp only[gn.e]at a j⊢;clear bt f c g1 g2 i;subst j;refine bI a1 Tryz.func96 O4 fun o=>?_;unfold GM;exact cn
def BX(S:aB->Prop)(l:List (List Bd))(d:List Bd):aH S (l.map cQ++[cQ d])=True:=uW S l d
def asg{x:List Bd}(h:x.length<=1000000):bT au 168 [cQ x] (cQ x):=acw x h
def ash(s:da)(f:s.b.length<=1000000)(j:∀x∈s.d,x.length<=1000000)(ab:s.k.length<=1000000)(hm:s.m.length<=68719470000):bT au 105 [s.e] s.e:=by
 obtain⟨n,b,d,k,m⟩:=s;simp only[da.e]at f j ab hm⊢;have c:=acw b f;refine bI a1 Tryz.func105 anS fun h=>?_;unfold Sr;have o:d.length<=68719476736:=by simp[eI,eN,eJ,lim]at h;omega
 clear h;simp;(repeat' first|refine ao ?_|refine aO c ?_|refine aP c ?_|simp);refine fU (fun i (L:List (List Bd))=>⟨[(1,.ptr (.loc 0) 0),(2,.ptr (.loc 1) 0),(3,.ptr (.loc 5) 0),(14,cX (d.map cQ)),(15,aj d.length),(16,aj i)],[(.loc 0,[aj n,bL (b.map Bd.e),cX (d.map cQ),b5 (k.map bJ.e),b5 (m.map bn.e)]),(.loc 1,[aj 0,.slice 5 .nil [],.slice 1 .nil [],.slice 2 .nil [],.slice 2 .nil []]),(.loc 5,[aj n,bL (b.map Bd.e),.slice 1 (.own (.loc 13)) (L.map cQ),.slice 2 .nil [],.slice 2 .nil []])],[(.loc 13,⟨L.length,46,1,none⟩)],41,[]⟩) d.length (fun i L=>L=d.take i) [] b9 Ψ (fun L a _=>?_) (fun i L hi a _=>?_)
 ·rw[jC]at a;subst a;simp;(repeat' first|refine ao ?_|simp);all_goals try refine⟨by unfold lim;omega,?_⟩
  exact cn
 ·obtain⟨x,g,e⟩:=eW hi;have l:=asg (j x (ft g));have p:L.length<=i:=by rw[a];simp;omega
  simp[hi,e];(repeat' first|refine ao ?_|refine aO l ?_|refine aP l ?_|simp[e,hi]);all_goals try refine⟨by unfold lim;omega,?_⟩
  (repeat' first|refine ao ?_|simp);refine bY.rng (L++[x]) hi (by rw[nE g,a]) ?_;simp;exact⟨by simp[fresh,aH,az,cd,aM,ae,BX],eo (by simp[fresh,aH,az,cd,aM,ae,BX]),ep (by simp[fresh,aH,az,dV,aM,ae,BX]),Ψ⟩
def T.fit_ok{x:T}(h:x.fit=true):x.ok=true:=by simp only[T.fit,cR]at h;exact h.1
def atn(r:gn)(a b:Tm):(¬kc r/\¬(kc r/\o8 r.n [a,b]))\/(kc r/\a.fits=false/\¬(kc r/\o8 r.n [a,b]))\/(kc r/\a.fits=true/\b.fits=false/\¬(kc r/\o8 r.n [a,b]))\/
  (kc r/\∃x y:T,a=x.tm/\b=y.tm/\x.fit=true/\y.fit=true/\((kc r/\o8 r.n [a,b])↔(gg r.n x&&gg r.n y)=true)):=by
 by_cases g:kc r;rotate_left
 ·exact .inl ⟨g,fun h=>g h.1⟩
 refine .inr ?_;cases g1:a.fits
 ·refine .inl ⟨g,rfl,fun h=>?_⟩;have:=Mi h.2 a Ψ;rw[g1]at this;cases this
 refine .inr ?_;cases g2:b.fits
 ·refine .inl ⟨g,rfl,rfl,fun h=>?_⟩;have:=Mi h.2 b Ψ;rw[g2]at this;cases this
 obtain⟨x,rfl,c⟩:=Tm.fits_ex g1;obtain⟨y,rfl,d⟩:=Tm.fits_ex g2;exact .inr ⟨g,x,y,rfl,rfl,c,d,by rw[cR];exact⟨fun h=>(Vg h.2).2,fun h=>⟨g,aiq c d h.1 h.2⟩⟩⟩
open Classical in
def asU(r:gn)(j:iv r.m->nF r.m)(a b:Tm)(w:¬(kc r/\o8 r.n [a,b]))(z kk:Int)(tag:List cJ):bT au 117 [r.e,aj z,enc a,enc b,aj kk,.str tag] (qT none):=by
 simp only[qT,k5,kh,hF,da.e];have c:=acU r j;have f:=C6 a;have i:=C6 b;rcases atn r a b with⟨g,e⟩|⟨g,g1,e⟩|⟨g,g1,g2,e⟩|⟨g,x,y,rfl,rfl,u,v,e⟩
 ·skip;rw[mx g]at c;clear j g e f i;obtain⟨n,b2,d,k,m⟩:=r;simp only[gn.e]at c⊢;refine bI a1 Tryz.func117 zV fun o=>?_;unfold w7;simp;((repeat' first|refine ao ?_|refine aO c ?_|refine aP c ?_|simp|((first|apply ct|apply cz|apply cy)<;>intro h<;>try simp at h))<;>(try exact c3));all_goals simp[bZ,bc,bf,a6]
 ·skip;rw[lK g]at c;rw[g1]at f;clear j g e g1 i;obtain⟨n,b2,d,k,m⟩:=r;simp only[gn.e]at c⊢;refine bI a1 Tryz.func117 zV fun o=>?_;unfold w7;simp;((repeat' first|refine ao ?_|refine aO c ?_|refine aP c ?_|refine aO f ?_|refine aP f ?_|simp|((first|apply ct|apply cz|apply cy)<;>intro h<;>try simp at h))<;>(try exact c3));all_goals simp[bZ,bc,bf,a6]
 ·skip;rw[lK g]at c;rw[g1]at f;rw[g2]at i;clear j g e g1 g2;obtain⟨n,b2,d,k,m⟩:=r;simp only[gn.e]at c⊢;refine bI a1 Tryz.func117 zV fun o=>?_;unfold w7;simp;((repeat' first|refine ao ?_|refine aO c ?_|refine aP c ?_|refine aO f ?_|refine aP f ?_|refine aO i ?_|refine aP i ?_|simp|((first|apply ct|apply cz|apply cy)<;>intro h<;>try simp at h))<;>(try exact c3));all_goals simp[bZ,bc,bf,a6]
 rw[lK g]at c;rw[Tm.fits_T,u,mD]at f;rw[Tm.fits_T,v,mD]at i;rw[mD,mD];have t:=Au r.n x;have s:=Au r.n y;have l:(gg r.n x&&gg r.n y)=false:=Bool.eq_false_iff.2 fun h=>w (e.2 h);clear j g u v e w;obtain⟨n,b2,d,k,m⟩:=r;simp only[gn.e]at c t s l⊢;generalize gg n x=p at t l;generalize gg n y=q at s l;cases p
 ·refine bI a1 Tryz.func117 zV fun o=>?_;unfold w7;exact cn
 ·simp only[Bool.true_and]at l;subst l;refine bI a1 Tryz.func117 zV fun o=>?_;unfold w7;exact cn
def asB{x:List Bd}(h:x.length<=1000000):bT au 178 [cQ x] (cQ x):=acH x h
def asN(t:List (List Bd))(g:∀x∈t,x.length<=1000000):bT au 179 [cX (t.map cQ)] (cX (t.map cQ)):=by
 refine bI a1 Tryz.func179 aph fun e=>?_;unfold TT;have h:t.length<=68719476736:=by simp[eI,eN,eJ,lim]at e;omega
 clear e;have c:=fun x b=>asB (g x b);simp;(repeat' first|refine ao ?_|simp);refine fU (fun i (L:List (List Bd))=>⟨[(7,cX (t.map cQ)),(8,aj t.length),(3,.slice 1 (.own (.loc 0)) (L.map cQ)),(9,aj i)],[],[(.loc 0,⟨L.length,46,1,none⟩)],1,[]⟩) t.length (fun i L=>L=t.take i) [] b9 Ψ (fun L a _=>?_) (fun i L hi a _=>?_)
 ·rw[jC]at a;subst a;exact cn
 ·obtain⟨x,b,d⟩:=eW hi;have f:=c x (ft b);have j:L.length<=i:=by rw[a];simp;omega
  clear c;simp[hi,d];(repeat' first|refine ao ?_|refine aO f ?_|refine aP f ?_|simp[d,hi]);all_goals try refine⟨by unfold lim;omega,?_⟩
  all_goals(repeat' first|refine ao ?_|simp)
  all_goals refine bY.rng (L++[x]) hi (by rw[nE b,a]) ?_
  all_goals simp
  all_goals exact⟨by simp[fresh,aH,az,cd,aM,ae,BX],eo (by simp[fresh,aH,az,cd,aM,ae,BX]),ep (by simp[fresh,aH,az,dV,aM,ae,BX]),Ψ⟩
def asR(s:da)(e:s.b.length<=1000000)(f:∀x∈s.d,x.length<=1000000)(ab:s.k.length<=1000000)(hm:s.m.length<=68719470000):bT au 104 [s.e] s.e:=by
 have c:=acH s.b e;have a:=asN s.d f;obtain⟨n,b,d,k,m⟩:=s;simp only[da.e]at c a ab hm⊢;refine bI a1 Tryz.func104 apl fun g=>?_;unfold TX;simp;(repeat' first|refine ao ?_|refine aO c ?_|refine aP c ?_|refine aO a ?_|refine aP a ?_|simp);all_goals try refine⟨by unfold lim;omega,?_⟩
 exact cn
def aqY{s t:da}(hm:nF s.m)(he:j5 s=some t):nF t.m:=by
 obtain⟨G,a,a7⟩:=hm;refine⟨G,a,?_⟩;have:=Qj he;unfold j5 at he;split at he
 ·cases he
 ·split at he
  ·cases he
  ·rename_i m e;split at he
   ·cases he
   ·split at he
    ·have U:=JD a7 (fun x c=>by simp at c) e;have b:=e7 he;rw[<-b];exact QJ U
    ·cases he
open Classical in
def asT{s:da}(h:tW s)(hm:nF s.m){x y:T}(l:x.fit=true)(o:y.fit=true)(bx:gg s.n x=true)(p:gg s.n y=true){r kk:Int}{tag:List cJ}{F:be da}{t:da}{q:Bool}
  (u:bT au 115 [s.e,aj r,x.e,y.e,aj kk,.str tag] (.tuple [t.e,.bool q])) (a:q=true->F=some t) (j:q=false->F=none) (e:F=some t->tW t/\nF t.m):bT au 117 [s.e,aj r,x.e,y.e,aj kk,.str tag] (qT F):=by
 have f:=acU s.r fun _=>hm;rw[lK ⟨s,rfl,h⟩,F0]at f;have E:=C6 x.tm;have w:=C6 y.tm;rw[Tm.fits_T,l,mD]at E;rw[Tm.fits_T,o,mD]at w;have i:=Au s.n x;have g:=Au s.n y;rw[bx]at i;rw[p]at g;cases q
 ·rw[j rfl];clear h hm l o bx p a j e;obtain⟨n,b,d,k,m⟩:=s;obtain⟨tn,H,G,v,tm⟩:=t;simp only[da.e,qT,hF,k5,kh]at f i g u⊢;refine bI a1 Tryz.func117 zV fun B=>?_;unfold w7;exact cn
 ·have a:=a rfl;obtain⟨c,a7⟩:=e a;rw[a];have J:=asR t c.1.b.len (fun z A=>(c.1.d z A).len) (by have:=tB c.1.k;omega) (a7.len c.1.m);clear h hm l o bx p a j c e a7;obtain⟨n,b,d,k,m⟩:=s;obtain⟨tn,H,G,v,tm⟩:=t;simp only[da.e,qT,lJ,rV]at f i g u J⊢;refine bI a1 Tryz.func117 zV fun B=>?_;unfold w7;exact cn
def aqX{s t:da}(he:j5 s=some t):t.d.length<=30:=by
 unfold j5 at he;split at he
 ·cases he
 split at he
 ·cases he
 split at he
 ·cases he
 split at he
 ·rename_i h;have:=e7 he;rw[<-this];exact h
 ·cases he
open Classical in
noncomputable def tK(s:da)(t:T)(g:List cJ):be da:=if(t.ap (cC s.b)).size<=5000 then(ko s.m (t.ap (cC s.b)) g).bind fun l=>j5 {s with m:=l}else none
def vj(m:List bn):Prop:= ∃G:List (List cJ),G.length<=686999/\oe G m
def vj.w{m:List bn}(h:vj m):nF m:=by obtain⟨G,J,U⟩:=h;exact⟨G,Ω,U⟩
def oR.apb{s:da}(h:oR s){t:T}(a:gg s.n t=true){w:Int}(hw:(t.ap (cC s.b)).occ w=true):w<s.n:=by obtain⟨v,J,U⟩:=Cl.1 hw;exact NW h.b h.bb (GG.1 a v J) U
def oR.apo{s:da}(h:oR s){t:T}(a:t.fit=true):(t.ap (cC s.b)).ok=true:=FO h.b.ok (T.fit_ok a)
def oR.mrk{s:da}(h:oR s){t:T}(b:t.fit=true)(c:gg s.n t=true){g:List cJ}(a7:ib g=true){l:List bn}(he:ko s.m (t.ap (cC s.b)) g=some l):oR {s with m:=l}:=⟨h.n,h.b,h.d,h.k,Gz h.m (h.apo b) a7 he,h.bb,h.db,h.kb,fun x a=>((B8 he x).1 a).elim (h.mb x) fun e=>h.apb c e.2⟩
def vj.mrk{m l:List bn}(h:vj m){t:T}{g:List cJ}(he:ko m t g=some l):nF l:=by obtain⟨G,J,U⟩:=h;exact⟨g::G,by simp only[mw];omega,GA (fun x a=>qf _ (U x a)) Ψ he⟩
def YY{s u:da}(h:oR s){t:T}(a:t.fit=true)(b:gg s.n t=true){g:List cJ}(a7:ib g=true)(he:tK s t g=some u):tW u:=by
 unfold tK at he;split at he
 ·obtain⟨l,J,U⟩:=mY.1 he;exact(abA (h.mrk a b a7 J) U).1
 ·cases he
def YZ{s u:da}(hm:vj s.m){t:T}{g:List cJ}(he:tK s t g=some u):nF u.m:=by
 unfold tK at he;split at he
 ·obtain⟨l,J,U⟩:=mY.1 he;exact aqY (s:={s with m:=l}) (hm.mrk J) U
 ·cases he
mutual
def hS:af->Nat
 | .int _ _=>1
 | .str _=>1
 | .slice _ _ xs=>iK xs
 | .agg cs=>iK cs
 |_=>0
def iK:List af->Nat
 |[]=>0
 |x::xs=>hS x+iK xs
end
mutual
def am1(c8:Int->List cJ):∀(p:af) (k:Int),(dJ c8 p k).2=k+hS p
 | .int _ _,k=>by simp[dJ,hS]
 | .str _,k=>by simp[dJ,hS]
 | .slice _ _ xs,k=>by simp only[dJ,hS];exact x0 c8 xs k
 | .agg cs,k=>by simp only[dJ,hS];exact x0 c8 cs k
 | .bool _,k=>by simp[dJ,hS]
 | .junk,k=>by simp[dJ,hS]
 | .ptr _ _,k=>by simp[dJ,hS]
 | .eptr _,k=>by simp[dJ,hS]
 | .iface _ _,k=>by simp[dJ,hS]
 | .nilp,k=>by simp[dJ,hS]
 | .tuple _,k=>by simp[dJ,hS]
 | .func _ _,k=>by simp[dJ,hS]
 | .gmap _,k=>by simp[dJ,hS]
 | .row _ _ _,k=>by simp[dJ,hS]
 | .rptr _ _ _ _ _,k=>by simp[dJ,hS]
 | .hdm _ _,k=>by simp[dJ,hS]
 | .hdi _ _ _,k=>by simp[dJ,hS]
 | .cst _,k=>by simp[dJ,hS]
def x0(c8:Int->List cJ):∀(a:List af) (k:Int),(bD c8 a k).2=k+iK a
 |[],k=>by simp[bD,iK]
 |x::xs,k=>by simp only[bD,iK];rw[x0 c8 xs,am1 c8 x];omega
end
def YQ(B aY K M:List af)(k:Int):(gG B aY K M k).2=k+(iK B+iK aY+iK K+iK M:Nat):=by unfold gG fG eS eh;rw[x0,x0,x0,x0];omega
def Ks{α:Type}{f:α->af}{c:Nat}:∀(l:List α),(∀x∈l,hS (f x)<=c)->iK (l.map f)<=c*l.length
 |[],_=>by simp[iK]
 |x::l,h=>by have J:=h x Ψ;have U:=Ks l fun y a=>h y (by simp[a]);simp only[ha,iK,mw,Nat.mul_succ];omega
mutual
def Q8:∀t:Tm,hS (enc t)=3*t.sz
 | .mk k n s a=>by simp only[enc,hS,iK,Tm.sz,ac7 a];omega
def ac7:∀l:List Tm,iK (me l)=3*Tm.szL l
 |[]=>rfl
 |x::xs=>by simp only[me,iK,Tm.szL,Q8 x,ac7 xs];omega
end
mutual
def Il:∀t:Tm,jE (enc t)
 | .mk k n s a=>by simp only[enc];exact .mk k n s (me a) fun y b=>Xo a y b
def Xo:∀(l:List Tm),∀y∈me l,jE y
 |[],y,h=>by simp[me]at h
 |x::xs,y,h=>by
  simp only[me,gJ]at h;rcases h with rfl|h
  ·exact Il x
  ·exact Xo xs y h
end
def alQ(t:T):jE t.e:=by rw[<-mD];exact Il _
mutual
def QE:∀(t:Tm) (m:Int),0<=hD (qa t) m->hD (qa t) m+t.sz<=m+1
 | .mk k n s a,m,h=>by
  simp only[qa,hD]at h⊢;have b:(gW.s s).len=s.length:=rfl;have c:(qY a).length=a.length:=by rw[acd];simp
  by_cases g1:m-(gW.s s).len<0
  ·rw[if_pos g1]at h;omega
  by_cases g2:m-(gW.s s).len-((qY a).length:Int)<0
  ·rw[if_neg g1,if_pos g2]at h;omega
  rw[if_neg g1,if_neg g2]at h⊢;have:=ab2 a _ h;simp only[Tm.sz];omega
def ab2:∀(l:List Tm) (m:Int),0<=qV (qY l) m->qV (qY l) m+Tm.szL l<=m+l.length
 |[],m,h=>by simp[qY,qV,Tm.szL]
 |x::xs,m,h=>by
  simp only[qY,qV]at h⊢;split at h
  ·omega
  rename_i g;rw[if_neg g];have J:=QE x m Ω;have U:=ab2 xs _ h;simp only[Tm.szL,mw];omega
end
def abY{α β:Type}{f:α->Int->Int}{g:β->α}{w:β->af}:∀(l:List β) (m:Int),(∀x m,0<=f (g x) m->(hS (w x):Int)<=4*(m-f (g x) m)+4)->0<=jT f (l.map g) m->(iK (l.map w):Int)<=4*(m-jT f (l.map g) m)+4*l.length
 |[],m,_,h=>by simp[jT,iK]
 |x::xs,m,a,h=>by
  simp only[ha,jT]at h⊢;split at h
  ·omega
  rename_i q;rw[if_neg q];have J:=a x m Ω;have U:=abY xs _ a h;simp only[iK,mw];omega
def QF{α β:Type}{f:α->Int->Int}{g:β->α}{w:β->af}(l:List β)(m:Int)(a:∀x m,0<=f (g x) m->(hS (w x):Int)<=4*(m-f (g x) m)+4)(h:0<=mr f (l.map g) m):(iK (l.map w):Int)<=4*(m-mr f (l.map g) m):=by
 unfold mr at h⊢;split at h
 ·omega
 rename_i q;rw[if_neg q];have:=abY l _ a h;simp at this q⊢;omega
def atr(x:Bt)(m:Int)(h:0<=qU (vG x) m):(hS x.e:Int)<=4*(m-qU (vG x) m)+4:=by
 have J:0<=hD (qa x.t) m:=h;have U:=QE x.t m J;have b:hS x.e=1+3*x.t.sz:=by have a:=Q8 x.t;rw[vJ]at a;simp only[hS,iK]at a;simp only[Bt.e,hS,iK];omega
 have a:qU (vG x) m=hD (qa x.t) m:=rfl;have c:1<=x.t.sz:=by cases x.t;simp[Tm.sz]
 rw[b,a];omega
def abV(l:List Bt)(m:Int)(h:0<=eF (hc l) m):(iK (l.map Bt.e):Int)<=4*(m-eF (hc l) m):=QF l m atr h
def ats(x:List Bt)(m:Int)(h:0<=eF (hc x) m):(hS (gA x):Int)<=4*(m-eF (hc x) m)+4:=by have:=abV x m h;simp only[gA,hS];omega
def atu(x:bn)(m:Int)(h:0<=jU (pf x) m):(hS x.e:Int)<=4*(m-jU (pf x) m)+4:=by
 have J:hS x.e=2:=rfl;have U:=(pf x).s.len_nn;unfold jU at h⊢;by_cases g:m-(pf x).s.len<0
 ·rw[if_pos g]at h;omega
 ·rw[if_neg g]at h⊢;omega
def ac8(l:List bJ):iK (l.map bJ.e)=2*l.length:=by
 induction l with
 |nil=>rfl
 |cons x l a=>simp only[ha,iK,mw,a];show 1+(1+0)+_=_;omega
structure l8 (b d k m:List af):Prop where
 f:AF b d k m
 w:iK b+iK d+iK k+iK m<=1000000000000
def l8.le{B aY K M:List af}(h:l8 B aY K M):(gG B aY K M 1).2<=4611686018427387904:=by have:=h.w;rw[YQ];omega
def arI(n:Int)(b:dA fR)(d:dA (dA fR))(k:dA bJ)(m:dA iz)(q:Int):rM ⟨n,b,d,k,m⟩ q=if eF b q<0 then-1 else if fs eF d (eF b q)<0 then-1 else if lD k (fs eF d (eF b q))<0 then-1 else if fs jU m (lD k (fs eF d (eF b q)))<0 then-1 else fs jU m (lD k (fs eF d (eF b q))):=rfl
def l8.raw{r:gn}{q:Int}(o:0<=q)(B:q<=1048576)(h:0<=rM r.h q):l8 (r.b.map Bt.e) (r.d.map gA) (r.k.map bJ.e) (r.m.map bn.e):=by
 obtain⟨n,b,d,k,m⟩:=r;have h:0<=rM ⟨n,hc b,.l (d.map hc),.l k,.l (m.map pf)⟩ q:=h;rw[arI]at h;have A:=vh (hc b) q o;by_cases g1:eF (hc b) q<0
 ·rw[if_pos g1]at h;omega
 rw[if_neg g1]at h;have E:=vi vh (.l (d.map hc)) (eF (hc b) q) Ω;by_cases g2:fs eF (.l (d.map hc)) (eF (hc b) q)<0
 ·rw[if_pos g2]at h;omega
 rw[if_neg g2]at h;have v:=J7 (.l k) (fs eF (.l (d.map hc)) (eF (hc b) q)) Ω;by_cases g3:lD (.l k) (fs eF (.l (d.map hc)) (eF (hc b) q))<0
 ·rw[if_pos g3]at h;omega
 rw[if_neg g3]at h;by_cases g4:fs jU (.l (m.map pf)) (lD (.l k) (fs eF (.l (d.map hc)) (eF (hc b) q)))<0
 ·rw[if_pos g4]at h;omega
 rw[if_neg g4]at h;have t:=abV b q Ω;have i:=QF (f:=eF) (g:=hc) (w:=gA) d (eF (hc b) q) ats (by simpa only[fs]using(by omega:0<=fs eF (.l (d.map hc)) (eF (hc b) q)));have e:=QF (f:=jU) (g:=pf) (w:=bn.e) m _ atu (by simpa only[fs]using h);have s:=ac8 k;have ab:(k.length:Int)<=1048576:=by
  by_cases g:fs eF (.l (d.map hc)) (eF (hc b) q)-k.length<0
  ·simp only[lD,if_pos g]at g3;omega
  ·omega
 have F:(d.length:Int)<=1048576:=by
  by_cases g:eF (hc b) q-(d.map hc).length<0
  ·simp only[fs,mr,if_pos g]at g2;omega
  ·simp at g;omega
 have c:mr eF (d.map hc) (eF (hc b) q)=fs eF (.l (d.map hc)) (eF (hc b) q):=rfl;have p:mr jU (m.map pf) (lD (.l k) (fs eF (.l (d.map hc)) (eF (hc b) q)))=fs jU (.l (m.map pf)) (lD (.l k) (fs eF (.l (d.map hc)) (eF (hc b) q))):=rfl;rw[c]at i;rw[c,p]at e;have isB:∀(l:List Bt),∀x∈l.map Bt.e,ui x:=fun l x a=>by obtain⟨y,_,rfl⟩:=hb.1 a;exact⟨_,_,_,_,_,rfl,fun z j=>by obtain⟨u,_,rfl⟩:=hb.1 j;exact Il u⟩
 refine⟨⟨isB b,fun x a=>?_,fun x a=>?_,fun x a=>?_,by simp;omega⟩,by simp only;omega⟩
 ·obtain⟨y,_,rfl⟩:=hb.1 a;exact⟨_,rfl,isB y⟩
 ·obtain⟨y,_,rfl⟩:=hb.1 a;exact⟨_,_,rfl⟩
 ·obtain⟨y,_,rfl⟩:=hb.1 a;exact⟨_,_,rfl⟩
def att(t:T):hS t.e=3*t.size:=by
 induction t with
 |pair a b d c=>simp only[T.e,hS,iK,T.size,d,c];omega
 |_=>rfl
def ac9{s:List Bd}(h:fp s):iK (s.map Bd.e)<=15001*400:=by
 have J:=Ks (f:=Bd.e) (c:=15001) s fun x b=>by have U:=h.fits.2 x b;have a:=att x.t;rw[T.e_eq]at a;simp only[hS,iK]at a;simp only[Bd.e,hS,iK];omega
 have U:=h.fits.1;omega
def l8.of{s:da}(h:tW s)(hm:s.m.length<=68719470000):l8 (s.b.map Bd.e) (s.d.map cQ) (s.k.map bJ.e) (s.m.map bn.e):=by
 have isB:∀(l:List Bd),∀x∈l.map Bd.e,ui x:=fun l x a=>by obtain⟨y,_,rfl⟩:=hb.1 a;exact⟨_,_,_,_,_,rfl,fun z b=>by obtain⟨u,_,rfl⟩:=hb.1 b;exact alQ u⟩
 have j:=aqX h.2;have g:=ac9 h.1.b;have i:=Ks (f:=cQ) (c:=15001*400) s.d fun x a=>by simp only[cQ,hS];exact ac9 (h.1.d x a)
 have d:=ac8 s.k;have e:=Ks (f:=bn.e) (c:=2) s.m fun x _=>dP 2;have ab:=tB h.1.k;refine⟨⟨isB s.b,fun x a=>?_,fun x a=>?_,fun x a=>?_,by simp;omega⟩,Ω⟩
 ·obtain⟨y,_,rfl⟩:=hb.1 a;exact⟨_,rfl,isB y⟩
 ·obtain⟨y,_,rfl⟩:=hb.1 a;exact⟨_,_,rfl⟩
 ·obtain⟨y,_,rfl⟩:=hb.1 a;exact⟨_,_,rfl⟩
def l8.zero:l8 (hF.b.map Bd.e) (hF.d.map cQ) (hF.k.map bJ.e) (hF.m.map bn.e):=⟨⟨fun x h=>by simp[hF]at h,fun x h=>by simp[hF]at h,fun x h=>by simp[hF]at h,fun x h=>by simp[hF]at h,by simp[hF]⟩,by simp[hF,iK]⟩
def arJ(r:ot)(m:Int)(h:0<=m):rM r m<=m:=by
 have c:=vh r.b m h;unfold rM;split
 ·omega
 have d:=vi vh r.d (eF r.b m) Ω;split
 ·omega
 have b:=J7 r.k (fs eF r.d (eF r.b m)) Ω;split
 ·omega
 have a:=vi F1 r.m (lD r.k (fs eF r.d (eF r.b m))) Ω;split<;>omega
@[simp]def awq(n:Nat):(aB.loc n=eg)=er:=eq_false (Ck n)
@[simp]def axh(n:Nat):(eg=aB.loc n)=er:=eq_false fun h=>Ck n h.symm
@[simp]def awr(m b n:Nat):(aB.loc m∈F4 b n)=er:=eq_false fun h=>by obtain⟨_,e,_⟩:=Yy.1 h;cases e
@[simp]def aws(m:Nat)(ε:Nat->Nat)(b:Nat)(p:af):ae (aB.loc m) (dR ε b p)=none:=(KJ ε b p).2 m
def _root_.Go.Pv.CallDo.tree{P:cI}{n:Nat}{args:List af}{st:bp}{d:be Nat}{K:bp->Prop}{ε:Nat->Nat}{b:Nat}{p a c:af}(g:cP p)(aw:bF a=bF p)
  (i:bH P n args (c1 ε b p) fun f e=>f=c/\e=c1 ε b a) (he:st.e=dR ε b p) (ab:aH (rng b (b+bF p)) args) (h:K ⟨e6 d c st.t,st.b,dR ε b a,st.n,st.o++cL (c1 ε b a)⟩):CallDo P n args st d K:=by
 refine CallDo.ob i (ou g) (fun k cs ab=>by simp[ae]at ab) (fun k o ab=>by rw[he];exact ab) (jl (fun k ab=>(Di k).2 ab) _ ab) ?_;rintro r e ⟨rfl,rfl⟩;refine⟨oY aw,?_⟩;rw[he,hK,C8];simpa using h
def Ue(n:Int)(B aY K M:List af)(k:Int):bF (kM n (eh B k).1 (eS B aY k).1 (fG B aY K k).1 (gG B aY K M k).1)=bF (kM n B aY K M):=by rw[G4,G4];have d:bF (bL (eh B k).1)=bF (bL B):=mc (kL ..) (mC ..);have c:bF (cX (eS B aY k).1)=bF (cX aY):=mc (kL ..) (mC ..);have b:bF (b5 (fG B aY K k).1)=bF (b5 K):=mc (kL ..) (mC ..);have a:bF (b5 (gG B aY K M k).1)=bF (b5 M):=mc (kL ..) (mC ..);omega
def afp(b:Nat)(n:Int)(B aY K M:List af)(k:Int):dv b (kM n (eh B k).1 (eS B aY k).1 (fG B aY K k).1 (gG B aY K M k).1)=dv b (kM n B aY K M):=by have g:bF (bL (eh B k).1)=bF (bL B):=mc (kL ..) (mC ..);have f:bF (cX (eS B aY k).1)=bF (cX aY):=mc (kL ..) (mC ..);have e:bF (b5 (fG B aY K k).1)=bF (b5 K):=mc (kL ..) (mC ..);rw[A4,A4,g,f,e];have c:∀b,dv b (bL (eh B k).1)=dv b (bL B):=fun b=>yY (kL ..);have d:∀b,dv b (cX (eS B aY k).1)=dv b (cX aY):=fun b=>yY (kL ..);have a:∀b,dv b (b5 (fG B aY K k).1)=dv b (b5 K):=fun b=>yY (kL ..);have h:∀b,dv b (b5 (gG B aY K M k).1)=dv b (b5 M):=fun b=>yY (kL ..);rw[c,d,a,h]
def X1{b:Nat}{n:Int}{B aY K M:List af}(h:AF B aY K M)(k:Int):aH (rng b (b+bF (kM n B aY K M))) [dv b (kM n B aY K M),aj k]:=⟨n2 _ _ (Hc h),by simp[az],trivial⟩
mutual
def Ut:∀t:Tm,cP (enc t)
 | .mk k n s a=>by simp only[enc,cP,dX,true_and,jf];exact⟨Ω,LO a⟩
def LO:∀l:List Tm,dX (me l)
 |[]=>trivial
 |x::xs=>⟨Ut x,LO xs⟩
end
@[simp]def auE(l:List Tm):dX (l.map enc)=True:=by rw[<-A5];exact h4 (LO l)
@[simp]def auD(l:List T):dX (l.map T.e)=True:=h4 ((xb T.e l).2 fun x _=>by rw[<-mD];exact Ut _)
@[simp]def auA(l:List Bt):dX (l.map Bt.e)=True:=h4 ((xb Bt.e l).2 fun x _=>by show True/\True/\True/\True/\(0<4/\dX (x.t.args.map enc))/\True;simp)
@[simp]def auz(l:List Bd):dX (l.map Bd.e)=True:=h4 ((xb Bd.e l).2 fun x _=>by show True/\True/\True/\True/\(0<4/\dX (x.t.args.map T.e))/\True;simp)
@[simp]def auC(l:List (List Bt)):dX (l.map gA)=True:=h4 ((xb gA l).2 fun x _=>by simp[gA,cP])
@[simp]def auB(l:List (List Bd)):dX (l.map cQ)=True:=h4 ((xb cQ l).2 fun x _=>by simp[cQ,cP])
@[simp]def auF(l:List bJ):dX (l.map bJ.e)=True:=h4 ((xb bJ.e l).2 fun x _=>⟨trivial,trivial,trivial⟩)
@[simp]def auG(l:List bn):dX (l.map bn.e)=True:=h4 ((xb bn.e l).2 fun x _=>⟨trivial,trivial,trivial⟩)
@[reducible,simp] def Du(t:Nat->jH)(n:Int)(b:List Bt)(d:List (List Bt))(k:List bJ)(m:List bn):List af:=[aj n,.slice 5 (t 0) (b.map Bt.e),.slice 1 (t 1) (d.map gA),.slice 2 (t 2) (k.map bJ.e),.slice 2 (t 3) (m.map bn.e)]
@[reducible,simp] def yQ(t:Nat->jH)(n:Int)(b:List Bd)(d:List (List Bd))(k:List bJ)(m:List bn):List af:=[aj n,.slice 5 (t 0) (b.map Bd.e),.slice 1 (t 1) (d.map cQ),.slice 2 (t 2) (k.map bJ.e),.slice 2 (t 3) (m.map bn.e)]
@[reducible,simp] def AO(t:Nat->jH)(a:Tm):List af:=[aj a.kind,aj a.num,.str a.name,.slice 4 (t 0) (a.args.map enc)]
@[reducible,simp] def wR(_:Nat):jH:= .lo eg
@[reducible,simp] def CX(n j:Nat):jH:= .tr (.loc n) j
@[reducible,simp] def QH(_:Nat):jH:= .no
def Uz(b:Nat)(n:Int)(B aY K M:List af):fL b [aj n,bL B,cX aY,b5 K,b5 M]=[aj n,dv b (bL B),dv (b+bF (bL B)) (cX aY),dv (b+bF (bL B)+bF (cX aY)) (b5 K),dv (b+bF (bL B)+bF (cX aY)+bF (b5 K)) (b5 M)]:=rfl
def afn(b:Nat)(a br:Int)(s:List cJ)(ys:List af):fL b [aj a,aj br,.str s,dx ys]=[aj a,aj br,.str s,dv b (dx ys)]:=rfl
def arR{a:Tm}{q:Int}(b:q<=1048576)(h:0<=hD (qa a) q)(k:Int):(bD bG (a.args.map enc) k).2<=k+3145731:=by have J:=QE a q h;have U:=Q8 a;rw[vJ]at U;simp only[hS,iK]at U;rw[x0];omega
def l8.k{B aY K M:List af}(h:l8 B aY K M):1<=(gG B aY K M 1).2/\(gG B aY K M 1).2<=1000000000001:=by have:=h.w;rw[YQ];omega
def afq{a:Tm}:∀y∈a.args.map enc,jE y:=fun y b=>by obtain⟨u,_,rfl⟩:=hb.1 b;exact Il u
def ae5(a br:Int)(s:List cJ)(ys:List af)(k:Int):bF (.agg [aj a,aj br,.str s,dx (bD bG ys k).1])=bF (.agg [aj a,aj br,.str s,dx ys]):=by rw[xa,xa];exact mc (kL ..) (mC ..)
def Us(a:Tm):cP (.agg [aj a.kind,aj a.num,.str a.name,dx (a.args.map enc)]):=by simp[cP,dX]
def l8.opt{O:be da}(h:∀t,O=some t->tW t/\nF t.m):l8 ((O.getD hF).b.map Bd.e) ((O.getD hF).d.map cQ) ((O.getD hF).k.map bJ.e) ((O.getD hF).m.map bn.e):=by
 cases O with
 |none=>exact l8.zero
 |some t=>obtain⟨J,U⟩:=h t rfl;exact l8.of J (U.len J.1.m)
open Classical in
def acC{s:da}(h:tW s)(hm:nF s.m){x:T}(a:x.fit=true)(bx:gg s.n x=true):bT au 96 [s.e,dx [x.e]] (.bool true):=by have:=acB s.r (fun _=>hm) [x.tm];rw[lK ⟨⟨s,rfl,h⟩,⟨[x],rfl,by simp[a],fun t b=>by rw[List.mem_singleton.1 b];exact bx⟩⟩,F0]at this;simpa[mD]using this
open Classical in
def ang{s:da}(h:tW s)(hm:vj s.m){x:T}(j:x.fit=true)(bx:gg s.n x=true){g:List cJ}(a7:ib g=true):fJ au 51 [s.e,x.e,.str g] (pn (tK s x g)):=by
 have c:=acC h hm.w j bx;have f:=hm.w.len h.1.m;have a:=aco h.1.b h.1.m f x j a7;have e:=ash s h.1.b.len (fun z q=>(h.1.d z q).len) (by have:=tB h.1.k;omega) f;unfold tK;by_cases g1:(x.ap (cC s.b)).size<=5000
 ·rw[if_pos g1]at a;rw[if_pos g1];cases hu:ko s.m (x.ap (cC s.b)) g with
  |none=>
   rw[hu]at a;clear h e hu g1 f hm;obtain⟨n,b,d,bs,m⟩:=s;simp only[da.e,iX,Option.bind_none,k5,kh]at c a⊢;refine fJ.mk mixed a1 Tryz.func51 Fe Ψ fun k κ=>?_;unfold AQ;simp;(repeat' first|refine ao ?_|refine aO c ?_|refine aP c ?_|refine aO a ?_|refine aP a ?_|simp);all_goals(refine hV.val Ψ ?_;simp[bc,bf,a6,e3,hj,ez,gO,ed,gH,tnL,tn,fm,fX,fold,hy,hv,iA,ae,eg,cf,b7])
   all_goals simp[pn,hF,da.kk]
  |some l=>
   rw[hu]at a;obtain⟨G,p,o⟩:=hm.mrk hu;have i:=Y5 (h.1.mrk j bx a7 hu) p o;rw[lI];generalize j5 {s with m:=l}=O at i;clear h hu g1 f hm;obtain⟨n,b,d,bs,m⟩:=s;simp only[da.e,iX,lJ,rV]at c a e i⊢;unfold pn da.kk at i⊢;refine fJ.mk mixed a1 Tryz.func51 Fe Ψ fun k κ=>?_;unfold AQ;simp;(repeat' first|refine ao ?_|refine aO c ?_|refine aP c ?_|refine aO a ?_|refine aP a ?_|refine aO e ?_|refine aP e ?_|simp);(refine CallDo.own Ψ (i) (by simp[eg]) ?_;simp);(repeat' first|refine ao ?_|simp);all_goals(refine hV.val Ψ ?_;simp[bc,bf,a6,e3,hj,ez,gO,ed,gH,tnL,tn,fm,fX,fold,hy,hv,iA,ae,eg,cf,b7])
   all_goals simp[da.kk]
 ·rw[if_neg g1];rw[if_neg g1]at a;clear h e g1 f hm;obtain⟨n,b,d,bs,m⟩:=s;simp only[da.e,iX,Option.bind_none,k5,kh]at c a⊢;refine fJ.mk mixed a1 Tryz.func51 Fe Ψ fun k κ=>?_;unfold AQ;simp;(repeat' first|refine ao ?_|refine aO c ?_|refine aP c ?_|refine aO a ?_|refine aP a ?_|simp);all_goals(refine hV.val Ψ ?_;simp[bc,bf,a6,e3,hj,ez,gO,ed,gH,tnL,tn,fm,fX,fold,hy,hv,iA,ae,eg,cf,b7])
  all_goals simp[pn,hF,da.kk]
def aqG(s:da):∃t:da,∃q:Bool,CM s= .tuple [t.e,.bool q]/\(q=true->j5 s=some t)/\(q=false->j5 s=none):=by
 refine⟨_,_,rfl,(fun h=>?_),fun h=>?_⟩
 ·obtain⟨t,a⟩:=fx.1 h;rw[Qj a];exact a
 ·cases e:j5 s with
  |none=>rfl
  |some t=>rw[e]at h;cases h
noncomputable def JN(s:da)(x:T)(g:List cJ):af:=if(x.ap (cC s.b)).size<=5000 then(match ko s.m (x.ap (cC s.b)) g with
 |none=>.tuple [hF.e,.bool false]
 |some l=>CM {s with m:=l})else .tuple [hF.e,.bool false]
def aqI(s:da)(x:T)(g:List cJ):∃t:da,∃q:Bool,JN s x g= .tuple [t.e,.bool q]/\(q=true->tK s x g=some t)/\(q=false->tK s x g=none):=by
 unfold JN tK;by_cases g1:(x.ap (cC s.b)).size<=5000
 ·rw[if_pos g1,if_pos g1];cases ko s.m (x.ap (cC s.b)) g with
  |none=>exact⟨hF,false,rfl,(fun h=>by cases h),fun _=>rfl⟩
  |some l=>exact aqG _
 ·rw[if_neg g1,if_neg g1];exact⟨hF,false,rfl,(fun h=>by cases h),fun _=>rfl⟩
def asQ{s:da}(h:oR s)(hm:vj s.m){x:T}(o:x.fit=true)(bx:gg s.n x=true){g:List cJ}(a7:ib g=true)(y:T)(kk:Int):bT au 115 [s.e,aj 3,x.e,y.e,aj kk,.str g] (JN s x g):=by
 have c:=Kk s.b h.b.len x;have a:=fun k=>acN s.m (hm.w.len h.m) (x.ap (cC s.b)) k g h.m.asc;unfold JN;by_cases g1:(x.ap (cC s.b)).size<=5000
 ·have a:=a g1;rw[lK g1]at c;rw[if_pos g1];cases hu:ko s.m (x.ap (cC s.b)) g with
  |none=>rw[hu]at a;generalize x.ap (cC s.b)=y at c a;clear h hu g1;obtain⟨n,b,d,bs,m⟩:=s;simp only[da.e,iX,hF,k5,kh]at c a⊢;refine bI a1 Tryz.func115 Pf fun f=>?_;unfold G0;exact cn
  |some l=>rw[hu]at a;obtain⟨G,j,i⟩:=hm.mrk hu;have e:=acO (h.mrk o bx a7 hu) j i;generalize x.ap (cC s.b)=y at c a;simp only[CM]at e⊢;generalize Ai {s with m:=l}=t at e;generalize (j5 {s with m:=l}).isSome=q at e;clear h hu g1;obtain⟨n,b,d,bs,m⟩:=s;obtain⟨tn,u,r,p,tm⟩:=t;simp only[da.e,iX,lJ,rV]at c a e⊢;refine bI a1 Tryz.func115 Pf fun f=>?_;unfold G0;exact cn
 ·rw[mx g1]at c;rw[if_neg g1];generalize x.ap (cC s.b)=y at c a;clear a;clear h g1;obtain⟨n,b,d,bs,m⟩:=s;simp only[da.e,hF]at c⊢;refine bI a1 Tryz.func115 Pf fun f=>?_;unfold G0;exact cn
def as4{s:da}(h:tW s)(hm:vj s.m){x:T}(a:x.fit=true)(bx:gg s.n x=true){g:List cJ}(a7:ib g=true):bT au 50 [s.e,x.e,.str g] (qT (tK s x g)):=by have c:=asQ h.1 hm a bx a7 x 0;obtain⟨t,q,i,j,f⟩:=aqI s x g;rw[i]at c;have k:=asT h hm.w a a bx bx c j f fun e=>⟨YY h.1 a bx a7 e,YZ hm e⟩;have l:=hE g;rw[a7]at l;generalize tK s x g=O at k⊢;clear h hm c i j f;obtain⟨n,b,d,bs,m⟩:=s;simp only[qT,da.e]at k⊢;refine bI a1 Tryz.func50 Pa fun o=>?_;unfold GV;exact cn
def AS:aY:=(.sq (.region [c0 3 0,c0 4 1,bz 6 false]) (.sq (aa [I 19 2,cb 20 (.slen (.t 19)),aV 21 .gtr 20 1048576] (aW 21 (aa [bz 6 true] .ret) .skip)) (.sq (.region [bQ 7 1048576]) (.sq (.region [bk 22 5 3,I 23 7,cc 24 26 22 23,I 7 24]) (.sq (aa [I 25 7,aV 26 .lss 25 0] (aW 26 (aa [bz 6 true] .ret) .skip)) (.sq (.region [bk 27 4 4,I 28 7,cc 29 15 27 28,I 7 29]) (.sq (aa [I 30 7,aV 31 .lss 30 0] (aW 31 (aa [bz 6 true] .ret) .skip)) (.sq (.drawn true 127 [bk 33 5 3,cY 34 28 33,bk 35 4 4,cY 36 18 35,I 37 2,dT 38 50 [.t 34,.t 36,.t 37],I 32 38,cV 39 0 32,cV 40 1 32,dI 8 ig,bV 5 8 39,I 9 40]) (.sl (.sq (.region [bk 41 5 3,cY 42 28 41,dI 10 ig,bV 5 10 42]) (.sq (.region [bk 43 4 4,cY 44 18 43,dI 11 eC,bV 4 11 44]) (.sq (.region [bk 46 5 10,bk 47 4 11,I 48 2,dT 49 51 [.t 46,.t 47,.t 48],I 45 49,cV 50 0 45,cV 51 1 45,dI 12 ig,bV 5 12 50,I 13 51]) (.sq (aa [bk 52 5 12,bk 53 5 8,cc 54 30 52 53,cO 55 54,I 56 55,cg 56 false 57 13,cg 56 false 58 9,ax 56 false (cb 59 (.beq true none (.t 57) (.t 58))),ds 60 56 59] (aW 60 (aa [bz 6 false] .ret) .skip)) (.sq (.seq (.drawn true 127 [bk 61 5 10,bk 62 5 3,cY 63 28 62,cc 64 30 61 63,cO 65 64]) (aW 65 (aa [bz 6 false] .ret) .skip)) (.sq (.seq (.drawn true 127 [bk 66 4 11,bk 67 4 4,cY 68 18 67,cc 69 22 66 68,cO 70 69]) (aW 70 (aa [bz 6 false] .ret) .skip)) (.sq (.region [bQ 14 1]) (.th 10 (.sq (.region [bk 71 5 10,I 72 14,cc 73 44 71 72,I 14 73]) (.th 11 (.sq (.region [bk 74 4 11,I 75 14,cc 76 23 74 75,I 14 76]) (.sq (aa [I 77 14,aV 78 .lss 77 0,I 79 78,ax 79 false (bk 80 5 12),ax 79 false (bk 81 5 8),ax 79 false (cc 82 30 80 81),ax 79 false (cO 83 82),ds 84 79 83,I 85 84,cg 85 false 86 13,cg 85 false 87 9,ax 85 false (cb 88 (.beq true none (.t 86) (.t 87))),ds 89 85 88] (aW 89 (aa [bz 6 false] .ret) .skip)) (.sq (.region [bQ 15 1]) (.th 12 (.sq (.region [bk 90 5 12,I 91 15,cc 92 44 90 91,I 15 92]) (.sq (.region [bQ 16 1]) (.sq (.region [bk 93 5 12,I 94 16,cc 95 45 93 94,I 16 95]) (.sq (aa [I 96 16,aV 97 .lss 96 0] (aW 97 (aa [bz 6 false] .ret) .skip)) (.sq (aa [I 98 16,I 99 15,bu 100 .neq 98 99] (aW 100 (aa [bz 6 false] .ret) .skip)) (.sq (.drawn true 127 [bk 102 5 3,cY 103 28 102,bk 104 4 4,cY 105 18 104,I 106 2,dT 107 51 [.t 103,.t 105,.t 106],I 101 107,cV 108 0 101,cV 109 1 101,dI 17 ig,bV 5 17 108,I 18 109]) (.sq (aa [bk 110 5 17,bk 111 5 8,cc 112 30 110 111,cO 113 112,I 114 113,cg 114 false 115 18,cg 114 false 116 9,ax 114 false (cb 117 (.beq true none (.t 115) (.t 116))),ds 118 114 117] (aW 118 (aa [bz 6 false] .ret) .skip)) (.sq (.region [bQ 16 1]) (.sq (.region [bk 119 5 12,I 120 16,cc 121 45 119 120,I 16 121]) (.sq (aa [I 122 16,aV 123 .lss 122 0] (aW 123 (aa [bz 6 false] .ret) .skip)) (.sq (aa [I 124 16,I 125 15,bu 126 .neq 124 125] (aW 126 (aa [bz 6 false] .ret) .skip)) (.sq (.region [bz 6 true]) (.of .ret))))))))))))))))))))))))))))))))))))
def Fg:Hs aT AS [.tmp 6] 3 lG=true:=bi
def DM:au.funcs[(12:Nat)]? =some lG:=Tryz.func12
end
end Go.Proofs.YtahlgcidhnjlbaaGreat
namespace Go.Pv
section
open Go Go.RowKit
section
variable {w:World} {ν μ:bd} {k:aB} {m:Nat} (ar:oi (fun _=>er) w ν w μ) (ab:∀n v,ν.ow k=some (n,v)->μ.ow (.obj m)=some (n,v))
include ar ab
end
end
end Go.Pv
namespace Go.Proofs.YtahlgcidhnjlbaaGreat
section
open Go Go.Pv
def akS(v:List Bd)(b:Bd):Bool:=decide ((b.t.ap (cC v)).size<=5000)&& !decide (cC v b.v=b.t.ap (cC v))
def ae9(v:List Bd)(d:List Bd):Bool:=d.any (akS v)
def anp(v:List Bd)(b:Bd):Bool:=decide ((b.t.ap (cC v)).size<=5000)&&decide (b.t.ap (cC v)=cC v b.v)
structure arp (s:da) (v:List Bd):Prop where
 b:s.b.all (anp v)=true
 d:s.d.all (ae9 v)=true
 k:s.k.all (fun k=>decide ((cC v k.v).kind=k.k))=true
 m:s.m.all (fun m=> !(cC v m.v).has m.s)=true
def arK{r:ot}{q0:Int}(hw:r.wf)(w:q0<=1048576)(p:0<=q0)(h:0<=rM r q0):∃u:gn,r=u.h/\(iv u.m->u.m.length<=524288):=by
 obtain⟨n,b,d,k,l⟩:=r;obtain⟨c,f,j,a⟩:=hw;simp only at c f j a;unfold rM at h;simp only at h;have t:=vh b q0 Ω;split at h
 ·omega
 have v:=vi vh d (eF b q0) Ω;split at h
 ·omega
 have s:=J7 k (fs eF d (eF b q0)) Ω;split at h
 ·omega
 split at h
 ·omega
 obtain⟨b2,rfl⟩:=abU b q0 c Ω Ω Ω;obtain⟨g,rfl⟩:=QC vh (P:=yy) abU d (eF (hc b2) q0) f Ω Ω Ω;generalize fs eF (.l (g.map hc)) (eF (hc b2) q0)=m at*;cases k with
 |b=>simp only[lD]at*;omega
 |l bs=>
  generalize lD (.l bs) m=i at*;have q:=vi F1 l i Ω;obtain⟨e,rfl⟩:=QC F1 (P:=fun x=>x.s.wf) arG l i a Ω Ω Ω;refine⟨⟨n,b2,g,bs,e⟩,rfl,fun hm=>?_⟩;simp only at hm⊢;simp only[fs,mr]at h;split at h
  ·omega
  ·have:=ab3 e _ (fun x o=>am7 (hm.at' x o).2) h;simp only[List.length_map]at this;omega
def Vf{n:Int}{a:Tm}:o8 n [a,a]↔o8 n [a]:=by
 constructor
 ·rintro⟨l,e,J,U⟩;match l,e with
  |[],e=>simp at e
  |[_],e=>simp at e
  |_::_::_::_,e=>simp at e
  |[x,y],e=>exact⟨[x],by simp at e;simp[e.1],fun t b=>J t (by simp at b;simp[b]),fun t b=>U t (by simp at b;simp[b])⟩
 ·rintro⟨l,e,J,U⟩;match l,e with
  |[],e=>simp at e
  |_::_::_,e=>simp at e
  |[x],e=>exact⟨[x,x],by simp at e;simp[e],fun t b=>J t (by simpa using b),fun t b=>U t (by simpa using b)⟩
def air{n:Int}{x:T}(h:o8 n [x.tm]):x.fit=true/\gg n x=true:=(fun h=>⟨h.1.1,h.2.1⟩) (Vg (Vf.2 h))
open Classical in
def Y3(r:gn)(c:iv r.m->nF r.m)(a:Tm)(f:List cJ)(e:¬(kc r/\o8 r.n [a])):fJ au 51 [r.e,enc a,.str f] (pn none):=by
 have b:=acB r c [a];simp only[ha,List.map_nil]at b;rw[mx e]at b;clear e c;obtain⟨n,b2,d,k,m⟩:=r;simp only[gn.e]at b⊢;refine fJ.mk mixed a1 Tryz.func51 Fe Ψ fun g κ=>?_;unfold AQ;simp;(repeat' first|refine ao ?_|refine aO b ?_|refine aP b ?_|simp);all_goals(refine hV.val Ψ ?_;simp[bc,bf,a6,e3,hj,ez,gO,ed,gH,tnL,tn,fm,fX,fold,hy,hv,iA,ae,eg,cf,b7])
 all_goals simp[pn,hF,da.kk]
def ar2{s:List Bd}(c:fp s){l:List bn}(b:iv l)(t:T)(d:t.fit=true){g:List cJ}(a7:ib g=false):
  bT au 120 [bL (s.map Bd.e),b5 (l.map bn.e),t.e,.str g] (.tuple [b5 [],.bool false]):=by
 have e:=q1 c;have f:=Kf d;have h:=QU b;have a:=tY g;rw[a7]at a;refine bI a1 Tryz.func120 I7 fun i=>?_;unfold Dv;exact cn
def anh{s:da}(h:tW s)(hm:nF s.m){x:T}(c:x.fit=true)(bx:gg s.n x=true){f:List cJ}(a7:ib f=false):fJ au 51 [s.e,x.e,.str f] (pn none):=by
 have e:=acC h hm c bx;have a:=ar2 h.1.b h.1.m x c a7;clear h hm c bx a7;obtain⟨n,b,d,bs,m⟩:=s;simp only[da.e]at e a⊢;refine fJ.mk mixed a1 Tryz.func51 Fe Ψ fun g κ=>?_;unfold AQ;simp;(repeat' first|refine ao ?_|refine aO e ?_|refine aP e ?_|refine aO a ?_|refine aP a ?_|simp);all_goals(refine hV.val Ψ ?_;simp[bc,bf,a6,e3,hj,ez,gO,ed,gH,tnL,tn,fm,fX,fold,hy,hv,iA,ae,eg,cf,b7])
 all_goals simp[pn,hF,da.kk]
def acT(r:gn)(a:Tm)(b:List cJ)(a7:ib b=false):bT au 50 [r.e,enc a,.str b] (qT none):=by have c:=hE b;rw[a7]at c;obtain⟨n,b2,d,k,m⟩:=r;simp only[qT,gn.e,da.e,hF,k5,kh];refine bI a1 Tryz.func50 Pa fun e=>?_;unfold GV;exact cn
def as5(r:gn)(c:iv r.m->nF r.m)(a:Tm)(b:List cJ)(a7:ib b=true)(e:¬(kc r/\o8 r.n [a])):bT au 50 [r.e,enc a,.str b] (qT none):=by have g:=asU r c a a (fun h=>e ⟨h.1,Vf.1 h.2⟩) 3 0 b;have f:=hE b;rw[a7]at f;clear e c;obtain⟨n,b2,d,k,m⟩:=r;simp only[qT,gn.e,da.e,hF,k5,kh]at g⊢;refine bI a1 Tryz.func50 Pa fun i=>?_;unfold GV;exact cn
def agp(r:gn)(i:iv r.m->r.m.length<=524288)(a:Tm)(b:List cJ):∃(S:da) (B:Bool),l8 (S.b.map Bd.e) (S.d.map cQ) (S.k.map bJ.e) (S.m.map bn.e)/\bT au 50 [r.e,enc a,.str b] (.tuple [S.e,.bool B])/\fJ au 51 [r.e,enc a,.str b] fun κ=>.tuple [S.kk κ,.bool B]:=by
 have l:iv r.m->vj r.m:=fun h=>⟨r.m.map (·.s),by have:=i h;simp;omega,fun _ c=>List.mem_map_of_mem c⟩;have f:iv r.m->nF r.m:=fun h=>(l h).w;by_cases g:kc r/\o8 r.n [a];rotate_left
 ·cases a7:ib b
  ·exact⟨_,_,l8.zero,acT r a b a7,Y3 r f a b g⟩
  ·exact⟨_,_,l8.zero,as5 r f a b a7 g,Y3 r f a b g⟩
 obtain⟨⟨s,rfl,d⟩,k⟩:=g;obtain⟨x,rfl,_⟩:=Tm.fits_ex (Mi k a Ψ);obtain⟨c,bx⟩:=air k;have e:vj s.m:=l d.1.m;cases a7:ib b
 ·have J:=anh d e.w c bx a7;rw[<-F0,<-mD]at J;exact⟨_,_,l8.zero,acT s.r x.tm b a7,J⟩
 ·rw[F0,mD];exact⟨_,_,l8.opt fun t j=>⟨YY d.1 c bx a7 j,YZ e j⟩,as4 d e c bx a7,ang d e c bx a7⟩
def ar3(r:ot)(hw:r.wf)(a:cG)(h:gW)(w:a.wf)(a7:h.wf):bT au 12 [r.e,a.e,h.e] (.bool true):=by
 cases h with
 |b x=>
  have g0:(1048576:Int)<x.size:=by have:mV x.size:=a7;unfold mV lim at this;omega
  obtain⟨n,b2,d,k,l⟩:=r;rw[cG.e_eq];simp only[ot.e,gW.e];clear hw w a7;refine bT.mkD mixed a1 DM Fg Ψ dl fun v=>?_;unfold AS;exact cn
 |s h=>
 simp only[gW.e];by_cases g0:(1048576:Int)<h.length
 ·obtain⟨n,b2,d,k,l⟩:=r;rw[cG.e_eq];simp only[ot.e];clear hw w a7;refine bT.mkD mixed a1 DM Fg Ψ dl fun v=>?_;unfold AS;have W:h.length<=68719476736:=by simp[eI,eN,eJ,lim]at v;omega
  exact cn
 have o:=atf r hw 1048576 Ω Ω;have y:=arJ r 1048576 Ω;by_cases g:rM r 1048576<0
 ·generalize rM r 1048576=q at o g;clear hw y;obtain⟨n,b2,d,k,l⟩:=r;simp only[ot.e]at o⊢;refine bT.mkD mixed a1 DM Fg Ψ dl fun v=>?_;unfold AS;exact cn
 obtain⟨r,rfl,E⟩:=arK (q0:=1048576) hw Ω Ω Ω;clear hw;have e8:=l8.raw (r:=r) (q:=1048576) Ω Ω Ω;rw[arw]at o⊢;generalize rM r.h 1048576=t at o g y;have u:=acX a w t Ω Ω;have z:=yr a t Ω;by_cases g2:hD a t<0
 ·generalize hD a t=X at u g2;rw[cG.e_eq]at u;clear y E e8 z;obtain⟨n,b2,d,k,l⟩:=r;simp only[gn.e]at o⊢;refine bT.mkD mixed a1 DM Fg Ψ dl fun v=>?_;unfold AS;exact cn
 obtain⟨a,rfl⟩:=QD a t w Ω Ω Ω;have L:=arR (a:=a) (q:=t) Ω Ω;rw[QM]at u⊢;generalize hD (qa a) t=X at u g2 z;have t1:=atk r;have A:=Y7 r;have F:=acy r;have t2:=atl a;have N:=OX a;have R:=acz a;obtain⟨S,B,j,s1,i1⟩:=agp r E a h;have m:=acy S.r;rw[F0]at m;clear y w z E;have J:bT au 51 [r.e,enc a,.str h] (.tuple [S.e,.bool B]):=by have:=i1.val (by simp[da.kk,b7,cf,az,aH]);simpa[da.kk,da.e,b7,cf]using this
 obtain⟨n,b2,d,k,l⟩:=r;obtain⟨c,e,f,i,ht⟩:=S;unfold da.kk at i1;unfold gn.kk at A;unfold Tm.k at N;simp only[gn.e,da.e]at o t1 s1 i1 J F m A⊢;refine bT.mkD mixed a1 DM Fg Ψ dl fun v=>?_;unfold AS;have W:h.length<=68719476736:=by simp[eI,eN,eJ,lim]at v;omega
 simp;(repeat' first|refine ao ?_|refine aO o ?_|refine aP o ?_|refine aO u ?_|refine aP u ?_|refine aO t1 ?_|refine aP t1 ?_|refine aO t2 ?_|refine aP t2 ?_|refine aO s1 ?_|refine aP s1 ?_|simp[g0,g,g2]);refine af9 ⟨[(2,.str h),(3,.ptr (.loc 0) 0),(4,.ptr (.loc 1) 0),(8,.ptr (.loc 10) 0),(9,.bool B)],
  [(.loc 0,Du QH n b2 d k l),(.loc 1,AO QH a),(.loc 10,yQ QH c e f i ht)],[],12,[]⟩ b9 ?_ ?_
 ·simp[JU,JW,JV,yl,Ah]
 simp[wP,JX,FN,lC,yk];(repeat' first|refine ao ?_|simp);(refine CallDo.own Ψ (A) (by simp[eg]) ?_;simp);(repeat' first|refine ao ?_|simp);(refine CallDo.own Ψ (N) (by simp[eg]) ?_;simp);(repeat' first|refine ao ?_|simp);(refine CallDo.own Ψ (i1) (by simp[eg]) ?_;simp);(repeat' first|refine ao ?_|refine aO m ?_|refine aP m ?_|refine aO t1 ?_|refine aP t1 ?_|refine aO t2 ?_|refine aP t2 ?_|refine aO F ?_|refine aP F ?_|refine aO R ?_|refine aP R ?_|simp);refine LZ ⟨[(2,.str h),(3,.ptr (.loc 0) 0),(4,.ptr (.loc 1) 0),(8,.ptr (.loc 10) 0),(9,.bool B),(10,.ptr (.loc 13) 0),(11,.ptr (.loc 15) 0),(12,.ptr (.loc 17) 0),(13,.bool B),(14,aj 1)],
  [(.loc 0,Du wR n b2 d k l),(.loc 1,AO wR a),(.loc 10,yQ wR c e f i ht),(.loc 13,Du (CX 12) n b2 d k l),(.loc 15,AO (CX 14) a),(.loc 17,yQ (CX 16) c e f i ht)],[],20,[eg]⟩ 1000000 b9 ?_ fun ε=>?_
 ·simp[Ar,qX,fm,fX,tn,tnL,Cw,ae,eg]
 simp[sH,sG,uu,sR,jJ,ox,b7,cf,tn,tnL,ae];(repeat' first|refine ao ?_|simp[Uz]);have f1:=VN n e8.f 1 1000000 ε Ω e8.le;have f2:=X1 (b:=1000000) (n:=n) e8.f 1;rw[A4]at f1 f2;refine CallDo.tree (Hc e8.f) (Ue ..) f1 rfl f2 ?_;obtain⟨M,O⟩:=e8.k;clear f1 f2 e8;simp only at M O;generalize (gG (b2.map Bt.e) (d.map gA) (k.map bJ.e) (l.map bn.e) 1).2=p at M O⊢;simp;(repeat' first|refine ao ?_|simp);refine LZ ⟨[(2,.str h),(3,.ptr (.loc 0) 0),(4,.ptr (.loc 1) 0),(8,.ptr (.loc 10) 0),(9,.bool B),(11,.ptr (.loc 15) 0),(12,.ptr (.loc 17) 0),(13,.bool B),(14,aj p)],
  [(.loc 0,Du wR n b2 d k l),(.loc 1,AO wR a),(.loc 10,yQ wR c e f i ht),(.loc 15,AO (CX 14) a),(.loc 17,yQ (CX 16) c e f i ht)],[],20,[eg]⟩ 1000000 b9 ?_ fun ε=>?_
 ·simp[Ar,qX,fm,fX,tn,tnL,Cw,ae,eg]
 simp[sH,sG,uu,sR,jJ,ox,b7,cf,tn,tnL,ae];(repeat' first|refine ao ?_|simp[afn]);have f1:=ai8 a.kind a.num a.name (a.args.map enc) afq p 1000000 ε Ω (by have:=L p;omega);have f2:aH (rng 1000000 _) [_,aj p]:=⟨n2 _ 1000000 (Us a),by simp[az],trivial⟩;rw[DF]at f1 f2;refine CallDo.tree (Us a) (ae5 ..) f1 (by first|rfl|rw[vJ]) f2 ?_;have G:=mn bG (a.args.map enc) p;have H:=L p;clear f1 f2 L;generalize (bD bG (a.args.map enc) p).2=K2 at G H⊢;have U:¬K2<0:=Ω
 simp[U];(repeat' first|refine ao ?_|refine aO m ?_|refine aP m ?_|simp[U]);refine LZ ⟨[(2,.str h),(3,.ptr (.loc 0) 0),(4,.ptr (.loc 1) 0),(8,.ptr (.loc 10) 0),(9,.bool B),(12,.ptr (.loc 17) 0),(15,aj 1)],
  [(.loc 0,Du wR n b2 d k l),(.loc 1,AO wR a),(.loc 10,yQ wR c e f i ht),(.loc 17,yQ (CX 16) c e f i ht)],[],20,[eg]⟩ 1000000 b9 ?_ fun ε=>?_
 ·simp[Ar,qX,fm,fX,tn,tnL,Cw,ae,eg]
 simp[sH,sG,uu,sR,jJ,ox,b7,cf,tn,tnL,ae];(repeat' first|refine ao ?_|simp[Uz]);have j:l8 (e.map Bd.e) (f.map cQ) (i.map bJ.e) (ht.map bn.e):=j;have f1:=VN c j.f 1 1000000 ε Ω j.le;have f2:=X1 (b:=1000000) (n:=c) j.f 1;have f3:=aiW c j.f 1 1000000 ε Ω j.le;have f4:=f2;have f5:=Hd (n:=c) j.f 1;have f6:=Ue c (e.map Bd.e) (f.map cQ) (i.map bJ.e) (ht.map bn.e) 1;have f7:=j.k;have f8:=Hc (n:=c) j.f;rw[<-f6]at f4;rw[afp]at f3;obtain⟨P,V⟩:∃P,P=kM c (eh (e.map Bd.e) 1).1 (eS (e.map Bd.e) (f.map cQ) 1).1 (fG (e.map Bd.e) (f.map cQ) (i.map bJ.e) 1).1 (gG (e.map Bd.e) (f.map cQ) (i.map bJ.e) (ht.map bn.e) 1).1:=⟨_,rfl⟩;rw[<-V]at f1 f3 f4 f5 f6;generalize (gG (e.map Bd.e) (f.map cQ) (i.map bJ.e) (ht.map bn.e) 1).2=K at f1 f3 f7;rw[A4]at f1 f2 f3 f4;clear V j;refine CallDo.tree f8 f6 f1 rfl f2 ?_;have Q:¬K<0:=Ω
 clear f1 f2 f6 f7 f8;simp;(repeat' first|refine ao ?_|simp);refine CallDo.tree f5 rfl f3 ?_ f4 ?_
 ·rfl
 simp[Q];(repeat' first|refine ao ?_|refine aO t1 ?_|refine aP t1 ?_|refine aO t2 ?_|refine aP t2 ?_|refine aO J ?_|refine aP J ?_|refine aO m ?_|refine aP m ?_|simp[Q]);refine CallDo.tree f5 rfl f3 ?_ f4 ?_
 ·rfl
 exact cn
end
section
open Go Go.Pv Go.ChangeShapes Go.WideShapes Go.ChangeAt Go.RowKit Go.Deep
def ary{H:Type}{enc:gQ×Value->H}{W:World}{spare:Nat->Bool}{held:Bool}{u:ByteArray}{x:DataW H×List MemPlace}{fuel:Nat}(h:jB enc au W 0 spare held fuel 9 [.string u]=some x):∃s:gW,s.wf/\aU W (rb W) s.e (.string u):=by obtain⟨s,v,a,e,b⟩:=Qs h;cases e;exact⟨s,a,b.1⟩
end
end Go.Proofs.YtahlgcidhnjlbaaGreat
