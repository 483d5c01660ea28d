/- FreshVars, exact. -/
import Derived.Test.YtahlgcidhnjlbaaGreatProg
import Derived.Test.YtahlgcidhnjlbaaGreatH7
set_option linter.all false
set_option maxHeartbeats 4000000
set_option maxRecDepth 4000
open Go renaming Program->cG
open Go.IntKind renaming i64->vf
open Go.IntWalk renaming i64_in->pf
open Go.Proofs.Tryz renaming f9->lz,prog->au
open Go.Proofs.YtahlgcidhnjlbaaGreat.Rows renaming fnExactFreshVarsRow->kv,fnExactFreshVarsSpec->tR
open List renaming drop_eq_getElem_cons->lA,getElem?_append_right->vg,getElem?_eq_getElem->cl,getElem?_eq_some_iff->fM,length_cons->mI,map_cons->hc,mem_append->j2,mem_cons->gK,mem_map->hz,mem_of_getElem?->fx,take_length->jv,take_of_length_le->iE
open Nat renaming le_refl->dL,mul_le_mul_right->rG
open Option.some renaming inj->e7
open _root_ renaming False->et,Option->bc,UInt8->cW,and_true->jk,congrArg->ff,decide_eq_false->po,decide_eq_true->n5,eq_true->h0
namespace Go.Proofs.YtahlgcidhnjlbaaGreat
section
open Go
set_option maxRecDepth 100000 in
def ad9:joinedFacts au 9 lz tR kv=true:=(jb (jb (jb (jb (jb (jb (jb (jb (jb (jb (jb (jb (jb (jb (jb (jb (jb (jb (jb (jb (jb (jb (jb (jb (jb (jb (jb (jb (jb (jb (jb adD adE) adP) ad0) ad3) ad4) ad5) ad6) ad7) ad8) adF) adG) adH) adI) adJ) adK) adL) adM) adN) adO) adQ) adR) adS) adT) adU) adV) adW) adX) adY) adZ) ad1) ad2)
end
end Go.Proofs.YtahlgcidhnjlbaaGreat
namespace Go.Pv
section
open Go Go.RowKit
def ls{ε:Nat->Nat}{b sz:Nat}{t:jS}:∀{xs:List af},xs≠[]->dP ε b (.slice sz t xs)=(.obj b,⟨xs.length,ε b,sz,some (fR (b+1) xs)⟩)::gJ ε (b+1) xs
 |[],h=>absurd rfl h
 |_::_,_=>rfl
def uk{b sz:Nat}{t:jS}:∀{xs:List af},xs≠[]->dx b (.slice sz t xs)= .row sz (.obj b) xs.length
 |[],h=>absurd rfl h
 |_::_,_=>rfl
def yK{b sz:Nat}{t:jS}:∀{xs ys:List af},xs.length=ys.length->dx b (.slice sz t xs)=dx b (.slice sz t ys)
 |[],[],_=>rfl
 |[],_::_,h=>by simp at h
 |_::_,[],h=>by simp at h
 |_::xs,_::ys,h=>by simp only[dx];simp at h;rw[h]
def uj{b:Nat}{l r:List af}{x:af}{i:Nat}(hi:l.length=i):(fR b (l++x::r))[i]? =some (dx (b+c6 l) x):=by subst hi;rw[AK,vg (by rw[oX];exact dL _)];simp[oX,fR]
def GH{b:Nat}{l r:List af}{x x':af}{i:Nat}(hi:l.length=i)(aw:bE x'=bE x):(fR b (l++x::r)).set i (dx (b+c6 l) x')=fR b (l++x'::r):=by subst hi;rw[AK,AK,List.set_append_right _ _ (by rw[oX];exact dL _)];simp[oX,fR,aw]
def X0(c2:Int->List cW)(l:List af)(x:af)(k:Int):bF c2 (l++[x]) k=((bF c2 l k).1++[(dG c2 x (bF c2 l k).2).1],(dG c2 x (bF c2 l k).2).2):=by rw[Ik];simp[bF]
def alX(c2:Int->List cW)(l:List af)(k:Int)(i:Nat):(bF c2 (l.take i) k).2<=(bF c2 l k).2:=by have h:=Ik c2 (l.take i) (l.drop i) k;rw[List.take_append_drop]at h;rw[h];exact mz c2 _ _
def kU(c2:Int->List cW)(l:List af)(k:Int)(i:Nat):List af:=(bF c2 (l.take i) k).1++l.drop i
def EA(c2:Int->List cW)(l:List af)(k:Int):kU c2 l k 0=l:=by simp[kU,bF]
def pW(c2:Int->List cW)(l:List af)(k:Int):kU c2 l k l.length=(bF c2 l k).1:=by simp[kU]
def nU(c2:Int->List cW)(l:List af)(k:Int)(i:Nat):(kU c2 l k i).length=l.length:=by simp[kU,lp];omega
def XX(c2:Int->List cW)(l:List af)(k:Int)(i:Nat):c6 (kU c2 l k i)=c6 l:=by unfold kU;rw[K2,nA,<-K2,List.take_append_drop]
def XY(c2:Int->List cW){l:List af}(k:Int)(i:Nat)(h:dZ l):dZ (kU c2 l k i):=by rw[<-List.take_append_drop i l,Lc]at h;unfold kU;rw[Lc];exact⟨qW c2 _ _ h.1,h.2⟩
def Ey(c2:Int->List cW){l:List af}(k:Int){i:Nat}{x:af}(h:l[i]? =some x):kU c2 l k i=(bF c2 (l.take i) k).1++x::l.drop (i+1):=by unfold kU;congr 1;obtain⟨hi,e⟩:=fM.1 h;rw[lA hi,e]
def Ez(c2:Int->List cW){l:List af}(k:Int){i:Nat}{x:af}(h:l[i]? =some x):kU c2 l k (i+1)=(bF c2 (l.take i) k).1++(dG c2 x (bF c2 (l.take i) k).2).1::l.drop (i+1):=by
 unfold kU;have:l.take (i+1)=l.take i++[x]:=by rw[List.take_add_one,h];rfl
 rw[this,X0];simp
def EB(c2:Int->List cW){l:List af}(k:Int){i:Nat}{x:af}(h:l[i]? =some x):(bF c2 l k).1=(bF c2 (l.take i) k).1++(dG c2 x (bF c2 (l.take i) k).2).1::(bF c2 (l.drop (i+1)) (dG c2 x (bF c2 (l.take i) k).2).2).1:=by
 obtain⟨hi,e⟩:=fM.1 h;have J:l=l.take i++x::l.drop (i+1):=by rw[<-e,<-lA hi,List.take_append_drop]
 have U:=Ik c2 (l.take i) (x::l.drop (i+1)) k;rw[<-J]at U;rw[U];simp only[bF]
def alW(c2:Int->List cW){l:List af}(k:Int){i:Nat}{x:af}(h:l[i]? =some x):(bF c2 (l.take (i+1)) k).2=(dG c2 x (bF c2 (l.take i) k).2).2:=by
 have:l.take (i+1)=l.take i++[x]:=by rw[List.take_add_one,h];rfl
 rw[this,X0]
def wk(c2:Int->List cW):∀{xs:List af} (k:Int),(∀x∈xs,∃b a cs,x= .agg (.int b a::cs))->k+xs.length<=(bF c2 xs k).2
 |[],k,_=>by simp[bF]
 |x::xs,k,h=>by
  obtain⟨b,a,cs,rfl⟩:=h x Ψ;have J:=wk c2 (xs:=xs) (dG c2 (.agg (.int b a::cs)) k).2 fun y c=>h y (by simp[c]);have U:k+1<=(dG c2 (.agg (.int b a::cs)) k).2:=by simp only[dG,bF];exact mz c2 cs (k+1)
  simp only[bF,mI];omega
def AJ:∀{l:List af},dZ l↔∀x∈l,cN x
 |[]=>by simp[dZ]
 |x::l=>by simp[dZ,AJ (l:=l)]
def mT{sz:Nat}{t:jS}:∀{xs ys:List af},xs.length=ys.length->c6 xs=c6 ys->bE (.slice sz t xs)=bE (.slice sz t ys)
 |[],[],_,_=>rfl
 |[],_::_,h,_=>by simp at h
 |_::_,[],h,_=>by simp at h
 |_::_,_::_,_,h=>by simp only[bE,c6]at h⊢;omega
@[simp]def Cw{b sz:Nat}{t:jS}:∀{xs:List af},b5 (dx b (.slice sz t xs))=dx b (.slice sz t xs)
 |[]=>rfl
 |_::_=>rfl
def aes{b:Nat}{l r:List af}{x x':af}(he:dx (b+c6 l) x'=dx (b+c6 l) x)(aw:bE x'=bE x):fR b (l++x'::r)=fR b (l++x::r):=by rw[AK,AK];simp only[fR,he,aw]
@[simp]def aaO{b sz:Nat}{t:jS}:∀{xs:List af},eS (dx b (.slice sz t xs))=true
 |[]=>rfl
 |_::_=>rfl
@[simp]def Tn{b sz:Nat}{t:jS}:∀{xs:List af},cells (dx b (.slice sz t xs))=[dx b (.slice sz t xs)]
 |[]=>rfl
 |_::_=>rfl
@[simp]def avJ{ε:Nat->Nat}{b m:Nat}{p:af}(x:dT):((aA.loc m,x)∈dP ε b p)=et:=eq_false fun h=>by have:=uR h;rw[(QF ε b p).2 m]at this;cases this
def gk.to{ε:Nat->Nat}{b:Nat}{p c:af}{st:bo}{t':List (Nat×af)}(f:cN p)(aw:bE p=bE c)(e:∀x∈t',get x.1 st.t=x.2/\az (rng b (b+bE c)) x.2)(he:∀k o,ad k (dP ε b p)=some o->ad k st.e=some o):
  gk (cI (c7 ε b c)) st ⟨t',[],dP ε b p,0,cI (c7 ε b c)⟩:=by
 have dC:∀k,rng b (b+bE c) k->¬fresh 0 (cI (c7 ε b c)) k:=fun k a g=>g.2 (acH.2 a);refine⟨fun x d=>⟨(e x d).1,uN dC _ (e x d).2⟩,fun k cs a=>by simp[ad]at a,fun k o a=>⟨he k o a,dC k ?_,Em dC ?_⟩,fun m hm=>hm⟩
 ·rw[<-aw];exact uT ε p b k o a
 ·rw[<-aw];exact Nv p b f k o a
def uW(c2:Int->List cW){l:List af}(k:Int){i:Nat}(hi:i<l.length):∃x,l[i]? =some x/\x∈l/\k<=(bF c2 (l.take i) k).2/\(dG c2 x (bF c2 (l.take i) k).2).2<=(bF c2 l k).2/\(bF c2 (l.take (i+1)) k).2=(dG c2 x (bF c2 (l.take i) k).2).2/\(bF c2 (l.take i) k).1.length=i:=by have h:l[i]? =some l[i]:=cl hi;have e:=alW c2 k h;have U:=alX c2 l k (i+1);rw[e]at U;exact⟨_,h,fx h,mz _ _ _,U,e,by rw[lp];simp;omega⟩
def Il(c2:Int->List cW){l:List af}(k:Int){sz:Nat}(ε:Nat->Nat)(b:Nat)(c:dZ l)(a:0<sz)(d:¬l=[]):eB (c7 ε b (.slice sz .no l))/\(∀i,bE (.slice sz .no (kU c2 l k i))=bE (.slice sz .no l))/\(∀i,cN (.slice sz .no (kU c2 l k i)))/\rng b (b+bE (.slice sz .no l)) (.obj b):=⟨pB ⟨a,c⟩,fun i=>mT (nU ..) (XX ..),fun i=>⟨a,XY _ _ _ c⟩,b,rfl,dL _,by cases l with|nil=>exact absurd rfl d|cons x xs=>simp only[bE];omega⟩
def He(c2:Int->List cW){l:List af}(k:Int){sz:Nat}(ε:Nat->Nat)(b:Nat)(f:dZ l)(d:0<sz)(c:¬l=[]):cN (.slice sz .no (bF c2 l k).1)/\eB (c7 ε b (.slice sz .no (bF c2 l k).1))/\(bF c2 l k).1.length=l.length/\(bF c2 l k).1≠[]/\rng b (b+bE (.slice sz .no (bF c2 l k).1)) (.obj b):=by
 have J:cN (.slice sz .no (bF c2 l k).1):=⟨d,qW _ _ _ f⟩;have U:(bF c2 l k).1.length=l.length:=lp ..;have a:(bF c2 l k).1≠[]:=fun e=>c (List.length_eq_zero_iff.1 (by rw[<-U,e];rfl));refine⟨J,pB J,U,a,b,rfl,dL _,?_⟩;revert a;cases (bF c2 l k).1 with
 |nil=>exact fun h=>absurd rfl h
 |cons x xs=>intro _;simp only[bE];omega
def CallDo.subR{P:cG}{n:Nat}{args:List af}{st:bo}{d:bc Nat}{K:bo->Prop}{ε:Nat->Nat}{b:Nat}{l r:List af}{y y' g:af}{O:dT}(t:cN y)(aw:bE y'=bE y)
  (u:bD P n args (c7 ε (b+1+c6 l) y) fun j s=>j=g/\s=c7 ε (b+1+c6 l) y') {Z:List af} (f:Z=l++y::r) (he:st.e=(.obj b,O)::gJ ε (b+1) Z) (c:aH (rng (b+1+c6 l) (b+1+c6 l+bE y)) args)
  (h:∀a,ad (.obj b) a=some O->(∀k o,ad k (gJ ε (b+1) (l++y'::r))=some o->ad k a=some o)->K ⟨e3 d g st.t,st.b,a,st.n,st.o++cI (c7 ε (b+1+c6 l) y')⟩):CallDo P n args st d K:=by
 subst f;refine CallDo.sub t aw u (fun k o c=>?_) c fun a q hu=>h a ?_ q
 ·obtain⟨m,rfl,i,p⟩:=BK _ _ _ _ _ c;rw[he];simp only[ad];rw[if_neg d6];exact c
 ·rw[hu (.obj b) (fun⟨m,e,i,p⟩=>by cases e;omega),he];simp[ad]
end
end Go.Pv
namespace Go.Proofs.YtahlgcidhnjlbaaGreat
section
open Go Go.Pv
def KI:C:=(aa [bQ 4 0] (.seq (aa [bQ 5 0] (.block 0 (.loop (.seq (aa [I 6 5,I 7 0,cw 8 7,br 9 .lss 6 8] (aZ 9 .skip (.exit 0))) (.seq (.block 1 (aa [I 12 0,I 13 5,I 14 1,ck 15 4 12 13,aF 16 0 1 15,bW 1 16 14] (aa [I 17 1,aV 18 .add 17 1,I 1 18] (aa [I 19 0,I 20 5,I 21 1,ck 22 4 19 20,aF 23 1 1 22,bW 1 23 21] (aa [I 24 1,aV 25 .add 24 1,I 1 25] (aa [I 26 0,I 27 5,I 28 1,da 29 71 28,ck 30 4 26 27,aF 31 2 1 30,bW 1 31 29] (aa [I 32 1,aV 33 .add 32 1,I 1 33] (.region [I 34 0,I 35 5,ck 36 4 34 35,aF 37 3 1 36,ay 38 1 37,I 39 1,cj 40 24 38 39,I 1 40])))))))) (.region [I 10 5,aV 11 .add 10 1,I 5 11])))))) (aa [I 41 1,I 4 41] .ret)))
def KD:C:=(aa [bQ 4 0] (.seq (aa [bQ 5 0] (.block 0 (.loop (.seq (aa [I 6 5,I 7 0,cw 8 7,br 9 .lss 6 8] (aZ 9 .skip (.exit 0))) (.seq (.block 1 (.seq (aa [I 12 0,I 13 5,ck 14 4 12 13,aF 15 0 1 14,ay 16 1 15,I 17 1,br 18 .neq 16 17] (aZ 18 (aa [bQ 4 (-1)] .ret) .skip)) (aa [I 19 1,aV 20 .add 19 1,I 1 20] (.seq (aa [I 21 0,I 22 5,ck 23 4 21 22,aF 24 1 1 23,ay 25 1 24,I 26 1,br 27 .neq 25 26] (aZ 27 (aa [bQ 4 (-1)] .ret) .skip)) (aa [I 28 1,aV 29 .add 28 1,I 1 29] (.seq (.seq (.drawn true 50 [I 30 0,I 31 5,ck 32 4 30 31,aF 33 2 1 32,ay 34 1 33,I 35 1,da 36 71 35,br 37 .neq 34 36]) (aZ 37 (aa [bQ 4 (-1)] .ret) .skip)) (aa [I 38 1,aV 39 .add 38 1,I 1 39] (aa [I 40 0,I 41 5,ck 42 4 40 41,aF 43 3 1 42,ay 44 1 43,I 45 1,cj 46 25 44 45,I 1 46] (aa [I 47 1,aV 48 .lss 47 0] (aZ 48 (aa [bQ 4 (-1)] .ret) .skip)))))))))) (.region [I 10 5,aV 11 .add 10 1,I 5 11])))))) (aa [I 49 1,I 4 49] .ret)))
def Sc:C:=(aa [dc 2 0,bQ 4 0] (aa [aF 5 1 1 2,ay 6 1 5,I 7 1,cj 8 106 6 7,I 1 8] (aa [aF 9 2 1 2,ay 10 1 9,I 11 1,cj 12 107 10 11,I 1 12] (aa [aF 13 3 1 2,ay 14 1 13,I 15 1,cj 16 108 14 15,I 1 16] (aa [aF 17 4 1 2,ay 18 1 17,I 19 1,cj 20 109 18 19,I 1 20] (aa [I 21 1,I 4 21] .ret))))))
def Sb:C:=(aa [dc 2 0,bQ 4 0] (aa [aF 5 1 1 2,ay 6 1 5,I 7 1,cj 8 110 6 7,I 1 8] (.seq (aa [I 9 1,aV 10 .lss 9 0] (aZ 10 (aa [bQ 4 (-1)] .ret) .skip)) (aa [aF 11 2 1 2,ay 12 1 11,I 13 1,cj 14 111 12 13,I 1 14] (.seq (aa [I 15 1,aV 16 .lss 15 0] (aZ 16 (aa [bQ 4 (-1)] .ret) .skip)) (aa [aF 17 3 1 2,ay 18 1 17,I 19 1,cj 20 112 18 19,I 1 20] (.seq (aa [I 21 1,aV 22 .lss 21 0] (aZ 22 (aa [bQ 4 (-1)] .ret) .skip)) (aa [aF 23 4 1 2,ay 24 1 23,I 25 1,cj 26 113 24 25,I 1 26] (.seq (aa [I 27 1,aV 28 .lss 27 0] (aZ 28 (aa [bQ 4 (-1)] .ret) .skip)) (aa [I 29 1,I 4 29] .ret))))))))))
def KJ:C:=(aa [b9 2 (.mov (.c (.str [])))] (.seq (aa [I 4 0,aV 5 .leq 4 0] (aZ 5 (aa [b9 2 (.mov (.c (.str [109,48])))] .ret) .skip)) (aa [b9 3 (.mov (.c (.str [])))] (.seq (.block 0 (.loop (.seq (aa [I 6 0,aV 7 .gtr 6 0] (aZ 7 .skip (.exit 0))) (.block 1 (aa [I 8 0,aV 9 .rem 8 10,b9 10 (.bin .add false (gP 48) (.t 9)),b9 11 (.conv .u8 (.t 10)),fp 12 1 5 [.t 11],b9 13 (.b2s (.t 12)),I 14 3,br 15 .add 13 14,I 3 15] (.region [I 16 0,aV 17 .quo 16 10,I 0 17])))))) (aa [I 18 3,b9 19 (.bin .add false (.c (.str [109])) (.t 18)),I 2 19] .ret)))))
def KF:C:=(aa [bQ 4 0] (.seq (aa [bQ 5 0] (.block 0 (.loop (.seq (aa [I 6 5,I 7 0,cw 8 7,br 9 .lss 6 8] (aZ 9 .skip (.exit 0))) (.seq (.block 1 (aa [I 12 0,I 13 5,I 14 1,ck 15 5 12 13,aF 16 0 1 15,bW 1 16 14] (aa [I 17 1,aV 18 .add 17 1,I 1 18] (aa [I 19 0,I 20 5,I 21 1,ck 22 5 19 20,hk 23 1 4 22,aF 24 0 1 23,bW 1 24 21] (aa [I 25 1,aV 26 .add 25 1,I 1 26] (aa [I 27 0,I 28 5,I 29 1,ck 30 5 27 28,hk 31 1 4 30,aF 32 1 1 31,bW 1 32 29] (aa [I 33 1,aV 34 .add 33 1,I 1 34] (aa [I 35 0,I 36 5,I 37 1,da 38 71 37,ck 39 5 35 36,hk 40 1 4 39,aF 41 2 1 40,bW 1 41 38] (aa [I 42 1,aV 43 .add 42 1,I 1 43] (.region [I 44 0,I 45 5,ck 46 5 44 45,hk 47 1 4 46,aF 48 3 1 47,ay 49 1 48,I 50 1,cj 51 24 49 50,I 1 51])))))))))) (.region [I 10 5,aV 11 .add 10 1,I 5 11])))))) (aa [I 52 1,I 4 52] .ret)))
def KG:C:=(aa [bQ 4 0] (.seq (aa [bQ 5 0] (.block 0 (.loop (.seq (aa [I 6 5,I 7 0,cw 8 7,br 9 .lss 6 8] (aZ 9 .skip (.exit 0))) (.seq (.block 1 (.region [I 12 0,I 13 5,ck 14 1 12 13,ay 15 1 14,I 16 1,cj 17 106 15 16,I 1 17])) (.region [I 10 5,aV 11 .add 10 1,I 5 11])))))) (aa [I 18 1,I 4 18] .ret)))
def KK:C:=(aa [bQ 4 0] (.seq (aa [bQ 5 0] (.block 0 (.loop (.seq (aa [I 6 5,I 7 0,cw 8 7,br 9 .lss 6 8] (aZ 9 .skip (.exit 0))) (.seq (.block 1 (aa [I 12 0,I 13 5,I 14 1,ck 15 2 12 13,aF 16 0 1 15,bW 1 16 14] (aa [I 17 1,aV 18 .add 17 1,I 1 18] (aa [I 19 0,I 20 5,I 21 1,ck 22 2 19 20,aF 23 1 1 22,bW 1 23 21] (.region [I 24 1,aV 25 .add 24 1,I 1 25]))))) (.region [I 10 5,aV 11 .add 10 1,I 5 11])))))) (aa [I 26 1,I 4 26] .ret)))
def KH:C:=(aa [bQ 4 0] (.seq (aa [bQ 5 0] (.block 0 (.loop (.seq (aa [I 6 5,I 7 0,cw 8 7,br 9 .lss 6 8] (aZ 9 .skip (.exit 0))) (.seq (.block 1 (aa [I 12 0,I 13 5,I 14 1,ck 15 2 12 13,aF 16 0 1 15,bW 1 16 14] (aa [I 17 1,aV 18 .add 17 1,I 1 18] (aa [I 19 0,I 20 5,I 21 1,da 22 71 21,ck 23 2 19 20,aF 24 1 1 23,bW 1 24 22] (.region [I 25 1,aV 26 .add 25 1,I 1 26]))))) (.region [I 10 5,aV 11 .add 10 1,I 5 11])))))) (aa [I 27 1,I 4 27] .ret)))
def KA:C:=(aa [bQ 4 0] (.seq (aa [bQ 5 0] (.block 0 (.loop (.seq (aa [I 6 5,I 7 0,cw 8 7,br 9 .lss 6 8] (aZ 9 .skip (.exit 0))) (.seq (.block 1 (.seq (aa [I 12 0,I 13 5,ck 14 5 12 13,aF 15 0 1 14,ay 16 1 15,I 17 1,br 18 .neq 16 17] (aZ 18 (aa [bQ 4 (-1)] .ret) .skip)) (aa [I 19 1,aV 20 .add 19 1,I 1 20] (.seq (aa [I 21 0,I 22 5,ck 23 5 21 22,hk 24 1 4 23,aF 25 0 1 24,ay 26 1 25,I 27 1,br 28 .neq 26 27] (aZ 28 (aa [bQ 4 (-1)] .ret) .skip)) (aa [I 29 1,aV 30 .add 29 1,I 1 30] (.seq (aa [I 31 0,I 32 5,ck 33 5 31 32,hk 34 1 4 33,aF 35 1 1 34,ay 36 1 35,I 37 1,br 38 .neq 36 37] (aZ 38 (aa [bQ 4 (-1)] .ret) .skip)) (aa [I 39 1,aV 40 .add 39 1,I 1 40] (.seq (.seq (.drawn true 63 [I 41 0,I 42 5,ck 43 5 41 42,hk 44 1 4 43,aF 45 2 1 44,ay 46 1 45,I 47 1,da 48 71 47,br 49 .neq 46 48]) (aZ 49 (aa [bQ 4 (-1)] .ret) .skip)) (aa [I 50 1,aV 51 .add 50 1,I 1 51] (aa [I 52 0,I 53 5,ck 54 5 52 53,hk 55 1 4 54,aF 56 3 1 55,ay 57 1 56,I 58 1,cj 59 25 57 58,I 1 59] (aa [I 60 1,aV 61 .lss 60 0] (aZ 61 (aa [bQ 4 (-1)] .ret) .skip)))))))))))) (.region [I 10 5,aV 11 .add 10 1,I 5 11])))))) (aa [I 62 1,I 4 62] .ret)))
def KB:C:=(aa [bQ 4 0] (.seq (aa [bQ 5 0] (.block 0 (.loop (.seq (aa [I 6 5,I 7 0,cw 8 7,br 9 .lss 6 8] (aZ 9 .skip (.exit 0))) (.seq (.block 1 (aa [I 12 0,I 13 5,ck 14 1 12 13,ay 15 1 14,I 16 1,cj 17 110 15 16,I 1 17] (aa [I 18 1,aV 19 .lss 18 0] (aZ 19 (aa [bQ 4 (-1)] .ret) .skip)))) (.region [I 10 5,aV 11 .add 10 1,I 5 11])))))) (aa [I 20 1,I 4 20] .ret)))
def KE:C:=(aa [bQ 4 0] (.seq (aa [bQ 5 0] (.block 0 (.loop (.seq (aa [I 6 5,I 7 0,cw 8 7,br 9 .lss 6 8] (aZ 9 .skip (.exit 0))) (.seq (.block 1 (.seq (aa [I 12 0,I 13 5,ck 14 2 12 13,aF 15 0 1 14,ay 16 1 15,I 17 1,br 18 .neq 16 17] (aZ 18 (aa [bQ 4 (-1)] .ret) .skip)) (aa [I 19 1,aV 20 .add 19 1,I 1 20] (.seq (aa [I 21 0,I 22 5,ck 23 2 21 22,aF 24 1 1 23,ay 25 1 24,I 26 1,br 27 .neq 25 26] (aZ 27 (aa [bQ 4 (-1)] .ret) .skip)) (.region [I 28 1,aV 29 .add 28 1,I 1 29]))))) (.region [I 10 5,aV 11 .add 10 1,I 5 11])))))) (aa [I 30 1,I 4 30] .ret)))
def KC:C:=(aa [bQ 4 0] (.seq (aa [bQ 5 0] (.block 0 (.loop (.seq (aa [I 6 5,I 7 0,cw 8 7,br 9 .lss 6 8] (aZ 9 .skip (.exit 0))) (.seq (.block 1 (.seq (aa [I 12 0,I 13 5,ck 14 2 12 13,aF 15 0 1 14,ay 16 1 15,I 17 1,br 18 .neq 16 17] (aZ 18 (aa [bQ 4 (-1)] .ret) .skip)) (aa [I 19 1,aV 20 .add 19 1,I 1 20] (.seq (.seq (.drawn true 32 [I 21 0,I 22 5,ck 23 2 21 22,aF 24 1 1 23,ay 25 1 24,I 26 1,da 27 71 26,br 28 .neq 25 27]) (aZ 28 (aa [bQ 4 (-1)] .ret) .skip)) (.region [I 29 1,aV 30 .add 29 1,I 1 30]))))) (.region [I 10 5,aV 11 .add 10 1,I 5 11])))))) (aa [I 31 1,I 4 31] .ret)))
def YD:b6 aS KI [.tmp 4] 2 Tryz.f24=true:=bi
def Yy:b6 aS KD [.tmp 4] 2 Tryz.f25=true:=bi
def ann:b6 aS Sc [.tmp 4] 2 Tryz.f44=true:=bi
def anm:b6 aS Sb [.tmp 4] 2 Tryz.f45=true:=bi
def YE:b6 aS KJ [.tmp 2] 1 Tryz.f71=true:=bi
def YA:b6 aS KF [.tmp 4] 2 Tryz.f106=true:=bi
def YB:b6 aS KG [.tmp 4] 2 Tryz.f107=true:=bi
def YF:b6 aS KK [.tmp 4] 2 Tryz.f108=true:=bi
def YC:b6 aS KH [.tmp 4] 2 Tryz.f109=true:=bi
def Yv:b6 aS KA [.tmp 4] 2 Tryz.f110=true:=bi
def Yw:b6 aS KB [.tmp 4] 2 Tryz.f111=true:=bi
def Yz:b6 aS KE [.tmp 4] 2 Tryz.f112=true:=bi
def Yx:b6 aS KC [.tmp 4] 2 Tryz.f113=true:=bi
def zx:Nat->Int->List cW->List cW
 |0,_,o=>o
 |f+1,k,o=>if k<=0 then o else zx f (k/10) (UInt8.ofNat (IntKind.u8.wrap (48+k.tmod 10)).toNat::o)
def bJ(k:Int):List cW:=if k<=0 then [109,48]else 109::zx k.toNat k []
def CF(k:Int)(n:k<=4611686018427387904):bX au 71 [aj k] (.str (bJ k)):=by
 by_cases c:k<=0
 ·rw[bJ,if_pos c];refine bL a7 Tryz.func71 YE fun q=>?_;unfold KJ;exact cB
 rw[bJ,if_neg c];refine bL a7 Tryz.func71 YE fun q=>?_;unfold KJ;simp;(repeat' first|refine aq ?_|simp[c]);refine oY (fun(x:Int×List cW)=>⟨[(0,aj x.1),(3,.str x.2)],[],[],0,[]⟩) (fun x=>x.1.toNat) (fun x=>0<=x.1/\x.1<=4611686018427387904/\x.1.toNat*10 ^ x.2.length<=4611686018427387904/\x.2.length<=19/\∃f:Nat,x.1<=f/\zx f x.1 x.2=zx k.toNat k []) (k,[]) cc ⟨Ω,n,by simp;omega,Ψ,k.toNat,by simp;omega,rfl⟩ ?_;rintro⟨j,o⟩ ⟨J,U,m,i,f,p,a⟩ _;simp only at J U m i p a;by_cases g:0<j
 ·have s:o.length<=18:=by
   rcases Nat.lt_or_ge 18 o.length with h|h
   ·have d:10 ^ 19<=10 ^ o.length:=Nat.pow_le_pow_right Ω Ω;have e:1*10 ^ o.length<=j.toNat*10 ^ o.length:=rG _ Ω;omega
   ·exact h
  have r:j.tdiv 10=j/10:=Int.tdiv_eq_ediv_of_nonneg J;have hm:j.tmod 10=j%10:=Int.tmod_eq_emod_of_nonneg J;have hw:vf.wrap (j.tdiv 10)=j/10:=by rw[r];exact pf _ Ω
  simp[g];(repeat' first|refine aq ?_|simp);all_goals first|(refine⟨by unfold te;omega,by unfold lim;omega,?_⟩)|skip
  rw[hw];obtain⟨b,rfl⟩:∃b,f=b+1:=⟨f-1,Ω⟩;refine bV.whl (j/10,UInt8.ofNat (IntKind.u8.wrap (48+j.tmod 10)).toNat::o) d6 ⟨by simp;omega,by simp;omega,?_,by simp;omega,b,by simp;omega,?_⟩ cc
  ·simp only[mI,Nat.pow_succ];have d:(j/10).toNat*10<=j.toNat:=Ω
   have e:=rG (10 ^ o.length) d;rw[Nat.mul_assoc,Nat.mul_comm 10]at e;omega
  ·rw[<-a];simp only[zx];rw[if_neg Ω]
 ·simp[g];(repeat' first|refine aq ?_|simp);all_goals try refine⟨by unfold lim;omega,?_⟩
  have l:zx f j o=o:=by cases f<;>simp[zx];omega
  rw[l]at a;rw[<-a];simp[b0,ba,bd,a1]
def j9.dt':∀(n:Nat),(∀p,Cx p<=n->j9 p->cN p)/\(∀c,qM c<=n->(∀p∈c,j9 p)->dZ c)
 |0=>by
  refine⟨fun p d h=>?_,fun c d h=>?_⟩
  ·obtain⟨a,b,s,ys,_,_,e⟩:=h.inv;omega
  ·cases c with
   |nil=>simp[dZ]
   |cons p c=>obtain⟨a,b,s,ys,_,_,e⟩:=(h p Ψ).inv;simp only[qM]at d;omega
 |n+1=>by
  obtain⟨_,g⟩:=j9.dt' n;have J:∀p,Cx p<=n+1->j9 p->cN p:=fun p d h=>by obtain⟨a,b,s,ys,rfl,i,e⟩:=h.inv;simp only[cN,dZ,true_and,jk];exact⟨Ω,g ys Ω i⟩
  refine⟨J,fun c d h=>AJ.2 fun x f=>J x ?_ (h x f)⟩;have:=JC f;omega
def j9.dtL{a:List af}(h:∀p∈a,j9 p):dZ a:=(j9.dt' _).2 a (dL _) h
def Lj(c:Nat)(a bs:Int)(s:List cW)(t:jS)(ys:List af):dx c (.agg [aj a,aj bs,.str s,.slice 4 t ys])= .agg [aj a,aj bs,.str s,dx c (.slice 4 t ys)]:=rfl
def X8(c2:Int->List cW)(a bs:Int)(s:List cW)(t:jS)(ys:List af)(k:Int):dG c2 (.agg [aj a,aj bs,.str s,.slice 4 t ys]) k=(.agg [aj k,aj (k+1),.str (c2 (k+1+1)),.slice 4 t (bF c2 ys (k+1+1+1)).1],(bF c2 ys (k+1+1+1)).2):=by simp[dG,bF]
def aay(ε:Nat->Nat)(c:Nat)(a bs:Int)(s:List cW)(t:jS)(ys:List af):dP ε c (.agg [aj a,aj bs,.str s,.slice 4 t ys])=dP ε c (.slice 4 t ys):=by show []++([]++([]++(dP ε (c+0+0+0) (.slice 4 t ys)++[])))=_;simp
def AH(a bs:Int)(s:List cW)(t:jS)(ys:List af):bE (.agg [aj a,aj bs,.str s,.slice 4 t ys])=bE (.slice 4 t ys):=by show 0+(0+(0+(bE (.slice 4 t ys)+0)))=_;omega
def arO(k:Int):bX au 24 [eb [],aj k] (aj k):=by refine bL a7 Tryz.func24 YD fun a=>?_;unfold KI;simp;(repeat' first|refine aq ?_|simp);refine fX (fun i (_:Unit)=>⟨[(0,eb []),(1,aj k),(5,aj i)],[],[],0,[]⟩) 0 (fun _ _=>True) () cc trivial (fun _ _ _=>?_) (fun i _ hi _ _=>Ω);exact cB
def U0(k:Int)(b:Nat)(ε:Nat->Nat):bD au 24 [dx b (eb []),aj k] (c7 ε b (eb [])) fun r a=>r=aj k/\a=c7 ε b (eb []):=arO k
def arn(k:Int):bX au 25 [eb [],aj k] (aj k):=by refine bL a7 Tryz.func25 Yy fun a=>?_;unfold KD;simp;(repeat' first|refine aq ?_|simp);refine fX (fun i (_:Unit)=>⟨[(0,eb []),(1,aj k),(5,aj i)],[],[],0,[]⟩) 0 (fun _ _=>True) () cc trivial (fun _ _ _=>?_) (fun i _ hi _ _=>Ω);exact cB
def UU(k:Int)(b:Nat)(ε:Nat->Nat):bD au 25 [dx b (eb []),aj k] (c7 ε b (eb [])) fun r a=>r=aj k/\a=c7 ε b (eb []):=arn k
def ah8:∀(n:Nat) (xs:List af),qM xs<=n->(∀x∈xs,j9 x)->∀(k:Int) (b:Nat) (ε:Nat->Nat),0<=k->(bF bJ xs k).2<=4611686018427387904->
  bD au 24 [dx b (eb xs),aj k] (c7 ε b (eb xs)) fun r ak=>r=aj (bF bJ xs k).2/\ak=c7 ε b (eb (bF bJ xs k).1):=by
 intro n;induction n with
 |zero=>
  intro xs H g k b ε bz ab;cases xs with
  |nil=>exact U0 k b ε
  |cons x xs=>obtain⟨a,bs,s,ys,_,_,e⟩:=(g x Ψ).inv;simp only[qM]at H;omega
 |succ n bZ=>
 intro xs H g k b ε bz ab;have O:dZ xs:=j9.dtL g;have ai:eB (c7 ε b (eb xs)):=pB (by simp[cN,O]);by_cases m:xs=[]
 ·subst m;exact U0 k b ε
 have vL:(bF bJ (xs.take 0) k).2=k:=by simp[bF]
 refine bD.mk mixed a7 Tryz.func24 YD Ψ ai.obj fun aT cZ=>?_;unfold KI;rw[uk m];simp;(repeat' first|refine aq ?_|simp);have t:∀i,bE (eb (kU bJ xs k i))=bE (eb xs):=fun i=>mT (nU ..) (XX ..);have u:∀i,cN (eb (kU bJ xs k i)):=fun i=>by simp only[cN];exact⟨Ω,XY _ _ _ O⟩
 have F:rng b (b+bE (eb xs)) (.obj b):=⟨b,rfl,dL _,by cases xs with|nil=>exact absurd rfl m|cons x xs=>simp only[bE];omega⟩;have ot:=wk bJ (xs:=xs) k fun x h=>by obtain⟨a,bs,s,ys,rfl,_⟩:=(g x h).inv;exact⟨_,_,_,rfl⟩
 have at8:∀i,kU bJ xs k i≠[]:=fun i e=>m (List.length_eq_zero_iff.1 (by rw[<-nU bJ xs k i,e];rfl));refine fX (fun i (_:Unit)=>⟨[(0,.row 4 (.obj b) xs.length),(1,aj (bF bJ (xs.take i) k).2),(5,aj i)],[],dP ε b (eb (kU bJ xs k i)),0,cI (c7 ε b (eb xs))⟩) xs.length (fun _ _=>True) () ?_ trivial (fun _ _ _=>?_) (fun i _ hi _ _=>?_)
 ·refine gk.to (u _) (t _) ?_ (fun k o h=>by rw[EA]at h;exact h);simp[az,F,bF]
 ·rw[pW,jv];simp;(repeat' first|refine aq ?_|simp);refine c3.at (c7 ε b (eb (bF bJ xs k).1)) Ψ (pB (by rw[<-pW];exact u _)) (qb (by rw[<-pW];exact t _)) (fun k cs h=>by simp[ad]at h) (fun k o h=>h) ?_;simp[c9,ba,bd,a1]
 ·obtain⟨x,N,hm,J,U,p,w⟩:=uW bJ k hi;have f:=Ey bJ k N;have c:=Ez bJ k N;have V:=fun(t':List (Nat×af)) (st:bo)=>gk.to (t':=t') (st:=st) (ε:=ε) (b:=b) (u (i+1)) (t (i+1));have hlen:((bF bJ (xs.take i) k).1++x::xs.drop (i+1)).length=xs.length:=by rw[<-f];exact nU ..
  rw[f,ls (xs:=_++x::_) Ψ,hlen];generalize fY:(bF bJ (xs.take i) k).1=M at w f c⊢;generalize di:(bF bJ (xs.take i) k).2=K at p c J U⊢;generalize bu:xs.drop (i+1)=R at f c⊢;obtain⟨a,bs,s,ys,rfl,B,qv⟩:=(g x hm).inv;have d:=uj (b:=b+1) (r:=R) (x:= .agg [aj a,aj bs,.str s,eb ys]) w;have v:(fR (b+1) (M++ .agg [aj a,aj bs,.str s,eb ys]::R)).length=xs.length:=by rw[oX,<-f];exact nU ..
  rw[Lj]at d;rw[X8]at p c U;generalize L:dx (b+1+c6 M) (eb ys)=E at d;generalize W:fR (b+1) (M++ .agg [aj a,aj bs,.str s,eb ys]::R)=X at d v⊢;have Y:K+1+1+1<=(bF bJ ys (K+1+1+1)).2:=mz ..;simp only at U;have G:=CF (K+1+1) Ω;have A:∀h,(X[i]'h)= .agg [aj a,aj bs,.str s,E]:=fun h=>by rw[cl h]at d;exact e7 d
  clear d;simp[hi,A,v];(repeat' first|refine aq ?_|refine aP G ?_|refine aQ G ?_|simp[A,v,hi]);have z:dZ ys:=j9.dtL B;have P:=bZ ys (by have:=JC hm;omega) B (K+1+1+1) (b+1+c6 M) ε Ω Ω;have j:(bF bJ ys (K+1+1+1)).1.length=ys.length:=lp ..;have q:c6 (bF bJ ys (K+1+1+1)).1=c6 ys:=nA ..;generalize bF bJ ys (K+1+1+1)=Q at j q P p c U Y;have Z:b5 E=E:=by rw[<-L];exact Cw
  rw[Z];subst L;refine CallDo.subR (ε:=ε) (b:=b) (l:=M) (r:=R) (y:= .agg [aj a,aj bs,.str s,eb ys]) (y':= .agg [aj K,aj (K+1),.str (bJ (K+1+1)),eb Q.1]) (by simp[cN,dZ,z]) (by rw[AH,AH];exact mT j q) (by simp only[c7,aay];exact P) rfl rfl ?_ (fun eJ S av=>?_)
  ·rw[AH];simp only[aH,az,jk];exact o4 _ _ (by simp only[cN];exact⟨Ω,z⟩)
  ·skip;simp;(repeat' first|refine aq ?_|simp);refine bV.rng () hi ?_ ?_
   ·trivial
   rw[show(bF bJ (xs.take (i+1)) k).2=Q.2 from p];refine V _ _ (by simp[az,F]) fun k o h=>?_;rw[c,ls Ψ]at h;simp only[ad]at h;split at h
   ·rename_i e;subst e;rw[S,<-h,<-W,<-yK j,<-Lj (b+1+c6 M) K (K+1) (bJ (K+1+1)),GH w (by rw[AH,AH];exact mT j q),<-nU bJ xs k (i+1),c]
   ·exact av k o h
def ahX:∀(n:Nat) (xs:List af),qM xs<=n->(∀x∈xs,j9 x)->∀(k:Int) (b:Nat) (ε:Nat->Nat),0<=k->(bF bJ xs k).2<=4611686018427387904->
  bD au 25 [dx b (eb (bF bJ xs k).1),aj k] (c7 ε b (eb (bF bJ xs k).1)) fun r ak=>r=aj (bF bJ xs k).2/\ak=c7 ε b (eb (bF bJ xs k).1):=by
 intro n;induction n with
 |zero=>
  intro xs N j k b ε bz ab;cases xs with
  |nil=>exact UU k b ε
  |cons x xs=>obtain⟨a,bs,s,ys,_,_,e⟩:=(j x Ψ).inv;simp only[qM]at N;omega
 |succ n bZ=>
 intro xs N j k b ε bz ab;have aJ:dZ (bF bJ xs k).1:=qW _ _ _ (j9.dtL j);have z:cN (eb (bF bJ xs k).1):=by simp only[cN];exact⟨Ω,aJ⟩
 have S:eB (c7 ε b (eb (bF bJ xs k).1)):=pB z;by_cases O:xs=[]
 ·subst O;exact UU k b ε
 have g:(bF bJ xs k).1.length=xs.length:=lp ..;have f:(bF bJ xs k).1≠[]:=fun e=>O (List.length_eq_zero_iff.1 (by rw[<-g,e];rfl));have ot:=wk bJ (xs:=xs) k fun x h=>by obtain⟨a,bs,s,ys,rfl,_⟩:=(j x h).inv;exact⟨_,_,_,rfl⟩
 have G:rng b (b+bE (eb (bF bJ xs k).1)) (.obj b):=⟨b,rfl,dL _,by revert f;cases (bF bJ xs k).1 with|nil=>exact fun h=>absurd rfl h|cons x xs=>intro _;simp only[bE];omega⟩;have A:=fun(t':List (Nat×af)) (st:bo)=>gk.to (t':=t') (st:=st) (ε:=ε) (b:=b) z rfl;refine bD.mk mixed a7 Tryz.func25 Yy Ψ S.obj fun aT cZ=>?_;unfold KD;rw[uk f,g];simp;(repeat' first|refine aq ?_|simp);refine fX (fun i (_:Unit)=>⟨[(0,.row 4 (.obj b) xs.length),(1,aj (bF bJ (xs.take i) k).2),(5,aj i)],[],dP ε b (eb (bF bJ xs k).1),0,cI (c7 ε b (eb (bF bJ xs k).1))⟩) xs.length (fun _ _=>True) () ?_ trivial (fun _ _ _=>?_) (fun i _ hi _ _=>?_)
 ·refine A _ _ ?_ (fun k o h=>h);simp[az,G,bF]
 ·rw[jv];simp;(repeat' first|refine aq ?_|simp);refine c3.at (c7 ε b (eb (bF bJ xs k).1)) Ψ S (qb rfl) (fun k cs h=>by simp[ad]at h) (fun k o h=>h) ?_;simp[c9,ba,bd,a1]
 ·obtain⟨x,cz,hm,J,U,p,L⟩:=uW bJ k hi;have c:=EB bJ k cz;generalize uw:(bF bJ xs k).1=Y at*;have m:=ls (ε:=ε) (b:=b) (sz:=4) (t:= .no) f;rw[g]at m;rw[m];generalize fY:(bF bJ (xs.take i) k).1=M at L c;generalize di:(bF bJ (xs.take i) k).2=K at p c J U⊢;obtain⟨a,bs,s,ys,rfl,F,qv⟩:=(j x hm).inv;rw[X8]at p c U;simp only at U;generalize (bF bJ (xs.drop (i+1)) _).1=R at c;have d:=uj (b:=b+1) (r:=R) (x:= .agg [aj K,aj (K+1),.str (bJ (K+1+1)),eb (bF bJ ys (K+1+1+1)).1]) L;rw[<-c,Lj]at d;have u:(fR (b+1) Y).length=xs.length:=by rw[oX,g]
  generalize v:dx (b+1+c6 M) (eb (bF bJ ys (K+1+1+1)).1)=E at d;generalize k6:fR (b+1) Y=X at d u m⊢;have iB:K+1+1+1<=(bF bJ ys (K+1+1+1)).2:=mz ..;have H:=CF (K+1+1) Ω;have B:∀h,(X[i]'h)= .agg [aj K,aj (K+1),.str (bJ (K+1+1)),E]:=fun h=>by rw[cl h]at d;exact e7 d
  clear d;have V:=bZ ys (by have:=JC hm;omega) F (K+1+1+1) (b+1+c6 M) ε Ω Ω;have q:dZ (bF bJ ys (K+1+1+1)).1:=qW _ _ _ (j9.dtL F);generalize bF bJ ys (K+1+1+1)=Q at q v V p c U iB;simp[hi,B,u];(repeat' first|refine aq ?_|refine aP H ?_|refine aQ H ?_|simp[B,u,hi]);have h6:b5 E=E:=by rw[<-v];exact Cw
  rw[h6];subst v;refine CallDo.subR (ε:=ε) (b:=b) (l:=M) (r:=R) (y:= .agg [aj K,aj (K+1),.str (bJ (K+1+1)),eb Q.1]) (y':= .agg [aj K,aj (K+1),.str (bJ (K+1+1)),eb Q.1]) (by simp[cN,dZ,q]) rfl (by simp only[c7,aay];exact V) c rfl ?_ (fun eJ Z P=>?_)
  ·rw[AH];simp only[aH,az,jk];exact o4 _ _ (by simp only[cN];exact⟨Ω,q⟩)
  ·skip;have w:¬(Q.2<0):=Ω
   simp[w];(repeat' first|refine aq ?_|simp[w]);refine bV.rng () hi ?_ ?_
   ·trivial
   rw[show(bF bJ (xs.take (i+1)) k).2=Q.2 from p];have W:aA.obj b::(gJ ε (b+1) Y).map (fun x=>x.1)=cI (c7 ε b (eb Y)):=by simp[ls f]
   rw[W,<-m];refine A _ _ ?_ (fun k o h=>?_)
   ·simp[az,G]
   rw[ls f,g,k6]at h;simp only[ad]at h;split at h
   ·rename_i e;subst e;rw[Z,<-h]
   ·rw[<-c]at P;exact P k o h
def tV(x:af):Prop:= ∃(a:Int) (b:Int) (a2:Int) (s:List cW) (ys:List af),x= .agg [aj a,aj b,aj a2,.str s,eb ys]/\∀y∈ys,j9 y
def Li(c:Nat)(a:Int)(b:Int)(a2:Int)(s:List cW)(ys:List af)(t:jS):dx c (.agg [aj a,aj b,aj a2,.str s,.slice 4 t ys])= .agg [aj a,aj b,aj a2,.str s,dx c (.slice 4 t ys)]:=rfl
def aax(ε:Nat->Nat)(c:Nat)(a:Int)(b:Int)(a2:Int)(s:List cW)(ys:List af)(t:jS):dP ε c (.agg [aj a,aj b,aj a2,.str s,.slice 4 t ys])=dP ε c (.slice 4 t ys):=by show []++([]++([]++([]++((dP ε (c+0+0+0+0) (.slice 4 t ys)++[])))))=_;simp
def AG(a:Int)(b:Int)(a2:Int)(s:List cW)(ys:List af)(t:jS):bE (.agg [aj a,aj b,aj a2,.str s,.slice 4 t ys])=bE (.slice 4 t ys):=by show 0+(0+(0+(0+((bE (.slice 4 t ys)+0)))))=_;omega
def X5(a:Int)(b:Int)(a2:Int)(s:List cW)(ys:List af)(K:Int):dG bJ (.agg [aj a,aj b,aj a2,.str s,eb ys]) K=(.agg [aj K,aj (K+1),aj (K+1+1),.str (bJ (K+1+1+1)),eb (bF bJ ys (K+1+1+1+1)).1],(bF bJ ys (K+1+1+1+1)).2):=by simp[dG,bF]
def yJ{xs:List af}(h:∀x∈xs,tV x):dZ xs:=AJ.2 fun x b=>by obtain⟨a,d,a2,s,ys,rfl,c⟩:=h x b;simp[cN,dZ,j9.dtL c]
def arM(k:Int):bX au 106 [bK [],aj k] (aj k):=by refine bL a7 Tryz.func106 YA fun a=>?_;unfold KF;simp;(repeat' first|refine aq ?_|simp);refine fX (fun i (_:Unit)=>⟨[(0,bK []),(1,aj k),(5,aj i)],[],[],0,[]⟩) 0 (fun _ _=>True) () cc trivial (fun _ _ _=>?_) (fun i _ hi _ _=>Ω);exact cB
def ah5(k:Int)(b:Nat)(ε:Nat->Nat):bD au 106 [dx b (bK []),aj k] (c7 ε b (bK [])) fun r a=>r=aj k/\a=c7 ε b (bK []):=arM k
def ark(k:Int):bX au 110 [bK [],aj k] (aj k):=by refine bL a7 Tryz.func110 Yv fun a=>?_;unfold KA;simp;(repeat' first|refine aq ?_|simp);refine fX (fun i (_:Unit)=>⟨[(0,bK []),(1,aj k),(5,aj i)],[],[],0,[]⟩) 0 (fun _ _=>True) () cc trivial (fun _ _ _=>?_) (fun i _ hi _ _=>Ω);exact cB
def ahT(k:Int)(b:Nat)(ε:Nat->Nat):bD au 110 [dx b (bK []),aj k] (c7 ε b (bK [])) fun r a=>r=aj k/\a=c7 ε b (bK []):=ark k
def UY(xs:List af)(w:∀x∈xs,tV x)(k:Int)(b:Nat)(ε:Nat->Nat)(bz:0<=k)(ab:(bF bJ xs k).2<=4611686018427387904):
  bD au 106 [dx b (bK xs),aj k] (c7 ε b (bK xs)) fun r Z=>r=aj (bF bJ xs k).2/\Z=c7 ε b (bK (bF bJ xs k).1):=by
 have aJ:dZ xs:=yJ w;by_cases v:xs=[]
 ·subst v;exact ah5 k b ε
 have ot:=wk bJ (xs:=xs) k fun x h=>by obtain⟨a,f,a2,s,ys,rfl,_⟩:=w x h;exact⟨_,_,_,rfl⟩
 obtain⟨ai,p,q,F⟩:=Il bJ k (sz:=5) ε b aJ Ω v;refine bD.mk mixed a7 Tryz.func106 YA Ψ ai.obj fun aT cZ=>?_;unfold KF;rw[uk v];simp;(repeat' first|refine aq ?_|simp);refine fX (fun i (_:Unit)=>⟨[(0,.row 5 (.obj b) xs.length),(1,aj (bF bJ (xs.take i) k).2),(5,aj i)],[],dP ε b (bK (kU bJ xs k i)),0,cI (c7 ε b (bK xs))⟩) xs.length (fun _ _=>True) () ?_ trivial (fun _ _ _=>?_) (fun i _ hi _ _=>?_)
 ·refine gk.to (q _) (p _) ?_ (fun k o h=>by rw[EA]at h;exact h);simp[az,F,bF]
 ·rw[pW,jv];simp;(repeat' first|refine aq ?_|simp);refine c3.at (c7 ε b (bK (bF bJ xs k).1)) Ψ (pB (by rw[<-pW];exact q _)) (qb (by rw[<-pW];exact p _)) (fun k cs h=>by simp[ad]at h) (fun k o h=>h) ?_;simp[c9,ba,bd,a1]
 ·obtain⟨x,L,hm,J,U,m,u⟩:=uW bJ k hi;have g:=Ey bJ k L;have c:=Ez bJ k L;have P:=fun(t':List (Nat×af)) (st:bo)=>gk.to (t':=t') (st:=st) (ε:=ε) (b:=b) (q (i+1)) (p (i+1));have hlen:((bF bJ (xs.take i) k).1++x::xs.drop (i+1)).length=xs.length:=by rw[<-g];exact nU ..
  rw[g,ls (xs:=_++x::_) Ψ,hlen];generalize fY:(bF bJ (xs.take i) k).1=M at u g c⊢;generalize di:(bF bJ (xs.take i) k).2=K at m c J U⊢;generalize bu:xs.drop (i+1)=R at g c⊢;obtain⟨a,f,a2,s,ys,rfl,B⟩:=w x hm;have d:=uj (b:=b+1) (r:=R) (x:= .agg [aj a,aj f,aj a2,.str s,eb ys]) u;have t:(fR (b+1) (M++ .agg [aj a,aj f,aj a2,.str s,eb ys]::R)).length=xs.length:=by rw[oX,<-g];exact nU ..
  rw[Li]at d;rw[X5]at m c U;generalize H:dx (b+1+c6 M) (eb ys)=E at d;generalize S:fR (b+1) (M++ .agg [aj a,aj f,aj a2,.str s,eb ys]::R)=X at d t⊢;have V:(K+1+1+1+1)<=(bF bJ ys (K+1+1+1+1)).2:=mz ..;simp only at U;have G:=CF (K+1+1+1) Ω;have A:∀h,(X[i]'h)= .agg [aj a,aj f,aj a2,.str s,E]:=fun h=>by rw[cl h]at d;exact e7 d
  clear d;have N:=ah8 _ ys (dL _) B (K+1+1+1+1) (b+1+c6 M) ε Ω Ω;have z:dZ ys:=j9.dtL B;have j:(bF bJ ys (K+1+1+1+1)).1.length=ys.length:=lp ..;have n:c6 (bF bJ ys (K+1+1+1+1)).1=c6 ys:=nA ..;generalize bF bJ ys (K+1+1+1+1)=Q at j n N m c U V;simp[hi,A,t];(repeat' first|refine aq ?_|refine aP G ?_|refine aQ G ?_|simp[A,t,hi]);have W:b5 E=E:=by rw[<-H];exact Cw
  rw[W];subst H;refine CallDo.subR (ε:=ε) (b:=b) (l:=M) (r:=R) (y:= .agg [aj a,aj f,aj a2,.str s,eb ys]) (y':= .agg [aj K,aj (K+1),aj (K+1+1),.str (bJ (K+1+1+1)),eb Q.1]) (by simp[cN,dZ,z]) (by rw[AG,AG];exact mT j n) (by simp only[c7,aax];exact N) rfl rfl ?_ (fun eJ O Y=>?_)
  ·rw[AG];simp only[aH,az,jk];exact o4 _ _ (by simp only[cN];exact⟨Ω,z⟩)
  ·skip;simp;(repeat' first|refine aq ?_|simp);refine bV.rng () hi ?_ ?_
   ·trivial
   rw[show(bF bJ (xs.take (i+1)) k).2=Q.2 from m];refine P _ _ ?_ (fun k o h=>?_)
   ·simp[az,F]
   rw[c,ls Ψ]at h;simp only[ad]at h;split at h
   ·rename_i e;subst e;rw[O,<-h,<-S,<-yK j,<-Li (b+1+c6 M) K (K+1) (K+1+1) (bJ (K+1+1+1)),GH u (by rw[AG,AG];exact mT j n),<-nU bJ xs k (i+1),c]
   ·exact Y k o h
def UT(xs:List af)(u:∀x∈xs,tV x)(k:Int)(b:Nat)(ε:Nat->Nat)(bz:0<=k)(ab:(bF bJ xs k).2<=4611686018427387904):
  bD au 110 [dx b (bK (bF bJ xs k).1),aj k] (c7 ε b (bK (bF bJ xs k).1)) fun r ak=>r=aj (bF bJ xs k).2/\ak=c7 ε b (bK (bF bJ xs k).1):=by
 by_cases H:xs=[]
 ·subst H;exact ahT k b ε
 have ot:=wk bJ (xs:=xs) k fun x h=>by obtain⟨a,bp,a2,s,ys,rfl,_⟩:=u x h;exact⟨_,_,_,rfl⟩
 obtain⟨P,N,g,f,B⟩:=He bJ k (sz:=5) ε b (yJ u) Ω H;have w:=fun(t':List (Nat×af)) (st:bo)=>gk.to (t':=t') (st:=st) (ε:=ε) (b:=b) P rfl;refine bD.mk mixed a7 Tryz.func110 Yv Ψ N.obj fun aT cZ=>?_;unfold KA;rw[uk f,g];simp;(repeat' first|refine aq ?_|simp);refine fX (fun i (_:Unit)=>⟨[(0,.row 5 (.obj b) xs.length),(1,aj (bF bJ (xs.take i) k).2),(5,aj i)],[],dP ε b (bK (bF bJ xs k).1),0,cI (c7 ε b (bK (bF bJ xs k).1))⟩) xs.length (fun _ _=>True) () ?_ trivial (fun _ _ _=>?_) (fun i _ hi _ _=>?_)
 ·refine w _ _ ?_ (fun k o h=>h);simp[az,B,bF]
 ·rw[jv];simp;(repeat' first|refine aq ?_|simp);refine c3.at (c7 ε b (bK (bF bJ xs k).1)) Ψ N (qb rfl) (fun k cs h=>by simp[ad]at h) (fun k o h=>h) ?_;simp[c9,ba,bd,a1]
 ·obtain⟨x,cz,hm,J,U,m,G⟩:=uW bJ k hi;have c:=EB bJ k cz;generalize uw:(bF bJ xs k).1=Y at*;have j:=ls (ε:=ε) (b:=b) (sz:=5) (t:= .no) f;rw[g]at j;rw[j];generalize fY:(bF bJ (xs.take i) k).1=M at G c;generalize di:(bF bJ (xs.take i) k).2=K at m c J U⊢;obtain⟨a,bp,a2,s,ys,rfl,A⟩:=u x hm;rw[X5]at m c U;simp only at U;generalize (bF bJ (xs.drop (i+1)) _).1=R at c;have d:=uj (b:=b+1) (r:=R) (x:= .agg [aj K,aj (K+1),aj (K+1+1),.str (bJ (K+1+1+1)),eb (bF bJ ys (K+1+1+1+1)).1]) G;rw[<-c,Li]at d;have p:(fR (b+1) Y).length=xs.length:=by rw[oX,g]
  generalize q:dx (b+1+c6 M) (eb (bF bJ ys (K+1+1+1+1)).1)=E at d;generalize W:fR (b+1) Y=X at d p j⊢;have Z:(K+1+1+1+1)<=(bF bJ ys (K+1+1+1+1)).2:=mz ..;have F:=CF (K+1+1+1) Ω;have z:∀h,(X[i]'h)= .agg [aj K,aj (K+1),aj (K+1+1),.str (bJ (K+1+1+1)),E]:=fun h=>by rw[cl h]at d;exact e7 d
  clear d;have O:=ahX _ ys (dL _) A (K+1+1+1+1) (b+1+c6 M) ε Ω Ω;have n:dZ (bF bJ ys (K+1+1+1+1)).1:=qW _ _ _ (j9.dtL A);generalize bF bJ ys (K+1+1+1+1)=Q at n q O m c U Z;simp[hi,z,p];(repeat' first|refine aq ?_|refine aP F ?_|refine aQ F ?_|simp[z,p,hi]);have h6:b5 E=E:=by rw[<-q];exact Cw
  rw[h6];subst q;refine CallDo.subR (ε:=ε) (b:=b) (l:=M) (r:=R) (y:= .agg [aj K,aj (K+1),aj (K+1+1),.str (bJ (K+1+1+1)),eb Q.1]) (y':= .agg [aj K,aj (K+1),aj (K+1+1),.str (bJ (K+1+1+1)),eb Q.1]) (by simp[cN,dZ,n]) rfl (by simp only[c7,aax];exact O) c rfl ?_ (fun eJ V L=>?_)
  ·rw[AG];simp only[aH,az,jk];exact o4 _ _ (by simp only[cN];exact⟨Ω,n⟩)
  ·skip;have v:¬(Q.2<0):=Ω
   simp[v];(repeat' first|refine aq ?_|simp[v]);refine bV.rng () hi ?_ ?_
   ·trivial
   rw[show(bF bJ (xs.take (i+1)) k).2=Q.2 from m];have S:aA.obj b::(gJ ε (b+1) Y).map (fun x=>x.1)=cI (c7 ε b (bK Y)):=by simp[ls f]
   rw[S,<-j];refine w _ _ ?_ (fun k o h=>?_)
   ·simp[az,B]
   rw[ls f,g,W]at h;simp only[ad]at h;split at h
   ·rename_i e;subst e;rw[V,<-h]
   ·rw[<-c]at L;exact L k o h
def FN(x:af):Prop:= ∃(a:Int) (b:Int),x= .agg [aj a,aj b]
def X6(a:Int)(b:Int)(K:Int):dG bJ (.agg [aj a,aj b]) K=(.agg [aj K,aj (K+1)],K+1+1):=by simp[dG,bF]
def Gz{xs:List af}(h:∀x∈xs,FN x):dZ xs:=AJ.2 fun x b=>by obtain⟨a,c,rfl⟩:=h x b;simp[cN,dZ]
def arP(k:Int):bX au 108 [b4 [],aj k] (aj k):=by refine bL a7 Tryz.func108 YF fun a=>?_;unfold KK;simp;(repeat' first|refine aq ?_|simp);refine fX (fun i (_:Unit)=>⟨[(0,b4 []),(1,aj k),(5,aj i)],[],[],0,[]⟩) 0 (fun _ _=>True) () cc trivial (fun _ _ _=>?_) (fun i _ hi _ _=>Ω);exact cB
def aia(k:Int)(b:Nat)(ε:Nat->Nat):bD au 108 [dx b (b4 []),aj k] (c7 ε b (b4 [])) fun r a=>r=aj k/\a=c7 ε b (b4 []):=arP k
def aro(k:Int):bX au 112 [b4 [],aj k] (aj k):=by refine bL a7 Tryz.func112 Yz fun a=>?_;unfold KE;simp;(repeat' first|refine aq ?_|simp);refine fX (fun i (_:Unit)=>⟨[(0,b4 []),(1,aj k),(5,aj i)],[],[],0,[]⟩) 0 (fun _ _=>True) () cc trivial (fun _ _ _=>?_) (fun i _ hi _ _=>Ω);exact cB
def ahZ(k:Int)(b:Nat)(ε:Nat->Nat):bD au 112 [dx b (b4 []),aj k] (c7 ε b (b4 [])) fun r a=>r=aj k/\a=c7 ε b (b4 []):=aro k
def ah9(xs:List af)(s:∀x∈xs,FN x)(k:Int)(b:Nat)(ε:Nat->Nat)(L:0<=k)(N:(bF bJ xs k).2<=4611686018427387904):
  bD au 108 [dx b (b4 xs),aj k] (c7 ε b (b4 xs)) fun r z=>r=aj (bF bJ xs k).2/\z=c7 ε b (b4 (bF bJ xs k).1):=by
 have B:dZ xs:=Gz s;by_cases n:xs=[]
 ·subst n;exact aia k b ε
 have E:=wk bJ (xs:=xs) k fun x h=>by obtain⟨a,d,rfl⟩:=s x h;exact⟨_,_,_,rfl⟩
 obtain⟨A,g,j,u⟩:=Il bJ k (sz:=2) ε b B Ω n;refine bD.mk mixed a7 Tryz.func108 YF Ψ A.obj fun O H=>?_;unfold KK;rw[uk n];simp[-QN];(repeat' first|refine aq ?_|simp[-QN]);refine fX (fun i (_:Unit)=>⟨[(0,.row 2 (.obj b) xs.length),(1,aj (bF bJ (xs.take i) k).2),(5,aj i)],[],dP ε b (b4 (kU bJ xs k i)),0,cI (c7 ε b (b4 xs))⟩) xs.length (fun _ _=>True) () ?_ trivial (fun _ _ _=>?_) (fun i _ hi _ _=>?_)
 ·refine gk.to (j _) (g _) ?_ (fun k o h=>by rw[EA]at h;exact h);simp[-QN,az,u,bF]
 ·rw[pW,jv];simp[-QN];(repeat' first|refine aq ?_|simp[-QN]);refine c3.at (c7 ε b (b4 (bF bJ xs k).1)) Ψ (pB (by rw[<-pW];exact j _)) (qb (by rw[<-pW];exact g _)) (fun k cs h=>by simp[-QN,ad]at h) (fun k o h=>h) ?_;simp[-QN,c9,ba,bd,a1]
 ·obtain⟨x,v,hm,J,U,p,m⟩:=uW bJ k hi;have e:=Ey bJ k v;have c:=Ez bJ k v;have w:=fun(t':List (Nat×af)) (st:bo)=>gk.to (t':=t') (st:=st) (ε:=ε) (b:=b) (j (i+1)) (g (i+1));have hlen:((bF bJ (xs.take i) k).1++x::xs.drop (i+1)).length=xs.length:=by rw[<-e];exact nU ..
  rw[e,ls (xs:=_++x::_) Ψ,hlen];generalize F:(bF bJ (xs.take i) k).1=M at m e c⊢;generalize G:(bF bJ (xs.take i) k).2=K at p c J U⊢;generalize bu:xs.drop (i+1)=R at e c⊢;obtain⟨a,d,rfl⟩:=s x hm;have f:=uj (b:=b+1) (r:=R) (x:= .agg [aj a,aj d]) m;have l:(fR (b+1) (M++ .agg [aj a,aj d]::R)).length=xs.length:=by rw[oX,<-e];exact nU ..
  rw[X6]at p c U;generalize y:fR (b+1) (M++ .agg [aj a,aj d]::R)=X at f l⊢;simp only at U;have t:∀h,(X[i]'h)= .agg [aj a,aj d]:=fun h=>by rw[cl h]at f;exact e7 f
  clear f;simp[-QN,hi,t,l];(repeat' first|refine aq ?_|simp[-QN,t,l,hi]);refine bV.rng () hi ?_ ?_
  ·trivial
  rw[show(bF bJ (xs.take (i+1)) k).2=K+1+1 from p];refine w _ _ ?_ (fun q o h=>?_)
  ·simp[-QN,az,u]
  rw[c,ls Ψ]at h;have es:X.set i (.agg [aj K,aj (K+1)])=fR (b+1) (M++ .agg [aj K,aj (K+1)]::R):=by rw[<-y];exact GH (x:= .agg [aj a,aj d]) (x':= .agg [aj K,aj (K+1)]) m rfl
  rw[es,<-nU bJ xs k (i+1),c];rw[Fe]at h⊢;exact h
def ahY(xs:List af)(m:∀x∈xs,FN x)(k:Int)(b:Nat)(ε:Nat->Nat)(O:0<=k)(P:(bF bJ xs k).2<=4611686018427387904):
  bD au 112 [dx b (b4 (bF bJ xs k).1),aj k] (c7 ε b (b4 (bF bJ xs k).1)) fun r B=>r=aj (bF bJ xs k).2/\B=c7 ε b (b4 (bF bJ xs k).1):=by
 by_cases u:xs=[]
 ·subst u;exact ahZ k b ε
 have F:=wk bJ (xs:=xs) k fun x h=>by obtain⟨a,A,rfl⟩:=m x h;exact⟨_,_,_,rfl⟩
 obtain⟨w,v,g,f,q⟩:=He bJ k (sz:=2) ε b (Gz m) Ω u;have n:=fun(t':List (Nat×af)) (st:bo)=>gk.to (t':=t') (st:=st) (ε:=ε) (b:=b) w rfl;refine bD.mk mixed a7 Tryz.func112 Yz Ψ v.obj fun Q N=>?_;unfold KE;rw[uk f,g];simp[-QN];(repeat' first|refine aq ?_|simp[-QN]);refine fX (fun i (_:Unit)=>⟨[(0,.row 2 (.obj b) xs.length),(1,aj (bF bJ (xs.take i) k).2),(5,aj i)],[],dP ε b (b4 (bF bJ xs k).1),0,cI (c7 ε b (b4 (bF bJ xs k).1))⟩) xs.length (fun _ _=>True) () ?_ trivial (fun _ _ _=>?_) (fun i _ hi _ _=>?_)
 ·refine n _ _ ?_ (fun k o h=>h);simp[-QN,az,q,bF]
 ·rw[jv];simp[-QN];(repeat' first|refine aq ?_|simp[-QN]);refine c3.at (c7 ε b (b4 (bF bJ xs k).1)) Ψ v (qb rfl) (fun k cs h=>by simp[-QN,ad]at h) (fun k o h=>h) ?_;simp[-QN,c9,ba,bd,a1]
 ·obtain⟨x,z,hm,J,U,l,s⟩:=uW bJ k hi;have d:=EB bJ k z;generalize E:(bF bJ xs k).1=Y at*;have e:=ls (ε:=ε) (b:=b) (sz:=2) (t:= .no) f;rw[g]at e;rw[e];generalize H:(bF bJ (xs.take i) k).1=M at s d;generalize L:(bF bJ (xs.take i) k).2=K at l d J U⊢;obtain⟨a,A,rfl⟩:=m x hm;rw[X6]at l d U;simp only at U;generalize (bF bJ (xs.drop (i+1)) _).1=R at d;have c:=uj (b:=b+1) (r:=R) (x:= .agg [aj K,aj (K+1)]) s;rw[<-d]at c;have j:(fR (b+1) Y).length=xs.length:=by rw[oX,g]
  generalize G:fR (b+1) Y=X at c j e⊢;have p:∀h,(X[i]'h)= .agg [aj K,aj (K+1)]:=fun h=>by rw[cl h]at c;exact e7 c
  clear c;simp[-QN,hi,p,j];(repeat' first|refine aq ?_|simp[-QN,p,j,hi]);refine bV.rng () hi ?_ ?_
  ·trivial
  rw[show(bF bJ (xs.take (i+1)) k).2=K+1+1 from l];have y:aA.obj b::(gJ ε (b+1) Y).map (fun x=>x.1)=cI (c7 ε b (b4 Y)):=by simp[-QN,ls f]
  rw[y,<-e];refine n _ _ ?_ (fun k o h=>h)
  ·simp[-QN,az,q]
def FO(x:af):Prop:= ∃(a:Int) (s:List cW),x= .agg [aj a,.str s]
def X7(a:Int)(s:List cW)(K:Int):dG bJ (.agg [aj a,.str s]) K=(.agg [aj K,.str (bJ (K+1))],K+1+1):=by simp[dG,bF]
def GA{xs:List af}(h:∀x∈xs,FO x):dZ xs:=AJ.2 fun x b=>by obtain⟨a,s,rfl⟩:=h x b;simp[cN,dZ]
def arN(k:Int):bX au 109 [b4 [],aj k] (aj k):=by refine bL a7 Tryz.func109 YC fun a=>?_;unfold KH;simp;(repeat' first|refine aq ?_|simp);refine fX (fun i (_:Unit)=>⟨[(0,b4 []),(1,aj k),(5,aj i)],[],[],0,[]⟩) 0 (fun _ _=>True) () cc trivial (fun _ _ _=>?_) (fun i _ hi _ _=>Ω);exact cB
def ah7(k:Int)(b:Nat)(ε:Nat->Nat):bD au 109 [dx b (b4 []),aj k] (c7 ε b (b4 [])) fun r a=>r=aj k/\a=c7 ε b (b4 []):=arN k
def arl(k:Int):bX au 113 [b4 [],aj k] (aj k):=by refine bL a7 Tryz.func113 Yx fun a=>?_;unfold KC;simp;(repeat' first|refine aq ?_|simp);refine fX (fun i (_:Unit)=>⟨[(0,b4 []),(1,aj k),(5,aj i)],[],[],0,[]⟩) 0 (fun _ _=>True) () cc trivial (fun _ _ _=>?_) (fun i _ hi _ _=>Ω);exact cB
def ahV(k:Int)(b:Nat)(ε:Nat->Nat):bD au 113 [dx b (b4 []),aj k] (c7 ε b (b4 [])) fun r a=>r=aj k/\a=c7 ε b (b4 []):=arl k
def ah6(xs:List af)(p:∀x∈xs,FO x)(k:Int)(b:Nat)(ε:Nat->Nat)(N:0<=k)(O:(bF bJ xs k).2<=4611686018427387904):
  bD au 109 [dx b (b4 xs),aj k] (c7 ε b (b4 xs)) fun r A=>r=aj (bF bJ xs k).2/\A=c7 ε b (b4 (bF bJ xs k).1):=by
 have E:dZ xs:=GA p;by_cases m:xs=[]
 ·subst m;exact ah7 k b ε
 have F:=wk bJ (xs:=xs) k fun x h=>by obtain⟨a,s,rfl⟩:=p x h;exact⟨_,_,_,rfl⟩
 obtain⟨B,f,g,u⟩:=Il bJ k (sz:=2) ε b E Ω m;refine bD.mk mixed a7 Tryz.func109 YC Ψ B.obj fun P L=>?_;unfold KH;rw[uk m];simp[-Ki];(repeat' first|refine aq ?_|simp[-Ki]);refine fX (fun i (_:Unit)=>⟨[(0,.row 2 (.obj b) xs.length),(1,aj (bF bJ (xs.take i) k).2),(5,aj i)],[],dP ε b (b4 (kU bJ xs k i)),0,cI (c7 ε b (b4 xs))⟩) xs.length (fun _ _=>True) () ?_ trivial (fun _ _ _=>?_) (fun i _ hi _ _=>?_)
 ·refine gk.to (g _) (f _) ?_ (fun k o h=>by rw[EA]at h;exact h);simp[-Ki,az,u,bF]
 ·rw[pW,jv];simp[-Ki];(repeat' first|refine aq ?_|simp[-Ki]);refine c3.at (c7 ε b (b4 (bF bJ xs k).1)) Ψ (pB (by rw[<-pW];exact g _)) (qb (by rw[<-pW];exact f _)) (fun k cs h=>by simp[-Ki,ad]at h) (fun k o h=>h) ?_;simp[-Ki,c9,ba,bd,a1]
 ·obtain⟨x,w,hm,J,U,n,l⟩:=uW bJ k hi;have d:=Ey bJ k w;have c:=Ez bJ k w;have y:=fun(t':List (Nat×af)) (st:bo)=>gk.to (t':=t') (st:=st) (ε:=ε) (b:=b) (g (i+1)) (f (i+1));have hlen:((bF bJ (xs.take i) k).1++x::xs.drop (i+1)).length=xs.length:=by rw[<-d];exact nU ..
  rw[d,ls (xs:=_++x::_) Ψ,hlen];generalize G:(bF bJ (xs.take i) k).1=M at l d c⊢;generalize H:(bF bJ (xs.take i) k).2=K at n c J U⊢;generalize bu:xs.drop (i+1)=R at d c⊢;obtain⟨a,s,rfl⟩:=p x hm;have e:=uj (b:=b+1) (r:=R) (x:= .agg [aj a,.str s]) l;have j:(fR (b+1) (M++ .agg [aj a,.str s]::R)).length=xs.length:=by rw[oX,<-d];exact nU ..
  rw[X7]at n c U;generalize z:fR (b+1) (M++ .agg [aj a,.str s]::R)=X at e j⊢;simp only at U;have v:=CF (K+1) Ω;have t:∀h,(X[i]'h)= .agg [aj a,.str s]:=fun h=>by rw[cl h]at e;exact e7 e
  clear e;simp[-Ki,hi,t,j];(repeat' first|refine aq ?_|refine aP v ?_|refine aQ v ?_|simp[-Ki,t,j,hi]);refine bV.rng () hi ?_ ?_
  ·trivial
  rw[show(bF bJ (xs.take (i+1)) k).2=K+1+1 from n];refine y _ _ ?_ (fun q o h=>?_)
  ·simp[-Ki,az,u]
  rw[c,ls Ψ]at h;have es:X.set i (.agg [aj K,.str (bJ (K+1))])=fR (b+1) (M++ .agg [aj K,.str (bJ (K+1))]::R):=by rw[<-z];exact GH (x:= .agg [aj a,.str s]) (x':= .agg [aj K,.str (bJ (K+1))]) l rfl
  rw[es,<-nU bJ xs k (i+1),c];rw[Fe]at h⊢;exact h
def ahU(xs:List af)(m:∀x∈xs,FO x)(k:Int)(b:Nat)(ε:Nat->Nat)(P:0<=k)(Q:(bF bJ xs k).2<=4611686018427387904):
  bD au 113 [dx b (b4 (bF bJ xs k).1),aj k] (c7 ε b (b4 (bF bJ xs k).1)) fun r E=>r=aj (bF bJ xs k).2/\E=c7 ε b (b4 (bF bJ xs k).1):=by
 by_cases w:xs=[]
 ·subst w;exact ahV k b ε
 have G:=wk bJ (xs:=xs) k fun x h=>by obtain⟨a,s,rfl⟩:=m x h;exact⟨_,_,_,rfl⟩
 obtain⟨z,y,g,f,q⟩:=He bJ k (sz:=2) ε b (GA m) Ω w;have n:=fun(t':List (Nat×af)) (st:bo)=>gk.to (t':=t') (st:=st) (ε:=ε) (b:=b) z rfl;refine bD.mk mixed a7 Tryz.func113 Yx Ψ y.obj fun S O=>?_;unfold KC;rw[uk f,g];simp[-Ki];(repeat' first|refine aq ?_|simp[-Ki]);refine fX (fun i (_:Unit)=>⟨[(0,.row 2 (.obj b) xs.length),(1,aj (bF bJ (xs.take i) k).2),(5,aj i)],[],dP ε b (b4 (bF bJ xs k).1),0,cI (c7 ε b (b4 (bF bJ xs k).1))⟩) xs.length (fun _ _=>True) () ?_ trivial (fun _ _ _=>?_) (fun i _ hi _ _=>?_)
 ·refine n _ _ ?_ (fun k o h=>h);simp[-Ki,az,q,bF]
 ·rw[jv];simp[-Ki];(repeat' first|refine aq ?_|simp[-Ki]);refine c3.at (c7 ε b (b4 (bF bJ xs k).1)) Ψ y (qb rfl) (fun k cs h=>by simp[-Ki,ad]at h) (fun k o h=>h) ?_;simp[-Ki,c9,ba,bd,a1]
 ·obtain⟨x,B,hm,J,U,l,v⟩:=uW bJ k hi;have d:=EB bJ k B;generalize F:(bF bJ xs k).1=Y at*;have e:=ls (ε:=ε) (b:=b) (sz:=2) (t:= .no) f;rw[g]at e;rw[e];generalize L:(bF bJ (xs.take i) k).1=M at v d;generalize N:(bF bJ (xs.take i) k).2=K at l d J U⊢;obtain⟨a,s,rfl⟩:=m x hm;rw[X7]at l d U;simp only at U;generalize (bF bJ (xs.drop (i+1)) _).1=R at d;have c:=uj (b:=b+1) (r:=R) (x:= .agg [aj K,.str (bJ (K+1))]) v;rw[<-d]at c;have j:(fR (b+1) Y).length=xs.length:=by rw[oX,g]
  generalize H:fR (b+1) Y=X at c j e⊢;have u:=CF (K+1) Ω;have p:∀h,(X[i]'h)= .agg [aj K,.str (bJ (K+1))]:=fun h=>by rw[cl h]at c;exact e7 c
  clear c;simp[-Ki,hi,p,j];(repeat' first|refine aq ?_|refine aP u ?_|refine aQ u ?_|simp[-Ki,p,j,hi]);refine bV.rng () hi ?_ ?_
  ·trivial
  rw[show(bF bJ (xs.take (i+1)) k).2=K+1+1 from l];have A:aA.obj b::(gJ ε (b+1) Y).map (fun x=>x.1)=cI (c7 ε b (b4 Y)):=by simp[-Ki,ls f]
  rw[A,<-e];refine n _ _ ?_ (fun k o h=>h)
  ·simp[-Ki,az,q]
def GD{xs:List af}(c:∀x∈xs,∃a,x=bK a/\∀y∈a,tV y):dZ xs:=AJ.2 fun x h=>by obtain⟨a,rfl,b⟩:=c x h;simp only[cN];exact⟨Ω,yJ b⟩
def arL(k:Int):bX au 107 [cV [],aj k] (aj k):=by refine bL a7 Tryz.func107 YB fun a=>?_;unfold KG;simp;(repeat' first|refine aq ?_|simp);refine fX (fun i (_:Unit)=>⟨[(0,cV []),(1,aj k),(5,aj i)],[],[],0,[]⟩) 0 (fun _ _=>True) () cc trivial (fun _ _ _=>?_) (fun i _ hi _ _=>Ω);exact cB
def ah4(k:Int)(b:Nat)(ε:Nat->Nat):bD au 107 [dx b (cV []),aj k] (c7 ε b (cV [])) fun r a=>r=aj k/\a=c7 ε b (cV []):=arL k
def arj(k:Int):bX au 111 [cV [],aj k] (aj k):=by refine bL a7 Tryz.func111 Yw fun a=>?_;unfold KB;simp;(repeat' first|refine aq ?_|simp);refine fX (fun i (_:Unit)=>⟨[(0,cV []),(1,aj k),(5,aj i)],[],[],0,[]⟩) 0 (fun _ _=>True) () cc trivial (fun _ _ _=>?_) (fun i _ hi _ _=>Ω);exact cB
def ahS(k:Int)(b:Nat)(ε:Nat->Nat):bD au 111 [dx b (cV []),aj k] (c7 ε b (cV [])) fun r a=>r=aj k/\a=c7 ε b (cV []):=arj k
def ah3(xs:List af)(H:∀x∈xs,∃a,x=bK a/\∀y∈a,tV y)(ot:xs.length<=4611686018427387904)(k:Int)(b:Nat)(ε:Nat->Nat)(bz:0<=k)(ab:(bF bJ xs k).2<=4611686018427387904):
  bD au 107 [dx b (cV xs),aj k] (c7 ε b (cV xs)) fun r Y=>r=aj (bF bJ xs k).2/\Y=c7 ε b (cV (bF bJ xs k).1):=by
 have aJ:dZ xs:=GD H;by_cases t:xs=[]
 ·subst t;exact ah4 k b ε
 obtain⟨Z,p,q,B⟩:=Il bJ k (sz:=1) ε b aJ Ω t;refine bD.mk mixed a7 Tryz.func107 YB Ψ Z.obj fun aT cZ=>?_;unfold KG;rw[uk t];simp;(repeat' first|refine aq ?_|simp);refine fX (fun i (_:Unit)=>⟨[(0,.row 1 (.obj b) xs.length),(1,aj (bF bJ (xs.take i) k).2),(5,aj i)],[],dP ε b (cV (kU bJ xs k i)),0,cI (c7 ε b (cV xs))⟩) xs.length (fun _ _=>True) () ?_ trivial (fun _ _ _=>?_) (fun i _ hi _ _=>?_)
 ·refine gk.to (q _) (p _) ?_ (fun k o h=>by rw[EA]at h;exact h);simp[az,B,bF]
 ·rw[pW,jv];simp;(repeat' first|refine aq ?_|simp);refine c3.at (c7 ε b (cV (bF bJ xs k).1)) Ψ (pB (by rw[<-pW];exact q _)) (qb (by rw[<-pW];exact p _)) (fun k cs h=>by simp[ad]at h) (fun k o h=>h) ?_;simp[c9,ba,bd,a1]
 ·obtain⟨x,G,hm,J,U,m,F⟩:=uW bJ k hi;have f:=Ey bJ k G;have c:=Ez bJ k G;have O:=fun(t':List (Nat×af)) (st:bo)=>gk.to (t':=t') (st:=st) (ε:=ε) (b:=b) (q (i+1)) (p (i+1));have hlen:((bF bJ (xs.take i) k).1++x::xs.drop (i+1)).length=xs.length:=by rw[<-f];exact nU ..
  rw[f,ls (xs:=_++x::_) Ψ,hlen];generalize fY:(bF bJ (xs.take i) k).1=M at F f c⊢;generalize di:(bF bJ (xs.take i) k).2=K at m c J U⊢;generalize bu:xs.drop (i+1)=R at f c⊢;obtain⟨a,rfl,w⟩:=H x hm;have d:=uj (b:=b+1) (r:=R) (x:=bK a) F;have s:(fR (b+1) (M++bK a::R)).length=xs.length:=by rw[oX,<-f];exact nU ..
  simp only[dG]at m c U;generalize j:dx (b+1+c6 M) (bK a)=E at d;generalize P:fR (b+1) (M++bK a::R)=X at d s⊢;have S:K<=(bF bJ a K).2:=mz ..;have A:∀h,(X[i]'h)=E:=fun h=>by rw[cl h]at d;exact e7 d
  clear d;have L:=UY a w K (b+1+c6 M) ε Ω Ω;have z:dZ a:=yJ w;have g:(bF bJ a K).1.length=a.length:=lp ..;have n:c6 (bF bJ a K).1=c6 a:=nA ..;generalize bF bJ a K=Q at g n L m c U S;have u:cells E=[E]:=by rw[<-j];exact Tn
  have v:eS E=true:=by rw[<-j];exact aaO
  simp[hi,A,s,u,v];(repeat' first|refine aq ?_|simp[A,s,hi,u,v]);have V:b5 E=E:=by rw[<-j];exact Cw
  rw[V];subst j;refine CallDo.subR (ε:=ε) (b:=b) (l:=M) (r:=R) (y:=bK a) (y':=bK Q.1) (by simp only[cN];exact⟨Ω,z⟩) (mT g n) L rfl rfl ?_ (fun eJ N W=>?_)
  ·simp only[aH,az,jk];exact o4 _ _ (by simp only[cN];exact⟨Ω,z⟩)
  ·skip;simp;(repeat' first|refine aq ?_|simp);refine bV.rng () hi ?_ ?_
   ·trivial
   rw[show(bF bJ (xs.take (i+1)) k).2=Q.2 from m];refine O _ _ ?_ (fun k o h=>?_)
   ·simp[az,B]
   rw[c,ls Ψ]at h;simp only[ad]at h;split at h
   ·rename_i e;subst e;rw[N,<-h,<-P,<-aes (yK g) (mT g n),<-nU bJ xs k (i+1),c]
   ·exact W k o h
def ahR(xs:List af)(N:∀x∈xs,∃a,x=bK a/\∀y∈a,tV y)(ot:xs.length<=4611686018427387904)(k:Int)(b:Nat)(ε:Nat->Nat)(bz:0<=k)(ab:(bF bJ xs k).2<=4611686018427387904):
  bD au 111 [dx b (cV (bF bJ xs k).1),aj k] (c7 ε b (cV (bF bJ xs k).1)) fun r ak=>r=aj (bF bJ xs k).2/\ak=c7 ε b (cV (bF bJ xs k).1):=by
 by_cases G:xs=[]
 ·subst G;exact ahS k b ε
 obtain⟨P,L,j,g,B⟩:=He bJ k (sz:=1) ε b (GD N) Ω G;have z:=fun(t':List (Nat×af)) (st:bo)=>gk.to (t':=t') (st:=st) (ε:=ε) (b:=b) P rfl;refine bD.mk mixed a7 Tryz.func111 Yw Ψ L.obj fun aT cZ=>?_;unfold KB;rw[uk g,j];simp;(repeat' first|refine aq ?_|simp);refine fX (fun i (_:Unit)=>⟨[(0,.row 1 (.obj b) xs.length),(1,aj (bF bJ (xs.take i) k).2),(5,aj i)],[],dP ε b (cV (bF bJ xs k).1),0,cI (c7 ε b (cV (bF bJ xs k).1))⟩) xs.length (fun _ _=>True) () ?_ trivial (fun _ _ _=>?_) (fun i _ hi _ _=>?_)
 ·refine z _ _ ?_ (fun k o h=>h);simp[az,B,bF]
 ·rw[jv];simp;(repeat' first|refine aq ?_|simp);refine c3.at (c7 ε b (cV (bF bJ xs k).1)) Ψ L (qb rfl) (fun k cs h=>by simp[ad]at h) (fun k o h=>h) ?_;simp[c9,ba,bd,a1]
 ·obtain⟨x,cz,hm,J,U,n,F⟩:=uW bJ k hi;have c:=EB bJ k cz;generalize uw:(bF bJ xs k).1=Y at*;have m:=ls (ε:=ε) (b:=b) (sz:=1) (t:= .no) g;rw[j]at m;rw[m];generalize fY:(bF bJ (xs.take i) k).1=M at F c;generalize di:(bF bJ (xs.take i) k).2=K at n c J U⊢;obtain⟨a,rfl,w⟩:=N x hm;simp only[dG]at n c U;generalize (bF bJ (xs.drop (i+1)) _).1=R at c;have d:=uj (b:=b+1) (r:=R) (x:=bK (bF bJ a K).1) F;rw[<-c]at d;have q:(fR (b+1) Y).length=xs.length:=by rw[oX,j]
  generalize f:dx (b+1+c6 M) (bK (bF bJ a K).1)=E at d;generalize W:fR (b+1) Y=X at d q m⊢;have Z:K<=(bF bJ a K).2:=mz ..;have A:∀h,(X[i]'h)=E:=fun h=>by rw[cl h]at d;exact e7 d
  clear d;have O:=UT a w K (b+1+c6 M) ε Ω Ω;have p:dZ (bF bJ a K).1:=qW _ _ _ (yJ w);generalize bF bJ a K=Q at p f O n c U Z;have u:cells E=[E]:=by rw[<-f];exact Tn
  have v:eS E=true:=by rw[<-f];exact aaO
  simp[hi,A,q,u,v];(repeat' first|refine aq ?_|simp[A,q,hi,u,v]);have h6:b5 E=E:=by rw[<-f];exact Cw
  rw[h6];subst f;refine CallDo.subR (ε:=ε) (b:=b) (l:=M) (r:=R) (y:=bK Q.1) (y':=bK Q.1) (by simp only[cN];exact⟨Ω,p⟩) rfl O c rfl ?_ (fun eJ V H=>?_)
  ·simp only[aH,az,jk];exact o4 _ _ (by simp only[cN];exact⟨Ω,p⟩)
  ·skip;have s:¬(Q.2<0):=Ω
   simp[s];(repeat' first|refine aq ?_|simp[s]);refine bV.rng () hi ?_ ?_
   ·trivial
   rw[show(bF bJ (xs.take (i+1)) k).2=Q.2 from n];have S:aA.obj b::(gJ ε (b+1) Y).map (fun x=>x.1)=cI (c7 ε b (cV Y)):=by simp[ls g]
   rw[S,<-m];refine z _ _ ?_ (fun k o h=>?_)
   ·simp[az,B]
   rw[ls g,j,W]at h;simp only[ad]at h;split at h
   ·rename_i e;subst e;rw[V,<-h]
   ·rw[<-c]at H;exact H k o h
structure Ak (B aX K M:List af):Prop where
 b:∀x∈B,tV x
 d:∀x∈aX,∃dA,x=bK dA/\∀y∈dA,tV y
 k:∀x∈K,FN x
 m:∀x∈M,FO x
 l:aX.length<=4611686018427387904
abbrev kF(n:Int)(B aX K M:List af):af:= .agg [aj n,bK B,cV aX,b4 K,b4 M]
def ef(B:List af)(k:Int):=bF bJ B k
def eM(B aX:List af)(k:Int):=bF bJ aX (ef B k).2
def fG(B aX K:List af)(k:Int):=bF bJ K (eM B aX k).2
def gC(B aX K M:List af)(k:Int):=bF bJ M (fG B aX K k).2
def AL(b:Nat)(n:Int)(B aX K M:List af):dx b (kF n B aX K M)= .agg [aj n,dx b (bK B),dx (b+bE (bK B)) (cV aX),dx (b+bE (bK B)+bE (cV aX)) (b4 K),dx (b+bE (bK B)+bE (cV aX)+bE (b4 K)) (b4 M)]:=rfl
def GB{n:Int}{B aX K M:List af}(h:Ak B aX K M):cN (kF n B aX K M):=by simp only[cN,dZ,jk,true_and];exact⟨⟨Ω,yJ h.b⟩,⟨Ω,GD h.d⟩,⟨Ω,Gz h.k⟩,Ω,GA h.m⟩
def GC{n:Int}{B aX K M:List af}(h:Ak B aX K M)(k:Int):cN (kF n (ef B k).1 (eM B aX k).1 (fG B aX K k).1 (gC B aX K M k).1):=by simp only[cN,dZ,jk,true_and];exact⟨⟨Ω,qW _ _ _ (yJ h.b)⟩,⟨Ω,qW _ _ _ (GD h.d)⟩,⟨Ω,qW _ _ _ (Gz h.k)⟩,Ω,qW _ _ _ (GA h.m)⟩
def Gu(n:Int)(B aX K M:List af):bE (kF n B aX K M)=bE (bK B)+bE (cV aX)+bE (b4 K)+bE (b4 M):=by show 0+(bE (bK B)+(bE (cV aX)+(bE (b4 K)+(bE (b4 M)+0))))=_;omega
def UZ(n:Int){B aX K M:List af}(h:Ak B aX K M)(k:Int)(b:Nat)(ε:Nat->Nat)(R:0<=k)(V:(gC B aX K M k).2<=4611686018427387904):
  bD au 44 [dx b (kF n B aX K M),aj k] (c7 ε b (kF n B aX K M)) fun r a=>r=aj (gC B aX K M k).2/\a=c7 ε b (kF n (ef B k).1 (eM B aX k).1 (fG B aX K k).1 (gC B aX K M k).1):=by
 have S:k<=(ef B k).2:=mz ..;have U:(ef B k).2<=(eM B aX k).2:=mz ..;have Q:(eM B aX k).2<=(fG B aX K k).2:=mz ..;have O:(fG B aX K k).2<=(gC B aX K M k).2:=mz ..;have d0:cN (kF n B aX K M):=GB h;have d5:cN (kF n (ef B k).1 (eM B aX k).1 (fG B aX K k).1 (gC B aX K M k).1):=GC h k;have x:eB (c7 ε b (kF n B aX K M)):=pB d0;have w:bE (bK (ef B k).1)=bE (bK B):=mT (lp ..) (nA ..);have v:bE (cV (eM B aX k).1)=bE (cV aX):=mT (lp ..) (nA ..);have u:bE (b4 (fG B aX K k).1)=bE (b4 K):=mT (lp ..) (nA ..);have q:bE (b4 (gC B aX K M k).1)=bE (b4 M):=mT (lp ..) (nA ..);have f1:bD au 106 [dx (b) (bK B),aj k] (c7 ε (b) (bK B)) fun r a=>r=aj (ef B k).2/\a=c7 ε (b) (bK (ef B k).1):=UY B h.b k (b) ε Ω (show(ef B k).2<=_ by omega);have f2:bD au 107 [dx (b+bE (bK B)) (cV aX),aj (ef B k).2] (c7 ε (b+bE (bK B)) (cV aX)) fun r a=>r=aj (eM B aX k).2/\a=c7 ε (b+bE (bK B)) (cV (eM B aX k).1):=ah3 aX h.d h.l (ef B k).2 (b+bE (bK B)) ε Ω (show(eM B aX k).2<=_ by omega);have f3:bD au 108 [dx (b+bE (bK B)+bE (cV aX)) (b4 K),aj (eM B aX k).2] (c7 ε (b+bE (bK B)+bE (cV aX)) (b4 K)) fun r a=>r=aj (fG B aX K k).2/\a=c7 ε (b+bE (bK B)+bE (cV aX)) (b4 (fG B aX K k).1):=ah9 K h.k (eM B aX k).2 (b+bE (bK B)+bE (cV aX)) ε Ω (show(fG B aX K k).2<=_ by omega);have f4:bD au 109 [dx (b+bE (bK B)+bE (cV aX)+bE (b4 K)) (b4 M),aj (fG B aX K k).2] (c7 ε (b+bE (bK B)+bE (cV aX)+bE (b4 K)) (b4 M)) fun r a=>r=aj (gC B aX K M k).2/\a=c7 ε (b+bE (bK B)+bE (cV aX)+bE (b4 K)) (b4 (gC B aX K M k).1):=ah6 M h.m (fG B aX K k).2 (b+bE (bK B)+bE (cV aX)+bE (b4 K)) ε Ω (show(gC B aX K M k).2<=_ by omega);have j:cN (bK B):=by simp only[cN,dZ]at d0;exact d0.2.1
 have m:cN (cV aX):=by simp only[cN,dZ]at d0;exact d0.2.2.1
 have f:cN (b4 K):=by simp only[cN,dZ]at d0;exact d0.2.2.2.1
 have i:cN (b4 M):=by simp only[cN,dZ]at d0;exact d0.2.2.2.2.1
 refine bD.mk mixed a7 Tryz.func44 ann Ψ x.obj fun W P=>?_;unfold Sc;rw[AL];simp;(repeat' first|refine aq ?_|simp);have e:b+c6 [aj n]=b:=by show b+(0+0)=_;omega
 refine CallDo.sub (ε:=ε) (b:=b) (l:=[aj n]) (r:=[cV aX,b4 K,b4 M]) (y:=bK B) (y':=bK (ef B k).1) j w (by rw[e];exact f1) (fun k o h=>?_) ?_ (fun J s N=>?_)
 ·exact h
 ·simp only[aH,jk];rw[e];exact⟨o4 _ _ j,by simp[az]⟩
 simp;(repeat' first|refine aq ?_|simp);have g:b+c6 [aj n,bK (ef B k).1]=b+bE (bK B):=by show b+(0+(bE (bK (ef B k).1)+0))=_;omega
 refine CallDo.sub (ε:=ε) (b:=b) (l:=[aj n,bK (ef B k).1]) (r:=[b4 K,b4 M]) (y:=cV aX) (y':=cV (eM B aX k).1) m v (by rw[g];exact f2) (fun k o h=>?_) ?_ (fun E t L=>?_)
 ·exact s k o h
 ·simp only[aH,jk];rw[g];exact⟨o4 _ _ m,by simp[az]⟩
 simp;(repeat' first|refine aq ?_|simp);have d:b+c6 [aj n,bK (ef B k).1,cV (eM B aX k).1]=b+bE (bK B)+bE (cV aX):=by show b+(0+(bE (bK (ef B k).1)+(bE (cV (eM B aX k).1)+0)))=_;omega
 refine CallDo.sub (ε:=ε) (b:=b) (l:=[aj n,bK (ef B k).1,cV (eM B aX k).1]) (r:=[b4 M]) (y:=b4 K) (y':=b4 (fG B aX K k).1) f u (by rw[d];exact f3) (fun k o h=>?_) ?_ (fun A p H=>?_)
 ·exact t k o h
 ·simp only[aH,jk];rw[d];exact⟨o4 _ _ f,by simp[az]⟩
 simp;(repeat' first|refine aq ?_|simp);have c:b+c6 [aj n,bK (ef B k).1,cV (eM B aX k).1,b4 (fG B aX K k).1]=b+bE (bK B)+bE (cV aX)+bE (b4 K):=by show b+(0+(bE (bK (ef B k).1)+(bE (cV (eM B aX k).1)+(bE (b4 (fG B aX K k).1)+0))))=_;omega
 refine CallDo.sub (ε:=ε) (b:=b) (l:=[aj n,bK (ef B k).1,cV (eM B aX k).1,b4 (fG B aX K k).1]) (r:=[]) (y:=b4 M) (y':=b4 (gC B aX K M k).1) i q (by rw[c];exact f4) (fun k o h=>?_) ?_ (fun z F G=>?_)
 ·exact p k o h
 ·simp only[aH,jk];rw[c];exact⟨o4 _ _ i,by simp[az]⟩
 simp;(repeat' first|refine aq ?_|simp);refine c3.at (c7 ε b (kF n (ef B k).1 (eM B aX k).1 (fG B aX K k).1 (gC B aX K M k).1)) Ψ (pB d5) (qb (by rw[Gu,Gu];omega)) (fun k cs h=>by simp[ad]at h) (fun k o h=>?_) ?_
 ·exact F k o h
 simp[c9,ba,bd,a1]
def ahW(n:Int){B aX K M:List af}(h:Ak B aX K M)(k:Int)(b:Nat)(ε:Nat->Nat)(W:0<=k)(Z:(gC B aX K M k).2<=4611686018427387904):
  bD au 45 [dx b (kF n (ef B k).1 (eM B aX k).1 (fG B aX K k).1 (gC B aX K M k).1),aj k] (c7 ε b (kF n (ef B k).1 (eM B aX k).1 (fG B aX K k).1 (gC B aX K M k).1)) fun r a=>r=aj (gC B aX K M k).2/\a=c7 ε b (kF n (ef B k).1 (eM B aX k).1 (fG B aX K k).1 (gC B aX K M k).1):=by
 have X:k<=(ef B k).2:=mz ..;have Y:(ef B k).2<=(eM B aX k).2:=mz ..;have V:(eM B aX k).2<=(fG B aX K k).2:=mz ..;have S:(fG B aX K k).2<=(gC B aX K M k).2:=mz ..;have d0:cN (kF n (ef B k).1 (eM B aX k).1 (fG B aX K k).1 (gC B aX K M k).1):=GC h k;have d5:cN (kF n (ef B k).1 (eM B aX k).1 (fG B aX K k).1 (gC B aX K M k).1):=GC h k;have F:eB (c7 ε b (kF n (ef B k).1 (eM B aX k).1 (fG B aX K k).1 (gC B aX K M k).1)):=pB d0;have E:bE (bK (ef B k).1)=bE (bK (ef B k).1):=rfl;have A:bE (cV (eM B aX k).1)=bE (cV (eM B aX k).1):=rfl;have z:bE (b4 (fG B aX K k).1)=bE (b4 (fG B aX K k).1):=rfl;have v:bE (b4 (gC B aX K M k).1)=bE (b4 (gC B aX K M k).1):=rfl;have f1:bD au 110 [dx (b) (bK (ef B k).1),aj k] (c7 ε (b) (bK (ef B k).1)) fun r a=>r=aj (ef B k).2/\a=c7 ε (b) (bK (ef B k).1):=UT B h.b k (b) ε Ω (show(ef B k).2<=_ by omega);have f2:bD au 111 [dx (b+bE (bK (ef B k).1)) (cV (eM B aX k).1),aj (ef B k).2] (c7 ε (b+bE (bK (ef B k).1)) (cV (eM B aX k).1)) fun r a=>r=aj (eM B aX k).2/\a=c7 ε (b+bE (bK (ef B k).1)) (cV (eM B aX k).1):=ahR aX h.d h.l (ef B k).2 (b+bE (bK (ef B k).1)) ε Ω (show(eM B aX k).2<=_ by omega);have f3:bD au 112 [dx (b+bE (bK (ef B k).1)+bE (cV (eM B aX k).1)) (b4 (fG B aX K k).1),aj (eM B aX k).2] (c7 ε (b+bE (bK (ef B k).1)+bE (cV (eM B aX k).1)) (b4 (fG B aX K k).1)) fun r a=>r=aj (fG B aX K k).2/\a=c7 ε (b+bE (bK (ef B k).1)+bE (cV (eM B aX k).1)) (b4 (fG B aX K k).1):=ahY K h.k (eM B aX k).2 (b+bE (bK (ef B k).1)+bE (cV (eM B aX k).1)) ε Ω (show(fG B aX K k).2<=_ by omega);have f4:bD au 113 [dx (b+bE (bK (ef B k).1)+bE (cV (eM B aX k).1)+bE (b4 (fG B aX K k).1)) (b4 (gC B aX K M k).1),aj (fG B aX K k).2] (c7 ε (b+bE (bK (ef B k).1)+bE (cV (eM B aX k).1)+bE (b4 (fG B aX K k).1)) (b4 (gC B aX K M k).1)) fun r a=>r=aj (gC B aX K M k).2/\a=c7 ε (b+bE (bK (ef B k).1)+bE (cV (eM B aX k).1)+bE (b4 (fG B aX K k).1)) (b4 (gC B aX K M k).1):=ahU M h.m (fG B aX K k).2 (b+bE (bK (ef B k).1)+bE (cV (eM B aX k).1)+bE (b4 (fG B aX K k).1)) ε Ω (show(gC B aX K M k).2<=_ by omega);have s:cN (bK (ef B k).1):=by simp only[cN,dZ]at d0;exact d0.2.1
 have t:cN (cV (eM B aX k).1):=by simp only[cN,dZ]at d0;exact d0.2.2.1
 have m:cN (b4 (fG B aX K k).1):=by simp only[cN,dZ]at d0;exact d0.2.2.2.1
 have q:cN (b4 (gC B aX K M k).1):=by simp only[cN,dZ]at d0;exact d0.2.2.2.2.1
 have f:¬((ef B k).2<0):=Ω
 have e:¬((eM B aX k).2<0):=Ω
 have d:¬((fG B aX K k).2<0):=Ω
 have c:¬((gC B aX K M k).2<0):=Ω
 refine bD.mk mixed a7 Tryz.func45 anm Ψ F.obj fun aT U=>?_;unfold Sb;rw[AL];simp;(repeat' first|refine aq ?_|simp);have j:b+c6 [aj n]=b:=by show b+(0+0)=_;omega
 refine CallDo.sub (ε:=ε) (b:=b) (l:=[aj n]) (r:=[cV (eM B aX k).1,b4 (fG B aX K k).1,b4 (gC B aX K M k).1]) (y:=bK (ef B k).1) (y':=bK (ef B k).1) s E (by rw[j];exact f1) (fun k o h=>?_) ?_ (fun P w R=>?_)
 ·exact h
 ·simp only[aH,jk];rw[j];exact⟨o4 _ _ s,by simp[az]⟩
 simp[f,e,d,c];(repeat' first|refine aq ?_|simp[f,e,d,c]);have p:b+c6 [aj n,bK (ef B k).1]=b+bE (bK (ef B k).1):=by show b+(0+(bE (bK (ef B k).1)+0))=_;omega
 refine CallDo.sub (ε:=ε) (b:=b) (l:=[aj n,bK (ef B k).1]) (r:=[b4 (fG B aX K k).1,b4 (gC B aX K M k).1]) (y:=cV (eM B aX k).1) (y':=cV (eM B aX k).1) t A (by rw[p];exact f2) (fun k o h=>?_) ?_ (fun J x Q=>?_)
 ·exact w k o h
 ·simp only[aH,jk];rw[p];exact⟨o4 _ _ t,by simp[az]⟩
 simp[f,e,d,c];(repeat' first|refine aq ?_|simp[f,e,d,c]);have i:b+c6 [aj n,bK (ef B k).1,cV (eM B aX k).1]=b+bE (bK (ef B k).1)+bE (cV (eM B aX k).1):=by show b+(0+(bE (bK (ef B k).1)+(bE (cV (eM B aX k).1)+0)))=_;omega
 refine CallDo.sub (ε:=ε) (b:=b) (l:=[aj n,bK (ef B k).1,cV (eM B aX k).1]) (r:=[b4 (gC B aX K M k).1]) (y:=b4 (fG B aX K k).1) (y':=b4 (fG B aX K k).1) m z (by rw[i];exact f3) (fun k o h=>?_) ?_ (fun H u O=>?_)
 ·exact x k o h
 ·simp only[aH,jk];rw[i];exact⟨o4 _ _ m,by simp[az]⟩
 simp[f,e,d,c];(repeat' first|refine aq ?_|simp[f,e,d,c]);have g:b+c6 [aj n,bK (ef B k).1,cV (eM B aX k).1,b4 (fG B aX K k).1]=b+bE (bK (ef B k).1)+bE (cV (eM B aX k).1)+bE (b4 (fG B aX K k).1):=by show b+(0+(bE (bK (ef B k).1)+(bE (cV (eM B aX k).1)+(bE (b4 (fG B aX K k).1)+0))))=_;omega
 refine CallDo.sub (ε:=ε) (b:=b) (l:=[aj n,bK (ef B k).1,cV (eM B aX k).1,b4 (fG B aX K k).1]) (r:=[]) (y:=b4 (gC B aX K M k).1) (y':=b4 (gC B aX K M k).1) q v (by rw[g];exact f4) (fun k o h=>?_) ?_ (fun G L N=>?_)
 ·exact u k o h
 ·simp only[aH,jk];rw[g];exact⟨o4 _ _ q,by simp[az]⟩
 simp[f,e,d,c];(repeat' first|refine aq ?_|simp[f,e,d,c]);refine c3.at (c7 ε b (kF n (ef B k).1 (eM B aX k).1 (fG B aX K k).1 (gC B aX K M k).1)) Ψ (pB d5) (qb rfl) (fun k cs h=>by simp[ad]at h) (fun k o h=>?_) ?_
 ·exact L k o h
 simp[c9,ba,bd,a1]
def Te:C:=(aa [dc 1 0,dR 2 jJ] (.seq (.drawn true 20 [aF 3 0 1 1,ay 4 1 3,aF 5 1 1 1,ay 6 1 5,da 7 178 6,aF 8 2 1 1,ay 9 1 8,da 10 179 9,fp 11 2 98 [],aF 12 3 1 1,ay 13 1 12,im 14 2 98 11 13,fp 15 2 100 [],aF 16 4 1 1,ay 17 1 16,im 18 2 100 15 17,j6 19 jJ [(0,1,(.t 4)),(1,1,(.t 7)),(2,1,(.t 10)),(3,1,(.t 14)),(4,1,(.t 18))],bW 5 2 19]) .ret))
def RI:C:=(aa [dc 1 0,dR 2 jJ] (.seq (.drawn true 39 [aF 6 0 1 1,ay 7 1 6,aF 8 1 1 1,ay 9 1 8,da 10 168 9,fp 11 1 46 [],j6 12 jJ [(0,1,(.t 7)),(1,1,(.t 10)),(2,1,(.t 11))],dR 3 jJ,bW 5 3 12]) (.seq (aa [aF 13 2 1 1,ay 14 1 13,cw 15 14,bQ 16 0] (gq 17 16 15 (.seq (.block 1 (aa [ck 18 1 14 16,ay 19 1 18,I 5 19] (.drawn true 39 [aF 20 2 1 3,ay 21 1 20,I 22 5,da 23 168 22,fp 24 1 46 [.t 23],im 25 1 46 21 24,aF 26 2 1 3,bW 1 26 25]))) (.region [aV 27 .add 16 1,I 16 27])))) (aa [fp 28 2 98 [],aF 29 3 1 1,ay 30 1 29,im 31 2 98 28 30,aF 32 3 1 3,bW 1 32 31] (aa [fp 33 2 100 [],aF 34 4 1 1,ay 35 1 34,im 36 2 100 33 35,aF 37 4 1 3,bW 1 37 36] (aa [bq 38 5 3,bW 5 2 38] .ret))))))
def S1:C:=(aa [fw 2 5] (aa [fp 6 5 113 [],I 3 6] (.seq (aa [I 7 0,cw 8 7,bQ 9 0] (gq 10 9 8 (.seq (.block 1 (aa [ck 11 5 7 9,bq 12 5 11,dR 5 kp,bW 5 5 12] (.drawn true 24 [I 13 3,aF 14 0 1 5,ay 15 1 14,hk 16 1 4 5,bq 17 4 16,da 18 130 17,j6 19 kp [(0,1,(.t 15)),(1,4,(.t 18))],fp 20 5 113 [.t 19],im 21 5 113 13 20,I 3 21]))) (.region [aV 22 .add 9 1,I 9 22])))) (aa [I 23 3,I 2 23] .ret))))
def Ta:C:=(aa [fw 2 1] (aa [fp 6 1 46 [],I 3 6] (.seq (aa [I 7 0,cw 8 7,bQ 9 0] (gq 10 9 8 (.seq (.block 1 (aa [ck 11 1 7 9,ay 12 1 11,I 5 12] (.region [I 13 3,I 14 5,da 15 178 14,fp 16 1 46 [.t 15],im 17 1 46 13 16,I 3 17]))) (.region [aV 18 .add 9 1,I 9 18])))) (aa [I 19 3,I 2 19] .ret))))
def aom:b6 aS Te [.cell 2 true 5] 1 Tryz.f104=true:=bi
def amS:b6 aS RI [.cell 2 true 5] 1 Tryz.f105=true:=bi
def an9:b6 aS S1 [.tmp 2] 1 Tryz.f178=true:=bi
def aoi:b6 aS Ta [.tmp 2] 1 Tryz.f179=true:=bi
def Ed(t:T)(k:Nat)(st:bo):Prop:=
 (k=t.args.length/\st=⟨[(2,.ptr (.loc 1) 0),(3,.ptr (.loc 2) 0),(14,.slice 4 .no (t.args.map T.e)),(15,.int .i64 t.args.length),(16,.int .i64 0)],[(.loc 1,[.int .i64 0,.int .i64 0,.str [],.slice 4 .nil []]),(.loc 2,[.int .i64 t.kind,.int .i64 t.int,.str t.name,.slice 4 .nil []])],[],3,[]⟩)\/
 ∃i:Nat,1<=i/\i<=t.args.length/\k=t.args.length-i/\st=⟨[(2,.ptr (.loc 1) 0),(3,.ptr (.loc 2) 0),(14,.slice 4 .no (t.args.map T.e)),(15,.int .i64 t.args.length),(16,.int .i64 i)],[(.loc 1,[.int .i64 0,.int .i64 0,.str [],.slice 4 .nil []]),(.loc 2,[.int .i64 t.kind,.int .i64 t.int,.str t.name,.slice 4 (.own (.loc 29)) ((t.args.take i).map T.e)])],[(.loc 29,⟨i,30,4,none⟩)],30,[]⟩
def abN(t:T):bX au 130 [t.e] t.e:=by
 induction t with
 |pair a b h g=>
  refine bL a7 Tryz.func130 EL fun f=>?_;unfold Az;simp;refine qi (Ed (.pair a b)) 2 _ cc (.inl ⟨rfl,rfl⟩) ?_;rintro k st (⟨c,rfl⟩|⟨i,J,U,c,rfl⟩) d e;all_goals clear d e
  ·simp;(repeat' first|refine aq ?_|refine aP h ?_|refine aQ h ?_|simp);refine bV.next 1 (by rw[c];simp) (.inr ⟨1,Ω,Ψ,rfl,rfl⟩) cc
  ·rcases(by simp at U;omega:i=1\/i=2)with rfl|rfl
   ·simp;(repeat' first|refine aq ?_|refine aP g ?_|refine aQ g ?_|simp);refine bV.next 0 (by rw[c];simp) (.inr ⟨2,Ω,Ψ,rfl,rfl⟩) cc
   ·exact cB
 |nil=>
  refine bL a7 Tryz.func130 EL fun f=>?_;unfold Az;simp;refine qi (Ed (.nil)) 0 _ cc (.inl ⟨rfl,rfl⟩) ?_;rintro k st (⟨c,rfl⟩|⟨i,J,U,c,rfl⟩) d e;all_goals clear d e
  ·exact cB
  ·simp at U;omega
 |var n=>
  refine bL a7 Tryz.func130 EL fun f=>?_;unfold Az;simp;refine qi (Ed (.var n)) 0 _ cc (.inl ⟨rfl,rfl⟩) ?_;rintro k st (⟨c,rfl⟩|⟨i,J,U,c,rfl⟩) d e;all_goals clear d e
  ·exact cB
  ·simp at U;omega
 |sym s=>
  refine bL a7 Tryz.func130 EL fun f=>?_;unfold Az;simp;refine qi (Ed (.sym s)) 0 _ cc (.inl ⟨rfl,rfl⟩) ?_;rintro k st (⟨c,rfl⟩|⟨i,J,U,c,rfl⟩) d e;all_goals clear d e
  ·exact cB
  ·simp at U;omega
 |num n=>
  refine bL a7 Tryz.func130 EL fun f=>?_;unfold Az;simp;refine qi (Ed (.num n)) 0 _ cc (.inl ⟨rfl,rfl⟩) ?_;rintro k st (⟨c,rfl⟩|⟨i,J,U,c,rfl⟩) d e;all_goals clear d e
  ·exact cB
  ·simp at U;omega
def abQ(t:List Bd)(g:t.length<=1000000):bX au 178 [.slice 5 .no (t.map Bd.e)] (.slice 5 .no (t.map Bd.e)):=by
 refine bL a7 Tryz.func178 an9 fun f=>?_;unfold S1;simp;(repeat' first|refine aq ?_|simp);refine fX (α:=List Bd) (fun i out=>⟨[(7,.slice 5 .no (t.map Bd.e)),(8,.int .i64 t.length),(3,.slice 5 (.own (.loc 0)) (out.map Bd.e)),(9,.int .i64 i)],[],[(.loc 0,⟨out.length,113,5,none⟩)],1,[]⟩) t.length (fun i out=>out=t.take i) [] cc Ψ (fun out a _=>?_) (fun i out hi a _=>?_)
 ·rw[iE (dL _)]at a;subst a;exact cB
 ·obtain⟨b,d,c⟩:=eX hi;have e:out.length<=1000000:=by rw[a];simp;omega
  simp[hi,c];(repeat' first|refine aq ?_|refine aP (abN _) ?_|refine aQ (abN _) ?_|simp[c,hi]);all_goals try refine⟨by unfold lim;omega,?_⟩
  all_goals(repeat' first|refine aq ?_|simp)
  all_goals refine bV.rng (out++[b]) hi (by rw[nZ d,a]) ?_
  all_goals simp
  all_goals exact⟨by simp[fresh,aH,az,cb,aK,ad,kC],ep (by simp[fresh,aH,az,cb,aK,ad,kC]),er (by simp[fresh,aH,az,dU,aK,ad,kC]),Ψ⟩
def Nl(S:aA->Prop)(l:List (List Bd))(d:List Bd):aH S (l.map cM++[cM d])=True:=uL S l d
def ars{x:List Bd}(h:x.length<=1000000):bX au 178 [cM x] (cM x):=abQ x h
def arE(t:List (List Bd))(g:∀x∈t,x.length<=1000000):bX au 179 [cV (t.map cM)] (cV (t.map cM)):=by
 refine bL a7 Tryz.func179 aoi fun e=>?_;unfold Ta;have h:t.length<=68719476736:=by simp[eP,eU,eQ,lim]at e;omega
 clear e;have c:=fun x b=>ars (g x b);simp;(repeat' first|refine aq ?_|simp);refine fX (fun i (L:List (List Bd))=>⟨[(7,cV (t.map cM)),(8,aj t.length),(3,.slice 1 (.own (.loc 0)) (L.map cM)),(9,aj i)],[],[(.loc 0,⟨L.length,46,1,none⟩)],1,[]⟩) t.length (fun i L=>L=t.take i) [] cc Ψ (fun L a _=>?_) (fun i L hi a _=>?_)
 ·rw[jv]at a;subst a;exact cB
 ·obtain⟨x,b,d⟩:=eX hi;have f:=c x (fx b);have j:L.length<=i:=by rw[a];simp;omega
  clear c;simp[hi,d];(repeat' first|refine aq ?_|refine aP f ?_|refine aQ f ?_|simp[d,hi]);all_goals try refine⟨by unfold lim;omega,?_⟩
  all_goals(repeat' first|refine aq ?_|simp)
  all_goals refine bV.rng (L++[x]) hi (by rw[nZ b,a]) ?_
  all_goals simp
  all_goals exact⟨by simp[fresh,aH,az,cb,aK,ad,Nl],ep (by simp[fresh,aH,az,cb,aK,ad,Nl]),er (by simp[fresh,aH,az,dU,aK,ad,Nl]),Ψ⟩
def arI(s:dO)(e:s.b.length<=1000000)(g:∀x∈s.d,x.length<=1000000)(f:s.k.length<=1000000)(hm:s.m.length<=68719470000):bX au 104 [s.e] s.e:=by
 have a:=abQ s.b e;have c:=arE s.d g;obtain⟨n,b,d,k,m⟩:=s;simp only[dO.e]at a c f hm⊢;refine bL a7 Tryz.func104 aom fun h=>?_;unfold Te;simp;(repeat' first|refine aq ?_|refine aP a ?_|refine aQ a ?_|refine aP c ?_|refine aQ c ?_|simp);all_goals try refine⟨by unfold lim;omega,?_⟩
 exact cB
def apT{s t:dO}(he:mG s=some t):t.d.length<=30:=by
 unfold mG at he;split at he
 ·cases he
 split at he
 ·cases he
 split at he
 ·cases he
 split at he
 ·rename_i h;have:=e7 he;rw[<-this];exact h
 ·cases he
mutual
def hZ:af->Nat
 | .int _ _=>1
 | .str _=>1
 | .slice _ _ xs=>iK xs
 | .agg cs=>iK cs
 |_=>0
def iK:List af->Nat
 |[]=>0
 |x::xs=>hZ x+iK xs
end
mutual
def al0(c2:Int->List cW):∀(p:af) (k:Int),(dG c2 p k).2=k+hZ p
 | .int _ _,k=>by simp[dG,hZ]
 | .str _,k=>by simp[dG,hZ]
 | .slice _ _ xs,k=>by simp only[dG,hZ];exact zA c2 xs k
 | .agg cs,k=>by simp only[dG,hZ];exact zA c2 cs k
 | .bool _,k=>by simp[dG,hZ]
 | .junk,k=>by simp[dG,hZ]
 | .ptr _ _,k=>by simp[dG,hZ]
 | .eptr _,k=>by simp[dG,hZ]
 | .iface _ _,k=>by simp[dG,hZ]
 | .nilp,k=>by simp[dG,hZ]
 | .tuple _,k=>by simp[dG,hZ]
 | .func _ _,k=>by simp[dG,hZ]
 | .gmap _,k=>by simp[dG,hZ]
 | .row _ _ _,k=>by simp[dG,hZ]
 | .rptr _ _ _ _ _,k=>by simp[dG,hZ]
 | .hdm _ _,k=>by simp[dG,hZ]
 | .hdi _ _ _,k=>by simp[dG,hZ]
 | .cst _,k=>by simp[dG,hZ]
def zA(c2:Int->List cW):∀(a:List af) (k:Int),(bF c2 a k).2=k+iK a
 |[],k=>by simp[bF,iK]
 |x::xs,k=>by simp only[bF,iK];rw[zA c2 xs,al0 c2 x];omega
end
def X4(B aX K M:List af)(k:Int):(gC B aX K M k).2=k+(iK B+iK aX+iK K+iK M:Nat):=by unfold gC fG eM ef;rw[zA,zA,zA,zA];omega
def JS{α:Type}{f:α->af}{c:Nat}:∀(l:List α),(∀x∈l,hZ (f x)<=c)->iK (l.map f)<=c*l.length
 |[],_=>by simp[iK]
 |x::l,h=>by have J:=h x Ψ;have U:=JS l fun y a=>h y (by simp[a]);simp only[hc,iK,mI,Nat.mul_succ];omega
mutual
def acb:∀t:Tm,hZ (enc t)=3*t.sz
 | .mk k n s a=>by simp only[enc,hZ,iK,Tm.sz,acd a];omega
def acd:∀l:List Tm,iK (l0 l)=3*Tm.szL l
 |[]=>rfl
 |x::xs=>by simp only[l0,iK,Tm.szL,acb x,acd xs];omega
end
mutual
def M6:∀t:Tm,j9 (enc t)
 | .mk k n s a=>by simp only[enc];exact .mk k n s (l0 a) fun y b=>Wz a y b
def Wz:∀(l:List Tm),∀y∈l0 l,j9 y
 |[],y,h=>by simp[l0]at h
 |x::xs,y,h=>by
  simp only[l0,gK]at h;rcases h with rfl|h
  ·exact M6 x
  ·exact Wz xs y h
end
def akN(t:T):j9 t.e:=by rw[<-um];exact M6 _
mutual
def abd:∀(t:Tm) (m:Int),0<=ib (ry t) m->ib (ry t) m+t.sz<=m+1
 | .mk k n s a,m,h=>by
  simp only[ry,ib]at h⊢;have b:(hA.s s).len=s.length:=rfl;have c:(qN a).length=a.length:=by rw[abq];simp
  by_cases g1:m-(hA.s s).len<0
  ·rw[if_pos g1]at h;omega
  by_cases g2:m-(hA.s s).len-((qN a).length:Int)<0
  ·rw[if_neg g1,if_pos g2]at h;omega
  rw[if_neg g1,if_neg g2]at h⊢;have:=abb a _ h;simp only[Tm.sz];omega
def abb:∀(l:List Tm) (m:Int),0<=qL (qN l) m->qL (qN l) m+Tm.szL l<=m+l.length
 |[],m,h=>by simp[qN,qL,Tm.szL]
 |x::xs,m,h=>by
  simp only[qN,qL]at h⊢;split at h
  ·omega
  rename_i g;rw[if_neg g];have J:=abd x m Ω;have U:=abb xs _ h;simp only[Tm.szL,mI];omega
end
def aa7{α β:Type}{f:α->Int->Int}{g:β->α}{w:β->af}:∀(l:List β) (m:Int),(∀x m,0<=f (g x) m->(hZ (w x):Int)<=4*(m-f (g x) m)+4)->0<=jL f (l.map g) m->(iK (l.map w):Int)<=4*(m-jL f (l.map g) m)+4*l.length
 |[],m,_,h=>by simp[jL,iK]
 |x::xs,m,a,h=>by
  simp only[hc,jL]at h⊢;split at h
  ·omega
  rename_i q;rw[if_neg q];have J:=a x m Ω;have U:=aa7 xs _ a h;simp only[iK,mI];omega
def PV{α β:Type}{f:α->Int->Int}{g:β->α}{w:β->af}(l:List β)(m:Int)(a:∀x m,0<=f (g x) m->(hZ (w x):Int)<=4*(m-f (g x) m)+4)(h:0<=l9 f (l.map g) m):(iK (l.map w):Int)<=4*(m-l9 f (l.map g) m):=by
 unfold l9 at h⊢;split at h
 ·omega
 rename_i q;rw[if_neg q];have:=aa7 l _ a h;simp at this q⊢;omega
def asf(x:Bt)(m:Int)(h:0<=qK (vz x) m):(hZ x.e:Int)<=4*(m-qK (vz x) m)+4:=by
 have J:0<=ib (ry x.t) m:=h;have U:=abd x.t m J;have b:hZ x.e=1+3*x.t.sz:=by have a:=acb x.t;rw[yL]at a;simp only[hZ,iK]at a;simp only[Bt.e,hZ,iK];omega
 have a:qK (vz x) m=ib (ry x.t) m:=rfl;have c:1<=x.t.sz:=by cases x.t;simp[Tm.sz]
 rw[b,a];omega
def aa4(l:List Bt)(m:Int)(h:0<=eC (gU l) m):(iK (l.map Bt.e):Int)<=4*(m-eC (gU l) m):=PV l m asf h
def asg(x:List Bt)(m:Int)(h:0<=eC (gU x) m):(hZ (gv x):Int)<=4*(m-eC (gU x) m)+4:=by have:=aa4 x m h;simp only[gv,hZ];omega
def asi(x:bn)(m:Int)(h:0<=jM (o8 x) m):(hZ x.e:Int)<=4*(m-jM (o8 x) m)+4:=by
 have J:hZ x.e=2:=rfl;have U:=(o8 x).s.len_nn;unfold jM at h⊢;by_cases g:m-(o8 x).s.len<0
 ·rw[if_pos g]at h;omega
 ·rw[if_neg g]at h⊢;omega
def ace(l:List bG):iK (l.map bG.e)=2*l.length:=by
 induction l with
 |nil=>rfl
 |cons x l a=>simp only[hc,iK,mI,a];show 1+(1+0)+_=_;omega
structure oP (b d k m:List af):Prop where
 f:Ak b d k m
 w:iK b+iK d+iK k+iK m<=1000000000000
def oP.le{B aX K M:List af}(h:oP B aX K M):(gC B aX K M 1).2<=4611686018427387904:=by have:=h.w;rw[X4];omega
def aqz(n:Int)(b:dw fN)(d:dw (dw fN))(k:dw bG)(m:dw iu)(q:Int):rs ⟨n,b,d,k,m⟩ q=if eC b q<0 then-1 else if fo eC d (eC b q)<0 then-1 else if lv k (fo eC d (eC b q))<0 then-1 else if fo jM m (lv k (fo eC d (eC b q)))<0 then-1 else fo jM m (lv k (fo eC d (eC b q))):=rfl
def oP.raw{r:iv}{q:Int}(j:0<=q)(B:q<=1048576)(h:0<=rs r.h q):oP (r.b.map Bt.e) (r.d.map gv) (r.k.map bG.e) (r.m.map bn.e):=by
 obtain⟨n,b,d,k,m⟩:=r;have h:0<=rs ⟨n,gU b,.l (d.map gU),.l k,.l (m.map o8)⟩ q:=h;rw[aqz]at h;have A:=u7 (gU b) q j;by_cases g1:eC (gU b) q<0
 ·rw[if_pos g1]at h;omega
 rw[if_neg g1]at h;have E:=u9 u7 (.l (d.map gU)) (eC (gU b) q) Ω;by_cases g2:fo eC (.l (d.map gU)) (eC (gU b) q)<0
 ·rw[if_pos g2]at h;omega
 rw[if_neg g2]at h;have v:=JA (.l k) (fo eC (.l (d.map gU)) (eC (gU b) q)) Ω;by_cases g3:lv (.l k) (fo eC (.l (d.map gU)) (eC (gU b) q))<0
 ·rw[if_pos g3]at h;omega
 rw[if_neg g3]at h;by_cases g4:fo jM (.l (m.map o8)) (lv (.l k) (fo eC (.l (d.map gU)) (eC (gU b) q)))<0
 ·rw[if_pos g4]at h;omega
 rw[if_neg g4]at h;have t:=aa4 b q Ω;have i:=PV (f:=eC) (g:=gU) (w:=gv) d (eC (gU b) q) asg (by simpa only[fo]using(by omega:0<=fo eC (.l (d.map gU)) (eC (gU b) q)));have e:=PV (f:=jM) (g:=o8) (w:=bn.e) m _ asi (by simpa only[fo]using h);have s:=ace k;have F:(k.length:Int)<=1048576:=by
  by_cases g:fo eC (.l (d.map gU)) (eC (gU b) q)-k.length<0
  ·simp only[lv,if_pos g]at g3;omega
  ·omega
 have G:(d.length:Int)<=1048576:=by
  by_cases g:eC (gU b) q-(d.map gU).length<0
  ·simp only[fo,l9,if_pos g]at g2;omega
  ·simp at g;omega
 have c:l9 eC (d.map gU) (eC (gU b) q)=fo eC (.l (d.map gU)) (eC (gU b) q):=rfl;have p:l9 jM (m.map o8) (lv (.l k) (fo eC (.l (d.map gU)) (eC (gU b) q)))=fo jM (.l (m.map o8)) (lv (.l k) (fo eC (.l (d.map gU)) (eC (gU b) q))):=rfl;rw[c]at i;rw[c,p]at e;have isB:∀(l:List Bt),∀x∈l.map Bt.e,tV x:=fun l x a=>by obtain⟨y,_,rfl⟩:=hz.1 a;exact⟨_,_,_,_,_,rfl,fun z o=>by obtain⟨u,_,rfl⟩:=hz.1 o;exact M6 u⟩
 refine⟨⟨isB b,fun x a=>?_,fun x a=>?_,fun x a=>?_,by simp;omega⟩,by simp only;omega⟩
 ·obtain⟨y,_,rfl⟩:=hz.1 a;exact⟨_,rfl,isB y⟩
 ·obtain⟨y,_,rfl⟩:=hz.1 a;exact⟨_,_,rfl⟩
 ·obtain⟨y,_,rfl⟩:=hz.1 a;exact⟨_,_,rfl⟩
def ash(t:T):hZ t.e=3*t.size:=by
 induction t with
 |pair a b d c=>simp only[T.e,hZ,iK,T.size,d,c];omega
 |_=>rfl
def acf{s:List Bd}(h:fm s):iK (s.map Bd.e)<=15001*400:=by
 have J:=JS (f:=Bd.e) (c:=15001) s fun x b=>by have U:=h.fits.2 x b;have a:=ash x.t;rw[T.e_eq]at a;simp only[hZ,iK]at a;simp only[Bd.e,hZ,iK];omega
 have U:=h.fits.1;omega
def oP.of{s:dO}(h:Jx s)(hm:s.m.length<=68719470000):oP (s.b.map Bd.e) (s.d.map cM) (s.k.map bG.e) (s.m.map bn.e):=by
 have isB:∀(l:List Bd),∀x∈l.map Bd.e,tV x:=fun l x a=>by obtain⟨y,_,rfl⟩:=hz.1 a;exact⟨_,_,_,_,_,rfl,fun z b=>by obtain⟨u,_,rfl⟩:=hz.1 b;exact akN u⟩
 have k:=apT h.2;have g:=acf h.1.b;have i:=JS (f:=cM) (c:=15001*400) s.d fun x a=>by simp only[cM,hZ];exact acf (h.1.d x a)
 have d:=ace s.k;have e:=JS (f:=bn.e) (c:=2) s.m fun x _=>dL 2;have j:=ti h.1.k;refine⟨⟨isB s.b,fun x a=>?_,fun x a=>?_,fun x a=>?_,by simp;omega⟩,Ω⟩
 ·obtain⟨y,_,rfl⟩:=hz.1 a;exact⟨_,rfl,isB y⟩
 ·obtain⟨y,_,rfl⟩:=hz.1 a;exact⟨_,_,rfl⟩
 ·obtain⟨y,_,rfl⟩:=hz.1 a;exact⟨_,_,rfl⟩
def oP.zero:oP (ju.b.map Bd.e) (ju.d.map cM) (ju.k.map bG.e) (ju.m.map bn.e):=⟨⟨fun x h=>by simp[ju]at h,fun x h=>by simp[ju]at h,fun x h=>by simp[ju]at h,fun x h=>by simp[ju]at h,by simp[ju]⟩,by simp[ju,iK]⟩
def aqA(r:pz)(m:Int)(h:0<=m):rs r m<=m:=by
 have c:=u7 r.b m h;unfold rs;split
 ·omega
 have d:=u9 u7 r.d (eC r.b m) Ω;split
 ·omega
 have b:=JA r.k (fo eC r.d (eC r.b m)) Ω;split
 ·omega
 have a:=u9 Fw r.m (lv r.k (fo eC r.d (eC r.b m))) Ω;split<;>omega
@[simp]def avf(n:Nat):(aA.loc n=eo)=et:=eq_false (BZ n)
@[simp]def av4(n:Nat):(eo=aA.loc n)=et:=eq_false fun h=>BZ n h.symm
@[simp]def avg(m b n:Nat):(aA.loc m∈Fx b n)=et:=eq_false fun h=>by obtain⟨_,e,_⟩:=XM.1 h;cases e
def _root_.Go.Pv.CallDo.tree{P:cG}{n:Nat}{args:List af}{st:bo}{d:bc Nat}{K:bo->Prop}{ε:Nat->Nat}{b:Nat}{p c e:af}(i:cN p)(aw:bE c=bE p)
  (j:bD P n args (c7 ε b p) fun g f=>g=e/\f=c7 ε b c) (he:st.e=dP ε b p) (a:aH (rng b (b+bE p)) args) (h:K ⟨e3 d e st.t,st.b,dP ε b c,st.n,st.o++cI (c7 ε b c)⟩):CallDo P n args st d K:=by
 refine CallDo.ob j (pB i) (fun k cs a=>by simp[ad]at a) (fun k o a=>by rw[he];exact a) (jd (fun k a=>(F2 k).2 a) _ a) ?_;rintro r f ⟨rfl,rfl⟩;refine⟨qb aw,?_⟩;rw[he,hM,CI];simpa using h
def Tw(n:Int)(B aX K M:List af)(k:Int):bE (kF n (ef B k).1 (eM B aX k).1 (fG B aX K k).1 (gC B aX K M k).1)=bE (kF n B aX K M):=by rw[Gu,Gu];have d:bE (bK (ef B k).1)=bE (bK B):=mT (lp ..) (nA ..);have c:bE (cV (eM B aX k).1)=bE (cV aX):=mT (lp ..) (nA ..);have b:bE (b4 (fG B aX K k).1)=bE (b4 K):=mT (lp ..) (nA ..);have a:bE (b4 (gC B aX K M k).1)=bE (b4 M):=mT (lp ..) (nA ..);omega
def aet(b:Nat)(n:Int)(B aX K M:List af)(k:Int):dx b (kF n (ef B k).1 (eM B aX k).1 (fG B aX K k).1 (gC B aX K M k).1)=dx b (kF n B aX K M):=by have g:bE (bK (ef B k).1)=bE (bK B):=mT (lp ..) (nA ..);have f:bE (cV (eM B aX k).1)=bE (cV aX):=mT (lp ..) (nA ..);have e:bE (b4 (fG B aX K k).1)=bE (b4 K):=mT (lp ..) (nA ..);rw[AL,AL,g,f,e];have c:∀b,dx b (bK (ef B k).1)=dx b (bK B):=fun b=>yK (lp ..);have d:∀b,dx b (cV (eM B aX k).1)=dx b (cV aX):=fun b=>yK (lp ..);have a:∀b,dx b (b4 (fG B aX K k).1)=dx b (b4 K):=fun b=>yK (lp ..);have h:∀b,dx b (b4 (gC B aX K M k).1)=dx b (b4 M):=fun b=>yK (lp ..);rw[c,d,a,h]
def Xf{b:Nat}{n:Int}{B aX K M:List af}(h:Ak B aX K M)(k:Int):aH (rng b (b+bE (kF n B aX K M))) [dx b (kF n B aX K M),aj k]:=⟨o4 _ _ (GB h),by simp[az],trivial⟩
mutual
def TK:∀t:Tm,cN (enc t)
 | .mk k n s a=>by simp only[enc,cN,dZ,true_and,jk];exact⟨Ω,Ld a⟩
def Ld:∀l:List Tm,dZ (l0 l)
 |[]=>trivial
 |x::xs=>⟨TK x,Ld xs⟩
end
@[simp]def atq(l:List Tm):dZ (l.map enc)=True:=by rw[<-AM];exact h0 (Ld l)
@[simp]def atp(l:List T):dZ (l.map T.e)=True:=h0 ((wZ T.e l).2 fun x _=>by rw[<-um];exact TK _)
@[simp]def atm(l:List Bt):dZ (l.map Bt.e)=True:=h0 ((wZ Bt.e l).2 fun x _=>by show True/\True/\True/\True/\(0<4/\dZ (x.t.args.map enc))/\True;simp)
@[simp]def atl(l:List Bd):dZ (l.map Bd.e)=True:=h0 ((wZ Bd.e l).2 fun x _=>by show True/\True/\True/\True/\(0<4/\dZ (x.t.args.map T.e))/\True;simp)
@[simp]def ato(l:List (List Bt)):dZ (l.map gv)=True:=h0 ((wZ gv l).2 fun x _=>by simp[gv,cN])
@[simp]def atn(l:List (List Bd)):dZ (l.map cM)=True:=h0 ((wZ cM l).2 fun x _=>by simp[cM,cN])
@[simp]def atr(l:List bG):dZ (l.map bG.e)=True:=h0 ((wZ bG.e l).2 fun x _=>⟨trivial,trivial,trivial⟩)
@[simp]def ats(l:List bn):dZ (l.map bn.e)=True:=h0 ((wZ bn.e l).2 fun x _=>⟨trivial,trivial,trivial⟩)
@[reducible,simp] def Gb(t:Nat->jS)(n:Int)(b:List Bt)(d:List (List Bt))(k:List bG)(m:List bn):List af:=[aj n,.slice 5 (t 0) (b.map Bt.e),.slice 1 (t 1) (d.map gv),.slice 2 (t 2) (k.map bG.e),.slice 2 (t 3) (m.map bn.e)]
@[reducible,simp] def C1(t:Nat->jS)(n:Int)(b:List Bd)(d:List (List Bd))(k:List bG)(m:List bn):List af:=[aj n,.slice 5 (t 0) (b.map Bd.e),.slice 1 (t 1) (d.map cM),.slice 2 (t 2) (k.map bG.e),.slice 2 (t 3) (m.map bn.e)]
@[reducible,simp] def JD(_:Nat):jS:= .lo eo
@[reducible,simp] def PX(n j:Nat):jS:= .tr (.loc n) j
@[reducible,simp] def abf(_:Nat):jS:= .no
def TP(b:Nat)(n:Int)(B aX K M:List af):fR b [aj n,bK B,cV aX,b4 K,b4 M]=[aj n,dx b (bK B),dx (b+bE (bK B)) (cV aX),dx (b+bE (bK B)+bE (cV aX)) (b4 K),dx (b+bE (bK B)+bE (cV aX)+bE (b4 K)) (b4 M)]:=rfl
def oP.k{B aX K M:List af}(h:oP B aX K M):1<=(gC B aX K M 1).2/\(gC B aX K M 1).2<=1000000000001:=by have:=h.w;rw[X4];omega
def Kz:aX:=(.sq (.region [dc 2 0,bA 4 false]) (.sq (.region [bQ 5 1048576]) (.sq (.region [bq 16 5 2,I 17 5,cj 18 26 16 17,I 5 18]) (.sq (aa [I 19 5,aV 20 .lss 19 0] (aZ 20 (aa [bA 4 true] .ret) .skip)) (.sq (.region [bq 22 5 2,da 23 28 22,I 24 1,cj 25 42 23 24,I 21 25,dm 26 0 21,dm 27 1 21,dR 6 jJ,bW 5 6 26,I 7 27]) (.sl (.sq (.region [bq 28 5 2,da 29 28 28,dR 8 jJ,bW 5 8 29]) (.sq (.region [bq 31 5 8,I 32 1,cj 33 43 31 32,I 30 33,dm 34 0 30,dm 35 1 30,dR 9 jJ,bW 5 9 34,I 10 35]) (.sq (aa [bq 36 5 9,bq 37 5 6,cj 38 30 36 37,cR 39 38,I 40 39,cd 40 false 41 10,cd 40 false 42 7,ax 40 false (b9 43 (.beq true none (.t 41) (.t 42))),dq 44 40 43] (aZ 44 (aa [bA 4 false] .ret) .skip)) (.sq (.seq (.drawn true 101 [bq 45 5 8,bq 46 5 2,da 47 28 46,cj 48 30 45 47,cR 49 48]) (aZ 49 (aa [bA 4 false] .ret) .skip)) (.sq (.region [bQ 11 1]) (.th 8 (.sq (.region [bq 50 5 8,I 51 11,cj 52 44 50 51,I 11 52]) (.sq (aa [I 53 11,aV 54 .lss 53 0,I 55 54,ax 55 false (bq 56 5 9),ax 55 false (bq 57 5 6),ax 55 false (cj 58 30 56 57),ax 55 false (cR 59 58),dq 60 55 59,I 61 60,cd 61 false 62 10,cd 61 false 63 7,ax 61 false (b9 64 (.beq true none (.t 62) (.t 63))),dq 65 61 64] (aZ 65 (aa [bA 4 false] .ret) .skip)) (.sq (.region [bQ 12 1]) (.th 9 (.sq (.region [bq 66 5 9,I 67 12,cj 68 44 66 67,I 12 68]) (.sq (.region [bQ 13 1]) (.sq (.region [bq 69 5 9,I 70 13,cj 71 45 69 70,I 13 71]) (.sq (aa [I 72 13,aV 73 .lss 72 0] (aZ 73 (aa [bA 4 false] .ret) .skip)) (.sq (aa [I 74 13,I 75 12,br 76 .neq 74 75] (aZ 76 (aa [bA 4 false] .ret) .skip)) (.sq (.region [bq 78 5 2,da 79 28 78,I 80 1,cj 81 43 79 80,I 77 81,dm 82 0 77,dm 83 1 77,dR 14 jJ,bW 5 14 82,I 15 83]) (.sq (aa [bq 84 5 14,bq 85 5 6,cj 86 30 84 85,cR 87 86,I 88 87,cd 88 false 89 15,cd 88 false 90 7,ax 88 false (b9 91 (.beq true none (.t 89) (.t 90))),dq 92 88 91] (aZ 92 (aa [bA 4 false] .ret) .skip)) (.sq (.region [bQ 13 1]) (.sq (.region [bq 93 5 9,I 94 13,cj 95 45 93 94,I 13 95]) (.sq (aa [I 96 13,aV 97 .lss 96 0] (aZ 97 (aa [bA 4 false] .ret) .skip)) (.sq (aa [I 98 13,I 99 12,br 100 .neq 98 99] (aZ 100 (aa [bA 4 false] .ret) .skip)) (.sq (.region [bA 4 true]) (.of .ret)))))))))))))))))))))))))))))
def C5:C:=(aa [dc 2 0,dR 4 jJ,bA 5 false] (.seq (aa [bq 7 5 2,da 8 27 7,cR 9 8,I 10 9,cd 10 false 11 1,ax 10 false (aV 12 .lss 11 0),dq 13 10 12,I 14 13,cd 14 false 15 1,ax 14 false (aF 16 0 1 2),ax 14 false (ay 17 1 16),ax 14 false (b9 18 (.bin .sub false (gP 100000) (.t 17))),ax 14 false (br 19 .gtr 15 18),dq 20 14 19] (aZ 20 (aa [j6 21 jJ [],bW 5 4 21,bA 5 false] .ret) .skip)) (aa [bq 22 5 2,da 23 104 22,dR 6 jJ,bW 5 6 23] (aa [aF 24 0 1 6,ay 25 1 24,I 26 1,br 27 .add 25 26,aF 28 0 1 6,bW 1 28 27] (aa [bq 29 5 6,bW 5 4 29,bA 5 true] .ret)))))
def C2:C:=(aa [dc 2 0,dR 4 jJ,bA 5 false] (.seq (aa [bq 7 5 2,da 8 29 7,cR 9 8,I 10 9,cd 10 false 11 1,ax 10 false (aV 12 .lss 11 0),dq 13 10 12,I 14 13,cd 14 false 15 1,ax 14 false (aF 16 0 1 2),ax 14 false (ay 17 1 16),ax 14 false (b9 18 (.bin .sub false (gP 100000) (.t 17))),ax 14 false (br 19 .gtr 15 18),dq 20 14 19] (aZ 20 (aa [j6 21 jJ [],bW 5 4 21,bA 5 false] .ret) .skip)) (aa [bq 22 5 2,da 23 105 22,dR 6 jJ,bW 5 6 23] (aa [aF 24 0 1 2,ay 25 1 24,I 26 1,br 27 .add 25 26,aF 28 0 1 6,bW 1 28 27] (aa [bq 29 5 6,bW 5 4 29,bA 5 true] .ret)))))
def Yu:GU aS Kz [.tmp 4] 2 lz=true:=bi
def T9:au.funcs[(9:Nat)]? =some lz:=Tryz.func9
def Ix:b6 aS C5 [.cell 4 true 5,.tmp 5] 2 Tryz.f42=true:=bi
def Iv:b6 aS C2 [.cell 4 true 5,.tmp 5] 2 Tryz.f43=true:=bi
def amh(s:dO)(v:s.b.length<=1000000)(y:∀x∈s.d,x.length<=1000000)(B:s.k.length<=1000000)(hm:s.m.length<=68719470000):fP au 105 [s.e] s.kk:=by
 obtain⟨n,b,d,k,m⟩:=s;simp only[dO.e]at v y B hm⊢;unfold dO.kk;have z:=EE b v;refine fP.mk mixed a7 Tryz.func105 amS Ψ fun w κ=>?_;unfold RI;have F:d.length<=68719476736:=by simp[eP,eU,eQ,lim]at w;omega
 clear w;simp;(repeat' first|refine aq ?_|simp);(refine hn.own Ψ (z) (by simp[o0,ad]<;>omega) ?_;simp);(repeat' first|refine aq ?_|simp);refine fX (fun i (x:Nat×List (List Bd×Nat))=>⟨[(1,.ptr (.loc 0) 0),(2,.ptr (.loc 1) 0),(3,.ptr (.loc 5) 0),(14,cV (d.map cM)),(15,aj d.length),(16,aj i)],[(.loc 0,[aj n,bK (b.map Bd.e),cV (d.map cM),b4 (k.map bG.e),b4 (m.map bn.e)]),(.loc 1,[aj 0,.slice 5 .nil [],.slice 1 .nil [],.slice 2 .nil [],.slice 2 .nil []]),(.loc 5,[aj n,.slice 5 (.tr (.loc 12) 0) (b.map Bd.e),.slice 1 (.own (.loc 13)) (jf wY x.2),.slice 2 .nil [],.slice 2 .nil []])],[(.loc 13,⟨x.2.length,46,1,none⟩)],x.1,[]⟩) d.length (fun i x=>41<=x.1/\qa x.1 x.2/\(∀p∈x.2,41<=p.2)/\x.2.map (·.1)=d.take i) (41,[]) cc ⟨dL _,.nil _,Ψ,Ψ⟩ (fun x f _=>?_) (fun i x hi f _=>?_)
 ·obtain⟨n',out⟩:=x;obtain⟨J,U,e,a⟩:=f;simp only[jv]at J U e a;have r:¬13=n':=Ω
  have q:¬13=n'+1:=Ω
  have o:(jf wY out).length=out.length:=amc wY out;have G:out.length=d.length:=by have:=ff List.length a;simpa using this
  have A:((aA.loc 12,0)::tnL (jf wY out)).Nodup:=by rw[List.nodup_cons];refine⟨fun h=>?_,tk.nodup U⟩;rw[tk.tnL]at h;simp at h;obtain⟨x,g⟩:=h;have:=e _ g;omega
  simp[r,q];(repeat' first|refine aq ?_|simp[r,q]);(refine hP.val Ψ ?_;simp[ba,bd,a1,e0,ha,ez,gI,ec,gD,tnL,tn,fl,ga,fold,hq,ho,iw,ad,eo,cf,b5,tk.okL,tk.stL,a,A,r,q])
 ·obtain⟨n',out⟩:=x;obtain⟨J,U,e,a⟩:=f;simp only at J U e a;obtain⟨x,g,u⟩:=eX hi;have E:=EE x (y x (fx g));have L:out.length<=i:=by have:=ff List.length a;simp at this;omega
  simp[hi,u];(repeat' first|refine aq ?_|simp[u,hi]);(refine hn.own Ψ (E) (by simp[o0,ad]<;>omega) ?_;simp);(repeat' first|refine aq ?_|simp);have o:=U.snoc x (show n'<=n'+23 by omega) (show n'+23<n'+39 by omega);have t:=tk.kin o (dL _) [];have l:∀j,j<41->¬(n'+39<=j):=fun j f=>Ω
  simp[fresh]at t;refine bV.rng (n'+39,out++[(x,n'+23)]) hi ?_ ?_
  ·refine⟨by simp;omega,o,fun K H c=>?_,by rw[nZ g,<-a];simp⟩;rcases j2.1 c with c|c
   ·exact e _ c
   ·simp at c;omega
  simp;exact⟨by simp[fresh,aH,az,cb,aK,ad,l],ep (by simp[fresh,aH,az,cb,aK,ad,l];exact⟨rfl,t⟩),er (by simp[fresh,aH,az,cb,aK,ad,dU,l]),Ψ⟩
open Classical in
def amf{s:dO}(h:Jx s)(hm:tI s.m){n:Int}(o:0<=n)(J:s.n+n<=100000):fP au 43 [s.e,aj n] fun κ=>.tuple [({s with n:=s.n+n}:dO).kk κ,.bool true]:=by
 have a:=abH s.r fun _=>hm;rw[n5 ⟨s,rfl,h⟩,Jz]at a;have c:=amh s h.1.b.len (fun z g=>(h.1.d z g).len) (by have:=ti h.1.k;omega) (hm.len h.1.m);have j:=h.1.n;clear h hm;obtain⟨e,b,d,k,m⟩:=s;unfold dO.kk at c⊢;simp only[dO.e]at a c j J⊢;have f:¬n<0:=Ω
 have l:¬(100000:Int)-e<n:=Ω
 have i:¬(100000:Int)<e+n:=Ω
 refine fP.mk mixed a7 Tryz.func43 Iv Ψ fun p κ=>?_;unfold C2;simp;(repeat' first|refine aq ?_|refine aP a ?_|refine aQ a ?_|simp[f,l]);(refine CallDo.own Ψ (c) (by simp[eo]) ?_;simp);(repeat' first|refine aq ?_|simp);all_goals(refine hP.val Ψ ?_;simp[ba,bd,a1,e0,ha,ez,gI,ec,gD,tnL,tn,fl,ga,fold,hq,ho,iw,ad,eo,cf,b5])
open Classical in
def afq(r:iv)(c:jK r.m->tI r.m)(kk:Int):∃(S:dO) (B:Bool),oP (S.b.map Bd.e) (S.d.map cM) (S.k.map bG.e) (S.m.map bn.e)/\bX au 42 [r.e,aj kk] (.tuple [S.e,.bool B])/\fP au 43 [r.e,aj kk] fun κ=>.tuple [S.kk κ,.bool B]:=by
 have ht:=abH r c;have f:=arV r c;by_cases g:u5 r;rotate_left
 ·rw[po g]at ht f;refine⟨ju,false,oP.zero,?_,?_⟩;all_goals clear g c
  all_goals obtain⟨n,b7,d,k,m⟩:=r
  ·simp only[iv.e,dO.e,ju]at f⊢;refine bL a7 Tryz.func42 Ix fun e=>?_;unfold C5;exact cB
  ·simp only[iv.e]at ht⊢;unfold dO.kk;refine fP.mk mixed a7 Tryz.func43 Iv Ψ fun e κ=>?_;unfold C2;simp;(repeat' first|refine aq ?_|refine aP ht ?_|refine aQ ht ?_|simp);all_goals(refine hP.val Ψ ?_;simp[ba,bd,a1,e0,ha,ez,gI,ec,gD,tnL,tn,fl,ga,fold,hq,ho,iw,ad,eo,cf,b5])
   all_goals simp[ju]
 obtain⟨s,rfl,a⟩:=g;have hm:tI s.m:=c a.1.m;rw[n5 ⟨s,rfl,a⟩,Jz]at ht f;rw[Jz];have j:=a.1.n;by_cases q:0<=kk/\s.n+kk<=100000
 ·have o:=arI s a.1.b.len (fun z p=>(a.1.d z p).len) (by have:=ti a.1.k;omega) (hm.len a.1.m);refine⟨{s with n:=s.n+kk},true,oP.of (s:=s) a (hm.len a.1.m),?_,amf a hm q.1 q.2⟩;clear a hm c ht;obtain⟨h,b,d,k,m⟩:=s;simp only[dO.e]at f o j q⊢;have u:¬kk<0:=Ω
  have v:¬(100000:Int)-h<kk:=Ω
  have t:¬(100000:Int)<h+kk:=Ω
  refine bL a7 Tryz.func42 Ix fun e=>?_;unfold C5;exact cB
 ·refine⟨ju,false,oP.zero,?_,?_⟩;all_goals clear a hm c
  all_goals obtain⟨h,b,d,k,m⟩:=s
  ·simp only[dO.e,ju]at f j q⊢;by_cases i:kk<0
   ·refine bL a7 Tryz.func42 Ix fun e=>?_;unfold C5;exact cB
   ·have l:(100000:Int)-h<kk:=Ω
    refine bL a7 Tryz.func42 Ix fun e=>?_;unfold C5;exact cB
  ·simp only[dO.e]at ht j q⊢;unfold dO.kk;by_cases i:kk<0
   ·refine fP.mk mixed a7 Tryz.func43 Iv Ψ fun e κ=>?_;unfold C2;simp;(repeat' first|refine aq ?_|refine aP ht ?_|refine aQ ht ?_|simp[i]);all_goals(refine hP.val Ψ ?_;simp[ba,bd,a1,e0,ha,ez,gI,ec,gD,tnL,tn,fl,ga,fold,hq,ho,iw,ad,eo,cf,b5])
    all_goals simp[ju]
   ·have l:(100000:Int)-h<kk:=Ω
    refine fP.mk mixed a7 Tryz.func43 Iv Ψ fun e κ=>?_;unfold C2;simp;(repeat' first|refine aq ?_|refine aP ht ?_|refine aQ ht ?_|simp[i,l]);all_goals(refine hP.val Ψ ?_;simp[ba,bd,a1,e0,ha,ez,gI,ec,gD,tnL,tn,fl,ga,fold,hq,ho,iw,ad,eo,cf,b5])
    all_goals simp[ju]
def aqT(r:pz)(hw:r.wf)(kk:Int):bX au 9 [r.e,aj kk] (.bool true):=by
 have j:=ar4 r hw 1048576 Ω Ω;have o:=aqA r 1048576 Ω;by_cases g:rs r 1048576<0
 ·generalize rs r 1048576=q at j g;clear hw o;obtain⟨n,b7,d,k,l⟩:=r;simp only[pz.e]at j⊢;refine bX.mkD mixed a7 T9 Yu Ψ dl fun z=>?_;unfold Kz;exact cB
 obtain⟨r,rfl,v⟩:=aqB hw Ω;clear hw;have e9:=oP.raw (r:=r) (q:=1048576) Ω Ω Ω;rw[aqo]at j⊢;generalize rs r.h 1048576=A at j g o;have t1:=ar9 r;have m:=Yh r;have p:=abK r;obtain⟨S,B,f,s1,i1⟩:=afq r v kk;have i:=abK S.r;rw[Jz]at i;clear o v;have s:bX au 43 [r.e,aj kk] (.tuple [S.e,.bool B]):=by have:=i1.val (by simp[dO.kk,b5,cf,az,aH]);simpa[dO.kk,dO.e,b5,cf]using this
 obtain⟨n,b7,d,k,l⟩:=r;obtain⟨a,c,e,h,hF⟩:=S;unfold dO.kk at i1;unfold iv.kk at m;simp only[iv.e,dO.e]at j t1 s1 i1 s p i m⊢;refine bX.mkD mixed a7 T9 Yu Ψ dl fun z=>?_;unfold Kz;simp;(repeat' first|refine aq ?_|refine aP j ?_|refine aQ j ?_|refine aP t1 ?_|refine aQ t1 ?_|refine aP s1 ?_|refine aQ s1 ?_|simp[g]);refine afb ⟨[(1,aj kk),(2,.ptr (.loc 0) 0),(6,.ptr (.loc 1) 0),(7,.bool B)],
  [(.loc 0,Gb abf n b7 d k l),(.loc 1,C1 abf a c e h hF)],[],12,[]⟩ cc ?_ ?_
 ·simp[Jk,Jm,Jl,x9,zW]
 simp[wG,Jn,Fj,lu,x8];(repeat' first|refine aq ?_|simp);(refine CallDo.own Ψ (m) (by simp[eo]) ?_;simp);(repeat' first|refine aq ?_|simp);(refine CallDo.own Ψ (i1) (by simp[eo]) ?_;simp);(repeat' first|refine aq ?_|refine aP i ?_|refine aQ i ?_|refine aP t1 ?_|refine aQ t1 ?_|refine aP p ?_|refine aQ p ?_|simp);refine T0 ⟨[(1,aj kk),(2,.ptr (.loc 0) 0),(6,.ptr (.loc 1) 0),(7,.bool B),(8,.ptr (.loc 13) 0),(9,.ptr (.loc 15) 0),(10,.bool B),(11,aj 1)],
  [(.loc 0,Gb JD n b7 d k l),(.loc 1,C1 JD a c e h hF),(.loc 13,Gb (PX 12) n b7 d k l),(.loc 15,C1 (PX 14) a c e h hF)],[],20,[eo]⟩ 1000000 cc ?_ fun ε=>?_
 ·simp[Cz,rv,fl,ga,tn,tnL,EV,ad,eo]
 simp[tK,tJ,vv,ud,jT,oQ,b5,cf,tn,tnL,ad];(repeat' first|refine aq ?_|simp[TP]);have f1:=UZ n e9.f 1 1000000 ε Ω e9.le;have f2:=Xf (b:=1000000) (n:=n) e9.f 1;rw[AL]at f1 f2;refine CallDo.tree (GB e9.f) (Tw ..) f1 rfl f2 ?_;obtain⟨t,u⟩:=e9.k;clear f1 f2 e9;simp only at t u;generalize (gC (b7.map Bt.e) (d.map gv) (k.map bG.e) (l.map bn.e) 1).2=K1 at t u⊢;have x:¬K1<0:=Ω
 simp[x];(repeat' first|refine aq ?_|refine aP i ?_|refine aQ i ?_|simp[x]);refine T0 ⟨[(1,aj kk),(2,.ptr (.loc 0) 0),(6,.ptr (.loc 1) 0),(7,.bool B),(9,.ptr (.loc 15) 0),(12,aj 1)],
  [(.loc 0,Gb JD n b7 d k l),(.loc 1,C1 JD a c e h hF),(.loc 15,C1 (PX 14) a c e h hF)],[],20,[eo]⟩ 1000000 cc ?_ fun ε=>?_
 ·simp[Cz,rv,fl,ga,tn,tnL,EV,ad,eo]
 simp[tK,tJ,vv,ud,jT,oQ,b5,cf,tn,tnL,ad];(repeat' first|refine aq ?_|simp[TP]);have f:oP (c.map Bd.e) (e.map cM) (h.map bG.e) (hF.map bn.e):=f;have f1:=UZ a f.f 1 1000000 ε Ω f.le;have f2:=Xf (b:=1000000) (n:=a) f.f 1;have f3:=ahW a f.f 1 1000000 ε Ω f.le;have f4:=f2;have f5:=GC (n:=a) f.f 1;have f6:=Tw a (c.map Bd.e) (e.map cM) (h.map bG.e) (hF.map bn.e) 1;have f7:=f.k;have f8:=GB (n:=a) f.f;rw[<-f6]at f4;rw[aet]at f3;obtain⟨P,y⟩:∃P,P=kF a (ef (c.map Bd.e) 1).1 (eM (c.map Bd.e) (e.map cM) 1).1 (fG (c.map Bd.e) (e.map cM) (h.map bG.e) 1).1 (gC (c.map Bd.e) (e.map cM) (h.map bG.e) (hF.map bn.e) 1).1:=⟨_,rfl⟩;rw[<-y]at f1 f3 f4 f5 f6;generalize (gC (c.map Bd.e) (e.map cM) (h.map bG.e) (hF.map bn.e) 1).2=K at f1 f3 f7;rw[AL]at f1 f2 f3 f4;clear y f;refine CallDo.tree f8 f6 f1 rfl f2 ?_;have w:¬K<0:=Ω
 clear f1 f2 f6 f7 f8;simp;(repeat' first|refine aq ?_|simp);refine CallDo.tree f5 rfl f3 ?_ f4 ?_
 ·rfl
 simp[w];(repeat' first|refine aq ?_|refine aP t1 ?_|refine aQ t1 ?_|refine aP s ?_|refine aQ s ?_|refine aP i ?_|refine aQ i ?_|simp[w]);refine CallDo.tree f5 rfl f3 ?_ f4 ?_
 ·rfl
 exact cB
end
end Go.Proofs.YtahlgcidhnjlbaaGreat
