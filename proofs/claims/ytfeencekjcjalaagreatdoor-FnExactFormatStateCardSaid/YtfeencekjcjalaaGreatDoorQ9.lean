/- Contracts of the reference: variables of a term. -/
import Derived.Test.YtfeencekjcjalaaGreatDoorProg
import Derived.Test.YtfeencekjcjalaaGreatDoorQ8
set_option linter.all false
set_option maxHeartbeats 4000000
set_option maxRecDepth 4000
open Bool renaming and_eq_true->cD,eq_iff_iff->ry
open Go.Extern.ReflectliteSwapper renaming swap->F8
open Go.IntKind renaming i64->oz
open Go.IntWalk renaming i64_in->lT
open Go.Op renaming bytesLess->hX
open Go.Proofs.Tryz renaming prog->ar
open List renaming all_eq_true->jL,cons_append->bX,drop->oB,drop_eq_getElem_cons->mh,getElem?_eq_getElem->cl,getElem?_eq_none->rC,getElem?_eq_some_iff->fy,getElem_of_mem->oC,map_cons->fA,mem_append->kr,mem_cons->gp,mem_of_getElem?->eQ,pairwise_cons->nO,pairwise_iff_getElem->qN,replicate->su,take->mH,take_of_length_le->gC
open Nat renaming le_refl->eR
open Option renaming getD_some->mi
open Option.some renaming inj->fK,injEq->dv
open _root_ renaming ByteArray->lG,Option->aW,UInt8->bV,beq_iff_eq->dS,decide_eq_false_iff_not->iq,decide_eq_true_eq->e8
namespace Go.Proofs.YtfeencekjcjalaaGreatDoor
section
open Go Go.Pv
def Wm(s:List au)(G:List (List bV))(l:List bk)(i:Nat)(a:List bk):Prop:=iX a/\o8 G a/\gB s (l.drop i) a=gB s l []
theorem aaA{s:List au}(h:eJ s){l:List bk}(k:iX l){G:List (List bV)}(u:G.length<=687000)(aY:o8 G l):bL ar 137 [.slice 5 .no (s.map au.e),.slice 2 .no (l.map bk.e)] (jW (gB s l [])):=by
 have hlen:∀{a:List bk},iX a->o8 G a->a.length<=68719470000:=fun J U=>by have:=ES J U;omega
 have t:=hlen k aY;have m:=qL h;have n:=aay k;refine bs ye Tryz.func137 aly fun v=>?_;unfold Ri;simp;(with_reducible repeat' first|refine al ?_|refine aI m ?_|refine aJ m ?_|refine aI n ?_|refine aJ n ?_|simp);refine eG [0,20,21] (fun i (a:List bk)=>[(6,.slice 2 .no (a.map bk.e)),(22,.int .i64 i)]) l.length (Wm s G l) [] b6 ⟨⟨Ψ,by simp[ir]⟩,fun x q=>by simp at q,rfl⟩ (fun a c _=>?_) (fun i a hi c _=>?_)
 ·obtain⟨_,_,c⟩:=c;rw[List.drop_length]at c;simp only[gB]at c;rw[<-c];simp;(with_reducible repeat' first|refine al ?_|simp);simp[bE,aX,a1,aV];simp[jW]
 ·obtain⟨j,o,c⟩:=c;obtain⟨b,ae,g⟩:=ev hi;have e:=k.at' b (eQ ae);have r:=aY b (eQ ae);rw[mh hi,g]at c;simp only[gB]at c;have d:=ap9 h j (hlen j o) (.var b.v) (by simp[T.fit,T.ok,T.size,e.1]) e.2;have p:((T.var b.v).ap (cI s)).size<=5000:=FD h b.v;rw[if_pos p,show(T.var b.v).ap (cI s)=cI s b.v from rfl]at d;simp[hi,g];cases f:mK a (cI s b.v) b.s with
  |none=>rw[f]at c d;simp only at c;rw[<-c];simp only[jW]at d;(with_reducible repeat' first|refine al ?_|refine aI (k5 _) ?_|refine aJ (k5 _) ?_|refine aI d ?_|refine aJ d ?_|simp[g,hi]);simp[bE,aX,a1,aV];simp[jW]
  |some bo=>rw[f]at c d;simp only[jW]at d;(with_reducible repeat' first|refine al ?_|refine aI (k5 _) ?_|refine aJ (k5 _) ?_|refine aI d ?_|refine aJ d ?_|simp[g,hi]);exact bO.rng bo hi ⟨Kc j (Cx h e.1) e.2 f,Kd o r f,c⟩ b6
end
section
open Go Go.Pv Go.Lib
def c6(d:List au):ah:= .slice 5 .no (d.map au.e)
@[simp]theorem at4(S:aB->Prop)(d:List au):av S (c6 d)=True:=by simp[c6]
@[simp]theorem asj(d:List au):cells (c6 d)=[c6 d]:=rfl
@[simp]theorem avo(d:List au):e5 (c6 d)=true:=rfl
@[simp]theorem avN(d:List au):de (c6 d)=c6 d:=by simp[c6]
theorem Tv:∀(S:aB->Prop) (x:List au),av S (c6 x):=fun S x=>by simp
theorem M4(S:aB->Prop):∀l:List (List au),aA S (l.map c6)
 |[]=>by simp[aA]
 |x::xs=>by simp[aA,M4 S xs]
@[simp]theorem WY(S:aB->Prop)(l:List (List au)):aA S (l.map c6)=True:=eq_true (M4 S l)
@[simp]theorem Pq:∀l:List (List au),cK (l.map c6)=l.map c6
 |[]=>rfl
 |x::xs=>by simp[cK,Pq xs]
def gy(d:List dj):ah:= .slice 5 .no (d.map dj.e)
@[simp]theorem asm(d:List dj):cells (gy d)=[gy d]:=rfl
@[simp]theorem avq(d:List dj):e5 (gy d)=true:=rfl
theorem KY(d:List au):gy (d.map au.b)=c6 d:=by simp only[gy,c6,zF]
theorem KZ(l:List (List au)):(l.map fun d=>d.map au.b).map gy=l.map c6:=by rw[List.map_map];exact List.map_congr_left fun d _=>KY d
@[simp]theorem at7(S:aB->Prop)(d:List dj):av S (gy d)=True:=by simp[gy]
@[simp]theorem avQ(d:List dj):de (gy d)=gy d:=by simp[gy]
theorem W0(S:aB->Prop):∀l:List (List dj),aA S (l.map gy)
 |[]=>by simp[aA]
 |x::xs=>by simp[aA,W0 S xs]
@[simp]theorem atZ(S:aB->Prop)(l:List (List dj)):aA S (l.map gy)=True:=eq_true (W0 S l)
abbrev vf(l:List (List au)):cM:=eh c6 821 822 30 1 l
theorem J0(l:List (List au)):ek (vf l):=yp Tv l
theorem agY(l:List (List au))(m:l.length<=68719476736)(i j:Nat)(x y:List au)(hi:l[i]? =some x)(h:l[j]? =some y):bK ar 172 [.int .i64 i,.int .i64 j,.ptr (.obj 822) 0] (vf l) fun r g=>r= .bool (ij eW x y)/\g=vf l:=by have a:=J0 l;obtain⟨c,d⟩:=fy.1 hi;obtain⟨e,b⟩:=fy.1 h;have f:bL ar 173 [c6 x,c6 y] (.int .i64 (eW x y)):=JN x y;unfold vf eh at a⊢;refine bK.mk mixed ye Tryz.func172 alv Ψ a.obj fun n k=>?_;unfold Rf;simp[c,e,d,b];(with_reducible repeat' first|refine al ?_|refine aI f ?_|refine aJ f ?_|simp[c,e,d,b]);refine cO.at _ (.inl rfl) a (Same.refl _) aL aL ?_;simp[cT,aX,a1,aV,ij]
noncomputable def Tryz.dsT:TypeInfo:=(ar.info? 31).get an
noncomputable def Tryz.dsE:TypeInfo:=(ar.info? 30).get an
theorem Tryz.dsK(n:Nat)(U:2<=n):Lib.swapperK n Tryz.dsE 23=9:=by
 have a:Tryz.dsE.hasPointers=true:=an
 have b:Tryz.dsE.bytes=24:=an
 have c:(n==0)=false:=by simp;omega
 have d:(n==1)=false:=by simp;omega
 simp[Lib.swapperK,a,b,c,d]
theorem ahu(l:List (List au))(d:l.length<=68719476736):bK ar 171 [.iface 31 (.row 1 (.obj 821) l.length),.func 172 [.ptr (.obj 822) 0]] (vf l) fun r b=>r= .tuple []/\b=vf (pW eW l):=by
 refine(ag1 Tv (K:=821) (B:=822) (sz:=1) 31 Tryz.dsT Tryz.dsE an an an an 23 (fun _=>by kernel_rfl) Tryz.dsK 172 (by decide) (ij eW) mC.ltOk l d (fun a h i j x y hi c=>agY a Ω i j x y hi c) (fun a h i j hi c=>?_)).mono ?_
 ·have:=UF (P:=ar) false 223 (fun args W=>run_callFunc_extern Tryz.func223 an an an (e:=F8 false) an args W)
   30 Tryz.dsE an (.inr ⟨by kernel_rfl,fun _=>by kernel_rfl⟩) (J0 a) (K:=821) (n:=l.length) (el:=30) (sz:=1) an (xs:=a.map c6) (by simp[eh,Pv.look,h]) i j hi c
  refine this.mono ?_;rintro r b ⟨rfl,rfl⟩;refine⟨rfl,?_⟩;simp[eh,cB,Xh,h]
 ·rintro r b ⟨rfl,a,rfl,J,U⟩;exact⟨rfl,by rw[ZQ mC J U]⟩
end
section
open Go Go.Pv
inductive hA where
 |s (l:List bV)
 |b (x:lG)
def hA.e:hA->ah
 | .s l=>.str l
 | .b x=>.cst (.string x)
def hA.len:hA->Int
 | .s l=>l.length
 | .b x=>x.size
def nJ(n:Nat):Prop:=lim<n/\n<=9223372036854775807
def hA.wf:hA->Prop
 | .s _=>True
 | .b x=>nJ x.size
inductive dz (α:Type) where
 |l (xs:List α)
 |b (p:aW Addr) (n cap:Nat)
def dz.e{α:Type}(sz:Nat)(f:α->ah):dz α->ah
 | .l xs=>.slice sz .no (xs.map f)
 | .b p n cap=>.cst (.slice p n cap)
def dz.wf{α:Type}(P:α->Prop):dz α->Prop
 | .l xs=> ∀x∈xs,P x
 | .b _ n _=>nJ n
inductive cE where
 |mk (k n:Int) (s:hA) (a:List cE)
 |big (k n:Int) (s:hA) (p:aW Addr) (len cap:Nat)
mutual
def cE.e:cE->ah
 | .mk k n s a=>.agg [.int .i64 k,.int .i64 n,s.e,.slice 4 .no (cE.eL a)]
 | .big k n s p len cap=>.agg [.int .i64 k,.int .i64 n,s.e,.cst (.slice p len cap)]
def cE.eL:List cE->List ah
 |[]=>[]
 |x::xs=>x.e::cE.eL xs
end
theorem cE.eL_map:∀l,cE.eL l=l.map cE.e
 |[]=>rfl
 |x::xs=>by simp[cE.eL,cE.eL_map xs]
def cE.kind:cE->Int| .mk k _ _ _=>k| .big k _ _ _ _ _=>k
def cE.num:cE->Int| .mk _ n _ _=>n| .big _ n _ _ _ _=>n
def cE.name:cE->hA| .mk _ _ s _=>s| .big _ _ s _ _ _=>s
def cE.args:cE->dz cE| .mk _ _ _ a=>.l a| .big _ _ _ p l c=>.b p l c
theorem cE.e_eq(t:cE):t.e= .agg [.int .i64 t.kind,.int .i64 t.num,t.name.e,t.args.e 4 cE.e]:=by
 cases t with
 |mk k n s a=>simp only[cE.e,cE.eL_map];rfl
 |big=>rfl
@[simp]theorem aud(S:aB->Prop)(s:hA):av S s.e=True:=by cases s<;>simp[hA.e,av]
@[simp]theorem avT(s:hA):de s.e=s.e:=by cases s<;>simp[hA.e,de]
mutual
theorem W2(S:aB->Prop):∀t:cE,av S t.e
 | .mk k n s a=>by simp[cE.e,av,aA,M5 S a]
 | .big k n s p l c=>by simp[cE.e,av,aA]
theorem M5(S:aB->Prop):∀l:List cE,aA S (cE.eL l)
 |[]=>by simp[cE.eL,aA]
 |x::xs=>by simp[cE.eL,aA,W2 S x,M5 S xs]
end
mutual
theorem ZW:∀t:cE,de t.e=t.e
 | .mk k n s a=>by simp[cE.e,de,cK,Pr a]
 | .big k n s p l c=>by simp[cE.e,de,cK]
theorem Pr:∀l:List cE,cK (cE.eL l)=cE.eL l
 |[]=>by simp[cE.eL,cK]
 |x::xs=>by simp[cE.eL,cK,ZW x,Pr xs]
end
@[simp]theorem auo(S:aB->Prop)(t:cE):av S t.e=True:=eq_true (W2 S t)
@[simp]theorem atX(S:aB->Prop)(l:List cE):aA S (l.map cE.e)=True:=by rw[<-cE.eL_map];exact eq_true (M5 S l)
@[simp]theorem av1(t:cE):de t.e=t.e:=ZW t
@[simp]theorem avI(l:List cE):cK (l.map cE.e)=l.map cE.e:=by rw[<-cE.eL_map];exact Pr l
@[simp]theorem atG(t:cE):Pv.isAgg 4 t.e:=by rw[cE.e_eq];exact⟨_,rfl,rfl⟩
@[simp]theorem auc(S:aB->Prop)(x:dz cE):av S (x.e 4 cE.e)=True:=by cases x<;>simp[dz.e,av]
@[simp]theorem avS(x:dz cE):de (x.e 4 cE.e)=x.e 4 cE.e:=by cases x<;>simp[dz.e,de]
mutual
def cE.sz:cE->Nat
 | .mk _ _ _ a=>1+cE.szL a
 | .big _ _ _ _ _ _=>1
def cE.szL:List cE->Nat
 |[]=>0
 |x::xs=>x.sz+cE.szL xs
end
theorem cE.szL_mem:∀{l:List cE} {x:cE},x∈l->x.sz<=cE.szL l
 |y::l,x,h=>by
  rcases gp.1 h with rfl|h
  ·simp[cE.szL]
  ·have:=cE.szL_mem h;simp[cE.szL];omega
mutual
def cE.wf:cE->Prop
 | .mk _ _ s a=>s.wf/\cE.wfL a
 | .big _ _ s _ l _=>s.wf/\nJ l
def cE.wfL:List cE->Prop
 |[]=>True
 |x::xs=>x.wf/\cE.wfL xs
end
theorem cE.wfL_iff:∀{l:List cE},cE.wfL l↔∀x∈l,x.wf
 |[]=>by simp[cE.wfL]
 |x::l=>by simp[cE.wfL,cE.wfL_iff (l:=l)]
def kq{α:Type}(f:α->Int->Int):List α->Int->Int
 |[],m=>m
 |x::xs,m=>if f x m<0 then-1 else kq f xs (f x m)
def pY{α:Type}(f:α->Int->Int)(l:List α)(m:Int):Int:=if m-l.length<0 then-1 else kq f l (m-l.length)
def hg{α:Type}(f:α->Int->Int):dz α->Int->Int
 | .l xs,m=>pY f xs m
 | .b _ _ _,_=> -1
theorem Z1{α:Type}{f:α->Int->Int}(a:∀x m,0<=m-> -1<=f x m/\f x m<=m):∀(l:List α) (m:Int),0<=m-> -1<=kq f l m/\kq f l m<=m
 |[],m,h=>by simp only[kq];omega
 |x::xs,m,h=>by
  have J:=a x m h;simp only[kq];split
  ·omega
  ·have U:=Z1 a xs (f x m) Ω;omega
theorem apQ{α:Type}{f:α->Int->Int}(a:∀x m,0<=m-> -1<=f x m/\f x m<=m)(l:List α)(m:Int)(h:0<=m): -1<=pY f l m/\pY f l m<=m:=by
 unfold pY;split
 ·omega
 ·have:=Z1 a l (m-l.length) Ω;omega
theorem ya{α:Type}{f:α->Int->Int}(a:∀x m,0<=m-> -1<=f x m/\f x m<=m)(l:dz α)(m:Int)(h:0<=m): -1<=hg f l m/\hg f l m<=m:=by
 cases l with
 |l xs=>exact apQ a xs m h
 |b=>simp only[hg];omega
mutual
def iJ:cE->Int->Int
 | .mk _ _ s a,m=>if m-s.len<0 then-1 else if m-s.len-a.length<0 then-1 else uX a (m-s.len-a.length)
 | .big _ _ s _ _ _,m=>if m-s.len<0 then-1 else-1
def uX:List cE->Int->Int
 |[],m=>m
 |x::xs,m=>if iJ x m<0 then-1 else uX xs (iJ x m)
end
theorem Z3:∀(l:List cE) (m:Int),uX l m=kq iJ l m
 |[],m=>rfl
 |x::xs,m=>by simp only[uX,kq,Z3 xs]
theorem Jx(t:cE)(m:Int):iJ t m=if m-t.name.len<0 then-1 else hg iJ t.args (m-t.name.len):=by
 cases t with
 |mk=>simp only[iJ,hg,pY,Z3,cE.name,cE.args];rfl
 |big=>simp only[iJ,hg,cE.name,cE.args];rfl
theorem hA.len_nn(s:hA):0<=s.len:=by cases s<;>simp[hA.len]
mutual
theorem Ah:∀(t:cE) (m:Int),0<=m-> -1<=iJ t m/\iJ t m<=m
 | .mk _ _ s a,m,h=>by
  have:=s.len_nn;simp only[iJ];split
  ·omega
  ·split
   ·omega
   ·have:=Z4 a (m-s.len-a.length) Ω;omega
 | .big _ _ s _ _ _,m,h=>by simp only[iJ];split<;>omega
theorem Z4:∀(l:List cE) (m:Int),0<=m-> -1<=uX l m/\uX l m<=m
 |[],m,h=>by simp only[uX];omega
 |x::xs,m,h=>by
  have J:=Ah x m h;simp only[uX];split
  ·omega
  ·have U:=Z4 xs (iJ x m) Ω;omega
end
theorem hA.small{s:hA}(hw:s.wf){m:Int}(a:m<=1048576)(h:0<=m-s.len):∃l,s= .s l:=by
 cases s with
 |s l=>exact⟨l,rfl⟩
 |b x=>simp only[hA.wf,nJ,lim]at hw;simp only[hA.len]at h;omega
mutual
def Ai:b2->cE
 | .mk k n s a=>.mk k n (.s s) (CA a)
def CA:List b2->List cE
 |[]=>[]
 |x::xs=>Ai x::CA xs
end
mutual
theorem aae:∀t:b2,(Ai t).e=enc t
 | .mk k n s a=>by simp only[Ai,cE.e,enc,aad a];rfl
theorem aad:∀l:List b2,cE.eL (CA l)=qi l
 |[]=>rfl
 |x::xs=>by simp only[CA,cE.eL,qi,aae x,aad xs]
end
mutual
theorem Z6:∀(t:cE) (m:Int),t.wf->m<=1048576->0<=m->0<=iJ t m->∃u:b2,t=Ai u
 | .mk k n s a,m,hw,J,c,h=>by
  simp only[cE.wf]at hw;simp only[iJ]at h;have:=s.len_nn;split at h
  ·omega
  rename_i g;obtain⟨l,rfl⟩:=hA.small hw.1 J Ω;split at h
  ·omega
  obtain⟨b,ae⟩:=Z5 a _ hw.2 Ω Ω h;exact⟨.mk k n l b,by simp only[Ai,ae]⟩
 | .big _ _ s _ _ _,m,_,_,_,h=>by simp only[iJ]at h;split at h<;>omega
theorem Z5:∀(l:List cE) (m:Int),cE.wfL l->m<=1048576->0<=m->0<=uX l m->∃u:List b2,l=CA u
 |[],_,_,_,_,_=>⟨[],rfl⟩
 |x::xs,m,hw,J,a,h=>by
  simp only[cE.wfL]at hw;simp only[uX]at h;have U:=Ah x m a;split at h
  ·omega
  obtain⟨u,hu⟩:=Z6 x m hw.1 J a Ω;obtain⟨v,b⟩:=Z5 xs _ hw.2 Ω Ω h;exact⟨u::v,by simp only[CA,hu,b]⟩
end
theorem Z2{α β:Type}{f:α->Int->Int}{P:α->Prop}{g:β->α}(hle:∀x m,0<=m-> -1<=f x m/\f x m<=m)(b:∀x m,P x->m<=1048576->0<=m->0<=f x m->∃y,x=g y):∀(l:List α) (m:Int),(∀x∈l,P x)->m<=1048576->0<=m->0<=kq f l m->∃u:List β,l=u.map g
 |[],_,_,_,_,_=>⟨[],rfl⟩
 |x::xs,m,hw,J,a,h=>by
  simp only[kq]at h;have U:=hle x m a;split at h
  ·omega
  obtain⟨u,hu⟩:=b x m (hw x Ψ) J a Ω;obtain⟨v,d⟩:=Z2 hle b xs _ (fun y c=>hw y (by simp[c])) Ω Ω h;exact⟨u::v,by rw[fA,<-hu,<-d]⟩
theorem Py{α β:Type}{f:α->Int->Int}{P:α->Prop}{g:β->α}(hle:∀x m,0<=m-> -1<=f x m/\f x m<=m)(a:∀x m,P x->m<=1048576->0<=m->0<=f x m->∃y,x=g y)(l:dz α)(m:Int)(hw:l.wf P)(J:m<=1048576)(c:0<=m)(h:0<=hg f l m):∃u:List β,l= .l (u.map g):=by
 cases l with
 |b=>simp only[hg]at h;omega
 |l xs=>
  simp only[hg,pY]at h;split at h
  ·omega
  obtain⟨u,hu⟩:=Z2 hle a xs _ hw Ω Ω h;exact⟨u,by rw[hu]⟩
def AJ:C:=(aa [dc 2 0,b1 4 0] (aa [aH 5 1 1 2,aw 6 1 5,I 7 1,cq 8 22 6 7,I 1 8] (.seq (aa [I 9 1,aT 10 .lss 9 0] (aU 10 (aa [b1 4 (-1)] .ret) .skip)) (aa [aH 11 2 1 2,aw 12 1 11,I 13 1,cq 14 23 12 13,I 1 14] (.seq (aa [I 15 1,aT 16 .lss 15 0] (aU 16 (aa [b1 4 (-1)] .ret) .skip)) (aa [aH 17 3 1 2,aw 18 1 17,I 19 1,cq 20 24 18 19,I 1 20] (.seq (aa [I 21 1,aT 22 .lss 21 0] (aU 22 (aa [b1 4 (-1)] .ret) .skip)) (aa [aH 23 4 1 2,aw 24 1 23,I 25 1,cq 26 25 24 25,I 1 26] (.seq (aa [I 27 1,aT 28 .lss 27 0] (aU 28 (aa [b1 4 (-1)] .ret) .skip)) (aa [I 29 1,I 4 29] .ret))))))))))
def R8:C:=(aa [dc 1 0,eg 2 pP] (aa [eg 3 pP] (aa [aH 4 0 1 1,aw 5 1 4,aH 6 0 1 3,b7 1 6 5] (aa [aH 7 1 1 1,aw 8 1 7,cG 9 28 8,aH 10 1 1 3,b7 1 10 9] (aa [aH 11 2 1 1,aw 12 1 11,cG 13 29 12,aH 14 2 1 3,b7 1 14 13] (aa [aH 15 3 1 1,aw 16 1 15,cG 17 30 16,aH 18 3 1 3,b7 1 18 17] (aa [aH 19 4 1 1,aw 20 1 19,cG 21 31 20,aH 22 4 1 3,b7 1 22 21] (aa [bg 23 5 3,b7 5 2 23] .ret))))))))
def RW:C:=(aa [dc 2 0,dc 3 1,bt 4 false] (.seq (aa [aH 5 0 1 2,aw 6 1 5,aH 7 0 1 3,aw 8 1 7,bp 9 .neq 6 8] (aU 9 (aa [bt 4 false] .ret) .skip)) (.seq (aa [aH 10 1 1 2,aw 11 1 10,aH 12 1 1 3,aw 13 1 12,cq 14 18 11 13,cJ 15 14] (aU 15 (aa [bt 4 false] .ret) .skip)) (.seq (aa [aH 16 2 1 2,aw 17 1 16,aH 18 2 1 3,aw 19 1 18,cq 20 34 17 19,cJ 21 20] (aU 21 (aa [bt 4 false] .ret) .skip)) (.seq (aa [aH 22 3 1 2,aw 23 1 22,aH 24 3 1 3,aw 25 1 24,cq 26 35 23 25,cJ 27 26] (aU 27 (aa [bt 4 false] .ret) .skip)) (.seq (aa [aH 28 4 1 2,aw 29 1 28,aH 30 4 1 3,aw 31 1 30,cq 32 36 29 31,cJ 33 32] (aU 33 (aa [bt 4 false] .ret) .skip)) (aa [bt 4 true] .ret)))))))
def RS:C:=(aa [bt 4 false] (.seq (aa [I 6 0,cp 7 6,I 8 1,cp 9 8,bp 10 .neq 7 9] (aU 10 (aa [bt 4 false] .ret) .skip)) (.seq (aa [b1 5 0] (.block 0 (.loop (.seq (aa [I 11 5,I 12 0,cp 13 12,bp 14 .lss 11 13] (aU 14 .skip (.exit 0))) (.seq (.block 1 (.seq (.drawn true 27 [I 17 0,I 18 5,cx 19 5 17 18,bg 20 5 19,I 21 1,I 22 5,cx 23 5 21 22,bg 24 5 23,cq 25 60 20 24,cJ 26 25]) (aU 26 (aa [bt 4 false] .ret) .skip))) (.region [I 15 5,aT 16 .add 15 1,I 5 16])))))) (aa [bt 4 true] .ret))))
def KA:C:=(aa [b1 4 0] (aa [I 6 1,I 7 0,cp 8 7,bp 9 .sub 6 8,I 1 9] (.seq (aa [I 10 1,aT 11 .lss 10 0] (aU 11 (aa [b1 4 (-1)] .ret) .skip)) (.seq (aa [b1 5 0] (.block 0 (.loop (.seq (aa [I 12 5,I 13 0,cp 14 13,bp 15 .lss 12 14] (aU 15 .skip (.exit 0))) (.seq (.block 1 (aa [I 18 0,I 19 5,cx 20 5 18 19,bg 21 5 20,I 22 1,cq 23 67 21 22,I 1 23] (aa [I 24 1,aT 25 .lss 24 0] (aU 25 (aa [b1 4 (-1)] .ret) .skip)))) (.region [I 16 5,aT 17 .add 16 1,I 5 17])))))) (aa [I 26 1,I 4 26] .ret)))))
def KB:C:=(aa [b1 4 0] (aa [I 6 1,I 7 0,cp 8 7,bp 9 .sub 6 8,I 1 9] (.seq (aa [I 10 1,aT 11 .lss 10 0] (aU 11 (aa [b1 4 (-1)] .ret) .skip)) (.seq (aa [b1 5 0] (.block 0 (.loop (.seq (aa [I 12 5,I 13 0,cp 14 13,bp 15 .lss 12 14] (aU 15 .skip (.exit 0))) (.seq (.block 1 (aa [I 18 0,I 19 5,cx 20 1 18 19,aw 21 1 20,I 22 1,cq 23 22 21 22,I 1 23] (aa [I 24 1,aT 25 .lss 24 0] (aU 25 (aa [b1 4 (-1)] .ret) .skip)))) (.region [I 16 5,aT 17 .add 16 1,I 5 17])))))) (aa [I 26 1,I 4 26] .ret)))))
def Gz:C:=(aa [b1 4 0] (aa [I 5 1,I 6 0,cp 7 6,bp 8 .sub 5 7,I 1 8] (.seq (aa [I 9 1,aT 10 .lss 9 0] (aU 10 (aa [b1 4 (-1)] .ret) .skip)) (aa [I 11 1,I 4 11] .ret))))
def KC:C:=(aa [b1 4 0] (aa [I 6 1,I 7 0,cp 8 7,bp 9 .sub 6 8,I 1 9] (.seq (aa [I 10 1,aT 11 .lss 10 0] (aU 11 (aa [b1 4 (-1)] .ret) .skip)) (.seq (aa [b1 5 0] (.block 0 (.loop (.seq (aa [I 12 5,I 13 0,cp 14 13,bp 15 .lss 12 14] (aU 15 .skip (.exit 0))) (.seq (.block 1 (aa [I 18 0,I 19 5,cx 20 2 18 19,bg 21 2 20,I 22 1,cq 23 68 21 22,I 1 23] (aa [I 24 1,aT 25 .lss 24 0] (aU 25 (aa [b1 4 (-1)] .ret) .skip)))) (.region [I 16 5,aT 17 .add 16 1,I 5 17])))))) (aa [I 26 1,I 4 26] .ret)))))
def R4:C:=(aa [fk 2 5] (aa [I 5 0,cp 6 5,c8 (.mks 7 none 5 74 (.agg ko) (.t 6)),I 3 7] (.seq (aa [b1 4 0] (.block 0 (.loop (.seq (aa [I 8 4,I 9 0,cp 10 9,bp 11 .lss 8 10] (aU 11 .skip (.exit 0))) (.seq (.block 1 (.region [I 14 3,I 15 4,I 16 0,I 17 4,cx 18 5 16 17,bg 19 5 18,cG 20 79 19,cx 21 5 14 15,b7 5 21 20])) (.region [I 12 4,aT 13 .add 12 1,I 4 13])))))) (.seq (.pub 3 (.region [I 22 3,I 2 22])) .ret))))
def R5:C:=(aa [fk 2 1] (aa [I 5 0,cp 6 5,c8 (.mks 7 none 1 30 (.slice 5 .nil []) (.t 6)),I 3 7] (.seq (aa [b1 4 0] (.block 0 (.loop (.seq (aa [I 8 4,I 9 0,cp 10 9,bp 11 .lss 8 10] (aU 11 .skip (.exit 0))) (.seq (.block 1 (.region [I 14 3,I 15 4,I 16 0,I 17 4,cx 18 1 16 17,aw 19 1 18,cG 20 28 19,cx 21 1 14 15,b7 1 21 20])) (.region [I 12 4,aT 13 .add 12 1,I 4 13])))))) (.seq (.pub 3 (.region [I 22 3,I 2 22])) .ret))))
def Sc:C:=(aa [fk 2 2] (aa [I 5 0,cp 6 5,c8 (.mks 7 none 2 78 (.agg [.int .i64 0,.int .i64 0]) (.t 6)),I 3 7] (.seq (aa [b1 4 0] (.block 0 (.loop (.seq (aa [I 8 4,I 9 0,cp 10 9,bp 11 .lss 8 10] (aU 11 .skip (.exit 0))) (.seq (.block 1 (.region [I 14 3,I 15 4,I 16 0,I 17 4,cx 18 2 16 17,bg 19 2 18,cG 20 80 19,cx 21 2 14 15,b7 2 21 20])) (.region [I 12 4,aT 13 .add 12 1,I 4 13])))))) (.seq (.pub 3 (.region [I 22 3,I 2 22])) .ret))))
def R7:C:=(aa [fk 2 2] (aa [I 5 0,cp 6 5,c8 (.mks 7 none 2 82 (.agg [.int .i64 0,.str []]) (.t 6)),I 3 7] (.seq (aa [b1 4 0] (.block 0 (.loop (.seq (aa [I 8 4,I 9 0,cp 10 9,bp 11 .lss 8 10] (aU 11 .skip (.exit 0))) (.seq (.block 1 (.region [I 14 3,I 15 4,I 16 0,I 17 4,cx 18 2 16 17,bg 19 2 18,cG 20 81 19,cx 21 2 14 15,b7 2 21 20])) (.region [I 12 4,aT 13 .add 12 1,I 4 13])))))) (.seq (.pub 3 (.region [I 22 3,I 2 22])) .ret))))
def RT:C:=(aa [bt 4 false] (.seq (aa [I 6 0,cp 7 6,I 8 1,cp 9 8,bp 10 .neq 7 9] (aU 10 (aa [bt 4 false] .ret) .skip)) (.seq (aa [b1 5 0] (.block 0 (.loop (.seq (aa [I 11 5,I 12 0,cp 13 12,bp 14 .lss 11 13] (aU 14 .skip (.exit 0))) (.seq (.block 1 (.seq (.drawn true 27 [I 17 0,I 18 5,cx 19 1 17 18,aw 20 1 19,I 21 1,I 22 5,cx 23 1 21 22,aw 24 1 23,cq 25 18 20 24,cJ 26 25]) (aU 26 (aa [bt 4 false] .ret) .skip))) (.region [I 15 5,aT 16 .add 15 1,I 5 16])))))) (aa [bt 4 true] .ret))))
def R0:C:=(aa [bt 4 false] (.seq (aa [I 6 0,cp 7 6,I 8 1,cp 9 8,bp 10 .neq 7 9] (aU 10 (aa [bt 4 false] .ret) .skip)) (.seq (aa [b1 5 0] (.block 0 (.loop (.seq (aa [I 11 5,I 12 0,cp 13 12,bp 14 .lss 11 13] (aU 14 .skip (.exit 0))) (.seq (.block 1 (.seq (.drawn true 27 [I 17 0,I 18 5,cx 19 2 17 18,bg 20 2 19,I 21 1,I 22 5,cx 23 2 21 22,bg 24 2 23,cq 25 90 20 24,cJ 26 25]) (aU 26 (aa [bt 4 false] .ret) .skip))) (.region [I 15 5,aT 16 .add 15 1,I 5 16])))))) (aa [bt 4 true] .ret))))
def RV:C:=(aa [bt 4 false] (.seq (aa [I 6 0,cp 7 6,I 8 1,cp 9 8,bp 10 .neq 7 9] (aU 10 (aa [bt 4 false] .ret) .skip)) (.seq (aa [b1 5 0] (.block 0 (.loop (.seq (aa [I 11 5,I 12 0,cp 13 12,bp 14 .lss 11 13] (aU 14 .skip (.exit 0))) (.seq (.block 1 (.seq (.drawn true 27 [I 17 0,I 18 5,cx 19 2 17 18,bg 20 2 19,I 21 1,I 22 5,cx 23 2 21 22,bg 24 2 23,cq 25 91 20 24,cJ 26 25]) (aU 26 (aa [bt 4 false] .ret) .skip))) (.region [I 15 5,aT 16 .add 15 1,I 5 16])))))) (aa [bt 4 true] .ret))))
def KD:C:=(aa [b1 4 0] (aa [I 6 1,I 7 0,cp 8 7,bp 9 .sub 6 8,I 1 9] (.seq (aa [I 10 1,aT 11 .lss 10 0] (aU 11 (aa [b1 4 (-1)] .ret) .skip)) (.seq (aa [b1 5 0] (.block 0 (.loop (.seq (aa [I 12 5,I 13 0,cp 14 13,bp 15 .lss 12 14] (aU 15 .skip (.exit 0))) (.seq (.block 1 (aa [I 18 0,I 19 5,cx 20 4 18 19,bg 21 4 20,I 22 1,cq 23 92 21 22,I 1 23] (aa [I 24 1,aT 25 .lss 24 0] (aU 25 (aa [b1 4 (-1)] .ret) .skip)))) (.region [I 16 5,aT 17 .add 16 1,I 5 17])))))) (aa [I 26 1,I 4 26] .ret)))))
def Sa:C:=(aa [fk 2 4] (aa [I 5 0,cp 6 5,c8 (.mks 7 none 4 71 (.agg eI) (.t 6)),I 3 7] (.seq (aa [b1 4 0] (.block 0 (.loop (.seq (aa [I 8 4,I 9 0,cp 10 9,bp 11 .lss 8 10] (aU 11 .skip (.exit 0))) (.seq (.block 1 (.region [I 14 3,I 15 4,I 16 0,I 17 4,cx 18 4 16 17,bg 19 4 18,cG 20 96 19,cx 21 4 14 15,b7 4 21 20])) (.region [I 12 4,aT 13 .add 12 1,I 4 13])))))) (.seq (.pub 3 (.region [I 22 3,I 2 22])) .ret))))
def RY:C:=(aa [bt 4 false] (.seq (aa [I 6 0,cp 7 6,I 8 1,cp 9 8,bp 10 .neq 7 9] (aU 10 (aa [bt 4 false] .ret) .skip)) (.seq (aa [b1 5 0] (.block 0 (.loop (.seq (aa [I 11 5,I 12 0,cp 13 12,bp 14 .lss 11 13] (aU 14 .skip (.exit 0))) (.seq (.block 1 (.seq (.drawn true 27 [I 17 0,I 18 5,cx 19 4 17 18,bg 20 4 19,I 21 1,I 22 5,cx 23 4 21 22,bg 24 4 23,cq 25 104 20 24,cJ 26 25]) (aU 26 (aa [bt 4 false] .ret) .skip))) (.region [I 15 5,aT 16 .add 15 1,I 5 16])))))) (aa [bt 4 true] .ret))))
def RR:C:=(aa [dc 2 0,dc 3 1,bt 4 false] (.seq (aa [aH 5 0 1 2,aw 6 1 5,aH 7 0 1 3,aw 8 1 7,bp 9 .neq 6 8] (aU 9 (aa [bt 4 false] .ret) .skip)) (.seq (aa [h9 10 1 4 2,bg 11 4 10,h9 12 1 4 3,bg 13 4 12,cq 14 104 11 13,cJ 15 14] (aU 15 (aa [bt 4 false] .ret) .skip)) (aa [bt 4 true] .ret))))
def Kz:C:=(aa [dc 2 0,b1 4 0] (aa [h9 5 1 4 2,bg 6 4 5,I 7 1,cq 8 92 6 7,I 1 8] (.seq (aa [I 9 1,aT 10 .lss 9 0] (aU 10 (aa [b1 4 (-1)] .ret) .skip)) (aa [I 11 1,I 4 11] .ret))))
def Gy:C:=(aa [dc 2 0,b1 4 0] (aa [I 5 1,aH 6 1 1 2,aw 7 1 6,bG 8 (.slen (.t 7)),bp 9 .sub 5 8,I 1 9] (.seq (aa [I 10 1,aT 11 .lss 10 0] (aU 11 (aa [b1 4 (-1)] .ret) .skip)) (aa [I 12 1,I 4 12] .ret))))
def R3:C:=(aa [dc 1 0,eg 2 ko] (aa [eg 3 ko] (aa [aH 4 0 1 1,aw 5 1 4,aH 6 0 1 3,b7 1 6 5] (aa [h9 7 1 4 1,bg 8 4 7,cG 9 96 8,h9 10 1 4 3,b7 4 10 9] (aa [bg 11 5 3,b7 5 2 11] .ret)))))
def Sb:C:=(aa [dc 1 0,c8 (.alloc 2 none (.agg [.int .i64 0,.int .i64 0]))] (aa [c8 (.alloc 3 none (.agg [.int .i64 0,.int .i64 0]))] (aa [aH 4 0 1 1,aw 5 1 4,aH 6 0 1 3,b7 1 6 5] (aa [aH 7 1 1 1,aw 8 1 7,aH 9 1 1 3,b7 1 9 8] (aa [bg 10 2 3,b7 2 2 10] .ret)))))
def R6:C:=(aa [dc 1 0,c8 (.alloc 2 none (.agg [.int .i64 0,.str []]))] (aa [c8 (.alloc 3 none (.agg [.int .i64 0,.str []]))] (aa [aH 4 0 1 1,aw 5 1 4,aH 6 0 1 3,b7 1 6 5] (aa [aH 7 1 1 1,aw 8 1 7,aH 9 1 1 3,b7 1 9 8] (aa [bg 10 2 3,b7 2 2 10] .ret)))))
def RZ:C:=(aa [dc 2 0,dc 3 1,bt 4 false] (.seq (aa [aH 5 0 1 2,aw 6 1 5,aH 7 0 1 3,aw 8 1 7,bp 9 .neq 6 8] (aU 9 (aa [bt 4 false] .ret) .skip)) (.seq (aa [aH 10 1 1 2,aw 11 1 10,aH 12 1 1 3,aw 13 1 12,bp 14 .neq 11 13] (aU 14 (aa [bt 4 false] .ret) .skip)) (aa [bt 4 true] .ret))))
def RU:C:=(aa [dc 2 0,dc 3 1,bt 4 false] (.seq (aa [aH 5 0 1 2,aw 6 1 5,aH 7 0 1 3,aw 8 1 7,bp 9 .neq 6 8] (aU 9 (aa [bt 4 false] .ret) .skip)) (.seq (aa [aH 10 1 1 2,aw 11 1 10,aH 12 1 1 3,aw 13 1 12,bp 14 .neq 11 13] (aU 14 (aa [bt 4 false] .ret) .skip)) (aa [bt 4 true] .ret))))
def vn:C:=(aa [dc 2 0,b1 4 0] (aa [I 5 1,aH 6 2 1 2,aw 7 1 6,bG 8 (.slen (.t 7)),bp 9 .sub 5 8,I 1 9] (.seq (aa [I 10 1,aT 11 .lss 10 0] (aU 11 (aa [b1 4 (-1)] .ret) .skip)) (aa [aH 12 3 1 2,aw 13 1 12,I 14 1,cq 15 37 13 14,I 1 15] (.seq (aa [I 16 1,aT 17 .lss 16 0] (aU 17 (aa [b1 4 (-1)] .ret) .skip)) (aa [I 18 1,I 4 18] .ret))))))
def R9:C:=(aa [dc 1 0,eg 2 eI] (aa [eg 3 eI] (aa [aH 4 0 1 1,aw 5 1 4,aH 6 0 1 3,b7 1 6 5] (aa [aH 7 1 1 1,aw 8 1 7,aH 9 1 1 3,b7 1 9 8] (aa [aH 10 2 1 1,aw 11 1 10,aH 12 2 1 3,b7 1 12 11] (aa [aH 13 3 1 1,aw 14 1 13,cG 15 45 14,aH 16 3 1 3,b7 1 16 15] (aa [bg 17 4 3,b7 4 2 17] .ret)))))))
def RX:C:=(aa [dc 2 0,dc 3 1,bt 4 false] (.seq (aa [aH 5 0 1 2,aw 6 1 5,aH 7 0 1 3,aw 8 1 7,bp 9 .neq 6 8] (aU 9 (aa [bt 4 false] .ret) .skip)) (.seq (aa [aH 10 1 1 2,aw 11 1 10,aH 12 1 1 3,aw 13 1 12,bp 14 .neq 11 13] (aU 14 (aa [bt 4 false] .ret) .skip)) (.seq (aa [aH 15 2 1 2,aw 16 1 15,aH 17 2 1 3,aw 18 1 17,bp 19 .neq 16 18] (aU 19 (aa [bt 4 false] .ret) .skip)) (.seq (aa [aH 20 3 1 2,aw 21 1 20,aH 22 3 1 3,aw 23 1 22,cq 24 52 21 23,cJ 25 24] (aU 25 (aa [bt 4 false] .ret) .skip)) (aa [bt 4 true] .ret))))))
def jo:List (Nat×dE):=[
 (3,⟨1,8,.int .i64,.int .i64 0⟩),
 (9,⟨1,16,.str,.str []⟩),
 (22,⟨1,24,.slice 106,.slice 5 .nil []⟩),
 (23,⟨1,24,.slice 22,.slice 1 .nil []⟩),
 (24,⟨1,24,.slice 121,.slice 2 .nil []⟩),
 (25,⟨1,24,.slice 108,.slice 2 .nil []⟩),
 (27,⟨5,104,.struct [(0,3),(1,22),(2,23),(3,24),(4,25)],.agg [.int .i64 0,.slice 5 .nil [],.slice 1 .nil [],.slice 2 .nil [],.slice 2 .nil []]⟩),
 (30,⟨1,24,.slice 74,.slice 5 .nil []⟩),
 (31,⟨1,24,.slice 30,.slice 1 .nil []⟩),
 (32,⟨1,24,.slice 78,.slice 2 .nil []⟩),
 (33,⟨1,24,.slice 82,.slice 2 .nil []⟩),
 (35,⟨5,104,.struct [(0,3),(1,30),(2,31),(3,32),(4,33)],.agg [.int .i64 0,.slice 5 .nil [],.slice 1 .nil [],.slice 2 .nil [],.slice 2 .nil []]⟩),
 (39,⟨1,24,.slice 104,.slice 4 .nil []⟩),
 (44,⟨1,24,.slice 71,.slice 4 .nil []⟩),
 (71,⟨4,56,.struct [(0,3),(1,3),(2,9),(3,44)],.agg [.int .i64 0,.int .i64 0,.str [],.slice 4 .nil []]⟩),
 (74,⟨5,64,.struct [(0,3),(1,71)],.agg [.int .i64 0,.int .i64 0,.int .i64 0,.str [],.slice 4 .nil []]⟩),
 (78,⟨2,16,.struct [(0,3),(1,3)],.agg [.int .i64 0,.int .i64 0]⟩),
 (82,⟨2,24,.struct [(0,3),(1,9)],.agg [.int .i64 0,.str []]⟩),
 (104,⟨4,56,.struct [(0,3),(1,3),(2,9),(3,39)],.agg [.int .i64 0,.int .i64 0,.str [],.slice 4 .nil []]⟩),
 (106,⟨5,64,.struct [(0,3),(1,104)],.agg [.int .i64 0,.int .i64 0,.int .i64 0,.str [],.slice 4 .nil []]⟩),
 (108,⟨2,24,.struct [(0,3),(1,9)],.agg [.int .i64 0,.str []]⟩),
 (121,⟨2,16,.struct [(0,3),(1,3)],.agg [.int .i64 0,.int .i64 0]⟩)]
theorem gb:e6 ar jo=true:=an
theorem E5:b4 jo AJ [.tmp 4] 2 Tryz.f6=true:=an
theorem amm:b4 jo R8 [.cell 2 true 5] 1 Tryz.f8=true:=an
theorem amc:b4 jo RW [.tmp 4] 2 Tryz.f10=true:=an
theorem al8:b4 jo RS [.tmp 4] 2 Tryz.f18=true:=an
theorem X4:b4 jo KA [.tmp 4] 2 Tryz.f22=true:=an
theorem X5:b4 jo KB [.tmp 4] 2 Tryz.f23=true:=an
theorem N2:b4 jo Gz [.tmp 4] 2 Tryz.f24=true:=an
theorem X6:b4 jo KC [.tmp 4] 2 Tryz.f25=true:=an
theorem ami:b4 jo R4 [.tmp 2] 1 Tryz.f28=true:=an
theorem amj:b4 jo R5 [.tmp 2] 1 Tryz.f29=true:=an
theorem amq:b4 jo Sc [.tmp 2] 1 Tryz.f30=true:=an
theorem aml:b4 jo R7 [.tmp 2] 1 Tryz.f31=true:=an
theorem al9:b4 jo RT [.tmp 4] 2 Tryz.f34=true:=an
theorem amg:b4 jo R0 [.tmp 4] 2 Tryz.f35=true:=an
theorem amb:b4 jo RV [.tmp 4] 2 Tryz.f36=true:=an
theorem X7:b4 jo KD [.tmp 4] 2 Tryz.f37=true:=an
theorem amo:b4 jo Sa [.tmp 2] 1 Tryz.f45=true:=an
theorem ame:b4 jo RY [.tmp 4] 2 Tryz.f52=true:=an
theorem al7:b4 jo RR [.tmp 4] 2 Tryz.f60=true:=an
theorem X3:b4 jo Kz [.tmp 4] 2 Tryz.f67=true:=an
theorem N1:b4 jo Gy [.tmp 4] 2 Tryz.f68=true:=an
theorem amh:b4 jo R3 [.cell 2 true 5] 1 Tryz.f79=true:=an
theorem amp:b4 jo Sb [.cell 2 true 2] 1 Tryz.f80=true:=an
theorem amk:b4 jo R6 [.cell 2 true 2] 1 Tryz.f81=true:=an
theorem amf:b4 jo RZ [.tmp 4] 2 Tryz.f90=true:=an
theorem ama:b4 jo RU [.tmp 4] 2 Tryz.f91=true:=an
theorem xT:b4 jo vn [.tmp 4] 2 Tryz.f92=true:=an
theorem amn:b4 jo R9 [.cell 2 true 4] 1 Tryz.f96=true:=an
theorem amd:b4 jo RX [.tmp 4] 2 Tryz.f104=true:=an
def iY{α:Type}(f:α->ah)(z:ah)(l:List α)(i:Nat):List ah:=(l.take i).map f++su (l.length-i) z
theorem pQ{α:Type}(f:α->ah)(z:ah)(l:List α):iY f z l 0=su l.length z:=by simp[iY]
theorem EW{α:Type}(f:α->ah)(z:ah)(l:List α):iY f z l l.length=l.map f:=by simp[iY]
theorem EX{α:Type}(f:α->ah)(z:ah)(l:List α){i:Nat}(hi:i<l.length):(iY f z l i)[i]? =some z:=by
 unfold iY;have h:((l.take i).map f).length=i:=by simp;omega
 rw[List.getElem?_append_right Ω,h,Nat.sub_self,List.getElem?_replicate,if_pos Ω]
theorem EY{α:Type}(f:α->ah)(z:ah)(l:List α){i:Nat}{x:α}(a:l[i]? =some x):(iY f z l i).set i (f x)=iY f z l (i+1):=by
 have hi:=(fy.1 a).1;unfold iY;have h:((l.take i).map f).length=i:=by simp;omega
 rw[List.set_append_right _ _ Ω,h,Nat.sub_self,sj a,List.map_append,List.append_assoc];congr 1;obtain⟨m,hm⟩:∃m,l.length-i=m+1:=⟨l.length-i-1,Ω⟩;rw[hm,show l.length-(i+1)=m from by omega,List.replicate_succ,List.set_cons_zero];rfl
theorem WM(S:aB->Prop):∀{a b:List ah},aA S (a++b)↔aA S a/\aA S b
 |[],b=>by simp[aA]
 |x::a,b=>by simp[aA,WM S (a:=a),and_assoc]
theorem WO{α:Type}(S:aB->Prop)(f:α->ah)(a:∀x,av S (f x)):∀l:List α,aA S (l.map f)
 |[]=>by simp[aA]
 |x::xs=>by simp[aA,WO S f a xs,a]
theorem zA(S:aB->Prop)(z:ah)(a:av S z):∀n,aA S (su n z)
 |0=>by simp[aA]
 |n+1=>by simp[List.replicate_succ,aA,zA S z a n,a]
theorem EL{α:Type}(S:aB->Prop)(f:α->ah)(z:ah)(l:List α)(i:Nat)(b:∀x,av S (f x))(a:av S z):aA S (iY f z l i):=by unfold iY;rw[WM];exact⟨WO S f b _,zA S z a _⟩
theorem aaW(l:dz cE)(hw:∀p n cap,l= .b p n cap->nJ n)(c:∀xs,l= .l xs->∀x∈xs,∀m,0<=m->m<=1048576->bL ar 92 [cE.e x,.int .i64 m] (.int .i64 (iJ x m)))(m:Int)(u:0<=m)(J:m<=1048576):bL ar 37 [l.e 4 cE.e,.int .i64 m] (.int .i64 (hg iJ l m)):=by
 cases l with
 |b p n cap=>
  have s:=hw p n cap rfl;simp only[nJ,lim]at s;have g:m-n<0:=Ω
  simp only[dz.e,hg];clear hw c;refine bs gb Tryz.func37 X7 fun o=>?_;unfold KD;exact cn
 |l l=>
 have c:=c l rfl;clear hw;simp only[dz.e,hg];generalize bq:pY iJ l m=R;unfold pY at bq;refine bs gb Tryz.func37 X7 fun o=>?_;unfold KD;have t:l.length<=68719476736:=by simp[e1,eK,eV,lim]at o;omega
 simp;by_cases g:m-l.length<0
 ·rw[if_pos g]at bq;subst bq;exact cn
 rw[if_neg g]at bq;(with_reducible repeat' first|refine al ?_|simp[g]);refine eG [0] (fun i (k:Int)=>[(1,.int .i64 k),(5,.int .i64 i)]) l.length (fun i k=>(0<=k/\k<=1048576)/\kq iJ (l.drop i) k=R) (m-l.length) b6 ⟨⟨Ω,Ω⟩,by simpa using bq⟩ (fun k a _=>?_) (fun i k hi a _=>?_)
 ·obtain⟨_,a⟩:=a;rw[List.drop_length]at a;simp only[kq]at a;subst a;exact cn
 ·obtain⟨⟨f,r⟩,a⟩:=a;obtain⟨x,e,j⟩:=ev hi;have key:=c x (eQ e) k f r;have hle:=Ah x k f;rw[uE e]at a;simp only[kq]at a;generalize iJ x k=q at key hle a;clear e;by_cases d:q<0
  ·rw[if_pos d]at a;subst a;exact cn
  ·rw[if_neg d]at a;simp[hi,j];((with_reducible repeat' first|refine al ?_|refine aI key ?_|refine aJ key ?_|simp[hi,j,d]|((first|apply bQ|apply bT|apply bS)<;>intro h<;>try simp at h))<;>(try exact cv));all_goals exact bO.rng q hi ⟨⟨Ω,Ω⟩,a⟩ b6
theorem arp(l:List b2)(j:∀x∈l,bL ar 96 [enc x] (enc x)):bL ar 45 [.slice 4 .no (l.map enc)] (.slice 4 .no (l.map enc)):=by
 refine bs gb Tryz.func45 amo fun h=>?_;unfold Sa;have k:l.length<=68719476736:=by simp[e1,eK,eV,lim]at h;omega
 simp;all_goals first|(refine⟨by unfold lim;omega,?_⟩)|skip
 (with_reducible repeat' first|refine al ?_|simp);have c:∀(S:aB->Prop) (n:Nat),aA S (su n (.agg [.int .i64 0,.int .i64 0,.str [],.slice 4 .nil []]))=True:=fun S n=>eq_true (zA S _ pi n);refine hk (fun i (_:Unit)=>⟨[(0,.slice 4 .no (l.map enc)),(3,.row 4 (.loc 0) l.length),(4,.int .i64 i)],[],[(.loc 0,⟨l.length,71,4,some (iY enc (.agg [.int .i64 0,.int .i64 0,.str [],.slice 4 .nil []]) l i)⟩)],1,[]⟩) l.length (fun _ _=>True) () ⟨by simp[fresh,aA,av,b0,inObs,Pv.look,pQ,c],dN (by simp[fresh,aA,av,b0,inObs,Pv.look,pQ,c]),dP (by simp[fresh,aA,av,dH,inObs,Pv.look,pQ,c]),Ψ⟩ trivial (fun _ _ _=>?_) (fun i _ hi _ _=>?_)
 ·rw[EW];exact cn
 ·obtain⟨x,d,e⟩:=ev hi;have key:=j x (eQ d);have f:=EX enc (.agg [.int .i64 0,.int .i64 0,.str [],.slice 4 .nil []]) l hi;have b:=EY enc (.agg [.int .i64 0,.int .i64 0,.str [],.slice 4 .nil []]) l d;have a:∀S:aB->Prop,aA S (iY enc (.agg [.int .i64 0,.int .i64 0,.str [],.slice 4 .nil []]) l (i+1)):=fun S=>EL S _ _ _ _ (fun x=>by simp) pi;generalize iY enc (.agg [.int .i64 0,.int .i64 0,.str [],.slice 4 .nil []]) l i=r0 at f b;generalize g:iY enc (.agg [.int .i64 0,.int .i64 0,.str [],.slice 4 .nil []]) l (i+1)=m at b a;clear d;simp[hi,e];(with_reducible repeat' first|refine al ?_|refine aI key ?_|refine aJ key ?_|simp[hi,e,f,b]);all_goals refine bO.rng () hi trivial ?_
  all_goals rw[g]
  all_goals first
   |exact⟨by simp[fresh,aA,av,b0,inObs,Pv.look,a],dN (by simp[fresh,aA,av,b0,inObs,Pv.look,a]),dP (by simp[fresh,aA,av,dH,inObs,Pv.look,a]),Ψ⟩
   |exact⟨by simp[fresh,aA,av,b0,inObs,Pv.look,a],dN (by simp[fresh,aA,av,b0,inObs,Pv.look,a]),dP (by simp[fresh,aA,av,dH,inObs,Pv.look,a];exact b),Ψ⟩
theorem aqv(l:List b2)(c:∀x∈l,bL ar 104 [enc x,enc x] (.bool true)):bL ar 52 [.slice 4 .no (l.map enc),.slice 4 .no (l.map enc)] (.bool true):=by
 refine bs gb Tryz.func52 ame fun b=>?_;unfold RY;have d:l.length<=68719476736:=by simp[e1,eK,eV,lim]at b;omega
 simp;(with_reducible repeat' first|refine al ?_|simp);refine eG [0,1] (fun i (_:Unit)=>[(5,.int .i64 i)]) l.length (fun _ _=>True) () b6 trivial (fun _ _ _=>?_) (fun i _ hi _ _=>?_)
 ·exact cn
 ·obtain⟨x,a,e⟩:=ev hi;have key:=c x (eQ a);clear a;exact iH
theorem arc(t:cE)(hw:t.wf):∀m:Int,0<=m->m<=1048576->bL ar 92 [t.e,.int .i64 m] (.int .i64 (iJ t m)):=by
 suffices H:∀(k:Nat) (t:cE),t.sz<=k->t.wf->∀m:Int,0<=m->m<=1048576->bL ar 92 [t.e,.int .i64 m] (.int .i64 (iJ t m))from H _ t (eR _) hw
 intro k;clear hw t;induction k with
 |zero=>intro t aM;cases t<;>simp[cE.sz]at aM
 |succ k j=>
  intro t aM hw m y J;cases t with
  |mk tk hp s a=>
   simp only[cE.wf,cE.wfL_iff]at hw;obtain⟨r,q⟩:=hw;have d:m-s.len<0->iJ (.mk tk hp s a) m= -1:=fun g=>by rw[Jx];exact if_pos g
   have f:¬m-s.len<0->iJ (.mk tk hp s a) m=hg iJ (.l a) (m-s.len):=fun g=>by rw[Jx];exact if_neg g
   generalize iJ (.mk tk hp s a) m=R at d f;have w:=s.len_nn;have key:=fun h=>aaW (.l a) (fun p n c e=>by cases e) (fun xs e x u=>by cases e;exact j x (by have:=cE.szL_mem u;simp only[cE.sz]at aM;omega) (q x u)) (m-s.len) h Ω;have hle:=fun h=>ya Ah (.l a) (m-s.len) h;simp only[cE.e,cE.eL_map];simp only[dz.e]at key;clear aM q;cases s with
   |b x=>
    simp only[hA.wf,nJ,lim]at r;have g:m-x.size<0:=Ω
    have bq:=d g;subst bq;clear d f;clear key hle j;simp only[hA.e];refine bs gb Tryz.func92 xT fun i=>?_;unfold vn;exact cn
   |s l=>
    simp only[hA.len]at d f key hle;simp only[hA.e];by_cases g:m-l.length<0
    ·have bq:=d g;subst bq;clear d f;clear key hle j;refine bs gb Tryz.func92 xT fun i=>?_;unfold vn;have o:l.length<=68719476736:=by simp[e1,eK,eV,lim]at i;omega
     exact cn
    ·have bq:=f g;clear d f;have key:=key Ω;have hle:=hle Ω;rw[<-bq]at key hle;clear bq j;by_cases v:R<0
     ·have:R= -1:=Ω
      subst this;refine bs gb Tryz.func92 xT fun i=>?_;unfold vn;have o:l.length<=68719476736:=by simp[e1,eK,eV,lim]at i;omega
      exact cn
     ·refine bs gb Tryz.func92 xT fun i=>?_;unfold vn;have o:l.length<=68719476736:=by simp[e1,eK,eV,lim]at i;omega
      exact cn
  |big tk hp s p n c=>
   simp only[cE.wf]at hw;obtain⟨r,q⟩:=hw;have d:m-s.len<0->iJ (.big tk hp s p n c) m= -1:=fun g=>by rw[Jx];exact if_pos g
   have f:¬m-s.len<0->iJ (.big tk hp s p n c) m=hg iJ (.b p n c) (m-s.len):=fun g=>by rw[Jx];exact if_neg g
   generalize iJ (.big tk hp s p n c) m=R at d f;have w:=s.len_nn;have key:=fun h=>aaW (.b p n c) (fun p n c e=>by cases e;exact q) (fun xs e=>by cases e) (m-s.len) h Ω;have hle:=fun h=>ya Ah (.b p n c) (m-s.len) h;simp only[cE.e];simp only[dz.e]at key;clear aM q;cases s with
   |b x=>
    simp only[hA.wf,nJ,lim]at r;have g:m-x.size<0:=Ω
    have bq:=d g;subst bq;clear d f;clear key hle j;simp only[hA.e];refine bs gb Tryz.func92 xT fun i=>?_;unfold vn;exact cn
   |s l=>
    simp only[hA.len]at d f key hle;simp only[hA.e];by_cases g:m-l.length<0
    ·have bq:=d g;subst bq;clear d f;clear key hle j;refine bs gb Tryz.func92 xT fun i=>?_;unfold vn;have o:l.length<=68719476736:=by simp[e1,eK,eV,lim]at i;omega
     exact cn
    ·have bq:=f g;clear d f;have key:=key Ω;have hle:=hle Ω;rw[<-bq]at key hle;clear bq j;by_cases v:R<0
     ·have:R= -1:=Ω
      subst this;refine bs gb Tryz.func92 xT fun i=>?_;unfold vn;have o:l.length<=68719476736:=by simp[e1,eK,eV,lim]at i;omega
      exact cn
     ·refine bs gb Tryz.func92 xT fun i=>?_;unfold vn;have o:l.length<=68719476736:=by simp[e1,eK,eV,lim]at i;omega
      exact cn
theorem aro(t:b2):bL ar 96 [enc t] (enc t):=by
 suffices H:∀(k:Nat) (t:b2),t.sz<=k->bL ar 96 [enc t] (enc t)from H _ t (eR _)
 intro k;induction k with
 |zero=>intro t aM;cases t;simp[b2.sz]at aM
 |succ k a=>intro t aM;have key:=arp t.args (fun x b=>a x (by have:=PA b;omega));clear a;refine bs gb Tryz.func96 amn fun c=>?_;unfold R9;exact cn
theorem aqu(t:b2):bL ar 104 [enc t,enc t] (.bool true):=by
 suffices H:∀(k:Nat) (t:b2),t.sz<=k->bL ar 104 [enc t,enc t] (.bool true)from H _ t (eR _)
 intro k;induction k with
 |zero=>intro t aM;cases t;simp[b2.sz]at aM
 |succ k a=>intro t aM;have key:=aqv t.args (fun x b=>a x (by have:=PA b;omega));clear a;refine bs gb Tryz.func104 amd fun c=>?_;unfold RX;exact cn
structure fL where
 v:Int
 t:cE
def fL.e(b:fL):ah:= .agg [.int .i64 b.v,.int .i64 b.t.kind,.int .i64 b.t.num,b.t.name.e,b.t.args.e 4 cE.e]
@[simp]theorem at2(S:aB->Prop)(b:fL):av S b.e=True:=by simp[fL.e,av,aA]
@[simp]theorem avL(b:fL):de b.e=b.e:=by simp[fL.e,de,cK]
theorem WR(S:aB->Prop):∀l:List fL,aA S (l.map fL.e)
 |[]=>by simp[aA]
 |x::xs=>by simp[aA,WR S xs]
@[simp]theorem atQ(S:aB->Prop)(l:List fL):aA S (l.map fL.e)=True:=eq_true (WR S l)
@[simp]theorem avj(b:fL):e5 b.e=true:=rfl
@[simp]theorem atz(b:fL):Pv.isAgg 5 b.e:=⟨_,rfl,rfl⟩
@[simp]theorem asg(b:fL):cells b.e=[.int .i64 b.v,.int .i64 b.t.kind,.int .i64 b.t.num,b.t.name.e,b.t.args.e 4 cE.e]:=rfl
structure ic where
 v:Int
 s:hA
def ic.e(b:ic):ah:= .agg [.int .i64 b.v,b.s.e]
@[simp]theorem aug(S:aB->Prop)(b:ic):av S b.e=True:=by simp[ic.e,av,aA]
@[simp]theorem avX(b:ic):de b.e=b.e:=by simp[ic.e,de,cK]
theorem WW(S:aB->Prop):∀l:List ic,aA S (l.map ic.e)
 |[]=>by simp[aA]
 |x::xs=>by simp[aA,WW S xs]
@[simp]theorem atW(S:aB->Prop)(l:List ic):aA S (l.map ic.e)=True:=eq_true (WW S l)
@[simp]theorem avz(b:ic):e5 b.e=true:=rfl
@[simp]theorem atE(b:ic):Pv.isAgg 2 b.e:=⟨_,rfl,rfl⟩
@[simp]theorem asw(b:ic):cells b.e=[.int .i64 b.v,b.s.e]:=rfl
def tH(b:fL)(m:Int):Int:=iJ b.t m
theorem Px(b:fL)(m:Int)(h:0<=m): -1<=tH b m/\tH b m<=m:=Ah b.t m h
def lQ(b:ic)(m:Int):Int:=if m-b.s.len<0 then-1 else m-b.s.len
theorem Jy(b:ic)(m:Int)(h:0<=m): -1<=lQ b m/\lQ b m<=m:=by have:=b.s.len_nn;unfold lQ;split<;>omega
theorem Gk(t:cE):ah.agg [.int .i64 t.kind,.int .i64 t.num,t.name.e,t.args.e 4 cE.e]=t.e:=(cE.e_eq t).symm
theorem aq6(b:fL)(hw:b.t.wf)(m:Int)(a:0<=m)(J:m<=1048576):bL ar 67 [b.e,.int .i64 m] (.int .i64 (tH b m)):=by
 have key:=arc b.t hw m a J;have hle:=Ah b.t m a;unfold tH;generalize iJ b.t m=q at key hle⊢;by_cases c:q<0
 ·have:q= -1:=Ω
  subst this;refine bs gb Tryz.func67 X3 fun d=>?_;unfold Kz;simp[Gk];(with_reducible repeat' first|refine al ?_|refine aI key ?_|refine aJ key ?_|simp[Gk]);all_goals simp[bE,aX,a1,aV]
 ·refine bs gb Tryz.func67 X3 fun d=>?_;unfold Kz;simp[Gk];(with_reducible repeat' first|refine al ?_|refine aI key ?_|refine aJ key ?_|simp[c,Gk]);all_goals simp[bE,aX,a1,aV]
theorem arh(b:dj):bL ar 79 [b.e] b.e:=by have key:=aro b.t;refine bs gb Tryz.func79 amh fun a=>?_;unfold R3;exact cn
theorem aqo(b:dj):bL ar 60 [b.e,b.e] (.bool true):=by have key:=aqu b.t;refine bs gb Tryz.func60 al7 fun a=>?_;unfold RR;exact cn
theorem aq9(b:ic)(hw:b.s.wf)(m:Int)(f:0<=m)(J:m<=1048576):bL ar 68 [b.e,.int .i64 m] (.int .i64 (lQ b m)):=by
 have a:m-b.s.len<0->lQ b m= -1:=fun g=>if_pos g;have c:¬m-b.s.len<0->lQ b m=m-b.s.len:=fun g=>if_neg g;generalize lQ b m=R at a c;obtain⟨v,s⟩:=b;simp only[ic.e]at hw a c⊢;cases s with
 |b x=>
  simp only[hA.wf,nJ,lim]at hw;have g:m-x.size<0:=Ω
  have bq:=a g;subst bq;clear a c;simp only[hA.e];refine bs gb Tryz.func68 N1 fun d=>?_;unfold Gy;exact cn
 |s l=>
  simp only[hA.e];by_cases g:m-l.length<0
  ·have bq:=a g;subst bq;clear a c hw;refine bs gb Tryz.func68 N1 fun d=>?_;unfold Gy;have e:l.length<=68719476736:=by simp[e1,eK,eV,lim]at d;omega
   exact cn
  ·have bq:R=m-l.length:=c g;subst bq;clear a c hw;refine bs gb Tryz.func68 N1 fun d=>?_;unfold Gy;have e:l.length<=68719476736:=by simp[e1,eK,eV,lim]at d;omega
   exact cn
theorem arq(b:bN):bL ar 80 [b.e] b.e:=by refine bs gb Tryz.func80 amp fun a=>?_;unfold Sb;exact cn
theorem ark(b:bk):bL ar 81 [b.e] b.e:=by refine bs gb Tryz.func81 amk fun a=>?_;unfold R6;exact cn
theorem aqw(b:bN):bL ar 90 [b.e,b.e] (.bool true):=by refine bs gb Tryz.func90 amf fun a=>?_;unfold RZ;exact cn
theorem aqr(b:bk):bL ar 91 [b.e,b.e] (.bool true):=by refine bs gb Tryz.func91 ama fun a=>?_;unfold RU;exact cn
@[simp high] theorem avc(x y:bk):nG x.e 0 [.int .i64 y.v,.str y.s]=y.e:=rfl
@[simp high] theorem avb(x y:bN):nG x.e 0 [.int .i64 y.v,.int .i64 y.k]=y.e:=rfl
theorem aq7(l:dz fL)(hw:∀p n cap,l= .b p n cap->nJ n)(c:∀xs,l= .l xs->∀x∈xs,∀m,0<=m->m<=1048576->bL ar 67 [fL.e x,.int .i64 m] (.int .i64 (tH x m)))(m:Int)(u:0<=m)(J:m<=1048576):bL ar 22 [l.e 5 fL.e,.int .i64 m] (.int .i64 (hg tH l m)):=by
 cases l with
 |b p n cap=>
  have s:=hw p n cap rfl;simp only[nJ,lim]at s;have g:m-n<0:=Ω
  simp only[dz.e,hg];clear hw c;refine bs gb Tryz.func22 X4 fun o=>?_;unfold KA;exact cn
 |l l=>
 have c:=c l rfl;clear hw;simp only[dz.e,hg];generalize bq:pY tH l m=R;unfold pY at bq;refine bs gb Tryz.func22 X4 fun o=>?_;unfold KA;have t:l.length<=68719476736:=by simp[e1,eK,eV,lim]at o;omega
 simp;by_cases g:m-l.length<0
 ·rw[if_pos g]at bq;subst bq;exact cn
 rw[if_neg g]at bq;(with_reducible repeat' first|refine al ?_|simp[g]);refine eG [0] (fun i (k:Int)=>[(1,.int .i64 k),(5,.int .i64 i)]) l.length (fun i k=>(0<=k/\k<=1048576)/\kq tH (l.drop i) k=R) (m-l.length) b6 ⟨⟨Ω,Ω⟩,by simpa using bq⟩ (fun k a _=>?_) (fun i k hi a _=>?_)
 ·obtain⟨_,a⟩:=a;rw[List.drop_length]at a;simp only[kq]at a;subst a;exact cn
 ·obtain⟨⟨f,r⟩,a⟩:=a;obtain⟨x,e,j⟩:=ev hi;have key:=c x (eQ e) k f r;have hle:=Px x k f;rw[uE e]at a;simp only[kq]at a;generalize tH x k=q at key hle a;clear e;by_cases d:q<0
  ·rw[if_pos d]at a;subst a;exact cn
  ·rw[if_neg d]at a;simp[hi,j];((with_reducible repeat' first|refine al ?_|refine aI key ?_|refine aJ key ?_|simp[hi,j,d]|((first|apply bQ|apply bT|apply bS)<;>intro h<;>try simp at h))<;>(try exact cv));all_goals exact bO.rng q hi ⟨⟨Ω,Ω⟩,a⟩ b6
theorem ari(l:List dj)(j:∀x∈l,bL ar 79 [dj.e x] (dj.e x)):bL ar 28 [.slice 5 .no (l.map dj.e)] (.slice 5 .no (l.map dj.e)):=by
 refine bs gb Tryz.func28 ami fun h=>?_;unfold R4;have k:l.length<=68719476736:=by simp[e1,eK,eV,lim]at h;omega
 simp;all_goals first|(refine⟨by unfold lim;omega,?_⟩)|skip
 (with_reducible repeat' first|refine al ?_|simp);have c:∀(S:aB->Prop) (n:Nat),aA S (su n (.agg [.int .i64 0,.int .i64 0,.int .i64 0,.str [],.slice 4 .nil []]))=True:=fun S n=>eq_true (zA S _ pi n);refine hk (fun i (_:Unit)=>⟨[(0,.slice 5 .no (l.map dj.e)),(3,.row 5 (.loc 0) l.length),(4,.int .i64 i)],[],[(.loc 0,⟨l.length,74,5,some (iY dj.e (.agg [.int .i64 0,.int .i64 0,.int .i64 0,.str [],.slice 4 .nil []]) l i)⟩)],1,[]⟩) l.length (fun _ _=>True) () ⟨by simp[fresh,aA,av,b0,inObs,Pv.look,pQ,c],dN (by simp[fresh,aA,av,b0,inObs,Pv.look,pQ,c]),dP (by simp[fresh,aA,av,dH,inObs,Pv.look,pQ,c]),Ψ⟩ trivial (fun _ _ _=>?_) (fun i _ hi _ _=>?_)
 ·rw[EW];exact cn
 ·obtain⟨x,d,e⟩:=ev hi;have key:=j x (eQ d);have f:=EX dj.e (.agg [.int .i64 0,.int .i64 0,.int .i64 0,.str [],.slice 4 .nil []]) l hi;have b:=EY dj.e (.agg [.int .i64 0,.int .i64 0,.int .i64 0,.str [],.slice 4 .nil []]) l d;have a:∀S:aB->Prop,aA S (iY dj.e (.agg [.int .i64 0,.int .i64 0,.int .i64 0,.str [],.slice 4 .nil []]) l (i+1)):=fun S=>EL S _ _ _ _ (fun x=>by simp) pi;generalize iY dj.e (.agg [.int .i64 0,.int .i64 0,.int .i64 0,.str [],.slice 4 .nil []]) l i=r0 at f b;generalize g:iY dj.e (.agg [.int .i64 0,.int .i64 0,.int .i64 0,.str [],.slice 4 .nil []]) l (i+1)=m at b a;clear d;simp[hi,e];(with_reducible repeat' first|refine al ?_|refine aI key ?_|refine aJ key ?_|simp[hi,e,f,b]);all_goals refine bO.rng () hi trivial ?_
  all_goals rw[g]
  all_goals first
   |exact⟨by simp[fresh,aA,av,b0,inObs,Pv.look,a],dN (by simp[fresh,aA,av,b0,inObs,Pv.look,a]),dP (by simp[fresh,aA,av,dH,inObs,Pv.look,a]),Ψ⟩
   |exact⟨by simp[fresh,aA,av,b0,inObs,Pv.look,a],dN (by simp[fresh,aA,av,b0,inObs,Pv.look,a]),dP (by simp[fresh,aA,av,dH,inObs,Pv.look,a];exact b),Ψ⟩
theorem aqp(l:List dj)(c:∀x∈l,bL ar 60 [dj.e x,dj.e x] (.bool true)):bL ar 18 [.slice 5 .no (l.map dj.e),.slice 5 .no (l.map dj.e)] (.bool true):=by
 refine bs gb Tryz.func18 al8 fun b=>?_;unfold RS;have d:l.length<=68719476736:=by simp[e1,eK,eV,lim]at b;omega
 simp;(with_reducible repeat' first|refine al ?_|simp);refine eG [0,1] (fun i (_:Unit)=>[(5,.int .i64 i)]) l.length (fun _ _=>True) () b6 trivial (fun _ _ _=>?_) (fun i _ hi _ _=>?_)
 ·exact cn
 ·obtain⟨x,a,e⟩:=ev hi;have key:=c x (eQ a);clear a;exact iH
theorem ara(l:dz ic)(hw:∀p n cap,l= .b p n cap->nJ n)(c:∀xs,l= .l xs->∀x∈xs,∀m,0<=m->m<=1048576->bL ar 68 [ic.e x,.int .i64 m] (.int .i64 (lQ x m)))(m:Int)(u:0<=m)(J:m<=1048576):bL ar 25 [l.e 2 ic.e,.int .i64 m] (.int .i64 (hg lQ l m)):=by
 cases l with
 |b p n cap=>
  have s:=hw p n cap rfl;simp only[nJ,lim]at s;have g:m-n<0:=Ω
  simp only[dz.e,hg];clear hw c;refine bs gb Tryz.func25 X6 fun o=>?_;unfold KC;exact cn
 |l l=>
 have c:=c l rfl;clear hw;simp only[dz.e,hg];generalize bq:pY lQ l m=R;unfold pY at bq;refine bs gb Tryz.func25 X6 fun o=>?_;unfold KC;have t:l.length<=68719476736:=by simp[e1,eK,eV,lim]at o;omega
 simp;by_cases g:m-l.length<0
 ·rw[if_pos g]at bq;subst bq;exact cn
 rw[if_neg g]at bq;(with_reducible repeat' first|refine al ?_|simp[g]);refine eG [0] (fun i (k:Int)=>[(1,.int .i64 k),(5,.int .i64 i)]) l.length (fun i k=>(0<=k/\k<=1048576)/\kq lQ (l.drop i) k=R) (m-l.length) b6 ⟨⟨Ω,Ω⟩,by simpa using bq⟩ (fun k a _=>?_) (fun i k hi a _=>?_)
 ·obtain⟨_,a⟩:=a;rw[List.drop_length]at a;simp only[kq]at a;subst a;exact cn
 ·obtain⟨⟨f,r⟩,a⟩:=a;obtain⟨x,e,j⟩:=ev hi;have key:=c x (eQ e) k f r;have hle:=Jy x k f;rw[uE e]at a;simp only[kq]at a;generalize lQ x k=q at key hle a;clear e;by_cases d:q<0
  ·rw[if_pos d]at a;subst a;exact cn
  ·rw[if_neg d]at a;simp[hi,j];((with_reducible repeat' first|refine al ?_|refine aI key ?_|refine aJ key ?_|simp[hi,j,d]|((first|apply bQ|apply bT|apply bS)<;>intro h<;>try simp at h))<;>(try exact cv));all_goals exact bO.rng q hi ⟨⟨Ω,Ω⟩,a⟩ b6
theorem arl(l:List bk)(j:∀x∈l,bL ar 81 [bk.e x] (bk.e x)):bL ar 31 [.slice 2 .no (l.map bk.e)] (.slice 2 .no (l.map bk.e)):=by
 refine bs gb Tryz.func31 aml fun h=>?_;unfold R7;have k:l.length<=68719476736:=by simp[e1,eK,eV,lim]at h;omega
 simp;all_goals first|(refine⟨by unfold lim;omega,?_⟩)|skip
 (with_reducible repeat' first|refine al ?_|simp);have c:∀(S:aB->Prop) (n:Nat),aA S (su n ((⟨0,[]⟩:bk).e))=True:=fun S n=>eq_true (zA S _ pi n);refine hk (fun i (_:Unit)=>⟨[(0,.slice 2 .no (l.map bk.e)),(3,.row 2 (.loc 0) l.length),(4,.int .i64 i)],[],[(.loc 0,⟨l.length,82,2,some (iY bk.e ((⟨0,[]⟩:bk).e) l i)⟩)],1,[]⟩) l.length (fun _ _=>True) () ⟨by simp[fresh,aA,av,b0,inObs,Pv.look,pQ,c],dN (by simp[fresh,aA,av,b0,inObs,Pv.look,pQ,c]),dP (by simp[fresh,aA,av,dH,inObs,Pv.look,pQ,c]),Ψ⟩ trivial (fun _ _ _=>?_) (fun i _ hi _ _=>?_)
 ·rw[EW];exact cn
 ·obtain⟨x,d,e⟩:=ev hi;have key:=j x (eQ d);have f:=EX bk.e ((⟨0,[]⟩:bk).e) l hi;have b:=EY bk.e ((⟨0,[]⟩:bk).e) l d;have a:∀S:aB->Prop,aA S (iY bk.e ((⟨0,[]⟩:bk).e) l (i+1)):=fun S=>EL S _ _ _ _ (fun x=>by simp) pi;generalize iY bk.e ((⟨0,[]⟩:bk).e) l i=r0 at f b;generalize g:iY bk.e ((⟨0,[]⟩:bk).e) l (i+1)=m at b a;clear d;simp[hi,e];(with_reducible repeat' first|refine al ?_|refine aI key ?_|refine aJ key ?_|simp[hi,e,f,b,-nG]);all_goals refine bO.rng () hi trivial ?_
  all_goals rw[g]
  all_goals first
   |exact⟨by simp[fresh,aA,av,b0,inObs,Pv.look,a],dN (by simp[fresh,aA,av,b0,inObs,Pv.look,a]),dP (by simp[fresh,aA,av,dH,inObs,Pv.look,a]),Ψ⟩
   |exact⟨by simp[fresh,aA,av,b0,inObs,Pv.look,a],dN (by simp[fresh,aA,av,b0,inObs,Pv.look,a]),dP (by simp[fresh,aA,av,dH,inObs,Pv.look,a];exact b),Ψ⟩
theorem aqs(l:List bk)(c:∀x∈l,bL ar 91 [bk.e x,bk.e x] (.bool true)):bL ar 36 [.slice 2 .no (l.map bk.e),.slice 2 .no (l.map bk.e)] (.bool true):=by
 refine bs gb Tryz.func36 amb fun b=>?_;unfold RV;have d:l.length<=68719476736:=by simp[e1,eK,eV,lim]at b;omega
 simp;(with_reducible repeat' first|refine al ?_|simp);refine eG [0,1] (fun i (_:Unit)=>[(5,.int .i64 i)]) l.length (fun _ _=>True) () b6 trivial (fun _ _ _=>?_) (fun i _ hi _ _=>?_)
 ·exact cn
 ·obtain⟨x,a,e⟩:=ev hi;have key:=c x (eQ a);clear a;exact iH
theorem ars(l:List bN)(j:∀x∈l,bL ar 80 [bN.e x] (bN.e x)):bL ar 30 [.slice 2 .no (l.map bN.e)] (.slice 2 .no (l.map bN.e)):=by
 refine bs gb Tryz.func30 amq fun h=>?_;unfold Sc;have k:l.length<=68719476736:=by simp[e1,eK,eV,lim]at h;omega
 simp;all_goals first|(refine⟨by unfold lim;omega,?_⟩)|skip
 (with_reducible repeat' first|refine al ?_|simp);have c:∀(S:aB->Prop) (n:Nat),aA S (su n ((⟨0,0⟩:bN).e))=True:=fun S n=>eq_true (zA S _ pi n);refine hk (fun i (_:Unit)=>⟨[(0,.slice 2 .no (l.map bN.e)),(3,.row 2 (.loc 0) l.length),(4,.int .i64 i)],[],[(.loc 0,⟨l.length,78,2,some (iY bN.e ((⟨0,0⟩:bN).e) l i)⟩)],1,[]⟩) l.length (fun _ _=>True) () ⟨by simp[fresh,aA,av,b0,inObs,Pv.look,pQ,c],dN (by simp[fresh,aA,av,b0,inObs,Pv.look,pQ,c]),dP (by simp[fresh,aA,av,dH,inObs,Pv.look,pQ,c]),Ψ⟩ trivial (fun _ _ _=>?_) (fun i _ hi _ _=>?_)
 ·rw[EW];exact cn
 ·obtain⟨x,d,e⟩:=ev hi;have key:=j x (eQ d);have f:=EX bN.e ((⟨0,0⟩:bN).e) l hi;have b:=EY bN.e ((⟨0,0⟩:bN).e) l d;have a:∀S:aB->Prop,aA S (iY bN.e ((⟨0,0⟩:bN).e) l (i+1)):=fun S=>EL S _ _ _ _ (fun x=>by simp) pi;generalize iY bN.e ((⟨0,0⟩:bN).e) l i=r0 at f b;generalize g:iY bN.e ((⟨0,0⟩:bN).e) l (i+1)=m at b a;clear d;simp[hi,e];(with_reducible repeat' first|refine al ?_|refine aI key ?_|refine aJ key ?_|simp[hi,e,f,b,-nG]);all_goals refine bO.rng () hi trivial ?_
  all_goals rw[g]
  all_goals first
   |exact⟨by simp[fresh,aA,av,b0,inObs,Pv.look,a],dN (by simp[fresh,aA,av,b0,inObs,Pv.look,a]),dP (by simp[fresh,aA,av,dH,inObs,Pv.look,a]),Ψ⟩
   |exact⟨by simp[fresh,aA,av,b0,inObs,Pv.look,a],dN (by simp[fresh,aA,av,b0,inObs,Pv.look,a]),dP (by simp[fresh,aA,av,dH,inObs,Pv.look,a];exact b),Ψ⟩
theorem aqx(l:List bN)(c:∀x∈l,bL ar 90 [bN.e x,bN.e x] (.bool true)):bL ar 35 [.slice 2 .no (l.map bN.e),.slice 2 .no (l.map bN.e)] (.bool true):=by
 refine bs gb Tryz.func35 amg fun b=>?_;unfold R0;have d:l.length<=68719476736:=by simp[e1,eK,eV,lim]at b;omega
 simp;(with_reducible repeat' first|refine al ?_|simp);refine eG [0,1] (fun i (_:Unit)=>[(5,.int .i64 i)]) l.length (fun _ _=>True) () b6 trivial (fun _ _ _=>?_) (fun i _ hi _ _=>?_)
 ·exact cn
 ·obtain⟨x,a,e⟩:=ev hi;have key:=c x (eQ a);clear a;exact iH
def nI:dz bN->Int->Int
 | .l l,m=>if m-l.length<0 then-1 else m-l.length
 | .b _ _ _,_=> -1
theorem Pz(l:dz bN)(m:Int)(h:0<=m): -1<=nI l m/\nI l m<=m:=by
 cases l with
 |l l=>simp only[nI];split<;>omega
 |b=>simp only[nI];omega
theorem ard(l:dz bN)(hw:∀p n cap,l= .b p n cap->nJ n)(m:Int)(e:0<=m)(J:m<=1048576):bL ar 24 [l.e 2 bN.e,.int .i64 m] (.int .i64 (nI l m)):=by
 cases l with
 |b p n cap=>
  have d:=hw p n cap rfl;simp only[nJ,lim]at d;have g:m-n<0:=Ω
  simp only[dz.e,nI];clear hw;refine bs gb Tryz.func24 N2 fun a=>?_;unfold Gz;exact cn
 |l l=>
  simp only[dz.e,nI];clear hw;by_cases g:m-l.length<0
  ·rw[if_pos g];refine bs gb Tryz.func24 N2 fun a=>?_;unfold Gz;have c:l.length<=68719476736:=by simp[e1,eK,eV,lim]at a;omega
   exact cn
  ·rw[if_neg g];refine bs gb Tryz.func24 N2 fun a=>?_;unfold Gz;have c:l.length<=68719476736:=by simp[e1,eK,eV,lim]at a;omega
   exact cn
def lb(d:dz fL):ah:=d.e 5 fL.e
@[simp]theorem at5(S:aB->Prop)(d:dz fL):av S (lb d)=True:=by cases d<;>simp[lb,dz.e,av]
@[simp]theorem avO(d:dz fL):de (lb d)=lb d:=by
 cases d with
 |l l=>
  have:∀l:List fL,cK (l.map fL.e)=l.map fL.e:=by
   intro l;induction l with
   |nil=>rfl
   |cons x l a=>simp[cK,a]
  simp[lb,dz.e,de,this]
 |b=>simp[lb,dz.e,de]
theorem WZ(S:aB->Prop):∀l:List (dz fL),aA S (l.map lb)
 |[]=>by simp[aA]
 |x::xs=>by simp[aA,WZ S xs]
@[simp]theorem atY(S:aB->Prop)(l:List (dz fL)):aA S (l.map lb)=True:=eq_true (WZ S l)
@[simp]theorem avp(d:dz fL):e5 (lb d)=true:=by cases d<;>rfl
@[simp]theorem asl(d:dz fL):cells (lb d)=[lb d]:=by cases d<;>rfl
def iI(d:dz fL)(m:Int):Int:=hg tH d m
theorem x9(d:dz fL)(m:Int)(h:0<=m): -1<=iI d m/\iI d m<=m:=ya Px d m h
def yi(d:dz fL):Prop:=d.wf fun b=>b.t.wf
@[simp]theorem apL:∀l:List (List dj),cK (l.map gy)=l.map gy
 |[]=>rfl
 |x::xs=>by simp[cK,apL xs]
theorem aaV(d:dz fL)(hw:yi d)(m:Int)(a:0<=m)(J:m<=1048576):bL ar 22 [lb d,.int .i64 m] (.int .i64 (iI d m)):=aq7 d (fun p n c e=>by subst e;exact hw) (fun xs e x b m a J=>by subst e;exact aq6 x (hw x b) m a J) m a J
theorem aaX(d:List dj):bL ar 28 [gy d] (gy d):=ari d fun x _=>arh x
theorem aaE(d:List dj):bL ar 18 [gy d,gy d] (.bool true):=aqp d fun x _=>aqo x
theorem aq8(l:dz (dz fL))(hw:∀p n cap,l= .b p n cap->nJ n)(c:∀xs,l= .l xs->∀x∈xs,∀m,0<=m->m<=1048576->bL ar 22 [lb x,.int .i64 m] (.int .i64 (iI x m)))(m:Int)(u:0<=m)(J:m<=1048576):bL ar 23 [l.e 1 lb,.int .i64 m] (.int .i64 (hg iI l m)):=by
 cases l with
 |b p n cap=>
  have s:=hw p n cap rfl;simp only[nJ,lim]at s;have g:m-n<0:=Ω
  simp only[dz.e,hg];clear hw c;refine bs gb Tryz.func23 X5 fun o=>?_;unfold KB;exact cn
 |l l=>
 have c:=c l rfl;clear hw;simp only[dz.e,hg];generalize bq:pY iI l m=R;unfold pY at bq;refine bs gb Tryz.func23 X5 fun o=>?_;unfold KB;have t:l.length<=68719476736:=by simp[e1,eK,eV,lim]at o;omega
 simp;by_cases g:m-l.length<0
 ·rw[if_pos g]at bq;subst bq;exact cn
 rw[if_neg g]at bq;(with_reducible repeat' first|refine al ?_|simp[g]);refine eG [0] (fun i (k:Int)=>[(1,.int .i64 k),(5,.int .i64 i)]) l.length (fun i k=>(0<=k/\k<=1048576)/\kq iI (l.drop i) k=R) (m-l.length) b6 ⟨⟨Ω,Ω⟩,by simpa using bq⟩ (fun k a _=>?_) (fun i k hi a _=>?_)
 ·obtain⟨_,a⟩:=a;rw[List.drop_length]at a;simp only[kq]at a;subst a;exact cn
 ·obtain⟨⟨f,r⟩,a⟩:=a;obtain⟨x,e,j⟩:=ev hi;have key:=c x (eQ e) k f r;have hle:=x9 x k f;rw[uE e]at a;simp only[kq]at a;generalize iI x k=q at key hle a;clear e;by_cases d:q<0
  ·rw[if_pos d]at a;subst a;exact cn
  ·rw[if_neg d]at a;simp[hi,j];((with_reducible repeat' first|refine al ?_|refine aI key ?_|refine aJ key ?_|simp[hi,j,d]|((first|apply bQ|apply bT|apply bS)<;>intro h<;>try simp at h))<;>(try exact cv));all_goals exact bO.rng q hi ⟨⟨Ω,Ω⟩,a⟩ b6
theorem arj(l:List (List dj))(j:∀x∈l,bL ar 28 [gy x] (gy x)):bL ar 29 [.slice 1 .no (l.map gy)] (.slice 1 .no (l.map gy)):=by
 refine bs gb Tryz.func29 amj fun h=>?_;unfold R5;have k:l.length<=68719476736:=by simp[e1,eK,eV,lim]at h;omega
 simp;all_goals first|(refine⟨by unfold lim;omega,?_⟩)|skip
 (with_reducible repeat' first|refine al ?_|simp);have c:∀(S:aB->Prop) (n:Nat),aA S (su n (.slice 5 .nil []))=True:=fun S n=>eq_true (zA S _ pi n);refine hk (fun i (_:Unit)=>⟨[(0,.slice 1 .no (l.map gy)),(3,.row 1 (.loc 0) l.length),(4,.int .i64 i)],[],[(.loc 0,⟨l.length,30,1,some (iY gy (.slice 5 .nil []) l i)⟩)],1,[]⟩) l.length (fun _ _=>True) () ⟨by simp[fresh,aA,av,b0,inObs,Pv.look,pQ,c],dN (by simp[fresh,aA,av,b0,inObs,Pv.look,pQ,c]),dP (by simp[fresh,aA,av,dH,inObs,Pv.look,pQ,c]),Ψ⟩ trivial (fun _ _ _=>?_) (fun i _ hi _ _=>?_)
 ·rw[EW];exact cn
 ·obtain⟨x,d,e⟩:=ev hi;have key:=j x (eQ d);have f:=EX gy (.slice 5 .nil []) l hi;have b:=EY gy (.slice 5 .nil []) l d;have a:∀S:aB->Prop,aA S (iY gy (.slice 5 .nil []) l (i+1)):=fun S=>EL S _ _ _ _ (fun x=>by simp) pi;generalize iY gy (.slice 5 .nil []) l i=r0 at f b;generalize g:iY gy (.slice 5 .nil []) l (i+1)=m at b a;clear d;simp[hi,e];(with_reducible repeat' first|refine al ?_|refine aI key ?_|refine aJ key ?_|simp[hi,e,f,b]);all_goals refine bO.rng () hi trivial ?_
  all_goals rw[g]
  all_goals first
   |exact⟨by simp[fresh,aA,av,b0,inObs,Pv.look,a],dN (by simp[fresh,aA,av,b0,inObs,Pv.look,a]),dP (by simp[fresh,aA,av,dH,inObs,Pv.look,a]),Ψ⟩
   |exact⟨by simp[fresh,aA,av,b0,inObs,Pv.look,a],dN (by simp[fresh,aA,av,b0,inObs,Pv.look,a]),dP (by simp[fresh,aA,av,dH,inObs,Pv.look,a];exact b),Ψ⟩
theorem aqq(l:List (List dj))(c:∀x∈l,bL ar 18 [gy x,gy x] (.bool true)):bL ar 34 [.slice 1 .no (l.map gy),.slice 1 .no (l.map gy)] (.bool true):=by
 refine bs gb Tryz.func34 al9 fun b=>?_;unfold RT;have d:l.length<=68719476736:=by simp[e1,eK,eV,lim]at b;omega
 simp;(with_reducible repeat' first|refine al ?_|simp);refine eG [0,1] (fun i (_:Unit)=>[(5,.int .i64 i)]) l.length (fun _ _=>True) () b6 trivial (fun _ _ _=>?_) (fun i _ hi _ _=>?_)
 ·exact cn
 ·obtain⟨x,a,e⟩:=ev hi;have key:=c x (eQ a);clear a;exact iH
def SG:C:=(aa [bt 6 false] (aa [I 7 0,I 8 1,bp 9 .geq 7 8,I 10 9,cg 10 true 11 0,cg 10 true 12 2,ay 10 true (bp 13 .leq 11 12),ef 14 10 13,I 6 14] .ret))
def KL:C:=(aa [bt 2 false] (.seq (aa [I 9 0,cG 10 118 9,cJ 11 10] (aU 11 (aa [bt 2 false] .ret) .skip)) (.seq (aa [I 12 0,cp 13 12,b1 14 0] (fR 15 14 13 (.seq (.block 1 (aa [cx 16 5 12 14,bg 17 5 16,eg 4 ko,b7 5 4 17] (.seq (aa [h9 18 1 4 4,aH 19 0 1 18,aw 20 1 19,aT 21 .eql 20 1,I 22 21,ay 22 true (h9 23 1 4 4),ay 22 true (aH 24 1 1 23),ay 22 true (aw 25 1 24),ay 22 true (aH 26 0 1 4),ay 22 true (aw 27 1 26),ay 22 true (bp 28 .geq 25 27),ef 29 22 28] (aU 29 (aa [bt 2 false] .ret) .skip)) (aa [h9 30 1 4 4,bg 31 4 30,dU 32 119 [.t 31,(.c (.slice 1 .nil []))],cp 33 32,b1 34 0] (.block 2 (.loop (aa [bp 35 .lss 34 33] (.seq (aU 35 .skip (.exit 2)) (.seq (.block 3 (aa [cx 36 1 32 34,aw 37 1 36,I 6 37] (aa [I 39 0,I 40 6,cq 41 108 39 40,I 38 41,dn 42 0 38,dn 43 1 38,eg 7 eI,b7 4 7 42,I 8 43] (aa [I 44 8] (aU 44 (aa [bt 2 false] .ret) .skip))))) (.region [aT 45 .add 34 1,I 34 45])))))))))) (.region [aT 46 .add 14 1,I 14 46])))) (aa [bt 2 true] .ret))))
def SQ:C:=(aa [eg 4 eI,bt 5 false] (.seq (aa [I 8 0,cp 9 8,b1 10 0] (fR 11 10 9 (.seq (.block 1 (aa [cx 12 5 8 10,bg 13 5 12,eg 7 ko,b7 5 7 13] (aa [aH 14 0 1 7,aw 15 1 14,I 16 1,bp 17 .eql 15 16] (aU 17 (aa [h9 18 1 4 7,bg 19 4 18,b7 4 4 19,bt 5 true] .ret) .skip)))) (.region [aT 20 .add 10 1,I 10 20])))) (aa [mf 21 eI [],b7 4 4 21,bt 5 false] .ret)))
def SR:C:=(aa [dc 3 1,fk 4 5] (aa [I 7 0,cp 8 7,I 5 8] (.seq (.block 0 (.loop (.seq (.seq (.drawn true 38 [I 9 5,aT 10 .gtr 9 0,I 11 10,cg 11 true 12 0,cg 11 true 13 5,ay 11 true (aT 14 .sub 13 1),ay 11 true (cx 15 5 12 14),ay 11 true (aH 16 0 1 15),ay 11 true (aw 17 1 16),ay 11 true (aH 18 0 1 3),ay 11 true (aw 19 1 18),ay 11 true (bp 20 .gtr 17 19),ef 21 11 20]) (aU 21 .skip (.exit 0))) (.block 1 (.region [I 22 5,aT 23 .sub 22 1,I 5 23]))))) (aa [eD 24 5 74 [],I 25 0,I 26 5,bG 27 (.lsl 5 (.t 25) none (some (.t 26))),hW 28 5 74 24 27,I 6 28] (aa [I 29 6,bg 30 5 3,eD 31 5 74 [.t 30],hW 32 5 74 29 31,I 6 32] (aa [I 33 6,I 34 0,I 35 5,bG 36 (.lsl 5 (.t 34) (some (.t 35)) none),hW 37 5 74 33 36,I 4 37] .ret))))))
def GF:C:=(aa [dc 3 1,eg 4 eI] (.seq (aa [aH 7 0 1 3,aw 8 1 7,aT 9 .eql 8 1] (aU 9 (aa [I 11 0,aH 12 1 1 3,aw 13 1 12,cq 14 108 11 13,I 10 14,dn 15 0 10,dn 16 1 10,eg 5 eI,b7 4 5 15,I 6 16] (aa [I 17 6] (aU 17 (aa [bg 18 4 5,b7 4 4 18] .ret) .skip))) .skip)) (.seq (aa [aH 19 0 1 3,aw 20 1 19,aT 21 .eql 20 4] (aU 21 (.seq (.drawn true 36 [I 22 0,aH 23 3 1 3,aw 24 1 23,im 25 4 24 0,bg 26 4 25,cq 27 111 22 26,I 28 0,aH 29 3 1 3,aw 30 1 29,im 31 4 30 1,bg 32 4 31,cq 33 111 28 32,cq 34 95 27 33,b7 4 4 34]) .ret) .skip)) (aa [bg 35 4 3,b7 4 4 35] .ret))))
def SU:C:=(aa [bt 2 false] (.seq (aa [I 5 0,cp 6 5,b1 7 0] (fR 8 7 6 (.seq (.block 1 (aa [I 9 7,cx 10 5 5 7,bg 11 5 10,eg 4 ko,I 3 9,b7 5 4 11] (.seq (.drawn true 41 [I 12 3,aT 13 .gtr 12 0,I 14 13,cg 14 true 15 0,cg 14 true 16 3,ay 14 true (aT 17 .sub 16 1),ay 14 true (cx 18 5 15 17),ay 14 true (aH 19 0 1 18),ay 14 true (aw 20 1 19),ay 14 true (aH 21 0 1 4),ay 14 true (aw 22 1 21),ay 14 true (bp 23 .geq 20 22),ef 24 14 23,I 25 24,ay 25 false (aH 26 0 1 4),ay 25 false (aw 27 1 26),ay 25 false (dU 28 69 [.t 27,(gi 0),(gi 100000)]),ay 25 false (cJ 29 28),dy 30 25 29,I 31 30,ay 31 false (h9 32 1 4 4),ay 31 false (bg 33 4 32),ay 31 false (cG 34 143 33),ay 31 false (cJ 35 34),dy 36 31 35]) (aU 36 (aa [bt 2 false] .ret) .skip)))) (.region [aT 37 .add 7 1,I 7 37])))) (aa [I 38 0,cp 39 38,aT 40 .leq 39 400,I 2 40] .ret)))
def AK:C:=(aa [dc 2 0,fk 4 1] (.seq (aa [aH 7 0 1 2,aw 8 1 7,aT 9 .eql 8 1] (aU 9 (aa [I 10 1,aH 11 1 1 2,aw 12 1 11,cq 13 160 10 12,I 4 13] .ret) .skip)) (.seq (aa [aH 14 3 1 2,aw 15 1 14,cp 16 15,b1 17 0] (fR 18 17 16 (.seq (.block 1 (aa [cx 19 4 15 17,bg 20 4 19,eg 6 eI,b7 4 6 20] (.region [bg 21 4 6,I 22 1,cq 23 119 21 22,I 1 23]))) (.region [aT 24 .add 17 1,I 17 24])))) (aa [I 25 1,I 4 25] .ret))))
def SA:C:=(aa [bt 2 false] (.seq (aa [b1 3 0] (.block 0 (.loop (.seq (aa [I 5 3,I 6 0,bG 7 (.slen (.t 6)),bp 8 .lss 5 7] (aU 8 .skip (.exit 0))) (.seq (.block 1 (aa [I 11 0,I 12 3,bG 13 (.sidx (.t 11) (.t 12)),bG 14 (.bin .geq false (.t 13) (.c (.int .u8 97))),I 15 14,cg 15 true 16 0,cg 15 true 17 3,ay 15 true (bG 18 (.sidx (.t 16) (.t 17))),ay 15 true (bG 19 (.bin .leq false (.t 18) (.c (.int .u8 122)))),ef 20 15 19,I 4 20] (aa [I 21 4,cJ 22 21,I 23 22,cg 23 true 24 3,ay 23 true (aT 25 .eql 24 0),cg 23 true 26 25,cg 26 false 27 0,cg 26 false 28 3,ay 26 false (bG 29 (.sidx (.t 27) (.t 28))),ay 26 false (bG 30 (.bin .neq false (.t 29) (.c (.int .u8 45)))),cg 26 false 31 30,cg 31 true 32 0,cg 31 true 33 3,ay 31 true (bG 34 (.sidx (.t 32) (.t 33))),ay 31 true (bG 35 (.conv .i64 (.t 34))),ay 31 true (dU 36 69 [.t 35,(gi 48),(gi 57)]),ay 31 true (cJ 37 36),ay 26 false (ef 38 31 37),ay 23 true (dy 39 26 38),ef 40 23 39] (aU 40 (aa [bt 2 false] .ret) .skip)))) (.region [I 9 3,aT 10 .add 9 1,I 3 10])))))) (aa [I 41 0,bG 42 (.slen (.t 41)),dU 43 69 [.t 42,(gi 1),(gi 12)],I 2 43] .ret)))
def SX:C:=(aa [fk 4 5,bt 5 false] (aa [eD 10 4 71 [],I 6 10] (aa [eD 11 4 71 [],I 7 11] (.seq (aa [I 12 1,cp 13 12,b1 14 0] (fR 15 14 13 (.seq (.block 1 (aa [cx 16 5 12 14,bg 17 5 16,eg 9 ko,b7 5 9 17] (aa [I 18 6,aH 19 0 1 9,aw 20 1 19,cG 21 40 20,eD 22 4 71 [.t 21],hW 23 4 71 18 22,I 6 23] (.region [I 24 7,h9 25 1 4 9,bg 26 4 25,eD 27 4 71 [.t 26],hW 28 4 71 24 27,I 7 28])))) (.region [aT 29 .add 14 1,I 14 29])))) (aa [I 30 0,I 31 6,I 32 7,dU 33 163 [.t 30,.t 31,.t 32],dn 34 0 33,dn 35 1 33,I 4 34,I 5 35] .ret)))))
def SF:C:=(aa [dc 1 0,bt 2 false] (aa [bg 3 4 1,dU 4 175 [.t 3,(gi 5000)],aT 5 .leq 4 5000,I 6 5,ay 6 true (bg 7 4 1),ay 6 true (cG 8 176 7),ef 9 6 8,I 2 9] .ret))
def SJ:C:=(aa [fk 4 1] (aa [I 7 0,cp 8 7,I 5 8] (.seq (.block 0 (.loop (.seq (aa [I 9 5,aT 10 .gtr 9 0,I 11 10,cg 11 true 12 0,cg 11 true 13 5,ay 11 true (aT 14 .sub 13 1),ay 11 true (cx 15 1 12 14),ay 11 true (aw 16 1 15),cg 11 true 17 1,ay 11 true (bp 18 .geq 16 17),ef 19 11 18] (aU 19 .skip (.exit 0))) (.block 1 (.region [I 20 5,aT 21 .sub 20 1,I 5 21]))))) (.seq (aa [I 22 5,I 23 0,cp 24 23,bp 25 .lss 22 24,I 26 25,cg 26 true 27 0,cg 26 true 28 5,ay 26 true (cx 29 1 27 28),ay 26 true (aw 30 1 29),cg 26 true 31 1,ay 26 true (bp 32 .eql 30 31),ef 33 26 32] (aU 33 (aa [I 34 0,I 4 34] .ret) .skip)) (aa [eD 35 1 3 [],I 36 0,I 37 5,bG 38 (.lsl 1 (.t 36) none (some (.t 37))),hW 39 1 3 35 38,I 6 39] (aa [I 40 6,I 41 1,eD 42 1 3 [.t 41],hW 43 1 3 40 42,I 6 43] (aa [I 44 6,I 45 0,I 46 5,bG 47 (.lsl 1 (.t 45) (some (.t 46)) none),hW 48 1 3 44 47,I 4 48] .ret)))))))
def GG:C:=(aa [dc 3 1,eg 4 eI] (.seq (aa [aH 7 0 1 3,aw 8 1 7,aT 9 .eql 8 1] (aU 9 (aa [I 11 0,aH 12 1 1 3,aw 13 1 12,cq 14 108 11 13,I 10 14,dn 15 0 10,dn 16 1 10,eg 5 eI,b7 4 5 15,I 6 16] (aa [I 17 6] (aU 17 (aa [bg 18 4 5,b7 4 4 18] .ret) .skip))) .skip)) (aa [bg 19 4 3,b7 4 4 19] .ret)))
def SV:C:=(aa [fk 6 5,bt 7 false] (.seq (aa [I 12 1,cp 13 12,b1 14 0] (fR 15 14 13 (.seq (.block 1 (aa [I 16 14,cx 17 4 12 14,bg 18 4 17,eg 9 eI,I 8 16,b7 4 9 18] (.seq (.drawn true 34 [I 20 0,bg 21 4 9,I 22 2,I 23 8,cx 24 4 22 23,bg 25 4 24,dU 26 183 [.t 20,.t 21,.t 25],I 19 26,dn 27 0 19,dn 28 1 19,I 10 27,I 11 28]) (.seq (aa [I 29 11,cJ 30 29] (aU 30 (aa [fk 6 5,bt 7 false] .ret) .skip)) (.region [I 31 10,I 0 31]))))) (.region [aT 32 .add 14 1,I 14 32])))) (aa [I 33 0,I 6 33,bt 7 true] .ret)))
def SH:C:=(aa [dc 2 0,b1 4 0] (aa [b1 5 1] (.seq (aa [aH 8 3 1 2,aw 9 1 8,cp 10 9,b1 11 0] (fR 12 11 10 (.seq (.block 1 (aa [cx 13 4 9 11,bg 14 4 13,eg 7 eI,b7 4 7 14] (.seq (aa [I 15 5,I 16 1,bp 17 .gtr 15 16] (aU 17 (aa [I 18 5,I 4 18] .ret) .skip)) (.region [I 19 5,bg 20 4 7,I 21 1,I 22 5,bp 23 .sub 21 22,cq 24 175 20 23,bp 25 .add 19 24,I 5 25])))) (.region [aT 26 .add 11 1,I 11 26])))) (aa [I 27 5,I 4 27] .ret))))
def mL:C:=(aa [dc 1 0,bt 2 false] (.seq (aa (aH 3 0 1 1::aw 4 1 3::aT 5 .neq 4 1::I 6 5::ay 6 true (aH 7 0 1 1)::ay 6 true (aw 8 1 7)::ay 6 true (aT 9 .neq 8 3)::ef 10 6 9::I 11 10::ay 11 true (aH 12 1 1 1)::ay 11 true (aw 13 1 12)::ay 11 true (aT 14 .neq 13 0)::ef 15 11 14::I 16 15::ay 16 false (aH 17 0 1 1)::ay 16 false (aw 18 1 17)::ay 16 false (aT 19 .neq 18 2)::cg 16 false 20 19::ay 20 true (aH 21 2 1 1)::ay 20 true (aw 22 1 21)::yj 20 true 23 (.bin .neq false (.t 22) (.c (.str [])))::ay 16 false (ef 24 20 23)::dy 25 16 24::I 26 25::ay 26 false (aH 27 0 1 1)::ay 26 false (aw 28 1 27)::ay 26 false (aT 29 .neq 28 4)::cg 26 false 30 29::ay 30 true (aH 31 3 1 1)::ay 30 true (aw 32 1 31)::ay 30 true (cp 33 32)::ay 30 true (aT 34 .gtr 33 0)::ay 26 false (ef 35 30 34)::dy 36 26 35::[]) (aU 36 (aa [bt 2 false] .ret) .skip)) (.seq (aa [aH 37 0 1 1,aw 38 1 37] (.block 0 (aa [aT 40 .eql 38 0,I 39 40] (aU 39 (aa [bt 2 true] .ret) (aa [aT 42 .eql 38 1,I 41 42] (aU 41 (aa [aH 43 1 1 1,aw 44 1 43,dU 45 69 [.t 44,(gi 0),(gi 100000)],I 2 45] .ret) (aa [aT 47 .eql 38 2,I 46 47] (aU 46 (aa [aH 48 2 1 1,aw 49 1 48,cG 50 121 49,I 2 50] .ret) (aa [aT 52 .eql 38 3,I 51 52] (aU 51 (aa [aH 53 1 1 1,aw 54 1 53,dU 55 69 [.t 54,(gi (-1000000000)),(gi 1000000000)],I 2 55] .ret) (aa [aT 57 .eql 38 4,I 56 57] (aU 56 (aa [aH 58 3 1 1,aw 59 1 58,cp 60 59,aT 61 .eql 60 2,I 62 61,ay 62 true (aH 63 3 1 1),ay 62 true (aw 64 1 63),ay 62 true (im 65 4 64 0),ay 62 true (bg 66 4 65),ay 62 true (cG 67 176 66),ef 68 62 67,I 69 68,ay 69 true (aH 70 3 1 1),ay 69 true (aw 71 1 70),ay 69 true (im 72 4 71 1),ay 69 true (bg 73 4 72),ay 69 true (cG 74 176 73),ef 75 69 74,I 2 75] .ret) .skip)))))))))))) (aa [bt 2 false] .ret))))
def tW:C:=(aa [dc 4 1,dc 5 2,fk 6 5,bt 7 false] (aa [I 12 0,bg 13 4 4,cq 14 161 12 13,b7 4 4 14] (aa [I 15 0,bg 16 4 5,cq 17 161 15 16,b7 4 5 17] (.seq (aa [aH 18 0 1 4,aw 19 1 18,aT 20 .eql 19 1,I 21 20,ay 21 true (aH 22 0 1 5),ay 21 true (aw 23 1 22),ay 21 true (aT 24 .eql 23 1),ef 25 21 24,I 26 25,ay 26 true (aH 27 1 1 4),ay 26 true (aw 28 1 27),ay 26 true (aH 29 1 1 5),ay 26 true (aw 30 1 29),ay 26 true (bp 31 .lss 28 30),ef 32 26 31] (aU 32 (aa [I 33 0,aH 34 1 1 5,aw 35 1 34,bg 36 4 4,dU 37 205 [.t 33,.t 35,.t 36],dn 38 0 37,dn 39 1 37,I 6 38,I 7 39] .ret) .skip)) (.seq (aa [aH 40 0 1 4,aw 41 1 40,aT 42 .eql 41 1,I 43 42,ay 43 true (aH 44 0 1 5),ay 43 true (aw 45 1 44),ay 43 true (aT 46 .eql 45 1),ef 47 43 46,I 48 47,ay 48 true (aH 49 1 1 4),ay 48 true (aw 50 1 49),ay 48 true (aH 51 1 1 5),ay 48 true (aw 52 1 51),ay 48 true (bp 53 .eql 50 52),ef 54 48 53] (aU 54 (aa [I 55 0,I 6 55,bt 7 true] .ret) .skip)) (.seq (aa [aH 56 0 1 4,aw 57 1 56,aT 58 .eql 57 1] (aU 58 (aa [I 59 0,aH 60 1 1 4,aw 61 1 60,bg 62 4 5,dU 63 205 [.t 59,.t 61,.t 62],dn 64 0 63,dn 65 1 63,I 6 64,I 7 65] .ret) .skip)) (.seq (aa [aH 66 0 1 5,aw 67 1 66,aT 68 .eql 67 1] (aU 68 (aa [I 69 0,aH 70 1 1 5,aw 71 1 70,bg 72 4 4,dU 73 205 [.t 69,.t 71,.t 72],dn 74 0 73,dn 75 1 73,I 6 74,I 7 75] .ret) .skip)) (.seq (aa [aH 76 0 1 4,aw 77 1 76,aH 78 0 1 5,aw 79 1 78,bp 80 .neq 77 79,I 81 80,ay 81 false (aH 82 1 1 4),ay 81 false (aw 83 1 82),ay 81 false (aH 84 1 1 5),ay 81 false (aw 85 1 84),ay 81 false (bp 86 .neq 83 85),dy 87 81 86,I 88 87,ay 88 false (aH 89 2 1 4),ay 88 false (aw 90 1 89),ay 88 false (aH 91 2 1 5),ay 88 false (aw 92 1 91),ay 88 false (bp 93 .neq 90 92),dy 94 88 93] (aU 94 (aa [fk 6 5,bt 7 false] .ret) .skip)) (.seq (aa [aH 95 3 1 4,aw 96 1 95,cp 97 96,b1 98 0] (fR 99 98 97 (.seq (.block 1 (aa [I 100 98,cx 101 4 96 98,bg 102 4 101,eg 9 eI,I 8 100,b7 4 9 102] (.seq (.drawn true 119 [I 104 0,bg 105 4 9,aH 106 3 1 5,aw 107 1 106,I 108 8,cx 109 4 107 108,bg 110 4 109,dU 111 183 [.t 104,.t 105,.t 110],I 103 111,dn 112 0 103,dn 113 1 103,I 10 112,I 11 113]) (.seq (aa [I 114 11,cJ 115 114] (aU 115 (aa [fk 6 5,bt 7 false] .ret) .skip)) (.region [I 116 10,I 0 116]))))) (.region [aT 117 .add 98 1,I 98 117])))) (aa [I 118 0,I 6 118,bt 7 true] .ret))))))))))
def SP:C:=(aa [dc 3 1,eg 4 eI,bt 5 false] (aa [I 7 0,bg 8 4 3,cq 9 111 7 8,eg 6 eI,b7 4 6 9] (.seq (.drawn true 13 [bg 10 4 6,bg 11 4 6,cG 12 206 11,b7 4 4 10,I 5 12]) .ret)))
def Df:C:=(aa [dc 5 2,fk 6 5,bt 7 false] (aa [I 15 0,bg 16 4 5,cq 17 184 15 16,I 14 17,dn 18 0 14,dn 19 1 14,eg 8 eI,b7 4 8 18,I 9 19] (.seq (aa [I 20 9,cJ 21 20,I 22 21,cg 22 false 23 1,ay 22 false (bg 24 4 8),ay 22 false (cq 25 231 23 24),dy 26 22 25,I 27 26,cg 27 false 28 0,ay 27 false (cp 29 28),ay 27 false (aT 30 .geq 29 400),dy 31 27 30] (aU 31 (aa [fk 6 5,bt 7 false] .ret) .skip)) (aa [eD 32 5 74 [],I 10 32] (.seq (aa [I 33 0,cp 34 33,b1 35 0] (fR 36 35 34 (.seq (.block 1 (aa [cx 37 5 33 35,bg 38 5 37,eg 12 ko,b7 5 12 38] (aa [h9 39 1 4 12,bg 40 4 39,I 41 1,bg 42 4 8,dU 43 232 [.t 40,.t 41,.t 42],eg 13 eI,b7 4 13 43] (.seq (aa [bg 44 4 13,cG 45 206 44,cJ 46 45] (aU 46 (aa [fk 6 5,bt 7 false] .ret) .skip)) (.region [I 47 10,aH 48 0 1 12,aw 49 1 48,bg 50 4 13,mf 51 ko [(0,1,(.t 49)),(1,4,(.t 50))],eD 52 5 74 [.t 51],hW 53 5 74 47 52,I 10 53]))))) (.region [aT 54 .add 35 1,I 35 54])))) (aa [I 55 10,I 56 1,bg 57 4 8,mf 58 ko [(0,1,(.t 56)),(1,4,(.t 57))],cq 59 110 55 58,I 6 59,bt 7 true] .ret))))))
def SI:C:=(aa [dc 1 0,bt 2 false] (aa [bg 3 4 1,dU 4 175 [.t 3,(gi 5000)],aT 5 .leq 4 5000,I 2 5] .ret))
def SK:C:=(aa [dc 3 1,bt 4 false] (.seq (aa [aH 7 3 1 3,aw 8 1 7,cp 9 8,b1 10 0] (fR 11 10 9 (.seq (.block 1 (aa [cx 12 4 8 10,bg 13 4 12,eg 6 eI,b7 4 6 13] (aa [I 14 0,bg 15 4 6,cq 16 231 14 15] (aU 16 (aa [bt 4 true] .ret) .skip)))) (.region [aT 17 .add 10 1,I 10 17])))) (aa [aH 18 0 1 3,aw 19 1 18,aT 20 .eql 19 1,I 21 20,ay 21 true (aH 22 1 1 3),ay 21 true (aw 23 1 22),cg 21 true 24 0,ay 21 true (bp 25 .eql 23 24),ef 26 21 25,I 4 26] .ret)))
def GD:C:=(aa [dc 3 0,dc 5 2,eg 6 eI] (.seq (aa [aH 7 0 1 3,aw 8 1 7,aT 9 .eql 8 1,I 10 9,ay 10 true (aH 11 1 1 3),ay 10 true (aw 12 1 11),cg 10 true 13 1,ay 10 true (bp 14 .eql 12 13),ef 15 10 14] (aU 15 (aa [bg 16 4 5,b7 4 6 16] .ret) .skip)) (.seq (aa [aH 17 0 1 3,aw 18 1 17,aT 19 .eql 18 4] (aU 19 (.seq (.drawn true 36 [aH 20 3 1 3,aw 21 1 20,im 22 4 21 0,bg 23 4 22,I 24 1,bg 25 4 5,dU 26 232 [.t 23,.t 24,.t 25],aH 27 3 1 3,aw 28 1 27,im 29 4 28 1,bg 30 4 29,I 31 1,bg 32 4 5,dU 33 232 [.t 30,.t 31,.t 32],cq 34 95 26 33,b7 4 6 34]) .ret) .skip)) (aa [bg 35 4 3,b7 4 6 35] .ret))))
def lR:List (Nat×dE):=[
 (3,⟨1,8,.int .i64,.int .i64 0⟩),
 (5,⟨1,1,.int .u8,.int .u8 0⟩),
 (9,⟨1,16,.str,.str []⟩),
 (30,⟨1,24,.slice 74,.slice 5 .nil []⟩),
 (44,⟨1,24,.slice 71,.slice 4 .nil []⟩),
 (71,⟨4,56,.struct [(0,3),(1,3),(2,9),(3,44)],.agg [.int .i64 0,.int .i64 0,.str [],.slice 4 .nil []]⟩),
 (74,⟨5,64,.struct [(0,3),(1,71)],.agg [.int .i64 0,.int .i64 0,.int .i64 0,.str [],.slice 4 .nil []]⟩),
 (128,⟨1,24,.slice 3,.slice 1 .nil []⟩)]
theorem e7:e6 ar lR=true:=an
theorem amT:b4 lR SG [.tmp 6] 3 Tryz.f69=true:=an
theorem Ya:b4 lR KL [.tmp 2] 1 Tryz.f70=true:=an
theorem am3:b4 lR SQ [.cell 4 true 4,.tmp 5] 2 Tryz.f108=true:=an
theorem am4:b4 lR SR [.tmp 4] 2 Tryz.f110=true:=an
theorem N5:b4 lR GF [.cell 4 true 4] 2 Tryz.f111=true:=an
theorem am5:b4 lR SU [.tmp 2] 1 Tryz.f118=true:=an
theorem E6:b4 lR AK [.tmp 4] 2 Tryz.f119=true:=an
theorem amN:b4 lR SA [.tmp 2] 1 Tryz.f121=true:=an
theorem am7:b4 lR SX [.tmp 4,.tmp 5] 2 Tryz.f126=true:=an
theorem amS:b4 lR SF [.tmp 2] 1 Tryz.f143=true:=an
theorem amW:b4 lR SJ [.tmp 4] 2 Tryz.f160=true:=an
theorem N6:b4 lR GG [.cell 4 true 4] 2 Tryz.f161=true:=an
theorem am6:b4 lR SV [.tmp 6,.tmp 7] 3 Tryz.f163=true:=an
theorem amU:b4 lR SH [.tmp 4] 2 Tryz.f175=true:=an
theorem nE:b4 lR mL [.tmp 2] 1 Tryz.f176=true:=an
theorem we:b4 lR tW [.tmp 6,.tmp 7] 3 Tryz.f183=true:=an
theorem am2:b4 lR SP [.cell 4 true 4,.tmp 5] 2 Tryz.f184=true:=an
theorem IB:b4 lR Df [.tmp 6,.tmp 7] 3 Tryz.f205=true:=an
theorem amV:b4 lR SI [.tmp 2] 1 Tryz.f206=true:=an
theorem amX:b4 lR SK [.tmp 4] 2 Tryz.f231=true:=an
theorem N4:b4 lR GD [.cell 6 true 4] 3 Tryz.f232=true:=an
mutual
def mo:b2->Int->Int
 | .mk _ _ _ args,m=>cntLS args 1 m
def cntLS:List b2->Int->Int->Int
 |[],n,_=>n
 |x::xs,n,m=>if m<n then n else cntLS xs (n+mo x (m-n)) m
end
mutual
theorem KS:∀(t:b2) (m:Int),0<=m->1<=mo t m/\mo t m<=m+1
 | .mk _ _ _ args,m,h=>by simp only[mo];exact Tm args 1 m h Ω Ω
theorem Tm:∀(l:List b2) (n m:Int),0<=m->1<=n->n<=m+1->1<=cntLS l n m/\cntLS l n m<=m+1
 |[],n,m,_,J,U=>by simp only[cntLS];exact⟨J,U⟩
 |x::xs,n,m,a,J,U=>by
  simp only[cntLS];split
  ·exact⟨J,U⟩
  ·have:=KS x (m-n) Ω;exact Tm xs _ m a Ω Ω
end
theorem GL:∀(t:T) (m:Int),0<=m->(mo t.tm m<=m↔(t.size:Int)<=m)/\((t.size:Int)<=m->mo t.tm m=t.size)
 | .pair a b,m,h=>by
  have i:=T.size_pos a;have ae:=T.size_pos b;simp only[T.tm,mo,cntLS,T.size];by_cases J:m<1
  ·rw[if_pos J];exact⟨Ω,fun h=>Ω⟩
  ·rw[if_neg J];obtain⟨c,a2⟩:=GL a (m-1) Ω;have a3:=KS a.tm (m-1) Ω;by_cases U:(a.size:Int)<=m-1
   ·have e:=a2 U;rw[e];by_cases f:m<1+(a.size:Int)
    ·omega
    ·rw[if_neg f];obtain⟨g,d⟩:=GL b (m-(1+a.size)) Ω;refine⟨Ω,fun h=>?_⟩;rw[d Ω];omega
   ·have:¬mo a.tm (m-1)<=m-1:=fun h=>U (c.1 h);rw[if_pos Ω];exact⟨Ω,fun h=>Ω⟩
 | .nil,m,h=>by simp[T.tm,mo,cntLS,T.size]
 | .var _,m,h=>by simp[T.tm,mo,cntLS,T.size]
 | .sym _,m,h=>by simp[T.tm,mo,cntLS,T.size]
 | .num _,m,h=>by simp[T.tm,mo,cntLS,T.size]
theorem ade(t:b2)(m:Int):mo t m=cntLS t.args 1 m:=by cases t;rfl
theorem aaH(t:b2):∀m:Int,0<=m->m<=1000000->bL ar 175 [enc t,.int .i64 m] (.int .i64 (mo t m)):=by
 suffices H:∀(k:Nat) (t:b2),t.sz<=k->∀m:Int,0<=m->m<=1000000->bL ar 175 [enc t,.int .i64 m] (.int .i64 (mo t m))from H _ t (eR _)
 intro k;induction k with
 |zero=>intro t aM;cases t;simp[b2.sz]at aM
 |succ k d=>
  intro t aM m o J;refine bs e7 Tryz.func175 amU fun e=>?_;unfold SH;have l:t.args.length<=68719476736:=by rw[AS]at e;simp[e1,eK,eV,lim]at e;omega
  simp;refine eG [1,9,10] (fun i (n:Int)=>[(5,.int .i64 n),(11,.int .i64 i)]) t.args.length (fun i n=>(1<=n/\n<=m+1)/\cntLS (t.args.drop i) n m=mo t m) 1 b6 ⟨Ω,by simp[ade]⟩ (fun n a _=>?_) (fun i n hi a _=>?_)
  ·simp;(with_reducible repeat' first|refine al ?_|simp);simp[bE,aX,a1,aV];have:=a.2;simp[cntLS]at this;exact this
  ·obtain⟨⟨j,p⟩,a⟩:=a;obtain⟨x,f,c⟩:=ev hi;have g:t.args.drop i=x::t.args.drop (i+1):=by rw[mh hi,c]
   have b:x.sz<=k:=by have:=PA (eQ f);omega
   rw[g]at a;simp only[cntLS]at a;simp[hi,c];by_cases ae:m<n
   ·rw[if_pos ae]at a;(with_reducible repeat' first|refine al ?_|simp[ae]);simp[bE,aX,a1,aV];exact a
   ·rw[if_neg ae]at a;have ax:=KS x (m-n) Ω;((with_reducible repeat' first|refine al ?_|refine aI (d x b (m-n) Ω Ω) ?_|refine aJ (d x b (m-n) Ω Ω) ?_|simp[ae]|((first|apply bQ|apply bT|apply bS)<;>intro h<;>try simp at h))<;>(try exact cv));exact bO.rng (n+mo x (m-n)) hi ⟨Ω,a⟩ b6
theorem CK(t:T):bL ar 206 [t.e] (.bool (decide (t.size<=5000))):=by
 have ax:=(GL t 5000 Ω).1;have key:=aaH t.tm 5000 Ω Ω;rw[w6]at key;refine bs e7 Tryz.func206 amV fun a=>?_;unfold SI;simp;(with_reducible repeat' first|refine al ?_|refine aI key ?_|refine aJ key ?_|simp);simp[bE,aX,a1,aV];have:(mo t.tm 5000<=5000)=(t.size<=5000):=by rw[ax];simp;omega
 simp[this]
def ajH(l:List au)(v:Int)(k:Nat)(st:bh):Prop:=∃i:Nat,i<=l.length/\k=l.length-i/\dx l v=dx (l.drop i) v/\st=⟨[(1,.int .i64 v),(4,.ptr (.loc 0) 0),(8,.slice 5 .no (l.map au.e)),(9,.int .i64 l.length),(10,.int .i64 i)],[(.loc 0,[.int .i64 0,.int .i64 0,.str [],.slice 4 .nil []])],[],1,[]⟩
theorem wM(l:List au)(v:Int)(g:l.length<=1000000):bL ar 108 [.slice 5 .no (l.map au.e),.int .i64 v] (.tuple [((dx l v).getD .nil).e,.bool (dx l v).isSome]):=by
 refine bs e7 Tryz.func108 am3 fun m=>?_;unfold SQ;simp;refine vr (ajH l v) l.length _ b6 ⟨0,Ω,rfl,Ψ,rfl⟩ ?_;rintro k st ⟨i,hi,j,aY,rfl⟩ e f;clear e f;by_cases a:i<l.length
 ·obtain⟨b,ae⟩:∃b,l[i]? =some b:=⟨_,cl a⟩;have d:l.drop i=b::l.drop (i+1):=by rw[mh a];rw[cl a]at ae;simp at ae;rw[ae]
  have c:∀h,l[i]'h=b:=fun h=>by rw[cl h]at ae;simpa using ae
  simp[c,a];(with_reducible repeat' first|((first|apply bQ|apply bT|apply bS)<;>intro h<;>try simp at h)|refine al ?_|simp[c])
  ·have:dx l v=some b.t:=by rw[aY,d];simp[dx,h]
   simp[bE,aX,a1,aV];simp[this]
  ·refine bO.next (l.length-(i+1)) Ω ⟨i+1,Ω,rfl,?_,rfl⟩ b6;rw[aY,d];simp[dx,h]
 ·have:dx l v=none:=by rw[aY,List.drop_of_length_le Ω];simp[dx]
  simp[a];(with_reducible repeat' first|((first|apply bQ|apply bT|apply bS)<;>intro h<;>try simp at h)|refine al ?_|simp);simp[bE,aX,a1,aV];simp[this]
theorem aqF(l:List au)(e:l.length<=1000000)(t:T):bL ar 111 [.slice 5 .no (l.map au.e),t.e] (t.sub (dx l)).e:=by
 induction t with
 |pair a b d c=>
  refine bs e7 Tryz.func111 N5 fun f=>?_;unfold GF;simp;(with_reducible repeat' first|refine al ?_|refine aI d ?_|refine aJ d ?_|refine aI c ?_|refine aJ c ?_|refine aI (JI _ _) ?_|refine aJ (JI _ _) ?_|simp);all_goals simp[bE,aX,a1,aV]
  all_goals simp[T.sub]
 |var n=>
  refine bs e7 Tryz.func111 N5 fun f=>?_;unfold GF;simp;((with_reducible repeat' first|refine al ?_|refine aI (wM l n e) ?_|refine aJ (wM l n e) ?_|simp|((first|apply bQ|apply bT|apply bS)<;>intro h<;>try simp at h))<;>(try exact cv));all_goals simp[bE,aX,a1,aV]
  all_goals cases ae:dx l n<;>simp_all[T.sub]
 |_=>
  refine bs e7 Tryz.func111 N5 fun f=>?_;unfold GF;simp;(with_reducible repeat' first|refine al ?_|simp);all_goals simp[bE,aX,a1,aV]
  all_goals simp[T.sub]
theorem aaJ(l:List au)(a:l.length<=1000000)(t:T):bL ar 111 [.slice 5 .no (l.map au.e),t.e] (t.ap (cI l)).e:=by have:=aqF l a t;rw[ZY]at this;exact this
theorem PN(l:List au)(a:l.length<=1000000)(t:T):bL ar 184 [.slice 5 .no (l.map au.e),t.e] (.tuple [(t.ap (cI l)).e,.bool (decide ((t.ap (cI l)).size<=5000))]):=by refine bs e7 Tryz.func184 am2 fun b=>?_;unfold SP;simp;(with_reducible repeat' first|refine al ?_|refine aI (aaJ l a t) ?_|refine aJ (aaJ l a t) ?_|refine aI (CK _) ?_|refine aJ (CK _) ?_|simp);simp[bE,aX,a1,aV]
def xR(v:Int)(l:List T):Bool:=l.any (T.occ v)
theorem XR(v:Int)(t:T):t.occ v=(xR v t.args||(t.kind==1&&t.int==v)):=by cases t<;>simp[T.occ,xR]
theorem yg(v:Int)(t:T):bL ar 231 [.int .i64 v,t.e] (.bool (t.occ v)):=by
 suffices H:∀(k:Nat) (t:T),t.size<=k->bL ar 231 [.int .i64 v,t.e] (.bool (t.occ v))from H _ t (eR _)
 intro k;induction k with
 |zero=>intro t aM;have:=T.size_pos t;omega
 |succ k d=>
  intro t aM;have j:t.args.length<=2:=by cases t<;>simp
  refine bs e7 Tryz.func231 amX fun m=>?_;unfold SK;simp;refine eG [0,3,8,9] (fun i (_:Unit)=>[(10,.int .i64 i)]) t.args.length (fun i _=>xR v (t.args.drop i)=xR v t.args) () b6 Ψ (fun _ a _=>?_) (fun i _ hi a _=>?_)
  ·have c:xR v t.args=false:=by rw[<-a];simp[xR]
   rw[XR,c];simp;((with_reducible repeat' first|refine al ?_|simp|((first|apply bQ|apply bT|apply bS)<;>intro h<;>try simp at h))<;>(try exact cv));all_goals simp[bE,aX,a1,aV]
   all_goals simp_all
  ·obtain⟨x,f,e⟩:=ev hi;have g:t.args.drop i=x::t.args.drop (i+1):=by rw[mh hi,e]
   have b:x.size<=k:=by have hm:=eQ f;have:=T.size_pos x;cases t<;>simp at hm;rcases hm with rfl|rfl<;>simp[T.size]at aM<;>omega
   simp only[g,xR,List.any_cons]at a;simp[hi,e];cases ak:x.occ v with
   |true=>
    rw[ak]at a;simp at a;have c:t.occ v=true:=by rw[XR];simp[xR];left;simpa using a
    (with_reducible repeat' first|refine al ?_|refine aI (d x b) ?_|refine aJ (d x b) ?_|simp[ak]);simp[bE,aX,a1,aV];simp[c]
   |false=>rw[ak]at a;have l:=d x b;exact iH
theorem JJ(v:Int)(x t:T):bL ar 232 [t.e,.int .i64 v,x.e] (t.ap (Go.Pv.one v x)).e:=by
 induction t with
 |pair a b d c=>
  refine bs e7 Tryz.func232 N4 fun e=>?_;unfold GD;simp;(with_reducible repeat' first|refine al ?_|refine aI d ?_|refine aJ d ?_|refine aI c ?_|refine aJ c ?_|refine aI (JI _ _) ?_|refine aJ (JI _ _) ?_|simp);all_goals simp[bE,aX,a1,aV]
  all_goals simp[T.ap]
 |var n=>
  refine bs e7 Tryz.func232 N4 fun e=>?_;unfold GD;simp;((with_reducible repeat' first|refine al ?_|simp|((first|apply bQ|apply bT|apply bS)<;>intro h<;>try simp at h))<;>(try exact cv));all_goals simp[bE,aX,a1,aV]
  all_goals simp_all[T.ap,Go.Pv.one]
 |_=>
  refine bs e7 Tryz.func232 N4 fun e=>?_;unfold GD;simp;(with_reducible repeat' first|refine al ?_|simp);all_goals simp[bE,aX,a1,aV]
  all_goals simp[T.ap]
theorem JL(s:List au)(a:s.length<=1000000)(t:T):bL ar 161 [.slice 5 .no (s.map au.e),t.e] (hL s t).e:=by
 cases t with
 |var n=>
  cases ae:dx s n with
  |none=>refine bs e7 Tryz.func161 N6 fun b=>?_;unfold GG;simp;(with_reducible repeat' first|refine al ?_|refine aI (wM s n a) ?_|refine aJ (wM s n a) ?_|simp[ae]);simp[bE,aX,a1,aV];simp[hL,cI,ae]
  |some x=>refine bs e7 Tryz.func161 N6 fun b=>?_;unfold GG;simp;(with_reducible repeat' first|refine al ?_|refine aI (wM s n a) ?_|refine aJ (wM s n a) ?_|simp[ae]);simp[bE,aX,a1,aV];simp[hL,cI,ae]
 |_=>refine bs e7 Tryz.func161 N6 fun b=>?_;unfold GG;simp;(with_reducible repeat' first|refine al ?_|simp);simp[bE,aX,a1,aV];simp[hL]
theorem Wd(b:au):∀(s:List au) (k:Nat),(∀i c,i<k->s[i]? =some c->c.v<=b.v)->(∀c,s[k]? =some c->b.v<c.v)->k<=s.length->pM b s=s.take k++b::s.drop k
 |[],k,_,_,a=>by simp at a;subst a;rfl
 |c::s,0,_,U,_=>by have:=U c rfl;simp[pM,this]
 |c::s,k+1,J,U,a=>by have:=J 0 c Ω rfl;simp only[pM,if_neg (by omega:¬b.v<c.v),List.take_succ_cons,List.drop_succ_cons,bX];rw[Wd b s k (fun i d hi e=>J (i+1) d Ω (by simpa using e)) (fun d e=>U d (by simpa using e)) (by simpa using a)]
theorem aqE(s:List au)(b:au)(v:s.length<=1000000)(t:iM s):bL ar 110 [.slice 5 .no (s.map au.e),b.e] (.slice 5 .no ((pM b s).map au.e)):=by
 refine bs e7 Tryz.func110 am4 fun w=>?_;unfold SR;simp;refine w7 [0,3] (fun(k:Nat)=>[(5,.int .i64 k)]) (fun k=>k) (fun k=>k<=s.length/\∀c,s[k]? =some c->b.v<c.v) s.length b6 ⟨Ω,fun c h=>by simp at h⟩ (fun k m _=>?_);obtain⟨u,m⟩:=m;have n:(∀c,0<k->s[k-1]? =some c->c.v<=b.v)->pM b s=s.take k++b::s.drop k:=fun h=>Wd b s k (fun i c hi ax=>by
  obtain⟨d,a⟩:∃d,s[k-1]? =some d:=⟨_,cl Ω⟩;have J:=h d Ω a;rcases Nat.lt_or_ge i (k-1)with U|U
  ·have o:=(fy.1 ax);have p:=(fy.1 a);have:=qN.1 t i (k-1) o.1 p.1 U;rw[o.2,p.2]at this;omega
  ·have:i=k-1:=Ω
   subst this;rw[a]at ax;cases ax;exact J) m u
 rcases Nat.eq_zero_or_pos k with rfl|g
 ·have e:=n fun c h=>Ω
  rw[e];simp;(with_reducible repeat' first|refine al ?_|simp);simp[bE,aX,a1,aV];try simp[gC]
 ·obtain⟨d,a⟩:∃d,s[k-1]? =some d:=⟨_,cl Ω⟩;have j:((k:Int)-1).toNat=k-1:=Ω
  have l:∀h,(s[k-1]'h)=d:=fun h=>by rw[cl h]at a;exact fK a
  have f:(0:Int)<k:=Ω
  by_cases ae:b.v<d.v
  ·simp[g,f,j,l,ae,a];(with_reducible repeat' first|refine al ?_|simp[g,f,j,l,ae,a]);refine bO.whl (k-1) Ω ⟨Ω,fun c ax=>by rw[a]at ax;cases ax;exact ae⟩ ?_;have r:((k-1:Nat):Int)=(k:Int)-1:=Ω
   simp[r];exact b6
  ·have e:=n fun c _ ax=>by rw[a]at ax;cases ax;omega
   rw[e];simp[g,f,j,l,ae,a];(with_reducible repeat' first|refine al ?_|simp[g,f,j,l,ae,a]);simp[bE,aX,a1,aV];have q:mH s.length (s.map au.e)=s.map au.e:=gC Ψ;rw[q,<-List.map_take,<-List.map_drop,<-fA,<-List.map_append];exact ZU _
def Pm(v:Int)(x:T)(b:au):au:=⟨b.v,b.t.ap (Go.Pv.one v x)⟩
def ajS(s:List au)(v:Int)(x:T)(i:Nat)(out:List au):Prop:=out=(s.take i).map (Pm v x)/\∀b∈s.take i,(b.t.ap (Go.Pv.one v x)).size<=5000
theorem aqI(s:List au)(v:Int)(t:T)(w:s.length<=1000000)(E:iM s):bL ar 205 [.slice 5 .no (s.map au.e),.int .i64 v,t.e] (gI (oL s v t)):=by
 obtain⟨x,p⟩:∃x,x=t.ap (cI s):=⟨_,rfl⟩;have a:=PN s w t;rw[<-p]at a;obtain⟨o,ak⟩:∃o,o=oL s v t:=⟨_,rfl⟩;have l:x.size<=5000->x.occ v=false->s.length<400->(∀b∈s,(b.t.ap (Go.Pv.one v x)).size<=5000)->o=some (nm s v x):=fun G F D B=>by rw[ak,oL,<-p,if_pos ⟨G,F,D,B⟩]
 have f:¬(x.size<=5000/\x.occ v=false/\s.length<400/\∀b∈s,(b.t.ap (Go.Pv.one v x)).size<=5000)->o=none:=fun q=>by rw[ak,oL,<-p,if_neg q]
 rw[<-ak];clear ak;by_cases J:x.size<=5000;rotate_left
 ·rw[f fun h=>J h.1];refine bs e7 Tryz.func205 IB fun r=>?_;unfold Df;simp;(with_reducible repeat' first|refine al ?_|refine aI a ?_|refine aJ a ?_|refine aI (yg _ _) ?_|refine aJ (yg _ _) ?_|simp[J]);simp[bE,aX,a1,aV];simp[gI]
 cases U:x.occ v with
 |true=>rw[f fun h=>by rw[U]at h;cases h.2.1];refine bs e7 Tryz.func205 IB fun r=>?_;unfold Df;simp;(with_reducible repeat' first|refine al ?_|refine aI a ?_|refine aJ a ?_|refine aI (yg _ _) ?_|refine aJ (yg _ _) ?_|simp[J,U]);simp[bE,aX,a1,aV];simp[gI]
 |false=>
 by_cases y:s.length<400;rotate_left
 ·rw[f fun h=>y h.2.2.1];have j:(400:Int)<=s.length:=Ω
  refine bs e7 Tryz.func205 IB fun r=>?_;unfold Df;simp;(with_reducible repeat' first|refine al ?_|refine aI a ?_|refine aJ a ?_|refine aI (yg _ _) ?_|refine aJ (yg _ _) ?_|simp[J,U,j]);simp[bE,aX,a1,aV];simp[gI]
 have j:¬(400:Int)<=s.length:=Ω
 refine bs e7 Tryz.func205 IB fun r=>?_;unfold Df;simp;(with_reducible repeat' first|refine al ?_|refine aI a ?_|refine aJ a ?_|refine aI (yg _ _) ?_|refine aJ (yg _ _) ?_|simp[J,U,j]);refine hk (α:=List au) (fun i out=>⟨[(1,.int .i64 v),(8,.ptr (.loc 1) 0),(33,.slice 5 .no (s.map au.e)),(34,.int .i64 s.length),(10,.slice 5 (.own (.loc 2)) (out.map au.e)),(35,.int .i64 i)],[(.loc 1,[.int .i64 x.kind,.int .i64 x.int,.str x.name,.slice 4 .no (x.args.map T.e)])],[(.loc 2,⟨out.length,74,5,none⟩)],3,[]⟩) s.length (ajS s v x) [] b6 ⟨Ψ,Ψ⟩ (fun out n _=>?_) (fun i out hi n _=>?_)
 ·obtain⟨d,e⟩:=n;rw[gC (eR _)]at d e;have m:iM out:=by rw[d,iM,List.pairwise_map];exact E
  have A:out.length<=1000000:=by rw[d];simpa using w
  rw[l J U y e];have key:=aqE out ⟨v,x⟩ A m;simp;(with_reducible repeat' first|refine al ?_|refine aI key ?_|refine aJ key ?_|simp);simp[bE,aX,a1,aV];simp[gI,nm,d];rfl
 ·obtain⟨d,e⟩:=n;obtain⟨b,z,k⟩:=ev hi;have u:s.take (i+1)=s.take i++[b]:=by rw[List.take_succ,z];rfl
  have A:out.length<=1000000:=by rw[d];simp;omega
  simp[hi,k];by_cases g:(b.t.ap (Go.Pv.one v x)).size<=5000
  ·(with_reducible repeat' first|refine al ?_|refine aI (JJ _ _ _) ?_|refine aJ (JJ _ _ _) ?_|refine aI (CK _) ?_|refine aJ (CK _) ?_|simp[k,hi,g]);all_goals first|(refine⟨by unfold lim;omega,?_⟩)|skip
   (with_reducible repeat' first|refine al ?_|simp);refine bO.rng (out++[Pm v x b]) hi ⟨by rw[u,d,List.map_append];rfl,fun c ax=>?_⟩ ?_
   ·rw[u]at ax;rcases kr.1 ax with ax|ax
    ·exact e c ax
    ·simp at ax;subst ax;exact g
   ·simp[Pm];exact⟨by simp[fresh,aA,av,b0,inObs,Pv.look,kA],dN i6,dP i7,Ψ⟩
  ·rw[f fun h=>g (h.2.2.2 b (eQ z))];(with_reducible repeat' first|refine al ?_|refine aI (JJ _ _ _) ?_|refine aJ (JJ _ _ _) ?_|refine aI (CK _) ?_|refine aJ (CK _) ?_|simp[k,hi,g]);simp[bE,aX,a1,aV];simp[gI]
theorem ap5{s:List au}(e:gf s)(f:hZ s){n:Nat}{a b:T}{o:aW (List au)}(h:lD n s a b=some o):jw s [(a,b)] o:=by obtain⟨n',o',J,U⟩:=JE e f a b;have d:=FQ (Nat.le_max_left n n') h;have c:=FQ (Nat.le_max_right n n') J;rw[d]at c;cases c;exact U
def CG(n:Nat):List (T×T)->List au->aW (aW (List au))
 |[],s=>some (some s)
 |e::r,s=>match lD n s e.1 e.2 with
  |none=>none
  |some none=>some none
  |some (some s1)=>CG n r s1
def zC(x y:T):Bool:=x.kind==y.kind&&x.int==y.int&&x.name==y.name
theorem ap3(n:Nat)(s:List au){x y:T}(f:x.kind≠1)(g:y.kind≠1):kK (lD n) s x y=if zC x y then CG n (x.args.zip y.args) s else some none:=by
 cases x<;>cases y<;>simp[kK,zC,CG]at f g⊢
 ·rename_i a b;split<;>simp_all
 ·rename_i a b;split<;>simp_all
 ·rename_i d a2 c e;cases lD n s d c with
  |none=>rfl
  |some o=>cases o with
   |none=>rfl
   |some s1=>
    simp only
    cases lD n s1 a2 e with
    |none=>rfl
    |some o=>cases o<;>rfl
theorem akk{x y:T}(h:zC x y=true):x.args.length=y.args.length:=by cases x<;>cases y<;>simp[zC]at h⊢
@[simp]theorem asK(o:aW (List au)):AT 0 (gI o)=some (True,.slice 5 .no ((o.getD []).map au.e)):=rfl
@[simp]theorem asL(o:aW (List au)):AT 1 (gI o)=some (True,.bool o.isSome):=rfl
theorem aqM(n:Nat):∀(s:List au) (a b:T) (o:aW (List au)),gf s->hZ s->lD n s a b=some o->bL ar 183 [.slice 5 .no (s.map au.e),a.e,b.e] (gI o):=by
 induction n with
 |zero=>intro s a b o _ _ h;simp[lD]at h
 |succ n S=>
  intro s a b o P Q he;have H:s.length<=1000000:=by have:=Q.1;omega
  have c:=JL s H a;have d:=JL s H b;simp only[lD]at he;generalize hL s a=x at he c;generalize hL s b=y at he d;have ae:=fun v t=>aqI s v t H P.asc;have f:∀z:T,¬z.kind=1->(z.kind==1)=false:=fun z h=>by simp[h]
  by_cases l:x.kind=1
  ·obtain⟨i,rfl⟩:∃i,x= .var i:=by cases x<;>simp at l;exact⟨_,rfl⟩
   by_cases g:y.kind=1
   ·obtain⟨j,rfl⟩:∃j,y= .var j:=by cases y<;>simp at g;exact⟨_,rfl⟩
    simp only[kK,dv]at he;subst he;rcases Int.lt_trichotomy i j with h|h|h
    ·rw[if_pos h];have key:=ae j (.var i);refine bs e7 Tryz.func183 we fun m=>?_;unfold tW;simp;(with_reducible repeat' first|refine al ?_|refine aI c ?_|refine aJ c ?_|refine aI d ?_|refine aJ d ?_|refine aI key ?_|refine aJ key ?_|simp[h]);simp[bE,aX,a1,aV];simp[gI]
    ·subst h;rw[if_neg Ω,if_pos rfl];have G:¬i<i:=Ω
     refine bs e7 Tryz.func183 we fun m=>?_;unfold tW;simp;(with_reducible repeat' first|refine al ?_|refine aI c ?_|refine aJ c ?_|refine aI d ?_|refine aJ d ?_|simp[G]);simp[bE,aX,a1,aV];simp[gI]
    ·rw[if_neg Ω,if_neg Ω];have key:=ae i (.var j);have G:¬i<j:=Ω
     have U:¬i=j:=Ω
     refine bs e7 Tryz.func183 we fun m=>?_;unfold tW;simp;((with_reducible repeat' first|refine al ?_|refine aI c ?_|refine aJ c ?_|refine aI d ?_|refine aJ d ?_|refine aI key ?_|refine aJ key ?_|simp[G,U]|((first|apply bQ|apply bT|apply bS)<;>intro h<;>try simp at h))<;>(try exact cv));simp[bE,aX,a1,aV];simp[gI]
   ·have E:oL s i y=o:=by cases y<;>first|(simp at g;done)|exact fK he
    subst E;have key:=ae i y;refine bs e7 Tryz.func183 we fun m=>?_;unfold tW;simp;(with_reducible repeat' first|refine al ?_|refine aI c ?_|refine aJ c ?_|refine aI d ?_|refine aJ d ?_|refine aI key ?_|refine aJ key ?_|simp[f y g]);simp[bE,aX,a1,aV];simp[gI]
  ·by_cases g:y.kind=1
   ·obtain⟨j,rfl⟩:∃j,y= .var j:=by cases y<;>simp at g;exact⟨_,rfl⟩
    have E:oL s j x=o:=by cases x<;>first|(simp at l;done)|exact fK he
    subst E;have key:=ae j x;refine bs e7 Tryz.func183 we fun m=>?_;unfold tW;simp;(with_reducible repeat' first|refine al ?_|refine aI c ?_|refine aJ c ?_|refine aI d ?_|refine aJ d ?_|refine aI key ?_|refine aJ key ?_|simp[f x l]);simp[bE,aX,a1,aV];simp[gI]
   ·rw[ap3 n s l g]at he;cases hle:zC x y with
    |false=>
     rw[hle]at he;simp at he;subst he;have L:(x.kind !=y.kind)=true\/((x.kind !=y.kind)=false/\((x.int !=y.int)=true\/((x.int !=y.int)=false/\(x.name !=y.name)=true))):=by simp only[zC]at hle;simp only[bne];cases V:(x.kind==y.kind)<;>cases X:(x.int==y.int)<;>cases R:(x.name==y.name)<;>simp_all
     rcases L with p|⟨p,q|⟨q,A⟩⟩
     ·refine bs e7 Tryz.func183 we fun m=>?_;unfold tW;simp;(with_reducible repeat' first|refine al ?_|refine aI c ?_|refine aJ c ?_|refine aI d ?_|refine aJ d ?_|simp[f x l,f y g,p]);simp[bE,aX,a1,aV];simp[gI]
     ·refine bs e7 Tryz.func183 we fun m=>?_;unfold tW;simp;(with_reducible repeat' first|refine al ?_|refine aI c ?_|refine aJ c ?_|refine aI d ?_|refine aJ d ?_|simp[f x l,f y g,p,q]);simp[bE,aX,a1,aV];simp[gI]
     ·refine bs e7 Tryz.func183 we fun m=>?_;unfold tW;simp;have D:¬x.name=y.name:=by simpa using A
      have J:decide (x.name=y.name)=false:=by simp[D]
      ((with_reducible repeat' first|refine al ?_|refine aI c ?_|refine aJ c ?_|refine aI d ?_|refine aJ d ?_|simp[f x l,f y g,p,q,A,D,J]|((first|apply bQ|apply bT|apply bS)<;>intro h<;>try simp at h))<;>(try exact cv));simp[bE,aX,a1,aV];simp[gI]
    |true=>
     rw[hle,if_pos rfl]at he;have L:(x.kind !=y.kind)=false/\(x.int !=y.int)=false/\(x.name !=y.name)=false:=by simp only[zC]at hle;simp only[bne];cases V:(x.kind==y.kind)<;>cases X:(x.int==y.int)<;>cases R:(x.name==y.name)<;>simp_all
     obtain⟨p,q,A⟩:=L;have hlen:=akk hle;have D:x.name=y.name:=by simpa using A
     have Y:x.args.length<=2:=by cases x<;>simp
     refine bs e7 Tryz.func183 we fun m=>?_;unfold tW;simp;(with_reducible repeat' first|refine al ?_|refine aI c ?_|refine aJ c ?_|refine aI d ?_|refine aJ d ?_|simp[f x l,f y g,p,q,D]);refine hk (α:=List au) (fun i k=>⟨[(5,.ptr (.loc 1) 0),(96,.slice 4 .no (x.args.map T.e)),(97,.int .i64 x.args.length),(0,.slice 5 .no (k.map au.e)),(98,.int .i64 i)],[(.loc 1,[.int .i64 y.kind,.int .i64 y.int,.str y.name,.slice 4 .no (y.args.map T.e)])],[],2,[]⟩) x.args.length (fun i k=>(gf k/\hZ k)/\CG n ((x.args.zip y.args).drop i) k=some o) s b6 ⟨⟨P,Q⟩,by simpa using he⟩ (fun k e _=>?_) (fun i k hi e _=>?_)
     ·obtain⟨_,e⟩:=e;rw[List.drop_eq_nil_of_le (by simp[hlen])]at e;simp[CG]at e;subst e;simp;(with_reducible repeat' first|refine al ?_|simp);simp[bE,aX,a1,aV];simp[gI]
     ·obtain⟨⟨g1,g2⟩,e⟩:=e;obtain⟨B,O⟩:∃a,x.args[i]? =some a:=⟨_,cl hi⟩;obtain⟨u,N⟩:∃b,y.args[i]? =some b:=⟨_,cl Ω⟩;have r:∀h,(x.args[i]'h)=B:=fun h=>by rw[cl hi]at O;exact fK O
      have w:∀h,(y.args[i]'h)=u:=fun h=>by rw[cl h]at N;exact fK N
      have F:i<y.args.length:=Ω
      have W:(x.args.zip y.args).drop i=(B,u)::(x.args.zip y.args).drop (i+1):=by rw[mh d7];simp[r,w]
      rw[W]at e;simp only[CG]at e;simp[hi,r,w,F];cases hu:lD n k B u with
      |none=>rw[hu]at e;cases e
      |some M=>
       have key:=S k B u M g1 g2 hu;rw[hu]at e;cases M with
       |none=>simp at e;subst e;(with_reducible repeat' first|refine al ?_|refine aI key ?_|refine aJ key ?_|simp[r,w,hi,F]);simp[bE,aX,a1,aV];simp[gI]
       |some s1=>have K:=ap5 g1 g2 hu;(with_reducible repeat' first|refine al ?_|refine aI key ?_|refine aJ key ?_|simp[r,w,hi,F]);refine bO.rng s1 hi ⟨K.1,e⟩ ?_;exact b6
theorem aqL(s:List au)(a b:T)(c:gf s)(d:hZ s):bL ar 183 [.slice 5 .no (s.map au.e),a.e,b.e] (gI (mgu s [(a,b)])):=by obtain⟨n,o,J,U⟩:=JE c d a b;rw[tt U];exact aqM n s a b o c d J
def ajR(s:List au)(E:List (T×T))(i:Nat)(a:List au):Prop:=(gf a/\hZ a)/\mgu a (E.drop i)=mgu s E
theorem aqH(s:List au)(l r:List T)(n:l.length=r.length)(o:gf s)(q:hZ s)(t:l.length<=1000000):bL ar 163 [.slice 5 .no (s.map au.e),.slice 4 .no (l.map T.e),.slice 4 .no (r.map T.e)] (gI (mgu s (l.zip r))):=by
 refine bs e7 Tryz.func163 am6 fun u=>?_;unfold SV;simp;refine hk (α:=List au) (fun i d=>⟨[(2,.slice 4 .no (r.map T.e)),(12,.slice 4 .no (l.map T.e)),(13,.int .i64 l.length),(0,.slice 5 .no (d.map au.e)),(14,.int .i64 i)],[],[],0,[]⟩) l.length (ajR s (l.zip r)) s b6 ⟨⟨o,q⟩,Ψ⟩ (fun d c _=>?_) (fun i d hi c _=>?_)
 ·obtain⟨⟨g1,g2⟩,c⟩:=c;rw[List.drop_eq_nil_of_le (by simp[n]),NB g1 g2]at c;rw[<-c];simp;(with_reducible repeat' first|refine al ?_|simp);simp[bE,aX,a1,aV];simp[gI]
 ·obtain⟨⟨g1,g2⟩,c⟩:=c;obtain⟨a,k⟩:∃a,l[i]? =some a:=⟨_,cl hi⟩;obtain⟨b,j⟩:∃b,r[i]? =some b:=⟨_,cl Ω⟩;have e:∀h,(l[i]'h)=a:=fun h=>by rw[cl hi]at k;exact fK k
  have f:∀h,(r[i]'h)=b:=fun h=>by rw[cl h]at j;exact fK j
  have g:i<r.length:=Ω
  have p:(l.zip r).drop i=(a,b)::(l.zip r).drop (i+1):=by rw[mh d7];simp[e,f]
  rw[p,NA g1 g2]at c;simp[hi,e,f,g];have key:=aqL d a b g1 g2;cases hu:mgu d [(a,b)]with
  |none=>rw[hu]at c key;simp only at c;rw[<-c];(with_reducible repeat' first|refine al ?_|refine aI key ?_|refine aJ key ?_|simp[e,f,hi,g]);simp[bE,aX,a1,aV];simp[gI]
  |some s1=>have m:=BU g1 g2 hu;rw[hu]at c key;(with_reducible repeat' first|refine al ?_|refine aI key ?_|refine aJ key ?_|simp[e,f,hi,g]);refine bO.rng s1 hi ⟨m,c⟩ ?_;exact b6
theorem k4(n:Int):bL ar 40 [.int .i64 n] (T.var n).e:=by refine bs gR Tryz.func40 am1 fun a=>?_;unfold SO;exact cn
def ajV(t:List au)(i:Nat)(p:List T×List T):Prop:=p.1=(t.take i).map (fun b=>T.var b.v)/\p.2=(t.take i).map (·.t)
theorem aqJ(s t:List au)(h:gf s)(k:hZ s)(aM:t.length<=1000000):bL ar 126 [.slice 5 .no (s.map au.e),.slice 5 .no (t.map au.e)] (gI (mgu s (ig t))):=by
 have e:(t.map fun b=>T.var b.v).zip (t.map (·.t))=ig t:=by rw[ig,List.zip_map']
 refine bs e7 Tryz.func126 am7 fun l=>?_;unfold SX;simp;refine hk (α:=List T×List T) (fun i p=>⟨[(0,.slice 5 .no (s.map au.e)),(12,.slice 5 .no (t.map au.e)),(13,.int .i64 t.length),(6,.slice 4 (.own (.loc 0)) (p.1.map T.e)),(7,.slice 4 (.own (.loc 1)) (p.2.map T.e)),(14,.int .i64 i)],[],[(.loc 0,⟨p.1.length,71,4,none⟩),(.loc 1,⟨p.2.length,71,4,none⟩)],2,[]⟩) t.length (ajV t) ([],[]) b6 ⟨Ψ,Ψ⟩ (fun p a _=>?_) (fun i p hi a _=>?_)
 ·obtain⟨A,B⟩:=p;obtain⟨be,hB⟩:=a;simp only at be hB⊢;rw[gC (eR _)]at be hB;have key:=aqH s A B (by rw[be,hB];simp) h k (by rw[be];simpa using aM);rw[be,hB,e,<-be,<-hB]at key;simp;(with_reducible repeat' first|refine al ?_|refine aI key ?_|refine aJ key ?_|simp);simp[bE,aX,a1,aV];simp[gI]
 ·obtain⟨A,B⟩:=p;obtain⟨be,hB⟩:=a;simp only at be hB⊢;obtain⟨b,j,d⟩:=ev hi;have c:t.take (i+1)=t.take i++[b]:=by rw[List.take_succ,j];rfl
  have g:A.length<=1000000:=by rw[be];simp;omega
  have f:B.length<=1000000:=by rw[hB];simp;omega
  simp[hi,d];(with_reducible repeat' first|refine al ?_|refine aI (k4 _) ?_|refine aJ (k4 _) ?_|simp[d,hi]);all_goals first|(refine⟨by unfold lim;omega,?_⟩)|skip
  (with_reducible repeat' first|refine al ?_|simp);all_goals first|(refine⟨by unfold lim;omega,?_⟩)|skip
  (with_reducible repeat' first|refine al ?_|simp);refine bO.rng (A++[.var b.v],B++[b.t]) hi ⟨by rw[c,be];simp,by rw[c,hB];simp⟩ ?_;simp;exact⟨by simp[fresh,aA,av,b0,inObs,Pv.look,kA],dN i6,dP i7,Ψ⟩
theorem dL(n lo hi:Int):bL ar 69 [.int .i64 n,.int .i64 lo,.int .i64 hi] (.bool (decide (lo<=n/\n<=hi))):=by
 refine bs e7 Tryz.func69 amT fun a=>?_;unfold SG;simp;((with_reducible repeat' first|refine al ?_|simp|((first|apply bQ|apply bT|apply bS)<;>intro h<;>try simp at h))<;>(try exact cv));all_goals simp[bE,aX,a1,aV]
 all_goals first|omega|(simp;done)|(simp;omega)
def shp:b2->Bool
 | .mk k n s [a,b]=>k==4&&n==0&&s==[]&&shp a&&shp b
 | .mk k n s []=>l8 k n s
 |_=>false
theorem Jn:∀x:T,shp x.tm=x.ok
 | .nil=>by simp[T.tm,shp,l8,T.ok]
 | .var _=>by simp[T.tm,shp,l8,T.ok]
 | .sym _=>by simp[T.tm,shp,l8,T.ok]
 | .num _=>by simp[T.tm,shp,l8,T.ok]
 | .pair a b=>by simp[T.tm,shp,T.ok,Jn a,Jn b]
theorem aph:∀(m:Nat) (t:b2),t.sz<=m->shp t=true->∃x:T,x.tm=t:=by
 intro m;induction m with
 |zero=>intro t aM;cases t;simp[b2.sz]at aM
 |succ m c=>
  rintro⟨k,n,s,args⟩ aM h;match args with
  |[a,b]=>
   simp[b2.sz,b2.szL]at aM;simp only[shp,cD,dS]at h;obtain⟨⟨⟨⟨rfl,rfl⟩,d⟩,J⟩,U⟩:=h;obtain⟨x,rfl⟩:=c a Ω J;obtain⟨y,rfl⟩:=c b Ω U;have:s=[]:=by simpa using d
   subst this;exact⟨.pair x y,rfl⟩
  |[]=>
   simp only[shp,l8]at h;split at h
   ·subst_vars;simp at h;exact⟨.nil,by simp[T.tm,h]⟩
   split at h
   ·subst_vars;simp at h;exact⟨.var n,by simp[T.tm,h]⟩
   split at h
   ·subst_vars;simp at h;exact⟨.sym s,by simp[T.tm,h]⟩
   split at h
   ·subst_vars;simp at h;exact⟨.num n,by simp[T.tm,h]⟩
   ·simp at h
  |[_]=>simp[shp]at h
  |_::_::_::_=>simp[shp]at h
theorem agG(t:b2):t.fits=(decide (mo t 5000<=5000)&&shp t):=by
 by_cases h:shp t=true
 ·obtain⟨x,rfl⟩:=aph _ t (eR _) h;have:=(GL x 5000 Ω).1;rw[b2.fits_T,T.fit,h];rw[Jn]at h;simp[h,this];omega
 ·have b:t.fits=false:=by
   cases c:t.fits with
   |false=>rfl
   |true=>obtain⟨x,rfl,a⟩:=b2.fits_ex c;rw[Jn]at h;simp[T.fit]at a;exact absurd a.1 h
  simp at h;rw[b,h];simp
def MO(s:List bV)(i:Nat):Prop:=i<=s.length/\∀k,k<i->mZ (s.getD k 0)=true/\(k=0->low (s.getD k 0)=true)
theorem ajO{s:List bV}(h:MO s s.length):iW s=decide (1<=s.length/\s.length<=12):=by
 unfold iW;by_cases a:1<=s.length
 ·have J:=(h.2 0 Ω).2 rfl;have U:(s.drop 1).all mZ=true:=by rw[jL];intro b ae;obtain⟨i,hi,e⟩:=oC ae;simp at hi e;have:=(h.2 (i+1) Ω).1;rw[List.getD_eq_getElem?_getD,cl Ω]at this;simp only[mi]at this;rw[<-e];exact this
  rw[J,U];simp
 ·have:decide (1<=s.length/\s.length<=12)=false:=by simp;omega
  rw[this];simp
theorem ajN{s:List bV}{i:Nat}(hi:i<s.length)(h:mZ (s.getD i 0)=false\/(i=0/\low (s.getD i 0)=false)):iW s=false:=by
 cases e:iW s with
 |false=>rfl
 |true=>
  exfalso;simp only[iW,cD,jL]at e;obtain⟨⟨_,a⟩,c⟩:=e;rcases h with h|⟨rfl,h⟩
  ·by_cases b:i=0
   ·subst b;rw[mZ,a]at h;simp at h
   ·have:=c (s.getD i 0) (by rw[List.getD_eq_getElem?_getD,cl hi];simp only[mi];refine List.mem_iff_getElem.2 ⟨i-1,by simp;omega,?_⟩;simp[show i-1+1=i from by omega])
    rw[this]at h;cases h
  ·rw[a]at h;cases h
theorem hx(s:List bV):bL ar 121 [.str s] (.bool (iW s)):=by
 generalize bq:iW s=R;refine bs e7 Tryz.func121 amN fun r=>?_;unfold SA;have t:s.length<=68719476736:=by simp[e1,eK,eV,lim]at r;omega
 simp;refine w7 [0] (fun(i:Nat)=>[(3,.int .i64 i)]) (fun i=>s.length-i) (MO s) 0 b6 ⟨Ω,fun k q=>Ω⟩ (fun i o _=>?_);have u:=o.1;by_cases hi:i<s.length
 ·have l:=ajN hi;rw[bq]at l;obtain⟨c,ax,e⟩:=ev hi;have p:s.getD i 0=c:=by simp[List.getD_eq_getElem?_getD,ax]
  rw[p]at l;have dr:mZ c=true->(i=0->low c=true)->MO s (i+1):=fun J U=>⟨Ω,fun k q=>by
   rcases(by omega:k<i\/k=i)with h|rfl
   ·exact o.2 k h
   ·rw[p];exact⟨J,U⟩⟩
  have hw:oz.wrap (c.toNat:Int)=c.toNat:=lT _ (by have:=c.toNat_lt;omega);simp[hi,e,ax];by_cases g:(97:Int)<=c.toNat
  ·by_cases n:(c.toNat:Int)<=122
   ·have j:low c=true:=by simp[low];omega
    (with_reducible repeat' first|refine al ?_|refine aI (dL _ _ _) ?_|refine aJ (dL _ _ _) ?_|simp[hi,e,ax,g,n]);exact bO.whl (i+1) Ω (dr (by simp[mZ,j]) (fun _=>j)) b6
   ·have j:low c=false:=by simp[low];omega
    by_cases b:i=0
    ·rw[l (.inr ⟨b,j⟩)];have a:((i:Int)==0)=true:=by simp[b]
     (with_reducible repeat' first|refine al ?_|refine aI (dL _ _ _) ?_|refine aJ (dL _ _ _) ?_|simp[hi,e,ax,g,n,a,hw]);simp[bE,aX,a1,aV]
    ·have a:((i:Int)==0)=false:=by simp[b]
     by_cases d:(c.toNat:Int)=45
     ·have f:((c.toNat:Int) !=45)=false:=by simp[d]
      (with_reducible repeat' first|refine al ?_|refine aI (dL _ _ _) ?_|refine aJ (dL _ _ _) ?_|simp[hi,e,ax,g,n,a,hw,d,f]);all_goals exact bO.whl (i+1) Ω (dr (by simp[mZ];omega) (fun h=>absurd h b)) b6
     ·have f:((c.toNat:Int) !=45)=true:=by simp[d]
      by_cases m:(48:Int)<=c.toNat/\(c.toNat:Int)<=57
      ·(with_reducible repeat' first|refine al ?_|refine aI (dL _ _ _) ?_|refine aJ (dL _ _ _) ?_|simp[hi,e,ax,g,n,a,hw,d,f,m]);all_goals exact bO.whl (i+1) Ω (dr (by simp[mZ];omega) (fun h=>absurd h b)) b6
      ·rw[l (.inl (by simp[mZ,j];omega))];(with_reducible repeat' first|refine al ?_|refine aI (dL _ _ _) ?_|refine aJ (dL _ _ _) ?_|simp[hi,e,ax,g,n,a,hw,d,f,m]);simp[bE,aX,a1,aV]
  ·have j:low c=false:=by simp[low];omega
   by_cases b:i=0
   ·rw[l (.inr ⟨b,j⟩)];have a:((i:Int)==0)=true:=by simp[b]
    (with_reducible repeat' first|refine al ?_|refine aI (dL _ _ _) ?_|refine aJ (dL _ _ _) ?_|simp[hi,e,ax,g,a,hw]);simp[bE,aX,a1,aV]
   ·have a:((i:Int)==0)=false:=by simp[b]
    by_cases d:(c.toNat:Int)=45
    ·have f:((c.toNat:Int) !=45)=false:=by simp[d]
     (with_reducible repeat' first|refine al ?_|refine aI (dL _ _ _) ?_|refine aJ (dL _ _ _) ?_|simp[hi,e,ax,g,a,hw,d,f]);all_goals exact bO.whl (i+1) Ω (dr (by simp[mZ];omega) (fun h=>absurd h b)) b6
    ·have f:((c.toNat:Int) !=45)=true:=by simp[d]
     by_cases m:(48:Int)<=c.toNat/\(c.toNat:Int)<=57
     ·(with_reducible repeat' first|refine al ?_|refine aI (dL _ _ _) ?_|refine aJ (dL _ _ _) ?_|simp[hi,e,ax,g,a,hw,d,f,m]);all_goals exact bO.whl (i+1) Ω (dr (by simp[mZ];omega) (fun h=>absurd h b)) b6
     ·rw[l (.inl (by simp[mZ,j];omega))];(with_reducible repeat' first|refine al ?_|refine aI (dL _ _ _) ?_|refine aJ (dL _ _ _) ?_|simp[hi,e,ax,g,a,hw,d,f,m]);simp[bE,aX,a1,aV]
 ·have:i=s.length:=Ω
  subst this;rw[ajO o]at bq;simp[hi];(with_reducible repeat' first|refine al ?_|refine aI (dL _ _ _) ?_|refine aJ (dL _ _ _) ?_|simp[hi]);simp[bE,aX,a1,aV];rw[<-bq,ry];simp;omega
def wF:List b2->Bool
 |[a,b]=>shp a&&shp b
 |_=>false
theorem apg(k n:Int)(s:List bV)(args:List b2):shp ⟨k,n,s,args⟩=if k≠1/\k≠3/\n≠0 then false else if k≠2/\s≠[]then false else if k≠4/\args≠[]then false else if k=0 then true else if k=1 then decide (0<=n/\n<=100000)else if k=2 then iW s else if k=3 then decide (-1000000000<=n/\n<=1000000000)else if k=4 then wF args else false:=by
 by_cases e:k=0
 ·subst e;match args with
  |[]=>by_cases i:n=0<;>by_cases c:s=[]<;>simp[shp,l8,i,c]
  |[a]=>simp[shp]
  |[a,b]=>simp[shp]
  |_::_::_::_=>simp[shp]
 by_cases g:k=1
 ·subst g;match args with
  |[]=>by_cases c:s=[]<;>simp[shp,l8,c]
  |[a]=>simp[shp]
  |[a,b]=>simp[shp]
  |_::_::_::_=>simp[shp]
 by_cases h:k=2
 ·subst h;match args with
  |[]=>by_cases i:n=0<;>simp[shp,l8,i]
  |[a]=>simp[shp]
  |[a,b]=>simp[shp]
  |_::_::_::_=>simp[shp]
 by_cases f:k=3
 ·subst f;match args with
  |[]=>by_cases c:s=[]<;>simp[shp,l8,c]
  |[a]=>simp[shp]
  |[a,b]=>simp[shp]
  |_::_::_::_=>simp[shp]
 by_cases d:k=4
 ·subst d;match args with
  |[]=>simp[shp,l8,wF]
  |[a]=>simp[shp,wF]
  |[a,b]=>by_cases i:n=0<;>by_cases c:s=[]<;>simp[shp,wF,i,c]
  |_::_::_::_=>simp[shp,wF]
 ·match args with
  |[]=>simp[shp,l8,e,g,h,f,d]
  |[a]=>simp[shp,e,g,h,f,d]
  |[a,b]=>simp[shp,e,g,h,f,d]
  |_::_::_::_=>simp[shp,e,g,h,f,d]
set_option maxRecDepth 8000 in
theorem aqC(m:Nat):∀(t:b2),t.sz<=m->bL ar 176 [enc t] (.bool (shp t)):=by
 induction m with
 |zero=>intro t aM;cases t;simp[b2.sz]at aM
 |succ m B=>
 rintro⟨k,n,s,args⟩ aM;generalize bq:shp ⟨k,n,s,args⟩=R;have c:=apg k n s args;rw[bq]at c;by_cases w:k≠1/\k≠3/\n≠0
 ·rw[if_pos w]at c;obtain⟨f,e,n0⟩:=w;have p:(k !=1)=true:=by simp[f]
  have o:(k !=3)=true:=by simp[e]
  have A:(n !=0)=true:=by simp[n0]
  subst c;refine bs e7 Tryz.func176 nE fun d=>?_;unfold mL;simp[b2.kind,b2.num,b2.name,b2.args];(with_reducible repeat' first|refine al ?_|refine aI (dL _ _ _) ?_|refine aJ (dL _ _ _) ?_|refine aI (hx _) ?_|refine aJ (hx _) ?_|simp[p,o,A]);all_goals simp[bE,aX,a1,aV]
 rw[if_neg w]at c;have v:(if k !=1 then k !=3 else false)=true->(n !=0)=false:=by intro h;simp at h⊢;exact Classical.byContradiction fun K=>w ⟨h.1,h.2,K⟩
 by_cases i:k≠2/\s≠[]
 ·rw[if_pos i]at c;have x:(k !=2)=true:=by simp[i.1]
  have z:s.isEmpty=false:=by simp[i.2]
  by_cases f:k=1
  ·subst f;subst c;refine bs e7 Tryz.func176 nE fun d=>?_;unfold mL;simp[b2.kind,b2.num,b2.name,b2.args];(with_reducible repeat' first|refine al ?_|refine aI (dL _ _ _) ?_|refine aJ (dL _ _ _) ?_|refine aI (hx _) ?_|refine aJ (hx _) ?_|simp[z]);all_goals simp[bE,aX,a1,aV]
  by_cases e:k=3
  ·subst e;subst c;refine bs e7 Tryz.func176 nE fun d=>?_;unfold mL;simp[b2.kind,b2.num,b2.name,b2.args];(with_reducible repeat' first|refine al ?_|refine aI (dL _ _ _) ?_|refine aJ (dL _ _ _) ?_|refine aI (hx _) ?_|refine aJ (hx _) ?_|simp[z]);all_goals simp[bE,aX,a1,aV]
  have p:(k !=1)=true:=by simp[f]
  have o:(k !=3)=true:=by simp[e]
  have A:(n !=0)=false:=v (by simp[f,e]);subst c;refine bs e7 Tryz.func176 nE fun d=>?_;unfold mL;simp[b2.kind,b2.num,b2.name,b2.args];(with_reducible repeat' first|refine al ?_|refine aI (dL _ _ _) ?_|refine aJ (dL _ _ _) ?_|refine aI (hx _) ?_|refine aJ (hx _) ?_|simp[p,o,A,x,z]);all_goals simp[bE,aX,a1,aV]
 rw[if_neg i]at c;by_cases y:k=0
 ·subst y;have n0:n=0:=by simpa using v (by decide)
  have s0:s=[]:=Classical.byContradiction fun h=>i ⟨Ω,h⟩;subst n0 s0;by_cases a0:args=[];rotate_left
  ·rw[if_pos ⟨Ω,a0⟩]at c;have g:(0:Int)<args.length:=by have:=List.length_pos_iff.2 a0;omega
   subst c;refine bs e7 Tryz.func176 nE fun d=>?_;unfold mL;simp[b2.kind,b2.num,b2.name,b2.args];((with_reducible repeat' first|refine al ?_|refine aI (dL _ _ _) ?_|refine aJ (dL _ _ _) ?_|refine aI (hx _) ?_|refine aJ (hx _) ?_|simp[Int.natCast_nonneg,g]|((first|apply bQ|apply bT|apply bS)<;>intro h<;>try simp at h))<;>(try exact cv));all_goals simp[bE,aX,a1,aV]
  rw[if_neg (by simp[a0])]at c;subst a0;simp at c;subst c;refine bs e7 Tryz.func176 nE fun d=>?_;unfold mL;simp[b2.kind,b2.num,b2.name,b2.args];(with_reducible repeat' first|refine al ?_|refine aI (dL _ _ _) ?_|refine aJ (dL _ _ _) ?_|refine aI (hx _) ?_|refine aJ (hx _) ?_|simp[Int.natCast_nonneg]);all_goals simp[bE,aX,a1,aV]
 by_cases f:k=1
 ·subst f;have s0:s=[]:=Classical.byContradiction fun h=>i ⟨Ω,h⟩;subst s0;by_cases a0:args=[];rotate_left
  ·rw[if_pos ⟨Ω,a0⟩]at c;have g:(0:Int)<args.length:=by have:=List.length_pos_iff.2 a0;omega
   subst c;refine bs e7 Tryz.func176 nE fun d=>?_;unfold mL;simp[b2.kind,b2.num,b2.name,b2.args];((with_reducible repeat' first|refine al ?_|refine aI (dL _ _ _) ?_|refine aJ (dL _ _ _) ?_|refine aI (hx _) ?_|refine aJ (hx _) ?_|simp[Int.natCast_nonneg,g]|((first|apply bQ|apply bT|apply bS)<;>intro h<;>try simp at h))<;>(try exact cv));all_goals simp[bE,aX,a1,aV]
  rw[if_neg (by simp[a0])]at c;subst a0;simp at c;subst c;refine bs e7 Tryz.func176 nE fun d=>?_;unfold mL;simp[b2.kind,b2.num,b2.name,b2.args];(with_reducible repeat' first|refine al ?_|refine aI (dL _ _ _) ?_|refine aJ (dL _ _ _) ?_|refine aI (hx _) ?_|refine aJ (hx _) ?_|simp[Int.natCast_nonneg]);all_goals simp[bE,aX,a1,aV]
 by_cases u:k=2
 ·subst u;have n0:n=0:=by simpa using v (by decide)
  subst n0;by_cases a0:args=[];rotate_left
  ·rw[if_pos ⟨Ω,a0⟩]at c;have g:(0:Int)<args.length:=by have:=List.length_pos_iff.2 a0;omega
   subst c;refine bs e7 Tryz.func176 nE fun d=>?_;unfold mL;simp[b2.kind,b2.num,b2.name,b2.args];((with_reducible repeat' first|refine al ?_|refine aI (dL _ _ _) ?_|refine aJ (dL _ _ _) ?_|refine aI (hx _) ?_|refine aJ (hx _) ?_|simp[Int.natCast_nonneg,g]|((first|apply bQ|apply bT|apply bS)<;>intro h<;>try simp at h))<;>(try exact cv));all_goals simp[bE,aX,a1,aV]
  rw[if_neg (by simp[a0])]at c;subst a0;simp at c;subst c;refine bs e7 Tryz.func176 nE fun d=>?_;unfold mL;simp[b2.kind,b2.num,b2.name,b2.args];(with_reducible repeat' first|refine al ?_|refine aI (dL _ _ _) ?_|refine aJ (dL _ _ _) ?_|refine aI (hx _) ?_|refine aJ (hx _) ?_|simp[Int.natCast_nonneg]);all_goals simp[bE,aX,a1,aV]
 by_cases e:k=3
 ·subst e;have s0:s=[]:=Classical.byContradiction fun h=>i ⟨Ω,h⟩;subst s0;by_cases a0:args=[];rotate_left
  ·rw[if_pos ⟨Ω,a0⟩]at c;have g:(0:Int)<args.length:=by have:=List.length_pos_iff.2 a0;omega
   subst c;refine bs e7 Tryz.func176 nE fun d=>?_;unfold mL;simp[b2.kind,b2.num,b2.name,b2.args];((with_reducible repeat' first|refine al ?_|refine aI (dL _ _ _) ?_|refine aJ (dL _ _ _) ?_|refine aI (hx _) ?_|refine aJ (hx _) ?_|simp[Int.natCast_nonneg,g]|((first|apply bQ|apply bT|apply bS)<;>intro h<;>try simp at h))<;>(try exact cv));all_goals simp[bE,aX,a1,aV]
  rw[if_neg (by simp[a0])]at c;subst a0;simp at c;subst c;refine bs e7 Tryz.func176 nE fun d=>?_;unfold mL;simp[b2.kind,b2.num,b2.name,b2.args];(with_reducible repeat' first|refine al ?_|refine aI (dL _ _ _) ?_|refine aJ (dL _ _ _) ?_|refine aI (hx _) ?_|refine aJ (hx _) ?_|simp[Int.natCast_nonneg]);all_goals simp[bE,aX,a1,aV]
 by_cases r:k=4
 ·subst r;have n0:n=0:=by simpa using v (by decide)
  have s0:s=[]:=Classical.byContradiction fun h=>i ⟨Ω,h⟩;subst n0 s0;simp at c;match args,c with
  |[a,b],c=>
   simp[b2.sz,b2.szL]at aM;have j:=B a Ω;have ae:=B b Ω;simp only[wF]at c;subst c;refine bs e7 Tryz.func176 nE fun d=>?_;unfold mL;simp[b2.kind,b2.num,b2.name,b2.args];cases q:shp a with
   |true=>rw[q]at j;(with_reducible repeat' first|refine al ?_|refine aI j ?_|refine aJ j ?_|refine aI ae ?_|refine aJ ae ?_|simp[Int.natCast_nonneg]);all_goals simp[bE,aX,a1,aV]
   |false=>rw[q]at j;(with_reducible repeat' first|refine al ?_|refine aI j ?_|refine aJ j ?_|refine aI ae ?_|refine aJ ae ?_|simp[Int.natCast_nonneg]);all_goals simp[bE,aX,a1,aV]
  |[],c=>simp only[wF]at c;subst c;refine bs e7 Tryz.func176 nE fun d=>?_;unfold mL;simp[b2.kind,b2.num,b2.name,b2.args];(with_reducible repeat' first|refine al ?_|refine aI (dL _ _ _) ?_|refine aJ (dL _ _ _) ?_|refine aI (hx _) ?_|refine aJ (hx _) ?_|simp[Int.natCast_nonneg]);all_goals simp[bE,aX,a1,aV]
  |[_],c=>simp only[wF]at c;subst c;refine bs e7 Tryz.func176 nE fun d=>?_;unfold mL;simp[b2.kind,b2.num,b2.name,b2.args];(with_reducible repeat' first|refine al ?_|refine aI (dL _ _ _) ?_|refine aJ (dL _ _ _) ?_|refine aI (hx _) ?_|refine aJ (hx _) ?_|simp[Int.natCast_nonneg]);all_goals simp[bE,aX,a1,aV]
  |_::_::_::l,c=>
   simp only[wF]at c;have L:((l.length:Int)+1+1+1==2)=false:=by simp;omega
   subst c;refine bs e7 Tryz.func176 nE fun d=>?_;unfold mL;simp[b2.kind,b2.num,b2.name,b2.args];(with_reducible repeat' first|refine al ?_|refine aI (dL _ _ _) ?_|refine aJ (dL _ _ _) ?_|refine aI (hx _) ?_|refine aJ (hx _) ?_|simp[L]);all_goals simp[bE,aX,a1,aV]
 have n0:(n !=0)=false:=v (by simp[f,e]);have s0:s=[]:=Classical.byContradiction fun h=>i ⟨u,h⟩;subst s0;have J:(k==0)=false:=by simp[y]
 have p:(k==1)=false:=by simp[f]
 have x:(k==2)=false:=by simp[u]
 have o:(k==3)=false:=by simp[e]
 have E:(k==4)=false:=by simp[r]
 have H:(k !=1)=true:=by simp[f]
 have G:(k !=2)=true:=by simp[u]
 have F:(k !=3)=true:=by simp[e]
 have D:(k !=4)=true:=by simp[r]
 by_cases a0:args=[]
 ·subst a0;simp[y,f,u,e,r]at c;subst c;refine bs e7 Tryz.func176 nE fun d=>?_;unfold mL;simp[b2.kind,b2.num,b2.name,b2.args];(with_reducible repeat' first|refine al ?_|refine aI (dL _ _ _) ?_|refine aJ (dL _ _ _) ?_|refine aI (hx _) ?_|refine aJ (hx _) ?_|simp[J,p,x,o,E,H,G,F,D,n0]);all_goals simp[bE,aX,a1,aV]
 ·rw[if_pos ⟨r,a0⟩]at c;have g:(0:Int)<args.length:=by have:=List.length_pos_iff.2 a0;omega
  subst c;refine bs e7 Tryz.func176 nE fun d=>?_;unfold mL;simp[b2.kind,b2.num,b2.name,b2.args];((with_reducible repeat' first|refine al ?_|refine aI (dL _ _ _) ?_|refine aJ (dL _ _ _) ?_|refine aI (hx _) ?_|refine aJ (hx _) ?_|simp[g,J,p,x,o,E,H,G,F,D,n0]|((first|apply bQ|apply bT|apply bS)<;>intro h<;>try simp at h))<;>(try exact cv));all_goals simp[bE,aX,a1,aV]
theorem aaU(t:b2):bL ar 143 [enc t] (.bool t.fits):=by
 rw[agG];have ax:=aaH t 5000 Ω Ω;have a:=aqC t.sz t (eR _);refine bs e7 Tryz.func143 amS fun b=>?_;unfold SF;simp;by_cases q:mo t 5000<=5000
 ·exact cn
 ·exact cn
def SC:C:=(aa [bt 2 false] (.seq (aa [I 5 0,cp 6 5,b1 7 0] (fR 8 7 6 (.seq (.block 1 (aa [I 9 7,cx 10 2 5 7,bg 11 2 10,c8 (.alloc 4 none (.agg [.int .i64 0,.int .i64 0])),I 3 9,b7 2 4 11] (.seq (.drawn true 42 [I 12 3,aT 13 .gtr 12 0,I 14 13,cg 14 true 15 0,cg 14 true 16 3,ay 14 true (aT 17 .sub 16 1),ay 14 true (cx 18 2 15 17),ay 14 true (aH 19 0 1 18),ay 14 true (aw 20 1 19),ay 14 true (aH 21 0 1 4),ay 14 true (aw 22 1 21),ay 14 true (bp 23 .geq 20 22),ef 24 14 23,I 25 24,ay 25 false (aH 26 0 1 4),ay 25 false (aw 27 1 26),ay 25 false (dU 28 69 [.t 27,(gi 0),(gi 100000)]),ay 25 false (cJ 29 28),dy 30 25 29,I 31 30,ay 31 false (aH 32 1 1 4),ay 31 false (aw 33 1 32),ay 31 false (aT 34 .neq 33 2),cg 31 false 35 34,ay 35 true (aH 36 1 1 4),ay 35 true (aw 37 1 36),ay 35 true (aT 38 .neq 37 3),ay 31 false (ef 39 35 38),dy 40 31 39]) (aU 40 (aa [bt 2 false] .ret) .skip)))) (.region [aT 41 .add 7 1,I 7 41])))) (aa [bt 2 true] .ret)))
def SD:C:=(aa [bt 2 false] (.seq (aa [I 5 0,cp 6 5,b1 7 0] (fR 8 7 6 (.seq (.block 1 (aa [I 9 7,cx 10 2 5 7,bg 11 2 10,c8 (.alloc 4 none (.agg [.int .i64 0,.str []])),I 3 9,b7 2 4 11] (.seq (.drawn true 37 [I 12 3,aT 13 .gtr 12 0,I 14 13,cg 14 true 15 0,cg 14 true 16 3,ay 14 true (aT 17 .sub 16 1),ay 14 true (cx 18 2 15 17),ay 14 true (bg 19 2 18),ay 14 true (bg 20 2 4),ay 14 true (cq 21 120 19 20),ay 14 true (cJ 22 21),ef 23 14 22,I 24 23,ay 24 false (aH 25 0 1 4),ay 24 false (aw 26 1 25),ay 24 false (dU 27 69 [.t 26,(gi 0),(gi 100000)]),ay 24 false (cJ 28 27),dy 29 24 28,I 30 29,ay 30 false (aH 31 1 1 4),ay 30 false (aw 32 1 31),ay 30 false (cG 33 121 32),ay 30 false (cJ 34 33),dy 35 30 34]) (aU 35 (aa [bt 2 false] .ret) .skip)))) (.region [aT 36 .add 7 1,I 7 36])))) (aa [bt 2 true] .ret)))
def GH:C:=(aa [dc 2 0,dc 3 1,bt 4 false] (aa [aH 5 0 1 2,aw 6 1 5,aH 7 0 1 3,aw 8 1 7,bp 9 .lss 6 8,I 10 9,ay 10 false (aH 11 0 1 2),ay 10 false (aw 12 1 11),ay 10 false (aH 13 0 1 3),ay 10 false (aw 14 1 13),ay 10 false (bp 15 .eql 12 14),cg 10 false 16 15,ay 16 true (aH 17 1 1 2),ay 16 true (aw 18 1 17),ay 16 true (aH 19 1 1 3),ay 16 true (aw 20 1 19),ay 16 true (bp 21 .lss 18 20),ay 10 false (ef 22 16 21),dy 23 10 22,I 4 23] .ret))
def S2:C:=(aa [fk 4 2,bt 5 false] (aa [eD 10 2 78 [],I 6 10] (aa [bt 7 true] (.seq (.seq (.fg false 6 (.region [I 11 1,cp 12 11,b1 13 0])) (fR 14 13 12 (.seq (.block 1 (aa [cx 15 2 11 13,bg 16 2 15,c8 (.alloc 9 none (.agg [.int .i64 0,.int .i64 0])),b7 2 9 16] (.seq (.drawn true 33 [I 18 6,I 19 0,aH 20 0 1 9,aw 21 1 20,cG 22 40 21,cq 23 161 19 22,aH 24 1 1 9,aw 25 1 24,dU 26 125 [.t 18,.t 23,.t 25],I 17 26,dn 27 0 17,dn 28 1 17,I 6 27,I 7 28]) (aa [I 29 7,cJ 30 29] (aU 30 (aa [fk 4 2,bt 5 false] .ret) .skip))))) (.region [aT 31 .add 13 1,I 13 31])))) (aa [I 32 6,I 4 32,bt 5 true] .ret)))))
def S3:C:=(aa [fk 4 2,bt 5 false] (aa [eD 10 2 82 [],I 6 10] (aa [bt 7 true] (.seq (.seq (.fg false 6 (.region [I 11 1,cp 12 11,b1 13 0])) (fR 14 13 12 (.seq (.block 1 (aa [cx 15 2 11 13,bg 16 2 15,c8 (.alloc 9 none (.agg [.int .i64 0,.str []])),b7 2 9 16] (.seq (.drawn true 33 [I 18 6,I 19 0,aH 20 0 1 9,aw 21 1 20,cG 22 40 21,cq 23 161 19 22,aH 24 1 1 9,aw 25 1 24,dU 26 162 [.t 18,.t 23,.t 25],I 17 26,dn 27 0 17,dn 28 1 17,I 6 27,I 7 28]) (aa [I 29 7,cJ 30 29] (aU 30 (aa [fk 4 2,bt 5 false] .ret) .skip))))) (.region [aT 31 .add 13 1,I 13 31])))) (aa [I 32 6,I 4 32,bt 5 true] .ret)))))
def AN:C:=(aa [dc 4 1,fk 6 2,bt 7 false] (.seq (aa [aH 10 0 1 4,aw 11 1 10,aT 12 .neq 11 1] (aU 12 (.seq (.drawn true 73 [I 13 0,aH 14 0 1 4,aw 15 1 14,I 16 2,bp 17 .eql 15 16,I 6 13,I 7 17]) .ret) .skip)) (aa [b1 8 0] (.seq (.block 0 (.loop (.seq (.seq (.drawn true 73 [I 18 8,I 19 0,cp 20 19,bp 21 .lss 18 20,I 22 21,cg 22 true 23 0,cg 22 true 24 8,ay 22 true (cx 25 2 23 24),ay 22 true (aH 26 0 1 25),ay 22 true (aw 27 1 26),ay 22 true (aH 28 1 1 4),ay 22 true (aw 29 1 28),ay 22 true (bp 30 .lss 27 29),ef 31 22 30]) (aU 31 .skip (.exit 0))) (.block 1 (.region [I 32 8,aT 33 .add 32 1,I 8 33]))))) (.seq (.seq (.drawn true 73 [I 34 8,I 35 0,cp 36 35,bp 37 .lss 34 36,I 38 37,cg 38 true 39 0,cg 38 true 40 8,ay 38 true (cx 41 2 39 40),ay 38 true (aH 42 0 1 41),ay 38 true (aw 43 1 42),ay 38 true (aH 44 1 1 4),ay 38 true (aw 45 1 44),ay 38 true (bp 46 .eql 43 45),ef 47 38 46]) (aU 47 (.seq (.drawn true 73 [I 48 0,I 49 0,I 50 8,cx 51 2 49 50,aH 52 1 1 51,aw 53 1 52,I 54 2,bp 55 .eql 53 54,I 6 48,I 7 55]) .ret) .skip)) (aa [eD 56 2 78 [],I 57 0,I 58 8,bG 59 (.lsl 2 (.t 57) none (some (.t 58))),hW 60 2 78 56 59,I 9 60] (aa [I 61 9,aH 62 1 1 4,aw 63 1 62,I 64 2,bG 65 (.build [.int .i64 0,.int .i64 0] [(0,1,(.t 63)),(1,1,(.t 64))]),eD 66 2 78 [.t 65],hW 67 2 78 61 66,I 9 67] (aa [I 68 9,I 69 0,I 70 8,bG 71 (.lsl 2 (.t 69) (some (.t 70)) none),hW 72 2 78 68 71,I 6 72,bt 7 true] .ret))))))))
def KM:C:=(aa [dc 4 1,fk 6 2,bt 7 false] (.seq (aa [bg 13 4 4,I 14 2,cq 15 182 13 14] (aU 15 (aa [fk 6 2,bt 7 false] .ret) .skip)) (.seq (aa [bg 16 4 4,dU 17 119 [.t 16,(.c (.slice 1 .nil []))],cp 18 17,b1 19 0] (fR 20 19 18 (.seq (.block 1 (aa [cx 21 1 17 19,aw 22 1 21,I 9 22] (aa [I 23 9,I 24 2,bG 25 (.build [.int .i64 0,.str []] [(0,1,(.t 23)),(1,1,(.t 24))]),c8 (.alloc 10 none (.agg [.int .i64 0,.str []])),b7 2 10 25] (aa [b1 11 0] (.seq (.block 2 (.loop (.seq (.seq (.drawn true 68 [I 26 11,I 27 0,cp 28 27,bp 29 .lss 26 28,I 30 29,cg 30 true 31 0,cg 30 true 32 11,ay 30 true (cx 33 2 31 32),ay 30 true (bg 34 2 33),ay 30 true (bg 35 2 10),ay 30 true (cq 36 120 34 35),ef 37 30 36]) (aU 37 .skip (.exit 2))) (.block 3 (.region [I 38 11,aT 39 .add 38 1,I 11 39]))))) (.seq (.drawn true 68 [I 40 11,I 41 0,cp 42 41,bp 43 .eql 40 42,I 44 43,ay 44 false (bg 45 2 10),cg 44 false 46 0,cg 44 false 47 11,ay 44 false (cx 48 2 46 47),ay 44 false (bg 49 2 48),ay 44 false (cq 50 120 45 49),dy 51 44 50]) (aU 51 (aa [eD 52 2 82 [],I 53 0,I 54 11,bG 55 (.lsl 2 (.t 53) none (some (.t 54))),hW 56 2 82 52 55,I 12 56] (aa [I 57 12,bg 58 2 10,eD 59 2 82 [.t 58],hW 60 2 82 57 59,I 12 60] (.region [I 61 12,I 62 0,I 63 11,bG 64 (.lsl 2 (.t 62) (some (.t 63)) none),hW 65 2 82 61 64,I 0 65]))) .skip))))))) (.fg false 0 (.region [aT 66 .add 19 1,I 19 66]))))) (aa [I 67 0,I 6 67,bt 7 true] .ret))))
def AM:C:=(aa [dc 2 0,bt 4 false] (.seq (aa [aH 7 3 1 2,aw 8 1 7,cp 9 8,b1 10 0] (fR 11 10 9 (.seq (.block 1 (aa [cx 12 4 8 10,bg 13 4 12,eg 6 eI,b7 4 6 13] (aa [bg 14 4 6,I 15 1,cq 16 182 14 15] (aU 16 (aa [bt 4 true] .ret) .skip)))) (.region [aT 17 .add 10 1,I 10 17])))) (aa [aH 18 0 1 2,aw 19 1 18,aT 20 .eql 19 2,I 21 20,ay 21 true (aH 22 2 1 2),ay 21 true (aw 23 1 22),cg 21 true 24 1,ay 21 true (bp 25 .eql 23 24),ef 26 21 25,I 4 26] .ret)))
def wK:List (Nat×dE):=[
 (3,⟨1,8,.int .i64,.int .i64 0⟩),
 (9,⟨1,16,.str,.str []⟩),
 (32,⟨1,24,.slice 78,.slice 2 .nil []⟩),
 (33,⟨1,24,.slice 82,.slice 2 .nil []⟩),
 (44,⟨1,24,.slice 71,.slice 4 .nil []⟩),
 (71,⟨4,56,.struct [(0,3),(1,3),(2,9),(3,44)],.agg [.int .i64 0,.int .i64 0,.str [],.slice 4 .nil []]⟩),
 (78,⟨2,16,.struct [(0,3),(1,3)],.agg [.int .i64 0,.int .i64 0]⟩),
 (82,⟨2,24,.struct [(0,3),(1,9)],.agg [.int .i64 0,.str []]⟩),
 (128,⟨1,24,.slice 3,.slice 1 .nil []⟩)]
theorem ng:e6 ar wK=true:=an
theorem amP:b4 wK SC [.tmp 2] 1 Tryz.f72=true:=an
theorem amQ:b4 wK SD [.tmp 2] 1 Tryz.f73=true:=an
theorem N7:b4 wK GH [.tmp 4] 2 Tryz.f120=true:=an
theorem anc:b4 wK S2 [.tmp 4,.tmp 5] 2 Tryz.f123=true:=an
theorem ane:b4 wK S3 [.tmp 4,.tmp 5] 2 Tryz.f124=true:=an
theorem E9:b4 wK AN [.tmp 6,.tmp 7] 3 Tryz.f125=true:=an
theorem Yb:b4 wK KM [.tmp 6,.tmp 7] 3 Tryz.f162=true:=an
theorem E8:b4 wK AM [.tmp 4] 2 Tryz.f182=true:=an
open Classical in
theorem aqZ(l:List bN):bL ar 72 [.slice 2 .no (l.map bN.e)] (.bool (decide (jl l))):=by
 generalize bq:decide (jl l)=R;refine bs ng Tryz.func72 amP fun z=>?_;unfold SC;have B:l.length<=68719476736:=by simp[e1,eK,eV,lim]at z;omega
 simp;refine eG [0,5,6] (fun i (_:Unit)=>[(7,.int .i64 i)]) l.length (fun i _=> ∀j,j<i->iP na og l j) () b6 (fun k E=>Ω) (fun _ r _=>?_) (fun i _ hi r _=>?_)
 ·have:R=true:=by rw[<-bq,e8,H5];exact r
  rw[this];exact cn
 ·obtain⟨b,ae⟩:∃b,l[i]? =some b:=⟨_,cl hi⟩;obtain⟨c,ax⟩:∃c,l[i-1]? =some c:=⟨_,cl Ω⟩;have d:∀h,(l[i]'h)=b:=fun h=>by rw[cl hi]at ae;exact fK ae
  have p:¬iP na og l i->R=false:=fun h=>by rw[<-bq,iq];exact fun w=>h (H5.1 w i hi)
  have dr:iP na og l i->∀j,j<i+1->iP na og l j:=fun h j A=>by
   by_cases e:j=i
   ·rw[e];exact h
   ·exact r j Ω
  have o:iP na og l i->na b:=fun h=>(h b ae).1;have x:iP na og l i->0<i->c.v<b.v:=fun h a=>(h b ae).2 c a ax;have t:na b->(0<i->c.v<b.v)->iP na og l i:=fun J U cb u=>by rw[ae]at u;cases u;exact⟨J,fun D a s=>by rw[ax]at s;cases s;exact U a⟩
  unfold na at o t;by_cases g0:0<i/\¬c.v<b.v
  ·rw[p (fun h=>g0.2 (x h g0.1))];have y:=g0.1;have g:b.v<=c.v:=Ω
   exact cn
  have m:(decide (0<i)&&decide (b.v<=c.v))=false:=by simp;intro h;by_cases v:c.v<b.v;exact v;exact absurd ⟨h,v⟩ g0
  by_cases g1:0<=b.v/\b.v<=100000;rotate_left
  ·rw[p (fun h=>g1 (o h).1)];have f:decide (0<=b.v/\b.v<=100000)=false:=by simp only[iq];exact g1
   by_cases a:0<i
   ·have g:¬b.v<=c.v:=by simp[a]at m;omega
    simp[hi,d,ax];(with_reducible repeat' first|refine al ?_|refine aI (dL _ _ _) ?_|refine aJ (dL _ _ _) ?_|simp[d,ax,hi,a,g,f,g1]);all_goals simp[bE,aX,a1,aV]
   ·obtain rfl:i=0:=Ω
    simp[hi,d,ax];(with_reducible repeat' first|refine al ?_|refine aI (dL _ _ _) ?_|refine aJ (dL _ _ _) ?_|simp[d,ax,hi,f,g1]);all_goals simp[bE,aX,a1,aV]
  have f:decide (0<=b.v/\b.v<=100000)=true:=by simp only[e8];exact g1
  by_cases g2:b.k=2\/b.k=3;rotate_left
  ·rw[p (fun h=>g2 (o h).2)];have g21:(b.k !=2)=true:=by simp;omega
   have g22:(b.k !=3)=true:=by simp;omega
   by_cases a:0<i
   ·have g:¬b.v<=c.v:=by simp[a]at m;omega
    simp[hi,d,ax];(with_reducible repeat' first|refine al ?_|refine aI (dL _ _ _) ?_|refine aJ (dL _ _ _) ?_|simp[d,ax,hi,a,g,f,g1,g21,g22]);all_goals simp[bE,aX,a1,aV]
   ·obtain rfl:i=0:=Ω
    simp[hi,d,ax];(with_reducible repeat' first|refine al ?_|refine aI (dL _ _ _) ?_|refine aJ (dL _ _ _) ?_|simp[d,ax,hi,f,g1,g21,g22]);all_goals simp[bE,aX,a1,aV]
  have n:=dr (t ⟨g1,g2⟩ fun a=>by simp[a]at m;omega);have q:((b.k !=2)=false)\/((b.k !=2)=true/\(b.k !=3)=false):=by
   rcases g2 with h|h
   ·left;simp[h]
   ·right;simp[h]
  rcases q with g21|⟨g21,g22⟩
  ·by_cases a:0<i
   ·have g:¬b.v<=c.v:=by simp[a]at m;omega
    simp[hi,d,ax];(with_reducible repeat' first|refine al ?_|refine aI (dL _ _ _) ?_|refine aJ (dL _ _ _) ?_|simp[d,ax,hi,a,g,f,g1,g21]);all_goals exact bO.rng () hi n b6
   ·obtain rfl:i=0:=Ω
    simp[hi,d,ax];(with_reducible repeat' first|refine al ?_|refine aI (dL _ _ _) ?_|refine aJ (dL _ _ _) ?_|simp[d,ax,hi,f,g1,g21]);all_goals exact bO.rng () hi n b6
  ·by_cases a:0<i
   ·have g:¬b.v<=c.v:=by simp[a]at m;omega
    simp[hi,d,ax];(with_reducible repeat' first|refine al ?_|refine aI (dL _ _ _) ?_|refine aJ (dL _ _ _) ?_|simp[d,ax,hi,a,g,f,g1,g21,g22]);all_goals exact bO.rng () hi n b6
   ·obtain rfl:i=0:=Ω
    simp[hi,d,ax];(with_reducible repeat' first|refine al ?_|refine aI (dL _ _ _) ?_|refine aJ (dL _ _ _) ?_|simp[d,ax,hi,f,g1,g21,g22]);all_goals exact bO.rng () hi n b6
theorem mG(a b:bk):bL ar 120 [a.e,b.e] (.bool (ij fJ a b)):=by
 rw[<-XH];have bq:uL a b=(decide (a.v<b.v)||(a.v==b.v&&hX a.s b.s)):=rfl;rcases Int.lt_trichotomy a.v b.v with h|h|h
 ·have:uL a b=true:=by rw[bq];simp[h]
  rw[this];refine bs ng Tryz.func120 N7 fun c=>?_;unfold GH;exact cn
 ·have J:¬a.v<b.v:=Ω
  have U:(a.v==b.v)=true:=by simp[h]
  have:uL a b=hX a.s b.s:=by rw[bq];simp[h]
  rw[this];refine bs ng Tryz.func120 N7 fun c=>?_;unfold GH;exact cn
 ·have J:¬a.v<b.v:=Ω
  have U:¬a.v=b.v:=Ω
  have d:(a.v==b.v)=false:=by simp[U]
  have:uL a b=false:=by rw[bq];simp[J,U]
  rw[this];refine bs ng Tryz.func120 N7 fun c=>?_;unfold GH;exact cn
def Wn(l:List dj)(i:Nat)(_:Unit):Prop:= ∀j,j<i->B5 l j
open Classical in
theorem aqG(l:List dj):bL ar 118 [.slice 5 .no (l.map dj.e)] (.bool (decide (Az l))):=by
 generalize bq:decide (Az l)=R;refine bs e7 Tryz.func118 am5 fun r=>?_;unfold SU;have s:l.length<=68719476736:=by simp[e1,eK,eV,lim]at r;omega
 simp;refine eG [0,5,6] (fun i (_:Unit)=>[(7,.int .i64 i)]) l.length (Wn l) () b6 (fun k v=>Ω) (fun _ d _=>?_) (fun i _ hi d _=>?_)
 ·have:R=decide (l.length<=400):=by rw[<-bq,decide_eq_decide];exact⟨fun h=>h.1,fun h=>⟨h,fun j f=>d j f⟩⟩
  rw[this];simp;(with_reducible repeat' first|refine al ?_|simp);simp[bE,aX,a1,aV];all_goals(first|done|omega|(simp;done)|(simp;omega))
 ·obtain⟨b,ae⟩:∃b,l[i]? =some b:=⟨_,cl hi⟩;obtain⟨c,ax⟩:∃c,l[i-1]? =some c:=⟨_,cl Ω⟩;have n:∀h,(l[i]'h)=b:=fun h=>by rw[cl hi]at ae;exact fK ae
  have o:¬B5 l i->R=false:=fun h=>by rw[<-bq,iq];exact fun a=>h (a.2 i hi)
  have dr:B5 l i->Wn l (i+1) ():=fun h j f=>by
   by_cases e:j=i
   ·rw[e];exact h
   ·exact d j Ω
  simp[hi,n,ax];((with_reducible repeat' first|refine al ?_|refine aI (dL _ _ _) ?_|refine aJ (dL _ _ _) ?_|refine aI (aaU _) ?_|refine aJ (aaU _) ?_|simp[n,ax,hi]|((first|apply bQ|apply bT|apply bS)<;>intro h<;>try simp at h))<;>(try exact cv));all_goals first
   |(have p:¬B5 l i:=by(intro a;have J:=a b ae;have U:=J.2.1 c;have q:=J.2.2;first|omega|(have w:=U Ω ax;omega)|(rw[q]at h;cases h)|(simp_all;done)|(simp_all;omega))
     rw[o p]
     simp[bE,aX,a1,aV]
     done)
   |(refine bO.rng () hi (dr fun cb m=>?_) ?_
     ·rw[ae]at m;cases m
      refine⟨?_,fun t u g=>?_,?_⟩
      ·omega
      ·rw[ax]at g;cases g;omega
      ·first|assumption|simp_all
     ·exact b6)
def nx(n:Int):List Int->List Int
 |[]=>[n]
 |c::l=>if c<n then c::nx n l else if c=n then c::l else n::c::l
def u7(l:List Int):Prop:=l.Pairwise (· < ·)
theorem Wf(n:Int):∀(l:List Int) (k:Nat),(∀i c,i<k->l[i]? =some c->c<n)->(∀c,l[k]? =some c->n<=c)->k<=l.length->nx n l=if l[k]? =some n then l else l.take k++n::l.drop k
 |[],k,_,_,a=>by simp at a;subst a;rfl
 |c::l,0,_,U,_=>by
  have:=U c rfl;by_cases e:c=n
  ·simp[nx,e]
  ·have g:¬c<n:=Ω
   simp[nx,g,e]
 |c::l,k+1,J,U,a=>by have f:=J 0 c Ω rfl;simp only[nx,if_pos f,List.take_succ_cons,List.drop_succ_cons,bX,List.getElem?_cons_succ];rw[Wf n l k (fun i d hi b=>J (i+1) d Ω (by simpa using b)) (fun d b=>U d (by simpa using b)) (by simpa using a)];split<;>rfl
theorem Nw{n m:Int}:∀{l:List Int},m∈nx n l↔m=n\/m∈l
 |[]=>by simp[nx]
 |c::l=>by
  simp only[nx];split
  ·simp only[gp,Nw (l:=l)];constructor
   ·rintro(h|h|h)
    ·exact .inr (.inl h)
    ·exact .inl h
    ·exact .inr (.inr h)
   ·rintro(h|h|h)
    ·exact .inr (.inl h)
    ·exact .inl h
    ·exact .inr (.inr h)
  ·split
   ·rename_i h;subst h;simp
   ·simp
theorem We{n:Int}:∀{l:List Int},u7 l->u7 (nx n l)
 |[],_=>by simp[nx,u7]
 |c::l,h=>by
  obtain⟨J,U⟩:=nO.1 h;simp only[nx];split
  ·rename_i a;refine nO.2 ⟨fun m hm=>?_,We U⟩;rcases Nw.1 hm with rfl|hm
   ·exact a
   ·exact J m hm
  ·split
   ·exact h
   ·refine nO.2 ⟨fun m hm=>?_,h⟩;rcases gp.1 hm with rfl|hm
    ·omega
    ·have:=J m hm;omega
theorem Wg(n:Int):∀l:List Int,(nx n l).length<=l.length+1
 |[]=>by simp[nx]
 |c::l=>by
  have:=Wg n l;simp only[nx];split
  ·simp;omega
  ·split<;>simp
theorem EC(l:List Int)(i:Nat):(eS l)[i]? =(l[i]?).map (ah.int .i64):=by simp[eS]
theorem ft(l:List Int):(eS l).length=l.length:=by simp[eS]
theorem Af:∀l:List Int,cK (eS l)=eS l
 |[]=>by simp[eS,cK]
 |a::l=>by have:=Af l;simp only[eS,fA,cK,de]at this⊢;rw[this]
theorem HU(l:List Int)(n:Int)(k:Nat):cK (mH k (eS l)++ah.int .i64 n::oB k (mH l.length (eS l)))=eS (mH k l++n::oB k l):=by
 have e:mH l.length (eS l)=eS l:=gC (by simp[eS]);have a:mH k (eS l)++ah.int .i64 n::oB k (eS l)=eS (mH k l++n::oB k l):=by simp only[eS,List.map_append,fA,List.map_take,List.map_drop]
 rw[e,a];exact Af _
theorem aqB(l:List Int)(n:Int)(G:l.length<=1000000)(E:u7 l):bL ar 160 [.slice 1 .no (eS l),.int .i64 n] (.slice 1 .no (eS (nx n l))):=by
 refine bs e7 Tryz.func160 amW fun H=>?_;unfold SJ;simp;refine w7 [0,1] (fun(k:Nat)=>[(5,.int .i64 k)]) (fun k=>k) (fun k=>k<=l.length/\∀c,l[k]? =some c->n<=c) l.length b6 ⟨Ω,fun c h=>by simp at h⟩ (fun k v _=>?_);obtain⟨F,v⟩:=v;have B:(∀c,0<k->l[k-1]? =some c->c<n)->nx n l=if l[k]? =some n then l else l.take k++n::l.drop k:=fun h=>Wf n l k (fun i c hi ax=>by
  obtain⟨d,b⟩:∃d,l[k-1]? =some d:=⟨_,cl Ω⟩;have J:=h d Ω b;rcases Nat.lt_or_ge i (k-1)with U|U
  ·have w:=(fy.1 ax);have x:=(fy.1 b);have:=qN.1 E i (k-1) w.1 x.1 U;rw[w.2,x.2]at this;omega
  ·have:i=k-1:=Ω
   subst this;rw[b]at ax;cases ax;exact J) v F
 have y:∀c,l[k]? =some c->∀h,((eS l)[k]'h)= .int .i64 c:=fun c h t=>by have:=EC l k;rw[h,cl t]at this;exact fK this
 have z:(0<k->∃d,l[k-1]? =some d/\d<n)->∀P:Prop,(nx n l=(if l[k]? =some n then l else l.take k++n::l.drop k)->P)->P:=fun h P u=>u (B fun c A ax=>by obtain⟨d,b,J⟩:=h A;rw[b]at ax;cases ax;exact J)
 rcases Nat.eq_zero_or_pos k with A|j
 ·have r:decide ((0:Int)<k)=false:=by simp;omega
  refine z (fun h=>Ω) _ fun e=>?_;by_cases a:k<l.length
  ·obtain⟨c,ax⟩:∃c,l[k]? =some c:=⟨_,cl a⟩;have s:=y c ax;rw[ax]at e;by_cases q:c=n
   ·have p:(c==n)=true:=by simp[q]
    rw[if_pos (by rw[q])]at e;rw[e];simp[r,a];((with_reducible repeat' first|refine al ?_|simp[r,a,s,p]|((first|apply bQ|apply bT|apply bS)<;>intro h<;>try simp at h))<;>(try exact cv));all_goals simp[bE,aX,a1,aV]
   ·have p:(c==n)=false:=by simp[q]
    rw[if_neg (by simp[q])]at e;rw[e];simp[r,a];((with_reducible repeat' first|refine al ?_|simp[r,a,s,p]|((first|apply bQ|apply bT|apply bS)<;>intro h<;>try simp at h))<;>(try exact cv));all_goals simp[bE,aX,a1,aV]
    all_goals exact HU l n k
  ·rw[rC Ω]at e;simp only[reduceCtorEq,if_false]at e;rw[e];simp[r,a];((with_reducible repeat' first|refine al ?_|simp[r,a]|((first|apply bQ|apply bT|apply bS)<;>intro h<;>try simp at h))<;>(try exact cv));all_goals simp[bE,aX,a1,aV]
   all_goals exact HU l n k
 ·obtain⟨d,b⟩:∃d,l[k-1]? =some d:=⟨_,cl Ω⟩;have m:((k:Int)-1).toNat=k-1:=Ω
  have o:∀h,((eS l)[k-1]'h)= .int .i64 d:=fun t=>by have:=EC l (k-1);rw[b,cl t]at this;exact fK this
  have g:(0:Int)<k:=Ω
  have f:k-1<l.length:=Ω
  by_cases ae:n<=d
  ·simp[j,g,m,o,ae,f];(with_reducible repeat' first|refine al ?_|simp[j,g,m,o,ae,f]);refine bO.whl (k-1) Ω ⟨Ω,fun c ax=>by rw[b]at ax;cases ax;exact ae⟩ ?_;have D:((k-1:Nat):Int)=(k:Int)-1:=Ω
   simp[D];exact b6
  ·refine z (fun _=>⟨d,b,Ω⟩) _ fun e=>?_;by_cases a:k<l.length
   ·obtain⟨c,ax⟩:∃c,l[k]? =some c:=⟨_,cl a⟩;have s:=y c ax;rw[ax]at e;by_cases q:c=n
    ·have p:(c==n)=true:=by simp[q]
     rw[if_pos (by rw[q])]at e;rw[e];simp[j,g,m,o,ae,f,a];((with_reducible repeat' first|refine al ?_|simp[j,g,m,o,ae,f,a,s,p]|((first|apply bQ|apply bT|apply bS)<;>intro h<;>try simp at h))<;>(try exact cv));all_goals simp[bE,aX,a1,aV]
    ·have p:(c==n)=false:=by simp[q]
     rw[if_neg (by simp[q])]at e;rw[e];simp[j,g,m,o,ae,f,a];(with_reducible repeat' first|refine al ?_|simp[j,g,m,o,ae,f,a,s,p]);all_goals simp[bE,aX,a1,aV]
     all_goals exact HU l n k
   ·rw[rC Ω]at e;simp only[reduceCtorEq,if_false]at e;rw[e];simp[j,g,m,o,ae,f,a];(with_reducible repeat' first|refine al ?_|simp[j,g,m,o,ae,f,a]);all_goals simp[bE,aX,a1,aV]
    all_goals exact HU l n k
end
end Go.Proofs.YtfeencekjcjalaaGreatDoor
