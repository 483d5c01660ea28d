/- Contracts: valid states of the reference. -/
import Derived.ProofKit
import Derived.Carry
import Derived.WalkKit
import Derived.Deep.Slices
import Derived.Test.YtahlgcidhnjlbaaGreatProg
import Derived.Test.YtahlgcidhnjlbaaGreatF4
set_option linter.all false
set_option maxHeartbeats 4000000
set_option maxRecDepth 4000
open Bool renaming and_eq_true->cR,eq_iff_iff->q2,false_eq_true->hT,not_eq_true'->sN,or_eq_true->og
open Go renaming TypeId->gQ
open Go.DataW renaming trod->jB
open Go.IntKind renaming i64->vo
open Go.IntWalk renaming i64_in->pt
open Go.Op renaming bytesLess->iw
open Go.Proofs.Tryz renaming prog->au
open Go.Value renaming cells->pw
open List renaming all_eq_true->j7,cons_append->b6,drop->oV,drop_eq_getElem_cons->lH,getElem?_append_left->rS,getElem?_append_right->vp,getElem?_eq_getElem->cl,getElem?_eq_none->q3,getElem?_eq_some_iff->fH,getElem_of_mem->pA,length_append->qe,length_cons->mw,length_drop->uf,map_cons->ha,mem_append->kg,mem_cons->gJ,mem_filter->oW,mem_map->hb,mem_of_getElem?->ft,nil_append->ca,pairwise_cons->oh,pairwise_iff_getElem->q4,take->mX,take_length->jC,take_of_length_le->ix
open List.Pairwise renaming filter->adk
open Nat renaming le_refl->dP,le_trans->kE
open Option renaming bind_eq_some_iff->mY,getD_none->k5,getD_some->lJ,isSome_none->kh,isSome_some->rV
open Option.some renaming inj->e7,injEq->dU
open _root_ renaming False->er,Option->be,UInt8->cJ,and_true->jf,beq_iff_eq->ey,congrArg->fy,decide_eq_false->mx,decide_eq_false_iff_not->iR,decide_eq_true->lK,decide_eq_true_eq->gz,eq_true->h4
namespace Go.Proofs.YtahlgcidhnjlbaaGreat
section
open Go Go.Pv
inductive gW where
 |s (l:List cJ)
 |b (x:ByteArray)
def gW.e:gW->af
 | .s l=>.str l
 | .b x=>.cst (.string x)
def gW.len:gW->Int
 | .s l=>l.length
 | .b x=>x.size
def mV(n:Nat):Prop:=lim<n/\n<=9223372036854775807
def gW.wf:gW->Prop
 | .s _=>True
 | .b x=>mV x.size
inductive dA (α:Type) where
 |l (xs:List α)
 |b (p:be Addr) (n cap:Nat)
def dA.e{α:Type}(sz:Nat)(f:α->af):dA α->af
 | .l xs=>.slice sz .no (xs.map f)
 | .b p n cap=>.cst (.slice p n cap)
def dA.wf{α:Type}(P:α->Prop):dA α->Prop
 | .l xs=> ∀x∈xs,P x
 | .b _ n _=>mV n
inductive cG where
 |mk (k n:Int) (s:gW) (a:List cG)
 |big (k n:Int) (s:gW) (p:be Addr) (len cap:Nat)
mutual
def cG.e:cG->af
 | .mk k n s a=>.agg [aj k,aj n,s.e,dx (cG.eL a)]
 | .big k n s p len cap=>.agg [aj k,aj n,s.e,.cst (.slice p len cap)]
def cG.eL:List cG->List af
 |[]=>[]
 |x::xs=>x.e::cG.eL xs
end
def cG.eL_map:∀l,cG.eL l=l.map cG.e
 |[]=>rfl
 |x::xs=>by simp[cG.eL,cG.eL_map xs]
def cG.kind:cG->Int| .mk k _ _ _=>k| .big k _ _ _ _ _=>k
def cG.num:cG->Int| .mk _ n _ _=>n| .big _ n _ _ _ _=>n
def cG.name:cG->gW| .mk _ _ s _=>s| .big _ _ s _ _ _=>s
def cG.args:cG->dA cG| .mk _ _ _ a=>.l a| .big _ _ _ p l c=>.b p l c
def cG.e_eq(t:cG):t.e= .agg [aj t.kind,aj t.num,t.name.e,t.args.e 4 cG.e]:=by
 cases t with
 |mk k n s a=>simp only[cG.e,cG.eL_map];rfl
 |big=>rfl
@[simp]def awa(S:aB->Prop)(s:gW):az S s.e=True:=by cases s<;>simp[gW.e,az]
@[simp]def ax0(s:gW):b7 s.e=s.e:=by cases s<;>simp[gW.e,b7]
mutual
def X3(S:aB->Prop):∀t:cG,az S t.e
 | .mk k n s a=>by simp[cG.e,az,aH,N7 S a]
 | .big k n s p l c=>by simp[cG.e,az,aH]
def N7(S:aB->Prop):∀l:List cG,aH S (cG.eL l)
 |[]=>by simp[cG.eL,aH]
 |x::xs=>by simp[cG.eL,aH,X3 S x,N7 S xs]
end
mutual
def abR:∀t:cG,b7 t.e=t.e
 | .mk k n s a=>by simp[cG.e,b7,cf,Qx a]
 | .big k n s p l c=>by simp[cG.e,b7,cf]
def Qx:∀l:List cG,cf (cG.eL l)=cG.eL l
 |[]=>by simp[cG.eL,cf]
 |x::xs=>by simp[cG.eL,cf,abR x,Qx xs]
end
@[simp]def awj(S:aB->Prop)(t:cG):az S t.e=True:=h4 (X3 S t)
@[simp]def avW(S:aB->Prop)(l:List cG):aH S (l.map cG.e)=True:=by rw[<-cG.eL_map];exact h4 (N7 S l)
@[simp]def ax8(t:cG):b7 t.e=t.e:=abR t
@[simp]def axQ(l:List cG):cf (l.map cG.e)=l.map cG.e:=by rw[<-cG.eL_map];exact Qx l
@[simp]def axM(t:cG):eU t.e=true:=by rw[cG.e_eq];rfl
@[simp]def avG(t:cG):qJ 4 t.e:=by rw[cG.e_eq];exact⟨_,rfl,rfl⟩
@[simp]def auu(t:cG):cells t.e=[aj t.kind,aj t.num,t.name.e,t.args.e 4 cG.e]:=by rw[cG.e_eq];rfl
@[simp]def av9(S:aB->Prop)(x:dA cG):az S (x.e 4 cG.e)=True:=by cases x<;>simp[dA.e,az]
@[simp]def axZ(x:dA cG):b7 (x.e 4 cG.e)=x.e 4 cG.e:=by cases x<;>simp[dA.e,b7]
mutual
def cG.sz:cG->Nat
 | .mk _ _ _ a=>1+cG.szL a
 | .big _ _ _ _ _ _=>1
def cG.szL:List cG->Nat
 |[]=>0
 |x::xs=>x.sz+cG.szL xs
end
def cG.szL_mem:∀{l:List cG} {x:cG},x∈l->x.sz<=cG.szL l
 |y::l,x,h=>by
  rcases gJ.1 h with rfl|h
  ·simp[cG.szL]
  ·have:=cG.szL_mem h;simp[cG.szL];omega
mutual
def cG.wf:cG->Prop
 | .mk _ _ s a=>s.wf/\cG.wfL a
 | .big _ _ s _ l _=>s.wf/\mV l
def cG.wfL:List cG->Prop
 |[]=>True
 |x::xs=>x.wf/\cG.wfL xs
end
def cG.wfL_iff:∀{l:List cG},cG.wfL l↔∀x∈l,x.wf
 |[]=>by simp[cG.wfL]
 |x::l=>by simp[cG.wfL,cG.wfL_iff (l:=l)]
def jT{α:Type}(f:α->Int->Int):List α->Int->Int
 |[],m=>m
 |x::xs,m=>if f x m<0 then-1 else jT f xs (f x m)
def mr{α:Type}(f:α->Int->Int)(l:List α)(m:Int):Int:=if m-l.length<0 then-1 else jT f l (m-l.length)
def fs{α:Type}(f:α->Int->Int):dA α->Int->Int
 | .l xs,m=>mr f xs m
 | .b _ _ _,_=> -1
def abW{α:Type}{f:α->Int->Int}(a:∀x m,0<=m-> -1<=f x m/\f x m<=m):∀(l:List α) (m:Int),0<=m-> -1<=jT f l m/\jT f l m<=m
 |[],m,h=>by simp only[jT];omega
 |x::xs,m,h=>by
  have J:=a x m h;simp only[jT];split
  ·omega
  ·have U:=abW a xs (f x m) Ω;omega
def arH{α:Type}{f:α->Int->Int}(a:∀x m,0<=m-> -1<=f x m/\f x m<=m)(l:List α)(m:Int)(h:0<=m): -1<=mr f l m/\mr f l m<=m:=by
 unfold mr;split
 ·omega
 ·have:=abW a l (m-l.length) Ω;omega
def vi{α:Type}{f:α->Int->Int}(a:∀x m,0<=m-> -1<=f x m/\f x m<=m)(l:dA α)(m:Int)(h:0<=m): -1<=fs f l m/\fs f l m<=m:=by
 cases l with
 |l xs=>exact arH a xs m h
 |b=>simp only[fs];omega
mutual
def hD:cG->Int->Int
 | .mk _ _ s a,m=>if m-s.len<0 then-1 else if m-s.len-a.length<0 then-1 else qV a (m-s.len-a.length)
 | .big _ _ s _ _ _,m=>if m-s.len<0 then-1 else-1
def qV:List cG->Int->Int
 |[],m=>m
 |x::xs,m=>if hD x m<0 then-1 else qV xs (hD x m)
end
def abZ:∀(l:List cG) (m:Int),qV l m=jT hD l m
 |[],m=>rfl
 |x::xs,m=>by simp only[qV,jT,abZ xs]
def J8(t:cG)(m:Int):hD t m=if m-t.name.len<0 then-1 else fs hD t.args (m-t.name.len):=by
 cases t with
 |mk=>simp only[hD,fs,mr,abZ,cG.name,cG.args];rfl
 |big=>simp only[hD,fs,cG.name,cG.args];rfl
def gW.len_nn(s:gW):0<=s.len:=by cases s<;>simp[gW.len]
mutual
def yr:∀(t:cG) (m:Int),0<=m-> -1<=hD t m/\hD t m<=m
 | .mk _ _ s a,m,h=>by
  have:=s.len_nn;simp only[hD];split
  ·omega
  ·split
   ·omega
   ·have:=ab0 a (m-s.len-a.length) Ω;omega
 | .big _ _ s _ _ _,m,h=>by simp only[hD];split<;>omega
def ab0:∀(l:List cG) (m:Int),0<=m-> -1<=qV l m/\qV l m<=m
 |[],m,h=>by simp only[qV];omega
 |x::xs,m,h=>by
  have J:=yr x m h;simp only[qV];split
  ·omega
  ·have U:=ab0 xs (hD x m) Ω;omega
end
def gW.small{s:gW}(hw:s.wf){m:Int}(a:m<=1048576)(h:0<=m-s.len):∃l,s= .s l:=by
 cases s with
 |s l=>exact⟨l,rfl⟩
 |b x=>simp only[gW.wf,mV,lim]at hw;simp only[gW.len]at h;omega
mutual
def qa:Tm->cG
 | .mk k n s a=>.mk k n (.s s) (qY a)
def qY:List Tm->List cG
 |[]=>[]
 |x::xs=>qa x::qY xs
end
def acd:∀l,qY l=l.map qa
 |[]=>rfl
 |x::xs=>by simp[qY,acd xs]
mutual
def QM:∀t:Tm,(qa t).e=enc t
 | .mk k n s a=>by simp only[qa,cG.e,enc,acb a];rfl
def acb:∀l:List Tm,cG.eL (qY l)=me l
 |[]=>rfl
 |x::xs=>by simp only[qY,cG.eL,me,QM x,acb xs]
end
mutual
def QD:∀(t:cG) (m:Int),t.wf->m<=1048576->0<=m->0<=hD t m->∃u:Tm,t=qa u
 | .mk k n s a,m,hw,J,d,h=>by
  simp only[cG.wf]at hw;simp only[hD]at h;have:=s.len_nn;split at h
  ·omega
  rename_i g;obtain⟨l,rfl⟩:=gW.small hw.1 J Ω;split at h
  ·omega
  obtain⟨b,c⟩:=ab1 a _ hw.2 Ω Ω h;exact⟨.mk k n l b,by simp only[qa,c]⟩
 | .big _ _ s _ _ _,m,_,_,_,h=>by simp only[hD]at h;split at h<;>omega
def ab1:∀(l:List cG) (m:Int),cG.wfL l->m<=1048576->0<=m->0<=qV l m->∃u:List Tm,l=qY u
 |[],_,_,_,_,_=>⟨[],rfl⟩
 |x::xs,m,hw,J,a,h=>by
  simp only[cG.wfL]at hw;simp only[qV]at h;have U:=yr x m a;split at h
  ·omega
  obtain⟨u,hu⟩:=QD x m hw.1 J a Ω;obtain⟨v,b⟩:=ab1 xs _ hw.2 Ω Ω h;exact⟨u::v,by simp only[qY,hu,b]⟩
end
def abX{α β:Type}{f:α->Int->Int}{P:α->Prop}{g:β->α}(hle:∀x m,0<=m-> -1<=f x m/\f x m<=m)(b:∀x m,P x->m<=1048576->0<=m->0<=f x m->∃y,x=g y):∀(l:List α) (m:Int),(∀x∈l,P x)->m<=1048576->0<=m->0<=jT f l m->∃u:List β,l=u.map g
 |[],_,_,_,_,_=>⟨[],rfl⟩
 |x::xs,m,hw,J,a,h=>by
  simp only[jT]at h;have U:=hle x m a;split at h
  ·omega
  obtain⟨u,hu⟩:=b x m (hw x Ψ) J a Ω;obtain⟨v,c⟩:=abX hle b xs _ (fun y d=>hw y (by simp[d])) Ω Ω h;exact⟨u::v,by rw[ha,<-hu,<-c]⟩
def QC{α β:Type}{f:α->Int->Int}{P:α->Prop}{g:β->α}(hle:∀x m,0<=m-> -1<=f x m/\f x m<=m)(a:∀x m,P x->m<=1048576->0<=m->0<=f x m->∃y,x=g y)(l:dA α)(m:Int)(hw:l.wf P)(J:m<=1048576)(c:0<=m)(h:0<=fs f l m):∃u:List β,l= .l (u.map g):=by
 cases l with
 |b=>simp only[fs]at h;omega
 |l xs=>
  simp only[fs,mr]at h;split at h
  ·omega
  obtain⟨u,hu⟩:=abX hle a xs _ hw Ω Ω h;exact⟨u,by rw[hu]⟩
end
section
open Go Go.Pv Go.ChangeShapes Go.WideShapes Go.ChangeAt Go.RowKit Go.Deep
def rb(W:World):bd:=⟨fun b o=> ∃u,W.cell? ⟨b,o,none⟩=some u,fun _=>none,fun _=>none,fun _ _ _=>er⟩
def X6(W:World)(b:Nat):∀(us:List Value) (off:Nat),(∀i u,us[i]? =some u->W.cell? ⟨b,off+i,none⟩=some u)->kY W (rb W).A b off us
 |[],_,_=>trivial
 |u::us,off,h=>by
  have a:W.cell? ⟨b,off,none⟩=some u:=by simpa using h 0 u rfl
  exact⟨⟨⟨u,a⟩,a⟩,X6 W b us (off+1) fun i c hu=>by have:=h (i+1) c (by simpa using hu);rwa[show off+(i+1)=off+1+i from by omega]at this⟩
section
variable {H:Type} {enc:gQ×Value->H} {W:World} {spare:Nat->Bool} {held:Bool}
def reads(W:World)(p:af)(cs:List Value):Prop:= ∃v:Value,v.cells.toList=cs/\aU W (rb W) p v/\∀c∈cs,c.oneCell'=true
def CI{W:World}{a:List af}{cs:List Value}(h:cW W (rb W) a cs):reads W (.agg a) cs:=by
 refine⟨.agg cs.toArray,by simp[pw],by simp only[aU];exact⟨cs.toArray,rfl,by simpa using h⟩,?_⟩;have:∀(a:List af) (cs:List Value),cW W (rb W) a cs->∀c∈cs,c.oneCell'=true:=by
  intro a;induction a with
  |nil=>intro cs h;simp only[cW]at h;subst h;simp
  |cons p a b=>
   intro cs h c aw;simp only[cW]at h;obtain⟨u,us,rfl,J,U⟩:=h;rcases gJ.1 aw with rfl|aw
   ·exact J.2
   ·exact b us U c aw
 exact this a cs h
def wJ(W:World)(p:af)(v:Value):Prop:=aU W (rb W) p v/\v.oneCell'=true/\v.cells= #[v]
def wJ.reads{W:World}{p:af}{v:Value}(h:wJ W p v):reads W p [v]:=⟨v,by rw[h.2.2],h.1,fun c aw=>by simp at aw;subst aw;exact h.2.1⟩
def aep{W:World}{b a k j:Nat}:W.cell? (((⟨b,a,none⟩:Addr).add k).add j)=W.cell? ⟨b,a+(k+j),none⟩:=by rw[add_add,Addr.add_lit]
def FT{α:Type}{t e:gQ}{sz:Nat}(f:α->af)(Q:α->Prop)(X:au.underlying t=some (.slice e))(aw:au.cellsOf e=sz)(L:0<sz){fuel:Nat}
  (y:∀n cs x,n<fuel->jB enc au W 0 spare held n e cs=some x->∃a:α,Q a/\reads W (f a) cs)
  {cs:List Value} {x:DataW H×List MemPlace} (h:jB enc au W 0 spare held fuel t cs=some x):∃l:dA α,l.wf Q/\∃v,cs=[v]/\wJ W (l.e sz f) v:=by
 rcases DataW.trod_slice X h with⟨rfl,_⟩|⟨a,len,cap,elems,rest,n,rfl,rfl,_,_,R,hm,hlen,G,_,_⟩
 ·refine⟨.l [],by simp[dA.wf],_,rfl,?_,rfl,rfl⟩;simp only[dA.e,List.map_nil,aU];exact⟨⟨none,0,rfl,Ψ,⟨by simp[maxLen],by simp[lim]⟩,.inl Ψ⟩,fun e=>(by cases e),fun g e=>(by cases e),fun _ _ e=>(by cases e),fun _ e=>(by cases e)⟩
 by_cases Y:lim<len
 ·refine⟨.b (some a) len cap,⟨Y,by unfold maxLen at hm;omega⟩,_,rfl,?_,rfl,rfl⟩;simp only[dA.e,aU]
 rcases Nat.eq_zero_or_pos len with rfl|K
 ·refine⟨.l [],by simp[dA.wf],_,rfl,?_,rfl,rfl⟩;simp only[dA.e,List.map_nil,aU];exact⟨⟨some a,cap,rfl,Ψ,⟨hm,by simp[lim]⟩,.inl Ψ⟩,fun e=>(by cases e),fun g e=>(by cases e),fun _ _ e=>(by cases e),fun _ e=>(by cases e)⟩
 rw[aw]at G;have E:∀i,i<len->∃cs',cs'.length=sz/\(∀j,j<sz->W.cell? ((a.add (i*sz)).add j)=cs'[j]?)/\∃b:α,Q b/\reads W (f b) cs':=by intro i hi;have J:=G i hi;rw[cl Ω]at J;obtain⟨cs',U,o⟩:=mY.1 J;obtain⟨_,V,N⟩:=World.cells?_some U;exact⟨cs',V,N,y n cs' _ Ω o⟩
 obtain⟨m,k,spot⟩:=a;have w:spot=none:=by obtain⟨cs',J,U,_⟩:=E 0 K;have o:=U 0 L;rw[cl Ω]at o;simpa[Addr.add]using World.cell?_spot o
 subst w;have z:∀d,d<=len->∃xs:List α,xs.length=d/\(∀x∈xs,Q x)/\∃us:List Value,us.length=d*sz/\dw W (rb W) sz (xs.map f) us/\∀j u,us[j]? =some u->W.cell? ⟨m,k+((len-d)*sz+j),none⟩=some u:=by
  intro d;induction d with
  |zero=>intro _;exact⟨[],rfl,Ψ,[],Ψ,by simp[dw],Ψ⟩
  |succ d P=>
   intro aL;obtain⟨xs,c,B,us,F,s,q⟩:=P Ω;obtain⟨cs',r,M,b,S,v,v1,v2,v3⟩:=E (len-(d+1)) Ω;have hmul:(len-d)*sz=(len-(d+1))*sz+sz:=by rw[show len-d=(len-(d+1))+1 from by omega,Nat.succ_mul]
   refine⟨b::xs,by simp[c],fun x A=>?_,cs'++us,by rw[qe,r,F,Nat.succ_mul];omega,?_,fun j u p=>?_⟩
   ·rcases gJ.1 A with rfl|A
    ·exact S
    ·exact B x A
   ·simp only[ha,dw];exact⟨v,us,by rw[v1],⟨v2,by rw[<-r,<-v1];simp,by rw[v1];exact v3⟩,s⟩
   ·rcases Nat.lt_or_ge j sz with O|Z
    ·rw[rS Ω]at p;have:=M j O;rw[aep]at this;rw[this];exact p
    ·rw[vp Ω,r]at p;have:=q (j-sz) u p;rwa[show(len-d)*sz+(j-sz)=(len-(d+1))*sz+j from by omega]at this
 obtain⟨xs,c,B,us,F,s,q⟩:=z len (dP _);refine⟨.l xs,B,_,rfl,?_,rfl,rfl⟩;simp only[dA.e,aU];refine⟨⟨some ⟨m,k,none⟩,cap,by rw[List.length_map,c],by rw[List.length_map,c];exact R,⟨hm,by rw[List.length_map,c];omega⟩,.inr ⟨m,k,us,rfl,X6 W m us k fun i u hu=>?_,s⟩⟩,fun e=>(by cases e),fun g e=>(by cases e),fun _ _ e=>(by cases e),fun _ e=>(by cases e)⟩;have:=q i u hu;simpa using this
end
end
section
open Go Go.Pv
def vI:C:=(aa [c0 2 0,bQ 4 0] (aa [I 5 1,aF 6 2 1 2,ay 7 1 6,cb 8 (.slen (.t 7)),bu 9 .sub 5 8,I 1 9] (.seq (aa [I 10 1,aV 11 .lss 10 0] (aW 11 (aa [bQ 4 (-1)] .ret) .skip)) (aa [aF 12 3 1 2,ay 13 1 12,I 14 1,cc 15 16 13 14,I 1 15] (.seq (aa [I 16 1,aV 17 .lss 16 0] (aW 17 (aa [bQ 4 (-1)] .ret) .skip)) (aa [I 18 1,I 4 18] .ret))))))
def Lq:C:=(aa [bQ 4 0] (aa [I 6 1,I 7 0,cw 8 7,bu 9 .sub 6 8,I 1 9] (.seq (aa [I 10 1,aV 11 .lss 10 0] (aW 11 (aa [bQ 4 (-1)] .ret) .skip)) (.seq (aa [bQ 5 0] (.block 0 (.loop (.seq (aa [I 12 5,I 13 0,cw 14 13,bu 15 .lss 12 14] (aW 15 .skip (.exit 0))) (.seq (.block 1 (aa [I 18 0,I 19 5,ck 20 4 18 19,bk 21 4 20,I 22 1,cc 23 15 21 22,I 1 23] (aa [I 24 1,aV 25 .lss 24 0] (aW 25 (aa [bQ 4 (-1)] .ret) .skip)))) (.region [I 16 5,aV 17 .add 16 1,I 5 17])))))) (aa [I 26 1,I 4 26] .ret)))))
def S5:C:=(aa [c0 1 0,dI 2 eC] (aa [dI 3 eC] (aa [aF 4 0 1 1,ay 5 1 4,aF 6 0 1 3,bV 1 6 5] (aa [aF 7 1 1 1,ay 8 1 7,aF 9 1 1 3,bV 1 9 8] (aa [aF 10 2 1 1,ay 11 1 10,aF 12 2 1 3,bV 1 12 11] (aa [aF 13 3 1 1,ay 14 1 13,cY 15 19 14,aF 16 3 1 3,bV 1 16 15] (aa [bk 17 4 3,bV 4 2 17] .ret)))))))
def S6:C:=(aa [fw 2 4] (aa [I 5 0,cw 6 5,dt (.mks 7 none 4 30 (.agg eC) (.t 6)),I 3 7] (.seq (aa [bQ 4 0] (.block 0 (.loop (.seq (aa [I 8 4,I 9 0,cw 10 9,bu 11 .lss 8 10] (aW 11 .skip (.exit 0))) (.seq (.block 1 (.region [I 14 3,I 15 4,I 16 0,I 17 4,ck 18 4 16 17,bk 19 4 18,cY 20 18 19,ck 21 4 14 15,bV 4 21 20])) (.region [I 12 4,aV 13 .add 12 1,I 4 13])))))) (.seq (.pub 3 (.region [I 22 3,I 2 22])) .ret))))
def SQ:C:=(aa [bz 4 false] (.seq (aa [I 6 0,cw 7 6,I 8 1,cw 9 8,bu 10 .neq 7 9] (aW 10 (aa [bz 4 false] .ret) .skip)) (.seq (aa [bQ 5 0] (.block 0 (.loop (.seq (aa [I 11 5,I 12 0,cw 13 12,bu 14 .lss 11 13] (aW 14 .skip (.exit 0))) (.seq (.block 1 (.seq (.drawn true 27 [I 17 0,I 18 5,ck 19 4 17 18,bk 20 4 19,I 21 1,I 22 5,ck 23 4 21 22,bk 24 4 23,cc 25 22 20 24,cO 26 25]) (aW 26 (aa [bz 4 false] .ret) .skip))) (.region [I 15 5,aV 16 .add 15 1,I 5 16])))))) (aa [bz 4 true] .ret))))
def SP:C:=(aa [c0 2 0,c0 3 1,bz 4 false] (.seq (aa [aF 5 0 1 2,ay 6 1 5,aF 7 0 1 3,ay 8 1 7,bu 9 .neq 6 8] (aW 9 (aa [bz 4 false] .ret) .skip)) (.seq (aa [aF 10 1 1 2,ay 11 1 10,aF 12 1 1 3,ay 13 1 12,bu 14 .neq 11 13] (aW 14 (aa [bz 4 false] .ret) .skip)) (.seq (aa [aF 15 2 1 2,ay 16 1 15,aF 17 2 1 3,ay 18 1 17,bu 19 .neq 16 18] (aW 19 (aa [bz 4 false] .ret) .skip)) (.seq (aa [aF 20 3 1 2,ay 21 1 20,aF 22 3 1 3,ay 23 1 22,cc 24 21 21 23,cO 25 24] (aW 25 (aa [bz 4 false] .ret) .skip)) (aa [bz 4 true] .ret))))))
def AT:C:=(aa [c0 2 0,bQ 4 0] (aa [aF 5 1 1 2,ay 6 1 5,I 7 1,cc 8 33 6 7,I 1 8] (.seq (aa [I 9 1,aV 10 .lss 9 0] (aW 10 (aa [bQ 4 (-1)] .ret) .skip)) (aa [aF 11 2 1 2,ay 12 1 11,I 13 1,cc 14 72 12 13,I 1 14] (.seq (aa [I 15 1,aV 16 .lss 15 0] (aW 16 (aa [bQ 4 (-1)] .ret) .skip)) (aa [aF 17 3 1 2,ay 18 1 17,I 19 1,cc 20 73 18 19,I 1 20] (.seq (aa [I 21 1,aV 22 .lss 21 0] (aW 22 (aa [bQ 4 (-1)] .ret) .skip)) (aa [aF 23 4 1 2,ay 24 1 23,I 25 1,cc 26 74 24 25,I 1 26] (.seq (aa [I 27 1,aV 28 .lss 27 0] (aW 28 (aa [bQ 4 (-1)] .ret) .skip)) (aa [I 29 1,I 4 29] .ret))))))))))
def S4:C:=(aa [c0 1 0,dI 2 ig] (aa [dI 3 ig] (aa [aF 4 0 1 1,ay 5 1 4,aF 6 0 1 3,bV 1 6 5] (aa [aF 7 1 1 1,ay 8 1 7,cY 9 35 8,aF 10 1 1 3,bV 1 10 9] (aa [aF 11 2 1 1,ay 12 1 11,cY 13 83 12,aF 14 2 1 3,bV 1 14 13] (aa [aF 15 3 1 1,ay 16 1 15,cY 17 84 16,aF 18 3 1 3,bV 1 18 17] (aa [aF 19 4 1 1,ay 20 1 19,cY 21 85 20,aF 22 4 1 3,bV 1 22 21] (aa [bk 23 5 3,bV 5 2 23] .ret))))))))
def SO:C:=(aa [c0 2 0,c0 3 1,bz 4 false] (.seq (aa [aF 5 0 1 2,ay 6 1 5,aF 7 0 1 3,ay 8 1 7,bu 9 .neq 6 8] (aW 9 (aa [bz 4 false] .ret) .skip)) (.seq (aa [aF 10 1 1 2,ay 11 1 10,aF 12 1 1 3,ay 13 1 12,cc 14 37 11 13,cO 15 14] (aW 15 (aa [bz 4 false] .ret) .skip)) (.seq (aa [aF 16 2 1 2,ay 17 1 16,aF 18 2 1 3,ay 19 1 18,cc 20 92 17 19,cO 21 20] (aW 21 (aa [bz 4 false] .ret) .skip)) (.seq (aa [aF 22 3 1 2,ay 23 1 22,aF 24 3 1 3,ay 25 1 24,cc 26 93 23 25,cO 27 26] (aW 27 (aa [bz 4 false] .ret) .skip)) (.seq (aa [aF 28 4 1 2,ay 29 1 28,aF 30 4 1 3,ay 31 1 30,cc 32 94 29 31,cO 33 32] (aW 33 (aa [bz 4 false] .ret) .skip)) (aa [bz 4 true] .ret)))))))
def Ln:C:=(aa [bQ 4 0] (aa [I 6 1,I 7 0,cw 8 7,bu 9 .sub 6 8,I 1 9] (.seq (aa [I 10 1,aV 11 .lss 10 0] (aW 11 (aa [bQ 4 (-1)] .ret) .skip)) (.seq (aa [bQ 5 0] (.block 0 (.loop (.seq (aa [I 12 5,I 13 0,cw 14 13,bu 15 .lss 12 14] (aW 15 .skip (.exit 0))) (.seq (.block 1 (aa [I 18 0,I 19 5,ck 20 5 18 19,bk 21 5 20,I 22 1,cc 23 97 21 22,I 1 23] (aa [I 24 1,aV 25 .lss 24 0] (aW 25 (aa [bQ 4 (-1)] .ret) .skip)))) (.region [I 16 5,aV 17 .add 16 1,I 5 17])))))) (aa [I 26 1,I 4 26] .ret)))))
def S0:C:=(aa [fw 2 5] (aa [I 5 0,cw 6 5,dt (.mks 7 none 5 113 (.agg kx) (.t 6)),I 3 7] (.seq (aa [bQ 4 0] (.block 0 (.loop (.seq (aa [I 8 4,I 9 0,cw 10 9,bu 11 .lss 8 10] (aW 11 .skip (.exit 0))) (.seq (.block 1 (.region [I 14 3,I 15 4,I 16 0,I 17 4,ck 18 5 16 17,bk 19 5 18,cY 20 101 19,ck 21 5 14 15,bV 5 21 20])) (.region [I 12 4,aV 13 .add 12 1,I 4 13])))))) (.seq (.pub 3 (.region [I 22 3,I 2 22])) .ret))))
def SK:C:=(aa [bz 4 false] (.seq (aa [I 6 0,cw 7 6,I 8 1,cw 9 8,bu 10 .neq 7 9] (aW 10 (aa [bz 4 false] .ret) .skip)) (.seq (aa [bQ 5 0] (.block 0 (.loop (.seq (aa [I 11 5,I 12 0,cw 13 12,bu 14 .lss 11 13] (aW 14 .skip (.exit 0))) (.seq (.block 1 (.seq (.drawn true 27 [I 17 0,I 18 5,ck 19 5 17 18,bk 20 5 19,I 21 1,I 22 5,ck 23 5 21 22,bk 24 5 23,cc 25 103 20 24,cO 26 25]) (aW 26 (aa [bz 4 false] .ret) .skip))) (.region [I 15 5,aV 16 .add 15 1,I 5 16])))))) (aa [bz 4 true] .ret))))
def Lo:C:=(aa [bQ 4 0] (aa [I 6 1,I 7 0,cw 8 7,bu 9 .sub 6 8,I 1 9] (.seq (aa [I 10 1,aV 11 .lss 10 0] (aW 11 (aa [bQ 4 (-1)] .ret) .skip)) (.seq (aa [bQ 5 0] (.block 0 (.loop (.seq (aa [I 12 5,I 13 0,cw 14 13,bu 15 .lss 12 14] (aW 15 .skip (.exit 0))) (.seq (.block 1 (aa [I 18 0,I 19 5,ck 20 1 18 19,ay 21 1 20,I 22 1,cc 23 33 21 22,I 1 23] (aa [I 24 1,aV 25 .lss 24 0] (aW 25 (aa [bQ 4 (-1)] .ret) .skip)))) (.region [I 16 5,aV 17 .add 16 1,I 5 17])))))) (aa [I 26 1,I 4 26] .ret)))))
def GR:C:=(aa [bQ 4 0] (aa [I 5 1,I 6 0,cw 7 6,bu 8 .sub 5 7,I 1 8] (.seq (aa [I 9 1,aV 10 .lss 9 0] (aW 10 (aa [bQ 4 (-1)] .ret) .skip)) (aa [I 11 1,I 4 11] .ret))))
def Lp:C:=(aa [bQ 4 0] (aa [I 6 1,I 7 0,cw 8 7,bu 9 .sub 6 8,I 1 9] (.seq (aa [I 10 1,aV 11 .lss 10 0] (aW 11 (aa [bQ 4 (-1)] .ret) .skip)) (.seq (aa [bQ 5 0] (.block 0 (.loop (.seq (aa [I 12 5,I 13 0,cw 14 13,bu 15 .lss 12 14] (aW 15 .skip (.exit 0))) (.seq (.block 1 (aa [I 18 0,I 19 5,ck 20 2 18 19,bk 21 2 20,I 22 1,cc 23 144 21 22,I 1 23] (aa [I 24 1,aV 25 .lss 24 0] (aW 25 (aa [bQ 4 (-1)] .ret) .skip)))) (.region [I 16 5,aV 17 .add 16 1,I 5 17])))))) (aa [I 26 1,I 4 26] .ret)))))
def S1:C:=(aa [fw 2 1] (aa [I 5 0,cw 6 5,dt (.mks 7 none 1 46 (.slice 5 .nil []) (.t 6)),I 3 7] (.seq (aa [bQ 4 0] (.block 0 (.loop (.seq (aa [I 8 4,I 9 0,cw 10 9,bu 11 .lss 8 10] (aW 11 .skip (.exit 0))) (.seq (.block 1 (.region [I 14 3,I 15 4,I 16 0,I 17 4,ck 18 1 16 17,ay 19 1 18,cY 20 35 19,ck 21 1 14 15,bV 1 21 20])) (.region [I 12 4,aV 13 .add 12 1,I 4 13])))))) (.seq (.pub 3 (.region [I 22 3,I 2 22])) .ret))))
def S8:C:=(aa [fw 2 2] (aa [I 5 0,cw 6 5,dt (.mks 7 none 2 98 (.agg [.int .i64 0,.int .i64 0]) (.t 6)),I 3 7] (.seq (aa [bQ 4 0] (.block 0 (.loop (.seq (aa [I 8 4,I 9 0,cw 10 9,bu 11 .lss 8 10] (aW 11 .skip (.exit 0))) (.seq (.block 1 (.region [I 14 3,I 15 4,I 16 0,I 17 4,ck 18 2 16 17,bk 19 2 18,cY 20 156 19,ck 21 2 14 15,bV 2 21 20])) (.region [I 12 4,aV 13 .add 12 1,I 4 13])))))) (.seq (.pub 3 (.region [I 22 3,I 2 22])) .ret))))
def S3:C:=(aa [fw 2 2] (aa [I 5 0,cw 6 5,dt (.mks 7 none 2 100 (.agg [.int .i64 0,.str []]) (.t 6)),I 3 7] (.seq (aa [bQ 4 0] (.block 0 (.loop (.seq (aa [I 8 4,I 9 0,cw 10 9,bu 11 .lss 8 10] (aW 11 .skip (.exit 0))) (.seq (.block 1 (.region [I 14 3,I 15 4,I 16 0,I 17 4,ck 18 2 16 17,bk 19 2 18,cY 20 157 19,ck 21 2 14 15,bV 2 21 20])) (.region [I 12 4,aV 13 .add 12 1,I 4 13])))))) (.seq (.pub 3 (.region [I 22 3,I 2 22])) .ret))))
def SL:C:=(aa [bz 4 false] (.seq (aa [I 6 0,cw 7 6,I 8 1,cw 9 8,bu 10 .neq 7 9] (aW 10 (aa [bz 4 false] .ret) .skip)) (.seq (aa [bQ 5 0] (.block 0 (.loop (.seq (aa [I 11 5,I 12 0,cw 13 12,bu 14 .lss 11 13] (aW 14 .skip (.exit 0))) (.seq (.block 1 (.seq (.drawn true 27 [I 17 0,I 18 5,ck 19 1 17 18,ay 20 1 19,I 21 1,I 22 5,ck 23 1 21 22,ay 24 1 23,cc 25 37 20 24,cO 26 25]) (aW 26 (aa [bz 4 false] .ret) .skip))) (.region [I 15 5,aV 16 .add 15 1,I 5 16])))))) (aa [bz 4 true] .ret))))
def SU:C:=(aa [bz 4 false] (.seq (aa [I 6 0,cw 7 6,I 8 1,cw 9 8,bu 10 .neq 7 9] (aW 10 (aa [bz 4 false] .ret) .skip)) (.seq (aa [bQ 5 0] (.block 0 (.loop (.seq (aa [I 11 5,I 12 0,cw 13 12,bu 14 .lss 11 13] (aW 14 .skip (.exit 0))) (.seq (.block 1 (.seq (.drawn true 27 [I 17 0,I 18 5,ck 19 2 17 18,bk 20 2 19,I 21 1,I 22 5,ck 23 2 21 22,bk 24 2 23,cc 25 170 20 24,cO 26 25]) (aW 26 (aa [bz 4 false] .ret) .skip))) (.region [I 15 5,aV 16 .add 15 1,I 5 16])))))) (aa [bz 4 true] .ret))))
def SN:C:=(aa [bz 4 false] (.seq (aa [I 6 0,cw 7 6,I 8 1,cw 9 8,bu 10 .neq 7 9] (aW 10 (aa [bz 4 false] .ret) .skip)) (.seq (aa [bQ 5 0] (.block 0 (.loop (.seq (aa [I 11 5,I 12 0,cw 13 12,bu 14 .lss 11 13] (aW 14 .skip (.exit 0))) (.seq (.block 1 (.seq (.drawn true 27 [I 17 0,I 18 5,ck 19 2 17 18,bk 20 2 19,I 21 1,I 22 5,ck 23 2 21 22,bk 24 2 23,cc 25 171 20 24,cO 26 25]) (aW 26 (aa [bz 4 false] .ret) .skip))) (.region [I 15 5,aV 16 .add 15 1,I 5 16])))))) (aa [bz 4 true] .ret))))
def Lm:C:=(aa [c0 2 0,bQ 4 0] (aa [hr 5 1 4 2,bk 6 4 5,I 7 1,cc 8 15 6 7,I 1 8] (.seq (aa [I 9 1,aV 10 .lss 9 0] (aW 10 (aa [bQ 4 (-1)] .ret) .skip)) (aa [I 11 1,I 4 11] .ret))))
def SZ:C:=(aa [c0 1 0,dI 2 kx] (aa [dI 3 kx] (aa [aF 4 0 1 1,ay 5 1 4,aF 6 0 1 3,bV 1 6 5] (aa [hr 7 1 4 1,bk 8 4 7,cY 9 18 8,hr 10 1 4 3,bV 4 10 9] (aa [bk 11 5 3,bV 5 2 11] .ret)))))
def SJ:C:=(aa [c0 2 0,c0 3 1,bz 4 false] (.seq (aa [aF 5 0 1 2,ay 6 1 5,aF 7 0 1 3,ay 8 1 7,bu 9 .neq 6 8] (aW 9 (aa [bz 4 false] .ret) .skip)) (.seq (aa [hr 10 1 4 2,bk 11 4 10,hr 12 1 4 3,bk 13 4 12,cc 14 22 11 13,cO 15 14] (aW 15 (aa [bz 4 false] .ret) .skip)) (aa [bz 4 true] .ret))))
def GQ:C:=(aa [c0 2 0,bQ 4 0] (aa [I 5 1,aF 6 1 1 2,ay 7 1 6,cb 8 (.slen (.t 7)),bu 9 .sub 5 8,I 1 9] (.seq (aa [I 10 1,aV 11 .lss 10 0] (aW 11 (aa [bQ 4 (-1)] .ret) .skip)) (aa [I 12 1,I 4 12] .ret))))
def S7:C:=(aa [c0 1 0,dt (.alloc 2 none (.agg [.int .i64 0,.int .i64 0]))] (aa [dt (.alloc 3 none (.agg [.int .i64 0,.int .i64 0]))] (aa [aF 4 0 1 1,ay 5 1 4,aF 6 0 1 3,bV 1 6 5] (aa [aF 7 1 1 1,ay 8 1 7,aF 9 1 1 3,bV 1 9 8] (aa [bk 10 2 3,bV 2 2 10] .ret)))))
def S2:C:=(aa [c0 1 0,dt (.alloc 2 none (.agg [.int .i64 0,.str []]))] (aa [dt (.alloc 3 none (.agg [.int .i64 0,.str []]))] (aa [aF 4 0 1 1,ay 5 1 4,aF 6 0 1 3,bV 1 6 5] (aa [aF 7 1 1 1,ay 8 1 7,aF 9 1 1 3,bV 1 9 8] (aa [bk 10 2 3,bV 2 2 10] .ret)))))
def SR:C:=(aa [c0 2 0,c0 3 1,bz 4 false] (.seq (aa [aF 5 0 1 2,ay 6 1 5,aF 7 0 1 3,ay 8 1 7,bu 9 .neq 6 8] (aW 9 (aa [bz 4 false] .ret) .skip)) (.seq (aa [aF 10 1 1 2,ay 11 1 10,aF 12 1 1 3,ay 13 1 12,bu 14 .neq 11 13] (aW 14 (aa [bz 4 false] .ret) .skip)) (aa [bz 4 true] .ret))))
def SM:C:=(aa [c0 2 0,c0 3 1,bz 4 false] (.seq (aa [aF 5 0 1 2,ay 6 1 5,aF 7 0 1 3,ay 8 1 7,bu 9 .neq 6 8] (aW 9 (aa [bz 4 false] .ret) .skip)) (.seq (aa [aF 10 1 1 2,ay 11 1 10,aF 12 1 1 3,ay 13 1 12,bu 14 .neq 11 13] (aW 14 (aa [bz 4 false] .ret) .skip)) (aa [bz 4 true] .ret))))
def x6:b4 aT vI [.tmp 4] 2 Tryz.f15=true:=bi
def ZB:b4 aT Lq [.tmp 4] 2 Tryz.f16=true:=bi
def aot:b4 aT S5 [.cell 2 true 4] 1 Tryz.f18=true:=bi
def aou:b4 aT S6 [.tmp 2] 1 Tryz.f19=true:=bi
def aoh:b4 aT SQ [.tmp 4] 2 Tryz.f21=true:=bi
def aog:b4 aT SP [.tmp 4] 2 Tryz.f22=true:=bi
def Fh:b4 aT AT [.tmp 4] 2 Tryz.f26=true:=bi
def aos:b4 aT S4 [.cell 2 true 5] 1 Tryz.f28=true:=bi
def aof:b4 aT SO [.tmp 4] 2 Tryz.f30=true:=bi
def Zy:b4 aT Ln [.tmp 4] 2 Tryz.f33=true:=bi
def aoo:b4 aT S0 [.tmp 2] 1 Tryz.f35=true:=bi
def aob:b4 aT SK [.tmp 4] 2 Tryz.f37=true:=bi
def Zz:b4 aT Lo [.tmp 4] 2 Tryz.f72=true:=bi
def O9:b4 aT GR [.tmp 4] 2 Tryz.f73=true:=bi
def ZA:b4 aT Lp [.tmp 4] 2 Tryz.f74=true:=bi
def aop:b4 aT S1 [.tmp 2] 1 Tryz.f83=true:=bi
def aow:b4 aT S8 [.tmp 2] 1 Tryz.f84=true:=bi
def aor:b4 aT S3 [.tmp 2] 1 Tryz.f85=true:=bi
def aoc:b4 aT SL [.tmp 4] 2 Tryz.f92=true:=bi
def aoj:b4 aT SU [.tmp 4] 2 Tryz.f93=true:=bi
def aoe:b4 aT SN [.tmp 4] 2 Tryz.f94=true:=bi
def Zx:b4 aT Lm [.tmp 4] 2 Tryz.f97=true:=bi
def aon:b4 aT SZ [.cell 2 true 5] 1 Tryz.f101=true:=bi
def aoa:b4 aT SJ [.tmp 4] 2 Tryz.f103=true:=bi
def O8:b4 aT GQ [.tmp 4] 2 Tryz.f144=true:=bi
def aov:b4 aT S7 [.cell 2 true 2] 1 Tryz.f156=true:=bi
def aoq:b4 aT S2 [.cell 2 true 2] 1 Tryz.f157=true:=bi
def aoi:b4 aT SR [.tmp 4] 2 Tryz.f170=true:=bi
def aod:b4 aT SM [.tmp 4] 2 Tryz.f171=true:=bi
def ny{α:Type}(f:α->af)(z:af)(l:List α)(i:Nat):List af:=(l.take i).map f++List.replicate (l.length-i) z
def Cf{α:Type}(f:α->af)(z:af)(l:List α):ny f z l 0=List.replicate l.length z:=by simp[ny]
def YN{α:Type}(f:α->af)(z:af)(l:List α):ny f z l l.length=l.map f:=by simp[ny]
def YO{α:Type}(f:α->af)(z:af)(l:List α){i:Nat}(hi:i<l.length):(ny f z l i)[i]? =some z:=by
 unfold ny;have h:((l.take i).map f).length=i:=by simp;omega
 rw[vp Ω,h,Nat.sub_self,List.getElem?_replicate,if_pos Ω]
def YP{α:Type}(f:α->af)(z:af)(l:List α){i:Nat}{x:α}(a:l[i]? =some x):(ny f z l i).set i (f x)=ny f z l (i+1):=by
 have hi:=(fH.1 a).1;unfold ny;have h:((l.take i).map f).length=i:=by simp;omega
 rw[List.set_append_right _ _ Ω,h,Nat.sub_self,nE a,List.map_append,List.append_assoc];congr 1;obtain⟨m,hm⟩:∃m,l.length-i=m+1:=⟨l.length-i-1,Ω⟩;rw[hm,show l.length-(i+1)=m from by omega,List.replicate_succ,List.set_cons_zero];rfl
def N1(S:aB->Prop):∀{a b:List af},aH S (a++b)↔aH S a/\aH S b
 |[],b=>by simp[aH]
 |x::a,b=>by simp[aH,N1 S (a:=a),and_assoc]
def XO{α:Type}(S:aB->Prop)(f:α->af)(a:∀x,az S (f x)):∀l:List α,aH S (l.map f)
 |[]=>by simp[aH]
 |x::xs=>by simp[aH,XO S f a xs,a]
def qL(S:aB->Prop)(z:af)(a:az S z):∀n,aH S (List.replicate n z)
 |0=>by simp[aH]
 |n+1=>by simp[List.replicate_succ,aH,qL S z a n,a]
def X0{α:Type}(S:aB->Prop)(f:α->af)(z:af)(l:List α)(i:Nat)(b:∀x,az S (f x))(a:az S z):aH S (ny f z l i):=by unfold ny;rw[N1];exact⟨XO S f b _,qL S z a _⟩
def l0{α:Type}(f:α->Nat->af)(z:af)(out:List (α×Nat))(n:Nat):List af:=j3 f out++List.replicate (n-out.length) z
def wC{α:Type}(f:α->Nat->af)(z:af)(n:Nat):List.replicate n z=l0 f z [] n:=by simp[l0]
def ON{α:Type}(f:α->Nat->af)(z:af){out:List (α×Nat)}{n i:Nat}(hi:i<n)(ar:out.length=i):(l0 f z out n)[i]? =some z:=by subst ar;simp[l0,List.getElem?_append,List.getElem?_replicate,hi];omega
def OP{α:Type}(f:α->Nat->af)(z:af){out:List (α×Nat)}{n i:Nat}(hi:i<n)(ar:out.length=i)(x:α)(m:Nat):(l0 f z out n).set i (f x m)=l0 f z (out++[(x,m)]) n:=by
 subst ar;obtain⟨d,a⟩:∃d,n-out.length=d+1:=⟨n-out.length-1,Ω⟩;have U:n-(out.length+1)=d:=Ω
 simp[l0,a,U,List.replicate_succ,List.set_append]
def OM{α:Type}(f:α->Nat->af)(z:af){out:List (α×Nat)}{n:Nat}(ar:out.length=n):l0 f z out n=j3 f out:=by subst ar;simp[l0]
@[simp]def OO{α:Type}(f:α->Nat->af)(z:af){out:List (α×Nat)}{n:Nat}(ar:out.length<=n):(l0 f z out n).length=n:=by simp[l0];omega
def NZ{α:Type}{f:α->Nat->af}{g:α->af}(h:nH f g){n m:Nat}{l:List (α×Nat)}{z:af}(a:∀S,az S z)(b:q6 n l)(hm:n<=m)(o:List aB)(N:Nat):aH (fun k=> ¬fresh m o k) (l0 f z l N)=True:=by have J:=h.kin b hm o;unfold l0;rw[N1];simp only[J,true_and];exact h4 (qL _ _ (a _) _)
def _root_.Go.Pv.Tm.k(t:Tm)(κ:Nat):af:= .agg [aj t.kind,aj t.num,.str t.name,.slice 4 (.tr (.loc κ) 0) (t.args.map enc)]
def BV:nH Tm.k enc:=⟨fun x n=>rfl,fun x n=>by simp[Tm.k,fm,fX,eg],fun x n=>by cases x;simp[Tm.k,b7,cf,enc,A5,Tm.kind,Tm.num,Tm.name,Tm.args],fun S x n h=>by simp[Tm.k,az,aH,h]⟩
def acY(l:dA cG)(hw:∀p n cap,l= .b p n cap->mV n)(c:∀xs,l= .l xs->∀x∈xs,∀m,0<=m->m<=1048576->bT au 15 [cG.e x,aj m] (aj (hD x m)))(m:Int)(u:0<=m)(J:m<=1048576):bT au 16 [l.e 4 cG.e,aj m] (aj (fs hD l m)):=by
 cases l with
 |b p n cap=>
  have r:=hw p n cap rfl;simp only[mV,lim]at r;have g:m-n<0:=Ω
  simp only[dA.e,fs];clear hw c;refine bI a1 Tryz.func16 ZB fun o=>?_;unfold Lq;exact cn
 |l l=>
 have c:=c l rfl;clear hw;simp only[dA.e,fs];generalize bt:mr hD l m=R;unfold mr at bt;refine bI a1 Tryz.func16 ZB fun o=>?_;unfold Lq;have t:l.length<=68719476736:=by simp[eI,eN,eJ,lim]at o;omega
 simp;by_cases g:m-l.length<0
 ·rw[if_pos g]at bt;subst bt;exact cn
 rw[if_neg g]at bt;(repeat' first|refine ao ?_|simp[g]);refine eZ [0] (fun i (k:Int)=>[(1,aj k),(5,aj i)]) l.length (fun i k=>(0<=k/\k<=1048576)/\jT hD (l.drop i) k=R) (m-l.length) b9 ⟨⟨Ω,Ω⟩,by simpa using bt⟩ (fun k a _=>?_) (fun i k hi a _=>?_)
 ·obtain⟨_,a⟩:=a;rw[List.drop_length]at a;simp only[jT]at a;subst a;exact cn
 ·obtain⟨⟨f,s⟩,a⟩:=a;obtain⟨x,e,j⟩:=eW hi;have key:=c x (ft e) k f s;have hle:=yr x k f;rw[uZ e]at a;simp only[jT]at a;generalize hD x k=q at key hle a;clear e;by_cases d:q<0
  ·rw[if_pos d]at a;subst a;exact cn
  ·rw[if_neg d]at a;simp[hi,j];((repeat' first|refine ao ?_|refine aO key ?_|refine aP key ?_|simp[hi,j,d]|((first|apply ct|apply cz|apply cy)<;>intro h<;>try simp at h))<;>(try exact c3));all_goals exact bY.rng q hi ⟨⟨Ω,Ω⟩,a⟩ b9
def aso(l:List Tm)(c:∀x∈l,bT au 22 [enc x,enc x] (.bool true)):bT au 21 [dx (l.map enc),dx (l.map enc)] (.bool true):=by
 refine bI a1 Tryz.func21 aoh fun b=>?_;unfold SQ;have d:l.length<=68719476736:=by simp[eI,eN,eJ,lim]at b;omega
 simp;(repeat' first|refine ao ?_|simp);refine eZ [0,1] (fun i (_:Unit)=>[(5,aj i)]) l.length (fun _ _=>True) () b9 trivial (fun _ _ _=>?_) (fun i _ hi _ _=>?_)
 ·exact cn
 ·obtain⟨x,a,e⟩:=eW hi;have key:=c x (ft a);clear a;exact iW
def acX(t:cG)(hw:t.wf):∀m:Int,0<=m->m<=1048576->bT au 15 [t.e,aj m] (aj (hD t m)):=by
 suffices H:∀(k:Nat) (t:cG),t.sz<=k->t.wf->∀m:Int,0<=m->m<=1048576->bT au 15 [t.e,aj m] (aj (hD t m))from H _ t (dP _) hw
 intro k;clear hw t;induction k with
 |zero=>intro t r;cases t<;>simp[cG.sz]at r
 |succ k o=>
  intro t r hw m A J;cases t with
  |mk j tn s a=>
   simp only[cG.wf,cG.wfL_iff]at hw;obtain⟨v,u⟩:=hw;have d:m-s.len<0->hD (.mk j tn s a) m= -1:=fun g=>by rw[J8];exact if_pos g
   have f:¬m-s.len<0->hD (.mk j tn s a) m=fs hD (.l a) (m-s.len):=fun g=>by rw[J8];exact if_neg g
   generalize hD (.mk j tn s a) m=R at d f;have z:=s.len_nn;have key:=fun h=>acY (.l a) (fun p n c e=>by cases e) (fun xs e x w=>by cases e;exact o x (by have:=cG.szL_mem w;simp only[cG.sz]at r;omega) (u x w)) (m-s.len) h Ω;have hle:=fun h=>vi yr (.l a) (m-s.len) h;simp only[cG.e,cG.eL_map];simp only[dA.e]at key;clear r u;cases s with
   |b x=>
    simp only[gW.wf,mV,lim]at v;have g:m-x.size<0:=Ω
    have bt:=d g;subst bt;clear d f;clear key hle o;simp only[gW.e];refine bI a1 Tryz.func15 x6 fun i=>?_;unfold vI;exact cn
   |s l=>
    simp only[gW.len]at d f key hle;simp only[gW.e];by_cases g:m-l.length<0
    ·have bt:=d g;subst bt;clear d f;clear key hle o;refine bI a1 Tryz.func15 x6 fun i=>?_;unfold vI;have q:l.length<=68719476736:=by simp[eI,eN,eJ,lim]at i;omega
     exact cn
    ·have bt:=f g;clear d f;have key:=key Ω;have hle:=hle Ω;rw[<-bt]at key hle;clear bt o;by_cases y:R<0
     ·have:R= -1:=Ω
      subst this;refine bI a1 Tryz.func15 x6 fun i=>?_;unfold vI;have q:l.length<=68719476736:=by simp[eI,eN,eJ,lim]at i;omega
      exact cn
     ·refine bI a1 Tryz.func15 x6 fun i=>?_;unfold vI;have q:l.length<=68719476736:=by simp[eI,eN,eJ,lim]at i;omega
      exact cn
  |big j tn s p n c=>
   simp only[cG.wf]at hw;obtain⟨v,u⟩:=hw;have d:m-s.len<0->hD (.big j tn s p n c) m= -1:=fun g=>by rw[J8];exact if_pos g
   have f:¬m-s.len<0->hD (.big j tn s p n c) m=fs hD (.b p n c) (m-s.len):=fun g=>by rw[J8];exact if_neg g
   generalize hD (.big j tn s p n c) m=R at d f;have z:=s.len_nn;have key:=fun h=>acY (.b p n c) (fun p n c e=>by cases e;exact u) (fun xs e=>by cases e) (m-s.len) h Ω;have hle:=fun h=>vi yr (.b p n c) (m-s.len) h;simp only[cG.e];simp only[dA.e]at key;clear r u;cases s with
   |b x=>
    simp only[gW.wf,mV,lim]at v;have g:m-x.size<0:=Ω
    have bt:=d g;subst bt;clear d f;clear key hle o;simp only[gW.e];refine bI a1 Tryz.func15 x6 fun i=>?_;unfold vI;exact cn
   |s l=>
    simp only[gW.len]at d f key hle;simp only[gW.e];by_cases g:m-l.length<0
    ·have bt:=d g;subst bt;clear d f;clear key hle o;refine bI a1 Tryz.func15 x6 fun i=>?_;unfold vI;have q:l.length<=68719476736:=by simp[eI,eN,eJ,lim]at i;omega
     exact cn
    ·have bt:=f g;clear d f;have key:=key Ω;have hle:=hle Ω;rw[<-bt]at key hle;clear bt o;by_cases y:R<0
     ·have:R= -1:=Ω
      subst this;refine bI a1 Tryz.func15 x6 fun i=>?_;unfold vI;have q:l.length<=68719476736:=by simp[eI,eN,eJ,lim]at i;omega
      exact cn
     ·refine bI a1 Tryz.func15 x6 fun i=>?_;unfold vI;have q:l.length<=68719476736:=by simp[eI,eN,eJ,lim]at i;omega
      exact cn
def ann(l:List Tm)(v:∀x∈l,fJ au 18 [enc x] (Tm.k x)):fJ au 19 [dx (l.map enc)] fun κ=>.slice 4 (.tr (.loc κ) 0) (l.map enc):=by
 refine fJ.mk mixed a1 Tryz.func19 aou Ψ fun u κ=>?_;unfold S6;have w:l.length<=68719476736:=by simp[eI,eN,eJ,lim]at u;omega
 simp;all_goals try refine⟨by unfold lim;omega,?_⟩
 (repeat' first|refine ao ?_|simp);have c:∀S:aB->Prop,az S (.agg [aj 0,aj 0,.str [],.slice 4 .nil []]):=fun S=>by simp[az,aH]
 refine fU (fun i (x:Nat×List (Tm×Nat))=>⟨[(0,dx (l.map enc)),(3,.row 4 (.loc 0) l.length),(4,aj i)],[],[(.loc 0,⟨l.length,30,4,some (l0 Tm.k (.agg [aj 0,aj 0,.str [],.slice 4 .nil []]) x.2 l.length)⟩)],x.1,[]⟩) l.length (fun i x=>1<=x.1/\q6 x.1 x.2/\x.2.map (·.1)=l.take i) (1,[]) ⟨by simp[fresh,aH,az,cd,aM,ae,<-wC,qL _ _ (c _)],eo (by simp[fresh,aH,az,cd,aM,ae,<-wC,qL _ _ (c _)]),ep (by simp[fresh,aH,az,dV,aM,ae,<-wC,qL _ _ (c _)]),Ψ⟩ ⟨dP _,.nil _,Ψ⟩ (fun x e _=>?_) (fun i x hi e _=>?_)
 ·obtain⟨n,out⟩:=x;obtain⟨J,U,a⟩:=e;simp only[jC]at J U a;have b:out.length=l.length:=by rw[<-a];simp
  simp;rw[OM _ _ b];(repeat' first|refine ao ?_|simp);(refine hV.val Ψ ?_;simp[bc,bf,a6,e3,hj,ez,gO,ed,gH,tnL,tn,fm,fX,fold,hy,hv,iA,ae,eg,cf,b7,BV.okL,BV.nodup U,BV.stL,a,b])
 ·obtain⟨n,out⟩:=x;obtain⟨J,U,a⟩:=e;simp only at J U a;obtain⟨x,r,k⟩:=eW hi;have key:=v x (ft r);have b:out.length=i:=by have:=fy List.length a;simp at this;omega
  have d:=ON Tm.k (.agg [aj 0,aj 0,.str [],.slice 4 .nil []]) hi b;have g:∀h,((l0 Tm.k (.agg [aj 0,aj 0,.str [],.slice 4 .nil []]) out l.length)[i]'h)= .agg [aj 0,aj 0,.str [],.slice 4 .nil []]:=fun h=>by rw[cl h]at d;exact e7 d
  have f:=fun m=>OP Tm.k (.agg [aj 0,aj 0,.str [],.slice 4 .nil []]) hi b x m;have o:=OO Tm.k (.agg [aj 0,aj 0,.str [],.slice 4 .nil []]) (out:=out) (n:=l.length) Ω;have y:=fun m n' (h:n<=m) (t:m<n')=>U.snoc x h t;have s:∀m,(out++[(x,m)]).map (fun p:Tm×Nat=>p.1)=l.take (i+1):=fun m=>by rw[nE r,<-a];simp
  generalize l0 Tm.k (.agg [aj 0,aj 0,.str [],.slice 4 .nil []]) out l.length=r0 at d g f o⊢;have q:=U.snoc x (dP n) (Nat.lt_succ_self n);have j:=NZ BV c q (dP _) [] l.length;simp[fresh]at j;simp[hi,k];(refine CallDo.own Ψ (key) (by simp[eg]) ?_;simp);(repeat' first|refine ao ?_|simp[hi,k,g,o,f,Tm.k,nB]);refine bY.rng (n+1,out++[(x,n)]) hi ?_ ?_
  ·exact⟨Ψ,q,s n⟩
  simp;rw[show(af.agg [aj x.kind,aj x.num,.str x.name,.slice 4 (.tr (.loc n) 0) (x.args.map enc)])=Tm.k x n from rfl,f n];exact⟨by simp[fresh,aH,az,cd,aM,ae],eo Ψ,ep (by simp[fresh,aH,az,cd,aM,ae,dV];exact j),Ψ⟩
def OX(t:Tm):fJ au 18 [enc t] t.k:=by
 suffices H:∀(k:Nat) (t:Tm),t.sz<=k->fJ au 18 [enc t] t.k from H _ t (dP _)
 intro k;induction k with
 |zero=>intro t b;cases t;simp[Tm.sz]at b
 |succ k a=>intro t b;have key:=ann t.args (fun x c=>a x (by have:=QG c;omega));clear a;refine fJ.mk mixed a1 Tryz.func18 aot Ψ fun d κ=>?_;unfold S5;simp;(repeat' first|refine ao ?_|simp);(refine CallDo.own Ψ (key) (by simp[eg]) ?_;simp);(repeat' first|refine ao ?_|simp);(refine hV.val Ψ ?_;simp[bc,bf,a6,e3,hj,ez,gO,ed,gH,tnL,tn,fm,fX,fold,hy,hv,iA,ae,eg,cf,b7]);all_goals simp[Tm.k]
@[simp]def auv(t:Tm)(n:Nat):cells (t.k n)=[aj t.kind,aj t.num,.str t.name,.slice 4 (.tr (.loc n) 0) (t.args.map enc)]:=rfl
@[simp]def axN(t:Tm)(n:Nat):eU (t.k n)=true:=rfl
def atl(t:Tm):bT au 18 [enc t] (enc t):=by have:=(OX t).val (by rw[BV.st];simp);rwa[BV.st]at this
def acz(t:Tm):bT au 22 [enc t,enc t] (.bool true):=by
 suffices H:∀(k:Nat) (t:Tm),t.sz<=k->bT au 22 [enc t,enc t] (.bool true)from H _ t (dP _)
 intro k;induction k with
 |zero=>intro t b;cases t;simp[Tm.sz]at b
 |succ k a=>intro t b;have key:=aso t.args (fun x c=>a x (by have:=QG c;omega));clear a;refine bI a1 Tryz.func22 aog fun d=>?_;unfold SP;exact cn
structure fR where
 v:Int
 t:cG
def fR.e(b:fR):af:= .agg [aj b.v,aj b.t.kind,aj b.t.num,b.t.name.e,b.t.args.e 4 cG.e]
@[simp]def av1(S:aB->Prop)(b:fR):az S b.e=True:=by simp[fR.e,az,aH]
@[simp]def axS(b:fR):b7 b.e=b.e:=by simp[fR.e,b7,cf]
def XQ(S:aB->Prop):∀l:List fR,aH S (l.map fR.e)
 |[]=>by simp[aH]
 |x::xs=>by simp[aH,XQ S xs]
@[simp]def avQ(S:aB->Prop)(l:List fR):aH S (l.map fR.e)=True:=h4 (XQ S l)
@[simp]def axo(b:fR):eU b.e=true:=rfl
@[simp]def avz(b:fR):qJ 5 b.e:=⟨_,rfl,rfl⟩
@[simp]def at7(b:fR):cells b.e=[aj b.v,aj b.t.kind,aj b.t.num,b.t.name.e,b.t.args.e 4 cG.e]:=rfl
structure iz where
 v:Int
 s:gW
def iz.e(b:iz):af:= .agg [aj b.v,b.s.e]
@[simp]def awd(S:aB->Prop)(b:iz):az S b.e=True:=by simp[iz.e,az,aH]
@[simp]def ax4(b:iz):b7 b.e=b.e:=by simp[iz.e,b7,cf]
def XV(S:aB->Prop):∀l:List iz,aH S (l.map iz.e)
 |[]=>by simp[aH]
 |x::xs=>by simp[aH,XV S xs]
@[simp]def avV(S:aB->Prop)(l:List iz):aH S (l.map iz.e)=True:=h4 (XV S l)
@[simp]def axF(b:iz):eU b.e=true:=rfl
@[simp]def avE(b:iz):qJ 2 b.e:=⟨_,rfl,rfl⟩
@[simp]def aun(b:iz):cells b.e=[aj b.v,b.s.e]:=rfl
def qU(b:fR)(m:Int):Int:=hD b.t m
def QB(b:fR)(m:Int)(h:0<=m): -1<=qU b m/\qU b m<=m:=yr b.t m h
def jU(b:iz)(m:Int):Int:=if m-b.s.len<0 then-1 else m-b.s.len
def F1(b:iz)(m:Int)(h:0<=m): -1<=jU b m/\jU b m<=m:=by have:=b.s.len_nn;unfold jU;split<;>omega
def GB(t:cG):af.agg [aj t.kind,aj t.num,t.name.e,t.args.e 4 cG.e]=t.e:=(cG.e_eq t).symm
def ata(b:fR)(hw:b.t.wf)(m:Int)(a:0<=m)(J:m<=1048576):bT au 97 [b.e,aj m] (aj (qU b m)):=by
 have key:=acX b.t hw m a J;have hle:=yr b.t m a;unfold qU;generalize hD b.t m=q at key hle⊢;by_cases c:q<0
 ·have:q= -1:=Ω
  subst this;refine bI a1 Tryz.func97 Zx fun d=>?_;unfold Lm;simp[GB];(repeat' first|refine ao ?_|refine aO key ?_|refine aP key ?_|simp[GB]);all_goals simp[bZ,bc,bf,a6]
 ·refine bI a1 Tryz.func97 Zx fun d=>?_;unfold Lm;simp[GB];(repeat' first|refine ao ?_|refine aO key ?_|refine aP key ?_|simp[c,GB]);all_goals simp[bZ,bc,bf,a6]
def _root_.Go.Pv.Bt.k(b:Bt)(κ:Nat):af:= .agg [aj b.v,aj b.t.kind,aj b.t.num,.str b.t.name,.slice 4 (.tr (.loc κ) 0) (b.t.args.map enc)]
def qp(d:List Bt)(κ:Nat):af:= .slice 5 (.tr (.loc κ) 0) (d.map Bt.e)
def Iw:nH Bt.k Bt.e:=⟨fun x n=>rfl,fun x n=>⟨trivial,trivial,trivial,trivial,Ck n,trivial⟩,fun x n=>by simp only[Bt.k,b7,cf,abP];rfl,fun S x n h=>by simp[Bt.k,az,aH,h]⟩
def Ix:nH qp gA:=⟨fun x n=>rfl,fun x n=>Ck n,fun x n=>by simp[qp,gA,b7],fun S x n h=>by simp[qp,az,h]⟩
def ank(b:Bt):fJ au 101 [b.e] b.k:=by have key:=OX b.t;refine fJ.mk mixed a1 Tryz.func101 aon Ψ fun a κ=>?_;unfold SZ;simp;(repeat' first|refine ao ?_|simp);(refine CallDo.own Ψ (key) (by simp[eg]) ?_;simp);(repeat' first|refine ao ?_|simp);(refine hV.val Ψ ?_;simp[bc,bf,a6,e3,hj,ez,gO,ed,gH,tnL,tn,fm,fX,fold,hy,hv,iA,ae,eg,cf,b7]);all_goals simp[Bt.k]
def asi(b:Bt):bT au 103 [b.e,b.e] (.bool true):=by have key:=acz b.t;refine bI a1 Tryz.func103 aoa fun a=>?_;unfold SJ;exact cn
def atd(b:iz)(hw:b.s.wf)(m:Int)(f:0<=m)(J:m<=1048576):bT au 144 [b.e,aj m] (aj (jU b m)):=by
 have a:m-b.s.len<0->jU b m= -1:=fun g=>if_pos g;have c:¬m-b.s.len<0->jU b m=m-b.s.len:=fun g=>if_neg g;generalize jU b m=R at a c;obtain⟨v,s⟩:=b;simp only[iz.e]at hw a c⊢;cases s with
 |b x=>
  simp only[gW.wf,mV,lim]at hw;have g:m-x.size<0:=Ω
  have bt:=a g;subst bt;clear a c;simp only[gW.e];refine bI a1 Tryz.func144 O8 fun d=>?_;unfold GQ;exact cn
 |s l=>
  simp only[gW.e];by_cases g:m-l.length<0
  ·have bt:=a g;subst bt;clear a c hw;refine bI a1 Tryz.func144 O8 fun d=>?_;unfold GQ;have e:l.length<=68719476736:=by simp[eI,eN,eJ,lim]at d;omega
   exact cn
  ·have bt:R=m-l.length:=c g;subst bt;clear a c hw;refine bI a1 Tryz.func144 O8 fun d=>?_;unfold GQ;have e:l.length<=68719476736:=by simp[eI,eN,eJ,lim]at d;omega
   exact cn
def atm(b:bJ):bT au 156 [b.e] b.e:=by refine bI a1 Tryz.func156 aov fun a=>?_;unfold S7;exact cn
def atj(b:bn):bT au 157 [b.e] b.e:=by refine bI a1 Tryz.func157 aoq fun a=>?_;unfold S2;exact cn
def asp(b:bJ):bT au 170 [b.e,b.e] (.bool true):=by refine bI a1 Tryz.func170 aoi fun a=>?_;unfold SR;exact cn
def asm(b:bn):bT au 171 [b.e,b.e] (.bool true):=by refine bI a1 Tryz.func171 aod fun a=>?_;unfold SM;exact cn
@[simp high] def axg(x y:bn):od x.e 0 [aj y.v,.str y.s]=y.e:=rfl
@[simp high] def axf(x y:bJ):od x.e 0 [aj y.v,aj y.k]=y.e:=rfl
@[simp]def anr(l:List bn):fX (l.map bn.e)=True:=h4 (Fb (f:=bn.e) (fun _=>⟨trivial,trivial,trivial⟩) l)
@[simp]def ayd(l:List bn):tnL (l.map bn.e)=[]:=Kb (f:=bn.e) (fun _=>rfl) l
@[simp]def anq(l:List bJ):fX (l.map bJ.e)=True:=h4 (Fb (f:=bJ.e) (fun _=>⟨trivial,trivial,trivial⟩) l)
def atb(l:dA fR)(hw:∀p n cap,l= .b p n cap->mV n)(c:∀xs,l= .l xs->∀x∈xs,∀m,0<=m->m<=1048576->bT au 97 [fR.e x,aj m] (aj (qU x m)))(m:Int)(u:0<=m)(J:m<=1048576):bT au 33 [l.e 5 fR.e,aj m] (aj (fs qU l m)):=by
 cases l with
 |b p n cap=>
  have r:=hw p n cap rfl;simp only[mV,lim]at r;have g:m-n<0:=Ω
  simp only[dA.e,fs];clear hw c;refine bI a1 Tryz.func33 Zy fun o=>?_;unfold Ln;exact cn
 |l l=>
 have c:=c l rfl;clear hw;simp only[dA.e,fs];generalize bt:mr qU l m=R;unfold mr at bt;refine bI a1 Tryz.func33 Zy fun o=>?_;unfold Ln;have t:l.length<=68719476736:=by simp[eI,eN,eJ,lim]at o;omega
 simp;by_cases g:m-l.length<0
 ·rw[if_pos g]at bt;subst bt;exact cn
 rw[if_neg g]at bt;(repeat' first|refine ao ?_|simp[g]);refine eZ [0] (fun i (k:Int)=>[(1,aj k),(5,aj i)]) l.length (fun i k=>(0<=k/\k<=1048576)/\jT qU (l.drop i) k=R) (m-l.length) b9 ⟨⟨Ω,Ω⟩,by simpa using bt⟩ (fun k a _=>?_) (fun i k hi a _=>?_)
 ·obtain⟨_,a⟩:=a;rw[List.drop_length]at a;simp only[jT]at a;subst a;exact cn
 ·obtain⟨⟨f,s⟩,a⟩:=a;obtain⟨x,e,j⟩:=eW hi;have key:=c x (ft e) k f s;have hle:=QB x k f;rw[uZ e]at a;simp only[jT]at a;generalize qU x k=q at key hle a;clear e;by_cases d:q<0
  ·rw[if_pos d]at a;subst a;exact cn
  ·rw[if_neg d]at a;simp[hi,j];((repeat' first|refine ao ?_|refine aO key ?_|refine aP key ?_|simp[hi,j,d]|((first|apply ct|apply cz|apply cy)<;>intro h<;>try simp at h))<;>(try exact c3));all_goals exact bY.rng q hi ⟨⟨Ω,Ω⟩,a⟩ b9
def anl(l:List Bt)(v:∀x∈l,fJ au 101 [Bt.e x] (Bt.k x)):fJ au 35 [bL (l.map Bt.e)] fun κ=>.slice 5 (.tr (.loc κ) 0) (l.map Bt.e):=by
 refine fJ.mk mixed a1 Tryz.func35 aoo Ψ fun u κ=>?_;unfold S0;have w:l.length<=68719476736:=by simp[eI,eN,eJ,lim]at u;omega
 simp;all_goals try refine⟨by unfold lim;omega,?_⟩
 (repeat' first|refine ao ?_|simp);have c:∀S:aB->Prop,az S (.agg [aj 0,aj 0,aj 0,.str [],.slice 4 .nil []]):=fun S=>by simp[az,aH]
 refine fU (fun i (x:Nat×List (Bt×Nat))=>⟨[(0,bL (l.map Bt.e)),(3,.row 5 (.loc 0) l.length),(4,aj i)],[],[(.loc 0,⟨l.length,113,5,some (l0 Bt.k (.agg [aj 0,aj 0,aj 0,.str [],.slice 4 .nil []]) x.2 l.length)⟩)],x.1,[]⟩) l.length (fun i x=>1<=x.1/\q6 x.1 x.2/\x.2.map (·.1)=l.take i) (1,[]) ⟨by simp[fresh,aH,az,cd,aM,ae,<-wC,qL _ _ (c _)],eo (by simp[fresh,aH,az,cd,aM,ae,<-wC,qL _ _ (c _)]),ep (by simp[fresh,aH,az,dV,aM,ae,<-wC,qL _ _ (c _)]),Ψ⟩ ⟨dP _,.nil _,Ψ⟩ (fun x e _=>?_) (fun i x hi e _=>?_)
 ·obtain⟨n,out⟩:=x;obtain⟨J,U,a⟩:=e;simp only[jC]at J U a;have b:out.length=l.length:=by rw[<-a];simp
  simp;rw[OM _ _ b];(repeat' first|refine ao ?_|simp);(refine hV.val Ψ ?_;simp[bc,bf,a6,e3,hj,ez,gO,ed,gH,tnL,tn,fm,fX,fold,hy,hv,iA,ae,eg,cf,b7,Iw.okL,Iw.nodup U,Iw.stL,a,b])
 ·obtain⟨n,out⟩:=x;obtain⟨J,U,a⟩:=e;simp only at J U a;obtain⟨x,r,k⟩:=eW hi;have key:=v x (ft r);have b:out.length=i:=by have:=fy List.length a;simp at this;omega
  have d:=ON Bt.k (.agg [aj 0,aj 0,aj 0,.str [],.slice 4 .nil []]) hi b;have g:∀h,((l0 Bt.k (.agg [aj 0,aj 0,aj 0,.str [],.slice 4 .nil []]) out l.length)[i]'h)= .agg [aj 0,aj 0,aj 0,.str [],.slice 4 .nil []]:=fun h=>by rw[cl h]at d;exact e7 d
  have f:=fun m=>OP Bt.k (.agg [aj 0,aj 0,aj 0,.str [],.slice 4 .nil []]) hi b x m;have o:=OO Bt.k (.agg [aj 0,aj 0,aj 0,.str [],.slice 4 .nil []]) (out:=out) (n:=l.length) Ω;have y:=fun m n' (h:n<=m) (t:m<n')=>U.snoc x h t;have s:∀m,(out++[(x,m)]).map (fun p:Bt×Nat=>p.1)=l.take (i+1):=fun m=>by rw[nE r,<-a];simp
  generalize l0 Bt.k (.agg [aj 0,aj 0,aj 0,.str [],.slice 4 .nil []]) out l.length=r0 at d g f o⊢;have q:=U.snoc x (dP n) (Nat.lt_succ_self n);have j:=NZ Iw c q (dP _) [] l.length;simp[fresh]at j;simp[hi,k];(refine CallDo.own Ψ (key) (by simp[eg]) ?_;simp);(repeat' first|refine ao ?_|simp[hi,k,g,o,f,Bt.k,nB]);refine bY.rng (n+1,out++[(x,n)]) hi ?_ ?_
  ·exact⟨Ψ,q,s n⟩
  simp;rw[show(af.agg [aj x.v,aj x.t.kind,aj x.t.num,.str x.t.name,.slice 4 (.tr (.loc n) 0) (x.t.args.map enc)])=Bt.k x n from rfl,f n];exact⟨by simp[fresh,aH,az,cd,aM,ae],eo Ψ,ep (by simp[fresh,aH,az,cd,aM,ae,dV];exact j),Ψ⟩
def asj(l:List Bt)(c:∀x∈l,bT au 103 [Bt.e x,Bt.e x] (.bool true)):bT au 37 [bL (l.map Bt.e),bL (l.map Bt.e)] (.bool true):=by
 refine bI a1 Tryz.func37 aob fun b=>?_;unfold SK;have d:l.length<=68719476736:=by simp[eI,eN,eJ,lim]at b;omega
 simp;(repeat' first|refine ao ?_|simp);refine eZ [0,1] (fun i (_:Unit)=>[(5,aj i)]) l.length (fun _ _=>True) () b9 trivial (fun _ _ _=>?_) (fun i _ hi _ _=>?_)
 ·exact cn
 ·obtain⟨x,a,e⟩:=eW hi;have key:=c x (ft a);clear a;exact iW
def ate(l:dA iz)(hw:∀p n cap,l= .b p n cap->mV n)(c:∀xs,l= .l xs->∀x∈xs,∀m,0<=m->m<=1048576->bT au 144 [iz.e x,aj m] (aj (jU x m)))(m:Int)(u:0<=m)(J:m<=1048576):bT au 74 [l.e 2 iz.e,aj m] (aj (fs jU l m)):=by
 cases l with
 |b p n cap=>
  have r:=hw p n cap rfl;simp only[mV,lim]at r;have g:m-n<0:=Ω
  simp only[dA.e,fs];clear hw c;refine bI a1 Tryz.func74 ZA fun o=>?_;unfold Lp;exact cn
 |l l=>
 have c:=c l rfl;clear hw;simp only[dA.e,fs];generalize bt:mr jU l m=R;unfold mr at bt;refine bI a1 Tryz.func74 ZA fun o=>?_;unfold Lp;have t:l.length<=68719476736:=by simp[eI,eN,eJ,lim]at o;omega
 simp;by_cases g:m-l.length<0
 ·rw[if_pos g]at bt;subst bt;exact cn
 rw[if_neg g]at bt;(repeat' first|refine ao ?_|simp[g]);refine eZ [0] (fun i (k:Int)=>[(1,aj k),(5,aj i)]) l.length (fun i k=>(0<=k/\k<=1048576)/\jT jU (l.drop i) k=R) (m-l.length) b9 ⟨⟨Ω,Ω⟩,by simpa using bt⟩ (fun k a _=>?_) (fun i k hi a _=>?_)
 ·obtain⟨_,a⟩:=a;rw[List.drop_length]at a;simp only[jT]at a;subst a;exact cn
 ·obtain⟨⟨f,s⟩,a⟩:=a;obtain⟨x,e,j⟩:=eW hi;have key:=c x (ft e) k f s;have hle:=F1 x k f;rw[uZ e]at a;simp only[jT]at a;generalize jU x k=q at key hle a;clear e;by_cases d:q<0
  ·rw[if_pos d]at a;subst a;exact cn
  ·rw[if_neg d]at a;simp[hi,j];((repeat' first|refine ao ?_|refine aO key ?_|refine aP key ?_|simp[hi,j,d]|((first|apply ct|apply cz|apply cy)<;>intro h<;>try simp at h))<;>(try exact c3));all_goals exact bY.rng q hi ⟨⟨Ω,Ω⟩,a⟩ b9
def apw(l:List bn)(j:∀x∈l,bT au 157 [bn.e x] (bn.e x)):fJ au 85 [b5 (l.map bn.e)] fun κ=>.slice 2 (.tr (.loc κ) 0) (l.map bn.e):=by
 refine fJ.mk mixed a1 Tryz.func85 aor Ψ fun h κ=>?_;unfold S3;have k:l.length<=68719476736:=by simp[eI,eN,eJ,lim]at h;omega
 simp;all_goals try refine⟨by unfold lim;omega,?_⟩
 (repeat' first|refine ao ?_|simp);have c:∀(S:aB->Prop) (n:Nat),aH S (List.replicate n ((⟨0,[]⟩:bn).e))=True:=fun S n=>h4 (qL S _ (by simp[az,aH]) n);refine fU (fun i (_:Unit)=>⟨[(0,b5 (l.map bn.e)),(3,.row 2 (.loc 0) l.length),(4,aj i)],[],[(.loc 0,⟨l.length,100,2,some (ny bn.e ((⟨0,[]⟩:bn).e) l i)⟩)],1,[]⟩) l.length (fun _ _=>True) () ⟨by simp[fresh,aH,az,cd,aM,ae,Cf,c],eo (by simp[fresh,aH,az,cd,aM,ae,Cf,c]),ep (by simp[fresh,aH,az,dV,aM,ae,Cf,c]),Ψ⟩ trivial (fun _ _ _=>?_) (fun i _ hi _ _=>?_)
 ·rw[YN];simp;(repeat' first|refine ao ?_|simp);(refine hV.val Ψ ?_;simp[bc,bf,a6,e3,hj,ez,gO,ed,gH,tnL,tn,fm,fX,fold,hy,hv,iA,ae,eg,cf,b7,anr])
 ·obtain⟨x,d,e⟩:=eW hi;have key:=j x (ft d);have f:=YO bn.e ((⟨0,[]⟩:bn).e) l hi;have b:=YP bn.e ((⟨0,[]⟩:bn).e) l d;have a:∀S:aB->Prop,aH S (ny bn.e ((⟨0,[]⟩:bn).e) l (i+1)):=fun S=>X0 S _ _ _ _ (fun x=>by simp) (by simp[az,aH]);generalize ny bn.e ((⟨0,[]⟩:bn).e) l i=r0 at f b;generalize g:ny bn.e ((⟨0,[]⟩:bn).e) l (i+1)=m at b a;clear d;simp[hi,e];(repeat' first|refine ao ?_|refine aO key ?_|refine aP key ?_|simp[hi,e,f,b,-od]);all_goals refine bY.rng () hi trivial ?_
  all_goals rw[g]
  all_goals first
   |exact⟨by simp[fresh,aH,az,cd,aM,ae,a],eo (by simp[fresh,aH,az,cd,aM,ae,a]),ep (by simp[fresh,aH,az,dV,aM,ae,a]),Ψ⟩
   |exact⟨by simp[fresh,aH,az,cd,aM,ae,a],eo (by simp[fresh,aH,az,cd,aM,ae,a]),ep (by simp[fresh,aH,az,dV,aM,ae,a];exact b),Ψ⟩
def asn(l:List bn)(c:∀x∈l,bT au 171 [bn.e x,bn.e x] (.bool true)):bT au 94 [b5 (l.map bn.e),b5 (l.map bn.e)] (.bool true):=by
 refine bI a1 Tryz.func94 aoe fun b=>?_;unfold SN;have d:l.length<=68719476736:=by simp[eI,eN,eJ,lim]at b;omega
 simp;(repeat' first|refine ao ?_|simp);refine eZ [0,1] (fun i (_:Unit)=>[(5,aj i)]) l.length (fun _ _=>True) () b9 trivial (fun _ _ _=>?_) (fun i _ hi _ _=>?_)
 ·exact cn
 ·obtain⟨x,a,e⟩:=eW hi;have key:=c x (ft a);clear a;exact iW
def apx(l:List bJ)(j:∀x∈l,bT au 156 [bJ.e x] (bJ.e x)):fJ au 84 [b5 (l.map bJ.e)] fun κ=>.slice 2 (.tr (.loc κ) 0) (l.map bJ.e):=by
 refine fJ.mk mixed a1 Tryz.func84 aow Ψ fun h κ=>?_;unfold S8;have k:l.length<=68719476736:=by simp[eI,eN,eJ,lim]at h;omega
 simp;all_goals try refine⟨by unfold lim;omega,?_⟩
 (repeat' first|refine ao ?_|simp);have c:∀(S:aB->Prop) (n:Nat),aH S (List.replicate n ((⟨0,0⟩:bJ).e))=True:=fun S n=>h4 (qL S _ (by simp[az,aH]) n);refine fU (fun i (_:Unit)=>⟨[(0,b5 (l.map bJ.e)),(3,.row 2 (.loc 0) l.length),(4,aj i)],[],[(.loc 0,⟨l.length,98,2,some (ny bJ.e ((⟨0,0⟩:bJ).e) l i)⟩)],1,[]⟩) l.length (fun _ _=>True) () ⟨by simp[fresh,aH,az,cd,aM,ae,Cf,c],eo (by simp[fresh,aH,az,cd,aM,ae,Cf,c]),ep (by simp[fresh,aH,az,dV,aM,ae,Cf,c]),Ψ⟩ trivial (fun _ _ _=>?_) (fun i _ hi _ _=>?_)
 ·rw[YN];simp;(repeat' first|refine ao ?_|simp);(refine hV.val Ψ ?_;simp[bc,bf,a6,e3,hj,ez,gO,ed,gH,tnL,tn,fm,fX,fold,hy,hv,iA,ae,eg,cf,b7,anq])
 ·obtain⟨x,d,e⟩:=eW hi;have key:=j x (ft d);have f:=YO bJ.e ((⟨0,0⟩:bJ).e) l hi;have b:=YP bJ.e ((⟨0,0⟩:bJ).e) l d;have a:∀S:aB->Prop,aH S (ny bJ.e ((⟨0,0⟩:bJ).e) l (i+1)):=fun S=>X0 S _ _ _ _ (fun x=>by simp) (by simp[az,aH]);generalize ny bJ.e ((⟨0,0⟩:bJ).e) l i=r0 at f b;generalize g:ny bJ.e ((⟨0,0⟩:bJ).e) l (i+1)=m at b a;clear d;simp[hi,e];(repeat' first|refine ao ?_|refine aO key ?_|refine aP key ?_|simp[hi,e,f,b,-od]);all_goals refine bY.rng () hi trivial ?_
  all_goals rw[g]
  all_goals first
   |exact⟨by simp[fresh,aH,az,cd,aM,ae,a],eo (by simp[fresh,aH,az,cd,aM,ae,a]),ep (by simp[fresh,aH,az,dV,aM,ae,a]),Ψ⟩
   |exact⟨by simp[fresh,aH,az,cd,aM,ae,a],eo (by simp[fresh,aH,az,cd,aM,ae,a]),ep (by simp[fresh,aH,az,dV,aM,ae,a];exact b),Ψ⟩
def asq(l:List bJ)(c:∀x∈l,bT au 170 [bJ.e x,bJ.e x] (.bool true)):bT au 93 [b5 (l.map bJ.e),b5 (l.map bJ.e)] (.bool true):=by
 refine bI a1 Tryz.func93 aoj fun b=>?_;unfold SU;have d:l.length<=68719476736:=by simp[eI,eN,eJ,lim]at b;omega
 simp;(repeat' first|refine ao ?_|simp);refine eZ [0,1] (fun i (_:Unit)=>[(5,aj i)]) l.length (fun _ _=>True) () b9 trivial (fun _ _ _=>?_) (fun i _ hi _ _=>?_)
 ·exact cn
 ·obtain⟨x,a,e⟩:=eW hi;have key:=c x (ft a);clear a;exact iW
def lD:dA bJ->Int->Int
 | .l l,m=>if m-l.length<0 then-1 else m-l.length
 | .b _ _ _,_=> -1
def J7(l:dA bJ)(m:Int)(h:0<=m): -1<=lD l m/\lD l m<=m:=by
 cases l with
 |l l=>simp only[lD];split<;>omega
 |b=>simp only[lD];omega
def atg(l:dA bJ)(hw:∀p n cap,l= .b p n cap->mV n)(m:Int)(e:0<=m)(J:m<=1048576):bT au 73 [l.e 2 bJ.e,aj m] (aj (lD l m)):=by
 cases l with
 |b p n cap=>
  have d:=hw p n cap rfl;simp only[mV,lim]at d;have g:m-n<0:=Ω
  simp only[dA.e,lD];clear hw;refine bI a1 Tryz.func73 O9 fun a=>?_;unfold GR;exact cn
 |l l=>
  simp only[dA.e,lD];clear hw;by_cases g:m-l.length<0
  ·rw[if_pos g];refine bI a1 Tryz.func73 O9 fun a=>?_;unfold GR;have c:l.length<=68719476736:=by simp[eI,eN,eJ,lim]at a;omega
   exact cn
  ·rw[if_neg g];refine bI a1 Tryz.func73 O9 fun a=>?_;unfold GR;have c:l.length<=68719476736:=by simp[eI,eN,eJ,lim]at a;omega
   exact cn
def k9(d:dA fR):af:=d.e 5 fR.e
@[simp]def av4(S:aB->Prop)(d:dA fR):az S (k9 d)=True:=by cases d<;>simp[k9,dA.e,az]
@[simp]def axV(d:dA fR):b7 (k9 d)=k9 d:=by
 cases d with
 |l l=>
  have:∀l:List fR,cf (l.map fR.e)=l.map fR.e:=by
   intro l;induction l with
   |nil=>rfl
   |cons x l a=>simp[cf,a]
  simp[k9,dA.e,b7,this]
 |b=>simp[k9,dA.e,b7]
def XY(S:aB->Prop):∀l:List (dA fR),aH S (l.map k9)
 |[]=>by simp[aH]
 |x::xs=>by simp[aH,XY S xs]
@[simp]def avX(S:aB->Prop)(l:List (dA fR)):aH S (l.map k9)=True:=h4 (XY S l)
@[simp]def axu(d:dA fR):eU (k9 d)=true:=by cases d<;>rfl
@[simp]def aub(d:dA fR):cells (k9 d)=[k9 d]:=by cases d<;>rfl
def eF(d:dA fR)(m:Int):Int:=fs qU d m
def vh(d:dA fR)(m:Int)(h:0<=m): -1<=eF d m/\eF d m<=m:=vi QB d m h
def yy(d:dA fR):Prop:=d.wf fun b=>b.t.wf
@[simp]def arC:∀l:List (List Bt),cf (l.map gA)=l.map gA
 |[]=>rfl
 |x::xs=>by simp[cf,arC xs]
def acW(d:dA fR)(hw:yy d)(m:Int)(a:0<=m)(J:m<=1048576):bT au 33 [k9 d,aj m] (aj (eF d m)):=atb d (fun p n c e=>by subst e;exact hw) (fun xs e x b m a J=>by subst e;exact ata x (hw x b) m a J) m a J
def Y6(d:List Bt):fJ au 35 [gA d] (qp d):=anl d fun x _=>ank x
def acx(d:List Bt):bT au 37 [gA d,gA d] (.bool true):=asj d fun x _=>asi x
def atc(l:dA (dA fR))(hw:∀p n cap,l= .b p n cap->mV n)(c:∀xs,l= .l xs->∀x∈xs,∀m,0<=m->m<=1048576->bT au 33 [k9 x,aj m] (aj (eF x m)))(m:Int)(u:0<=m)(J:m<=1048576):bT au 72 [l.e 1 k9,aj m] (aj (fs eF l m)):=by
 cases l with
 |b p n cap=>
  have r:=hw p n cap rfl;simp only[mV,lim]at r;have g:m-n<0:=Ω
  simp only[dA.e,fs];clear hw c;refine bI a1 Tryz.func72 Zz fun o=>?_;unfold Lo;exact cn
 |l l=>
 have c:=c l rfl;clear hw;simp only[dA.e,fs];generalize bt:mr eF l m=R;unfold mr at bt;refine bI a1 Tryz.func72 Zz fun o=>?_;unfold Lo;have t:l.length<=68719476736:=by simp[eI,eN,eJ,lim]at o;omega
 simp;by_cases g:m-l.length<0
 ·rw[if_pos g]at bt;subst bt;exact cn
 rw[if_neg g]at bt;(repeat' first|refine ao ?_|simp[g]);refine eZ [0] (fun i (k:Int)=>[(1,aj k),(5,aj i)]) l.length (fun i k=>(0<=k/\k<=1048576)/\jT eF (l.drop i) k=R) (m-l.length) b9 ⟨⟨Ω,Ω⟩,by simpa using bt⟩ (fun k a _=>?_) (fun i k hi a _=>?_)
 ·obtain⟨_,a⟩:=a;rw[List.drop_length]at a;simp only[jT]at a;subst a;exact cn
 ·obtain⟨⟨f,s⟩,a⟩:=a;obtain⟨x,e,j⟩:=eW hi;have key:=c x (ft e) k f s;have hle:=vh x k f;rw[uZ e]at a;simp only[jT]at a;generalize eF x k=q at key hle a;clear e;by_cases d:q<0
  ·rw[if_pos d]at a;subst a;exact cn
  ·rw[if_neg d]at a;simp[hi,j];((repeat' first|refine ao ?_|refine aO key ?_|refine aP key ?_|simp[hi,j,d]|((first|apply ct|apply cz|apply cy)<;>intro h<;>try simp at h))<;>(try exact c3));all_goals exact bY.rng q hi ⟨⟨Ω,Ω⟩,a⟩ b9
def anm(l:List (List Bt))(v:∀x∈l,fJ au 35 [gA x] (qp x)):fJ au 83 [cX (l.map gA)] fun κ=>.slice 1 (.tr (.loc κ) 0) (l.map gA):=by
 refine fJ.mk mixed a1 Tryz.func83 aop Ψ fun u κ=>?_;unfold S1;have w:l.length<=68719476736:=by simp[eI,eN,eJ,lim]at u;omega
 simp;all_goals try refine⟨by unfold lim;omega,?_⟩
 (repeat' first|refine ao ?_|simp);have c:∀S:aB->Prop,az S (.slice 5 .nil []):=fun S=>by simp[az,aH]
 refine fU (fun i (x:Nat×List ((List Bt)×Nat))=>⟨[(0,cX (l.map gA)),(3,.row 1 (.loc 0) l.length),(4,aj i)],[],[(.loc 0,⟨l.length,46,1,some (l0 qp (.slice 5 .nil []) x.2 l.length)⟩)],x.1,[]⟩) l.length (fun i x=>1<=x.1/\q6 x.1 x.2/\x.2.map (·.1)=l.take i) (1,[]) ⟨by simp[fresh,aH,az,cd,aM,ae,<-wC,qL _ _ (c _)],eo (by simp[fresh,aH,az,cd,aM,ae,<-wC,qL _ _ (c _)]),ep (by simp[fresh,aH,az,dV,aM,ae,<-wC,qL _ _ (c _)]),Ψ⟩ ⟨dP _,.nil _,Ψ⟩ (fun x e _=>?_) (fun i x hi e _=>?_)
 ·obtain⟨n,out⟩:=x;obtain⟨J,U,a⟩:=e;simp only[jC]at J U a;have b:out.length=l.length:=by rw[<-a];simp
  simp;rw[OM _ _ b];(repeat' first|refine ao ?_|simp);(refine hV.val Ψ ?_;simp[bc,bf,a6,e3,hj,ez,gO,ed,gH,tnL,tn,fm,fX,fold,hy,hv,iA,ae,eg,cf,b7,Ix.okL,Ix.nodup U,Ix.stL,a,b])
 ·obtain⟨n,out⟩:=x;obtain⟨J,U,a⟩:=e;simp only at J U a;obtain⟨x,r,k⟩:=eW hi;have key:=v x (ft r);have b:out.length=i:=by have:=fy List.length a;simp at this;omega
  have d:=ON qp (.slice 5 .nil []) hi b;have g:∀h,((l0 qp (.slice 5 .nil []) out l.length)[i]'h)= .slice 5 .nil []:=fun h=>by rw[cl h]at d;exact e7 d
  have f:=fun m=>OP qp (.slice 5 .nil []) hi b x m;have o:=OO qp (.slice 5 .nil []) (out:=out) (n:=l.length) Ω;have y:=fun m n' (h:n<=m) (t:m<n')=>U.snoc x h t;have s:∀m,(out++[(x,m)]).map (fun p:(List Bt)×Nat=>p.1)=l.take (i+1):=fun m=>by rw[nE r,<-a];simp
  generalize l0 qp (.slice 5 .nil []) out l.length=r0 at d g f o⊢;have q:=U.snoc x (dP n) (Nat.lt_succ_self n);have j:=NZ Ix c q (dP _) [] l.length;simp[fresh]at j;simp[hi,k];(refine CallDo.own Ψ (key) (by simp[eg]) ?_;simp);(repeat' first|refine ao ?_|simp[hi,k,g,o,f,qp,nB]);refine bY.rng (n+1,out++[(x,n)]) hi ?_ ?_
  ·exact⟨Ψ,q,s n⟩
  simp;rw[show(af.slice 5 (.tr (.loc n) 0) (x.map Bt.e))=qp x n from rfl,f n];exact⟨by simp[fresh,aH,az,cd,aM,ae],eo Ψ,ep (by simp[fresh,aH,az,cd,aM,ae,dV];exact j),Ψ⟩
def asl(l:List (List Bt))(c:∀x∈l,bT au 37 [gA x,gA x] (.bool true)):bT au 92 [cX (l.map gA),cX (l.map gA)] (.bool true):=by
 refine bI a1 Tryz.func92 aoc fun b=>?_;unfold SL;have d:l.length<=68719476736:=by simp[eI,eN,eJ,lim]at b;omega
 simp;(repeat' first|refine ao ?_|simp);refine eZ [0,1] (fun i (_:Unit)=>[(5,aj i)]) l.length (fun _ _=>True) () b9 trivial (fun _ _ _=>?_) (fun i _ hi _ _=>?_)
 ·exact cn
 ·obtain⟨x,a,e⟩:=eW hi;have key:=c x (ft a);clear a;exact iW
def Tz:C:=(aa [c0 1 0,bz 2 false] (aa [bk 3 4 1,dT 4 123 [.t 3,(gV 5000)],aV 5 .leq 4 5000,I 6 5,ax 6 true (bk 7 4 1),ax 6 true (cY 8 124 7),ei 9 6 8,I 2 9] .ret))
def AV:C:=(aa [c0 2 0,fw 4 1] (.seq (aa [aF 7 0 1 2,ay 8 1 7,aV 9 .eql 8 1] (aW 9 (aa [I 10 1,aF 11 1 1 2,ay 12 1 11,cc 13 126 10 12,I 4 13] .ret) .skip)) (.seq (aa [aF 14 3 1 2,ay 15 1 14,cw 16 15,bQ 17 0] (gx 18 17 16 (.seq (.block 1 (aa [ck 19 4 15 17,bk 20 4 19,dI 6 eC,bV 4 6 20] (.region [bk 21 4 6,I 22 1,cc 23 58 21 22,I 1 23]))) (.region [aV 24 .add 17 1,I 17 24])))) (aa [I 25 1,I 4 25] .ret))))
def TJ:C:=(aa [c0 3 1,dI 4 eC,bz 5 false] (aa [I 7 0,bk 8 4 3,cc 9 127 7 8,dI 6 eC,bV 4 6 9] (.seq (.drawn true 13 [bk 10 4 6,bk 11 4 6,cY 12 128 11,bV 4 4 10,I 5 12]) .ret)))
def TA:C:=(aa [bz 6 false] (aa [I 7 0,I 8 1,bu 9 .geq 7 8,I 10 9,cg 10 true 11 0,cg 10 true 12 2,ax 10 true (bu 13 .leq 11 12),ei 14 10 13,I 6 14] .ret))
def Lx:C:=(aa [bz 2 false] (.seq (aa [I 9 0,cY 10 145 9,cO 11 10] (aW 11 (aa [bz 2 false] .ret) .skip)) (.seq (aa [I 12 0,cw 13 12,bQ 14 0] (gx 15 14 13 (.seq (.block 1 (aa [ck 16 5 12 14,bk 17 5 16,dI 4 kx,bV 5 4 17] (.seq (aa [hr 18 1 4 4,aF 19 0 1 18,ay 20 1 19,aV 21 .eql 20 1,I 22 21,ax 22 true (hr 23 1 4 4),ax 22 true (aF 24 1 1 23),ax 22 true (ay 25 1 24),ax 22 true (aF 26 0 1 4),ax 22 true (ay 27 1 26),ax 22 true (bu 28 .geq 25 27),ei 29 22 28] (aW 29 (aa [bz 2 false] .ret) .skip)) (aa [hr 30 1 4 4,bk 31 4 30,dT 32 58 [.t 31,(.c (.slice 1 .nil []))],cw 33 32,bQ 34 0] (.block 2 (.loop (aa [bu 35 .lss 34 33] (.seq (aW 35 .skip (.exit 2)) (.seq (.block 3 (aa [ck 36 1 32 34,ay 37 1 36,I 6 37] (aa [I 39 0,I 40 6,cc 41 146 39 40,I 38 41,cV 42 0 38,cV 43 1 38,dI 7 eC,bV 4 7 42,I 8 43] (aa [I 44 8] (aW 44 (aa [bz 2 false] .ret) .skip))))) (.region [aV 45 .add 34 1,I 34 45])))))))))) (.region [aV 46 .add 14 1,I 14 46])))) (aa [bz 2 true] .ret))))
def Tv:C:=(aa [bz 2 false] (.seq (aa [bQ 3 0] (.block 0 (.loop (.seq (aa [I 5 3,I 6 0,cb 7 (.slen (.t 6)),bu 8 .lss 5 7] (aW 8 .skip (.exit 0))) (.seq (.block 1 (aa [I 11 0,I 12 3,cb 13 (.sidx (.t 11) (.t 12)),cb 14 (.bin .geq false (.t 13) (.c (.int .u8 97))),I 15 14,cg 15 true 16 0,cg 15 true 17 3,ax 15 true (cb 18 (.sidx (.t 16) (.t 17))),ax 15 true (cb 19 (.bin .leq false (.t 18) (.c (.int .u8 122)))),ei 20 15 19,I 4 20] (aa [I 21 4,cO 22 21,I 23 22,cg 23 true 24 3,ax 23 true (aV 25 .eql 24 0),cg 23 true 26 25,cg 26 false 27 0,cg 26 false 28 3,ax 26 false (cb 29 (.sidx (.t 27) (.t 28))),ax 26 false (cb 30 (.bin .neq false (.t 29) (.c (.int .u8 45)))),cg 26 false 31 30,cg 31 true 32 0,cg 31 true 33 3,ax 31 true (cb 34 (.sidx (.t 32) (.t 33))),ax 31 true (cb 35 (.conv .i64 (.t 34))),ax 31 true (dT 36 75 [.t 35,(gV 48),(gV 57)]),ax 31 true (cO 37 36),ax 26 false (ei 38 31 37),ax 23 true (ds 39 26 38),ei 40 23 39] (aW 40 (aa [bz 2 false] .ret) .skip)))) (.region [I 9 3,aV 10 .add 9 1,I 3 10])))))) (aa [I 41 0,cb 42 (.slen (.t 41)),dT 43 75 [.t 42,(gV 1),(gV 12)],I 2 43] .ret)))
def TB:C:=(aa [c0 2 0,bQ 4 0] (aa [bQ 5 1] (.seq (aa [aF 8 3 1 2,ay 9 1 8,cw 10 9,bQ 11 0] (gx 12 11 10 (.seq (.block 1 (aa [ck 13 4 9 11,bk 14 4 13,dI 7 eC,bV 4 7 14] (.seq (aa [I 15 5,I 16 1,bu 17 .gtr 15 16] (aW 17 (aa [I 18 5,I 4 18] .ret) .skip)) (.region [I 19 5,bk 20 4 7,I 21 1,I 22 5,bu 23 .sub 21 22,cc 24 123 20 23,bu 25 .add 19 24,I 5 25])))) (.region [aV 26 .add 11 1,I 11 26])))) (aa [I 27 5,I 4 27] .ret))))
def nf:C:=(aa [c0 1 0,bz 2 false] (.seq (aa [aF 3 0 1 1,ay 4 1 3,aV 5 .neq 4 1,I 6 5,ax 6 true (aF 7 0 1 1),ax 6 true (ay 8 1 7),ax 6 true (aV 9 .neq 8 3),ei 10 6 9,I 11 10,ax 11 true (aF 12 1 1 1),ax 11 true (ay 13 1 12),ax 11 true (aV 14 .neq 13 0),ei 15 11 14,I 16 15,ax 16 false (aF 17 0 1 1),ax 16 false (ay 18 1 17),ax 16 false (aV 19 .neq 18 2),cg 16 false 20 19,ax 20 true (aF 21 2 1 1),ax 20 true (ay 22 1 21),yz 20 true 23 (.bin .neq false (.t 22) (.c (.str []))),ax 16 false (ei 24 20 23),ds 25 16 24,I 26 25,ax 26 false (aF 27 0 1 1),ax 26 false (ay 28 1 27),ax 26 false (aV 29 .neq 28 4),cg 26 false 30 29,ax 30 true (aF 31 3 1 1),ax 30 true (ay 32 1 31),ax 30 true (cw 33 32),ax 30 true (aV 34 .gtr 33 0),ax 26 false (ei 35 30 34),ds 36 26 35] (aW 36 (aa [bz 2 false] .ret) .skip)) (.seq (aa [aF 37 0 1 1,ay 38 1 37] (.block 0 (aa [aV 40 .eql 38 0,I 39 40] (aW 39 (aa [bz 2 true] .ret) (aa [aV 42 .eql 38 1,I 41 42] (aW 41 (aa [aF 43 1 1 1,ay 44 1 43,dT 45 75 [.t 44,(gV 0),(gV 100000)],I 2 45] .ret) (aa [aV 47 .eql 38 2,I 46 47] (aW 46 (aa [aF 48 2 1 1,ay 49 1 48,cY 50 119 49,I 2 50] .ret) (aa [aV 52 .eql 38 3,I 51 52] (aW 51 (aa [aF 53 1 1 1,ay 54 1 53,dT 55 75 [.t 54,(gV (-1000000000)),(gV 1000000000)],I 2 55] .ret) (aa [aV 57 .eql 38 4,I 56 57] (aW 56 (aa [aF 58 3 1 1,ay 59 1 58,cw 60 59,aV 61 .eql 60 2,I 62 61,ax 62 true (aF 63 3 1 1),ax 62 true (ay 64 1 63),ax 62 true (kC 65 4 64 0),ax 62 true (bk 66 4 65),ax 62 true (cY 67 124 66),ei 68 62 67,I 69 68,ax 69 true (aF 70 3 1 1),ax 69 true (ay 71 1 70),ax 69 true (kC 72 4 71 1),ax 69 true (bk 73 4 72),ax 69 true (cY 74 124 73),ei 75 69 74,I 2 75] .ret) .skip)))))))))))) (aa [bz 2 false] .ret))))
def TD:C:=(aa [fw 4 1] (aa [I 7 0,cw 8 7,I 5 8] (.seq (.block 0 (.loop (.seq (aa [I 9 5,aV 10 .gtr 9 0,I 11 10,cg 11 true 12 0,cg 11 true 13 5,ax 11 true (aV 14 .sub 13 1),ax 11 true (ck 15 1 12 14),ax 11 true (ay 16 1 15),cg 11 true 17 1,ax 11 true (bu 18 .geq 16 17),ei 19 11 18] (aW 19 .skip (.exit 0))) (.block 1 (.region [I 20 5,aV 21 .sub 20 1,I 5 21]))))) (.seq (aa [I 22 5,I 23 0,cw 24 23,bu 25 .lss 22 24,I 26 25,cg 26 true 27 0,cg 26 true 28 5,ax 26 true (ck 29 1 27 28),ax 26 true (ay 30 1 29),cg 26 true 31 1,ax 26 true (bu 32 .eql 30 31),ei 33 26 32] (aW 33 (aa [I 34 0,I 4 34] .ret) .skip)) (aa [fe 35 1 3 [],I 36 0,I 37 5,cb 38 (.lsl 1 (.t 36) none (some (.t 37))),h3 39 1 3 35 38,I 6 39] (aa [I 40 6,I 41 1,fe 42 1 3 [.t 41],h3 43 1 3 40 42,I 6 43] (aa [I 44 6,I 45 0,I 46 5,cb 47 (.lsl 1 (.t 45) (some (.t 46)) none),h3 48 1 3 44 47,I 4 48] .ret)))))))
def GX:C:=(aa [c0 3 1,dI 4 eC] (.seq (aa [aF 7 0 1 3,ay 8 1 7,aV 9 .eql 8 1] (aW 9 (aa [I 11 0,aF 12 1 1 3,ay 13 1 12,cc 14 146 11 13,I 10 14,cV 15 0 10,cV 16 1 10,dI 5 eC,bV 4 5 15,I 6 16] (aa [I 17 6] (aW 17 (aa [bk 18 4 5,bV 4 4 18] .ret) .skip))) .skip)) (.seq (aa [aF 19 0 1 3,ay 20 1 19,aV 21 .eql 20 4] (aW 21 (.seq (.drawn true 36 [I 22 0,aF 23 3 1 3,ay 24 1 23,kC 25 4 24 0,bk 26 4 25,cc 27 127 22 26,I 28 0,aF 29 3 1 3,ay 30 1 29,kC 31 4 30 1,bk 32 4 31,cc 33 127 28 32,cc 34 189 27 33,bV 4 4 34]) .ret) .skip)) (aa [bk 35 4 3,bV 4 4 35] .ret))))
def TC:C:=(aa [c0 1 0,bz 2 false] (aa [bk 3 4 1,dT 4 123 [.t 3,(gV 5000)],aV 5 .leq 4 5000,I 2 5] .ret))
def TN:C:=(aa [bz 2 false] (.seq (aa [I 5 0,cw 6 5,bQ 7 0] (gx 8 7 6 (.seq (.block 1 (aa [I 9 7,ck 10 5 5 7,bk 11 5 10,dI 4 kx,I 3 9,bV 5 4 11] (.seq (.drawn true 41 [I 12 3,aV 13 .gtr 12 0,I 14 13,cg 14 true 15 0,cg 14 true 16 3,ax 14 true (aV 17 .sub 16 1),ax 14 true (ck 18 5 15 17),ax 14 true (aF 19 0 1 18),ax 14 true (ay 20 1 19),ax 14 true (aF 21 0 1 4),ax 14 true (ay 22 1 21),ax 14 true (bu 23 .geq 20 22),ei 24 14 23,I 25 24,ax 25 false (aF 26 0 1 4),ax 25 false (ay 27 1 26),ax 25 false (dT 28 75 [.t 27,(gV 0),(gV 100000)]),ax 25 false (cO 29 28),ds 30 25 29,I 31 30,ax 31 false (hr 32 1 4 4),ax 31 false (bk 33 4 32),ax 31 false (cY 34 56 33),ax 31 false (cO 35 34),ds 36 31 35]) (aW 36 (aa [bz 2 false] .ret) .skip)))) (.region [aV 37 .add 7 1,I 7 37])))) (aa [I 38 0,cw 39 38,aV 40 .leq 39 400,I 2 40] .ret)))
def TL:C:=(aa [dI 4 eC,bz 5 false] (.seq (aa [I 8 0,cw 9 8,bQ 10 0] (gx 11 10 9 (.seq (.block 1 (aa [ck 12 5 8 10,bk 13 5 12,dI 7 kx,bV 5 7 13] (aa [aF 14 0 1 7,ay 15 1 14,I 16 1,bu 17 .eql 15 16] (aW 17 (aa [hr 18 1 4 7,bk 19 4 18,bV 4 4 19,bz 5 true] .ret) .skip)))) (.region [aV 20 .add 10 1,I 10 20])))) (aa [jr 21 eC [],bV 4 4 21,bz 5 false] .ret)))
def TP:C:=(aa [fw 4 5,bz 5 false] (aa [fe 10 4 30 [],I 6 10] (aa [fe 11 4 30 [],I 7 11] (.seq (aa [I 12 1,cw 13 12,bQ 14 0] (gx 15 14 13 (.seq (.block 1 (aa [ck 16 5 12 14,bk 17 5 16,dI 9 kx,bV 5 9 17] (aa [I 18 6,aF 19 0 1 9,ay 20 1 19,cY 21 114 20,fe 22 4 30 [.t 21],h3 23 4 30 18 22,I 6 23] (.region [I 24 7,hr 25 1 4 9,bk 26 4 25,fe 27 4 30 [.t 26],h3 28 4 30 24 27,I 7 28])))) (.region [aV 29 .add 14 1,I 14 29])))) (aa [I 30 0,I 31 6,I 32 7,dT 33 202 [.t 30,.t 31,.t 32],cV 34 0 33,cV 35 1 33,I 4 34,I 5 35] .ret)))))
def uv:C:=(aa [c0 4 1,c0 5 2,fw 6 5,bz 7 false] (aa [I 12 0,bk 13 4 4,cc 14 201 12 13,bV 4 4 14] (aa [I 15 0,bk 16 4 5,cc 17 201 15 16,bV 4 5 17] (.seq (aa [aF 18 0 1 4,ay 19 1 18,aV 20 .eql 19 1,I 21 20,ax 21 true (aF 22 0 1 5),ax 21 true (ay 23 1 22),ax 21 true (aV 24 .eql 23 1),ei 25 21 24,I 26 25,ax 26 true (aF 27 1 1 4),ax 26 true (ay 28 1 27),ax 26 true (aF 29 1 1 5),ax 26 true (ay 30 1 29),ax 26 true (bu 31 .lss 28 30),ei 32 26 31] (aW 32 (aa [I 33 0,aF 34 1 1 5,ay 35 1 34,bk 36 4 4,dT 37 212 [.t 33,.t 35,.t 36],cV 38 0 37,cV 39 1 37,I 6 38,I 7 39] .ret) .skip)) (.seq (aa [aF 40 0 1 4,ay 41 1 40,aV 42 .eql 41 1,I 43 42,ax 43 true (aF 44 0 1 5),ax 43 true (ay 45 1 44),ax 43 true (aV 46 .eql 45 1),ei 47 43 46,I 48 47,ax 48 true (aF 49 1 1 4),ax 48 true (ay 50 1 49),ax 48 true (aF 51 1 1 5),ax 48 true (ay 52 1 51),ax 48 true (bu 53 .eql 50 52),ei 54 48 53] (aW 54 (aa [I 55 0,I 6 55,bz 7 true] .ret) .skip)) (.seq (aa [aF 56 0 1 4,ay 57 1 56,aV 58 .eql 57 1] (aW 58 (aa [I 59 0,aF 60 1 1 4,ay 61 1 60,bk 62 4 5,dT 63 212 [.t 59,.t 61,.t 62],cV 64 0 63,cV 65 1 63,I 6 64,I 7 65] .ret) .skip)) (.seq (aa [aF 66 0 1 5,ay 67 1 66,aV 68 .eql 67 1] (aW 68 (aa [I 69 0,aF 70 1 1 5,ay 71 1 70,bk 72 4 4,dT 73 212 [.t 69,.t 71,.t 72],cV 74 0 73,cV 75 1 73,I 6 74,I 7 75] .ret) .skip)) (.seq (aa [aF 76 0 1 4,ay 77 1 76,aF 78 0 1 5,ay 79 1 78,bu 80 .neq 77 79,I 81 80,ax 81 false (aF 82 1 1 4),ax 81 false (ay 83 1 82),ax 81 false (aF 84 1 1 5),ax 81 false (ay 85 1 84),ax 81 false (bu 86 .neq 83 85),ds 87 81 86,I 88 87,ax 88 false (aF 89 2 1 4),ax 88 false (ay 90 1 89),ax 88 false (aF 91 2 1 5),ax 88 false (ay 92 1 91),ax 88 false (bu 93 .neq 90 92),ds 94 88 93] (aW 94 (aa [fw 6 5,bz 7 false] .ret) .skip)) (.seq (aa [aF 95 3 1 4,ay 96 1 95,cw 97 96,bQ 98 0] (gx 99 98 97 (.seq (.block 1 (aa [I 100 98,ck 101 4 96 98,bk 102 4 101,dI 9 eC,I 8 100,bV 4 9 102] (.seq (.drawn true 119 [I 104 0,bk 105 4 9,aF 106 3 1 5,ay 107 1 106,I 108 8,ck 109 4 107 108,bk 110 4 109,dT 111 180 [.t 104,.t 105,.t 110],I 103 111,cV 112 0 103,cV 113 1 103,I 10 112,I 11 113]) (.seq (aa [I 114 11,cO 115 114] (aW 115 (aa [fw 6 5,bz 7 false] .ret) .skip)) (.region [I 116 10,I 0 116]))))) (.region [aV 117 .add 98 1,I 98 117])))) (aa [I 118 0,I 6 118,bz 7 true] .ret))))))))))
def GY:C:=(aa [c0 3 1,dI 4 eC] (.seq (aa [aF 7 0 1 3,ay 8 1 7,aV 9 .eql 8 1] (aW 9 (aa [I 11 0,aF 12 1 1 3,ay 13 1 12,cc 14 146 11 13,I 10 14,cV 15 0 10,cV 16 1 10,dI 5 eC,bV 4 5 15,I 6 16] (aa [I 17 6] (aW 17 (aa [bk 18 4 5,bV 4 4 18] .ret) .skip))) .skip)) (aa [bk 19 4 3,bV 4 4 19] .ret)))
def TO:C:=(aa [fw 6 5,bz 7 false] (.seq (aa [I 12 1,cw 13 12,bQ 14 0] (gx 15 14 13 (.seq (.block 1 (aa [I 16 14,ck 17 4 12 14,bk 18 4 17,dI 9 eC,I 8 16,bV 4 9 18] (.seq (.drawn true 34 [I 20 0,bk 21 4 9,I 22 2,I 23 8,ck 24 4 22 23,bk 25 4 24,dT 26 180 [.t 20,.t 21,.t 25],I 19 26,cV 27 0 19,cV 28 1 19,I 10 27,I 11 28]) (.seq (aa [I 29 11,cO 30 29] (aW 30 (aa [fw 6 5,bz 7 false] .ret) .skip)) (.region [I 31 10,I 0 31]))))) (.region [aV 32 .add 14 1,I 14 32])))) (aa [I 33 0,I 6 33,bz 7 true] .ret)))
def Dz:C:=(aa [c0 5 2,fw 6 5,bz 7 false] (aa [I 15 0,bk 16 4 5,cc 17 60 15 16,I 14 17,cV 18 0 14,cV 19 1 14,dI 8 eC,bV 4 8 18,I 9 19] (.seq (aa [I 20 9,cO 21 20,I 22 21,cg 22 false 23 1,ax 22 false (bk 24 4 8),ax 22 false (cc 25 233 23 24),ds 26 22 25,I 27 26,cg 27 false 28 0,ax 27 false (cw 29 28),ax 27 false (aV 30 .geq 29 400),ds 31 27 30] (aW 31 (aa [fw 6 5,bz 7 false] .ret) .skip)) (aa [fe 32 5 113 [],I 10 32] (.seq (aa [I 33 0,cw 34 33,bQ 35 0] (gx 36 35 34 (.seq (.block 1 (aa [ck 37 5 33 35,bk 38 5 37,dI 12 kx,bV 5 12 38] (aa [hr 39 1 4 12,bk 40 4 39,I 41 1,bk 42 4 8,dT 43 234 [.t 40,.t 41,.t 42],dI 13 eC,bV 4 13 43] (.seq (aa [bk 44 4 13,cY 45 128 44,cO 46 45] (aW 46 (aa [fw 6 5,bz 7 false] .ret) .skip)) (.region [I 47 10,aF 48 0 1 12,ay 49 1 48,bk 50 4 13,jr 51 kx [(0,1,(.t 49)),(1,4,(.t 50))],fe 52 5 113 [.t 51],h3 53 5 113 47 52,I 10 53]))))) (.region [aV 54 .add 35 1,I 35 54])))) (aa [I 55 10,I 56 1,bk 57 4 8,jr 58 kx [(0,1,(.t 56)),(1,4,(.t 57))],cc 59 235 55 58,I 6 59,bz 7 true] .ret))))))
def TE:C:=(aa [c0 3 1,bz 4 false] (.seq (aa [aF 7 3 1 3,ay 8 1 7,cw 9 8,bQ 10 0] (gx 11 10 9 (.seq (.block 1 (aa [ck 12 4 8 10,bk 13 4 12,dI 6 eC,bV 4 6 13] (aa [I 14 0,bk 15 4 6,cc 16 233 14 15] (aW 16 (aa [bz 4 true] .ret) .skip)))) (.region [aV 17 .add 10 1,I 10 17])))) (aa [aF 18 0 1 3,ay 19 1 18,aV 20 .eql 19 1,I 21 20,ax 21 true (aF 22 1 1 3),ax 21 true (ay 23 1 22),cg 21 true 24 0,ax 21 true (bu 25 .eql 23 24),ei 26 21 25,I 4 26] .ret)))
def GW:C:=(aa [c0 3 0,c0 5 2,dI 6 eC] (.seq (aa [aF 7 0 1 3,ay 8 1 7,aV 9 .eql 8 1,I 10 9,ax 10 true (aF 11 1 1 3),ax 10 true (ay 12 1 11),cg 10 true 13 1,ax 10 true (bu 14 .eql 12 13),ei 15 10 14] (aW 15 (aa [bk 16 4 5,bV 4 6 16] .ret) .skip)) (.seq (aa [aF 17 0 1 3,ay 18 1 17,aV 19 .eql 18 4] (aW 19 (.seq (.drawn true 36 [aF 20 3 1 3,ay 21 1 20,kC 22 4 21 0,bk 23 4 22,I 24 1,bk 25 4 5,dT 26 234 [.t 23,.t 24,.t 25],aF 27 3 1 3,ay 28 1 27,kC 29 4 28 1,bk 30 4 29,I 31 1,bk 32 4 5,dT 33 234 [.t 30,.t 31,.t 32],cc 34 189 26 33,bV 4 6 34]) .ret) .skip)) (aa [bk 35 4 3,bV 4 6 35] .ret))))
def TM:C:=(aa [c0 3 1,fw 4 5] (aa [I 7 0,cw 8 7,I 5 8] (.seq (.block 0 (.loop (.seq (.seq (.drawn true 38 [I 9 5,aV 10 .gtr 9 0,I 11 10,cg 11 true 12 0,cg 11 true 13 5,ax 11 true (aV 14 .sub 13 1),ax 11 true (ck 15 5 12 14),ax 11 true (aF 16 0 1 15),ax 11 true (ay 17 1 16),ax 11 true (aF 18 0 1 3),ax 11 true (ay 19 1 18),ax 11 true (bu 20 .gtr 17 19),ei 21 11 20]) (aW 21 .skip (.exit 0))) (.block 1 (.region [I 22 5,aV 23 .sub 22 1,I 5 23]))))) (aa [fe 24 5 113 [],I 25 0,I 26 5,cb 27 (.lsl 5 (.t 25) none (some (.t 26))),h3 28 5 113 24 27,I 6 28] (aa [I 29 6,bk 30 5 3,fe 31 5 113 [.t 30],h3 32 5 113 29 31,I 6 32] (aa [I 33 6,I 34 0,I 35 5,cb 36 (.lsl 5 (.t 34) (some (.t 35)) none),h3 37 5 113 33 36,I 4 37] .ret))))))
def aoW:b4 aT Tz [.tmp 2] 1 Tryz.f56=true:=bi
def Fj:b4 aT AV [.tmp 4] 2 Tryz.f58=true:=bi
def ao6:b4 aT TJ [.cell 4 true 4,.tmp 5] 2 Tryz.f60=true:=bi
def aoX:b4 aT TA [.tmp 6] 3 Tryz.f75=true:=bi
def ZD:b4 aT Lx [.tmp 2] 1 Tryz.f76=true:=bi
def aoS:b4 aT Tv [.tmp 2] 1 Tryz.f119=true:=bi
def aoY:b4 aT TB [.tmp 4] 2 Tryz.f123=true:=bi
def n9:b4 aT nf [.tmp 2] 1 Tryz.f124=true:=bi
def ao0:b4 aT TD [.tmp 4] 2 Tryz.f126=true:=bi
def Pc:b4 aT GX [.cell 4 true 4] 2 Tryz.f127=true:=bi
def aoZ:b4 aT TC [.tmp 2] 1 Tryz.f128=true:=bi
def apa:b4 aT TN [.tmp 2] 1 Tryz.f145=true:=bi
def ao8:b4 aT TL [.cell 4 true 4,.tmp 5] 2 Tryz.f146=true:=bi
def apd:b4 aT TP [.tmp 4,.tmp 5] 2 Tryz.f152=true:=bi
def wD:b4 aT uv [.tmp 6,.tmp 7] 3 Tryz.f180=true:=bi
def Pd:b4 aT GY [.cell 4 true 4] 2 Tryz.f201=true:=bi
def apc:b4 aT TO [.tmp 6,.tmp 7] 3 Tryz.f202=true:=bi
def Ja:b4 aT Dz [.tmp 6,.tmp 7] 3 Tryz.f212=true:=bi
def ao1:b4 aT TE [.tmp 4] 2 Tryz.f233=true:=bi
def Pb:b4 aT GW [.cell 6 true 4] 3 Tryz.f234=true:=bi
def ao9:b4 aT TM [.tmp 4] 2 Tryz.f235=true:=bi
mutual
def mB:Tm->Int->Int
 | .mk _ _ _ args,m=>cntLS args 1 m
def cntLS:List Tm->Int->Int->Int
 |[],n,_=>n
 |x::xs,n,m=>if m<n then n else cntLS xs (n+mB x (m-n)) m
end
mutual
def LD:∀(t:Tm) (m:Int),0<=m->1<=mB t m/\mB t m<=m+1
 | .mk _ _ _ args,m,h=>by simp only[mB];exact Ud args 1 m h Ω Ω
def Ud:∀(l:List Tm) (n m:Int),0<=m->1<=n->n<=m+1->1<=cntLS l n m/\cntLS l n m<=m+1
 |[],n,m,_,J,U=>by simp only[cntLS];exact⟨J,U⟩
 |x::xs,n,m,a,J,U=>by
  simp only[cntLS];split
  ·exact⟨J,U⟩
  ·have:=LD x (m-n) Ω;exact Ud xs _ m a Ω Ω
end
def G3:∀(t:T) (m:Int),0<=m->(mB t.tm m<=m↔(t.size:Int)<=m)/\((t.size:Int)<=m->mB t.tm m=t.size)
 | .pair a b,m,h=>by
  have i:=T.size_pos a;have j:=T.size_pos b;simp only[T.tm,mB,cntLS,T.size];by_cases J:m<1
  ·rw[if_pos J];exact⟨Ω,fun h=>Ω⟩
  ·rw[if_neg J];obtain⟨c,a2⟩:=G3 a (m-1) Ω;have a3:=LD a.tm (m-1) Ω;by_cases U:(a.size:Int)<=m-1
   ·have e:=a2 U;rw[e];by_cases f:m<1+(a.size:Int)
    ·omega
    ·rw[if_neg f];obtain⟨g,d⟩:=G3 b (m-(1+a.size)) Ω;refine⟨Ω,fun h=>?_⟩;rw[d Ω];omega
   ·have:¬mB a.tm (m-1)<=m-1:=fun h=>U (c.1 h);rw[if_pos Ω];exact⟨Ω,fun h=>Ω⟩
 | .nil,m,h=>by simp[T.tm,mB,cntLS,T.size]
 | .var _,m,h=>by simp[T.tm,mB,cntLS,T.size]
 | .sym _,m,h=>by simp[T.tm,mB,cntLS,T.size]
 | .num _,m,h=>by simp[T.tm,mB,cntLS,T.size]
def ae4(t:Tm)(m:Int):mB t m=cntLS t.args 1 m:=by cases t;rfl
def acF(t:Tm):∀m:Int,0<=m->m<=1000000->bT au 123 [enc t,aj m] (aj (mB t m)):=by
 suffices H:∀(k:Nat) (t:Tm),t.sz<=k->∀m:Int,0<=m->m<=1000000->bT au 123 [enc t,aj m] (aj (mB t m))from H _ t (dP _)
 intro k;induction k with
 |zero=>intro t g;cases t;simp[Tm.sz]at g
 |succ k e=>
  intro t g m q J;refine bI a1 Tryz.func123 aoY fun f=>?_;unfold TB;have p:t.args.length<=68719476736:=by rw[vJ]at f;simp[eI,eN,eJ,lim]at f;omega
  simp;refine eZ [1,9,10] (fun i (n:Int)=>[(5,aj n),(11,aj i)]) t.args.length (fun i n=>(1<=n/\n<=m+1)/\cntLS (t.args.drop i) n m=mB t m) 1 b9 ⟨Ω,by simp[ae4]⟩ (fun n a _=>?_) (fun i n hi a _=>?_)
  ·simp;(repeat' first|refine ao ?_|simp);simp[bZ,bc,bf,a6];have:=a.2;simp[cntLS]at this;exact this
  ·obtain⟨⟨o,r⟩,a⟩:=a;obtain⟨x,j,d⟩:=eW hi;have l:t.args.drop i=x::t.args.drop (i+1):=by rw[lH hi,d]
   have c:x.sz<=k:=by have:=QG (ft j);omega
   rw[l]at a;simp only[cntLS]at a;simp[hi,d];by_cases b:m<n
   ·rw[if_pos b]at a;(repeat' first|refine ao ?_|simp[b]);simp[bZ,bc,bf,a6];exact a
   ·rw[if_neg b]at a;have aw:=LD x (m-n) Ω;((repeat' first|refine ao ?_|refine aO (e x c (m-n) Ω Ω) ?_|refine aP (e x c (m-n) Ω Ω) ?_|simp[b]|((first|apply ct|apply cz|apply cy)<;>intro h<;>try simp at h))<;>(try exact c3));exact bY.rng (n+mB x (m-n)) hi ⟨Ω,a⟩ b9
def C3(t:T):bT au 128 [t.e] (.bool (decide (t.size<=5000))):=by
 have aw:=(G3 t 5000 Ω).1;have key:=acF t.tm 5000 Ω Ω;rw[mD]at key;refine bI a1 Tryz.func128 aoZ fun a=>?_;unfold TC;simp;(repeat' first|refine ao ?_|refine aO key ?_|refine aP key ?_|simp);simp[bZ,bc,bf,a6];have:(mB t.tm 5000<=5000)=(t.size<=5000):=by rw[aw];simp;omega
 simp[this]
def alH(l:List Bd)(v:Int)(k:Nat)(st:bp):Prop:=∃i:Nat,i<=l.length/\k=l.length-i/\dG l v=dG (l.drop i) v/\st=⟨[(1,aj v),(4,.ptr (.loc 0) 0),(8,bL (l.map Bd.e)),(9,aj l.length),(10,aj i)],[(.loc 0,[aj 0,aj 0,.str [],.slice 4 .nil []])],[],1,[]⟩
def wV(l:List Bd)(v:Int)(j:l.length<=1000000):bT au 146 [bL (l.map Bd.e),aj v] (.tuple [((dG l v).getD .nil).e,.bool (dG l v).isSome]):=by
 refine bI a1 Tryz.func146 ao8 fun m=>?_;unfold TL;simp;refine qs (alH l v) l.length _ b9 ⟨0,Ω,rfl,Ψ,rfl⟩ ?_;rintro k st ⟨i,hi,ab,a7,rfl⟩ f g;clear f g;by_cases a:i<l.length
 ·obtain⟨b,c⟩:∃b,l[i]? =some b:=⟨_,cl a⟩;have e:l.drop i=b::l.drop (i+1):=by rw[lH a];rw[cl a]at c;simp at c;rw[c]
  have d:∀h,l[i]'h=b:=fun h=>by rw[cl h]at c;simpa using c
  simp[d,a];(with_reducible repeat' first|((first|apply ct|apply cz|apply cy)<;>intro h<;>try simp at h)|refine ao ?_|simp[d])
  ·have:dG l v=some b.t:=by rw[a7,e];simp[dG,h]
   simp[bZ,bc,bf,a6];simp[this]
  ·refine bY.next (l.length-(i+1)) Ω ⟨i+1,Ω,rfl,?_,rfl⟩ b9;rw[a7,e];simp[dG,h]
 ·have:dG l v=none:=by rw[a7,List.drop_of_length_le Ω];simp[dG]
  simp[a];(with_reducible repeat' first|((first|apply ct|apply cz|apply cy)<;>intro h<;>try simp at h)|refine ao ?_|simp);simp[bZ,bc,bf,a6];simp[this]
def asD(l:List Bd)(e:l.length<=1000000)(t:T):bT au 127 [bL (l.map Bd.e),t.e] (t.sub (dG l)).e:=by
 induction t with
 |pair a b d c=>
  refine bI a1 Tryz.func127 Pc fun f=>?_;unfold GX;simp;(repeat' first|refine ao ?_|refine aO d ?_|refine aP d ?_|refine aO c ?_|refine aP c ?_|refine aO (Kh _ _) ?_|refine aP (Kh _ _) ?_|simp);all_goals simp[bZ,bc,bf,a6]
  all_goals simp[T.sub]
 |var n=>
  refine bI a1 Tryz.func127 Pc fun f=>?_;unfold GX;simp;((repeat' first|refine ao ?_|refine aO (wV l n e) ?_|refine aP (wV l n e) ?_|simp|((first|apply ct|apply cz|apply cy)<;>intro h<;>try simp at h))<;>(try exact c3));all_goals simp[bZ,bc,bf,a6]
  all_goals cases g:dG l n<;>simp_all[T.sub]
 |_=>
  refine bI a1 Tryz.func127 Pc fun f=>?_;unfold GX;simp;(repeat' first|refine ao ?_|simp);all_goals simp[bZ,bc,bf,a6]
  all_goals simp[T.sub]
def acI(l:List Bd)(a:l.length<=1000000)(t:T):bT au 127 [bL (l.map Bd.e),t.e] (t.ap (cC l)).e:=by have:=asD l a t;rw[abS]at this;exact this
def Kk(l:List Bd)(a:l.length<=1000000)(t:T):bT au 60 [bL (l.map Bd.e),t.e] (.tuple [(t.ap (cC l)).e,.bool (decide ((t.ap (cC l)).size<=5000))]):=by refine bI a1 Tryz.func60 ao6 fun b=>?_;unfold TJ;simp;(repeat' first|refine ao ?_|refine aO (acI l a t) ?_|refine aP (acI l a t) ?_|refine aO (C3 _) ?_|refine aP (C3 _) ?_|simp);simp[bZ,bc,bf,a6]
def x4(v:Int)(l:List T):Bool:=l.any (T.occ v)
def Zb(v:Int)(t:T):t.occ v=(x4 v t.args||(t.kind==1&&t.int==v)):=by cases t<;>simp[T.occ,x4]
def yv(v:Int)(t:T):bT au 233 [aj v,t.e] (.bool (t.occ v)):=by
 suffices H:∀(k:Nat) (t:T),t.size<=k->bT au 233 [aj v,t.e] (.bool (t.occ v))from H _ t (dP _)
 intro k;induction k with
 |zero=>intro t f;have:=T.size_pos t;omega
 |succ k d=>
  intro t f;have l:t.args.length<=2:=by cases t<;>simp
  refine bI a1 Tryz.func233 ao1 fun m=>?_;unfold TE;simp;refine eZ [0,3,8,9] (fun i (_:Unit)=>[(10,aj i)]) t.args.length (fun i _=>x4 v (t.args.drop i)=x4 v t.args) () b9 Ψ (fun _ a _=>?_) (fun i _ hi a _=>?_)
  ·have c:x4 v t.args=false:=by rw[<-a];simp[x4]
   rw[Zb,c];simp;((repeat' first|refine ao ?_|simp|((first|apply ct|apply cz|apply cy)<;>intro h<;>try simp at h))<;>(try exact c3));all_goals simp[bZ,bc,bf,a6]
   all_goals simp_all
  ·obtain⟨x,g,e⟩:=eW hi;have j:t.args.drop i=x::t.args.drop (i+1):=by rw[lH hi,e]
   have b:x.size<=k:=by have hm:=ft g;have:=T.size_pos x;cases t<;>simp at hm;rcases hm with rfl|rfl<;>simp[T.size]at f<;>omega
   simp only[j,x4,List.any_cons]at a;simp[hi,e];cases ar:x.occ v with
   |true=>
    rw[ar]at a;simp at a;have c:t.occ v=true:=by rw[Zb];simp[x4];left;simpa using a
    (repeat' first|refine ao ?_|refine aO (d x b) ?_|refine aP (d x b) ?_|simp[ar]);simp[bZ,bc,bf,a6];simp[c]
   |false=>rw[ar]at a;have n:=d x b;exact iW
def Ki(v:Int)(x t:T):bT au 234 [t.e,aj v,x.e] (t.ap (Go.Pv.one v x)).e:=by
 induction t with
 |pair a b d c=>
  refine bI a1 Tryz.func234 Pb fun e=>?_;unfold GW;simp;(repeat' first|refine ao ?_|refine aO d ?_|refine aP d ?_|refine aO c ?_|refine aP c ?_|refine aO (Kh _ _) ?_|refine aP (Kh _ _) ?_|simp);all_goals simp[bZ,bc,bf,a6]
  all_goals simp[T.ap]
 |var n=>
  refine bI a1 Tryz.func234 Pb fun e=>?_;unfold GW;simp;((repeat' first|refine ao ?_|simp|((first|apply ct|apply cz|apply cy)<;>intro h<;>try simp at h))<;>(try exact c3));all_goals simp[bZ,bc,bf,a6]
  all_goals simp_all[T.ap,Go.Pv.one]
 |_=>
  refine bI a1 Tryz.func234 Pb fun e=>?_;unfold GW;simp;(repeat' first|refine ao ?_|simp);all_goals simp[bZ,bc,bf,a6]
  all_goals simp[T.ap]
def Kl(s:List Bd)(a:s.length<=1000000)(t:T):bT au 201 [bL (s.map Bd.e),t.e] (il s t).e:=by
 cases t with
 |var n=>
  cases b:dG s n with
  |none=>refine bI a1 Tryz.func201 Pd fun c=>?_;unfold GY;simp;(repeat' first|refine ao ?_|refine aO (wV s n a) ?_|refine aP (wV s n a) ?_|simp[b]);simp[bZ,bc,bf,a6];simp[il,cC,b]
  |some x=>refine bI a1 Tryz.func201 Pd fun c=>?_;unfold GY;simp;(repeat' first|refine ao ?_|refine aO (wV s n a) ?_|refine aP (wV s n a) ?_|simp[b]);simp[bZ,bc,bf,a6];simp[il,cC,b]
 |_=>refine bI a1 Tryz.func201 Pd fun c=>?_;unfold GY;simp;(repeat' first|refine ao ?_|simp);simp[bZ,bc,bf,a6];simp[il]
def Xg(b:Bd):∀(s:List Bd) (k:Nat),(∀i c,i<k->s[i]? =some c->c.v<=b.v)->(∀c,s[k]? =some c->b.v<c.v)->k<=s.length->pZ b s=s.take k++b::s.drop k
 |[],k,_,_,ab=>by simp at ab;subst ab;rfl
 |c::s,0,_,U,_=>by have:=U c rfl;simp[pZ,this]
 |c::s,k+1,J,U,ab=>by have:=J 0 c Ω rfl;simp only[pZ,if_neg (by omega:¬b.v<c.v),List.take_succ_cons,List.drop_succ_cons,b6];rw[Xg b s k (fun i d hi a=>J (i+1) d Ω (by simpa using a)) (fun d a=>U d (by simpa using a)) (by simpa using ab)]
def asC(s:List Bd)(b:Bd)(v:s.length<=1000000)(t:jD s):bT au 235 [bL (s.map Bd.e),b.e] (bL ((pZ b s).map Bd.e)):=by
 refine bI a1 Tryz.func235 ao9 fun w=>?_;unfold TM;simp;refine xd [0,3] (fun(k:Nat)=>[(5,aj k)]) (fun k=>k) (fun k=>k<=s.length/\∀c,s[k]? =some c->b.v<c.v) s.length b9 ⟨Ω,fun c h=>by simp at h⟩ (fun k n _=>?_);obtain⟨ab,n⟩:=n;have o:(∀c,0<k->s[k-1]? =some c->c.v<=b.v)->pZ b s=s.take k++b::s.drop k:=fun h=>Xg b s k (fun i c hi aw=>by
  obtain⟨d,a⟩:∃d,s[k-1]? =some d:=⟨_,cl Ω⟩;have J:=h d Ω a;rcases Nat.lt_or_ge i (k-1)with U|U
  ·have p:=(fH.1 aw);have q:=(fH.1 a);have:=q4.1 t i (k-1) p.1 q.1 U;rw[p.2,q.2]at this;omega
  ·have:i=k-1:=Ω
   subst this;rw[a]at aw;cases aw;exact J) n ab
 rcases Nat.eq_zero_or_pos k with rfl|j
 ·have e:=o fun c h=>Ω
  rw[e];simp;(repeat' first|refine ao ?_|simp);simp[bZ,bc,bf,a6];try simp[ix]
 ·obtain⟨d,a⟩:∃d,s[k-1]? =some d:=⟨_,cl Ω⟩;have l:((k:Int)-1).toNat=k-1:=Ω
  have m:∀h,(s[k-1]'h)=d:=fun h=>by rw[cl h]at a;exact e7 a
  have g:(0:Int)<k:=Ω
  by_cases f:b.v<d.v
  ·simp[j,g,l,m,f,a];(repeat' first|refine ao ?_|simp[j,g,l,m,f,a]);refine bY.whl (k-1) Ω ⟨Ω,fun c aw=>by rw[a]at aw;cases aw;exact f⟩ ?_;have r:((k-1:Nat):Int)=(k:Int)-1:=Ω
   simp[r];exact b9
  ·have e:=o fun c _ aw=>by rw[a]at aw;cases aw;omega
   rw[e];simp[j,g,l,m,f,a];(repeat' first|refine ao ?_|simp[j,g,l,m,f,a]);simp[bZ,bc,bf,a6];have u:mX s.length (s.map Bd.e)=s.map Bd.e:=ix Ψ;rw[u,<-List.map_take,<-List.map_drop,<-ha,<-List.map_append];exact abO _
def Qr(v:Int)(x:T)(b:Bd):Bd:=⟨b.v,b.t.ap (Go.Pv.one v x)⟩
def alS(s:List Bd)(v:Int)(x:T)(i:Nat)(out:List Bd):Prop:=out=(s.take i).map (Qr v x)/\∀b∈s.take i,(b.t.ap (Go.Pv.one v x)).size<=5000
def asG(s:List Bd)(v:Int)(t:T)(y:s.length<=1000000)(G:jD s):bT au 212 [bL (s.map Bd.e),aj v,t.e] (hk (o1 s v t)):=by
 obtain⟨x,p⟩:∃x,x=t.ap (cC s):=⟨_,rfl⟩;have a:=Kk s y t;rw[<-p]at a;obtain⟨o,ar⟩:∃o,o=o1 s v t:=⟨_,rfl⟩;have l:x.size<=5000->x.occ v=false->s.length<400->(∀b∈s,(b.t.ap (Go.Pv.one v x)).size<=5000)->o=some (nL s v x):=fun E H F B=>by rw[ar,o1,<-p,if_pos ⟨E,H,F,B⟩]
 have f:¬(x.size<=5000/\x.occ v=false/\s.length<400/\∀b∈s,(b.t.ap (Go.Pv.one v x)).size<=5000)->o=none:=fun q=>by rw[ar,o1,<-p,if_neg q]
 rw[<-ar];clear ar;by_cases J:x.size<=5000;rotate_left
 ·rw[f fun h=>J h.1];refine bI a1 Tryz.func212 Ja fun r=>?_;unfold Dz;simp;(repeat' first|refine ao ?_|refine aO a ?_|refine aP a ?_|refine aO (yv _ _) ?_|refine aP (yv _ _) ?_|simp[J]);simp[bZ,bc,bf,a6];simp[hk]
 cases U:x.occ v with
 |true=>rw[f fun h=>by rw[U]at h;cases h.2.1];refine bI a1 Tryz.func212 Ja fun r=>?_;unfold Dz;simp;(repeat' first|refine ao ?_|refine aO a ?_|refine aP a ?_|refine aO (yv _ _) ?_|refine aP (yv _ _) ?_|simp[J,U]);simp[bZ,bc,bf,a6];simp[hk]
 |false=>
 by_cases z:s.length<400;rotate_left
 ·rw[f fun h=>z h.2.2.1];have j:(400:Int)<=s.length:=Ω
  refine bI a1 Tryz.func212 Ja fun r=>?_;unfold Dz;simp;(repeat' first|refine ao ?_|refine aO a ?_|refine aP a ?_|refine aO (yv _ _) ?_|refine aP (yv _ _) ?_|simp[J,U,j]);simp[bZ,bc,bf,a6];simp[hk]
 have j:¬(400:Int)<=s.length:=Ω
 refine bI a1 Tryz.func212 Ja fun r=>?_;unfold Dz;simp;(repeat' first|refine ao ?_|refine aO a ?_|refine aP a ?_|refine aO (yv _ _) ?_|refine aP (yv _ _) ?_|simp[J,U,j]);refine fU (α:=List Bd) (fun i out=>⟨[(1,aj v),(8,.ptr (.loc 1) 0),(33,bL (s.map Bd.e)),(34,aj s.length),(10,.slice 5 (.own (.loc 2)) (out.map Bd.e)),(35,aj i)],[(.loc 1,[aj x.kind,aj x.int,.str x.name,dx (x.args.map T.e)])],[(.loc 2,⟨out.length,113,5,none⟩)],3,[]⟩) s.length (alS s v x) [] b9 ⟨Ψ,Ψ⟩ (fun out n _=>?_) (fun i out hi n _=>?_)
 ·obtain⟨d,e⟩:=n;rw[ix (dP _)]at d e;have m:jD out:=by rw[d,jD,List.pairwise_map];exact G
  have w:out.length<=1000000:=by rw[d];simpa using y
  rw[l J U z e];have key:=asC out ⟨v,x⟩ w m;simp;(repeat' first|refine ao ?_|refine aO key ?_|refine aP key ?_|simp);simp[bZ,bc,bf,a6];simp[hk,nL,d];rfl
 ·obtain⟨d,e⟩:=n;obtain⟨b,A,k⟩:=eW hi;have u:s.take (i+1)=s.take i++[b]:=by rw[List.take_succ,A];rfl
  have w:out.length<=1000000:=by rw[d];simp;omega
  simp[hi,k];by_cases g:(b.t.ap (Go.Pv.one v x)).size<=5000
  ·(repeat' first|refine ao ?_|refine aO (Ki _ _ _) ?_|refine aP (Ki _ _ _) ?_|refine aO (C3 _) ?_|refine aP (C3 _) ?_|simp[k,hi,g]);all_goals try refine⟨by unfold lim;omega,?_⟩
   (repeat' first|refine ao ?_|simp);refine bY.rng (out++[Qr v x b]) hi ⟨by rw[u,d,List.map_append];rfl,fun c aw=>?_⟩ ?_
   ·rw[u]at aw;rcases kg.1 aw with aw|aw
    ·exact e c aw
    ·simp at aw;subst aw;exact g
   ·simp[Qr];exact⟨by simp[fresh,aH,az,cd,aM,ae,j2],eo (by simp[fresh,aH,az,cd,aM,ae,j2]),ep (by simp[fresh,aH,az,dV,aM,ae,j2]),Ψ⟩
  ·rw[f fun h=>g (h.2.2.2 b (ft A))];(repeat' first|refine ao ?_|refine aO (Ki _ _ _) ?_|refine aP (Ki _ _ _) ?_|refine aO (C3 _) ?_|refine aP (C3 _) ?_|simp[k,hi,g]);simp[bZ,bc,bf,a6];simp[hk]
def arY{s:List Bd}(e:gD s)(f:iy s){n:Nat}{a b:T}{o:be (List Bd)}(h:lE n s a b=some o):jI s [(a,b)] o:=by obtain⟨n',o',J,U⟩:=Kc e f a b;have d:=F7 (Nat.le_max_left n n') h;have c:=F7 (Nat.le_max_right n n') J;rw[d]at c;cases c;exact U
def C0(n:Nat):List (T×T)->List Bd->be (be (List Bd))
 |[],s=>some (some s)
 |e::r,s=>match lE n s e.1 e.2 with
  |none=>none
  |some none=>some none
  |some (some s1)=>C0 n r s1
def zK(x y:T):Bool:=x.kind==y.kind&&x.int==y.int&&x.name==y.name
def arW(n:Nat)(s:List Bd){x y:T}(f:x.kind≠1)(g:y.kind≠1):kN (lE n) s x y=if zK x y then C0 n (x.args.zip y.args) s else some none:=by
 cases x<;>cases y<;>simp[kN,zK,C0]at f g⊢
 ·rename_i a b;split<;>simp_all
 ·rename_i a b;split<;>simp_all
 ·rename_i d a2 c e;cases lE n s d c with
  |none=>rfl
  |some o=>cases o with
   |none=>rfl
   |some s1=>
    simp only
    cases lE n s1 a2 e with
    |none=>rfl
    |some o=>cases o<;>rfl
def amj{x y:T}(h:zK x y=true):x.args.length=y.args.length:=by cases x<;>cases y<;>simp[zK]at h⊢
@[simp]def auM(o:be (List Bd)):A7 0 (hk o)=some (True,bL ((o.getD []).map Bd.e)):=rfl
@[simp]def auN(o:be (List Bd)):A7 1 (hk o)=some (True,.bool o.isSome):=rfl
def asK(n:Nat):∀(s:List Bd) (a b:T) (o:be (List Bd)),gD s->iy s->lE n s a b=some o->bT au 180 [bL (s.map Bd.e),a.e,b.e] (hk o):=by
 induction n with
 |zero=>intro s a b o _ _ h;simp[lE]at h
 |succ n W=>
  intro s a b o R S he;have K:s.length<=1000000:=by have:=S.1;omega
  have c:=Kl s K a;have d:=Kl s K b;simp only[lE]at he;generalize il s a=x at he c;generalize il s b=y at he d;have E:=fun v t=>asG s v t K R.asc;have f:∀z:T,¬z.kind=1->(z.kind==1)=false:=fun z h=>by simp[h]
  by_cases l:x.kind=1
  ·obtain⟨i,rfl⟩:∃i,x= .var i:=by cases x<;>simp at l;exact⟨_,rfl⟩
   by_cases g:y.kind=1
   ·obtain⟨j,rfl⟩:∃j,y= .var j:=by cases y<;>simp at g;exact⟨_,rfl⟩
    simp only[kN,dU]at he;subst he;rcases Int.lt_trichotomy i j with h|h|h
    ·rw[if_pos h];have key:=E j (.var i);refine bI a1 Tryz.func180 wD fun m=>?_;unfold uv;simp;(repeat' first|refine ao ?_|refine aO c ?_|refine aP c ?_|refine aO d ?_|refine aP d ?_|refine aO key ?_|refine aP key ?_|simp[h]);simp[bZ,bc,bf,a6];simp[hk]
    ·subst h;rw[if_neg Ω,if_pos rfl];have J:¬i<i:=Ω
     refine bI a1 Tryz.func180 wD fun m=>?_;unfold uv;simp;(repeat' first|refine ao ?_|refine aO c ?_|refine aP c ?_|refine aO d ?_|refine aP d ?_|simp[J]);simp[bZ,bc,bf,a6];simp[hk]
    ·rw[if_neg Ω,if_neg Ω];have key:=E i (.var j);have J:¬i<j:=Ω
     have U:¬i=j:=Ω
     refine bI a1 Tryz.func180 wD fun m=>?_;unfold uv;simp;((repeat' first|refine ao ?_|refine aO c ?_|refine aP c ?_|refine aO d ?_|refine aP d ?_|refine aO key ?_|refine aP key ?_|simp[J,U]|((first|apply ct|apply cz|apply cy)<;>intro h<;>try simp at h))<;>(try exact c3));simp[bZ,bc,bf,a6];simp[hk]
   ·have G:o1 s i y=o:=by cases y<;>first|(simp at g;done)|exact e7 he
    subst G;have key:=E i y;refine bI a1 Tryz.func180 wD fun m=>?_;unfold uv;simp;(repeat' first|refine ao ?_|refine aO c ?_|refine aP c ?_|refine aO d ?_|refine aP d ?_|refine aO key ?_|refine aP key ?_|simp[f y g]);simp[bZ,bc,bf,a6];simp[hk]
  ·by_cases g:y.kind=1
   ·obtain⟨j,rfl⟩:∃j,y= .var j:=by cases y<;>simp at g;exact⟨_,rfl⟩
    have G:o1 s j x=o:=by cases x<;>first|(simp at l;done)|exact e7 he
    subst G;have key:=E j x;refine bI a1 Tryz.func180 wD fun m=>?_;unfold uv;simp;(repeat' first|refine ao ?_|refine aO c ?_|refine aP c ?_|refine aO d ?_|refine aP d ?_|refine aO key ?_|refine aP key ?_|simp[f x l]);simp[bZ,bc,bf,a6];simp[hk]
   ·rw[arW n s l g]at he;cases hle:zK x y with
    |false=>
     rw[hle]at he;simp at he;subst he;have N:(x.kind !=y.kind)=true\/((x.kind !=y.kind)=false/\((x.int !=y.int)=true\/((x.int !=y.int)=false/\(x.name !=y.name)=true))):=by simp only[zK]at hle;simp only[bne];cases X:(x.kind==y.kind)<;>cases Z:(x.int==y.int)<;>cases V:(x.name==y.name)<;>simp_all
     rcases N with p|⟨p,q|⟨q,B⟩⟩
     ·refine bI a1 Tryz.func180 wD fun m=>?_;unfold uv;simp;(repeat' first|refine ao ?_|refine aO c ?_|refine aP c ?_|refine aO d ?_|refine aP d ?_|simp[f x l,f y g,p]);simp[bZ,bc,bf,a6];simp[hk]
     ·refine bI a1 Tryz.func180 wD fun m=>?_;unfold uv;simp;(repeat' first|refine ao ?_|refine aO c ?_|refine aP c ?_|refine aO d ?_|refine aP d ?_|simp[f x l,f y g,p,q]);simp[bZ,bc,bf,a6];simp[hk]
     ·refine bI a1 Tryz.func180 wD fun m=>?_;unfold uv;simp;have F:¬x.name=y.name:=by simpa using B
      have L:decide (x.name=y.name)=false:=by simp[F]
      ((repeat' first|refine ao ?_|refine aO c ?_|refine aP c ?_|refine aO d ?_|refine aP d ?_|simp[f x l,f y g,p,q,B,F,L]|((first|apply ct|apply cz|apply cy)<;>intro h<;>try simp at h))<;>(try exact c3));simp[bZ,bc,bf,a6];simp[hk]
    |true=>
     rw[hle,if_pos rfl]at he;have N:(x.kind !=y.kind)=false/\(x.int !=y.int)=false/\(x.name !=y.name)=false:=by simp only[zK]at hle;simp only[bne];cases X:(x.kind==y.kind)<;>cases Z:(x.int==y.int)<;>cases V:(x.name==y.name)<;>simp_all
     obtain⟨p,q,B⟩:=N;have hlen:=amj hle;have F:x.name=y.name:=by simpa using B
     have ta:x.args.length<=2:=by cases x<;>simp
     refine bI a1 Tryz.func180 wD fun m=>?_;unfold uv;simp;(repeat' first|refine ao ?_|refine aO c ?_|refine aP c ?_|refine aO d ?_|refine aP d ?_|simp[f x l,f y g,p,q,F]);refine fU (α:=List Bd) (fun i k=>⟨[(5,.ptr (.loc 1) 0),(96,dx (x.args.map T.e)),(97,aj x.args.length),(0,bL (k.map Bd.e)),(98,aj i)],[(.loc 1,[aj y.kind,aj y.int,.str y.name,dx (y.args.map T.e)])],[],2,[]⟩) x.args.length (fun i k=>(gD k/\iy k)/\C0 n ((x.args.zip y.args).drop i) k=some o) s b9 ⟨⟨R,S⟩,by simpa using he⟩ (fun k e _=>?_) (fun i k hi e _=>?_)
     ·obtain⟨_,e⟩:=e;rw[List.drop_eq_nil_of_le (by simp[hlen])]at e;simp[C0]at e;subst e;simp;(repeat' first|refine ao ?_|simp);simp[bZ,bc,bf,a6];simp[hk]
     ·obtain⟨⟨g1,g2⟩,e⟩:=e;obtain⟨A,Q⟩:∃a,x.args[i]? =some a:=⟨_,cl hi⟩;obtain⟨w,P⟩:∃b,y.args[i]? =some b:=⟨_,cl Ω⟩;have r:∀h,(x.args[i]'h)=A:=fun h=>by rw[cl hi]at Q;exact e7 Q
      have u:∀h,(y.args[i]'h)=w:=fun h=>by rw[cl h]at P;exact e7 P
      have H:i<y.args.length:=Ω
      have Y:(x.args.zip y.args).drop i=(A,w)::(x.args.zip y.args).drop (i+1):=by rw[lH d6];simp[r,u]
      rw[Y]at e;simp only[C0]at e;simp[hi,r,u,H];cases hu:lE n k A w with
      |none=>rw[hu]at e;cases e
      |some O=>
       have key:=W k A w O g1 g2 hu;rw[hu]at e;cases O with
       |none=>simp at e;subst e;(repeat' first|refine ao ?_|refine aO key ?_|refine aP key ?_|simp[r,u,hi,H]);simp[bZ,bc,bf,a6];simp[hk]
       |some s1=>have M:=arY g1 g2 hu;(repeat' first|refine ao ?_|refine aO key ?_|refine aP key ?_|simp[r,u,hi,H]);refine bY.rng s1 hi ⟨M.1,e⟩ ?_;exact b9
def asJ(s:List Bd)(a b:T)(c:gD s)(d:iy s):bT au 180 [bL (s.map Bd.e),a.e,b.e] (hk (mgu s [(a,b)])):=by obtain⟨n,o,J,U⟩:=Kc c d a b;rw[tJ U];exact asK n s a b o c d J
def alR(s:List Bd)(E:List (T×T))(i:Nat)(a:List Bd):Prop:=(gD a/\iy a)/\mgu a (E.drop i)=mgu s E
def asF(s:List Bd)(l r:List T)(n:l.length=r.length)(o:gD s)(q:iy s)(t:l.length<=1000000):bT au 202 [bL (s.map Bd.e),dx (l.map T.e),dx (r.map T.e)] (hk (mgu s (l.zip r))):=by
 refine bI a1 Tryz.func202 apc fun u=>?_;unfold TO;simp;refine fU (α:=List Bd) (fun i d=>⟨[(2,dx (r.map T.e)),(12,dx (l.map T.e)),(13,aj l.length),(0,bL (d.map Bd.e)),(14,aj i)],[],[],0,[]⟩) l.length (alR s (l.zip r)) s b9 ⟨⟨o,q⟩,Ψ⟩ (fun d c _=>?_) (fun i d hi c _=>?_)
 ·obtain⟨⟨g1,g2⟩,c⟩:=c;rw[List.drop_eq_nil_of_le (by simp[n]),OE g1 g2]at c;rw[<-c];simp;(repeat' first|refine ao ?_|simp);simp[bZ,bc,bf,a6];simp[hk]
 ·obtain⟨⟨g1,g2⟩,c⟩:=c;obtain⟨a,k⟩:∃a,l[i]? =some a:=⟨_,cl hi⟩;obtain⟨b,j⟩:∃b,r[i]? =some b:=⟨_,cl Ω⟩;have e:∀h,(l[i]'h)=a:=fun h=>by rw[cl hi]at k;exact e7 k
  have f:∀h,(r[i]'h)=b:=fun h=>by rw[cl h]at j;exact e7 j
  have g:i<r.length:=Ω
  have p:(l.zip r).drop i=(a,b)::(l.zip r).drop (i+1):=by rw[lH d6];simp[e,f]
  rw[p,OD g1 g2]at c;simp[hi,e,f,g];have key:=asJ d a b g1 g2;cases hu:mgu d [(a,b)]with
  |none=>rw[hu]at c key;simp only at c;rw[<-c];(repeat' first|refine ao ?_|refine aO key ?_|refine aP key ?_|simp[e,f,hi,g]);simp[bZ,bc,bf,a6];simp[hk]
  |some s1=>have m:=B9 g1 g2 hu;rw[hu]at c key;(repeat' first|refine ao ?_|refine aO key ?_|refine aP key ?_|simp[e,f,hi,g]);refine bY.rng s1 hi ⟨m,c⟩ ?_;exact b9
def k4(n:Int):bT au 114 [aj n] (T.var n).e:=by refine bI a1 Tryz.func114 ao5 fun a=>?_;unfold TI;exact cn
def alV(t:List Bd)(i:Nat)(p:List T×List T):Prop:=p.1=(t.take i).map (fun b=>T.var b.v)/\p.2=(t.take i).map (·.t)
def asH(s t:List Bd)(k:gD s)(n:iy s)(m:t.length<=1000000):bT au 152 [bL (s.map Bd.e),bL (t.map Bd.e)] (hk (mgu s (iM t))):=by
 have g:(t.map fun b=>T.var b.v).zip (t.map (·.t))=iM t:=by rw[iM,List.zip_map']
 refine bI a1 Tryz.func152 apd fun o=>?_;unfold TP;simp;refine fU (α:=List T×List T) (fun i p=>⟨[(0,bL (s.map Bd.e)),(12,bL (t.map Bd.e)),(13,aj t.length),(6,.slice 4 (.own (.loc 0)) (p.1.map T.e)),(7,.slice 4 (.own (.loc 1)) (p.2.map T.e)),(14,aj i)],[],[(.loc 0,⟨p.1.length,30,4,none⟩),(.loc 1,⟨p.2.length,30,4,none⟩)],2,[]⟩) t.length (alV t) ([],[]) b9 ⟨Ψ,Ψ⟩ (fun p d _=>?_) (fun i p hi d _=>?_)
 ·obtain⟨A,B⟩:=p;obtain⟨a,c⟩:=d;simp only at a c⊢;rw[ix (dP _)]at a c;have key:=asF s A B (by rw[a,c];simp) k n (by rw[a];simpa using m);rw[a,c,g,<-a,<-c]at key;simp;(repeat' first|refine ao ?_|refine aO key ?_|refine aP key ?_|simp);simp[bZ,bc,bf,a6];simp[hk]
 ·obtain⟨A,B⟩:=p;obtain⟨a,c⟩:=d;simp only at a c⊢;obtain⟨b,l,f⟩:=eW hi;have e:t.take (i+1)=t.take i++[b]:=by rw[List.take_succ,l];rfl
  have j:A.length<=1000000:=by rw[a];simp;omega
  have h:B.length<=1000000:=by rw[c];simp;omega
  simp[hi,f];(repeat' first|refine ao ?_|refine aO (k4 _) ?_|refine aP (k4 _) ?_|simp[f,hi]);all_goals try refine⟨by unfold lim;omega,?_⟩
  (repeat' first|refine ao ?_|simp);all_goals try refine⟨by unfold lim;omega,?_⟩
  (repeat' first|refine ao ?_|simp);refine bY.rng (A++[.var b.v],B++[b.t]) hi ⟨by rw[e,a];simp,by rw[e,c];simp⟩ ?_;simp;exact⟨by simp[fresh,aH,az,cd,aM,ae,j2],eo (by simp[fresh,aH,az,cd,aM,ae,j2]),ep (by simp[fresh,aH,az,dV,aM,ae,j2]),Ψ⟩
def dS(n lo hi:Int):bT au 75 [aj n,aj lo,aj hi] (.bool (decide (lo<=n/\n<=hi))):=by
 refine bI a1 Tryz.func75 aoX fun a=>?_;unfold TA;simp;((repeat' first|refine ao ?_|simp|((first|apply ct|apply cz|apply cy)<;>intro h<;>try simp at h))<;>(try exact c3));all_goals simp[bZ,bc,bf,a6]
 all_goals first|omega|(simp;done)|(simp;omega)
def shp:Tm->Bool
 | .mk k n s [a,b]=>k==4&&n==0&&s==[]&&shp a&&shp b
 | .mk k n s []=>mm k n s
 |_=>false
def JZ:∀x:T,shp x.tm=x.ok
 | .nil=>by simp[T.tm,shp,mm,T.ok]
 | .var _=>by simp[T.tm,shp,mm,T.ok]
 | .sym _=>by simp[T.tm,shp,mm,T.ok]
 | .num _=>by simp[T.tm,shp,mm,T.ok]
 | .pair a b=>by simp[T.tm,shp,T.ok,JZ a,JZ b]
def aq5:∀(m:Nat) (t:Tm),t.sz<=m->shp t=true->∃x:T,x.tm=t:=by
 intro m;induction m with
 |zero=>intro t c;cases t;simp[Tm.sz]at c
 |succ m d=>
  rintro⟨k,n,s,args⟩ c h;match args with
  |[a,b]=>
   simp[Tm.sz,Tm.szL]at c;simp only[shp,cR,ey]at h;obtain⟨⟨⟨⟨rfl,rfl⟩,e⟩,J⟩,U⟩:=h;obtain⟨x,rfl⟩:=d a Ω J;obtain⟨y,rfl⟩:=d b Ω U;have:s=[]:=by simpa using e
   subst this;exact⟨.pair x y,rfl⟩
  |[]=>
   simp only[shp,mm]at h;split at h
   ·subst_vars;simp at h;exact⟨.nil,by simp[T.tm,h]⟩
   split at h
   ·subst_vars;simp at h;exact⟨.var n,by simp[T.tm,h]⟩
   split at h
   ·subst_vars;simp at h;exact⟨.sym s,by simp[T.tm,h]⟩
   split at h
   ·subst_vars;simp at h;exact⟨.num n,by simp[T.tm,h]⟩
   ·simp at h
  |[_]=>simp[shp]at h
  |_::_::_::_=>simp[shp]at h
def ais(t:Tm):t.fits=(decide (mB t 5000<=5000)&&shp t):=by
 by_cases h:shp t=true
 ·obtain⟨x,rfl⟩:=aq5 _ t (dP _) h;have:=(G3 x 5000 Ω).1;rw[Tm.fits_T,T.fit,h];rw[JZ]at h;simp[h,this];omega
 ·have b:t.fits=false:=by
   cases c:t.fits with
   |false=>rfl
   |true=>obtain⟨x,rfl,a⟩:=Tm.fits_ex c;rw[JZ]at h;simp[T.fit]at a;exact absurd a.1 h
  simp at h;rw[b,h];simp
def NQ(s:List cJ)(i:Nat):Prop:=i<=s.length/\∀k,k<i->nW (s.getD k 0)=true/\(k=0->low (s.getD k 0)=true)
def alO{s:List cJ}(h:NQ s s.length):ib s=decide (1<=s.length/\s.length<=12):=by
 unfold ib;by_cases c:1<=s.length
 ·have J:=(h.2 0 Ω).2 rfl;have U:(s.drop 1).all nW=true:=by rw[j7];intro b a;obtain⟨i,hi,e⟩:=pA a;simp at hi e;have:=(h.2 (i+1) Ω).1;rw[List.getD_eq_getElem?_getD,cl Ω]at this;simp only[lJ]at this;rw[<-e];exact this
  rw[J,U];simp
 ·have:decide (1<=s.length/\s.length<=12)=false:=by simp;omega
  rw[this];simp
def alN{s:List cJ}{i:Nat}(hi:i<s.length)(h:nW (s.getD i 0)=false\/(i=0/\low (s.getD i 0)=false)):ib s=false:=by
 cases e:ib s with
 |false=>rfl
 |true=>
  exfalso;simp only[ib,cR,j7]at e;obtain⟨⟨_,a⟩,c⟩:=e;rcases h with h|⟨rfl,h⟩
  ·by_cases b:i=0
   ·subst b;rw[nW,a]at h;simp at h
   ·have:=c (s.getD i 0) (by rw[List.getD_eq_getElem?_getD,cl hi];simp only[lJ];refine List.mem_iff_getElem.2 ⟨i-1,by simp;omega,?_⟩;simp[show i-1+1=i from by omega])
    rw[this]at h;cases h
  ·rw[a]at h;cases h
def hE(s:List cJ):bT au 119 [.str s] (.bool (ib s)):=by
 generalize bt:ib s=R;refine bI a1 Tryz.func119 aoS fun q=>?_;unfold Tv;have r:s.length<=68719476736:=by simp[eI,eN,eJ,lim]at q;omega
 simp;refine xd [0] (fun(i:Nat)=>[(3,aj i)]) (fun i=>s.length-i) (NQ s) 0 b9 ⟨Ω,fun k ab=>Ω⟩ (fun i o _=>?_);have t:=o.1;by_cases hi:i<s.length
 ·have l:=alN hi;rw[bt]at l;obtain⟨c,aw,e⟩:=eW hi;have p:s.getD i 0=c:=by simp[List.getD_eq_getElem?_getD,aw]
  rw[p]at l;have dy:nW c=true->(i=0->low c=true)->NQ s (i+1):=fun J U=>⟨Ω,fun k ab=>by
   rcases(by omega:k<i\/k=i)with h|rfl
   ·exact o.2 k h
   ·rw[p];exact⟨J,U⟩⟩
  have hw:vo.wrap (c.toNat:Int)=c.toNat:=pt _ (by have:=c.toNat_lt;omega);simp[hi,e,aw];by_cases g:(97:Int)<=c.toNat
  ·by_cases n:(c.toNat:Int)<=122
   ·have j:low c=true:=by simp[low];omega
    (repeat' first|refine ao ?_|refine aO (dS _ _ _) ?_|refine aP (dS _ _ _) ?_|simp[hi,e,aw,g,n]);exact bY.whl (i+1) Ω (dy (by simp[nW,j]) (fun _=>j)) b9
   ·have j:low c=false:=by simp[low];omega
    by_cases d:i=0
    ·rw[l (.inr ⟨d,j⟩)];have a:((i:Int)==0)=true:=by simp[d]
     (repeat' first|refine ao ?_|refine aO (dS _ _ _) ?_|refine aP (dS _ _ _) ?_|simp[hi,e,aw,g,n,a,hw]);simp[bZ,bc,bf,a6]
    ·have a:((i:Int)==0)=false:=by simp[d]
     by_cases b:(c.toNat:Int)=45
     ·have f:((c.toNat:Int) !=45)=false:=by simp[b]
      (repeat' first|refine ao ?_|refine aO (dS _ _ _) ?_|refine aP (dS _ _ _) ?_|simp[hi,e,aw,g,n,a,hw,b,f]);all_goals exact bY.whl (i+1) Ω (dy (by simp[nW];omega) (fun h=>absurd h d)) b9
     ·have f:((c.toNat:Int) !=45)=true:=by simp[b]
      by_cases m:(48:Int)<=c.toNat/\(c.toNat:Int)<=57
      ·(repeat' first|refine ao ?_|refine aO (dS _ _ _) ?_|refine aP (dS _ _ _) ?_|simp[hi,e,aw,g,n,a,hw,b,f,m]);all_goals exact bY.whl (i+1) Ω (dy (by simp[nW];omega) (fun h=>absurd h d)) b9
      ·rw[l (.inl (by simp[nW,j];omega))];(repeat' first|refine ao ?_|refine aO (dS _ _ _) ?_|refine aP (dS _ _ _) ?_|simp[hi,e,aw,g,n,a,hw,b,f,m]);simp[bZ,bc,bf,a6]
  ·have j:low c=false:=by simp[low];omega
   by_cases d:i=0
   ·rw[l (.inr ⟨d,j⟩)];have a:((i:Int)==0)=true:=by simp[d]
    (repeat' first|refine ao ?_|refine aO (dS _ _ _) ?_|refine aP (dS _ _ _) ?_|simp[hi,e,aw,g,a,hw]);simp[bZ,bc,bf,a6]
   ·have a:((i:Int)==0)=false:=by simp[d]
    by_cases b:(c.toNat:Int)=45
    ·have f:((c.toNat:Int) !=45)=false:=by simp[b]
     (repeat' first|refine ao ?_|refine aO (dS _ _ _) ?_|refine aP (dS _ _ _) ?_|simp[hi,e,aw,g,a,hw,b,f]);all_goals exact bY.whl (i+1) Ω (dy (by simp[nW];omega) (fun h=>absurd h d)) b9
    ·have f:((c.toNat:Int) !=45)=true:=by simp[b]
     by_cases m:(48:Int)<=c.toNat/\(c.toNat:Int)<=57
     ·(repeat' first|refine ao ?_|refine aO (dS _ _ _) ?_|refine aP (dS _ _ _) ?_|simp[hi,e,aw,g,a,hw,b,f,m]);all_goals exact bY.whl (i+1) Ω (dy (by simp[nW];omega) (fun h=>absurd h d)) b9
     ·rw[l (.inl (by simp[nW,j];omega))];(repeat' first|refine ao ?_|refine aO (dS _ _ _) ?_|refine aP (dS _ _ _) ?_|simp[hi,e,aw,g,a,hw,b,f,m]);simp[bZ,bc,bf,a6]
 ·have:i=s.length:=Ω
  subst this;rw[alO o]at bt;simp[hi];(repeat' first|refine ao ?_|refine aO (dS _ _ _) ?_|refine aP (dS _ _ _) ?_|simp[hi]);simp[bZ,bc,bf,a6];rw[<-bt,q2];simp;omega
def wQ:List Tm->Bool
 |[a,b]=>shp a&&shp b
 |_=>false
def aq4(k n:Int)(s:List cJ)(args:List Tm):shp ⟨k,n,s,args⟩=if k≠1/\k≠3/\n≠0 then false else if k≠2/\s≠[]then false else if k≠4/\args≠[]then false else if k=0 then true else if k=1 then decide (0<=n/\n<=100000)else if k=2 then ib s else if k=3 then decide (-1000000000<=n/\n<=1000000000)else if k=4 then wQ args else false:=by
 by_cases d:k=0
 ·subst d;match args with
  |[]=>by_cases h:n=0<;>by_cases c:s=[]<;>simp[shp,mm,h,c]
  |[a]=>simp[shp]
  |[a,b]=>simp[shp]
  |_::_::_::_=>simp[shp]
 by_cases i:k=1
 ·subst i;match args with
  |[]=>by_cases c:s=[]<;>simp[shp,mm,c]
  |[a]=>simp[shp]
  |[a,b]=>simp[shp]
  |_::_::_::_=>simp[shp]
 by_cases g:k=2
 ·subst g;match args with
  |[]=>by_cases h:n=0<;>simp[shp,mm,h]
  |[a]=>simp[shp]
  |[a,b]=>simp[shp]
  |_::_::_::_=>simp[shp]
 by_cases f:k=3
 ·subst f;match args with
  |[]=>by_cases c:s=[]<;>simp[shp,mm,c]
  |[a]=>simp[shp]
  |[a,b]=>simp[shp]
  |_::_::_::_=>simp[shp]
 by_cases e:k=4
 ·subst e;match args with
  |[]=>simp[shp,mm,wQ]
  |[a]=>simp[shp,wQ]
  |[a,b]=>by_cases h:n=0<;>by_cases c:s=[]<;>simp[shp,wQ,h,c]
  |_::_::_::_=>simp[shp,wQ]
 ·match args with
  |[]=>simp[shp,mm,d,i,g,f,e]
  |[a]=>simp[shp,d,i,g,f,e]
  |[a,b]=>simp[shp,d,i,g,f,e]
  |_::_::_::_=>simp[shp,d,i,g,f,e]
set_option maxRecDepth 8000 in
def asA(m:Nat):∀(t:Tm),t.sz<=m->bT au 124 [enc t] (.bool (shp t)):=by
 induction m with
 |zero=>intro t A;cases t;simp[Tm.sz]at A
 |succ m F=>
 rintro⟨k,n,s,args⟩ A;generalize bt:shp ⟨k,n,s,args⟩=R;have c:=aq4 k n s args;rw[bt]at c;by_cases w:k≠1/\k≠3/\n≠0
 ·rw[if_pos w]at c;obtain⟨f,e,n0⟩:=w;have p:(k !=1)=true:=by simp[f]
  have o:(k !=3)=true:=by simp[e]
  have E:(n !=0)=true:=by simp[n0]
  subst c;refine bI a1 Tryz.func124 n9 fun d=>?_;unfold nf;simp[Tm.kind,Tm.num,Tm.name,Tm.args];(repeat' first|refine ao ?_|refine aO (dS _ _ _) ?_|refine aP (dS _ _ _) ?_|refine aO (hE _) ?_|refine aP (hE _) ?_|simp[p,o,E]);all_goals simp[bZ,bc,bf,a6]
 rw[if_neg w]at c;have v:(if k !=1 then k !=3 else false)=true->(n !=0)=false:=by intro h;simp at h⊢;exact Classical.byContradiction fun O=>w ⟨h.1,h.2,O⟩
 by_cases i:k≠2/\s≠[]
 ·rw[if_pos i]at c;have y:(k !=2)=true:=by simp[i.1]
  have B:s.isEmpty=false:=by simp[i.2]
  by_cases f:k=1
  ·subst f;subst c;refine bI a1 Tryz.func124 n9 fun d=>?_;unfold nf;simp[Tm.kind,Tm.num,Tm.name,Tm.args];(repeat' first|refine ao ?_|refine aO (dS _ _ _) ?_|refine aP (dS _ _ _) ?_|refine aO (hE _) ?_|refine aP (hE _) ?_|simp[B]);all_goals simp[bZ,bc,bf,a6]
  by_cases e:k=3
  ·subst e;subst c;refine bI a1 Tryz.func124 n9 fun d=>?_;unfold nf;simp[Tm.kind,Tm.num,Tm.name,Tm.args];(repeat' first|refine ao ?_|refine aO (dS _ _ _) ?_|refine aP (dS _ _ _) ?_|refine aO (hE _) ?_|refine aP (hE _) ?_|simp[B]);all_goals simp[bZ,bc,bf,a6]
  have p:(k !=1)=true:=by simp[f]
  have o:(k !=3)=true:=by simp[e]
  have E:(n !=0)=false:=v (by simp[f,e]);subst c;refine bI a1 Tryz.func124 n9 fun d=>?_;unfold nf;simp[Tm.kind,Tm.num,Tm.name,Tm.args];(repeat' first|refine ao ?_|refine aO (dS _ _ _) ?_|refine aP (dS _ _ _) ?_|refine aO (hE _) ?_|refine aP (hE _) ?_|simp[p,o,E,y,B]);all_goals simp[bZ,bc,bf,a6]
 rw[if_neg i]at c;by_cases z:k=0
 ·subst z;have n0:n=0:=by simpa using v (by decide)
  have s0:s=[]:=Classical.byContradiction fun h=>i ⟨Ω,h⟩;subst n0 s0;by_cases a0:args=[];rotate_left
  ·rw[if_pos ⟨Ω,a0⟩]at c;have g:(0:Int)<args.length:=by have:=List.length_pos_iff.2 a0;omega
   subst c;refine bI a1 Tryz.func124 n9 fun d=>?_;unfold nf;simp[Tm.kind,Tm.num,Tm.name,Tm.args];((repeat' first|refine ao ?_|refine aO (dS _ _ _) ?_|refine aP (dS _ _ _) ?_|refine aO (hE _) ?_|refine aP (hE _) ?_|simp[Int.natCast_nonneg,g]|((first|apply ct|apply cz|apply cy)<;>intro h<;>try simp at h))<;>(try exact c3));all_goals simp[bZ,bc,bf,a6]
  rw[if_neg (by simp[a0])]at c;subst a0;simp at c;subst c;refine bI a1 Tryz.func124 n9 fun d=>?_;unfold nf;simp[Tm.kind,Tm.num,Tm.name,Tm.args];(repeat' first|refine ao ?_|refine aO (dS _ _ _) ?_|refine aP (dS _ _ _) ?_|refine aO (hE _) ?_|refine aP (hE _) ?_|simp[Int.natCast_nonneg]);all_goals simp[bZ,bc,bf,a6]
 by_cases f:k=1
 ·subst f;have s0:s=[]:=Classical.byContradiction fun h=>i ⟨Ω,h⟩;subst s0;by_cases a0:args=[];rotate_left
  ·rw[if_pos ⟨Ω,a0⟩]at c;have g:(0:Int)<args.length:=by have:=List.length_pos_iff.2 a0;omega
   subst c;refine bI a1 Tryz.func124 n9 fun d=>?_;unfold nf;simp[Tm.kind,Tm.num,Tm.name,Tm.args];((repeat' first|refine ao ?_|refine aO (dS _ _ _) ?_|refine aP (dS _ _ _) ?_|refine aO (hE _) ?_|refine aP (hE _) ?_|simp[Int.natCast_nonneg,g]|((first|apply ct|apply cz|apply cy)<;>intro h<;>try simp at h))<;>(try exact c3));all_goals simp[bZ,bc,bf,a6]
  rw[if_neg (by simp[a0])]at c;subst a0;simp at c;subst c;refine bI a1 Tryz.func124 n9 fun d=>?_;unfold nf;simp[Tm.kind,Tm.num,Tm.name,Tm.args];(repeat' first|refine ao ?_|refine aO (dS _ _ _) ?_|refine aP (dS _ _ _) ?_|refine aO (hE _) ?_|refine aP (hE _) ?_|simp[Int.natCast_nonneg]);all_goals simp[bZ,bc,bf,a6]
 by_cases u:k=2
 ·subst u;have n0:n=0:=by simpa using v (by decide)
  subst n0;by_cases a0:args=[];rotate_left
  ·rw[if_pos ⟨Ω,a0⟩]at c;have g:(0:Int)<args.length:=by have:=List.length_pos_iff.2 a0;omega
   subst c;refine bI a1 Tryz.func124 n9 fun d=>?_;unfold nf;simp[Tm.kind,Tm.num,Tm.name,Tm.args];((repeat' first|refine ao ?_|refine aO (dS _ _ _) ?_|refine aP (dS _ _ _) ?_|refine aO (hE _) ?_|refine aP (hE _) ?_|simp[Int.natCast_nonneg,g]|((first|apply ct|apply cz|apply cy)<;>intro h<;>try simp at h))<;>(try exact c3));all_goals simp[bZ,bc,bf,a6]
  rw[if_neg (by simp[a0])]at c;subst a0;simp at c;subst c;refine bI a1 Tryz.func124 n9 fun d=>?_;unfold nf;simp[Tm.kind,Tm.num,Tm.name,Tm.args];(repeat' first|refine ao ?_|refine aO (dS _ _ _) ?_|refine aP (dS _ _ _) ?_|refine aO (hE _) ?_|refine aP (hE _) ?_|simp[Int.natCast_nonneg]);all_goals simp[bZ,bc,bf,a6]
 by_cases e:k=3
 ·subst e;have s0:s=[]:=Classical.byContradiction fun h=>i ⟨Ω,h⟩;subst s0;by_cases a0:args=[];rotate_left
  ·rw[if_pos ⟨Ω,a0⟩]at c;have g:(0:Int)<args.length:=by have:=List.length_pos_iff.2 a0;omega
   subst c;refine bI a1 Tryz.func124 n9 fun d=>?_;unfold nf;simp[Tm.kind,Tm.num,Tm.name,Tm.args];((repeat' first|refine ao ?_|refine aO (dS _ _ _) ?_|refine aP (dS _ _ _) ?_|refine aO (hE _) ?_|refine aP (hE _) ?_|simp[Int.natCast_nonneg,g]|((first|apply ct|apply cz|apply cy)<;>intro h<;>try simp at h))<;>(try exact c3));all_goals simp[bZ,bc,bf,a6]
  rw[if_neg (by simp[a0])]at c;subst a0;simp at c;subst c;refine bI a1 Tryz.func124 n9 fun d=>?_;unfold nf;simp[Tm.kind,Tm.num,Tm.name,Tm.args];(repeat' first|refine ao ?_|refine aO (dS _ _ _) ?_|refine aP (dS _ _ _) ?_|refine aO (hE _) ?_|refine aP (hE _) ?_|simp[Int.natCast_nonneg]);all_goals simp[bZ,bc,bf,a6]
 by_cases r:k=4
 ·subst r;have n0:n=0:=by simpa using v (by decide)
  have s0:s=[]:=Classical.byContradiction fun h=>i ⟨Ω,h⟩;subst n0 s0;simp at c;match args,c with
  |[a,b],c=>
   simp[Tm.sz,Tm.szL]at A;have j:=F a Ω;have x:=F b Ω;simp only[wQ]at c;subst c;refine bI a1 Tryz.func124 n9 fun d=>?_;unfold nf;simp[Tm.kind,Tm.num,Tm.name,Tm.args];cases q:shp a with
   |true=>rw[q]at j;(repeat' first|refine ao ?_|refine aO j ?_|refine aP j ?_|refine aO x ?_|refine aP x ?_|simp[Int.natCast_nonneg]);all_goals simp[bZ,bc,bf,a6]
   |false=>rw[q]at j;(repeat' first|refine ao ?_|refine aO j ?_|refine aP j ?_|refine aO x ?_|refine aP x ?_|simp[Int.natCast_nonneg]);all_goals simp[bZ,bc,bf,a6]
  |[],c=>simp only[wQ]at c;subst c;refine bI a1 Tryz.func124 n9 fun d=>?_;unfold nf;simp[Tm.kind,Tm.num,Tm.name,Tm.args];(repeat' first|refine ao ?_|refine aO (dS _ _ _) ?_|refine aP (dS _ _ _) ?_|refine aO (hE _) ?_|refine aP (hE _) ?_|simp[Int.natCast_nonneg]);all_goals simp[bZ,bc,bf,a6]
  |[_],c=>simp only[wQ]at c;subst c;refine bI a1 Tryz.func124 n9 fun d=>?_;unfold nf;simp[Tm.kind,Tm.num,Tm.name,Tm.args];(repeat' first|refine ao ?_|refine aO (dS _ _ _) ?_|refine aP (dS _ _ _) ?_|refine aO (hE _) ?_|refine aP (hE _) ?_|simp[Int.natCast_nonneg]);all_goals simp[bZ,bc,bf,a6]
  |_::_::_::l,c=>
   simp only[wQ]at c;have N:((l.length:Int)+1+1+1==2)=false:=by simp;omega
   subst c;refine bI a1 Tryz.func124 n9 fun d=>?_;unfold nf;simp[Tm.kind,Tm.num,Tm.name,Tm.args];(repeat' first|refine ao ?_|refine aO (dS _ _ _) ?_|refine aP (dS _ _ _) ?_|refine aO (hE _) ?_|refine aP (hE _) ?_|simp[N]);all_goals simp[bZ,bc,bf,a6]
 have n0:(n !=0)=false:=v (by simp[f,e]);have s0:s=[]:=Classical.byContradiction fun h=>i ⟨u,h⟩;subst s0;have K:(k==0)=false:=by simp[z]
 have p:(k==1)=false:=by simp[f]
 have y:(k==2)=false:=by simp[u]
 have o:(k==3)=false:=by simp[e]
 have M:(k==4)=false:=by simp[r]
 have J:(k !=1)=true:=by simp[f]
 have H:(k !=2)=true:=by simp[u]
 have G:(k !=3)=true:=by simp[e]
 have L:(k !=4)=true:=by simp[r]
 by_cases a0:args=[]
 ·subst a0;simp[z,f,u,e,r]at c;subst c;refine bI a1 Tryz.func124 n9 fun d=>?_;unfold nf;simp[Tm.kind,Tm.num,Tm.name,Tm.args];(repeat' first|refine ao ?_|refine aO (dS _ _ _) ?_|refine aP (dS _ _ _) ?_|refine aO (hE _) ?_|refine aP (hE _) ?_|simp[K,p,y,o,M,J,H,G,L,n0]);all_goals simp[bZ,bc,bf,a6]
 ·rw[if_pos ⟨r,a0⟩]at c;have g:(0:Int)<args.length:=by have:=List.length_pos_iff.2 a0;omega
  subst c;refine bI a1 Tryz.func124 n9 fun d=>?_;unfold nf;simp[Tm.kind,Tm.num,Tm.name,Tm.args];((repeat' first|refine ao ?_|refine aO (dS _ _ _) ?_|refine aP (dS _ _ _) ?_|refine aO (hE _) ?_|refine aP (hE _) ?_|simp[g,K,p,y,o,M,J,H,G,L,n0]|((first|apply ct|apply cz|apply cy)<;>intro h<;>try simp at h))<;>(try exact c3));all_goals simp[bZ,bc,bf,a6]
def C6(t:Tm):bT au 56 [enc t] (.bool t.fits):=by
 rw[ais];have aw:=acF t 5000 Ω Ω;have a:=asA t.sz t (dP _);refine bI a1 Tryz.func56 aoW fun b=>?_;unfold Tz;simp;by_cases q:mB t 5000<=5000
 ·exact cn
 ·exact cn
def Tw:C:=(aa [bz 2 false] (.seq (aa [I 5 0,cw 6 5,bQ 7 0] (gx 8 7 6 (.seq (.block 1 (aa [I 9 7,ck 10 2 5 7,bk 11 2 10,dt (.alloc 4 none (.agg [.int .i64 0,.int .i64 0])),I 3 9,bV 2 4 11] (.seq (.drawn true 42 [I 12 3,aV 13 .gtr 12 0,I 14 13,cg 14 true 15 0,cg 14 true 16 3,ax 14 true (aV 17 .sub 16 1),ax 14 true (ck 18 2 15 17),ax 14 true (aF 19 0 1 18),ax 14 true (ay 20 1 19),ax 14 true (aF 21 0 1 4),ax 14 true (ay 22 1 21),ax 14 true (bu 23 .geq 20 22),ei 24 14 23,I 25 24,ax 25 false (aF 26 0 1 4),ax 25 false (ay 27 1 26),ax 25 false (dT 28 75 [.t 27,(gV 0),(gV 100000)]),ax 25 false (cO 29 28),ds 30 25 29,I 31 30,ax 31 false (aF 32 1 1 4),ax 31 false (ay 33 1 32),ax 31 false (aV 34 .neq 33 2),cg 31 false 35 34,ax 35 true (aF 36 1 1 4),ax 35 true (ay 37 1 36),ax 35 true (aV 38 .neq 37 3),ax 31 false (ei 39 35 38),ds 40 31 39]) (aW 40 (aa [bz 2 false] .ret) .skip)))) (.region [aV 41 .add 7 1,I 7 41])))) (aa [bz 2 true] .ret)))
def Tx:C:=(aa [bz 2 false] (.seq (aa [I 5 0,cw 6 5,bQ 7 0] (gx 8 7 6 (.seq (.block 1 (aa [I 9 7,ck 10 2 5 7,bk 11 2 10,dt (.alloc 4 none (.agg [.int .i64 0,.str []])),I 3 9,bV 2 4 11] (.seq (.drawn true 37 [I 12 3,aV 13 .gtr 12 0,I 14 13,cg 14 true 15 0,cg 14 true 16 3,ax 14 true (aV 17 .sub 16 1),ax 14 true (ck 18 2 15 17),ax 14 true (bk 19 2 18),ax 14 true (bk 20 2 4),ax 14 true (cc 21 147 19 20),ax 14 true (cO 22 21),ei 23 14 22,I 24 23,ax 24 false (aF 25 0 1 4),ax 24 false (ay 26 1 25),ax 24 false (dT 27 75 [.t 26,(gV 0),(gV 100000)]),ax 24 false (cO 28 27),ds 29 24 28,I 30 29,ax 30 false (aF 31 1 1 4),ax 30 false (ay 32 1 31),ax 30 false (cY 33 119 32),ax 30 false (cO 34 33),ds 35 30 34]) (aW 35 (aa [bz 2 false] .ret) .skip)))) (.region [aV 36 .add 7 1,I 7 36])))) (aa [bz 2 true] .ret)))
def GZ:C:=(aa [c0 2 0,c0 3 1,bz 4 false] (aa [aF 5 0 1 2,ay 6 1 5,aF 7 0 1 3,ay 8 1 7,bu 9 .lss 6 8,I 10 9,ax 10 false (aF 11 0 1 2),ax 10 false (ay 12 1 11),ax 10 false (aF 13 0 1 3),ax 10 false (ay 14 1 13),ax 10 false (bu 15 .eql 12 14),cg 10 false 16 15,ax 16 true (aF 17 1 1 2),ax 16 true (ay 18 1 17),ax 16 true (aF 19 1 1 3),ax 16 true (ay 20 1 19),ax 16 true (bu 21 .lss 18 20),ax 10 false (ei 22 16 21),ds 23 10 22,I 4 23] .ret))
def TV:C:=(aa [fw 4 2,bz 5 false] (aa [fe 10 2 98 [],I 6 10] (aa [bz 7 true] (.seq (.seq (.fg false 6 (.region [I 11 1,cw 12 11,bQ 13 0])) (gx 14 13 12 (.seq (.block 1 (aa [ck 15 2 11 13,bk 16 2 15,dt (.alloc 9 none (.agg [.int .i64 0,.int .i64 0])),bV 2 9 16] (.seq (.drawn true 33 [I 18 6,I 19 0,aF 20 0 1 9,ay 21 1 20,cY 22 114 21,cc 23 201 19 22,aF 24 1 1 9,ay 25 1 24,dT 26 151 [.t 18,.t 23,.t 25],I 17 26,cV 27 0 17,cV 28 1 17,I 6 27,I 7 28]) (aa [I 29 7,cO 30 29] (aW 30 (aa [fw 4 2,bz 5 false] .ret) .skip))))) (.region [aV 31 .add 13 1,I 13 31])))) (aa [I 32 6,I 4 32,bz 5 true] .ret)))))
def TW:C:=(aa [fw 4 2,bz 5 false] (aa [fe 10 2 100 [],I 6 10] (aa [bz 7 true] (.seq (.seq (.fg false 6 (.region [I 11 1,cw 12 11,bQ 13 0])) (gx 14 13 12 (.seq (.block 1 (aa [ck 15 2 11 13,bk 16 2 15,dt (.alloc 9 none (.agg [.int .i64 0,.str []])),bV 2 9 16] (.seq (.drawn true 33 [I 18 6,I 19 0,aF 20 0 1 9,ay 21 1 20,cY 22 114 21,cc 23 201 19 22,aF 24 1 1 9,ay 25 1 24,dT 26 181 [.t 18,.t 23,.t 25],I 17 26,cV 27 0 17,cV 28 1 17,I 6 27,I 7 28]) (aa [I 29 7,cO 30 29] (aW 30 (aa [fw 4 2,bz 5 false] .ret) .skip))))) (.region [aV 31 .add 13 1,I 13 31])))) (aa [I 32 6,I 4 32,bz 5 true] .ret)))))
def AX:C:=(aa [c0 4 1,fw 6 2,bz 7 false] (.seq (aa [aF 10 0 1 4,ay 11 1 10,aV 12 .neq 11 1] (aW 12 (.seq (.drawn true 73 [I 13 0,aF 14 0 1 4,ay 15 1 14,I 16 2,bu 17 .eql 15 16,I 6 13,I 7 17]) .ret) .skip)) (aa [bQ 8 0] (.seq (.block 0 (.loop (.seq (.seq (.drawn true 73 [I 18 8,I 19 0,cw 20 19,bu 21 .lss 18 20,I 22 21,cg 22 true 23 0,cg 22 true 24 8,ax 22 true (ck 25 2 23 24),ax 22 true (aF 26 0 1 25),ax 22 true (ay 27 1 26),ax 22 true (aF 28 1 1 4),ax 22 true (ay 29 1 28),ax 22 true (bu 30 .lss 27 29),ei 31 22 30]) (aW 31 .skip (.exit 0))) (.block 1 (.region [I 32 8,aV 33 .add 32 1,I 8 33]))))) (.seq (.seq (.drawn true 73 [I 34 8,I 35 0,cw 36 35,bu 37 .lss 34 36,I 38 37,cg 38 true 39 0,cg 38 true 40 8,ax 38 true (ck 41 2 39 40),ax 38 true (aF 42 0 1 41),ax 38 true (ay 43 1 42),ax 38 true (aF 44 1 1 4),ax 38 true (ay 45 1 44),ax 38 true (bu 46 .eql 43 45),ei 47 38 46]) (aW 47 (.seq (.drawn true 73 [I 48 0,I 49 0,I 50 8,ck 51 2 49 50,aF 52 1 1 51,ay 53 1 52,I 54 2,bu 55 .eql 53 54,I 6 48,I 7 55]) .ret) .skip)) (aa [fe 56 2 98 [],I 57 0,I 58 8,cb 59 (.lsl 2 (.t 57) none (some (.t 58))),h3 60 2 98 56 59,I 9 60] (aa [I 61 9,aF 62 1 1 4,ay 63 1 62,I 64 2,cb 65 (.build [.int .i64 0,.int .i64 0] [(0,1,(.t 63)),(1,1,(.t 64))]),fe 66 2 98 [.t 65],h3 67 2 98 61 66,I 9 67] (aa [I 68 9,I 69 0,I 70 8,cb 71 (.lsl 2 (.t 69) (some (.t 70)) none),h3 72 2 98 68 71,I 6 72,bz 7 true] .ret))))))))
def Ly:C:=(aa [c0 4 1,fw 6 2,bz 7 false] (.seq (aa [bk 13 4 4,I 14 2,cc 15 210 13 14] (aW 15 (aa [fw 6 2,bz 7 false] .ret) .skip)) (.seq (aa [bk 16 4 4,dT 17 58 [.t 16,(.c (.slice 1 .nil []))],cw 18 17,bQ 19 0] (gx 20 19 18 (.seq (.block 1 (aa [ck 21 1 17 19,ay 22 1 21,I 9 22] (aa [I 23 9,I 24 2,cb 25 (.build [.int .i64 0,.str []] [(0,1,(.t 23)),(1,1,(.t 24))]),dt (.alloc 10 none (.agg [.int .i64 0,.str []])),bV 2 10 25] (aa [bQ 11 0] (.seq (.block 2 (.loop (.seq (.seq (.drawn true 68 [I 26 11,I 27 0,cw 28 27,bu 29 .lss 26 28,I 30 29,cg 30 true 31 0,cg 30 true 32 11,ax 30 true (ck 33 2 31 32),ax 30 true (bk 34 2 33),ax 30 true (bk 35 2 10),ax 30 true (cc 36 147 34 35),ei 37 30 36]) (aW 37 .skip (.exit 2))) (.block 3 (.region [I 38 11,aV 39 .add 38 1,I 11 39]))))) (.seq (.drawn true 68 [I 40 11,I 41 0,cw 42 41,bu 43 .eql 40 42,I 44 43,ax 44 false (bk 45 2 10),cg 44 false 46 0,cg 44 false 47 11,ax 44 false (ck 48 2 46 47),ax 44 false (bk 49 2 48),ax 44 false (cc 50 147 45 49),ds 51 44 50]) (aW 51 (aa [fe 52 2 100 [],I 53 0,I 54 11,cb 55 (.lsl 2 (.t 53) none (some (.t 54))),h3 56 2 100 52 55,I 12 56] (aa [I 57 12,bk 58 2 10,fe 59 2 100 [.t 58],h3 60 2 100 57 59,I 12 60] (.region [I 61 12,I 62 0,I 63 11,cb 64 (.lsl 2 (.t 62) (some (.t 63)) none),h3 65 2 100 61 64,I 0 65]))) .skip))))))) (.fg false 0 (.region [aV 66 .add 19 1,I 19 66]))))) (aa [I 67 0,I 6 67,bz 7 true] .ret))))
def AW:C:=(aa [c0 2 0,bz 4 false] (.seq (aa [aF 7 3 1 2,ay 8 1 7,cw 9 8,bQ 10 0] (gx 11 10 9 (.seq (.block 1 (aa [ck 12 4 8 10,bk 13 4 12,dI 6 eC,bV 4 6 13] (aa [bk 14 4 6,I 15 1,cc 16 210 14 15] (aW 16 (aa [bz 4 true] .ret) .skip)))) (.region [aV 17 .add 10 1,I 10 17])))) (aa [aF 18 0 1 2,ay 19 1 18,aV 20 .eql 19 2,I 21 20,ax 21 true (aF 22 2 1 2),ax 21 true (ay 23 1 22),cg 21 true 24 1,ax 21 true (bu 25 .eql 23 24),ei 26 21 25,I 4 26] .ret)))
def aoT:b4 aT Tw [.tmp 2] 1 Tryz.f78=true:=bi
def aoU:b4 aT Tx [.tmp 2] 1 Tryz.f79=true:=bi
def Pe:b4 aT GZ [.tmp 4] 2 Tryz.f147=true:=bi
def apj:b4 aT TV [.tmp 4,.tmp 5] 2 Tryz.f149=true:=bi
def apk:b4 aT TW [.tmp 4,.tmp 5] 2 Tryz.f150=true:=bi
def Fl:b4 aT AX [.tmp 6,.tmp 7] 3 Tryz.f151=true:=bi
def ZE:b4 aT Ly [.tmp 6,.tmp 7] 3 Tryz.f181=true:=bi
def Fk:b4 aT AW [.tmp 4] 2 Tryz.f210=true:=bi
open Classical in
def as3(l:List bJ):bT au 78 [b5 (l.map bJ.e)] (.bool (decide (jR l))):=by
 generalize bt:decide (jR l)=R;refine bI a1 Tryz.func78 aoT fun A=>?_;unfold Tw;have E:l.length<=68719476736:=by simp[eI,eN,eJ,lim]at A;omega
 simp;refine eZ [0,5,6] (fun i (_:Unit)=>[(7,aj i)]) l.length (fun i _=> ∀j,j<i->jh nv oJ l j) () b9 (fun k ab=>Ω) (fun _ s _=>?_) (fun i _ hi s _=>?_)
 ·have:R=true:=by rw[<-bt,gz,Iu];exact s
  rw[this];exact cn
 ·obtain⟨b,m⟩:∃b,l[i]? =some b:=⟨_,cl hi⟩;obtain⟨c,aw⟩:∃c,l[i-1]? =some c:=⟨_,cl Ω⟩;have d:∀h,(l[i]'h)=b:=fun h=>by rw[cl hi]at m;exact e7 m
  have q:¬jh nv oJ l i->R=false:=fun h=>by rw[<-bt,iR];exact fun x=>h (Iu.1 x i hi)
  have dy:jh nv oJ l i->∀j,j<i+1->jh nv oJ l j:=fun h j B=>by
   by_cases e:j=i
   ·rw[e];exact h
   ·exact s j Ω
  have p:jh nv oJ l i->nv b:=fun h=>(h b m).1;have y:jh nv oJ l i->0<i->c.v<b.v:=fun h a=>(h b m).2 c a aw;have u:nv b->(0<i->c.v<b.v)->jh nv oJ l i:=fun J U b2 v=>by rw[m]at v;cases v;exact⟨J,fun F a t=>by rw[aw]at t;cases t;exact U a⟩
  unfold nv at p u;by_cases g0:0<i/\¬c.v<b.v
  ·rw[q (fun h=>g0.2 (y h g0.1))];have z:=g0.1;have g:b.v<=c.v:=Ω
   exact cn
  have n:(decide (0<i)&&decide (b.v<=c.v))=false:=by simp;intro h;by_cases w:c.v<b.v;exact w;exact absurd ⟨h,w⟩ g0
  by_cases g1:0<=b.v/\b.v<=100000;rotate_left
  ·rw[q (fun h=>g1 (p h).1)];have f:decide (0<=b.v/\b.v<=100000)=false:=by simp only[iR];exact g1
   by_cases a:0<i
   ·have g:¬b.v<=c.v:=by simp[a]at n;omega
    simp[hi,d,aw];(repeat' first|refine ao ?_|refine aO (dS _ _ _) ?_|refine aP (dS _ _ _) ?_|simp[d,aw,hi,a,g,f,g1]);all_goals simp[bZ,bc,bf,a6]
   ·obtain rfl:i=0:=Ω
    simp[hi,d,aw];(repeat' first|refine ao ?_|refine aO (dS _ _ _) ?_|refine aP (dS _ _ _) ?_|simp[d,aw,hi,f,g1]);all_goals simp[bZ,bc,bf,a6]
  have f:decide (0<=b.v/\b.v<=100000)=true:=by simp only[gz];exact g1
  by_cases g2:b.k=2\/b.k=3;rotate_left
  ·rw[q (fun h=>g2 (p h).2)];have g21:(b.k !=2)=true:=by simp;omega
   have g22:(b.k !=3)=true:=by simp;omega
   by_cases a:0<i
   ·have g:¬b.v<=c.v:=by simp[a]at n;omega
    simp[hi,d,aw];(repeat' first|refine ao ?_|refine aO (dS _ _ _) ?_|refine aP (dS _ _ _) ?_|simp[d,aw,hi,a,g,f,g1,g21,g22]);all_goals simp[bZ,bc,bf,a6]
   ·obtain rfl:i=0:=Ω
    simp[hi,d,aw];(repeat' first|refine ao ?_|refine aO (dS _ _ _) ?_|refine aP (dS _ _ _) ?_|simp[d,aw,hi,f,g1,g21,g22]);all_goals simp[bZ,bc,bf,a6]
  have o:=dy (u ⟨g1,g2⟩ fun a=>by simp[a]at n;omega);have r:((b.k !=2)=false)\/((b.k !=2)=true/\(b.k !=3)=false):=by
   rcases g2 with h|h
   ·left;simp[h]
   ·right;simp[h]
  rcases r with g21|⟨g21,g22⟩
  ·by_cases a:0<i
   ·have g:¬b.v<=c.v:=by simp[a]at n;omega
    simp[hi,d,aw];(repeat' first|refine ao ?_|refine aO (dS _ _ _) ?_|refine aP (dS _ _ _) ?_|simp[d,aw,hi,a,g,f,g1,g21]);all_goals exact bY.rng () hi o b9
   ·obtain rfl:i=0:=Ω
    simp[hi,d,aw];(repeat' first|refine ao ?_|refine aO (dS _ _ _) ?_|refine aP (dS _ _ _) ?_|simp[d,aw,hi,f,g1,g21]);all_goals exact bY.rng () hi o b9
  ·by_cases a:0<i
   ·have g:¬b.v<=c.v:=by simp[a]at n;omega
    simp[hi,d,aw];(repeat' first|refine ao ?_|refine aO (dS _ _ _) ?_|refine aP (dS _ _ _) ?_|simp[d,aw,hi,a,g,f,g1,g21,g22]);all_goals exact bY.rng () hi o b9
   ·obtain rfl:i=0:=Ω
    simp[hi,d,aw];(repeat' first|refine ao ?_|refine aO (dS _ _ _) ?_|refine aP (dS _ _ _) ?_|simp[d,aw,hi,f,g1,g21,g22]);all_goals exact bY.rng () hi o b9
def mW(a b:bn):bT au 147 [a.e,b.e] (.bool (iP gf a b)):=by
 rw[<-YW];have bt:u7 a b=(decide (a.v<b.v)||(a.v==b.v&&iw a.s b.s)):=rfl;rcases Int.lt_trichotomy a.v b.v with h|h|h
 ·have:u7 a b=true:=by rw[bt];simp[h]
  rw[this];refine bI a1 Tryz.func147 Pe fun c=>?_;unfold GZ;exact cn
 ·have J:¬a.v<b.v:=Ω
  have U:(a.v==b.v)=true:=by simp[h]
  have:u7 a b=iw a.s b.s:=by rw[bt];simp[h]
  rw[this];refine bI a1 Tryz.func147 Pe fun c=>?_;unfold GZ;exact cn
 ·have J:¬a.v<b.v:=Ω
  have U:¬a.v=b.v:=Ω
  have d:(a.v==b.v)=false:=by simp[U]
  have:u7 a b=false:=by rw[bt];simp[J,U]
  rw[this];refine bI a1 Tryz.func147 Pe fun c=>?_;unfold GZ;exact cn
def Xr(l:List Bt)(i:Nat)(_:Unit):Prop:= ∀j,j<i->Cn l j
open Classical in
def asE(l:List Bt):bT au 145 [bL (l.map Bt.e)] (.bool (decide (AH l))):=by
 generalize bt:decide (AH l)=R;refine bI a1 Tryz.func145 apa fun r=>?_;unfold TN;have t:l.length<=68719476736:=by simp[eI,eN,eJ,lim]at r;omega
 simp;refine eZ [0,5,6] (fun i (_:Unit)=>[(7,aj i)]) l.length (Xr l) () b9 (fun k ab=>Ω) (fun _ f _=>?_) (fun i _ hi f _=>?_)
 ·have:R=decide (l.length<=400):=by rw[<-bt,decide_eq_decide];exact⟨fun h=>h.1,fun h=>⟨h,fun j g=>f j g⟩⟩
  rw[this];simp;(repeat' first|refine ao ?_|simp);simp[bZ,bc,bf,a6];all_goals(first|done|omega|(simp;done)|(simp;omega))
 ·obtain⟨b,a⟩:∃b,l[i]? =some b:=⟨_,cl hi⟩;obtain⟨c,aw⟩:∃c,l[i-1]? =some c:=⟨_,cl Ω⟩;have n:∀h,(l[i]'h)=b:=fun h=>by rw[cl hi]at a;exact e7 a
  have p:¬Cn l i->R=false:=fun h=>by rw[<-bt,iR];exact fun d=>h (d.2 i hi)
  have dy:Cn l i->Xr l (i+1) ():=fun h j g=>by
   by_cases e:j=i
   ·rw[e];exact h
   ·exact f j Ω
  simp[hi,n,aw];((repeat' first|refine ao ?_|refine aO (dS _ _ _) ?_|refine aP (dS _ _ _) ?_|refine aO (C6 _) ?_|refine aP (C6 _) ?_|simp[n,aw,hi]|((first|apply ct|apply cz|apply cy)<;>intro h<;>try simp at h))<;>(try exact c3));all_goals first
   |(have s:¬Cn l i:=by(intro d;have J:=d b a;have U:=J.2.1 c;have q:=J.2.2;first|omega|(have w:=U Ω aw;omega)|(rw[q]at h;cases h)|(simp_all;done)|(simp_all;omega))
     rw[p s]
     simp[bZ,bc,bf,a6]
     done)
   |(refine bY.rng () hi (dy fun b2 o=>?_) ?_
     ·rw[a]at o;cases o
      refine⟨?_,fun u v m=>?_,?_⟩
      ·omega
      ·rw[aw]at m;cases m;omega
      ·first|assumption|simp_all
     ·exact b9)
def nY(n:Int):List Int->List Int
 |[]=>[n]
 |c::l=>if c<n then c::nY n l else if c=n then c::l else n::c::l
def vq(l:List Int):Prop:=l.Pairwise (· < ·)
def Xi(n:Int):∀(l:List Int) (k:Nat),(∀i c,i<k->l[i]? =some c->c<n)->(∀c,l[k]? =some c->n<=c)->k<=l.length->nY n l=if l[k]? =some n then l else l.take k++n::l.drop k
 |[],k,_,_,ab=>by simp at ab;subst ab;rfl
 |c::l,0,_,U,_=>by
  have:=U c rfl;by_cases e:c=n
  ·simp[nY,e]
  ·have f:¬c<n:=Ω
   simp[nY,f,e]
 |c::l,k+1,J,U,ab=>by have b:=J 0 c Ω rfl;simp only[nY,if_pos b,List.take_succ_cons,List.drop_succ_cons,b6,List.getElem?_cons_succ];rw[Xi n l k (fun i d hi a=>J (i+1) d Ω (by simpa using a)) (fun d a=>U d (by simpa using a)) (by simpa using ab)];split<;>rfl
def Oz{n m:Int}:∀{l:List Int},m∈nY n l↔m=n\/m∈l
 |[]=>by simp[nY]
 |c::l=>by
  simp only[nY];split
  ·simp only[gJ,Oz (l:=l)];constructor
   ·rintro(h|h|h)
    ·exact .inr (.inl h)
    ·exact .inl h
    ·exact .inr (.inr h)
   ·rintro(h|h|h)
    ·exact .inr (.inl h)
    ·exact .inl h
    ·exact .inr (.inr h)
  ·split
   ·rename_i h;subst h;simp
   ·simp
def Xh{n:Int}:∀{l:List Int},vq l->vq (nY n l)
 |[],_=>by simp[nY,vq]
 |c::l,h=>by
  obtain⟨J,U⟩:=oh.1 h;simp only[nY];split
  ·rename_i a;refine oh.2 ⟨fun m hm=>?_,Xh U⟩;rcases Oz.1 hm with rfl|hm
   ·exact a
   ·exact J m hm
  ·split
   ·exact h
   ·refine oh.2 ⟨fun m hm=>?_,h⟩;rcases gJ.1 hm with rfl|hm
    ·omega
    ·have:=J m hm;omega
def Xj(n:Int):∀l:List Int,(nY n l).length<=l.length+1
 |[]=>by simp[nY]
 |c::l=>by
  have:=Xj n l;simp only[nY];split
  ·simp;omega
  ·split<;>simp
def EH(l:List Int)(i:Nat):(e2 l)[i]? =(l[i]?).map (af.int .i64):=by simp[e2]
def fO(l:List Int):(e2 l).length=l.length:=by simp[e2]
def Ap:∀l:List Int,cf (e2 l)=e2 l
 |[]=>by simp[e2,cf]
 |a::l=>by have:=Ap l;simp only[e2,ha,cf,b7]at this⊢;rw[this]
def Ij(l:List Int)(n:Int)(k:Nat):cf (mX k (e2 l)++af.int .i64 n::oV k (mX l.length (e2 l)))=e2 (mX k l++n::oV k l):=by
 have e:mX l.length (e2 l)=e2 l:=ix (by simp[e2]);have a:mX k (e2 l)++af.int .i64 n::oV k (e2 l)=e2 (mX k l++n::oV k l):=by simp only[e2,List.map_append,ha,List.map_take,List.map_drop]
 rw[e,a];exact Ap _
def asz(l:List Int)(n:Int)(H:l.length<=1000000)(F:vq l):bT au 126 [cX (e2 l),aj n] (cX (e2 (nY n l))):=by
 refine bI a1 Tryz.func126 ao0 fun K=>?_;unfold TD;simp;refine xd [0,1] (fun(k:Nat)=>[(5,aj k)]) (fun k=>k) (fun k=>k<=l.length/\∀c,l[k]? =some c->n<=c) l.length b9 ⟨Ω,fun c h=>by simp at h⟩ (fun k v _=>?_);obtain⟨ab,v⟩:=v;have B:(∀c,0<k->l[k-1]? =some c->c<n)->nY n l=if l[k]? =some n then l else l.take k++n::l.drop k:=fun h=>Xi n l k (fun i c hi aw=>by
  obtain⟨d,f⟩:∃d,l[k-1]? =some d:=⟨_,cl Ω⟩;have J:=h d Ω f;rcases Nat.lt_or_ge i (k-1)with U|U
  ·have w:=(fH.1 aw);have x:=(fH.1 f);have:=q4.1 F i (k-1) w.1 x.1 U;rw[w.2,x.2]at this;omega
  ·have:i=k-1:=Ω
   subst this;rw[f]at aw;cases aw;exact J) v ab
 have y:∀c,l[k]? =some c->∀h,((e2 l)[k]'h)=aj c:=fun c h u=>by have:=EH l k;rw[h,cl u]at this;exact e7 this
 have z:(0<k->∃d,l[k-1]? =some d/\d<n)->∀P:Prop,(nY n l=(if l[k]? =some n then l else l.take k++n::l.drop k)->P)->P:=fun h P G=>G (B fun c A aw=>by obtain⟨d,f,J⟩:=h A;rw[f]at aw;cases aw;exact J)
 rcases Nat.eq_zero_or_pos k with A|m
 ·have s:decide ((0:Int)<k)=false:=by simp;omega
  refine z (fun h=>Ω) _ fun e=>?_;by_cases a:k<l.length
  ·obtain⟨c,aw⟩:∃c,l[k]? =some c:=⟨_,cl a⟩;have t:=y c aw;rw[aw]at e;by_cases q:c=n
   ·have r:(c==n)=true:=by simp[q]
    rw[if_pos (by rw[q])]at e;rw[e];simp[s,a];((repeat' first|refine ao ?_|simp[s,a,t,r]|((first|apply ct|apply cz|apply cy)<;>intro h<;>try simp at h))<;>(try exact c3));all_goals simp[bZ,bc,bf,a6]
   ·have r:(c==n)=false:=by simp[q]
    rw[if_neg (by simp[q])]at e;rw[e];simp[s,a];((repeat' first|refine ao ?_|simp[s,a,t,r]|((first|apply ct|apply cz|apply cy)<;>intro h<;>try simp at h))<;>(try exact c3));all_goals simp[bZ,bc,bf,a6]
    all_goals exact Ij l n k
  ·rw[q3 Ω]at e;simp only[reduceCtorEq,if_false]at e;rw[e];simp[s,a];((repeat' first|refine ao ?_|simp[s,a]|((first|apply ct|apply cz|apply cy)<;>intro h<;>try simp at h))<;>(try exact c3));all_goals simp[bZ,bc,bf,a6]
   all_goals exact Ij l n k
 ·obtain⟨d,f⟩:∃d,l[k-1]? =some d:=⟨_,cl Ω⟩;have o:((k:Int)-1).toNat=k-1:=Ω
  have p:∀h,((e2 l)[k-1]'h)=aj d:=fun u=>by have:=EH l (k-1);rw[f,cl u]at this;exact e7 this
  have j:(0:Int)<k:=Ω
  have g:k-1<l.length:=Ω
  by_cases b:n<=d
  ·simp[m,j,o,p,b,g];(repeat' first|refine ao ?_|simp[m,j,o,p,b,g]);refine bY.whl (k-1) Ω ⟨Ω,fun c aw=>by rw[f]at aw;cases aw;exact b⟩ ?_;have E:((k-1:Nat):Int)=(k:Int)-1:=Ω
   simp[E];exact b9
  ·refine z (fun _=>⟨d,f,Ω⟩) _ fun e=>?_;by_cases a:k<l.length
   ·obtain⟨c,aw⟩:∃c,l[k]? =some c:=⟨_,cl a⟩;have t:=y c aw;rw[aw]at e;by_cases q:c=n
    ·have r:(c==n)=true:=by simp[q]
     rw[if_pos (by rw[q])]at e;rw[e];simp[m,j,o,p,b,g,a];((repeat' first|refine ao ?_|simp[m,j,o,p,b,g,a,t,r]|((first|apply ct|apply cz|apply cy)<;>intro h<;>try simp at h))<;>(try exact c3));all_goals simp[bZ,bc,bf,a6]
    ·have r:(c==n)=false:=by simp[q]
     rw[if_neg (by simp[q])]at e;rw[e];simp[m,j,o,p,b,g,a];(repeat' first|refine ao ?_|simp[m,j,o,p,b,g,a,t,r]);all_goals simp[bZ,bc,bf,a6]
     all_goals exact Ij l n k
   ·rw[q3 Ω]at e;simp only[reduceCtorEq,if_false]at e;rw[e];simp[m,j,o,p,b,g,a];(repeat' first|refine ao ?_|simp[m,j,o,p,b,g,a]);all_goals simp[bZ,bc,bf,a6]
    all_goals exact Ij l n k
def jz:T->List Int->List Int
 | .var n,l=>nY n l
 | .pair a b,l=>jz b (jz a l)
 |_,l=>l
def Q1:∀(t:T) {l:List Int},vq l->vq (jz t l)
 | .var _,_,h=>Xh h
 | .pair a b,_,h=>Q1 b (Q1 a h)
 | .nil,_,h=>h
 | .sym _,_,h=>h
 | .num _,_,h=>h
def IT{m:Int}:∀(t:T) {l:List Int},m∈jz t l↔t.occ m=true\/m∈l
 | .var n,l=>by simp only[jz,Oz,T.occ,ey];constructor<;>rintro(h|h)<;>first|exact .inr h|exact .inl h.symm
 | .pair a b,l=>by
  simp only[jz,IT b,IT a,T.occ,og];constructor
  ·rintro(h|h|h)
   ·exact .inl (.inr h)
   ·exact .inl (.inl h)
   ·exact .inr h
  ·rintro((h|h)|h)
   ·exact .inr (.inl h)
   ·exact .inl h
   ·exact .inr (.inr h)
 | .nil,l=>by simp[jz,T.occ]
 | .sym _,l=>by simp[jz,T.occ]
 | .num _,l=>by simp[jz,T.occ]
def Gb:∀(t:T) (l:List Int),(jz t l).length<=l.length+t.size
 | .var n,l=>by have:=Xj n l;simp only[jz,T.size];omega
 | .pair a b,l=>by have J:=Gb a l;have U:=Gb b (jz a l);simp only[jz,T.size];omega
 | .nil,l=>by simp[jz]
 | .sym _,l=>by simp[jz]
 | .num _,l=>by simp[jz]
def Kj:∀(t:T) (l:List Int),l.length+t.size<=1000000->vq l->bT au 58 [t.e,cX (e2 l)] (cX (e2 (jz t l)))
 | .var n,l,d,c=>by
  simp only[T.size]at d;have key:=asz l n Ω c;refine bI a1 Tryz.func58 Fj fun e=>?_;unfold AV;simp;(repeat' first|refine ao ?_|refine aO key ?_|refine aP key ?_|simp);all_goals simp[bZ,bc,bf,a6]
  all_goals simp[jz,Ap]
 | .pair a b,l,d,c=>by
  simp only[T.size]at d;have j:=Gb a l;have g:=Kj a l Ω c;have f:=Kj b (jz a l) Ω (Q1 a c);refine bI a1 Tryz.func58 Fj fun e=>?_;unfold AV;simp;refine eZ [15,16] (fun i (_:Unit)=>[(1,cX (e2 (if i=0 then l else if i=1 then jz a l else jz b (jz a l)))),(17,aj i)]) 2 (fun _ _=>True) () b9 trivial (fun _ _ _=>?_) (fun i _ hi _ _=>?_)
  ·simp;(repeat' first|refine ao ?_|simp);simp[bZ,bc,bf,a6];simp[jz,Ap]
  ·rcases(by omega:i=0\/i=1)with rfl|rfl
   ·simp;((repeat' first|refine ao ?_|refine aO g ?_|refine aP g ?_|simp|((first|apply ct|apply cz|apply cy)<;>intro h<;>try simp at h))<;>(try exact c3));exact bY.rng () hi trivial b9
   ·simp;((repeat' first|refine ao ?_|refine aO f ?_|refine aP f ?_|simp|((first|apply ct|apply cz|apply cy)<;>intro h<;>try simp at h))<;>(try exact c3));exact bY.rng () hi trivial b9
 | .nil,l,d,c=>by refine bI a1 Tryz.func58 Fj fun e=>?_;unfold AV;simp;refine eZ [15,16] (fun i (_:Unit)=>[(1,cX (e2 l)),(17,aj i)]) 0 (fun _ _=>True) () b9 trivial (fun _ _ _=>?_) (fun i _ hi _ _=>Ω);simp;((repeat' first|refine ao ?_|simp|((first|apply ct|apply cz|apply cy)<;>intro h<;>try simp at h))<;>(try exact c3));simp[bZ,bc,bf,a6];simp[jz,Ap]
 | .sym _,l,d,c=>by refine bI a1 Tryz.func58 Fj fun e=>?_;unfold AV;simp;refine eZ [15,16] (fun i (_:Unit)=>[(1,cX (e2 l)),(17,aj i)]) 0 (fun _ _=>True) () b9 trivial (fun _ _ _=>?_) (fun i _ hi _ _=>Ω);simp;(repeat' first|refine ao ?_|simp);simp[bZ,bc,bf,a6];simp[jz,Ap]
 | .num _,l,d,c=>by refine bI a1 Tryz.func58 Fj fun e=>?_;unfold AV;simp;refine eZ [15,16] (fun i (_:Unit)=>[(1,cX (e2 l)),(17,aj i)]) 0 (fun _ _=>True) () b9 trivial (fun _ _ _=>?_) (fun i _ hi _ _=>Ω);simp;(repeat' first|refine ao ?_|simp);simp[bZ,bc,bf,a6];simp[jz,Ap]
def alU(s:List cJ)(a b:T)(i:Nat)(_:Unit):Prop:=(1<=i->a.has s=false)/\(2<=i->b.has s=false)
def QX(s:List cJ):∀t:T,bT au 210 [t.e,.str s] (.bool (t.has s))
 | .pair a b=>by
  have e:=QX s a;have d:=QX s b;refine bI a1 Tryz.func210 Fk fun j=>?_;unfold AW;simp;refine eZ [1,2,8,9] (fun i (_:Unit)=>[(10,aj i)]) 2 (alU s a b) () b9 ⟨fun h=>Ω,fun h=>Ω⟩ (fun _ c _=>?_) (fun i _ hi c _=>?_)
  ·simp;(repeat' first|refine ao ?_|simp);simp[bZ,bc,bf,a6];simp[T.has,c.1,c.2]
  ·rcases(by omega:i=0\/i=1)with rfl|rfl
   ·cases f:a.has s
    ·rw[f]at e;simp;((repeat' first|refine ao ?_|refine aO e ?_|refine aP e ?_|simp|((first|apply ct|apply cz|apply cy)<;>intro h<;>try simp at h))<;>(try exact c3));exact bY.rng () hi ⟨fun _=>f,fun h=>Ω⟩ b9
    ·rw[f]at e;simp;((repeat' first|refine ao ?_|refine aO e ?_|refine aP e ?_|simp|((first|apply ct|apply cz|apply cy)<;>intro h<;>try simp at h))<;>(try exact c3));simp[bZ,bc,bf,a6];simp[T.has,f]
   ·cases g:b.has s
    ·rw[g]at d;simp;((repeat' first|refine ao ?_|refine aO d ?_|refine aP d ?_|simp|((first|apply ct|apply cz|apply cy)<;>intro h<;>try simp at h))<;>(try exact c3));exact bY.rng () hi ⟨fun _=>c.1 Ω,fun _=>g⟩ b9
    ·rw[g]at d;simp;((repeat' first|refine ao ?_|refine aO d ?_|refine aP d ?_|simp|((first|apply ct|apply cz|apply cy)<;>intro h<;>try simp at h))<;>(try exact c3));simp[bZ,bc,bf,a6];simp[T.has,g]
 | .sym n=>by
  refine bI a1 Tryz.func210 Fk fun j=>?_;unfold AW;simp;refine eZ [1,2,8,9] (fun i (_:Unit)=>[(10,aj i)]) 0 (fun i _=>True) () b9 trivial (fun _ c _=>?_) (fun i _ hi c _=>Ω);simp;(repeat' first|refine ao ?_|simp);all_goals simp[bZ,bc,bf,a6]
  all_goals simp[T.has]
 | .num n=>by
  refine bI a1 Tryz.func210 Fk fun j=>?_;unfold AW;simp;refine eZ [1,2,8,9] (fun i (_:Unit)=>[(10,aj i)]) 0 (fun i _=>True) () b9 trivial (fun _ c _=>?_) (fun i _ hi c _=>Ω);simp;(repeat' first|refine ao ?_|simp);all_goals simp[bZ,bc,bf,a6]
  all_goals simp[T.has]
 | .var n=>by
  refine bI a1 Tryz.func210 Fk fun j=>?_;unfold AW;simp;refine eZ [1,2,8,9] (fun i (_:Unit)=>[(10,aj i)]) 0 (fun i _=>True) () b9 trivial (fun _ c _=>?_) (fun i _ hi c _=>Ω);simp;(repeat' first|refine ao ?_|simp);all_goals simp[bZ,bc,bf,a6]
  all_goals simp[T.has]
 | .nil=>by
  refine bI a1 Tryz.func210 Fk fun j=>?_;unfold AW;simp;refine eZ [1,2,8,9] (fun i (_:Unit)=>[(10,aj i)]) 0 (fun i _=>True) () b9 trivial (fun _ c _=>?_) (fun i _ hi c _=>Ω);simp;(repeat' first|refine ao ?_|simp);all_goals simp[bZ,bc,bf,a6]
  all_goals simp[T.has]
def p4(l:List bJ)(o:be (List bJ)):af:= .tuple [b5 ((o.getD l).map bJ.e),.bool o.isSome]
@[simp]def awh(S:aB->Prop)(l:List bJ)(o:be (List bJ)):az S (p4 l o)=True:=by simp[p4]
def xQ(l:List bJ)(n:Int)(i:Nat):Prop:=i<=l.length/\∀j y,j<i->l[j]? =some y->y.v<n
def xQ.none{l:List bJ}{n:Int}{i:Nat}(h:xQ l n i)(d:l.Pairwise fun x y=>x.v<y.v)(aw:∀c,l[i]? =some c->n<c.v):nx l n=none:=ET.2 fun x f=>by
 obtain⟨j,a,rfl⟩:=pA f;have e:=cl a;rcases Nat.lt_or_ge j i with J|J
 ·have:=h.2 j _ J e;omega
 ·have b:i<l.length:=Ω
  have g:=cl b;have k:=aw _ g;rcases Nat.lt_or_ge i j with U|U
  ·have:=q4.1 d i j b a U;omega
  ·obtain rfl:i=j:=Ω
   omega
def xQ.ins{l:List bJ}{n k:Int}{i:Nat}(h:xQ l n i)(aw:∀c,l[i]? =some c->n<c.v):nu ⟨n,k⟩ l=l.take i++⟨n,k⟩::l.drop i:=Xk ⟨n,k⟩ l i (fun j y J U=>h.2 j y J U) (fun y a=>by have:=aw y a;simp;omega) h.1
def xQ.step{l:List bJ}{n:Int}{i:Nat}{b:bJ}(h:xQ l n i)(a:l[i]? =some b)(d:b.v<n):xQ l n (i+1):=⟨(fH.1 a).1,fun j y J U=>by
 rcases(by omega:j<i\/j=i)with c|rfl
 ·exact h.2 j y c U
 ·rw[a]at U;cases U;exact d⟩
def asP(l:List bJ)(r:l.length<=1000000)(f:l.Pairwise fun x y=>x.v<y.v)(n k:Int):bT au 151 [b5 (l.map bJ.e),(T.var n).e,aj k] (p4 l (k6 l (.var n) k)):=by
 generalize o:k6 l (.var n) k=O;have a:(match nx l n with|some bs=>if bs=k then some l else none|none=>some (nu ⟨n,k⟩ l))=O:=by rw[<-o];rfl
 clear o;refine bI a1 Tryz.func151 Fl fun s=>?_;unfold AX;simp;refine xd [0,2,4] (fun(i:Nat)=>[(8,aj i)]) (fun i=>l.length-i) (xQ l n) 0 b9 ⟨Ω,fun j y h=>Ω⟩ (fun i d _=>?_);have ab:=d.1;by_cases hi:i<l.length
 ·obtain⟨b,m,g⟩:=eW hi;rcases Int.lt_trichotomy b.v n with h|h|h
  ·have p:=d.step m h;clear a d m f;simp[hi,g,h];((repeat' first|refine ao ?_|simp[hi,g,h]|((first|apply ct|apply cz|apply cy)<;>intro h<;>try simp at h))<;>(try exact c3));exact bY.whl (i+1) Ω p b9
  ·have a7:nx l n=some b.k:=by rw[<-h];exact N0 f (ft m)
   have J:¬b.v<n:=Ω
   have U:(b.v==n)=true:=by simp[h]
   rw[a7]at a;simp only at a;subst a;clear d m f a7;simp[hi,g,J,U];(repeat' first|refine ao ?_|simp[hi,g,J,U]);all_goals simp[bZ,bc,bf,a6]
   all_goals(by_cases e:b.k=k<;>simp[p4,e])
  ·have J:¬b.v<n:=Ω
   have U:(b.v==n)=false:=by simp;omega
   have aw:∀c,l[i]? =some c->n<c.v:=fun c aw=>by rw[m]at aw;cases aw;exact h
   rw[d.none f aw]at a;simp only[d.ins aw]at a;subst a;clear d m f aw;simp[hi,g,J,U];(repeat' first|refine ao ?_|simp[hi,g,J,U]);all_goals simp[bZ,bc,bf,a6]
   all_goals simp[p4]
   rw[ix (by simp:(l.map bJ.e).length<=l.length),<-List.map_take,<-List.map_drop,<-ha,<-List.map_append];exact Qu _
 ·have aw:∀c,l[i]? =some c->n<c.v:=fun c aw=>by rw[q3 Ω]at aw;cases aw
  rw[d.none f aw]at a;simp only[d.ins aw]at a;have q:i=l.length:=Ω
  clear d f aw;subst a;subst q;simp;(repeat' first|refine ao ?_|simp);all_goals simp[bZ,bc,bf,a6]
  all_goals simp[p4]
  rw[ix (by simp:(l.map bJ.e).length<=l.length),show [(⟨n,k⟩:bJ).e]=[(⟨n,k⟩:bJ)].map bJ.e from rfl,<-List.map_append];exact Qu _
def acM(l:List bJ)(f:l.length<=1000000)(d:l.Pairwise fun x y=>x.v<y.v)(t:T)(k:Int):bT au 151 [b5 (l.map bJ.e),t.e,aj k] (p4 l (k6 l t k)):=by
 cases t with
 |var n=>exact asP l f d n k
 |nil=>
  refine bI a1 Tryz.func151 Fl fun c=>?_;unfold AX;simp;(repeat' first|refine ao ?_|simp);all_goals simp[bZ,bc,bf,a6]
  all_goals(by_cases e:0=k<;>simp[p4,k6,e])
 |sym n=>
  refine bI a1 Tryz.func151 Fl fun c=>?_;unfold AX;simp;(repeat' first|refine ao ?_|simp);all_goals simp[bZ,bc,bf,a6]
  all_goals(by_cases e:2=k<;>simp[p4,k6,e])
 |num n=>
  refine bI a1 Tryz.func151 Fl fun c=>?_;unfold AX;simp;(repeat' first|refine ao ?_|simp);all_goals simp[bZ,bc,bf,a6]
  all_goals(by_cases e:3=k<;>simp[p4,k6,e])
 |pair a b=>
  refine bI a1 Tryz.func151 Fl fun c=>?_;unfold AX;simp;(repeat' first|refine ao ?_|simp);all_goals simp[bZ,bc,bf,a6]
  all_goals(by_cases e:4=k<;>simp[p4,k6,e])
def ac3(s:List Bd)(v:Int):il s (.var v)=cC s v:=rfl
def QY{s:List Bd}(m:fp s){l:List bJ}(k:jR l):bT au 149 [bL (s.map Bd.e),b5 (l.map bJ.e)] (qS (gU s l [])):=by
 have o:=tB k;refine bI a1 Tryz.func149 apj fun p=>?_;unfold TV;simp;refine eZ [0,11,12] (fun i (a:List bJ)=>[(6,b5 (a.map bJ.e)),(13,aj i)]) l.length (Xp s l) [] b9 ⟨⟨Ψ,Ψ⟩,rfl⟩ (fun a c _=>?_) (fun i a hi c _=>?_)
 ·obtain⟨_,c⟩:=c;rw[List.drop_length]at c;simp only[gU]at c;rw[<-c];simp;(repeat' first|refine ao ?_|simp);simp[bZ,bc,bf,a6];simp[qS]
 ·obtain⟨h,c⟩:=c;obtain⟨b,n,f⟩:=eW hi;have j:=k.at' b (ft n);rw[lH hi,f]at c;simp only[gU]at c;have e:=Kl s m.len (.var b.v);rw[ac3]at e;have d:=acM a (by have:=tB h;omega) h.asc (cC s b.v) b.k;simp[hi,f];cases g:k6 a (cC s b.v) b.k with
  |none=>rw[g]at c d;simp only at c;rw[<-c];simp only[p4]at d;(repeat' first|refine ao ?_|refine aO (k4 _) ?_|refine aP (k4 _) ?_|refine aO e ?_|refine aP e ?_|refine aO d ?_|refine aP d ?_|simp[f,hi]);simp[bZ,bc,bf,a6];simp[qS]
  |some br=>rw[g]at c d;simp only[p4]at d;(repeat' first|refine ao ?_|refine aO (k4 _) ?_|refine aP (k4 _) ?_|refine aO e ?_|refine aP e ?_|refine aO d ?_|refine aP d ?_|simp[f,hi]);exact bY.rng br hi ⟨KN h (CR m j.1) j.2 g,c⟩ b9
open Classical in
def as6(l:List bn):bT au 79 [b5 (l.map bn.e)] (.bool (decide (iv l))):=by
 generalize bt:decide (iv l)=R;refine bI a1 Tryz.func79 aoU fun y=>?_;unfold Tx;have A:l.length<=68719476736:=by simp[eI,eN,eJ,lim]at y;omega
 simp;refine eZ [0,5,6] (fun i (_:Unit)=>[(7,aj i)]) l.length (fun i _=> ∀j,j<i->jh kZ lx l j) () b9 (fun k ab=>Ω) (fun _ s _=>?_) (fun i _ hi s _=>?_)
 ·have:R=true:=by rw[<-bt,gz,IM];exact s
  rw[this];exact cn
 ·obtain⟨b,n⟩:∃b,l[i]? =some b:=⟨_,cl hi⟩;obtain⟨c,aw⟩:∃c,l[i-1]? =some c:=⟨_,cl Ω⟩;have d:∀h,(l[i]'h)=b:=fun h=>by rw[cl hi]at n;exact e7 n
  have v:¬jh kZ lx l i->R=false:=fun h=>by rw[<-bt,iR];exact fun w=>h (IM.1 w i hi)
  have dy:jh kZ lx l i->∀j,j<i+1->jh kZ lx l j:=fun h j z=>by
   by_cases e:j=i
   ·rw[e];exact h
   ·exact s j Ω
  have m:∀p:Prop,(p->er)->(jh kZ lx l i->p)->R=false:=fun p J U=>v fun h=>J (U h);have g:jh kZ lx l i->kZ b:=fun h=>(h b n).1;have x:jh kZ lx l i->0<i->iP gf c b=true:=fun h r=>by simpa[iP,lx]using(h b n).2 c r aw
  have q:kZ b->(0<i->iP gf c b=true)->jh kZ lx l i:=fun J U b2 u=>by rw[n]at u;cases u;exact⟨J,fun B r t=>by rw[aw]at t;cases t;simpa[iP,lx]using U r⟩
  unfold kZ at g q;by_cases g4:0<i
  ·cases g5:iP gf c b
   ·rw[m _ (fun h=>by rw[h]at g5;cases g5) (fun h=>x h g4)];simp[hi,d,aw];(repeat' first|refine ao ?_|refine aO (mW _ _) ?_|refine aP (mW _ _) ?_|simp[d,aw,hi,g4,g5]);all_goals simp[bZ,bc,bf,a6]
   ·by_cases g1:0<=b.v/\b.v<=100000;rotate_left
    ·rw[m _ (fun h=>g1 h) (fun h=>(g h).1)];have f:decide (0<=b.v/\b.v<=100000)=false:=by simp only[iR];exact g1
     simp[hi,d,aw];(repeat' first|refine ao ?_|refine aO (mW _ _) ?_|refine aP (mW _ _) ?_|refine aO (dS _ _ _) ?_|refine aP (dS _ _ _) ?_|simp[d,aw,hi,g4,g5,f,g1]);all_goals simp[bZ,bc,bf,a6]
    have f:decide (0<=b.v/\b.v<=100000)=true:=by simp only[gz];exact g1
    cases g3:ib b.s
    ·rw[m _ (fun h=>by rw[h]at g3;cases g3) (fun h=>(g h).2)];have a:=hE b.s;rw[g3]at a;simp[hi,d,aw];(repeat' first|refine ao ?_|refine aO (mW _ _) ?_|refine aP (mW _ _) ?_|refine aO (dS _ _ _) ?_|refine aP (dS _ _ _) ?_|refine aO a ?_|refine aP a ?_|simp[d,aw,hi,g4,g5,f,g1]);all_goals simp[bZ,bc,bf,a6]
    have a:=hE b.s;rw[g3]at a;have o:=dy (q ⟨g1,g3⟩ fun _=>g5);simp[hi,d,aw];(repeat' first|refine ao ?_|refine aO (mW _ _) ?_|refine aP (mW _ _) ?_|refine aO (dS _ _ _) ?_|refine aP (dS _ _ _) ?_|refine aO a ?_|refine aP a ?_|simp[d,aw,hi,g4,g5,f,g1]);all_goals exact bY.rng () hi o b9
  ·obtain rfl:i=0:=Ω
   by_cases g1:0<=b.v/\b.v<=100000;rotate_left
   ·rw[m _ (fun h=>g1 h) (fun h=>(g h).1)];have f:decide (0<=b.v/\b.v<=100000)=false:=by simp only[iR];exact g1
    simp[hi,d,aw];(repeat' first|refine ao ?_|refine aO (mW _ _) ?_|refine aP (mW _ _) ?_|refine aO (dS _ _ _) ?_|refine aP (dS _ _ _) ?_|simp[d,aw,hi,g4,f,g1]);all_goals simp[bZ,bc,bf,a6]
   have f:decide (0<=b.v/\b.v<=100000)=true:=by simp only[gz];exact g1
   cases g3:ib b.s
   ·rw[m _ (fun h=>by rw[h]at g3;cases g3) (fun h=>(g h).2)];have a:=hE b.s;rw[g3]at a;simp[hi,d,aw];(repeat' first|refine ao ?_|refine aO (mW _ _) ?_|refine aP (mW _ _) ?_|refine aO (dS _ _ _) ?_|refine aP (dS _ _ _) ?_|refine aO a ?_|refine aP a ?_|simp[d,aw,hi,g4,f,g1]);all_goals simp[bZ,bc,bf,a6]
   have a:=hE b.s;rw[g3]at a;have o:=dy (q ⟨g1,g3⟩ fun h=>absurd h g4);simp[hi,d,aw];(repeat' first|refine ao ?_|refine aO (mW _ _) ?_|refine aP (mW _ _) ?_|refine aO (dS _ _ _) ?_|refine aP (dS _ _ _) ?_|refine aO a ?_|refine aP a ?_|simp[d,aw,hi,g4,f,g1]);all_goals exact bY.rng () hi o b9
def qu(s:List cJ)(bm:List Int)(l:List bn):List bn:=bm.foldl (fun a v=>kX gf ⟨v,s⟩ a) l
def Mk(s:List cJ):∀(bm:List Int) {l:List bn},iS gf l->iS gf (qu s bm l)
 |[],_,h=>h
 |v::bm,_,h=>Mk s bm (NL mR h)
def Yx(s:List cJ){x:bn}:∀(bm:List Int) {l:List bn},x∈qu s bm l↔x∈l\/(x.s=s/\x.v∈bm)
 |[],l=>by simp[qu]
 |v::bm,l=>by
  have:=Yx s (x:=x) bm (l:=kX gf ⟨v,s⟩ l);rw[show qu s (v::bm) l=qu s bm (kX gf ⟨v,s⟩ l)from rfl,this,IQ mR,gJ];constructor
  ·rintro((rfl|h)|⟨J,U⟩)
   ·exact .inr ⟨rfl,.inl rfl⟩
   ·exact .inl h
   ·exact .inr ⟨J,.inr U⟩
  ·rintro(h|⟨J,U|U⟩)
   ·exact .inl (.inr h)
   ·refine .inl (.inl ?_);cases x;simp_all
   ·exact .inr ⟨J,U⟩
def Vr(s:List cJ):∀(bm:List Int) (l:List bn),(qu s bm l).length<=l.length+bm.length
 |[],l=>by simp[qu]
 |v::bm,l=>by have J:=Vr s bm (kX gf ⟨v,s⟩ l);have U:=NN (c:=gf) (⟨v,s⟩:bn) l;rw[show qu s (v::bm) l=qu s bm (kX gf ⟨v,s⟩ l)from rfl];simp only[mw];omega
def aiv{t:T}{s:List cJ}(a:t.has s=false){l:List bn}(b:iS gf l):ko l t s=some (qu s (jz t []) l):=KO a (Mk s _ b) fun x=>by rw[Yx,IT];simp
def EL(l:List bn)(bm:List Int)(s:List cJ)(i:Nat)(a:List bn):Prop:=a=qu s (bm.take i) l
def BR(a:List bn)(m:bn)(k:Nat):Prop:=k<=a.length/\∀j y,j<k->a[j]? =some y->gf y m<0
def BR.step{a:List bn}{m:bn}{k:Nat}{b:bn}(h:BR a m k)(c:a[k]? =some b)(e:gf b m<0):BR a m (k+1):=⟨(fH.1 c).1,fun j y J U=>by
 rcases(by omega:j<k\/j=k)with d|rfl
 ·exact h.2 j y d U
 ·rw[c]at U;cases U;exact e⟩
def BR.fin{a:List bn}{m:bn}{k:Nat}(h:BR a m k)(aw:∀y,a[k]? =some y->0<=gf y m):kX gf m a=if(match a[k]? with|some y=>decide (gf y m=0)|none=>false)=true then a else a.take k++m::a.drop k:=(NM mR m a k (fun j y J U=>h.2 j y J U) aw h.1).trans (by cases a[k]?<;>rfl)
def YL(a:List bn)(k:Nat)(m:bn):mX k (a.map bn.e)++m.e::oV k (a.map bn.e)=(a.take k++m::a.drop k).map bn.e:=Ψ
def Ce(a:List bn)(k:Nat)(m:bn):cf (mX k (a.map bn.e)++m.e::oV k (a.map bn.e))=mX k (a.map bn.e)++m.e::oV k (a.map bn.e):=by rw[YL,Qv]
def Cd(S:aB->Prop)(a:List bn)(k:Nat)(m:bn):aH S (mX k (a.map bn.e)++m.e::oV k (a.map bn.e))=True:=by rw[YL,XW]
def YI(a:List bn)(m:bn):a.map bn.e++[m.e]=(a++[m]).map bn.e:=Ψ
def Cc(a:List bn)(m:bn):cf (a.map bn.e++[m.e])=a.map bn.e++[m.e]:=by rw[YI,Qv]
def Cb(S:aB->Prop)(a:List bn)(m:bn):aH S (a.map bn.e++[m.e])=True:=by rw[YI,XW]
def acN(l:List bn)(W:l.length<=68719470000)(t:T)(X:t.size<=5000)(s:List cJ)(J:iS gf l):bT au 181 [b5 (l.map bn.e),t.e,.str s] (iX (ko l t s)):=by
 have g:=QX s t;cases p:t.has s;rotate_left
 ·have r:ko l t s=none:=by simp[ko,p]
  rw[r];rw[p]at g;refine bI a1 Tryz.func181 ZE fun R=>?_;unfold Ly;simp;(repeat' first|refine ao ?_|refine aO g ?_|refine aP g ?_|simp);all_goals simp[bZ,bc,bf,a6]
  all_goals simp[iX]
 ·rw[p]at g;have H:=aiv p J;have E:=Gb t [];have x:=Kj t [] d6 (by simp[vq]);have S:e2 []=[]:=rfl;rw[S]at x;rw[H];clear H p;generalize jz t []=bm at x E⊢;have V:bm.length<=5000:=by simp at E;omega
  generalize G:qu s bm l=F;refine bI a1 Tryz.func181 ZE fun R=>?_;unfold Ly;simp;(repeat' first|refine ao ?_|refine aO g ?_|refine aP g ?_|refine aO x ?_|refine aP x ?_|simp[fO]);refine eZ [2,17,18] (fun i (a:List bn)=>[(0,b5 (a.map bn.e)),(19,aj i)]) bm.length (EL l bm s) l ⟨by simp[fresh,aH,az,cd,aM,ae,fO],eo (by simp[fresh,aH,az,cd,aM,ae,fO]),ep (by simp[fresh,aH,az,dV,aM,ae,fO]),Ψ⟩ (by simp[EL,qu]) (fun a c _=>?_) (fun i a hi c _=>?_)
  ·rw[EL,jC,G]at c;subst c;simp[fO];(repeat' first|refine ao ?_|simp[fO]);all_goals simp[bZ,bc,bf,a6]
   all_goals simp[iX]
  ·obtain⟨v,K⟩:∃v,bm[i]? =some v:=⟨_,cl hi⟩;have B:∀h,((e2 bm)[i]'h)=aj v:=fun P=>by have:=EH bm i;rw[K,cl P]at this;exact e7 this
   have w:iS gf a:=by rw[c];exact Mk s _ J
   have N:a.length<=68719475000:=by have:=Vr s (bm.take i) l;rw[c];simp at this⊢;omega
   have e:EL l bm s (i+1) (kX gf ⟨v,s⟩ a):=by rw[EL,List.take_succ,K,c];simp[qu]
   generalize hm:(⟨v,s⟩:bn)=m at e;have A:m.v=v:=by rw[<-hm]
   have U:m.s=s:=by rw[<-hm]
   subst A;subst U;clear c G;simp[hi,B,fO];(repeat' first|refine ao ?_|simp[hi,B,fO]);refine xd [0,2,10,17,18,19] (fun(k:Nat)=>[(11,aj k)]) (fun k=>a.length-k) (BR a m) 0 ⟨by simp[fresh,aH,az,cd,aM,ae,fO],eo (by simp[fresh,aH,az,cd,aM,ae,fO]),ep (by simp[fresh,aH,az,dV,aM,ae,fO]),Ψ⟩ ⟨Ω,fun j y h=>Ω⟩ (fun k c _=>?_);have ab:=c.1;by_cases f:k<a.length
   ·obtain⟨b,o,n⟩:=eW f;cases q:iP gf b m
    ·have M:0<=gf b m:=by simpa[iP]using q
     have d:=c.fin (fun y u=>by rw[o]at u;cases u;exact M);rw[o]at d;cases z:iP gf m b
     ·have hle:0<=gf m b:=by simpa[iP]using z
      have r:gf b m=0:=by have:=mR.neg b m;omega
      rw[if_pos (by simp[r])]at d;rw[d]at e;clear c o d N w;simp[f,n];((repeat' first|refine ao ?_|refine aO (mW _ _) ?_|refine aP (mW _ _) ?_|simp[f,n,q,z]|((first|apply ct|apply cz|apply cy)<;>intro h<;>try simp at h))<;>(try exact c3));all_goals exact bY.rng a hi e ⟨by simp[fresh,aH,az,cd,aM,ae,fO],eo (by simp[fresh,aH,az,cd,aM,ae,fO]),ep (by simp[fresh,aH,az,dV,aM,ae,fO]),Ψ⟩
     ·have hle:gf m b<0:=by simpa[iP]using z
      have r:¬gf b m=0:=by have:=mR.neg b m;omega
      rw[if_neg (by simp[r])]at d;rw[d]at e;clear c o d w;simp[f,n];((repeat' first|refine ao ?_|refine aO (mW _ _) ?_|refine aP (mW _ _) ?_|simp[f,n,q,z]|((first|apply ct|apply cz|apply cy)<;>intro h<;>try simp at h))<;>(try exact c3));all_goals try refine⟨by unfold lim;omega,?_⟩
      all_goals(repeat' first|refine ao ?_|simp)
      all_goals try refine⟨by unfold lim;omega,?_⟩
      all_goals((repeat' first|refine ao ?_|simp|((first|apply ct|apply cz|apply cy)<;>intro h<;>try simp at h))<;>(try exact c3))
      all_goals exact bY.rng _ hi e ⟨by simp[fresh,aH,az,cd,aM,ae,fO,ix,Ce,Cd,Cc,Cb],eo (by simp[fresh,aH,az,cd,aM,ae,fO,ix,Ce,Cd,Cc,Cb]),ep (by simp[fresh,aH,az,dV,aM,ae,fO,ix,Ce,Cd,Cc,Cb]),Ψ⟩
    ·have L:gf b m<0:=by simpa[iP]using q
     have Q:=c.step o L;clear c o w e;simp[f,n];((repeat' first|refine ao ?_|refine aO (mW _ _) ?_|refine aP (mW _ _) ?_|simp[f,n,q]|((first|apply ct|apply cz|apply cy)<;>intro h<;>try simp at h))<;>(try exact c3));all_goals exact bY.whl (k+1) Ω Q ⟨by simp[fresh,aH,az,cd,aM,ae,fO],eo (by simp[fresh,aH,az,cd,aM,ae,fO]),ep (by simp[fresh,aH,az,dV,aM,ae,fO]),Ψ⟩
   ·have d:=c.fin (fun y u=>by rw[q3 Ω]at u;cases u);rw[q3 Ω]at d;simp only[hT,if_false]at d;rw[d]at e;have O:k=a.length:=Ω
    clear c d w;subst O;simp;(repeat' first|refine ao ?_|simp);all_goals try refine⟨by unfold lim;omega,?_⟩
    all_goals(repeat' first|refine ao ?_|simp)
    all_goals try refine⟨by unfold lim;omega,?_⟩
    all_goals(repeat' first|refine ao ?_|simp)
    all_goals exact bY.rng _ hi e ⟨by simp[fresh,aH,az,cd,aM,ae,fO,ix,Ce,Cd,Cc,Cb],eo (by simp[fresh,aH,az,cd,aM,ae,fO,ix,Ce,Cd,Cc,Cb]),ep (by simp[fresh,aH,az,dV,aM,ae,fO,ix,Ce,Cd,Cc,Cb]),Ψ⟩
def QZ{s:List Bd}(j:fp s){l:List bn}(m:iv l){G:List (List cJ)}(t:G.length<=687000)(a7:oe G l):bT au 150 [bL (s.map Bd.e),b5 (l.map bn.e)] (iX (gZ s l [])):=by
 have hlen:∀{a:List bn},iv a->oe G a->a.length<=68719470000:=fun J U=>by have:=E1 J U;omega
 have r:=hlen m a7;refine bI a1 Tryz.func150 apk fun u=>?_;unfold TW;simp;refine eZ [0,11,12] (fun i (a:List bn)=>[(6,b5 (a.map bn.e)),(13,aj i)]) l.length (Xq s G l) [] b9 ⟨⟨Ψ,by simp[iS]⟩,fun x p=>by simp at p,rfl⟩ (fun a c _=>?_) (fun i a hi c _=>?_)
 ·obtain⟨_,_,c⟩:=c;rw[List.drop_length]at c;simp only[gZ]at c;rw[<-c];simp;(repeat' first|refine ao ?_|simp);simp[bZ,bc,bf,a6];simp[iX]
 ·obtain⟨h,o,c⟩:=c;obtain⟨b,n,g⟩:=eW hi;have k:=m.at' b (ft n);have q:=a7 b (ft n);rw[lH hi,g]at c;simp only[gZ]at c;have e:=Kl s j.len (.var b.v);rw[ac3]at e;have d:=acN a (hlen h o) (cC s b.v) (FP j b.v) b.s h.asc;simp[hi,g];cases f:ko a (cC s b.v) b.s with
  |none=>rw[f]at c d;simp only at c;rw[<-c];simp only[iX]at d;(repeat' first|refine ao ?_|refine aO (k4 _) ?_|refine aP (k4 _) ?_|refine aO e ?_|refine aP e ?_|refine aO d ?_|refine aP d ?_|simp[g,hi]);simp[bZ,bc,bf,a6];simp[iX]
  |some br=>rw[f]at c d;simp only[iX]at d;(repeat' first|refine ao ?_|refine aO (k4 _) ?_|refine aP (k4 _) ?_|refine aO e ?_|refine aP e ?_|refine aO d ?_|refine aP d ?_|simp[g,hi]);exact bY.rng br hi ⟨Gz h (CR j k.1) k.2 f,GA o q f,c⟩ b9
def arD{s:List Bd}(ar:rI s)(b:jD s)(c:iy s):hC (s.map Bd.b)=s.all (nJ s):=by
 rw[q2,j7,sF,<-abH b];constructor
 ·rintro⟨d,J,U,a,e⟩;rw[wY J];exact a
 ·intro a;exact⟨s,rfl,ar,a,c⟩
def ad7{s:List Bd}(a:jD s)(b:Bd):nJ s b=true↔(∀v∈jz b.t [],dG s v=none)/\(b.t.kind==1&&decide (b.v<=b.t.int))=false:=by unfold nJ;rw[cR,Vs a];simp only[true_and,sN,IT,List.not_mem_nil,or_false]
def EK(s:List Bd)(bm:List Int)(i:Nat)(_:Unit):Prop:= ∀v∈bm.take i,dG s v=none
def EK.step{s:List Bd}{bm:List Int}{i:Nat}(h:EK s bm i ()){v:Int}(a:bm[i]? =some v)(b:dG s v=none):EK s bm (i+1) ():=fun w hw=>by
 rw[List.take_succ,a]at hw;simp only[kg,Option.toList_some,List.mem_singleton]at hw;rcases hw with hw|rfl
 ·exact h w hw
 ·exact b
def Q0(l:List Bt):bT au 76 [bL (l.map Bt.e)] (.bool (hC l)):=by
 have a:=asE l;by_cases h:AH l;rotate_left
 ·have G:hC l=false:=by unfold hC;simp only[iR];rintro⟨s,J,U,H,K⟩;exact h (Kp.2 ⟨s,J,U,H.asc,K⟩)
  rw[G];refine bI a1 Tryz.func76 ZD fun L=>?_;unfold Lx;exact cn
 ·obtain⟨s,rfl,ar,E,z⟩:=Kp.1 h;have F:s.length<=1000000:=by have:=z.1;omega
  rw[arD ar E z];rw[zN]at a⊢;simp only[h,decide_true]at a;clear h;generalize bt:s.all (nJ s)=R;refine bI a1 Tryz.func76 ZD fun L=>?_;unfold Lx;simp;(repeat' first|refine ao ?_|refine aO a ?_|refine aP a ?_|simp);refine eZ [0,12,13] (fun i (_:Unit)=>[(14,aj i)]) s.length (qK (nJ s) s) () b9 (fun k b ab=>Ω) (fun _ d _=>?_) (fun i _ hi d _=>?_)
  ·have:R=true:=by rw[<-bt,j7];intro b r;obtain⟨k,ab,e⟩:=pA r;exact d k b ab (by rw[cl ab,e])
   rw[this];exact cn
  ·obtain⟨b,r,y⟩:=eW hi;have m:¬nJ s b=true->R=false:=fun h=>by rw[<-bt,Bool.eq_false_iff];intro q;rw[j7]at q;exact h (q b (ft r))
   have n:nJ s b=true->qK (nJ s) s (i+1) ():=fun h=>d.step r h;have u:=ad7 E b;have O:=z.2 b (ft r);have w:=Gb b.t [];have p:=Kj b.t [] d6 (by simp[vq]);have M:e2 []=[]:=rfl;rw[M]at p;generalize jz b.t []=bm at p w u;have N:bm.length<=5000:=by simp at w;omega
   rw[u]at m n;clear u d w r;simp[hi,y];cases ab:(b.t.kind==1&&decide (b.v<=b.t.int));rotate_left
   ·rw[m (by rw[ab];simp)];rw[cR]at ab;have t:=ab.1;have B:b.v<=b.t.int:=of_decide_eq_true ab.2;exact cn
   ·rw[ab]at m n;simp only[jf]at m n;cases t:(b.t.kind==1)
    ·clear ab;(repeat' first|refine ao ?_|refine aO p ?_|refine aP p ?_|simp[y,hi,fO,t]);refine eZ [0,12,13,14,32,33] (fun j (_:Unit)=>[(34,aj j)]) bm.length (EK s bm) () ⟨by simp[fresh,aH,az,cd,aM,ae,fO],eo (by simp[fresh,aH,az,cd,aM,ae,fO]),ep (by simp[fresh,aH,az,dV,aM,ae,fO]),Ψ⟩ (fun v a=>by simp at a) (fun _ d _=>?_) (fun j _ g d _=>?_)
     ·have a7:=n (fun v a=>d v (by rwa[jC]));simp[fO];(repeat' first|refine ao ?_|simp[fO]);exact bY.rng () hi a7 ⟨by simp[fresh,aH,az,cd,aM,ae,fO],eo (by simp[fresh,aH,az,cd,aM,ae,fO]),ep (by simp[fresh,aH,az,dV,aM,ae,fO]),Ψ⟩
     ·obtain⟨v,a⟩:∃v,bm[j]? =some v:=⟨_,cl g⟩;have o:∀h,((e2 bm)[j]'h)=aj v:=fun q=>by have:=EH bm j;rw[a,cl q]at this;exact e7 this
      have c:=wV s v F;cases f:dG s v with
      |none=>have A:=d.step a f;rw[f]at c;simp only[k5,kh]at c;clear d n m f;simp[g,o,fO];(repeat' first|refine ao ?_|refine aO c ?_|refine aP c ?_|simp[g,o,fO]);exact bY.rng () g A ⟨by simp[fresh,aH,az,cd,aM,ae,fO],eo (by simp[fresh,aH,az,cd,aM,ae,fO]),ep (by simp[fresh,aH,az,dV,aM,ae,fO]),Ψ⟩
      |some x=>rw[m (fun h=>by have:=h v (ft a);rw[f]at this;cases this)];rw[f]at c;simp only[lJ,rV]at c;clear d n m f;simp[g,o,fO];(repeat' first|refine ao ?_|refine aO c ?_|refine aP c ?_|simp[g,o,fO]);simp[bZ,bc,bf,a6]
    ·have B:¬b.v<=b.t.int:=by rw[t]at ab;simpa using ab
     clear ab;(repeat' first|refine ao ?_|refine aO p ?_|refine aP p ?_|simp[y,hi,fO,t,B]);refine eZ [0,12,13,14,32,33] (fun j (_:Unit)=>[(34,aj j)]) bm.length (EK s bm) () ⟨by simp[fresh,aH,az,cd,aM,ae,fO],eo (by simp[fresh,aH,az,cd,aM,ae,fO]),ep (by simp[fresh,aH,az,dV,aM,ae,fO]),Ψ⟩ (fun v a=>by simp at a) (fun _ d _=>?_) (fun j _ g d _=>?_)
     ·have a7:=n (fun v a=>d v (by rwa[jC]));simp[fO];(repeat' first|refine ao ?_|simp[fO]);exact bY.rng () hi a7 ⟨by simp[fresh,aH,az,cd,aM,ae,fO],eo (by simp[fresh,aH,az,cd,aM,ae,fO]),ep (by simp[fresh,aH,az,dV,aM,ae,fO]),Ψ⟩
     ·obtain⟨v,a⟩:∃v,bm[j]? =some v:=⟨_,cl g⟩;have o:∀h,((e2 bm)[j]'h)=aj v:=fun q=>by have:=EH bm j;rw[a,cl q]at this;exact e7 this
      have c:=wV s v F;cases f:dG s v with
      |none=>have A:=d.step a f;rw[f]at c;simp only[k5,kh]at c;clear d n m f;simp[g,o,fO];(repeat' first|refine ao ?_|refine aO c ?_|refine aP c ?_|simp[g,o,fO]);exact bY.rng () g A ⟨by simp[fresh,aH,az,cd,aM,ae,fO],eo (by simp[fresh,aH,az,cd,aM,ae,fO]),ep (by simp[fresh,aH,az,dV,aM,ae,fO]),Ψ⟩
      |some x=>rw[m (fun h=>by have:=h v (ft a);rw[f]at this;cases this)];rw[f]at c;simp only[lJ,rV]at c;clear d n m f;simp[g,o,fO];(repeat' first|refine ao ?_|refine aO c ?_|refine aP c ?_|simp[g,o,fO]);simp[bZ,bc,bf,a6]
def acV{s:List Bd}(h:fp s):bT au 76 [bL (s.map Bd.e)] (.bool true):=by have:=Q0 (s.map Bd.b);rw[zN,sF.2 ⟨s,rfl,h.ok,h.sol,h.fits⟩]at this;exact this
def TR:C:=(aa [bz 2 false] (.seq (aa [I 5 0,cw 6 5,bQ 7 0] (gx 8 7 6 (.seq (.block 1 (aa [ck 9 1 5 7,ay 10 1 9,I 4 10] (aa [I 11 4,cY 12 76 11,cO 13 12] (aW 13 (aa [bz 2 false] .ret) .skip)))) (.region [aV 14 .add 7 1,I 7 14])))) (aa [bz 2 true] .ret)))
def TY:C:=(aa [bz 4 false] (.seq (aa [I 7 0,cw 8 7,bQ 9 0] (gx 10 9 8 (.seq (.block 1 (aa [ck 11 5 7 9,bk 12 5 11,dI 6 kx,bV 5 6 12] (aa [aF 13 0 1 6,ay 14 1 13,I 15 1,bu 16 .geq 14 15,I 17 16,ax 17 false (hr 18 1 4 6),ax 17 false (bk 19 4 18),cg 17 false 20 1,ax 17 false (cc 21 148 19 20),ax 17 false (cO 22 21),ds 23 17 22] (aW 23 (aa [bz 4 false] .ret) .skip)))) (.region [aV 24 .add 9 1,I 9 24])))) (aa [bz 4 true] .ret)))
def AY:C:=(aa [c0 2 0,bz 4 false] (.seq (aa [aF 7 3 1 2,ay 8 1 7,cw 9 8,bQ 10 0] (gx 11 10 9 (.seq (.block 1 (aa [ck 12 4 8 10,bk 13 4 12,dI 6 eC,bV 4 6 13] (aa [bk 14 4 6,I 15 1,cc 16 148 14 15,cO 17 16] (aW 17 (aa [bz 4 false] .ret) .skip)))) (.region [aV 18 .add 10 1,I 10 18])))) (aa [aF 19 0 1 2,ay 20 1 19,aV 21 .neq 20 1,I 22 21,ax 22 false (aF 23 1 1 2),ax 22 false (ay 24 1 23),cg 22 false 25 1,ax 22 false (bu 26 .lss 24 25),ds 27 22 26,I 4 27] .ret)))
def TQ:C:=(aa [fw 4 5] (aa [fe 10 5 113 [],I 5 10] (.seq (aa [I 11 1,cw 12 11,bQ 13 0] (gx 14 13 12 (.seq (.block 1 (aa [ck 15 5 11 13,bk 16 5 15,dI 7 kx,bV 5 7 16] (aa [I 18 0,aF 19 0 1 7,ay 20 1 19,cc 21 146 18 20,I 17 21,cV 22 0 17,cV 23 1 17,dI 8 eC,bV 4 8 22,I 9 23] (aa [I 24 9,cO 25 24] (aW 25 (.region [I 26 5,bk 27 5 7,fe 28 5 113 [.t 27],h3 29 5 113 26 28,I 5 29]) .skip))))) (.region [aV 30 .add 13 1,I 13 30])))) (aa [I 31 5,I 4 31] .ret))))
def TU:C:=(aa [fw 2 1] (aa [fe 11 1 46 [],I 3 11] (.seq (.seq (.fg false 3 (.region [I 12 0,cw 13 12,bQ 14 0])) (gx 15 14 13 (.seq (.block 1 (aa [ck 16 1 12 14,ay 17 1 16,I 5 17] (aa [bz 6 true] (.seq (aa [I 18 0,cw 19 18,bQ 20 0] (.block 2 (.loop (aa [bu 21 .lss 20 19] (.seq (aW 21 .skip (.exit 2)) (.seq (.block 3 (aa [ck 22 1 18 20,ay 23 1 22,I 8 23] (.region [I 24 6,I 25 24,cg 25 true 26 8,cg 25 true 27 5,ax 25 true (cc 28 155 26 27),ax 25 true (aV 29 .eql 28 0),cg 25 true 30 29,cg 30 false 31 8,cg 30 false 32 5,ax 30 false (cc 33 203 31 32),ax 30 false (cO 34 33),ax 25 true (ds 35 30 34),ei 36 25 35,I 6 36]))) (.region [aV 37 .add 20 1,I 20 37]))))))) (aa [I 38 3,cw 39 38,I 9 39] (.seq (.block 4 (.loop (.seq (aa [I 40 9,aV 41 .gtr 40 0,I 42 41,cg 42 true 43 3,cg 42 true 44 9,ax 42 true (aV 45 .sub 44 1),ax 42 true (ck 46 1 43 45),ax 42 true (ay 47 1 46),cg 42 true 48 5,ax 42 true (cc 49 155 47 48),ax 42 true (aV 50 .geq 49 0),ei 51 42 50] (aW 51 .skip (.exit 4))) (.block 5 (.region [I 52 9,aV 53 .sub 52 1,I 9 53]))))) (aa [I 54 6,I 55 54,cg 55 true 56 9,cg 55 true 57 3,ax 55 true (cw 58 57),ax 55 true (bu 59 .eql 56 58),cg 55 true 60 59,cg 60 false 61 3,cg 60 false 62 9,ax 60 false (ck 63 1 61 62),ax 60 false (ay 64 1 63),cg 60 false 65 5,ax 60 false (cc 66 155 64 65),ax 60 false (aV 67 .neq 66 0),ax 55 true (ds 68 60 67),ei 69 55 68] (aW 69 (aa [fe 70 1 46 [],I 71 3,I 72 9,cb 73 (.lsl 1 (.t 71) none (some (.t 72))),h3 74 1 46 70 73,I 10 74] (aa [I 75 10,I 76 5,fe 77 1 46 [.t 76],h3 78 1 46 75 77,I 10 78] (.region [I 79 10,I 80 3,I 81 9,cb 82 (.lsl 1 (.t 80) (some (.t 81)) none),h3 83 1 46 79 82,I 3 83]))) .skip)))))))) (.fg false 3 (.region [aV 84 .add 14 1,I 14 84]))))) (aa [I 85 3,I 2 85] .ret))))
def TS:C:=(aa [bQ 4 0] (.seq (aa [bQ 5 0] (.block 0 (.loop (.seq (aa [I 7 5,I 8 0,cw 9 8,bu 10 .lss 7 9,I 11 10,cg 11 true 12 5,cg 11 true 13 1,ax 11 true (cw 14 13),ax 11 true (bu 15 .lss 12 14),ei 16 11 15] (aW 16 .skip (.exit 0))) (.seq (.block 1 (.seq (.seq (.drawn true 67 [I 19 0,I 20 5,ck 21 5 19 20,aF 22 0 1 21,ay 23 1 22,I 24 1,I 25 5,ck 26 5 24 25,aF 27 0 1 26,ay 28 1 27,bu 29 .neq 23 28]) (aW 29 (.seq (.drawn true 67 [I 30 0,I 31 5,ck 32 5 30 31,aF 33 0 1 32,ay 34 1 33,I 35 1,I 36 5,ck 37 5 35 36,aF 38 0 1 37,ay 39 1 38,bu 40 .lss 34 39,cY 41 188 40,I 4 41]) .ret) .skip)) (.seq (.drawn true 67 [I 42 0,I 43 5,ck 44 5 42 43,hr 45 1 4 44,bk 46 4 45,I 47 1,I 48 5,ck 49 5 47 48,hr 50 1 4 49,bk 51 4 50,cc 52 125 46 51,I 6 52]) (aa [I 53 6,aV 54 .neq 53 0] (aW 54 (aa [I 55 6,I 4 55] .ret) .skip))))) (.region [I 17 5,aV 18 .add 17 1,I 5 18])))))) (.seq (aa [I 56 0,cw 57 56,I 58 1,cw 59 58,bu 60 .neq 57 59] (aW 60 (aa [I 61 0,cw 62 61,I 63 1,cw 64 63,bu 65 .lss 62 64,cY 66 188 65,I 4 66] .ret) .skip)) (aa [bQ 4 0] .ret))))
def Ty:C:=(aa [bz 4 false] (.seq (aa [I 11 0,cY 12 76 11,cO 13 12,I 14 13,cg 14 false 15 1,ax 14 false (cY 16 76 15),ax 14 false (cO 17 16),ds 18 14 17] (aW 18 (aa [bz 4 false] .ret) .skip)) (.seq (aa [I 19 0,cw 20 19,bQ 21 0] (gx 22 21 20 (.seq (.block 1 (aa [ck 23 5 19 21,bk 24 5 23,dI 6 kx,bV 5 6 24] (aa [I 26 1,aF 27 0 1 6,ay 28 1 27,cY 29 114 28,cc 30 60 26 29,I 25 30,cV 31 0 25,cV 32 1 25,dI 7 eC,bV 4 7 31,I 8 32] (aa [I 34 1,hr 35 1 4 6,bk 36 4 35,cc 37 60 34 36,I 33 37,cV 38 0 33,cV 39 1 33,dI 9 eC,bV 4 9 38,I 10 39] (aa [I 40 8,cO 41 40,I 42 41,cg 42 false 43 10,ax 42 false (cO 44 43),ds 45 42 44,I 46 45,ax 46 false (bk 47 4 7),ax 46 false (bk 48 4 9),ax 46 false (cc 49 129 47 48),ax 46 false (cO 50 49),ds 51 46 50] (aW 51 (aa [bz 4 false] .ret) .skip)))))) (.region [aV 52 .add 21 1,I 21 52])))) (aa [bz 4 true] .ret))))
def apf:b4 aT TR [.tmp 2] 1 Tryz.f77=true:=bi
def apm:b4 aT TY [.tmp 4] 2 Tryz.f80=true:=bi
def Fm:b4 aT AY [.tmp 4] 2 Tryz.f148=true:=bi
def ape:b4 aT TQ [.tmp 4] 2 Tryz.f153=true:=bi
def api:b4 aT TU [.tmp 2] 1 Tryz.f154=true:=bi
def apg:b4 aT TS [.tmp 4] 2 Tryz.f155=true:=bi
def aoV:b4 aT Ty [.tmp 4] 2 Tryz.f203=true:=bi
def Dy:C:=(aa [c0 2 0,c0 3 1,bQ 4 0] (.seq (aa [aF 7 0 1 2,ay 8 1 7,aF 9 0 1 3,ay 10 1 9,bu 11 .neq 8 10] (aW 11 (aa [aF 12 0 1 2,ay 13 1 12,aF 14 0 1 3,ay 15 1 14,bu 16 .lss 13 15,cY 17 188 16,I 4 17] .ret) .skip)) (.seq (aa [aF 18 1 1 2,ay 19 1 18,aF 20 1 1 3,ay 21 1 20,bu 22 .neq 19 21] (aW 22 (aa [aF 23 1 1 2,ay 24 1 23,aF 25 1 1 3,ay 26 1 25,bu 27 .lss 24 26,cY 28 188 27,I 4 28] .ret) .skip)) (.seq (aa [aF 29 2 1 2,ay 30 1 29,aF 31 2 1 3,ay 32 1 31,bu 33 .neq 30 32] (aW 33 (aa [aF 34 2 1 2,ay 35 1 34,aF 36 2 1 3,ay 37 1 36,bu 38 .lss 35 37,cY 39 188 38,I 4 39] .ret) .skip)) (.seq (aa [bQ 5 0] (.block 0 (.loop (.seq (aa [I 40 5,aF 41 3 1 2,ay 42 1 41,cw 43 42,bu 44 .lss 40 43,I 45 44,cg 45 true 46 5,ax 45 true (aF 47 3 1 3),ax 45 true (ay 48 1 47),ax 45 true (cw 49 48),ax 45 true (bu 50 .lss 46 49),ei 51 45 50] (aW 51 .skip (.exit 0))) (.seq (.block 1 (.seq (.drawn true 68 [aF 54 3 1 2,ay 55 1 54,I 56 5,ck 57 4 55 56,bk 58 4 57,aF 59 3 1 3,ay 60 1 59,I 61 5,ck 62 4 60 61,bk 63 4 62,cc 64 125 58 63,I 6 64]) (aa [I 65 6,aV 66 .neq 65 0] (aW 66 (aa [I 67 6,I 4 67] .ret) .skip)))) (.region [I 52 5,aV 53 .add 52 1,I 5 53])))))) (aa [bQ 4 0] .ret))))))
def TG:C:=(aa [c0 2 0,c0 3 1,bz 4 false] (aa [bk 5 4 2,bk 6 4 3,cc 7 125 5 6,aV 8 .eql 7 0,I 4 8] .ret))
def TH:C:=(aa [bQ 2 0] (.seq (aa [I 3 0] (aW 3 (aa [bQ 2 (-1)] .ret) .skip)) (aa [bQ 2 1] .ret)))
def I9:b4 aT Dy [.tmp 4] 2 Tryz.f125=true:=bi
def ao3:b4 aT TG [.tmp 4] 2 Tryz.f129=true:=bi
def ao4:b4 aT TH [.tmp 2] 1 Tryz.f188=true:=bi
def adE{t u:T}(J:t.kind=u.kind)(U:t.int=u.int)(a:t.name=u.name)(b:t.args=u.args):t=u:=by cases t<;>cases u<;>simp_all
def sJ(b:Bool):bT au 188 [.bool b] (aj (if b then-1 else 1)):=by
 refine bI a1 Tryz.func188 ao4 fun a=>?_;unfold TH;simp;((repeat' first|refine ao ?_|simp|((first|apply ct|apply cz|apply cy)<;>intro h<;>try simp at h))<;>(try exact c3));all_goals simp[bZ,bc,bf,a6]
 all_goals simp_all
def apr{a b:T}(c:a.args=[]\/b.args=[])(J:a.kind=b.kind)(U:a.int=b.int):e5 a b=lA a.name b.name:=by cases a<;>cases b<;>simp_all[e5]
def EJ(a b:T)(i:Nat)(_:Unit):Prop:=a.args.take i=b.args.take i
def acD(a:T)(n:∀x∈a.args,∀b:T,bT au 125 [x.e,b.e] (aj (e5 x b)))(b:T):bT au 125 [a.e,b.e] (aj (e5 a b)):=by
 have hle:a.args.length<=2:=by cases a<;>simp
 by_cases ab:a.kind=b.kind
 ·by_cases hi:a.int=b.int
  ·by_cases g:a.name=b.name
   ·have hlen:a.args.length=b.args.length:=by cases a<;>cases b<;>simp at ab⊢
    refine bI a1 Tryz.func125 I9 fun j=>?_;unfold Dy;simp[ab,hi,g];refine eZ [2,3] (fun i (_:Unit)=>[(5,aj i)]) a.args.length (EJ a b) () b9 (by simp[EJ]) (fun _ c _=>?_) (fun i _ f c _=>?_)
    ·simp;(repeat' first|refine ao ?_|simp);simp[bZ,bc,bf,a6];unfold EJ at c;rw[ix Ω,ix Ω]at c;exact((sy a b).2 (adE ab hi g c)).symm
    ·have k:i<b.args.length:=Ω
     obtain⟨x,d⟩:∃x,x=a.args[i]:=⟨_,rfl⟩;obtain⟨y,e⟩:∃y,y=b.args[i]:=⟨_,rfl⟩;have l:=n x (by rw[d];exact List.getElem_mem f) y;simp[f,k,<-d,<-e];(with_reducible repeat' first|((first|apply ct|apply cz|apply cy)<;>intro h<;>try simp at h)|refine ao ?_|refine aO l ?_|refine aP l ?_|simp)
     ·simp[bZ,bc,bf,a6];unfold EJ at c;cases a with
      |pair m a2=>
       cases b with
       |pair o p=>
        simp at f c d e;rcases(by omega:i=0\/i=1)with rfl|rfl
        ·simp at d e;subst d e;simp[e5,h]
        ·simp at c d e;subst d e c;simp[e5,(sy m m).2 rfl]
       |_=>simp at ab
      |_=>simp at f
     ·refine bY.rng () f ?_ b9;unfold EJ at c⊢;rw[List.take_succ,List.take_succ,c,cl f,cl k,<-d,<-e,(sy x y).1 h]
   ·refine bI a1 Tryz.func125 I9 fun j=>?_;unfold Dy;simp[ab,hi,g];((repeat' first|refine ao ?_|refine aO (sJ _) ?_|refine aP (sJ _) ?_|simp|((first|apply ct|apply cz|apply cy)<;>intro h<;>try simp at h))<;>(try exact c3));simp[bZ,bc,bf,a6];have:a.args=[]\/b.args=[]:=by cases a<;>cases b<;>simp at ab g⊢
    rw[apr this ab hi,lA,if_neg g]
  ·refine bI a1 Tryz.func125 I9 fun j=>?_;unfold Dy;simp[ab,hi];((repeat' first|refine ao ?_|refine aO (sJ _) ?_|refine aP (sJ _) ?_|simp|((first|apply ct|apply cz|apply cy)<;>intro h<;>try simp at h))<;>(try exact c3));simp[bZ,bc,bf,a6];cases a<;>cases b<;>simp at ab hi
   ·rw[ZK];simp[fb];split<;>(try split)<;>omega
   ·rw[ZJ];simp[fb];split<;>(try split)<;>omega
 ·refine bI a1 Tryz.func125 I9 fun j=>?_;unfold Dy;simp[ab];((repeat' first|refine ao ?_|refine aO (sJ _) ?_|refine aP (sJ _) ?_|simp|((first|apply ct|apply cz|apply cy)<;>intro h<;>try simp at h))<;>(try exact c3));simp[bZ,bc,bf,a6];rw[tM ab];simp[fb];split<;>(try split)<;>omega
def Kg(a:T):∀b:T,bT au 125 [a.e,b.e] (aj (e5 a b)):=by
 induction a with
 |pair x y e d=>
  refine acD _ fun z c=>?_;simp at c;rcases c with rfl|rfl
  ·exact e
  ·exact d
 |_=>exact acD _ fun x f=>by simp at f
def acG(a b:T):bT au 129 [a.e,b.e] (.bool (decide (a=b))):=by refine bI a1 Tryz.func129 ao3 fun c=>?_;unfold TG;simp;(repeat' first|refine ao ?_|refine aO (Kg _ _) ?_|refine aP (Kg _ _) ?_|simp);simp[bZ,bc,bf,a6];have:=sy a b;by_cases h:e5 a b=0<;>simp_all
def asI{s t:List Bd}(j:fp s)(k:fp t):bT au 153 [bL (s.map Bd.e),bL (t.map Bd.e)] (bL ((hB s t).map Bd.e)):=by
 have h:=k.len;generalize bt:hB s t=R;refine bI a1 Tryz.func153 ape fun m=>?_;unfold TQ;simp;refine fU (α:=List Bd) (fun i out=>⟨[(0,bL (s.map Bd.e)),(11,bL (t.map Bd.e)),(12,aj t.length),(5,.slice 5 (.own (.loc 0)) (out.map Bd.e)),(13,aj i)],[],[(.loc 0,⟨out.length,113,5,none⟩)],1,[]⟩) t.length (ss s t) [] b9 (by simp[ss,hB]) (fun out c _=>?_) (fun i out hi c _=>?_)
 ·rw[ss,ix (dP _),bt]at c;rw[<-c];exact cn
 ·obtain⟨b,f,e⟩:=eW hi;have l:out.length<=1000000:=by
   have:out.length<=(t.take i).length:=by rw[c];exact List.length_filter_le _ _
   simp at this;omega
  have a:=wV s b.v j.len;cases d:dG s b.v with
  |none=>
   have g:ss s t (i+1) (out++[b]):=by rw[ss,nE f,hB,List.filter_append,c];simp[hB,d]
   rw[d]at a;simp only[k5,kh]at a;clear c f d;simp[hi,e];(repeat' first|refine ao ?_|refine aO a ?_|refine aP a ?_|simp[e,hi]);all_goals try refine⟨by unfold lim;omega,?_⟩
   (repeat' first|refine ao ?_|simp);refine bY.rng (out++[b]) hi g ?_;simp;exact⟨by simp[fresh,aH,az,cd,aM,ae,j2],eo (by simp[fresh,aH,az,cd,aM,ae,j2]),ep (by simp[fresh,aH,az,dV,aM,ae,j2]),Ψ⟩
  |some x=>
   have g:ss s t (i+1) out:=by rw[ss,nE f,hB,List.filter_append,c];simp[hB,d]
   rw[d]at a;simp only[lJ,rV]at a;clear c f d;simp[hi,e];(repeat' first|refine ao ?_|refine aO a ?_|refine aP a ?_|simp[e,hi]);refine bY.rng out hi g ?_;exact b9
def ar8{s t:List Bd}(u:fp s)(m:fp t):bT au 203 [bL (s.map Bd.e),bL (t.map Bd.e)] (.bool (oL s t)):=by
 have y:=u.len;generalize bt:oL s t=R;have p:=acV u;have q:=acV m;refine bI a1 Tryz.func203 aoV fun z=>?_;unfold Ty;simp;(repeat' first|refine ao ?_|refine aO p ?_|refine aP p ?_|refine aO q ?_|refine aP q ?_|simp);refine eZ [1,19,20] (fun i (_:Unit)=>[(21,aj i)]) s.length (qK (tI t) s) () b9 (fun k b ab=>Ω) (fun _ g _=>?_) (fun i _ hi g _=>?_)
 ·have:R=true:=by rw[<-bt,oL,j7];intro b v;obtain⟨k,ab,e⟩:=pA v;exact g k b ab (by rw[cl ab,e])
  rw[this];exact cn
 ·obtain⟨b,j,f⟩:=eW hi;have o:tI t b=false->R=false:=fun h=>by rw[<-bt,Bool.eq_false_iff];intro r;rw[oL,j7]at r;rw[r b (ft j)]at h;cases h
  have c:=Kk t m.len (.var b.v);have a:=Kk t m.len b.t;have n:=FP m b.v;have x:((T.var b.v).ap (cC t)).size<=5000:=n;rw[lK x]at c;rw[show(T.var b.v).ap (cC t)=cC t b.v from rfl]at c;by_cases l:(b.t.ap (cC t)).size<=5000
  ·rw[lK l]at a;by_cases he:cC t b.v=b.t.ap (cC t)
   ·have w:=g.step j (by simp[tI,he]);have d:=acG (cC t b.v) (b.t.ap (cC t));rw[lK he]at d;clear g j;simp[hi,f];(repeat' first|refine ao ?_|refine aO (k4 _) ?_|refine aP (k4 _) ?_|refine aO c ?_|refine aP c ?_|refine aO a ?_|refine aP a ?_|refine aO d ?_|refine aP d ?_|simp[f,hi]);exact bY.rng () hi w b9
   ·rw[o (by simp[tI,he])];have d:=acG (cC t b.v) (b.t.ap (cC t));rw[mx he]at d;clear g j;simp[hi,f];(repeat' first|refine ao ?_|refine aO (k4 _) ?_|refine aP (k4 _) ?_|refine aO c ?_|refine aP c ?_|refine aO a ?_|refine aP a ?_|refine aO d ?_|refine aP d ?_|simp[f,hi]);simp[bZ,bc,bf,a6]
  ·rw[mx l]at a;rw[o (by simp only[tI,iR];intro e;rw[<-e]at l;exact l n)];clear g j;simp[hi,f];(repeat' first|refine ao ?_|refine aO (k4 _) ?_|refine aP (k4 _) ?_|refine aO c ?_|refine aP c ?_|refine aO a ?_|refine aP a ?_|simp[f,hi]);simp[bZ,bc,bf,a6]
def QW(d e:List Bd):bT au 155 [bL (d.map Bd.e),bL (e.map Bd.e)] (aj (fa d e)):=by
 generalize bt:fa d e=R;refine bI a1 Tryz.func155 apg fun v=>?_;unfold TS;have F:d.length<=68719476736:=by simp[eI,eN,eJ,lim]at v;omega
 have he:e.length<=68719476736:=by simp[eI,eN,eJ,lim]at v;omega
 simp;refine xd [0,1] (fun(i:Nat)=>[(5,aj i)]) (fun i=>d.length-i) (NR d e) 0 b9 ⟨Ω,Ω,Ψ⟩ (fun i A _=>?_);obtain⟨J,U,a⟩:=A;rw[bt]at a;by_cases hi:i<d.length
 ·by_cases b:i<e.length
  ·obtain⟨x,l⟩:∃x,d[i]? =some x:=⟨_,cl hi⟩;obtain⟨y,m⟩:∃y,e[i]? =some y:=⟨_,cl b⟩;have f:∀h,(d[i]'h)=x:=fun h=>by rw[cl hi]at l;exact e7 l
   have c:∀h,(e[i]'h)=y:=fun h=>by rw[cl b]at m;exact e7 m
   have q:d.drop i=x::d.drop (i+1):=by rw[lH hi,f]
   have p:e.drop i=y::e.drop (i+1):=by rw[lH b,c]
   rw[q,p]at a;rw[ZH]at a;by_cases g:x.v=y.v
   ·have q0:fb x.v y.v=0:=(k2.zero _ _).2 g;have o:(x.v !=y.v)=false:=by simp[g]
    rw[if_pos q0]at a;by_cases k:e5 x.t y.t=0
    ·rw[if_pos k]at a;have B:NR d e (i+1):=⟨Ω,Ω,by rw[bt];exact a⟩;have j:=Kg x.t y.t;rw[k]at j;clear q p l m a q0;simp[hi,b,f,c];((repeat' first|refine ao ?_|refine aO j ?_|refine aP j ?_|simp[f,c,hi,b,g,o]|((first|apply ct|apply cz|apply cy)<;>intro h<;>try simp at h))<;>(try exact c3));all_goals exact bY.whl (i+1) Ω B b9
    ·rw[if_neg k]at a;have j:=Kg x.t y.t;have w:(e5 x.t y.t !=0)=true:=by simp[k]
     clear q p l m q0;simp[hi,b,f,c];(repeat' first|refine ao ?_|refine aO j ?_|refine aP j ?_|simp[f,c,hi,b,g,o,k,w]);all_goals simp[bZ,bc,bf,a6]
     all_goals exact a
   ·have q0:¬fb x.v y.v=0:=fun h=>g ((k2.zero _ _).1 h);have o:(x.v !=y.v)=true:=by simp[g]
    rw[if_neg q0]at a;have dF:R=if decide (x.v<y.v)=true then-1 else 1:=by rw[<-a];unfold fb;simp only[gz];(repeat' split)<;>omega
    clear q p l m a q0;rw[dF];simp[hi,b,f,c];(repeat' first|refine ao ?_|refine aO (sJ _) ?_|refine aP (sJ _) ?_|simp[f,c,hi,b,g,o]);all_goals simp[bZ,bc,bf,a6]
  ·have hle:e.length<d.length:=Ω
   have:(1:Int)=R:=by rw[<-a,fa,EX _ _ _ (.inr (List.drop_eq_nil_of_le Ω))];simp only[uf];unfold fb;(repeat' split)<;>omega
   have s:¬(d.length:Int)=e.length:=Ω
   have u:((d.length:Int) !=e.length)=true:=by simp;omega
   have r:¬(d.length:Int)<e.length:=Ω
   have n:¬d.length<e.length:=Ω
   have t:¬d.length=e.length:=Ω
   clear a;rw[<-this];simp[hi,b];(repeat' first|refine ao ?_|refine aO (sJ _) ?_|refine aP (sJ _) ?_|simp[hi,b,s,u,r,n,t]);all_goals simp[bZ,bc,bf,a6]
   all_goals(try simp[n])
 ·have E:i=d.length:=Ω
  by_cases z:d.length=e.length
  ·have:(0:Int)=R:=by rw[<-a,fa,EX _ _ _ (.inl (List.drop_eq_nil_of_le Ω))];simp only[uf];unfold fb;(repeat' split)<;>omega
   clear a;rw[<-this];exact cn
  ·have:(-1:Int)=R:=by rw[<-a,fa,EX _ _ _ (.inl (List.drop_eq_nil_of_le Ω))];simp only[uf];unfold fb;(repeat' split)<;>omega
   have s:¬(d.length:Int)=e.length:=Ω
   have u:((d.length:Int) !=e.length)=true:=by simp;omega
   have r:(d.length:Int)<e.length:=Ω
   have n:d.length<e.length:=Ω
   clear a;rw[<-this];simp[hi];(repeat' first|refine ao ?_|refine aO (sJ _) ?_|refine aP (sJ _) ?_|simp[hi,s,u,r,n,z]);all_goals simp[bZ,bc,bf,a6]
   all_goals(try simp[n])
def alT(n:Int)(a b:T)(i:Nat)(_:Unit):Prop:=(1<=i->gg n a=true)/\(2<=i->gg n b=true)
def Au(n:Int):∀t:T,bT au 148 [t.e,aj n] (.bool (gg n t))
 | .pair a b=>by
  have e:=Au n a;have d:=Au n b;refine bI a1 Tryz.func148 Fm fun j=>?_;unfold AY;simp;refine eZ [1,2,8,9] (fun i (_:Unit)=>[(10,aj i)]) 2 (alT n a b) () b9 ⟨fun h=>Ω,fun h=>Ω⟩ (fun _ c _=>?_) (fun i _ hi c _=>?_)
  ·simp;(repeat' first|refine ao ?_|simp);simp[bZ,bc,bf,a6];simp[gg,c.1,c.2]
  ·rcases(by omega:i=0\/i=1)with rfl|rfl
   ·cases f:gg n a
    ·rw[f]at e;simp;(repeat' first|refine ao ?_|refine aO e ?_|refine aP e ?_|simp);simp[bZ,bc,bf,a6];simp[gg,f]
    ·rw[f]at e;simp;((repeat' first|refine ao ?_|refine aO e ?_|refine aP e ?_|simp|((first|apply ct|apply cz|apply cy)<;>intro h<;>try simp at h))<;>(try exact c3));exact bY.rng () hi ⟨fun _=>f,fun h=>Ω⟩ b9
   ·cases g:gg n b
    ·rw[g]at d;simp;((repeat' first|refine ao ?_|refine aO d ?_|refine aP d ?_|simp|((first|apply ct|apply cz|apply cy)<;>intro h<;>try simp at h))<;>(try exact c3));simp[bZ,bc,bf,a6];simp[gg,g]
    ·rw[g]at d;simp;((repeat' first|refine ao ?_|refine aO d ?_|refine aP d ?_|simp|((first|apply ct|apply cz|apply cy)<;>intro h<;>try simp at h))<;>(try exact c3));exact bY.rng () hi ⟨fun _=>c.1 Ω,fun _=>g⟩ b9
 | .sym v=>by
  refine bI a1 Tryz.func148 Fm fun j=>?_;unfold AY;simp;refine eZ [1,2,8,9] (fun i (_:Unit)=>[(10,aj i)]) 0 (fun i _=>True) () b9 trivial (fun _ c _=>?_) (fun i _ hi c _=>Ω);simp;((repeat' first|refine ao ?_|simp|((first|apply ct|apply cz|apply cy)<;>intro h<;>try simp at h))<;>(try exact c3));all_goals simp[bZ,bc,bf,a6]
  all_goals simp[gg]
 | .num v=>by
  refine bI a1 Tryz.func148 Fm fun j=>?_;unfold AY;simp;refine eZ [1,2,8,9] (fun i (_:Unit)=>[(10,aj i)]) 0 (fun i _=>True) () b9 trivial (fun _ c _=>?_) (fun i _ hi c _=>Ω);simp;(repeat' first|refine ao ?_|simp);all_goals simp[bZ,bc,bf,a6]
  all_goals simp[gg]
 | .var v=>by
  refine bI a1 Tryz.func148 Fm fun j=>?_;unfold AY;simp;refine eZ [1,2,8,9] (fun i (_:Unit)=>[(10,aj i)]) 0 (fun i _=>True) () b9 trivial (fun _ c _=>?_) (fun i _ hi c _=>Ω);simp;(repeat' first|refine ao ?_|simp);all_goals simp[bZ,bc,bf,a6]
  all_goals simp[gg]
 | .nil=>by
  refine bI a1 Tryz.func148 Fm fun j=>?_;unfold AY;simp;refine eZ [1,2,8,9] (fun i (_:Unit)=>[(10,aj i)]) 0 (fun i _=>True) () b9 trivial (fun _ c _=>?_) (fun i _ hi c _=>Ω);simp;(repeat' first|refine ao ?_|simp);all_goals simp[bZ,bc,bf,a6]
  all_goals simp[gg]
def acP(s:List Bd)(n:Int):bT au 80 [bL (s.map Bd.e),aj n] (.bool (s.all (lN n))):=by
 generalize bt:s.all (lN n)=R;refine bI a1 Tryz.func80 apm fun m=>?_;unfold TY;have p:s.length<=68719476736:=by simp[eI,eN,eJ,lim]at m;omega
 simp;refine eZ [1,7,8] (fun i (_:Unit)=>[(9,aj i)]) s.length (qK (lN n) s) () b9 (fun k b ab=>Ω) (fun _ a _=>?_) (fun i _ hi a _=>?_)
 ·have:R=true:=by rw[<-bt,j7];intro b l;obtain⟨k,ab,e⟩:=pA l;exact a k b ab (by rw[cl ab,e])
  rw[this];exact cn
 ·obtain⟨b,c,o⟩:=eW hi;have f:lN n b=false->R=false:=fun h=>by rw[<-bt,Bool.eq_false_iff];intro g;rw[j7]at g;rw[g b (ft c)]at h;cases h
  have d:=Au n b.t;by_cases J:b.v<n
  ·have j:¬n<=b.v:=Ω
   cases U:gg n b.t
   ·rw[f (by simp[lN,U])];rw[U]at d;clear a c;exact cn
   ·have q:=a.step c (by simp[lN,J,U]);rw[U]at d;clear a c;exact iW
  ·have j:n<=b.v:=Ω
   rw[f (by simp[lN,J])];clear a c;exact cn
def asL(l:List (List Bt)):bT au 77 [cX (l.map gA)] (.bool (l.all hC)):=by
 generalize bt:l.all hC=R;refine bI a1 Tryz.func77 apf fun h=>?_;unfold TR;have m:l.length<=68719476736:=by simp[eI,eN,eJ,lim]at h;omega
 simp;refine eZ [5,6] (fun i (_:Unit)=>[(7,aj i)]) l.length (qK hC l) () b9 (fun k b ab=>Ω) (fun _ c _=>?_) (fun i _ hi c _=>?_)
 ·have:R=true:=by rw[<-bt,j7];intro b a;obtain⟨k,ab,e⟩:=pA a;exact c k b ab (by rw[cl ab,e])
  rw[this];exact cn
 ·obtain⟨b,d,j⟩:=eW hi;have f:bT au 76 [gA b] (.bool (hC b)):=Q0 b;cases a:hC b
  ·have:R=false:=by rw[<-bt,Bool.eq_false_iff];intro g;rw[j7]at g;rw[g b (ft d)]at a;cases a
   rw[this];rw[a]at f;clear c d;exact cn
  ·have n:=c.step d a;rw[a]at f;clear c d;exact iW
def Um(a:List (List Bd))(k:Nat)(m:List Bd):mX k (a.map cQ)++cQ m::oV k (a.map cQ)=(a.take k++m::a.drop k).map cQ:=Ψ
def r9(a:List (List Bd))(k:Nat)(m:List Bd):cf (mX k (a.map cQ)++cQ m::oV k (a.map cQ))=mX k (a.map cQ)++cQ m::oV k (a.map cQ):=by rw[Um,Qw]
def r8(S:aB->Prop)(a:List (List Bd))(k:Nat)(m:List Bd):aH S (mX k (a.map cQ)++cQ m::oV k (a.map cQ))=True:=by rw[Um,XX]
def Ul(a:List (List Bd))(m:List Bd):a.map cQ++[cQ m]=(a++[m]).map cQ:=Ψ
def r7(a:List (List Bd))(m:List Bd):cf (a.map cQ++[cQ m])=a.map cQ++[cQ m]:=by rw[Ul,Qw]
def r6(S:aB->Prop)(a:List (List Bd))(m:List Bd):aH S (a.map cQ++[cQ m])=True:=by rw[Ul,XX]
def acL(L:List (List Bd))(K:∀d∈L,fp d):bT au 154 [cX (L.map cQ)] (cX ((lZ L).map cQ)):=by
 generalize bt:lZ L=R;rw[amU]at bt;refine bI a1 Tryz.func154 api fun U=>?_;unfold TU;have W:L.length<=68719476736:=by simp[eI,eN,eJ,lim]at U;omega
 simp;refine eZ [0,12,13] (fun i (a:List (List Bd))=>[(3,cX (a.map cQ)),(14,aj i)]) L.length (zG L) [] b9 (by simp[zG]) (fun a m _=>?_) (fun i a hi m _=>?_)
 ·rw[zG,jC,bt]at m;subst m;exact cn
 ·obtain⟨e,he,N⟩:=eW hi;have A:iS fa a:=by rw[m];exact OF _ (by simp[iS])
  have V:a.length<=i:=by have:=YG (L:=L) (L.take i) [];rw[m];simp at this⊢;omega
  have g:=m.step he;have P:=K e (ft he);have l:∀d,bT au 155 [cQ d,cQ e] (aj (fa d e)):=fun d=>QW d e;clear m he;simp[hi,N];(repeat' first|refine ao ?_|simp[hi,N]);refine eZ [0,3,5,12,13,14,18,19] (fun j (b:Bool)=>[(6,.bool b),(20,aj j)]) L.length (rv L e) true b9 (by simp[rv]) (fun keep m _=>?_) (fun j keep t m _=>?_)
  ·rw[rv,jC]at m;have M:keep=jS L e:=m;rw[rF,<-M]at g;clear m M;simp;(repeat' first|refine ao ?_|simp);refine xd [0,3,5,6,12,13,14] (fun(k:Nat)=>[(9,aj k)]) (fun k=>k) (Io a e) a.length b9 ⟨Ω,fun c h=>by simp at h⟩ (fun k m _=>?_);have ab:=m.1;rcases Nat.eq_zero_or_pos k with Y|s
   ·have F:decide ((0:Int)<k)=false:=by simp;omega
    have z:¬(0:Int)<k:=Ω
    have f:=m.fin A fun d h=>Ω
    clear m A;cases keep with
    |false=>simp only[hT,if_false]at g;clear f;exact iW
    |true=>
     simp only[if_true]at g;by_cases n:k<a.length
     ·obtain⟨c,aw,x⟩:=eW n;rw[aw]at f;by_cases q:fa c e=0
      ·rw[if_pos (by simp[q])]at f;rw[f]at g;clear f aw;simp[n,x,F,z];((repeat' first|refine ao ?_|refine aO (l _) ?_|refine aP (l _) ?_|simp[n,x,q,F,z]|((first|apply ct|apply cz|apply cy)<;>intro h<;>try simp at h))<;>(try exact c3));all_goals exact bY.rng a hi g b9
      ·rw[if_neg (by simp[q])]at f;have B:(fa c e !=0)=true:=by simp[q]
       rw[f]at g;clear f aw;simp[n,x,F,z];((repeat' first|refine ao ?_|refine aO (l _) ?_|refine aP (l _) ?_|simp[n,x,q,B,F,z]|((first|apply ct|apply cz|apply cy)<;>intro h<;>try simp at h))<;>(try exact c3));all_goals try refine⟨by unfold lim;omega,?_⟩
       all_goals(repeat' first|refine ao ?_|simp)
       all_goals try refine⟨by unfold lim;omega,?_⟩
       all_goals((repeat' first|refine ao ?_|simp|((first|apply ct|apply cz|apply cy)<;>intro h<;>try simp at h))<;>(try exact c3))
       all_goals exact bY.rng _ hi g ⟨by simp[fresh,aH,az,cd,aM,ae,ix,r9,r8,r7,r6],eo (by simp[fresh,aH,az,cd,aM,ae,ix,r9,r8,r7,r6]),ep (by simp[fresh,aH,az,dV,aM,ae,ix,r9,r8,r7,r6]),Ψ⟩
     ·rw[q3 Ω]at f;simp only[hT,if_false]at f;rw[f]at g;have H:k=a.length:=Ω
      have G:a.take k++e::a.drop k=a++[e]:=by rw[H];simp
      rw[G]at g;clear f G;simp[n,F,z];((repeat' first|refine ao ?_|refine aO (l _) ?_|refine aP (l _) ?_|simp[n,H,F,z]|((first|apply ct|apply cz|apply cy)<;>intro h<;>try simp at h))<;>(try exact c3));all_goals try refine⟨by unfold lim;omega,?_⟩
      all_goals(repeat' first|refine ao ?_|simp)
      all_goals try refine⟨by unfold lim;omega,?_⟩
      all_goals((repeat' first|refine ao ?_|simp|((first|apply ct|apply cz|apply cy)<;>intro h<;>try simp at h))<;>(try exact c3))
      all_goals exact bY.rng _ hi g ⟨by simp[fresh,aH,az,cd,aM,ae,ix,r9,r8,r7,r6],eo (by simp[fresh,aH,az,cd,aM,ae,ix,r9,r8,r7,r6]),ep (by simp[fresh,aH,az,dV,aM,ae,ix,r9,r8,r7,r6]),Ψ⟩
   ·obtain⟨d,v⟩:∃d,a[k-1]? =some d:=⟨_,cl Ω⟩;have u:((k:Int)-1).toNat=k-1:=Ω
    have w:∀h,(a[k-1]'h)=d:=fun h=>by rw[cl h]at v;exact e7 v
    have r:(0:Int)<k:=Ω
    have p:k-1<a.length:=Ω
    by_cases o:0<=fa d e
    ·have S:Io a e (k-1):=⟨Ω,fun c aw=>by rw[v]at aw;cases aw;exact o⟩;clear m A g v;simp[s,r,u,w,o,p];((repeat' first|refine ao ?_|refine aO (l _) ?_|refine aP (l _) ?_|simp[s,r,u,w,o,p]|((first|apply ct|apply cz|apply cy)<;>intro h<;>try simp at h))<;>(try exact c3));refine bY.whl (k-1) Ω S ?_;have Q:((k-1:Nat):Int)=(k:Int)-1:=Ω
     simp[Q];exact b9
    ·have f:=m.fin A fun X _ J=>by rw[v]at J;cases J;omega
     clear m A v;cases keep with
     |false=>simp only[hT,if_false]at g;clear f;simp[s,r,u,w,o,p];(repeat' first|refine ao ?_|refine aO (l _) ?_|refine aP (l _) ?_|simp[s,r,u,w,o,p]);all_goals exact bY.rng a hi g b9
     |true=>
      simp only[if_true]at g;by_cases n:k<a.length
      ·obtain⟨c,aw,x⟩:=eW n;rw[aw]at f;by_cases q:fa c e=0
       ·rw[if_pos (by simp[q])]at f;rw[f]at g;clear f aw;simp[n,x,s,r,u,w,o,p];((repeat' first|refine ao ?_|refine aO (l _) ?_|refine aP (l _) ?_|simp[n,x,q,s,r,u,w,o,p]|((first|apply ct|apply cz|apply cy)<;>intro h<;>try simp at h))<;>(try exact c3));all_goals exact bY.rng a hi g b9
       ·rw[if_neg (by simp[q])]at f;have B:(fa c e !=0)=true:=by simp[q]
        rw[f]at g;clear f aw;simp[n,x,s,r,u,w,o,p];((repeat' first|refine ao ?_|refine aO (l _) ?_|refine aP (l _) ?_|simp[n,x,q,B,s,r,u,w,o,p]|((first|apply ct|apply cz|apply cy)<;>intro h<;>try simp at h))<;>(try exact c3));all_goals try refine⟨by unfold lim;omega,?_⟩
        all_goals(repeat' first|refine ao ?_|simp)
        all_goals try refine⟨by unfold lim;omega,?_⟩
        all_goals((repeat' first|refine ao ?_|simp|((first|apply ct|apply cz|apply cy)<;>intro h<;>try simp at h))<;>(try exact c3))
        all_goals exact bY.rng _ hi g ⟨by simp[fresh,aH,az,cd,aM,ae,ix,r9,r8,r7,r6],eo (by simp[fresh,aH,az,cd,aM,ae,ix,r9,r8,r7,r6]),ep (by simp[fresh,aH,az,dV,aM,ae,ix,r9,r8,r7,r6]),Ψ⟩
      ·rw[q3 Ω]at f;simp only[hT,if_false]at f;rw[f]at g;have H:k=a.length:=Ω
       have G:a.take k++e::a.drop k=a++[e]:=by rw[H];simp
       rw[G]at g;clear f G;simp[n,s,r,u,w,o,p];((repeat' first|refine ao ?_|refine aO (l _) ?_|refine aP (l _) ?_|simp[n,H,s,r,u,w,o,p]|((first|apply ct|apply cz|apply cy)<;>intro h<;>try simp at h))<;>(try exact c3));all_goals try refine⟨by unfold lim;omega,?_⟩
       all_goals(repeat' first|refine ao ?_|simp)
       all_goals try refine⟨by unfold lim;omega,?_⟩
       all_goals(repeat' first|refine ao ?_|simp)
       all_goals exact bY.rng _ hi g ⟨by simp[fresh,aH,az,cd,aM,ae,ix,r9,r8,r7,r6],eo (by simp[fresh,aH,az,cd,aM,ae,ix,r9,r8,r7,r6]),ep (by simp[fresh,aH,az,dV,aM,ae,ix,r9,r8,r7,r6]),Ψ⟩
  ·obtain⟨d,v,hdi⟩:=eW t;have y:=m.step v;have O:=K d (ft v);have E:bT au 203 [cQ d,cQ e] (.bool (oL d e)):=ar8 O P;clear m v g A;cases keep with
   |false=>simp only[Bool.false_and]at y;exact iW
   |true=>
    simp only[Bool.true_and,xV]at y;by_cases q:fa d e=0
    ·rw[lK ((mQ.zero _ _).1 q),Bool.true_or]at y;simp[t,hdi];(repeat' first|refine ao ?_|refine aO (l _) ?_|refine aP (l _) ?_|simp[t,hdi,q]);all_goals exact bY.rng true t y b9
    ·rw[mx (fun h=>q ((mQ.zero _ _).2 h)),Bool.false_or]at y;have B:(fa d e==0)=false:=by simp[q]
     cases a7:oL d e
     ·rw[a7]at y E;simp[t,hdi];(repeat' first|refine ao ?_|refine aO (l _) ?_|refine aP (l _) ?_|refine aO E ?_|refine aP E ?_|simp[t,hdi,q,B]);all_goals exact bY.rng true t y b9
     ·rw[a7]at y E;simp[t,hdi];(repeat' first|refine ao ?_|refine aO (l _) ?_|refine aP (l _) ?_|refine aO E ?_|refine aP E ?_|simp[t,hdi,q,B]);all_goals exact bY.rng false t y b9
def _root_.Go.Pv.Bd.k(b:Bd)(κ:Nat):af:= .agg [aj b.v,aj b.t.kind,aj b.t.int,.str b.t.name,.slice 4 (.tr (.loc κ) 0) (b.t.args.map T.e)]
def Iv:nH Bd.k Bd.e:=⟨fun x n=>rfl,fun x n=>⟨trivial,trivial,trivial,trivial,Ck n,trivial⟩,fun x n=>by simp[Bd.k,b7],fun S x n h=>by simp[Bd.k,az,aH,h]⟩
@[simp]def aul(t:T)(n:Nat):cells (t.k n)=[aj t.kind,aj t.int,.str t.name,.slice 4 (.tr (.loc n) 0) (t.args.map T.e)]:=rfl
@[simp]def axD(t:T)(n:Nat):eU (t.k n)=true:=rfl
def OW(t:List Bd)(k:t.length<=1000000):fJ au 168 [bL (t.map Bd.e)] fun κ=>.slice 5 (.tr (.loc κ) 0) (t.map Bd.e):=by
 refine fJ.mk mixed a1 Tryz.func168 Zj Ψ fun j κ=>?_;unfold K8;simp;refine fU (fun i (x:Nat×List (Bd×Nat))=>⟨[(7,bL (t.map Bd.e)),(8,aj t.length),(3,.slice 5 (.own (.loc 0)) (j3 Bd.k x.2)),(9,aj i)],[],[(.loc 0,⟨x.2.length,113,5,none⟩)],x.1,[]⟩) t.length (fun i x=>1<=x.1/\q6 x.1 x.2/\x.2.map (·.1)=t.take i) (1,[]) b9 ⟨Ω,.nil _,Ψ⟩ (fun x c _=>?_) (fun i x hi c _=>?_)
 ·obtain⟨n,out⟩:=x;obtain⟨J,U,a⟩:=c;simp only[jC]at J U a;simp;(repeat' first|refine ao ?_|simp);(refine hV.val Ψ ?_;simp[bc,bf,a6,e3,hj,ez,gO,ed,gH,tnL,tn,fm,fX,fold,hy,hv,iA,ae,eg,cf,b7,Iv.okL,Iv.nodup U,Iv.stL,a])
 ·obtain⟨n,out⟩:=x;obtain⟨J,U,a⟩:=c;simp only at J U a;obtain⟨b,g,f⟩:=eW hi;have h:out.length<=1000000:=by have:=fy List.length a;simp at this;omega
  simp[hi,f];(refine hM.own Ψ (anj b.t) (by simp[qv,ae]<;>omega) ?_;simp);(repeat' first|refine ao ?_|simp);have e:=U.snoc b (show n<=n+1+18 by omega) (show n+1+18<n+1+24 by omega);have d:=Iv.kin e (dP _) [];simp[fresh]at d;refine bY.rng (n+1+24,out++[(b,n+1+18)]) hi ?_ ?_
  ·exact⟨Ψ,e,by rw[nE g,<-a];simp⟩
  simp;exact⟨by simp[fresh,aH,az,cd,aM,ae];exact⟨rfl,d⟩,eo (by simp[fresh,aH,az,cd,aM,ae]),ep (by simp[fresh,aH,az,cd,aM,ae,dV]),Ψ⟩
def mN.fst{s:List (List Bd)}{t:List Bd}{acc:List (List Bd)}(h:mN s 0 acc)(a:s[0]? =some t):mN s 1 (if jS s t=true then acc++[t]else acc):=by
 unfold mN at*;rw[uZ a]at h;have e:(if(1:Nat)=0 then none else s[1-1]?)=some t:=by simpa using a
 have b:acc++(t::cU (some t) (s.drop 1)).filter (jS s)=(cU none s).filter (jS s):=by rw[<-h];simp[cU]
 rw[e,<-b];by_cases ab:jS s t=true<;>simp[ab]
def mN.eq{s:List (List Bd)}{i:Nat}{t:List Bd}{acc:List (List Bd)}(h:mN s i acc)(hi:i≠0)(b:s[i-1]? =some t)(a:s[i]? =some t):mN s (i+1) acc:=by
 unfold mN at*;rw[if_neg hi,b,uZ a]at h;have e:(if i+1=0 then none else s[i+1-1]?)=some t:=by rw[if_neg Ω];exact a
 rw[e,<-h];simp[cU]
def mN.ne{s:List (List Bd)}{i:Nat}{p t:List Bd}{acc:List (List Bd)}(h:mN s i acc)(hi:i≠0)(b:s[i-1]? =some p)(a:s[i]? =some t)(d:¬p=t):mN s (i+1) (if jS s t=true then acc++[t]else acc):=by
 unfold mN at*;rw[if_neg hi,b,uZ a]at h;have e:(if i+1=0 then none else s[i+1-1]?)=some t:=by rw[if_neg Ω];exact a
 have c:cU (some p) (t::s.drop (i+1))=t::cU (some t) (s.drop (i+1)):=by simp[cU,d]
 rw[c]at h;rw[e,<-h];by_cases ab:jS s t=true<;>simp[ab]
def ars(l:List (List Bd)):(p8 fa l).length=l.length:=(Am fa l).length_eq
def al5(S:aB->Prop)(l:List (List Bd))(d:List Bd):aH S (l.map cQ++[cQ d])=True:=by have:=N6 S (l++[d]);rw[List.map_append]at this;exact h4 this
def G7(d:List Bd)(κ:Nat):af:= .slice 5 (.tr (.loc κ) 0) (d.map Bd.e)
def BU:nH G7 cQ:=⟨fun x n=>rfl,fun x n=>Ck n,fun x n=>by simp[G7,cQ,b7],fun S x n h=>by simp[G7,az,h]⟩
def fin{s:List (List Bd)}{i:Nat}{out:List (List Bd×Nat)}{A:List (List Bd)}(e:out.map (·.1)=A)(h:A.length<=i+1/\mN s (i+1) A):out.length<=i+1/\mN s (i+1) (out.map (·.1)):=by subst e;simpa using h
def ani(l:List (List Bd))(W:∀d∈l,fp d):fJ au 167 [cX (l.map cQ)] fun κ=>.slice 1 (.tr (.loc κ) 0) ((lZ l).map cQ):=by
 generalize bt:lZ l=R;rw[amT]at bt;refine fJ.mk mixed a1 Tryz.func167 anA Ψ fun aR κ=>?_;unfold R8;have Z:l.length<=68719476736:=by simp[eI,eN,eJ,lim]at aR;omega
 simp;refine eZ [0,12,13] (fun i (_:Unit)=>[(14,aj i)]) l.length (fun _ _=>True) () b9 trivial (fun _ _ _=>?_) (fun i _ hi _ _=>?_);rotate_left
 ·obtain⟨e,he,MS⟩:=eW hi;have fk:bT au 86 [cQ e] (.bool true):=q1 (W e (ft he));exact iW
 simp;(repeat' first|refine ao ?_|simp);all_goals try refine⟨by unfold lim;omega,?_⟩
 all_goals(repeat' first|refine ao ?_|simp)
 refine CallDo.ob (ajq l Z) (KB l) (by unfold vx eB;exact aX) (by unfold vx eB;exact aX) (by simp[aM,eB,ae]) ?_;rintro r ak ⟨rfl,rfl⟩;refine⟨yK _ _,?_⟩;obtain⟨s,E⟩:∃s,s=p8 fa l:=⟨_,rfl⟩;have qD:s.length=l.length:=by rw[E];exact ars l
 have Q:∀d∈s,fp d:=fun d v=>W d (by rw[E,abK]at v;exact v);rw[<-E]at bt;rw[<-E];clear E;simp[vx,eB,cM];refine fU (fun i (x:Nat×List (List Bd×Nat))=>⟨[(5,.ptr (.obj 822) 0),(6,.slice 1 (.own (.loc 0)) (j3 G7 x.2)),(30,.row 1 (.obj 821) s.length),(31,aj s.length),(32,aj i)],[(.obj 822,[.row 1 (.obj 821) s.length])],[(.loc 0,⟨x.2.length,46,1,none⟩),(.obj 821,⟨s.length,46,1,some (s.map cQ)⟩)],x.1,[.obj 821,.obj 822]⟩) s.length (fun i x=>1<=x.1/\q6 x.1 x.2/\(x.2.map (·.1)).length<=i/\mN s i (x.2.map (·.1))) (1,[]) b9 ⟨dP _,.nil _,Ψ,by simp[mN]⟩ (fun x f _=>?_) (fun i x hi f _=>?_)
 ·obtain⟨n,out⟩:=x;obtain⟨J,U,_,f⟩:=f;simp only at J U f;rw[mN,List.drop_length]at f;have aq:out.map (·.1)=R:=by rw[<-bt];simpa[cU]using f
  simp;(repeat' first|refine ao ?_|simp);(refine hV.val Ψ ?_;simp[bc,bf,a6,e3,hj,ez,gO,ed,gH,tnL,tn,fm,fX,fold,hy,hv,iA,ae,eg,cf,b7,BU.okL,BU.nodup U,BU.stL,aq])
 ·obtain⟨n,out⟩:=x;obtain⟨J,U,S,f⟩:=f;simp only at J U S f;have a:=BU.kin U (dP _) [.obj 821,.obj 822];simp[fresh]at a;have c:¬n=0:=Ω
  have xE:out.length<=68719476735:=by simp at S;omega
  generalize G:out.map (·.1)=acc at S f;have ta:acc.length<=68719476735:=Ω
  obtain⟨t,w,y⟩:=eW hi;have dy:=Q t (ft w);have H:(if jS s t=true then acc++[t]else acc).length<=acc.length+1:=by split<;>simp
  rcases Nat.eq_zero_or_pos i with rfl|V
  ·have Y:=f.fst w;have o:(if jS s t=true then acc++[t]else acc).length<=0+1/\mN s (0+1) (if jS s t=true then acc++[t]else acc):=⟨kE H Ω,Y⟩;clear f Y w;simp[hi,y];(repeat' first|refine ao ?_|simp[hi,y]);refine eZ [5,6,8,30,31,32,49,50] (fun j (b:Bool)=>[(9,.bool b),(51,aj j)]) s.length (rv s t) true ⟨by simp[fresh,aH,az,cd,aM,ae,a,c],eo (by simp[fresh,aH,az,cd,aM,ae,a,c]),ep (by simp[fresh,aH,az,dV,aM,ae,a,c]),Ψ⟩ (by simp[rv]) (fun keep f _=>?_) (fun j keep g f _=>?_)
   ·rw[rv,jC,<-XE]at f;rw[<-f]at o;clear f;cases keep with
    |false=>simp only[hT,if_false]at o;simp;(repeat' first|refine ao ?_|simp);all_goals exact bY.rng (n,out) hi ⟨J,U,fin G o⟩ ⟨by simp[fresh,aH,az,cd,aM,ae,a,c],eo (by simp[fresh,aH,az,cd,aM,ae,a,c]),ep (by simp[fresh,aH,az,dV,aM,ae,a,c]),Ψ⟩
    |true=>
     simp only[if_true]at o;clear H;simp;(repeat' first|refine ao ?_|simp);(refine CallDo.own Ψ (OW t dy.len) (by simp[eg]) ?_;simp);all_goals try refine⟨by unfold lim;omega,?_⟩
     all_goals(repeat' first|refine ao ?_|simp)
     have B:=U.snoc t (dP n) (show n<n+2 by omega);have F:=BU.kin B (dP _) [.obj 821,.obj 822];simp[fresh]at F;refine bY.rng (n+2,out++[(t,n)]) hi ?_ ?_
     ·exact⟨Ψ,B,fin (by simp[G]) o⟩
     simp;exact⟨by simp[fresh,aH,az,cd,aM,ae];exact⟨rfl,F⟩,eo (by simp[fresh,aH,az,cd,aM,ae]),ep (by simp[fresh,aH,az,cd,aM,ae,dV]),Ψ⟩
   ·obtain⟨d,v,hdi⟩:=eW g;have k:=f.step v;have P:=Q d (ft v);have u:bT au 208 [cQ d,cQ t] (.bool (oL d t)):=acQ d P.len dy;have m:bT au 207 [cQ d,cQ t] (aj (fa d t)):=Km d t;clear f v o;by_cases q:fa d t=0
    ·rw[xV,lK ((mQ.zero _ _).1 q),Bool.true_or,Bool.and_true]at k;rw[q]at m;simp[g,hdi];(repeat' first|refine ao ?_|refine aO m ?_|refine aP m ?_|simp[g,hdi]);all_goals exact bY.rng keep g k ⟨by simp[fresh,aH,az,cd,aM,ae,a,c],eo (by simp[fresh,aH,az,cd,aM,ae,a,c]),ep (by simp[fresh,aH,az,dV,aM,ae,a,c]),Ψ⟩
    ·rw[xV,mx (fun h=>q ((mQ.zero _ _).2 h)),Bool.false_or]at k;have A:(fa d t !=0)=true:=by simp[q]
     cases a7:oL d t
     ·rw[a7]at k u;simp only[Bool.not_false,Bool.and_true]at k;simp[g,hdi];(repeat' first|refine ao ?_|refine aO m ?_|refine aP m ?_|refine aO u ?_|refine aP u ?_|simp[g,hdi,q,A]);all_goals exact bY.rng keep g k ⟨by simp[fresh,aH,az,cd,aM,ae,a,c],eo (by simp[fresh,aH,az,cd,aM,ae,a,c]),ep (by simp[fresh,aH,az,dV,aM,ae,a,c]),Ψ⟩
     ·rw[a7]at k u;simp only[Bool.not_true,Bool.and_false]at k;simp[g,hdi];(repeat' first|refine ao ?_|refine aO m ?_|refine aP m ?_|refine aO u ?_|refine aP u ?_|simp[g,hdi,q,A]);all_goals exact bY.rng false g k ⟨by simp[fresh,aH,az,cd,aM,ae,a,c],eo (by simp[fresh,aH,az,cd,aM,ae,a,c]),ep (by simp[fresh,aH,az,dV,aM,ae,a,c]),Ψ⟩
  ·obtain⟨p,z⟩:∃p,s[i-1]? =some p:=⟨_,cl Ω⟩;have M:((i:Int)-1).toNat=i-1:=Ω
   have N:∀h,(s[i-1]'h)=p:=fun h=>by rw[cl h]at z;exact e7 z
   have X:¬i=0:=Ω
   have L:i-1<s.length:=Ω
   have K:(0:Int)<i:=Ω
   have jR:bT au 207 [cQ p,cQ t] (aj (fa p t)):=Km p t;by_cases O:p=t
   ·have o:acc.length<=i+1/\mN s (i+1) acc:=⟨Ω,f.eq X (by rw[z,O]) w⟩;rw[(mQ.zero _ _).2 O]at jR;clear f w z;simp[hi,y,M,N,L,K];(repeat' first|refine ao ?_|refine aO jR ?_|refine aP jR ?_|simp[hi,y,M,N,L,V,K]);all_goals exact bY.rng (n,out) hi ⟨J,U,fin G o⟩ ⟨by simp[fresh,aH,az,cd,aM,ae,a,c],eo (by simp[fresh,aH,az,cd,aM,ae,a,c]),ep (by simp[fresh,aH,az,dV,aM,ae,a,c]),Ψ⟩
   ·have o:(if jS s t=true then acc++[t]else acc).length<=i+1/\mN s (i+1) (if jS s t=true then acc++[t]else acc):=⟨kE H Ω,f.ne X z w O⟩;have q0:¬fa p t=0:=fun h=>O ((mQ.zero _ _).1 h);have ZV:(fa p t==0)=false:=by simp[q0]
    clear f w z;simp[hi,y,M,N,L,K];(repeat' first|refine ao ?_|refine aO jR ?_|refine aP jR ?_|simp[hi,y,M,N,L,V,K,q0,ZV]);refine eZ [5,6,8,30,31,32,49,50] (fun j (b:Bool)=>[(9,.bool b),(51,aj j)]) s.length (rv s t) true ⟨by simp[fresh,aH,az,cd,aM,ae,a,c],eo (by simp[fresh,aH,az,cd,aM,ae,a,c]),ep (by simp[fresh,aH,az,dV,aM,ae,a,c]),Ψ⟩ (by simp[rv]) (fun keep f _=>?_) (fun j keep g f _=>?_)
    ·rw[rv,jC,<-XE]at f;rw[<-f]at o;clear f;cases keep with
     |false=>simp only[hT,if_false]at o;simp;(repeat' first|refine ao ?_|simp);all_goals exact bY.rng (n,out) hi ⟨J,U,fin G o⟩ ⟨by simp[fresh,aH,az,cd,aM,ae,a,c],eo (by simp[fresh,aH,az,cd,aM,ae,a,c]),ep (by simp[fresh,aH,az,dV,aM,ae,a,c]),Ψ⟩
     |true=>
      simp only[if_true]at o;clear H;simp;(repeat' first|refine ao ?_|simp);(refine CallDo.own Ψ (OW t dy.len) (by simp[eg]) ?_;simp);all_goals try refine⟨by unfold lim;omega,?_⟩
      all_goals(repeat' first|refine ao ?_|simp)
      have B:=U.snoc t (dP n) (show n<n+2 by omega);have F:=BU.kin B (dP _) [.obj 821,.obj 822];simp[fresh]at F;refine bY.rng (n+2,out++[(t,n)]) hi ?_ ?_
      ·exact⟨Ψ,B,fin (by simp[G]) o⟩
      simp;exact⟨by simp[fresh,aH,az,cd,aM,ae];exact⟨rfl,F⟩,eo (by simp[fresh,aH,az,cd,aM,ae]),ep (by simp[fresh,aH,az,cd,aM,ae,dV]),Ψ⟩
    ·obtain⟨d,v,hdi⟩:=eW g;have k:=f.step v;have P:=Q d (ft v);have u:bT au 208 [cQ d,cQ t] (.bool (oL d t)):=acQ d P.len dy;have m:bT au 207 [cQ d,cQ t] (aj (fa d t)):=Km d t;clear f v o;by_cases q:fa d t=0
     ·rw[xV,lK ((mQ.zero _ _).1 q),Bool.true_or,Bool.and_true]at k;rw[q]at m;simp[g,hdi];(repeat' first|refine ao ?_|refine aO m ?_|refine aP m ?_|simp[g,hdi]);all_goals exact bY.rng keep g k ⟨by simp[fresh,aH,az,cd,aM,ae,a,c],eo (by simp[fresh,aH,az,cd,aM,ae,a,c]),ep (by simp[fresh,aH,az,dV,aM,ae,a,c]),Ψ⟩
     ·rw[xV,mx (fun h=>q ((mQ.zero _ _).2 h)),Bool.false_or]at k;have A:(fa d t !=0)=true:=by simp[q]
      cases a7:oL d t
      ·rw[a7]at k u;simp only[Bool.not_false,Bool.and_true]at k;simp[g,hdi];(repeat' first|refine ao ?_|refine aO m ?_|refine aP m ?_|refine aO u ?_|refine aP u ?_|simp[g,hdi,q,A]);all_goals exact bY.rng keep g k ⟨by simp[fresh,aH,az,cd,aM,ae,a,c],eo (by simp[fresh,aH,az,cd,aM,ae,a,c]),ep (by simp[fresh,aH,az,dV,aM,ae,a,c]),Ψ⟩
      ·rw[a7]at k u;simp only[Bool.not_true,Bool.and_false]at k;simp[g,hdi];(repeat' first|refine ao ?_|refine aO m ?_|refine aP m ?_|refine aO u ?_|refine aP u ?_|simp[g,hdi,q,A]);all_goals exact bY.rng false g k ⟨by simp[fresh,aH,az,cd,aM,ae,a,c],eo (by simp[fresh,aH,az,cd,aM,ae,a,c]),ep (by simp[fresh,aH,az,dV,aM,ae,a,c]),Ψ⟩
def ati(l:List T)(h:∀t∈l,t.fit=true):bT au 172 [dx (l.map T.e)] (.bool true):=by
 refine bI a1 Tryz.func172 Zl fun b=>?_;unfold La;have d:l.length<=68719476736:=by simp[eI,eN,eJ,lim]at b;omega
 simp;refine eZ [5,6] (fun i (_:Unit)=>[(7,aj i)]) l.length (fun _ _=>True) () b9 trivial (fun _ _ _=>?_) (fun i _ hi _ _=>?_)
 ·exact cn
 ·obtain⟨t,a,c⟩:=eW hi;have e:=Kf (h t (ft a));clear a;exact iW
def jG(m:Int):cT:=⟨[(.obj 831,[aj m])],[]⟩
def wX(m:Int):eA (jG m):=by unfold jG;exact eA.of ⟨by intro m;simp[ae],by intro m;simp[ae]⟩ Ψ Ψ
def adA(a b:Int):Same (jG a) (jG b):=Same.keys (by simp[jG]) (by simp[jG])
def aiM(v m b:Int)(h:Gd v m=some b):bH au 204 [aj v,.ptr (.obj 831) 0] (jG m) fun r d=>r= .tuple []/\d=jG b:=by
 unfold Gd at h;split at h;rotate_left
 ·cases h
 rename_i f;cases h;have a:=wX m;simp only[jG]at a⊢;by_cases hm:m<v+1
 ·rw[sK,if_pos hm];refine bH.mk mixed a1 Tryz.func204 Zh Ψ a.obj fun e c=>?_;unfold K6;simp;(repeat' first|refine ao ?_|simp[hm]);(refine c5.at (jG (v+1)) Ψ (by first|exact wX _|exact wX ‹_› _) (Same.keys (by simp[jG]) (by simp[jG])) (by simp only[jG,b6,ca];exact aX) (by simp only[jG,b6,ca];exact aX) ?_;simp[dd,bc,bf,a6,aM,ae,jG])
 ·rw[sK,if_neg hm];refine bH.mk mixed a1 Tryz.func204 Zh Ψ a.obj fun e c=>?_;unfold K6;simp;(repeat' first|refine ao ?_|simp[hm]);(refine c5.at (jG m) Ψ (by first|exact wX _|exact wX ‹_› _) (Same.keys (by simp[jG]) (by simp[jG])) (by simp only[jG,b6,ca];exact aX) (by simp only[jG,b6,ca];exact aX) ?_;simp[dd,bc,bf,a6,aM,ae,jG])
def yx(l:List T):Int:=l.foldl (fun m t=>t.fold sK m) 0
def Ip(l:List T)(i:Nat)(m:Int):Prop:=m=yx (l.take i)
def acu(l:List T)(h:∀t∈l,t.fit=true):bT au 162 [dx (l.map T.e)] (aj (yx l)):=by
 have f:=ati l h;generalize bt:yx l=R;refine bI a1 Tryz.func162 anH fun g=>?_;unfold Sf;have k:l.length<=68719476736:=by simp[eI,eN,eJ,lim]at g;omega
 simp;(repeat' first|refine ao ?_|refine aO f ?_|refine aP f ?_|simp);refine fU (fun i (m:Int)=>⟨[(3,.ptr (.obj 831) 0),(9,dx (l.map T.e)),(10,aj l.length),(11,aj i)],[(.obj 831,[aj m])],[],0,[.obj 831]⟩) l.length (Ip l) 0 b9 rfl (fun m b _=>?_) (fun i m hi b _=>?_)
 ·rw[Ip,jC,bt]at b;subst b;exact cn
 ·obtain⟨t,d,e⟩:=eW hi;have c:t.ok=true:=by have:=h t (ft d);simp only[T.fit,cR]at this;exact this.1
  have j:Ip l (i+1) (t.fold sK m):=by rw[Ip,nE d,yx,List.foldl_append,b];rfl
  have key:=Mp jG wX adA 204 [.ptr (.obj 831) 0] (fun a=>by simp[jG,aM,ae]) Ψ Gd (fun v a br h=>aiM v a br h) t m _ (Q2 t m c);clear b d;simp[hi,e];(repeat' first|refine ao ?_|simp[e,hi]);(refine CallDo.ob (key) (by first|exact wX _|exact wX ‹_› _) (by simp only[jG,b6,ca];exact aX) (by simp only[jG,b6,ca];exact aX) (by simp[aM,ae,jG]) ?_;rintro r n ⟨rfl,rfl⟩;refine⟨(Same.keys (by simp[jG]) (by simp[jG])),?_⟩;simp[cM,jG]);(repeat' first|refine ao ?_|simp);refine bY.rng (t.fold sK m) hi j ?_;exact b9
def acv{s:List Bd}(j:fp s){n:Int}(r:0<=n):bT au 89 [bL (s.map Bd.e),aj n] (.bool (s.all (lN n))):=by
 have u:=j.len;generalize bt:s.all (lN n)=R;refine bI a1 Tryz.func89 anI fun w=>?_;unfold Sg;simp;refine eZ [1,7,8] (fun i (_:Unit)=>[(9,aj i)]) s.length (qK (lN n) s) () b9 (fun k b ab=>Ω) (fun _ a _=>?_) (fun i _ hi a _=>?_)
 ·have:R=true:=by rw[<-bt,j7];intro b q;obtain⟨k,ab,e⟩:=pA q;exact a k b ab (by rw[cl ab,e])
  rw[this];exact cn
 ·obtain⟨b,c,v⟩:=eW hi;have f:lN n b=false->R=false:=fun h=>by rw[<-bt,Bool.eq_false_iff];intro g;rw[j7]at g;rw[g b (ft c)]at h;cases h
  have d:=acu [b.t] (fun t l=>by simp at l;subst l;exact j.fit b (ft c));have hle:=Kq (n:=n) b.t 0;rw[show yx [b.t]=b.t.fold sK 0 from rfl]at d;simp only[ha,List.map_nil]at d;generalize b.t.fold sK 0=m at d hle;by_cases J:b.v<n
  ·have o:¬n<=b.v:=Ω
   cases U:gg n b.t
   ·have p:n<m:=by rw[U]at hle;simp at hle;omega
    rw[f (by simp[lN,U])];clear a c hle;exact cn
   ·have p:¬n<m:=by rw[U]at hle;simp[r]at hle;omega
    have x:=a.step c (by simp[lN,J,U]);clear a c hle;exact iW
  ·have o:n<=b.v:=Ω
   rw[f (by simp[lN,J])];clear a c hle;exact cn
def w3:C:=(aa [c0 1 0,bz 2 false] (.seq (aa [aF 11 0 1 1,ay 12 1 11,aV 13 .lss 12 0,I 14 13,ax 14 false (aF 15 0 1 1),ax 14 false (ay 16 1 15),ax 14 false (aV 17 .gtr 16 100000),ds 18 14 17,I 19 18,ax 19 false (aF 20 1 1 1),ax 19 false (ay 21 1 20),ax 19 false (cY 22 86 21),ax 19 false (cO 23 22),ds 24 19 23,I 25 24,ax 25 false (aF 26 3 1 1),ax 25 false (ay 27 1 26),ax 25 false (cY 28 87 27),ax 25 false (cO 29 28),ds 30 25 29,I 31 30,ax 31 false (aF 32 4 1 1),ax 31 false (ay 33 1 32),ax 31 false (cY 34 88 33),ax 31 false (cO 35 34),ds 36 31 35,I 37 36,ax 37 false (aF 38 1 1 1),ax 37 false (ay 39 1 38),ax 37 false (aF 40 0 1 1),ax 37 false (ay 41 1 40),ax 37 false (cc 42 89 39 41),ax 37 false (cO 43 42),ds 44 37 43] (aW 44 (aa [bz 2 false] .ret) .skip)) (.seq (aa [aF 45 2 1 1,ay 46 1 45,cw 47 46,bQ 48 0] (gx 49 48 47 (.seq (.block 1 (aa [ck 50 1 46 48,ay 51 1 50,I 4 51] (aa [I 52 4,cY 53 86 52,cO 54 53,I 55 54,cg 55 false 56 4,ax 55 false (aF 57 0 1 1),ax 55 false (ay 58 1 57),ax 55 false (cc 59 89 56 58),ax 55 false (cO 60 59),ds 61 55 60] (aW 61 (aa [bz 2 false] .ret) .skip)))) (.region [aV 62 .add 48 1,I 48 62])))) (.seq (aa [aF 63 3 1 1,ay 64 1 63,cw 65 64,bQ 66 0] (.block 2 (.loop (aa [bu 67 .lss 66 65] (.seq (aW 67 .skip (.exit 2)) (.seq (.block 3 (aa [ck 68 2 64 66,bk 69 2 68,dt (.alloc 6 none (.agg [.int .i64 0,.int .i64 0])),bV 2 6 69] (aa [aF 70 0 1 6,ay 71 1 70,aF 72 0 1 1,ay 73 1 72,bu 74 .geq 71 73] (aW 74 (aa [bz 2 false] .ret) .skip)))) (.region [aV 75 .add 66 1,I 66 75]))))))) (.seq (aa [aF 76 4 1 1,ay 77 1 76,cw 78 77,bQ 79 0] (.block 4 (.loop (aa [bu 80 .lss 79 78] (.seq (aW 80 .skip (.exit 4)) (.seq (.block 5 (aa [ck 81 2 77 79,bk 82 2 81,dt (.alloc 8 none (.agg [.int .i64 0,.str []])),bV 2 8 82] (aa [aF 83 0 1 8,ay 84 1 83,aF 85 0 1 1,ay 86 1 85,bu 87 .geq 84 86] (aW 87 (aa [bz 2 false] .ret) .skip)))) (.region [aV 88 .add 79 1,I 79 88]))))))) (aa [bk 90 5 1,cY 91 90 90,I 89 91,cV 92 0 89,cV 93 1 89,dI 9 ig,bV 5 9 92,I 10 93] (aa [I 94 10,I 95 94,ax 95 true (bk 96 5 9),ax 95 true (bk 97 5 1),ax 95 true (cc 98 91 96 97),ei 99 95 98,I 2 99] .ret)))))))
def GP:C:=(aa [c0 1 0,dI 2 ig,bz 3 false] (aa [aF 26 1 1 1,ay 27 1 26,aF 28 3 1 1,ay 29 1 28,cc 30 163 27 29,I 25 30,cV 31 0 25,cV 32 1 25,I 4 31,I 5 32] (aa [aF 34 1 1 1,ay 35 1 34,aF 36 4 1 1,ay 37 1 36,cc 38 164 35 37,I 33 38,cV 39 0 33,cV 40 1 33,I 6 39,I 7 40] (.seq (aa [I 41 5,cO 42 41,I 43 42,cg 43 false 44 7,ax 43 false (cO 45 44),ds 46 43 45] (aW 46 (aa [jr 47 ig [],bV 5 2 47,bz 3 false] .ret) .skip)) (aa [dt (.mkmap 48 none),I 8 48] (.seq (aa [I 49 4,cw 50 49,bQ 51 0] (gx 52 51 50 (.seq (.block 1 (aa [ck 53 2 49 51,bk 54 2 53,dt (.alloc 10 none (.agg [.int .i64 0,.int .i64 0])),bV 2 10 54] (aa [aF 55 1 1 10,ay 56 1 55,aV 57 .eql 56 3] (aW 57 (.region [I 58 8,aF 59 0 1 10,ay 60 1 59,dt (.mput .i (.t 58) (.t 60) (.c (.bool true)))]) .skip)))) (.region [aV 61 .add 51 1,I 51 61])))) (aa [fe 62 2 100 [],I 11 62] (.seq (aa [I 63 6,cw 64 63,bQ 65 0] (.block 2 (.loop (aa [bu 66 .lss 65 64] (.seq (aW 66 .skip (.exit 2)) (.seq (.block 3 (aa [ck 67 2 63 65,bk 68 2 67,dt (.alloc 13 none (.agg [.int .i64 0,.str []])),bV 2 13 68] (aa [I 69 8,aF 70 0 1 13,ay 71 1 70,cb 72 (.mget .i (.bool false) false (.t 69) (.t 71)),cO 73 72] (aW 73 (.region [I 74 11,bk 75 2 13,fe 76 2 100 [.t 75],h3 77 2 100 74 76,I 11 77]) .skip)))) (.region [aV 78 .add 65 1,I 65 78]))))))) (aa [fe 79 1 46 [],I 14 79] (.seq (aa [aF 80 2 1 1,ay 81 1 80,cw 82 81,bQ 83 0] (.block 4 (.loop (aa [bu 84 .lss 83 82] (.seq (aW 84 .skip (.exit 4)) (.seq (.block 5 (aa [ck 85 1 81 83,ay 86 1 85,I 16 86] (aa [aF 88 1 1 1,ay 89 1 88,I 90 16,cc 91 165 89 90,I 87 91,cV 92 0 87,cV 93 1 87,I 17 92,I 18 93] (.seq (aa [I 94 18,cO 95 94] (aW 95 (.exit 5) .skip)) (aa [I 97 17,I 98 4,cc 99 163 97 98,I 96 99,cV 100 0 96,cV 101 1 96,I 19 100,I 20 101] (aa [I 103 17,I 104 11,cc 105 164 103 104,I 102 105,cV 106 0 102,cV 107 1 102,I 21 106,I 22 107] (.seq (aa [I 108 20,cO 109 108,I 110 109,cg 110 false 111 22,ax 110 false (cO 112 111),ds 113 110 112] (aW 113 (.exit 5) .skip)) (aa [aF 114 1 1 1,ay 115 1 114,I 116 17,cc 117 166 115 116,I 23 117] (.seq (aa [I 118 23,cw 119 118,aV 120 .eql 119 0] (aW 120 (aa [jr 121 ig [],bV 5 2 121,bz 3 false] .ret) .skip)) (.region [I 122 14,I 123 23,fe 124 1 46 [.t 123],h3 125 1 46 122 124,I 14 125])))))))))) (.region [aV 126 .add 83 1,I 83 126]))))))) (aa [I 127 14,cY 128 167 127,I 24 128] (.seq (aa [I 129 24,cw 130 129,aV 131 .gtr 130 30] (aW 131 (aa [jr 132 ig [],bV 5 2 132,bz 3 false] .ret) .skip)) (.seq (.drawn true 142 [aF 133 0 1 1,ay 134 1 133,aF 135 1 1 1,ay 136 1 135,cY 137 168 136,I 138 24,I 139 4,I 140 11,jr 141 ig [(0,1,(.t 134)),(1,1,(.t 137)),(2,1,(.t 138)),(3,1,(.t 139)),(4,1,(.t 140))],bV 5 2 141,bz 3 true]) .ret)))))))))))))
def yT:C:=(aa [c0 2 0,c0 3 1,bz 4 false] (.seq (aa [aF 8 0 1 2,ay 9 1 8,aF 10 0 1 3,ay 11 1 10,bu 12 .neq 9 11,I 13 12,ax 13 false (aF 14 1 1 2),ax 13 false (ay 15 1 14),ax 13 false (aF 16 1 1 3),ax 13 false (ay 17 1 16),ax 13 false (cc 18 169 15 17),ax 13 false (cO 19 18),ds 20 13 19,I 21 20,ax 21 false (aF 22 2 1 2),ax 21 false (ay 23 1 22),ax 21 false (cw 24 23),ax 21 false (aF 25 2 1 3),ax 21 false (ay 26 1 25),ax 21 false (cw 27 26),ax 21 false (bu 28 .neq 24 27),ds 29 21 28,I 30 29,ax 30 false (aF 31 3 1 2),ax 30 false (ay 32 1 31),ax 30 false (cw 33 32),ax 30 false (aF 34 3 1 3),ax 30 false (ay 35 1 34),ax 30 false (cw 36 35),ax 30 false (bu 37 .neq 33 36),ds 38 30 37,I 39 38,ax 39 false (aF 40 4 1 2),ax 39 false (ay 41 1 40),ax 39 false (cw 42 41),ax 39 false (aF 43 4 1 3),ax 39 false (ay 44 1 43),ax 39 false (cw 45 44),ax 39 false (bu 46 .neq 42 45),ds 47 39 46] (aW 47 (aa [bz 4 false] .ret) .skip)) (.seq (aa [aF 48 2 1 2,ay 49 1 48,cw 50 49,bQ 51 0] (gx 52 51 50 (.seq (.block 1 (aa [I 53 51,I 5 53] (.seq (.drawn true 103 [aF 54 2 1 2,ay 55 1 54,I 56 5,ck 57 1 55 56,ay 58 1 57,aF 59 2 1 3,ay 60 1 59,I 61 5,ck 62 1 60 61,ay 63 1 62,cc 64 169 58 63,cO 65 64]) (aW 65 (aa [bz 4 false] .ret) .skip)))) (.region [aV 66 .add 51 1,I 51 66])))) (.seq (aa [aF 67 3 1 2,ay 68 1 67,cw 69 68,bQ 70 0] (.block 2 (.loop (aa [bu 71 .lss 70 69] (.seq (aW 71 .skip (.exit 2)) (.seq (.block 3 (aa [I 72 70,I 6 72] (.seq (.drawn true 103 [aF 73 3 1 2,ay 74 1 73,I 75 6,ck 76 2 74 75,bk 77 2 76,aF 78 3 1 3,ay 79 1 78,I 80 6,ck 81 2 79 80,bk 82 2 81,cb 83 (.beq true (some [false,false]) (.t 77) (.t 82))]) (aW 83 (aa [bz 4 false] .ret) .skip)))) (.region [aV 84 .add 70 1,I 70 84]))))))) (.seq (aa [aF 85 4 1 2,ay 86 1 85,cw 87 86,bQ 88 0] (.block 4 (.loop (aa [bu 89 .lss 88 87] (.seq (aW 89 .skip (.exit 4)) (.seq (.block 5 (aa [I 90 88,I 7 90] (.seq (.drawn true 103 [aF 91 4 1 2,ay 92 1 91,I 93 7,ck 94 2 92 93,bk 95 2 94,aF 96 4 1 3,ay 97 1 96,I 98 7,ck 99 2 97 98,bk 100 2 99,cb 101 (.beq true (some [false,true]) (.t 95) (.t 100))]) (aW 101 (aa [bz 4 false] .ret) .skip)))) (.region [aV 102 .add 88 1,I 88 102]))))))) (aa [bz 4 true] .ret))))))
def zR:b4 aT w3 [.tmp 2] 1 Tryz.f29=true:=bi
def O7:b4 aT GP [.cell 2 true 5,.tmp 3] 1 Tryz.f90=true:=bi
def Cq:b4 aT yT [.tmp 4] 2 Tryz.f91=true:=bi
def da.e(s:da):af:= .agg [aj s.n,bL (s.b.map Bd.e),cX (s.d.map cQ),b5 (s.k.map bJ.e),b5 (s.m.map bn.e)]
def qT(o:be da):af:= .tuple [(o.getD hF).e,.bool o.isSome]
def wk(k:List bJ)(i:Nat)(l:List (Int×Bool)):Prop:= ∀v,(dp v l).getD false=(k.take i).any fun x=>x.v==v&&x.k==3
def wk.put{k:List bJ}{i:Nat}{l:List (Int×Bool)}(h:wk k i l){x:bJ}(b:k[i]? =some x)(a:x.k=3):wk k (i+1) (fA x.v true l):=fun v=>by
 rw[oS,nE b,List.any_append,<-h v];by_cases e:v=x.v
 ·rw[if_pos e];simp[e,a]
 ·rw[if_neg e];have:(x.v==v)=false:=by simp;exact fun h=>e h.symm
  simp[this]
def wk.skip{k:List bJ}{i:Nat}{l:List (Int×Bool)}(h:wk k i l){x:bJ}(b:k[i]? =some x)(a:¬x.k=3):wk k (i+1) l:=fun v=>by
 rw[nE b,List.any_append,<-h v];have:(x.k==3)=false:=by simp[a]
 simp[this]
def wk.fin{k:List bJ}{l:List (Int×Bool)}(h:wk k k.length l)(ab:jR k)(x:bn):(dp x.v l).getD false= !ly k x:=by rw[h x.v,jC,adQ ab.asc,ly,bne,Bool.not_not]
def uS(k:List bJ)(m:List bn)(i:Nat)(a:List bn):Prop:=a=(m.take i).filter (ly k)
def uS.step{k:List bJ}{m:List bn}{i:Nat}{a:List bn}(h:uS k m i a){x:bn}(b:m[i]? =some x):uS k m (i+1) (if ly k x=true then a++[x]else a):=by
 rw[uS,nE b,List.filter_append,<-h];by_cases e:ly k x=true
 ·rw[if_pos e];simp[e]
 ·rw[if_neg e];simp[e]
def BY(S:aB->Prop)(l:List bn)(d:bn):aH S (l.map bn.e++[d.e])=True:=by have:=N5 S (l++[d]);rw[List.map_append]at this;exact h4 this
def Yq{k:List bJ}{m:List bn}(h:iv m):iv (m.filter (ly k)):=⟨fun x a=>h.at' x (oW.1 a).1,adk _ h.asc⟩
def QJ{G:List (List cJ)}{k:List bJ}{m:List bn}(h:oe G m):oe G (m.filter (ly k)):=fun x a=>h x (oW.1 a).1
def ry.skip{b:List Bd}{k:List bJ}{m:List bn}{aY:List (List Bd)}{i:Nat}{a:List (List Bd)}(h:ry b k m aY i a){d:List Bd}(c:aY[i]? =some d)(he:∀r,hP b k m (d::r)=hP b k m r):ry b k m aY (i+1) a:=⟨by have:=h.1;omega,h.2.1,by rw[<-h.2.2,uZ c,he]⟩
def ry.snoc{b:List Bd}{k:List bJ}{m:List bn}{aY:List (List Bd)}{i:Nat}{a:List (List Bd)}(h:ry b k m aY i a){d x:List Bd}(f:aY[i]? =some d)(e:fp x)(he:∀r,hP b k m (d::r)=(hP b k m r).map (x:: ·)):ry b k m aY (i+1) (a++[x]):=
 ⟨by have:=h.1;simp;omega,fun y c=>by
  rcases kg.1 c with c|c
  ·exact h.2.1 y c
  ·simp at c;subst c;exact e,by
  rw[<-h.2.2,uZ f,he,Option.map_map];congr 1;funext r;simp⟩
def ry.stop{b:List Bd}{k:List bJ}{m:List bn}{aY:List (List Bd)}{i:Nat}{a:List (List Bd)}(h:ry b k m aY i a){d:List Bd}(c:aY[i]? =some d)(he:∀r,hP b k m (d::r)=none):hP b k m aY=none:=by rw[<-h.2.2,uZ c,he];rfl
def ry.fin{b:List Bd}{k:List bJ}{m:List bn}{aY:List (List Bd)}{a:List (List Bd)}(h:ry b k m aY aY.length a):hP b k m aY=some a:=by rw[<-h.2.2,List.drop_length];simp[hP]
def uW(S:aB->Prop)(l:List (List Bd))(d:List Bd):aH S (l.map cQ++[bL (d.map Bd.e)])=True:=al5 S l d
def DH{d:List Bd}(a:fp d):∀e∈iM d,e.1.ok=true/\e.2.ok=true:=fun e he=>by obtain⟨c,aw,rfl⟩:=hb.1 he;have:=a.ok c aw;exact⟨by simpa[T.ok]using this.1,this.2⟩
@[simp]def aw0(l:List bn):fX (l.map bn.e)=True:=h4 (Fb (f:=bn.e) (fun _=>⟨trivial,trivial,trivial⟩) l)
@[simp]def ayc(l:List bn):tnL (l.map bn.e)=[]:=Kb (f:=bn.e) (fun _=>rfl) l
def da.kk(s:da)(κ:Nat):af:= .agg [aj s.n,.slice 5 (.tr (.loc κ) 0) (s.b.map Bd.e),.slice 1 (.tr (.loc κ) 1) (s.d.map cQ),.slice 2 (.tr (.loc κ) 2) (s.k.map bJ.e),.slice 2 (.tr (.loc κ) 3) (s.m.map bn.e)]
def pn(o:be da)(κ:Nat):af:= .tuple [(o.getD hF).kk κ,.bool o.isSome]
def aqH:oa none=fun κ=>.tuple [.slice 2 (.tr (.loc κ) 0) [],.bool false]:=rfl
def abk(k:List bJ):oa (some k)=fun κ=>.tuple [.slice 2 (.tr (.loc κ) 0) (k.map bJ.e),.bool true]:=rfl
def Y5{s:da}(h:oR s){G:List (List cJ)}(kG:G.length<=687000)(a7:oe G s.m):fJ au 90 [s.e] (pn (j5 s)):=by
 generalize f:j5 s=O;have w:=Y4 h.b h.k;have u:=acs h.b h.m kG a7;have kk:=fun k=>JB (acc:=[]) (a:=k) h.b h.k.at' ⟨Ψ,Ψ⟩;have E:=fun m=>JC (acc:=[]) (a:=m) h.b h.m.at' ⟨Ψ,by simp[iS]⟩;have H:=fun m=>JD (acc:=[]) (a:=m) (s:=s.b) a7 (fun x g=>by simp at g);have K:=h.b;have aL:=h.d;clear h a7;unfold j5 at f;obtain⟨n,b,d,Q,m0⟩:=s;simp only at w u kk E H K aL f;have gh:=K.len;simp only[da.e];generalize gU b Q []=ok at w f kk;generalize gZ b m0 []=om at u f E H;cases ok with
 |none=>
  simp only at f;subst f;simp only[aqH]at w;simp only[iX]at u;clear kk E H;refine fJ.mk mixed a1 Tryz.func90 O7 Ψ fun aR κ=>?_;unfold GP;simp;(repeat' first|refine ao ?_|simp);(refine CallDo.own Ψ (w) (by simp[eg]) ?_;simp);(repeat' first|refine ao ?_|refine aO u ?_|refine aP u ?_|simp);all_goals(refine hV.val Ψ ?_;simp[bc,bf,a6,e3,hj,ez,gO,ed,gH,tnL,tn,fm,fX,fold,hy,hv,iA,ae,eg,cf,b7])
  all_goals simp[pn,hF,da.kk]
 |some k=>
  simp only at f;cases om with
  |none=>
   simp only at f;subst f;simp only[abk]at w;simp only[iX]at u;clear kk E H;refine fJ.mk mixed a1 Tryz.func90 O7 Ψ fun aR κ=>?_;unfold GP;simp;(repeat' first|refine ao ?_|simp);(refine CallDo.own Ψ (w) (by simp[eg]) ?_;simp);(repeat' first|refine ao ?_|refine aO u ?_|refine aP u ?_|simp);all_goals(refine hV.val Ψ ?_;simp[bc,bf,a6,e3,hj,ez,gO,ed,gH,tnL,tn,fm,fX,fold,hy,hv,iA,ae,eg,cf,b7])
   all_goals simp[pn,hF,da.kk]
  |some m=>
   simp only at f;have W:=kk k rfl;have U:=E m rfl;have V:=H m rfl;have jy:=tB W;have nR:m.length<=68719470000:=by have:=E1 U V;omega
   have BB:=Yq (k:=k) U;have Bv:=QJ (k:=k) V;have akG:(m.filter (ly k)).length<=68719470000:=kE (List.length_filter_le _ _) nR;simp only[abk]at w;simp only[iX,lJ,rV]at u;clear kk E H;refine fJ.mk mixed a1 Tryz.func90 O7 Ψ fun aR κ=>?_;unfold GP;have MQ:d.length<=68719476736:=by simp[eI,eN,eJ,lim]at aR;omega
   simp;(repeat' first|refine ao ?_|simp);(refine CallDo.own Ψ (w) (by simp[eg]) ?_;simp);(repeat' first|refine ao ?_|refine aO u ?_|refine aP u ?_|simp);refine fU (fun i (l:List (Int×Bool))=>⟨[(1,.ptr (.loc 0) 0),(2,.ptr (.loc 1) 0),(4,.slice 2 (.tr (.loc 2) 0) (k.map bJ.e)),(6,b5 (m.map bn.e)),(8,.gmap (.loc 3)),(49,.slice 2 (.tr (.loc 2) 0) (k.map bJ.e)),(50,aj k.length),(51,aj i)],[(.loc 0,[aj n,bL (b.map Bd.e),cX (d.map cQ),b5 (Q.map bJ.e),b5 (m0.map bn.e)]),(.loc 1,[aj 0,.slice 5 .nil [],.slice 1 .nil [],.slice 2 .nil [],.slice 2 .nil []]),(.loc 3,rD l)],[],4,[]⟩) k.length (wk k) [] ⟨by simp[fresh,aH,az,cd,aM,ae,Om],eo (by simp[fresh,aH,az,cd,aM,ae,Om]),ep (by simp[fresh,aH,az,dV,aM,ae,Om]),Ψ⟩ (fun v=>by simp[dp]) (fun l c _=>?_) (fun i l hi c _=>?_);rotate_left
   ·obtain⟨x,g,o⟩:=eW hi;by_cases Z:x.k=3
    ·have j:=c.put g Z;clear c g;exact iW
    ·have j:=c.skip g Z;have uF:(x.k==3)=false:=by simp[Z]
     clear c g;exact iW
   have hints:=c.fin W;clear c;simp;(repeat' first|refine ao ?_|simp);refine fU (fun i (a:List bn)=>⟨[(1,.ptr (.loc 0) 0),(2,.ptr (.loc 1) 0),(4,.slice 2 (.tr (.loc 2) 0) (k.map bJ.e)),(8,.gmap (.loc 3)),(11,.slice 2 (.own (.loc 4)) (a.map bn.e)),(63,b5 (m.map bn.e)),(64,aj m.length),(65,aj i)],[(.loc 0,[aj n,bL (b.map Bd.e),cX (d.map cQ),b5 (Q.map bJ.e),b5 (m0.map bn.e)]),(.loc 1,[aj 0,.slice 5 .nil [],.slice 1 .nil [],.slice 2 .nil [],.slice 2 .nil []]),(.loc 3,rD l)],[(.loc 4,⟨a.length,100,2,none⟩)],5,[]⟩) m.length (uS k m) [] b9 (by simp[uS]) (fun a c _=>?_) (fun i a hi c _=>?_);rotate_left
   ·obtain⟨x,g,o⟩:=eW hi;have ta:a.length<=68719470000:=by
     have:a.length<=(m.take i).length:=by rw[c];exact List.length_filter_le _ _
     simp at this;omega
    have j:=c.step g;have J:=hints x;cases R:ly k x
    ·rw[R]at j J;simp only[hT,if_false,Bool.not_false]at j J;clear c g R;simp[hi,o];((repeat' first|refine ao ?_|simp[hi,o,J]|((first|apply ct|apply cz|apply cy)<;>intro h<;>try simp at h))<;>(try exact c3));all_goals exact bY.rng a hi j b9
    ·rw[R]at j J;simp only[if_true,Bool.not_true]at j J;clear c g R;simp[hi,o];((repeat' first|refine ao ?_|simp[hi,o,J]|((first|apply ct|apply cz|apply cy)<;>intro h<;>try simp at h))<;>(try exact c3));all_goals try refine⟨by unfold lim;omega,?_⟩
     all_goals(repeat' first|refine ao ?_|simp)
     all_goals exact bY.rng (a++[x]) hi j ⟨by simp[fresh,aH,az,cd,aM,ae,BY],eo (by simp[fresh,aH,az,cd,aM,ae,BY]),ep (by simp[fresh,aH,az,dV,aM,ae,BY]),Ψ⟩
   rw[uS,jC]at c;rw[<-c]at BB Bv akG f;clear c hints jy U V;simp;(repeat' first|refine ao ?_|simp);refine fU (fun i (L:List (List Bd))=>⟨[(1,.ptr (.loc 0) 0),(2,.ptr (.loc 1) 0),(4,.slice 2 (.tr (.loc 2) 0) (k.map bJ.e)),(11,.slice 2 (.own (.loc 4)) (a.map bn.e)),(14,.slice 1 (.own (.loc 5)) (L.map cQ)),(81,cX (d.map cQ)),(82,aj d.length),(83,aj i)],[(.loc 0,[aj n,bL (b.map Bd.e),cX (d.map cQ),b5 (Q.map bJ.e),b5 (m0.map bn.e)]),(.loc 1,[aj 0,.slice 5 .nil [],.slice 1 .nil [],.slice 2 .nil [],.slice 2 .nil []])],[(.loc 4,⟨a.length,100,2,none⟩),(.loc 5,⟨L.length,46,1,none⟩)],6,[]⟩) d.length (ry b k a d) [] b9 ⟨Ψ,Ψ,Ψ⟩ (fun L c _=>?_) (fun i L hi c _=>?_)
   ·have fi:=c.fin;have xk:=c.2.1;rw[fi]at f;simp only at f;have Y:=ani L xk;have p0:=OW b gh;clear c fi xk;generalize lZ L=M at Y f;by_cases N:M.length<=30
    ·have X:¬(30:Int)<M.length:=Ω
     rw[if_pos N]at f;subst f;simp;(repeat' first|refine ao ?_|simp);(refine CallDo.own Ψ (Y) (by simp[eg]) ?_;simp);(repeat' first|refine ao ?_|simp[N,X]);(refine hM.own Ψ (p0) (by simp[qv,ae]<;>omega) ?_;simp);(repeat' first|refine ao ?_|simp);all_goals(refine hV.val Ψ ?_;simp[bc,bf,a6,e3,hj,ez,gO,ed,gH,tnL,tn,fm,fX,fold,hy,hv,iA,ae,eg,cf,b7])
     all_goals simp[pn,da.kk]
    ·have X:(30:Int)<M.length:=Ω
     rw[if_neg N]at f;subst f;simp;(repeat' first|refine ao ?_|simp);(refine CallDo.own Ψ (Y) (by simp[eg]) ?_;simp);(repeat' first|refine ao ?_|simp[N,X]);all_goals(refine hV.val Ψ ?_;simp[bc,bf,a6,e3,hj,ez,gO,ed,gH,tnL,tn,fm,fX,fold,hy,hv,iA,ae,eg,cf,b7])
     all_goals simp[pn,hF,da.kk]
   ·obtain⟨x,g,o⟩:=eW hi;have iH:=aL x (ft g);have V6:=c.1;have p:bT au 165 [bL (b.map Bd.e),cQ x] (hk (mgu b (iM x))):=ar5 K iH;simp only[hk]at p;cases hu:mgu b (iM x)with
    |none=>have j:=c.skip g fun r=>Oe hu;rw[hu]at p;simp only[k5,kh]at p;clear c g f;exact iW
    |some y=>
     have P:=K.mgu (DH iH) hu;rw[hu]at p;simp only[lJ,rV]at p;have t:=asa P W;have q:=acs P BB kG Bv;have F:=ar9 K P;simp only[qS]at t;simp only[iX]at q;by_cases A:gU y k []=none\/gZ y a []=none
     ·have j:=c.skip g fun r=>Od hu A;clear c g f hu;rcases A with e|e
      ·rw[e]at t;simp only[k5,kh]at t;exact iW
      ·rw[e]at q;simp only[k5,kh]at q;cases (gU y k []).isSome
       ·simp[hi,o];((repeat' first|refine ao ?_|refine aO p ?_|refine aP p ?_|refine aO t ?_|refine aP t ?_|refine aO q ?_|refine aP q ?_|simp[hi,o]|((first|apply ct|apply cz|apply cy)<;>intro h<;>try simp at h))<;>(try exact c3));all_goals exact bY.rng L hi j b9
       ·simp[hi,o];((repeat' first|refine ao ?_|refine aO p ?_|refine aP p ?_|refine aO t ?_|refine aP t ?_|refine aO q ?_|refine aP q ?_|simp[hi,o]|((first|apply ct|apply cz|apply cy)<;>intro h<;>try simp at h))<;>(try exact c3));all_goals exact bY.rng L hi j b9
     ·have al:(gU y k []).isSome=true:=by cases e:gU y k []with|none=>exact absurd (.inl e) A|some _=>rfl
      have aC:(gZ y a []).isSome=true:=by cases e:gZ y a []with|none=>exact absurd (.inr e) A|some _=>rfl
      rw[al]at t;rw[aC]at q;by_cases B:hB b y=[]
      ·have ai:=c.stop g fun r=>Oc hu A B;rw[ai]at f;simp only at f;subst f;rw[B]at F;simp only[List.map_nil]at F;clear c g hu A;simp[hi,o];((repeat' first|refine ao ?_|refine aO p ?_|refine aP p ?_|refine aO t ?_|refine aP t ?_|refine aO q ?_|refine aP q ?_|refine aO F ?_|refine aP F ?_|simp[hi,o]|((first|apply ct|apply cz|apply cy)<;>intro h<;>try simp at h))<;>(try exact c3));all_goals(refine hV.val Ψ ?_;simp[bc,bf,a6,e3,hj,ez,gO,ed,gH,tnL,tn,fm,fX,fold,hy,hv,iA,ae,eg,cf,b7])
       all_goals simp[pn,hF,da.kk]
      ·have j:=c.snoc g (I0 (b:=b) P) fun r=>Og hu A B;have xA:¬((hB b y).length:Int)=0:=by have:(hB b y).length≠0:=fun h=>B (List.length_eq_zero_iff.1 h);omega
       have xB:(((hB b y).length:Int)==0)=false:=by simp[B]
       have S:bT au 166 [bL (b.map Bd.e),bL (y.map Bd.e)] (cQ (hB b y)):=F;clear c g hu A f F;generalize hB b y=z at S j xA xB B;simp only[cQ]at S;simp[hi,o];(repeat' first|refine ao ?_|refine aO p ?_|refine aP p ?_|refine aO t ?_|refine aP t ?_|refine aO q ?_|refine aP q ?_|refine aO S ?_|refine aP S ?_|simp[hi,o,xA,xB,B]);all_goals try refine⟨by unfold lim;omega,?_⟩
       all_goals(repeat' first|refine ao ?_|simp)
       all_goals exact bY.rng (L++[z]) hi j ⟨by simp[fresh,aH,az,cd,aM,ae,uW,cQ],eo (by simp[fresh,aH,az,cd,aM,ae,uW,cQ]),ep (by simp[fresh,aH,az,dV,aM,ae,uW,cQ]),Ψ⟩
def as8{s:da}(h:oR s){G:List (List cJ)}(a:G.length<=687000)(a7:oe G s.m):bT au 90 [s.e] (qT (j5 s)):=by have:=(Y5 h a a7).val (by simp[pn,da.kk,b7]);simpa[pn,da.kk,b7,cf,qT,da.e]using this
@[simp]def at0(neg:Bool)(x y:bJ):ju neg (some [false,false]) x.e y.e=some (True,.bool (if neg then !decide (x=y)else decide (x=y))):=by
 have h:(x.v==y.v&&(x.k==y.k&&true))=decide (x=y):=by rw[q2];simp only[Bool.and_true,cR,ey,gz];cases x;cases y;simp
 rw[<-h];rfl
@[simp]def at1(neg:Bool)(x y:bn):ju neg (some [false,true]) x.e y.e=some (True,.bool (if neg then !decide (x=y)else decide (x=y))):=by
 have h:(x.v==y.v&&(x.s==y.s&&true))=decide (x=y):=by rw[q2];simp only[Bool.and_true,cR,ey,gz];cases x;cases y;simp
 rw[<-h];rfl
def asr(x y:List Bd)(h:x.length<=1000000):bT au 169 [cQ x,cQ y] (.bool (decide (x=y))):=acA x y h
def as7(a c:da)(K:a.b.length<=1000000)(L:∀x∈a.d,x.length<=1000000):bT au 91 [a.e,c.e] (.bool (decide (a=c))):=by
 obtain⟨n,b,d,k,m⟩:=a;obtain⟨n',b2,t,bs,s⟩:=c;simp only at K L;generalize bt:decide ((⟨n,b,d,k,m⟩:da)=⟨n',b2,t,bs,s⟩)=R;simp only[da.mk.injEq,da.e]at bt⊢;by_cases F:n=n';rotate_left
 ·have o:R=false:=by rw[<-bt];simp[F]
  have V:(n !=n')=true:=by simp[F]
  rw[o];clear bt o;refine bI a1 Tryz.func91 Cq fun u=>?_;unfold yT;exact cn
 subst F;have g:=acA b b2 K;by_cases G:b=b2;rotate_left
 ·have o:R=false:=by rw[<-bt];simp[G]
  rw[mx G]at g;rw[o];clear bt o;refine bI a1 Tryz.func91 Cq fun u=>?_;unfold yT;exact cn
 subst G;rw[lK rfl]at g;by_cases E:d.length=t.length;rotate_left
 ·have o:R=false:=by rw[<-bt];simp only[iR];rintro⟨_,_,rfl,_⟩;exact E rfl
  have U:((d.length:Int) !=t.length)=true:=by simp;omega
  rw[o];clear bt o;refine bI a1 Tryz.func91 Cq fun u=>?_;unfold yT;exact cn
 by_cases w:k.length=bs.length;rotate_left
 ·have o:R=false:=by rw[<-bt];simp only[iR];rintro⟨_,_,_,rfl,_⟩;exact w rfl
  have N:((k.length:Int) !=bs.length)=true:=by simp;omega
  rw[o];clear bt o;refine bI a1 Tryz.func91 Cq fun u=>?_;unfold yT;exact cn
 by_cases B:m.length=s.length;rotate_left
 ·have o:R=false:=by rw[<-bt];simp only[iR];rintro⟨_,_,_,_,rfl⟩;exact B rfl
  have M:((m.length:Int) !=s.length)=true:=by simp;omega
  rw[o];clear bt o;refine bI a1 Tryz.func91 Cq fun u=>?_;unfold yT;exact cn
 have J:d≠t->R=false:=fun h=>by rw[<-bt];simp[h]
 have H:k≠bs->R=false:=fun h=>by rw[<-bt];simp[h]
 have S:m≠s->R=false:=fun h=>by rw[<-bt];simp[h]
 refine bI a1 Tryz.func91 Cq fun u=>?_;unfold yT;have Q:t.length<=68719476736:=by simp[eI,eN,eJ,lim]at u;omega
 have P:bs.length<=68719476736:=by simp[eI,eN,eJ,lim]at u;omega
 have O:s.length<=68719476736:=by simp[eI,eN,eJ,lim]at u;omega
 clear u;simp;(repeat' first|refine ao ?_|refine aO g ?_|refine aP g ?_|simp[E,w,B]);have v:=J;refine eZ [2,3,50] (fun i (_:Unit)=>[(51,aj i)]) t.length (sV d t) () b9 (fun k ab=>Ω) (fun _ j _=>?_) (fun i _ hi j _=>?_);rotate_left
 ·obtain⟨x,e⟩:∃x,d[i]? =some x:=⟨_,cl Ω⟩;obtain⟨y,f⟩:∃y,t[i]? =some y:=⟨_,cl hi⟩;have l:i<d.length:=Ω
  have r:∀h,(d[i]'h)=x:=fun h=>by rw[cl l]at e;exact e7 e
  have p:∀h,(t[i]'h)=y:=fun h=>by rw[cl hi]at f;exact e7 f
  have g:=asr x y (L x (ft e));by_cases q:x=y
  ·subst q;have A:=j.step e f;rw[lK rfl]at g;clear j e f;simp[hi,l,r,p,-ju];(repeat' first|refine ao ?_|refine aO g ?_|refine aP g ?_|simp[r,p,hi,l,-ju]);all_goals exact bY.rng () hi A b9
  ·rw[v (fun h=>q (by rw[h]at e;rw[e]at f;exact e7 f))];rw[mx q]at g;clear j e f;simp[hi,l,r,p,-ju];(repeat' first|refine ao ?_|refine aO g ?_|refine aP g ?_|simp[r,p,hi,l,q,-ju]);all_goals simp[bZ,bc,bf,a6]
 have z:=j.fin E;subst z;clear j v J E;simp;(repeat' first|refine ao ?_|simp[w]);have v:=H;refine eZ [2,3,69] (fun i (_:Unit)=>[(70,aj i)]) bs.length (sV k bs) () b9 (fun k ab=>Ω) (fun _ j _=>?_) (fun i _ hi j _=>?_);rotate_left
 ·obtain⟨x,e⟩:∃x,k[i]? =some x:=⟨_,cl Ω⟩;obtain⟨y,f⟩:∃y,bs[i]? =some y:=⟨_,cl hi⟩;have l:i<k.length:=Ω
  have r:∀h,(k[i]'h)=x:=fun h=>by rw[cl l]at e;exact e7 e
  have p:∀h,(bs[i]'h)=y:=fun h=>by rw[cl hi]at f;exact e7 f
  have g:=True.intro;by_cases q:x=y
  ·subst q;have A:=j.step e f;skip;clear j e f;simp[hi,l,r,p,-ju];(repeat' first|refine ao ?_|refine aO g ?_|refine aP g ?_|simp[r,p,hi,l,-ju]);all_goals exact bY.rng () hi A b9
  ·rw[v (fun h=>q (by rw[h]at e;rw[e]at f;exact e7 f))];skip;clear j e f;simp[hi,l,r,p,-ju];(repeat' first|refine ao ?_|refine aO g ?_|refine aP g ?_|simp[r,p,hi,l,q,-ju]);all_goals simp[bZ,bc,bf,a6]
 have z:=j.fin w;subst z;clear j v H w;simp;(repeat' first|refine ao ?_|simp[B]);have v:=S;refine eZ [2,3,87] (fun i (_:Unit)=>[(88,aj i)]) s.length (sV m s) () b9 (fun k ab=>Ω) (fun _ j _=>?_) (fun i _ hi j _=>?_);rotate_left
 ·obtain⟨x,e⟩:∃x,m[i]? =some x:=⟨_,cl Ω⟩;obtain⟨y,f⟩:∃y,s[i]? =some y:=⟨_,cl hi⟩;have l:i<m.length:=Ω
  have r:∀h,(m[i]'h)=x:=fun h=>by rw[cl l]at e;exact e7 e
  have p:∀h,(s[i]'h)=y:=fun h=>by rw[cl hi]at f;exact e7 f
  have g:=True.intro;by_cases q:x=y
  ·subst q;have A:=j.step e f;skip;clear j e f;simp[hi,l,r,p,-ju];(repeat' first|refine ao ?_|refine aO g ?_|refine aP g ?_|simp[r,p,hi,l,-ju]);all_goals exact bY.rng () hi A b9
  ·rw[v (fun h=>q (by rw[h]at e;rw[e]at f;exact e7 f))];skip;clear j e f;simp[hi,l,r,p,-ju];(repeat' first|refine ao ?_|refine aO g ?_|refine aP g ?_|simp[r,p,hi,l,q,-ju]);all_goals simp[bZ,bc,bf,a6]
 have z:=j.fin B;subst z;have o:R=true:=by rw[<-bt];simp
 rw[o];exact cn
def gn.e(r:gn):af:= .agg [aj r.n,bL (r.b.map Bt.e),cX (r.d.map gA),b5 (r.k.map bJ.e),b5 (r.m.map bn.e)]
def F0(s:da):s.r.e=s.e:=by simp only[da.r,gn.e,da.e,zN,LM]
def asd(x:List Bt):bT au 86 [gA x] (.bool (hC x)):=QV x
open Classical in
def asb(r:gn)(M:iv r.m->nF r.m):bT au 29 [r.e] (.bool (decide (kc r))):=by
 generalize bt:decide (kc r)=R;have f:¬PS r->R=false:=fun h=>by rw[<-bt,iR];exact fun cj=>h cj.raw
 obtain⟨n,b,d,k,m⟩:=r;simp only[gn.e]at M⊢;by_cases g1:n<0
 ·rw[f fun h=>by have:=h.n.1;simp only at this;omega];refine bI a1 Tryz.func29 zR fun g=>?_;unfold w3;exact cn
 by_cases g2:100000<n
 ·rw[f fun h=>by have:=h.n.2;simp only at this;omega];refine bI a1 Tryz.func29 zR fun g=>?_;unfold w3;exact cn
 have q:bT au 86 [bL (b.map Bt.e)] (.bool (hC b)):=QV b;cases g3:hC b
 ·rw[f fun h=>by obtain⟨s,l,S,_⟩:=h.b;have:=sF.2 (yp.2 ⟨s,l,S⟩);simp only at this;rw[g3]at this;cases this]
  rw[g3]at q;refine bI a1 Tryz.func29 zR fun g=>?_;unfold w3;exact cn
 rw[g3]at q;obtain⟨s,rfl,X⟩:=yp.1 (sF.1 g3);clear g3;rw[zN]at q⊢;have B:=acp k;by_cases g4:jR k;rotate_left
 ·rw[f fun h=>g4 h.k];rw[mx g4]at B;refine bI a1 Tryz.func29 zR fun g=>?_;unfold w3;exact cn
 rw[lK g4]at B;have A:=acr m;by_cases g5:iv m;rotate_left
 ·rw[f fun h=>g5 h.m];rw[mx g5]at A;refine bI a1 Tryz.func29 zR fun g=>?_;unfold w3;exact cn
 rw[lK g5]at A;have u:=acv X (n:=n) Ω;cases g6:s.all (lN n)
 ·rw[f fun h=>by obtain⟨P,l,_,N⟩:=h.b;have O:=wY l;subst O;rw[w2.2 N]at g6;cases g6]
  rw[g6]at u;refine bI a1 Tryz.func29 zR fun g=>?_;unfold w3;have Oa:=u;exact cn
 rw[g6]at u;have c4:=w2.1 g6;clear g6;have U:=M g5;have nR:=U.len g5;refine bI a1 Tryz.func29 zR fun g=>?_;unfold w3;have MQ:d.length<=68719476736:=by simp[eI,eN,eJ,lim]at g;omega
 have jy:=tB g4;clear g M;simp;(repeat' first|refine ao ?_|refine aO q ?_|refine aP q ?_|refine aO B ?_|refine aP B ?_|refine aO A ?_|refine aP A ?_|refine aO u ?_|refine aP u ?_|simp[g1,g2]);refine eZ [1,46,47] (fun i (_:Unit)=>[(48,aj i)]) d.length (tA (k8 n) d) () b9 (fun k b ab=>Ω) (fun _ a _=>?_) (fun i _ hi a _=>?_);rotate_left
 ·obtain⟨x,c,w⟩:=eW hi;have z:=ft c;have L:=asd x;cases e:hC x
  ·rw[f fun h=>by obtain⟨P,l,S,_⟩:=h.d x z;rw[sF.2 (yp.2 ⟨P,l,S⟩)]at e;cases e]
   rw[e]at L;clear a c z;exact cn
  ·rw[e]at L;obtain⟨y,rfl,Y⟩:=yp.1 (sF.1 e);clear e;rw[LL]at L;have W:bT au 89 [cQ y,aj n] (.bool (y.all (lN n))):=acv Y (n:=n) Ω;have avn:∀h,gA (d[i]'h)=cQ y:=fun h=>by rw[w h,LL]
   cases p:y.all (lN n)
   ·rw[f fun h=>by obtain⟨P,l,_,N⟩:=h.d _ z;have O:=wY l;subst O;rw[w2.2 N]at p;cases p]
    rw[p]at W;clear a c z w;exact cn
   ·rw[p]at W;have Z:=a.step c ⟨y,rfl,Y,w2.1 p⟩;clear a c z w;exact iW
 obtain⟨aY,rfl,D4,MA⟩:=Un a.fin;clear a;simp only[LM];simp;(repeat' first|refine ao ?_|simp);refine eZ [1,64,65] (fun i (_:Unit)=>[(66,aj i)]) k.length (tA (fun x=>x.v<n) k) () b9 (fun k b ab=>Ω) (fun _ a _=>?_) (fun i _ hi a _=>?_);rotate_left
 ·obtain⟨x,c,w⟩:=eW hi;by_cases e:x.v<n
  ·have F:¬n<=x.v:=Ω
   have Z:=a.step c e;clear a c;exact iW
  ·have F:n<=x.v:=Ω
   rw[f fun h=>e (h.kb x (ft c))];clear a c;exact cn
 have E:=a.fin;clear a;simp;(repeat' first|refine ao ?_|simp);have zl:=E;refine eZ [1,77,78] (fun i (_:Unit)=>[(79,aj i)]) m.length (tA (fun x=>x.v<n) m) () b9 (fun k b ab=>Ω) (fun _ a _=>?_) (fun i _ hi a _=>?_);rotate_left
 ·obtain⟨x,c,w⟩:=eW hi;by_cases e:x.v<n
  ·have F:¬n<=x.v:=Ω
   have Z:=a.step c e;clear a c;exact iW
  ·have F:n<=x.v:=Ω
   rw[f fun h=>e (h.mb x (ft c))];clear a c;exact cn
 have E:=a.fin;clear a;simp;(repeat' first|refine ao ?_|simp);have xD:=E;have dy:oR ⟨n,s,aY,k,m⟩:=⟨by simp only;omega,X,D4,g4,g5,c4,MA,zl,xD⟩;have V:=abM dy;obtain⟨G,kG,a7⟩:=U;have j:=as8 dy kG a7;have o:kc ⟨n,s.map Bd.b,aY.map fun x=>x.map Bd.b,k,m⟩↔j5 ⟨n,s,aY,k,m⟩=some ⟨n,s,aY,k,m⟩:=V;clear V f;simp only[qT]at j;cases K:j5 ⟨n,s,aY,k,m⟩with
 |none=>
  rw[K]at j o;have v:R=false:=by rw[<-bt,iR,o];simp
  rw[v];simp only[k5,kh,da.e]at j;clear bt v o;exact cn
 |some t=>
  have J:=abA dy K;rw[K]at j o;have H:=as7 t ⟨n,s,aY,k,m⟩ J.1.1.b.len (fun x c=>(J.1.1.d x c).len);have v:R=decide (t=⟨n,s,aY,k,m⟩):=by rw[<-bt,decide_eq_decide,o];simp
  rw[v];simp only[lJ,rV]at j;simp only[da.e]at j H;clear bt v o J;generalize decide (t=(⟨n,s,aY,k,m⟩:da))=Q at H⊢;obtain⟨tn,F2,F3,rN,tm⟩:=t;simp only at j H;exact cn
def w6:C:=(aa [c0 1 0,bz 2 false] (.seq (aa [aF 11 0 1 1,ay 12 1 11,dT 13 75 [.t 12,(gV 0),(gV 100000)],cO 14 13,I 15 14,ax 15 false (aF 16 1 1 1),ax 15 false (ay 17 1 16),ax 15 false (cY 18 76 17),ax 15 false (cO 19 18),ds 20 15 19,I 21 20,ax 21 false (aF 22 2 1 1),ax 21 false (ay 23 1 22),ax 21 false (cY 24 77 23),ax 21 false (cO 25 24),ds 26 21 25,I 27 26,ax 27 false (aF 28 3 1 1),ax 27 false (ay 29 1 28),ax 27 false (cY 30 78 29),ax 27 false (cO 31 30),ds 32 27 31,I 33 32,ax 33 false (aF 34 4 1 1),ax 33 false (ay 35 1 34),ax 33 false (cY 36 79 35),ax 33 false (cO 37 36),ds 38 33 37,I 39 38,ax 39 false (aF 40 1 1 1),ax 39 false (ay 41 1 40),ax 39 false (aF 42 0 1 1),ax 39 false (ay 43 1 42),ax 39 false (cc 44 80 41 43),ax 39 false (cO 45 44),ds 46 39 45] (aW 46 (aa [bz 2 false] .ret) .skip)) (.seq (aa [aF 47 2 1 1,ay 48 1 47,cw 49 48,bQ 50 0] (gx 51 50 49 (.seq (.block 1 (aa [ck 52 1 48 50,ay 53 1 52,I 4 53] (aa [I 54 4,aF 55 0 1 1,ay 56 1 55,cc 57 80 54 56,cO 58 57] (aW 58 (aa [bz 2 false] .ret) .skip)))) (.region [aV 59 .add 50 1,I 50 59])))) (.seq (aa [aF 60 3 1 1,ay 61 1 60,cw 62 61,bQ 63 0] (.block 2 (.loop (aa [bu 64 .lss 63 62] (.seq (aW 64 .skip (.exit 2)) (.seq (.block 3 (aa [ck 65 2 61 63,bk 66 2 65,dt (.alloc 6 none (.agg [.int .i64 0,.int .i64 0])),bV 2 6 66] (aa [aF 67 0 1 6,ay 68 1 67,aF 69 0 1 1,ay 70 1 69,bu 71 .geq 68 70] (aW 71 (aa [bz 2 false] .ret) .skip)))) (.region [aV 72 .add 63 1,I 63 72]))))))) (.seq (aa [aF 73 4 1 1,ay 74 1 73,cw 75 74,bQ 76 0] (.block 4 (.loop (aa [bu 77 .lss 76 75] (.seq (aW 77 .skip (.exit 4)) (.seq (.block 5 (aa [ck 78 2 74 76,bk 79 2 78,dt (.alloc 8 none (.agg [.int .i64 0,.str []])),bV 2 8 79] (aa [aF 80 0 1 8,ay 81 1 80,aF 82 0 1 1,ay 83 1 82,bu 84 .geq 81 83] (aW 84 (aa [bz 2 false] .ret) .skip)))) (.region [aV 85 .add 76 1,I 76 85]))))))) (aa [bk 87 5 1,cY 88 81 87,I 86 88,cV 89 0 86,cV 90 1 86,dI 9 ig,bV 5 9 89,I 10 90] (aa [I 91 10,I 92 91,ax 92 true (bk 93 5 9),ax 92 true (bk 94 5 1),ax 92 true (cc 95 82 93 94),ei 96 92 95,I 2 96] .ret)))))))
def G1:C:=(aa [c0 1 0,dI 2 ig,bz 3 false] (aa [aF 20 1 1 1,ay 21 1 20,aF 22 3 1 1,ay 23 1 22,cc 24 149 21 23,I 19 24,cV 25 0 19,cV 26 1 19,I 4 25,I 5 26] (aa [aF 28 1 1 1,ay 29 1 28,aF 30 4 1 1,ay 31 1 30,cc 32 150 29 31,I 27 32,cV 33 0 27,cV 34 1 27,I 6 33,I 7 34] (.seq (aa [I 35 5,cO 36 35,I 37 36,cg 37 false 38 7,ax 37 false (cO 39 38),ds 40 37 39] (aW 40 (aa [jr 41 ig [],bV 5 2 41,bz 3 false] .ret) .skip)) (aa [aF 42 0 1 1,ay 43 1 42,aF 44 1 1 1,ay 45 1 44,I 46 4,jr 47 ig [(0,1,(.t 43)),(1,1,(.t 45)),(3,1,(.t 46))],dI 8 ig,bV 5 8 47] (.seq (aa [I 48 6,cw 49 48,bQ 50 0] (gx 51 50 49 (.seq (.block 1 (aa [ck 52 2 48 50,bk 53 2 52,dt (.alloc 10 none (.agg [.int .i64 0,.str []])),bV 2 10 53] (aa [I 55 4,aF 56 0 1 10,ay 57 1 56,cY 58 114 57,dT 59 151 [.t 55,.t 58,(gV 2)],I 54 59,cV 60 0 54,cV 61 1 54,I 11 60,I 12 61] (aa [I 62 12] (aW 62 (.region [aF 63 4 1 8,ay 64 1 63,bk 65 2 10,fe 66 2 100 [.t 65],h3 67 2 100 64 66,aF 68 4 1 8,bV 1 68 67]) .skip))))) (.region [aV 69 .add 50 1,I 50 69])))) (aa [fe 70 1 46 [],I 13 70] (.seq (aa [aF 71 2 1 1,ay 72 1 71,cw 73 72,bQ 74 0] (.block 2 (.loop (aa [bu 75 .lss 74 73] (.seq (aW 75 .skip (.exit 2)) (.seq (.block 3 (aa [ck 76 1 72 74,ay 77 1 76,I 15 77] (aa [aF 79 1 1 1,ay 80 1 79,I 81 15,cc 82 152 80 81,I 78 82,cV 83 0 78,cV 84 1 78,I 16 83,I 17 84] (.seq (aa [I 85 17] (aW 85 (aa [I 87 16,aF 88 3 1 8,ay 89 1 88,cc 90 149 87 89,I 86 90,cV 91 0 86,cV 92 1 86,I 5 92] (.region [I 94 16,aF 95 4 1 8,ay 96 1 95,cc 97 150 94 96,I 93 97,cV 98 0 93,cV 99 1 93,I 7 99])) .skip)) (.seq (aa [I 100 17,cO 101 100,I 102 101,cg 102 false 103 5,ax 102 false (cO 104 103),ds 105 102 104,I 106 105,cg 106 false 107 7,ax 106 false (cO 108 107),ds 109 106 108] (aW 109 (aa [bz 5 true] (aa [bz 7 true] (.exit 3))) .skip)) (aa [aF 110 1 1 1,ay 111 1 110,I 112 16,cc 113 153 111 112,I 18 113] (.seq (aa [I 114 18,cw 115 114,aV 116 .eql 115 0] (aW 116 (aa [jr 117 ig [],bV 5 2 117,bz 3 false] .ret) .skip)) (.region [I 118 13,I 119 18,fe 120 1 46 [.t 119],h3 121 1 46 118 120,I 13 121])))))))) (.region [aV 122 .add 74 1,I 74 122]))))))) (aa [I 123 13,cY 124 154 123,aF 125 2 1 8,bV 1 125 124] (.seq (.fz true 8 (.drawn true 131 [cb 126 (.loadZ true 5 (.t 8)),aF 127 2 1 8,cb 128 (.loadZ false 1 (.t 127)),cw 129 128,aV 130 .leq 129 30,bV 5 2 126,I 3 130])) .ret))))))))))
def yU:C:=(aa [c0 2 0,c0 3 1,bz 4 false] (.seq (aa [aF 11 0 1 2,ay 12 1 11,aF 13 0 1 3,ay 14 1 13,bu 15 .neq 12 14,I 16 15,ax 16 false (aF 17 1 1 2),ax 16 false (ay 18 1 17),ax 16 false (aF 19 1 1 3),ax 16 false (ay 20 1 19),ax 16 false (cc 21 155 18 20),ax 16 false (aV 22 .neq 21 0),ds 23 16 22,I 24 23,ax 24 false (aF 25 2 1 2),ax 24 false (ay 26 1 25),ax 24 false (cw 27 26),ax 24 false (aF 28 2 1 3),ax 24 false (ay 29 1 28),ax 24 false (cw 30 29),ax 24 false (bu 31 .neq 27 30),ds 32 24 31,I 33 32,ax 33 false (aF 34 3 1 2),ax 33 false (ay 35 1 34),ax 33 false (cw 36 35),ax 33 false (aF 37 3 1 3),ax 33 false (ay 38 1 37),ax 33 false (cw 39 38),ax 33 false (bu 40 .neq 36 39),ds 41 33 40,I 42 41,ax 42 false (aF 43 4 1 2),ax 42 false (ay 44 1 43),ax 42 false (cw 45 44),ax 42 false (aF 46 4 1 3),ax 42 false (ay 47 1 46),ax 42 false (cw 48 47),ax 42 false (bu 49 .neq 45 48),ds 50 42 49] (aW 50 (aa [bz 4 false] .ret) .skip)) (.seq (aa [aF 51 2 1 2,ay 52 1 51,cw 53 52,bQ 54 0] (gx 55 54 53 (.seq (.block 1 (aa [I 56 54,ck 57 1 52 54,ay 58 1 57,I 5 56,I 6 58] (aa [I 59 6,aF 60 2 1 3,ay 61 1 60,I 62 5,ck 63 1 61 62,ay 64 1 63,cc 65 155 59 64,aV 66 .neq 65 0] (aW 66 (aa [bz 4 false] .ret) .skip)))) (.region [aV 67 .add 54 1,I 54 67])))) (.seq (aa [aF 68 3 1 2,ay 69 1 68,cw 70 69,bQ 71 0] (.block 2 (.loop (aa [bu 72 .lss 71 70] (.seq (aW 72 .skip (.exit 2)) (.seq (.block 3 (aa [I 73 71,ck 74 2 69 71,bk 75 2 74,dt (.alloc 8 none (.agg [.int .i64 0,.int .i64 0])),I 7 73,bV 2 8 75] (.seq (.drawn true 100 [bk 76 2 8,aF 77 3 1 3,ay 78 1 77,I 79 7,ck 80 2 78 79,bk 81 2 80,cb 82 (.beq true (some [false,false]) (.t 76) (.t 81))]) (aW 82 (aa [bz 4 false] .ret) .skip)))) (.region [aV 83 .add 71 1,I 71 83]))))))) (.seq (aa [aF 84 4 1 2,ay 85 1 84,cw 86 85,bQ 87 0] (.block 4 (.loop (aa [bu 88 .lss 87 86] (.seq (aW 88 .skip (.exit 4)) (.seq (.block 5 (aa [I 89 87,ck 90 2 85 87,bk 91 2 90,dt (.alloc 10 none (.agg [.int .i64 0,.str []])),I 9 89,bV 2 10 91] (.seq (.drawn true 100 [bk 92 2 10,aF 93 4 1 3,ay 94 1 93,I 95 9,ck 96 2 94 95,bk 97 2 96,cb 98 (.beq true (some [false,true]) (.t 92) (.t 97))]) (aW 98 (aa [bz 4 false] .ret) .skip)))) (.region [aV 99 .add 87 1,I 87 99]))))))) (aa [bz 4 true] .ret))))))
def zU:b4 aT w6 [.tmp 2] 1 Tryz.f27=true:=bi
def Pg:b4 aT G1 [.cell 2 true 5,.tmp 3] 1 Tryz.f81=true:=bi
def Cr:b4 aT yU [.tmp 4] 2 Tryz.f82=true:=bi
noncomputable def CM(s:da):af:= .tuple [(Ai s).e,.bool (j5 s).isSome]
def asO{k:List bJ}(ab:jR k)(v:Int):bT au 151 [b5 (k.map bJ.e),(T.var v).e,aj 2] (p4 k (k6 k (.var v) 2)):=acM k (by have:=tB ab;omega) ab.asc (.var v) 2
def acK{b y:List Bd}(a:fp b)(c:fp y):bT au 153 [bL (b.map Bd.e),bL (y.map Bd.e)] (cQ (hB b y)):=asI a c
def acJ{b x:List Bd}(a:fp b)(c:fp x):bT au 152 [bL (b.map Bd.e),cQ x] (hk (mgu b (iM x))):=asH b x a.sol a.fits c.len
def Oq(a:List bn):af:=match a with
 |[]=>.slice 2 .nil []
 |_::_=>.slice 2 (.own (.loc 5)) (a.map bn.e)
def Oo(a:List bn):List (aB×dW):=match a with
 |[]=>[]
 |_::_=>[(.loc 5,⟨a.length,100,2,none⟩)]
def On(a:List bn):Nat:=match a with
 |[]=>3
 |_::_=>6
@[simp]def awC:Oq []= .slice 2 .nil []:=rfl
@[simp]def awB(x:bn)(a:List bn):Oq (x::a)= .slice 2 (.own (.loc 5)) (x.e::a.map bn.e):=rfl
@[simp]def awA:Oo []=[]:=rfl
@[simp]def awz(x:bn)(a:List bn):Oo (x::a)=[(.loc 5,⟨a.length+1,100,2,none⟩)]:=rfl
@[simp]def awy:On []=3:=rfl
@[simp]def awx(x:bn)(a:List bn):On (x::a)=6:=rfl
def acO{s:da}(h:oR s){G:List (List cJ)}(kG:G.length<=687000)(a7:oe G s.m):bT au 81 [s.e] (CM s):=by
 unfold CM;generalize c:j5 s=O;generalize dF:Ai s=SS;have F:=QY h.b h.k;have H:=QZ h.b h.m kG a7;have kk:=fun k=>JB (acc:=[]) (a:=k) h.b h.k.at' ⟨Ψ,Ψ⟩;have N:=fun m=>JC (acc:=[]) (a:=m) h.b h.m.at' ⟨Ψ,by simp[iS]⟩;have P:=fun m=>JD (acc:=[]) (a:=m) (s:=s.b) a7 (fun x g=>by simp at g);have K:=h.b;have aL:=h.d;clear h a7;unfold j5 at c;unfold Ai at dF;obtain⟨n,b,d,Z,m0⟩:=s;simp only at F H kk N P K aL c dF;have gh:=K.len;simp only[da.e];generalize gU b Z []=ok at F c dF kk;generalize gZ b m0 []=om at H c dF N P;cases ok with
 |none=>
  simp only at c dF;subst c;subst dF;simp only[qS]at F;simp only[iX]at H;clear kk N P;refine bI a1 Tryz.func81 Pg fun aR=>?_;unfold G1;simp;(repeat' first|refine ao ?_|refine aO F ?_|refine aP F ?_|refine aO H ?_|refine aP H ?_|simp);all_goals simp[bZ,bc,bf,a6]
  all_goals simp[hF,da.e]
 |some k=>
  simp only at c dF;cases om with
  |none=>
   simp only at c dF;subst c;subst dF;simp only[qS]at F;simp only[iX]at H;clear kk N P;refine bI a1 Tryz.func81 Pg fun aR=>?_;unfold G1;simp;(repeat' first|refine ao ?_|refine aO F ?_|refine aP F ?_|refine aO H ?_|refine aP H ?_|simp);all_goals simp[bZ,bc,bf,a6]
   all_goals simp[hF,da.e]
  |some m=>
   simp only at c dF;have Y:=kk k rfl;have zr:=N m rfl;have zj:=P m rfl;have nR:m.length<=68719470000:=by have:=E1 zr zj;omega
   have BB:=Yq (k:=k) zr;have Bv:=QJ (k:=k) zj;simp only[qS,lJ,rV]at F;simp only[iX,lJ,rV]at H;clear kk N P;refine bI a1 Tryz.func81 Pg fun aR=>?_;unfold G1;have MQ:d.length<=68719476736:=by simp[eI,eN,eJ,lim]at aR;omega
   clear aR;simp;(repeat' first|refine ao ?_|refine aO F ?_|refine aP F ?_|refine aO H ?_|refine aP H ?_|simp);refine fU (fun i (a:List bn)=>⟨[(1,.ptr (.loc 0) 0),(2,.ptr (.loc 1) 0),(4,b5 (k.map bJ.e)),(8,.ptr (.loc 2) 0),(48,b5 (m.map bn.e)),(49,aj m.length),(50,aj i)],[(.loc 0,[aj n,bL (b.map Bd.e),cX (d.map cQ),b5 (Z.map bJ.e),b5 (m0.map bn.e)]),(.loc 1,[aj 0,.slice 5 .nil [],.slice 1 .nil [],.slice 2 .nil [],.slice 2 .nil []]),(.loc 2,[aj n,bL (b.map Bd.e),.slice 1 .nil [],b5 (k.map bJ.e),Oq a])],Oo a,On a,[]⟩) m.length (uS k m) [] b9 (by simp[uS]) (fun a f _=>?_) (fun i a hi f _=>?_);rotate_left
   ·obtain⟨x,g,p⟩:=eW hi;have ta:a.length<=68719470000:=by
     have:a.length<=(m.take i).length:=by rw[f];exact List.length_filter_le _ _
     simp at this;omega
    have q:=f.step g;have A:=asO Y x.v;have bM:(k6 k (.var x.v) 2).isSome=ly k x:=adM Y x.v;simp only[p4,bM]at A;clear bM;generalize (k6 k (.var x.v) 2).getD k=kz at A;cases aG:ly k x
    ·rw[aG]at q A;simp only[hT,if_false]at q;clear f g aG;cases a with
     |nil=>simp[hi,p];(repeat' first|refine ao ?_|refine aO (k4 _) ?_|refine aP (k4 _) ?_|refine aO A ?_|refine aP A ?_|simp[hi,p]);all_goals exact bY.rng [] hi q b9
     |cons y ys=>simp[hi,p];(repeat' first|refine ao ?_|refine aO (k4 _) ?_|refine aP (k4 _) ?_|refine aO A ?_|refine aP A ?_|simp[hi,p]);all_goals exact bY.rng (y::ys) hi q b9
    ·rw[aG]at q A;simp only[if_true]at q;clear f g aG;cases a with
     |nil=>
      simp[hi,p];(repeat' first|refine ao ?_|refine aO (k4 _) ?_|refine aP (k4 _) ?_|refine aO A ?_|refine aP A ?_|simp[hi,p]);all_goals try refine⟨by unfold lim;omega,?_⟩
      all_goals(repeat' first|refine ao ?_|simp)
      all_goals exact bY.rng [x] hi q b9
     |cons y ys=>
      simp only[mw]at ta;simp[hi,p];(repeat' first|refine ao ?_|refine aO (k4 _) ?_|refine aP (k4 _) ?_|refine aO A ?_|refine aP A ?_|simp[hi,p]);all_goals try refine⟨by unfold lim;omega,?_⟩
      all_goals(repeat' first|refine ao ?_|simp)
      all_goals exact bY.rng (y::ys++[x]) hi q ⟨by simp[fresh,aH,az,cd,aM,ae,BY],eo (by simp[fresh,aH,az,cd,aM,ae,BY]),ep (by simp[fresh,aH,az,dV,aM,ae,BY]),Ψ⟩
   rw[uS,jC]at f;rw[<-f]at BB Bv c dF;clear f zr zj;cases a with
   |nil=>
    simp;(repeat' first|refine ao ?_|simp);refine fU (fun i (L:List (List Bd))=>⟨[(1,.ptr (.loc 0) 0),(2,.ptr (.loc 1) 0),(8,.ptr (.loc 2) 0),(13,.slice 1 (.own (.loc 3)) (L.map cQ)),(72,cX (d.map cQ)),(73,aj d.length),(74,aj i)],[(.loc 0,[aj n,bL (b.map Bd.e),cX (d.map cQ),b5 (Z.map bJ.e),b5 (m0.map bn.e)]),(.loc 1,[aj 0,.slice 5 .nil [],.slice 1 .nil [],.slice 2 .nil [],.slice 2 .nil []]),(.loc 2,[aj n,bL (b.map Bd.e),.slice 1 .nil [],b5 (k.map bJ.e),.slice 2 .nil []])],[(.loc 3,⟨L.length,46,1,none⟩)],3+1,[]⟩) d.length (ry b k [] d) [] b9 ⟨Ψ,Ψ,Ψ⟩ (fun L f _=>?_) (fun i L hi f _=>?_)
    ·have V:=f.fin;have Q:=f.2.1;rw[V]at c dF;simp only at c dF;have E:=acL L Q;clear f V Q;generalize lZ L=M at E c dF;subst dF;by_cases w:M.length<=30
     ·have B:(M.length:Int)<=30:=Ω
      rw[if_pos w]at c;subst c;simp;(repeat' first|refine ao ?_|refine aO E ?_|refine aP E ?_|simp[w,B]);all_goals simp[bZ,bc,bf,a6]
      all_goals try simp[da.e,w,B]
      all_goals first|exact⟨_,rfl,rfl⟩|skip
     ·have B:¬(M.length:Int)<=30:=Ω
      rw[if_neg w]at c;subst c;simp;(repeat' first|refine ao ?_|refine aO E ?_|refine aP E ?_|simp[w,B]);all_goals simp[bZ,bc,bf,a6]
      all_goals try simp[da.e,w,B]
      all_goals first|exact⟨_,rfl,rfl⟩|skip
    ·obtain⟨x,g,p⟩:=eW hi;have U:=aL x (ft g);have V6:=f.1;have j:=acJ K U;simp only[hk]at j;cases hu:mgu b (iM x)with
     |none=>have q:=f.skip g fun r=>Oe hu;rw[hu]at j;simp only[k5,kh]at j;clear f g c dF;exact iW
     |some y=>
      have J:=K.mgu (DH U) hu;rw[hu]at j;simp only[lJ,rV]at j;have o:=QY J Y;have u:=QZ J BB kG Bv;have l:=acK K J;simp only[qS]at o;simp only[iX,List.map_nil,ha]at u;by_cases t:gU y k []=none\/gZ y [] []=none
      ·have q:=f.skip g fun r=>Od hu t;clear f g c dF hu l;rcases t with e|e
       ·rw[e]at o;simp only[k5,kh]at o;exact iW
       ·rw[e]at u;simp only[k5,kh]at u;generalize (gU y k []).isSome=ba at o;cases ba
        ·exact iW
        ·exact iW
      ·have al:(gU y k []).isSome=true:=by cases e:gU y k []with|none=>exact absurd (.inl e) t|some _=>rfl
       have aC:(gZ y [] []).isSome=true:=by cases e:gZ y [] []with|none=>exact absurd (.inr e) t|some _=>rfl
       rw[al]at o;rw[aC]at u;by_cases v:hB b y=[]
       ·have ai:=f.stop g fun r=>Oc hu t v;rw[ai]at c dF;simp only at c dF;subst c;subst dF;rw[v]at l;simp only[cQ,List.map_nil]at l;clear f g hu t;simp[hi,p];(repeat' first|refine ao ?_|refine aO j ?_|refine aP j ?_|refine aO o ?_|refine aP o ?_|refine aO u ?_|refine aP u ?_|refine aO l ?_|refine aP l ?_|simp[hi,p]);all_goals simp[bZ,bc,bf,a6]
        all_goals try simp[hF,da.e]
       ·have q:=f.snoc g (I0 (b:=b) J) fun r=>Og hu t v;have S:¬((hB b y).length:Int)=0:=by have:(hB b y).length≠0:=fun h=>v (List.length_eq_zero_iff.1 h);omega
        have R:(((hB b y).length:Int)==0)=false:=by simp[v]
        clear f g hu t c dF;generalize hB b y=z at l q S R v;simp only[cQ]at l;simp[hi,p];(repeat' first|refine ao ?_|refine aO j ?_|refine aP j ?_|refine aO o ?_|refine aP o ?_|refine aO u ?_|refine aP u ?_|refine aO l ?_|refine aP l ?_|simp[hi,p,S,R,v]);all_goals try refine⟨by unfold lim;omega,?_⟩
        all_goals(repeat' first|refine ao ?_|simp)
        all_goals exact bY.rng (L++[z]) hi q ⟨by simp[fresh,aH,az,cd,aM,ae,uW,cQ],eo (by simp[fresh,aH,az,cd,aM,ae,uW,cQ]),ep (by simp[fresh,aH,az,dV,aM,ae,uW,cQ]),Ψ⟩
   |cons X W=>
    simp;(repeat' first|refine ao ?_|simp);refine fU (fun i (L:List (List Bd))=>⟨[(1,.ptr (.loc 0) 0),(2,.ptr (.loc 1) 0),(8,.ptr (.loc 2) 0),(13,.slice 1 (.own (.loc 6)) (L.map cQ)),(72,cX (d.map cQ)),(73,aj d.length),(74,aj i)],[(.loc 0,[aj n,bL (b.map Bd.e),cX (d.map cQ),b5 (Z.map bJ.e),b5 (m0.map bn.e)]),(.loc 1,[aj 0,.slice 5 .nil [],.slice 1 .nil [],.slice 2 .nil [],.slice 2 .nil []]),(.loc 2,[aj n,bL (b.map Bd.e),.slice 1 .nil [],b5 (k.map bJ.e),.slice 2 (.own (.loc 5)) (X.e::W.map bn.e)])],[(.loc 6,⟨L.length,46,1,none⟩)],6+1,[]⟩) d.length (ry b k (X::W) d) [] b9 ⟨Ψ,Ψ,Ψ⟩ (fun L f _=>?_) (fun i L hi f _=>?_)
    ·have V:=f.fin;have Q:=f.2.1;rw[V]at c dF;simp only at c dF;have E:=acL L Q;clear f V Q;generalize lZ L=M at E c dF;subst dF;by_cases w:M.length<=30
     ·have B:(M.length:Int)<=30:=Ω
      rw[if_pos w]at c;subst c;simp;(repeat' first|refine ao ?_|refine aO E ?_|refine aP E ?_|simp[w,B]);all_goals simp[bZ,bc,bf,a6]
      all_goals try simp[da.e,w,B]
      all_goals first|exact⟨_,rfl,rfl⟩|skip
     ·have B:¬(M.length:Int)<=30:=Ω
      rw[if_neg w]at c;subst c;simp;(repeat' first|refine ao ?_|refine aO E ?_|refine aP E ?_|simp[w,B]);all_goals simp[bZ,bc,bf,a6]
      all_goals try simp[da.e,w,B]
      all_goals first|exact⟨_,rfl,rfl⟩|skip
    ·obtain⟨x,g,p⟩:=eW hi;have U:=aL x (ft g);have V6:=f.1;have j:=acJ K U;simp only[hk]at j;cases hu:mgu b (iM x)with
     |none=>have q:=f.skip g fun r=>Oe hu;rw[hu]at j;simp only[k5,kh]at j;clear f g c dF;exact iW
     |some y=>
      have J:=K.mgu (DH U) hu;rw[hu]at j;simp only[lJ,rV]at j;have o:=QY J Y;have u:=QZ J BB kG Bv;have l:=acK K J;simp only[qS]at o;simp only[iX,List.map_nil,ha]at u;by_cases t:gU y k []=none\/gZ y (X::W) []=none
      ·have q:=f.skip g fun r=>Od hu t;clear f g c dF hu l;rcases t with e|e
       ·rw[e]at o;simp only[k5,kh]at o;exact iW
       ·rw[e]at u;simp only[k5,kh]at u;generalize (gU y k []).isSome=ba at o;cases ba
        ·exact iW
        ·exact iW
      ·have al:(gU y k []).isSome=true:=by cases e:gU y k []with|none=>exact absurd (.inl e) t|some _=>rfl
       have aC:(gZ y (X::W) []).isSome=true:=by cases e:gZ y (X::W) []with|none=>exact absurd (.inr e) t|some _=>rfl
       rw[al]at o;rw[aC]at u;by_cases v:hB b y=[]
       ·have ai:=f.stop g fun r=>Oc hu t v;rw[ai]at c dF;simp only at c dF;subst c;subst dF;rw[v]at l;simp only[cQ,List.map_nil]at l;clear f g hu t;simp[hi,p];(repeat' first|refine ao ?_|refine aO j ?_|refine aP j ?_|refine aO o ?_|refine aP o ?_|refine aO u ?_|refine aP u ?_|refine aO l ?_|refine aP l ?_|simp[hi,p]);all_goals simp[bZ,bc,bf,a6]
        all_goals try simp[hF,da.e]
       ·have q:=f.snoc g (I0 (b:=b) J) fun r=>Og hu t v;have S:¬((hB b y).length:Int)=0:=by have:(hB b y).length≠0:=fun h=>v (List.length_eq_zero_iff.1 h);omega
        have R:(((hB b y).length:Int)==0)=false:=by simp[v]
        clear f g hu t c dF;generalize hB b y=z at l q S R v;simp only[cQ]at l;simp[hi,p];(repeat' first|refine ao ?_|refine aO j ?_|refine aP j ?_|refine aO o ?_|refine aP o ?_|refine aO u ?_|refine aP u ?_|refine aO l ?_|refine aP l ?_|simp[hi,p,S,R,v]);all_goals try refine⟨by unfold lim;omega,?_⟩
        all_goals(repeat' first|refine ao ?_|simp)
        all_goals exact bY.rng (L++[z]) hi q ⟨by simp[fresh,aH,az,cd,aM,ae,uW,cQ],eo (by simp[fresh,aH,az,cd,aM,ae,uW,cQ]),ep (by simp[fresh,aH,az,dV,aM,ae,uW,cQ]),Ψ⟩
def asM(x y:List Bd):bT au 155 [cQ x,cQ y] (aj (fa x y)):=QW x y
def as0{x y:List Bd}(h:¬x=y):(fa x y !=0)=true:=by have:¬fa x y=0:=fun e=>h ((mQ.zero _ _).1 e);simp[this]
def asS(a c:da):bT au 82 [a.e,c.e] (.bool (decide (a=c))):=by
 obtain⟨n,b,d,k,m⟩:=a;obtain⟨n',b2,t,bs,s⟩:=c;generalize bt:decide ((⟨n,b,d,k,m⟩:da)=⟨n',b2,t,bs,s⟩)=R;simp only[da.mk.injEq,da.e]at bt⊢;by_cases F:n=n';rotate_left
 ·have o:R=false:=by rw[<-bt];simp[F]
  have S:(n !=n')=true:=by simp[F]
  rw[o];clear bt o;refine bI a1 Tryz.func82 Cr fun u=>?_;unfold yU;exact cn
 subst F;have g:=QW b b2;by_cases G:b=b2;rotate_left
 ·have o:R=false:=by rw[<-bt];simp[G]
  have q0:¬fa b b2=0:=fun h=>G ((mQ.zero _ _).1 h);have U:(fa b b2 !=0)=true:=by simp[q0]
  rw[o];clear bt o;refine bI a1 Tryz.func82 Cr fun u=>?_;unfold yU;exact cn
 subst G;rw[(mQ.zero b b).2 rfl]at g;by_cases E:d.length=t.length;rotate_left
 ·have o:R=false:=by rw[<-bt];simp only[iR];rintro⟨_,_,rfl,_⟩;exact E rfl
  have Q:((d.length:Int) !=t.length)=true:=by simp;omega
  rw[o];clear bt o;refine bI a1 Tryz.func82 Cr fun u=>?_;unfold yU;exact cn
 by_cases w:k.length=bs.length;rotate_left
 ·have o:R=false:=by rw[<-bt];simp only[iR];rintro⟨_,_,_,rfl,_⟩;exact w rfl
  have L:((k.length:Int) !=bs.length)=true:=by simp;omega
  rw[o];clear bt o;refine bI a1 Tryz.func82 Cr fun u=>?_;unfold yU;exact cn
 by_cases B:m.length=s.length;rotate_left
 ·have o:R=false:=by rw[<-bt];simp only[iR];rintro⟨_,_,_,_,rfl⟩;exact B rfl
  have K:((m.length:Int) !=s.length)=true:=by simp;omega
  rw[o];clear bt o;refine bI a1 Tryz.func82 Cr fun u=>?_;unfold yU;exact cn
 have J:d≠t->R=false:=fun h=>by rw[<-bt];simp[h]
 have H:k≠bs->R=false:=fun h=>by rw[<-bt];simp[h]
 have P:m≠s->R=false:=fun h=>by rw[<-bt];simp[h]
 refine bI a1 Tryz.func82 Cr fun u=>?_;unfold yU;have O:t.length<=68719476736:=by simp[eI,eN,eJ,lim]at u;omega
 have N:bs.length<=68719476736:=by simp[eI,eN,eJ,lim]at u;omega
 have M:s.length<=68719476736:=by simp[eI,eN,eJ,lim]at u;omega
 clear u;simp;(repeat' first|refine ao ?_|refine aO g ?_|refine aP g ?_|simp[E,w,B]);have v:=J;refine eZ [2,3,52,53] (fun i (_:Unit)=>[(54,aj i)]) t.length (sV d t) () b9 (fun k ab=>Ω) (fun _ j _=>?_) (fun i _ hi j _=>?_);rotate_left
 ·obtain⟨x,e⟩:∃x,d[i]? =some x:=⟨_,cl Ω⟩;obtain⟨y,f⟩:∃y,t[i]? =some y:=⟨_,cl hi⟩;have l:i<d.length:=Ω
  have r:∀h,(d[i]'h)=x:=fun h=>by rw[cl l]at e;exact e7 e
  have p:∀h,(t[i]'h)=y:=fun h=>by rw[cl hi]at f;exact e7 f
  have g:=asM x y;by_cases q:x=y
  ·subst q;have A:=j.step e f;rw[(mQ.zero _ _).2 rfl]at g;clear j e f;simp[hi,l,r,p,-ju];(repeat' first|refine ao ?_|refine aO g ?_|refine aP g ?_|simp[r,p,hi,l,-ju]);all_goals exact bY.rng () hi A b9
  ·rw[v (fun h=>q (by rw[h]at e;rw[e]at f;exact e7 f))];have q0:=as0 q;clear j e f;simp[hi,l,r,p,-ju];(repeat' first|refine ao ?_|refine aO g ?_|refine aP g ?_|simp[r,p,hi,l,q,q0,-ju]);all_goals simp[bZ,bc,bf,a6]
 have z:=j.fin E;subst z;clear j v J E;simp;(repeat' first|refine ao ?_|simp[w]);have v:=H;refine eZ [2,3,69,70] (fun i (_:Unit)=>[(71,aj i)]) bs.length (sV k bs) () b9 (fun k ab=>Ω) (fun _ j _=>?_) (fun i _ hi j _=>?_);rotate_left
 ·obtain⟨x,e⟩:∃x,k[i]? =some x:=⟨_,cl Ω⟩;obtain⟨y,f⟩:∃y,bs[i]? =some y:=⟨_,cl hi⟩;have l:i<k.length:=Ω
  have r:∀h,(k[i]'h)=x:=fun h=>by rw[cl l]at e;exact e7 e
  have p:∀h,(bs[i]'h)=y:=fun h=>by rw[cl hi]at f;exact e7 f
  have g:=True.intro;by_cases q:x=y
  ·subst q;have A:=j.step e f;skip;clear j e f;simp[hi,l,r,p,-ju];(repeat' first|refine ao ?_|refine aO g ?_|refine aP g ?_|simp[r,p,hi,l,-ju]);all_goals exact bY.rng () hi A b9
  ·rw[v (fun h=>q (by rw[h]at e;rw[e]at f;exact e7 f))];skip;clear j e f;simp[hi,l,r,p,-ju];(repeat' first|refine ao ?_|refine aO g ?_|refine aP g ?_|simp[r,p,hi,l,q,q,-ju]);all_goals simp[bZ,bc,bf,a6]
 have z:=j.fin w;subst z;clear j v H w;simp;(repeat' first|refine ao ?_|simp[B]);have v:=P;refine eZ [3,85,86] (fun i (_:Unit)=>[(87,aj i)]) s.length (sV m s) () b9 (fun k ab=>Ω) (fun _ j _=>?_) (fun i _ hi j _=>?_);rotate_left
 ·obtain⟨x,e⟩:∃x,m[i]? =some x:=⟨_,cl Ω⟩;obtain⟨y,f⟩:∃y,s[i]? =some y:=⟨_,cl hi⟩;have l:i<m.length:=Ω
  have r:∀h,(m[i]'h)=x:=fun h=>by rw[cl l]at e;exact e7 e
  have p:∀h,(s[i]'h)=y:=fun h=>by rw[cl hi]at f;exact e7 f
  have g:=True.intro;by_cases q:x=y
  ·subst q;have A:=j.step e f;skip;clear j e f;simp[hi,l,r,p,-ju];(repeat' first|refine ao ?_|refine aO g ?_|refine aP g ?_|simp[r,p,hi,l,-ju]);all_goals exact bY.rng () hi A b9
  ·rw[v (fun h=>q (by rw[h]at e;rw[e]at f;exact e7 f))];skip;clear j e f;simp[hi,l,r,p,-ju];(repeat' first|refine ao ?_|refine aO g ?_|refine aP g ?_|simp[r,p,hi,l,q,q,-ju]);all_goals simp[bZ,bc,bf,a6]
 have z:=j.fin B;subst z;have o:R=true:=by rw[<-bt];simp
 rw[o];exact cn
@[simp]def arB:∀l:List (List Bt),cf (l.map gA)=l.map gA
 |[]=>rfl
 |x::xs=>by simp[cf,arB xs]
def abT:∀{d:List (List Bt)},d.all hC=true->∃aY:List (List Bd),d=(aY.map fun x=>x.map Bd.b)/\∀x∈aY,fp x
 |[],_=>⟨[],rfl,Ψ⟩
 |x::d,h=>by
  rw[List.all_cons,cR]at h;obtain⟨aY,J,U⟩:=abT h.2;obtain⟨s,b,c⟩:=yp.1 (sF.1 h.1);refine⟨s::aY,by rw[J,b];rfl,fun y a=>?_⟩;rcases gJ.1 a with rfl|a
  ·exact c
  ·exact U y a
open Classical in
def acU(r:gn)(M:iv r.m->nF r.m):bT au 27 [r.e] (.bool (decide (kc r))):=by
 generalize bt:decide (kc r)=R;have e:¬PS r->R=false:=fun h=>by rw[<-bt,iR];exact fun cj=>h cj.raw
 obtain⟨n,b,d,k,m⟩:=r;simp only[gn.e]at M⊢;have J:=dS n 0 100000;by_cases g1:0<=n/\n<=100000;rotate_left
 ·rw[e fun h=>g1 h.n];rw[mx g1]at J;refine bI a1 Tryz.func27 zU fun j=>?_;unfold w6;exact cn
 rw[lK g1]at J;have u:bT au 76 [bL (b.map Bt.e)] (.bool (hC b)):=Q0 b;cases g3:hC b
 ·rw[e fun h=>by obtain⟨s,f,P,_⟩:=h.b;have:=sF.2 (yp.2 ⟨s,f,P⟩);simp only at this;rw[g3]at this;cases this]
  rw[g3]at u;refine bI a1 Tryz.func27 zU fun j=>?_;unfold w6;exact cn
 rw[g3]at u;obtain⟨s,rfl,ai⟩:=yp.1 (sF.1 g3);clear g3;rw[zN]at u⊢;have w:=asL d;cases o:d.all hC
 ·rw[e fun h=>by
   have:d.all hC=true:=by rw[j7];intro x c;obtain⟨s,f,P,_⟩:=h.d x c;exact sF.2 (yp.2 ⟨s,f,P⟩)
   rw[o]at this;cases this]
  rw[o]at w;refine bI a1 Tryz.func27 zU fun j=>?_;unfold w6;exact cn
 rw[o]at w;obtain⟨aY,rfl,D4⟩:=abT o;clear o;rw[LM]at w⊢;have F:=as3 k;by_cases g4:jR k;rotate_left
 ·rw[e fun h=>g4 h.k];rw[mx g4]at F;refine bI a1 Tryz.func27 zU fun j=>?_;unfold w6;exact cn
 rw[lK g4]at F;have E:=as6 m;by_cases g5:iv m;rotate_left
 ·rw[e fun h=>g5 h.m];rw[mx g5]at E;refine bI a1 Tryz.func27 zU fun j=>?_;unfold w6;exact cn
 rw[lK g5]at E;have v:=acP s n;cases g6:s.all (lN n)
 ·rw[e fun h=>by obtain⟨ak,f,_,N⟩:=h.b;have O:=wY f;subst O;rw[w2.2 N]at g6;cases g6]
  rw[g6]at v;refine bI a1 Tryz.func27 zU fun j=>?_;unfold w6;have Oa:=v;exact cn
 rw[g6]at v;have c4:=w2.1 g6;clear g6;have V:=M g5;have nR:=V.len g5;refine bI a1 Tryz.func27 zU fun j=>?_;unfold w6;have MQ:aY.length<=68719476736:=by simp[eI,eN,eJ,lim]at j;omega
 have jy:=tB g4;clear j M;simp;(repeat' first|refine ao ?_|refine aO J ?_|refine aP J ?_|refine aO u ?_|refine aP u ?_|refine aO w ?_|refine aP w ?_|refine aO F ?_|refine aP F ?_|refine aO E ?_|refine aP E ?_|refine aO v ?_|refine aP v ?_|simp);refine eZ [1,48,49] (fun i (_:Unit)=>[(50,aj i)]) aY.length (tA (fun x=>q9 x n) aY) () b9 (fun k b ab=>Ω) (fun _ a _=>?_) (fun i _ hi a _=>?_);rotate_left
 ·obtain⟨y,H,fv⟩:=eW hi;have S:=ft H;have X:bT au 80 [cQ y,aj n] (.bool (y.all (lN n))):=acP y n;cases p:y.all (lN n)
  ·rw[e fun h=>by obtain⟨ak,f,_,N⟩:=h.d _ (List.mem_map_of_mem S);have O:=wY f;subst O;rw[w2.2 N]at p;cases p]
   rw[p]at X;clear a H S;exact cn
  ·rw[p]at X;have Y:=a.step H (w2.1 p);clear a H S;exact iW
 have MA:=a.fin;clear a;simp;(repeat' first|refine ao ?_|simp);refine eZ [1,61,62] (fun i (_:Unit)=>[(63,aj i)]) k.length (tA (fun x=>x.v<n) k) () b9 (fun k b ab=>Ω) (fun _ a _=>?_) (fun i _ hi a _=>?_);rotate_left
 ·obtain⟨x,c,cB⟩:=eW hi;by_cases q:x.v<n
  ·have L:¬n<=x.v:=Ω
   have Y:=a.step c q;clear a c;exact iW
  ·have L:n<=x.v:=Ω
   rw[e fun h=>q (h.kb x (ft c))];clear a c;exact cn
 have K:=a.fin;clear a;simp;(repeat' first|refine ao ?_|simp);have Z:=K;refine eZ [1,74,75] (fun i (_:Unit)=>[(76,aj i)]) m.length (tA (fun x=>x.v<n) m) () b9 (fun k b ab=>Ω) (fun _ a _=>?_) (fun i _ hi a _=>?_);rotate_left
 ·obtain⟨x,c,cB⟩:=eW hi;by_cases q:x.v<n
  ·have L:¬n<=x.v:=Ω
   have Y:=a.step c q;clear a c;exact iW
  ·have L:n<=x.v:=Ω
   rw[e fun h=>q (h.mb x (ft c))];clear a c;exact cn
 have K:=a.fin;clear a;simp;(repeat' first|refine ao ?_|simp);have xD:=K;have dy:oR ⟨n,s,aY,k,m⟩:=⟨g1,ai,D4,g4,g5,c4,MA,Z,xD⟩;have W:=abM dy;obtain⟨G,kG,a7⟩:=V;have g:=acO dy kG a7;have l:kc ⟨n,s.map Bd.b,aY.map fun x=>x.map Bd.b,k,m⟩↔j5 ⟨n,s,aY,k,m⟩=some ⟨n,s,aY,k,m⟩:=W;clear W e;simp only[CM]at g;generalize U:Ai ⟨n,s,aY,k,m⟩=t at g;have A:=asS t ⟨n,s,aY,k,m⟩;cases B:j5 ⟨n,s,aY,k,m⟩with
 |none=>
  rw[B]at g l;have z:R=false:=by rw[<-bt,iR,l];simp
  rw[z];obtain⟨tn,F2,F3,rN,tm⟩:=t;simp only[kh,da.e]at g;clear bt z l U A;exact cn
 |some t'=>
  have f:=Qj B;rw[U]at f;subst f;rw[B]at g l;have z:R=decide (t=⟨n,s,aY,k,m⟩):=by rw[<-bt,decide_eq_decide,l];simp
  rw[z];simp only[rV]at g;simp only[da.e]at g A;clear bt z l B;generalize decide (t=(⟨n,s,aY,k,m⟩:da))=Q at A⊢;clear U;obtain⟨tn,F2,F3,rN,tm⟩:=t;simp only at g A;exact cn
end
end Go.Proofs.YtahlgcidhnjlbaaGreat
