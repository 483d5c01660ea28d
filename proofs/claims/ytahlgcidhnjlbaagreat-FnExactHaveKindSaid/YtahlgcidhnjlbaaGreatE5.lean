/- Contracts: valid states of the reference. -/
import Derived.ProofKit
import Derived.Carry
import Derived.WalkKit
import Derived.Deep.Slices
import Derived.Test.YtahlgcidhnjlbaaGreatProg
import Derived.Test.YtahlgcidhnjlbaaGreatE4
set_option linter.all false
set_option maxHeartbeats 4000000
set_option maxRecDepth 4000
open Bool renaming and_eq_true->cQ,eq_iff_iff->qZ,false_eq_true->hR,not_eq_true'->sO,or_eq_true->oe
open Go renaming TypeId->gT
open Go.DataW renaming trod->jT
open Go.IntKind renaming i64->vn
open Go.IntWalk renaming i64_in->pt
open Go.Op renaming bytesLess->iu
open Go.Proofs.Tryz renaming prog->au
open Go.Value renaming cells->pw
open List renaming all_eq_true->j6,cons_append->b7,drop->oV,drop_eq_getElem_cons->lG,getElem?_append_left->rR,getElem?_append_right->vo,getElem?_eq_getElem->cl,getElem?_eq_none->q0,getElem?_eq_some_iff->fH,getElem_of_mem->pA,length_append->qe,length_cons->mV,length_drop->ud,map_cons->gY,mem_append->kd,mem_cons->gI,mem_filter->oW,mem_map->gZ,mem_of_getElem?->ft,nil_append->ca,pairwise_cons->og,pairwise_iff_getElem->q2,take->mW,take_length->jA,take_of_length_le->iv
open List.Pairwise renaming filter->adg
open Nat renaming le_refl->dO,le_trans->kD
open Option renaming bind_eq_some_iff->mX,getD_none->k5,getD_some->lI,isSome_none->kf,isSome_some->rU
open Option.some renaming inj->e6,injEq->dU
open _root_ renaming False->eu,Option->bd,UInt8->cS,and_true->jd,beq_iff_eq->ey,congrArg->fy,decide_eq_false->mv,decide_eq_false_iff_not->iO,decide_eq_true->lJ,decide_eq_true_eq->gy,eq_true->h2
namespace Go.Proofs.YtahlgcidhnjlbaaGreat
section
open Go Go.Pv
inductive hB where
 |s (l:List cS)
 |b (x:ByteArray)
def hB.e:hB->af
 | .s l=>.str l
 | .b x=>.cst (.string x)
def hB.len:hB->Int
 | .s l=>l.length
 | .b x=>x.size
def od(n:Nat):Prop:=lim<n/\n<=9223372036854775807
def hB.wf:hB->Prop
 | .s _=>True
 | .b x=>od x.size
inductive dA (α:Type) where
 |l (xs:List α)
 |b (p:bd Addr) (n cap:Nat)
def dA.e{α:Type}(sz:Nat)(f:α->af):dA α->af
 | .l xs=>.slice sz .no (xs.map f)
 | .b p n cap=>.cst (.slice p n cap)
def dA.wf{α:Type}(P:α->Prop):dA α->Prop
 | .l xs=> ∀x∈xs,P x
 | .b _ n _=>od n
inductive cH where
 |mk (k n:Int) (s:hB) (a:List cH)
 |big (k n:Int) (s:hB) (p:bd Addr) (len cap:Nat)
mutual
def cH.e:cH->af
 | .mk k n s a=>.agg [aj k,aj n,s.e,dx (cH.eL a)]
 | .big k n s p len cap=>.agg [aj k,aj n,s.e,.cst (.slice p len cap)]
def cH.eL:List cH->List af
 |[]=>[]
 |x::xs=>x.e::cH.eL xs
end
def cH.eL_map:∀l,cH.eL l=l.map cH.e
 |[]=>rfl
 |x::xs=>by simp[cH.eL,cH.eL_map xs]
def cH.kind:cH->Int| .mk k _ _ _=>k| .big k _ _ _ _ _=>k
def cH.num:cH->Int| .mk _ n _ _=>n| .big _ n _ _ _ _=>n
def cH.name:cH->hB| .mk _ _ s _=>s| .big _ _ s _ _ _=>s
def cH.args:cH->dA cH| .mk _ _ _ a=>.l a| .big _ _ _ p l c=>.b p l c
def cH.e_eq(t:cH):t.e= .agg [aj t.kind,aj t.num,t.name.e,t.args.e 4 cH.e]:=by
 cases t with
 |mk k n s a=>simp only[cH.e,cH.eL_map];rfl
 |big=>rfl
@[simp]def av2(S:aB->Prop)(s:hB):az S s.e=True:=by cases s<;>simp[hB.e,az]
@[simp]def axS(s:hB):b5 s.e=s.e:=by cases s<;>simp[hB.e,b5]
mutual
def X0(S:aB->Prop):∀t:cH,az S t.e
 | .mk k n s a=>by simp[cH.e,az,aH,N2 S a]
 | .big k n s p l c=>by simp[cH.e,az,aH]
def N2(S:aB->Prop):∀l:List cH,aH S (cH.eL l)
 |[]=>by simp[cH.eL,aH]
 |x::xs=>by simp[cH.eL,aH,X0 S x,N2 S xs]
end
mutual
def abR:∀t:cH,b5 t.e=t.e
 | .mk k n s a=>by simp[cH.e,b5,cf,Qu a]
 | .big k n s p l c=>by simp[cH.e,b5,cf]
def Qu:∀l:List cH,cf (cH.eL l)=cH.eL l
 |[]=>by simp[cH.eL,cf]
 |x::xs=>by simp[cH.eL,cf,abR x,Qu xs]
end
@[simp]def awb(S:aB->Prop)(t:cH):az S t.e=True:=h2 (X0 S t)
@[simp]def avO(S:aB->Prop)(l:List cH):aH S (l.map cH.e)=True:=by rw[<-cH.eL_map];exact h2 (N2 S l)
@[simp]def ax0(t:cH):b5 t.e=t.e:=abR t
@[simp]def axI(l:List cH):cf (l.map cH.e)=l.map cH.e:=by rw[<-cH.eL_map];exact Qu l
@[simp]def axE(t:cH):eT t.e=true:=by rw[cH.e_eq];rfl
@[simp]def avy(t:cH):qI 4 t.e:=by rw[cH.e_eq];exact⟨_,rfl,rfl⟩
@[simp]def aul(t:cH):cells t.e=[aj t.kind,aj t.num,t.name.e,t.args.e 4 cH.e]:=by rw[cH.e_eq];rfl
@[simp]def av1(S:aB->Prop)(x:dA cH):az S (x.e 4 cH.e)=True:=by cases x<;>simp[dA.e,az]
@[simp]def axR(x:dA cH):b5 (x.e 4 cH.e)=x.e 4 cH.e:=by cases x<;>simp[dA.e,b5]
mutual
def cH.sz:cH->Nat
 | .mk _ _ _ a=>1+cH.szL a
 | .big _ _ _ _ _ _=>1
def cH.szL:List cH->Nat
 |[]=>0
 |x::xs=>x.sz+cH.szL xs
end
def cH.szL_mem:∀{l:List cH} {x:cH},x∈l->x.sz<=cH.szL l
 |y::l,x,h=>by
  rcases gI.1 h with rfl|h
  ·simp[cH.szL]
  ·have:=cH.szL_mem h;simp[cH.szL];omega
mutual
def cH.wf:cH->Prop
 | .mk _ _ s a=>s.wf/\cH.wfL a
 | .big _ _ s _ l _=>s.wf/\od l
def cH.wfL:List cH->Prop
 |[]=>True
 |x::xs=>x.wf/\cH.wfL xs
end
def cH.wfL_iff:∀{l:List cH},cH.wfL l↔∀x∈l,x.wf
 |[]=>by simp[cH.wfL]
 |x::l=>by simp[cH.wfL,cH.wfL_iff (l:=l)]
def jQ{α:Type}(f:α->Int->Int):List α->Int->Int
 |[],m=>m
 |x::xs,m=>if f x m<0 then-1 else jQ f xs (f x m)
def mq{α:Type}(f:α->Int->Int)(l:List α)(m:Int):Int:=if m-l.length<0 then-1 else jQ f l (m-l.length)
def fs{α:Type}(f:α->Int->Int):dA α->Int->Int
 | .l xs,m=>mq f xs m
 | .b _ _ _,_=> -1
def abW{α:Type}{f:α->Int->Int}(a:∀x m,0<=m-> -1<=f x m/\f x m<=m):∀(l:List α) (m:Int),0<=m-> -1<=jQ f l m/\jQ f l m<=m
 |[],m,h=>by simp only[jQ];omega
 |x::xs,m,h=>by
  have J:=a x m h;simp only[jQ];split
  ·omega
  ·have U:=abW a xs (f x m) Ω;omega
def aru{α:Type}{f:α->Int->Int}(a:∀x m,0<=m-> -1<=f x m/\f x m<=m)(l:List α)(m:Int)(h:0<=m): -1<=mq f l m/\mq f l m<=m:=by
 unfold mq;split
 ·omega
 ·have:=abW a l (m-l.length) Ω;omega
def vh{α:Type}{f:α->Int->Int}(a:∀x m,0<=m-> -1<=f x m/\f x m<=m)(l:dA α)(m:Int)(h:0<=m): -1<=fs f l m/\fs f l m<=m:=by
 cases l with
 |l xs=>exact aru a xs m h
 |b=>simp only[fs];omega
mutual
def hz:cH->Int->Int
 | .mk _ _ s a,m=>if m-s.len<0 then-1 else if m-s.len-a.length<0 then-1 else qU a (m-s.len-a.length)
 | .big _ _ s _ _ _,m=>if m-s.len<0 then-1 else-1
def qU:List cH->Int->Int
 |[],m=>m
 |x::xs,m=>if hz x m<0 then-1 else qU xs (hz x m)
end
def abZ:∀(l:List cH) (m:Int),qU l m=jQ hz l m
 |[],m=>rfl
 |x::xs,m=>by simp only[qU,jQ,abZ xs]
def J1(t:cH)(m:Int):hz t m=if m-t.name.len<0 then-1 else fs hz t.args (m-t.name.len):=by
 cases t with
 |mk=>simp only[hz,fs,mq,abZ,cH.name,cH.args];rfl
 |big=>simp only[hz,fs,cH.name,cH.args];rfl
def hB.len_nn(s:hB):0<=s.len:=by cases s<;>simp[hB.len]
mutual
def yq:∀(t:cH) (m:Int),0<=m-> -1<=hz t m/\hz t m<=m
 | .mk _ _ s a,m,h=>by
  have:=s.len_nn;simp only[hz];split
  ·omega
  ·split
   ·omega
   ·have:=ab0 a (m-s.len-a.length) Ω;omega
 | .big _ _ s _ _ _,m,h=>by simp only[hz];split<;>omega
def ab0:∀(l:List cH) (m:Int),0<=m-> -1<=qU l m/\qU l m<=m
 |[],m,h=>by simp only[qU];omega
 |x::xs,m,h=>by
  have J:=yq x m h;simp only[qU];split
  ·omega
  ·have U:=ab0 xs (hz x m) Ω;omega
end
def hB.small{s:hB}(hw:s.wf){m:Int}(a:m<=1048576)(h:0<=m-s.len):∃l,s= .s l:=by
 cases s with
 |s l=>exact⟨l,rfl⟩
 |b x=>simp only[hB.wf,od,lim]at hw;simp only[hB.len]at h;omega
mutual
def qa:Tm->cH
 | .mk k n s a=>.mk k n (.s s) (qX a)
def qX:List Tm->List cH
 |[]=>[]
 |x::xs=>qa x::qX xs
end
def acd:∀l,qX l=l.map qa
 |[]=>rfl
 |x::xs=>by simp[qX,acd xs]
mutual
def QJ:∀t:Tm,(qa t).e=enc t
 | .mk k n s a=>by simp only[qa,cH.e,enc,acb a];rfl
def acb:∀l:List Tm,cH.eL (qX l)=mc l
 |[]=>rfl
 |x::xs=>by simp only[qX,cH.eL,mc,QJ x,acb xs]
end
mutual
def QA:∀(t:cH) (m:Int),t.wf->m<=1048576->0<=m->0<=hz t m->∃u:Tm,t=qa u
 | .mk k n s a,m,hw,J,d,h=>by
  simp only[cH.wf]at hw;simp only[hz]at h;have:=s.len_nn;split at h
  ·omega
  rename_i g;obtain⟨l,rfl⟩:=hB.small hw.1 J Ω;split at h
  ·omega
  obtain⟨b,c⟩:=ab1 a _ hw.2 Ω Ω h;exact⟨.mk k n l b,by simp only[qa,c]⟩
 | .big _ _ s _ _ _,m,_,_,_,h=>by simp only[hz]at h;split at h<;>omega
def ab1:∀(l:List cH) (m:Int),cH.wfL l->m<=1048576->0<=m->0<=qU l m->∃u:List Tm,l=qX u
 |[],_,_,_,_,_=>⟨[],rfl⟩
 |x::xs,m,hw,J,a,h=>by
  simp only[cH.wfL]at hw;simp only[qU]at h;have U:=yq x m a;split at h
  ·omega
  obtain⟨u,hu⟩:=QA x m hw.1 J a Ω;obtain⟨v,b⟩:=ab1 xs _ hw.2 Ω Ω h;exact⟨u::v,by simp only[qX,hu,b]⟩
end
def abX{α β:Type}{f:α->Int->Int}{P:α->Prop}{g:β->α}(hle:∀x m,0<=m-> -1<=f x m/\f x m<=m)(b:∀x m,P x->m<=1048576->0<=m->0<=f x m->∃y,x=g y):∀(l:List α) (m:Int),(∀x∈l,P x)->m<=1048576->0<=m->0<=jQ f l m->∃u:List β,l=u.map g
 |[],_,_,_,_,_=>⟨[],rfl⟩
 |x::xs,m,hw,J,a,h=>by
  simp only[jQ]at h;have U:=hle x m a;split at h
  ·omega
  obtain⟨u,hu⟩:=b x m (hw x Ψ) J a Ω;obtain⟨v,c⟩:=abX hle b xs _ (fun y d=>hw y (by simp[d])) Ω Ω h;exact⟨u::v,by rw[gY,<-hu,<-c]⟩
def Qz{α β:Type}{f:α->Int->Int}{P:α->Prop}{g:β->α}(hle:∀x m,0<=m-> -1<=f x m/\f x m<=m)(a:∀x m,P x->m<=1048576->0<=m->0<=f x m->∃y,x=g y)(l:dA α)(m:Int)(hw:l.wf P)(J:m<=1048576)(c:0<=m)(h:0<=fs f l m):∃u:List β,l= .l (u.map g):=by
 cases l with
 |b=>simp only[fs]at h;omega
 |l xs=>
  simp only[fs,mq]at h;split at h
  ·omega
  obtain⟨u,hu⟩:=abX hle a xs _ hw Ω Ω h;exact⟨u,by rw[hu]⟩
end
section
open Go Go.Pv Go.ChangeShapes Go.WideShapes Go.ChangeAt Go.RowKit Go.Deep
def q9(W:World):bc:=⟨fun b o=> ∃u,W.cell? ⟨b,o,none⟩=some u,fun _=>none,fun _=>none,fun _ _ _=>eu⟩
def X5(W:World)(b:Nat):∀(us:List Value) (off:Nat),(∀i u,us[i]? =some u->W.cell? ⟨b,off+i,none⟩=some u)->kY W (q9 W).A b off us
 |[],_,_=>trivial
 |u::us,off,h=>by
  have a:W.cell? ⟨b,off,none⟩=some u:=by simpa using h 0 u rfl
  exact⟨⟨⟨u,a⟩,a⟩,X5 W b us (off+1) fun i c hu=>by have:=h (i+1) c (by simpa using hu);rwa[show off+(i+1)=off+1+i from by omega]at this⟩
section
variable {H:Type} {enc:gT×Value->H} {W:World} {spare:Nat->Bool} {held:Bool}
def reads(W:World)(p:af)(cs:List Value):Prop:= ∃v:Value,v.cells.toList=cs/\aU W (q9 W) p v/\∀c∈cs,c.oneCell'=true
def CC{W:World}{a:List af}{cs:List Value}(h:cW W (q9 W) a cs):reads W (.agg a) cs:=by
 refine⟨.agg cs.toArray,by simp[pw],by simp only[aU];exact⟨cs.toArray,rfl,by simpa using h⟩,?_⟩;have:∀(a:List af) (cs:List Value),cW W (q9 W) a cs->∀c∈cs,c.oneCell'=true:=by
  intro a;induction a with
  |nil=>intro cs h;simp only[cW]at h;subst h;simp
  |cons p a b=>
   intro cs h c aw;simp only[cW]at h;obtain⟨u,us,rfl,J,U⟩:=h;rcases gI.1 aw with rfl|aw
   ·exact J.2
   ·exact b us U c aw
 exact this a cs h
def wH(W:World)(p:af)(v:Value):Prop:=aU W (q9 W) p v/\v.oneCell'=true/\v.cells= #[v]
def wH.reads{W:World}{p:af}{v:Value}(h:wH W p v):reads W p [v]:=⟨v,by rw[h.2.2],h.1,fun c aw=>by simp at aw;subst aw;exact h.2.1⟩
def ael{W:World}{b a k j:Nat}:W.cell? (((⟨b,a,none⟩:Addr).add k).add j)=W.cell? ⟨b,a+(k+j),none⟩:=by rw[add_add,Addr.add_lit]
def FK{α:Type}{t e:gT}{sz:Nat}(f:α->af)(Q:α->Prop)(X:au.underlying t=some (.slice e))(aw:au.cellsOf e=sz)(L:0<sz){fuel:Nat}
  (y:∀n cs x,n<fuel->jT enc au W 0 spare held n e cs=some x->∃a:α,Q a/\reads W (f a) cs)
  {cs:List Value} {x:DataW H×List MemPlace} (h:jT enc au W 0 spare held fuel t cs=some x):∃l:dA α,l.wf Q/\∃v,cs=[v]/\wH W (l.e sz f) v:=by
 rcases DataW.trod_slice X h with⟨rfl,_⟩|⟨a,len,cap,elems,rest,n,rfl,rfl,_,_,R,hm,hlen,G,_,_⟩
 ·refine⟨.l [],by simp[dA.wf],_,rfl,?_,rfl,rfl⟩;simp only[dA.e,List.map_nil,aU];exact⟨⟨none,0,rfl,Ψ,⟨by simp[maxLen],by simp[lim]⟩,.inl Ψ⟩,fun e=>(by cases e),fun g e=>(by cases e),fun _ _ e=>(by cases e),fun _ e=>(by cases e)⟩
 by_cases Y:lim<len
 ·refine⟨.b (some a) len cap,⟨Y,by unfold maxLen at hm;omega⟩,_,rfl,?_,rfl,rfl⟩;simp only[dA.e,aU]
 rcases Nat.eq_zero_or_pos len with rfl|K
 ·refine⟨.l [],by simp[dA.wf],_,rfl,?_,rfl,rfl⟩;simp only[dA.e,List.map_nil,aU];exact⟨⟨some a,cap,rfl,Ψ,⟨hm,by simp[lim]⟩,.inl Ψ⟩,fun e=>(by cases e),fun g e=>(by cases e),fun _ _ e=>(by cases e),fun _ e=>(by cases e)⟩
 rw[aw]at G;have E:∀i,i<len->∃cs',cs'.length=sz/\(∀j,j<sz->W.cell? ((a.add (i*sz)).add j)=cs'[j]?)/\∃b:α,Q b/\reads W (f b) cs':=by intro i hi;have J:=G i hi;rw[cl Ω]at J;obtain⟨cs',U,o⟩:=mX.1 J;obtain⟨_,V,N⟩:=World.cells?_some U;exact⟨cs',V,N,y n cs' _ Ω o⟩
 obtain⟨m,k,spot⟩:=a;have w:spot=none:=by obtain⟨cs',J,U,_⟩:=E 0 K;have o:=U 0 L;rw[cl Ω]at o;simpa[Addr.add]using World.cell?_spot o
 subst w;have z:∀d,d<=len->∃xs:List α,xs.length=d/\(∀x∈xs,Q x)/\∃us:List Value,us.length=d*sz/\dw W (q9 W) sz (xs.map f) us/\∀j u,us[j]? =some u->W.cell? ⟨m,k+((len-d)*sz+j),none⟩=some u:=by
  intro d;induction d with
  |zero=>intro _;exact⟨[],rfl,Ψ,[],Ψ,by simp[dw],Ψ⟩
  |succ d P=>
   intro aL;obtain⟨xs,c,B,us,F,s,q⟩:=P Ω;obtain⟨cs',r,M,b,S,v,v1,v2,v3⟩:=E (len-(d+1)) Ω;have hmul:(len-d)*sz=(len-(d+1))*sz+sz:=by rw[show len-d=(len-(d+1))+1 from by omega,Nat.succ_mul]
   refine⟨b::xs,by simp[c],fun x A=>?_,cs'++us,by rw[qe,r,F,Nat.succ_mul];omega,?_,fun j u p=>?_⟩
   ·rcases gI.1 A with rfl|A
    ·exact S
    ·exact B x A
   ·simp only[gY,dw];exact⟨v,us,by rw[v1],⟨v2,by rw[<-r,<-v1];simp,by rw[v1];exact v3⟩,s⟩
   ·rcases Nat.lt_or_ge j sz with O|Z
    ·rw[rR Ω]at p;have:=M j O;rw[ael]at this;rw[this];exact p
    ·rw[vo Ω,r]at p;have:=q (j-sz) u p;rwa[show(len-d)*sz+(j-sz)=(len-(d+1))*sz+j from by omega]at this
 obtain⟨xs,c,B,us,F,s,q⟩:=z len (dO _);refine⟨.l xs,B,_,rfl,?_,rfl,rfl⟩;simp only[dA.e,aU];refine⟨⟨some ⟨m,k,none⟩,cap,by rw[List.length_map,c],by rw[List.length_map,c];exact R,⟨hm,by rw[List.length_map,c];omega⟩,.inr ⟨m,k,us,rfl,X5 W m us k fun i u hu=>?_,s⟩⟩,fun e=>(by cases e),fun g e=>(by cases e),fun _ _ e=>(by cases e),fun _ e=>(by cases e)⟩;have:=q i u hu;simpa using this
end
end
section
open Go Go.Pv
def vH:C:=(aa [cZ 2 0,bP 4 0] (aa [I 5 1,aF 6 2 1 2,ay 7 1 6,cd 8 (.slen (.t 7)),bu 9 .sub 5 8,I 1 9] (.seq (aa [I 10 1,aV 11 .lss 10 0] (aW 11 (aa [bP 4 (-1)] .ret) .skip)) (aa [aF 12 3 1 2,ay 13 1 12,I 14 1,cb 15 16 13 14,I 1 15] (.seq (aa [I 16 1,aV 17 .lss 16 0] (aW 17 (aa [bP 4 (-1)] .ret) .skip)) (aa [I 18 1,I 4 18] .ret))))))
def Lk:C:=(aa [bP 4 0] (aa [I 6 1,I 7 0,cw 8 7,bu 9 .sub 6 8,I 1 9] (.seq (aa [I 10 1,aV 11 .lss 10 0] (aW 11 (aa [bP 4 (-1)] .ret) .skip)) (.seq (aa [bP 5 0] (.block 0 (.loop (.seq (aa [I 12 5,I 13 0,cw 14 13,bu 15 .lss 12 14] (aW 15 .skip (.exit 0))) (.seq (.block 1 (aa [I 18 0,I 19 5,ck 20 4 18 19,bk 21 4 20,I 22 1,cb 23 15 21 22,I 1 23] (aa [I 24 1,aV 25 .lss 24 0] (aW 25 (aa [bP 4 (-1)] .ret) .skip)))) (.region [I 16 5,aV 17 .add 16 1,I 5 17])))))) (aa [I 26 1,I 4 26] .ret)))))
def S2:C:=(aa [cZ 1 0,dI 2 eB] (aa [dI 3 eB] (aa [aF 4 0 1 1,ay 5 1 4,aF 6 0 1 3,bV 1 6 5] (aa [aF 7 1 1 1,ay 8 1 7,aF 9 1 1 3,bV 1 9 8] (aa [aF 10 2 1 1,ay 11 1 10,aF 12 2 1 3,bV 1 12 11] (aa [aF 13 3 1 1,ay 14 1 13,c0 15 19 14,aF 16 3 1 3,bV 1 16 15] (aa [bk 17 4 3,bV 4 2 17] .ret)))))))
def S3:C:=(aa [fw 2 4] (aa [I 5 0,cw 6 5,dt (.mks 7 none 4 30 (.agg eB) (.t 6)),I 3 7] (.seq (aa [bP 4 0] (.block 0 (.loop (.seq (aa [I 8 4,I 9 0,cw 10 9,bu 11 .lss 8 10] (aW 11 .skip (.exit 0))) (.seq (.block 1 (.region [I 14 3,I 15 4,I 16 0,I 17 4,ck 18 4 16 17,bk 19 4 18,c0 20 18 19,ck 21 4 14 15,bV 4 21 20])) (.region [I 12 4,aV 13 .add 12 1,I 4 13])))))) (.seq (.pub 3 (.region [I 22 3,I 2 22])) .ret))))
def SN:C:=(aa [bz 4 false] (.seq (aa [I 6 0,cw 7 6,I 8 1,cw 9 8,bu 10 .neq 7 9] (aW 10 (aa [bz 4 false] .ret) .skip)) (.seq (aa [bP 5 0] (.block 0 (.loop (.seq (aa [I 11 5,I 12 0,cw 13 12,bu 14 .lss 11 13] (aW 14 .skip (.exit 0))) (.seq (.block 1 (.seq (.drawn true 27 [I 17 0,I 18 5,ck 19 4 17 18,bk 20 4 19,I 21 1,I 22 5,ck 23 4 21 22,bk 24 4 23,cb 25 22 20 24,cO 26 25]) (aW 26 (aa [bz 4 false] .ret) .skip))) (.region [I 15 5,aV 16 .add 15 1,I 5 16])))))) (aa [bz 4 true] .ret))))
def SM:C:=(aa [cZ 2 0,cZ 3 1,bz 4 false] (.seq (aa [aF 5 0 1 2,ay 6 1 5,aF 7 0 1 3,ay 8 1 7,bu 9 .neq 6 8] (aW 9 (aa [bz 4 false] .ret) .skip)) (.seq (aa [aF 10 1 1 2,ay 11 1 10,aF 12 1 1 3,ay 13 1 12,bu 14 .neq 11 13] (aW 14 (aa [bz 4 false] .ret) .skip)) (.seq (aa [aF 15 2 1 2,ay 16 1 15,aF 17 2 1 3,ay 18 1 17,bu 19 .neq 16 18] (aW 19 (aa [bz 4 false] .ret) .skip)) (.seq (aa [aF 20 3 1 2,ay 21 1 20,aF 22 3 1 3,ay 23 1 22,cb 24 21 21 23,cO 25 24] (aW 25 (aa [bz 4 false] .ret) .skip)) (aa [bz 4 true] .ret))))))
def AP:C:=(aa [cZ 2 0,bP 4 0] (aa [aF 5 1 1 2,ay 6 1 5,I 7 1,cb 8 33 6 7,I 1 8] (.seq (aa [I 9 1,aV 10 .lss 9 0] (aW 10 (aa [bP 4 (-1)] .ret) .skip)) (aa [aF 11 2 1 2,ay 12 1 11,I 13 1,cb 14 72 12 13,I 1 14] (.seq (aa [I 15 1,aV 16 .lss 15 0] (aW 16 (aa [bP 4 (-1)] .ret) .skip)) (aa [aF 17 3 1 2,ay 18 1 17,I 19 1,cb 20 73 18 19,I 1 20] (.seq (aa [I 21 1,aV 22 .lss 21 0] (aW 22 (aa [bP 4 (-1)] .ret) .skip)) (aa [aF 23 4 1 2,ay 24 1 23,I 25 1,cb 26 74 24 25,I 1 26] (.seq (aa [I 27 1,aV 28 .lss 27 0] (aW 28 (aa [bP 4 (-1)] .ret) .skip)) (aa [I 29 1,I 4 29] .ret))))))))))
def S1:C:=(aa [cZ 1 0,dI 2 ic] (aa [dI 3 ic] (aa [aF 4 0 1 1,ay 5 1 4,aF 6 0 1 3,bV 1 6 5] (aa [aF 7 1 1 1,ay 8 1 7,c0 9 35 8,aF 10 1 1 3,bV 1 10 9] (aa [aF 11 2 1 1,ay 12 1 11,c0 13 83 12,aF 14 2 1 3,bV 1 14 13] (aa [aF 15 3 1 1,ay 16 1 15,c0 17 84 16,aF 18 3 1 3,bV 1 18 17] (aa [aF 19 4 1 1,ay 20 1 19,c0 21 85 20,aF 22 4 1 3,bV 1 22 21] (aa [bk 23 5 3,bV 5 2 23] .ret))))))))
def SL:C:=(aa [cZ 2 0,cZ 3 1,bz 4 false] (.seq (aa [aF 5 0 1 2,ay 6 1 5,aF 7 0 1 3,ay 8 1 7,bu 9 .neq 6 8] (aW 9 (aa [bz 4 false] .ret) .skip)) (.seq (aa [aF 10 1 1 2,ay 11 1 10,aF 12 1 1 3,ay 13 1 12,cb 14 37 11 13,cO 15 14] (aW 15 (aa [bz 4 false] .ret) .skip)) (.seq (aa [aF 16 2 1 2,ay 17 1 16,aF 18 2 1 3,ay 19 1 18,cb 20 92 17 19,cO 21 20] (aW 21 (aa [bz 4 false] .ret) .skip)) (.seq (aa [aF 22 3 1 2,ay 23 1 22,aF 24 3 1 3,ay 25 1 24,cb 26 93 23 25,cO 27 26] (aW 27 (aa [bz 4 false] .ret) .skip)) (.seq (aa [aF 28 4 1 2,ay 29 1 28,aF 30 4 1 3,ay 31 1 30,cb 32 94 29 31,cO 33 32] (aW 33 (aa [bz 4 false] .ret) .skip)) (aa [bz 4 true] .ret)))))))
def Lh:C:=(aa [bP 4 0] (aa [I 6 1,I 7 0,cw 8 7,bu 9 .sub 6 8,I 1 9] (.seq (aa [I 10 1,aV 11 .lss 10 0] (aW 11 (aa [bP 4 (-1)] .ret) .skip)) (.seq (aa [bP 5 0] (.block 0 (.loop (.seq (aa [I 12 5,I 13 0,cw 14 13,bu 15 .lss 12 14] (aW 15 .skip (.exit 0))) (.seq (.block 1 (aa [I 18 0,I 19 5,ck 20 5 18 19,bk 21 5 20,I 22 1,cb 23 97 21 22,I 1 23] (aa [I 24 1,aV 25 .lss 24 0] (aW 25 (aa [bP 4 (-1)] .ret) .skip)))) (.region [I 16 5,aV 17 .add 16 1,I 5 17])))))) (aa [I 26 1,I 4 26] .ret)))))
def SX:C:=(aa [fw 2 5] (aa [I 5 0,cw 6 5,dt (.mks 7 none 5 113 (.agg ku) (.t 6)),I 3 7] (.seq (aa [bP 4 0] (.block 0 (.loop (.seq (aa [I 8 4,I 9 0,cw 10 9,bu 11 .lss 8 10] (aW 11 .skip (.exit 0))) (.seq (.block 1 (.region [I 14 3,I 15 4,I 16 0,I 17 4,ck 18 5 16 17,bk 19 5 18,c0 20 101 19,ck 21 5 14 15,bV 5 21 20])) (.region [I 12 4,aV 13 .add 12 1,I 4 13])))))) (.seq (.pub 3 (.region [I 22 3,I 2 22])) .ret))))
def SH:C:=(aa [bz 4 false] (.seq (aa [I 6 0,cw 7 6,I 8 1,cw 9 8,bu 10 .neq 7 9] (aW 10 (aa [bz 4 false] .ret) .skip)) (.seq (aa [bP 5 0] (.block 0 (.loop (.seq (aa [I 11 5,I 12 0,cw 13 12,bu 14 .lss 11 13] (aW 14 .skip (.exit 0))) (.seq (.block 1 (.seq (.drawn true 27 [I 17 0,I 18 5,ck 19 5 17 18,bk 20 5 19,I 21 1,I 22 5,ck 23 5 21 22,bk 24 5 23,cb 25 103 20 24,cO 26 25]) (aW 26 (aa [bz 4 false] .ret) .skip))) (.region [I 15 5,aV 16 .add 15 1,I 5 16])))))) (aa [bz 4 true] .ret))))
def Li:C:=(aa [bP 4 0] (aa [I 6 1,I 7 0,cw 8 7,bu 9 .sub 6 8,I 1 9] (.seq (aa [I 10 1,aV 11 .lss 10 0] (aW 11 (aa [bP 4 (-1)] .ret) .skip)) (.seq (aa [bP 5 0] (.block 0 (.loop (.seq (aa [I 12 5,I 13 0,cw 14 13,bu 15 .lss 12 14] (aW 15 .skip (.exit 0))) (.seq (.block 1 (aa [I 18 0,I 19 5,ck 20 1 18 19,ay 21 1 20,I 22 1,cb 23 33 21 22,I 1 23] (aa [I 24 1,aV 25 .lss 24 0] (aW 25 (aa [bP 4 (-1)] .ret) .skip)))) (.region [I 16 5,aV 17 .add 16 1,I 5 17])))))) (aa [I 26 1,I 4 26] .ret)))))
def GK:C:=(aa [bP 4 0] (aa [I 5 1,I 6 0,cw 7 6,bu 8 .sub 5 7,I 1 8] (.seq (aa [I 9 1,aV 10 .lss 9 0] (aW 10 (aa [bP 4 (-1)] .ret) .skip)) (aa [I 11 1,I 4 11] .ret))))
def Lj:C:=(aa [bP 4 0] (aa [I 6 1,I 7 0,cw 8 7,bu 9 .sub 6 8,I 1 9] (.seq (aa [I 10 1,aV 11 .lss 10 0] (aW 11 (aa [bP 4 (-1)] .ret) .skip)) (.seq (aa [bP 5 0] (.block 0 (.loop (.seq (aa [I 12 5,I 13 0,cw 14 13,bu 15 .lss 12 14] (aW 15 .skip (.exit 0))) (.seq (.block 1 (aa [I 18 0,I 19 5,ck 20 2 18 19,bk 21 2 20,I 22 1,cb 23 144 21 22,I 1 23] (aa [I 24 1,aV 25 .lss 24 0] (aW 25 (aa [bP 4 (-1)] .ret) .skip)))) (.region [I 16 5,aV 17 .add 16 1,I 5 17])))))) (aa [I 26 1,I 4 26] .ret)))))
def SY:C:=(aa [fw 2 1] (aa [I 5 0,cw 6 5,dt (.mks 7 none 1 46 (.slice 5 .nil []) (.t 6)),I 3 7] (.seq (aa [bP 4 0] (.block 0 (.loop (.seq (aa [I 8 4,I 9 0,cw 10 9,bu 11 .lss 8 10] (aW 11 .skip (.exit 0))) (.seq (.block 1 (.region [I 14 3,I 15 4,I 16 0,I 17 4,ck 18 1 16 17,ay 19 1 18,c0 20 35 19,ck 21 1 14 15,bV 1 21 20])) (.region [I 12 4,aV 13 .add 12 1,I 4 13])))))) (.seq (.pub 3 (.region [I 22 3,I 2 22])) .ret))))
def S5:C:=(aa [fw 2 2] (aa [I 5 0,cw 6 5,dt (.mks 7 none 2 98 (.agg [.int .i64 0,.int .i64 0]) (.t 6)),I 3 7] (.seq (aa [bP 4 0] (.block 0 (.loop (.seq (aa [I 8 4,I 9 0,cw 10 9,bu 11 .lss 8 10] (aW 11 .skip (.exit 0))) (.seq (.block 1 (.region [I 14 3,I 15 4,I 16 0,I 17 4,ck 18 2 16 17,bk 19 2 18,c0 20 156 19,ck 21 2 14 15,bV 2 21 20])) (.region [I 12 4,aV 13 .add 12 1,I 4 13])))))) (.seq (.pub 3 (.region [I 22 3,I 2 22])) .ret))))
def S0:C:=(aa [fw 2 2] (aa [I 5 0,cw 6 5,dt (.mks 7 none 2 100 (.agg [.int .i64 0,.str []]) (.t 6)),I 3 7] (.seq (aa [bP 4 0] (.block 0 (.loop (.seq (aa [I 8 4,I 9 0,cw 10 9,bu 11 .lss 8 10] (aW 11 .skip (.exit 0))) (.seq (.block 1 (.region [I 14 3,I 15 4,I 16 0,I 17 4,ck 18 2 16 17,bk 19 2 18,c0 20 157 19,ck 21 2 14 15,bV 2 21 20])) (.region [I 12 4,aV 13 .add 12 1,I 4 13])))))) (.seq (.pub 3 (.region [I 22 3,I 2 22])) .ret))))
def SI:C:=(aa [bz 4 false] (.seq (aa [I 6 0,cw 7 6,I 8 1,cw 9 8,bu 10 .neq 7 9] (aW 10 (aa [bz 4 false] .ret) .skip)) (.seq (aa [bP 5 0] (.block 0 (.loop (.seq (aa [I 11 5,I 12 0,cw 13 12,bu 14 .lss 11 13] (aW 14 .skip (.exit 0))) (.seq (.block 1 (.seq (.drawn true 27 [I 17 0,I 18 5,ck 19 1 17 18,ay 20 1 19,I 21 1,I 22 5,ck 23 1 21 22,ay 24 1 23,cb 25 37 20 24,cO 26 25]) (aW 26 (aa [bz 4 false] .ret) .skip))) (.region [I 15 5,aV 16 .add 15 1,I 5 16])))))) (aa [bz 4 true] .ret))))
def SP:C:=(aa [bz 4 false] (.seq (aa [I 6 0,cw 7 6,I 8 1,cw 9 8,bu 10 .neq 7 9] (aW 10 (aa [bz 4 false] .ret) .skip)) (.seq (aa [bP 5 0] (.block 0 (.loop (.seq (aa [I 11 5,I 12 0,cw 13 12,bu 14 .lss 11 13] (aW 14 .skip (.exit 0))) (.seq (.block 1 (.seq (.drawn true 27 [I 17 0,I 18 5,ck 19 2 17 18,bk 20 2 19,I 21 1,I 22 5,ck 23 2 21 22,bk 24 2 23,cb 25 170 20 24,cO 26 25]) (aW 26 (aa [bz 4 false] .ret) .skip))) (.region [I 15 5,aV 16 .add 15 1,I 5 16])))))) (aa [bz 4 true] .ret))))
def SK:C:=(aa [bz 4 false] (.seq (aa [I 6 0,cw 7 6,I 8 1,cw 9 8,bu 10 .neq 7 9] (aW 10 (aa [bz 4 false] .ret) .skip)) (.seq (aa [bP 5 0] (.block 0 (.loop (.seq (aa [I 11 5,I 12 0,cw 13 12,bu 14 .lss 11 13] (aW 14 .skip (.exit 0))) (.seq (.block 1 (.seq (.drawn true 27 [I 17 0,I 18 5,ck 19 2 17 18,bk 20 2 19,I 21 1,I 22 5,ck 23 2 21 22,bk 24 2 23,cb 25 171 20 24,cO 26 25]) (aW 26 (aa [bz 4 false] .ret) .skip))) (.region [I 15 5,aV 16 .add 15 1,I 5 16])))))) (aa [bz 4 true] .ret))))
def Lg:C:=(aa [cZ 2 0,bP 4 0] (aa [hp 5 1 4 2,bk 6 4 5,I 7 1,cb 8 15 6 7,I 1 8] (.seq (aa [I 9 1,aV 10 .lss 9 0] (aW 10 (aa [bP 4 (-1)] .ret) .skip)) (aa [I 11 1,I 4 11] .ret))))
def SV:C:=(aa [cZ 1 0,dI 2 ku] (aa [dI 3 ku] (aa [aF 4 0 1 1,ay 5 1 4,aF 6 0 1 3,bV 1 6 5] (aa [hp 7 1 4 1,bk 8 4 7,c0 9 18 8,hp 10 1 4 3,bV 4 10 9] (aa [bk 11 5 3,bV 5 2 11] .ret)))))
def SG:C:=(aa [cZ 2 0,cZ 3 1,bz 4 false] (.seq (aa [aF 5 0 1 2,ay 6 1 5,aF 7 0 1 3,ay 8 1 7,bu 9 .neq 6 8] (aW 9 (aa [bz 4 false] .ret) .skip)) (.seq (aa [hp 10 1 4 2,bk 11 4 10,hp 12 1 4 3,bk 13 4 12,cb 14 22 11 13,cO 15 14] (aW 15 (aa [bz 4 false] .ret) .skip)) (aa [bz 4 true] .ret))))
def GJ:C:=(aa [cZ 2 0,bP 4 0] (aa [I 5 1,aF 6 1 1 2,ay 7 1 6,cd 8 (.slen (.t 7)),bu 9 .sub 5 8,I 1 9] (.seq (aa [I 10 1,aV 11 .lss 10 0] (aW 11 (aa [bP 4 (-1)] .ret) .skip)) (aa [I 12 1,I 4 12] .ret))))
def S4:C:=(aa [cZ 1 0,dt (.alloc 2 none (.agg [.int .i64 0,.int .i64 0]))] (aa [dt (.alloc 3 none (.agg [.int .i64 0,.int .i64 0]))] (aa [aF 4 0 1 1,ay 5 1 4,aF 6 0 1 3,bV 1 6 5] (aa [aF 7 1 1 1,ay 8 1 7,aF 9 1 1 3,bV 1 9 8] (aa [bk 10 2 3,bV 2 2 10] .ret)))))
def SZ:C:=(aa [cZ 1 0,dt (.alloc 2 none (.agg [.int .i64 0,.str []]))] (aa [dt (.alloc 3 none (.agg [.int .i64 0,.str []]))] (aa [aF 4 0 1 1,ay 5 1 4,aF 6 0 1 3,bV 1 6 5] (aa [aF 7 1 1 1,ay 8 1 7,aF 9 1 1 3,bV 1 9 8] (aa [bk 10 2 3,bV 2 2 10] .ret)))))
def SO:C:=(aa [cZ 2 0,cZ 3 1,bz 4 false] (.seq (aa [aF 5 0 1 2,ay 6 1 5,aF 7 0 1 3,ay 8 1 7,bu 9 .neq 6 8] (aW 9 (aa [bz 4 false] .ret) .skip)) (.seq (aa [aF 10 1 1 2,ay 11 1 10,aF 12 1 1 3,ay 13 1 12,bu 14 .neq 11 13] (aW 14 (aa [bz 4 false] .ret) .skip)) (aa [bz 4 true] .ret))))
def SJ:C:=(aa [cZ 2 0,cZ 3 1,bz 4 false] (.seq (aa [aF 5 0 1 2,ay 6 1 5,aF 7 0 1 3,ay 8 1 7,bu 9 .neq 6 8] (aW 9 (aa [bz 4 false] .ret) .skip)) (.seq (aa [aF 10 1 1 2,ay 11 1 10,aF 12 1 1 3,ay 13 1 12,bu 14 .neq 11 13] (aW 14 (aa [bz 4 false] .ret) .skip)) (aa [bz 4 true] .ret))))
def x5:b4 aT vH [.tmp 4] 2 Tryz.f15=true:=bi
def ZA:b4 aT Lk [.tmp 4] 2 Tryz.f16=true:=bi
def aoj:b4 aT S2 [.cell 2 true 4] 1 Tryz.f18=true:=bi
def aok:b4 aT S3 [.tmp 2] 1 Tryz.f19=true:=bi
def an7:b4 aT SN [.tmp 4] 2 Tryz.f21=true:=bi
def an6:b4 aT SM [.tmp 4] 2 Tryz.f22=true:=bi
def E7:b4 aT AP [.tmp 4] 2 Tryz.f26=true:=bi
def aoi:b4 aT S1 [.cell 2 true 5] 1 Tryz.f28=true:=bi
def an5:b4 aT SL [.tmp 4] 2 Tryz.f30=true:=bi
def Zx:b4 aT Lh [.tmp 4] 2 Tryz.f33=true:=bi
def aoe:b4 aT SX [.tmp 2] 1 Tryz.f35=true:=bi
def an1:b4 aT SH [.tmp 4] 2 Tryz.f37=true:=bi
def Zy:b4 aT Li [.tmp 4] 2 Tryz.f72=true:=bi
def O6:b4 aT GK [.tmp 4] 2 Tryz.f73=true:=bi
def Zz:b4 aT Lj [.tmp 4] 2 Tryz.f74=true:=bi
def aof:b4 aT SY [.tmp 2] 1 Tryz.f83=true:=bi
def aom:b4 aT S5 [.tmp 2] 1 Tryz.f84=true:=bi
def aoh:b4 aT S0 [.tmp 2] 1 Tryz.f85=true:=bi
def an2:b4 aT SI [.tmp 4] 2 Tryz.f92=true:=bi
def an9:b4 aT SP [.tmp 4] 2 Tryz.f93=true:=bi
def an4:b4 aT SK [.tmp 4] 2 Tryz.f94=true:=bi
def Zw:b4 aT Lg [.tmp 4] 2 Tryz.f97=true:=bi
def aod:b4 aT SV [.cell 2 true 5] 1 Tryz.f101=true:=bi
def an0:b4 aT SG [.tmp 4] 2 Tryz.f103=true:=bi
def O5:b4 aT GJ [.tmp 4] 2 Tryz.f144=true:=bi
def aol:b4 aT S4 [.cell 2 true 2] 1 Tryz.f156=true:=bi
def aog:b4 aT SZ [.cell 2 true 2] 1 Tryz.f157=true:=bi
def an8:b4 aT SO [.tmp 4] 2 Tryz.f170=true:=bi
def an3:b4 aT SJ [.tmp 4] 2 Tryz.f171=true:=bi
def nz{α:Type}(f:α->af)(z:af)(l:List α)(i:Nat):List af:=(l.take i).map f++List.replicate (l.length-i) z
def Ca{α:Type}(f:α->af)(z:af)(l:List α):nz f z l 0=List.replicate l.length z:=by simp[nz]
def YM{α:Type}(f:α->af)(z:af)(l:List α):nz f z l l.length=l.map f:=by simp[nz]
def YN{α:Type}(f:α->af)(z:af)(l:List α){i:Nat}(hi:i<l.length):(nz f z l i)[i]? =some z:=by
 unfold nz;have h:((l.take i).map f).length=i:=by simp;omega
 rw[vo Ω,h,Nat.sub_self,List.getElem?_replicate,if_pos Ω]
def YO{α:Type}(f:α->af)(z:af)(l:List α){i:Nat}{x:α}(a:l[i]? =some x):(nz f z l i).set i (f x)=nz f z l (i+1):=by
 have hi:=(fH.1 a).1;unfold nz;have h:((l.take i).map f).length=i:=by simp;omega
 rw[List.set_append_right _ _ Ω,h,Nat.sub_self,nG a,List.map_append,List.append_assoc];congr 1;obtain⟨m,hm⟩:∃m,l.length-i=m+1:=⟨l.length-i-1,Ω⟩;rw[hm,show l.length-(i+1)=m from by omega,List.replicate_succ,List.set_cons_zero];rfl
def NW(S:aB->Prop):∀{a b:List af},aH S (a++b)↔aH S a/\aH S b
 |[],b=>by simp[aH]
 |x::a,b=>by simp[aH,NW S (a:=a),and_assoc]
def XL{α:Type}(S:aB->Prop)(f:α->af)(a:∀x,az S (f x)):∀l:List α,aH S (l.map f)
 |[]=>by simp[aH]
 |x::xs=>by simp[aH,XL S f a xs,a]
def qK(S:aB->Prop)(z:af)(a:az S z):∀n,aH S (List.replicate n z)
 |0=>by simp[aH]
 |n+1=>by simp[List.replicate_succ,aH,qK S z a n,a]
def XX{α:Type}(S:aB->Prop)(f:α->af)(z:af)(l:List α)(i:Nat)(b:∀x,az S (f x))(a:az S z):aH S (nz f z l i):=by unfold nz;rw[NW];exact⟨XL S f b _,qK S z a _⟩
def lZ{α:Type}(f:α->Nat->af)(z:af)(out:List (α×Nat))(n:Nat):List af:=j1 f out++List.replicate (n-out.length) z
def wA{α:Type}(f:α->Nat->af)(z:af)(n:Nat):List.replicate n z=lZ f z [] n:=by simp[lZ]
def OI{α:Type}(f:α->Nat->af)(z:af){out:List (α×Nat)}{n i:Nat}(hi:i<n)(ar:out.length=i):(lZ f z out n)[i]? =some z:=by subst ar;simp[lZ,List.getElem?_append,List.getElem?_replicate,hi];omega
def OK{α:Type}(f:α->Nat->af)(z:af){out:List (α×Nat)}{n i:Nat}(hi:i<n)(ar:out.length=i)(x:α)(m:Nat):(lZ f z out n).set i (f x m)=lZ f z (out++[(x,m)]) n:=by
 subst ar;obtain⟨d,a⟩:∃d,n-out.length=d+1:=⟨n-out.length-1,Ω⟩;have U:n-(out.length+1)=d:=Ω
 simp[lZ,a,U,List.replicate_succ,List.set_append]
def OH{α:Type}(f:α->Nat->af)(z:af){out:List (α×Nat)}{n:Nat}(ar:out.length=n):lZ f z out n=j1 f out:=by subst ar;simp[lZ]
@[simp]def OJ{α:Type}(f:α->Nat->af)(z:af){out:List (α×Nat)}{n:Nat}(ar:out.length<=n):(lZ f z out n).length=n:=by simp[lZ];omega
def NU{α:Type}{f:α->Nat->af}{g:α->af}(h:nI f g){n m:Nat}{l:List (α×Nat)}{z:af}(a:∀S,az S z)(b:q4 n l)(hm:n<=m)(o:List aB)(N:Nat):aH (fun k=> ¬fresh m o k) (lZ f z l N)=True:=by have J:=h.kin b hm o;unfold lZ;rw[NW];simp only[J,true_and];exact h2 (qK _ _ (a _) _)
def _root_.Go.Pv.Tm.k(t:Tm)(κ:Nat):af:= .agg [aj t.kind,aj t.num,.str t.name,.slice 4 (.tr (.loc κ) 0) (t.args.map enc)]
def BR:nI Tm.k enc:=⟨fun x n=>rfl,fun x n=>by simp[Tm.k,fq,gb,ei],fun x n=>by cases x;simp[Tm.k,b5,cf,enc,A1,Tm.kind,Tm.num,Tm.name,Tm.args],fun S x n h=>by simp[Tm.k,az,aH,h]⟩
def acV(l:dA cH)(hw:∀p n cap,l= .b p n cap->od n)(c:∀xs,l= .l xs->∀x∈xs,∀m,0<=m->m<=1048576->bU au 15 [cH.e x,aj m] (aj (hz x m)))(m:Int)(u:0<=m)(J:m<=1048576):bU au 16 [l.e 4 cH.e,aj m] (aj (fs hz l m)):=by
 cases l with
 |b p n cap=>
  have r:=hw p n cap rfl;simp only[od,lim]at r;have g:m-n<0:=Ω
  simp only[dA.e,fs];clear hw c;refine bI a6 Tryz.func16 ZA fun o=>?_;unfold Lk;exact cr
 |l l=>
 have c:=c l rfl;clear hw;simp only[dA.e,fs];generalize bt:mq hz l m=R;unfold mq at bt;refine bI a6 Tryz.func16 ZA fun o=>?_;unfold Lk;have t:l.length<=68719476736:=by simp[eM,eV,eN,lim]at o;omega
 simp;by_cases g:m-l.length<0
 ·rw[if_pos g]at bt;subst bt;exact cr
 rw[if_neg g]at bt;(repeat' first|refine al ?_|simp[g]);refine eZ [0] (fun i (k:Int)=>[(1,aj k),(5,aj i)]) l.length (fun i k=>(0<=k/\k<=1048576)/\jQ hz (l.drop i) k=R) (m-l.length) b9 ⟨⟨Ω,Ω⟩,by simpa using bt⟩ (fun k a _=>?_) (fun i k hi a _=>?_)
 ·obtain⟨_,a⟩:=a;rw[List.drop_length]at a;simp only[jQ]at a;subst a;exact cr
 ·obtain⟨⟨f,s⟩,a⟩:=a;obtain⟨x,e,j⟩:=eW hi;have key:=c x (ft e) k f s;have hle:=yq x k f;rw[uX e]at a;simp only[jQ]at a;generalize hz x k=q at key hle a;clear e;by_cases d:q<0
  ·rw[if_pos d]at a;subst a;exact cr
  ·rw[if_neg d]at a;simp[hi,j];((repeat' first|refine al ?_|refine aO key ?_|refine aP key ?_|simp[hi,j,d]|((first|apply ct|apply cz|apply cy)<;>intro h<;>try simp at h))<;>(try exact c3));all_goals exact bY.rng q hi ⟨⟨Ω,Ω⟩,a⟩ b9
def asa(l:List Tm)(c:∀x∈l,bU au 22 [enc x,enc x] (.bool true)):bU au 21 [dx (l.map enc),dx (l.map enc)] (.bool true):=by
 refine bI a6 Tryz.func21 an7 fun b=>?_;unfold SN;have d:l.length<=68719476736:=by simp[eM,eV,eN,lim]at b;omega
 simp;(repeat' first|refine al ?_|simp);refine eZ [0,1] (fun i (_:Unit)=>[(5,aj i)]) l.length (fun _ _=>True) () b9 trivial (fun _ _ _=>?_) (fun i _ hi _ _=>?_)
 ·exact cr
 ·obtain⟨x,a,e⟩:=eW hi;have key:=c x (ft a);clear a;exact iV
def acU(t:cH)(hw:t.wf):∀m:Int,0<=m->m<=1048576->bU au 15 [t.e,aj m] (aj (hz t m)):=by
 suffices H:∀(k:Nat) (t:cH),t.sz<=k->t.wf->∀m:Int,0<=m->m<=1048576->bU au 15 [t.e,aj m] (aj (hz t m))from H _ t (dO _) hw
 intro k;clear hw t;induction k with
 |zero=>intro t r;cases t<;>simp[cH.sz]at r
 |succ k o=>
  intro t r hw m A J;cases t with
  |mk j tn s a=>
   simp only[cH.wf,cH.wfL_iff]at hw;obtain⟨v,u⟩:=hw;have d:m-s.len<0->hz (.mk j tn s a) m= -1:=fun g=>by rw[J1];exact if_pos g
   have f:¬m-s.len<0->hz (.mk j tn s a) m=fs hz (.l a) (m-s.len):=fun g=>by rw[J1];exact if_neg g
   generalize hz (.mk j tn s a) m=R at d f;have z:=s.len_nn;have key:=fun h=>acV (.l a) (fun p n c e=>by cases e) (fun xs e x w=>by cases e;exact o x (by have:=cH.szL_mem w;simp only[cH.sz]at r;omega) (u x w)) (m-s.len) h Ω;have hle:=fun h=>vh yq (.l a) (m-s.len) h;simp only[cH.e,cH.eL_map];simp only[dA.e]at key;clear r u;cases s with
   |b x=>
    simp only[hB.wf,od,lim]at v;have g:m-x.size<0:=Ω
    have bt:=d g;subst bt;clear d f;clear key hle o;simp only[hB.e];refine bI a6 Tryz.func15 x5 fun i=>?_;unfold vH;exact cr
   |s l=>
    simp only[hB.len]at d f key hle;simp only[hB.e];by_cases g:m-l.length<0
    ·have bt:=d g;subst bt;clear d f;clear key hle o;refine bI a6 Tryz.func15 x5 fun i=>?_;unfold vH;have q:l.length<=68719476736:=by simp[eM,eV,eN,lim]at i;omega
     exact cr
    ·have bt:=f g;clear d f;have key:=key Ω;have hle:=hle Ω;rw[<-bt]at key hle;clear bt o;by_cases y:R<0
     ·have:R= -1:=Ω
      subst this;refine bI a6 Tryz.func15 x5 fun i=>?_;unfold vH;have q:l.length<=68719476736:=by simp[eM,eV,eN,lim]at i;omega
      exact cr
     ·refine bI a6 Tryz.func15 x5 fun i=>?_;unfold vH;have q:l.length<=68719476736:=by simp[eM,eV,eN,lim]at i;omega
      exact cr
  |big j tn s p n c=>
   simp only[cH.wf]at hw;obtain⟨v,u⟩:=hw;have d:m-s.len<0->hz (.big j tn s p n c) m= -1:=fun g=>by rw[J1];exact if_pos g
   have f:¬m-s.len<0->hz (.big j tn s p n c) m=fs hz (.b p n c) (m-s.len):=fun g=>by rw[J1];exact if_neg g
   generalize hz (.big j tn s p n c) m=R at d f;have z:=s.len_nn;have key:=fun h=>acV (.b p n c) (fun p n c e=>by cases e;exact u) (fun xs e=>by cases e) (m-s.len) h Ω;have hle:=fun h=>vh yq (.b p n c) (m-s.len) h;simp only[cH.e];simp only[dA.e]at key;clear r u;cases s with
   |b x=>
    simp only[hB.wf,od,lim]at v;have g:m-x.size<0:=Ω
    have bt:=d g;subst bt;clear d f;clear key hle o;simp only[hB.e];refine bI a6 Tryz.func15 x5 fun i=>?_;unfold vH;exact cr
   |s l=>
    simp only[hB.len]at d f key hle;simp only[hB.e];by_cases g:m-l.length<0
    ·have bt:=d g;subst bt;clear d f;clear key hle o;refine bI a6 Tryz.func15 x5 fun i=>?_;unfold vH;have q:l.length<=68719476736:=by simp[eM,eV,eN,lim]at i;omega
     exact cr
    ·have bt:=f g;clear d f;have key:=key Ω;have hle:=hle Ω;rw[<-bt]at key hle;clear bt o;by_cases y:R<0
     ·have:R= -1:=Ω
      subst this;refine bI a6 Tryz.func15 x5 fun i=>?_;unfold vH;have q:l.length<=68719476736:=by simp[eM,eV,eN,lim]at i;omega
      exact cr
     ·refine bI a6 Tryz.func15 x5 fun i=>?_;unfold vH;have q:l.length<=68719476736:=by simp[eM,eV,eN,lim]at i;omega
      exact cr
def ane(l:List Tm)(v:∀x∈l,fW au 18 [enc x] (Tm.k x)):fW au 19 [dx (l.map enc)] fun κ=>.slice 4 (.tr (.loc κ) 0) (l.map enc):=by
 refine fW.mk mixed a6 Tryz.func19 aok Ψ fun u κ=>?_;unfold S3;have w:l.length<=68719476736:=by simp[eM,eV,eN,lim]at u;omega
 simp;all_goals try refine⟨by unfold lim;omega,?_⟩
 (repeat' first|refine al ?_|simp);have c:∀S:aB->Prop,az S (.agg [aj 0,aj 0,.str [],.slice 4 .nil []]):=fun S=>by simp[az,aH]
 refine fS (fun i (x:Nat×List (Tm×Nat))=>⟨[(0,dx (l.map enc)),(3,.row 4 (.loc 0) l.length),(4,aj i)],[],[(.loc 0,⟨l.length,30,4,some (lZ Tm.k (.agg [aj 0,aj 0,.str [],.slice 4 .nil []]) x.2 l.length)⟩)],x.1,[]⟩) l.length (fun i x=>1<=x.1/\q4 x.1 x.2/\x.2.map (·.1)=l.take i) (1,[]) ⟨by simp[fresh,aH,az,cc,aM,ae,<-wA,qK _ _ (c _)],eo (by simp[fresh,aH,az,cc,aM,ae,<-wA,qK _ _ (c _)]),ep (by simp[fresh,aH,az,dV,aM,ae,<-wA,qK _ _ (c _)]),Ψ⟩ ⟨dO _,.nil _,Ψ⟩ (fun x e _=>?_) (fun i x hi e _=>?_)
 ·obtain⟨n,out⟩:=x;obtain⟨J,U,a⟩:=e;simp only[jA]at J U a;have b:out.length=l.length:=by rw[<-a];simp
  simp;rw[OH _ _ b];(repeat' first|refine al ?_|simp);(refine h4.val Ψ ?_;simp[ba,be,a1,e9,hn,eC,gR,ef,gH,tnL,tn,fq,gb,fold,hE,hC,iH,ae,ei,cf,b5,BR.okL,BR.nodup U,BR.stL,a,b])
 ·obtain⟨n,out⟩:=x;obtain⟨J,U,a⟩:=e;simp only at J U a;obtain⟨x,r,k⟩:=eW hi;have key:=v x (ft r);have b:out.length=i:=by have:=fy List.length a;simp at this;omega
  have d:=OI Tm.k (.agg [aj 0,aj 0,.str [],.slice 4 .nil []]) hi b;have g:∀h,((lZ Tm.k (.agg [aj 0,aj 0,.str [],.slice 4 .nil []]) out l.length)[i]'h)= .agg [aj 0,aj 0,.str [],.slice 4 .nil []]:=fun h=>by rw[cl h]at d;exact e6 d
  have f:=fun m=>OK Tm.k (.agg [aj 0,aj 0,.str [],.slice 4 .nil []]) hi b x m;have o:=OJ Tm.k (.agg [aj 0,aj 0,.str [],.slice 4 .nil []]) (out:=out) (n:=l.length) Ω;have y:=fun m n' (h:n<=m) (t:m<n')=>U.snoc x h t;have s:∀m,(out++[(x,m)]).map (fun p:Tm×Nat=>p.1)=l.take (i+1):=fun m=>by rw[nG r,<-a];simp
  generalize lZ Tm.k (.agg [aj 0,aj 0,.str [],.slice 4 .nil []]) out l.length=r0 at d g f o⊢;have q:=U.snoc x (dO n) (Nat.lt_succ_self n);have j:=NU BR c q (dO _) [] l.length;simp[fresh]at j;simp[hi,k];(refine CallDo.own Ψ (key) (by simp[ei]) ?_;simp);(repeat' first|refine al ?_|simp[hi,k,g,o,f,Tm.k,nD]);refine bY.rng (n+1,out++[(x,n)]) hi ?_ ?_
  ·exact⟨Ψ,q,s n⟩
  simp;rw[show(af.agg [aj x.kind,aj x.num,.str x.name,.slice 4 (.tr (.loc n) 0) (x.args.map enc)])=Tm.k x n from rfl,f n];exact⟨by simp[fresh,aH,az,cc,aM,ae],eo Ψ,ep (by simp[fresh,aH,az,cc,aM,ae,dV];exact j),Ψ⟩
def OS(t:Tm):fW au 18 [enc t] t.k:=by
 suffices H:∀(k:Nat) (t:Tm),t.sz<=k->fW au 18 [enc t] t.k from H _ t (dO _)
 intro k;induction k with
 |zero=>intro t b;cases t;simp[Tm.sz]at b
 |succ k a=>intro t b;have key:=ane t.args (fun x c=>a x (by have:=QD c;omega));clear a;refine fW.mk mixed a6 Tryz.func18 aoj Ψ fun d κ=>?_;unfold S2;simp;(repeat' first|refine al ?_|simp);(refine CallDo.own Ψ (key) (by simp[ei]) ?_;simp);(repeat' first|refine al ?_|simp);(refine h4.val Ψ ?_;simp[ba,be,a1,e9,hn,eC,gR,ef,gH,tnL,tn,fq,gb,fold,hE,hC,iH,ae,ei,cf,b5]);all_goals simp[Tm.k]
@[simp]def aum(t:Tm)(n:Nat):cells (t.k n)=[aj t.kind,aj t.num,.str t.name,.slice 4 (.tr (.loc n) 0) (t.args.map enc)]:=rfl
@[simp]def axF(t:Tm)(n:Nat):eT (t.k n)=true:=rfl
def atb(t:Tm):bU au 18 [enc t] (enc t):=by have:=(OS t).val (by rw[BR.st];simp);rwa[BR.st]at this
def acz(t:Tm):bU au 22 [enc t,enc t] (.bool true):=by
 suffices H:∀(k:Nat) (t:Tm),t.sz<=k->bU au 22 [enc t,enc t] (.bool true)from H _ t (dO _)
 intro k;induction k with
 |zero=>intro t b;cases t;simp[Tm.sz]at b
 |succ k a=>intro t b;have key:=asa t.args (fun x c=>a x (by have:=QD c;omega));clear a;refine bI a6 Tryz.func22 an6 fun d=>?_;unfold SM;exact cr
structure fP where
 v:Int
 t:cH
def fP.e(b:fP):af:= .agg [aj b.v,aj b.t.kind,aj b.t.num,b.t.name.e,b.t.args.e 4 cH.e]
@[simp]def avT(S:aB->Prop)(b:fP):az S b.e=True:=by simp[fP.e,az,aH]
@[simp]def axK(b:fP):b5 b.e=b.e:=by simp[fP.e,b5,cf]
def XN(S:aB->Prop):∀l:List fP,aH S (l.map fP.e)
 |[]=>by simp[aH]
 |x::xs=>by simp[aH,XN S xs]
@[simp]def avI(S:aB->Prop)(l:List fP):aH S (l.map fP.e)=True:=h2 (XN S l)
@[simp]def axg(b:fP):eT b.e=true:=rfl
@[simp]def avr(b:fP):qI 5 b.e:=⟨_,rfl,rfl⟩
@[simp]def atY(b:fP):cells b.e=[aj b.v,aj b.t.kind,aj b.t.num,b.t.name.e,b.t.args.e 4 cH.e]:=rfl
structure ix where
 v:Int
 s:hB
def ix.e(b:ix):af:= .agg [aj b.v,b.s.e]
@[simp]def av5(S:aB->Prop)(b:ix):az S b.e=True:=by simp[ix.e,az,aH]
@[simp]def axW(b:ix):b5 b.e=b.e:=by simp[ix.e,b5,cf]
def XS(S:aB->Prop):∀l:List ix,aH S (l.map ix.e)
 |[]=>by simp[aH]
 |x::xs=>by simp[aH,XS S xs]
@[simp]def avN(S:aB->Prop)(l:List ix):aH S (l.map ix.e)=True:=h2 (XS S l)
@[simp]def axx(b:ix):eT b.e=true:=rfl
@[simp]def avw(b:ix):qI 2 b.e:=⟨_,rfl,rfl⟩
@[simp]def aue(b:ix):cells b.e=[aj b.v,b.s.e]:=rfl
def qT(b:fP)(m:Int):Int:=hz b.t m
def Qy(b:fP)(m:Int)(h:0<=m): -1<=qT b m/\qT b m<=m:=yq b.t m h
def jR(b:ix)(m:Int):Int:=if m-b.s.len<0 then-1 else m-b.s.len
def FT(b:ix)(m:Int)(h:0<=m): -1<=jR b m/\jR b m<=m:=by have:=b.s.len_nn;unfold jR;split<;>omega
def Gs(t:cH):af.agg [aj t.kind,aj t.num,t.name.e,t.args.e 4 cH.e]=t.e:=(cH.e_eq t).symm
def as0(b:fP)(hw:b.t.wf)(m:Int)(a:0<=m)(J:m<=1048576):bU au 97 [b.e,aj m] (aj (qT b m)):=by
 have key:=acU b.t hw m a J;have hle:=yq b.t m a;unfold qT;generalize hz b.t m=q at key hle⊢;by_cases c:q<0
 ·have:q= -1:=Ω
  subst this;refine bI a6 Tryz.func97 Zw fun d=>?_;unfold Lg;simp[Gs];(repeat' first|refine al ?_|refine aO key ?_|refine aP key ?_|simp[Gs]);all_goals simp[bZ,ba,be,a1]
 ·refine bI a6 Tryz.func97 Zw fun d=>?_;unfold Lg;simp[Gs];(repeat' first|refine al ?_|refine aO key ?_|refine aP key ?_|simp[c,Gs]);all_goals simp[bZ,ba,be,a1]
def _root_.Go.Pv.Bt.k(b:Bt)(κ:Nat):af:= .agg [aj b.v,aj b.t.kind,aj b.t.num,.str b.t.name,.slice 4 (.tr (.loc κ) 0) (b.t.args.map enc)]
def qo(d:List Bt)(κ:Nat):af:= .slice 5 (.tr (.loc κ) 0) (d.map Bt.e)
def Ip:nI Bt.k Bt.e:=⟨fun x n=>rfl,fun x n=>⟨trivial,trivial,trivial,trivial,Cf n,trivial⟩,fun x n=>by simp only[Bt.k,b5,cf,abP];rfl,fun S x n h=>by simp[Bt.k,az,aH,h]⟩
def Iq:nI qo gz:=⟨fun x n=>rfl,fun x n=>Cf n,fun x n=>by simp[qo,gz,b5],fun S x n h=>by simp[qo,az,h]⟩
def ana(b:Bt):fW au 101 [b.e] b.k:=by have key:=OS b.t;refine fW.mk mixed a6 Tryz.func101 aod Ψ fun a κ=>?_;unfold SV;simp;(repeat' first|refine al ?_|simp);(refine CallDo.own Ψ (key) (by simp[ei]) ?_;simp);(repeat' first|refine al ?_|simp);(refine h4.val Ψ ?_;simp[ba,be,a1,e9,hn,eC,gR,ef,gH,tnL,tn,fq,gb,fold,hE,hC,iH,ae,ei,cf,b5]);all_goals simp[Bt.k]
def ar5(b:Bt):bU au 103 [b.e,b.e] (.bool true):=by have key:=acz b.t;refine bI a6 Tryz.func103 an0 fun a=>?_;unfold SG;exact cr
def as3(b:ix)(hw:b.s.wf)(m:Int)(f:0<=m)(J:m<=1048576):bU au 144 [b.e,aj m] (aj (jR b m)):=by
 have a:m-b.s.len<0->jR b m= -1:=fun g=>if_pos g;have c:¬m-b.s.len<0->jR b m=m-b.s.len:=fun g=>if_neg g;generalize jR b m=R at a c;obtain⟨v,s⟩:=b;simp only[ix.e]at hw a c⊢;cases s with
 |b x=>
  simp only[hB.wf,od,lim]at hw;have g:m-x.size<0:=Ω
  have bt:=a g;subst bt;clear a c;simp only[hB.e];refine bI a6 Tryz.func144 O5 fun d=>?_;unfold GJ;exact cr
 |s l=>
  simp only[hB.e];by_cases g:m-l.length<0
  ·have bt:=a g;subst bt;clear a c hw;refine bI a6 Tryz.func144 O5 fun d=>?_;unfold GJ;have e:l.length<=68719476736:=by simp[eM,eV,eN,lim]at d;omega
   exact cr
  ·have bt:R=m-l.length:=c g;subst bt;clear a c hw;refine bI a6 Tryz.func144 O5 fun d=>?_;unfold GJ;have e:l.length<=68719476736:=by simp[eM,eV,eN,lim]at d;omega
   exact cr
def atc(b:bH):bU au 156 [b.e] b.e:=by refine bI a6 Tryz.func156 aol fun a=>?_;unfold S4;exact cr
def as9(b:bo):bU au 157 [b.e] b.e:=by refine bI a6 Tryz.func157 aog fun a=>?_;unfold SZ;exact cr
def asb(b:bH):bU au 170 [b.e,b.e] (.bool true):=by refine bI a6 Tryz.func170 an8 fun a=>?_;unfold SO;exact cr
def ar8(b:bo):bU au 171 [b.e,b.e] (.bool true):=by refine bI a6 Tryz.func171 an3 fun a=>?_;unfold SJ;exact cr
@[simp high] def aw8(x y:bo):oc x.e 0 [aj y.v,.str y.s]=y.e:=rfl
@[simp high] def aw7(x y:bH):oc x.e 0 [aj y.v,aj y.k]=y.e:=rfl
@[simp]def anh(l:List bo):gb (l.map bo.e)=True:=h2 (E4 (f:=bo.e) (fun _=>⟨trivial,trivial,trivial⟩) l)
@[simp]def ax5(l:List bo):tnL (l.map bo.e)=[]:=J4 (f:=bo.e) (fun _=>rfl) l
@[simp]def ang(l:List bH):gb (l.map bH.e)=True:=h2 (E4 (f:=bH.e) (fun _=>⟨trivial,trivial,trivial⟩) l)
def as1(l:dA fP)(hw:∀p n cap,l= .b p n cap->od n)(c:∀xs,l= .l xs->∀x∈xs,∀m,0<=m->m<=1048576->bU au 97 [fP.e x,aj m] (aj (qT x m)))(m:Int)(u:0<=m)(J:m<=1048576):bU au 33 [l.e 5 fP.e,aj m] (aj (fs qT l m)):=by
 cases l with
 |b p n cap=>
  have r:=hw p n cap rfl;simp only[od,lim]at r;have g:m-n<0:=Ω
  simp only[dA.e,fs];clear hw c;refine bI a6 Tryz.func33 Zx fun o=>?_;unfold Lh;exact cr
 |l l=>
 have c:=c l rfl;clear hw;simp only[dA.e,fs];generalize bt:mq qT l m=R;unfold mq at bt;refine bI a6 Tryz.func33 Zx fun o=>?_;unfold Lh;have t:l.length<=68719476736:=by simp[eM,eV,eN,lim]at o;omega
 simp;by_cases g:m-l.length<0
 ·rw[if_pos g]at bt;subst bt;exact cr
 rw[if_neg g]at bt;(repeat' first|refine al ?_|simp[g]);refine eZ [0] (fun i (k:Int)=>[(1,aj k),(5,aj i)]) l.length (fun i k=>(0<=k/\k<=1048576)/\jQ qT (l.drop i) k=R) (m-l.length) b9 ⟨⟨Ω,Ω⟩,by simpa using bt⟩ (fun k a _=>?_) (fun i k hi a _=>?_)
 ·obtain⟨_,a⟩:=a;rw[List.drop_length]at a;simp only[jQ]at a;subst a;exact cr
 ·obtain⟨⟨f,s⟩,a⟩:=a;obtain⟨x,e,j⟩:=eW hi;have key:=c x (ft e) k f s;have hle:=Qy x k f;rw[uX e]at a;simp only[jQ]at a;generalize qT x k=q at key hle a;clear e;by_cases d:q<0
  ·rw[if_pos d]at a;subst a;exact cr
  ·rw[if_neg d]at a;simp[hi,j];((repeat' first|refine al ?_|refine aO key ?_|refine aP key ?_|simp[hi,j,d]|((first|apply ct|apply cz|apply cy)<;>intro h<;>try simp at h))<;>(try exact c3));all_goals exact bY.rng q hi ⟨⟨Ω,Ω⟩,a⟩ b9
def anb(l:List Bt)(v:∀x∈l,fW au 101 [Bt.e x] (Bt.k x)):fW au 35 [bL (l.map Bt.e)] fun κ=>.slice 5 (.tr (.loc κ) 0) (l.map Bt.e):=by
 refine fW.mk mixed a6 Tryz.func35 aoe Ψ fun u κ=>?_;unfold SX;have w:l.length<=68719476736:=by simp[eM,eV,eN,lim]at u;omega
 simp;all_goals try refine⟨by unfold lim;omega,?_⟩
 (repeat' first|refine al ?_|simp);have c:∀S:aB->Prop,az S (.agg [aj 0,aj 0,aj 0,.str [],.slice 4 .nil []]):=fun S=>by simp[az,aH]
 refine fS (fun i (x:Nat×List (Bt×Nat))=>⟨[(0,bL (l.map Bt.e)),(3,.row 5 (.loc 0) l.length),(4,aj i)],[],[(.loc 0,⟨l.length,113,5,some (lZ Bt.k (.agg [aj 0,aj 0,aj 0,.str [],.slice 4 .nil []]) x.2 l.length)⟩)],x.1,[]⟩) l.length (fun i x=>1<=x.1/\q4 x.1 x.2/\x.2.map (·.1)=l.take i) (1,[]) ⟨by simp[fresh,aH,az,cc,aM,ae,<-wA,qK _ _ (c _)],eo (by simp[fresh,aH,az,cc,aM,ae,<-wA,qK _ _ (c _)]),ep (by simp[fresh,aH,az,dV,aM,ae,<-wA,qK _ _ (c _)]),Ψ⟩ ⟨dO _,.nil _,Ψ⟩ (fun x e _=>?_) (fun i x hi e _=>?_)
 ·obtain⟨n,out⟩:=x;obtain⟨J,U,a⟩:=e;simp only[jA]at J U a;have b:out.length=l.length:=by rw[<-a];simp
  simp;rw[OH _ _ b];(repeat' first|refine al ?_|simp);(refine h4.val Ψ ?_;simp[ba,be,a1,e9,hn,eC,gR,ef,gH,tnL,tn,fq,gb,fold,hE,hC,iH,ae,ei,cf,b5,Ip.okL,Ip.nodup U,Ip.stL,a,b])
 ·obtain⟨n,out⟩:=x;obtain⟨J,U,a⟩:=e;simp only at J U a;obtain⟨x,r,k⟩:=eW hi;have key:=v x (ft r);have b:out.length=i:=by have:=fy List.length a;simp at this;omega
  have d:=OI Bt.k (.agg [aj 0,aj 0,aj 0,.str [],.slice 4 .nil []]) hi b;have g:∀h,((lZ Bt.k (.agg [aj 0,aj 0,aj 0,.str [],.slice 4 .nil []]) out l.length)[i]'h)= .agg [aj 0,aj 0,aj 0,.str [],.slice 4 .nil []]:=fun h=>by rw[cl h]at d;exact e6 d
  have f:=fun m=>OK Bt.k (.agg [aj 0,aj 0,aj 0,.str [],.slice 4 .nil []]) hi b x m;have o:=OJ Bt.k (.agg [aj 0,aj 0,aj 0,.str [],.slice 4 .nil []]) (out:=out) (n:=l.length) Ω;have y:=fun m n' (h:n<=m) (t:m<n')=>U.snoc x h t;have s:∀m,(out++[(x,m)]).map (fun p:Bt×Nat=>p.1)=l.take (i+1):=fun m=>by rw[nG r,<-a];simp
  generalize lZ Bt.k (.agg [aj 0,aj 0,aj 0,.str [],.slice 4 .nil []]) out l.length=r0 at d g f o⊢;have q:=U.snoc x (dO n) (Nat.lt_succ_self n);have j:=NU Ip c q (dO _) [] l.length;simp[fresh]at j;simp[hi,k];(refine CallDo.own Ψ (key) (by simp[ei]) ?_;simp);(repeat' first|refine al ?_|simp[hi,k,g,o,f,Bt.k,nD]);refine bY.rng (n+1,out++[(x,n)]) hi ?_ ?_
  ·exact⟨Ψ,q,s n⟩
  simp;rw[show(af.agg [aj x.v,aj x.t.kind,aj x.t.num,.str x.t.name,.slice 4 (.tr (.loc n) 0) (x.t.args.map enc)])=Bt.k x n from rfl,f n];exact⟨by simp[fresh,aH,az,cc,aM,ae],eo Ψ,ep (by simp[fresh,aH,az,cc,aM,ae,dV];exact j),Ψ⟩
def ar6(l:List Bt)(c:∀x∈l,bU au 103 [Bt.e x,Bt.e x] (.bool true)):bU au 37 [bL (l.map Bt.e),bL (l.map Bt.e)] (.bool true):=by
 refine bI a6 Tryz.func37 an1 fun b=>?_;unfold SH;have d:l.length<=68719476736:=by simp[eM,eV,eN,lim]at b;omega
 simp;(repeat' first|refine al ?_|simp);refine eZ [0,1] (fun i (_:Unit)=>[(5,aj i)]) l.length (fun _ _=>True) () b9 trivial (fun _ _ _=>?_) (fun i _ hi _ _=>?_)
 ·exact cr
 ·obtain⟨x,a,e⟩:=eW hi;have key:=c x (ft a);clear a;exact iV
def as4(l:dA ix)(hw:∀p n cap,l= .b p n cap->od n)(c:∀xs,l= .l xs->∀x∈xs,∀m,0<=m->m<=1048576->bU au 144 [ix.e x,aj m] (aj (jR x m)))(m:Int)(u:0<=m)(J:m<=1048576):bU au 74 [l.e 2 ix.e,aj m] (aj (fs jR l m)):=by
 cases l with
 |b p n cap=>
  have r:=hw p n cap rfl;simp only[od,lim]at r;have g:m-n<0:=Ω
  simp only[dA.e,fs];clear hw c;refine bI a6 Tryz.func74 Zz fun o=>?_;unfold Lj;exact cr
 |l l=>
 have c:=c l rfl;clear hw;simp only[dA.e,fs];generalize bt:mq jR l m=R;unfold mq at bt;refine bI a6 Tryz.func74 Zz fun o=>?_;unfold Lj;have t:l.length<=68719476736:=by simp[eM,eV,eN,lim]at o;omega
 simp;by_cases g:m-l.length<0
 ·rw[if_pos g]at bt;subst bt;exact cr
 rw[if_neg g]at bt;(repeat' first|refine al ?_|simp[g]);refine eZ [0] (fun i (k:Int)=>[(1,aj k),(5,aj i)]) l.length (fun i k=>(0<=k/\k<=1048576)/\jQ jR (l.drop i) k=R) (m-l.length) b9 ⟨⟨Ω,Ω⟩,by simpa using bt⟩ (fun k a _=>?_) (fun i k hi a _=>?_)
 ·obtain⟨_,a⟩:=a;rw[List.drop_length]at a;simp only[jQ]at a;subst a;exact cr
 ·obtain⟨⟨f,s⟩,a⟩:=a;obtain⟨x,e,j⟩:=eW hi;have key:=c x (ft e) k f s;have hle:=FT x k f;rw[uX e]at a;simp only[jQ]at a;generalize jR x k=q at key hle a;clear e;by_cases d:q<0
  ·rw[if_pos d]at a;subst a;exact cr
  ·rw[if_neg d]at a;simp[hi,j];((repeat' first|refine al ?_|refine aO key ?_|refine aP key ?_|simp[hi,j,d]|((first|apply ct|apply cz|apply cy)<;>intro h<;>try simp at h))<;>(try exact c3));all_goals exact bY.rng q hi ⟨⟨Ω,Ω⟩,a⟩ b9
def apk(l:List bo)(j:∀x∈l,bU au 157 [bo.e x] (bo.e x)):fW au 85 [b6 (l.map bo.e)] fun κ=>.slice 2 (.tr (.loc κ) 0) (l.map bo.e):=by
 refine fW.mk mixed a6 Tryz.func85 aoh Ψ fun h κ=>?_;unfold S0;have k:l.length<=68719476736:=by simp[eM,eV,eN,lim]at h;omega
 simp;all_goals try refine⟨by unfold lim;omega,?_⟩
 (repeat' first|refine al ?_|simp);have c:∀(S:aB->Prop) (n:Nat),aH S (List.replicate n ((⟨0,[]⟩:bo).e))=True:=fun S n=>h2 (qK S _ (by simp[az,aH]) n);refine fS (fun i (_:Unit)=>⟨[(0,b6 (l.map bo.e)),(3,.row 2 (.loc 0) l.length),(4,aj i)],[],[(.loc 0,⟨l.length,100,2,some (nz bo.e ((⟨0,[]⟩:bo).e) l i)⟩)],1,[]⟩) l.length (fun _ _=>True) () ⟨by simp[fresh,aH,az,cc,aM,ae,Ca,c],eo (by simp[fresh,aH,az,cc,aM,ae,Ca,c]),ep (by simp[fresh,aH,az,dV,aM,ae,Ca,c]),Ψ⟩ trivial (fun _ _ _=>?_) (fun i _ hi _ _=>?_)
 ·rw[YM];simp;(repeat' first|refine al ?_|simp);(refine h4.val Ψ ?_;simp[ba,be,a1,e9,hn,eC,gR,ef,gH,tnL,tn,fq,gb,fold,hE,hC,iH,ae,ei,cf,b5,anh])
 ·obtain⟨x,d,e⟩:=eW hi;have key:=j x (ft d);have f:=YN bo.e ((⟨0,[]⟩:bo).e) l hi;have b:=YO bo.e ((⟨0,[]⟩:bo).e) l d;have a:∀S:aB->Prop,aH S (nz bo.e ((⟨0,[]⟩:bo).e) l (i+1)):=fun S=>XX S _ _ _ _ (fun x=>by simp) (by simp[az,aH]);generalize nz bo.e ((⟨0,[]⟩:bo).e) l i=r0 at f b;generalize g:nz bo.e ((⟨0,[]⟩:bo).e) l (i+1)=m at b a;clear d;simp[hi,e];(repeat' first|refine al ?_|refine aO key ?_|refine aP key ?_|simp[hi,e,f,b,-oc]);all_goals refine bY.rng () hi trivial ?_
  all_goals rw[g]
  all_goals first
   |exact⟨by simp[fresh,aH,az,cc,aM,ae,a],eo (by simp[fresh,aH,az,cc,aM,ae,a]),ep (by simp[fresh,aH,az,dV,aM,ae,a]),Ψ⟩
   |exact⟨by simp[fresh,aH,az,cc,aM,ae,a],eo (by simp[fresh,aH,az,cc,aM,ae,a]),ep (by simp[fresh,aH,az,dV,aM,ae,a];exact b),Ψ⟩
def ar9(l:List bo)(c:∀x∈l,bU au 171 [bo.e x,bo.e x] (.bool true)):bU au 94 [b6 (l.map bo.e),b6 (l.map bo.e)] (.bool true):=by
 refine bI a6 Tryz.func94 an4 fun b=>?_;unfold SK;have d:l.length<=68719476736:=by simp[eM,eV,eN,lim]at b;omega
 simp;(repeat' first|refine al ?_|simp);refine eZ [0,1] (fun i (_:Unit)=>[(5,aj i)]) l.length (fun _ _=>True) () b9 trivial (fun _ _ _=>?_) (fun i _ hi _ _=>?_)
 ·exact cr
 ·obtain⟨x,a,e⟩:=eW hi;have key:=c x (ft a);clear a;exact iV
def apl(l:List bH)(j:∀x∈l,bU au 156 [bH.e x] (bH.e x)):fW au 84 [b6 (l.map bH.e)] fun κ=>.slice 2 (.tr (.loc κ) 0) (l.map bH.e):=by
 refine fW.mk mixed a6 Tryz.func84 aom Ψ fun h κ=>?_;unfold S5;have k:l.length<=68719476736:=by simp[eM,eV,eN,lim]at h;omega
 simp;all_goals try refine⟨by unfold lim;omega,?_⟩
 (repeat' first|refine al ?_|simp);have c:∀(S:aB->Prop) (n:Nat),aH S (List.replicate n ((⟨0,0⟩:bH).e))=True:=fun S n=>h2 (qK S _ (by simp[az,aH]) n);refine fS (fun i (_:Unit)=>⟨[(0,b6 (l.map bH.e)),(3,.row 2 (.loc 0) l.length),(4,aj i)],[],[(.loc 0,⟨l.length,98,2,some (nz bH.e ((⟨0,0⟩:bH).e) l i)⟩)],1,[]⟩) l.length (fun _ _=>True) () ⟨by simp[fresh,aH,az,cc,aM,ae,Ca,c],eo (by simp[fresh,aH,az,cc,aM,ae,Ca,c]),ep (by simp[fresh,aH,az,dV,aM,ae,Ca,c]),Ψ⟩ trivial (fun _ _ _=>?_) (fun i _ hi _ _=>?_)
 ·rw[YM];simp;(repeat' first|refine al ?_|simp);(refine h4.val Ψ ?_;simp[ba,be,a1,e9,hn,eC,gR,ef,gH,tnL,tn,fq,gb,fold,hE,hC,iH,ae,ei,cf,b5,ang])
 ·obtain⟨x,d,e⟩:=eW hi;have key:=j x (ft d);have f:=YN bH.e ((⟨0,0⟩:bH).e) l hi;have b:=YO bH.e ((⟨0,0⟩:bH).e) l d;have a:∀S:aB->Prop,aH S (nz bH.e ((⟨0,0⟩:bH).e) l (i+1)):=fun S=>XX S _ _ _ _ (fun x=>by simp) (by simp[az,aH]);generalize nz bH.e ((⟨0,0⟩:bH).e) l i=r0 at f b;generalize g:nz bH.e ((⟨0,0⟩:bH).e) l (i+1)=m at b a;clear d;simp[hi,e];(repeat' first|refine al ?_|refine aO key ?_|refine aP key ?_|simp[hi,e,f,b,-oc]);all_goals refine bY.rng () hi trivial ?_
  all_goals rw[g]
  all_goals first
   |exact⟨by simp[fresh,aH,az,cc,aM,ae,a],eo (by simp[fresh,aH,az,cc,aM,ae,a]),ep (by simp[fresh,aH,az,dV,aM,ae,a]),Ψ⟩
   |exact⟨by simp[fresh,aH,az,cc,aM,ae,a],eo (by simp[fresh,aH,az,cc,aM,ae,a]),ep (by simp[fresh,aH,az,dV,aM,ae,a];exact b),Ψ⟩
def asd(l:List bH)(c:∀x∈l,bU au 170 [bH.e x,bH.e x] (.bool true)):bU au 93 [b6 (l.map bH.e),b6 (l.map bH.e)] (.bool true):=by
 refine bI a6 Tryz.func93 an9 fun b=>?_;unfold SP;have d:l.length<=68719476736:=by simp[eM,eV,eN,lim]at b;omega
 simp;(repeat' first|refine al ?_|simp);refine eZ [0,1] (fun i (_:Unit)=>[(5,aj i)]) l.length (fun _ _=>True) () b9 trivial (fun _ _ _=>?_) (fun i _ hi _ _=>?_)
 ·exact cr
 ·obtain⟨x,a,e⟩:=eW hi;have key:=c x (ft a);clear a;exact iV
def lC:dA bH->Int->Int
 | .l l,m=>if m-l.length<0 then-1 else m-l.length
 | .b _ _ _,_=> -1
def J0(l:dA bH)(m:Int)(h:0<=m): -1<=lC l m/\lC l m<=m:=by
 cases l with
 |l l=>simp only[lC];split<;>omega
 |b=>simp only[lC];omega
def as6(l:dA bH)(hw:∀p n cap,l= .b p n cap->od n)(m:Int)(e:0<=m)(J:m<=1048576):bU au 73 [l.e 2 bH.e,aj m] (aj (lC l m)):=by
 cases l with
 |b p n cap=>
  have d:=hw p n cap rfl;simp only[od,lim]at d;have g:m-n<0:=Ω
  simp only[dA.e,lC];clear hw;refine bI a6 Tryz.func73 O6 fun a=>?_;unfold GK;exact cr
 |l l=>
  simp only[dA.e,lC];clear hw;by_cases g:m-l.length<0
  ·rw[if_pos g];refine bI a6 Tryz.func73 O6 fun a=>?_;unfold GK;have c:l.length<=68719476736:=by simp[eM,eV,eN,lim]at a;omega
   exact cr
  ·rw[if_neg g];refine bI a6 Tryz.func73 O6 fun a=>?_;unfold GK;have c:l.length<=68719476736:=by simp[eM,eV,eN,lim]at a;omega
   exact cr
def k8(d:dA fP):af:=d.e 5 fP.e
@[simp]def avW(S:aB->Prop)(d:dA fP):az S (k8 d)=True:=by cases d<;>simp[k8,dA.e,az]
@[simp]def axN(d:dA fP):b5 (k8 d)=k8 d:=by
 cases d with
 |l l=>
  have:∀l:List fP,cf (l.map fP.e)=l.map fP.e:=by
   intro l;induction l with
   |nil=>rfl
   |cons x l a=>simp[cf,a]
  simp[k8,dA.e,b5,this]
 |b=>simp[k8,dA.e,b5]
def XV(S:aB->Prop):∀l:List (dA fP),aH S (l.map k8)
 |[]=>by simp[aH]
 |x::xs=>by simp[aH,XV S xs]
@[simp]def avP(S:aB->Prop)(l:List (dA fP)):aH S (l.map k8)=True:=h2 (XV S l)
@[simp]def axm(d:dA fP):eT (k8 d)=true:=by cases d<;>rfl
@[simp]def at2(d:dA fP):cells (k8 d)=[k8 d]:=by cases d<;>rfl
def eE(d:dA fP)(m:Int):Int:=fs qT d m
def vg(d:dA fP)(m:Int)(h:0<=m): -1<=eE d m/\eE d m<=m:=vh Qy d m h
def yx(d:dA fP):Prop:=d.wf fun b=>b.t.wf
@[simp]def aro:∀l:List (List Bt),cf (l.map gz)=l.map gz
 |[]=>rfl
 |x::xs=>by simp[cf,aro xs]
def acT(d:dA fP)(hw:yx d)(m:Int)(a:0<=m)(J:m<=1048576):bU au 33 [k8 d,aj m] (aj (eE d m)):=as1 d (fun p n c e=>by subst e;exact hw) (fun xs e x b m a J=>by subst e;exact as0 x (hw x b) m a J) m a J
def Y5(d:List Bt):fW au 35 [gz d] (qo d):=anb d fun x _=>ana x
def acx(d:List Bt):bU au 37 [gz d,gz d] (.bool true):=ar6 d fun x _=>ar5 x
def as2(l:dA (dA fP))(hw:∀p n cap,l= .b p n cap->od n)(c:∀xs,l= .l xs->∀x∈xs,∀m,0<=m->m<=1048576->bU au 33 [k8 x,aj m] (aj (eE x m)))(m:Int)(u:0<=m)(J:m<=1048576):bU au 72 [l.e 1 k8,aj m] (aj (fs eE l m)):=by
 cases l with
 |b p n cap=>
  have r:=hw p n cap rfl;simp only[od,lim]at r;have g:m-n<0:=Ω
  simp only[dA.e,fs];clear hw c;refine bI a6 Tryz.func72 Zy fun o=>?_;unfold Li;exact cr
 |l l=>
 have c:=c l rfl;clear hw;simp only[dA.e,fs];generalize bt:mq eE l m=R;unfold mq at bt;refine bI a6 Tryz.func72 Zy fun o=>?_;unfold Li;have t:l.length<=68719476736:=by simp[eM,eV,eN,lim]at o;omega
 simp;by_cases g:m-l.length<0
 ·rw[if_pos g]at bt;subst bt;exact cr
 rw[if_neg g]at bt;(repeat' first|refine al ?_|simp[g]);refine eZ [0] (fun i (k:Int)=>[(1,aj k),(5,aj i)]) l.length (fun i k=>(0<=k/\k<=1048576)/\jQ eE (l.drop i) k=R) (m-l.length) b9 ⟨⟨Ω,Ω⟩,by simpa using bt⟩ (fun k a _=>?_) (fun i k hi a _=>?_)
 ·obtain⟨_,a⟩:=a;rw[List.drop_length]at a;simp only[jQ]at a;subst a;exact cr
 ·obtain⟨⟨f,s⟩,a⟩:=a;obtain⟨x,e,j⟩:=eW hi;have key:=c x (ft e) k f s;have hle:=vg x k f;rw[uX e]at a;simp only[jQ]at a;generalize eE x k=q at key hle a;clear e;by_cases d:q<0
  ·rw[if_pos d]at a;subst a;exact cr
  ·rw[if_neg d]at a;simp[hi,j];((repeat' first|refine al ?_|refine aO key ?_|refine aP key ?_|simp[hi,j,d]|((first|apply ct|apply cz|apply cy)<;>intro h<;>try simp at h))<;>(try exact c3));all_goals exact bY.rng q hi ⟨⟨Ω,Ω⟩,a⟩ b9
def anc(l:List (List Bt))(v:∀x∈l,fW au 35 [gz x] (qo x)):fW au 83 [cX (l.map gz)] fun κ=>.slice 1 (.tr (.loc κ) 0) (l.map gz):=by
 refine fW.mk mixed a6 Tryz.func83 aof Ψ fun u κ=>?_;unfold SY;have w:l.length<=68719476736:=by simp[eM,eV,eN,lim]at u;omega
 simp;all_goals try refine⟨by unfold lim;omega,?_⟩
 (repeat' first|refine al ?_|simp);have c:∀S:aB->Prop,az S (.slice 5 .nil []):=fun S=>by simp[az,aH]
 refine fS (fun i (x:Nat×List ((List Bt)×Nat))=>⟨[(0,cX (l.map gz)),(3,.row 1 (.loc 0) l.length),(4,aj i)],[],[(.loc 0,⟨l.length,46,1,some (lZ qo (.slice 5 .nil []) x.2 l.length)⟩)],x.1,[]⟩) l.length (fun i x=>1<=x.1/\q4 x.1 x.2/\x.2.map (·.1)=l.take i) (1,[]) ⟨by simp[fresh,aH,az,cc,aM,ae,<-wA,qK _ _ (c _)],eo (by simp[fresh,aH,az,cc,aM,ae,<-wA,qK _ _ (c _)]),ep (by simp[fresh,aH,az,dV,aM,ae,<-wA,qK _ _ (c _)]),Ψ⟩ ⟨dO _,.nil _,Ψ⟩ (fun x e _=>?_) (fun i x hi e _=>?_)
 ·obtain⟨n,out⟩:=x;obtain⟨J,U,a⟩:=e;simp only[jA]at J U a;have b:out.length=l.length:=by rw[<-a];simp
  simp;rw[OH _ _ b];(repeat' first|refine al ?_|simp);(refine h4.val Ψ ?_;simp[ba,be,a1,e9,hn,eC,gR,ef,gH,tnL,tn,fq,gb,fold,hE,hC,iH,ae,ei,cf,b5,Iq.okL,Iq.nodup U,Iq.stL,a,b])
 ·obtain⟨n,out⟩:=x;obtain⟨J,U,a⟩:=e;simp only at J U a;obtain⟨x,r,k⟩:=eW hi;have key:=v x (ft r);have b:out.length=i:=by have:=fy List.length a;simp at this;omega
  have d:=OI qo (.slice 5 .nil []) hi b;have g:∀h,((lZ qo (.slice 5 .nil []) out l.length)[i]'h)= .slice 5 .nil []:=fun h=>by rw[cl h]at d;exact e6 d
  have f:=fun m=>OK qo (.slice 5 .nil []) hi b x m;have o:=OJ qo (.slice 5 .nil []) (out:=out) (n:=l.length) Ω;have y:=fun m n' (h:n<=m) (t:m<n')=>U.snoc x h t;have s:∀m,(out++[(x,m)]).map (fun p:(List Bt)×Nat=>p.1)=l.take (i+1):=fun m=>by rw[nG r,<-a];simp
  generalize lZ qo (.slice 5 .nil []) out l.length=r0 at d g f o⊢;have q:=U.snoc x (dO n) (Nat.lt_succ_self n);have j:=NU Iq c q (dO _) [] l.length;simp[fresh]at j;simp[hi,k];(refine CallDo.own Ψ (key) (by simp[ei]) ?_;simp);(repeat' first|refine al ?_|simp[hi,k,g,o,f,qo,nD]);refine bY.rng (n+1,out++[(x,n)]) hi ?_ ?_
  ·exact⟨Ψ,q,s n⟩
  simp;rw[show(af.slice 5 (.tr (.loc n) 0) (x.map Bt.e))=qo x n from rfl,f n];exact⟨by simp[fresh,aH,az,cc,aM,ae],eo Ψ,ep (by simp[fresh,aH,az,cc,aM,ae,dV];exact j),Ψ⟩
def ar7(l:List (List Bt))(c:∀x∈l,bU au 37 [gz x,gz x] (.bool true)):bU au 92 [cX (l.map gz),cX (l.map gz)] (.bool true):=by
 refine bI a6 Tryz.func92 an2 fun b=>?_;unfold SI;have d:l.length<=68719476736:=by simp[eM,eV,eN,lim]at b;omega
 simp;(repeat' first|refine al ?_|simp);refine eZ [0,1] (fun i (_:Unit)=>[(5,aj i)]) l.length (fun _ _=>True) () b9 trivial (fun _ _ _=>?_) (fun i _ hi _ _=>?_)
 ·exact cr
 ·obtain⟨x,a,e⟩:=eW hi;have key:=c x (ft a);clear a;exact iV
def Tw:C:=(aa [cZ 1 0,bz 2 false] (aa [bk 3 4 1,dT 4 123 [.t 3,(gX 5000)],aV 5 .leq 4 5000,I 6 5,ax 6 true (bk 7 4 1),ax 6 true (c0 8 124 7),eg 9 6 8,I 2 9] .ret))
def AR:C:=(aa [cZ 2 0,fw 4 1] (.seq (aa [aF 7 0 1 2,ay 8 1 7,aV 9 .eql 8 1] (aW 9 (aa [I 10 1,aF 11 1 1 2,ay 12 1 11,cb 13 126 10 12,I 4 13] .ret) .skip)) (.seq (aa [aF 14 3 1 2,ay 15 1 14,cw 16 15,bP 17 0] (gw 18 17 16 (.seq (.block 1 (aa [ck 19 4 15 17,bk 20 4 19,dI 6 eB,bV 4 6 20] (.region [bk 21 4 6,I 22 1,cb 23 58 21 22,I 1 23]))) (.region [aV 24 .add 17 1,I 17 24])))) (aa [I 25 1,I 4 25] .ret))))
def TG:C:=(aa [cZ 3 1,dI 4 eB,bz 5 false] (aa [I 7 0,bk 8 4 3,cb 9 127 7 8,dI 6 eB,bV 4 6 9] (.seq (.drawn true 13 [bk 10 4 6,bk 11 4 6,c0 12 128 11,bV 4 4 10,I 5 12]) .ret)))
def Tx:C:=(aa [bz 6 false] (aa [I 7 0,I 8 1,bu 9 .geq 7 8,I 10 9,cg 10 true 11 0,cg 10 true 12 2,ax 10 true (bu 13 .leq 11 12),eg 14 10 13,I 6 14] .ret))
def Lr:C:=(aa [bz 2 false] (.seq (aa [I 9 0,c0 10 145 9,cO 11 10] (aW 11 (aa [bz 2 false] .ret) .skip)) (.seq (aa [I 12 0,cw 13 12,bP 14 0] (gw 15 14 13 (.seq (.block 1 (aa [ck 16 5 12 14,bk 17 5 16,dI 4 ku,bV 5 4 17] (.seq (aa [hp 18 1 4 4,aF 19 0 1 18,ay 20 1 19,aV 21 .eql 20 1,I 22 21,ax 22 true (hp 23 1 4 4),ax 22 true (aF 24 1 1 23),ax 22 true (ay 25 1 24),ax 22 true (aF 26 0 1 4),ax 22 true (ay 27 1 26),ax 22 true (bu 28 .geq 25 27),eg 29 22 28] (aW 29 (aa [bz 2 false] .ret) .skip)) (aa [hp 30 1 4 4,bk 31 4 30,dT 32 58 [.t 31,(.c (.slice 1 .nil []))],cw 33 32,bP 34 0] (.block 2 (.loop (aa [bu 35 .lss 34 33] (.seq (aW 35 .skip (.exit 2)) (.seq (.block 3 (aa [ck 36 1 32 34,ay 37 1 36,I 6 37] (aa [I 39 0,I 40 6,cb 41 146 39 40,I 38 41,cV 42 0 38,cV 43 1 38,dI 7 eB,bV 4 7 42,I 8 43] (aa [I 44 8] (aW 44 (aa [bz 2 false] .ret) .skip))))) (.region [aV 45 .add 34 1,I 34 45])))))))))) (.region [aV 46 .add 14 1,I 14 46])))) (aa [bz 2 true] .ret))))
def Ts:C:=(aa [bz 2 false] (.seq (aa [bP 3 0] (.block 0 (.loop (.seq (aa [I 5 3,I 6 0,cd 7 (.slen (.t 6)),bu 8 .lss 5 7] (aW 8 .skip (.exit 0))) (.seq (.block 1 (aa [I 11 0,I 12 3,cd 13 (.sidx (.t 11) (.t 12)),cd 14 (.bin .geq false (.t 13) (.c (.int .u8 97))),I 15 14,cg 15 true 16 0,cg 15 true 17 3,ax 15 true (cd 18 (.sidx (.t 16) (.t 17))),ax 15 true (cd 19 (.bin .leq false (.t 18) (.c (.int .u8 122)))),eg 20 15 19,I 4 20] (aa [I 21 4,cO 22 21,I 23 22,cg 23 true 24 3,ax 23 true (aV 25 .eql 24 0),cg 23 true 26 25,cg 26 false 27 0,cg 26 false 28 3,ax 26 false (cd 29 (.sidx (.t 27) (.t 28))),ax 26 false (cd 30 (.bin .neq false (.t 29) (.c (.int .u8 45)))),cg 26 false 31 30,cg 31 true 32 0,cg 31 true 33 3,ax 31 true (cd 34 (.sidx (.t 32) (.t 33))),ax 31 true (cd 35 (.conv .i64 (.t 34))),ax 31 true (dT 36 75 [.t 35,(gX 48),(gX 57)]),ax 31 true (cO 37 36),ax 26 false (eg 38 31 37),ax 23 true (ds 39 26 38),eg 40 23 39] (aW 40 (aa [bz 2 false] .ret) .skip)))) (.region [I 9 3,aV 10 .add 9 1,I 3 10])))))) (aa [I 41 0,cd 42 (.slen (.t 41)),dT 43 75 [.t 42,(gX 1),(gX 12)],I 2 43] .ret)))
def Ty:C:=(aa [cZ 2 0,bP 4 0] (aa [bP 5 1] (.seq (aa [aF 8 3 1 2,ay 9 1 8,cw 10 9,bP 11 0] (gw 12 11 10 (.seq (.block 1 (aa [ck 13 4 9 11,bk 14 4 13,dI 7 eB,bV 4 7 14] (.seq (aa [I 15 5,I 16 1,bu 17 .gtr 15 16] (aW 17 (aa [I 18 5,I 4 18] .ret) .skip)) (.region [I 19 5,bk 20 4 7,I 21 1,I 22 5,bu 23 .sub 21 22,cb 24 123 20 23,bu 25 .add 19 24,I 5 25])))) (.region [aV 26 .add 11 1,I 11 26])))) (aa [I 27 5,I 4 27] .ret))))
def ng:C:=(aa [cZ 1 0,bz 2 false] (.seq (aa [aF 3 0 1 1,ay 4 1 3,aV 5 .neq 4 1,I 6 5,ax 6 true (aF 7 0 1 1),ax 6 true (ay 8 1 7),ax 6 true (aV 9 .neq 8 3),eg 10 6 9,I 11 10,ax 11 true (aF 12 1 1 1),ax 11 true (ay 13 1 12),ax 11 true (aV 14 .neq 13 0),eg 15 11 14,I 16 15,ax 16 false (aF 17 0 1 1),ax 16 false (ay 18 1 17),ax 16 false (aV 19 .neq 18 2),cg 16 false 20 19,ax 20 true (aF 21 2 1 1),ax 20 true (ay 22 1 21),yy 20 true 23 (.bin .neq false (.t 22) (.c (.str []))),ax 16 false (eg 24 20 23),ds 25 16 24,I 26 25,ax 26 false (aF 27 0 1 1),ax 26 false (ay 28 1 27),ax 26 false (aV 29 .neq 28 4),cg 26 false 30 29,ax 30 true (aF 31 3 1 1),ax 30 true (ay 32 1 31),ax 30 true (cw 33 32),ax 30 true (aV 34 .gtr 33 0),ax 26 false (eg 35 30 34),ds 36 26 35] (aW 36 (aa [bz 2 false] .ret) .skip)) (.seq (aa [aF 37 0 1 1,ay 38 1 37] (.block 0 (aa [aV 40 .eql 38 0,I 39 40] (aW 39 (aa [bz 2 true] .ret) (aa [aV 42 .eql 38 1,I 41 42] (aW 41 (aa [aF 43 1 1 1,ay 44 1 43,dT 45 75 [.t 44,(gX 0),(gX 100000)],I 2 45] .ret) (aa [aV 47 .eql 38 2,I 46 47] (aW 46 (aa [aF 48 2 1 1,ay 49 1 48,c0 50 119 49,I 2 50] .ret) (aa [aV 52 .eql 38 3,I 51 52] (aW 51 (aa [aF 53 1 1 1,ay 54 1 53,dT 55 75 [.t 54,(gX (-1000000000)),(gX 1000000000)],I 2 55] .ret) (aa [aV 57 .eql 38 4,I 56 57] (aW 56 (aa [aF 58 3 1 1,ay 59 1 58,cw 60 59,aV 61 .eql 60 2,I 62 61,ax 62 true (aF 63 3 1 1),ax 62 true (ay 64 1 63),ax 62 true (kB 65 4 64 0),ax 62 true (bk 66 4 65),ax 62 true (c0 67 124 66),eg 68 62 67,I 69 68,ax 69 true (aF 70 3 1 1),ax 69 true (ay 71 1 70),ax 69 true (kB 72 4 71 1),ax 69 true (bk 73 4 72),ax 69 true (c0 74 124 73),eg 75 69 74,I 2 75] .ret) .skip)))))))))))) (aa [bz 2 false] .ret))))
def TA:C:=(aa [fw 4 1] (aa [I 7 0,cw 8 7,I 5 8] (.seq (.block 0 (.loop (.seq (aa [I 9 5,aV 10 .gtr 9 0,I 11 10,cg 11 true 12 0,cg 11 true 13 5,ax 11 true (aV 14 .sub 13 1),ax 11 true (ck 15 1 12 14),ax 11 true (ay 16 1 15),cg 11 true 17 1,ax 11 true (bu 18 .geq 16 17),eg 19 11 18] (aW 19 .skip (.exit 0))) (.block 1 (.region [I 20 5,aV 21 .sub 20 1,I 5 21]))))) (.seq (aa [I 22 5,I 23 0,cw 24 23,bu 25 .lss 22 24,I 26 25,cg 26 true 27 0,cg 26 true 28 5,ax 26 true (ck 29 1 27 28),ax 26 true (ay 30 1 29),cg 26 true 31 1,ax 26 true (bu 32 .eql 30 31),eg 33 26 32] (aW 33 (aa [I 34 0,I 4 34] .ret) .skip)) (aa [fe 35 1 3 [],I 36 0,I 37 5,cd 38 (.lsl 1 (.t 36) none (some (.t 37))),h1 39 1 3 35 38,I 6 39] (aa [I 40 6,I 41 1,fe 42 1 3 [.t 41],h1 43 1 3 40 42,I 6 43] (aa [I 44 6,I 45 0,I 46 5,cd 47 (.lsl 1 (.t 45) (some (.t 46)) none),h1 48 1 3 44 47,I 4 48] .ret)))))))
def GP:C:=(aa [cZ 3 1,dI 4 eB] (.seq (aa [aF 7 0 1 3,ay 8 1 7,aV 9 .eql 8 1] (aW 9 (aa [I 11 0,aF 12 1 1 3,ay 13 1 12,cb 14 146 11 13,I 10 14,cV 15 0 10,cV 16 1 10,dI 5 eB,bV 4 5 15,I 6 16] (aa [I 17 6] (aW 17 (aa [bk 18 4 5,bV 4 4 18] .ret) .skip))) .skip)) (.seq (aa [aF 19 0 1 3,ay 20 1 19,aV 21 .eql 20 4] (aW 21 (.seq (.drawn true 36 [I 22 0,aF 23 3 1 3,ay 24 1 23,kB 25 4 24 0,bk 26 4 25,cb 27 127 22 26,I 28 0,aF 29 3 1 3,ay 30 1 29,kB 31 4 30 1,bk 32 4 31,cb 33 127 28 32,cb 34 189 27 33,bV 4 4 34]) .ret) .skip)) (aa [bk 35 4 3,bV 4 4 35] .ret))))
def Tz:C:=(aa [cZ 1 0,bz 2 false] (aa [bk 3 4 1,dT 4 123 [.t 3,(gX 5000)],aV 5 .leq 4 5000,I 2 5] .ret))
def TK:C:=(aa [bz 2 false] (.seq (aa [I 5 0,cw 6 5,bP 7 0] (gw 8 7 6 (.seq (.block 1 (aa [I 9 7,ck 10 5 5 7,bk 11 5 10,dI 4 ku,I 3 9,bV 5 4 11] (.seq (.drawn true 41 [I 12 3,aV 13 .gtr 12 0,I 14 13,cg 14 true 15 0,cg 14 true 16 3,ax 14 true (aV 17 .sub 16 1),ax 14 true (ck 18 5 15 17),ax 14 true (aF 19 0 1 18),ax 14 true (ay 20 1 19),ax 14 true (aF 21 0 1 4),ax 14 true (ay 22 1 21),ax 14 true (bu 23 .geq 20 22),eg 24 14 23,I 25 24,ax 25 false (aF 26 0 1 4),ax 25 false (ay 27 1 26),ax 25 false (dT 28 75 [.t 27,(gX 0),(gX 100000)]),ax 25 false (cO 29 28),ds 30 25 29,I 31 30,ax 31 false (hp 32 1 4 4),ax 31 false (bk 33 4 32),ax 31 false (c0 34 56 33),ax 31 false (cO 35 34),ds 36 31 35]) (aW 36 (aa [bz 2 false] .ret) .skip)))) (.region [aV 37 .add 7 1,I 7 37])))) (aa [I 38 0,cw 39 38,aV 40 .leq 39 400,I 2 40] .ret)))
def TI:C:=(aa [dI 4 eB,bz 5 false] (.seq (aa [I 8 0,cw 9 8,bP 10 0] (gw 11 10 9 (.seq (.block 1 (aa [ck 12 5 8 10,bk 13 5 12,dI 7 ku,bV 5 7 13] (aa [aF 14 0 1 7,ay 15 1 14,I 16 1,bu 17 .eql 15 16] (aW 17 (aa [hp 18 1 4 7,bk 19 4 18,bV 4 4 19,bz 5 true] .ret) .skip)))) (.region [aV 20 .add 10 1,I 10 20])))) (aa [jn 21 eB [],bV 4 4 21,bz 5 false] .ret)))
def TM:C:=(aa [fw 4 5,bz 5 false] (aa [fe 10 4 30 [],I 6 10] (aa [fe 11 4 30 [],I 7 11] (.seq (aa [I 12 1,cw 13 12,bP 14 0] (gw 15 14 13 (.seq (.block 1 (aa [ck 16 5 12 14,bk 17 5 16,dI 9 ku,bV 5 9 17] (aa [I 18 6,aF 19 0 1 9,ay 20 1 19,c0 21 114 20,fe 22 4 30 [.t 21],h1 23 4 30 18 22,I 6 23] (.region [I 24 7,hp 25 1 4 9,bk 26 4 25,fe 27 4 30 [.t 26],h1 28 4 30 24 27,I 7 28])))) (.region [aV 29 .add 14 1,I 14 29])))) (aa [I 30 0,I 31 6,I 32 7,dT 33 202 [.t 30,.t 31,.t 32],cV 34 0 33,cV 35 1 33,I 4 34,I 5 35] .ret)))))
def ur:C:=(aa [cZ 4 1,cZ 5 2,fw 6 5,bz 7 false] (aa [I 12 0,bk 13 4 4,cb 14 201 12 13,bV 4 4 14] (aa [I 15 0,bk 16 4 5,cb 17 201 15 16,bV 4 5 17] (.seq (aa [aF 18 0 1 4,ay 19 1 18,aV 20 .eql 19 1,I 21 20,ax 21 true (aF 22 0 1 5),ax 21 true (ay 23 1 22),ax 21 true (aV 24 .eql 23 1),eg 25 21 24,I 26 25,ax 26 true (aF 27 1 1 4),ax 26 true (ay 28 1 27),ax 26 true (aF 29 1 1 5),ax 26 true (ay 30 1 29),ax 26 true (bu 31 .lss 28 30),eg 32 26 31] (aW 32 (aa [I 33 0,aF 34 1 1 5,ay 35 1 34,bk 36 4 4,dT 37 212 [.t 33,.t 35,.t 36],cV 38 0 37,cV 39 1 37,I 6 38,I 7 39] .ret) .skip)) (.seq (aa [aF 40 0 1 4,ay 41 1 40,aV 42 .eql 41 1,I 43 42,ax 43 true (aF 44 0 1 5),ax 43 true (ay 45 1 44),ax 43 true (aV 46 .eql 45 1),eg 47 43 46,I 48 47,ax 48 true (aF 49 1 1 4),ax 48 true (ay 50 1 49),ax 48 true (aF 51 1 1 5),ax 48 true (ay 52 1 51),ax 48 true (bu 53 .eql 50 52),eg 54 48 53] (aW 54 (aa [I 55 0,I 6 55,bz 7 true] .ret) .skip)) (.seq (aa [aF 56 0 1 4,ay 57 1 56,aV 58 .eql 57 1] (aW 58 (aa [I 59 0,aF 60 1 1 4,ay 61 1 60,bk 62 4 5,dT 63 212 [.t 59,.t 61,.t 62],cV 64 0 63,cV 65 1 63,I 6 64,I 7 65] .ret) .skip)) (.seq (aa [aF 66 0 1 5,ay 67 1 66,aV 68 .eql 67 1] (aW 68 (aa [I 69 0,aF 70 1 1 5,ay 71 1 70,bk 72 4 4,dT 73 212 [.t 69,.t 71,.t 72],cV 74 0 73,cV 75 1 73,I 6 74,I 7 75] .ret) .skip)) (.seq (aa [aF 76 0 1 4,ay 77 1 76,aF 78 0 1 5,ay 79 1 78,bu 80 .neq 77 79,I 81 80,ax 81 false (aF 82 1 1 4),ax 81 false (ay 83 1 82),ax 81 false (aF 84 1 1 5),ax 81 false (ay 85 1 84),ax 81 false (bu 86 .neq 83 85),ds 87 81 86,I 88 87,ax 88 false (aF 89 2 1 4),ax 88 false (ay 90 1 89),ax 88 false (aF 91 2 1 5),ax 88 false (ay 92 1 91),ax 88 false (bu 93 .neq 90 92),ds 94 88 93] (aW 94 (aa [fw 6 5,bz 7 false] .ret) .skip)) (.seq (aa [aF 95 3 1 4,ay 96 1 95,cw 97 96,bP 98 0] (gw 99 98 97 (.seq (.block 1 (aa [I 100 98,ck 101 4 96 98,bk 102 4 101,dI 9 eB,I 8 100,bV 4 9 102] (.seq (.drawn true 119 [I 104 0,bk 105 4 9,aF 106 3 1 5,ay 107 1 106,I 108 8,ck 109 4 107 108,bk 110 4 109,dT 111 180 [.t 104,.t 105,.t 110],I 103 111,cV 112 0 103,cV 113 1 103,I 10 112,I 11 113]) (.seq (aa [I 114 11,cO 115 114] (aW 115 (aa [fw 6 5,bz 7 false] .ret) .skip)) (.region [I 116 10,I 0 116]))))) (.region [aV 117 .add 98 1,I 98 117])))) (aa [I 118 0,I 6 118,bz 7 true] .ret))))))))))
def GQ:C:=(aa [cZ 3 1,dI 4 eB] (.seq (aa [aF 7 0 1 3,ay 8 1 7,aV 9 .eql 8 1] (aW 9 (aa [I 11 0,aF 12 1 1 3,ay 13 1 12,cb 14 146 11 13,I 10 14,cV 15 0 10,cV 16 1 10,dI 5 eB,bV 4 5 15,I 6 16] (aa [I 17 6] (aW 17 (aa [bk 18 4 5,bV 4 4 18] .ret) .skip))) .skip)) (aa [bk 19 4 3,bV 4 4 19] .ret)))
def TL:C:=(aa [fw 6 5,bz 7 false] (.seq (aa [I 12 1,cw 13 12,bP 14 0] (gw 15 14 13 (.seq (.block 1 (aa [I 16 14,ck 17 4 12 14,bk 18 4 17,dI 9 eB,I 8 16,bV 4 9 18] (.seq (.drawn true 34 [I 20 0,bk 21 4 9,I 22 2,I 23 8,ck 24 4 22 23,bk 25 4 24,dT 26 180 [.t 20,.t 21,.t 25],I 19 26,cV 27 0 19,cV 28 1 19,I 10 27,I 11 28]) (.seq (aa [I 29 11,cO 30 29] (aW 30 (aa [fw 6 5,bz 7 false] .ret) .skip)) (.region [I 31 10,I 0 31]))))) (.region [aV 32 .add 14 1,I 14 32])))) (aa [I 33 0,I 6 33,bz 7 true] .ret)))
def Dt:C:=(aa [cZ 5 2,fw 6 5,bz 7 false] (aa [I 15 0,bk 16 4 5,cb 17 60 15 16,I 14 17,cV 18 0 14,cV 19 1 14,dI 8 eB,bV 4 8 18,I 9 19] (.seq (aa [I 20 9,cO 21 20,I 22 21,cg 22 false 23 1,ax 22 false (bk 24 4 8),ax 22 false (cb 25 233 23 24),ds 26 22 25,I 27 26,cg 27 false 28 0,ax 27 false (cw 29 28),ax 27 false (aV 30 .geq 29 400),ds 31 27 30] (aW 31 (aa [fw 6 5,bz 7 false] .ret) .skip)) (aa [fe 32 5 113 [],I 10 32] (.seq (aa [I 33 0,cw 34 33,bP 35 0] (gw 36 35 34 (.seq (.block 1 (aa [ck 37 5 33 35,bk 38 5 37,dI 12 ku,bV 5 12 38] (aa [hp 39 1 4 12,bk 40 4 39,I 41 1,bk 42 4 8,dT 43 234 [.t 40,.t 41,.t 42],dI 13 eB,bV 4 13 43] (.seq (aa [bk 44 4 13,c0 45 128 44,cO 46 45] (aW 46 (aa [fw 6 5,bz 7 false] .ret) .skip)) (.region [I 47 10,aF 48 0 1 12,ay 49 1 48,bk 50 4 13,jn 51 ku [(0,1,(.t 49)),(1,4,(.t 50))],fe 52 5 113 [.t 51],h1 53 5 113 47 52,I 10 53]))))) (.region [aV 54 .add 35 1,I 35 54])))) (aa [I 55 10,I 56 1,bk 57 4 8,jn 58 ku [(0,1,(.t 56)),(1,4,(.t 57))],cb 59 235 55 58,I 6 59,bz 7 true] .ret))))))
def TB:C:=(aa [cZ 3 1,bz 4 false] (.seq (aa [aF 7 3 1 3,ay 8 1 7,cw 9 8,bP 10 0] (gw 11 10 9 (.seq (.block 1 (aa [ck 12 4 8 10,bk 13 4 12,dI 6 eB,bV 4 6 13] (aa [I 14 0,bk 15 4 6,cb 16 233 14 15] (aW 16 (aa [bz 4 true] .ret) .skip)))) (.region [aV 17 .add 10 1,I 10 17])))) (aa [aF 18 0 1 3,ay 19 1 18,aV 20 .eql 19 1,I 21 20,ax 21 true (aF 22 1 1 3),ax 21 true (ay 23 1 22),cg 21 true 24 0,ax 21 true (bu 25 .eql 23 24),eg 26 21 25,I 4 26] .ret)))
def GO:C:=(aa [cZ 3 0,cZ 5 2,dI 6 eB] (.seq (aa [aF 7 0 1 3,ay 8 1 7,aV 9 .eql 8 1,I 10 9,ax 10 true (aF 11 1 1 3),ax 10 true (ay 12 1 11),cg 10 true 13 1,ax 10 true (bu 14 .eql 12 13),eg 15 10 14] (aW 15 (aa [bk 16 4 5,bV 4 6 16] .ret) .skip)) (.seq (aa [aF 17 0 1 3,ay 18 1 17,aV 19 .eql 18 4] (aW 19 (.seq (.drawn true 36 [aF 20 3 1 3,ay 21 1 20,kB 22 4 21 0,bk 23 4 22,I 24 1,bk 25 4 5,dT 26 234 [.t 23,.t 24,.t 25],aF 27 3 1 3,ay 28 1 27,kB 29 4 28 1,bk 30 4 29,I 31 1,bk 32 4 5,dT 33 234 [.t 30,.t 31,.t 32],cb 34 189 26 33,bV 4 6 34]) .ret) .skip)) (aa [bk 35 4 3,bV 4 6 35] .ret))))
def TJ:C:=(aa [cZ 3 1,fw 4 5] (aa [I 7 0,cw 8 7,I 5 8] (.seq (.block 0 (.loop (.seq (.seq (.drawn true 38 [I 9 5,aV 10 .gtr 9 0,I 11 10,cg 11 true 12 0,cg 11 true 13 5,ax 11 true (aV 14 .sub 13 1),ax 11 true (ck 15 5 12 14),ax 11 true (aF 16 0 1 15),ax 11 true (ay 17 1 16),ax 11 true (aF 18 0 1 3),ax 11 true (ay 19 1 18),ax 11 true (bu 20 .gtr 17 19),eg 21 11 20]) (aW 21 .skip (.exit 0))) (.block 1 (.region [I 22 5,aV 23 .sub 22 1,I 5 23]))))) (aa [fe 24 5 113 [],I 25 0,I 26 5,cd 27 (.lsl 5 (.t 25) none (some (.t 26))),h1 28 5 113 24 27,I 6 28] (aa [I 29 6,bk 30 5 3,fe 31 5 113 [.t 30],h1 32 5 113 29 31,I 6 32] (aa [I 33 6,I 34 0,I 35 5,cd 36 (.lsl 5 (.t 34) (some (.t 35)) none),h1 37 5 113 33 36,I 4 37] .ret))))))
def aoM:b4 aT Tw [.tmp 2] 1 Tryz.f56=true:=bi
def E9:b4 aT AR [.tmp 4] 2 Tryz.f58=true:=bi
def aoW:b4 aT TG [.cell 4 true 4,.tmp 5] 2 Tryz.f60=true:=bi
def aoN:b4 aT Tx [.tmp 6] 3 Tryz.f75=true:=bi
def ZC:b4 aT Lr [.tmp 2] 1 Tryz.f76=true:=bi
def aoI:b4 aT Ts [.tmp 2] 1 Tryz.f119=true:=bi
def aoO:b4 aT Ty [.tmp 4] 2 Tryz.f123=true:=bi
def n9:b4 aT ng [.tmp 2] 1 Tryz.f124=true:=bi
def aoQ:b4 aT TA [.tmp 4] 2 Tryz.f126=true:=bi
def O9:b4 aT GP [.cell 4 true 4] 2 Tryz.f127=true:=bi
def aoP:b4 aT Tz [.tmp 2] 1 Tryz.f128=true:=bi
def ao0:b4 aT TK [.tmp 2] 1 Tryz.f145=true:=bi
def aoY:b4 aT TI [.cell 4 true 4,.tmp 5] 2 Tryz.f146=true:=bi
def ao2:b4 aT TM [.tmp 4,.tmp 5] 2 Tryz.f152=true:=bi
def wB:b4 aT ur [.tmp 6,.tmp 7] 3 Tryz.f180=true:=bi
def Pa:b4 aT GQ [.cell 4 true 4] 2 Tryz.f201=true:=bi
def ao1:b4 aT TL [.tmp 6,.tmp 7] 3 Tryz.f202=true:=bi
def I3:b4 aT Dt [.tmp 6,.tmp 7] 3 Tryz.f212=true:=bi
def aoR:b4 aT TB [.tmp 4] 2 Tryz.f233=true:=bi
def O8:b4 aT GO [.cell 6 true 4] 3 Tryz.f234=true:=bi
def aoZ:b4 aT TJ [.tmp 4] 2 Tryz.f235=true:=bi
mutual
def mz:Tm->Int->Int
 | .mk _ _ _ args,m=>cntLS args 1 m
def cntLS:List Tm->Int->Int->Int
 |[],n,_=>n
 |x::xs,n,m=>if m<n then n else cntLS xs (n+mz x (m-n)) m
end
mutual
def Lx:∀(t:Tm) (m:Int),0<=m->1<=mz t m/\mz t m<=m+1
 | .mk _ _ _ args,m,h=>by simp only[mz];exact Ua args 1 m h Ω Ω
def Ua:∀(l:List Tm) (n m:Int),0<=m->1<=n->n<=m+1->1<=cntLS l n m/\cntLS l n m<=m+1
 |[],n,m,_,J,U=>by simp only[cntLS];exact⟨J,U⟩
 |x::xs,n,m,a,J,U=>by
  simp only[cntLS];split
  ·exact⟨J,U⟩
  ·have:=Lx x (m-n) Ω;exact Ua xs _ m a Ω Ω
end
def GW:∀(t:T) (m:Int),0<=m->(mz t.tm m<=m↔(t.size:Int)<=m)/\((t.size:Int)<=m->mz t.tm m=t.size)
 | .pair a b,m,h=>by
  have i:=T.size_pos a;have j:=T.size_pos b;simp only[T.tm,mz,cntLS,T.size];by_cases J:m<1
  ·rw[if_pos J];exact⟨Ω,fun h=>Ω⟩
  ·rw[if_neg J];obtain⟨c,a2⟩:=GW a (m-1) Ω;have a3:=Lx a.tm (m-1) Ω;by_cases U:(a.size:Int)<=m-1
   ·have e:=a2 U;rw[e];by_cases f:m<1+(a.size:Int)
    ·omega
    ·rw[if_neg f];obtain⟨g,d⟩:=GW b (m-(1+a.size)) Ω;refine⟨Ω,fun h=>?_⟩;rw[d Ω];omega
   ·have:¬mz a.tm (m-1)<=m-1:=fun h=>U (c.1 h);rw[if_pos Ω];exact⟨Ω,fun h=>Ω⟩
 | .nil,m,h=>by simp[T.tm,mz,cntLS,T.size]
 | .var _,m,h=>by simp[T.tm,mz,cntLS,T.size]
 | .sym _,m,h=>by simp[T.tm,mz,cntLS,T.size]
 | .num _,m,h=>by simp[T.tm,mz,cntLS,T.size]
def ae0(t:Tm)(m:Int):mz t m=cntLS t.args 1 m:=by cases t;rfl
def acE(t:Tm):∀m:Int,0<=m->m<=1000000->bU au 123 [enc t,aj m] (aj (mz t m)):=by
 suffices H:∀(k:Nat) (t:Tm),t.sz<=k->∀m:Int,0<=m->m<=1000000->bU au 123 [enc t,aj m] (aj (mz t m))from H _ t (dO _)
 intro k;induction k with
 |zero=>intro t g;cases t;simp[Tm.sz]at g
 |succ k e=>
  intro t g m q J;refine bI a6 Tryz.func123 aoO fun f=>?_;unfold Ty;have p:t.args.length<=68719476736:=by rw[vI]at f;simp[eM,eV,eN,lim]at f;omega
  simp;refine eZ [1,9,10] (fun i (n:Int)=>[(5,aj n),(11,aj i)]) t.args.length (fun i n=>(1<=n/\n<=m+1)/\cntLS (t.args.drop i) n m=mz t m) 1 b9 ⟨Ω,by simp[ae0]⟩ (fun n a _=>?_) (fun i n hi a _=>?_)
  ·simp;(repeat' first|refine al ?_|simp);simp[bZ,ba,be,a1];have:=a.2;simp[cntLS]at this;exact this
  ·obtain⟨⟨o,r⟩,a⟩:=a;obtain⟨x,j,d⟩:=eW hi;have l:t.args.drop i=x::t.args.drop (i+1):=by rw[lG hi,d]
   have c:x.sz<=k:=by have:=QD (ft j);omega
   rw[l]at a;simp only[cntLS]at a;simp[hi,d];by_cases b:m<n
   ·rw[if_pos b]at a;(repeat' first|refine al ?_|simp[b]);simp[bZ,ba,be,a1];exact a
   ·rw[if_neg b]at a;have aw:=Lx x (m-n) Ω;((repeat' first|refine al ?_|refine aO (e x c (m-n) Ω Ω) ?_|refine aP (e x c (m-n) Ω Ω) ?_|simp[b]|((first|apply ct|apply cz|apply cy)<;>intro h<;>try simp at h))<;>(try exact c3));exact bY.rng (n+mz x (m-n)) hi ⟨Ω,a⟩ b9
def CX(t:T):bU au 128 [t.e] (.bool (decide (t.size<=5000))):=by
 have aw:=(GW t 5000 Ω).1;have key:=acE t.tm 5000 Ω Ω;rw[mB]at key;refine bI a6 Tryz.func128 aoP fun a=>?_;unfold Tz;simp;(repeat' first|refine al ?_|refine aO key ?_|refine aP key ?_|simp);simp[bZ,ba,be,a1];have:(mz t.tm 5000<=5000)=(t.size<=5000):=by rw[aw];simp;omega
 simp[this]
def alB(l:List Bd)(v:Int)(k:Nat)(st:bp):Prop:=∃i:Nat,i<=l.length/\k=l.length-i/\dG l v=dG (l.drop i) v/\st=⟨[(1,aj v),(4,.ptr (.loc 0) 0),(8,bL (l.map Bd.e)),(9,aj l.length),(10,aj i)],[(.loc 0,[aj 0,aj 0,.str [],.slice 4 .nil []])],[],1,[]⟩
def wT(l:List Bd)(v:Int)(j:l.length<=1000000):bU au 146 [bL (l.map Bd.e),aj v] (.tuple [((dG l v).getD .nil).e,.bool (dG l v).isSome]):=by
 refine bI a6 Tryz.func146 aoY fun n=>?_;unfold TI;simp;refine qq (alB l v) l.length _ b9 ⟨0,Ω,rfl,Ψ,rfl⟩ ?_;rintro k st ⟨i,hi,m,bf,rfl⟩ f g;clear f g;by_cases a:i<l.length
 ·obtain⟨b,c⟩:∃b,l[i]? =some b:=⟨_,cl a⟩;have e:l.drop i=b::l.drop (i+1):=by rw[lG a];rw[cl a]at c;simp at c;rw[c]
  have d:∀h,l[i]'h=b:=fun h=>by rw[cl h]at c;simpa using c
  simp[d,a];(with_reducible repeat' first|((first|apply ct|apply cz|apply cy)<;>intro h<;>try simp at h)|refine al ?_|simp[d])
  ·have:dG l v=some b.t:=by rw[bf,e];simp[dG,h]
   simp[bZ,ba,be,a1];simp[this]
  ·refine bY.next (l.length-(i+1)) Ω ⟨i+1,Ω,rfl,?_,rfl⟩ b9;rw[bf,e];simp[dG,h]
 ·have:dG l v=none:=by rw[bf,List.drop_of_length_le Ω];simp[dG]
  simp[a];(with_reducible repeat' first|((first|apply ct|apply cz|apply cy)<;>intro h<;>try simp at h)|refine al ?_|simp);simp[bZ,ba,be,a1];simp[this]
def ass(l:List Bd)(e:l.length<=1000000)(t:T):bU au 127 [bL (l.map Bd.e),t.e] (t.sub (dG l)).e:=by
 induction t with
 |pair a b d c=>
  refine bI a6 Tryz.func127 O9 fun f=>?_;unfold GP;simp;(repeat' first|refine al ?_|refine aO d ?_|refine aP d ?_|refine aO c ?_|refine aP c ?_|refine aO (J9 _ _) ?_|refine aP (J9 _ _) ?_|simp);all_goals simp[bZ,ba,be,a1]
  all_goals simp[T.sub]
 |var n=>
  refine bI a6 Tryz.func127 O9 fun f=>?_;unfold GP;simp;((repeat' first|refine al ?_|refine aO (wT l n e) ?_|refine aP (wT l n e) ?_|simp|((first|apply ct|apply cz|apply cy)<;>intro h<;>try simp at h))<;>(try exact c3));all_goals simp[bZ,ba,be,a1]
  all_goals cases g:dG l n<;>simp_all[T.sub]
 |_=>
  refine bI a6 Tryz.func127 O9 fun f=>?_;unfold GP;simp;(repeat' first|refine al ?_|simp);all_goals simp[bZ,ba,be,a1]
  all_goals simp[T.sub]
def acH(l:List Bd)(a:l.length<=1000000)(t:T):bU au 127 [bL (l.map Bd.e),t.e] (t.ap (cG l)).e:=by have:=ass l a t;rw[abS]at this;exact this
def Kc(l:List Bd)(a:l.length<=1000000)(t:T):bU au 60 [bL (l.map Bd.e),t.e] (.tuple [(t.ap (cG l)).e,.bool (decide ((t.ap (cG l)).size<=5000))]):=by refine bI a6 Tryz.func60 aoW fun b=>?_;unfold TG;simp;(repeat' first|refine al ?_|refine aO (acH l a t) ?_|refine aP (acH l a t) ?_|refine aO (CX _) ?_|refine aP (CX _) ?_|simp);simp[bZ,ba,be,a1]
def x3(v:Int)(l:List T):Bool:=l.any (T.occ v)
def Za(v:Int)(t:T):t.occ v=(x3 v t.args||(t.kind==1&&t.int==v)):=by cases t<;>simp[T.occ,x3]
def yu(v:Int)(t:T):bU au 233 [aj v,t.e] (.bool (t.occ v)):=by
 suffices H:∀(k:Nat) (t:T),t.size<=k->bU au 233 [aj v,t.e] (.bool (t.occ v))from H _ t (dO _)
 intro k;induction k with
 |zero=>intro t f;have:=T.size_pos t;omega
 |succ k d=>
  intro t f;have l:t.args.length<=2:=by cases t<;>simp
  refine bI a6 Tryz.func233 aoR fun m=>?_;unfold TB;simp;refine eZ [0,3,8,9] (fun i (_:Unit)=>[(10,aj i)]) t.args.length (fun i _=>x3 v (t.args.drop i)=x3 v t.args) () b9 Ψ (fun _ a _=>?_) (fun i _ hi a _=>?_)
  ·have c:x3 v t.args=false:=by rw[<-a];simp[x3]
   rw[Za,c];simp;((repeat' first|refine al ?_|simp|((first|apply ct|apply cz|apply cy)<;>intro h<;>try simp at h))<;>(try exact c3));all_goals simp[bZ,ba,be,a1]
   all_goals simp_all
  ·obtain⟨x,g,e⟩:=eW hi;have j:t.args.drop i=x::t.args.drop (i+1):=by rw[lG hi,e]
   have b:x.size<=k:=by have hm:=ft g;have:=T.size_pos x;cases t<;>simp at hm;rcases hm with rfl|rfl<;>simp[T.size]at f<;>omega
   simp only[j,x3,List.any_cons]at a;simp[hi,e];cases ar:x.occ v with
   |true=>
    rw[ar]at a;simp at a;have c:t.occ v=true:=by rw[Za];simp[x3];left;simpa using a
    (repeat' first|refine al ?_|refine aO (d x b) ?_|refine aP (d x b) ?_|simp[ar]);simp[bZ,ba,be,a1];simp[c]
   |false=>rw[ar]at a;have n:=d x b;exact iV
def Ka(v:Int)(x t:T):bU au 234 [t.e,aj v,x.e] (t.ap (Go.Pv.one v x)).e:=by
 induction t with
 |pair a b d c=>
  refine bI a6 Tryz.func234 O8 fun e=>?_;unfold GO;simp;(repeat' first|refine al ?_|refine aO d ?_|refine aP d ?_|refine aO c ?_|refine aP c ?_|refine aO (J9 _ _) ?_|refine aP (J9 _ _) ?_|simp);all_goals simp[bZ,ba,be,a1]
  all_goals simp[T.ap]
 |var n=>
  refine bI a6 Tryz.func234 O8 fun e=>?_;unfold GO;simp;((repeat' first|refine al ?_|simp|((first|apply ct|apply cz|apply cy)<;>intro h<;>try simp at h))<;>(try exact c3));all_goals simp[bZ,ba,be,a1]
  all_goals simp_all[T.ap,Go.Pv.one]
 |_=>
  refine bI a6 Tryz.func234 O8 fun e=>?_;unfold GO;simp;(repeat' first|refine al ?_|simp);all_goals simp[bZ,ba,be,a1]
  all_goals simp[T.ap]
def Kd(s:List Bd)(a:s.length<=1000000)(t:T):bU au 201 [bL (s.map Bd.e),t.e] (ij s t).e:=by
 cases t with
 |var n=>
  cases b:dG s n with
  |none=>refine bI a6 Tryz.func201 Pa fun c=>?_;unfold GQ;simp;(repeat' first|refine al ?_|refine aO (wT s n a) ?_|refine aP (wT s n a) ?_|simp[b]);simp[bZ,ba,be,a1];simp[ij,cG,b]
  |some x=>refine bI a6 Tryz.func201 Pa fun c=>?_;unfold GQ;simp;(repeat' first|refine al ?_|refine aO (wT s n a) ?_|refine aP (wT s n a) ?_|simp[b]);simp[bZ,ba,be,a1];simp[ij,cG,b]
 |_=>refine bI a6 Tryz.func201 Pa fun c=>?_;unfold GQ;simp;(repeat' first|refine al ?_|simp);simp[bZ,ba,be,a1];simp[ij]
def Xd(b:Bd):∀(s:List Bd) (k:Nat),(∀i c,i<k->s[i]? =some c->c.v<=b.v)->(∀c,s[k]? =some c->b.v<c.v)->k<=s.length->pZ b s=s.take k++b::s.drop k
 |[],k,_,_,a=>by simp at a;subst a;rfl
 |c::s,0,_,U,_=>by have:=U c rfl;simp[pZ,this]
 |c::s,k+1,J,U,a=>by have:=J 0 c Ω rfl;simp only[pZ,if_neg (by omega:¬b.v<c.v),List.take_succ_cons,List.drop_succ_cons,b7];rw[Xd b s k (fun i d hi e=>J (i+1) d Ω (by simpa using e)) (fun d e=>U d (by simpa using e)) (by simpa using a)]
def asr(s:List Bd)(b:Bd)(w:s.length<=1000000)(t:jB s):bU au 235 [bL (s.map Bd.e),b.e] (bL ((pZ b s).map Bd.e)):=by
 refine bI a6 Tryz.func235 aoZ fun x=>?_;unfold TJ;simp;refine xb [0,3] (fun(k:Nat)=>[(5,aj k)]) (fun k=>k) (fun k=>k<=s.length/\∀c,s[k]? =some c->b.v<c.v) s.length b9 ⟨Ω,fun c h=>by simp at h⟩ (fun k n _=>?_);obtain⟨v,n⟩:=n;have o:(∀c,0<k->s[k-1]? =some c->c.v<=b.v)->pZ b s=s.take k++b::s.drop k:=fun h=>Xd b s k (fun i c hi aw=>by
  obtain⟨d,a⟩:∃d,s[k-1]? =some d:=⟨_,cl Ω⟩;have J:=h d Ω a;rcases Nat.lt_or_ge i (k-1)with U|U
  ·have p:=(fH.1 aw);have q:=(fH.1 a);have:=q2.1 t i (k-1) p.1 q.1 U;rw[p.2,q.2]at this;omega
  ·have:i=k-1:=Ω
   subst this;rw[a]at aw;cases aw;exact J) n v
 rcases Nat.eq_zero_or_pos k with rfl|j
 ·have e:=o fun c h=>Ω
  rw[e];simp;(repeat' first|refine al ?_|simp);simp[bZ,ba,be,a1];try simp[iv]
 ·obtain⟨d,a⟩:∃d,s[k-1]? =some d:=⟨_,cl Ω⟩;have l:((k:Int)-1).toNat=k-1:=Ω
  have m:∀h,(s[k-1]'h)=d:=fun h=>by rw[cl h]at a;exact e6 a
  have g:(0:Int)<k:=Ω
  by_cases f:b.v<d.v
  ·simp[j,g,l,m,f,a];(repeat' first|refine al ?_|simp[j,g,l,m,f,a]);refine bY.whl (k-1) Ω ⟨Ω,fun c aw=>by rw[a]at aw;cases aw;exact f⟩ ?_;have r:((k-1:Nat):Int)=(k:Int)-1:=Ω
   simp[r];exact b9
  ·have e:=o fun c _ aw=>by rw[a]at aw;cases aw;omega
   rw[e];simp[j,g,l,m,f,a];(repeat' first|refine al ?_|simp[j,g,l,m,f,a]);simp[bZ,ba,be,a1];have u:mW s.length (s.map Bd.e)=s.map Bd.e:=iv Ψ;rw[u,<-List.map_take,<-List.map_drop,<-gY,<-List.map_append];exact abO _
def Qp(v:Int)(x:T)(b:Bd):Bd:=⟨b.v,b.t.ap (Go.Pv.one v x)⟩
def alM(s:List Bd)(v:Int)(x:T)(i:Nat)(out:List Bd):Prop:=out=(s.take i).map (Qp v x)/\∀b∈s.take i,(b.t.ap (Go.Pv.one v x)).size<=5000
def asv(s:List Bd)(v:Int)(t:T)(y:s.length<=1000000)(F:jB s):bU au 212 [bL (s.map Bd.e),aj v,t.e] (hg (o2 s v t)):=by
 obtain⟨x,p⟩:∃x,x=t.ap (cG s):=⟨_,rfl⟩;have a:=Kc s y t;rw[<-p]at a;obtain⟨o,ar⟩:∃o,o=o2 s v t:=⟨_,rfl⟩;have l:x.size<=5000->x.occ v=false->s.length<400->(∀b∈s,(b.t.ap (Go.Pv.one v x)).size<=5000)->o=some (nL s v x):=fun H G E B=>by rw[ar,o2,<-p,if_pos ⟨H,G,E,B⟩]
 have f:¬(x.size<=5000/\x.occ v=false/\s.length<400/\∀b∈s,(b.t.ap (Go.Pv.one v x)).size<=5000)->o=none:=fun q=>by rw[ar,o2,<-p,if_neg q]
 rw[<-ar];clear ar;by_cases J:x.size<=5000;rotate_left
 ·rw[f fun h=>J h.1];refine bI a6 Tryz.func212 I3 fun r=>?_;unfold Dt;simp;(repeat' first|refine al ?_|refine aO a ?_|refine aP a ?_|refine aO (yu _ _) ?_|refine aP (yu _ _) ?_|simp[J]);simp[bZ,ba,be,a1];simp[hg]
 cases U:x.occ v with
 |true=>rw[f fun h=>by rw[U]at h;cases h.2.1];refine bI a6 Tryz.func212 I3 fun r=>?_;unfold Dt;simp;(repeat' first|refine al ?_|refine aO a ?_|refine aP a ?_|refine aO (yu _ _) ?_|refine aP (yu _ _) ?_|simp[J,U]);simp[bZ,ba,be,a1];simp[hg]
 |false=>
 by_cases z:s.length<400;rotate_left
 ·rw[f fun h=>z h.2.2.1];have j:(400:Int)<=s.length:=Ω
  refine bI a6 Tryz.func212 I3 fun r=>?_;unfold Dt;simp;(repeat' first|refine al ?_|refine aO a ?_|refine aP a ?_|refine aO (yu _ _) ?_|refine aP (yu _ _) ?_|simp[J,U,j]);simp[bZ,ba,be,a1];simp[hg]
 have j:¬(400:Int)<=s.length:=Ω
 refine bI a6 Tryz.func212 I3 fun r=>?_;unfold Dt;simp;(repeat' first|refine al ?_|refine aO a ?_|refine aP a ?_|refine aO (yu _ _) ?_|refine aP (yu _ _) ?_|simp[J,U,j]);refine fS (α:=List Bd) (fun i out=>⟨[(1,aj v),(8,.ptr (.loc 1) 0),(33,bL (s.map Bd.e)),(34,aj s.length),(10,.slice 5 (.own (.loc 2)) (out.map Bd.e)),(35,aj i)],[(.loc 1,[aj x.kind,aj x.int,.str x.name,dx (x.args.map T.e)])],[(.loc 2,⟨out.length,113,5,none⟩)],3,[]⟩) s.length (alM s v x) [] b9 ⟨Ψ,Ψ⟩ (fun out n _=>?_) (fun i out hi n _=>?_)
 ·obtain⟨d,e⟩:=n;rw[iv (dO _)]at d e;have m:jB out:=by rw[d,jB,List.pairwise_map];exact F
  have w:out.length<=1000000:=by rw[d];simpa using y
  rw[l J U z e];have key:=asr out ⟨v,x⟩ w m;simp;(repeat' first|refine al ?_|refine aO key ?_|refine aP key ?_|simp);simp[bZ,ba,be,a1];simp[hg,nL,d];rfl
 ·obtain⟨d,e⟩:=n;obtain⟨b,A,k⟩:=eW hi;have u:s.take (i+1)=s.take i++[b]:=by rw[List.take_succ,A];rfl
  have w:out.length<=1000000:=by rw[d];simp;omega
  simp[hi,k];by_cases g:(b.t.ap (Go.Pv.one v x)).size<=5000
  ·(repeat' first|refine al ?_|refine aO (Ka _ _ _) ?_|refine aP (Ka _ _ _) ?_|refine aO (CX _) ?_|refine aP (CX _) ?_|simp[k,hi,g]);all_goals try refine⟨by unfold lim;omega,?_⟩
   (repeat' first|refine al ?_|simp);refine bY.rng (out++[Qp v x b]) hi ⟨by rw[u,d,List.map_append];rfl,fun c aw=>?_⟩ ?_
   ·rw[u]at aw;rcases kd.1 aw with aw|aw
    ·exact e c aw
    ·simp at aw;subst aw;exact g
   ·simp[Qp];exact⟨by simp[fresh,aH,az,cc,aM,ae,j0],eo (by simp[fresh,aH,az,cc,aM,ae,j0]),ep (by simp[fresh,aH,az,dV,aM,ae,j0]),Ψ⟩
  ·rw[f fun h=>g (h.2.2.2 b (ft A))];(repeat' first|refine al ?_|refine aO (Ka _ _ _) ?_|refine aP (Ka _ _ _) ?_|refine aO (CX _) ?_|refine aP (CX _) ?_|simp[k,hi,g]);simp[bZ,ba,be,a1];simp[hg]
def arL{s:List Bd}(e:gD s)(f:iw s){n:Nat}{a b:T}{o:bd (List Bd)}(h:lD n s a b=some o):jG s [(a,b)] o:=by obtain⟨n',o',J,U⟩:=J5 e f a b;have d:=FZ (Nat.le_max_left n n') h;have c:=FZ (Nat.le_max_right n n') J;rw[d]at c;cases c;exact U
def CU(n:Nat):List (T×T)->List Bd->bd (bd (List Bd))
 |[],s=>some (some s)
 |e::r,s=>match lD n s e.1 e.2 with
  |none=>none
  |some none=>some none
  |some (some s1)=>CU n r s1
def zI(x y:T):Bool:=x.kind==y.kind&&x.int==y.int&&x.name==y.name
def arJ(n:Nat)(s:List Bd){x y:T}(f:x.kind≠1)(g:y.kind≠1):kN (lD n) s x y=if zI x y then CU n (x.args.zip y.args) s else some none:=by
 cases x<;>cases y<;>simp[kN,zI,CU]at f g⊢
 ·rename_i a b;split<;>simp_all
 ·rename_i a b;split<;>simp_all
 ·rename_i d a2 c e;cases lD n s d c with
  |none=>rfl
  |some o=>cases o with
   |none=>rfl
   |some s1=>
    simp only
    cases lD n s1 a2 e with
    |none=>rfl
    |some o=>cases o<;>rfl
def amd{x y:T}(h:zI x y=true):x.args.length=y.args.length:=by cases x<;>cases y<;>simp[zI]at h⊢
@[simp]def auD(o:bd (List Bd)):A3 0 (hg o)=some (True,bL ((o.getD []).map Bd.e)):=rfl
@[simp]def auE(o:bd (List Bd)):A3 1 (hg o)=some (True,.bool o.isSome):=rfl
def asz(n:Nat):∀(s:List Bd) (a b:T) (o:bd (List Bd)),gD s->iw s->lD n s a b=some o->bU au 180 [bL (s.map Bd.e),a.e,b.e] (hg o):=by
 induction n with
 |zero=>intro s a b o _ _ h;simp[lD]at h
 |succ n W=>
  intro s a b o R S he;have K:s.length<=1000000:=by have:=S.1;omega
  have c:=Kd s K a;have d:=Kd s K b;simp only[lD]at he;generalize ij s a=x at he c;generalize ij s b=y at he d;have E:=fun v t=>asv s v t K R.asc;have f:∀z:T,¬z.kind=1->(z.kind==1)=false:=fun z h=>by simp[h]
  by_cases l:x.kind=1
  ·obtain⟨i,rfl⟩:∃i,x= .var i:=by cases x<;>simp at l;exact⟨_,rfl⟩
   by_cases g:y.kind=1
   ·obtain⟨j,rfl⟩:∃j,y= .var j:=by cases y<;>simp at g;exact⟨_,rfl⟩
    simp only[kN,dU]at he;subst he;rcases Int.lt_trichotomy i j with h|h|h
    ·rw[if_pos h];have key:=E j (.var i);refine bI a6 Tryz.func180 wB fun m=>?_;unfold ur;simp;(repeat' first|refine al ?_|refine aO c ?_|refine aP c ?_|refine aO d ?_|refine aP d ?_|refine aO key ?_|refine aP key ?_|simp[h]);simp[bZ,ba,be,a1];simp[hg]
    ·subst h;rw[if_neg Ω,if_pos rfl];have J:¬i<i:=Ω
     refine bI a6 Tryz.func180 wB fun m=>?_;unfold ur;simp;(repeat' first|refine al ?_|refine aO c ?_|refine aP c ?_|refine aO d ?_|refine aP d ?_|simp[J]);simp[bZ,ba,be,a1];simp[hg]
    ·rw[if_neg Ω,if_neg Ω];have key:=E i (.var j);have J:¬i<j:=Ω
     have U:¬i=j:=Ω
     refine bI a6 Tryz.func180 wB fun m=>?_;unfold ur;simp;((repeat' first|refine al ?_|refine aO c ?_|refine aP c ?_|refine aO d ?_|refine aP d ?_|refine aO key ?_|refine aP key ?_|simp[J,U]|((first|apply ct|apply cz|apply cy)<;>intro h<;>try simp at h))<;>(try exact c3));simp[bZ,ba,be,a1];simp[hg]
   ·have G:o2 s i y=o:=by cases y<;>first|(simp at g;done)|exact e6 he
    subst G;have key:=E i y;refine bI a6 Tryz.func180 wB fun m=>?_;unfold ur;simp;(repeat' first|refine al ?_|refine aO c ?_|refine aP c ?_|refine aO d ?_|refine aP d ?_|refine aO key ?_|refine aP key ?_|simp[f y g]);simp[bZ,ba,be,a1];simp[hg]
  ·by_cases g:y.kind=1
   ·obtain⟨j,rfl⟩:∃j,y= .var j:=by cases y<;>simp at g;exact⟨_,rfl⟩
    have G:o2 s j x=o:=by cases x<;>first|(simp at l;done)|exact e6 he
    subst G;have key:=E j x;refine bI a6 Tryz.func180 wB fun m=>?_;unfold ur;simp;(repeat' first|refine al ?_|refine aO c ?_|refine aP c ?_|refine aO d ?_|refine aP d ?_|refine aO key ?_|refine aP key ?_|simp[f x l]);simp[bZ,ba,be,a1];simp[hg]
   ·rw[arJ n s l g]at he;cases hle:zI x y with
    |false=>
     rw[hle]at he;simp at he;subst he;have N:(x.kind !=y.kind)=true\/((x.kind !=y.kind)=false/\((x.int !=y.int)=true\/((x.int !=y.int)=false/\(x.name !=y.name)=true))):=by simp only[zI]at hle;simp only[bne];cases X:(x.kind==y.kind)<;>cases Z:(x.int==y.int)<;>cases V:(x.name==y.name)<;>simp_all
     rcases N with p|⟨p,q|⟨q,B⟩⟩
     ·refine bI a6 Tryz.func180 wB fun m=>?_;unfold ur;simp;(repeat' first|refine al ?_|refine aO c ?_|refine aP c ?_|refine aO d ?_|refine aP d ?_|simp[f x l,f y g,p]);simp[bZ,ba,be,a1];simp[hg]
     ·refine bI a6 Tryz.func180 wB fun m=>?_;unfold ur;simp;(repeat' first|refine al ?_|refine aO c ?_|refine aP c ?_|refine aO d ?_|refine aP d ?_|simp[f x l,f y g,p,q]);simp[bZ,ba,be,a1];simp[hg]
     ·refine bI a6 Tryz.func180 wB fun m=>?_;unfold ur;simp;have F:¬x.name=y.name:=by simpa using B
      have L:decide (x.name=y.name)=false:=by simp[F]
      ((repeat' first|refine al ?_|refine aO c ?_|refine aP c ?_|refine aO d ?_|refine aP d ?_|simp[f x l,f y g,p,q,B,F,L]|((first|apply ct|apply cz|apply cy)<;>intro h<;>try simp at h))<;>(try exact c3));simp[bZ,ba,be,a1];simp[hg]
    |true=>
     rw[hle,if_pos rfl]at he;have N:(x.kind !=y.kind)=false/\(x.int !=y.int)=false/\(x.name !=y.name)=false:=by simp only[zI]at hle;simp only[bne];cases X:(x.kind==y.kind)<;>cases Z:(x.int==y.int)<;>cases V:(x.name==y.name)<;>simp_all
     obtain⟨p,q,B⟩:=N;have hlen:=amd hle;have F:x.name=y.name:=by simpa using B
     have tb:x.args.length<=2:=by cases x<;>simp
     refine bI a6 Tryz.func180 wB fun m=>?_;unfold ur;simp;(repeat' first|refine al ?_|refine aO c ?_|refine aP c ?_|refine aO d ?_|refine aP d ?_|simp[f x l,f y g,p,q,F]);refine fS (α:=List Bd) (fun i k=>⟨[(5,.ptr (.loc 1) 0),(96,dx (x.args.map T.e)),(97,aj x.args.length),(0,bL (k.map Bd.e)),(98,aj i)],[(.loc 1,[aj y.kind,aj y.int,.str y.name,dx (y.args.map T.e)])],[],2,[]⟩) x.args.length (fun i k=>(gD k/\iw k)/\CU n ((x.args.zip y.args).drop i) k=some o) s b9 ⟨⟨R,S⟩,by simpa using he⟩ (fun k e _=>?_) (fun i k hi e _=>?_)
     ·obtain⟨_,e⟩:=e;rw[List.drop_eq_nil_of_le (by simp[hlen])]at e;simp[CU]at e;subst e;simp;(repeat' first|refine al ?_|simp);simp[bZ,ba,be,a1];simp[hg]
     ·obtain⟨⟨g1,g2⟩,e⟩:=e;obtain⟨A,Q⟩:∃a,x.args[i]? =some a:=⟨_,cl hi⟩;obtain⟨w,P⟩:∃b,y.args[i]? =some b:=⟨_,cl Ω⟩;have r:∀h,(x.args[i]'h)=A:=fun h=>by rw[cl hi]at Q;exact e6 Q
      have u:∀h,(y.args[i]'h)=w:=fun h=>by rw[cl h]at P;exact e6 P
      have H:i<y.args.length:=Ω
      have Y:(x.args.zip y.args).drop i=(A,w)::(x.args.zip y.args).drop (i+1):=by rw[lG d6];simp[r,u]
      rw[Y]at e;simp only[CU]at e;simp[hi,r,u,H];cases hu:lD n k A w with
      |none=>rw[hu]at e;cases e
      |some O=>
       have key:=W k A w O g1 g2 hu;rw[hu]at e;cases O with
       |none=>simp at e;subst e;(repeat' first|refine al ?_|refine aO key ?_|refine aP key ?_|simp[r,u,hi,H]);simp[bZ,ba,be,a1];simp[hg]
       |some s1=>have M:=arL g1 g2 hu;(repeat' first|refine al ?_|refine aO key ?_|refine aP key ?_|simp[r,u,hi,H]);refine bY.rng s1 hi ⟨M.1,e⟩ ?_;exact b9
def asy(s:List Bd)(a b:T)(c:gD s)(d:iw s):bU au 180 [bL (s.map Bd.e),a.e,b.e] (hg (mgu s [(a,b)])):=by obtain⟨n,o,J,U⟩:=J5 c d a b;rw[tK U];exact asz n s a b o c d J
def alL(s:List Bd)(E:List (T×T))(i:Nat)(a:List Bd):Prop:=(gD a/\iw a)/\mgu a (E.drop i)=mgu s E
def asu(s:List Bd)(l r:List T)(n:l.length=r.length)(o:gD s)(q:iw s)(t:l.length<=1000000):bU au 202 [bL (s.map Bd.e),dx (l.map T.e),dx (r.map T.e)] (hg (mgu s (l.zip r))):=by
 refine bI a6 Tryz.func202 ao1 fun u=>?_;unfold TL;simp;refine fS (α:=List Bd) (fun i d=>⟨[(2,dx (r.map T.e)),(12,dx (l.map T.e)),(13,aj l.length),(0,bL (d.map Bd.e)),(14,aj i)],[],[],0,[]⟩) l.length (alL s (l.zip r)) s b9 ⟨⟨o,q⟩,Ψ⟩ (fun d c _=>?_) (fun i d hi c _=>?_)
 ·obtain⟨⟨g1,g2⟩,c⟩:=c;rw[List.drop_eq_nil_of_le (by simp[n]),Oz g1 g2]at c;rw[<-c];simp;(repeat' first|refine al ?_|simp);simp[bZ,ba,be,a1];simp[hg]
 ·obtain⟨⟨g1,g2⟩,c⟩:=c;obtain⟨a,k⟩:∃a,l[i]? =some a:=⟨_,cl hi⟩;obtain⟨b,j⟩:∃b,r[i]? =some b:=⟨_,cl Ω⟩;have e:∀h,(l[i]'h)=a:=fun h=>by rw[cl hi]at k;exact e6 k
  have f:∀h,(r[i]'h)=b:=fun h=>by rw[cl h]at j;exact e6 j
  have g:i<r.length:=Ω
  have p:(l.zip r).drop i=(a,b)::(l.zip r).drop (i+1):=by rw[lG d6];simp[e,f]
  rw[p,Oy g1 g2]at c;simp[hi,e,f,g];have key:=asy d a b g1 g2;cases hu:mgu d [(a,b)]with
  |none=>rw[hu]at c key;simp only at c;rw[<-c];(repeat' first|refine al ?_|refine aO key ?_|refine aP key ?_|simp[e,f,hi,g]);simp[bZ,ba,be,a1];simp[hg]
  |some s1=>have m:=B4 g1 g2 hu;rw[hu]at c key;(repeat' first|refine al ?_|refine aO key ?_|refine aP key ?_|simp[e,f,hi,g]);refine bY.rng s1 hi ⟨m,c⟩ ?_;exact b9
def k4(n:Int):bU au 114 [aj n] (T.var n).e:=by refine bI a6 Tryz.func114 aoV fun a=>?_;unfold TF;exact cr
def alP(t:List Bd)(i:Nat)(p:List T×List T):Prop:=p.1=(t.take i).map (fun b=>T.var b.v)/\p.2=(t.take i).map (·.t)
def asw(s t:List Bd)(k:gD s)(n:iw s)(m:t.length<=1000000):bU au 152 [bL (s.map Bd.e),bL (t.map Bd.e)] (hg (mgu s (iI t))):=by
 have g:(t.map fun b=>T.var b.v).zip (t.map (·.t))=iI t:=by rw[iI,List.zip_map']
 refine bI a6 Tryz.func152 ao2 fun o=>?_;unfold TM;simp;refine fS (α:=List T×List T) (fun i p=>⟨[(0,bL (s.map Bd.e)),(12,bL (t.map Bd.e)),(13,aj t.length),(6,.slice 4 (.own (.loc 0)) (p.1.map T.e)),(7,.slice 4 (.own (.loc 1)) (p.2.map T.e)),(14,aj i)],[],[(.loc 0,⟨p.1.length,30,4,none⟩),(.loc 1,⟨p.2.length,30,4,none⟩)],2,[]⟩) t.length (alP t) ([],[]) b9 ⟨Ψ,Ψ⟩ (fun p d _=>?_) (fun i p hi d _=>?_)
 ·obtain⟨A,B⟩:=p;obtain⟨a,c⟩:=d;simp only at a c⊢;rw[iv (dO _)]at a c;have key:=asu s A B (by rw[a,c];simp) k n (by rw[a];simpa using m);rw[a,c,g,<-a,<-c]at key;simp;(repeat' first|refine al ?_|refine aO key ?_|refine aP key ?_|simp);simp[bZ,ba,be,a1];simp[hg]
 ·obtain⟨A,B⟩:=p;obtain⟨a,c⟩:=d;simp only at a c⊢;obtain⟨b,l,f⟩:=eW hi;have e:t.take (i+1)=t.take i++[b]:=by rw[List.take_succ,l];rfl
  have j:A.length<=1000000:=by rw[a];simp;omega
  have h:B.length<=1000000:=by rw[c];simp;omega
  simp[hi,f];(repeat' first|refine al ?_|refine aO (k4 _) ?_|refine aP (k4 _) ?_|simp[f,hi]);all_goals try refine⟨by unfold lim;omega,?_⟩
  (repeat' first|refine al ?_|simp);all_goals try refine⟨by unfold lim;omega,?_⟩
  (repeat' first|refine al ?_|simp);refine bY.rng (A++[.var b.v],B++[b.t]) hi ⟨by rw[e,a];simp,by rw[e,c];simp⟩ ?_;simp;exact⟨by simp[fresh,aH,az,cc,aM,ae,j0],eo (by simp[fresh,aH,az,cc,aM,ae,j0]),ep (by simp[fresh,aH,az,dV,aM,ae,j0]),Ψ⟩
def dS(n lo hi:Int):bU au 75 [aj n,aj lo,aj hi] (.bool (decide (lo<=n/\n<=hi))):=by
 refine bI a6 Tryz.func75 aoN fun a=>?_;unfold Tx;simp;((repeat' first|refine al ?_|simp|((first|apply ct|apply cz|apply cy)<;>intro h<;>try simp at h))<;>(try exact c3));all_goals simp[bZ,ba,be,a1]
 all_goals first|omega|(simp;done)|(simp;omega)
def shp:Tm->Bool
 | .mk k n s [a,b]=>k==4&&n==0&&s==[]&&shp a&&shp b
 | .mk k n s []=>ml k n s
 |_=>false
def JS:∀x:T,shp x.tm=x.ok
 | .nil=>by simp[T.tm,shp,ml,T.ok]
 | .var _=>by simp[T.tm,shp,ml,T.ok]
 | .sym _=>by simp[T.tm,shp,ml,T.ok]
 | .num _=>by simp[T.tm,shp,ml,T.ok]
 | .pair a b=>by simp[T.tm,shp,T.ok,JS a,JS b]
def aqU:∀(m:Nat) (t:Tm),t.sz<=m->shp t=true->∃x:T,x.tm=t:=by
 intro m;induction m with
 |zero=>intro t c;cases t;simp[Tm.sz]at c
 |succ m d=>
  rintro⟨k,n,s,args⟩ c h;match args with
  |[a,b]=>
   simp[Tm.sz,Tm.szL]at c;simp only[shp,cQ,ey]at h;obtain⟨⟨⟨⟨rfl,rfl⟩,e⟩,J⟩,U⟩:=h;obtain⟨x,rfl⟩:=d a Ω J;obtain⟨y,rfl⟩:=d b Ω U;have:s=[]:=by simpa using e
   subst this;exact⟨.pair x y,rfl⟩
  |[]=>
   simp only[shp,ml]at h;split at h
   ·subst_vars;simp at h;exact⟨.nil,by simp[T.tm,h]⟩
   split at h
   ·subst_vars;simp at h;exact⟨.var n,by simp[T.tm,h]⟩
   split at h
   ·subst_vars;simp at h;exact⟨.sym s,by simp[T.tm,h]⟩
   split at h
   ·subst_vars;simp at h;exact⟨.num n,by simp[T.tm,h]⟩
   ·simp at h
  |[_]=>simp[shp]at h
  |_::_::_::_=>simp[shp]at h
def ain(t:Tm):t.fits=(decide (mz t 5000<=5000)&&shp t):=by
 by_cases h:shp t=true
 ·obtain⟨x,rfl⟩:=aqU _ t (dO _) h;have:=(GW x 5000 Ω).1;rw[Tm.fits_T,T.fit,h];rw[JS]at h;simp[h,this];omega
 ·have b:t.fits=false:=by
   cases c:t.fits with
   |false=>rfl
   |true=>obtain⟨x,rfl,a⟩:=Tm.fits_ex c;rw[JS]at h;simp[T.fit]at a;exact absurd a.1 h
  simp at h;rw[b,h];simp
def NL(s:List cS)(i:Nat):Prop:=i<=s.length/\∀k,k<i->nW (s.getD k 0)=true/\(k=0->low (s.getD k 0)=true)
def alI{s:List cS}(h:NL s s.length):ks s=decide (1<=s.length/\s.length<=12):=by
 unfold ks;by_cases c:1<=s.length
 ·have J:=(h.2 0 Ω).2 rfl;have U:(s.drop 1).all nW=true:=by rw[j6];intro b a;obtain⟨i,hi,e⟩:=pA a;simp at hi e;have:=(h.2 (i+1) Ω).1;rw[List.getD_eq_getElem?_getD,cl Ω]at this;simp only[lI]at this;rw[<-e];exact this
  rw[J,U];simp
 ·have:decide (1<=s.length/\s.length<=12)=false:=by simp;omega
  rw[this];simp
def alH{s:List cS}{i:Nat}(hi:i<s.length)(h:nW (s.getD i 0)=false\/(i=0/\low (s.getD i 0)=false)):ks s=false:=by
 cases e:ks s with
 |false=>rfl
 |true=>
  exfalso;simp only[ks,cQ,j6]at e;obtain⟨⟨_,a⟩,c⟩:=e;rcases h with h|⟨rfl,h⟩
  ·by_cases b:i=0
   ·subst b;rw[nW,a]at h;simp at h
   ·have:=c (s.getD i 0) (by rw[List.getD_eq_getElem?_getD,cl hi];simp only[lI];refine List.mem_iff_getElem.2 ⟨i-1,by simp;omega,?_⟩;simp[show i-1+1=i from by omega])
    rw[this]at h;cases h
  ·rw[a]at h;cases h
def h0(s:List cS):bU au 119 [.str s] (.bool (ks s)):=by
 generalize bt:ks s=R;refine bI a6 Tryz.func119 aoI fun r=>?_;unfold Ts;have t:s.length<=68719476736:=by simp[eM,eV,eN,lim]at r;omega
 simp;refine xb [0] (fun(i:Nat)=>[(3,aj i)]) (fun i=>s.length-i) (NL s) 0 b9 ⟨Ω,fun k q=>Ω⟩ (fun i o _=>?_);have u:=o.1;by_cases hi:i<s.length
 ·have l:=alH hi;rw[bt]at l;obtain⟨c,aw,e⟩:=eW hi;have p:s.getD i 0=c:=by simp[List.getD_eq_getElem?_getD,aw]
  rw[p]at l;have dy:nW c=true->(i=0->low c=true)->NL s (i+1):=fun J U=>⟨Ω,fun k q=>by
   rcases(by omega:k<i\/k=i)with h|rfl
   ·exact o.2 k h
   ·rw[p];exact⟨J,U⟩⟩
  have hw:vn.wrap (c.toNat:Int)=c.toNat:=pt _ (by have:=c.toNat_lt;omega);simp[hi,e,aw];by_cases g:(97:Int)<=c.toNat
  ·by_cases n:(c.toNat:Int)<=122
   ·have j:low c=true:=by simp[low];omega
    (repeat' first|refine al ?_|refine aO (dS _ _ _) ?_|refine aP (dS _ _ _) ?_|simp[hi,e,aw,g,n]);exact bY.whl (i+1) Ω (dy (by simp[nW,j]) (fun _=>j)) b9
   ·have j:low c=false:=by simp[low];omega
    by_cases d:i=0
    ·rw[l (.inr ⟨d,j⟩)];have a:((i:Int)==0)=true:=by simp[d]
     (repeat' first|refine al ?_|refine aO (dS _ _ _) ?_|refine aP (dS _ _ _) ?_|simp[hi,e,aw,g,n,a,hw]);simp[bZ,ba,be,a1]
    ·have a:((i:Int)==0)=false:=by simp[d]
     by_cases b:(c.toNat:Int)=45
     ·have f:((c.toNat:Int) !=45)=false:=by simp[b]
      (repeat' first|refine al ?_|refine aO (dS _ _ _) ?_|refine aP (dS _ _ _) ?_|simp[hi,e,aw,g,n,a,hw,b,f]);all_goals exact bY.whl (i+1) Ω (dy (by simp[nW];omega) (fun h=>absurd h d)) b9
     ·have f:((c.toNat:Int) !=45)=true:=by simp[b]
      by_cases m:(48:Int)<=c.toNat/\(c.toNat:Int)<=57
      ·(repeat' first|refine al ?_|refine aO (dS _ _ _) ?_|refine aP (dS _ _ _) ?_|simp[hi,e,aw,g,n,a,hw,b,f,m]);all_goals exact bY.whl (i+1) Ω (dy (by simp[nW];omega) (fun h=>absurd h d)) b9
      ·rw[l (.inl (by simp[nW,j];omega))];(repeat' first|refine al ?_|refine aO (dS _ _ _) ?_|refine aP (dS _ _ _) ?_|simp[hi,e,aw,g,n,a,hw,b,f,m]);simp[bZ,ba,be,a1]
  ·have j:low c=false:=by simp[low];omega
   by_cases d:i=0
   ·rw[l (.inr ⟨d,j⟩)];have a:((i:Int)==0)=true:=by simp[d]
    (repeat' first|refine al ?_|refine aO (dS _ _ _) ?_|refine aP (dS _ _ _) ?_|simp[hi,e,aw,g,a,hw]);simp[bZ,ba,be,a1]
   ·have a:((i:Int)==0)=false:=by simp[d]
    by_cases b:(c.toNat:Int)=45
    ·have f:((c.toNat:Int) !=45)=false:=by simp[b]
     (repeat' first|refine al ?_|refine aO (dS _ _ _) ?_|refine aP (dS _ _ _) ?_|simp[hi,e,aw,g,a,hw,b,f]);all_goals exact bY.whl (i+1) Ω (dy (by simp[nW];omega) (fun h=>absurd h d)) b9
    ·have f:((c.toNat:Int) !=45)=true:=by simp[b]
     by_cases m:(48:Int)<=c.toNat/\(c.toNat:Int)<=57
     ·(repeat' first|refine al ?_|refine aO (dS _ _ _) ?_|refine aP (dS _ _ _) ?_|simp[hi,e,aw,g,a,hw,b,f,m]);all_goals exact bY.whl (i+1) Ω (dy (by simp[nW];omega) (fun h=>absurd h d)) b9
     ·rw[l (.inl (by simp[nW,j];omega))];(repeat' first|refine al ?_|refine aO (dS _ _ _) ?_|refine aP (dS _ _ _) ?_|simp[hi,e,aw,g,a,hw,b,f,m]);simp[bZ,ba,be,a1]
 ·have:i=s.length:=Ω
  subst this;rw[alI o]at bt;simp[hi];(repeat' first|refine al ?_|refine aO (dS _ _ _) ?_|refine aP (dS _ _ _) ?_|simp[hi]);simp[bZ,ba,be,a1];rw[<-bt,qZ];simp;omega
def wO:List Tm->Bool
 |[a,b]=>shp a&&shp b
 |_=>false
def aqT(k n:Int)(s:List cS)(args:List Tm):shp ⟨k,n,s,args⟩=if k≠1/\k≠3/\n≠0 then false else if k≠2/\s≠[]then false else if k≠4/\args≠[]then false else if k=0 then true else if k=1 then decide (0<=n/\n<=100000)else if k=2 then ks s else if k=3 then decide (-1000000000<=n/\n<=1000000000)else if k=4 then wO args else false:=by
 by_cases d:k=0
 ·subst d;match args with
  |[]=>by_cases h:n=0<;>by_cases c:s=[]<;>simp[shp,ml,h,c]
  |[a]=>simp[shp]
  |[a,b]=>simp[shp]
  |_::_::_::_=>simp[shp]
 by_cases i:k=1
 ·subst i;match args with
  |[]=>by_cases c:s=[]<;>simp[shp,ml,c]
  |[a]=>simp[shp]
  |[a,b]=>simp[shp]
  |_::_::_::_=>simp[shp]
 by_cases g:k=2
 ·subst g;match args with
  |[]=>by_cases h:n=0<;>simp[shp,ml,h]
  |[a]=>simp[shp]
  |[a,b]=>simp[shp]
  |_::_::_::_=>simp[shp]
 by_cases f:k=3
 ·subst f;match args with
  |[]=>by_cases c:s=[]<;>simp[shp,ml,c]
  |[a]=>simp[shp]
  |[a,b]=>simp[shp]
  |_::_::_::_=>simp[shp]
 by_cases e:k=4
 ·subst e;match args with
  |[]=>simp[shp,ml,wO]
  |[a]=>simp[shp,wO]
  |[a,b]=>by_cases h:n=0<;>by_cases c:s=[]<;>simp[shp,wO,h,c]
  |_::_::_::_=>simp[shp,wO]
 ·match args with
  |[]=>simp[shp,ml,d,i,g,f,e]
  |[a]=>simp[shp,d,i,g,f,e]
  |[a,b]=>simp[shp,d,i,g,f,e]
  |_::_::_::_=>simp[shp,d,i,g,f,e]
set_option maxRecDepth 8000 in
def asp(m:Nat):∀(t:Tm),t.sz<=m->bU au 124 [enc t] (.bool (shp t)):=by
 induction m with
 |zero=>intro t A;cases t;simp[Tm.sz]at A
 |succ m F=>
 rintro⟨k,n,s,args⟩ A;generalize bt:shp ⟨k,n,s,args⟩=R;have c:=aqT k n s args;rw[bt]at c;by_cases w:k≠1/\k≠3/\n≠0
 ·rw[if_pos w]at c;obtain⟨f,e,n0⟩:=w;have p:(k !=1)=true:=by simp[f]
  have o:(k !=3)=true:=by simp[e]
  have E:(n !=0)=true:=by simp[n0]
  subst c;refine bI a6 Tryz.func124 n9 fun d=>?_;unfold ng;simp[Tm.kind,Tm.num,Tm.name,Tm.args];(repeat' first|refine al ?_|refine aO (dS _ _ _) ?_|refine aP (dS _ _ _) ?_|refine aO (h0 _) ?_|refine aP (h0 _) ?_|simp[p,o,E]);all_goals simp[bZ,ba,be,a1]
 rw[if_neg w]at c;have v:(if k !=1 then k !=3 else false)=true->(n !=0)=false:=by intro h;simp at h⊢;exact Classical.byContradiction fun O=>w ⟨h.1,h.2,O⟩
 by_cases i:k≠2/\s≠[]
 ·rw[if_pos i]at c;have y:(k !=2)=true:=by simp[i.1]
  have B:s.isEmpty=false:=by simp[i.2]
  by_cases f:k=1
  ·subst f;subst c;refine bI a6 Tryz.func124 n9 fun d=>?_;unfold ng;simp[Tm.kind,Tm.num,Tm.name,Tm.args];(repeat' first|refine al ?_|refine aO (dS _ _ _) ?_|refine aP (dS _ _ _) ?_|refine aO (h0 _) ?_|refine aP (h0 _) ?_|simp[B]);all_goals simp[bZ,ba,be,a1]
  by_cases e:k=3
  ·subst e;subst c;refine bI a6 Tryz.func124 n9 fun d=>?_;unfold ng;simp[Tm.kind,Tm.num,Tm.name,Tm.args];(repeat' first|refine al ?_|refine aO (dS _ _ _) ?_|refine aP (dS _ _ _) ?_|refine aO (h0 _) ?_|refine aP (h0 _) ?_|simp[B]);all_goals simp[bZ,ba,be,a1]
  have p:(k !=1)=true:=by simp[f]
  have o:(k !=3)=true:=by simp[e]
  have E:(n !=0)=false:=v (by simp[f,e]);subst c;refine bI a6 Tryz.func124 n9 fun d=>?_;unfold ng;simp[Tm.kind,Tm.num,Tm.name,Tm.args];(repeat' first|refine al ?_|refine aO (dS _ _ _) ?_|refine aP (dS _ _ _) ?_|refine aO (h0 _) ?_|refine aP (h0 _) ?_|simp[p,o,E,y,B]);all_goals simp[bZ,ba,be,a1]
 rw[if_neg i]at c;by_cases z:k=0
 ·subst z;have n0:n=0:=by simpa using v (by decide)
  have s0:s=[]:=Classical.byContradiction fun h=>i ⟨Ω,h⟩;subst n0 s0;by_cases a0:args=[];rotate_left
  ·rw[if_pos ⟨Ω,a0⟩]at c;have g:(0:Int)<args.length:=by have:=List.length_pos_iff.2 a0;omega
   subst c;refine bI a6 Tryz.func124 n9 fun d=>?_;unfold ng;simp[Tm.kind,Tm.num,Tm.name,Tm.args];((repeat' first|refine al ?_|refine aO (dS _ _ _) ?_|refine aP (dS _ _ _) ?_|refine aO (h0 _) ?_|refine aP (h0 _) ?_|simp[Int.natCast_nonneg,g]|((first|apply ct|apply cz|apply cy)<;>intro h<;>try simp at h))<;>(try exact c3));all_goals simp[bZ,ba,be,a1]
  rw[if_neg (by simp[a0])]at c;subst a0;simp at c;subst c;refine bI a6 Tryz.func124 n9 fun d=>?_;unfold ng;simp[Tm.kind,Tm.num,Tm.name,Tm.args];(repeat' first|refine al ?_|refine aO (dS _ _ _) ?_|refine aP (dS _ _ _) ?_|refine aO (h0 _) ?_|refine aP (h0 _) ?_|simp[Int.natCast_nonneg]);all_goals simp[bZ,ba,be,a1]
 by_cases f:k=1
 ·subst f;have s0:s=[]:=Classical.byContradiction fun h=>i ⟨Ω,h⟩;subst s0;by_cases a0:args=[];rotate_left
  ·rw[if_pos ⟨Ω,a0⟩]at c;have g:(0:Int)<args.length:=by have:=List.length_pos_iff.2 a0;omega
   subst c;refine bI a6 Tryz.func124 n9 fun d=>?_;unfold ng;simp[Tm.kind,Tm.num,Tm.name,Tm.args];((repeat' first|refine al ?_|refine aO (dS _ _ _) ?_|refine aP (dS _ _ _) ?_|refine aO (h0 _) ?_|refine aP (h0 _) ?_|simp[Int.natCast_nonneg,g]|((first|apply ct|apply cz|apply cy)<;>intro h<;>try simp at h))<;>(try exact c3));all_goals simp[bZ,ba,be,a1]
  rw[if_neg (by simp[a0])]at c;subst a0;simp at c;subst c;refine bI a6 Tryz.func124 n9 fun d=>?_;unfold ng;simp[Tm.kind,Tm.num,Tm.name,Tm.args];(repeat' first|refine al ?_|refine aO (dS _ _ _) ?_|refine aP (dS _ _ _) ?_|refine aO (h0 _) ?_|refine aP (h0 _) ?_|simp[Int.natCast_nonneg]);all_goals simp[bZ,ba,be,a1]
 by_cases u:k=2
 ·subst u;have n0:n=0:=by simpa using v (by decide)
  subst n0;by_cases a0:args=[];rotate_left
  ·rw[if_pos ⟨Ω,a0⟩]at c;have g:(0:Int)<args.length:=by have:=List.length_pos_iff.2 a0;omega
   subst c;refine bI a6 Tryz.func124 n9 fun d=>?_;unfold ng;simp[Tm.kind,Tm.num,Tm.name,Tm.args];((repeat' first|refine al ?_|refine aO (dS _ _ _) ?_|refine aP (dS _ _ _) ?_|refine aO (h0 _) ?_|refine aP (h0 _) ?_|simp[Int.natCast_nonneg,g]|((first|apply ct|apply cz|apply cy)<;>intro h<;>try simp at h))<;>(try exact c3));all_goals simp[bZ,ba,be,a1]
  rw[if_neg (by simp[a0])]at c;subst a0;simp at c;subst c;refine bI a6 Tryz.func124 n9 fun d=>?_;unfold ng;simp[Tm.kind,Tm.num,Tm.name,Tm.args];(repeat' first|refine al ?_|refine aO (dS _ _ _) ?_|refine aP (dS _ _ _) ?_|refine aO (h0 _) ?_|refine aP (h0 _) ?_|simp[Int.natCast_nonneg]);all_goals simp[bZ,ba,be,a1]
 by_cases e:k=3
 ·subst e;have s0:s=[]:=Classical.byContradiction fun h=>i ⟨Ω,h⟩;subst s0;by_cases a0:args=[];rotate_left
  ·rw[if_pos ⟨Ω,a0⟩]at c;have g:(0:Int)<args.length:=by have:=List.length_pos_iff.2 a0;omega
   subst c;refine bI a6 Tryz.func124 n9 fun d=>?_;unfold ng;simp[Tm.kind,Tm.num,Tm.name,Tm.args];((repeat' first|refine al ?_|refine aO (dS _ _ _) ?_|refine aP (dS _ _ _) ?_|refine aO (h0 _) ?_|refine aP (h0 _) ?_|simp[Int.natCast_nonneg,g]|((first|apply ct|apply cz|apply cy)<;>intro h<;>try simp at h))<;>(try exact c3));all_goals simp[bZ,ba,be,a1]
  rw[if_neg (by simp[a0])]at c;subst a0;simp at c;subst c;refine bI a6 Tryz.func124 n9 fun d=>?_;unfold ng;simp[Tm.kind,Tm.num,Tm.name,Tm.args];(repeat' first|refine al ?_|refine aO (dS _ _ _) ?_|refine aP (dS _ _ _) ?_|refine aO (h0 _) ?_|refine aP (h0 _) ?_|simp[Int.natCast_nonneg]);all_goals simp[bZ,ba,be,a1]
 by_cases r:k=4
 ·subst r;have n0:n=0:=by simpa using v (by decide)
  have s0:s=[]:=Classical.byContradiction fun h=>i ⟨Ω,h⟩;subst n0 s0;simp at c;match args,c with
  |[a,b],c=>
   simp[Tm.sz,Tm.szL]at A;have j:=F a Ω;have x:=F b Ω;simp only[wO]at c;subst c;refine bI a6 Tryz.func124 n9 fun d=>?_;unfold ng;simp[Tm.kind,Tm.num,Tm.name,Tm.args];cases q:shp a with
   |true=>rw[q]at j;(repeat' first|refine al ?_|refine aO j ?_|refine aP j ?_|refine aO x ?_|refine aP x ?_|simp[Int.natCast_nonneg]);all_goals simp[bZ,ba,be,a1]
   |false=>rw[q]at j;(repeat' first|refine al ?_|refine aO j ?_|refine aP j ?_|refine aO x ?_|refine aP x ?_|simp[Int.natCast_nonneg]);all_goals simp[bZ,ba,be,a1]
  |[],c=>simp only[wO]at c;subst c;refine bI a6 Tryz.func124 n9 fun d=>?_;unfold ng;simp[Tm.kind,Tm.num,Tm.name,Tm.args];(repeat' first|refine al ?_|refine aO (dS _ _ _) ?_|refine aP (dS _ _ _) ?_|refine aO (h0 _) ?_|refine aP (h0 _) ?_|simp[Int.natCast_nonneg]);all_goals simp[bZ,ba,be,a1]
  |[_],c=>simp only[wO]at c;subst c;refine bI a6 Tryz.func124 n9 fun d=>?_;unfold ng;simp[Tm.kind,Tm.num,Tm.name,Tm.args];(repeat' first|refine al ?_|refine aO (dS _ _ _) ?_|refine aP (dS _ _ _) ?_|refine aO (h0 _) ?_|refine aP (h0 _) ?_|simp[Int.natCast_nonneg]);all_goals simp[bZ,ba,be,a1]
  |_::_::_::l,c=>
   simp only[wO]at c;have N:((l.length:Int)+1+1+1==2)=false:=by simp;omega
   subst c;refine bI a6 Tryz.func124 n9 fun d=>?_;unfold ng;simp[Tm.kind,Tm.num,Tm.name,Tm.args];(repeat' first|refine al ?_|refine aO (dS _ _ _) ?_|refine aP (dS _ _ _) ?_|refine aO (h0 _) ?_|refine aP (h0 _) ?_|simp[N]);all_goals simp[bZ,ba,be,a1]
 have n0:(n !=0)=false:=v (by simp[f,e]);have s0:s=[]:=Classical.byContradiction fun h=>i ⟨u,h⟩;subst s0;have M:(k==0)=false:=by simp[z]
 have p:(k==1)=false:=by simp[f]
 have y:(k==2)=false:=by simp[u]
 have o:(k==3)=false:=by simp[e]
 have H:(k==4)=false:=by simp[r]
 have L:(k !=1)=true:=by simp[f]
 have K:(k !=2)=true:=by simp[u]
 have J:(k !=3)=true:=by simp[e]
 have G:(k !=4)=true:=by simp[r]
 by_cases a0:args=[]
 ·subst a0;simp[z,f,u,e,r]at c;subst c;refine bI a6 Tryz.func124 n9 fun d=>?_;unfold ng;simp[Tm.kind,Tm.num,Tm.name,Tm.args];(repeat' first|refine al ?_|refine aO (dS _ _ _) ?_|refine aP (dS _ _ _) ?_|refine aO (h0 _) ?_|refine aP (h0 _) ?_|simp[M,p,y,o,H,L,K,J,G,n0]);all_goals simp[bZ,ba,be,a1]
 ·rw[if_pos ⟨r,a0⟩]at c;have g:(0:Int)<args.length:=by have:=List.length_pos_iff.2 a0;omega
  subst c;refine bI a6 Tryz.func124 n9 fun d=>?_;unfold ng;simp[Tm.kind,Tm.num,Tm.name,Tm.args];((repeat' first|refine al ?_|refine aO (dS _ _ _) ?_|refine aP (dS _ _ _) ?_|refine aO (h0 _) ?_|refine aP (h0 _) ?_|simp[g,M,p,y,o,H,L,K,J,G,n0]|((first|apply ct|apply cz|apply cy)<;>intro h<;>try simp at h))<;>(try exact c3));all_goals simp[bZ,ba,be,a1]
def C0(t:Tm):bU au 56 [enc t] (.bool t.fits):=by
 rw[ain];have aw:=acE t 5000 Ω Ω;have a:=asp t.sz t (dO _);refine bI a6 Tryz.func56 aoM fun b=>?_;unfold Tw;simp;by_cases q:mz t 5000<=5000
 ·exact cr
 ·exact cr
def Tt:C:=(aa [bz 2 false] (.seq (aa [I 5 0,cw 6 5,bP 7 0] (gw 8 7 6 (.seq (.block 1 (aa [I 9 7,ck 10 2 5 7,bk 11 2 10,dt (.alloc 4 none (.agg [.int .i64 0,.int .i64 0])),I 3 9,bV 2 4 11] (.seq (.drawn true 42 [I 12 3,aV 13 .gtr 12 0,I 14 13,cg 14 true 15 0,cg 14 true 16 3,ax 14 true (aV 17 .sub 16 1),ax 14 true (ck 18 2 15 17),ax 14 true (aF 19 0 1 18),ax 14 true (ay 20 1 19),ax 14 true (aF 21 0 1 4),ax 14 true (ay 22 1 21),ax 14 true (bu 23 .geq 20 22),eg 24 14 23,I 25 24,ax 25 false (aF 26 0 1 4),ax 25 false (ay 27 1 26),ax 25 false (dT 28 75 [.t 27,(gX 0),(gX 100000)]),ax 25 false (cO 29 28),ds 30 25 29,I 31 30,ax 31 false (aF 32 1 1 4),ax 31 false (ay 33 1 32),ax 31 false (aV 34 .neq 33 2),cg 31 false 35 34,ax 35 true (aF 36 1 1 4),ax 35 true (ay 37 1 36),ax 35 true (aV 38 .neq 37 3),ax 31 false (eg 39 35 38),ds 40 31 39]) (aW 40 (aa [bz 2 false] .ret) .skip)))) (.region [aV 41 .add 7 1,I 7 41])))) (aa [bz 2 true] .ret)))
def Tu:C:=(aa [bz 2 false] (.seq (aa [I 5 0,cw 6 5,bP 7 0] (gw 8 7 6 (.seq (.block 1 (aa [I 9 7,ck 10 2 5 7,bk 11 2 10,dt (.alloc 4 none (.agg [.int .i64 0,.str []])),I 3 9,bV 2 4 11] (.seq (.drawn true 37 [I 12 3,aV 13 .gtr 12 0,I 14 13,cg 14 true 15 0,cg 14 true 16 3,ax 14 true (aV 17 .sub 16 1),ax 14 true (ck 18 2 15 17),ax 14 true (bk 19 2 18),ax 14 true (bk 20 2 4),ax 14 true (cb 21 147 19 20),ax 14 true (cO 22 21),eg 23 14 22,I 24 23,ax 24 false (aF 25 0 1 4),ax 24 false (ay 26 1 25),ax 24 false (dT 27 75 [.t 26,(gX 0),(gX 100000)]),ax 24 false (cO 28 27),ds 29 24 28,I 30 29,ax 30 false (aF 31 1 1 4),ax 30 false (ay 32 1 31),ax 30 false (c0 33 119 32),ax 30 false (cO 34 33),ds 35 30 34]) (aW 35 (aa [bz 2 false] .ret) .skip)))) (.region [aV 36 .add 7 1,I 7 36])))) (aa [bz 2 true] .ret)))
def GR:C:=(aa [cZ 2 0,cZ 3 1,bz 4 false] (aa [aF 5 0 1 2,ay 6 1 5,aF 7 0 1 3,ay 8 1 7,bu 9 .lss 6 8,I 10 9,ax 10 false (aF 11 0 1 2),ax 10 false (ay 12 1 11),ax 10 false (aF 13 0 1 3),ax 10 false (ay 14 1 13),ax 10 false (bu 15 .eql 12 14),cg 10 false 16 15,ax 16 true (aF 17 1 1 2),ax 16 true (ay 18 1 17),ax 16 true (aF 19 1 1 3),ax 16 true (ay 20 1 19),ax 16 true (bu 21 .lss 18 20),ax 10 false (eg 22 16 21),ds 23 10 22,I 4 23] .ret))
def TS:C:=(aa [fw 4 2,bz 5 false] (aa [fe 10 2 98 [],I 6 10] (aa [bz 7 true] (.seq (.seq (.fg false 6 (.region [I 11 1,cw 12 11,bP 13 0])) (gw 14 13 12 (.seq (.block 1 (aa [ck 15 2 11 13,bk 16 2 15,dt (.alloc 9 none (.agg [.int .i64 0,.int .i64 0])),bV 2 9 16] (.seq (.drawn true 33 [I 18 6,I 19 0,aF 20 0 1 9,ay 21 1 20,c0 22 114 21,cb 23 201 19 22,aF 24 1 1 9,ay 25 1 24,dT 26 151 [.t 18,.t 23,.t 25],I 17 26,cV 27 0 17,cV 28 1 17,I 6 27,I 7 28]) (aa [I 29 7,cO 30 29] (aW 30 (aa [fw 4 2,bz 5 false] .ret) .skip))))) (.region [aV 31 .add 13 1,I 13 31])))) (aa [I 32 6,I 4 32,bz 5 true] .ret)))))
def TT:C:=(aa [fw 4 2,bz 5 false] (aa [fe 10 2 100 [],I 6 10] (aa [bz 7 true] (.seq (.seq (.fg false 6 (.region [I 11 1,cw 12 11,bP 13 0])) (gw 14 13 12 (.seq (.block 1 (aa [ck 15 2 11 13,bk 16 2 15,dt (.alloc 9 none (.agg [.int .i64 0,.str []])),bV 2 9 16] (.seq (.drawn true 33 [I 18 6,I 19 0,aF 20 0 1 9,ay 21 1 20,c0 22 114 21,cb 23 201 19 22,aF 24 1 1 9,ay 25 1 24,dT 26 181 [.t 18,.t 23,.t 25],I 17 26,cV 27 0 17,cV 28 1 17,I 6 27,I 7 28]) (aa [I 29 7,cO 30 29] (aW 30 (aa [fw 4 2,bz 5 false] .ret) .skip))))) (.region [aV 31 .add 13 1,I 13 31])))) (aa [I 32 6,I 4 32,bz 5 true] .ret)))))
def AT:C:=(aa [cZ 4 1,fw 6 2,bz 7 false] (.seq (aa [aF 10 0 1 4,ay 11 1 10,aV 12 .neq 11 1] (aW 12 (.seq (.drawn true 73 [I 13 0,aF 14 0 1 4,ay 15 1 14,I 16 2,bu 17 .eql 15 16,I 6 13,I 7 17]) .ret) .skip)) (aa [bP 8 0] (.seq (.block 0 (.loop (.seq (.seq (.drawn true 73 [I 18 8,I 19 0,cw 20 19,bu 21 .lss 18 20,I 22 21,cg 22 true 23 0,cg 22 true 24 8,ax 22 true (ck 25 2 23 24),ax 22 true (aF 26 0 1 25),ax 22 true (ay 27 1 26),ax 22 true (aF 28 1 1 4),ax 22 true (ay 29 1 28),ax 22 true (bu 30 .lss 27 29),eg 31 22 30]) (aW 31 .skip (.exit 0))) (.block 1 (.region [I 32 8,aV 33 .add 32 1,I 8 33]))))) (.seq (.seq (.drawn true 73 [I 34 8,I 35 0,cw 36 35,bu 37 .lss 34 36,I 38 37,cg 38 true 39 0,cg 38 true 40 8,ax 38 true (ck 41 2 39 40),ax 38 true (aF 42 0 1 41),ax 38 true (ay 43 1 42),ax 38 true (aF 44 1 1 4),ax 38 true (ay 45 1 44),ax 38 true (bu 46 .eql 43 45),eg 47 38 46]) (aW 47 (.seq (.drawn true 73 [I 48 0,I 49 0,I 50 8,ck 51 2 49 50,aF 52 1 1 51,ay 53 1 52,I 54 2,bu 55 .eql 53 54,I 6 48,I 7 55]) .ret) .skip)) (aa [fe 56 2 98 [],I 57 0,I 58 8,cd 59 (.lsl 2 (.t 57) none (some (.t 58))),h1 60 2 98 56 59,I 9 60] (aa [I 61 9,aF 62 1 1 4,ay 63 1 62,I 64 2,cd 65 (.build [.int .i64 0,.int .i64 0] [(0,1,(.t 63)),(1,1,(.t 64))]),fe 66 2 98 [.t 65],h1 67 2 98 61 66,I 9 67] (aa [I 68 9,I 69 0,I 70 8,cd 71 (.lsl 2 (.t 69) (some (.t 70)) none),h1 72 2 98 68 71,I 6 72,bz 7 true] .ret))))))))
def Ls:C:=(aa [cZ 4 1,fw 6 2,bz 7 false] (.seq (aa [bk 13 4 4,I 14 2,cb 15 210 13 14] (aW 15 (aa [fw 6 2,bz 7 false] .ret) .skip)) (.seq (aa [bk 16 4 4,dT 17 58 [.t 16,(.c (.slice 1 .nil []))],cw 18 17,bP 19 0] (gw 20 19 18 (.seq (.block 1 (aa [ck 21 1 17 19,ay 22 1 21,I 9 22] (aa [I 23 9,I 24 2,cd 25 (.build [.int .i64 0,.str []] [(0,1,(.t 23)),(1,1,(.t 24))]),dt (.alloc 10 none (.agg [.int .i64 0,.str []])),bV 2 10 25] (aa [bP 11 0] (.seq (.block 2 (.loop (.seq (.seq (.drawn true 68 [I 26 11,I 27 0,cw 28 27,bu 29 .lss 26 28,I 30 29,cg 30 true 31 0,cg 30 true 32 11,ax 30 true (ck 33 2 31 32),ax 30 true (bk 34 2 33),ax 30 true (bk 35 2 10),ax 30 true (cb 36 147 34 35),eg 37 30 36]) (aW 37 .skip (.exit 2))) (.block 3 (.region [I 38 11,aV 39 .add 38 1,I 11 39]))))) (.seq (.drawn true 68 [I 40 11,I 41 0,cw 42 41,bu 43 .eql 40 42,I 44 43,ax 44 false (bk 45 2 10),cg 44 false 46 0,cg 44 false 47 11,ax 44 false (ck 48 2 46 47),ax 44 false (bk 49 2 48),ax 44 false (cb 50 147 45 49),ds 51 44 50]) (aW 51 (aa [fe 52 2 100 [],I 53 0,I 54 11,cd 55 (.lsl 2 (.t 53) none (some (.t 54))),h1 56 2 100 52 55,I 12 56] (aa [I 57 12,bk 58 2 10,fe 59 2 100 [.t 58],h1 60 2 100 57 59,I 12 60] (.region [I 61 12,I 62 0,I 63 11,cd 64 (.lsl 2 (.t 62) (some (.t 63)) none),h1 65 2 100 61 64,I 0 65]))) .skip))))))) (.fg false 0 (.region [aV 66 .add 19 1,I 19 66]))))) (aa [I 67 0,I 6 67,bz 7 true] .ret))))
def AS:C:=(aa [cZ 2 0,bz 4 false] (.seq (aa [aF 7 3 1 2,ay 8 1 7,cw 9 8,bP 10 0] (gw 11 10 9 (.seq (.block 1 (aa [ck 12 4 8 10,bk 13 4 12,dI 6 eB,bV 4 6 13] (aa [bk 14 4 6,I 15 1,cb 16 210 14 15] (aW 16 (aa [bz 4 true] .ret) .skip)))) (.region [aV 17 .add 10 1,I 10 17])))) (aa [aF 18 0 1 2,ay 19 1 18,aV 20 .eql 19 2,I 21 20,ax 21 true (aF 22 2 1 2),ax 21 true (ay 23 1 22),cg 21 true 24 1,ax 21 true (bu 25 .eql 23 24),eg 26 21 25,I 4 26] .ret)))
def aoJ:b4 aT Tt [.tmp 2] 1 Tryz.f78=true:=bi
def aoK:b4 aT Tu [.tmp 2] 1 Tryz.f79=true:=bi
def Pb:b4 aT GR [.tmp 4] 2 Tryz.f147=true:=bi
def ao8:b4 aT TS [.tmp 4,.tmp 5] 2 Tryz.f149=true:=bi
def ao9:b4 aT TT [.tmp 4,.tmp 5] 2 Tryz.f150=true:=bi
def Fb:b4 aT AT [.tmp 6,.tmp 7] 3 Tryz.f151=true:=bi
def ZD:b4 aT Ls [.tmp 6,.tmp 7] 3 Tryz.f181=true:=bi
def Fa:b4 aT AS [.tmp 4] 2 Tryz.f210=true:=bi
open Classical in
def asV(l:List bH):bU au 78 [b6 (l.map bH.e)] (.bool (decide (jx l))):=by
 generalize bt:decide (jx l)=R;refine bI a6 Tryz.func78 aoJ fun A=>?_;unfold Tt;have E:l.length<=68719476736:=by simp[eM,eV,eN,lim]at A;omega
 simp;refine eZ [0,5,6] (fun i (_:Unit)=>[(7,aj i)]) l.length (fun i _=> ∀j,j<i->jf nx oH l j) () b9 (fun k G=>Ω) (fun _ s _=>?_) (fun i _ hi s _=>?_)
 ·have:R=true:=by rw[<-bt,gy,Im];exact s
  rw[this];exact cr
 ·obtain⟨b,m⟩:∃b,l[i]? =some b:=⟨_,cl hi⟩;obtain⟨c,aw⟩:∃c,l[i-1]? =some c:=⟨_,cl Ω⟩;have d:∀h,(l[i]'h)=b:=fun h=>by rw[cl hi]at m;exact e6 m
  have q:¬jf nx oH l i->R=false:=fun h=>by rw[<-bt,iO];exact fun x=>h (Im.1 x i hi)
  have dy:jf nx oH l i->∀j,j<i+1->jf nx oH l j:=fun h j B=>by
   by_cases e:j=i
   ·rw[e];exact h
   ·exact s j Ω
  have p:jf nx oH l i->nx b:=fun h=>(h b m).1;have y:jf nx oH l i->0<i->c.v<b.v:=fun h a=>(h b m).2 c a aw;have u:nx b->(0<i->c.v<b.v)->jf nx oH l i:=fun J U b2 v=>by rw[m]at v;cases v;exact⟨J,fun F a t=>by rw[aw]at t;cases t;exact U a⟩
  unfold nx at p u;by_cases g0:0<i/\¬c.v<b.v
  ·rw[q (fun h=>g0.2 (y h g0.1))];have z:=g0.1;have g:b.v<=c.v:=Ω
   exact cr
  have n:(decide (0<i)&&decide (b.v<=c.v))=false:=by simp;intro h;by_cases w:c.v<b.v;exact w;exact absurd ⟨h,w⟩ g0
  by_cases g1:0<=b.v/\b.v<=100000;rotate_left
  ·rw[q (fun h=>g1 (p h).1)];have f:decide (0<=b.v/\b.v<=100000)=false:=by simp only[iO];exact g1
   by_cases a:0<i
   ·have g:¬b.v<=c.v:=by simp[a]at n;omega
    simp[hi,d,aw];(repeat' first|refine al ?_|refine aO (dS _ _ _) ?_|refine aP (dS _ _ _) ?_|simp[d,aw,hi,a,g,f,g1]);all_goals simp[bZ,ba,be,a1]
   ·obtain rfl:i=0:=Ω
    simp[hi,d,aw];(repeat' first|refine al ?_|refine aO (dS _ _ _) ?_|refine aP (dS _ _ _) ?_|simp[d,aw,hi,f,g1]);all_goals simp[bZ,ba,be,a1]
  have f:decide (0<=b.v/\b.v<=100000)=true:=by simp only[gy];exact g1
  by_cases g2:b.k=2\/b.k=3;rotate_left
  ·rw[q (fun h=>g2 (p h).2)];have g21:(b.k !=2)=true:=by simp;omega
   have g22:(b.k !=3)=true:=by simp;omega
   by_cases a:0<i
   ·have g:¬b.v<=c.v:=by simp[a]at n;omega
    simp[hi,d,aw];(repeat' first|refine al ?_|refine aO (dS _ _ _) ?_|refine aP (dS _ _ _) ?_|simp[d,aw,hi,a,g,f,g1,g21,g22]);all_goals simp[bZ,ba,be,a1]
   ·obtain rfl:i=0:=Ω
    simp[hi,d,aw];(repeat' first|refine al ?_|refine aO (dS _ _ _) ?_|refine aP (dS _ _ _) ?_|simp[d,aw,hi,f,g1,g21,g22]);all_goals simp[bZ,ba,be,a1]
  have o:=dy (u ⟨g1,g2⟩ fun a=>by simp[a]at n;omega);have r:((b.k !=2)=false)\/((b.k !=2)=true/\(b.k !=3)=false):=by
   rcases g2 with h|h
   ·left;simp[h]
   ·right;simp[h]
  rcases r with g21|⟨g21,g22⟩
  ·by_cases a:0<i
   ·have g:¬b.v<=c.v:=by simp[a]at n;omega
    simp[hi,d,aw];(repeat' first|refine al ?_|refine aO (dS _ _ _) ?_|refine aP (dS _ _ _) ?_|simp[d,aw,hi,a,g,f,g1,g21]);all_goals exact bY.rng () hi o b9
   ·obtain rfl:i=0:=Ω
    simp[hi,d,aw];(repeat' first|refine al ?_|refine aO (dS _ _ _) ?_|refine aP (dS _ _ _) ?_|simp[d,aw,hi,f,g1,g21]);all_goals exact bY.rng () hi o b9
  ·by_cases a:0<i
   ·have g:¬b.v<=c.v:=by simp[a]at n;omega
    simp[hi,d,aw];(repeat' first|refine al ?_|refine aO (dS _ _ _) ?_|refine aP (dS _ _ _) ?_|simp[d,aw,hi,a,g,f,g1,g21,g22]);all_goals exact bY.rng () hi o b9
   ·obtain rfl:i=0:=Ω
    simp[hi,d,aw];(repeat' first|refine al ?_|refine aO (dS _ _ _) ?_|refine aP (dS _ _ _) ?_|simp[d,aw,hi,f,g1,g21,g22]);all_goals exact bY.rng () hi o b9
def mU(a b:bo):bU au 147 [a.e,b.e] (.bool (iL gd a b)):=by
 rw[<-YV];have bt:u5 a b=(decide (a.v<b.v)||(a.v==b.v&&iu a.s b.s)):=rfl;rcases Int.lt_trichotomy a.v b.v with h|h|h
 ·have:u5 a b=true:=by rw[bt];simp[h]
  rw[this];refine bI a6 Tryz.func147 Pb fun c=>?_;unfold GR;exact cr
 ·have J:¬a.v<b.v:=Ω
  have U:(a.v==b.v)=true:=by simp[h]
  have:u5 a b=iu a.s b.s:=by rw[bt];simp[h]
  rw[this];refine bI a6 Tryz.func147 Pb fun c=>?_;unfold GR;exact cr
 ·have J:¬a.v<b.v:=Ω
  have U:¬a.v=b.v:=Ω
  have d:(a.v==b.v)=false:=by simp[U]
  have:u5 a b=false:=by rw[bt];simp[J,U]
  rw[this];refine bI a6 Tryz.func147 Pb fun c=>?_;unfold GR;exact cr
def Xo(l:List Bt)(i:Nat)(_:Unit):Prop:= ∀j,j<i->Ci l j
open Classical in
def ast(l:List Bt):bU au 145 [bL (l.map Bt.e)] (.bool (decide (AF l))):=by
 generalize bt:decide (AF l)=R;refine bI a6 Tryz.func145 ao0 fun r=>?_;unfold TK;have t:l.length<=68719476736:=by simp[eM,eV,eN,lim]at r;omega
 simp;refine eZ [0,5,6] (fun i (_:Unit)=>[(7,aj i)]) l.length (Xo l) () b9 (fun k w=>Ω) (fun _ f _=>?_) (fun i _ hi f _=>?_)
 ·have:R=decide (l.length<=400):=by rw[<-bt,decide_eq_decide];exact⟨fun h=>h.1,fun h=>⟨h,fun j g=>f j g⟩⟩
  rw[this];simp;(repeat' first|refine al ?_|simp);simp[bZ,ba,be,a1];all_goals(first|done|omega|(simp;done)|(simp;omega))
 ·obtain⟨b,a⟩:∃b,l[i]? =some b:=⟨_,cl hi⟩;obtain⟨c,aw⟩:∃c,l[i-1]? =some c:=⟨_,cl Ω⟩;have n:∀h,(l[i]'h)=b:=fun h=>by rw[cl hi]at a;exact e6 a
  have p:¬Ci l i->R=false:=fun h=>by rw[<-bt,iO];exact fun d=>h (d.2 i hi)
  have dy:Ci l i->Xo l (i+1) ():=fun h j g=>by
   by_cases e:j=i
   ·rw[e];exact h
   ·exact f j Ω
  simp[hi,n,aw];((repeat' first|refine al ?_|refine aO (dS _ _ _) ?_|refine aP (dS _ _ _) ?_|refine aO (C0 _) ?_|refine aP (C0 _) ?_|simp[n,aw,hi]|((first|apply ct|apply cz|apply cy)<;>intro h<;>try simp at h))<;>(try exact c3));all_goals first
   |(have s:¬Ci l i:=by(intro d;have J:=d b a;have U:=J.2.1 c;have q:=J.2.2;first|omega|(have x:=U Ω aw;omega)|(rw[q]at h;cases h)|(simp_all;done)|(simp_all;omega))
     rw[p s]
     simp[bZ,ba,be,a1]
     done)
   |(refine bY.rng () hi (dy fun b2 o=>?_) ?_
     ·rw[a]at o;cases o
      refine⟨?_,fun u v m=>?_,?_⟩
      ·omega
      ·rw[aw]at m;cases m;omega
      ·first|assumption|simp_all
     ·exact b9)
def nY(n:Int):List Int->List Int
 |[]=>[n]
 |c::l=>if c<n then c::nY n l else if c=n then c::l else n::c::l
def vp(l:List Int):Prop:=l.Pairwise (· < ·)
def Xf(n:Int):∀(l:List Int) (k:Nat),(∀i c,i<k->l[i]? =some c->c<n)->(∀c,l[k]? =some c->n<=c)->k<=l.length->nY n l=if l[k]? =some n then l else l.take k++n::l.drop k
 |[],k,_,_,a=>by simp at a;subst a;rfl
 |c::l,0,_,U,_=>by
  have:=U c rfl;by_cases e:c=n
  ·simp[nY,e]
  ·have g:¬c<n:=Ω
   simp[nY,g,e]
 |c::l,k+1,J,U,a=>by have f:=J 0 c Ω rfl;simp only[nY,if_pos f,List.take_succ_cons,List.drop_succ_cons,b7,List.getElem?_cons_succ];rw[Xf n l k (fun i d hi b=>J (i+1) d Ω (by simpa using b)) (fun d b=>U d (by simpa using b)) (by simpa using a)];split<;>rfl
def Ou{n m:Int}:∀{l:List Int},m∈nY n l↔m=n\/m∈l
 |[]=>by simp[nY]
 |c::l=>by
  simp only[nY];split
  ·simp only[gI,Ou (l:=l)];constructor
   ·rintro(h|h|h)
    ·exact .inr (.inl h)
    ·exact .inl h
    ·exact .inr (.inr h)
   ·rintro(h|h|h)
    ·exact .inr (.inl h)
    ·exact .inl h
    ·exact .inr (.inr h)
  ·split
   ·rename_i h;subst h;simp
   ·simp
def Xe{n:Int}:∀{l:List Int},vp l->vp (nY n l)
 |[],_=>by simp[nY,vp]
 |c::l,h=>by
  obtain⟨J,U⟩:=og.1 h;simp only[nY];split
  ·rename_i a;refine og.2 ⟨fun m hm=>?_,Xe U⟩;rcases Ou.1 hm with rfl|hm
   ·exact a
   ·exact J m hm
  ·split
   ·exact h
   ·refine og.2 ⟨fun m hm=>?_,h⟩;rcases gI.1 hm with rfl|hm
    ·omega
    ·have:=J m hm;omega
def Xg(n:Int):∀l:List Int,(nY n l).length<=l.length+1
 |[]=>by simp[nY]
 |c::l=>by
  have:=Xg n l;simp only[nY];split
  ·simp;omega
  ·split<;>simp
def Ez(l:List Int)(i:Nat):(e2 l)[i]? =(l[i]?).map (af.int .i64):=by simp[e2]
def fM(l:List Int):(e2 l).length=l.length:=by simp[e2]
def Am:∀l:List Int,cf (e2 l)=e2 l
 |[]=>by simp[e2,cf]
 |a::l=>by have:=Am l;simp only[e2,gY,cf,b5]at this⊢;rw[this]
def Ib(l:List Int)(n:Int)(k:Nat):cf (mW k (e2 l)++af.int .i64 n::oV k (mW l.length (e2 l)))=e2 (mW k l++n::oV k l):=by
 have e:mW l.length (e2 l)=e2 l:=iv (by simp[e2]);have a:mW k (e2 l)++af.int .i64 n::oV k (e2 l)=e2 (mW k l++n::oV k l):=by simp only[e2,List.map_append,gY,List.map_take,List.map_drop]
 rw[e,a];exact Am _
def aso(l:List Int)(n:Int)(K:l.length<=1000000)(F:vp l):bU au 126 [cX (e2 l),aj n] (cX (e2 (nY n l))):=by
 refine bI a6 Tryz.func126 aoQ fun L=>?_;unfold TA;simp;refine xb [0,1] (fun(k:Nat)=>[(5,aj k)]) (fun k=>k) (fun k=>k<=l.length/\∀c,l[k]? =some c->n<=c) l.length b9 ⟨Ω,fun c h=>by simp at h⟩ (fun k v _=>?_);obtain⟨G,v⟩:=v;have B:(∀c,0<k->l[k-1]? =some c->c<n)->nY n l=if l[k]? =some n then l else l.take k++n::l.drop k:=fun h=>Xf n l k (fun i c hi aw=>by
  obtain⟨d,f⟩:∃d,l[k-1]? =some d:=⟨_,cl Ω⟩;have J:=h d Ω f;rcases Nat.lt_or_ge i (k-1)with U|U
  ·have w:=(fH.1 aw);have x:=(fH.1 f);have:=q2.1 F i (k-1) w.1 x.1 U;rw[w.2,x.2]at this;omega
  ·have:i=k-1:=Ω
   subst this;rw[f]at aw;cases aw;exact J) v G
 have y:∀c,l[k]? =some c->∀h,((e2 l)[k]'h)=aj c:=fun c h u=>by have:=Ez l k;rw[h,cl u]at this;exact e6 this
 have z:(0<k->∃d,l[k-1]? =some d/\d<n)->∀P:Prop,(nY n l=(if l[k]? =some n then l else l.take k++n::l.drop k)->P)->P:=fun h P H=>H (B fun c A aw=>by obtain⟨d,f,J⟩:=h A;rw[f]at aw;cases aw;exact J)
 rcases Nat.eq_zero_or_pos k with A|m
 ·have s:decide ((0:Int)<k)=false:=by simp;omega
  refine z (fun h=>Ω) _ fun e=>?_;by_cases a:k<l.length
  ·obtain⟨c,aw⟩:∃c,l[k]? =some c:=⟨_,cl a⟩;have t:=y c aw;rw[aw]at e;by_cases q:c=n
   ·have r:(c==n)=true:=by simp[q]
    rw[if_pos (by rw[q])]at e;rw[e];simp[s,a];((repeat' first|refine al ?_|simp[s,a,t,r]|((first|apply ct|apply cz|apply cy)<;>intro h<;>try simp at h))<;>(try exact c3));all_goals simp[bZ,ba,be,a1]
   ·have r:(c==n)=false:=by simp[q]
    rw[if_neg (by simp[q])]at e;rw[e];simp[s,a];((repeat' first|refine al ?_|simp[s,a,t,r]|((first|apply ct|apply cz|apply cy)<;>intro h<;>try simp at h))<;>(try exact c3));all_goals simp[bZ,ba,be,a1]
    all_goals exact Ib l n k
  ·rw[q0 Ω]at e;simp only[reduceCtorEq,if_false]at e;rw[e];simp[s,a];((repeat' first|refine al ?_|simp[s,a]|((first|apply ct|apply cz|apply cy)<;>intro h<;>try simp at h))<;>(try exact c3));all_goals simp[bZ,ba,be,a1]
   all_goals exact Ib l n k
 ·obtain⟨d,f⟩:∃d,l[k-1]? =some d:=⟨_,cl Ω⟩;have o:((k:Int)-1).toNat=k-1:=Ω
  have p:∀h,((e2 l)[k-1]'h)=aj d:=fun u=>by have:=Ez l (k-1);rw[f,cl u]at this;exact e6 this
  have j:(0:Int)<k:=Ω
  have g:k-1<l.length:=Ω
  by_cases b:n<=d
  ·simp[m,j,o,p,b,g];(repeat' first|refine al ?_|simp[m,j,o,p,b,g]);refine bY.whl (k-1) Ω ⟨Ω,fun c aw=>by rw[f]at aw;cases aw;exact b⟩ ?_;have E:((k-1:Nat):Int)=(k:Int)-1:=Ω
   simp[E];exact b9
  ·refine z (fun _=>⟨d,f,Ω⟩) _ fun e=>?_;by_cases a:k<l.length
   ·obtain⟨c,aw⟩:∃c,l[k]? =some c:=⟨_,cl a⟩;have t:=y c aw;rw[aw]at e;by_cases q:c=n
    ·have r:(c==n)=true:=by simp[q]
     rw[if_pos (by rw[q])]at e;rw[e];simp[m,j,o,p,b,g,a];((repeat' first|refine al ?_|simp[m,j,o,p,b,g,a,t,r]|((first|apply ct|apply cz|apply cy)<;>intro h<;>try simp at h))<;>(try exact c3));all_goals simp[bZ,ba,be,a1]
    ·have r:(c==n)=false:=by simp[q]
     rw[if_neg (by simp[q])]at e;rw[e];simp[m,j,o,p,b,g,a];(repeat' first|refine al ?_|simp[m,j,o,p,b,g,a,t,r]);all_goals simp[bZ,ba,be,a1]
     all_goals exact Ib l n k
   ·rw[q0 Ω]at e;simp only[reduceCtorEq,if_false]at e;rw[e];simp[m,j,o,p,b,g,a];(repeat' first|refine al ?_|simp[m,j,o,p,b,g,a]);all_goals simp[bZ,ba,be,a1]
    all_goals exact Ib l n k
def jy:T->List Int->List Int
 | .var n,l=>nY n l
 | .pair a b,l=>jy b (jy a l)
 |_,l=>l
def QZ:∀(t:T) {l:List Int},vp l->vp (jy t l)
 | .var _,_,h=>Xe h
 | .pair a b,_,h=>QZ b (QZ a h)
 | .nil,_,h=>h
 | .sym _,_,h=>h
 | .num _,_,h=>h
def IK{m:Int}:∀(t:T) {l:List Int},m∈jy t l↔t.occ m=true\/m∈l
 | .var n,l=>by simp only[jy,Ou,T.occ,ey];constructor<;>rintro(h|h)<;>first|exact .inr h|exact .inl h.symm
 | .pair a b,l=>by
  simp only[jy,IK b,IK a,T.occ,oe];constructor
  ·rintro(h|h|h)
   ·exact .inl (.inr h)
   ·exact .inl (.inl h)
   ·exact .inr h
  ·rintro((h|h)|h)
   ·exact .inr (.inl h)
   ·exact .inl h
   ·exact .inr (.inr h)
 | .nil,l=>by simp[jy,T.occ]
 | .sym _,l=>by simp[jy,T.occ]
 | .num _,l=>by simp[jy,T.occ]
def F3:∀(t:T) (l:List Int),(jy t l).length<=l.length+t.size
 | .var n,l=>by have:=Xg n l;simp only[jy,T.size];omega
 | .pair a b,l=>by have J:=F3 a l;have U:=F3 b (jy a l);simp only[jy,T.size];omega
 | .nil,l=>by simp[jy]
 | .sym _,l=>by simp[jy]
 | .num _,l=>by simp[jy]
def Kb:∀(t:T) (l:List Int),l.length+t.size<=1000000->vp l->bU au 58 [t.e,cX (e2 l)] (cX (e2 (jy t l)))
 | .var n,l,d,c=>by
  simp only[T.size]at d;have key:=aso l n Ω c;refine bI a6 Tryz.func58 E9 fun e=>?_;unfold AR;simp;(repeat' first|refine al ?_|refine aO key ?_|refine aP key ?_|simp);all_goals simp[bZ,ba,be,a1]
  all_goals simp[jy,Am]
 | .pair a b,l,d,c=>by
  simp only[T.size]at d;have j:=F3 a l;have g:=Kb a l Ω c;have f:=Kb b (jy a l) Ω (QZ a c);refine bI a6 Tryz.func58 E9 fun e=>?_;unfold AR;simp;refine eZ [15,16] (fun i (_:Unit)=>[(1,cX (e2 (if i=0 then l else if i=1 then jy a l else jy b (jy a l)))),(17,aj i)]) 2 (fun _ _=>True) () b9 trivial (fun _ _ _=>?_) (fun i _ hi _ _=>?_)
  ·simp;(repeat' first|refine al ?_|simp);simp[bZ,ba,be,a1];simp[jy,Am]
  ·rcases(by omega:i=0\/i=1)with rfl|rfl
   ·simp;((repeat' first|refine al ?_|refine aO g ?_|refine aP g ?_|simp|((first|apply ct|apply cz|apply cy)<;>intro h<;>try simp at h))<;>(try exact c3));exact bY.rng () hi trivial b9
   ·simp;((repeat' first|refine al ?_|refine aO f ?_|refine aP f ?_|simp|((first|apply ct|apply cz|apply cy)<;>intro h<;>try simp at h))<;>(try exact c3));exact bY.rng () hi trivial b9
 | .nil,l,d,c=>by refine bI a6 Tryz.func58 E9 fun e=>?_;unfold AR;simp;refine eZ [15,16] (fun i (_:Unit)=>[(1,cX (e2 l)),(17,aj i)]) 0 (fun _ _=>True) () b9 trivial (fun _ _ _=>?_) (fun i _ hi _ _=>Ω);simp;((repeat' first|refine al ?_|simp|((first|apply ct|apply cz|apply cy)<;>intro h<;>try simp at h))<;>(try exact c3));simp[bZ,ba,be,a1];simp[jy,Am]
 | .sym _,l,d,c=>by refine bI a6 Tryz.func58 E9 fun e=>?_;unfold AR;simp;refine eZ [15,16] (fun i (_:Unit)=>[(1,cX (e2 l)),(17,aj i)]) 0 (fun _ _=>True) () b9 trivial (fun _ _ _=>?_) (fun i _ hi _ _=>Ω);simp;(repeat' first|refine al ?_|simp);simp[bZ,ba,be,a1];simp[jy,Am]
 | .num _,l,d,c=>by refine bI a6 Tryz.func58 E9 fun e=>?_;unfold AR;simp;refine eZ [15,16] (fun i (_:Unit)=>[(1,cX (e2 l)),(17,aj i)]) 0 (fun _ _=>True) () b9 trivial (fun _ _ _=>?_) (fun i _ hi _ _=>Ω);simp;(repeat' first|refine al ?_|simp);simp[bZ,ba,be,a1];simp[jy,Am]
def alO(s:List cS)(a b:T)(i:Nat)(_:Unit):Prop:=(1<=i->a.has s=false)/\(2<=i->b.has s=false)
def QU(s:List cS):∀t:T,bU au 210 [t.e,.str s] (.bool (t.has s))
 | .pair a b=>by
  have e:=QU s a;have d:=QU s b;refine bI a6 Tryz.func210 Fa fun j=>?_;unfold AS;simp;refine eZ [1,2,8,9] (fun i (_:Unit)=>[(10,aj i)]) 2 (alO s a b) () b9 ⟨fun h=>Ω,fun h=>Ω⟩ (fun _ c _=>?_) (fun i _ hi c _=>?_)
  ·simp;(repeat' first|refine al ?_|simp);simp[bZ,ba,be,a1];simp[T.has,c.1,c.2]
  ·rcases(by omega:i=0\/i=1)with rfl|rfl
   ·cases f:a.has s
    ·rw[f]at e;simp;((repeat' first|refine al ?_|refine aO e ?_|refine aP e ?_|simp|((first|apply ct|apply cz|apply cy)<;>intro h<;>try simp at h))<;>(try exact c3));exact bY.rng () hi ⟨fun _=>f,fun h=>Ω⟩ b9
    ·rw[f]at e;simp;((repeat' first|refine al ?_|refine aO e ?_|refine aP e ?_|simp|((first|apply ct|apply cz|apply cy)<;>intro h<;>try simp at h))<;>(try exact c3));simp[bZ,ba,be,a1];simp[T.has,f]
   ·cases g:b.has s
    ·rw[g]at d;simp;((repeat' first|refine al ?_|refine aO d ?_|refine aP d ?_|simp|((first|apply ct|apply cz|apply cy)<;>intro h<;>try simp at h))<;>(try exact c3));exact bY.rng () hi ⟨fun _=>c.1 Ω,fun _=>g⟩ b9
    ·rw[g]at d;simp;((repeat' first|refine al ?_|refine aO d ?_|refine aP d ?_|simp|((first|apply ct|apply cz|apply cy)<;>intro h<;>try simp at h))<;>(try exact c3));simp[bZ,ba,be,a1];simp[T.has,g]
 | .sym n=>by
  refine bI a6 Tryz.func210 Fa fun j=>?_;unfold AS;simp;refine eZ [1,2,8,9] (fun i (_:Unit)=>[(10,aj i)]) 0 (fun i _=>True) () b9 trivial (fun _ c _=>?_) (fun i _ hi c _=>Ω);simp;(repeat' first|refine al ?_|simp);all_goals simp[bZ,ba,be,a1]
  all_goals simp[T.has]
 | .num n=>by
  refine bI a6 Tryz.func210 Fa fun j=>?_;unfold AS;simp;refine eZ [1,2,8,9] (fun i (_:Unit)=>[(10,aj i)]) 0 (fun i _=>True) () b9 trivial (fun _ c _=>?_) (fun i _ hi c _=>Ω);simp;(repeat' first|refine al ?_|simp);all_goals simp[bZ,ba,be,a1]
  all_goals simp[T.has]
 | .var n=>by
  refine bI a6 Tryz.func210 Fa fun j=>?_;unfold AS;simp;refine eZ [1,2,8,9] (fun i (_:Unit)=>[(10,aj i)]) 0 (fun i _=>True) () b9 trivial (fun _ c _=>?_) (fun i _ hi c _=>Ω);simp;(repeat' first|refine al ?_|simp);all_goals simp[bZ,ba,be,a1]
  all_goals simp[T.has]
 | .nil=>by
  refine bI a6 Tryz.func210 Fa fun j=>?_;unfold AS;simp;refine eZ [1,2,8,9] (fun i (_:Unit)=>[(10,aj i)]) 0 (fun i _=>True) () b9 trivial (fun _ c _=>?_) (fun i _ hi c _=>Ω);simp;(repeat' first|refine al ?_|simp);all_goals simp[bZ,ba,be,a1]
  all_goals simp[T.has]
def oO(l:List bH)(o:bd (List bH)):af:= .tuple [b6 ((o.getD l).map bH.e),.bool o.isSome]
@[simp]def av9(S:aB->Prop)(l:List bH)(o:bd (List bH)):az S (oO l o)=True:=by simp[oO]
def xP(l:List bH)(n:Int)(i:Nat):Prop:=i<=l.length/\∀j y,j<i->l[j]? =some y->y.v<n
def xP.none{l:List bH}{n:Int}{i:Nat}(h:xP l n i)(d:l.Pairwise fun x y=>x.v<y.v)(aw:∀c,l[i]? =some c->n<c.v):ny l n=none:=EK.2 fun x f=>by
 obtain⟨j,a,rfl⟩:=pA f;have e:=cl a;rcases Nat.lt_or_ge j i with J|J
 ·have:=h.2 j _ J e;omega
 ·have b:i<l.length:=Ω
  have g:=cl b;have k:=aw _ g;rcases Nat.lt_or_ge i j with U|U
  ·have:=q2.1 d i j b a U;omega
  ·obtain rfl:i=j:=Ω
   omega
def xP.ins{l:List bH}{n k:Int}{i:Nat}(h:xP l n i)(aw:∀c,l[i]? =some c->n<c.v):nv ⟨n,k⟩ l=l.take i++⟨n,k⟩::l.drop i:=Xh ⟨n,k⟩ l i (fun j y J U=>h.2 j y J U) (fun y a=>by have:=aw y a;simp;omega) h.1
def xP.step{l:List bH}{n:Int}{i:Nat}{b:bH}(h:xP l n i)(a:l[i]? =some b)(d:b.v<n):xP l n (i+1):=⟨(fH.1 a).1,fun j y J U=>by
 rcases(by omega:j<i\/j=i)with c|rfl
 ·exact h.2 j y c U
 ·rw[a]at U;cases U;exact d⟩
def asE(l:List bH)(r:l.length<=1000000)(f:l.Pairwise fun x y=>x.v<y.v)(n k:Int):bU au 151 [b6 (l.map bH.e),(T.var n).e,aj k] (oO l (jr l (.var n) k)):=by
 generalize o:jr l (.var n) k=O;have a:(match ny l n with|some bs=>if bs=k then some l else none|none=>some (nv ⟨n,k⟩ l))=O:=by rw[<-o];rfl
 clear o;refine bI a6 Tryz.func151 Fb fun t=>?_;unfold AT;simp;refine xb [0,2,4] (fun(i:Nat)=>[(8,aj i)]) (fun i=>l.length-i) (xP l n) 0 b9 ⟨Ω,fun j y h=>Ω⟩ (fun i d _=>?_);have s:=d.1;by_cases hi:i<l.length
 ·obtain⟨b,m,g⟩:=eW hi;rcases Int.lt_trichotomy b.v n with h|h|h
  ·have p:=d.step m h;clear a d m f;simp[hi,g,h];((repeat' first|refine al ?_|simp[hi,g,h]|((first|apply ct|apply cz|apply cy)<;>intro h<;>try simp at h))<;>(try exact c3));exact bY.whl (i+1) Ω p b9
  ·have bf:ny l n=some b.k:=by rw[<-h];exact NV f (ft m)
   have J:¬b.v<n:=Ω
   have U:(b.v==n)=true:=by simp[h]
   rw[bf]at a;simp only at a;subst a;clear d m f bf;simp[hi,g,J,U];(repeat' first|refine al ?_|simp[hi,g,J,U]);all_goals simp[bZ,ba,be,a1]
   all_goals(by_cases e:b.k=k<;>simp[oO,e])
  ·have J:¬b.v<n:=Ω
   have U:(b.v==n)=false:=by simp;omega
   have aw:∀c,l[i]? =some c->n<c.v:=fun c aw=>by rw[m]at aw;cases aw;exact h
   rw[d.none f aw]at a;simp only[d.ins aw]at a;subst a;clear d m f aw;simp[hi,g,J,U];(repeat' first|refine al ?_|simp[hi,g,J,U]);all_goals simp[bZ,ba,be,a1]
   all_goals simp[oO]
   rw[iv (by simp:(l.map bH.e).length<=l.length),<-List.map_take,<-List.map_drop,<-gY,<-List.map_append];exact Qr _
 ·have aw:∀c,l[i]? =some c->n<c.v:=fun c aw=>by rw[q0 Ω]at aw;cases aw
  rw[d.none f aw]at a;simp only[d.ins aw]at a;have q:i=l.length:=Ω
  clear d f aw;subst a;subst q;simp;(repeat' first|refine al ?_|simp);all_goals simp[bZ,ba,be,a1]
  all_goals simp[oO]
  rw[iv (by simp:(l.map bH.e).length<=l.length),show [(⟨n,k⟩:bH).e]=[(⟨n,k⟩:bH)].map bH.e from rfl,<-List.map_append];exact Qr _
def QV(l:List bH)(f:l.length<=1000000)(d:l.Pairwise fun x y=>x.v<y.v)(t:T)(k:Int):bU au 151 [b6 (l.map bH.e),t.e,aj k] (oO l (jr l t k)):=by
 cases t with
 |var n=>exact asE l f d n k
 |nil=>
  refine bI a6 Tryz.func151 Fb fun c=>?_;unfold AT;simp;(repeat' first|refine al ?_|simp);all_goals simp[bZ,ba,be,a1]
  all_goals(by_cases e:0=k<;>simp[oO,jr,e])
 |sym n=>
  refine bI a6 Tryz.func151 Fb fun c=>?_;unfold AT;simp;(repeat' first|refine al ?_|simp);all_goals simp[bZ,ba,be,a1]
  all_goals(by_cases e:2=k<;>simp[oO,jr,e])
 |num n=>
  refine bI a6 Tryz.func151 Fb fun c=>?_;unfold AT;simp;(repeat' first|refine al ?_|simp);all_goals simp[bZ,ba,be,a1]
  all_goals(by_cases e:3=k<;>simp[oO,jr,e])
 |pair a b=>
  refine bI a6 Tryz.func151 Fb fun c=>?_;unfold AT;simp;(repeat' first|refine al ?_|simp);all_goals simp[bZ,ba,be,a1]
  all_goals(by_cases e:4=k<;>simp[oO,jr,e])
def ac0(s:List Bd)(v:Int):ij s (.var v)=cG s v:=rfl
def QW{s:List Bd}(m:fl s){l:List bH}(k:jx l):bU au 149 [bL (s.map Bd.e),b6 (l.map bH.e)] (nB (gS s l [])):=by
 have o:=ss k;refine bI a6 Tryz.func149 ao8 fun p=>?_;unfold TS;simp;refine eZ [0,11,12] (fun i (a:List bH)=>[(6,b6 (a.map bH.e)),(13,aj i)]) l.length (Xm s l) [] b9 ⟨⟨Ψ,Ψ⟩,rfl⟩ (fun a c _=>?_) (fun i a hi c _=>?_)
 ·obtain⟨_,c⟩:=c;rw[List.drop_length]at c;simp only[gS]at c;rw[<-c];simp;(repeat' first|refine al ?_|simp);simp[bZ,ba,be,a1];simp[nB]
 ·obtain⟨h,c⟩:=c;obtain⟨b,n,f⟩:=eW hi;have j:=k.at' b (ft n);rw[lG hi,f]at c;simp only[gS]at c;have e:=Kd s m.len (.var b.v);rw[ac0]at e;have d:=QV a (by have:=ss h;omega) h.asc (cG s b.v) b.k;simp[hi,f];cases g:jr a (cG s b.v) b.k with
  |none=>rw[g]at c d;simp only at c;rw[<-c];simp only[oO]at d;(repeat' first|refine al ?_|refine aO (k4 _) ?_|refine aP (k4 _) ?_|refine aO e ?_|refine aP e ?_|refine aO d ?_|refine aP d ?_|simp[f,hi]);simp[bZ,ba,be,a1];simp[nB]
  |some br=>rw[g]at c d;simp only[oO]at d;(repeat' first|refine al ?_|refine aO (k4 _) ?_|refine aP (k4 _) ?_|refine aO e ?_|refine aP e ?_|refine aO d ?_|refine aP d ?_|simp[f,hi]);exact bY.rng br hi ⟨Gr h (CL m j.1) j.2 g,c⟩ b9
open Classical in
def asW(l:List bo):bU au 79 [b6 (l.map bo.e)] (.bool (decide (iU l))):=by
 generalize bt:decide (iU l)=R;refine bI a6 Tryz.func79 aoK fun y=>?_;unfold Tu;have A:l.length<=68719476736:=by simp[eM,eV,eN,lim]at y;omega
 simp;refine eZ [0,5,6] (fun i (_:Unit)=>[(7,aj i)]) l.length (fun i _=> ∀j,j<i->jf kZ lv l j) () b9 (fun k E=>Ω) (fun _ s _=>?_) (fun i _ hi s _=>?_)
 ·have:R=true:=by rw[<-bt,gy,IE];exact s
  rw[this];exact cr
 ·obtain⟨b,n⟩:∃b,l[i]? =some b:=⟨_,cl hi⟩;obtain⟨c,aw⟩:∃c,l[i-1]? =some c:=⟨_,cl Ω⟩;have d:∀h,(l[i]'h)=b:=fun h=>by rw[cl hi]at n;exact e6 n
  have v:¬jf kZ lv l i->R=false:=fun h=>by rw[<-bt,iO];exact fun w=>h (IE.1 w i hi)
  have dy:jf kZ lv l i->∀j,j<i+1->jf kZ lv l j:=fun h j z=>by
   by_cases e:j=i
   ·rw[e];exact h
   ·exact s j Ω
  have m:∀p:Prop,(p->eu)->(jf kZ lv l i->p)->R=false:=fun p J U=>v fun h=>J (U h);have g:jf kZ lv l i->kZ b:=fun h=>(h b n).1;have x:jf kZ lv l i->0<i->iL gd c b=true:=fun h r=>by simpa[iL,lv]using(h b n).2 c r aw
  have q:kZ b->(0<i->iL gd c b=true)->jf kZ lv l i:=fun J U b2 u=>by rw[n]at u;cases u;exact⟨J,fun B r t=>by rw[aw]at t;cases t;simpa[iL,lv]using U r⟩
  unfold kZ at g q;by_cases g4:0<i
  ·cases g5:iL gd c b
   ·rw[m _ (fun h=>by rw[h]at g5;cases g5) (fun h=>x h g4)];simp[hi,d,aw];(repeat' first|refine al ?_|refine aO (mU _ _) ?_|refine aP (mU _ _) ?_|simp[d,aw,hi,g4,g5]);all_goals simp[bZ,ba,be,a1]
   ·by_cases g1:0<=b.v/\b.v<=100000;rotate_left
    ·rw[m _ (fun h=>g1 h) (fun h=>(g h).1)];have f:decide (0<=b.v/\b.v<=100000)=false:=by simp only[iO];exact g1
     simp[hi,d,aw];(repeat' first|refine al ?_|refine aO (mU _ _) ?_|refine aP (mU _ _) ?_|refine aO (dS _ _ _) ?_|refine aP (dS _ _ _) ?_|simp[d,aw,hi,g4,g5,f,g1]);all_goals simp[bZ,ba,be,a1]
    have f:decide (0<=b.v/\b.v<=100000)=true:=by simp only[gy];exact g1
    cases g3:ks b.s
    ·rw[m _ (fun h=>by rw[h]at g3;cases g3) (fun h=>(g h).2)];have a:=h0 b.s;rw[g3]at a;simp[hi,d,aw];(repeat' first|refine al ?_|refine aO (mU _ _) ?_|refine aP (mU _ _) ?_|refine aO (dS _ _ _) ?_|refine aP (dS _ _ _) ?_|refine aO a ?_|refine aP a ?_|simp[d,aw,hi,g4,g5,f,g1]);all_goals simp[bZ,ba,be,a1]
    have a:=h0 b.s;rw[g3]at a;have o:=dy (q ⟨g1,g3⟩ fun _=>g5);simp[hi,d,aw];(repeat' first|refine al ?_|refine aO (mU _ _) ?_|refine aP (mU _ _) ?_|refine aO (dS _ _ _) ?_|refine aP (dS _ _ _) ?_|refine aO a ?_|refine aP a ?_|simp[d,aw,hi,g4,g5,f,g1]);all_goals exact bY.rng () hi o b9
  ·obtain rfl:i=0:=Ω
   by_cases g1:0<=b.v/\b.v<=100000;rotate_left
   ·rw[m _ (fun h=>g1 h) (fun h=>(g h).1)];have f:decide (0<=b.v/\b.v<=100000)=false:=by simp only[iO];exact g1
    simp[hi,d,aw];(repeat' first|refine al ?_|refine aO (mU _ _) ?_|refine aP (mU _ _) ?_|refine aO (dS _ _ _) ?_|refine aP (dS _ _ _) ?_|simp[d,aw,hi,g4,f,g1]);all_goals simp[bZ,ba,be,a1]
   have f:decide (0<=b.v/\b.v<=100000)=true:=by simp only[gy];exact g1
   cases g3:ks b.s
   ·rw[m _ (fun h=>by rw[h]at g3;cases g3) (fun h=>(g h).2)];have a:=h0 b.s;rw[g3]at a;simp[hi,d,aw];(repeat' first|refine al ?_|refine aO (mU _ _) ?_|refine aP (mU _ _) ?_|refine aO (dS _ _ _) ?_|refine aP (dS _ _ _) ?_|refine aO a ?_|refine aP a ?_|simp[d,aw,hi,g4,f,g1]);all_goals simp[bZ,ba,be,a1]
   have a:=h0 b.s;rw[g3]at a;have o:=dy (q ⟨g1,g3⟩ fun h=>absurd h g4);simp[hi,d,aw];(repeat' first|refine al ?_|refine aO (mU _ _) ?_|refine aP (mU _ _) ?_|refine aO (dS _ _ _) ?_|refine aP (dS _ _ _) ?_|refine aO a ?_|refine aP a ?_|simp[d,aw,hi,g4,f,g1]);all_goals exact bY.rng () hi o b9
def qt(s:List cS)(bm:List Int)(l:List bo):List bo:=bm.foldl (fun a v=>kX gd ⟨v,s⟩ a) l
def Mg(s:List cS):∀(bm:List Int) {l:List bo},iP gd l->iP gd (qt s bm l)
 |[],_,h=>h
 |v::bm,_,h=>Mg s bm (NG mP h)
def Yw(s:List cS){x:bo}:∀(bm:List Int) {l:List bo},x∈qt s bm l↔x∈l\/(x.s=s/\x.v∈bm)
 |[],l=>by simp[qt]
 |v::bm,l=>by
  have:=Yw s (x:=x) bm (l:=kX gd ⟨v,s⟩ l);rw[show qt s (v::bm) l=qt s bm (kX gd ⟨v,s⟩ l)from rfl,this,IH mP,gI];constructor
  ·rintro((rfl|h)|⟨J,U⟩)
   ·exact .inr ⟨rfl,.inl rfl⟩
   ·exact .inl h
   ·exact .inr ⟨J,.inr U⟩
  ·rintro(h|⟨J,U|U⟩)
   ·exact .inl (.inr h)
   ·refine .inl (.inl ?_);cases x;simp_all
   ·exact .inr ⟨J,U⟩
def Vo(s:List cS):∀(bm:List Int) (l:List bo),(qt s bm l).length<=l.length+bm.length
 |[],l=>by simp[qt]
 |v::bm,l=>by have J:=Vo s bm (kX gd ⟨v,s⟩ l);have U:=NI (c:=gd) (⟨v,s⟩:bo) l;rw[show qt s (v::bm) l=qt s bm (kX gd ⟨v,s⟩ l)from rfl];simp only[mV];omega
def aiq{t:T}{s:List cS}(a:t.has s=false){l:List bo}(b:iP gd l):nb l t s=some (qt s (jy t []) l):=KG a (Mg s _ b) fun x=>by rw[Yw,IK];simp
def ED(l:List bo)(bm:List Int)(s:List cS)(i:Nat)(a:List bo):Prop:=a=qt s (bm.take i) l
def BN(a:List bo)(m:bo)(k:Nat):Prop:=k<=a.length/\∀j y,j<k->a[j]? =some y->gd y m<0
def BN.step{a:List bo}{m:bo}{k:Nat}{b:bo}(h:BN a m k)(c:a[k]? =some b)(e:gd b m<0):BN a m (k+1):=⟨(fH.1 c).1,fun j y J U=>by
 rcases(by omega:j<k\/j=k)with d|rfl
 ·exact h.2 j y d U
 ·rw[c]at U;cases U;exact e⟩
def BN.fin{a:List bo}{m:bo}{k:Nat}(h:BN a m k)(aw:∀y,a[k]? =some y->0<=gd y m):kX gd m a=if(match a[k]? with|some y=>decide (gd y m=0)|none=>false)=true then a else a.take k++m::a.drop k:=(NH mP m a k (fun j y J U=>h.2 j y J U) aw h.1).trans (by cases a[k]?<;>rfl)
def YK(a:List bo)(k:Nat)(m:bo):mW k (a.map bo.e)++m.e::oV k (a.map bo.e)=(a.take k++m::a.drop k).map bo.e:=Ψ
def B9(a:List bo)(k:Nat)(m:bo):cf (mW k (a.map bo.e)++m.e::oV k (a.map bo.e))=mW k (a.map bo.e)++m.e::oV k (a.map bo.e):=by rw[YK,Qs]
def B8(S:aB->Prop)(a:List bo)(k:Nat)(m:bo):aH S (mW k (a.map bo.e)++m.e::oV k (a.map bo.e))=True:=by rw[YK,XT]
def YH(a:List bo)(m:bo):a.map bo.e++[m.e]=(a++[m]).map bo.e:=Ψ
def B7(a:List bo)(m:bo):cf (a.map bo.e++[m.e])=a.map bo.e++[m.e]:=by rw[YH,Qs]
def B6(S:aB->Prop)(a:List bo)(m:bo):aH S (a.map bo.e++[m.e])=True:=by rw[YH,XT]
def asF(l:List bo)(W:l.length<=68719470000)(t:T)(Y:t.size<=5000)(s:List cS)(J:iP gd l):bU au 181 [b6 (l.map bo.e),t.e,.str s] (j3 (nb l t s)):=by
 have g:=QU s t;cases p:t.has s;rotate_left
 ·have r:nb l t s=none:=by simp[nb,p]
  rw[r];rw[p]at g;refine bI a6 Tryz.func181 ZD fun R=>?_;unfold Ls;simp;(repeat' first|refine al ?_|refine aO g ?_|refine aP g ?_|simp);all_goals simp[bZ,ba,be,a1]
  all_goals simp[j3]
 ·rw[p]at g;have G:=aiq p J;have E:=F3 t [];have x:=Kb t [] d6 (by simp[vp]);have S:e2 []=[]:=rfl;rw[S]at x;rw[G];clear G p;generalize jy t []=bm at x E⊢;have V:bm.length<=5000:=by simp at E;omega
  generalize H:qt s bm l=F;refine bI a6 Tryz.func181 ZD fun R=>?_;unfold Ls;simp;(repeat' first|refine al ?_|refine aO g ?_|refine aP g ?_|refine aO x ?_|refine aP x ?_|simp[fM]);refine eZ [2,17,18] (fun i (a:List bo)=>[(0,b6 (a.map bo.e)),(19,aj i)]) bm.length (ED l bm s) l ⟨by simp[fresh,aH,az,cc,aM,ae,fM],eo (by simp[fresh,aH,az,cc,aM,ae,fM]),ep (by simp[fresh,aH,az,dV,aM,ae,fM]),Ψ⟩ (by simp[ED,qt]) (fun a c _=>?_) (fun i a hi c _=>?_)
  ·rw[ED,jA,H]at c;subst c;simp[fM];(repeat' first|refine al ?_|simp[fM]);all_goals simp[bZ,ba,be,a1]
   all_goals simp[j3]
  ·obtain⟨v,K⟩:∃v,bm[i]? =some v:=⟨_,cl hi⟩;have B:∀h,((e2 bm)[i]'h)=aj v:=fun P=>by have:=Ez bm i;rw[K,cl P]at this;exact e6 this
   have w:iP gd a:=by rw[c];exact Mg s _ J
   have N:a.length<=68719475000:=by have:=Vo s (bm.take i) l;rw[c];simp at this⊢;omega
   have e:ED l bm s (i+1) (kX gd ⟨v,s⟩ a):=by rw[ED,List.take_succ,K,c];simp[qt]
   generalize hm:(⟨v,s⟩:bo)=m at e;have A:m.v=v:=by rw[<-hm]
   have U:m.s=s:=by rw[<-hm]
   subst A;subst U;clear c H;simp[hi,B,fM];(repeat' first|refine al ?_|simp[hi,B,fM]);refine xb [0,2,10,17,18,19] (fun(k:Nat)=>[(11,aj k)]) (fun k=>a.length-k) (BN a m) 0 ⟨by simp[fresh,aH,az,cc,aM,ae,fM],eo (by simp[fresh,aH,az,cc,aM,ae,fM]),ep (by simp[fresh,aH,az,dV,aM,ae,fM]),Ψ⟩ ⟨Ω,fun j y h=>Ω⟩ (fun k c _=>?_);have X:=c.1;by_cases f:k<a.length
   ·obtain⟨b,o,n⟩:=eW f;cases q:iL gd b m
    ·have M:0<=gd b m:=by simpa[iL]using q
     have d:=c.fin (fun y u=>by rw[o]at u;cases u;exact M);rw[o]at d;cases z:iL gd m b
     ·have hle:0<=gd m b:=by simpa[iL]using z
      have r:gd b m=0:=by have:=mP.neg b m;omega
      rw[if_pos (by simp[r])]at d;rw[d]at e;clear c o d N w;simp[f,n];((repeat' first|refine al ?_|refine aO (mU _ _) ?_|refine aP (mU _ _) ?_|simp[f,n,q,z]|((first|apply ct|apply cz|apply cy)<;>intro h<;>try simp at h))<;>(try exact c3));all_goals exact bY.rng a hi e ⟨by simp[fresh,aH,az,cc,aM,ae,fM],eo (by simp[fresh,aH,az,cc,aM,ae,fM]),ep (by simp[fresh,aH,az,dV,aM,ae,fM]),Ψ⟩
     ·have hle:gd m b<0:=by simpa[iL]using z
      have r:¬gd b m=0:=by have:=mP.neg b m;omega
      rw[if_neg (by simp[r])]at d;rw[d]at e;clear c o d w;simp[f,n];((repeat' first|refine al ?_|refine aO (mU _ _) ?_|refine aP (mU _ _) ?_|simp[f,n,q,z]|((first|apply ct|apply cz|apply cy)<;>intro h<;>try simp at h))<;>(try exact c3));all_goals try refine⟨by unfold lim;omega,?_⟩
      all_goals(repeat' first|refine al ?_|simp)
      all_goals try refine⟨by unfold lim;omega,?_⟩
      all_goals((repeat' first|refine al ?_|simp|((first|apply ct|apply cz|apply cy)<;>intro h<;>try simp at h))<;>(try exact c3))
      all_goals exact bY.rng _ hi e ⟨by simp[fresh,aH,az,cc,aM,ae,fM,iv,B9,B8,B7,B6],eo (by simp[fresh,aH,az,cc,aM,ae,fM,iv,B9,B8,B7,B6]),ep (by simp[fresh,aH,az,dV,aM,ae,fM,iv,B9,B8,B7,B6]),Ψ⟩
    ·have L:gd b m<0:=by simpa[iL]using q
     have Q:=c.step o L;clear c o w e;simp[f,n];((repeat' first|refine al ?_|refine aO (mU _ _) ?_|refine aP (mU _ _) ?_|simp[f,n,q]|((first|apply ct|apply cz|apply cy)<;>intro h<;>try simp at h))<;>(try exact c3));all_goals exact bY.whl (k+1) Ω Q ⟨by simp[fresh,aH,az,cc,aM,ae,fM],eo (by simp[fresh,aH,az,cc,aM,ae,fM]),ep (by simp[fresh,aH,az,dV,aM,ae,fM]),Ψ⟩
   ·have d:=c.fin (fun y u=>by rw[q0 Ω]at u;cases u);rw[q0 Ω]at d;simp only[hR,if_false]at d;rw[d]at e;have O:k=a.length:=Ω
    clear c d w;subst O;simp;(repeat' first|refine al ?_|simp);all_goals try refine⟨by unfold lim;omega,?_⟩
    all_goals(repeat' first|refine al ?_|simp)
    all_goals try refine⟨by unfold lim;omega,?_⟩
    all_goals(repeat' first|refine al ?_|simp)
    all_goals exact bY.rng _ hi e ⟨by simp[fresh,aH,az,cc,aM,ae,fM,iv,B9,B8,B7,B6],eo (by simp[fresh,aH,az,cc,aM,ae,fM,iv,B9,B8,B7,B6]),ep (by simp[fresh,aH,az,dV,aM,ae,fM,iv,B9,B8,B7,B6]),Ψ⟩
def QX{s:List Bd}(j:fl s){l:List bo}(m:iU l){G:List (List cS)}(t:G.length<=687000)(bf:oR G l):bU au 150 [bL (s.map Bd.e),b6 (l.map bo.e)] (j3 (gW s l [])):=by
 have hlen:∀{a:List bo},iU a->oR G a->a.length<=68719470000:=fun J U=>by have:=ET J U;omega
 have r:=hlen m bf;refine bI a6 Tryz.func150 ao9 fun u=>?_;unfold TT;simp;refine eZ [0,11,12] (fun i (a:List bo)=>[(6,b6 (a.map bo.e)),(13,aj i)]) l.length (Xn s G l) [] b9 ⟨⟨Ψ,by simp[iP]⟩,fun x p=>by simp at p,rfl⟩ (fun a c _=>?_) (fun i a hi c _=>?_)
 ·obtain⟨_,_,c⟩:=c;rw[List.drop_length]at c;simp only[gW]at c;rw[<-c];simp;(repeat' first|refine al ?_|simp);simp[bZ,ba,be,a1];simp[j3]
 ·obtain⟨h,o,c⟩:=c;obtain⟨b,n,g⟩:=eW hi;have k:=m.at' b (ft n);have q:=bf b (ft n);rw[lG hi,g]at c;simp only[gW]at c;have e:=Kd s j.len (.var b.v);rw[ac0]at e;have d:=asF a (hlen h o) (cG s b.v) (FH j b.v) b.s h.asc;simp[hi,g];cases f:nb a (cG s b.v) b.s with
  |none=>rw[f]at c d;simp only at c;rw[<-c];simp only[j3]at d;(repeat' first|refine al ?_|refine aO (k4 _) ?_|refine aP (k4 _) ?_|refine aO e ?_|refine aP e ?_|refine aO d ?_|refine aP d ?_|simp[g,hi]);simp[bZ,ba,be,a1];simp[j3]
  |some br=>rw[f]at c d;simp only[j3]at d;(repeat' first|refine al ?_|refine aO (k4 _) ?_|refine aP (k4 _) ?_|refine aO e ?_|refine aP e ?_|refine aO d ?_|refine aP d ?_|simp[g,hi]);exact bY.rng br hi ⟨KH h (CL j k.1) k.2 f,KI o q f,c⟩ b9
def arp{s:List Bd}(ar:rG s)(b:jB s)(c:iw s):hy (s.map Bd.b)=s.all (nK s):=by
 rw[qZ,j6,sG,<-abG b];constructor
 ·rintro⟨d,J,U,a,e⟩;rw[wW J];exact a
 ·intro a;exact⟨s,rfl,ar,a,c⟩
def ad3{s:List Bd}(a:jB s)(b:Bd):nK s b=true↔(∀v∈jy b.t [],dG s v=none)/\(b.t.kind==1&&decide (b.v<=b.t.int))=false:=by unfold nK;rw[cQ,Vp a];simp only[true_and,sO,IK,List.not_mem_nil,or_false]
def EC(s:List Bd)(bm:List Int)(i:Nat)(_:Unit):Prop:= ∀v∈bm.take i,dG s v=none
def EC.step{s:List Bd}{bm:List Int}{i:Nat}(h:EC s bm i ()){v:Int}(a:bm[i]? =some v)(b:dG s v=none):EC s bm (i+1) ():=fun w hw=>by
 rw[List.take_succ,a]at hw;simp only[kd,Option.toList_some,List.mem_singleton]at hw;rcases hw with hw|rfl
 ·exact h w hw
 ·exact b
def QY(l:List Bt):bU au 76 [bL (l.map Bt.e)] (.bool (hy l)):=by
 have a:=ast l;by_cases h:AF l;rotate_left
 ·have H:hy l=false:=by unfold hy;simp only[iO];rintro⟨s,J,U,K,L⟩;exact h (Kh.2 ⟨s,J,U,K.asc,L⟩)
  rw[H];refine bI a6 Tryz.func76 ZC fun M=>?_;unfold Lr;exact cr
 ·obtain⟨s,rfl,ar,F,A⟩:=Kh.1 h;have G:s.length<=1000000:=by have:=A.1;omega
  rw[arp ar F A];rw[zL]at a⊢;simp only[h,decide_true]at a;clear h;generalize bt:s.all (nK s)=R;refine bI a6 Tryz.func76 ZC fun M=>?_;unfold Lr;simp;(repeat' first|refine al ?_|refine aO a ?_|refine aP a ?_|simp);refine eZ [0,12,13] (fun i (_:Unit)=>[(14,aj i)]) s.length (qJ (nK s) s) () b9 (fun k b m=>Ω) (fun _ d _=>?_) (fun i _ hi d _=>?_)
  ·have:R=true:=by rw[<-bt,j6];intro b t;obtain⟨k,m,e⟩:=pA t;exact d k b m (by rw[cl m,e])
   rw[this];exact cr
  ·obtain⟨b,t,z⟩:=eW hi;have n:¬nK s b=true->R=false:=fun h=>by rw[<-bt,Bool.eq_false_iff];intro r;rw[j6]at r;exact h (r b (ft t))
   have o:nK s b=true->qJ (nK s) s (i+1) ():=fun h=>d.step t h;have w:=ad3 F b;have P:=A.2 b (ft t);have y:=F3 b.t [];have q:=Kb b.t [] d6 (by simp[vp]);have N:e2 []=[]:=rfl;rw[N]at q;generalize jy b.t []=bm at q y w;have O:bm.length<=5000:=by simp at y;omega
   rw[w]at n o;clear w d y t;simp[hi,z];cases m:(b.t.kind==1&&decide (b.v<=b.t.int));rotate_left
   ·rw[n (by rw[m];simp)];rw[cQ]at m;have u:=m.1;have E:b.v<=b.t.int:=of_decide_eq_true m.2;exact cr
   ·rw[m]at n o;simp only[jd]at n o;cases u:(b.t.kind==1)
    ·clear m;(repeat' first|refine al ?_|refine aO q ?_|refine aP q ?_|simp[z,hi,fM,u]);refine eZ [0,12,13,14,32,33] (fun j (_:Unit)=>[(34,aj j)]) bm.length (EC s bm) () ⟨by simp[fresh,aH,az,cc,aM,ae,fM],eo (by simp[fresh,aH,az,cc,aM,ae,fM]),ep (by simp[fresh,aH,az,dV,aM,ae,fM]),Ψ⟩ (fun v a=>by simp at a) (fun _ d _=>?_) (fun j _ g d _=>?_)
     ·have bf:=o (fun v a=>d v (by rwa[jA]));simp[fM];(repeat' first|refine al ?_|simp[fM]);exact bY.rng () hi bf ⟨by simp[fresh,aH,az,cc,aM,ae,fM],eo (by simp[fresh,aH,az,cc,aM,ae,fM]),ep (by simp[fresh,aH,az,dV,aM,ae,fM]),Ψ⟩
     ·obtain⟨v,a⟩:∃v,bm[j]? =some v:=⟨_,cl g⟩;have p:∀h,((e2 bm)[j]'h)=aj v:=fun r=>by have:=Ez bm j;rw[a,cl r]at this;exact e6 this
      have c:=wT s v G;cases f:dG s v with
      |none=>have B:=d.step a f;rw[f]at c;simp only[k5,kf]at c;clear d o n f;simp[g,p,fM];(repeat' first|refine al ?_|refine aO c ?_|refine aP c ?_|simp[g,p,fM]);exact bY.rng () g B ⟨by simp[fresh,aH,az,cc,aM,ae,fM],eo (by simp[fresh,aH,az,cc,aM,ae,fM]),ep (by simp[fresh,aH,az,dV,aM,ae,fM]),Ψ⟩
      |some x=>rw[n (fun h=>by have:=h v (ft a);rw[f]at this;cases this)];rw[f]at c;simp only[lI,rU]at c;clear d o n f;simp[g,p,fM];(repeat' first|refine al ?_|refine aO c ?_|refine aP c ?_|simp[g,p,fM]);simp[bZ,ba,be,a1]
    ·have E:¬b.v<=b.t.int:=by rw[u]at m;simpa using m
     clear m;(repeat' first|refine al ?_|refine aO q ?_|refine aP q ?_|simp[z,hi,fM,u,E]);refine eZ [0,12,13,14,32,33] (fun j (_:Unit)=>[(34,aj j)]) bm.length (EC s bm) () ⟨by simp[fresh,aH,az,cc,aM,ae,fM],eo (by simp[fresh,aH,az,cc,aM,ae,fM]),ep (by simp[fresh,aH,az,dV,aM,ae,fM]),Ψ⟩ (fun v a=>by simp at a) (fun _ d _=>?_) (fun j _ g d _=>?_)
     ·have bf:=o (fun v a=>d v (by rwa[jA]));simp[fM];(repeat' first|refine al ?_|simp[fM]);exact bY.rng () hi bf ⟨by simp[fresh,aH,az,cc,aM,ae,fM],eo (by simp[fresh,aH,az,cc,aM,ae,fM]),ep (by simp[fresh,aH,az,dV,aM,ae,fM]),Ψ⟩
     ·obtain⟨v,a⟩:∃v,bm[j]? =some v:=⟨_,cl g⟩;have p:∀h,((e2 bm)[j]'h)=aj v:=fun r=>by have:=Ez bm j;rw[a,cl r]at this;exact e6 this
      have c:=wT s v G;cases f:dG s v with
      |none=>have B:=d.step a f;rw[f]at c;simp only[k5,kf]at c;clear d o n f;simp[g,p,fM];(repeat' first|refine al ?_|refine aO c ?_|refine aP c ?_|simp[g,p,fM]);exact bY.rng () g B ⟨by simp[fresh,aH,az,cc,aM,ae,fM],eo (by simp[fresh,aH,az,cc,aM,ae,fM]),ep (by simp[fresh,aH,az,dV,aM,ae,fM]),Ψ⟩
      |some x=>rw[n (fun h=>by have:=h v (ft a);rw[f]at this;cases this)];rw[f]at c;simp only[lI,rU]at c;clear d o n f;simp[g,p,fM];(repeat' first|refine al ?_|refine aO c ?_|refine aP c ?_|simp[g,p,fM]);simp[bZ,ba,be,a1]
def acS{s:List Bd}(h:fl s):bU au 76 [bL (s.map Bd.e)] (.bool true):=by have:=QY (s.map Bd.b);rw[zL,sG.2 ⟨s,rfl,h.ok,h.sol,h.fits⟩]at this;exact this
def TO:C:=(aa [bz 2 false] (.seq (aa [I 5 0,cw 6 5,bP 7 0] (gw 8 7 6 (.seq (.block 1 (aa [ck 9 1 5 7,ay 10 1 9,I 4 10] (aa [I 11 4,c0 12 76 11,cO 13 12] (aW 13 (aa [bz 2 false] .ret) .skip)))) (.region [aV 14 .add 7 1,I 7 14])))) (aa [bz 2 true] .ret)))
def TV:C:=(aa [bz 4 false] (.seq (aa [I 7 0,cw 8 7,bP 9 0] (gw 10 9 8 (.seq (.block 1 (aa [ck 11 5 7 9,bk 12 5 11,dI 6 ku,bV 5 6 12] (aa [aF 13 0 1 6,ay 14 1 13,I 15 1,bu 16 .geq 14 15,I 17 16,ax 17 false (hp 18 1 4 6),ax 17 false (bk 19 4 18),cg 17 false 20 1,ax 17 false (cb 21 148 19 20),ax 17 false (cO 22 21),ds 23 17 22] (aW 23 (aa [bz 4 false] .ret) .skip)))) (.region [aV 24 .add 9 1,I 9 24])))) (aa [bz 4 true] .ret)))
def AU:C:=(aa [cZ 2 0,bz 4 false] (.seq (aa [aF 7 3 1 2,ay 8 1 7,cw 9 8,bP 10 0] (gw 11 10 9 (.seq (.block 1 (aa [ck 12 4 8 10,bk 13 4 12,dI 6 eB,bV 4 6 13] (aa [bk 14 4 6,I 15 1,cb 16 148 14 15,cO 17 16] (aW 17 (aa [bz 4 false] .ret) .skip)))) (.region [aV 18 .add 10 1,I 10 18])))) (aa [aF 19 0 1 2,ay 20 1 19,aV 21 .neq 20 1,I 22 21,ax 22 false (aF 23 1 1 2),ax 22 false (ay 24 1 23),cg 22 false 25 1,ax 22 false (bu 26 .lss 24 25),ds 27 22 26,I 4 27] .ret)))
def TN:C:=(aa [fw 4 5] (aa [fe 10 5 113 [],I 5 10] (.seq (aa [I 11 1,cw 12 11,bP 13 0] (gw 14 13 12 (.seq (.block 1 (aa [ck 15 5 11 13,bk 16 5 15,dI 7 ku,bV 5 7 16] (aa [I 18 0,aF 19 0 1 7,ay 20 1 19,cb 21 146 18 20,I 17 21,cV 22 0 17,cV 23 1 17,dI 8 eB,bV 4 8 22,I 9 23] (aa [I 24 9,cO 25 24] (aW 25 (.region [I 26 5,bk 27 5 7,fe 28 5 113 [.t 27],h1 29 5 113 26 28,I 5 29]) .skip))))) (.region [aV 30 .add 13 1,I 13 30])))) (aa [I 31 5,I 4 31] .ret))))
def TR:C:=(aa [fw 2 1] (aa [fe 11 1 46 [],I 3 11] (.seq (.seq (.fg false 3 (.region [I 12 0,cw 13 12,bP 14 0])) (gw 15 14 13 (.seq (.block 1 (aa [ck 16 1 12 14,ay 17 1 16,I 5 17] (aa [bz 6 true] (.seq (aa [I 18 0,cw 19 18,bP 20 0] (.block 2 (.loop (aa [bu 21 .lss 20 19] (.seq (aW 21 .skip (.exit 2)) (.seq (.block 3 (aa [ck 22 1 18 20,ay 23 1 22,I 8 23] (.region [I 24 6,I 25 24,cg 25 true 26 8,cg 25 true 27 5,ax 25 true (cb 28 155 26 27),ax 25 true (aV 29 .eql 28 0),cg 25 true 30 29,cg 30 false 31 8,cg 30 false 32 5,ax 30 false (cb 33 203 31 32),ax 30 false (cO 34 33),ax 25 true (ds 35 30 34),eg 36 25 35,I 6 36]))) (.region [aV 37 .add 20 1,I 20 37]))))))) (aa [I 38 3,cw 39 38,I 9 39] (.seq (.block 4 (.loop (.seq (aa [I 40 9,aV 41 .gtr 40 0,I 42 41,cg 42 true 43 3,cg 42 true 44 9,ax 42 true (aV 45 .sub 44 1),ax 42 true (ck 46 1 43 45),ax 42 true (ay 47 1 46),cg 42 true 48 5,ax 42 true (cb 49 155 47 48),ax 42 true (aV 50 .geq 49 0),eg 51 42 50] (aW 51 .skip (.exit 4))) (.block 5 (.region [I 52 9,aV 53 .sub 52 1,I 9 53]))))) (aa [I 54 6,I 55 54,cg 55 true 56 9,cg 55 true 57 3,ax 55 true (cw 58 57),ax 55 true (bu 59 .eql 56 58),cg 55 true 60 59,cg 60 false 61 3,cg 60 false 62 9,ax 60 false (ck 63 1 61 62),ax 60 false (ay 64 1 63),cg 60 false 65 5,ax 60 false (cb 66 155 64 65),ax 60 false (aV 67 .neq 66 0),ax 55 true (ds 68 60 67),eg 69 55 68] (aW 69 (aa [fe 70 1 46 [],I 71 3,I 72 9,cd 73 (.lsl 1 (.t 71) none (some (.t 72))),h1 74 1 46 70 73,I 10 74] (aa [I 75 10,I 76 5,fe 77 1 46 [.t 76],h1 78 1 46 75 77,I 10 78] (.region [I 79 10,I 80 3,I 81 9,cd 82 (.lsl 1 (.t 80) (some (.t 81)) none),h1 83 1 46 79 82,I 3 83]))) .skip)))))))) (.fg false 3 (.region [aV 84 .add 14 1,I 14 84]))))) (aa [I 85 3,I 2 85] .ret))))
def TP:C:=(aa [bP 4 0] (.seq (aa [bP 5 0] (.block 0 (.loop (.seq (aa [I 7 5,I 8 0,cw 9 8,bu 10 .lss 7 9,I 11 10,cg 11 true 12 5,cg 11 true 13 1,ax 11 true (cw 14 13),ax 11 true (bu 15 .lss 12 14),eg 16 11 15] (aW 16 .skip (.exit 0))) (.seq (.block 1 (.seq (.seq (.drawn true 67 [I 19 0,I 20 5,ck 21 5 19 20,aF 22 0 1 21,ay 23 1 22,I 24 1,I 25 5,ck 26 5 24 25,aF 27 0 1 26,ay 28 1 27,bu 29 .neq 23 28]) (aW 29 (.seq (.drawn true 67 [I 30 0,I 31 5,ck 32 5 30 31,aF 33 0 1 32,ay 34 1 33,I 35 1,I 36 5,ck 37 5 35 36,aF 38 0 1 37,ay 39 1 38,bu 40 .lss 34 39,c0 41 188 40,I 4 41]) .ret) .skip)) (.seq (.drawn true 67 [I 42 0,I 43 5,ck 44 5 42 43,hp 45 1 4 44,bk 46 4 45,I 47 1,I 48 5,ck 49 5 47 48,hp 50 1 4 49,bk 51 4 50,cb 52 125 46 51,I 6 52]) (aa [I 53 6,aV 54 .neq 53 0] (aW 54 (aa [I 55 6,I 4 55] .ret) .skip))))) (.region [I 17 5,aV 18 .add 17 1,I 5 18])))))) (.seq (aa [I 56 0,cw 57 56,I 58 1,cw 59 58,bu 60 .neq 57 59] (aW 60 (aa [I 61 0,cw 62 61,I 63 1,cw 64 63,bu 65 .lss 62 64,c0 66 188 65,I 4 66] .ret) .skip)) (aa [bP 4 0] .ret))))
def Tv:C:=(aa [bz 4 false] (.seq (aa [I 11 0,c0 12 76 11,cO 13 12,I 14 13,cg 14 false 15 1,ax 14 false (c0 16 76 15),ax 14 false (cO 17 16),ds 18 14 17] (aW 18 (aa [bz 4 false] .ret) .skip)) (.seq (aa [I 19 0,cw 20 19,bP 21 0] (gw 22 21 20 (.seq (.block 1 (aa [ck 23 5 19 21,bk 24 5 23,dI 6 ku,bV 5 6 24] (aa [I 26 1,aF 27 0 1 6,ay 28 1 27,c0 29 114 28,cb 30 60 26 29,I 25 30,cV 31 0 25,cV 32 1 25,dI 7 eB,bV 4 7 31,I 8 32] (aa [I 34 1,hp 35 1 4 6,bk 36 4 35,cb 37 60 34 36,I 33 37,cV 38 0 33,cV 39 1 33,dI 9 eB,bV 4 9 38,I 10 39] (aa [I 40 8,cO 41 40,I 42 41,cg 42 false 43 10,ax 42 false (cO 44 43),ds 45 42 44,I 46 45,ax 46 false (bk 47 4 7),ax 46 false (bk 48 4 9),ax 46 false (cb 49 129 47 48),ax 46 false (cO 50 49),ds 51 46 50] (aW 51 (aa [bz 4 false] .ret) .skip)))))) (.region [aV 52 .add 21 1,I 21 52])))) (aa [bz 4 true] .ret))))
def ao4:b4 aT TO [.tmp 2] 1 Tryz.f77=true:=bi
def apc:b4 aT TV [.tmp 4] 2 Tryz.f80=true:=bi
def Fc:b4 aT AU [.tmp 4] 2 Tryz.f148=true:=bi
def ao3:b4 aT TN [.tmp 4] 2 Tryz.f153=true:=bi
def ao7:b4 aT TR [.tmp 2] 1 Tryz.f154=true:=bi
def ao5:b4 aT TP [.tmp 4] 2 Tryz.f155=true:=bi
def aoL:b4 aT Tv [.tmp 4] 2 Tryz.f203=true:=bi
def Ds:C:=(aa [cZ 2 0,cZ 3 1,bP 4 0] (.seq (aa [aF 7 0 1 2,ay 8 1 7,aF 9 0 1 3,ay 10 1 9,bu 11 .neq 8 10] (aW 11 (aa [aF 12 0 1 2,ay 13 1 12,aF 14 0 1 3,ay 15 1 14,bu 16 .lss 13 15,c0 17 188 16,I 4 17] .ret) .skip)) (.seq (aa [aF 18 1 1 2,ay 19 1 18,aF 20 1 1 3,ay 21 1 20,bu 22 .neq 19 21] (aW 22 (aa [aF 23 1 1 2,ay 24 1 23,aF 25 1 1 3,ay 26 1 25,bu 27 .lss 24 26,c0 28 188 27,I 4 28] .ret) .skip)) (.seq (aa [aF 29 2 1 2,ay 30 1 29,aF 31 2 1 3,ay 32 1 31,bu 33 .neq 30 32] (aW 33 (aa [aF 34 2 1 2,ay 35 1 34,aF 36 2 1 3,ay 37 1 36,bu 38 .lss 35 37,c0 39 188 38,I 4 39] .ret) .skip)) (.seq (aa [bP 5 0] (.block 0 (.loop (.seq (aa [I 40 5,aF 41 3 1 2,ay 42 1 41,cw 43 42,bu 44 .lss 40 43,I 45 44,cg 45 true 46 5,ax 45 true (aF 47 3 1 3),ax 45 true (ay 48 1 47),ax 45 true (cw 49 48),ax 45 true (bu 50 .lss 46 49),eg 51 45 50] (aW 51 .skip (.exit 0))) (.seq (.block 1 (.seq (.drawn true 68 [aF 54 3 1 2,ay 55 1 54,I 56 5,ck 57 4 55 56,bk 58 4 57,aF 59 3 1 3,ay 60 1 59,I 61 5,ck 62 4 60 61,bk 63 4 62,cb 64 125 58 63,I 6 64]) (aa [I 65 6,aV 66 .neq 65 0] (aW 66 (aa [I 67 6,I 4 67] .ret) .skip)))) (.region [I 52 5,aV 53 .add 52 1,I 5 53])))))) (aa [bP 4 0] .ret))))))
def TD:C:=(aa [cZ 2 0,cZ 3 1,bz 4 false] (aa [bk 5 4 2,bk 6 4 3,cb 7 125 5 6,aV 8 .eql 7 0,I 4 8] .ret))
def TE:C:=(aa [bP 2 0] (.seq (aa [I 3 0] (aW 3 (aa [bP 2 (-1)] .ret) .skip)) (aa [bP 2 1] .ret)))
def I2:b4 aT Ds [.tmp 4] 2 Tryz.f125=true:=bi
def aoT:b4 aT TD [.tmp 4] 2 Tryz.f129=true:=bi
def aoU:b4 aT TE [.tmp 2] 1 Tryz.f188=true:=bi
def adA{t u:T}(J:t.kind=u.kind)(U:t.int=u.int)(a:t.name=u.name)(b:t.args=u.args):t=u:=by cases t<;>cases u<;>simp_all
def sK(b:Bool):bU au 188 [.bool b] (aj (if b then-1 else 1)):=by
 refine bI a6 Tryz.func188 aoU fun a=>?_;unfold TE;simp;((repeat' first|refine al ?_|simp|((first|apply ct|apply cz|apply cy)<;>intro h<;>try simp at h))<;>(try exact c3));all_goals simp[bZ,ba,be,a1]
 all_goals simp_all
def apf{a b:T}(c:a.args=[]\/b.args=[])(J:a.kind=b.kind)(U:a.int=b.int):e4 a b=lz a.name b.name:=by cases a<;>cases b<;>simp_all[e4]
def EB(a b:T)(i:Nat)(_:Unit):Prop:=a.args.take i=b.args.take i
def acC(a:T)(o:∀x∈a.args,∀b:T,bU au 125 [x.e,b.e] (aj (e4 x b)))(b:T):bU au 125 [a.e,b.e] (aj (e4 a b)):=by
 have hle:a.args.length<=2:=by cases a<;>simp
 by_cases c:a.kind=b.kind
 ·by_cases hi:a.int=b.int
  ·by_cases j:a.name=b.name
   ·have hlen:a.args.length=b.args.length:=by cases a<;>cases b<;>simp at c⊢
    refine bI a6 Tryz.func125 I2 fun k=>?_;unfold Ds;simp[c,hi,j];refine eZ [2,3] (fun i (_:Unit)=>[(5,aj i)]) a.args.length (EB a b) () b9 (by simp[EB]) (fun _ d _=>?_) (fun i _ g d _=>?_)
    ·simp;(repeat' first|refine al ?_|simp);simp[bZ,ba,be,a1];unfold EB at d;rw[iv Ω,iv Ω]at d;exact((sA a b).2 (adA c hi j d)).symm
    ·have l:i<b.args.length:=Ω
     obtain⟨x,e⟩:∃x,x=a.args[i]:=⟨_,rfl⟩;obtain⟨y,f⟩:∃y,y=b.args[i]:=⟨_,rfl⟩;have m:=o x (by rw[e];exact List.getElem_mem g) y;simp[g,l,<-e,<-f];(with_reducible repeat' first|((first|apply ct|apply cz|apply cy)<;>intro h<;>try simp at h)|refine al ?_|refine aO m ?_|refine aP m ?_|simp)
     ·simp[bZ,ba,be,a1];unfold EB at d;cases a with
      |pair n a2=>
       cases b with
       |pair p q=>
        simp at g d e f;rcases(by omega:i=0\/i=1)with rfl|rfl
        ·simp at e f;subst e f;simp[e4,h]
        ·simp at d e f;subst e f d;simp[e4,(sA n n).2 rfl]
       |_=>simp at c
      |_=>simp at g
     ·refine bY.rng () g ?_ b9;unfold EB at d⊢;rw[List.take_succ,List.take_succ,d,cl g,cl l,<-e,<-f,(sA x y).1 h]
   ·refine bI a6 Tryz.func125 I2 fun k=>?_;unfold Ds;simp[c,hi,j];((repeat' first|refine al ?_|refine aO (sK _) ?_|refine aP (sK _) ?_|simp|((first|apply ct|apply cz|apply cy)<;>intro h<;>try simp at h))<;>(try exact c3));simp[bZ,ba,be,a1];have:a.args=[]\/b.args=[]:=by cases a<;>cases b<;>simp at c j⊢
    rw[apf this c hi,lz,if_neg j]
  ·refine bI a6 Tryz.func125 I2 fun k=>?_;unfold Ds;simp[c,hi];((repeat' first|refine al ?_|refine aO (sK _) ?_|refine aP (sK _) ?_|simp|((first|apply ct|apply cz|apply cy)<;>intro h<;>try simp at h))<;>(try exact c3));simp[bZ,ba,be,a1];cases a<;>cases b<;>simp at c hi
   ·rw[ZJ];simp[fb];split<;>(try split)<;>omega
   ·rw[ZI];simp[fb];split<;>(try split)<;>omega
 ·refine bI a6 Tryz.func125 I2 fun k=>?_;unfold Ds;simp[c];((repeat' first|refine al ?_|refine aO (sK _) ?_|refine aP (sK _) ?_|simp|((first|apply ct|apply cz|apply cy)<;>intro h<;>try simp at h))<;>(try exact c3));simp[bZ,ba,be,a1];rw[tM c];simp[fb];split<;>(try split)<;>omega
def J8(a:T):∀b:T,bU au 125 [a.e,b.e] (aj (e4 a b)):=by
 induction a with
 |pair x y e d=>
  refine acC _ fun z c=>?_;simp at c;rcases c with rfl|rfl
  ·exact e
  ·exact d
 |_=>exact acC _ fun x f=>by simp at f
def acF(a b:T):bU au 129 [a.e,b.e] (.bool (decide (a=b))):=by refine bI a6 Tryz.func129 aoT fun c=>?_;unfold TD;simp;(repeat' first|refine al ?_|refine aO (J8 _ _) ?_|refine aP (J8 _ _) ?_|simp);simp[bZ,ba,be,a1];have:=sA a b;by_cases h:e4 a b=0<;>simp_all
def asx{s t:List Bd}(j:fl s)(k:fl t):bU au 153 [bL (s.map Bd.e),bL (t.map Bd.e)] (bL ((hx s t).map Bd.e)):=by
 have h:=k.len;generalize bt:hx s t=R;refine bI a6 Tryz.func153 ao3 fun m=>?_;unfold TN;simp;refine fS (α:=List Bd) (fun i out=>⟨[(0,bL (s.map Bd.e)),(11,bL (t.map Bd.e)),(12,aj t.length),(5,.slice 5 (.own (.loc 0)) (out.map Bd.e)),(13,aj i)],[],[(.loc 0,⟨out.length,113,5,none⟩)],1,[]⟩) t.length (sr s t) [] b9 (by simp[sr,hx]) (fun out c _=>?_) (fun i out hi c _=>?_)
 ·rw[sr,iv (dO _),bt]at c;rw[<-c];exact cr
 ·obtain⟨b,f,e⟩:=eW hi;have l:out.length<=1000000:=by
   have:out.length<=(t.take i).length:=by rw[c];exact List.length_filter_le _ _
   simp at this;omega
  have a:=wT s b.v j.len;cases d:dG s b.v with
  |none=>
   have g:sr s t (i+1) (out++[b]):=by rw[sr,nG f,hx,List.filter_append,c];simp[hx,d]
   rw[d]at a;simp only[k5,kf]at a;clear c f d;simp[hi,e];(repeat' first|refine al ?_|refine aO a ?_|refine aP a ?_|simp[e,hi]);all_goals try refine⟨by unfold lim;omega,?_⟩
   (repeat' first|refine al ?_|simp);refine bY.rng (out++[b]) hi g ?_;simp;exact⟨by simp[fresh,aH,az,cc,aM,ae,j0],eo (by simp[fresh,aH,az,cc,aM,ae,j0]),ep (by simp[fresh,aH,az,dV,aM,ae,j0]),Ψ⟩
  |some x=>
   have g:sr s t (i+1) out:=by rw[sr,nG f,hx,List.filter_append,c];simp[hx,d]
   rw[d]at a;simp only[lI,rU]at a;clear c f d;simp[hi,e];(repeat' first|refine al ?_|refine aO a ?_|refine aP a ?_|simp[e,hi]);refine bY.rng out hi g ?_;exact b9
def arW{s t:List Bd}(v:fl s)(m:fl t):bU au 203 [bL (s.map Bd.e),bL (t.map Bd.e)] (.bool (oJ s t)):=by
 have z:=v.len;generalize bt:oJ s t=R;have q:=acS v;have r:=acS m;refine bI a6 Tryz.func203 aoL fun A=>?_;unfold Tv;simp;(repeat' first|refine al ?_|refine aO q ?_|refine aP q ?_|refine aO r ?_|refine aP r ?_|simp);refine eZ [1,19,20] (fun i (_:Unit)=>[(21,aj i)]) s.length (qJ (tJ t) s) () b9 (fun k b n=>Ω) (fun _ g _=>?_) (fun i _ hi g _=>?_)
 ·have:R=true:=by rw[<-bt,oJ,j6];intro b w;obtain⟨k,n,e⟩:=pA w;exact g k b n (by rw[cl n,e])
  rw[this];exact cr
 ·obtain⟨b,j,f⟩:=eW hi;have p:tJ t b=false->R=false:=fun h=>by rw[<-bt,Bool.eq_false_iff];intro u;rw[oJ,j6]at u;rw[u b (ft j)]at h;cases h
  have c:=Kc t m.len (.var b.v);have a:=Kc t m.len b.t;have o:=FH m b.v;have y:((T.var b.v).ap (cG t)).size<=5000:=o;rw[lJ y]at c;rw[show(T.var b.v).ap (cG t)=cG t b.v from rfl]at c;by_cases l:(b.t.ap (cG t)).size<=5000
  ·rw[lJ l]at a;by_cases he:cG t b.v=b.t.ap (cG t)
   ·have x:=g.step j (by simp[tJ,he]);have d:=acF (cG t b.v) (b.t.ap (cG t));rw[lJ he]at d;clear g j;simp[hi,f];(repeat' first|refine al ?_|refine aO (k4 _) ?_|refine aP (k4 _) ?_|refine aO c ?_|refine aP c ?_|refine aO a ?_|refine aP a ?_|refine aO d ?_|refine aP d ?_|simp[f,hi]);exact bY.rng () hi x b9
   ·rw[p (by simp[tJ,he])];have d:=acF (cG t b.v) (b.t.ap (cG t));rw[mv he]at d;clear g j;simp[hi,f];(repeat' first|refine al ?_|refine aO (k4 _) ?_|refine aP (k4 _) ?_|refine aO c ?_|refine aP c ?_|refine aO a ?_|refine aP a ?_|refine aO d ?_|refine aP d ?_|simp[f,hi]);simp[bZ,ba,be,a1]
  ·rw[mv l]at a;rw[p (by simp only[tJ,iO];intro e;rw[<-e]at l;exact l o)];clear g j;simp[hi,f];(repeat' first|refine al ?_|refine aO (k4 _) ?_|refine aP (k4 _) ?_|refine aO c ?_|refine aP c ?_|refine aO a ?_|refine aP a ?_|simp[f,hi]);simp[bZ,ba,be,a1]
def QT(d e:List Bd):bU au 155 [bL (d.map Bd.e),bL (e.map Bd.e)] (aj (fa d e)):=by
 generalize bt:fa d e=R;refine bI a6 Tryz.func155 ao5 fun w=>?_;unfold TP;have G:d.length<=68719476736:=by simp[eM,eV,eN,lim]at w;omega
 have he:e.length<=68719476736:=by simp[eM,eV,eN,lim]at w;omega
 simp;refine xb [0,1] (fun(i:Nat)=>[(5,aj i)]) (fun i=>d.length-i) (NM d e) 0 b9 ⟨Ω,Ω,Ψ⟩ (fun i B _=>?_);obtain⟨J,U,a⟩:=B;rw[bt]at a;by_cases hi:i<d.length
 ·by_cases b:i<e.length
  ·obtain⟨x,m⟩:∃x,d[i]? =some x:=⟨_,cl hi⟩;obtain⟨y,n⟩:∃y,e[i]? =some y:=⟨_,cl b⟩;have f:∀h,(d[i]'h)=x:=fun h=>by rw[cl hi]at m;exact e6 m
   have c:∀h,(e[i]'h)=y:=fun h=>by rw[cl b]at n;exact e6 n
   have r:d.drop i=x::d.drop (i+1):=by rw[lG hi,f]
   have q:e.drop i=y::e.drop (i+1):=by rw[lG b,c]
   rw[r,q]at a;rw[ZG]at a;by_cases g:x.v=y.v
   ·have j:fb x.v y.v=0:=(k2.zero _ _).2 g;have p:(x.v !=y.v)=false:=by simp[g]
    rw[if_pos j]at a;by_cases l:e4 x.t y.t=0
    ·rw[if_pos l]at a;have E:NM d e (i+1):=⟨Ω,Ω,by rw[bt];exact a⟩;have k:=J8 x.t y.t;rw[l]at k;clear r q m n a j;simp[hi,b,f,c];((repeat' first|refine al ?_|refine aO k ?_|refine aP k ?_|simp[f,c,hi,b,g,p]|((first|apply ct|apply cz|apply cy)<;>intro h<;>try simp at h))<;>(try exact c3));all_goals exact bY.whl (i+1) Ω E b9
    ·rw[if_neg l]at a;have k:=J8 x.t y.t;have z:(e4 x.t y.t !=0)=true:=by simp[l]
     clear r q m n j;simp[hi,b,f,c];(repeat' first|refine al ?_|refine aO k ?_|refine aP k ?_|simp[f,c,hi,b,g,p,l,z]);all_goals simp[bZ,ba,be,a1]
     all_goals exact a
   ·have j:¬fb x.v y.v=0:=fun h=>g ((k2.zero _ _).1 h);have p:(x.v !=y.v)=true:=by simp[g]
    rw[if_neg j]at a;have dF:R=if decide (x.v<y.v)=true then-1 else 1:=by rw[<-a];unfold fb;simp only[gy];(repeat' split)<;>omega
    clear r q m n a j;rw[dF];simp[hi,b,f,c];(repeat' first|refine al ?_|refine aO (sK _) ?_|refine aP (sK _) ?_|simp[f,c,hi,b,g,p]);all_goals simp[bZ,ba,be,a1]
  ·have hle:e.length<d.length:=Ω
   have:(1:Int)=R:=by rw[<-a,fa,EO _ _ _ (.inr (List.drop_eq_nil_of_le Ω))];simp only[ud];unfold fb;(repeat' split)<;>omega
   have t:¬(d.length:Int)=e.length:=Ω
   have v:((d.length:Int) !=e.length)=true:=by simp;omega
   have s:¬(d.length:Int)<e.length:=Ω
   have o:¬d.length<e.length:=Ω
   have u:¬d.length=e.length:=Ω
   clear a;rw[<-this];simp[hi,b];(repeat' first|refine al ?_|refine aO (sK _) ?_|refine aP (sK _) ?_|simp[hi,b,t,v,s,o,u]);all_goals simp[bZ,ba,be,a1]
   all_goals(try simp[o])
 ·have F:i=d.length:=Ω
  by_cases A:d.length=e.length
  ·have:(0:Int)=R:=by rw[<-a,fa,EO _ _ _ (.inl (List.drop_eq_nil_of_le Ω))];simp only[ud];unfold fb;(repeat' split)<;>omega
   clear a;rw[<-this];exact cr
  ·have:(-1:Int)=R:=by rw[<-a,fa,EO _ _ _ (.inl (List.drop_eq_nil_of_le Ω))];simp only[ud];unfold fb;(repeat' split)<;>omega
   have t:¬(d.length:Int)=e.length:=Ω
   have v:((d.length:Int) !=e.length)=true:=by simp;omega
   have s:(d.length:Int)<e.length:=Ω
   have o:d.length<e.length:=Ω
   clear a;rw[<-this];simp[hi];(repeat' first|refine al ?_|refine aO (sK _) ?_|refine aP (sK _) ?_|simp[hi,t,v,s,o,A]);all_goals simp[bZ,ba,be,a1]
   all_goals(try simp[o])
def alN(n:Int)(a b:T)(i:Nat)(_:Unit):Prop:=(1<=i->gi n a=true)/\(2<=i->gi n b=true)
def Aq(n:Int):∀t:T,bU au 148 [t.e,aj n] (.bool (gi n t))
 | .pair a b=>by
  have e:=Aq n a;have d:=Aq n b;refine bI a6 Tryz.func148 Fc fun j=>?_;unfold AU;simp;refine eZ [1,2,8,9] (fun i (_:Unit)=>[(10,aj i)]) 2 (alN n a b) () b9 ⟨fun h=>Ω,fun h=>Ω⟩ (fun _ c _=>?_) (fun i _ hi c _=>?_)
  ·simp;(repeat' first|refine al ?_|simp);simp[bZ,ba,be,a1];simp[gi,c.1,c.2]
  ·rcases(by omega:i=0\/i=1)with rfl|rfl
   ·cases f:gi n a
    ·rw[f]at e;simp;(repeat' first|refine al ?_|refine aO e ?_|refine aP e ?_|simp);simp[bZ,ba,be,a1];simp[gi,f]
    ·rw[f]at e;simp;((repeat' first|refine al ?_|refine aO e ?_|refine aP e ?_|simp|((first|apply ct|apply cz|apply cy)<;>intro h<;>try simp at h))<;>(try exact c3));exact bY.rng () hi ⟨fun _=>f,fun h=>Ω⟩ b9
   ·cases g:gi n b
    ·rw[g]at d;simp;((repeat' first|refine al ?_|refine aO d ?_|refine aP d ?_|simp|((first|apply ct|apply cz|apply cy)<;>intro h<;>try simp at h))<;>(try exact c3));simp[bZ,ba,be,a1];simp[gi,g]
    ·rw[g]at d;simp;((repeat' first|refine al ?_|refine aO d ?_|refine aP d ?_|simp|((first|apply ct|apply cz|apply cy)<;>intro h<;>try simp at h))<;>(try exact c3));exact bY.rng () hi ⟨fun _=>c.1 Ω,fun _=>g⟩ b9
 | .sym v=>by
  refine bI a6 Tryz.func148 Fc fun j=>?_;unfold AU;simp;refine eZ [1,2,8,9] (fun i (_:Unit)=>[(10,aj i)]) 0 (fun i _=>True) () b9 trivial (fun _ c _=>?_) (fun i _ hi c _=>Ω);simp;((repeat' first|refine al ?_|simp|((first|apply ct|apply cz|apply cy)<;>intro h<;>try simp at h))<;>(try exact c3));all_goals simp[bZ,ba,be,a1]
  all_goals simp[gi]
 | .num v=>by
  refine bI a6 Tryz.func148 Fc fun j=>?_;unfold AU;simp;refine eZ [1,2,8,9] (fun i (_:Unit)=>[(10,aj i)]) 0 (fun i _=>True) () b9 trivial (fun _ c _=>?_) (fun i _ hi c _=>Ω);simp;(repeat' first|refine al ?_|simp);all_goals simp[bZ,ba,be,a1]
  all_goals simp[gi]
 | .var v=>by
  refine bI a6 Tryz.func148 Fc fun j=>?_;unfold AU;simp;refine eZ [1,2,8,9] (fun i (_:Unit)=>[(10,aj i)]) 0 (fun i _=>True) () b9 trivial (fun _ c _=>?_) (fun i _ hi c _=>Ω);simp;(repeat' first|refine al ?_|simp);all_goals simp[bZ,ba,be,a1]
  all_goals simp[gi]
 | .nil=>by
  refine bI a6 Tryz.func148 Fc fun j=>?_;unfold AU;simp;refine eZ [1,2,8,9] (fun i (_:Unit)=>[(10,aj i)]) 0 (fun i _=>True) () b9 trivial (fun _ c _=>?_) (fun i _ hi c _=>Ω);simp;(repeat' first|refine al ?_|simp);all_goals simp[bZ,ba,be,a1]
  all_goals simp[gi]
def acM(s:List Bd)(n:Int):bU au 80 [bL (s.map Bd.e),aj n] (.bool (s.all (lM n))):=by
 generalize bt:s.all (lM n)=R;refine bI a6 Tryz.func80 apc fun o=>?_;unfold TV;have q:s.length<=68719476736:=by simp[eM,eV,eN,lim]at o;omega
 simp;refine eZ [1,7,8] (fun i (_:Unit)=>[(9,aj i)]) s.length (qJ (lM n) s) () b9 (fun k b d=>Ω) (fun _ a _=>?_) (fun i _ hi a _=>?_)
 ·have:R=true:=by rw[<-bt,j6];intro b m;obtain⟨k,d,e⟩:=pA m;exact a k b d (by rw[cl d,e])
  rw[this];exact cr
 ·obtain⟨b,c,p⟩:=eW hi;have g:lM n b=false->R=false:=fun h=>by rw[<-bt,Bool.eq_false_iff];intro j;rw[j6]at j;rw[j b (ft c)]at h;cases h
  have f:=Aq n b.t;by_cases J:b.v<n
  ·have l:¬n<=b.v:=Ω
   cases U:gi n b.t
   ·rw[g (by simp[lM,U])];rw[U]at f;clear a c;exact cr
   ·have r:=a.step c (by simp[lM,J,U]);rw[U]at f;clear a c;exact iV
  ·have l:n<=b.v:=Ω
   rw[g (by simp[lM,J])];clear a c;exact cr
def asA(l:List (List Bt)):bU au 77 [cX (l.map gz)] (.bool (l.all hy)):=by
 generalize bt:l.all hy=R;refine bI a6 Tryz.func77 ao4 fun j=>?_;unfold TO;have n:l.length<=68719476736:=by simp[eM,eV,eN,lim]at j;omega
 simp;refine eZ [5,6] (fun i (_:Unit)=>[(7,aj i)]) l.length (qJ hy l) () b9 (fun k b f=>Ω) (fun _ c _=>?_) (fun i _ hi c _=>?_)
 ·have:R=true:=by rw[<-bt,j6];intro b a;obtain⟨k,f,e⟩:=pA a;exact c k b f (by rw[cl f,e])
  rw[this];exact cr
 ·obtain⟨b,d,m⟩:=eW hi;have g:bU au 76 [gz b] (.bool (hy b)):=QY b;cases a:hy b
  ·have:R=false:=by rw[<-bt,Bool.eq_false_iff];intro h;rw[j6]at h;rw[h b (ft d)]at a;cases a
   rw[this];rw[a]at g;clear c d;exact cr
  ·have o:=c.step d a;rw[a]at g;clear c d;exact iV
def Uj(a:List (List Bd))(k:Nat)(m:List Bd):mW k (a.map cP)++cP m::oV k (a.map cP)=(a.take k++m::a.drop k).map cP:=Ψ
def r8(a:List (List Bd))(k:Nat)(m:List Bd):cf (mW k (a.map cP)++cP m::oV k (a.map cP))=mW k (a.map cP)++cP m::oV k (a.map cP):=by rw[Uj,Qt]
def r7(S:aB->Prop)(a:List (List Bd))(k:Nat)(m:List Bd):aH S (mW k (a.map cP)++cP m::oV k (a.map cP))=True:=by rw[Uj,XU]
def Ui(a:List (List Bd))(m:List Bd):a.map cP++[cP m]=(a++[m]).map cP:=Ψ
def r6(a:List (List Bd))(m:List Bd):cf (a.map cP++[cP m])=a.map cP++[cP m]:=by rw[Ui,Qt]
def r5(S:aB->Prop)(a:List (List Bd))(m:List Bd):aH S (a.map cP++[cP m])=True:=by rw[Ui,XU]
def acK(L:List (List Bd))(K:∀d∈L,fl d):bU au 154 [cX (L.map cP)] (cX ((lY L).map cP)):=by
 generalize bt:lY L=R;rw[amO]at bt;refine bI a6 Tryz.func154 ao7 fun U=>?_;unfold TR;have W:L.length<=68719476736:=by simp[eM,eV,eN,lim]at U;omega
 simp;refine eZ [0,12,13] (fun i (a:List (List Bd))=>[(3,cX (a.map cP)),(14,aj i)]) L.length (zE L) [] b9 (by simp[zE]) (fun a m _=>?_) (fun i a hi m _=>?_)
 ·rw[zE,jA,bt]at m;subst m;exact cr
 ·obtain⟨e,he,N⟩:=eW hi;have A:iP fa a:=by rw[m];exact OA _ (by simp[iP])
  have V:a.length<=i:=by have:=YF (L:=L) (L.take i) [];rw[m];simp at this⊢;omega
  have g:=m.step he;have P:=K e (ft he);have l:∀d,bU au 155 [cP d,cP e] (aj (fa d e)):=fun d=>QT d e;clear m he;simp[hi,N];(repeat' first|refine al ?_|simp[hi,N]);refine eZ [0,3,5,12,13,14,18,19] (fun j (b:Bool)=>[(6,.bool b),(20,aj j)]) L.length (rr L e) true b9 (by simp[rr]) (fun keep m _=>?_) (fun j keep t m _=>?_)
  ·rw[rr,jA]at m;have M:keep=jP L e:=m;rw[rD,<-M]at g;clear m M;simp;(repeat' first|refine al ?_|simp);refine xb [0,3,5,6,12,13,14] (fun(k:Nat)=>[(9,aj k)]) (fun k=>k) (Ig a e) a.length b9 ⟨Ω,fun c h=>by simp at h⟩ (fun k m _=>?_);have Z:=m.1;rcases Nat.eq_zero_or_pos k with Y|s
   ·have F:decide ((0:Int)<k)=false:=by simp;omega
    have z:¬(0:Int)<k:=Ω
    have f:=m.fin A fun d h=>Ω
    clear m A;cases keep with
    |false=>simp only[hR,if_false]at g;clear f;exact iV
    |true=>
     simp only[if_true]at g;by_cases n:k<a.length
     ·obtain⟨c,aw,x⟩:=eW n;rw[aw]at f;by_cases q:fa c e=0
      ·rw[if_pos (by simp[q])]at f;rw[f]at g;clear f aw;simp[n,x,F,z];((repeat' first|refine al ?_|refine aO (l _) ?_|refine aP (l _) ?_|simp[n,x,q,F,z]|((first|apply ct|apply cz|apply cy)<;>intro h<;>try simp at h))<;>(try exact c3));all_goals exact bY.rng a hi g b9
      ·rw[if_neg (by simp[q])]at f;have B:(fa c e !=0)=true:=by simp[q]
       rw[f]at g;clear f aw;simp[n,x,F,z];((repeat' first|refine al ?_|refine aO (l _) ?_|refine aP (l _) ?_|simp[n,x,q,B,F,z]|((first|apply ct|apply cz|apply cy)<;>intro h<;>try simp at h))<;>(try exact c3));all_goals try refine⟨by unfold lim;omega,?_⟩
       all_goals(repeat' first|refine al ?_|simp)
       all_goals try refine⟨by unfold lim;omega,?_⟩
       all_goals((repeat' first|refine al ?_|simp|((first|apply ct|apply cz|apply cy)<;>intro h<;>try simp at h))<;>(try exact c3))
       all_goals exact bY.rng _ hi g ⟨by simp[fresh,aH,az,cc,aM,ae,iv,r8,r7,r6,r5],eo (by simp[fresh,aH,az,cc,aM,ae,iv,r8,r7,r6,r5]),ep (by simp[fresh,aH,az,dV,aM,ae,iv,r8,r7,r6,r5]),Ψ⟩
     ·rw[q0 Ω]at f;simp only[hR,if_false]at f;rw[f]at g;have H:k=a.length:=Ω
      have G:a.take k++e::a.drop k=a++[e]:=by rw[H];simp
      rw[G]at g;clear f G;simp[n,F,z];((repeat' first|refine al ?_|refine aO (l _) ?_|refine aP (l _) ?_|simp[n,H,F,z]|((first|apply ct|apply cz|apply cy)<;>intro h<;>try simp at h))<;>(try exact c3));all_goals try refine⟨by unfold lim;omega,?_⟩
      all_goals(repeat' first|refine al ?_|simp)
      all_goals try refine⟨by unfold lim;omega,?_⟩
      all_goals((repeat' first|refine al ?_|simp|((first|apply ct|apply cz|apply cy)<;>intro h<;>try simp at h))<;>(try exact c3))
      all_goals exact bY.rng _ hi g ⟨by simp[fresh,aH,az,cc,aM,ae,iv,r8,r7,r6,r5],eo (by simp[fresh,aH,az,cc,aM,ae,iv,r8,r7,r6,r5]),ep (by simp[fresh,aH,az,dV,aM,ae,iv,r8,r7,r6,r5]),Ψ⟩
   ·obtain⟨d,v⟩:∃d,a[k-1]? =some d:=⟨_,cl Ω⟩;have u:((k:Int)-1).toNat=k-1:=Ω
    have w:∀h,(a[k-1]'h)=d:=fun h=>by rw[cl h]at v;exact e6 v
    have r:(0:Int)<k:=Ω
    have p:k-1<a.length:=Ω
    by_cases o:0<=fa d e
    ·have S:Ig a e (k-1):=⟨Ω,fun c aw=>by rw[v]at aw;cases aw;exact o⟩;clear m A g v;simp[s,r,u,w,o,p];((repeat' first|refine al ?_|refine aO (l _) ?_|refine aP (l _) ?_|simp[s,r,u,w,o,p]|((first|apply ct|apply cz|apply cy)<;>intro h<;>try simp at h))<;>(try exact c3));refine bY.whl (k-1) Ω S ?_;have Q:((k-1:Nat):Int)=(k:Int)-1:=Ω
     simp[Q];exact b9
    ·have f:=m.fin A fun X _ J=>by rw[v]at J;cases J;omega
     clear m A v;cases keep with
     |false=>simp only[hR,if_false]at g;clear f;simp[s,r,u,w,o,p];(repeat' first|refine al ?_|refine aO (l _) ?_|refine aP (l _) ?_|simp[s,r,u,w,o,p]);all_goals exact bY.rng a hi g b9
     |true=>
      simp only[if_true]at g;by_cases n:k<a.length
      ·obtain⟨c,aw,x⟩:=eW n;rw[aw]at f;by_cases q:fa c e=0
       ·rw[if_pos (by simp[q])]at f;rw[f]at g;clear f aw;simp[n,x,s,r,u,w,o,p];((repeat' first|refine al ?_|refine aO (l _) ?_|refine aP (l _) ?_|simp[n,x,q,s,r,u,w,o,p]|((first|apply ct|apply cz|apply cy)<;>intro h<;>try simp at h))<;>(try exact c3));all_goals exact bY.rng a hi g b9
       ·rw[if_neg (by simp[q])]at f;have B:(fa c e !=0)=true:=by simp[q]
        rw[f]at g;clear f aw;simp[n,x,s,r,u,w,o,p];((repeat' first|refine al ?_|refine aO (l _) ?_|refine aP (l _) ?_|simp[n,x,q,B,s,r,u,w,o,p]|((first|apply ct|apply cz|apply cy)<;>intro h<;>try simp at h))<;>(try exact c3));all_goals try refine⟨by unfold lim;omega,?_⟩
        all_goals(repeat' first|refine al ?_|simp)
        all_goals try refine⟨by unfold lim;omega,?_⟩
        all_goals((repeat' first|refine al ?_|simp|((first|apply ct|apply cz|apply cy)<;>intro h<;>try simp at h))<;>(try exact c3))
        all_goals exact bY.rng _ hi g ⟨by simp[fresh,aH,az,cc,aM,ae,iv,r8,r7,r6,r5],eo (by simp[fresh,aH,az,cc,aM,ae,iv,r8,r7,r6,r5]),ep (by simp[fresh,aH,az,dV,aM,ae,iv,r8,r7,r6,r5]),Ψ⟩
      ·rw[q0 Ω]at f;simp only[hR,if_false]at f;rw[f]at g;have H:k=a.length:=Ω
       have G:a.take k++e::a.drop k=a++[e]:=by rw[H];simp
       rw[G]at g;clear f G;simp[n,s,r,u,w,o,p];((repeat' first|refine al ?_|refine aO (l _) ?_|refine aP (l _) ?_|simp[n,H,s,r,u,w,o,p]|((first|apply ct|apply cz|apply cy)<;>intro h<;>try simp at h))<;>(try exact c3));all_goals try refine⟨by unfold lim;omega,?_⟩
       all_goals(repeat' first|refine al ?_|simp)
       all_goals try refine⟨by unfold lim;omega,?_⟩
       all_goals(repeat' first|refine al ?_|simp)
       all_goals exact bY.rng _ hi g ⟨by simp[fresh,aH,az,cc,aM,ae,iv,r8,r7,r6,r5],eo (by simp[fresh,aH,az,cc,aM,ae,iv,r8,r7,r6,r5]),ep (by simp[fresh,aH,az,dV,aM,ae,iv,r8,r7,r6,r5]),Ψ⟩
  ·obtain⟨d,v,hdi⟩:=eW t;have y:=m.step v;have O:=K d (ft v);have E:bU au 203 [cP d,cP e] (.bool (oJ d e)):=arW O P;clear m v g A;cases keep with
   |false=>simp only[Bool.false_and]at y;exact iV
   |true=>
    simp only[Bool.true_and,xU]at y;by_cases q:fa d e=0
    ·rw[lJ ((mO.zero _ _).1 q),Bool.true_or]at y;simp[t,hdi];(repeat' first|refine al ?_|refine aO (l _) ?_|refine aP (l _) ?_|simp[t,hdi,q]);all_goals exact bY.rng true t y b9
    ·rw[mv (fun h=>q ((mO.zero _ _).2 h)),Bool.false_or]at y;have B:(fa d e==0)=false:=by simp[q]
     cases bf:oJ d e
     ·rw[bf]at y E;simp[t,hdi];(repeat' first|refine al ?_|refine aO (l _) ?_|refine aP (l _) ?_|refine aO E ?_|refine aP E ?_|simp[t,hdi,q,B]);all_goals exact bY.rng true t y b9
     ·rw[bf]at y E;simp[t,hdi];(repeat' first|refine al ?_|refine aO (l _) ?_|refine aP (l _) ?_|refine aO E ?_|refine aP E ?_|simp[t,hdi,q,B]);all_goals exact bY.rng false t y b9
def _root_.Go.Pv.Bd.k(b:Bd)(κ:Nat):af:= .agg [aj b.v,aj b.t.kind,aj b.t.int,.str b.t.name,.slice 4 (.tr (.loc κ) 0) (b.t.args.map T.e)]
def Io:nI Bd.k Bd.e:=⟨fun x n=>rfl,fun x n=>⟨trivial,trivial,trivial,trivial,Cf n,trivial⟩,fun x n=>by simp[Bd.k,b5],fun S x n h=>by simp[Bd.k,az,aH,h]⟩
@[simp]def auc(t:T)(n:Nat):cells (t.k n)=[aj t.kind,aj t.int,.str t.name,.slice 4 (.tr (.loc n) 0) (t.args.map T.e)]:=rfl
@[simp]def axv(t:T)(n:Nat):eT (t.k n)=true:=rfl
def OR(t:List Bd)(k:t.length<=1000000):fW au 168 [bL (t.map Bd.e)] fun κ=>.slice 5 (.tr (.loc κ) 0) (t.map Bd.e):=by
 refine fW.mk mixed a6 Tryz.func168 Zi Ψ fun j κ=>?_;unfold K1;simp;refine fS (fun i (x:Nat×List (Bd×Nat))=>⟨[(7,bL (t.map Bd.e)),(8,aj t.length),(3,.slice 5 (.own (.loc 0)) (j1 Bd.k x.2)),(9,aj i)],[],[(.loc 0,⟨x.2.length,113,5,none⟩)],x.1,[]⟩) t.length (fun i x=>1<=x.1/\q4 x.1 x.2/\x.2.map (·.1)=t.take i) (1,[]) b9 ⟨Ω,.nil _,Ψ⟩ (fun x c _=>?_) (fun i x hi c _=>?_)
 ·obtain⟨n,out⟩:=x;obtain⟨J,U,a⟩:=c;simp only[jA]at J U a;simp;(repeat' first|refine al ?_|simp);(refine h4.val Ψ ?_;simp[ba,be,a1,e9,hn,eC,gR,ef,gH,tnL,tn,fq,gb,fold,hE,hC,iH,ae,ei,cf,b5,Io.okL,Io.nodup U,Io.stL,a])
 ·obtain⟨n,out⟩:=x;obtain⟨J,U,a⟩:=c;simp only at J U a;obtain⟨b,g,f⟩:=eW hi;have h:out.length<=1000000:=by have:=fy List.length a;simp at this;omega
  simp[hi,f];(refine hK.own Ψ (am9 b.t) (by simp[qu,ae]<;>omega) ?_;simp);(repeat' first|refine al ?_|simp);have e:=U.snoc b (show n<=n+1+18 by omega) (show n+1+18<n+1+24 by omega);have d:=Io.kin e (dO _) [];simp[fresh]at d;refine bY.rng (n+1+24,out++[(b,n+1+18)]) hi ?_ ?_
  ·exact⟨Ψ,e,by rw[nG g,<-a];simp⟩
  simp;exact⟨by simp[fresh,aH,az,cc,aM,ae];exact⟨rfl,d⟩,eo (by simp[fresh,aH,az,cc,aM,ae]),ep (by simp[fresh,aH,az,cc,aM,ae,dV]),Ψ⟩
def mL.fst{s:List (List Bd)}{t:List Bd}{acc:List (List Bd)}(h:mL s 0 acc)(a:s[0]? =some t):mL s 1 (if jP s t=true then acc++[t]else acc):=by
 unfold mL at*;rw[uX a]at h;have e:(if(1:Nat)=0 then none else s[1-1]?)=some t:=by simpa using a
 have b:acc++(t::cU (some t) (s.drop 1)).filter (jP s)=(cU none s).filter (jP s):=by rw[<-h];simp[cU]
 rw[e,<-b];by_cases c:jP s t=true<;>simp[c]
def mL.eq{s:List (List Bd)}{i:Nat}{t:List Bd}{acc:List (List Bd)}(h:mL s i acc)(hi:i≠0)(b:s[i-1]? =some t)(a:s[i]? =some t):mL s (i+1) acc:=by
 unfold mL at*;rw[if_neg hi,b,uX a]at h;have e:(if i+1=0 then none else s[i+1-1]?)=some t:=by rw[if_neg Ω];exact a
 rw[e,<-h];simp[cU]
def mL.ne{s:List (List Bd)}{i:Nat}{p t:List Bd}{acc:List (List Bd)}(h:mL s i acc)(hi:i≠0)(b:s[i-1]? =some p)(a:s[i]? =some t)(f:¬p=t):mL s (i+1) (if jP s t=true then acc++[t]else acc):=by
 unfold mL at*;rw[if_neg hi,b,uX a]at h;have e:(if i+1=0 then none else s[i+1-1]?)=some t:=by rw[if_neg Ω];exact a
 have d:cU (some p) (t::s.drop (i+1))=t::cU (some t) (s.drop (i+1)):=by simp[cU,f]
 rw[d]at h;rw[e,<-h];by_cases c:jP s t=true<;>simp[c]
def arc(l:List (List Bd)):(p8 fa l).length=l.length:=(Ak fa l).length_eq
def alZ(S:aB->Prop)(l:List (List Bd))(d:List Bd):aH S (l.map cP++[cP d])=True:=by have:=N1 S (l++[d]);rw[List.map_append]at this;exact h2 this
def G0(d:List Bd)(κ:Nat):af:= .slice 5 (.tr (.loc κ) 0) (d.map Bd.e)
def BQ:nI G0 cP:=⟨fun x n=>rfl,fun x n=>Cf n,fun x n=>by simp[G0,cP,b5],fun S x n h=>by simp[G0,az,h]⟩
def fin{s:List (List Bd)}{i:Nat}{out:List (List Bd×Nat)}{A:List (List Bd)}(e:out.map (·.1)=A)(h:A.length<=i+1/\mL s (i+1) A):out.length<=i+1/\mL s (i+1) (out.map (·.1)):=by subst e;simpa using h
def am8(l:List (List Bd))(X:∀d∈l,fl d):fW au 167 [cX (l.map cP)] fun κ=>.slice 1 (.tr (.loc κ) 0) ((lY l).map cP):=by
 generalize bt:lY l=R;rw[amN]at bt;refine fW.mk mixed a6 Tryz.func167 anp Ψ fun aR κ=>?_;unfold R5;have fo:l.length<=68719476736:=by simp[eM,eV,eN,lim]at aR;omega
 simp;refine eZ [0,12,13] (fun i (_:Unit)=>[(14,aj i)]) l.length (fun _ _=>True) () b9 trivial (fun _ _ _=>?_) (fun i _ hi _ _=>?_);rotate_left
 ·obtain⟨e,he,MN⟩:=eW hi;have fp:bU au 86 [cP e] (.bool true):=rM (X e (ft he));exact iV
 simp;(repeat' first|refine al ?_|simp);all_goals try refine⟨by unfold lim;omega,?_⟩
 all_goals(repeat' first|refine al ?_|simp)
 refine CallDo.ob (ajl l fo) (Kt l) (by unfold vw eA;exact aX) (by unfold vw eA;exact aX) (by simp[aM,eA,ae]) ?_;rintro r ak ⟨rfl,rfl⟩;refine⟨yJ _ _,?_⟩;obtain⟨s,E⟩:∃s,s=p8 fa l:=⟨_,rfl⟩;have qC:s.length=l.length:=by rw[E];exact arc l
 have Q:∀d∈s,fl d:=fun d v=>X d (by rw[E,abJ]at v;exact v);rw[<-E]at bt;rw[<-E];clear E;simp[vw,eA,cL];refine fS (fun i (x:Nat×List (List Bd×Nat))=>⟨[(5,.ptr (.obj 822) 0),(6,.slice 1 (.own (.loc 0)) (j1 G0 x.2)),(30,.row 1 (.obj 821) s.length),(31,aj s.length),(32,aj i)],[(.obj 822,[.row 1 (.obj 821) s.length])],[(.loc 0,⟨x.2.length,46,1,none⟩),(.obj 821,⟨s.length,46,1,some (s.map cP)⟩)],x.1,[.obj 821,.obj 822]⟩) s.length (fun i x=>1<=x.1/\q4 x.1 x.2/\(x.2.map (·.1)).length<=i/\mL s i (x.2.map (·.1))) (1,[]) b9 ⟨dO _,.nil _,Ψ,by simp[mL]⟩ (fun x f _=>?_) (fun i x hi f _=>?_)
 ·obtain⟨n,out⟩:=x;obtain⟨J,U,_,f⟩:=f;simp only at J U f;rw[mL,List.drop_length]at f;have aq:out.map (·.1)=R:=by rw[<-bt];simpa[cU]using f
  simp;(repeat' first|refine al ?_|simp);(refine h4.val Ψ ?_;simp[ba,be,a1,e9,hn,eC,gR,ef,gH,tnL,tn,fq,gb,fold,hE,hC,iH,ae,ei,cf,b5,BQ.okL,BQ.nodup U,BQ.stL,aq])
 ·obtain⟨n,out⟩:=x;obtain⟨J,U,S,f⟩:=f;simp only at J U S f;have a:=BQ.kin U (dO _) [.obj 821,.obj 822];simp[fresh]at a;have c:¬n=0:=Ω
  have xC:out.length<=68719476735:=by simp at S;omega
  generalize G:out.map (·.1)=acc at S f;have tb:acc.length<=68719476735:=Ω
  obtain⟨t,w,y⟩:=eW hi;have dy:=Q t (ft w);have H:(if jP s t=true then acc++[t]else acc).length<=acc.length+1:=by split<;>simp
  rcases Nat.eq_zero_or_pos i with rfl|W
  ·have Z:=f.fst w;have o:(if jP s t=true then acc++[t]else acc).length<=0+1/\mL s (0+1) (if jP s t=true then acc++[t]else acc):=⟨kD H Ω,Z⟩;clear f Z w;simp[hi,y];(repeat' first|refine al ?_|simp[hi,y]);refine eZ [5,6,8,30,31,32,49,50] (fun j (b:Bool)=>[(9,.bool b),(51,aj j)]) s.length (rr s t) true ⟨by simp[fresh,aH,az,cc,aM,ae,a,c],eo (by simp[fresh,aH,az,cc,aM,ae,a,c]),ep (by simp[fresh,aH,az,dV,aM,ae,a,c]),Ψ⟩ (by simp[rr]) (fun keep f _=>?_) (fun j keep g f _=>?_)
   ·rw[rr,jA,<-XB]at f;rw[<-f]at o;clear f;cases keep with
    |false=>simp only[hR,if_false]at o;simp;(repeat' first|refine al ?_|simp);all_goals exact bY.rng (n,out) hi ⟨J,U,fin G o⟩ ⟨by simp[fresh,aH,az,cc,aM,ae,a,c],eo (by simp[fresh,aH,az,cc,aM,ae,a,c]),ep (by simp[fresh,aH,az,dV,aM,ae,a,c]),Ψ⟩
    |true=>
     simp only[if_true]at o;clear H;simp;(repeat' first|refine al ?_|simp);(refine CallDo.own Ψ (OR t dy.len) (by simp[ei]) ?_;simp);all_goals try refine⟨by unfold lim;omega,?_⟩
     all_goals(repeat' first|refine al ?_|simp)
     have B:=U.snoc t (dO n) (show n<n+2 by omega);have F:=BQ.kin B (dO _) [.obj 821,.obj 822];simp[fresh]at F;refine bY.rng (n+2,out++[(t,n)]) hi ?_ ?_
     ·exact⟨Ψ,B,fin (by simp[G]) o⟩
     simp;exact⟨by simp[fresh,aH,az,cc,aM,ae];exact⟨rfl,F⟩,eo (by simp[fresh,aH,az,cc,aM,ae]),ep (by simp[fresh,aH,az,cc,aM,ae,dV]),Ψ⟩
   ·obtain⟨d,v,hdi⟩:=eW g;have k:=f.step v;have P:=Q d (ft v);have u:bU au 208 [cP d,cP t] (.bool (oJ d t)):=acN d P.len dy;have m:bU au 207 [cP d,cP t] (aj (fa d t)):=Ke d t;clear f v o;by_cases q:fa d t=0
    ·rw[xU,lJ ((mO.zero _ _).1 q),Bool.true_or,Bool.and_true]at k;rw[q]at m;simp[g,hdi];(repeat' first|refine al ?_|refine aO m ?_|refine aP m ?_|simp[g,hdi]);all_goals exact bY.rng keep g k ⟨by simp[fresh,aH,az,cc,aM,ae,a,c],eo (by simp[fresh,aH,az,cc,aM,ae,a,c]),ep (by simp[fresh,aH,az,dV,aM,ae,a,c]),Ψ⟩
    ·rw[xU,mv (fun h=>q ((mO.zero _ _).2 h)),Bool.false_or]at k;have A:(fa d t !=0)=true:=by simp[q]
     cases bf:oJ d t
     ·rw[bf]at k u;simp only[Bool.not_false,Bool.and_true]at k;simp[g,hdi];(repeat' first|refine al ?_|refine aO m ?_|refine aP m ?_|refine aO u ?_|refine aP u ?_|simp[g,hdi,q,A]);all_goals exact bY.rng keep g k ⟨by simp[fresh,aH,az,cc,aM,ae,a,c],eo (by simp[fresh,aH,az,cc,aM,ae,a,c]),ep (by simp[fresh,aH,az,dV,aM,ae,a,c]),Ψ⟩
     ·rw[bf]at k u;simp only[Bool.not_true,Bool.and_false]at k;simp[g,hdi];(repeat' first|refine al ?_|refine aO m ?_|refine aP m ?_|refine aO u ?_|refine aP u ?_|simp[g,hdi,q,A]);all_goals exact bY.rng false g k ⟨by simp[fresh,aH,az,cc,aM,ae,a,c],eo (by simp[fresh,aH,az,cc,aM,ae,a,c]),ep (by simp[fresh,aH,az,dV,aM,ae,a,c]),Ψ⟩
  ·obtain⟨p,z⟩:∃p,s[i-1]? =some p:=⟨_,cl Ω⟩;have M:((i:Int)-1).toNat=i-1:=Ω
   have N:∀h,(s[i-1]'h)=p:=fun h=>by rw[cl h]at z;exact e6 z
   have Y:¬i=0:=Ω
   have L:i-1<s.length:=Ω
   have K:(0:Int)<i:=Ω
   have jx:bU au 207 [cP p,cP t] (aj (fa p t)):=Ke p t;by_cases O:p=t
   ·have o:acc.length<=i+1/\mL s (i+1) acc:=⟨Ω,f.eq Y (by rw[z,O]) w⟩;rw[(mO.zero _ _).2 O]at jx;clear f w z;simp[hi,y,M,N,L,K];(repeat' first|refine al ?_|refine aO jx ?_|refine aP jx ?_|simp[hi,y,M,N,L,W,K]);all_goals exact bY.rng (n,out) hi ⟨J,U,fin G o⟩ ⟨by simp[fresh,aH,az,cc,aM,ae,a,c],eo (by simp[fresh,aH,az,cc,aM,ae,a,c]),ep (by simp[fresh,aH,az,dV,aM,ae,a,c]),Ψ⟩
   ·have o:(if jP s t=true then acc++[t]else acc).length<=i+1/\mL s (i+1) (if jP s t=true then acc++[t]else acc):=⟨kD H Ω,f.ne Y z w O⟩;have V:¬fa p t=0:=fun h=>O ((mO.zero _ _).1 h);have ZU:(fa p t==0)=false:=by simp[V]
    clear f w z;simp[hi,y,M,N,L,K];(repeat' first|refine al ?_|refine aO jx ?_|refine aP jx ?_|simp[hi,y,M,N,L,W,K,V,ZU]);refine eZ [5,6,8,30,31,32,49,50] (fun j (b:Bool)=>[(9,.bool b),(51,aj j)]) s.length (rr s t) true ⟨by simp[fresh,aH,az,cc,aM,ae,a,c],eo (by simp[fresh,aH,az,cc,aM,ae,a,c]),ep (by simp[fresh,aH,az,dV,aM,ae,a,c]),Ψ⟩ (by simp[rr]) (fun keep f _=>?_) (fun j keep g f _=>?_)
    ·rw[rr,jA,<-XB]at f;rw[<-f]at o;clear f;cases keep with
     |false=>simp only[hR,if_false]at o;simp;(repeat' first|refine al ?_|simp);all_goals exact bY.rng (n,out) hi ⟨J,U,fin G o⟩ ⟨by simp[fresh,aH,az,cc,aM,ae,a,c],eo (by simp[fresh,aH,az,cc,aM,ae,a,c]),ep (by simp[fresh,aH,az,dV,aM,ae,a,c]),Ψ⟩
     |true=>
      simp only[if_true]at o;clear H;simp;(repeat' first|refine al ?_|simp);(refine CallDo.own Ψ (OR t dy.len) (by simp[ei]) ?_;simp);all_goals try refine⟨by unfold lim;omega,?_⟩
      all_goals(repeat' first|refine al ?_|simp)
      have B:=U.snoc t (dO n) (show n<n+2 by omega);have F:=BQ.kin B (dO _) [.obj 821,.obj 822];simp[fresh]at F;refine bY.rng (n+2,out++[(t,n)]) hi ?_ ?_
      ·exact⟨Ψ,B,fin (by simp[G]) o⟩
      simp;exact⟨by simp[fresh,aH,az,cc,aM,ae];exact⟨rfl,F⟩,eo (by simp[fresh,aH,az,cc,aM,ae]),ep (by simp[fresh,aH,az,cc,aM,ae,dV]),Ψ⟩
    ·obtain⟨d,v,hdi⟩:=eW g;have k:=f.step v;have P:=Q d (ft v);have u:bU au 208 [cP d,cP t] (.bool (oJ d t)):=acN d P.len dy;have m:bU au 207 [cP d,cP t] (aj (fa d t)):=Ke d t;clear f v o;by_cases q:fa d t=0
     ·rw[xU,lJ ((mO.zero _ _).1 q),Bool.true_or,Bool.and_true]at k;rw[q]at m;simp[g,hdi];(repeat' first|refine al ?_|refine aO m ?_|refine aP m ?_|simp[g,hdi]);all_goals exact bY.rng keep g k ⟨by simp[fresh,aH,az,cc,aM,ae,a,c],eo (by simp[fresh,aH,az,cc,aM,ae,a,c]),ep (by simp[fresh,aH,az,dV,aM,ae,a,c]),Ψ⟩
     ·rw[xU,mv (fun h=>q ((mO.zero _ _).2 h)),Bool.false_or]at k;have A:(fa d t !=0)=true:=by simp[q]
      cases bf:oJ d t
      ·rw[bf]at k u;simp only[Bool.not_false,Bool.and_true]at k;simp[g,hdi];(repeat' first|refine al ?_|refine aO m ?_|refine aP m ?_|refine aO u ?_|refine aP u ?_|simp[g,hdi,q,A]);all_goals exact bY.rng keep g k ⟨by simp[fresh,aH,az,cc,aM,ae,a,c],eo (by simp[fresh,aH,az,cc,aM,ae,a,c]),ep (by simp[fresh,aH,az,dV,aM,ae,a,c]),Ψ⟩
      ·rw[bf]at k u;simp only[Bool.not_true,Bool.and_false]at k;simp[g,hdi];(repeat' first|refine al ?_|refine aO m ?_|refine aP m ?_|refine aO u ?_|refine aP u ?_|simp[g,hdi,q,A]);all_goals exact bY.rng false g k ⟨by simp[fresh,aH,az,cc,aM,ae,a,c],eo (by simp[fresh,aH,az,cc,aM,ae,a,c]),ep (by simp[fresh,aH,az,dV,aM,ae,a,c]),Ψ⟩
def as8(l:List T)(h:∀t∈l,t.fit=true):bU au 172 [dx (l.map T.e)] (.bool true):=by
 refine bI a6 Tryz.func172 Zk fun b=>?_;unfold K4;have d:l.length<=68719476736:=by simp[eM,eV,eN,lim]at b;omega
 simp;refine eZ [5,6] (fun i (_:Unit)=>[(7,aj i)]) l.length (fun _ _=>True) () b9 trivial (fun _ _ _=>?_) (fun i _ hi _ _=>?_)
 ·exact cr
 ·obtain⟨t,a,c⟩:=eW hi;have e:=QS (h t (ft a));clear a;exact iV
def jE(m:Int):cR:=⟨[(.obj 831,[aj m])],[]⟩
def wV(m:Int):ez (jE m):=by unfold jE;exact ez.of ⟨by intro m;simp[ae],by intro m;simp[ae]⟩ Ψ Ψ
def adw(a b:Int):Same (jE a) (jE b):=Same.keys (by simp[jE]) (by simp[jE])
def aiH(v m b:Int)(h:F5 v m=some b):bG au 204 [aj v,.ptr (.obj 831) 0] (jE m) fun r d=>r= .tuple []/\d=jE b:=by
 unfold F5 at h;split at h;rotate_left
 ·cases h
 rename_i f;cases h;have a:=wV m;simp only[jE]at a⊢;by_cases hm:m<v+1
 ·rw[sL,if_pos hm];refine bG.mk mixed a6 Tryz.func204 Zg Ψ a.obj fun e c=>?_;unfold KZ;simp;(repeat' first|refine al ?_|simp[hm]);(refine c5.at (jE (v+1)) Ψ (by first|exact wV _|exact wV ‹_› _) (Same.keys (by simp[jE]) (by simp[jE])) (by simp only[jE,b7,ca];exact aX) (by simp only[jE,b7,ca];exact aX) ?_;simp[dc,ba,be,a1,aM,ae,jE])
 ·rw[sL,if_neg hm];refine bG.mk mixed a6 Tryz.func204 Zg Ψ a.obj fun e c=>?_;unfold KZ;simp;(repeat' first|refine al ?_|simp[hm]);(refine c5.at (jE m) Ψ (by first|exact wV _|exact wV ‹_› _) (Same.keys (by simp[jE]) (by simp[jE])) (by simp only[jE,b7,ca];exact aX) (by simp only[jE,b7,ca];exact aX) ?_;simp[dc,ba,be,a1,aM,ae,jE])
def yw(l:List T):Int:=l.foldl (fun m t=>t.fold sL m) 0
def Ih(l:List T)(i:Nat)(m:Int):Prop:=m=yw (l.take i)
def acu(l:List T)(h:∀t∈l,t.fit=true):bU au 162 [dx (l.map T.e)] (aj (yw l)):=by
 have f:=as8 l h;generalize bt:yw l=R;refine bI a6 Tryz.func162 anw fun g=>?_;unfold Sc;have k:l.length<=68719476736:=by simp[eM,eV,eN,lim]at g;omega
 simp;(repeat' first|refine al ?_|refine aO f ?_|refine aP f ?_|simp);refine fS (fun i (m:Int)=>⟨[(3,.ptr (.obj 831) 0),(9,dx (l.map T.e)),(10,aj l.length),(11,aj i)],[(.obj 831,[aj m])],[],0,[.obj 831]⟩) l.length (Ih l) 0 b9 rfl (fun m b _=>?_) (fun i m hi b _=>?_)
 ·rw[Ih,jA,bt]at b;subst b;exact cr
 ·obtain⟨t,d,e⟩:=eW hi;have c:t.ok=true:=by have:=h t (ft d);simp only[T.fit,cQ]at this;exact this.1
  have j:Ih l (i+1) (t.fold sL m):=by rw[Ih,nG d,yw,List.foldl_append,b];rfl
  have key:=Ml jE wV adw 204 [.ptr (.obj 831) 0] (fun a=>by simp[jE,aM,ae]) Ψ F5 (fun v a br h=>aiH v a br h) t m _ (Q0 t m c);clear b d;simp[hi,e];(repeat' first|refine al ?_|simp[e,hi]);(refine CallDo.ob (key) (by first|exact wV _|exact wV ‹_› _) (by simp only[jE,b7,ca];exact aX) (by simp only[jE,b7,ca];exact aX) (by simp[aM,ae,jE]) ?_;rintro r n ⟨rfl,rfl⟩;refine⟨(Same.keys (by simp[jE]) (by simp[jE])),?_⟩;simp[cL,jE]);(repeat' first|refine al ?_|simp);refine bY.rng (t.fold sL m) hi j ?_;exact b9
def acv{s:List Bd}(l:fl s){n:Int}(u:0<=n):bU au 89 [bL (s.map Bd.e),aj n] (.bool (s.all (lM n))):=by
 have v:=l.len;generalize bt:s.all (lM n)=R;refine bI a6 Tryz.func89 anx fun x=>?_;unfold Sd;simp;refine eZ [1,7,8] (fun i (_:Unit)=>[(9,aj i)]) s.length (qJ (lM n) s) () b9 (fun k b f=>Ω) (fun _ a _=>?_) (fun i _ hi a _=>?_)
 ·have:R=true:=by rw[<-bt,j6];intro b r;obtain⟨k,f,e⟩:=pA r;exact a k b f (by rw[cl f,e])
  rw[this];exact cr
 ·obtain⟨b,c,w⟩:=eW hi;have g:lM n b=false->R=false:=fun h=>by rw[<-bt,Bool.eq_false_iff];intro j;rw[j6]at j;rw[j b (ft c)]at h;cases h
  have d:=acu [b.t] (fun t o=>by simp at o;subst o;exact l.fit b (ft c));have hle:=Ki (n:=n) b.t 0;rw[show yw [b.t]=b.t.fold sL 0 from rfl]at d;simp only[gY,List.map_nil]at d;generalize b.t.fold sL 0=m at d hle;by_cases J:b.v<n
  ·have p:¬n<=b.v:=Ω
   cases U:gi n b.t
   ·have q:n<m:=by rw[U]at hle;simp at hle;omega
    rw[g (by simp[lM,U])];clear a c hle;exact cr
   ·have q:¬n<m:=by rw[U]at hle;simp[u]at hle;omega
    have y:=a.step c (by simp[lM,J,U]);clear a c hle;exact iV
  ·have p:n<=b.v:=Ω
   rw[g (by simp[lM,J])];clear a c hle;exact cr
def w1:C:=(aa [cZ 1 0,bz 2 false] (.seq (aa [aF 11 0 1 1,ay 12 1 11,aV 13 .lss 12 0,I 14 13,ax 14 false (aF 15 0 1 1),ax 14 false (ay 16 1 15),ax 14 false (aV 17 .gtr 16 100000),ds 18 14 17,I 19 18,ax 19 false (aF 20 1 1 1),ax 19 false (ay 21 1 20),ax 19 false (c0 22 86 21),ax 19 false (cO 23 22),ds 24 19 23,I 25 24,ax 25 false (aF 26 3 1 1),ax 25 false (ay 27 1 26),ax 25 false (c0 28 87 27),ax 25 false (cO 29 28),ds 30 25 29,I 31 30,ax 31 false (aF 32 4 1 1),ax 31 false (ay 33 1 32),ax 31 false (c0 34 88 33),ax 31 false (cO 35 34),ds 36 31 35,I 37 36,ax 37 false (aF 38 1 1 1),ax 37 false (ay 39 1 38),ax 37 false (aF 40 0 1 1),ax 37 false (ay 41 1 40),ax 37 false (cb 42 89 39 41),ax 37 false (cO 43 42),ds 44 37 43] (aW 44 (aa [bz 2 false] .ret) .skip)) (.seq (aa [aF 45 2 1 1,ay 46 1 45,cw 47 46,bP 48 0] (gw 49 48 47 (.seq (.block 1 (aa [ck 50 1 46 48,ay 51 1 50,I 4 51] (aa [I 52 4,c0 53 86 52,cO 54 53,I 55 54,cg 55 false 56 4,ax 55 false (aF 57 0 1 1),ax 55 false (ay 58 1 57),ax 55 false (cb 59 89 56 58),ax 55 false (cO 60 59),ds 61 55 60] (aW 61 (aa [bz 2 false] .ret) .skip)))) (.region [aV 62 .add 48 1,I 48 62])))) (.seq (aa [aF 63 3 1 1,ay 64 1 63,cw 65 64,bP 66 0] (.block 2 (.loop (aa [bu 67 .lss 66 65] (.seq (aW 67 .skip (.exit 2)) (.seq (.block 3 (aa [ck 68 2 64 66,bk 69 2 68,dt (.alloc 6 none (.agg [.int .i64 0,.int .i64 0])),bV 2 6 69] (aa [aF 70 0 1 6,ay 71 1 70,aF 72 0 1 1,ay 73 1 72,bu 74 .geq 71 73] (aW 74 (aa [bz 2 false] .ret) .skip)))) (.region [aV 75 .add 66 1,I 66 75]))))))) (.seq (aa [aF 76 4 1 1,ay 77 1 76,cw 78 77,bP 79 0] (.block 4 (.loop (aa [bu 80 .lss 79 78] (.seq (aW 80 .skip (.exit 4)) (.seq (.block 5 (aa [ck 81 2 77 79,bk 82 2 81,dt (.alloc 8 none (.agg [.int .i64 0,.str []])),bV 2 8 82] (aa [aF 83 0 1 8,ay 84 1 83,aF 85 0 1 1,ay 86 1 85,bu 87 .geq 84 86] (aW 87 (aa [bz 2 false] .ret) .skip)))) (.region [aV 88 .add 79 1,I 79 88]))))))) (aa [bk 90 5 1,c0 91 90 90,I 89 91,cV 92 0 89,cV 93 1 89,dI 9 ic,bV 5 9 92,I 10 93] (aa [I 94 10,I 95 94,ax 95 true (bk 96 5 9),ax 95 true (bk 97 5 1),ax 95 true (cb 98 91 96 97),eg 99 95 98,I 2 99] .ret)))))))
def GH:C:=(aa [cZ 1 0,dI 2 ic,bz 3 false] (aa [aF 26 1 1 1,ay 27 1 26,aF 28 3 1 1,ay 29 1 28,cb 30 163 27 29,I 25 30,cV 31 0 25,cV 32 1 25,I 4 31,I 5 32] (aa [aF 34 1 1 1,ay 35 1 34,aF 36 4 1 1,ay 37 1 36,cb 38 164 35 37,I 33 38,cV 39 0 33,cV 40 1 33,I 6 39,I 7 40] (.seq (aa [I 41 5,cO 42 41,I 43 42,cg 43 false 44 7,ax 43 false (cO 45 44),ds 46 43 45] (aW 46 (aa [jn 47 ic [],bV 5 2 47,bz 3 false] .ret) .skip)) (aa [dt (.mkmap 48 none),I 8 48] (.seq (aa [I 49 4,cw 50 49,bP 51 0] (gw 52 51 50 (.seq (.block 1 (aa [ck 53 2 49 51,bk 54 2 53,dt (.alloc 10 none (.agg [.int .i64 0,.int .i64 0])),bV 2 10 54] (aa [aF 55 1 1 10,ay 56 1 55,aV 57 .eql 56 3] (aW 57 (.region [I 58 8,aF 59 0 1 10,ay 60 1 59,dt (.mput .i (.t 58) (.t 60) (.c (.bool true)))]) .skip)))) (.region [aV 61 .add 51 1,I 51 61])))) (aa [fe 62 2 100 [],I 11 62] (.seq (aa [I 63 6,cw 64 63,bP 65 0] (.block 2 (.loop (aa [bu 66 .lss 65 64] (.seq (aW 66 .skip (.exit 2)) (.seq (.block 3 (aa [ck 67 2 63 65,bk 68 2 67,dt (.alloc 13 none (.agg [.int .i64 0,.str []])),bV 2 13 68] (aa [I 69 8,aF 70 0 1 13,ay 71 1 70,cd 72 (.mget .i (.bool false) false (.t 69) (.t 71)),cO 73 72] (aW 73 (.region [I 74 11,bk 75 2 13,fe 76 2 100 [.t 75],h1 77 2 100 74 76,I 11 77]) .skip)))) (.region [aV 78 .add 65 1,I 65 78]))))))) (aa [fe 79 1 46 [],I 14 79] (.seq (aa [aF 80 2 1 1,ay 81 1 80,cw 82 81,bP 83 0] (.block 4 (.loop (aa [bu 84 .lss 83 82] (.seq (aW 84 .skip (.exit 4)) (.seq (.block 5 (aa [ck 85 1 81 83,ay 86 1 85,I 16 86] (aa [aF 88 1 1 1,ay 89 1 88,I 90 16,cb 91 165 89 90,I 87 91,cV 92 0 87,cV 93 1 87,I 17 92,I 18 93] (.seq (aa [I 94 18,cO 95 94] (aW 95 (.exit 5) .skip)) (aa [I 97 17,I 98 4,cb 99 163 97 98,I 96 99,cV 100 0 96,cV 101 1 96,I 19 100,I 20 101] (aa [I 103 17,I 104 11,cb 105 164 103 104,I 102 105,cV 106 0 102,cV 107 1 102,I 21 106,I 22 107] (.seq (aa [I 108 20,cO 109 108,I 110 109,cg 110 false 111 22,ax 110 false (cO 112 111),ds 113 110 112] (aW 113 (.exit 5) .skip)) (aa [aF 114 1 1 1,ay 115 1 114,I 116 17,cb 117 166 115 116,I 23 117] (.seq (aa [I 118 23,cw 119 118,aV 120 .eql 119 0] (aW 120 (aa [jn 121 ic [],bV 5 2 121,bz 3 false] .ret) .skip)) (.region [I 122 14,I 123 23,fe 124 1 46 [.t 123],h1 125 1 46 122 124,I 14 125])))))))))) (.region [aV 126 .add 83 1,I 83 126]))))))) (aa [I 127 14,c0 128 167 127,I 24 128] (.seq (aa [I 129 24,cw 130 129,aV 131 .gtr 130 30] (aW 131 (aa [jn 132 ic [],bV 5 2 132,bz 3 false] .ret) .skip)) (.seq (.drawn true 142 [aF 133 0 1 1,ay 134 1 133,aF 135 1 1 1,ay 136 1 135,c0 137 168 136,I 138 24,I 139 4,I 140 11,jn 141 ic [(0,1,(.t 134)),(1,1,(.t 137)),(2,1,(.t 138)),(3,1,(.t 139)),(4,1,(.t 140))],bV 5 2 141,bz 3 true]) .ret)))))))))))))
def yS:C:=(aa [cZ 2 0,cZ 3 1,bz 4 false] (.seq (aa [aF 8 0 1 2,ay 9 1 8,aF 10 0 1 3,ay 11 1 10,bu 12 .neq 9 11,I 13 12,ax 13 false (aF 14 1 1 2),ax 13 false (ay 15 1 14),ax 13 false (aF 16 1 1 3),ax 13 false (ay 17 1 16),ax 13 false (cb 18 169 15 17),ax 13 false (cO 19 18),ds 20 13 19,I 21 20,ax 21 false (aF 22 2 1 2),ax 21 false (ay 23 1 22),ax 21 false (cw 24 23),ax 21 false (aF 25 2 1 3),ax 21 false (ay 26 1 25),ax 21 false (cw 27 26),ax 21 false (bu 28 .neq 24 27),ds 29 21 28,I 30 29,ax 30 false (aF 31 3 1 2),ax 30 false (ay 32 1 31),ax 30 false (cw 33 32),ax 30 false (aF 34 3 1 3),ax 30 false (ay 35 1 34),ax 30 false (cw 36 35),ax 30 false (bu 37 .neq 33 36),ds 38 30 37,I 39 38,ax 39 false (aF 40 4 1 2),ax 39 false (ay 41 1 40),ax 39 false (cw 42 41),ax 39 false (aF 43 4 1 3),ax 39 false (ay 44 1 43),ax 39 false (cw 45 44),ax 39 false (bu 46 .neq 42 45),ds 47 39 46] (aW 47 (aa [bz 4 false] .ret) .skip)) (.seq (aa [aF 48 2 1 2,ay 49 1 48,cw 50 49,bP 51 0] (gw 52 51 50 (.seq (.block 1 (aa [I 53 51,I 5 53] (.seq (.drawn true 103 [aF 54 2 1 2,ay 55 1 54,I 56 5,ck 57 1 55 56,ay 58 1 57,aF 59 2 1 3,ay 60 1 59,I 61 5,ck 62 1 60 61,ay 63 1 62,cb 64 169 58 63,cO 65 64]) (aW 65 (aa [bz 4 false] .ret) .skip)))) (.region [aV 66 .add 51 1,I 51 66])))) (.seq (aa [aF 67 3 1 2,ay 68 1 67,cw 69 68,bP 70 0] (.block 2 (.loop (aa [bu 71 .lss 70 69] (.seq (aW 71 .skip (.exit 2)) (.seq (.block 3 (aa [I 72 70,I 6 72] (.seq (.drawn true 103 [aF 73 3 1 2,ay 74 1 73,I 75 6,ck 76 2 74 75,bk 77 2 76,aF 78 3 1 3,ay 79 1 78,I 80 6,ck 81 2 79 80,bk 82 2 81,cd 83 (.beq true (some [false,false]) (.t 77) (.t 82))]) (aW 83 (aa [bz 4 false] .ret) .skip)))) (.region [aV 84 .add 70 1,I 70 84]))))))) (.seq (aa [aF 85 4 1 2,ay 86 1 85,cw 87 86,bP 88 0] (.block 4 (.loop (aa [bu 89 .lss 88 87] (.seq (aW 89 .skip (.exit 4)) (.seq (.block 5 (aa [I 90 88,I 7 90] (.seq (.drawn true 103 [aF 91 4 1 2,ay 92 1 91,I 93 7,ck 94 2 92 93,bk 95 2 94,aF 96 4 1 3,ay 97 1 96,I 98 7,ck 99 2 97 98,bk 100 2 99,cd 101 (.beq true (some [false,true]) (.t 95) (.t 100))]) (aW 101 (aa [bz 4 false] .ret) .skip)))) (.region [aV 102 .add 88 1,I 88 102]))))))) (aa [bz 4 true] .ret))))))
def zP:b4 aT w1 [.tmp 2] 1 Tryz.f29=true:=bi
def O3:b4 aT GH [.cell 2 true 5,.tmp 3] 1 Tryz.f90=true:=bi
def Cl:b4 aT yS [.tmp 4] 2 Tryz.f91=true:=bi
def de.e(s:de):af:= .agg [aj s.n,bL (s.b.map Bd.e),cX (s.d.map cP),b6 (s.k.map bH.e),b6 (s.m.map bo.e)]
def qR(o:bd de):af:= .tuple [(o.getD hI).e,.bool o.isSome]
def wi(k:List bH)(i:Nat)(l:List (Int×Bool)):Prop:= ∀v,(dp v l).getD false=(k.take i).any fun x=>x.v==v&&x.k==3
def wi.put{k:List bH}{i:Nat}{l:List (Int×Bool)}(h:wi k i l){x:bH}(b:k[i]? =some x)(a:x.k=3):wi k (i+1) (fA x.v true l):=fun v=>by
 rw[oS,nG b,List.any_append,<-h v];by_cases e:v=x.v
 ·rw[if_pos e];simp[e,a]
 ·rw[if_neg e];have:(x.v==v)=false:=by simp;exact fun h=>e h.symm
  simp[this]
def wi.skip{k:List bH}{i:Nat}{l:List (Int×Bool)}(h:wi k i l){x:bH}(b:k[i]? =some x)(a:¬x.k=3):wi k (i+1) l:=fun v=>by
 rw[nG b,List.any_append,<-h v];have:(x.k==3)=false:=by simp[a]
 simp[this]
def wi.fin{k:List bH}{l:List (Int×Bool)}(h:wi k k.length l)(a:jx k)(x:bo):(dp x.v l).getD false= !lx k x:=by rw[h x.v,jA,adM a.asc,lx,bne,Bool.not_not]
def uQ(k:List bH)(m:List bo)(i:Nat)(a:List bo):Prop:=a=(m.take i).filter (lx k)
def uQ.step{k:List bH}{m:List bo}{i:Nat}{a:List bo}(h:uQ k m i a){x:bo}(b:m[i]? =some x):uQ k m (i+1) (if lx k x=true then a++[x]else a):=by
 rw[uQ,nG b,List.filter_append,<-h];by_cases e:lx k x=true
 ·rw[if_pos e];simp[e]
 ·rw[if_neg e];simp[e]
def BU(S:aB->Prop)(l:List bo)(d:bo):aH S (l.map bo.e++[d.e])=True:=by have:=N0 S (l++[d]);rw[List.map_append]at this;exact h2 this
def Yp{k:List bH}{m:List bo}(h:iU m):iU (m.filter (lx k)):=⟨fun x a=>h.at' x (oW.1 a).1,adg _ h.asc⟩
def QG{G:List (List cS)}{k:List bH}{m:List bo}(h:oR G m):oR G (m.filter (lx k)):=fun x a=>h x (oW.1 a).1
def rs.skip{b:List Bd}{k:List bH}{m:List bo}{aY:List (List Bd)}{i:Nat}{a:List (List Bd)}(h:rs b k m aY i a){d:List Bd}(c:aY[i]? =some d)(he:∀r,hN b k m (d::r)=hN b k m r):rs b k m aY (i+1) a:=⟨by have:=h.1;omega,h.2.1,by rw[<-h.2.2,uX c,he]⟩
def rs.snoc{b:List Bd}{k:List bH}{m:List bo}{aY:List (List Bd)}{i:Nat}{a:List (List Bd)}(h:rs b k m aY i a){d x:List Bd}(f:aY[i]? =some d)(e:fl x)(he:∀r,hN b k m (d::r)=(hN b k m r).map (x:: ·)):rs b k m aY (i+1) (a++[x]):=
 ⟨by have:=h.1;simp;omega,fun y c=>by
  rcases kd.1 c with c|c
  ·exact h.2.1 y c
  ·simp at c;subst c;exact e,by
  rw[<-h.2.2,uX f,he,Option.map_map];congr 1;funext r;simp⟩
def rs.stop{b:List Bd}{k:List bH}{m:List bo}{aY:List (List Bd)}{i:Nat}{a:List (List Bd)}(h:rs b k m aY i a){d:List Bd}(c:aY[i]? =some d)(he:∀r,hN b k m (d::r)=none):hN b k m aY=none:=by rw[<-h.2.2,uX c,he];rfl
def rs.fin{b:List Bd}{k:List bH}{m:List bo}{aY:List (List Bd)}{a:List (List Bd)}(h:rs b k m aY aY.length a):hN b k m aY=some a:=by rw[<-h.2.2,List.drop_length];simp[hN]
def uU(S:aB->Prop)(l:List (List Bd))(d:List Bd):aH S (l.map cP++[bL (d.map Bd.e)])=True:=alZ S l d
def DB{d:List Bd}(a:fl d):∀e∈iI d,e.1.ok=true/\e.2.ok=true:=fun e he=>by obtain⟨c,aw,rfl⟩:=gZ.1 he;have:=a.ok c aw;exact⟨by simpa[T.ok]using this.1,this.2⟩
@[simp]def awS(l:List bo):gb (l.map bo.e)=True:=h2 (E4 (f:=bo.e) (fun _=>⟨trivial,trivial,trivial⟩) l)
@[simp]def ax4(l:List bo):tnL (l.map bo.e)=[]:=J4 (f:=bo.e) (fun _=>rfl) l
def de.kk(s:de)(κ:Nat):af:= .agg [aj s.n,.slice 5 (.tr (.loc κ) 0) (s.b.map Bd.e),.slice 1 (.tr (.loc κ) 1) (s.d.map cP),.slice 2 (.tr (.loc κ) 2) (s.k.map bH.e),.slice 2 (.tr (.loc κ) 3) (s.m.map bo.e)]
def qS(o:bd de)(κ:Nat):af:= .tuple [(o.getD hI).kk κ,.bool o.isSome]
def aqw:mS none=fun κ=>.tuple [.slice 2 (.tr (.loc κ) 0) [],.bool false]:=rfl
def abj(k:List bH):mS (some k)=fun κ=>.tuple [.slice 2 (.tr (.loc κ) 0) (k.map bH.e),.bool true]:=rfl
def Y4{s:de}(h:oQ s){G:List (List cS)}(kF:G.length<=687000)(bf:oR G s.m):fW au 90 [s.e] (qS (j4 s)):=by
 generalize f:j4 s=O;have w:=Y3 h.b h.k;have u:=acs h.b h.m kF bf;have kk:=fun k=>Ju (acc:=[]) (a:=k) h.b h.k.at' ⟨Ψ,Ψ⟩;have E:=fun m=>Jv (acc:=[]) (a:=m) h.b h.m.at' ⟨Ψ,by simp[iP]⟩;have F:=fun m=>Jw (acc:=[]) (a:=m) (s:=s.b) bf (fun x g=>by simp at g);have K:=h.b;have aL:=h.d;clear h bf;unfold j4 at f;obtain⟨n,b,d,Q,m0⟩:=s;simp only at w u kk E F K aL f;have gf:=K.len;simp only[de.e];generalize gS b Q []=ok at w f kk;generalize gW b m0 []=om at u f E F;cases ok with
 |none=>
  simp only at f;subst f;simp only[aqw]at w;simp only[j3]at u;clear kk E F;refine fW.mk mixed a6 Tryz.func90 O3 Ψ fun aR κ=>?_;unfold GH;simp;(repeat' first|refine al ?_|simp);(refine CallDo.own Ψ (w) (by simp[ei]) ?_;simp);(repeat' first|refine al ?_|refine aO u ?_|refine aP u ?_|simp);all_goals(refine h4.val Ψ ?_;simp[ba,be,a1,e9,hn,eC,gR,ef,gH,tnL,tn,fq,gb,fold,hE,hC,iH,ae,ei,cf,b5])
  all_goals simp[qS,hI,de.kk]
 |some k=>
  simp only at f;cases om with
  |none=>
   simp only at f;subst f;simp only[abj]at w;simp only[j3]at u;clear kk E F;refine fW.mk mixed a6 Tryz.func90 O3 Ψ fun aR κ=>?_;unfold GH;simp;(repeat' first|refine al ?_|simp);(refine CallDo.own Ψ (w) (by simp[ei]) ?_;simp);(repeat' first|refine al ?_|refine aO u ?_|refine aP u ?_|simp);all_goals(refine h4.val Ψ ?_;simp[ba,be,a1,e9,hn,eC,gR,ef,gH,tnL,tn,fq,gb,fold,hE,hC,iH,ae,ei,cf,b5])
   all_goals simp[qS,hI,de.kk]
  |some m=>
   simp only at f;have W:=kk k rfl;have U:=E m rfl;have V:=F m rfl;have jw:=ss W;have nR:m.length<=68719470000:=by have:=ET U V;omega
   have Bx:=Yp (k:=k) U;have Bq:=QG (k:=k) V;have akA:(m.filter (lx k)).length<=68719470000:=kD (List.length_filter_le _ _) nR;simp only[abj]at w;simp only[j3,lI,rU]at u;clear kk E F;refine fW.mk mixed a6 Tryz.func90 O3 Ψ fun aR κ=>?_;unfold GH;have ML:d.length<=68719476736:=by simp[eM,eV,eN,lim]at aR;omega
   simp;(repeat' first|refine al ?_|simp);(refine CallDo.own Ψ (w) (by simp[ei]) ?_;simp);(repeat' first|refine al ?_|refine aO u ?_|refine aP u ?_|simp);refine fS (fun i (l:List (Int×Bool))=>⟨[(1,.ptr (.loc 0) 0),(2,.ptr (.loc 1) 0),(4,.slice 2 (.tr (.loc 2) 0) (k.map bH.e)),(6,b6 (m.map bo.e)),(8,.gmap (.loc 3)),(49,.slice 2 (.tr (.loc 2) 0) (k.map bH.e)),(50,aj k.length),(51,aj i)],[(.loc 0,[aj n,bL (b.map Bd.e),cX (d.map cP),b6 (Q.map bH.e),b6 (m0.map bo.e)]),(.loc 1,[aj 0,.slice 5 .nil [],.slice 1 .nil [],.slice 2 .nil [],.slice 2 .nil []]),(.loc 3,rB l)],[],4,[]⟩) k.length (wi k) [] ⟨by simp[fresh,aH,az,cc,aM,ae,Og],eo (by simp[fresh,aH,az,cc,aM,ae,Og]),ep (by simp[fresh,aH,az,dV,aM,ae,Og]),Ψ⟩ (fun v=>by simp[dp]) (fun l c _=>?_) (fun i l hi c _=>?_);rotate_left
   ·obtain⟨x,g,o⟩:=eW hi;by_cases Z:x.k=3
    ·have j:=c.put g Z;clear c g;exact iV
    ·have j:=c.skip g Z;have uD:(x.k==3)=false:=by simp[Z]
     clear c g;exact iV
   have hints:=c.fin W;clear c;simp;(repeat' first|refine al ?_|simp);refine fS (fun i (a:List bo)=>⟨[(1,.ptr (.loc 0) 0),(2,.ptr (.loc 1) 0),(4,.slice 2 (.tr (.loc 2) 0) (k.map bH.e)),(8,.gmap (.loc 3)),(11,.slice 2 (.own (.loc 4)) (a.map bo.e)),(63,b6 (m.map bo.e)),(64,aj m.length),(65,aj i)],[(.loc 0,[aj n,bL (b.map Bd.e),cX (d.map cP),b6 (Q.map bH.e),b6 (m0.map bo.e)]),(.loc 1,[aj 0,.slice 5 .nil [],.slice 1 .nil [],.slice 2 .nil [],.slice 2 .nil []]),(.loc 3,rB l)],[(.loc 4,⟨a.length,100,2,none⟩)],5,[]⟩) m.length (uQ k m) [] b9 (by simp[uQ]) (fun a c _=>?_) (fun i a hi c _=>?_);rotate_left
   ·obtain⟨x,g,o⟩:=eW hi;have tb:a.length<=68719470000:=by
     have:a.length<=(m.take i).length:=by rw[c];exact List.length_filter_le _ _
     simp at this;omega
    have j:=c.step g;have J:=hints x;cases R:lx k x
    ·rw[R]at j J;simp only[hR,if_false,Bool.not_false]at j J;clear c g R;simp[hi,o];((repeat' first|refine al ?_|simp[hi,o,J]|((first|apply ct|apply cz|apply cy)<;>intro h<;>try simp at h))<;>(try exact c3));all_goals exact bY.rng a hi j b9
    ·rw[R]at j J;simp only[if_true,Bool.not_true]at j J;clear c g R;simp[hi,o];((repeat' first|refine al ?_|simp[hi,o,J]|((first|apply ct|apply cz|apply cy)<;>intro h<;>try simp at h))<;>(try exact c3));all_goals try refine⟨by unfold lim;omega,?_⟩
     all_goals(repeat' first|refine al ?_|simp)
     all_goals exact bY.rng (a++[x]) hi j ⟨by simp[fresh,aH,az,cc,aM,ae,BU],eo (by simp[fresh,aH,az,cc,aM,ae,BU]),ep (by simp[fresh,aH,az,dV,aM,ae,BU]),Ψ⟩
   rw[uQ,jA]at c;rw[<-c]at Bx Bq akA f;clear c hints jw U V;simp;(repeat' first|refine al ?_|simp);refine fS (fun i (L:List (List Bd))=>⟨[(1,.ptr (.loc 0) 0),(2,.ptr (.loc 1) 0),(4,.slice 2 (.tr (.loc 2) 0) (k.map bH.e)),(11,.slice 2 (.own (.loc 4)) (a.map bo.e)),(14,.slice 1 (.own (.loc 5)) (L.map cP)),(81,cX (d.map cP)),(82,aj d.length),(83,aj i)],[(.loc 0,[aj n,bL (b.map Bd.e),cX (d.map cP),b6 (Q.map bH.e),b6 (m0.map bo.e)]),(.loc 1,[aj 0,.slice 5 .nil [],.slice 1 .nil [],.slice 2 .nil [],.slice 2 .nil []])],[(.loc 4,⟨a.length,100,2,none⟩),(.loc 5,⟨L.length,46,1,none⟩)],6,[]⟩) d.length (rs b k a d) [] b9 ⟨Ψ,Ψ,Ψ⟩ (fun L c _=>?_) (fun i L hi c _=>?_)
   ·have fh:=c.fin;have xi:=c.2.1;rw[fh]at f;simp only at f;have Y:=am8 L xi;have p0:=OR b gf;clear c fh xi;generalize lY L=M at Y f;by_cases N:M.length<=30
    ·have X:¬(30:Int)<M.length:=Ω
     rw[if_pos N]at f;subst f;simp;(repeat' first|refine al ?_|simp);(refine CallDo.own Ψ (Y) (by simp[ei]) ?_;simp);(repeat' first|refine al ?_|simp[N,X]);(refine hK.own Ψ (p0) (by simp[qu,ae]<;>omega) ?_;simp);(repeat' first|refine al ?_|simp);all_goals(refine h4.val Ψ ?_;simp[ba,be,a1,e9,hn,eC,gR,ef,gH,tnL,tn,fq,gb,fold,hE,hC,iH,ae,ei,cf,b5])
     all_goals simp[qS,de.kk]
    ·have X:(30:Int)<M.length:=Ω
     rw[if_neg N]at f;subst f;simp;(repeat' first|refine al ?_|simp);(refine CallDo.own Ψ (Y) (by simp[ei]) ?_;simp);(repeat' first|refine al ?_|simp[N,X]);all_goals(refine h4.val Ψ ?_;simp[ba,be,a1,e9,hn,eC,gR,ef,gH,tnL,tn,fq,gb,fold,hE,hC,iH,ae,ei,cf,b5])
     all_goals simp[qS,hI,de.kk]
   ·obtain⟨x,g,o⟩:=eW hi;have iD:=aL x (ft g);have V3:=c.1;have p:bU au 165 [bL (b.map Bd.e),cP x] (hg (mgu b (iI x))):=arT K iD;simp only[hg]at p;cases hu:mgu b (iI x)with
    |none=>have j:=c.skip g fun r=>N9 hu;rw[hu]at p;simp only[k5,kf]at p;clear c g f;exact iV
    |some y=>
     have P:=K.mgu (DB iD) hu;rw[hu]at p;simp only[lI,rU]at p;have t:=arY P W;have q:=acs P Bx kF Bq;have H:=arX K P;simp only[nB]at t;simp only[j3]at q;by_cases A:gS y k []=none\/gW y a []=none
     ·have j:=c.skip g fun r=>N8 hu A;clear c g f hu;rcases A with e|e
      ·rw[e]at t;simp only[k5,kf]at t;exact iV
      ·rw[e]at q;simp only[k5,kf]at q;cases (gS y k []).isSome
       ·simp[hi,o];((repeat' first|refine al ?_|refine aO p ?_|refine aP p ?_|refine aO t ?_|refine aP t ?_|refine aO q ?_|refine aP q ?_|simp[hi,o]|((first|apply ct|apply cz|apply cy)<;>intro h<;>try simp at h))<;>(try exact c3));all_goals exact bY.rng L hi j b9
       ·simp[hi,o];((repeat' first|refine al ?_|refine aO p ?_|refine aP p ?_|refine aO t ?_|refine aP t ?_|refine aO q ?_|refine aP q ?_|simp[hi,o]|((first|apply ct|apply cz|apply cy)<;>intro h<;>try simp at h))<;>(try exact c3));all_goals exact bY.rng L hi j b9
     ·have ao:(gS y k []).isSome=true:=by cases e:gS y k []with|none=>exact absurd (.inl e) A|some _=>rfl
      have aC:(gW y a []).isSome=true:=by cases e:gW y a []with|none=>exact absurd (.inr e) A|some _=>rfl
      rw[ao]at t;rw[aC]at q;by_cases B:hx b y=[]
      ·have ai:=c.stop g fun r=>N7 hu A B;rw[ai]at f;simp only at f;subst f;rw[B]at H;simp only[List.map_nil]at H;clear c g hu A;simp[hi,o];((repeat' first|refine al ?_|refine aO p ?_|refine aP p ?_|refine aO t ?_|refine aP t ?_|refine aO q ?_|refine aP q ?_|refine aO H ?_|refine aP H ?_|simp[hi,o]|((first|apply ct|apply cz|apply cy)<;>intro h<;>try simp at h))<;>(try exact c3));all_goals(refine h4.val Ψ ?_;simp[ba,be,a1,e9,hn,eC,gR,ef,gH,tnL,tn,fq,gb,fold,hE,hC,iH,ae,ei,cf,b5])
       all_goals simp[qS,hI,de.kk]
      ·have j:=c.snoc g (IS (b:=b) P) fun r=>Oa hu A B;have xy:¬((hx b y).length:Int)=0:=by have:(hx b y).length≠0:=fun h=>B (List.length_eq_zero_iff.1 h);omega
       have xz:(((hx b y).length:Int)==0)=false:=by simp[B]
       have S:bU au 166 [bL (b.map Bd.e),bL (y.map Bd.e)] (cP (hx b y)):=H;clear c g hu A f H;generalize hx b y=z at S j xy xz B;simp only[cP]at S;simp[hi,o];(repeat' first|refine al ?_|refine aO p ?_|refine aP p ?_|refine aO t ?_|refine aP t ?_|refine aO q ?_|refine aP q ?_|refine aO S ?_|refine aP S ?_|simp[hi,o,xy,xz,B]);all_goals try refine⟨by unfold lim;omega,?_⟩
       all_goals(repeat' first|refine al ?_|simp)
       all_goals exact bY.rng (L++[z]) hi j ⟨by simp[fresh,aH,az,cc,aM,ae,uU,cP],eo (by simp[fresh,aH,az,cc,aM,ae,uU,cP]),ep (by simp[fresh,aH,az,dV,aM,ae,uU,cP]),Ψ⟩
def asY{s:de}(h:oQ s){G:List (List cS)}(a:G.length<=687000)(bf:oR G s.m):bU au 90 [s.e] (qR (j4 s)):=by have:=(Y4 h a bf).val (by simp[qS,de.kk,b5]);simpa[qS,de.kk,b5,cf,qR,de.e]using this
@[simp]def atQ(neg:Bool)(x y:bH):js neg (some [false,false]) x.e y.e=some (True,.bool (if neg then !decide (x=y)else decide (x=y))):=by
 have h:(x.v==y.v&&(x.k==y.k&&true))=decide (x=y):=by rw[qZ];simp only[Bool.and_true,cQ,ey,gy];cases x;cases y;simp
 rw[<-h];rfl
@[simp]def atS(neg:Bool)(x y:bo):js neg (some [false,true]) x.e y.e=some (True,.bool (if neg then !decide (x=y)else decide (x=y))):=by
 have h:(x.v==y.v&&(x.s==y.s&&true))=decide (x=y):=by rw[qZ];simp only[Bool.and_true,cQ,ey,gy];cases x;cases y;simp
 rw[<-h];rfl
def ase(x y:List Bd)(h:x.length<=1000000):bU au 169 [cP x,cP y] (.bool (decide (x=y))):=acA x y h
def asX(a c:de)(K:a.b.length<=1000000)(M:∀x∈a.d,x.length<=1000000):bU au 91 [a.e,c.e] (.bool (decide (a=c))):=by
 obtain⟨n,b,d,k,m⟩:=a;obtain⟨n',b2,t,bs,s⟩:=c;simp only at K M;generalize bt:decide ((⟨n,b,d,k,m⟩:de)=⟨n',b2,t,bs,s⟩)=R;simp only[de.mk.injEq,de.e]at bt⊢;by_cases G:n=n';rotate_left
 ·have o:R=false:=by rw[<-bt];simp[G]
  have W:(n !=n')=true:=by simp[G]
  rw[o];clear bt o;refine bI a6 Tryz.func91 Cl fun u=>?_;unfold yS;exact cr
 subst G;have g:=acA b b2 K;by_cases F:b=b2;rotate_left
 ·have o:R=false:=by rw[<-bt];simp[F]
  rw[mv F]at g;rw[o];clear bt o;refine bI a6 Tryz.func91 Cl fun u=>?_;unfold yS;exact cr
 subst F;rw[lJ rfl]at g;by_cases E:d.length=t.length;rotate_left
 ·have o:R=false:=by rw[<-bt];simp only[iO];rintro⟨_,_,rfl,_⟩;exact E rfl
  have V:((d.length:Int) !=t.length)=true:=by simp;omega
  rw[o];clear bt o;refine bI a6 Tryz.func91 Cl fun u=>?_;unfold yS;exact cr
 by_cases w:k.length=bs.length;rotate_left
 ·have o:R=false:=by rw[<-bt];simp only[iO];rintro⟨_,_,_,rfl,_⟩;exact w rfl
  have O:((k.length:Int) !=bs.length)=true:=by simp;omega
  rw[o];clear bt o;refine bI a6 Tryz.func91 Cl fun u=>?_;unfold yS;exact cr
 by_cases B:m.length=s.length;rotate_left
 ·have o:R=false:=by rw[<-bt];simp only[iO];rintro⟨_,_,_,_,rfl⟩;exact B rfl
  have N:((m.length:Int) !=s.length)=true:=by simp;omega
  rw[o];clear bt o;refine bI a6 Tryz.func91 Cl fun u=>?_;unfold yS;exact cr
 have J:d≠t->R=false:=fun h=>by rw[<-bt];simp[h]
 have H:k≠bs->R=false:=fun h=>by rw[<-bt];simp[h]
 have U:m≠s->R=false:=fun h=>by rw[<-bt];simp[h]
 refine bI a6 Tryz.func91 Cl fun u=>?_;unfold yS;have S:t.length<=68719476736:=by simp[eM,eV,eN,lim]at u;omega
 have Q:bs.length<=68719476736:=by simp[eM,eV,eN,lim]at u;omega
 have P:s.length<=68719476736:=by simp[eM,eV,eN,lim]at u;omega
 clear u;simp;(repeat' first|refine al ?_|refine aO g ?_|refine aP g ?_|simp[E,w,B]);have v:=J;refine eZ [2,3,50] (fun i (_:Unit)=>[(51,aj i)]) t.length (sW d t) () b9 (fun k L=>Ω) (fun _ j _=>?_) (fun i _ hi j _=>?_);rotate_left
 ·obtain⟨x,e⟩:∃x,d[i]? =some x:=⟨_,cl Ω⟩;obtain⟨y,f⟩:∃y,t[i]? =some y:=⟨_,cl hi⟩;have l:i<d.length:=Ω
  have r:∀h,(d[i]'h)=x:=fun h=>by rw[cl l]at e;exact e6 e
  have p:∀h,(t[i]'h)=y:=fun h=>by rw[cl hi]at f;exact e6 f
  have g:=ase x y (M x (ft e));by_cases q:x=y
  ·subst q;have A:=j.step e f;rw[lJ rfl]at g;clear j e f;simp[hi,l,r,p,-js];(repeat' first|refine al ?_|refine aO g ?_|refine aP g ?_|simp[r,p,hi,l,-js]);all_goals exact bY.rng () hi A b9
  ·rw[v (fun h=>q (by rw[h]at e;rw[e]at f;exact e6 f))];rw[mv q]at g;clear j e f;simp[hi,l,r,p,-js];(repeat' first|refine al ?_|refine aO g ?_|refine aP g ?_|simp[r,p,hi,l,q,-js]);all_goals simp[bZ,ba,be,a1]
 have z:=j.fin E;subst z;clear j v J E;simp;(repeat' first|refine al ?_|simp[w]);have v:=H;refine eZ [2,3,69] (fun i (_:Unit)=>[(70,aj i)]) bs.length (sW k bs) () b9 (fun k L=>Ω) (fun _ j _=>?_) (fun i _ hi j _=>?_);rotate_left
 ·obtain⟨x,e⟩:∃x,k[i]? =some x:=⟨_,cl Ω⟩;obtain⟨y,f⟩:∃y,bs[i]? =some y:=⟨_,cl hi⟩;have l:i<k.length:=Ω
  have r:∀h,(k[i]'h)=x:=fun h=>by rw[cl l]at e;exact e6 e
  have p:∀h,(bs[i]'h)=y:=fun h=>by rw[cl hi]at f;exact e6 f
  have g:=True.intro;by_cases q:x=y
  ·subst q;have A:=j.step e f;skip;clear j e f;simp[hi,l,r,p,-js];(repeat' first|refine al ?_|refine aO g ?_|refine aP g ?_|simp[r,p,hi,l,-js]);all_goals exact bY.rng () hi A b9
  ·rw[v (fun h=>q (by rw[h]at e;rw[e]at f;exact e6 f))];skip;clear j e f;simp[hi,l,r,p,-js];(repeat' first|refine al ?_|refine aO g ?_|refine aP g ?_|simp[r,p,hi,l,q,-js]);all_goals simp[bZ,ba,be,a1]
 have z:=j.fin w;subst z;clear j v H w;simp;(repeat' first|refine al ?_|simp[B]);have v:=U;refine eZ [2,3,87] (fun i (_:Unit)=>[(88,aj i)]) s.length (sW m s) () b9 (fun k L=>Ω) (fun _ j _=>?_) (fun i _ hi j _=>?_);rotate_left
 ·obtain⟨x,e⟩:∃x,m[i]? =some x:=⟨_,cl Ω⟩;obtain⟨y,f⟩:∃y,s[i]? =some y:=⟨_,cl hi⟩;have l:i<m.length:=Ω
  have r:∀h,(m[i]'h)=x:=fun h=>by rw[cl l]at e;exact e6 e
  have p:∀h,(s[i]'h)=y:=fun h=>by rw[cl hi]at f;exact e6 f
  have g:=True.intro;by_cases q:x=y
  ·subst q;have A:=j.step e f;skip;clear j e f;simp[hi,l,r,p,-js];(repeat' first|refine al ?_|refine aO g ?_|refine aP g ?_|simp[r,p,hi,l,-js]);all_goals exact bY.rng () hi A b9
  ·rw[v (fun h=>q (by rw[h]at e;rw[e]at f;exact e6 f))];skip;clear j e f;simp[hi,l,r,p,-js];(repeat' first|refine al ?_|refine aO g ?_|refine aP g ?_|simp[r,p,hi,l,q,-js]);all_goals simp[bZ,ba,be,a1]
 have z:=j.fin B;subst z;have o:R=true:=by rw[<-bt];simp
 rw[o];exact cr
def gm.e(r:gm):af:= .agg [aj r.n,bL (r.b.map Bt.e),cX (r.d.map gz),b6 (r.k.map bH.e),b6 (r.m.map bo.e)]
def FR(s:de):s.r.e=s.e:=by simp only[de.r,gm.e,de.e,zL,LG]
def ar0(x:List Bt):bU au 86 [gz x] (.bool (hy x)):=QR x
open Classical in
def arZ(r:gm)(M:iU r.m->kM r.m):bU au 29 [r.e] (.bool (decide (ka r))):=by
 generalize bt:decide (ka r)=R;have f:¬PQ r->R=false:=fun h=>by rw[<-bt,iO];exact fun cj=>h cj.raw
 obtain⟨n,b,d,k,m⟩:=r;simp only[gm.e]at M⊢;by_cases g1:n<0
 ·rw[f fun h=>by have:=h.n.1;simp only at this;omega];refine bI a6 Tryz.func29 zP fun g=>?_;unfold w1;exact cr
 by_cases g2:100000<n
 ·rw[f fun h=>by have:=h.n.2;simp only at this;omega];refine bI a6 Tryz.func29 zP fun g=>?_;unfold w1;exact cr
 have q:bU au 86 [bL (b.map Bt.e)] (.bool (hy b)):=QR b;cases g3:hy b
 ·rw[f fun h=>by obtain⟨s,l,S,_⟩:=h.b;have:=sG.2 (yo.2 ⟨s,l,S⟩);simp only at this;rw[g3]at this;cases this]
  rw[g3]at q;refine bI a6 Tryz.func29 zP fun g=>?_;unfold w1;exact cr
 rw[g3]at q;obtain⟨s,rfl,X⟩:=yo.1 (sG.1 g3);clear g3;rw[zL]at q⊢;have B:=aco k;by_cases g4:jx k;rotate_left
 ·rw[f fun h=>g4 h.k];rw[mv g4]at B;refine bI a6 Tryz.func29 zP fun g=>?_;unfold w1;exact cr
 rw[lJ g4]at B;have A:=acq m;by_cases g5:iU m;rotate_left
 ·rw[f fun h=>g5 h.m];rw[mv g5]at A;refine bI a6 Tryz.func29 zP fun g=>?_;unfold w1;exact cr
 rw[lJ g5]at A;have u:=acv X (n:=n) Ω;cases g6:s.all (lM n)
 ·rw[f fun h=>by obtain⟨P,l,_,N⟩:=h.b;have O:=wW l;subst O;rw[wZ.2 N]at g6;cases g6]
  rw[g6]at u;refine bI a6 Tryz.func29 zP fun g=>?_;unfold w1;have N5:=u;exact cr
 rw[g6]at u;have c4:=wZ.1 g6;clear g6;have U:=M g5;have nR:=U.len g5;refine bI a6 Tryz.func29 zP fun g=>?_;unfold w1;have ML:d.length<=68719476736:=by simp[eM,eV,eN,lim]at g;omega
 have jw:=ss g4;clear g M;simp;(repeat' first|refine al ?_|refine aO q ?_|refine aP q ?_|refine aO B ?_|refine aP B ?_|refine aO A ?_|refine aP A ?_|refine aO u ?_|refine aP u ?_|simp[g1,g2]);refine eZ [1,46,47] (fun i (_:Unit)=>[(48,aj i)]) d.length (tC (k7 n) d) () b9 (fun k b Y=>Ω) (fun _ a _=>?_) (fun i _ hi a _=>?_);rotate_left
 ·obtain⟨x,c,w⟩:=eW hi;have z:=ft c;have L:=ar0 x;cases e:hy x
  ·rw[f fun h=>by obtain⟨P,l,S,_⟩:=h.d x z;rw[sG.2 (yo.2 ⟨P,l,S⟩)]at e;cases e]
   rw[e]at L;clear a c z;exact cr
  ·rw[e]at L;obtain⟨y,rfl,Z⟩:=yo.1 (sG.1 e);clear e;rw[LF]at L;have W:bU au 89 [cP y,aj n] (.bool (y.all (lM n))):=acv Z (n:=n) Ω;have avf:∀h,gz (d[i]'h)=cP y:=fun h=>by rw[w h,LF]
   cases p:y.all (lM n)
   ·rw[f fun h=>by obtain⟨P,l,_,N⟩:=h.d _ z;have O:=wW l;subst O;rw[wZ.2 N]at p;cases p]
    rw[p]at W;clear a c z w;exact cr
   ·rw[p]at W;have aA:=a.step c ⟨y,rfl,Z,wZ.1 p⟩;clear a c z w;exact iV
 obtain⟨aY,rfl,DW,Mw⟩:=Uk a.fin;clear a;simp only[LG];simp;(repeat' first|refine al ?_|simp);refine eZ [1,64,65] (fun i (_:Unit)=>[(66,aj i)]) k.length (tC (fun x=>x.v<n) k) () b9 (fun k b Y=>Ω) (fun _ a _=>?_) (fun i _ hi a _=>?_);rotate_left
 ·obtain⟨x,c,w⟩:=eW hi;by_cases e:x.v<n
  ·have F:¬n<=x.v:=Ω
   have aA:=a.step c e;clear a c;exact iV
  ·have F:n<=x.v:=Ω
   rw[f fun h=>e (h.kb x (ft c))];clear a c;exact cr
 have E:=a.fin;clear a;simp;(repeat' first|refine al ?_|simp);have zk:=E;refine eZ [1,77,78] (fun i (_:Unit)=>[(79,aj i)]) m.length (tC (fun x=>x.v<n) m) () b9 (fun k b Y=>Ω) (fun _ a _=>?_) (fun i _ hi a _=>?_);rotate_left
 ·obtain⟨x,c,w⟩:=eW hi;by_cases e:x.v<n
  ·have F:¬n<=x.v:=Ω
   have aA:=a.step c e;clear a c;exact iV
  ·have F:n<=x.v:=Ω
   rw[f fun h=>e (h.mb x (ft c))];clear a c;exact cr
 have E:=a.fin;clear a;simp;(repeat' first|refine al ?_|simp);have xB:=E;have dy:oQ ⟨n,s,aY,k,m⟩:=⟨by simp only;omega,X,DW,g4,g5,c4,Mw,zk,xB⟩;have V:=abL dy;obtain⟨G,kF,bf⟩:=U;have j:=asY dy kF bf;have o:ka ⟨n,s.map Bd.b,aY.map fun x=>x.map Bd.b,k,m⟩↔j4 ⟨n,s,aY,k,m⟩=some ⟨n,s,aY,k,m⟩:=V;clear V f;simp only[qR]at j;cases K:j4 ⟨n,s,aY,k,m⟩with
 |none=>
  rw[K]at j o;have v:R=false:=by rw[<-bt,iO,o];simp
  rw[v];simp only[k5,kf,de.e]at j;clear bt v o;exact cr
 |some t=>
  have J:=abz dy K;rw[K]at j o;have H:=asX t ⟨n,s,aY,k,m⟩ J.1.1.b.len (fun x c=>(J.1.1.d x c).len);have v:R=decide (t=⟨n,s,aY,k,m⟩):=by rw[<-bt,decide_eq_decide,o];simp
  rw[v];simp only[lI,rU]at j;simp only[de.e]at j H;clear bt v o J;generalize decide (t=(⟨n,s,aY,k,m⟩:de))=Q at H⊢;obtain⟨tn,FU,FV,rL,tm⟩:=t;simp only at j H;exact cr
def w4:C:=(aa [cZ 1 0,bz 2 false] (.seq (aa [aF 11 0 1 1,ay 12 1 11,dT 13 75 [.t 12,(gX 0),(gX 100000)],cO 14 13,I 15 14,ax 15 false (aF 16 1 1 1),ax 15 false (ay 17 1 16),ax 15 false (c0 18 76 17),ax 15 false (cO 19 18),ds 20 15 19,I 21 20,ax 21 false (aF 22 2 1 1),ax 21 false (ay 23 1 22),ax 21 false (c0 24 77 23),ax 21 false (cO 25 24),ds 26 21 25,I 27 26,ax 27 false (aF 28 3 1 1),ax 27 false (ay 29 1 28),ax 27 false (c0 30 78 29),ax 27 false (cO 31 30),ds 32 27 31,I 33 32,ax 33 false (aF 34 4 1 1),ax 33 false (ay 35 1 34),ax 33 false (c0 36 79 35),ax 33 false (cO 37 36),ds 38 33 37,I 39 38,ax 39 false (aF 40 1 1 1),ax 39 false (ay 41 1 40),ax 39 false (aF 42 0 1 1),ax 39 false (ay 43 1 42),ax 39 false (cb 44 80 41 43),ax 39 false (cO 45 44),ds 46 39 45] (aW 46 (aa [bz 2 false] .ret) .skip)) (.seq (aa [aF 47 2 1 1,ay 48 1 47,cw 49 48,bP 50 0] (gw 51 50 49 (.seq (.block 1 (aa [ck 52 1 48 50,ay 53 1 52,I 4 53] (aa [I 54 4,aF 55 0 1 1,ay 56 1 55,cb 57 80 54 56,cO 58 57] (aW 58 (aa [bz 2 false] .ret) .skip)))) (.region [aV 59 .add 50 1,I 50 59])))) (.seq (aa [aF 60 3 1 1,ay 61 1 60,cw 62 61,bP 63 0] (.block 2 (.loop (aa [bu 64 .lss 63 62] (.seq (aW 64 .skip (.exit 2)) (.seq (.block 3 (aa [ck 65 2 61 63,bk 66 2 65,dt (.alloc 6 none (.agg [.int .i64 0,.int .i64 0])),bV 2 6 66] (aa [aF 67 0 1 6,ay 68 1 67,aF 69 0 1 1,ay 70 1 69,bu 71 .geq 68 70] (aW 71 (aa [bz 2 false] .ret) .skip)))) (.region [aV 72 .add 63 1,I 63 72]))))))) (.seq (aa [aF 73 4 1 1,ay 74 1 73,cw 75 74,bP 76 0] (.block 4 (.loop (aa [bu 77 .lss 76 75] (.seq (aW 77 .skip (.exit 4)) (.seq (.block 5 (aa [ck 78 2 74 76,bk 79 2 78,dt (.alloc 8 none (.agg [.int .i64 0,.str []])),bV 2 8 79] (aa [aF 80 0 1 8,ay 81 1 80,aF 82 0 1 1,ay 83 1 82,bu 84 .geq 81 83] (aW 84 (aa [bz 2 false] .ret) .skip)))) (.region [aV 85 .add 76 1,I 76 85]))))))) (aa [bk 87 5 1,c0 88 81 87,I 86 88,cV 89 0 86,cV 90 1 86,dI 9 ic,bV 5 9 89,I 10 90] (aa [I 91 10,I 92 91,ax 92 true (bk 93 5 9),ax 92 true (bk 94 5 1),ax 92 true (cb 95 82 93 94),eg 96 92 95,I 2 96] .ret)))))))
def GU:C:=(aa [cZ 1 0,dI 2 ic,bz 3 false] (aa [aF 20 1 1 1,ay 21 1 20,aF 22 3 1 1,ay 23 1 22,cb 24 149 21 23,I 19 24,cV 25 0 19,cV 26 1 19,I 4 25,I 5 26] (aa [aF 28 1 1 1,ay 29 1 28,aF 30 4 1 1,ay 31 1 30,cb 32 150 29 31,I 27 32,cV 33 0 27,cV 34 1 27,I 6 33,I 7 34] (.seq (aa [I 35 5,cO 36 35,I 37 36,cg 37 false 38 7,ax 37 false (cO 39 38),ds 40 37 39] (aW 40 (aa [jn 41 ic [],bV 5 2 41,bz 3 false] .ret) .skip)) (aa [aF 42 0 1 1,ay 43 1 42,aF 44 1 1 1,ay 45 1 44,I 46 4,jn 47 ic [(0,1,(.t 43)),(1,1,(.t 45)),(3,1,(.t 46))],dI 8 ic,bV 5 8 47] (.seq (aa [I 48 6,cw 49 48,bP 50 0] (gw 51 50 49 (.seq (.block 1 (aa [ck 52 2 48 50,bk 53 2 52,dt (.alloc 10 none (.agg [.int .i64 0,.str []])),bV 2 10 53] (aa [I 55 4,aF 56 0 1 10,ay 57 1 56,c0 58 114 57,dT 59 151 [.t 55,.t 58,(gX 2)],I 54 59,cV 60 0 54,cV 61 1 54,I 11 60,I 12 61] (aa [I 62 12] (aW 62 (.region [aF 63 4 1 8,ay 64 1 63,bk 65 2 10,fe 66 2 100 [.t 65],h1 67 2 100 64 66,aF 68 4 1 8,bV 1 68 67]) .skip))))) (.region [aV 69 .add 50 1,I 50 69])))) (aa [fe 70 1 46 [],I 13 70] (.seq (aa [aF 71 2 1 1,ay 72 1 71,cw 73 72,bP 74 0] (.block 2 (.loop (aa [bu 75 .lss 74 73] (.seq (aW 75 .skip (.exit 2)) (.seq (.block 3 (aa [ck 76 1 72 74,ay 77 1 76,I 15 77] (aa [aF 79 1 1 1,ay 80 1 79,I 81 15,cb 82 152 80 81,I 78 82,cV 83 0 78,cV 84 1 78,I 16 83,I 17 84] (.seq (aa [I 85 17] (aW 85 (aa [I 87 16,aF 88 3 1 8,ay 89 1 88,cb 90 149 87 89,I 86 90,cV 91 0 86,cV 92 1 86,I 5 92] (.region [I 94 16,aF 95 4 1 8,ay 96 1 95,cb 97 150 94 96,I 93 97,cV 98 0 93,cV 99 1 93,I 7 99])) .skip)) (.seq (aa [I 100 17,cO 101 100,I 102 101,cg 102 false 103 5,ax 102 false (cO 104 103),ds 105 102 104,I 106 105,cg 106 false 107 7,ax 106 false (cO 108 107),ds 109 106 108] (aW 109 (aa [bz 5 true] (aa [bz 7 true] (.exit 3))) .skip)) (aa [aF 110 1 1 1,ay 111 1 110,I 112 16,cb 113 153 111 112,I 18 113] (.seq (aa [I 114 18,cw 115 114,aV 116 .eql 115 0] (aW 116 (aa [jn 117 ic [],bV 5 2 117,bz 3 false] .ret) .skip)) (.region [I 118 13,I 119 18,fe 120 1 46 [.t 119],h1 121 1 46 118 120,I 13 121])))))))) (.region [aV 122 .add 74 1,I 74 122]))))))) (aa [I 123 13,c0 124 154 123,aF 125 2 1 8,bV 1 125 124] (.seq (.fz true 8 (.drawn true 131 [cd 126 (.loadZ true 5 (.t 8)),aF 127 2 1 8,cd 128 (.loadZ false 1 (.t 127)),cw 129 128,aV 130 .leq 129 30,bV 5 2 126,I 3 130])) .ret))))))))))
def yT:C:=(aa [cZ 2 0,cZ 3 1,bz 4 false] (.seq (aa [aF 11 0 1 2,ay 12 1 11,aF 13 0 1 3,ay 14 1 13,bu 15 .neq 12 14,I 16 15,ax 16 false (aF 17 1 1 2),ax 16 false (ay 18 1 17),ax 16 false (aF 19 1 1 3),ax 16 false (ay 20 1 19),ax 16 false (cb 21 155 18 20),ax 16 false (aV 22 .neq 21 0),ds 23 16 22,I 24 23,ax 24 false (aF 25 2 1 2),ax 24 false (ay 26 1 25),ax 24 false (cw 27 26),ax 24 false (aF 28 2 1 3),ax 24 false (ay 29 1 28),ax 24 false (cw 30 29),ax 24 false (bu 31 .neq 27 30),ds 32 24 31,I 33 32,ax 33 false (aF 34 3 1 2),ax 33 false (ay 35 1 34),ax 33 false (cw 36 35),ax 33 false (aF 37 3 1 3),ax 33 false (ay 38 1 37),ax 33 false (cw 39 38),ax 33 false (bu 40 .neq 36 39),ds 41 33 40,I 42 41,ax 42 false (aF 43 4 1 2),ax 42 false (ay 44 1 43),ax 42 false (cw 45 44),ax 42 false (aF 46 4 1 3),ax 42 false (ay 47 1 46),ax 42 false (cw 48 47),ax 42 false (bu 49 .neq 45 48),ds 50 42 49] (aW 50 (aa [bz 4 false] .ret) .skip)) (.seq (aa [aF 51 2 1 2,ay 52 1 51,cw 53 52,bP 54 0] (gw 55 54 53 (.seq (.block 1 (aa [I 56 54,ck 57 1 52 54,ay 58 1 57,I 5 56,I 6 58] (aa [I 59 6,aF 60 2 1 3,ay 61 1 60,I 62 5,ck 63 1 61 62,ay 64 1 63,cb 65 155 59 64,aV 66 .neq 65 0] (aW 66 (aa [bz 4 false] .ret) .skip)))) (.region [aV 67 .add 54 1,I 54 67])))) (.seq (aa [aF 68 3 1 2,ay 69 1 68,cw 70 69,bP 71 0] (.block 2 (.loop (aa [bu 72 .lss 71 70] (.seq (aW 72 .skip (.exit 2)) (.seq (.block 3 (aa [I 73 71,ck 74 2 69 71,bk 75 2 74,dt (.alloc 8 none (.agg [.int .i64 0,.int .i64 0])),I 7 73,bV 2 8 75] (.seq (.drawn true 100 [bk 76 2 8,aF 77 3 1 3,ay 78 1 77,I 79 7,ck 80 2 78 79,bk 81 2 80,cd 82 (.beq true (some [false,false]) (.t 76) (.t 81))]) (aW 82 (aa [bz 4 false] .ret) .skip)))) (.region [aV 83 .add 71 1,I 71 83]))))))) (.seq (aa [aF 84 4 1 2,ay 85 1 84,cw 86 85,bP 87 0] (.block 4 (.loop (aa [bu 88 .lss 87 86] (.seq (aW 88 .skip (.exit 4)) (.seq (.block 5 (aa [I 89 87,ck 90 2 85 87,bk 91 2 90,dt (.alloc 10 none (.agg [.int .i64 0,.str []])),I 9 89,bV 2 10 91] (.seq (.drawn true 100 [bk 92 2 10,aF 93 4 1 3,ay 94 1 93,I 95 9,ck 96 2 94 95,bk 97 2 96,cd 98 (.beq true (some [false,true]) (.t 92) (.t 97))]) (aW 98 (aa [bz 4 false] .ret) .skip)))) (.region [aV 99 .add 87 1,I 87 99]))))))) (aa [bz 4 true] .ret))))))
def zS:b4 aT w4 [.tmp 2] 1 Tryz.f27=true:=bi
def Pd:b4 aT GU [.cell 2 true 5,.tmp 3] 1 Tryz.f81=true:=bi
def Cm:b4 aT yT [.tmp 4] 2 Tryz.f82=true:=bi
noncomputable def CG(s:de):af:= .tuple [(Ag s).e,.bool (j4 s).isSome]
def asD{k:List bH}(a:jx k)(v:Int):bU au 151 [b6 (k.map bH.e),(T.var v).e,aj 2] (oO k (jr k (.var v) 2)):=QV k (by have:=ss a;omega) a.asc (.var v) 2
def acJ{b y:List Bd}(a:fl b)(c:fl y):bU au 153 [bL (b.map Bd.e),bL (y.map Bd.e)] (cP (hx b y)):=asx a c
def acI{b x:List Bd}(a:fl b)(c:fl x):bU au 152 [bL (b.map Bd.e),cP x] (hg (mgu b (iI x))):=asw b x a.sol a.fits c.len
def Oj(a:List bo):af:=match a with
 |[]=>.slice 2 .nil []
 |_::_=>.slice 2 (.own (.loc 5)) (a.map bo.e)
def Oi(a:List bo):List (aB×dW):=match a with
 |[]=>[]
 |_::_=>[(.loc 5,⟨a.length,100,2,none⟩)]
def Oh(a:List bo):Nat:=match a with
 |[]=>3
 |_::_=>6
@[simp]def awu:Oj []= .slice 2 .nil []:=rfl
@[simp]def awt(x:bo)(a:List bo):Oj (x::a)= .slice 2 (.own (.loc 5)) (x.e::a.map bo.e):=rfl
@[simp]def aws:Oi []=[]:=rfl
@[simp]def awr(x:bo)(a:List bo):Oi (x::a)=[(.loc 5,⟨a.length+1,100,2,none⟩)]:=rfl
@[simp]def awq:Oh []=3:=rfl
@[simp]def awp(x:bo)(a:List bo):Oh (x::a)=6:=rfl
def acL{s:de}(h:oQ s){G:List (List cS)}(kF:G.length<=687000)(bf:oR G s.m):bU au 81 [s.e] (CG s):=by
 unfold CG;generalize c:j4 s=O;generalize dF:Ag s=SS;have F:=QW h.b h.k;have H:=QX h.b h.m kF bf;have kk:=fun k=>Ju (acc:=[]) (a:=k) h.b h.k.at' ⟨Ψ,Ψ⟩;have N:=fun m=>Jv (acc:=[]) (a:=m) h.b h.m.at' ⟨Ψ,by simp[iP]⟩;have P:=fun m=>Jw (acc:=[]) (a:=m) (s:=s.b) bf (fun x g=>by simp at g);have K:=h.b;have aL:=h.d;clear h bf;unfold j4 at c;unfold Ag at dF;obtain⟨n,b,d,Z,m0⟩:=s;simp only at F H kk N P K aL c dF;have gf:=K.len;simp only[de.e];generalize gS b Z []=ok at F c dF kk;generalize gW b m0 []=om at H c dF N P;cases ok with
 |none=>
  simp only at c dF;subst c;subst dF;simp only[nB]at F;simp only[j3]at H;clear kk N P;refine bI a6 Tryz.func81 Pd fun aR=>?_;unfold GU;simp;(repeat' first|refine al ?_|refine aO F ?_|refine aP F ?_|refine aO H ?_|refine aP H ?_|simp);all_goals simp[bZ,ba,be,a1]
  all_goals simp[hI,de.e]
 |some k=>
  simp only at c dF;cases om with
  |none=>
   simp only at c dF;subst c;subst dF;simp only[nB]at F;simp only[j3]at H;clear kk N P;refine bI a6 Tryz.func81 Pd fun aR=>?_;unfold GU;simp;(repeat' first|refine al ?_|refine aO F ?_|refine aP F ?_|refine aO H ?_|refine aP H ?_|simp);all_goals simp[bZ,ba,be,a1]
   all_goals simp[hI,de.e]
  |some m=>
   simp only at c dF;have Y:=kk k rfl;have zp:=N m rfl;have zi:=P m rfl;have nR:m.length<=68719470000:=by have:=ET zp zi;omega
   have Bx:=Yp (k:=k) zp;have Bq:=QG (k:=k) zi;simp only[nB,lI,rU]at F;simp only[j3,lI,rU]at H;clear kk N P;refine bI a6 Tryz.func81 Pd fun aR=>?_;unfold GU;have ML:d.length<=68719476736:=by simp[eM,eV,eN,lim]at aR;omega
   clear aR;simp;(repeat' first|refine al ?_|refine aO F ?_|refine aP F ?_|refine aO H ?_|refine aP H ?_|simp);refine fS (fun i (a:List bo)=>⟨[(1,.ptr (.loc 0) 0),(2,.ptr (.loc 1) 0),(4,b6 (k.map bH.e)),(8,.ptr (.loc 2) 0),(48,b6 (m.map bo.e)),(49,aj m.length),(50,aj i)],[(.loc 0,[aj n,bL (b.map Bd.e),cX (d.map cP),b6 (Z.map bH.e),b6 (m0.map bo.e)]),(.loc 1,[aj 0,.slice 5 .nil [],.slice 1 .nil [],.slice 2 .nil [],.slice 2 .nil []]),(.loc 2,[aj n,bL (b.map Bd.e),.slice 1 .nil [],b6 (k.map bH.e),Oj a])],Oi a,Oh a,[]⟩) m.length (uQ k m) [] b9 (by simp[uQ]) (fun a f _=>?_) (fun i a hi f _=>?_);rotate_left
   ·obtain⟨x,g,p⟩:=eW hi;have tb:a.length<=68719470000:=by
     have:a.length<=(m.take i).length:=by rw[f];exact List.length_filter_le _ _
     simp at this;omega
    have q:=f.step g;have A:=asD Y x.v;have bM:(jr k (.var x.v) 2).isSome=lx k x:=adI Y x.v;simp only[oO,bM]at A;clear bM;generalize (jr k (.var x.v) 2).getD k=kz at A;cases aG:lx k x
    ·rw[aG]at q A;simp only[hR,if_false]at q;clear f g aG;cases a with
     |nil=>simp[hi,p];(repeat' first|refine al ?_|refine aO (k4 _) ?_|refine aP (k4 _) ?_|refine aO A ?_|refine aP A ?_|simp[hi,p]);all_goals exact bY.rng [] hi q b9
     |cons y ys=>simp[hi,p];(repeat' first|refine al ?_|refine aO (k4 _) ?_|refine aP (k4 _) ?_|refine aO A ?_|refine aP A ?_|simp[hi,p]);all_goals exact bY.rng (y::ys) hi q b9
    ·rw[aG]at q A;simp only[if_true]at q;clear f g aG;cases a with
     |nil=>
      simp[hi,p];(repeat' first|refine al ?_|refine aO (k4 _) ?_|refine aP (k4 _) ?_|refine aO A ?_|refine aP A ?_|simp[hi,p]);all_goals try refine⟨by unfold lim;omega,?_⟩
      all_goals(repeat' first|refine al ?_|simp)
      all_goals exact bY.rng [x] hi q b9
     |cons y ys=>
      simp only[mV]at tb;simp[hi,p];(repeat' first|refine al ?_|refine aO (k4 _) ?_|refine aP (k4 _) ?_|refine aO A ?_|refine aP A ?_|simp[hi,p]);all_goals try refine⟨by unfold lim;omega,?_⟩
      all_goals(repeat' first|refine al ?_|simp)
      all_goals exact bY.rng (y::ys++[x]) hi q ⟨by simp[fresh,aH,az,cc,aM,ae,BU],eo (by simp[fresh,aH,az,cc,aM,ae,BU]),ep (by simp[fresh,aH,az,dV,aM,ae,BU]),Ψ⟩
   rw[uQ,jA]at f;rw[<-f]at Bx Bq c dF;clear f zp zi;cases a with
   |nil=>
    simp;(repeat' first|refine al ?_|simp);refine fS (fun i (L:List (List Bd))=>⟨[(1,.ptr (.loc 0) 0),(2,.ptr (.loc 1) 0),(8,.ptr (.loc 2) 0),(13,.slice 1 (.own (.loc 3)) (L.map cP)),(72,cX (d.map cP)),(73,aj d.length),(74,aj i)],[(.loc 0,[aj n,bL (b.map Bd.e),cX (d.map cP),b6 (Z.map bH.e),b6 (m0.map bo.e)]),(.loc 1,[aj 0,.slice 5 .nil [],.slice 1 .nil [],.slice 2 .nil [],.slice 2 .nil []]),(.loc 2,[aj n,bL (b.map Bd.e),.slice 1 .nil [],b6 (k.map bH.e),.slice 2 .nil []])],[(.loc 3,⟨L.length,46,1,none⟩)],3+1,[]⟩) d.length (rs b k [] d) [] b9 ⟨Ψ,Ψ,Ψ⟩ (fun L f _=>?_) (fun i L hi f _=>?_)
    ·have V:=f.fin;have S:=f.2.1;rw[V]at c dF;simp only at c dF;have E:=acK L S;clear f V S;generalize lY L=M at E c dF;subst dF;by_cases w:M.length<=30
     ·have B:(M.length:Int)<=30:=Ω
      rw[if_pos w]at c;subst c;simp;(repeat' first|refine al ?_|refine aO E ?_|refine aP E ?_|simp[w,B]);all_goals simp[bZ,ba,be,a1]
      all_goals try simp[de.e,w,B]
      all_goals first|exact⟨_,rfl,rfl⟩|skip
     ·have B:¬(M.length:Int)<=30:=Ω
      rw[if_neg w]at c;subst c;simp;(repeat' first|refine al ?_|refine aO E ?_|refine aP E ?_|simp[w,B]);all_goals simp[bZ,ba,be,a1]
      all_goals try simp[de.e,w,B]
      all_goals first|exact⟨_,rfl,rfl⟩|skip
    ·obtain⟨x,g,p⟩:=eW hi;have U:=aL x (ft g);have V3:=f.1;have l:=acI K U;simp only[hg]at l;cases hu:mgu b (iI x)with
     |none=>have q:=f.skip g fun r=>N9 hu;rw[hu]at l;simp only[k5,kf]at l;clear f g c dF;exact iV
     |some y=>
      have J:=K.mgu (DB U) hu;rw[hu]at l;simp only[lI,rU]at l;have o:=QW J Y;have u:=QX J Bx kF Bq;have j:=acJ K J;simp only[nB]at o;simp only[j3,List.map_nil,gY]at u;by_cases t:gS y k []=none\/gW y [] []=none
      ·have q:=f.skip g fun r=>N8 hu t;clear f g c dF hu j;rcases t with e|e
       ·rw[e]at o;simp only[k5,kf]at o;exact iV
       ·rw[e]at u;simp only[k5,kf]at u;generalize (gS y k []).isSome=a8 at o;cases a8
        ·exact iV
        ·exact iV
      ·have ao:(gS y k []).isSome=true:=by cases e:gS y k []with|none=>exact absurd (.inl e) t|some _=>rfl
       have aC:(gW y [] []).isSome=true:=by cases e:gW y [] []with|none=>exact absurd (.inr e) t|some _=>rfl
       rw[ao]at o;rw[aC]at u;by_cases v:hx b y=[]
       ·have ai:=f.stop g fun r=>N7 hu t v;rw[ai]at c dF;simp only at c dF;subst c;subst dF;rw[v]at j;simp only[cP,List.map_nil]at j;clear f g hu t;simp[hi,p];(repeat' first|refine al ?_|refine aO l ?_|refine aP l ?_|refine aO o ?_|refine aP o ?_|refine aO u ?_|refine aP u ?_|refine aO j ?_|refine aP j ?_|simp[hi,p]);all_goals simp[bZ,ba,be,a1]
        all_goals try simp[hI,de.e]
       ·have q:=f.snoc g (IS (b:=b) J) fun r=>Oa hu t v;have R:¬((hx b y).length:Int)=0:=by have:(hx b y).length≠0:=fun h=>v (List.length_eq_zero_iff.1 h);omega
        have Q:(((hx b y).length:Int)==0)=false:=by simp[v]
        clear f g hu t c dF;generalize hx b y=z at j q R Q v;simp only[cP]at j;simp[hi,p];(repeat' first|refine al ?_|refine aO l ?_|refine aP l ?_|refine aO o ?_|refine aP o ?_|refine aO u ?_|refine aP u ?_|refine aO j ?_|refine aP j ?_|simp[hi,p,R,Q,v]);all_goals try refine⟨by unfold lim;omega,?_⟩
        all_goals(repeat' first|refine al ?_|simp)
        all_goals exact bY.rng (L++[z]) hi q ⟨by simp[fresh,aH,az,cc,aM,ae,uU,cP],eo (by simp[fresh,aH,az,cc,aM,ae,uU,cP]),ep (by simp[fresh,aH,az,dV,aM,ae,uU,cP]),Ψ⟩
   |cons X W=>
    simp;(repeat' first|refine al ?_|simp);refine fS (fun i (L:List (List Bd))=>⟨[(1,.ptr (.loc 0) 0),(2,.ptr (.loc 1) 0),(8,.ptr (.loc 2) 0),(13,.slice 1 (.own (.loc 6)) (L.map cP)),(72,cX (d.map cP)),(73,aj d.length),(74,aj i)],[(.loc 0,[aj n,bL (b.map Bd.e),cX (d.map cP),b6 (Z.map bH.e),b6 (m0.map bo.e)]),(.loc 1,[aj 0,.slice 5 .nil [],.slice 1 .nil [],.slice 2 .nil [],.slice 2 .nil []]),(.loc 2,[aj n,bL (b.map Bd.e),.slice 1 .nil [],b6 (k.map bH.e),.slice 2 (.own (.loc 5)) (X.e::W.map bo.e)])],[(.loc 6,⟨L.length,46,1,none⟩)],6+1,[]⟩) d.length (rs b k (X::W) d) [] b9 ⟨Ψ,Ψ,Ψ⟩ (fun L f _=>?_) (fun i L hi f _=>?_)
    ·have V:=f.fin;have S:=f.2.1;rw[V]at c dF;simp only at c dF;have E:=acK L S;clear f V S;generalize lY L=M at E c dF;subst dF;by_cases w:M.length<=30
     ·have B:(M.length:Int)<=30:=Ω
      rw[if_pos w]at c;subst c;simp;(repeat' first|refine al ?_|refine aO E ?_|refine aP E ?_|simp[w,B]);all_goals simp[bZ,ba,be,a1]
      all_goals try simp[de.e,w,B]
      all_goals first|exact⟨_,rfl,rfl⟩|skip
     ·have B:¬(M.length:Int)<=30:=Ω
      rw[if_neg w]at c;subst c;simp;(repeat' first|refine al ?_|refine aO E ?_|refine aP E ?_|simp[w,B]);all_goals simp[bZ,ba,be,a1]
      all_goals try simp[de.e,w,B]
      all_goals first|exact⟨_,rfl,rfl⟩|skip
    ·obtain⟨x,g,p⟩:=eW hi;have U:=aL x (ft g);have V3:=f.1;have l:=acI K U;simp only[hg]at l;cases hu:mgu b (iI x)with
     |none=>have q:=f.skip g fun r=>N9 hu;rw[hu]at l;simp only[k5,kf]at l;clear f g c dF;exact iV
     |some y=>
      have J:=K.mgu (DB U) hu;rw[hu]at l;simp only[lI,rU]at l;have o:=QW J Y;have u:=QX J Bx kF Bq;have j:=acJ K J;simp only[nB]at o;simp only[j3,List.map_nil,gY]at u;by_cases t:gS y k []=none\/gW y (X::W) []=none
      ·have q:=f.skip g fun r=>N8 hu t;clear f g c dF hu j;rcases t with e|e
       ·rw[e]at o;simp only[k5,kf]at o;exact iV
       ·rw[e]at u;simp only[k5,kf]at u;generalize (gS y k []).isSome=a8 at o;cases a8
        ·exact iV
        ·exact iV
      ·have ao:(gS y k []).isSome=true:=by cases e:gS y k []with|none=>exact absurd (.inl e) t|some _=>rfl
       have aC:(gW y (X::W) []).isSome=true:=by cases e:gW y (X::W) []with|none=>exact absurd (.inr e) t|some _=>rfl
       rw[ao]at o;rw[aC]at u;by_cases v:hx b y=[]
       ·have ai:=f.stop g fun r=>N7 hu t v;rw[ai]at c dF;simp only at c dF;subst c;subst dF;rw[v]at j;simp only[cP,List.map_nil]at j;clear f g hu t;simp[hi,p];(repeat' first|refine al ?_|refine aO l ?_|refine aP l ?_|refine aO o ?_|refine aP o ?_|refine aO u ?_|refine aP u ?_|refine aO j ?_|refine aP j ?_|simp[hi,p]);all_goals simp[bZ,ba,be,a1]
        all_goals try simp[hI,de.e]
       ·have q:=f.snoc g (IS (b:=b) J) fun r=>Oa hu t v;have R:¬((hx b y).length:Int)=0:=by have:(hx b y).length≠0:=fun h=>v (List.length_eq_zero_iff.1 h);omega
        have Q:(((hx b y).length:Int)==0)=false:=by simp[v]
        clear f g hu t c dF;generalize hx b y=z at j q R Q v;simp only[cP]at j;simp[hi,p];(repeat' first|refine al ?_|refine aO l ?_|refine aP l ?_|refine aO o ?_|refine aP o ?_|refine aO u ?_|refine aP u ?_|refine aO j ?_|refine aP j ?_|simp[hi,p,R,Q,v]);all_goals try refine⟨by unfold lim;omega,?_⟩
        all_goals(repeat' first|refine al ?_|simp)
        all_goals exact bY.rng (L++[z]) hi q ⟨by simp[fresh,aH,az,cc,aM,ae,uU,cP],eo (by simp[fresh,aH,az,cc,aM,ae,uU,cP]),ep (by simp[fresh,aH,az,dV,aM,ae,uU,cP]),Ψ⟩
def asB(x y:List Bd):bU au 155 [cP x,cP y] (aj (fa x y)):=QT x y
def asQ{x y:List Bd}(h:¬x=y):(fa x y !=0)=true:=by have:¬fa x y=0:=fun e=>h ((mO.zero _ _).1 e);simp[this]
def asI(a c:de):bU au 82 [a.e,c.e] (.bool (decide (a=c))):=by
 obtain⟨n,b,d,k,m⟩:=a;obtain⟨n',b2,t,bs,s⟩:=c;generalize bt:decide ((⟨n,b,d,k,m⟩:de)=⟨n',b2,t,bs,s⟩)=R;simp only[de.mk.injEq,de.e]at bt⊢;by_cases H:n=n';rotate_left
 ·have o:R=false:=by rw[<-bt];simp[H]
  have V:(n !=n')=true:=by simp[H]
  rw[o];clear bt o;refine bI a6 Tryz.func82 Cm fun u=>?_;unfold yT;exact cr
 subst H;have g:=QT b b2;by_cases G:b=b2;rotate_left
 ·have o:R=false:=by rw[<-bt];simp[G]
  have F:¬fa b b2=0:=fun h=>G ((mO.zero _ _).1 h);have W:(fa b b2 !=0)=true:=by simp[F]
  rw[o];clear bt o;refine bI a6 Tryz.func82 Cm fun u=>?_;unfold yT;exact cr
 subst G;rw[(mO.zero b b).2 rfl]at g;by_cases E:d.length=t.length;rotate_left
 ·have o:R=false:=by rw[<-bt];simp only[iO];rintro⟨_,_,rfl,_⟩;exact E rfl
  have U:((d.length:Int) !=t.length)=true:=by simp;omega
  rw[o];clear bt o;refine bI a6 Tryz.func82 Cm fun u=>?_;unfold yT;exact cr
 by_cases w:k.length=bs.length;rotate_left
 ·have o:R=false:=by rw[<-bt];simp only[iO];rintro⟨_,_,_,rfl,_⟩;exact w rfl
  have N:((k.length:Int) !=bs.length)=true:=by simp;omega
  rw[o];clear bt o;refine bI a6 Tryz.func82 Cm fun u=>?_;unfold yT;exact cr
 by_cases B:m.length=s.length;rotate_left
 ·have o:R=false:=by rw[<-bt];simp only[iO];rintro⟨_,_,_,_,rfl⟩;exact B rfl
  have M:((m.length:Int) !=s.length)=true:=by simp;omega
  rw[o];clear bt o;refine bI a6 Tryz.func82 Cm fun u=>?_;unfold yT;exact cr
 have K:d≠t->R=false:=fun h=>by rw[<-bt];simp[h]
 have J:k≠bs->R=false:=fun h=>by rw[<-bt];simp[h]
 have S:m≠s->R=false:=fun h=>by rw[<-bt];simp[h]
 refine bI a6 Tryz.func82 Cm fun u=>?_;unfold yT;have Q:t.length<=68719476736:=by simp[eM,eV,eN,lim]at u;omega
 have P:bs.length<=68719476736:=by simp[eM,eV,eN,lim]at u;omega
 have O:s.length<=68719476736:=by simp[eM,eV,eN,lim]at u;omega
 clear u;simp;(repeat' first|refine al ?_|refine aO g ?_|refine aP g ?_|simp[E,w,B]);have v:=K;refine eZ [2,3,52,53] (fun i (_:Unit)=>[(54,aj i)]) t.length (sW d t) () b9 (fun k L=>Ω) (fun _ j _=>?_) (fun i _ hi j _=>?_);rotate_left
 ·obtain⟨x,e⟩:∃x,d[i]? =some x:=⟨_,cl Ω⟩;obtain⟨y,f⟩:∃y,t[i]? =some y:=⟨_,cl hi⟩;have l:i<d.length:=Ω
  have r:∀h,(d[i]'h)=x:=fun h=>by rw[cl l]at e;exact e6 e
  have p:∀h,(t[i]'h)=y:=fun h=>by rw[cl hi]at f;exact e6 f
  have g:=asB x y;by_cases q:x=y
  ·subst q;have A:=j.step e f;rw[(mO.zero _ _).2 rfl]at g;clear j e f;simp[hi,l,r,p,-js];(repeat' first|refine al ?_|refine aO g ?_|refine aP g ?_|simp[r,p,hi,l,-js]);all_goals exact bY.rng () hi A b9
  ·rw[v (fun h=>q (by rw[h]at e;rw[e]at f;exact e6 f))];have F:=asQ q;clear j e f;simp[hi,l,r,p,-js];(repeat' first|refine al ?_|refine aO g ?_|refine aP g ?_|simp[r,p,hi,l,q,F,-js]);all_goals simp[bZ,ba,be,a1]
 have z:=j.fin E;subst z;clear j v K E;simp;(repeat' first|refine al ?_|simp[w]);have v:=J;refine eZ [2,3,69,70] (fun i (_:Unit)=>[(71,aj i)]) bs.length (sW k bs) () b9 (fun k L=>Ω) (fun _ j _=>?_) (fun i _ hi j _=>?_);rotate_left
 ·obtain⟨x,e⟩:∃x,k[i]? =some x:=⟨_,cl Ω⟩;obtain⟨y,f⟩:∃y,bs[i]? =some y:=⟨_,cl hi⟩;have l:i<k.length:=Ω
  have r:∀h,(k[i]'h)=x:=fun h=>by rw[cl l]at e;exact e6 e
  have p:∀h,(bs[i]'h)=y:=fun h=>by rw[cl hi]at f;exact e6 f
  have g:=True.intro;by_cases q:x=y
  ·subst q;have A:=j.step e f;skip;clear j e f;simp[hi,l,r,p,-js];(repeat' first|refine al ?_|refine aO g ?_|refine aP g ?_|simp[r,p,hi,l,-js]);all_goals exact bY.rng () hi A b9
  ·rw[v (fun h=>q (by rw[h]at e;rw[e]at f;exact e6 f))];skip;clear j e f;simp[hi,l,r,p,-js];(repeat' first|refine al ?_|refine aO g ?_|refine aP g ?_|simp[r,p,hi,l,q,q,-js]);all_goals simp[bZ,ba,be,a1]
 have z:=j.fin w;subst z;clear j v J w;simp;(repeat' first|refine al ?_|simp[B]);have v:=S;refine eZ [3,85,86] (fun i (_:Unit)=>[(87,aj i)]) s.length (sW m s) () b9 (fun k L=>Ω) (fun _ j _=>?_) (fun i _ hi j _=>?_);rotate_left
 ·obtain⟨x,e⟩:∃x,m[i]? =some x:=⟨_,cl Ω⟩;obtain⟨y,f⟩:∃y,s[i]? =some y:=⟨_,cl hi⟩;have l:i<m.length:=Ω
  have r:∀h,(m[i]'h)=x:=fun h=>by rw[cl l]at e;exact e6 e
  have p:∀h,(s[i]'h)=y:=fun h=>by rw[cl hi]at f;exact e6 f
  have g:=True.intro;by_cases q:x=y
  ·subst q;have A:=j.step e f;skip;clear j e f;simp[hi,l,r,p,-js];(repeat' first|refine al ?_|refine aO g ?_|refine aP g ?_|simp[r,p,hi,l,-js]);all_goals exact bY.rng () hi A b9
  ·rw[v (fun h=>q (by rw[h]at e;rw[e]at f;exact e6 f))];skip;clear j e f;simp[hi,l,r,p,-js];(repeat' first|refine al ?_|refine aO g ?_|refine aP g ?_|simp[r,p,hi,l,q,q,-js]);all_goals simp[bZ,ba,be,a1]
 have z:=j.fin B;subst z;have o:R=true:=by rw[<-bt];simp
 rw[o];exact cr
@[simp]def arn:∀l:List (List Bt),cf (l.map gz)=l.map gz
 |[]=>rfl
 |x::xs=>by simp[cf,arn xs]
def abT:∀{d:List (List Bt)},d.all hy=true->∃aY:List (List Bd),d=(aY.map fun x=>x.map Bd.b)/\∀x∈aY,fl x
 |[],_=>⟨[],rfl,Ψ⟩
 |x::d,h=>by
  rw[List.all_cons,cQ]at h;obtain⟨aY,J,U⟩:=abT h.2;obtain⟨s,b,c⟩:=yo.1 (sG.1 h.1);refine⟨s::aY,by rw[J,b];rfl,fun y a=>?_⟩;rcases gI.1 a with rfl|a
  ·exact c
  ·exact U y a
open Classical in
def acR(r:gm)(M:iU r.m->kM r.m):bU au 27 [r.e] (.bool (decide (ka r))):=by
 generalize bt:decide (ka r)=R;have e:¬PQ r->R=false:=fun h=>by rw[<-bt,iO];exact fun cj=>h cj.raw
 obtain⟨n,b,d,k,m⟩:=r;simp only[gm.e]at M⊢;have J:=dS n 0 100000;by_cases g1:0<=n/\n<=100000;rotate_left
 ·rw[e fun h=>g1 h.n];rw[mv g1]at J;refine bI a6 Tryz.func27 zS fun j=>?_;unfold w4;exact cr
 rw[lJ g1]at J;have u:bU au 76 [bL (b.map Bt.e)] (.bool (hy b)):=QY b;cases g3:hy b
 ·rw[e fun h=>by obtain⟨s,f,P,_⟩:=h.b;have:=sG.2 (yo.2 ⟨s,f,P⟩);simp only at this;rw[g3]at this;cases this]
  rw[g3]at u;refine bI a6 Tryz.func27 zS fun j=>?_;unfold w4;exact cr
 rw[g3]at u;obtain⟨s,rfl,ai⟩:=yo.1 (sG.1 g3);clear g3;rw[zL]at u⊢;have w:=asA d;cases o:d.all hy
 ·rw[e fun h=>by
   have:d.all hy=true:=by rw[j6];intro x c;obtain⟨s,f,P,_⟩:=h.d x c;exact sG.2 (yo.2 ⟨s,f,P⟩)
   rw[o]at this;cases this]
  rw[o]at w;refine bI a6 Tryz.func27 zS fun j=>?_;unfold w4;exact cr
 rw[o]at w;obtain⟨aY,rfl,DW⟩:=abT o;clear o;rw[LG]at w⊢;have F:=asV k;by_cases g4:jx k;rotate_left
 ·rw[e fun h=>g4 h.k];rw[mv g4]at F;refine bI a6 Tryz.func27 zS fun j=>?_;unfold w4;exact cr
 rw[lJ g4]at F;have E:=asW m;by_cases g5:iU m;rotate_left
 ·rw[e fun h=>g5 h.m];rw[mv g5]at E;refine bI a6 Tryz.func27 zS fun j=>?_;unfold w4;exact cr
 rw[lJ g5]at E;have v:=acM s n;cases g6:s.all (lM n)
 ·rw[e fun h=>by obtain⟨ak,f,_,N⟩:=h.b;have O:=wW f;subst O;rw[wZ.2 N]at g6;cases g6]
  rw[g6]at v;refine bI a6 Tryz.func27 zS fun j=>?_;unfold w4;have N5:=v;exact cr
 rw[g6]at v;have c4:=wZ.1 g6;clear g6;have V:=M g5;have nR:=V.len g5;refine bI a6 Tryz.func27 zS fun j=>?_;unfold w4;have ML:aY.length<=68719476736:=by simp[eM,eV,eN,lim]at j;omega
 have jw:=ss g4;clear j M;simp;(repeat' first|refine al ?_|refine aO J ?_|refine aP J ?_|refine aO u ?_|refine aP u ?_|refine aO w ?_|refine aP w ?_|refine aO F ?_|refine aP F ?_|refine aO E ?_|refine aP E ?_|refine aO v ?_|refine aP v ?_|simp);refine eZ [1,48,49] (fun i (_:Unit)=>[(50,aj i)]) aY.length (tC (fun x=>q7 x n) aY) () b9 (fun k b Y=>Ω) (fun _ a _=>?_) (fun i _ hi a _=>?_);rotate_left
 ·obtain⟨y,H,fv⟩:=eW hi;have S:=ft H;have X:bU au 80 [cP y,aj n] (.bool (y.all (lM n))):=acM y n;cases p:y.all (lM n)
  ·rw[e fun h=>by obtain⟨ak,f,_,N⟩:=h.d _ (List.mem_map_of_mem S);have O:=wW f;subst O;rw[wZ.2 N]at p;cases p]
   rw[p]at X;clear a H S;exact cr
  ·rw[p]at X;have Z:=a.step H (wZ.1 p);clear a H S;exact iV
 have Mw:=a.fin;clear a;simp;(repeat' first|refine al ?_|simp);refine eZ [1,61,62] (fun i (_:Unit)=>[(63,aj i)]) k.length (tC (fun x=>x.v<n) k) () b9 (fun k b Y=>Ω) (fun _ a _=>?_) (fun i _ hi a _=>?_);rotate_left
 ·obtain⟨x,c,cB⟩:=eW hi;by_cases q:x.v<n
  ·have L:¬n<=x.v:=Ω
   have Z:=a.step c q;clear a c;exact iV
  ·have L:n<=x.v:=Ω
   rw[e fun h=>q (h.kb x (ft c))];clear a c;exact cr
 have K:=a.fin;clear a;simp;(repeat' first|refine al ?_|simp);have zk:=K;refine eZ [1,74,75] (fun i (_:Unit)=>[(76,aj i)]) m.length (tC (fun x=>x.v<n) m) () b9 (fun k b Y=>Ω) (fun _ a _=>?_) (fun i _ hi a _=>?_);rotate_left
 ·obtain⟨x,c,cB⟩:=eW hi;by_cases q:x.v<n
  ·have L:¬n<=x.v:=Ω
   have Z:=a.step c q;clear a c;exact iV
  ·have L:n<=x.v:=Ω
   rw[e fun h=>q (h.mb x (ft c))];clear a c;exact cr
 have K:=a.fin;clear a;simp;(repeat' first|refine al ?_|simp);have xB:=K;have dy:oQ ⟨n,s,aY,k,m⟩:=⟨g1,ai,DW,g4,g5,c4,Mw,zk,xB⟩;have W:=abL dy;obtain⟨G,kF,bf⟩:=V;have g:=acL dy kF bf;have l:ka ⟨n,s.map Bd.b,aY.map fun x=>x.map Bd.b,k,m⟩↔j4 ⟨n,s,aY,k,m⟩=some ⟨n,s,aY,k,m⟩:=W;clear W e;simp only[CG]at g;generalize U:Ag ⟨n,s,aY,k,m⟩=t at g;have A:=asI t ⟨n,s,aY,k,m⟩;cases B:j4 ⟨n,s,aY,k,m⟩with
 |none=>
  rw[B]at g l;have z:R=false:=by rw[<-bt,iO,l];simp
  rw[z];obtain⟨tn,FU,FV,rL,tm⟩:=t;simp only[kf,de.e]at g;clear bt z l U A;exact cr
 |some t'=>
  have f:=Qh B;rw[U]at f;subst f;rw[B]at g l;have z:R=decide (t=⟨n,s,aY,k,m⟩):=by rw[<-bt,decide_eq_decide,l];simp
  rw[z];simp only[rU]at g;simp only[de.e]at g A;clear bt z l B;generalize decide (t=(⟨n,s,aY,k,m⟩:de))=Q at A⊢;clear U;obtain⟨tn,FU,FV,rL,tm⟩:=t;simp only at g A;exact cr
end
end Go.Proofs.YtahlgcidhnjlbaaGreat
