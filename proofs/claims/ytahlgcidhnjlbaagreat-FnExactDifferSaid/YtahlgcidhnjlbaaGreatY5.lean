/- Contracts: valid states of the reference. -/
import Derived.ProofKit
import Derived.Carry
import Derived.WalkKit
import Derived.Deep.Slices
import Derived.Test.YtahlgcidhnjlbaaGreatProg
import Derived.Test.YtahlgcidhnjlbaaGreatY4
set_option linter.all false
set_option maxHeartbeats 4000000
set_option maxRecDepth 4000
open Bool renaming and_eq_true->cO,eq_iff_iff->rf,false_eq_true->hU,not_eq_true'->r4,or_eq_true->oo
open Go renaming TypeId->gW
open Go.DataW renaming trod->jS
open Go.IntKind renaming i64->vB
open Go.IntWalk renaming i64_in->pJ
open Go.Op renaming bytesLess->iu
open Go.Proofs.Tryz renaming prog->au
open Go.Value renaming cells->pK
open List renaming all_eq_true->j5,cons_append->b6,drop->o1,drop_eq_getElem_cons->lJ,getElem?_append_left->r6,getElem?_append_right->vC,getElem?_eq_getElem->ck,getElem?_eq_none->rh,getElem?_eq_some_iff->fI,getElem_of_mem->pM,length_append->qv,length_cons->mZ,length_drop->ur,map_cons->gX,map_nil->o2,mem_append->jT,mem_cons->gJ,mem_filter->oq,mem_map->hc,mem_of_getElem?->fx,nil_append->cc,pairwise_cons->ot,pairwise_iff_getElem->rj,take->na,take_length->jA,take_of_length_le->iv
open List.Pairwise renaming filter->adR
open Nat renaming le_refl->dO,le_trans->kg
open Option renaming bind_eq_some_iff->ou,getD_none->my,getD_some->ma,isSome_none->k6,isSome_some->sX
open Option.some renaming inj->eZ,injEq->dV
open _root_ renaming False->eb,UInt8->cV,and_true->jb,beq_iff_eq->eA,congrArg->fC,decide_eq_false->mz,decide_eq_false_iff_not->iN,decide_eq_true->lK,decide_eq_true_eq->gn,eq_true->h1
namespace Go.Proofs.YtahlgcidhnjlbaaGreat
section
open Go Go.Pv
inductive hB where
 |s (l:List cV)
 |b (x:ByteArray)
def hB.e:hB->af
 | .s l=>.str l
 | .b x=>.cst (.string x)
def hB.len:hB->Int
 | .s l=>l.length
 | .b x=>x.size
def oj(n:Nat):Prop:=lim<n/\n<=9223372036854775807
def hB.wf:hB->Prop
 | .s _=>True
 | .b x=>oj x.size
inductive dz (α:Type) where
 |l (xs:List α)
 |b (p:Option Addr) (n cap:Nat)
def dz.e{α:Type}(sz:Nat)(f:α->af):dz α->af
 | .l xs=>.slice sz .no (xs.map f)
 | .b p n cap=>.cst (.slice p n cap)
def dz.wf{α:Type}(P:α->Prop):dz α->Prop
 | .l xs=> ∀x∈xs,P x
 | .b _ n _=>oj n
inductive cE where
 |mk (k n:Int) (s:hB) (a:List cE)
 |big (k n:Int) (s:hB) (p:Option Addr) (len cap:Nat)
mutual
def cE.e:cE->af
 | .mk k n s a=>.agg [aj k,aj n,s.e,dw (cE.eL a)]
 | .big k n s p len cap=>.agg [aj k,aj n,s.e,.cst (.slice p len cap)]
def cE.eL:List cE->List af
 |[]=>[]
 |x::xs=>x.e::cE.eL xs
end
def cE.eL_map:∀l,cE.eL l=l.map cE.e
 |[]=>rfl
 |x::xs=>by simp[cE.eL,cE.eL_map xs]
def cE.kind:cE->Int| .mk k _ _ _=>k| .big k _ _ _ _ _=>k
def cE.num:cE->Int| .mk _ n _ _=>n| .big _ n _ _ _ _=>n
def cE.name:cE->hB| .mk _ _ s _=>s| .big _ _ s _ _ _=>s
def cE.args:cE->dz cE| .mk _ _ _ a=>.l a| .big _ _ _ p l c=>.b p l c
def cE.e_eq(t:cE):t.e= .agg [aj t.kind,aj t.num,t.name.e,t.args.e 4 cE.e]:=by
 cases t with
 |mk k n s a=>simp only[cE.e,cE.eL_map];rfl
 |big=>rfl
@[simp]def awy(S:aB->Prop)(s:hB):aA S s.e=True:=by cases s<;>simp[hB.e,aA]
@[simp]def ayn(s:hB):b3 s.e=s.e:=by cases s<;>simp[hB.e,b3]
mutual
def Yy(S:aB->Prop):∀t:cE,aA S t.e
 | .mk k n s a=>by simp[cE.e,aA,aH,Ot S a]
 | .big k n s p l c=>by simp[cE.e,aA,aH]
def Ot(S:aB->Prop):∀l:List cE,aH S (cE.eL l)
 |[]=>by simp[cE.eL,aH]
 |x::xs=>by simp[cE.eL,aH,Yy S x,Ot S xs]
end
mutual
def acs:∀t:cE,b3 t.e=t.e
 | .mk k n s a=>by simp[cE.e,b3,b9,QQ a]
 | .big k n s p l c=>by simp[cE.e,b3,b9]
def QQ:∀l:List cE,b9 (cE.eL l)=cE.eL l
 |[]=>by simp[cE.eL,b9]
 |x::xs=>by simp[cE.eL,b9,acs x,QQ xs]
end
@[simp]def awH(S:aB->Prop)(t:cE):aA S t.e=True:=h1 (Yy S t)
@[simp]def awk(S:aB->Prop)(l:List cE):aH S (l.map cE.e)=True:=by rw[<-cE.eL_map];exact h1 (Ot S l)
@[simp]def ayv(t:cE):b3 t.e=t.e:=acs t
@[simp]def ayd(l:List cE):b9 (l.map cE.e)=l.map cE.e:=by rw[<-cE.eL_map];exact QQ l
@[simp]def ax9(t:cE):eS t.e=true:=by rw[cE.e_eq];rfl
@[simp]def av4(t:cE):qW 4 t.e:=by rw[cE.e_eq];exact⟨_,rfl,rfl⟩
@[simp]def auS(t:cE):cells t.e=[aj t.kind,aj t.num,t.name.e,t.args.e 4 cE.e]:=by rw[cE.e_eq];rfl
@[simp]def awx(S:aB->Prop)(x:dz cE):aA S (x.e 4 cE.e)=True:=by cases x<;>simp[dz.e,aA]
@[simp]def aym(x:dz cE):b3 (x.e 4 cE.e)=x.e 4 cE.e:=by cases x<;>simp[dz.e,b3]
mutual
def cE.sz:cE->Nat
 | .mk _ _ _ a=>1+cE.szL a
 | .big _ _ _ _ _ _=>1
def cE.szL:List cE->Nat
 |[]=>0
 |x::xs=>x.sz+cE.szL xs
end
def cE.szL_mem:∀{l:List cE} {x:cE},x∈l->x.sz<=cE.szL l
 |y::l,x,h=>by
  rcases gJ.1 h with rfl|h
  ·simp[cE.szL]
  ·have:=cE.szL_mem h;simp[cE.szL];omega
mutual
def cE.wf:cE->Prop
 | .mk _ _ s a=>s.wf/\cE.wfL a
 | .big _ _ s _ l _=>s.wf/\oj l
def cE.wfL:List cE->Prop
 |[]=>True
 |x::xs=>x.wf/\cE.wfL xs
end
def cE.wfL_iff:∀{l:List cE},cE.wfL l↔∀x∈l,x.wf
 |[]=>by simp[cE.wfL]
 |x::l=>by simp[cE.wfL,cE.wfL_iff (l:=l)]
def jP{α:Type}(f:α->Int->Int):List α->Int->Int
 |[],m=>m
 |x::xs,m=>if f x m<0 then-1 else jP f xs (f x m)
def mv{α:Type}(f:α->Int->Int)(l:List α)(m:Int):Int:=if m-l.length<0 then-1 else jP f l (m-l.length)
def fw{α:Type}(f:α->Int->Int):dz α->Int->Int
 | .l xs,m=>mv f xs m
 | .b _ _ _,_=> -1
def acy{α:Type}{f:α->Int->Int}(a:∀x m,0<=m-> -1<=f x m/\f x m<=m):∀(l:List α) (m:Int),0<=m-> -1<=jP f l m/\jP f l m<=m
 |[],m,h=>by simp only[jP];omega
 |x::xs,m,h=>by
  have J:=a x m h;simp only[jP];split
  ·omega
  ·have U:=acy a xs (f x m) Ω;omega
def ar4{α:Type}{f:α->Int->Int}(a:∀x m,0<=m-> -1<=f x m/\f x m<=m)(l:List α)(m:Int)(h:0<=m): -1<=mv f l m/\mv f l m<=m:=by
 unfold mv;split
 ·omega
 ·have:=acy a l (m-l.length) Ω;omega
def vs{α:Type}{f:α->Int->Int}(a:∀x m,0<=m-> -1<=f x m/\f x m<=m)(l:dz α)(m:Int)(h:0<=m): -1<=fw f l m/\fw f l m<=m:=by
 cases l with
 |l xs=>exact ar4 a xs m h
 |b=>simp only[fw];omega
mutual
def hb:cE->Int->Int
 | .mk _ _ s a,m=>if m-s.len<0 then-1 else if m-s.len-a.length<0 then-1 else q8 a (m-s.len-a.length)
 | .big _ _ s _ _ _,m=>if m-s.len<0 then-1 else-1
def q8:List cE->Int->Int
 |[],m=>m
 |x::xs,m=>if hb x m<0 then-1 else q8 xs (hb x m)
end
def acB:∀(l:List cE) (m:Int),q8 l m=jP hb l m
 |[],m=>rfl
 |x::xs,m=>by simp only[q8,jP,acB xs]
def Kn(t:cE)(m:Int):hb t m=if m-t.name.len<0 then-1 else fw hb t.args (m-t.name.len):=by
 cases t with
 |mk=>simp only[hb,fw,mv,acB,cE.name,cE.args];rfl
 |big=>simp only[hb,fw,cE.name,cE.args];rfl
def hB.len_nn(s:hB):0<=s.len:=by cases s<;>simp[hB.len]
mutual
def w5:∀(t:cE) (m:Int),0<=m-> -1<=hb t m/\hb t m<=m
 | .mk _ _ s a,m,h=>by
  have:=s.len_nn;simp only[hb];split
  ·omega
  ·split
   ·omega
   ·have:=acC a (m-s.len-a.length) Ω;omega
 | .big _ _ s _ _ _,m,h=>by simp only[hb];split<;>omega
def acC:∀(l:List cE) (m:Int),0<=m-> -1<=q8 l m/\q8 l m<=m
 |[],m,h=>by simp only[q8];omega
 |x::xs,m,h=>by
  have J:=w5 x m h;simp only[q8];split
  ·omega
  ·have U:=acC xs (hb x m) Ω;omega
end
def hB.small{s:hB}(hw:s.wf){m:Int}(a:m<=1048576)(h:0<=m-s.len):∃l,s= .s l:=by
 cases s with
 |s l=>exact⟨l,rfl⟩
 |b x=>simp only[hB.wf,oj,lim]at hw;simp only[hB.len]at h;omega
mutual
def pG:Tm->cE
 | .mk k n s a=>.mk k n (.s s) (rb a)
def rb:List Tm->List cE
 |[]=>[]
 |x::xs=>pG x::rb xs
end
def acP:∀l,rb l=l.map pG
 |[]=>rfl
 |x::xs=>by simp[rb,acP xs]
mutual
def Ks:∀t:Tm,(pG t).e=enc t
 | .mk k n s a=>by simp only[pG,cE.e,enc,acO a];rfl
def acO:∀l:List Tm,cE.eL (rb l)=mg l
 |[]=>rfl
 |x::xs=>by simp only[rb,cE.eL,mg,Ks x,acO xs]
end
mutual
def Ko:∀(t:cE) (m:Int),t.wf->m<=1048576->0<=m->0<=hb t m->∃u:Tm,t=pG u
 | .mk k n s a,m,hw,J,d,h=>by
  simp only[cE.wf]at hw;simp only[hb]at h;have:=s.len_nn;split at h
  ·omega
  rename_i g;obtain⟨l,rfl⟩:=hB.small hw.1 J Ω;split at h
  ·omega
  obtain⟨b,c⟩:=acD a _ hw.2 Ω Ω h;exact⟨.mk k n l b,by simp only[pG,c]⟩
 | .big _ _ s _ _ _,m,_,_,_,h=>by simp only[hb]at h;split at h<;>omega
def acD:∀(l:List cE) (m:Int),cE.wfL l->m<=1048576->0<=m->0<=q8 l m->∃u:List Tm,l=rb u
 |[],_,_,_,_,_=>⟨[],rfl⟩
 |x::xs,m,hw,J,a,h=>by
  simp only[cE.wfL]at hw;simp only[q8]at h;have U:=w5 x m a;split at h
  ·omega
  obtain⟨u,hu⟩:=Ko x m hw.1 J a Ω;obtain⟨v,b⟩:=acD xs _ hw.2 Ω Ω h;exact⟨u::v,by simp only[rb,hu,b]⟩
end
def acz{α β:Type}{f:α->Int->Int}{P:α->Prop}{g:β->α}(hle:∀x m,0<=m-> -1<=f x m/\f x m<=m)(b:∀x m,P x->m<=1048576->0<=m->0<=f x m->∃y,x=g y):∀(l:List α) (m:Int),(∀x∈l,P x)->m<=1048576->0<=m->0<=jP f l m->∃u:List β,l=u.map g
 |[],_,_,_,_,_=>⟨[],rfl⟩
 |x::xs,m,hw,J,a,h=>by
  simp only[jP]at h;have U:=hle x m a;split at h
  ·omega
  obtain⟨u,hu⟩:=b x m (hw x Ψ) J a Ω;obtain⟨v,c⟩:=acz hle b xs _ (fun y d=>hw y (by simp[d])) Ω Ω h;exact⟨u::v,by rw[gX,<-hu,<-c]⟩
def QV{α β:Type}{f:α->Int->Int}{P:α->Prop}{g:β->α}(hle:∀x m,0<=m-> -1<=f x m/\f x m<=m)(a:∀x m,P x->m<=1048576->0<=m->0<=f x m->∃y,x=g y)(l:dz α)(m:Int)(hw:l.wf P)(J:m<=1048576)(c:0<=m)(h:0<=fw f l m):∃u:List β,l= .l (u.map g):=by
 cases l with
 |b=>simp only[fw]at h;omega
 |l xs=>
  simp only[fw,mv]at h;split at h
  ·omega
  obtain⟨u,hu⟩:=acz hle a xs _ hw Ω Ω h;exact⟨u,by rw[hu]⟩
end
section
open Go Go.Pv Go.ChangeShapes Go.WideShapes Go.ChangeAt Go.RowKit Go.Deep
def sr(W:World):bc:=⟨fun b o=> ∃u,W.cell? ⟨b,o,none⟩=some u,fun _=>none,fun _=>none,fun _ _ _=>eb⟩
def YB(W:World)(b:Nat):∀(us:List Value) (off:Nat),(∀i u,us[i]? =some u->W.cell? ⟨b,off+i,none⟩=some u)->kZ W (sr W).A b off us
 |[],_,_=>trivial
 |u::us,off,h=>by
  have a:W.cell? ⟨b,off,none⟩=some u:=by simpa using h 0 u rfl
  exact⟨⟨⟨u,a⟩,a⟩,YB W b us (off+1) fun i c hu=>by have:=h (i+1) c (by simpa using hu);rwa[show off+(i+1)=off+1+i from by omega]at this⟩
section
variable {H:Type} {enc:gW×Value->H} {W:World} {spare:Nat->Bool} {held:Bool}
def reads(W:World)(p:af)(cs:List Value):Prop:= ∃v:Value,v.cells.toList=cs/\aU W (sr W) p v/\∀c∈cs,c.oneCell'=true
def CQ{W:World}{a:List af}{cs:List Value}(h:cW W (sr W) a cs):reads W (.agg a) cs:=by
 refine⟨.agg cs.toArray,by simp[pK],by simp only[aU];exact⟨cs.toArray,rfl,by simpa using h⟩,?_⟩;have:∀(a:List af) (cs:List Value),cW W (sr W) a cs->∀c∈cs,c.oneCell'=true:=by
  intro a;induction a with
  |nil=>intro cs h;simp only[cW]at h;subst h;simp
  |cons p a b=>
   intro cs h c ay;simp only[cW]at h;obtain⟨u,us,rfl,J,U⟩:=h;rcases gJ.1 ay with rfl|ay
   ·exact J.2
   ·exact b us U c ay
 exact this a cs h
def wV(W:World)(p:af)(v:Value):Prop:=aU W (sr W) p v/\v.oneCell'=true/\v.cells= #[v]
def wV.reads{W:World}{p:af}{v:Value}(h:wV W p v):reads W p [v]:=⟨v,by rw[h.2.2],h.1,fun c ay=>by simp at ay;subst ay;exact h.2.1⟩
def aeW{W:World}{b a k j:Nat}:W.cell? (((⟨b,a,none⟩:Addr).add k).add j)=W.cell? ⟨b,a+(k+j),none⟩:=by rw[add_add,Addr.add_lit]
def F2{α:Type}{t e:gW}{sz:Nat}(f:α->af)(Q:α->Prop)(X:au.underlying t=some (.slice e))(ay:au.cellsOf e=sz)(L:0<sz){fuel:Nat}
  (y:∀n cs x,n<fuel->jS enc au W 0 spare held n e cs=some x->∃a:α,Q a/\reads W (f a) cs)
  {cs:List Value} {x:DataW H×List MemPlace} (h:jS enc au W 0 spare held fuel t cs=some x):∃l:dz α,l.wf Q/\∃v,cs=[v]/\wV W (l.e sz f) v:=by
 rcases DataW.trod_slice X h with⟨rfl,_⟩|⟨a,len,cap,elems,rest,n,rfl,rfl,_,_,R,hm,hlen,G,_,_⟩
 ·refine⟨.l [],by simp[dz.wf],_,rfl,?_,rfl,rfl⟩;simp only[dz.e,o2,aU];exact⟨⟨none,0,rfl,Ψ,⟨by simp[maxLen],by simp[lim]⟩,.inl Ψ⟩,fun e=>(by cases e),fun g e=>(by cases e),fun _ _ e=>(by cases e),fun _ e=>(by cases e)⟩
 by_cases Y:lim<len
 ·refine⟨.b (some a) len cap,⟨Y,by unfold maxLen at hm;omega⟩,_,rfl,?_,rfl,rfl⟩;simp only[dz.e,aU]
 rcases Nat.eq_zero_or_pos len with rfl|K
 ·refine⟨.l [],by simp[dz.wf],_,rfl,?_,rfl,rfl⟩;simp only[dz.e,o2,aU];exact⟨⟨some a,cap,rfl,Ψ,⟨hm,by simp[lim]⟩,.inl Ψ⟩,fun e=>(by cases e),fun g e=>(by cases e),fun _ _ e=>(by cases e),fun _ e=>(by cases e)⟩
 rw[ay]at G;have E:∀i,i<len->∃cs',cs'.length=sz/\(∀j,j<sz->W.cell? ((a.add (i*sz)).add j)=cs'[j]?)/\∃b:α,Q b/\reads W (f b) cs':=by intro i hi;have J:=G i hi;rw[ck Ω]at J;obtain⟨cs',U,o⟩:=ou.1 J;obtain⟨_,V,N⟩:=World.cells?_some U;exact⟨cs',V,N,y n cs' _ Ω o⟩
 obtain⟨m,k,spot⟩:=a;have w:spot=none:=by obtain⟨cs',J,U,_⟩:=E 0 K;have o:=U 0 L;rw[ck Ω]at o;simpa[Addr.add]using World.cell?_spot o
 subst w;have z:∀d,d<=len->∃xs:List α,xs.length=d/\(∀x∈xs,Q x)/\∃us:List Value,us.length=d*sz/\dv W (sr W) sz (xs.map f) us/\∀j u,us[j]? =some u->W.cell? ⟨m,k+((len-d)*sz+j),none⟩=some u:=by
  intro d;induction d with
  |zero=>intro _;exact⟨[],rfl,Ψ,[],Ψ,by simp[dv],Ψ⟩
  |succ d P=>
   intro aK;obtain⟨xs,c,B,us,F,s,q⟩:=P Ω;obtain⟨cs',r,M,b,S,v,v1,v2,v3⟩:=E (len-(d+1)) Ω;have hmul:(len-d)*sz=(len-(d+1))*sz+sz:=by rw[show len-d=(len-(d+1))+1 from by omega,Nat.succ_mul]
   refine⟨b::xs,by simp[c],fun x A=>?_,cs'++us,by rw[qv,r,F,Nat.succ_mul];omega,?_,fun j u p=>?_⟩
   ·rcases gJ.1 A with rfl|A
    ·exact S
    ·exact B x A
   ·simp only[gX,dv];exact⟨v,us,by rw[v1],⟨v2,by rw[<-r,<-v1];simp,by rw[v1];exact v3⟩,s⟩
   ·rcases Nat.lt_or_ge j sz with O|Z
    ·rw[r6 Ω]at p;have:=M j O;rw[aeW]at this;rw[this];exact p
    ·rw[vC Ω,r]at p;have:=q (j-sz) u p;rwa[show(len-d)*sz+(j-sz)=(len-(d+1))*sz+j from by omega]at this
 obtain⟨xs,c,B,us,F,s,q⟩:=z len (dO _);refine⟨.l xs,B,_,rfl,?_,rfl,rfl⟩;simp only[dz.e,aU];refine⟨⟨some ⟨m,k,none⟩,cap,by rw[List.length_map,c],by rw[List.length_map,c];exact R,⟨hm,by rw[List.length_map,c];omega⟩,.inr ⟨m,k,us,rfl,YB W m us k fun i u hu=>?_,s⟩⟩,fun e=>(by cases e),fun g e=>(by cases e),fun _ _ e=>(by cases e),fun _ e=>(by cases e)⟩;have:=q i u hu;simpa using this
end
end
section
open Go Go.Pv
def vW:C:=(aa [cU 2 0,bM 4 0] (aa [I 5 1,aF 6 2 1 2,az 7 1 6,cf 8 (.slen (.t 7)),bt 9 .sub 5 8,I 1 9] (.seq (aa [I 10 1,aV 11 .lss 10 0] (aW 11 (aa [bM 4 (-1)] .ret) .skip)) (aa [aF 12 3 1 2,az 13 1 12,I 14 1,b8 15 16 13 14,I 1 15] (.seq (aa [I 16 1,aV 17 .lss 16 0] (aW 17 (aa [bM 4 (-1)] .ret) .skip)) (aa [I 18 1,I 4 18] .ret))))))
def LJ:C:=(aa [bM 4 0] (aa [I 6 1,I 7 0,cx 8 7,bt 9 .sub 6 8,I 1 9] (.seq (aa [I 10 1,aV 11 .lss 10 0] (aW 11 (aa [bM 4 (-1)] .ret) .skip)) (.seq (aa [bM 5 0] (.block 0 (.loop (.seq (aa [I 12 5,I 13 0,cx 14 13,bt 15 .lss 12 14] (aW 15 .skip (.exit 0))) (.seq (.block 1 (aa [I 18 0,I 19 5,cl 20 4 18 19,bf 21 4 20,I 22 1,b8 23 15 21 22,I 1 23] (aa [I 24 1,aV 25 .lss 24 0] (aW 25 (aa [bM 4 (-1)] .ret) .skip)))) (.region [I 16 5,aV 17 .add 16 1,I 5 17])))))) (aa [I 26 1,I 4 26] .ret)))))
def Tt:C:=(aa [cU 1 0,dF 2 eB] (aa [dF 3 eB] (aa [aF 4 0 1 1,az 5 1 4,aF 6 0 1 3,bV 1 6 5] (aa [aF 7 1 1 1,az 8 1 7,aF 9 1 1 3,bV 1 9 8] (aa [aF 10 2 1 1,az 11 1 10,aF 12 2 1 3,bV 1 12 11] (aa [aF 13 3 1 1,az 14 1 13,cQ 15 19 14,aF 16 3 1 3,bV 1 16 15] (aa [bf 17 4 3,bV 4 2 17] .ret)))))))
def Tu:C:=(aa [eY 2 4] (aa [I 5 0,cx 6 5,ds (.mks 7 none 4 30 (.agg eB) (.t 6)),I 3 7] (.seq (aa [bM 4 0] (.block 0 (.loop (.seq (aa [I 8 4,I 9 0,cx 10 9,bt 11 .lss 8 10] (aW 11 .skip (.exit 0))) (.seq (.block 1 (.region [I 14 3,I 15 4,I 16 0,I 17 4,cl 18 4 16 17,bf 19 4 18,cQ 20 18 19,cl 21 4 14 15,bV 4 21 20])) (.region [I 12 4,aV 13 .add 12 1,I 4 13])))))) (.seq (.pub 3 (.region [I 22 3,I 2 22])) .ret))))
def Tg:C:=(aa [bu 4 false] (.seq (aa [I 6 0,cx 7 6,I 8 1,cx 9 8,bt 10 .neq 7 9] (aW 10 (aa [bu 4 false] .ret) .skip)) (.seq (aa [bM 5 0] (.block 0 (.loop (.seq (aa [I 11 5,I 12 0,cx 13 12,bt 14 .lss 11 13] (aW 14 .skip (.exit 0))) (.seq (.block 1 (.seq (.drawn true 27 [I 17 0,I 18 5,cl 19 4 17 18,bf 20 4 19,I 21 1,I 22 5,cl 23 4 21 22,bf 24 4 23,b8 25 22 20 24,cK 26 25]) (aW 26 (aa [bu 4 false] .ret) .skip))) (.region [I 15 5,aV 16 .add 15 1,I 5 16])))))) (aa [bu 4 true] .ret))))
def Tf:C:=(aa [cU 2 0,cU 3 1,bu 4 false] (.seq (aa [aF 5 0 1 2,az 6 1 5,aF 7 0 1 3,az 8 1 7,bt 9 .neq 6 8] (aW 9 (aa [bu 4 false] .ret) .skip)) (.seq (aa [aF 10 1 1 2,az 11 1 10,aF 12 1 1 3,az 13 1 12,bt 14 .neq 11 13] (aW 14 (aa [bu 4 false] .ret) .skip)) (.seq (aa [aF 15 2 1 2,az 16 1 15,aF 17 2 1 3,az 18 1 17,bt 19 .neq 16 18] (aW 19 (aa [bu 4 false] .ret) .skip)) (.seq (aa [aF 20 3 1 2,az 21 1 20,aF 22 3 1 3,az 23 1 22,b8 24 21 21 23,cK 25 24] (aW 25 (aa [bu 4 false] .ret) .skip)) (aa [bu 4 true] .ret))))))
def A2:C:=(aa [cU 2 0,bM 4 0] (aa [aF 5 1 1 2,az 6 1 5,I 7 1,b8 8 33 6 7,I 1 8] (.seq (aa [I 9 1,aV 10 .lss 9 0] (aW 10 (aa [bM 4 (-1)] .ret) .skip)) (aa [aF 11 2 1 2,az 12 1 11,I 13 1,b8 14 72 12 13,I 1 14] (.seq (aa [I 15 1,aV 16 .lss 15 0] (aW 16 (aa [bM 4 (-1)] .ret) .skip)) (aa [aF 17 3 1 2,az 18 1 17,I 19 1,b8 20 73 18 19,I 1 20] (.seq (aa [I 21 1,aV 22 .lss 21 0] (aW 22 (aa [bM 4 (-1)] .ret) .skip)) (aa [aF 23 4 1 2,az 24 1 23,I 25 1,b8 26 74 24 25,I 1 26] (.seq (aa [I 27 1,aV 28 .lss 27 0] (aW 28 (aa [bM 4 (-1)] .ret) .skip)) (aa [I 29 1,I 4 29] .ret))))))))))
def Ts:C:=(aa [cU 1 0,dF 2 iq] (aa [dF 3 iq] (aa [aF 4 0 1 1,az 5 1 4,aF 6 0 1 3,bV 1 6 5] (aa [aF 7 1 1 1,az 8 1 7,cQ 9 35 8,aF 10 1 1 3,bV 1 10 9] (aa [aF 11 2 1 1,az 12 1 11,cQ 13 83 12,aF 14 2 1 3,bV 1 14 13] (aa [aF 15 3 1 1,az 16 1 15,cQ 17 84 16,aF 18 3 1 3,bV 1 18 17] (aa [aF 19 4 1 1,az 20 1 19,cQ 21 85 20,aF 22 4 1 3,bV 1 22 21] (aa [bf 23 5 3,bV 5 2 23] .ret))))))))
def Te:C:=(aa [cU 2 0,cU 3 1,bu 4 false] (.seq (aa [aF 5 0 1 2,az 6 1 5,aF 7 0 1 3,az 8 1 7,bt 9 .neq 6 8] (aW 9 (aa [bu 4 false] .ret) .skip)) (.seq (aa [aF 10 1 1 2,az 11 1 10,aF 12 1 1 3,az 13 1 12,b8 14 37 11 13,cK 15 14] (aW 15 (aa [bu 4 false] .ret) .skip)) (.seq (aa [aF 16 2 1 2,az 17 1 16,aF 18 2 1 3,az 19 1 18,b8 20 92 17 19,cK 21 20] (aW 21 (aa [bu 4 false] .ret) .skip)) (.seq (aa [aF 22 3 1 2,az 23 1 22,aF 24 3 1 3,az 25 1 24,b8 26 93 23 25,cK 27 26] (aW 27 (aa [bu 4 false] .ret) .skip)) (.seq (aa [aF 28 4 1 2,az 29 1 28,aF 30 4 1 3,az 31 1 30,b8 32 94 29 31,cK 33 32] (aW 33 (aa [bu 4 false] .ret) .skip)) (aa [bu 4 true] .ret)))))))
def LG:C:=(aa [bM 4 0] (aa [I 6 1,I 7 0,cx 8 7,bt 9 .sub 6 8,I 1 9] (.seq (aa [I 10 1,aV 11 .lss 10 0] (aW 11 (aa [bM 4 (-1)] .ret) .skip)) (.seq (aa [bM 5 0] (.block 0 (.loop (.seq (aa [I 12 5,I 13 0,cx 14 13,bt 15 .lss 12 14] (aW 15 .skip (.exit 0))) (.seq (.block 1 (aa [I 18 0,I 19 5,cl 20 5 18 19,bf 21 5 20,I 22 1,b8 23 97 21 22,I 1 23] (aa [I 24 1,aV 25 .lss 24 0] (aW 25 (aa [bM 4 (-1)] .ret) .skip)))) (.region [I 16 5,aV 17 .add 16 1,I 5 17])))))) (aa [I 26 1,I 4 26] .ret)))))
def To:C:=(aa [eY 2 5] (aa [I 5 0,cx 6 5,ds (.mks 7 none 5 113 (.agg kv) (.t 6)),I 3 7] (.seq (aa [bM 4 0] (.block 0 (.loop (.seq (aa [I 8 4,I 9 0,cx 10 9,bt 11 .lss 8 10] (aW 11 .skip (.exit 0))) (.seq (.block 1 (.region [I 14 3,I 15 4,I 16 0,I 17 4,cl 18 5 16 17,bf 19 5 18,cQ 20 101 19,cl 21 5 14 15,bV 5 21 20])) (.region [I 12 4,aV 13 .add 12 1,I 4 13])))))) (.seq (.pub 3 (.region [I 22 3,I 2 22])) .ret))))
def Ta:C:=(aa [bu 4 false] (.seq (aa [I 6 0,cx 7 6,I 8 1,cx 9 8,bt 10 .neq 7 9] (aW 10 (aa [bu 4 false] .ret) .skip)) (.seq (aa [bM 5 0] (.block 0 (.loop (.seq (aa [I 11 5,I 12 0,cx 13 12,bt 14 .lss 11 13] (aW 14 .skip (.exit 0))) (.seq (.block 1 (.seq (.drawn true 27 [I 17 0,I 18 5,cl 19 5 17 18,bf 20 5 19,I 21 1,I 22 5,cl 23 5 21 22,bf 24 5 23,b8 25 103 20 24,cK 26 25]) (aW 26 (aa [bu 4 false] .ret) .skip))) (.region [I 15 5,aV 16 .add 15 1,I 5 16])))))) (aa [bu 4 true] .ret))))
def LH:C:=(aa [bM 4 0] (aa [I 6 1,I 7 0,cx 8 7,bt 9 .sub 6 8,I 1 9] (.seq (aa [I 10 1,aV 11 .lss 10 0] (aW 11 (aa [bM 4 (-1)] .ret) .skip)) (.seq (aa [bM 5 0] (.block 0 (.loop (.seq (aa [I 12 5,I 13 0,cx 14 13,bt 15 .lss 12 14] (aW 15 .skip (.exit 0))) (.seq (.block 1 (aa [I 18 0,I 19 5,cl 20 1 18 19,az 21 1 20,I 22 1,b8 23 33 21 22,I 1 23] (aa [I 24 1,aV 25 .lss 24 0] (aW 25 (aa [bM 4 (-1)] .ret) .skip)))) (.region [I 16 5,aV 17 .add 16 1,I 5 17])))))) (aa [I 26 1,I 4 26] .ret)))))
def GX:C:=(aa [bM 4 0] (aa [I 5 1,I 6 0,cx 7 6,bt 8 .sub 5 7,I 1 8] (.seq (aa [I 9 1,aV 10 .lss 9 0] (aW 10 (aa [bM 4 (-1)] .ret) .skip)) (aa [I 11 1,I 4 11] .ret))))
def LI:C:=(aa [bM 4 0] (aa [I 6 1,I 7 0,cx 8 7,bt 9 .sub 6 8,I 1 9] (.seq (aa [I 10 1,aV 11 .lss 10 0] (aW 11 (aa [bM 4 (-1)] .ret) .skip)) (.seq (aa [bM 5 0] (.block 0 (.loop (.seq (aa [I 12 5,I 13 0,cx 14 13,bt 15 .lss 12 14] (aW 15 .skip (.exit 0))) (.seq (.block 1 (aa [I 18 0,I 19 5,cl 20 2 18 19,bf 21 2 20,I 22 1,b8 23 144 21 22,I 1 23] (aa [I 24 1,aV 25 .lss 24 0] (aW 25 (aa [bM 4 (-1)] .ret) .skip)))) (.region [I 16 5,aV 17 .add 16 1,I 5 17])))))) (aa [I 26 1,I 4 26] .ret)))))
def Tp:C:=(aa [eY 2 1] (aa [I 5 0,cx 6 5,ds (.mks 7 none 1 46 (.slice 5 .nil []) (.t 6)),I 3 7] (.seq (aa [bM 4 0] (.block 0 (.loop (.seq (aa [I 8 4,I 9 0,cx 10 9,bt 11 .lss 8 10] (aW 11 .skip (.exit 0))) (.seq (.block 1 (.region [I 14 3,I 15 4,I 16 0,I 17 4,cl 18 1 16 17,az 19 1 18,cQ 20 35 19,cl 21 1 14 15,bV 1 21 20])) (.region [I 12 4,aV 13 .add 12 1,I 4 13])))))) (.seq (.pub 3 (.region [I 22 3,I 2 22])) .ret))))
def Tw:C:=(aa [eY 2 2] (aa [I 5 0,cx 6 5,ds (.mks 7 none 2 98 (.agg [.int .i64 0,.int .i64 0]) (.t 6)),I 3 7] (.seq (aa [bM 4 0] (.block 0 (.loop (.seq (aa [I 8 4,I 9 0,cx 10 9,bt 11 .lss 8 10] (aW 11 .skip (.exit 0))) (.seq (.block 1 (.region [I 14 3,I 15 4,I 16 0,I 17 4,cl 18 2 16 17,bf 19 2 18,cQ 20 156 19,cl 21 2 14 15,bV 2 21 20])) (.region [I 12 4,aV 13 .add 12 1,I 4 13])))))) (.seq (.pub 3 (.region [I 22 3,I 2 22])) .ret))))
def Tr:C:=(aa [eY 2 2] (aa [I 5 0,cx 6 5,ds (.mks 7 none 2 100 (.agg [.int .i64 0,.str []]) (.t 6)),I 3 7] (.seq (aa [bM 4 0] (.block 0 (.loop (.seq (aa [I 8 4,I 9 0,cx 10 9,bt 11 .lss 8 10] (aW 11 .skip (.exit 0))) (.seq (.block 1 (.region [I 14 3,I 15 4,I 16 0,I 17 4,cl 18 2 16 17,bf 19 2 18,cQ 20 157 19,cl 21 2 14 15,bV 2 21 20])) (.region [I 12 4,aV 13 .add 12 1,I 4 13])))))) (.seq (.pub 3 (.region [I 22 3,I 2 22])) .ret))))
def Tb:C:=(aa [bu 4 false] (.seq (aa [I 6 0,cx 7 6,I 8 1,cx 9 8,bt 10 .neq 7 9] (aW 10 (aa [bu 4 false] .ret) .skip)) (.seq (aa [bM 5 0] (.block 0 (.loop (.seq (aa [I 11 5,I 12 0,cx 13 12,bt 14 .lss 11 13] (aW 14 .skip (.exit 0))) (.seq (.block 1 (.seq (.drawn true 27 [I 17 0,I 18 5,cl 19 1 17 18,az 20 1 19,I 21 1,I 22 5,cl 23 1 21 22,az 24 1 23,b8 25 37 20 24,cK 26 25]) (aW 26 (aa [bu 4 false] .ret) .skip))) (.region [I 15 5,aV 16 .add 15 1,I 5 16])))))) (aa [bu 4 true] .ret))))
def Ti:C:=(aa [bu 4 false] (.seq (aa [I 6 0,cx 7 6,I 8 1,cx 9 8,bt 10 .neq 7 9] (aW 10 (aa [bu 4 false] .ret) .skip)) (.seq (aa [bM 5 0] (.block 0 (.loop (.seq (aa [I 11 5,I 12 0,cx 13 12,bt 14 .lss 11 13] (aW 14 .skip (.exit 0))) (.seq (.block 1 (.seq (.drawn true 27 [I 17 0,I 18 5,cl 19 2 17 18,bf 20 2 19,I 21 1,I 22 5,cl 23 2 21 22,bf 24 2 23,b8 25 170 20 24,cK 26 25]) (aW 26 (aa [bu 4 false] .ret) .skip))) (.region [I 15 5,aV 16 .add 15 1,I 5 16])))))) (aa [bu 4 true] .ret))))
def Td:C:=(aa [bu 4 false] (.seq (aa [I 6 0,cx 7 6,I 8 1,cx 9 8,bt 10 .neq 7 9] (aW 10 (aa [bu 4 false] .ret) .skip)) (.seq (aa [bM 5 0] (.block 0 (.loop (.seq (aa [I 11 5,I 12 0,cx 13 12,bt 14 .lss 11 13] (aW 14 .skip (.exit 0))) (.seq (.block 1 (.seq (.drawn true 27 [I 17 0,I 18 5,cl 19 2 17 18,bf 20 2 19,I 21 1,I 22 5,cl 23 2 21 22,bf 24 2 23,b8 25 171 20 24,cK 26 25]) (aW 26 (aa [bu 4 false] .ret) .skip))) (.region [I 15 5,aV 16 .add 15 1,I 5 16])))))) (aa [bu 4 true] .ret))))
def LF:C:=(aa [cU 2 0,bM 4 0] (aa [hr 5 1 4 2,bf 6 4 5,I 7 1,b8 8 15 6 7,I 1 8] (.seq (aa [I 9 1,aV 10 .lss 9 0] (aW 10 (aa [bM 4 (-1)] .ret) .skip)) (aa [I 11 1,I 4 11] .ret))))
def Tn:C:=(aa [cU 1 0,dF 2 kv] (aa [dF 3 kv] (aa [aF 4 0 1 1,az 5 1 4,aF 6 0 1 3,bV 1 6 5] (aa [hr 7 1 4 1,bf 8 4 7,cQ 9 18 8,hr 10 1 4 3,bV 4 10 9] (aa [bf 11 5 3,bV 5 2 11] .ret)))))
def S9:C:=(aa [cU 2 0,cU 3 1,bu 4 false] (.seq (aa [aF 5 0 1 2,az 6 1 5,aF 7 0 1 3,az 8 1 7,bt 9 .neq 6 8] (aW 9 (aa [bu 4 false] .ret) .skip)) (.seq (aa [hr 10 1 4 2,bf 11 4 10,hr 12 1 4 3,bf 13 4 12,b8 14 22 11 13,cK 15 14] (aW 15 (aa [bu 4 false] .ret) .skip)) (aa [bu 4 true] .ret))))
def GW:C:=(aa [cU 2 0,bM 4 0] (aa [I 5 1,aF 6 1 1 2,az 7 1 6,cf 8 (.slen (.t 7)),bt 9 .sub 5 8,I 1 9] (.seq (aa [I 10 1,aV 11 .lss 10 0] (aW 11 (aa [bM 4 (-1)] .ret) .skip)) (aa [I 12 1,I 4 12] .ret))))
def Tv:C:=(aa [cU 1 0,ds (.alloc 2 none (.agg [.int .i64 0,.int .i64 0]))] (aa [ds (.alloc 3 none (.agg [.int .i64 0,.int .i64 0]))] (aa [aF 4 0 1 1,az 5 1 4,aF 6 0 1 3,bV 1 6 5] (aa [aF 7 1 1 1,az 8 1 7,aF 9 1 1 3,bV 1 9 8] (aa [bf 10 2 3,bV 2 2 10] .ret)))))
def Tq:C:=(aa [cU 1 0,ds (.alloc 2 none (.agg [.int .i64 0,.str []]))] (aa [ds (.alloc 3 none (.agg [.int .i64 0,.str []]))] (aa [aF 4 0 1 1,az 5 1 4,aF 6 0 1 3,bV 1 6 5] (aa [aF 7 1 1 1,az 8 1 7,aF 9 1 1 3,bV 1 9 8] (aa [bf 10 2 3,bV 2 2 10] .ret)))))
def Th:C:=(aa [cU 2 0,cU 3 1,bu 4 false] (.seq (aa [aF 5 0 1 2,az 6 1 5,aF 7 0 1 3,az 8 1 7,bt 9 .neq 6 8] (aW 9 (aa [bu 4 false] .ret) .skip)) (.seq (aa [aF 10 1 1 2,az 11 1 10,aF 12 1 1 3,az 13 1 12,bt 14 .neq 11 13] (aW 14 (aa [bu 4 false] .ret) .skip)) (aa [bu 4 true] .ret))))
def Tc:C:=(aa [cU 2 0,cU 3 1,bu 4 false] (.seq (aa [aF 5 0 1 2,az 6 1 5,aF 7 0 1 3,az 8 1 7,bt 9 .neq 6 8] (aW 9 (aa [bu 4 false] .ret) .skip)) (.seq (aa [aF 10 1 1 2,az 11 1 10,aF 12 1 1 3,az 13 1 12,bt 14 .neq 11 13] (aW 14 (aa [bu 4 false] .ret) .skip)) (aa [bu 4 true] .ret))))
def yj:b2 aS vW [.tmp 4] 2 Tryz.f15=true:=bi
def Z5:b2 aS LJ [.tmp 4] 2 Tryz.f16=true:=bi
def aoV:b2 aS Tt [.cell 2 true 4] 1 Tryz.f18=true:=bi
def aoW:b2 aS Tu [.tmp 2] 1 Tryz.f19=true:=bi
def aoJ:b2 aS Tg [.tmp 4] 2 Tryz.f21=true:=bi
def aoI:b2 aS Tf [.tmp 4] 2 Tryz.f22=true:=bi
def Fs:b2 aS A2 [.tmp 4] 2 Tryz.f26=true:=bi
def aoU:b2 aS Ts [.cell 2 true 5] 1 Tryz.f28=true:=bi
def aoH:b2 aS Te [.tmp 4] 2 Tryz.f30=true:=bi
def Z2:b2 aS LG [.tmp 4] 2 Tryz.f33=true:=bi
def aoQ:b2 aS To [.tmp 2] 1 Tryz.f35=true:=bi
def aoD:b2 aS Ta [.tmp 4] 2 Tryz.f37=true:=bi
def Z3:b2 aS LH [.tmp 4] 2 Tryz.f72=true:=bi
def Ps:b2 aS GX [.tmp 4] 2 Tryz.f73=true:=bi
def Z4:b2 aS LI [.tmp 4] 2 Tryz.f74=true:=bi
def aoR:b2 aS Tp [.tmp 2] 1 Tryz.f83=true:=bi
def aoY:b2 aS Tw [.tmp 2] 1 Tryz.f84=true:=bi
def aoT:b2 aS Tr [.tmp 2] 1 Tryz.f85=true:=bi
def aoE:b2 aS Tb [.tmp 4] 2 Tryz.f92=true:=bi
def aoL:b2 aS Ti [.tmp 4] 2 Tryz.f93=true:=bi
def aoG:b2 aS Td [.tmp 4] 2 Tryz.f94=true:=bi
def Z1:b2 aS LF [.tmp 4] 2 Tryz.f97=true:=bi
def aoP:b2 aS Tn [.cell 2 true 5] 1 Tryz.f101=true:=bi
def aoC:b2 aS S9 [.tmp 4] 2 Tryz.f103=true:=bi
def Pr:b2 aS GW [.tmp 4] 2 Tryz.f144=true:=bi
def aoX:b2 aS Tv [.cell 2 true 2] 1 Tryz.f156=true:=bi
def aoS:b2 aS Tq [.cell 2 true 2] 1 Tryz.f157=true:=bi
def aoK:b2 aS Th [.tmp 4] 2 Tryz.f170=true:=bi
def aoF:b2 aS Tc [.tmp 4] 2 Tryz.f171=true:=bi
def nF{α:Type}(f:α->af)(z:af)(l:List α)(i:Nat):List af:=(l.take i).map f++List.replicate (l.length-i) z
def Co{α:Type}(f:α->af)(z:af)(l:List α):nF f z l 0=List.replicate l.length z:=by simp[nF]
def Zk{α:Type}(f:α->af)(z:af)(l:List α):nF f z l l.length=l.map f:=by simp[nF]
def Zl{α:Type}(f:α->af)(z:af)(l:List α){i:Nat}(hi:i<l.length):(nF f z l i)[i]? =some z:=by
 unfold nF;have h:((l.take i).map f).length=i:=by simp;omega
 rw[vC Ω,h,Nat.sub_self,List.getElem?_replicate,if_pos Ω]
def Zm{α:Type}(f:α->af)(z:af)(l:List α){i:Nat}{x:α}(a:l[i]? =some x):(nF f z l i).set i (f x)=nF f z l (i+1):=by
 have hi:=(fI.1 a).1;unfold nF;have h:((l.take i).map f).length=i:=by simp;omega
 rw[List.set_append_right _ _ Ω,h,Nat.sub_self,nK a,List.map_append,List.append_assoc];congr 1;obtain⟨m,hm⟩:∃m,l.length-i=m+1:=⟨l.length-i-1,Ω⟩;rw[hm,show l.length-(i+1)=m from by omega,List.replicate_succ,List.set_cons_zero];rfl
def Oj(S:aB->Prop):∀{a b:List af},aH S (a++b)↔aH S a/\aH S b
 |[],b=>by simp[aH]
 |x::a,b=>by simp[aH,Oj S (a:=a),and_assoc]
def Yj{α:Type}(S:aB->Prop)(f:α->af)(a:∀x,aA S (f x)):∀l:List α,aH S (l.map f)
 |[]=>by simp[aH]
 |x::xs=>by simp[aH,Yj S f a xs,a]
def qY(S:aB->Prop)(z:af)(a:aA S z):∀n,aH S (List.replicate n z)
 |0=>by simp[aH]
 |n+1=>by simp[List.replicate_succ,aH,qY S z a n,a]
def Yv{α:Type}(S:aB->Prop)(f:α->af)(z:af)(l:List α)(i:Nat)(b:∀x,aA S (f x))(a:aA S z):aH S (nF f z l i):=by unfold nF;rw[Oj];exact⟨Yj S f b _,qY S z a _⟩
def l1{α:Type}(f:α->Nat->af)(z:af)(out:List (α×Nat))(n:Nat):List af:=j1 f out++List.replicate (n-out.length) z
def wO{α:Type}(f:α->Nat->af)(z:af)(n:Nat):List.replicate n z=l1 f z [] n:=by simp[l1]
def O3{α:Type}(f:α->Nat->af)(z:af){out:List (α×Nat)}{n i:Nat}(hi:i<n)(aq:out.length=i):(l1 f z out n)[i]? =some z:=by subst aq;simp[l1,List.getElem?_append,List.getElem?_replicate,hi];omega
def O5{α:Type}(f:α->Nat->af)(z:af){out:List (α×Nat)}{n i:Nat}(hi:i<n)(aq:out.length=i)(x:α)(m:Nat):(l1 f z out n).set i (f x m)=l1 f z (out++[(x,m)]) n:=by
 subst aq;obtain⟨d,a⟩:∃d,n-out.length=d+1:=⟨n-out.length-1,Ω⟩;have U:n-(out.length+1)=d:=Ω
 simp[l1,a,U,List.replicate_succ,List.set_append]
def O2{α:Type}(f:α->Nat->af)(z:af){out:List (α×Nat)}{n:Nat}(aq:out.length=n):l1 f z out n=j1 f out:=by subst aq;simp[l1]
@[simp]def O4{α:Type}(f:α->Nat->af)(z:af){out:List (α×Nat)}{n:Nat}(aq:out.length<=n):(l1 f z out n).length=n:=by simp[l1];omega
def Oh{α:Type}{f:α->Nat->af}{g:α->af}(h:nM f g){n m:Nat}{l:List (α×Nat)}{z:af}(a:∀S,aA S z)(b:rl n l)(hm:n<=m)(o:List aB)(N:Nat):aH (fun k=> ¬fresh m o k) (l1 f z l N)=True:=by have J:=h.kin b hm o;unfold l1;rw[Oj];simp only[J,true_and];exact h1 (qY _ _ (a _) _)
def _root_.Go.Pv.Tm.k(t:Tm)(κ:Nat):af:= .agg [aj t.kind,aj t.num,.str t.name,.slice 4 (.tr (.loc κ) 0) (t.args.map enc)]
def B5:nM Tm.k enc:=⟨fun x n=>rfl,fun x n=>by simp[Tm.k,fq,fW,ef],fun x n=>by cases x;simp[Tm.k,b3,b9,enc,Bg,Tm.kind,Tm.num,Tm.name,Tm.args],fun S x n h=>by simp[Tm.k,aA,aH,h]⟩
def adw(l:dz cE)(hw:∀p n cap,l= .b p n cap->oj n)(c:∀xs,l= .l xs->∀x∈xs,∀m,0<=m->m<=1048576->bT au 15 [cE.e x,aj m] (aj (hb x m)))(m:Int)(u:0<=m)(J:m<=1048576):bT au 16 [l.e 4 cE.e,aj m] (aj (fw hb l m)):=by
 cases l with
 |b p n cap=>
  have r:=hw p n cap rfl;simp only[oj,lim]at r;have g:m-n<0:=Ω
  simp only[dz.e,fw];clear hw c;refine bF a6 Tryz.func16 Z5 fun o=>?_;unfold LJ;exact cn
 |l l=>
 have c:=c l rfl;clear hw;simp only[dz.e,fw];generalize br:mv hb l m=R;unfold mv at br;refine bF a6 Tryz.func16 Z5 fun o=>?_;unfold LJ;have t:l.length<=68719476736:=by simp[eK,eU,eM,lim]at o;omega
 simp;by_cases g:m-l.length<0
 ·rw[if_pos g]at br;subst br;exact cn
 rw[if_neg g]at br;(repeat' first|refine al ?_|simp[g]);refine e1 [0] (fun i (k:Int)=>[(1,aj k),(5,aj i)]) l.length (fun i k=>(0<=k/\k<=1048576)/\jP hb (l.drop i) k=R) (m-l.length) cb ⟨⟨Ω,Ω⟩,by simpa using br⟩ (fun k a _=>?_) (fun i k hi a _=>?_)
 ·obtain⟨_,a⟩:=a;rw[List.drop_length]at a;simp only[jP]at a;subst a;exact cn
 ·obtain⟨⟨f,s⟩,a⟩:=a;obtain⟨x,e,j⟩:=eV hi;have key:=c x (fx e) k f s;have hle:=w5 x k f;rw[vb e]at a;simp only[jP]at a;generalize hb x k=q at key hle a;clear e;by_cases d:q<0
  ·rw[if_pos d]at a;subst a;exact cn
  ·rw[if_neg d]at a;simp[hi,j];((repeat' first|refine al ?_|refine aO key ?_|refine aP key ?_|simp[hi,j,d]|((first|apply cq|apply cu|apply ct)<;>intro h<;>try simp at h))<;>(try exact c0));all_goals exact bX.rng q hi ⟨⟨Ω,Ω⟩,a⟩ cb
def asJ(l:List Tm)(c:∀x∈l,bT au 22 [enc x,enc x] (.bool true)):bT au 21 [dw (l.map enc),dw (l.map enc)] (.bool true):=by
 refine bF a6 Tryz.func21 aoJ fun b=>?_;unfold Tg;have d:l.length<=68719476736:=by simp[eK,eU,eM,lim]at b;omega
 simp;(repeat' first|refine al ?_|simp);refine e1 [0,1] (fun i (_:Unit)=>[(5,aj i)]) l.length (fun _ _=>True) () cb trivial (fun _ _ _=>?_) (fun i _ hi _ _=>?_)
 ·exact cn
 ·obtain⟨x,a,e⟩:=eV hi;have key:=c x (fx a);clear a;exact iU
def Rm(t:cE)(hw:t.wf):∀m:Int,0<=m->m<=1048576->bT au 15 [t.e,aj m] (aj (hb t m)):=by
 suffices H:∀(k:Nat) (t:cE),t.sz<=k->t.wf->∀m:Int,0<=m->m<=1048576->bT au 15 [t.e,aj m] (aj (hb t m))from H _ t (dO _) hw
 intro k;clear hw t;induction k with
 |zero=>intro t r;cases t<;>simp[cE.sz]at r
 |succ k o=>
  intro t r hw m A J;cases t with
  |mk j tn s a=>
   simp only[cE.wf,cE.wfL_iff]at hw;obtain⟨v,u⟩:=hw;have d:m-s.len<0->hb (.mk j tn s a) m= -1:=fun g=>by rw[Kn];exact if_pos g
   have f:¬m-s.len<0->hb (.mk j tn s a) m=fw hb (.l a) (m-s.len):=fun g=>by rw[Kn];exact if_neg g
   generalize hb (.mk j tn s a) m=R at d f;have z:=s.len_nn;have key:=fun h=>adw (.l a) (fun p n c e=>by cases e) (fun xs e x w=>by cases e;exact o x (by have:=cE.szL_mem w;simp only[cE.sz]at r;omega) (u x w)) (m-s.len) h Ω;have hle:=fun h=>vs w5 (.l a) (m-s.len) h;simp only[cE.e,cE.eL_map];simp only[dz.e]at key;clear r u;cases s with
   |b x=>
    simp only[hB.wf,oj,lim]at v;have g:m-x.size<0:=Ω
    have br:=d g;subst br;clear d f;clear key hle o;simp only[hB.e];refine bF a6 Tryz.func15 yj fun i=>?_;unfold vW;exact cn
   |s l=>
    simp only[hB.len]at d f key hle;simp only[hB.e];by_cases g:m-l.length<0
    ·have br:=d g;subst br;clear d f;clear key hle o;refine bF a6 Tryz.func15 yj fun i=>?_;unfold vW;have q:l.length<=68719476736:=by simp[eK,eU,eM,lim]at i;omega
     exact cn
    ·have br:=f g;clear d f;have key:=key Ω;have hle:=hle Ω;rw[<-br]at key hle;clear br o;by_cases y:R<0
     ·have:R= -1:=Ω
      subst this;refine bF a6 Tryz.func15 yj fun i=>?_;unfold vW;have q:l.length<=68719476736:=by simp[eK,eU,eM,lim]at i;omega
      exact cn
     ·refine bF a6 Tryz.func15 yj fun i=>?_;unfold vW;have q:l.length<=68719476736:=by simp[eK,eU,eM,lim]at i;omega
      exact cn
  |big j tn s p n c=>
   simp only[cE.wf]at hw;obtain⟨v,u⟩:=hw;have d:m-s.len<0->hb (.big j tn s p n c) m= -1:=fun g=>by rw[Kn];exact if_pos g
   have f:¬m-s.len<0->hb (.big j tn s p n c) m=fw hb (.b p n c) (m-s.len):=fun g=>by rw[Kn];exact if_neg g
   generalize hb (.big j tn s p n c) m=R at d f;have z:=s.len_nn;have key:=fun h=>adw (.b p n c) (fun p n c e=>by cases e;exact u) (fun xs e=>by cases e) (m-s.len) h Ω;have hle:=fun h=>vs w5 (.b p n c) (m-s.len) h;simp only[cE.e];simp only[dz.e]at key;clear r u;cases s with
   |b x=>
    simp only[hB.wf,oj,lim]at v;have g:m-x.size<0:=Ω
    have br:=d g;subst br;clear d f;clear key hle o;simp only[hB.e];refine bF a6 Tryz.func15 yj fun i=>?_;unfold vW;exact cn
   |s l=>
    simp only[hB.len]at d f key hle;simp only[hB.e];by_cases g:m-l.length<0
    ·have br:=d g;subst br;clear d f;clear key hle o;refine bF a6 Tryz.func15 yj fun i=>?_;unfold vW;have q:l.length<=68719476736:=by simp[eK,eU,eM,lim]at i;omega
     exact cn
    ·have br:=f g;clear d f;have key:=key Ω;have hle:=hle Ω;rw[<-br]at key hle;clear br o;by_cases y:R<0
     ·have:R= -1:=Ω
      subst this;refine bF a6 Tryz.func15 yj fun i=>?_;unfold vW;have q:l.length<=68719476736:=by simp[eK,eU,eM,lim]at i;omega
      exact cn
     ·refine bF a6 Tryz.func15 yj fun i=>?_;unfold vW;have q:l.length<=68719476736:=by simp[eK,eU,eM,lim]at i;omega
      exact cn
def anQ(l:List Tm)(v:∀x∈l,fY au 18 [enc x] (Tm.k x)):fY au 19 [dw (l.map enc)] fun κ=>.slice 4 (.tr (.loc κ) 0) (l.map enc):=by
 refine fY.mk mixed a6 Tryz.func19 aoW Ψ fun u κ=>?_;unfold Tu;have w:l.length<=68719476736:=by simp[eK,eU,eM,lim]at u;omega
 simp;all_goals try refine⟨by unfold lim;omega,?_⟩
 (repeat' first|refine al ?_|simp);have c:∀S:aB->Prop,aA S (.agg [aj 0,aj 0,.str [],.slice 4 .nil []]):=fun S=>by simp[aA,aH]
 refine fT (fun i (x:Nat×List (Tm×Nat))=>⟨[(0,dw (l.map enc)),(3,.row 4 (.loc 0) l.length),(4,aj i)],[],[(.loc 0,⟨l.length,30,4,some (l1 Tm.k (.agg [aj 0,aj 0,.str [],.slice 4 .nil []]) x.2 l.length)⟩)],x.1,[]⟩) l.length (fun i x=>1<=x.1/\rl x.1 x.2/\x.2.map (·.1)=l.take i) (1,[]) ⟨by simp[fresh,aH,aA,cd,aM,ae,<-wO,qY _ _ (c _)],ep (by simp[fresh,aH,aA,cd,aM,ae,<-wO,qY _ _ (c _)]),er (by simp[fresh,aH,aA,dW,aM,ae,<-wO,qY _ _ (c _)]),Ψ⟩ ⟨dO _,.nil _,Ψ⟩ (fun x e _=>?_) (fun i x hi e _=>?_)
 ·obtain⟨n,out⟩:=x;obtain⟨J,U,a⟩:=e;simp only[jA]at J U a;have b:out.length=l.length:=by rw[<-a];simp
  simp;rw[O2 _ _ b];(repeat' first|refine al ?_|simp);(refine h3.val Ψ ?_;simp[ba,be,a1,fb,hp,eD,gS,eh,gI,tnL,tn,fq,fW,fold,hE,hC,iJ,ae,ef,b9,b3,B5.okL,B5.nodup U,B5.stL,a,b])
 ·obtain⟨n,out⟩:=x;obtain⟨J,U,a⟩:=e;simp only at J U a;obtain⟨x,r,k⟩:=eV hi;have key:=v x (fx r);have b:out.length=i:=by have:=fC List.length a;simp at this;omega
  have d:=O3 Tm.k (.agg [aj 0,aj 0,.str [],.slice 4 .nil []]) hi b;have g:∀h,((l1 Tm.k (.agg [aj 0,aj 0,.str [],.slice 4 .nil []]) out l.length)[i]'h)= .agg [aj 0,aj 0,.str [],.slice 4 .nil []]:=fun h=>by rw[ck h]at d;exact eZ d
  have f:=fun m=>O5 Tm.k (.agg [aj 0,aj 0,.str [],.slice 4 .nil []]) hi b x m;have o:=O4 Tm.k (.agg [aj 0,aj 0,.str [],.slice 4 .nil []]) (out:=out) (n:=l.length) Ω;have y:=fun m n' (h:n<=m) (t:m<n')=>U.snoc x h t;have s:∀m,(out++[(x,m)]).map (fun p:Tm×Nat=>p.1)=l.take (i+1):=fun m=>by rw[nK r,<-a];simp
  generalize l1 Tm.k (.agg [aj 0,aj 0,.str [],.slice 4 .nil []]) out l.length=r0 at d g f o⊢;have q:=U.snoc x (dO n) (Nat.lt_succ_self n);have j:=Oh B5 c q (dO _) [] l.length;simp[fresh]at j;simp[hi,k];(refine CallDo.own Ψ (key) g8 ?_;simp);(repeat' first|refine al ?_|simp[hi,k,g,o,f,Tm.k,nI]);refine bX.rng (n+1,out++[(x,n)]) hi ?_ ?_
  ·exact⟨Ψ,q,s n⟩
  simp;rw[show(af.agg [aj x.kind,aj x.num,.str x.name,.slice 4 (.tr (.loc n) 0) (x.args.map enc)])=Tm.k x n from rfl,f n];exact⟨by simp[fresh,aH,aA,cd,aM,ae],ep Ψ,er (by simp[fresh,aH,aA,cd,aM,ae,dW];exact j),Ψ⟩
def Je(t:Tm):fY au 18 [enc t] t.k:=by
 suffices H:∀(k:Nat) (t:Tm),t.sz<=k->fY au 18 [enc t] t.k from H _ t (dO _)
 intro k;induction k with
 |zero=>intro t b;cases t;simp[Tm.sz]at b
 |succ k a=>intro t b;have key:=anQ t.args (fun x c=>a x (by have:=QY c;omega));clear a;refine fY.mk mixed a6 Tryz.func18 aoV Ψ fun d κ=>?_;unfold Tt;simp;(repeat' first|refine al ?_|simp);(refine CallDo.own Ψ (key) g8 ?_;simp);(repeat' first|refine al ?_|simp);(refine h3.val Ψ ?_;simp[ba,be,a1,fb,hp,eD,gS,eh,gI,tnL,tn,fq,fW,fold,hE,hC,iJ,ae,ef,b9,b3]);all_goals simp[Tm.k]
@[simp]def auT(t:Tm)(n:Nat):cells (t.k n)=[aj t.kind,aj t.num,.str t.name,.slice 4 (.tr (.loc n) 0) (t.args.map enc)]:=rfl
@[simp]def aya(t:Tm)(n:Nat):eS (t.k n)=true:=rfl
def adx(t:Tm):bT au 18 [enc t] (enc t):=by have:=(Je t).val (by rw[B5.st];simp);rwa[B5.st]at this
def Rb(t:Tm):bT au 22 [enc t,enc t] (.bool true):=by
 suffices H:∀(k:Nat) (t:Tm),t.sz<=k->bT au 22 [enc t,enc t] (.bool true)from H _ t (dO _)
 intro k;induction k with
 |zero=>intro t b;cases t;simp[Tm.sz]at b
 |succ k a=>intro t b;have key:=asJ t.args (fun x c=>a x (by have:=QY c;omega));clear a;refine bF a6 Tryz.func22 aoI fun d=>?_;unfold Tf;exact cn
structure fQ where
 v:Int
 t:cE
def fQ.e(b:fQ):af:= .agg [aj b.v,aj b.t.kind,aj b.t.num,b.t.name.e,b.t.args.e 4 cE.e]
@[simp]def awp(S:aB->Prop)(b:fQ):aA S b.e=True:=by simp[fQ.e,aA,aH]
@[simp]def ayf(b:fQ):b3 b.e=b.e:=by simp[fQ.e,b3,b9]
def Yl(S:aB->Prop):∀l:List fQ,aH S (l.map fQ.e)
 |[]=>by simp[aH]
 |x::xs=>by simp[aH,Yl S xs]
@[simp]def awe(S:aB->Prop)(l:List fQ):aH S (l.map fQ.e)=True:=h1 (Yl S l)
@[simp]def axL(b:fQ):eS b.e=true:=rfl
@[simp]def avX(b:fQ):qW 5 b.e:=⟨_,rfl,rfl⟩
@[simp]def auu(b:fQ):cells b.e=[aj b.v,aj b.t.kind,aj b.t.num,b.t.name.e,b.t.args.e 4 cE.e]:=rfl
structure ix where
 v:Int
 s:hB
def ix.e(b:ix):af:= .agg [aj b.v,b.s.e]
@[simp]def awB(S:aB->Prop)(b:ix):aA S b.e=True:=by simp[ix.e,aA,aH]
@[simp]def ayr(b:ix):b3 b.e=b.e:=by simp[ix.e,b3,b9]
def Yq(S:aB->Prop):∀l:List ix,aH S (l.map ix.e)
 |[]=>by simp[aH]
 |x::xs=>by simp[aH,Yq S xs]
@[simp]def awj(S:aB->Prop)(l:List ix):aH S (l.map ix.e)=True:=h1 (Yq S l)
@[simp]def ax2(b:ix):eS b.e=true:=rfl
@[simp]def av2(b:ix):qW 2 b.e:=⟨_,rfl,rfl⟩
@[simp]def auL(b:ix):cells b.e=[aj b.v,b.s.e]:=rfl
def q7(b:fQ)(m:Int):Int:=hb b.t m
def QU(b:fQ)(m:Int)(h:0<=m): -1<=q7 b m/\q7 b m<=m:=w5 b.t m h
def jQ(b:ix)(m:Int):Int:=if m-b.s.len<0 then-1 else m-b.s.len
def F9(b:ix)(m:Int)(h:0<=m): -1<=jQ b m/\jQ b m<=m:=by have:=b.s.len_nn;unfold jQ;split<;>omega
def GG(t:cE):af.agg [aj t.kind,aj t.num,t.name.e,t.args.e 4 cE.e]=t.e:=(cE.e_eq t).symm
def aty(b:fQ)(hw:b.t.wf)(m:Int)(a:0<=m)(J:m<=1048576):bT au 97 [b.e,aj m] (aj (q7 b m)):=by
 have key:=Rm b.t hw m a J;have hle:=w5 b.t m a;unfold q7;generalize hb b.t m=q at key hle⊢;by_cases c:q<0
 ·have:q= -1:=Ω
  subst this;refine bF a6 Tryz.func97 Z1 fun d=>?_;unfold LF;simp[GG];(repeat' first|refine al ?_|refine aO key ?_|refine aP key ?_|simp[GG]);all_goals simp[bZ,ba,be,a1]
 ·refine bF a6 Tryz.func97 Z1 fun d=>?_;unfold LF;simp[GG];(repeat' first|refine al ?_|refine aO key ?_|refine aP key ?_|simp[c,GG]);all_goals simp[bZ,ba,be,a1]
def _root_.Go.Pv.Bt.k(b:Bt)(κ:Nat):af:= .agg [aj b.v,aj b.t.kind,aj b.t.num,.str b.t.name,.slice 4 (.tr (.loc κ) 0) (b.t.args.map enc)]
def qF(d:List Bt)(κ:Nat):af:= .slice 5 (.tr (.loc κ) 0) (d.map Bt.e)
def IG:nM Bt.k Bt.e:=⟨fun x n=>rfl,fun x n=>⟨trivial,trivial,trivial,trivial,Cu n,trivial⟩,fun x n=>by simp only[Bt.k,b3,b9,acq];rfl,fun S x n h=>by simp[Bt.k,aA,aH,h]⟩
def IH:nM qF gB:=⟨fun x n=>rfl,fun x n=>Cu n,fun x n=>by simp[qF,gB,b3],fun S x n h=>by simp[qF,aA,h]⟩
def anN(b:Bt):fY au 101 [b.e] b.k:=by have key:=Je b.t;refine fY.mk mixed a6 Tryz.func101 aoP Ψ fun a κ=>?_;unfold Tn;simp;(repeat' first|refine al ?_|simp);(refine CallDo.own Ψ (key) g8 ?_;simp);(repeat' first|refine al ?_|simp);(refine h3.val Ψ ?_;simp[ba,be,a1,fb,hp,eD,gS,eh,gI,tnL,tn,fq,fW,fold,hE,hC,iJ,ae,ef,b9,b3]);all_goals simp[Bt.k]
def asE(b:Bt):bT au 103 [b.e,b.e] (.bool true):=by have key:=Rb b.t;refine bF a6 Tryz.func103 aoC fun a=>?_;unfold S9;exact cn
def atB(b:ix)(hw:b.s.wf)(m:Int)(f:0<=m)(J:m<=1048576):bT au 144 [b.e,aj m] (aj (jQ b m)):=by
 have a:m-b.s.len<0->jQ b m= -1:=fun g=>if_pos g;have c:¬m-b.s.len<0->jQ b m=m-b.s.len:=fun g=>if_neg g;generalize jQ b m=R at a c;obtain⟨v,s⟩:=b;simp only[ix.e]at hw a c⊢;cases s with
 |b x=>
  simp only[hB.wf,oj,lim]at hw;have g:m-x.size<0:=Ω
  have br:=a g;subst br;clear a c;simp only[hB.e];refine bF a6 Tryz.func144 Pr fun d=>?_;unfold GW;exact cn
 |s l=>
  simp only[hB.e];by_cases g:m-l.length<0
  ·have br:=a g;subst br;clear a c hw;refine bF a6 Tryz.func144 Pr fun d=>?_;unfold GW;have e:l.length<=68719476736:=by simp[eK,eU,eM,lim]at d;omega
   exact cn
  ·have br:R=m-l.length:=c g;subst br;clear a c hw;refine bF a6 Tryz.func144 Pr fun d=>?_;unfold GW;have e:l.length<=68719476736:=by simp[eK,eU,eM,lim]at d;omega
   exact cn
def atJ(b:bJ):bT au 156 [b.e] b.e:=by refine bF a6 Tryz.func156 aoX fun a=>?_;unfold Tv;exact cn
def atH(b:bn):bT au 157 [b.e] b.e:=by refine bF a6 Tryz.func157 aoS fun a=>?_;unfold Tq;exact cn
def asK(b:bJ):bT au 170 [b.e,b.e] (.bool true):=by refine bF a6 Tryz.func170 aoK fun a=>?_;unfold Th;exact cn
def asH(b:bn):bT au 171 [b.e,b.e] (.bool true):=by refine bF a6 Tryz.func171 aoF fun a=>?_;unfold Tc;exact cn
@[simp high] def axD(x y:bn):oi x.e 0 [aj y.v,.str y.s]=y.e:=rfl
@[simp high] def axC(x y:bJ):oi x.e 0 [aj y.v,aj y.k]=y.e:=rfl
@[simp]def anT(l:List bn):fW (l.map bn.e)=True:=h1 (Fo (f:=bn.e) (fun _=>⟨trivial,trivial,trivial⟩) l)
@[simp]def ayA(l:List bn):tnL (l.map bn.e)=[]:=Kt (f:=bn.e) (fun _=>rfl) l
@[simp]def anS(l:List bJ):fW (l.map bJ.e)=True:=h1 (Fo (f:=bJ.e) (fun _=>⟨trivial,trivial,trivial⟩) l)
def atz(l:dz fQ)(hw:∀p n cap,l= .b p n cap->oj n)(c:∀xs,l= .l xs->∀x∈xs,∀m,0<=m->m<=1048576->bT au 97 [fQ.e x,aj m] (aj (q7 x m)))(m:Int)(u:0<=m)(J:m<=1048576):bT au 33 [l.e 5 fQ.e,aj m] (aj (fw q7 l m)):=by
 cases l with
 |b p n cap=>
  have r:=hw p n cap rfl;simp only[oj,lim]at r;have g:m-n<0:=Ω
  simp only[dz.e,fw];clear hw c;refine bF a6 Tryz.func33 Z2 fun o=>?_;unfold LG;exact cn
 |l l=>
 have c:=c l rfl;clear hw;simp only[dz.e,fw];generalize br:mv q7 l m=R;unfold mv at br;refine bF a6 Tryz.func33 Z2 fun o=>?_;unfold LG;have t:l.length<=68719476736:=by simp[eK,eU,eM,lim]at o;omega
 simp;by_cases g:m-l.length<0
 ·rw[if_pos g]at br;subst br;exact cn
 rw[if_neg g]at br;(repeat' first|refine al ?_|simp[g]);refine e1 [0] (fun i (k:Int)=>[(1,aj k),(5,aj i)]) l.length (fun i k=>(0<=k/\k<=1048576)/\jP q7 (l.drop i) k=R) (m-l.length) cb ⟨⟨Ω,Ω⟩,by simpa using br⟩ (fun k a _=>?_) (fun i k hi a _=>?_)
 ·obtain⟨_,a⟩:=a;rw[List.drop_length]at a;simp only[jP]at a;subst a;exact cn
 ·obtain⟨⟨f,s⟩,a⟩:=a;obtain⟨x,e,j⟩:=eV hi;have key:=c x (fx e) k f s;have hle:=QU x k f;rw[vb e]at a;simp only[jP]at a;generalize q7 x k=q at key hle a;clear e;by_cases d:q<0
  ·rw[if_pos d]at a;subst a;exact cn
  ·rw[if_neg d]at a;simp[hi,j];((repeat' first|refine al ?_|refine aO key ?_|refine aP key ?_|simp[hi,j,d]|((first|apply cq|apply cu|apply ct)<;>intro h<;>try simp at h))<;>(try exact c0));all_goals exact bX.rng q hi ⟨⟨Ω,Ω⟩,a⟩ cb
def anO(l:List Bt)(v:∀x∈l,fY au 101 [Bt.e x] (Bt.k x)):fY au 35 [bH (l.map Bt.e)] fun κ=>.slice 5 (.tr (.loc κ) 0) (l.map Bt.e):=by
 refine fY.mk mixed a6 Tryz.func35 aoQ Ψ fun u κ=>?_;unfold To;have w:l.length<=68719476736:=by simp[eK,eU,eM,lim]at u;omega
 simp;all_goals try refine⟨by unfold lim;omega,?_⟩
 (repeat' first|refine al ?_|simp);have c:∀S:aB->Prop,aA S (.agg [aj 0,aj 0,aj 0,.str [],.slice 4 .nil []]):=fun S=>by simp[aA,aH]
 refine fT (fun i (x:Nat×List (Bt×Nat))=>⟨[(0,bH (l.map Bt.e)),(3,.row 5 (.loc 0) l.length),(4,aj i)],[],[(.loc 0,⟨l.length,113,5,some (l1 Bt.k (.agg [aj 0,aj 0,aj 0,.str [],.slice 4 .nil []]) x.2 l.length)⟩)],x.1,[]⟩) l.length (fun i x=>1<=x.1/\rl x.1 x.2/\x.2.map (·.1)=l.take i) (1,[]) ⟨by simp[fresh,aH,aA,cd,aM,ae,<-wO,qY _ _ (c _)],ep (by simp[fresh,aH,aA,cd,aM,ae,<-wO,qY _ _ (c _)]),er (by simp[fresh,aH,aA,dW,aM,ae,<-wO,qY _ _ (c _)]),Ψ⟩ ⟨dO _,.nil _,Ψ⟩ (fun x e _=>?_) (fun i x hi e _=>?_)
 ·obtain⟨n,out⟩:=x;obtain⟨J,U,a⟩:=e;simp only[jA]at J U a;have b:out.length=l.length:=by rw[<-a];simp
  simp;rw[O2 _ _ b];(repeat' first|refine al ?_|simp);(refine h3.val Ψ ?_;simp[ba,be,a1,fb,hp,eD,gS,eh,gI,tnL,tn,fq,fW,fold,hE,hC,iJ,ae,ef,b9,b3,IG.okL,IG.nodup U,IG.stL,a,b])
 ·obtain⟨n,out⟩:=x;obtain⟨J,U,a⟩:=e;simp only at J U a;obtain⟨x,r,k⟩:=eV hi;have key:=v x (fx r);have b:out.length=i:=by have:=fC List.length a;simp at this;omega
  have d:=O3 Bt.k (.agg [aj 0,aj 0,aj 0,.str [],.slice 4 .nil []]) hi b;have g:∀h,((l1 Bt.k (.agg [aj 0,aj 0,aj 0,.str [],.slice 4 .nil []]) out l.length)[i]'h)= .agg [aj 0,aj 0,aj 0,.str [],.slice 4 .nil []]:=fun h=>by rw[ck h]at d;exact eZ d
  have f:=fun m=>O5 Bt.k (.agg [aj 0,aj 0,aj 0,.str [],.slice 4 .nil []]) hi b x m;have o:=O4 Bt.k (.agg [aj 0,aj 0,aj 0,.str [],.slice 4 .nil []]) (out:=out) (n:=l.length) Ω;have y:=fun m n' (h:n<=m) (t:m<n')=>U.snoc x h t;have s:∀m,(out++[(x,m)]).map (fun p:Bt×Nat=>p.1)=l.take (i+1):=fun m=>by rw[nK r,<-a];simp
  generalize l1 Bt.k (.agg [aj 0,aj 0,aj 0,.str [],.slice 4 .nil []]) out l.length=r0 at d g f o⊢;have q:=U.snoc x (dO n) (Nat.lt_succ_self n);have j:=Oh IG c q (dO _) [] l.length;simp[fresh]at j;simp[hi,k];(refine CallDo.own Ψ (key) g8 ?_;simp);(repeat' first|refine al ?_|simp[hi,k,g,o,f,Bt.k,nI]);refine bX.rng (n+1,out++[(x,n)]) hi ?_ ?_
  ·exact⟨Ψ,q,s n⟩
  simp;rw[show(af.agg [aj x.v,aj x.t.kind,aj x.t.num,.str x.t.name,.slice 4 (.tr (.loc n) 0) (x.t.args.map enc)])=Bt.k x n from rfl,f n];exact⟨by simp[fresh,aH,aA,cd,aM,ae],ep Ψ,er (by simp[fresh,aH,aA,cd,aM,ae,dW];exact j),Ψ⟩
def asF(l:List Bt)(c:∀x∈l,bT au 103 [Bt.e x,Bt.e x] (.bool true)):bT au 37 [bH (l.map Bt.e),bH (l.map Bt.e)] (.bool true):=by
 refine bF a6 Tryz.func37 aoD fun b=>?_;unfold Ta;have d:l.length<=68719476736:=by simp[eK,eU,eM,lim]at b;omega
 simp;(repeat' first|refine al ?_|simp);refine e1 [0,1] (fun i (_:Unit)=>[(5,aj i)]) l.length (fun _ _=>True) () cb trivial (fun _ _ _=>?_) (fun i _ hi _ _=>?_)
 ·exact cn
 ·obtain⟨x,a,e⟩:=eV hi;have key:=c x (fx a);clear a;exact iU
def atC(l:dz ix)(hw:∀p n cap,l= .b p n cap->oj n)(c:∀xs,l= .l xs->∀x∈xs,∀m,0<=m->m<=1048576->bT au 144 [ix.e x,aj m] (aj (jQ x m)))(m:Int)(u:0<=m)(J:m<=1048576):bT au 74 [l.e 2 ix.e,aj m] (aj (fw jQ l m)):=by
 cases l with
 |b p n cap=>
  have r:=hw p n cap rfl;simp only[oj,lim]at r;have g:m-n<0:=Ω
  simp only[dz.e,fw];clear hw c;refine bF a6 Tryz.func74 Z4 fun o=>?_;unfold LI;exact cn
 |l l=>
 have c:=c l rfl;clear hw;simp only[dz.e,fw];generalize br:mv jQ l m=R;unfold mv at br;refine bF a6 Tryz.func74 Z4 fun o=>?_;unfold LI;have t:l.length<=68719476736:=by simp[eK,eU,eM,lim]at o;omega
 simp;by_cases g:m-l.length<0
 ·rw[if_pos g]at br;subst br;exact cn
 rw[if_neg g]at br;(repeat' first|refine al ?_|simp[g]);refine e1 [0] (fun i (k:Int)=>[(1,aj k),(5,aj i)]) l.length (fun i k=>(0<=k/\k<=1048576)/\jP jQ (l.drop i) k=R) (m-l.length) cb ⟨⟨Ω,Ω⟩,by simpa using br⟩ (fun k a _=>?_) (fun i k hi a _=>?_)
 ·obtain⟨_,a⟩:=a;rw[List.drop_length]at a;simp only[jP]at a;subst a;exact cn
 ·obtain⟨⟨f,s⟩,a⟩:=a;obtain⟨x,e,j⟩:=eV hi;have key:=c x (fx e) k f s;have hle:=F9 x k f;rw[vb e]at a;simp only[jP]at a;generalize jQ x k=q at key hle a;clear e;by_cases d:q<0
  ·rw[if_pos d]at a;subst a;exact cn
  ·rw[if_neg d]at a;simp[hi,j];((repeat' first|refine al ?_|refine aO key ?_|refine aP key ?_|simp[hi,j,d]|((first|apply cq|apply cu|apply ct)<;>intro h<;>try simp at h))<;>(try exact c0));all_goals exact bX.rng q hi ⟨⟨Ω,Ω⟩,a⟩ cb
def apW(l:List bn)(j:∀x∈l,bT au 157 [bn.e x] (bn.e x)):fY au 85 [b5 (l.map bn.e)] fun κ=>.slice 2 (.tr (.loc κ) 0) (l.map bn.e):=by
 refine fY.mk mixed a6 Tryz.func85 aoT Ψ fun h κ=>?_;unfold Tr;have k:l.length<=68719476736:=by simp[eK,eU,eM,lim]at h;omega
 simp;all_goals try refine⟨by unfold lim;omega,?_⟩
 (repeat' first|refine al ?_|simp);have c:∀(S:aB->Prop) (n:Nat),aH S (List.replicate n ((⟨0,[]⟩:bn).e))=True:=fun S n=>h1 (qY S _ (by simp[aA,aH]) n);refine fT (fun i (_:Unit)=>⟨[(0,b5 (l.map bn.e)),(3,.row 2 (.loc 0) l.length),(4,aj i)],[],[(.loc 0,⟨l.length,100,2,some (nF bn.e ((⟨0,[]⟩:bn).e) l i)⟩)],1,[]⟩) l.length (fun _ _=>True) () ⟨by simp[fresh,aH,aA,cd,aM,ae,Co,c],ep (by simp[fresh,aH,aA,cd,aM,ae,Co,c]),er (by simp[fresh,aH,aA,dW,aM,ae,Co,c]),Ψ⟩ trivial (fun _ _ _=>?_) (fun i _ hi _ _=>?_)
 ·rw[Zk];simp;(repeat' first|refine al ?_|simp);(refine h3.val Ψ ?_;simp[ba,be,a1,fb,hp,eD,gS,eh,gI,tnL,tn,fq,fW,fold,hE,hC,iJ,ae,ef,b9,b3,anT])
 ·obtain⟨x,d,e⟩:=eV hi;have key:=j x (fx d);have f:=Zl bn.e ((⟨0,[]⟩:bn).e) l hi;have b:=Zm bn.e ((⟨0,[]⟩:bn).e) l d;have a:∀S:aB->Prop,aH S (nF bn.e ((⟨0,[]⟩:bn).e) l (i+1)):=fun S=>Yv S _ _ _ _ (fun x=>by simp) (by simp[aA,aH]);generalize nF bn.e ((⟨0,[]⟩:bn).e) l i=r0 at f b;generalize g:nF bn.e ((⟨0,[]⟩:bn).e) l (i+1)=m at b a;clear d;simp[hi,e];(repeat' first|refine al ?_|refine aO key ?_|refine aP key ?_|simp[hi,e,f,b,-oi]);all_goals refine bX.rng () hi trivial ?_
  all_goals rw[g]
  all_goals first
   |exact⟨by simp[fresh,aH,aA,cd,aM,ae,a],ep (by simp[fresh,aH,aA,cd,aM,ae,a]),er (by simp[fresh,aH,aA,dW,aM,ae,a]),Ψ⟩
   |exact⟨by simp[fresh,aH,aA,cd,aM,ae,a],ep (by simp[fresh,aH,aA,cd,aM,ae,a]),er (by simp[fresh,aH,aA,dW,aM,ae,a];exact b),Ψ⟩
def asI(l:List bn)(c:∀x∈l,bT au 171 [bn.e x,bn.e x] (.bool true)):bT au 94 [b5 (l.map bn.e),b5 (l.map bn.e)] (.bool true):=by
 refine bF a6 Tryz.func94 aoG fun b=>?_;unfold Td;have d:l.length<=68719476736:=by simp[eK,eU,eM,lim]at b;omega
 simp;(repeat' first|refine al ?_|simp);refine e1 [0,1] (fun i (_:Unit)=>[(5,aj i)]) l.length (fun _ _=>True) () cb trivial (fun _ _ _=>?_) (fun i _ hi _ _=>?_)
 ·exact cn
 ·obtain⟨x,a,e⟩:=eV hi;have key:=c x (fx a);clear a;exact iU
def apX(l:List bJ)(j:∀x∈l,bT au 156 [bJ.e x] (bJ.e x)):fY au 84 [b5 (l.map bJ.e)] fun κ=>.slice 2 (.tr (.loc κ) 0) (l.map bJ.e):=by
 refine fY.mk mixed a6 Tryz.func84 aoY Ψ fun h κ=>?_;unfold Tw;have k:l.length<=68719476736:=by simp[eK,eU,eM,lim]at h;omega
 simp;all_goals try refine⟨by unfold lim;omega,?_⟩
 (repeat' first|refine al ?_|simp);have c:∀(S:aB->Prop) (n:Nat),aH S (List.replicate n ((⟨0,0⟩:bJ).e))=True:=fun S n=>h1 (qY S _ (by simp[aA,aH]) n);refine fT (fun i (_:Unit)=>⟨[(0,b5 (l.map bJ.e)),(3,.row 2 (.loc 0) l.length),(4,aj i)],[],[(.loc 0,⟨l.length,98,2,some (nF bJ.e ((⟨0,0⟩:bJ).e) l i)⟩)],1,[]⟩) l.length (fun _ _=>True) () ⟨by simp[fresh,aH,aA,cd,aM,ae,Co,c],ep (by simp[fresh,aH,aA,cd,aM,ae,Co,c]),er (by simp[fresh,aH,aA,dW,aM,ae,Co,c]),Ψ⟩ trivial (fun _ _ _=>?_) (fun i _ hi _ _=>?_)
 ·rw[Zk];simp;(repeat' first|refine al ?_|simp);(refine h3.val Ψ ?_;simp[ba,be,a1,fb,hp,eD,gS,eh,gI,tnL,tn,fq,fW,fold,hE,hC,iJ,ae,ef,b9,b3,anS])
 ·obtain⟨x,d,e⟩:=eV hi;have key:=j x (fx d);have f:=Zl bJ.e ((⟨0,0⟩:bJ).e) l hi;have b:=Zm bJ.e ((⟨0,0⟩:bJ).e) l d;have a:∀S:aB->Prop,aH S (nF bJ.e ((⟨0,0⟩:bJ).e) l (i+1)):=fun S=>Yv S _ _ _ _ (fun x=>by simp) (by simp[aA,aH]);generalize nF bJ.e ((⟨0,0⟩:bJ).e) l i=r0 at f b;generalize g:nF bJ.e ((⟨0,0⟩:bJ).e) l (i+1)=m at b a;clear d;simp[hi,e];(repeat' first|refine al ?_|refine aO key ?_|refine aP key ?_|simp[hi,e,f,b,-oi]);all_goals refine bX.rng () hi trivial ?_
  all_goals rw[g]
  all_goals first
   |exact⟨by simp[fresh,aH,aA,cd,aM,ae,a],ep (by simp[fresh,aH,aA,cd,aM,ae,a]),er (by simp[fresh,aH,aA,dW,aM,ae,a]),Ψ⟩
   |exact⟨by simp[fresh,aH,aA,cd,aM,ae,a],ep (by simp[fresh,aH,aA,cd,aM,ae,a]),er (by simp[fresh,aH,aA,dW,aM,ae,a];exact b),Ψ⟩
def asL(l:List bJ)(c:∀x∈l,bT au 170 [bJ.e x,bJ.e x] (.bool true)):bT au 93 [b5 (l.map bJ.e),b5 (l.map bJ.e)] (.bool true):=by
 refine bF a6 Tryz.func93 aoL fun b=>?_;unfold Ti;have d:l.length<=68719476736:=by simp[eK,eU,eM,lim]at b;omega
 simp;(repeat' first|refine al ?_|simp);refine e1 [0,1] (fun i (_:Unit)=>[(5,aj i)]) l.length (fun _ _=>True) () cb trivial (fun _ _ _=>?_) (fun i _ hi _ _=>?_)
 ·exact cn
 ·obtain⟨x,a,e⟩:=eV hi;have key:=c x (fx a);clear a;exact iU
def lF:dz bJ->Int->Int
 | .l l,m=>if m-l.length<0 then-1 else m-l.length
 | .b _ _ _,_=> -1
def Km(l:dz bJ)(m:Int)(h:0<=m): -1<=lF l m/\lF l m<=m:=by
 cases l with
 |l l=>simp only[lF];split<;>omega
 |b=>simp only[lF];omega
def atE(l:dz bJ)(hw:∀p n cap,l= .b p n cap->oj n)(m:Int)(e:0<=m)(J:m<=1048576):bT au 73 [l.e 2 bJ.e,aj m] (aj (lF l m)):=by
 cases l with
 |b p n cap=>
  have d:=hw p n cap rfl;simp only[oj,lim]at d;have g:m-n<0:=Ω
  simp only[dz.e,lF];clear hw;refine bF a6 Tryz.func73 Ps fun a=>?_;unfold GX;exact cn
 |l l=>
  simp only[dz.e,lF];clear hw;by_cases g:m-l.length<0
  ·rw[if_pos g];refine bF a6 Tryz.func73 Ps fun a=>?_;unfold GX;have c:l.length<=68719476736:=by simp[eK,eU,eM,lim]at a;omega
   exact cn
  ·rw[if_neg g];refine bF a6 Tryz.func73 Ps fun a=>?_;unfold GX;have c:l.length<=68719476736:=by simp[eK,eU,eM,lim]at a;omega
   exact cn
def la(d:dz fQ):af:=d.e 5 fQ.e
@[simp]def aws(S:aB->Prop)(d:dz fQ):aA S (la d)=True:=by cases d<;>simp[la,dz.e,aA]
@[simp]def ayi(d:dz fQ):b3 (la d)=la d:=by
 cases d with
 |l l=>
  have:∀l:List fQ,b9 (l.map fQ.e)=l.map fQ.e:=by
   intro l;induction l with
   |nil=>rfl
   |cons x l a=>simp[b9,a]
  simp[la,dz.e,b3,this]
 |b=>simp[la,dz.e,b3]
def Yt(S:aB->Prop):∀l:List (dz fQ),aH S (l.map la)
 |[]=>by simp[aH]
 |x::xs=>by simp[aH,Yt S xs]
@[simp]def awl(S:aB->Prop)(l:List (dz fQ)):aH S (l.map la)=True:=h1 (Yt S l)
@[simp]def axR(d:dz fQ):eS (la d)=true:=by cases d<;>rfl
@[simp]def auz(d:dz fQ):cells (la d)=[la d]:=by cases d<;>rfl
def eF(d:dz fQ)(m:Int):Int:=fw q7 d m
def vr(d:dz fQ)(m:Int)(h:0<=m): -1<=eF d m/\eF d m<=m:=vs QU d m h
def yM(d:dz fQ):Prop:=d.wf fun b=>b.t.wf
@[simp]def arZ:∀l:List (List Bt),b9 (l.map gB)=l.map gB
 |[]=>rfl
 |x::xs=>by simp[b9,arZ xs]
def adv(d:dz fQ)(hw:yM d)(m:Int)(a:0<=m)(J:m<=1048576):bT au 33 [la d,aj m] (aj (eF d m)):=atz d (fun p n c e=>by subst e;exact hw) (fun xs e x b m a J=>by subst e;exact aty x (hw x b) m a J) m a J
def Zz(d:List Bt):fY au 35 [gB d] (qF d):=anO d fun x _=>anN x
def ac9(d:List Bt):bT au 37 [gB d,gB d] (.bool true):=asF d fun x _=>asE x
def atA(l:dz (dz fQ))(hw:∀p n cap,l= .b p n cap->oj n)(c:∀xs,l= .l xs->∀x∈xs,∀m,0<=m->m<=1048576->bT au 33 [la x,aj m] (aj (eF x m)))(m:Int)(u:0<=m)(J:m<=1048576):bT au 72 [l.e 1 la,aj m] (aj (fw eF l m)):=by
 cases l with
 |b p n cap=>
  have r:=hw p n cap rfl;simp only[oj,lim]at r;have g:m-n<0:=Ω
  simp only[dz.e,fw];clear hw c;refine bF a6 Tryz.func72 Z3 fun o=>?_;unfold LH;exact cn
 |l l=>
 have c:=c l rfl;clear hw;simp only[dz.e,fw];generalize br:mv eF l m=R;unfold mv at br;refine bF a6 Tryz.func72 Z3 fun o=>?_;unfold LH;have t:l.length<=68719476736:=by simp[eK,eU,eM,lim]at o;omega
 simp;by_cases g:m-l.length<0
 ·rw[if_pos g]at br;subst br;exact cn
 rw[if_neg g]at br;(repeat' first|refine al ?_|simp[g]);refine e1 [0] (fun i (k:Int)=>[(1,aj k),(5,aj i)]) l.length (fun i k=>(0<=k/\k<=1048576)/\jP eF (l.drop i) k=R) (m-l.length) cb ⟨⟨Ω,Ω⟩,by simpa using br⟩ (fun k a _=>?_) (fun i k hi a _=>?_)
 ·obtain⟨_,a⟩:=a;rw[List.drop_length]at a;simp only[jP]at a;subst a;exact cn
 ·obtain⟨⟨f,s⟩,a⟩:=a;obtain⟨x,e,j⟩:=eV hi;have key:=c x (fx e) k f s;have hle:=vr x k f;rw[vb e]at a;simp only[jP]at a;generalize eF x k=q at key hle a;clear e;by_cases d:q<0
  ·rw[if_pos d]at a;subst a;exact cn
  ·rw[if_neg d]at a;simp[hi,j];((repeat' first|refine al ?_|refine aO key ?_|refine aP key ?_|simp[hi,j,d]|((first|apply cq|apply cu|apply ct)<;>intro h<;>try simp at h))<;>(try exact c0));all_goals exact bX.rng q hi ⟨⟨Ω,Ω⟩,a⟩ cb
def anP(l:List (List Bt))(v:∀x∈l,fY au 35 [gB x] (qF x)):fY au 83 [c1 (l.map gB)] fun κ=>.slice 1 (.tr (.loc κ) 0) (l.map gB):=by
 refine fY.mk mixed a6 Tryz.func83 aoR Ψ fun u κ=>?_;unfold Tp;have w:l.length<=68719476736:=by simp[eK,eU,eM,lim]at u;omega
 simp;all_goals try refine⟨by unfold lim;omega,?_⟩
 (repeat' first|refine al ?_|simp);have c:∀S:aB->Prop,aA S (.slice 5 .nil []):=fun S=>by simp[aA,aH]
 refine fT (fun i (x:Nat×List ((List Bt)×Nat))=>⟨[(0,c1 (l.map gB)),(3,.row 1 (.loc 0) l.length),(4,aj i)],[],[(.loc 0,⟨l.length,46,1,some (l1 qF (.slice 5 .nil []) x.2 l.length)⟩)],x.1,[]⟩) l.length (fun i x=>1<=x.1/\rl x.1 x.2/\x.2.map (·.1)=l.take i) (1,[]) ⟨by simp[fresh,aH,aA,cd,aM,ae,<-wO,qY _ _ (c _)],ep (by simp[fresh,aH,aA,cd,aM,ae,<-wO,qY _ _ (c _)]),er (by simp[fresh,aH,aA,dW,aM,ae,<-wO,qY _ _ (c _)]),Ψ⟩ ⟨dO _,.nil _,Ψ⟩ (fun x e _=>?_) (fun i x hi e _=>?_)
 ·obtain⟨n,out⟩:=x;obtain⟨J,U,a⟩:=e;simp only[jA]at J U a;have b:out.length=l.length:=by rw[<-a];simp
  simp;rw[O2 _ _ b];(repeat' first|refine al ?_|simp);(refine h3.val Ψ ?_;simp[ba,be,a1,fb,hp,eD,gS,eh,gI,tnL,tn,fq,fW,fold,hE,hC,iJ,ae,ef,b9,b3,IH.okL,IH.nodup U,IH.stL,a,b])
 ·obtain⟨n,out⟩:=x;obtain⟨J,U,a⟩:=e;simp only at J U a;obtain⟨x,r,k⟩:=eV hi;have key:=v x (fx r);have b:out.length=i:=by have:=fC List.length a;simp at this;omega
  have d:=O3 qF (.slice 5 .nil []) hi b;have g:∀h,((l1 qF (.slice 5 .nil []) out l.length)[i]'h)= .slice 5 .nil []:=fun h=>by rw[ck h]at d;exact eZ d
  have f:=fun m=>O5 qF (.slice 5 .nil []) hi b x m;have o:=O4 qF (.slice 5 .nil []) (out:=out) (n:=l.length) Ω;have y:=fun m n' (h:n<=m) (t:m<n')=>U.snoc x h t;have s:∀m,(out++[(x,m)]).map (fun p:(List Bt)×Nat=>p.1)=l.take (i+1):=fun m=>by rw[nK r,<-a];simp
  generalize l1 qF (.slice 5 .nil []) out l.length=r0 at d g f o⊢;have q:=U.snoc x (dO n) (Nat.lt_succ_self n);have j:=Oh IH c q (dO _) [] l.length;simp[fresh]at j;simp[hi,k];(refine CallDo.own Ψ (key) g8 ?_;simp);(repeat' first|refine al ?_|simp[hi,k,g,o,f,qF,nI]);refine bX.rng (n+1,out++[(x,n)]) hi ?_ ?_
  ·exact⟨Ψ,q,s n⟩
  simp;rw[show(af.slice 5 (.tr (.loc n) 0) (x.map Bt.e))=qF x n from rfl,f n];exact⟨by simp[fresh,aH,aA,cd,aM,ae],ep Ψ,er (by simp[fresh,aH,aA,cd,aM,ae,dW];exact j),Ψ⟩
def asG(l:List (List Bt))(c:∀x∈l,bT au 37 [gB x,gB x] (.bool true)):bT au 92 [c1 (l.map gB),c1 (l.map gB)] (.bool true):=by
 refine bF a6 Tryz.func92 aoE fun b=>?_;unfold Tb;have d:l.length<=68719476736:=by simp[eK,eU,eM,lim]at b;omega
 simp;(repeat' first|refine al ?_|simp);refine e1 [0,1] (fun i (_:Unit)=>[(5,aj i)]) l.length (fun _ _=>True) () cb trivial (fun _ _ _=>?_) (fun i _ hi _ _=>?_)
 ·exact cn
 ·obtain⟨x,a,e⟩:=eV hi;have key:=c x (fx a);clear a;exact iU
def TW:C:=(aa [cU 1 0,bu 2 false] (aa [bf 3 4 1,dN 4 123 [.t 3,(gV 5000)],aV 5 .leq 4 5000,I 6 5,ax 6 true (bf 7 4 1),ax 6 true (cQ 8 124 7),ej 9 6 8,I 2 9] .ret))
def A4:C:=(aa [cU 2 0,eY 4 1] (.seq (aa [aF 7 0 1 2,az 8 1 7,aV 9 .eql 8 1] (aW 9 (aa [I 10 1,aF 11 1 1 2,az 12 1 11,b8 13 126 10 12,I 4 13] .ret) .skip)) (.seq (aa [aF 14 3 1 2,az 15 1 14,cx 16 15,bM 17 0] (gz 18 17 16 (.seq (.block 1 (aa [cl 19 4 15 17,bf 20 4 19,dF 6 eB,bV 4 6 20] (.region [bf 21 4 6,I 22 1,b8 23 58 21 22,I 1 23]))) (.region [aV 24 .add 17 1,I 17 24])))) (aa [I 25 1,I 4 25] .ret))))
def T6:C:=(aa [cU 3 1,dF 4 eB,bu 5 false] (aa [I 7 0,bf 8 4 3,b8 9 127 7 8,dF 6 eB,bV 4 6 9] (.seq (.drawn true 13 [bf 10 4 6,bf 11 4 6,cQ 12 128 11,bV 4 4 10,I 5 12]) .ret)))
def TX:C:=(aa [bu 6 false] (aa [I 7 0,I 8 1,bt 9 .geq 7 8,I 10 9,cg 10 true 11 0,cg 10 true 12 2,ax 10 true (bt 13 .leq 11 12),ej 14 10 13,I 6 14] .ret))
def LR:C:=(aa [bu 2 false] (.seq (aa [I 9 0,cQ 10 145 9,cK 11 10] (aW 11 (aa [bu 2 false] .ret) .skip)) (.seq (aa [I 12 0,cx 13 12,bM 14 0] (gz 15 14 13 (.seq (.block 1 (aa [cl 16 5 12 14,bf 17 5 16,dF 4 kv,bV 5 4 17] (.seq (aa [hr 18 1 4 4,aF 19 0 1 18,az 20 1 19,aV 21 .eql 20 1,I 22 21,ax 22 true (hr 23 1 4 4),ax 22 true (aF 24 1 1 23),ax 22 true (az 25 1 24),ax 22 true (aF 26 0 1 4),ax 22 true (az 27 1 26),ax 22 true (bt 28 .geq 25 27),ej 29 22 28] (aW 29 (aa [bu 2 false] .ret) .skip)) (aa [hr 30 1 4 4,bf 31 4 30,dN 32 58 [.t 31,(.c (.slice 1 .nil []))],cx 33 32,bM 34 0] (.block 2 (.loop (aa [bt 35 .lss 34 33] (.seq (aW 35 .skip (.exit 2)) (.seq (.block 3 (aa [cl 36 1 32 34,az 37 1 36,I 6 37] (aa [I 39 0,I 40 6,b8 41 146 39 40,I 38 41,cS 42 0 38,cS 43 1 38,dF 7 eB,bV 4 7 42,I 8 43] (aa [I 44 8] (aW 44 (aa [bu 2 false] .ret) .skip))))) (.region [aV 45 .add 34 1,I 34 45])))))))))) (.region [aV 46 .add 14 1,I 14 46])))) (aa [bu 2 true] .ret))))
def TS:C:=(aa [bu 2 false] (.seq (aa [bM 3 0] (.block 0 (.loop (.seq (aa [I 5 3,I 6 0,cf 7 (.slen (.t 6)),bt 8 .lss 5 7] (aW 8 .skip (.exit 0))) (.seq (.block 1 (aa [I 11 0,I 12 3,cf 13 (.sidx (.t 11) (.t 12)),cf 14 (.bin .geq false (.t 13) (.c (.int .u8 97))),I 15 14,cg 15 true 16 0,cg 15 true 17 3,ax 15 true (cf 18 (.sidx (.t 16) (.t 17))),ax 15 true (cf 19 (.bin .leq false (.t 18) (.c (.int .u8 122)))),ej 20 15 19,I 4 20] (aa [I 21 4,cK 22 21,I 23 22,cg 23 true 24 3,ax 23 true (aV 25 .eql 24 0),cg 23 true 26 25,cg 26 false 27 0,cg 26 false 28 3,ax 26 false (cf 29 (.sidx (.t 27) (.t 28))),ax 26 false (cf 30 (.bin .neq false (.t 29) (.c (.int .u8 45)))),cg 26 false 31 30,cg 31 true 32 0,cg 31 true 33 3,ax 31 true (cf 34 (.sidx (.t 32) (.t 33))),ax 31 true (cf 35 (.conv .i64 (.t 34))),ax 31 true (dN 36 75 [.t 35,(gV 48),(gV 57)]),ax 31 true (cK 37 36),ax 26 false (ej 38 31 37),ax 23 true (dq 39 26 38),ej 40 23 39] (aW 40 (aa [bu 2 false] .ret) .skip)))) (.region [I 9 3,aV 10 .add 9 1,I 3 10])))))) (aa [I 41 0,cf 42 (.slen (.t 41)),dN 43 75 [.t 42,(gV 1),(gV 12)],I 2 43] .ret)))
def TY:C:=(aa [cU 2 0,bM 4 0] (aa [bM 5 1] (.seq (aa [aF 8 3 1 2,az 9 1 8,cx 10 9,bM 11 0] (gz 12 11 10 (.seq (.block 1 (aa [cl 13 4 9 11,bf 14 4 13,dF 7 eB,bV 4 7 14] (.seq (aa [I 15 5,I 16 1,bt 17 .gtr 15 16] (aW 17 (aa [I 18 5,I 4 18] .ret) .skip)) (.region [I 19 5,bf 20 4 7,I 21 1,I 22 5,bt 23 .sub 21 22,b8 24 123 20 23,bt 25 .add 19 24,I 5 25])))) (.region [aV 26 .add 11 1,I 11 26])))) (aa [I 27 5,I 4 27] .ret))))
def nk:C:=(aa [cU 1 0,bu 2 false] (.seq (aa [aF 3 0 1 1,az 4 1 3,aV 5 .neq 4 1,I 6 5,ax 6 true (aF 7 0 1 1),ax 6 true (az 8 1 7),ax 6 true (aV 9 .neq 8 3),ej 10 6 9,I 11 10,ax 11 true (aF 12 1 1 1),ax 11 true (az 13 1 12),ax 11 true (aV 14 .neq 13 0),ej 15 11 14,I 16 15,ax 16 false (aF 17 0 1 1),ax 16 false (az 18 1 17),ax 16 false (aV 19 .neq 18 2),cg 16 false 20 19,ax 20 true (aF 21 2 1 1),ax 20 true (az 22 1 21),yN 20 true 23 (.bin .neq false (.t 22) (.c (.str []))),ax 16 false (ej 24 20 23),dq 25 16 24,I 26 25,ax 26 false (aF 27 0 1 1),ax 26 false (az 28 1 27),ax 26 false (aV 29 .neq 28 4),cg 26 false 30 29,ax 30 true (aF 31 3 1 1),ax 30 true (az 32 1 31),ax 30 true (cx 33 32),ax 30 true (aV 34 .gtr 33 0),ax 26 false (ej 35 30 34),dq 36 26 35] (aW 36 (aa [bu 2 false] .ret) .skip)) (.seq (aa [aF 37 0 1 1,az 38 1 37] (.block 0 (aa [aV 40 .eql 38 0,I 39 40] (aW 39 (aa [bu 2 true] .ret) (aa [aV 42 .eql 38 1,I 41 42] (aW 41 (aa [aF 43 1 1 1,az 44 1 43,dN 45 75 [.t 44,(gV 0),(gV 100000)],I 2 45] .ret) (aa [aV 47 .eql 38 2,I 46 47] (aW 46 (aa [aF 48 2 1 1,az 49 1 48,cQ 50 119 49,I 2 50] .ret) (aa [aV 52 .eql 38 3,I 51 52] (aW 51 (aa [aF 53 1 1 1,az 54 1 53,dN 55 75 [.t 54,(gV (-1000000000)),(gV 1000000000)],I 2 55] .ret) (aa [aV 57 .eql 38 4,I 56 57] (aW 56 (aa [aF 58 3 1 1,az 59 1 58,cx 60 59,aV 61 .eql 60 2,I 62 61,ax 62 true (aF 63 3 1 1),ax 62 true (az 64 1 63),ax 62 true (kD 65 4 64 0),ax 62 true (bf 66 4 65),ax 62 true (cQ 67 124 66),ej 68 62 67,I 69 68,ax 69 true (aF 70 3 1 1),ax 69 true (az 71 1 70),ax 69 true (kD 72 4 71 1),ax 69 true (bf 73 4 72),ax 69 true (cQ 74 124 73),ej 75 69 74,I 2 75] .ret) .skip)))))))))))) (aa [bu 2 false] .ret))))
def T0:C:=(aa [eY 4 1] (aa [I 7 0,cx 8 7,I 5 8] (.seq (.block 0 (.loop (.seq (aa [I 9 5,aV 10 .gtr 9 0,I 11 10,cg 11 true 12 0,cg 11 true 13 5,ax 11 true (aV 14 .sub 13 1),ax 11 true (cl 15 1 12 14),ax 11 true (az 16 1 15),cg 11 true 17 1,ax 11 true (bt 18 .geq 16 17),ej 19 11 18] (aW 19 .skip (.exit 0))) (.block 1 (.region [I 20 5,aV 21 .sub 20 1,I 5 21]))))) (.seq (aa [I 22 5,I 23 0,cx 24 23,bt 25 .lss 22 24,I 26 25,cg 26 true 27 0,cg 26 true 28 5,ax 26 true (cl 29 1 27 28),ax 26 true (az 30 1 29),cg 26 true 31 1,ax 26 true (bt 32 .eql 30 31),ej 33 26 32] (aW 33 (aa [I 34 0,I 4 34] .ret) .skip)) (aa [eX 35 1 3 [],I 36 0,I 37 5,cf 38 (.lsl 1 (.t 36) none (some (.t 37))),hT 39 1 3 35 38,I 6 39] (aa [I 40 6,I 41 1,eX 42 1 3 [.t 41],hT 43 1 3 40 42,I 6 43] (aa [I 44 6,I 45 0,I 46 5,cf 47 (.lsl 1 (.t 45) (some (.t 46)) none),hT 48 1 3 44 47,I 4 48] .ret)))))))
def G1:C:=(aa [cU 3 1,dF 4 eB] (.seq (aa [aF 7 0 1 3,az 8 1 7,aV 9 .eql 8 1] (aW 9 (aa [I 11 0,aF 12 1 1 3,az 13 1 12,b8 14 146 11 13,I 10 14,cS 15 0 10,cS 16 1 10,dF 5 eB,bV 4 5 15,I 6 16] (aa [I 17 6] (aW 17 (aa [bf 18 4 5,bV 4 4 18] .ret) .skip))) .skip)) (.seq (aa [aF 19 0 1 3,az 20 1 19,aV 21 .eql 20 4] (aW 21 (.seq (.drawn true 36 [I 22 0,aF 23 3 1 3,az 24 1 23,kD 25 4 24 0,bf 26 4 25,b8 27 127 22 26,I 28 0,aF 29 3 1 3,az 30 1 29,kD 31 4 30 1,bf 32 4 31,b8 33 127 28 32,b8 34 189 27 33,bV 4 4 34]) .ret) .skip)) (aa [bf 35 4 3,bV 4 4 35] .ret))))
def TZ:C:=(aa [cU 1 0,bu 2 false] (aa [bf 3 4 1,dN 4 123 [.t 3,(gV 5000)],aV 5 .leq 4 5000,I 2 5] .ret))
def Ua:C:=(aa [bu 2 false] (.seq (aa [I 5 0,cx 6 5,bM 7 0] (gz 8 7 6 (.seq (.block 1 (aa [I 9 7,cl 10 5 5 7,bf 11 5 10,dF 4 kv,I 3 9,bV 5 4 11] (.seq (.drawn true 41 [I 12 3,aV 13 .gtr 12 0,I 14 13,cg 14 true 15 0,cg 14 true 16 3,ax 14 true (aV 17 .sub 16 1),ax 14 true (cl 18 5 15 17),ax 14 true (aF 19 0 1 18),ax 14 true (az 20 1 19),ax 14 true (aF 21 0 1 4),ax 14 true (az 22 1 21),ax 14 true (bt 23 .geq 20 22),ej 24 14 23,I 25 24,ax 25 false (aF 26 0 1 4),ax 25 false (az 27 1 26),ax 25 false (dN 28 75 [.t 27,(gV 0),(gV 100000)]),ax 25 false (cK 29 28),dq 30 25 29,I 31 30,ax 31 false (hr 32 1 4 4),ax 31 false (bf 33 4 32),ax 31 false (cQ 34 56 33),ax 31 false (cK 35 34),dq 36 31 35]) (aW 36 (aa [bu 2 false] .ret) .skip)))) (.region [aV 37 .add 7 1,I 7 37])))) (aa [I 38 0,cx 39 38,aV 40 .leq 39 400,I 2 40] .ret)))
def T8:C:=(aa [dF 4 eB,bu 5 false] (.seq (aa [I 8 0,cx 9 8,bM 10 0] (gz 11 10 9 (.seq (.block 1 (aa [cl 12 5 8 10,bf 13 5 12,dF 7 kv,bV 5 7 13] (aa [aF 14 0 1 7,az 15 1 14,I 16 1,bt 17 .eql 15 16] (aW 17 (aa [hr 18 1 4 7,bf 19 4 18,bV 4 4 19,bu 5 true] .ret) .skip)))) (.region [aV 20 .add 10 1,I 10 20])))) (aa [jz 21 eB [],bV 4 4 21,bu 5 false] .ret)))
def Uc:C:=(aa [eY 4 5,bu 5 false] (aa [eX 10 4 30 [],I 6 10] (aa [eX 11 4 30 [],I 7 11] (.seq (aa [I 12 1,cx 13 12,bM 14 0] (gz 15 14 13 (.seq (.block 1 (aa [cl 16 5 12 14,bf 17 5 16,dF 9 kv,bV 5 9 17] (aa [I 18 6,aF 19 0 1 9,az 20 1 19,cQ 21 114 20,eX 22 4 30 [.t 21],hT 23 4 30 18 22,I 6 23] (.region [I 24 7,hr 25 1 4 9,bf 26 4 25,eX 27 4 30 [.t 26],hT 28 4 30 24 27,I 7 28])))) (.region [aV 29 .add 14 1,I 14 29])))) (aa [I 30 0,I 31 6,I 32 7,dN 33 202 [.t 30,.t 31,.t 32],cS 34 0 33,cS 35 1 33,I 4 34,I 5 35] .ret)))))
def uD:C:=(aa [cU 4 1,cU 5 2,eY 6 5,bu 7 false] (aa [I 12 0,bf 13 4 4,b8 14 201 12 13,bV 4 4 14] (aa [I 15 0,bf 16 4 5,b8 17 201 15 16,bV 4 5 17] (.seq (aa [aF 18 0 1 4,az 19 1 18,aV 20 .eql 19 1,I 21 20,ax 21 true (aF 22 0 1 5),ax 21 true (az 23 1 22),ax 21 true (aV 24 .eql 23 1),ej 25 21 24,I 26 25,ax 26 true (aF 27 1 1 4),ax 26 true (az 28 1 27),ax 26 true (aF 29 1 1 5),ax 26 true (az 30 1 29),ax 26 true (bt 31 .lss 28 30),ej 32 26 31] (aW 32 (aa [I 33 0,aF 34 1 1 5,az 35 1 34,bf 36 4 4,dN 37 212 [.t 33,.t 35,.t 36],cS 38 0 37,cS 39 1 37,I 6 38,I 7 39] .ret) .skip)) (.seq (aa [aF 40 0 1 4,az 41 1 40,aV 42 .eql 41 1,I 43 42,ax 43 true (aF 44 0 1 5),ax 43 true (az 45 1 44),ax 43 true (aV 46 .eql 45 1),ej 47 43 46,I 48 47,ax 48 true (aF 49 1 1 4),ax 48 true (az 50 1 49),ax 48 true (aF 51 1 1 5),ax 48 true (az 52 1 51),ax 48 true (bt 53 .eql 50 52),ej 54 48 53] (aW 54 (aa [I 55 0,I 6 55,bu 7 true] .ret) .skip)) (.seq (aa [aF 56 0 1 4,az 57 1 56,aV 58 .eql 57 1] (aW 58 (aa [I 59 0,aF 60 1 1 4,az 61 1 60,bf 62 4 5,dN 63 212 [.t 59,.t 61,.t 62],cS 64 0 63,cS 65 1 63,I 6 64,I 7 65] .ret) .skip)) (.seq (aa [aF 66 0 1 5,az 67 1 66,aV 68 .eql 67 1] (aW 68 (aa [I 69 0,aF 70 1 1 5,az 71 1 70,bf 72 4 4,dN 73 212 [.t 69,.t 71,.t 72],cS 74 0 73,cS 75 1 73,I 6 74,I 7 75] .ret) .skip)) (.seq (aa [aF 76 0 1 4,az 77 1 76,aF 78 0 1 5,az 79 1 78,bt 80 .neq 77 79,I 81 80,ax 81 false (aF 82 1 1 4),ax 81 false (az 83 1 82),ax 81 false (aF 84 1 1 5),ax 81 false (az 85 1 84),ax 81 false (bt 86 .neq 83 85),dq 87 81 86,I 88 87,ax 88 false (aF 89 2 1 4),ax 88 false (az 90 1 89),ax 88 false (aF 91 2 1 5),ax 88 false (az 92 1 91),ax 88 false (bt 93 .neq 90 92),dq 94 88 93] (aW 94 (aa [eY 6 5,bu 7 false] .ret) .skip)) (.seq (aa [aF 95 3 1 4,az 96 1 95,cx 97 96,bM 98 0] (gz 99 98 97 (.seq (.block 1 (aa [I 100 98,cl 101 4 96 98,bf 102 4 101,dF 9 eB,I 8 100,bV 4 9 102] (.seq (.drawn true 119 [I 104 0,bf 105 4 9,aF 106 3 1 5,az 107 1 106,I 108 8,cl 109 4 107 108,bf 110 4 109,dN 111 180 [.t 104,.t 105,.t 110],I 103 111,cS 112 0 103,cS 113 1 103,I 10 112,I 11 113]) (.seq (aa [I 114 11,cK 115 114] (aW 115 (aa [eY 6 5,bu 7 false] .ret) .skip)) (.region [I 116 10,I 0 116]))))) (.region [aV 117 .add 98 1,I 98 117])))) (aa [I 118 0,I 6 118,bu 7 true] .ret))))))))))
def G2:C:=(aa [cU 3 1,dF 4 eB] (.seq (aa [aF 7 0 1 3,az 8 1 7,aV 9 .eql 8 1] (aW 9 (aa [I 11 0,aF 12 1 1 3,az 13 1 12,b8 14 146 11 13,I 10 14,cS 15 0 10,cS 16 1 10,dF 5 eB,bV 4 5 15,I 6 16] (aa [I 17 6] (aW 17 (aa [bf 18 4 5,bV 4 4 18] .ret) .skip))) .skip)) (aa [bf 19 4 3,bV 4 4 19] .ret)))
def Ub:C:=(aa [eY 6 5,bu 7 false] (.seq (aa [I 12 1,cx 13 12,bM 14 0] (gz 15 14 13 (.seq (.block 1 (aa [I 16 14,cl 17 4 12 14,bf 18 4 17,dF 9 eB,I 8 16,bV 4 9 18] (.seq (.drawn true 34 [I 20 0,bf 21 4 9,I 22 2,I 23 8,cl 24 4 22 23,bf 25 4 24,dN 26 180 [.t 20,.t 21,.t 25],I 19 26,cS 27 0 19,cS 28 1 19,I 10 27,I 11 28]) (.seq (aa [I 29 11,cK 30 29] (aW 30 (aa [eY 6 5,bu 7 false] .ret) .skip)) (.region [I 31 10,I 0 31]))))) (.region [aV 32 .add 14 1,I 14 32])))) (aa [I 33 0,I 6 33,bu 7 true] .ret)))
def DI:C:=(aa [cU 5 2,eY 6 5,bu 7 false] (aa [I 15 0,bf 16 4 5,b8 17 60 15 16,I 14 17,cS 18 0 14,cS 19 1 14,dF 8 eB,bV 4 8 18,I 9 19] (.seq (aa [I 20 9,cK 21 20,I 22 21,cg 22 false 23 1,ax 22 false (bf 24 4 8),ax 22 false (b8 25 233 23 24),dq 26 22 25,I 27 26,cg 27 false 28 0,ax 27 false (cx 29 28),ax 27 false (aV 30 .geq 29 400),dq 31 27 30] (aW 31 (aa [eY 6 5,bu 7 false] .ret) .skip)) (aa [eX 32 5 113 [],I 10 32] (.seq (aa [I 33 0,cx 34 33,bM 35 0] (gz 36 35 34 (.seq (.block 1 (aa [cl 37 5 33 35,bf 38 5 37,dF 12 kv,bV 5 12 38] (aa [hr 39 1 4 12,bf 40 4 39,I 41 1,bf 42 4 8,dN 43 234 [.t 40,.t 41,.t 42],dF 13 eB,bV 4 13 43] (.seq (aa [bf 44 4 13,cQ 45 128 44,cK 46 45] (aW 46 (aa [eY 6 5,bu 7 false] .ret) .skip)) (.region [I 47 10,aF 48 0 1 12,az 49 1 48,bf 50 4 13,jz 51 kv [(0,1,(.t 49)),(1,4,(.t 50))],eX 52 5 113 [.t 51],hT 53 5 113 47 52,I 10 53]))))) (.region [aV 54 .add 35 1,I 35 54])))) (aa [I 55 10,I 56 1,bf 57 4 8,jz 58 kv [(0,1,(.t 56)),(1,4,(.t 57))],b8 59 235 55 58,I 6 59,bu 7 true] .ret))))))
def T1:C:=(aa [cU 3 1,bu 4 false] (.seq (aa [aF 7 3 1 3,az 8 1 7,cx 9 8,bM 10 0] (gz 11 10 9 (.seq (.block 1 (aa [cl 12 4 8 10,bf 13 4 12,dF 6 eB,bV 4 6 13] (aa [I 14 0,bf 15 4 6,b8 16 233 14 15] (aW 16 (aa [bu 4 true] .ret) .skip)))) (.region [aV 17 .add 10 1,I 10 17])))) (aa [aF 18 0 1 3,az 19 1 18,aV 20 .eql 19 1,I 21 20,ax 21 true (aF 22 1 1 3),ax 21 true (az 23 1 22),cg 21 true 24 0,ax 21 true (bt 25 .eql 23 24),ej 26 21 25,I 4 26] .ret)))
def G0:C:=(aa [cU 3 0,cU 5 2,dF 6 eB] (.seq (aa [aF 7 0 1 3,az 8 1 7,aV 9 .eql 8 1,I 10 9,ax 10 true (aF 11 1 1 3),ax 10 true (az 12 1 11),cg 10 true 13 1,ax 10 true (bt 14 .eql 12 13),ej 15 10 14] (aW 15 (aa [bf 16 4 5,bV 4 6 16] .ret) .skip)) (.seq (aa [aF 17 0 1 3,az 18 1 17,aV 19 .eql 18 4] (aW 19 (.seq (.drawn true 36 [aF 20 3 1 3,az 21 1 20,kD 22 4 21 0,bf 23 4 22,I 24 1,bf 25 4 5,dN 26 234 [.t 23,.t 24,.t 25],aF 27 3 1 3,az 28 1 27,kD 29 4 28 1,bf 30 4 29,I 31 1,bf 32 4 5,dN 33 234 [.t 30,.t 31,.t 32],b8 34 189 26 33,bV 4 6 34]) .ret) .skip)) (aa [bf 35 4 3,bV 4 6 35] .ret))))
def T9:C:=(aa [cU 3 1,eY 4 5] (aa [I 7 0,cx 8 7,I 5 8] (.seq (.block 0 (.loop (.seq (.seq (.drawn true 38 [I 9 5,aV 10 .gtr 9 0,I 11 10,cg 11 true 12 0,cg 11 true 13 5,ax 11 true (aV 14 .sub 13 1),ax 11 true (cl 15 5 12 14),ax 11 true (aF 16 0 1 15),ax 11 true (az 17 1 16),ax 11 true (aF 18 0 1 3),ax 11 true (az 19 1 18),ax 11 true (bt 20 .gtr 17 19),ej 21 11 20]) (aW 21 .skip (.exit 0))) (.block 1 (.region [I 22 5,aV 23 .sub 22 1,I 5 23]))))) (aa [eX 24 5 113 [],I 25 0,I 26 5,cf 27 (.lsl 5 (.t 25) none (some (.t 26))),hT 28 5 113 24 27,I 6 28] (aa [I 29 6,bf 30 5 3,eX 31 5 113 [.t 30],hT 32 5 113 29 31,I 6 32] (aa [I 33 6,I 34 0,I 35 5,cf 36 (.lsl 5 (.t 34) (some (.t 35)) none),hT 37 5 113 33 36,I 4 37] .ret))))))
def apo:b2 aS TW [.tmp 2] 1 Tryz.f56=true:=bi
def Fu:b2 aS A4 [.tmp 4] 2 Tryz.f58=true:=bi
def apz:b2 aS T6 [.cell 4 true 4,.tmp 5] 2 Tryz.f60=true:=bi
def apq:b2 aS TX [.tmp 6] 3 Tryz.f75=true:=bi
def Z8:b2 aS LR [.tmp 2] 1 Tryz.f76=true:=bi
def apk:b2 aS TS [.tmp 2] 1 Tryz.f119=true:=bi
def apr:b2 aS TY [.tmp 4] 2 Tryz.f123=true:=bi
def oe:b2 aS nk [.tmp 2] 1 Tryz.f124=true:=bi
def apt:b2 aS T0 [.tmp 4] 2 Tryz.f126=true:=bi
def Pu:b2 aS G1 [.cell 4 true 4] 2 Tryz.f127=true:=bi
def aps:b2 aS TZ [.tmp 2] 1 Tryz.f128=true:=bi
def apD:b2 aS Ua [.tmp 2] 1 Tryz.f145=true:=bi
def apB:b2 aS T8 [.cell 4 true 4,.tmp 5] 2 Tryz.f146=true:=bi
def apF:b2 aS Uc [.tmp 4,.tmp 5] 2 Tryz.f152=true:=bi
def wP:b2 aS uD [.tmp 6,.tmp 7] 3 Tryz.f180=true:=bi
def Pw:b2 aS G2 [.cell 4 true 4] 2 Tryz.f201=true:=bi
def apE:b2 aS Ub [.tmp 6,.tmp 7] 3 Tryz.f202=true:=bi
def Jm:b2 aS DI [.tmp 6,.tmp 7] 3 Tryz.f212=true:=bi
def apu:b2 aS T1 [.tmp 4] 2 Tryz.f233=true:=bi
def Pt:b2 aS G0 [.cell 6 true 4] 3 Tryz.f234=true:=bi
def apC:b2 aS T9 [.tmp 4] 2 Tryz.f235=true:=bi
mutual
def mD:Tm->Int->Int
 | .mk _ _ _ args,m=>cntLS args 1 m
def cntLS:List Tm->Int->Int->Int
 |[],n,_=>n
 |x::xs,n,m=>if m<n then n else cntLS xs (n+mD x (m-n)) m
end
mutual
def LY:∀(t:Tm) (m:Int),0<=m->1<=mD t m/\mD t m<=m+1
 | .mk _ _ _ args,m,h=>by simp only[mD];exact UA args 1 m h Ω Ω
def UA:∀(l:List Tm) (n m:Int),0<=m->1<=n->n<=m+1->1<=cntLS l n m/\cntLS l n m<=m+1
 |[],n,m,_,J,U=>by simp only[cntLS];exact⟨J,U⟩
 |x::xs,n,m,a,J,U=>by
  simp only[cntLS];split
  ·exact⟨J,U⟩
  ·have:=LY x (m-n) Ω;exact UA xs _ m a Ω Ω
end
def G7:∀(t:T) (m:Int),0<=m->(mD t.tm m<=m↔(t.size:Int)<=m)/\((t.size:Int)<=m->mD t.tm m=t.size)
 | .pair a b,m,h=>by
  have i:=T.size_pos a;have j:=T.size_pos b;simp only[T.tm,mD,cntLS,T.size];by_cases J:m<1
  ·rw[if_pos J];exact⟨Ω,fun h=>Ω⟩
  ·rw[if_neg J];obtain⟨d,a2⟩:=G7 a (m-1) Ω;have a3:=LY a.tm (m-1) Ω;by_cases U:(a.size:Int)<=m-1
   ·have e:=a2 U;rw[e];by_cases f:m<1+(a.size:Int)
    ·omega
    ·rw[if_neg f];obtain⟨g,c⟩:=G7 b (m-(1+a.size)) Ω;refine⟨Ω,fun h=>?_⟩;rw[c Ω];omega
   ·have:¬mD a.tm (m-1)<=m-1:=fun h=>U (d.1 h);rw[if_pos Ω];exact⟨Ω,fun h=>Ω⟩
 | .nil,m,h=>by simp[T.tm,mD,cntLS,T.size]
 | .var _,m,h=>by simp[T.tm,mD,cntLS,T.size]
 | .sym _,m,h=>by simp[T.tm,mD,cntLS,T.size]
 | .num _,m,h=>by simp[T.tm,mD,cntLS,T.size]
def afB(t:Tm)(m:Int):mD t m=cntLS t.args 1 m:=by cases t;rfl
def adg(t:Tm):∀m:Int,0<=m->m<=1000000->bT au 123 [enc t,aj m] (aj (mD t m)):=by
 suffices H:∀(k:Nat) (t:Tm),t.sz<=k->∀m:Int,0<=m->m<=1000000->bT au 123 [enc t,aj m] (aj (mD t m))from H _ t (dO _)
 intro k;induction k with
 |zero=>intro t g;cases t;simp[Tm.sz]at g
 |succ k e=>
  intro t g m q J;refine bF a6 Tryz.func123 apr fun f=>?_;unfold TY;have p:t.args.length<=68719476736:=by rw[uK]at f;simp[eK,eU,eM,lim]at f;omega
  simp;refine e1 [1,9,10] (fun i (n:Int)=>[(5,aj n),(11,aj i)]) t.args.length (fun i n=>(1<=n/\n<=m+1)/\cntLS (t.args.drop i) n m=mD t m) 1 cb ⟨Ω,by simp[afB]⟩ (fun n a _=>?_) (fun i n hi a _=>?_)
  ·simp;(repeat' first|refine al ?_|simp);simp[bZ,ba,be,a1];have:=a.2;simp[cntLS]at this;exact this
  ·obtain⟨⟨o,r⟩,a⟩:=a;obtain⟨x,j,d⟩:=eV hi;have l:t.args.drop i=x::t.args.drop (i+1):=by rw[lJ hi,d]
   have c:x.sz<=k:=by have:=QY (fx j);omega
   rw[l]at a;simp only[cntLS]at a;simp[hi,d];by_cases b:m<n
   ·rw[if_pos b]at a;(repeat' first|refine al ?_|simp[b]);simp[bZ,ba,be,a1];exact a
   ·rw[if_neg b]at a;have ay:=LY x (m-n) Ω;((repeat' first|refine al ?_|refine aO (e x c (m-n) Ω Ω) ?_|refine aP (e x c (m-n) Ω Ω) ?_|simp[b]|((first|apply cq|apply cu|apply ct)<;>intro h<;>try simp at h))<;>(try exact c0));exact bX.rng (n+mD x (m-n)) hi ⟨Ω,a⟩ cb
def Dc(t:T):bT au 128 [t.e] (.bool (decide (t.size<=5000))):=by
 have ay:=(G7 t 5000 Ω).1;have key:=adg t.tm 5000 Ω Ω;rw[mF]at key;refine bF a6 Tryz.func128 aps fun a=>?_;unfold TZ;simp;(repeat' first|refine al ?_|refine aO key ?_|refine aP key ?_|simp);simp[bZ,ba,be,a1];have:(mD t.tm 5000<=5000)=(t.size<=5000):=by rw[ay];simp;omega
 simp[this]
def al9(l:List Bd)(v:Int)(k:Nat)(st:bo):Prop:=∃i:Nat,i<=l.length/\k=l.length-i/\dG l v=dG (l.drop i) v/\st=⟨[(1,aj v),(4,.ptr (.loc 0) 0),(8,bH (l.map Bd.e)),(9,aj l.length),(10,aj i)],[(.loc 0,[aj 0,aj 0,.str [],.slice 4 .nil []])],[],1,[]⟩
def w9(l:List Bd)(v:Int)(j:l.length<=1000000):bT au 146 [bH (l.map Bd.e),aj v] (.tuple [((dG l v).getD .nil).e,.bool (dG l v).isSome]):=by
 refine bF a6 Tryz.func146 apB fun m=>?_;unfold T8;simp;refine qH (al9 l v) l.length _ cb ⟨0,Ω,rfl,Ψ,rfl⟩ ?_;rintro k st ⟨i,hi,ad,bd,rfl⟩ f g;clear f g;by_cases a:i<l.length
 ·obtain⟨b,c⟩:∃b,l[i]? =some b:=⟨_,ck a⟩;have e:l.drop i=b::l.drop (i+1):=by rw[lJ a];rw[ck a]at c;simp at c;rw[c]
  have d:∀h,l[i]'h=b:=fun h=>by rw[ck h]at c;simpa using c
  simp[d,a];(with_reducible repeat' first|((first|apply cq|apply cu|apply ct)<;>intro h<;>try simp at h)|refine al ?_|simp[d])
  ·have:dG l v=some b.t:=by rw[bd,e];simp[dG,h]
   simp[bZ,ba,be,a1];simp[this]
  ·refine bX.next (l.length-(i+1)) Ω ⟨i+1,Ω,rfl,?_,rfl⟩ cb;rw[bd,e];simp[dG,h]
 ·have:dG l v=none:=by rw[bd,List.drop_of_length_le Ω];simp[dG]
  simp[a];(with_reducible repeat' first|((first|apply cq|apply cu|apply ct)<;>intro h<;>try simp at h)|refine al ?_|simp);simp[bZ,ba,be,a1];simp[this]
def asZ(l:List Bd)(e:l.length<=1000000)(t:T):bT au 127 [bH (l.map Bd.e),t.e] (t.sub (dG l)).e:=by
 induction t with
 |pair a b d c=>
  refine bF a6 Tryz.func127 Pu fun f=>?_;unfold G1;simp;(repeat' first|refine al ?_|refine aO d ?_|refine aP d ?_|refine aO c ?_|refine aP c ?_|refine aO (Ky _ _) ?_|refine aP (Ky _ _) ?_|simp);all_goals simp[bZ,ba,be,a1]
  all_goals simp[T.sub]
 |var n=>
  refine bF a6 Tryz.func127 Pu fun f=>?_;unfold G1;simp;((repeat' first|refine al ?_|refine aO (w9 l n e) ?_|refine aP (w9 l n e) ?_|simp|((first|apply cq|apply cu|apply ct)<;>intro h<;>try simp at h))<;>(try exact c0));all_goals simp[bZ,ba,be,a1]
  all_goals cases g:dG l n<;>simp_all[T.sub]
 |_=>
  refine bF a6 Tryz.func127 Pu fun f=>?_;unfold G1;simp;(repeat' first|refine al ?_|simp);all_goals simp[bZ,ba,be,a1]
  all_goals simp[T.sub]
def adj(l:List Bd)(a:l.length<=1000000)(t:T):bT au 127 [bH (l.map Bd.e),t.e] (t.ap (cR l)).e:=by have:=asZ l a t;rw[acu]at this;exact this
def Re(l:List Bd)(a:l.length<=1000000)(t:T):bT au 60 [bH (l.map Bd.e),t.e] (.tuple [(t.ap (cR l)).e,.bool (decide ((t.ap (cR l)).size<=5000))]):=by refine bF a6 Tryz.func60 apz fun b=>?_;unfold T6;simp;(repeat' first|refine al ?_|refine aO (adj l a t) ?_|refine aP (adj l a t) ?_|refine aO (Dc _) ?_|refine aP (Dc _) ?_|simp);simp[bZ,ba,be,a1]
def yh(v:Int)(l:List T):Bool:=l.any (T.occ v)
def ZE(v:Int)(t:T):t.occ v=(yh v t.args||(t.kind==1&&t.int==v)):=by cases t<;>simp[T.occ,yh]
def yJ(v:Int)(t:T):bT au 233 [aj v,t.e] (.bool (t.occ v)):=by
 suffices H:∀(k:Nat) (t:T),t.size<=k->bT au 233 [aj v,t.e] (.bool (t.occ v))from H _ t (dO _)
 intro k;induction k with
 |zero=>intro t f;have:=T.size_pos t;omega
 |succ k d=>
  intro t f;have l:t.args.length<=2:=by cases t<;>simp
  refine bF a6 Tryz.func233 apu fun m=>?_;unfold T1;simp;refine e1 [0,3,8,9] (fun i (_:Unit)=>[(10,aj i)]) t.args.length (fun i _=>yh v (t.args.drop i)=yh v t.args) () cb Ψ (fun _ a _=>?_) (fun i _ hi a _=>?_)
  ·have c:yh v t.args=false:=by rw[<-a];simp[yh]
   rw[ZE,c];simp;((repeat' first|refine al ?_|simp|((first|apply cq|apply cu|apply ct)<;>intro h<;>try simp at h))<;>(try exact c0));all_goals simp[bZ,ba,be,a1]
   all_goals simp_all
  ·obtain⟨x,g,e⟩:=eV hi;have j:t.args.drop i=x::t.args.drop (i+1):=by rw[lJ hi,e]
   have b:x.size<=k:=by have hm:=fx g;have:=T.size_pos x;cases t<;>simp at hm;rcases hm with rfl|rfl<;>simp[T.size]at f<;>omega
   simp only[j,yh,List.any_cons]at a;simp[hi,e];cases aq:x.occ v with
   |true=>
    rw[aq]at a;simp at a;have c:t.occ v=true:=by rw[ZE];simp[yh];left;simpa using a
    (repeat' first|refine al ?_|refine aO (d x b) ?_|refine aP (d x b) ?_|simp[aq]);simp[bZ,ba,be,a1];simp[c]
   |false=>rw[aq]at a;have n:=d x b;exact iU
def Kz(v:Int)(x t:T):bT au 234 [t.e,aj v,x.e] (t.ap (Go.Pv.one v x)).e:=by
 induction t with
 |pair a b d c=>
  refine bF a6 Tryz.func234 Pt fun e=>?_;unfold G0;simp;(repeat' first|refine al ?_|refine aO d ?_|refine aP d ?_|refine aO c ?_|refine aP c ?_|refine aO (Ky _ _) ?_|refine aP (Ky _ _) ?_|simp);all_goals simp[bZ,ba,be,a1]
  all_goals simp[T.ap]
 |var n=>
  refine bF a6 Tryz.func234 Pt fun e=>?_;unfold G0;simp;((repeat' first|refine al ?_|simp|((first|apply cq|apply cu|apply ct)<;>intro h<;>try simp at h))<;>(try exact c0));all_goals simp[bZ,ba,be,a1]
  all_goals simp_all[T.ap,Go.Pv.one]
 |_=>
  refine bF a6 Tryz.func234 Pt fun e=>?_;unfold G0;simp;(repeat' first|refine al ?_|simp);all_goals simp[bZ,ba,be,a1]
  all_goals simp[T.ap]
def KB(s:List Bd)(a:s.length<=1000000)(t:T):bT au 201 [bH (s.map Bd.e),t.e] (ig s t).e:=by
 cases t with
 |var n=>
  cases b:dG s n with
  |none=>refine bF a6 Tryz.func201 Pw fun c=>?_;unfold G2;simp;(repeat' first|refine al ?_|refine aO (w9 s n a) ?_|refine aP (w9 s n a) ?_|simp[b]);simp[bZ,ba,be,a1];simp[ig,cR,b]
  |some x=>refine bF a6 Tryz.func201 Pw fun c=>?_;unfold G2;simp;(repeat' first|refine al ?_|refine aO (w9 s n a) ?_|refine aP (w9 s n a) ?_|simp[b]);simp[bZ,ba,be,a1];simp[ig,cR,b]
 |_=>refine bF a6 Tryz.func201 Pw fun c=>?_;unfold G2;simp;(repeat' first|refine al ?_|simp);simp[bZ,ba,be,a1];simp[ig]
def XK(b:Bd):∀(s:List Bd) (k:Nat),(∀i c,i<k->s[i]? =some c->c.v<=b.v)->(∀c,s[k]? =some c->b.v<c.v)->k<=s.length->qc b s=s.take k++b::s.drop k
 |[],k,_,_,ad=>by simp at ad;subst ad;rfl
 |c::s,0,_,U,_=>by have:=U c rfl;simp[qc,this]
 |c::s,k+1,J,U,ad=>by have:=J 0 c Ω rfl;simp only[qc,if_neg (by omega:¬b.v<c.v),List.take_succ_cons,List.drop_succ_cons,b6];rw[XK b s k (fun i d hi a=>J (i+1) d Ω (by simpa using a)) (fun d a=>U d (by simpa using a)) (by simpa using ad)]
def asY(s:List Bd)(b:Bd)(v:s.length<=1000000)(t:jB s):bT au 235 [bH (s.map Bd.e),b.e] (bH ((qc b s).map Bd.e)):=by
 refine bF a6 Tryz.func235 apC fun w=>?_;unfold T9;simp;refine xr [0,3] (fun(k:Nat)=>[(5,aj k)]) (fun k=>k) (fun k=>k<=s.length/\∀c,s[k]? =some c->b.v<c.v) s.length cb ⟨Ω,fun c h=>by simp at h⟩ (fun k n _=>?_);obtain⟨ad,n⟩:=n;have o:(∀c,0<k->s[k-1]? =some c->c.v<=b.v)->qc b s=s.take k++b::s.drop k:=fun h=>XK b s k (fun i c hi ay=>by
  obtain⟨d,a⟩:∃d,s[k-1]? =some d:=⟨_,ck Ω⟩;have J:=h d Ω a;rcases Nat.lt_or_ge i (k-1)with U|U
  ·have p:=(fI.1 ay);have q:=(fI.1 a);have:=rj.1 t i (k-1) p.1 q.1 U;rw[p.2,q.2]at this;omega
  ·have:i=k-1:=Ω
   subst this;rw[a]at ay;cases ay;exact J) n ad
 rcases Nat.eq_zero_or_pos k with rfl|j
 ·have e:=o fun c h=>Ω
  rw[e];simp;(repeat' first|refine al ?_|simp);simp[bZ,ba,be,a1];try simp[iv]
 ·obtain⟨d,a⟩:∃d,s[k-1]? =some d:=⟨_,ck Ω⟩;have l:((k:Int)-1).toNat=k-1:=Ω
  have m:∀h,(s[k-1]'h)=d:=fun h=>by rw[ck h]at a;exact eZ a
  have g:(0:Int)<k:=Ω
  by_cases f:b.v<d.v
  ·simp[j,g,l,m,f,a];(repeat' first|refine al ?_|simp[j,g,l,m,f,a]);refine bX.whl (k-1) Ω ⟨Ω,fun c ay=>by rw[a]at ay;cases ay;exact f⟩ ?_;have r:((k-1:Nat):Int)=(k:Int)-1:=Ω
   simp[r];exact cb
  ·have e:=o fun c _ ay=>by rw[a]at ay;cases ay;omega
   rw[e];simp[j,g,l,m,f,a];(repeat' first|refine al ?_|simp[j,g,l,m,f,a]);simp[bZ,ba,be,a1];have u:na s.length (s.map Bd.e)=s.map Bd.e:=iv Ψ;rw[u,<-List.map_take,<-List.map_drop,<-gX,<-List.map_append];exact acp _
def QL(v:Int)(x:T)(b:Bd):Bd:=⟨b.v,b.t.ap (Go.Pv.one v x)⟩
def amk(s:List Bd)(v:Int)(x:T)(i:Nat)(out:List Bd):Prop:=out=(s.take i).map (QL v x)/\∀b∈s.take i,(b.t.ap (Go.Pv.one v x)).size<=5000
def as2(s:List Bd)(v:Int)(t:T)(y:s.length<=1000000)(F:jB s):bT au 212 [bH (s.map Bd.e),aj v,t.e] (gw (pa s v t)):=by
 obtain⟨x,p⟩:∃x,x=t.ap (cR s):=⟨_,rfl⟩;have a:=Re s y t;rw[<-p]at a;obtain⟨o,aq⟩:∃o,o=pa s v t:=⟨_,rfl⟩;have l:x.size<=5000->x.occ v=false->s.length<400->(∀b∈s,(b.t.ap (Go.Pv.one v x)).size<=5000)->o=some (nQ s v x):=fun H G E B=>by rw[aq,pa,<-p,if_pos ⟨H,G,E,B⟩]
 have f:¬(x.size<=5000/\x.occ v=false/\s.length<400/\∀b∈s,(b.t.ap (Go.Pv.one v x)).size<=5000)->o=none:=fun q=>by rw[aq,pa,<-p,if_neg q]
 rw[<-aq];clear aq;by_cases J:x.size<=5000;rotate_left
 ·rw[f fun h=>J h.1];refine bF a6 Tryz.func212 Jm fun r=>?_;unfold DI;simp;(repeat' first|refine al ?_|refine aO a ?_|refine aP a ?_|refine aO (yJ _ _) ?_|refine aP (yJ _ _) ?_|simp[J]);simp[bZ,ba,be,a1];simp[gw]
 cases U:x.occ v with
 |true=>rw[f fun h=>by rw[U]at h;cases h.2.1];refine bF a6 Tryz.func212 Jm fun r=>?_;unfold DI;simp;(repeat' first|refine al ?_|refine aO a ?_|refine aP a ?_|refine aO (yJ _ _) ?_|refine aP (yJ _ _) ?_|simp[J,U]);simp[bZ,ba,be,a1];simp[gw]
 |false=>
 by_cases z:s.length<400;rotate_left
 ·rw[f fun h=>z h.2.2.1];have j:(400:Int)<=s.length:=Ω
  refine bF a6 Tryz.func212 Jm fun r=>?_;unfold DI;simp;(repeat' first|refine al ?_|refine aO a ?_|refine aP a ?_|refine aO (yJ _ _) ?_|refine aP (yJ _ _) ?_|simp[J,U,j]);simp[bZ,ba,be,a1];simp[gw]
 have j:¬(400:Int)<=s.length:=Ω
 refine bF a6 Tryz.func212 Jm fun r=>?_;unfold DI;simp;(repeat' first|refine al ?_|refine aO a ?_|refine aP a ?_|refine aO (yJ _ _) ?_|refine aP (yJ _ _) ?_|simp[J,U,j]);refine fT (α:=List Bd) (fun i out=>⟨[(1,aj v),(8,.ptr (.loc 1) 0),(33,bH (s.map Bd.e)),(34,aj s.length),(10,.slice 5 (.own (.loc 2)) (out.map Bd.e)),(35,aj i)],[(.loc 1,[aj x.kind,aj x.int,.str x.name,dw (x.args.map T.e)])],[(.loc 2,⟨out.length,113,5,none⟩)],3,[]⟩) s.length (amk s v x) [] cb ⟨Ψ,Ψ⟩ (fun out n _=>?_) (fun i out hi n _=>?_)
 ·obtain⟨d,e⟩:=n;rw[iv (dO _)]at d e;have m:jB out:=by rw[d,jB,List.pairwise_map];exact F
  have w:out.length<=1000000:=by rw[d];simpa using y
  rw[l J U z e];have key:=asY out ⟨v,x⟩ w m;simp;(repeat' first|refine al ?_|refine aO key ?_|refine aP key ?_|simp);simp[bZ,ba,be,a1];simp[gw,nQ,d];rfl
 ·obtain⟨d,e⟩:=n;obtain⟨b,A,k⟩:=eV hi;have u:s.take (i+1)=s.take i++[b]:=by rw[List.take_succ,A];rfl
  have w:out.length<=1000000:=by rw[d];simp;omega
  simp[hi,k];by_cases g:(b.t.ap (Go.Pv.one v x)).size<=5000
  ·(repeat' first|refine al ?_|refine aO (Kz _ _ _) ?_|refine aP (Kz _ _ _) ?_|refine aO (Dc _) ?_|refine aP (Dc _) ?_|simp[k,hi,g]);all_goals try refine⟨by unfold lim;omega,?_⟩
   (repeat' first|refine al ?_|simp);refine bX.rng (out++[QL v x b]) hi ⟨by rw[u,d,List.map_append];rfl,fun c ay=>?_⟩ ?_
   ·rw[u]at ay;rcases jT.1 ay with ay|ay
    ·exact e c ay
    ·simp at ay;subst ay;exact g
   ·simp[QL];exact⟨by simp[fresh,aH,aA,cd,aM,ae,j0],ep g9,er ii,Ψ⟩
  ·rw[f fun h=>g (h.2.2.2 b (fx A))];(repeat' first|refine al ?_|refine aO (Kz _ _ _) ?_|refine aP (Kz _ _ _) ?_|refine aO (Dc _) ?_|refine aP (Dc _) ?_|simp[k,hi,g]);simp[bZ,ba,be,a1];simp[gw]
def asl{s:List Bd}(e:gD s)(f:iw s){n:Nat}{a b:T}{o:Option (List Bd)}(h:lG n s a b=some o):jG s [(a,b)] o:=by obtain⟨n',o',J,U⟩:=Ku e f a b;have d:=Gd (Nat.le_max_left n n') h;have c:=Gd (Nat.le_max_right n n') J;rw[d]at c;cases c;exact U
def C9(n:Nat):List (T×T)->List Bd->Option (Option (List Bd))
 |[],s=>some (some s)
 |e::r,s=>match lG n s e.1 e.2 with
  |none=>none
  |some none=>some none
  |some (some s1)=>C9 n r s1
def zW(x y:T):Bool:=x.kind==y.kind&&x.int==y.int&&x.name==y.name
def asi(n:Nat)(s:List Bd){x y:T}(f:x.kind≠1)(g:y.kind≠1):kN (lG n) s x y=if zW x y then C9 n (x.args.zip y.args) s else some none:=by
 cases x<;>cases y<;>simp[kN,zW,C9]at f g⊢
 ·rename_i a b;split<;>simp_all
 ·rename_i a b;split<;>simp_all
 ·rename_i e a2 c d;cases lG n s e c with
  |none=>rfl
  |some o=>cases o with
   |none=>rfl
   |some s1=>
    simp only
    cases lG n s1 a2 d with
    |none=>rfl
    |some o=>cases o<;>rfl
def amL{x y:T}(h:zW x y=true):x.args.length=y.args.length:=by cases x<;>cases y<;>simp[zW]at h⊢
@[simp]def au9(o:Option (List Bd)):Bi 0 (gw o)=some (True,bH ((o.getD []).map Bd.e)):=rfl
@[simp]def ava(o:Option (List Bd)):Bi 1 (gw o)=some (True,.bool o.isSome):=rfl
def as5(n:Nat):∀(s:List Bd) (a b:T) (o:Option (List Bd)),gD s->iw s->lG n s a b=some o->bT au 180 [bH (s.map Bd.e),a.e,b.e] (gw o):=by
 induction n with
 |zero=>intro s a b o _ _ h;simp[lG]at h
 |succ n W=>
  intro s a b o R S he;have K:s.length<=1000000:=by have:=S.1;omega
  have c:=KB s K a;have d:=KB s K b;simp only[lG]at he;generalize ig s a=x at he c;generalize ig s b=y at he d;have E:=fun v t=>as2 s v t K R.asc;have f:∀z:T,¬z.kind=1->(z.kind==1)=false:=fun z h=>by simp[h]
  by_cases l:x.kind=1
  ·obtain⟨i,rfl⟩:∃i,x= .var i:=by cases x<;>simp at l;exact⟨_,rfl⟩
   by_cases g:y.kind=1
   ·obtain⟨j,rfl⟩:∃j,y= .var j:=by cases y<;>simp at g;exact⟨_,rfl⟩
    simp only[kN,dV]at he;subst he;rcases Int.lt_trichotomy i j with h|h|h
    ·rw[if_pos h];have key:=E j (.var i);refine bF a6 Tryz.func180 wP fun m=>?_;unfold uD;simp;(repeat' first|refine al ?_|refine aO c ?_|refine aP c ?_|refine aO d ?_|refine aP d ?_|refine aO key ?_|refine aP key ?_|simp[h]);simp[bZ,ba,be,a1];simp[gw]
    ·subst h;rw[if_neg Ω,if_pos rfl];have J:¬i<i:=Ω
     refine bF a6 Tryz.func180 wP fun m=>?_;unfold uD;simp;(repeat' first|refine al ?_|refine aO c ?_|refine aP c ?_|refine aO d ?_|refine aP d ?_|simp[J]);simp[bZ,ba,be,a1];simp[gw]
    ·rw[if_neg Ω,if_neg Ω];have key:=E i (.var j);have J:¬i<j:=Ω
     have U:¬i=j:=Ω
     refine bF a6 Tryz.func180 wP fun m=>?_;unfold uD;simp;((repeat' first|refine al ?_|refine aO c ?_|refine aP c ?_|refine aO d ?_|refine aP d ?_|refine aO key ?_|refine aP key ?_|simp[J,U]|((first|apply cq|apply cu|apply ct)<;>intro h<;>try simp at h))<;>(try exact c0));simp[bZ,ba,be,a1];simp[gw]
   ·have G:pa s i y=o:=by cases y<;>first|(simp at g;done)|exact eZ he
    subst G;have key:=E i y;refine bF a6 Tryz.func180 wP fun m=>?_;unfold uD;simp;(repeat' first|refine al ?_|refine aO c ?_|refine aP c ?_|refine aO d ?_|refine aP d ?_|refine aO key ?_|refine aP key ?_|simp[f y g]);simp[bZ,ba,be,a1];simp[gw]
  ·by_cases g:y.kind=1
   ·obtain⟨j,rfl⟩:∃j,y= .var j:=by cases y<;>simp at g;exact⟨_,rfl⟩
    have G:pa s j x=o:=by cases x<;>first|(simp at l;done)|exact eZ he
    subst G;have key:=E j x;refine bF a6 Tryz.func180 wP fun m=>?_;unfold uD;simp;(repeat' first|refine al ?_|refine aO c ?_|refine aP c ?_|refine aO d ?_|refine aP d ?_|refine aO key ?_|refine aP key ?_|simp[f x l]);simp[bZ,ba,be,a1];simp[gw]
   ·rw[asi n s l g]at he;cases hle:zW x y with
    |false=>
     rw[hle]at he;simp at he;subst he;have N:(x.kind !=y.kind)=true\/((x.kind !=y.kind)=false/\((x.int !=y.int)=true\/((x.int !=y.int)=false/\(x.name !=y.name)=true))):=by simp only[zW]at hle;simp only[bne];cases X:(x.kind==y.kind)<;>cases Z:(x.int==y.int)<;>cases V:(x.name==y.name)<;>simp_all
     rcases N with p|⟨p,q|⟨q,B⟩⟩
     ·refine bF a6 Tryz.func180 wP fun m=>?_;unfold uD;simp;(repeat' first|refine al ?_|refine aO c ?_|refine aP c ?_|refine aO d ?_|refine aP d ?_|simp[f x l,f y g,p]);simp[bZ,ba,be,a1];simp[gw]
     ·refine bF a6 Tryz.func180 wP fun m=>?_;unfold uD;simp;(repeat' first|refine al ?_|refine aO c ?_|refine aP c ?_|refine aO d ?_|refine aP d ?_|simp[f x l,f y g,p,q]);simp[bZ,ba,be,a1];simp[gw]
     ·refine bF a6 Tryz.func180 wP fun m=>?_;unfold uD;simp;have F:¬x.name=y.name:=by simpa using B
      have L:decide (x.name=y.name)=false:=by simp[F]
      ((repeat' first|refine al ?_|refine aO c ?_|refine aP c ?_|refine aO d ?_|refine aP d ?_|simp[f x l,f y g,p,q,B,F,L]|((first|apply cq|apply cu|apply ct)<;>intro h<;>try simp at h))<;>(try exact c0));simp[bZ,ba,be,a1];simp[gw]
    |true=>
     rw[hle,if_pos rfl]at he;have N:(x.kind !=y.kind)=false/\(x.int !=y.int)=false/\(x.name !=y.name)=false:=by simp only[zW]at hle;simp only[bne];cases X:(x.kind==y.kind)<;>cases Z:(x.int==y.int)<;>cases V:(x.name==y.name)<;>simp_all
     obtain⟨p,q,B⟩:=N;have hlen:=amL hle;have F:x.name=y.name:=by simpa using B
     have tl:x.args.length<=2:=by cases x<;>simp
     refine bF a6 Tryz.func180 wP fun m=>?_;unfold uD;simp;(repeat' first|refine al ?_|refine aO c ?_|refine aP c ?_|refine aO d ?_|refine aP d ?_|simp[f x l,f y g,p,q,F]);refine fT (α:=List Bd) (fun i k=>⟨[(5,.ptr (.loc 1) 0),(96,dw (x.args.map T.e)),(97,aj x.args.length),(0,bH (k.map Bd.e)),(98,aj i)],[(.loc 1,[aj y.kind,aj y.int,.str y.name,dw (y.args.map T.e)])],[],2,[]⟩) x.args.length (fun i k=>(gD k/\iw k)/\C9 n ((x.args.zip y.args).drop i) k=some o) s cb ⟨⟨R,S⟩,by simpa using he⟩ (fun k e _=>?_) (fun i k hi e _=>?_)
     ·obtain⟨_,e⟩:=e;rw[List.drop_eq_nil_of_le (by simp[hlen])]at e;simp[C9]at e;subst e;simp;(repeat' first|refine al ?_|simp);simp[bZ,ba,be,a1];simp[gw]
     ·obtain⟨⟨g1,g2⟩,e⟩:=e;obtain⟨A,Q⟩:∃a,x.args[i]? =some a:=⟨_,ck hi⟩;obtain⟨w,P⟩:∃b,y.args[i]? =some b:=⟨_,ck Ω⟩;have r:∀h,(x.args[i]'h)=A:=fun h=>by rw[ck hi]at Q;exact eZ Q
      have u:∀h,(y.args[i]'h)=w:=fun h=>by rw[ck h]at P;exact eZ P
      have H:i<y.args.length:=Ω
      have Y:(x.args.zip y.args).drop i=(A,w)::(x.args.zip y.args).drop (i+1):=by rw[lJ d6];simp[r,u]
      rw[Y]at e;simp only[C9]at e;simp[hi,r,u,H];cases hu:lG n k A w with
      |none=>rw[hu]at e;cases e
      |some O=>
       have key:=W k A w O g1 g2 hu;rw[hu]at e;cases O with
       |none=>simp at e;subst e;(repeat' first|refine al ?_|refine aO key ?_|refine aP key ?_|simp[r,u,hi,H]);simp[bZ,ba,be,a1];simp[gw]
       |some s1=>have M:=asl g1 g2 hu;(repeat' first|refine al ?_|refine aO key ?_|refine aP key ?_|simp[r,u,hi,H]);refine bX.rng s1 hi ⟨M.1,e⟩ ?_;exact cb
def adl(s:List Bd)(a b:T)(c:gD s)(d:iw s):bT au 180 [bH (s.map Bd.e),a.e,b.e] (gw (mgu s [(a,b)])):=by obtain⟨n,o,J,U⟩:=Ku c d a b;rw[tU U];exact as5 n s a b o c d J
def amj(s:List Bd)(E:List (T×T))(i:Nat)(a:List Bd):Prop:=(gD a/\iw a)/\mgu a (E.drop i)=mgu s E
def as1(s:List Bd)(l r:List T)(n:l.length=r.length)(o:gD s)(q:iw s)(t:l.length<=1000000):bT au 202 [bH (s.map Bd.e),dw (l.map T.e),dw (r.map T.e)] (gw (mgu s (l.zip r))):=by
 refine bF a6 Tryz.func202 apE fun u=>?_;unfold Ub;simp;refine fT (α:=List Bd) (fun i d=>⟨[(2,dw (r.map T.e)),(12,dw (l.map T.e)),(13,aj l.length),(0,bH (d.map Bd.e)),(14,aj i)],[],[],0,[]⟩) l.length (amj s (l.zip r)) s cb ⟨⟨o,q⟩,Ψ⟩ (fun d c _=>?_) (fun i d hi c _=>?_)
 ·obtain⟨⟨g1,g2⟩,c⟩:=c;rw[List.drop_eq_nil_of_le (by simp[n]),I5 g1 g2]at c;rw[<-c];simp;(repeat' first|refine al ?_|simp);simp[bZ,ba,be,a1];simp[gw]
 ·obtain⟨⟨g1,g2⟩,c⟩:=c;obtain⟨a,k⟩:∃a,l[i]? =some a:=⟨_,ck hi⟩;obtain⟨b,j⟩:∃b,r[i]? =some b:=⟨_,ck Ω⟩;have e:∀h,(l[i]'h)=a:=fun h=>by rw[ck hi]at k;exact eZ k
  have f:∀h,(r[i]'h)=b:=fun h=>by rw[ck h]at j;exact eZ j
  have g:i<r.length:=Ω
  have p:(l.zip r).drop i=(a,b)::(l.zip r).drop (i+1):=by rw[lJ d6];simp[e,f]
  rw[p,OU g1 g2]at c;simp[hi,e,f,g];have key:=adl d a b g1 g2;cases hu:mgu d [(a,b)]with
  |none=>rw[hu]at c key;simp only at c;rw[<-c];(repeat' first|refine al ?_|refine aO key ?_|refine aP key ?_|simp[e,f,hi,g]);simp[bZ,ba,be,a1];simp[gw]
  |some s1=>have m:=Ci g1 g2 hu;rw[hu]at c key;(repeat' first|refine al ?_|refine aO key ?_|refine aP key ?_|simp[e,f,hi,g]);refine bX.rng s1 hi ⟨m,c⟩ ?_;exact cb
def k5(n:Int):bT au 114 [aj n] (T.var n).e:=by refine bF a6 Tryz.func114 apy fun a=>?_;unfold T5;exact cn
def amn(t:List Bd)(i:Nat)(p:List T×List T):Prop:=p.1=(t.take i).map (fun b=>T.var b.v)/\p.2=(t.take i).map (·.t)
def as3(s t:List Bd)(k:gD s)(n:iw s)(m:t.length<=1000000):bT au 152 [bH (s.map Bd.e),bH (t.map Bd.e)] (gw (mgu s (iy t))):=by
 have g:(t.map fun b=>T.var b.v).zip (t.map (·.t))=iy t:=by rw[iy,List.zip_map']
 refine bF a6 Tryz.func152 apF fun o=>?_;unfold Uc;simp;refine fT (α:=List T×List T) (fun i p=>⟨[(0,bH (s.map Bd.e)),(12,bH (t.map Bd.e)),(13,aj t.length),(6,.slice 4 (.own (.loc 0)) (p.1.map T.e)),(7,.slice 4 (.own (.loc 1)) (p.2.map T.e)),(14,aj i)],[],[(.loc 0,⟨p.1.length,30,4,none⟩),(.loc 1,⟨p.2.length,30,4,none⟩)],2,[]⟩) t.length (amn t) ([],[]) cb ⟨Ψ,Ψ⟩ (fun p d _=>?_) (fun i p hi d _=>?_)
 ·obtain⟨A,B⟩:=p;obtain⟨a,c⟩:=d;simp only at a c⊢;rw[iv (dO _)]at a c;have key:=as1 s A B (by rw[a,c];simp) k n (by rw[a];simpa using m);rw[a,c,g,<-a,<-c]at key;simp;(repeat' first|refine al ?_|refine aO key ?_|refine aP key ?_|simp);simp[bZ,ba,be,a1];simp[gw]
 ·obtain⟨A,B⟩:=p;obtain⟨a,c⟩:=d;simp only at a c⊢;obtain⟨b,l,f⟩:=eV hi;have e:t.take (i+1)=t.take i++[b]:=by rw[List.take_succ,l];rfl
  have j:A.length<=1000000:=by rw[a];simp;omega
  have h:B.length<=1000000:=by rw[c];simp;omega
  simp[hi,f];(repeat' first|refine al ?_|refine aO (k5 _) ?_|refine aP (k5 _) ?_|simp[f,hi]);all_goals try refine⟨by unfold lim;omega,?_⟩
  (repeat' first|refine al ?_|simp);all_goals try refine⟨by unfold lim;omega,?_⟩
  (repeat' first|refine al ?_|simp);refine bX.rng (A++[.var b.v],B++[b.t]) hi ⟨by rw[e,a];simp,by rw[e,c];simp⟩ ?_;simp;exact⟨by simp[fresh,aH,aA,cd,aM,ae,j0],ep g9,er ii,Ψ⟩
def dU(n lo hi:Int):bT au 75 [aj n,aj lo,aj hi] (.bool (decide (lo<=n/\n<=hi))):=by
 refine bF a6 Tryz.func75 apq fun a=>?_;unfold TX;simp;((repeat' first|refine al ?_|simp|((first|apply cq|apply cu|apply ct)<;>intro h<;>try simp at h))<;>(try exact c0));all_goals simp[bZ,ba,be,a1]
 all_goals first|omega|(simp;done)|(simp;omega)
def shp:Tm->Bool
 | .mk k n s [a,b]=>k==4&&n==0&&s==[]&&shp a&&shp b
 | .mk k n s []=>mo k n s
 |_=>false
def Kd:∀x:T,shp x.tm=x.ok
 | .nil=>by simp[T.tm,shp,mo,T.ok]
 | .var _=>by simp[T.tm,shp,mo,T.ok]
 | .sym _=>by simp[T.tm,shp,mo,T.ok]
 | .num _=>by simp[T.tm,shp,mo,T.ok]
 | .pair a b=>by simp[T.tm,shp,T.ok,Kd a,Kd b]
def ary:∀(m:Nat) (t:Tm),t.sz<=m->shp t=true->∃x:T,x.tm=t:=by
 intro m;induction m with
 |zero=>intro t c;cases t;simp[Tm.sz]at c
 |succ m d=>
  rintro⟨k,n,s,args⟩ c h;match args with
  |[a,b]=>
   simp[Tm.sz,Tm.szL]at c;simp only[shp,cO,eA]at h;obtain⟨⟨⟨⟨rfl,rfl⟩,e⟩,J⟩,U⟩:=h;obtain⟨x,rfl⟩:=d a Ω J;obtain⟨y,rfl⟩:=d b Ω U;have:s=[]:=by simpa using e
   subst this;exact⟨.pair x y,rfl⟩
  |[]=>
   simp only[shp,mo]at h;split at h
   ·subst_vars;simp at h;exact⟨.nil,by simp[T.tm,h]⟩
   split at h
   ·subst_vars;simp at h;exact⟨.var n,by simp[T.tm,h]⟩
   split at h
   ·subst_vars;simp at h;exact⟨.sym s,by simp[T.tm,h]⟩
   split at h
   ·subst_vars;simp at h;exact⟨.num n,by simp[T.tm,h]⟩
   ·simp at h
  |[_]=>simp[shp]at h
  |_::_::_::_=>simp[shp]at h
def aiT(t:Tm):t.fits=(decide (mD t 5000<=5000)&&shp t):=by
 by_cases h:shp t=true
 ·obtain⟨x,rfl⟩:=ary _ t (dO _) h;have:=(G7 x 5000 Ω).1;rw[Tm.fits_T,T.fit,h];rw[Kd]at h;simp[h,this];omega
 ·have b:t.fits=false:=by
   cases c:t.fits with
   |false=>rfl
   |true=>obtain⟨x,rfl,a⟩:=Tm.fits_ex c;rw[Kd]at h;simp[T.fit]at a;exact absurd a.1 h
  simp at h;rw[b,h];simp
def N8(s:List cV)(i:Nat):Prop:=i<=s.length/\∀k,k<i->n2 (s.getD k 0)=true/\(k=0->low (s.getD k 0)=true)
def amg{s:List cV}(h:N8 s s.length):kt s=decide (1<=s.length/\s.length<=12):=by
 unfold kt;by_cases c:1<=s.length
 ·have J:=(h.2 0 Ω).2 rfl;have U:(s.drop 1).all n2=true:=by rw[j5];intro b a;obtain⟨i,hi,e⟩:=pM a;simp at hi e;have:=(h.2 (i+1) Ω).1;rw[List.getD_eq_getElem?_getD,ck Ω]at this;simp only[ma]at this;rw[<-e];exact this
  rw[J,U];simp
 ·have:decide (1<=s.length/\s.length<=12)=false:=by simp;omega
  rw[this];simp
def amf{s:List cV}{i:Nat}(hi:i<s.length)(h:n2 (s.getD i 0)=false\/(i=0/\low (s.getD i 0)=false)):kt s=false:=by
 cases e:kt s with
 |false=>rfl
 |true=>
  exfalso;simp only[kt,cO,j5]at e;obtain⟨⟨_,a⟩,c⟩:=e;rcases h with h|⟨rfl,h⟩
  ·by_cases b:i=0
   ·subst b;rw[n2,a]at h;simp at h
   ·have:=c (s.getD i 0) (by rw[List.getD_eq_getElem?_getD,ck hi];simp only[ma];refine List.mem_iff_getElem.2 ⟨i-1,by simp;omega,?_⟩;simp[show i-1+1=i from by omega])
    rw[this]at h;cases h
  ·rw[a]at h;cases h
def h0(s:List cV):bT au 119 [.str s] (.bool (kt s)):=by
 generalize br:kt s=R;refine bF a6 Tryz.func119 apk fun q=>?_;unfold TS;have r:s.length<=68719476736:=by simp[eK,eU,eM,lim]at q;omega
 simp;refine xr [0] (fun(i:Nat)=>[(3,aj i)]) (fun i=>s.length-i) (N8 s) 0 cb ⟨Ω,fun k ad=>Ω⟩ (fun i o _=>?_);have t:=o.1;by_cases hi:i<s.length
 ·have l:=amf hi;rw[br]at l;obtain⟨c,ay,e⟩:=eV hi;have p:s.getD i 0=c:=by simp[List.getD_eq_getElem?_getD,ay]
  rw[p]at l;have dx:n2 c=true->(i=0->low c=true)->N8 s (i+1):=fun J U=>⟨Ω,fun k ad=>by
   rcases(by omega:k<i\/k=i)with h|rfl
   ·exact o.2 k h
   ·rw[p];exact⟨J,U⟩⟩
  have hw:vB.wrap (c.toNat:Int)=c.toNat:=pJ _ (by have:=c.toNat_lt;omega);simp[hi,e,ay];by_cases g:(97:Int)<=c.toNat
  ·by_cases n:(c.toNat:Int)<=122
   ·have j:low c=true:=by simp[low];omega
    (repeat' first|refine al ?_|refine aO (dU _ _ _) ?_|refine aP (dU _ _ _) ?_|simp[hi,e,ay,g,n]);exact bX.whl (i+1) Ω (dx (by simp[n2,j]) (fun _=>j)) cb
   ·have j:low c=false:=by simp[low];omega
    by_cases d:i=0
    ·rw[l (.inr ⟨d,j⟩)];have a:((i:Int)==0)=true:=by simp[d]
     (repeat' first|refine al ?_|refine aO (dU _ _ _) ?_|refine aP (dU _ _ _) ?_|simp[hi,e,ay,g,n,a,hw]);simp[bZ,ba,be,a1]
    ·have a:((i:Int)==0)=false:=by simp[d]
     by_cases b:(c.toNat:Int)=45
     ·have f:((c.toNat:Int) !=45)=false:=by simp[b]
      (repeat' first|refine al ?_|refine aO (dU _ _ _) ?_|refine aP (dU _ _ _) ?_|simp[hi,e,ay,g,n,a,hw,b,f]);all_goals exact bX.whl (i+1) Ω (dx (by simp[n2];omega) (fun h=>absurd h d)) cb
     ·have f:((c.toNat:Int) !=45)=true:=by simp[b]
      by_cases m:(48:Int)<=c.toNat/\(c.toNat:Int)<=57
      ·(repeat' first|refine al ?_|refine aO (dU _ _ _) ?_|refine aP (dU _ _ _) ?_|simp[hi,e,ay,g,n,a,hw,b,f,m]);all_goals exact bX.whl (i+1) Ω (dx (by simp[n2];omega) (fun h=>absurd h d)) cb
      ·rw[l (.inl (by simp[n2,j];omega))];(repeat' first|refine al ?_|refine aO (dU _ _ _) ?_|refine aP (dU _ _ _) ?_|simp[hi,e,ay,g,n,a,hw,b,f,m]);simp[bZ,ba,be,a1]
  ·have j:low c=false:=by simp[low];omega
   by_cases d:i=0
   ·rw[l (.inr ⟨d,j⟩)];have a:((i:Int)==0)=true:=by simp[d]
    (repeat' first|refine al ?_|refine aO (dU _ _ _) ?_|refine aP (dU _ _ _) ?_|simp[hi,e,ay,g,a,hw]);simp[bZ,ba,be,a1]
   ·have a:((i:Int)==0)=false:=by simp[d]
    by_cases b:(c.toNat:Int)=45
    ·have f:((c.toNat:Int) !=45)=false:=by simp[b]
     (repeat' first|refine al ?_|refine aO (dU _ _ _) ?_|refine aP (dU _ _ _) ?_|simp[hi,e,ay,g,a,hw,b,f]);all_goals exact bX.whl (i+1) Ω (dx (by simp[n2];omega) (fun h=>absurd h d)) cb
    ·have f:((c.toNat:Int) !=45)=true:=by simp[b]
     by_cases m:(48:Int)<=c.toNat/\(c.toNat:Int)<=57
     ·(repeat' first|refine al ?_|refine aO (dU _ _ _) ?_|refine aP (dU _ _ _) ?_|simp[hi,e,ay,g,a,hw,b,f,m]);all_goals exact bX.whl (i+1) Ω (dx (by simp[n2];omega) (fun h=>absurd h d)) cb
     ·rw[l (.inl (by simp[n2,j];omega))];(repeat' first|refine al ?_|refine aO (dU _ _ _) ?_|refine aP (dU _ _ _) ?_|simp[hi,e,ay,g,a,hw,b,f,m]);simp[bZ,ba,be,a1]
 ·have:i=s.length:=Ω
  subst this;rw[amg o]at br;simp[hi];(repeat' first|refine al ?_|refine aO (dU _ _ _) ?_|refine aP (dU _ _ _) ?_|simp[hi]);simp[bZ,ba,be,a1];rw[<-br,rf];simp;omega
def w4:List Tm->Bool
 |[a,b]=>shp a&&shp b
 |_=>false
def arx(k n:Int)(s:List cV)(args:List Tm):shp ⟨k,n,s,args⟩=if k≠1/\k≠3/\n≠0 then false else if k≠2/\s≠[]then false else if k≠4/\args≠[]then false else if k=0 then true else if k=1 then decide (0<=n/\n<=100000)else if k=2 then kt s else if k=3 then decide (-1000000000<=n/\n<=1000000000)else if k=4 then w4 args else false:=by
 by_cases d:k=0
 ·subst d;match args with
  |[]=>by_cases h:n=0<;>by_cases c:s=[]<;>simp[shp,mo,h,c]
  |[a]=>simp[shp]
  |[a,b]=>simp[shp]
  |_::_::_::_=>simp[shp]
 by_cases i:k=1
 ·subst i;match args with
  |[]=>by_cases c:s=[]<;>simp[shp,mo,c]
  |[a]=>simp[shp]
  |[a,b]=>simp[shp]
  |_::_::_::_=>simp[shp]
 by_cases f:k=2
 ·subst f;match args with
  |[]=>by_cases h:n=0<;>simp[shp,mo,h]
  |[a]=>simp[shp]
  |[a,b]=>simp[shp]
  |_::_::_::_=>simp[shp]
 by_cases g:k=3
 ·subst g;match args with
  |[]=>by_cases c:s=[]<;>simp[shp,mo,c]
  |[a]=>simp[shp]
  |[a,b]=>simp[shp]
  |_::_::_::_=>simp[shp]
 by_cases e:k=4
 ·subst e;match args with
  |[]=>simp[shp,mo,w4]
  |[a]=>simp[shp,w4]
  |[a,b]=>by_cases h:n=0<;>by_cases c:s=[]<;>simp[shp,w4,h,c]
  |_::_::_::_=>simp[shp,w4]
 ·match args with
  |[]=>simp[shp,mo,d,i,f,g,e]
  |[a]=>simp[shp,d,i,f,g,e]
  |[a,b]=>simp[shp,d,i,f,g,e]
  |_::_::_::_=>simp[shp,d,i,f,g,e]
set_option maxRecDepth 8000 in
def asW(m:Nat):∀(t:Tm),t.sz<=m->bT au 124 [enc t] (.bool (shp t)):=by
 induction m with
 |zero=>intro t A;cases t;simp[Tm.sz]at A
 |succ m F=>
 rintro⟨k,n,s,args⟩ A;generalize br:shp ⟨k,n,s,args⟩=R;have c:=arx k n s args;rw[br]at c;by_cases w:k≠1/\k≠3/\n≠0
 ·rw[if_pos w]at c;obtain⟨f,e,n0⟩:=w;have p:(k !=1)=true:=by simp[f]
  have o:(k !=3)=true:=by simp[e]
  have E:(n !=0)=true:=by simp[n0]
  subst c;refine bF a6 Tryz.func124 oe fun d=>?_;unfold nk;simp[Tm.kind,Tm.num,Tm.name,Tm.args];(repeat' first|refine al ?_|refine aO (dU _ _ _) ?_|refine aP (dU _ _ _) ?_|refine aO (h0 _) ?_|refine aP (h0 _) ?_|simp[p,o,E]);all_goals simp[bZ,ba,be,a1]
 rw[if_neg w]at c;have v:(if k !=1 then k !=3 else false)=true->(n !=0)=false:=by intro h;simp at h⊢;exact Classical.byContradiction fun N=>w ⟨h.1,h.2,N⟩
 by_cases i:k≠2/\s≠[]
 ·rw[if_pos i]at c;have y:(k !=2)=true:=by simp[i.1]
  have B:s.isEmpty=false:=by simp[i.2]
  by_cases f:k=1
  ·subst f;subst c;refine bF a6 Tryz.func124 oe fun d=>?_;unfold nk;simp[Tm.kind,Tm.num,Tm.name,Tm.args];(repeat' first|refine al ?_|refine aO (dU _ _ _) ?_|refine aP (dU _ _ _) ?_|refine aO (h0 _) ?_|refine aP (h0 _) ?_|simp[B]);all_goals simp[bZ,ba,be,a1]
  by_cases e:k=3
  ·subst e;subst c;refine bF a6 Tryz.func124 oe fun d=>?_;unfold nk;simp[Tm.kind,Tm.num,Tm.name,Tm.args];(repeat' first|refine al ?_|refine aO (dU _ _ _) ?_|refine aP (dU _ _ _) ?_|refine aO (h0 _) ?_|refine aP (h0 _) ?_|simp[B]);all_goals simp[bZ,ba,be,a1]
  have p:(k !=1)=true:=by simp[f]
  have o:(k !=3)=true:=by simp[e]
  have E:(n !=0)=false:=v (by simp[f,e]);subst c;refine bF a6 Tryz.func124 oe fun d=>?_;unfold nk;simp[Tm.kind,Tm.num,Tm.name,Tm.args];(repeat' first|refine al ?_|refine aO (dU _ _ _) ?_|refine aP (dU _ _ _) ?_|refine aO (h0 _) ?_|refine aP (h0 _) ?_|simp[p,o,E,y,B]);all_goals simp[bZ,ba,be,a1]
 rw[if_neg i]at c;by_cases z:k=0
 ·subst z;have n0:n=0:=by simpa using v (by decide)
  have s0:s=[]:=Classical.byContradiction fun h=>i ⟨Ω,h⟩;subst n0 s0;by_cases a0:args=[];rotate_left
  ·rw[if_pos ⟨Ω,a0⟩]at c;have g:(0:Int)<args.length:=by have:=List.length_pos_iff.2 a0;omega
   subst c;refine bF a6 Tryz.func124 oe fun d=>?_;unfold nk;simp[Tm.kind,Tm.num,Tm.name,Tm.args];((repeat' first|refine al ?_|refine aO (dU _ _ _) ?_|refine aP (dU _ _ _) ?_|refine aO (h0 _) ?_|refine aP (h0 _) ?_|simp[Int.natCast_nonneg,g]|((first|apply cq|apply cu|apply ct)<;>intro h<;>try simp at h))<;>(try exact c0));all_goals simp[bZ,ba,be,a1]
  rw[if_neg (by simp[a0])]at c;subst a0;simp at c;subst c;refine bF a6 Tryz.func124 oe fun d=>?_;unfold nk;simp[Tm.kind,Tm.num,Tm.name,Tm.args];(repeat' first|refine al ?_|refine aO (dU _ _ _) ?_|refine aP (dU _ _ _) ?_|refine aO (h0 _) ?_|refine aP (h0 _) ?_|simp[Int.natCast_nonneg]);all_goals simp[bZ,ba,be,a1]
 by_cases f:k=1
 ·subst f;have s0:s=[]:=Classical.byContradiction fun h=>i ⟨Ω,h⟩;subst s0;by_cases a0:args=[];rotate_left
  ·rw[if_pos ⟨Ω,a0⟩]at c;have g:(0:Int)<args.length:=by have:=List.length_pos_iff.2 a0;omega
   subst c;refine bF a6 Tryz.func124 oe fun d=>?_;unfold nk;simp[Tm.kind,Tm.num,Tm.name,Tm.args];((repeat' first|refine al ?_|refine aO (dU _ _ _) ?_|refine aP (dU _ _ _) ?_|refine aO (h0 _) ?_|refine aP (h0 _) ?_|simp[Int.natCast_nonneg,g]|((first|apply cq|apply cu|apply ct)<;>intro h<;>try simp at h))<;>(try exact c0));all_goals simp[bZ,ba,be,a1]
  rw[if_neg (by simp[a0])]at c;subst a0;simp at c;subst c;refine bF a6 Tryz.func124 oe fun d=>?_;unfold nk;simp[Tm.kind,Tm.num,Tm.name,Tm.args];(repeat' first|refine al ?_|refine aO (dU _ _ _) ?_|refine aP (dU _ _ _) ?_|refine aO (h0 _) ?_|refine aP (h0 _) ?_|simp[Int.natCast_nonneg]);all_goals simp[bZ,ba,be,a1]
 by_cases u:k=2
 ·subst u;have n0:n=0:=by simpa using v (by decide)
  subst n0;by_cases a0:args=[];rotate_left
  ·rw[if_pos ⟨Ω,a0⟩]at c;have g:(0:Int)<args.length:=by have:=List.length_pos_iff.2 a0;omega
   subst c;refine bF a6 Tryz.func124 oe fun d=>?_;unfold nk;simp[Tm.kind,Tm.num,Tm.name,Tm.args];((repeat' first|refine al ?_|refine aO (dU _ _ _) ?_|refine aP (dU _ _ _) ?_|refine aO (h0 _) ?_|refine aP (h0 _) ?_|simp[Int.natCast_nonneg,g]|((first|apply cq|apply cu|apply ct)<;>intro h<;>try simp at h))<;>(try exact c0));all_goals simp[bZ,ba,be,a1]
  rw[if_neg (by simp[a0])]at c;subst a0;simp at c;subst c;refine bF a6 Tryz.func124 oe fun d=>?_;unfold nk;simp[Tm.kind,Tm.num,Tm.name,Tm.args];(repeat' first|refine al ?_|refine aO (dU _ _ _) ?_|refine aP (dU _ _ _) ?_|refine aO (h0 _) ?_|refine aP (h0 _) ?_|simp[Int.natCast_nonneg]);all_goals simp[bZ,ba,be,a1]
 by_cases e:k=3
 ·subst e;have s0:s=[]:=Classical.byContradiction fun h=>i ⟨Ω,h⟩;subst s0;by_cases a0:args=[];rotate_left
  ·rw[if_pos ⟨Ω,a0⟩]at c;have g:(0:Int)<args.length:=by have:=List.length_pos_iff.2 a0;omega
   subst c;refine bF a6 Tryz.func124 oe fun d=>?_;unfold nk;simp[Tm.kind,Tm.num,Tm.name,Tm.args];((repeat' first|refine al ?_|refine aO (dU _ _ _) ?_|refine aP (dU _ _ _) ?_|refine aO (h0 _) ?_|refine aP (h0 _) ?_|simp[Int.natCast_nonneg,g]|((first|apply cq|apply cu|apply ct)<;>intro h<;>try simp at h))<;>(try exact c0));all_goals simp[bZ,ba,be,a1]
  rw[if_neg (by simp[a0])]at c;subst a0;simp at c;subst c;refine bF a6 Tryz.func124 oe fun d=>?_;unfold nk;simp[Tm.kind,Tm.num,Tm.name,Tm.args];(repeat' first|refine al ?_|refine aO (dU _ _ _) ?_|refine aP (dU _ _ _) ?_|refine aO (h0 _) ?_|refine aP (h0 _) ?_|simp[Int.natCast_nonneg]);all_goals simp[bZ,ba,be,a1]
 by_cases r:k=4
 ·subst r;have n0:n=0:=by simpa using v (by decide)
  have s0:s=[]:=Classical.byContradiction fun h=>i ⟨Ω,h⟩;subst n0 s0;simp at c;match args,c with
  |[a,b],c=>
   simp[Tm.sz,Tm.szL]at A;have j:=F a Ω;have x:=F b Ω;simp only[w4]at c;subst c;refine bF a6 Tryz.func124 oe fun d=>?_;unfold nk;simp[Tm.kind,Tm.num,Tm.name,Tm.args];cases q:shp a with
   |true=>rw[q]at j;(repeat' first|refine al ?_|refine aO j ?_|refine aP j ?_|refine aO x ?_|refine aP x ?_|simp[Int.natCast_nonneg]);all_goals simp[bZ,ba,be,a1]
   |false=>rw[q]at j;(repeat' first|refine al ?_|refine aO j ?_|refine aP j ?_|refine aO x ?_|refine aP x ?_|simp[Int.natCast_nonneg]);all_goals simp[bZ,ba,be,a1]
  |[],c=>simp only[w4]at c;subst c;refine bF a6 Tryz.func124 oe fun d=>?_;unfold nk;simp[Tm.kind,Tm.num,Tm.name,Tm.args];(repeat' first|refine al ?_|refine aO (dU _ _ _) ?_|refine aP (dU _ _ _) ?_|refine aO (h0 _) ?_|refine aP (h0 _) ?_|simp[Int.natCast_nonneg]);all_goals simp[bZ,ba,be,a1]
  |[_],c=>simp only[w4]at c;subst c;refine bF a6 Tryz.func124 oe fun d=>?_;unfold nk;simp[Tm.kind,Tm.num,Tm.name,Tm.args];(repeat' first|refine al ?_|refine aO (dU _ _ _) ?_|refine aP (dU _ _ _) ?_|refine aO (h0 _) ?_|refine aP (h0 _) ?_|simp[Int.natCast_nonneg]);all_goals simp[bZ,ba,be,a1]
  |_::_::_::l,c=>
   simp only[w4]at c;have O:((l.length:Int)+1+1+1==2)=false:=by simp;omega
   subst c;refine bF a6 Tryz.func124 oe fun d=>?_;unfold nk;simp[Tm.kind,Tm.num,Tm.name,Tm.args];(repeat' first|refine al ?_|refine aO (dU _ _ _) ?_|refine aP (dU _ _ _) ?_|refine aO (h0 _) ?_|refine aP (h0 _) ?_|simp[O]);all_goals simp[bZ,ba,be,a1]
 have n0:(n !=0)=false:=v (by simp[f,e]);have s0:s=[]:=Classical.byContradiction fun h=>i ⟨u,h⟩;subst s0;have M:(k==0)=false:=by simp[z]
 have p:(k==1)=false:=by simp[f]
 have y:(k==2)=false:=by simp[u]
 have o:(k==3)=false:=by simp[e]
 have H:(k==4)=false:=by simp[r]
 have L:(k !=1)=true:=by simp[f]
 have K:(k !=2)=true:=by simp[u]
 have J:(k !=3)=true:=by simp[e]
 have G:(k !=4)=true:=by simp[r]
 by_cases a0:args=[]
 ·subst a0;simp[z,f,u,e,r]at c;subst c;refine bF a6 Tryz.func124 oe fun d=>?_;unfold nk;simp[Tm.kind,Tm.num,Tm.name,Tm.args];(repeat' first|refine al ?_|refine aO (dU _ _ _) ?_|refine aP (dU _ _ _) ?_|refine aO (h0 _) ?_|refine aP (h0 _) ?_|simp[M,p,y,o,H,L,K,J,G,n0]);all_goals simp[bZ,ba,be,a1]
 ·rw[if_pos ⟨r,a0⟩]at c;have g:(0:Int)<args.length:=by have:=List.length_pos_iff.2 a0;omega
  subst c;refine bF a6 Tryz.func124 oe fun d=>?_;unfold nk;simp[Tm.kind,Tm.num,Tm.name,Tm.args];((repeat' first|refine al ?_|refine aO (dU _ _ _) ?_|refine aP (dU _ _ _) ?_|refine aO (h0 _) ?_|refine aP (h0 _) ?_|simp[g,M,p,y,o,H,L,K,J,G,n0]|((first|apply cq|apply cu|apply ct)<;>intro h<;>try simp at h))<;>(try exact c0));all_goals simp[bZ,ba,be,a1]
def Df(t:Tm):bT au 56 [enc t] (.bool t.fits):=by
 rw[aiT];have ay:=adg t 5000 Ω Ω;have a:=asW t.sz t (dO _);refine bF a6 Tryz.func56 apo fun b=>?_;unfold TW;simp;by_cases q:mD t 5000<=5000
 ·exact cn
 ·exact cn
def TT:C:=(aa [bu 2 false] (.seq (aa [I 5 0,cx 6 5,bM 7 0] (gz 8 7 6 (.seq (.block 1 (aa [I 9 7,cl 10 2 5 7,bf 11 2 10,ds (.alloc 4 none (.agg [.int .i64 0,.int .i64 0])),I 3 9,bV 2 4 11] (.seq (.drawn true 42 [I 12 3,aV 13 .gtr 12 0,I 14 13,cg 14 true 15 0,cg 14 true 16 3,ax 14 true (aV 17 .sub 16 1),ax 14 true (cl 18 2 15 17),ax 14 true (aF 19 0 1 18),ax 14 true (az 20 1 19),ax 14 true (aF 21 0 1 4),ax 14 true (az 22 1 21),ax 14 true (bt 23 .geq 20 22),ej 24 14 23,I 25 24,ax 25 false (aF 26 0 1 4),ax 25 false (az 27 1 26),ax 25 false (dN 28 75 [.t 27,(gV 0),(gV 100000)]),ax 25 false (cK 29 28),dq 30 25 29,I 31 30,ax 31 false (aF 32 1 1 4),ax 31 false (az 33 1 32),ax 31 false (aV 34 .neq 33 2),cg 31 false 35 34,ax 35 true (aF 36 1 1 4),ax 35 true (az 37 1 36),ax 35 true (aV 38 .neq 37 3),ax 31 false (ej 39 35 38),dq 40 31 39]) (aW 40 (aa [bu 2 false] .ret) .skip)))) (.region [aV 41 .add 7 1,I 7 41])))) (aa [bu 2 true] .ret)))
def TU:C:=(aa [bu 2 false] (.seq (aa [I 5 0,cx 6 5,bM 7 0] (gz 8 7 6 (.seq (.block 1 (aa [I 9 7,cl 10 2 5 7,bf 11 2 10,ds (.alloc 4 none (.agg [.int .i64 0,.str []])),I 3 9,bV 2 4 11] (.seq (.drawn true 37 [I 12 3,aV 13 .gtr 12 0,I 14 13,cg 14 true 15 0,cg 14 true 16 3,ax 14 true (aV 17 .sub 16 1),ax 14 true (cl 18 2 15 17),ax 14 true (bf 19 2 18),ax 14 true (bf 20 2 4),ax 14 true (b8 21 147 19 20),ax 14 true (cK 22 21),ej 23 14 22,I 24 23,ax 24 false (aF 25 0 1 4),ax 24 false (az 26 1 25),ax 24 false (dN 27 75 [.t 26,(gV 0),(gV 100000)]),ax 24 false (cK 28 27),dq 29 24 28,I 30 29,ax 30 false (aF 31 1 1 4),ax 30 false (az 32 1 31),ax 30 false (cQ 33 119 32),ax 30 false (cK 34 33),dq 35 30 34]) (aW 35 (aa [bu 2 false] .ret) .skip)))) (.region [aV 36 .add 7 1,I 7 36])))) (aa [bu 2 true] .ret)))
def G3:C:=(aa [cU 2 0,cU 3 1,bu 4 false] (aa [aF 5 0 1 2,az 6 1 5,aF 7 0 1 3,az 8 1 7,bt 9 .lss 6 8,I 10 9,ax 10 false (aF 11 0 1 2),ax 10 false (az 12 1 11),ax 10 false (aF 13 0 1 3),ax 10 false (az 14 1 13),ax 10 false (bt 15 .eql 12 14),cg 10 false 16 15,ax 16 true (aF 17 1 1 2),ax 16 true (az 18 1 17),ax 16 true (aF 19 1 1 3),ax 16 true (az 20 1 19),ax 16 true (bt 21 .lss 18 20),ax 10 false (ej 22 16 21),dq 23 10 22,I 4 23] .ret))
def Ui:C:=(aa [eY 4 2,bu 5 false] (aa [eX 10 2 98 [],I 6 10] (aa [bu 7 true] (.seq (.seq (.fg false 6 (.region [I 11 1,cx 12 11,bM 13 0])) (gz 14 13 12 (.seq (.block 1 (aa [cl 15 2 11 13,bf 16 2 15,ds (.alloc 9 none (.agg [.int .i64 0,.int .i64 0])),bV 2 9 16] (.seq (.drawn true 33 [I 18 6,I 19 0,aF 20 0 1 9,az 21 1 20,cQ 22 114 21,b8 23 201 19 22,aF 24 1 1 9,az 25 1 24,dN 26 151 [.t 18,.t 23,.t 25],I 17 26,cS 27 0 17,cS 28 1 17,I 6 27,I 7 28]) (aa [I 29 7,cK 30 29] (aW 30 (aa [eY 4 2,bu 5 false] .ret) .skip))))) (.region [aV 31 .add 13 1,I 13 31])))) (aa [I 32 6,I 4 32,bu 5 true] .ret)))))
def Uj:C:=(aa [eY 4 2,bu 5 false] (aa [eX 10 2 100 [],I 6 10] (aa [bu 7 true] (.seq (.seq (.fg false 6 (.region [I 11 1,cx 12 11,bM 13 0])) (gz 14 13 12 (.seq (.block 1 (aa [cl 15 2 11 13,bf 16 2 15,ds (.alloc 9 none (.agg [.int .i64 0,.str []])),bV 2 9 16] (.seq (.drawn true 33 [I 18 6,I 19 0,aF 20 0 1 9,az 21 1 20,cQ 22 114 21,b8 23 201 19 22,aF 24 1 1 9,az 25 1 24,dN 26 181 [.t 18,.t 23,.t 25],I 17 26,cS 27 0 17,cS 28 1 17,I 6 27,I 7 28]) (aa [I 29 7,cK 30 29] (aW 30 (aa [eY 4 2,bu 5 false] .ret) .skip))))) (.region [aV 31 .add 13 1,I 13 31])))) (aa [I 32 6,I 4 32,bu 5 true] .ret)))))
def A6:C:=(aa [cU 4 1,eY 6 2,bu 7 false] (.seq (aa [aF 10 0 1 4,az 11 1 10,aV 12 .neq 11 1] (aW 12 (.seq (.drawn true 73 [I 13 0,aF 14 0 1 4,az 15 1 14,I 16 2,bt 17 .eql 15 16,I 6 13,I 7 17]) .ret) .skip)) (aa [bM 8 0] (.seq (.block 0 (.loop (.seq (.seq (.drawn true 73 [I 18 8,I 19 0,cx 20 19,bt 21 .lss 18 20,I 22 21,cg 22 true 23 0,cg 22 true 24 8,ax 22 true (cl 25 2 23 24),ax 22 true (aF 26 0 1 25),ax 22 true (az 27 1 26),ax 22 true (aF 28 1 1 4),ax 22 true (az 29 1 28),ax 22 true (bt 30 .lss 27 29),ej 31 22 30]) (aW 31 .skip (.exit 0))) (.block 1 (.region [I 32 8,aV 33 .add 32 1,I 8 33]))))) (.seq (.seq (.drawn true 73 [I 34 8,I 35 0,cx 36 35,bt 37 .lss 34 36,I 38 37,cg 38 true 39 0,cg 38 true 40 8,ax 38 true (cl 41 2 39 40),ax 38 true (aF 42 0 1 41),ax 38 true (az 43 1 42),ax 38 true (aF 44 1 1 4),ax 38 true (az 45 1 44),ax 38 true (bt 46 .eql 43 45),ej 47 38 46]) (aW 47 (.seq (.drawn true 73 [I 48 0,I 49 0,I 50 8,cl 51 2 49 50,aF 52 1 1 51,az 53 1 52,I 54 2,bt 55 .eql 53 54,I 6 48,I 7 55]) .ret) .skip)) (aa [eX 56 2 98 [],I 57 0,I 58 8,cf 59 (.lsl 2 (.t 57) none (some (.t 58))),hT 60 2 98 56 59,I 9 60] (aa [I 61 9,aF 62 1 1 4,az 63 1 62,I 64 2,cf 65 (.build [.int .i64 0,.int .i64 0] [(0,1,(.t 63)),(1,1,(.t 64))]),eX 66 2 98 [.t 65],hT 67 2 98 61 66,I 9 67] (aa [I 68 9,I 69 0,I 70 8,cf 71 (.lsl 2 (.t 69) (some (.t 70)) none),hT 72 2 98 68 71,I 6 72,bu 7 true] .ret))))))))
def LS:C:=(aa [cU 4 1,eY 6 2,bu 7 false] (.seq (aa [bf 13 4 4,I 14 2,b8 15 210 13 14] (aW 15 (aa [eY 6 2,bu 7 false] .ret) .skip)) (.seq (aa [bf 16 4 4,dN 17 58 [.t 16,(.c (.slice 1 .nil []))],cx 18 17,bM 19 0] (gz 20 19 18 (.seq (.block 1 (aa [cl 21 1 17 19,az 22 1 21,I 9 22] (aa [I 23 9,I 24 2,cf 25 (.build [.int .i64 0,.str []] [(0,1,(.t 23)),(1,1,(.t 24))]),ds (.alloc 10 none (.agg [.int .i64 0,.str []])),bV 2 10 25] (aa [bM 11 0] (.seq (.block 2 (.loop (.seq (.seq (.drawn true 68 [I 26 11,I 27 0,cx 28 27,bt 29 .lss 26 28,I 30 29,cg 30 true 31 0,cg 30 true 32 11,ax 30 true (cl 33 2 31 32),ax 30 true (bf 34 2 33),ax 30 true (bf 35 2 10),ax 30 true (b8 36 147 34 35),ej 37 30 36]) (aW 37 .skip (.exit 2))) (.block 3 (.region [I 38 11,aV 39 .add 38 1,I 11 39]))))) (.seq (.drawn true 68 [I 40 11,I 41 0,cx 42 41,bt 43 .eql 40 42,I 44 43,ax 44 false (bf 45 2 10),cg 44 false 46 0,cg 44 false 47 11,ax 44 false (cl 48 2 46 47),ax 44 false (bf 49 2 48),ax 44 false (b8 50 147 45 49),dq 51 44 50]) (aW 51 (aa [eX 52 2 100 [],I 53 0,I 54 11,cf 55 (.lsl 2 (.t 53) none (some (.t 54))),hT 56 2 100 52 55,I 12 56] (aa [I 57 12,bf 58 2 10,eX 59 2 100 [.t 58],hT 60 2 100 57 59,I 12 60] (.region [I 61 12,I 62 0,I 63 11,cf 64 (.lsl 2 (.t 62) (some (.t 63)) none),hT 65 2 100 61 64,I 0 65]))) .skip))))))) (.fg false 0 (.region [aV 66 .add 19 1,I 19 66]))))) (aa [I 67 0,I 6 67,bu 7 true] .ret))))
def A5:C:=(aa [cU 2 0,bu 4 false] (.seq (aa [aF 7 3 1 2,az 8 1 7,cx 9 8,bM 10 0] (gz 11 10 9 (.seq (.block 1 (aa [cl 12 4 8 10,bf 13 4 12,dF 6 eB,bV 4 6 13] (aa [bf 14 4 6,I 15 1,b8 16 210 14 15] (aW 16 (aa [bu 4 true] .ret) .skip)))) (.region [aV 17 .add 10 1,I 10 17])))) (aa [aF 18 0 1 2,az 19 1 18,aV 20 .eql 19 2,I 21 20,ax 21 true (aF 22 2 1 2),ax 21 true (az 23 1 22),cg 21 true 24 1,ax 21 true (bt 25 .eql 23 24),ej 26 21 25,I 4 26] .ret)))
def apl:b2 aS TT [.tmp 2] 1 Tryz.f78=true:=bi
def apm:b2 aS TU [.tmp 2] 1 Tryz.f79=true:=bi
def Px:b2 aS G3 [.tmp 4] 2 Tryz.f147=true:=bi
def apL:b2 aS Ui [.tmp 4,.tmp 5] 2 Tryz.f149=true:=bi
def apM:b2 aS Uj [.tmp 4,.tmp 5] 2 Tryz.f150=true:=bi
def Fw:b2 aS A6 [.tmp 6,.tmp 7] 3 Tryz.f151=true:=bi
def Z9:b2 aS LS [.tmp 6,.tmp 7] 3 Tryz.f181=true:=bi
def Fv:b2 aS A5 [.tmp 4] 2 Tryz.f210=true:=bi
open Classical in
def atu(l:List bJ):bT au 78 [b5 (l.map bJ.e)] (.bool (decide (jN l))):=by
 generalize br:decide (jN l)=R;refine bF a6 Tryz.func78 apl fun A=>?_;unfold TT;have E:l.length<=68719476736:=by simp[eK,eU,eM,lim]at A;omega
 simp;refine e1 [0,5,6] (fun i (_:Unit)=>[(7,aj i)]) l.length (fun i _=> ∀j,j<i->jd nC oQ l j) () cb (fun k ad=>Ω) (fun _ s _=>?_) (fun i _ hi s _=>?_)
 ·have:R=true:=by rw[<-br,gn,IE];exact s
  rw[this];exact cn
 ·obtain⟨b,m⟩:∃b,l[i]? =some b:=⟨_,ck hi⟩;obtain⟨c,ay⟩:∃c,l[i-1]? =some c:=⟨_,ck Ω⟩;have d:∀h,(l[i]'h)=b:=fun h=>by rw[ck hi]at m;exact eZ m
  have q:¬jd nC oQ l i->R=false:=fun h=>by rw[<-br,iN];exact fun x=>h (IE.1 x i hi)
  have dx:jd nC oQ l i->∀j,j<i+1->jd nC oQ l j:=fun h j B=>by
   by_cases e:j=i
   ·rw[e];exact h
   ·exact s j Ω
  have p:jd nC oQ l i->nC b:=fun h=>(h b m).1;have y:jd nC oQ l i->0<i->c.v<b.v:=fun h a=>(h b m).2 c a ay;have u:nC b->(0<i->c.v<b.v)->jd nC oQ l i:=fun J U b0 v=>by rw[m]at v;cases v;exact⟨J,fun F a t=>by rw[ay]at t;cases t;exact U a⟩
  unfold nC at p u;by_cases g0:0<i/\¬c.v<b.v
  ·rw[q (fun h=>g0.2 (y h g0.1))];have z:=g0.1;have g:b.v<=c.v:=Ω
   exact cn
  have n:(decide (0<i)&&decide (b.v<=c.v))=false:=by simp;intro h;by_cases w:c.v<b.v;exact w;exact absurd ⟨h,w⟩ g0
  by_cases g1:0<=b.v/\b.v<=100000;rotate_left
  ·rw[q (fun h=>g1 (p h).1)];have f:decide (0<=b.v/\b.v<=100000)=false:=by simp only[iN];exact g1
   by_cases a:0<i
   ·have g:¬b.v<=c.v:=by simp[a]at n;omega
    simp[hi,d,ay];(repeat' first|refine al ?_|refine aO (dU _ _ _) ?_|refine aP (dU _ _ _) ?_|simp[d,ay,hi,a,g,f,g1]);all_goals simp[bZ,ba,be,a1]
   ·obtain rfl:i=0:=Ω
    simp[hi,d,ay];(repeat' first|refine al ?_|refine aO (dU _ _ _) ?_|refine aP (dU _ _ _) ?_|simp[d,ay,hi,f,g1]);all_goals simp[bZ,ba,be,a1]
  have f:decide (0<=b.v/\b.v<=100000)=true:=by simp only[gn];exact g1
  by_cases g2:b.k=2\/b.k=3;rotate_left
  ·rw[q (fun h=>g2 (p h).2)];have g21:(b.k !=2)=true:=by simp;omega
   have g22:(b.k !=3)=true:=by simp;omega
   by_cases a:0<i
   ·have g:¬b.v<=c.v:=by simp[a]at n;omega
    simp[hi,d,ay];(repeat' first|refine al ?_|refine aO (dU _ _ _) ?_|refine aP (dU _ _ _) ?_|simp[d,ay,hi,a,g,f,g1,g21,g22]);all_goals simp[bZ,ba,be,a1]
   ·obtain rfl:i=0:=Ω
    simp[hi,d,ay];(repeat' first|refine al ?_|refine aO (dU _ _ _) ?_|refine aP (dU _ _ _) ?_|simp[d,ay,hi,f,g1,g21,g22]);all_goals simp[bZ,ba,be,a1]
  have o:=dx (u ⟨g1,g2⟩ fun a=>by simp[a]at n;omega);have r:((b.k !=2)=false)\/((b.k !=2)=true/\(b.k !=3)=false):=by
   rcases g2 with h|h
   ·left;simp[h]
   ·right;simp[h]
  rcases r with g21|⟨g21,g22⟩
  ·by_cases a:0<i
   ·have g:¬b.v<=c.v:=by simp[a]at n;omega
    simp[hi,d,ay];(repeat' first|refine al ?_|refine aO (dU _ _ _) ?_|refine aP (dU _ _ _) ?_|simp[d,ay,hi,a,g,f,g1,g21]);all_goals exact bX.rng () hi o cb
   ·obtain rfl:i=0:=Ω
    simp[hi,d,ay];(repeat' first|refine al ?_|refine aO (dU _ _ _) ?_|refine aP (dU _ _ _) ?_|simp[d,ay,hi,f,g1,g21]);all_goals exact bX.rng () hi o cb
  ·by_cases a:0<i
   ·have g:¬b.v<=c.v:=by simp[a]at n;omega
    simp[hi,d,ay];(repeat' first|refine al ?_|refine aO (dU _ _ _) ?_|refine aP (dU _ _ _) ?_|simp[d,ay,hi,a,g,f,g1,g21,g22]);all_goals exact bX.rng () hi o cb
   ·obtain rfl:i=0:=Ω
    simp[hi,d,ay];(repeat' first|refine al ?_|refine aO (dU _ _ _) ?_|refine aP (dU _ _ _) ?_|simp[d,ay,hi,f,g1,g21,g22]);all_goals exact bX.rng () hi o cb
def mY(a b:bn):bT au 147 [a.e,b.e] (.bool (iL gf a b)):=by
 rw[<-Zt];have br:vj a b=(decide (a.v<b.v)||(a.v==b.v&&iu a.s b.s)):=rfl;rcases Int.lt_trichotomy a.v b.v with h|h|h
 ·have:vj a b=true:=by rw[br];simp[h]
  rw[this];refine bF a6 Tryz.func147 Px fun c=>?_;unfold G3;exact cn
 ·have J:¬a.v<b.v:=Ω
  have U:(a.v==b.v)=true:=by simp[h]
  have:vj a b=iu a.s b.s:=by rw[br];simp[h]
  rw[this];refine bF a6 Tryz.func147 Px fun c=>?_;unfold G3;exact cn
 ·have J:¬a.v<b.v:=Ω
  have U:¬a.v=b.v:=Ω
  have d:(a.v==b.v)=false:=by simp[U]
  have:vj a b=false:=by rw[br];simp[J,U]
  rw[this];refine bF a6 Tryz.func147 Px fun c=>?_;unfold G3;exact cn
def XV(l:List Bt)(i:Nat)(_:Unit):Prop:= ∀j,j<i->Cw l j
open Classical in
def as0(l:List Bt):bT au 145 [bH (l.map Bt.e)] (.bool (decide (AS l))):=by
 generalize br:decide (AS l)=R;refine bF a6 Tryz.func145 apD fun s=>?_;unfold Ua;have t:l.length<=68719476736:=by simp[eK,eU,eM,lim]at s;omega
 simp;refine e1 [0,5,6] (fun i (_:Unit)=>[(7,aj i)]) l.length (XV l) () cb (fun k ad=>Ω) (fun _ f _=>?_) (fun i _ hi f _=>?_)
 ·have:R=decide (l.length<=400):=by rw[<-br,decide_eq_decide];exact⟨fun h=>h.1,fun h=>⟨h,fun j g=>f j g⟩⟩
  rw[this];simp;(repeat' first|refine al ?_|simp);simp[bZ,ba,be,a1];all_goals(first|done|omega|(simp;done)|(simp;omega))
 ·obtain⟨b,a⟩:∃b,l[i]? =some b:=⟨_,ck hi⟩;obtain⟨c,ay⟩:∃c,l[i-1]? =some c:=⟨_,ck Ω⟩;have n:∀h,(l[i]'h)=b:=fun h=>by rw[ck hi]at a;exact eZ a
  have p:¬Cw l i->R=false:=fun h=>by rw[<-br,iN];exact fun d=>h (d.2 i hi)
  have dx:Cw l i->XV l (i+1) ():=fun h j g=>by
   by_cases e:j=i
   ·rw[e];exact h
   ·exact f j Ω
  simp[hi,n,ay];((repeat' first|refine al ?_|refine aO (dU _ _ _) ?_|refine aP (dU _ _ _) ?_|refine aO (Df _) ?_|refine aP (Df _) ?_|simp[n,ay,hi]|((first|apply cq|apply cu|apply ct)<;>intro h<;>try simp at h))<;>(try exact c0));all_goals first
   |(have q:¬Cw l i:=by(intro d;have J:=d b a;have U:=J.2.1 c;have r:=J.2.2;first|omega|(have w:=U Ω ay;omega)|(rw[r]at h;cases h)|(simp_all;done)|(simp_all;omega))
     rw[p q]
     simp[bZ,ba,be,a1]
     done)
   |(refine bX.rng () hi (dx fun b0 o=>?_) ?_
     ·rw[a]at o;cases o
      refine⟨?_,fun u v m=>?_,?_⟩
      ·omega
      ·rw[ay]at m;cases m;omega
      ·first|assumption|simp_all
     ·exact cb)
def n4(n:Int):List Int->List Int
 |[]=>[n]
 |c::l=>if c<n then c::n4 n l else if c=n then c::l else n::c::l
def vD(l:List Int):Prop:=l.Pairwise (· < ·)
def XM(n:Int):∀(l:List Int) (k:Nat),(∀i c,i<k->l[i]? =some c->c<n)->(∀c,l[k]? =some c->n<=c)->k<=l.length->n4 n l=if l[k]? =some n then l else l.take k++n::l.drop k
 |[],k,_,_,ad=>by simp at ad;subst ad;rfl
 |c::l,0,_,U,_=>by
  have:=U c rfl;by_cases e:c=n
  ·simp[n4,e]
  ·have f:¬c<n:=Ω
   simp[n4,f,e]
 |c::l,k+1,J,U,ad=>by have b:=J 0 c Ω rfl;simp only[n4,if_pos b,List.take_succ_cons,List.drop_succ_cons,b6,List.getElem?_cons_succ];rw[XM n l k (fun i d hi a=>J (i+1) d Ω (by simpa using a)) (fun d a=>U d (by simpa using a)) (by simpa using ad)];split<;>rfl
def OQ{n m:Int}:∀{l:List Int},m∈n4 n l↔m=n\/m∈l
 |[]=>by simp[n4]
 |c::l=>by
  simp only[n4];split
  ·simp only[gJ,OQ (l:=l)];constructor
   ·rintro(h|h|h)
    ·exact .inr (.inl h)
    ·exact .inl h
    ·exact .inr (.inr h)
   ·rintro(h|h|h)
    ·exact .inr (.inl h)
    ·exact .inl h
    ·exact .inr (.inr h)
  ·split
   ·rename_i h;subst h;simp
   ·simp
def XL{n:Int}:∀{l:List Int},vD l->vD (n4 n l)
 |[],_=>by simp[n4,vD]
 |c::l,h=>by
  obtain⟨J,U⟩:=ot.1 h;simp only[n4];split
  ·rename_i a;refine ot.2 ⟨fun m hm=>?_,XL U⟩;rcases OQ.1 hm with rfl|hm
   ·exact a
   ·exact J m hm
  ·split
   ·exact h
   ·refine ot.2 ⟨fun m hm=>?_,h⟩;rcases gJ.1 hm with rfl|hm
    ·omega
    ·have:=J m hm;omega
def XN(n:Int):∀l:List Int,(n4 n l).length<=l.length+1
 |[]=>by simp[n4]
 |c::l=>by
  have:=XN n l;simp only[n4];split
  ·simp;omega
  ·split<;>simp
def EP(l:List Int)(i:Nat):(e6 l)[i]? =(l[i]?).map (af.int .i64):=by simp[e6]
def fN(l:List Int):(e6 l).length=l.length:=by simp[e6]
def AD:∀l:List Int,b9 (e6 l)=e6 l
 |[]=>by simp[e6,b9]
 |a::l=>by have:=AD l;simp only[e6,gX,b9,b3]at this⊢;rw[this]
def Iu(l:List Int)(n:Int)(k:Nat):b9 (na k (e6 l)++af.int .i64 n::o1 k (na l.length (e6 l)))=e6 (na k l++n::o1 k l):=by
 have e:na l.length (e6 l)=e6 l:=iv (by simp[e6]);have a:na k (e6 l)++af.int .i64 n::o1 k (e6 l)=e6 (na k l++n::o1 k l):=by simp only[e6,List.map_append,gX,List.map_take,List.map_drop]
 rw[e,a];exact AD _
def asV(l:List Int)(n:Int)(H:l.length<=1000000)(F:vD l):bT au 126 [c1 (e6 l),aj n] (c1 (e6 (n4 n l))):=by
 refine bF a6 Tryz.func126 apt fun K=>?_;unfold T0;simp;refine xr [0,1] (fun(k:Nat)=>[(5,aj k)]) (fun k=>k) (fun k=>k<=l.length/\∀c,l[k]? =some c->n<=c) l.length cb ⟨Ω,fun c h=>by simp at h⟩ (fun k v _=>?_);obtain⟨ad,v⟩:=v;have B:(∀c,0<k->l[k-1]? =some c->c<n)->n4 n l=if l[k]? =some n then l else l.take k++n::l.drop k:=fun h=>XM n l k (fun i c hi ay=>by
  obtain⟨d,f⟩:∃d,l[k-1]? =some d:=⟨_,ck Ω⟩;have J:=h d Ω f;rcases Nat.lt_or_ge i (k-1)with U|U
  ·have w:=(fI.1 ay);have x:=(fI.1 f);have:=rj.1 F i (k-1) w.1 x.1 U;rw[w.2,x.2]at this;omega
  ·have:i=k-1:=Ω
   subst this;rw[f]at ay;cases ay;exact J) v ad
 have y:∀c,l[k]? =some c->∀h,((e6 l)[k]'h)=aj c:=fun c h u=>by have:=EP l k;rw[h,ck u]at this;exact eZ this
 have z:(0<k->∃d,l[k-1]? =some d/\d<n)->∀P:Prop,(n4 n l=(if l[k]? =some n then l else l.take k++n::l.drop k)->P)->P:=fun h P G=>G (B fun c A ay=>by obtain⟨d,f,J⟩:=h A;rw[f]at ay;cases ay;exact J)
 rcases Nat.eq_zero_or_pos k with A|m
 ·have s:decide ((0:Int)<k)=false:=by simp;omega
  refine z (fun h=>Ω) _ fun e=>?_;by_cases a:k<l.length
  ·obtain⟨c,ay⟩:∃c,l[k]? =some c:=⟨_,ck a⟩;have t:=y c ay;rw[ay]at e;by_cases q:c=n
   ·have r:(c==n)=true:=by simp[q]
    rw[if_pos (by rw[q])]at e;rw[e];simp[s,a];((repeat' first|refine al ?_|simp[s,a,t,r]|((first|apply cq|apply cu|apply ct)<;>intro h<;>try simp at h))<;>(try exact c0));all_goals simp[bZ,ba,be,a1]
   ·have r:(c==n)=false:=by simp[q]
    rw[if_neg (by simp[q])]at e;rw[e];simp[s,a];((repeat' first|refine al ?_|simp[s,a,t,r]|((first|apply cq|apply cu|apply ct)<;>intro h<;>try simp at h))<;>(try exact c0));all_goals simp[bZ,ba,be,a1]
    all_goals exact Iu l n k
  ·rw[rh Ω]at e;simp only[reduceCtorEq,if_false]at e;rw[e];simp[s,a];((repeat' first|refine al ?_|simp[s,a]|((first|apply cq|apply cu|apply ct)<;>intro h<;>try simp at h))<;>(try exact c0));all_goals simp[bZ,ba,be,a1]
   all_goals exact Iu l n k
 ·obtain⟨d,f⟩:∃d,l[k-1]? =some d:=⟨_,ck Ω⟩;have o:((k:Int)-1).toNat=k-1:=Ω
  have p:∀h,((e6 l)[k-1]'h)=aj d:=fun u=>by have:=EP l (k-1);rw[f,ck u]at this;exact eZ this
  have j:(0:Int)<k:=Ω
  have g:k-1<l.length:=Ω
  by_cases b:n<=d
  ·simp[m,j,o,p,b,g];(repeat' first|refine al ?_|simp[m,j,o,p,b,g]);refine bX.whl (k-1) Ω ⟨Ω,fun c ay=>by rw[f]at ay;cases ay;exact b⟩ ?_;have E:((k-1:Nat):Int)=(k:Int)-1:=Ω
   simp[E];exact cb
  ·refine z (fun _=>⟨d,f,Ω⟩) _ fun e=>?_;by_cases a:k<l.length
   ·obtain⟨c,ay⟩:∃c,l[k]? =some c:=⟨_,ck a⟩;have t:=y c ay;rw[ay]at e;by_cases q:c=n
    ·have r:(c==n)=true:=by simp[q]
     rw[if_pos (by rw[q])]at e;rw[e];simp[m,j,o,p,b,g,a];((repeat' first|refine al ?_|simp[m,j,o,p,b,g,a,t,r]|((first|apply cq|apply cu|apply ct)<;>intro h<;>try simp at h))<;>(try exact c0));all_goals simp[bZ,ba,be,a1]
    ·have r:(c==n)=false:=by simp[q]
     rw[if_neg (by simp[q])]at e;rw[e];simp[m,j,o,p,b,g,a];(repeat' first|refine al ?_|simp[m,j,o,p,b,g,a,t,r]);all_goals simp[bZ,ba,be,a1]
     all_goals exact Iu l n k
   ·rw[rh Ω]at e;simp only[reduceCtorEq,if_false]at e;rw[e];simp[m,j,o,p,b,g,a];(repeat' first|refine al ?_|simp[m,j,o,p,b,g,a]);all_goals simp[bZ,ba,be,a1]
    all_goals exact Iu l n k
def jx:T->List Int->List Int
 | .var n,l=>n4 n l
 | .pair a b,l=>jx b (jx a l)
 |_,l=>l
def Rn:∀(t:T) {l:List Int},vD l->vD (jx t l)
 | .var _,_,h=>XL h
 | .pair a b,_,h=>Rn b (Rn a h)
 | .nil,_,h=>h
 | .sym _,_,h=>h
 | .num _,_,h=>h
def I4{m:Int}:∀(t:T) {l:List Int},m∈jx t l↔t.occ m=true\/m∈l
 | .var n,l=>by simp only[jx,OQ,T.occ,eA];constructor<;>rintro(h|h)<;>first|exact .inr h|exact .inl h.symm
 | .pair a b,l=>by
  simp only[jx,I4 b,I4 a,T.occ,oo];constructor
  ·rintro(h|h|h)
   ·exact .inl (.inr h)
   ·exact .inl (.inl h)
   ·exact .inr h
  ·rintro((h|h)|h)
   ·exact .inr (.inl h)
   ·exact .inl h
   ·exact .inr (.inr h)
 | .nil,l=>by simp[jx,T.occ]
 | .sym _,l=>by simp[jx,T.occ]
 | .num _,l=>by simp[jx,T.occ]
def Gh:∀(t:T) (l:List Int),(jx t l).length<=l.length+t.size
 | .var n,l=>by have:=XN n l;simp only[jx,T.size];omega
 | .pair a b,l=>by have J:=Gh a l;have U:=Gh b (jx a l);simp only[jx,T.size];omega
 | .nil,l=>by simp[jx]
 | .sym _,l=>by simp[jx]
 | .num _,l=>by simp[jx]
def KA:∀(t:T) (l:List Int),l.length+t.size<=1000000->vD l->bT au 58 [t.e,c1 (e6 l)] (c1 (e6 (jx t l)))
 | .var n,l,d,c=>by
  simp only[T.size]at d;have key:=asV l n Ω c;refine bF a6 Tryz.func58 Fu fun e=>?_;unfold A4;simp;(repeat' first|refine al ?_|refine aO key ?_|refine aP key ?_|simp);all_goals simp[bZ,ba,be,a1]
  all_goals simp[jx,AD]
 | .pair a b,l,d,c=>by
  simp only[T.size]at d;have j:=Gh a l;have g:=KA a l Ω c;have f:=KA b (jx a l) Ω (Rn a c);refine bF a6 Tryz.func58 Fu fun e=>?_;unfold A4;simp;refine e1 [15,16] (fun i (_:Unit)=>[(1,c1 (e6 (if i=0 then l else if i=1 then jx a l else jx b (jx a l)))),(17,aj i)]) 2 (fun _ _=>True) () cb trivial (fun _ _ _=>?_) (fun i _ hi _ _=>?_)
  ·simp;(repeat' first|refine al ?_|simp);simp[bZ,ba,be,a1];simp[jx,AD]
  ·rcases(by omega:i=0\/i=1)with rfl|rfl
   ·simp;((repeat' first|refine al ?_|refine aO g ?_|refine aP g ?_|simp|((first|apply cq|apply cu|apply ct)<;>intro h<;>try simp at h))<;>(try exact c0));exact bX.rng () hi trivial cb
   ·simp;((repeat' first|refine al ?_|refine aO f ?_|refine aP f ?_|simp|((first|apply cq|apply cu|apply ct)<;>intro h<;>try simp at h))<;>(try exact c0));exact bX.rng () hi trivial cb
 | .nil,l,d,c=>by refine bF a6 Tryz.func58 Fu fun e=>?_;unfold A4;simp;refine e1 [15,16] (fun i (_:Unit)=>[(1,c1 (e6 l)),(17,aj i)]) 0 (fun _ _=>True) () cb trivial (fun _ _ _=>?_) (fun i _ hi _ _=>Ω);simp;((repeat' first|refine al ?_|simp|((first|apply cq|apply cu|apply ct)<;>intro h<;>try simp at h))<;>(try exact c0));simp[bZ,ba,be,a1];simp[jx,AD]
 | .sym _,l,d,c=>by refine bF a6 Tryz.func58 Fu fun e=>?_;unfold A4;simp;refine e1 [15,16] (fun i (_:Unit)=>[(1,c1 (e6 l)),(17,aj i)]) 0 (fun _ _=>True) () cb trivial (fun _ _ _=>?_) (fun i _ hi _ _=>Ω);simp;(repeat' first|refine al ?_|simp);simp[bZ,ba,be,a1];simp[jx,AD]
 | .num _,l,d,c=>by refine bF a6 Tryz.func58 Fu fun e=>?_;unfold A4;simp;refine e1 [15,16] (fun i (_:Unit)=>[(1,c1 (e6 l)),(17,aj i)]) 0 (fun _ _=>True) () cb trivial (fun _ _ _=>?_) (fun i _ hi _ _=>Ω);simp;(repeat' first|refine al ?_|simp);simp[bZ,ba,be,a1];simp[jx,AD]
def amm(s:List cV)(a b:T)(i:Nat)(_:Unit):Prop:=(1<=i->a.has s=false)/\(2<=i->b.has s=false)
def Rh(s:List cV):∀t:T,bT au 210 [t.e,.str s] (.bool (t.has s))
 | .pair a b=>by
  have e:=Rh s a;have d:=Rh s b;refine bF a6 Tryz.func210 Fv fun j=>?_;unfold A5;simp;refine e1 [1,2,8,9] (fun i (_:Unit)=>[(10,aj i)]) 2 (amm s a b) () cb ⟨fun h=>Ω,fun h=>Ω⟩ (fun _ c _=>?_) (fun i _ hi c _=>?_)
  ·simp;(repeat' first|refine al ?_|simp);simp[bZ,ba,be,a1];simp[T.has,c.1,c.2]
  ·rcases(by omega:i=0\/i=1)with rfl|rfl
   ·cases f:a.has s
    ·rw[f]at e;simp;((repeat' first|refine al ?_|refine aO e ?_|refine aP e ?_|simp|((first|apply cq|apply cu|apply ct)<;>intro h<;>try simp at h))<;>(try exact c0));exact bX.rng () hi ⟨fun _=>f,fun h=>Ω⟩ cb
    ·rw[f]at e;simp;((repeat' first|refine al ?_|refine aO e ?_|refine aP e ?_|simp|((first|apply cq|apply cu|apply ct)<;>intro h<;>try simp at h))<;>(try exact c0));simp[bZ,ba,be,a1];simp[T.has,f]
   ·cases g:b.has s
    ·rw[g]at d;simp;((repeat' first|refine al ?_|refine aO d ?_|refine aP d ?_|simp|((first|apply cq|apply cu|apply ct)<;>intro h<;>try simp at h))<;>(try exact c0));exact bX.rng () hi ⟨fun _=>c.1 Ω,fun _=>g⟩ cb
    ·rw[g]at d;simp;((repeat' first|refine al ?_|refine aO d ?_|refine aP d ?_|simp|((first|apply cq|apply cu|apply ct)<;>intro h<;>try simp at h))<;>(try exact c0));simp[bZ,ba,be,a1];simp[T.has,g]
 | .sym n=>by
  refine bF a6 Tryz.func210 Fv fun j=>?_;unfold A5;simp;refine e1 [1,2,8,9] (fun i (_:Unit)=>[(10,aj i)]) 0 (fun i _=>True) () cb trivial (fun _ c _=>?_) (fun i _ hi c _=>Ω);simp;(repeat' first|refine al ?_|simp);all_goals simp[bZ,ba,be,a1]
  all_goals simp[T.has]
 | .num n=>by
  refine bF a6 Tryz.func210 Fv fun j=>?_;unfold A5;simp;refine e1 [1,2,8,9] (fun i (_:Unit)=>[(10,aj i)]) 0 (fun i _=>True) () cb trivial (fun _ c _=>?_) (fun i _ hi c _=>Ω);simp;(repeat' first|refine al ?_|simp);all_goals simp[bZ,ba,be,a1]
  all_goals simp[T.has]
 | .var n=>by
  refine bF a6 Tryz.func210 Fv fun j=>?_;unfold A5;simp;refine e1 [1,2,8,9] (fun i (_:Unit)=>[(10,aj i)]) 0 (fun i _=>True) () cb trivial (fun _ c _=>?_) (fun i _ hi c _=>Ω);simp;(repeat' first|refine al ?_|simp);all_goals simp[bZ,ba,be,a1]
  all_goals simp[T.has]
 | .nil=>by
  refine bF a6 Tryz.func210 Fv fun j=>?_;unfold A5;simp;refine e1 [1,2,8,9] (fun i (_:Unit)=>[(10,aj i)]) 0 (fun i _=>True) () cb trivial (fun _ c _=>?_) (fun i _ hi c _=>Ω);simp;(repeat' first|refine al ?_|simp);all_goals simp[bZ,ba,be,a1]
  all_goals simp[T.has]
def qj(l:List bJ)(o:Option (List bJ)):af:= .tuple [b5 ((o.getD l).map bJ.e),.bool o.isSome]
@[simp]def awF(S:aB->Prop)(l:List bJ)(o:Option (List bJ)):aA S (qj l o)=True:=by simp[qj]
def x3(l:List bJ)(n:Int)(i:Nat):Prop:=i<=l.length/\∀j y,j<i->l[j]? =some y->y.v<n
def x3.none{l:List bJ}{n:Int}{i:Nat}(h:x3 l n i)(d:l.Pairwise fun x y=>x.v<y.v)(ay:∀c,l[i]? =some c->n<c.v):nD l n=none:=E1.2 fun x f=>by
 obtain⟨j,a,rfl⟩:=pM f;have e:=ck a;rcases Nat.lt_or_ge j i with J|J
 ·have:=h.2 j _ J e;omega
 ·have b:i<l.length:=Ω
  have g:=ck b;have k:=ay _ g;rcases Nat.lt_or_ge i j with U|U
  ·have:=rj.1 d i j b a U;omega
  ·obtain rfl:i=j:=Ω
   omega
def x3.ins{l:List bJ}{n k:Int}{i:Nat}(h:x3 l n i)(ay:∀c,l[i]? =some c->n<c.v):nB ⟨n,k⟩ l=l.take i++⟨n,k⟩::l.drop i:=XO ⟨n,k⟩ l i (fun j y J U=>h.2 j y J U) (fun y a=>by have:=ay y a;simp;omega) h.1
def x3.step{l:List bJ}{n:Int}{i:Nat}{b:bJ}(h:x3 l n i)(a:l[i]? =some b)(c:b.v<n):x3 l n (i+1):=⟨(fI.1 a).1,fun j y J U=>by
 rcases(by omega:j<i\/j=i)with d|rfl
 ·exact h.2 j y d U
 ·rw[a]at U;cases U;exact c⟩
def ata(l:List bJ)(r:l.length<=1000000)(f:l.Pairwise fun x y=>x.v<y.v)(n k:Int):bT au 151 [b5 (l.map bJ.e),(T.var n).e,aj k] (qj l (k7 l (.var n) k)):=by
 generalize o:k7 l (.var n) k=O;have a:(match nD l n with|some bs=>if bs=k then some l else none|none=>some (nB ⟨n,k⟩ l))=O:=by rw[<-o];rfl
 clear o;refine bF a6 Tryz.func151 Fw fun s=>?_;unfold A6;simp;refine xr [0,2,4] (fun(i:Nat)=>[(8,aj i)]) (fun i=>l.length-i) (x3 l n) 0 cb ⟨Ω,fun j y h=>Ω⟩ (fun i d _=>?_);have ad:=d.1;by_cases hi:i<l.length
 ·obtain⟨b,m,g⟩:=eV hi;rcases Int.lt_trichotomy b.v n with h|h|h
  ·have p:=d.step m h;clear a d m f;simp[hi,g,h];((repeat' first|refine al ?_|simp[hi,g,h]|((first|apply cq|apply cu|apply ct)<;>intro h<;>try simp at h))<;>(try exact c0));exact bX.whl (i+1) Ω p cb
  ·have bd:nD l n=some b.k:=by rw[<-h];exact Oi f (fx m)
   have J:¬b.v<n:=Ω
   have U:(b.v==n)=true:=by simp[h]
   rw[bd]at a;simp only at a;subst a;clear d m f bd;simp[hi,g,J,U];(repeat' first|refine al ?_|simp[hi,g,J,U]);all_goals simp[bZ,ba,be,a1]
   all_goals(by_cases e:b.k=k<;>simp[qj,e])
  ·have J:¬b.v<n:=Ω
   have U:(b.v==n)=false:=by simp;omega
   have ay:∀c,l[i]? =some c->n<c.v:=fun c ay=>by rw[m]at ay;cases ay;exact h
   rw[d.none f ay]at a;simp only[d.ins ay]at a;subst a;clear d m f ay;simp[hi,g,J,U];(repeat' first|refine al ?_|simp[hi,g,J,U]);all_goals simp[bZ,ba,be,a1]
   all_goals simp[qj]
   rw[iv (by simp:(l.map bJ.e).length<=l.length),<-List.map_take,<-List.map_drop,<-gX,<-List.map_append];exact QN _
 ·have ay:∀c,l[i]? =some c->n<c.v:=fun c ay=>by rw[rh Ω]at ay;cases ay
  rw[d.none f ay]at a;simp only[d.ins ay]at a;have q:i=l.length:=Ω
  clear d f ay;subst a;subst q;simp;(repeat' first|refine al ?_|simp);all_goals simp[bZ,ba,be,a1]
  all_goals simp[qj]
  rw[iv (by simp:(l.map bJ.e).length<=l.length),show [(⟨n,k⟩:bJ).e]=[(⟨n,k⟩:bJ)].map bJ.e from rfl,<-List.map_append];exact QN _
def adn(l:List bJ)(f:l.length<=1000000)(d:l.Pairwise fun x y=>x.v<y.v)(t:T)(k:Int):bT au 151 [b5 (l.map bJ.e),t.e,aj k] (qj l (k7 l t k)):=by
 cases t with
 |var n=>exact ata l f d n k
 |nil=>
  refine bF a6 Tryz.func151 Fw fun c=>?_;unfold A6;simp;(repeat' first|refine al ?_|simp);all_goals simp[bZ,ba,be,a1]
  all_goals(by_cases e:0=k<;>simp[qj,k7,e])
 |sym n=>
  refine bF a6 Tryz.func151 Fw fun c=>?_;unfold A6;simp;(repeat' first|refine al ?_|simp);all_goals simp[bZ,ba,be,a1]
  all_goals(by_cases e:2=k<;>simp[qj,k7,e])
 |num n=>
  refine bF a6 Tryz.func151 Fw fun c=>?_;unfold A6;simp;(repeat' first|refine al ?_|simp);all_goals simp[bZ,ba,be,a1]
  all_goals(by_cases e:3=k<;>simp[qj,k7,e])
 |pair a b=>
  refine bF a6 Tryz.func151 Fw fun c=>?_;unfold A6;simp;(repeat' first|refine al ?_|simp);all_goals simp[bZ,ba,be,a1]
  all_goals(by_cases e:4=k<;>simp[qj,k7,e])
def adC(s:List Bd)(v:Int):ig s (.var v)=cR s v:=rfl
def Ri{s:List Bd}(m:e3 s){l:List bJ}(k:jN l):bT au 149 [bH (s.map Bd.e),b5 (l.map bJ.e)] (q6 (gU s l [])):=by
 have o:=tM k;refine bF a6 Tryz.func149 apL fun p=>?_;unfold Ui;simp;refine e1 [0,11,12] (fun i (a:List bJ)=>[(6,b5 (a.map bJ.e)),(13,aj i)]) l.length (XT s l) [] cb ⟨⟨Ψ,Ψ⟩,rfl⟩ (fun a c _=>?_) (fun i a hi c _=>?_)
 ·obtain⟨_,c⟩:=c;rw[List.drop_length]at c;simp only[gU]at c;rw[<-c];simp;(repeat' first|refine al ?_|simp);simp[bZ,ba,be,a1];simp[q6]
 ·obtain⟨h,c⟩:=c;obtain⟨b,n,f⟩:=eV hi;have j:=k.at' b (fx n);rw[lJ hi,f]at c;simp only[gU]at c;have e:=KB s m.len (.var b.v);rw[adC]at e;have d:=adn a (by have:=tM h;omega) h.asc (cR s b.v) b.k;simp[hi,f];cases g:k7 a (cR s b.v) b.k with
  |none=>rw[g]at c d;simp only at c;rw[<-c];simp only[qj]at d;(repeat' first|refine al ?_|refine aO (k5 _) ?_|refine aP (k5 _) ?_|refine aO e ?_|refine aP e ?_|refine aO d ?_|refine aP d ?_|simp[f,hi]);simp[bZ,ba,be,a1];simp[q6]
  |some bp=>rw[g]at c d;simp only[qj]at d;(repeat' first|refine al ?_|refine aO (k5 _) ?_|refine aP (k5 _) ?_|refine aO e ?_|refine aP e ?_|refine aO d ?_|refine aP d ?_|simp[f,hi]);exact bX.rng bp hi ⟨K4 h (CZ m j.1) j.2 g,c⟩ cb
open Classical in
def atv(l:List bn):bT au 79 [b5 (l.map bn.e)] (.bool (decide (iT l))):=by
 generalize br:decide (iT l)=R;refine bF a6 Tryz.func79 apm fun y=>?_;unfold TU;have A:l.length<=68719476736:=by simp[eK,eU,eM,lim]at y;omega
 simp;refine e1 [0,5,6] (fun i (_:Unit)=>[(7,aj i)]) l.length (fun i _=> ∀j,j<i->jd k0 lx l j) () cb (fun k ad=>Ω) (fun _ s _=>?_) (fun i _ hi s _=>?_)
 ·have:R=true:=by rw[<-br,gn,IZ];exact s
  rw[this];exact cn
 ·obtain⟨b,n⟩:∃b,l[i]? =some b:=⟨_,ck hi⟩;obtain⟨c,ay⟩:∃c,l[i-1]? =some c:=⟨_,ck Ω⟩;have d:∀h,(l[i]'h)=b:=fun h=>by rw[ck hi]at n;exact eZ n
  have v:¬jd k0 lx l i->R=false:=fun h=>by rw[<-br,iN];exact fun w=>h (IZ.1 w i hi)
  have dx:jd k0 lx l i->∀j,j<i+1->jd k0 lx l j:=fun h j z=>by
   by_cases e:j=i
   ·rw[e];exact h
   ·exact s j Ω
  have m:∀p:Prop,(p->eb)->(jd k0 lx l i->p)->R=false:=fun p J U=>v fun h=>J (U h);have g:jd k0 lx l i->k0 b:=fun h=>(h b n).1;have x:jd k0 lx l i->0<i->iL gf c b=true:=fun h r=>by simpa[iL,lx]using(h b n).2 c r ay
  have o:k0 b->(0<i->iL gf c b=true)->jd k0 lx l i:=fun J U b0 u=>by rw[n]at u;cases u;exact⟨J,fun B r t=>by rw[ay]at t;cases t;simpa[iL,lx]using U r⟩
  unfold k0 at g o;by_cases g4:0<i
  ·cases g5:iL gf c b
   ·rw[m _ (fun h=>by rw[h]at g5;cases g5) (fun h=>x h g4)];simp[hi,d,ay];(repeat' first|refine al ?_|refine aO (mY _ _) ?_|refine aP (mY _ _) ?_|simp[d,ay,hi,g4,g5]);all_goals simp[bZ,ba,be,a1]
   ·by_cases g1:0<=b.v/\b.v<=100000;rotate_left
    ·rw[m _ (fun h=>g1 h) (fun h=>(g h).1)];have f:decide (0<=b.v/\b.v<=100000)=false:=by simp only[iN];exact g1
     simp[hi,d,ay];(repeat' first|refine al ?_|refine aO (mY _ _) ?_|refine aP (mY _ _) ?_|refine aO (dU _ _ _) ?_|refine aP (dU _ _ _) ?_|simp[d,ay,hi,g4,g5,f,g1]);all_goals simp[bZ,ba,be,a1]
    have f:decide (0<=b.v/\b.v<=100000)=true:=by simp only[gn];exact g1
    cases g3:kt b.s
    ·rw[m _ (fun h=>by rw[h]at g3;cases g3) (fun h=>(g h).2)];have a:=h0 b.s;rw[g3]at a;simp[hi,d,ay];(repeat' first|refine al ?_|refine aO (mY _ _) ?_|refine aP (mY _ _) ?_|refine aO (dU _ _ _) ?_|refine aP (dU _ _ _) ?_|refine aO a ?_|refine aP a ?_|simp[d,ay,hi,g4,g5,f,g1]);all_goals simp[bZ,ba,be,a1]
    have a:=h0 b.s;rw[g3]at a;have q:=dx (o ⟨g1,g3⟩ fun _=>g5);simp[hi,d,ay];(repeat' first|refine al ?_|refine aO (mY _ _) ?_|refine aP (mY _ _) ?_|refine aO (dU _ _ _) ?_|refine aP (dU _ _ _) ?_|refine aO a ?_|refine aP a ?_|simp[d,ay,hi,g4,g5,f,g1]);all_goals exact bX.rng () hi q cb
  ·obtain rfl:i=0:=Ω
   by_cases g1:0<=b.v/\b.v<=100000;rotate_left
   ·rw[m _ (fun h=>g1 h) (fun h=>(g h).1)];have f:decide (0<=b.v/\b.v<=100000)=false:=by simp only[iN];exact g1
    simp[hi,d,ay];(repeat' first|refine al ?_|refine aO (mY _ _) ?_|refine aP (mY _ _) ?_|refine aO (dU _ _ _) ?_|refine aP (dU _ _ _) ?_|simp[d,ay,hi,g4,f,g1]);all_goals simp[bZ,ba,be,a1]
   have f:decide (0<=b.v/\b.v<=100000)=true:=by simp only[gn];exact g1
   cases g3:kt b.s
   ·rw[m _ (fun h=>by rw[h]at g3;cases g3) (fun h=>(g h).2)];have a:=h0 b.s;rw[g3]at a;simp[hi,d,ay];(repeat' first|refine al ?_|refine aO (mY _ _) ?_|refine aP (mY _ _) ?_|refine aO (dU _ _ _) ?_|refine aP (dU _ _ _) ?_|refine aO a ?_|refine aP a ?_|simp[d,ay,hi,g4,f,g1]);all_goals simp[bZ,ba,be,a1]
   have a:=h0 b.s;rw[g3]at a;have q:=dx (o ⟨g1,g3⟩ fun h=>absurd h g4);simp[hi,d,ay];(repeat' first|refine al ?_|refine aO (mY _ _) ?_|refine aP (mY _ _) ?_|refine aO (dU _ _ _) ?_|refine aP (dU _ _ _) ?_|refine aO a ?_|refine aP a ?_|simp[d,ay,hi,g4,f,g1]);all_goals exact bX.rng () hi q cb
def qI(s:List cV)(bk:List Int)(l:List bn):List bn:=bk.foldl (fun a v=>kY gf ⟨v,s⟩ a) l
def MD(s:List cV):∀(bk:List Int) {l:List bn},iO gf l->iO gf (qI s bk l)
 |[],_,h=>h
 |v::bk,_,h=>MD s bk (N3 mU h)
def Y2(s:List cV){x:bn}:∀(bk:List Int) {l:List bn},x∈qI s bk l↔x∈l\/(x.s=s/\x.v∈bk)
 |[],l=>by simp[qI]
 |v::bk,l=>by
  have:=Y2 s (x:=x) bk (l:=kY gf ⟨v,s⟩ l);rw[show qI s (v::bk) l=qI s bk (kY gf ⟨v,s⟩ l)from rfl,this,I2 mU,gJ];constructor
  ·rintro((rfl|h)|⟨J,U⟩)
   ·exact .inr ⟨rfl,.inl rfl⟩
   ·exact .inl h
   ·exact .inr ⟨J,.inr U⟩
  ·rintro(h|⟨J,U|U⟩)
   ·exact .inl (.inr h)
   ·refine .inl (.inl ?_);cases x;simp_all
   ·exact .inr ⟨J,U⟩
def VU(s:List cV):∀(bk:List Int) (l:List bn),(qI s bk l).length<=l.length+bk.length
 |[],l=>by simp[qI]
 |v::bk,l=>by have J:=VU s bk (kY gf ⟨v,s⟩ l);have U:=N5 (c:=gf) (⟨v,s⟩:bn) l;rw[show qI s (v::bk) l=qI s bk (kY gf ⟨v,s⟩ l)from rfl];simp only[mZ];omega
def aiW{t:T}{s:List cV}(a:t.has s=false){l:List bn}(b:iO gf l):nh l t s=some (qI s (jx t []) l):=K5 a (MD s _ b) fun x=>by rw[Y2,I4];simp
def EU(l:List bn)(bk:List Int)(s:List cV)(i:Nat)(a:List bn):Prop:=a=qI s (bk.take i) l
def B1(a:List bn)(m:bn)(k:Nat):Prop:=k<=a.length/\∀j y,j<k->a[j]? =some y->gf y m<0
def B1.step{a:List bn}{m:bn}{k:Nat}{b:bn}(h:B1 a m k)(c:a[k]? =some b)(d:gf b m<0):B1 a m (k+1):=⟨(fI.1 c).1,fun j y J U=>by
 rcases(by omega:j<k\/j=k)with e|rfl
 ·exact h.2 j y e U
 ·rw[c]at U;cases U;exact d⟩
def B1.fin{a:List bn}{m:bn}{k:Nat}(h:B1 a m k)(ay:∀y,a[k]? =some y->0<=gf y m):kY gf m a=if(match a[k]? with|some y=>decide (gf y m=0)|none=>false)=true then a else a.take k++m::a.drop k:=(N4 mU m a k (fun j y J U=>h.2 j y J U) ay h.1).trans (by cases a[k]?<;>rfl)
def Zi(a:List bn)(k:Nat)(m:bn):na k (a.map bn.e)++m.e::o1 k (a.map bn.e)=(a.take k++m::a.drop k).map bn.e:=Ψ
def Cn(a:List bn)(k:Nat)(m:bn):b9 (na k (a.map bn.e)++m.e::o1 k (a.map bn.e))=na k (a.map bn.e)++m.e::o1 k (a.map bn.e):=by rw[Zi,QO]
def Cm(S:aB->Prop)(a:List bn)(k:Nat)(m:bn):aH S (na k (a.map bn.e)++m.e::o1 k (a.map bn.e))=True:=by rw[Zi,Yr]
def Zf(a:List bn)(m:bn):a.map bn.e++[m.e]=(a++[m]).map bn.e:=Ψ
def Cl(a:List bn)(m:bn):b9 (a.map bn.e++[m.e])=a.map bn.e++[m.e]:=by rw[Zf,QO]
def Ck(S:aB->Prop)(a:List bn)(m:bn):aH S (a.map bn.e++[m.e])=True:=by rw[Zf,Yr]
def atb(l:List bn)(W:l.length<=68719470000)(t:T)(X:t.size<=5000)(s:List cV)(J:iO gf l):bT au 181 [b5 (l.map bn.e),t.e,.str s] (j3 (nh l t s)):=by
 have g:=Rh s t;cases p:t.has s;rotate_left
 ·have r:nh l t s=none:=by simp[nh,p]
  rw[r];rw[p]at g;refine bF a6 Tryz.func181 Z9 fun R=>?_;unfold LS;simp;(repeat' first|refine al ?_|refine aO g ?_|refine aP g ?_|simp);all_goals simp[bZ,ba,be,a1]
  all_goals simp[j3]
 ·rw[p]at g;have H:=aiW p J;have E:=Gh t [];have x:=KA t [] d6 (by simp[vD]);have S:e6 []=[]:=rfl;rw[S]at x;rw[H];clear H p;generalize jx t []=bk at x E⊢;have V:bk.length<=5000:=by simp at E;omega
  generalize G:qI s bk l=F;refine bF a6 Tryz.func181 Z9 fun R=>?_;unfold LS;simp;(repeat' first|refine al ?_|refine aO g ?_|refine aP g ?_|refine aO x ?_|refine aP x ?_|simp[fN]);refine e1 [2,17,18] (fun i (a:List bn)=>[(0,b5 (a.map bn.e)),(19,aj i)]) bk.length (EU l bk s) l ⟨by simp[fresh,aH,aA,cd,aM,ae,fN],ep f9,er gc,Ψ⟩ (by simp[EU,qI]) (fun a c _=>?_) (fun i a hi c _=>?_)
  ·rw[EU,jA,G]at c;subst c;simp[fN];(repeat' first|refine al ?_|simp[fN]);all_goals simp[bZ,ba,be,a1]
   all_goals simp[j3]
  ·obtain⟨v,K⟩:∃v,bk[i]? =some v:=⟨_,ck hi⟩;have B:∀h,((e6 bk)[i]'h)=aj v:=fun P=>by have:=EP bk i;rw[K,ck P]at this;exact eZ this
   have w:iO gf a:=by rw[c];exact MD s _ J
   have N:a.length<=68719475000:=by have:=VU s (bk.take i) l;rw[c];simp at this⊢;omega
   have e:EU l bk s (i+1) (kY gf ⟨v,s⟩ a):=by rw[EU,List.take_succ,K,c];simp[qI]
   generalize hm:(⟨v,s⟩:bn)=m at e;have A:m.v=v:=by rw[<-hm]
   have U:m.s=s:=by rw[<-hm]
   subst A;subst U;clear c G;simp[hi,B,fN];(repeat' first|refine al ?_|simp[hi,B,fN]);refine xr [0,2,10,17,18,19] (fun(k:Nat)=>[(11,aj k)]) (fun k=>a.length-k) (B1 a m) 0 ⟨by simp[fresh,aH,aA,cd,aM,ae,fN],ep f9,er gc,Ψ⟩ ⟨Ω,fun j y h=>Ω⟩ (fun k c _=>?_);have ad:=c.1;by_cases f:k<a.length
   ·obtain⟨b,o,n⟩:=eV f;cases q:iL gf b m
    ·have M:0<=gf b m:=by simpa[iL]using q
     have d:=c.fin (fun y u=>by rw[o]at u;cases u;exact M);rw[o]at d;cases z:iL gf m b
     ·have hle:0<=gf m b:=by simpa[iL]using z
      have r:gf b m=0:=by have:=mU.neg b m;omega
      rw[if_pos (by simp[r])]at d;rw[d]at e;clear c o d N w;simp[f,n];((repeat' first|refine al ?_|refine aO (mY _ _) ?_|refine aP (mY _ _) ?_|simp[f,n,q,z]|((first|apply cq|apply cu|apply ct)<;>intro h<;>try simp at h))<;>(try exact c0));all_goals exact bX.rng a hi e ⟨by simp[fresh,aH,aA,cd,aM,ae,fN],ep f9,er gc,Ψ⟩
     ·have hle:gf m b<0:=by simpa[iL]using z
      have r:¬gf b m=0:=by have:=mU.neg b m;omega
      rw[if_neg (by simp[r])]at d;rw[d]at e;clear c o d w;simp[f,n];((repeat' first|refine al ?_|refine aO (mY _ _) ?_|refine aP (mY _ _) ?_|simp[f,n,q,z]|((first|apply cq|apply cu|apply ct)<;>intro h<;>try simp at h))<;>(try exact c0));all_goals try refine⟨by unfold lim;omega,?_⟩
      all_goals(repeat' first|refine al ?_|simp)
      all_goals try refine⟨by unfold lim;omega,?_⟩
      all_goals((repeat' first|refine al ?_|simp|((first|apply cq|apply cu|apply ct)<;>intro h<;>try simp at h))<;>(try exact c0))
      all_goals exact bX.rng _ hi e ⟨by simp[fresh,aH,aA,cd,aM,ae,fN,iv,Cn,Cm,Cl,Ck],ep (by simp[fresh,aH,aA,cd,aM,ae,fN,iv,Cn,Cm,Cl,Ck]),er (by simp[fresh,aH,aA,dW,aM,ae,fN,iv,Cn,Cm,Cl,Ck]),Ψ⟩
    ·have L:gf b m<0:=by simpa[iL]using q
     have Q:=c.step o L;clear c o w e;simp[f,n];((repeat' first|refine al ?_|refine aO (mY _ _) ?_|refine aP (mY _ _) ?_|simp[f,n,q]|((first|apply cq|apply cu|apply ct)<;>intro h<;>try simp at h))<;>(try exact c0));all_goals exact bX.whl (k+1) Ω Q ⟨by simp[fresh,aH,aA,cd,aM,ae,fN],ep f9,er gc,Ψ⟩
   ·have d:=c.fin (fun y u=>by rw[rh Ω]at u;cases u);rw[rh Ω]at d;simp only[hU,if_false]at d;rw[d]at e;have O:k=a.length:=Ω
    clear c d w;subst O;simp;(repeat' first|refine al ?_|simp);all_goals try refine⟨by unfold lim;omega,?_⟩
    all_goals(repeat' first|refine al ?_|simp)
    all_goals try refine⟨by unfold lim;omega,?_⟩
    all_goals(repeat' first|refine al ?_|simp)
    all_goals exact bX.rng _ hi e ⟨by simp[fresh,aH,aA,cd,aM,ae,fN,iv,Cn,Cm,Cl,Ck],ep (by simp[fresh,aH,aA,cd,aM,ae,fN,iv,Cn,Cm,Cl,Ck]),er (by simp[fresh,aH,aA,dW,aM,ae,fN,iv,Cn,Cm,Cl,Ck]),Ψ⟩
def Rj{s:List Bd}(j:e3 s){l:List bn}(m:iT l){G:List (List cV)}(t:G.length<=687000)(bd:oX G l):bT au 150 [bH (s.map Bd.e),b5 (l.map bn.e)] (j3 (ha s l [])):=by
 have hlen:∀{a:List bn},iT a->oX G a->a.length<=68719470000:=fun J U=>by have:=E9 J U;omega
 have r:=hlen m bd;refine bF a6 Tryz.func150 apM fun u=>?_;unfold Uj;simp;refine e1 [0,11,12] (fun i (a:List bn)=>[(6,b5 (a.map bn.e)),(13,aj i)]) l.length (XU s G l) [] cb ⟨⟨Ψ,by simp[iO]⟩,fun x p=>by simp at p,rfl⟩ (fun a c _=>?_) (fun i a hi c _=>?_)
 ·obtain⟨_,_,c⟩:=c;rw[List.drop_length]at c;simp only[ha]at c;rw[<-c];simp;(repeat' first|refine al ?_|simp);simp[bZ,ba,be,a1];simp[j3]
 ·obtain⟨h,o,c⟩:=c;obtain⟨b,n,g⟩:=eV hi;have k:=m.at' b (fx n);have q:=bd b (fx n);rw[lJ hi,g]at c;simp only[ha]at c;have e:=KB s j.len (.var b.v);rw[adC]at e;have d:=atb a (hlen h o) (cR s b.v) (FZ j b.v) b.s h.asc;simp[hi,g];cases f:nh a (cR s b.v) b.s with
  |none=>rw[f]at c d;simp only at c;rw[<-c];simp only[j3]at d;(repeat' first|refine al ?_|refine aO (k5 _) ?_|refine aP (k5 _) ?_|refine aO e ?_|refine aP e ?_|refine aO d ?_|refine aP d ?_|simp[g,hi]);simp[bZ,ba,be,a1];simp[j3]
  |some bp=>rw[f]at c d;simp only[j3]at d;(repeat' first|refine al ?_|refine aO (k5 _) ?_|refine aP (k5 _) ?_|refine aO e ?_|refine aP e ?_|refine aO d ?_|refine aP d ?_|simp[g,hi]);exact bX.rng bp hi ⟨K6 h (CZ j k.1) k.2 f,K7 o q f,c⟩ cb
def ar0{s:List Bd}(aq:rS s)(b:jB s)(c:iw s):hA (s.map Bd.b)=s.all (nP s):=by
 rw[rf,j5,sQ,<-acg b];constructor
 ·rintro⟨d,J,U,a,e⟩;rw[xc J];exact a
 ·intro a;exact⟨s,rfl,aq,a,c⟩
def aeE{s:List Bd}(a:jB s)(b:Bd):nP s b=true↔(∀v∈jx b.t [],dG s v=none)/\(b.t.kind==1&&decide (b.v<=b.t.int))=false:=by unfold nP;rw[cO,VV a];simp only[true_and,r4,I4,List.not_mem_nil,or_false]
def ET(s:List Bd)(bk:List Int)(i:Nat)(_:Unit):Prop:= ∀v∈bk.take i,dG s v=none
def ET.step{s:List Bd}{bk:List Int}{i:Nat}(h:ET s bk i ()){v:Int}(b:bk[i]? =some v)(a:dG s v=none):ET s bk (i+1) ():=fun w hw=>by
 rw[List.take_succ,b]at hw;simp only[jT,Option.toList_some,List.mem_singleton]at hw;rcases hw with hw|rfl
 ·exact h w hw
 ·exact a
def Rl(l:List Bt):bT au 76 [bH (l.map Bt.e)] (.bool (hA l)):=by
 have a:=as0 l;by_cases h:AS l;rotate_left
 ·have G:hA l=false:=by unfold hA;simp only[iN];rintro⟨s,J,U,H,K⟩;exact h (KF.2 ⟨s,J,U,H.asc,K⟩)
  rw[G];refine bF a6 Tryz.func76 Z8 fun L=>?_;unfold LR;exact cn
 ·obtain⟨s,rfl,aq,E,A⟩:=KF.1 h;have F:s.length<=1000000:=by have:=A.1;omega
  rw[ar0 aq E A];rw[zZ]at a⊢;simp only[h,decide_true]at a;clear h;generalize br:s.all (nP s)=R;refine bF a6 Tryz.func76 Z8 fun L=>?_;unfold LR;simp;(repeat' first|refine al ?_|refine aO a ?_|refine aP a ?_|simp);refine e1 [0,12,13] (fun i (_:Unit)=>[(14,aj i)]) s.length (qX (nP s) s) () cb (fun k b ad=>Ω) (fun _ d _=>?_) (fun i _ hi d _=>?_)
  ·have:R=true:=by rw[<-br,j5];intro b r;obtain⟨k,ad,e⟩:=pM r;exact d k b ad (by rw[ck ad,e])
   rw[this];exact cn
  ·obtain⟨b,r,y⟩:=eV hi;have m:¬nP s b=true->R=false:=fun h=>by rw[<-br,Bool.eq_false_iff];intro q;rw[j5]at q;exact h (q b (fx r))
   have n:nP s b=true->qX (nP s) s (i+1) ():=fun h=>d.step r h;have u:=aeE E b;have O:=A.2 b (fx r);have w:=Gh b.t [];have p:=KA b.t [] d6 (by simp[vD]);have M:e6 []=[]:=rfl;rw[M]at p;generalize jx b.t []=bk at p w u;have N:bk.length<=5000:=by simp at w;omega
   rw[u]at m n;clear u d w r;simp[hi,y];cases ad:(b.t.kind==1&&decide (b.v<=b.t.int));rotate_left
   ·rw[m (by rw[ad];simp)];rw[cO]at ad;have t:=ad.1;have B:b.v<=b.t.int:=of_decide_eq_true ad.2;exact cn
   ·rw[ad]at m n;simp only[jb]at m n;cases t:(b.t.kind==1)
    ·clear ad;(repeat' first|refine al ?_|refine aO p ?_|refine aP p ?_|simp[y,hi,fN,t]);refine e1 [0,12,13,14,32,33] (fun j (_:Unit)=>[(34,aj j)]) bk.length (ET s bk) () ⟨by simp[fresh,aH,aA,cd,aM,ae,fN],ep f9,er gc,Ψ⟩ (fun v a=>by simp at a) (fun _ d _=>?_) (fun j _ g d _=>?_)
     ·have bd:=n (fun v a=>d v (by rwa[jA]));simp[fN];(repeat' first|refine al ?_|simp[fN]);exact bX.rng () hi bd ⟨by simp[fresh,aH,aA,cd,aM,ae,fN],ep f9,er gc,Ψ⟩
     ·obtain⟨v,a⟩:∃v,bk[j]? =some v:=⟨_,ck g⟩;have o:∀h,((e6 bk)[j]'h)=aj v:=fun q=>by have:=EP bk j;rw[a,ck q]at this;exact eZ this
      have c:=w9 s v F;cases f:dG s v with
      |none=>have z:=d.step a f;rw[f]at c;simp only[my,k6]at c;clear d n m f;simp[g,o,fN];(repeat' first|refine al ?_|refine aO c ?_|refine aP c ?_|simp[g,o,fN]);exact bX.rng () g z ⟨by simp[fresh,aH,aA,cd,aM,ae,fN],ep f9,er gc,Ψ⟩
      |some x=>rw[m (fun h=>by have:=h v (fx a);rw[f]at this;cases this)];rw[f]at c;simp only[ma,sX]at c;clear d n m f;simp[g,o,fN];(repeat' first|refine al ?_|refine aO c ?_|refine aP c ?_|simp[g,o,fN]);simp[bZ,ba,be,a1]
    ·have B:¬b.v<=b.t.int:=by rw[t]at ad;simpa using ad
     clear ad;(repeat' first|refine al ?_|refine aO p ?_|refine aP p ?_|simp[y,hi,fN,t,B]);refine e1 [0,12,13,14,32,33] (fun j (_:Unit)=>[(34,aj j)]) bk.length (ET s bk) () ⟨by simp[fresh,aH,aA,cd,aM,ae,fN],ep f9,er gc,Ψ⟩ (fun v a=>by simp at a) (fun _ d _=>?_) (fun j _ g d _=>?_)
     ·have bd:=n (fun v a=>d v (by rwa[jA]));simp[fN];(repeat' first|refine al ?_|simp[fN]);exact bX.rng () hi bd ⟨by simp[fresh,aH,aA,cd,aM,ae,fN],ep f9,er gc,Ψ⟩
     ·obtain⟨v,a⟩:∃v,bk[j]? =some v:=⟨_,ck g⟩;have o:∀h,((e6 bk)[j]'h)=aj v:=fun q=>by have:=EP bk j;rw[a,ck q]at this;exact eZ this
      have c:=w9 s v F;cases f:dG s v with
      |none=>have z:=d.step a f;rw[f]at c;simp only[my,k6]at c;clear d n m f;simp[g,o,fN];(repeat' first|refine al ?_|refine aO c ?_|refine aP c ?_|simp[g,o,fN]);exact bX.rng () g z ⟨by simp[fresh,aH,aA,cd,aM,ae,fN],ep f9,er gc,Ψ⟩
      |some x=>rw[m (fun h=>by have:=h v (fx a);rw[f]at this;cases this)];rw[f]at c;simp only[ma,sX]at c;clear d n m f;simp[g,o,fN];(repeat' first|refine al ?_|refine aO c ?_|refine aP c ?_|simp[g,o,fN]);simp[bZ,ba,be,a1]
def adt{s:List Bd}(h:e3 s):bT au 76 [bH (s.map Bd.e)] (.bool true):=by have:=Rl (s.map Bd.b);rw[zZ,sQ.2 ⟨s,rfl,h.ok,h.sol,h.fits⟩]at this;exact this
def Ue:C:=(aa [bu 2 false] (.seq (aa [I 5 0,cx 6 5,bM 7 0] (gz 8 7 6 (.seq (.block 1 (aa [cl 9 1 5 7,az 10 1 9,I 4 10] (aa [I 11 4,cQ 12 76 11,cK 13 12] (aW 13 (aa [bu 2 false] .ret) .skip)))) (.region [aV 14 .add 7 1,I 7 14])))) (aa [bu 2 true] .ret)))
def Ul:C:=(aa [bu 4 false] (.seq (aa [I 7 0,cx 8 7,bM 9 0] (gz 10 9 8 (.seq (.block 1 (aa [cl 11 5 7 9,bf 12 5 11,dF 6 kv,bV 5 6 12] (aa [aF 13 0 1 6,az 14 1 13,I 15 1,bt 16 .geq 14 15,I 17 16,ax 17 false (hr 18 1 4 6),ax 17 false (bf 19 4 18),cg 17 false 20 1,ax 17 false (b8 21 148 19 20),ax 17 false (cK 22 21),dq 23 17 22] (aW 23 (aa [bu 4 false] .ret) .skip)))) (.region [aV 24 .add 9 1,I 9 24])))) (aa [bu 4 true] .ret)))
def A7:C:=(aa [cU 2 0,bu 4 false] (.seq (aa [aF 7 3 1 2,az 8 1 7,cx 9 8,bM 10 0] (gz 11 10 9 (.seq (.block 1 (aa [cl 12 4 8 10,bf 13 4 12,dF 6 eB,bV 4 6 13] (aa [bf 14 4 6,I 15 1,b8 16 148 14 15,cK 17 16] (aW 17 (aa [bu 4 false] .ret) .skip)))) (.region [aV 18 .add 10 1,I 10 18])))) (aa [aF 19 0 1 2,az 20 1 19,aV 21 .neq 20 1,I 22 21,ax 22 false (aF 23 1 1 2),ax 22 false (az 24 1 23),cg 22 false 25 1,ax 22 false (bt 26 .lss 24 25),dq 27 22 26,I 4 27] .ret)))
def Ud:C:=(aa [eY 4 5] (aa [eX 10 5 113 [],I 5 10] (.seq (aa [I 11 1,cx 12 11,bM 13 0] (gz 14 13 12 (.seq (.block 1 (aa [cl 15 5 11 13,bf 16 5 15,dF 7 kv,bV 5 7 16] (aa [I 18 0,aF 19 0 1 7,az 20 1 19,b8 21 146 18 20,I 17 21,cS 22 0 17,cS 23 1 17,dF 8 eB,bV 4 8 22,I 9 23] (aa [I 24 9,cK 25 24] (aW 25 (.region [I 26 5,bf 27 5 7,eX 28 5 113 [.t 27],hT 29 5 113 26 28,I 5 29]) .skip))))) (.region [aV 30 .add 13 1,I 13 30])))) (aa [I 31 5,I 4 31] .ret))))
def Uh:C:=(aa [eY 2 1] (aa [eX 11 1 46 [],I 3 11] (.seq (.seq (.fg false 3 (.region [I 12 0,cx 13 12,bM 14 0])) (gz 15 14 13 (.seq (.block 1 (aa [cl 16 1 12 14,az 17 1 16,I 5 17] (aa [bu 6 true] (.seq (aa [I 18 0,cx 19 18,bM 20 0] (.block 2 (.loop (aa [bt 21 .lss 20 19] (.seq (aW 21 .skip (.exit 2)) (.seq (.block 3 (aa [cl 22 1 18 20,az 23 1 22,I 8 23] (.region [I 24 6,I 25 24,cg 25 true 26 8,cg 25 true 27 5,ax 25 true (b8 28 155 26 27),ax 25 true (aV 29 .eql 28 0),cg 25 true 30 29,cg 30 false 31 8,cg 30 false 32 5,ax 30 false (b8 33 203 31 32),ax 30 false (cK 34 33),ax 25 true (dq 35 30 34),ej 36 25 35,I 6 36]))) (.region [aV 37 .add 20 1,I 20 37]))))))) (aa [I 38 3,cx 39 38,I 9 39] (.seq (.block 4 (.loop (.seq (aa [I 40 9,aV 41 .gtr 40 0,I 42 41,cg 42 true 43 3,cg 42 true 44 9,ax 42 true (aV 45 .sub 44 1),ax 42 true (cl 46 1 43 45),ax 42 true (az 47 1 46),cg 42 true 48 5,ax 42 true (b8 49 155 47 48),ax 42 true (aV 50 .geq 49 0),ej 51 42 50] (aW 51 .skip (.exit 4))) (.block 5 (.region [I 52 9,aV 53 .sub 52 1,I 9 53]))))) (aa [I 54 6,I 55 54,cg 55 true 56 9,cg 55 true 57 3,ax 55 true (cx 58 57),ax 55 true (bt 59 .eql 56 58),cg 55 true 60 59,cg 60 false 61 3,cg 60 false 62 9,ax 60 false (cl 63 1 61 62),ax 60 false (az 64 1 63),cg 60 false 65 5,ax 60 false (b8 66 155 64 65),ax 60 false (aV 67 .neq 66 0),ax 55 true (dq 68 60 67),ej 69 55 68] (aW 69 (aa [eX 70 1 46 [],I 71 3,I 72 9,cf 73 (.lsl 1 (.t 71) none (some (.t 72))),hT 74 1 46 70 73,I 10 74] (aa [I 75 10,I 76 5,eX 77 1 46 [.t 76],hT 78 1 46 75 77,I 10 78] (.region [I 79 10,I 80 3,I 81 9,cf 82 (.lsl 1 (.t 80) (some (.t 81)) none),hT 83 1 46 79 82,I 3 83]))) .skip)))))))) (.fg false 3 (.region [aV 84 .add 14 1,I 14 84]))))) (aa [I 85 3,I 2 85] .ret))))
def Uf:C:=(aa [bM 4 0] (.seq (aa [bM 5 0] (.block 0 (.loop (.seq (aa [I 7 5,I 8 0,cx 9 8,bt 10 .lss 7 9,I 11 10,cg 11 true 12 5,cg 11 true 13 1,ax 11 true (cx 14 13),ax 11 true (bt 15 .lss 12 14),ej 16 11 15] (aW 16 .skip (.exit 0))) (.seq (.block 1 (.seq (.seq (.drawn true 67 [I 19 0,I 20 5,cl 21 5 19 20,aF 22 0 1 21,az 23 1 22,I 24 1,I 25 5,cl 26 5 24 25,aF 27 0 1 26,az 28 1 27,bt 29 .neq 23 28]) (aW 29 (.seq (.drawn true 67 [I 30 0,I 31 5,cl 32 5 30 31,aF 33 0 1 32,az 34 1 33,I 35 1,I 36 5,cl 37 5 35 36,aF 38 0 1 37,az 39 1 38,bt 40 .lss 34 39,cQ 41 188 40,I 4 41]) .ret) .skip)) (.seq (.drawn true 67 [I 42 0,I 43 5,cl 44 5 42 43,hr 45 1 4 44,bf 46 4 45,I 47 1,I 48 5,cl 49 5 47 48,hr 50 1 4 49,bf 51 4 50,b8 52 125 46 51,I 6 52]) (aa [I 53 6,aV 54 .neq 53 0] (aW 54 (aa [I 55 6,I 4 55] .ret) .skip))))) (.region [I 17 5,aV 18 .add 17 1,I 5 18])))))) (.seq (aa [I 56 0,cx 57 56,I 58 1,cx 59 58,bt 60 .neq 57 59] (aW 60 (aa [I 61 0,cx 62 61,I 63 1,cx 64 63,bt 65 .lss 62 64,cQ 66 188 65,I 4 66] .ret) .skip)) (aa [bM 4 0] .ret))))
def TV:C:=(aa [bu 4 false] (.seq (aa [I 11 0,cQ 12 76 11,cK 13 12,I 14 13,cg 14 false 15 1,ax 14 false (cQ 16 76 15),ax 14 false (cK 17 16),dq 18 14 17] (aW 18 (aa [bu 4 false] .ret) .skip)) (.seq (aa [I 19 0,cx 20 19,bM 21 0] (gz 22 21 20 (.seq (.block 1 (aa [cl 23 5 19 21,bf 24 5 23,dF 6 kv,bV 5 6 24] (aa [I 26 1,aF 27 0 1 6,az 28 1 27,cQ 29 114 28,b8 30 60 26 29,I 25 30,cS 31 0 25,cS 32 1 25,dF 7 eB,bV 4 7 31,I 8 32] (aa [I 34 1,hr 35 1 4 6,bf 36 4 35,b8 37 60 34 36,I 33 37,cS 38 0 33,cS 39 1 33,dF 9 eB,bV 4 9 38,I 10 39] (aa [I 40 8,cK 41 40,I 42 41,cg 42 false 43 10,ax 42 false (cK 44 43),dq 45 42 44,I 46 45,ax 46 false (bf 47 4 7),ax 46 false (bf 48 4 9),ax 46 false (b8 49 129 47 48),ax 46 false (cK 50 49),dq 51 46 50] (aW 51 (aa [bu 4 false] .ret) .skip)))))) (.region [aV 52 .add 21 1,I 21 52])))) (aa [bu 4 true] .ret))))
def apH:b2 aS Ue [.tmp 2] 1 Tryz.f77=true:=bi
def apO:b2 aS Ul [.tmp 4] 2 Tryz.f80=true:=bi
def Fx:b2 aS A7 [.tmp 4] 2 Tryz.f148=true:=bi
def apG:b2 aS Ud [.tmp 4] 2 Tryz.f153=true:=bi
def apK:b2 aS Uh [.tmp 2] 1 Tryz.f154=true:=bi
def apI:b2 aS Uf [.tmp 4] 2 Tryz.f155=true:=bi
def apn:b2 aS TV [.tmp 4] 2 Tryz.f203=true:=bi
def DH:C:=(aa [cU 2 0,cU 3 1,bM 4 0] (.seq (aa [aF 7 0 1 2,az 8 1 7,aF 9 0 1 3,az 10 1 9,bt 11 .neq 8 10] (aW 11 (aa [aF 12 0 1 2,az 13 1 12,aF 14 0 1 3,az 15 1 14,bt 16 .lss 13 15,cQ 17 188 16,I 4 17] .ret) .skip)) (.seq (aa [aF 18 1 1 2,az 19 1 18,aF 20 1 1 3,az 21 1 20,bt 22 .neq 19 21] (aW 22 (aa [aF 23 1 1 2,az 24 1 23,aF 25 1 1 3,az 26 1 25,bt 27 .lss 24 26,cQ 28 188 27,I 4 28] .ret) .skip)) (.seq (aa [aF 29 2 1 2,az 30 1 29,aF 31 2 1 3,az 32 1 31,bt 33 .neq 30 32] (aW 33 (aa [aF 34 2 1 2,az 35 1 34,aF 36 2 1 3,az 37 1 36,bt 38 .lss 35 37,cQ 39 188 38,I 4 39] .ret) .skip)) (.seq (aa [bM 5 0] (.block 0 (.loop (.seq (aa [I 40 5,aF 41 3 1 2,az 42 1 41,cx 43 42,bt 44 .lss 40 43,I 45 44,cg 45 true 46 5,ax 45 true (aF 47 3 1 3),ax 45 true (az 48 1 47),ax 45 true (cx 49 48),ax 45 true (bt 50 .lss 46 49),ej 51 45 50] (aW 51 .skip (.exit 0))) (.seq (.block 1 (.seq (.drawn true 68 [aF 54 3 1 2,az 55 1 54,I 56 5,cl 57 4 55 56,bf 58 4 57,aF 59 3 1 3,az 60 1 59,I 61 5,cl 62 4 60 61,bf 63 4 62,b8 64 125 58 63,I 6 64]) (aa [I 65 6,aV 66 .neq 65 0] (aW 66 (aa [I 67 6,I 4 67] .ret) .skip)))) (.region [I 52 5,aV 53 .add 52 1,I 5 53])))))) (aa [bM 4 0] .ret))))))
def T3:C:=(aa [cU 2 0,cU 3 1,bu 4 false] (aa [bf 5 4 2,bf 6 4 3,b8 7 125 5 6,aV 8 .eql 7 0,I 4 8] .ret))
def T4:C:=(aa [bM 2 0] (.seq (aa [I 3 0] (aW 3 (aa [bM 2 (-1)] .ret) .skip)) (aa [bM 2 1] .ret)))
def Jl:b2 aS DH [.tmp 4] 2 Tryz.f125=true:=bi
def apw:b2 aS T3 [.tmp 4] 2 Tryz.f129=true:=bi
def apx:b2 aS T4 [.tmp 2] 1 Tryz.f188=true:=bi
def aeb{t u:T}(J:t.kind=u.kind)(U:t.int=u.int)(a:t.name=u.name)(b:t.args=u.args):t=u:=by cases t<;>cases u<;>simp_all
def sS(b:Bool):bT au 188 [.bool b] (aj (if b then-1 else 1)):=by
 refine bF a6 Tryz.func188 apx fun a=>?_;unfold T4;simp;((repeat' first|refine al ?_|simp|((first|apply cq|apply cu|apply ct)<;>intro h<;>try simp at h))<;>(try exact c0));all_goals simp[bZ,ba,be,a1]
 all_goals simp_all
def apR{a b:T}(c:a.args=[]\/b.args=[])(J:a.kind=b.kind)(U:a.int=b.int):e8 a b=lA a.name b.name:=by cases a<;>cases b<;>simp_all[e8]
def ES(a b:T)(i:Nat)(_:Unit):Prop:=a.args.take i=b.args.take i
def ade(a:T)(n:∀x∈a.args,∀b:T,bT au 125 [x.e,b.e] (aj (e8 x b)))(b:T):bT au 125 [a.e,b.e] (aj (e8 a b)):=by
 have hle:a.args.length<=2:=by cases a<;>simp
 by_cases ad:a.kind=b.kind
 ·by_cases hi:a.int=b.int
  ·by_cases g:a.name=b.name
   ·have hlen:a.args.length=b.args.length:=by cases a<;>cases b<;>simp at ad⊢
    refine bF a6 Tryz.func125 Jl fun j=>?_;unfold DH;simp[ad,hi,g];refine e1 [2,3] (fun i (_:Unit)=>[(5,aj i)]) a.args.length (ES a b) () cb (by simp[ES]) (fun _ c _=>?_) (fun i _ f c _=>?_)
    ·simp;(repeat' first|refine al ?_|simp);simp[bZ,ba,be,a1];unfold ES at c;rw[iv Ω,iv Ω]at c;exact((sK a b).2 (aeb ad hi g c)).symm
    ·have l:i<b.args.length:=Ω
     obtain⟨x,d⟩:∃x,x=a.args[i]:=⟨_,rfl⟩;obtain⟨y,e⟩:∃y,y=b.args[i]:=⟨_,rfl⟩;have k:=n x (by rw[d];exact List.getElem_mem f) y;simp[f,l,<-d,<-e];(with_reducible repeat' first|((first|apply cq|apply cu|apply ct)<;>intro h<;>try simp at h)|refine al ?_|refine aO k ?_|refine aP k ?_|simp)
     ·simp[bZ,ba,be,a1];unfold ES at c;cases a with
      |pair m a2=>
       cases b with
       |pair o p=>
        simp at f c d e;rcases(by omega:i=0\/i=1)with rfl|rfl
        ·simp at d e;subst d e;simp[e8,h]
        ·simp at c d e;subst d e c;simp[e8,(sK m m).2 rfl]
       |_=>simp at ad
      |_=>simp at f
     ·refine bX.rng () f ?_ cb;unfold ES at c⊢;rw[List.take_succ,List.take_succ,c,ck f,ck l,<-d,<-e,(sK x y).1 h]
   ·refine bF a6 Tryz.func125 Jl fun j=>?_;unfold DH;simp[ad,hi,g];((repeat' first|refine al ?_|refine aO (sS _) ?_|refine aP (sS _) ?_|simp|((first|apply cq|apply cu|apply ct)<;>intro h<;>try simp at h))<;>(try exact c0));simp[bZ,ba,be,a1];have:a.args=[]\/b.args=[]:=by cases a<;>cases b<;>simp at ad g⊢
    rw[apR this ad hi,lA,if_neg g]
  ·refine bF a6 Tryz.func125 Jl fun j=>?_;unfold DH;simp[ad,hi];((repeat' first|refine al ?_|refine aO (sS _) ?_|refine aP (sS _) ?_|simp|((first|apply cq|apply cu|apply ct)<;>intro h<;>try simp at h))<;>(try exact c0));simp[bZ,ba,be,a1];cases a<;>cases b<;>simp at ad hi
   ·rw[aaf];simp[fe];split<;>(try split)<;>omega
   ·rw[aae];simp[fe];split<;>(try split)<;>omega
 ·refine bF a6 Tryz.func125 Jl fun j=>?_;unfold DH;simp[ad];((repeat' first|refine al ?_|refine aO (sS _) ?_|refine aP (sS _) ?_|simp|((first|apply cq|apply cu|apply ct)<;>intro h<;>try simp at h))<;>(try exact c0));simp[bZ,ba,be,a1];rw[tW ad];simp[fe];split<;>(try split)<;>omega
def Kx(a:T):∀b:T,bT au 125 [a.e,b.e] (aj (e8 a b)):=by
 induction a with
 |pair x y e d=>
  refine ade _ fun z c=>?_;simp at c;rcases c with rfl|rfl
  ·exact e
  ·exact d
 |_=>exact ade _ fun x f=>by simp at f
def adh(a b:T):bT au 129 [a.e,b.e] (.bool (decide (a=b))):=by refine bF a6 Tryz.func129 apw fun c=>?_;unfold T3;simp;(repeat' first|refine al ?_|refine aO (Kx _ _) ?_|refine aP (Kx _ _) ?_|simp);simp[bZ,ba,be,a1];have:=sK a b;by_cases h:e8 a b=0<;>simp_all
def as4{s t:List Bd}(j:e3 s)(k:e3 t):bT au 153 [bH (s.map Bd.e),bH (t.map Bd.e)] (bH ((fp s t).map Bd.e)):=by
 have h:=k.len;generalize br:fp s t=R;refine bF a6 Tryz.func153 apG fun m=>?_;unfold Ud;simp;refine fT (α:=List Bd) (fun i out=>⟨[(0,bH (s.map Bd.e)),(11,bH (t.map Bd.e)),(12,aj t.length),(5,.slice 5 (.own (.loc 0)) (out.map Bd.e)),(13,aj i)],[],[(.loc 0,⟨out.length,113,5,none⟩)],1,[]⟩) t.length (sG s t) [] cb (by simp[sG,fp]) (fun out c _=>?_) (fun i out hi c _=>?_)
 ·rw[sG,iv (dO _),br]at c;rw[<-c];exact cn
 ·obtain⟨b,f,e⟩:=eV hi;have l:out.length<=1000000:=by
   have:out.length<=(t.take i).length:=by rw[c];exact List.length_filter_le _ _
   simp at this;omega
  have a:=w9 s b.v j.len;cases d:dG s b.v with
  |none=>
   have g:sG s t (i+1) (out++[b]):=by rw[sG,nK f,fp,List.filter_append,c];simp[fp,d]
   rw[d]at a;simp only[my,k6]at a;clear c f d;simp[hi,e];(repeat' first|refine al ?_|refine aO a ?_|refine aP a ?_|simp[e,hi]);all_goals try refine⟨by unfold lim;omega,?_⟩
   (repeat' first|refine al ?_|simp);refine bX.rng (out++[b]) hi g ?_;simp;exact⟨by simp[fresh,aH,aA,cd,aM,ae,j0],ep g9,er ii,Ψ⟩
  |some x=>
   have g:sG s t (i+1) out:=by rw[sG,nK f,fp,List.filter_append,c];simp[fp,d]
   rw[d]at a;simp only[ma,sX]at a;clear c f d;simp[hi,e];(repeat' first|refine al ?_|refine aO a ?_|refine aP a ?_|simp[e,hi]);refine bX.rng out hi g ?_;exact cb
def asw{s t:List Bd}(u:e3 s)(m:e3 t):bT au 203 [bH (s.map Bd.e),bH (t.map Bd.e)] (.bool (oS s t)):=by
 have y:=u.len;generalize br:oS s t=R;have p:=adt u;have q:=adt m;refine bF a6 Tryz.func203 apn fun z=>?_;unfold TV;simp;(repeat' first|refine al ?_|refine aO p ?_|refine aP p ?_|refine aO q ?_|refine aP q ?_|simp);refine e1 [1,19,20] (fun i (_:Unit)=>[(21,aj i)]) s.length (qX (tT t) s) () cb (fun k b ad=>Ω) (fun _ g _=>?_) (fun i _ hi g _=>?_)
 ·have:R=true:=by rw[<-br,oS,j5];intro b w;obtain⟨k,ad,e⟩:=pM w;exact g k b ad (by rw[ck ad,e])
  rw[this];exact cn
 ·obtain⟨b,j,f⟩:=eV hi;have o:tT t b=false->R=false:=fun h=>by rw[<-br,Bool.eq_false_iff];intro r;rw[oS,j5]at r;rw[r b (fx j)]at h;cases h
  have c:=Re t m.len (.var b.v);have a:=Re t m.len b.t;have n:=FZ m b.v;have x:((T.var b.v).ap (cR t)).size<=5000:=n;rw[lK x]at c;rw[show(T.var b.v).ap (cR t)=cR t b.v from rfl]at c;by_cases l:(b.t.ap (cR t)).size<=5000
  ·rw[lK l]at a;by_cases he:cR t b.v=b.t.ap (cR t)
   ·have v:=g.step j (by simp[tT,he]);have d:=adh (cR t b.v) (b.t.ap (cR t));rw[lK he]at d;clear g j;simp[hi,f];(repeat' first|refine al ?_|refine aO (k5 _) ?_|refine aP (k5 _) ?_|refine aO c ?_|refine aP c ?_|refine aO a ?_|refine aP a ?_|refine aO d ?_|refine aP d ?_|simp[f,hi]);exact bX.rng () hi v cb
   ·rw[o (by simp[tT,he])];have d:=adh (cR t b.v) (b.t.ap (cR t));rw[mz he]at d;clear g j;simp[hi,f];(repeat' first|refine al ?_|refine aO (k5 _) ?_|refine aP (k5 _) ?_|refine aO c ?_|refine aP c ?_|refine aO a ?_|refine aP a ?_|refine aO d ?_|refine aP d ?_|simp[f,hi]);simp[bZ,ba,be,a1]
  ·rw[mz l]at a;rw[o (by simp only[tT,iN];intro e;rw[<-e]at l;exact l n)];clear g j;simp[hi,f];(repeat' first|refine al ?_|refine aO (k5 _) ?_|refine aP (k5 _) ?_|refine aO c ?_|refine aP c ?_|refine aO a ?_|refine aP a ?_|simp[f,hi]);simp[bZ,ba,be,a1]
def Rg(d e:List Bd):bT au 155 [bH (d.map Bd.e),bH (e.map Bd.e)] (aj (fc d e)):=by
 generalize br:fc d e=R;refine bF a6 Tryz.func155 apI fun w=>?_;unfold Uf;have G:d.length<=68719476736:=by simp[eK,eU,eM,lim]at w;omega
 have he:e.length<=68719476736:=by simp[eK,eU,eM,lim]at w;omega
 simp;refine xr [0,1] (fun(i:Nat)=>[(5,aj i)]) (fun i=>d.length-i) (N9 d e) 0 cb ⟨Ω,Ω,Ψ⟩ (fun i B _=>?_);obtain⟨J,U,a⟩:=B;rw[br]at a;by_cases hi:i<d.length
 ·by_cases b:i<e.length
  ·obtain⟨x,m⟩:∃x,d[i]? =some x:=⟨_,ck hi⟩;obtain⟨y,n⟩:∃y,e[i]? =some y:=⟨_,ck b⟩;have f:∀h,(d[i]'h)=x:=fun h=>by rw[ck hi]at m;exact eZ m
   have c:∀h,(e[i]'h)=y:=fun h=>by rw[ck b]at n;exact eZ n
   have r:d.drop i=x::d.drop (i+1):=by rw[lJ hi,f]
   have q:e.drop i=y::e.drop (i+1):=by rw[lJ b,c]
   rw[r,q]at a;rw[aac]at a;by_cases g:x.v=y.v
   ·have j:fe x.v y.v=0:=(k3.zero _ _).2 g;have p:(x.v !=y.v)=false:=by simp[g]
    rw[if_pos j]at a;by_cases l:e8 x.t y.t=0
    ·rw[if_pos l]at a;have z:N9 d e (i+1):=⟨Ω,Ω,by rw[br];exact a⟩;have k:=Kx x.t y.t;rw[l]at k;clear r q m n a j;simp[hi,b,f,c];((repeat' first|refine al ?_|refine aO k ?_|refine aP k ?_|simp[f,c,hi,b,g,p]|((first|apply cq|apply cu|apply ct)<;>intro h<;>try simp at h))<;>(try exact c0));all_goals exact bX.whl (i+1) Ω z cb
    ·rw[if_neg l]at a;have k:=Kx x.t y.t;have E:(e8 x.t y.t !=0)=true:=by simp[l]
     clear r q m n j;simp[hi,b,f,c];(repeat' first|refine al ?_|refine aO k ?_|refine aP k ?_|simp[f,c,hi,b,g,p,l,E]);all_goals simp[bZ,ba,be,a1]
     all_goals exact a
   ·have j:¬fe x.v y.v=0:=fun h=>g ((k3.zero _ _).1 h);have p:(x.v !=y.v)=true:=by simp[g]
    rw[if_neg j]at a;have dE:R=if decide (x.v<y.v)=true then-1 else 1:=by rw[<-a];unfold fe;simp only[gn];(repeat' split)<;>omega
    clear r q m n a j;rw[dE];simp[hi,b,f,c];(repeat' first|refine al ?_|refine aO (sS _) ?_|refine aP (sS _) ?_|simp[f,c,hi,b,g,p]);all_goals simp[bZ,ba,be,a1]
  ·have hle:e.length<d.length:=Ω
   have:(1:Int)=R:=by rw[<-a,fc,E5 _ _ _ (.inr (List.drop_eq_nil_of_le Ω))];simp only[ur];unfold fe;(repeat' split)<;>omega
   have t:¬(d.length:Int)=e.length:=Ω
   have v:((d.length:Int) !=e.length)=true:=by simp;omega
   have s:¬(d.length:Int)<e.length:=Ω
   have o:¬d.length<e.length:=Ω
   have u:¬d.length=e.length:=Ω
   clear a;rw[<-this];simp[hi,b];(repeat' first|refine al ?_|refine aO (sS _) ?_|refine aP (sS _) ?_|simp[hi,b,t,v,s,o,u]);all_goals simp[bZ,ba,be,a1]
   all_goals(try simp[o])
 ·have F:i=d.length:=Ω
  by_cases A:d.length=e.length
  ·have:(0:Int)=R:=by rw[<-a,fc,E5 _ _ _ (.inl (List.drop_eq_nil_of_le Ω))];simp only[ur];unfold fe;(repeat' split)<;>omega
   clear a;rw[<-this];exact cn
  ·have:(-1:Int)=R:=by rw[<-a,fc,E5 _ _ _ (.inl (List.drop_eq_nil_of_le Ω))];simp only[ur];unfold fe;(repeat' split)<;>omega
   have t:¬(d.length:Int)=e.length:=Ω
   have v:((d.length:Int) !=e.length)=true:=by simp;omega
   have s:(d.length:Int)<e.length:=Ω
   have o:d.length<e.length:=Ω
   clear a;rw[<-this];simp[hi];(repeat' first|refine al ?_|refine aO (sS _) ?_|refine aP (sS _) ?_|simp[hi,t,v,s,o,A]);all_goals simp[bZ,ba,be,a1]
   all_goals(try simp[o])
def aml(n:Int)(a b:T)(i:Nat)(_:Unit):Prop:=(1<=i->fu n a=true)/\(2<=i->fu n b=true)
def AG(n:Int):∀t:T,bT au 148 [t.e,aj n] (.bool (fu n t))
 | .pair a b=>by
  have e:=AG n a;have d:=AG n b;refine bF a6 Tryz.func148 Fx fun j=>?_;unfold A7;simp;refine e1 [1,2,8,9] (fun i (_:Unit)=>[(10,aj i)]) 2 (aml n a b) () cb ⟨fun h=>Ω,fun h=>Ω⟩ (fun _ c _=>?_) (fun i _ hi c _=>?_)
  ·simp;(repeat' first|refine al ?_|simp);simp[bZ,ba,be,a1];simp[fu,c.1,c.2]
  ·rcases(by omega:i=0\/i=1)with rfl|rfl
   ·cases f:fu n a
    ·rw[f]at e;simp;(repeat' first|refine al ?_|refine aO e ?_|refine aP e ?_|simp);simp[bZ,ba,be,a1];simp[fu,f]
    ·rw[f]at e;simp;((repeat' first|refine al ?_|refine aO e ?_|refine aP e ?_|simp|((first|apply cq|apply cu|apply ct)<;>intro h<;>try simp at h))<;>(try exact c0));exact bX.rng () hi ⟨fun _=>f,fun h=>Ω⟩ cb
   ·cases g:fu n b
    ·rw[g]at d;simp;((repeat' first|refine al ?_|refine aO d ?_|refine aP d ?_|simp|((first|apply cq|apply cu|apply ct)<;>intro h<;>try simp at h))<;>(try exact c0));simp[bZ,ba,be,a1];simp[fu,g]
    ·rw[g]at d;simp;((repeat' first|refine al ?_|refine aO d ?_|refine aP d ?_|simp|((first|apply cq|apply cu|apply ct)<;>intro h<;>try simp at h))<;>(try exact c0));exact bX.rng () hi ⟨fun _=>c.1 Ω,fun _=>g⟩ cb
 | .sym v=>by
  refine bF a6 Tryz.func148 Fx fun j=>?_;unfold A7;simp;refine e1 [1,2,8,9] (fun i (_:Unit)=>[(10,aj i)]) 0 (fun i _=>True) () cb trivial (fun _ c _=>?_) (fun i _ hi c _=>Ω);simp;((repeat' first|refine al ?_|simp|((first|apply cq|apply cu|apply ct)<;>intro h<;>try simp at h))<;>(try exact c0));all_goals simp[bZ,ba,be,a1]
  all_goals simp[fu]
 | .num v=>by
  refine bF a6 Tryz.func148 Fx fun j=>?_;unfold A7;simp;refine e1 [1,2,8,9] (fun i (_:Unit)=>[(10,aj i)]) 0 (fun i _=>True) () cb trivial (fun _ c _=>?_) (fun i _ hi c _=>Ω);simp;(repeat' first|refine al ?_|simp);all_goals simp[bZ,ba,be,a1]
  all_goals simp[fu]
 | .var v=>by
  refine bF a6 Tryz.func148 Fx fun j=>?_;unfold A7;simp;refine e1 [1,2,8,9] (fun i (_:Unit)=>[(10,aj i)]) 0 (fun i _=>True) () cb trivial (fun _ c _=>?_) (fun i _ hi c _=>Ω);simp;(repeat' first|refine al ?_|simp);all_goals simp[bZ,ba,be,a1]
  all_goals simp[fu]
 | .nil=>by
  refine bF a6 Tryz.func148 Fx fun j=>?_;unfold A7;simp;refine e1 [1,2,8,9] (fun i (_:Unit)=>[(10,aj i)]) 0 (fun i _=>True) () cb trivial (fun _ c _=>?_) (fun i _ hi c _=>Ω);simp;(repeat' first|refine al ?_|simp);all_goals simp[bZ,ba,be,a1]
  all_goals simp[fu]
def ado(s:List Bd)(n:Int):bT au 80 [bH (s.map Bd.e),aj n] (.bool (s.all (lN n))):=by
 generalize br:s.all (lN n)=R;refine bF a6 Tryz.func80 apO fun m=>?_;unfold Ul;have p:s.length<=68719476736:=by simp[eK,eU,eM,lim]at m;omega
 simp;refine e1 [1,7,8] (fun i (_:Unit)=>[(9,aj i)]) s.length (qX (lN n) s) () cb (fun k b ad=>Ω) (fun _ a _=>?_) (fun i _ hi a _=>?_)
 ·have:R=true:=by rw[<-br,j5];intro b l;obtain⟨k,ad,e⟩:=pM l;exact a k b ad (by rw[ck ad,e])
  rw[this];exact cn
 ·obtain⟨b,c,o⟩:=eV hi;have f:lN n b=false->R=false:=fun h=>by rw[<-br,Bool.eq_false_iff];intro g;rw[j5]at g;rw[g b (fx c)]at h;cases h
  have d:=AG n b.t;by_cases J:b.v<n
  ·have j:¬n<=b.v:=Ω
   cases U:fu n b.t
   ·rw[f (by simp[lN,U])];rw[U]at d;clear a c;exact cn
   ·have q:=a.step c (by simp[lN,J,U]);rw[U]at d;clear a c;exact iU
  ·have j:n<=b.v:=Ω
   rw[f (by simp[lN,J])];clear a c;exact cn
def as6(l:List (List Bt)):bT au 77 [c1 (l.map gB)] (.bool (l.all hA)):=by
 generalize br:l.all hA=R;refine bF a6 Tryz.func77 apH fun h=>?_;unfold Ue;have m:l.length<=68719476736:=by simp[eK,eU,eM,lim]at h;omega
 simp;refine e1 [5,6] (fun i (_:Unit)=>[(7,aj i)]) l.length (qX hA l) () cb (fun k b ad=>Ω) (fun _ c _=>?_) (fun i _ hi c _=>?_)
 ·have:R=true:=by rw[<-br,j5];intro b a;obtain⟨k,ad,e⟩:=pM a;exact c k b ad (by rw[ck ad,e])
  rw[this];exact cn
 ·obtain⟨b,d,j⟩:=eV hi;have f:bT au 76 [gB b] (.bool (hA b)):=Rl b;cases a:hA b
  ·have:R=false:=by rw[<-br,Bool.eq_false_iff];intro g;rw[j5]at g;rw[g b (fx d)]at a;cases a
   rw[this];rw[a]at f;clear c d;exact cn
  ·have n:=c.step d a;rw[a]at f;clear c d;exact iU
def UJ(a:List (List Bd))(k:Nat)(m:List Bd):na k (a.map cM)++cM m::o1 k (a.map cM)=(a.take k++m::a.drop k).map cM:=Ψ
def sn(a:List (List Bd))(k:Nat)(m:List Bd):b9 (na k (a.map cM)++cM m::o1 k (a.map cM))=na k (a.map cM)++cM m::o1 k (a.map cM):=by rw[UJ,QP]
def sk(S:aB->Prop)(a:List (List Bd))(k:Nat)(m:List Bd):aH S (na k (a.map cM)++cM m::o1 k (a.map cM))=True:=by rw[UJ,Ys]
def Hb(a:List (List Bd))(m:List Bd):a.map cM++[cM m]=(a++[m]).map cM:=Ψ
def qD(a:List (List Bd))(m:List Bd):b9 (a.map cM++[cM m])=a.map cM++[cM m]:=by rw[Hb,QP]
def sj(S:aB->Prop)(a:List (List Bd))(m:List Bd):aH S (a.map cM++[cM m])=True:=by rw[Hb,Ys]
def adm(L:List (List Bd))(K:∀d∈L,e3 d):bT au 154 [c1 (L.map cM)] (c1 ((lZ L).map cM)):=by
 generalize br:lZ L=R;rw[anl]at br;refine bF a6 Tryz.func154 apK fun U=>?_;unfold Uh;have W:L.length<=68719476736:=by simp[eK,eU,eM,lim]at U;omega
 simp;refine e1 [0,12,13] (fun i (a:List (List Bd))=>[(3,c1 (a.map cM)),(14,aj i)]) L.length (zS L) [] cb (by simp[zS]) (fun a m _=>?_) (fun i a hi m _=>?_)
 ·rw[zS,jA,br]at m;subst m;exact cn
 ·obtain⟨e,he,N⟩:=eV hi;have z:iO fc a:=by rw[m];exact OV _ (by simp[iO])
  have V:a.length<=i:=by have:=Zd (L:=L) (L.take i) [];rw[m];simp at this⊢;omega
  have g:=m.step he;have P:=K e (fx he);have l:∀d,bT au 155 [cM d,cM e] (aj (fc d e)):=fun d=>Rg d e;clear m he;simp[hi,N];(repeat' first|refine al ?_|simp[hi,N]);refine e1 [0,3,5,12,13,14,18,19] (fun j (b:Bool)=>[(6,.bool b),(20,aj j)]) L.length (rH L e) true cb (by simp[rH]) (fun keep m _=>?_) (fun j keep t m _=>?_)
  ·rw[rH,jA]at m;have M:keep=jO L e:=m;rw[rP,<-M]at g;clear m M;simp;(repeat' first|refine al ?_|simp);refine xr [0,3,5,6,12,13,14] (fun(k:Nat)=>[(9,aj k)]) (fun k=>k) (Iy a e) a.length cb ⟨Ω,fun c h=>by simp at h⟩ (fun k m _=>?_);have ad:=m.1;rcases Nat.eq_zero_or_pos k with Y|s
   ·have F:decide ((0:Int)<k)=false:=by simp;omega
    have A:¬(0:Int)<k:=Ω
    have f:=m.fin z fun d h=>Ω
    clear m z;cases keep with
    |false=>simp only[hU,if_false]at g;clear f;exact iU
    |true=>
     simp only[if_true]at g;by_cases n:k<a.length
     ·obtain⟨c,ay,x⟩:=eV n;rw[ay]at f;by_cases q:fc c e=0
      ·rw[if_pos (by simp[q])]at f;rw[f]at g;clear f ay;simp[n,x,F,A];((repeat' first|refine al ?_|refine aO (l _) ?_|refine aP (l _) ?_|simp[n,x,q,F,A]|((first|apply cq|apply cu|apply ct)<;>intro h<;>try simp at h))<;>(try exact c0));all_goals exact bX.rng a hi g cb
      ·rw[if_neg (by simp[q])]at f;have B:(fc c e !=0)=true:=by simp[q]
       rw[f]at g;clear f ay;simp[n,x,F,A];((repeat' first|refine al ?_|refine aO (l _) ?_|refine aP (l _) ?_|simp[n,x,q,B,F,A]|((first|apply cq|apply cu|apply ct)<;>intro h<;>try simp at h))<;>(try exact c0));all_goals try refine⟨by unfold lim;omega,?_⟩
       all_goals(repeat' first|refine al ?_|simp)
       all_goals try refine⟨by unfold lim;omega,?_⟩
       all_goals((repeat' first|refine al ?_|simp|((first|apply cq|apply cu|apply ct)<;>intro h<;>try simp at h))<;>(try exact c0))
       all_goals exact bX.rng _ hi g ⟨by simp[fresh,aH,aA,cd,aM,ae,iv,sn,sk,qD,sj],ep li,er lm,Ψ⟩
     ·rw[rh Ω]at f;simp only[hU,if_false]at f;rw[f]at g;have H:k=a.length:=Ω
      have G:a.take k++e::a.drop k=a++[e]:=by rw[H];simp
      rw[G]at g;clear f G;simp[n,F,A];((repeat' first|refine al ?_|refine aO (l _) ?_|refine aP (l _) ?_|simp[n,H,F,A]|((first|apply cq|apply cu|apply ct)<;>intro h<;>try simp at h))<;>(try exact c0));all_goals try refine⟨by unfold lim;omega,?_⟩
      all_goals(repeat' first|refine al ?_|simp)
      all_goals try refine⟨by unfold lim;omega,?_⟩
      all_goals((repeat' first|refine al ?_|simp|((first|apply cq|apply cu|apply ct)<;>intro h<;>try simp at h))<;>(try exact c0))
      all_goals exact bX.rng _ hi g ⟨by simp[fresh,aH,aA,cd,aM,ae,iv,sn,sk,qD,sj],ep li,er lm,Ψ⟩
   ·obtain⟨d,v⟩:∃d,a[k-1]? =some d:=⟨_,ck Ω⟩;have u:((k:Int)-1).toNat=k-1:=Ω
    have w:∀h,(a[k-1]'h)=d:=fun h=>by rw[ck h]at v;exact eZ v
    have r:(0:Int)<k:=Ω
    have p:k-1<a.length:=Ω
    by_cases o:0<=fc d e
    ·have S:Iy a e (k-1):=⟨Ω,fun c ay=>by rw[v]at ay;cases ay;exact o⟩;clear m z g v;simp[s,r,u,w,o,p];((repeat' first|refine al ?_|refine aO (l _) ?_|refine aP (l _) ?_|simp[s,r,u,w,o,p]|((first|apply cq|apply cu|apply ct)<;>intro h<;>try simp at h))<;>(try exact c0));refine bX.whl (k-1) Ω S ?_;have Q:((k-1:Nat):Int)=(k:Int)-1:=Ω
     simp[Q];exact cb
    ·have f:=m.fin z fun X _ J=>by rw[v]at J;cases J;omega
     clear m z v;cases keep with
     |false=>simp only[hU,if_false]at g;clear f;simp[s,r,u,w,o,p];(repeat' first|refine al ?_|refine aO (l _) ?_|refine aP (l _) ?_|simp[s,r,u,w,o,p]);all_goals exact bX.rng a hi g cb
     |true=>
      simp only[if_true]at g;by_cases n:k<a.length
      ·obtain⟨c,ay,x⟩:=eV n;rw[ay]at f;by_cases q:fc c e=0
       ·rw[if_pos (by simp[q])]at f;rw[f]at g;clear f ay;simp[n,x,s,r,u,w,o,p];((repeat' first|refine al ?_|refine aO (l _) ?_|refine aP (l _) ?_|simp[n,x,q,s,r,u,w,o,p]|((first|apply cq|apply cu|apply ct)<;>intro h<;>try simp at h))<;>(try exact c0));all_goals exact bX.rng a hi g cb
       ·rw[if_neg (by simp[q])]at f;have B:(fc c e !=0)=true:=by simp[q]
        rw[f]at g;clear f ay;simp[n,x,s,r,u,w,o,p];((repeat' first|refine al ?_|refine aO (l _) ?_|refine aP (l _) ?_|simp[n,x,q,B,s,r,u,w,o,p]|((first|apply cq|apply cu|apply ct)<;>intro h<;>try simp at h))<;>(try exact c0));all_goals try refine⟨by unfold lim;omega,?_⟩
        all_goals(repeat' first|refine al ?_|simp)
        all_goals try refine⟨by unfold lim;omega,?_⟩
        all_goals((repeat' first|refine al ?_|simp|((first|apply cq|apply cu|apply ct)<;>intro h<;>try simp at h))<;>(try exact c0))
        all_goals exact bX.rng _ hi g ⟨by simp[fresh,aH,aA,cd,aM,ae,iv,sn,sk,qD,sj],ep li,er lm,Ψ⟩
      ·rw[rh Ω]at f;simp only[hU,if_false]at f;rw[f]at g;have H:k=a.length:=Ω
       have G:a.take k++e::a.drop k=a++[e]:=by rw[H];simp
       rw[G]at g;clear f G;simp[n,s,r,u,w,o,p];((repeat' first|refine al ?_|refine aO (l _) ?_|refine aP (l _) ?_|simp[n,H,s,r,u,w,o,p]|((first|apply cq|apply cu|apply ct)<;>intro h<;>try simp at h))<;>(try exact c0));all_goals try refine⟨by unfold lim;omega,?_⟩
       all_goals(repeat' first|refine al ?_|simp)
       all_goals try refine⟨by unfold lim;omega,?_⟩
       all_goals(repeat' first|refine al ?_|simp)
       all_goals exact bX.rng _ hi g ⟨by simp[fresh,aH,aA,cd,aM,ae,iv,sn,sk,qD,sj],ep li,er lm,Ψ⟩
  ·obtain⟨d,v,hdi⟩:=eV t;have y:=m.step v;have O:=K d (fx v);have E:bT au 203 [cM d,cM e] (.bool (oS d e)):=asw O P;clear m v g z;cases keep with
   |false=>simp only[Bool.false_and]at y;exact iU
   |true=>
    simp only[Bool.true_and,x8]at y;by_cases q:fc d e=0
    ·rw[lK ((mT.zero _ _).1 q),Bool.true_or]at y;simp[t,hdi];(repeat' first|refine al ?_|refine aO (l _) ?_|refine aP (l _) ?_|simp[t,hdi,q]);all_goals exact bX.rng true t y cb
    ·rw[mz (fun h=>q ((mT.zero _ _).2 h)),Bool.false_or]at y;have B:(fc d e==0)=false:=by simp[q]
     cases bd:oS d e
     ·rw[bd]at y E;simp[t,hdi];(repeat' first|refine al ?_|refine aO (l _) ?_|refine aP (l _) ?_|refine aO E ?_|refine aP E ?_|simp[t,hdi,q,B]);all_goals exact bX.rng true t y cb
     ·rw[bd]at y E;simp[t,hdi];(repeat' first|refine al ?_|refine aO (l _) ?_|refine aP (l _) ?_|refine aO E ?_|refine aP E ?_|simp[t,hdi,q,B]);all_goals exact bX.rng false t y cb
def _root_.Go.Pv.Bd.k(b:Bd)(κ:Nat):af:= .agg [aj b.v,aj b.t.kind,aj b.t.int,.str b.t.name,.slice 4 (.tr (.loc κ) 0) (b.t.args.map T.e)]
def IF:nM Bd.k Bd.e:=⟨fun x n=>rfl,fun x n=>⟨trivial,trivial,trivial,trivial,Cu n,trivial⟩,fun x n=>by simp[Bd.k,b3],fun S x n h=>by simp[Bd.k,aA,aH,h]⟩
@[simp]def auJ(t:T)(n:Nat):cells (t.k n)=[aj t.kind,aj t.int,.str t.name,.slice 4 (.tr (.loc n) 0) (t.args.map T.e)]:=rfl
@[simp]def ax0(t:T)(n:Nat):eS (t.k n)=true:=rfl
def Pc(t:List Bd)(k:t.length<=1000000):fY au 168 [bH (t.map Bd.e)] fun κ=>.slice 5 (.tr (.loc κ) 0) (t.map Bd.e):=by
 refine fY.mk mixed a6 Tryz.func168 ZN Ψ fun j κ=>?_;unfold Lq;simp;refine fT (fun i (x:Nat×List (Bd×Nat))=>⟨[(7,bH (t.map Bd.e)),(8,aj t.length),(3,.slice 5 (.own (.loc 0)) (j1 Bd.k x.2)),(9,aj i)],[],[(.loc 0,⟨x.2.length,113,5,none⟩)],x.1,[]⟩) t.length (fun i x=>1<=x.1/\rl x.1 x.2/\x.2.map (·.1)=t.take i) (1,[]) cb ⟨Ω,.nil _,Ψ⟩ (fun x c _=>?_) (fun i x hi c _=>?_)
 ·obtain⟨n,out⟩:=x;obtain⟨J,U,a⟩:=c;simp only[jA]at J U a;simp;(repeat' first|refine al ?_|simp);(refine h3.val Ψ ?_;simp[ba,be,a1,fb,hp,eD,gS,eh,gI,tnL,tn,fq,fW,fold,hE,hC,iJ,ae,ef,b9,b3,IF.okL,IF.nodup U,IF.stL,a])
 ·obtain⟨n,out⟩:=x;obtain⟨J,U,a⟩:=c;simp only at J U a;obtain⟨b,g,f⟩:=eV hi;have h:out.length<=1000000:=by have:=fC List.length a;simp at this;omega
  simp[hi,f];(refine hJ.own Ψ (anM b.t) (by simp[qJ,ae]<;>omega) ?_;simp);(repeat' first|refine al ?_|simp);have e:=U.snoc b (show n<=n+1+18 by omega) (show n+1+18<n+1+24 by omega);have d:=IF.kin e (dO _) [];simp[fresh]at d;refine bX.rng (n+1+24,out++[(b,n+1+18)]) hi ?_ ?_
  ·exact⟨Ψ,e,by rw[nK g,<-a];simp⟩
  simp;exact⟨by simp[fresh,aH,aA,cd,aM,ae];exact⟨rfl,d⟩,ep (by simp[fresh,aH,aA,cd,aM,ae]),er (by simp[fresh,aH,aA,cd,aM,ae,dW]),Ψ⟩
def mQ.fst{s:List (List Bd)}{t:List Bd}{acc:List (List Bd)}(h:mQ s 0 acc)(a:s[0]? =some t):mQ s 1 (if jO s t=true then acc++[t]else acc):=by
 unfold mQ at*;rw[vb a]at h;have e:(if(1:Nat)=0 then none else s[1-1]?)=some t:=by simpa using a
 have b:acc++(t::cX (some t) (s.drop 1)).filter (jO s)=(cX none s).filter (jO s):=by rw[<-h];simp[cX]
 rw[e,<-b];by_cases ad:jO s t=true<;>simp[ad]
def mQ.eq{s:List (List Bd)}{i:Nat}{t:List Bd}{acc:List (List Bd)}(h:mQ s i acc)(hi:i≠0)(b:s[i-1]? =some t)(a:s[i]? =some t):mQ s (i+1) acc:=by
 unfold mQ at*;rw[if_neg hi,b,vb a]at h;have e:(if i+1=0 then none else s[i+1-1]?)=some t:=by rw[if_neg Ω];exact a
 rw[e,<-h];simp[cX]
def mQ.ne{s:List (List Bd)}{i:Nat}{p t:List Bd}{acc:List (List Bd)}(h:mQ s i acc)(hi:i≠0)(b:s[i-1]? =some p)(a:s[i]? =some t)(c:¬p=t):mQ s (i+1) (if jO s t=true then acc++[t]else acc):=by
 unfold mQ at*;rw[if_neg hi,b,vb a]at h;have e:(if i+1=0 then none else s[i+1-1]?)=some t:=by rw[if_neg Ω];exact a
 have d:cX (some p) (t::s.drop (i+1))=t::cX (some t) (s.drop (i+1)):=by simp[cX,c]
 rw[d]at h;rw[e,<-h];by_cases ad:jO s t=true<;>simp[ad]
def arQ(l:List (List Bd)):(qn fc l).length=l.length:=(AA fc l).length_eq
def amx(S:aB->Prop)(l:List (List Bd))(d:List Bd):aH S (l.map cM++[cM d])=True:=by have:=Oq S (l++[d]);rw[List.map_append]at this;exact h1 this
def Hc(d:List Bd)(κ:Nat):af:= .slice 5 (.tr (.loc κ) 0) (d.map Bd.e)
def B4:nM Hc cM:=⟨fun x n=>rfl,fun x n=>Cu n,fun x n=>by simp[Hc,cM,b3],fun S x n h=>by simp[Hc,aA,h]⟩
def fin{s:List (List Bd)}{i:Nat}{out:List (List Bd×Nat)}{A:List (List Bd)}(e:out.map (·.1)=A)(h:A.length<=i+1/\mQ s (i+1) A):out.length<=i+1/\mQ s (i+1) (out.map (·.1)):=by subst e;simpa using h
def anL(l:List (List Bd))(Y:∀d∈l,e3 d):fY au 167 [c1 (l.map cM)] fun κ=>.slice 1 (.tr (.loc κ) 0) ((lZ l).map cM):=by
 generalize br:lZ l=R;rw[ank]at br;refine fY.mk mixed a6 Tryz.func167 an1 Ψ fun aR κ=>?_;unfold Sv;have fv:l.length<=68719476736:=by simp[eK,eU,eM,lim]at aR;omega
 simp;refine e1 [0,12,13] (fun i (_:Unit)=>[(14,aj i)]) l.length (fun _ _=>True) () cb trivial (fun _ _ _=>?_) (fun i _ hi _ _=>?_);rotate_left
 ·obtain⟨e,he,Na⟩:=eV hi;have fi:bT au 86 [cM e] (.bool true):=qs (Y e (fx he));exact iU
 simp;(repeat' first|refine al ?_|simp);all_goals try refine⟨by unfold lim;omega,?_⟩
 all_goals(repeat' first|refine al ?_|simp)
 refine CallDo.ob (ajR l fv) (KR l) (by unfold vK eC;exact aX) (by unfold vK eC;exact aX) (by simp[aM,eC,ae]) ?_;rintro r ak ⟨rfl,rfl⟩;refine⟨yZ _ _,?_⟩;obtain⟨s,F⟩:∃s,s=qn fc l:=⟨_,rfl⟩;have qR:s.length=l.length:=by rw[F];exact arQ l
 have Q:∀d∈s,e3 d:=fun d v=>Y d (by rw[F,acj]at v;exact v);rw[<-F]at br;rw[<-F];clear F;simp[vK,eC,cH];refine fT (fun i (x:Nat×List (List Bd×Nat))=>⟨[(5,.ptr (.obj 822) 0),(6,.slice 1 (.own (.loc 0)) (j1 Hc x.2)),(30,.row 1 (.obj 821) s.length),(31,aj s.length),(32,aj i)],[(.obj 822,[.row 1 (.obj 821) s.length])],[(.loc 0,⟨x.2.length,46,1,none⟩),(.obj 821,⟨s.length,46,1,some (s.map cM)⟩)],x.1,[.obj 821,.obj 822]⟩) s.length (fun i x=>1<=x.1/\rl x.1 x.2/\(x.2.map (·.1)).length<=i/\mQ s i (x.2.map (·.1))) (1,[]) cb ⟨dO _,.nil _,Ψ,by simp[mQ]⟩ (fun x f _=>?_) (fun i x hi f _=>?_)
 ·obtain⟨n,out⟩:=x;obtain⟨J,U,_,f⟩:=f;simp only at J U f;rw[mQ,List.drop_length]at f;have ar:out.map (·.1)=R:=by rw[<-br];simpa[cX]using f
  simp;(repeat' first|refine al ?_|simp);(refine h3.val Ψ ?_;simp[ba,be,a1,fb,hp,eD,gS,eh,gI,tnL,tn,fq,fW,fold,hE,hC,iJ,ae,ef,b9,b3,B4.okL,B4.nodup U,B4.stL,ar])
 ·obtain⟨n,out⟩:=x;obtain⟨J,U,V,f⟩:=f;simp only at J U V f;have a:=B4.kin U (dO _) [.obj 821,.obj 822];simp[fresh]at a;have c:¬n=0:=Ω
  have xQ:out.length<=68719476735:=by simp at V;omega
  generalize G:out.map (·.1)=acc at V f;have tl:acc.length<=68719476735:=Ω
  obtain⟨t,w,y⟩:=eV hi;have dx:=Q t (fx w);have H:(if jO s t=true then acc++[t]else acc).length<=acc.length+1:=by split<;>simp
  rcases Nat.eq_zero_or_pos i with rfl|X
  ·have Xf:=f.fst w;have o:(if jO s t=true then acc++[t]else acc).length<=0+1/\mQ s (0+1) (if jO s t=true then acc++[t]else acc):=⟨kg H Ω,Xf⟩;clear f Xf w;simp[hi,y];(repeat' first|refine al ?_|simp[hi,y]);refine e1 [5,6,8,30,31,32,49,50] (fun j (b:Bool)=>[(9,.bool b),(51,aj j)]) s.length (rH s t) true ⟨by simp[fresh,aH,aA,cd,aM,ae,a,c],ep (by simp[fresh,aH,aA,cd,aM,ae,a,c]),er (by simp[fresh,aH,aA,dW,aM,ae,a,c]),Ψ⟩ (by simp[rH]) (fun keep f _=>?_) (fun j keep g f _=>?_)
   ·rw[rH,jA,<-X9]at f;rw[<-f]at o;clear f;cases keep with
    |false=>simp only[hU,if_false]at o;simp;(repeat' first|refine al ?_|simp);all_goals exact bX.rng (n,out) hi ⟨J,U,fin G o⟩ ⟨by simp[fresh,aH,aA,cd,aM,ae,a,c],ep (by simp[fresh,aH,aA,cd,aM,ae,a,c]),er (by simp[fresh,aH,aA,dW,aM,ae,a,c]),Ψ⟩
    |true=>
     simp only[if_true]at o;clear H;simp;(repeat' first|refine al ?_|simp);(refine CallDo.own Ψ (Pc t dx.len) g8 ?_;simp);all_goals try refine⟨by unfold lim;omega,?_⟩
     all_goals(repeat' first|refine al ?_|simp)
     have B:=U.snoc t (dO n) (show n<n+2 by omega);have E:=B4.kin B (dO _) [.obj 821,.obj 822];simp[fresh]at E;refine bX.rng (n+2,out++[(t,n)]) hi ?_ ?_
     ·exact⟨Ψ,B,fin (by simp[G]) o⟩
     simp;exact⟨by simp[fresh,aH,aA,cd,aM,ae];exact⟨rfl,E⟩,ep (by simp[fresh,aH,aA,cd,aM,ae]),er (by simp[fresh,aH,aA,cd,aM,ae,dW]),Ψ⟩
   ·obtain⟨d,v,hdi⟩:=eV g;have k:=f.step v;have P:=Q d (fx v);have u:bT au 208 [cM d,cM t] (.bool (oS d t)):=adp d P.len dx;have m:bT au 207 [cM d,cM t] (aj (fc d t)):=KC d t;clear f v o;by_cases q:fc d t=0
    ·rw[x8,lK ((mT.zero _ _).1 q),Bool.true_or,Bool.and_true]at k;rw[q]at m;simp[g,hdi];(repeat' first|refine al ?_|refine aO m ?_|refine aP m ?_|simp[g,hdi]);all_goals exact bX.rng keep g k ⟨by simp[fresh,aH,aA,cd,aM,ae,a,c],ep (by simp[fresh,aH,aA,cd,aM,ae,a,c]),er (by simp[fresh,aH,aA,dW,aM,ae,a,c]),Ψ⟩
    ·rw[x8,mz (fun h=>q ((mT.zero _ _).2 h)),Bool.false_or]at k;have A:(fc d t !=0)=true:=by simp[q]
     cases bd:oS d t
     ·rw[bd]at k u;simp only[Bool.not_false,Bool.and_true]at k;simp[g,hdi];(repeat' first|refine al ?_|refine aO m ?_|refine aP m ?_|refine aO u ?_|refine aP u ?_|simp[g,hdi,q,A]);all_goals exact bX.rng keep g k ⟨by simp[fresh,aH,aA,cd,aM,ae,a,c],ep (by simp[fresh,aH,aA,cd,aM,ae,a,c]),er (by simp[fresh,aH,aA,dW,aM,ae,a,c]),Ψ⟩
     ·rw[bd]at k u;simp only[Bool.not_true,Bool.and_false]at k;simp[g,hdi];(repeat' first|refine al ?_|refine aO m ?_|refine aP m ?_|refine aO u ?_|refine aP u ?_|simp[g,hdi,q,A]);all_goals exact bX.rng false g k ⟨by simp[fresh,aH,aA,cd,aM,ae,a,c],ep (by simp[fresh,aH,aA,cd,aM,ae,a,c]),er (by simp[fresh,aH,aA,dW,aM,ae,a,c]),Ψ⟩
  ·obtain⟨p,z⟩:∃p,s[i-1]? =some p:=⟨_,ck Ω⟩;have M:((i:Int)-1).toNat=i-1:=Ω
   have N:∀h,(s[i-1]'h)=p:=fun h=>by rw[ck h]at z;exact eZ z
   have Z:¬i=0:=Ω
   have L:i-1<s.length:=Ω
   have K:(0:Int)<i:=Ω
   have jN:bT au 207 [cM p,cM t] (aj (fc p t)):=KC p t;by_cases O:p=t
   ·have o:acc.length<=i+1/\mQ s (i+1) acc:=⟨Ω,f.eq Z (by rw[z,O]) w⟩;rw[(mT.zero _ _).2 O]at jN;clear f w z;simp[hi,y,M,N,L,K];(repeat' first|refine al ?_|refine aO jN ?_|refine aP jN ?_|simp[hi,y,M,N,L,X,K]);all_goals exact bX.rng (n,out) hi ⟨J,U,fin G o⟩ ⟨by simp[fresh,aH,aA,cd,aM,ae,a,c],ep (by simp[fresh,aH,aA,cd,aM,ae,a,c]),er (by simp[fresh,aH,aA,dW,aM,ae,a,c]),Ψ⟩
   ·have o:(if jO s t=true then acc++[t]else acc).length<=i+1/\mQ s (i+1) (if jO s t=true then acc++[t]else acc):=⟨kg H Ω,f.ne Z z w O⟩;have W:¬fc p t=0:=fun h=>O ((mT.zero _ _).1 h);have S:(fc p t==0)=false:=by simp[W]
    clear f w z;simp[hi,y,M,N,L,K];(repeat' first|refine al ?_|refine aO jN ?_|refine aP jN ?_|simp[hi,y,M,N,L,X,K,W,S]);refine e1 [5,6,8,30,31,32,49,50] (fun j (b:Bool)=>[(9,.bool b),(51,aj j)]) s.length (rH s t) true ⟨by simp[fresh,aH,aA,cd,aM,ae,a,c],ep (by simp[fresh,aH,aA,cd,aM,ae,a,c]),er (by simp[fresh,aH,aA,dW,aM,ae,a,c]),Ψ⟩ (by simp[rH]) (fun keep f _=>?_) (fun j keep g f _=>?_)
    ·rw[rH,jA,<-X9]at f;rw[<-f]at o;clear f;cases keep with
     |false=>simp only[hU,if_false]at o;simp;(repeat' first|refine al ?_|simp);all_goals exact bX.rng (n,out) hi ⟨J,U,fin G o⟩ ⟨by simp[fresh,aH,aA,cd,aM,ae,a,c],ep (by simp[fresh,aH,aA,cd,aM,ae,a,c]),er (by simp[fresh,aH,aA,dW,aM,ae,a,c]),Ψ⟩
     |true=>
      simp only[if_true]at o;clear H;simp;(repeat' first|refine al ?_|simp);(refine CallDo.own Ψ (Pc t dx.len) g8 ?_;simp);all_goals try refine⟨by unfold lim;omega,?_⟩
      all_goals(repeat' first|refine al ?_|simp)
      have B:=U.snoc t (dO n) (show n<n+2 by omega);have E:=B4.kin B (dO _) [.obj 821,.obj 822];simp[fresh]at E;refine bX.rng (n+2,out++[(t,n)]) hi ?_ ?_
      ·exact⟨Ψ,B,fin (by simp[G]) o⟩
      simp;exact⟨by simp[fresh,aH,aA,cd,aM,ae];exact⟨rfl,E⟩,ep (by simp[fresh,aH,aA,cd,aM,ae]),er (by simp[fresh,aH,aA,cd,aM,ae,dW]),Ψ⟩
    ·obtain⟨d,v,hdi⟩:=eV g;have k:=f.step v;have P:=Q d (fx v);have u:bT au 208 [cM d,cM t] (.bool (oS d t)):=adp d P.len dx;have m:bT au 207 [cM d,cM t] (aj (fc d t)):=KC d t;clear f v o;by_cases q:fc d t=0
     ·rw[x8,lK ((mT.zero _ _).1 q),Bool.true_or,Bool.and_true]at k;rw[q]at m;simp[g,hdi];(repeat' first|refine al ?_|refine aO m ?_|refine aP m ?_|simp[g,hdi]);all_goals exact bX.rng keep g k ⟨by simp[fresh,aH,aA,cd,aM,ae,a,c],ep (by simp[fresh,aH,aA,cd,aM,ae,a,c]),er (by simp[fresh,aH,aA,dW,aM,ae,a,c]),Ψ⟩
     ·rw[x8,mz (fun h=>q ((mT.zero _ _).2 h)),Bool.false_or]at k;have A:(fc d t !=0)=true:=by simp[q]
      cases bd:oS d t
      ·rw[bd]at k u;simp only[Bool.not_false,Bool.and_true]at k;simp[g,hdi];(repeat' first|refine al ?_|refine aO m ?_|refine aP m ?_|refine aO u ?_|refine aP u ?_|simp[g,hdi,q,A]);all_goals exact bX.rng keep g k ⟨by simp[fresh,aH,aA,cd,aM,ae,a,c],ep (by simp[fresh,aH,aA,cd,aM,ae,a,c]),er (by simp[fresh,aH,aA,dW,aM,ae,a,c]),Ψ⟩
      ·rw[bd]at k u;simp only[Bool.not_true,Bool.and_false]at k;simp[g,hdi];(repeat' first|refine al ?_|refine aO m ?_|refine aP m ?_|refine aO u ?_|refine aP u ?_|simp[g,hdi,q,A]);all_goals exact bX.rng false g k ⟨by simp[fresh,aH,aA,cd,aM,ae,a,c],ep (by simp[fresh,aH,aA,cd,aM,ae,a,c]),er (by simp[fresh,aH,aA,dW,aM,ae,a,c]),Ψ⟩
def atG(l:List T)(h:∀t∈l,t.fit=true):bT au 172 [dw (l.map T.e)] (.bool true):=by
 refine bF a6 Tryz.func172 ZP fun b=>?_;unfold Ls;have d:l.length<=68719476736:=by simp[eK,eU,eM,lim]at b;omega
 simp;refine e1 [5,6] (fun i (_:Unit)=>[(7,aj i)]) l.length (fun _ _=>True) () cb trivial (fun _ _ _=>?_) (fun i _ hi _ _=>?_)
 ·exact cn
 ·obtain⟨t,a,c⟩:=eV hi;have e:=AF (h t (fx a));clear a;exact iU
def jE(m:Int):cT:=⟨[(.obj 831,[aj m])],[]⟩
def xb(m:Int):ey (jE m):=by unfold jE;exact ey.of ⟨by intro m;simp[ae],by intro m;simp[ae]⟩ Ψ Ψ
def ad7(a b:Int):Same (jE a) (jE b):=Same.keys (by simp[jE]) (by simp[jE])
def ajd(v m b:Int)(h:Gj v m=some b):bE au 204 [aj v,.ptr (.obj 831) 0] (jE m) fun r d=>r= .tuple []/\d=jE b:=by
 unfold Gj at h;split at h;rotate_left
 ·cases h
 rename_i f;cases h;have a:=xb m;simp only[jE]at a⊢;by_cases hm:m<v+1
 ·rw[sT,if_pos hm];refine bE.mk mixed a6 Tryz.func204 ZL Ψ a.obj fun e c=>?_;unfold Lo;simp;(repeat' first|refine al ?_|simp[hm]);(refine c6.at (jE (v+1)) Ψ (by first|exact xb _|exact xb ‹_› _) (Same.keys (by simp[jE]) (by simp[jE])) kf kf ?_;simp[dc,ba,be,a1,aM,ae,jE])
 ·rw[sT,if_neg hm];refine bE.mk mixed a6 Tryz.func204 ZL Ψ a.obj fun e c=>?_;unfold Lo;simp;(repeat' first|refine al ?_|simp[hm]);(refine c6.at (jE m) Ψ (by first|exact xb _|exact xb ‹_› _) (Same.keys (by simp[jE]) (by simp[jE])) kf kf ?_;simp[dc,ba,be,a1,aM,ae,jE])
def yL(l:List T):Int:=l.foldl (fun m t=>t.fold sT m) 0
def Iz(l:List T)(i:Nat)(m:Int):Prop:=m=yL (l.take i)
def ac6(l:List T)(h:∀t∈l,t.fit=true):bT au 162 [dw (l.map T.e)] (aj (yL l)):=by
 have f:=atG l h;generalize br:yL l=R;refine bF a6 Tryz.func162 an9 fun j=>?_;unfold SD;have k:l.length<=68719476736:=by simp[eK,eU,eM,lim]at j;omega
 simp;(repeat' first|refine al ?_|refine aO f ?_|refine aP f ?_|simp);refine fT (fun i (m:Int)=>⟨[(3,.ptr (.obj 831) 0),(9,dw (l.map T.e)),(10,aj l.length),(11,aj i)],[(.obj 831,[aj m])],[],0,[.obj 831]⟩) l.length (Iz l) 0 cb rfl (fun m b _=>?_) (fun i m hi b _=>?_)
 ·rw[Iz,jA,br]at b;subst b;exact cn
 ·obtain⟨t,d,e⟩:=eV hi;have c:t.ok=true:=by have:=h t (fx d);simp only[T.fit,cO]at this;exact this.1
  have g:Iz l (i+1) (t.fold sT m):=by rw[Iz,nK d,yL,List.foldl_append,b];rfl
  have key:=MI jE xb ad7 204 [.ptr (.obj 831) 0] (fun a=>by simp[jE,aM,ae]) Ψ Gj (fun v a bp h=>ajd v a bp h) t m _ (Ro t m c);clear b d;simp[hi,e];(repeat' first|refine al ?_|simp[e,hi]);(refine CallDo.ob (key) (by first|exact xb _|exact xb ‹_› _) kf kf (by simp[aM,ae,jE]) ?_;rintro r n ⟨rfl,rfl⟩;refine⟨(Same.keys (by simp[jE]) (by simp[jE])),?_⟩;simp[cH,jE]);(repeat' first|refine al ?_|simp);refine bX.rng (t.fold sT m) hi g ?_;exact cb
def ac7{s:List Bd}(j:e3 s){n:Int}(p:0<=n):bT au 89 [bH (s.map Bd.e),aj n] (.bool (s.all (lN n))):=by
 have u:=j.len;generalize br:s.all (lN n)=R;refine bF a6 Tryz.func89 aoa fun w=>?_;unfold SE;simp;refine e1 [1,7,8] (fun i (_:Unit)=>[(9,aj i)]) s.length (qX (lN n) s) () cb (fun k b ad=>Ω) (fun _ a _=>?_) (fun i _ hi a _=>?_)
 ·have:R=true:=by rw[<-br,j5];intro b r;obtain⟨k,ad,e⟩:=pM r;exact a k b ad (by rw[ck ad,e])
  rw[this];exact cn
 ·obtain⟨b,c,v⟩:=eV hi;have f:lN n b=false->R=false:=fun h=>by rw[<-br,Bool.eq_false_iff];intro g;rw[j5]at g;rw[g b (fx c)]at h;cases h
  have d:=ac6 [b.t] (fun t l=>by simp at l;subst l;exact j.fit b (fx c));have hle:=KG (n:=n) b.t 0;rw[show yL [b.t]=b.t.fold sT 0 from rfl]at d;simp only[gX,o2]at d;generalize b.t.fold sT 0=m at d hle;by_cases J:b.v<n
  ·have o:¬n<=b.v:=Ω
   cases U:fu n b.t
   ·have q:n<m:=by rw[U]at hle;simp at hle;omega
    rw[f (by simp[lN,U])];clear a c hle;exact cn
   ·have q:¬n<m:=by rw[U]at hle;simp[p]at hle;omega
    have x:=a.step c (by simp[lN,J,U]);clear a c hle;exact iU
  ·have o:n<=b.v:=Ω
   rw[f (by simp[lN,J])];clear a c hle;exact cn
def xf:C:=(aa [cU 1 0,bu 2 false] (.seq (aa [aF 11 0 1 1,az 12 1 11,aV 13 .lss 12 0,I 14 13,ax 14 false (aF 15 0 1 1),ax 14 false (az 16 1 15),ax 14 false (aV 17 .gtr 16 100000),dq 18 14 17,I 19 18,ax 19 false (aF 20 1 1 1),ax 19 false (az 21 1 20),ax 19 false (cQ 22 86 21),ax 19 false (cK 23 22),dq 24 19 23,I 25 24,ax 25 false (aF 26 3 1 1),ax 25 false (az 27 1 26),ax 25 false (cQ 28 87 27),ax 25 false (cK 29 28),dq 30 25 29,I 31 30,ax 31 false (aF 32 4 1 1),ax 31 false (az 33 1 32),ax 31 false (cQ 34 88 33),ax 31 false (cK 35 34),dq 36 31 35,I 37 36,ax 37 false (aF 38 1 1 1),ax 37 false (az 39 1 38),ax 37 false (aF 40 0 1 1),ax 37 false (az 41 1 40),ax 37 false (b8 42 89 39 41),ax 37 false (cK 43 42),dq 44 37 43] (aW 44 (aa [bu 2 false] .ret) .skip)) (.seq (aa [aF 45 2 1 1,az 46 1 45,cx 47 46,bM 48 0] (gz 49 48 47 (.seq (.block 1 (aa [cl 50 1 46 48,az 51 1 50,I 4 51] (aa [I 52 4,cQ 53 86 52,cK 54 53,I 55 54,cg 55 false 56 4,ax 55 false (aF 57 0 1 1),ax 55 false (az 58 1 57),ax 55 false (b8 59 89 56 58),ax 55 false (cK 60 59),dq 61 55 60] (aW 61 (aa [bu 2 false] .ret) .skip)))) (.region [aV 62 .add 48 1,I 48 62])))) (.seq (aa [aF 63 3 1 1,az 64 1 63,cx 65 64,bM 66 0] (.block 2 (.loop (aa [bt 67 .lss 66 65] (.seq (aW 67 .skip (.exit 2)) (.seq (.block 3 (aa [cl 68 2 64 66,bf 69 2 68,ds (.alloc 6 none (.agg [.int .i64 0,.int .i64 0])),bV 2 6 69] (aa [aF 70 0 1 6,az 71 1 70,aF 72 0 1 1,az 73 1 72,bt 74 .geq 71 73] (aW 74 (aa [bu 2 false] .ret) .skip)))) (.region [aV 75 .add 66 1,I 66 75]))))))) (.seq (aa [aF 76 4 1 1,az 77 1 76,cx 78 77,bM 79 0] (.block 4 (.loop (aa [bt 80 .lss 79 78] (.seq (aW 80 .skip (.exit 4)) (.seq (.block 5 (aa [cl 81 2 77 79,bf 82 2 81,ds (.alloc 8 none (.agg [.int .i64 0,.str []])),bV 2 8 82] (aa [aF 83 0 1 8,az 84 1 83,aF 85 0 1 1,az 86 1 85,bt 87 .geq 84 86] (aW 87 (aa [bu 2 false] .ret) .skip)))) (.region [aV 88 .add 79 1,I 79 88]))))))) (aa [bf 90 5 1,cQ 91 90 90,I 89 91,cS 92 0 89,cS 93 1 89,dF 9 iq,bV 5 9 92,I 10 93] (aa [I 94 10,I 95 94,ax 95 true (bf 96 5 9),ax 95 true (bf 97 5 1),ax 95 true (b8 98 91 96 97),ej 99 95 98,I 2 99] .ret)))))))
def GV:C:=(aa [cU 1 0,dF 2 iq,bu 3 false] (aa [aF 26 1 1 1,az 27 1 26,aF 28 3 1 1,az 29 1 28,b8 30 163 27 29,I 25 30,cS 31 0 25,cS 32 1 25,I 4 31,I 5 32] (aa [aF 34 1 1 1,az 35 1 34,aF 36 4 1 1,az 37 1 36,b8 38 164 35 37,I 33 38,cS 39 0 33,cS 40 1 33,I 6 39,I 7 40] (.seq (aa [I 41 5,cK 42 41,I 43 42,cg 43 false 44 7,ax 43 false (cK 45 44),dq 46 43 45] (aW 46 (aa [jz 47 iq [],bV 5 2 47,bu 3 false] .ret) .skip)) (aa [ds (.mkmap 48 none),I 8 48] (.seq (aa [I 49 4,cx 50 49,bM 51 0] (gz 52 51 50 (.seq (.block 1 (aa [cl 53 2 49 51,bf 54 2 53,ds (.alloc 10 none (.agg [.int .i64 0,.int .i64 0])),bV 2 10 54] (aa [aF 55 1 1 10,az 56 1 55,aV 57 .eql 56 3] (aW 57 (.region [I 58 8,aF 59 0 1 10,az 60 1 59,ds (.mput .i (.t 58) (.t 60) (.c (.bool true)))]) .skip)))) (.region [aV 61 .add 51 1,I 51 61])))) (aa [eX 62 2 100 [],I 11 62] (.seq (aa [I 63 6,cx 64 63,bM 65 0] (.block 2 (.loop (aa [bt 66 .lss 65 64] (.seq (aW 66 .skip (.exit 2)) (.seq (.block 3 (aa [cl 67 2 63 65,bf 68 2 67,ds (.alloc 13 none (.agg [.int .i64 0,.str []])),bV 2 13 68] (aa [I 69 8,aF 70 0 1 13,az 71 1 70,cf 72 (.mget .i (.bool false) false (.t 69) (.t 71)),cK 73 72] (aW 73 (.region [I 74 11,bf 75 2 13,eX 76 2 100 [.t 75],hT 77 2 100 74 76,I 11 77]) .skip)))) (.region [aV 78 .add 65 1,I 65 78]))))))) (aa [eX 79 1 46 [],I 14 79] (.seq (aa [aF 80 2 1 1,az 81 1 80,cx 82 81,bM 83 0] (.block 4 (.loop (aa [bt 84 .lss 83 82] (.seq (aW 84 .skip (.exit 4)) (.seq (.block 5 (aa [cl 85 1 81 83,az 86 1 85,I 16 86] (aa [aF 88 1 1 1,az 89 1 88,I 90 16,b8 91 165 89 90,I 87 91,cS 92 0 87,cS 93 1 87,I 17 92,I 18 93] (.seq (aa [I 94 18,cK 95 94] (aW 95 (.exit 5) .skip)) (aa [I 97 17,I 98 4,b8 99 163 97 98,I 96 99,cS 100 0 96,cS 101 1 96,I 19 100,I 20 101] (aa [I 103 17,I 104 11,b8 105 164 103 104,I 102 105,cS 106 0 102,cS 107 1 102,I 21 106,I 22 107] (.seq (aa [I 108 20,cK 109 108,I 110 109,cg 110 false 111 22,ax 110 false (cK 112 111),dq 113 110 112] (aW 113 (.exit 5) .skip)) (aa [aF 114 1 1 1,az 115 1 114,I 116 17,b8 117 166 115 116,I 23 117] (.seq (aa [I 118 23,cx 119 118,aV 120 .eql 119 0] (aW 120 (aa [jz 121 iq [],bV 5 2 121,bu 3 false] .ret) .skip)) (.region [I 122 14,I 123 23,eX 124 1 46 [.t 123],hT 125 1 46 122 124,I 14 125])))))))))) (.region [aV 126 .add 83 1,I 83 126]))))))) (aa [I 127 14,cQ 128 167 127,I 24 128] (.seq (aa [I 129 24,cx 130 129,aV 131 .gtr 130 30] (aW 131 (aa [jz 132 iq [],bV 5 2 132,bu 3 false] .ret) .skip)) (.seq (.drawn true 142 [aF 133 0 1 1,az 134 1 133,aF 135 1 1 1,az 136 1 135,cQ 137 168 136,I 138 24,I 139 4,I 140 11,jz 141 iq [(0,1,(.t 134)),(1,1,(.t 137)),(2,1,(.t 138)),(3,1,(.t 139)),(4,1,(.t 140))],bV 5 2 141,bu 3 true]) .ret)))))))))))))
def y7:C:=(aa [cU 2 0,cU 3 1,bu 4 false] (.seq (aa [aF 8 0 1 2,az 9 1 8,aF 10 0 1 3,az 11 1 10,bt 12 .neq 9 11,I 13 12,ax 13 false (aF 14 1 1 2),ax 13 false (az 15 1 14),ax 13 false (aF 16 1 1 3),ax 13 false (az 17 1 16),ax 13 false (b8 18 169 15 17),ax 13 false (cK 19 18),dq 20 13 19,I 21 20,ax 21 false (aF 22 2 1 2),ax 21 false (az 23 1 22),ax 21 false (cx 24 23),ax 21 false (aF 25 2 1 3),ax 21 false (az 26 1 25),ax 21 false (cx 27 26),ax 21 false (bt 28 .neq 24 27),dq 29 21 28,I 30 29,ax 30 false (aF 31 3 1 2),ax 30 false (az 32 1 31),ax 30 false (cx 33 32),ax 30 false (aF 34 3 1 3),ax 30 false (az 35 1 34),ax 30 false (cx 36 35),ax 30 false (bt 37 .neq 33 36),dq 38 30 37,I 39 38,ax 39 false (aF 40 4 1 2),ax 39 false (az 41 1 40),ax 39 false (cx 42 41),ax 39 false (aF 43 4 1 3),ax 39 false (az 44 1 43),ax 39 false (cx 45 44),ax 39 false (bt 46 .neq 42 45),dq 47 39 46] (aW 47 (aa [bu 4 false] .ret) .skip)) (.seq (aa [aF 48 2 1 2,az 49 1 48,cx 50 49,bM 51 0] (gz 52 51 50 (.seq (.block 1 (aa [I 53 51,I 5 53] (.seq (.drawn true 103 [aF 54 2 1 2,az 55 1 54,I 56 5,cl 57 1 55 56,az 58 1 57,aF 59 2 1 3,az 60 1 59,I 61 5,cl 62 1 60 61,az 63 1 62,b8 64 169 58 63,cK 65 64]) (aW 65 (aa [bu 4 false] .ret) .skip)))) (.region [aV 66 .add 51 1,I 51 66])))) (.seq (aa [aF 67 3 1 2,az 68 1 67,cx 69 68,bM 70 0] (.block 2 (.loop (aa [bt 71 .lss 70 69] (.seq (aW 71 .skip (.exit 2)) (.seq (.block 3 (aa [I 72 70,I 6 72] (.seq (.drawn true 103 [aF 73 3 1 2,az 74 1 73,I 75 6,cl 76 2 74 75,bf 77 2 76,aF 78 3 1 3,az 79 1 78,I 80 6,cl 81 2 79 80,bf 82 2 81,cf 83 (.beq true (some [false,false]) (.t 77) (.t 82))]) (aW 83 (aa [bu 4 false] .ret) .skip)))) (.region [aV 84 .add 70 1,I 70 84]))))))) (.seq (aa [aF 85 4 1 2,az 86 1 85,cx 87 86,bM 88 0] (.block 4 (.loop (aa [bt 89 .lss 88 87] (.seq (aW 89 .skip (.exit 4)) (.seq (.block 5 (aa [I 90 88,I 7 90] (.seq (.drawn true 103 [aF 91 4 1 2,az 92 1 91,I 93 7,cl 94 2 92 93,bf 95 2 94,aF 96 4 1 3,az 97 1 96,I 98 7,cl 99 2 97 98,bf 100 2 99,cf 101 (.beq true (some [false,true]) (.t 95) (.t 100))]) (aW 101 (aa [bu 4 false] .ret) .skip)))) (.region [aV 102 .add 88 1,I 88 102]))))))) (aa [bu 4 true] .ret))))))
def z8:b2 aS xf [.tmp 2] 1 Tryz.f29=true:=bi
def Pq:b2 aS GV [.cell 2 true 5,.tmp 3] 1 Tryz.f90=true:=bi
def Cz:b2 aS y7 [.tmp 4] 2 Tryz.f91=true:=bi
def dd.e(s:dd):af:= .agg [aj s.n,bH (s.b.map Bd.e),c1 (s.d.map cM),b5 (s.k.map bJ.e),b5 (s.m.map bn.e)]
def rW(o:Option dd):af:= .tuple [(o.getD ih).e,.bool o.isSome]
def wD(k:List bJ)(i:Nat)(l:List (Int×Bool)):Prop:= ∀v,(dp v l).getD false=(k.take i).any fun x=>x.v==v&&x.k==3
def wD.put{k:List bJ}{i:Nat}{l:List (Int×Bool)}(h:wD k i l){x:bJ}(b:k[i]? =some x)(a:x.k=3):wD k (i+1) (fD x.v true l):=fun v=>by
 rw[oY,nK b,List.any_append,<-h v];by_cases e:v=x.v
 ·rw[if_pos e];simp[e,a]
 ·rw[if_neg e];have:(x.v==v)=false:=by simp;exact fun h=>e h.symm
  simp[this]
def wD.skip{k:List bJ}{i:Nat}{l:List (Int×Bool)}(h:wD k i l){x:bJ}(b:k[i]? =some x)(a:¬x.k=3):wD k (i+1) l:=fun v=>by
 rw[nK b,List.any_append,<-h v];have:(x.k==3)=false:=by simp[a]
 simp[this]
def wD.fin{k:List bJ}{l:List (Int×Bool)}(h:wD k k.length l)(ad:jN k)(x:bn):(dp x.v l).getD false= !ly k x:=by rw[h x.v,jA,aen ad.asc,ly,bne,Bool.not_not]
def u3(k:List bJ)(m:List bn)(i:Nat)(a:List bn):Prop:=a=(m.take i).filter (ly k)
def u3.step{k:List bJ}{m:List bn}{i:Nat}{a:List bn}(h:u3 k m i a){x:bn}(b:m[i]? =some x):u3 k m (i+1) (if ly k x=true then a++[x]else a):=by
 rw[u3,nK b,List.filter_append,<-h];by_cases e:ly k x=true
 ·rw[if_pos e];simp[e]
 ·rw[if_neg e];simp[e]
def B8(S:aB->Prop)(l:List bn)(d:bn):aH S (l.map bn.e++[d.e])=True:=by have:=Oo S (l++[d]);rw[List.map_append]at this;exact h1 this
def YV{k:List bJ}{m:List bn}(h:iT m):iT (m.filter (ly k)):=⟨fun x a=>h.at' x (oq.1 a).1,adR _ h.asc⟩
def Q0{G:List (List cV)}{k:List bJ}{m:List bn}(h:oX G m):oX G (m.filter (ly k)):=fun x a=>h x (oq.1 a).1
def rI.skip{b:List Bd}{k:List bJ}{m:List bn}{aY:List (List Bd)}{i:Nat}{a:List (List Bd)}(h:rI b k m aY i a){d:List Bd}(c:aY[i]? =some d)(he:∀r,hN b k m (d::r)=hN b k m r):rI b k m aY (i+1) a:=⟨by have:=h.1;omega,h.2.1,by rw[<-h.2.2,vb c,he]⟩
def rI.snoc{b:List Bd}{k:List bJ}{m:List bn}{aY:List (List Bd)}{i:Nat}{a:List (List Bd)}(h:rI b k m aY i a){d x:List Bd}(f:aY[i]? =some d)(e:e3 x)(he:∀r,hN b k m (d::r)=(hN b k m r).map (x:: ·)):rI b k m aY (i+1) (a++[x]):=
 ⟨by have:=h.1;simp;omega,fun y c=>by
  rcases jT.1 c with c|c
  ·exact h.2.1 y c
  ·simp at c;subst c;exact e,by
  rw[<-h.2.2,vb f,he,Option.map_map];congr 1;funext r;simp⟩
def rI.stop{b:List Bd}{k:List bJ}{m:List bn}{aY:List (List Bd)}{i:Nat}{a:List (List Bd)}(h:rI b k m aY i a){d:List Bd}(c:aY[i]? =some d)(he:∀r,hN b k m (d::r)=none):hN b k m aY=none:=by rw[<-h.2.2,vb c,he];rfl
def rI.fin{b:List Bd}{k:List bJ}{m:List bn}{aY:List (List Bd)}{a:List (List Bd)}(h:rI b k m aY aY.length a):hN b k m aY=some a:=by rw[<-h.2.2,List.drop_length];simp[hN]
def u7(S:aB->Prop)(l:List (List Bd))(d:List Bd):aH S (l.map cM++[bH (d.map Bd.e)])=True:=amx S l d
def DP{d:List Bd}(a:e3 d):∀e∈iy d,e.1.ok=true/\e.2.ok=true:=fun e he=>by obtain⟨c,ay,rfl⟩:=hc.1 he;have:=a.ok c ay;exact⟨by simpa[T.ok]using this.1,this.2⟩
@[simp]def axn(l:List bn):fW (l.map bn.e)=True:=h1 (Fo (f:=bn.e) (fun _=>⟨trivial,trivial,trivial⟩) l)
@[simp]def ayz(l:List bn):tnL (l.map bn.e)=[]:=Kt (f:=bn.e) (fun _=>rfl) l
def dd.kk(s:dd)(κ:Nat):af:= .agg [aj s.n,.slice 5 (.tr (.loc κ) 0) (s.b.map Bd.e),.slice 1 (.tr (.loc κ) 1) (s.d.map cM),.slice 2 (.tr (.loc κ) 2) (s.k.map bJ.e),.slice 2 (.tr (.loc κ) 3) (s.m.map bn.e)]
def pC(o:Option dd)(κ:Nat):af:= .tuple [(o.getD ih).kk κ,.bool o.isSome]
def aq8:og none=fun κ=>.tuple [.slice 2 (.tr (.loc κ) 0) [],.bool false]:=rfl
def abU(k:List bJ):og (some k)=fun κ=>.tuple [.slice 2 (.tr (.loc κ) 0) (k.map bJ.e),.bool true]:=rfl
def Pd{s:dd}(h:pD s){G:List (List cV)}(j9:G.length<=687000)(bd:oX G s.m):fY au 90 [s.e] (pC (jk s)):=by
 generalize f:jk s=O;have w:=Zy h.b h.k;have u:=ac5 h.b h.m j9 bd;have kk:=fun k=>JO (acc:=[]) (a:=k) h.b h.k.at' ⟨Ψ,Ψ⟩;have E:=fun m=>JP (acc:=[]) (a:=m) h.b h.m.at' ⟨Ψ,by simp[iO]⟩;have F:=fun m=>JQ (acc:=[]) (a:=m) (s:=s.b) bd (fun x g=>by simp at g);have K:=h.b;have aK:=h.d;clear h bd;unfold jk at f;obtain⟨n,b,d,Q,m0⟩:=s;simp only at w u kk E F K aK f;have gg:=K.len;simp only[dd.e];generalize gU b Q []=ok at w f kk;generalize ha b m0 []=om at u f E F;cases ok with
 |none=>
  simp only at f;subst f;simp only[aq8]at w;simp only[j3]at u;clear kk E F;refine fY.mk mixed a6 Tryz.func90 Pq Ψ fun aR κ=>?_;unfold GV;simp;(repeat' first|refine al ?_|simp);(refine CallDo.own Ψ (w) g8 ?_;simp);(repeat' first|refine al ?_|refine aO u ?_|refine aP u ?_|simp);all_goals(refine h3.val Ψ ?_;simp[ba,be,a1,fb,hp,eD,gS,eh,gI,tnL,tn,fq,fW,fold,hE,hC,iJ,ae,ef,b9,b3])
  all_goals simp[pC,ih,dd.kk]
 |some k=>
  simp only at f;cases om with
  |none=>
   simp only at f;subst f;simp only[abU]at w;simp only[j3]at u;clear kk E F;refine fY.mk mixed a6 Tryz.func90 Pq Ψ fun aR κ=>?_;unfold GV;simp;(repeat' first|refine al ?_|simp);(refine CallDo.own Ψ (w) g8 ?_;simp);(repeat' first|refine al ?_|refine aO u ?_|refine aP u ?_|simp);all_goals(refine h3.val Ψ ?_;simp[ba,be,a1,fb,hp,eD,gS,eh,gI,tnL,tn,fq,fW,fold,hE,hC,iJ,ae,ef,b9,b3])
   all_goals simp[pC,ih,dd.kk]
  |some m=>
   simp only at f;have W:=kk k rfl;have V:=E m rfl;have U:=F m rfl;have jw:=tM W;have nX:m.length<=68719470000:=by have:=E9 V U;omega
   have BL:=YV (k:=k) V;have BF:=Q0 (k:=k) U;have ak8:(m.filter (ly k)).length<=68719470000:=kg (List.length_filter_le _ _) nX;simp only[abU]at w;simp only[j3,ma,sX]at u;clear kk E F;refine fY.mk mixed a6 Tryz.func90 Pq Ψ fun aR κ=>?_;unfold GV;have M8:d.length<=68719476736:=by simp[eK,eU,eM,lim]at aR;omega
   simp;(repeat' first|refine al ?_|simp);(refine CallDo.own Ψ (w) g8 ?_;simp);(repeat' first|refine al ?_|refine aO u ?_|refine aP u ?_|simp);refine fT (fun i (l:List (Int×Bool))=>⟨[(1,.ptr (.loc 0) 0),(2,.ptr (.loc 1) 0),(4,.slice 2 (.tr (.loc 2) 0) (k.map bJ.e)),(6,b5 (m.map bn.e)),(8,.gmap (.loc 3)),(49,.slice 2 (.tr (.loc 2) 0) (k.map bJ.e)),(50,aj k.length),(51,aj i)],[(.loc 0,[aj n,bH (b.map Bd.e),c1 (d.map cM),b5 (Q.map bJ.e),b5 (m0.map bn.e)]),(.loc 1,[aj 0,.slice 5 .nil [],.slice 1 .nil [],.slice 2 .nil [],.slice 2 .nil []]),(.loc 3,rN l)],[],4,[]⟩) k.length (wD k) [] ⟨by simp[fresh,aH,aA,cd,aM,ae,OG],ep (by simp[fresh,aH,aA,cd,aM,ae,OG]),er (by simp[fresh,aH,aA,dW,aM,ae,OG]),Ψ⟩ (fun v=>by simp[dp]) (fun l c _=>?_) (fun i l hi c _=>?_);rotate_left
   ·obtain⟨x,g,o⟩:=eV hi;by_cases Z:x.k=3
    ·have j:=c.put g Z;clear c g;exact iU
    ·have j:=c.skip g Z;have uO:(x.k==3)=false:=by simp[Z]
     clear c g;exact iU
   have hints:=c.fin W;clear c;simp;(repeat' first|refine al ?_|simp);refine fT (fun i (a:List bn)=>⟨[(1,.ptr (.loc 0) 0),(2,.ptr (.loc 1) 0),(4,.slice 2 (.tr (.loc 2) 0) (k.map bJ.e)),(8,.gmap (.loc 3)),(11,.slice 2 (.own (.loc 4)) (a.map bn.e)),(63,b5 (m.map bn.e)),(64,aj m.length),(65,aj i)],[(.loc 0,[aj n,bH (b.map Bd.e),c1 (d.map cM),b5 (Q.map bJ.e),b5 (m0.map bn.e)]),(.loc 1,[aj 0,.slice 5 .nil [],.slice 1 .nil [],.slice 2 .nil [],.slice 2 .nil []]),(.loc 3,rN l)],[(.loc 4,⟨a.length,100,2,none⟩)],5,[]⟩) m.length (u3 k m) [] cb (by simp[u3]) (fun a c _=>?_) (fun i a hi c _=>?_);rotate_left
   ·obtain⟨x,g,o⟩:=eV hi;have tl:a.length<=68719470000:=by
     have:a.length<=(m.take i).length:=by rw[c];exact List.length_filter_le _ _
     simp at this;omega
    have j:=c.step g;have J:=hints x;cases R:ly k x
    ·rw[R]at j J;simp only[hU,if_false,Bool.not_false]at j J;clear c g R;simp[hi,o];((repeat' first|refine al ?_|simp[hi,o,J]|((first|apply cq|apply cu|apply ct)<;>intro h<;>try simp at h))<;>(try exact c0));all_goals exact bX.rng a hi j cb
    ·rw[R]at j J;simp only[if_true,Bool.not_true]at j J;clear c g R;simp[hi,o];((repeat' first|refine al ?_|simp[hi,o,J]|((first|apply cq|apply cu|apply ct)<;>intro h<;>try simp at h))<;>(try exact c0));all_goals try refine⟨by unfold lim;omega,?_⟩
     all_goals(repeat' first|refine al ?_|simp)
     all_goals exact bX.rng (a++[x]) hi j ⟨by simp[fresh,aH,aA,cd,aM,ae,B8],ep (by simp[fresh,aH,aA,cd,aM,ae,B8]),er (by simp[fresh,aH,aA,dW,aM,ae,B8]),Ψ⟩
   rw[u3,jA]at c;rw[<-c]at BL BF ak8 f;clear c hints jw V U;simp;(repeat' first|refine al ?_|simp);refine fT (fun i (L:List (List Bd))=>⟨[(1,.ptr (.loc 0) 0),(2,.ptr (.loc 1) 0),(4,.slice 2 (.tr (.loc 2) 0) (k.map bJ.e)),(11,.slice 2 (.own (.loc 4)) (a.map bn.e)),(14,.slice 1 (.own (.loc 5)) (L.map cM)),(81,c1 (d.map cM)),(82,aj d.length),(83,aj i)],[(.loc 0,[aj n,bH (b.map Bd.e),c1 (d.map cM),b5 (Q.map bJ.e),b5 (m0.map bn.e)]),(.loc 1,[aj 0,.slice 5 .nil [],.slice 1 .nil [],.slice 2 .nil [],.slice 2 .nil []])],[(.loc 4,⟨a.length,100,2,none⟩),(.loc 5,⟨L.length,46,1,none⟩)],6,[]⟩) d.length (rI b k a d) [] cb ⟨Ψ,Ψ,Ψ⟩ (fun L c _=>?_) (fun i L hi c _=>?_)
   ·have fk:=c.fin;have xz:=c.2.1;rw[fk]at f;simp only at f;have X:=anL L xz;have qd:=Pc b gg;clear c fk xz;generalize lZ L=M at X f;by_cases N:M.length<=30
    ·have Y:¬(30:Int)<M.length:=Ω
     rw[if_pos N]at f;subst f;simp;(repeat' first|refine al ?_|simp);(refine CallDo.own Ψ (X) g8 ?_;simp);(repeat' first|refine al ?_|simp[N,Y]);(refine hJ.own Ψ (qd) (by simp[qJ,ae]<;>omega) ?_;simp);(repeat' first|refine al ?_|simp);all_goals(refine h3.val Ψ ?_;simp[ba,be,a1,fb,hp,eD,gS,eh,gI,tnL,tn,fq,fW,fold,hE,hC,iJ,ae,ef,b9,b3])
     all_goals simp[pC,dd.kk]
    ·have Y:(30:Int)<M.length:=Ω
     rw[if_neg N]at f;subst f;simp;(repeat' first|refine al ?_|simp);(refine CallDo.own Ψ (X) g8 ?_;simp);(repeat' first|refine al ?_|simp[N,Y]);all_goals(refine h3.val Ψ ?_;simp[ba,be,a1,fb,hp,eD,gS,eh,gI,tnL,tn,fq,fW,fold,hE,hC,iJ,ae,ef,b9,b3])
     all_goals simp[pC,ih,dd.kk]
   ·obtain⟨x,g,o⟩:=eV hi;have h8:=aK x (fx g);have Wz:=c.1;have p:bT au 165 [bH (b.map Bd.e),cM x] (gw (mgu b (iy x))):=ast K h8;simp only[gw]at p;cases hu:mgu b (iy x)with
    |none=>have j:=c.skip g fun r=>OA hu;rw[hu]at p;simp only[my,k6]at p;clear c g f;exact iU
    |some y=>
     have P:=K.mgu (DP h8) hu;rw[hu]at p;simp only[ma,sX]at p;have q:=asx P W;have t:=ac5 P BL j9 BF;have H:=ac4 K P;simp only[q6]at q;simp only[j3]at t;by_cases A:gU y k []=none\/ha y a []=none
     ·have j:=c.skip g fun r=>Oz hu A;clear c g f hu;rcases A with e|e
      ·rw[e]at q;simp only[my,k6]at q;exact iU
      ·rw[e]at t;simp only[my,k6]at t;cases (gU y k []).isSome
       ·simp[hi,o];((repeat' first|refine al ?_|refine aO p ?_|refine aP p ?_|refine aO q ?_|refine aP q ?_|refine aO t ?_|refine aP t ?_|simp[hi,o]|((first|apply cq|apply cu|apply ct)<;>intro h<;>try simp at h))<;>(try exact c0));all_goals exact bX.rng L hi j cb
       ·simp[hi,o];((repeat' first|refine al ?_|refine aO p ?_|refine aP p ?_|refine aO q ?_|refine aP q ?_|refine aO t ?_|refine aP t ?_|simp[hi,o]|((first|apply cq|apply cu|apply ct)<;>intro h<;>try simp at h))<;>(try exact c0));all_goals exact bX.rng L hi j cb
     ·have ao:(gU y k []).isSome=true:=by cases e:gU y k []with|none=>exact absurd (.inl e) A|some _=>rfl
      have aC:(ha y a []).isSome=true:=by cases e:ha y a []with|none=>exact absurd (.inr e) A|some _=>rfl
      rw[ao]at q;rw[aC]at t;by_cases B:fp b y=[]
      ·have ai:=c.stop g fun r=>Oy hu A B;rw[ai]at f;simp only at f;subst f;rw[B]at H;simp only[o2]at H;clear c g hu A;simp[hi,o];((repeat' first|refine al ?_|refine aO p ?_|refine aP p ?_|refine aO q ?_|refine aP q ?_|refine aO t ?_|refine aP t ?_|refine aO H ?_|refine aP H ?_|simp[hi,o]|((first|apply cq|apply cu|apply ct)<;>intro h<;>try simp at h))<;>(try exact c0));all_goals(refine h3.val Ψ ?_;simp[ba,be,a1,fb,hp,eD,gS,eh,gI,tnL,tn,fq,fW,fold,hE,hC,iJ,ae,ef,b9,b3])
       all_goals simp[pC,ih,dd.kk]
      ·have j:=c.snoc g (Fi (b:=b) P) fun r=>OB hu A B;have xN:¬((fp b y).length:Int)=0:=by have:(fp b y).length≠0:=fun h=>B (List.length_eq_zero_iff.1 h);omega
       have xO:(((fp b y).length:Int)==0)=false:=by simp[B]
       have S:bT au 166 [bH (b.map Bd.e),bH (y.map Bd.e)] (cM (fp b y)):=H;clear c g hu A f H;generalize fp b y=z at S j xN xO B;simp only[cM]at S;simp[hi,o];(repeat' first|refine al ?_|refine aO p ?_|refine aP p ?_|refine aO q ?_|refine aP q ?_|refine aO t ?_|refine aP t ?_|refine aO S ?_|refine aP S ?_|simp[hi,o,xN,xO,B]);all_goals try refine⟨by unfold lim;omega,?_⟩
       all_goals(repeat' first|refine al ?_|simp)
       all_goals exact bX.rng (L++[z]) hi j ⟨by simp[fresh,aH,aA,cd,aM,ae,u7,cM],ep (by simp[fresh,aH,aA,cd,aM,ae,u7,cM]),er (by simp[fresh,aH,aA,dW,aM,ae,u7,cM]),Ψ⟩
def atx{s:dd}(h:pD s){G:List (List cV)}(a:G.length<=687000)(bd:oX G s.m):bT au 90 [s.e] (rW (jk s)):=by have:=(Pd h a bd).val (by simp[pC,dd.kk,b3]);simpa[pC,dd.kk,b3,b9,rW,dd.e]using this
@[simp]def aun(neg:Bool)(x y:bJ):js neg (some [false,false]) x.e y.e=some (True,.bool (if neg then !decide (x=y)else decide (x=y))):=by
 have h:(x.v==y.v&&(x.k==y.k&&true))=decide (x=y):=by rw[rf];simp only[Bool.and_true,cO,eA,gn];cases x;cases y;simp
 rw[<-h];rfl
@[simp]def auo(neg:Bool)(x y:bn):js neg (some [false,true]) x.e y.e=some (True,.bool (if neg then !decide (x=y)else decide (x=y))):=by
 have h:(x.v==y.v&&(x.s==y.s&&true))=decide (x=y):=by rw[rf];simp only[Bool.and_true,cO,eA,gn];cases x;cases y;simp
 rw[<-h];rfl
def asM(x y:List Bd)(h:x.length<=1000000):bT au 169 [cM x,cM y] (.bool (decide (x=y))):=Rc x y h
def atw(a c:dd)(K:a.b.length<=1000000)(L:∀x∈a.d,x.length<=1000000):bT au 91 [a.e,c.e] (.bool (decide (a=c))):=by
 obtain⟨n,b,d,k,m⟩:=a;obtain⟨n',b0,t,bs,s⟩:=c;simp only at K L;generalize br:decide ((⟨n,b,d,k,m⟩:dd)=⟨n',b0,t,bs,s⟩)=R;simp only[dd.mk.injEq,dd.e]at br⊢;by_cases G:n=n';rotate_left
 ·have o:R=false:=by rw[<-br];simp[G]
  have V:(n !=n')=true:=by simp[G]
  rw[o];clear br o;refine bF a6 Tryz.func91 Cz fun u=>?_;unfold y7;exact cn
 subst G;have g:=Rc b b0 K;by_cases F:b=b0;rotate_left
 ·have o:R=false:=by rw[<-br];simp[F]
  rw[mz F]at g;rw[o];clear br o;refine bF a6 Tryz.func91 Cz fun u=>?_;unfold y7;exact cn
 subst F;rw[lK rfl]at g;by_cases E:d.length=t.length;rotate_left
 ·have o:R=false:=by rw[<-br];simp only[iN];rintro⟨_,_,rfl,_⟩;exact E rfl
  have U:((d.length:Int) !=t.length)=true:=by simp;omega
  rw[o];clear br o;refine bF a6 Tryz.func91 Cz fun u=>?_;unfold y7;exact cn
 by_cases w:k.length=bs.length;rotate_left
 ·have o:R=false:=by rw[<-br];simp only[iN];rintro⟨_,_,_,rfl,_⟩;exact w rfl
  have N:((k.length:Int) !=bs.length)=true:=by simp;omega
  rw[o];clear br o;refine bF a6 Tryz.func91 Cz fun u=>?_;unfold y7;exact cn
 by_cases B:m.length=s.length;rotate_left
 ·have o:R=false:=by rw[<-br];simp only[iN];rintro⟨_,_,_,_,rfl⟩;exact B rfl
  have M:((m.length:Int) !=s.length)=true:=by simp;omega
  rw[o];clear br o;refine bF a6 Tryz.func91 Cz fun u=>?_;unfold y7;exact cn
 have J:d≠t->R=false:=fun h=>by rw[<-br];simp[h]
 have H:k≠bs->R=false:=fun h=>by rw[<-br];simp[h]
 have S:m≠s->R=false:=fun h=>by rw[<-br];simp[h]
 refine bF a6 Tryz.func91 Cz fun u=>?_;unfold y7;have Q:t.length<=68719476736:=by simp[eK,eU,eM,lim]at u;omega
 have P:bs.length<=68719476736:=by simp[eK,eU,eM,lim]at u;omega
 have O:s.length<=68719476736:=by simp[eK,eU,eM,lim]at u;omega
 clear u;simp;(repeat' first|refine al ?_|refine aO g ?_|refine aP g ?_|simp[E,w,B]);have v:=J;refine e1 [2,3,50] (fun i (_:Unit)=>[(51,aj i)]) t.length (ta d t) () cb (fun k ad=>Ω) (fun _ j _=>?_) (fun i _ hi j _=>?_);rotate_left
 ·obtain⟨x,e⟩:∃x,d[i]? =some x:=⟨_,ck Ω⟩;obtain⟨y,f⟩:∃y,t[i]? =some y:=⟨_,ck hi⟩;have l:i<d.length:=Ω
  have r:∀h,(d[i]'h)=x:=fun h=>by rw[ck l]at e;exact eZ e
  have p:∀h,(t[i]'h)=y:=fun h=>by rw[ck hi]at f;exact eZ f
  have g:=asM x y (L x (fx e));by_cases q:x=y
  ·subst q;have A:=j.step e f;rw[lK rfl]at g;clear j e f;simp[hi,l,r,p,-js];(repeat' first|refine al ?_|refine aO g ?_|refine aP g ?_|simp[r,p,hi,l,-js]);all_goals exact bX.rng () hi A cb
  ·rw[v (fun h=>q (by rw[h]at e;rw[e]at f;exact eZ f))];rw[mz q]at g;clear j e f;simp[hi,l,r,p,-js];(repeat' first|refine al ?_|refine aO g ?_|refine aP g ?_|simp[r,p,hi,l,q,-js]);all_goals simp[bZ,ba,be,a1]
 have z:=j.fin E;subst z;clear j v J E;simp;(repeat' first|refine al ?_|simp[w]);have v:=H;refine e1 [2,3,69] (fun i (_:Unit)=>[(70,aj i)]) bs.length (ta k bs) () cb (fun k ad=>Ω) (fun _ j _=>?_) (fun i _ hi j _=>?_);rotate_left
 ·obtain⟨x,e⟩:∃x,k[i]? =some x:=⟨_,ck Ω⟩;obtain⟨y,f⟩:∃y,bs[i]? =some y:=⟨_,ck hi⟩;have l:i<k.length:=Ω
  have r:∀h,(k[i]'h)=x:=fun h=>by rw[ck l]at e;exact eZ e
  have p:∀h,(bs[i]'h)=y:=fun h=>by rw[ck hi]at f;exact eZ f
  have g:=True.intro;by_cases q:x=y
  ·subst q;have A:=j.step e f;skip;clear j e f;simp[hi,l,r,p,-js];(repeat' first|refine al ?_|refine aO g ?_|refine aP g ?_|simp[r,p,hi,l,-js]);all_goals exact bX.rng () hi A cb
  ·rw[v (fun h=>q (by rw[h]at e;rw[e]at f;exact eZ f))];skip;clear j e f;simp[hi,l,r,p,-js];(repeat' first|refine al ?_|refine aO g ?_|refine aP g ?_|simp[r,p,hi,l,q,-js]);all_goals simp[bZ,ba,be,a1]
 have z:=j.fin w;subst z;clear j v H w;simp;(repeat' first|refine al ?_|simp[B]);have v:=S;refine e1 [2,3,87] (fun i (_:Unit)=>[(88,aj i)]) s.length (ta m s) () cb (fun k ad=>Ω) (fun _ j _=>?_) (fun i _ hi j _=>?_);rotate_left
 ·obtain⟨x,e⟩:∃x,m[i]? =some x:=⟨_,ck Ω⟩;obtain⟨y,f⟩:∃y,s[i]? =some y:=⟨_,ck hi⟩;have l:i<m.length:=Ω
  have r:∀h,(m[i]'h)=x:=fun h=>by rw[ck l]at e;exact eZ e
  have p:∀h,(s[i]'h)=y:=fun h=>by rw[ck hi]at f;exact eZ f
  have g:=True.intro;by_cases q:x=y
  ·subst q;have A:=j.step e f;skip;clear j e f;simp[hi,l,r,p,-js];(repeat' first|refine al ?_|refine aO g ?_|refine aP g ?_|simp[r,p,hi,l,-js]);all_goals exact bX.rng () hi A cb
  ·rw[v (fun h=>q (by rw[h]at e;rw[e]at f;exact eZ f))];skip;clear j e f;simp[hi,l,r,p,-js];(repeat' first|refine al ?_|refine aO g ?_|refine aP g ?_|simp[r,p,hi,l,q,-js]);all_goals simp[bZ,ba,be,a1]
 have z:=j.fin B;subst z;have o:R=true:=by rw[<-br];simp
 rw[o];exact cn
def gp.e(r:gp):af:= .agg [aj r.n,bH (r.b.map Bt.e),c1 (r.d.map gB),b5 (r.k.map bJ.e),b5 (r.m.map bn.e)]
def Kl(s:dd):s.r.e=s.e:=by simp only[dd.r,gp.e,dd.e,zZ,L6]
def asz(x:List Bt):bT au 86 [gB x] (.bool (hA x)):=Ra x
open Classical in
def asy(r:gp)(M:iT r.m->kC r.m):bT au 29 [r.e] (.bool (decide (kc r))):=by
 generalize br:decide (kc r)=R;have f:¬P9 r->R=false:=fun h=>by rw[<-br,iN];exact fun cj=>h cj.raw
 obtain⟨n,b,d,k,m⟩:=r;simp only[gp.e]at M⊢;by_cases g1:n<0
 ·rw[f fun h=>by have:=h.n.1;simp only at this;omega];refine bF a6 Tryz.func29 z8 fun g=>?_;unfold xf;exact cn
 by_cases g2:100000<n
 ·rw[f fun h=>by have:=h.n.2;simp only at this;omega];refine bF a6 Tryz.func29 z8 fun g=>?_;unfold xf;exact cn
 have q:bT au 86 [bH (b.map Bt.e)] (.bool (hA b)):=Ra b;cases g3:hA b
 ·rw[f fun h=>by obtain⟨s,l,S,_⟩:=h.b;have:=sQ.2 (yE.2 ⟨s,l,S⟩);simp only at this;rw[g3]at this;cases this]
  rw[g3]at q;refine bF a6 Tryz.func29 z8 fun g=>?_;unfold xf;exact cn
 rw[g3]at q;obtain⟨s,rfl,Y⟩:=yE.1 (sQ.1 g3);clear g3;rw[zZ]at q⊢;have A:=ac0 k;by_cases g4:jN k;rotate_left
 ·rw[f fun h=>g4 h.k];rw[mz g4]at A;refine bF a6 Tryz.func29 z8 fun g=>?_;unfold xf;exact cn
 rw[lK g4]at A;have B:=ac2 m;by_cases g5:iT m;rotate_left
 ·rw[f fun h=>g5 h.m];rw[mz g5]at B;refine bF a6 Tryz.func29 z8 fun g=>?_;unfold xf;exact cn
 rw[lK g5]at B;have u:=ac7 Y (n:=n) Ω;cases g6:s.all (lN n)
 ·rw[f fun h=>by obtain⟨P,l,_,N⟩:=h.b;have O:=xc l;subst O;rw[xe.2 N]at g6;cases g6]
  rw[g6]at u;refine bF a6 Tryz.func29 z8 fun g=>?_;unfold xf;have Ow:=u;exact cn
 rw[g6]at u;have c5:=xe.1 g6;clear g6;have U:=M g5;have nX:=U.len g5;refine bF a6 Tryz.func29 z8 fun g=>?_;unfold xf;have M8:d.length<=68719476736:=by simp[eK,eU,eM,lim]at g;omega
 have jw:=tM g4;clear g M;simp;(repeat' first|refine al ?_|refine aO q ?_|refine aP q ?_|refine aO A ?_|refine aP A ?_|refine aO B ?_|refine aP B ?_|refine aO u ?_|refine aP u ?_|simp[g1,g2]);refine e1 [1,46,47] (fun i (_:Unit)=>[(48,aj i)]) d.length (tL (k9 n) d) () cb (fun k b ad=>Ω) (fun _ a _=>?_) (fun i _ hi a _=>?_);rotate_left
 ·obtain⟨x,c,w⟩:=eV hi;have z:=fx c;have L:=asz x;cases e:hA x
  ·rw[f fun h=>by obtain⟨P,l,S,_⟩:=h.d x z;rw[sQ.2 (yE.2 ⟨P,l,S⟩)]at e;cases e]
   rw[e]at L;clear a c z;exact cn
  ·rw[e]at L;obtain⟨y,rfl,Z⟩:=yE.1 (sQ.1 e);clear e;rw[L5]at L;have W:bT au 89 [cM y,aj n] (.bool (y.all (lN n))):=ac7 Z (n:=n) Ω;have avL:∀h,gB (d[i]'h)=cM y:=fun h=>by rw[w h,L5]
   cases p:y.all (lN n)
   ·rw[f fun h=>by obtain⟨P,l,_,N⟩:=h.d _ z;have O:=xc l;subst O;rw[xe.2 N]at p;cases p]
    rw[p]at W;clear a c z w;exact cn
   ·rw[p]at W;have X:=a.step c ⟨y,rfl,Z,xe.1 p⟩;clear a c z w;exact iU
 obtain⟨aY,rfl,we,MT⟩:=UK a.fin;clear a;simp only[L6];simp;(repeat' first|refine al ?_|simp);refine e1 [1,64,65] (fun i (_:Unit)=>[(66,aj i)]) k.length (tL (fun x=>x.v<n) k) () cb (fun k b ad=>Ω) (fun _ a _=>?_) (fun i _ hi a _=>?_);rotate_left
 ·obtain⟨x,c,w⟩:=eV hi;by_cases e:x.v<n
  ·have F:¬n<=x.v:=Ω
   have X:=a.step c e;clear a c;exact iU
  ·have F:n<=x.v:=Ω
   rw[f fun h=>e (h.kb x (fx c))];clear a c;exact cn
 have E:=a.fin;clear a;simp;(repeat' first|refine al ?_|simp);have zz:=E;refine e1 [1,77,78] (fun i (_:Unit)=>[(79,aj i)]) m.length (tL (fun x=>x.v<n) m) () cb (fun k b ad=>Ω) (fun _ a _=>?_) (fun i _ hi a _=>?_);rotate_left
 ·obtain⟨x,c,w⟩:=eV hi;by_cases e:x.v<n
  ·have F:¬n<=x.v:=Ω
   have X:=a.step c e;clear a c;exact iU
  ·have F:n<=x.v:=Ω
   rw[f fun h=>e (h.mb x (fx c))];clear a c;exact cn
 have E:=a.fin;clear a;simp;(repeat' first|refine al ?_|simp);have uW:=E;have dx:pD ⟨n,s,aY,k,m⟩:=⟨by simp only;omega,Y,we,g4,g5,c5,MT,zz,uW⟩;have V:=acm dx;obtain⟨G,j9,bd⟩:=U;have j:=atx dx j9 bd;have o:kc ⟨n,s.map Bd.b,aY.map fun x=>x.map Bd.b,k,m⟩↔jk ⟨n,s,aY,k,m⟩=some ⟨n,s,aY,k,m⟩:=V;clear V f;simp only[rW]at j;cases K:jk ⟨n,s,aY,k,m⟩with
 |none=>
  rw[K]at j o;have v:R=false:=by rw[<-br,iN,o];simp
  rw[v];simp only[my,k6,dd.e]at j;clear br v o;exact cn
 |some t=>
  have J:=QC dx K;rw[K]at j o;have H:=atw t ⟨n,s,aY,k,m⟩ J.1.1.b.len (fun x c=>(J.1.1.d x c).len);have v:R=decide (t=⟨n,s,aY,k,m⟩):=by rw[<-br,decide_eq_decide,o];simp
  rw[v];simp only[ma,sX]at j;simp only[dd.e]at j H;clear br v o J;generalize decide (t=(⟨n,s,aY,k,m⟩:dd))=Q at H⊢;obtain⟨tn,C6,C7,ra,tm⟩:=t;simp only at j H;exact cn
def xi:C:=(aa [cU 1 0,bu 2 false] (.seq (aa [aF 11 0 1 1,az 12 1 11,dN 13 75 [.t 12,(gV 0),(gV 100000)],cK 14 13,I 15 14,ax 15 false (aF 16 1 1 1),ax 15 false (az 17 1 16),ax 15 false (cQ 18 76 17),ax 15 false (cK 19 18),dq 20 15 19,I 21 20,ax 21 false (aF 22 2 1 1),ax 21 false (az 23 1 22),ax 21 false (cQ 24 77 23),ax 21 false (cK 25 24),dq 26 21 25,I 27 26,ax 27 false (aF 28 3 1 1),ax 27 false (az 29 1 28),ax 27 false (cQ 30 78 29),ax 27 false (cK 31 30),dq 32 27 31,I 33 32,ax 33 false (aF 34 4 1 1),ax 33 false (az 35 1 34),ax 33 false (cQ 36 79 35),ax 33 false (cK 37 36),dq 38 33 37,I 39 38,ax 39 false (aF 40 1 1 1),ax 39 false (az 41 1 40),ax 39 false (aF 42 0 1 1),ax 39 false (az 43 1 42),ax 39 false (b8 44 80 41 43),ax 39 false (cK 45 44),dq 46 39 45] (aW 46 (aa [bu 2 false] .ret) .skip)) (.seq (aa [aF 47 2 1 1,az 48 1 47,cx 49 48,bM 50 0] (gz 51 50 49 (.seq (.block 1 (aa [cl 52 1 48 50,az 53 1 52,I 4 53] (aa [I 54 4,aF 55 0 1 1,az 56 1 55,b8 57 80 54 56,cK 58 57] (aW 58 (aa [bu 2 false] .ret) .skip)))) (.region [aV 59 .add 50 1,I 50 59])))) (.seq (aa [aF 60 3 1 1,az 61 1 60,cx 62 61,bM 63 0] (.block 2 (.loop (aa [bt 64 .lss 63 62] (.seq (aW 64 .skip (.exit 2)) (.seq (.block 3 (aa [cl 65 2 61 63,bf 66 2 65,ds (.alloc 6 none (.agg [.int .i64 0,.int .i64 0])),bV 2 6 66] (aa [aF 67 0 1 6,az 68 1 67,aF 69 0 1 1,az 70 1 69,bt 71 .geq 68 70] (aW 71 (aa [bu 2 false] .ret) .skip)))) (.region [aV 72 .add 63 1,I 63 72]))))))) (.seq (aa [aF 73 4 1 1,az 74 1 73,cx 75 74,bM 76 0] (.block 4 (.loop (aa [bt 77 .lss 76 75] (.seq (aW 77 .skip (.exit 4)) (.seq (.block 5 (aa [cl 78 2 74 76,bf 79 2 78,ds (.alloc 8 none (.agg [.int .i64 0,.str []])),bV 2 8 79] (aa [aF 80 0 1 8,az 81 1 80,aF 82 0 1 1,az 83 1 82,bt 84 .geq 81 83] (aW 84 (aa [bu 2 false] .ret) .skip)))) (.region [aV 85 .add 76 1,I 76 85]))))))) (aa [bf 87 5 1,cQ 88 81 87,I 86 88,cS 89 0 86,cS 90 1 86,dF 9 iq,bV 5 9 89,I 10 90] (aa [I 91 10,I 92 91,ax 92 true (bf 93 5 9),ax 92 true (bf 94 5 1),ax 92 true (b8 95 82 93 94),ej 96 92 95,I 2 96] .ret)))))))
def G5:C:=(aa [cU 1 0,dF 2 iq,bu 3 false] (aa [aF 20 1 1 1,az 21 1 20,aF 22 3 1 1,az 23 1 22,b8 24 149 21 23,I 19 24,cS 25 0 19,cS 26 1 19,I 4 25,I 5 26] (aa [aF 28 1 1 1,az 29 1 28,aF 30 4 1 1,az 31 1 30,b8 32 150 29 31,I 27 32,cS 33 0 27,cS 34 1 27,I 6 33,I 7 34] (.seq (aa [I 35 5,cK 36 35,I 37 36,cg 37 false 38 7,ax 37 false (cK 39 38),dq 40 37 39] (aW 40 (aa [jz 41 iq [],bV 5 2 41,bu 3 false] .ret) .skip)) (aa [aF 42 0 1 1,az 43 1 42,aF 44 1 1 1,az 45 1 44,I 46 4,jz 47 iq [(0,1,(.t 43)),(1,1,(.t 45)),(3,1,(.t 46))],dF 8 iq,bV 5 8 47] (.seq (aa [I 48 6,cx 49 48,bM 50 0] (gz 51 50 49 (.seq (.block 1 (aa [cl 52 2 48 50,bf 53 2 52,ds (.alloc 10 none (.agg [.int .i64 0,.str []])),bV 2 10 53] (aa [I 55 4,aF 56 0 1 10,az 57 1 56,cQ 58 114 57,dN 59 151 [.t 55,.t 58,(gV 2)],I 54 59,cS 60 0 54,cS 61 1 54,I 11 60,I 12 61] (aa [I 62 12] (aW 62 (.region [aF 63 4 1 8,az 64 1 63,bf 65 2 10,eX 66 2 100 [.t 65],hT 67 2 100 64 66,aF 68 4 1 8,bV 1 68 67]) .skip))))) (.region [aV 69 .add 50 1,I 50 69])))) (aa [eX 70 1 46 [],I 13 70] (.seq (aa [aF 71 2 1 1,az 72 1 71,cx 73 72,bM 74 0] (.block 2 (.loop (aa [bt 75 .lss 74 73] (.seq (aW 75 .skip (.exit 2)) (.seq (.block 3 (aa [cl 76 1 72 74,az 77 1 76,I 15 77] (aa [aF 79 1 1 1,az 80 1 79,I 81 15,b8 82 152 80 81,I 78 82,cS 83 0 78,cS 84 1 78,I 16 83,I 17 84] (.seq (aa [I 85 17] (aW 85 (aa [I 87 16,aF 88 3 1 8,az 89 1 88,b8 90 149 87 89,I 86 90,cS 91 0 86,cS 92 1 86,I 5 92] (.region [I 94 16,aF 95 4 1 8,az 96 1 95,b8 97 150 94 96,I 93 97,cS 98 0 93,cS 99 1 93,I 7 99])) .skip)) (.seq (aa [I 100 17,cK 101 100,I 102 101,cg 102 false 103 5,ax 102 false (cK 104 103),dq 105 102 104,I 106 105,cg 106 false 107 7,ax 106 false (cK 108 107),dq 109 106 108] (aW 109 (aa [bu 5 true] (aa [bu 7 true] (.exit 3))) .skip)) (aa [aF 110 1 1 1,az 111 1 110,I 112 16,b8 113 153 111 112,I 18 113] (.seq (aa [I 114 18,cx 115 114,aV 116 .eql 115 0] (aW 116 (aa [jz 117 iq [],bV 5 2 117,bu 3 false] .ret) .skip)) (.region [I 118 13,I 119 18,eX 120 1 46 [.t 119],hT 121 1 46 118 120,I 13 121])))))))) (.region [aV 122 .add 74 1,I 74 122]))))))) (aa [I 123 13,cQ 124 154 123,aF 125 2 1 8,bV 1 125 124] (.seq (.fz true 8 (.drawn true 131 [cf 126 (.loadZ true 5 (.t 8)),aF 127 2 1 8,cf 128 (.loadZ false 1 (.t 127)),cx 129 128,aV 130 .leq 129 30,bV 5 2 126,I 3 130])) .ret))))))))))
def y8:C:=(aa [cU 2 0,cU 3 1,bu 4 false] (.seq (aa [aF 11 0 1 2,az 12 1 11,aF 13 0 1 3,az 14 1 13,bt 15 .neq 12 14,I 16 15,ax 16 false (aF 17 1 1 2),ax 16 false (az 18 1 17),ax 16 false (aF 19 1 1 3),ax 16 false (az 20 1 19),ax 16 false (b8 21 155 18 20),ax 16 false (aV 22 .neq 21 0),dq 23 16 22,I 24 23,ax 24 false (aF 25 2 1 2),ax 24 false (az 26 1 25),ax 24 false (cx 27 26),ax 24 false (aF 28 2 1 3),ax 24 false (az 29 1 28),ax 24 false (cx 30 29),ax 24 false (bt 31 .neq 27 30),dq 32 24 31,I 33 32,ax 33 false (aF 34 3 1 2),ax 33 false (az 35 1 34),ax 33 false (cx 36 35),ax 33 false (aF 37 3 1 3),ax 33 false (az 38 1 37),ax 33 false (cx 39 38),ax 33 false (bt 40 .neq 36 39),dq 41 33 40,I 42 41,ax 42 false (aF 43 4 1 2),ax 42 false (az 44 1 43),ax 42 false (cx 45 44),ax 42 false (aF 46 4 1 3),ax 42 false (az 47 1 46),ax 42 false (cx 48 47),ax 42 false (bt 49 .neq 45 48),dq 50 42 49] (aW 50 (aa [bu 4 false] .ret) .skip)) (.seq (aa [aF 51 2 1 2,az 52 1 51,cx 53 52,bM 54 0] (gz 55 54 53 (.seq (.block 1 (aa [I 56 54,cl 57 1 52 54,az 58 1 57,I 5 56,I 6 58] (aa [I 59 6,aF 60 2 1 3,az 61 1 60,I 62 5,cl 63 1 61 62,az 64 1 63,b8 65 155 59 64,aV 66 .neq 65 0] (aW 66 (aa [bu 4 false] .ret) .skip)))) (.region [aV 67 .add 54 1,I 54 67])))) (.seq (aa [aF 68 3 1 2,az 69 1 68,cx 70 69,bM 71 0] (.block 2 (.loop (aa [bt 72 .lss 71 70] (.seq (aW 72 .skip (.exit 2)) (.seq (.block 3 (aa [I 73 71,cl 74 2 69 71,bf 75 2 74,ds (.alloc 8 none (.agg [.int .i64 0,.int .i64 0])),I 7 73,bV 2 8 75] (.seq (.drawn true 100 [bf 76 2 8,aF 77 3 1 3,az 78 1 77,I 79 7,cl 80 2 78 79,bf 81 2 80,cf 82 (.beq true (some [false,false]) (.t 76) (.t 81))]) (aW 82 (aa [bu 4 false] .ret) .skip)))) (.region [aV 83 .add 71 1,I 71 83]))))))) (.seq (aa [aF 84 4 1 2,az 85 1 84,cx 86 85,bM 87 0] (.block 4 (.loop (aa [bt 88 .lss 87 86] (.seq (aW 88 .skip (.exit 4)) (.seq (.block 5 (aa [I 89 87,cl 90 2 85 87,bf 91 2 90,ds (.alloc 10 none (.agg [.int .i64 0,.str []])),I 9 89,bV 2 10 91] (.seq (.drawn true 100 [bf 92 2 10,aF 93 4 1 3,az 94 1 93,I 95 9,cl 96 2 94 95,bf 97 2 96,cf 98 (.beq true (some [false,true]) (.t 92) (.t 97))]) (aW 98 (aa [bu 4 false] .ret) .skip)))) (.region [aV 99 .add 87 1,I 87 99]))))))) (aa [bu 4 true] .ret))))))
def Ac:b2 aS xi [.tmp 2] 1 Tryz.f27=true:=bi
def Pz:b2 aS G5 [.cell 2 true 5,.tmp 3] 1 Tryz.f81=true:=bi
def CA:b2 aS y8 [.tmp 4] 2 Tryz.f82=true:=bi
noncomputable def yv(s:dd):af:= .tuple [(yA s).e,.bool (jk s).isSome]
def as9{k:List bJ}(ad:jN k)(v:Int):bT au 151 [b5 (k.map bJ.e),(T.var v).e,aj 2] (qj k (k7 k (.var v) 2)):=adn k (by have:=tM ad;omega) ad.asc (.var v) 2
def Rf{b y:List Bd}(a:e3 b)(c:e3 y):bT au 153 [bH (b.map Bd.e),bH (y.map Bd.e)] (cM (fp b y)):=as4 a c
def adk{b x:List Bd}(a:e3 b)(c:e3 x):bT au 152 [bH (b.map Bd.e),cM x] (gw (mgu b (iy x))):=as3 b x a.sol a.fits c.len
def OJ(a:List bn):af:=match a with
 |[]=>.slice 2 .nil []
 |_::_=>.slice 2 (.own (.loc 5)) (a.map bn.e)
def OI(a:List bn):List (aB×dT):=match a with
 |[]=>[]
 |_::_=>[(.loc 5,⟨a.length,100,2,none⟩)]
def OH(a:List bn):Nat:=match a with
 |[]=>3
 |_::_=>6
@[simp]def aw0:OJ []= .slice 2 .nil []:=rfl
@[simp]def awZ(x:bn)(a:List bn):OJ (x::a)= .slice 2 (.own (.loc 5)) (x.e::a.map bn.e):=rfl
@[simp]def awY:OI []=[]:=rfl
@[simp]def awX(x:bn)(a:List bn):OI (x::a)=[(.loc 5,⟨a.length+1,100,2,none⟩)]:=rfl
@[simp]def awW:OH []=3:=rfl
@[simp]def awV(x:bn)(a:List bn):OH (x::a)=6:=rfl
def Rk{s:dd}(h:pD s){G:List (List cV)}(j9:G.length<=687000)(bd:oX G s.m):bT au 81 [s.e] (yv s):=by
 unfold yv;generalize c:jk s=O;generalize dE:yA s=SS;have F:=Ri h.b h.k;have H:=Rj h.b h.m j9 bd;have kk:=fun k=>JO (acc:=[]) (a:=k) h.b h.k.at' ⟨Ψ,Ψ⟩;have N:=fun m=>JP (acc:=[]) (a:=m) h.b h.m.at' ⟨Ψ,by simp[iO]⟩;have P:=fun m=>JQ (acc:=[]) (a:=m) (s:=s.b) bd (fun x g=>by simp at g);have K:=h.b;have aK:=h.d;clear h bd;unfold jk at c;unfold yA at dE;obtain⟨n,b,d,Z,m0⟩:=s;simp only at F H kk N P K aK c dE;have gg:=K.len;simp only[dd.e];generalize gU b Z []=ok at F c dE kk;generalize ha b m0 []=om at H c dE N P;cases ok with
 |none=>
  simp only at c dE;subst c;subst dE;simp only[q6]at F;simp only[j3]at H;clear kk N P;refine bF a6 Tryz.func81 Pz fun aR=>?_;unfold G5;simp;(repeat' first|refine al ?_|refine aO F ?_|refine aP F ?_|refine aO H ?_|refine aP H ?_|simp);all_goals simp[bZ,ba,be,a1]
  all_goals simp[ih,dd.e]
 |some k=>
  simp only at c dE;cases om with
  |none=>
   simp only at c dE;subst c;subst dE;simp only[q6]at F;simp only[j3]at H;clear kk N P;refine bF a6 Tryz.func81 Pz fun aR=>?_;unfold G5;simp;(repeat' first|refine al ?_|refine aO F ?_|refine aP F ?_|refine aO H ?_|refine aP H ?_|simp);all_goals simp[bZ,ba,be,a1]
   all_goals simp[ih,dd.e]
  |some m=>
   simp only at c dE;have Y:=kk k rfl;have zE:=N m rfl;have zx:=P m rfl;have nX:m.length<=68719470000:=by have:=E9 zE zx;omega
   have BL:=YV (k:=k) zE;have BF:=Q0 (k:=k) zx;simp only[q6,ma,sX]at F;simp only[j3,ma,sX]at H;clear kk N P;refine bF a6 Tryz.func81 Pz fun aR=>?_;unfold G5;have M8:d.length<=68719476736:=by simp[eK,eU,eM,lim]at aR;omega
   clear aR;simp;(repeat' first|refine al ?_|refine aO F ?_|refine aP F ?_|refine aO H ?_|refine aP H ?_|simp);refine fT (fun i (a:List bn)=>⟨[(1,.ptr (.loc 0) 0),(2,.ptr (.loc 1) 0),(4,b5 (k.map bJ.e)),(8,.ptr (.loc 2) 0),(48,b5 (m.map bn.e)),(49,aj m.length),(50,aj i)],[(.loc 0,[aj n,bH (b.map Bd.e),c1 (d.map cM),b5 (Z.map bJ.e),b5 (m0.map bn.e)]),(.loc 1,[aj 0,.slice 5 .nil [],.slice 1 .nil [],.slice 2 .nil [],.slice 2 .nil []]),(.loc 2,[aj n,bH (b.map Bd.e),.slice 1 .nil [],b5 (k.map bJ.e),OJ a])],OI a,OH a,[]⟩) m.length (u3 k m) [] cb (by simp[u3]) (fun a f _=>?_) (fun i a hi f _=>?_);rotate_left
   ·obtain⟨x,g,p⟩:=eV hi;have tl:a.length<=68719470000:=by
     have:a.length<=(m.take i).length:=by rw[f];exact List.length_filter_le _ _
     simp at this;omega
    have q:=f.step g;have A:=as9 Y x.v;have bK:(k7 k (.var x.v) 2).isSome=ly k x:=aej Y x.v;simp only[qj,bK]at A;clear bK;generalize (k7 k (.var x.v) 2).getD k=kz at A;cases aG:ly k x
    ·rw[aG]at q A;simp only[hU,if_false]at q;clear f g aG;cases a with
     |nil=>simp[hi,p];(repeat' first|refine al ?_|refine aO (k5 _) ?_|refine aP (k5 _) ?_|refine aO A ?_|refine aP A ?_|simp[hi,p]);all_goals exact bX.rng [] hi q cb
     |cons y ys=>simp[hi,p];(repeat' first|refine al ?_|refine aO (k5 _) ?_|refine aP (k5 _) ?_|refine aO A ?_|refine aP A ?_|simp[hi,p]);all_goals exact bX.rng (y::ys) hi q cb
    ·rw[aG]at q A;simp only[if_true]at q;clear f g aG;cases a with
     |nil=>
      simp[hi,p];(repeat' first|refine al ?_|refine aO (k5 _) ?_|refine aP (k5 _) ?_|refine aO A ?_|refine aP A ?_|simp[hi,p]);all_goals try refine⟨by unfold lim;omega,?_⟩
      all_goals(repeat' first|refine al ?_|simp)
      all_goals exact bX.rng [x] hi q cb
     |cons y ys=>
      simp only[mZ]at tl;simp[hi,p];(repeat' first|refine al ?_|refine aO (k5 _) ?_|refine aP (k5 _) ?_|refine aO A ?_|refine aP A ?_|simp[hi,p]);all_goals try refine⟨by unfold lim;omega,?_⟩
      all_goals(repeat' first|refine al ?_|simp)
      all_goals exact bX.rng (y::ys++[x]) hi q ⟨by simp[fresh,aH,aA,cd,aM,ae,B8],ep (by simp[fresh,aH,aA,cd,aM,ae,B8]),er (by simp[fresh,aH,aA,dW,aM,ae,B8]),Ψ⟩
   rw[u3,jA]at f;rw[<-f]at BL BF c dE;clear f zE zx;cases a with
   |nil=>
    simp;(repeat' first|refine al ?_|simp);refine fT (fun i (L:List (List Bd))=>⟨[(1,.ptr (.loc 0) 0),(2,.ptr (.loc 1) 0),(8,.ptr (.loc 2) 0),(13,.slice 1 (.own (.loc 3)) (L.map cM)),(72,c1 (d.map cM)),(73,aj d.length),(74,aj i)],[(.loc 0,[aj n,bH (b.map Bd.e),c1 (d.map cM),b5 (Z.map bJ.e),b5 (m0.map bn.e)]),(.loc 1,[aj 0,.slice 5 .nil [],.slice 1 .nil [],.slice 2 .nil [],.slice 2 .nil []]),(.loc 2,[aj n,bH (b.map Bd.e),.slice 1 .nil [],b5 (k.map bJ.e),.slice 2 .nil []])],[(.loc 3,⟨L.length,46,1,none⟩)],3+1,[]⟩) d.length (rI b k [] d) [] cb ⟨Ψ,Ψ,Ψ⟩ (fun L f _=>?_) (fun i L hi f _=>?_)
    ·have V:=f.fin;have Q:=f.2.1;rw[V]at c dE;simp only at c dE;have B:=adm L Q;clear f V Q;generalize lZ L=M at B c dE;subst dE;by_cases w:M.length<=30
     ·have E:(M.length:Int)<=30:=Ω
      rw[if_pos w]at c;subst c;simp;(repeat' first|refine al ?_|refine aO B ?_|refine aP B ?_|simp[w,E]);all_goals simp[bZ,ba,be,a1]
      all_goals try simp[dd.e,w,E]
      all_goals first|exact⟨_,rfl,rfl⟩|skip
     ·have E:¬(M.length:Int)<=30:=Ω
      rw[if_neg w]at c;subst c;simp;(repeat' first|refine al ?_|refine aO B ?_|refine aP B ?_|simp[w,E]);all_goals simp[bZ,ba,be,a1]
      all_goals try simp[dd.e,w,E]
      all_goals first|exact⟨_,rfl,rfl⟩|skip
    ·obtain⟨x,g,p⟩:=eV hi;have U:=aK x (fx g);have Wz:=f.1;have l:=adk K U;simp only[gw]at l;cases hu:mgu b (iy x)with
     |none=>have q:=f.skip g fun r=>OA hu;rw[hu]at l;simp only[my,k6]at l;clear f g c dE;exact iU
     |some y=>
      have J:=K.mgu (DP U) hu;rw[hu]at l;simp only[ma,sX]at l;have o:=Ri J Y;have u:=Rj J BL j9 BF;have j:=Rf K J;simp only[q6]at o;simp only[j3,o2,gX]at u;by_cases t:gU y k []=none\/ha y [] []=none
      ·have q:=f.skip g fun r=>Oz hu t;clear f g c dE hu j;rcases t with e|e
       ·rw[e]at o;simp only[my,k6]at o;exact iU
       ·rw[e]at u;simp only[my,k6]at u;generalize (gU y k []).isSome=a8 at o;cases a8
        ·exact iU
        ·exact iU
      ·have ao:(gU y k []).isSome=true:=by cases e:gU y k []with|none=>exact absurd (.inl e) t|some _=>rfl
       have aC:(ha y [] []).isSome=true:=by cases e:ha y [] []with|none=>exact absurd (.inr e) t|some _=>rfl
       rw[ao]at o;rw[aC]at u;by_cases v:fp b y=[]
       ·have ai:=f.stop g fun r=>Oy hu t v;rw[ai]at c dE;simp only at c dE;subst c;subst dE;rw[v]at j;simp only[cM,o2]at j;clear f g hu t;simp[hi,p];(repeat' first|refine al ?_|refine aO l ?_|refine aP l ?_|refine aO o ?_|refine aP o ?_|refine aO u ?_|refine aP u ?_|refine aO j ?_|refine aP j ?_|simp[hi,p]);all_goals simp[bZ,ba,be,a1]
        all_goals try simp[ih,dd.e]
       ·have q:=f.snoc g (Fi (b:=b) J) fun r=>OB hu t v;have S:¬((fp b y).length:Int)=0:=by have:(fp b y).length≠0:=fun h=>v (List.length_eq_zero_iff.1 h);omega
        have R:(((fp b y).length:Int)==0)=false:=by simp[v]
        clear f g hu t c dE;generalize fp b y=z at j q S R v;simp only[cM]at j;simp[hi,p];(repeat' first|refine al ?_|refine aO l ?_|refine aP l ?_|refine aO o ?_|refine aP o ?_|refine aO u ?_|refine aP u ?_|refine aO j ?_|refine aP j ?_|simp[hi,p,S,R,v]);all_goals try refine⟨by unfold lim;omega,?_⟩
        all_goals(repeat' first|refine al ?_|simp)
        all_goals exact bX.rng (L++[z]) hi q ⟨by simp[fresh,aH,aA,cd,aM,ae,u7,cM],ep (by simp[fresh,aH,aA,cd,aM,ae,u7,cM]),er (by simp[fresh,aH,aA,dW,aM,ae,u7,cM]),Ψ⟩
   |cons X W=>
    simp;(repeat' first|refine al ?_|simp);refine fT (fun i (L:List (List Bd))=>⟨[(1,.ptr (.loc 0) 0),(2,.ptr (.loc 1) 0),(8,.ptr (.loc 2) 0),(13,.slice 1 (.own (.loc 6)) (L.map cM)),(72,c1 (d.map cM)),(73,aj d.length),(74,aj i)],[(.loc 0,[aj n,bH (b.map Bd.e),c1 (d.map cM),b5 (Z.map bJ.e),b5 (m0.map bn.e)]),(.loc 1,[aj 0,.slice 5 .nil [],.slice 1 .nil [],.slice 2 .nil [],.slice 2 .nil []]),(.loc 2,[aj n,bH (b.map Bd.e),.slice 1 .nil [],b5 (k.map bJ.e),.slice 2 (.own (.loc 5)) (X.e::W.map bn.e)])],[(.loc 6,⟨L.length,46,1,none⟩)],6+1,[]⟩) d.length (rI b k (X::W) d) [] cb ⟨Ψ,Ψ,Ψ⟩ (fun L f _=>?_) (fun i L hi f _=>?_)
    ·have V:=f.fin;have Q:=f.2.1;rw[V]at c dE;simp only at c dE;have B:=adm L Q;clear f V Q;generalize lZ L=M at B c dE;subst dE;by_cases w:M.length<=30
     ·have E:(M.length:Int)<=30:=Ω
      rw[if_pos w]at c;subst c;simp;(repeat' first|refine al ?_|refine aO B ?_|refine aP B ?_|simp[w,E]);all_goals simp[bZ,ba,be,a1]
      all_goals try simp[dd.e,w,E]
      all_goals first|exact⟨_,rfl,rfl⟩|skip
     ·have E:¬(M.length:Int)<=30:=Ω
      rw[if_neg w]at c;subst c;simp;(repeat' first|refine al ?_|refine aO B ?_|refine aP B ?_|simp[w,E]);all_goals simp[bZ,ba,be,a1]
      all_goals try simp[dd.e,w,E]
      all_goals first|exact⟨_,rfl,rfl⟩|skip
    ·obtain⟨x,g,p⟩:=eV hi;have U:=aK x (fx g);have Wz:=f.1;have l:=adk K U;simp only[gw]at l;cases hu:mgu b (iy x)with
     |none=>have q:=f.skip g fun r=>OA hu;rw[hu]at l;simp only[my,k6]at l;clear f g c dE;exact iU
     |some y=>
      have J:=K.mgu (DP U) hu;rw[hu]at l;simp only[ma,sX]at l;have o:=Ri J Y;have u:=Rj J BL j9 BF;have j:=Rf K J;simp only[q6]at o;simp only[j3,o2,gX]at u;by_cases t:gU y k []=none\/ha y (X::W) []=none
      ·have q:=f.skip g fun r=>Oz hu t;clear f g c dE hu j;rcases t with e|e
       ·rw[e]at o;simp only[my,k6]at o;exact iU
       ·rw[e]at u;simp only[my,k6]at u;generalize (gU y k []).isSome=a8 at o;cases a8
        ·exact iU
        ·exact iU
      ·have ao:(gU y k []).isSome=true:=by cases e:gU y k []with|none=>exact absurd (.inl e) t|some _=>rfl
       have aC:(ha y (X::W) []).isSome=true:=by cases e:ha y (X::W) []with|none=>exact absurd (.inr e) t|some _=>rfl
       rw[ao]at o;rw[aC]at u;by_cases v:fp b y=[]
       ·have ai:=f.stop g fun r=>Oy hu t v;rw[ai]at c dE;simp only at c dE;subst c;subst dE;rw[v]at j;simp only[cM,o2]at j;clear f g hu t;simp[hi,p];(repeat' first|refine al ?_|refine aO l ?_|refine aP l ?_|refine aO o ?_|refine aP o ?_|refine aO u ?_|refine aP u ?_|refine aO j ?_|refine aP j ?_|simp[hi,p]);all_goals simp[bZ,ba,be,a1]
        all_goals try simp[ih,dd.e]
       ·have q:=f.snoc g (Fi (b:=b) J) fun r=>OB hu t v;have S:¬((fp b y).length:Int)=0:=by have:(fp b y).length≠0:=fun h=>v (List.length_eq_zero_iff.1 h);omega
        have R:(((fp b y).length:Int)==0)=false:=by simp[v]
        clear f g hu t c dE;generalize fp b y=z at j q S R v;simp only[cM]at j;simp[hi,p];(repeat' first|refine al ?_|refine aO l ?_|refine aP l ?_|refine aO o ?_|refine aP o ?_|refine aO u ?_|refine aP u ?_|refine aO j ?_|refine aP j ?_|simp[hi,p,S,R,v]);all_goals try refine⟨by unfold lim;omega,?_⟩
        all_goals(repeat' first|refine al ?_|simp)
        all_goals exact bX.rng (L++[z]) hi q ⟨by simp[fresh,aH,aA,cd,aM,ae,u7,cM],ep (by simp[fresh,aH,aA,cd,aM,ae,u7,cM]),er (by simp[fresh,aH,aA,dW,aM,ae,u7,cM]),Ψ⟩
def as7(x y:List Bd):bT au 155 [cM x,cM y] (aj (fc x y)):=Rg x y
def atn{x y:List Bd}(h:¬x=y):(fc x y !=0)=true:=by have:¬fc x y=0:=fun e=>h ((mT.zero _ _).1 e);simp[this]
def ate(a c:dd):bT au 82 [a.e,c.e] (.bool (decide (a=c))):=by
 obtain⟨n,b,d,k,m⟩:=a;obtain⟨n',b0,t,bs,s⟩:=c;generalize br:decide ((⟨n,b,d,k,m⟩:dd)=⟨n',b0,t,bs,s⟩)=R;simp only[dd.mk.injEq,dd.e]at br⊢;by_cases H:n=n';rotate_left
 ·have o:R=false:=by rw[<-br];simp[H]
  have V:(n !=n')=true:=by simp[H]
  rw[o];clear br o;refine bF a6 Tryz.func82 CA fun u=>?_;unfold y8;exact cn
 subst H;have g:=Rg b b0;by_cases G:b=b0;rotate_left
 ·have o:R=false:=by rw[<-br];simp[G]
  have F:¬fc b b0=0:=fun h=>G ((mT.zero _ _).1 h);have Q:(fc b b0 !=0)=true:=by simp[F]
  rw[o];clear br o;refine bF a6 Tryz.func82 CA fun u=>?_;unfold y8;exact cn
 subst G;rw[(mT.zero b b).2 rfl]at g;by_cases E:d.length=t.length;rotate_left
 ·have o:R=false:=by rw[<-br];simp only[iN];rintro⟨_,_,rfl,_⟩;exact E rfl
  have U:((d.length:Int) !=t.length)=true:=by simp;omega
  rw[o];clear br o;refine bF a6 Tryz.func82 CA fun u=>?_;unfold y8;exact cn
 by_cases w:k.length=bs.length;rotate_left
 ·have o:R=false:=by rw[<-br];simp only[iN];rintro⟨_,_,_,rfl,_⟩;exact w rfl
  have M:((k.length:Int) !=bs.length)=true:=by simp;omega
  rw[o];clear br o;refine bF a6 Tryz.func82 CA fun u=>?_;unfold y8;exact cn
 by_cases B:m.length=s.length;rotate_left
 ·have o:R=false:=by rw[<-br];simp only[iN];rintro⟨_,_,_,_,rfl⟩;exact B rfl
  have L:((m.length:Int) !=s.length)=true:=by simp;omega
  rw[o];clear br o;refine bF a6 Tryz.func82 CA fun u=>?_;unfold y8;exact cn
 have K:d≠t->R=false:=fun h=>by rw[<-br];simp[h]
 have J:k≠bs->R=false:=fun h=>by rw[<-br];simp[h]
 have S:m≠s->R=false:=fun h=>by rw[<-br];simp[h]
 refine bF a6 Tryz.func82 CA fun u=>?_;unfold y8;have P:t.length<=68719476736:=by simp[eK,eU,eM,lim]at u;omega
 have O:bs.length<=68719476736:=by simp[eK,eU,eM,lim]at u;omega
 have N:s.length<=68719476736:=by simp[eK,eU,eM,lim]at u;omega
 clear u;simp;(repeat' first|refine al ?_|refine aO g ?_|refine aP g ?_|simp[E,w,B]);have v:=K;refine e1 [2,3,52,53] (fun i (_:Unit)=>[(54,aj i)]) t.length (ta d t) () cb (fun k ad=>Ω) (fun _ j _=>?_) (fun i _ hi j _=>?_);rotate_left
 ·obtain⟨x,e⟩:∃x,d[i]? =some x:=⟨_,ck Ω⟩;obtain⟨y,f⟩:∃y,t[i]? =some y:=⟨_,ck hi⟩;have l:i<d.length:=Ω
  have r:∀h,(d[i]'h)=x:=fun h=>by rw[ck l]at e;exact eZ e
  have p:∀h,(t[i]'h)=y:=fun h=>by rw[ck hi]at f;exact eZ f
  have g:=as7 x y;by_cases q:x=y
  ·subst q;have A:=j.step e f;rw[(mT.zero _ _).2 rfl]at g;clear j e f;simp[hi,l,r,p,-js];(repeat' first|refine al ?_|refine aO g ?_|refine aP g ?_|simp[r,p,hi,l,-js]);all_goals exact bX.rng () hi A cb
  ·rw[v (fun h=>q (by rw[h]at e;rw[e]at f;exact eZ f))];have F:=atn q;clear j e f;simp[hi,l,r,p,-js];(repeat' first|refine al ?_|refine aO g ?_|refine aP g ?_|simp[r,p,hi,l,q,F,-js]);all_goals simp[bZ,ba,be,a1]
 have z:=j.fin E;subst z;clear j v K E;simp;(repeat' first|refine al ?_|simp[w]);have v:=J;refine e1 [2,3,69,70] (fun i (_:Unit)=>[(71,aj i)]) bs.length (ta k bs) () cb (fun k ad=>Ω) (fun _ j _=>?_) (fun i _ hi j _=>?_);rotate_left
 ·obtain⟨x,e⟩:∃x,k[i]? =some x:=⟨_,ck Ω⟩;obtain⟨y,f⟩:∃y,bs[i]? =some y:=⟨_,ck hi⟩;have l:i<k.length:=Ω
  have r:∀h,(k[i]'h)=x:=fun h=>by rw[ck l]at e;exact eZ e
  have p:∀h,(bs[i]'h)=y:=fun h=>by rw[ck hi]at f;exact eZ f
  have g:=True.intro;by_cases q:x=y
  ·subst q;have A:=j.step e f;skip;clear j e f;simp[hi,l,r,p,-js];(repeat' first|refine al ?_|refine aO g ?_|refine aP g ?_|simp[r,p,hi,l,-js]);all_goals exact bX.rng () hi A cb
  ·rw[v (fun h=>q (by rw[h]at e;rw[e]at f;exact eZ f))];skip;clear j e f;simp[hi,l,r,p,-js];(repeat' first|refine al ?_|refine aO g ?_|refine aP g ?_|simp[r,p,hi,l,q,q,-js]);all_goals simp[bZ,ba,be,a1]
 have z:=j.fin w;subst z;clear j v J w;simp;(repeat' first|refine al ?_|simp[B]);have v:=S;refine e1 [3,85,86] (fun i (_:Unit)=>[(87,aj i)]) s.length (ta m s) () cb (fun k ad=>Ω) (fun _ j _=>?_) (fun i _ hi j _=>?_);rotate_left
 ·obtain⟨x,e⟩:∃x,m[i]? =some x:=⟨_,ck Ω⟩;obtain⟨y,f⟩:∃y,s[i]? =some y:=⟨_,ck hi⟩;have l:i<m.length:=Ω
  have r:∀h,(m[i]'h)=x:=fun h=>by rw[ck l]at e;exact eZ e
  have p:∀h,(s[i]'h)=y:=fun h=>by rw[ck hi]at f;exact eZ f
  have g:=True.intro;by_cases q:x=y
  ·subst q;have A:=j.step e f;skip;clear j e f;simp[hi,l,r,p,-js];(repeat' first|refine al ?_|refine aO g ?_|refine aP g ?_|simp[r,p,hi,l,-js]);all_goals exact bX.rng () hi A cb
  ·rw[v (fun h=>q (by rw[h]at e;rw[e]at f;exact eZ f))];skip;clear j e f;simp[hi,l,r,p,-js];(repeat' first|refine al ?_|refine aO g ?_|refine aP g ?_|simp[r,p,hi,l,q,q,-js]);all_goals simp[bZ,ba,be,a1]
 have z:=j.fin B;subst z;have o:R=true:=by rw[<-br];simp
 rw[o];exact cn
@[simp]def arY:∀l:List (List Bt),b9 (l.map gB)=l.map gB
 |[]=>rfl
 |x::xs=>by simp[b9,arY xs]
def acv:∀{d:List (List Bt)},d.all hA=true->∃aY:List (List Bd),d=(aY.map fun x=>x.map Bd.b)/\∀x∈aY,e3 x
 |[],_=>⟨[],rfl,Ψ⟩
 |x::d,h=>by
  rw[List.all_cons,cO]at h;obtain⟨aY,J,U⟩:=acv h.2;obtain⟨s,b,c⟩:=yE.1 (sQ.1 h.1);refine⟨s::aY,by rw[J,b];rfl,fun y a=>?_⟩;rcases gJ.1 a with rfl|a
  ·exact c
  ·exact U y a
open Classical in
def ads(r:gp)(M:iT r.m->kC r.m):bT au 27 [r.e] (.bool (decide (kc r))):=by
 generalize br:decide (kc r)=R;have e:¬P9 r->R=false:=fun h=>by rw[<-br,iN];exact fun cj=>h cj.raw
 obtain⟨n,b,d,k,m⟩:=r;simp only[gp.e]at M⊢;have J:=dU n 0 100000;by_cases g1:0<=n/\n<=100000;rotate_left
 ·rw[e fun h=>g1 h.n];rw[mz g1]at J;refine bF a6 Tryz.func27 Ac fun j=>?_;unfold xi;exact cn
 rw[lK g1]at J;have u:bT au 76 [bH (b.map Bt.e)] (.bool (hA b)):=Rl b;cases g3:hA b
 ·rw[e fun h=>by obtain⟨s,f,P,_⟩:=h.b;have:=sQ.2 (yE.2 ⟨s,f,P⟩);simp only at this;rw[g3]at this;cases this]
  rw[g3]at u;refine bF a6 Tryz.func27 Ac fun j=>?_;unfold xi;exact cn
 rw[g3]at u;obtain⟨s,rfl,ai⟩:=yE.1 (sQ.1 g3);clear g3;rw[zZ]at u⊢;have w:=as6 d;cases o:d.all hA
 ·rw[e fun h=>by
   have:d.all hA=true:=by rw[j5];intro x c;obtain⟨s,f,P,_⟩:=h.d x c;exact sQ.2 (yE.2 ⟨s,f,P⟩)
   rw[o]at this;cases this]
  rw[o]at w;refine bF a6 Tryz.func27 Ac fun j=>?_;unfold xi;exact cn
 rw[o]at w;obtain⟨aY,rfl,we⟩:=acv o;clear o;rw[L6]at w⊢;have E:=atu k;by_cases g4:jN k;rotate_left
 ·rw[e fun h=>g4 h.k];rw[mz g4]at E;refine bF a6 Tryz.func27 Ac fun j=>?_;unfold xi;exact cn
 rw[lK g4]at E;have F:=atv m;by_cases g5:iT m;rotate_left
 ·rw[e fun h=>g5 h.m];rw[mz g5]at F;refine bF a6 Tryz.func27 Ac fun j=>?_;unfold xi;exact cn
 rw[lK g5]at F;have v:=ado s n;cases g6:s.all (lN n)
 ·rw[e fun h=>by obtain⟨ak,f,_,N⟩:=h.b;have O:=xc f;subst O;rw[xe.2 N]at g6;cases g6]
  rw[g6]at v;refine bF a6 Tryz.func27 Ac fun j=>?_;unfold xi;have Ow:=v;exact cn
 rw[g6]at v;have c5:=xe.1 g6;clear g6;have V:=M g5;have nX:=V.len g5;refine bF a6 Tryz.func27 Ac fun j=>?_;unfold xi;have M8:aY.length<=68719476736:=by simp[eK,eU,eM,lim]at j;omega
 have jw:=tM g4;clear j M;simp;(repeat' first|refine al ?_|refine aO J ?_|refine aP J ?_|refine aO u ?_|refine aP u ?_|refine aO w ?_|refine aP w ?_|refine aO E ?_|refine aP E ?_|refine aO F ?_|refine aP F ?_|refine aO v ?_|refine aP v ?_|simp);refine e1 [1,48,49] (fun i (_:Unit)=>[(50,aj i)]) aY.length (tL (fun x=>rp x n) aY) () cb (fun k b ad=>Ω) (fun _ a _=>?_) (fun i _ hi a _=>?_);rotate_left
 ·obtain⟨y,H,fB⟩:=eV hi;have S:=fx H;have X:bT au 80 [cM y,aj n] (.bool (y.all (lN n))):=ado y n;cases p:y.all (lN n)
  ·rw[e fun h=>by obtain⟨ak,f,_,N⟩:=h.d _ (List.mem_map_of_mem S);have O:=xc f;subst O;rw[xe.2 N]at p;cases p]
   rw[p]at X;clear a H S;exact cn
  ·rw[p]at X;have Y:=a.step H (xe.1 p);clear a H S;exact iU
 have MT:=a.fin;clear a;simp;(repeat' first|refine al ?_|simp);refine e1 [1,61,62] (fun i (_:Unit)=>[(63,aj i)]) k.length (tL (fun x=>x.v<n) k) () cb (fun k b ad=>Ω) (fun _ a _=>?_) (fun i _ hi a _=>?_);rotate_left
 ·obtain⟨x,c,cA⟩:=eV hi;by_cases q:x.v<n
  ·have L:¬n<=x.v:=Ω
   have Y:=a.step c q;clear a c;exact iU
  ·have L:n<=x.v:=Ω
   rw[e fun h=>q (h.kb x (fx c))];clear a c;exact cn
 have K:=a.fin;clear a;simp;(repeat' first|refine al ?_|simp);have Z:=K;refine e1 [1,74,75] (fun i (_:Unit)=>[(76,aj i)]) m.length (tL (fun x=>x.v<n) m) () cb (fun k b ad=>Ω) (fun _ a _=>?_) (fun i _ hi a _=>?_);rotate_left
 ·obtain⟨x,c,cA⟩:=eV hi;by_cases q:x.v<n
  ·have L:¬n<=x.v:=Ω
   have Y:=a.step c q;clear a c;exact iU
  ·have L:n<=x.v:=Ω
   rw[e fun h=>q (h.mb x (fx c))];clear a c;exact cn
 have K:=a.fin;clear a;simp;(repeat' first|refine al ?_|simp);have uW:=K;have dx:pD ⟨n,s,aY,k,m⟩:=⟨g1,ai,we,g4,g5,c5,MT,Z,uW⟩;have W:=acm dx;obtain⟨G,j9,bd⟩:=V;have g:=Rk dx j9 bd;have l:kc ⟨n,s.map Bd.b,aY.map fun x=>x.map Bd.b,k,m⟩↔jk ⟨n,s,aY,k,m⟩=some ⟨n,s,aY,k,m⟩:=W;clear W e;simp only[yv]at g;generalize U:yA ⟨n,s,aY,k,m⟩=t at g;have A:=ate t ⟨n,s,aY,k,m⟩;cases B:jk ⟨n,s,aY,k,m⟩with
 |none=>
  rw[B]at g l;have z:R=false:=by rw[<-br,iN,l];simp
  rw[z];obtain⟨tn,C6,C7,ra,tm⟩:=t;simp only[k6,dd.e]at g;clear br z l U A;exact cn
 |some t'=>
  have f:=QD B;rw[U]at f;subst f;rw[B]at g l;have z:R=decide (t=⟨n,s,aY,k,m⟩):=by rw[<-br,decide_eq_decide,l];simp
  rw[z];simp only[sX]at g;simp only[dd.e]at g A;clear br z l B;generalize decide (t=(⟨n,s,aY,k,m⟩:dd))=Q at A⊢;clear U;obtain⟨tn,C6,C7,ra,tm⟩:=t;simp only at g A;exact cn
end
end Go.Proofs.YtahlgcidhnjlbaaGreat
