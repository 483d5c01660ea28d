/- Contracts: valid states of the reference. -/
import Derived.ProofKit
import Derived.Carry
import Derived.WalkKit
import Derived.Deep.Slices
import Derived.Test.YtahlgcidhnjlbaaGreatProg
import Derived.Test.YtahlgcidhnjlbaaGreatH4
set_option linter.all false
set_option maxHeartbeats 4000000
set_option maxRecDepth 4000
open Bool renaming and_eq_true->cP,eq_iff_iff->qP,false_eq_true->hN,not_eq_true'->sv,or_eq_true->n2
open Go renaming TypeId->gT
open Go.DataW renaming trod->j1
open Go.IntKind renaming i64->vf
open Go.IntWalk renaming i64_in->pf
open Go.Op renaming bytesLess->iq
open Go.Proofs.Tryz renaming prog->au
open Go.Value renaming cells->pg
open List renaming all_eq_true->j7,cons_append->b3,drop->oK,drop_eq_getElem_cons->lA,getElem?_append_left->rE,getElem?_append_right->vg,getElem?_eq_getElem->cl,getElem?_eq_none->qQ,getElem?_eq_some_iff->fM,getElem_of_mem->pk,length_append->p6,length_cons->mI,length_drop->tS,map_cons->hc,mem_append->j2,mem_cons->gK,mem_filter->oL,mem_map->hz,mem_of_getElem?->fx,nil_append->ca,pairwise_cons->n3,pairwise_iff_getElem->qS,take->mJ,take_length->jv,take_of_length_le->iE
open List.Pairwise renaming filter->aco
open Nat renaming le_refl->dL,le_trans->kx
open Option renaming bind_eq_some_iff->n4,getD_none->oM,getD_some->mK,isSome_none->mL,isSome_some->vh
open Option.some renaming inj->e7,injEq->dS
open _root_ renaming False->et,Option->bc,UInt8->cW,and_true->jk,beq_iff_eq->ey,congrArg->ff,decide_eq_false->po,decide_eq_false_iff_not->iL,decide_eq_true->n5,decide_eq_true_eq->gu,eq_true->h0
namespace Go.Proofs.YtahlgcidhnjlbaaGreat
section
open Go Go.Pv
inductive hA where
 |s (l:List cW)
 |b (x:ByteArray)
def hA.e:hA->af
 | .s l=>.str l
 | .b x=>.cst (.string x)
def hA.len:hA->Int
 | .s l=>l.length
 | .b x=>x.size
def n1(n:Nat):Prop:=lim<n/\n<=9223372036854775807
def hA.wf:hA->Prop
 | .s _=>True
 | .b x=>n1 x.size
inductive dw (α:Type) where
 |l (xs:List α)
 |b (p:bc Addr) (n cap:Nat)
def dw.e{α:Type}(sz:Nat)(f:α->af):dw α->af
 | .l xs=>.slice sz .no (xs.map f)
 | .b p n cap=>.cst (.slice p n cap)
def dw.wf{α:Type}(P:α->Prop):dw α->Prop
 | .l xs=> ∀x∈xs,P x
 | .b _ n _=>n1 n
inductive cL where
 |mk (k n:Int) (s:hA) (a:List cL)
 |big (k n:Int) (s:hA) (p:bc Addr) (len cap:Nat)
mutual
def cL.e:cL->af
 | .mk k n s a=>.agg [aj k,aj n,s.e,eb (cL.eL a)]
 | .big k n s p len cap=>.agg [aj k,aj n,s.e,.cst (.slice p len cap)]
def cL.eL:List cL->List af
 |[]=>[]
 |x::xs=>x.e::cL.eL xs
end
def cL.eL_map:∀l,cL.eL l=l.map cL.e
 |[]=>rfl
 |x::xs=>by simp[cL.eL,cL.eL_map xs]
def cL.kind:cL->Int| .mk k _ _ _=>k| .big k _ _ _ _ _=>k
def cL.num:cL->Int| .mk _ n _ _=>n| .big _ n _ _ _ _=>n
def cL.name:cL->hA| .mk _ _ s _=>s| .big _ _ s _ _ _=>s
def cL.args:cL->dw cL| .mk _ _ _ a=>.l a| .big _ _ _ p l c=>.b p l c
def cL.e_eq(t:cL):t.e= .agg [aj t.kind,aj t.num,t.name.e,t.args.e 4 cL.e]:=by
 cases t with
 |mk k n s a=>simp only[cL.e,cL.eL_map];rfl
 |big=>rfl
@[simp]def auZ(S:aA->Prop)(s:hA):az S s.e=True:=by cases s<;>simp[hA.e,az]
@[simp]def awM(s:hA):b5 s.e=s.e:=by cases s<;>simp[hA.e,b5]
mutual
def Xh(S:aA->Prop):∀t:cL,az S t.e
 | .mk k n s a=>by simp[cL.e,az,aH,Nt S a]
 | .big k n s p l c=>by simp[cL.e,az,aH]
def Nt(S:aA->Prop):∀l:List cL,aH S (cL.eL l)
 |[]=>by simp[cL.eL,aH]
 |x::xs=>by simp[cL.eL,aH,Xh S x,Nt S xs]
end
mutual
def aa0:∀t:cL,b5 t.e=t.e
 | .mk k n s a=>by simp[cL.e,b5,cf,PO a]
 | .big k n s p l c=>by simp[cL.e,b5,cf]
def PO:∀l:List cL,cf (cL.eL l)=cL.eL l
 |[]=>by simp[cL.eL,cf]
 |x::xs=>by simp[cL.eL,cf,aa0 x,PO xs]
end
@[simp]def au8(S:aA->Prop)(t:cL):az S t.e=True:=h0 (Xh S t)
@[simp]def auL(S:aA->Prop)(l:List cL):aH S (l.map cL.e)=True:=by rw[<-cL.eL_map];exact h0 (Nt S l)
@[simp]def awU(t:cL):b5 t.e=t.e:=aa0 t
@[simp]def awC(l:List cL):cf (l.map cL.e)=l.map cL.e:=by rw[<-cL.eL_map];exact PO l
@[simp]def auu(t:cL):qA 4 t.e:=by rw[cL.e_eq];exact⟨_,rfl,rfl⟩
@[simp]def auY(S:aA->Prop)(x:dw cL):az S (x.e 4 cL.e)=True:=by cases x<;>simp[dw.e,az]
@[simp]def awL(x:dw cL):b5 (x.e 4 cL.e)=x.e 4 cL.e:=by cases x<;>simp[dw.e,b5]
mutual
def cL.sz:cL->Nat
 | .mk _ _ _ a=>1+cL.szL a
 | .big _ _ _ _ _ _=>1
def cL.szL:List cL->Nat
 |[]=>0
 |x::xs=>x.sz+cL.szL xs
end
def cL.szL_mem:∀{l:List cL} {x:cL},x∈l->x.sz<=cL.szL l
 |y::l,x,h=>by
  rcases gK.1 h with rfl|h
  ·simp[cL.szL]
  ·have:=cL.szL_mem h;simp[cL.szL];omega
mutual
def cL.wf:cL->Prop
 | .mk _ _ s a=>s.wf/\cL.wfL a
 | .big _ _ s _ l _=>s.wf/\n1 l
def cL.wfL:List cL->Prop
 |[]=>True
 |x::xs=>x.wf/\cL.wfL xs
end
def cL.wfL_iff:∀{l:List cL},cL.wfL l↔∀x∈l,x.wf
 |[]=>by simp[cL.wfL]
 |x::l=>by simp[cL.wfL,cL.wfL_iff (l:=l)]
def jL{α:Type}(f:α->Int->Int):List α->Int->Int
 |[],m=>m
 |x::xs,m=>if f x m<0 then-1 else jL f xs (f x m)
def l9{α:Type}(f:α->Int->Int)(l:List α)(m:Int):Int:=if m-l.length<0 then-1 else jL f l (m-l.length)
def fo{α:Type}(f:α->Int->Int):dw α->Int->Int
 | .l xs,m=>l9 f xs m
 | .b _ _ _,_=> -1
def aa5{α:Type}{f:α->Int->Int}(a:∀x m,0<=m-> -1<=f x m/\f x m<=m):∀(l:List α) (m:Int),0<=m-> -1<=jL f l m/\jL f l m<=m
 |[],m,h=>by simp only[jL];omega
 |x::xs,m,h=>by
  have J:=a x m h;simp only[jL];split
  ·omega
  ·have U:=aa5 a xs (f x m) Ω;omega
def aqy{α:Type}{f:α->Int->Int}(a:∀x m,0<=m-> -1<=f x m/\f x m<=m)(l:List α)(m:Int)(h:0<=m): -1<=l9 f l m/\l9 f l m<=m:=by
 unfold l9;split
 ·omega
 ·have:=aa5 a l (m-l.length) Ω;omega
def u9{α:Type}{f:α->Int->Int}(a:∀x m,0<=m-> -1<=f x m/\f x m<=m)(l:dw α)(m:Int)(h:0<=m): -1<=fo f l m/\fo f l m<=m:=by
 cases l with
 |l xs=>exact aqy a xs m h
 |b=>simp only[fo];omega
mutual
def ib:cL->Int->Int
 | .mk _ _ s a,m=>if m-s.len<0 then-1 else if m-s.len-a.length<0 then-1 else qL a (m-s.len-a.length)
 | .big _ _ s _ _ _,m=>if m-s.len<0 then-1 else-1
def qL:List cL->Int->Int
 |[],m=>m
 |x::xs,m=>if ib x m<0 then-1 else qL xs (ib x m)
end
def aa8:∀(l:List cL) (m:Int),qL l m=jL ib l m
 |[],m=>rfl
 |x::xs,m=>by simp only[qL,jL,aa8 xs]
def JB(t:cL)(m:Int):ib t m=if m-t.name.len<0 then-1 else fo ib t.args (m-t.name.len):=by
 cases t with
 |mk=>simp only[ib,fo,l9,aa8,cL.name,cL.args];rfl
 |big=>simp only[ib,fo,cL.name,cL.args];rfl
def hA.len_nn(s:hA):0<=s.len:=by cases s<;>simp[hA.len]
mutual
def Aa:∀(t:cL) (m:Int),0<=m-> -1<=ib t m/\ib t m<=m
 | .mk _ _ s a,m,h=>by
  have:=s.len_nn;simp only[ib];split
  ·omega
  ·split
   ·omega
   ·have:=aa9 a (m-s.len-a.length) Ω;omega
 | .big _ _ s _ _ _,m,h=>by simp only[ib];split<;>omega
def aa9:∀(l:List cL) (m:Int),0<=m-> -1<=qL l m/\qL l m<=m
 |[],m,h=>by simp only[qL];omega
 |x::xs,m,h=>by
  have J:=Aa x m h;simp only[qL];split
  ·omega
  ·have U:=aa9 xs (ib x m) Ω;omega
end
def hA.small{s:hA}(hw:s.wf){m:Int}(a:m<=1048576)(h:0<=m-s.len):∃l,s= .s l:=by
 cases s with
 |s l=>exact⟨l,rfl⟩
 |b x=>simp only[hA.wf,n1,lim]at hw;simp only[hA.len]at h;omega
mutual
def ry:Tm->cL
 | .mk k n s a=>.mk k n (.s s) (qN a)
def qN:List Tm->List cL
 |[]=>[]
 |x::xs=>ry x::qN xs
end
def abq:∀l,qN l=l.map ry
 |[]=>rfl
 |x::xs=>by simp[qN,abq xs]
mutual
def abr:∀t:Tm,(ry t).e=enc t
 | .mk k n s a=>by simp only[ry,cL.e,enc,abp a];rfl
def abp:∀l:List Tm,cL.eL (qN l)=l0 l
 |[]=>rfl
 |x::xs=>by simp only[qN,cL.eL,l0,abr x,abp xs]
end
mutual
def abc:∀(t:cL) (m:Int),t.wf->m<=1048576->0<=m->0<=ib t m->∃u:Tm,t=ry u
 | .mk k n s a,m,hw,J,d,h=>by
  simp only[cL.wf]at hw;simp only[ib]at h;have:=s.len_nn;split at h
  ·omega
  rename_i g;obtain⟨l,rfl⟩:=hA.small hw.1 J Ω;split at h
  ·omega
  obtain⟨b,c⟩:=aba a _ hw.2 Ω Ω h;exact⟨.mk k n l b,by simp only[ry,c]⟩
 | .big _ _ s _ _ _,m,_,_,_,h=>by simp only[ib]at h;split at h<;>omega
def aba:∀(l:List cL) (m:Int),cL.wfL l->m<=1048576->0<=m->0<=qL l m->∃u:List Tm,l=qN u
 |[],_,_,_,_,_=>⟨[],rfl⟩
 |x::xs,m,hw,J,a,h=>by
  simp only[cL.wfL]at hw;simp only[qL]at h;have U:=Aa x m a;split at h
  ·omega
  obtain⟨u,hu⟩:=abc x m hw.1 J a Ω;obtain⟨v,b⟩:=aba xs _ hw.2 Ω Ω h;exact⟨u::v,by simp only[qN,hu,b]⟩
end
def aa6{α β:Type}{f:α->Int->Int}{P:α->Prop}{g:β->α}(hle:∀x m,0<=m-> -1<=f x m/\f x m<=m)(b:∀x m,P x->m<=1048576->0<=m->0<=f x m->∃y,x=g y):∀(l:List α) (m:Int),(∀x∈l,P x)->m<=1048576->0<=m->0<=jL f l m->∃u:List β,l=u.map g
 |[],_,_,_,_,_=>⟨[],rfl⟩
 |x::xs,m,hw,J,a,h=>by
  simp only[jL]at h;have U:=hle x m a;split at h
  ·omega
  obtain⟨u,hu⟩:=b x m (hw x Ψ) J a Ω;obtain⟨v,c⟩:=aa6 hle b xs _ (fun y d=>hw y (by simp[d])) Ω Ω h;exact⟨u::v,by rw[hc,<-hu,<-c]⟩
def PU{α β:Type}{f:α->Int->Int}{P:α->Prop}{g:β->α}(hle:∀x m,0<=m-> -1<=f x m/\f x m<=m)(a:∀x m,P x->m<=1048576->0<=m->0<=f x m->∃y,x=g y)(l:dw α)(m:Int)(hw:l.wf P)(J:m<=1048576)(c:0<=m)(h:0<=fo f l m):∃u:List β,l= .l (u.map g):=by
 cases l with
 |b=>simp only[fo]at h;omega
 |l xs=>
  simp only[fo,l9]at h;split at h
  ·omega
  obtain⟨u,hu⟩:=aa6 hle a xs _ hw Ω Ω h;exact⟨u,by rw[hu]⟩
end
section
open Go Go.Pv Go.ChangeShapes Go.WideShapes Go.ChangeAt Go.RowKit Go.Deep
def rV(W:World):a8:=⟨fun b o=> ∃u,W.cell? ⟨b,o,none⟩=some u,fun _=>none,fun _=>none,fun _ _ _=>et⟩
def Xk(W:World)(b:Nat):∀(us:List Value) (off:Nat),(∀i u,us[i]? =some u->W.cell? ⟨b,off+i,none⟩=some u)->kR W (rV W).A b off us
 |[],_,_=>trivial
 |u::us,off,h=>by
  have a:W.cell? ⟨b,off,none⟩=some u:=by simpa using h 0 u rfl
  exact⟨⟨⟨u,a⟩,a⟩,Xk W b us (off+1) fun i c hu=>by have:=h (i+1) c (by simpa using hu);rwa[show off+(i+1)=off+1+i from by omega]at this⟩
section
variable {H:Type} {enc:gT×Value->H} {W:World} {spare:Nat->Bool} {held:Bool}
def reads(W:World)(p:af)(cs:List Value):Prop:= ∃v:Value,v.cells.toList=cs/\aU W (rV W) p v/\∀c∈cs,c.oneCell'=true
def E5{W:World}{a:List af}{cs:List Value}(h:cU W (rV W) a cs):reads W (.agg a) cs:=by
 refine⟨.agg cs.toArray,by simp[pg],by simp only[aU];exact⟨cs.toArray,rfl,by simpa using h⟩,?_⟩;have:∀(a:List af) (cs:List Value),cU W (rV W) a cs->∀c∈cs,c.oneCell'=true:=by
  intro a;induction a with
  |nil=>intro cs h;simp only[cU]at h;subst h;simp
  |cons p a b=>
   intro cs h c aw;simp only[cU]at h;obtain⟨u,us,rfl,J,U⟩:=h;rcases gK.1 aw with rfl|aw
   ·exact J.2
   ·exact b us U c aw
 exact this a cs h
def wA(W:World)(p:af)(v:Value):Prop:=aU W (rV W) p v/\v.oneCell'=true/\v.cells= #[v]
def wA.reads{W:World}{p:af}{v:Value}(h:wA W p v):reads W p [v]:=⟨v,by rw[h.2.2],h.1,fun c aw=>by simp at aw;subst aw;exact h.2.1⟩
def adv{W:World}{a b k j:Nat}:W.cell? (((⟨a,b,none⟩:Addr).add k).add j)=W.cell? ⟨a,b+(k+j),none⟩:=by rw[add_add,Addr.add_lit]
def Fo{α:Type}{t e:gT}{sz:Nat}(f:α->af)(Q:α->Prop)(X:au.underlying t=some (.slice e))(aw:au.cellsOf e=sz)(L:0<sz){fuel:Nat}
  (y:∀n cs x,n<fuel->j1 enc au W 0 spare held n e cs=some x->∃a:α,Q a/\reads W (f a) cs)
  {cs:List Value} {x:DataW H×List MemPlace} (h:j1 enc au W 0 spare held fuel t cs=some x):∃l:dw α,l.wf Q/\∃v,cs=[v]/\wA W (l.e sz f) v:=by
 rcases DataW.trod_slice X h with⟨rfl,_⟩|⟨a,len,cap,elems,rest,n,rfl,rfl,_,_,R,hm,hlen,G,_,_⟩
 ·refine⟨.l [],by simp[dw.wf],_,rfl,?_,rfl,rfl⟩;simp only[dw.e,List.map_nil,aU];exact⟨⟨none,0,rfl,Ψ,⟨by simp[maxLen],by simp[lim]⟩,.inl Ψ⟩,fun e=>(by cases e),fun g e=>(by cases e),fun _ _ e=>(by cases e),fun _ e=>(by cases e)⟩
 by_cases Y:lim<len
 ·refine⟨.b (some a) len cap,⟨Y,by unfold maxLen at hm;omega⟩,_,rfl,?_,rfl,rfl⟩;simp only[dw.e,aU]
 rcases Nat.eq_zero_or_pos len with rfl|K
 ·refine⟨.l [],by simp[dw.wf],_,rfl,?_,rfl,rfl⟩;simp only[dw.e,List.map_nil,aU];exact⟨⟨some a,cap,rfl,Ψ,⟨hm,by simp[lim]⟩,.inl Ψ⟩,fun e=>(by cases e),fun g e=>(by cases e),fun _ _ e=>(by cases e),fun _ e=>(by cases e)⟩
 rw[aw]at G;have E:∀i,i<len->∃cs',cs'.length=sz/\(∀j,j<sz->W.cell? ((a.add (i*sz)).add j)=cs'[j]?)/\∃b:α,Q b/\reads W (f b) cs':=by intro i hi;have J:=G i hi;rw[cl Ω]at J;obtain⟨cs',U,o⟩:=n4.1 J;obtain⟨_,V,P⟩:=World.cells?_some U;exact⟨cs',V,P,y n cs' _ Ω o⟩
 obtain⟨k,m,spot⟩:=a;have w:spot=none:=by obtain⟨cs',J,U,_⟩:=E 0 K;have o:=U 0 L;rw[cl Ω]at o;simpa[Addr.add]using World.cell?_spot o
 subst w;have A:∀d,d<=len->∃xs:List α,xs.length=d/\(∀x∈xs,Q x)/\∃us:List Value,us.length=d*sz/\dt W (rV W) sz (xs.map f) us/\∀j u,us[j]? =some u->W.cell? ⟨k,m+((len-d)*sz+j),none⟩=some u:=by
  intro d;induction d with
  |zero=>intro _;exact⟨[],rfl,Ψ,[],Ψ,by simp[dt],Ψ⟩
  |succ d N=>
   intro aJ;obtain⟨xs,c,B,us,F,s,q⟩:=N Ω;obtain⟨cs',r,M,b,S,v,v1,v2,v3⟩:=E (len-(d+1)) Ω;have hmul:(len-d)*sz=(len-(d+1))*sz+sz:=by rw[show len-d=(len-(d+1))+1 from by omega,Nat.succ_mul]
   refine⟨b::xs,by simp[c],fun x z=>?_,cs'++us,by rw[p6,r,F,Nat.succ_mul];omega,?_,fun j u p=>?_⟩
   ·rcases gK.1 z with rfl|z
    ·exact S
    ·exact B x z
   ·simp only[hc,dt];exact⟨v,us,by rw[v1],⟨v2,by rw[<-r,<-v1];simp,by rw[v1];exact v3⟩,s⟩
   ·rcases Nat.lt_or_ge j sz with O|Z
    ·rw[rE Ω]at p;have:=M j O;rw[adv]at this;rw[this];exact p
    ·rw[vg Ω,r]at p;have:=q (j-sz) u p;rwa[show(len-d)*sz+(j-sz)=(len-(d+1))*sz+j from by omega]at this
 obtain⟨xs,c,B,us,F,s,q⟩:=A len (dL _);refine⟨.l xs,B,_,rfl,?_,rfl,rfl⟩;simp only[dw.e,aU];refine⟨⟨some ⟨k,m,none⟩,cap,by rw[List.length_map,c],by rw[List.length_map,c];exact R,⟨hm,by rw[List.length_map,c];omega⟩,.inr ⟨k,m,us,rfl,Xk W k us m fun i u hu=>?_,s⟩⟩,fun e=>(by cases e),fun g e=>(by cases e),fun _ _ e=>(by cases e),fun _ e=>(by cases e)⟩;have:=q i u hu;simpa using this
end
end
section
open Go Go.Pv
def vB:C:=(aa [dc 2 0,bQ 4 0] (aa [I 5 1,aF 6 2 1 2,ay 7 1 6,b9 8 (.slen (.t 7)),br 9 .sub 5 8,I 1 9] (.seq (aa [I 10 1,aV 11 .lss 10 0] (aZ 11 (aa [bQ 4 (-1)] .ret) .skip)) (aa [aF 12 3 1 2,ay 13 1 12,I 14 1,cj 15 16 13 14,I 1 15] (.seq (aa [I 16 1,aV 17 .lss 16 0] (aZ 17 (aa [bQ 4 (-1)] .ret) .skip)) (aa [I 18 1,I 4 18] .ret))))))
def KP:C:=(aa [bQ 4 0] (aa [I 6 1,I 7 0,cw 8 7,br 9 .sub 6 8,I 1 9] (.seq (aa [I 10 1,aV 11 .lss 10 0] (aZ 11 (aa [bQ 4 (-1)] .ret) .skip)) (.seq (aa [bQ 5 0] (.block 0 (.loop (.seq (aa [I 12 5,I 13 0,cw 14 13,br 15 .lss 12 14] (aZ 15 .skip (.exit 0))) (.seq (.block 1 (aa [I 18 0,I 19 5,ck 20 4 18 19,bq 21 4 20,I 22 1,cj 23 15 21 22,I 1 23] (aa [I 24 1,aV 25 .lss 24 0] (aZ 25 (aa [bQ 4 (-1)] .ret) .skip)))) (.region [I 16 5,aV 17 .add 16 1,I 5 17])))))) (aa [I 26 1,I 4 26] .ret)))))
def Sj:C:=(aa [dc 1 0,dR 2 eE] (aa [dR 3 eE] (aa [aF 4 0 1 1,ay 5 1 4,aF 6 0 1 3,bW 1 6 5] (aa [aF 7 1 1 1,ay 8 1 7,aF 9 1 1 3,bW 1 9 8] (aa [aF 10 2 1 1,ay 11 1 10,aF 12 2 1 3,bW 1 12 11] (aa [aF 13 3 1 1,ay 14 1 13,da 15 19 14,aF 16 3 1 3,bW 1 16 15] (aa [bq 17 4 3,bW 4 2 17] .ret)))))))
def Sk:C:=(aa [fw 2 4] (aa [I 5 0,cw 6 5,dr (.mks 7 none 4 30 (.agg eE) (.t 6)),I 3 7] (.seq (aa [bQ 4 0] (.block 0 (.loop (.seq (aa [I 8 4,I 9 0,cw 10 9,br 11 .lss 8 10] (aZ 11 .skip (.exit 0))) (.seq (.block 1 (.region [I 14 3,I 15 4,I 16 0,I 17 4,ck 18 4 16 17,bq 19 4 18,da 20 18 19,ck 21 4 14 15,bW 4 21 20])) (.region [I 12 4,aV 13 .add 12 1,I 4 13])))))) (.seq (.pub 3 (.region [I 22 3,I 2 22])) .ret))))
def R8:C:=(aa [bA 4 false] (.seq (aa [I 6 0,cw 7 6,I 8 1,cw 9 8,br 10 .neq 7 9] (aZ 10 (aa [bA 4 false] .ret) .skip)) (.seq (aa [bQ 5 0] (.block 0 (.loop (.seq (aa [I 11 5,I 12 0,cw 13 12,br 14 .lss 11 13] (aZ 14 .skip (.exit 0))) (.seq (.block 1 (.seq (.drawn true 27 [I 17 0,I 18 5,ck 19 4 17 18,bq 20 4 19,I 21 1,I 22 5,ck 23 4 21 22,bq 24 4 23,cj 25 22 20 24,cR 26 25]) (aZ 26 (aa [bA 4 false] .ret) .skip))) (.region [I 15 5,aV 16 .add 15 1,I 5 16])))))) (aa [bA 4 true] .ret))))
def R7:C:=(aa [dc 2 0,dc 3 1,bA 4 false] (.seq (aa [aF 5 0 1 2,ay 6 1 5,aF 7 0 1 3,ay 8 1 7,br 9 .neq 6 8] (aZ 9 (aa [bA 4 false] .ret) .skip)) (.seq (aa [aF 10 1 1 2,ay 11 1 10,aF 12 1 1 3,ay 13 1 12,br 14 .neq 11 13] (aZ 14 (aa [bA 4 false] .ret) .skip)) (.seq (aa [aF 15 2 1 2,ay 16 1 15,aF 17 2 1 3,ay 18 1 17,br 19 .neq 16 18] (aZ 19 (aa [bA 4 false] .ret) .skip)) (.seq (aa [aF 20 3 1 2,ay 21 1 20,aF 22 3 1 3,ay 23 1 22,cj 24 21 21 23,cR 25 24] (aZ 25 (aa [bA 4 false] .ret) .skip)) (aa [bA 4 true] .ret))))))
def Ay:C:=(aa [dc 2 0,bQ 4 0] (aa [aF 5 1 1 2,ay 6 1 5,I 7 1,cj 8 33 6 7,I 1 8] (.seq (aa [I 9 1,aV 10 .lss 9 0] (aZ 10 (aa [bQ 4 (-1)] .ret) .skip)) (aa [aF 11 2 1 2,ay 12 1 11,I 13 1,cj 14 72 12 13,I 1 14] (.seq (aa [I 15 1,aV 16 .lss 15 0] (aZ 16 (aa [bQ 4 (-1)] .ret) .skip)) (aa [aF 17 3 1 2,ay 18 1 17,I 19 1,cj 20 73 18 19,I 1 20] (.seq (aa [I 21 1,aV 22 .lss 21 0] (aZ 22 (aa [bQ 4 (-1)] .ret) .skip)) (aa [aF 23 4 1 2,ay 24 1 23,I 25 1,cj 26 74 24 25,I 1 26] (.seq (aa [I 27 1,aV 28 .lss 27 0] (aZ 28 (aa [bQ 4 (-1)] .ret) .skip)) (aa [I 29 1,I 4 29] .ret))))))))))
def Si:C:=(aa [dc 1 0,dR 2 jJ] (aa [dR 3 jJ] (aa [aF 4 0 1 1,ay 5 1 4,aF 6 0 1 3,bW 1 6 5] (aa [aF 7 1 1 1,ay 8 1 7,da 9 35 8,aF 10 1 1 3,bW 1 10 9] (aa [aF 11 2 1 1,ay 12 1 11,da 13 83 12,aF 14 2 1 3,bW 1 14 13] (aa [aF 15 3 1 1,ay 16 1 15,da 17 84 16,aF 18 3 1 3,bW 1 18 17] (aa [aF 19 4 1 1,ay 20 1 19,da 21 85 20,aF 22 4 1 3,bW 1 22 21] (aa [bq 23 5 3,bW 5 2 23] .ret))))))))
def R6:C:=(aa [dc 2 0,dc 3 1,bA 4 false] (.seq (aa [aF 5 0 1 2,ay 6 1 5,aF 7 0 1 3,ay 8 1 7,br 9 .neq 6 8] (aZ 9 (aa [bA 4 false] .ret) .skip)) (.seq (aa [aF 10 1 1 2,ay 11 1 10,aF 12 1 1 3,ay 13 1 12,cj 14 37 11 13,cR 15 14] (aZ 15 (aa [bA 4 false] .ret) .skip)) (.seq (aa [aF 16 2 1 2,ay 17 1 16,aF 18 2 1 3,ay 19 1 18,cj 20 92 17 19,cR 21 20] (aZ 21 (aa [bA 4 false] .ret) .skip)) (.seq (aa [aF 22 3 1 2,ay 23 1 22,aF 24 3 1 3,ay 25 1 24,cj 26 93 23 25,cR 27 26] (aZ 27 (aa [bA 4 false] .ret) .skip)) (.seq (aa [aF 28 4 1 2,ay 29 1 28,aF 30 4 1 3,ay 31 1 30,cj 32 94 29 31,cR 33 32] (aZ 33 (aa [bA 4 false] .ret) .skip)) (aa [bA 4 true] .ret)))))))
def KM:C:=(aa [bQ 4 0] (aa [I 6 1,I 7 0,cw 8 7,br 9 .sub 6 8,I 1 9] (.seq (aa [I 10 1,aV 11 .lss 10 0] (aZ 11 (aa [bQ 4 (-1)] .ret) .skip)) (.seq (aa [bQ 5 0] (.block 0 (.loop (.seq (aa [I 12 5,I 13 0,cw 14 13,br 15 .lss 12 14] (aZ 15 .skip (.exit 0))) (.seq (.block 1 (aa [I 18 0,I 19 5,ck 20 5 18 19,bq 21 5 20,I 22 1,cj 23 97 21 22,I 1 23] (aa [I 24 1,aV 25 .lss 24 0] (aZ 25 (aa [bQ 4 (-1)] .ret) .skip)))) (.region [I 16 5,aV 17 .add 16 1,I 5 17])))))) (aa [I 26 1,I 4 26] .ret)))))
def Se:C:=(aa [fw 2 5] (aa [I 5 0,cw 6 5,dr (.mks 7 none 5 113 (.agg kp) (.t 6)),I 3 7] (.seq (aa [bQ 4 0] (.block 0 (.loop (.seq (aa [I 8 4,I 9 0,cw 10 9,br 11 .lss 8 10] (aZ 11 .skip (.exit 0))) (.seq (.block 1 (.region [I 14 3,I 15 4,I 16 0,I 17 4,ck 18 5 16 17,bq 19 5 18,da 20 101 19,ck 21 5 14 15,bW 5 21 20])) (.region [I 12 4,aV 13 .add 12 1,I 4 13])))))) (.seq (.pub 3 (.region [I 22 3,I 2 22])) .ret))))
def R2:C:=(aa [bA 4 false] (.seq (aa [I 6 0,cw 7 6,I 8 1,cw 9 8,br 10 .neq 7 9] (aZ 10 (aa [bA 4 false] .ret) .skip)) (.seq (aa [bQ 5 0] (.block 0 (.loop (.seq (aa [I 11 5,I 12 0,cw 13 12,br 14 .lss 11 13] (aZ 14 .skip (.exit 0))) (.seq (.block 1 (.seq (.drawn true 27 [I 17 0,I 18 5,ck 19 5 17 18,bq 20 5 19,I 21 1,I 22 5,ck 23 5 21 22,bq 24 5 23,cj 25 103 20 24,cR 26 25]) (aZ 26 (aa [bA 4 false] .ret) .skip))) (.region [I 15 5,aV 16 .add 15 1,I 5 16])))))) (aa [bA 4 true] .ret))))
def KN:C:=(aa [bQ 4 0] (aa [I 6 1,I 7 0,cw 8 7,br 9 .sub 6 8,I 1 9] (.seq (aa [I 10 1,aV 11 .lss 10 0] (aZ 11 (aa [bQ 4 (-1)] .ret) .skip)) (.seq (aa [bQ 5 0] (.block 0 (.loop (.seq (aa [I 12 5,I 13 0,cw 14 13,br 15 .lss 12 14] (aZ 15 .skip (.exit 0))) (.seq (.block 1 (aa [I 18 0,I 19 5,ck 20 1 18 19,ay 21 1 20,I 22 1,cj 23 33 21 22,I 1 23] (aa [I 24 1,aV 25 .lss 24 0] (aZ 25 (aa [bQ 4 (-1)] .ret) .skip)))) (.region [I 16 5,aV 17 .add 16 1,I 5 17])))))) (aa [I 26 1,I 4 26] .ret)))))
def Gj:C:=(aa [bQ 4 0] (aa [I 5 1,I 6 0,cw 7 6,br 8 .sub 5 7,I 1 8] (.seq (aa [I 9 1,aV 10 .lss 9 0] (aZ 10 (aa [bQ 4 (-1)] .ret) .skip)) (aa [I 11 1,I 4 11] .ret))))
def KO:C:=(aa [bQ 4 0] (aa [I 6 1,I 7 0,cw 8 7,br 9 .sub 6 8,I 1 9] (.seq (aa [I 10 1,aV 11 .lss 10 0] (aZ 11 (aa [bQ 4 (-1)] .ret) .skip)) (.seq (aa [bQ 5 0] (.block 0 (.loop (.seq (aa [I 12 5,I 13 0,cw 14 13,br 15 .lss 12 14] (aZ 15 .skip (.exit 0))) (.seq (.block 1 (aa [I 18 0,I 19 5,ck 20 2 18 19,bq 21 2 20,I 22 1,cj 23 144 21 22,I 1 23] (aa [I 24 1,aV 25 .lss 24 0] (aZ 25 (aa [bQ 4 (-1)] .ret) .skip)))) (.region [I 16 5,aV 17 .add 16 1,I 5 17])))))) (aa [I 26 1,I 4 26] .ret)))))
def Sf:C:=(aa [fw 2 1] (aa [I 5 0,cw 6 5,dr (.mks 7 none 1 46 (.slice 5 .nil []) (.t 6)),I 3 7] (.seq (aa [bQ 4 0] (.block 0 (.loop (.seq (aa [I 8 4,I 9 0,cw 10 9,br 11 .lss 8 10] (aZ 11 .skip (.exit 0))) (.seq (.block 1 (.region [I 14 3,I 15 4,I 16 0,I 17 4,ck 18 1 16 17,ay 19 1 18,da 20 35 19,ck 21 1 14 15,bW 1 21 20])) (.region [I 12 4,aV 13 .add 12 1,I 4 13])))))) (.seq (.pub 3 (.region [I 22 3,I 2 22])) .ret))))
def Sm:C:=(aa [fw 2 2] (aa [I 5 0,cw 6 5,dr (.mks 7 none 2 98 (.agg [.int .i64 0,.int .i64 0]) (.t 6)),I 3 7] (.seq (aa [bQ 4 0] (.block 0 (.loop (.seq (aa [I 8 4,I 9 0,cw 10 9,br 11 .lss 8 10] (aZ 11 .skip (.exit 0))) (.seq (.block 1 (.region [I 14 3,I 15 4,I 16 0,I 17 4,ck 18 2 16 17,bq 19 2 18,da 20 156 19,ck 21 2 14 15,bW 2 21 20])) (.region [I 12 4,aV 13 .add 12 1,I 4 13])))))) (.seq (.pub 3 (.region [I 22 3,I 2 22])) .ret))))
def Sh:C:=(aa [fw 2 2] (aa [I 5 0,cw 6 5,dr (.mks 7 none 2 100 (.agg [.int .i64 0,.str []]) (.t 6)),I 3 7] (.seq (aa [bQ 4 0] (.block 0 (.loop (.seq (aa [I 8 4,I 9 0,cw 10 9,br 11 .lss 8 10] (aZ 11 .skip (.exit 0))) (.seq (.block 1 (.region [I 14 3,I 15 4,I 16 0,I 17 4,ck 18 2 16 17,bq 19 2 18,da 20 157 19,ck 21 2 14 15,bW 2 21 20])) (.region [I 12 4,aV 13 .add 12 1,I 4 13])))))) (.seq (.pub 3 (.region [I 22 3,I 2 22])) .ret))))
def R3:C:=(aa [bA 4 false] (.seq (aa [I 6 0,cw 7 6,I 8 1,cw 9 8,br 10 .neq 7 9] (aZ 10 (aa [bA 4 false] .ret) .skip)) (.seq (aa [bQ 5 0] (.block 0 (.loop (.seq (aa [I 11 5,I 12 0,cw 13 12,br 14 .lss 11 13] (aZ 14 .skip (.exit 0))) (.seq (.block 1 (.seq (.drawn true 27 [I 17 0,I 18 5,ck 19 1 17 18,ay 20 1 19,I 21 1,I 22 5,ck 23 1 21 22,ay 24 1 23,cj 25 37 20 24,cR 26 25]) (aZ 26 (aa [bA 4 false] .ret) .skip))) (.region [I 15 5,aV 16 .add 15 1,I 5 16])))))) (aa [bA 4 true] .ret))))
def Sa:C:=(aa [bA 4 false] (.seq (aa [I 6 0,cw 7 6,I 8 1,cw 9 8,br 10 .neq 7 9] (aZ 10 (aa [bA 4 false] .ret) .skip)) (.seq (aa [bQ 5 0] (.block 0 (.loop (.seq (aa [I 11 5,I 12 0,cw 13 12,br 14 .lss 11 13] (aZ 14 .skip (.exit 0))) (.seq (.block 1 (.seq (.drawn true 27 [I 17 0,I 18 5,ck 19 2 17 18,bq 20 2 19,I 21 1,I 22 5,ck 23 2 21 22,bq 24 2 23,cj 25 170 20 24,cR 26 25]) (aZ 26 (aa [bA 4 false] .ret) .skip))) (.region [I 15 5,aV 16 .add 15 1,I 5 16])))))) (aa [bA 4 true] .ret))))
def R5:C:=(aa [bA 4 false] (.seq (aa [I 6 0,cw 7 6,I 8 1,cw 9 8,br 10 .neq 7 9] (aZ 10 (aa [bA 4 false] .ret) .skip)) (.seq (aa [bQ 5 0] (.block 0 (.loop (.seq (aa [I 11 5,I 12 0,cw 13 12,br 14 .lss 11 13] (aZ 14 .skip (.exit 0))) (.seq (.block 1 (.seq (.drawn true 27 [I 17 0,I 18 5,ck 19 2 17 18,bq 20 2 19,I 21 1,I 22 5,ck 23 2 21 22,bq 24 2 23,cj 25 171 20 24,cR 26 25]) (aZ 26 (aa [bA 4 false] .ret) .skip))) (.region [I 15 5,aV 16 .add 15 1,I 5 16])))))) (aa [bA 4 true] .ret))))
def KL:C:=(aa [dc 2 0,bQ 4 0] (aa [hk 5 1 4 2,bq 6 4 5,I 7 1,cj 8 15 6 7,I 1 8] (.seq (aa [I 9 1,aV 10 .lss 9 0] (aZ 10 (aa [bQ 4 (-1)] .ret) .skip)) (aa [I 11 1,I 4 11] .ret))))
def Sd:C:=(aa [dc 1 0,dR 2 kp] (aa [dR 3 kp] (aa [aF 4 0 1 1,ay 5 1 4,aF 6 0 1 3,bW 1 6 5] (aa [hk 7 1 4 1,bq 8 4 7,da 9 18 8,hk 10 1 4 3,bW 4 10 9] (aa [bq 11 5 3,bW 5 2 11] .ret)))))
def R1:C:=(aa [dc 2 0,dc 3 1,bA 4 false] (.seq (aa [aF 5 0 1 2,ay 6 1 5,aF 7 0 1 3,ay 8 1 7,br 9 .neq 6 8] (aZ 9 (aa [bA 4 false] .ret) .skip)) (.seq (aa [hk 10 1 4 2,bq 11 4 10,hk 12 1 4 3,bq 13 4 12,cj 14 22 11 13,cR 15 14] (aZ 15 (aa [bA 4 false] .ret) .skip)) (aa [bA 4 true] .ret))))
def Gi:C:=(aa [dc 2 0,bQ 4 0] (aa [I 5 1,aF 6 1 1 2,ay 7 1 6,b9 8 (.slen (.t 7)),br 9 .sub 5 8,I 1 9] (.seq (aa [I 10 1,aV 11 .lss 10 0] (aZ 11 (aa [bQ 4 (-1)] .ret) .skip)) (aa [I 12 1,I 4 12] .ret))))
def Sl:C:=(aa [dc 1 0,dr (.alloc 2 none (.agg [.int .i64 0,.int .i64 0]))] (aa [dr (.alloc 3 none (.agg [.int .i64 0,.int .i64 0]))] (aa [aF 4 0 1 1,ay 5 1 4,aF 6 0 1 3,bW 1 6 5] (aa [aF 7 1 1 1,ay 8 1 7,aF 9 1 1 3,bW 1 9 8] (aa [bq 10 2 3,bW 2 2 10] .ret)))))
def Sg:C:=(aa [dc 1 0,dr (.alloc 2 none (.agg [.int .i64 0,.str []]))] (aa [dr (.alloc 3 none (.agg [.int .i64 0,.str []]))] (aa [aF 4 0 1 1,ay 5 1 4,aF 6 0 1 3,bW 1 6 5] (aa [aF 7 1 1 1,ay 8 1 7,aF 9 1 1 3,bW 1 9 8] (aa [bq 10 2 3,bW 2 2 10] .ret)))))
def R9:C:=(aa [dc 2 0,dc 3 1,bA 4 false] (.seq (aa [aF 5 0 1 2,ay 6 1 5,aF 7 0 1 3,ay 8 1 7,br 9 .neq 6 8] (aZ 9 (aa [bA 4 false] .ret) .skip)) (.seq (aa [aF 10 1 1 2,ay 11 1 10,aF 12 1 1 3,ay 13 1 12,br 14 .neq 11 13] (aZ 14 (aa [bA 4 false] .ret) .skip)) (aa [bA 4 true] .ret))))
def R4:C:=(aa [dc 2 0,dc 3 1,bA 4 false] (.seq (aa [aF 5 0 1 2,ay 6 1 5,aF 7 0 1 3,ay 8 1 7,br 9 .neq 6 8] (aZ 9 (aa [bA 4 false] .ret) .skip)) (.seq (aa [aF 10 1 1 2,ay 11 1 10,aF 12 1 1 3,ay 13 1 12,br 14 .neq 11 13] (aZ 14 (aa [bA 4 false] .ret) .skip)) (aa [bA 4 true] .ret))))
def xT:b6 aS vB [.tmp 4] 2 Tryz.f15=true:=bi
def YK:b6 aS KP [.tmp 4] 2 Tryz.f16=true:=bi
def anu:b6 aS Sj [.cell 2 true 4] 1 Tryz.f18=true:=bi
def anv:b6 aS Sk [.tmp 2] 1 Tryz.f19=true:=bi
def anj:b6 aS R8 [.tmp 4] 2 Tryz.f21=true:=bi
def ani:b6 aS R7 [.tmp 4] 2 Tryz.f22=true:=bi
def EK:b6 aS Ay [.tmp 4] 2 Tryz.f26=true:=bi
def ant:b6 aS Si [.cell 2 true 5] 1 Tryz.f28=true:=bi
def anh:b6 aS R6 [.tmp 4] 2 Tryz.f30=true:=bi
def YH:b6 aS KM [.tmp 4] 2 Tryz.f33=true:=bi
def anp:b6 aS Se [.tmp 2] 1 Tryz.f35=true:=bi
def anc:b6 aS R2 [.tmp 4] 2 Tryz.f37=true:=bi
def YI:b6 aS KN [.tmp 4] 2 Tryz.f72=true:=bi
def Ou:b6 aS Gj [.tmp 4] 2 Tryz.f73=true:=bi
def YJ:b6 aS KO [.tmp 4] 2 Tryz.f74=true:=bi
def anq:b6 aS Sf [.tmp 2] 1 Tryz.f83=true:=bi
def anx:b6 aS Sm [.tmp 2] 1 Tryz.f84=true:=bi
def ans:b6 aS Sh [.tmp 2] 1 Tryz.f85=true:=bi
def ane:b6 aS R3 [.tmp 4] 2 Tryz.f92=true:=bi
def anl:b6 aS Sa [.tmp 4] 2 Tryz.f93=true:=bi
def ang:b6 aS R5 [.tmp 4] 2 Tryz.f94=true:=bi
def YG:b6 aS KL [.tmp 4] 2 Tryz.f97=true:=bi
def ano:b6 aS Sd [.cell 2 true 5] 1 Tryz.f101=true:=bi
def anb:b6 aS R1 [.tmp 4] 2 Tryz.f103=true:=bi
def Ot:b6 aS Gi [.tmp 4] 2 Tryz.f144=true:=bi
def anw:b6 aS Sl [.cell 2 true 2] 1 Tryz.f156=true:=bi
def anr:b6 aS Sg [.cell 2 true 2] 1 Tryz.f157=true:=bi
def ank:b6 aS R9 [.tmp 4] 2 Tryz.f170=true:=bi
def anf:b6 aS R4 [.tmp 4] 2 Tryz.f171=true:=bi
def nl{α:Type}(f:α->af)(z:af)(l:List α)(i:Nat):List af:=(l.take i).map f++List.replicate (l.length-i) z
def BU{α:Type}(f:α->af)(z:af)(l:List α):nl f z l 0=List.replicate l.length z:=by simp[nl]
def X1{α:Type}(f:α->af)(z:af)(l:List α):nl f z l l.length=l.map f:=by simp[nl]
def X2{α:Type}(f:α->af)(z:af)(l:List α){i:Nat}(hi:i<l.length):(nl f z l i)[i]? =some z:=by
 unfold nl;have h:((l.take i).map f).length=i:=by simp;omega
 rw[vg Ω,h,Nat.sub_self,List.getElem?_replicate,if_pos Ω]
def X3{α:Type}(f:α->af)(z:af)(l:List α){i:Nat}{x:α}(a:l[i]? =some x):(nl f z l i).set i (f x)=nl f z l (i+1):=by
 have hi:=(fM.1 a).1;unfold nl;have h:((l.take i).map f).length=i:=by simp;omega
 rw[List.set_append_right _ _ Ω,h,Nat.sub_self,nZ a,List.map_append,List.append_assoc];congr 1;obtain⟨m,hm⟩:∃m,l.length-i=m+1:=⟨l.length-i-1,Ω⟩;rw[hm,show l.length-(i+1)=m from by omega,List.replicate_succ,List.set_cons_zero];rfl
def Nk(S:aA->Prop):∀{a b:List af},aH S (a++b)↔aH S a/\aH S b
 |[],b=>by simp[aH]
 |x::a,b=>by simp[aH,Nk S (a:=a),and_assoc]
def W2{α:Type}(S:aA->Prop)(f:α->af)(a:∀x,az S (f x)):∀l:List α,aH S (l.map f)
 |[]=>by simp[aH]
 |x::xs=>by simp[aH,W2 S f a xs,a]
def qC(S:aA->Prop)(z:af)(a:az S z):∀n,aH S (List.replicate n z)
 |0=>by simp[aH]
 |n+1=>by simp[List.replicate_succ,aH,qC S z a n,a]
def Xe{α:Type}(S:aA->Prop)(f:α->af)(z:af)(l:List α)(i:Nat)(b:∀x,az S (f x))(a:az S z):aH S (nl f z l i):=by unfold nl;rw[Nk];exact⟨W2 S f b _,qC S z a _⟩
def lP{α:Type}(f:α->Nat->af)(z:af)(out:List (α×Nat))(n:Nat):List af:=jf f out++List.replicate (n-out.length) z
def wo{α:Type}(f:α->Nat->af)(z:af)(n:Nat):List.replicate n z=lP f z [] n:=by simp[lP]
def N5{α:Type}(f:α->Nat->af)(z:af){out:List (α×Nat)}{n i:Nat}(hi:i<n)(ar:out.length=i):(lP f z out n)[i]? =some z:=by subst ar;simp[lP,List.getElem?_append,List.getElem?_replicate,hi];omega
def N7{α:Type}(f:α->Nat->af)(z:af){out:List (α×Nat)}{n i:Nat}(hi:i<n)(ar:out.length=i)(x:α)(m:Nat):(lP f z out n).set i (f x m)=lP f z (out++[(x,m)]) n:=by
 subst ar;obtain⟨d,a⟩:∃d,n-out.length=d+1:=⟨n-out.length-1,Ω⟩;have U:n-(out.length+1)=d:=Ω
 simp[lP,a,U,List.replicate_succ,List.set_append]
def N4{α:Type}(f:α->Nat->af)(z:af){out:List (α×Nat)}{n:Nat}(ar:out.length=n):lP f z out n=jf f out:=by subst ar;simp[lP]
@[simp]def N6{α:Type}(f:α->Nat->af)(z:af){out:List (α×Nat)}{n:Nat}(ar:out.length<=n):(lP f z out n).length=n:=by simp[lP];omega
def Ni{α:Type}{f:α->Nat->af}{g:α->af}(h:nv f g){n m:Nat}{l:List (α×Nat)}{z:af}(a:∀S,az S z)(b:qa n l)(hm:n<=m)(o:List aA)(N:Nat):aH (fun k=> ¬fresh m o k) (lP f z l N)=True:=by have J:=h.kin b hm o;unfold lP;rw[Nk];simp only[J,true_and];exact h0 (qC _ _ (a _) _)
def _root_.Go.Pv.Tm.k(t:Tm)(κ:Nat):af:= .agg [aj t.kind,aj t.num,.str t.name,.slice 4 (.tr (.loc κ) 0) (t.args.map enc)]
def HV:nv Tm.k enc:=⟨fun x n=>rfl,fun x n=>by simp[Tm.k,fl,ga,eo],fun x n=>by cases x;simp[Tm.k,b5,cf,enc,AM,Tm.kind,Tm.num,Tm.name,Tm.args],fun S x n h=>by simp[Tm.k,az,aH,h]⟩
def ab3(l:dw cL)(hw:∀p n cap,l= .b p n cap->n1 n)(c:∀xs,l= .l xs->∀x∈xs,∀m,0<=m->m<=1048576->bX au 15 [cL.e x,aj m] (aj (ib x m)))(m:Int)(u:0<=m)(J:m<=1048576):bX au 16 [l.e 4 cL.e,aj m] (aj (fo ib l m)):=by
 cases l with
 |b p n cap=>
  have s:=hw p n cap rfl;simp only[n1,lim]at s;have g:m-n<0:=Ω
  simp only[dw.e,fo];clear hw c;refine bL a7 Tryz.func16 YK fun o=>?_;unfold KP;exact cB
 |l l=>
 have c:=c l rfl;clear hw;simp only[dw.e,fo];generalize bu:l9 ib l m=R;unfold l9 at bu;refine bL a7 Tryz.func16 YK fun o=>?_;unfold KP;have t:l.length<=68719476736:=by simp[eP,eU,eQ,lim]at o;omega
 simp;by_cases g:m-l.length<0
 ·rw[if_pos g]at bu;subst bu;exact cB
 rw[if_neg g]at bu;(repeat' first|refine aq ?_|simp[g]);refine eY [0] (fun i (k:Int)=>[(1,aj k),(5,aj i)]) l.length (fun i k=>(0<=k/\k<=1048576)/\jL ib (l.drop i) k=R) (m-l.length) cc ⟨⟨Ω,Ω⟩,by simpa using bu⟩ (fun k a _=>?_) (fun i k hi a _=>?_)
 ·obtain⟨_,a⟩:=a;rw[List.drop_length]at a;simp only[jL]at a;subst a;exact cB
 ·obtain⟨⟨f,r⟩,a⟩:=a;obtain⟨x,e,j⟩:=eX hi;have key:=c x (fx e) k f r;have hle:=Aa x k f;rw[uP e]at a;simp only[jL]at a;generalize ib x k=q at key hle a;clear e;by_cases d:q<0
  ·rw[if_pos d]at a;subst a;exact cB
  ·rw[if_neg d]at a;simp[hi,j];((repeat' first|refine aq ?_|refine aP key ?_|refine aQ key ?_|simp[hi,j,d]|((first|apply cu|apply cy|apply cx)<;>intro h<;>try simp at h))<;>(try exact c4));all_goals exact bV.rng q hi ⟨⟨Ω,Ω⟩,a⟩ cc
def arb(l:List Tm)(c:∀x∈l,bX au 22 [enc x,enc x] (.bool true)):bX au 21 [eb (l.map enc),eb (l.map enc)] (.bool true):=by
 refine bL a7 Tryz.func21 anj fun b=>?_;unfold R8;have d:l.length<=68719476736:=by simp[eP,eU,eQ,lim]at b;omega
 simp;(repeat' first|refine aq ?_|simp);refine eY [0,1] (fun i (_:Unit)=>[(5,aj i)]) l.length (fun _ _=>True) () cc trivial (fun _ _ _=>?_) (fun i _ hi _ _=>?_)
 ·exact cB
 ·obtain⟨x,a,e⟩:=eX hi;have key:=c x (fx a);clear a;exact iW
def ar5(t:cL)(hw:t.wf):∀m:Int,0<=m->m<=1048576->bX au 15 [t.e,aj m] (aj (ib t m)):=by
 suffices H:∀(k:Nat) (t:cL),t.sz<=k->t.wf->∀m:Int,0<=m->m<=1048576->bX au 15 [t.e,aj m] (aj (ib t m))from H _ t (dL _) hw
 intro k;clear hw t;induction k with
 |zero=>intro t r;cases t<;>simp[cL.sz]at r
 |succ k o=>
  intro t r hw m A J;cases t with
  |mk j tn s a=>
   simp only[cL.wf,cL.wfL_iff]at hw;obtain⟨v,u⟩:=hw;have d:m-s.len<0->ib (.mk j tn s a) m= -1:=fun g=>by rw[JB];exact if_pos g
   have f:¬m-s.len<0->ib (.mk j tn s a) m=fo ib (.l a) (m-s.len):=fun g=>by rw[JB];exact if_neg g
   generalize ib (.mk j tn s a) m=R at d f;have z:=s.len_nn;have key:=fun h=>ab3 (.l a) (fun p n c e=>by cases e) (fun xs e x w=>by cases e;exact o x (by have:=cL.szL_mem w;simp only[cL.sz]at r;omega) (u x w)) (m-s.len) h Ω;have hle:=fun h=>u9 Aa (.l a) (m-s.len) h;simp only[cL.e,cL.eL_map];simp only[dw.e]at key;clear r u;cases s with
   |b x=>
    simp only[hA.wf,n1,lim]at v;have g:m-x.size<0:=Ω
    have bu:=d g;subst bu;clear d f;clear key hle o;simp only[hA.e];refine bL a7 Tryz.func15 xT fun i=>?_;unfold vB;exact cB
   |s l=>
    simp only[hA.len]at d f key hle;simp only[hA.e];by_cases g:m-l.length<0
    ·have bu:=d g;subst bu;clear d f;clear key hle o;refine bL a7 Tryz.func15 xT fun i=>?_;unfold vB;have q:l.length<=68719476736:=by simp[eP,eU,eQ,lim]at i;omega
     exact cB
    ·have bu:=f g;clear d f;have key:=key Ω;have hle:=hle Ω;rw[<-bu]at key hle;clear bu o;by_cases y:R<0
     ·have:R= -1:=Ω
      subst this;refine bL a7 Tryz.func15 xT fun i=>?_;unfold vB;have q:l.length<=68719476736:=by simp[eP,eU,eQ,lim]at i;omega
      exact cB
     ·refine bL a7 Tryz.func15 xT fun i=>?_;unfold vB;have q:l.length<=68719476736:=by simp[eP,eU,eQ,lim]at i;omega
      exact cB
  |big j tn s p n c=>
   simp only[cL.wf]at hw;obtain⟨v,u⟩:=hw;have d:m-s.len<0->ib (.big j tn s p n c) m= -1:=fun g=>by rw[JB];exact if_pos g
   have f:¬m-s.len<0->ib (.big j tn s p n c) m=fo ib (.b p n c) (m-s.len):=fun g=>by rw[JB];exact if_neg g
   generalize ib (.big j tn s p n c) m=R at d f;have z:=s.len_nn;have key:=fun h=>ab3 (.b p n c) (fun p n c e=>by cases e;exact u) (fun xs e=>by cases e) (m-s.len) h Ω;have hle:=fun h=>u9 Aa (.b p n c) (m-s.len) h;simp only[cL.e];simp only[dw.e]at key;clear r u;cases s with
   |b x=>
    simp only[hA.wf,n1,lim]at v;have g:m-x.size<0:=Ω
    have bu:=d g;subst bu;clear d f;clear key hle o;simp only[hA.e];refine bL a7 Tryz.func15 xT fun i=>?_;unfold vB;exact cB
   |s l=>
    simp only[hA.len]at d f key hle;simp only[hA.e];by_cases g:m-l.length<0
    ·have bu:=d g;subst bu;clear d f;clear key hle o;refine bL a7 Tryz.func15 xT fun i=>?_;unfold vB;have q:l.length<=68719476736:=by simp[eP,eU,eQ,lim]at i;omega
     exact cB
    ·have bu:=f g;clear d f;have key:=key Ω;have hle:=hle Ω;rw[<-bu]at key hle;clear bu o;by_cases y:R<0
     ·have:R= -1:=Ω
      subst this;refine bL a7 Tryz.func15 xT fun i=>?_;unfold vB;have q:l.length<=68719476736:=by simp[eP,eU,eQ,lim]at i;omega
      exact cB
     ·refine bL a7 Tryz.func15 xT fun i=>?_;unfold vB;have q:l.length<=68719476736:=by simp[eP,eU,eQ,lim]at i;omega
      exact cB
def amo(l:List Tm)(v:∀x∈l,fP au 18 [enc x] (Tm.k x)):fP au 19 [eb (l.map enc)] fun κ=>.slice 4 (.tr (.loc κ) 0) (l.map enc):=by
 refine fP.mk mixed a7 Tryz.func19 anv Ψ fun u κ=>?_;unfold Sk;have w:l.length<=68719476736:=by simp[eP,eU,eQ,lim]at u;omega
 simp;all_goals try refine⟨by unfold lim;omega,?_⟩
 (repeat' first|refine aq ?_|simp);have c:∀S:aA->Prop,az S (.agg [aj 0,aj 0,.str [],.slice 4 .nil []]):=fun S=>by simp[az,aH]
 refine fX (fun i (x:Nat×List (Tm×Nat))=>⟨[(0,eb (l.map enc)),(3,.row 4 (.loc 0) l.length),(4,aj i)],[],[(.loc 0,⟨l.length,30,4,some (lP Tm.k (.agg [aj 0,aj 0,.str [],.slice 4 .nil []]) x.2 l.length)⟩)],x.1,[]⟩) l.length (fun i x=>1<=x.1/\qa x.1 x.2/\x.2.map (·.1)=l.take i) (1,[]) ⟨by simp[fresh,aH,az,cb,aK,ad,<-wo,qC _ _ (c _)],ep (by simp[fresh,aH,az,cb,aK,ad,<-wo,qC _ _ (c _)]),er (by simp[fresh,aH,az,dU,aK,ad,<-wo,qC _ _ (c _)]),Ψ⟩ ⟨dL _,.nil _,Ψ⟩ (fun x e _=>?_) (fun i x hi e _=>?_)
 ·obtain⟨n,out⟩:=x;obtain⟨J,U,a⟩:=e;simp only[jv]at J U a;have b:out.length=l.length:=by rw[<-a];simp
  simp;rw[N4 _ _ b];(repeat' first|refine aq ?_|simp);(refine hP.val Ψ ?_;simp[ba,bd,a1,e0,ha,ez,gI,ec,gD,tnL,tn,fl,ga,fold,hq,ho,iw,ad,eo,cf,b5,HV.okL,HV.nodup U,HV.stL,a,b])
 ·obtain⟨n,out⟩:=x;obtain⟨J,U,a⟩:=e;simp only at J U a;obtain⟨x,r,k⟩:=eX hi;have key:=v x (fx r);have b:out.length=i:=by have:=ff List.length a;simp at this;omega
  have d:=N5 Tm.k (.agg [aj 0,aj 0,.str [],.slice 4 .nil []]) hi b;have g:∀h,((lP Tm.k (.agg [aj 0,aj 0,.str [],.slice 4 .nil []]) out l.length)[i]'h)= .agg [aj 0,aj 0,.str [],.slice 4 .nil []]:=fun h=>by rw[cl h]at d;exact e7 d
  have f:=fun m=>N7 Tm.k (.agg [aj 0,aj 0,.str [],.slice 4 .nil []]) hi b x m;have o:=N6 Tm.k (.agg [aj 0,aj 0,.str [],.slice 4 .nil []]) (out:=out) (n:=l.length) Ω;have y:=fun m n' (h:n<=m) (t:m<n')=>U.snoc x h t;have s:∀m,(out++[(x,m)]).map (fun p:Tm×Nat=>p.1)=l.take (i+1):=fun m=>by rw[nZ r,<-a];simp
  generalize lP Tm.k (.agg [aj 0,aj 0,.str [],.slice 4 .nil []]) out l.length=r0 at d g f o⊢;have q:=U.snoc x (dL n) (Nat.lt_succ_self n);have j:=Ni HV c q (dL _) [] l.length;simp[fresh]at j;simp[hi,k];(refine CallDo.own Ψ (key) (by simp[eo]) ?_;simp);(repeat' first|refine aq ?_|simp[hi,k,g,o,f,Tm.k,nq]);refine bV.rng (n+1,out++[(x,n)]) hi ?_ ?_
  ·exact⟨Ψ,q,s n⟩
  simp;rw[show(af.agg [aj x.kind,aj x.num,.str x.name,.slice 4 (.tr (.loc n) 0) (x.args.map enc)])=Tm.k x n from rfl,f n];exact⟨by simp[fresh,aH,az,cb,aK,ad],ep Ψ,er (by simp[fresh,aH,az,cb,aK,ad,dU];exact j),Ψ⟩
def amn(t:Tm):fP au 18 [enc t] t.k:=by
 suffices H:∀(k:Nat) (t:Tm),t.sz<=k->fP au 18 [enc t] t.k from H _ t (dL _)
 intro k;induction k with
 |zero=>intro t b;cases t;simp[Tm.sz]at b
 |succ k a=>intro t b;have key:=amo t.args (fun x c=>a x (by have:=PW c;omega));clear a;refine fP.mk mixed a7 Tryz.func18 anu Ψ fun d κ=>?_;unfold Sj;simp;(repeat' first|refine aq ?_|simp);(refine CallDo.own Ψ (key) (by simp[eo]) ?_;simp);(repeat' first|refine aq ?_|simp);(refine hP.val Ψ ?_;simp[ba,bd,a1,e0,ha,ez,gI,ec,gD,tnL,tn,fl,ga,fold,hq,ho,iw,ad,eo,cf,b5]);all_goals simp[Tm.k]
@[simp]def ati(t:Tm)(n:Nat):cells (t.k n)=[aj t.kind,aj t.num,.str t.name,.slice 4 (.tr (.loc n) 0) (t.args.map enc)]:=rfl
@[simp]def awz(t:Tm)(n:Nat):eS (t.k n)=true:=rfl
def ara(t:Tm):bX au 22 [enc t,enc t] (.bool true):=by
 suffices H:∀(k:Nat) (t:Tm),t.sz<=k->bX au 22 [enc t,enc t] (.bool true)from H _ t (dL _)
 intro k;induction k with
 |zero=>intro t b;cases t;simp[Tm.sz]at b
 |succ k a=>intro t b;have key:=arb t.args (fun x c=>a x (by have:=PW c;omega));clear a;refine bL a7 Tryz.func22 ani fun d=>?_;unfold R7;exact cB
structure fN where
 v:Int
 t:cL
def fN.e(b:fN):af:= .agg [aj b.v,aj b.t.kind,aj b.t.num,b.t.name.e,b.t.args.e 4 cL.e]
@[simp]def auQ(S:aA->Prop)(b:fN):az S b.e=True:=by simp[fN.e,az,aH]
@[simp]def awE(b:fN):b5 b.e=b.e:=by simp[fN.e,b5,cf]
def W4(S:aA->Prop):∀l:List fN,aH S (l.map fN.e)
 |[]=>by simp[aH]
 |x::xs=>by simp[aH,W4 S xs]
@[simp]def auF(S:aA->Prop)(l:List fN):aH S (l.map fN.e)=True:=h0 (W4 S l)
@[simp]def awb(b:fN):eS b.e=true:=rfl
@[simp]def aun(b:fN):qA 5 b.e:=⟨_,rfl,rfl⟩
@[simp]def asV(b:fN):cells b.e=[aj b.v,aj b.t.kind,aj b.t.num,b.t.name.e,b.t.args.e 4 cL.e]:=rfl
structure iu where
 v:Int
 s:hA
def iu.e(b:iu):af:= .agg [aj b.v,b.s.e]
@[simp]def au2(S:aA->Prop)(b:iu):az S b.e=True:=by simp[iu.e,az,aH]
@[simp]def awQ(b:iu):b5 b.e=b.e:=by simp[iu.e,b5,cf]
def W9(S:aA->Prop):∀l:List iu,aH S (l.map iu.e)
 |[]=>by simp[aH]
 |x::xs=>by simp[aH,W9 S xs]
@[simp]def auK(S:aA->Prop)(l:List iu):aH S (l.map iu.e)=True:=h0 (W9 S l)
@[simp]def aws(b:iu):eS b.e=true:=rfl
@[simp]def aus(b:iu):qA 2 b.e:=⟨_,rfl,rfl⟩
@[simp]def atb(b:iu):cells b.e=[aj b.v,b.s.e]:=rfl
def qK(b:fN)(m:Int):Int:=ib b.t m
def PT(b:fN)(m:Int)(h:0<=m): -1<=qK b m/\qK b m<=m:=Aa b.t m h
def jM(b:iu)(m:Int):Int:=if m-b.s.len<0 then-1 else m-b.s.len
def Fw(b:iu)(m:Int)(h:0<=m): -1<=jM b m/\jM b m<=m:=by have:=b.s.len_nn;unfold jM;split<;>omega
def F4(t:cL):af.agg [aj t.kind,aj t.num,t.name.e,t.args.e 4 cL.e]=t.e:=(cL.e_eq t).symm
def arZ(b:fN)(hw:b.t.wf)(m:Int)(a:0<=m)(J:m<=1048576):bX au 97 [b.e,aj m] (aj (qK b m)):=by
 have key:=ar5 b.t hw m a J;have hle:=Aa b.t m a;unfold qK;generalize ib b.t m=q at key hle⊢;by_cases c:q<0
 ·have:q= -1:=Ω
  subst this;refine bL a7 Tryz.func97 YG fun d=>?_;unfold KL;simp[F4];(repeat' first|refine aq ?_|refine aP key ?_|refine aQ key ?_|simp[F4]);all_goals simp[b0,ba,bd,a1]
 ·refine bL a7 Tryz.func97 YG fun d=>?_;unfold KL;simp[F4];(repeat' first|refine aq ?_|refine aP key ?_|refine aQ key ?_|simp[c,F4]);all_goals simp[b0,ba,bd,a1]
def _root_.Go.Pv.Bt.k(b:Bt)(κ:Nat):af:= .agg [aj b.v,aj b.t.kind,aj b.t.num,.str b.t.name,.slice 4 (.tr (.loc κ) 0) (b.t.args.map enc)]
def qg(d:List Bt)(κ:Nat):af:= .slice 5 (.tr (.loc κ) 0) (d.map Bt.e)
def HU:nv Bt.k Bt.e:=⟨fun x n=>rfl,fun x n=>⟨trivial,trivial,trivial,trivial,BZ n,trivial⟩,fun x n=>by simp only[Bt.k,b5,cf,aaY];rfl,fun S x n h=>by simp[Bt.k,az,aH,h]⟩
def HW:nv qg gv:=⟨fun x n=>rfl,fun x n=>BZ n,fun x n=>by simp[qg,gv,b5],fun S x n h=>by simp[qg,az,h]⟩
def amk(b:Bt):fP au 101 [b.e] b.k:=by have key:=amn b.t;refine fP.mk mixed a7 Tryz.func101 ano Ψ fun a κ=>?_;unfold Sd;simp;(repeat' first|refine aq ?_|simp);(refine CallDo.own Ψ (key) (by simp[eo]) ?_;simp);(repeat' first|refine aq ?_|simp);(refine hP.val Ψ ?_;simp[ba,bd,a1,e0,ha,ez,gI,ec,gD,tnL,tn,fl,ga,fold,hq,ho,iw,ad,eo,cf,b5]);all_goals simp[Bt.k]
def aq5(b:Bt):bX au 103 [b.e,b.e] (.bool true):=by have key:=ara b.t;refine bL a7 Tryz.func103 anb fun a=>?_;unfold R1;exact cB
def ar2(b:iu)(hw:b.s.wf)(m:Int)(f:0<=m)(J:m<=1048576):bX au 144 [b.e,aj m] (aj (jM b m)):=by
 have a:m-b.s.len<0->jM b m= -1:=fun g=>if_pos g;have c:¬m-b.s.len<0->jM b m=m-b.s.len:=fun g=>if_neg g;generalize jM b m=R at a c;obtain⟨v,s⟩:=b;simp only[iu.e]at hw a c⊢;cases s with
 |b x=>
  simp only[hA.wf,n1,lim]at hw;have g:m-x.size<0:=Ω
  have bu:=a g;subst bu;clear a c;simp only[hA.e];refine bL a7 Tryz.func144 Ot fun d=>?_;unfold Gi;exact cB
 |s l=>
  simp only[hA.e];by_cases g:m-l.length<0
  ·have bu:=a g;subst bu;clear a c hw;refine bL a7 Tryz.func144 Ot fun d=>?_;unfold Gi;have e:l.length<=68719476736:=by simp[eP,eU,eQ,lim]at d;omega
   exact cB
  ·have bu:R=m-l.length:=c g;subst bu;clear a c hw;refine bL a7 Tryz.func144 Ot fun d=>?_;unfold Gi;have e:l.length<=68719476736:=by simp[eP,eU,eQ,lim]at d;omega
   exact cB
def asa(b:bG):bX au 156 [b.e] b.e:=by refine bL a7 Tryz.func156 anw fun a=>?_;unfold Sl;exact cB
def ar8(b:bn):bX au 157 [b.e] b.e:=by refine bL a7 Tryz.func157 anr fun a=>?_;unfold Sg;exact cB
def arc(b:bG):bX au 170 [b.e,b.e] (.bool true):=by refine bL a7 Tryz.func170 ank fun a=>?_;unfold R9;exact cB
def aq8(b:bn):bX au 171 [b.e,b.e] (.bool true):=by refine bL a7 Tryz.func171 anf fun a=>?_;unfold R4;exact cB
@[simp high] def av3(x y:bn):nY x.e 0 [aj y.v,.str y.s]=y.e:=rfl
@[simp high] def av2(x y:bG):nY x.e 0 [aj y.v,aj y.k]=y.e:=rfl
@[simp]def amr(l:List bn):ga (l.map bn.e)=True:=h0 (EH (f:=bn.e) (fun _=>⟨trivial,trivial,trivial⟩) l)
@[simp]def awZ(l:List bn):tnL (l.map bn.e)=[]:=JF (f:=bn.e) (fun _=>rfl) l
@[simp]def amq(l:List bG):ga (l.map bG.e)=True:=h0 (EH (f:=bG.e) (fun _=>⟨trivial,trivial,trivial⟩) l)
def ar0(l:dw fN)(hw:∀p n cap,l= .b p n cap->n1 n)(c:∀xs,l= .l xs->∀x∈xs,∀m,0<=m->m<=1048576->bX au 97 [fN.e x,aj m] (aj (qK x m)))(m:Int)(u:0<=m)(J:m<=1048576):bX au 33 [l.e 5 fN.e,aj m] (aj (fo qK l m)):=by
 cases l with
 |b p n cap=>
  have s:=hw p n cap rfl;simp only[n1,lim]at s;have g:m-n<0:=Ω
  simp only[dw.e,fo];clear hw c;refine bL a7 Tryz.func33 YH fun o=>?_;unfold KM;exact cB
 |l l=>
 have c:=c l rfl;clear hw;simp only[dw.e,fo];generalize bu:l9 qK l m=R;unfold l9 at bu;refine bL a7 Tryz.func33 YH fun o=>?_;unfold KM;have t:l.length<=68719476736:=by simp[eP,eU,eQ,lim]at o;omega
 simp;by_cases g:m-l.length<0
 ·rw[if_pos g]at bu;subst bu;exact cB
 rw[if_neg g]at bu;(repeat' first|refine aq ?_|simp[g]);refine eY [0] (fun i (k:Int)=>[(1,aj k),(5,aj i)]) l.length (fun i k=>(0<=k/\k<=1048576)/\jL qK (l.drop i) k=R) (m-l.length) cc ⟨⟨Ω,Ω⟩,by simpa using bu⟩ (fun k a _=>?_) (fun i k hi a _=>?_)
 ·obtain⟨_,a⟩:=a;rw[List.drop_length]at a;simp only[jL]at a;subst a;exact cB
 ·obtain⟨⟨f,r⟩,a⟩:=a;obtain⟨x,e,j⟩:=eX hi;have key:=c x (fx e) k f r;have hle:=PT x k f;rw[uP e]at a;simp only[jL]at a;generalize qK x k=q at key hle a;clear e;by_cases d:q<0
  ·rw[if_pos d]at a;subst a;exact cB
  ·rw[if_neg d]at a;simp[hi,j];((repeat' first|refine aq ?_|refine aP key ?_|refine aQ key ?_|simp[hi,j,d]|((first|apply cu|apply cy|apply cx)<;>intro h<;>try simp at h))<;>(try exact c4));all_goals exact bV.rng q hi ⟨⟨Ω,Ω⟩,a⟩ cc
def aml(l:List Bt)(v:∀x∈l,fP au 101 [Bt.e x] (Bt.k x)):fP au 35 [bK (l.map Bt.e)] fun κ=>.slice 5 (.tr (.loc κ) 0) (l.map Bt.e):=by
 refine fP.mk mixed a7 Tryz.func35 anp Ψ fun u κ=>?_;unfold Se;have w:l.length<=68719476736:=by simp[eP,eU,eQ,lim]at u;omega
 simp;all_goals try refine⟨by unfold lim;omega,?_⟩
 (repeat' first|refine aq ?_|simp);have c:∀S:aA->Prop,az S (.agg [aj 0,aj 0,aj 0,.str [],.slice 4 .nil []]):=fun S=>by simp[az,aH]
 refine fX (fun i (x:Nat×List (Bt×Nat))=>⟨[(0,bK (l.map Bt.e)),(3,.row 5 (.loc 0) l.length),(4,aj i)],[],[(.loc 0,⟨l.length,113,5,some (lP Bt.k (.agg [aj 0,aj 0,aj 0,.str [],.slice 4 .nil []]) x.2 l.length)⟩)],x.1,[]⟩) l.length (fun i x=>1<=x.1/\qa x.1 x.2/\x.2.map (·.1)=l.take i) (1,[]) ⟨by simp[fresh,aH,az,cb,aK,ad,<-wo,qC _ _ (c _)],ep (by simp[fresh,aH,az,cb,aK,ad,<-wo,qC _ _ (c _)]),er (by simp[fresh,aH,az,dU,aK,ad,<-wo,qC _ _ (c _)]),Ψ⟩ ⟨dL _,.nil _,Ψ⟩ (fun x e _=>?_) (fun i x hi e _=>?_)
 ·obtain⟨n,out⟩:=x;obtain⟨J,U,a⟩:=e;simp only[jv]at J U a;have b:out.length=l.length:=by rw[<-a];simp
  simp;rw[N4 _ _ b];(repeat' first|refine aq ?_|simp);(refine hP.val Ψ ?_;simp[ba,bd,a1,e0,ha,ez,gI,ec,gD,tnL,tn,fl,ga,fold,hq,ho,iw,ad,eo,cf,b5,HU.okL,HU.nodup U,HU.stL,a,b])
 ·obtain⟨n,out⟩:=x;obtain⟨J,U,a⟩:=e;simp only at J U a;obtain⟨x,r,k⟩:=eX hi;have key:=v x (fx r);have b:out.length=i:=by have:=ff List.length a;simp at this;omega
  have d:=N5 Bt.k (.agg [aj 0,aj 0,aj 0,.str [],.slice 4 .nil []]) hi b;have g:∀h,((lP Bt.k (.agg [aj 0,aj 0,aj 0,.str [],.slice 4 .nil []]) out l.length)[i]'h)= .agg [aj 0,aj 0,aj 0,.str [],.slice 4 .nil []]:=fun h=>by rw[cl h]at d;exact e7 d
  have f:=fun m=>N7 Bt.k (.agg [aj 0,aj 0,aj 0,.str [],.slice 4 .nil []]) hi b x m;have o:=N6 Bt.k (.agg [aj 0,aj 0,aj 0,.str [],.slice 4 .nil []]) (out:=out) (n:=l.length) Ω;have y:=fun m n' (h:n<=m) (t:m<n')=>U.snoc x h t;have s:∀m,(out++[(x,m)]).map (fun p:Bt×Nat=>p.1)=l.take (i+1):=fun m=>by rw[nZ r,<-a];simp
  generalize lP Bt.k (.agg [aj 0,aj 0,aj 0,.str [],.slice 4 .nil []]) out l.length=r0 at d g f o⊢;have q:=U.snoc x (dL n) (Nat.lt_succ_self n);have j:=Ni HU c q (dL _) [] l.length;simp[fresh]at j;simp[hi,k];(refine CallDo.own Ψ (key) (by simp[eo]) ?_;simp);(repeat' first|refine aq ?_|simp[hi,k,g,o,f,Bt.k,nq]);refine bV.rng (n+1,out++[(x,n)]) hi ?_ ?_
  ·exact⟨Ψ,q,s n⟩
  simp;rw[show(af.agg [aj x.v,aj x.t.kind,aj x.t.num,.str x.t.name,.slice 4 (.tr (.loc n) 0) (x.t.args.map enc)])=Bt.k x n from rfl,f n];exact⟨by simp[fresh,aH,az,cb,aK,ad],ep Ψ,er (by simp[fresh,aH,az,cb,aK,ad,dU];exact j),Ψ⟩
def aq6(l:List Bt)(c:∀x∈l,bX au 103 [Bt.e x,Bt.e x] (.bool true)):bX au 37 [bK (l.map Bt.e),bK (l.map Bt.e)] (.bool true):=by
 refine bL a7 Tryz.func37 anc fun b=>?_;unfold R2;have d:l.length<=68719476736:=by simp[eP,eU,eQ,lim]at b;omega
 simp;(repeat' first|refine aq ?_|simp);refine eY [0,1] (fun i (_:Unit)=>[(5,aj i)]) l.length (fun _ _=>True) () cc trivial (fun _ _ _=>?_) (fun i _ hi _ _=>?_)
 ·exact cB
 ·obtain⟨x,a,e⟩:=eX hi;have key:=c x (fx a);clear a;exact iW
def ar3(l:dw iu)(hw:∀p n cap,l= .b p n cap->n1 n)(c:∀xs,l= .l xs->∀x∈xs,∀m,0<=m->m<=1048576->bX au 144 [iu.e x,aj m] (aj (jM x m)))(m:Int)(u:0<=m)(J:m<=1048576):bX au 74 [l.e 2 iu.e,aj m] (aj (fo jM l m)):=by
 cases l with
 |b p n cap=>
  have s:=hw p n cap rfl;simp only[n1,lim]at s;have g:m-n<0:=Ω
  simp only[dw.e,fo];clear hw c;refine bL a7 Tryz.func74 YJ fun o=>?_;unfold KO;exact cB
 |l l=>
 have c:=c l rfl;clear hw;simp only[dw.e,fo];generalize bu:l9 jM l m=R;unfold l9 at bu;refine bL a7 Tryz.func74 YJ fun o=>?_;unfold KO;have t:l.length<=68719476736:=by simp[eP,eU,eQ,lim]at o;omega
 simp;by_cases g:m-l.length<0
 ·rw[if_pos g]at bu;subst bu;exact cB
 rw[if_neg g]at bu;(repeat' first|refine aq ?_|simp[g]);refine eY [0] (fun i (k:Int)=>[(1,aj k),(5,aj i)]) l.length (fun i k=>(0<=k/\k<=1048576)/\jL jM (l.drop i) k=R) (m-l.length) cc ⟨⟨Ω,Ω⟩,by simpa using bu⟩ (fun k a _=>?_) (fun i k hi a _=>?_)
 ·obtain⟨_,a⟩:=a;rw[List.drop_length]at a;simp only[jL]at a;subst a;exact cB
 ·obtain⟨⟨f,r⟩,a⟩:=a;obtain⟨x,e,j⟩:=eX hi;have key:=c x (fx e) k f r;have hle:=Fw x k f;rw[uP e]at a;simp only[jL]at a;generalize jM x k=q at key hle a;clear e;by_cases d:q<0
  ·rw[if_pos d]at a;subst a;exact cB
  ·rw[if_neg d]at a;simp[hi,j];((repeat' first|refine aq ?_|refine aP key ?_|refine aQ key ?_|simp[hi,j,d]|((first|apply cu|apply cy|apply cx)<;>intro h<;>try simp at h))<;>(try exact c4));all_goals exact bV.rng q hi ⟨⟨Ω,Ω⟩,a⟩ cc
def aov(l:List bn)(j:∀x∈l,bX au 157 [bn.e x] (bn.e x)):fP au 85 [b4 (l.map bn.e)] fun κ=>.slice 2 (.tr (.loc κ) 0) (l.map bn.e):=by
 refine fP.mk mixed a7 Tryz.func85 ans Ψ fun h κ=>?_;unfold Sh;have k:l.length<=68719476736:=by simp[eP,eU,eQ,lim]at h;omega
 simp;all_goals try refine⟨by unfold lim;omega,?_⟩
 (repeat' first|refine aq ?_|simp);have c:∀(S:aA->Prop) (n:Nat),aH S (List.replicate n ((⟨0,[]⟩:bn).e))=True:=fun S n=>h0 (qC S _ (by simp[az,aH]) n);refine fX (fun i (_:Unit)=>⟨[(0,b4 (l.map bn.e)),(3,.row 2 (.loc 0) l.length),(4,aj i)],[],[(.loc 0,⟨l.length,100,2,some (nl bn.e ((⟨0,[]⟩:bn).e) l i)⟩)],1,[]⟩) l.length (fun _ _=>True) () ⟨by simp[fresh,aH,az,cb,aK,ad,BU,c],ep (by simp[fresh,aH,az,cb,aK,ad,BU,c]),er (by simp[fresh,aH,az,dU,aK,ad,BU,c]),Ψ⟩ trivial (fun _ _ _=>?_) (fun i _ hi _ _=>?_)
 ·rw[X1];simp;(repeat' first|refine aq ?_|simp);(refine hP.val Ψ ?_;simp[ba,bd,a1,e0,ha,ez,gI,ec,gD,tnL,tn,fl,ga,fold,hq,ho,iw,ad,eo,cf,b5,amr])
 ·obtain⟨x,d,e⟩:=eX hi;have key:=j x (fx d);have f:=X2 bn.e ((⟨0,[]⟩:bn).e) l hi;have b:=X3 bn.e ((⟨0,[]⟩:bn).e) l d;have a:∀S:aA->Prop,aH S (nl bn.e ((⟨0,[]⟩:bn).e) l (i+1)):=fun S=>Xe S _ _ _ _ (fun x=>by simp) (by simp[az,aH]);generalize nl bn.e ((⟨0,[]⟩:bn).e) l i=r0 at f b;generalize g:nl bn.e ((⟨0,[]⟩:bn).e) l (i+1)=m at b a;clear d;simp[hi,e];(repeat' first|refine aq ?_|refine aP key ?_|refine aQ key ?_|simp[hi,e,f,b,-nY]);all_goals refine bV.rng () hi trivial ?_
  all_goals rw[g]
  all_goals first
   |exact⟨by simp[fresh,aH,az,cb,aK,ad,a],ep (by simp[fresh,aH,az,cb,aK,ad,a]),er (by simp[fresh,aH,az,dU,aK,ad,a]),Ψ⟩
   |exact⟨by simp[fresh,aH,az,cb,aK,ad,a],ep (by simp[fresh,aH,az,cb,aK,ad,a]),er (by simp[fresh,aH,az,dU,aK,ad,a];exact b),Ψ⟩
def aq9(l:List bn)(c:∀x∈l,bX au 171 [bn.e x,bn.e x] (.bool true)):bX au 94 [b4 (l.map bn.e),b4 (l.map bn.e)] (.bool true):=by
 refine bL a7 Tryz.func94 ang fun b=>?_;unfold R5;have d:l.length<=68719476736:=by simp[eP,eU,eQ,lim]at b;omega
 simp;(repeat' first|refine aq ?_|simp);refine eY [0,1] (fun i (_:Unit)=>[(5,aj i)]) l.length (fun _ _=>True) () cc trivial (fun _ _ _=>?_) (fun i _ hi _ _=>?_)
 ·exact cB
 ·obtain⟨x,a,e⟩:=eX hi;have key:=c x (fx a);clear a;exact iW
def aow(l:List bG)(j:∀x∈l,bX au 156 [bG.e x] (bG.e x)):fP au 84 [b4 (l.map bG.e)] fun κ=>.slice 2 (.tr (.loc κ) 0) (l.map bG.e):=by
 refine fP.mk mixed a7 Tryz.func84 anx Ψ fun h κ=>?_;unfold Sm;have k:l.length<=68719476736:=by simp[eP,eU,eQ,lim]at h;omega
 simp;all_goals try refine⟨by unfold lim;omega,?_⟩
 (repeat' first|refine aq ?_|simp);have c:∀(S:aA->Prop) (n:Nat),aH S (List.replicate n ((⟨0,0⟩:bG).e))=True:=fun S n=>h0 (qC S _ (by simp[az,aH]) n);refine fX (fun i (_:Unit)=>⟨[(0,b4 (l.map bG.e)),(3,.row 2 (.loc 0) l.length),(4,aj i)],[],[(.loc 0,⟨l.length,98,2,some (nl bG.e ((⟨0,0⟩:bG).e) l i)⟩)],1,[]⟩) l.length (fun _ _=>True) () ⟨by simp[fresh,aH,az,cb,aK,ad,BU,c],ep (by simp[fresh,aH,az,cb,aK,ad,BU,c]),er (by simp[fresh,aH,az,dU,aK,ad,BU,c]),Ψ⟩ trivial (fun _ _ _=>?_) (fun i _ hi _ _=>?_)
 ·rw[X1];simp;(repeat' first|refine aq ?_|simp);(refine hP.val Ψ ?_;simp[ba,bd,a1,e0,ha,ez,gI,ec,gD,tnL,tn,fl,ga,fold,hq,ho,iw,ad,eo,cf,b5,amq])
 ·obtain⟨x,d,e⟩:=eX hi;have key:=j x (fx d);have f:=X2 bG.e ((⟨0,0⟩:bG).e) l hi;have b:=X3 bG.e ((⟨0,0⟩:bG).e) l d;have a:∀S:aA->Prop,aH S (nl bG.e ((⟨0,0⟩:bG).e) l (i+1)):=fun S=>Xe S _ _ _ _ (fun x=>by simp) (by simp[az,aH]);generalize nl bG.e ((⟨0,0⟩:bG).e) l i=r0 at f b;generalize g:nl bG.e ((⟨0,0⟩:bG).e) l (i+1)=m at b a;clear d;simp[hi,e];(repeat' first|refine aq ?_|refine aP key ?_|refine aQ key ?_|simp[hi,e,f,b,-nY]);all_goals refine bV.rng () hi trivial ?_
  all_goals rw[g]
  all_goals first
   |exact⟨by simp[fresh,aH,az,cb,aK,ad,a],ep (by simp[fresh,aH,az,cb,aK,ad,a]),er (by simp[fresh,aH,az,dU,aK,ad,a]),Ψ⟩
   |exact⟨by simp[fresh,aH,az,cb,aK,ad,a],ep (by simp[fresh,aH,az,cb,aK,ad,a]),er (by simp[fresh,aH,az,dU,aK,ad,a];exact b),Ψ⟩
def ard(l:List bG)(c:∀x∈l,bX au 170 [bG.e x,bG.e x] (.bool true)):bX au 93 [b4 (l.map bG.e),b4 (l.map bG.e)] (.bool true):=by
 refine bL a7 Tryz.func93 anl fun b=>?_;unfold Sa;have d:l.length<=68719476736:=by simp[eP,eU,eQ,lim]at b;omega
 simp;(repeat' first|refine aq ?_|simp);refine eY [0,1] (fun i (_:Unit)=>[(5,aj i)]) l.length (fun _ _=>True) () cc trivial (fun _ _ _=>?_) (fun i _ hi _ _=>?_)
 ·exact cB
 ·obtain⟨x,a,e⟩:=eX hi;have key:=c x (fx a);clear a;exact iW
def lv:dw bG->Int->Int
 | .l l,m=>if m-l.length<0 then-1 else m-l.length
 | .b _ _ _,_=> -1
def JA(l:dw bG)(m:Int)(h:0<=m): -1<=lv l m/\lv l m<=m:=by
 cases l with
 |l l=>simp only[lv];split<;>omega
 |b=>simp only[lv];omega
def ar6(l:dw bG)(hw:∀p n cap,l= .b p n cap->n1 n)(m:Int)(e:0<=m)(J:m<=1048576):bX au 73 [l.e 2 bG.e,aj m] (aj (lv l m)):=by
 cases l with
 |b p n cap=>
  have d:=hw p n cap rfl;simp only[n1,lim]at d;have g:m-n<0:=Ω
  simp only[dw.e,lv];clear hw;refine bL a7 Tryz.func73 Ou fun a=>?_;unfold Gj;exact cB
 |l l=>
  simp only[dw.e,lv];clear hw;by_cases g:m-l.length<0
  ·rw[if_pos g];refine bL a7 Tryz.func73 Ou fun a=>?_;unfold Gj;have c:l.length<=68719476736:=by simp[eP,eU,eQ,lim]at a;omega
   exact cB
  ·rw[if_neg g];refine bL a7 Tryz.func73 Ou fun a=>?_;unfold Gj;have c:l.length<=68719476736:=by simp[eP,eU,eQ,lim]at a;omega
   exact cB
def k1(d:dw fN):af:=d.e 5 fN.e
@[simp]def auT(S:aA->Prop)(d:dw fN):az S (k1 d)=True:=by cases d<;>simp[k1,dw.e,az]
@[simp]def awH(d:dw fN):b5 (k1 d)=k1 d:=by
 cases d with
 |l l=>
  have:∀l:List fN,cf (l.map fN.e)=l.map fN.e:=by
   intro l;induction l with
   |nil=>rfl
   |cons x l a=>simp[cf,a]
  simp[k1,dw.e,b5,this]
 |b=>simp[k1,dw.e,b5]
def Xc(S:aA->Prop):∀l:List (dw fN),aH S (l.map k1)
 |[]=>by simp[aH]
 |x::xs=>by simp[aH,Xc S xs]
@[simp]def auM(S:aA->Prop)(l:List (dw fN)):aH S (l.map k1)=True:=h0 (Xc S l)
@[simp]def awh(d:dw fN):eS (k1 d)=true:=by cases d<;>rfl
@[simp]def asZ(d:dw fN):cells (k1 d)=[k1 d]:=by cases d<;>rfl
def eC(d:dw fN)(m:Int):Int:=fo qK d m
def u7(d:dw fN)(m:Int)(h:0<=m): -1<=eC d m/\eC d m<=m:=u9 PT d m h
def yl(d:dw fN):Prop:=d.wf fun b=>b.t.wf
@[simp]def aqt:∀l:List (List Bt),cf (l.map gv)=l.map gv
 |[]=>rfl
 |x::xs=>by simp[cf,aqt xs]
def ab2(d:dw fN)(hw:yl d)(m:Int)(a:0<=m)(J:m<=1048576):bX au 33 [k1 d,aj m] (aj (eC d m)):=ar0 d (fun p n c e=>by subst e;exact hw) (fun xs e x b m a J=>by subst e;exact arZ x (hw x b) m a J) m a J
def Yg(d:List Bt):fP au 35 [gv d] (qg d):=aml d fun x _=>amk x
def abJ(d:List Bt):bX au 37 [gv d,gv d] (.bool true):=aq6 d fun x _=>aq5 x
def ar1(l:dw (dw fN))(hw:∀p n cap,l= .b p n cap->n1 n)(c:∀xs,l= .l xs->∀x∈xs,∀m,0<=m->m<=1048576->bX au 33 [k1 x,aj m] (aj (eC x m)))(m:Int)(u:0<=m)(J:m<=1048576):bX au 72 [l.e 1 k1,aj m] (aj (fo eC l m)):=by
 cases l with
 |b p n cap=>
  have s:=hw p n cap rfl;simp only[n1,lim]at s;have g:m-n<0:=Ω
  simp only[dw.e,fo];clear hw c;refine bL a7 Tryz.func72 YI fun o=>?_;unfold KN;exact cB
 |l l=>
 have c:=c l rfl;clear hw;simp only[dw.e,fo];generalize bu:l9 eC l m=R;unfold l9 at bu;refine bL a7 Tryz.func72 YI fun o=>?_;unfold KN;have t:l.length<=68719476736:=by simp[eP,eU,eQ,lim]at o;omega
 simp;by_cases g:m-l.length<0
 ·rw[if_pos g]at bu;subst bu;exact cB
 rw[if_neg g]at bu;(repeat' first|refine aq ?_|simp[g]);refine eY [0] (fun i (k:Int)=>[(1,aj k),(5,aj i)]) l.length (fun i k=>(0<=k/\k<=1048576)/\jL eC (l.drop i) k=R) (m-l.length) cc ⟨⟨Ω,Ω⟩,by simpa using bu⟩ (fun k a _=>?_) (fun i k hi a _=>?_)
 ·obtain⟨_,a⟩:=a;rw[List.drop_length]at a;simp only[jL]at a;subst a;exact cB
 ·obtain⟨⟨f,r⟩,a⟩:=a;obtain⟨x,e,j⟩:=eX hi;have key:=c x (fx e) k f r;have hle:=u7 x k f;rw[uP e]at a;simp only[jL]at a;generalize eC x k=q at key hle a;clear e;by_cases d:q<0
  ·rw[if_pos d]at a;subst a;exact cB
  ·rw[if_neg d]at a;simp[hi,j];((repeat' first|refine aq ?_|refine aP key ?_|refine aQ key ?_|simp[hi,j,d]|((first|apply cu|apply cy|apply cx)<;>intro h<;>try simp at h))<;>(try exact c4));all_goals exact bV.rng q hi ⟨⟨Ω,Ω⟩,a⟩ cc
def amm(l:List (List Bt))(v:∀x∈l,fP au 35 [gv x] (qg x)):fP au 83 [cV (l.map gv)] fun κ=>.slice 1 (.tr (.loc κ) 0) (l.map gv):=by
 refine fP.mk mixed a7 Tryz.func83 anq Ψ fun u κ=>?_;unfold Sf;have w:l.length<=68719476736:=by simp[eP,eU,eQ,lim]at u;omega
 simp;all_goals try refine⟨by unfold lim;omega,?_⟩
 (repeat' first|refine aq ?_|simp);have c:∀S:aA->Prop,az S (.slice 5 .nil []):=fun S=>by simp[az,aH]
 refine fX (fun i (x:Nat×List ((List Bt)×Nat))=>⟨[(0,cV (l.map gv)),(3,.row 1 (.loc 0) l.length),(4,aj i)],[],[(.loc 0,⟨l.length,46,1,some (lP qg (.slice 5 .nil []) x.2 l.length)⟩)],x.1,[]⟩) l.length (fun i x=>1<=x.1/\qa x.1 x.2/\x.2.map (·.1)=l.take i) (1,[]) ⟨by simp[fresh,aH,az,cb,aK,ad,<-wo,qC _ _ (c _)],ep (by simp[fresh,aH,az,cb,aK,ad,<-wo,qC _ _ (c _)]),er (by simp[fresh,aH,az,dU,aK,ad,<-wo,qC _ _ (c _)]),Ψ⟩ ⟨dL _,.nil _,Ψ⟩ (fun x e _=>?_) (fun i x hi e _=>?_)
 ·obtain⟨n,out⟩:=x;obtain⟨J,U,a⟩:=e;simp only[jv]at J U a;have b:out.length=l.length:=by rw[<-a];simp
  simp;rw[N4 _ _ b];(repeat' first|refine aq ?_|simp);(refine hP.val Ψ ?_;simp[ba,bd,a1,e0,ha,ez,gI,ec,gD,tnL,tn,fl,ga,fold,hq,ho,iw,ad,eo,cf,b5,HW.okL,HW.nodup U,HW.stL,a,b])
 ·obtain⟨n,out⟩:=x;obtain⟨J,U,a⟩:=e;simp only at J U a;obtain⟨x,r,k⟩:=eX hi;have key:=v x (fx r);have b:out.length=i:=by have:=ff List.length a;simp at this;omega
  have d:=N5 qg (.slice 5 .nil []) hi b;have g:∀h,((lP qg (.slice 5 .nil []) out l.length)[i]'h)= .slice 5 .nil []:=fun h=>by rw[cl h]at d;exact e7 d
  have f:=fun m=>N7 qg (.slice 5 .nil []) hi b x m;have o:=N6 qg (.slice 5 .nil []) (out:=out) (n:=l.length) Ω;have y:=fun m n' (h:n<=m) (t:m<n')=>U.snoc x h t;have s:∀m,(out++[(x,m)]).map (fun p:(List Bt)×Nat=>p.1)=l.take (i+1):=fun m=>by rw[nZ r,<-a];simp
  generalize lP qg (.slice 5 .nil []) out l.length=r0 at d g f o⊢;have q:=U.snoc x (dL n) (Nat.lt_succ_self n);have j:=Ni HW c q (dL _) [] l.length;simp[fresh]at j;simp[hi,k];(refine CallDo.own Ψ (key) (by simp[eo]) ?_;simp);(repeat' first|refine aq ?_|simp[hi,k,g,o,f,qg,nq]);refine bV.rng (n+1,out++[(x,n)]) hi ?_ ?_
  ·exact⟨Ψ,q,s n⟩
  simp;rw[show(af.slice 5 (.tr (.loc n) 0) (x.map Bt.e))=qg x n from rfl,f n];exact⟨by simp[fresh,aH,az,cb,aK,ad],ep Ψ,er (by simp[fresh,aH,az,cb,aK,ad,dU];exact j),Ψ⟩
def aq7(l:List (List Bt))(c:∀x∈l,bX au 37 [gv x,gv x] (.bool true)):bX au 92 [cV (l.map gv),cV (l.map gv)] (.bool true):=by
 refine bL a7 Tryz.func92 ane fun b=>?_;unfold R3;have d:l.length<=68719476736:=by simp[eP,eU,eQ,lim]at b;omega
 simp;(repeat' first|refine aq ?_|simp);refine eY [0,1] (fun i (_:Unit)=>[(5,aj i)]) l.length (fun _ _=>True) () cc trivial (fun _ _ _=>?_) (fun i _ hi _ _=>?_)
 ·exact cB
 ·obtain⟨x,a,e⟩:=eX hi;have key:=c x (fx a);clear a;exact iW
def SN:C:=(aa [dc 1 0,bA 2 false] (aa [bq 3 4 1,eg 4 123 [.t 3,(gP 5000)],aV 5 .leq 4 5000,I 6 5,ax 6 true (bq 7 4 1),ax 6 true (da 8 124 7),ev 9 6 8,I 2 9] .ret))
def AA:C:=(aa [dc 2 0,fw 4 1] (.seq (aa [aF 7 0 1 2,ay 8 1 7,aV 9 .eql 8 1] (aZ 9 (aa [I 10 1,aF 11 1 1 2,ay 12 1 11,cj 13 126 10 12,I 4 13] .ret) .skip)) (.seq (aa [aF 14 3 1 2,ay 15 1 14,cw 16 15,bQ 17 0] (gq 18 17 16 (.seq (.block 1 (aa [ck 19 4 15 17,bq 20 4 19,dR 6 eE,bW 4 6 20] (.region [bq 21 4 6,I 22 1,cj 23 58 21 22,I 1 23]))) (.region [aV 24 .add 17 1,I 17 24])))) (aa [I 25 1,I 4 25] .ret))))
def S0:C:=(aa [dc 3 1,dR 4 eE,bA 5 false] (aa [I 7 0,bq 8 4 3,cj 9 127 7 8,dR 6 eE,bW 4 6 9] (.seq (.drawn true 13 [bq 10 4 6,bq 11 4 6,da 12 128 11,bW 4 4 10,I 5 12]) .ret)))
def SO:C:=(aa [bA 6 false] (aa [I 7 0,I 8 1,br 9 .geq 7 8,I 10 9,cd 10 true 11 0,cd 10 true 12 2,ax 10 true (br 13 .leq 11 12),ev 14 10 13,I 6 14] .ret))
def KW:C:=(aa [bA 2 false] (.seq (aa [I 9 0,da 10 145 9,cR 11 10] (aZ 11 (aa [bA 2 false] .ret) .skip)) (.seq (aa [I 12 0,cw 13 12,bQ 14 0] (gq 15 14 13 (.seq (.block 1 (aa [ck 16 5 12 14,bq 17 5 16,dR 4 kp,bW 5 4 17] (.seq (aa [hk 18 1 4 4,aF 19 0 1 18,ay 20 1 19,aV 21 .eql 20 1,I 22 21,ax 22 true (hk 23 1 4 4),ax 22 true (aF 24 1 1 23),ax 22 true (ay 25 1 24),ax 22 true (aF 26 0 1 4),ax 22 true (ay 27 1 26),ax 22 true (br 28 .geq 25 27),ev 29 22 28] (aZ 29 (aa [bA 2 false] .ret) .skip)) (aa [hk 30 1 4 4,bq 31 4 30,eg 32 58 [.t 31,(.c (.slice 1 .nil []))],cw 33 32,bQ 34 0] (.block 2 (.loop (aa [br 35 .lss 34 33] (.seq (aZ 35 .skip (.exit 2)) (.seq (.block 3 (aa [ck 36 1 32 34,ay 37 1 36,I 6 37] (aa [I 39 0,I 40 6,cj 41 146 39 40,I 38 41,dm 42 0 38,dm 43 1 38,dR 7 eE,bW 4 7 42,I 8 43] (aa [I 44 8] (aZ 44 (aa [bA 2 false] .ret) .skip))))) (.region [aV 45 .add 34 1,I 34 45])))))))))) (.region [aV 46 .add 14 1,I 14 46])))) (aa [bA 2 true] .ret))))
def SJ:C:=(aa [bA 2 false] (.seq (aa [bQ 3 0] (.block 0 (.loop (.seq (aa [I 5 3,I 6 0,b9 7 (.slen (.t 6)),br 8 .lss 5 7] (aZ 8 .skip (.exit 0))) (.seq (.block 1 (aa [I 11 0,I 12 3,b9 13 (.sidx (.t 11) (.t 12)),b9 14 (.bin .geq false (.t 13) (.c (.int .u8 97))),I 15 14,cd 15 true 16 0,cd 15 true 17 3,ax 15 true (b9 18 (.sidx (.t 16) (.t 17))),ax 15 true (b9 19 (.bin .leq false (.t 18) (.c (.int .u8 122)))),ev 20 15 19,I 4 20] (aa [I 21 4,cR 22 21,I 23 22,cd 23 true 24 3,ax 23 true (aV 25 .eql 24 0),cd 23 true 26 25,cd 26 false 27 0,cd 26 false 28 3,ax 26 false (b9 29 (.sidx (.t 27) (.t 28))),ax 26 false (b9 30 (.bin .neq false (.t 29) (.c (.int .u8 45)))),cd 26 false 31 30,cd 31 true 32 0,cd 31 true 33 3,ax 31 true (b9 34 (.sidx (.t 32) (.t 33))),ax 31 true (b9 35 (.conv .i64 (.t 34))),ax 31 true (eg 36 75 [.t 35,(gP 48),(gP 57)]),ax 31 true (cR 37 36),ax 26 false (ev 38 31 37),ax 23 true (dq 39 26 38),ev 40 23 39] (aZ 40 (aa [bA 2 false] .ret) .skip)))) (.region [I 9 3,aV 10 .add 9 1,I 3 10])))))) (aa [I 41 0,b9 42 (.slen (.t 41)),eg 43 75 [.t 42,(gP 1),(gP 12)],I 2 43] .ret)))
def SP:C:=(aa [dc 2 0,bQ 4 0] (aa [bQ 5 1] (.seq (aa [aF 8 3 1 2,ay 9 1 8,cw 10 9,bQ 11 0] (gq 12 11 10 (.seq (.block 1 (aa [ck 13 4 9 11,bq 14 4 13,dR 7 eE,bW 4 7 14] (.seq (aa [I 15 5,I 16 1,br 17 .gtr 15 16] (aZ 17 (aa [I 18 5,I 4 18] .ret) .skip)) (.region [I 19 5,bq 20 4 7,I 21 1,I 22 5,br 23 .sub 21 22,cj 24 123 20 23,br 25 .add 19 24,I 5 25])))) (.region [aV 26 .add 11 1,I 11 26])))) (aa [I 27 5,I 4 27] .ret))))
def mS:C:=(aa [dc 1 0,bA 2 false] (.seq (aa [aF 3 0 1 1,ay 4 1 3,aV 5 .neq 4 1,I 6 5,ax 6 true (aF 7 0 1 1),ax 6 true (ay 8 1 7),ax 6 true (aV 9 .neq 8 3),ev 10 6 9,I 11 10,ax 11 true (aF 12 1 1 1),ax 11 true (ay 13 1 12),ax 11 true (aV 14 .neq 13 0),ev 15 11 14,I 16 15,ax 16 false (aF 17 0 1 1),ax 16 false (ay 18 1 17),ax 16 false (aV 19 .neq 18 2),cd 16 false 20 19,ax 20 true (aF 21 2 1 1),ax 20 true (ay 22 1 21),ym 20 true 23 (.bin .neq false (.t 22) (.c (.str []))),ax 16 false (ev 24 20 23),dq 25 16 24,I 26 25,ax 26 false (aF 27 0 1 1),ax 26 false (ay 28 1 27),ax 26 false (aV 29 .neq 28 4),cd 26 false 30 29,ax 30 true (aF 31 3 1 1),ax 30 true (ay 32 1 31),ax 30 true (cw 33 32),ax 30 true (aV 34 .gtr 33 0),ax 26 false (ev 35 30 34),dq 36 26 35] (aZ 36 (aa [bA 2 false] .ret) .skip)) (.seq (aa [aF 37 0 1 1,ay 38 1 37] (.block 0 (aa [aV 40 .eql 38 0,I 39 40] (aZ 39 (aa [bA 2 true] .ret) (aa [aV 42 .eql 38 1,I 41 42] (aZ 41 (aa [aF 43 1 1 1,ay 44 1 43,eg 45 75 [.t 44,(gP 0),(gP 100000)],I 2 45] .ret) (aa [aV 47 .eql 38 2,I 46 47] (aZ 46 (aa [aF 48 2 1 1,ay 49 1 48,da 50 119 49,I 2 50] .ret) (aa [aV 52 .eql 38 3,I 51 52] (aZ 51 (aa [aF 53 1 1 1,ay 54 1 53,eg 55 75 [.t 54,(gP (-1000000000)),(gP 1000000000)],I 2 55] .ret) (aa [aV 57 .eql 38 4,I 56 57] (aZ 56 (aa [aF 58 3 1 1,ay 59 1 58,cw 60 59,aV 61 .eql 60 2,I 62 61,ax 62 true (aF 63 3 1 1),ax 62 true (ay 64 1 63),ax 62 true (ku 65 4 64 0),ax 62 true (bq 66 4 65),ax 62 true (da 67 124 66),ev 68 62 67,I 69 68,ax 69 true (aF 70 3 1 1),ax 69 true (ay 71 1 70),ax 69 true (ku 72 4 71 1),ax 69 true (bq 73 4 72),ax 69 true (da 74 124 73),ev 75 69 74,I 2 75] .ret) .skip)))))))))))) (aa [bA 2 false] .ret))))
def SR:C:=(aa [fw 4 1] (aa [I 7 0,cw 8 7,I 5 8] (.seq (.block 0 (.loop (.seq (aa [I 9 5,aV 10 .gtr 9 0,I 11 10,cd 11 true 12 0,cd 11 true 13 5,ax 11 true (aV 14 .sub 13 1),ax 11 true (ck 15 1 12 14),ax 11 true (ay 16 1 15),cd 11 true 17 1,ax 11 true (br 18 .geq 16 17),ev 19 11 18] (aZ 19 .skip (.exit 0))) (.block 1 (.region [I 20 5,aV 21 .sub 20 1,I 5 21]))))) (.seq (aa [I 22 5,I 23 0,cw 24 23,br 25 .lss 22 24,I 26 25,cd 26 true 27 0,cd 26 true 28 5,ax 26 true (ck 29 1 27 28),ax 26 true (ay 30 1 29),cd 26 true 31 1,ax 26 true (br 32 .eql 30 31),ev 33 26 32] (aZ 33 (aa [I 34 0,I 4 34] .ret) .skip)) (aa [fp 35 1 3 [],I 36 0,I 37 5,b9 38 (.lsl 1 (.t 36) none (some (.t 37))),im 39 1 3 35 38,I 6 39] (aa [I 40 6,I 41 1,fp 42 1 3 [.t 41],im 43 1 3 40 42,I 6 43] (aa [I 44 6,I 45 0,I 46 5,b9 47 (.lsl 1 (.t 45) (some (.t 46)) none),im 48 1 3 44 47,I 4 48] .ret)))))))
def Gn:C:=(aa [dc 3 1,dR 4 eE] (.seq (aa [aF 7 0 1 3,ay 8 1 7,aV 9 .eql 8 1] (aZ 9 (aa [I 11 0,aF 12 1 1 3,ay 13 1 12,cj 14 146 11 13,I 10 14,dm 15 0 10,dm 16 1 10,dR 5 eE,bW 4 5 15,I 6 16] (aa [I 17 6] (aZ 17 (aa [bq 18 4 5,bW 4 4 18] .ret) .skip))) .skip)) (.seq (aa [aF 19 0 1 3,ay 20 1 19,aV 21 .eql 20 4] (aZ 21 (.seq (.drawn true 36 [I 22 0,aF 23 3 1 3,ay 24 1 23,ku 25 4 24 0,bq 26 4 25,cj 27 127 22 26,I 28 0,aF 29 3 1 3,ay 30 1 29,ku 31 4 30 1,bq 32 4 31,cj 33 127 28 32,cj 34 189 27 33,bW 4 4 34]) .ret) .skip)) (aa [bq 35 4 3,bW 4 4 35] .ret))))
def SQ:C:=(aa [dc 1 0,bA 2 false] (aa [bq 3 4 1,eg 4 123 [.t 3,(gP 5000)],aV 5 .leq 4 5000,I 2 5] .ret))
def S4:C:=(aa [bA 2 false] (.seq (aa [I 5 0,cw 6 5,bQ 7 0] (gq 8 7 6 (.seq (.block 1 (aa [I 9 7,ck 10 5 5 7,bq 11 5 10,dR 4 kp,I 3 9,bW 5 4 11] (.seq (.drawn true 41 [I 12 3,aV 13 .gtr 12 0,I 14 13,cd 14 true 15 0,cd 14 true 16 3,ax 14 true (aV 17 .sub 16 1),ax 14 true (ck 18 5 15 17),ax 14 true (aF 19 0 1 18),ax 14 true (ay 20 1 19),ax 14 true (aF 21 0 1 4),ax 14 true (ay 22 1 21),ax 14 true (br 23 .geq 20 22),ev 24 14 23,I 25 24,ax 25 false (aF 26 0 1 4),ax 25 false (ay 27 1 26),ax 25 false (eg 28 75 [.t 27,(gP 0),(gP 100000)]),ax 25 false (cR 29 28),dq 30 25 29,I 31 30,ax 31 false (hk 32 1 4 4),ax 31 false (bq 33 4 32),ax 31 false (da 34 56 33),ax 31 false (cR 35 34),dq 36 31 35]) (aZ 36 (aa [bA 2 false] .ret) .skip)))) (.region [aV 37 .add 7 1,I 7 37])))) (aa [I 38 0,cw 39 38,aV 40 .leq 39 400,I 2 40] .ret)))
def S2:C:=(aa [dR 4 eE,bA 5 false] (.seq (aa [I 8 0,cw 9 8,bQ 10 0] (gq 11 10 9 (.seq (.block 1 (aa [ck 12 5 8 10,bq 13 5 12,dR 7 kp,bW 5 7 13] (aa [aF 14 0 1 7,ay 15 1 14,I 16 1,br 17 .eql 15 16] (aZ 17 (aa [hk 18 1 4 7,bq 19 4 18,bW 4 4 19,bA 5 true] .ret) .skip)))) (.region [aV 20 .add 10 1,I 10 20])))) (aa [j6 21 eE [],bW 4 4 21,bA 5 false] .ret)))
def S6:C:=(aa [fw 4 5,bA 5 false] (aa [fp 10 4 30 [],I 6 10] (aa [fp 11 4 30 [],I 7 11] (.seq (aa [I 12 1,cw 13 12,bQ 14 0] (gq 15 14 13 (.seq (.block 1 (aa [ck 16 5 12 14,bq 17 5 16,dR 9 kp,bW 5 9 17] (aa [I 18 6,aF 19 0 1 9,ay 20 1 19,da 21 114 20,fp 22 4 30 [.t 21],im 23 4 30 18 22,I 6 23] (.region [I 24 7,hk 25 1 4 9,bq 26 4 25,fp 27 4 30 [.t 26],im 28 4 30 24 27,I 7 28])))) (.region [aV 29 .add 14 1,I 14 29])))) (aa [I 30 0,I 31 6,I 32 7,eg 33 202 [.t 30,.t 31,.t 32],dm 34 0 33,dm 35 1 33,I 4 34,I 5 35] .ret)))))
def ue:C:=(aa [dc 4 1,dc 5 2,fw 6 5,bA 7 false] (aa [I 12 0,bq 13 4 4,cj 14 201 12 13,bW 4 4 14] (aa [I 15 0,bq 16 4 5,cj 17 201 15 16,bW 4 5 17] (.seq (aa [aF 18 0 1 4,ay 19 1 18,aV 20 .eql 19 1,I 21 20,ax 21 true (aF 22 0 1 5),ax 21 true (ay 23 1 22),ax 21 true (aV 24 .eql 23 1),ev 25 21 24,I 26 25,ax 26 true (aF 27 1 1 4),ax 26 true (ay 28 1 27),ax 26 true (aF 29 1 1 5),ax 26 true (ay 30 1 29),ax 26 true (br 31 .lss 28 30),ev 32 26 31] (aZ 32 (aa [I 33 0,aF 34 1 1 5,ay 35 1 34,bq 36 4 4,eg 37 212 [.t 33,.t 35,.t 36],dm 38 0 37,dm 39 1 37,I 6 38,I 7 39] .ret) .skip)) (.seq (aa [aF 40 0 1 4,ay 41 1 40,aV 42 .eql 41 1,I 43 42,ax 43 true (aF 44 0 1 5),ax 43 true (ay 45 1 44),ax 43 true (aV 46 .eql 45 1),ev 47 43 46,I 48 47,ax 48 true (aF 49 1 1 4),ax 48 true (ay 50 1 49),ax 48 true (aF 51 1 1 5),ax 48 true (ay 52 1 51),ax 48 true (br 53 .eql 50 52),ev 54 48 53] (aZ 54 (aa [I 55 0,I 6 55,bA 7 true] .ret) .skip)) (.seq (aa [aF 56 0 1 4,ay 57 1 56,aV 58 .eql 57 1] (aZ 58 (aa [I 59 0,aF 60 1 1 4,ay 61 1 60,bq 62 4 5,eg 63 212 [.t 59,.t 61,.t 62],dm 64 0 63,dm 65 1 63,I 6 64,I 7 65] .ret) .skip)) (.seq (aa [aF 66 0 1 5,ay 67 1 66,aV 68 .eql 67 1] (aZ 68 (aa [I 69 0,aF 70 1 1 5,ay 71 1 70,bq 72 4 4,eg 73 212 [.t 69,.t 71,.t 72],dm 74 0 73,dm 75 1 73,I 6 74,I 7 75] .ret) .skip)) (.seq (aa [aF 76 0 1 4,ay 77 1 76,aF 78 0 1 5,ay 79 1 78,br 80 .neq 77 79,I 81 80,ax 81 false (aF 82 1 1 4),ax 81 false (ay 83 1 82),ax 81 false (aF 84 1 1 5),ax 81 false (ay 85 1 84),ax 81 false (br 86 .neq 83 85),dq 87 81 86,I 88 87,ax 88 false (aF 89 2 1 4),ax 88 false (ay 90 1 89),ax 88 false (aF 91 2 1 5),ax 88 false (ay 92 1 91),ax 88 false (br 93 .neq 90 92),dq 94 88 93] (aZ 94 (aa [fw 6 5,bA 7 false] .ret) .skip)) (.seq (aa [aF 95 3 1 4,ay 96 1 95,cw 97 96,bQ 98 0] (gq 99 98 97 (.seq (.block 1 (aa [I 100 98,ck 101 4 96 98,bq 102 4 101,dR 9 eE,I 8 100,bW 4 9 102] (.seq (.drawn true 119 [I 104 0,bq 105 4 9,aF 106 3 1 5,ay 107 1 106,I 108 8,ck 109 4 107 108,bq 110 4 109,eg 111 180 [.t 104,.t 105,.t 110],I 103 111,dm 112 0 103,dm 113 1 103,I 10 112,I 11 113]) (.seq (aa [I 114 11,cR 115 114] (aZ 115 (aa [fw 6 5,bA 7 false] .ret) .skip)) (.region [I 116 10,I 0 116]))))) (.region [aV 117 .add 98 1,I 98 117])))) (aa [I 118 0,I 6 118,bA 7 true] .ret))))))))))
def Gp:C:=(aa [dc 3 1,dR 4 eE] (.seq (aa [aF 7 0 1 3,ay 8 1 7,aV 9 .eql 8 1] (aZ 9 (aa [I 11 0,aF 12 1 1 3,ay 13 1 12,cj 14 146 11 13,I 10 14,dm 15 0 10,dm 16 1 10,dR 5 eE,bW 4 5 15,I 6 16] (aa [I 17 6] (aZ 17 (aa [bq 18 4 5,bW 4 4 18] .ret) .skip))) .skip)) (aa [bq 19 4 3,bW 4 4 19] .ret)))
def S5:C:=(aa [fw 6 5,bA 7 false] (.seq (aa [I 12 1,cw 13 12,bQ 14 0] (gq 15 14 13 (.seq (.block 1 (aa [I 16 14,ck 17 4 12 14,bq 18 4 17,dR 9 eE,I 8 16,bW 4 9 18] (.seq (.drawn true 34 [I 20 0,bq 21 4 9,I 22 2,I 23 8,ck 24 4 22 23,bq 25 4 24,eg 26 180 [.t 20,.t 21,.t 25],I 19 26,dm 27 0 19,dm 28 1 19,I 10 27,I 11 28]) (.seq (aa [I 29 11,cR 30 29] (aZ 30 (aa [fw 6 5,bA 7 false] .ret) .skip)) (.region [I 31 10,I 0 31]))))) (.region [aV 32 .add 14 1,I 14 32])))) (aa [I 33 0,I 6 33,bA 7 true] .ret)))
def C7:C:=(aa [dc 5 2,fw 6 5,bA 7 false] (aa [I 15 0,bq 16 4 5,cj 17 60 15 16,I 14 17,dm 18 0 14,dm 19 1 14,dR 8 eE,bW 4 8 18,I 9 19] (.seq (aa [I 20 9,cR 21 20,I 22 21,cd 22 false 23 1,ax 22 false (bq 24 4 8),ax 22 false (cj 25 233 23 24),dq 26 22 25,I 27 26,cd 27 false 28 0,ax 27 false (cw 29 28),ax 27 false (aV 30 .geq 29 400),dq 31 27 30] (aZ 31 (aa [fw 6 5,bA 7 false] .ret) .skip)) (aa [fp 32 5 113 [],I 10 32] (.seq (aa [I 33 0,cw 34 33,bQ 35 0] (gq 36 35 34 (.seq (.block 1 (aa [ck 37 5 33 35,bq 38 5 37,dR 12 kp,bW 5 12 38] (aa [hk 39 1 4 12,bq 40 4 39,I 41 1,bq 42 4 8,eg 43 234 [.t 40,.t 41,.t 42],dR 13 eE,bW 4 13 43] (.seq (aa [bq 44 4 13,da 45 128 44,cR 46 45] (aZ 46 (aa [fw 6 5,bA 7 false] .ret) .skip)) (.region [I 47 10,aF 48 0 1 12,ay 49 1 48,bq 50 4 13,j6 51 kp [(0,1,(.t 49)),(1,4,(.t 50))],fp 52 5 113 [.t 51],im 53 5 113 47 52,I 10 53]))))) (.region [aV 54 .add 35 1,I 35 54])))) (aa [I 55 10,I 56 1,bq 57 4 8,j6 58 kp [(0,1,(.t 56)),(1,4,(.t 57))],cj 59 235 55 58,I 6 59,bA 7 true] .ret))))))
def SU:C:=(aa [dc 3 1,bA 4 false] (.seq (aa [aF 7 3 1 3,ay 8 1 7,cw 9 8,bQ 10 0] (gq 11 10 9 (.seq (.block 1 (aa [ck 12 4 8 10,bq 13 4 12,dR 6 eE,bW 4 6 13] (aa [I 14 0,bq 15 4 6,cj 16 233 14 15] (aZ 16 (aa [bA 4 true] .ret) .skip)))) (.region [aV 17 .add 10 1,I 10 17])))) (aa [aF 18 0 1 3,ay 19 1 18,aV 20 .eql 19 1,I 21 20,ax 21 true (aF 22 1 1 3),ax 21 true (ay 23 1 22),cd 21 true 24 0,ax 21 true (br 25 .eql 23 24),ev 26 21 25,I 4 26] .ret)))
def Gm:C:=(aa [dc 3 0,dc 5 2,dR 6 eE] (.seq (aa [aF 7 0 1 3,ay 8 1 7,aV 9 .eql 8 1,I 10 9,ax 10 true (aF 11 1 1 3),ax 10 true (ay 12 1 11),cd 10 true 13 1,ax 10 true (br 14 .eql 12 13),ev 15 10 14] (aZ 15 (aa [bq 16 4 5,bW 4 6 16] .ret) .skip)) (.seq (aa [aF 17 0 1 3,ay 18 1 17,aV 19 .eql 18 4] (aZ 19 (.seq (.drawn true 36 [aF 20 3 1 3,ay 21 1 20,ku 22 4 21 0,bq 23 4 22,I 24 1,bq 25 4 5,eg 26 234 [.t 23,.t 24,.t 25],aF 27 3 1 3,ay 28 1 27,ku 29 4 28 1,bq 30 4 29,I 31 1,bq 32 4 5,eg 33 234 [.t 30,.t 31,.t 32],cj 34 189 26 33,bW 4 6 34]) .ret) .skip)) (aa [bq 35 4 3,bW 4 6 35] .ret))))
def S3:C:=(aa [dc 3 1,fw 4 5] (aa [I 7 0,cw 8 7,I 5 8] (.seq (.block 0 (.loop (.seq (.seq (.drawn true 38 [I 9 5,aV 10 .gtr 9 0,I 11 10,cd 11 true 12 0,cd 11 true 13 5,ax 11 true (aV 14 .sub 13 1),ax 11 true (ck 15 5 12 14),ax 11 true (aF 16 0 1 15),ax 11 true (ay 17 1 16),ax 11 true (aF 18 0 1 3),ax 11 true (ay 19 1 18),ax 11 true (br 20 .gtr 17 19),ev 21 11 20]) (aZ 21 .skip (.exit 0))) (.block 1 (.region [I 22 5,aV 23 .sub 22 1,I 5 23]))))) (aa [fp 24 5 113 [],I 25 0,I 26 5,b9 27 (.lsl 5 (.t 25) none (some (.t 26))),im 28 5 113 24 27,I 6 28] (aa [I 29 6,bq 30 5 3,fp 31 5 113 [.t 30],im 32 5 113 29 31,I 6 32] (aa [I 33 6,I 34 0,I 35 5,b9 36 (.lsl 5 (.t 34) (some (.t 35)) none),im 37 5 113 33 36,I 4 37] .ret))))))
def anY:b6 aS SN [.tmp 2] 1 Tryz.f56=true:=bi
def EM:b6 aS AA [.tmp 4] 2 Tryz.f58=true:=bi
def an8:b6 aS S0 [.cell 4 true 4,.tmp 5] 2 Tryz.f60=true:=bi
def anZ:b6 aS SO [.tmp 6] 3 Tryz.f75=true:=bi
def YM:b6 aS KW [.tmp 2] 1 Tryz.f76=true:=bi
def anU:b6 aS SJ [.tmp 2] 1 Tryz.f119=true:=bi
def an0:b6 aS SP [.tmp 4] 2 Tryz.f123=true:=bi
def nV:b6 aS mS [.tmp 2] 1 Tryz.f124=true:=bi
def an2:b6 aS SR [.tmp 4] 2 Tryz.f126=true:=bi
def Ow:b6 aS Gn [.cell 4 true 4] 2 Tryz.f127=true:=bi
def an1:b6 aS SQ [.tmp 2] 1 Tryz.f128=true:=bi
def aoc:b6 aS S4 [.tmp 2] 1 Tryz.f145=true:=bi
def aoa:b6 aS S2 [.cell 4 true 4,.tmp 5] 2 Tryz.f146=true:=bi
def aoe:b6 aS S6 [.tmp 4,.tmp 5] 2 Tryz.f152=true:=bi
def wq:b6 aS ue [.tmp 6,.tmp 7] 3 Tryz.f180=true:=bi
def Ox:b6 aS Gp [.cell 4 true 4] 2 Tryz.f201=true:=bi
def aod:b6 aS S5 [.tmp 6,.tmp 7] 3 Tryz.f202=true:=bi
def Iz:b6 aS C7 [.tmp 6,.tmp 7] 3 Tryz.f212=true:=bi
def an3:b6 aS SU [.tmp 4] 2 Tryz.f233=true:=bi
def Ov:b6 aS Gm [.cell 6 true 4] 3 Tryz.f234=true:=bi
def aob:b6 aS S3 [.tmp 4] 2 Tryz.f235=true:=bi
mutual
def mh:Tm->Int->Int
 | .mk _ _ _ args,m=>cntLS args 1 m
def cntLS:List Tm->Int->Int->Int
 |[],n,_=>n
 |x::xs,n,m=>if m<n then n else cntLS xs (n+mh x (m-n)) m
end
mutual
def K3:∀(t:Tm) (m:Int),0<=m->1<=mh t m/\mh t m<=m+1
 | .mk _ _ _ args,m,h=>by simp only[mh];exact Tv args 1 m h Ω Ω
def Tv:∀(l:List Tm) (n m:Int),0<=m->1<=n->n<=m+1->1<=cntLS l n m/\cntLS l n m<=m+1
 |[],n,m,_,J,U=>by simp only[cntLS];exact⟨J,U⟩
 |x::xs,n,m,a,J,U=>by
  simp only[cntLS];split
  ·exact⟨J,U⟩
  ·have:=K3 x (m-n) Ω;exact Tv xs _ m a Ω Ω
end
def Gt:∀(t:T) (m:Int),0<=m->(mh t.tm m<=m↔(t.size:Int)<=m)/\((t.size:Int)<=m->mh t.tm m=t.size)
 | .pair a b,m,h=>by
  have i:=T.size_pos a;have j:=T.size_pos b;simp only[T.tm,mh,cntLS,T.size];by_cases J:m<1
  ·rw[if_pos J];exact⟨Ω,fun h=>Ω⟩
  ·rw[if_neg J];obtain⟨c,a2⟩:=Gt a (m-1) Ω;have a3:=K3 a.tm (m-1) Ω;by_cases U:(a.size:Int)<=m-1
   ·have e:=a2 U;rw[e];by_cases f:m<1+(a.size:Int)
    ·omega
    ·rw[if_neg f];obtain⟨g,d⟩:=Gt b (m-(1+a.size)) Ω;refine⟨Ω,fun h=>?_⟩;rw[d Ω];omega
   ·have:¬mh a.tm (m-1)<=m-1:=fun h=>U (c.1 h);rw[if_pos Ω];exact⟨Ω,fun h=>Ω⟩
 | .nil,m,h=>by simp[T.tm,mh,cntLS,T.size]
 | .var _,m,h=>by simp[T.tm,mh,cntLS,T.size]
 | .sym _,m,h=>by simp[T.tm,mh,cntLS,T.size]
 | .num _,m,h=>by simp[T.tm,mh,cntLS,T.size]
def aea(t:Tm)(m:Int):mh t m=cntLS t.args 1 m:=by cases t;rfl
def abO(t:Tm):∀m:Int,0<=m->m<=1000000->bX au 123 [enc t,aj m] (aj (mh t m)):=by
 suffices H:∀(k:Nat) (t:Tm),t.sz<=k->∀m:Int,0<=m->m<=1000000->bX au 123 [enc t,aj m] (aj (mh t m))from H _ t (dL _)
 intro k;induction k with
 |zero=>intro t g;cases t;simp[Tm.sz]at g
 |succ k e=>
  intro t g m q J;refine bL a7 Tryz.func123 an0 fun f=>?_;unfold SP;have p:t.args.length<=68719476736:=by rw[yL]at f;simp[eP,eU,eQ,lim]at f;omega
  simp;refine eY [1,9,10] (fun i (n:Int)=>[(5,aj n),(11,aj i)]) t.args.length (fun i n=>(1<=n/\n<=m+1)/\cntLS (t.args.drop i) n m=mh t m) 1 cc ⟨Ω,by simp[aea]⟩ (fun n a _=>?_) (fun i n hi a _=>?_)
  ·simp;(repeat' first|refine aq ?_|simp);simp[b0,ba,bd,a1];have:=a.2;simp[cntLS]at this;exact this
  ·obtain⟨⟨o,r⟩,a⟩:=a;obtain⟨x,j,d⟩:=eX hi;have l:t.args.drop i=x::t.args.drop (i+1):=by rw[lA hi,d]
   have c:x.sz<=k:=by have:=PW (fx j);omega
   rw[l]at a;simp only[cntLS]at a;simp[hi,d];by_cases b:m<n
   ·rw[if_pos b]at a;(repeat' first|refine aq ?_|simp[b]);simp[b0,ba,bd,a1];exact a
   ·rw[if_neg b]at a;have aw:=K3 x (m-n) Ω;((repeat' first|refine aq ?_|refine aP (e x c (m-n) Ω Ω) ?_|refine aQ (e x c (m-n) Ω Ω) ?_|simp[b]|((first|apply cu|apply cy|apply cx)<;>intro h<;>try simp at h))<;>(try exact c4));exact bV.rng (n+mh x (m-n)) hi ⟨Ω,a⟩ cc
def CE(t:T):bX au 128 [t.e] (.bool (decide (t.size<=5000))):=by
 have aw:=(Gt t 5000 Ω).1;have key:=abO t.tm 5000 Ω Ω;rw[um]at key;refine bL a7 Tryz.func128 an1 fun a=>?_;unfold SQ;simp;(repeat' first|refine aq ?_|refine aP key ?_|refine aQ key ?_|simp);simp[b0,ba,bd,a1];have:(mh t.tm 5000<=5000)=(t.size<=5000):=by rw[aw];simp;omega
 simp[this]
def akE(l:List Bd)(v:Int)(k:Nat)(st:bo):Prop:=∃i:Nat,i<=l.length/\k=l.length-i/\dD l v=dD (l.drop i) v/\st=⟨[(1,aj v),(4,.ptr (.loc 0) 0),(8,bK (l.map Bd.e)),(9,aj l.length),(10,aj i)],[(.loc 0,[aj 0,aj 0,.str [],.slice 4 .nil []])],[],1,[]⟩
def wL(l:List Bd)(v:Int)(j:l.length<=1000000):bX au 146 [bK (l.map Bd.e),aj v] (.tuple [((dD l v).getD .nil).e,.bool (dD l v).isSome]):=by
 refine bL a7 Tryz.func146 aoa fun n=>?_;unfold S2;simp;refine qi (akE l v) l.length _ cc ⟨0,Ω,rfl,Ψ,rfl⟩ ?_;rintro k st ⟨i,hi,m,be,rfl⟩ f g;clear f g;by_cases a:i<l.length
 ·obtain⟨b,c⟩:∃b,l[i]? =some b:=⟨_,cl a⟩;have e:l.drop i=b::l.drop (i+1):=by rw[lA a];rw[cl a]at c;simp at c;rw[c]
  have d:∀h,l[i]'h=b:=fun h=>by rw[cl h]at c;simpa using c
  simp[d,a];(with_reducible repeat' first|((first|apply cu|apply cy|apply cx)<;>intro h<;>try simp at h)|refine aq ?_|simp[d])
  ·have:dD l v=some b.t:=by rw[be,e];simp[dD,h]
   simp[b0,ba,bd,a1];simp[this]
  ·refine bV.next (l.length-(i+1)) Ω ⟨i+1,Ω,rfl,?_,rfl⟩ cc;rw[be,e];simp[dD,h]
 ·have:dD l v=none:=by rw[be,List.drop_of_length_le Ω];simp[dD]
  simp[a];(with_reducible repeat' first|((first|apply cu|apply cy|apply cx)<;>intro h<;>try simp at h)|refine aq ?_|simp);simp[b0,ba,bd,a1];simp[this]
def aru(l:List Bd)(e:l.length<=1000000)(t:T):bX au 127 [bK (l.map Bd.e),t.e] (t.sub (dD l)).e:=by
 induction t with
 |pair a b d c=>
  refine bL a7 Tryz.func127 Ow fun f=>?_;unfold Gn;simp;(repeat' first|refine aq ?_|refine aP d ?_|refine aQ d ?_|refine aP c ?_|refine aQ c ?_|refine aP (JJ _ _) ?_|refine aQ (JJ _ _) ?_|simp);all_goals simp[b0,ba,bd,a1]
  all_goals simp[T.sub]
 |var n=>
  refine bL a7 Tryz.func127 Ow fun f=>?_;unfold Gn;simp;((repeat' first|refine aq ?_|refine aP (wL l n e) ?_|refine aQ (wL l n e) ?_|simp|((first|apply cu|apply cy|apply cx)<;>intro h<;>try simp at h))<;>(try exact c4));all_goals simp[b0,ba,bd,a1]
  all_goals cases g:dD l n<;>simp_all[T.sub]
 |_=>
  refine bL a7 Tryz.func127 Ow fun f=>?_;unfold Gn;simp;(repeat' first|refine aq ?_|simp);all_goals simp[b0,ba,bd,a1]
  all_goals simp[T.sub]
def abR(l:List Bd)(a:l.length<=1000000)(t:T):bX au 127 [bK (l.map Bd.e),t.e] (t.ap (cO l)).e:=by have:=aru l a t;rw[aa1]at this;exact this
def Qa(l:List Bd)(a:l.length<=1000000)(t:T):bX au 60 [bK (l.map Bd.e),t.e] (.tuple [(t.ap (cO l)).e,.bool (decide ((t.ap (cO l)).size<=5000))]):=by refine bL a7 Tryz.func60 an8 fun b=>?_;unfold S0;simp;(repeat' first|refine aq ?_|refine aP (abR l a t) ?_|refine aQ (abR l a t) ?_|refine aP (CE _) ?_|refine aQ (CE _) ?_|simp);simp[b0,ba,bd,a1]
def xR(v:Int)(l:List T):Bool:=l.any (T.occ v)
def Yl(v:Int)(t:T):t.occ v=(xR v t.args||(t.kind==1&&t.int==v)):=by cases t<;>simp[T.occ,xR]
def yj(v:Int)(t:T):bX au 233 [aj v,t.e] (.bool (t.occ v)):=by
 suffices H:∀(k:Nat) (t:T),t.size<=k->bX au 233 [aj v,t.e] (.bool (t.occ v))from H _ t (dL _)
 intro k;induction k with
 |zero=>intro t f;have:=T.size_pos t;omega
 |succ k d=>
  intro t f;have l:t.args.length<=2:=by cases t<;>simp
  refine bL a7 Tryz.func233 an3 fun m=>?_;unfold SU;simp;refine eY [0,3,8,9] (fun i (_:Unit)=>[(10,aj i)]) t.args.length (fun i _=>xR v (t.args.drop i)=xR v t.args) () cc Ψ (fun _ a _=>?_) (fun i _ hi a _=>?_)
  ·have c:xR v t.args=false:=by rw[<-a];simp[xR]
   rw[Yl,c];simp;((repeat' first|refine aq ?_|simp|((first|apply cu|apply cy|apply cx)<;>intro h<;>try simp at h))<;>(try exact c4));all_goals simp[b0,ba,bd,a1]
   all_goals simp_all
  ·obtain⟨x,g,e⟩:=eX hi;have j:t.args.drop i=x::t.args.drop (i+1):=by rw[lA hi,e]
   have b:x.size<=k:=by have hm:=fx g;have:=T.size_pos x;cases t<;>simp at hm;rcases hm with rfl|rfl<;>simp[T.size]at f<;>omega
   simp only[j,xR,List.any_cons]at a;simp[hi,e];cases ar:x.occ v with
   |true=>
    rw[ar]at a;simp at a;have c:t.occ v=true:=by rw[Yl];simp[xR];left;simpa using a
    (repeat' first|refine aq ?_|refine aP (d x b) ?_|refine aQ (d x b) ?_|simp[ar]);simp[b0,ba,bd,a1];simp[c]
   |false=>rw[ar]at a;have n:=d x b;exact iW
def JK(v:Int)(x t:T):bX au 234 [t.e,aj v,x.e] (t.ap (Go.Pv.one v x)).e:=by
 induction t with
 |pair a b d c=>
  refine bL a7 Tryz.func234 Ov fun e=>?_;unfold Gm;simp;(repeat' first|refine aq ?_|refine aP d ?_|refine aQ d ?_|refine aP c ?_|refine aQ c ?_|refine aP (JJ _ _) ?_|refine aQ (JJ _ _) ?_|simp);all_goals simp[b0,ba,bd,a1]
  all_goals simp[T.ap]
 |var n=>
  refine bL a7 Tryz.func234 Ov fun e=>?_;unfold Gm;simp;((repeat' first|refine aq ?_|simp|((first|apply cu|apply cy|apply cx)<;>intro h<;>try simp at h))<;>(try exact c4));all_goals simp[b0,ba,bd,a1]
  all_goals simp_all[T.ap,Go.Pv.one]
 |_=>
  refine bL a7 Tryz.func234 Ov fun e=>?_;unfold Gm;simp;(repeat' first|refine aq ?_|simp);all_goals simp[b0,ba,bd,a1]
  all_goals simp[T.ap]
def JM(s:List Bd)(a:s.length<=1000000)(t:T):bX au 201 [bK (s.map Bd.e),t.e] (ie s t).e:=by
 cases t with
 |var n=>
  cases b:dD s n with
  |none=>refine bL a7 Tryz.func201 Ox fun c=>?_;unfold Gp;simp;(repeat' first|refine aq ?_|refine aP (wL s n a) ?_|refine aQ (wL s n a) ?_|simp[b]);simp[b0,ba,bd,a1];simp[ie,cO,b]
  |some x=>refine bL a7 Tryz.func201 Ox fun c=>?_;unfold Gp;simp;(repeat' first|refine aq ?_|refine aP (wL s n a) ?_|refine aQ (wL s n a) ?_|simp[b]);simp[b0,ba,bd,a1];simp[ie,cO,b]
 |_=>refine bL a7 Tryz.func201 Ox fun c=>?_;unfold Gp;simp;(repeat' first|refine aq ?_|simp);simp[b0,ba,bd,a1];simp[ie]
def Wr(b:Bd):∀(s:List Bd) (k:Nat),(∀i c,i<k->s[i]? =some c->c.v<=b.v)->(∀c,s[k]? =some c->b.v<c.v)->k<=s.length->pT b s=s.take k++b::s.drop k
 |[],k,_,_,a=>by simp at a;subst a;rfl
 |c::s,0,_,U,_=>by have:=U c rfl;simp[pT,this]
 |c::s,k+1,J,U,a=>by have:=J 0 c Ω rfl;simp only[pT,if_neg (by omega:¬b.v<c.v),List.take_succ_cons,List.drop_succ_cons,b3];rw[Wr b s k (fun i d hi e=>J (i+1) d Ω (by simpa using e)) (fun d e=>U d (by simpa using e)) (by simpa using a)]
def art(s:List Bd)(b:Bd)(w:s.length<=1000000)(t:jw s):bX au 235 [bK (s.map Bd.e),b.e] (bK ((pT b s).map Bd.e)):=by
 refine bL a7 Tryz.func235 aob fun x=>?_;unfold S3;simp;refine w2 [0,3] (fun(k:Nat)=>[(5,aj k)]) (fun k=>k) (fun k=>k<=s.length/\∀c,s[k]? =some c->b.v<c.v) s.length cc ⟨Ω,fun c h=>by simp at h⟩ (fun k n _=>?_);obtain⟨v,n⟩:=n;have o:(∀c,0<k->s[k-1]? =some c->c.v<=b.v)->pT b s=s.take k++b::s.drop k:=fun h=>Wr b s k (fun i c hi aw=>by
  obtain⟨d,a⟩:∃d,s[k-1]? =some d:=⟨_,cl Ω⟩;have J:=h d Ω a;rcases Nat.lt_or_ge i (k-1)with U|U
  ·have p:=(fM.1 aw);have q:=(fM.1 a);have:=qS.1 t i (k-1) p.1 q.1 U;rw[p.2,q.2]at this;omega
  ·have:i=k-1:=Ω
   subst this;rw[a]at aw;cases aw;exact J) n v
 rcases Nat.eq_zero_or_pos k with rfl|j
 ·have e:=o fun c h=>Ω
  rw[e];simp;(repeat' first|refine aq ?_|simp);simp[b0,ba,bd,a1];try simp[iE]
 ·obtain⟨d,a⟩:∃d,s[k-1]? =some d:=⟨_,cl Ω⟩;have l:((k:Int)-1).toNat=k-1:=Ω
  have m:∀h,(s[k-1]'h)=d:=fun h=>by rw[cl h]at a;exact e7 a
  have g:(0:Int)<k:=Ω
  by_cases f:b.v<d.v
  ·simp[j,g,l,m,f,a];(repeat' first|refine aq ?_|simp[j,g,l,m,f,a]);refine bV.whl (k-1) Ω ⟨Ω,fun c aw=>by rw[a]at aw;cases aw;exact f⟩ ?_;have r:((k-1:Nat):Int)=(k:Int)-1:=Ω
   simp[r];exact cc
  ·have e:=o fun c _ aw=>by rw[a]at aw;cases aw;omega
   rw[e];simp[j,g,l,m,f,a];(repeat' first|refine aq ?_|simp[j,g,l,m,f,a]);simp[b0,ba,bd,a1];have u:mJ s.length (s.map Bd.e)=s.map Bd.e:=iE Ψ;rw[u,<-List.map_take,<-List.map_drop,<-hc,<-List.map_append];exact aaX _
def PJ(v:Int)(x:T)(b:Bd):Bd:=⟨b.v,b.t.ap (Go.Pv.one v x)⟩
def akP(s:List Bd)(v:Int)(x:T)(i:Nat)(out:List Bd):Prop:=out=(s.take i).map (PJ v x)/\∀b∈s.take i,(b.t.ap (Go.Pv.one v x)).size<=5000
def arx(s:List Bd)(v:Int)(t:T)(y:s.length<=1000000)(F:jw s):bX au 212 [bK (s.map Bd.e),aj v,t.e] (hb (oT s v t)):=by
 obtain⟨x,p⟩:∃x,x=t.ap (cO s):=⟨_,rfl⟩;have a:=Qa s y t;rw[<-p]at a;obtain⟨o,ar⟩:∃o,o=oT s v t:=⟨_,rfl⟩;have l:x.size<=5000->x.occ v=false->s.length<400->(∀b∈s,(b.t.ap (Go.Pv.one v x)).size<=5000)->o=some (nz s v x):=fun H G E B=>by rw[ar,oT,<-p,if_pos ⟨H,G,E,B⟩]
 have f:¬(x.size<=5000/\x.occ v=false/\s.length<400/\∀b∈s,(b.t.ap (Go.Pv.one v x)).size<=5000)->o=none:=fun q=>by rw[ar,oT,<-p,if_neg q]
 rw[<-ar];clear ar;by_cases J:x.size<=5000;rotate_left
 ·rw[f fun h=>J h.1];refine bL a7 Tryz.func212 Iz fun r=>?_;unfold C7;simp;(repeat' first|refine aq ?_|refine aP a ?_|refine aQ a ?_|refine aP (yj _ _) ?_|refine aQ (yj _ _) ?_|simp[J]);simp[b0,ba,bd,a1];simp[hb]
 cases U:x.occ v with
 |true=>rw[f fun h=>by rw[U]at h;cases h.2.1];refine bL a7 Tryz.func212 Iz fun r=>?_;unfold C7;simp;(repeat' first|refine aq ?_|refine aP a ?_|refine aQ a ?_|refine aP (yj _ _) ?_|refine aQ (yj _ _) ?_|simp[J,U]);simp[b0,ba,bd,a1];simp[hb]
 |false=>
 by_cases z:s.length<400;rotate_left
 ·rw[f fun h=>z h.2.2.1];have j:(400:Int)<=s.length:=Ω
  refine bL a7 Tryz.func212 Iz fun r=>?_;unfold C7;simp;(repeat' first|refine aq ?_|refine aP a ?_|refine aQ a ?_|refine aP (yj _ _) ?_|refine aQ (yj _ _) ?_|simp[J,U,j]);simp[b0,ba,bd,a1];simp[hb]
 have j:¬(400:Int)<=s.length:=Ω
 refine bL a7 Tryz.func212 Iz fun r=>?_;unfold C7;simp;(repeat' first|refine aq ?_|refine aP a ?_|refine aQ a ?_|refine aP (yj _ _) ?_|refine aQ (yj _ _) ?_|simp[J,U,j]);refine fX (α:=List Bd) (fun i out=>⟨[(1,aj v),(8,.ptr (.loc 1) 0),(33,bK (s.map Bd.e)),(34,aj s.length),(10,.slice 5 (.own (.loc 2)) (out.map Bd.e)),(35,aj i)],[(.loc 1,[aj x.kind,aj x.int,.str x.name,eb (x.args.map T.e)])],[(.loc 2,⟨out.length,113,5,none⟩)],3,[]⟩) s.length (akP s v x) [] cc ⟨Ψ,Ψ⟩ (fun out n _=>?_) (fun i out hi n _=>?_)
 ·obtain⟨d,e⟩:=n;rw[iE (dL _)]at d e;have m:jw out:=by rw[d,jw,List.pairwise_map];exact F
  have u:out.length<=1000000:=by rw[d];simpa using y
  rw[l J U z e];have key:=art out ⟨v,x⟩ u m;simp;(repeat' first|refine aq ?_|refine aP key ?_|refine aQ key ?_|simp);simp[b0,ba,bd,a1];simp[hb,nz,d];rfl
 ·obtain⟨d,e⟩:=n;obtain⟨b,A,k⟩:=eX hi;have w:s.take (i+1)=s.take i++[b]:=by rw[List.take_succ,A];rfl
  have u:out.length<=1000000:=by rw[d];simp;omega
  simp[hi,k];by_cases g:(b.t.ap (Go.Pv.one v x)).size<=5000
  ·(repeat' first|refine aq ?_|refine aP (JK _ _ _) ?_|refine aQ (JK _ _ _) ?_|refine aP (CE _) ?_|refine aQ (CE _) ?_|simp[k,hi,g]);all_goals try refine⟨by unfold lim;omega,?_⟩
   (repeat' first|refine aq ?_|simp);refine bV.rng (out++[PJ v x b]) hi ⟨by rw[w,d,List.map_append];rfl,fun c aw=>?_⟩ ?_
   ·rw[w]at aw;rcases j2.1 aw with aw|aw
    ·exact e c aw
    ·simp at aw;subst aw;exact g
   ·simp[PJ];exact⟨by simp[fresh,aH,az,cb,aK,ad,kC],ep (by simp[fresh,aH,az,cb,aK,ad,kC]),er (by simp[fresh,aH,az,dU,aK,ad,kC]),Ψ⟩
  ·rw[f fun h=>g (h.2.2.2 b (fx A))];(repeat' first|refine aq ?_|refine aP (JK _ _ _) ?_|refine aQ (JK _ _ _) ?_|refine aP (CE _) ?_|refine aQ (CE _) ?_|simp[k,hi,g]);simp[b0,ba,bd,a1];simp[hb]
def aqO{s:List Bd}(e:gz s)(f:ir s){n:Nat}{a b:T}{o:bc (List Bd)}(h:lx n s a b=some o):jz s [(a,b)] o:=by obtain⟨n',o',J,U⟩:=JG e f a b;have d:=FA (Nat.le_max_left n n') h;have c:=FA (Nat.le_max_right n n') J;rw[d]at c;cases c;exact U
def CB(n:Nat):List (T×T)->List Bd->bc (bc (List Bd))
 |[],s=>some (some s)
 |e::r,s=>match lx n s e.1 e.2 with
  |none=>none
  |some none=>some none
  |some (some s1)=>CB n r s1
def zv(x y:T):Bool:=x.kind==y.kind&&x.int==y.int&&x.name==y.name
def aqM(n:Nat)(s:List Bd){x y:T}(f:x.kind≠1)(g:y.kind≠1):kG (lx n) s x y=if zv x y then CB n (x.args.zip y.args) s else some none:=by
 cases x<;>cases y<;>simp[kG,zv,CB]at f g⊢
 ·rename_i a b;split<;>simp_all
 ·rename_i a b;split<;>simp_all
 ·rename_i d a2 c e;cases lx n s d c with
  |none=>rfl
  |some o=>cases o with
   |none=>rfl
   |some s1=>
    simp only
    cases lx n s1 a2 e with
    |none=>rfl
    |some o=>cases o<;>rfl
def alg{x y:T}(h:zv x y=true):x.args.length=y.args.length:=by cases x<;>cases y<;>simp[zv]at h⊢
@[simp]def aty(o:bc (List Bd)):AO 0 (hb o)=some (True,bK ((o.getD []).map Bd.e)):=rfl
@[simp]def atz(o:bc (List Bd)):AO 1 (hb o)=some (True,.bool o.isSome):=rfl
def arB(n:Nat):∀(s:List Bd) (a b:T) (o:bc (List Bd)),gz s->ir s->lx n s a b=some o->bX au 180 [bK (s.map Bd.e),a.e,b.e] (hb o):=by
 induction n with
 |zero=>intro s a b o _ _ h;simp[lx]at h
 |succ n W=>
  intro s a b o R S he;have K:s.length<=1000000:=by have:=S.1;omega
  have c:=JM s K a;have d:=JM s K b;simp only[lx]at he;generalize ie s a=x at he c;generalize ie s b=y at he d;have E:=fun v t=>arx s v t K R.asc;have f:∀z:T,¬z.kind=1->(z.kind==1)=false:=fun z h=>by simp[h]
  by_cases l:x.kind=1
  ·obtain⟨i,rfl⟩:∃i,x= .var i:=by cases x<;>simp at l;exact⟨_,rfl⟩
   by_cases g:y.kind=1
   ·obtain⟨j,rfl⟩:∃j,y= .var j:=by cases y<;>simp at g;exact⟨_,rfl⟩
    simp only[kG,dS]at he;subst he;rcases Int.lt_trichotomy i j with h|h|h
    ·rw[if_pos h];have key:=E j (.var i);refine bL a7 Tryz.func180 wq fun m=>?_;unfold ue;simp;(repeat' first|refine aq ?_|refine aP c ?_|refine aQ c ?_|refine aP d ?_|refine aQ d ?_|refine aP key ?_|refine aQ key ?_|simp[h]);simp[b0,ba,bd,a1];simp[hb]
    ·subst h;rw[if_neg Ω,if_pos rfl];have J:¬i<i:=Ω
     refine bL a7 Tryz.func180 wq fun m=>?_;unfold ue;simp;(repeat' first|refine aq ?_|refine aP c ?_|refine aQ c ?_|refine aP d ?_|refine aQ d ?_|simp[J]);simp[b0,ba,bd,a1];simp[hb]
    ·rw[if_neg Ω,if_neg Ω];have key:=E i (.var j);have J:¬i<j:=Ω
     have U:¬i=j:=Ω
     refine bL a7 Tryz.func180 wq fun m=>?_;unfold ue;simp;((repeat' first|refine aq ?_|refine aP c ?_|refine aQ c ?_|refine aP d ?_|refine aQ d ?_|refine aP key ?_|refine aQ key ?_|simp[J,U]|((first|apply cu|apply cy|apply cx)<;>intro h<;>try simp at h))<;>(try exact c4));simp[b0,ba,bd,a1];simp[hb]
   ·have G:oT s i y=o:=by cases y<;>first|(simp at g;done)|exact e7 he
    subst G;have key:=E i y;refine bL a7 Tryz.func180 wq fun m=>?_;unfold ue;simp;(repeat' first|refine aq ?_|refine aP c ?_|refine aQ c ?_|refine aP d ?_|refine aQ d ?_|refine aP key ?_|refine aQ key ?_|simp[f y g]);simp[b0,ba,bd,a1];simp[hb]
  ·by_cases g:y.kind=1
   ·obtain⟨j,rfl⟩:∃j,y= .var j:=by cases y<;>simp at g;exact⟨_,rfl⟩
    have G:oT s j x=o:=by cases x<;>first|(simp at l;done)|exact e7 he
    subst G;have key:=E j x;refine bL a7 Tryz.func180 wq fun m=>?_;unfold ue;simp;(repeat' first|refine aq ?_|refine aP c ?_|refine aQ c ?_|refine aP d ?_|refine aQ d ?_|refine aP key ?_|refine aQ key ?_|simp[f x l]);simp[b0,ba,bd,a1];simp[hb]
   ·rw[aqM n s l g]at he;cases hle:zv x y with
    |false=>
     rw[hle]at he;simp at he;subst he;have N:(x.kind !=y.kind)=true\/((x.kind !=y.kind)=false/\((x.int !=y.int)=true\/((x.int !=y.int)=false/\(x.name !=y.name)=true))):=by simp only[zv]at hle;simp only[bne];cases X:(x.kind==y.kind)<;>cases Z:(x.int==y.int)<;>cases V:(x.name==y.name)<;>simp_all
     rcases N with p|⟨p,q|⟨q,B⟩⟩
     ·refine bL a7 Tryz.func180 wq fun m=>?_;unfold ue;simp;(repeat' first|refine aq ?_|refine aP c ?_|refine aQ c ?_|refine aP d ?_|refine aQ d ?_|simp[f x l,f y g,p]);simp[b0,ba,bd,a1];simp[hb]
     ·refine bL a7 Tryz.func180 wq fun m=>?_;unfold ue;simp;(repeat' first|refine aq ?_|refine aP c ?_|refine aQ c ?_|refine aP d ?_|refine aQ d ?_|simp[f x l,f y g,p,q]);simp[b0,ba,bd,a1];simp[hb]
     ·refine bL a7 Tryz.func180 wq fun m=>?_;unfold ue;simp;have F:¬x.name=y.name:=by simpa using B
      have L:decide (x.name=y.name)=false:=by simp[F]
      ((repeat' first|refine aq ?_|refine aP c ?_|refine aQ c ?_|refine aP d ?_|refine aQ d ?_|simp[f x l,f y g,p,q,B,F,L]|((first|apply cu|apply cy|apply cx)<;>intro h<;>try simp at h))<;>(try exact c4));simp[b0,ba,bd,a1];simp[hb]
    |true=>
     rw[hle,if_pos rfl]at he;have N:(x.kind !=y.kind)=false/\(x.int !=y.int)=false/\(x.name !=y.name)=false:=by simp only[zv]at hle;simp only[bne];cases X:(x.kind==y.kind)<;>cases Z:(x.int==y.int)<;>cases V:(x.name==y.name)<;>simp_all
     obtain⟨p,q,B⟩:=N;have hlen:=alg hle;have F:x.name=y.name:=by simpa using B
     have sO:x.args.length<=2:=by cases x<;>simp
     refine bL a7 Tryz.func180 wq fun m=>?_;unfold ue;simp;(repeat' first|refine aq ?_|refine aP c ?_|refine aQ c ?_|refine aP d ?_|refine aQ d ?_|simp[f x l,f y g,p,q,F]);refine fX (α:=List Bd) (fun i k=>⟨[(5,.ptr (.loc 1) 0),(96,eb (x.args.map T.e)),(97,aj x.args.length),(0,bK (k.map Bd.e)),(98,aj i)],[(.loc 1,[aj y.kind,aj y.int,.str y.name,eb (y.args.map T.e)])],[],2,[]⟩) x.args.length (fun i k=>(gz k/\ir k)/\CB n ((x.args.zip y.args).drop i) k=some o) s cc ⟨⟨R,S⟩,by simpa using he⟩ (fun k e _=>?_) (fun i k hi e _=>?_)
     ·obtain⟨_,e⟩:=e;rw[List.drop_eq_nil_of_le (by simp[hlen])]at e;simp[CB]at e;subst e;simp;(repeat' first|refine aq ?_|simp);simp[b0,ba,bd,a1];simp[hb]
     ·obtain⟨⟨g1,g2⟩,e⟩:=e;obtain⟨A,Q⟩:∃a,x.args[i]? =some a:=⟨_,cl hi⟩;obtain⟨w,P⟩:∃b,y.args[i]? =some b:=⟨_,cl Ω⟩;have r:∀h,(x.args[i]'h)=A:=fun h=>by rw[cl hi]at Q;exact e7 Q
      have u:∀h,(y.args[i]'h)=w:=fun h=>by rw[cl h]at P;exact e7 P
      have H:i<y.args.length:=Ω
      have Y:(x.args.zip y.args).drop i=(A,w)::(x.args.zip y.args).drop (i+1):=by rw[lA d6];simp[r,u]
      rw[Y]at e;simp only[CB]at e;simp[hi,r,u,H];cases hu:lx n k A w with
      |none=>rw[hu]at e;cases e
      |some O=>
       have key:=W k A w O g1 g2 hu;rw[hu]at e;cases O with
       |none=>simp at e;subst e;(repeat' first|refine aq ?_|refine aP key ?_|refine aQ key ?_|simp[r,u,hi,H]);simp[b0,ba,bd,a1];simp[hb]
       |some s1=>have M:=aqO g1 g2 hu;(repeat' first|refine aq ?_|refine aP key ?_|refine aQ key ?_|simp[r,u,hi,H]);refine bV.rng s1 hi ⟨M.1,e⟩ ?_;exact cc
def arA(s:List Bd)(a b:T)(c:gz s)(d:ir s):bX au 180 [bK (s.map Bd.e),a.e,b.e] (hb (mgu s [(a,b)])):=by obtain⟨n,o,J,U⟩:=JG c d a b;rw[tu U];exact arB n s a b o c d J
def akO(s:List Bd)(E:List (T×T))(i:Nat)(a:List Bd):Prop:=(gz a/\ir a)/\mgu a (E.drop i)=mgu s E
def arw(s:List Bd)(l r:List T)(n:l.length=r.length)(o:gz s)(q:ir s)(t:l.length<=1000000):bX au 202 [bK (s.map Bd.e),eb (l.map T.e),eb (r.map T.e)] (hb (mgu s (l.zip r))):=by
 refine bL a7 Tryz.func202 aod fun u=>?_;unfold S5;simp;refine fX (α:=List Bd) (fun i d=>⟨[(2,eb (r.map T.e)),(12,eb (l.map T.e)),(13,aj l.length),(0,bK (d.map Bd.e)),(14,aj i)],[],[],0,[]⟩) l.length (akO s (l.zip r)) s cc ⟨⟨o,q⟩,Ψ⟩ (fun d c _=>?_) (fun i d hi c _=>?_)
 ·obtain⟨⟨g1,g2⟩,c⟩:=c;rw[List.drop_eq_nil_of_le (by simp[n]),NW g1 g2]at c;rw[<-c];simp;(repeat' first|refine aq ?_|simp);simp[b0,ba,bd,a1];simp[hb]
 ·obtain⟨⟨g1,g2⟩,c⟩:=c;obtain⟨a,k⟩:∃a,l[i]? =some a:=⟨_,cl hi⟩;obtain⟨b,j⟩:∃b,r[i]? =some b:=⟨_,cl Ω⟩;have e:∀h,(l[i]'h)=a:=fun h=>by rw[cl hi]at k;exact e7 k
  have f:∀h,(r[i]'h)=b:=fun h=>by rw[cl h]at j;exact e7 j
  have g:i<r.length:=Ω
  have p:(l.zip r).drop i=(a,b)::(l.zip r).drop (i+1):=by rw[lA d6];simp[e,f]
  rw[p,NV g1 g2]at c;simp[hi,e,f,g];have key:=arA d a b g1 g2;cases hu:mgu d [(a,b)]with
  |none=>rw[hu]at c key;simp only at c;rw[<-c];(repeat' first|refine aq ?_|refine aP key ?_|refine aQ key ?_|simp[e,f,hi,g]);simp[b0,ba,bd,a1];simp[hb]
  |some s1=>have m:=BO g1 g2 hu;rw[hu]at c key;(repeat' first|refine aq ?_|refine aP key ?_|refine aQ key ?_|simp[e,f,hi,g]);refine bV.rng s1 hi ⟨m,c⟩ ?_;exact cc
def kX(n:Int):bX au 114 [aj n] (T.var n).e:=by refine bL a7 Tryz.func114 an7 fun a=>?_;unfold SZ;exact cB
def akS(t:List Bd)(i:Nat)(p:List T×List T):Prop:=p.1=(t.take i).map (fun b=>T.var b.v)/\p.2=(t.take i).map (·.t)
def ary(s t:List Bd)(k:gz s)(n:ir s)(m:t.length<=1000000):bX au 152 [bK (s.map Bd.e),bK (t.map Bd.e)] (hb (mgu s (iG t))):=by
 have g:(t.map fun b=>T.var b.v).zip (t.map (·.t))=iG t:=by rw[iG,List.zip_map']
 refine bL a7 Tryz.func152 aoe fun o=>?_;unfold S6;simp;refine fX (α:=List T×List T) (fun i p=>⟨[(0,bK (s.map Bd.e)),(12,bK (t.map Bd.e)),(13,aj t.length),(6,.slice 4 (.own (.loc 0)) (p.1.map T.e)),(7,.slice 4 (.own (.loc 1)) (p.2.map T.e)),(14,aj i)],[],[(.loc 0,⟨p.1.length,30,4,none⟩),(.loc 1,⟨p.2.length,30,4,none⟩)],2,[]⟩) t.length (akS t) ([],[]) cc ⟨Ψ,Ψ⟩ (fun p d _=>?_) (fun i p hi d _=>?_)
 ·obtain⟨A,B⟩:=p;obtain⟨a,c⟩:=d;simp only at a c⊢;rw[iE (dL _)]at a c;have key:=arw s A B (by rw[a,c];simp) k n (by rw[a];simpa using m);rw[a,c,g,<-a,<-c]at key;simp;(repeat' first|refine aq ?_|refine aP key ?_|refine aQ key ?_|simp);simp[b0,ba,bd,a1];simp[hb]
 ·obtain⟨A,B⟩:=p;obtain⟨a,c⟩:=d;simp only at a c⊢;obtain⟨b,l,f⟩:=eX hi;have e:t.take (i+1)=t.take i++[b]:=by rw[List.take_succ,l];rfl
  have j:A.length<=1000000:=by rw[a];simp;omega
  have h:B.length<=1000000:=by rw[c];simp;omega
  simp[hi,f];(repeat' first|refine aq ?_|refine aP (kX _) ?_|refine aQ (kX _) ?_|simp[f,hi]);all_goals try refine⟨by unfold lim;omega,?_⟩
  (repeat' first|refine aq ?_|simp);all_goals try refine⟨by unfold lim;omega,?_⟩
  (repeat' first|refine aq ?_|simp);refine bV.rng (A++[.var b.v],B++[b.t]) hi ⟨by rw[e,a];simp,by rw[e,c];simp⟩ ?_;simp;exact⟨by simp[fresh,aH,az,cb,aK,ad,kC],ep (by simp[fresh,aH,az,cb,aK,ad,kC]),er (by simp[fresh,aH,az,dU,aK,ad,kC]),Ψ⟩
def dQ(n lo hi:Int):bX au 75 [aj n,aj lo,aj hi] (.bool (decide (lo<=n/\n<=hi))):=by
 refine bL a7 Tryz.func75 anZ fun a=>?_;unfold SO;simp;((repeat' first|refine aq ?_|simp|((first|apply cu|apply cy|apply cx)<;>intro h<;>try simp at h))<;>(try exact c4));all_goals simp[b0,ba,bd,a1]
 all_goals first|omega|(simp;done)|(simp;omega)
def shp:Tm->Bool
 | .mk k n s [a,b]=>k==4&&n==0&&s==[]&&shp a&&shp b
 | .mk k n s []=>l6 k n s
 |_=>false
def Jq:∀x:T,shp x.tm=x.ok
 | .nil=>by simp[T.tm,shp,l6,T.ok]
 | .var _=>by simp[T.tm,shp,l6,T.ok]
 | .sym _=>by simp[T.tm,shp,l6,T.ok]
 | .num _=>by simp[T.tm,shp,l6,T.ok]
 | .pair a b=>by simp[T.tm,shp,T.ok,Jq a,Jq b]
def ap2:∀(m:Nat) (t:Tm),t.sz<=m->shp t=true->∃x:T,x.tm=t:=by
 intro m;induction m with
 |zero=>intro t c;cases t;simp[Tm.sz]at c
 |succ m d=>
  rintro⟨k,n,s,args⟩ c h;match args with
  |[a,b]=>
   simp[Tm.sz,Tm.szL]at c;simp only[shp,cP,ey]at h;obtain⟨⟨⟨⟨rfl,rfl⟩,e⟩,J⟩,U⟩:=h;obtain⟨x,rfl⟩:=d a Ω J;obtain⟨y,rfl⟩:=d b Ω U;have:s=[]:=by simpa using e
   subst this;exact⟨.pair x y,rfl⟩
  |[]=>
   simp only[shp,l6]at h;split at h
   ·subst_vars;simp at h;exact⟨.nil,by simp[T.tm,h]⟩
   split at h
   ·subst_vars;simp at h;exact⟨.var n,by simp[T.tm,h]⟩
   split at h
   ·subst_vars;simp at h;exact⟨.sym s,by simp[T.tm,h]⟩
   split at h
   ·subst_vars;simp at h;exact⟨.num n,by simp[T.tm,h]⟩
   ·simp at h
  |[_]=>simp[shp]at h
  |_::_::_::_=>simp[shp]at h
def ahs(t:Tm):t.fits=(decide (mh t 5000<=5000)&&shp t):=by
 by_cases h:shp t=true
 ·obtain⟨x,rfl⟩:=ap2 _ t (dL _) h;have:=(Gt x 5000 Ω).1;rw[Tm.fits_T,T.fit,h];rw[Jq]at h;simp[h,this];omega
 ·have b:t.fits=false:=by
   cases c:t.fits with
   |false=>rfl
   |true=>obtain⟨x,rfl,a⟩:=Tm.fits_ex c;rw[Jq]at h;simp[T.fit]at a;exact absurd a.1 h
  simp at h;rw[b,h];simp
def M8(s:List cW)(i:Nat):Prop:=i<=s.length/\∀k,k<i->nM (s.getD k 0)=true/\(k=0->low (s.getD k 0)=true)
def akL{s:List cW}(h:M8 s s.length):kn s=decide (1<=s.length/\s.length<=12):=by
 unfold kn;by_cases c:1<=s.length
 ·have J:=(h.2 0 Ω).2 rfl;have U:(s.drop 1).all nM=true:=by rw[j7];intro b a;obtain⟨i,hi,e⟩:=pk a;simp at hi e;have:=(h.2 (i+1) Ω).1;rw[List.getD_eq_getElem?_getD,cl Ω]at this;simp only[mK]at this;rw[<-e];exact this
  rw[J,U];simp
 ·have:decide (1<=s.length/\s.length<=12)=false:=by simp;omega
  rw[this];simp
def akK{s:List cW}{i:Nat}(hi:i<s.length)(h:nM (s.getD i 0)=false\/(i=0/\low (s.getD i 0)=false)):kn s=false:=by
 cases e:kn s with
 |false=>rfl
 |true=>
  exfalso;simp only[kn,cP,j7]at e;obtain⟨⟨_,a⟩,c⟩:=e;rcases h with h|⟨rfl,h⟩
  ·by_cases b:i=0
   ·subst b;rw[nM,a]at h;simp at h
   ·have:=c (s.getD i 0) (by rw[List.getD_eq_getElem?_getD,cl hi];simp only[mK];refine List.mem_iff_getElem.2 ⟨i-1,by simp;omega,?_⟩;simp[show i-1+1=i from by omega])
    rw[this]at h;cases h
  ·rw[a]at h;cases h
def hY(s:List cW):bX au 119 [.str s] (.bool (kn s)):=by
 generalize bu:kn s=R;refine bL a7 Tryz.func119 anU fun r=>?_;unfold SJ;have t:s.length<=68719476736:=by simp[eP,eU,eQ,lim]at r;omega
 simp;refine w2 [0] (fun(i:Nat)=>[(3,aj i)]) (fun i=>s.length-i) (M8 s) 0 cc ⟨Ω,fun k q=>Ω⟩ (fun i o _=>?_);have u:=o.1;by_cases hi:i<s.length
 ·have l:=akK hi;rw[bu]at l;obtain⟨c,aw,e⟩:=eX hi;have p:s.getD i 0=c:=by simp[List.getD_eq_getElem?_getD,aw]
  rw[p]at l;have du:nM c=true->(i=0->low c=true)->M8 s (i+1):=fun J U=>⟨Ω,fun k q=>by
   rcases(by omega:k<i\/k=i)with h|rfl
   ·exact o.2 k h
   ·rw[p];exact⟨J,U⟩⟩
  have hw:vf.wrap (c.toNat:Int)=c.toNat:=pf _ (by have:=c.toNat_lt;omega);simp[hi,e,aw];by_cases g:(97:Int)<=c.toNat
  ·by_cases n:(c.toNat:Int)<=122
   ·have j:low c=true:=by simp[low];omega
    (repeat' first|refine aq ?_|refine aP (dQ _ _ _) ?_|refine aQ (dQ _ _ _) ?_|simp[hi,e,aw,g,n]);exact bV.whl (i+1) Ω (du (by simp[nM,j]) (fun _=>j)) cc
   ·have j:low c=false:=by simp[low];omega
    by_cases b:i=0
    ·rw[l (.inr ⟨b,j⟩)];have a:((i:Int)==0)=true:=by simp[b]
     (repeat' first|refine aq ?_|refine aP (dQ _ _ _) ?_|refine aQ (dQ _ _ _) ?_|simp[hi,e,aw,g,n,a,hw]);simp[b0,ba,bd,a1]
    ·have a:((i:Int)==0)=false:=by simp[b]
     by_cases d:(c.toNat:Int)=45
     ·have f:((c.toNat:Int) !=45)=false:=by simp[d]
      (repeat' first|refine aq ?_|refine aP (dQ _ _ _) ?_|refine aQ (dQ _ _ _) ?_|simp[hi,e,aw,g,n,a,hw,d,f]);all_goals exact bV.whl (i+1) Ω (du (by simp[nM];omega) (fun h=>absurd h b)) cc
     ·have f:((c.toNat:Int) !=45)=true:=by simp[d]
      by_cases m:(48:Int)<=c.toNat/\(c.toNat:Int)<=57
      ·(repeat' first|refine aq ?_|refine aP (dQ _ _ _) ?_|refine aQ (dQ _ _ _) ?_|simp[hi,e,aw,g,n,a,hw,d,f,m]);all_goals exact bV.whl (i+1) Ω (du (by simp[nM];omega) (fun h=>absurd h b)) cc
      ·rw[l (.inl (by simp[nM,j];omega))];(repeat' first|refine aq ?_|refine aP (dQ _ _ _) ?_|refine aQ (dQ _ _ _) ?_|simp[hi,e,aw,g,n,a,hw,d,f,m]);simp[b0,ba,bd,a1]
  ·have j:low c=false:=by simp[low];omega
   by_cases b:i=0
   ·rw[l (.inr ⟨b,j⟩)];have a:((i:Int)==0)=true:=by simp[b]
    (repeat' first|refine aq ?_|refine aP (dQ _ _ _) ?_|refine aQ (dQ _ _ _) ?_|simp[hi,e,aw,g,a,hw]);simp[b0,ba,bd,a1]
   ·have a:((i:Int)==0)=false:=by simp[b]
    by_cases d:(c.toNat:Int)=45
    ·have f:((c.toNat:Int) !=45)=false:=by simp[d]
     (repeat' first|refine aq ?_|refine aP (dQ _ _ _) ?_|refine aQ (dQ _ _ _) ?_|simp[hi,e,aw,g,a,hw,d,f]);all_goals exact bV.whl (i+1) Ω (du (by simp[nM];omega) (fun h=>absurd h b)) cc
    ·have f:((c.toNat:Int) !=45)=true:=by simp[d]
     by_cases m:(48:Int)<=c.toNat/\(c.toNat:Int)<=57
     ·(repeat' first|refine aq ?_|refine aP (dQ _ _ _) ?_|refine aQ (dQ _ _ _) ?_|simp[hi,e,aw,g,a,hw,d,f,m]);all_goals exact bV.whl (i+1) Ω (du (by simp[nM];omega) (fun h=>absurd h b)) cc
     ·rw[l (.inl (by simp[nM,j];omega))];(repeat' first|refine aq ?_|refine aP (dQ _ _ _) ?_|refine aQ (dQ _ _ _) ?_|simp[hi,e,aw,g,a,hw,d,f,m]);simp[b0,ba,bd,a1]
 ·have:i=s.length:=Ω
  subst this;rw[akL o]at bu;simp[hi];(repeat' first|refine aq ?_|refine aP (dQ _ _ _) ?_|refine aQ (dQ _ _ _) ?_|simp[hi]);simp[b0,ba,bd,a1];rw[<-bu,qP];simp;omega
def wH:List Tm->Bool
 |[a,b]=>shp a&&shp b
 |_=>false
def ap1(k n:Int)(s:List cW)(args:List Tm):shp ⟨k,n,s,args⟩=if k≠1/\k≠3/\n≠0 then false else if k≠2/\s≠[]then false else if k≠4/\args≠[]then false else if k=0 then true else if k=1 then decide (0<=n/\n<=100000)else if k=2 then kn s else if k=3 then decide (-1000000000<=n/\n<=1000000000)else if k=4 then wH args else false:=by
 by_cases e:k=0
 ·subst e;match args with
  |[]=>by_cases i:n=0<;>by_cases c:s=[]<;>simp[shp,l6,i,c]
  |[a]=>simp[shp]
  |[a,b]=>simp[shp]
  |_::_::_::_=>simp[shp]
 by_cases g:k=1
 ·subst g;match args with
  |[]=>by_cases c:s=[]<;>simp[shp,l6,c]
  |[a]=>simp[shp]
  |[a,b]=>simp[shp]
  |_::_::_::_=>simp[shp]
 by_cases h:k=2
 ·subst h;match args with
  |[]=>by_cases i:n=0<;>simp[shp,l6,i]
  |[a]=>simp[shp]
  |[a,b]=>simp[shp]
  |_::_::_::_=>simp[shp]
 by_cases f:k=3
 ·subst f;match args with
  |[]=>by_cases c:s=[]<;>simp[shp,l6,c]
  |[a]=>simp[shp]
  |[a,b]=>simp[shp]
  |_::_::_::_=>simp[shp]
 by_cases d:k=4
 ·subst d;match args with
  |[]=>simp[shp,l6,wH]
  |[a]=>simp[shp,wH]
  |[a,b]=>by_cases i:n=0<;>by_cases c:s=[]<;>simp[shp,wH,i,c]
  |_::_::_::_=>simp[shp,wH]
 ·match args with
  |[]=>simp[shp,l6,e,g,h,f,d]
  |[a]=>simp[shp,e,g,h,f,d]
  |[a,b]=>simp[shp,e,g,h,f,d]
  |_::_::_::_=>simp[shp,e,g,h,f,d]
set_option maxRecDepth 8000 in
def arq(m:Nat):∀(t:Tm),t.sz<=m->bX au 124 [enc t] (.bool (shp t)):=by
 induction m with
 |zero=>intro t A;cases t;simp[Tm.sz]at A
 |succ m F=>
 rintro⟨k,n,s,args⟩ A;generalize bu:shp ⟨k,n,s,args⟩=R;have c:=ap1 k n s args;rw[bu]at c;by_cases w:k≠1/\k≠3/\n≠0
 ·rw[if_pos w]at c;obtain⟨f,e,n0⟩:=w;have p:(k !=1)=true:=by simp[f]
  have o:(k !=3)=true:=by simp[e]
  have E:(n !=0)=true:=by simp[n0]
  subst c;refine bL a7 Tryz.func124 nV fun d=>?_;unfold mS;simp[Tm.kind,Tm.num,Tm.name,Tm.args];(repeat' first|refine aq ?_|refine aP (dQ _ _ _) ?_|refine aQ (dQ _ _ _) ?_|refine aP (hY _) ?_|refine aQ (hY _) ?_|simp[p,o,E]);all_goals simp[b0,ba,bd,a1]
 rw[if_neg w]at c;have v:(if k !=1 then k !=3 else false)=true->(n !=0)=false:=by intro h;simp at h⊢;exact Classical.byContradiction fun O=>w ⟨h.1,h.2,O⟩
 by_cases i:k≠2/\s≠[]
 ·rw[if_pos i]at c;have y:(k !=2)=true:=by simp[i.1]
  have B:s.isEmpty=false:=by simp[i.2]
  by_cases f:k=1
  ·subst f;subst c;refine bL a7 Tryz.func124 nV fun d=>?_;unfold mS;simp[Tm.kind,Tm.num,Tm.name,Tm.args];(repeat' first|refine aq ?_|refine aP (dQ _ _ _) ?_|refine aQ (dQ _ _ _) ?_|refine aP (hY _) ?_|refine aQ (hY _) ?_|simp[B]);all_goals simp[b0,ba,bd,a1]
  by_cases e:k=3
  ·subst e;subst c;refine bL a7 Tryz.func124 nV fun d=>?_;unfold mS;simp[Tm.kind,Tm.num,Tm.name,Tm.args];(repeat' first|refine aq ?_|refine aP (dQ _ _ _) ?_|refine aQ (dQ _ _ _) ?_|refine aP (hY _) ?_|refine aQ (hY _) ?_|simp[B]);all_goals simp[b0,ba,bd,a1]
  have p:(k !=1)=true:=by simp[f]
  have o:(k !=3)=true:=by simp[e]
  have E:(n !=0)=false:=v (by simp[f,e]);subst c;refine bL a7 Tryz.func124 nV fun d=>?_;unfold mS;simp[Tm.kind,Tm.num,Tm.name,Tm.args];(repeat' first|refine aq ?_|refine aP (dQ _ _ _) ?_|refine aQ (dQ _ _ _) ?_|refine aP (hY _) ?_|refine aQ (hY _) ?_|simp[p,o,E,y,B]);all_goals simp[b0,ba,bd,a1]
 rw[if_neg i]at c;by_cases z:k=0
 ·subst z;have n0:n=0:=by simpa using v (by decide)
  have s0:s=[]:=Classical.byContradiction fun h=>i ⟨Ω,h⟩;subst n0 s0;by_cases a0:args=[];rotate_left
  ·rw[if_pos ⟨Ω,a0⟩]at c;have g:(0:Int)<args.length:=by have:=List.length_pos_iff.2 a0;omega
   subst c;refine bL a7 Tryz.func124 nV fun d=>?_;unfold mS;simp[Tm.kind,Tm.num,Tm.name,Tm.args];((repeat' first|refine aq ?_|refine aP (dQ _ _ _) ?_|refine aQ (dQ _ _ _) ?_|refine aP (hY _) ?_|refine aQ (hY _) ?_|simp[Int.natCast_nonneg,g]|((first|apply cu|apply cy|apply cx)<;>intro h<;>try simp at h))<;>(try exact c4));all_goals simp[b0,ba,bd,a1]
  rw[if_neg (by simp[a0])]at c;subst a0;simp at c;subst c;refine bL a7 Tryz.func124 nV fun d=>?_;unfold mS;simp[Tm.kind,Tm.num,Tm.name,Tm.args];(repeat' first|refine aq ?_|refine aP (dQ _ _ _) ?_|refine aQ (dQ _ _ _) ?_|refine aP (hY _) ?_|refine aQ (hY _) ?_|simp[Int.natCast_nonneg]);all_goals simp[b0,ba,bd,a1]
 by_cases f:k=1
 ·subst f;have s0:s=[]:=Classical.byContradiction fun h=>i ⟨Ω,h⟩;subst s0;by_cases a0:args=[];rotate_left
  ·rw[if_pos ⟨Ω,a0⟩]at c;have g:(0:Int)<args.length:=by have:=List.length_pos_iff.2 a0;omega
   subst c;refine bL a7 Tryz.func124 nV fun d=>?_;unfold mS;simp[Tm.kind,Tm.num,Tm.name,Tm.args];((repeat' first|refine aq ?_|refine aP (dQ _ _ _) ?_|refine aQ (dQ _ _ _) ?_|refine aP (hY _) ?_|refine aQ (hY _) ?_|simp[Int.natCast_nonneg,g]|((first|apply cu|apply cy|apply cx)<;>intro h<;>try simp at h))<;>(try exact c4));all_goals simp[b0,ba,bd,a1]
  rw[if_neg (by simp[a0])]at c;subst a0;simp at c;subst c;refine bL a7 Tryz.func124 nV fun d=>?_;unfold mS;simp[Tm.kind,Tm.num,Tm.name,Tm.args];(repeat' first|refine aq ?_|refine aP (dQ _ _ _) ?_|refine aQ (dQ _ _ _) ?_|refine aP (hY _) ?_|refine aQ (hY _) ?_|simp[Int.natCast_nonneg]);all_goals simp[b0,ba,bd,a1]
 by_cases u:k=2
 ·subst u;have n0:n=0:=by simpa using v (by decide)
  subst n0;by_cases a0:args=[];rotate_left
  ·rw[if_pos ⟨Ω,a0⟩]at c;have g:(0:Int)<args.length:=by have:=List.length_pos_iff.2 a0;omega
   subst c;refine bL a7 Tryz.func124 nV fun d=>?_;unfold mS;simp[Tm.kind,Tm.num,Tm.name,Tm.args];((repeat' first|refine aq ?_|refine aP (dQ _ _ _) ?_|refine aQ (dQ _ _ _) ?_|refine aP (hY _) ?_|refine aQ (hY _) ?_|simp[Int.natCast_nonneg,g]|((first|apply cu|apply cy|apply cx)<;>intro h<;>try simp at h))<;>(try exact c4));all_goals simp[b0,ba,bd,a1]
  rw[if_neg (by simp[a0])]at c;subst a0;simp at c;subst c;refine bL a7 Tryz.func124 nV fun d=>?_;unfold mS;simp[Tm.kind,Tm.num,Tm.name,Tm.args];(repeat' first|refine aq ?_|refine aP (dQ _ _ _) ?_|refine aQ (dQ _ _ _) ?_|refine aP (hY _) ?_|refine aQ (hY _) ?_|simp[Int.natCast_nonneg]);all_goals simp[b0,ba,bd,a1]
 by_cases e:k=3
 ·subst e;have s0:s=[]:=Classical.byContradiction fun h=>i ⟨Ω,h⟩;subst s0;by_cases a0:args=[];rotate_left
  ·rw[if_pos ⟨Ω,a0⟩]at c;have g:(0:Int)<args.length:=by have:=List.length_pos_iff.2 a0;omega
   subst c;refine bL a7 Tryz.func124 nV fun d=>?_;unfold mS;simp[Tm.kind,Tm.num,Tm.name,Tm.args];((repeat' first|refine aq ?_|refine aP (dQ _ _ _) ?_|refine aQ (dQ _ _ _) ?_|refine aP (hY _) ?_|refine aQ (hY _) ?_|simp[Int.natCast_nonneg,g]|((first|apply cu|apply cy|apply cx)<;>intro h<;>try simp at h))<;>(try exact c4));all_goals simp[b0,ba,bd,a1]
  rw[if_neg (by simp[a0])]at c;subst a0;simp at c;subst c;refine bL a7 Tryz.func124 nV fun d=>?_;unfold mS;simp[Tm.kind,Tm.num,Tm.name,Tm.args];(repeat' first|refine aq ?_|refine aP (dQ _ _ _) ?_|refine aQ (dQ _ _ _) ?_|refine aP (hY _) ?_|refine aQ (hY _) ?_|simp[Int.natCast_nonneg]);all_goals simp[b0,ba,bd,a1]
 by_cases r:k=4
 ·subst r;have n0:n=0:=by simpa using v (by decide)
  have s0:s=[]:=Classical.byContradiction fun h=>i ⟨Ω,h⟩;subst n0 s0;simp at c;match args,c with
  |[a,b],c=>
   simp[Tm.sz,Tm.szL]at A;have j:=F a Ω;have x:=F b Ω;simp only[wH]at c;subst c;refine bL a7 Tryz.func124 nV fun d=>?_;unfold mS;simp[Tm.kind,Tm.num,Tm.name,Tm.args];cases q:shp a with
   |true=>rw[q]at j;(repeat' first|refine aq ?_|refine aP j ?_|refine aQ j ?_|refine aP x ?_|refine aQ x ?_|simp[Int.natCast_nonneg]);all_goals simp[b0,ba,bd,a1]
   |false=>rw[q]at j;(repeat' first|refine aq ?_|refine aP j ?_|refine aQ j ?_|refine aP x ?_|refine aQ x ?_|simp[Int.natCast_nonneg]);all_goals simp[b0,ba,bd,a1]
  |[],c=>simp only[wH]at c;subst c;refine bL a7 Tryz.func124 nV fun d=>?_;unfold mS;simp[Tm.kind,Tm.num,Tm.name,Tm.args];(repeat' first|refine aq ?_|refine aP (dQ _ _ _) ?_|refine aQ (dQ _ _ _) ?_|refine aP (hY _) ?_|refine aQ (hY _) ?_|simp[Int.natCast_nonneg]);all_goals simp[b0,ba,bd,a1]
  |[_],c=>simp only[wH]at c;subst c;refine bL a7 Tryz.func124 nV fun d=>?_;unfold mS;simp[Tm.kind,Tm.num,Tm.name,Tm.args];(repeat' first|refine aq ?_|refine aP (dQ _ _ _) ?_|refine aQ (dQ _ _ _) ?_|refine aP (hY _) ?_|refine aQ (hY _) ?_|simp[Int.natCast_nonneg]);all_goals simp[b0,ba,bd,a1]
  |_::_::_::l,c=>
   simp only[wH]at c;have N:((l.length:Int)+1+1+1==2)=false:=by simp;omega
   subst c;refine bL a7 Tryz.func124 nV fun d=>?_;unfold mS;simp[Tm.kind,Tm.num,Tm.name,Tm.args];(repeat' first|refine aq ?_|refine aP (dQ _ _ _) ?_|refine aQ (dQ _ _ _) ?_|refine aP (hY _) ?_|refine aQ (hY _) ?_|simp[N]);all_goals simp[b0,ba,bd,a1]
 have n0:(n !=0)=false:=v (by simp[f,e]);have s0:s=[]:=Classical.byContradiction fun h=>i ⟨u,h⟩;subst s0;have M:(k==0)=false:=by simp[z]
 have p:(k==1)=false:=by simp[f]
 have y:(k==2)=false:=by simp[u]
 have o:(k==3)=false:=by simp[e]
 have H:(k==4)=false:=by simp[r]
 have L:(k !=1)=true:=by simp[f]
 have K:(k !=2)=true:=by simp[u]
 have J:(k !=3)=true:=by simp[e]
 have G:(k !=4)=true:=by simp[r]
 by_cases a0:args=[]
 ·subst a0;simp[z,f,u,e,r]at c;subst c;refine bL a7 Tryz.func124 nV fun d=>?_;unfold mS;simp[Tm.kind,Tm.num,Tm.name,Tm.args];(repeat' first|refine aq ?_|refine aP (dQ _ _ _) ?_|refine aQ (dQ _ _ _) ?_|refine aP (hY _) ?_|refine aQ (hY _) ?_|simp[M,p,y,o,H,L,K,J,G,n0]);all_goals simp[b0,ba,bd,a1]
 ·rw[if_pos ⟨r,a0⟩]at c;have g:(0:Int)<args.length:=by have:=List.length_pos_iff.2 a0;omega
  subst c;refine bL a7 Tryz.func124 nV fun d=>?_;unfold mS;simp[Tm.kind,Tm.num,Tm.name,Tm.args];((repeat' first|refine aq ?_|refine aP (dQ _ _ _) ?_|refine aQ (dQ _ _ _) ?_|refine aP (hY _) ?_|refine aQ (hY _) ?_|simp[g,M,p,y,o,H,L,K,J,G,n0]|((first|apply cu|apply cy|apply cx)<;>intro h<;>try simp at h))<;>(try exact c4));all_goals simp[b0,ba,bd,a1]
def ab1(t:Tm):bX au 56 [enc t] (.bool t.fits):=by
 rw[ahs];have aw:=abO t 5000 Ω Ω;have a:=arq t.sz t (dL _);refine bL a7 Tryz.func56 anY fun b=>?_;unfold SN;simp;by_cases q:mh t 5000<=5000
 ·exact cB
 ·exact cB
def SK:C:=(aa [bA 2 false] (.seq (aa [I 5 0,cw 6 5,bQ 7 0] (gq 8 7 6 (.seq (.block 1 (aa [I 9 7,ck 10 2 5 7,bq 11 2 10,dr (.alloc 4 none (.agg [.int .i64 0,.int .i64 0])),I 3 9,bW 2 4 11] (.seq (.drawn true 42 [I 12 3,aV 13 .gtr 12 0,I 14 13,cd 14 true 15 0,cd 14 true 16 3,ax 14 true (aV 17 .sub 16 1),ax 14 true (ck 18 2 15 17),ax 14 true (aF 19 0 1 18),ax 14 true (ay 20 1 19),ax 14 true (aF 21 0 1 4),ax 14 true (ay 22 1 21),ax 14 true (br 23 .geq 20 22),ev 24 14 23,I 25 24,ax 25 false (aF 26 0 1 4),ax 25 false (ay 27 1 26),ax 25 false (eg 28 75 [.t 27,(gP 0),(gP 100000)]),ax 25 false (cR 29 28),dq 30 25 29,I 31 30,ax 31 false (aF 32 1 1 4),ax 31 false (ay 33 1 32),ax 31 false (aV 34 .neq 33 2),cd 31 false 35 34,ax 35 true (aF 36 1 1 4),ax 35 true (ay 37 1 36),ax 35 true (aV 38 .neq 37 3),ax 31 false (ev 39 35 38),dq 40 31 39]) (aZ 40 (aa [bA 2 false] .ret) .skip)))) (.region [aV 41 .add 7 1,I 7 41])))) (aa [bA 2 true] .ret)))
def SL:C:=(aa [bA 2 false] (.seq (aa [I 5 0,cw 6 5,bQ 7 0] (gq 8 7 6 (.seq (.block 1 (aa [I 9 7,ck 10 2 5 7,bq 11 2 10,dr (.alloc 4 none (.agg [.int .i64 0,.str []])),I 3 9,bW 2 4 11] (.seq (.drawn true 37 [I 12 3,aV 13 .gtr 12 0,I 14 13,cd 14 true 15 0,cd 14 true 16 3,ax 14 true (aV 17 .sub 16 1),ax 14 true (ck 18 2 15 17),ax 14 true (bq 19 2 18),ax 14 true (bq 20 2 4),ax 14 true (cj 21 147 19 20),ax 14 true (cR 22 21),ev 23 14 22,I 24 23,ax 24 false (aF 25 0 1 4),ax 24 false (ay 26 1 25),ax 24 false (eg 27 75 [.t 26,(gP 0),(gP 100000)]),ax 24 false (cR 28 27),dq 29 24 28,I 30 29,ax 30 false (aF 31 1 1 4),ax 30 false (ay 32 1 31),ax 30 false (da 33 119 32),ax 30 false (cR 34 33),dq 35 30 34]) (aZ 35 (aa [bA 2 false] .ret) .skip)))) (.region [aV 36 .add 7 1,I 7 36])))) (aa [bA 2 true] .ret)))
def Gq:C:=(aa [dc 2 0,dc 3 1,bA 4 false] (aa [aF 5 0 1 2,ay 6 1 5,aF 7 0 1 3,ay 8 1 7,br 9 .lss 6 8,I 10 9,ax 10 false (aF 11 0 1 2),ax 10 false (ay 12 1 11),ax 10 false (aF 13 0 1 3),ax 10 false (ay 14 1 13),ax 10 false (br 15 .eql 12 14),cd 10 false 16 15,ax 16 true (aF 17 1 1 2),ax 16 true (ay 18 1 17),ax 16 true (aF 19 1 1 3),ax 16 true (ay 20 1 19),ax 16 true (br 21 .lss 18 20),ax 10 false (ev 22 16 21),dq 23 10 22,I 4 23] .ret))
def Tc:C:=(aa [fw 4 2,bA 5 false] (aa [fp 10 2 98 [],I 6 10] (aa [bA 7 true] (.seq (.seq (.fg false 6 (.region [I 11 1,cw 12 11,bQ 13 0])) (gq 14 13 12 (.seq (.block 1 (aa [ck 15 2 11 13,bq 16 2 15,dr (.alloc 9 none (.agg [.int .i64 0,.int .i64 0])),bW 2 9 16] (.seq (.drawn true 33 [I 18 6,I 19 0,aF 20 0 1 9,ay 21 1 20,da 22 114 21,cj 23 201 19 22,aF 24 1 1 9,ay 25 1 24,eg 26 151 [.t 18,.t 23,.t 25],I 17 26,dm 27 0 17,dm 28 1 17,I 6 27,I 7 28]) (aa [I 29 7,cR 30 29] (aZ 30 (aa [fw 4 2,bA 5 false] .ret) .skip))))) (.region [aV 31 .add 13 1,I 13 31])))) (aa [I 32 6,I 4 32,bA 5 true] .ret)))))
def Td:C:=(aa [fw 4 2,bA 5 false] (aa [fp 10 2 100 [],I 6 10] (aa [bA 7 true] (.seq (.seq (.fg false 6 (.region [I 11 1,cw 12 11,bQ 13 0])) (gq 14 13 12 (.seq (.block 1 (aa [ck 15 2 11 13,bq 16 2 15,dr (.alloc 9 none (.agg [.int .i64 0,.str []])),bW 2 9 16] (.seq (.drawn true 33 [I 18 6,I 19 0,aF 20 0 1 9,ay 21 1 20,da 22 114 21,cj 23 201 19 22,aF 24 1 1 9,ay 25 1 24,eg 26 181 [.t 18,.t 23,.t 25],I 17 26,dm 27 0 17,dm 28 1 17,I 6 27,I 7 28]) (aa [I 29 7,cR 30 29] (aZ 30 (aa [fw 4 2,bA 5 false] .ret) .skip))))) (.region [aV 31 .add 13 1,I 13 31])))) (aa [I 32 6,I 4 32,bA 5 true] .ret)))))
def AD:C:=(aa [dc 4 1,fw 6 2,bA 7 false] (.seq (aa [aF 10 0 1 4,ay 11 1 10,aV 12 .neq 11 1] (aZ 12 (.seq (.drawn true 73 [I 13 0,aF 14 0 1 4,ay 15 1 14,I 16 2,br 17 .eql 15 16,I 6 13,I 7 17]) .ret) .skip)) (aa [bQ 8 0] (.seq (.block 0 (.loop (.seq (.seq (.drawn true 73 [I 18 8,I 19 0,cw 20 19,br 21 .lss 18 20,I 22 21,cd 22 true 23 0,cd 22 true 24 8,ax 22 true (ck 25 2 23 24),ax 22 true (aF 26 0 1 25),ax 22 true (ay 27 1 26),ax 22 true (aF 28 1 1 4),ax 22 true (ay 29 1 28),ax 22 true (br 30 .lss 27 29),ev 31 22 30]) (aZ 31 .skip (.exit 0))) (.block 1 (.region [I 32 8,aV 33 .add 32 1,I 8 33]))))) (.seq (.seq (.drawn true 73 [I 34 8,I 35 0,cw 36 35,br 37 .lss 34 36,I 38 37,cd 38 true 39 0,cd 38 true 40 8,ax 38 true (ck 41 2 39 40),ax 38 true (aF 42 0 1 41),ax 38 true (ay 43 1 42),ax 38 true (aF 44 1 1 4),ax 38 true (ay 45 1 44),ax 38 true (br 46 .eql 43 45),ev 47 38 46]) (aZ 47 (.seq (.drawn true 73 [I 48 0,I 49 0,I 50 8,ck 51 2 49 50,aF 52 1 1 51,ay 53 1 52,I 54 2,br 55 .eql 53 54,I 6 48,I 7 55]) .ret) .skip)) (aa [fp 56 2 98 [],I 57 0,I 58 8,b9 59 (.lsl 2 (.t 57) none (some (.t 58))),im 60 2 98 56 59,I 9 60] (aa [I 61 9,aF 62 1 1 4,ay 63 1 62,I 64 2,b9 65 (.build [.int .i64 0,.int .i64 0] [(0,1,(.t 63)),(1,1,(.t 64))]),fp 66 2 98 [.t 65],im 67 2 98 61 66,I 9 67] (aa [I 68 9,I 69 0,I 70 8,b9 71 (.lsl 2 (.t 69) (some (.t 70)) none),im 72 2 98 68 71,I 6 72,bA 7 true] .ret))))))))
def KX:C:=(aa [dc 4 1,fw 6 2,bA 7 false] (.seq (aa [bq 13 4 4,I 14 2,cj 15 210 13 14] (aZ 15 (aa [fw 6 2,bA 7 false] .ret) .skip)) (.seq (aa [bq 16 4 4,eg 17 58 [.t 16,(.c (.slice 1 .nil []))],cw 18 17,bQ 19 0] (gq 20 19 18 (.seq (.block 1 (aa [ck 21 1 17 19,ay 22 1 21,I 9 22] (aa [I 23 9,I 24 2,b9 25 (.build [.int .i64 0,.str []] [(0,1,(.t 23)),(1,1,(.t 24))]),dr (.alloc 10 none (.agg [.int .i64 0,.str []])),bW 2 10 25] (aa [bQ 11 0] (.seq (.block 2 (.loop (.seq (.seq (.drawn true 68 [I 26 11,I 27 0,cw 28 27,br 29 .lss 26 28,I 30 29,cd 30 true 31 0,cd 30 true 32 11,ax 30 true (ck 33 2 31 32),ax 30 true (bq 34 2 33),ax 30 true (bq 35 2 10),ax 30 true (cj 36 147 34 35),ev 37 30 36]) (aZ 37 .skip (.exit 2))) (.block 3 (.region [I 38 11,aV 39 .add 38 1,I 11 39]))))) (.seq (.drawn true 68 [I 40 11,I 41 0,cw 42 41,br 43 .eql 40 42,I 44 43,ax 44 false (bq 45 2 10),cd 44 false 46 0,cd 44 false 47 11,ax 44 false (ck 48 2 46 47),ax 44 false (bq 49 2 48),ax 44 false (cj 50 147 45 49),dq 51 44 50]) (aZ 51 (aa [fp 52 2 100 [],I 53 0,I 54 11,b9 55 (.lsl 2 (.t 53) none (some (.t 54))),im 56 2 100 52 55,I 12 56] (aa [I 57 12,bq 58 2 10,fp 59 2 100 [.t 58],im 60 2 100 57 59,I 12 60] (.region [I 61 12,I 62 0,I 63 11,b9 64 (.lsl 2 (.t 62) (some (.t 63)) none),im 65 2 100 61 64,I 0 65]))) .skip))))))) (.fg false 0 (.region [aV 66 .add 19 1,I 19 66]))))) (aa [I 67 0,I 6 67,bA 7 true] .ret))))
def AB:C:=(aa [dc 2 0,bA 4 false] (.seq (aa [aF 7 3 1 2,ay 8 1 7,cw 9 8,bQ 10 0] (gq 11 10 9 (.seq (.block 1 (aa [ck 12 4 8 10,bq 13 4 12,dR 6 eE,bW 4 6 13] (aa [bq 14 4 6,I 15 1,cj 16 210 14 15] (aZ 16 (aa [bA 4 true] .ret) .skip)))) (.region [aV 17 .add 10 1,I 10 17])))) (aa [aF 18 0 1 2,ay 19 1 18,aV 20 .eql 19 2,I 21 20,ax 21 true (aF 22 2 1 2),ax 21 true (ay 23 1 22),cd 21 true 24 1,ax 21 true (br 25 .eql 23 24),ev 26 21 25,I 4 26] .ret)))
def anV:b6 aS SK [.tmp 2] 1 Tryz.f78=true:=bi
def anW:b6 aS SL [.tmp 2] 1 Tryz.f79=true:=bi
def Oy:b6 aS Gq [.tmp 4] 2 Tryz.f147=true:=bi
def aok:b6 aS Tc [.tmp 4,.tmp 5] 2 Tryz.f149=true:=bi
def aol:b6 aS Td [.tmp 4,.tmp 5] 2 Tryz.f150=true:=bi
def EO:b6 aS AD [.tmp 6,.tmp 7] 3 Tryz.f151=true:=bi
def YN:b6 aS KX [.tmp 6,.tmp 7] 3 Tryz.f181=true:=bi
def EN:b6 aS AB [.tmp 4] 2 Tryz.f210=true:=bi
open Classical in
def arT(l:List bG):bX au 78 [b4 (l.map bG.e)] (.bool (decide (ht l))):=by
 generalize bu:decide (ht l)=R;refine bL a7 Tryz.func78 anV fun A=>?_;unfold SK;have E:l.length<=68719476736:=by simp[eP,eU,eQ,lim]at A;omega
 simp;refine eY [0,5,6] (fun i (_:Unit)=>[(7,aj i)]) l.length (fun i _=> ∀j,j<i->iZ nj oy l j) () cc (fun k G=>Ω) (fun _ s _=>?_) (fun i _ hi s _=>?_)
 ·have:R=true:=by rw[<-bu,gu,HR];exact s
  rw[this];exact cB
 ·obtain⟨b,m⟩:∃b,l[i]? =some b:=⟨_,cl hi⟩;obtain⟨c,aw⟩:∃c,l[i-1]? =some c:=⟨_,cl Ω⟩;have d:∀h,(l[i]'h)=b:=fun h=>by rw[cl hi]at m;exact e7 m
  have q:¬iZ nj oy l i->R=false:=fun h=>by rw[<-bu,iL];exact fun x=>h (HR.1 x i hi)
  have du:iZ nj oy l i->∀j,j<i+1->iZ nj oy l j:=fun h j B=>by
   by_cases e:j=i
   ·rw[e];exact h
   ·exact s j Ω
  have p:iZ nj oy l i->nj b:=fun h=>(h b m).1;have y:iZ nj oy l i->0<i->c.v<b.v:=fun h a=>(h b m).2 c a aw;have u:nj b->(0<i->c.v<b.v)->iZ nj oy l i:=fun J U b7 v=>by rw[m]at v;cases v;exact⟨J,fun F a t=>by rw[aw]at t;cases t;exact U a⟩
  unfold nj at p u;by_cases g0:0<i/\¬c.v<b.v
  ·rw[q (fun h=>g0.2 (y h g0.1))];have z:=g0.1;have g:b.v<=c.v:=Ω
   exact cB
  have n:(decide (0<i)&&decide (b.v<=c.v))=false:=by simp;intro h;by_cases w:c.v<b.v;exact w;exact absurd ⟨h,w⟩ g0
  by_cases g1:0<=b.v/\b.v<=100000;rotate_left
  ·rw[q (fun h=>g1 (p h).1)];have f:decide (0<=b.v/\b.v<=100000)=false:=by simp only[iL];exact g1
   by_cases a:0<i
   ·have g:¬b.v<=c.v:=by simp[a]at n;omega
    simp[hi,d,aw];(repeat' first|refine aq ?_|refine aP (dQ _ _ _) ?_|refine aQ (dQ _ _ _) ?_|simp[d,aw,hi,a,g,f,g1]);all_goals simp[b0,ba,bd,a1]
   ·obtain rfl:i=0:=Ω
    simp[hi,d,aw];(repeat' first|refine aq ?_|refine aP (dQ _ _ _) ?_|refine aQ (dQ _ _ _) ?_|simp[d,aw,hi,f,g1]);all_goals simp[b0,ba,bd,a1]
  have f:decide (0<=b.v/\b.v<=100000)=true:=by simp only[gu];exact g1
  by_cases g2:b.k=2\/b.k=3;rotate_left
  ·rw[q (fun h=>g2 (p h).2)];have g21:(b.k !=2)=true:=by simp;omega
   have g22:(b.k !=3)=true:=by simp;omega
   by_cases a:0<i
   ·have g:¬b.v<=c.v:=by simp[a]at n;omega
    simp[hi,d,aw];(repeat' first|refine aq ?_|refine aP (dQ _ _ _) ?_|refine aQ (dQ _ _ _) ?_|simp[d,aw,hi,a,g,f,g1,g21,g22]);all_goals simp[b0,ba,bd,a1]
   ·obtain rfl:i=0:=Ω
    simp[hi,d,aw];(repeat' first|refine aq ?_|refine aP (dQ _ _ _) ?_|refine aQ (dQ _ _ _) ?_|simp[d,aw,hi,f,g1,g21,g22]);all_goals simp[b0,ba,bd,a1]
  have o:=du (u ⟨g1,g2⟩ fun a=>by simp[a]at n;omega);have r:((b.k !=2)=false)\/((b.k !=2)=true/\(b.k !=3)=false):=by
   rcases g2 with h|h
   ·left;simp[h]
   ·right;simp[h]
  rcases r with g21|⟨g21,g22⟩
  ·by_cases a:0<i
   ·have g:¬b.v<=c.v:=by simp[a]at n;omega
    simp[hi,d,aw];(repeat' first|refine aq ?_|refine aP (dQ _ _ _) ?_|refine aQ (dQ _ _ _) ?_|simp[d,aw,hi,a,g,f,g1,g21]);all_goals exact bV.rng () hi o cc
   ·obtain rfl:i=0:=Ω
    simp[hi,d,aw];(repeat' first|refine aq ?_|refine aP (dQ _ _ _) ?_|refine aQ (dQ _ _ _) ?_|simp[d,aw,hi,f,g1,g21]);all_goals exact bV.rng () hi o cc
  ·by_cases a:0<i
   ·have g:¬b.v<=c.v:=by simp[a]at n;omega
    simp[hi,d,aw];(repeat' first|refine aq ?_|refine aP (dQ _ _ _) ?_|refine aQ (dQ _ _ _) ?_|simp[d,aw,hi,a,g,f,g1,g21,g22]);all_goals exact bV.rng () hi o cc
   ·obtain rfl:i=0:=Ω
    simp[hi,d,aw];(repeat' first|refine aq ?_|refine aP (dQ _ _ _) ?_|refine aQ (dQ _ _ _) ?_|simp[d,aw,hi,f,g1,g21,g22]);all_goals exact bV.rng () hi o cc
def mH(a b:bn):bX au 147 [a.e,b.e] (.bool (iJ gb a b)):=by
 rw[<-Ya];have bu:uX a b=(decide (a.v<b.v)||(a.v==b.v&&iq a.s b.s)):=rfl;rcases Int.lt_trichotomy a.v b.v with h|h|h
 ·have:uX a b=true:=by rw[bu];simp[h]
  rw[this];refine bL a7 Tryz.func147 Oy fun c=>?_;unfold Gq;exact cB
 ·have J:¬a.v<b.v:=Ω
  have U:(a.v==b.v)=true:=by simp[h]
  have:uX a b=iq a.s b.s:=by rw[bu];simp[h]
  rw[this];refine bL a7 Tryz.func147 Oy fun c=>?_;unfold Gq;exact cB
 ·have J:¬a.v<b.v:=Ω
  have U:¬a.v=b.v:=Ω
  have d:(a.v==b.v)=false:=by simp[U]
  have:uX a b=false:=by rw[bu];simp[J,U]
  rw[this];refine bL a7 Tryz.func147 Oy fun c=>?_;unfold Gq;exact cB
def WC(l:List Bt)(i:Nat)(_:Unit):Prop:= ∀j,j<i->B1 l j
open Classical in
def arv(l:List Bt):bX au 145 [bK (l.map Bt.e)] (.bool (decide (Am l))):=by
 generalize bu:decide (Am l)=R;refine bL a7 Tryz.func145 aoc fun r=>?_;unfold S4;have t:l.length<=68719476736:=by simp[eP,eU,eQ,lim]at r;omega
 simp;refine eY [0,5,6] (fun i (_:Unit)=>[(7,aj i)]) l.length (WC l) () cc (fun k w=>Ω) (fun _ f _=>?_) (fun i _ hi f _=>?_)
 ·have:R=decide (l.length<=400):=by rw[<-bu,decide_eq_decide];exact⟨fun h=>h.1,fun h=>⟨h,fun j g=>f j g⟩⟩
  rw[this];simp;(repeat' first|refine aq ?_|simp);simp[b0,ba,bd,a1];all_goals(first|done|omega|(simp;done)|(simp;omega))
 ·obtain⟨b,a⟩:∃b,l[i]? =some b:=⟨_,cl hi⟩;obtain⟨c,aw⟩:∃c,l[i-1]? =some c:=⟨_,cl Ω⟩;have n:∀h,(l[i]'h)=b:=fun h=>by rw[cl hi]at a;exact e7 a
  have p:¬B1 l i->R=false:=fun h=>by rw[<-bu,iL];exact fun d=>h (d.2 i hi)
  have du:B1 l i->WC l (i+1) ():=fun h j g=>by
   by_cases e:j=i
   ·rw[e];exact h
   ·exact f j Ω
  simp[hi,n,aw];((repeat' first|refine aq ?_|refine aP (dQ _ _ _) ?_|refine aQ (dQ _ _ _) ?_|refine aP (ab1 _) ?_|refine aQ (ab1 _) ?_|simp[n,aw,hi]|((first|apply cu|apply cy|apply cx)<;>intro h<;>try simp at h))<;>(try exact c4));all_goals first
   |(have s:¬B1 l i:=by(intro d;have J:=d b a;have U:=J.2.1 c;have q:=J.2.2;first|omega|(have x:=U Ω aw;omega)|(rw[q]at h;cases h)|(simp_all;done)|(simp_all;omega))
     rw[p s]
     simp[b0,ba,bd,a1]
     done)
   |(refine bV.rng () hi (du fun b7 o=>?_) ?_
     ·rw[a]at o;cases o
      refine⟨?_,fun u v m=>?_,?_⟩
      ·omega
      ·rw[aw]at m;cases m;omega
      ·first|assumption|simp_all
     ·exact cc)
def nO(n:Int):List Int->List Int
 |[]=>[n]
 |c::l=>if c<n then c::nO n l else if c=n then c::l else n::c::l
def vi(l:List Int):Prop:=l.Pairwise (· < ·)
def Wt(n:Int):∀(l:List Int) (k:Nat),(∀i c,i<k->l[i]? =some c->c<n)->(∀c,l[k]? =some c->n<=c)->k<=l.length->nO n l=if l[k]? =some n then l else l.take k++n::l.drop k
 |[],k,_,_,a=>by simp at a;subst a;rfl
 |c::l,0,_,U,_=>by
  have:=U c rfl;by_cases e:c=n
  ·simp[nO,e]
  ·have g:¬c<n:=Ω
   simp[nO,g,e]
 |c::l,k+1,J,U,a=>by have f:=J 0 c Ω rfl;simp only[nO,if_pos f,List.take_succ_cons,List.drop_succ_cons,b3,List.getElem?_cons_succ];rw[Wt n l k (fun i d hi b=>J (i+1) d Ω (by simpa using b)) (fun d b=>U d (by simpa using b)) (by simpa using a)];split<;>rfl
def NR{n m:Int}:∀{l:List Int},m∈nO n l↔m=n\/m∈l
 |[]=>by simp[nO]
 |c::l=>by
  simp only[nO];split
  ·simp only[gK,NR (l:=l)];constructor
   ·rintro(h|h|h)
    ·exact .inr (.inl h)
    ·exact .inl h
    ·exact .inr (.inr h)
   ·rintro(h|h|h)
    ·exact .inr (.inl h)
    ·exact .inl h
    ·exact .inr (.inr h)
  ·split
   ·rename_i h;subst h;simp
   ·simp
def Ws{n:Int}:∀{l:List Int},vi l->vi (nO n l)
 |[],_=>by simp[nO,vi]
 |c::l,h=>by
  obtain⟨J,U⟩:=n3.1 h;simp only[nO];split
  ·rename_i a;refine n3.2 ⟨fun m hm=>?_,Ws U⟩;rcases NR.1 hm with rfl|hm
   ·exact a
   ·exact J m hm
  ·split
   ·exact h
   ·refine n3.2 ⟨fun m hm=>?_,h⟩;rcases gK.1 hm with rfl|hm
    ·omega
    ·have:=J m hm;omega
def Wu(n:Int):∀l:List Int,(nO n l).length<=l.length+1
 |[]=>by simp[nO]
 |c::l=>by
  have:=Wu n l;simp only[nO];split
  ·simp;omega
  ·split<;>simp
def Ec(l:List Int)(i:Nat):(eZ l)[i]? =(l[i]?).map (af.int .i64):=by simp[eZ]
def fJ(l:List Int):(eZ l).length=l.length:=by simp[eZ]
def z7:∀l:List Int,cf (eZ l)=eZ l
 |[]=>by simp[eZ,cf]
 |a::l=>by have:=z7 l;simp only[eZ,hc,cf,b5]at this⊢;rw[this]
def HJ(l:List Int)(n:Int)(k:Nat):cf (mJ k (eZ l)++af.int .i64 n::oK k (mJ l.length (eZ l)))=eZ (mJ k l++n::oK k l):=by
 have e:mJ l.length (eZ l)=eZ l:=iE (by simp[eZ]);have a:mJ k (eZ l)++af.int .i64 n::oK k (eZ l)=eZ (mJ k l++n::oK k l):=by simp only[eZ,List.map_append,hc,List.map_take,List.map_drop]
 rw[e,a];exact z7 _
def arp(l:List Int)(n:Int)(K:l.length<=1000000)(F:vi l):bX au 126 [cV (eZ l),aj n] (cV (eZ (nO n l))):=by
 refine bL a7 Tryz.func126 an2 fun L=>?_;unfold SR;simp;refine w2 [0,1] (fun(k:Nat)=>[(5,aj k)]) (fun k=>k) (fun k=>k<=l.length/\∀c,l[k]? =some c->n<=c) l.length cc ⟨Ω,fun c h=>by simp at h⟩ (fun k v _=>?_);obtain⟨G,v⟩:=v;have B:(∀c,0<k->l[k-1]? =some c->c<n)->nO n l=if l[k]? =some n then l else l.take k++n::l.drop k:=fun h=>Wt n l k (fun i c hi aw=>by
  obtain⟨d,f⟩:∃d,l[k-1]? =some d:=⟨_,cl Ω⟩;have J:=h d Ω f;rcases Nat.lt_or_ge i (k-1)with U|U
  ·have w:=(fM.1 aw);have x:=(fM.1 f);have:=qS.1 F i (k-1) w.1 x.1 U;rw[w.2,x.2]at this;omega
  ·have:i=k-1:=Ω
   subst this;rw[f]at aw;cases aw;exact J) v G
 have y:∀c,l[k]? =some c->∀h,((eZ l)[k]'h)=aj c:=fun c h u=>by have:=Ec l k;rw[h,cl u]at this;exact e7 this
 have z:(0<k->∃d,l[k-1]? =some d/\d<n)->∀P:Prop,(nO n l=(if l[k]? =some n then l else l.take k++n::l.drop k)->P)->P:=fun h P H=>H (B fun c A aw=>by obtain⟨d,f,J⟩:=h A;rw[f]at aw;cases aw;exact J)
 rcases Nat.eq_zero_or_pos k with A|m
 ·have s:decide ((0:Int)<k)=false:=by simp;omega
  refine z (fun h=>Ω) _ fun e=>?_;by_cases a:k<l.length
  ·obtain⟨c,aw⟩:∃c,l[k]? =some c:=⟨_,cl a⟩;have t:=y c aw;rw[aw]at e;by_cases q:c=n
   ·have r:(c==n)=true:=by simp[q]
    rw[if_pos (by rw[q])]at e;rw[e];simp[s,a];((repeat' first|refine aq ?_|simp[s,a,t,r]|((first|apply cu|apply cy|apply cx)<;>intro h<;>try simp at h))<;>(try exact c4));all_goals simp[b0,ba,bd,a1]
   ·have r:(c==n)=false:=by simp[q]
    rw[if_neg (by simp[q])]at e;rw[e];simp[s,a];((repeat' first|refine aq ?_|simp[s,a,t,r]|((first|apply cu|apply cy|apply cx)<;>intro h<;>try simp at h))<;>(try exact c4));all_goals simp[b0,ba,bd,a1]
    all_goals exact HJ l n k
  ·rw[qQ Ω]at e;simp only[reduceCtorEq,if_false]at e;rw[e];simp[s,a];((repeat' first|refine aq ?_|simp[s,a]|((first|apply cu|apply cy|apply cx)<;>intro h<;>try simp at h))<;>(try exact c4));all_goals simp[b0,ba,bd,a1]
   all_goals exact HJ l n k
 ·obtain⟨d,f⟩:∃d,l[k-1]? =some d:=⟨_,cl Ω⟩;have o:((k:Int)-1).toNat=k-1:=Ω
  have p:∀h,((eZ l)[k-1]'h)=aj d:=fun u=>by have:=Ec l (k-1);rw[f,cl u]at this;exact e7 this
  have j:(0:Int)<k:=Ω
  have g:k-1<l.length:=Ω
  by_cases b:n<=d
  ·simp[m,j,o,p,b,g];(repeat' first|refine aq ?_|simp[m,j,o,p,b,g]);refine bV.whl (k-1) Ω ⟨Ω,fun c aw=>by rw[f]at aw;cases aw;exact b⟩ ?_;have E:((k-1:Nat):Int)=(k:Int)-1:=Ω
   simp[E];exact cc
  ·refine z (fun _=>⟨d,f,Ω⟩) _ fun e=>?_;by_cases a:k<l.length
   ·obtain⟨c,aw⟩:∃c,l[k]? =some c:=⟨_,cl a⟩;have t:=y c aw;rw[aw]at e;by_cases q:c=n
    ·have r:(c==n)=true:=by simp[q]
     rw[if_pos (by rw[q])]at e;rw[e];simp[m,j,o,p,b,g,a];((repeat' first|refine aq ?_|simp[m,j,o,p,b,g,a,t,r]|((first|apply cu|apply cy|apply cx)<;>intro h<;>try simp at h))<;>(try exact c4));all_goals simp[b0,ba,bd,a1]
    ·have r:(c==n)=false:=by simp[q]
     rw[if_neg (by simp[q])]at e;rw[e];simp[m,j,o,p,b,g,a];(repeat' first|refine aq ?_|simp[m,j,o,p,b,g,a,t,r]);all_goals simp[b0,ba,bd,a1]
     all_goals exact HJ l n k
   ·rw[qQ Ω]at e;simp only[reduceCtorEq,if_false]at e;rw[e];simp[m,j,o,p,b,g,a];(repeat' first|refine aq ?_|simp[m,j,o,p,b,g,a]);all_goals simp[b0,ba,bd,a1]
    all_goals exact HJ l n k
def js:T->List Int->List Int
 | .var n,l=>nO n l
 | .pair a b,l=>js b (js a l)
 |_,l=>l
def Qh:∀(t:T) {l:List Int},vi l->vi (js t l)
 | .var _,_,h=>Ws h
 | .pair a b,_,h=>Qh b (Qh a h)
 | .nil,_,h=>h
 | .sym _,_,h=>h
 | .num _,_,h=>h
def Ih{m:Int}:∀(t:T) {l:List Int},m∈js t l↔t.occ m=true\/m∈l
 | .var n,l=>by simp only[js,NR,T.occ,ey];constructor<;>rintro(h|h)<;>first|exact .inr h|exact .inl h.symm
 | .pair a b,l=>by
  simp only[js,Ih b,Ih a,T.occ,n2];constructor
  ·rintro(h|h|h)
   ·exact .inl (.inr h)
   ·exact .inl (.inl h)
   ·exact .inr h
  ·rintro((h|h)|h)
   ·exact .inr (.inl h)
   ·exact .inl h
   ·exact .inr (.inr h)
 | .nil,l=>by simp[js,T.occ]
 | .sym _,l=>by simp[js,T.occ]
 | .num _,l=>by simp[js,T.occ]
def FE:∀(t:T) (l:List Int),(js t l).length<=l.length+t.size
 | .var n,l=>by have:=Wu n l;simp only[js,T.size];omega
 | .pair a b,l=>by have J:=FE a l;have U:=FE b (js a l);simp only[js,T.size];omega
 | .nil,l=>by simp[js]
 | .sym _,l=>by simp[js]
 | .num _,l=>by simp[js]
def JL:∀(t:T) (l:List Int),l.length+t.size<=1000000->vi l->bX au 58 [t.e,cV (eZ l)] (cV (eZ (js t l)))
 | .var n,l,d,c=>by
  simp only[T.size]at d;have key:=arp l n Ω c;refine bL a7 Tryz.func58 EM fun e=>?_;unfold AA;simp;(repeat' first|refine aq ?_|refine aP key ?_|refine aQ key ?_|simp);all_goals simp[b0,ba,bd,a1]
  all_goals simp[js,z7]
 | .pair a b,l,d,c=>by
  simp only[T.size]at d;have j:=FE a l;have f:=JL a l Ω c;have g:=JL b (js a l) Ω (Qh a c);refine bL a7 Tryz.func58 EM fun e=>?_;unfold AA;simp;refine eY [15,16] (fun i (_:Unit)=>[(1,cV (eZ (if i=0 then l else if i=1 then js a l else js b (js a l)))),(17,aj i)]) 2 (fun _ _=>True) () cc trivial (fun _ _ _=>?_) (fun i _ hi _ _=>?_)
  ·simp;(repeat' first|refine aq ?_|simp);simp[b0,ba,bd,a1];simp[js,z7]
  ·rcases(by omega:i=0\/i=1)with rfl|rfl
   ·simp;((repeat' first|refine aq ?_|refine aP f ?_|refine aQ f ?_|simp|((first|apply cu|apply cy|apply cx)<;>intro h<;>try simp at h))<;>(try exact c4));exact bV.rng () hi trivial cc
   ·simp;((repeat' first|refine aq ?_|refine aP g ?_|refine aQ g ?_|simp|((first|apply cu|apply cy|apply cx)<;>intro h<;>try simp at h))<;>(try exact c4));exact bV.rng () hi trivial cc
 | .nil,l,d,c=>by refine bL a7 Tryz.func58 EM fun e=>?_;unfold AA;simp;refine eY [15,16] (fun i (_:Unit)=>[(1,cV (eZ l)),(17,aj i)]) 0 (fun _ _=>True) () cc trivial (fun _ _ _=>?_) (fun i _ hi _ _=>Ω);simp;((repeat' first|refine aq ?_|simp|((first|apply cu|apply cy|apply cx)<;>intro h<;>try simp at h))<;>(try exact c4));simp[b0,ba,bd,a1];simp[js,z7]
 | .sym _,l,d,c=>by refine bL a7 Tryz.func58 EM fun e=>?_;unfold AA;simp;refine eY [15,16] (fun i (_:Unit)=>[(1,cV (eZ l)),(17,aj i)]) 0 (fun _ _=>True) () cc trivial (fun _ _ _=>?_) (fun i _ hi _ _=>Ω);simp;(repeat' first|refine aq ?_|simp);simp[b0,ba,bd,a1];simp[js,z7]
 | .num _,l,d,c=>by refine bL a7 Tryz.func58 EM fun e=>?_;unfold AA;simp;refine eY [15,16] (fun i (_:Unit)=>[(1,cV (eZ l)),(17,aj i)]) 0 (fun _ _=>True) () cc trivial (fun _ _ _=>?_) (fun i _ hi _ _=>Ω);simp;(repeat' first|refine aq ?_|simp);simp[b0,ba,bd,a1];simp[js,z7]
def akR(s:List cW)(a b:T)(i:Nat)(_:Unit):Prop:=(1<=i->a.has s=false)/\(2<=i->b.has s=false)
def Qc(s:List cW):∀t:T,bX au 210 [t.e,.str s] (.bool (t.has s))
 | .pair a b=>by
  have e:=Qc s a;have d:=Qc s b;refine bL a7 Tryz.func210 EN fun j=>?_;unfold AB;simp;refine eY [1,2,8,9] (fun i (_:Unit)=>[(10,aj i)]) 2 (akR s a b) () cc ⟨fun h=>Ω,fun h=>Ω⟩ (fun _ c _=>?_) (fun i _ hi c _=>?_)
  ·simp;(repeat' first|refine aq ?_|simp);simp[b0,ba,bd,a1];simp[T.has,c.1,c.2]
  ·rcases(by omega:i=0\/i=1)with rfl|rfl
   ·cases f:a.has s
    ·rw[f]at e;simp;((repeat' first|refine aq ?_|refine aP e ?_|refine aQ e ?_|simp|((first|apply cu|apply cy|apply cx)<;>intro h<;>try simp at h))<;>(try exact c4));exact bV.rng () hi ⟨fun _=>f,fun h=>Ω⟩ cc
    ·rw[f]at e;simp;((repeat' first|refine aq ?_|refine aP e ?_|refine aQ e ?_|simp|((first|apply cu|apply cy|apply cx)<;>intro h<;>try simp at h))<;>(try exact c4));simp[b0,ba,bd,a1];simp[T.has,f]
   ·cases g:b.has s
    ·rw[g]at d;simp;((repeat' first|refine aq ?_|refine aP d ?_|refine aQ d ?_|simp|((first|apply cu|apply cy|apply cx)<;>intro h<;>try simp at h))<;>(try exact c4));exact bV.rng () hi ⟨fun _=>c.1 Ω,fun _=>g⟩ cc
    ·rw[g]at d;simp;((repeat' first|refine aq ?_|refine aP d ?_|refine aQ d ?_|simp|((first|apply cu|apply cy|apply cx)<;>intro h<;>try simp at h))<;>(try exact c4));simp[b0,ba,bd,a1];simp[T.has,g]
 | .sym n=>by
  refine bL a7 Tryz.func210 EN fun j=>?_;unfold AB;simp;refine eY [1,2,8,9] (fun i (_:Unit)=>[(10,aj i)]) 0 (fun i _=>True) () cc trivial (fun _ c _=>?_) (fun i _ hi c _=>Ω);simp;(repeat' first|refine aq ?_|simp);all_goals simp[b0,ba,bd,a1]
  all_goals simp[T.has]
 | .num n=>by
  refine bL a7 Tryz.func210 EN fun j=>?_;unfold AB;simp;refine eY [1,2,8,9] (fun i (_:Unit)=>[(10,aj i)]) 0 (fun i _=>True) () cc trivial (fun _ c _=>?_) (fun i _ hi c _=>Ω);simp;(repeat' first|refine aq ?_|simp);all_goals simp[b0,ba,bd,a1]
  all_goals simp[T.has]
 | .var n=>by
  refine bL a7 Tryz.func210 EN fun j=>?_;unfold AB;simp;refine eY [1,2,8,9] (fun i (_:Unit)=>[(10,aj i)]) 0 (fun i _=>True) () cc trivial (fun _ c _=>?_) (fun i _ hi c _=>Ω);simp;(repeat' first|refine aq ?_|simp);all_goals simp[b0,ba,bd,a1]
  all_goals simp[T.has]
 | .nil=>by
  refine bL a7 Tryz.func210 EN fun j=>?_;unfold AB;simp;refine eY [1,2,8,9] (fun i (_:Unit)=>[(10,aj i)]) 0 (fun i _=>True) () cc trivial (fun _ c _=>?_) (fun i _ hi c _=>Ω);simp;(repeat' first|refine aq ?_|simp);all_goals simp[b0,ba,bd,a1]
  all_goals simp[T.has]
def pX(l:List bG)(o:bc (List bG)):af:= .tuple [b4 ((o.getD l).map bG.e),.bool o.isSome]
@[simp]def au6(S:aA->Prop)(l:List bG)(o:bc (List bG)):az S (pX l o)=True:=by simp[pX]
def xF(l:List bG)(n:Int)(i:Nat):Prop:=i<=l.length/\∀j y,j<i->l[j]? =some y->y.v<n
def xF.none{l:List bG}{n:Int}{i:Nat}(h:xF l n i)(d:l.Pairwise fun x y=>x.v<y.v)(aw:∀c,l[i]? =some c->n<c.v):nk l n=none:=El.2 fun x f=>by
 obtain⟨j,a,rfl⟩:=pk f;have e:=cl a;rcases Nat.lt_or_ge j i with J|J
 ·have:=h.2 j _ J e;omega
 ·have b:i<l.length:=Ω
  have g:=cl b;have k:=aw _ g;rcases Nat.lt_or_ge i j with U|U
  ·have:=qS.1 d i j b a U;omega
  ·obtain rfl:i=j:=Ω
   omega
def xF.ins{l:List bG}{n k:Int}{i:Nat}(h:xF l n i)(aw:∀c,l[i]? =some c->n<c.v):ni ⟨n,k⟩ l=l.take i++⟨n,k⟩::l.drop i:=Wv ⟨n,k⟩ l i (fun j y J U=>h.2 j y J U) (fun y a=>by have:=aw y a;simp;omega) h.1
def xF.step{l:List bG}{n:Int}{i:Nat}{b:bG}(h:xF l n i)(a:l[i]? =some b)(d:b.v<n):xF l n (i+1):=⟨(fM.1 a).1,fun j y J U=>by
 rcases(by omega:j<i\/j=i)with c|rfl
 ·exact h.2 j y c U
 ·rw[a]at U;cases U;exact d⟩
def arG(l:List bG)(r:l.length<=1000000)(f:l.Pairwise fun x y=>x.v<y.v)(n k:Int):bX au 151 [b4 (l.map bG.e),(T.var n).e,aj k] (pX l (kY l (.var n) k)):=by
 generalize o:kY l (.var n) k=O;have a:(match nk l n with|some bt=>if bt=k then some l else none|none=>some (ni ⟨n,k⟩ l))=O:=by rw[<-o];rfl
 clear o;refine bL a7 Tryz.func151 EO fun t=>?_;unfold AD;simp;refine w2 [0,2,4] (fun(i:Nat)=>[(8,aj i)]) (fun i=>l.length-i) (xF l n) 0 cc ⟨Ω,fun j y h=>Ω⟩ (fun i d _=>?_);have s:=d.1;by_cases hi:i<l.length
 ·obtain⟨b,m,g⟩:=eX hi;rcases Int.lt_trichotomy b.v n with h|h|h
  ·have p:=d.step m h;clear a d m f;simp[hi,g,h];((repeat' first|refine aq ?_|simp[hi,g,h]|((first|apply cu|apply cy|apply cx)<;>intro h<;>try simp at h))<;>(try exact c4));exact bV.whl (i+1) Ω p cc
  ·have be:nk l n=some b.k:=by rw[<-h];exact Nj f (fx m)
   have J:¬b.v<n:=Ω
   have U:(b.v==n)=true:=by simp[h]
   rw[be]at a;simp only at a;subst a;clear d m f be;simp[hi,g,J,U];(repeat' first|refine aq ?_|simp[hi,g,J,U]);all_goals simp[b0,ba,bd,a1]
   all_goals(by_cases e:b.k=k<;>simp[pX,e])
  ·have J:¬b.v<n:=Ω
   have U:(b.v==n)=false:=by simp;omega
   have aw:∀c,l[i]? =some c->n<c.v:=fun c aw=>by rw[m]at aw;cases aw;exact h
   rw[d.none f aw]at a;simp only[d.ins aw]at a;subst a;clear d m f aw;simp[hi,g,J,U];(repeat' first|refine aq ?_|simp[hi,g,J,U]);all_goals simp[b0,ba,bd,a1]
   all_goals simp[pX]
   rw[iE (by simp:(l.map bG.e).length<=l.length),<-List.map_take,<-List.map_drop,<-hc,<-List.map_append];exact PL _
 ·have aw:∀c,l[i]? =some c->n<c.v:=fun c aw=>by rw[qQ Ω]at aw;cases aw
  rw[d.none f aw]at a;simp only[d.ins aw]at a;have q:i=l.length:=Ω
  clear d f aw;subst a;subst q;simp;(repeat' first|refine aq ?_|simp);all_goals simp[b0,ba,bd,a1]
  all_goals simp[pX]
  rw[iE (by simp:(l.map bG.e).length<=l.length),show [(⟨n,k⟩:bG).e]=[(⟨n,k⟩:bG)].map bG.e from rfl,<-List.map_append];exact PL _
def abV(l:List bG)(f:l.length<=1000000)(d:l.Pairwise fun x y=>x.v<y.v)(t:T)(k:Int):bX au 151 [b4 (l.map bG.e),t.e,aj k] (pX l (kY l t k)):=by
 cases t with
 |var n=>exact arG l f d n k
 |nil=>
  refine bL a7 Tryz.func151 EO fun c=>?_;unfold AD;simp;(repeat' first|refine aq ?_|simp);all_goals simp[b0,ba,bd,a1]
  all_goals(by_cases e:0=k<;>simp[pX,kY,e])
 |sym n=>
  refine bL a7 Tryz.func151 EO fun c=>?_;unfold AD;simp;(repeat' first|refine aq ?_|simp);all_goals simp[b0,ba,bd,a1]
  all_goals(by_cases e:2=k<;>simp[pX,kY,e])
 |num n=>
  refine bL a7 Tryz.func151 EO fun c=>?_;unfold AD;simp;(repeat' first|refine aq ?_|simp);all_goals simp[b0,ba,bd,a1]
  all_goals(by_cases e:3=k<;>simp[pX,kY,e])
 |pair a b=>
  refine bL a7 Tryz.func151 EO fun c=>?_;unfold AD;simp;(repeat' first|refine aq ?_|simp);all_goals simp[b0,ba,bd,a1]
  all_goals(by_cases e:4=k<;>simp[pX,kY,e])
def ab7(s:List Bd)(v:Int):ie s (.var v)=cO s v:=rfl
def Qd{s:List Bd}(m:fm s){l:List bG}(k:ht l):bX au 149 [bK (s.map Bd.e),b4 (l.map bG.e)] (qJ (gO s l [])):=by
 have o:=ti k;refine bL a7 Tryz.func149 aok fun p=>?_;unfold Tc;simp;refine eY [0,11,12] (fun i (a:List bG)=>[(6,b4 (a.map bG.e)),(13,aj i)]) l.length (WA s l) [] cc ⟨⟨Ψ,Ψ⟩,rfl⟩ (fun a c _=>?_) (fun i a hi c _=>?_)
 ·obtain⟨_,c⟩:=c;rw[List.drop_length]at c;simp only[gO]at c;rw[<-c];simp;(repeat' first|refine aq ?_|simp);simp[b0,ba,bd,a1];simp[qJ]
 ·obtain⟨h,c⟩:=c;obtain⟨b,n,f⟩:=eX hi;have j:=k.at' b (fx n);rw[lA hi,f]at c;simp only[gO]at c;have e:=JM s m.len (.var b.v);rw[ab7]at e;have d:=abV a (by have:=ti h;omega) h.asc (cO s b.v) b.k;simp[hi,f];cases g:kY a (cO s b.v) b.k with
  |none=>rw[g]at c d;simp only at c;rw[<-c];simp only[pX]at d;(repeat' first|refine aq ?_|refine aP (kX _) ?_|refine aQ (kX _) ?_|refine aP e ?_|refine aQ e ?_|refine aP d ?_|refine aQ d ?_|simp[f,hi]);simp[b0,ba,bd,a1];simp[qJ]
  |some bs=>rw[g]at c d;simp only[pX]at d;(repeat' first|refine aq ?_|refine aP (kX _) ?_|refine aQ (kX _) ?_|refine aP e ?_|refine aQ e ?_|refine aP d ?_|refine aQ d ?_|simp[f,hi]);exact bV.rng bs hi ⟨Kc h (Cs m j.1) j.2 g,c⟩ cc
open Classical in
def arU(l:List bn):bX au 79 [b4 (l.map bn.e)] (.bool (decide (jK l))):=by
 generalize bu:decide (jK l)=R;refine bL a7 Tryz.func79 anW fun y=>?_;unfold SL;have A:l.length<=68719476736:=by simp[eP,eU,eQ,lim]at y;omega
 simp;refine eY [0,5,6] (fun i (_:Unit)=>[(7,aj i)]) l.length (fun i _=> ∀j,j<i->iZ kS ll l j) () cc (fun k E=>Ω) (fun _ s _=>?_) (fun i _ hi s _=>?_)
 ·have:R=true:=by rw[<-bu,gu,Ib];exact s
  rw[this];exact cB
 ·obtain⟨b,n⟩:∃b,l[i]? =some b:=⟨_,cl hi⟩;obtain⟨c,aw⟩:∃c,l[i-1]? =some c:=⟨_,cl Ω⟩;have d:∀h,(l[i]'h)=b:=fun h=>by rw[cl hi]at n;exact e7 n
  have v:¬iZ kS ll l i->R=false:=fun h=>by rw[<-bu,iL];exact fun w=>h (Ib.1 w i hi)
  have du:iZ kS ll l i->∀j,j<i+1->iZ kS ll l j:=fun h j z=>by
   by_cases e:j=i
   ·rw[e];exact h
   ·exact s j Ω
  have m:∀p:Prop,(p->et)->(iZ kS ll l i->p)->R=false:=fun p J U=>v fun h=>J (U h);have g:iZ kS ll l i->kS b:=fun h=>(h b n).1;have x:iZ kS ll l i->0<i->iJ gb c b=true:=fun h r=>by simpa[iJ,ll]using(h b n).2 c r aw
  have q:kS b->(0<i->iJ gb c b=true)->iZ kS ll l i:=fun J U b7 u=>by rw[n]at u;cases u;exact⟨J,fun B r t=>by rw[aw]at t;cases t;simpa[iJ,ll]using U r⟩
  unfold kS at g q;by_cases g4:0<i
  ·cases g5:iJ gb c b
   ·rw[m _ (fun h=>by rw[h]at g5;cases g5) (fun h=>x h g4)];simp[hi,d,aw];(repeat' first|refine aq ?_|refine aP (mH _ _) ?_|refine aQ (mH _ _) ?_|simp[d,aw,hi,g4,g5]);all_goals simp[b0,ba,bd,a1]
   ·by_cases g1:0<=b.v/\b.v<=100000;rotate_left
    ·rw[m _ (fun h=>g1 h) (fun h=>(g h).1)];have f:decide (0<=b.v/\b.v<=100000)=false:=by simp only[iL];exact g1
     simp[hi,d,aw];(repeat' first|refine aq ?_|refine aP (mH _ _) ?_|refine aQ (mH _ _) ?_|refine aP (dQ _ _ _) ?_|refine aQ (dQ _ _ _) ?_|simp[d,aw,hi,g4,g5,f,g1]);all_goals simp[b0,ba,bd,a1]
    have f:decide (0<=b.v/\b.v<=100000)=true:=by simp only[gu];exact g1
    cases g3:kn b.s
    ·rw[m _ (fun h=>by rw[h]at g3;cases g3) (fun h=>(g h).2)];have a:=hY b.s;rw[g3]at a;simp[hi,d,aw];(repeat' first|refine aq ?_|refine aP (mH _ _) ?_|refine aQ (mH _ _) ?_|refine aP (dQ _ _ _) ?_|refine aQ (dQ _ _ _) ?_|refine aP a ?_|refine aQ a ?_|simp[d,aw,hi,g4,g5,f,g1]);all_goals simp[b0,ba,bd,a1]
    have a:=hY b.s;rw[g3]at a;have o:=du (q ⟨g1,g3⟩ fun _=>g5);simp[hi,d,aw];(repeat' first|refine aq ?_|refine aP (mH _ _) ?_|refine aQ (mH _ _) ?_|refine aP (dQ _ _ _) ?_|refine aQ (dQ _ _ _) ?_|refine aP a ?_|refine aQ a ?_|simp[d,aw,hi,g4,g5,f,g1]);all_goals exact bV.rng () hi o cc
  ·obtain rfl:i=0:=Ω
   by_cases g1:0<=b.v/\b.v<=100000;rotate_left
   ·rw[m _ (fun h=>g1 h) (fun h=>(g h).1)];have f:decide (0<=b.v/\b.v<=100000)=false:=by simp only[iL];exact g1
    simp[hi,d,aw];(repeat' first|refine aq ?_|refine aP (mH _ _) ?_|refine aQ (mH _ _) ?_|refine aP (dQ _ _ _) ?_|refine aQ (dQ _ _ _) ?_|simp[d,aw,hi,g4,f,g1]);all_goals simp[b0,ba,bd,a1]
   have f:decide (0<=b.v/\b.v<=100000)=true:=by simp only[gu];exact g1
   cases g3:kn b.s
   ·rw[m _ (fun h=>by rw[h]at g3;cases g3) (fun h=>(g h).2)];have a:=hY b.s;rw[g3]at a;simp[hi,d,aw];(repeat' first|refine aq ?_|refine aP (mH _ _) ?_|refine aQ (mH _ _) ?_|refine aP (dQ _ _ _) ?_|refine aQ (dQ _ _ _) ?_|refine aP a ?_|refine aQ a ?_|simp[d,aw,hi,g4,f,g1]);all_goals simp[b0,ba,bd,a1]
   have a:=hY b.s;rw[g3]at a;have o:=du (q ⟨g1,g3⟩ fun h=>absurd h g4);simp[hi,d,aw];(repeat' first|refine aq ?_|refine aP (mH _ _) ?_|refine aQ (mH _ _) ?_|refine aP (dQ _ _ _) ?_|refine aQ (dQ _ _ _) ?_|refine aP a ?_|refine aQ a ?_|simp[d,aw,hi,g4,f,g1]);all_goals exact bV.rng () hi o cc
def qk(s:List cW)(bk:List Int)(l:List bn):List bn:=bk.foldl (fun a v=>kQ gb ⟨v,s⟩ a) l
def LG(s:List cW):∀(bk:List Int) {l:List bn},iM gb l->iM gb (qk s bk l)
 |[],_,h=>h
 |v::bk,_,h=>LG s bk (M2 mC h)
def XL(s:List cW){x:bn}:∀(bk:List Int) {l:List bn},x∈qk s bk l↔x∈l\/(x.s=s/\x.v∈bk)
 |[],l=>by simp[qk]
 |v::bk,l=>by
  have:=XL s (x:=x) bk (l:=kQ gb ⟨v,s⟩ l);rw[show qk s (v::bk) l=qk s bk (kQ gb ⟨v,s⟩ l)from rfl,this,If mC,gK];constructor
  ·rintro((rfl|h)|⟨J,U⟩)
   ·exact .inr ⟨rfl,.inl rfl⟩
   ·exact .inl h
   ·exact .inr ⟨J,.inr U⟩
  ·rintro(h|⟨J,U|U⟩)
   ·exact .inl (.inr h)
   ·refine .inl (.inl ?_);cases x;simp_all
   ·exact .inr ⟨J,U⟩
def UD(s:List cW):∀(bk:List Int) (l:List bn),(qk s bk l).length<=l.length+bk.length
 |[],l=>by simp[qk]
 |v::bk,l=>by have J:=UD s bk (kQ gb ⟨v,s⟩ l);have U:=M4 (c:=gb) (⟨v,s⟩:bn) l;rw[show qk s (v::bk) l=qk s bk (kQ gb ⟨v,s⟩ l)from rfl];simp only[mI];omega
def ahv{t:T}{s:List cW}(a:t.has s=false){l:List bn}(b:iM gb l):mP l t s=some (qk s (js t []) l):=Kd a (LG s _ b) fun x=>by rw[XL,Ih];simp
def Eg(l:List bn)(bk:List Int)(s:List cW)(i:Nat)(a:List bn):Prop:=a=qk s (bk.take i) l
def Bz(a:List bn)(m:bn)(k:Nat):Prop:=k<=a.length/\∀j y,j<k->a[j]? =some y->gb y m<0
def Bz.step{a:List bn}{m:bn}{k:Nat}{b:bn}(h:Bz a m k)(c:a[k]? =some b)(e:gb b m<0):Bz a m (k+1):=⟨(fM.1 c).1,fun j y J U=>by
 rcases(by omega:j<k\/j=k)with d|rfl
 ·exact h.2 j y d U
 ·rw[c]at U;cases U;exact e⟩
def Bz.fin{a:List bn}{m:bn}{k:Nat}(h:Bz a m k)(aw:∀y,a[k]? =some y->0<=gb y m):kQ gb m a=if(match a[k]? with|some y=>decide (gb y m=0)|none=>false)=true then a else a.take k++m::a.drop k:=(M3 mC m a k (fun j y J U=>h.2 j y J U) aw h.1).trans (by cases a[k]?<;>rfl)
def XZ(a:List bn)(k:Nat)(m:bn):mJ k (a.map bn.e)++m.e::oK k (a.map bn.e)=(a.take k++m::a.drop k).map bn.e:=Ψ
def BT(a:List bn)(k:Nat)(m:bn):cf (mJ k (a.map bn.e)++m.e::oK k (a.map bn.e))=mJ k (a.map bn.e)++m.e::oK k (a.map bn.e):=by rw[XZ,PM]
def BS(S:aA->Prop)(a:List bn)(k:Nat)(m:bn):aH S (mJ k (a.map bn.e)++m.e::oK k (a.map bn.e))=True:=by rw[XZ,Xa]
def XW(a:List bn)(m:bn):a.map bn.e++[m.e]=(a++[m]).map bn.e:=Ψ
def BR(a:List bn)(m:bn):cf (a.map bn.e++[m.e])=a.map bn.e++[m.e]:=by rw[XW,PM]
def BQ(S:aA->Prop)(a:List bn)(m:bn):aH S (a.map bn.e++[m.e])=True:=by rw[XW,Xa]
def arH(l:List bn)(W:l.length<=68719470000)(t:T)(Y:t.size<=5000)(s:List cW)(J:iM gb l):bX au 181 [b4 (l.map bn.e),t.e,.str s] (jY (mP l t s)):=by
 have g:=Qc s t;cases p:t.has s;rotate_left
 ·have q:mP l t s=none:=by simp[mP,p]
  rw[q];rw[p]at g;refine bL a7 Tryz.func181 YN fun R=>?_;unfold KX;simp;(repeat' first|refine aq ?_|refine aP g ?_|refine aQ g ?_|simp);all_goals simp[b0,ba,bd,a1]
  all_goals simp[jY]
 ·rw[p]at g;have H:=ahv p J;have E:=FE t [];have w:=JL t [] d6 (by simp[vi]);have S:eZ []=[]:=rfl;rw[S]at w;rw[H];clear H p;generalize js t []=bk at w E⊢;have V:bk.length<=5000:=by simp at E;omega
  generalize G:qk s bk l=F;refine bL a7 Tryz.func181 YN fun R=>?_;unfold KX;simp;(repeat' first|refine aq ?_|refine aP g ?_|refine aQ g ?_|refine aP w ?_|refine aQ w ?_|simp[fJ]);refine eY [2,17,18] (fun i (a:List bn)=>[(0,b4 (a.map bn.e)),(19,aj i)]) bk.length (Eg l bk s) l ⟨by simp[fresh,aH,az,cb,aK,ad,fJ],ep (by simp[fresh,aH,az,cb,aK,ad,fJ]),er (by simp[fresh,aH,az,dU,aK,ad,fJ]),Ψ⟩ (by simp[Eg,qk]) (fun a c _=>?_) (fun i a hi c _=>?_)
  ·rw[Eg,jv,G]at c;subst c;simp[fJ];(repeat' first|refine aq ?_|simp[fJ]);all_goals simp[b0,ba,bd,a1]
   all_goals simp[jY]
  ·obtain⟨v,K⟩:∃v,bk[i]? =some v:=⟨_,cl hi⟩;have B:∀h,((eZ bk)[i]'h)=aj v:=fun P=>by have:=Ec bk i;rw[K,cl P]at this;exact e7 this
   have x:iM gb a:=by rw[c];exact LG s _ J
   have N:a.length<=68719475000:=by have:=UD s (bk.take i) l;rw[c];simp at this⊢;omega
   have e:Eg l bk s (i+1) (kQ gb ⟨v,s⟩ a):=by rw[Eg,List.take_succ,K,c];simp[qk]
   generalize hm:(⟨v,s⟩:bn)=m at e;have A:m.v=v:=by rw[<-hm]
   have U:m.s=s:=by rw[<-hm]
   subst A;subst U;clear c G;simp[hi,B,fJ];(repeat' first|refine aq ?_|simp[hi,B,fJ]);refine w2 [0,2,10,17,18,19] (fun(k:Nat)=>[(11,aj k)]) (fun k=>a.length-k) (Bz a m) 0 ⟨by simp[fresh,aH,az,cb,aK,ad,fJ],ep (by simp[fresh,aH,az,cb,aK,ad,fJ]),er (by simp[fresh,aH,az,dU,aK,ad,fJ]),Ψ⟩ ⟨Ω,fun j y h=>Ω⟩ (fun k c _=>?_);have X:=c.1;by_cases f:k<a.length
   ·obtain⟨b,o,n⟩:=eX f;cases r:iJ gb b m
    ·have M:0<=gb b m:=by simpa[iJ]using r
     have d:=c.fin (fun y u=>by rw[o]at u;cases u;exact M);rw[o]at d;cases z:iJ gb m b
     ·have hle:0<=gb m b:=by simpa[iJ]using z
      have q:gb b m=0:=by have:=mC.neg b m;omega
      rw[if_pos (by simp[q])]at d;rw[d]at e;clear c o d N x;simp[f,n];((repeat' first|refine aq ?_|refine aP (mH _ _) ?_|refine aQ (mH _ _) ?_|simp[f,n,r,z]|((first|apply cu|apply cy|apply cx)<;>intro h<;>try simp at h))<;>(try exact c4));all_goals exact bV.rng a hi e ⟨by simp[fresh,aH,az,cb,aK,ad,fJ],ep (by simp[fresh,aH,az,cb,aK,ad,fJ]),er (by simp[fresh,aH,az,dU,aK,ad,fJ]),Ψ⟩
     ·have hle:gb m b<0:=by simpa[iJ]using z
      have q:¬gb b m=0:=by have:=mC.neg b m;omega
      rw[if_neg (by simp[q])]at d;rw[d]at e;clear c o d x;simp[f,n];((repeat' first|refine aq ?_|refine aP (mH _ _) ?_|refine aQ (mH _ _) ?_|simp[f,n,r,z]|((first|apply cu|apply cy|apply cx)<;>intro h<;>try simp at h))<;>(try exact c4));all_goals try refine⟨by unfold lim;omega,?_⟩
      all_goals(repeat' first|refine aq ?_|simp)
      all_goals try refine⟨by unfold lim;omega,?_⟩
      all_goals((repeat' first|refine aq ?_|simp|((first|apply cu|apply cy|apply cx)<;>intro h<;>try simp at h))<;>(try exact c4))
      all_goals exact bV.rng _ hi e ⟨by simp[fresh,aH,az,cb,aK,ad,fJ,iE,BT,BS,BR,BQ],ep (by simp[fresh,aH,az,cb,aK,ad,fJ,iE,BT,BS,BR,BQ]),er (by simp[fresh,aH,az,dU,aK,ad,fJ,iE,BT,BS,BR,BQ]),Ψ⟩
    ·have L:gb b m<0:=by simpa[iJ]using r
     have Q:=c.step o L;clear c o x e;simp[f,n];((repeat' first|refine aq ?_|refine aP (mH _ _) ?_|refine aQ (mH _ _) ?_|simp[f,n,r]|((first|apply cu|apply cy|apply cx)<;>intro h<;>try simp at h))<;>(try exact c4));all_goals exact bV.whl (k+1) Ω Q ⟨by simp[fresh,aH,az,cb,aK,ad,fJ],ep (by simp[fresh,aH,az,cb,aK,ad,fJ]),er (by simp[fresh,aH,az,dU,aK,ad,fJ]),Ψ⟩
   ·have d:=c.fin (fun y u=>by rw[qQ Ω]at u;cases u);rw[qQ Ω]at d;simp only[hN,if_false]at d;rw[d]at e;have O:k=a.length:=Ω
    clear c d x;subst O;simp;(repeat' first|refine aq ?_|simp);all_goals try refine⟨by unfold lim;omega,?_⟩
    all_goals(repeat' first|refine aq ?_|simp)
    all_goals try refine⟨by unfold lim;omega,?_⟩
    all_goals(repeat' first|refine aq ?_|simp)
    all_goals exact bV.rng _ hi e ⟨by simp[fresh,aH,az,cb,aK,ad,fJ,iE,BT,BS,BR,BQ],ep (by simp[fresh,aH,az,cb,aK,ad,fJ,iE,BT,BS,BR,BQ]),er (by simp[fresh,aH,az,dU,aK,ad,fJ,iE,BT,BS,BR,BQ]),Ψ⟩
def Qe{s:List Bd}(j:fm s){l:List bn}(m:jK l){G:List (List cW)}(t:G.length<=687000)(be:oG G l):bX au 150 [bK (s.map Bd.e),b4 (l.map bn.e)] (jY (gS s l [])):=by
 have hlen:∀{a:List bn},jK a->oG G a->a.length<=68719470000:=fun J U=>by have:=Eu J U;omega
 have r:=hlen m be;refine bL a7 Tryz.func150 aol fun u=>?_;unfold Td;simp;refine eY [0,11,12] (fun i (a:List bn)=>[(6,b4 (a.map bn.e)),(13,aj i)]) l.length (WB s G l) [] cc ⟨⟨Ψ,by simp[iM]⟩,fun x p=>by simp at p,rfl⟩ (fun a c _=>?_) (fun i a hi c _=>?_)
 ·obtain⟨_,_,c⟩:=c;rw[List.drop_length]at c;simp only[gS]at c;rw[<-c];simp;(repeat' first|refine aq ?_|simp);simp[b0,ba,bd,a1];simp[jY]
 ·obtain⟨h,o,c⟩:=c;obtain⟨b,n,g⟩:=eX hi;have k:=m.at' b (fx n);have q:=be b (fx n);rw[lA hi,g]at c;simp only[gS]at c;have e:=JM s j.len (.var b.v);rw[ab7]at e;have d:=arH a (hlen h o) (cO s b.v) (Fk j b.v) b.s h.asc;simp[hi,g];cases f:mP a (cO s b.v) b.s with
  |none=>rw[f]at c d;simp only at c;rw[<-c];simp only[jY]at d;(repeat' first|refine aq ?_|refine aP (kX _) ?_|refine aQ (kX _) ?_|refine aP e ?_|refine aQ e ?_|refine aP d ?_|refine aQ d ?_|simp[g,hi]);simp[b0,ba,bd,a1];simp[jY]
  |some bs=>rw[f]at c d;simp only[jY]at d;(repeat' first|refine aq ?_|refine aP (kX _) ?_|refine aQ (kX _) ?_|refine aP e ?_|refine aQ e ?_|refine aP d ?_|refine aQ d ?_|simp[g,hi]);exact bV.rng bs hi ⟨Ke h (Cs j k.1) k.2 f,Kf o q f,c⟩ cc
def aqu{s:List Bd}(ar:rn s)(b:jw s)(c:ir s):hx (s.map Bd.b)=s.all (ny s):=by
 rw[qP,j7,sn,<-aaP b];constructor
 ·rintro⟨d,J,U,a,e⟩;rw[wO J];exact a
 ·intro a;exact⟨s,rfl,ar,a,c⟩
def adb{s:List Bd}(a:jw s)(b:Bd):ny s b=true↔(∀v∈js b.t [],dD s v=none)/\(b.t.kind==1&&decide (b.v<=b.t.int))=false:=by unfold ny;rw[cP,UE a];simp only[true_and,sv,Ih,List.not_mem_nil,or_false]
def Ef(s:List Bd)(bk:List Int)(i:Nat)(_:Unit):Prop:= ∀v∈bk.take i,dD s v=none
def Ef.step{s:List Bd}{bk:List Int}{i:Nat}(h:Ef s bk i ()){v:Int}(a:bk[i]? =some v)(b:dD s v=none):Ef s bk (i+1) ():=fun w hw=>by
 rw[List.take_succ,a]at hw;simp only[j2,Option.toList_some,List.mem_singleton]at hw;rcases hw with hw|rfl
 ·exact h w hw
 ·exact b
def Qg(l:List Bt):bX au 76 [bK (l.map Bt.e)] (.bool (hx l)):=by
 have a:=arv l;by_cases h:Am l;rotate_left
 ·have H:hx l=false:=by unfold hx;simp only[iL];rintro⟨s,J,U,K,L⟩;exact h (JQ.2 ⟨s,J,U,K.asc,L⟩)
  rw[H];refine bL a7 Tryz.func76 YM fun M=>?_;unfold KW;exact cB
 ·obtain⟨s,rfl,ar,F,A⟩:=JQ.1 h;have G:s.length<=1000000:=by have:=A.1;omega
  rw[aqu ar F A];rw[zy]at a⊢;simp only[h,decide_true]at a;clear h;generalize bu:s.all (ny s)=R;refine bL a7 Tryz.func76 YM fun M=>?_;unfold KW;simp;(repeat' first|refine aq ?_|refine aP a ?_|refine aQ a ?_|simp);refine eY [0,12,13] (fun i (_:Unit)=>[(14,aj i)]) s.length (tf (ny s) s) () cc (fun k b m=>Ω) (fun _ d _=>?_) (fun i _ hi d _=>?_)
  ·have:R=true:=by rw[<-bu,j7];intro b t;obtain⟨k,m,e⟩:=pk t;exact d k b m (by rw[cl m,e])
   rw[this];exact cB
  ·obtain⟨b,t,z⟩:=eX hi;have n:¬ny s b=true->R=false:=fun h=>by rw[<-bu,Bool.eq_false_iff];intro r;rw[j7]at r;exact h (r b (fx t))
   have o:ny s b=true->tf (ny s) s (i+1) ():=fun h=>d.step t h;have w:=adb F b;have P:=A.2 b (fx t);have y:=FE b.t [];have q:=JL b.t [] d6 (by simp[vi]);have N:eZ []=[]:=rfl;rw[N]at q;generalize js b.t []=bk at q y w;have O:bk.length<=5000:=by simp at y;omega
   rw[w]at n o;clear w d y t;simp[hi,z];cases m:(b.t.kind==1&&decide (b.v<=b.t.int));rotate_left
   ·rw[n (by rw[m];simp)];rw[cP]at m;have u:=m.1;have E:b.v<=b.t.int:=of_decide_eq_true m.2;exact cB
   ·rw[m]at n o;simp only[jk]at n o;cases u:(b.t.kind==1)
    ·clear m;(repeat' first|refine aq ?_|refine aP q ?_|refine aQ q ?_|simp[z,hi,fJ,u]);refine eY [0,12,13,14,32,33] (fun j (_:Unit)=>[(34,aj j)]) bk.length (Ef s bk) () ⟨by simp[fresh,aH,az,cb,aK,ad,fJ],ep (by simp[fresh,aH,az,cb,aK,ad,fJ]),er (by simp[fresh,aH,az,dU,aK,ad,fJ]),Ψ⟩ (fun v a=>by simp at a) (fun _ d _=>?_) (fun j _ g d _=>?_)
     ·have be:=o (fun v a=>d v (by rwa[jv]));simp[fJ];(repeat' first|refine aq ?_|simp[fJ]);exact bV.rng () hi be ⟨by simp[fresh,aH,az,cb,aK,ad,fJ],ep (by simp[fresh,aH,az,cb,aK,ad,fJ]),er (by simp[fresh,aH,az,dU,aK,ad,fJ]),Ψ⟩
     ·obtain⟨v,a⟩:∃v,bk[j]? =some v:=⟨_,cl g⟩;have p:∀h,((eZ bk)[j]'h)=aj v:=fun r=>by have:=Ec bk j;rw[a,cl r]at this;exact e7 this
      have c:=wL s v G;cases f:dD s v with
      |none=>have B:=d.step a f;rw[f]at c;simp only[oM,mL]at c;clear d o n f;simp[g,p,fJ];(repeat' first|refine aq ?_|refine aP c ?_|refine aQ c ?_|simp[g,p,fJ]);exact bV.rng () g B ⟨by simp[fresh,aH,az,cb,aK,ad,fJ],ep (by simp[fresh,aH,az,cb,aK,ad,fJ]),er (by simp[fresh,aH,az,dU,aK,ad,fJ]),Ψ⟩
      |some x=>rw[n (fun h=>by have:=h v (fx a);rw[f]at this;cases this)];rw[f]at c;simp only[mK,vh]at c;clear d o n f;simp[g,p,fJ];(repeat' first|refine aq ?_|refine aP c ?_|refine aQ c ?_|simp[g,p,fJ]);simp[b0,ba,bd,a1]
    ·have E:¬b.v<=b.t.int:=by rw[u]at m;simpa using m
     clear m;(repeat' first|refine aq ?_|refine aP q ?_|refine aQ q ?_|simp[z,hi,fJ,u,E]);refine eY [0,12,13,14,32,33] (fun j (_:Unit)=>[(34,aj j)]) bk.length (Ef s bk) () ⟨by simp[fresh,aH,az,cb,aK,ad,fJ],ep (by simp[fresh,aH,az,cb,aK,ad,fJ]),er (by simp[fresh,aH,az,dU,aK,ad,fJ]),Ψ⟩ (fun v a=>by simp at a) (fun _ d _=>?_) (fun j _ g d _=>?_)
     ·have be:=o (fun v a=>d v (by rwa[jv]));simp[fJ];(repeat' first|refine aq ?_|simp[fJ]);exact bV.rng () hi be ⟨by simp[fresh,aH,az,cb,aK,ad,fJ],ep (by simp[fresh,aH,az,cb,aK,ad,fJ]),er (by simp[fresh,aH,az,dU,aK,ad,fJ]),Ψ⟩
     ·obtain⟨v,a⟩:∃v,bk[j]? =some v:=⟨_,cl g⟩;have p:∀h,((eZ bk)[j]'h)=aj v:=fun r=>by have:=Ec bk j;rw[a,cl r]at this;exact e7 this
      have c:=wL s v G;cases f:dD s v with
      |none=>have B:=d.step a f;rw[f]at c;simp only[oM,mL]at c;clear d o n f;simp[g,p,fJ];(repeat' first|refine aq ?_|refine aP c ?_|refine aQ c ?_|simp[g,p,fJ]);exact bV.rng () g B ⟨by simp[fresh,aH,az,cb,aK,ad,fJ],ep (by simp[fresh,aH,az,cb,aK,ad,fJ]),er (by simp[fresh,aH,az,dU,aK,ad,fJ]),Ψ⟩
      |some x=>rw[n (fun h=>by have:=h v (fx a);rw[f]at this;cases this)];rw[f]at c;simp only[mK,vh]at c;clear d o n f;simp[g,p,fJ];(repeat' first|refine aq ?_|refine aP c ?_|refine aQ c ?_|simp[g,p,fJ]);simp[b0,ba,bd,a1]
def ab0{s:List Bd}(h:fm s):bX au 76 [bK (s.map Bd.e)] (.bool true):=by have:=Qg (s.map Bd.b);rw[zy,sn.2 ⟨s,rfl,h.ok,h.sol,h.fits⟩]at this;exact this
def S8:C:=(aa [bA 2 false] (.seq (aa [I 5 0,cw 6 5,bQ 7 0] (gq 8 7 6 (.seq (.block 1 (aa [ck 9 1 5 7,ay 10 1 9,I 4 10] (aa [I 11 4,da 12 76 11,cR 13 12] (aZ 13 (aa [bA 2 false] .ret) .skip)))) (.region [aV 14 .add 7 1,I 7 14])))) (aa [bA 2 true] .ret)))
def Tf:C:=(aa [bA 4 false] (.seq (aa [I 7 0,cw 8 7,bQ 9 0] (gq 10 9 8 (.seq (.block 1 (aa [ck 11 5 7 9,bq 12 5 11,dR 6 kp,bW 5 6 12] (aa [aF 13 0 1 6,ay 14 1 13,I 15 1,br 16 .geq 14 15,I 17 16,ax 17 false (hk 18 1 4 6),ax 17 false (bq 19 4 18),cd 17 false 20 1,ax 17 false (cj 21 148 19 20),ax 17 false (cR 22 21),dq 23 17 22] (aZ 23 (aa [bA 4 false] .ret) .skip)))) (.region [aV 24 .add 9 1,I 9 24])))) (aa [bA 4 true] .ret)))
def AE:C:=(aa [dc 2 0,bA 4 false] (.seq (aa [aF 7 3 1 2,ay 8 1 7,cw 9 8,bQ 10 0] (gq 11 10 9 (.seq (.block 1 (aa [ck 12 4 8 10,bq 13 4 12,dR 6 eE,bW 4 6 13] (aa [bq 14 4 6,I 15 1,cj 16 148 14 15,cR 17 16] (aZ 17 (aa [bA 4 false] .ret) .skip)))) (.region [aV 18 .add 10 1,I 10 18])))) (aa [aF 19 0 1 2,ay 20 1 19,aV 21 .neq 20 1,I 22 21,ax 22 false (aF 23 1 1 2),ax 22 false (ay 24 1 23),cd 22 false 25 1,ax 22 false (br 26 .lss 24 25),dq 27 22 26,I 4 27] .ret)))
def S7:C:=(aa [fw 4 5] (aa [fp 10 5 113 [],I 5 10] (.seq (aa [I 11 1,cw 12 11,bQ 13 0] (gq 14 13 12 (.seq (.block 1 (aa [ck 15 5 11 13,bq 16 5 15,dR 7 kp,bW 5 7 16] (aa [I 18 0,aF 19 0 1 7,ay 20 1 19,cj 21 146 18 20,I 17 21,dm 22 0 17,dm 23 1 17,dR 8 eE,bW 4 8 22,I 9 23] (aa [I 24 9,cR 25 24] (aZ 25 (.region [I 26 5,bq 27 5 7,fp 28 5 113 [.t 27],im 29 5 113 26 28,I 5 29]) .skip))))) (.region [aV 30 .add 13 1,I 13 30])))) (aa [I 31 5,I 4 31] .ret))))
def Tb:C:=(aa [fw 2 1] (aa [fp 11 1 46 [],I 3 11] (.seq (.seq (.fg false 3 (.region [I 12 0,cw 13 12,bQ 14 0])) (gq 15 14 13 (.seq (.block 1 (aa [ck 16 1 12 14,ay 17 1 16,I 5 17] (aa [bA 6 true] (.seq (aa [I 18 0,cw 19 18,bQ 20 0] (.block 2 (.loop (aa [br 21 .lss 20 19] (.seq (aZ 21 .skip (.exit 2)) (.seq (.block 3 (aa [ck 22 1 18 20,ay 23 1 22,I 8 23] (.region [I 24 6,I 25 24,cd 25 true 26 8,cd 25 true 27 5,ax 25 true (cj 28 155 26 27),ax 25 true (aV 29 .eql 28 0),cd 25 true 30 29,cd 30 false 31 8,cd 30 false 32 5,ax 30 false (cj 33 203 31 32),ax 30 false (cR 34 33),ax 25 true (dq 35 30 34),ev 36 25 35,I 6 36]))) (.region [aV 37 .add 20 1,I 20 37]))))))) (aa [I 38 3,cw 39 38,I 9 39] (.seq (.block 4 (.loop (.seq (aa [I 40 9,aV 41 .gtr 40 0,I 42 41,cd 42 true 43 3,cd 42 true 44 9,ax 42 true (aV 45 .sub 44 1),ax 42 true (ck 46 1 43 45),ax 42 true (ay 47 1 46),cd 42 true 48 5,ax 42 true (cj 49 155 47 48),ax 42 true (aV 50 .geq 49 0),ev 51 42 50] (aZ 51 .skip (.exit 4))) (.block 5 (.region [I 52 9,aV 53 .sub 52 1,I 9 53]))))) (aa [I 54 6,I 55 54,cd 55 true 56 9,cd 55 true 57 3,ax 55 true (cw 58 57),ax 55 true (br 59 .eql 56 58),cd 55 true 60 59,cd 60 false 61 3,cd 60 false 62 9,ax 60 false (ck 63 1 61 62),ax 60 false (ay 64 1 63),cd 60 false 65 5,ax 60 false (cj 66 155 64 65),ax 60 false (aV 67 .neq 66 0),ax 55 true (dq 68 60 67),ev 69 55 68] (aZ 69 (aa [fp 70 1 46 [],I 71 3,I 72 9,b9 73 (.lsl 1 (.t 71) none (some (.t 72))),im 74 1 46 70 73,I 10 74] (aa [I 75 10,I 76 5,fp 77 1 46 [.t 76],im 78 1 46 75 77,I 10 78] (.region [I 79 10,I 80 3,I 81 9,b9 82 (.lsl 1 (.t 80) (some (.t 81)) none),im 83 1 46 79 82,I 3 83]))) .skip)))))))) (.fg false 3 (.region [aV 84 .add 14 1,I 14 84]))))) (aa [I 85 3,I 2 85] .ret))))
def S9:C:=(aa [bQ 4 0] (.seq (aa [bQ 5 0] (.block 0 (.loop (.seq (aa [I 7 5,I 8 0,cw 9 8,br 10 .lss 7 9,I 11 10,cd 11 true 12 5,cd 11 true 13 1,ax 11 true (cw 14 13),ax 11 true (br 15 .lss 12 14),ev 16 11 15] (aZ 16 .skip (.exit 0))) (.seq (.block 1 (.seq (.seq (.drawn true 67 [I 19 0,I 20 5,ck 21 5 19 20,aF 22 0 1 21,ay 23 1 22,I 24 1,I 25 5,ck 26 5 24 25,aF 27 0 1 26,ay 28 1 27,br 29 .neq 23 28]) (aZ 29 (.seq (.drawn true 67 [I 30 0,I 31 5,ck 32 5 30 31,aF 33 0 1 32,ay 34 1 33,I 35 1,I 36 5,ck 37 5 35 36,aF 38 0 1 37,ay 39 1 38,br 40 .lss 34 39,da 41 188 40,I 4 41]) .ret) .skip)) (.seq (.drawn true 67 [I 42 0,I 43 5,ck 44 5 42 43,hk 45 1 4 44,bq 46 4 45,I 47 1,I 48 5,ck 49 5 47 48,hk 50 1 4 49,bq 51 4 50,cj 52 125 46 51,I 6 52]) (aa [I 53 6,aV 54 .neq 53 0] (aZ 54 (aa [I 55 6,I 4 55] .ret) .skip))))) (.region [I 17 5,aV 18 .add 17 1,I 5 18])))))) (.seq (aa [I 56 0,cw 57 56,I 58 1,cw 59 58,br 60 .neq 57 59] (aZ 60 (aa [I 61 0,cw 62 61,I 63 1,cw 64 63,br 65 .lss 62 64,da 66 188 65,I 4 66] .ret) .skip)) (aa [bQ 4 0] .ret))))
def SM:C:=(aa [bA 4 false] (.seq (aa [I 11 0,da 12 76 11,cR 13 12,I 14 13,cd 14 false 15 1,ax 14 false (da 16 76 15),ax 14 false (cR 17 16),dq 18 14 17] (aZ 18 (aa [bA 4 false] .ret) .skip)) (.seq (aa [I 19 0,cw 20 19,bQ 21 0] (gq 22 21 20 (.seq (.block 1 (aa [ck 23 5 19 21,bq 24 5 23,dR 6 kp,bW 5 6 24] (aa [I 26 1,aF 27 0 1 6,ay 28 1 27,da 29 114 28,cj 30 60 26 29,I 25 30,dm 31 0 25,dm 32 1 25,dR 7 eE,bW 4 7 31,I 8 32] (aa [I 34 1,hk 35 1 4 6,bq 36 4 35,cj 37 60 34 36,I 33 37,dm 38 0 33,dm 39 1 33,dR 9 eE,bW 4 9 38,I 10 39] (aa [I 40 8,cR 41 40,I 42 41,cd 42 false 43 10,ax 42 false (cR 44 43),dq 45 42 44,I 46 45,ax 46 false (bq 47 4 7),ax 46 false (bq 48 4 9),ax 46 false (cj 49 129 47 48),ax 46 false (cR 50 49),dq 51 46 50] (aZ 51 (aa [bA 4 false] .ret) .skip)))))) (.region [aV 52 .add 21 1,I 21 52])))) (aa [bA 4 true] .ret))))
def aog:b6 aS S8 [.tmp 2] 1 Tryz.f77=true:=bi
def aon:b6 aS Tf [.tmp 4] 2 Tryz.f80=true:=bi
def EP:b6 aS AE [.tmp 4] 2 Tryz.f148=true:=bi
def aof:b6 aS S7 [.tmp 4] 2 Tryz.f153=true:=bi
def aoj:b6 aS Tb [.tmp 2] 1 Tryz.f154=true:=bi
def aoh:b6 aS S9 [.tmp 4] 2 Tryz.f155=true:=bi
def anX:b6 aS SM [.tmp 4] 2 Tryz.f203=true:=bi
def C6:C:=(aa [dc 2 0,dc 3 1,bQ 4 0] (.seq (aa [aF 7 0 1 2,ay 8 1 7,aF 9 0 1 3,ay 10 1 9,br 11 .neq 8 10] (aZ 11 (aa [aF 12 0 1 2,ay 13 1 12,aF 14 0 1 3,ay 15 1 14,br 16 .lss 13 15,da 17 188 16,I 4 17] .ret) .skip)) (.seq (aa [aF 18 1 1 2,ay 19 1 18,aF 20 1 1 3,ay 21 1 20,br 22 .neq 19 21] (aZ 22 (aa [aF 23 1 1 2,ay 24 1 23,aF 25 1 1 3,ay 26 1 25,br 27 .lss 24 26,da 28 188 27,I 4 28] .ret) .skip)) (.seq (aa [aF 29 2 1 2,ay 30 1 29,aF 31 2 1 3,ay 32 1 31,br 33 .neq 30 32] (aZ 33 (aa [aF 34 2 1 2,ay 35 1 34,aF 36 2 1 3,ay 37 1 36,br 38 .lss 35 37,da 39 188 38,I 4 39] .ret) .skip)) (.seq (aa [bQ 5 0] (.block 0 (.loop (.seq (aa [I 40 5,aF 41 3 1 2,ay 42 1 41,cw 43 42,br 44 .lss 40 43,I 45 44,cd 45 true 46 5,ax 45 true (aF 47 3 1 3),ax 45 true (ay 48 1 47),ax 45 true (cw 49 48),ax 45 true (br 50 .lss 46 49),ev 51 45 50] (aZ 51 .skip (.exit 0))) (.seq (.block 1 (.seq (.drawn true 68 [aF 54 3 1 2,ay 55 1 54,I 56 5,ck 57 4 55 56,bq 58 4 57,aF 59 3 1 3,ay 60 1 59,I 61 5,ck 62 4 60 61,bq 63 4 62,cj 64 125 58 63,I 6 64]) (aa [I 65 6,aV 66 .neq 65 0] (aZ 66 (aa [I 67 6,I 4 67] .ret) .skip)))) (.region [I 52 5,aV 53 .add 52 1,I 5 53])))))) (aa [bQ 4 0] .ret))))))
def SX:C:=(aa [dc 2 0,dc 3 1,bA 4 false] (aa [bq 5 4 2,bq 6 4 3,cj 7 125 5 6,aV 8 .eql 7 0,I 4 8] .ret))
def SY:C:=(aa [bQ 2 0] (.seq (aa [I 3 0] (aZ 3 (aa [bQ 2 (-1)] .ret) .skip)) (aa [bQ 2 1] .ret)))
def Iy:b6 aS C6 [.tmp 4] 2 Tryz.f125=true:=bi
def an5:b6 aS SX [.tmp 4] 2 Tryz.f129=true:=bi
def an6:b6 aS SY [.tmp 2] 1 Tryz.f188=true:=bi
def acI{t u:T}(J:t.kind=u.kind)(U:t.int=u.int)(a:t.name=u.name)(b:t.args=u.args):t=u:=by cases t<;>cases u<;>simp_all
def sr(b:Bool):bX au 188 [.bool b] (aj (if b then-1 else 1)):=by
 refine bL a7 Tryz.func188 an6 fun a=>?_;unfold SY;simp;((repeat' first|refine aq ?_|simp|((first|apply cu|apply cy|apply cx)<;>intro h<;>try simp at h))<;>(try exact c4));all_goals simp[b0,ba,bd,a1]
 all_goals simp_all
def aoq{a b:T}(c:a.args=[]\/b.args=[])(J:a.kind=b.kind)(U:a.int=b.int):e2 a b=lr a.name b.name:=by cases a<;>cases b<;>simp_all[e2]
def Ee(a b:T)(i:Nat)(_:Unit):Prop:=a.args.take i=b.args.take i
def abM(a:T)(o:∀x∈a.args,∀b:T,bX au 125 [x.e,b.e] (aj (e2 x b)))(b:T):bX au 125 [a.e,b.e] (aj (e2 a b)):=by
 have hle:a.args.length<=2:=by cases a<;>simp
 by_cases c:a.kind=b.kind
 ·by_cases hi:a.int=b.int
  ·by_cases j:a.name=b.name
   ·have hlen:a.args.length=b.args.length:=by cases a<;>cases b<;>simp at c⊢
    refine bL a7 Tryz.func125 Iy fun k=>?_;unfold C6;simp[c,hi,j];refine eY [2,3] (fun i (_:Unit)=>[(5,aj i)]) a.args.length (Ee a b) () cc (by simp[Ee]) (fun _ d _=>?_) (fun i _ g d _=>?_)
    ·simp;(repeat' first|refine aq ?_|simp);simp[b0,ba,bd,a1];unfold Ee at d;rw[iE Ω,iE Ω]at d;exact((se a b).2 (acI c hi j d)).symm
    ·have l:i<b.args.length:=Ω
     obtain⟨x,e⟩:∃x,x=a.args[i]:=⟨_,rfl⟩;obtain⟨y,f⟩:∃y,y=b.args[i]:=⟨_,rfl⟩;have m:=o x (by rw[e];exact List.getElem_mem g) y;simp[g,l,<-e,<-f];(with_reducible repeat' first|((first|apply cu|apply cy|apply cx)<;>intro h<;>try simp at h)|refine aq ?_|refine aP m ?_|refine aQ m ?_|simp)
     ·simp[b0,ba,bd,a1];unfold Ee at d;cases a with
      |pair n a2=>
       cases b with
       |pair p q=>
        simp at g d e f;rcases(by omega:i=0\/i=1)with rfl|rfl
        ·simp at e f;subst e f;simp[e2,h]
        ·simp at d e f;subst e f d;simp[e2,(se n n).2 rfl]
       |_=>simp at c
      |_=>simp at g
     ·refine bV.rng () g ?_ cc;unfold Ee at d⊢;rw[List.take_succ,List.take_succ,d,cl g,cl l,<-e,<-f,(se x y).1 h]
   ·refine bL a7 Tryz.func125 Iy fun k=>?_;unfold C6;simp[c,hi,j];((repeat' first|refine aq ?_|refine aP (sr _) ?_|refine aQ (sr _) ?_|simp|((first|apply cu|apply cy|apply cx)<;>intro h<;>try simp at h))<;>(try exact c4));simp[b0,ba,bd,a1];have:a.args=[]\/b.args=[]:=by cases a<;>cases b<;>simp at c j⊢
    rw[aoq this c hi,lr,if_neg j]
  ·refine bL a7 Tryz.func125 Iy fun k=>?_;unfold C6;simp[c,hi];((repeat' first|refine aq ?_|refine aP (sr _) ?_|refine aQ (sr _) ?_|simp|((first|apply cu|apply cy|apply cx)<;>intro h<;>try simp at h))<;>(try exact c4));simp[b0,ba,bd,a1];cases a<;>cases b<;>simp at c hi
   ·rw[YT];simp[e6];split<;>(try split)<;>omega
   ·rw[YS];simp[e6];split<;>(try split)<;>omega
 ·refine bL a7 Tryz.func125 Iy fun k=>?_;unfold C6;simp[c];((repeat' first|refine aq ?_|refine aP (sr _) ?_|refine aQ (sr _) ?_|simp|((first|apply cu|apply cy|apply cx)<;>intro h<;>try simp at h))<;>(try exact c4));simp[b0,ba,bd,a1];rw[tw c];simp[e6];split<;>(try split)<;>omega
def JI(a:T):∀b:T,bX au 125 [a.e,b.e] (aj (e2 a b)):=by
 induction a with
 |pair x y e d=>
  refine abM _ fun z c=>?_;simp at c;rcases c with rfl|rfl
  ·exact e
  ·exact d
 |_=>exact abM _ fun x f=>by simp at f
def abP(a b:T):bX au 129 [a.e,b.e] (.bool (decide (a=b))):=by refine bL a7 Tryz.func129 an5 fun c=>?_;unfold SX;simp;(repeat' first|refine aq ?_|refine aP (JI _ _) ?_|refine aQ (JI _ _) ?_|simp);simp[b0,ba,bd,a1];have:=se a b;by_cases h:e2 a b=0<;>simp_all
def arz{s t:List Bd}(j:fm s)(k:fm t):bX au 153 [bK (s.map Bd.e),bK (t.map Bd.e)] (bK ((hv s t).map Bd.e)):=by
 have h:=k.len;generalize bu:hv s t=R;refine bL a7 Tryz.func153 aof fun m=>?_;unfold S7;simp;refine fX (α:=List Bd) (fun i out=>⟨[(0,bK (s.map Bd.e)),(11,bK (t.map Bd.e)),(12,aj t.length),(5,.slice 5 (.own (.loc 0)) (out.map Bd.e)),(13,aj i)],[],[(.loc 0,⟨out.length,113,5,none⟩)],1,[]⟩) t.length (r9 s t) [] cc (by simp[r9,hv]) (fun out c _=>?_) (fun i out hi c _=>?_)
 ·rw[r9,iE (dL _),bu]at c;rw[<-c];exact cB
 ·obtain⟨b,f,e⟩:=eX hi;have l:out.length<=1000000:=by
   have:out.length<=(t.take i).length:=by rw[c];exact List.length_filter_le _ _
   simp at this;omega
  have a:=wL s b.v j.len;cases d:dD s b.v with
  |none=>
   have g:r9 s t (i+1) (out++[b]):=by rw[r9,nZ f,hv,List.filter_append,c];simp[hv,d]
   rw[d]at a;simp only[oM,mL]at a;clear c f d;simp[hi,e];(repeat' first|refine aq ?_|refine aP a ?_|refine aQ a ?_|simp[e,hi]);all_goals try refine⟨by unfold lim;omega,?_⟩
   (repeat' first|refine aq ?_|simp);refine bV.rng (out++[b]) hi g ?_;simp;exact⟨by simp[fresh,aH,az,cb,aK,ad,kC],ep (by simp[fresh,aH,az,cb,aK,ad,kC]),er (by simp[fresh,aH,az,dU,aK,ad,kC]),Ψ⟩
  |some x=>
   have g:r9 s t (i+1) out:=by rw[r9,nZ f,hv,List.filter_append,c];simp[hv,d]
   rw[d]at a;simp only[mK,vh]at a;clear c f d;simp[hi,e];(repeat' first|refine aq ?_|refine aP a ?_|refine aQ a ?_|simp[e,hi]);refine bV.rng out hi g ?_;exact cc
def aqY{s t:List Bd}(v:fm s)(m:fm t):bX au 203 [bK (s.map Bd.e),bK (t.map Bd.e)] (.bool (oA s t)):=by
 have z:=v.len;generalize bu:oA s t=R;have q:=ab0 v;have r:=ab0 m;refine bL a7 Tryz.func203 anX fun A=>?_;unfold SM;simp;(repeat' first|refine aq ?_|refine aP q ?_|refine aQ q ?_|refine aP r ?_|refine aQ r ?_|simp);refine eY [1,19,20] (fun i (_:Unit)=>[(21,aj i)]) s.length (tf (tt t) s) () cc (fun k b n=>Ω) (fun _ g _=>?_) (fun i _ hi g _=>?_)
 ·have:R=true:=by rw[<-bu,oA,j7];intro b w;obtain⟨k,n,e⟩:=pk w;exact g k b n (by rw[cl n,e])
  rw[this];exact cB
 ·obtain⟨b,j,f⟩:=eX hi;have p:tt t b=false->R=false:=fun h=>by rw[<-bu,Bool.eq_false_iff];intro u;rw[oA,j7]at u;rw[u b (fx j)]at h;cases h
  have a:=Qa t m.len (.var b.v);have c:=Qa t m.len b.t;have o:=Fk m b.v;have y:((T.var b.v).ap (cO t)).size<=5000:=o;rw[n5 y]at a;rw[show(T.var b.v).ap (cO t)=cO t b.v from rfl]at a;by_cases l:(b.t.ap (cO t)).size<=5000
  ·rw[n5 l]at c;by_cases he:cO t b.v=b.t.ap (cO t)
   ·have x:=g.step j (by simp[tt,he]);have d:=abP (cO t b.v) (b.t.ap (cO t));rw[n5 he]at d;clear g j;simp[hi,f];(repeat' first|refine aq ?_|refine aP (kX _) ?_|refine aQ (kX _) ?_|refine aP a ?_|refine aQ a ?_|refine aP c ?_|refine aQ c ?_|refine aP d ?_|refine aQ d ?_|simp[f,hi]);exact bV.rng () hi x cc
   ·rw[p (by simp[tt,he])];have d:=abP (cO t b.v) (b.t.ap (cO t));rw[po he]at d;clear g j;simp[hi,f];(repeat' first|refine aq ?_|refine aP (kX _) ?_|refine aQ (kX _) ?_|refine aP a ?_|refine aQ a ?_|refine aP c ?_|refine aQ c ?_|refine aP d ?_|refine aQ d ?_|simp[f,hi]);simp[b0,ba,bd,a1]
  ·rw[po l]at c;rw[p (by simp only[tt,iL];intro e;rw[<-e]at l;exact l o)];clear g j;simp[hi,f];(repeat' first|refine aq ?_|refine aP (kX _) ?_|refine aQ (kX _) ?_|refine aP a ?_|refine aQ a ?_|refine aP c ?_|refine aQ c ?_|simp[f,hi]);simp[b0,ba,bd,a1]
def Qb(d e:List Bd):bX au 155 [bK (d.map Bd.e),bK (e.map Bd.e)] (aj (e5 d e)):=by
 generalize bu:e5 d e=R;refine bL a7 Tryz.func155 aoh fun w=>?_;unfold S9;have G:d.length<=68719476736:=by simp[eP,eU,eQ,lim]at w;omega
 have he:e.length<=68719476736:=by simp[eP,eU,eQ,lim]at w;omega
 simp;refine w2 [0,1] (fun(i:Nat)=>[(5,aj i)]) (fun i=>d.length-i) (M9 d e) 0 cc ⟨Ω,Ω,Ψ⟩ (fun i B _=>?_);obtain⟨J,U,a⟩:=B;rw[bu]at a;by_cases hi:i<d.length
 ·by_cases b:i<e.length
  ·obtain⟨x,m⟩:∃x,d[i]? =some x:=⟨_,cl hi⟩;obtain⟨y,n⟩:∃y,e[i]? =some y:=⟨_,cl b⟩;have f:∀h,(d[i]'h)=x:=fun h=>by rw[cl hi]at m;exact e7 m
   have c:∀h,(e[i]'h)=y:=fun h=>by rw[cl b]at n;exact e7 n
   have r:d.drop i=x::d.drop (i+1):=by rw[lA hi,f]
   have q:e.drop i=y::e.drop (i+1):=by rw[lA b,c]
   rw[r,q]at a;rw[YQ]at a;by_cases g:x.v=y.v
   ·have j:e6 x.v y.v=0:=(kV.zero _ _).2 g;have p:(x.v !=y.v)=false:=by simp[g]
    rw[if_pos j]at a;by_cases l:e2 x.t y.t=0
    ·rw[if_pos l]at a;have E:M9 d e (i+1):=⟨Ω,Ω,by rw[bu];exact a⟩;have k:=JI x.t y.t;rw[l]at k;clear r q m n a j;simp[hi,b,f,c];((repeat' first|refine aq ?_|refine aP k ?_|refine aQ k ?_|simp[f,c,hi,b,g,p]|((first|apply cu|apply cy|apply cx)<;>intro h<;>try simp at h))<;>(try exact c4));all_goals exact bV.whl (i+1) Ω E cc
    ·rw[if_neg l]at a;have k:=JI x.t y.t;have z:(e2 x.t y.t !=0)=true:=by simp[l]
     clear r q m n j;simp[hi,b,f,c];(repeat' first|refine aq ?_|refine aP k ?_|refine aQ k ?_|simp[f,c,hi,b,g,p,l,z]);all_goals simp[b0,ba,bd,a1]
     all_goals exact a
   ·have j:¬e6 x.v y.v=0:=fun h=>g ((kV.zero _ _).1 h);have p:(x.v !=y.v)=true:=by simp[g]
    rw[if_neg j]at a;have dC:R=if decide (x.v<y.v)=true then-1 else 1:=by rw[<-a];unfold e6;simp only[gu];(repeat' split)<;>omega
    clear r q m n a j;rw[dC];simp[hi,b,f,c];(repeat' first|refine aq ?_|refine aP (sr _) ?_|refine aQ (sr _) ?_|simp[f,c,hi,b,g,p]);all_goals simp[b0,ba,bd,a1]
  ·have hle:e.length<d.length:=Ω
   have:(1:Int)=R:=by rw[<-a,e5,Ep _ _ _ (.inr (List.drop_eq_nil_of_le Ω))];simp only[tS];unfold e6;(repeat' split)<;>omega
   have t:¬(d.length:Int)=e.length:=Ω
   have v:((d.length:Int) !=e.length)=true:=by simp;omega
   have s:¬(d.length:Int)<e.length:=Ω
   have o:¬d.length<e.length:=Ω
   have u:¬d.length=e.length:=Ω
   clear a;rw[<-this];simp[hi,b];(repeat' first|refine aq ?_|refine aP (sr _) ?_|refine aQ (sr _) ?_|simp[hi,b,t,v,s,o,u]);all_goals simp[b0,ba,bd,a1]
   all_goals(try simp[o])
 ·have F:i=d.length:=Ω
  by_cases A:d.length=e.length
  ·have:(0:Int)=R:=by rw[<-a,e5,Ep _ _ _ (.inl (List.drop_eq_nil_of_le Ω))];simp only[tS];unfold e6;(repeat' split)<;>omega
   clear a;rw[<-this];exact cB
  ·have:(-1:Int)=R:=by rw[<-a,e5,Ep _ _ _ (.inl (List.drop_eq_nil_of_le Ω))];simp only[tS];unfold e6;(repeat' split)<;>omega
   have t:¬(d.length:Int)=e.length:=Ω
   have v:((d.length:Int) !=e.length)=true:=by simp;omega
   have s:(d.length:Int)<e.length:=Ω
   have o:d.length<e.length:=Ω
   clear a;rw[<-this];simp[hi];(repeat' first|refine aq ?_|refine aP (sr _) ?_|refine aQ (sr _) ?_|simp[hi,t,v,s,o,A]);all_goals simp[b0,ba,bd,a1]
   all_goals(try simp[o])
def akQ(n:Int)(a b:T)(i:Nat)(_:Unit):Prop:=(1<=i->jA n a=true)/\(2<=i->jA n b=true)
def Qf(n:Int):∀t:T,bX au 148 [t.e,aj n] (.bool (jA n t))
 | .pair a b=>by
  have e:=Qf n a;have d:=Qf n b;refine bL a7 Tryz.func148 EP fun j=>?_;unfold AE;simp;refine eY [1,2,8,9] (fun i (_:Unit)=>[(10,aj i)]) 2 (akQ n a b) () cc ⟨fun h=>Ω,fun h=>Ω⟩ (fun _ c _=>?_) (fun i _ hi c _=>?_)
  ·simp;(repeat' first|refine aq ?_|simp);simp[b0,ba,bd,a1];simp[jA,c.1,c.2]
  ·rcases(by omega:i=0\/i=1)with rfl|rfl
   ·cases f:jA n a
    ·rw[f]at e;simp;(repeat' first|refine aq ?_|refine aP e ?_|refine aQ e ?_|simp);simp[b0,ba,bd,a1];simp[jA,f]
    ·rw[f]at e;simp;((repeat' first|refine aq ?_|refine aP e ?_|refine aQ e ?_|simp|((first|apply cu|apply cy|apply cx)<;>intro h<;>try simp at h))<;>(try exact c4));exact bV.rng () hi ⟨fun _=>f,fun h=>Ω⟩ cc
   ·cases g:jA n b
    ·rw[g]at d;simp;((repeat' first|refine aq ?_|refine aP d ?_|refine aQ d ?_|simp|((first|apply cu|apply cy|apply cx)<;>intro h<;>try simp at h))<;>(try exact c4));simp[b0,ba,bd,a1];simp[jA,g]
    ·rw[g]at d;simp;((repeat' first|refine aq ?_|refine aP d ?_|refine aQ d ?_|simp|((first|apply cu|apply cy|apply cx)<;>intro h<;>try simp at h))<;>(try exact c4));exact bV.rng () hi ⟨fun _=>c.1 Ω,fun _=>g⟩ cc
 | .sym v=>by
  refine bL a7 Tryz.func148 EP fun j=>?_;unfold AE;simp;refine eY [1,2,8,9] (fun i (_:Unit)=>[(10,aj i)]) 0 (fun i _=>True) () cc trivial (fun _ c _=>?_) (fun i _ hi c _=>Ω);simp;((repeat' first|refine aq ?_|simp|((first|apply cu|apply cy|apply cx)<;>intro h<;>try simp at h))<;>(try exact c4));all_goals simp[b0,ba,bd,a1]
  all_goals simp[jA]
 | .num v=>by
  refine bL a7 Tryz.func148 EP fun j=>?_;unfold AE;simp;refine eY [1,2,8,9] (fun i (_:Unit)=>[(10,aj i)]) 0 (fun i _=>True) () cc trivial (fun _ c _=>?_) (fun i _ hi c _=>Ω);simp;(repeat' first|refine aq ?_|simp);all_goals simp[b0,ba,bd,a1]
  all_goals simp[jA]
 | .var v=>by
  refine bL a7 Tryz.func148 EP fun j=>?_;unfold AE;simp;refine eY [1,2,8,9] (fun i (_:Unit)=>[(10,aj i)]) 0 (fun i _=>True) () cc trivial (fun _ c _=>?_) (fun i _ hi c _=>Ω);simp;(repeat' first|refine aq ?_|simp);all_goals simp[b0,ba,bd,a1]
  all_goals simp[jA]
 | .nil=>by
  refine bL a7 Tryz.func148 EP fun j=>?_;unfold AE;simp;refine eY [1,2,8,9] (fun i (_:Unit)=>[(10,aj i)]) 0 (fun i _=>True) () cc trivial (fun _ c _=>?_) (fun i _ hi c _=>Ω);simp;(repeat' first|refine aq ?_|simp);all_goals simp[b0,ba,bd,a1]
  all_goals simp[jA]
def abW(s:List Bd)(n:Int):bX au 80 [bK (s.map Bd.e),aj n] (.bool (s.all (lD n))):=by
 generalize bu:s.all (lD n)=R;refine bL a7 Tryz.func80 aon fun o=>?_;unfold Tf;have q:s.length<=68719476736:=by simp[eP,eU,eQ,lim]at o;omega
 simp;refine eY [1,7,8] (fun i (_:Unit)=>[(9,aj i)]) s.length (tf (lD n) s) () cc (fun k b d=>Ω) (fun _ a _=>?_) (fun i _ hi a _=>?_)
 ·have:R=true:=by rw[<-bu,j7];intro b m;obtain⟨k,d,e⟩:=pk m;exact a k b d (by rw[cl d,e])
  rw[this];exact cB
 ·obtain⟨b,c,p⟩:=eX hi;have g:lD n b=false->R=false:=fun h=>by rw[<-bu,Bool.eq_false_iff];intro j;rw[j7]at j;rw[j b (fx c)]at h;cases h
  have f:=Qf n b.t;by_cases J:b.v<n
  ·have l:¬n<=b.v:=Ω
   cases U:jA n b.t
   ·rw[g (by simp[lD,U])];rw[U]at f;clear a c;exact cB
   ·have r:=a.step c (by simp[lD,J,U]);rw[U]at f;clear a c;exact iW
  ·have l:n<=b.v:=Ω
   rw[g (by simp[lD,J])];clear a c;exact cB
def arC(l:List (List Bt)):bX au 77 [cV (l.map gv)] (.bool (l.all hx)):=by
 generalize bu:l.all hx=R;refine bL a7 Tryz.func77 aog fun j=>?_;unfold S8;have n:l.length<=68719476736:=by simp[eP,eU,eQ,lim]at j;omega
 simp;refine eY [5,6] (fun i (_:Unit)=>[(7,aj i)]) l.length (tf hx l) () cc (fun k b f=>Ω) (fun _ c _=>?_) (fun i _ hi c _=>?_)
 ·have:R=true:=by rw[<-bu,j7];intro b a;obtain⟨k,f,e⟩:=pk a;exact c k b f (by rw[cl f,e])
  rw[this];exact cB
 ·obtain⟨b,d,m⟩:=eX hi;have g:bX au 76 [gv b] (.bool (hx b)):=Qg b;cases a:hx b
  ·have:R=false:=by rw[<-bu,Bool.eq_false_iff];intro h;rw[j7]at h;rw[h b (fx d)]at a;cases a
   rw[this];rw[a]at g;clear c d;exact cB
  ·have o:=c.step d a;rw[a]at g;clear c d;exact iW
def TE(a:List (List Bd))(k:Nat)(m:List Bd):mJ k (a.map cM)++cM m::oK k (a.map cM)=(a.take k++m::a.drop k).map cM:=Ψ
def rU(a:List (List Bd))(k:Nat)(m:List Bd):cf (mJ k (a.map cM)++cM m::oK k (a.map cM))=mJ k (a.map cM)++cM m::oK k (a.map cM):=by rw[TE,PN]
def rT(S:aA->Prop)(a:List (List Bd))(k:Nat)(m:List Bd):aH S (mJ k (a.map cM)++cM m::oK k (a.map cM))=True:=by rw[TE,Xb]
def TD(a:List (List Bd))(m:List Bd):a.map cM++[cM m]=(a++[m]).map cM:=Ψ
def rS(a:List (List Bd))(m:List Bd):cf (a.map cM++[cM m])=a.map cM++[cM m]:=by rw[TD,PN]
def rR(S:aA->Prop)(a:List (List Bd))(m:List Bd):aH S (a.map cM++[cM m])=True:=by rw[TD,Xb]
def abU(L:List (List Bd))(K:∀d∈L,fm d):bX au 154 [cV (L.map cM)] (cV ((lO L).map cM)):=by
 generalize bu:lO L=R;rw[alT]at bu;refine bL a7 Tryz.func154 aoj fun U=>?_;unfold Tb;have W:L.length<=68719476736:=by simp[eP,eU,eQ,lim]at U;omega
 simp;refine eY [0,12,13] (fun i (a:List (List Bd))=>[(3,cV (a.map cM)),(14,aj i)]) L.length (zr L) [] cc (by simp[zr]) (fun a m _=>?_) (fun i a hi m _=>?_)
 ·rw[zr,jv,bu]at m;subst m;exact cB
 ·obtain⟨e,he,N⟩:=eX hi;have A:iM e5 a:=by rw[m];exact NX _ (by simp[iM])
  have V:a.length<=i:=by have:=XU (L:=L) (L.take i) [];rw[m];simp at this⊢;omega
  have g:=m.step he;have P:=K e (fx he);have l:∀d,bX au 155 [cM d,cM e] (aj (e5 d e)):=fun d=>Qb d e;clear m he;simp[hi,N];(repeat' first|refine aq ?_|simp[hi,N]);refine eY [0,3,5,12,13,14,18,19] (fun j (b:Bool)=>[(6,.bool b),(20,aj j)]) L.length (q9 L e) true cc (by simp[q9]) (fun keep m _=>?_) (fun j keep t m _=>?_)
  ·rw[q9,jv]at m;have M:keep=jI L e:=m;rw[rj,<-M]at g;clear m M;simp;(repeat' first|refine aq ?_|simp);refine w2 [0,3,5,6,12,13,14] (fun(k:Nat)=>[(9,aj k)]) (fun k=>k) (HL a e) a.length cc ⟨Ω,fun c h=>by simp at h⟩ (fun k m _=>?_);have Z:=m.1;rcases Nat.eq_zero_or_pos k with Y|s
   ·have F:decide ((0:Int)<k)=false:=by simp;omega
    have z:¬(0:Int)<k:=Ω
    have f:=m.fin A fun d h=>Ω
    clear m A;cases keep with
    |false=>simp only[hN,if_false]at g;clear f;exact iW
    |true=>
     simp only[if_true]at g;by_cases n:k<a.length
     ·obtain⟨c,aw,x⟩:=eX n;rw[aw]at f;by_cases q:e5 c e=0
      ·rw[if_pos (by simp[q])]at f;rw[f]at g;clear f aw;simp[n,x,F,z];((repeat' first|refine aq ?_|refine aP (l _) ?_|refine aQ (l _) ?_|simp[n,x,q,F,z]|((first|apply cu|apply cy|apply cx)<;>intro h<;>try simp at h))<;>(try exact c4));all_goals exact bV.rng a hi g cc
      ·rw[if_neg (by simp[q])]at f;have B:(e5 c e !=0)=true:=by simp[q]
       rw[f]at g;clear f aw;simp[n,x,F,z];((repeat' first|refine aq ?_|refine aP (l _) ?_|refine aQ (l _) ?_|simp[n,x,q,B,F,z]|((first|apply cu|apply cy|apply cx)<;>intro h<;>try simp at h))<;>(try exact c4));all_goals try refine⟨by unfold lim;omega,?_⟩
       all_goals(repeat' first|refine aq ?_|simp)
       all_goals try refine⟨by unfold lim;omega,?_⟩
       all_goals((repeat' first|refine aq ?_|simp|((first|apply cu|apply cy|apply cx)<;>intro h<;>try simp at h))<;>(try exact c4))
       all_goals exact bV.rng _ hi g ⟨by simp[fresh,aH,az,cb,aK,ad,iE,rU,rT,rS,rR],ep (by simp[fresh,aH,az,cb,aK,ad,iE,rU,rT,rS,rR]),er (by simp[fresh,aH,az,dU,aK,ad,iE,rU,rT,rS,rR]),Ψ⟩
     ·rw[qQ Ω]at f;simp only[hN,if_false]at f;rw[f]at g;have H:k=a.length:=Ω
      have G:a.take k++e::a.drop k=a++[e]:=by rw[H];simp
      rw[G]at g;clear f G;simp[n,F,z];((repeat' first|refine aq ?_|refine aP (l _) ?_|refine aQ (l _) ?_|simp[n,H,F,z]|((first|apply cu|apply cy|apply cx)<;>intro h<;>try simp at h))<;>(try exact c4));all_goals try refine⟨by unfold lim;omega,?_⟩
      all_goals(repeat' first|refine aq ?_|simp)
      all_goals try refine⟨by unfold lim;omega,?_⟩
      all_goals((repeat' first|refine aq ?_|simp|((first|apply cu|apply cy|apply cx)<;>intro h<;>try simp at h))<;>(try exact c4))
      all_goals exact bV.rng _ hi g ⟨by simp[fresh,aH,az,cb,aK,ad,iE,rU,rT,rS,rR],ep (by simp[fresh,aH,az,cb,aK,ad,iE,rU,rT,rS,rR]),er (by simp[fresh,aH,az,dU,aK,ad,iE,rU,rT,rS,rR]),Ψ⟩
   ·obtain⟨d,v⟩:∃d,a[k-1]? =some d:=⟨_,cl Ω⟩;have u:((k:Int)-1).toNat=k-1:=Ω
    have w:∀h,(a[k-1]'h)=d:=fun h=>by rw[cl h]at v;exact e7 v
    have r:(0:Int)<k:=Ω
    have p:k-1<a.length:=Ω
    by_cases o:0<=e5 d e
    ·have S:HL a e (k-1):=⟨Ω,fun c aw=>by rw[v]at aw;cases aw;exact o⟩;clear m A g v;simp[s,r,u,w,o,p];((repeat' first|refine aq ?_|refine aP (l _) ?_|refine aQ (l _) ?_|simp[s,r,u,w,o,p]|((first|apply cu|apply cy|apply cx)<;>intro h<;>try simp at h))<;>(try exact c4));refine bV.whl (k-1) Ω S ?_;have Q:((k-1:Nat):Int)=(k:Int)-1:=Ω
     simp[Q];exact cc
    ·have f:=m.fin A fun X _ J=>by rw[v]at J;cases J;omega
     clear m A v;cases keep with
     |false=>simp only[hN,if_false]at g;clear f;simp[s,r,u,w,o,p];(repeat' first|refine aq ?_|refine aP (l _) ?_|refine aQ (l _) ?_|simp[s,r,u,w,o,p]);all_goals exact bV.rng a hi g cc
     |true=>
      simp only[if_true]at g;by_cases n:k<a.length
      ·obtain⟨c,aw,x⟩:=eX n;rw[aw]at f;by_cases q:e5 c e=0
       ·rw[if_pos (by simp[q])]at f;rw[f]at g;clear f aw;simp[n,x,s,r,u,w,o,p];((repeat' first|refine aq ?_|refine aP (l _) ?_|refine aQ (l _) ?_|simp[n,x,q,s,r,u,w,o,p]|((first|apply cu|apply cy|apply cx)<;>intro h<;>try simp at h))<;>(try exact c4));all_goals exact bV.rng a hi g cc
       ·rw[if_neg (by simp[q])]at f;have B:(e5 c e !=0)=true:=by simp[q]
        rw[f]at g;clear f aw;simp[n,x,s,r,u,w,o,p];((repeat' first|refine aq ?_|refine aP (l _) ?_|refine aQ (l _) ?_|simp[n,x,q,B,s,r,u,w,o,p]|((first|apply cu|apply cy|apply cx)<;>intro h<;>try simp at h))<;>(try exact c4));all_goals try refine⟨by unfold lim;omega,?_⟩
        all_goals(repeat' first|refine aq ?_|simp)
        all_goals try refine⟨by unfold lim;omega,?_⟩
        all_goals((repeat' first|refine aq ?_|simp|((first|apply cu|apply cy|apply cx)<;>intro h<;>try simp at h))<;>(try exact c4))
        all_goals exact bV.rng _ hi g ⟨by simp[fresh,aH,az,cb,aK,ad,iE,rU,rT,rS,rR],ep (by simp[fresh,aH,az,cb,aK,ad,iE,rU,rT,rS,rR]),er (by simp[fresh,aH,az,dU,aK,ad,iE,rU,rT,rS,rR]),Ψ⟩
      ·rw[qQ Ω]at f;simp only[hN,if_false]at f;rw[f]at g;have H:k=a.length:=Ω
       have G:a.take k++e::a.drop k=a++[e]:=by rw[H];simp
       rw[G]at g;clear f G;simp[n,s,r,u,w,o,p];((repeat' first|refine aq ?_|refine aP (l _) ?_|refine aQ (l _) ?_|simp[n,H,s,r,u,w,o,p]|((first|apply cu|apply cy|apply cx)<;>intro h<;>try simp at h))<;>(try exact c4));all_goals try refine⟨by unfold lim;omega,?_⟩
       all_goals(repeat' first|refine aq ?_|simp)
       all_goals try refine⟨by unfold lim;omega,?_⟩
       all_goals(repeat' first|refine aq ?_|simp)
       all_goals exact bV.rng _ hi g ⟨by simp[fresh,aH,az,cb,aK,ad,iE,rU,rT,rS,rR],ep (by simp[fresh,aH,az,cb,aK,ad,iE,rU,rT,rS,rR]),er (by simp[fresh,aH,az,dU,aK,ad,iE,rU,rT,rS,rR]),Ψ⟩
  ·obtain⟨d,v,hdi⟩:=eX t;have y:=m.step v;have O:=K d (fx v);have E:bX au 203 [cM d,cM e] (.bool (oA d e)):=aqY O P;clear m v g A;cases keep with
   |false=>simp only[Bool.false_and]at y;exact iW
   |true=>
    simp only[Bool.true_and,xJ]at y;by_cases q:e5 d e=0
    ·rw[n5 ((mB.zero _ _).1 q),Bool.true_or]at y;simp[t,hdi];(repeat' first|refine aq ?_|refine aP (l _) ?_|refine aQ (l _) ?_|simp[t,hdi,q]);all_goals exact bV.rng true t y cc
    ·rw[po (fun h=>q ((mB.zero _ _).2 h)),Bool.false_or]at y;have B:(e5 d e==0)=false:=by simp[q]
     cases be:oA d e
     ·rw[be]at y E;simp[t,hdi];(repeat' first|refine aq ?_|refine aP (l _) ?_|refine aQ (l _) ?_|refine aP E ?_|refine aQ E ?_|simp[t,hdi,q,B]);all_goals exact bV.rng true t y cc
     ·rw[be]at y E;simp[t,hdi];(repeat' first|refine aq ?_|refine aP (l _) ?_|refine aQ (l _) ?_|refine aP E ?_|refine aQ E ?_|simp[t,hdi,q,B]);all_goals exact bV.rng false t y cc
def _root_.Go.Pv.Bd.k(b:Bd)(κ:Nat):af:= .agg [aj b.v,aj b.t.kind,aj b.t.int,.str b.t.name,.slice 4 (.tr (.loc κ) 0) (b.t.args.map T.e)]
def HT:nv Bd.k Bd.e:=⟨fun x n=>rfl,fun x n=>⟨trivial,trivial,trivial,trivial,BZ n,trivial⟩,fun x n=>by simp[Bd.k,b5],fun S x n h=>by simp[Bd.k,az,aH,h]⟩
@[simp]def as9(t:T)(n:Nat):cells (t.k n)=[aj t.kind,aj t.int,.str t.name,.slice 4 (.tr (.loc n) 0) (t.args.map T.e)]:=rfl
@[simp]def awq(t:T)(n:Nat):eS (t.k n)=true:=rfl
def EE(t:List Bd)(k:t.length<=1000000):fP au 168 [bK (t.map Bd.e)] fun κ=>.slice 5 (.tr (.loc κ) 0) (t.map Bd.e):=by
 refine fP.mk mixed a7 Tryz.func168 amR Ψ fun j κ=>?_;unfold RH;simp;refine fX (fun i (x:Nat×List (Bd×Nat))=>⟨[(7,bK (t.map Bd.e)),(8,aj t.length),(3,.slice 5 (.own (.loc 0)) (jf Bd.k x.2)),(9,aj i)],[],[(.loc 0,⟨x.2.length,113,5,none⟩)],x.1,[]⟩) t.length (fun i x=>1<=x.1/\qa x.1 x.2/\x.2.map (·.1)=t.take i) (1,[]) cc ⟨Ω,.nil _,Ψ⟩ (fun x c _=>?_) (fun i x hi c _=>?_)
 ·obtain⟨n,out⟩:=x;obtain⟨J,U,a⟩:=c;simp only[jv]at J U a;simp;(repeat' first|refine aq ?_|simp);(refine hP.val Ψ ?_;simp[ba,bd,a1,e0,ha,ez,gI,ec,gD,tnL,tn,fl,ga,fold,hq,ho,iw,ad,eo,cf,b5,HT.okL,HT.nodup U,HT.stL,a])
 ·obtain⟨n,out⟩:=x;obtain⟨J,U,a⟩:=c;simp only at J U a;obtain⟨b,g,f⟩:=eX hi;have h:out.length<=1000000:=by have:=ff List.length a;simp at this;omega
  simp[hi,f];(refine hn.own Ψ (ami b.t) (by simp[o0,ad]<;>omega) ?_;simp);(repeat' first|refine aq ?_|simp);have e:=U.snoc b (show n<=n+1+18 by omega) (show n+1+18<n+1+24 by omega);have d:=HT.kin e (dL _) [];simp[fresh]at d;refine bV.rng (n+1+24,out++[(b,n+1+18)]) hi ?_ ?_
  ·exact⟨Ψ,e,by rw[nZ g,<-a];simp⟩
  simp;exact⟨by simp[fresh,aH,az,cb,aK,ad];exact⟨rfl,d⟩,ep (by simp[fresh,aH,az,cb,aK,ad]),er (by simp[fresh,aH,az,cb,aK,ad,dU]),Ψ⟩
def mw.fst{s:List (List Bd)}{t:List Bd}{acc:List (List Bd)}(h:mw s 0 acc)(a:s[0]? =some t):mw s 1 (if jI s t=true then acc++[t]else acc):=by
 unfold mw at*;rw[uP a]at h;have e:(if(1:Nat)=0 then none else s[1-1]?)=some t:=by simpa using a
 have b:acc++(t::cS (some t) (s.drop 1)).filter (jI s)=(cS none s).filter (jI s):=by rw[<-h];simp[cS]
 rw[e,<-b];by_cases c:jI s t=true<;>simp[c]
def mw.eq{s:List (List Bd)}{i:Nat}{t:List Bd}{acc:List (List Bd)}(h:mw s i acc)(hi:i≠0)(b:s[i-1]? =some t)(a:s[i]? =some t):mw s (i+1) acc:=by
 unfold mw at*;rw[if_neg hi,b,uP a]at h;have e:(if i+1=0 then none else s[i+1-1]?)=some t:=by rw[if_neg Ω];exact a
 rw[e,<-h];simp[cS]
def mw.ne{s:List (List Bd)}{i:Nat}{p t:List Bd}{acc:List (List Bd)}(h:mw s i acc)(hi:i≠0)(b:s[i-1]? =some p)(a:s[i]? =some t)(f:¬p=t):mw s (i+1) (if jI s t=true then acc++[t]else acc):=by
 unfold mw at*;rw[if_neg hi,b,uP a]at h;have e:(if i+1=0 then none else s[i+1-1]?)=some t:=by rw[if_neg Ω];exact a
 have d:cS (some p) (t::s.drop (i+1))=t::cS (some t) (s.drop (i+1)):=by simp[cS,f]
 rw[d]at h;rw[e,<-h];by_cases c:jI s t=true<;>simp[c]
def aqk(l:List (List Bd)):(p1 e5 l).length=l.length:=(z1 e5 l).length_eq
def ak2(S:aA->Prop)(l:List (List Bd))(d:List Bd):aH S (l.map cM++[cM d])=True:=by have:=Ns S (l++[d]);rw[List.map_append]at this;exact h0 this
def wY(d:List Bd)(κ:Nat):af:= .slice 5 (.tr (.loc κ) 0) (d.map Bd.e)
def tk:nv wY cM:=⟨fun x n=>rfl,fun x n=>BZ n,fun x n=>by simp[wY,cM,b5],fun S x n h=>by simp[wY,az,h]⟩
def fin{s:List (List Bd)}{i:Nat}{out:List (List Bd×Nat)}{A:List (List Bd)}(e:out.map (·.1)=A)(h:A.length<=i+1/\mw s (i+1) A):out.length<=i+1/\mw s (i+1) (out.map (·.1)):=by subst e;simpa using h
def amg(l:List (List Bd))(X:∀d∈l,fm d):fP au 167 [cV (l.map cM)] fun κ=>.slice 1 (.tr (.loc κ) 0) ((lO l).map cM):=by
 generalize bu:lO l=R;rw[alS]at bu;refine fP.mk mixed a7 Tryz.func167 amz Ψ fun aT κ=>?_;unfold Rp;have ft:l.length<=68719476736:=by simp[eP,eU,eQ,lim]at aT;omega
 simp;refine eY [0,12,13] (fun i (_:Unit)=>[(14,aj i)]) l.length (fun _ _=>True) () cc trivial (fun _ _ _=>?_) (fun i _ hi _ _=>?_);rotate_left
 ·obtain⟨e,he,Me⟩:=eX hi;have hI:bX au 86 [cM e] (.bool true):=rz (X e (fx he));exact iW
 simp;(repeat' first|refine aq ?_|simp);all_goals try refine⟨by unfold lim;omega,?_⟩
 all_goals(repeat' first|refine aq ?_|simp)
 refine CallDo.ob (air l ft) (J1 l) (by unfold vp eA;exact aW) (by unfold vp eA;exact aW) (by simp[aK,eA,ad]) ?_;rintro r ak ⟨rfl,rfl⟩;refine⟨yx _ _,?_⟩;obtain⟨s,F⟩:∃s,s=p1 e5 l:=⟨_,rfl⟩;have qu:s.length=l.length:=by rw[F];exact aqk l
 have Q:∀d∈s,fm d:=fun d v=>X d (by rw[F,aaS]at v;exact v);rw[<-F]at bu;rw[<-F];clear F;simp[vp,eA,cJ];refine fX (fun i (x:Nat×List (List Bd×Nat))=>⟨[(5,.ptr (.obj 822) 0),(6,.slice 1 (.own (.loc 0)) (jf wY x.2)),(30,.row 1 (.obj 821) s.length),(31,aj s.length),(32,aj i)],[(.obj 822,[.row 1 (.obj 821) s.length])],[(.loc 0,⟨x.2.length,46,1,none⟩),(.obj 821,⟨s.length,46,1,some (s.map cM)⟩)],x.1,[.obj 821,.obj 822]⟩) s.length (fun i x=>1<=x.1/\qa x.1 x.2/\(x.2.map (·.1)).length<=i/\mw s i (x.2.map (·.1))) (1,[]) cc ⟨dL _,.nil _,Ψ,by simp[mw]⟩ (fun x f _=>?_) (fun i x hi f _=>?_)
 ·obtain⟨n,out⟩:=x;obtain⟨J,U,_,f⟩:=f;simp only at J U f;rw[mw,List.drop_length]at f;have ao:out.map (·.1)=R:=by rw[<-bu];simpa[cS]using f
  simp;(repeat' first|refine aq ?_|simp);(refine hP.val Ψ ?_;simp[ba,bd,a1,e0,ha,ez,gI,ec,gD,tnL,tn,fl,ga,fold,hq,ho,iw,ad,eo,cf,b5,tk.okL,tk.nodup U,tk.stL,ao])
 ·obtain⟨n,out⟩:=x;obtain⟨J,U,S,f⟩:=f;simp only at J U S f;have a:=tk.kin U (dL _) [.obj 821,.obj 822];simp[fresh]at a;have c:¬n=0:=Ω
  have zh:out.length<=68719476735:=by simp at S;omega
  generalize G:out.map (·.1)=acc at S f;have sO:acc.length<=68719476735:=Ω
  obtain⟨t,w,y⟩:=eX hi;have du:=Q t (fx w);have H:(if jI s t=true then acc++[t]else acc).length<=acc.length+1:=by split<;>simp
  rcases Nat.eq_zero_or_pos i with rfl|W
  ·have Z:=f.fst w;have o:(if jI s t=true then acc++[t]else acc).length<=0+1/\mw s (0+1) (if jI s t=true then acc++[t]else acc):=⟨kx H Ω,Z⟩;clear f Z w;simp[hi,y];(repeat' first|refine aq ?_|simp[hi,y]);refine eY [5,6,8,30,31,32,49,50] (fun j (b:Bool)=>[(9,.bool b),(51,aj j)]) s.length (q9 s t) true ⟨by simp[fresh,aH,az,cb,aK,ad,a,c],ep (by simp[fresh,aH,az,cb,aK,ad,a,c]),er (by simp[fresh,aH,az,dU,aK,ad,a,c]),Ψ⟩ (by simp[q9]) (fun keep f _=>?_) (fun j keep g f _=>?_)
   ·rw[q9,jv,<-WS]at f;rw[<-f]at o;clear f;cases keep with
    |false=>simp only[hN,if_false]at o;simp;(repeat' first|refine aq ?_|simp);all_goals exact bV.rng (n,out) hi ⟨J,U,fin G o⟩ ⟨by simp[fresh,aH,az,cb,aK,ad,a,c],ep (by simp[fresh,aH,az,cb,aK,ad,a,c]),er (by simp[fresh,aH,az,dU,aK,ad,a,c]),Ψ⟩
    |true=>
     simp only[if_true]at o;clear H;simp;(repeat' first|refine aq ?_|simp);(refine CallDo.own Ψ (EE t du.len) (by simp[eo]) ?_;simp);all_goals try refine⟨by unfold lim;omega,?_⟩
     all_goals(repeat' first|refine aq ?_|simp)
     have B:=U.snoc t (dL n) (show n<n+2 by omega);have E:=tk.kin B (dL _) [.obj 821,.obj 822];simp[fresh]at E;refine bV.rng (n+2,out++[(t,n)]) hi ?_ ?_
     ·exact⟨Ψ,B,fin (by simp[G]) o⟩
     simp;exact⟨by simp[fresh,aH,az,cb,aK,ad];exact⟨rfl,E⟩,ep (by simp[fresh,aH,az,cb,aK,ad]),er (by simp[fresh,aH,az,cb,aK,ad,dU]),Ψ⟩
   ·obtain⟨d,v,hdi⟩:=eX g;have k:=f.step v;have P:=Q d (fx v);have u:bX au 208 [cM d,cM t] (.bool (oA d t)):=abX d P.len du;have m:bX au 207 [cM d,cM t] (aj (e5 d t)):=JN d t;clear f v o;by_cases q:e5 d t=0
    ·rw[xJ,n5 ((mB.zero _ _).1 q),Bool.true_or,Bool.and_true]at k;rw[q]at m;simp[g,hdi];(repeat' first|refine aq ?_|refine aP m ?_|refine aQ m ?_|simp[g,hdi]);all_goals exact bV.rng keep g k ⟨by simp[fresh,aH,az,cb,aK,ad,a,c],ep (by simp[fresh,aH,az,cb,aK,ad,a,c]),er (by simp[fresh,aH,az,dU,aK,ad,a,c]),Ψ⟩
    ·rw[xJ,po (fun h=>q ((mB.zero _ _).2 h)),Bool.false_or]at k;have A:(e5 d t !=0)=true:=by simp[q]
     cases be:oA d t
     ·rw[be]at k u;simp only[Bool.not_false,Bool.and_true]at k;simp[g,hdi];(repeat' first|refine aq ?_|refine aP m ?_|refine aQ m ?_|refine aP u ?_|refine aQ u ?_|simp[g,hdi,q,A]);all_goals exact bV.rng keep g k ⟨by simp[fresh,aH,az,cb,aK,ad,a,c],ep (by simp[fresh,aH,az,cb,aK,ad,a,c]),er (by simp[fresh,aH,az,dU,aK,ad,a,c]),Ψ⟩
     ·rw[be]at k u;simp only[Bool.not_true,Bool.and_false]at k;simp[g,hdi];(repeat' first|refine aq ?_|refine aP m ?_|refine aQ m ?_|refine aP u ?_|refine aQ u ?_|simp[g,hdi,q,A]);all_goals exact bV.rng false g k ⟨by simp[fresh,aH,az,cb,aK,ad,a,c],ep (by simp[fresh,aH,az,cb,aK,ad,a,c]),er (by simp[fresh,aH,az,dU,aK,ad,a,c]),Ψ⟩
  ·obtain⟨p,z⟩:∃p,s[i-1]? =some p:=⟨_,cl Ω⟩;have M:((i:Int)-1).toNat=i-1:=Ω
   have N:∀h,(s[i-1]'h)=p:=fun h=>by rw[cl h]at z;exact e7 z
   have Y:¬i=0:=Ω
   have L:i-1<s.length:=Ω
   have K:(0:Int)<i:=Ω
   have ht:bX au 207 [cM p,cM t] (aj (e5 p t)):=JN p t;by_cases O:p=t
   ·have o:acc.length<=i+1/\mw s (i+1) acc:=⟨Ω,f.eq Y (by rw[z,O]) w⟩;rw[(mB.zero _ _).2 O]at ht;clear f w z;simp[hi,y,M,N,L,K];(repeat' first|refine aq ?_|refine aP ht ?_|refine aQ ht ?_|simp[hi,y,M,N,L,W,K]);all_goals exact bV.rng (n,out) hi ⟨J,U,fin G o⟩ ⟨by simp[fresh,aH,az,cb,aK,ad,a,c],ep (by simp[fresh,aH,az,cb,aK,ad,a,c]),er (by simp[fresh,aH,az,dU,aK,ad,a,c]),Ψ⟩
   ·have o:(if jI s t=true then acc++[t]else acc).length<=i+1/\mw s (i+1) (if jI s t=true then acc++[t]else acc):=⟨kx H Ω,f.ne Y z w O⟩;have V:¬e5 p t=0:=fun h=>O ((mB.zero _ _).1 h);have Y4:(e5 p t==0)=false:=by simp[V]
    clear f w z;simp[hi,y,M,N,L,K];(repeat' first|refine aq ?_|refine aP ht ?_|refine aQ ht ?_|simp[hi,y,M,N,L,W,K,V,Y4]);refine eY [5,6,8,30,31,32,49,50] (fun j (b:Bool)=>[(9,.bool b),(51,aj j)]) s.length (q9 s t) true ⟨by simp[fresh,aH,az,cb,aK,ad,a,c],ep (by simp[fresh,aH,az,cb,aK,ad,a,c]),er (by simp[fresh,aH,az,dU,aK,ad,a,c]),Ψ⟩ (by simp[q9]) (fun keep f _=>?_) (fun j keep g f _=>?_)
    ·rw[q9,jv,<-WS]at f;rw[<-f]at o;clear f;cases keep with
     |false=>simp only[hN,if_false]at o;simp;(repeat' first|refine aq ?_|simp);all_goals exact bV.rng (n,out) hi ⟨J,U,fin G o⟩ ⟨by simp[fresh,aH,az,cb,aK,ad,a,c],ep (by simp[fresh,aH,az,cb,aK,ad,a,c]),er (by simp[fresh,aH,az,dU,aK,ad,a,c]),Ψ⟩
     |true=>
      simp only[if_true]at o;clear H;simp;(repeat' first|refine aq ?_|simp);(refine CallDo.own Ψ (EE t du.len) (by simp[eo]) ?_;simp);all_goals try refine⟨by unfold lim;omega,?_⟩
      all_goals(repeat' first|refine aq ?_|simp)
      have B:=U.snoc t (dL n) (show n<n+2 by omega);have E:=tk.kin B (dL _) [.obj 821,.obj 822];simp[fresh]at E;refine bV.rng (n+2,out++[(t,n)]) hi ?_ ?_
      ·exact⟨Ψ,B,fin (by simp[G]) o⟩
      simp;exact⟨by simp[fresh,aH,az,cb,aK,ad];exact⟨rfl,E⟩,ep (by simp[fresh,aH,az,cb,aK,ad]),er (by simp[fresh,aH,az,cb,aK,ad,dU]),Ψ⟩
    ·obtain⟨d,v,hdi⟩:=eX g;have k:=f.step v;have P:=Q d (fx v);have u:bX au 208 [cM d,cM t] (.bool (oA d t)):=abX d P.len du;have m:bX au 207 [cM d,cM t] (aj (e5 d t)):=JN d t;clear f v o;by_cases q:e5 d t=0
     ·rw[xJ,n5 ((mB.zero _ _).1 q),Bool.true_or,Bool.and_true]at k;rw[q]at m;simp[g,hdi];(repeat' first|refine aq ?_|refine aP m ?_|refine aQ m ?_|simp[g,hdi]);all_goals exact bV.rng keep g k ⟨by simp[fresh,aH,az,cb,aK,ad,a,c],ep (by simp[fresh,aH,az,cb,aK,ad,a,c]),er (by simp[fresh,aH,az,dU,aK,ad,a,c]),Ψ⟩
     ·rw[xJ,po (fun h=>q ((mB.zero _ _).2 h)),Bool.false_or]at k;have A:(e5 d t !=0)=true:=by simp[q]
      cases be:oA d t
      ·rw[be]at k u;simp only[Bool.not_false,Bool.and_true]at k;simp[g,hdi];(repeat' first|refine aq ?_|refine aP m ?_|refine aQ m ?_|refine aP u ?_|refine aQ u ?_|simp[g,hdi,q,A]);all_goals exact bV.rng keep g k ⟨by simp[fresh,aH,az,cb,aK,ad,a,c],ep (by simp[fresh,aH,az,cb,aK,ad,a,c]),er (by simp[fresh,aH,az,dU,aK,ad,a,c]),Ψ⟩
      ·rw[be]at k u;simp only[Bool.not_true,Bool.and_false]at k;simp[g,hdi];(repeat' first|refine aq ?_|refine aP m ?_|refine aQ m ?_|refine aP u ?_|refine aQ u ?_|simp[g,hdi,q,A]);all_goals exact bV.rng false g k ⟨by simp[fresh,aH,az,cb,aK,ad,a,c],ep (by simp[fresh,aH,az,cb,aK,ad,a,c]),er (by simp[fresh,aH,az,dU,aK,ad,a,c]),Ψ⟩
def ar7(l:List T)(h:∀t∈l,t.fit=true):bX au 172 [eb (l.map T.e)] (.bool true):=by
 refine bL a7 Tryz.func172 am9 fun b=>?_;unfold RZ;have d:l.length<=68719476736:=by simp[eP,eU,eQ,lim]at b;omega
 simp;refine eY [5,6] (fun i (_:Unit)=>[(7,aj i)]) l.length (fun _ _=>True) () cc trivial (fun _ _ _=>?_) (fun i _ hi _ _=>?_)
 ·exact cB
 ·obtain⟨t,a,c⟩:=eX hi;have e:=P9 (h t (fx a));clear a;exact iW
def jy(m:Int):cQ:=⟨[(.obj 831,[aj m])],[]⟩
def wN(m:Int):eB (jy m):=by unfold jy;exact eB.of ⟨by intro m;simp[ad],by intro m;simp[ad]⟩ Ψ Ψ
def acF(a b:Int):Same (jy a) (jy b):=Same.keys (by simp[jy]) (by simp[jy])
def ahM(v m b:Int)(h:FH v m=some b):bD au 204 [aj v,.ptr (.obj 831) 0] (jy m) fun r d=>r= .tuple []/\d=jy b:=by
 unfold FH at h;split at h;rotate_left
 ·cases h
 rename_i f;cases h;have a:=wN m;simp only[jy]at a⊢;by_cases hm:m<v+1
 ·rw[tL,if_pos hm];refine bD.mk mixed a7 Tryz.func204 Yr Ψ a.obj fun e c=>?_;unfold Kw;simp;(repeat' first|refine aq ?_|simp[hm]);(refine c3.at (jy (v+1)) Ψ (by first|exact wN _|exact wN ‹_› _) (Same.keys (by simp[jy]) (by simp[jy])) (by simp only[jy,b3,ca];exact aW) (by simp only[jy,b3,ca];exact aW) ?_;simp[c9,ba,bd,a1,aK,ad,jy])
 ·rw[tL,if_neg hm];refine bD.mk mixed a7 Tryz.func204 Yr Ψ a.obj fun e c=>?_;unfold Kw;simp;(repeat' first|refine aq ?_|simp[hm]);(refine c3.at (jy m) Ψ (by first|exact wN _|exact wN ‹_› _) (Same.keys (by simp[jy]) (by simp[jy])) (by simp only[jy,b3,ca];exact aW) (by simp only[jy,b3,ca];exact aW) ?_;simp[c9,ba,bd,a1,aK,ad,jy])
def FG(l:List T):Int:=l.foldl (fun m t=>t.fold tL m) 0
def HM(l:List T)(i:Nat)(m:Int):Prop:=m=FG (l.take i)
def aq4(l:List T)(h:∀t∈l,t.fit=true):bX au 162 [eb (l.map T.e)] (aj (FG l)):=by
 have f:=ar7 l h;generalize bu:FG l=R;refine bL a7 Tryz.func162 amG fun g=>?_;unfold Rw;have k:l.length<=68719476736:=by simp[eP,eU,eQ,lim]at g;omega
 simp;(repeat' first|refine aq ?_|refine aP f ?_|refine aQ f ?_|simp);refine fX (fun i (m:Int)=>⟨[(3,.ptr (.obj 831) 0),(9,eb (l.map T.e)),(10,aj l.length),(11,aj i)],[(.obj 831,[aj m])],[],0,[.obj 831]⟩) l.length (HM l) 0 cc rfl (fun m b _=>?_) (fun i m hi b _=>?_)
 ·rw[HM,jv,bu]at b;subst b;exact cB
 ·obtain⟨t,d,e⟩:=eX hi;have c:t.ok=true:=by have:=h t (fx d);simp only[T.fit,cP]at this;exact this.1
  have j:HM l (i+1) (t.fold tL m):=by rw[HM,nZ d,FG,List.foldl_append,b];rfl
  have key:=LL jy wN acF 204 [.ptr (.obj 831) 0] (fun a=>by simp[jy,aK,ad]) Ψ FH (fun v a bs h=>ahM v a bs h) t m _ (Qi t m c);clear b d;simp[hi,e];(repeat' first|refine aq ?_|simp[e,hi]);(refine CallDo.ob (key) (by first|exact wN _|exact wN ‹_› _) (by simp only[jy,b3,ca];exact aW) (by simp only[jy,b3,ca];exact aW) (by simp[aK,ad,jy]) ?_;rintro r n ⟨rfl,rfl⟩;refine⟨(Same.keys (by simp[jy]) (by simp[jy])),?_⟩;simp[cJ,jy]);(repeat' first|refine aq ?_|simp);refine bV.rng (t.fold tL m) hi j ?_;exact cc
def abI{s:List Bd}(l:fm s){n:Int}(u:0<=n):bX au 89 [bK (s.map Bd.e),aj n] (.bool (s.all (lD n))):=by
 have v:=l.len;generalize bu:s.all (lD n)=R;refine bL a7 Tryz.func89 amH fun x=>?_;unfold Rx;simp;refine eY [1,7,8] (fun i (_:Unit)=>[(9,aj i)]) s.length (tf (lD n) s) () cc (fun k b f=>Ω) (fun _ a _=>?_) (fun i _ hi a _=>?_)
 ·have:R=true:=by rw[<-bu,j7];intro b r;obtain⟨k,f,e⟩:=pk r;exact a k b f (by rw[cl f,e])
  rw[this];exact cB
 ·obtain⟨b,c,w⟩:=eX hi;have g:lD n b=false->R=false:=fun h=>by rw[<-bu,Bool.eq_false_iff];intro j;rw[j7]at j;rw[j b (fx c)]at h;cases h
  have d:=aq4 [b.t] (fun t o=>by simp at o;subst o;exact l.fit b (fx c));have hle:=Qj (n:=n) b.t 0;rw[show FG [b.t]=b.t.fold tL 0 from rfl]at d;simp only[hc,List.map_nil]at d;generalize b.t.fold tL 0=m at d hle;by_cases J:b.v<n
  ·have p:¬n<=b.v:=Ω
   cases U:jA n b.t
   ·have q:n<m:=by rw[U]at hle;simp at hle;omega
    rw[g (by simp[lD,U])];clear a c hle;exact cB
   ·have q:¬n<m:=by rw[U]at hle;simp[u]at hle;omega
    have y:=a.step c (by simp[lD,J,U]);clear a c hle;exact iW
  ·have p:n<=b.v:=Ω
   rw[g (by simp[lD,J])];clear a c hle;exact cB
def wS:C:=(aa [dc 1 0,bA 2 false] (.seq (aa [aF 11 0 1 1,ay 12 1 11,aV 13 .lss 12 0,I 14 13,ax 14 false (aF 15 0 1 1),ax 14 false (ay 16 1 15),ax 14 false (aV 17 .gtr 16 100000),dq 18 14 17,I 19 18,ax 19 false (aF 20 1 1 1),ax 19 false (ay 21 1 20),ax 19 false (da 22 86 21),ax 19 false (cR 23 22),dq 24 19 23,I 25 24,ax 25 false (aF 26 3 1 1),ax 25 false (ay 27 1 26),ax 25 false (da 28 87 27),ax 25 false (cR 29 28),dq 30 25 29,I 31 30,ax 31 false (aF 32 4 1 1),ax 31 false (ay 33 1 32),ax 31 false (da 34 88 33),ax 31 false (cR 35 34),dq 36 31 35,I 37 36,ax 37 false (aF 38 1 1 1),ax 37 false (ay 39 1 38),ax 37 false (aF 40 0 1 1),ax 37 false (ay 41 1 40),ax 37 false (cj 42 89 39 41),ax 37 false (cR 43 42),dq 44 37 43] (aZ 44 (aa [bA 2 false] .ret) .skip)) (.seq (aa [aF 45 2 1 1,ay 46 1 45,cw 47 46,bQ 48 0] (gq 49 48 47 (.seq (.block 1 (aa [ck 50 1 46 48,ay 51 1 50,I 4 51] (aa [I 52 4,da 53 86 52,cR 54 53,I 55 54,cd 55 false 56 4,ax 55 false (aF 57 0 1 1),ax 55 false (ay 58 1 57),ax 55 false (cj 59 89 56 58),ax 55 false (cR 60 59),dq 61 55 60] (aZ 61 (aa [bA 2 false] .ret) .skip)))) (.region [aV 62 .add 48 1,I 48 62])))) (.seq (aa [aF 63 3 1 1,ay 64 1 63,cw 65 64,bQ 66 0] (.block 2 (.loop (aa [br 67 .lss 66 65] (.seq (aZ 67 .skip (.exit 2)) (.seq (.block 3 (aa [ck 68 2 64 66,bq 69 2 68,dr (.alloc 6 none (.agg [.int .i64 0,.int .i64 0])),bW 2 6 69] (aa [aF 70 0 1 6,ay 71 1 70,aF 72 0 1 1,ay 73 1 72,br 74 .geq 71 73] (aZ 74 (aa [bA 2 false] .ret) .skip)))) (.region [aV 75 .add 66 1,I 66 75]))))))) (.seq (aa [aF 76 4 1 1,ay 77 1 76,cw 78 77,bQ 79 0] (.block 4 (.loop (aa [br 80 .lss 79 78] (.seq (aZ 80 .skip (.exit 4)) (.seq (.block 5 (aa [ck 81 2 77 79,bq 82 2 81,dr (.alloc 8 none (.agg [.int .i64 0,.str []])),bW 2 8 82] (aa [aF 83 0 1 8,ay 84 1 83,aF 85 0 1 1,ay 86 1 85,br 87 .geq 84 86] (aZ 87 (aa [bA 2 false] .ret) .skip)))) (.region [aV 88 .add 79 1,I 79 88]))))))) (aa [bq 90 5 1,da 91 90 90,I 89 91,dm 92 0 89,dm 93 1 89,dR 9 jJ,bW 5 9 92,I 10 93] (aa [I 94 10,I 95 94,ax 95 true (bq 96 5 9),ax 95 true (bq 97 5 1),ax 95 true (cj 98 91 96 97),ev 99 95 98,I 2 99] .ret)))))))
def Gh:C:=(aa [dc 1 0,dR 2 jJ,bA 3 false] (aa [aF 26 1 1 1,ay 27 1 26,aF 28 3 1 1,ay 29 1 28,cj 30 163 27 29,I 25 30,dm 31 0 25,dm 32 1 25,I 4 31,I 5 32] (aa [aF 34 1 1 1,ay 35 1 34,aF 36 4 1 1,ay 37 1 36,cj 38 164 35 37,I 33 38,dm 39 0 33,dm 40 1 33,I 6 39,I 7 40] (.seq (aa [I 41 5,cR 42 41,I 43 42,cd 43 false 44 7,ax 43 false (cR 45 44),dq 46 43 45] (aZ 46 (aa [j6 47 jJ [],bW 5 2 47,bA 3 false] .ret) .skip)) (aa [dr (.mkmap 48 none),I 8 48] (.seq (aa [I 49 4,cw 50 49,bQ 51 0] (gq 52 51 50 (.seq (.block 1 (aa [ck 53 2 49 51,bq 54 2 53,dr (.alloc 10 none (.agg [.int .i64 0,.int .i64 0])),bW 2 10 54] (aa [aF 55 1 1 10,ay 56 1 55,aV 57 .eql 56 3] (aZ 57 (.region [I 58 8,aF 59 0 1 10,ay 60 1 59,dr (.mput .i (.t 58) (.t 60) (.c (.bool true)))]) .skip)))) (.region [aV 61 .add 51 1,I 51 61])))) (aa [fp 62 2 100 [],I 11 62] (.seq (aa [I 63 6,cw 64 63,bQ 65 0] (.block 2 (.loop (aa [br 66 .lss 65 64] (.seq (aZ 66 .skip (.exit 2)) (.seq (.block 3 (aa [ck 67 2 63 65,bq 68 2 67,dr (.alloc 13 none (.agg [.int .i64 0,.str []])),bW 2 13 68] (aa [I 69 8,aF 70 0 1 13,ay 71 1 70,b9 72 (.mget .i (.bool false) false (.t 69) (.t 71)),cR 73 72] (aZ 73 (.region [I 74 11,bq 75 2 13,fp 76 2 100 [.t 75],im 77 2 100 74 76,I 11 77]) .skip)))) (.region [aV 78 .add 65 1,I 65 78]))))))) (aa [fp 79 1 46 [],I 14 79] (.seq (aa [aF 80 2 1 1,ay 81 1 80,cw 82 81,bQ 83 0] (.block 4 (.loop (aa [br 84 .lss 83 82] (.seq (aZ 84 .skip (.exit 4)) (.seq (.block 5 (aa [ck 85 1 81 83,ay 86 1 85,I 16 86] (aa [aF 88 1 1 1,ay 89 1 88,I 90 16,cj 91 165 89 90,I 87 91,dm 92 0 87,dm 93 1 87,I 17 92,I 18 93] (.seq (aa [I 94 18,cR 95 94] (aZ 95 (.exit 5) .skip)) (aa [I 97 17,I 98 4,cj 99 163 97 98,I 96 99,dm 100 0 96,dm 101 1 96,I 19 100,I 20 101] (aa [I 103 17,I 104 11,cj 105 164 103 104,I 102 105,dm 106 0 102,dm 107 1 102,I 21 106,I 22 107] (.seq (aa [I 108 20,cR 109 108,I 110 109,cd 110 false 111 22,ax 110 false (cR 112 111),dq 113 110 112] (aZ 113 (.exit 5) .skip)) (aa [aF 114 1 1 1,ay 115 1 114,I 116 17,cj 117 166 115 116,I 23 117] (.seq (aa [I 118 23,cw 119 118,aV 120 .eql 119 0] (aZ 120 (aa [j6 121 jJ [],bW 5 2 121,bA 3 false] .ret) .skip)) (.region [I 122 14,I 123 23,fp 124 1 46 [.t 123],im 125 1 46 122 124,I 14 125])))))))))) (.region [aV 126 .add 83 1,I 83 126]))))))) (aa [I 127 14,da 128 167 127,I 24 128] (.seq (aa [I 129 24,cw 130 129,aV 131 .gtr 130 30] (aZ 131 (aa [j6 132 jJ [],bW 5 2 132,bA 3 false] .ret) .skip)) (.seq (.drawn true 142 [aF 133 0 1 1,ay 134 1 133,aF 135 1 1 1,ay 136 1 135,da 137 168 136,I 138 24,I 139 4,I 140 11,j6 141 jJ [(0,1,(.t 134)),(1,1,(.t 137)),(2,1,(.t 138)),(3,1,(.t 139)),(4,1,(.t 140))],bW 5 2 141,bA 3 true]) .ret)))))))))))))
def yF:C:=(aa [dc 2 0,dc 3 1,bA 4 false] (.seq (aa [aF 8 0 1 2,ay 9 1 8,aF 10 0 1 3,ay 11 1 10,br 12 .neq 9 11,I 13 12,ax 13 false (aF 14 1 1 2),ax 13 false (ay 15 1 14),ax 13 false (aF 16 1 1 3),ax 13 false (ay 17 1 16),ax 13 false (cj 18 169 15 17),ax 13 false (cR 19 18),dq 20 13 19,I 21 20,ax 21 false (aF 22 2 1 2),ax 21 false (ay 23 1 22),ax 21 false (cw 24 23),ax 21 false (aF 25 2 1 3),ax 21 false (ay 26 1 25),ax 21 false (cw 27 26),ax 21 false (br 28 .neq 24 27),dq 29 21 28,I 30 29,ax 30 false (aF 31 3 1 2),ax 30 false (ay 32 1 31),ax 30 false (cw 33 32),ax 30 false (aF 34 3 1 3),ax 30 false (ay 35 1 34),ax 30 false (cw 36 35),ax 30 false (br 37 .neq 33 36),dq 38 30 37,I 39 38,ax 39 false (aF 40 4 1 2),ax 39 false (ay 41 1 40),ax 39 false (cw 42 41),ax 39 false (aF 43 4 1 3),ax 39 false (ay 44 1 43),ax 39 false (cw 45 44),ax 39 false (br 46 .neq 42 45),dq 47 39 46] (aZ 47 (aa [bA 4 false] .ret) .skip)) (.seq (aa [aF 48 2 1 2,ay 49 1 48,cw 50 49,bQ 51 0] (gq 52 51 50 (.seq (.block 1 (aa [I 53 51,I 5 53] (.seq (.drawn true 103 [aF 54 2 1 2,ay 55 1 54,I 56 5,ck 57 1 55 56,ay 58 1 57,aF 59 2 1 3,ay 60 1 59,I 61 5,ck 62 1 60 61,ay 63 1 62,cj 64 169 58 63,cR 65 64]) (aZ 65 (aa [bA 4 false] .ret) .skip)))) (.region [aV 66 .add 51 1,I 51 66])))) (.seq (aa [aF 67 3 1 2,ay 68 1 67,cw 69 68,bQ 70 0] (.block 2 (.loop (aa [br 71 .lss 70 69] (.seq (aZ 71 .skip (.exit 2)) (.seq (.block 3 (aa [I 72 70,I 6 72] (.seq (.drawn true 103 [aF 73 3 1 2,ay 74 1 73,I 75 6,ck 76 2 74 75,bq 77 2 76,aF 78 3 1 3,ay 79 1 78,I 80 6,ck 81 2 79 80,bq 82 2 81,b9 83 (.beq true (some [false,false]) (.t 77) (.t 82))]) (aZ 83 (aa [bA 4 false] .ret) .skip)))) (.region [aV 84 .add 70 1,I 70 84]))))))) (.seq (aa [aF 85 4 1 2,ay 86 1 85,cw 87 86,bQ 88 0] (.block 4 (.loop (aa [br 89 .lss 88 87] (.seq (aZ 89 .skip (.exit 4)) (.seq (.block 5 (aa [I 90 88,I 7 90] (.seq (.drawn true 103 [aF 91 4 1 2,ay 92 1 91,I 93 7,ck 94 2 92 93,bq 95 2 94,aF 96 4 1 3,ay 97 1 96,I 98 7,ck 99 2 97 98,bq 100 2 99,b9 101 (.beq true (some [false,true]) (.t 95) (.t 100))]) (aZ 101 (aa [bA 4 false] .ret) .skip)))) (.region [aV 102 .add 88 1,I 88 102]))))))) (aa [bA 4 true] .ret))))))
def zD:b6 aS wS [.tmp 2] 1 Tryz.f29=true:=bi
def Oq:b6 aS Gh [.cell 2 true 5,.tmp 3] 1 Tryz.f90=true:=bi
def B4:b6 aS yF [.tmp 4] 2 Tryz.f91=true:=bi
def dO.e(s:dO):af:= .agg [aj s.n,bK (s.b.map Bd.e),cV (s.d.map cM),b4 (s.k.map bG.e),b4 (s.m.map bn.e)]
def Pn(o:bc dO):af:= .tuple [(o.getD ju).e,.bool o.isSome]
def v8(k:List bG)(i:Nat)(l:List (Int×Bool)):Prop:= ∀v,(dn v l).getD false=(k.take i).any fun x=>x.v==v&&x.k==3
def v8.put{k:List bG}{i:Nat}{l:List (Int×Bool)}(h:v8 k i l){x:bG}(b:k[i]? =some x)(a:x.k=3):v8 k (i+1) (fy x.v true l):=fun v=>by
 rw[oH,nZ b,List.any_append,<-h v];by_cases e:v=x.v
 ·rw[if_pos e];simp[e,a]
 ·rw[if_neg e];have:(x.v==v)=false:=by simp;exact fun h=>e h.symm
  simp[this]
def v8.skip{k:List bG}{i:Nat}{l:List (Int×Bool)}(h:v8 k i l){x:bG}(b:k[i]? =some x)(a:¬x.k=3):v8 k (i+1) l:=fun v=>by
 rw[nZ b,List.any_append,<-h v];have:(x.k==3)=false:=by simp[a]
 simp[this]
def v8.fin{k:List bG}{l:List (Int×Bool)}(h:v8 k k.length l)(a:ht k)(x:bn):(dn x.v l).getD false= !ln k x:=by rw[h x.v,jv,acU a.asc,ln,bne,Bool.not_not]
def uH(k:List bG)(m:List bn)(i:Nat)(a:List bn):Prop:=a=(m.take i).filter (ln k)
def uH.step{k:List bG}{m:List bn}{i:Nat}{a:List bn}(h:uH k m i a){x:bn}(b:m[i]? =some x):uH k m (i+1) (if ln k x=true then a++[x]else a):=by
 rw[uH,nZ b,List.filter_append,<-h];by_cases e:ln k x=true
 ·rw[if_pos e];simp[e]
 ·rw[if_neg e];simp[e]
def BE(S:aA->Prop)(l:List bn)(d:bn):aH S (l.map bn.e++[d.e])=True:=by have:=Nr S (l++[d]);rw[List.map_append]at this;exact h0 this
def XE{k:List bG}{m:List bn}(h:jK m):jK (m.filter (ln k)):=⟨fun x a=>h.at' x (oL.1 a).1,aco _ h.asc⟩
def abh{G:List (List cW)}{k:List bG}{m:List bn}(h:oG G m):oG G (m.filter (ln k)):=fun x a=>h x (oL.1 a).1
def ra.skip{b:List Bd}{k:List bG}{m:List bn}{aX:List (List Bd)}{i:Nat}{a:List (List Bd)}(h:ra b k m aX i a){d:List Bd}(c:aX[i]? =some d)(he:∀r,hJ b k m (d::r)=hJ b k m r):ra b k m aX (i+1) a:=⟨by have:=h.1;omega,h.2.1,by rw[<-h.2.2,uP c,he]⟩
def ra.snoc{b:List Bd}{k:List bG}{m:List bn}{aX:List (List Bd)}{i:Nat}{a:List (List Bd)}(h:ra b k m aX i a){d x:List Bd}(f:aX[i]? =some d)(e:fm x)(he:∀r,hJ b k m (d::r)=(hJ b k m r).map (x:: ·)):ra b k m aX (i+1) (a++[x]):=
 ⟨by have:=h.1;simp;omega,fun y c=>by
  rcases j2.1 c with c|c
  ·exact h.2.1 y c
  ·simp at c;subst c;exact e,by
  rw[<-h.2.2,uP f,he,Option.map_map];congr 1;funext r;simp⟩
def ra.stop{b:List Bd}{k:List bG}{m:List bn}{aX:List (List Bd)}{i:Nat}{a:List (List Bd)}(h:ra b k m aX i a){d:List Bd}(c:aX[i]? =some d)(he:∀r,hJ b k m (d::r)=none):hJ b k m aX=none:=by rw[<-h.2.2,uP c,he];rfl
def ra.fin{b:List Bd}{k:List bG}{m:List bn}{aX:List (List Bd)}{a:List (List Bd)}(h:ra b k m aX aX.length a):hJ b k m aX=some a:=by rw[<-h.2.2,List.drop_length];simp[hJ]
def uL(S:aA->Prop)(l:List (List Bd))(d:List Bd):aH S (l.map cM++[bK (d.map Bd.e)])=True:=ak2 S l d
def De{d:List Bd}(a:fm d):∀e∈iG d,e.1.ok=true/\e.2.ok=true:=fun e he=>by obtain⟨c,aw,rfl⟩:=hz.1 he;have:=a.ok c aw;exact⟨by simpa[T.ok]using this.1,this.2⟩
@[simp]def avN(l:List bn):ga (l.map bn.e)=True:=h0 (EH (f:=bn.e) (fun _=>⟨trivial,trivial,trivial⟩) l)
@[simp]def awY(l:List bn):tnL (l.map bn.e)=[]:=JF (f:=bn.e) (fun _=>rfl) l
def dO.kk(s:dO)(κ:Nat):af:= .agg [aj s.n,.slice 5 (.tr (.loc κ) 0) (s.b.map Bd.e),.slice 1 (.tr (.loc κ) 1) (s.d.map cM),.slice 2 (.tr (.loc κ) 2) (s.k.map bG.e),.slice 2 (.tr (.loc κ) 3) (s.m.map bn.e)]
def x5(o:bc dO)(κ:Nat):af:= .tuple [(o.getD ju).kk κ,.bool o.isSome]
def apE:nW none=fun κ=>.tuple [.slice 2 (.tr (.loc κ) 0) [],.bool false]:=rfl
def aas(k:List bG):nW (some k)=fun κ=>.tuple [.slice 2 (.tr (.loc κ) 0) (k.map bG.e),.bool true]:=rfl
def amj{s:dO}(h:yc s){G:List (List cW)}(mV:G.length<=687000)(be:oG G s.m):fP au 90 [s.e] (x5 (mG s)):=by
 generalize f:mG s=O;have w:=Yf h.b h.k;have u:=abG h.b h.m mV be;have kk:=fun k=>I3 (acc:=[]) (a:=k) h.b h.k.at' ⟨Ψ,Ψ⟩;have E:=fun m=>I4 (acc:=[]) (a:=m) h.b h.m.at' ⟨Ψ,by simp[iM]⟩;have F:=fun m=>Pa (acc:=[]) (a:=m) (s:=s.b) be (fun x g=>by simp at g);have K:=h.b;have aJ:=h.d;clear h be;unfold mG at f;obtain⟨n,b,d,Q,m0⟩:=s;simp only at w u kk E F K aJ f;have gd:=K.len;simp only[dO.e];generalize gO b Q []=ok at w f kk;generalize gS b m0 []=om at u f E F;cases ok with
 |none=>
  simp only at f;subst f;simp only[apE]at w;simp only[jY]at u;clear kk E F;refine fP.mk mixed a7 Tryz.func90 Oq Ψ fun aT κ=>?_;unfold Gh;simp;(repeat' first|refine aq ?_|simp);(refine CallDo.own Ψ (w) (by simp[eo]) ?_;simp);(repeat' first|refine aq ?_|refine aP u ?_|refine aQ u ?_|simp);all_goals(refine hP.val Ψ ?_;simp[ba,bd,a1,e0,ha,ez,gI,ec,gD,tnL,tn,fl,ga,fold,hq,ho,iw,ad,eo,cf,b5])
  all_goals simp[x5,ju,dO.kk]
 |some k=>
  simp only at f;cases om with
  |none=>
   simp only at f;subst f;simp only[aas]at w;simp only[jY]at u;clear kk E F;refine fP.mk mixed a7 Tryz.func90 Oq Ψ fun aT κ=>?_;unfold Gh;simp;(repeat' first|refine aq ?_|simp);(refine CallDo.own Ψ (w) (by simp[eo]) ?_;simp);(repeat' first|refine aq ?_|refine aP u ?_|refine aQ u ?_|simp);all_goals(refine hP.val Ψ ?_;simp[ba,bd,a1,e0,ha,ez,gI,ec,gD,tnL,tn,fl,ga,fold,hq,ho,iw,ad,eo,cf,b5])
   all_goals simp[x5,ju,dO.kk]
  |some m=>
   simp only at f;have W:=kk k rfl;have U:=E m rfl;have V:=F m rfl;have jr:=ti W;have nH:m.length<=68719470000:=by have:=Eu U V;omega
   have Bi:=XE (k:=k) U;have Bb:=abh (k:=k) V;have ajE:(m.filter (ln k)).length<=68719470000:=kx (List.length_filter_le _ _) nH;simp only[aas]at w;simp only[jY,mK,vh]at u;clear kk E F;refine fP.mk mixed a7 Tryz.func90 Oq Ψ fun aT κ=>?_;unfold Gh;have Mc:d.length<=68719476736:=by simp[eP,eU,eQ,lim]at aT;omega
   simp;(repeat' first|refine aq ?_|simp);(refine CallDo.own Ψ (w) (by simp[eo]) ?_;simp);(repeat' first|refine aq ?_|refine aP u ?_|refine aQ u ?_|simp);refine fX (fun i (l:List (Int×Bool))=>⟨[(1,.ptr (.loc 0) 0),(2,.ptr (.loc 1) 0),(4,.slice 2 (.tr (.loc 2) 0) (k.map bG.e)),(6,b4 (m.map bn.e)),(8,.gmap (.loc 3)),(49,.slice 2 (.tr (.loc 2) 0) (k.map bG.e)),(50,aj k.length),(51,aj i)],[(.loc 0,[aj n,bK (b.map Bd.e),cV (d.map cM),b4 (Q.map bG.e),b4 (m0.map bn.e)]),(.loc 1,[aj 0,.slice 5 .nil [],.slice 1 .nil [],.slice 2 .nil [],.slice 2 .nil []]),(.loc 3,rh l)],[],4,[]⟩) k.length (v8 k) [] ⟨by simp[fresh,aH,az,cb,aK,ad,NH],ep (by simp[fresh,aH,az,cb,aK,ad,NH]),er (by simp[fresh,aH,az,dU,aK,ad,NH]),Ψ⟩ (fun v=>by simp[dn]) (fun l c _=>?_) (fun i l hi c _=>?_);rotate_left
   ·obtain⟨x,g,o⟩:=eX hi;by_cases Z:x.k=3
    ·have j:=c.put g Z;clear c g;exact iW
    ·have j:=c.skip g Z;have uu:(x.k==3)=false:=by simp[Z]
     clear c g;exact iW
   have hints:=c.fin W;clear c;simp;(repeat' first|refine aq ?_|simp);refine fX (fun i (a:List bn)=>⟨[(1,.ptr (.loc 0) 0),(2,.ptr (.loc 1) 0),(4,.slice 2 (.tr (.loc 2) 0) (k.map bG.e)),(8,.gmap (.loc 3)),(11,.slice 2 (.own (.loc 4)) (a.map bn.e)),(63,b4 (m.map bn.e)),(64,aj m.length),(65,aj i)],[(.loc 0,[aj n,bK (b.map Bd.e),cV (d.map cM),b4 (Q.map bG.e),b4 (m0.map bn.e)]),(.loc 1,[aj 0,.slice 5 .nil [],.slice 1 .nil [],.slice 2 .nil [],.slice 2 .nil []]),(.loc 3,rh l)],[(.loc 4,⟨a.length,100,2,none⟩)],5,[]⟩) m.length (uH k m) [] cc (by simp[uH]) (fun a c _=>?_) (fun i a hi c _=>?_);rotate_left
   ·obtain⟨x,g,o⟩:=eX hi;have sO:a.length<=68719470000:=by
     have:a.length<=(m.take i).length:=by rw[c];exact List.length_filter_le _ _
     simp at this;omega
    have j:=c.step g;have J:=hints x;cases R:ln k x
    ·rw[R]at j J;simp only[hN,if_false,Bool.not_false]at j J;clear c g R;simp[hi,o];((repeat' first|refine aq ?_|simp[hi,o,J]|((first|apply cu|apply cy|apply cx)<;>intro h<;>try simp at h))<;>(try exact c4));all_goals exact bV.rng a hi j cc
    ·rw[R]at j J;simp only[if_true,Bool.not_true]at j J;clear c g R;simp[hi,o];((repeat' first|refine aq ?_|simp[hi,o,J]|((first|apply cu|apply cy|apply cx)<;>intro h<;>try simp at h))<;>(try exact c4));all_goals try refine⟨by unfold lim;omega,?_⟩
     all_goals(repeat' first|refine aq ?_|simp)
     all_goals exact bV.rng (a++[x]) hi j ⟨by simp[fresh,aH,az,cb,aK,ad,BE],ep (by simp[fresh,aH,az,cb,aK,ad,BE]),er (by simp[fresh,aH,az,dU,aK,ad,BE]),Ψ⟩
   rw[uH,jv]at c;rw[<-c]at Bi Bb ajE f;clear c hints jr U V;simp;(repeat' first|refine aq ?_|simp);refine fX (fun i (L:List (List Bd))=>⟨[(1,.ptr (.loc 0) 0),(2,.ptr (.loc 1) 0),(4,.slice 2 (.tr (.loc 2) 0) (k.map bG.e)),(11,.slice 2 (.own (.loc 4)) (a.map bn.e)),(14,.slice 1 (.own (.loc 5)) (L.map cM)),(81,cV (d.map cM)),(82,aj d.length),(83,aj i)],[(.loc 0,[aj n,bK (b.map Bd.e),cV (d.map cM),b4 (Q.map bG.e),b4 (m0.map bn.e)]),(.loc 1,[aj 0,.slice 5 .nil [],.slice 1 .nil [],.slice 2 .nil [],.slice 2 .nil []])],[(.loc 4,⟨a.length,100,2,none⟩),(.loc 5,⟨L.length,46,1,none⟩)],6,[]⟩) d.length (ra b k a d) [] cc ⟨Ψ,Ψ,Ψ⟩ (fun L c _=>?_) (fun i L hi c _=>?_)
   ·have fa:=c.fin;have w9:=c.2.1;rw[fa]at f;simp only at f;have X:=amg L w9;have l4:=EE b gd;clear c fa w9;generalize lO L=M at X f;by_cases N:M.length<=30
    ·have Y:¬(30:Int)<M.length:=Ω
     rw[if_pos N]at f;subst f;simp;(repeat' first|refine aq ?_|simp);(refine CallDo.own Ψ (X) (by simp[eo]) ?_;simp);(repeat' first|refine aq ?_|simp[N,Y]);(refine hn.own Ψ (l4) (by simp[o0,ad]<;>omega) ?_;simp);(repeat' first|refine aq ?_|simp);all_goals(refine hP.val Ψ ?_;simp[ba,bd,a1,e0,ha,ez,gI,ec,gD,tnL,tn,fl,ga,fold,hq,ho,iw,ad,eo,cf,b5])
     all_goals simp[x5,dO.kk]
    ·have Y:(30:Int)<M.length:=Ω
     rw[if_neg N]at f;subst f;simp;(repeat' first|refine aq ?_|simp);(refine CallDo.own Ψ (X) (by simp[eo]) ?_;simp);(repeat' first|refine aq ?_|simp[N,Y]);all_goals(refine hP.val Ψ ?_;simp[ba,bd,a1,e0,ha,ez,gI,ec,gD,tnL,tn,fl,ga,fold,hq,ho,iw,ad,eo,cf,b5])
     all_goals simp[x5,ju,dO.kk]
   ·obtain⟨x,g,o⟩:=eX hi;have iC:=aJ x (fx g);have Vh:=c.1;have p:bX au 165 [bK (b.map Bd.e),cM x] (hb (mgu b (iG x))):=aqV K iC;simp only[hb]at p;cases hu:mgu b (iG x)with
    |none=>have j:=c.skip g fun r=>NA hu;rw[hu]at p;simp only[oM,mL]at p;clear c g f;exact iW
    |some y=>
     have P:=K.mgu (De iC) hu;rw[hu]at p;simp only[mK,vh]at p;have t:=aq0 P W;have q:=abG P Bi mV Bb;have H:=aqZ K P;simp only[qJ]at t;simp only[jY]at q;by_cases A:gO y k []=none\/gS y a []=none
     ·have j:=c.skip g fun r=>Nz hu A;clear c g f hu;rcases A with e|e
      ·rw[e]at t;simp only[oM,mL]at t;exact iW
      ·rw[e]at q;simp only[oM,mL]at q;cases (gO y k []).isSome
       ·simp[hi,o];((repeat' first|refine aq ?_|refine aP p ?_|refine aQ p ?_|refine aP t ?_|refine aQ t ?_|refine aP q ?_|refine aQ q ?_|simp[hi,o]|((first|apply cu|apply cy|apply cx)<;>intro h<;>try simp at h))<;>(try exact c4));all_goals exact bV.rng L hi j cc
       ·simp[hi,o];((repeat' first|refine aq ?_|refine aP p ?_|refine aQ p ?_|refine aP t ?_|refine aQ t ?_|refine aP q ?_|refine aQ q ?_|simp[hi,o]|((first|apply cu|apply cy|apply cx)<;>intro h<;>try simp at h))<;>(try exact c4));all_goals exact bV.rng L hi j cc
     ·have al:(gO y k []).isSome=true:=by cases e:gO y k []with|none=>exact absurd (.inl e) A|some _=>rfl
      have aC:(gS y a []).isSome=true:=by cases e:gS y a []with|none=>exact absurd (.inr e) A|some _=>rfl
      rw[al]at t;rw[aC]at q;by_cases B:hv b y=[]
      ·have ai:=c.stop g fun r=>Ny hu A B;rw[ai]at f;simp only at f;subst f;rw[B]at H;simp only[List.map_nil]at H;clear c g hu A;simp[hi,o];((repeat' first|refine aq ?_|refine aP p ?_|refine aQ p ?_|refine aP t ?_|refine aQ t ?_|refine aP q ?_|refine aQ q ?_|refine aP H ?_|refine aQ H ?_|simp[hi,o]|((first|apply cu|apply cy|apply cx)<;>intro h<;>try simp at h))<;>(try exact c4));all_goals(refine hP.val Ψ ?_;simp[ba,bd,a1,e0,ha,ez,gI,ec,gD,tnL,tn,fl,ga,fold,hq,ho,iw,ad,eo,cf,b5])
       all_goals simp[x5,ju,dO.kk]
      ·have j:=c.snoc g (Io (b:=b) P) fun r=>NB hu A B;have xo:¬((hv b y).length:Int)=0:=by have:(hv b y).length≠0:=fun h=>B (List.length_eq_zero_iff.1 h);omega
       have xp:(((hv b y).length:Int)==0)=false:=by simp[B]
       have S:bX au 166 [bK (b.map Bd.e),bK (y.map Bd.e)] (cM (hv b y)):=H;clear c g hu A f H;generalize hv b y=z at S j xo xp B;simp only[cM]at S;simp[hi,o];(repeat' first|refine aq ?_|refine aP p ?_|refine aQ p ?_|refine aP t ?_|refine aQ t ?_|refine aP q ?_|refine aQ q ?_|refine aP S ?_|refine aQ S ?_|simp[hi,o,xo,xp,B]);all_goals try refine⟨by unfold lim;omega,?_⟩
       all_goals(repeat' first|refine aq ?_|simp)
       all_goals exact bV.rng (L++[z]) hi j ⟨by simp[fresh,aH,az,cb,aK,ad,uL,cM],ep (by simp[fresh,aH,az,cb,aK,ad,uL,cM]),er (by simp[fresh,aH,az,dU,aK,ad,uL,cM]),Ψ⟩
def arX{s:dO}(h:yc s){G:List (List cW)}(a:G.length<=687000)(be:oG G s.m):bX au 90 [s.e] (Pn (mG s)):=by have:=(amj h a be).val (by simp[x5,dO.kk,b5]);simpa[x5,dO.kk,b5,cf,Pn,dO.e]using this
@[simp]def asO(neg:Bool)(x y:bG):jm neg (some [false,false]) x.e y.e=some (True,.bool (if neg then !decide (x=y)else decide (x=y))):=by
 have h:(x.v==y.v&&(x.k==y.k&&true))=decide (x=y):=by rw[qP];simp only[Bool.and_true,cP,ey,gu];cases x;cases y;simp
 rw[<-h];rfl
@[simp]def asP(neg:Bool)(x y:bn):jm neg (some [false,true]) x.e y.e=some (True,.bool (if neg then !decide (x=y)else decide (x=y))):=by
 have h:(x.v==y.v&&(x.s==y.s&&true))=decide (x=y):=by rw[qP];simp only[Bool.and_true,cP,ey,gu];cases x;cases y;simp
 rw[<-h];rfl
def arf(x y:List Bd)(h:x.length<=1000000):bX au 169 [cM x,cM y] (.bool (decide (x=y))):=abL x y h
def arW(a c:dO)(K:a.b.length<=1000000)(M:∀x∈a.d,x.length<=1000000):bX au 91 [a.e,c.e] (.bool (decide (a=c))):=by
 obtain⟨n,b,d,k,m⟩:=a;obtain⟨n',b7,t,bt,s⟩:=c;simp only at K M;generalize bu:decide ((⟨n,b,d,k,m⟩:dO)=⟨n',b7,t,bt,s⟩)=R;simp only[dO.mk.injEq,dO.e]at bu⊢;by_cases G:n=n';rotate_left
 ·have o:R=false:=by rw[<-bu];simp[G]
  have W:(n !=n')=true:=by simp[G]
  rw[o];clear bu o;refine bL a7 Tryz.func91 B4 fun u=>?_;unfold yF;exact cB
 subst G;have g:=abL b b7 K;by_cases F:b=b7;rotate_left
 ·have o:R=false:=by rw[<-bu];simp[F]
  rw[po F]at g;rw[o];clear bu o;refine bL a7 Tryz.func91 B4 fun u=>?_;unfold yF;exact cB
 subst F;rw[n5 rfl]at g;by_cases E:d.length=t.length;rotate_left
 ·have o:R=false:=by rw[<-bu];simp only[iL];rintro⟨_,_,rfl,_⟩;exact E rfl
  have V:((d.length:Int) !=t.length)=true:=by simp;omega
  rw[o];clear bu o;refine bL a7 Tryz.func91 B4 fun u=>?_;unfold yF;exact cB
 by_cases w:k.length=bt.length;rotate_left
 ·have o:R=false:=by rw[<-bu];simp only[iL];rintro⟨_,_,_,rfl,_⟩;exact w rfl
  have O:((k.length:Int) !=bt.length)=true:=by simp;omega
  rw[o];clear bu o;refine bL a7 Tryz.func91 B4 fun u=>?_;unfold yF;exact cB
 by_cases B:m.length=s.length;rotate_left
 ·have o:R=false:=by rw[<-bu];simp only[iL];rintro⟨_,_,_,_,rfl⟩;exact B rfl
  have N:((m.length:Int) !=s.length)=true:=by simp;omega
  rw[o];clear bu o;refine bL a7 Tryz.func91 B4 fun u=>?_;unfold yF;exact cB
 have J:d≠t->R=false:=fun h=>by rw[<-bu];simp[h]
 have H:k≠bt->R=false:=fun h=>by rw[<-bu];simp[h]
 have U:m≠s->R=false:=fun h=>by rw[<-bu];simp[h]
 refine bL a7 Tryz.func91 B4 fun u=>?_;unfold yF;have S:t.length<=68719476736:=by simp[eP,eU,eQ,lim]at u;omega
 have Q:bt.length<=68719476736:=by simp[eP,eU,eQ,lim]at u;omega
 have P:s.length<=68719476736:=by simp[eP,eU,eQ,lim]at u;omega
 clear u;simp;(repeat' first|refine aq ?_|refine aP g ?_|refine aQ g ?_|simp[E,w,B]);have v:=J;refine eY [2,3,50] (fun i (_:Unit)=>[(51,aj i)]) t.length (sE d t) () cc (fun k L=>Ω) (fun _ j _=>?_) (fun i _ hi j _=>?_);rotate_left
 ·obtain⟨x,e⟩:∃x,d[i]? =some x:=⟨_,cl Ω⟩;obtain⟨y,f⟩:∃y,t[i]? =some y:=⟨_,cl hi⟩;have l:i<d.length:=Ω
  have r:∀h,(d[i]'h)=x:=fun h=>by rw[cl l]at e;exact e7 e
  have p:∀h,(t[i]'h)=y:=fun h=>by rw[cl hi]at f;exact e7 f
  have g:=arf x y (M x (fx e));by_cases q:x=y
  ·subst q;have A:=j.step e f;rw[n5 rfl]at g;clear j e f;simp[hi,l,r,p,-jm];(repeat' first|refine aq ?_|refine aP g ?_|refine aQ g ?_|simp[r,p,hi,l,-jm]);all_goals exact bV.rng () hi A cc
  ·rw[v (fun h=>q (by rw[h]at e;rw[e]at f;exact e7 f))];rw[po q]at g;clear j e f;simp[hi,l,r,p,-jm];(repeat' first|refine aq ?_|refine aP g ?_|refine aQ g ?_|simp[r,p,hi,l,q,-jm]);all_goals simp[b0,ba,bd,a1]
 have z:=j.fin E;subst z;clear j v J E;simp;(repeat' first|refine aq ?_|simp[w]);have v:=H;refine eY [2,3,69] (fun i (_:Unit)=>[(70,aj i)]) bt.length (sE k bt) () cc (fun k L=>Ω) (fun _ j _=>?_) (fun i _ hi j _=>?_);rotate_left
 ·obtain⟨x,e⟩:∃x,k[i]? =some x:=⟨_,cl Ω⟩;obtain⟨y,f⟩:∃y,bt[i]? =some y:=⟨_,cl hi⟩;have l:i<k.length:=Ω
  have r:∀h,(k[i]'h)=x:=fun h=>by rw[cl l]at e;exact e7 e
  have p:∀h,(bt[i]'h)=y:=fun h=>by rw[cl hi]at f;exact e7 f
  have g:=True.intro;by_cases q:x=y
  ·subst q;have A:=j.step e f;skip;clear j e f;simp[hi,l,r,p,-jm];(repeat' first|refine aq ?_|refine aP g ?_|refine aQ g ?_|simp[r,p,hi,l,-jm]);all_goals exact bV.rng () hi A cc
  ·rw[v (fun h=>q (by rw[h]at e;rw[e]at f;exact e7 f))];skip;clear j e f;simp[hi,l,r,p,-jm];(repeat' first|refine aq ?_|refine aP g ?_|refine aQ g ?_|simp[r,p,hi,l,q,-jm]);all_goals simp[b0,ba,bd,a1]
 have z:=j.fin w;subst z;clear j v H w;simp;(repeat' first|refine aq ?_|simp[B]);have v:=U;refine eY [2,3,87] (fun i (_:Unit)=>[(88,aj i)]) s.length (sE m s) () cc (fun k L=>Ω) (fun _ j _=>?_) (fun i _ hi j _=>?_);rotate_left
 ·obtain⟨x,e⟩:∃x,m[i]? =some x:=⟨_,cl Ω⟩;obtain⟨y,f⟩:∃y,s[i]? =some y:=⟨_,cl hi⟩;have l:i<m.length:=Ω
  have r:∀h,(m[i]'h)=x:=fun h=>by rw[cl l]at e;exact e7 e
  have p:∀h,(s[i]'h)=y:=fun h=>by rw[cl hi]at f;exact e7 f
  have g:=True.intro;by_cases q:x=y
  ·subst q;have A:=j.step e f;skip;clear j e f;simp[hi,l,r,p,-jm];(repeat' first|refine aq ?_|refine aP g ?_|refine aQ g ?_|simp[r,p,hi,l,-jm]);all_goals exact bV.rng () hi A cc
  ·rw[v (fun h=>q (by rw[h]at e;rw[e]at f;exact e7 f))];skip;clear j e f;simp[hi,l,r,p,-jm];(repeat' first|refine aq ?_|refine aP g ?_|refine aQ g ?_|simp[r,p,hi,l,q,-jm]);all_goals simp[b0,ba,bd,a1]
 have z:=j.fin B;subst z;have o:R=true:=by rw[<-bu];simp
 rw[o];exact cB
def iv.e(r:iv):af:= .agg [aj r.n,bK (r.b.map Bt.e),cV (r.d.map gv),b4 (r.k.map bG.e),b4 (r.m.map bn.e)]
def Jz(s:dO):s.r.e=s.e:=by simp only[dO.r,iv.e,dO.e,zy,Lb]
def aq1(x:List Bt):bX au 86 [gv x] (.bool (hx x)):=P7 x
open Classical in
def abH(r:iv)(M:jK r.m->tI r.m):bX au 29 [r.e] (.bool (decide (u5 r))):=by
 generalize bu:decide (u5 r)=R;have f:¬O8 r->R=false:=fun h=>by rw[<-bu,iL];exact fun ch=>h ch.raw
 obtain⟨n,b,d,k,m⟩:=r;simp only[iv.e]at M⊢;by_cases g1:n<0
 ·rw[f fun h=>by have:=h.n.1;simp only at this;omega];refine bL a7 Tryz.func29 zD fun g=>?_;unfold wS;exact cB
 by_cases g2:100000<n
 ·rw[f fun h=>by have:=h.n.2;simp only at this;omega];refine bL a7 Tryz.func29 zD fun g=>?_;unfold wS;exact cB
 have q:bX au 86 [bK (b.map Bt.e)] (.bool (hx b)):=P7 b;cases g3:hx b
 ·rw[f fun h=>by obtain⟨s,l,S,_⟩:=h.b;have:=sn.2 (ye.2 ⟨s,l,S⟩);simp only at this;rw[g3]at this;cases this]
  rw[g3]at q;refine bL a7 Tryz.func29 zD fun g=>?_;unfold wS;exact cB
 rw[g3]at q;obtain⟨s,rfl,X⟩:=ye.1 (sn.1 g3);clear g3;rw[zy]at q⊢;have B:=abC k;by_cases g4:ht k;rotate_left
 ·rw[f fun h=>g4 h.k];rw[po g4]at B;refine bL a7 Tryz.func29 zD fun g=>?_;unfold wS;exact cB
 rw[n5 g4]at B;have A:=abE m;by_cases g5:jK m;rotate_left
 ·rw[f fun h=>g5 h.m];rw[po g5]at A;refine bL a7 Tryz.func29 zD fun g=>?_;unfold wS;exact cB
 rw[n5 g5]at A;have u:=abI X (n:=n) Ω;cases g6:s.all (lD n)
 ·rw[f fun h=>by obtain⟨P,l,_,N⟩:=h.b;have O:=wO l;subst O;rw[wR.2 N]at g6;cases g6]
  rw[g6]at u;refine bL a7 Tryz.func29 zD fun g=>?_;unfold wS;have Nw:=u;exact cB
 rw[g6]at u;have cZ:=wR.1 g6;clear g6;have U:=M g5;have nH:=U.len g5;refine bL a7 Tryz.func29 zD fun g=>?_;unfold wS;have Mc:d.length<=68719476736:=by simp[eP,eU,eQ,lim]at g;omega
 have jr:=ti g4;clear g M;simp;(repeat' first|refine aq ?_|refine aP q ?_|refine aQ q ?_|refine aP B ?_|refine aQ B ?_|refine aP A ?_|refine aQ A ?_|refine aP u ?_|refine aQ u ?_|simp[g1,g2]);refine eY [1,46,47] (fun i (_:Unit)=>[(48,aj i)]) d.length (tg (k0 n) d) () cc (fun k b Y=>Ω) (fun _ a _=>?_) (fun i _ hi a _=>?_);rotate_left
 ·obtain⟨x,c,w⟩:=eX hi;have z:=fx c;have K:=aq1 x;cases e:hx x
  ·rw[f fun h=>by obtain⟨P,l,S,_⟩:=h.d x z;rw[sn.2 (ye.2 ⟨P,l,S⟩)]at e;cases e]
   rw[e]at K;clear a c z;exact cB
  ·rw[e]at K;obtain⟨y,rfl,Z⟩:=ye.1 (sn.1 e);clear e;rw[La]at K;have W:bX au 89 [cM y,aj n] (.bool (y.all (lD n))):=abI Z (n:=n) Ω;have aub:∀h,gv (d[i]'h)=cM y:=fun h=>by rw[w h,La]
   cases p:y.all (lD n)
   ·rw[f fun h=>by obtain⟨P,l,_,N⟩:=h.d _ z;have O:=wO l;subst O;rw[wR.2 N]at p;cases p]
    rw[p]at W;clear a c z w;exact cB
   ·rw[p]at W;have aB:=a.step c ⟨y,rfl,Z,wR.1 p⟩;clear a c z w;exact iW
 obtain⟨aX,rfl,DA,LX⟩:=TF a.fin;clear a;simp only[Lb];simp;(repeat' first|refine aq ?_|simp);refine eY [1,64,65] (fun i (_:Unit)=>[(66,aj i)]) k.length (tg (fun x=>x.v<n) k) () cc (fun k b Y=>Ω) (fun _ a _=>?_) (fun i _ hi a _=>?_);rotate_left
 ·obtain⟨x,c,w⟩:=eX hi;by_cases e:x.v<n
  ·have E:¬n<=x.v:=Ω
   have aB:=a.step c e;clear a c;exact iW
  ·have E:n<=x.v:=Ω
   rw[f fun h=>e (h.kb x (fx c))];clear a c;exact cB
 have F:=a.fin;clear a;simp;(repeat' first|refine aq ?_|simp);have y6:=F;refine eY [1,77,78] (fun i (_:Unit)=>[(79,aj i)]) m.length (tg (fun x=>x.v<n) m) () cc (fun k b Y=>Ω) (fun _ a _=>?_) (fun i _ hi a _=>?_);rotate_left
 ·obtain⟨x,c,w⟩:=eX hi;by_cases e:x.v<n
  ·have E:¬n<=x.v:=Ω
   have aB:=a.step c e;clear a c;exact iW
  ·have E:n<=x.v:=Ω
   rw[f fun h=>e (h.mb x (fx c))];clear a c;exact cB
 have F:=a.fin;clear a;simp;(repeat' first|refine aq ?_|simp);have xr:=F;have du:yc ⟨n,s,aX,k,m⟩:=⟨by simp only;omega,X,DA,g4,g5,cZ,LX,y6,xr⟩;have V:=aaU du;obtain⟨G,mV,be⟩:=U;have j:=arX du mV be;have o:u5 ⟨n,s.map Bd.b,aX.map fun x=>x.map Bd.b,k,m⟩↔mG ⟨n,s,aX,k,m⟩=some ⟨n,s,aX,k,m⟩:=V;clear V f;simp only[Pn]at j;cases L:mG ⟨n,s,aX,k,m⟩with
 |none=>
  rw[L]at j o;have v:R=false:=by rw[<-bu,iL,o];simp
  rw[v];simp only[oM,mL,dO.e]at j;clear bu v o;exact cB
 |some t=>
  have H:=apU du L;rw[L]at j o;have J:=arW t ⟨n,s,aX,k,m⟩ H.1.1.b.len (fun x c=>(H.1.1.d x c).len);have v:R=decide (t=⟨n,s,aX,k,m⟩):=by rw[<-bu,decide_eq_decide,o];simp
  rw[v];simp only[mK,vh]at j;simp only[dO.e]at j J;clear bu v o H;generalize decide (t=(⟨n,s,aX,k,m⟩:dO))=Q at J⊢;obtain⟨tn,abj,abk,va,tm⟩:=t;simp only at j J;exact cB
def wV:C:=(aa [dc 1 0,bA 2 false] (.seq (aa [aF 11 0 1 1,ay 12 1 11,eg 13 75 [.t 12,(gP 0),(gP 100000)],cR 14 13,I 15 14,ax 15 false (aF 16 1 1 1),ax 15 false (ay 17 1 16),ax 15 false (da 18 76 17),ax 15 false (cR 19 18),dq 20 15 19,I 21 20,ax 21 false (aF 22 2 1 1),ax 21 false (ay 23 1 22),ax 21 false (da 24 77 23),ax 21 false (cR 25 24),dq 26 21 25,I 27 26,ax 27 false (aF 28 3 1 1),ax 27 false (ay 29 1 28),ax 27 false (da 30 78 29),ax 27 false (cR 31 30),dq 32 27 31,I 33 32,ax 33 false (aF 34 4 1 1),ax 33 false (ay 35 1 34),ax 33 false (da 36 79 35),ax 33 false (cR 37 36),dq 38 33 37,I 39 38,ax 39 false (aF 40 1 1 1),ax 39 false (ay 41 1 40),ax 39 false (aF 42 0 1 1),ax 39 false (ay 43 1 42),ax 39 false (cj 44 80 41 43),ax 39 false (cR 45 44),dq 46 39 45] (aZ 46 (aa [bA 2 false] .ret) .skip)) (.seq (aa [aF 47 2 1 1,ay 48 1 47,cw 49 48,bQ 50 0] (gq 51 50 49 (.seq (.block 1 (aa [ck 52 1 48 50,ay 53 1 52,I 4 53] (aa [I 54 4,aF 55 0 1 1,ay 56 1 55,cj 57 80 54 56,cR 58 57] (aZ 58 (aa [bA 2 false] .ret) .skip)))) (.region [aV 59 .add 50 1,I 50 59])))) (.seq (aa [aF 60 3 1 1,ay 61 1 60,cw 62 61,bQ 63 0] (.block 2 (.loop (aa [br 64 .lss 63 62] (.seq (aZ 64 .skip (.exit 2)) (.seq (.block 3 (aa [ck 65 2 61 63,bq 66 2 65,dr (.alloc 6 none (.agg [.int .i64 0,.int .i64 0])),bW 2 6 66] (aa [aF 67 0 1 6,ay 68 1 67,aF 69 0 1 1,ay 70 1 69,br 71 .geq 68 70] (aZ 71 (aa [bA 2 false] .ret) .skip)))) (.region [aV 72 .add 63 1,I 63 72]))))))) (.seq (aa [aF 73 4 1 1,ay 74 1 73,cw 75 74,bQ 76 0] (.block 4 (.loop (aa [br 77 .lss 76 75] (.seq (aZ 77 .skip (.exit 4)) (.seq (.block 5 (aa [ck 78 2 74 76,bq 79 2 78,dr (.alloc 8 none (.agg [.int .i64 0,.str []])),bW 2 8 79] (aa [aF 80 0 1 8,ay 81 1 80,aF 82 0 1 1,ay 83 1 82,br 84 .geq 81 83] (aZ 84 (aa [bA 2 false] .ret) .skip)))) (.region [aV 85 .add 76 1,I 76 85]))))))) (aa [bq 87 5 1,da 88 81 87,I 86 88,dm 89 0 86,dm 90 1 86,dR 9 jJ,bW 5 9 89,I 10 90] (aa [I 91 10,I 92 91,ax 92 true (bq 93 5 9),ax 92 true (bq 94 5 1),ax 92 true (cj 95 82 93 94),ev 96 92 95,I 2 96] .ret)))))))
def Gr:C:=(aa [dc 1 0,dR 2 jJ,bA 3 false] (aa [aF 20 1 1 1,ay 21 1 20,aF 22 3 1 1,ay 23 1 22,cj 24 149 21 23,I 19 24,dm 25 0 19,dm 26 1 19,I 4 25,I 5 26] (aa [aF 28 1 1 1,ay 29 1 28,aF 30 4 1 1,ay 31 1 30,cj 32 150 29 31,I 27 32,dm 33 0 27,dm 34 1 27,I 6 33,I 7 34] (.seq (aa [I 35 5,cR 36 35,I 37 36,cd 37 false 38 7,ax 37 false (cR 39 38),dq 40 37 39] (aZ 40 (aa [j6 41 jJ [],bW 5 2 41,bA 3 false] .ret) .skip)) (aa [aF 42 0 1 1,ay 43 1 42,aF 44 1 1 1,ay 45 1 44,I 46 4,j6 47 jJ [(0,1,(.t 43)),(1,1,(.t 45)),(3,1,(.t 46))],dR 8 jJ,bW 5 8 47] (.seq (aa [I 48 6,cw 49 48,bQ 50 0] (gq 51 50 49 (.seq (.block 1 (aa [ck 52 2 48 50,bq 53 2 52,dr (.alloc 10 none (.agg [.int .i64 0,.str []])),bW 2 10 53] (aa [I 55 4,aF 56 0 1 10,ay 57 1 56,da 58 114 57,eg 59 151 [.t 55,.t 58,(gP 2)],I 54 59,dm 60 0 54,dm 61 1 54,I 11 60,I 12 61] (aa [I 62 12] (aZ 62 (.region [aF 63 4 1 8,ay 64 1 63,bq 65 2 10,fp 66 2 100 [.t 65],im 67 2 100 64 66,aF 68 4 1 8,bW 1 68 67]) .skip))))) (.region [aV 69 .add 50 1,I 50 69])))) (aa [fp 70 1 46 [],I 13 70] (.seq (aa [aF 71 2 1 1,ay 72 1 71,cw 73 72,bQ 74 0] (.block 2 (.loop (aa [br 75 .lss 74 73] (.seq (aZ 75 .skip (.exit 2)) (.seq (.block 3 (aa [ck 76 1 72 74,ay 77 1 76,I 15 77] (aa [aF 79 1 1 1,ay 80 1 79,I 81 15,cj 82 152 80 81,I 78 82,dm 83 0 78,dm 84 1 78,I 16 83,I 17 84] (.seq (aa [I 85 17] (aZ 85 (aa [I 87 16,aF 88 3 1 8,ay 89 1 88,cj 90 149 87 89,I 86 90,dm 91 0 86,dm 92 1 86,I 5 92] (.region [I 94 16,aF 95 4 1 8,ay 96 1 95,cj 97 150 94 96,I 93 97,dm 98 0 93,dm 99 1 93,I 7 99])) .skip)) (.seq (aa [I 100 17,cR 101 100,I 102 101,cd 102 false 103 5,ax 102 false (cR 104 103),dq 105 102 104,I 106 105,cd 106 false 107 7,ax 106 false (cR 108 107),dq 109 106 108] (aZ 109 (aa [bA 5 true] (aa [bA 7 true] (.exit 3))) .skip)) (aa [aF 110 1 1 1,ay 111 1 110,I 112 16,cj 113 153 111 112,I 18 113] (.seq (aa [I 114 18,cw 115 114,aV 116 .eql 115 0] (aZ 116 (aa [j6 117 jJ [],bW 5 2 117,bA 3 false] .ret) .skip)) (.region [I 118 13,I 119 18,fp 120 1 46 [.t 119],im 121 1 46 118 120,I 13 121])))))))) (.region [aV 122 .add 74 1,I 74 122]))))))) (aa [I 123 13,da 124 154 123,aF 125 2 1 8,bW 1 125 124] (.seq (.fz true 8 (.drawn true 131 [b9 126 (.loadZ true 5 (.t 8)),aF 127 2 1 8,b9 128 (.loadZ false 1 (.t 127)),cw 129 128,aV 130 .leq 129 30,bW 5 2 126,I 3 130])) .ret))))))))))
def yG:C:=(aa [dc 2 0,dc 3 1,bA 4 false] (.seq (aa [aF 11 0 1 2,ay 12 1 11,aF 13 0 1 3,ay 14 1 13,br 15 .neq 12 14,I 16 15,ax 16 false (aF 17 1 1 2),ax 16 false (ay 18 1 17),ax 16 false (aF 19 1 1 3),ax 16 false (ay 20 1 19),ax 16 false (cj 21 155 18 20),ax 16 false (aV 22 .neq 21 0),dq 23 16 22,I 24 23,ax 24 false (aF 25 2 1 2),ax 24 false (ay 26 1 25),ax 24 false (cw 27 26),ax 24 false (aF 28 2 1 3),ax 24 false (ay 29 1 28),ax 24 false (cw 30 29),ax 24 false (br 31 .neq 27 30),dq 32 24 31,I 33 32,ax 33 false (aF 34 3 1 2),ax 33 false (ay 35 1 34),ax 33 false (cw 36 35),ax 33 false (aF 37 3 1 3),ax 33 false (ay 38 1 37),ax 33 false (cw 39 38),ax 33 false (br 40 .neq 36 39),dq 41 33 40,I 42 41,ax 42 false (aF 43 4 1 2),ax 42 false (ay 44 1 43),ax 42 false (cw 45 44),ax 42 false (aF 46 4 1 3),ax 42 false (ay 47 1 46),ax 42 false (cw 48 47),ax 42 false (br 49 .neq 45 48),dq 50 42 49] (aZ 50 (aa [bA 4 false] .ret) .skip)) (.seq (aa [aF 51 2 1 2,ay 52 1 51,cw 53 52,bQ 54 0] (gq 55 54 53 (.seq (.block 1 (aa [I 56 54,ck 57 1 52 54,ay 58 1 57,I 5 56,I 6 58] (aa [I 59 6,aF 60 2 1 3,ay 61 1 60,I 62 5,ck 63 1 61 62,ay 64 1 63,cj 65 155 59 64,aV 66 .neq 65 0] (aZ 66 (aa [bA 4 false] .ret) .skip)))) (.region [aV 67 .add 54 1,I 54 67])))) (.seq (aa [aF 68 3 1 2,ay 69 1 68,cw 70 69,bQ 71 0] (.block 2 (.loop (aa [br 72 .lss 71 70] (.seq (aZ 72 .skip (.exit 2)) (.seq (.block 3 (aa [I 73 71,ck 74 2 69 71,bq 75 2 74,dr (.alloc 8 none (.agg [.int .i64 0,.int .i64 0])),I 7 73,bW 2 8 75] (.seq (.drawn true 100 [bq 76 2 8,aF 77 3 1 3,ay 78 1 77,I 79 7,ck 80 2 78 79,bq 81 2 80,b9 82 (.beq true (some [false,false]) (.t 76) (.t 81))]) (aZ 82 (aa [bA 4 false] .ret) .skip)))) (.region [aV 83 .add 71 1,I 71 83]))))))) (.seq (aa [aF 84 4 1 2,ay 85 1 84,cw 86 85,bQ 87 0] (.block 4 (.loop (aa [br 88 .lss 87 86] (.seq (aZ 88 .skip (.exit 4)) (.seq (.block 5 (aa [I 89 87,ck 90 2 85 87,bq 91 2 90,dr (.alloc 10 none (.agg [.int .i64 0,.str []])),I 9 89,bW 2 10 91] (.seq (.drawn true 100 [bq 92 2 10,aF 93 4 1 3,ay 94 1 93,I 95 9,ck 96 2 94 95,bq 97 2 96,b9 98 (.beq true (some [false,true]) (.t 92) (.t 97))]) (aZ 98 (aa [bA 4 false] .ret) .skip)))) (.region [aV 99 .add 87 1,I 87 99]))))))) (aa [bA 4 true] .ret))))))
def zG:b6 aS wV [.tmp 2] 1 Tryz.f27=true:=bi
def Oz:b6 aS Gr [.cell 2 true 5,.tmp 3] 1 Tryz.f81=true:=bi
def B5:b6 aS yG [.tmp 4] 2 Tryz.f82=true:=bi
noncomputable def Pm(s:dO):af:= .tuple [(Cq s).e,.bool (mG s).isSome]
def arF{k:List bG}(a:ht k)(v:Int):bX au 151 [b4 (k.map bG.e),(T.var v).e,aj 2] (pX k (kY k (.var v) 2)):=abV k (by have:=ti a;omega) a.asc (.var v) 2
def abT{b y:List Bd}(a:fm b)(c:fm y):bX au 153 [bK (b.map Bd.e),bK (y.map Bd.e)] (cM (hv b y)):=arz a c
def abS{b x:List Bd}(a:fm b)(c:fm x):bX au 152 [bK (b.map Bd.e),cM x] (hb (mgu b (iG x))):=ary b x a.sol a.fits c.len
def NK(a:List bn):af:=match a with
 |[]=>.slice 2 .nil []
 |_::_=>.slice 2 (.own (.loc 5)) (a.map bn.e)
def NJ(a:List bn):List (aA×dT):=match a with
 |[]=>[]
 |_::_=>[(.loc 5,⟨a.length,100,2,none⟩)]
def NI(a:List bn):Nat:=match a with
 |[]=>3
 |_::_=>6
@[simp]def avq:NK []= .slice 2 .nil []:=rfl
@[simp]def avp(x:bn)(a:List bn):NK (x::a)= .slice 2 (.own (.loc 5)) (x.e::a.map bn.e):=rfl
@[simp]def avo:NJ []=[]:=rfl
@[simp]def avn(x:bn)(a:List bn):NJ (x::a)=[(.loc 5,⟨a.length+1,100,2,none⟩)]:=rfl
@[simp]def avm:NI []=3:=rfl
@[simp]def avl(x:bn)(a:List bn):NI (x::a)=6:=rfl
def arK{s:dO}(h:yc s){G:List (List cW)}(mV:G.length<=687000)(be:oG G s.m):bX au 81 [s.e] (Pm s):=by
 unfold Pm;generalize c:mG s=O;generalize dC:Cq s=SS;have F:=Qd h.b h.k;have H:=Qe h.b h.m mV be;have kk:=fun k=>I3 (acc:=[]) (a:=k) h.b h.k.at' ⟨Ψ,Ψ⟩;have N:=fun m=>I4 (acc:=[]) (a:=m) h.b h.m.at' ⟨Ψ,by simp[iM]⟩;have P:=fun m=>Pa (acc:=[]) (a:=m) (s:=s.b) be (fun x g=>by simp at g);have K:=h.b;have aJ:=h.d;clear h be;unfold mG at c;unfold Cq at dC;obtain⟨n,b,d,Z,m0⟩:=s;simp only at F H kk N P K aJ c dC;have gd:=K.len;simp only[dO.e];generalize gO b Z []=ok at F c dC kk;generalize gS b m0 []=om at H c dC N P;cases ok with
 |none=>
  simp only at c dC;subst c;subst dC;simp only[qJ]at F;simp only[jY]at H;clear kk N P;refine bL a7 Tryz.func81 Oz fun aT=>?_;unfold Gr;simp;(repeat' first|refine aq ?_|refine aP F ?_|refine aQ F ?_|refine aP H ?_|refine aQ H ?_|simp);all_goals simp[b0,ba,bd,a1]
  all_goals simp[ju,dO.e]
 |some k=>
  simp only at c dC;cases om with
  |none=>
   simp only at c dC;subst c;subst dC;simp only[qJ]at F;simp only[jY]at H;clear kk N P;refine bL a7 Tryz.func81 Oz fun aT=>?_;unfold Gr;simp;(repeat' first|refine aq ?_|refine aP F ?_|refine aQ F ?_|refine aP H ?_|refine aQ H ?_|simp);all_goals simp[b0,ba,bd,a1]
   all_goals simp[ju,dO.e]
  |some m=>
   simp only at c dC;have Y:=kk k rfl;have zb:=N m rfl;have y4:=P m rfl;have nH:m.length<=68719470000:=by have:=Eu zb y4;omega
   have Bi:=XE (k:=k) zb;have Bb:=abh (k:=k) y4;simp only[qJ,mK,vh]at F;simp only[jY,mK,vh]at H;clear kk N P;refine bL a7 Tryz.func81 Oz fun aT=>?_;unfold Gr;have Mc:d.length<=68719476736:=by simp[eP,eU,eQ,lim]at aT;omega
   clear aT;simp;(repeat' first|refine aq ?_|refine aP F ?_|refine aQ F ?_|refine aP H ?_|refine aQ H ?_|simp);refine fX (fun i (a:List bn)=>⟨[(1,.ptr (.loc 0) 0),(2,.ptr (.loc 1) 0),(4,b4 (k.map bG.e)),(8,.ptr (.loc 2) 0),(48,b4 (m.map bn.e)),(49,aj m.length),(50,aj i)],[(.loc 0,[aj n,bK (b.map Bd.e),cV (d.map cM),b4 (Z.map bG.e),b4 (m0.map bn.e)]),(.loc 1,[aj 0,.slice 5 .nil [],.slice 1 .nil [],.slice 2 .nil [],.slice 2 .nil []]),(.loc 2,[aj n,bK (b.map Bd.e),.slice 1 .nil [],b4 (k.map bG.e),NK a])],NJ a,NI a,[]⟩) m.length (uH k m) [] cc (by simp[uH]) (fun a f _=>?_) (fun i a hi f _=>?_);rotate_left
   ·obtain⟨x,g,p⟩:=eX hi;have sO:a.length<=68719470000:=by
     have:a.length<=(m.take i).length:=by rw[f];exact List.length_filter_le _ _
     simp at this;omega
    have q:=f.step g;have A:=arF Y x.v;have bP:(kY k (.var x.v) 2).isSome=ln k x:=acQ Y x.v;simp only[pX,bP]at A;clear bP;generalize (kY k (.var x.v) 2).getD k=kz at A;cases aG:ln k x
    ·rw[aG]at q A;simp only[hN,if_false]at q;clear f g aG;cases a with
     |nil=>simp[hi,p];(repeat' first|refine aq ?_|refine aP (kX _) ?_|refine aQ (kX _) ?_|refine aP A ?_|refine aQ A ?_|simp[hi,p]);all_goals exact bV.rng [] hi q cc
     |cons y ys=>simp[hi,p];(repeat' first|refine aq ?_|refine aP (kX _) ?_|refine aQ (kX _) ?_|refine aP A ?_|refine aQ A ?_|simp[hi,p]);all_goals exact bV.rng (y::ys) hi q cc
    ·rw[aG]at q A;simp only[if_true]at q;clear f g aG;cases a with
     |nil=>
      simp[hi,p];(repeat' first|refine aq ?_|refine aP (kX _) ?_|refine aQ (kX _) ?_|refine aP A ?_|refine aQ A ?_|simp[hi,p]);all_goals try refine⟨by unfold lim;omega,?_⟩
      all_goals(repeat' first|refine aq ?_|simp)
      all_goals exact bV.rng [x] hi q cc
     |cons y ys=>
      simp only[mI]at sO;simp[hi,p];(repeat' first|refine aq ?_|refine aP (kX _) ?_|refine aQ (kX _) ?_|refine aP A ?_|refine aQ A ?_|simp[hi,p]);all_goals try refine⟨by unfold lim;omega,?_⟩
      all_goals(repeat' first|refine aq ?_|simp)
      all_goals exact bV.rng (y::ys++[x]) hi q ⟨by simp[fresh,aH,az,cb,aK,ad,BE],ep (by simp[fresh,aH,az,cb,aK,ad,BE]),er (by simp[fresh,aH,az,dU,aK,ad,BE]),Ψ⟩
   rw[uH,jv]at f;rw[<-f]at Bi Bb c dC;clear f zb y4;cases a with
   |nil=>
    simp;(repeat' first|refine aq ?_|simp);refine fX (fun i (L:List (List Bd))=>⟨[(1,.ptr (.loc 0) 0),(2,.ptr (.loc 1) 0),(8,.ptr (.loc 2) 0),(13,.slice 1 (.own (.loc 3)) (L.map cM)),(72,cV (d.map cM)),(73,aj d.length),(74,aj i)],[(.loc 0,[aj n,bK (b.map Bd.e),cV (d.map cM),b4 (Z.map bG.e),b4 (m0.map bn.e)]),(.loc 1,[aj 0,.slice 5 .nil [],.slice 1 .nil [],.slice 2 .nil [],.slice 2 .nil []]),(.loc 2,[aj n,bK (b.map Bd.e),.slice 1 .nil [],b4 (k.map bG.e),.slice 2 .nil []])],[(.loc 3,⟨L.length,46,1,none⟩)],3+1,[]⟩) d.length (ra b k [] d) [] cc ⟨Ψ,Ψ,Ψ⟩ (fun L f _=>?_) (fun i L hi f _=>?_)
    ·have V:=f.fin;have S:=f.2.1;rw[V]at c dC;simp only at c dC;have B:=abU L S;clear f V S;generalize lO L=M at B c dC;subst dC;by_cases w:M.length<=30
     ·have E:(M.length:Int)<=30:=Ω
      rw[if_pos w]at c;subst c;simp;(repeat' first|refine aq ?_|refine aP B ?_|refine aQ B ?_|simp[w,E]);all_goals simp[b0,ba,bd,a1]
      all_goals try simp[dO.e,w,E]
      all_goals first|exact⟨_,rfl,rfl⟩|skip
     ·have E:¬(M.length:Int)<=30:=Ω
      rw[if_neg w]at c;subst c;simp;(repeat' first|refine aq ?_|refine aP B ?_|refine aQ B ?_|simp[w,E]);all_goals simp[b0,ba,bd,a1]
      all_goals try simp[dO.e,w,E]
      all_goals first|exact⟨_,rfl,rfl⟩|skip
    ·obtain⟨x,g,p⟩:=eX hi;have U:=aJ x (fx g);have Vh:=f.1;have l:=abS K U;simp only[hb]at l;cases hu:mgu b (iG x)with
     |none=>have q:=f.skip g fun r=>NA hu;rw[hu]at l;simp only[oM,mL]at l;clear f g c dC;exact iW
     |some y=>
      have J:=K.mgu (De U) hu;rw[hu]at l;simp only[mK,vh]at l;have o:=Qd J Y;have u:=Qe J Bi mV Bb;have j:=abT K J;simp only[qJ]at o;simp only[jY,List.map_nil,hc]at u;by_cases t:gO y k []=none\/gS y [] []=none
      ·have q:=f.skip g fun r=>Nz hu t;clear f g c dC hu j;rcases t with e|e
       ·rw[e]at o;simp only[oM,mL]at o;exact iW
       ·rw[e]at u;simp only[oM,mL]at u;generalize (gO y k []).isSome=a6 at o;cases a6
        ·exact iW
        ·exact iW
      ·have al:(gO y k []).isSome=true:=by cases e:gO y k []with|none=>exact absurd (.inl e) t|some _=>rfl
       have aC:(gS y [] []).isSome=true:=by cases e:gS y [] []with|none=>exact absurd (.inr e) t|some _=>rfl
       rw[al]at o;rw[aC]at u;by_cases v:hv b y=[]
       ·have ai:=f.stop g fun r=>Ny hu t v;rw[ai]at c dC;simp only at c dC;subst c;subst dC;rw[v]at j;simp only[cM,List.map_nil]at j;clear f g hu t;simp[hi,p];(repeat' first|refine aq ?_|refine aP l ?_|refine aQ l ?_|refine aP o ?_|refine aQ o ?_|refine aP u ?_|refine aQ u ?_|refine aP j ?_|refine aQ j ?_|simp[hi,p]);all_goals simp[b0,ba,bd,a1]
        all_goals try simp[ju,dO.e]
       ·have q:=f.snoc g (Io (b:=b) J) fun r=>NB hu t v;have R:¬((hv b y).length:Int)=0:=by have:(hv b y).length≠0:=fun h=>v (List.length_eq_zero_iff.1 h);omega
        have Q:(((hv b y).length:Int)==0)=false:=by simp[v]
        clear f g hu t c dC;generalize hv b y=z at j q R Q v;simp only[cM]at j;simp[hi,p];(repeat' first|refine aq ?_|refine aP l ?_|refine aQ l ?_|refine aP o ?_|refine aQ o ?_|refine aP u ?_|refine aQ u ?_|refine aP j ?_|refine aQ j ?_|simp[hi,p,R,Q,v]);all_goals try refine⟨by unfold lim;omega,?_⟩
        all_goals(repeat' first|refine aq ?_|simp)
        all_goals exact bV.rng (L++[z]) hi q ⟨by simp[fresh,aH,az,cb,aK,ad,uL,cM],ep (by simp[fresh,aH,az,cb,aK,ad,uL,cM]),er (by simp[fresh,aH,az,dU,aK,ad,uL,cM]),Ψ⟩
   |cons X W=>
    simp;(repeat' first|refine aq ?_|simp);refine fX (fun i (L:List (List Bd))=>⟨[(1,.ptr (.loc 0) 0),(2,.ptr (.loc 1) 0),(8,.ptr (.loc 2) 0),(13,.slice 1 (.own (.loc 6)) (L.map cM)),(72,cV (d.map cM)),(73,aj d.length),(74,aj i)],[(.loc 0,[aj n,bK (b.map Bd.e),cV (d.map cM),b4 (Z.map bG.e),b4 (m0.map bn.e)]),(.loc 1,[aj 0,.slice 5 .nil [],.slice 1 .nil [],.slice 2 .nil [],.slice 2 .nil []]),(.loc 2,[aj n,bK (b.map Bd.e),.slice 1 .nil [],b4 (k.map bG.e),.slice 2 (.own (.loc 5)) (X.e::W.map bn.e)])],[(.loc 6,⟨L.length,46,1,none⟩)],6+1,[]⟩) d.length (ra b k (X::W) d) [] cc ⟨Ψ,Ψ,Ψ⟩ (fun L f _=>?_) (fun i L hi f _=>?_)
    ·have V:=f.fin;have S:=f.2.1;rw[V]at c dC;simp only at c dC;have B:=abU L S;clear f V S;generalize lO L=M at B c dC;subst dC;by_cases w:M.length<=30
     ·have E:(M.length:Int)<=30:=Ω
      rw[if_pos w]at c;subst c;simp;(repeat' first|refine aq ?_|refine aP B ?_|refine aQ B ?_|simp[w,E]);all_goals simp[b0,ba,bd,a1]
      all_goals try simp[dO.e,w,E]
      all_goals first|exact⟨_,rfl,rfl⟩|skip
     ·have E:¬(M.length:Int)<=30:=Ω
      rw[if_neg w]at c;subst c;simp;(repeat' first|refine aq ?_|refine aP B ?_|refine aQ B ?_|simp[w,E]);all_goals simp[b0,ba,bd,a1]
      all_goals try simp[dO.e,w,E]
      all_goals first|exact⟨_,rfl,rfl⟩|skip
    ·obtain⟨x,g,p⟩:=eX hi;have U:=aJ x (fx g);have Vh:=f.1;have l:=abS K U;simp only[hb]at l;cases hu:mgu b (iG x)with
     |none=>have q:=f.skip g fun r=>NA hu;rw[hu]at l;simp only[oM,mL]at l;clear f g c dC;exact iW
     |some y=>
      have J:=K.mgu (De U) hu;rw[hu]at l;simp only[mK,vh]at l;have o:=Qd J Y;have u:=Qe J Bi mV Bb;have j:=abT K J;simp only[qJ]at o;simp only[jY,List.map_nil,hc]at u;by_cases t:gO y k []=none\/gS y (X::W) []=none
      ·have q:=f.skip g fun r=>Nz hu t;clear f g c dC hu j;rcases t with e|e
       ·rw[e]at o;simp only[oM,mL]at o;exact iW
       ·rw[e]at u;simp only[oM,mL]at u;generalize (gO y k []).isSome=a6 at o;cases a6
        ·exact iW
        ·exact iW
      ·have al:(gO y k []).isSome=true:=by cases e:gO y k []with|none=>exact absurd (.inl e) t|some _=>rfl
       have aC:(gS y (X::W) []).isSome=true:=by cases e:gS y (X::W) []with|none=>exact absurd (.inr e) t|some _=>rfl
       rw[al]at o;rw[aC]at u;by_cases v:hv b y=[]
       ·have ai:=f.stop g fun r=>Ny hu t v;rw[ai]at c dC;simp only at c dC;subst c;subst dC;rw[v]at j;simp only[cM,List.map_nil]at j;clear f g hu t;simp[hi,p];(repeat' first|refine aq ?_|refine aP l ?_|refine aQ l ?_|refine aP o ?_|refine aQ o ?_|refine aP u ?_|refine aQ u ?_|refine aP j ?_|refine aQ j ?_|simp[hi,p]);all_goals simp[b0,ba,bd,a1]
        all_goals try simp[ju,dO.e]
       ·have q:=f.snoc g (Io (b:=b) J) fun r=>NB hu t v;have R:¬((hv b y).length:Int)=0:=by have:(hv b y).length≠0:=fun h=>v (List.length_eq_zero_iff.1 h);omega
        have Q:(((hv b y).length:Int)==0)=false:=by simp[v]
        clear f g hu t c dC;generalize hv b y=z at j q R Q v;simp only[cM]at j;simp[hi,p];(repeat' first|refine aq ?_|refine aP l ?_|refine aQ l ?_|refine aP o ?_|refine aQ o ?_|refine aP u ?_|refine aQ u ?_|refine aP j ?_|refine aQ j ?_|simp[hi,p,R,Q,v]);all_goals try refine⟨by unfold lim;omega,?_⟩
        all_goals(repeat' first|refine aq ?_|simp)
        all_goals exact bV.rng (L++[z]) hi q ⟨by simp[fresh,aH,az,cb,aK,ad,uL,cM],ep (by simp[fresh,aH,az,cb,aK,ad,uL,cM]),er (by simp[fresh,aH,az,dU,aK,ad,uL,cM]),Ψ⟩
def arD(x y:List Bd):bX au 155 [cM x,cM y] (aj (e5 x y)):=Qb x y
def arQ{x y:List Bd}(h:¬x=y):(e5 x y !=0)=true:=by have:¬e5 x y=0:=fun e=>h ((mB.zero _ _).1 e);simp[this]
def arJ(a c:dO):bX au 82 [a.e,c.e] (.bool (decide (a=c))):=by
 obtain⟨n,b,d,k,m⟩:=a;obtain⟨n',b7,t,bt,s⟩:=c;generalize bu:decide ((⟨n,b,d,k,m⟩:dO)=⟨n',b7,t,bt,s⟩)=R;simp only[dO.mk.injEq,dO.e]at bu⊢;by_cases H:n=n';rotate_left
 ·have o:R=false:=by rw[<-bu];simp[H]
  have V:(n !=n')=true:=by simp[H]
  rw[o];clear bu o;refine bL a7 Tryz.func82 B5 fun u=>?_;unfold yG;exact cB
 subst H;have g:=Qb b b7;by_cases G:b=b7;rotate_left
 ·have o:R=false:=by rw[<-bu];simp[G]
  have F:¬e5 b b7=0:=fun h=>G ((mB.zero _ _).1 h);have W:(e5 b b7 !=0)=true:=by simp[F]
  rw[o];clear bu o;refine bL a7 Tryz.func82 B5 fun u=>?_;unfold yG;exact cB
 subst G;rw[(mB.zero b b).2 rfl]at g;by_cases E:d.length=t.length;rotate_left
 ·have o:R=false:=by rw[<-bu];simp only[iL];rintro⟨_,_,rfl,_⟩;exact E rfl
  have U:((d.length:Int) !=t.length)=true:=by simp;omega
  rw[o];clear bu o;refine bL a7 Tryz.func82 B5 fun u=>?_;unfold yG;exact cB
 by_cases w:k.length=bt.length;rotate_left
 ·have o:R=false:=by rw[<-bu];simp only[iL];rintro⟨_,_,_,rfl,_⟩;exact w rfl
  have N:((k.length:Int) !=bt.length)=true:=by simp;omega
  rw[o];clear bu o;refine bL a7 Tryz.func82 B5 fun u=>?_;unfold yG;exact cB
 by_cases B:m.length=s.length;rotate_left
 ·have o:R=false:=by rw[<-bu];simp only[iL];rintro⟨_,_,_,_,rfl⟩;exact B rfl
  have M:((m.length:Int) !=s.length)=true:=by simp;omega
  rw[o];clear bu o;refine bL a7 Tryz.func82 B5 fun u=>?_;unfold yG;exact cB
 have K:d≠t->R=false:=fun h=>by rw[<-bu];simp[h]
 have J:k≠bt->R=false:=fun h=>by rw[<-bu];simp[h]
 have S:m≠s->R=false:=fun h=>by rw[<-bu];simp[h]
 refine bL a7 Tryz.func82 B5 fun u=>?_;unfold yG;have Q:t.length<=68719476736:=by simp[eP,eU,eQ,lim]at u;omega
 have P:bt.length<=68719476736:=by simp[eP,eU,eQ,lim]at u;omega
 have O:s.length<=68719476736:=by simp[eP,eU,eQ,lim]at u;omega
 clear u;simp;(repeat' first|refine aq ?_|refine aP g ?_|refine aQ g ?_|simp[E,w,B]);have v:=K;refine eY [2,3,52,53] (fun i (_:Unit)=>[(54,aj i)]) t.length (sE d t) () cc (fun k L=>Ω) (fun _ j _=>?_) (fun i _ hi j _=>?_);rotate_left
 ·obtain⟨x,e⟩:∃x,d[i]? =some x:=⟨_,cl Ω⟩;obtain⟨y,f⟩:∃y,t[i]? =some y:=⟨_,cl hi⟩;have l:i<d.length:=Ω
  have r:∀h,(d[i]'h)=x:=fun h=>by rw[cl l]at e;exact e7 e
  have p:∀h,(t[i]'h)=y:=fun h=>by rw[cl hi]at f;exact e7 f
  have g:=arD x y;by_cases q:x=y
  ·subst q;have A:=j.step e f;rw[(mB.zero _ _).2 rfl]at g;clear j e f;simp[hi,l,r,p,-jm];(repeat' first|refine aq ?_|refine aP g ?_|refine aQ g ?_|simp[r,p,hi,l,-jm]);all_goals exact bV.rng () hi A cc
  ·rw[v (fun h=>q (by rw[h]at e;rw[e]at f;exact e7 f))];have F:=arQ q;clear j e f;simp[hi,l,r,p,-jm];(repeat' first|refine aq ?_|refine aP g ?_|refine aQ g ?_|simp[r,p,hi,l,q,F,-jm]);all_goals simp[b0,ba,bd,a1]
 have z:=j.fin E;subst z;clear j v K E;simp;(repeat' first|refine aq ?_|simp[w]);have v:=J;refine eY [2,3,69,70] (fun i (_:Unit)=>[(71,aj i)]) bt.length (sE k bt) () cc (fun k L=>Ω) (fun _ j _=>?_) (fun i _ hi j _=>?_);rotate_left
 ·obtain⟨x,e⟩:∃x,k[i]? =some x:=⟨_,cl Ω⟩;obtain⟨y,f⟩:∃y,bt[i]? =some y:=⟨_,cl hi⟩;have l:i<k.length:=Ω
  have r:∀h,(k[i]'h)=x:=fun h=>by rw[cl l]at e;exact e7 e
  have p:∀h,(bt[i]'h)=y:=fun h=>by rw[cl hi]at f;exact e7 f
  have g:=True.intro;by_cases q:x=y
  ·subst q;have A:=j.step e f;skip;clear j e f;simp[hi,l,r,p,-jm];(repeat' first|refine aq ?_|refine aP g ?_|refine aQ g ?_|simp[r,p,hi,l,-jm]);all_goals exact bV.rng () hi A cc
  ·rw[v (fun h=>q (by rw[h]at e;rw[e]at f;exact e7 f))];skip;clear j e f;simp[hi,l,r,p,-jm];(repeat' first|refine aq ?_|refine aP g ?_|refine aQ g ?_|simp[r,p,hi,l,q,q,-jm]);all_goals simp[b0,ba,bd,a1]
 have z:=j.fin w;subst z;clear j v J w;simp;(repeat' first|refine aq ?_|simp[B]);have v:=S;refine eY [3,85,86] (fun i (_:Unit)=>[(87,aj i)]) s.length (sE m s) () cc (fun k L=>Ω) (fun _ j _=>?_) (fun i _ hi j _=>?_);rotate_left
 ·obtain⟨x,e⟩:∃x,m[i]? =some x:=⟨_,cl Ω⟩;obtain⟨y,f⟩:∃y,s[i]? =some y:=⟨_,cl hi⟩;have l:i<m.length:=Ω
  have r:∀h,(m[i]'h)=x:=fun h=>by rw[cl l]at e;exact e7 e
  have p:∀h,(s[i]'h)=y:=fun h=>by rw[cl hi]at f;exact e7 f
  have g:=True.intro;by_cases q:x=y
  ·subst q;have A:=j.step e f;skip;clear j e f;simp[hi,l,r,p,-jm];(repeat' first|refine aq ?_|refine aP g ?_|refine aQ g ?_|simp[r,p,hi,l,-jm]);all_goals exact bV.rng () hi A cc
  ·rw[v (fun h=>q (by rw[h]at e;rw[e]at f;exact e7 f))];skip;clear j e f;simp[hi,l,r,p,-jm];(repeat' first|refine aq ?_|refine aP g ?_|refine aQ g ?_|simp[r,p,hi,l,q,q,-jm]);all_goals simp[b0,ba,bd,a1]
 have z:=j.fin B;subst z;have o:R=true:=by rw[<-bu];simp
 rw[o];exact cB
@[simp]def aqs:∀l:List (List Bt),cf (l.map gv)=l.map gv
 |[]=>rfl
 |x::xs=>by simp[cf,aqs xs]
def aa2:∀{d:List (List Bt)},d.all hx=true->∃aX:List (List Bd),d=(aX.map fun x=>x.map Bd.b)/\∀x∈aX,fm x
 |[],_=>⟨[],rfl,Ψ⟩
 |x::d,h=>by
  rw[List.all_cons,cP]at h;obtain⟨aX,J,U⟩:=aa2 h.2;obtain⟨s,b,c⟩:=ye.1 (sn.1 h.1);refine⟨s::aX,by rw[J,b];rfl,fun y a=>?_⟩;rcases gK.1 a with rfl|a
  ·exact c
  ·exact U y a
open Classical in
def arV(r:iv)(M:jK r.m->tI r.m):bX au 27 [r.e] (.bool (decide (u5 r))):=by
 generalize bu:decide (u5 r)=R;have e:¬O8 r->R=false:=fun h=>by rw[<-bu,iL];exact fun ch=>h ch.raw
 obtain⟨n,b,d,k,m⟩:=r;simp only[iv.e]at M⊢;have J:=dQ n 0 100000;by_cases g1:0<=n/\n<=100000;rotate_left
 ·rw[e fun h=>g1 h.n];rw[po g1]at J;refine bL a7 Tryz.func27 zG fun j=>?_;unfold wV;exact cB
 rw[n5 g1]at J;have u:bX au 76 [bK (b.map Bt.e)] (.bool (hx b)):=Qg b;cases g3:hx b
 ·rw[e fun h=>by obtain⟨s,f,U,_⟩:=h.b;have:=sn.2 (ye.2 ⟨s,f,U⟩);simp only at this;rw[g3]at this;cases this]
  rw[g3]at u;refine bL a7 Tryz.func27 zG fun j=>?_;unfold wV;exact cB
 rw[g3]at u;obtain⟨s,rfl,ai⟩:=ye.1 (sn.1 g3);clear g3;rw[zy]at u⊢;have w:=arC d;cases o:d.all hx
 ·rw[e fun h=>by
   have:d.all hx=true:=by rw[j7];intro x c;obtain⟨s,f,U,_⟩:=h.d x c;exact sn.2 (ye.2 ⟨s,f,U⟩)
   rw[o]at this;cases this]
  rw[o]at w;refine bL a7 Tryz.func27 zG fun j=>?_;unfold wV;exact cB
 rw[o]at w;obtain⟨aX,rfl,DA⟩:=aa2 o;clear o;rw[Lb]at w⊢;have F:=arT k;by_cases g4:ht k;rotate_left
 ·rw[e fun h=>g4 h.k];rw[po g4]at F;refine bL a7 Tryz.func27 zG fun j=>?_;unfold wV;exact cB
 rw[n5 g4]at F;have E:=arU m;by_cases g5:jK m;rotate_left
 ·rw[e fun h=>g5 h.m];rw[po g5]at E;refine bL a7 Tryz.func27 zG fun j=>?_;unfold wV;exact cB
 rw[n5 g5]at E;have v:=abW s n;cases g6:s.all (lD n)
 ·rw[e fun h=>by obtain⟨ak,f,_,N⟩:=h.b;have O:=wO f;subst O;rw[wR.2 N]at g6;cases g6]
  rw[g6]at v;refine bL a7 Tryz.func27 zG fun j=>?_;unfold wV;have Nw:=v;exact cB
 rw[g6]at v;have cZ:=wR.1 g6;clear g6;have X:=M g5;have nH:=X.len g5;refine bL a7 Tryz.func27 zG fun j=>?_;unfold wV;have Mc:aX.length<=68719476736:=by simp[eP,eU,eQ,lim]at j;omega
 have jr:=ti g4;clear j M;simp;(repeat' first|refine aq ?_|refine aP J ?_|refine aQ J ?_|refine aP u ?_|refine aQ u ?_|refine aP w ?_|refine aQ w ?_|refine aP F ?_|refine aQ F ?_|refine aP E ?_|refine aQ E ?_|refine aP v ?_|refine aQ v ?_|simp);refine eY [1,48,49] (fun i (_:Unit)=>[(50,aj i)]) aX.length (tg (fun x=>qV x n) aX) () cc (fun k b ab=>Ω) (fun _ a _=>?_) (fun i _ hi a _=>?_);rotate_left
 ·obtain⟨y,H,fu⟩:=eX hi;have V:=fx H;have Z:bX au 80 [cM y,aj n] (.bool (y.all (lD n))):=abW y n;cases p:y.all (lD n)
  ·rw[e fun h=>by obtain⟨ak,f,_,N⟩:=h.d _ (List.mem_map_of_mem V);have O:=wO f;subst O;rw[wR.2 N]at p;cases p]
   rw[p]at Z;clear a H V;exact cB
  ·rw[p]at Z;have aB:=a.step H (wR.1 p);clear a H V;exact iW
 have LX:=a.fin;clear a;simp;(repeat' first|refine aq ?_|simp);refine eY [1,61,62] (fun i (_:Unit)=>[(63,aj i)]) k.length (tg (fun x=>x.v<n) k) () cc (fun k b ab=>Ω) (fun _ a _=>?_) (fun i _ hi a _=>?_);rotate_left
 ·obtain⟨x,c,cz⟩:=eX hi;by_cases q:x.v<n
  ·have K:¬n<=x.v:=Ω
   have aB:=a.step c q;clear a c;exact iW
  ·have K:n<=x.v:=Ω
   rw[e fun h=>q (h.kb x (fx c))];clear a c;exact cB
 have L:=a.fin;clear a;simp;(repeat' first|refine aq ?_|simp);have y6:=L;refine eY [1,74,75] (fun i (_:Unit)=>[(76,aj i)]) m.length (tg (fun x=>x.v<n) m) () cc (fun k b ab=>Ω) (fun _ a _=>?_) (fun i _ hi a _=>?_);rotate_left
 ·obtain⟨x,c,cz⟩:=eX hi;by_cases q:x.v<n
  ·have K:¬n<=x.v:=Ω
   have aB:=a.step c q;clear a c;exact iW
  ·have K:n<=x.v:=Ω
   rw[e fun h=>q (h.mb x (fx c))];clear a c;exact cB
 have L:=a.fin;clear a;simp;(repeat' first|refine aq ?_|simp);have xr:=L;have du:yc ⟨n,s,aX,k,m⟩:=⟨g1,ai,DA,g4,g5,cZ,LX,y6,xr⟩;have Y:=aaU du;obtain⟨G,mV,be⟩:=X;have g:=arK du mV be;have l:u5 ⟨n,s.map Bd.b,aX.map fun x=>x.map Bd.b,k,m⟩↔mG ⟨n,s,aX,k,m⟩=some ⟨n,s,aX,k,m⟩:=Y;clear Y e;simp only[Pm]at g;generalize W:Cq ⟨n,s,aX,k,m⟩=t at g;have A:=arJ t ⟨n,s,aX,k,m⟩;cases B:mG ⟨n,s,aX,k,m⟩with
 |none=>
  rw[B]at g l;have z:R=false:=by rw[<-bu,iL,l];simp
  rw[z];obtain⟨tn,S,P,va,tm⟩:=t;simp only[mL,dO.e]at g;clear bu z l W A;exact cB
 |some t'=>
  have f:=apV B;rw[W]at f;subst f;rw[B]at g l;have z:R=decide (t=⟨n,s,aX,k,m⟩):=by rw[<-bu,decide_eq_decide,l];simp
  rw[z];simp only[vh]at g;simp only[dO.e]at g A;clear bu z l B;generalize decide (t=(⟨n,s,aX,k,m⟩:dO))=Q at A⊢;clear W;obtain⟨tn,S,P,va,tm⟩:=t;simp only at g A;exact cB
end
end Go.Proofs.YtahlgcidhnjlbaaGreat
