/- Contracts: valid states of the reference. -/
import Derived.ProofKit
import Derived.Carry
import Derived.WalkKit
import Derived.Deep.Slices
import Derived.Test.YtahlgcidhnjlbaaGreatProg
import Derived.Test.YtahlgcidhnjlbaaGreatX4
set_option linter.all false
set_option maxHeartbeats 4000000
set_option maxRecDepth 4000
open Bool renaming and_eq_true->cP,eq_iff_iff->q3,false_eq_true->hQ,not_eq_true'->sS,or_eq_true->og
open Go renaming TypeId->gU
open Go.DataW renaming trod->jS
open Go.IntKind renaming i64->vu
open Go.IntWalk renaming i64_in->pw
open Go.Op renaming bytesLess->ir
open Go.Proofs.Tryz renaming prog->au
open Go.Value renaming cells->pz
open List renaming all_eq_true->j4,cons_append->b5,drop->oU,drop_eq_getElem_cons->lG,getElem?_append_left->rY,getElem?_append_right->vv,getElem?_eq_getElem->cl,getElem?_eq_none->q4,getElem?_eq_some_iff->fI,getElem_of_mem->pB,length_append->qi,length_cons->mT,length_drop->uj,map_cons->gV,map_nil->rZ,mem_append->kc,mem_cons->gI,mem_filter->oV,mem_map->hb,mem_of_getElem?->fu,nil_append->cb,pairwise_cons->oh,pairwise_iff_getElem->q6,take->mU,take_length->jz,take_of_length_le->iu
open List.Pairwise renaming filter->adq
open Nat renaming le_refl->dP,le_trans->kC
open Option renaming bind_eq_some_iff->mV,getD_none->mW,getD_some->mr,isSome_none->lH,isSome_some->uk
open Option.some renaming inj->e8,injEq->dU
open _root_ renaming False->er,Option->bd,UInt8->cU,and_true->jc,beq_iff_eq->ey,congrArg->fy,decide_eq_false->mX,decide_eq_false_iff_not->iM,decide_eq_true->l6,decide_eq_true_eq->gy,eq_true->h1
namespace Go.Proofs.YtahlgcidhnjlbaaGreat
section
open Go Go.Pv
inductive hB where
 |s (l:List cU)
 |b (x:ByteArray)
def hB.e:hB->af
 | .s l=>.str l
 | .b x=>.cst (.string x)
def hB.len:hB->Int
 | .s l=>l.length
 | .b x=>x.size
def oe(n:Nat):Prop:=lim<n/\n<=9223372036854775807
def hB.wf:hB->Prop
 | .s _=>True
 | .b x=>oe x.size
inductive dA (α:Type) where
 |l (xs:List α)
 |b (p:bd Addr) (n cap:Nat)
def dA.e{α:Type}(sz:Nat)(f:α->af):dA α->af
 | .l xs=>.slice sz .no (xs.map f)
 | .b p n cap=>.cst (.slice p n cap)
def dA.wf{α:Type}(P:α->Prop):dA α->Prop
 | .l xs=> ∀x∈xs,P x
 | .b _ n _=>oe n
inductive cF where
 |mk (k n:Int) (s:hB) (a:List cF)
 |big (k n:Int) (s:hB) (p:bd Addr) (len cap:Nat)
mutual
def cF.e:cF->af
 | .mk k n s a=>.agg [aj k,aj n,s.e,dx (cF.eL a)]
 | .big k n s p len cap=>.agg [aj k,aj n,s.e,.cst (.slice p len cap)]
def cF.eL:List cF->List af
 |[]=>[]
 |x::xs=>x.e::cF.eL xs
end
def cF.eL_map:∀l,cF.eL l=l.map cF.e
 |[]=>rfl
 |x::xs=>by simp[cF.eL,cF.eL_map xs]
def cF.kind:cF->Int| .mk k _ _ _=>k| .big k _ _ _ _ _=>k
def cF.num:cF->Int| .mk _ n _ _=>n| .big _ n _ _ _ _=>n
def cF.name:cF->hB| .mk _ _ s _=>s| .big _ _ s _ _ _=>s
def cF.args:cF->dA cF| .mk _ _ _ a=>.l a| .big _ _ _ p l c=>.b p l c
def cF.e_eq(t:cF):t.e= .agg [aj t.kind,aj t.num,t.name.e,t.args.e 4 cF.e]:=by
 cases t with
 |mk k n s a=>simp only[cF.e,cF.eL_map];rfl
 |big=>rfl
@[simp]def av4(S:aB->Prop)(s:hB):az S s.e=True:=by cases s<;>simp[hB.e,az]
@[simp]def axU(s:hB):b7 s.e=s.e:=by cases s<;>simp[hB.e,b7]
mutual
def X8(S:aB->Prop):∀t:cF,az S t.e
 | .mk k n s a=>by simp[cF.e,az,aH,N6 S a]
 | .big k n s p l c=>by simp[cF.e,az,aH]
def N6(S:aB->Prop):∀l:List cF,aH S (cF.eL l)
 |[]=>by simp[cF.eL,aH]
 |x::xs=>by simp[cF.eL,aH,X8 S x,N6 S xs]
end
mutual
def abX:∀t:cF,b7 t.e=t.e
 | .mk k n s a=>by simp[cF.e,b7,cf,Qu a]
 | .big k n s p l c=>by simp[cF.e,b7,cf]
def Qu:∀l:List cF,cf (cF.eL l)=cF.eL l
 |[]=>by simp[cF.eL,cf]
 |x::xs=>by simp[cF.eL,cf,abX x,Qu xs]
end
@[simp]def awd(S:aB->Prop)(t:cF):az S t.e=True:=h1 (X8 S t)
@[simp]def avQ(S:aB->Prop)(l:List cF):aH S (l.map cF.e)=True:=by rw[<-cF.eL_map];exact h1 (N6 S l)
@[simp]def ax2(t:cF):b7 t.e=t.e:=abX t
@[simp]def axK(l:List cF):cf (l.map cF.e)=l.map cF.e:=by rw[<-cF.eL_map];exact Qu l
@[simp]def axG(t:cF):eT t.e=true:=by rw[cF.e_eq];rfl
@[simp]def avA(t:cF):qM 4 t.e:=by rw[cF.e_eq];exact⟨_,rfl,rfl⟩
@[simp]def aun(t:cF):cells t.e=[aj t.kind,aj t.num,t.name.e,t.args.e 4 cF.e]:=by rw[cF.e_eq];rfl
@[simp]def av3(S:aB->Prop)(x:dA cF):az S (x.e 4 cF.e)=True:=by cases x<;>simp[dA.e,az]
@[simp]def axT(x:dA cF):b7 (x.e 4 cF.e)=x.e 4 cF.e:=by cases x<;>simp[dA.e,b7]
mutual
def cF.sz:cF->Nat
 | .mk _ _ _ a=>1+cF.szL a
 | .big _ _ _ _ _ _=>1
def cF.szL:List cF->Nat
 |[]=>0
 |x::xs=>x.sz+cF.szL xs
end
def cF.szL_mem:∀{l:List cF} {x:cF},x∈l->x.sz<=cF.szL l
 |y::l,x,h=>by
  rcases gI.1 h with rfl|h
  ·simp[cF.szL]
  ·have:=cF.szL_mem h;simp[cF.szL];omega
mutual
def cF.wf:cF->Prop
 | .mk _ _ s a=>s.wf/\cF.wfL a
 | .big _ _ s _ l _=>s.wf/\oe l
def cF.wfL:List cF->Prop
 |[]=>True
 |x::xs=>x.wf/\cF.wfL xs
end
def cF.wfL_iff:∀{l:List cF},cF.wfL l↔∀x∈l,x.wf
 |[]=>by simp[cF.wfL]
 |x::l=>by simp[cF.wfL,cF.wfL_iff (l:=l)]
def jP{α:Type}(f:α->Int->Int):List α->Int->Int
 |[],m=>m
 |x::xs,m=>if f x m<0 then-1 else jP f xs (f x m)
def mn{α:Type}(f:α->Int->Int)(l:List α)(m:Int):Int:=if m-l.length<0 then-1 else jP f l (m-l.length)
def ft{α:Type}(f:α->Int->Int):dA α->Int->Int
 | .l xs,m=>mn f xs m
 | .b _ _ _,_=> -1
def ab2{α:Type}{f:α->Int->Int}(a:∀x m,0<=m-> -1<=f x m/\f x m<=m):∀(l:List α) (m:Int),0<=m-> -1<=jP f l m/\jP f l m<=m
 |[],m,h=>by simp only[jP];omega
 |x::xs,m,h=>by
  have J:=a x m h;simp only[jP];split
  ·omega
  ·have U:=ab2 a xs (f x m) Ω;omega
def arB{α:Type}{f:α->Int->Int}(a:∀x m,0<=m-> -1<=f x m/\f x m<=m)(l:List α)(m:Int)(h:0<=m): -1<=mn f l m/\mn f l m<=m:=by
 unfold mn;split
 ·omega
 ·have:=ab2 a l (m-l.length) Ω;omega
def vn{α:Type}{f:α->Int->Int}(a:∀x m,0<=m-> -1<=f x m/\f x m<=m)(l:dA α)(m:Int)(h:0<=m): -1<=ft f l m/\ft f l m<=m:=by
 cases l with
 |l xs=>exact arB a xs m h
 |b=>simp only[ft];omega
mutual
def ha:cF->Int->Int
 | .mk _ _ s a,m=>if m-s.len<0 then-1 else if m-s.len-a.length<0 then-1 else qY a (m-s.len-a.length)
 | .big _ _ s _ _ _,m=>if m-s.len<0 then-1 else-1
def qY:List cF->Int->Int
 |[],m=>m
 |x::xs,m=>if ha x m<0 then-1 else qY xs (ha x m)
end
def ab5:∀(l:List cF) (m:Int),qY l m=jP ha l m
 |[],m=>rfl
 |x::xs,m=>by simp only[qY,jP,ab5 xs]
def J5(t:cF)(m:Int):ha t m=if m-t.name.len<0 then-1 else ft ha t.args (m-t.name.len):=by
 cases t with
 |mk=>simp only[ha,ft,mn,ab5,cF.name,cF.args];rfl
 |big=>simp only[ha,ft,cF.name,cF.args];rfl
def hB.len_nn(s:hB):0<=s.len:=by cases s<;>simp[hB.len]
mutual
def wW:∀(t:cF) (m:Int),0<=m-> -1<=ha t m/\ha t m<=m
 | .mk _ _ s a,m,h=>by
  have:=s.len_nn;simp only[ha];split
  ·omega
  ·split
   ·omega
   ·have:=ab6 a (m-s.len-a.length) Ω;omega
 | .big _ _ s _ _ _,m,h=>by simp only[ha];split<;>omega
def ab6:∀(l:List cF) (m:Int),0<=m-> -1<=qY l m/\qY l m<=m
 |[],m,h=>by simp only[qY];omega
 |x::xs,m,h=>by
  have J:=wW x m h;simp only[qY];split
  ·omega
  ·have U:=ab6 xs (ha x m) Ω;omega
end
def hB.small{s:hB}(hw:s.wf){m:Int}(a:m<=1048576)(h:0<=m-s.len):∃l,s= .s l:=by
 cases s with
 |s l=>exact⟨l,rfl⟩
 |b x=>simp only[hB.wf,oe,lim]at hw;simp only[hB.len]at h;omega
mutual
def pq:Tm->cF
 | .mk k n s a=>.mk k n (.s s) (q0 a)
def q0:List Tm->List cF
 |[]=>[]
 |x::xs=>pq x::q0 xs
end
def ack:∀l,q0 l=l.map pq
 |[]=>rfl
 |x::xs=>by simp[q0,ack xs]
mutual
def Ka:∀t:Tm,(pq t).e=enc t
 | .mk k n s a=>by simp only[pq,cF.e,enc,acj a];rfl
def acj:∀l:List Tm,cF.eL (q0 l)=ma l
 |[]=>rfl
 |x::xs=>by simp only[q0,cF.eL,ma,Ka x,acj xs]
end
mutual
def J6:∀(t:cF) (m:Int),t.wf->m<=1048576->0<=m->0<=ha t m->∃u:Tm,t=pq u
 | .mk k n s a,m,hw,J,d,h=>by
  simp only[cF.wf]at hw;simp only[ha]at h;have:=s.len_nn;split at h
  ·omega
  rename_i g;obtain⟨l,rfl⟩:=hB.small hw.1 J Ω;split at h
  ·omega
  obtain⟨b,c⟩:=ab7 a _ hw.2 Ω Ω h;exact⟨.mk k n l b,by simp only[pq,c]⟩
 | .big _ _ s _ _ _,m,_,_,_,h=>by simp only[ha]at h;split at h<;>omega
def ab7:∀(l:List cF) (m:Int),cF.wfL l->m<=1048576->0<=m->0<=qY l m->∃u:List Tm,l=q0 u
 |[],_,_,_,_,_=>⟨[],rfl⟩
 |x::xs,m,hw,J,a,h=>by
  simp only[cF.wfL]at hw;simp only[qY]at h;have U:=wW x m a;split at h
  ·omega
  obtain⟨u,hu⟩:=J6 x m hw.1 J a Ω;obtain⟨v,b⟩:=ab7 xs _ hw.2 Ω Ω h;exact⟨u::v,by simp only[q0,hu,b]⟩
end
def ab3{α β:Type}{f:α->Int->Int}{P:α->Prop}{g:β->α}(hle:∀x m,0<=m-> -1<=f x m/\f x m<=m)(b:∀x m,P x->m<=1048576->0<=m->0<=f x m->∃y,x=g y):∀(l:List α) (m:Int),(∀x∈l,P x)->m<=1048576->0<=m->0<=jP f l m->∃u:List β,l=u.map g
 |[],_,_,_,_,_=>⟨[],rfl⟩
 |x::xs,m,hw,J,a,h=>by
  simp only[jP]at h;have U:=hle x m a;split at h
  ·omega
  obtain⟨u,hu⟩:=b x m (hw x Ψ) J a Ω;obtain⟨v,c⟩:=ab3 hle b xs _ (fun y d=>hw y (by simp[d])) Ω Ω h;exact⟨u::v,by rw[gV,<-hu,<-c]⟩
def Qz{α β:Type}{f:α->Int->Int}{P:α->Prop}{g:β->α}(hle:∀x m,0<=m-> -1<=f x m/\f x m<=m)(a:∀x m,P x->m<=1048576->0<=m->0<=f x m->∃y,x=g y)(l:dA α)(m:Int)(hw:l.wf P)(J:m<=1048576)(c:0<=m)(h:0<=ft f l m):∃u:List β,l= .l (u.map g):=by
 cases l with
 |b=>simp only[ft]at h;omega
 |l xs=>
  simp only[ft,mn]at h;split at h
  ·omega
  obtain⟨u,hu⟩:=ab3 hle a xs _ hw Ω Ω h;exact⟨u,by rw[hu]⟩
end
section
open Go Go.Pv Go.ChangeShapes Go.WideShapes Go.ChangeAt Go.RowKit Go.Deep
def sg(W:World):bc:=⟨fun b o=> ∃u,W.cell? ⟨b,o,none⟩=some u,fun _=>none,fun _=>none,fun _ _ _=>er⟩
def Yb(W:World)(b:Nat):∀(us:List Value) (off:Nat),(∀i u,us[i]? =some u->W.cell? ⟨b,off+i,none⟩=some u)->kX W (sg W).A b off us
 |[],_,_=>trivial
 |u::us,off,h=>by
  have a:W.cell? ⟨b,off,none⟩=some u:=by simpa using h 0 u rfl
  exact⟨⟨⟨u,a⟩,a⟩,Yb W b us (off+1) fun i c hu=>by have:=h (i+1) c (by simpa using hu);rwa[show off+(i+1)=off+1+i from by omega]at this⟩
section
variable {H:Type} {enc:gU×Value->H} {W:World} {spare:Nat->Bool} {held:Bool}
def reads(W:World)(p:af)(cs:List Value):Prop:= ∃v:Value,v.cells.toList=cs/\aV W (sg W) p v/\∀c∈cs,c.oneCell'=true
def CH{W:World}{a:List af}{cs:List Value}(h:cY W (sg W) a cs):reads W (.agg a) cs:=by
 refine⟨.agg cs.toArray,by simp[pz],by simp only[aV];exact⟨cs.toArray,rfl,by simpa using h⟩,?_⟩;have:∀(a:List af) (cs:List Value),cY W (sg W) a cs->∀c∈cs,c.oneCell'=true:=by
  intro a;induction a with
  |nil=>intro cs h;simp only[cY]at h;subst h;simp
  |cons p a b=>
   intro cs h c ax;simp only[cY]at h;obtain⟨u,us,rfl,J,U⟩:=h;rcases gI.1 ax with rfl|ax
   ·exact J.2
   ·exact b us U c ax
 exact this a cs h
def wO(W:World)(p:af)(v:Value):Prop:=aV W (sg W) p v/\v.oneCell'=true/\v.cells= #[v]
def wO.reads{W:World}{p:af}{v:Value}(h:wO W p v):reads W p [v]:=⟨v,by rw[h.2.2],h.1,fun c ax=>by simp at ax;subst ax;exact h.2.1⟩
def aev{W:World}{b a k j:Nat}:W.cell? (((⟨b,a,none⟩:Addr).add k).add j)=W.cell? ⟨b,a+(k+j),none⟩:=by rw[add_add,Addr.add_lit]
def FL{α:Type}{t e:gU}{sz:Nat}(f:α->af)(Q:α->Prop)(X:au.underlying t=some (.slice e))(ax:au.cellsOf e=sz)(L:0<sz){fuel:Nat}
  (y:∀n cs x,n<fuel->jS enc au W 0 spare held n e cs=some x->∃a:α,Q a/\reads W (f a) cs)
  {cs:List Value} {x:DataW H×List MemPlace} (h:jS enc au W 0 spare held fuel t cs=some x):∃l:dA α,l.wf Q/\∃v,cs=[v]/\wO W (l.e sz f) v:=by
 rcases DataW.trod_slice X h with⟨rfl,_⟩|⟨a,len,cap,elems,rest,n,rfl,rfl,_,_,R,hm,hlen,G,_,_⟩
 ·refine⟨.l [],by simp[dA.wf],_,rfl,?_,rfl,rfl⟩;simp only[dA.e,rZ,aV];exact⟨⟨none,0,rfl,Ψ,⟨by simp[maxLen],by simp[lim]⟩,.inl Ψ⟩,fun e=>(by cases e),fun g e=>(by cases e),fun _ _ e=>(by cases e),fun _ e=>(by cases e)⟩
 by_cases Y:lim<len
 ·refine⟨.b (some a) len cap,⟨Y,by unfold maxLen at hm;omega⟩,_,rfl,?_,rfl,rfl⟩;simp only[dA.e,aV]
 rcases Nat.eq_zero_or_pos len with rfl|K
 ·refine⟨.l [],by simp[dA.wf],_,rfl,?_,rfl,rfl⟩;simp only[dA.e,rZ,aV];exact⟨⟨some a,cap,rfl,Ψ,⟨hm,by simp[lim]⟩,.inl Ψ⟩,fun e=>(by cases e),fun g e=>(by cases e),fun _ _ e=>(by cases e),fun _ e=>(by cases e)⟩
 rw[ax]at G;have E:∀i,i<len->∃cs',cs'.length=sz/\(∀j,j<sz->W.cell? ((a.add (i*sz)).add j)=cs'[j]?)/\∃b:α,Q b/\reads W (f b) cs':=by intro i hi;have J:=G i hi;rw[cl Ω]at J;obtain⟨cs',U,o⟩:=mV.1 J;obtain⟨_,V,N⟩:=World.cells?_some U;exact⟨cs',V,N,y n cs' _ Ω o⟩
 obtain⟨m,k,spot⟩:=a;have w:spot=none:=by obtain⟨cs',J,U,_⟩:=E 0 K;have o:=U 0 L;rw[cl Ω]at o;simpa[Addr.add]using World.cell?_spot o
 subst w;have z:∀d,d<=len->∃xs:List α,xs.length=d/\(∀x∈xs,Q x)/\∃us:List Value,us.length=d*sz/\dw W (sg W) sz (xs.map f) us/\∀j u,us[j]? =some u->W.cell? ⟨m,k+((len-d)*sz+j),none⟩=some u:=by
  intro d;induction d with
  |zero=>intro _;exact⟨[],rfl,Ψ,[],Ψ,by simp[dw],Ψ⟩
  |succ d P=>
   intro aK;obtain⟨xs,c,B,us,F,s,q⟩:=P Ω;obtain⟨cs',r,M,b,S,v,v1,v2,v3⟩:=E (len-(d+1)) Ω;have hmul:(len-d)*sz=(len-(d+1))*sz+sz:=by rw[show len-d=(len-(d+1))+1 from by omega,Nat.succ_mul]
   refine⟨b::xs,by simp[c],fun x A=>?_,cs'++us,by rw[qi,r,F,Nat.succ_mul];omega,?_,fun j u p=>?_⟩
   ·rcases gI.1 A with rfl|A
    ·exact S
    ·exact B x A
   ·simp only[gV,dw];exact⟨v,us,by rw[v1],⟨v2,by rw[<-r,<-v1];simp,by rw[v1];exact v3⟩,s⟩
   ·rcases Nat.lt_or_ge j sz with O|Z
    ·rw[rY Ω]at p;have:=M j O;rw[aev]at this;rw[this];exact p
    ·rw[vv Ω,r]at p;have:=q (j-sz) u p;rwa[show(len-d)*sz+(j-sz)=(len-(d+1))*sz+j from by omega]at this
 obtain⟨xs,c,B,us,F,s,q⟩:=z len (dP _);refine⟨.l xs,B,_,rfl,?_,rfl,rfl⟩;simp only[dA.e,aV];refine⟨⟨some ⟨m,k,none⟩,cap,by rw[List.length_map,c],by rw[List.length_map,c];exact R,⟨hm,by rw[List.length_map,c];omega⟩,.inr ⟨m,k,us,rfl,Yb W m us k fun i u hu=>?_,s⟩⟩,fun e=>(by cases e),fun g e=>(by cases e),fun _ _ e=>(by cases e),fun _ e=>(by cases e)⟩;have:=q i u hu;simpa using this
end
end
section
open Go Go.Pv
def vP:C:=(aa [cW 2 0,bP 4 0] (aa [I 5 1,aF 6 2 1 2,ay 7 1 6,cd 8 (.slen (.t 7)),bu 9 .sub 5 8,I 1 9] (.seq (aa [I 10 1,aU 11 .lss 10 0] (aW 11 (aa [bP 4 (-1)] .ret) .skip)) (aa [aF 12 3 1 2,ay 13 1 12,I 14 1,b8 15 16 13 14,I 1 15] (.seq (aa [I 16 1,aU 17 .lss 16 0] (aW 17 (aa [bP 4 (-1)] .ret) .skip)) (aa [I 18 1,I 4 18] .ret))))))
def Lp:C:=(aa [bP 4 0] (aa [I 6 1,I 7 0,cw 8 7,bu 9 .sub 6 8,I 1 9] (.seq (aa [I 10 1,aU 11 .lss 10 0] (aW 11 (aa [bP 4 (-1)] .ret) .skip)) (.seq (aa [bP 5 0] (.block 0 (.loop (.seq (aa [I 12 5,I 13 0,cw 14 13,bu 15 .lss 12 14] (aW 15 .skip (.exit 0))) (.seq (.block 1 (aa [I 18 0,I 19 5,ck 20 4 18 19,bg 21 4 20,I 22 1,b8 23 15 21 22,I 1 23] (aa [I 24 1,aU 25 .lss 24 0] (aW 25 (aa [bP 4 (-1)] .ret) .skip)))) (.region [I 16 5,aU 17 .add 16 1,I 5 17])))))) (aa [I 26 1,I 4 26] .ret)))))
def S2:C:=(aa [cW 1 0,dG 2 ez] (aa [dG 3 ez] (aa [aF 4 0 1 1,ay 5 1 4,aF 6 0 1 3,bV 1 6 5] (aa [aF 7 1 1 1,ay 8 1 7,aF 9 1 1 3,bV 1 9 8] (aa [aF 10 2 1 1,ay 11 1 10,aF 12 2 1 3,bV 1 12 11] (aa [aF 13 3 1 1,ay 14 1 13,cT 15 19 14,aF 16 3 1 3,bV 1 16 15] (aa [bg 17 4 3,bV 4 2 17] .ret)))))))
def S3:C:=(aa [fo 2 4] (aa [I 5 0,cw 6 5,dt (.mks 7 none 4 30 (.agg ez) (.t 6)),I 3 7] (.seq (aa [bP 4 0] (.block 0 (.loop (.seq (aa [I 8 4,I 9 0,cw 10 9,bu 11 .lss 8 10] (aW 11 .skip (.exit 0))) (.seq (.block 1 (.region [I 14 3,I 15 4,I 16 0,I 17 4,ck 18 4 16 17,bg 19 4 18,cT 20 18 19,ck 21 4 14 15,bV 4 21 20])) (.region [I 12 4,aU 13 .add 12 1,I 4 13])))))) (.seq (.pub 3 (.region [I 22 3,I 2 22])) .ret))))
def SN:C:=(aa [bz 4 false] (.seq (aa [I 6 0,cw 7 6,I 8 1,cw 9 8,bu 10 .neq 7 9] (aW 10 (aa [bz 4 false] .ret) .skip)) (.seq (aa [bP 5 0] (.block 0 (.loop (.seq (aa [I 11 5,I 12 0,cw 13 12,bu 14 .lss 11 13] (aW 14 .skip (.exit 0))) (.seq (.block 1 (.seq (.drawn true 27 [I 17 0,I 18 5,ck 19 4 17 18,bg 20 4 19,I 21 1,I 22 5,ck 23 4 21 22,bg 24 4 23,b8 25 22 20 24,cM 26 25]) (aW 26 (aa [bz 4 false] .ret) .skip))) (.region [I 15 5,aU 16 .add 15 1,I 5 16])))))) (aa [bz 4 true] .ret))))
def SM:C:=(aa [cW 2 0,cW 3 1,bz 4 false] (.seq (aa [aF 5 0 1 2,ay 6 1 5,aF 7 0 1 3,ay 8 1 7,bu 9 .neq 6 8] (aW 9 (aa [bz 4 false] .ret) .skip)) (.seq (aa [aF 10 1 1 2,ay 11 1 10,aF 12 1 1 3,ay 13 1 12,bu 14 .neq 11 13] (aW 14 (aa [bz 4 false] .ret) .skip)) (.seq (aa [aF 15 2 1 2,ay 16 1 15,aF 17 2 1 3,ay 18 1 17,bu 19 .neq 16 18] (aW 19 (aa [bz 4 false] .ret) .skip)) (.seq (aa [aF 20 3 1 2,ay 21 1 20,aF 22 3 1 3,ay 23 1 22,b8 24 21 21 23,cM 25 24] (aW 25 (aa [bz 4 false] .ret) .skip)) (aa [bz 4 true] .ret))))))
def AV:C:=(aa [cW 2 0,bP 4 0] (aa [aF 5 1 1 2,ay 6 1 5,I 7 1,b8 8 33 6 7,I 1 8] (.seq (aa [I 9 1,aU 10 .lss 9 0] (aW 10 (aa [bP 4 (-1)] .ret) .skip)) (aa [aF 11 2 1 2,ay 12 1 11,I 13 1,b8 14 72 12 13,I 1 14] (.seq (aa [I 15 1,aU 16 .lss 15 0] (aW 16 (aa [bP 4 (-1)] .ret) .skip)) (aa [aF 17 3 1 2,ay 18 1 17,I 19 1,b8 20 73 18 19,I 1 20] (.seq (aa [I 21 1,aU 22 .lss 21 0] (aW 22 (aa [bP 4 (-1)] .ret) .skip)) (aa [aF 23 4 1 2,ay 24 1 23,I 25 1,b8 26 74 24 25,I 1 26] (.seq (aa [I 27 1,aU 28 .lss 27 0] (aW 28 (aa [bP 4 (-1)] .ret) .skip)) (aa [I 29 1,I 4 29] .ret))))))))))
def S1:C:=(aa [cW 1 0,dG 2 im] (aa [dG 3 im] (aa [aF 4 0 1 1,ay 5 1 4,aF 6 0 1 3,bV 1 6 5] (aa [aF 7 1 1 1,ay 8 1 7,cT 9 35 8,aF 10 1 1 3,bV 1 10 9] (aa [aF 11 2 1 1,ay 12 1 11,cT 13 83 12,aF 14 2 1 3,bV 1 14 13] (aa [aF 15 3 1 1,ay 16 1 15,cT 17 84 16,aF 18 3 1 3,bV 1 18 17] (aa [aF 19 4 1 1,ay 20 1 19,cT 21 85 20,aF 22 4 1 3,bV 1 22 21] (aa [bg 23 5 3,bV 5 2 23] .ret))))))))
def SL:C:=(aa [cW 2 0,cW 3 1,bz 4 false] (.seq (aa [aF 5 0 1 2,ay 6 1 5,aF 7 0 1 3,ay 8 1 7,bu 9 .neq 6 8] (aW 9 (aa [bz 4 false] .ret) .skip)) (.seq (aa [aF 10 1 1 2,ay 11 1 10,aF 12 1 1 3,ay 13 1 12,b8 14 37 11 13,cM 15 14] (aW 15 (aa [bz 4 false] .ret) .skip)) (.seq (aa [aF 16 2 1 2,ay 17 1 16,aF 18 2 1 3,ay 19 1 18,b8 20 92 17 19,cM 21 20] (aW 21 (aa [bz 4 false] .ret) .skip)) (.seq (aa [aF 22 3 1 2,ay 23 1 22,aF 24 3 1 3,ay 25 1 24,b8 26 93 23 25,cM 27 26] (aW 27 (aa [bz 4 false] .ret) .skip)) (.seq (aa [aF 28 4 1 2,ay 29 1 28,aF 30 4 1 3,ay 31 1 30,b8 32 94 29 31,cM 33 32] (aW 33 (aa [bz 4 false] .ret) .skip)) (aa [bz 4 true] .ret)))))))
def Lm:C:=(aa [bP 4 0] (aa [I 6 1,I 7 0,cw 8 7,bu 9 .sub 6 8,I 1 9] (.seq (aa [I 10 1,aU 11 .lss 10 0] (aW 11 (aa [bP 4 (-1)] .ret) .skip)) (.seq (aa [bP 5 0] (.block 0 (.loop (.seq (aa [I 12 5,I 13 0,cw 14 13,bu 15 .lss 12 14] (aW 15 .skip (.exit 0))) (.seq (.block 1 (aa [I 18 0,I 19 5,ck 20 5 18 19,bg 21 5 20,I 22 1,b8 23 97 21 22,I 1 23] (aa [I 24 1,aU 25 .lss 24 0] (aW 25 (aa [bP 4 (-1)] .ret) .skip)))) (.region [I 16 5,aU 17 .add 16 1,I 5 17])))))) (aa [I 26 1,I 4 26] .ret)))))
def SX:C:=(aa [fo 2 5] (aa [I 5 0,cw 6 5,dt (.mks 7 none 5 113 (.agg ks) (.t 6)),I 3 7] (.seq (aa [bP 4 0] (.block 0 (.loop (.seq (aa [I 8 4,I 9 0,cw 10 9,bu 11 .lss 8 10] (aW 11 .skip (.exit 0))) (.seq (.block 1 (.region [I 14 3,I 15 4,I 16 0,I 17 4,ck 18 5 16 17,bg 19 5 18,cT 20 101 19,ck 21 5 14 15,bV 5 21 20])) (.region [I 12 4,aU 13 .add 12 1,I 4 13])))))) (.seq (.pub 3 (.region [I 22 3,I 2 22])) .ret))))
def SH:C:=(aa [bz 4 false] (.seq (aa [I 6 0,cw 7 6,I 8 1,cw 9 8,bu 10 .neq 7 9] (aW 10 (aa [bz 4 false] .ret) .skip)) (.seq (aa [bP 5 0] (.block 0 (.loop (.seq (aa [I 11 5,I 12 0,cw 13 12,bu 14 .lss 11 13] (aW 14 .skip (.exit 0))) (.seq (.block 1 (.seq (.drawn true 27 [I 17 0,I 18 5,ck 19 5 17 18,bg 20 5 19,I 21 1,I 22 5,ck 23 5 21 22,bg 24 5 23,b8 25 103 20 24,cM 26 25]) (aW 26 (aa [bz 4 false] .ret) .skip))) (.region [I 15 5,aU 16 .add 15 1,I 5 16])))))) (aa [bz 4 true] .ret))))
def Ln:C:=(aa [bP 4 0] (aa [I 6 1,I 7 0,cw 8 7,bu 9 .sub 6 8,I 1 9] (.seq (aa [I 10 1,aU 11 .lss 10 0] (aW 11 (aa [bP 4 (-1)] .ret) .skip)) (.seq (aa [bP 5 0] (.block 0 (.loop (.seq (aa [I 12 5,I 13 0,cw 14 13,bu 15 .lss 12 14] (aW 15 .skip (.exit 0))) (.seq (.block 1 (aa [I 18 0,I 19 5,ck 20 1 18 19,ay 21 1 20,I 22 1,b8 23 33 21 22,I 1 23] (aa [I 24 1,aU 25 .lss 24 0] (aW 25 (aa [bP 4 (-1)] .ret) .skip)))) (.region [I 16 5,aU 17 .add 16 1,I 5 17])))))) (aa [I 26 1,I 4 26] .ret)))))
def GJ:C:=(aa [bP 4 0] (aa [I 5 1,I 6 0,cw 7 6,bu 8 .sub 5 7,I 1 8] (.seq (aa [I 9 1,aU 10 .lss 9 0] (aW 10 (aa [bP 4 (-1)] .ret) .skip)) (aa [I 11 1,I 4 11] .ret))))
def Lo:C:=(aa [bP 4 0] (aa [I 6 1,I 7 0,cw 8 7,bu 9 .sub 6 8,I 1 9] (.seq (aa [I 10 1,aU 11 .lss 10 0] (aW 11 (aa [bP 4 (-1)] .ret) .skip)) (.seq (aa [bP 5 0] (.block 0 (.loop (.seq (aa [I 12 5,I 13 0,cw 14 13,bu 15 .lss 12 14] (aW 15 .skip (.exit 0))) (.seq (.block 1 (aa [I 18 0,I 19 5,ck 20 2 18 19,bg 21 2 20,I 22 1,b8 23 144 21 22,I 1 23] (aa [I 24 1,aU 25 .lss 24 0] (aW 25 (aa [bP 4 (-1)] .ret) .skip)))) (.region [I 16 5,aU 17 .add 16 1,I 5 17])))))) (aa [I 26 1,I 4 26] .ret)))))
def SY:C:=(aa [fo 2 1] (aa [I 5 0,cw 6 5,dt (.mks 7 none 1 46 (.slice 5 .nil []) (.t 6)),I 3 7] (.seq (aa [bP 4 0] (.block 0 (.loop (.seq (aa [I 8 4,I 9 0,cw 10 9,bu 11 .lss 8 10] (aW 11 .skip (.exit 0))) (.seq (.block 1 (.region [I 14 3,I 15 4,I 16 0,I 17 4,ck 18 1 16 17,ay 19 1 18,cT 20 35 19,ck 21 1 14 15,bV 1 21 20])) (.region [I 12 4,aU 13 .add 12 1,I 4 13])))))) (.seq (.pub 3 (.region [I 22 3,I 2 22])) .ret))))
def S5:C:=(aa [fo 2 2] (aa [I 5 0,cw 6 5,dt (.mks 7 none 2 98 (.agg [.int .i64 0,.int .i64 0]) (.t 6)),I 3 7] (.seq (aa [bP 4 0] (.block 0 (.loop (.seq (aa [I 8 4,I 9 0,cw 10 9,bu 11 .lss 8 10] (aW 11 .skip (.exit 0))) (.seq (.block 1 (.region [I 14 3,I 15 4,I 16 0,I 17 4,ck 18 2 16 17,bg 19 2 18,cT 20 156 19,ck 21 2 14 15,bV 2 21 20])) (.region [I 12 4,aU 13 .add 12 1,I 4 13])))))) (.seq (.pub 3 (.region [I 22 3,I 2 22])) .ret))))
def S0:C:=(aa [fo 2 2] (aa [I 5 0,cw 6 5,dt (.mks 7 none 2 100 (.agg [.int .i64 0,.str []]) (.t 6)),I 3 7] (.seq (aa [bP 4 0] (.block 0 (.loop (.seq (aa [I 8 4,I 9 0,cw 10 9,bu 11 .lss 8 10] (aW 11 .skip (.exit 0))) (.seq (.block 1 (.region [I 14 3,I 15 4,I 16 0,I 17 4,ck 18 2 16 17,bg 19 2 18,cT 20 157 19,ck 21 2 14 15,bV 2 21 20])) (.region [I 12 4,aU 13 .add 12 1,I 4 13])))))) (.seq (.pub 3 (.region [I 22 3,I 2 22])) .ret))))
def SI:C:=(aa [bz 4 false] (.seq (aa [I 6 0,cw 7 6,I 8 1,cw 9 8,bu 10 .neq 7 9] (aW 10 (aa [bz 4 false] .ret) .skip)) (.seq (aa [bP 5 0] (.block 0 (.loop (.seq (aa [I 11 5,I 12 0,cw 13 12,bu 14 .lss 11 13] (aW 14 .skip (.exit 0))) (.seq (.block 1 (.seq (.drawn true 27 [I 17 0,I 18 5,ck 19 1 17 18,ay 20 1 19,I 21 1,I 22 5,ck 23 1 21 22,ay 24 1 23,b8 25 37 20 24,cM 26 25]) (aW 26 (aa [bz 4 false] .ret) .skip))) (.region [I 15 5,aU 16 .add 15 1,I 5 16])))))) (aa [bz 4 true] .ret))))
def SP:C:=(aa [bz 4 false] (.seq (aa [I 6 0,cw 7 6,I 8 1,cw 9 8,bu 10 .neq 7 9] (aW 10 (aa [bz 4 false] .ret) .skip)) (.seq (aa [bP 5 0] (.block 0 (.loop (.seq (aa [I 11 5,I 12 0,cw 13 12,bu 14 .lss 11 13] (aW 14 .skip (.exit 0))) (.seq (.block 1 (.seq (.drawn true 27 [I 17 0,I 18 5,ck 19 2 17 18,bg 20 2 19,I 21 1,I 22 5,ck 23 2 21 22,bg 24 2 23,b8 25 170 20 24,cM 26 25]) (aW 26 (aa [bz 4 false] .ret) .skip))) (.region [I 15 5,aU 16 .add 15 1,I 5 16])))))) (aa [bz 4 true] .ret))))
def SK:C:=(aa [bz 4 false] (.seq (aa [I 6 0,cw 7 6,I 8 1,cw 9 8,bu 10 .neq 7 9] (aW 10 (aa [bz 4 false] .ret) .skip)) (.seq (aa [bP 5 0] (.block 0 (.loop (.seq (aa [I 11 5,I 12 0,cw 13 12,bu 14 .lss 11 13] (aW 14 .skip (.exit 0))) (.seq (.block 1 (.seq (.drawn true 27 [I 17 0,I 18 5,ck 19 2 17 18,bg 20 2 19,I 21 1,I 22 5,ck 23 2 21 22,bg 24 2 23,b8 25 171 20 24,cM 26 25]) (aW 26 (aa [bz 4 false] .ret) .skip))) (.region [I 15 5,aU 16 .add 15 1,I 5 16])))))) (aa [bz 4 true] .ret))))
def Ll:C:=(aa [cW 2 0,bP 4 0] (aa [hq 5 1 4 2,bg 6 4 5,I 7 1,b8 8 15 6 7,I 1 8] (.seq (aa [I 9 1,aU 10 .lss 9 0] (aW 10 (aa [bP 4 (-1)] .ret) .skip)) (aa [I 11 1,I 4 11] .ret))))
def SV:C:=(aa [cW 1 0,dG 2 ks] (aa [dG 3 ks] (aa [aF 4 0 1 1,ay 5 1 4,aF 6 0 1 3,bV 1 6 5] (aa [hq 7 1 4 1,bg 8 4 7,cT 9 18 8,hq 10 1 4 3,bV 4 10 9] (aa [bg 11 5 3,bV 5 2 11] .ret)))))
def SG:C:=(aa [cW 2 0,cW 3 1,bz 4 false] (.seq (aa [aF 5 0 1 2,ay 6 1 5,aF 7 0 1 3,ay 8 1 7,bu 9 .neq 6 8] (aW 9 (aa [bz 4 false] .ret) .skip)) (.seq (aa [hq 10 1 4 2,bg 11 4 10,hq 12 1 4 3,bg 13 4 12,b8 14 22 11 13,cM 15 14] (aW 15 (aa [bz 4 false] .ret) .skip)) (aa [bz 4 true] .ret))))
def GI:C:=(aa [cW 2 0,bP 4 0] (aa [I 5 1,aF 6 1 1 2,ay 7 1 6,cd 8 (.slen (.t 7)),bu 9 .sub 5 8,I 1 9] (.seq (aa [I 10 1,aU 11 .lss 10 0] (aW 11 (aa [bP 4 (-1)] .ret) .skip)) (aa [I 12 1,I 4 12] .ret))))
def S4:C:=(aa [cW 1 0,dt (.alloc 2 none (.agg [.int .i64 0,.int .i64 0]))] (aa [dt (.alloc 3 none (.agg [.int .i64 0,.int .i64 0]))] (aa [aF 4 0 1 1,ay 5 1 4,aF 6 0 1 3,bV 1 6 5] (aa [aF 7 1 1 1,ay 8 1 7,aF 9 1 1 3,bV 1 9 8] (aa [bg 10 2 3,bV 2 2 10] .ret)))))
def SZ:C:=(aa [cW 1 0,dt (.alloc 2 none (.agg [.int .i64 0,.str []]))] (aa [dt (.alloc 3 none (.agg [.int .i64 0,.str []]))] (aa [aF 4 0 1 1,ay 5 1 4,aF 6 0 1 3,bV 1 6 5] (aa [aF 7 1 1 1,ay 8 1 7,aF 9 1 1 3,bV 1 9 8] (aa [bg 10 2 3,bV 2 2 10] .ret)))))
def SO:C:=(aa [cW 2 0,cW 3 1,bz 4 false] (.seq (aa [aF 5 0 1 2,ay 6 1 5,aF 7 0 1 3,ay 8 1 7,bu 9 .neq 6 8] (aW 9 (aa [bz 4 false] .ret) .skip)) (.seq (aa [aF 10 1 1 2,ay 11 1 10,aF 12 1 1 3,ay 13 1 12,bu 14 .neq 11 13] (aW 14 (aa [bz 4 false] .ret) .skip)) (aa [bz 4 true] .ret))))
def SJ:C:=(aa [cW 2 0,cW 3 1,bz 4 false] (.seq (aa [aF 5 0 1 2,ay 6 1 5,aF 7 0 1 3,ay 8 1 7,bu 9 .neq 6 8] (aW 9 (aa [bz 4 false] .ret) .skip)) (.seq (aa [aF 10 1 1 2,ay 11 1 10,aF 12 1 1 3,ay 13 1 12,bu 14 .neq 11 13] (aW 14 (aa [bz 4 false] .ret) .skip)) (aa [bz 4 true] .ret))))
def yb:b3 aT vP [.tmp 4] 2 Tryz.f15=true:=bi
def ZE:b3 aT Lp [.tmp 4] 2 Tryz.f16=true:=bi
def aor:b3 aT S2 [.cell 2 true 4] 1 Tryz.f18=true:=bi
def aos:b3 aT S3 [.tmp 2] 1 Tryz.f19=true:=bi
def aof:b3 aT SN [.tmp 4] 2 Tryz.f21=true:=bi
def aoe:b3 aT SM [.tmp 4] 2 Tryz.f22=true:=bi
def E9:b3 aT AV [.tmp 4] 2 Tryz.f26=true:=bi
def aoq:b3 aT S1 [.cell 2 true 5] 1 Tryz.f28=true:=bi
def aod:b3 aT SL [.tmp 4] 2 Tryz.f30=true:=bi
def ZB:b3 aT Lm [.tmp 4] 2 Tryz.f33=true:=bi
def aom:b3 aT SX [.tmp 2] 1 Tryz.f35=true:=bi
def an9:b3 aT SH [.tmp 4] 2 Tryz.f37=true:=bi
def ZC:b3 aT Ln [.tmp 4] 2 Tryz.f72=true:=bi
def O9:b3 aT GJ [.tmp 4] 2 Tryz.f73=true:=bi
def ZD:b3 aT Lo [.tmp 4] 2 Tryz.f74=true:=bi
def aon:b3 aT SY [.tmp 2] 1 Tryz.f83=true:=bi
def aou:b3 aT S5 [.tmp 2] 1 Tryz.f84=true:=bi
def aop:b3 aT S0 [.tmp 2] 1 Tryz.f85=true:=bi
def aoa:b3 aT SI [.tmp 4] 2 Tryz.f92=true:=bi
def aoh:b3 aT SP [.tmp 4] 2 Tryz.f93=true:=bi
def aoc:b3 aT SK [.tmp 4] 2 Tryz.f94=true:=bi
def ZA:b3 aT Ll [.tmp 4] 2 Tryz.f97=true:=bi
def aol:b3 aT SV [.cell 2 true 5] 1 Tryz.f101=true:=bi
def an8:b3 aT SG [.tmp 4] 2 Tryz.f103=true:=bi
def O8:b3 aT GI [.tmp 4] 2 Tryz.f144=true:=bi
def aot:b3 aT S4 [.cell 2 true 2] 1 Tryz.f156=true:=bi
def aoo:b3 aT SZ [.cell 2 true 2] 1 Tryz.f157=true:=bi
def aog:b3 aT SO [.tmp 4] 2 Tryz.f170=true:=bi
def aob:b3 aT SJ [.tmp 4] 2 Tryz.f171=true:=bi
def nB{α:Type}(f:α->af)(z:af)(l:List α)(i:Nat):List af:=(l.take i).map f++List.replicate (l.length-i) z
def Ch{α:Type}(f:α->af)(z:af)(l:List α):nB f z l 0=List.replicate l.length z:=by simp[nB]
def YT{α:Type}(f:α->af)(z:af)(l:List α):nB f z l l.length=l.map f:=by simp[nB]
def YU{α:Type}(f:α->af)(z:af)(l:List α){i:Nat}(hi:i<l.length):(nB f z l i)[i]? =some z:=by
 unfold nB;have h:((l.take i).map f).length=i:=by simp;omega
 rw[vv Ω,h,Nat.sub_self,List.getElem?_replicate,if_pos Ω]
def YV{α:Type}(f:α->af)(z:af)(l:List α){i:Nat}{x:α}(a:l[i]? =some x):(nB f z l i).set i (f x)=nB f z l (i+1):=by
 have hi:=(fI.1 a).1;unfold nB;have h:((l.take i).map f).length=i:=by simp;omega
 rw[List.set_append_right _ _ Ω,h,Nat.sub_self,nH a,List.map_append,List.append_assoc];congr 1;obtain⟨m,hm⟩:∃m,l.length-i=m+1:=⟨l.length-i-1,Ω⟩;rw[hm,show l.length-(i+1)=m from by omega,List.replicate_succ,List.set_cons_zero];rfl
def N0(S:aB->Prop):∀{a b:List af},aH S (a++b)↔aH S a/\aH S b
 |[],b=>by simp[aH]
 |x::a,b=>by simp[aH,N0 S (a:=a),and_assoc]
def XT{α:Type}(S:aB->Prop)(f:α->af)(a:∀x,az S (f x)):∀l:List α,aH S (l.map f)
 |[]=>by simp[aH]
 |x::xs=>by simp[aH,XT S f a xs,a]
def qO(S:aB->Prop)(z:af)(a:az S z):∀n,aH S (List.replicate n z)
 |0=>by simp[aH]
 |n+1=>by simp[List.replicate_succ,aH,qO S z a n,a]
def X5{α:Type}(S:aB->Prop)(f:α->af)(z:af)(l:List α)(i:Nat)(b:∀x,az S (f x))(a:az S z):aH S (nB f z l i):=by unfold nB;rw[N0];exact⟨XT S f b _,qO S z a _⟩
def lY{α:Type}(f:α->Nat->af)(z:af)(out:List (α×Nat))(n:Nat):List af:=j0 f out++List.replicate (n-out.length) z
def wH{α:Type}(f:α->Nat->af)(z:af)(n:Nat):List.replicate n z=lY f z [] n:=by simp[lY]
def OM{α:Type}(f:α->Nat->af)(z:af){out:List (α×Nat)}{n i:Nat}(hi:i<n)(ar:out.length=i):(lY f z out n)[i]? =some z:=by subst ar;simp[lY,List.getElem?_append,List.getElem?_replicate,hi];omega
def OO{α:Type}(f:α->Nat->af)(z:af){out:List (α×Nat)}{n i:Nat}(hi:i<n)(ar:out.length=i)(x:α)(m:Nat):(lY f z out n).set i (f x m)=lY f z (out++[(x,m)]) n:=by
 subst ar;obtain⟨d,a⟩:∃d,n-out.length=d+1:=⟨n-out.length-1,Ω⟩;have U:n-(out.length+1)=d:=Ω
 simp[lY,a,U,List.replicate_succ,List.set_append]
def OL{α:Type}(f:α->Nat->af)(z:af){out:List (α×Nat)}{n:Nat}(ar:out.length=n):lY f z out n=j0 f out:=by subst ar;simp[lY]
@[simp]def ON{α:Type}(f:α->Nat->af)(z:af){out:List (α×Nat)}{n:Nat}(ar:out.length<=n):(lY f z out n).length=n:=by simp[lY];omega
def NY{α:Type}{f:α->Nat->af}{g:α->af}(h:nJ f g){n m:Nat}{l:List (α×Nat)}{z:af}(a:∀S,az S z)(b:q8 n l)(hm:n<=m)(o:List aB)(N:Nat):aH (fun k=> ¬fresh m o k) (lY f z l N)=True:=by have J:=h.kin b hm o;unfold lY;rw[N0];simp only[J,true_and];exact h1 (qO _ _ (a _) _)
def _root_.Go.Pv.Tm.k(t:Tm)(κ:Nat):af:= .agg [aj t.kind,aj t.num,.str t.name,.slice 4 (.tr (.loc κ) 0) (t.args.map enc)]
def BY:nJ Tm.k enc:=⟨fun x n=>rfl,fun x n=>by simp[Tm.k,fs,gb,ef],fun x n=>by cases x;simp[Tm.k,b7,cf,enc,A8,Tm.kind,Tm.num,Tm.name,Tm.args],fun S x n h=>by simp[Tm.k,az,aH,h]⟩
def ac3(l:dA cF)(hw:∀p n cap,l= .b p n cap->oe n)(c:∀xs,l= .l xs->∀x∈xs,∀m,0<=m->m<=1048576->bU au 15 [cF.e x,aj m] (aj (ha x m)))(m:Int)(u:0<=m)(J:m<=1048576):bU au 16 [l.e 4 cF.e,aj m] (aj (ft ha l m)):=by
 cases l with
 |b p n cap=>
  have r:=hw p n cap rfl;simp only[oe,lim]at r;have g:m-n<0:=Ω
  simp only[dA.e,ft];clear hw c;refine bH a1 Tryz.func16 ZE fun o=>?_;unfold Lp;exact cp
 |l l=>
 have c:=c l rfl;clear hw;simp only[dA.e,ft];generalize bs:mn ha l m=R;unfold mn at bs;refine bH a1 Tryz.func16 ZE fun o=>?_;unfold Lp;have t:l.length<=68719476736:=by simp[eM,eV,eN,lim]at o;omega
 simp;by_cases g:m-l.length<0
 ·rw[if_pos g]at bs;subst bs;exact cp
 rw[if_neg g]at bs;(repeat' first|refine al ?_|simp[g]);refine eZ [0] (fun i (k:Int)=>[(1,aj k),(5,aj i)]) l.length (fun i k=>(0<=k/\k<=1048576)/\jP ha (l.drop i) k=R) (m-l.length) ca ⟨⟨Ω,Ω⟩,by simpa using bs⟩ (fun k a _=>?_) (fun i k hi a _=>?_)
 ·obtain⟨_,a⟩:=a;rw[List.drop_length]at a;simp only[jP]at a;subst a;exact cp
 ·obtain⟨⟨f,s⟩,a⟩:=a;obtain⟨x,e,j⟩:=eW hi;have key:=c x (fu e) k f s;have hle:=wW x k f;rw[u5 e]at a;simp only[jP]at a;generalize ha x k=q at key hle a;clear e;by_cases d:q<0
  ·rw[if_pos d]at a;subst a;exact cp
  ·rw[if_neg d]at a;simp[hi,j];((repeat' first|refine al ?_|refine aO key ?_|refine aP key ?_|simp[hi,j,d]|((first|apply ct|apply cz|apply cy)<;>intro h<;>try simp at h))<;>(try exact c3));all_goals exact bY.rng q hi ⟨⟨Ω,Ω⟩,a⟩ ca
def asg(l:List Tm)(c:∀x∈l,bU au 22 [enc x,enc x] (.bool true)):bU au 21 [dx (l.map enc),dx (l.map enc)] (.bool true):=by
 refine bH a1 Tryz.func21 aof fun b=>?_;unfold SN;have d:l.length<=68719476736:=by simp[eM,eV,eN,lim]at b;omega
 simp;(repeat' first|refine al ?_|simp);refine eZ [0,1] (fun i (_:Unit)=>[(5,aj i)]) l.length (fun _ _=>True) () ca trivial (fun _ _ _=>?_) (fun i _ hi _ _=>?_)
 ·exact cp
 ·obtain⟨x,a,e⟩:=eW hi;have key:=c x (fu a);clear a;exact iU
def QW(t:cF)(hw:t.wf):∀m:Int,0<=m->m<=1048576->bU au 15 [t.e,aj m] (aj (ha t m)):=by
 suffices H:∀(k:Nat) (t:cF),t.sz<=k->t.wf->∀m:Int,0<=m->m<=1048576->bU au 15 [t.e,aj m] (aj (ha t m))from H _ t (dP _) hw
 intro k;clear hw t;induction k with
 |zero=>intro t r;cases t<;>simp[cF.sz]at r
 |succ k o=>
  intro t r hw m A J;cases t with
  |mk j tn s a=>
   simp only[cF.wf,cF.wfL_iff]at hw;obtain⟨v,u⟩:=hw;have d:m-s.len<0->ha (.mk j tn s a) m= -1:=fun g=>by rw[J5];exact if_pos g
   have f:¬m-s.len<0->ha (.mk j tn s a) m=ft ha (.l a) (m-s.len):=fun g=>by rw[J5];exact if_neg g
   generalize ha (.mk j tn s a) m=R at d f;have z:=s.len_nn;have key:=fun h=>ac3 (.l a) (fun p n c e=>by cases e) (fun xs e x w=>by cases e;exact o x (by have:=cF.szL_mem w;simp only[cF.sz]at r;omega) (u x w)) (m-s.len) h Ω;have hle:=fun h=>vn wW (.l a) (m-s.len) h;simp only[cF.e,cF.eL_map];simp only[dA.e]at key;clear r u;cases s with
   |b x=>
    simp only[hB.wf,oe,lim]at v;have g:m-x.size<0:=Ω
    have bs:=d g;subst bs;clear d f;clear key hle o;simp only[hB.e];refine bH a1 Tryz.func15 yb fun i=>?_;unfold vP;exact cp
   |s l=>
    simp only[hB.len]at d f key hle;simp only[hB.e];by_cases g:m-l.length<0
    ·have bs:=d g;subst bs;clear d f;clear key hle o;refine bH a1 Tryz.func15 yb fun i=>?_;unfold vP;have q:l.length<=68719476736:=by simp[eM,eV,eN,lim]at i;omega
     exact cp
    ·have bs:=f g;clear d f;have key:=key Ω;have hle:=hle Ω;rw[<-bs]at key hle;clear bs o;by_cases y:R<0
     ·have:R= -1:=Ω
      subst this;refine bH a1 Tryz.func15 yb fun i=>?_;unfold vP;have q:l.length<=68719476736:=by simp[eM,eV,eN,lim]at i;omega
      exact cp
     ·refine bH a1 Tryz.func15 yb fun i=>?_;unfold vP;have q:l.length<=68719476736:=by simp[eM,eV,eN,lim]at i;omega
      exact cp
  |big j tn s p n c=>
   simp only[cF.wf]at hw;obtain⟨v,u⟩:=hw;have d:m-s.len<0->ha (.big j tn s p n c) m= -1:=fun g=>by rw[J5];exact if_pos g
   have f:¬m-s.len<0->ha (.big j tn s p n c) m=ft ha (.b p n c) (m-s.len):=fun g=>by rw[J5];exact if_neg g
   generalize ha (.big j tn s p n c) m=R at d f;have z:=s.len_nn;have key:=fun h=>ac3 (.b p n c) (fun p n c e=>by cases e;exact u) (fun xs e=>by cases e) (m-s.len) h Ω;have hle:=fun h=>vn wW (.b p n c) (m-s.len) h;simp only[cF.e];simp only[dA.e]at key;clear r u;cases s with
   |b x=>
    simp only[hB.wf,oe,lim]at v;have g:m-x.size<0:=Ω
    have bs:=d g;subst bs;clear d f;clear key hle o;simp only[hB.e];refine bH a1 Tryz.func15 yb fun i=>?_;unfold vP;exact cp
   |s l=>
    simp only[hB.len]at d f key hle;simp only[hB.e];by_cases g:m-l.length<0
    ·have bs:=d g;subst bs;clear d f;clear key hle o;refine bH a1 Tryz.func15 yb fun i=>?_;unfold vP;have q:l.length<=68719476736:=by simp[eM,eV,eN,lim]at i;omega
     exact cp
    ·have bs:=f g;clear d f;have key:=key Ω;have hle:=hle Ω;rw[<-bs]at key hle;clear bs o;by_cases y:R<0
     ·have:R= -1:=Ω
      subst this;refine bH a1 Tryz.func15 yb fun i=>?_;unfold vP;have q:l.length<=68719476736:=by simp[eM,eV,eN,lim]at i;omega
      exact cp
     ·refine bH a1 Tryz.func15 yb fun i=>?_;unfold vP;have q:l.length<=68719476736:=by simp[eM,eV,eN,lim]at i;omega
      exact cp
def anl(l:List Tm)(v:∀x∈l,gf au 18 [enc x] (Tm.k x)):gf au 19 [dx (l.map enc)] fun κ=>.slice 4 (.tr (.loc κ) 0) (l.map enc):=by
 refine gf.mk mixed a1 Tryz.func19 aos Ψ fun u κ=>?_;unfold S3;have w:l.length<=68719476736:=by simp[eM,eV,eN,lim]at u;omega
 simp;all_goals try refine⟨by unfold lim;omega,?_⟩
 (repeat' first|refine al ?_|simp);have c:∀S:aB->Prop,az S (.agg [aj 0,aj 0,.str [],.slice 4 .nil []]):=fun S=>by simp[az,aH]
 refine fT (fun i (x:Nat×List (Tm×Nat))=>⟨[(0,dx (l.map enc)),(3,.row 4 (.loc 0) l.length),(4,aj i)],[],[(.loc 0,⟨l.length,30,4,some (lY Tm.k (.agg [aj 0,aj 0,.str [],.slice 4 .nil []]) x.2 l.length)⟩)],x.1,[]⟩) l.length (fun i x=>1<=x.1/\q8 x.1 x.2/\x.2.map (·.1)=l.take i) (1,[]) ⟨by simp[fresh,aH,az,cc,aM,ae,<-wH,qO _ _ (c _)],eo (by simp[fresh,aH,az,cc,aM,ae,<-wH,qO _ _ (c _)]),ep (by simp[fresh,aH,az,dV,aM,ae,<-wH,qO _ _ (c _)]),Ψ⟩ ⟨dP _,.nil _,Ψ⟩ (fun x e _=>?_) (fun i x hi e _=>?_)
 ·obtain⟨n,out⟩:=x;obtain⟨J,U,a⟩:=e;simp only[jz]at J U a;have b:out.length=l.length:=by rw[<-a];simp
  simp;rw[OL _ _ b];(repeat' first|refine al ?_|simp);(refine ih.val Ψ ?_;simp[ba,bf,a6,ff,hy,eD,gX,eg,gO,tnL,tn,fs,gb,fold,hJ,hI,iO,ae,ef,cf,b7,BY.okL,BY.nodup U,BY.stL,a,b])
 ·obtain⟨n,out⟩:=x;obtain⟨J,U,a⟩:=e;simp only at J U a;obtain⟨x,r,k⟩:=eW hi;have key:=v x (fu r);have b:out.length=i:=by have:=fy List.length a;simp at this;omega
  have d:=OM Tm.k (.agg [aj 0,aj 0,.str [],.slice 4 .nil []]) hi b;have g:∀h,((lY Tm.k (.agg [aj 0,aj 0,.str [],.slice 4 .nil []]) out l.length)[i]'h)= .agg [aj 0,aj 0,.str [],.slice 4 .nil []]:=fun h=>by rw[cl h]at d;exact e8 d
  have f:=fun m=>OO Tm.k (.agg [aj 0,aj 0,.str [],.slice 4 .nil []]) hi b x m;have o:=ON Tm.k (.agg [aj 0,aj 0,.str [],.slice 4 .nil []]) (out:=out) (n:=l.length) Ω;have y:=fun m n' (h:n<=m) (t:m<n')=>U.snoc x h t;have s:∀m,(out++[(x,m)]).map (fun p:Tm×Nat=>p.1)=l.take (i+1):=fun m=>by rw[nH r,<-a];simp
  generalize lY Tm.k (.agg [aj 0,aj 0,.str [],.slice 4 .nil []]) out l.length=r0 at d g f o⊢;have q:=U.snoc x (dP n) (Nat.lt_succ_self n);have j:=NY BY c q (dP _) [] l.length;simp[fresh]at j;simp[hi,k];(refine CallDo.own Ψ (key) (by simp[ef]) ?_;simp);(repeat' first|refine al ?_|simp[hi,k,g,o,f,Tm.k,nE]);refine bY.rng (n+1,out++[(x,n)]) hi ?_ ?_
  ·exact⟨Ψ,q,s n⟩
  simp;rw[show(af.agg [aj x.kind,aj x.num,.str x.name,.slice 4 (.tr (.loc n) 0) (x.args.map enc)])=Tm.k x n from rfl,f n];exact⟨by simp[fresh,aH,az,cc,aM,ae],eo Ψ,ep (by simp[fresh,aH,az,cc,aM,ae,dV];exact j),Ψ⟩
def IX(t:Tm):gf au 18 [enc t] t.k:=by
 suffices H:∀(k:Nat) (t:Tm),t.sz<=k->gf au 18 [enc t] t.k from H _ t (dP _)
 intro k;induction k with
 |zero=>intro t b;cases t;simp[Tm.sz]at b
 |succ k a=>intro t b;have key:=anl t.args (fun x c=>a x (by have:=QC c;omega));clear a;refine gf.mk mixed a1 Tryz.func18 aor Ψ fun d κ=>?_;unfold S2;simp;(repeat' first|refine al ?_|simp);(refine CallDo.own Ψ (key) (by simp[ef]) ?_;simp);(repeat' first|refine al ?_|simp);(refine ih.val Ψ ?_;simp[ba,bf,a6,ff,hy,eD,gX,eg,gO,tnL,tn,fs,gb,fold,hJ,hI,iO,ae,ef,cf,b7]);all_goals simp[Tm.k]
@[simp]def auo(t:Tm)(n:Nat):cells (t.k n)=[aj t.kind,aj t.num,.str t.name,.slice 4 (.tr (.loc n) 0) (t.args.map enc)]:=rfl
@[simp]def axH(t:Tm)(n:Nat):eT (t.k n)=true:=rfl
def ac4(t:Tm):bU au 18 [enc t] (enc t):=by have:=(IX t).val (by rw[BY.st];simp);rwa[BY.st]at this
def QP(t:Tm):bU au 22 [enc t,enc t] (.bool true):=by
 suffices H:∀(k:Nat) (t:Tm),t.sz<=k->bU au 22 [enc t,enc t] (.bool true)from H _ t (dP _)
 intro k;induction k with
 |zero=>intro t b;cases t;simp[Tm.sz]at b
 |succ k a=>intro t b;have key:=asg t.args (fun x c=>a x (by have:=QC c;omega));clear a;refine bH a1 Tryz.func22 aoe fun d=>?_;unfold SM;exact cp
structure fQ where
 v:Int
 t:cF
def fQ.e(b:fQ):af:= .agg [aj b.v,aj b.t.kind,aj b.t.num,b.t.name.e,b.t.args.e 4 cF.e]
@[simp]def avV(S:aB->Prop)(b:fQ):az S b.e=True:=by simp[fQ.e,az,aH]
@[simp]def axM(b:fQ):b7 b.e=b.e:=by simp[fQ.e,b7,cf]
def XV(S:aB->Prop):∀l:List fQ,aH S (l.map fQ.e)
 |[]=>by simp[aH]
 |x::xs=>by simp[aH,XV S xs]
@[simp]def avK(S:aB->Prop)(l:List fQ):aH S (l.map fQ.e)=True:=h1 (XV S l)
@[simp]def axi(b:fQ):eT b.e=true:=rfl
@[simp]def avt(b:fQ):qM 5 b.e:=⟨_,rfl,rfl⟩
@[simp]def at0(b:fQ):cells b.e=[aj b.v,aj b.t.kind,aj b.t.num,b.t.name.e,b.t.args.e 4 cF.e]:=rfl
structure iw where
 v:Int
 s:hB
def iw.e(b:iw):af:= .agg [aj b.v,b.s.e]
@[simp]def av7(S:aB->Prop)(b:iw):az S b.e=True:=by simp[iw.e,az,aH]
@[simp]def axY(b:iw):b7 b.e=b.e:=by simp[iw.e,b7,cf]
def X0(S:aB->Prop):∀l:List iw,aH S (l.map iw.e)
 |[]=>by simp[aH]
 |x::xs=>by simp[aH,X0 S xs]
@[simp]def avP(S:aB->Prop)(l:List iw):aH S (l.map iw.e)=True:=h1 (X0 S l)
@[simp]def axz(b:iw):eT b.e=true:=rfl
@[simp]def avy(b:iw):qM 2 b.e:=⟨_,rfl,rfl⟩
@[simp]def aug(b:iw):cells b.e=[aj b.v,b.s.e]:=rfl
def qX(b:fQ)(m:Int):Int:=ha b.t m
def Qy(b:fQ)(m:Int)(h:0<=m): -1<=qX b m/\qX b m<=m:=wW b.t m h
def jQ(b:iw)(m:Int):Int:=if m-b.s.len<0 then-1 else m-b.s.len
def FT(b:iw)(m:Int)(h:0<=m): -1<=jQ b m/\jQ b m<=m:=by have:=b.s.len_nn;unfold jQ;split<;>omega
def Gs(t:cF):af.agg [aj t.kind,aj t.num,t.name.e,t.args.e 4 cF.e]=t.e:=(cF.e_eq t).symm
def as4(b:fQ)(hw:b.t.wf)(m:Int)(a:0<=m)(J:m<=1048576):bU au 97 [b.e,aj m] (aj (qX b m)):=by
 have key:=QW b.t hw m a J;have hle:=wW b.t m a;unfold qX;generalize ha b.t m=q at key hle⊢;by_cases c:q<0
 ·have:q= -1:=Ω
  subst this;refine bH a1 Tryz.func97 ZA fun d=>?_;unfold Ll;simp[Gs];(repeat' first|refine al ?_|refine aO key ?_|refine aP key ?_|simp[Gs]);all_goals simp[bZ,ba,bf,a6]
 ·refine bH a1 Tryz.func97 ZA fun d=>?_;unfold Ll;simp[Gs];(repeat' first|refine al ?_|refine aO key ?_|refine aP key ?_|simp[c,Gs]);all_goals simp[bZ,ba,bf,a6]
def _root_.Go.Pv.Bt.k(b:Bt)(κ:Nat):af:= .agg [aj b.v,aj b.t.kind,aj b.t.num,.str b.t.name,.slice 4 (.tr (.loc κ) 0) (b.t.args.map enc)]
def qs(d:List Bt)(κ:Nat):af:= .slice 5 (.tr (.loc κ) 0) (d.map Bt.e)
def Ip:nJ Bt.k Bt.e:=⟨fun x n=>rfl,fun x n=>⟨trivial,trivial,trivial,trivial,Cm n,trivial⟩,fun x n=>by simp only[Bt.k,b7,cf,abV];rfl,fun S x n h=>by simp[Bt.k,az,aH,h]⟩
def Iq:nJ qs gz:=⟨fun x n=>rfl,fun x n=>Cm n,fun x n=>by simp[qs,gz,b7],fun S x n h=>by simp[qs,az,h]⟩
def ani(b:Bt):gf au 101 [b.e] b.k:=by have key:=IX b.t;refine gf.mk mixed a1 Tryz.func101 aol Ψ fun a κ=>?_;unfold SV;simp;(repeat' first|refine al ?_|simp);(refine CallDo.own Ψ (key) (by simp[ef]) ?_;simp);(repeat' first|refine al ?_|simp);(refine ih.val Ψ ?_;simp[ba,bf,a6,ff,hy,eD,gX,eg,gO,tnL,tn,fs,gb,fold,hJ,hI,iO,ae,ef,cf,b7]);all_goals simp[Bt.k]
def asa(b:Bt):bU au 103 [b.e,b.e] (.bool true):=by have key:=QP b.t;refine bH a1 Tryz.func103 an8 fun a=>?_;unfold SG;exact cp
def as7(b:iw)(hw:b.s.wf)(m:Int)(f:0<=m)(J:m<=1048576):bU au 144 [b.e,aj m] (aj (jQ b m)):=by
 have a:m-b.s.len<0->jQ b m= -1:=fun g=>if_pos g;have c:¬m-b.s.len<0->jQ b m=m-b.s.len:=fun g=>if_neg g;generalize jQ b m=R at a c;obtain⟨v,s⟩:=b;simp only[iw.e]at hw a c⊢;cases s with
 |b x=>
  simp only[hB.wf,oe,lim]at hw;have g:m-x.size<0:=Ω
  have bs:=a g;subst bs;clear a c;simp only[hB.e];refine bH a1 Tryz.func144 O8 fun d=>?_;unfold GI;exact cp
 |s l=>
  simp only[hB.e];by_cases g:m-l.length<0
  ·have bs:=a g;subst bs;clear a c hw;refine bH a1 Tryz.func144 O8 fun d=>?_;unfold GI;have e:l.length<=68719476736:=by simp[eM,eV,eN,lim]at d;omega
   exact cp
  ·have bs:R=m-l.length:=c g;subst bs;clear a c hw;refine bH a1 Tryz.func144 O8 fun d=>?_;unfold GI;have e:l.length<=68719476736:=by simp[eM,eV,eN,lim]at d;omega
   exact cp
def atf(b:bI):bU au 156 [b.e] b.e:=by refine bH a1 Tryz.func156 aot fun a=>?_;unfold S4;exact cp
def atd(b:bo):bU au 157 [b.e] b.e:=by refine bH a1 Tryz.func157 aoo fun a=>?_;unfold SZ;exact cp
def ash(b:bI):bU au 170 [b.e,b.e] (.bool true):=by refine bH a1 Tryz.func170 aog fun a=>?_;unfold SO;exact cp
def ase(b:bo):bU au 171 [b.e,b.e] (.bool true):=by refine bH a1 Tryz.func171 aob fun a=>?_;unfold SJ;exact cp
@[simp high] def axa(x y:bo):od x.e 0 [aj y.v,.str y.s]=y.e:=rfl
@[simp high] def aw9(x y:bI):od x.e 0 [aj y.v,aj y.k]=y.e:=rfl
@[simp]def ano(l:List bo):gb (l.map bo.e)=True:=h1 (E6 (f:=bo.e) (fun _=>⟨trivial,trivial,trivial⟩) l)
@[simp]def ax7(l:List bo):tnL (l.map bo.e)=[]:=Kb (f:=bo.e) (fun _=>rfl) l
@[simp]def ann(l:List bI):gb (l.map bI.e)=True:=h1 (E6 (f:=bI.e) (fun _=>⟨trivial,trivial,trivial⟩) l)
def as5(l:dA fQ)(hw:∀p n cap,l= .b p n cap->oe n)(c:∀xs,l= .l xs->∀x∈xs,∀m,0<=m->m<=1048576->bU au 97 [fQ.e x,aj m] (aj (qX x m)))(m:Int)(u:0<=m)(J:m<=1048576):bU au 33 [l.e 5 fQ.e,aj m] (aj (ft qX l m)):=by
 cases l with
 |b p n cap=>
  have r:=hw p n cap rfl;simp only[oe,lim]at r;have g:m-n<0:=Ω
  simp only[dA.e,ft];clear hw c;refine bH a1 Tryz.func33 ZB fun o=>?_;unfold Lm;exact cp
 |l l=>
 have c:=c l rfl;clear hw;simp only[dA.e,ft];generalize bs:mn qX l m=R;unfold mn at bs;refine bH a1 Tryz.func33 ZB fun o=>?_;unfold Lm;have t:l.length<=68719476736:=by simp[eM,eV,eN,lim]at o;omega
 simp;by_cases g:m-l.length<0
 ·rw[if_pos g]at bs;subst bs;exact cp
 rw[if_neg g]at bs;(repeat' first|refine al ?_|simp[g]);refine eZ [0] (fun i (k:Int)=>[(1,aj k),(5,aj i)]) l.length (fun i k=>(0<=k/\k<=1048576)/\jP qX (l.drop i) k=R) (m-l.length) ca ⟨⟨Ω,Ω⟩,by simpa using bs⟩ (fun k a _=>?_) (fun i k hi a _=>?_)
 ·obtain⟨_,a⟩:=a;rw[List.drop_length]at a;simp only[jP]at a;subst a;exact cp
 ·obtain⟨⟨f,s⟩,a⟩:=a;obtain⟨x,e,j⟩:=eW hi;have key:=c x (fu e) k f s;have hle:=Qy x k f;rw[u5 e]at a;simp only[jP]at a;generalize qX x k=q at key hle a;clear e;by_cases d:q<0
  ·rw[if_pos d]at a;subst a;exact cp
  ·rw[if_neg d]at a;simp[hi,j];((repeat' first|refine al ?_|refine aO key ?_|refine aP key ?_|simp[hi,j,d]|((first|apply ct|apply cz|apply cy)<;>intro h<;>try simp at h))<;>(try exact c3));all_goals exact bY.rng q hi ⟨⟨Ω,Ω⟩,a⟩ ca
def anj(l:List Bt)(v:∀x∈l,gf au 101 [Bt.e x] (Bt.k x)):gf au 35 [bL (l.map Bt.e)] fun κ=>.slice 5 (.tr (.loc κ) 0) (l.map Bt.e):=by
 refine gf.mk mixed a1 Tryz.func35 aom Ψ fun u κ=>?_;unfold SX;have w:l.length<=68719476736:=by simp[eM,eV,eN,lim]at u;omega
 simp;all_goals try refine⟨by unfold lim;omega,?_⟩
 (repeat' first|refine al ?_|simp);have c:∀S:aB->Prop,az S (.agg [aj 0,aj 0,aj 0,.str [],.slice 4 .nil []]):=fun S=>by simp[az,aH]
 refine fT (fun i (x:Nat×List (Bt×Nat))=>⟨[(0,bL (l.map Bt.e)),(3,.row 5 (.loc 0) l.length),(4,aj i)],[],[(.loc 0,⟨l.length,113,5,some (lY Bt.k (.agg [aj 0,aj 0,aj 0,.str [],.slice 4 .nil []]) x.2 l.length)⟩)],x.1,[]⟩) l.length (fun i x=>1<=x.1/\q8 x.1 x.2/\x.2.map (·.1)=l.take i) (1,[]) ⟨by simp[fresh,aH,az,cc,aM,ae,<-wH,qO _ _ (c _)],eo (by simp[fresh,aH,az,cc,aM,ae,<-wH,qO _ _ (c _)]),ep (by simp[fresh,aH,az,dV,aM,ae,<-wH,qO _ _ (c _)]),Ψ⟩ ⟨dP _,.nil _,Ψ⟩ (fun x e _=>?_) (fun i x hi e _=>?_)
 ·obtain⟨n,out⟩:=x;obtain⟨J,U,a⟩:=e;simp only[jz]at J U a;have b:out.length=l.length:=by rw[<-a];simp
  simp;rw[OL _ _ b];(repeat' first|refine al ?_|simp);(refine ih.val Ψ ?_;simp[ba,bf,a6,ff,hy,eD,gX,eg,gO,tnL,tn,fs,gb,fold,hJ,hI,iO,ae,ef,cf,b7,Ip.okL,Ip.nodup U,Ip.stL,a,b])
 ·obtain⟨n,out⟩:=x;obtain⟨J,U,a⟩:=e;simp only at J U a;obtain⟨x,r,k⟩:=eW hi;have key:=v x (fu r);have b:out.length=i:=by have:=fy List.length a;simp at this;omega
  have d:=OM Bt.k (.agg [aj 0,aj 0,aj 0,.str [],.slice 4 .nil []]) hi b;have g:∀h,((lY Bt.k (.agg [aj 0,aj 0,aj 0,.str [],.slice 4 .nil []]) out l.length)[i]'h)= .agg [aj 0,aj 0,aj 0,.str [],.slice 4 .nil []]:=fun h=>by rw[cl h]at d;exact e8 d
  have f:=fun m=>OO Bt.k (.agg [aj 0,aj 0,aj 0,.str [],.slice 4 .nil []]) hi b x m;have o:=ON Bt.k (.agg [aj 0,aj 0,aj 0,.str [],.slice 4 .nil []]) (out:=out) (n:=l.length) Ω;have y:=fun m n' (h:n<=m) (t:m<n')=>U.snoc x h t;have s:∀m,(out++[(x,m)]).map (fun p:Bt×Nat=>p.1)=l.take (i+1):=fun m=>by rw[nH r,<-a];simp
  generalize lY Bt.k (.agg [aj 0,aj 0,aj 0,.str [],.slice 4 .nil []]) out l.length=r0 at d g f o⊢;have q:=U.snoc x (dP n) (Nat.lt_succ_self n);have j:=NY Ip c q (dP _) [] l.length;simp[fresh]at j;simp[hi,k];(refine CallDo.own Ψ (key) (by simp[ef]) ?_;simp);(repeat' first|refine al ?_|simp[hi,k,g,o,f,Bt.k,nE]);refine bY.rng (n+1,out++[(x,n)]) hi ?_ ?_
  ·exact⟨Ψ,q,s n⟩
  simp;rw[show(af.agg [aj x.v,aj x.t.kind,aj x.t.num,.str x.t.name,.slice 4 (.tr (.loc n) 0) (x.t.args.map enc)])=Bt.k x n from rfl,f n];exact⟨by simp[fresh,aH,az,cc,aM,ae],eo Ψ,ep (by simp[fresh,aH,az,cc,aM,ae,dV];exact j),Ψ⟩
def asb(l:List Bt)(c:∀x∈l,bU au 103 [Bt.e x,Bt.e x] (.bool true)):bU au 37 [bL (l.map Bt.e),bL (l.map Bt.e)] (.bool true):=by
 refine bH a1 Tryz.func37 an9 fun b=>?_;unfold SH;have d:l.length<=68719476736:=by simp[eM,eV,eN,lim]at b;omega
 simp;(repeat' first|refine al ?_|simp);refine eZ [0,1] (fun i (_:Unit)=>[(5,aj i)]) l.length (fun _ _=>True) () ca trivial (fun _ _ _=>?_) (fun i _ hi _ _=>?_)
 ·exact cp
 ·obtain⟨x,a,e⟩:=eW hi;have key:=c x (fu a);clear a;exact iU
def as8(l:dA iw)(hw:∀p n cap,l= .b p n cap->oe n)(c:∀xs,l= .l xs->∀x∈xs,∀m,0<=m->m<=1048576->bU au 144 [iw.e x,aj m] (aj (jQ x m)))(m:Int)(u:0<=m)(J:m<=1048576):bU au 74 [l.e 2 iw.e,aj m] (aj (ft jQ l m)):=by
 cases l with
 |b p n cap=>
  have r:=hw p n cap rfl;simp only[oe,lim]at r;have g:m-n<0:=Ω
  simp only[dA.e,ft];clear hw c;refine bH a1 Tryz.func74 ZD fun o=>?_;unfold Lo;exact cp
 |l l=>
 have c:=c l rfl;clear hw;simp only[dA.e,ft];generalize bs:mn jQ l m=R;unfold mn at bs;refine bH a1 Tryz.func74 ZD fun o=>?_;unfold Lo;have t:l.length<=68719476736:=by simp[eM,eV,eN,lim]at o;omega
 simp;by_cases g:m-l.length<0
 ·rw[if_pos g]at bs;subst bs;exact cp
 rw[if_neg g]at bs;(repeat' first|refine al ?_|simp[g]);refine eZ [0] (fun i (k:Int)=>[(1,aj k),(5,aj i)]) l.length (fun i k=>(0<=k/\k<=1048576)/\jP jQ (l.drop i) k=R) (m-l.length) ca ⟨⟨Ω,Ω⟩,by simpa using bs⟩ (fun k a _=>?_) (fun i k hi a _=>?_)
 ·obtain⟨_,a⟩:=a;rw[List.drop_length]at a;simp only[jP]at a;subst a;exact cp
 ·obtain⟨⟨f,s⟩,a⟩:=a;obtain⟨x,e,j⟩:=eW hi;have key:=c x (fu e) k f s;have hle:=FT x k f;rw[u5 e]at a;simp only[jP]at a;generalize jQ x k=q at key hle a;clear e;by_cases d:q<0
  ·rw[if_pos d]at a;subst a;exact cp
  ·rw[if_neg d]at a;simp[hi,j];((repeat' first|refine al ?_|refine aO key ?_|refine aP key ?_|simp[hi,j,d]|((first|apply ct|apply cz|apply cy)<;>intro h<;>try simp at h))<;>(try exact c3));all_goals exact bY.rng q hi ⟨⟨Ω,Ω⟩,a⟩ ca
def aps(l:List bo)(j:∀x∈l,bU au 157 [bo.e x] (bo.e x)):gf au 85 [b6 (l.map bo.e)] fun κ=>.slice 2 (.tr (.loc κ) 0) (l.map bo.e):=by
 refine gf.mk mixed a1 Tryz.func85 aop Ψ fun h κ=>?_;unfold S0;have k:l.length<=68719476736:=by simp[eM,eV,eN,lim]at h;omega
 simp;all_goals try refine⟨by unfold lim;omega,?_⟩
 (repeat' first|refine al ?_|simp);have c:∀(S:aB->Prop) (n:Nat),aH S (List.replicate n ((⟨0,[]⟩:bo).e))=True:=fun S n=>h1 (qO S _ (by simp[az,aH]) n);refine fT (fun i (_:Unit)=>⟨[(0,b6 (l.map bo.e)),(3,.row 2 (.loc 0) l.length),(4,aj i)],[],[(.loc 0,⟨l.length,100,2,some (nB bo.e ((⟨0,[]⟩:bo).e) l i)⟩)],1,[]⟩) l.length (fun _ _=>True) () ⟨by simp[fresh,aH,az,cc,aM,ae,Ch,c],eo (by simp[fresh,aH,az,cc,aM,ae,Ch,c]),ep (by simp[fresh,aH,az,dV,aM,ae,Ch,c]),Ψ⟩ trivial (fun _ _ _=>?_) (fun i _ hi _ _=>?_)
 ·rw[YT];simp;(repeat' first|refine al ?_|simp);(refine ih.val Ψ ?_;simp[ba,bf,a6,ff,hy,eD,gX,eg,gO,tnL,tn,fs,gb,fold,hJ,hI,iO,ae,ef,cf,b7,ano])
 ·obtain⟨x,d,e⟩:=eW hi;have key:=j x (fu d);have f:=YU bo.e ((⟨0,[]⟩:bo).e) l hi;have b:=YV bo.e ((⟨0,[]⟩:bo).e) l d;have a:∀S:aB->Prop,aH S (nB bo.e ((⟨0,[]⟩:bo).e) l (i+1)):=fun S=>X5 S _ _ _ _ (fun x=>by simp) (by simp[az,aH]);generalize nB bo.e ((⟨0,[]⟩:bo).e) l i=r0 at f b;generalize g:nB bo.e ((⟨0,[]⟩:bo).e) l (i+1)=m at b a;clear d;simp[hi,e];(repeat' first|refine al ?_|refine aO key ?_|refine aP key ?_|simp[hi,e,f,b,-od]);all_goals refine bY.rng () hi trivial ?_
  all_goals rw[g]
  all_goals first
   |exact⟨by simp[fresh,aH,az,cc,aM,ae,a],eo (by simp[fresh,aH,az,cc,aM,ae,a]),ep (by simp[fresh,aH,az,dV,aM,ae,a]),Ψ⟩
   |exact⟨by simp[fresh,aH,az,cc,aM,ae,a],eo (by simp[fresh,aH,az,cc,aM,ae,a]),ep (by simp[fresh,aH,az,dV,aM,ae,a];exact b),Ψ⟩
def asf(l:List bo)(c:∀x∈l,bU au 171 [bo.e x,bo.e x] (.bool true)):bU au 94 [b6 (l.map bo.e),b6 (l.map bo.e)] (.bool true):=by
 refine bH a1 Tryz.func94 aoc fun b=>?_;unfold SK;have d:l.length<=68719476736:=by simp[eM,eV,eN,lim]at b;omega
 simp;(repeat' first|refine al ?_|simp);refine eZ [0,1] (fun i (_:Unit)=>[(5,aj i)]) l.length (fun _ _=>True) () ca trivial (fun _ _ _=>?_) (fun i _ hi _ _=>?_)
 ·exact cp
 ·obtain⟨x,a,e⟩:=eW hi;have key:=c x (fu a);clear a;exact iU
def apt(l:List bI)(j:∀x∈l,bU au 156 [bI.e x] (bI.e x)):gf au 84 [b6 (l.map bI.e)] fun κ=>.slice 2 (.tr (.loc κ) 0) (l.map bI.e):=by
 refine gf.mk mixed a1 Tryz.func84 aou Ψ fun h κ=>?_;unfold S5;have k:l.length<=68719476736:=by simp[eM,eV,eN,lim]at h;omega
 simp;all_goals try refine⟨by unfold lim;omega,?_⟩
 (repeat' first|refine al ?_|simp);have c:∀(S:aB->Prop) (n:Nat),aH S (List.replicate n ((⟨0,0⟩:bI).e))=True:=fun S n=>h1 (qO S _ (by simp[az,aH]) n);refine fT (fun i (_:Unit)=>⟨[(0,b6 (l.map bI.e)),(3,.row 2 (.loc 0) l.length),(4,aj i)],[],[(.loc 0,⟨l.length,98,2,some (nB bI.e ((⟨0,0⟩:bI).e) l i)⟩)],1,[]⟩) l.length (fun _ _=>True) () ⟨by simp[fresh,aH,az,cc,aM,ae,Ch,c],eo (by simp[fresh,aH,az,cc,aM,ae,Ch,c]),ep (by simp[fresh,aH,az,dV,aM,ae,Ch,c]),Ψ⟩ trivial (fun _ _ _=>?_) (fun i _ hi _ _=>?_)
 ·rw[YT];simp;(repeat' first|refine al ?_|simp);(refine ih.val Ψ ?_;simp[ba,bf,a6,ff,hy,eD,gX,eg,gO,tnL,tn,fs,gb,fold,hJ,hI,iO,ae,ef,cf,b7,ann])
 ·obtain⟨x,d,e⟩:=eW hi;have key:=j x (fu d);have f:=YU bI.e ((⟨0,0⟩:bI).e) l hi;have b:=YV bI.e ((⟨0,0⟩:bI).e) l d;have a:∀S:aB->Prop,aH S (nB bI.e ((⟨0,0⟩:bI).e) l (i+1)):=fun S=>X5 S _ _ _ _ (fun x=>by simp) (by simp[az,aH]);generalize nB bI.e ((⟨0,0⟩:bI).e) l i=r0 at f b;generalize g:nB bI.e ((⟨0,0⟩:bI).e) l (i+1)=m at b a;clear d;simp[hi,e];(repeat' first|refine al ?_|refine aO key ?_|refine aP key ?_|simp[hi,e,f,b,-od]);all_goals refine bY.rng () hi trivial ?_
  all_goals rw[g]
  all_goals first
   |exact⟨by simp[fresh,aH,az,cc,aM,ae,a],eo (by simp[fresh,aH,az,cc,aM,ae,a]),ep (by simp[fresh,aH,az,dV,aM,ae,a]),Ψ⟩
   |exact⟨by simp[fresh,aH,az,cc,aM,ae,a],eo (by simp[fresh,aH,az,cc,aM,ae,a]),ep (by simp[fresh,aH,az,dV,aM,ae,a];exact b),Ψ⟩
def asi(l:List bI)(c:∀x∈l,bU au 170 [bI.e x,bI.e x] (.bool true)):bU au 93 [b6 (l.map bI.e),b6 (l.map bI.e)] (.bool true):=by
 refine bH a1 Tryz.func93 aoh fun b=>?_;unfold SP;have d:l.length<=68719476736:=by simp[eM,eV,eN,lim]at b;omega
 simp;(repeat' first|refine al ?_|simp);refine eZ [0,1] (fun i (_:Unit)=>[(5,aj i)]) l.length (fun _ _=>True) () ca trivial (fun _ _ _=>?_) (fun i _ hi _ _=>?_)
 ·exact cp
 ·obtain⟨x,a,e⟩:=eW hi;have key:=c x (fu a);clear a;exact iU
def lC:dA bI->Int->Int
 | .l l,m=>if m-l.length<0 then-1 else m-l.length
 | .b _ _ _,_=> -1
def J4(l:dA bI)(m:Int)(h:0<=m): -1<=lC l m/\lC l m<=m:=by
 cases l with
 |l l=>simp only[lC];split<;>omega
 |b=>simp only[lC];omega
def ata(l:dA bI)(hw:∀p n cap,l= .b p n cap->oe n)(m:Int)(e:0<=m)(J:m<=1048576):bU au 73 [l.e 2 bI.e,aj m] (aj (lC l m)):=by
 cases l with
 |b p n cap=>
  have d:=hw p n cap rfl;simp only[oe,lim]at d;have g:m-n<0:=Ω
  simp only[dA.e,lC];clear hw;refine bH a1 Tryz.func73 O9 fun a=>?_;unfold GJ;exact cp
 |l l=>
  simp only[dA.e,lC];clear hw;by_cases g:m-l.length<0
  ·rw[if_pos g];refine bH a1 Tryz.func73 O9 fun a=>?_;unfold GJ;have c:l.length<=68719476736:=by simp[eM,eV,eN,lim]at a;omega
   exact cp
  ·rw[if_neg g];refine bH a1 Tryz.func73 O9 fun a=>?_;unfold GJ;have c:l.length<=68719476736:=by simp[eM,eV,eN,lim]at a;omega
   exact cp
def k8(d:dA fQ):af:=d.e 5 fQ.e
@[simp]def avY(S:aB->Prop)(d:dA fQ):az S (k8 d)=True:=by cases d<;>simp[k8,dA.e,az]
@[simp]def axP(d:dA fQ):b7 (k8 d)=k8 d:=by
 cases d with
 |l l=>
  have:∀l:List fQ,cf (l.map fQ.e)=l.map fQ.e:=by
   intro l;induction l with
   |nil=>rfl
   |cons x l a=>simp[cf,a]
  simp[k8,dA.e,b7,this]
 |b=>simp[k8,dA.e,b7]
def X3(S:aB->Prop):∀l:List (dA fQ),aH S (l.map k8)
 |[]=>by simp[aH]
 |x::xs=>by simp[aH,X3 S xs]
@[simp]def avR(S:aB->Prop)(l:List (dA fQ)):aH S (l.map k8)=True:=h1 (X3 S l)
@[simp]def axo(d:dA fQ):eT (k8 d)=true:=by cases d<;>rfl
@[simp]def at4(d:dA fQ):cells (k8 d)=[k8 d]:=by cases d<;>rfl
def eF(d:dA fQ)(m:Int):Int:=ft qX d m
def vm(d:dA fQ)(m:Int)(h:0<=m): -1<=eF d m/\eF d m<=m:=vn Qy d m h
def yD(d:dA fQ):Prop:=d.wf fun b=>b.t.wf
@[simp]def arw:∀l:List (List Bt),cf (l.map gz)=l.map gz
 |[]=>rfl
 |x::xs=>by simp[cf,arw xs]
def ac2(d:dA fQ)(hw:yD d)(m:Int)(a:0<=m)(J:m<=1048576):bU au 33 [k8 d,aj m] (aj (eF d m)):=as5 d (fun p n c e=>by subst e;exact hw) (fun xs e x b m a J=>by subst e;exact as4 x (hw x b) m a J) m a J
def Y9(d:List Bt):gf au 35 [gz d] (qs d):=anj d fun x _=>ani x
def acF(d:List Bt):bU au 37 [gz d,gz d] (.bool true):=asb d fun x _=>asa x
def as6(l:dA (dA fQ))(hw:∀p n cap,l= .b p n cap->oe n)(c:∀xs,l= .l xs->∀x∈xs,∀m,0<=m->m<=1048576->bU au 33 [k8 x,aj m] (aj (eF x m)))(m:Int)(u:0<=m)(J:m<=1048576):bU au 72 [l.e 1 k8,aj m] (aj (ft eF l m)):=by
 cases l with
 |b p n cap=>
  have r:=hw p n cap rfl;simp only[oe,lim]at r;have g:m-n<0:=Ω
  simp only[dA.e,ft];clear hw c;refine bH a1 Tryz.func72 ZC fun o=>?_;unfold Ln;exact cp
 |l l=>
 have c:=c l rfl;clear hw;simp only[dA.e,ft];generalize bs:mn eF l m=R;unfold mn at bs;refine bH a1 Tryz.func72 ZC fun o=>?_;unfold Ln;have t:l.length<=68719476736:=by simp[eM,eV,eN,lim]at o;omega
 simp;by_cases g:m-l.length<0
 ·rw[if_pos g]at bs;subst bs;exact cp
 rw[if_neg g]at bs;(repeat' first|refine al ?_|simp[g]);refine eZ [0] (fun i (k:Int)=>[(1,aj k),(5,aj i)]) l.length (fun i k=>(0<=k/\k<=1048576)/\jP eF (l.drop i) k=R) (m-l.length) ca ⟨⟨Ω,Ω⟩,by simpa using bs⟩ (fun k a _=>?_) (fun i k hi a _=>?_)
 ·obtain⟨_,a⟩:=a;rw[List.drop_length]at a;simp only[jP]at a;subst a;exact cp
 ·obtain⟨⟨f,s⟩,a⟩:=a;obtain⟨x,e,j⟩:=eW hi;have key:=c x (fu e) k f s;have hle:=vm x k f;rw[u5 e]at a;simp only[jP]at a;generalize eF x k=q at key hle a;clear e;by_cases d:q<0
  ·rw[if_pos d]at a;subst a;exact cp
  ·rw[if_neg d]at a;simp[hi,j];((repeat' first|refine al ?_|refine aO key ?_|refine aP key ?_|simp[hi,j,d]|((first|apply ct|apply cz|apply cy)<;>intro h<;>try simp at h))<;>(try exact c3));all_goals exact bY.rng q hi ⟨⟨Ω,Ω⟩,a⟩ ca
def ank(l:List (List Bt))(v:∀x∈l,gf au 35 [gz x] (qs x)):gf au 83 [cZ (l.map gz)] fun κ=>.slice 1 (.tr (.loc κ) 0) (l.map gz):=by
 refine gf.mk mixed a1 Tryz.func83 aon Ψ fun u κ=>?_;unfold SY;have w:l.length<=68719476736:=by simp[eM,eV,eN,lim]at u;omega
 simp;all_goals try refine⟨by unfold lim;omega,?_⟩
 (repeat' first|refine al ?_|simp);have c:∀S:aB->Prop,az S (.slice 5 .nil []):=fun S=>by simp[az,aH]
 refine fT (fun i (x:Nat×List ((List Bt)×Nat))=>⟨[(0,cZ (l.map gz)),(3,.row 1 (.loc 0) l.length),(4,aj i)],[],[(.loc 0,⟨l.length,46,1,some (lY qs (.slice 5 .nil []) x.2 l.length)⟩)],x.1,[]⟩) l.length (fun i x=>1<=x.1/\q8 x.1 x.2/\x.2.map (·.1)=l.take i) (1,[]) ⟨by simp[fresh,aH,az,cc,aM,ae,<-wH,qO _ _ (c _)],eo (by simp[fresh,aH,az,cc,aM,ae,<-wH,qO _ _ (c _)]),ep (by simp[fresh,aH,az,dV,aM,ae,<-wH,qO _ _ (c _)]),Ψ⟩ ⟨dP _,.nil _,Ψ⟩ (fun x e _=>?_) (fun i x hi e _=>?_)
 ·obtain⟨n,out⟩:=x;obtain⟨J,U,a⟩:=e;simp only[jz]at J U a;have b:out.length=l.length:=by rw[<-a];simp
  simp;rw[OL _ _ b];(repeat' first|refine al ?_|simp);(refine ih.val Ψ ?_;simp[ba,bf,a6,ff,hy,eD,gX,eg,gO,tnL,tn,fs,gb,fold,hJ,hI,iO,ae,ef,cf,b7,Iq.okL,Iq.nodup U,Iq.stL,a,b])
 ·obtain⟨n,out⟩:=x;obtain⟨J,U,a⟩:=e;simp only at J U a;obtain⟨x,r,k⟩:=eW hi;have key:=v x (fu r);have b:out.length=i:=by have:=fy List.length a;simp at this;omega
  have d:=OM qs (.slice 5 .nil []) hi b;have g:∀h,((lY qs (.slice 5 .nil []) out l.length)[i]'h)= .slice 5 .nil []:=fun h=>by rw[cl h]at d;exact e8 d
  have f:=fun m=>OO qs (.slice 5 .nil []) hi b x m;have o:=ON qs (.slice 5 .nil []) (out:=out) (n:=l.length) Ω;have y:=fun m n' (h:n<=m) (t:m<n')=>U.snoc x h t;have s:∀m,(out++[(x,m)]).map (fun p:(List Bt)×Nat=>p.1)=l.take (i+1):=fun m=>by rw[nH r,<-a];simp
  generalize lY qs (.slice 5 .nil []) out l.length=r0 at d g f o⊢;have q:=U.snoc x (dP n) (Nat.lt_succ_self n);have j:=NY Iq c q (dP _) [] l.length;simp[fresh]at j;simp[hi,k];(refine CallDo.own Ψ (key) (by simp[ef]) ?_;simp);(repeat' first|refine al ?_|simp[hi,k,g,o,f,qs,nE]);refine bY.rng (n+1,out++[(x,n)]) hi ?_ ?_
  ·exact⟨Ψ,q,s n⟩
  simp;rw[show(af.slice 5 (.tr (.loc n) 0) (x.map Bt.e))=qs x n from rfl,f n];exact⟨by simp[fresh,aH,az,cc,aM,ae],eo Ψ,ep (by simp[fresh,aH,az,cc,aM,ae,dV];exact j),Ψ⟩
def asd(l:List (List Bt))(c:∀x∈l,bU au 37 [gz x,gz x] (.bool true)):bU au 92 [cZ (l.map gz),cZ (l.map gz)] (.bool true):=by
 refine bH a1 Tryz.func92 aoa fun b=>?_;unfold SI;have d:l.length<=68719476736:=by simp[eM,eV,eN,lim]at b;omega
 simp;(repeat' first|refine al ?_|simp);refine eZ [0,1] (fun i (_:Unit)=>[(5,aj i)]) l.length (fun _ _=>True) () ca trivial (fun _ _ _=>?_) (fun i _ hi _ _=>?_)
 ·exact cp
 ·obtain⟨x,a,e⟩:=eW hi;have key:=c x (fu a);clear a;exact iU
def Tw:C:=(aa [cW 1 0,bz 2 false] (aa [bg 3 4 1,dS 4 123 [.t 3,(gT 5000)],aU 5 .leq 4 5000,I 6 5,aw 6 true (bg 7 4 1),aw 6 true (cT 8 124 7),ei 9 6 8,I 2 9] .ret))
def AX:C:=(aa [cW 2 0,fo 4 1] (.seq (aa [aF 7 0 1 2,ay 8 1 7,aU 9 .eql 8 1] (aW 9 (aa [I 10 1,aF 11 1 1 2,ay 12 1 11,b8 13 126 10 12,I 4 13] .ret) .skip)) (.seq (aa [aF 14 3 1 2,ay 15 1 14,cw 16 15,bP 17 0] (gw 18 17 16 (.seq (.block 1 (aa [ck 19 4 15 17,bg 20 4 19,dG 6 ez,bV 4 6 20] (.region [bg 21 4 6,I 22 1,b8 23 58 21 22,I 1 23]))) (.region [aU 24 .add 17 1,I 17 24])))) (aa [I 25 1,I 4 25] .ret))))
def TG:C:=(aa [cW 3 1,dG 4 ez,bz 5 false] (aa [I 7 0,bg 8 4 3,b8 9 127 7 8,dG 6 ez,bV 4 6 9] (.seq (.drawn true 13 [bg 10 4 6,bg 11 4 6,cT 12 128 11,bV 4 4 10,I 5 12]) .ret)))
def Tx:C:=(aa [bz 6 false] (aa [I 7 0,I 8 1,bu 9 .geq 7 8,I 10 9,cg 10 true 11 0,cg 10 true 12 2,aw 10 true (bu 13 .leq 11 12),ei 14 10 13,I 6 14] .ret))
def Lx:C:=(aa [bz 2 false] (.seq (aa [I 9 0,cT 10 145 9,cM 11 10] (aW 11 (aa [bz 2 false] .ret) .skip)) (.seq (aa [I 12 0,cw 13 12,bP 14 0] (gw 15 14 13 (.seq (.block 1 (aa [ck 16 5 12 14,bg 17 5 16,dG 4 ks,bV 5 4 17] (.seq (aa [hq 18 1 4 4,aF 19 0 1 18,ay 20 1 19,aU 21 .eql 20 1,I 22 21,aw 22 true (hq 23 1 4 4),aw 22 true (aF 24 1 1 23),aw 22 true (ay 25 1 24),aw 22 true (aF 26 0 1 4),aw 22 true (ay 27 1 26),aw 22 true (bu 28 .geq 25 27),ei 29 22 28] (aW 29 (aa [bz 2 false] .ret) .skip)) (aa [hq 30 1 4 4,bg 31 4 30,dS 32 58 [.t 31,(.c (.slice 1 .nil []))],cw 33 32,bP 34 0] (.block 2 (.loop (aa [bu 35 .lss 34 33] (.seq (aW 35 .skip (.exit 2)) (.seq (.block 3 (aa [ck 36 1 32 34,ay 37 1 36,I 6 37] (aa [I 39 0,I 40 6,b8 41 146 39 40,I 38 41,cX 42 0 38,cX 43 1 38,dG 7 ez,bV 4 7 42,I 8 43] (aa [I 44 8] (aW 44 (aa [bz 2 false] .ret) .skip))))) (.region [aU 45 .add 34 1,I 34 45])))))))))) (.region [aU 46 .add 14 1,I 14 46])))) (aa [bz 2 true] .ret))))
def Ts:C:=(aa [bz 2 false] (.seq (aa [bP 3 0] (.block 0 (.loop (.seq (aa [I 5 3,I 6 0,cd 7 (.slen (.t 6)),bu 8 .lss 5 7] (aW 8 .skip (.exit 0))) (.seq (.block 1 (aa [I 11 0,I 12 3,cd 13 (.sidx (.t 11) (.t 12)),cd 14 (.bin .geq false (.t 13) (.c (.int .u8 97))),I 15 14,cg 15 true 16 0,cg 15 true 17 3,aw 15 true (cd 18 (.sidx (.t 16) (.t 17))),aw 15 true (cd 19 (.bin .leq false (.t 18) (.c (.int .u8 122)))),ei 20 15 19,I 4 20] (aa [I 21 4,cM 22 21,I 23 22,cg 23 true 24 3,aw 23 true (aU 25 .eql 24 0),cg 23 true 26 25,cg 26 false 27 0,cg 26 false 28 3,aw 26 false (cd 29 (.sidx (.t 27) (.t 28))),aw 26 false (cd 30 (.bin .neq false (.t 29) (.c (.int .u8 45)))),cg 26 false 31 30,cg 31 true 32 0,cg 31 true 33 3,aw 31 true (cd 34 (.sidx (.t 32) (.t 33))),aw 31 true (cd 35 (.conv .i64 (.t 34))),aw 31 true (dS 36 75 [.t 35,(gT 48),(gT 57)]),aw 31 true (cM 37 36),aw 26 false (ei 38 31 37),aw 23 true (dr 39 26 38),ei 40 23 39] (aW 40 (aa [bz 2 false] .ret) .skip)))) (.region [I 9 3,aU 10 .add 9 1,I 3 10])))))) (aa [I 41 0,cd 42 (.slen (.t 41)),dS 43 75 [.t 42,(gT 1),(gT 12)],I 2 43] .ret)))
def Ty:C:=(aa [cW 2 0,bP 4 0] (aa [bP 5 1] (.seq (aa [aF 8 3 1 2,ay 9 1 8,cw 10 9,bP 11 0] (gw 12 11 10 (.seq (.block 1 (aa [ck 13 4 9 11,bg 14 4 13,dG 7 ez,bV 4 7 14] (.seq (aa [I 15 5,I 16 1,bu 17 .gtr 15 16] (aW 17 (aa [I 18 5,I 4 18] .ret) .skip)) (.region [I 19 5,bg 20 4 7,I 21 1,I 22 5,bu 23 .sub 21 22,b8 24 123 20 23,bu 25 .add 19 24,I 5 25])))) (.region [aU 26 .add 11 1,I 11 26])))) (aa [I 27 5,I 4 27] .ret))))
def ng:C:=(aa [cW 1 0,bz 2 false] (.seq (aa [aF 3 0 1 1,ay 4 1 3,aU 5 .neq 4 1,I 6 5,aw 6 true (aF 7 0 1 1),aw 6 true (ay 8 1 7),aw 6 true (aU 9 .neq 8 3),ei 10 6 9,I 11 10,aw 11 true (aF 12 1 1 1),aw 11 true (ay 13 1 12),aw 11 true (aU 14 .neq 13 0),ei 15 11 14,I 16 15,aw 16 false (aF 17 0 1 1),aw 16 false (ay 18 1 17),aw 16 false (aU 19 .neq 18 2),cg 16 false 20 19,aw 20 true (aF 21 2 1 1),aw 20 true (ay 22 1 21),yE 20 true 23 (.bin .neq false (.t 22) (.c (.str []))),aw 16 false (ei 24 20 23),dr 25 16 24,I 26 25,aw 26 false (aF 27 0 1 1),aw 26 false (ay 28 1 27),aw 26 false (aU 29 .neq 28 4),cg 26 false 30 29,aw 30 true (aF 31 3 1 1),aw 30 true (ay 32 1 31),aw 30 true (cw 33 32),aw 30 true (aU 34 .gtr 33 0),aw 26 false (ei 35 30 34),dr 36 26 35] (aW 36 (aa [bz 2 false] .ret) .skip)) (.seq (aa [aF 37 0 1 1,ay 38 1 37] (.block 0 (aa [aU 40 .eql 38 0,I 39 40] (aW 39 (aa [bz 2 true] .ret) (aa [aU 42 .eql 38 1,I 41 42] (aW 41 (aa [aF 43 1 1 1,ay 44 1 43,dS 45 75 [.t 44,(gT 0),(gT 100000)],I 2 45] .ret) (aa [aU 47 .eql 38 2,I 46 47] (aW 46 (aa [aF 48 2 1 1,ay 49 1 48,cT 50 119 49,I 2 50] .ret) (aa [aU 52 .eql 38 3,I 51 52] (aW 51 (aa [aF 53 1 1 1,ay 54 1 53,dS 55 75 [.t 54,(gT (-1000000000)),(gT 1000000000)],I 2 55] .ret) (aa [aU 57 .eql 38 4,I 56 57] (aW 56 (aa [aF 58 3 1 1,ay 59 1 58,cw 60 59,aU 61 .eql 60 2,I 62 61,aw 62 true (aF 63 3 1 1),aw 62 true (ay 64 1 63),aw 62 true (kA 65 4 64 0),aw 62 true (bg 66 4 65),aw 62 true (cT 67 124 66),ei 68 62 67,I 69 68,aw 69 true (aF 70 3 1 1),aw 69 true (ay 71 1 70),aw 69 true (kA 72 4 71 1),aw 69 true (bg 73 4 72),aw 69 true (cT 74 124 73),ei 75 69 74,I 2 75] .ret) .skip)))))))))))) (aa [bz 2 false] .ret))))
def TA:C:=(aa [fo 4 1] (aa [I 7 0,cw 8 7,I 5 8] (.seq (.block 0 (.loop (.seq (aa [I 9 5,aU 10 .gtr 9 0,I 11 10,cg 11 true 12 0,cg 11 true 13 5,aw 11 true (aU 14 .sub 13 1),aw 11 true (ck 15 1 12 14),aw 11 true (ay 16 1 15),cg 11 true 17 1,aw 11 true (bu 18 .geq 16 17),ei 19 11 18] (aW 19 .skip (.exit 0))) (.block 1 (.region [I 20 5,aU 21 .sub 20 1,I 5 21]))))) (.seq (aa [I 22 5,I 23 0,cw 24 23,bu 25 .lss 22 24,I 26 25,cg 26 true 27 0,cg 26 true 28 5,aw 26 true (ck 29 1 27 28),aw 26 true (ay 30 1 29),cg 26 true 31 1,aw 26 true (bu 32 .eql 30 31),ei 33 26 32] (aW 33 (aa [I 34 0,I 4 34] .ret) .skip)) (aa [e1 35 1 3 [],I 36 0,I 37 5,cd 38 (.lsl 1 (.t 36) none (some (.t 37))),h0 39 1 3 35 38,I 6 39] (aa [I 40 6,I 41 1,e1 42 1 3 [.t 41],h0 43 1 3 40 42,I 6 43] (aa [I 44 6,I 45 0,I 46 5,cd 47 (.lsl 1 (.t 45) (some (.t 46)) none),h0 48 1 3 44 47,I 4 48] .ret)))))))
def GN:C:=(aa [cW 3 1,dG 4 ez] (.seq (aa [aF 7 0 1 3,ay 8 1 7,aU 9 .eql 8 1] (aW 9 (aa [I 11 0,aF 12 1 1 3,ay 13 1 12,b8 14 146 11 13,I 10 14,cX 15 0 10,cX 16 1 10,dG 5 ez,bV 4 5 15,I 6 16] (aa [I 17 6] (aW 17 (aa [bg 18 4 5,bV 4 4 18] .ret) .skip))) .skip)) (.seq (aa [aF 19 0 1 3,ay 20 1 19,aU 21 .eql 20 4] (aW 21 (.seq (.drawn true 36 [I 22 0,aF 23 3 1 3,ay 24 1 23,kA 25 4 24 0,bg 26 4 25,b8 27 127 22 26,I 28 0,aF 29 3 1 3,ay 30 1 29,kA 31 4 30 1,bg 32 4 31,b8 33 127 28 32,b8 34 189 27 33,bV 4 4 34]) .ret) .skip)) (aa [bg 35 4 3,bV 4 4 35] .ret))))
def Tz:C:=(aa [cW 1 0,bz 2 false] (aa [bg 3 4 1,dS 4 123 [.t 3,(gT 5000)],aU 5 .leq 4 5000,I 2 5] .ret))
def TK:C:=(aa [bz 2 false] (.seq (aa [I 5 0,cw 6 5,bP 7 0] (gw 8 7 6 (.seq (.block 1 (aa [I 9 7,ck 10 5 5 7,bg 11 5 10,dG 4 ks,I 3 9,bV 5 4 11] (.seq (.drawn true 41 [I 12 3,aU 13 .gtr 12 0,I 14 13,cg 14 true 15 0,cg 14 true 16 3,aw 14 true (aU 17 .sub 16 1),aw 14 true (ck 18 5 15 17),aw 14 true (aF 19 0 1 18),aw 14 true (ay 20 1 19),aw 14 true (aF 21 0 1 4),aw 14 true (ay 22 1 21),aw 14 true (bu 23 .geq 20 22),ei 24 14 23,I 25 24,aw 25 false (aF 26 0 1 4),aw 25 false (ay 27 1 26),aw 25 false (dS 28 75 [.t 27,(gT 0),(gT 100000)]),aw 25 false (cM 29 28),dr 30 25 29,I 31 30,aw 31 false (hq 32 1 4 4),aw 31 false (bg 33 4 32),aw 31 false (cT 34 56 33),aw 31 false (cM 35 34),dr 36 31 35]) (aW 36 (aa [bz 2 false] .ret) .skip)))) (.region [aU 37 .add 7 1,I 7 37])))) (aa [I 38 0,cw 39 38,aU 40 .leq 39 400,I 2 40] .ret)))
def TI:C:=(aa [dG 4 ez,bz 5 false] (.seq (aa [I 8 0,cw 9 8,bP 10 0] (gw 11 10 9 (.seq (.block 1 (aa [ck 12 5 8 10,bg 13 5 12,dG 7 ks,bV 5 7 13] (aa [aF 14 0 1 7,ay 15 1 14,I 16 1,bu 17 .eql 15 16] (aW 17 (aa [hq 18 1 4 7,bg 19 4 18,bV 4 4 19,bz 5 true] .ret) .skip)))) (.region [aU 20 .add 10 1,I 10 20])))) (aa [jy 21 ez [],bV 4 4 21,bz 5 false] .ret)))
def TM:C:=(aa [fo 4 5,bz 5 false] (aa [e1 10 4 30 [],I 6 10] (aa [e1 11 4 30 [],I 7 11] (.seq (aa [I 12 1,cw 13 12,bP 14 0] (gw 15 14 13 (.seq (.block 1 (aa [ck 16 5 12 14,bg 17 5 16,dG 9 ks,bV 5 9 17] (aa [I 18 6,aF 19 0 1 9,ay 20 1 19,cT 21 114 20,e1 22 4 30 [.t 21],h0 23 4 30 18 22,I 6 23] (.region [I 24 7,hq 25 1 4 9,bg 26 4 25,e1 27 4 30 [.t 26],h0 28 4 30 24 27,I 7 28])))) (.region [aU 29 .add 14 1,I 14 29])))) (aa [I 30 0,I 31 6,I 32 7,dS 33 202 [.t 30,.t 31,.t 32],cX 34 0 33,cX 35 1 33,I 4 34,I 5 35] .ret)))))
def uz:C:=(aa [cW 4 1,cW 5 2,fo 6 5,bz 7 false] (aa [I 12 0,bg 13 4 4,b8 14 201 12 13,bV 4 4 14] (aa [I 15 0,bg 16 4 5,b8 17 201 15 16,bV 4 5 17] (.seq (aa [aF 18 0 1 4,ay 19 1 18,aU 20 .eql 19 1,I 21 20,aw 21 true (aF 22 0 1 5),aw 21 true (ay 23 1 22),aw 21 true (aU 24 .eql 23 1),ei 25 21 24,I 26 25,aw 26 true (aF 27 1 1 4),aw 26 true (ay 28 1 27),aw 26 true (aF 29 1 1 5),aw 26 true (ay 30 1 29),aw 26 true (bu 31 .lss 28 30),ei 32 26 31] (aW 32 (aa [I 33 0,aF 34 1 1 5,ay 35 1 34,bg 36 4 4,dS 37 212 [.t 33,.t 35,.t 36],cX 38 0 37,cX 39 1 37,I 6 38,I 7 39] .ret) .skip)) (.seq (aa [aF 40 0 1 4,ay 41 1 40,aU 42 .eql 41 1,I 43 42,aw 43 true (aF 44 0 1 5),aw 43 true (ay 45 1 44),aw 43 true (aU 46 .eql 45 1),ei 47 43 46,I 48 47,aw 48 true (aF 49 1 1 4),aw 48 true (ay 50 1 49),aw 48 true (aF 51 1 1 5),aw 48 true (ay 52 1 51),aw 48 true (bu 53 .eql 50 52),ei 54 48 53] (aW 54 (aa [I 55 0,I 6 55,bz 7 true] .ret) .skip)) (.seq (aa [aF 56 0 1 4,ay 57 1 56,aU 58 .eql 57 1] (aW 58 (aa [I 59 0,aF 60 1 1 4,ay 61 1 60,bg 62 4 5,dS 63 212 [.t 59,.t 61,.t 62],cX 64 0 63,cX 65 1 63,I 6 64,I 7 65] .ret) .skip)) (.seq (aa [aF 66 0 1 5,ay 67 1 66,aU 68 .eql 67 1] (aW 68 (aa [I 69 0,aF 70 1 1 5,ay 71 1 70,bg 72 4 4,dS 73 212 [.t 69,.t 71,.t 72],cX 74 0 73,cX 75 1 73,I 6 74,I 7 75] .ret) .skip)) (.seq (aa [aF 76 0 1 4,ay 77 1 76,aF 78 0 1 5,ay 79 1 78,bu 80 .neq 77 79,I 81 80,aw 81 false (aF 82 1 1 4),aw 81 false (ay 83 1 82),aw 81 false (aF 84 1 1 5),aw 81 false (ay 85 1 84),aw 81 false (bu 86 .neq 83 85),dr 87 81 86,I 88 87,aw 88 false (aF 89 2 1 4),aw 88 false (ay 90 1 89),aw 88 false (aF 91 2 1 5),aw 88 false (ay 92 1 91),aw 88 false (bu 93 .neq 90 92),dr 94 88 93] (aW 94 (aa [fo 6 5,bz 7 false] .ret) .skip)) (.seq (aa [aF 95 3 1 4,ay 96 1 95,cw 97 96,bP 98 0] (gw 99 98 97 (.seq (.block 1 (aa [I 100 98,ck 101 4 96 98,bg 102 4 101,dG 9 ez,I 8 100,bV 4 9 102] (.seq (.drawn true 119 [I 104 0,bg 105 4 9,aF 106 3 1 5,ay 107 1 106,I 108 8,ck 109 4 107 108,bg 110 4 109,dS 111 180 [.t 104,.t 105,.t 110],I 103 111,cX 112 0 103,cX 113 1 103,I 10 112,I 11 113]) (.seq (aa [I 114 11,cM 115 114] (aW 115 (aa [fo 6 5,bz 7 false] .ret) .skip)) (.region [I 116 10,I 0 116]))))) (.region [aU 117 .add 98 1,I 98 117])))) (aa [I 118 0,I 6 118,bz 7 true] .ret))))))))))
def GO:C:=(aa [cW 3 1,dG 4 ez] (.seq (aa [aF 7 0 1 3,ay 8 1 7,aU 9 .eql 8 1] (aW 9 (aa [I 11 0,aF 12 1 1 3,ay 13 1 12,b8 14 146 11 13,I 10 14,cX 15 0 10,cX 16 1 10,dG 5 ez,bV 4 5 15,I 6 16] (aa [I 17 6] (aW 17 (aa [bg 18 4 5,bV 4 4 18] .ret) .skip))) .skip)) (aa [bg 19 4 3,bV 4 4 19] .ret)))
def TL:C:=(aa [fo 6 5,bz 7 false] (.seq (aa [I 12 1,cw 13 12,bP 14 0] (gw 15 14 13 (.seq (.block 1 (aa [I 16 14,ck 17 4 12 14,bg 18 4 17,dG 9 ez,I 8 16,bV 4 9 18] (.seq (.drawn true 34 [I 20 0,bg 21 4 9,I 22 2,I 23 8,ck 24 4 22 23,bg 25 4 24,dS 26 180 [.t 20,.t 21,.t 25],I 19 26,cX 27 0 19,cX 28 1 19,I 10 27,I 11 28]) (.seq (aa [I 29 11,cM 30 29] (aW 30 (aa [fo 6 5,bz 7 false] .ret) .skip)) (.region [I 31 10,I 0 31]))))) (.region [aU 32 .add 14 1,I 14 32])))) (aa [I 33 0,I 6 33,bz 7 true] .ret)))
def Dv:C:=(aa [cW 5 2,fo 6 5,bz 7 false] (aa [I 15 0,bg 16 4 5,b8 17 60 15 16,I 14 17,cX 18 0 14,cX 19 1 14,dG 8 ez,bV 4 8 18,I 9 19] (.seq (aa [I 20 9,cM 21 20,I 22 21,cg 22 false 23 1,aw 22 false (bg 24 4 8),aw 22 false (b8 25 233 23 24),dr 26 22 25,I 27 26,cg 27 false 28 0,aw 27 false (cw 29 28),aw 27 false (aU 30 .geq 29 400),dr 31 27 30] (aW 31 (aa [fo 6 5,bz 7 false] .ret) .skip)) (aa [e1 32 5 113 [],I 10 32] (.seq (aa [I 33 0,cw 34 33,bP 35 0] (gw 36 35 34 (.seq (.block 1 (aa [ck 37 5 33 35,bg 38 5 37,dG 12 ks,bV 5 12 38] (aa [hq 39 1 4 12,bg 40 4 39,I 41 1,bg 42 4 8,dS 43 234 [.t 40,.t 41,.t 42],dG 13 ez,bV 4 13 43] (.seq (aa [bg 44 4 13,cT 45 128 44,cM 46 45] (aW 46 (aa [fo 6 5,bz 7 false] .ret) .skip)) (.region [I 47 10,aF 48 0 1 12,ay 49 1 48,bg 50 4 13,jy 51 ks [(0,1,(.t 49)),(1,4,(.t 50))],e1 52 5 113 [.t 51],h0 53 5 113 47 52,I 10 53]))))) (.region [aU 54 .add 35 1,I 35 54])))) (aa [I 55 10,I 56 1,bg 57 4 8,jy 58 ks [(0,1,(.t 56)),(1,4,(.t 57))],b8 59 235 55 58,I 6 59,bz 7 true] .ret))))))
def TB:C:=(aa [cW 3 1,bz 4 false] (.seq (aa [aF 7 3 1 3,ay 8 1 7,cw 9 8,bP 10 0] (gw 11 10 9 (.seq (.block 1 (aa [ck 12 4 8 10,bg 13 4 12,dG 6 ez,bV 4 6 13] (aa [I 14 0,bg 15 4 6,b8 16 233 14 15] (aW 16 (aa [bz 4 true] .ret) .skip)))) (.region [aU 17 .add 10 1,I 10 17])))) (aa [aF 18 0 1 3,ay 19 1 18,aU 20 .eql 19 1,I 21 20,aw 21 true (aF 22 1 1 3),aw 21 true (ay 23 1 22),cg 21 true 24 0,aw 21 true (bu 25 .eql 23 24),ei 26 21 25,I 4 26] .ret)))
def GM:C:=(aa [cW 3 0,cW 5 2,dG 6 ez] (.seq (aa [aF 7 0 1 3,ay 8 1 7,aU 9 .eql 8 1,I 10 9,aw 10 true (aF 11 1 1 3),aw 10 true (ay 12 1 11),cg 10 true 13 1,aw 10 true (bu 14 .eql 12 13),ei 15 10 14] (aW 15 (aa [bg 16 4 5,bV 4 6 16] .ret) .skip)) (.seq (aa [aF 17 0 1 3,ay 18 1 17,aU 19 .eql 18 4] (aW 19 (.seq (.drawn true 36 [aF 20 3 1 3,ay 21 1 20,kA 22 4 21 0,bg 23 4 22,I 24 1,bg 25 4 5,dS 26 234 [.t 23,.t 24,.t 25],aF 27 3 1 3,ay 28 1 27,kA 29 4 28 1,bg 30 4 29,I 31 1,bg 32 4 5,dS 33 234 [.t 30,.t 31,.t 32],b8 34 189 26 33,bV 4 6 34]) .ret) .skip)) (aa [bg 35 4 3,bV 4 6 35] .ret))))
def TJ:C:=(aa [cW 3 1,fo 4 5] (aa [I 7 0,cw 8 7,I 5 8] (.seq (.block 0 (.loop (.seq (.seq (.drawn true 38 [I 9 5,aU 10 .gtr 9 0,I 11 10,cg 11 true 12 0,cg 11 true 13 5,aw 11 true (aU 14 .sub 13 1),aw 11 true (ck 15 5 12 14),aw 11 true (aF 16 0 1 15),aw 11 true (ay 17 1 16),aw 11 true (aF 18 0 1 3),aw 11 true (ay 19 1 18),aw 11 true (bu 20 .gtr 17 19),ei 21 11 20]) (aW 21 .skip (.exit 0))) (.block 1 (.region [I 22 5,aU 23 .sub 22 1,I 5 23]))))) (aa [e1 24 5 113 [],I 25 0,I 26 5,cd 27 (.lsl 5 (.t 25) none (some (.t 26))),h0 28 5 113 24 27,I 6 28] (aa [I 29 6,bg 30 5 3,e1 31 5 113 [.t 30],h0 32 5 113 29 31,I 6 32] (aa [I 33 6,I 34 0,I 35 5,cd 36 (.lsl 5 (.t 34) (some (.t 35)) none),h0 37 5 113 33 36,I 4 37] .ret))))))
def aoU:b3 aT Tw [.tmp 2] 1 Tryz.f56=true:=bi
def Fb:b3 aT AX [.tmp 4] 2 Tryz.f58=true:=bi
def ao4:b3 aT TG [.cell 4 true 4,.tmp 5] 2 Tryz.f60=true:=bi
def aoV:b3 aT Tx [.tmp 6] 3 Tryz.f75=true:=bi
def ZH:b3 aT Lx [.tmp 2] 1 Tryz.f76=true:=bi
def aoQ:b3 aT Ts [.tmp 2] 1 Tryz.f119=true:=bi
def aoW:b3 aT Ty [.tmp 4] 2 Tryz.f123=true:=bi
def n9:b3 aT ng [.tmp 2] 1 Tryz.f124=true:=bi
def aoY:b3 aT TA [.tmp 4] 2 Tryz.f126=true:=bi
def Pb:b3 aT GN [.cell 4 true 4] 2 Tryz.f127=true:=bi
def aoX:b3 aT Tz [.tmp 2] 1 Tryz.f128=true:=bi
def ao8:b3 aT TK [.tmp 2] 1 Tryz.f145=true:=bi
def ao6:b3 aT TI [.cell 4 true 4,.tmp 5] 2 Tryz.f146=true:=bi
def apa:b3 aT TM [.tmp 4,.tmp 5] 2 Tryz.f152=true:=bi
def wI:b3 aT uz [.tmp 6,.tmp 7] 3 Tryz.f180=true:=bi
def Pc:b3 aT GO [.cell 4 true 4] 2 Tryz.f201=true:=bi
def ao9:b3 aT TL [.tmp 6,.tmp 7] 3 Tryz.f202=true:=bi
def I4:b3 aT Dv [.tmp 6,.tmp 7] 3 Tryz.f212=true:=bi
def aoZ:b3 aT TB [.tmp 4] 2 Tryz.f233=true:=bi
def Pa:b3 aT GM [.cell 6 true 4] 3 Tryz.f234=true:=bi
def ao7:b3 aT TJ [.tmp 4] 2 Tryz.f235=true:=bi
mutual
def my:Tm->Int->Int
 | .mk _ _ _ args,m=>cntLS args 1 m
def cntLS:List Tm->Int->Int->Int
 |[],n,_=>n
 |x::xs,n,m=>if m<n then n else cntLS xs (n+my x (m-n)) m
end
mutual
def LF:∀(t:Tm) (m:Int),0<=m->1<=my t m/\my t m<=m+1
 | .mk _ _ _ args,m,h=>by simp only[my];exact Ua args 1 m h Ω Ω
def Ua:∀(l:List Tm) (n m:Int),0<=m->1<=n->n<=m+1->1<=cntLS l n m/\cntLS l n m<=m+1
 |[],n,m,_,J,U=>by simp only[cntLS];exact⟨J,U⟩
 |x::xs,n,m,a,J,U=>by
  simp only[cntLS];split
  ·exact⟨J,U⟩
  ·have:=LF x (m-n) Ω;exact Ua xs _ m a Ω Ω
end
def GS:∀(t:T) (m:Int),0<=m->(my t.tm m<=m↔(t.size:Int)<=m)/\((t.size:Int)<=m->my t.tm m=t.size)
 | .pair a b,m,h=>by
  have i:=T.size_pos a;have j:=T.size_pos b;simp only[T.tm,my,cntLS,T.size];by_cases J:m<1
  ·rw[if_pos J];exact⟨Ω,fun h=>Ω⟩
  ·rw[if_neg J];obtain⟨c,a2⟩:=GS a (m-1) Ω;have a3:=LF a.tm (m-1) Ω;by_cases U:(a.size:Int)<=m-1
   ·have e:=a2 U;rw[e];by_cases f:m<1+(a.size:Int)
    ·omega
    ·rw[if_neg f];obtain⟨g,d⟩:=GS b (m-(1+a.size)) Ω;refine⟨Ω,fun h=>?_⟩;rw[d Ω];omega
   ·have:¬my a.tm (m-1)<=m-1:=fun h=>U (c.1 h);rw[if_pos Ω];exact⟨Ω,fun h=>Ω⟩
 | .nil,m,h=>by simp[T.tm,my,cntLS,T.size]
 | .var _,m,h=>by simp[T.tm,my,cntLS,T.size]
 | .sym _,m,h=>by simp[T.tm,my,cntLS,T.size]
 | .num _,m,h=>by simp[T.tm,my,cntLS,T.size]
def afa(t:Tm)(m:Int):my t m=cntLS t.args 1 m:=by cases t;rfl
def acL(t:Tm):∀m:Int,0<=m->m<=1000000->bU au 123 [enc t,aj m] (aj (my t m)):=by
 suffices H:∀(k:Nat) (t:Tm),t.sz<=k->∀m:Int,0<=m->m<=1000000->bU au 123 [enc t,aj m] (aj (my t m))from H _ t (dP _)
 intro k;induction k with
 |zero=>intro t g;cases t;simp[Tm.sz]at g
 |succ k e=>
  intro t g m q J;refine bH a1 Tryz.func123 aoW fun f=>?_;unfold Ty;have p:t.args.length<=68719476736:=by rw[uG]at f;simp[eM,eV,eN,lim]at f;omega
  simp;refine eZ [1,9,10] (fun i (n:Int)=>[(5,aj n),(11,aj i)]) t.args.length (fun i n=>(1<=n/\n<=m+1)/\cntLS (t.args.drop i) n m=my t m) 1 ca ⟨Ω,by simp[afa]⟩ (fun n a _=>?_) (fun i n hi a _=>?_)
  ·simp;(repeat' first|refine al ?_|simp);simp[bZ,ba,bf,a6];have:=a.2;simp[cntLS]at this;exact this
  ·obtain⟨⟨o,r⟩,a⟩:=a;obtain⟨x,j,d⟩:=eW hi;have l:t.args.drop i=x::t.args.drop (i+1):=by rw[lG hi,d]
   have c:x.sz<=k:=by have:=QC (fu j);omega
   rw[l]at a;simp only[cntLS]at a;simp[hi,d];by_cases b:m<n
   ·rw[if_pos b]at a;(repeat' first|refine al ?_|simp[b]);simp[bZ,ba,bf,a6];exact a
   ·rw[if_neg b]at a;have ax:=LF x (m-n) Ω;((repeat' first|refine al ?_|refine aO (e x c (m-n) Ω Ω) ?_|refine aP (e x c (m-n) Ω Ω) ?_|simp[b]|((first|apply ct|apply cz|apply cy)<;>intro h<;>try simp at h))<;>(try exact c3));exact bY.rng (n+my x (m-n)) hi ⟨Ω,a⟩ ca
def C0(t:T):bU au 128 [t.e] (.bool (decide (t.size<=5000))):=by
 have ax:=(GS t 5000 Ω).1;have key:=acL t.tm 5000 Ω Ω;rw[mA]at key;refine bH a1 Tryz.func128 aoX fun a=>?_;unfold Tz;simp;(repeat' first|refine al ?_|refine aO key ?_|refine aP key ?_|simp);simp[bZ,ba,bf,a6];have:(my t.tm 5000<=5000)=(t.size<=5000):=by rw[ax];simp;omega
 simp[this]
def alG(l:List Bd)(v:Int)(k:Nat)(st:bp):Prop:=∃i:Nat,i<=l.length/\k=l.length-i/\dH l v=dH (l.drop i) v/\st=⟨[(1,aj v),(4,.ptr (.loc 0) 0),(8,bL (l.map Bd.e)),(9,aj l.length),(10,aj i)],[(.loc 0,[aj 0,aj 0,.str [],.slice 4 .nil []])],[],1,[]⟩
def w1(l:List Bd)(v:Int)(j:l.length<=1000000):bU au 146 [bL (l.map Bd.e),aj v] (.tuple [((dH l v).getD .nil).e,.bool (dH l v).isSome]):=by
 refine bH a1 Tryz.func146 ao6 fun m=>?_;unfold TI;simp;refine qu (alG l v) l.length _ ca ⟨0,Ω,rfl,Ψ,rfl⟩ ?_;rintro k st ⟨i,hi,ab,be,rfl⟩ f g;clear f g;by_cases a:i<l.length
 ·obtain⟨b,c⟩:∃b,l[i]? =some b:=⟨_,cl a⟩;have e:l.drop i=b::l.drop (i+1):=by rw[lG a];rw[cl a]at c;simp at c;rw[c]
  have d:∀h,l[i]'h=b:=fun h=>by rw[cl h]at c;simpa using c
  simp[d,a];(with_reducible repeat' first|((first|apply ct|apply cz|apply cy)<;>intro h<;>try simp at h)|refine al ?_|simp[d])
  ·have:dH l v=some b.t:=by rw[be,e];simp[dH,h]
   simp[bZ,ba,bf,a6];simp[this]
  ·refine bY.next (l.length-(i+1)) Ω ⟨i+1,Ω,rfl,?_,rfl⟩ ca;rw[be,e];simp[dH,h]
 ·have:dH l v=none:=by rw[be,List.drop_of_length_le Ω];simp[dH]
  simp[a];(with_reducible repeat' first|((first|apply ct|apply cz|apply cy)<;>intro h<;>try simp at h)|refine al ?_|simp);simp[bZ,ba,bf,a6];simp[this]
def asx(l:List Bd)(e:l.length<=1000000)(t:T):bU au 127 [bL (l.map Bd.e),t.e] (t.sub (dH l)).e:=by
 induction t with
 |pair a b d c=>
  refine bH a1 Tryz.func127 Pb fun f=>?_;unfold GN;simp;(repeat' first|refine al ?_|refine aO d ?_|refine aP d ?_|refine aO c ?_|refine aP c ?_|refine aO (Kg _ _) ?_|refine aP (Kg _ _) ?_|simp);all_goals simp[bZ,ba,bf,a6]
  all_goals simp[T.sub]
 |var n=>
  refine bH a1 Tryz.func127 Pb fun f=>?_;unfold GN;simp;((repeat' first|refine al ?_|refine aO (w1 l n e) ?_|refine aP (w1 l n e) ?_|simp|((first|apply ct|apply cz|apply cy)<;>intro h<;>try simp at h))<;>(try exact c3));all_goals simp[bZ,ba,bf,a6]
  all_goals cases g:dH l n<;>simp_all[T.sub]
 |_=>
  refine bH a1 Tryz.func127 Pb fun f=>?_;unfold GN;simp;(repeat' first|refine al ?_|simp);all_goals simp[bZ,ba,bf,a6]
  all_goals simp[T.sub]
def acO(l:List Bd)(a:l.length<=1000000)(t:T):bU au 127 [bL (l.map Bd.e),t.e] (t.ap (cQ l)).e:=by have:=asx l a t;rw[abY]at this;exact this
def QQ(l:List Bd)(a:l.length<=1000000)(t:T):bU au 60 [bL (l.map Bd.e),t.e] (.tuple [(t.ap (cQ l)).e,.bool (decide ((t.ap (cQ l)).size<=5000))]):=by refine bH a1 Tryz.func60 ao4 fun b=>?_;unfold TG;simp;(repeat' first|refine al ?_|refine aO (acO l a t) ?_|refine aP (acO l a t) ?_|refine aO (C0 _) ?_|refine aP (C0 _) ?_|simp);simp[bZ,ba,bf,a6]
def x9(v:Int)(l:List T):Bool:=l.any (T.occ v)
def Ze(v:Int)(t:T):t.occ v=(x9 v t.args||(t.kind==1&&t.int==v)):=by cases t<;>simp[T.occ,x9]
def yA(v:Int)(t:T):bU au 233 [aj v,t.e] (.bool (t.occ v)):=by
 suffices H:∀(k:Nat) (t:T),t.size<=k->bU au 233 [aj v,t.e] (.bool (t.occ v))from H _ t (dP _)
 intro k;induction k with
 |zero=>intro t f;have:=T.size_pos t;omega
 |succ k d=>
  intro t f;have l:t.args.length<=2:=by cases t<;>simp
  refine bH a1 Tryz.func233 aoZ fun m=>?_;unfold TB;simp;refine eZ [0,3,8,9] (fun i (_:Unit)=>[(10,aj i)]) t.args.length (fun i _=>x9 v (t.args.drop i)=x9 v t.args) () ca Ψ (fun _ a _=>?_) (fun i _ hi a _=>?_)
  ·have c:x9 v t.args=false:=by rw[<-a];simp[x9]
   rw[Ze,c];simp;((repeat' first|refine al ?_|simp|((first|apply ct|apply cz|apply cy)<;>intro h<;>try simp at h))<;>(try exact c3));all_goals simp[bZ,ba,bf,a6]
   all_goals simp_all
  ·obtain⟨x,g,e⟩:=eW hi;have j:t.args.drop i=x::t.args.drop (i+1):=by rw[lG hi,e]
   have b:x.size<=k:=by have hm:=fu g;have:=T.size_pos x;cases t<;>simp at hm;rcases hm with rfl|rfl<;>simp[T.size]at f<;>omega
   simp only[j,x9,List.any_cons]at a;simp[hi,e];cases ar:x.occ v with
   |true=>
    rw[ar]at a;simp at a;have c:t.occ v=true:=by rw[Ze];simp[x9];left;simpa using a
    (repeat' first|refine al ?_|refine aO (d x b) ?_|refine aP (d x b) ?_|simp[ar]);simp[bZ,ba,bf,a6];simp[c]
   |false=>rw[ar]at a;have n:=d x b;exact iU
def Kh(v:Int)(x t:T):bU au 234 [t.e,aj v,x.e] (t.ap (Go.Pv.one v x)).e:=by
 induction t with
 |pair a b d c=>
  refine bH a1 Tryz.func234 Pa fun e=>?_;unfold GM;simp;(repeat' first|refine al ?_|refine aO d ?_|refine aP d ?_|refine aO c ?_|refine aP c ?_|refine aO (Kg _ _) ?_|refine aP (Kg _ _) ?_|simp);all_goals simp[bZ,ba,bf,a6]
  all_goals simp[T.ap]
 |var n=>
  refine bH a1 Tryz.func234 Pa fun e=>?_;unfold GM;simp;((repeat' first|refine al ?_|simp|((first|apply ct|apply cz|apply cy)<;>intro h<;>try simp at h))<;>(try exact c3));all_goals simp[bZ,ba,bf,a6]
  all_goals simp_all[T.ap,Go.Pv.one]
 |_=>
  refine bH a1 Tryz.func234 Pa fun e=>?_;unfold GM;simp;(repeat' first|refine al ?_|simp);all_goals simp[bZ,ba,bf,a6]
  all_goals simp[T.ap]
def Kj(s:List Bd)(a:s.length<=1000000)(t:T):bU au 201 [bL (s.map Bd.e),t.e] (ie s t).e:=by
 cases t with
 |var n=>
  cases b:dH s n with
  |none=>refine bH a1 Tryz.func201 Pc fun c=>?_;unfold GO;simp;(repeat' first|refine al ?_|refine aO (w1 s n a) ?_|refine aP (w1 s n a) ?_|simp[b]);simp[bZ,ba,bf,a6];simp[ie,cQ,b]
  |some x=>refine bH a1 Tryz.func201 Pc fun c=>?_;unfold GO;simp;(repeat' first|refine al ?_|refine aO (w1 s n a) ?_|refine aP (w1 s n a) ?_|simp[b]);simp[bZ,ba,bf,a6];simp[ie,cQ,b]
 |_=>refine bH a1 Tryz.func201 Pc fun c=>?_;unfold GO;simp;(repeat' first|refine al ?_|simp);simp[bZ,ba,bf,a6];simp[ie]
def Xk(b:Bd):∀(s:List Bd) (k:Nat),(∀i c,i<k->s[i]? =some c->c.v<=b.v)->(∀c,s[k]? =some c->b.v<c.v)->k<=s.length->p2 b s=s.take k++b::s.drop k
 |[],k,_,_,ab=>by simp at ab;subst ab;rfl
 |c::s,0,_,U,_=>by have:=U c rfl;simp[p2,this]
 |c::s,k+1,J,U,ab=>by have:=J 0 c Ω rfl;simp only[p2,if_neg (by omega:¬b.v<c.v),List.take_succ_cons,List.drop_succ_cons,b5];rw[Xk b s k (fun i d hi a=>J (i+1) d Ω (by simpa using a)) (fun d a=>U d (by simpa using a)) (by simpa using ab)]
def asw(s:List Bd)(b:Bd)(v:s.length<=1000000)(t:jA s):bU au 235 [bL (s.map Bd.e),b.e] (bL ((p2 b s).map Bd.e)):=by
 refine bH a1 Tryz.func235 ao7 fun w=>?_;unfold TJ;simp;refine xi [0,3] (fun(k:Nat)=>[(5,aj k)]) (fun k=>k) (fun k=>k<=s.length/\∀c,s[k]? =some c->b.v<c.v) s.length ca ⟨Ω,fun c h=>by simp at h⟩ (fun k n _=>?_);obtain⟨ab,n⟩:=n;have o:(∀c,0<k->s[k-1]? =some c->c.v<=b.v)->p2 b s=s.take k++b::s.drop k:=fun h=>Xk b s k (fun i c hi ax=>by
  obtain⟨d,a⟩:∃d,s[k-1]? =some d:=⟨_,cl Ω⟩;have J:=h d Ω a;rcases Nat.lt_or_ge i (k-1)with U|U
  ·have p:=(fI.1 ax);have q:=(fI.1 a);have:=q6.1 t i (k-1) p.1 q.1 U;rw[p.2,q.2]at this;omega
  ·have:i=k-1:=Ω
   subst this;rw[a]at ax;cases ax;exact J) n ab
 rcases Nat.eq_zero_or_pos k with rfl|j
 ·have e:=o fun c h=>Ω
  rw[e];simp;(repeat' first|refine al ?_|simp);simp[bZ,ba,bf,a6];try simp[iu]
 ·obtain⟨d,a⟩:∃d,s[k-1]? =some d:=⟨_,cl Ω⟩;have l:((k:Int)-1).toNat=k-1:=Ω
  have m:∀h,(s[k-1]'h)=d:=fun h=>by rw[cl h]at a;exact e8 a
  have g:(0:Int)<k:=Ω
  by_cases f:b.v<d.v
  ·simp[j,g,l,m,f,a];(repeat' first|refine al ?_|simp[j,g,l,m,f,a]);refine bY.whl (k-1) Ω ⟨Ω,fun c ax=>by rw[a]at ax;cases ax;exact f⟩ ?_;have r:((k-1:Nat):Int)=(k:Int)-1:=Ω
   simp[r];exact ca
  ·have e:=o fun c _ ax=>by rw[a]at ax;cases ax;omega
   rw[e];simp[j,g,l,m,f,a];(repeat' first|refine al ?_|simp[j,g,l,m,f,a]);simp[bZ,ba,bf,a6];have u:mU s.length (s.map Bd.e)=s.map Bd.e:=iu Ψ;rw[u,<-List.map_take,<-List.map_drop,<-gV,<-List.map_append];exact abU _
def Qp(v:Int)(x:T)(b:Bd):Bd:=⟨b.v,b.t.ap (Go.Pv.one v x)⟩
def alR(s:List Bd)(v:Int)(x:T)(i:Nat)(out:List Bd):Prop:=out=(s.take i).map (Qp v x)/\∀b∈s.take i,(b.t.ap (Go.Pv.one v x)).size<=5000
def asA(s:List Bd)(v:Int)(t:T)(y:s.length<=1000000)(F:jA s):bU au 212 [bL (s.map Bd.e),aj v,t.e] (gB (o2 s v t)):=by
 obtain⟨x,p⟩:∃x,x=t.ap (cQ s):=⟨_,rfl⟩;have a:=QQ s y t;rw[<-p]at a;obtain⟨o,ar⟩:∃o,o=o2 s v t:=⟨_,rfl⟩;have l:x.size<=5000->x.occ v=false->s.length<400->(∀b∈s,(b.t.ap (Go.Pv.one v x)).size<=5000)->o=some (nN s v x):=fun H G E B=>by rw[ar,o2,<-p,if_pos ⟨H,G,E,B⟩]
 have f:¬(x.size<=5000/\x.occ v=false/\s.length<400/\∀b∈s,(b.t.ap (Go.Pv.one v x)).size<=5000)->o=none:=fun q=>by rw[ar,o2,<-p,if_neg q]
 rw[<-ar];clear ar;by_cases J:x.size<=5000;rotate_left
 ·rw[f fun h=>J h.1];refine bH a1 Tryz.func212 I4 fun r=>?_;unfold Dv;simp;(repeat' first|refine al ?_|refine aO a ?_|refine aP a ?_|refine aO (yA _ _) ?_|refine aP (yA _ _) ?_|simp[J]);simp[bZ,ba,bf,a6];simp[gB]
 cases U:x.occ v with
 |true=>rw[f fun h=>by rw[U]at h;cases h.2.1];refine bH a1 Tryz.func212 I4 fun r=>?_;unfold Dv;simp;(repeat' first|refine al ?_|refine aO a ?_|refine aP a ?_|refine aO (yA _ _) ?_|refine aP (yA _ _) ?_|simp[J,U]);simp[bZ,ba,bf,a6];simp[gB]
 |false=>
 by_cases z:s.length<400;rotate_left
 ·rw[f fun h=>z h.2.2.1];have j:(400:Int)<=s.length:=Ω
  refine bH a1 Tryz.func212 I4 fun r=>?_;unfold Dv;simp;(repeat' first|refine al ?_|refine aO a ?_|refine aP a ?_|refine aO (yA _ _) ?_|refine aP (yA _ _) ?_|simp[J,U,j]);simp[bZ,ba,bf,a6];simp[gB]
 have j:¬(400:Int)<=s.length:=Ω
 refine bH a1 Tryz.func212 I4 fun r=>?_;unfold Dv;simp;(repeat' first|refine al ?_|refine aO a ?_|refine aP a ?_|refine aO (yA _ _) ?_|refine aP (yA _ _) ?_|simp[J,U,j]);refine fT (α:=List Bd) (fun i out=>⟨[(1,aj v),(8,.ptr (.loc 1) 0),(33,bL (s.map Bd.e)),(34,aj s.length),(10,.slice 5 (.own (.loc 2)) (out.map Bd.e)),(35,aj i)],[(.loc 1,[aj x.kind,aj x.int,.str x.name,dx (x.args.map T.e)])],[(.loc 2,⟨out.length,113,5,none⟩)],3,[]⟩) s.length (alR s v x) [] ca ⟨Ψ,Ψ⟩ (fun out n _=>?_) (fun i out hi n _=>?_)
 ·obtain⟨d,e⟩:=n;rw[iu (dP _)]at d e;have m:jA out:=by rw[d,jA,List.pairwise_map];exact F
  have w:out.length<=1000000:=by rw[d];simpa using y
  rw[l J U z e];have key:=asw out ⟨v,x⟩ w m;simp;(repeat' first|refine al ?_|refine aO key ?_|refine aP key ?_|simp);simp[bZ,ba,bf,a6];simp[gB,nN,d];rfl
 ·obtain⟨d,e⟩:=n;obtain⟨b,A,k⟩:=eW hi;have u:s.take (i+1)=s.take i++[b]:=by rw[List.take_succ,A];rfl
  have w:out.length<=1000000:=by rw[d];simp;omega
  simp[hi,k];by_cases g:(b.t.ap (Go.Pv.one v x)).size<=5000
  ·(repeat' first|refine al ?_|refine aO (Kh _ _ _) ?_|refine aP (Kh _ _ _) ?_|refine aO (C0 _) ?_|refine aP (C0 _) ?_|simp[k,hi,g]);all_goals try refine⟨by unfold lim;omega,?_⟩
   (repeat' first|refine al ?_|simp);refine bY.rng (out++[Qp v x b]) hi ⟨by rw[u,d,List.map_append];rfl,fun c ax=>?_⟩ ?_
   ·rw[u]at ax;rcases kc.1 ax with ax|ax
    ·exact e c ax
    ·simp at ax;subst ax;exact g
   ·simp[Qp];exact⟨by simp[fresh,aH,az,cc,aM,ae,jZ],eo (by simp[fresh,aH,az,cc,aM,ae,jZ]),ep (by simp[fresh,aH,az,dV,aM,ae,jZ]),Ψ⟩
  ·rw[f fun h=>g (h.2.2.2 b (fu A))];(repeat' first|refine al ?_|refine aO (Kh _ _ _) ?_|refine aP (Kh _ _ _) ?_|refine aO (C0 _) ?_|refine aP (C0 _) ?_|simp[k,hi,g]);simp[bZ,ba,bf,a6];simp[gB]
def arQ{s:List Bd}(e:gD s)(f:iv s){n:Nat}{a b:T}{o:bd (List Bd)}(h:lD n s a b=some o):jF s [(a,b)] o:=by obtain⟨n',o',J,U⟩:=Kc e f a b;have d:=FZ (Nat.le_max_left n n') h;have c:=FZ (Nat.le_max_right n n') J;rw[d]at c;cases c;exact U
def CX(n:Nat):List (T×T)->List Bd->bd (bd (List Bd))
 |[],s=>some (some s)
 |e::r,s=>match lD n s e.1 e.2 with
  |none=>none
  |some none=>some none
  |some (some s1)=>CX n r s1
def zO(x y:T):Bool:=x.kind==y.kind&&x.int==y.int&&x.name==y.name
def arO(n:Nat)(s:List Bd){x y:T}(f:x.kind≠1)(g:y.kind≠1):kL (lD n) s x y=if zO x y then CX n (x.args.zip y.args) s else some none:=by
 cases x<;>cases y<;>simp[kL,zO,CX]at f g⊢
 ·rename_i a b;split<;>simp_all
 ·rename_i a b;split<;>simp_all
 ·rename_i d a2 c e;cases lD n s d c with
  |none=>rfl
  |some o=>cases o with
   |none=>rfl
   |some s1=>
    simp only
    cases lD n s1 a2 e with
    |none=>rfl
    |some o=>cases o<;>rfl
def ami{x y:T}(h:zO x y=true):x.args.length=y.args.length:=by cases x<;>cases y<;>simp[zO]at h⊢
@[simp]def auF(o:bd (List Bd)):Ba 0 (gB o)=some (True,bL ((o.getD []).map Bd.e)):=rfl
@[simp]def auG(o:bd (List Bd)):Ba 1 (gB o)=some (True,.bool o.isSome):=rfl
def asD(n:Nat):∀(s:List Bd) (a b:T) (o:bd (List Bd)),gD s->iv s->lD n s a b=some o->bU au 180 [bL (s.map Bd.e),a.e,b.e] (gB o):=by
 induction n with
 |zero=>intro s a b o _ _ h;simp[lD]at h
 |succ n W=>
  intro s a b o R S he;have K:s.length<=1000000:=by have:=S.1;omega
  have c:=Kj s K a;have d:=Kj s K b;simp only[lD]at he;generalize ie s a=x at he c;generalize ie s b=y at he d;have E:=fun v t=>asA s v t K R.asc;have f:∀z:T,¬z.kind=1->(z.kind==1)=false:=fun z h=>by simp[h]
  by_cases l:x.kind=1
  ·obtain⟨i,rfl⟩:∃i,x= .var i:=by cases x<;>simp at l;exact⟨_,rfl⟩
   by_cases g:y.kind=1
   ·obtain⟨j,rfl⟩:∃j,y= .var j:=by cases y<;>simp at g;exact⟨_,rfl⟩
    simp only[kL,dU]at he;subst he;rcases Int.lt_trichotomy i j with h|h|h
    ·rw[if_pos h];have key:=E j (.var i);refine bH a1 Tryz.func180 wI fun m=>?_;unfold uz;simp;(repeat' first|refine al ?_|refine aO c ?_|refine aP c ?_|refine aO d ?_|refine aP d ?_|refine aO key ?_|refine aP key ?_|simp[h]);simp[bZ,ba,bf,a6];simp[gB]
    ·subst h;rw[if_neg Ω,if_pos rfl];have J:¬i<i:=Ω
     refine bH a1 Tryz.func180 wI fun m=>?_;unfold uz;simp;(repeat' first|refine al ?_|refine aO c ?_|refine aP c ?_|refine aO d ?_|refine aP d ?_|simp[J]);simp[bZ,ba,bf,a6];simp[gB]
    ·rw[if_neg Ω,if_neg Ω];have key:=E i (.var j);have J:¬i<j:=Ω
     have U:¬i=j:=Ω
     refine bH a1 Tryz.func180 wI fun m=>?_;unfold uz;simp;((repeat' first|refine al ?_|refine aO c ?_|refine aP c ?_|refine aO d ?_|refine aP d ?_|refine aO key ?_|refine aP key ?_|simp[J,U]|((first|apply ct|apply cz|apply cy)<;>intro h<;>try simp at h))<;>(try exact c3));simp[bZ,ba,bf,a6];simp[gB]
   ·have G:o2 s i y=o:=by cases y<;>first|(simp at g;done)|exact e8 he
    subst G;have key:=E i y;refine bH a1 Tryz.func180 wI fun m=>?_;unfold uz;simp;(repeat' first|refine al ?_|refine aO c ?_|refine aP c ?_|refine aO d ?_|refine aP d ?_|refine aO key ?_|refine aP key ?_|simp[f y g]);simp[bZ,ba,bf,a6];simp[gB]
  ·by_cases g:y.kind=1
   ·obtain⟨j,rfl⟩:∃j,y= .var j:=by cases y<;>simp at g;exact⟨_,rfl⟩
    have G:o2 s j x=o:=by cases x<;>first|(simp at l;done)|exact e8 he
    subst G;have key:=E j x;refine bH a1 Tryz.func180 wI fun m=>?_;unfold uz;simp;(repeat' first|refine al ?_|refine aO c ?_|refine aP c ?_|refine aO d ?_|refine aP d ?_|refine aO key ?_|refine aP key ?_|simp[f x l]);simp[bZ,ba,bf,a6];simp[gB]
   ·rw[arO n s l g]at he;cases hle:zO x y with
    |false=>
     rw[hle]at he;simp at he;subst he;have N:(x.kind !=y.kind)=true\/((x.kind !=y.kind)=false/\((x.int !=y.int)=true\/((x.int !=y.int)=false/\(x.name !=y.name)=true))):=by simp only[zO]at hle;simp only[bne];cases X:(x.kind==y.kind)<;>cases Z:(x.int==y.int)<;>cases V:(x.name==y.name)<;>simp_all
     rcases N with p|⟨p,q|⟨q,B⟩⟩
     ·refine bH a1 Tryz.func180 wI fun m=>?_;unfold uz;simp;(repeat' first|refine al ?_|refine aO c ?_|refine aP c ?_|refine aO d ?_|refine aP d ?_|simp[f x l,f y g,p]);simp[bZ,ba,bf,a6];simp[gB]
     ·refine bH a1 Tryz.func180 wI fun m=>?_;unfold uz;simp;(repeat' first|refine al ?_|refine aO c ?_|refine aP c ?_|refine aO d ?_|refine aP d ?_|simp[f x l,f y g,p,q]);simp[bZ,ba,bf,a6];simp[gB]
     ·refine bH a1 Tryz.func180 wI fun m=>?_;unfold uz;simp;have F:¬x.name=y.name:=by simpa using B
      have L:decide (x.name=y.name)=false:=by simp[F]
      ((repeat' first|refine al ?_|refine aO c ?_|refine aP c ?_|refine aO d ?_|refine aP d ?_|simp[f x l,f y g,p,q,B,F,L]|((first|apply ct|apply cz|apply cy)<;>intro h<;>try simp at h))<;>(try exact c3));simp[bZ,ba,bf,a6];simp[gB]
    |true=>
     rw[hle,if_pos rfl]at he;have N:(x.kind !=y.kind)=false/\(x.int !=y.int)=false/\(x.name !=y.name)=false:=by simp only[zO]at hle;simp only[bne];cases X:(x.kind==y.kind)<;>cases Z:(x.int==y.int)<;>cases V:(x.name==y.name)<;>simp_all
     obtain⟨p,q,B⟩:=N;have hlen:=ami hle;have F:x.name=y.name:=by simpa using B
     have tf:x.args.length<=2:=by cases x<;>simp
     refine bH a1 Tryz.func180 wI fun m=>?_;unfold uz;simp;(repeat' first|refine al ?_|refine aO c ?_|refine aP c ?_|refine aO d ?_|refine aP d ?_|simp[f x l,f y g,p,q,F]);refine fT (α:=List Bd) (fun i k=>⟨[(5,.ptr (.loc 1) 0),(96,dx (x.args.map T.e)),(97,aj x.args.length),(0,bL (k.map Bd.e)),(98,aj i)],[(.loc 1,[aj y.kind,aj y.int,.str y.name,dx (y.args.map T.e)])],[],2,[]⟩) x.args.length (fun i k=>(gD k/\iv k)/\CX n ((x.args.zip y.args).drop i) k=some o) s ca ⟨⟨R,S⟩,by simpa using he⟩ (fun k e _=>?_) (fun i k hi e _=>?_)
     ·obtain⟨_,e⟩:=e;rw[List.drop_eq_nil_of_le (by simp[hlen])]at e;simp[CX]at e;subst e;simp;(repeat' first|refine al ?_|simp);simp[bZ,ba,bf,a6];simp[gB]
     ·obtain⟨⟨g1,g2⟩,e⟩:=e;obtain⟨A,Q⟩:∃a,x.args[i]? =some a:=⟨_,cl hi⟩;obtain⟨w,P⟩:∃b,y.args[i]? =some b:=⟨_,cl Ω⟩;have r:∀h,(x.args[i]'h)=A:=fun h=>by rw[cl hi]at Q;exact e8 Q
      have u:∀h,(y.args[i]'h)=w:=fun h=>by rw[cl h]at P;exact e8 P
      have H:i<y.args.length:=Ω
      have Y:(x.args.zip y.args).drop i=(A,w)::(x.args.zip y.args).drop (i+1):=by rw[lG d6];simp[r,u]
      rw[Y]at e;simp only[CX]at e;simp[hi,r,u,H];cases hu:lD n k A w with
      |none=>rw[hu]at e;cases e
      |some O=>
       have key:=W k A w O g1 g2 hu;rw[hu]at e;cases O with
       |none=>simp at e;subst e;(repeat' first|refine al ?_|refine aO key ?_|refine aP key ?_|simp[r,u,hi,H]);simp[bZ,ba,bf,a6];simp[gB]
       |some s1=>have M:=arQ g1 g2 hu;(repeat' first|refine al ?_|refine aO key ?_|refine aP key ?_|simp[r,u,hi,H]);refine bY.rng s1 hi ⟨M.1,e⟩ ?_;exact ca
def acR(s:List Bd)(a b:T)(c:gD s)(d:iv s):bU au 180 [bL (s.map Bd.e),a.e,b.e] (gB (mgu s [(a,b)])):=by obtain⟨n,o,J,U⟩:=Kc c d a b;rw[tP U];exact asD n s a b o c d J
def alQ(s:List Bd)(E:List (T×T))(i:Nat)(a:List Bd):Prop:=(gD a/\iv a)/\mgu a (E.drop i)=mgu s E
def asz(s:List Bd)(l r:List T)(n:l.length=r.length)(o:gD s)(q:iv s)(t:l.length<=1000000):bU au 202 [bL (s.map Bd.e),dx (l.map T.e),dx (r.map T.e)] (gB (mgu s (l.zip r))):=by
 refine bH a1 Tryz.func202 ao9 fun u=>?_;unfold TL;simp;refine fT (α:=List Bd) (fun i d=>⟨[(2,dx (r.map T.e)),(12,dx (l.map T.e)),(13,aj l.length),(0,bL (d.map Bd.e)),(14,aj i)],[],[],0,[]⟩) l.length (alQ s (l.zip r)) s ca ⟨⟨o,q⟩,Ψ⟩ (fun d c _=>?_) (fun i d hi c _=>?_)
 ·obtain⟨⟨g1,g2⟩,c⟩:=c;rw[List.drop_eq_nil_of_le (by simp[n]),OD g1 g2]at c;rw[<-c];simp;(repeat' first|refine al ?_|simp);simp[bZ,ba,bf,a6];simp[gB]
 ·obtain⟨⟨g1,g2⟩,c⟩:=c;obtain⟨a,k⟩:∃a,l[i]? =some a:=⟨_,cl hi⟩;obtain⟨b,j⟩:∃b,r[i]? =some b:=⟨_,cl Ω⟩;have e:∀h,(l[i]'h)=a:=fun h=>by rw[cl hi]at k;exact e8 k
  have f:∀h,(r[i]'h)=b:=fun h=>by rw[cl h]at j;exact e8 j
  have g:i<r.length:=Ω
  have p:(l.zip r).drop i=(a,b)::(l.zip r).drop (i+1):=by rw[lG d6];simp[e,f]
  rw[p,OC g1 g2]at c;simp[hi,e,f,g];have key:=acR d a b g1 g2;cases hu:mgu d [(a,b)]with
  |none=>rw[hu]at c key;simp only at c;rw[<-c];(repeat' first|refine al ?_|refine aO key ?_|refine aP key ?_|simp[e,f,hi,g]);simp[bZ,ba,bf,a6];simp[gB]
  |some s1=>have m:=Cb g1 g2 hu;rw[hu]at c key;(repeat' first|refine al ?_|refine aO key ?_|refine aP key ?_|simp[e,f,hi,g]);refine bY.rng s1 hi ⟨m,c⟩ ?_;exact ca
def k3(n:Int):bU au 114 [aj n] (T.var n).e:=by refine bH a1 Tryz.func114 ao3 fun a=>?_;unfold TF;exact cp
def alU(t:List Bd)(i:Nat)(p:List T×List T):Prop:=p.1=(t.take i).map (fun b=>T.var b.v)/\p.2=(t.take i).map (·.t)
def asB(s t:List Bd)(k:gD s)(n:iv s)(m:t.length<=1000000):bU au 152 [bL (s.map Bd.e),bL (t.map Bd.e)] (gB (mgu s (iH t))):=by
 have g:(t.map fun b=>T.var b.v).zip (t.map (·.t))=iH t:=by rw[iH,List.zip_map']
 refine bH a1 Tryz.func152 apa fun o=>?_;unfold TM;simp;refine fT (α:=List T×List T) (fun i p=>⟨[(0,bL (s.map Bd.e)),(12,bL (t.map Bd.e)),(13,aj t.length),(6,.slice 4 (.own (.loc 0)) (p.1.map T.e)),(7,.slice 4 (.own (.loc 1)) (p.2.map T.e)),(14,aj i)],[],[(.loc 0,⟨p.1.length,30,4,none⟩),(.loc 1,⟨p.2.length,30,4,none⟩)],2,[]⟩) t.length (alU t) ([],[]) ca ⟨Ψ,Ψ⟩ (fun p d _=>?_) (fun i p hi d _=>?_)
 ·obtain⟨A,B⟩:=p;obtain⟨a,c⟩:=d;simp only at a c⊢;rw[iu (dP _)]at a c;have key:=asz s A B (by rw[a,c];simp) k n (by rw[a];simpa using m);rw[a,c,g,<-a,<-c]at key;simp;(repeat' first|refine al ?_|refine aO key ?_|refine aP key ?_|simp);simp[bZ,ba,bf,a6];simp[gB]
 ·obtain⟨A,B⟩:=p;obtain⟨a,c⟩:=d;simp only at a c⊢;obtain⟨b,l,f⟩:=eW hi;have e:t.take (i+1)=t.take i++[b]:=by rw[List.take_succ,l];rfl
  have j:A.length<=1000000:=by rw[a];simp;omega
  have h:B.length<=1000000:=by rw[c];simp;omega
  simp[hi,f];(repeat' first|refine al ?_|refine aO (k3 _) ?_|refine aP (k3 _) ?_|simp[f,hi]);all_goals try refine⟨by unfold lim;omega,?_⟩
  (repeat' first|refine al ?_|simp);all_goals try refine⟨by unfold lim;omega,?_⟩
  (repeat' first|refine al ?_|simp);refine bY.rng (A++[.var b.v],B++[b.t]) hi ⟨by rw[e,a];simp,by rw[e,c];simp⟩ ?_;simp;exact⟨by simp[fresh,aH,az,cc,aM,ae,jZ],eo (by simp[fresh,aH,az,cc,aM,ae,jZ]),ep (by simp[fresh,aH,az,dV,aM,ae,jZ]),Ψ⟩
def dT(n lo hi:Int):bU au 75 [aj n,aj lo,aj hi] (.bool (decide (lo<=n/\n<=hi))):=by
 refine bH a1 Tryz.func75 aoV fun a=>?_;unfold Tx;simp;((repeat' first|refine al ?_|simp|((first|apply ct|apply cz|apply cy)<;>intro h<;>try simp at h))<;>(try exact c3));all_goals simp[bZ,ba,bf,a6]
 all_goals first|omega|(simp;done)|(simp;omega)
def shp:Tm->Bool
 | .mk k n s [a,b]=>k==4&&n==0&&s==[]&&shp a&&shp b
 | .mk k n s []=>mj k n s
 |_=>false
def JV:∀x:T,shp x.tm=x.ok
 | .nil=>by simp[T.tm,shp,mj,T.ok]
 | .var _=>by simp[T.tm,shp,mj,T.ok]
 | .sym _=>by simp[T.tm,shp,mj,T.ok]
 | .num _=>by simp[T.tm,shp,mj,T.ok]
 | .pair a b=>by simp[T.tm,shp,T.ok,JV a,JV b]
def aq1:∀(m:Nat) (t:Tm),t.sz<=m->shp t=true->∃x:T,x.tm=t:=by
 intro m;induction m with
 |zero=>intro t c;cases t;simp[Tm.sz]at c
 |succ m d=>
  rintro⟨k,n,s,args⟩ c h;match args with
  |[a,b]=>
   simp[Tm.sz,Tm.szL]at c;simp only[shp,cP,ey]at h;obtain⟨⟨⟨⟨rfl,rfl⟩,e⟩,J⟩,U⟩:=h;obtain⟨x,rfl⟩:=d a Ω J;obtain⟨y,rfl⟩:=d b Ω U;have:s=[]:=by simpa using e
   subst this;exact⟨.pair x y,rfl⟩
  |[]=>
   simp only[shp,mj]at h;split at h
   ·subst_vars;simp at h;exact⟨.nil,by simp[T.tm,h]⟩
   split at h
   ·subst_vars;simp at h;exact⟨.var n,by simp[T.tm,h]⟩
   split at h
   ·subst_vars;simp at h;exact⟨.sym s,by simp[T.tm,h]⟩
   split at h
   ·subst_vars;simp at h;exact⟨.num n,by simp[T.tm,h]⟩
   ·simp at h
  |[_]=>simp[shp]at h
  |_::_::_::_=>simp[shp]at h
def ait(t:Tm):t.fits=(decide (my t 5000<=5000)&&shp t):=by
 by_cases h:shp t=true
 ·obtain⟨x,rfl⟩:=aq1 _ t (dP _) h;have:=(GS x 5000 Ω).1;rw[Tm.fits_T,T.fit,h];rw[JV]at h;simp[h,this];omega
 ·have b:t.fits=false:=by
   cases c:t.fits with
   |false=>rfl
   |true=>obtain⟨x,rfl,a⟩:=Tm.fits_ex c;rw[JV]at h;simp[T.fit]at a;exact absurd a.1 h
  simp at h;rw[b,h];simp
def NQ(s:List cU)(i:Nat):Prop:=i<=s.length/\∀k,k<i->nX (s.getD k 0)=true/\(k=0->low (s.getD k 0)=true)
def alN{s:List cU}(h:NQ s s.length):kq s=decide (1<=s.length/\s.length<=12):=by
 unfold kq;by_cases c:1<=s.length
 ·have J:=(h.2 0 Ω).2 rfl;have U:(s.drop 1).all nX=true:=by rw[j4];intro b a;obtain⟨i,hi,e⟩:=pB a;simp at hi e;have:=(h.2 (i+1) Ω).1;rw[List.getD_eq_getElem?_getD,cl Ω]at this;simp only[mr]at this;rw[<-e];exact this
  rw[J,U];simp
 ·have:decide (1<=s.length/\s.length<=12)=false:=by simp;omega
  rw[this];simp
def alM{s:List cU}{i:Nat}(hi:i<s.length)(h:nX (s.getD i 0)=false\/(i=0/\low (s.getD i 0)=false)):kq s=false:=by
 cases e:kq s with
 |false=>rfl
 |true=>
  exfalso;simp only[kq,cP,j4]at e;obtain⟨⟨_,a⟩,c⟩:=e;rcases h with h|⟨rfl,h⟩
  ·by_cases b:i=0
   ·subst b;rw[nX,a]at h;simp at h
   ·have:=c (s.getD i 0) (by rw[List.getD_eq_getElem?_getD,cl hi];simp only[mr];refine List.mem_iff_getElem.2 ⟨i-1,by simp;omega,?_⟩;simp[show i-1+1=i from by omega])
    rw[this]at h;cases h
  ·rw[a]at h;cases h
def hZ(s:List cU):bU au 119 [.str s] (.bool (kq s)):=by
 generalize bs:kq s=R;refine bH a1 Tryz.func119 aoQ fun q=>?_;unfold Ts;have r:s.length<=68719476736:=by simp[eM,eV,eN,lim]at q;omega
 simp;refine xi [0] (fun(i:Nat)=>[(3,aj i)]) (fun i=>s.length-i) (NQ s) 0 ca ⟨Ω,fun k ab=>Ω⟩ (fun i o _=>?_);have t:=o.1;by_cases hi:i<s.length
 ·have l:=alM hi;rw[bs]at l;obtain⟨c,ax,e⟩:=eW hi;have p:s.getD i 0=c:=by simp[List.getD_eq_getElem?_getD,ax]
  rw[p]at l;have dy:nX c=true->(i=0->low c=true)->NQ s (i+1):=fun J U=>⟨Ω,fun k ab=>by
   rcases(by omega:k<i\/k=i)with h|rfl
   ·exact o.2 k h
   ·rw[p];exact⟨J,U⟩⟩
  have hw:vu.wrap (c.toNat:Int)=c.toNat:=pw _ (by have:=c.toNat_lt;omega);simp[hi,e,ax];by_cases g:(97:Int)<=c.toNat
  ·by_cases n:(c.toNat:Int)<=122
   ·have j:low c=true:=by simp[low];omega
    (repeat' first|refine al ?_|refine aO (dT _ _ _) ?_|refine aP (dT _ _ _) ?_|simp[hi,e,ax,g,n]);exact bY.whl (i+1) Ω (dy (by simp[nX,j]) (fun _=>j)) ca
   ·have j:low c=false:=by simp[low];omega
    by_cases d:i=0
    ·rw[l (.inr ⟨d,j⟩)];have a:((i:Int)==0)=true:=by simp[d]
     (repeat' first|refine al ?_|refine aO (dT _ _ _) ?_|refine aP (dT _ _ _) ?_|simp[hi,e,ax,g,n,a,hw]);simp[bZ,ba,bf,a6]
    ·have a:((i:Int)==0)=false:=by simp[d]
     by_cases b:(c.toNat:Int)=45
     ·have f:((c.toNat:Int) !=45)=false:=by simp[b]
      (repeat' first|refine al ?_|refine aO (dT _ _ _) ?_|refine aP (dT _ _ _) ?_|simp[hi,e,ax,g,n,a,hw,b,f]);all_goals exact bY.whl (i+1) Ω (dy (by simp[nX];omega) (fun h=>absurd h d)) ca
     ·have f:((c.toNat:Int) !=45)=true:=by simp[b]
      by_cases m:(48:Int)<=c.toNat/\(c.toNat:Int)<=57
      ·(repeat' first|refine al ?_|refine aO (dT _ _ _) ?_|refine aP (dT _ _ _) ?_|simp[hi,e,ax,g,n,a,hw,b,f,m]);all_goals exact bY.whl (i+1) Ω (dy (by simp[nX];omega) (fun h=>absurd h d)) ca
      ·rw[l (.inl (by simp[nX,j];omega))];(repeat' first|refine al ?_|refine aO (dT _ _ _) ?_|refine aP (dT _ _ _) ?_|simp[hi,e,ax,g,n,a,hw,b,f,m]);simp[bZ,ba,bf,a6]
  ·have j:low c=false:=by simp[low];omega
   by_cases d:i=0
   ·rw[l (.inr ⟨d,j⟩)];have a:((i:Int)==0)=true:=by simp[d]
    (repeat' first|refine al ?_|refine aO (dT _ _ _) ?_|refine aP (dT _ _ _) ?_|simp[hi,e,ax,g,a,hw]);simp[bZ,ba,bf,a6]
   ·have a:((i:Int)==0)=false:=by simp[d]
    by_cases b:(c.toNat:Int)=45
    ·have f:((c.toNat:Int) !=45)=false:=by simp[b]
     (repeat' first|refine al ?_|refine aO (dT _ _ _) ?_|refine aP (dT _ _ _) ?_|simp[hi,e,ax,g,a,hw,b,f]);all_goals exact bY.whl (i+1) Ω (dy (by simp[nX];omega) (fun h=>absurd h d)) ca
    ·have f:((c.toNat:Int) !=45)=true:=by simp[b]
     by_cases m:(48:Int)<=c.toNat/\(c.toNat:Int)<=57
     ·(repeat' first|refine al ?_|refine aO (dT _ _ _) ?_|refine aP (dT _ _ _) ?_|simp[hi,e,ax,g,a,hw,b,f,m]);all_goals exact bY.whl (i+1) Ω (dy (by simp[nX];omega) (fun h=>absurd h d)) ca
     ·rw[l (.inl (by simp[nX,j];omega))];(repeat' first|refine al ?_|refine aO (dT _ _ _) ?_|refine aP (dT _ _ _) ?_|simp[hi,e,ax,g,a,hw,b,f,m]);simp[bZ,ba,bf,a6]
 ·have:i=s.length:=Ω
  subst this;rw[alN o]at bs;simp[hi];(repeat' first|refine al ?_|refine aO (dT _ _ _) ?_|refine aP (dT _ _ _) ?_|simp[hi]);simp[bZ,ba,bf,a6];rw[<-bs,q3];simp;omega
def wV:List Tm->Bool
 |[a,b]=>shp a&&shp b
 |_=>false
def aq0(k n:Int)(s:List cU)(args:List Tm):shp ⟨k,n,s,args⟩=if k≠1/\k≠3/\n≠0 then false else if k≠2/\s≠[]then false else if k≠4/\args≠[]then false else if k=0 then true else if k=1 then decide (0<=n/\n<=100000)else if k=2 then kq s else if k=3 then decide (-1000000000<=n/\n<=1000000000)else if k=4 then wV args else false:=by
 by_cases d:k=0
 ·subst d;match args with
  |[]=>by_cases h:n=0<;>by_cases c:s=[]<;>simp[shp,mj,h,c]
  |[a]=>simp[shp]
  |[a,b]=>simp[shp]
  |_::_::_::_=>simp[shp]
 by_cases i:k=1
 ·subst i;match args with
  |[]=>by_cases c:s=[]<;>simp[shp,mj,c]
  |[a]=>simp[shp]
  |[a,b]=>simp[shp]
  |_::_::_::_=>simp[shp]
 by_cases g:k=2
 ·subst g;match args with
  |[]=>by_cases h:n=0<;>simp[shp,mj,h]
  |[a]=>simp[shp]
  |[a,b]=>simp[shp]
  |_::_::_::_=>simp[shp]
 by_cases f:k=3
 ·subst f;match args with
  |[]=>by_cases c:s=[]<;>simp[shp,mj,c]
  |[a]=>simp[shp]
  |[a,b]=>simp[shp]
  |_::_::_::_=>simp[shp]
 by_cases e:k=4
 ·subst e;match args with
  |[]=>simp[shp,mj,wV]
  |[a]=>simp[shp,wV]
  |[a,b]=>by_cases h:n=0<;>by_cases c:s=[]<;>simp[shp,wV,h,c]
  |_::_::_::_=>simp[shp,wV]
 ·match args with
  |[]=>simp[shp,mj,d,i,g,f,e]
  |[a]=>simp[shp,d,i,g,f,e]
  |[a,b]=>simp[shp,d,i,g,f,e]
  |_::_::_::_=>simp[shp,d,i,g,f,e]
set_option maxRecDepth 8000 in
def asu(m:Nat):∀(t:Tm),t.sz<=m->bU au 124 [enc t] (.bool (shp t)):=by
 induction m with
 |zero=>intro t A;cases t;simp[Tm.sz]at A
 |succ m F=>
 rintro⟨k,n,s,args⟩ A;generalize bs:shp ⟨k,n,s,args⟩=R;have c:=aq0 k n s args;rw[bs]at c;by_cases w:k≠1/\k≠3/\n≠0
 ·rw[if_pos w]at c;obtain⟨f,e,n0⟩:=w;have p:(k !=1)=true:=by simp[f]
  have o:(k !=3)=true:=by simp[e]
  have E:(n !=0)=true:=by simp[n0]
  subst c;refine bH a1 Tryz.func124 n9 fun d=>?_;unfold ng;simp[Tm.kind,Tm.num,Tm.name,Tm.args];(repeat' first|refine al ?_|refine aO (dT _ _ _) ?_|refine aP (dT _ _ _) ?_|refine aO (hZ _) ?_|refine aP (hZ _) ?_|simp[p,o,E]);all_goals simp[bZ,ba,bf,a6]
 rw[if_neg w]at c;have v:(if k !=1 then k !=3 else false)=true->(n !=0)=false:=by intro h;simp at h⊢;exact Classical.byContradiction fun O=>w ⟨h.1,h.2,O⟩
 by_cases i:k≠2/\s≠[]
 ·rw[if_pos i]at c;have y:(k !=2)=true:=by simp[i.1]
  have B:s.isEmpty=false:=by simp[i.2]
  by_cases f:k=1
  ·subst f;subst c;refine bH a1 Tryz.func124 n9 fun d=>?_;unfold ng;simp[Tm.kind,Tm.num,Tm.name,Tm.args];(repeat' first|refine al ?_|refine aO (dT _ _ _) ?_|refine aP (dT _ _ _) ?_|refine aO (hZ _) ?_|refine aP (hZ _) ?_|simp[B]);all_goals simp[bZ,ba,bf,a6]
  by_cases e:k=3
  ·subst e;subst c;refine bH a1 Tryz.func124 n9 fun d=>?_;unfold ng;simp[Tm.kind,Tm.num,Tm.name,Tm.args];(repeat' first|refine al ?_|refine aO (dT _ _ _) ?_|refine aP (dT _ _ _) ?_|refine aO (hZ _) ?_|refine aP (hZ _) ?_|simp[B]);all_goals simp[bZ,ba,bf,a6]
  have p:(k !=1)=true:=by simp[f]
  have o:(k !=3)=true:=by simp[e]
  have E:(n !=0)=false:=v (by simp[f,e]);subst c;refine bH a1 Tryz.func124 n9 fun d=>?_;unfold ng;simp[Tm.kind,Tm.num,Tm.name,Tm.args];(repeat' first|refine al ?_|refine aO (dT _ _ _) ?_|refine aP (dT _ _ _) ?_|refine aO (hZ _) ?_|refine aP (hZ _) ?_|simp[p,o,E,y,B]);all_goals simp[bZ,ba,bf,a6]
 rw[if_neg i]at c;by_cases z:k=0
 ·subst z;have n0:n=0:=by simpa using v (by decide)
  have s0:s=[]:=Classical.byContradiction fun h=>i ⟨Ω,h⟩;subst n0 s0;by_cases a0:args=[];rotate_left
  ·rw[if_pos ⟨Ω,a0⟩]at c;have g:(0:Int)<args.length:=by have:=List.length_pos_iff.2 a0;omega
   subst c;refine bH a1 Tryz.func124 n9 fun d=>?_;unfold ng;simp[Tm.kind,Tm.num,Tm.name,Tm.args];((repeat' first|refine al ?_|refine aO (dT _ _ _) ?_|refine aP (dT _ _ _) ?_|refine aO (hZ _) ?_|refine aP (hZ _) ?_|simp[Int.natCast_nonneg,g]|((first|apply ct|apply cz|apply cy)<;>intro h<;>try simp at h))<;>(try exact c3));all_goals simp[bZ,ba,bf,a6]
  rw[if_neg (by simp[a0])]at c;subst a0;simp at c;subst c;refine bH a1 Tryz.func124 n9 fun d=>?_;unfold ng;simp[Tm.kind,Tm.num,Tm.name,Tm.args];(repeat' first|refine al ?_|refine aO (dT _ _ _) ?_|refine aP (dT _ _ _) ?_|refine aO (hZ _) ?_|refine aP (hZ _) ?_|simp[Int.natCast_nonneg]);all_goals simp[bZ,ba,bf,a6]
 by_cases f:k=1
 ·subst f;have s0:s=[]:=Classical.byContradiction fun h=>i ⟨Ω,h⟩;subst s0;by_cases a0:args=[];rotate_left
  ·rw[if_pos ⟨Ω,a0⟩]at c;have g:(0:Int)<args.length:=by have:=List.length_pos_iff.2 a0;omega
   subst c;refine bH a1 Tryz.func124 n9 fun d=>?_;unfold ng;simp[Tm.kind,Tm.num,Tm.name,Tm.args];((repeat' first|refine al ?_|refine aO (dT _ _ _) ?_|refine aP (dT _ _ _) ?_|refine aO (hZ _) ?_|refine aP (hZ _) ?_|simp[Int.natCast_nonneg,g]|((first|apply ct|apply cz|apply cy)<;>intro h<;>try simp at h))<;>(try exact c3));all_goals simp[bZ,ba,bf,a6]
  rw[if_neg (by simp[a0])]at c;subst a0;simp at c;subst c;refine bH a1 Tryz.func124 n9 fun d=>?_;unfold ng;simp[Tm.kind,Tm.num,Tm.name,Tm.args];(repeat' first|refine al ?_|refine aO (dT _ _ _) ?_|refine aP (dT _ _ _) ?_|refine aO (hZ _) ?_|refine aP (hZ _) ?_|simp[Int.natCast_nonneg]);all_goals simp[bZ,ba,bf,a6]
 by_cases u:k=2
 ·subst u;have n0:n=0:=by simpa using v (by decide)
  subst n0;by_cases a0:args=[];rotate_left
  ·rw[if_pos ⟨Ω,a0⟩]at c;have g:(0:Int)<args.length:=by have:=List.length_pos_iff.2 a0;omega
   subst c;refine bH a1 Tryz.func124 n9 fun d=>?_;unfold ng;simp[Tm.kind,Tm.num,Tm.name,Tm.args];((repeat' first|refine al ?_|refine aO (dT _ _ _) ?_|refine aP (dT _ _ _) ?_|refine aO (hZ _) ?_|refine aP (hZ _) ?_|simp[Int.natCast_nonneg,g]|((first|apply ct|apply cz|apply cy)<;>intro h<;>try simp at h))<;>(try exact c3));all_goals simp[bZ,ba,bf,a6]
  rw[if_neg (by simp[a0])]at c;subst a0;simp at c;subst c;refine bH a1 Tryz.func124 n9 fun d=>?_;unfold ng;simp[Tm.kind,Tm.num,Tm.name,Tm.args];(repeat' first|refine al ?_|refine aO (dT _ _ _) ?_|refine aP (dT _ _ _) ?_|refine aO (hZ _) ?_|refine aP (hZ _) ?_|simp[Int.natCast_nonneg]);all_goals simp[bZ,ba,bf,a6]
 by_cases e:k=3
 ·subst e;have s0:s=[]:=Classical.byContradiction fun h=>i ⟨Ω,h⟩;subst s0;by_cases a0:args=[];rotate_left
  ·rw[if_pos ⟨Ω,a0⟩]at c;have g:(0:Int)<args.length:=by have:=List.length_pos_iff.2 a0;omega
   subst c;refine bH a1 Tryz.func124 n9 fun d=>?_;unfold ng;simp[Tm.kind,Tm.num,Tm.name,Tm.args];((repeat' first|refine al ?_|refine aO (dT _ _ _) ?_|refine aP (dT _ _ _) ?_|refine aO (hZ _) ?_|refine aP (hZ _) ?_|simp[Int.natCast_nonneg,g]|((first|apply ct|apply cz|apply cy)<;>intro h<;>try simp at h))<;>(try exact c3));all_goals simp[bZ,ba,bf,a6]
  rw[if_neg (by simp[a0])]at c;subst a0;simp at c;subst c;refine bH a1 Tryz.func124 n9 fun d=>?_;unfold ng;simp[Tm.kind,Tm.num,Tm.name,Tm.args];(repeat' first|refine al ?_|refine aO (dT _ _ _) ?_|refine aP (dT _ _ _) ?_|refine aO (hZ _) ?_|refine aP (hZ _) ?_|simp[Int.natCast_nonneg]);all_goals simp[bZ,ba,bf,a6]
 by_cases r:k=4
 ·subst r;have n0:n=0:=by simpa using v (by decide)
  have s0:s=[]:=Classical.byContradiction fun h=>i ⟨Ω,h⟩;subst n0 s0;simp at c;match args,c with
  |[a,b],c=>
   simp[Tm.sz,Tm.szL]at A;have j:=F a Ω;have x:=F b Ω;simp only[wV]at c;subst c;refine bH a1 Tryz.func124 n9 fun d=>?_;unfold ng;simp[Tm.kind,Tm.num,Tm.name,Tm.args];cases q:shp a with
   |true=>rw[q]at j;(repeat' first|refine al ?_|refine aO j ?_|refine aP j ?_|refine aO x ?_|refine aP x ?_|simp[Int.natCast_nonneg]);all_goals simp[bZ,ba,bf,a6]
   |false=>rw[q]at j;(repeat' first|refine al ?_|refine aO j ?_|refine aP j ?_|refine aO x ?_|refine aP x ?_|simp[Int.natCast_nonneg]);all_goals simp[bZ,ba,bf,a6]
  |[],c=>simp only[wV]at c;subst c;refine bH a1 Tryz.func124 n9 fun d=>?_;unfold ng;simp[Tm.kind,Tm.num,Tm.name,Tm.args];(repeat' first|refine al ?_|refine aO (dT _ _ _) ?_|refine aP (dT _ _ _) ?_|refine aO (hZ _) ?_|refine aP (hZ _) ?_|simp[Int.natCast_nonneg]);all_goals simp[bZ,ba,bf,a6]
  |[_],c=>simp only[wV]at c;subst c;refine bH a1 Tryz.func124 n9 fun d=>?_;unfold ng;simp[Tm.kind,Tm.num,Tm.name,Tm.args];(repeat' first|refine al ?_|refine aO (dT _ _ _) ?_|refine aP (dT _ _ _) ?_|refine aO (hZ _) ?_|refine aP (hZ _) ?_|simp[Int.natCast_nonneg]);all_goals simp[bZ,ba,bf,a6]
  |_::_::_::l,c=>
   simp only[wV]at c;have N:((l.length:Int)+1+1+1==2)=false:=by simp;omega
   subst c;refine bH a1 Tryz.func124 n9 fun d=>?_;unfold ng;simp[Tm.kind,Tm.num,Tm.name,Tm.args];(repeat' first|refine al ?_|refine aO (dT _ _ _) ?_|refine aP (dT _ _ _) ?_|refine aO (hZ _) ?_|refine aP (hZ _) ?_|simp[N]);all_goals simp[bZ,ba,bf,a6]
 have n0:(n !=0)=false:=v (by simp[f,e]);have s0:s=[]:=Classical.byContradiction fun h=>i ⟨u,h⟩;subst s0;have M:(k==0)=false:=by simp[z]
 have p:(k==1)=false:=by simp[f]
 have y:(k==2)=false:=by simp[u]
 have o:(k==3)=false:=by simp[e]
 have H:(k==4)=false:=by simp[r]
 have L:(k !=1)=true:=by simp[f]
 have K:(k !=2)=true:=by simp[u]
 have J:(k !=3)=true:=by simp[e]
 have G:(k !=4)=true:=by simp[r]
 by_cases a0:args=[]
 ·subst a0;simp[z,f,u,e,r]at c;subst c;refine bH a1 Tryz.func124 n9 fun d=>?_;unfold ng;simp[Tm.kind,Tm.num,Tm.name,Tm.args];(repeat' first|refine al ?_|refine aO (dT _ _ _) ?_|refine aP (dT _ _ _) ?_|refine aO (hZ _) ?_|refine aP (hZ _) ?_|simp[M,p,y,o,H,L,K,J,G,n0]);all_goals simp[bZ,ba,bf,a6]
 ·rw[if_pos ⟨r,a0⟩]at c;have g:(0:Int)<args.length:=by have:=List.length_pos_iff.2 a0;omega
  subst c;refine bH a1 Tryz.func124 n9 fun d=>?_;unfold ng;simp[Tm.kind,Tm.num,Tm.name,Tm.args];((repeat' first|refine al ?_|refine aO (dT _ _ _) ?_|refine aP (dT _ _ _) ?_|refine aO (hZ _) ?_|refine aP (hZ _) ?_|simp[g,M,p,y,o,H,L,K,J,G,n0]|((first|apply ct|apply cz|apply cy)<;>intro h<;>try simp at h))<;>(try exact c3));all_goals simp[bZ,ba,bf,a6]
def C3(t:Tm):bU au 56 [enc t] (.bool t.fits):=by
 rw[ait];have ax:=acL t 5000 Ω Ω;have a:=asu t.sz t (dP _);refine bH a1 Tryz.func56 aoU fun b=>?_;unfold Tw;simp;by_cases q:my t 5000<=5000
 ·exact cp
 ·exact cp
def Tt:C:=(aa [bz 2 false] (.seq (aa [I 5 0,cw 6 5,bP 7 0] (gw 8 7 6 (.seq (.block 1 (aa [I 9 7,ck 10 2 5 7,bg 11 2 10,dt (.alloc 4 none (.agg [.int .i64 0,.int .i64 0])),I 3 9,bV 2 4 11] (.seq (.drawn true 42 [I 12 3,aU 13 .gtr 12 0,I 14 13,cg 14 true 15 0,cg 14 true 16 3,aw 14 true (aU 17 .sub 16 1),aw 14 true (ck 18 2 15 17),aw 14 true (aF 19 0 1 18),aw 14 true (ay 20 1 19),aw 14 true (aF 21 0 1 4),aw 14 true (ay 22 1 21),aw 14 true (bu 23 .geq 20 22),ei 24 14 23,I 25 24,aw 25 false (aF 26 0 1 4),aw 25 false (ay 27 1 26),aw 25 false (dS 28 75 [.t 27,(gT 0),(gT 100000)]),aw 25 false (cM 29 28),dr 30 25 29,I 31 30,aw 31 false (aF 32 1 1 4),aw 31 false (ay 33 1 32),aw 31 false (aU 34 .neq 33 2),cg 31 false 35 34,aw 35 true (aF 36 1 1 4),aw 35 true (ay 37 1 36),aw 35 true (aU 38 .neq 37 3),aw 31 false (ei 39 35 38),dr 40 31 39]) (aW 40 (aa [bz 2 false] .ret) .skip)))) (.region [aU 41 .add 7 1,I 7 41])))) (aa [bz 2 true] .ret)))
def Tu:C:=(aa [bz 2 false] (.seq (aa [I 5 0,cw 6 5,bP 7 0] (gw 8 7 6 (.seq (.block 1 (aa [I 9 7,ck 10 2 5 7,bg 11 2 10,dt (.alloc 4 none (.agg [.int .i64 0,.str []])),I 3 9,bV 2 4 11] (.seq (.drawn true 37 [I 12 3,aU 13 .gtr 12 0,I 14 13,cg 14 true 15 0,cg 14 true 16 3,aw 14 true (aU 17 .sub 16 1),aw 14 true (ck 18 2 15 17),aw 14 true (bg 19 2 18),aw 14 true (bg 20 2 4),aw 14 true (b8 21 147 19 20),aw 14 true (cM 22 21),ei 23 14 22,I 24 23,aw 24 false (aF 25 0 1 4),aw 24 false (ay 26 1 25),aw 24 false (dS 27 75 [.t 26,(gT 0),(gT 100000)]),aw 24 false (cM 28 27),dr 29 24 28,I 30 29,aw 30 false (aF 31 1 1 4),aw 30 false (ay 32 1 31),aw 30 false (cT 33 119 32),aw 30 false (cM 34 33),dr 35 30 34]) (aW 35 (aa [bz 2 false] .ret) .skip)))) (.region [aU 36 .add 7 1,I 7 36])))) (aa [bz 2 true] .ret)))
def GP:C:=(aa [cW 2 0,cW 3 1,bz 4 false] (aa [aF 5 0 1 2,ay 6 1 5,aF 7 0 1 3,ay 8 1 7,bu 9 .lss 6 8,I 10 9,aw 10 false (aF 11 0 1 2),aw 10 false (ay 12 1 11),aw 10 false (aF 13 0 1 3),aw 10 false (ay 14 1 13),aw 10 false (bu 15 .eql 12 14),cg 10 false 16 15,aw 16 true (aF 17 1 1 2),aw 16 true (ay 18 1 17),aw 16 true (aF 19 1 1 3),aw 16 true (ay 20 1 19),aw 16 true (bu 21 .lss 18 20),aw 10 false (ei 22 16 21),dr 23 10 22,I 4 23] .ret))
def TS:C:=(aa [fo 4 2,bz 5 false] (aa [e1 10 2 98 [],I 6 10] (aa [bz 7 true] (.seq (.seq (.fg false 6 (.region [I 11 1,cw 12 11,bP 13 0])) (gw 14 13 12 (.seq (.block 1 (aa [ck 15 2 11 13,bg 16 2 15,dt (.alloc 9 none (.agg [.int .i64 0,.int .i64 0])),bV 2 9 16] (.seq (.drawn true 33 [I 18 6,I 19 0,aF 20 0 1 9,ay 21 1 20,cT 22 114 21,b8 23 201 19 22,aF 24 1 1 9,ay 25 1 24,dS 26 151 [.t 18,.t 23,.t 25],I 17 26,cX 27 0 17,cX 28 1 17,I 6 27,I 7 28]) (aa [I 29 7,cM 30 29] (aW 30 (aa [fo 4 2,bz 5 false] .ret) .skip))))) (.region [aU 31 .add 13 1,I 13 31])))) (aa [I 32 6,I 4 32,bz 5 true] .ret)))))
def TT:C:=(aa [fo 4 2,bz 5 false] (aa [e1 10 2 100 [],I 6 10] (aa [bz 7 true] (.seq (.seq (.fg false 6 (.region [I 11 1,cw 12 11,bP 13 0])) (gw 14 13 12 (.seq (.block 1 (aa [ck 15 2 11 13,bg 16 2 15,dt (.alloc 9 none (.agg [.int .i64 0,.str []])),bV 2 9 16] (.seq (.drawn true 33 [I 18 6,I 19 0,aF 20 0 1 9,ay 21 1 20,cT 22 114 21,b8 23 201 19 22,aF 24 1 1 9,ay 25 1 24,dS 26 181 [.t 18,.t 23,.t 25],I 17 26,cX 27 0 17,cX 28 1 17,I 6 27,I 7 28]) (aa [I 29 7,cM 30 29] (aW 30 (aa [fo 4 2,bz 5 false] .ret) .skip))))) (.region [aU 31 .add 13 1,I 13 31])))) (aa [I 32 6,I 4 32,bz 5 true] .ret)))))
def AZ:C:=(aa [cW 4 1,fo 6 2,bz 7 false] (.seq (aa [aF 10 0 1 4,ay 11 1 10,aU 12 .neq 11 1] (aW 12 (.seq (.drawn true 73 [I 13 0,aF 14 0 1 4,ay 15 1 14,I 16 2,bu 17 .eql 15 16,I 6 13,I 7 17]) .ret) .skip)) (aa [bP 8 0] (.seq (.block 0 (.loop (.seq (.seq (.drawn true 73 [I 18 8,I 19 0,cw 20 19,bu 21 .lss 18 20,I 22 21,cg 22 true 23 0,cg 22 true 24 8,aw 22 true (ck 25 2 23 24),aw 22 true (aF 26 0 1 25),aw 22 true (ay 27 1 26),aw 22 true (aF 28 1 1 4),aw 22 true (ay 29 1 28),aw 22 true (bu 30 .lss 27 29),ei 31 22 30]) (aW 31 .skip (.exit 0))) (.block 1 (.region [I 32 8,aU 33 .add 32 1,I 8 33]))))) (.seq (.seq (.drawn true 73 [I 34 8,I 35 0,cw 36 35,bu 37 .lss 34 36,I 38 37,cg 38 true 39 0,cg 38 true 40 8,aw 38 true (ck 41 2 39 40),aw 38 true (aF 42 0 1 41),aw 38 true (ay 43 1 42),aw 38 true (aF 44 1 1 4),aw 38 true (ay 45 1 44),aw 38 true (bu 46 .eql 43 45),ei 47 38 46]) (aW 47 (.seq (.drawn true 73 [I 48 0,I 49 0,I 50 8,ck 51 2 49 50,aF 52 1 1 51,ay 53 1 52,I 54 2,bu 55 .eql 53 54,I 6 48,I 7 55]) .ret) .skip)) (aa [e1 56 2 98 [],I 57 0,I 58 8,cd 59 (.lsl 2 (.t 57) none (some (.t 58))),h0 60 2 98 56 59,I 9 60] (aa [I 61 9,aF 62 1 1 4,ay 63 1 62,I 64 2,cd 65 (.build [.int .i64 0,.int .i64 0] [(0,1,(.t 63)),(1,1,(.t 64))]),e1 66 2 98 [.t 65],h0 67 2 98 61 66,I 9 67] (aa [I 68 9,I 69 0,I 70 8,cd 71 (.lsl 2 (.t 69) (some (.t 70)) none),h0 72 2 98 68 71,I 6 72,bz 7 true] .ret))))))))
def Ly:C:=(aa [cW 4 1,fo 6 2,bz 7 false] (.seq (aa [bg 13 4 4,I 14 2,b8 15 210 13 14] (aW 15 (aa [fo 6 2,bz 7 false] .ret) .skip)) (.seq (aa [bg 16 4 4,dS 17 58 [.t 16,(.c (.slice 1 .nil []))],cw 18 17,bP 19 0] (gw 20 19 18 (.seq (.block 1 (aa [ck 21 1 17 19,ay 22 1 21,I 9 22] (aa [I 23 9,I 24 2,cd 25 (.build [.int .i64 0,.str []] [(0,1,(.t 23)),(1,1,(.t 24))]),dt (.alloc 10 none (.agg [.int .i64 0,.str []])),bV 2 10 25] (aa [bP 11 0] (.seq (.block 2 (.loop (.seq (.seq (.drawn true 68 [I 26 11,I 27 0,cw 28 27,bu 29 .lss 26 28,I 30 29,cg 30 true 31 0,cg 30 true 32 11,aw 30 true (ck 33 2 31 32),aw 30 true (bg 34 2 33),aw 30 true (bg 35 2 10),aw 30 true (b8 36 147 34 35),ei 37 30 36]) (aW 37 .skip (.exit 2))) (.block 3 (.region [I 38 11,aU 39 .add 38 1,I 11 39]))))) (.seq (.drawn true 68 [I 40 11,I 41 0,cw 42 41,bu 43 .eql 40 42,I 44 43,aw 44 false (bg 45 2 10),cg 44 false 46 0,cg 44 false 47 11,aw 44 false (ck 48 2 46 47),aw 44 false (bg 49 2 48),aw 44 false (b8 50 147 45 49),dr 51 44 50]) (aW 51 (aa [e1 52 2 100 [],I 53 0,I 54 11,cd 55 (.lsl 2 (.t 53) none (some (.t 54))),h0 56 2 100 52 55,I 12 56] (aa [I 57 12,bg 58 2 10,e1 59 2 100 [.t 58],h0 60 2 100 57 59,I 12 60] (.region [I 61 12,I 62 0,I 63 11,cd 64 (.lsl 2 (.t 62) (some (.t 63)) none),h0 65 2 100 61 64,I 0 65]))) .skip))))))) (.fg false 0 (.region [aU 66 .add 19 1,I 19 66]))))) (aa [I 67 0,I 6 67,bz 7 true] .ret))))
def AY:C:=(aa [cW 2 0,bz 4 false] (.seq (aa [aF 7 3 1 2,ay 8 1 7,cw 9 8,bP 10 0] (gw 11 10 9 (.seq (.block 1 (aa [ck 12 4 8 10,bg 13 4 12,dG 6 ez,bV 4 6 13] (aa [bg 14 4 6,I 15 1,b8 16 210 14 15] (aW 16 (aa [bz 4 true] .ret) .skip)))) (.region [aU 17 .add 10 1,I 10 17])))) (aa [aF 18 0 1 2,ay 19 1 18,aU 20 .eql 19 2,I 21 20,aw 21 true (aF 22 2 1 2),aw 21 true (ay 23 1 22),cg 21 true 24 1,aw 21 true (bu 25 .eql 23 24),ei 26 21 25,I 4 26] .ret)))
def aoR:b3 aT Tt [.tmp 2] 1 Tryz.f78=true:=bi
def aoS:b3 aT Tu [.tmp 2] 1 Tryz.f79=true:=bi
def Pd:b3 aT GP [.tmp 4] 2 Tryz.f147=true:=bi
def apg:b3 aT TS [.tmp 4,.tmp 5] 2 Tryz.f149=true:=bi
def aph:b3 aT TT [.tmp 4,.tmp 5] 2 Tryz.f150=true:=bi
def Fe:b3 aT AZ [.tmp 6,.tmp 7] 3 Tryz.f151=true:=bi
def ZI:b3 aT Ly [.tmp 6,.tmp 7] 3 Tryz.f181=true:=bi
def Fc:b3 aT AY [.tmp 4] 2 Tryz.f210=true:=bi
open Classical in
def as0(l:List bI):bU au 78 [b6 (l.map bI.e)] (.bool (decide (jN l))):=by
 generalize bs:decide (jN l)=R;refine bH a1 Tryz.func78 aoR fun A=>?_;unfold Tt;have E:l.length<=68719476736:=by simp[eM,eV,eN,lim]at A;omega
 simp;refine eZ [0,5,6] (fun i (_:Unit)=>[(7,aj i)]) l.length (fun i _=> ∀j,j<i->je ny oI l j) () ca (fun k ab=>Ω) (fun _ s _=>?_) (fun i _ hi s _=>?_)
 ·have:R=true:=by rw[<-bs,gy,Im];exact s
  rw[this];exact cp
 ·obtain⟨b,m⟩:∃b,l[i]? =some b:=⟨_,cl hi⟩;obtain⟨c,ax⟩:∃c,l[i-1]? =some c:=⟨_,cl Ω⟩;have d:∀h,(l[i]'h)=b:=fun h=>by rw[cl hi]at m;exact e8 m
  have q:¬je ny oI l i->R=false:=fun h=>by rw[<-bs,iM];exact fun x=>h (Im.1 x i hi)
  have dy:je ny oI l i->∀j,j<i+1->je ny oI l j:=fun h j B=>by
   by_cases e:j=i
   ·rw[e];exact h
   ·exact s j Ω
  have p:je ny oI l i->ny b:=fun h=>(h b m).1;have y:je ny oI l i->0<i->c.v<b.v:=fun h a=>(h b m).2 c a ax;have u:ny b->(0<i->c.v<b.v)->je ny oI l i:=fun J U b0 v=>by rw[m]at v;cases v;exact⟨J,fun F a t=>by rw[ax]at t;cases t;exact U a⟩
  unfold ny at p u;by_cases g0:0<i/\¬c.v<b.v
  ·rw[q (fun h=>g0.2 (y h g0.1))];have z:=g0.1;have g:b.v<=c.v:=Ω
   exact cp
  have n:(decide (0<i)&&decide (b.v<=c.v))=false:=by simp;intro h;by_cases w:c.v<b.v;exact w;exact absurd ⟨h,w⟩ g0
  by_cases g1:0<=b.v/\b.v<=100000;rotate_left
  ·rw[q (fun h=>g1 (p h).1)];have f:decide (0<=b.v/\b.v<=100000)=false:=by simp only[iM];exact g1
   by_cases a:0<i
   ·have g:¬b.v<=c.v:=by simp[a]at n;omega
    simp[hi,d,ax];(repeat' first|refine al ?_|refine aO (dT _ _ _) ?_|refine aP (dT _ _ _) ?_|simp[d,ax,hi,a,g,f,g1]);all_goals simp[bZ,ba,bf,a6]
   ·obtain rfl:i=0:=Ω
    simp[hi,d,ax];(repeat' first|refine al ?_|refine aO (dT _ _ _) ?_|refine aP (dT _ _ _) ?_|simp[d,ax,hi,f,g1]);all_goals simp[bZ,ba,bf,a6]
  have f:decide (0<=b.v/\b.v<=100000)=true:=by simp only[gy];exact g1
  by_cases g2:b.k=2\/b.k=3;rotate_left
  ·rw[q (fun h=>g2 (p h).2)];have g21:(b.k !=2)=true:=by simp;omega
   have g22:(b.k !=3)=true:=by simp;omega
   by_cases a:0<i
   ·have g:¬b.v<=c.v:=by simp[a]at n;omega
    simp[hi,d,ax];(repeat' first|refine al ?_|refine aO (dT _ _ _) ?_|refine aP (dT _ _ _) ?_|simp[d,ax,hi,a,g,f,g1,g21,g22]);all_goals simp[bZ,ba,bf,a6]
   ·obtain rfl:i=0:=Ω
    simp[hi,d,ax];(repeat' first|refine al ?_|refine aO (dT _ _ _) ?_|refine aP (dT _ _ _) ?_|simp[d,ax,hi,f,g1,g21,g22]);all_goals simp[bZ,ba,bf,a6]
  have o:=dy (u ⟨g1,g2⟩ fun a=>by simp[a]at n;omega);have r:((b.k !=2)=false)\/((b.k !=2)=true/\(b.k !=3)=false):=by
   rcases g2 with h|h
   ·left;simp[h]
   ·right;simp[h]
  rcases r with g21|⟨g21,g22⟩
  ·by_cases a:0<i
   ·have g:¬b.v<=c.v:=by simp[a]at n;omega
    simp[hi,d,ax];(repeat' first|refine al ?_|refine aO (dT _ _ _) ?_|refine aP (dT _ _ _) ?_|simp[d,ax,hi,a,g,f,g1,g21]);all_goals exact bY.rng () hi o ca
   ·obtain rfl:i=0:=Ω
    simp[hi,d,ax];(repeat' first|refine al ?_|refine aO (dT _ _ _) ?_|refine aP (dT _ _ _) ?_|simp[d,ax,hi,f,g1,g21]);all_goals exact bY.rng () hi o ca
  ·by_cases a:0<i
   ·have g:¬b.v<=c.v:=by simp[a]at n;omega
    simp[hi,d,ax];(repeat' first|refine al ?_|refine aO (dT _ _ _) ?_|refine aP (dT _ _ _) ?_|simp[d,ax,hi,a,g,f,g1,g21,g22]);all_goals exact bY.rng () hi o ca
   ·obtain rfl:i=0:=Ω
    simp[hi,d,ax];(repeat' first|refine al ?_|refine aO (dT _ _ _) ?_|refine aP (dT _ _ _) ?_|simp[d,ax,hi,f,g1,g21,g22]);all_goals exact bY.rng () hi o ca
def mS(a b:bo):bU au 147 [a.e,b.e] (.bool (iK gd a b)):=by
 rw[<-Y2];have bs:ve a b=(decide (a.v<b.v)||(a.v==b.v&&ir a.s b.s)):=rfl;rcases Int.lt_trichotomy a.v b.v with h|h|h
 ·have:ve a b=true:=by rw[bs];simp[h]
  rw[this];refine bH a1 Tryz.func147 Pd fun c=>?_;unfold GP;exact cp
 ·have J:¬a.v<b.v:=Ω
  have U:(a.v==b.v)=true:=by simp[h]
  have:ve a b=ir a.s b.s:=by rw[bs];simp[h]
  rw[this];refine bH a1 Tryz.func147 Pd fun c=>?_;unfold GP;exact cp
 ·have J:¬a.v<b.v:=Ω
  have U:¬a.v=b.v:=Ω
  have d:(a.v==b.v)=false:=by simp[U]
  have:ve a b=false:=by rw[bs];simp[J,U]
  rw[this];refine bH a1 Tryz.func147 Pd fun c=>?_;unfold GP;exact cp
def Xv(l:List Bt)(i:Nat)(_:Unit):Prop:= ∀j,j<i->Co l j
open Classical in
def asy(l:List Bt):bU au 145 [bL (l.map Bt.e)] (.bool (decide (AL l))):=by
 generalize bs:decide (AL l)=R;refine bH a1 Tryz.func145 ao8 fun r=>?_;unfold TK;have t:l.length<=68719476736:=by simp[eM,eV,eN,lim]at r;omega
 simp;refine eZ [0,5,6] (fun i (_:Unit)=>[(7,aj i)]) l.length (Xv l) () ca (fun k ab=>Ω) (fun _ f _=>?_) (fun i _ hi f _=>?_)
 ·have:R=decide (l.length<=400):=by rw[<-bs,decide_eq_decide];exact⟨fun h=>h.1,fun h=>⟨h,fun j g=>f j g⟩⟩
  rw[this];simp;(repeat' first|refine al ?_|simp);simp[bZ,ba,bf,a6];all_goals(first|done|omega|(simp;done)|(simp;omega))
 ·obtain⟨b,a⟩:∃b,l[i]? =some b:=⟨_,cl hi⟩;obtain⟨c,ax⟩:∃c,l[i-1]? =some c:=⟨_,cl Ω⟩;have n:∀h,(l[i]'h)=b:=fun h=>by rw[cl hi]at a;exact e8 a
  have p:¬Co l i->R=false:=fun h=>by rw[<-bs,iM];exact fun d=>h (d.2 i hi)
  have dy:Co l i->Xv l (i+1) ():=fun h j g=>by
   by_cases e:j=i
   ·rw[e];exact h
   ·exact f j Ω
  simp[hi,n,ax];((repeat' first|refine al ?_|refine aO (dT _ _ _) ?_|refine aP (dT _ _ _) ?_|refine aO (C3 _) ?_|refine aP (C3 _) ?_|simp[n,ax,hi]|((first|apply ct|apply cz|apply cy)<;>intro h<;>try simp at h))<;>(try exact c3));all_goals first
   |(have s:¬Co l i:=by(intro d;have J:=d b a;have U:=J.2.1 c;have q:=J.2.2;first|omega|(have w:=U Ω ax;omega)|(rw[q]at h;cases h)|(simp_all;done)|(simp_all;omega))
     rw[p s]
     simp[bZ,ba,bf,a6]
     done)
   |(refine bY.rng () hi (dy fun b0 o=>?_) ?_
     ·rw[a]at o;cases o
      refine⟨?_,fun u v m=>?_,?_⟩
      ·omega
      ·rw[ax]at m;cases m;omega
      ·first|assumption|simp_all
     ·exact ca)
def nZ(n:Int):List Int->List Int
 |[]=>[n]
 |c::l=>if c<n then c::nZ n l else if c=n then c::l else n::c::l
def vw(l:List Int):Prop:=l.Pairwise (· < ·)
def Xm(n:Int):∀(l:List Int) (k:Nat),(∀i c,i<k->l[i]? =some c->c<n)->(∀c,l[k]? =some c->n<=c)->k<=l.length->nZ n l=if l[k]? =some n then l else l.take k++n::l.drop k
 |[],k,_,_,ab=>by simp at ab;subst ab;rfl
 |c::l,0,_,U,_=>by
  have:=U c rfl;by_cases e:c=n
  ·simp[nZ,e]
  ·have f:¬c<n:=Ω
   simp[nZ,f,e]
 |c::l,k+1,J,U,ab=>by have b:=J 0 c Ω rfl;simp only[nZ,if_pos b,List.take_succ_cons,List.drop_succ_cons,b5,List.getElem?_cons_succ];rw[Xm n l k (fun i d hi a=>J (i+1) d Ω (by simpa using a)) (fun d a=>U d (by simpa using a)) (by simpa using ab)];split<;>rfl
def Oy{n m:Int}:∀{l:List Int},m∈nZ n l↔m=n\/m∈l
 |[]=>by simp[nZ]
 |c::l=>by
  simp only[nZ];split
  ·simp only[gI,Oy (l:=l)];constructor
   ·rintro(h|h|h)
    ·exact .inr (.inl h)
    ·exact .inl h
    ·exact .inr (.inr h)
   ·rintro(h|h|h)
    ·exact .inr (.inl h)
    ·exact .inl h
    ·exact .inr (.inr h)
  ·split
   ·rename_i h;subst h;simp
   ·simp
def Xl{n:Int}:∀{l:List Int},vw l->vw (nZ n l)
 |[],_=>by simp[nZ,vw]
 |c::l,h=>by
  obtain⟨J,U⟩:=oh.1 h;simp only[nZ];split
  ·rename_i a;refine oh.2 ⟨fun m hm=>?_,Xl U⟩;rcases Oy.1 hm with rfl|hm
   ·exact a
   ·exact J m hm
  ·split
   ·exact h
   ·refine oh.2 ⟨fun m hm=>?_,h⟩;rcases gI.1 hm with rfl|hm
    ·omega
    ·have:=J m hm;omega
def Xn(n:Int):∀l:List Int,(nZ n l).length<=l.length+1
 |[]=>by simp[nZ]
 |c::l=>by
  have:=Xn n l;simp only[nZ];split
  ·simp;omega
  ·split<;>simp
def EA(l:List Int)(i:Nat):(e4 l)[i]? =(l[i]?).map (af.int .i64):=by simp[e4]
def fN(l:List Int):(e4 l).length=l.length:=by simp[e4]
def Aw:∀l:List Int,cf (e4 l)=e4 l
 |[]=>by simp[e4,cf]
 |a::l=>by have:=Aw l;simp only[e4,gV,cf,b7]at this⊢;rw[this]
def Ib(l:List Int)(n:Int)(k:Nat):cf (mU k (e4 l)++af.int .i64 n::oU k (mU l.length (e4 l)))=e4 (mU k l++n::oU k l):=by
 have e:mU l.length (e4 l)=e4 l:=iu (by simp[e4]);have a:mU k (e4 l)++af.int .i64 n::oU k (e4 l)=e4 (mU k l++n::oU k l):=by simp only[e4,List.map_append,gV,List.map_take,List.map_drop]
 rw[e,a];exact Aw _
def ast(l:List Int)(n:Int)(H:l.length<=1000000)(F:vw l):bU au 126 [cZ (e4 l),aj n] (cZ (e4 (nZ n l))):=by
 refine bH a1 Tryz.func126 aoY fun K=>?_;unfold TA;simp;refine xi [0,1] (fun(k:Nat)=>[(5,aj k)]) (fun k=>k) (fun k=>k<=l.length/\∀c,l[k]? =some c->n<=c) l.length ca ⟨Ω,fun c h=>by simp at h⟩ (fun k v _=>?_);obtain⟨ab,v⟩:=v;have B:(∀c,0<k->l[k-1]? =some c->c<n)->nZ n l=if l[k]? =some n then l else l.take k++n::l.drop k:=fun h=>Xm n l k (fun i c hi ax=>by
  obtain⟨d,f⟩:∃d,l[k-1]? =some d:=⟨_,cl Ω⟩;have J:=h d Ω f;rcases Nat.lt_or_ge i (k-1)with U|U
  ·have w:=(fI.1 ax);have x:=(fI.1 f);have:=q6.1 F i (k-1) w.1 x.1 U;rw[w.2,x.2]at this;omega
  ·have:i=k-1:=Ω
   subst this;rw[f]at ax;cases ax;exact J) v ab
 have y:∀c,l[k]? =some c->∀h,((e4 l)[k]'h)=aj c:=fun c h u=>by have:=EA l k;rw[h,cl u]at this;exact e8 this
 have z:(0<k->∃d,l[k-1]? =some d/\d<n)->∀P:Prop,(nZ n l=(if l[k]? =some n then l else l.take k++n::l.drop k)->P)->P:=fun h P G=>G (B fun c A ax=>by obtain⟨d,f,J⟩:=h A;rw[f]at ax;cases ax;exact J)
 rcases Nat.eq_zero_or_pos k with A|m
 ·have s:decide ((0:Int)<k)=false:=by simp;omega
  refine z (fun h=>Ω) _ fun e=>?_;by_cases a:k<l.length
  ·obtain⟨c,ax⟩:∃c,l[k]? =some c:=⟨_,cl a⟩;have t:=y c ax;rw[ax]at e;by_cases q:c=n
   ·have r:(c==n)=true:=by simp[q]
    rw[if_pos (by rw[q])]at e;rw[e];simp[s,a];((repeat' first|refine al ?_|simp[s,a,t,r]|((first|apply ct|apply cz|apply cy)<;>intro h<;>try simp at h))<;>(try exact c3));all_goals simp[bZ,ba,bf,a6]
   ·have r:(c==n)=false:=by simp[q]
    rw[if_neg (by simp[q])]at e;rw[e];simp[s,a];((repeat' first|refine al ?_|simp[s,a,t,r]|((first|apply ct|apply cz|apply cy)<;>intro h<;>try simp at h))<;>(try exact c3));all_goals simp[bZ,ba,bf,a6]
    all_goals exact Ib l n k
  ·rw[q4 Ω]at e;simp only[reduceCtorEq,if_false]at e;rw[e];simp[s,a];((repeat' first|refine al ?_|simp[s,a]|((first|apply ct|apply cz|apply cy)<;>intro h<;>try simp at h))<;>(try exact c3));all_goals simp[bZ,ba,bf,a6]
   all_goals exact Ib l n k
 ·obtain⟨d,f⟩:∃d,l[k-1]? =some d:=⟨_,cl Ω⟩;have o:((k:Int)-1).toNat=k-1:=Ω
  have p:∀h,((e4 l)[k-1]'h)=aj d:=fun u=>by have:=EA l (k-1);rw[f,cl u]at this;exact e8 this
  have j:(0:Int)<k:=Ω
  have g:k-1<l.length:=Ω
  by_cases b:n<=d
  ·simp[m,j,o,p,b,g];(repeat' first|refine al ?_|simp[m,j,o,p,b,g]);refine bY.whl (k-1) Ω ⟨Ω,fun c ax=>by rw[f]at ax;cases ax;exact b⟩ ?_;have E:((k-1:Nat):Int)=(k:Int)-1:=Ω
   simp[E];exact ca
  ·refine z (fun _=>⟨d,f,Ω⟩) _ fun e=>?_;by_cases a:k<l.length
   ·obtain⟨c,ax⟩:∃c,l[k]? =some c:=⟨_,cl a⟩;have t:=y c ax;rw[ax]at e;by_cases q:c=n
    ·have r:(c==n)=true:=by simp[q]
     rw[if_pos (by rw[q])]at e;rw[e];simp[m,j,o,p,b,g,a];((repeat' first|refine al ?_|simp[m,j,o,p,b,g,a,t,r]|((first|apply ct|apply cz|apply cy)<;>intro h<;>try simp at h))<;>(try exact c3));all_goals simp[bZ,ba,bf,a6]
    ·have r:(c==n)=false:=by simp[q]
     rw[if_neg (by simp[q])]at e;rw[e];simp[m,j,o,p,b,g,a];(repeat' first|refine al ?_|simp[m,j,o,p,b,g,a,t,r]);all_goals simp[bZ,ba,bf,a6]
     all_goals exact Ib l n k
   ·rw[q4 Ω]at e;simp only[reduceCtorEq,if_false]at e;rw[e];simp[m,j,o,p,b,g,a];(repeat' first|refine al ?_|simp[m,j,o,p,b,g,a]);all_goals simp[bZ,ba,bf,a6]
    all_goals exact Ib l n k
def jw:T->List Int->List Int
 | .var n,l=>nZ n l
 | .pair a b,l=>jw b (jw a l)
 |_,l=>l
def QX:∀(t:T) {l:List Int},vw l->vw (jw t l)
 | .var _,_,h=>Xl h
 | .pair a b,_,h=>QX b (QX a h)
 | .nil,_,h=>h
 | .sym _,_,h=>h
 | .num _,_,h=>h
def IK{m:Int}:∀(t:T) {l:List Int},m∈jw t l↔t.occ m=true\/m∈l
 | .var n,l=>by simp only[jw,Oy,T.occ,ey];constructor<;>rintro(h|h)<;>first|exact .inr h|exact .inl h.symm
 | .pair a b,l=>by
  simp only[jw,IK b,IK a,T.occ,og];constructor
  ·rintro(h|h|h)
   ·exact .inl (.inr h)
   ·exact .inl (.inl h)
   ·exact .inr h
  ·rintro((h|h)|h)
   ·exact .inr (.inl h)
   ·exact .inl h
   ·exact .inr (.inr h)
 | .nil,l=>by simp[jw,T.occ]
 | .sym _,l=>by simp[jw,T.occ]
 | .num _,l=>by simp[jw,T.occ]
def F4:∀(t:T) (l:List Int),(jw t l).length<=l.length+t.size
 | .var n,l=>by have:=Xn n l;simp only[jw,T.size];omega
 | .pair a b,l=>by have J:=F4 a l;have U:=F4 b (jw a l);simp only[jw,T.size];omega
 | .nil,l=>by simp[jw]
 | .sym _,l=>by simp[jw]
 | .num _,l=>by simp[jw]
def Ki:∀(t:T) (l:List Int),l.length+t.size<=1000000->vw l->bU au 58 [t.e,cZ (e4 l)] (cZ (e4 (jw t l)))
 | .var n,l,d,c=>by
  simp only[T.size]at d;have key:=ast l n Ω c;refine bH a1 Tryz.func58 Fb fun e=>?_;unfold AX;simp;(repeat' first|refine al ?_|refine aO key ?_|refine aP key ?_|simp);all_goals simp[bZ,ba,bf,a6]
  all_goals simp[jw,Aw]
 | .pair a b,l,d,c=>by
  simp only[T.size]at d;have j:=F4 a l;have g:=Ki a l Ω c;have f:=Ki b (jw a l) Ω (QX a c);refine bH a1 Tryz.func58 Fb fun e=>?_;unfold AX;simp;refine eZ [15,16] (fun i (_:Unit)=>[(1,cZ (e4 (if i=0 then l else if i=1 then jw a l else jw b (jw a l)))),(17,aj i)]) 2 (fun _ _=>True) () ca trivial (fun _ _ _=>?_) (fun i _ hi _ _=>?_)
  ·simp;(repeat' first|refine al ?_|simp);simp[bZ,ba,bf,a6];simp[jw,Aw]
  ·rcases(by omega:i=0\/i=1)with rfl|rfl
   ·simp;((repeat' first|refine al ?_|refine aO g ?_|refine aP g ?_|simp|((first|apply ct|apply cz|apply cy)<;>intro h<;>try simp at h))<;>(try exact c3));exact bY.rng () hi trivial ca
   ·simp;((repeat' first|refine al ?_|refine aO f ?_|refine aP f ?_|simp|((first|apply ct|apply cz|apply cy)<;>intro h<;>try simp at h))<;>(try exact c3));exact bY.rng () hi trivial ca
 | .nil,l,d,c=>by refine bH a1 Tryz.func58 Fb fun e=>?_;unfold AX;simp;refine eZ [15,16] (fun i (_:Unit)=>[(1,cZ (e4 l)),(17,aj i)]) 0 (fun _ _=>True) () ca trivial (fun _ _ _=>?_) (fun i _ hi _ _=>Ω);simp;((repeat' first|refine al ?_|simp|((first|apply ct|apply cz|apply cy)<;>intro h<;>try simp at h))<;>(try exact c3));simp[bZ,ba,bf,a6];simp[jw,Aw]
 | .sym _,l,d,c=>by refine bH a1 Tryz.func58 Fb fun e=>?_;unfold AX;simp;refine eZ [15,16] (fun i (_:Unit)=>[(1,cZ (e4 l)),(17,aj i)]) 0 (fun _ _=>True) () ca trivial (fun _ _ _=>?_) (fun i _ hi _ _=>Ω);simp;(repeat' first|refine al ?_|simp);simp[bZ,ba,bf,a6];simp[jw,Aw]
 | .num _,l,d,c=>by refine bH a1 Tryz.func58 Fb fun e=>?_;unfold AX;simp;refine eZ [15,16] (fun i (_:Unit)=>[(1,cZ (e4 l)),(17,aj i)]) 0 (fun _ _=>True) () ca trivial (fun _ _ _=>?_) (fun i _ hi _ _=>Ω);simp;(repeat' first|refine al ?_|simp);simp[bZ,ba,bf,a6];simp[jw,Aw]
def alT(s:List cU)(a b:T)(i:Nat)(_:Unit):Prop:=(1<=i->a.has s=false)/\(2<=i->b.has s=false)
def QS(s:List cU):∀t:T,bU au 210 [t.e,.str s] (.bool (t.has s))
 | .pair a b=>by
  have e:=QS s a;have d:=QS s b;refine bH a1 Tryz.func210 Fc fun j=>?_;unfold AY;simp;refine eZ [1,2,8,9] (fun i (_:Unit)=>[(10,aj i)]) 2 (alT s a b) () ca ⟨fun h=>Ω,fun h=>Ω⟩ (fun _ c _=>?_) (fun i _ hi c _=>?_)
  ·simp;(repeat' first|refine al ?_|simp);simp[bZ,ba,bf,a6];simp[T.has,c.1,c.2]
  ·rcases(by omega:i=0\/i=1)with rfl|rfl
   ·cases f:a.has s
    ·rw[f]at e;simp;((repeat' first|refine al ?_|refine aO e ?_|refine aP e ?_|simp|((first|apply ct|apply cz|apply cy)<;>intro h<;>try simp at h))<;>(try exact c3));exact bY.rng () hi ⟨fun _=>f,fun h=>Ω⟩ ca
    ·rw[f]at e;simp;((repeat' first|refine al ?_|refine aO e ?_|refine aP e ?_|simp|((first|apply ct|apply cz|apply cy)<;>intro h<;>try simp at h))<;>(try exact c3));simp[bZ,ba,bf,a6];simp[T.has,f]
   ·cases g:b.has s
    ·rw[g]at d;simp;((repeat' first|refine al ?_|refine aO d ?_|refine aP d ?_|simp|((first|apply ct|apply cz|apply cy)<;>intro h<;>try simp at h))<;>(try exact c3));exact bY.rng () hi ⟨fun _=>c.1 Ω,fun _=>g⟩ ca
    ·rw[g]at d;simp;((repeat' first|refine al ?_|refine aO d ?_|refine aP d ?_|simp|((first|apply ct|apply cz|apply cy)<;>intro h<;>try simp at h))<;>(try exact c3));simp[bZ,ba,bf,a6];simp[T.has,g]
 | .sym n=>by
  refine bH a1 Tryz.func210 Fc fun j=>?_;unfold AY;simp;refine eZ [1,2,8,9] (fun i (_:Unit)=>[(10,aj i)]) 0 (fun i _=>True) () ca trivial (fun _ c _=>?_) (fun i _ hi c _=>Ω);simp;(repeat' first|refine al ?_|simp);all_goals simp[bZ,ba,bf,a6]
  all_goals simp[T.has]
 | .num n=>by
  refine bH a1 Tryz.func210 Fc fun j=>?_;unfold AY;simp;refine eZ [1,2,8,9] (fun i (_:Unit)=>[(10,aj i)]) 0 (fun i _=>True) () ca trivial (fun _ c _=>?_) (fun i _ hi c _=>Ω);simp;(repeat' first|refine al ?_|simp);all_goals simp[bZ,ba,bf,a6]
  all_goals simp[T.has]
 | .var n=>by
  refine bH a1 Tryz.func210 Fc fun j=>?_;unfold AY;simp;refine eZ [1,2,8,9] (fun i (_:Unit)=>[(10,aj i)]) 0 (fun i _=>True) () ca trivial (fun _ c _=>?_) (fun i _ hi c _=>Ω);simp;(repeat' first|refine al ?_|simp);all_goals simp[bZ,ba,bf,a6]
  all_goals simp[T.has]
 | .nil=>by
  refine bH a1 Tryz.func210 Fc fun j=>?_;unfold AY;simp;refine eZ [1,2,8,9] (fun i (_:Unit)=>[(10,aj i)]) 0 (fun i _=>True) () ca trivial (fun _ c _=>?_) (fun i _ hi c _=>Ω);simp;(repeat' first|refine al ?_|simp);all_goals simp[bZ,ba,bf,a6]
  all_goals simp[T.has]
def p8(l:List bI)(o:bd (List bI)):af:= .tuple [b6 ((o.getD l).map bI.e),.bool o.isSome]
@[simp]def awb(S:aB->Prop)(l:List bI)(o:bd (List bI)):az S (p8 l o)=True:=by simp[p8]
def xV(l:List bI)(n:Int)(i:Nat):Prop:=i<=l.length/\∀j y,j<i->l[j]? =some y->y.v<n
def xV.none{l:List bI}{n:Int}{i:Nat}(h:xV l n i)(d:l.Pairwise fun x y=>x.v<y.v)(ax:∀c,l[i]? =some c->n<c.v):nz l n=none:=EL.2 fun x f=>by
 obtain⟨j,a,rfl⟩:=pB f;have e:=cl a;rcases Nat.lt_or_ge j i with J|J
 ·have:=h.2 j _ J e;omega
 ·have b:i<l.length:=Ω
  have g:=cl b;have k:=ax _ g;rcases Nat.lt_or_ge i j with U|U
  ·have:=q6.1 d i j b a U;omega
  ·obtain rfl:i=j:=Ω
   omega
def xV.ins{l:List bI}{n k:Int}{i:Nat}(h:xV l n i)(ax:∀c,l[i]? =some c->n<c.v):nx ⟨n,k⟩ l=l.take i++⟨n,k⟩::l.drop i:=Xo ⟨n,k⟩ l i (fun j y J U=>h.2 j y J U) (fun y a=>by have:=ax y a;simp;omega) h.1
def xV.step{l:List bI}{n:Int}{i:Nat}{b:bI}(h:xV l n i)(a:l[i]? =some b)(d:b.v<n):xV l n (i+1):=⟨(fI.1 a).1,fun j y J U=>by
 rcases(by omega:j<i\/j=i)with c|rfl
 ·exact h.2 j y c U
 ·rw[a]at U;cases U;exact d⟩
def asI(l:List bI)(r:l.length<=1000000)(f:l.Pairwise fun x y=>x.v<y.v)(n k:Int):bU au 151 [b6 (l.map bI.e),(T.var n).e,aj k] (p8 l (k5 l (.var n) k)):=by
 generalize o:k5 l (.var n) k=O;have a:(match nz l n with|some bt=>if bt=k then some l else none|none=>some (nx ⟨n,k⟩ l))=O:=by rw[<-o];rfl
 clear o;refine bH a1 Tryz.func151 Fe fun s=>?_;unfold AZ;simp;refine xi [0,2,4] (fun(i:Nat)=>[(8,aj i)]) (fun i=>l.length-i) (xV l n) 0 ca ⟨Ω,fun j y h=>Ω⟩ (fun i d _=>?_);have ab:=d.1;by_cases hi:i<l.length
 ·obtain⟨b,m,g⟩:=eW hi;rcases Int.lt_trichotomy b.v n with h|h|h
  ·have p:=d.step m h;clear a d m f;simp[hi,g,h];((repeat' first|refine al ?_|simp[hi,g,h]|((first|apply ct|apply cz|apply cy)<;>intro h<;>try simp at h))<;>(try exact c3));exact bY.whl (i+1) Ω p ca
  ·have be:nz l n=some b.k:=by rw[<-h];exact NZ f (fu m)
   have J:¬b.v<n:=Ω
   have U:(b.v==n)=true:=by simp[h]
   rw[be]at a;simp only at a;subst a;clear d m f be;simp[hi,g,J,U];(repeat' first|refine al ?_|simp[hi,g,J,U]);all_goals simp[bZ,ba,bf,a6]
   all_goals(by_cases e:b.k=k<;>simp[p8,e])
  ·have J:¬b.v<n:=Ω
   have U:(b.v==n)=false:=by simp;omega
   have ax:∀c,l[i]? =some c->n<c.v:=fun c ax=>by rw[m]at ax;cases ax;exact h
   rw[d.none f ax]at a;simp only[d.ins ax]at a;subst a;clear d m f ax;simp[hi,g,J,U];(repeat' first|refine al ?_|simp[hi,g,J,U]);all_goals simp[bZ,ba,bf,a6]
   all_goals simp[p8]
   rw[iu (by simp:(l.map bI.e).length<=l.length),<-List.map_take,<-List.map_drop,<-gV,<-List.map_append];exact Qr _
 ·have ax:∀c,l[i]? =some c->n<c.v:=fun c ax=>by rw[q4 Ω]at ax;cases ax
  rw[d.none f ax]at a;simp only[d.ins ax]at a;have q:i=l.length:=Ω
  clear d f ax;subst a;subst q;simp;(repeat' first|refine al ?_|simp);all_goals simp[bZ,ba,bf,a6]
  all_goals simp[p8]
  rw[iu (by simp:(l.map bI.e).length<=l.length),show [(⟨n,k⟩:bI).e]=[(⟨n,k⟩:bI)].map bI.e from rfl,<-List.map_append];exact Qr _
def acT(l:List bI)(f:l.length<=1000000)(d:l.Pairwise fun x y=>x.v<y.v)(t:T)(k:Int):bU au 151 [b6 (l.map bI.e),t.e,aj k] (p8 l (k5 l t k)):=by
 cases t with
 |var n=>exact asI l f d n k
 |nil=>
  refine bH a1 Tryz.func151 Fe fun c=>?_;unfold AZ;simp;(repeat' first|refine al ?_|simp);all_goals simp[bZ,ba,bf,a6]
  all_goals(by_cases e:0=k<;>simp[p8,k5,e])
 |sym n=>
  refine bH a1 Tryz.func151 Fe fun c=>?_;unfold AZ;simp;(repeat' first|refine al ?_|simp);all_goals simp[bZ,ba,bf,a6]
  all_goals(by_cases e:2=k<;>simp[p8,k5,e])
 |num n=>
  refine bH a1 Tryz.func151 Fe fun c=>?_;unfold AZ;simp;(repeat' first|refine al ?_|simp);all_goals simp[bZ,ba,bf,a6]
  all_goals(by_cases e:3=k<;>simp[p8,k5,e])
 |pair a b=>
  refine bH a1 Tryz.func151 Fe fun c=>?_;unfold AZ;simp;(repeat' first|refine al ?_|simp);all_goals simp[bZ,ba,bf,a6]
  all_goals(by_cases e:4=k<;>simp[p8,k5,e])
def ac9(s:List Bd)(v:Int):ie s (.var v)=cQ s v:=rfl
def QT{s:List Bd}(m:fm s){l:List bI}(k:jN l):bU au 149 [bL (s.map Bd.e),b6 (l.map bI.e)] (qV (gS s l [])):=by
 have o:=tH k;refine bH a1 Tryz.func149 apg fun p=>?_;unfold TS;simp;refine eZ [0,11,12] (fun i (a:List bI)=>[(6,b6 (a.map bI.e)),(13,aj i)]) l.length (Xt s l) [] ca ⟨⟨Ψ,Ψ⟩,rfl⟩ (fun a c _=>?_) (fun i a hi c _=>?_)
 ·obtain⟨_,c⟩:=c;rw[List.drop_length]at c;simp only[gS]at c;rw[<-c];simp;(repeat' first|refine al ?_|simp);simp[bZ,ba,bf,a6];simp[qV]
 ·obtain⟨h,c⟩:=c;obtain⟨b,n,f⟩:=eW hi;have j:=k.at' b (fu n);rw[lG hi,f]at c;simp only[gS]at c;have e:=Kj s m.len (.var b.v);rw[ac9]at e;have d:=acT a (by have:=tH h;omega) h.asc (cQ s b.v) b.k;simp[hi,f];cases g:k5 a (cQ s b.v) b.k with
  |none=>rw[g]at c d;simp only at c;rw[<-c];simp only[p8]at d;(repeat' first|refine al ?_|refine aO (k3 _) ?_|refine aP (k3 _) ?_|refine aO e ?_|refine aP e ?_|refine aO d ?_|refine aP d ?_|simp[f,hi]);simp[bZ,ba,bf,a6];simp[qV]
  |some br=>rw[g]at c d;simp only[p8]at d;(repeat' first|refine al ?_|refine aO (k3 _) ?_|refine aP (k3 _) ?_|refine aO e ?_|refine aP e ?_|refine aO d ?_|refine aP d ?_|simp[f,hi]);exact bY.rng br hi ⟨KL h (CP m j.1) j.2 g,c⟩ ca
open Classical in
def as1(l:List bo):bU au 79 [b6 (l.map bo.e)] (.bool (decide (iT l))):=by
 generalize bs:decide (iT l)=R;refine bH a1 Tryz.func79 aoS fun y=>?_;unfold Tu;have A:l.length<=68719476736:=by simp[eM,eV,eN,lim]at y;omega
 simp;refine eZ [0,5,6] (fun i (_:Unit)=>[(7,aj i)]) l.length (fun i _=> ∀j,j<i->je kY lv l j) () ca (fun k ab=>Ω) (fun _ s _=>?_) (fun i _ hi s _=>?_)
 ·have:R=true:=by rw[<-bs,gy,IE];exact s
  rw[this];exact cp
 ·obtain⟨b,n⟩:∃b,l[i]? =some b:=⟨_,cl hi⟩;obtain⟨c,ax⟩:∃c,l[i-1]? =some c:=⟨_,cl Ω⟩;have d:∀h,(l[i]'h)=b:=fun h=>by rw[cl hi]at n;exact e8 n
  have v:¬je kY lv l i->R=false:=fun h=>by rw[<-bs,iM];exact fun w=>h (IE.1 w i hi)
  have dy:je kY lv l i->∀j,j<i+1->je kY lv l j:=fun h j z=>by
   by_cases e:j=i
   ·rw[e];exact h
   ·exact s j Ω
  have m:∀p:Prop,(p->er)->(je kY lv l i->p)->R=false:=fun p J U=>v fun h=>J (U h);have g:je kY lv l i->kY b:=fun h=>(h b n).1;have x:je kY lv l i->0<i->iK gd c b=true:=fun h r=>by simpa[iK,lv]using(h b n).2 c r ax
  have q:kY b->(0<i->iK gd c b=true)->je kY lv l i:=fun J U b0 u=>by rw[n]at u;cases u;exact⟨J,fun B r t=>by rw[ax]at t;cases t;simpa[iK,lv]using U r⟩
  unfold kY at g q;by_cases g4:0<i
  ·cases g5:iK gd c b
   ·rw[m _ (fun h=>by rw[h]at g5;cases g5) (fun h=>x h g4)];simp[hi,d,ax];(repeat' first|refine al ?_|refine aO (mS _ _) ?_|refine aP (mS _ _) ?_|simp[d,ax,hi,g4,g5]);all_goals simp[bZ,ba,bf,a6]
   ·by_cases g1:0<=b.v/\b.v<=100000;rotate_left
    ·rw[m _ (fun h=>g1 h) (fun h=>(g h).1)];have f:decide (0<=b.v/\b.v<=100000)=false:=by simp only[iM];exact g1
     simp[hi,d,ax];(repeat' first|refine al ?_|refine aO (mS _ _) ?_|refine aP (mS _ _) ?_|refine aO (dT _ _ _) ?_|refine aP (dT _ _ _) ?_|simp[d,ax,hi,g4,g5,f,g1]);all_goals simp[bZ,ba,bf,a6]
    have f:decide (0<=b.v/\b.v<=100000)=true:=by simp only[gy];exact g1
    cases g3:kq b.s
    ·rw[m _ (fun h=>by rw[h]at g3;cases g3) (fun h=>(g h).2)];have a:=hZ b.s;rw[g3]at a;simp[hi,d,ax];(repeat' first|refine al ?_|refine aO (mS _ _) ?_|refine aP (mS _ _) ?_|refine aO (dT _ _ _) ?_|refine aP (dT _ _ _) ?_|refine aO a ?_|refine aP a ?_|simp[d,ax,hi,g4,g5,f,g1]);all_goals simp[bZ,ba,bf,a6]
    have a:=hZ b.s;rw[g3]at a;have o:=dy (q ⟨g1,g3⟩ fun _=>g5);simp[hi,d,ax];(repeat' first|refine al ?_|refine aO (mS _ _) ?_|refine aP (mS _ _) ?_|refine aO (dT _ _ _) ?_|refine aP (dT _ _ _) ?_|refine aO a ?_|refine aP a ?_|simp[d,ax,hi,g4,g5,f,g1]);all_goals exact bY.rng () hi o ca
  ·obtain rfl:i=0:=Ω
   by_cases g1:0<=b.v/\b.v<=100000;rotate_left
   ·rw[m _ (fun h=>g1 h) (fun h=>(g h).1)];have f:decide (0<=b.v/\b.v<=100000)=false:=by simp only[iM];exact g1
    simp[hi,d,ax];(repeat' first|refine al ?_|refine aO (mS _ _) ?_|refine aP (mS _ _) ?_|refine aO (dT _ _ _) ?_|refine aP (dT _ _ _) ?_|simp[d,ax,hi,g4,f,g1]);all_goals simp[bZ,ba,bf,a6]
   have f:decide (0<=b.v/\b.v<=100000)=true:=by simp only[gy];exact g1
   cases g3:kq b.s
   ·rw[m _ (fun h=>by rw[h]at g3;cases g3) (fun h=>(g h).2)];have a:=hZ b.s;rw[g3]at a;simp[hi,d,ax];(repeat' first|refine al ?_|refine aO (mS _ _) ?_|refine aP (mS _ _) ?_|refine aO (dT _ _ _) ?_|refine aP (dT _ _ _) ?_|refine aO a ?_|refine aP a ?_|simp[d,ax,hi,g4,f,g1]);all_goals simp[bZ,ba,bf,a6]
   have a:=hZ b.s;rw[g3]at a;have o:=dy (q ⟨g1,g3⟩ fun h=>absurd h g4);simp[hi,d,ax];(repeat' first|refine al ?_|refine aO (mS _ _) ?_|refine aP (mS _ _) ?_|refine aO (dT _ _ _) ?_|refine aP (dT _ _ _) ?_|refine aO a ?_|refine aP a ?_|simp[d,ax,hi,g4,f,g1]);all_goals exact bY.rng () hi o ca
def qw(s:List cU)(bm:List Int)(l:List bo):List bo:=bm.foldl (fun a v=>kW gd ⟨v,s⟩ a) l
def Mj(s:List cU):∀(bm:List Int) {l:List bo},iN gd l->iN gd (qw s bm l)
 |[],_,h=>h
 |v::bm,_,h=>Mj s bm (NL mO h)
def YC(s:List cU){x:bo}:∀(bm:List Int) {l:List bo},x∈qw s bm l↔x∈l\/(x.s=s/\x.v∈bm)
 |[],l=>by simp[qw]
 |v::bm,l=>by
  have:=YC s (x:=x) bm (l:=kW gd ⟨v,s⟩ l);rw[show qw s (v::bm) l=qw s bm (kW gd ⟨v,s⟩ l)from rfl,this,IH mO,gI];constructor
  ·rintro((rfl|h)|⟨J,U⟩)
   ·exact .inr ⟨rfl,.inl rfl⟩
   ·exact .inl h
   ·exact .inr ⟨J,.inr U⟩
  ·rintro(h|⟨J,U|U⟩)
   ·exact .inl (.inr h)
   ·refine .inl (.inl ?_);cases x;simp_all
   ·exact .inr ⟨J,U⟩
def Vu(s:List cU):∀(bm:List Int) (l:List bo),(qw s bm l).length<=l.length+bm.length
 |[],l=>by simp[qw]
 |v::bm,l=>by have J:=Vu s bm (kW gd ⟨v,s⟩ l);have U:=NN (c:=gd) (⟨v,s⟩:bo) l;rw[show qw s (v::bm) l=qw s bm (kW gd ⟨v,s⟩ l)from rfl];simp only[mT];omega
def aiw{t:T}{s:List cU}(a:t.has s=false){l:List bo}(b:iN gd l):nc l t s=some (qw s (jw t []) l):=KM a (Mj s _ b) fun x=>by rw[YC,IK];simp
def EE(l:List bo)(bm:List Int)(s:List cU)(i:Nat)(a:List bo):Prop:=a=qw s (bm.take i) l
def BU(a:List bo)(m:bo)(k:Nat):Prop:=k<=a.length/\∀j y,j<k->a[j]? =some y->gd y m<0
def BU.step{a:List bo}{m:bo}{k:Nat}{b:bo}(h:BU a m k)(c:a[k]? =some b)(e:gd b m<0):BU a m (k+1):=⟨(fI.1 c).1,fun j y J U=>by
 rcases(by omega:j<k\/j=k)with d|rfl
 ·exact h.2 j y d U
 ·rw[c]at U;cases U;exact e⟩
def BU.fin{a:List bo}{m:bo}{k:Nat}(h:BU a m k)(ax:∀y,a[k]? =some y->0<=gd y m):kW gd m a=if(match a[k]? with|some y=>decide (gd y m=0)|none=>false)=true then a else a.take k++m::a.drop k:=(NM mO m a k (fun j y J U=>h.2 j y J U) ax h.1).trans (by cases a[k]?<;>rfl)
def YR(a:List bo)(k:Nat)(m:bo):mU k (a.map bo.e)++m.e::oU k (a.map bo.e)=(a.take k++m::a.drop k).map bo.e:=Ψ
def Cg(a:List bo)(k:Nat)(m:bo):cf (mU k (a.map bo.e)++m.e::oU k (a.map bo.e))=mU k (a.map bo.e)++m.e::oU k (a.map bo.e):=by rw[YR,Qs]
def Cf(S:aB->Prop)(a:List bo)(k:Nat)(m:bo):aH S (mU k (a.map bo.e)++m.e::oU k (a.map bo.e))=True:=by rw[YR,X1]
def YO(a:List bo)(m:bo):a.map bo.e++[m.e]=(a++[m]).map bo.e:=Ψ
def Ce(a:List bo)(m:bo):cf (a.map bo.e++[m.e])=a.map bo.e++[m.e]:=by rw[YO,Qs]
def Cd(S:aB->Prop)(a:List bo)(m:bo):aH S (a.map bo.e++[m.e])=True:=by rw[YO,X1]
def asJ(l:List bo)(W:l.length<=68719470000)(t:T)(X:t.size<=5000)(s:List cU)(J:iN gd l):bU au 181 [b6 (l.map bo.e),t.e,.str s] (j2 (nc l t s)):=by
 have g:=QS s t;cases p:t.has s;rotate_left
 ·have r:nc l t s=none:=by simp[nc,p]
  rw[r];rw[p]at g;refine bH a1 Tryz.func181 ZI fun R=>?_;unfold Ly;simp;(repeat' first|refine al ?_|refine aO g ?_|refine aP g ?_|simp);all_goals simp[bZ,ba,bf,a6]
  all_goals simp[j2]
 ·rw[p]at g;have G:=aiw p J;have E:=F4 t [];have x:=Ki t [] d6 (by simp[vw]);have S:e4 []=[]:=rfl;rw[S]at x;rw[G];clear G p;generalize jw t []=bm at x E⊢;have V:bm.length<=5000:=by simp at E;omega
  generalize H:qw s bm l=F;refine bH a1 Tryz.func181 ZI fun R=>?_;unfold Ly;simp;(repeat' first|refine al ?_|refine aO g ?_|refine aP g ?_|refine aO x ?_|refine aP x ?_|simp[fN]);refine eZ [2,17,18] (fun i (a:List bo)=>[(0,b6 (a.map bo.e)),(19,aj i)]) bm.length (EE l bm s) l ⟨by simp[fresh,aH,az,cc,aM,ae,fN],eo (by simp[fresh,aH,az,cc,aM,ae,fN]),ep (by simp[fresh,aH,az,dV,aM,ae,fN]),Ψ⟩ (by simp[EE,qw]) (fun a c _=>?_) (fun i a hi c _=>?_)
  ·rw[EE,jz,H]at c;subst c;simp[fN];(repeat' first|refine al ?_|simp[fN]);all_goals simp[bZ,ba,bf,a6]
   all_goals simp[j2]
  ·obtain⟨v,K⟩:∃v,bm[i]? =some v:=⟨_,cl hi⟩;have B:∀h,((e4 bm)[i]'h)=aj v:=fun P=>by have:=EA bm i;rw[K,cl P]at this;exact e8 this
   have w:iN gd a:=by rw[c];exact Mj s _ J
   have N:a.length<=68719475000:=by have:=Vu s (bm.take i) l;rw[c];simp at this⊢;omega
   have e:EE l bm s (i+1) (kW gd ⟨v,s⟩ a):=by rw[EE,List.take_succ,K,c];simp[qw]
   generalize hm:(⟨v,s⟩:bo)=m at e;have A:m.v=v:=by rw[<-hm]
   have U:m.s=s:=by rw[<-hm]
   subst A;subst U;clear c H;simp[hi,B,fN];(repeat' first|refine al ?_|simp[hi,B,fN]);refine xi [0,2,10,17,18,19] (fun(k:Nat)=>[(11,aj k)]) (fun k=>a.length-k) (BU a m) 0 ⟨by simp[fresh,aH,az,cc,aM,ae,fN],eo (by simp[fresh,aH,az,cc,aM,ae,fN]),ep (by simp[fresh,aH,az,dV,aM,ae,fN]),Ψ⟩ ⟨Ω,fun j y h=>Ω⟩ (fun k c _=>?_);have ab:=c.1;by_cases f:k<a.length
   ·obtain⟨b,o,n⟩:=eW f;cases q:iK gd b m
    ·have M:0<=gd b m:=by simpa[iK]using q
     have d:=c.fin (fun y u=>by rw[o]at u;cases u;exact M);rw[o]at d;cases z:iK gd m b
     ·have hle:0<=gd m b:=by simpa[iK]using z
      have r:gd b m=0:=by have:=mO.neg b m;omega
      rw[if_pos (by simp[r])]at d;rw[d]at e;clear c o d N w;simp[f,n];((repeat' first|refine al ?_|refine aO (mS _ _) ?_|refine aP (mS _ _) ?_|simp[f,n,q,z]|((first|apply ct|apply cz|apply cy)<;>intro h<;>try simp at h))<;>(try exact c3));all_goals exact bY.rng a hi e ⟨by simp[fresh,aH,az,cc,aM,ae,fN],eo (by simp[fresh,aH,az,cc,aM,ae,fN]),ep (by simp[fresh,aH,az,dV,aM,ae,fN]),Ψ⟩
     ·have hle:gd m b<0:=by simpa[iK]using z
      have r:¬gd b m=0:=by have:=mO.neg b m;omega
      rw[if_neg (by simp[r])]at d;rw[d]at e;clear c o d w;simp[f,n];((repeat' first|refine al ?_|refine aO (mS _ _) ?_|refine aP (mS _ _) ?_|simp[f,n,q,z]|((first|apply ct|apply cz|apply cy)<;>intro h<;>try simp at h))<;>(try exact c3));all_goals try refine⟨by unfold lim;omega,?_⟩
      all_goals(repeat' first|refine al ?_|simp)
      all_goals try refine⟨by unfold lim;omega,?_⟩
      all_goals((repeat' first|refine al ?_|simp|((first|apply ct|apply cz|apply cy)<;>intro h<;>try simp at h))<;>(try exact c3))
      all_goals exact bY.rng _ hi e ⟨by simp[fresh,aH,az,cc,aM,ae,fN,iu,Cg,Cf,Ce,Cd],eo (by simp[fresh,aH,az,cc,aM,ae,fN,iu,Cg,Cf,Ce,Cd]),ep (by simp[fresh,aH,az,dV,aM,ae,fN,iu,Cg,Cf,Ce,Cd]),Ψ⟩
    ·have L:gd b m<0:=by simpa[iK]using q
     have Q:=c.step o L;clear c o w e;simp[f,n];((repeat' first|refine al ?_|refine aO (mS _ _) ?_|refine aP (mS _ _) ?_|simp[f,n,q]|((first|apply ct|apply cz|apply cy)<;>intro h<;>try simp at h))<;>(try exact c3));all_goals exact bY.whl (k+1) Ω Q ⟨by simp[fresh,aH,az,cc,aM,ae,fN],eo (by simp[fresh,aH,az,cc,aM,ae,fN]),ep (by simp[fresh,aH,az,dV,aM,ae,fN]),Ψ⟩
   ·have d:=c.fin (fun y u=>by rw[q4 Ω]at u;cases u);rw[q4 Ω]at d;simp only[hQ,if_false]at d;rw[d]at e;have O:k=a.length:=Ω
    clear c d w;subst O;simp;(repeat' first|refine al ?_|simp);all_goals try refine⟨by unfold lim;omega,?_⟩
    all_goals(repeat' first|refine al ?_|simp)
    all_goals try refine⟨by unfold lim;omega,?_⟩
    all_goals(repeat' first|refine al ?_|simp)
    all_goals exact bY.rng _ hi e ⟨by simp[fresh,aH,az,cc,aM,ae,fN,iu,Cg,Cf,Ce,Cd],eo (by simp[fresh,aH,az,cc,aM,ae,fN,iu,Cg,Cf,Ce,Cd]),ep (by simp[fresh,aH,az,dV,aM,ae,fN,iu,Cg,Cf,Ce,Cd]),Ψ⟩
def QU{s:List Bd}(j:fm s){l:List bo}(m:iT l){G:List (List cU)}(t:G.length<=687000)(be:oQ G l):bU au 150 [bL (s.map Bd.e),b6 (l.map bo.e)] (j2 (gZ s l [])):=by
 have hlen:∀{a:List bo},iT a->oQ G a->a.length<=68719470000:=fun J U=>by have:=EU J U;omega
 have r:=hlen m be;refine bH a1 Tryz.func150 aph fun u=>?_;unfold TT;simp;refine eZ [0,11,12] (fun i (a:List bo)=>[(6,b6 (a.map bo.e)),(13,aj i)]) l.length (Xu s G l) [] ca ⟨⟨Ψ,by simp[iN]⟩,fun x p=>by simp at p,rfl⟩ (fun a c _=>?_) (fun i a hi c _=>?_)
 ·obtain⟨_,_,c⟩:=c;rw[List.drop_length]at c;simp only[gZ]at c;rw[<-c];simp;(repeat' first|refine al ?_|simp);simp[bZ,ba,bf,a6];simp[j2]
 ·obtain⟨h,o,c⟩:=c;obtain⟨b,n,g⟩:=eW hi;have k:=m.at' b (fu n);have q:=be b (fu n);rw[lG hi,g]at c;simp only[gZ]at c;have e:=Kj s j.len (.var b.v);rw[ac9]at e;have d:=asJ a (hlen h o) (cQ s b.v) (FI j b.v) b.s h.asc;simp[hi,g];cases f:nc a (cQ s b.v) b.s with
  |none=>rw[f]at c d;simp only at c;rw[<-c];simp only[j2]at d;(repeat' first|refine al ?_|refine aO (k3 _) ?_|refine aP (k3 _) ?_|refine aO e ?_|refine aP e ?_|refine aO d ?_|refine aP d ?_|simp[g,hi]);simp[bZ,ba,bf,a6];simp[j2]
  |some br=>rw[f]at c d;simp only[j2]at d;(repeat' first|refine al ?_|refine aO (k3 _) ?_|refine aP (k3 _) ?_|refine aO e ?_|refine aP e ?_|refine aO d ?_|refine aP d ?_|simp[g,hi]);exact bY.rng br hi ⟨KN h (CP j k.1) k.2 f,KO o q f,c⟩ ca
def arx{s:List Bd}(ar:rK s)(b:jA s)(c:iv s):hz (s.map Bd.b)=s.all (nM s):=by
 rw[q3,j4,sM,<-abM b];constructor
 ·rintro⟨d,J,U,a,e⟩;rw[w4 J];exact a
 ·intro a;exact⟨s,rfl,ar,a,c⟩
def aed{s:List Bd}(a:jA s)(b:Bd):nM s b=true↔(∀v∈jw b.t [],dH s v=none)/\(b.t.kind==1&&decide (b.v<=b.t.int))=false:=by unfold nM;rw[cP,Vv a];simp only[true_and,sS,IK,List.not_mem_nil,or_false]
def ED(s:List Bd)(bm:List Int)(i:Nat)(_:Unit):Prop:= ∀v∈bm.take i,dH s v=none
def ED.step{s:List Bd}{bm:List Int}{i:Nat}(h:ED s bm i ()){v:Int}(a:bm[i]? =some v)(b:dH s v=none):ED s bm (i+1) ():=fun w hw=>by
 rw[List.take_succ,a]at hw;simp only[kc,Option.toList_some,List.mem_singleton]at hw;rcases hw with hw|rfl
 ·exact h w hw
 ·exact b
def QV(l:List Bt):bU au 76 [bL (l.map Bt.e)] (.bool (hz l)):=by
 have a:=asy l;by_cases h:AL l;rotate_left
 ·have G:hz l=false:=by unfold hz;simp only[iM];rintro⟨s,J,U,H,K⟩;exact h (Kn.2 ⟨s,J,U,H.asc,K⟩)
  rw[G];refine bH a1 Tryz.func76 ZH fun L=>?_;unfold Lx;exact cp
 ·obtain⟨s,rfl,ar,E,z⟩:=Kn.1 h;have F:s.length<=1000000:=by have:=z.1;omega
  rw[arx ar E z];rw[zR]at a⊢;simp only[h,decide_true]at a;clear h;generalize bs:s.all (nM s)=R;refine bH a1 Tryz.func76 ZH fun L=>?_;unfold Lx;simp;(repeat' first|refine al ?_|refine aO a ?_|refine aP a ?_|simp);refine eZ [0,12,13] (fun i (_:Unit)=>[(14,aj i)]) s.length (qN (nM s) s) () ca (fun k b ab=>Ω) (fun _ d _=>?_) (fun i _ hi d _=>?_)
  ·have:R=true:=by rw[<-bs,j4];intro b r;obtain⟨k,ab,e⟩:=pB r;exact d k b ab (by rw[cl ab,e])
   rw[this];exact cp
  ·obtain⟨b,r,y⟩:=eW hi;have m:¬nM s b=true->R=false:=fun h=>by rw[<-bs,Bool.eq_false_iff];intro q;rw[j4]at q;exact h (q b (fu r))
   have n:nM s b=true->qN (nM s) s (i+1) ():=fun h=>d.step r h;have u:=aed E b;have O:=z.2 b (fu r);have w:=F4 b.t [];have p:=Ki b.t [] d6 (by simp[vw]);have M:e4 []=[]:=rfl;rw[M]at p;generalize jw b.t []=bm at p w u;have N:bm.length<=5000:=by simp at w;omega
   rw[u]at m n;clear u d w r;simp[hi,y];cases ab:(b.t.kind==1&&decide (b.v<=b.t.int));rotate_left
   ·rw[m (by rw[ab];simp)];rw[cP]at ab;have t:=ab.1;have B:b.v<=b.t.int:=of_decide_eq_true ab.2;exact cp
   ·rw[ab]at m n;simp only[jc]at m n;cases t:(b.t.kind==1)
    ·clear ab;(repeat' first|refine al ?_|refine aO p ?_|refine aP p ?_|simp[y,hi,fN,t]);refine eZ [0,12,13,14,32,33] (fun j (_:Unit)=>[(34,aj j)]) bm.length (ED s bm) () ⟨by simp[fresh,aH,az,cc,aM,ae,fN],eo (by simp[fresh,aH,az,cc,aM,ae,fN]),ep (by simp[fresh,aH,az,dV,aM,ae,fN]),Ψ⟩ (fun v a=>by simp at a) (fun _ d _=>?_) (fun j _ g d _=>?_)
     ·have be:=n (fun v a=>d v (by rwa[jz]));simp[fN];(repeat' first|refine al ?_|simp[fN]);exact bY.rng () hi be ⟨by simp[fresh,aH,az,cc,aM,ae,fN],eo (by simp[fresh,aH,az,cc,aM,ae,fN]),ep (by simp[fresh,aH,az,dV,aM,ae,fN]),Ψ⟩
     ·obtain⟨v,a⟩:∃v,bm[j]? =some v:=⟨_,cl g⟩;have o:∀h,((e4 bm)[j]'h)=aj v:=fun q=>by have:=EA bm j;rw[a,cl q]at this;exact e8 this
      have c:=w1 s v F;cases f:dH s v with
      |none=>have A:=d.step a f;rw[f]at c;simp only[mW,lH]at c;clear d n m f;simp[g,o,fN];(repeat' first|refine al ?_|refine aO c ?_|refine aP c ?_|simp[g,o,fN]);exact bY.rng () g A ⟨by simp[fresh,aH,az,cc,aM,ae,fN],eo (by simp[fresh,aH,az,cc,aM,ae,fN]),ep (by simp[fresh,aH,az,dV,aM,ae,fN]),Ψ⟩
      |some x=>rw[m (fun h=>by have:=h v (fu a);rw[f]at this;cases this)];rw[f]at c;simp only[mr,uk]at c;clear d n m f;simp[g,o,fN];(repeat' first|refine al ?_|refine aO c ?_|refine aP c ?_|simp[g,o,fN]);simp[bZ,ba,bf,a6]
    ·have B:¬b.v<=b.t.int:=by rw[t]at ab;simpa using ab
     clear ab;(repeat' first|refine al ?_|refine aO p ?_|refine aP p ?_|simp[y,hi,fN,t,B]);refine eZ [0,12,13,14,32,33] (fun j (_:Unit)=>[(34,aj j)]) bm.length (ED s bm) () ⟨by simp[fresh,aH,az,cc,aM,ae,fN],eo (by simp[fresh,aH,az,cc,aM,ae,fN]),ep (by simp[fresh,aH,az,dV,aM,ae,fN]),Ψ⟩ (fun v a=>by simp at a) (fun _ d _=>?_) (fun j _ g d _=>?_)
     ·have be:=n (fun v a=>d v (by rwa[jz]));simp[fN];(repeat' first|refine al ?_|simp[fN]);exact bY.rng () hi be ⟨by simp[fresh,aH,az,cc,aM,ae,fN],eo (by simp[fresh,aH,az,cc,aM,ae,fN]),ep (by simp[fresh,aH,az,dV,aM,ae,fN]),Ψ⟩
     ·obtain⟨v,a⟩:∃v,bm[j]? =some v:=⟨_,cl g⟩;have o:∀h,((e4 bm)[j]'h)=aj v:=fun q=>by have:=EA bm j;rw[a,cl q]at this;exact e8 this
      have c:=w1 s v F;cases f:dH s v with
      |none=>have A:=d.step a f;rw[f]at c;simp only[mW,lH]at c;clear d n m f;simp[g,o,fN];(repeat' first|refine al ?_|refine aO c ?_|refine aP c ?_|simp[g,o,fN]);exact bY.rng () g A ⟨by simp[fresh,aH,az,cc,aM,ae,fN],eo (by simp[fresh,aH,az,cc,aM,ae,fN]),ep (by simp[fresh,aH,az,dV,aM,ae,fN]),Ψ⟩
      |some x=>rw[m (fun h=>by have:=h v (fu a);rw[f]at this;cases this)];rw[f]at c;simp only[mr,uk]at c;clear d n m f;simp[g,o,fN];(repeat' first|refine al ?_|refine aO c ?_|refine aP c ?_|simp[g,o,fN]);simp[bZ,ba,bf,a6]
def ac0{s:List Bd}(h:fm s):bU au 76 [bL (s.map Bd.e)] (.bool true):=by have:=QV (s.map Bd.b);rw[zR,sM.2 ⟨s,rfl,h.ok,h.sol,h.fits⟩]at this;exact this
def TO:C:=(aa [bz 2 false] (.seq (aa [I 5 0,cw 6 5,bP 7 0] (gw 8 7 6 (.seq (.block 1 (aa [ck 9 1 5 7,ay 10 1 9,I 4 10] (aa [I 11 4,cT 12 76 11,cM 13 12] (aW 13 (aa [bz 2 false] .ret) .skip)))) (.region [aU 14 .add 7 1,I 7 14])))) (aa [bz 2 true] .ret)))
def TV:C:=(aa [bz 4 false] (.seq (aa [I 7 0,cw 8 7,bP 9 0] (gw 10 9 8 (.seq (.block 1 (aa [ck 11 5 7 9,bg 12 5 11,dG 6 ks,bV 5 6 12] (aa [aF 13 0 1 6,ay 14 1 13,I 15 1,bu 16 .geq 14 15,I 17 16,aw 17 false (hq 18 1 4 6),aw 17 false (bg 19 4 18),cg 17 false 20 1,aw 17 false (b8 21 148 19 20),aw 17 false (cM 22 21),dr 23 17 22] (aW 23 (aa [bz 4 false] .ret) .skip)))) (.region [aU 24 .add 9 1,I 9 24])))) (aa [bz 4 true] .ret)))
def A0:C:=(aa [cW 2 0,bz 4 false] (.seq (aa [aF 7 3 1 2,ay 8 1 7,cw 9 8,bP 10 0] (gw 11 10 9 (.seq (.block 1 (aa [ck 12 4 8 10,bg 13 4 12,dG 6 ez,bV 4 6 13] (aa [bg 14 4 6,I 15 1,b8 16 148 14 15,cM 17 16] (aW 17 (aa [bz 4 false] .ret) .skip)))) (.region [aU 18 .add 10 1,I 10 18])))) (aa [aF 19 0 1 2,ay 20 1 19,aU 21 .neq 20 1,I 22 21,aw 22 false (aF 23 1 1 2),aw 22 false (ay 24 1 23),cg 22 false 25 1,aw 22 false (bu 26 .lss 24 25),dr 27 22 26,I 4 27] .ret)))
def TN:C:=(aa [fo 4 5] (aa [e1 10 5 113 [],I 5 10] (.seq (aa [I 11 1,cw 12 11,bP 13 0] (gw 14 13 12 (.seq (.block 1 (aa [ck 15 5 11 13,bg 16 5 15,dG 7 ks,bV 5 7 16] (aa [I 18 0,aF 19 0 1 7,ay 20 1 19,b8 21 146 18 20,I 17 21,cX 22 0 17,cX 23 1 17,dG 8 ez,bV 4 8 22,I 9 23] (aa [I 24 9,cM 25 24] (aW 25 (.region [I 26 5,bg 27 5 7,e1 28 5 113 [.t 27],h0 29 5 113 26 28,I 5 29]) .skip))))) (.region [aU 30 .add 13 1,I 13 30])))) (aa [I 31 5,I 4 31] .ret))))
def TR:C:=(aa [fo 2 1] (aa [e1 11 1 46 [],I 3 11] (.seq (.seq (.fg false 3 (.region [I 12 0,cw 13 12,bP 14 0])) (gw 15 14 13 (.seq (.block 1 (aa [ck 16 1 12 14,ay 17 1 16,I 5 17] (aa [bz 6 true] (.seq (aa [I 18 0,cw 19 18,bP 20 0] (.block 2 (.loop (aa [bu 21 .lss 20 19] (.seq (aW 21 .skip (.exit 2)) (.seq (.block 3 (aa [ck 22 1 18 20,ay 23 1 22,I 8 23] (.region [I 24 6,I 25 24,cg 25 true 26 8,cg 25 true 27 5,aw 25 true (b8 28 155 26 27),aw 25 true (aU 29 .eql 28 0),cg 25 true 30 29,cg 30 false 31 8,cg 30 false 32 5,aw 30 false (b8 33 203 31 32),aw 30 false (cM 34 33),aw 25 true (dr 35 30 34),ei 36 25 35,I 6 36]))) (.region [aU 37 .add 20 1,I 20 37]))))))) (aa [I 38 3,cw 39 38,I 9 39] (.seq (.block 4 (.loop (.seq (aa [I 40 9,aU 41 .gtr 40 0,I 42 41,cg 42 true 43 3,cg 42 true 44 9,aw 42 true (aU 45 .sub 44 1),aw 42 true (ck 46 1 43 45),aw 42 true (ay 47 1 46),cg 42 true 48 5,aw 42 true (b8 49 155 47 48),aw 42 true (aU 50 .geq 49 0),ei 51 42 50] (aW 51 .skip (.exit 4))) (.block 5 (.region [I 52 9,aU 53 .sub 52 1,I 9 53]))))) (aa [I 54 6,I 55 54,cg 55 true 56 9,cg 55 true 57 3,aw 55 true (cw 58 57),aw 55 true (bu 59 .eql 56 58),cg 55 true 60 59,cg 60 false 61 3,cg 60 false 62 9,aw 60 false (ck 63 1 61 62),aw 60 false (ay 64 1 63),cg 60 false 65 5,aw 60 false (b8 66 155 64 65),aw 60 false (aU 67 .neq 66 0),aw 55 true (dr 68 60 67),ei 69 55 68] (aW 69 (aa [e1 70 1 46 [],I 71 3,I 72 9,cd 73 (.lsl 1 (.t 71) none (some (.t 72))),h0 74 1 46 70 73,I 10 74] (aa [I 75 10,I 76 5,e1 77 1 46 [.t 76],h0 78 1 46 75 77,I 10 78] (.region [I 79 10,I 80 3,I 81 9,cd 82 (.lsl 1 (.t 80) (some (.t 81)) none),h0 83 1 46 79 82,I 3 83]))) .skip)))))))) (.fg false 3 (.region [aU 84 .add 14 1,I 14 84]))))) (aa [I 85 3,I 2 85] .ret))))
def TP:C:=(aa [bP 4 0] (.seq (aa [bP 5 0] (.block 0 (.loop (.seq (aa [I 7 5,I 8 0,cw 9 8,bu 10 .lss 7 9,I 11 10,cg 11 true 12 5,cg 11 true 13 1,aw 11 true (cw 14 13),aw 11 true (bu 15 .lss 12 14),ei 16 11 15] (aW 16 .skip (.exit 0))) (.seq (.block 1 (.seq (.seq (.drawn true 67 [I 19 0,I 20 5,ck 21 5 19 20,aF 22 0 1 21,ay 23 1 22,I 24 1,I 25 5,ck 26 5 24 25,aF 27 0 1 26,ay 28 1 27,bu 29 .neq 23 28]) (aW 29 (.seq (.drawn true 67 [I 30 0,I 31 5,ck 32 5 30 31,aF 33 0 1 32,ay 34 1 33,I 35 1,I 36 5,ck 37 5 35 36,aF 38 0 1 37,ay 39 1 38,bu 40 .lss 34 39,cT 41 188 40,I 4 41]) .ret) .skip)) (.seq (.drawn true 67 [I 42 0,I 43 5,ck 44 5 42 43,hq 45 1 4 44,bg 46 4 45,I 47 1,I 48 5,ck 49 5 47 48,hq 50 1 4 49,bg 51 4 50,b8 52 125 46 51,I 6 52]) (aa [I 53 6,aU 54 .neq 53 0] (aW 54 (aa [I 55 6,I 4 55] .ret) .skip))))) (.region [I 17 5,aU 18 .add 17 1,I 5 18])))))) (.seq (aa [I 56 0,cw 57 56,I 58 1,cw 59 58,bu 60 .neq 57 59] (aW 60 (aa [I 61 0,cw 62 61,I 63 1,cw 64 63,bu 65 .lss 62 64,cT 66 188 65,I 4 66] .ret) .skip)) (aa [bP 4 0] .ret))))
def Tv:C:=(aa [bz 4 false] (.seq (aa [I 11 0,cT 12 76 11,cM 13 12,I 14 13,cg 14 false 15 1,aw 14 false (cT 16 76 15),aw 14 false (cM 17 16),dr 18 14 17] (aW 18 (aa [bz 4 false] .ret) .skip)) (.seq (aa [I 19 0,cw 20 19,bP 21 0] (gw 22 21 20 (.seq (.block 1 (aa [ck 23 5 19 21,bg 24 5 23,dG 6 ks,bV 5 6 24] (aa [I 26 1,aF 27 0 1 6,ay 28 1 27,cT 29 114 28,b8 30 60 26 29,I 25 30,cX 31 0 25,cX 32 1 25,dG 7 ez,bV 4 7 31,I 8 32] (aa [I 34 1,hq 35 1 4 6,bg 36 4 35,b8 37 60 34 36,I 33 37,cX 38 0 33,cX 39 1 33,dG 9 ez,bV 4 9 38,I 10 39] (aa [I 40 8,cM 41 40,I 42 41,cg 42 false 43 10,aw 42 false (cM 44 43),dr 45 42 44,I 46 45,aw 46 false (bg 47 4 7),aw 46 false (bg 48 4 9),aw 46 false (b8 49 129 47 48),aw 46 false (cM 50 49),dr 51 46 50] (aW 51 (aa [bz 4 false] .ret) .skip)))))) (.region [aU 52 .add 21 1,I 21 52])))) (aa [bz 4 true] .ret))))
def apc:b3 aT TO [.tmp 2] 1 Tryz.f77=true:=bi
def apj:b3 aT TV [.tmp 4] 2 Tryz.f80=true:=bi
def Ff:b3 aT A0 [.tmp 4] 2 Tryz.f148=true:=bi
def apb:b3 aT TN [.tmp 4] 2 Tryz.f153=true:=bi
def apf:b3 aT TR [.tmp 2] 1 Tryz.f154=true:=bi
def apd:b3 aT TP [.tmp 4] 2 Tryz.f155=true:=bi
def aoT:b3 aT Tv [.tmp 4] 2 Tryz.f203=true:=bi
def Du:C:=(aa [cW 2 0,cW 3 1,bP 4 0] (.seq (aa [aF 7 0 1 2,ay 8 1 7,aF 9 0 1 3,ay 10 1 9,bu 11 .neq 8 10] (aW 11 (aa [aF 12 0 1 2,ay 13 1 12,aF 14 0 1 3,ay 15 1 14,bu 16 .lss 13 15,cT 17 188 16,I 4 17] .ret) .skip)) (.seq (aa [aF 18 1 1 2,ay 19 1 18,aF 20 1 1 3,ay 21 1 20,bu 22 .neq 19 21] (aW 22 (aa [aF 23 1 1 2,ay 24 1 23,aF 25 1 1 3,ay 26 1 25,bu 27 .lss 24 26,cT 28 188 27,I 4 28] .ret) .skip)) (.seq (aa [aF 29 2 1 2,ay 30 1 29,aF 31 2 1 3,ay 32 1 31,bu 33 .neq 30 32] (aW 33 (aa [aF 34 2 1 2,ay 35 1 34,aF 36 2 1 3,ay 37 1 36,bu 38 .lss 35 37,cT 39 188 38,I 4 39] .ret) .skip)) (.seq (aa [bP 5 0] (.block 0 (.loop (.seq (aa [I 40 5,aF 41 3 1 2,ay 42 1 41,cw 43 42,bu 44 .lss 40 43,I 45 44,cg 45 true 46 5,aw 45 true (aF 47 3 1 3),aw 45 true (ay 48 1 47),aw 45 true (cw 49 48),aw 45 true (bu 50 .lss 46 49),ei 51 45 50] (aW 51 .skip (.exit 0))) (.seq (.block 1 (.seq (.drawn true 68 [aF 54 3 1 2,ay 55 1 54,I 56 5,ck 57 4 55 56,bg 58 4 57,aF 59 3 1 3,ay 60 1 59,I 61 5,ck 62 4 60 61,bg 63 4 62,b8 64 125 58 63,I 6 64]) (aa [I 65 6,aU 66 .neq 65 0] (aW 66 (aa [I 67 6,I 4 67] .ret) .skip)))) (.region [I 52 5,aU 53 .add 52 1,I 5 53])))))) (aa [bP 4 0] .ret))))))
def TD:C:=(aa [cW 2 0,cW 3 1,bz 4 false] (aa [bg 5 4 2,bg 6 4 3,b8 7 125 5 6,aU 8 .eql 7 0,I 4 8] .ret))
def TE:C:=(aa [bP 2 0] (.seq (aa [I 3 0] (aW 3 (aa [bP 2 (-1)] .ret) .skip)) (aa [bP 2 1] .ret)))
def I3:b3 aT Du [.tmp 4] 2 Tryz.f125=true:=bi
def ao1:b3 aT TD [.tmp 4] 2 Tryz.f129=true:=bi
def ao2:b3 aT TE [.tmp 2] 1 Tryz.f188=true:=bi
def adK{t u:T}(J:t.kind=u.kind)(U:t.int=u.int)(a:t.name=u.name)(b:t.args=u.args):t=u:=by cases t<;>cases u<;>simp_all
def sO(b:Bool):bU au 188 [.bool b] (aj (if b then-1 else 1)):=by
 refine bH a1 Tryz.func188 ao2 fun a=>?_;unfold TE;simp;((repeat' first|refine al ?_|simp|((first|apply ct|apply cz|apply cy)<;>intro h<;>try simp at h))<;>(try exact c3));all_goals simp[bZ,ba,bf,a6]
 all_goals simp_all
def apm{a b:T}(c:a.args=[]\/b.args=[])(J:a.kind=b.kind)(U:a.int=b.int):e6 a b=lz a.name b.name:=by cases a<;>cases b<;>simp_all[e6]
def EC(a b:T)(i:Nat)(_:Unit):Prop:=a.args.take i=b.args.take i
def acJ(a:T)(n:∀x∈a.args,∀b:T,bU au 125 [x.e,b.e] (aj (e6 x b)))(b:T):bU au 125 [a.e,b.e] (aj (e6 a b)):=by
 have hle:a.args.length<=2:=by cases a<;>simp
 by_cases ab:a.kind=b.kind
 ·by_cases hi:a.int=b.int
  ·by_cases g:a.name=b.name
   ·have hlen:a.args.length=b.args.length:=by cases a<;>cases b<;>simp at ab⊢
    refine bH a1 Tryz.func125 I3 fun j=>?_;unfold Du;simp[ab,hi,g];refine eZ [2,3] (fun i (_:Unit)=>[(5,aj i)]) a.args.length (EC a b) () ca (by simp[EC]) (fun _ c _=>?_) (fun i _ f c _=>?_)
    ·simp;(repeat' first|refine al ?_|simp);simp[bZ,ba,bf,a6];unfold EC at c;rw[iu Ω,iu Ω]at c;exact((sG a b).2 (adK ab hi g c)).symm
    ·have l:i<b.args.length:=Ω
     obtain⟨x,d⟩:∃x,x=a.args[i]:=⟨_,rfl⟩;obtain⟨y,e⟩:∃y,y=b.args[i]:=⟨_,rfl⟩;have k:=n x (by rw[d];exact List.getElem_mem f) y;simp[f,l,<-d,<-e];(with_reducible repeat' first|((first|apply ct|apply cz|apply cy)<;>intro h<;>try simp at h)|refine al ?_|refine aO k ?_|refine aP k ?_|simp)
     ·simp[bZ,ba,bf,a6];unfold EC at c;cases a with
      |pair m a2=>
       cases b with
       |pair o p=>
        simp at f c d e;rcases(by omega:i=0\/i=1)with rfl|rfl
        ·simp at d e;subst d e;simp[e6,h]
        ·simp at c d e;subst d e c;simp[e6,(sG m m).2 rfl]
       |_=>simp at ab
      |_=>simp at f
     ·refine bY.rng () f ?_ ca;unfold EC at c⊢;rw[List.take_succ,List.take_succ,c,cl f,cl l,<-d,<-e,(sG x y).1 h]
   ·refine bH a1 Tryz.func125 I3 fun j=>?_;unfold Du;simp[ab,hi,g];((repeat' first|refine al ?_|refine aO (sO _) ?_|refine aP (sO _) ?_|simp|((first|apply ct|apply cz|apply cy)<;>intro h<;>try simp at h))<;>(try exact c3));simp[bZ,ba,bf,a6];have:a.args=[]\/b.args=[]:=by cases a<;>cases b<;>simp at ab g⊢
    rw[apm this ab hi,lz,if_neg g]
  ·refine bH a1 Tryz.func125 I3 fun j=>?_;unfold Du;simp[ab,hi];((repeat' first|refine al ?_|refine aO (sO _) ?_|refine aP (sO _) ?_|simp|((first|apply ct|apply cz|apply cy)<;>intro h<;>try simp at h))<;>(try exact c3));simp[bZ,ba,bf,a6];cases a<;>cases b<;>simp at ab hi
   ·rw[ZP];simp[fb];split<;>(try split)<;>omega
   ·rw[ZO];simp[fb];split<;>(try split)<;>omega
 ·refine bH a1 Tryz.func125 I3 fun j=>?_;unfold Du;simp[ab];((repeat' first|refine al ?_|refine aO (sO _) ?_|refine aP (sO _) ?_|simp|((first|apply ct|apply cz|apply cy)<;>intro h<;>try simp at h))<;>(try exact c3));simp[bZ,ba,bf,a6];rw[tR ab];simp[fb];split<;>(try split)<;>omega
def Kf(a:T):∀b:T,bU au 125 [a.e,b.e] (aj (e6 a b)):=by
 induction a with
 |pair x y e d=>
  refine acJ _ fun z c=>?_;simp at c;rcases c with rfl|rfl
  ·exact e
  ·exact d
 |_=>exact acJ _ fun x f=>by simp at f
def acM(a b:T):bU au 129 [a.e,b.e] (.bool (decide (a=b))):=by refine bH a1 Tryz.func129 ao1 fun c=>?_;unfold TD;simp;(repeat' first|refine al ?_|refine aO (Kf _ _) ?_|refine aP (Kf _ _) ?_|simp);simp[bZ,ba,bf,a6];have:=sG a b;by_cases h:e6 a b=0<;>simp_all
def asC{s t:List Bd}(j:fm s)(k:fm t):bU au 153 [bL (s.map Bd.e),bL (t.map Bd.e)] (bL ((hx s t).map Bd.e)):=by
 have h:=k.len;generalize bs:hx s t=R;refine bH a1 Tryz.func153 apb fun m=>?_;unfold TN;simp;refine fT (α:=List Bd) (fun i out=>⟨[(0,bL (s.map Bd.e)),(11,bL (t.map Bd.e)),(12,aj t.length),(5,.slice 5 (.own (.loc 0)) (out.map Bd.e)),(13,aj i)],[],[(.loc 0,⟨out.length,113,5,none⟩)],1,[]⟩) t.length (sB s t) [] ca (by simp[sB,hx]) (fun out c _=>?_) (fun i out hi c _=>?_)
 ·rw[sB,iu (dP _),bs]at c;rw[<-c];exact cp
 ·obtain⟨b,f,e⟩:=eW hi;have l:out.length<=1000000:=by
   have:out.length<=(t.take i).length:=by rw[c];exact List.length_filter_le _ _
   simp at this;omega
  have a:=w1 s b.v j.len;cases d:dH s b.v with
  |none=>
   have g:sB s t (i+1) (out++[b]):=by rw[sB,nH f,hx,List.filter_append,c];simp[hx,d]
   rw[d]at a;simp only[mW,lH]at a;clear c f d;simp[hi,e];(repeat' first|refine al ?_|refine aO a ?_|refine aP a ?_|simp[e,hi]);all_goals try refine⟨by unfold lim;omega,?_⟩
   (repeat' first|refine al ?_|simp);refine bY.rng (out++[b]) hi g ?_;simp;exact⟨by simp[fresh,aH,az,cc,aM,ae,jZ],eo (by simp[fresh,aH,az,cc,aM,ae,jZ]),ep (by simp[fresh,aH,az,dV,aM,ae,jZ]),Ψ⟩
  |some x=>
   have g:sB s t (i+1) out:=by rw[sB,nH f,hx,List.filter_append,c];simp[hx,d]
   rw[d]at a;simp only[mr,uk]at a;clear c f d;simp[hi,e];(repeat' first|refine al ?_|refine aO a ?_|refine aP a ?_|simp[e,hi]);refine bY.rng out hi g ?_;exact ca
def ar0{s t:List Bd}(u:fm s)(m:fm t):bU au 203 [bL (s.map Bd.e),bL (t.map Bd.e)] (.bool (oK s t)):=by
 have y:=u.len;generalize bs:oK s t=R;have p:=ac0 u;have q:=ac0 m;refine bH a1 Tryz.func203 aoT fun z=>?_;unfold Tv;simp;(repeat' first|refine al ?_|refine aO p ?_|refine aP p ?_|refine aO q ?_|refine aP q ?_|simp);refine eZ [1,19,20] (fun i (_:Unit)=>[(21,aj i)]) s.length (qN (tO t) s) () ca (fun k b ab=>Ω) (fun _ g _=>?_) (fun i _ hi g _=>?_)
 ·have:R=true:=by rw[<-bs,oK,j4];intro b v;obtain⟨k,ab,e⟩:=pB v;exact g k b ab (by rw[cl ab,e])
  rw[this];exact cp
 ·obtain⟨b,j,f⟩:=eW hi;have o:tO t b=false->R=false:=fun h=>by rw[<-bs,Bool.eq_false_iff];intro r;rw[oK,j4]at r;rw[r b (fu j)]at h;cases h
  have c:=QQ t m.len (.var b.v);have a:=QQ t m.len b.t;have n:=FI m b.v;have x:((T.var b.v).ap (cQ t)).size<=5000:=n;rw[l6 x]at c;rw[show(T.var b.v).ap (cQ t)=cQ t b.v from rfl]at c;by_cases l:(b.t.ap (cQ t)).size<=5000
  ·rw[l6 l]at a;by_cases he:cQ t b.v=b.t.ap (cQ t)
   ·have w:=g.step j (by simp[tO,he]);have d:=acM (cQ t b.v) (b.t.ap (cQ t));rw[l6 he]at d;clear g j;simp[hi,f];(repeat' first|refine al ?_|refine aO (k3 _) ?_|refine aP (k3 _) ?_|refine aO c ?_|refine aP c ?_|refine aO a ?_|refine aP a ?_|refine aO d ?_|refine aP d ?_|simp[f,hi]);exact bY.rng () hi w ca
   ·rw[o (by simp[tO,he])];have d:=acM (cQ t b.v) (b.t.ap (cQ t));rw[mX he]at d;clear g j;simp[hi,f];(repeat' first|refine al ?_|refine aO (k3 _) ?_|refine aP (k3 _) ?_|refine aO c ?_|refine aP c ?_|refine aO a ?_|refine aP a ?_|refine aO d ?_|refine aP d ?_|simp[f,hi]);simp[bZ,ba,bf,a6]
  ·rw[mX l]at a;rw[o (by simp only[tO,iM];intro e;rw[<-e]at l;exact l n)];clear g j;simp[hi,f];(repeat' first|refine al ?_|refine aO (k3 _) ?_|refine aP (k3 _) ?_|refine aO c ?_|refine aP c ?_|refine aO a ?_|refine aP a ?_|simp[f,hi]);simp[bZ,ba,bf,a6]
def QR(d e:List Bd):bU au 155 [bL (d.map Bd.e),bL (e.map Bd.e)] (aj (fa d e)):=by
 generalize bs:fa d e=R;refine bH a1 Tryz.func155 apd fun w=>?_;unfold TP;have G:d.length<=68719476736:=by simp[eM,eV,eN,lim]at w;omega
 have he:e.length<=68719476736:=by simp[eM,eV,eN,lim]at w;omega
 simp;refine xi [0,1] (fun(i:Nat)=>[(5,aj i)]) (fun i=>d.length-i) (NR d e) 0 ca ⟨Ω,Ω,Ψ⟩ (fun i B _=>?_);obtain⟨J,U,a⟩:=B;rw[bs]at a;by_cases hi:i<d.length
 ·by_cases b:i<e.length
  ·obtain⟨x,m⟩:∃x,d[i]? =some x:=⟨_,cl hi⟩;obtain⟨y,n⟩:∃y,e[i]? =some y:=⟨_,cl b⟩;have f:∀h,(d[i]'h)=x:=fun h=>by rw[cl hi]at m;exact e8 m
   have c:∀h,(e[i]'h)=y:=fun h=>by rw[cl b]at n;exact e8 n
   have r:d.drop i=x::d.drop (i+1):=by rw[lG hi,f]
   have q:e.drop i=y::e.drop (i+1):=by rw[lG b,c]
   rw[r,q]at a;rw[ZM]at a;by_cases g:x.v=y.v
   ·have j:fb x.v y.v=0:=(k1.zero _ _).2 g;have p:(x.v !=y.v)=false:=by simp[g]
    rw[if_pos j]at a;by_cases l:e6 x.t y.t=0
    ·rw[if_pos l]at a;have E:NR d e (i+1):=⟨Ω,Ω,by rw[bs];exact a⟩;have k:=Kf x.t y.t;rw[l]at k;clear r q m n a j;simp[hi,b,f,c];((repeat' first|refine al ?_|refine aO k ?_|refine aP k ?_|simp[f,c,hi,b,g,p]|((first|apply ct|apply cz|apply cy)<;>intro h<;>try simp at h))<;>(try exact c3));all_goals exact bY.whl (i+1) Ω E ca
    ·rw[if_neg l]at a;have k:=Kf x.t y.t;have z:(e6 x.t y.t !=0)=true:=by simp[l]
     clear r q m n j;simp[hi,b,f,c];(repeat' first|refine al ?_|refine aO k ?_|refine aP k ?_|simp[f,c,hi,b,g,p,l,z]);all_goals simp[bZ,ba,bf,a6]
     all_goals exact a
   ·have j:¬fb x.v y.v=0:=fun h=>g ((k1.zero _ _).1 h);have p:(x.v !=y.v)=true:=by simp[g]
    rw[if_neg j]at a;have dF:R=if decide (x.v<y.v)=true then-1 else 1:=by rw[<-a];unfold fb;simp only[gy];(repeat' split)<;>omega
    clear r q m n a j;rw[dF];simp[hi,b,f,c];(repeat' first|refine al ?_|refine aO (sO _) ?_|refine aP (sO _) ?_|simp[f,c,hi,b,g,p]);all_goals simp[bZ,ba,bf,a6]
  ·have hle:e.length<d.length:=Ω
   have:(1:Int)=R:=by rw[<-a,fa,EP _ _ _ (.inr (List.drop_eq_nil_of_le Ω))];simp only[uj];unfold fb;(repeat' split)<;>omega
   have t:¬(d.length:Int)=e.length:=Ω
   have v:((d.length:Int) !=e.length)=true:=by simp;omega
   have s:¬(d.length:Int)<e.length:=Ω
   have o:¬d.length<e.length:=Ω
   have u:¬d.length=e.length:=Ω
   clear a;rw[<-this];simp[hi,b];(repeat' first|refine al ?_|refine aO (sO _) ?_|refine aP (sO _) ?_|simp[hi,b,t,v,s,o,u]);all_goals simp[bZ,ba,bf,a6]
   all_goals(try simp[o])
 ·have F:i=d.length:=Ω
  by_cases A:d.length=e.length
  ·have:(0:Int)=R:=by rw[<-a,fa,EP _ _ _ (.inl (List.drop_eq_nil_of_le Ω))];simp only[uj];unfold fb;(repeat' split)<;>omega
   clear a;rw[<-this];exact cp
  ·have:(-1:Int)=R:=by rw[<-a,fa,EP _ _ _ (.inl (List.drop_eq_nil_of_le Ω))];simp only[uj];unfold fb;(repeat' split)<;>omega
   have t:¬(d.length:Int)=e.length:=Ω
   have v:((d.length:Int) !=e.length)=true:=by simp;omega
   have s:(d.length:Int)<e.length:=Ω
   have o:d.length<e.length:=Ω
   clear a;rw[<-this];simp[hi];(repeat' first|refine al ?_|refine aO (sO _) ?_|refine aP (sO _) ?_|simp[hi,t,v,s,o,A]);all_goals simp[bZ,ba,bf,a6]
   all_goals(try simp[o])
def alS(n:Int)(a b:T)(i:Nat)(_:Unit):Prop:=(1<=i->fA n a=true)/\(2<=i->fA n b=true)
def Ay(n:Int):∀t:T,bU au 148 [t.e,aj n] (.bool (fA n t))
 | .pair a b=>by
  have e:=Ay n a;have d:=Ay n b;refine bH a1 Tryz.func148 Ff fun j=>?_;unfold A0;simp;refine eZ [1,2,8,9] (fun i (_:Unit)=>[(10,aj i)]) 2 (alS n a b) () ca ⟨fun h=>Ω,fun h=>Ω⟩ (fun _ c _=>?_) (fun i _ hi c _=>?_)
  ·simp;(repeat' first|refine al ?_|simp);simp[bZ,ba,bf,a6];simp[fA,c.1,c.2]
  ·rcases(by omega:i=0\/i=1)with rfl|rfl
   ·cases f:fA n a
    ·rw[f]at e;simp;(repeat' first|refine al ?_|refine aO e ?_|refine aP e ?_|simp);simp[bZ,ba,bf,a6];simp[fA,f]
    ·rw[f]at e;simp;((repeat' first|refine al ?_|refine aO e ?_|refine aP e ?_|simp|((first|apply ct|apply cz|apply cy)<;>intro h<;>try simp at h))<;>(try exact c3));exact bY.rng () hi ⟨fun _=>f,fun h=>Ω⟩ ca
   ·cases g:fA n b
    ·rw[g]at d;simp;((repeat' first|refine al ?_|refine aO d ?_|refine aP d ?_|simp|((first|apply ct|apply cz|apply cy)<;>intro h<;>try simp at h))<;>(try exact c3));simp[bZ,ba,bf,a6];simp[fA,g]
    ·rw[g]at d;simp;((repeat' first|refine al ?_|refine aO d ?_|refine aP d ?_|simp|((first|apply ct|apply cz|apply cy)<;>intro h<;>try simp at h))<;>(try exact c3));exact bY.rng () hi ⟨fun _=>c.1 Ω,fun _=>g⟩ ca
 | .sym v=>by
  refine bH a1 Tryz.func148 Ff fun j=>?_;unfold A0;simp;refine eZ [1,2,8,9] (fun i (_:Unit)=>[(10,aj i)]) 0 (fun i _=>True) () ca trivial (fun _ c _=>?_) (fun i _ hi c _=>Ω);simp;((repeat' first|refine al ?_|simp|((first|apply ct|apply cz|apply cy)<;>intro h<;>try simp at h))<;>(try exact c3));all_goals simp[bZ,ba,bf,a6]
  all_goals simp[fA]
 | .num v=>by
  refine bH a1 Tryz.func148 Ff fun j=>?_;unfold A0;simp;refine eZ [1,2,8,9] (fun i (_:Unit)=>[(10,aj i)]) 0 (fun i _=>True) () ca trivial (fun _ c _=>?_) (fun i _ hi c _=>Ω);simp;(repeat' first|refine al ?_|simp);all_goals simp[bZ,ba,bf,a6]
  all_goals simp[fA]
 | .var v=>by
  refine bH a1 Tryz.func148 Ff fun j=>?_;unfold A0;simp;refine eZ [1,2,8,9] (fun i (_:Unit)=>[(10,aj i)]) 0 (fun i _=>True) () ca trivial (fun _ c _=>?_) (fun i _ hi c _=>Ω);simp;(repeat' first|refine al ?_|simp);all_goals simp[bZ,ba,bf,a6]
  all_goals simp[fA]
 | .nil=>by
  refine bH a1 Tryz.func148 Ff fun j=>?_;unfold A0;simp;refine eZ [1,2,8,9] (fun i (_:Unit)=>[(10,aj i)]) 0 (fun i _=>True) () ca trivial (fun _ c _=>?_) (fun i _ hi c _=>Ω);simp;(repeat' first|refine al ?_|simp);all_goals simp[bZ,ba,bf,a6]
  all_goals simp[fA]
def acV(s:List Bd)(n:Int):bU au 80 [bL (s.map Bd.e),aj n] (.bool (s.all (lK n))):=by
 generalize bs:s.all (lK n)=R;refine bH a1 Tryz.func80 apj fun m=>?_;unfold TV;have p:s.length<=68719476736:=by simp[eM,eV,eN,lim]at m;omega
 simp;refine eZ [1,7,8] (fun i (_:Unit)=>[(9,aj i)]) s.length (qN (lK n) s) () ca (fun k b ab=>Ω) (fun _ a _=>?_) (fun i _ hi a _=>?_)
 ·have:R=true:=by rw[<-bs,j4];intro b l;obtain⟨k,ab,e⟩:=pB l;exact a k b ab (by rw[cl ab,e])
  rw[this];exact cp
 ·obtain⟨b,c,o⟩:=eW hi;have f:lK n b=false->R=false:=fun h=>by rw[<-bs,Bool.eq_false_iff];intro g;rw[j4]at g;rw[g b (fu c)]at h;cases h
  have d:=Ay n b.t;by_cases J:b.v<n
  ·have j:¬n<=b.v:=Ω
   cases U:fA n b.t
   ·rw[f (by simp[lK,U])];rw[U]at d;clear a c;exact cp
   ·have q:=a.step c (by simp[lK,J,U]);rw[U]at d;clear a c;exact iU
  ·have j:n<=b.v:=Ω
   rw[f (by simp[lK,J])];clear a c;exact cp
def asE(l:List (List Bt)):bU au 77 [cZ (l.map gz)] (.bool (l.all hz)):=by
 generalize bs:l.all hz=R;refine bH a1 Tryz.func77 apc fun h=>?_;unfold TO;have m:l.length<=68719476736:=by simp[eM,eV,eN,lim]at h;omega
 simp;refine eZ [5,6] (fun i (_:Unit)=>[(7,aj i)]) l.length (qN hz l) () ca (fun k b ab=>Ω) (fun _ c _=>?_) (fun i _ hi c _=>?_)
 ·have:R=true:=by rw[<-bs,j4];intro b a;obtain⟨k,ab,e⟩:=pB a;exact c k b ab (by rw[cl ab,e])
  rw[this];exact cp
 ·obtain⟨b,d,j⟩:=eW hi;have f:bU au 76 [gz b] (.bool (hz b)):=QV b;cases a:hz b
  ·have:R=false:=by rw[<-bs,Bool.eq_false_iff];intro g;rw[j4]at g;rw[g b (fu d)]at a;cases a
   rw[this];rw[a]at f;clear c d;exact cp
  ·have n:=c.step d a;rw[a]at f;clear c d;exact iU
def Uk(a:List (List Bd))(k:Nat)(m:List Bd):mU k (a.map cO)++cO m::oU k (a.map cO)=(a.take k++m::a.drop k).map cO:=Ψ
def sf(a:List (List Bd))(k:Nat)(m:List Bd):cf (mU k (a.map cO)++cO m::oU k (a.map cO))=mU k (a.map cO)++cO m::oU k (a.map cO):=by rw[Uk,Qt]
def se(S:aB->Prop)(a:List (List Bd))(k:Nat)(m:List Bd):aH S (mU k (a.map cO)++cO m::oU k (a.map cO))=True:=by rw[Uk,X2]
def Uj(a:List (List Bd))(m:List Bd):a.map cO++[cO m]=(a++[m]).map cO:=Ψ
def sd(a:List (List Bd))(m:List Bd):cf (a.map cO++[cO m])=a.map cO++[cO m]:=by rw[Uj,Qt]
def sc(S:aB->Prop)(a:List (List Bd))(m:List Bd):aH S (a.map cO++[cO m])=True:=by rw[Uj,X2]
def acS(L:List (List Bd))(K:∀d∈L,fm d):bU au 154 [cZ (L.map cO)] (cZ ((lW L).map cO)):=by
 generalize bs:lW L=R;rw[amS]at bs;refine bH a1 Tryz.func154 apf fun U=>?_;unfold TR;have W:L.length<=68719476736:=by simp[eM,eV,eN,lim]at U;omega
 simp;refine eZ [0,12,13] (fun i (a:List (List Bd))=>[(3,cZ (a.map cO)),(14,aj i)]) L.length (zK L) [] ca (by simp[zK]) (fun a m _=>?_) (fun i a hi m _=>?_)
 ·rw[zK,jz,bs]at m;subst m;exact cp
 ·obtain⟨e,he,N⟩:=eW hi;have z:iN fa a:=by rw[m];exact OE _ (by simp[iN])
  have V:a.length<=i:=by have:=YM (L:=L) (L.take i) [];rw[m];simp at this⊢;omega
  have g:=m.step he;have P:=K e (fu he);have l:∀d,bU au 155 [cO d,cO e] (aj (fa d e)):=fun d=>QR d e;clear m he;simp[hi,N];(repeat' first|refine al ?_|simp[hi,N]);refine eZ [0,3,5,12,13,14,18,19] (fun j (b:Bool)=>[(6,.bool b),(20,aj j)]) L.length (ry L e) true ca (by simp[ry]) (fun keep m _=>?_) (fun j keep t m _=>?_)
  ·rw[ry,jz]at m;have M:keep=jO L e:=m;rw[rG,<-M]at g;clear m M;simp;(repeat' first|refine al ?_|simp);refine xi [0,3,5,6,12,13,14] (fun(k:Nat)=>[(9,aj k)]) (fun k=>k) (Ig a e) a.length ca ⟨Ω,fun c h=>by simp at h⟩ (fun k m _=>?_);have ab:=m.1;rcases Nat.eq_zero_or_pos k with Y|s
   ·have F:decide ((0:Int)<k)=false:=by simp;omega
    have A:¬(0:Int)<k:=Ω
    have f:=m.fin z fun d h=>Ω
    clear m z;cases keep with
    |false=>simp only[hQ,if_false]at g;clear f;exact iU
    |true=>
     simp only[if_true]at g;by_cases n:k<a.length
     ·obtain⟨c,ax,x⟩:=eW n;rw[ax]at f;by_cases q:fa c e=0
      ·rw[if_pos (by simp[q])]at f;rw[f]at g;clear f ax;simp[n,x,F,A];((repeat' first|refine al ?_|refine aO (l _) ?_|refine aP (l _) ?_|simp[n,x,q,F,A]|((first|apply ct|apply cz|apply cy)<;>intro h<;>try simp at h))<;>(try exact c3));all_goals exact bY.rng a hi g ca
      ·rw[if_neg (by simp[q])]at f;have B:(fa c e !=0)=true:=by simp[q]
       rw[f]at g;clear f ax;simp[n,x,F,A];((repeat' first|refine al ?_|refine aO (l _) ?_|refine aP (l _) ?_|simp[n,x,q,B,F,A]|((first|apply ct|apply cz|apply cy)<;>intro h<;>try simp at h))<;>(try exact c3));all_goals try refine⟨by unfold lim;omega,?_⟩
       all_goals(repeat' first|refine al ?_|simp)
       all_goals try refine⟨by unfold lim;omega,?_⟩
       all_goals((repeat' first|refine al ?_|simp|((first|apply ct|apply cz|apply cy)<;>intro h<;>try simp at h))<;>(try exact c3))
       all_goals exact bY.rng _ hi g ⟨by simp[fresh,aH,az,cc,aM,ae,iu,sf,se,sd,sc],eo (by simp[fresh,aH,az,cc,aM,ae,iu,sf,se,sd,sc]),ep (by simp[fresh,aH,az,dV,aM,ae,iu,sf,se,sd,sc]),Ψ⟩
     ·rw[q4 Ω]at f;simp only[hQ,if_false]at f;rw[f]at g;have H:k=a.length:=Ω
      have G:a.take k++e::a.drop k=a++[e]:=by rw[H];simp
      rw[G]at g;clear f G;simp[n,F,A];((repeat' first|refine al ?_|refine aO (l _) ?_|refine aP (l _) ?_|simp[n,H,F,A]|((first|apply ct|apply cz|apply cy)<;>intro h<;>try simp at h))<;>(try exact c3));all_goals try refine⟨by unfold lim;omega,?_⟩
      all_goals(repeat' first|refine al ?_|simp)
      all_goals try refine⟨by unfold lim;omega,?_⟩
      all_goals((repeat' first|refine al ?_|simp|((first|apply ct|apply cz|apply cy)<;>intro h<;>try simp at h))<;>(try exact c3))
      all_goals exact bY.rng _ hi g ⟨by simp[fresh,aH,az,cc,aM,ae,iu,sf,se,sd,sc],eo (by simp[fresh,aH,az,cc,aM,ae,iu,sf,se,sd,sc]),ep (by simp[fresh,aH,az,dV,aM,ae,iu,sf,se,sd,sc]),Ψ⟩
   ·obtain⟨d,v⟩:∃d,a[k-1]? =some d:=⟨_,cl Ω⟩;have u:((k:Int)-1).toNat=k-1:=Ω
    have w:∀h,(a[k-1]'h)=d:=fun h=>by rw[cl h]at v;exact e8 v
    have r:(0:Int)<k:=Ω
    have p:k-1<a.length:=Ω
    by_cases o:0<=fa d e
    ·have S:Ig a e (k-1):=⟨Ω,fun c ax=>by rw[v]at ax;cases ax;exact o⟩;clear m z g v;simp[s,r,u,w,o,p];((repeat' first|refine al ?_|refine aO (l _) ?_|refine aP (l _) ?_|simp[s,r,u,w,o,p]|((first|apply ct|apply cz|apply cy)<;>intro h<;>try simp at h))<;>(try exact c3));refine bY.whl (k-1) Ω S ?_;have Q:((k-1:Nat):Int)=(k:Int)-1:=Ω
     simp[Q];exact ca
    ·have f:=m.fin z fun X _ J=>by rw[v]at J;cases J;omega
     clear m z v;cases keep with
     |false=>simp only[hQ,if_false]at g;clear f;simp[s,r,u,w,o,p];(repeat' first|refine al ?_|refine aO (l _) ?_|refine aP (l _) ?_|simp[s,r,u,w,o,p]);all_goals exact bY.rng a hi g ca
     |true=>
      simp only[if_true]at g;by_cases n:k<a.length
      ·obtain⟨c,ax,x⟩:=eW n;rw[ax]at f;by_cases q:fa c e=0
       ·rw[if_pos (by simp[q])]at f;rw[f]at g;clear f ax;simp[n,x,s,r,u,w,o,p];((repeat' first|refine al ?_|refine aO (l _) ?_|refine aP (l _) ?_|simp[n,x,q,s,r,u,w,o,p]|((first|apply ct|apply cz|apply cy)<;>intro h<;>try simp at h))<;>(try exact c3));all_goals exact bY.rng a hi g ca
       ·rw[if_neg (by simp[q])]at f;have B:(fa c e !=0)=true:=by simp[q]
        rw[f]at g;clear f ax;simp[n,x,s,r,u,w,o,p];((repeat' first|refine al ?_|refine aO (l _) ?_|refine aP (l _) ?_|simp[n,x,q,B,s,r,u,w,o,p]|((first|apply ct|apply cz|apply cy)<;>intro h<;>try simp at h))<;>(try exact c3));all_goals try refine⟨by unfold lim;omega,?_⟩
        all_goals(repeat' first|refine al ?_|simp)
        all_goals try refine⟨by unfold lim;omega,?_⟩
        all_goals((repeat' first|refine al ?_|simp|((first|apply ct|apply cz|apply cy)<;>intro h<;>try simp at h))<;>(try exact c3))
        all_goals exact bY.rng _ hi g ⟨by simp[fresh,aH,az,cc,aM,ae,iu,sf,se,sd,sc],eo (by simp[fresh,aH,az,cc,aM,ae,iu,sf,se,sd,sc]),ep (by simp[fresh,aH,az,dV,aM,ae,iu,sf,se,sd,sc]),Ψ⟩
      ·rw[q4 Ω]at f;simp only[hQ,if_false]at f;rw[f]at g;have H:k=a.length:=Ω
       have G:a.take k++e::a.drop k=a++[e]:=by rw[H];simp
       rw[G]at g;clear f G;simp[n,s,r,u,w,o,p];((repeat' first|refine al ?_|refine aO (l _) ?_|refine aP (l _) ?_|simp[n,H,s,r,u,w,o,p]|((first|apply ct|apply cz|apply cy)<;>intro h<;>try simp at h))<;>(try exact c3));all_goals try refine⟨by unfold lim;omega,?_⟩
       all_goals(repeat' first|refine al ?_|simp)
       all_goals try refine⟨by unfold lim;omega,?_⟩
       all_goals(repeat' first|refine al ?_|simp)
       all_goals exact bY.rng _ hi g ⟨by simp[fresh,aH,az,cc,aM,ae,iu,sf,se,sd,sc],eo (by simp[fresh,aH,az,cc,aM,ae,iu,sf,se,sd,sc]),ep (by simp[fresh,aH,az,dV,aM,ae,iu,sf,se,sd,sc]),Ψ⟩
  ·obtain⟨d,v,hdi⟩:=eW t;have y:=m.step v;have O:=K d (fu v);have E:bU au 203 [cO d,cO e] (.bool (oK d e)):=ar0 O P;clear m v g z;cases keep with
   |false=>simp only[Bool.false_and]at y;exact iU
   |true=>
    simp only[Bool.true_and,x0]at y;by_cases q:fa d e=0
    ·rw[l6 ((mN.zero _ _).1 q),Bool.true_or]at y;simp[t,hdi];(repeat' first|refine al ?_|refine aO (l _) ?_|refine aP (l _) ?_|simp[t,hdi,q]);all_goals exact bY.rng true t y ca
    ·rw[mX (fun h=>q ((mN.zero _ _).2 h)),Bool.false_or]at y;have B:(fa d e==0)=false:=by simp[q]
     cases be:oK d e
     ·rw[be]at y E;simp[t,hdi];(repeat' first|refine al ?_|refine aO (l _) ?_|refine aP (l _) ?_|refine aO E ?_|refine aP E ?_|simp[t,hdi,q,B]);all_goals exact bY.rng true t y ca
     ·rw[be]at y E;simp[t,hdi];(repeat' first|refine al ?_|refine aO (l _) ?_|refine aP (l _) ?_|refine aO E ?_|refine aP E ?_|simp[t,hdi,q,B]);all_goals exact bY.rng false t y ca
def _root_.Go.Pv.Bd.k(b:Bd)(κ:Nat):af:= .agg [aj b.v,aj b.t.kind,aj b.t.int,.str b.t.name,.slice 4 (.tr (.loc κ) 0) (b.t.args.map T.e)]
def Io:nJ Bd.k Bd.e:=⟨fun x n=>rfl,fun x n=>⟨trivial,trivial,trivial,trivial,Cm n,trivial⟩,fun x n=>by simp[Bd.k,b7],fun S x n h=>by simp[Bd.k,az,aH,h]⟩
@[simp]def aue(t:T)(n:Nat):cells (t.k n)=[aj t.kind,aj t.int,.str t.name,.slice 4 (.tr (.loc n) 0) (t.args.map T.e)]:=rfl
@[simp]def axx(t:T)(n:Nat):eT (t.k n)=true:=rfl
def OV(t:List Bd)(k:t.length<=1000000):gf au 168 [bL (t.map Bd.e)] fun κ=>.slice 5 (.tr (.loc κ) 0) (t.map Bd.e):=by
 refine gf.mk mixed a1 Tryz.func168 Zm Ψ fun j κ=>?_;unfold K7;simp;refine fT (fun i (x:Nat×List (Bd×Nat))=>⟨[(7,bL (t.map Bd.e)),(8,aj t.length),(3,.slice 5 (.own (.loc 0)) (j0 Bd.k x.2)),(9,aj i)],[],[(.loc 0,⟨x.2.length,113,5,none⟩)],x.1,[]⟩) t.length (fun i x=>1<=x.1/\q8 x.1 x.2/\x.2.map (·.1)=t.take i) (1,[]) ca ⟨Ω,.nil _,Ψ⟩ (fun x c _=>?_) (fun i x hi c _=>?_)
 ·obtain⟨n,out⟩:=x;obtain⟨J,U,a⟩:=c;simp only[jz]at J U a;simp;(repeat' first|refine al ?_|simp);(refine ih.val Ψ ?_;simp[ba,bf,a6,ff,hy,eD,gX,eg,gO,tnL,tn,fs,gb,fold,hJ,hI,iO,ae,ef,cf,b7,Io.okL,Io.nodup U,Io.stL,a])
 ·obtain⟨n,out⟩:=x;obtain⟨J,U,a⟩:=c;simp only at J U a;obtain⟨b,g,f⟩:=eW hi;have h:out.length<=1000000:=by have:=fy List.length a;simp at this;omega
  simp[hi,f];(refine hH.own Ψ (anh b.t) (by simp[qx,ae]<;>omega) ?_;simp);(repeat' first|refine al ?_|simp);have e:=U.snoc b (show n<=n+1+18 by omega) (show n+1+18<n+1+24 by omega);have d:=Io.kin e (dP _) [];simp[fresh]at d;refine bY.rng (n+1+24,out++[(b,n+1+18)]) hi ?_ ?_
  ·exact⟨Ψ,e,by rw[nH g,<-a];simp⟩
  simp;exact⟨by simp[fresh,aH,az,cc,aM,ae];exact⟨rfl,d⟩,eo (by simp[fresh,aH,az,cc,aM,ae]),ep (by simp[fresh,aH,az,cc,aM,ae,dV]),Ψ⟩
def mK.fst{s:List (List Bd)}{t:List Bd}{acc:List (List Bd)}(h:mK s 0 acc)(a:s[0]? =some t):mK s 1 (if jO s t=true then acc++[t]else acc):=by
 unfold mK at*;rw[u5 a]at h;have e:(if(1:Nat)=0 then none else s[1-1]?)=some t:=by simpa using a
 have b:acc++(t::cV (some t) (s.drop 1)).filter (jO s)=(cV none s).filter (jO s):=by rw[<-h];simp[cV]
 rw[e,<-b];by_cases ab:jO s t=true<;>simp[ab]
def mK.eq{s:List (List Bd)}{i:Nat}{t:List Bd}{acc:List (List Bd)}(h:mK s i acc)(hi:i≠0)(b:s[i-1]? =some t)(a:s[i]? =some t):mK s (i+1) acc:=by
 unfold mK at*;rw[if_neg hi,b,u5 a]at h;have e:(if i+1=0 then none else s[i+1-1]?)=some t:=by rw[if_neg Ω];exact a
 rw[e,<-h];simp[cV]
def mK.ne{s:List (List Bd)}{i:Nat}{p t:List Bd}{acc:List (List Bd)}(h:mK s i acc)(hi:i≠0)(b:s[i-1]? =some p)(a:s[i]? =some t)(d:¬p=t):mK s (i+1) (if jO s t=true then acc++[t]else acc):=by
 unfold mK at*;rw[if_neg hi,b,u5 a]at h;have e:(if i+1=0 then none else s[i+1-1]?)=some t:=by rw[if_neg Ω];exact a
 have c:cV (some p) (t::s.drop (i+1))=t::cV (some t) (s.drop (i+1)):=by simp[cV,d]
 rw[c]at h;rw[e,<-h];by_cases ab:jO s t=true<;>simp[ab]
def arl(l:List (List Bd)):(qc fa l).length=l.length:=(Au fa l).length_eq
def al4(S:aB->Prop)(l:List (List Bd))(d:List Bd):aH S (l.map cO++[cO d])=True:=by have:=N5 S (l++[d]);rw[List.map_append]at this;exact h1 this
def GX(d:List Bd)(κ:Nat):af:= .slice 5 (.tr (.loc κ) 0) (d.map Bd.e)
def BX:nJ GX cO:=⟨fun x n=>rfl,fun x n=>Cm n,fun x n=>by simp[GX,cO,b7],fun S x n h=>by simp[GX,az,h]⟩
def fin{s:List (List Bd)}{i:Nat}{out:List (List Bd×Nat)}{A:List (List Bd)}(e:out.map (·.1)=A)(h:A.length<=i+1/\mK s (i+1) A):out.length<=i+1/\mK s (i+1) (out.map (·.1)):=by subst e;simpa using h
def ang(l:List (List Bd))(X:∀d∈l,fm d):gf au 167 [cZ (l.map cO)] fun κ=>.slice 1 (.tr (.loc κ) 0) ((lW l).map cO):=by
 generalize bs:lW l=R;rw[amR]at bs;refine gf.mk mixed a1 Tryz.func167 anw Ψ fun aR κ=>?_;unfold R4;have fq:l.length<=68719476736:=by simp[eM,eV,eN,lim]at aR;omega
 simp;refine eZ [0,12,13] (fun i (_:Unit)=>[(14,aj i)]) l.length (fun _ _=>True) () ca trivial (fun _ _ _=>?_) (fun i _ hi _ _=>?_);rotate_left
 ·obtain⟨e,he,MQ⟩:=eW hi;have fj:bU au 86 [cO e] (.bool true):=q2 (X e (fu he));exact iU
 simp;(repeat' first|refine al ?_|simp);all_goals try refine⟨by unfold lim;omega,?_⟩
 all_goals(repeat' first|refine al ?_|simp)
 refine CallDo.ob (ajq l fq) (Kz l) (by unfold vE eB;exact aX) (by unfold vE eB;exact aX) (by simp[aM,eB,ae]) ?_;rintro r ak ⟨rfl,rfl⟩;refine⟨yQ _ _,?_⟩;obtain⟨s,E⟩:∃s,s=qc fa l:=⟨_,rfl⟩;have qG:s.length=l.length:=by rw[E];exact arl l
 have Q:∀d∈s,fm d:=fun d v=>X d (by rw[E,abP]at v;exact v);rw[<-E]at bs;rw[<-E];clear E;simp[vE,eB,cK];refine fT (fun i (x:Nat×List (List Bd×Nat))=>⟨[(5,.ptr (.obj 822) 0),(6,.slice 1 (.own (.loc 0)) (j0 GX x.2)),(30,.row 1 (.obj 821) s.length),(31,aj s.length),(32,aj i)],[(.obj 822,[.row 1 (.obj 821) s.length])],[(.loc 0,⟨x.2.length,46,1,none⟩),(.obj 821,⟨s.length,46,1,some (s.map cO)⟩)],x.1,[.obj 821,.obj 822]⟩) s.length (fun i x=>1<=x.1/\q8 x.1 x.2/\(x.2.map (·.1)).length<=i/\mK s i (x.2.map (·.1))) (1,[]) ca ⟨dP _,.nil _,Ψ,by simp[mK]⟩ (fun x f _=>?_) (fun i x hi f _=>?_)
 ·obtain⟨n,out⟩:=x;obtain⟨J,U,_,f⟩:=f;simp only at J U f;rw[mK,List.drop_length]at f;have aq:out.map (·.1)=R:=by rw[<-bs];simpa[cV]using f
  simp;(repeat' first|refine al ?_|simp);(refine ih.val Ψ ?_;simp[ba,bf,a6,ff,hy,eD,gX,eg,gO,tnL,tn,fs,gb,fold,hJ,hI,iO,ae,ef,cf,b7,BX.okL,BX.nodup U,BX.stL,aq])
 ·obtain⟨n,out⟩:=x;obtain⟨J,U,S,f⟩:=f;simp only at J U S f;have a:=BX.kin U (dP _) [.obj 821,.obj 822];simp[fresh]at a;have c:¬n=0:=Ω
  have xI:out.length<=68719476735:=by simp at S;omega
  generalize G:out.map (·.1)=acc at S f;have tf:acc.length<=68719476735:=Ω
  obtain⟨t,w,y⟩:=eW hi;have dy:=Q t (fu w);have H:(if jO s t=true then acc++[t]else acc).length<=acc.length+1:=by split<;>simp
  rcases Nat.eq_zero_or_pos i with rfl|W
  ·have Z:=f.fst w;have o:(if jO s t=true then acc++[t]else acc).length<=0+1/\mK s (0+1) (if jO s t=true then acc++[t]else acc):=⟨kC H Ω,Z⟩;clear f Z w;simp[hi,y];(repeat' first|refine al ?_|simp[hi,y]);refine eZ [5,6,8,30,31,32,49,50] (fun j (b:Bool)=>[(9,.bool b),(51,aj j)]) s.length (ry s t) true ⟨by simp[fresh,aH,az,cc,aM,ae,a,c],eo (by simp[fresh,aH,az,cc,aM,ae,a,c]),ep (by simp[fresh,aH,az,dV,aM,ae,a,c]),Ψ⟩ (by simp[ry]) (fun keep f _=>?_) (fun j keep g f _=>?_)
   ·rw[ry,jz,<-XJ]at f;rw[<-f]at o;clear f;cases keep with
    |false=>simp only[hQ,if_false]at o;simp;(repeat' first|refine al ?_|simp);all_goals exact bY.rng (n,out) hi ⟨J,U,fin G o⟩ ⟨by simp[fresh,aH,az,cc,aM,ae,a,c],eo (by simp[fresh,aH,az,cc,aM,ae,a,c]),ep (by simp[fresh,aH,az,dV,aM,ae,a,c]),Ψ⟩
    |true=>
     simp only[if_true]at o;clear H;simp;(repeat' first|refine al ?_|simp);(refine CallDo.own Ψ (OV t dy.len) (by simp[ef]) ?_;simp);all_goals try refine⟨by unfold lim;omega,?_⟩
     all_goals(repeat' first|refine al ?_|simp)
     have B:=U.snoc t (dP n) (show n<n+2 by omega);have F:=BX.kin B (dP _) [.obj 821,.obj 822];simp[fresh]at F;refine bY.rng (n+2,out++[(t,n)]) hi ?_ ?_
     ·exact⟨Ψ,B,fin (by simp[G]) o⟩
     simp;exact⟨by simp[fresh,aH,az,cc,aM,ae];exact⟨rfl,F⟩,eo (by simp[fresh,aH,az,cc,aM,ae]),ep (by simp[fresh,aH,az,cc,aM,ae,dV]),Ψ⟩
   ·obtain⟨d,v,hdi⟩:=eW g;have k:=f.step v;have P:=Q d (fu v);have u:bU au 208 [cO d,cO t] (.bool (oK d t)):=acW d P.len dy;have m:bU au 207 [cO d,cO t] (aj (fa d t)):=Kk d t;clear f v o;by_cases q:fa d t=0
    ·rw[x0,l6 ((mN.zero _ _).1 q),Bool.true_or,Bool.and_true]at k;rw[q]at m;simp[g,hdi];(repeat' first|refine al ?_|refine aO m ?_|refine aP m ?_|simp[g,hdi]);all_goals exact bY.rng keep g k ⟨by simp[fresh,aH,az,cc,aM,ae,a,c],eo (by simp[fresh,aH,az,cc,aM,ae,a,c]),ep (by simp[fresh,aH,az,dV,aM,ae,a,c]),Ψ⟩
    ·rw[x0,mX (fun h=>q ((mN.zero _ _).2 h)),Bool.false_or]at k;have A:(fa d t !=0)=true:=by simp[q]
     cases be:oK d t
     ·rw[be]at k u;simp only[Bool.not_false,Bool.and_true]at k;simp[g,hdi];(repeat' first|refine al ?_|refine aO m ?_|refine aP m ?_|refine aO u ?_|refine aP u ?_|simp[g,hdi,q,A]);all_goals exact bY.rng keep g k ⟨by simp[fresh,aH,az,cc,aM,ae,a,c],eo (by simp[fresh,aH,az,cc,aM,ae,a,c]),ep (by simp[fresh,aH,az,dV,aM,ae,a,c]),Ψ⟩
     ·rw[be]at k u;simp only[Bool.not_true,Bool.and_false]at k;simp[g,hdi];(repeat' first|refine al ?_|refine aO m ?_|refine aP m ?_|refine aO u ?_|refine aP u ?_|simp[g,hdi,q,A]);all_goals exact bY.rng false g k ⟨by simp[fresh,aH,az,cc,aM,ae,a,c],eo (by simp[fresh,aH,az,cc,aM,ae,a,c]),ep (by simp[fresh,aH,az,dV,aM,ae,a,c]),Ψ⟩
  ·obtain⟨p,z⟩:∃p,s[i-1]? =some p:=⟨_,cl Ω⟩;have M:((i:Int)-1).toNat=i-1:=Ω
   have N:∀h,(s[i-1]'h)=p:=fun h=>by rw[cl h]at z;exact e8 z
   have Y:¬i=0:=Ω
   have L:i-1<s.length:=Ω
   have K:(0:Int)<i:=Ω
   have jN:bU au 207 [cO p,cO t] (aj (fa p t)):=Kk p t;by_cases O:p=t
   ·have o:acc.length<=i+1/\mK s (i+1) acc:=⟨Ω,f.eq Y (by rw[z,O]) w⟩;rw[(mN.zero _ _).2 O]at jN;clear f w z;simp[hi,y,M,N,L,K];(repeat' first|refine al ?_|refine aO jN ?_|refine aP jN ?_|simp[hi,y,M,N,L,W,K]);all_goals exact bY.rng (n,out) hi ⟨J,U,fin G o⟩ ⟨by simp[fresh,aH,az,cc,aM,ae,a,c],eo (by simp[fresh,aH,az,cc,aM,ae,a,c]),ep (by simp[fresh,aH,az,dV,aM,ae,a,c]),Ψ⟩
   ·have o:(if jO s t=true then acc++[t]else acc).length<=i+1/\mK s (i+1) (if jO s t=true then acc++[t]else acc):=⟨kC H Ω,f.ne Y z w O⟩;have V:¬fa p t=0:=fun h=>O ((mN.zero _ _).1 h);have Z0:(fa p t==0)=false:=by simp[V]
    clear f w z;simp[hi,y,M,N,L,K];(repeat' first|refine al ?_|refine aO jN ?_|refine aP jN ?_|simp[hi,y,M,N,L,W,K,V,Z0]);refine eZ [5,6,8,30,31,32,49,50] (fun j (b:Bool)=>[(9,.bool b),(51,aj j)]) s.length (ry s t) true ⟨by simp[fresh,aH,az,cc,aM,ae,a,c],eo (by simp[fresh,aH,az,cc,aM,ae,a,c]),ep (by simp[fresh,aH,az,dV,aM,ae,a,c]),Ψ⟩ (by simp[ry]) (fun keep f _=>?_) (fun j keep g f _=>?_)
    ·rw[ry,jz,<-XJ]at f;rw[<-f]at o;clear f;cases keep with
     |false=>simp only[hQ,if_false]at o;simp;(repeat' first|refine al ?_|simp);all_goals exact bY.rng (n,out) hi ⟨J,U,fin G o⟩ ⟨by simp[fresh,aH,az,cc,aM,ae,a,c],eo (by simp[fresh,aH,az,cc,aM,ae,a,c]),ep (by simp[fresh,aH,az,dV,aM,ae,a,c]),Ψ⟩
     |true=>
      simp only[if_true]at o;clear H;simp;(repeat' first|refine al ?_|simp);(refine CallDo.own Ψ (OV t dy.len) (by simp[ef]) ?_;simp);all_goals try refine⟨by unfold lim;omega,?_⟩
      all_goals(repeat' first|refine al ?_|simp)
      have B:=U.snoc t (dP n) (show n<n+2 by omega);have F:=BX.kin B (dP _) [.obj 821,.obj 822];simp[fresh]at F;refine bY.rng (n+2,out++[(t,n)]) hi ?_ ?_
      ·exact⟨Ψ,B,fin (by simp[G]) o⟩
      simp;exact⟨by simp[fresh,aH,az,cc,aM,ae];exact⟨rfl,F⟩,eo (by simp[fresh,aH,az,cc,aM,ae]),ep (by simp[fresh,aH,az,cc,aM,ae,dV]),Ψ⟩
    ·obtain⟨d,v,hdi⟩:=eW g;have k:=f.step v;have P:=Q d (fu v);have u:bU au 208 [cO d,cO t] (.bool (oK d t)):=acW d P.len dy;have m:bU au 207 [cO d,cO t] (aj (fa d t)):=Kk d t;clear f v o;by_cases q:fa d t=0
     ·rw[x0,l6 ((mN.zero _ _).1 q),Bool.true_or,Bool.and_true]at k;rw[q]at m;simp[g,hdi];(repeat' first|refine al ?_|refine aO m ?_|refine aP m ?_|simp[g,hdi]);all_goals exact bY.rng keep g k ⟨by simp[fresh,aH,az,cc,aM,ae,a,c],eo (by simp[fresh,aH,az,cc,aM,ae,a,c]),ep (by simp[fresh,aH,az,dV,aM,ae,a,c]),Ψ⟩
     ·rw[x0,mX (fun h=>q ((mN.zero _ _).2 h)),Bool.false_or]at k;have A:(fa d t !=0)=true:=by simp[q]
      cases be:oK d t
      ·rw[be]at k u;simp only[Bool.not_false,Bool.and_true]at k;simp[g,hdi];(repeat' first|refine al ?_|refine aO m ?_|refine aP m ?_|refine aO u ?_|refine aP u ?_|simp[g,hdi,q,A]);all_goals exact bY.rng keep g k ⟨by simp[fresh,aH,az,cc,aM,ae,a,c],eo (by simp[fresh,aH,az,cc,aM,ae,a,c]),ep (by simp[fresh,aH,az,dV,aM,ae,a,c]),Ψ⟩
      ·rw[be]at k u;simp only[Bool.not_true,Bool.and_false]at k;simp[g,hdi];(repeat' first|refine al ?_|refine aO m ?_|refine aP m ?_|refine aO u ?_|refine aP u ?_|simp[g,hdi,q,A]);all_goals exact bY.rng false g k ⟨by simp[fresh,aH,az,cc,aM,ae,a,c],eo (by simp[fresh,aH,az,cc,aM,ae,a,c]),ep (by simp[fresh,aH,az,dV,aM,ae,a,c]),Ψ⟩
def atc(l:List T)(h:∀t∈l,t.fit=true):bU au 172 [dx (l.map T.e)] (.bool true):=by
 refine bH a1 Tryz.func172 Zo fun b=>?_;unfold K9;have d:l.length<=68719476736:=by simp[eM,eV,eN,lim]at b;omega
 simp;refine eZ [5,6] (fun i (_:Unit)=>[(7,aj i)]) l.length (fun _ _=>True) () ca trivial (fun _ _ _=>?_) (fun i _ hi _ _=>?_)
 ·exact cp
 ·obtain⟨t,a,c⟩:=eW hi;have e:=F2 (h t (fu a));clear a;exact iU
def jD(m:Int):cS:=⟨[(.obj 831,[aj m])],[]⟩
def w3(m:Int):eA (jD m):=by unfold jD;exact eA.of ⟨by intro m;simp[ae],by intro m;simp[ae]⟩ Ψ Ψ
def adG(a b:Int):Same (jD a) (jD b):=Same.keys (by simp[jD]) (by simp[jD])
def aiN(v m b:Int)(h:F6 v m=some b):bG au 204 [aj v,.ptr (.obj 831) 0] (jD m) fun r d=>r= .tuple []/\d=jD b:=by
 unfold F6 at h;split at h;rotate_left
 ·cases h
 rename_i f;cases h;have a:=w3 m;simp only[jD]at a⊢;by_cases hm:m<v+1
 ·rw[sP,if_pos hm];refine bG.mk mixed a1 Tryz.func204 Zk Ψ a.obj fun e c=>?_;unfold K5;simp;(repeat' first|refine al ?_|simp[hm]);(refine c5.at (jD (v+1)) Ψ (by first|exact w3 _|exact w3 ‹_› _) (Same.keys (by simp[jD]) (by simp[jD])) (by simp only[jD,b5,cb];exact aX) (by simp only[jD,b5,cb];exact aX) ?_;simp[dc,ba,bf,a6,aM,ae,jD])
 ·rw[sP,if_neg hm];refine bG.mk mixed a1 Tryz.func204 Zk Ψ a.obj fun e c=>?_;unfold K5;simp;(repeat' first|refine al ?_|simp[hm]);(refine c5.at (jD m) Ψ (by first|exact w3 _|exact w3 ‹_› _) (Same.keys (by simp[jD]) (by simp[jD])) (by simp only[jD,b5,cb];exact aX) (by simp only[jD,b5,cb];exact aX) ?_;simp[dc,ba,bf,a6,aM,ae,jD])
def yC(l:List T):Int:=l.foldl (fun m t=>t.fold sP m) 0
def Ih(l:List T)(i:Nat)(m:Int):Prop:=m=yC (l.take i)
def acC(l:List T)(h:∀t∈l,t.fit=true):bU au 162 [dx (l.map T.e)] (aj (yC l)):=by
 have f:=atc l h;generalize bs:yC l=R;refine bH a1 Tryz.func162 anF fun g=>?_;unfold Sc;have k:l.length<=68719476736:=by simp[eM,eV,eN,lim]at g;omega
 simp;(repeat' first|refine al ?_|refine aO f ?_|refine aP f ?_|simp);refine fT (fun i (m:Int)=>⟨[(3,.ptr (.obj 831) 0),(9,dx (l.map T.e)),(10,aj l.length),(11,aj i)],[(.obj 831,[aj m])],[],0,[.obj 831]⟩) l.length (Ih l) 0 ca rfl (fun m b _=>?_) (fun i m hi b _=>?_)
 ·rw[Ih,jz,bs]at b;subst b;exact cp
 ·obtain⟨t,d,e⟩:=eW hi;have c:t.ok=true:=by have:=h t (fu d);simp only[T.fit,cP]at this;exact this.1
  have j:Ih l (i+1) (t.fold sP m):=by rw[Ih,nH d,yC,List.foldl_append,b];rfl
  have key:=Mo jD w3 adG 204 [.ptr (.obj 831) 0] (fun a=>by simp[jD,aM,ae]) Ψ F6 (fun v a br h=>aiN v a br h) t m _ (QY t m c);clear b d;simp[hi,e];(repeat' first|refine al ?_|simp[e,hi]);(refine CallDo.ob (key) (by first|exact w3 _|exact w3 ‹_› _) (by simp only[jD,b5,cb];exact aX) (by simp only[jD,b5,cb];exact aX) (by simp[aM,ae,jD]) ?_;rintro r n ⟨rfl,rfl⟩;refine⟨(Same.keys (by simp[jD]) (by simp[jD])),?_⟩;simp[cK,jD]);(repeat' first|refine al ?_|simp);refine bY.rng (t.fold sP m) hi j ?_;exact ca
def acD{s:List Bd}(j:fm s){n:Int}(r:0<=n):bU au 89 [bL (s.map Bd.e),aj n] (.bool (s.all (lK n))):=by
 have u:=j.len;generalize bs:s.all (lK n)=R;refine bH a1 Tryz.func89 anG fun w=>?_;unfold Sd;simp;refine eZ [1,7,8] (fun i (_:Unit)=>[(9,aj i)]) s.length (qN (lK n) s) () ca (fun k b ab=>Ω) (fun _ a _=>?_) (fun i _ hi a _=>?_)
 ·have:R=true:=by rw[<-bs,j4];intro b q;obtain⟨k,ab,e⟩:=pB q;exact a k b ab (by rw[cl ab,e])
  rw[this];exact cp
 ·obtain⟨b,c,v⟩:=eW hi;have f:lK n b=false->R=false:=fun h=>by rw[<-bs,Bool.eq_false_iff];intro g;rw[j4]at g;rw[g b (fu c)]at h;cases h
  have d:=acC [b.t] (fun t l=>by simp at l;subst l;exact j.fit b (fu c));have hle:=Ko (n:=n) b.t 0;rw[show yC [b.t]=b.t.fold sP 0 from rfl]at d;simp only[gV,rZ]at d;generalize b.t.fold sP 0=m at d hle;by_cases J:b.v<n
  ·have o:¬n<=b.v:=Ω
   cases U:fA n b.t
   ·have p:n<m:=by rw[U]at hle;simp at hle;omega
    rw[f (by simp[lK,U])];clear a c hle;exact cp
   ·have p:¬n<m:=by rw[U]at hle;simp[r]at hle;omega
    have x:=a.step c (by simp[lK,J,U]);clear a c hle;exact iU
  ·have o:n<=b.v:=Ω
   rw[f (by simp[lK,J])];clear a c hle;exact cp
def w8:C:=(aa [cW 1 0,bz 2 false] (.seq (aa [aF 11 0 1 1,ay 12 1 11,aU 13 .lss 12 0,I 14 13,aw 14 false (aF 15 0 1 1),aw 14 false (ay 16 1 15),aw 14 false (aU 17 .gtr 16 100000),dr 18 14 17,I 19 18,aw 19 false (aF 20 1 1 1),aw 19 false (ay 21 1 20),aw 19 false (cT 22 86 21),aw 19 false (cM 23 22),dr 24 19 23,I 25 24,aw 25 false (aF 26 3 1 1),aw 25 false (ay 27 1 26),aw 25 false (cT 28 87 27),aw 25 false (cM 29 28),dr 30 25 29,I 31 30,aw 31 false (aF 32 4 1 1),aw 31 false (ay 33 1 32),aw 31 false (cT 34 88 33),aw 31 false (cM 35 34),dr 36 31 35,I 37 36,aw 37 false (aF 38 1 1 1),aw 37 false (ay 39 1 38),aw 37 false (aF 40 0 1 1),aw 37 false (ay 41 1 40),aw 37 false (b8 42 89 39 41),aw 37 false (cM 43 42),dr 44 37 43] (aW 44 (aa [bz 2 false] .ret) .skip)) (.seq (aa [aF 45 2 1 1,ay 46 1 45,cw 47 46,bP 48 0] (gw 49 48 47 (.seq (.block 1 (aa [ck 50 1 46 48,ay 51 1 50,I 4 51] (aa [I 52 4,cT 53 86 52,cM 54 53,I 55 54,cg 55 false 56 4,aw 55 false (aF 57 0 1 1),aw 55 false (ay 58 1 57),aw 55 false (b8 59 89 56 58),aw 55 false (cM 60 59),dr 61 55 60] (aW 61 (aa [bz 2 false] .ret) .skip)))) (.region [aU 62 .add 48 1,I 48 62])))) (.seq (aa [aF 63 3 1 1,ay 64 1 63,cw 65 64,bP 66 0] (.block 2 (.loop (aa [bu 67 .lss 66 65] (.seq (aW 67 .skip (.exit 2)) (.seq (.block 3 (aa [ck 68 2 64 66,bg 69 2 68,dt (.alloc 6 none (.agg [.int .i64 0,.int .i64 0])),bV 2 6 69] (aa [aF 70 0 1 6,ay 71 1 70,aF 72 0 1 1,ay 73 1 72,bu 74 .geq 71 73] (aW 74 (aa [bz 2 false] .ret) .skip)))) (.region [aU 75 .add 66 1,I 66 75]))))))) (.seq (aa [aF 76 4 1 1,ay 77 1 76,cw 78 77,bP 79 0] (.block 4 (.loop (aa [bu 80 .lss 79 78] (.seq (aW 80 .skip (.exit 4)) (.seq (.block 5 (aa [ck 81 2 77 79,bg 82 2 81,dt (.alloc 8 none (.agg [.int .i64 0,.str []])),bV 2 8 82] (aa [aF 83 0 1 8,ay 84 1 83,aF 85 0 1 1,ay 86 1 85,bu 87 .geq 84 86] (aW 87 (aa [bz 2 false] .ret) .skip)))) (.region [aU 88 .add 79 1,I 79 88]))))))) (aa [bg 90 5 1,cT 91 90 90,I 89 91,cX 92 0 89,cX 93 1 89,dG 9 im,bV 5 9 92,I 10 93] (aa [I 94 10,I 95 94,aw 95 true (bg 96 5 9),aw 95 true (bg 97 5 1),aw 95 true (b8 98 91 96 97),ei 99 95 98,I 2 99] .ret)))))))
def GH:C:=(aa [cW 1 0,dG 2 im,bz 3 false] (aa [aF 26 1 1 1,ay 27 1 26,aF 28 3 1 1,ay 29 1 28,b8 30 163 27 29,I 25 30,cX 31 0 25,cX 32 1 25,I 4 31,I 5 32] (aa [aF 34 1 1 1,ay 35 1 34,aF 36 4 1 1,ay 37 1 36,b8 38 164 35 37,I 33 38,cX 39 0 33,cX 40 1 33,I 6 39,I 7 40] (.seq (aa [I 41 5,cM 42 41,I 43 42,cg 43 false 44 7,aw 43 false (cM 45 44),dr 46 43 45] (aW 46 (aa [jy 47 im [],bV 5 2 47,bz 3 false] .ret) .skip)) (aa [dt (.mkmap 48 none),I 8 48] (.seq (aa [I 49 4,cw 50 49,bP 51 0] (gw 52 51 50 (.seq (.block 1 (aa [ck 53 2 49 51,bg 54 2 53,dt (.alloc 10 none (.agg [.int .i64 0,.int .i64 0])),bV 2 10 54] (aa [aF 55 1 1 10,ay 56 1 55,aU 57 .eql 56 3] (aW 57 (.region [I 58 8,aF 59 0 1 10,ay 60 1 59,dt (.mput .i (.t 58) (.t 60) (.c (.bool true)))]) .skip)))) (.region [aU 61 .add 51 1,I 51 61])))) (aa [e1 62 2 100 [],I 11 62] (.seq (aa [I 63 6,cw 64 63,bP 65 0] (.block 2 (.loop (aa [bu 66 .lss 65 64] (.seq (aW 66 .skip (.exit 2)) (.seq (.block 3 (aa [ck 67 2 63 65,bg 68 2 67,dt (.alloc 13 none (.agg [.int .i64 0,.str []])),bV 2 13 68] (aa [I 69 8,aF 70 0 1 13,ay 71 1 70,cd 72 (.mget .i (.bool false) false (.t 69) (.t 71)),cM 73 72] (aW 73 (.region [I 74 11,bg 75 2 13,e1 76 2 100 [.t 75],h0 77 2 100 74 76,I 11 77]) .skip)))) (.region [aU 78 .add 65 1,I 65 78]))))))) (aa [e1 79 1 46 [],I 14 79] (.seq (aa [aF 80 2 1 1,ay 81 1 80,cw 82 81,bP 83 0] (.block 4 (.loop (aa [bu 84 .lss 83 82] (.seq (aW 84 .skip (.exit 4)) (.seq (.block 5 (aa [ck 85 1 81 83,ay 86 1 85,I 16 86] (aa [aF 88 1 1 1,ay 89 1 88,I 90 16,b8 91 165 89 90,I 87 91,cX 92 0 87,cX 93 1 87,I 17 92,I 18 93] (.seq (aa [I 94 18,cM 95 94] (aW 95 (.exit 5) .skip)) (aa [I 97 17,I 98 4,b8 99 163 97 98,I 96 99,cX 100 0 96,cX 101 1 96,I 19 100,I 20 101] (aa [I 103 17,I 104 11,b8 105 164 103 104,I 102 105,cX 106 0 102,cX 107 1 102,I 21 106,I 22 107] (.seq (aa [I 108 20,cM 109 108,I 110 109,cg 110 false 111 22,aw 110 false (cM 112 111),dr 113 110 112] (aW 113 (.exit 5) .skip)) (aa [aF 114 1 1 1,ay 115 1 114,I 116 17,b8 117 166 115 116,I 23 117] (.seq (aa [I 118 23,cw 119 118,aU 120 .eql 119 0] (aW 120 (aa [jy 121 im [],bV 5 2 121,bz 3 false] .ret) .skip)) (.region [I 122 14,I 123 23,e1 124 1 46 [.t 123],h0 125 1 46 122 124,I 14 125])))))))))) (.region [aU 126 .add 83 1,I 83 126]))))))) (aa [I 127 14,cT 128 167 127,I 24 128] (.seq (aa [I 129 24,cw 130 129,aU 131 .gtr 130 30] (aW 131 (aa [jy 132 im [],bV 5 2 132,bz 3 false] .ret) .skip)) (.seq (.drawn true 142 [aF 133 0 1 1,ay 134 1 133,aF 135 1 1 1,ay 136 1 135,cT 137 168 136,I 138 24,I 139 4,I 140 11,jy 141 im [(0,1,(.t 134)),(1,1,(.t 137)),(2,1,(.t 138)),(3,1,(.t 139)),(4,1,(.t 140))],bV 5 2 141,bz 3 true]) .ret)))))))))))))
def yY:C:=(aa [cW 2 0,cW 3 1,bz 4 false] (.seq (aa [aF 8 0 1 2,ay 9 1 8,aF 10 0 1 3,ay 11 1 10,bu 12 .neq 9 11,I 13 12,aw 13 false (aF 14 1 1 2),aw 13 false (ay 15 1 14),aw 13 false (aF 16 1 1 3),aw 13 false (ay 17 1 16),aw 13 false (b8 18 169 15 17),aw 13 false (cM 19 18),dr 20 13 19,I 21 20,aw 21 false (aF 22 2 1 2),aw 21 false (ay 23 1 22),aw 21 false (cw 24 23),aw 21 false (aF 25 2 1 3),aw 21 false (ay 26 1 25),aw 21 false (cw 27 26),aw 21 false (bu 28 .neq 24 27),dr 29 21 28,I 30 29,aw 30 false (aF 31 3 1 2),aw 30 false (ay 32 1 31),aw 30 false (cw 33 32),aw 30 false (aF 34 3 1 3),aw 30 false (ay 35 1 34),aw 30 false (cw 36 35),aw 30 false (bu 37 .neq 33 36),dr 38 30 37,I 39 38,aw 39 false (aF 40 4 1 2),aw 39 false (ay 41 1 40),aw 39 false (cw 42 41),aw 39 false (aF 43 4 1 3),aw 39 false (ay 44 1 43),aw 39 false (cw 45 44),aw 39 false (bu 46 .neq 42 45),dr 47 39 46] (aW 47 (aa [bz 4 false] .ret) .skip)) (.seq (aa [aF 48 2 1 2,ay 49 1 48,cw 50 49,bP 51 0] (gw 52 51 50 (.seq (.block 1 (aa [I 53 51,I 5 53] (.seq (.drawn true 103 [aF 54 2 1 2,ay 55 1 54,I 56 5,ck 57 1 55 56,ay 58 1 57,aF 59 2 1 3,ay 60 1 59,I 61 5,ck 62 1 60 61,ay 63 1 62,b8 64 169 58 63,cM 65 64]) (aW 65 (aa [bz 4 false] .ret) .skip)))) (.region [aU 66 .add 51 1,I 51 66])))) (.seq (aa [aF 67 3 1 2,ay 68 1 67,cw 69 68,bP 70 0] (.block 2 (.loop (aa [bu 71 .lss 70 69] (.seq (aW 71 .skip (.exit 2)) (.seq (.block 3 (aa [I 72 70,I 6 72] (.seq (.drawn true 103 [aF 73 3 1 2,ay 74 1 73,I 75 6,ck 76 2 74 75,bg 77 2 76,aF 78 3 1 3,ay 79 1 78,I 80 6,ck 81 2 79 80,bg 82 2 81,cd 83 (.beq true (some [false,false]) (.t 77) (.t 82))]) (aW 83 (aa [bz 4 false] .ret) .skip)))) (.region [aU 84 .add 70 1,I 70 84]))))))) (.seq (aa [aF 85 4 1 2,ay 86 1 85,cw 87 86,bP 88 0] (.block 4 (.loop (aa [bu 89 .lss 88 87] (.seq (aW 89 .skip (.exit 4)) (.seq (.block 5 (aa [I 90 88,I 7 90] (.seq (.drawn true 103 [aF 91 4 1 2,ay 92 1 91,I 93 7,ck 94 2 92 93,bg 95 2 94,aF 96 4 1 3,ay 97 1 96,I 98 7,ck 99 2 97 98,bg 100 2 99,cd 101 (.beq true (some [false,true]) (.t 95) (.t 100))]) (aW 101 (aa [bz 4 false] .ret) .skip)))) (.region [aU 102 .add 88 1,I 88 102]))))))) (aa [bz 4 true] .ret))))))
def zV:b3 aT w8 [.tmp 2] 1 Tryz.f29=true:=bi
def O7:b3 aT GH [.cell 2 true 5,.tmp 3] 1 Tryz.f90=true:=bi
def Cr:b3 aT yY [.tmp 4] 2 Tryz.f91=true:=bi
def dk.e(s:dk):af:= .agg [aj s.n,bL (s.b.map Bd.e),cZ (s.d.map cO),b6 (s.k.map bI.e),b6 (s.m.map bo.e)]
def rO(o:bd dk):af:= .tuple [(o.getD iq).e,.bool o.isSome]
def wv(k:List bI)(i:Nat)(l:List (Int×Bool)):Prop:= ∀v,(dp v l).getD false=(k.take i).any fun x=>x.v==v&&x.k==3
def wv.put{k:List bI}{i:Nat}{l:List (Int×Bool)}(h:wv k i l){x:bI}(b:k[i]? =some x)(a:x.k=3):wv k (i+1) (fB x.v true l):=fun v=>by
 rw[oR,nH b,List.any_append,<-h v];by_cases e:v=x.v
 ·rw[if_pos e];simp[e,a]
 ·rw[if_neg e];have:(x.v==v)=false:=by simp;exact fun h=>e h.symm
  simp[this]
def wv.skip{k:List bI}{i:Nat}{l:List (Int×Bool)}(h:wv k i l){x:bI}(b:k[i]? =some x)(a:¬x.k=3):wv k (i+1) l:=fun v=>by
 rw[nH b,List.any_append,<-h v];have:(x.k==3)=false:=by simp[a]
 simp[this]
def wv.fin{k:List bI}{l:List (Int×Bool)}(h:wv k k.length l)(ab:jN k)(x:bo):(dp x.v l).getD false= !lx k x:=by rw[h x.v,jz,adW ab.asc,lx,bne,Bool.not_not]
def uY(k:List bI)(m:List bo)(i:Nat)(a:List bo):Prop:=a=(m.take i).filter (lx k)
def uY.step{k:List bI}{m:List bo}{i:Nat}{a:List bo}(h:uY k m i a){x:bo}(b:m[i]? =some x):uY k m (i+1) (if lx k x=true then a++[x]else a):=by
 rw[uY,nH b,List.filter_append,<-h];by_cases e:lx k x=true
 ·rw[if_pos e];simp[e]
 ·rw[if_neg e];simp[e]
def B1(S:aB->Prop)(l:List bo)(d:bo):aH S (l.map bo.e++[d.e])=True:=by have:=N4 S (l++[d]);rw[List.map_append]at this;exact h1 this
def Yv{k:List bI}{m:List bo}(h:iT m):iT (m.filter (lx k)):=⟨fun x a=>h.at' x (oV.1 a).1,adq _ h.asc⟩
def QE{G:List (List cU)}{k:List bI}{m:List bo}(h:oQ G m):oQ G (m.filter (lx k)):=fun x a=>h x (oV.1 a).1
def rz.skip{b:List Bd}{k:List bI}{m:List bo}{aY:List (List Bd)}{i:Nat}{a:List (List Bd)}(h:rz b k m aY i a){d:List Bd}(c:aY[i]? =some d)(he:∀r,hM b k m (d::r)=hM b k m r):rz b k m aY (i+1) a:=⟨by have:=h.1;omega,h.2.1,by rw[<-h.2.2,u5 c,he]⟩
def rz.snoc{b:List Bd}{k:List bI}{m:List bo}{aY:List (List Bd)}{i:Nat}{a:List (List Bd)}(h:rz b k m aY i a){d x:List Bd}(f:aY[i]? =some d)(e:fm x)(he:∀r,hM b k m (d::r)=(hM b k m r).map (x:: ·)):rz b k m aY (i+1) (a++[x]):=
 ⟨by have:=h.1;simp;omega,fun y c=>by
  rcases kc.1 c with c|c
  ·exact h.2.1 y c
  ·simp at c;subst c;exact e,by
  rw[<-h.2.2,u5 f,he,Option.map_map];congr 1;funext r;simp⟩
def rz.stop{b:List Bd}{k:List bI}{m:List bo}{aY:List (List Bd)}{i:Nat}{a:List (List Bd)}(h:rz b k m aY i a){d:List Bd}(c:aY[i]? =some d)(he:∀r,hM b k m (d::r)=none):hM b k m aY=none:=by rw[<-h.2.2,u5 c,he];rfl
def rz.fin{b:List Bd}{k:List bI}{m:List bo}{aY:List (List Bd)}{a:List (List Bd)}(h:rz b k m aY aY.length a):hM b k m aY=some a:=by rw[<-h.2.2,List.drop_length];simp[hM]
def u2(S:aB->Prop)(l:List (List Bd))(d:List Bd):aH S (l.map cO++[bL (d.map Bd.e)])=True:=al4 S l d
def DC{d:List Bd}(a:fm d):∀e∈iH d,e.1.ok=true/\e.2.ok=true:=fun e he=>by obtain⟨c,ax,rfl⟩:=hb.1 he;have:=a.ok c ax;exact⟨by simpa[T.ok]using this.1,this.2⟩
@[simp]def awU(l:List bo):gb (l.map bo.e)=True:=h1 (E6 (f:=bo.e) (fun _=>⟨trivial,trivial,trivial⟩) l)
@[simp]def ax6(l:List bo):tnL (l.map bo.e)=[]:=Kb (f:=bo.e) (fun _=>rfl) l
def dk.kk(s:dk)(κ:Nat):af:= .agg [aj s.n,.slice 5 (.tr (.loc κ) 0) (s.b.map Bd.e),.slice 1 (.tr (.loc κ) 1) (s.d.map cO),.slice 2 (.tr (.loc κ) 2) (s.k.map bI.e),.slice 2 (.tr (.loc κ) 3) (s.m.map bo.e)]
def qW(o:bd dk)(κ:Nat):af:= .tuple [(o.getD iq).kk κ,.bool o.isSome]
def aqE:oa none=fun κ=>.tuple [.slice 2 (.tr (.loc κ) 0) [],.bool false]:=rfl
def abp(k:List bI):oa (some k)=fun κ=>.tuple [.slice 2 (.tr (.loc κ) 0) (k.map bI.e),.bool true]:=rfl
def Y8{s:dk}(h:rP s){G:List (List cU)}(kE:G.length<=687000)(be:oQ G s.m):gf au 90 [s.e] (qW (kx s)):=by
 generalize f:kx s=O;have w:=Y7 h.b h.k;have u:=acB h.b h.m kE be;have kk:=fun k=>Jw (acc:=[]) (a:=k) h.b h.k.at' ⟨Ψ,Ψ⟩;have E:=fun m=>Jx (acc:=[]) (a:=m) h.b h.m.at' ⟨Ψ,by simp[iN]⟩;have F:=fun m=>Jy (acc:=[]) (a:=m) (s:=s.b) be (fun x g=>by simp at g);have K:=h.b;have aK:=h.d;clear h be;unfold kx at f;obtain⟨n,b,d,Q,m0⟩:=s;simp only at w u kk E F K aK f;have gg:=K.len;simp only[dk.e];generalize gS b Q []=ok at w f kk;generalize gZ b m0 []=om at u f E F;cases ok with
 |none=>
  simp only at f;subst f;simp only[aqE]at w;simp only[j2]at u;clear kk E F;refine gf.mk mixed a1 Tryz.func90 O7 Ψ fun aR κ=>?_;unfold GH;simp;(repeat' first|refine al ?_|simp);(refine CallDo.own Ψ (w) (by simp[ef]) ?_;simp);(repeat' first|refine al ?_|refine aO u ?_|refine aP u ?_|simp);all_goals(refine ih.val Ψ ?_;simp[ba,bf,a6,ff,hy,eD,gX,eg,gO,tnL,tn,fs,gb,fold,hJ,hI,iO,ae,ef,cf,b7])
  all_goals simp[qW,iq,dk.kk]
 |some k=>
  simp only at f;cases om with
  |none=>
   simp only at f;subst f;simp only[abp]at w;simp only[j2]at u;clear kk E F;refine gf.mk mixed a1 Tryz.func90 O7 Ψ fun aR κ=>?_;unfold GH;simp;(repeat' first|refine al ?_|simp);(refine CallDo.own Ψ (w) (by simp[ef]) ?_;simp);(repeat' first|refine al ?_|refine aO u ?_|refine aP u ?_|simp);all_goals(refine ih.val Ψ ?_;simp[ba,bf,a6,ff,hy,eD,gX,eg,gO,tnL,tn,fs,gb,fold,hJ,hI,iO,ae,ef,cf,b7])
   all_goals simp[qW,iq,dk.kk]
  |some m=>
   simp only at f;have W:=kk k rfl;have U:=E m rfl;have V:=F m rfl;have jv:=tH W;have nT:m.length<=68719470000:=by have:=EU U V;omega
   have BE:=Yv (k:=k) U;have By:=QE (k:=k) V;have akF:(m.filter (lx k)).length<=68719470000:=kC (List.length_filter_le _ _) nT;simp only[abp]at w;simp only[j2,mr,uk]at u;clear kk E F;refine gf.mk mixed a1 Tryz.func90 O7 Ψ fun aR κ=>?_;unfold GH;have MO:d.length<=68719476736:=by simp[eM,eV,eN,lim]at aR;omega
   simp;(repeat' first|refine al ?_|simp);(refine CallDo.own Ψ (w) (by simp[ef]) ?_;simp);(repeat' first|refine al ?_|refine aO u ?_|refine aP u ?_|simp);refine fT (fun i (l:List (Int×Bool))=>⟨[(1,.ptr (.loc 0) 0),(2,.ptr (.loc 1) 0),(4,.slice 2 (.tr (.loc 2) 0) (k.map bI.e)),(6,b6 (m.map bo.e)),(8,.gmap (.loc 3)),(49,.slice 2 (.tr (.loc 2) 0) (k.map bI.e)),(50,aj k.length),(51,aj i)],[(.loc 0,[aj n,bL (b.map Bd.e),cZ (d.map cO),b6 (Q.map bI.e),b6 (m0.map bo.e)]),(.loc 1,[aj 0,.slice 5 .nil [],.slice 1 .nil [],.slice 2 .nil [],.slice 2 .nil []]),(.loc 3,rE l)],[],4,[]⟩) k.length (wv k) [] ⟨by simp[fresh,aH,az,cc,aM,ae,Ol],eo (by simp[fresh,aH,az,cc,aM,ae,Ol]),ep (by simp[fresh,aH,az,dV,aM,ae,Ol]),Ψ⟩ (fun v=>by simp[dp]) (fun l c _=>?_) (fun i l hi c _=>?_);rotate_left
   ·obtain⟨x,g,o⟩:=eW hi;by_cases Z:x.k=3
    ·have j:=c.put g Z;clear c g;exact iU
    ·have j:=c.skip g Z;have uK:(x.k==3)=false:=by simp[Z]
     clear c g;exact iU
   have hints:=c.fin W;clear c;simp;(repeat' first|refine al ?_|simp);refine fT (fun i (a:List bo)=>⟨[(1,.ptr (.loc 0) 0),(2,.ptr (.loc 1) 0),(4,.slice 2 (.tr (.loc 2) 0) (k.map bI.e)),(8,.gmap (.loc 3)),(11,.slice 2 (.own (.loc 4)) (a.map bo.e)),(63,b6 (m.map bo.e)),(64,aj m.length),(65,aj i)],[(.loc 0,[aj n,bL (b.map Bd.e),cZ (d.map cO),b6 (Q.map bI.e),b6 (m0.map bo.e)]),(.loc 1,[aj 0,.slice 5 .nil [],.slice 1 .nil [],.slice 2 .nil [],.slice 2 .nil []]),(.loc 3,rE l)],[(.loc 4,⟨a.length,100,2,none⟩)],5,[]⟩) m.length (uY k m) [] ca (by simp[uY]) (fun a c _=>?_) (fun i a hi c _=>?_);rotate_left
   ·obtain⟨x,g,o⟩:=eW hi;have tf:a.length<=68719470000:=by
     have:a.length<=(m.take i).length:=by rw[c];exact List.length_filter_le _ _
     simp at this;omega
    have j:=c.step g;have J:=hints x;cases R:lx k x
    ·rw[R]at j J;simp only[hQ,if_false,Bool.not_false]at j J;clear c g R;simp[hi,o];((repeat' first|refine al ?_|simp[hi,o,J]|((first|apply ct|apply cz|apply cy)<;>intro h<;>try simp at h))<;>(try exact c3));all_goals exact bY.rng a hi j ca
    ·rw[R]at j J;simp only[if_true,Bool.not_true]at j J;clear c g R;simp[hi,o];((repeat' first|refine al ?_|simp[hi,o,J]|((first|apply ct|apply cz|apply cy)<;>intro h<;>try simp at h))<;>(try exact c3));all_goals try refine⟨by unfold lim;omega,?_⟩
     all_goals(repeat' first|refine al ?_|simp)
     all_goals exact bY.rng (a++[x]) hi j ⟨by simp[fresh,aH,az,cc,aM,ae,B1],eo (by simp[fresh,aH,az,cc,aM,ae,B1]),ep (by simp[fresh,aH,az,dV,aM,ae,B1]),Ψ⟩
   rw[uY,jz]at c;rw[<-c]at BE By akF f;clear c hints jv U V;simp;(repeat' first|refine al ?_|simp);refine fT (fun i (L:List (List Bd))=>⟨[(1,.ptr (.loc 0) 0),(2,.ptr (.loc 1) 0),(4,.slice 2 (.tr (.loc 2) 0) (k.map bI.e)),(11,.slice 2 (.own (.loc 4)) (a.map bo.e)),(14,.slice 1 (.own (.loc 5)) (L.map cO)),(81,cZ (d.map cO)),(82,aj d.length),(83,aj i)],[(.loc 0,[aj n,bL (b.map Bd.e),cZ (d.map cO),b6 (Q.map bI.e),b6 (m0.map bo.e)]),(.loc 1,[aj 0,.slice 5 .nil [],.slice 1 .nil [],.slice 2 .nil [],.slice 2 .nil []])],[(.loc 4,⟨a.length,100,2,none⟩),(.loc 5,⟨L.length,46,1,none⟩)],6,[]⟩) d.length (rz b k a d) [] ca ⟨Ψ,Ψ,Ψ⟩ (fun L c _=>?_) (fun i L hi c _=>?_)
   ·have fh:=c.fin;have xq:=c.2.1;rw[fh]at f;simp only at f;have Y:=ang L xq;have p3:=OV b gg;clear c fh xq;generalize lW L=M at Y f;by_cases N:M.length<=30
    ·have X:¬(30:Int)<M.length:=Ω
     rw[if_pos N]at f;subst f;simp;(repeat' first|refine al ?_|simp);(refine CallDo.own Ψ (Y) (by simp[ef]) ?_;simp);(repeat' first|refine al ?_|simp[N,X]);(refine hH.own Ψ (p3) (by simp[qx,ae]<;>omega) ?_;simp);(repeat' first|refine al ?_|simp);all_goals(refine ih.val Ψ ?_;simp[ba,bf,a6,ff,hy,eD,gX,eg,gO,tnL,tn,fs,gb,fold,hJ,hI,iO,ae,ef,cf,b7])
     all_goals simp[qW,dk.kk]
    ·have X:(30:Int)<M.length:=Ω
     rw[if_neg N]at f;subst f;simp;(repeat' first|refine al ?_|simp);(refine CallDo.own Ψ (Y) (by simp[ef]) ?_;simp);(repeat' first|refine al ?_|simp[N,X]);all_goals(refine ih.val Ψ ?_;simp[ba,bf,a6,ff,hy,eD,gX,eg,gO,tnL,tn,fs,gb,fold,hJ,hI,iO,ae,ef,cf,b7])
     all_goals simp[qW,iq,dk.kk]
   ·obtain⟨x,g,o⟩:=eW hi;have iD:=aK x (fu g);have Wa:=c.1;have p:bU au 165 [bL (b.map Bd.e),cO x] (gB (mgu b (iH x))):=arX K iD;simp only[gB]at p;cases hu:mgu b (iH x)with
    |none=>have j:=c.skip g fun r=>Od hu;rw[hu]at p;simp only[mW,lH]at p;clear c g f;exact iU
    |some y=>
     have P:=K.mgu (DC iD) hu;rw[hu]at p;simp only[mr,uk]at p;have t:=ar2 P W;have q:=acB P BE kE By;have H:=ar1 K P;simp only[qV]at t;simp only[j2]at q;by_cases A:gS y k []=none\/gZ y a []=none
     ·have j:=c.skip g fun r=>Oc hu A;clear c g f hu;rcases A with e|e
      ·rw[e]at t;simp only[mW,lH]at t;exact iU
      ·rw[e]at q;simp only[mW,lH]at q;cases (gS y k []).isSome
       ·simp[hi,o];((repeat' first|refine al ?_|refine aO p ?_|refine aP p ?_|refine aO t ?_|refine aP t ?_|refine aO q ?_|refine aP q ?_|simp[hi,o]|((first|apply ct|apply cz|apply cy)<;>intro h<;>try simp at h))<;>(try exact c3));all_goals exact bY.rng L hi j ca
       ·simp[hi,o];((repeat' first|refine al ?_|refine aO p ?_|refine aP p ?_|refine aO t ?_|refine aP t ?_|refine aO q ?_|refine aP q ?_|simp[hi,o]|((first|apply ct|apply cz|apply cy)<;>intro h<;>try simp at h))<;>(try exact c3));all_goals exact bY.rng L hi j ca
     ·have ao:(gS y k []).isSome=true:=by cases e:gS y k []with|none=>exact absurd (.inl e) A|some _=>rfl
      have aC:(gZ y a []).isSome=true:=by cases e:gZ y a []with|none=>exact absurd (.inr e) A|some _=>rfl
      rw[ao]at t;rw[aC]at q;by_cases B:hx b y=[]
      ·have ai:=c.stop g fun r=>Ob hu A B;rw[ai]at f;simp only at f;subst f;rw[B]at H;simp only[rZ]at H;clear c g hu A;simp[hi,o];((repeat' first|refine al ?_|refine aO p ?_|refine aP p ?_|refine aO t ?_|refine aP t ?_|refine aO q ?_|refine aP q ?_|refine aO H ?_|refine aP H ?_|simp[hi,o]|((first|apply ct|apply cz|apply cy)<;>intro h<;>try simp at h))<;>(try exact c3));all_goals(refine ih.val Ψ ?_;simp[ba,bf,a6,ff,hy,eD,gX,eg,gO,tnL,tn,fs,gb,fold,hJ,hI,iO,ae,ef,cf,b7])
       all_goals simp[qW,iq,dk.kk]
      ·have j:=c.snoc g (IS (b:=b) P) fun r=>Oe hu A B;have xF:¬((hx b y).length:Int)=0:=by have:(hx b y).length≠0:=fun h=>B (List.length_eq_zero_iff.1 h);omega
       have xG:(((hx b y).length:Int)==0)=false:=by simp[B]
       have S:bU au 166 [bL (b.map Bd.e),bL (y.map Bd.e)] (cO (hx b y)):=H;clear c g hu A f H;generalize hx b y=z at S j xF xG B;simp only[cO]at S;simp[hi,o];(repeat' first|refine al ?_|refine aO p ?_|refine aP p ?_|refine aO t ?_|refine aP t ?_|refine aO q ?_|refine aP q ?_|refine aO S ?_|refine aP S ?_|simp[hi,o,xF,xG,B]);all_goals try refine⟨by unfold lim;omega,?_⟩
       all_goals(repeat' first|refine al ?_|simp)
       all_goals exact bY.rng (L++[z]) hi j ⟨by simp[fresh,aH,az,cc,aM,ae,u2,cO],eo (by simp[fresh,aH,az,cc,aM,ae,u2,cO]),ep (by simp[fresh,aH,az,dV,aM,ae,u2,cO]),Ψ⟩
def as3{s:dk}(h:rP s){G:List (List cU)}(a:G.length<=687000)(be:oQ G s.m):bU au 90 [s.e] (rO (kx s)):=by have:=(Y8 h a be).val (by simp[qW,dk.kk,b7]);simpa[qW,dk.kk,b7,cf,rO,dk.e]using this
@[simp]def atT(neg:Bool)(x y:bI):jr neg (some [false,false]) x.e y.e=some (True,.bool (if neg then !decide (x=y)else decide (x=y))):=by
 have h:(x.v==y.v&&(x.k==y.k&&true))=decide (x=y):=by rw[q3];simp only[Bool.and_true,cP,ey,gy];cases x;cases y;simp
 rw[<-h];rfl
@[simp]def atU(neg:Bool)(x y:bo):jr neg (some [false,true]) x.e y.e=some (True,.bool (if neg then !decide (x=y)else decide (x=y))):=by
 have h:(x.v==y.v&&(x.s==y.s&&true))=decide (x=y):=by rw[q3];simp only[Bool.and_true,cP,ey,gy];cases x;cases y;simp
 rw[<-h];rfl
def asj(x y:List Bd)(h:x.length<=1000000):bU au 169 [cO x,cO y] (.bool (decide (x=y))):=acH x y h
def as2(a c:dk)(K:a.b.length<=1000000)(L:∀x∈a.d,x.length<=1000000):bU au 91 [a.e,c.e] (.bool (decide (a=c))):=by
 obtain⟨n,b,d,k,m⟩:=a;obtain⟨n',b0,t,bt,s⟩:=c;simp only at K L;generalize bs:decide ((⟨n,b,d,k,m⟩:dk)=⟨n',b0,t,bt,s⟩)=R;simp only[dk.mk.injEq,dk.e]at bs⊢;by_cases G:n=n';rotate_left
 ·have o:R=false:=by rw[<-bs];simp[G]
  have V:(n !=n')=true:=by simp[G]
  rw[o];clear bs o;refine bH a1 Tryz.func91 Cr fun u=>?_;unfold yY;exact cp
 subst G;have g:=acH b b0 K;by_cases F:b=b0;rotate_left
 ·have o:R=false:=by rw[<-bs];simp[F]
  rw[mX F]at g;rw[o];clear bs o;refine bH a1 Tryz.func91 Cr fun u=>?_;unfold yY;exact cp
 subst F;rw[l6 rfl]at g;by_cases E:d.length=t.length;rotate_left
 ·have o:R=false:=by rw[<-bs];simp only[iM];rintro⟨_,_,rfl,_⟩;exact E rfl
  have U:((d.length:Int) !=t.length)=true:=by simp;omega
  rw[o];clear bs o;refine bH a1 Tryz.func91 Cr fun u=>?_;unfold yY;exact cp
 by_cases w:k.length=bt.length;rotate_left
 ·have o:R=false:=by rw[<-bs];simp only[iM];rintro⟨_,_,_,rfl,_⟩;exact w rfl
  have N:((k.length:Int) !=bt.length)=true:=by simp;omega
  rw[o];clear bs o;refine bH a1 Tryz.func91 Cr fun u=>?_;unfold yY;exact cp
 by_cases B:m.length=s.length;rotate_left
 ·have o:R=false:=by rw[<-bs];simp only[iM];rintro⟨_,_,_,_,rfl⟩;exact B rfl
  have M:((m.length:Int) !=s.length)=true:=by simp;omega
  rw[o];clear bs o;refine bH a1 Tryz.func91 Cr fun u=>?_;unfold yY;exact cp
 have H:d≠t->R=false:=fun h=>by rw[<-bs];simp[h]
 have J:k≠bt->R=false:=fun h=>by rw[<-bs];simp[h]
 have S:m≠s->R=false:=fun h=>by rw[<-bs];simp[h]
 refine bH a1 Tryz.func91 Cr fun u=>?_;unfold yY;have Q:t.length<=68719476736:=by simp[eM,eV,eN,lim]at u;omega
 have P:bt.length<=68719476736:=by simp[eM,eV,eN,lim]at u;omega
 have O:s.length<=68719476736:=by simp[eM,eV,eN,lim]at u;omega
 clear u;simp;(repeat' first|refine al ?_|refine aO g ?_|refine aP g ?_|simp[E,w,B]);have v:=H;refine eZ [2,3,50] (fun i (_:Unit)=>[(51,aj i)]) t.length (s5 d t) () ca (fun k ab=>Ω) (fun _ j _=>?_) (fun i _ hi j _=>?_);rotate_left
 ·obtain⟨x,e⟩:∃x,d[i]? =some x:=⟨_,cl Ω⟩;obtain⟨y,f⟩:∃y,t[i]? =some y:=⟨_,cl hi⟩;have l:i<d.length:=Ω
  have r:∀h,(d[i]'h)=x:=fun h=>by rw[cl l]at e;exact e8 e
  have p:∀h,(t[i]'h)=y:=fun h=>by rw[cl hi]at f;exact e8 f
  have g:=asj x y (L x (fu e));by_cases q:x=y
  ·subst q;have A:=j.step e f;rw[l6 rfl]at g;clear j e f;simp[hi,l,r,p,-jr];(repeat' first|refine al ?_|refine aO g ?_|refine aP g ?_|simp[r,p,hi,l,-jr]);all_goals exact bY.rng () hi A ca
  ·rw[v (fun h=>q (by rw[h]at e;rw[e]at f;exact e8 f))];rw[mX q]at g;clear j e f;simp[hi,l,r,p,-jr];(repeat' first|refine al ?_|refine aO g ?_|refine aP g ?_|simp[r,p,hi,l,q,-jr]);all_goals simp[bZ,ba,bf,a6]
 have z:=j.fin E;subst z;clear j v H E;simp;(repeat' first|refine al ?_|simp[w]);have v:=J;refine eZ [2,3,69] (fun i (_:Unit)=>[(70,aj i)]) bt.length (s5 k bt) () ca (fun k ab=>Ω) (fun _ j _=>?_) (fun i _ hi j _=>?_);rotate_left
 ·obtain⟨x,e⟩:∃x,k[i]? =some x:=⟨_,cl Ω⟩;obtain⟨y,f⟩:∃y,bt[i]? =some y:=⟨_,cl hi⟩;have l:i<k.length:=Ω
  have r:∀h,(k[i]'h)=x:=fun h=>by rw[cl l]at e;exact e8 e
  have p:∀h,(bt[i]'h)=y:=fun h=>by rw[cl hi]at f;exact e8 f
  have g:=True.intro;by_cases q:x=y
  ·subst q;have A:=j.step e f;skip;clear j e f;simp[hi,l,r,p,-jr];(repeat' first|refine al ?_|refine aO g ?_|refine aP g ?_|simp[r,p,hi,l,-jr]);all_goals exact bY.rng () hi A ca
  ·rw[v (fun h=>q (by rw[h]at e;rw[e]at f;exact e8 f))];skip;clear j e f;simp[hi,l,r,p,-jr];(repeat' first|refine al ?_|refine aO g ?_|refine aP g ?_|simp[r,p,hi,l,q,-jr]);all_goals simp[bZ,ba,bf,a6]
 have z:=j.fin w;subst z;clear j v J w;simp;(repeat' first|refine al ?_|simp[B]);have v:=S;refine eZ [2,3,87] (fun i (_:Unit)=>[(88,aj i)]) s.length (s5 m s) () ca (fun k ab=>Ω) (fun _ j _=>?_) (fun i _ hi j _=>?_);rotate_left
 ·obtain⟨x,e⟩:∃x,m[i]? =some x:=⟨_,cl Ω⟩;obtain⟨y,f⟩:∃y,s[i]? =some y:=⟨_,cl hi⟩;have l:i<m.length:=Ω
  have r:∀h,(m[i]'h)=x:=fun h=>by rw[cl l]at e;exact e8 e
  have p:∀h,(s[i]'h)=y:=fun h=>by rw[cl hi]at f;exact e8 f
  have g:=True.intro;by_cases q:x=y
  ·subst q;have A:=j.step e f;skip;clear j e f;simp[hi,l,r,p,-jr];(repeat' first|refine al ?_|refine aO g ?_|refine aP g ?_|simp[r,p,hi,l,-jr]);all_goals exact bY.rng () hi A ca
  ·rw[v (fun h=>q (by rw[h]at e;rw[e]at f;exact e8 f))];skip;clear j e f;simp[hi,l,r,p,-jr];(repeat' first|refine al ?_|refine aO g ?_|refine aP g ?_|simp[r,p,hi,l,q,-jr]);all_goals simp[bZ,ba,bf,a6]
 have z:=j.fin B;subst z;have o:R=true:=by rw[<-bs];simp
 rw[o];exact cp
def gm.e(r:gm):af:= .agg [aj r.n,bL (r.b.map Bt.e),cZ (r.d.map gz),b6 (r.k.map bI.e),b6 (r.m.map bo.e)]
def J3(s:dk):s.r.e=s.e:=by simp only[dk.r,gm.e,dk.e,zR,LN]
def ar4(x:List Bt):bU au 86 [gz x] (.bool (hz x)):=QO x
open Classical in
def ar3(r:gm)(M:iT r.m->ky r.m):bU au 29 [r.e] (.bool (decide (j8 r))):=by
 generalize bs:decide (j8 r)=R;have f:¬PQ r->R=false:=fun h=>by rw[<-bs,iM];exact fun cj=>h cj.raw
 obtain⟨n,b,d,k,m⟩:=r;simp only[gm.e]at M⊢;by_cases g1:n<0
 ·rw[f fun h=>by have:=h.n.1;simp only at this;omega];refine bH a1 Tryz.func29 zV fun g=>?_;unfold w8;exact cp
 by_cases g2:100000<n
 ·rw[f fun h=>by have:=h.n.2;simp only at this;omega];refine bH a1 Tryz.func29 zV fun g=>?_;unfold w8;exact cp
 have q:bU au 86 [bL (b.map Bt.e)] (.bool (hz b)):=QO b;cases g3:hz b
 ·rw[f fun h=>by obtain⟨s,l,S,_⟩:=h.b;have:=sM.2 (yv.2 ⟨s,l,S⟩);simp only at this;rw[g3]at this;cases this]
  rw[g3]at q;refine bH a1 Tryz.func29 zV fun g=>?_;unfold w8;exact cp
 rw[g3]at q;obtain⟨s,rfl,X⟩:=yv.1 (sM.1 g3);clear g3;rw[zR]at q⊢;have B:=acx k;by_cases g4:jN k;rotate_left
 ·rw[f fun h=>g4 h.k];rw[mX g4]at B;refine bH a1 Tryz.func29 zV fun g=>?_;unfold w8;exact cp
 rw[l6 g4]at B;have A:=acz m;by_cases g5:iT m;rotate_left
 ·rw[f fun h=>g5 h.m];rw[mX g5]at A;refine bH a1 Tryz.func29 zV fun g=>?_;unfold w8;exact cp
 rw[l6 g5]at A;have u:=acD X (n:=n) Ω;cases g6:s.all (lK n)
 ·rw[f fun h=>by obtain⟨P,l,_,N⟩:=h.b;have O:=w4 l;subst O;rw[w7.2 N]at g6;cases g6]
  rw[g6]at u;refine bH a1 Tryz.func29 zV fun g=>?_;unfold w8;have N9:=u;exact cp
 rw[g6]at u;have c4:=w7.1 g6;clear g6;have U:=M g5;have nT:=U.len g5;refine bH a1 Tryz.func29 zV fun g=>?_;unfold w8;have MO:d.length<=68719476736:=by simp[eM,eV,eN,lim]at g;omega
 have jv:=tH g4;clear g M;simp;(repeat' first|refine al ?_|refine aO q ?_|refine aP q ?_|refine aO B ?_|refine aP B ?_|refine aO A ?_|refine aP A ?_|refine aO u ?_|refine aP u ?_|simp[g1,g2]);refine eZ [1,46,47] (fun i (_:Unit)=>[(48,aj i)]) d.length (tG (k7 n) d) () ca (fun k b ab=>Ω) (fun _ a _=>?_) (fun i _ hi a _=>?_);rotate_left
 ·obtain⟨x,c,w⟩:=eW hi;have z:=fu c;have L:=ar4 x;cases e:hz x
  ·rw[f fun h=>by obtain⟨P,l,S,_⟩:=h.d x z;rw[sM.2 (yv.2 ⟨P,l,S⟩)]at e;cases e]
   rw[e]at L;clear a c z;exact cp
  ·rw[e]at L;obtain⟨y,rfl,Y⟩:=yv.1 (sM.1 e);clear e;rw[LM]at L;have W:bU au 89 [cO y,aj n] (.bool (y.all (lK n))):=acD Y (n:=n) Ω;have avh:∀h,gz (d[i]'h)=cO y:=fun h=>by rw[w h,LM]
   cases p:y.all (lK n)
   ·rw[f fun h=>by obtain⟨P,l,_,N⟩:=h.d _ z;have O:=w4 l;subst O;rw[w7.2 N]at p;cases p]
    rw[p]at W;clear a c z w;exact cp
   ·rw[p]at W;have Z:=a.step c ⟨y,rfl,Y,w7.1 p⟩;clear a c z w;exact iU
 obtain⟨aY,rfl,DX,Mz⟩:=Ul a.fin;clear a;simp only[LN];simp;(repeat' first|refine al ?_|simp);refine eZ [1,64,65] (fun i (_:Unit)=>[(66,aj i)]) k.length (tG (fun x=>x.v<n) k) () ca (fun k b ab=>Ω) (fun _ a _=>?_) (fun i _ hi a _=>?_);rotate_left
 ·obtain⟨x,c,w⟩:=eW hi;by_cases e:x.v<n
  ·have F:¬n<=x.v:=Ω
   have Z:=a.step c e;clear a c;exact iU
  ·have F:n<=x.v:=Ω
   rw[f fun h=>e (h.kb x (fu c))];clear a c;exact cp
 have E:=a.fin;clear a;simp;(repeat' first|refine al ?_|simp);have zq:=E;refine eZ [1,77,78] (fun i (_:Unit)=>[(79,aj i)]) m.length (tG (fun x=>x.v<n) m) () ca (fun k b ab=>Ω) (fun _ a _=>?_) (fun i _ hi a _=>?_);rotate_left
 ·obtain⟨x,c,w⟩:=eW hi;by_cases e:x.v<n
  ·have F:¬n<=x.v:=Ω
   have Z:=a.step c e;clear a c;exact iU
  ·have F:n<=x.v:=Ω
   rw[f fun h=>e (h.mb x (fu c))];clear a c;exact cp
 have E:=a.fin;clear a;simp;(repeat' first|refine al ?_|simp);have uS:=E;have dy:rP ⟨n,s,aY,k,m⟩:=⟨by simp only;omega,X,DX,g4,g5,c4,Mz,zq,uS⟩;have V:=abR dy;obtain⟨G,kE,be⟩:=U;have j:=as3 dy kE be;have o:j8 ⟨n,s.map Bd.b,aY.map fun x=>x.map Bd.b,k,m⟩↔kx ⟨n,s,aY,k,m⟩=some ⟨n,s,aY,k,m⟩:=V;clear V f;simp only[rO]at j;cases K:kx ⟨n,s,aY,k,m⟩with
 |none=>
  rw[K]at j o;have v:R=false:=by rw[<-bs,iM,o];simp
  rw[v];simp only[mW,lH,dk.e]at j;clear bs v o;exact cp
 |some t=>
  have J:=abF dy K;rw[K]at j o;have H:=as2 t ⟨n,s,aY,k,m⟩ J.1.1.b.len (fun x c=>(J.1.1.d x c).len);have v:R=decide (t=⟨n,s,aY,k,m⟩):=by rw[<-bs,decide_eq_decide,o];simp
  rw[v];simp only[mr,uk]at j;simp only[dk.e]at j H;clear bs v o J;generalize decide (t=(⟨n,s,aY,k,m⟩:dk))=Q at H⊢;obtain⟨tn,FU,FV,rT,tm⟩:=t;simp only at j H;exact cp
def xb:C:=(aa [cW 1 0,bz 2 false] (.seq (aa [aF 11 0 1 1,ay 12 1 11,dS 13 75 [.t 12,(gT 0),(gT 100000)],cM 14 13,I 15 14,aw 15 false (aF 16 1 1 1),aw 15 false (ay 17 1 16),aw 15 false (cT 18 76 17),aw 15 false (cM 19 18),dr 20 15 19,I 21 20,aw 21 false (aF 22 2 1 1),aw 21 false (ay 23 1 22),aw 21 false (cT 24 77 23),aw 21 false (cM 25 24),dr 26 21 25,I 27 26,aw 27 false (aF 28 3 1 1),aw 27 false (ay 29 1 28),aw 27 false (cT 30 78 29),aw 27 false (cM 31 30),dr 32 27 31,I 33 32,aw 33 false (aF 34 4 1 1),aw 33 false (ay 35 1 34),aw 33 false (cT 36 79 35),aw 33 false (cM 37 36),dr 38 33 37,I 39 38,aw 39 false (aF 40 1 1 1),aw 39 false (ay 41 1 40),aw 39 false (aF 42 0 1 1),aw 39 false (ay 43 1 42),aw 39 false (b8 44 80 41 43),aw 39 false (cM 45 44),dr 46 39 45] (aW 46 (aa [bz 2 false] .ret) .skip)) (.seq (aa [aF 47 2 1 1,ay 48 1 47,cw 49 48,bP 50 0] (gw 51 50 49 (.seq (.block 1 (aa [ck 52 1 48 50,ay 53 1 52,I 4 53] (aa [I 54 4,aF 55 0 1 1,ay 56 1 55,b8 57 80 54 56,cM 58 57] (aW 58 (aa [bz 2 false] .ret) .skip)))) (.region [aU 59 .add 50 1,I 50 59])))) (.seq (aa [aF 60 3 1 1,ay 61 1 60,cw 62 61,bP 63 0] (.block 2 (.loop (aa [bu 64 .lss 63 62] (.seq (aW 64 .skip (.exit 2)) (.seq (.block 3 (aa [ck 65 2 61 63,bg 66 2 65,dt (.alloc 6 none (.agg [.int .i64 0,.int .i64 0])),bV 2 6 66] (aa [aF 67 0 1 6,ay 68 1 67,aF 69 0 1 1,ay 70 1 69,bu 71 .geq 68 70] (aW 71 (aa [bz 2 false] .ret) .skip)))) (.region [aU 72 .add 63 1,I 63 72]))))))) (.seq (aa [aF 73 4 1 1,ay 74 1 73,cw 75 74,bP 76 0] (.block 4 (.loop (aa [bu 77 .lss 76 75] (.seq (aW 77 .skip (.exit 4)) (.seq (.block 5 (aa [ck 78 2 74 76,bg 79 2 78,dt (.alloc 8 none (.agg [.int .i64 0,.str []])),bV 2 8 79] (aa [aF 80 0 1 8,ay 81 1 80,aF 82 0 1 1,ay 83 1 82,bu 84 .geq 81 83] (aW 84 (aa [bz 2 false] .ret) .skip)))) (.region [aU 85 .add 76 1,I 76 85]))))))) (aa [bg 87 5 1,cT 88 81 87,I 86 88,cX 89 0 86,cX 90 1 86,dG 9 im,bV 5 9 89,I 10 90] (aa [I 91 10,I 92 91,aw 92 true (bg 93 5 9),aw 92 true (bg 94 5 1),aw 92 true (b8 95 82 93 94),ei 96 92 95,I 2 96] .ret)))))))
def GQ:C:=(aa [cW 1 0,dG 2 im,bz 3 false] (aa [aF 20 1 1 1,ay 21 1 20,aF 22 3 1 1,ay 23 1 22,b8 24 149 21 23,I 19 24,cX 25 0 19,cX 26 1 19,I 4 25,I 5 26] (aa [aF 28 1 1 1,ay 29 1 28,aF 30 4 1 1,ay 31 1 30,b8 32 150 29 31,I 27 32,cX 33 0 27,cX 34 1 27,I 6 33,I 7 34] (.seq (aa [I 35 5,cM 36 35,I 37 36,cg 37 false 38 7,aw 37 false (cM 39 38),dr 40 37 39] (aW 40 (aa [jy 41 im [],bV 5 2 41,bz 3 false] .ret) .skip)) (aa [aF 42 0 1 1,ay 43 1 42,aF 44 1 1 1,ay 45 1 44,I 46 4,jy 47 im [(0,1,(.t 43)),(1,1,(.t 45)),(3,1,(.t 46))],dG 8 im,bV 5 8 47] (.seq (aa [I 48 6,cw 49 48,bP 50 0] (gw 51 50 49 (.seq (.block 1 (aa [ck 52 2 48 50,bg 53 2 52,dt (.alloc 10 none (.agg [.int .i64 0,.str []])),bV 2 10 53] (aa [I 55 4,aF 56 0 1 10,ay 57 1 56,cT 58 114 57,dS 59 151 [.t 55,.t 58,(gT 2)],I 54 59,cX 60 0 54,cX 61 1 54,I 11 60,I 12 61] (aa [I 62 12] (aW 62 (.region [aF 63 4 1 8,ay 64 1 63,bg 65 2 10,e1 66 2 100 [.t 65],h0 67 2 100 64 66,aF 68 4 1 8,bV 1 68 67]) .skip))))) (.region [aU 69 .add 50 1,I 50 69])))) (aa [e1 70 1 46 [],I 13 70] (.seq (aa [aF 71 2 1 1,ay 72 1 71,cw 73 72,bP 74 0] (.block 2 (.loop (aa [bu 75 .lss 74 73] (.seq (aW 75 .skip (.exit 2)) (.seq (.block 3 (aa [ck 76 1 72 74,ay 77 1 76,I 15 77] (aa [aF 79 1 1 1,ay 80 1 79,I 81 15,b8 82 152 80 81,I 78 82,cX 83 0 78,cX 84 1 78,I 16 83,I 17 84] (.seq (aa [I 85 17] (aW 85 (aa [I 87 16,aF 88 3 1 8,ay 89 1 88,b8 90 149 87 89,I 86 90,cX 91 0 86,cX 92 1 86,I 5 92] (.region [I 94 16,aF 95 4 1 8,ay 96 1 95,b8 97 150 94 96,I 93 97,cX 98 0 93,cX 99 1 93,I 7 99])) .skip)) (.seq (aa [I 100 17,cM 101 100,I 102 101,cg 102 false 103 5,aw 102 false (cM 104 103),dr 105 102 104,I 106 105,cg 106 false 107 7,aw 106 false (cM 108 107),dr 109 106 108] (aW 109 (aa [bz 5 true] (aa [bz 7 true] (.exit 3))) .skip)) (aa [aF 110 1 1 1,ay 111 1 110,I 112 16,b8 113 153 111 112,I 18 113] (.seq (aa [I 114 18,cw 115 114,aU 116 .eql 115 0] (aW 116 (aa [jy 117 im [],bV 5 2 117,bz 3 false] .ret) .skip)) (.region [I 118 13,I 119 18,e1 120 1 46 [.t 119],h0 121 1 46 118 120,I 13 121])))))))) (.region [aU 122 .add 74 1,I 74 122]))))))) (aa [I 123 13,cT 124 154 123,aF 125 2 1 8,bV 1 125 124] (.seq (.fz true 8 (.drawn true 131 [cd 126 (.loadZ true 5 (.t 8)),aF 127 2 1 8,cd 128 (.loadZ false 1 (.t 127)),cw 129 128,aU 130 .leq 129 30,bV 5 2 126,I 3 130])) .ret))))))))))
def yZ:C:=(aa [cW 2 0,cW 3 1,bz 4 false] (.seq (aa [aF 11 0 1 2,ay 12 1 11,aF 13 0 1 3,ay 14 1 13,bu 15 .neq 12 14,I 16 15,aw 16 false (aF 17 1 1 2),aw 16 false (ay 18 1 17),aw 16 false (aF 19 1 1 3),aw 16 false (ay 20 1 19),aw 16 false (b8 21 155 18 20),aw 16 false (aU 22 .neq 21 0),dr 23 16 22,I 24 23,aw 24 false (aF 25 2 1 2),aw 24 false (ay 26 1 25),aw 24 false (cw 27 26),aw 24 false (aF 28 2 1 3),aw 24 false (ay 29 1 28),aw 24 false (cw 30 29),aw 24 false (bu 31 .neq 27 30),dr 32 24 31,I 33 32,aw 33 false (aF 34 3 1 2),aw 33 false (ay 35 1 34),aw 33 false (cw 36 35),aw 33 false (aF 37 3 1 3),aw 33 false (ay 38 1 37),aw 33 false (cw 39 38),aw 33 false (bu 40 .neq 36 39),dr 41 33 40,I 42 41,aw 42 false (aF 43 4 1 2),aw 42 false (ay 44 1 43),aw 42 false (cw 45 44),aw 42 false (aF 46 4 1 3),aw 42 false (ay 47 1 46),aw 42 false (cw 48 47),aw 42 false (bu 49 .neq 45 48),dr 50 42 49] (aW 50 (aa [bz 4 false] .ret) .skip)) (.seq (aa [aF 51 2 1 2,ay 52 1 51,cw 53 52,bP 54 0] (gw 55 54 53 (.seq (.block 1 (aa [I 56 54,ck 57 1 52 54,ay 58 1 57,I 5 56,I 6 58] (aa [I 59 6,aF 60 2 1 3,ay 61 1 60,I 62 5,ck 63 1 61 62,ay 64 1 63,b8 65 155 59 64,aU 66 .neq 65 0] (aW 66 (aa [bz 4 false] .ret) .skip)))) (.region [aU 67 .add 54 1,I 54 67])))) (.seq (aa [aF 68 3 1 2,ay 69 1 68,cw 70 69,bP 71 0] (.block 2 (.loop (aa [bu 72 .lss 71 70] (.seq (aW 72 .skip (.exit 2)) (.seq (.block 3 (aa [I 73 71,ck 74 2 69 71,bg 75 2 74,dt (.alloc 8 none (.agg [.int .i64 0,.int .i64 0])),I 7 73,bV 2 8 75] (.seq (.drawn true 100 [bg 76 2 8,aF 77 3 1 3,ay 78 1 77,I 79 7,ck 80 2 78 79,bg 81 2 80,cd 82 (.beq true (some [false,false]) (.t 76) (.t 81))]) (aW 82 (aa [bz 4 false] .ret) .skip)))) (.region [aU 83 .add 71 1,I 71 83]))))))) (.seq (aa [aF 84 4 1 2,ay 85 1 84,cw 86 85,bP 87 0] (.block 4 (.loop (aa [bu 88 .lss 87 86] (.seq (aW 88 .skip (.exit 4)) (.seq (.block 5 (aa [I 89 87,ck 90 2 85 87,bg 91 2 90,dt (.alloc 10 none (.agg [.int .i64 0,.str []])),I 9 89,bV 2 10 91] (.seq (.drawn true 100 [bg 92 2 10,aF 93 4 1 3,ay 94 1 93,I 95 9,ck 96 2 94 95,bg 97 2 96,cd 98 (.beq true (some [false,true]) (.t 92) (.t 97))]) (aW 98 (aa [bz 4 false] .ret) .skip)))) (.region [aU 99 .add 87 1,I 87 99]))))))) (aa [bz 4 true] .ret))))))
def zY:b3 aT xb [.tmp 2] 1 Tryz.f27=true:=bi
def Pe:b3 aT GQ [.cell 2 true 5,.tmp 3] 1 Tryz.f81=true:=bi
def Cs:b3 aT yZ [.tmp 4] 2 Tryz.f82=true:=bi
noncomputable def Fz(s:dk):af:= .tuple [(Ao s).e,.bool (kx s).isSome]
def asH{k:List bI}(ab:jN k)(v:Int):bU au 151 [b6 (k.map bI.e),(T.var v).e,aj 2] (p8 k (k5 k (.var v) 2)):=acT k (by have:=tH ab;omega) ab.asc (.var v) 2
def acQ{b y:List Bd}(a:fm b)(c:fm y):bU au 153 [bL (b.map Bd.e),bL (y.map Bd.e)] (cO (hx b y)):=asC a c
def acP{b x:List Bd}(a:fm b)(c:fm x):bU au 152 [bL (b.map Bd.e),cO x] (gB (mgu b (iH x))):=asB b x a.sol a.fits c.len
def Oo(a:List bo):af:=match a with
 |[]=>.slice 2 .nil []
 |_::_=>.slice 2 (.own (.loc 5)) (a.map bo.e)
def On(a:List bo):List (aB×dW):=match a with
 |[]=>[]
 |_::_=>[(.loc 5,⟨a.length,100,2,none⟩)]
def Om(a:List bo):Nat:=match a with
 |[]=>3
 |_::_=>6
@[simp]def aww:Oo []= .slice 2 .nil []:=rfl
@[simp]def awv(x:bo)(a:List bo):Oo (x::a)= .slice 2 (.own (.loc 5)) (x.e::a.map bo.e):=rfl
@[simp]def awu:On []=[]:=rfl
@[simp]def awt(x:bo)(a:List bo):On (x::a)=[(.loc 5,⟨a.length+1,100,2,none⟩)]:=rfl
@[simp]def aws:Om []=3:=rfl
@[simp]def awr(x:bo)(a:List bo):Om (x::a)=6:=rfl
def acU{s:dk}(h:rP s){G:List (List cU)}(kE:G.length<=687000)(be:oQ G s.m):bU au 81 [s.e] (Fz s):=by
 unfold Fz;generalize c:kx s=O;generalize dF:Ao s=SS;have F:=QT h.b h.k;have H:=QU h.b h.m kE be;have kk:=fun k=>Jw (acc:=[]) (a:=k) h.b h.k.at' ⟨Ψ,Ψ⟩;have N:=fun m=>Jx (acc:=[]) (a:=m) h.b h.m.at' ⟨Ψ,by simp[iN]⟩;have P:=fun m=>Jy (acc:=[]) (a:=m) (s:=s.b) be (fun x g=>by simp at g);have K:=h.b;have aK:=h.d;clear h be;unfold kx at c;unfold Ao at dF;obtain⟨n,b,d,Z,m0⟩:=s;simp only at F H kk N P K aK c dF;have gg:=K.len;simp only[dk.e];generalize gS b Z []=ok at F c dF kk;generalize gZ b m0 []=om at H c dF N P;cases ok with
 |none=>
  simp only at c dF;subst c;subst dF;simp only[qV]at F;simp only[j2]at H;clear kk N P;refine bH a1 Tryz.func81 Pe fun aR=>?_;unfold GQ;simp;(repeat' first|refine al ?_|refine aO F ?_|refine aP F ?_|refine aO H ?_|refine aP H ?_|simp);all_goals simp[bZ,ba,bf,a6]
  all_goals simp[iq,dk.e]
 |some k=>
  simp only at c dF;cases om with
  |none=>
   simp only at c dF;subst c;subst dF;simp only[qV]at F;simp only[j2]at H;clear kk N P;refine bH a1 Tryz.func81 Pe fun aR=>?_;unfold GQ;simp;(repeat' first|refine al ?_|refine aO F ?_|refine aP F ?_|refine aO H ?_|refine aP H ?_|simp);all_goals simp[bZ,ba,bf,a6]
   all_goals simp[iq,dk.e]
  |some m=>
   simp only at c dF;have Y:=kk k rfl;have zv:=N m rfl;have zo:=P m rfl;have nT:m.length<=68719470000:=by have:=EU zv zo;omega
   have BE:=Yv (k:=k) zv;have By:=QE (k:=k) zo;simp only[qV,mr,uk]at F;simp only[j2,mr,uk]at H;clear kk N P;refine bH a1 Tryz.func81 Pe fun aR=>?_;unfold GQ;have MO:d.length<=68719476736:=by simp[eM,eV,eN,lim]at aR;omega
   clear aR;simp;(repeat' first|refine al ?_|refine aO F ?_|refine aP F ?_|refine aO H ?_|refine aP H ?_|simp);refine fT (fun i (a:List bo)=>⟨[(1,.ptr (.loc 0) 0),(2,.ptr (.loc 1) 0),(4,b6 (k.map bI.e)),(8,.ptr (.loc 2) 0),(48,b6 (m.map bo.e)),(49,aj m.length),(50,aj i)],[(.loc 0,[aj n,bL (b.map Bd.e),cZ (d.map cO),b6 (Z.map bI.e),b6 (m0.map bo.e)]),(.loc 1,[aj 0,.slice 5 .nil [],.slice 1 .nil [],.slice 2 .nil [],.slice 2 .nil []]),(.loc 2,[aj n,bL (b.map Bd.e),.slice 1 .nil [],b6 (k.map bI.e),Oo a])],On a,Om a,[]⟩) m.length (uY k m) [] ca (by simp[uY]) (fun a f _=>?_) (fun i a hi f _=>?_);rotate_left
   ·obtain⟨x,g,p⟩:=eW hi;have tf:a.length<=68719470000:=by
     have:a.length<=(m.take i).length:=by rw[f];exact List.length_filter_le _ _
     simp at this;omega
    have q:=f.step g;have A:=asH Y x.v;have bK:(k5 k (.var x.v) 2).isSome=lx k x:=adS Y x.v;simp only[p8,bK]at A;clear bK;generalize (k5 k (.var x.v) 2).getD k=kz at A;cases aG:lx k x
    ·rw[aG]at q A;simp only[hQ,if_false]at q;clear f g aG;cases a with
     |nil=>simp[hi,p];(repeat' first|refine al ?_|refine aO (k3 _) ?_|refine aP (k3 _) ?_|refine aO A ?_|refine aP A ?_|simp[hi,p]);all_goals exact bY.rng [] hi q ca
     |cons y ys=>simp[hi,p];(repeat' first|refine al ?_|refine aO (k3 _) ?_|refine aP (k3 _) ?_|refine aO A ?_|refine aP A ?_|simp[hi,p]);all_goals exact bY.rng (y::ys) hi q ca
    ·rw[aG]at q A;simp only[if_true]at q;clear f g aG;cases a with
     |nil=>
      simp[hi,p];(repeat' first|refine al ?_|refine aO (k3 _) ?_|refine aP (k3 _) ?_|refine aO A ?_|refine aP A ?_|simp[hi,p]);all_goals try refine⟨by unfold lim;omega,?_⟩
      all_goals(repeat' first|refine al ?_|simp)
      all_goals exact bY.rng [x] hi q ca
     |cons y ys=>
      simp only[mT]at tf;simp[hi,p];(repeat' first|refine al ?_|refine aO (k3 _) ?_|refine aP (k3 _) ?_|refine aO A ?_|refine aP A ?_|simp[hi,p]);all_goals try refine⟨by unfold lim;omega,?_⟩
      all_goals(repeat' first|refine al ?_|simp)
      all_goals exact bY.rng (y::ys++[x]) hi q ⟨by simp[fresh,aH,az,cc,aM,ae,B1],eo (by simp[fresh,aH,az,cc,aM,ae,B1]),ep (by simp[fresh,aH,az,dV,aM,ae,B1]),Ψ⟩
   rw[uY,jz]at f;rw[<-f]at BE By c dF;clear f zv zo;cases a with
   |nil=>
    simp;(repeat' first|refine al ?_|simp);refine fT (fun i (L:List (List Bd))=>⟨[(1,.ptr (.loc 0) 0),(2,.ptr (.loc 1) 0),(8,.ptr (.loc 2) 0),(13,.slice 1 (.own (.loc 3)) (L.map cO)),(72,cZ (d.map cO)),(73,aj d.length),(74,aj i)],[(.loc 0,[aj n,bL (b.map Bd.e),cZ (d.map cO),b6 (Z.map bI.e),b6 (m0.map bo.e)]),(.loc 1,[aj 0,.slice 5 .nil [],.slice 1 .nil [],.slice 2 .nil [],.slice 2 .nil []]),(.loc 2,[aj n,bL (b.map Bd.e),.slice 1 .nil [],b6 (k.map bI.e),.slice 2 .nil []])],[(.loc 3,⟨L.length,46,1,none⟩)],3+1,[]⟩) d.length (rz b k [] d) [] ca ⟨Ψ,Ψ,Ψ⟩ (fun L f _=>?_) (fun i L hi f _=>?_)
    ·have V:=f.fin;have Q:=f.2.1;rw[V]at c dF;simp only at c dF;have E:=acS L Q;clear f V Q;generalize lW L=M at E c dF;subst dF;by_cases w:M.length<=30
     ·have B:(M.length:Int)<=30:=Ω
      rw[if_pos w]at c;subst c;simp;(repeat' first|refine al ?_|refine aO E ?_|refine aP E ?_|simp[w,B]);all_goals simp[bZ,ba,bf,a6]
      all_goals try simp[dk.e,w,B]
      all_goals first|exact⟨_,rfl,rfl⟩|skip
     ·have B:¬(M.length:Int)<=30:=Ω
      rw[if_neg w]at c;subst c;simp;(repeat' first|refine al ?_|refine aO E ?_|refine aP E ?_|simp[w,B]);all_goals simp[bZ,ba,bf,a6]
      all_goals try simp[dk.e,w,B]
      all_goals first|exact⟨_,rfl,rfl⟩|skip
    ·obtain⟨x,g,p⟩:=eW hi;have U:=aK x (fu g);have Wa:=f.1;have l:=acP K U;simp only[gB]at l;cases hu:mgu b (iH x)with
     |none=>have q:=f.skip g fun r=>Od hu;rw[hu]at l;simp only[mW,lH]at l;clear f g c dF;exact iU
     |some y=>
      have J:=K.mgu (DC U) hu;rw[hu]at l;simp only[mr,uk]at l;have o:=QT J Y;have u:=QU J BE kE By;have j:=acQ K J;simp only[qV]at o;simp only[j2,rZ,gV]at u;by_cases t:gS y k []=none\/gZ y [] []=none
      ·have q:=f.skip g fun r=>Oc hu t;clear f g c dF hu j;rcases t with e|e
       ·rw[e]at o;simp only[mW,lH]at o;exact iU
       ·rw[e]at u;simp only[mW,lH]at u;generalize (gS y k []).isSome=a7 at o;cases a7
        ·exact iU
        ·exact iU
      ·have ao:(gS y k []).isSome=true:=by cases e:gS y k []with|none=>exact absurd (.inl e) t|some _=>rfl
       have aC:(gZ y [] []).isSome=true:=by cases e:gZ y [] []with|none=>exact absurd (.inr e) t|some _=>rfl
       rw[ao]at o;rw[aC]at u;by_cases v:hx b y=[]
       ·have ai:=f.stop g fun r=>Ob hu t v;rw[ai]at c dF;simp only at c dF;subst c;subst dF;rw[v]at j;simp only[cO,rZ]at j;clear f g hu t;simp[hi,p];(repeat' first|refine al ?_|refine aO l ?_|refine aP l ?_|refine aO o ?_|refine aP o ?_|refine aO u ?_|refine aP u ?_|refine aO j ?_|refine aP j ?_|simp[hi,p]);all_goals simp[bZ,ba,bf,a6]
        all_goals try simp[iq,dk.e]
       ·have q:=f.snoc g (IS (b:=b) J) fun r=>Oe hu t v;have S:¬((hx b y).length:Int)=0:=by have:(hx b y).length≠0:=fun h=>v (List.length_eq_zero_iff.1 h);omega
        have R:(((hx b y).length:Int)==0)=false:=by simp[v]
        clear f g hu t c dF;generalize hx b y=z at j q S R v;simp only[cO]at j;simp[hi,p];(repeat' first|refine al ?_|refine aO l ?_|refine aP l ?_|refine aO o ?_|refine aP o ?_|refine aO u ?_|refine aP u ?_|refine aO j ?_|refine aP j ?_|simp[hi,p,S,R,v]);all_goals try refine⟨by unfold lim;omega,?_⟩
        all_goals(repeat' first|refine al ?_|simp)
        all_goals exact bY.rng (L++[z]) hi q ⟨by simp[fresh,aH,az,cc,aM,ae,u2,cO],eo (by simp[fresh,aH,az,cc,aM,ae,u2,cO]),ep (by simp[fresh,aH,az,dV,aM,ae,u2,cO]),Ψ⟩
   |cons X W=>
    simp;(repeat' first|refine al ?_|simp);refine fT (fun i (L:List (List Bd))=>⟨[(1,.ptr (.loc 0) 0),(2,.ptr (.loc 1) 0),(8,.ptr (.loc 2) 0),(13,.slice 1 (.own (.loc 6)) (L.map cO)),(72,cZ (d.map cO)),(73,aj d.length),(74,aj i)],[(.loc 0,[aj n,bL (b.map Bd.e),cZ (d.map cO),b6 (Z.map bI.e),b6 (m0.map bo.e)]),(.loc 1,[aj 0,.slice 5 .nil [],.slice 1 .nil [],.slice 2 .nil [],.slice 2 .nil []]),(.loc 2,[aj n,bL (b.map Bd.e),.slice 1 .nil [],b6 (k.map bI.e),.slice 2 (.own (.loc 5)) (X.e::W.map bo.e)])],[(.loc 6,⟨L.length,46,1,none⟩)],6+1,[]⟩) d.length (rz b k (X::W) d) [] ca ⟨Ψ,Ψ,Ψ⟩ (fun L f _=>?_) (fun i L hi f _=>?_)
    ·have V:=f.fin;have Q:=f.2.1;rw[V]at c dF;simp only at c dF;have E:=acS L Q;clear f V Q;generalize lW L=M at E c dF;subst dF;by_cases w:M.length<=30
     ·have B:(M.length:Int)<=30:=Ω
      rw[if_pos w]at c;subst c;simp;(repeat' first|refine al ?_|refine aO E ?_|refine aP E ?_|simp[w,B]);all_goals simp[bZ,ba,bf,a6]
      all_goals try simp[dk.e,w,B]
      all_goals first|exact⟨_,rfl,rfl⟩|skip
     ·have B:¬(M.length:Int)<=30:=Ω
      rw[if_neg w]at c;subst c;simp;(repeat' first|refine al ?_|refine aO E ?_|refine aP E ?_|simp[w,B]);all_goals simp[bZ,ba,bf,a6]
      all_goals try simp[dk.e,w,B]
      all_goals first|exact⟨_,rfl,rfl⟩|skip
    ·obtain⟨x,g,p⟩:=eW hi;have U:=aK x (fu g);have Wa:=f.1;have l:=acP K U;simp only[gB]at l;cases hu:mgu b (iH x)with
     |none=>have q:=f.skip g fun r=>Od hu;rw[hu]at l;simp only[mW,lH]at l;clear f g c dF;exact iU
     |some y=>
      have J:=K.mgu (DC U) hu;rw[hu]at l;simp only[mr,uk]at l;have o:=QT J Y;have u:=QU J BE kE By;have j:=acQ K J;simp only[qV]at o;simp only[j2,rZ,gV]at u;by_cases t:gS y k []=none\/gZ y (X::W) []=none
      ·have q:=f.skip g fun r=>Oc hu t;clear f g c dF hu j;rcases t with e|e
       ·rw[e]at o;simp only[mW,lH]at o;exact iU
       ·rw[e]at u;simp only[mW,lH]at u;generalize (gS y k []).isSome=a7 at o;cases a7
        ·exact iU
        ·exact iU
      ·have ao:(gS y k []).isSome=true:=by cases e:gS y k []with|none=>exact absurd (.inl e) t|some _=>rfl
       have aC:(gZ y (X::W) []).isSome=true:=by cases e:gZ y (X::W) []with|none=>exact absurd (.inr e) t|some _=>rfl
       rw[ao]at o;rw[aC]at u;by_cases v:hx b y=[]
       ·have ai:=f.stop g fun r=>Ob hu t v;rw[ai]at c dF;simp only at c dF;subst c;subst dF;rw[v]at j;simp only[cO,rZ]at j;clear f g hu t;simp[hi,p];(repeat' first|refine al ?_|refine aO l ?_|refine aP l ?_|refine aO o ?_|refine aP o ?_|refine aO u ?_|refine aP u ?_|refine aO j ?_|refine aP j ?_|simp[hi,p]);all_goals simp[bZ,ba,bf,a6]
        all_goals try simp[iq,dk.e]
       ·have q:=f.snoc g (IS (b:=b) J) fun r=>Oe hu t v;have S:¬((hx b y).length:Int)=0:=by have:(hx b y).length≠0:=fun h=>v (List.length_eq_zero_iff.1 h);omega
        have R:(((hx b y).length:Int)==0)=false:=by simp[v]
        clear f g hu t c dF;generalize hx b y=z at j q S R v;simp only[cO]at j;simp[hi,p];(repeat' first|refine al ?_|refine aO l ?_|refine aP l ?_|refine aO o ?_|refine aP o ?_|refine aO u ?_|refine aP u ?_|refine aO j ?_|refine aP j ?_|simp[hi,p,S,R,v]);all_goals try refine⟨by unfold lim;omega,?_⟩
        all_goals(repeat' first|refine al ?_|simp)
        all_goals exact bY.rng (L++[z]) hi q ⟨by simp[fresh,aH,az,cc,aM,ae,u2,cO],eo (by simp[fresh,aH,az,cc,aM,ae,u2,cO]),ep (by simp[fresh,aH,az,dV,aM,ae,u2,cO]),Ψ⟩
def asF(x y:List Bd):bU au 155 [cO x,cO y] (aj (fa x y)):=QR x y
def asV{x y:List Bd}(h:¬x=y):(fa x y !=0)=true:=by have:¬fa x y=0:=fun e=>h ((mN.zero _ _).1 e);simp[this]
def asM(a c:dk):bU au 82 [a.e,c.e] (.bool (decide (a=c))):=by
 obtain⟨n,b,d,k,m⟩:=a;obtain⟨n',b0,t,bt,s⟩:=c;generalize bs:decide ((⟨n,b,d,k,m⟩:dk)=⟨n',b0,t,bt,s⟩)=R;simp only[dk.mk.injEq,dk.e]at bs⊢;by_cases H:n=n';rotate_left
 ·have o:R=false:=by rw[<-bs];simp[H]
  have U:(n !=n')=true:=by simp[H]
  rw[o];clear bs o;refine bH a1 Tryz.func82 Cs fun u=>?_;unfold yZ;exact cp
 subst H;have g:=QR b b0;by_cases G:b=b0;rotate_left
 ·have o:R=false:=by rw[<-bs];simp[G]
  have F:¬fa b b0=0:=fun h=>G ((mN.zero _ _).1 h);have V:(fa b b0 !=0)=true:=by simp[F]
  rw[o];clear bs o;refine bH a1 Tryz.func82 Cs fun u=>?_;unfold yZ;exact cp
 subst G;rw[(mN.zero b b).2 rfl]at g;by_cases E:d.length=t.length;rotate_left
 ·have o:R=false:=by rw[<-bs];simp only[iM];rintro⟨_,_,rfl,_⟩;exact E rfl
  have S:((d.length:Int) !=t.length)=true:=by simp;omega
  rw[o];clear bs o;refine bH a1 Tryz.func82 Cs fun u=>?_;unfold yZ;exact cp
 by_cases w:k.length=bt.length;rotate_left
 ·have o:R=false:=by rw[<-bs];simp only[iM];rintro⟨_,_,_,rfl,_⟩;exact w rfl
  have M:((k.length:Int) !=bt.length)=true:=by simp;omega
  rw[o];clear bs o;refine bH a1 Tryz.func82 Cs fun u=>?_;unfold yZ;exact cp
 by_cases B:m.length=s.length;rotate_left
 ·have o:R=false:=by rw[<-bs];simp only[iM];rintro⟨_,_,_,_,rfl⟩;exact B rfl
  have L:((m.length:Int) !=s.length)=true:=by simp;omega
  rw[o];clear bs o;refine bH a1 Tryz.func82 Cs fun u=>?_;unfold yZ;exact cp
 have J:d≠t->R=false:=fun h=>by rw[<-bs];simp[h]
 have K:k≠bt->R=false:=fun h=>by rw[<-bs];simp[h]
 have Q:m≠s->R=false:=fun h=>by rw[<-bs];simp[h]
 refine bH a1 Tryz.func82 Cs fun u=>?_;unfold yZ;have P:t.length<=68719476736:=by simp[eM,eV,eN,lim]at u;omega
 have O:bt.length<=68719476736:=by simp[eM,eV,eN,lim]at u;omega
 have N:s.length<=68719476736:=by simp[eM,eV,eN,lim]at u;omega
 clear u;simp;(repeat' first|refine al ?_|refine aO g ?_|refine aP g ?_|simp[E,w,B]);have v:=J;refine eZ [2,3,52,53] (fun i (_:Unit)=>[(54,aj i)]) t.length (s5 d t) () ca (fun k ab=>Ω) (fun _ j _=>?_) (fun i _ hi j _=>?_);rotate_left
 ·obtain⟨x,e⟩:∃x,d[i]? =some x:=⟨_,cl Ω⟩;obtain⟨y,f⟩:∃y,t[i]? =some y:=⟨_,cl hi⟩;have l:i<d.length:=Ω
  have r:∀h,(d[i]'h)=x:=fun h=>by rw[cl l]at e;exact e8 e
  have p:∀h,(t[i]'h)=y:=fun h=>by rw[cl hi]at f;exact e8 f
  have g:=asF x y;by_cases q:x=y
  ·subst q;have A:=j.step e f;rw[(mN.zero _ _).2 rfl]at g;clear j e f;simp[hi,l,r,p,-jr];(repeat' first|refine al ?_|refine aO g ?_|refine aP g ?_|simp[r,p,hi,l,-jr]);all_goals exact bY.rng () hi A ca
  ·rw[v (fun h=>q (by rw[h]at e;rw[e]at f;exact e8 f))];have F:=asV q;clear j e f;simp[hi,l,r,p,-jr];(repeat' first|refine al ?_|refine aO g ?_|refine aP g ?_|simp[r,p,hi,l,q,F,-jr]);all_goals simp[bZ,ba,bf,a6]
 have z:=j.fin E;subst z;clear j v J E;simp;(repeat' first|refine al ?_|simp[w]);have v:=K;refine eZ [2,3,69,70] (fun i (_:Unit)=>[(71,aj i)]) bt.length (s5 k bt) () ca (fun k ab=>Ω) (fun _ j _=>?_) (fun i _ hi j _=>?_);rotate_left
 ·obtain⟨x,e⟩:∃x,k[i]? =some x:=⟨_,cl Ω⟩;obtain⟨y,f⟩:∃y,bt[i]? =some y:=⟨_,cl hi⟩;have l:i<k.length:=Ω
  have r:∀h,(k[i]'h)=x:=fun h=>by rw[cl l]at e;exact e8 e
  have p:∀h,(bt[i]'h)=y:=fun h=>by rw[cl hi]at f;exact e8 f
  have g:=True.intro;by_cases q:x=y
  ·subst q;have A:=j.step e f;skip;clear j e f;simp[hi,l,r,p,-jr];(repeat' first|refine al ?_|refine aO g ?_|refine aP g ?_|simp[r,p,hi,l,-jr]);all_goals exact bY.rng () hi A ca
  ·rw[v (fun h=>q (by rw[h]at e;rw[e]at f;exact e8 f))];skip;clear j e f;simp[hi,l,r,p,-jr];(repeat' first|refine al ?_|refine aO g ?_|refine aP g ?_|simp[r,p,hi,l,q,q,-jr]);all_goals simp[bZ,ba,bf,a6]
 have z:=j.fin w;subst z;clear j v K w;simp;(repeat' first|refine al ?_|simp[B]);have v:=Q;refine eZ [3,85,86] (fun i (_:Unit)=>[(87,aj i)]) s.length (s5 m s) () ca (fun k ab=>Ω) (fun _ j _=>?_) (fun i _ hi j _=>?_);rotate_left
 ·obtain⟨x,e⟩:∃x,m[i]? =some x:=⟨_,cl Ω⟩;obtain⟨y,f⟩:∃y,s[i]? =some y:=⟨_,cl hi⟩;have l:i<m.length:=Ω
  have r:∀h,(m[i]'h)=x:=fun h=>by rw[cl l]at e;exact e8 e
  have p:∀h,(s[i]'h)=y:=fun h=>by rw[cl hi]at f;exact e8 f
  have g:=True.intro;by_cases q:x=y
  ·subst q;have A:=j.step e f;skip;clear j e f;simp[hi,l,r,p,-jr];(repeat' first|refine al ?_|refine aO g ?_|refine aP g ?_|simp[r,p,hi,l,-jr]);all_goals exact bY.rng () hi A ca
  ·rw[v (fun h=>q (by rw[h]at e;rw[e]at f;exact e8 f))];skip;clear j e f;simp[hi,l,r,p,-jr];(repeat' first|refine al ?_|refine aO g ?_|refine aP g ?_|simp[r,p,hi,l,q,q,-jr]);all_goals simp[bZ,ba,bf,a6]
 have z:=j.fin B;subst z;have o:R=true:=by rw[<-bs];simp
 rw[o];exact cp
@[simp]def arv:∀l:List (List Bt),cf (l.map gz)=l.map gz
 |[]=>rfl
 |x::xs=>by simp[cf,arv xs]
def abZ:∀{d:List (List Bt)},d.all hz=true->∃aY:List (List Bd),d=(aY.map fun x=>x.map Bd.b)/\∀x∈aY,fm x
 |[],_=>⟨[],rfl,Ψ⟩
 |x::d,h=>by
  rw[List.all_cons,cP]at h;obtain⟨aY,J,U⟩:=abZ h.2;obtain⟨s,b,c⟩:=yv.1 (sM.1 h.1);refine⟨s::aY,by rw[J,b];rfl,fun y a=>?_⟩;rcases gI.1 a with rfl|a
  ·exact c
  ·exact U y a
open Classical in
def acZ(r:gm)(M:iT r.m->ky r.m):bU au 27 [r.e] (.bool (decide (j8 r))):=by
 generalize bs:decide (j8 r)=R;have e:¬PQ r->R=false:=fun h=>by rw[<-bs,iM];exact fun cj=>h cj.raw
 obtain⟨n,b,d,k,m⟩:=r;simp only[gm.e]at M⊢;have J:=dT n 0 100000;by_cases g1:0<=n/\n<=100000;rotate_left
 ·rw[e fun h=>g1 h.n];rw[mX g1]at J;refine bH a1 Tryz.func27 zY fun j=>?_;unfold xb;exact cp
 rw[l6 g1]at J;have u:bU au 76 [bL (b.map Bt.e)] (.bool (hz b)):=QV b;cases g3:hz b
 ·rw[e fun h=>by obtain⟨s,f,P,_⟩:=h.b;have:=sM.2 (yv.2 ⟨s,f,P⟩);simp only at this;rw[g3]at this;cases this]
  rw[g3]at u;refine bH a1 Tryz.func27 zY fun j=>?_;unfold xb;exact cp
 rw[g3]at u;obtain⟨s,rfl,ai⟩:=yv.1 (sM.1 g3);clear g3;rw[zR]at u⊢;have w:=asE d;cases o:d.all hz
 ·rw[e fun h=>by
   have:d.all hz=true:=by rw[j4];intro x c;obtain⟨s,f,P,_⟩:=h.d x c;exact sM.2 (yv.2 ⟨s,f,P⟩)
   rw[o]at this;cases this]
  rw[o]at w;refine bH a1 Tryz.func27 zY fun j=>?_;unfold xb;exact cp
 rw[o]at w;obtain⟨aY,rfl,DX⟩:=abZ o;clear o;rw[LN]at w⊢;have F:=as0 k;by_cases g4:jN k;rotate_left
 ·rw[e fun h=>g4 h.k];rw[mX g4]at F;refine bH a1 Tryz.func27 zY fun j=>?_;unfold xb;exact cp
 rw[l6 g4]at F;have E:=as1 m;by_cases g5:iT m;rotate_left
 ·rw[e fun h=>g5 h.m];rw[mX g5]at E;refine bH a1 Tryz.func27 zY fun j=>?_;unfold xb;exact cp
 rw[l6 g5]at E;have v:=acV s n;cases g6:s.all (lK n)
 ·rw[e fun h=>by obtain⟨ak,f,_,N⟩:=h.b;have O:=w4 f;subst O;rw[w7.2 N]at g6;cases g6]
  rw[g6]at v;refine bH a1 Tryz.func27 zY fun j=>?_;unfold xb;have N9:=v;exact cp
 rw[g6]at v;have c4:=w7.1 g6;clear g6;have V:=M g5;have nT:=V.len g5;refine bH a1 Tryz.func27 zY fun j=>?_;unfold xb;have MO:aY.length<=68719476736:=by simp[eM,eV,eN,lim]at j;omega
 have jv:=tH g4;clear j M;simp;(repeat' first|refine al ?_|refine aO J ?_|refine aP J ?_|refine aO u ?_|refine aP u ?_|refine aO w ?_|refine aP w ?_|refine aO F ?_|refine aP F ?_|refine aO E ?_|refine aP E ?_|refine aO v ?_|refine aP v ?_|simp);refine eZ [1,48,49] (fun i (_:Unit)=>[(50,aj i)]) aY.length (tG (fun x=>ra x n) aY) () ca (fun k b ab=>Ω) (fun _ a _=>?_) (fun i _ hi a _=>?_);rotate_left
 ·obtain⟨y,H,fw⟩:=eW hi;have S:=fu H;have X:bU au 80 [cO y,aj n] (.bool (y.all (lK n))):=acV y n;cases p:y.all (lK n)
  ·rw[e fun h=>by obtain⟨ak,f,_,N⟩:=h.d _ (List.mem_map_of_mem S);have O:=w4 f;subst O;rw[w7.2 N]at p;cases p]
   rw[p]at X;clear a H S;exact cp
  ·rw[p]at X;have Y:=a.step H (w7.1 p);clear a H S;exact iU
 have Mz:=a.fin;clear a;simp;(repeat' first|refine al ?_|simp);refine eZ [1,61,62] (fun i (_:Unit)=>[(63,aj i)]) k.length (tG (fun x=>x.v<n) k) () ca (fun k b ab=>Ω) (fun _ a _=>?_) (fun i _ hi a _=>?_);rotate_left
 ·obtain⟨x,c,cB⟩:=eW hi;by_cases q:x.v<n
  ·have L:¬n<=x.v:=Ω
   have Y:=a.step c q;clear a c;exact iU
  ·have L:n<=x.v:=Ω
   rw[e fun h=>q (h.kb x (fu c))];clear a c;exact cp
 have K:=a.fin;clear a;simp;(repeat' first|refine al ?_|simp);have Z:=K;refine eZ [1,74,75] (fun i (_:Unit)=>[(76,aj i)]) m.length (tG (fun x=>x.v<n) m) () ca (fun k b ab=>Ω) (fun _ a _=>?_) (fun i _ hi a _=>?_);rotate_left
 ·obtain⟨x,c,cB⟩:=eW hi;by_cases q:x.v<n
  ·have L:¬n<=x.v:=Ω
   have Y:=a.step c q;clear a c;exact iU
  ·have L:n<=x.v:=Ω
   rw[e fun h=>q (h.mb x (fu c))];clear a c;exact cp
 have K:=a.fin;clear a;simp;(repeat' first|refine al ?_|simp);have uS:=K;have dy:rP ⟨n,s,aY,k,m⟩:=⟨g1,ai,DX,g4,g5,c4,Mz,Z,uS⟩;have W:=abR dy;obtain⟨G,kE,be⟩:=V;have g:=acU dy kE be;have l:j8 ⟨n,s.map Bd.b,aY.map fun x=>x.map Bd.b,k,m⟩↔kx ⟨n,s,aY,k,m⟩=some ⟨n,s,aY,k,m⟩:=W;clear W e;simp only[Fz]at g;generalize U:Ao ⟨n,s,aY,k,m⟩=t at g;have A:=asM t ⟨n,s,aY,k,m⟩;cases B:kx ⟨n,s,aY,k,m⟩with
 |none=>
  rw[B]at g l;have z:R=false:=by rw[<-bs,iM,l];simp
  rw[z];obtain⟨tn,FU,FV,rT,tm⟩:=t;simp only[lH,dk.e]at g;clear bs z l U A;exact cp
 |some t'=>
  have f:=Qh B;rw[U]at f;subst f;rw[B]at g l;have z:R=decide (t=⟨n,s,aY,k,m⟩):=by rw[<-bs,decide_eq_decide,l];simp
  rw[z];simp only[uk]at g;simp only[dk.e]at g A;clear bs z l B;generalize decide (t=(⟨n,s,aY,k,m⟩:dk))=Q at A⊢;clear U;obtain⟨tn,FU,FV,rT,tm⟩:=t;simp only at g A;exact cp
end
end Go.Proofs.YtahlgcidhnjlbaaGreat
