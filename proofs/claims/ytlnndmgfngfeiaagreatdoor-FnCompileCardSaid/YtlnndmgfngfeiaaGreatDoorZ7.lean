/- A program's text read. -/
import Derived.Test.YtlnndmgfngfeiaaGreatDoorProg
import Derived.Test.YtlnndmgfngfeiaaGreatDoorZ6
set_option linter.all false
set_option maxHeartbeats 4000000
set_option maxRecDepth 4000
open BitVec renaming ofInt->ra
open Bool renaming and_eq_true->bB,false_eq_true->iR,true_and->mD
open Go.IntKind renaming i64->iF
open Go.IntWalk renaming i64_in->lx
open Go.Lib renaming itoa->b8
open Go.Proofs.Tryz renaming prog->aP
open List renaming all_eq_true->gC,append_assoc->l2,getElem?_eq_getElem->bO,getElem?_eq_some_iff->cX,getElem?_map->oG,getElem?_of_mem->l4,length_append->dF,length_cons->e3,length_drop->kH,length_map->qk,length_nil->nj,length_pos_iff->re,length_take->pt,map_cons->eQ,mem_append->iG,mem_cons->gH,mem_of_getElem?->eR,take_add_one->jw,take_length->jl,take_of_length_le->pw,take_succ_cons->pz
open Nat renaming eq_or_lt_of_le->k1,le_refl->da,lt_or_ge->hS,zero_add->nk
open Option renaming getD_some->rh,isSome_none->tE,map_eq_some_iff->hT,map_some->su
open Option.some renaming inj->dZ,injEq->dL
open Prod.mk renaming injEq->gp
open _root_ renaming False->dK,Option->be,UInt8->aF,beq_eq_false_iff_ne->jL,beq_iff_eq->dO,decide_eq_false->ly,decide_eq_true->k2,decide_eq_true_eq->ef,if_neg->bf,if_pos->bN
namespace Go.Proofs.YtlnndmgfngfeiaaGreatDoor
section
open Go Go.Pv
def _root_.Go.Pv.Rl.e(x:Rl):ag:= .agg [.str x.name,.int .i64 x.ar,.int .i64 x.loc,.int .i64 x.body.kind,.str x.body.name,.slice 4 .no (x.body.ts.map enc),.slice 4 .no (x.body.gs.map Gm.e)]
theorem Rl.e_eq(x:Rl):x.e= .agg [.str x.name,.int .i64 x.ar,.int .i64 x.loc,.int .i64 x.body.kind,.str x.body.name,.slice 4 .no (x.body.ts.map enc),.slice 4 .no (x.body.gs.map Gm.e)]:=rfl
@[simp]theorem Rk(S:aJ->Prop)(x:Rl):ak S x.e=True:=by simp[Rl.e_eq,ak,ai]
theorem Rg(S:aJ->Prop):∀l:List Rl,ai S (l.map Rl.e)
 |[]=>trivial
 |x::l=>by simp only[eQ,ai,Rk,true_and];exact Rg S l
@[simp]theorem ajD(S:aJ->Prop)(l:List Rl):ai S (l.map Rl.e)=True:=eq_true (Rg S l)
@[simp]theorem afT(x:Rl):dr x.e=x.e:=by simp[Rl.e_eq,dr,cO]
@[simp]theorem afP:∀l:List Rl,cO (l.map Rl.e)=l.map Rl.e
 |[]=>rfl
 |x::l=>by simp only[eQ,cO,afT,afP l]
@[simp]theorem akN(x:Rl):ez x.e=true:=rfl
@[simp]theorem ah3(x:Rl):cells x.e=[.str x.name,.int .i64 x.ar,.int .i64 x.loc,.int .i64 x.body.kind,.str x.body.name,.slice 4 .no (x.body.ts.map enc),.slice 4 .no (x.body.gs.map Gm.e)]:=rfl
@[simp]theorem GW(x:Rl):ag.agg [.str x.name,.int .i64 x.ar,.int .i64 x.loc,.int .i64 x.body.kind,.str x.body.name,.slice 4 .no (x.body.ts.map enc),.slice 4 .no (x.body.gs.map Gm.e)]=x.e:=rfl
@[simp]theorem aix(off:Nat)(eD:Bool)(sz:Nat)(x:Rl):rD off eD sz x.e=if eD then some (off+sz<=7,.agg (([.str x.name,.int .i64 x.ar,.int .i64 x.loc,.int .i64 x.body.kind,.str x.body.name,.slice 4 .no (x.body.ts.map enc),.slice 4 .no (x.body.gs.map Gm.e)].drop off).take sz))else(([.str x.name,.int .i64 x.ar,.int .i64 x.loc,.int .i64 x.body.kind,.str x.body.name,.slice 4 .no (x.body.ts.map enc),.slice 4 .no (x.body.gs.map Gm.e)]:List ag)[off]?).map fun p=>(True,p):=rfl
@[simp]theorem aio(off:Nat)(eD:Bool)(sz:Nat)(x:Rl):n2 off eD sz (.eptr x.e)=if eD then some (off+sz<=7,.eptr (.agg (([.str x.name,.int .i64 x.ar,.int .i64 x.loc,.int .i64 x.body.kind,.str x.body.name,.slice 4 .no (x.body.ts.map enc),.slice 4 .no (x.body.gs.map Gm.e)].drop off).take sz)))else(([.str x.name,.int .i64 x.ar,.int .i64 x.loc,.int .i64 x.body.kind,.str x.body.name,.slice 4 .no (x.body.ts.map enc),.slice 4 .no (x.body.gs.map Gm.e)]:List ag)[off]?).map fun p=>(ez p=true/\cells p=[p],.eptr p):=rfl
@[simp]theorem ajp(x:Rl):Pv.isAgg 7 x.e:=⟨_,rfl,rfl⟩
def gW(P:List Rl):ag:= .agg [.slice 7 .no (P.map Rl.e)]
@[simp]theorem ajJ(S:aJ->Prop)(P:List Rl):ak S (gW P)=True:=by simp[gW,ak,ai]
@[simp]theorem akY(P:List Rl):dr (gW P)=gW P:=by simp[gW,dr,cO]
@[simp]theorem akL(P:List Rl):ez (gW P)=true:=rfl
@[simp]theorem ah1(P:List Rl):cells (gW P)=[.slice 7 .no (P.map Rl.e)]:=rfl
@[simp]theorem GV(P:List Rl):ag.agg [.slice 7 .no (P.map Rl.e)]=gW P:=rfl
def nd(P:List Rl)(s:List aF):Int:=match P.findIdx? fun r=>r.name==s with
 |some i=>i
 |none=> -1
theorem KM{P:List Rl}{s:List aF}{k:Nat}{e:Rl}(h:P[k]? =some e)(he:e.name=s)(aK:∀(j:Nat) (f:Rl),j<k->P[j]? =some f->f.name≠s):nd P s=(k:Nat):=by
 have aa:=(cX.1 h).1;have:P.findIdx? (fun e=>e.name==s)=some k:=by
  rw[List.findIdx?_eq_some_iff_getElem];refine⟨aa,?_,fun j al=>?_⟩
  ·rw[bO aa]at h;cases h;simp[he]
  ·have:=aK j _ al (bO Ω);simp[this]
 unfold nd;rw[this]
theorem S9{P:List Rl}{s:List aF}(aK:∀(j:Nat) (f:Rl),P[j]? =some f->f.name≠s):nd P s= -1:=by
 have:P.findIdx? (fun e=>e.name==s)=none:=by rw[List.findIdx?_eq_none_iff];intro x ad;obtain⟨j,al⟩:=l4 ad;simp[aK j x al]
 unfold nd;rw[this]
theorem S8(P:List Rl)(s:List aF):nd P s= -1/\P.find? (fun r=>r.name==s)=none\/ ∃(k:Nat) (r:Rl),nd P s=(k:Nat)/\P[k]? =some r/\P.find? (fun r=>r.name==s)=some r:=by
 cases aM:P.findIdx? fun e=>e.name==s with
 |none=>left;refine⟨by unfold nd;rw[aM],?_⟩;rw[List.findIdx?_eq_none_iff]at aM;exact List.find?_eq_none.2 fun x ad=>by simpa using aM x ad
 |some i=>
  right;obtain⟨I,J,av⟩:=List.findIdx?_eq_some_iff_getElem.1 aM;refine⟨i,P[i],by unfold nd;rw[aM],bO I,?_⟩;rw[List.find?_eq_some_iff_append];refine⟨J,P.take i,P.drop (i+1),?_,fun a b4=>?_⟩
  ·rw[<-List.drop_eq_getElem_cons I,List.take_append_drop]
  ·obtain⟨j,al,rfl⟩:=List.mem_iff_getElem.1 b4;rw[pt]at al;rw[List.getElem_take];simpa using av j Ω
def Fm(P:List Rl)(s:List aF)(i:Nat):Prop:= ∀(k:Nat) (e:Rl),k<i->P[k]? =some e->e.name≠s
theorem Ul(P:List Rl)(s:List aF):cg aP 174 [gW P,.str s] (.int .i64 (nd P s)):=by
 generalize bh:nd P s=R;refine bJ h6 Yn aec fun aG=>?_;unfold Nv;have fW:P.length<=68719476736:=by simp[gW,-GV,j1,iW,jA,bA]at aG;exact aG.1
 clear aG;simp;(with_reducible repeat' first|refine aA ?_|simp);refine fM (fun i (_:Unit)=>⟨[(1,.str s),(8,.slice 7 .no (P.map Rl.e)),(9,.int .i64 P.length),(10,.int .i64 i)],[],[],0,[]⟩) P.length (fun i _=>Fm P s i) () (by simp;exact c8) (fun k b aa=>Ω) (fun _ al _=>?_) (fun i _ aw al _=>?_)
 ·have:R= -1:=by rw[<-bh];exact S9 fun j f aM=>al j f (cX.1 aM).1 aM
  subst this;clear al bh;exact bZ
 ·obtain⟨e,he,eF⟩:=gd aw;have b2:aZ ((i:Int)+1):=by unfold aZ;omega
  by_cases aK:e.name=s
  ·have:R=i:=by rw[<-bh];exact KM he aK al
   subst this;clear al bh;subst aK;exact bZ
  ·have hb:(e.name==s)=false:=by simpa using aK
   have gr:Fm P s (i+1):=fun k f aa aM=>by
    rcases hS k i with h|h
    ·exact al k f h aM
    ·obtain rfl:k=i:=Ω
     rw[he]at aM;cases aM;exact aK
   clear al bh;exact qU
theorem NO(P:List Rl)(g:Gm):g.cf P=if g.kind=9 then(match P.find? fun r=>r.name==g.name with|some r=>r.ar==(g.ts.length:Int)|none=>false)else Gm.cfL P g.gs:=by cases g;rfl
theorem Hs(P:List Rl):∀l:List Gm,Gm.cfL P l=l.all fun x=>x.cf P
 |[]=>rfl
 |x::l=>by simp[Gm.cfL,Hs P l]
theorem agv(P:List Rl):∀(n:Nat) (g:Gm),g.sz<=n->cg aP 222 [gW P,g.e] (.bool (g.cf P)):=by
 intro n;induction n with
 |zero=>intro g aO;have:=g.sz_pos;omega
 |succ n a8=>
 intro g aO;rw[NO];by_cases eb:g.kind=9
 ·rw[bN eb];have cZ:=Ul P g.name;clear a8;rcases S8 P g.name with⟨I,J⟩|⟨k,r,I,J,av⟩
  ·rw[I]at cZ;rw[J];refine bJ h6 H0 Kk fun aG=>?_;unfold DG;clear aG;exact bZ
  ·rw[I]at cZ;rw[av];have aa:=(cX.1 J).1;have nv:∀h,(P[k]'h)=r:=fun h=>by rw[bO aa]at J;exact dZ J
   refine bJ h6 H0 Kk fun aG=>?_;unfold DG;clear aG;exact bZ
 ·rw[bf eb,Hs];have xt:(g.kind==9)=false:=jL.2 eb;generalize bh:(g.gs.all fun x=>x.cf P)=R;refine bJ h6 H0 Kk fun aG=>?_;unfold DG;have fW:g.gs.length<=68719476736:=by rw[Gm.e_eq]at aG;simp[j1,iW,jA,bA]at aG;omega
  clear aG;simp;(with_reducible repeat' first|refine aA ?_|simp[xt]);refine fM (fun i (_:Unit)=>⟨[(2,.ptr (.loc 0) 0),(30,.slice 4 .no (g.gs.map Gm.e)),(31,.int .i64 g.gs.length),(32,.int .i64 i)],[(.loc 0,[.slice 7 .no (P.map Rl.e)])],[],2,[]⟩) g.gs.length (fun i _=> ∀(k:Nat) x,k<i->g.gs[k]? =some x->x.cf P=true) () (by simp;exact c8) (fun k b aa=>Ω) (fun _ al _=>?_) (fun i _ aw al _=>?_)
  ·have:R=true:=by rw[<-bh,gC];intro x ad;obtain⟨k,aa⟩:=l4 ad;exact al k x (cX.1 aa).1 aa
   subst this;clear al bh a8;exact bZ
  ·obtain⟨x,ad⟩:∃e,g.gs[i]? =some e:=⟨_,bO aw⟩;have dn:∀h,(g.gs[i]'h)=x:=fun h=>by rw[bO aw]at ad;exact dZ ad
   have b2:aZ ((i:Int)+1):=by unfold aZ;omega
   have oh:=eR ad;have eM:=a8 x (by have:=g.gs_lt oh;omega);clear a8;cases aD:x.cf P
   ·have:R=false:=by rw[<-bh,Bool.eq_false_iff];intro h;have:=gC.1 h x oh;rw[aD]at this;cases this
    subst this;rw[aD]at eM;clear al bh;have pY:=eM;exact bZ
   ·rw[aD]at eM;have gr:∀(k:Nat) y,k<i+1->g.gs[k]? =some y->y.cf P=true:=fun k y aa bC=>by
     rcases hS k i with h|h
     ·exact al k y h bC
     ·obtain rfl:k=i:=Ω
      rw[ad]at bC;cases bC;exact aD
    clear al bh;have pY:=eM;exact qU
theorem agD(g:Gm):cg aP 176 [g.e] (.int .i64 (if g.fits 80 then g.sz else 0)):=by
 have e0:=Uo g;cases aM:g.fits 80
 ·rw[aM]at e0;refine bJ h6 OM Se fun aG=>?_;unfold Hg;clear aG;exact bZ
 ·rw[aM]at e0;have e5:=Uj g.sz g (da _) 80 Ω Ω;rw[(HB g 80 Ω).2 (by simp only[Gm.fits,bB,ef]at aM;omega)]at e5;rw[bN rfl];refine bJ h6 OM Se fun aG=>?_;unfold Hg;clear aG;have pY:=e5;exact bZ
theorem agw(P:List Rl)(g:Gm)(n:Int):cg aP 175 [gW P,g.e,.int .i64 n] (.bool (g.fits 80&&g.cf P&&mC g n)):=by
 have e0:=Uo g;have e5:=agv P g.sz g (da _);cases aM:g.fits 80
 ·rw[aM]at e0;simp only[Bool.false_and];refine bJ h6 Bg CA fun aG=>?_;unfold yU;clear aG;exact bZ
 rw[aM]at e0;simp only[mD];cases aD:g.cf P
 ·rw[aD]at e5;simp only[Bool.false_and];refine bJ h6 Bg CA fun aG=>?_;unfold yU;clear aG;have pY:=e5;exact bZ
 rw[aD]at e5;simp only[mD];have ao:g.shape=true:=by unfold Gm.fits at aM;rw[bB]at aM;exact aM.1
 have ga:cg aP 89 [g.e,.slice 1 .no []] (.slice 1 .no (dX (hX g.vs []))):=agu g.sz g (da _) ao [] ⟨.nil,Ψ⟩;have o4:=agN ao n;have hlen:=(o6.ins (l:=[]) ⟨.nil,Ψ⟩ (Ek g.sz g (da _) ao)).len;generalize mC g n=R at o4⊢;generalize hX g.vs []=U at ga o4 hlen;rcases List.eq_nil_or_concat U with e|⟨u,m,e⟩
 ·subst e;have aju:cg aP 89 [g.e,.slice 1 .no []] (.slice 1 .no []):=ga;have:R=true:=o4.2 (.inl rfl);subst this;clear ga o4 hlen;refine bJ h6 Bg CA fun aG=>?_;unfold yU;clear aG;have pY:=e5;exact bZ
 ·rw[List.concat_eq_append]at e;subst e;have qM:u.length<=100000:=by rw[dF,List.length_singleton]at hlen;omega
  have Qt:aZ ((u.length:Int)+1-1):=by unfold aZ;omega
  have cE:((u.length:Int)+1==0)=false:=jL.2 Ω;by_cases hm:m<n
  ·have:R=true:=o4.2 (.inr ⟨u,m,rfl,hm⟩);subst this;clear o4 hlen;refine bJ h6 Bg CA fun aG=>?_;unfold yU;clear aG;simp;(with_reducible repeat' first|refine aA ?_|refine aX e0 ?_|refine aY e0 ?_|refine aX e5 ?_|refine aY e5 ?_|refine aX ga ?_|refine aY ga ?_|simp[ao,Qt,cE,QH,hm]);simp[b1,KC,bn,bp,bk]
  ·have:R=false:=by
    cases h:R with
    |false=>rfl
    |true=>
     rcases o4.1 h with e|⟨e7,ajZ,e,cr⟩
     ·simp at e
     ·obtain⟨-,aU⟩:=List.append_inj' e rfl;simp at aU;subst aU;exact absurd cr hm
   subst this;clear o4 hlen;refine bJ h6 Bg CA fun aG=>?_;unfold yU;clear aG;simp;(with_reducible repeat' first|refine aA ?_|refine aX e0 ?_|refine aY e0 ?_|refine aX e5 ?_|refine aY e5 ?_|refine aX ga ?_|refine aY ga ?_|simp[ao,Qt,cE,QH,hm]);simp[b1,KC,bn,bp,bk]
theorem ade(P:List Rl):(P.map Rl.name).Nodup↔∀(i:Nat) (r:Rl),P[i]? =some r->nd P r.name=(i:Nat):=by
 constructor
 ·intro h i r hr;refine KM hr rfl fun j q al bG cE=>?_;obtain⟨bV,a2⟩:=cX.1 (show(P.map Rl.name)[j]? =some q.name by rw[oG,bG];rfl);obtain⟨bQ,b3⟩:=cX.1 (show(P.map Rl.name)[i]? =some r.name by rw[oG,hr];rfl);exact(List.pairwise_iff_getElem.1 h) j i bV bQ al (a2.trans (cE.trans b3.symm))
 ·intro h;refine List.pairwise_iff_getElem.2 fun i j aw al rP he=>?_;simp only[qk]at aw al;simp only[List.getElem_map]at he;have I:=h i _ (bO aw);have J:=h j _ (bO al);rw[he,J]at I;omega
def sB(P:List Rl)(i:Nat)(r:Rl):Prop:=nd P r.name=(i:Nat)/\fw r.name=true/\(0<=r.ar/\r.ar<=4)/\(0<=r.loc/\r.loc<=8)/\(r.body.fits 80&&r.body.cf P&&mC r.body (r.ar+r.loc))=true/\(if r.body.fits 80 then(r.body.sz:Int)else 0)<=60
theorem Kb(P:List Rl):il P=true↔P.length<=8/\∀(i:Nat) (r:Rl),P[i]? =some r->sB P i r:=by
 unfold il;rw[bB,bB,ef,ef,ade,gC];have key:∀r:Rl,Rl.ok P r=true↔fw r.name=true/\(0<=r.ar/\r.ar<=4)/\(0<=r.loc/\r.loc<=8)/\(r.body.fits 80&&r.body.cf P&&mC r.body (r.ar+r.loc))=true/\(if r.body.fits 80 then(r.body.sz:Int)else 0)<=60:=by
  intro r;have aS:=Da r.body (r.ar+r.loc);unfold Rl.ok;simp only[bB,ef,gC,aS];unfold yx Gm.fits;simp only[bB,ef];constructor
  ·rintro⟨⟨⟨⟨⟨a,b⟩,c⟩,d1,d2⟩,e⟩,f⟩;refine⟨a,b,c,⟨⟨⟨d1,Ω⟩,f⟩,e⟩,?_⟩;split<;>omega
  ·rintro⟨a,b,c,⟨⟨⟨d1,d2⟩,f⟩,e⟩,g⟩;rw[bN ⟨d1,d2⟩]at g;exact⟨⟨⟨⟨⟨a,b⟩,c⟩,d1,Ω⟩,e⟩,f⟩
 constructor
 ·rintro⟨⟨I,J⟩,av⟩;exact⟨I,fun i r hr=>⟨J i r hr,(key r).1 (av r (eR hr))⟩⟩
 ·rintro⟨I,J⟩;refine⟨⟨I,fun i r hr=>(J i r hr).1⟩,fun r hr=>?_⟩;obtain⟨i,aw⟩:=l4 hr;exact(key r).2 (J i r aw).2
def rl(P:List Rl)(i:Nat)(_:Unit):bb:=⟨[(1,.ptr (.loc 0) 0),(10,.slice 7 .no (P.map Rl.e)),(11,.int .i64 P.length),(12,.int .i64 i)],[(.loc 0,[.slice 7 .no (P.map Rl.e)])],[],1,[]⟩
set_option maxRecDepth 8000 in
theorem Uq(P:List Rl):cg aP 109 [gW P] (.bool (il P)):=by
 have n9:=Kb P;generalize il P=R at n9;by_cases fa:P.length<=8;rotate_left
 ·have:R=false:=by
   cases R with
   |false=>rfl
   |true=>exact absurd (n9.1 rfl).1 fa
  subst this;have Bp:(8:Int)<P.length:=Ω
  refine bJ h6 OO Sg fun aG=>?_;unfold Hi;clear aG;exact bZ
 have Bp:¬(8:Int)<P.length:=Ω
 refine bJ h6 OO Sg fun aG=>?_;unfold Hi;clear aG;simp;(with_reducible repeat' first|refine aA ?_|simp[Bp]);refine fM (rl P) P.length (fun i _=> ∀(k:Nat) (r:Rl),k<i->P[k]? =some r->sB P k r) () (by simp[rl];exact c8) (fun k b aa=>Ω) (fun _ al _=>?_) (fun i _ aw al _=>?_)
 ·have:R=true:=n9.2 ⟨fa,fun i r hr=>al i r (cX.1 hr).1 hr⟩;subst this;clear al n9;simp[rl];exact bZ
 obtain⟨r,hr⟩:∃e,P[i]? =some e:=⟨_,bO aw⟩;have gg:∀h,(P[i]'h)=r:=fun h=>by rw[bO aw]at hr;exact dZ hr
 have b2:aZ ((i:Int)+1):=by unfold aZ;omega
 have cZ:=Ul P r.name;have bX:=Up r.name;have ek:=ee r.ar 0 4;have nH:=ee r.loc 0 8;have ei:=agw P r.body (r.ar+r.loc);have lU:=agD r.body;by_cases cN:sB P i r
 ·have gr:∀(k:Nat) (q:Rl),k<i+1->P[k]? =some q->sB P k q:=fun k q aa bG=>by
   rcases hS k i with h|h
   ·exact al k q h bG
   ·obtain rfl:k=i:=Ω
    rw[hr]at bG;cases bG;exact cN
  obtain⟨aq,aU,bR,ds,hn,gY⟩:=cN;rw[aq]at cZ;rw[aU]at bX;rw[hn]at ei;rw[k2 bR]at ek;rw[k2 ds]at nH;have cn:¬60<(if r.body.fits 80 then(r.body.sz:Int)else 0):=Ω
  generalize (if r.body.fits 80 then(r.body.sz:Int)else 0)=z at lU cn;have fh:aZ (r.ar+r.loc):=by unfold aZ;omega
  clear al n9 aq aU hn gY;simp[rl,aw,gg];(with_reducible repeat' first|refine aA ?_|refine aX cZ ?_|refine aY cZ ?_|refine aX bX ?_|refine aY bX ?_|refine aX ek ?_|refine aY ek ?_|refine aX nH ?_|refine aY nH ?_|refine aX ei ?_|refine aY ei ?_|refine aX lU ?_|refine aY lU ?_|simp[aw,gg,b2,fh,cn]);exact bP.rng () aw gr (by simp[rl];exact c8)
 ·have:R=false:=by
   cases R with
   |false=>rfl
   |true=>exact absurd ((n9.1 rfl).2 i r hr) cN
  subst this;unfold sB at cN;clear al n9;generalize nd P r.name=m at cZ cN;generalize fw r.name=qX at bX cN;generalize (r.body.fits 80&&r.body.cf P&&mC r.body (r.ar+r.loc))=dy at ei cN;generalize (if r.body.fits 80 then(r.body.sz:Int)else 0)=z at lU cN;by_cases cJ:m=i;rotate_left
  ·have af:(m !=(i:Int))=true:=by simpa using cJ
   simp[rl,aw,gg];exact bZ
  subst cJ;cases qX
  ·simp[rl,aw,gg];exact bZ
  by_cases c3:0<=r.ar/\r.ar<=4;rotate_left
  ·rw[ly c3]at ek;simp[rl,aw,gg];exact bZ
  rw[k2 c3]at ek;by_cases c4:0<=r.loc/\r.loc<=8;rotate_left
  ·rw[ly c4]at nH;simp[rl,aw,gg];exact bZ
  rw[k2 c4]at nH;have fh:aZ (r.ar+r.loc):=by unfold aZ;omega
  cases dy
  ·simp[rl,aw,gg];exact bZ
  have cn:60<z:=by have:¬z<=60:=fun h=>cN ⟨rfl,rfl,c3,c4,rfl,h⟩;omega
  simp[rl,aw,gg];exact bZ
theorem TB{α:Type}{p:α->Bool}{s:List α}{i k:Nat}(qI:i<=k)(aa:k<=s.length)(j4:∀c∈(s.drop i).take (k-i),p c=true)(kN:∀c,s[k]? =some c->p c=false):(s.drop i).takeWhile p=(s.drop i).take (k-i)/\(s.drop i).dropWhile p=s.drop k:=by
 have I:s.drop i=(s.drop i).take (k-i)++s.drop k:=by have:=(List.take_append_drop (k-i) (s.drop i)).symm;rwa[List.drop_drop,show i+(k-i)=k by omega]at this
 have J:(s.drop k).takeWhile p=[]/\(s.drop k).dropWhile p=s.drop k:=by
  cases h:s.drop k with
  |nil=>simp
  |cons c r=>
   have:s[k]? =some c:=by rw[<-List.head?_drop,h];rfl
   have aD:=kN c this;simp[aD]
 constructor
 ·conv=>lhs;rw[I]
  rw[List.takeWhile_append_of_pos j4,J.1,List.append_nil]
 ·conv=>lhs;rw[I]
  rw[List.dropWhile_append_of_pos j4,J.2]
def u5(o:be (List (List aF))):ag:=match o with
 |some l=>.tuple [.slice 1 .no (de l),.bool true]
 |none=>.tuple [.slice 1 .no [],.bool false]
theorem adh(c:aF):x8 c=true↔(c.toNat:Int)=10\/(32<=(c.toNat:Int)/\(c.toNat:Int)<=126):=by
 unfold x8;simp only[Bool.or_eq_true,dO,bB,ef];have:c=10↔c.toNat=10:=by rw[<-UInt8.toNat_inj];rfl
 rw[this];omega
theorem tz{c d:aF}(h:c≠d):((c.toNat:Int)==(d.toNat:Int))=false:=jL.2 fun e=>h (UInt8.toNat_inj.1 Ω)
theorem T4{c d:aF}(h:c≠d):((c.toNat:Int) !=(d.toNat:Int))=true:=by simp only[bne,tz h];rfl
def Hj:C:=(ae [ps 2 1,cl 3 false] (.seq (ae [ab 8 0,bm 9 (.slen (.t 8)),a1 10 .gtr 9 100000] (bt 10 (ae [ps 2 1,cl 3 false] .ret) .skip)) (ae [ff 11 1 9 [],ab 4 11] (ae [cA 5 0] (.seq (.block 0 (.loop (.seq (ae [ab 12 5,ab 13 0,bm 14 (.slen (.t 13)),cC 15 .lss 12 14] (bt 15 .skip (.exit 0))) (.block 1 (ae [ab 16 5,a1 17 .add 16 1,ab 6 17] (.seq (ae [ab 18 0,ab 19 5,bm 20 (.sidx (.t 18) (.t 19)),bm 21 (.bin .eql false (.t 20) (.c (.int .u8 59)))] (bt 21 (.block 2 (.loop (.seq (ae [ab 22 6,ab 23 0,bm 24 (.slen (.t 23)),cC 25 .lss 22 24,ab 26 25,cj 26 true 27 0,cj 26 true 28 6,aB 26 true (bm 29 (.sidx (.t 27) (.t 28))),aB 26 true (bm 30 (.bin .neq false (.t 29) (.c (.int .u8 10)))),dq 31 26 30] (bt 31 .skip (.exit 2))) (.block 3 (.region [ab 32 6,a1 33 .add 32 1,ab 6 33]))))) (ae [ab 34 0,ab 35 5,bm 36 (.sidx (.t 34) (.t 35)),cW 37 172 36,eP 38 37] (bt 38 (.seq (.block 4 (.loop (.seq (ae [ab 39 6,ab 40 0,bm 41 (.slen (.t 40)),cC 42 .lss 39 41,ab 43 42,cj 43 true 44 0,cj 43 true 45 6,aB 43 true (bm 46 (.sidx (.t 44) (.t 45))),aB 43 true (cW 47 172 46),aB 43 true (eP 48 47),dq 49 43 48] (bt 49 .skip (.exit 4))) (.block 5 (.region [ab 50 6,a1 51 .add 50 1,ab 6 51]))))) (.region [ab 52 4,ab 53 0,ab 54 5,ab 55 6,bm 56 (.ssl (.t 53) (some (.t 54)) (some (.t 55))),ff 57 1 9 [.t 56],kp 58 1 9 52 57,ab 4 58])) (ae [ab 59 0,ab 60 5,bm 61 (.sidx (.t 59) (.t 60)),bm 62 (.bin .eql false (.t 61) (.c (.int .u8 40))),ab 63 62,cj 63 false 64 0,cj 63 false 65 5,aB 63 false (bm 66 (.sidx (.t 64) (.t 65))),aB 63 false (bm 67 (.bin .eql false (.t 66) (.c (.int .u8 41)))),c7 68 63 67] (bt 68 (.region [ab 69 4,ab 70 0,ab 71 5,ab 72 6,bm 73 (.ssl (.t 70) (some (.t 71)) (some (.t 72))),ff 74 1 9 [.t 73],kp 75 1 9 69 74,ab 4 75]) .skip)))))) (.region [ab 76 6,ab 5 76]))))))) (.seq (ae [cA 7 0] (.block 6 (.loop (.seq (ae [ab 77 7,ab 78 0,bm 79 (.slen (.t 78)),cC 80 .lss 77 79] (bt 80 .skip (.exit 6))) (.seq (.block 7 (ae [ab 83 0,ab 84 7,bm 85 (.sidx (.t 83) (.t 84)),bm 86 (.bin .neq false (.t 85) (.c (.int .u8 10))),ab 87 86,cj 87 true 88 0,cj 87 true 89 7,aB 87 true (bm 90 (.sidx (.t 88) (.t 89))),aB 87 true (bm 91 (.conv .i64 (.t 90))),aB 87 true (eg 92 127 [.t 91,(ca 32),(ca 126)]),aB 87 true (eP 93 92),dq 94 87 93] (bt 94 (ae [ps 2 1,cl 3 false] .ret) .skip))) (.region [ab 81 7,a1 82 .add 81 1,ab 7 82])))))) (.seq (ae [ab 95 4,cy 96 95,a1 97 .gtr 96 20000] (bt 97 (ae [ps 2 1,cl 3 false] .ret) .skip)) (ae [ab 98 4,ab 2 98,cl 3 true] .ret))))))))
@[simp] def F8:List cp:=[.tmp 2,.tmp 3]
def vq:C:=(ae [cd (.alloc 4 none (.agg [.int .i64 0,.str [],.slice 4 .nil [],.slice 4 .nil []])),cA 5 0,cl 6 false] (.seq (ae [ab 16 1,ab 17 0,cy 18 17,cC 19 .lss 16 18,ab 20 19,cj 20 true 21 0,cj 20 true 22 1,aB 20 true (di 23 1 21 22),aB 20 true (aW 24 1 23),kF 20 true 25 (.bin .eql false (.t 24) (.c (.str [116,114,117,101]))),dq 26 20 25] (bt 26 (ae [bm 27 (.build [.int .i64 0,.str [],.slice 4 .nil [],.slice 4 .nil []] []),ab 28 1,a1 29 .add 28 1,bM 4 4 27,ab 5 29,cl 6 true] .ret) .skip)) (.seq (ae [ab 30 1,ab 31 0,cy 32 31,cC 33 .lss 30 32,ab 34 33,cj 34 true 35 0,cj 34 true 36 1,aB 34 true (di 37 1 35 36),aB 34 true (aW 38 1 37),kF 34 true 39 (.bin .eql false (.t 38) (.c (.str [102,97,105,108]))),dq 40 34 39] (bt 40 (ae [bm 41 (.build [.int .i64 0,.str [],.slice 4 .nil [],.slice 4 .nil []] [(0,1,(ca 1))]),ab 42 1,a1 43 .add 42 1,bM 4 4 41,ab 5 43,cl 6 true] .ret) .skip)) (.seq (ae [ab 44 1,a1 45 .add 44 1,ab 46 0,cy 47 46,cC 48 .geq 45 47,ab 49 48,cj 49 false 50 0,cj 49 false 51 1,aB 49 false (di 52 1 50 51),aB 49 false (aW 53 1 52),kF 49 false 54 (.bin .neq false (.t 53) (.c (.str [40]))),c7 55 49 54] (bt 55 (ae [bm 56 (.build [.int .i64 0,.str [],.slice 4 .nil [],.slice 4 .nil []] []),bM 4 4 56,cA 5 0,cl 6 false] .ret) .skip)) (ae [ab 57 0,ab 58 1,a1 59 .add 58 1,di 60 1 57 59,aW 61 1 60,bm 62 (.build [.int .i64 0,.str [],.slice 4 .nil [],.slice 4 .nil []] [(0,1,(ca 9)),(1,1,(.t 61))]),cd (.alloc 7 none (.agg [.int .i64 0,.str [],.slice 4 .nil [],.slice 4 .nil []])),bM 4 7 62] (.seq (ae [eg 63 131 [],cy 64 63,cA 65 0] (ir 66 65 64 (.seq (.block 1 (ae [ab 67 65,di 68 1 63 65,aW 69 1 68,ab 8 67,ab 9 69] (ae [ab 70 9,ab 71 0,ab 72 1,a1 73 .add 72 1,di 74 1 71 73,aW 75 1 74,cC 76 .eql 70 75] (bt 76 (.region [ab 77 8,bm 78 (.build [.int .i64 0,.str [],.slice 4 .nil [],.slice 4 .nil []] [(0,1,(.t 77))]),bM 4 7 78]) .skip)))) (.region [a1 79 .add 65 1,ab 65 79])))) (ae [ab 80 1,a1 81 .add 80 2,ab 1 81] (.seq (.block 2 (.loop (.seq (ae [ab 82 1,ab 83 0,cy 84 83,cC 85 .lss 82 84,ab 86 85,cj 86 true 87 0,cj 86 true 88 1,aB 86 true (di 89 1 87 88),aB 86 true (aW 90 1 89),kF 86 true 91 (.bin .neq false (.t 90) (.c (.str [41]))),dq 92 86 91] (bt 92 .skip (.exit 2))) (.block 3 (ae [a6 93 0 1 7,aW 94 1 93,a1 95 .eql 94 7,ab 96 95,aB 96 false (a6 97 0 1 7),aB 96 false (aW 98 1 97),aB 96 false (a1 99 .eql 98 8),c7 100 96 99,ab 101 100,aB 101 false (a6 102 0 1 7),aB 101 false (aW 103 1 102),aB 101 false (a1 104 .eql 103 10),c7 105 101 104] (bt 105 (ae [ab 107 0,ab 108 1,dJ 109 154 107 108,ab 106 109,hx 110 0 106,hx 111 1 106,hx 112 2 106,cd (.alloc 10 none (.agg [.int .i64 0,.str [],.slice 4 .nil [],.slice 4 .nil []])),bM 4 10 110,ab 11 111,ab 12 112] (.seq (ae [ab 113 12,eP 114 113] (bt 114 (ae [bm 115 (.build [.int .i64 0,.str [],.slice 4 .nil [],.slice 4 .nil []] []),bM 4 4 115,cA 5 0,cl 6 false] .ret) .skip)) (ae [a6 116 3 1 7,aW 117 1 116,bH 118 4 10,ff 119 4 65 [.t 118],kp 120 4 65 117 119,a6 121 3 1 7,bM 1 121 120] (.region [ab 122 11,ab 1 122])))) (ae [ab 124 0,ab 125 1,dJ 126 209 124 125,ab 123 126,hx 127 0 123,hx 128 1 123,hx 129 2 123,jk 13 gi,bM 4 13 127,ab 14 128,ab 15 129] (.seq (ae [ab 130 15,eP 131 130] (bt 131 (ae [bm 132 (.build [.int .i64 0,.str [],.slice 4 .nil [],.slice 4 .nil []] []),bM 4 4 132,cA 5 0,cl 6 false] .ret) .skip)) (ae [a6 133 2 1 7,aW 134 1 133,bH 135 4 13,ff 136 4 40 [.t 135],kp 137 4 40 134 136,a6 138 2 1 7,bM 1 138 137] (.region [ab 139 14,ab 1 139])))))))))) (.seq (.fz true 7 (.drawn true 152 [bm 140 (.loadZ true 4 (.t 7)),ab 141 1,a1 142 .add 141 1,ab 143 1,ab 144 0,cy 145 144,cC 146 .lss 143 145,ab 147 146,aB 147 true (a6 148 0 1 7),aB 147 true (bm 149 (.loadZ false 1 (.t 148))),aB 147 true (a1 150 .gtr 149 1),dq 151 147 150,bM 4 4 140,ab 5 142,ab 6 151])) .ret)))))))))
@[simp] def kX:List cp:=[.cell 4 true 4,.tmp 5,.tmp 6]
def w4:C:=(ae [cl 2 false] (ae [ab 3 0,bm 4 (.bin .eql false (.t 3) (.c (.int .u8 32))),ab 5 4,cj 5 false 6 0,aB 5 false (bm 7 (.bin .eql false (.t 6) (.c (.int .u8 10)))),c7 8 5 7,ab 9 8,cj 9 false 10 0,aB 9 false (bm 11 (.bin .eql false (.t 10) (.c (.int .u8 40)))),c7 12 9 11,ab 13 12,cj 13 false 14 0,aB 13 false (bm 15 (.bin .eql false (.t 14) (.c (.int .u8 41)))),c7 16 13 15,ab 17 16,cj 17 false 18 0,aB 17 false (bm 19 (.bin .eql false (.t 18) (.c (.int .u8 59)))),c7 20 17 19,ab 2 20] .ret))
@[simp] def ae1:List cp:=[.tmp 2]
def w5:C:=(ae [jk 4 gi,cA 5 0,cl 6 false] (.seq (ae [ab 17 1,ab 18 0,cy 19 18,cC 20 .geq 17 19,ab 21 20,cj 21 false 22 0,cj 21 false 23 1,aB 21 false (di 24 1 22 23),aB 21 false (aW 25 1 24),kF 21 false 26 (.bin .eql false (.t 25) (.c (.str [41]))),c7 27 21 26,ab 28 27,cj 28 false 29 0,cj 28 false 30 1,aB 28 false (di 31 1 29 30),aB 28 false (aW 32 1 31),kF 28 false 33 (.bin .eql false (.t 32) (.c (.str [46]))),c7 34 28 33] (bt 34 (ae [pq 35 gi [],bM 4 4 35,cA 5 0,cl 6 false] .ret) .skip)) (.seq (ae [ab 36 0,ab 37 1,di 38 1 36 37,aW 39 1 38,bm 40 (.bin .neq false (.t 39) (.c (.str [40])))] (bt 40 (ae [ab 42 0,ab 43 1,di 44 1 42 43,aW 45 1 44,cW 46 251 45,ab 41 46,hx 47 0 41,hx 48 1 41,jk 7 gi,bM 4 7 47,ab 8 48] (ae [bH 49 4 7,ab 50 1,a1 51 .add 50 1,ab 52 8,bM 4 4 49,ab 5 51,ab 6 52] .ret)) .skip)) (ae [ff 53 4 40 [],ab 9 53] (ae [ab 54 1,a1 55 .add 54 1,ab 1 55] (.seq (.block 0 (.loop (.seq (ae [ab 56 1,ab 57 0,cy 58 57,cC 59 .lss 56 58,ab 60 59,cj 60 true 61 0,cj 60 true 62 1,aB 60 true (di 63 1 61 62),aB 60 true (aW 64 1 63),kF 60 true 65 (.bin .neq false (.t 64) (.c (.str [41]))),dq 66 60 65,ab 67 66,cj 67 true 68 0,cj 67 true 69 1,aB 67 true (di 70 1 68 69),aB 67 true (aW 71 1 70),kF 67 true 72 (.bin .neq false (.t 71) (.c (.str [46]))),dq 73 67 72] (bt 73 .skip (.exit 0))) (.block 1 (ae [ab 75 0,ab 76 1,dJ 77 209 75 76,ab 74 77,hx 78 0 74,hx 79 1 74,hx 80 2 74,jk 10 gi,bM 4 10 78,ab 11 79,ab 12 80] (.seq (ae [ab 81 12,eP 82 81] (bt 82 (ae [pq 83 gi [],bM 4 4 83,cA 5 0,cl 6 false] .ret) .skip)) (ae [ab 84 9,bH 85 4 10,ff 86 4 40 [.t 85],kp 87 4 40 84 86,ab 9 87] (.region [ab 88 11,ab 1 88])))))))) (ae [pq 89 gi [],jk 13 gi,bM 4 13 89] (.seq (ae [ab 90 1,ab 91 0,cy 92 91,cC 93 .lss 90 92,ab 94 93,cj 94 true 95 0,cj 94 true 96 1,aB 94 true (di 97 1 95 96),aB 94 true (aW 98 1 97),kF 94 true 99 (.bin .eql false (.t 98) (.c (.str [46]))),dq 100 94 99] (bt 100 (ae [ab 102 0,ab 103 1,a1 104 .add 103 1,dJ 105 209 102 104,ab 101 105,hx 106 0 101,hx 107 1 101,hx 108 2 101,jk 14 gi,bM 4 14 106,ab 15 107,ab 16 108] (.seq (ae [ab 109 16,eP 110 109,ab 111 110,cj 111 false 112 9,aB 111 false (cy 113 112),aB 111 false (a1 114 .eql 113 0),c7 115 111 114] (bt 115 (ae [pq 116 gi [],bM 4 4 116,cA 5 0,cl 6 false] .ret) .skip)) (ae [bH 117 4 14,bM 4 13 117] (.region [ab 118 15,ab 1 118])))) .skip)) (.seq (ae [ab 119 1,ab 120 0,cy 121 120,cC 122 .geq 119 121,ab 123 122,cj 123 false 124 0,cj 123 false 125 1,aB 123 false (di 126 1 124 125),aB 123 false (aW 127 1 126),kF 123 false 128 (.bin .neq false (.t 127) (.c (.str [41]))),c7 129 123 128] (bt 129 (ae [pq 130 gi [],bM 4 4 130,cA 5 0,cl 6 false] .ret) .skip)) (ae [ab 131 9,bH 132 4 13,dJ 133 252 131 132,ab 134 1,a1 135 .add 134 1,bM 4 4 133,ab 5 135,cl 6 true] .ret))))))))))
@[simp] def wy:List cp:=[.cell 4 true 4,.tmp 5,.tmp 6]
def w3:C:=(ae [cA 2 0,cl 3 false] (ae [ab 9 0,bm 10 (.slen (.t 9)),a1 11 .gtr 10 0,ab 12 11,cj 12 true 13 0,aB 12 true (bm 14 (.sidx (.t 13) (ca 0))),aB 12 true (bm 15 (.bin .eql false (.t 14) (.c (.int .u8 45)))),dq 16 12 15,ab 4 16] (ae [ab 17 0,ab 5 17] (.seq (ae [ab 18 4] (bt 18 (.region [ab 19 0,bm 20 (.ssl (.t 19) (some (ca 1)) none),ab 5 20]) .skip)) (.seq (ae [ab 21 5,bm 22 (.slen (.t 21)),a1 23 .lss 22 1,ab 24 23,cj 24 false 25 5,aB 24 false (bm 26 (.slen (.t 25))),aB 24 false (a1 27 .gtr 26 19),c7 28 24 27] (bt 28 (ae [cA 2 0,cl 3 false] .ret) .skip)) (ae [cA 6 0] (.seq (ae [cA 7 0] (.block 0 (.loop (.seq (ae [ab 29 7,ab 30 5,bm 31 (.slen (.t 30)),cC 32 .lss 29 31] (bt 32 .skip (.exit 0))) (.seq (.block 1 (ae [ab 35 5,ab 36 7,bm 37 (.sidx (.t 35) (.t 36)),bm 38 (.conv .i64 (.t 37)),a1 39 .sub 38 48,ab 8 39] (.seq (ae [ab 40 8,eg 41 127 [.t 40,(ca 0),(ca 9)],eP 42 41,ab 43 42,cj 43 false 44 6,cj 43 false 45 8,aB 43 false (bm 46 (.bin .add false (ca (-9223372036854775808)) (.t 45))),aB 43 false (a1 47 .quo 46 10),aB 43 false (cC 48 .lss 44 47),c7 49 43 48] (bt 49 (ae [cA 2 0,cl 3 false] .ret) .skip)) (.region [ab 50 6,a1 51 .mul 50 10,ab 52 8,cC 53 .sub 51 52,ab 6 53])))) (.region [ab 33 7,a1 34 .add 33 1,ab 7 34])))))) (.seq (ae [ab 54 4,eP 55 54] (bt 55 (.seq (ae [ab 56 6,a1 57 .eql 56 (-9223372036854775808)] (bt 57 (ae [cA 2 0,cl 3 false] .ret) .skip)) (.region [ab 58 6,bm 59 (.neg (.t 58)),ab 6 59])) .skip)) (.seq (ae [ab 60 6,cW 61 57 60,ab 62 0,cC 63 .neq 61 62] (bt 63 (ae [cA 2 0,cl 3 false] .ret) .skip)) (ae [ab 64 6,ab 2 64,cl 3 true] .ret))))))))))
@[simp] def F7:List cp:=[.tmp 2,.tmp 3]
def vp:C:=(ae [jk 2 gi,cl 3 false] (.seq (ae [ab 7 0,cW 8 188 7] (bt 8 (ae [ab 9 0,cW 10 195 9,bM 4 2 10,cl 3 true] .ret) .skip)) (ae [pq 11 gi [(0,1,(ca 3))],jk 4 gi,bM 4 4 11] (.seq (ae [ab 12 0,bm 13 (.slen (.t 12)),a1 14 .gtr 13 0,ab 15 14,cj 15 true 16 0,aB 15 true (bm 17 (.sidx (.t 16) (ca 0))),aB 15 true (bm 18 (.bin .eql false (.t 17) (.c (.int .u8 63)))),dq 19 15 18] (bt 19 (ae [a6 20 0 1 4,cd (.store 1 (.t 20) (ca 1))] (.region [ab 21 0,bm 22 (.ssl (.t 21) (some (ca 1)) none),ab 0 22])) .skip)) (ae [ab 24 0,cW 25 221 24,ab 23 25,hx 26 0 23,hx 27 1 23,ab 5 26,ab 6 27] (ae [ab 28 5,a6 29 1 1 4,bM 1 29 28] (.seq (ae [ab 30 6,eP 31 30,ab 32 31,aB 32 false (bH 33 4 4),aB 32 false (cW 34 270 33),aB 32 false (eP 35 34),c7 36 32 35] (bt 36 (ae [pq 37 gi [],bM 4 2 37,cl 3 false] .ret) .skip)) (ae [bH 38 4 4,bM 4 2 38,cl 3 true] .ret))))))))
@[simp] def ae4:List cp:=[.cell 2 true 4,.tmp 3]
def Nk:C:=(ae [eA 3 1,jk 4 gi] (.seq (ae [ab 6 0,cy 7 6,a1 8 .sub 7 1,ab 5 8] (.block 0 (.loop (.seq (ae [ab 9 5,a1 10 .geq 9 0] (bt 10 .skip (.exit 0))) (.seq (.block 1 (.drawn true 20 [ab 13 0,ab 14 5,di 15 4 13 14,bH 16 4 15,bH 17 4 3,dJ 18 141 16 17,bM 4 3 18])) (.region [ab 11 5,a1 12 .sub 11 1,ab 5 12])))))) (ae [bH 19 4 3,bM 4 4 19] .ret)))
@[simp] def ae3:List cp:=[.cell 4 true 4]
def wF:List (Nat×du):=[
 (3,⟨1,8,.int .i64,.int .i64 0⟩),
 (5,⟨1,1,.int .u8,.int .u8 0⟩),
 (9,⟨1,16,.str,.str []⟩),
 (38,⟨1,24,.slice 40,.slice 4 .nil []⟩),
 (40,⟨4,56,.struct [(0,3),(1,3),(2,9),(3,38)],.agg [.int .i64 0,.int .i64 0,.str [],.slice 4 .nil []]⟩),
 (63,⟨1,24,.slice 65,.slice 4 .nil []⟩),
 (65,⟨4,72,.struct [(0,3),(1,9),(2,38),(3,63)],.agg [.int .i64 0,.str [],.slice 4 .nil [],.slice 4 .nil []]⟩),
 (70,⟨1,24,.slice 9,.slice 1 .nil []⟩)]
theorem hh:fS aP wF=true:=by kernel_rfl
theorem Sh:cF wF Hj F8 1 Tryz.f107=true:=by kernel_rfl
theorem OP:aP.funcs[(107:Nat)]? =some Tryz.f107:=Tryz.func107
theorem yb:cF wF vq kX 2 Tryz.f154=true:=by kernel_rfl
theorem xi:aP.funcs[(154:Nat)]? =some Tryz.f154:=Tryz.func154
theorem zS:cF wF w4 ae1 1 Tryz.f172=true:=by kernel_rfl
theorem y8:aP.funcs[(172:Nat)]? =some Tryz.f172:=Tryz.func172
theorem zT:cF wF w5 wy 2 Tryz.f209=true:=by kernel_rfl
theorem y9:aP.funcs[(209:Nat)]? =some Tryz.f209:=Tryz.func209
theorem zR:cF wF w3 F7 1 Tryz.f221=true:=by kernel_rfl
theorem y7:aP.funcs[(221:Nat)]? =some Tryz.f221:=Tryz.func221
theorem ya:cF wF vp ae4 1 Tryz.f251=true:=by kernel_rfl
theorem xh:aP.funcs[(251:Nat)]? =some Tryz.f251:=Tryz.func251
theorem ad3:cF wF Nk ae3 2 Tryz.f252=true:=by kernel_rfl
theorem Ye:aP.funcs[(252:Nat)]? =some Tryz.f252:=Tryz.func252
theorem Av(c:aF):cg aP 172 [.int .u8 c.toNat] (.bool (oP c)):=by
 by_cases bV:c=32
 ·subst bV;rw[show oP _=true from rfl];refine bJ hh y8 zS fun aG=>?_;unfold w4;clear aG;exact bZ
 by_cases a2:c=10
 ·subst a2;rw[show oP _=true from rfl];refine bJ hh y8 zS fun aG=>?_;unfold w4;clear aG;exact bZ
 by_cases a3:c=40
 ·subst a3;rw[show oP _=true from rfl];refine bJ hh y8 zS fun aG=>?_;unfold w4;clear aG;exact bZ
 by_cases a4:c=41
 ·subst a4;rw[show oP _=true from rfl];refine bJ hh y8 zS fun aG=>?_;unfold w4;clear aG;exact bZ
 by_cases a5:c=59
 ·subst a5;rw[show oP _=true from rfl];refine bJ hh y8 zS fun aG=>?_;unfold w4;clear aG;exact bZ
 have af:oP c=false:=by unfold oP;simp[bV,a2,a3,a4,a5]
 have m1:((c.toNat:Int)==32)=false:=tz (d:=32) bV;have m2:((c.toNat:Int)==10)=false:=tz (d:=10) a2;have m3:((c.toNat:Int)==40)=false:=tz (d:=40) a3;have m4:((c.toNat:Int)==41)=false:=tz (d:=41) a4;have m5:((c.toNat:Int)==59)=false:=tz (d:=59) a5;rw[af];refine bJ hh y8 zS fun aG=>?_;unfold w4;clear aG;exact bZ
def mI(s:List aF)(x:List (List aF)×Nat):bb:=⟨[(0,.str s),(4,.slice 1 (.own (.loc 0)) (de x.1)),(5,.int .i64 x.2)],[],[(.loc 0,⟨x.1.length,9,1,none⟩)],1,[]⟩
def qp(s:List aF)(out:List (List aF))(i:Nat)(k:Nat):bb:=⟨[(0,.str s),(4,.slice 1 (.own (.loc 0)) (de out)),(5,.int .i64 i),(6,.int .i64 k)],[],[(.loc 0,⟨out.length,9,1,none⟩)],1,[]⟩
def tI(s:List aF)(out:List (List aF))(k:Nat):bb:=⟨[(0,.str s),(4,.slice 1 (.own (.loc 0)) (de out)),(7,.int .i64 k)],[],[(.loc 0,⟨out.length,9,1,none⟩)],1,[]⟩
set_option maxRecDepth 8000 in
theorem agI(s:List aF)(ao:s.length<=bA):cg aP 107 [.str s] (u5 (nN s)):=by
 by_cases I:s.length<=100000;rotate_left
 ·have:nN s=none:=by unfold nN;rw[bf (fun h=>I h.1)]
  rw[this,u5];have Px:(100000:Int)<s.length:=Ω
  refine bJ hh OP Sh fun aG=>?_;unfold Hj;clear aG;exact bZ
 have Px:¬(100000:Int)<s.length:=Ω
 generalize bh:u5 (nN s)=R;have rL:ak (fun _=>dK) R:=by rw[<-bh];unfold u5;split<;>simp[ak,ai]
 refine bJ hh OP Sh (fun aG=>?_) (hr:=rL);unfold Hj;clear aG;simp[Px];refine gZ (mI s) (fun x=>s.length-x.2) (fun x=>x.2<=s.length/\x.1++iO (s.drop x.2)=iO s/\x.1.length<=x.2) ([],0) (by simp[mI,de];exact c8) ⟨Ψ,Ψ,Ψ⟩ ?_;rintro⟨out,i⟩ ⟨aw,hinv,qL⟩ _;simp only at aw hinv qL;rcases k1 aw with rfl|b7
 ·rw[List.drop_length,TX,List.append_nil]at hinv;subst hinv;simp[mI];refine gZ (tI s (iO s)) (fun k=>s.length-k) (fun k=>k<=s.length/\∀c∈s.take k,x8 c=true) 0 (by simp[tI];exact⟨by simp[fresh,ai,ak,bc,ah,Pv.look,br,eG],cb (by simp[fresh,ai,ak,bc,ah,Pv.look,br,eG]),cc (by simp[fresh,ai,ak,b6,ah,Pv.look,br,eG]),Ψ⟩) ⟨Ω,Ψ⟩ ?_;rintro k ⟨aa,ec⟩ _;rcases k1 aa with rfl|b7
  ·rw[jl]at ec;have j4:∀c∈s,x8 c=true:=ec;by_cases aK:(iO s).length<=20000
   ·have hb:¬(20000:Int)<(iO s).length:=Ω
    have aI:nN s=some (iO s):=by unfold nN;rw[bN ⟨I,j4,aK⟩]
    simp[tI];(with_reducible repeat' first|refine aA ?_|simp[hb]);rw[<-bh,aI,u5];simp[b1,F8,bn,bp,bk]
   ·have hb:(20000:Int)<(iO s).length:=Ω
    have aI:nN s=none:=by unfold nN;rw[bf fun h=>aK h.2.2]
    simp[tI];(with_reducible repeat' first|refine aA ?_|simp[hb]);rw[<-bh,aI,u5];simp[b1,F8,bn,bp,bk]
  ·obtain⟨c,aD,eX⟩:=gd b7;have b2:aZ ((k:Int)+1):=by unfold aZ;omega
   have o3:=adh c;have dx:=ee c.toNat 32 126;have hw:iF.wrap (c.toNat:Int)=c.toNat:=lx _ (by have:=c.toNat_lt;omega);by_cases vS:x8 c=true
   ·have qK:∀x∈s.take (k+1),x8 x=true:=fun x ad=>by
     rw[jw,aD]at ad;rcases iG.1 ad with ad|ad
     ·exact ec x ad
     ·simp at ad;subst ad;exact vS
    rcases o3.1 vS with e9|h32
    ·have sW:((c.toNat:Int) !=10)=false:=by simpa using e9
     clear ec o3 vS;simp[tI,b7,eX,aD];(with_reducible repeat' first|refine aA ?_|refine aX dx ?_|refine aY dx ?_|simp[b7,eX,aD,sW,b2,hw]);refine bP.whl (k+1) Ω ⟨b7,qK⟩ (by simp[tI];exact⟨by simp[fresh,ai,ak,bc,ah,Pv.look,br,eG],cb (by simp[fresh,ai,ak,bc,ah,Pv.look,br,eG]),cc (by simp[fresh,ai,ak,b6,ah,Pv.look,br,eG]),Ψ⟩)
    ·have sW:((c.toNat:Int) !=10)=true:=bne_iff_ne.2 Ω;rw[k2 h32]at dx;clear ec o3 vS;simp[tI,b7,eX,aD];(with_reducible repeat' first|refine aA ?_|refine aX dx ?_|refine aY dx ?_|simp[b7,eX,aD,sW,b2,hw]);refine bP.whl (k+1) Ω ⟨b7,qK⟩ (by simp[tI];exact⟨by simp[fresh,ai,ak,bc,ah,Pv.look,br,eG],cb (by simp[fresh,ai,ak,bc,ah,Pv.look,br,eG]),cc (by simp[fresh,ai,ak,b6,ah,Pv.look,br,eG]),Ψ⟩)
   ·have aI:nN s=none:=by unfold nN;rw[bf];intro h;exact vS (h.2.1 c (eR aD))
    have sW:((c.toNat:Int) !=10)=true:=bne_iff_ne.2 fun e=>vS (o3.2 (.inl e));rw[ly fun e=>vS (o3.2 (.inr e))]at dx;clear ec o3 vS;simp[tI,b7,eX,aD];(with_reducible repeat' first|refine aA ?_|refine aX dx ?_|refine aY dx ?_|simp[b7,eX,aD,sW,b2,hw]);rw[<-bh,aI,u5];simp[b1,F8,bn,bp,bk]
 obtain⟨c,aD,eX⟩:=gd b7;have b2:aZ ((i:Int)+1):=by unfold aZ;omega
 have E3:out.length+1<=bA:=by unfold bA;omega
 have eh:=Av c;rw[mb aD,Lp]at hinv;by_cases s5:c=32\/c=10
 ·rw[bN s5]at hinv;rcases s5 with rfl|rfl
  ·have eh:cg aP 172 [.int .u8 32] (.bool true):=Av 32;simp[mI,b7,eX,aD];(with_reducible repeat' first|refine aA ?_|refine aX eh ?_|refine aY eh ?_|simp[b7,eX,aD,b2]);refine bP.whl (out,i+1) (by simp;omega) ⟨b7,hinv,by simp;omega⟩ (by simp[mI];exact⟨by simp[fresh,ai,ak,bc,ah,Pv.look,br,eG],cb (by simp[fresh,ai,ak,bc,ah,Pv.look,br,eG]),cc (by simp[fresh,ai,ak,b6,ah,Pv.look,br,eG]),Ψ⟩)
  ·have eh:cg aP 172 [.int .u8 10] (.bool true):=Av 10;simp[mI,b7,eX,aD];(with_reducible repeat' first|refine aA ?_|refine aX eh ?_|refine aY eh ?_|simp[b7,eX,aD,b2]);refine bP.whl (out,i+1) (by simp;omega) ⟨b7,hinv,by simp;omega⟩ (by simp[mI];exact⟨by simp[fresh,ai,ak,bc,ah,Pv.look,br,eG],cb (by simp[fresh,ai,ak,bc,ah,Pv.look,br,eG]),cc (by simp[fresh,ai,ak,b6,ah,Pv.look,br,eG]),Ψ⟩)
 rw[bf s5]at hinv;by_cases Bo:c=59
 ·rw[bN Bo]at hinv;subst Bo;clear eh;simp[mI,b7,eX,aD];(with_reducible repeat' first|refine aA ?_|simp[b7,eX,aD,b2]);refine gZ (qp s out i) (fun k=>s.length-k) (fun k=>i+1<=k/\k<=s.length/\∀c∈(s.drop (i+1)).take (k-(i+1)),x6 c=true) (i+1) (by simp[qp];exact⟨by simp[fresh,ai,ak,bc,ah,Pv.look,br,eG],cb (by simp[fresh,ai,ak,bc,ah,Pv.look,br,eG]),cc (by simp[fresh,ai,ak,b6,ah,Pv.look,br,eG]),Ψ⟩) ⟨da _,b7,Ψ⟩ ?_;rintro k ⟨fO,fG,lg⟩ _;have kN:(∀c,s[k]? =some c->x6 c=false)->k<=s.length/\out++iO (s.drop k)=iO s/\out.length<=k:=by intro he;refine⟨fG,?_,Ω⟩;rw[<-(TB fO fG lg he).2];exact hinv
  rcases k1 fG with rfl|j7
  ·have cN:=kN fun c h=>by simp at h
   clear kN lg;simp[qp];(with_reducible repeat' first|refine aA ?_|simp);refine bP.whl (out,s.length) (by simp;omega) cN (by simp[mI];exact⟨by simp[fresh,ai,ak,bc,ah,Pv.look,br,eG],cb (by simp[fresh,ai,ak,bc,ah,Pv.look,br,eG]),cc (by simp[fresh,ai,ak,b6,ah,Pv.look,br,eG]),Ψ⟩)
  ·obtain⟨d,a7,hdi⟩:=gd j7;have hL:aZ ((k:Int)+1):=by unfold aZ;omega
   by_cases e9:d=10
   ·subst e9;have cN:=kN fun c h=>by rw[a7]at h;cases h;rfl
    clear kN lg;simp[qp,j7,hdi,a7];(with_reducible repeat' first|refine aA ?_|simp[j7,hdi,a7]);refine bP.whl (out,k) (by simp;omega) cN (by simp[mI];exact⟨by simp[fresh,ai,ak,bc,ah,Pv.look,br,eG],cb (by simp[fresh,ai,ak,bc,ah,Pv.look,br,eG]),cc (by simp[fresh,ai,ak,b6,ah,Pv.look,br,eG]),Ψ⟩)
   ·have aK:((d.toNat:Int) !=10)=true:=T4 (d:=10) e9;have eO:∀c∈(s.drop (i+1)).take (k+1-(i+1)),x6 c=true:=fun x ad=>by
     rw[show k+1-(i+1)=(k-(i+1))+1 by omega,jw,List.getElem?_drop,show i+1+(k-(i+1))=k by omega,a7]at ad;rcases iG.1 ad with ad|ad
     ·exact lg x ad
     ·simp at ad;subst ad;simp[x6,e9]
    clear kN lg;simp[qp,j7,hdi,a7];(with_reducible repeat' first|refine aA ?_|simp[j7,hdi,a7,aK,hL]);refine bP.whl (k+1) Ω ⟨Ω,j7,eO⟩ (by simp[qp];exact⟨by simp[fresh,ai,ak,bc,ah,Pv.look,br,eG],cb (by simp[fresh,ai,ak,bc,ah,Pv.look,br,eG]),cc (by simp[fresh,ai,ak,b6,ah,Pv.look,br,eG]),Ψ⟩)
 rw[bf Bo]at hinv;have acS:((c.toNat:Int)==59)=false:=tz (d:=59) Bo;have hle:(i:Int)<=i+1:=Ω
 have IW:(i:Int)+1<=s.length:=Ω
 by_cases E4:c=40\/c=41
 ·rw[bN E4]at hinv;have Qp:(s.take (i+1)).drop i=[c]:=by rw[List.drop_take,mb aD];simp
  rcases E4 with rfl|rfl
  ·have eh:cg aP 172 [.int .u8 40] (.bool true):=Av 40;simp[mI,b7,eX,aD];(with_reducible repeat' first|refine aA ?_|refine aX eh ?_|refine aY eh ?_|simp[b7,eX,aD,b2,Qp,hle,IW,E3]);refine bP.whl (out++[[40]],i+1) (by simp;omega) ⟨b7,(by simpa using hinv),by simp;omega⟩ (by simp[mI,de];exact⟨by simp[fresh,ai,ak,bc,ah,Pv.look,br,eG],cb (by simp[fresh,ai,ak,bc,ah,Pv.look,br,eG]),cc (by simp[fresh,ai,ak,b6,ah,Pv.look,br,eG]),Ψ⟩)
  ·have eh:cg aP 172 [.int .u8 41] (.bool true):=Av 41;simp[mI,b7,eX,aD];(with_reducible repeat' first|refine aA ?_|refine aX eh ?_|refine aY eh ?_|simp[b7,eX,aD,b2,Qp,hle,IW,E3]);refine bP.whl (out++[[41]],i+1) (by simp;omega) ⟨b7,(by simpa using hinv),by simp;omega⟩ (by simp[mI,de];exact⟨by simp[fresh,ai,ak,bc,ah,Pv.look,br,eG],cb (by simp[fresh,ai,ak,bc,ah,Pv.look,br,eG]),cc (by simp[fresh,ai,ak,b6,ah,Pv.look,br,eG]),Ψ⟩)
 rw[bf E4]at hinv;have Z4:lS c=true:=(Jv c).2 ⟨s5,Bo,E4⟩;have ub:oP c=false:=by simpa[lS]using Z4
 rw[ub]at eh;simp[mI,b7,eX,aD];(with_reducible repeat' first|refine aA ?_|refine aX eh ?_|refine aY eh ?_|simp[b7,eX,aD,acS,b2]);refine gZ (qp s out i) (fun k=>s.length-k) (fun k=>i+1<=k/\k<=s.length/\∀c∈(s.drop (i+1)).take (k-(i+1)),lS c=true) (i+1) (by simp[qp];exact⟨by simp[fresh,ai,ak,bc,ah,Pv.look,br,eG],cb (by simp[fresh,ai,ak,bc,ah,Pv.look,br,eG]),cc (by simp[fresh,ai,ak,b6,ah,Pv.look,br,eG]),Ψ⟩) ⟨da _,b7,Ψ⟩ ?_;rintro k ⟨fO,fG,lg⟩ _;have kN:(∀c,s[k]? =some c->lS c=false)->k<=s.length/\(out++[(s.take k).drop i])++iO (s.drop k)=iO s/\(out++[(s.take k).drop i]).length<=k:=by intro he;refine⟨fG,?_,by simp;omega⟩;obtain⟨aI,a7⟩:=TB fO fG lg he;rw[aI,a7]at hinv;rw[List.drop_take,mb aD,show k-i=(k-(i+1))+1 from by omega,pz,l2];exact hinv
 have nv:(i:Int)<=k:=Ω
 have ER:(k:Int)<=s.length:=Ω
 clear hinv eh;rcases k1 fG with rfl|j7
 ·have cN:=kN fun c h=>by simp at h
  clear kN lg;simp[qp];(with_reducible repeat' first|refine aA ?_|simp[nv,ER,E3]);refine bP.whl (out++[(s.take s.length).drop i],s.length) (by simp;omega) cN (by simp[mI,de];exact⟨by simp[fresh,ai,ak,bc,ah,Pv.look,br,eG],cb (by simp[fresh,ai,ak,bc,ah,Pv.look,br,eG]),cc (by simp[fresh,ai,ak,b6,ah,Pv.look,br,eG]),Ψ⟩)
 ·obtain⟨d,a7,hdi⟩:=gd j7;have hL:aZ ((k:Int)+1):=by unfold aZ;omega
  have jW:=Av d;cases hw:lS d
  ·have Ev:oP d=true:=by simpa[lS]using hw
   rw[Ev]at jW;have cN:=kN fun c h=>by rw[a7]at h;cases h;exact hw
   clear kN lg;simp[qp,j7,hdi,a7];(with_reducible repeat' first|refine aA ?_|refine aX jW ?_|refine aY jW ?_|simp[j7,hdi,a7,nv,ER,E3]);refine bP.whl (out++[(s.take k).drop i],k) (by simp;omega) cN (by simp[mI,de];exact⟨by simp[fresh,ai,ak,bc,ah,Pv.look,br,eG],cb (by simp[fresh,ai,ak,bc,ah,Pv.look,br,eG]),cc (by simp[fresh,ai,ak,b6,ah,Pv.look,br,eG]),Ψ⟩)
  ·have Ev:oP d=false:=by simpa[lS]using hw
   rw[Ev]at jW;have eO:∀c∈(s.drop (i+1)).take (k+1-(i+1)),lS c=true:=fun x ad=>by
    rw[show k+1-(i+1)=(k-(i+1))+1 by omega,jw,List.getElem?_drop,show i+1+(k-(i+1))=k by omega,a7]at ad;rcases iG.1 ad with ad|ad
    ·exact lg x ad
    ·simp at ad;subst ad;exact hw
   clear kN lg;simp[qp,j7,hdi,a7];(with_reducible repeat' first|refine aA ?_|refine aX jW ?_|refine aY jW ?_|simp[j7,hdi,a7,hL]);refine bP.whl (k+1) Ω ⟨Ω,j7,eO⟩ (by simp[qp];exact⟨by simp[fresh,ai,ak,bc,ah,Pv.look,br,eG],cb (by simp[fresh,ai,ak,bc,ah,Pv.look,br,eG]),cc (by simp[fresh,ai,ak,b6,ah,Pv.look,br,eG]),Ψ⟩)
def zV(o:be Int):ag:= .tuple [.int .i64 (o.getD 0),.bool o.isSome]
def kx(l:List aF):Int:=l.foldl (fun a c=>a*10+((c.toNat:Int)-48)) 0
def tP(l:List aF):Prop:= ∀c∈l,48<=c.toNat/\c.toNat<=57
theorem y1(l:List aF)(c:aF):kx (l++[c])=kx l*10+((c.toNat:Int)-48):=by simp[kx]
theorem rz(u:Nat):kx (Lib.decDigits u)=u:=by
 induction u using Nat.strongRecOn with
 |_ u a8=>
  by_cases hu:u<10
  ·rw[sJ hu];simp only[kx,List.foldl_cons,List.foldl_nil,A9 hu];omega
  ·rw[vv Ω,y1,a8 _ Ω,A9 (Nat.mod_lt _ Ω)];omega
theorem rv(u:Nat):tP (Lib.decDigits u):=A7 u
theorem Ba{l:List aF}(h:tP l):∀k,0<=kx (l.take k)/\kx (l.take k)<=kx (l.take (k+1)):=by
 intro k;induction k with
 |zero=>
  cases l with
  |nil=>simp[kx]
  |cons c r=>have:=h c Ψ;simp[kx];omega
 |succ k a8=>
  rcases hS (k+1) l.length with aa|aa
  ·obtain⟨c,aD⟩:∃c,l[k+1]? =some c:=⟨_,bO aa⟩;have a7:=h c (eR aD);have e:l.take (k+1+1)=l.take (k+1)++[c]:=by rw[jw,aD];rfl
   rw[e,y1];omega
  ·rw[pw (by omega:l.length<=k+1+1),pw aa]at*;omega
theorem DU{l:List aF}(h:tP l){k m:Nat}(aaI:k<=m):kx (l.take k)<=kx (l.take m):=by
 induction m with
 |zero=>rw[show k=0 by omega];exact Int.le_refl _
 |succ m a8=>
  rcases k1 aaI with rfl|b7
  ·exact Int.le_refl _
  ·have:=a8 Ω;have:=(Ba h m).2;omega
def wA(s:List aF):Bool:=match s with|c::_=>c==45|[]=>false
def zH(s:List aF):List aF:=if wA s then s.drop 1 else s
theorem q1{s:List aF}{n:Int}(h:b8 n=s):zH s=Lib.decDigits n.natAbs/\(wA s=true↔n<0):=by
 subst h;unfold b8;by_cases aK:n<0
 ·rw[bN aK];have:wA (45::Lib.decDigits n.natAbs)=true:=rfl;simp[zH,this,aK]
 ·rw[bf aK,show n.natAbs=n.toNat by omega];have:wA (Lib.decDigits n.toNat)=false:=by
   cases a7:Lib.decDigits n.toNat with
   |nil=>rfl
   |cons c r=>have:=A7 n.toNat c (by rw[a7];simp);simp only[wA,jL];rintro rfl;revert this;decide
  simp[zH,this,aK]
theorem rs{u:Nat}(h:u<=9223372036854775808):(Lib.decDigits u).length<=19:=by have:=DP 19 u Ω;omega
def mH(s t:List aF)(neg:Bool)(k:Nat)(acc:Int):bb:=⟨[(0,.str s),(4,.bool neg),(5,.str t),(6,.int .i64 acc),(7,.int .i64 k)],[],[],0,[]⟩
theorem LD(s:List aF):cg aP 221 [.str s] (zV (h5 s)):=by
 generalize bh:zV (h5 s)=R;have rL:ak (fun _=>dK) R:=by rw[<-bh];simp[zV,ak,ai]
 cases mS:wA s
 ·have qJ:zH s=s:=by unfold zH;rw[mS];rfl
  have PV:(s=[]->dK)->∃c r,s=c::r/\((c.toNat:Int)==45)=false:=by
   cases s with
   |nil=>intro h;exact absurd rfl h
   |cons c r=>exact fun _=>⟨c,r,rfl,tz (d:=45) (by simpa[wA]using mS)⟩
  by_cases vM:s.length<1
  ·have ao:s=[]:=List.length_eq_zero_iff.1 Ω;have bq:h5 s=none:=r9 fun m hm hit=>by
    obtain⟨aq,aU⟩:=q1 hit;have jG:¬m<0:=fun h=>by rw[aU.2 h]at mS;cases mS
    rw[qJ]at aq;have jd:=hm;unfold aZ at jd;have fF:=rv m.natAbs;have j6:=rz m.natAbs;have kL:=rs (u:=m.natAbs) Ω;have cE:=nZ m.natAbs;rw[<-aq]at fF j6 kL cE;exact cE ao
   have:R= .tuple [.int .i64 0,.bool false]:=by rw[<-bh,bq];rfl
   subst this;subst ao;clear bh;refine bJ hh y7 zR (fun aG=>?_);unfold w3;clear aG;exact bZ
  have fb:0<s.length:=Ω
  have sZ:(0:Int)<s.length:=Ω
  have IU:¬(s.length:Int)<1:=Ω
  obtain⟨c0,z1,EA,ZF⟩:=PV (fun h=>by rw[h]at fb;simp at fb);have xy:s[0]? =some c0:=by rw[EA];rfl
  have ZU:∀h,(s[0]'h)=c0:=fun h=>by rw[bO fb]at xy;exact dZ xy
  clear PV EA;by_cases ig:19<s.length
  ·have bq:h5 s=none:=r9 fun m hm hit=>by
    obtain⟨aq,aU⟩:=q1 hit;have jG:¬m<0:=fun h=>by rw[aU.2 h]at mS;cases mS
    rw[qJ]at aq;have jd:=hm;unfold aZ at jd;have fF:=rv m.natAbs;have j6:=rz m.natAbs;have kL:=rs (u:=m.natAbs) Ω;have cE:=nZ m.natAbs;rw[<-aq]at fF j6 kL cE;omega
   have:R= .tuple [.int .i64 0,.bool false]:=by rw[<-bh,bq];rfl
   subst this;have BL:(19:Int)<s.length:=Ω
   clear bh bq;refine bJ hh y7 zR (fun aG=>?_);unfold w3;clear aG;exact bZ
  have BL:¬(19:Int)<s.length:=Ω
  refine bJ hh y7 zR (fun aG=>?_) (hr:=rL);unfold w3;clear aG;simp;(with_reducible repeat' first|refine aA ?_|simp[fb,sZ,xy,ZU,ZF,IU,BL,ig]);refine fM (mH s s false) s.length (fun k acc=>acc= -kx (s.take k)/\tP (s.take k)/\ -9223372036854775808<=acc) 0 (by simp[mH];exact c8) ⟨by simp[kx],by simp[tP],Ω⟩ (fun acc al _=>?_) (fun k acc aa al _=>?_)
  ·obtain⟨iw,gR,IN⟩:=al;rw[jl]at iw gR;have qG:0<=kx s:=by have:=(Ba gR 0).1;have:=DU gR (Nat.zero_le s.length);rw[jl]at this;omega
   by_cases EV:acc= -9223372036854775808
   ·have bq:h5 s=none:=r9 fun m hm hit=>by
     obtain⟨aq,aU⟩:=q1 hit;have jG:¬m<0:=fun h=>by rw[aU.2 h]at mS;cases mS
     rw[qJ]at aq;have jd:=hm;unfold aZ at jd;have fF:=rv m.natAbs;have j6:=rz m.natAbs;have kL:=rs (u:=m.natAbs) Ω;have cE:=nZ m.natAbs;rw[<-aq]at fF j6 kL cE;omega
    have:R= .tuple [.int .i64 0,.bool false]:=by rw[<-bh,bq];rfl
    subst this;clear bh bq iw gR;simp[mH];exact bZ
   ·have fh:aZ (-acc):=by unfold aZ;omega
    have EU:(acc== -9223372036854775808)=false:=jL.2 EV;have Fa:iF.wrap (-acc)= -acc:=lx _ Ω;have cZ:=yw (-acc) fh;by_cases he:b8 (-acc)=s
    ·have:R= .tuple [.int .i64 (-acc),.bool true]:=by rw[<-bh,FY.2 ⟨fh,he⟩];rfl
     subst this;rw[he]at cZ;clear bh iw gR;simp[mH];((with_reducible repeat' first|refine aA ?_|refine aX cZ ?_|refine aY cZ ?_|simp[EU,Fa,fh]|((first|apply cu|apply cw|apply cv)<;>intro h<;>try simp at h))<;>(try exact cK));simp[b1,F7,bn,bp,bk]
    ·have bq:h5 s=none:=r9 fun m hm hit=>by
      obtain⟨aq,aU⟩:=q1 hit;have jG:¬m<0:=fun h=>by rw[aU.2 h]at mS;cases mS
      rw[qJ]at aq;have jd:=hm;unfold aZ at jd;have fF:=rv m.natAbs;have j6:=rz m.natAbs;have kL:=rs (u:=m.natAbs) Ω;have cE:=nZ m.natAbs;rw[<-aq]at fF j6 kL cE;exact he (by have:m= -acc:=Ω;rw[<-this];exact hit)
     have:R= .tuple [.int .i64 0,.bool false]:=by rw[<-bh,bq];rfl
     subst this;have Bz:(b8 (-acc) !=s)=true:=by simpa using he
     clear bh bq iw gR;simp[mH];((with_reducible repeat' first|refine aA ?_|refine aX cZ ?_|refine aY cZ ?_|simp[EU,Fa,fh,Bz]|((first|apply cu|apply cw|apply cv)<;>intro h<;>try simp at h))<;>(try exact cK));simp[b1,F7,bn,bp,bk]
  ·obtain⟨iw,gR,IN⟩:=al;obtain⟨c,aD,eX⟩:=gd aa;have mi:=c.toNat_lt;have hw:iF.wrap (c.toNat:Int)=c.toNat:=lx _ Ω;have Iu:aZ ((c.toNat:Int)-48):=by unfold aZ;omega
   have hL:aZ ((k:Int)+1):=by unfold aZ;omega
   have dx:=ee ((c.toNat:Int)-48) 0 9;have e:s.take (k+1)=s.take k++[c]:=by rw[jw,aD];rfl
   by_cases By:48<=c.toNat/\c.toNat<=57
   ·have qG:=(Ba gR k).1;rw[List.take_take,Nat.min_self]at qG;have xI:aZ (-9223372036854775808+((c.toNat:Int)-48)):=by unfold aZ;omega
    have bG:(-9223372036854775808+((c.toNat:Int)-48)).tdiv 10= -((9223372036854775808-((c.toNat:Int)-48))/10):=by rw[show(-9223372036854775808+((c.toNat:Int)-48))= -(9223372036854775808-((c.toNat:Int)-48)) by omega,Int.neg_tdiv,Int.tdiv_eq_ediv_of_nonneg Ω]
    rw[k2 Ω]at dx;have I6:iF.wrap ((-9223372036854775808+((c.toNat:Int)-48)).tdiv 10)= -((9223372036854775808-((c.toNat:Int)-48))/10):=by rw[bG];exact lx _ Ω
    by_cases nz:acc< -((9223372036854775808-((c.toNat:Int)-48))/10)
    ·have xx:9223372036854775808<kx (s.take (k+1)):=by rw[e,y1];omega
     have bq:h5 s=none:=r9 fun m hm hit=>by
      obtain⟨aq,aU⟩:=q1 hit;have jG:¬m<0:=fun h=>by rw[aU.2 h]at mS;cases mS
      rw[qJ]at aq;have jd:=hm;unfold aZ at jd;have fF:=rv m.natAbs;have j6:=rz m.natAbs;have kL:=rs (u:=m.natAbs) Ω;have cE:=nZ m.natAbs;rw[<-aq]at fF j6 kL cE;have:=DU fF (show k+1<=s.length by omega);rw[jl]at this;omega
     have:R= .tuple [.int .i64 0,.bool false]:=by rw[<-bh,bq];rfl
     subst this;clear bh bq iw gR xx bG;simp[mH,aa,eX,aD];exact bZ
    ·have I:aZ (acc*10):=by unfold aZ;omega
     have J:aZ (acc*10-((c.toNat:Int)-48)):=by unfold aZ;omega
     have gr:acc*10-((c.toNat:Int)-48)= -kx (s.take (k+1))/\tP (s.take (k+1))/\ -9223372036854775808<=acc*10-((c.toNat:Int)-48):=by
      refine⟨by rw[e,y1];omega,fun x ad=>?_,Ω⟩;rw[e]at ad;rcases iG.1 ad with ad|ad
      ·exact gR x ad
      ·simp at ad;subst ad;exact By
     clear bh iw gR bG;simp[mH,aa,eX,aD];(with_reducible repeat' first|refine aA ?_|refine aX dx ?_|refine aY dx ?_|simp[aa,eX,aD,hw,Iu,xI,I6,nz,I,J,hL]);refine bP.rng (acc*10-((c.toNat:Int)-48)) aa gr (by simp[mH];exact c8)
   ·rw[ly Ω]at dx;have bq:h5 s=none:=r9 fun m hm hit=>by
     obtain⟨aq,aU⟩:=q1 hit;have jG:¬m<0:=fun h=>by rw[aU.2 h]at mS;cases mS
     rw[qJ]at aq;have jd:=hm;unfold aZ at jd;have fF:=rv m.natAbs;have j6:=rz m.natAbs;have kL:=rs (u:=m.natAbs) Ω;have cE:=nZ m.natAbs;rw[<-aq]at fF j6 kL cE;exact By (fF c (eR aD))
    have:R= .tuple [.int .i64 0,.bool false]:=by rw[<-bh,bq];rfl
    subst this;clear bh bq iw gR;simp[mH,aa,eX,aD];exact bZ
 ·obtain⟨t,rfl⟩:∃eB,s=45::eB:=by
   cases s with
   |nil=>cases mS
   |cons c r=>exact⟨r,by simp[wA]at mS;rw[mS]⟩
  have qJ:zH (45::t)=t:=rfl;by_cases vM:t.length<1
  ·have aI:t=[]:=List.length_eq_zero_iff.1 Ω;have bq:h5 (45::t)=none:=r9 fun m hm hit=>by obtain⟨aq,aU⟩:=q1 hit;have jG:m<0:=aU.1 rfl;rw[qJ]at aq;have jd:=hm;unfold aZ at jd;have fF:=rv m.natAbs;have j6:=rz m.natAbs;have kL:=rs (u:=m.natAbs) Ω;have cE:=nZ m.natAbs;rw[<-aq]at fF j6 kL cE;exact cE aI
   have:R= .tuple [.int .i64 0,.bool false]:=by rw[<-bh,bq];rfl
   subst this;subst aI;clear bh;refine bJ hh y7 zR (fun aG=>?_);unfold w3;clear aG;exact bZ
  have IU:¬(t.length:Int)<1:=Ω
  have aaM:¬t=[]:=fun h=>by rw[h]at vM;simp at vM
  have xN:(0:Int)<(t.length:Int)+1:=Ω
  have BQ:(1:Int)<=(t.length:Int)+1:=Ω
  by_cases ig:19<t.length
  ·have bq:h5 (45::t)=none:=r9 fun m hm hit=>by obtain⟨aq,aU⟩:=q1 hit;have jG:m<0:=aU.1 rfl;rw[qJ]at aq;have jd:=hm;unfold aZ at jd;have fF:=rv m.natAbs;have j6:=rz m.natAbs;have kL:=rs (u:=m.natAbs) Ω;have cE:=nZ m.natAbs;rw[<-aq]at fF j6 kL cE;omega
   have:R= .tuple [.int .i64 0,.bool false]:=by rw[<-bh,bq];rfl
   subst this;have BL:(19:Int)<t.length:=Ω
   clear bh bq;refine bJ hh y7 zR (fun aG=>?_);unfold w3;clear aG;exact bZ
  have BL:¬(19:Int)<t.length:=Ω
  refine bJ hh y7 zR (fun aG=>?_) (hr:=rL);unfold w3;clear aG;simp;(with_reducible repeat' first|refine aA ?_|simp[xN,BQ,IU,aaM,BL,ig]);refine fM (mH (45::t) t true) t.length (fun k acc=>acc= -kx (t.take k)/\tP (t.take k)/\ -9223372036854775808<=acc) 0 (by simp[mH];exact c8) ⟨by simp[kx],by simp[tP],Ω⟩ (fun acc al _=>?_) (fun k acc aa al _=>?_)
  ·obtain⟨iw,gR,IN⟩:=al;rw[jl]at iw gR;have qG:0<=kx t:=by have:=(Ba gR 0).1;have:=DU gR (Nat.zero_le t.length);rw[jl]at this;omega
   have fh:aZ acc:=by unfold aZ;omega
   have cZ:=yw (acc) fh;by_cases he:b8 (acc)=(45::t)
   ·have:R= .tuple [.int .i64 (acc),.bool true]:=by rw[<-bh,FY.2 ⟨fh,he⟩];rfl
    subst this;rw[he]at cZ;clear bh iw gR;simp[mH];exact bZ
   ·have bq:h5 (45::t)=none:=r9 fun m hm hit=>by obtain⟨aq,aU⟩:=q1 hit;have jG:m<0:=aU.1 rfl;rw[qJ]at aq;have jd:=hm;unfold aZ at jd;have fF:=rv m.natAbs;have j6:=rz m.natAbs;have kL:=rs (u:=m.natAbs) Ω;have cE:=nZ m.natAbs;rw[<-aq]at fF j6 kL cE;exact he (by have:m=acc:=Ω;rw[<-this];exact hit)
    have:R= .tuple [.int .i64 0,.bool false]:=by rw[<-bh,bq];rfl
    subst this;have Bz:(b8 (acc) !=(45::t))=true:=by simpa using he
    clear bh bq iw gR;simp[mH];((with_reducible repeat' first|refine aA ?_|refine aX cZ ?_|refine aY cZ ?_|simp[fh,Bz]|((first|apply cu|apply cw|apply cv)<;>intro h<;>try simp at h))<;>(try exact cK));simp[b1,F7,bn,bp,bk]
  ·obtain⟨iw,gR,IN⟩:=al;obtain⟨c,aD,eX⟩:=gd aa;have mi:=c.toNat_lt;have hw:iF.wrap (c.toNat:Int)=c.toNat:=lx _ Ω;have Iu:aZ ((c.toNat:Int)-48):=by unfold aZ;omega
   have hL:aZ ((k:Int)+1):=by unfold aZ;omega
   have dx:=ee ((c.toNat:Int)-48) 0 9;have e:t.take (k+1)=t.take k++[c]:=by rw[jw,aD];rfl
   by_cases By:48<=c.toNat/\c.toNat<=57
   ·have qG:=(Ba gR k).1;rw[List.take_take,Nat.min_self]at qG;have xI:aZ (-9223372036854775808+((c.toNat:Int)-48)):=by unfold aZ;omega
    have bG:(-9223372036854775808+((c.toNat:Int)-48)).tdiv 10= -((9223372036854775808-((c.toNat:Int)-48))/10):=by rw[show(-9223372036854775808+((c.toNat:Int)-48))= -(9223372036854775808-((c.toNat:Int)-48)) by omega,Int.neg_tdiv,Int.tdiv_eq_ediv_of_nonneg Ω]
    rw[k2 Ω]at dx;have I6:iF.wrap ((-9223372036854775808+((c.toNat:Int)-48)).tdiv 10)= -((9223372036854775808-((c.toNat:Int)-48))/10):=by rw[bG];exact lx _ Ω
    by_cases nz:acc< -((9223372036854775808-((c.toNat:Int)-48))/10)
    ·have xx:9223372036854775808<kx (t.take (k+1)):=by rw[e,y1];omega
     have bq:h5 (45::t)=none:=r9 fun m hm hit=>by obtain⟨aq,aU⟩:=q1 hit;have jG:m<0:=aU.1 rfl;rw[qJ]at aq;have jd:=hm;unfold aZ at jd;have fF:=rv m.natAbs;have j6:=rz m.natAbs;have kL:=rs (u:=m.natAbs) Ω;have cE:=nZ m.natAbs;rw[<-aq]at fF j6 kL cE;have:=DU fF (show k+1<=t.length by omega);rw[jl]at this;omega
     have:R= .tuple [.int .i64 0,.bool false]:=by rw[<-bh,bq];rfl
     subst this;clear bh bq iw gR xx bG;simp[mH,aa,eX,aD];exact bZ
    ·have I:aZ (acc*10):=by unfold aZ;omega
     have J:aZ (acc*10-((c.toNat:Int)-48)):=by unfold aZ;omega
     have gr:acc*10-((c.toNat:Int)-48)= -kx (t.take (k+1))/\tP (t.take (k+1))/\ -9223372036854775808<=acc*10-((c.toNat:Int)-48):=by
      refine⟨by rw[e,y1];omega,fun x ad=>?_,Ω⟩;rw[e]at ad;rcases iG.1 ad with ad|ad
      ·exact gR x ad
      ·simp at ad;subst ad;exact By
     clear bh iw gR bG;simp[mH,aa,eX,aD];(with_reducible repeat' first|refine aA ?_|refine aX dx ?_|refine aY dx ?_|simp[aa,eX,aD,hw,Iu,xI,I6,nz,I,J,hL]);refine bP.rng (acc*10-((c.toNat:Int)-48)) aa gr (by simp[mH];exact c8)
   ·rw[ly Ω]at dx;have bq:h5 (45::t)=none:=r9 fun m hm hit=>by obtain⟨aq,aU⟩:=q1 hit;have jG:m<0:=aU.1 rfl;rw[qJ]at aq;have jd:=hm;unfold aZ at jd;have fF:=rv m.natAbs;have j6:=rz m.natAbs;have kL:=rs (u:=m.natAbs) Ω;have cE:=nZ m.natAbs;rw[<-aq]at fF j6 kL cE;exact By (fF c (eR aD))
    have:R= .tuple [.int .i64 0,.bool false]:=by rw[<-bh,bq];rfl
    subst this;clear bh bq iw gR;simp[mH,aa,eX,aD];exact bZ
def M6:C:=(ae [cA 4 0] (ae [ab 6 0,ab 7 1,dJ 8 70 6 7,ab 5 8] (ae [ab 9 5,cW 10 106 9,a1 11 .mul 10 256,ab 12 5,cW 13 106 12,cC 14 .add 11 13,ab 4 14] .ret)))
@[simp] def aeY:List cp:=[.tmp 4]
def NA:C:=(ae [bm 4 (.mov (.c (.nilp)))] (ae [ab 7 0,cW 8 139 7,ab 5 8] (.seq (ae [cA 6 0] (.block 0 (.loop (.seq (ae [ab 9 6,ab 10 1,cC 11 .lss 9 10] (bt 11 .skip (.exit 0))) (.seq (.block 1 (.region [ab 14 5,cW 15 106 14])) (.region [ab 12 6,a1 13 .add 12 1,ab 6 13])))))) (ae [ab 16 5,ab 4 16] .ret))))
@[simp] def S4:List cp:=[.tmp 4]
def Ni:C:=(ae [jk 6 gi] (ae [ab 9 0,eg 10 140 [.t 9,(ca 8)],ab 7 10] (.seq (ae [ab 11 1,a1 12 .gtr 11 2,ab 13 12,cj 13 true 14 7,aB 13 true (a1 15 .geq 14 3),dq 16 13 15] (bt 16 (ae [ab 17 0,ab 18 1,a1 19 .quo 18 2,ab 20 2,eg 21 72 [.t 17,.t 19,.t 20],jk 8 gi,bM 4 8 21] (.seq (.drawn false 42 [bH 22 4 8,ab 23 0,ab 24 1,a1 25 .quo 24 2,ab 26 2,eg 27 72 [.t 23,.t 25,.t 26],dJ 28 141 22 27,bM 4 6 28]) .ret)) .skip)) (.seq (ae [ab 29 2,a1 30 .gtr 29 0,ab 31 30,cj 31 true 32 7,aB 31 true (a1 33 .rem 32 2),aB 31 true (a1 34 .eql 33 0),dq 35 31 34] (bt 35 (ae [ab 36 0,ab 37 2,dJ 38 140 36 37,cW 39 142 38,bM 4 6 39] .ret) .skip)) (ae [ab 40 0,cW 41 143 40,bM 4 6 41] .ret)))))
@[simp] def F9:List cp:=[.cell 6 true 4]
def Nc:C:=(ae [cl 4 false] (ae [ab 5 0,ab 6 1,dJ 7 140 5 6,a1 8 .eql 7 0,ab 4 8] .ret))
@[simp] def SU:List cp:=[.tmp 4]
def Hk:C:=(ae [cA 2 0] (ae [ab 4 0,ab 5 0,ko 6 5,a6 7 2 1 6,aW 8 1 7,bm 9 (.bin .mul true (.t 8) (ca 6364136223846793005)),bm 10 (.bin .add true (.t 9) (ca 1442695040888963407)),ko 11 4,a6 12 2 1 11,bM 1 12 10] (.seq (.drawn true 58 [ab 13 0,ko 14 13,a6 15 2 1 14,aW 16 1 15,bm 17 (.bin .shr false (.t 16) (.c (.int .u64 33))),ab 18 0,ko 19 18,a6 20 2 1 19,aW 21 1 20,bm 22 (.bin .shr false (.t 21) (.c (.int .u64 45))),cC 23 .xor 17 22,a1 24 .and 23 255,ab 3 24]) (.seq (.seq (.drawn true 58 [ab 25 0,ko 26 25,a6 27 1 1 26,aW 28 1 27,ab 29 0,ko 30 29,a6 31 0 1 30,aW 32 1 31,cy 33 32,cC 34 .lss 28 33]) (bt 34 (.seq (.drawn true 58 [ab 35 3,ab 36 0,ko 37 36,a6 38 0 1 37,aW 39 1 38,ab 40 0,ko 41 40,a6 42 1 1 41,aW 43 1 42,di 44 1 39 43,aW 45 1 44,bm 46 (.conv .i64 (.t 45)),cC 47 .add 35 46,a1 48 .and 47 255,ab 3 48]) (.region [ab 49 0,ab 50 0,ko 51 50,a6 52 1 1 51,aW 53 1 52,a1 54 .add 53 1,ko 55 49,a6 56 1 1 55,bM 1 56 54])) .skip)) (ae [ab 57 3,ab 2 57] .ret)))))
@[simp] def Kz:List cp:=[.tmp 2]
def Nb:C:=(ae [bm 2 (.mov (.c (.nilp)))] (ae [ab 5 0,cy 6 5,bm 7 (.bin .add false (ca 90411) (.t 6)),ab 3 7] (.seq (ae [cA 4 0] (.block 0 (.loop (.seq (ae [ab 8 4,ab 9 0,cy 10 9,cC 11 .lss 8 10,ab 12 11,cj 12 true 13 4,aB 12 true (a1 14 .lss 13 4000),dq 15 12 14] (bt 15 .skip (.exit 0))) (.seq (.block 1 (.region [ab 18 3,a1 19 .mul 18 131,ab 20 0,ab 21 4,di 22 1 20 21,aW 23 1 22,bm 24 (.conv .i64 (.t 23)),cC 25 .add 19 24,a1 26 .add 25 7,a1 27 .and 26 1073741823,ab 3 27])) (.region [ab 16 4,a1 17 .add 16 1,ab 4 17])))))) (ae [ab 28 0,ab 29 3,bm 30 (.build [.slice 1 .nil [],.int .i64 0,.int .i64 0] [(0,1,(.t 28)),(2,1,(.t 29))]),cd (.box 31 (some 401) (.t 30)),ab 2 31] .ret))))
@[simp] def SS:List cp:=[.tmp 2]
def M9:C:=(ae [cA 4 0] (.seq (ae [ab 5 1,a1 6 .leq 5 0] (bt 6 (ae [cA 4 0] .ret) .skip)) (ae [ab 7 0,cW 8 106 7,ab 9 1,cC 10 .rem 8 9,ab 4 10] .ret)))
@[simp] def Ky:List cp:=[.tmp 4]
def Ng:C:=(ae [jk 2 gi] (ae [ab 4 0,eg 5 140 [.t 4,(ca 7)],ab 3 5] (.seq (ae [ab 6 3,a1 7 .lss 6 2] (bt 7 (ae [ab 8 3,cW 9 194 8,bM 4 2 9] .ret) .skip)) (.seq (ae [ab 10 3,a1 11 .lss 10 5] (bt 11 (ae [cd (.bsl 12 1 9 [(.c (.str [97])),(.c (.str [98])),(.c (.str [99]))]),ab 13 3,a1 14 .sub 13 2,di 15 1 12 14,aW 16 1 15,cW 17 195 16,bM 4 2 17] .ret) .skip)) (ae [pq 18 gi [],bM 4 2 18] .ret)))))
@[simp] def SX:List cp:=[.cell 2 true 4]
def Nd:C:=(ae [bm 4 (.mov (.c (.str [])))] (ae [ab 5 1,ab 6 0,ab 7 1,cy 8 7,dJ 9 140 6 8,di 10 1 5 9,aW 11 1 10,ab 4 11] .ret))
@[simp] def SV:List cp:=[.tmp 4]
def Nl:C:=(ae [jk 2 gi] (ae [ab 3 0,pq 4 gi [(0,1,(ca 3)),(1,1,(.t 3))],bM 4 2 4] .ret))
@[simp] def SY:List cp:=[.cell 2 true 4]
def Np:C:=(ae [jk 2 gi] (ae [ab 3 0,pq 4 gi [(0,1,(ca 2)),(2,1,(.t 3))],bM 4 2 4] .ret))
@[simp] def S0:List cp:=[.cell 2 true 4]
def q4:List (Nat×du):=[
 (3,⟨1,8,.int .i64,.int .i64 0⟩),
 (5,⟨1,1,.int .u8,.int .u8 0⟩),
 (9,⟨1,16,.str,.str []⟩),
 (35,⟨1,24,.slice 5,.slice 1 .nil []⟩),
 (38,⟨1,24,.slice 40,.slice 4 .nil []⟩),
 (40,⟨4,56,.struct [(0,3),(1,3),(2,9),(3,38)],.agg [.int .i64 0,.int .i64 0,.str [],.slice 4 .nil []]⟩),
 (70,⟨1,24,.slice 9,.slice 1 .nil []⟩),
 (208,⟨3,40,.struct [(0,35),(1,3),(2,3)],.agg [.slice 1 .nil [],.int .i64 0,.int .i64 0]⟩)]
theorem q6:fS aP q4=true:=by kernel_rfl
theorem adQ:cF q4 M6 aeY 2 Tryz.f36=true:=by kernel_rfl
theorem X1:aP.funcs[(36:Nat)]? =some Tryz.f36:=Tryz.func36
theorem aeh:cF q4 NA S4 2 Tryz.f70=true:=by kernel_rfl
theorem Ys:aP.funcs[(70:Nat)]? =some Tryz.f70:=Tryz.func70
theorem ad1:cF q4 Ni F9 3 Tryz.f72=true:=by kernel_rfl
theorem Yc:aP.funcs[(72:Nat)]? =some Tryz.f72:=Tryz.func72
theorem adW:cF q4 Nc SU 2 Tryz.f96=true:=by kernel_rfl
theorem X7:aP.funcs[(96:Nat)]? =some Tryz.f96:=Tryz.func96
theorem Si:cF q4 Hk Kz 1 Tryz.f106=true:=by kernel_rfl
theorem OQ:aP.funcs[(106:Nat)]? =some Tryz.f106:=Tryz.func106
theorem adV:cF q4 Nb SS 1 Tryz.f139=true:=by kernel_rfl
theorem X6:aP.funcs[(139:Nat)]? =some Tryz.f139:=Tryz.func139
theorem adT:cF q4 M9 Ky 2 Tryz.f140=true:=by kernel_rfl
theorem X4:aP.funcs[(140:Nat)]? =some Tryz.f140:=Tryz.func140
theorem adZ:cF q4 Ng SX 1 Tryz.f143=true:=by kernel_rfl
theorem Ya:aP.funcs[(143:Nat)]? =some Tryz.f143:=Tryz.func143
theorem adX:cF q4 Nd SV 2 Tryz.f163=true:=by kernel_rfl
theorem X8:aP.funcs[(163:Nat)]? =some Tryz.f163:=Tryz.func163
theorem ad4:cF q4 Nl SY 1 Tryz.f194=true:=by kernel_rfl
theorem Yf:aP.funcs[(194:Nat)]? =some Tryz.f194:=Tryz.func194
theorem ad6:cF q4 Np S0 1 Tryz.f195=true:=by kernel_rfl
theorem Yh:aP.funcs[(195:Nat)]? =some Tryz.f195:=Tryz.func195
end
section
open Go Go.Pv
structure bS where
 d:List Int
 i:Nat
 h:Int
def h1(d:List Int):List ag:=d.map (ag.int .u8)
def bS.e(c:bS):List ag:=[.slice 1 .no (h1 c.d),.int .i64 c.i,.int .i64 c.h]
def aL(c:bS):dM:=⟨[(.obj 401,c.e)],[]⟩
@[simp]theorem ajx(S:aJ->Prop)(d:List Int):ai S (h1 d)=True:=by
 apply eq_true;induction d with
 |nil=>simp[-az,-au,h1,ai]
 |cons x r a8=>simp only[h1,eQ,ai,ak]at a8⊢;exact⟨trivial,a8⟩
@[simp]theorem akT(d:List Int):cO (h1 d)=h1 d:=by
 induction d with
 |nil=>rfl
 |cons x r a8=>simp only[h1,eQ,cO,dr]at a8⊢;rw[a8]
@[simp]theorem ahI(d:List Int):(h1 d).length=d.length:=by simp[-az,-au,h1]
theorem G1{d:List Int}{i:Nat}{x:Int}(h:d[i]? =some x):(h1 d)[i]? =some (.int .u8 x):=by simp[-az,-au,h1,h]
theorem cm(c:bS):fq (aL c):=by unfold aL;exact fq.of ⟨by intro m;simp[-az,-au,Pv.look],by intro m;simp[-az,-au,Pv.look]⟩ (by simp[-az,-au,bS.e,ai,ak]) (by simp[-az,-au])
theorem cY(c h9:bS):fJ (aL c) (aL h9):=by refine⟨fun k=>?_,fun k=>rfl⟩;simp only[aL,Pv.look];split<;>rfl
def rp(d:List Int):Prop:= ∀x∈d,0<=x/\x<256
def zL(h:Int):Int:=iF.wrap (iF.wrap (h*6364136223846793005)+1442695040888963407)
def wW(k:IntKind)(a b:Int):Int:=k.wrap (ra k.bits a&&& ra k.bits b).toNat
def UB(k:IntKind)(a b:Int):Int:=k.wrap (ra k.bits a ^^^ ra k.bits b).toNat
def K9(k:IntKind)(a b:Int):Int:=a.fdiv (2 ^ (min b.toNat k.bits))
section
variable (a b:Int)
@[simp]theorem ahr:au .add false (.int .i64 a) (.int .i64 b)=some (aZ (a+b),.int .i64 (a+b)):=by unfold au az;simp[-az,-au]
@[simp]theorem ahs:au .add true (.int .i64 a) (.int .i64 b)=some (True,.int .i64 (iF.wrap (a+b))):=rfl
@[simp]theorem ahF:au .sub false (.int .i64 a) (.int .i64 b)=some (aZ (a-b),.int .i64 (a-b)):=by unfold au az;simp[-az,-au]
@[simp]theorem ahz:au .mul false (.int .i64 a) (.int .i64 b)=some (aZ (a*b),.int .i64 (a*b)):=by unfold au az;simp[-az,-au]
@[simp]theorem ahA:au .mul true (.int .i64 a) (.int .i64 b)=some (True,.int .i64 (iF.wrap (a*b))):=rfl
@[simp]theorem ahC:au .quo false (.int .i64 a) (.int .i64 b)=some (b≠0,.int .i64 (iF.wrap (a.tdiv b))):=rfl
@[simp]theorem ahD:au .rem false (.int .i64 a) (.int .i64 b)=some (b≠0,.int .i64 (a.tmod b)):=rfl
@[simp]theorem ahu:au .eql false (.int .i64 a) (.int .i64 b)=some (True,.bool (a==b)):=rfl
@[simp]theorem ahB:au .neq false (.int .i64 a) (.int .i64 b)=some (True,.bool (a !=b)):=rfl
@[simp]theorem ahy:au .lss false (.int .i64 a) (.int .i64 b)=some (True,.bool (decide (a<b))):=rfl
@[simp]theorem ahx:au .leq false (.int .i64 a) (.int .i64 b)=some (True,.bool (decide (a<=b))):=rfl
@[simp]theorem ahw:au .gtr false (.int .i64 a) (.int .i64 b)=some (True,.bool (decide (b<a))):=rfl
@[simp]theorem ahv:au .geq false (.int .i64 a) (.int .i64 b)=some (True,.bool (decide (b<=a))):=rfl
@[simp]theorem aht:au .and false (.int .i64 a) (.int .i64 b)=some (True,.int .i64 (wW .i64 a b)):=rfl
@[simp]theorem ahG:au .xor false (.int .i64 a) (.int .i64 b)=some (True,.int .i64 (UB .i64 a b)):=rfl
@[simp]theorem ahE(k:IntKind):au .shr false (.int .i64 a) (.int k b)=some (0<=b,.int .i64 (K9 .i64 a b)):=rfl
end
theorem GX(x m:Int)(bD:0<=m)(I:m<9223372036854775807):0<=wW .i64 x m/\wW .i64 x m<=m:=by
 have hm:(ra 64 m).toNat=m.toNat:=by rw[BitVec.toNat_ofInt];omega
 have h:(ra 64 x&&& ra 64 m).toNat<=m.toNat:=by rw[BitVec.toNat_and,hm];exact Nat.and_le_right
 unfold wW;rw[show iF.bits=64 from rfl,lx _ Ω];omega
def x2(h:Int):Int:=wW .i64 (UB .i64 (K9 .i64 h 33) (K9 .i64 h 45)) 255
theorem RC(h:Int):0<=x2 h/\x2 h<=255:=GX _ _ Ω Ω
def bS.byte(c:bS):Int:=match c.d[c.i]? with|some x=>wW .i64 (x2 (zL c.h)+x) 255|none=>x2 (zL c.h)
def bS.next(c:bS):bS:=⟨c.d,if c.i<c.d.length then c.i+1 else c.i,zL c.h⟩
theorem bS.byte_le(c:bS):0<=c.byte/\c.byte<=255:=by
 unfold bS.byte;split
 ·exact GX _ _ Ω Ω
 ·exact RC _
structure bS.ok (c:bS):Prop where
 d:rp c.d
 l:c.d.length<=10000000
 i:c.i<=c.d.length
theorem bS.ok.next{c:bS}(h:c.ok):c.next.ok:=⟨h.d,h.l,by have:=h.i;simp only[bS.next];split<;>omega⟩
theorem Ee(c:bS)(aD:c.ok):bT aP 106 [.ptr (.obj 401) 0] (aL c) fun r aC=>r= .int .i64 c.byte/\aC=aL c.next:=by
 have ao:=cm c;have et:=cm c.next;have eu:=cY c c.next;obtain⟨d,i,h⟩:=c;obtain⟨a7,aE,aw⟩:=aD;simp only at a7 aE aw;have EU:=RC (zL h);simp only[x2]at EU;by_cases b7:i<d.length
 ·obtain⟨x,ad⟩:∃x,d[i]? =some x:=⟨_,bO b7⟩;have jE:∀h,(h1 d)[i]'h= .int .u8 x:=fun h=>by have:=G1 ad;rw[bO h]at this;simpa using this
  have mT:=a7 x (eR ad);have hw:iF.wrap x=x:=lx _ Ω;simp only[aL,bS.e,bS.next,b7,if_true]at ao et eu⊢;refine bT.mk mixed q6 OQ Si (by simp[-az,-au]) ao.obj fun aG b5=>?_;unfold Hk;simp[-az,-au,b7,jE,hw,<-zL.eq_1];(with_reducible repeat' first|((first|apply cu|apply cw|apply cv)<;>intro h<;>try simp[-az,-au]at h)|refine aA ?_|simp[-az,-au]);refine ck.at _ (.inl rfl) et eu aH aH ?_;simp[-az,-au,cz,Kz,bn,bp,bk];simp[-az,-au,bS.byte,ad,x2]
 ·have ad:d[i]? =none:=by simp[-az,-au];omega
  simp only[aL,bS.e,bS.next,b7,if_false]at ao et eu⊢;refine bT.mk mixed q6 OQ Si (by simp[-az,-au]) ao.obj fun aG b5=>?_;unfold Hk;simp[-az,-au,b7,<-zL.eq_1];(with_reducible repeat' first|((first|apply cu|apply cw|apply cv)<;>intro h<;>try simp[-az,-au]at h)|refine aA ?_|simp[-az,-au]);refine ck.at _ (.inl rfl) et eu aH aH ?_;simp[-az,-au,cz,Kz,bn,bp,bk];simp[-az,-au,bS.byte,ad,x2]
end
section
open Go Go.Pv
def bS.below(c:bS)(n:Int):Int:=if n<=0 then 0 else c.byte.tmod n
def bS.belowC(c:bS)(n:Int):bS:=if n<=0 then c else c.next
theorem bS.ok.below{c:bS}(h:c.ok)(n:Int):(c.belowC n).ok:=by unfold bS.belowC;split;exact h;exact h.next
theorem bS.below_le(c:bS)(n:Int)(aK:0<n):0<=c.below n/\c.below n<n:=by have:=c.byte_le;unfold bS.below;rw[bf Ω];exact⟨Int.tmod_nonneg _ this.1,Int.tmod_lt_of_pos _ aK⟩
theorem mg(c:bS)(aD:c.ok)(n:Int):bT aP 140 [.ptr (.obj 401) 0,.int .i64 n] (aL c) fun r aC=>r= .int .i64 (c.below n)/\aC=aL (c.belowC n):=by
 have ao:=cm c;have eu:=cY c;refine bT.mk mixed q6 X4 adT (by simp[-az,-au]) ao.obj fun aG b5=>?_;unfold M9;unfold aL;simp[-az,-au];(with_reducible repeat' first|((first|apply cu|apply cw|apply cv)<;>intro h<;>try simp[-az,-au]at h)|refine aA ?_|simp[-az,-au])
 ·(refine ck.at (aL (c)) (.inl rfl) (cm _) (cY _ _) (by unfold aL;exact aH) (by unfold aL;exact aH) ?_;simp[-az,-au,cz,Ky,bn,bp,bk,aL]);simp[-az,-au,bS.below,bS.belowC,h]
 ·(refine bI.ob (Ee c aD) (cm _) (by unfold aL;exact aH) (by unfold aL;exact aH) (by simp[-az,-au,ah,aL,Pv.look]) ?_;rintro r aC ⟨rfl,rfl⟩;refine⟨cY _ _,?_⟩;unfold aL;simp[-az,-au,bu]);((with_reducible repeat' first|refine aA ?_|simp[-az,-au]|((first|apply cu|apply cw|apply cv)<;>intro h<;>try simp[-az,-au]at h))<;>(try exact cK));(refine ck.at (aL (c.next)) (.inl rfl) (cm _) (cY _ _) (by unfold aL;exact aH) (by unfold aL;exact aH) ?_;simp[-az,-au,cz,Ky,bn,bp,bk,aL]);have:¬n<=0:=Ω
  simp[-az,-au,bS.below,bS.belowC,this]
theorem H8(c:bS)(aD:c.ok)(n:Int):bT aP 96 [.ptr (.obj 401) 0,.int .i64 n] (aL c) fun r aC=>r= .bool (c.below n==0)/\aC=aL (c.belowC n):=by have ao:=cm c;refine bT.mk mixed q6 X7 adW (by simp[-az,-au]) ao.obj fun aG b5=>?_;unfold Nc;unfold aL;simp[-az,-au];(refine bI.ob (mg c aD n) (cm _) (by unfold aL;exact aH) (by unfold aL;exact aH) (by simp[-az,-au,ah,aL,Pv.look]) ?_;rintro r aC ⟨rfl,rfl⟩;refine⟨cY _ _,?_⟩;unfold aL;simp[-az,-au,bu]);(refine ck.at (aL (c.belowC n)) (.inl rfl) (cm _) (cY _ _) (by unfold aL;exact aH) (by unfold aL;exact aH) ?_;simp[-az,-au,cz,SU,bn,bp,bk,aL])
theorem Ui(n:Int):cg aP 142 [.int .i64 n] (T.var n).e:=by refine bJ q5 Yi ad7 fun aG=>?_;unfold Nq;simp[-az,-au];simp[-az,-au,b1,S1,bn,bp,bk]
theorem Uh(n:Int):cg aP 194 [.int .i64 n] (T.num n).e:=by refine bJ q6 Yf ad4 fun aG=>?_;unfold Nl;simp[-az,-au];simp[-az,-au,b1,SY,bn,bp,bk]
theorem GC(s:List aF):cg aP 195 [.str s] (T.sym s).e:=by refine bJ q6 Yh ad6 fun aG=>?_;unfold Np;simp[-az,-au];simp[-az,-au,b1,S0,bn,bp,bk]
def wX(k:Int):T:=if k<2 then .num k else if k<5 then .sym (([[97],[98],[99]]:List (List aF)).getD (k-2).toNat [])else .nil
theorem Zb(c:bS)(aD:c.ok):bT aP 143 [.ptr (.obj 401) 0] (aL c) fun r aC=>r=(wX (c.below 7)).e/\aC=aL c.next:=by
 have ao:=cm c;have af:=c.below_le 7 Ω;have eO:c.belowC 7=c.next:=by simp[-az,-au,bS.belowC]
 refine bT.mk mixed q6 Ya adZ (by simp[-az,-au]) ao.obj fun aG b5=>?_;unfold Ng;unfold aL;simp[-az,-au];(refine bI.ob (mg c aD 7) (cm _) (by unfold aL;exact aH) (by unfold aL;exact aH) (by simp[-az,-au,ah,aL,Pv.look]) ?_;rintro r aC ⟨rfl,rfl⟩;refine⟨cY _ _,?_⟩;unfold aL;simp[-az,-au,bu]);rw[eO];generalize aa:c.below 7=k at af⊢;obtain⟨bz,rfl⟩:∃bz:Nat,k=bz:=⟨k.toNat,Ω⟩;rcases(by omega:bz=0\/bz=1\/bz=2\/bz=3\/bz=4\/bz=5\/bz=6)with rfl|rfl|rfl|rfl|rfl|rfl|rfl;all_goals simp[-az,-au]
 all_goals(with_reducible repeat' first|refine aA ?_|refine aX (Uh _) ?_|refine aY (Uh _) ?_|refine aX (GC _) ?_|refine aY (GC _) ?_|simp[-az,-au])
 all_goals(refine ck.at (aL (c.next)) (.inl rfl) (cm _) (cY _ _) (by unfold aL;exact aH) (by unfold aL;exact aH) ?_;simp[-az,-au,cz,SX,bn,bp,bk,aL])
 all_goals simp[-az,-au,wX]
def eI(size:Nat)(vars:Int)(c:bS):T×bS:=
 if 2<size/\3<=c.below 8 then
  (.pair (eI (size/2) vars c.next).1 (eI (size/2) vars (eI (size/2) vars c.next).2).1,(eI (size/2) vars (eI (size/2) vars c.next).2).2)
 else if 0<vars/\(c.below 8).tmod 2=0 then(.var (c.next.below vars),c.next.belowC vars)
 else(wX (c.next.below 7),c.next.next)
termination_by size
theorem yZ(size:Nat)(vars:Int):∀c:bS,c.ok->(eI size vars c).2.ok:=by
 induction size using Nat.strongRecOn with
 |ind size a8=>
  intro c aD;rw[eI];split
  ·rename_i h;exact a8 _ Ω _ (a8 _ Ω _ aD.next)
  ·split
   ·exact aD.next.below _
   ·exact aD.next.next
theorem Ef(vars:Int)(aS:vars<=1000000)(size:Nat)(cn:size<=1000000):∀(c:bS),c.ok->bT aP 72 [.ptr (.obj 401) 0,.int .i64 size,.int .i64 vars] (aL c) fun r aC=>r=(eI size vars c).1.e/\aC=aL (eI size vars c).2:=by
 induction size using Nat.strongRecOn with
 |ind size a8=>
  intro c aD;have ao:=cm c;have af:=c.below_le 8 Ω;have eO:c.belowC 8=c.next:=by simp[-az,-au,bS.belowC]
  obtain⟨z,QA⟩:∃z,z=size/2:=⟨_,rfl⟩;have hdiv:iF.wrap ((size:Int)/2)=(z:Int):=by rw[lx _ Ω];omega
  have aad:∀h:2<size/\3<=c.below 8,eI size vars c=(.pair (eI z vars c.next).1 (eI z vars (eI z vars c.next).2).1,(eI z vars (eI z vars c.next).2).2):=fun h=>by rw[eI,bN h,QA]
  have j6:∀(h:¬(2<size/\3<=c.below 8)) (cr:0<vars/\(c.below 8).tmod 2=0),eI size vars c=(.var (c.next.below vars),c.next.belowC vars):=fun h cr=>by rw[eI,bf h,bN cr]
  have Z9:∀(h:¬(2<size/\3<=c.below 8)) (cr:¬(0<vars/\(c.below 8).tmod 2=0)),eI size vars c=(wX (c.next.below 7),c.next.next):=fun h cr=>by rw[eI,bf h,bf cr]
  have mU:2<size->∀c:bS,c.ok->bT aP 72 [.ptr (.obj 401) 0,.int .i64 z,.int .i64 vars] (aL c) fun r aC=>r=(eI z vars c).1.e/\aC=aL (eI z vars c).2:=fun h=>a8 z Ω Ω;clear a8;refine bT.mk mixed q6 Yc ad1 (by simp[-az,-au]) ao.obj fun aG b5=>?_;unfold Ni;unfold aL;simp[-az,-au];(refine bI.ob (mg c aD 8) (cm _) (by unfold aL;exact aH) (by unfold aL;exact aH) (by simp[-az,-au,ah,aL,Pv.look]) ?_;rintro r aC ⟨rfl,rfl⟩;refine⟨cY _ _,?_⟩;unfold aL;simp[-az,-au,bu]);rw[eO];(with_reducible repeat' first|((first|apply cu|apply cw|apply cv)<;>intro h<;>try simp[-az,-au]at h)|refine aA ?_|simp[-az,-au,hdiv])
  ·rename_i J;(refine bI.ob (mU Ω c.next aD.next) (cm _) (by unfold aL;exact aH) (by unfold aL;exact aH) (by simp[-az,-au,ah,aL,Pv.look]) ?_;rintro r aC ⟨rfl,rfl⟩;refine⟨cY _ _,?_⟩;unfold aL;simp[-az,-au,bu]);((with_reducible repeat' first|refine aA ?_|simp[-az,-au,hdiv]|((first|apply cu|apply cw|apply cv)<;>intro h<;>try simp[-az,-au]at h))<;>(try exact cK));(refine gI.ob (mU Ω (eI z vars c.next).2 (yZ _ _ _ aD.next)) (cm _) (cm _) (cY _ _) (by unfold aL;exact aH) (by unfold aL;exact aH) (by simp[-az,-au,ah,aL,Pv.look]) ?_;unfold aL;simp[-az,-au,bu]);(with_reducible repeat' first|refine aA ?_|refine aX (LA _ _) ?_|refine aY (LA _ _) ?_|simp[-az,-au]);rw[aad Ω];(refine ck.at (aL ((eI z vars (eI z vars c.next).2).2)) (.inl rfl) (cm _) (cY _ _) (by unfold aL;exact aH) (by unfold aL;exact aH) ?_;simp[-az,-au,cz,F9,bn,bp,bk,aL])
  all_goals first
   |(rw[j6 Ω ⟨Ω,by assumption⟩];(refine bI.ob (mg c.next aD.next vars) (cm _) (by unfold aL;exact aH) (by unfold aL;exact aH) (by simp[-az,-au,ah,aL,Pv.look]) ?_;rintro r aC ⟨rfl,rfl⟩;refine⟨cY _ _,?_⟩;unfold aL;simp[-az,-au,bu]);(with_reducible repeat' first|refine aA ?_|refine aX (Ui _) ?_|refine aY (Ui _) ?_|simp[-az,-au]);(refine ck.at (aL (c.next.belowC vars)) (.inl rfl) (cm _) (cY _ _) (by unfold aL;exact aH) (by unfold aL;exact aH) ?_;simp[-az,-au,cz,F9,bn,bp,bk,aL]);done)
   |(rw[Z9 Ω (by rintro⟨I,J⟩;first|omega|contradiction|(simp_all;done))];(refine bI.ob (Zb c.next aD.next) (cm _) (by unfold aL;exact aH) (by unfold aL;exact aH) (by simp[-az,-au,ah,aL,Pv.look]) ?_;rintro r aC ⟨rfl,rfl⟩;refine⟨cY _ _,?_⟩;unfold aL;simp[-az,-au,bu]);(with_reducible repeat' first|refine aA ?_|simp[-az,-au]);(refine ck.at (aL (c.next.next)) (.inl rfl) (cm _) (cY _ _) (by unfold aL;exact aH) (by unfold aL;exact aH) ?_;simp[-az,-au,cz,F9,bn,bp,bk,aL]);done)
def Al:List Int->Int->Int
 |[],h=>h
 |x::r,h=>Al r (wW .i64 (h*131+x+7) 1073741823)
def wb(d:List Int):bS:=⟨d,0,Al (d.take 4000) (90411+d.length)⟩
def abQ(d:List Int)(k:Nat)(st:bb):Prop:=∃(i:Nat) (h:Int),i<=d.length/\i<=4000/\k=d.length-i/\0<=h/\h<=2000000000/\Al ((d.take 4000).drop i) h=Al (d.take 4000) (90411+d.length)/\st=⟨[(0,.slice 1 .no (h1 d)),(3,.int .i64 h),(4,.int .i64 i)],[],[],0,[]⟩
theorem Y9(d:List Int)(a7:rp d)(aE:d.length<=10000000):bT aP 139 [.slice 1 .no (h1 d)] ⟨[],[]⟩ fun r aC=>r= .ptr (.obj 401) 0/\aC=aL (wb d):=by
 have ao:fq ⟨[],[]⟩:=(fq.of ⟨by intro m;simp[-az,-au,Pv.look],by intro m;simp[-az,-au,Pv.look]⟩ (by simp[-az,-au,ai,ak,ah,Pv.look]) (by simp[-az,-au,ai,ak,ah,Pv.look]));refine bT.mk mixed q6 X6 adV (by simp[-az,-au]) ao.obj fun aG b5=>?_;unfold Nb;simp[-az,-au];(with_reducible repeat' first|refine aA ?_|simp[-az,-au]);refine y4 (abQ d) d.length _ ⟨by simp[-az,-au],by simp[-az,-au,oA],by simp[-az,-au,oB],by simp[-az,-au]⟩ ⟨0,90411+d.length,Ω,Ω,Ω,Ω,Ω,by simp[-az,-au],rfl⟩ ?_;rintro k st ⟨i,g,aw,aiR,aa,bD,I,Jc,rfl⟩ sT b5;clear sT b5;have kN:¬(i<d.length/\i<4000)->g=Al (d.take 4000) (90411+d.length):=by intro aK;rw[List.drop_of_length_le (by simp[-az,-au];omega)]at Jc;exact Jc
 have lh:¬(i<d.length/\i<4000)->wb d=⟨d,0,g⟩:=fun aK=>by simp[-az,-au,wb,kN aK]
 simp[-az,-au];(with_reducible repeat' first|((first|apply cu|apply cw|apply cv)<;>intro h<;>try simp[-az,-au]at h)|refine aA ?_|simp[-az,-au])
 ·have b7:i<d.length:=Ω
  obtain⟨x,ad⟩:∃x,d[i]? =some x:=⟨_,bO b7⟩;have jE:∀h,(h1 d)[i]'h= .int .u8 x:=fun h=>by have:=G1 ad;rw[bO h]at this;simpa using this
  have mT:=a7 x (eR ad);have hw:iF.wrap x=x:=lx _ Ω;have h2:=GX (g*131+x+7) 1073741823 Ω Ω;simp[-az,-au,G1 ad,hw];(with_reducible repeat' first|refine aA ?_|simp[-az,-au]);refine bP.next (d.length-(i+1)) Ω ⟨i+1,_,Ω,Ω,rfl,h2.1,Ω,?_,rfl⟩ ⟨by simp[-az,-au],by simp[-az,-au,oA],by simp[-az,-au,oB],by simp[-az,-au]⟩;rw[<-Jc,List.drop_eq_getElem_cons (l:=d.take 4000) (i:=i) (by simp[-az,-au];omega)];have:(d.take 4000)[i]'(by simp[-az,-au];omega)=x:=by have:=ad;rw[bO b7]at this;simpa using this
  rw[this,Al]
 all_goals rw[lh Ω]
 all_goals refine ck.new (aL ⟨d,0,g⟩) (.inl rfl) (cm _) (by simp[-az,-au,fB]) (by unfold aL;exact aH) (by unfold aL;exact aH) ?_
 all_goals simp[-az,-au,cz,SS,bn,bp,bk,aL,ah,Pv.look]
def GZ(o:be T):ag:= .tuple [(o.getD .nil).e,.bool o.isSome]
theorem agK(n:Int):cg aP 270 [(T.var n).e] (.bool (decide (0<=n/\n<=100000))):=by
 have h:=LB 1 (ba.mk 1 n [] []) (by simp[ba.sz,ba.szL]);have e:fx (ba.mk 1 n [] [])=decide (0<=n/\n<=100000):=by have:=Ap (.var n);simpa[T.tm,T.ok]using this
 rw[e]at h;exact h
theorem agJ(n:Int):cg aP 270 [(T.num n).e] (.bool (T.ok (.num n))):=by have h:=LB 1 (ba.mk 3 n [] []) (by simp[ba.sz,ba.szL]);have e:fx (ba.mk 3 n [] [])=T.ok (.num n):=Ap (.num n);rw[e]at h;exact h
theorem U9(r:List aF):hC (63::r)=match h5 r with|some n=>if 0<=n/\n<=100000 then some (.var n)else none|none=>none:=by
 unfold hC oN;simp only;cases h5 r with
 |none=>rfl
 |some n=>
  simp only;by_cases h:0<=n/\n<=100000
  ·rw[bN h];simp only;rw[bN (by simp[T.ok,h])]
  ·rw[bf h]
theorem U8{w:List aF}(h:∀r,w≠63::r):hC w=if gM w then some (.sym w)else match h5 w with|some n=>if T.ok (.num n)then some (.num n)else none|none=>none:=by
 unfold hC;have:oN w=if gM w then some (.sym w)else(h5 w).map .num:=by
  unfold oN;split
  ·rename_i r;exact absurd rfl (h r)
  ·rfl
 rw[this];by_cases aK:gM w=true
 ·rw[bN aK,bN aK];simp[T.ok,aK]
 ·rw[bf aK,bf aK];cases h5 w with
  |none=>rfl
  |some n=>rfl
theorem acU{r:List aF}:gM (63::r)=false:=by
 cases h:gM (63::r)with
 |false=>rfl
 |true=>obtain⟨x,dt,e,I,_⟩:=zJ h;cases e;revert I;decide
theorem agr(w:List aF)(hw:w≠[]):cg aP 251 [.str w] (GZ (hC w)):=by
 have bX:=gP w;have gU:=GC w;unfold GZ;obtain⟨c,r,rfl⟩:∃c r,w=c::r:=by
  cases w with
  |nil=>exact absurd rfl hw
  |cons c r=>exact⟨c,r,rfl⟩
 have xN:(0:Int)<(r.length:Int)+1:=Ω
 have BQ:(1:Int)<=(r.length:Int)+1:=Ω
 by_cases zj:c=63
 ·subst zj;rw[acU]at bX;have c1:=LD r;rw[U9];unfold zV at c1;cases bq:h5 r with
  |none=>rw[bq]at c1;simp only[Option.getD_none,tE]at c1⊢;clear gU;refine bJ hh xh ya fun aG=>?_;unfold vp;clear aG;exact bZ
  |some n=>
   rw[bq]at c1;have ga:=agK n;by_cases aK:0<=n/\n<=100000
   ·rw[k2 aK]at ga;simp only[bN aK,rh,Option.isSome_some]at c1⊢;clear gU aK;refine bJ hh xh ya fun aG=>?_;unfold vp;clear aG;exact bZ
   ·rw[ly aK]at ga;simp only[bf aK,rh,Option.isSome_some,Option.getD_none,tE]at c1⊢;clear gU aK;refine bJ hh xh ya fun aG=>?_;unfold vp;clear aG;exact bZ
 ·have af:((c.toNat:Int)==63)=false:=tz (d:=63) zj;rw[U8 fun dt e=>zj (by cases e;rfl)];cases hM:gM (c::r)
  ·rw[hM]at bX;have c1:=LD (c::r);unfold zV at c1;rw[bf Ψ];cases bq:h5 (c::r)with
   |none=>rw[bq]at c1;simp only[Option.getD_none,tE]at c1⊢;clear gU;refine bJ hh xh ya fun aG=>?_;unfold vp;clear aG;exact bZ
   |some n=>
    rw[bq]at c1;have ga:=agJ n;cases aj:T.ok (.num n)
    ·rw[aj]at ga;simp only[aj,iR,if_false,rh,Option.isSome_some,Option.getD_none,tE]at c1⊢;clear gU;refine bJ hh xh ya fun aG=>?_;unfold vp;clear aG;exact bZ
    ·rw[aj]at ga;simp only[aj,if_true,rh,Option.isSome_some]at c1⊢;clear gU;refine bJ hh xh ya fun aG=>?_;unfold vp;clear aG;exact bZ
  ·rw[hM]at bX;rw[bN rfl];simp only[rh,Option.isSome_some];refine bJ hh xh ya fun aG=>?_;unfold vp;clear aG;exact bZ
def AO(l:List T)(j:Int)(t:T):bb:=⟨[(0,.slice 4 .no (l.map T.e)),(3,.ptr (.loc 0) 0),(4,.ptr (.loc 1) 0),(5,.int .i64 j)],[(.loc 0,cells t.e),(.loc 1,[.int .i64 0,.int .i64 0,.str [],.slice 4 .nil []])],[],2,[]⟩
theorem Ug(l:List T)(t:T):cg aP 252 [.slice 4 .no (l.map T.e),t.e] (lX l t).e:=by
 refine bJ hh Ye ad3 fun aG=>?_;unfold Nk;have af:l.length<=bA:=by simp[j1,iW,jA]at aG;exact aG.1
 have Ik:aZ ((l.length:Int)-1):=by unfold aZ;unfold bA at af;omega
 clear aG;simp;(with_reducible repeat' first|refine aA ?_|simp[Ik]);refine gZ (fun x:Int×T=>AO l x.1 x.2) (fun x=>(x.1+1).toNat) (fun x=> -1<=x.1/\x.1<l.length/\lX (l.take (x.1+1).toNat) x.2=lX l t) ((l.length:Int)-1,t) (by simp[AO];exact c8) ⟨by simp;omega,by simp;omega,Ψ⟩ ?_;rintro⟨j,u⟩ ⟨IM,iw,gR⟩ _;simp only at IM iw gR;by_cases jc:0<=j
 ·obtain⟨n,rfl⟩:∃n:Nat,j=n:=⟨j.toNat,Ω⟩;have aK:n<l.length:=Ω
  obtain⟨x,ad,dn⟩:=gd aK;have hL:aZ ((n:Int)-1):=by unfold aZ;unfold bA at af;omega
  have c1:=LA x u;have eO: -1<=(n:Int)-1/\(n:Int)-1<l.length/\lX (l.take ((n:Int)-1+1).toNat) (.pair x u)=lX l t:=by refine⟨Ω,Ω,?_⟩;rw[<-gR,show((n:Int)-1+1).toNat=n by omega,show((n:Int)+1).toNat=n+1 by omega,jw,ad,acE];rfl
  clear gR;simp[AO];(with_reducible repeat' first|refine aA ?_|refine aX c1 ?_|refine aY c1 ?_|simp[aK,dn,ad,hL]);refine bP.whl ((n:Int)-1,.pair x u) (by simp<;>omega) eO (by simp[AO];exact c8)
 ·have:j= -1:=Ω
  subst this;have e:u=lX l t:=by simpa[lX]using gR
  subst e;clear gR;simp[AO];exact bZ
theorem Gl{l rest:List (List aF)}{j:Nat}(h:rest<:+l.drop j):rest=l.drop (l.length-rest.length)/\rest.length<=l.length-j:=by
 have I:rest<:+l:=h.trans (List.drop_suffix j l);have J:l.drop (l.length-rest.length)=rest:=by obtain⟨p,rfl⟩:=I;simp
 exact⟨J.symm,by have:=h.length_le;simpa using this⟩
def p7(l:List (List aF))(i:Nat):Int:=match l[i]? with
 |some w=>if w=[40]\/w=[41]\/w=[46]then 0 else i+1
 |none=>0
def jY(l:List (List aF))(k:Int)(o:be (T×List (List aF))):ag:=match o with
 |some (t,r)=>.tuple [t.e,.int .i64 (l.length-r.length:Nat),.bool true]
 |none=>.tuple [T.nil.e,.int .i64 k,.bool false]
def qo(l:List (List aF))(x:List T×Nat×Nat):bb:=⟨[(0,.slice 1 .no (de l)),(1,.int .i64 x.2.1),(4,.ptr (.loc 0) 0),(9,.slice 4 (.own (.loc 1)) (x.1.map T.e))],[(.loc 0,[.int .i64 0,.int .i64 0,.str [],.slice 4 .nil []])],[(.loc 1,⟨x.1.length,40,4,none⟩)],2,[]⟩
theorem uF{a b:List aF}(h:a≠b):(a==b)=false:=by simpa using h
theorem qS{a b:List aF}(h:a≠b):(a !=b)=true:=by simpa using h
set_option maxRecDepth 8000 in
theorem ags(l:List (List aF))(aE:l.length<=100000)(hw:∀w∈l,w≠[]):∀n i:Nat,i<=l.length->2*(l.length-i)+1<=n->cg aP 209 [.slice 1 .no (de l),.int .i64 i] (jY l (p7 l i) (rd hC n (l.drop i))):=by
 intro n;induction n using Nat.strongRecOn with
 |_ n a8=>
 intro i ie aK;obtain⟨n,rfl⟩:∃m,n=m+1:=⟨n-1,Ω⟩;rcases k1 ie with rfl|aw
 ·have e:jY l (p7 l l.length) (rd hC (n+1) (l.drop l.length))= .tuple [T.nil.e,.int .i64 0,.bool false]:=by rw[List.drop_length];simp[rd,jY,p7]
  rw[e];clear a8;refine bJ hh y9 zT fun aG=>?_;unfold w5;clear aG;exact bZ
 obtain⟨w,ad⟩:∃v,l[i]? =some v:=⟨_,bO aw⟩;have ey:∀h,((de l)[i]'h)= .str w:=fun h=>by rw[mB aw];rw[bO aw]at ad;rw[dZ ad]
 have E9:=hw w (eR ad);have jc:¬(l.length:Int)<=i:=Ω
 rw[mb ad];by_cases jD:w=[41]
 ·subst jD;have e:jY l (p7 l i) (rd hC (n+1) ([41]::l.drop (i+1)))= .tuple [T.nil.e,.int .i64 0,.bool false]:=by simp[rd,jY,p7,ad]
  rw[e];clear a8;refine bJ hh y9 zT fun aG=>?_;unfold w5;clear aG;exact bZ
 by_cases tX:w=[46]
 ·subst tX;have e:jY l (p7 l i) (rd hC (n+1) ([46]::l.drop (i+1)))= .tuple [T.nil.e,.int .i64 0,.bool false]:=by simp[rd,jY,p7,ad]
  rw[e];clear a8;refine bJ hh y9 zT fun aG=>?_;unfold w5;clear aG;exact bZ
 have tg:=uF jD;have FE:=uF tX;have b2:aZ ((i:Int)+1):=by unfold aZ;omega
 by_cases tW:w=[40];rotate_left
 ·have uE:=qS tW;have ek:=agr w E9;have aq:p7 l i=(i:Int)+1:=by unfold p7;rw[ad];simp[tW,jD,tX]
  have aU:rd hC (n+1) (w::l.drop (i+1))=(hC w).map fun t=>(t,l.drop (i+1)):=by simp[rd,tW,jD,tX]
  rw[aq,aU];unfold GZ at ek;cases b4:hC w with
  |none=>rw[b4]at ek;simp only[Option.map_none,jY,Option.getD_none,tE]at ek⊢;clear a8;refine bJ hh y9 zT fun aG=>?_;unfold w5;clear aG;simp;((with_reducible repeat' first|refine aA ?_|refine aX ek ?_|refine aY ek ?_|simp[jc,aw,ey,ad,uE,tg,FE,b2]|((first|apply cu|apply cw|apply cv)<;>intro h<;>try simp at h))<;>(try exact cK));all_goals simp[b1,wy,bn,bp,bk]
  |some t=>
   rw[b4]at ek;have bq:((l.length-(l.drop (i+1)).length:Nat):Int)=(i:Int)+1:=by rw[kH];omega
   simp only[su,jY,rh,Option.isSome_some,bq]at ek⊢;clear a8 bq;refine bJ hh y9 zT fun aG=>?_;unfold w5;clear aG;simp;((with_reducible repeat' first|refine aA ?_|refine aX ek ?_|refine aY ek ?_|simp[jc,aw,ey,ad,uE,tg,FE,b2]|((first|apply cu|apply cw|apply cv)<;>intro h<;>try simp at h))<;>(try exact cK));all_goals simp[b1,wy,bn,bp,bk]
 subst tW;have aq:p7 l i=0:=by unfold p7;rw[ad];simp
 have aU:rd hC (n+1) ([40]::l.drop (i+1))=cM hC n (l.drop (i+1)) []:=by simp[rd]
 rw[aq,aU];obtain⟨R,bh⟩:∃R,R=jY l 0 (cM hC n (l.drop (i+1)) []):=⟨_,rfl⟩;rw[<-bh];have rL:ak (fun _=>dK) R:=by rw[bh];unfold jY;split<;>simp[ak,ai]
 refine bJ hh y9 zT (fun aG=>?_) (hr:=rL);unfold w5;clear aG;simp;((with_reducible repeat' first|refine aA ?_|simp[jc,aw,ey,ad,tg,FE,b2]|((first|apply cu|apply cw|apply cv)<;>intro h<;>try simp at h))<;>(try exact cK));refine gZ (qo l) (fun x=>l.length-x.2.1) (fun x=>x.2.1<=l.length/\2*(l.length-x.2.1)+2<=x.2.2/\x.2.2<=n/\jY l 0 (cM hC x.2.2 (l.drop x.2.1) x.1)=R/\x.1.length<=x.2.1) ([],i+1,n) (by simp[qo];exact c8) ⟨aw,by simp;omega,da _,bh.symm,Ψ⟩ ?_;rintro⟨acc,j,k⟩ ⟨al,aa,j8,dU,ft⟩ _;simp only at al aa j8 dU ft;clear bh b2 ey ad E9 jc tg FE aq aU jD tX;obtain⟨k,rfl⟩:∃m,k=m+1:=⟨k-1,Ω⟩;rcases k1 al with rfl|eS
 ·rw[List.drop_length]at dU;simp only[cM,jY]at dU;subst dU;clear a8;simp[qo];((with_reducible repeat' first|refine aA ?_|simp|((first|apply cu|apply cw|apply cv)<;>intro h<;>try simp at h))<;>(try exact cK));all_goals simp[b1,wy,bn,bp,bk]
 obtain⟨v,aS⟩:∃v,l[j]? =some v:=⟨_,bO eS⟩;have gh:∀h,((de l)[j]'h)= .str v:=fun h=>by rw[mB eS];rw[bO eS]at aS;rw[dZ aS]
 have hs:aZ ((j:Int)+1):=by unfold aZ;omega
 have BI:¬(l.length:Int)<=j:=Ω
 rw[mb aS]at dU;by_cases jD:v=[41]
 ·subst jD;have bq:((l.length-(l.drop (j+1)).length:Nat):Int)=(j:Int)+1:=by rw[kH];omega
  have he:cM hC (k+1) ([41]::l.drop (j+1)) acc=some (lX acc .nil,l.drop (j+1)):=by simp[cM]
  rw[he]at dU;simp only[jY,bq]at dU;subst dU;have JJ:=Ug acc .nil;clear a8;simp[qo];exact bZ
 have tg:=uF jD;have oj:=qS jD;by_cases tX:v=[46]
 ·subst tX;have cB:=a8 k Ω (j+1) Ω Ω;have Ir:((j+1:Nat):Int)=(j:Int)+1:=Ω
  rw[Ir]at cB;cases jq:rd hC k (l.drop (j+1))with
  |none=>
   rw[jq]at cB;have he:cM hC (k+1) ([46]::l.drop (j+1)) acc=none:=by simp[cM,jq]
   rw[he]at dU;simp only[jY]at dU cB;subst dU;clear a8;simp[qo];exact bZ
  |some tr=>
   obtain⟨t,rest⟩:=tr;rw[jq]at cB;obtain⟨mq,s4⟩:=Gl (Ac k _ _ _ jq).1;obtain⟨p,bq⟩:∃p,p=l.length-rest.length:=⟨_,rfl⟩;have gS:p<=l.length:=Ω
   simp only[jY,<-bq]at cB;rw[<-bq]at mq;by_cases zm:acc=[]
   ·have he:cM hC (k+1) ([46]::l.drop (j+1)) acc=none:=by simp[cM,zm]
    rw[he]at dU;simp only[jY]at dU;subst dU;subst zm;clear a8;simp[qo];((with_reducible repeat' first|refine aA ?_|refine aX cB ?_|refine aY cB ?_|simp[eS,gh,aS,BI,hs,oj]|((first|apply cu|apply cw|apply cv)<;>intro h<;>try simp at h))<;>(try exact cK));all_goals simp[b1,wy,bn,bp,bk]
   have PG:((acc.length:Int)==0)=false:=jL.2 (by have:=re.2 zm;omega);rcases k1 gS with E5|gS
   ·have he:cM hC (k+1) ([46]::l.drop (j+1)) acc=none:=by
     have:rest=[]:=by rw[mq,E5,List.drop_length]
     simp[cM,jq,zm,this]
    rw[he]at dU;simp only[jY]at dU;subst dU;rw[E5]at cB;clear a8;simp[qo];exact bZ
   obtain⟨u,hu⟩:∃v,l[p]? =some v:=⟨_,bO gS⟩;have jV:∀h,((de l)[p]'h)= .str u:=fun h=>by rw[mB gS];rw[bO gS]at hu;rw[dZ hu]
   have Qg:¬(l.length:Int)<=p:=Ω
   have Qe:aZ ((p:Int)+1):=by unfold aZ;omega
   rw[mb hu]at mq;by_cases Jk:u=[41]
   ·subst Jk;have I4:((l.length-(l.drop (p+1)).length:Nat):Int)=(p:Int)+1:=by rw[kH];omega
    have he:cM hC (k+1) ([46]::l.drop (j+1)) acc=some (lX acc t,l.drop (p+1)):=by simp[cM,jq,zm,mq]
    rw[he]at dU;simp only[jY,I4]at dU;subst dU;have JJ:=Ug acc t;clear a8;simp[qo];((with_reducible repeat' first|refine aA ?_|refine aX cB ?_|refine aY cB ?_|refine aX JJ ?_|refine aY JJ ?_|simp[eS,gh,aS,BI,hs,oj,PG,gS,jV,hu,Qg,Qe]|((first|apply cu|apply cw|apply cv)<;>intro h<;>try simp at h))<;>(try exact cK));all_goals simp[b1,wy,bn,bp,bk]
   ·have acR:=qS Jk;have he:cM hC (k+1) ([46]::l.drop (j+1)) acc=none:=by simp[cM,jq,zm,mq,Jk]
    rw[he]at dU;simp only[jY]at dU;subst dU;clear a8;simp[qo];((with_reducible repeat' first|refine aA ?_|refine aX cB ?_|refine aY cB ?_|simp[eS,gh,aS,BI,hs,oj,PG,gS,jV,hu,Qg,Qe,acR]|((first|apply cu|apply cw|apply cv)<;>intro h<;>try simp at h))<;>(try exact cK));all_goals simp[b1,wy,bn,bp,bk]
 have Ru:=qS tX;have cB:=a8 k Ω j Ω Ω;rw[mb aS]at cB;have he:cM hC (k+1) (v::l.drop (j+1)) acc=match rd hC k (v::l.drop (j+1))with
   |some (t,dt)=>cM hC k dt (acc++[t])
   |none=>none:=by
  conv=>lhs;unfold cM
  rw[bf jD,bf tX];cases rd hC k (v::l.drop (j+1))<;>rfl
 rw[he]at dU;cases jq:rd hC k (v::l.drop (j+1))with
 |none=>rw[jq]at cB dU;simp only[jY]at dU cB;subst dU;clear a8 he;generalize p7 l j=q at cB;simp[qo];((with_reducible repeat' first|refine aA ?_|refine aX cB ?_|refine aY cB ?_|simp[eS,gh,aS,BI,oj,Ru]|((first|apply cu|apply cw|apply cv)<;>intro h<;>try simp at h))<;>(try exact cK));all_goals simp[b1,wy,bn,bp,bk]
 |some tr=>
  obtain⟨t,rest⟩:=tr;rw[jq]at cB dU;obtain⟨mq,s4⟩:=Gl (j:=j) (by rw[mb aS];exact(Ac k _ _ _ jq).1);have BZ:=(Ac k _ _ _ jq).2;have Ql:rest.length<l.length-j:=by simp at BZ;omega
  obtain⟨p,bq⟩:∃p,p=l.length-rest.length:=⟨_,rfl⟩;simp only[jY,<-bq]at cB;simp only at dU;rw[<-bq]at mq;rw[mq]at dU;have h2:acc.length+1<=bA:=by unfold bA;omega
  clear a8 he;simp[qo];((with_reducible repeat' first|refine aA ?_|refine aX cB ?_|refine aY cB ?_|simp[eS,gh,aS,BI,oj,Ru,h2]|((first|apply cu|apply cw|apply cv)<;>intro h<;>try simp at h))<;>(try exact cK));refine bP.whl (acc++[t],p,k) (by show l.length-p<l.length-j;omega) ⟨by show p<=l.length;omega,by show 2*(l.length-p)+2<=k;omega,by show k<=n;omega,dU,by simp;omega⟩ (by simp[qo];exact⟨by simp[fresh,ai,ak,bc,ah,Pv.look,br],cb (by simp[fresh,ai,ak,bc,ah,Pv.look,br]),cc (by simp[fresh,ai,ak,b6,ah,Pv.look,br]),Ψ⟩)
theorem gb:fq ⟨[],[]⟩:=⟨⟨fun _=>rfl,fun _=>rfl⟩,fun k cs h=>by simp[Pv.look]at h,fun k cs h=>by simp[Pv.look]at h⟩
def AK(l:List (List aF))(o:be (Gm×List (List aF)))(r:ag)(aC:dM):Prop:=aC=⟨[],[]⟩/\match o with
 |some (g,rest)=>r= .tuple [g.e,.int .i64 (l.length-rest.length:Nat),.bool true]
 |none=> ∃(g:Gm) (k:Int),r= .tuple [g.e,.int .i64 k,.bool false]
theorem ck.rd{e1:List cp}{e:Exit}{st:bb}(l:List (List aF))(o:be (Gm×List (List aF)))(x:ag)(k:Int)(b:Bool)(lM:e= .ret\/e= .normal)(lH:AK l o (.tuple [x,.int .i64 k,.bool b]) ⟨[],[]⟩)(aa:ak (fun _=>dK) x)(h:cz st e1 fun r=>r= .tuple [x,.int .i64 k,.bool b]):ck e1 ⟨[],[]⟩ (AK l o) e st:=by
 refine ck.at ⟨[],[]⟩ lM gb (fJ.refl _) (fun k cs h=>by simp[Pv.look]at h) (fun k cs h=>by simp[Pv.look]at h) ?_;unfold cz at h⊢;split at h
 ·rename_i c bY hr;refine⟨h.1,?_⟩;rw[h.2];refine⟨?_,lH⟩;simp only[ak,ai,and_true];exact uA (fun _ h=>h.elim) _ aa
 ·exact h.elim
theorem oK{l:List (List aF)}{g:Gm}{x:ag}(h:x=g.e)(k:Int):AK l none (.tuple [x,.int .i64 k,.bool false]) ⟨[],[]⟩:=⟨rfl,g,k,by rw[h]⟩
theorem yH{l rest:List (List aF)}{g:Gm}{x:ag}(h:x=g.e){k:Int}(aa:k=(l.length-rest.length:Nat)):AK l (some (g,rest)) (.tuple [x,.int .i64 k,.bool true]) ⟨[],[]⟩:=⟨rfl,by rw[h,aa]⟩
@[simp]theorem ajj(a b c d:ag):Pv.isAgg 4 (.agg [a,b,c,d]):=⟨_,rfl,rfl⟩
theorem tT:dN.e= .agg [.int .i64 0,.str [],.slice 4 .no [],.slice 4 .no []]:=by rw[Gm.e_eq];rfl
theorem nt(k:Int)(s:List aF)(ts:List T)(gs:List Gm):(Gm.mk k s (ts.map T.tm) gs).e= .agg [.int .i64 k,.str s,.slice 4 .no (ts.map T.e),.slice 4 .no (gs.map Gm.e)]:=by rw[Gm.e_eq];simp only[Gm.kind,Gm.name,Gm.ts,Gm.gs,List.map_map];rw[show ts.map (enc∘T.tm)=ts.map T.e from List.map_congr_left fun t _=>sM t]
def mj(h:List aF):Nat->Int×List aF
 |0=>(9,h)
 |i+1=>if rO[i]? =some h then((i:Int),[])else mj h i
theorem Z7{h:List aF}(cE:h≠[]):Go.Pv.hdS h=some (mj h 11):=by
 unfold Go.Pv.hdS vJ;by_cases a0:h=ng
 ·subst a0;rfl
 by_cases bV:h=nP
 ·subst bV;rfl
 by_cases a2:h=yA
 ·subst a2;rfl
 by_cases a3:h=yz
 ·subst a3;rfl
 by_cases a4:h=sq
 ·subst a4;rfl
 by_cases a5:h=sn
 ·subst a5;rfl
 by_cases wV:h=sj
 ·subst wV;rfl
 by_cases AS:h=sk
 ·subst AS;rfl
 by_cases Dr:h=sp
 ·subst Dr;rfl
 by_cases a9:h=sl
 ·subst a9;rfl
 rw[bf a0,bf bV,bf a2,bf a3,bf a4,bf a5,bf wV,bf AS,bf Dr,bf a9];have key:∀i,i<=11->mj h i=(9,h):=by
  intro i;induction i with
  |zero=>intro _;rfl
  |succ i a8=>
   intro aw;unfold mj;rw[bf fun e=>?_]
   ·exact a8 Ω
   ·have:=eR e;simp[rO,a0,bV,a2,a3,a4,a5,wV,AS,Dr,a9,cE]at this
 rw[key 11 Ω]
theorem PQ(h:List aF):∀i,i<=11->0<=(mj h i).1/\(mj h i).1<=10
 |0,_=>by simp[mj]
 |i+1,aw=>by
  unfold mj;split
  ·simp only;omega
  ·exact PQ h i Ω
def ha(k:Int)(s:List aF)(x y:ag):List (aJ×List ag):=[(.loc 0,[.int .i64 0,.str [],.slice 4 .nil [],.slice 4 .nil []]),(.loc 1,[.int .i64 k,.str s,x,y])]
def wS(l:List (List aF))(h:List aF)(i:Nat)(j:Nat)(_:Unit):bb:=⟨[(0,.slice 1 .no (de l)),(1,.int .i64 i),(4,.ptr (.loc 0) 0),(7,.ptr (.loc 1) 0),(63,.slice 1 .no (de rO)),(64,.int .i64 11),(65,.int .i64 j)],ha (mj h j).1 (mj h j).2 (.slice 4 .nil []) (.slice 4 .nil []),[],2,[]⟩
def qm(l:List (List aF))(dR:Int)(s:List aF):List Gm×Nat×Nat->bb
 |([],j,_)=>⟨[(0,.slice 1 .no (de l)),(1,.int .i64 j),(4,.ptr (.loc 0) 0),(7,.ptr (.loc 1) 0)],ha dR s (.slice 4 .nil []) (.slice 4 .nil []),[],2,[]⟩
 |(x::xs,j,_)=>⟨[(0,.slice 1 .no (de l)),(1,.int .i64 j),(4,.ptr (.loc 0) 0),(7,.ptr (.loc 1) 0)],ha dR s (.slice 4 .nil []) (.slice 4 (.own (.loc 4)) (x.e::xs.map Gm.e)),[(.loc 4,⟨xs.length+1,65,4,none⟩)],5,[]⟩
def oL(l:List (List aF))(dR:Int)(s:List aF):List T×Nat×Nat->bb
 |([],j,_)=>⟨[(0,.slice 1 .no (de l)),(1,.int .i64 j),(4,.ptr (.loc 0) 0),(7,.ptr (.loc 1) 0)],ha dR s (.slice 4 .nil []) (.slice 4 .nil []),[],2,[]⟩
 |(x::xs,j,_)=>⟨[(0,.slice 1 .no (de l)),(1,.int .i64 j),(4,.ptr (.loc 0) 0),(7,.ptr (.loc 1) 0)],ha dR s (.slice 4 (.own (.loc 4)) (x.e::xs.map T.e)) (.slice 4 .nil []),[(.loc 4,⟨xs.length+1,40,4,none⟩)],5,[]⟩
set_option maxRecDepth 8000 in
theorem Zg(l:List (List aF))(aE:l.length<=100000)(hw:∀w∈l,w≠[]):∀n i:Nat,i<=l.length->2*(l.length-i)+1<=n->bT aP 154 [.slice 1 .no (de l),.int .i64 i] ⟨[],[]⟩ (AK l (gA jj Go.Pv.hdS n (l.drop i))):=by
 intro n;induction n using Nat.strongRecOn with
 |_ n a8=>
 intro i ie aK;obtain⟨n,rfl⟩:∃m,n=m+1:=⟨n-1,Ω⟩;have b2:aZ ((i:Int)+1):=by unfold aZ;omega
 rcases k1 ie with rfl|aw
 ·have e:gA jj Go.Pv.hdS (n+1) (l.drop l.length)=none:=by rw[List.drop_length];simp[gA]
  rw[e];clear a8;have jc:(l.length:Int)<=(l.length:Int)+1:=Ω
  have ao:=gb;refine bT.mk mixed hh xi yb Ψ ao.obj fun aG b5=>?_;unfold vq;clear aG b5;simp;(with_reducible repeat' first|refine aA ?_|simp[b2,jc]);refine ck.rd l _ (.agg [.int .i64 0,.str [],.slice 4 .no [],.slice 4 .no []]) 0 false Ψ (oK tT.symm 0) (by simp[ak,ai]) ?_;simp[cz,kX,bn,bp,bk]
 obtain⟨w,ad⟩:∃v,l[i]? =some v:=⟨_,bO aw⟩;have ey:∀cn,((de l)[i]'cn)= .str w:=fun cn=>by rw[mB aw];rw[bO aw]at ad;rw[dZ ad]
 have b7:(i:Int)<l.length:=Ω
 rw[mb ad];by_cases aI:w=ng
 ·subst aI;have e:gA jj Go.Pv.hdS (n+1) (ng::l.drop (i+1))=some (.mk 0 [] [] [],l.drop (i+1)):=by simp[gA]
  rw[e];unfold ng at ey ad;clear a8;have ao:=gb;refine bT.mk mixed hh xi yb Ψ ao.obj fun aG b5=>?_;unfold vq;clear aG b5;simp;(with_reducible repeat' first|refine aA ?_|simp[b2,aw,b7,ey,ad]);refine ck.rd l _ (.agg [.int .i64 0,.str [],.slice 4 .no [],.slice 4 .no []]) ((i:Int)+1) true Ψ (yH tT.symm (by rw[kH];omega)) (by simp[ak,ai]) ?_;simp[cz,kX,bn,bp,bk]
 have zN:(w==[116,114,117,101])=false:=uF aI;by_cases aM:w=nP
 ·subst aM;have e:gA jj Go.Pv.hdS (n+1) (nP::l.drop (i+1))=some (.mk 1 [] [] [],l.drop (i+1)):=by simp[gA,aI]
  rw[e];unfold nP at ey ad zN;clear a8;have ao:=gb;refine bT.mk mixed hh xi yb Ψ ao.obj fun aG b5=>?_;unfold vq;clear aG b5;simp;(with_reducible repeat' first|refine aA ?_|simp[b2,aw,b7,ey,ad]);refine ck.rd l _ (.agg [.int .i64 1,.str [],.slice 4 .no [],.slice 4 .no []]) ((i:Int)+1) true Ψ (yH (nt 1 [] [] []).symm (by rw[kH];omega)) (by simp[ak,ai]) ?_;simp[cz,kX,bn,bp,bk]
 have Cw:(w==[102,97,105,108])=false:=uF aM;by_cases tW:w=[40];rotate_left
 ·have uE:=qS tW;have e:gA jj Go.Pv.hdS (n+1) (w::l.drop (i+1))=none:=by simp[gA,aI,aM,tW]
  rw[e];clear a8;by_cases jc:(l.length:Int)<=(i:Int)+1
  ·have ao:=gb;refine bT.mk mixed hh xi yb Ψ ao.obj fun aG b5=>?_;unfold vq;clear aG b5;simp;(with_reducible repeat' first|refine aA ?_|simp[b2,aw,b7,ey,ad,zN,Cw,jc]);refine ck.rd l _ (.agg [.int .i64 0,.str [],.slice 4 .no [],.slice 4 .no []]) 0 false Ψ (oK tT.symm 0) (by simp[ak,ai]) ?_;simp[cz,kX,bn,bp,bk]
  ·have ao:=gb;refine bT.mk mixed hh xi yb Ψ ao.obj fun aG b5=>?_;unfold vq;clear aG b5;simp;((with_reducible repeat' first|refine aA ?_|simp[b2,aw,b7,ey,ad,zN,Cw,jc,uE]|((first|apply cu|apply cw|apply cv)<;>intro h<;>try simp at h))<;>(try exact cK));refine ck.rd l _ (.agg [.int .i64 0,.str [],.slice 4 .no [],.slice 4 .no []]) 0 false Ψ (oK tT.symm 0) (by simp[ak,ai]) ?_;simp[cz,kX,bn,bp,bk]
 subst tW;rcases k1 (show i+1<=l.length from aw)with I|I
 ·have e:gA jj Go.Pv.hdS (n+1) ([40]::l.drop (i+1))=none:=by rw[I,List.drop_length];simp[gA,aI,aM]
  rw[e];have jc:(l.length:Int)<=(i:Int)+1:=Ω
  clear a8;have ao:=gb;refine bT.mk mixed hh xi yb Ψ ao.obj fun aG b5=>?_;unfold vq;clear aG b5;simp;(with_reducible repeat' first|refine aA ?_|simp[b2,aw,b7,ey,ad,zN,Cw,jc]);refine ck.rd l _ (.agg [.int .i64 0,.str [],.slice 4 .no [],.slice 4 .no []]) 0 false Ψ (oK tT.symm 0) (by simp[ak,ai]) ?_;simp[cz,kX,bn,bp,bk]
 obtain⟨h,bK⟩:∃v,l[i+1]? =some v:=⟨_,bO I⟩;have EK:∀cn,((de l)[i+1]'cn)= .str h:=fun cn=>by rw[mB I];rw[bO I]at bK;rw[dZ bK]
 have cE:=hw h (eR bK);have jc:¬(l.length:Int)<=(i:Int)+1:=Ω
 have sV:(0:Int)<=(i:Int)+1:=Ω
 have BE:(i:Int)+1<l.length:=Ω
 have lO:((i:Int)+1).toNat=i+1:=Ω
 have Py:aZ ((i:Int)+2):=by unfold aZ;omega
 have Ja:=PQ h;obtain⟨O,hp⟩:∃O,O=gA jj Go.Pv.hdS (n+1) ([40]::l.drop (i+1)):=⟨_,rfl⟩;rw[<-hp];have xu:hy jj Go.Pv.hdS n (mj h 11).1 (mj h 11).2 [] [] (l.drop (i+2))=O:=by rw[hp,mb bK];simp only[gA];rw[bf (by decide),bf (by decide),bN trivial,Z7 cE]
 have Cf:=agy;clear hp;have ao:=gb;refine bT.mk mixed hh xi yb Ψ ao.obj fun aG b5=>?_;unfold vq;clear aG b5;simp;(with_reducible repeat' first|refine aA ?_|refine aX Cf ?_|refine aY Cf ?_|simp[b2,aw,b7,ey,ad,zN,Cw,jc,sV,BE,lO,EK,bK,I]);refine fM (wS l h i) 11 (fun _ _=>True) () (by simp[wS,ha,mj,rO,sV];exact⟨by simp[fresh,ai,ak,bc,ah,Pv.look,eG],cb (by simp[fresh,ai,ak,bc,ah,Pv.look,eG]),cc (by simp[fresh,ai,ak,b6,ah,Pv.look,eG]),Ψ⟩) trivial (fun _ _ _=>?_) (fun j _ al _ _=>?_);rotate_left
 ·obtain⟨u,hu⟩:∃u,rO[j]? =some u:=⟨_,bO al⟩;have kO:j<rO.length:=al;have jV:∀h,((de rO)[j]'h)= .str u:=fun h=>by rw[mB kO];rw[bO kO]at hu;rw[dZ hu]
  have hs:aZ ((j:Int)+1):=by unfold aZ;omega
  have eS:j<(de rO).length:=al;have eO:mj h (j+1)=if u=h then((j:Int),[])else mj h j:=by show(if rO[j]? =some h then((j:Int),[])else mj h j)=_;rw[hu];simp only[dL]
  clear a8 xu Ja Cf;by_cases he:u=h
  ·subst he;rw[bN rfl]at eO;simp[wS,ha,al];((with_reducible repeat' first|refine aA ?_|simp[al,jV,hu,kO,eS,b2,sV,BE,lO,EK,bK,I,hs]|((first|apply cu|apply cw|apply cv)<;>intro h<;>try simp at h))<;>(try exact cK));refine bP.rng () al trivial (by simp[wS,ha,eO];exact⟨by simp[fresh,ai,ak,bc,ah,Pv.look,eG],cb (by simp[fresh,ai,ak,bc,ah,Pv.look,eG]),cc (by simp[fresh,ai,ak,b6,ah,Pv.look,eG]),Ψ⟩)
  ·rw[bf he]at eO;have af:=uF he;simp[wS,ha,al];((with_reducible repeat' first|refine aA ?_|simp[al,jV,hu,kO,eS,b2,sV,BE,lO,EK,bK,I,hs,af]|((first|apply cu|apply cw|apply cv)<;>intro h<;>try simp at h))<;>(try exact cK));refine bP.rng () al trivial (by simp[wS,ha,eO];exact⟨by simp[fresh,ai,ak,bc,ah,Pv.look,eG],cb (by simp[fresh,ai,ak,bc,ah,Pv.look,eG]),cc (by simp[fresh,ai,ak,b6,ah,Pv.look,eG]),Ψ⟩)
 obtain⟨z1,fp⟩:=Ja 11 Ω;have fV:((i+2:Nat):Int)=(i:Int)+2:=Ω
 clear Cf Ja ey ad EK bK jc sV BE lO b2 zN Cw aI aM b7;simp[wS,ha];generalize (mj h 11).1=dR at xu z1 fp⊢;generalize (mj h 11).2=nm at xu⊢;cases sX:uu dR
 ·have EW:(dR==7)=false:=by simp[uu]at sX;exact jL.2 sX.1.1
  have EX:(dR==8)=false:=by simp[uu]at sX;exact jL.2 sX.1.2
  have sW:(dR==10)=false:=by simp[uu]at sX;exact jL.2 sX.2
  (with_reducible repeat' first|refine aA ?_|simp[Py]);refine gZ (oL l dR nm) (fun x=>l.length-x.2.1) (fun x=>x.2.1<=l.length/\2*(l.length-x.2.1)+2<=x.2.2/\x.2.2<=n/\hy jj Go.Pv.hdS x.2.2 dR nm x.1 [] (l.drop x.2.1)=O/\x.1.length<=x.2.1) ([],i+2,n) (by simp[oL,ha,fV];exact c8) ⟨by simp;omega,by simp;omega,da _,xu,Ψ⟩ ?_;rintro⟨acc,j,k⟩ ⟨al,aa,j8,dU,ft⟩ _;simp only at al aa j8 dU ft;clear xu a8;obtain⟨k,rfl⟩:∃m,k=m+1:=⟨k-1,Ω⟩;have h2:acc.length+1<=bA:=by unfold bA;omega
  rcases k1 al with rfl|eS
  ·rw[List.drop_length]at dU;simp only[hy]at dU;subst dU;have hs:aZ ((l.length:Int)+1):=by unfold aZ;omega
   cases acc with
   |nil=>simp[oL,ha];(with_reducible repeat' first|refine aA ?_|simp[hs]);refine ck.rd l _ (.agg [.int .i64 dR,.str nm,.slice 4 .no [],.slice 4 .no []]) ((l.length:Int)+1) false Ψ (oK (nt dR nm [] []).symm _) (by simp[ak,ai]) ?_;simp[cz,kX,bn,bp,bk]
   |cons a gD=>simp[oL,ha];(with_reducible repeat' first|refine aA ?_|simp[hs]);refine ck.rd l _ (.agg [.int .i64 dR,.str nm,.slice 4 .no ((a::gD).map T.e),.slice 4 .no []]) ((l.length:Int)+1) false Ψ (oK (nt dR nm (a::gD) []).symm _) (by simp[ak,ai]) ?_;simp[cz,kX,bn,bp,bk]
  obtain⟨v,aS⟩:∃v,l[j]? =some v:=⟨_,bO eS⟩;have gh:∀cn,((de l)[j]'cn)= .str v:=fun cn=>by rw[mB eS];rw[bO eS]at aS;rw[dZ aS]
  have hs:aZ ((j:Int)+1):=by unfold aZ;omega
  have lP:(j:Int)<l.length:=Ω
  rw[mb aS]at dU;by_cases jD:v=[41]
  ·subst jD;simp only[hy,if_true]at dU;have kz:((j:Int)+1)=((l.length-(l.drop (j+1)).length:Nat):Int):=by rw[kH];omega
   by_cases fO:1<dR
   ·rw[bN fO]at dU;subst dU;cases acc with
    |nil=>simp[oL,ha];(with_reducible repeat' first|refine aA ?_|simp[hs,eS,lP,gh,aS,fO]);refine ck.rd l _ (.agg [.int .i64 dR,.str nm,.slice 4 .no [],.slice 4 .no []]) ((j:Int)+1) true Ψ (yH (nt dR nm [] []).symm kz) (by simp[ak,ai]) ?_;simp[cz,kX,bn,bp,bk]
    |cons a gD=>simp[oL,ha];(with_reducible repeat' first|refine aA ?_|simp[hs,eS,lP,gh,aS,fO]);refine ck.rd l _ (.agg [.int .i64 dR,.str nm,.slice 4 .no ((a::gD).map T.e),.slice 4 .no []]) ((j:Int)+1) true Ψ (yH (nt dR nm (a::gD) []).symm kz) (by simp[ak,ai]) ?_;simp[cz,kX,bn,bp,bk]
   ·rw[bf fO]at dU;subst dU;cases acc with
    |nil=>simp[oL,ha];(with_reducible repeat' first|refine aA ?_|simp[hs,eS,lP,gh,aS,fO]);refine ck.rd l _ (.agg [.int .i64 dR,.str nm,.slice 4 .no [],.slice 4 .no []]) ((j:Int)+1) false Ψ (oK (nt dR nm [] []).symm _) (by simp[ak,ai]) ?_;simp[cz,kX,bn,bp,bk]
    |cons a gD=>simp[oL,ha];(with_reducible repeat' first|refine aA ?_|simp[hs,eS,lP,gh,aS,fO]);refine ck.rd l _ (.agg [.int .i64 dR,.str nm,.slice 4 .no ((a::gD).map T.e),.slice 4 .no []]) ((j:Int)+1) false Ψ (oK (nt dR nm (a::gD) []).symm _) (by simp[ak,ai]) ?_;simp[cz,kX,bn,bp,bk]
  have oj:=qS jD;have cB:=ags l aE hw (2*(l.length-j)+1) j Ω (da _);have fP:rd hC (2*(l.length-j)+1) (l.drop j)=jj (v::l.drop (j+1)):=by unfold jj;rw[<-mb aS,kH]
  rw[fP]at cB;simp only[hy,bf jD,sX,iR,if_false]at dU;cases jq:jj (v::l.drop (j+1))with
  |none=>
   rw[jq]at cB dU;simp only[jY]at dU cB;subst dU;generalize p7 l j=q at cB;cases acc with
   |nil=>simp[oL,ha];((with_reducible repeat' first|refine aA ?_|refine aX cB ?_|refine aY cB ?_|simp[hs,eS,lP,gh,aS,oj,EW,EX,sW]|((first|apply cu|apply cw|apply cv)<;>intro h<;>try simp at h))<;>(try exact cK));refine ck.rd l _ (.agg [.int .i64 0,.str [],.slice 4 .no [],.slice 4 .no []]) 0 false Ψ (oK tT.symm 0) (by simp[ak,ai]) ?_;simp[cz,kX,bn,bp,bk]
   |cons a gD=>simp[oL,ha];((with_reducible repeat' first|refine aA ?_|refine aX cB ?_|refine aY cB ?_|simp[hs,eS,lP,gh,aS,oj,EW,EX,sW]|((first|apply cu|apply cw|apply cv)<;>intro h<;>try simp at h))<;>(try exact cK));refine ck.rd l _ (.agg [.int .i64 0,.str [],.slice 4 .no [],.slice 4 .no []]) 0 false Ψ (oK tT.symm 0) (by simp[ak,ai]) ?_;simp[cz,kX,bn,bp,bk]
  |some tr=>
   obtain⟨t,rest⟩:=tr;rw[jq]at cB dU;obtain⟨mq,s4⟩:=Gl (j:=j) (by rw[mb aS];exact(C5 _ _ _ jq).1);have BZ:=(C5 _ _ _ jq).2;have Ql:rest.length<l.length-j:=by simp at BZ;omega
   obtain⟨p,bq⟩:∃p,p=l.length-rest.length:=⟨_,rfl⟩;simp only[jY,<-bq]at cB;simp only at dU;rw[<-bq]at mq;rw[mq]at dU;cases acc with
   |nil=>simp[oL,ha];((with_reducible repeat' first|refine aA ?_|refine aX cB ?_|refine aY cB ?_|simp[hs,eS,lP,gh,aS,oj,EW,EX,sW]|((first|apply cu|apply cw|apply cv)<;>intro h<;>try simp at h))<;>(try exact cK));refine bP.whl ([t],p,k) (by show l.length-p<l.length-j;omega) ⟨by show p<=l.length;omega,by show 2*(l.length-p)+2<=k;omega,by show k<=n;omega,dU,by simp;omega⟩ (by simp[oL,ha];exact⟨by simp[fresh,ai,ak,bc,ah,Pv.look,br],cb (by simp[fresh,ai,ak,bc,ah,Pv.look,br]),cc (by simp[fresh,ai,ak,b6,ah,Pv.look,br]),Ψ⟩)
   |cons a gD=>simp only[e3]at h2;simp[oL,ha];((with_reducible repeat' first|refine aA ?_|refine aX cB ?_|refine aY cB ?_|simp[hs,eS,lP,gh,aS,oj,EW,EX,sW,h2]|((first|apply cu|apply cw|apply cv)<;>intro h<;>try simp at h))<;>(try exact cK));refine bP.whl (a::(gD++[t]),p,k) (by show l.length-p<l.length-j;omega) ⟨by show p<=l.length;omega,by show 2*(l.length-p)+2<=k;omega,by show k<=n;omega,dU,by simp at ft⊢;omega⟩ (by simp[oL,ha];exact⟨by simp[fresh,ai,ak,bc,ah,Pv.look,br],cb (by simp[fresh,ai,ak,bc,ah,Pv.look,br]),cc (by simp[fresh,ai,ak,b6,ah,Pv.look,br]),Ψ⟩)
 ·have fO:1<dR:=by simp[uu]at sX;omega
  have o0:dR=7\/dR=8\/dR=10:=by simp[uu]at sX;omega
  (with_reducible repeat' first|refine aA ?_|simp[Py]);refine gZ (qm l dR nm) (fun x=>l.length-x.2.1) (fun x=>x.2.1<=l.length/\2*(l.length-x.2.1)+2<=x.2.2/\x.2.2<=n/\hy jj Go.Pv.hdS x.2.2 dR nm [] x.1 (l.drop x.2.1)=O/\x.1.length<=x.2.1) ([],i+2,n) (by simp[qm,ha,fV];exact c8) ⟨by simp;omega,by simp;omega,da _,xu,Ψ⟩ ?_;rintro⟨acc,j,k⟩ ⟨al,aa,j8,dU,ft⟩ _;simp only at al aa j8 dU ft;clear xu;obtain⟨k,rfl⟩:∃m,k=m+1:=⟨k-1,Ω⟩;have h2:acc.length+1<=bA:=by unfold bA;omega
  rcases k1 al with rfl|eS
  ·rw[List.drop_length]at dU;simp only[hy]at dU;subst dU;have hs:aZ ((l.length:Int)+1):=by unfold aZ;omega
   clear a8;cases acc with
   |nil=>simp[qm,ha];(with_reducible repeat' first|refine aA ?_|simp[hs]);refine ck.rd l _ (.agg [.int .i64 dR,.str nm,.slice 4 .no [],.slice 4 .no []]) ((l.length:Int)+1) false Ψ (oK (nt dR nm [] []).symm _) (by simp[ak,ai]) ?_;simp[cz,kX,bn,bp,bk]
   |cons a gD=>simp[qm,ha];(with_reducible repeat' first|refine aA ?_|simp[hs]);refine ck.rd l _ (.agg [.int .i64 dR,.str nm,.slice 4 .no [],.slice 4 .no ((a::gD).map Gm.e)]) ((l.length:Int)+1) false Ψ (oK (nt dR nm [] (a::gD)).symm _) (by simp[ak,ai]) ?_;simp[cz,kX,bn,bp,bk]
  obtain⟨v,aS⟩:∃v,l[j]? =some v:=⟨_,bO eS⟩;have gh:∀cn,((de l)[j]'cn)= .str v:=fun cn=>by rw[mB eS];rw[bO eS]at aS;rw[dZ aS]
  have hs:aZ ((j:Int)+1):=by unfold aZ;omega
  have lP:(j:Int)<l.length:=Ω
  rw[mb aS]at dU;by_cases jD:v=[41]
  ·subst jD;simp only[hy,if_true]at dU;have kz:((j:Int)+1)=((l.length-(l.drop (j+1)).length:Nat):Int):=by rw[kH];omega
   rw[bN fO]at dU;subst dU;clear a8;cases acc with
   |nil=>simp[qm,ha];(with_reducible repeat' first|refine aA ?_|simp[hs,eS,lP,gh,aS,fO]);refine ck.rd l _ (.agg [.int .i64 dR,.str nm,.slice 4 .no [],.slice 4 .no []]) ((j:Int)+1) true Ψ (yH (nt dR nm [] []).symm kz) (by simp[ak,ai]) ?_;simp[cz,kX,bn,bp,bk]
   |cons a gD=>simp[qm,ha];(with_reducible repeat' first|refine aA ?_|simp[hs,eS,lP,gh,aS,fO]);refine ck.rd l _ (.agg [.int .i64 dR,.str nm,.slice 4 .no [],.slice 4 .no ((a::gD).map Gm.e)]) ((j:Int)+1) true Ψ (yH (nt dR nm [] (a::gD)).symm kz) (by simp[ak,ai]) ?_;simp[cz,kX,bn,bp,bk]
  have oj:=qS jD;have cB:=a8 k Ω j Ω Ω;rw[mb aS]at cB;simp only[hy,bf jD,sX,if_true]at dU;cases jq:gA jj Go.Pv.hdS k (v::l.drop (j+1))with
  |none=>
   rw[jq]at cB dU;simp only at dU;subst dU;clear a8;cases acc with
   |nil=>
    rcases o0 with rfl|rfl|rfl;all_goals
     simp[qm,ha]
     ((with_reducible repeat' first|refine aA ?_|simp[hs,eS,lP,gh,aS,oj]|((first|apply cu|apply cw|apply cv)<;>intro h<;>try simp at h))<;>(try exact cK))
     refine bI.ob (cB) gb (fun k cs h=>by simp[Pv.look]at h) (fun k cs h=>by simp[Pv.look]at h) (by simp[ai,ak]) ?_
     rintro r aC bG
     obtain⟨rfl,x,q,rfl⟩:=bG
     refine⟨fJ.refl _,?_⟩
     simp[bu]
     (with_reducible repeat' first|refine aA ?_|simp)
     refine ck.rd l _ (.agg [.int .i64 0,.str [],.slice 4 .no [],.slice 4 .no []]) 0 false Ψ (oK tT.symm 0) (by simp[ak,ai]) ?_
     simp[cz,kX,bn,bp,bk]
   |cons a gD=>
    rcases o0 with rfl|rfl|rfl;all_goals
     simp[qm,ha]
     ((with_reducible repeat' first|refine aA ?_|simp[hs,eS,lP,gh,aS,oj]|((first|apply cu|apply cw|apply cv)<;>intro h<;>try simp at h))<;>(try exact cK))
     refine bI.ob (cB) gb (fun k cs h=>by simp[Pv.look]at h) (fun k cs h=>by simp[Pv.look]at h) (by simp[ai,ak]) ?_
     rintro r aC bG
     obtain⟨rfl,x,q,rfl⟩:=bG
     refine⟨fJ.refl _,?_⟩
     simp[bu]
     (with_reducible repeat' first|refine aA ?_|simp)
     refine ck.rd l _ (.agg [.int .i64 0,.str [],.slice 4 .no [],.slice 4 .no []]) 0 false Ψ (oK tT.symm 0) (by simp[ak,ai]) ?_
     simp[cz,kX,bn,bp,bk]
  |some tr=>
   obtain⟨g,rest⟩:=tr;rw[jq]at cB dU;obtain⟨mq,s4⟩:=Gl (j:=j) (by rw[mb aS];exact(Gb C5 _ _ _ _ jq).1);have BZ:=(Gb C5 _ _ _ _ jq).2;have Ql:rest.length<l.length-j:=by simp at BZ;omega
   obtain⟨p,bq⟩:∃p,p=l.length-rest.length:=⟨_,rfl⟩;simp only at dU;rw[<-bq]at mq;rw[mq]at dU;clear a8;cases acc with
   |nil=>
    rcases o0 with rfl|rfl|rfl;all_goals
     simp[qm,ha]
     ((with_reducible repeat' first|refine aA ?_|simp[hs,eS,lP,gh,aS,oj]|((first|apply cu|apply cw|apply cv)<;>intro h<;>try simp at h))<;>(try exact cK))
     refine bI.ob (cB) gb (fun k cs h=>by simp[Pv.look]at h) (fun k cs h=>by simp[Pv.look]at h) (by simp[ai,ak]) ?_
     rintro r aC bG
     obtain⟨rfl,rfl⟩:=bG
     rw[<-bq]
     refine⟨fJ.refl _,?_⟩
     simp[bu]
     (with_reducible repeat' first|refine aA ?_|simp)
     refine bP.whl ([g],p,k) (by show l.length-p<l.length-j;omega) ⟨by show p<=l.length;omega,by show 2*(l.length-p)+2<=k;omega,by show k<=n;omega,dU,by simp;omega⟩ (by simp[qm,ha];exact⟨by simp[fresh,ai,ak,bc,ah,Pv.look,br],cb (by simp[fresh,ai,ak,bc,ah,Pv.look,br]),cc (by simp[fresh,ai,ak,b6,ah,Pv.look,br]),Ψ⟩)
   |cons a gD=>
    simp only[e3]at h2;rcases o0 with rfl|rfl|rfl;all_goals
     simp[qm,ha]
     ((with_reducible repeat' first|refine aA ?_|simp[hs,eS,lP,gh,aS,oj]|((first|apply cu|apply cw|apply cv)<;>intro h<;>try simp at h))<;>(try exact cK))
     refine bI.ob (cB) gb (fun k cs h=>by simp[Pv.look]at h) (fun k cs h=>by simp[Pv.look]at h) (by simp[ai,ak]) ?_
     rintro r aC bG
     obtain⟨rfl,rfl⟩:=bG
     rw[<-bq]
     refine⟨fJ.refl _,?_⟩
     simp[bu]
     (with_reducible repeat' first|refine aA ?_|simp[h2])
     refine bP.whl (a::(gD++[g]),p,k) (by show l.length-p<l.length-j;omega) ⟨by show p<=l.length;omega,by show 2*(l.length-p)+2<=k;omega,by show k<=n;omega,dU,by simp at ft⊢;omega⟩ (by simp[qm,ha];exact⟨by simp[fresh,ai,ak,bc,ah,Pv.look,br],cb (by simp[fresh,ai,ak,bc,ah,Pv.look,br]),cc (by simp[fresh,ai,ak,b6,ah,Pv.look,br]),Ψ⟩)
def p3(o:be (List (List aF)×List (List aF))):ag:=match o with
 |some (a,ms)=>.tuple [.slice 1 .no (de a),.int .i64 ms.length,.bool true]
 |none=>.tuple [.slice 1 .no [],.int .i64 0,.bool false]
def jS(ns out:List (List aF)):List (aJ×dw):=[(.loc 0,⟨ns.length,9,1,none⟩),(.loc 1,⟨out.length,9,1,none⟩)]
def pD(l:List (List aF))(i:Nat)(x:List (List aF)×List (List aF)):bb:=⟨[(5,.slice 1 (.own (.loc 0)) (de x.1)),(6,.slice 1 (.own (.loc 1)) (de x.2)),(14,.slice 1 .no (de l)),(15,.int .i64 l.length),(16,.int .i64 i)],[],jS x.1 x.2,2,[]⟩
def qn(l:List (List aF))(i:Nat)(ns out:List (List aF))(w:List aF)(k:Nat):bb:=⟨[(5,.slice 1 (.own (.loc 0)) (de ns)),(6,.slice 1 (.own (.loc 1)) (de out)),(8,.str w),(11,.int .i64 k),(14,.slice 1 .no (de l)),(15,.int .i64 l.length),(16,.int .i64 i)],[],jS ns out,2,[]⟩
theorem Jr{α:Type}[BEq α][LawfulBEq α]{w:α}:∀{ns:List α} {k:Nat},ns[k]? =some w->(∀m,m<k->ns[m]?≠some w)->ns.idxOf w=k
 |x::ns,0,h,_=>by simp at h;subst h;simp
 |x::ns,k+1,h,aK=>by
  have bD:=aK 0 Ω;simp at bD;have af:(x==w)=false:=by simpa using bD
  have aw:=Jr (ns:=ns) (k:=k) (by simpa using h) fun m hm=>by simpa using aK (m+1) Ω
  rw[List.idxOf_cons,af,aw];rfl
 |[],k,h,_=>by simp at h
theorem QB{α:Type}[BEq α][LawfulBEq α]{w:α}:∀{ns:List α},(∀m,m<ns.length->ns[m]?≠some w)->w∉ns/\ns.idxOf w=ns.length:=by
 intro ns h;have:w∉ns:=fun hm=>by obtain⟨k,aa⟩:=l4 hm;exact h k (cX.1 aa).1 aa
 exact⟨this,List.idxOf_eq_length this⟩
set_option maxRecDepth 8000 in
theorem agz(l:List (List aF))(aE:l.length<=100000)(hw:∀w∈l,w≠[]):cg aP 173 [.slice 1 .no (de l)] (p3 (num [] l)):=by
 obtain⟨R,bh⟩:∃R,R=p3 (num [] l):=⟨_,rfl⟩;rw[<-bh];have rL:ak (fun _=>dK) R:=by rw[bh];unfold p3;split<;>simp[ak,ai]
 refine bJ h6 Yr aeg (fun aG=>?_) (hr:=rL);unfold Nz;clear aG;simp;(with_reducible repeat' first|refine aA ?_|simp);refine fM (pD l) l.length (fun i x=>p3 ((num x.1 (l.drop i)).map fun y=>(x.2++y.1,y.2))=R/\x.1.length<=i/\x.2.length<=i) ([],[]) (by simp[pD,jS,q3];exact⟨by simp[fresh,ai,ak,bc,ah,Pv.look,eo],cb (by simp[fresh,ai,ak,bc,ah,Pv.look,eo]),cc (by simp[fresh,ai,ak,b6,ah,Pv.look,eo]),Ψ⟩) ⟨by rw[bh];simp,Ψ,Ψ⟩ (fun x al _=>?_) (fun i x aw al _=>?_)
 ·obtain⟨ns,out⟩:=x;obtain⟨al,_,_⟩:=al;simp only[List.drop_length,num,su,p3,List.append_nil]at al;subst al;clear bh;simp[pD,jS];exact bZ
 obtain⟨ns,out⟩:=x;obtain⟨al,oc,rR⟩:=al;simp only at al oc rR;obtain⟨w,ad⟩:∃v,l[i]? =some v:=⟨_,bO aw⟩;have ey:∀cn,((de l)[i]'cn)= .str w:=fun cn=>by rw[mB aw];rw[bO aw]at ad;rw[dZ ad]
 have E9:=hw w (eR ad);have b2:aZ ((i:Int)+1):=by unfold aZ;omega
 have qL:out.length+1<=bA:=by unfold bA;omega
 have je:ns.length+1<=bA:=by unfold bA;omega
 rw[mb ad]at al;clear bh;rcases Fk w with⟨s,rfl⟩|aS;rotate_left
 ·rw[uK _ _ _ aS,Option.map_map]at al;have eO:p3 ((num ns (l.drop (i+1))).map fun y=>((out++[w])++y.1,y.2))=R:=by rw[<-al];congr 2;funext y;simp
  obtain⟨c,r,rfl⟩:∃c r,w=c::r:=by
   cases w with
   |nil=>exact absurd rfl E9
   |cons c r=>exact⟨c,r,rfl⟩
  have af:((c.toNat:Int) !=63)=true:=T4 (d:=63) fun h=>aS r (by rw[h]);have xN:(0:Int)<(r.length:Int)+1:=Ω
  clear al aS;simp[pD,jS,aw];(with_reducible repeat' first|refine aA ?_|simp[aw,ey,ad,af,xN,qL,b2]);refine bP.rng (ns,out++[c::r]) aw ⟨eO,by simp;omega,by simp;omega⟩ (by simp[pD,jS,u3,qf,q3];exact⟨by simp[fresh,ai,ak,bc,ah,Pv.look,br,eo],cb (by simp[fresh,ai,ak,bc,ah,Pv.look,br,eo]),cc (by simp[fresh,ai,ak,b6,ah,Pv.look,br,eo]),Ψ⟩)
 ·rw[FQ]at al;have c1:=LD s;have bX:=gP s;have xN:(0:Int)<(s.length:Int)+1:=Ω
  have BQ:(1:Int)<=(s.length:Int)+1:=Ω
  unfold zV at c1;by_cases qN:Db s=true;rotate_left
  ·rw[bf qN]at al;simp only[Option.map_none,p3]at al;subst al;unfold Db at qN;rw[Bool.or_eq_true,not_or]at qN;obtain⟨I,J⟩:=qN;rw[Bool.not_eq_true]at I;rw[I]at bX;cases bq:h5 s with
   |none=>rw[bq]at c1;simp only[Option.getD_none,tE]at c1;clear J;simp[pD,jS,aw];exact bZ
   |some n=>rw[bq]at c1 J;simp only[rh,Option.isSome_some,ef]at c1 J;have dx:=ee n 0 100000;rw[ly J]at dx;clear J;simp[pD,jS,aw];exact bZ
  rw[bN qN]at al;rw[Option.map_map]at al;cases hM:gM s
  ·rw[hM]at bX;obtain⟨n,BS,Qa⟩:∃n,h5 s=some n/\(0<=n/\n<=100000):=by
    unfold Db at qN;rw[hM,Bool.false_or]at qN;split at qN
    ·rename_i n h;exact⟨n,h,by simpa using qN⟩
    ·cases qN
   rw[BS]at c1;simp only[rh,Option.isSome_some]at c1;have dx:=ee n 0 100000;rw[k2 Qa]at dx;clear qN BS Qa;simp[pD,jS,aw];(with_reducible repeat' first|refine aA ?_|refine aX c1 ?_|refine aY c1 ?_|refine aX bX ?_|refine aY bX ?_|refine aX dx ?_|refine aY dx ?_|simp[aw,ey,ad,xN,BQ]);refine gZ (qn l i ns out (63::s)) (fun k=>ns.length-k) (fun k=>k<=ns.length/\∀m,m<k->ns[m]?≠some (63::s)) 0 (by simp[qn,jS];exact⟨by simp[fresh,ai,ak,bc,ah,Pv.look,eo],cb (by simp[fresh,ai,ak,bc,ah,Pv.look,eo]),cc (by simp[fresh,ai,ak,b6,ah,Pv.look,eo]),Ψ⟩) ⟨Ω,fun m h=>Ω⟩ ?_;rintro k ⟨aa,j8⟩ _;rcases k1 aa with rfl|dW
   ·obtain⟨I,J⟩:=QB j8;rw[bf I,J]at al;have fh:aZ (ns.length:Int):=by unfold aZ;omega
    have cZ:=yw (ns.length:Int) fh;have ie:(b8 (ns.length:Int)).length+1<=bA:=by have:=uv fh;unfold bA;omega
    have xE:1+(b8 (ns.length:Int)).length<=bA:=Ω
    have eO:p3 ((num (ns++[63::s]) (l.drop (i+1))).map fun y=>((out++[63::b8 (ns.length:Int)])++y.1,y.2))=R:=by rw[<-al];congr 2;funext y;simp
    clear al j8 I J;simp[qn,jS];(with_reducible repeat' first|refine aA ?_|refine aX cZ ?_|refine aY cZ ?_|simp[ie,xE,qL,je,b2]);refine bP.rng (ns++[63::s],out++[63::b8 (ns.length:Int)]) aw ⟨eO,by simp;omega,by simp;omega⟩ (by simp[pD,jS,u3,qf,q3];exact⟨by simp[fresh,ai,ak,bc,ah,Pv.look,br,eo],cb (by simp[fresh,ai,ak,bc,ah,Pv.look,br,eo]),cc (by simp[fresh,ai,ak,b6,ah,Pv.look,br,eo]),Ψ⟩)
   ·obtain⟨u,hu⟩:∃v,ns[k]? =some v:=⟨_,bO dW⟩;have jV:∀cn,((de ns)[k]'cn)= .str u:=fun cn=>by rw[mB dW];rw[bO dW]at hu;rw[dZ hu]
    have j7:(k:Int)<ns.length:=Ω
    have hL:aZ ((k:Int)+1):=by unfold aZ;omega
    by_cases he:u=63::s
    ·subst he;have J:=Jr hu j8;rw[bN (eR hu),J]at al;have fh:aZ (k:Int):=by unfold aZ;omega
     have cZ:=yw (k:Int) fh;have ie:(b8 (k:Int)).length+1<=bA:=by have:=uv fh;unfold bA;omega
     have xE:1+(b8 (k:Int)).length<=bA:=Ω
     have cE:((k:Int)==ns.length)=false:=jL.2 Ω;have eO:p3 ((num ns (l.drop (i+1))).map fun y=>((out++[63::b8 (k:Int)])++y.1,y.2))=R:=by rw[<-al];congr 2;funext y;simp
     clear al j8 J;simp[qn,jS];(with_reducible repeat' first|refine aA ?_|refine aX cZ ?_|refine aY cZ ?_|simp[dW,j7,jV,hu,cE,ie,xE,qL,b2]);refine bP.rng (ns,out++[63::b8 (k:Int)]) aw ⟨eO,by simp;omega,by simp;omega⟩ (by simp[pD,jS,u3,qf,q3];exact⟨by simp[fresh,ai,ak,bc,ah,Pv.look,br,eo],cb (by simp[fresh,ai,ak,bc,ah,Pv.look,br,eo]),cc (by simp[fresh,ai,ak,b6,ah,Pv.look,br,eo]),Ψ⟩)
    ·have af:=qS he;have IS:∀m,m<k+1->ns[m]?≠some (63::s):=fun m hm=>by
      rcases hS m k with h|h
      ·exact j8 m h
      ·obtain rfl:m=k:=Ω
       rw[hu];simpa using he
     clear al j8;simp[qn,jS];((with_reducible repeat' first|refine aA ?_|simp[dW,j7,jV,hu,af,hL]|((first|apply cu|apply cw|apply cv)<;>intro h<;>try simp at h))<;>(try exact cK));refine bP.whl (k+1) Ω ⟨dW,IS⟩ (by simp[qn,jS];exact⟨by simp[fresh,ai,ak,bc,ah,Pv.look,eo],cb (by simp[fresh,ai,ak,bc,ah,Pv.look,eo]),cc (by simp[fresh,ai,ak,b6,ah,Pv.look,eo]),Ψ⟩)
  ·rw[hM]at bX;generalize (h5 s).getD 0=b9 at c1;generalize (h5 s).isSome=cx at c1;clear qN;simp[pD,jS,aw];(with_reducible repeat' first|refine aA ?_|refine aX c1 ?_|refine aY c1 ?_|refine aX bX ?_|refine aY bX ?_|simp[aw,ey,ad,xN,BQ]);refine gZ (qn l i ns out (63::s)) (fun k=>ns.length-k) (fun k=>k<=ns.length/\∀m,m<k->ns[m]?≠some (63::s)) 0 (by simp[qn,jS];exact⟨by simp[fresh,ai,ak,bc,ah,Pv.look,eo],cb (by simp[fresh,ai,ak,bc,ah,Pv.look,eo]),cc (by simp[fresh,ai,ak,b6,ah,Pv.look,eo]),Ψ⟩) ⟨Ω,fun m h=>Ω⟩ ?_;rintro k ⟨aa,j8⟩ _;rcases k1 aa with rfl|dW
   ·obtain⟨I,J⟩:=QB j8;rw[bf I,J]at al;have fh:aZ (ns.length:Int):=by unfold aZ;omega
    have cZ:=yw (ns.length:Int) fh;have ie:(b8 (ns.length:Int)).length+1<=bA:=by have:=uv fh;unfold bA;omega
    have xE:1+(b8 (ns.length:Int)).length<=bA:=Ω
    have eO:p3 ((num (ns++[63::s]) (l.drop (i+1))).map fun y=>((out++[63::b8 (ns.length:Int)])++y.1,y.2))=R:=by rw[<-al];congr 2;funext y;simp
    clear al j8 I J;simp[qn,jS];(with_reducible repeat' first|refine aA ?_|refine aX cZ ?_|refine aY cZ ?_|simp[ie,xE,qL,je,b2]);refine bP.rng (ns++[63::s],out++[63::b8 (ns.length:Int)]) aw ⟨eO,by simp;omega,by simp;omega⟩ (by simp[pD,jS,u3,qf,q3];exact⟨by simp[fresh,ai,ak,bc,ah,Pv.look,br,eo],cb (by simp[fresh,ai,ak,bc,ah,Pv.look,br,eo]),cc (by simp[fresh,ai,ak,b6,ah,Pv.look,br,eo]),Ψ⟩)
   ·obtain⟨u,hu⟩:∃v,ns[k]? =some v:=⟨_,bO dW⟩;have jV:∀cn,((de ns)[k]'cn)= .str u:=fun cn=>by rw[mB dW];rw[bO dW]at hu;rw[dZ hu]
    have j7:(k:Int)<ns.length:=Ω
    have hL:aZ ((k:Int)+1):=by unfold aZ;omega
    by_cases he:u=63::s
    ·subst he;have J:=Jr hu j8;rw[bN (eR hu),J]at al;have fh:aZ (k:Int):=by unfold aZ;omega
     have cZ:=yw (k:Int) fh;have ie:(b8 (k:Int)).length+1<=bA:=by have:=uv fh;unfold bA;omega
     have xE:1+(b8 (k:Int)).length<=bA:=Ω
     have cE:((k:Int)==ns.length)=false:=jL.2 Ω;have eO:p3 ((num ns (l.drop (i+1))).map fun y=>((out++[63::b8 (k:Int)])++y.1,y.2))=R:=by rw[<-al];congr 2;funext y;simp
     clear al j8 J;simp[qn,jS];(with_reducible repeat' first|refine aA ?_|refine aX cZ ?_|refine aY cZ ?_|simp[dW,j7,jV,hu,cE,ie,xE,qL,b2]);refine bP.rng (ns,out++[63::b8 (k:Int)]) aw ⟨eO,by simp;omega,by simp;omega⟩ (by simp[pD,jS,u3,qf,q3];exact⟨by simp[fresh,ai,ak,bc,ah,Pv.look,br,eo],cb (by simp[fresh,ai,ak,bc,ah,Pv.look,br,eo]),cc (by simp[fresh,ai,ak,b6,ah,Pv.look,br,eo]),Ψ⟩)
    ·have af:=qS he;have IS:∀m,m<k+1->ns[m]?≠some (63::s):=fun m hm=>by
      rcases hS m k with h|h
      ·exact j8 m h
      ·obtain rfl:m=k:=Ω
       rw[hu];simpa using he
     clear al j8;simp[qn,jS];((with_reducible repeat' first|refine aA ?_|simp[dW,j7,jV,hu,af,hL]|((first|apply cu|apply cw|apply cv)<;>intro h<;>try simp at h))<;>(try exact cK));refine bP.whl (k+1) Ω ⟨dW,IS⟩ (by simp[qn,jS];exact⟨by simp[fresh,ai,ak,bc,ah,Pv.look,eo],cb (by simp[fresh,ai,ak,bc,ah,Pv.look,eo]),cc (by simp[fresh,ai,ak,b6,ah,Pv.look,eo]),Ψ⟩)
def z1:Rl:=⟨[],0,0,dN⟩
theorem z6:z1.e= .agg [.str [],.int .i64 0,.int .i64 0,.int .i64 0,.str [],.slice 4 .no [],.slice 4 .no []]:=rfl
def AJ(o:be Rl)(r:ag)(aC:dM):Prop:=aC=⟨[],[]⟩/\match o with
 |some x=>r= .tuple [x.e,.bool true]
 |none=> ∃x:Rl,r= .tuple [x.e,.bool false]
theorem ck.df{e1:List cp}{e:Exit}{st:bb}(o:be Rl)(x:ag)(b:Bool)(lM:e= .ret\/e= .normal)(lH:AJ o (.tuple [x,.bool b]) ⟨[],[]⟩)(aa:ak (fun _=>dK) x)(h:cz st e1 fun r=>r= .tuple [x,.bool b]):ck e1 ⟨[],[]⟩ (AJ o) e st:=by
 refine ck.at ⟨[],[]⟩ lM gb (fJ.refl _) (fun k cs h=>by simp[Pv.look]at h) (fun k cs h=>by simp[Pv.look]at h) ?_;unfold cz at h⊢;split at h
 ·rename_i c bY hr;refine⟨h.1,?_⟩;rw[h.2];refine⟨?_,lH⟩;simp only[ak,ai,and_true];exact uA (fun _ h=>h.elim) _ aa
 ·exact h.elim
theorem ve{x:Rl}{p:ag}(h:p=x.e):AJ none (.tuple [p,.bool false]) ⟨[],[]⟩:=⟨rfl,x,by rw[h]⟩
theorem UT{x:Rl}{p:ag}(h:p=x.e):AJ (some x) (.tuple [p,.bool true]) ⟨[],[]⟩:=⟨rfl,by rw[h]⟩
theorem RV{l T M:List (List aF)}(h:num [] l=some (T,M)):T.length=l.length:=(zO l [] T M h).1
theorem J9:∀(l ns T M:List (List aF)),(∀w∈l,w≠[])->num ns l=some (T,M)->(∀w∈T,w≠[])/\M.length<=ns.length+l.length
 |[],ns,T,M,_,h=>by simp only[num,dL,gp]at h;obtain⟨rfl,rfl⟩:=h;simp
 |w::l,ns,T,M,hw,h=>by
  have rW:∀v∈l,v≠[]:=fun v aS=>hw v (by simp[aS]);rcases Fk w with⟨s,rfl⟩|aS
  ·rw[FQ]at h;split at h
   ·simp only[hT]at h;obtain⟨⟨wH,wI⟩,ad,e⟩:=h;simp only[gp]at e;obtain⟨rfl,rfl⟩:=e;obtain⟨I,J⟩:=J9 l _ wH wI rW ad;refine⟨fun v aS=>?_,?_⟩
    ·rcases gH.1 aS with rfl|aS
     ·simp
     ·exact I v aS
    ·split at J<;>simp at J⊢ <;>omega
   ·cases h
  ·rw[uK _ _ _ aS]at h;simp only[hT]at h;obtain⟨⟨wH,wI⟩,ad,e⟩:=h;simp only[gp]at e;obtain⟨rfl,rfl⟩:=e;obtain⟨I,J⟩:=J9 l _ wH wI rW ad;refine⟨fun v aS=>?_,by simp;omega⟩;rcases gH.1 aS with rfl|aS
   ·exact hw _ Ψ
   ·exact I v aS
def vj(T:List (List aF))(c:Int)(name:List aF)(k:Nat):bb:=⟨[(2,.ptr (.loc 0) 0),(4,.slice 1 .no (de T)),(5,.int .i64 c),(7,.ptr (.loc 1) 0),(8,.int .i64 (4+(k:Int)))],[(.loc 0,[.str [],.int .i64 0,.int .i64 0,.int .i64 0,.str [],.slice 4 .nil [],.slice 4 .nil []]),(.loc 1,[.str name,.int .i64 k,.int .i64 0,.int .i64 0,.str [],.slice 4 .nil [],.slice 4 .nil []])],[],2,[]⟩
set_option maxRecDepth 8000 in
theorem Ze(l:List (List aF))(aE:l.length<=100000)(hw:∀w∈l,w≠[]):bT aP 108 [.slice 1 .no (de l)] ⟨[],[]⟩ (AJ (mJ l)):=by
 have bX:=agz l aE hw;obtain⟨O,hp⟩:∃O,O=mJ l:=⟨_,rfl⟩;rw[<-hp];unfold mJ at hp;cases sY:num [] l with
 |none=>rw[sY]at bX hp;subst hp;simp only[p3]at bX;have ao:=gb;refine bT.mk mixed h6 Bh CB Ψ ao.obj fun aG b5=>?_;unfold yV;clear aG b5;simp;(with_reducible repeat' first|refine aA ?_|refine aX bX ?_|refine aY bX ?_|simp);refine ck.df _ (.agg [.str [],.int .i64 0,.int .i64 0,.int .i64 0,.str [],.slice 4 .no [],.slice 4 .no []]) false Ψ (ve z6.symm) (by simp[ak,ai]) ?_;simp[cz,tq,bn,bp,bk]
 |some x=>
 obtain⟨T,M⟩:=x;rw[sY]at bX hp;simp only[p3]at bX;have aiE:=RV sY;obtain⟨ZM,ZI⟩:=J9 l [] T M hw sY;simp only[nj,nk]at ZI;have ZL:T.length<=100000:=Ω
 by_cases ch:T.length<6
 ·have:O=none:=by
   rw[hp];match T,ch with
   |[],_=>rfl
   |[a],_=>rfl
   |[a,b],_=>rfl
   |[a,b,c],_=>rfl
   |[a,b,c,d],_=>simp[my]
   |[a,b,c,d,e],_=>
    simp only;split
    ·have:∀k r,my 0 [e]=some (k,r)->r=[]:=fun k r h=>by
      simp only[my]at h;split at h
      ·cases h;rfl
      ·split at h<;>cases h
     cases bq:my 0 [e]with
     |none=>rfl
     |some y=>obtain⟨k,r⟩:=y;have:=this k r bq;subst this;simp[gA]
    ·rfl
  subst this;have zi:(T.length:Int)<6:=Ω
  clear hp;have ao:=gb;refine bT.mk mixed h6 Bh CB Ψ ao.obj fun aG b5=>?_;unfold yV;clear aG b5;simp;(with_reducible repeat' first|refine aA ?_|refine aX bX ?_|refine aY bX ?_|simp[zi]);refine ck.df _ (.agg [.str [],.int .i64 0,.int .i64 0,.int .i64 0,.str [],.slice 4 .no [],.slice 4 .no []]) false Ψ (ve z6.symm) (by simp[ak,ai]) ?_;simp[cz,tq,bn,bp,bk]
 have zi:¬(T.length:Int)<6:=Ω
 obtain⟨t0,t1,t2,t3,TY,rfl⟩:∃a b c d e,T=a::b::c::d::e:=by
  match T,ch with
  |a::b::c::d::e,_=>exact⟨a,b,c,d,e,rfl⟩
  |[],h=>simp at h
  |[a],h=>simp at h
  |[a,b],h=>simp at h
  |[a,b,c],h=>simp at h
 simp only at hp;generalize Bs:t0::t1::t2::t3::TY=T at*;have g1:T[1]? =some t1:=by rw[<-Bs];rfl
 have g2:T[2]? =some t2:=by rw[<-Bs];rfl
 have g3:T[3]? =some t3:=by rw[<-Bs];rfl
 have Qr:TY=T.drop 4:=by rw[<-Bs];rfl
 rw[Qr]at hp;have kf:1<T.length:=Ω
 have pZ:2<T.length:=Ω
 have Fu:3<T.length:=Ω
 have s1:∀cn,((de T)[1]'cn)= .str t1:=fun cn=>by rw[mB kf];rw[bO kf]at g1;rw[dZ g1]
 have s2:∀cn,((de T)[2]'cn)= .str t2:=fun cn=>by rw[mB pZ];rw[bO pZ]at g2;rw[dZ g2]
 have Ak:∀cn,((de T)[3]'cn)= .str t3:=fun cn=>by rw[mB Fu];rw[bO Fu]at g3;rw[dZ g3]
 have i1:(1:Int)<T.length:=Ω
 have i2:(2:Int)<T.length:=Ω
 have i3:(3:Int)<T.length:=Ω
 clear Bs sY Qr;by_cases a7:t1=km;rotate_left
 ·have:O=none:=by rw[hp,bf fun h=>a7 h.1]
  subst this;have af:(t1 != [100,101,102,105,110,101])=true:=qS a7;clear hp;have ao:=gb;refine bT.mk mixed h6 Bh CB Ψ ao.obj fun aG b5=>?_;unfold yV;clear aG b5;simp;((with_reducible repeat' first|refine aA ?_|refine aX bX ?_|refine aY bX ?_|simp[zi,kf,i1,s1,g1,af]|((first|apply cu|apply cw|apply cv)<;>intro h<;>try simp at h))<;>(try exact cK));refine ck.df _ (.agg [.str [],.int .i64 0,.int .i64 0,.int .i64 0,.str [],.slice 4 .no [],.slice 4 .no []]) false Ψ (ve z6.symm) (by simp[ak,ai]) ?_;simp[cz,tq,bn,bp,bk]
 by_cases Eu:t2=[40];rotate_left
 ·have:O=none:=by rw[hp,bf fun h=>Eu h.2]
  subst this;have af:=qS Eu;unfold km at a7;clear hp;have ao:=gb;refine bT.mk mixed h6 Bh CB Ψ ao.obj fun aG b5=>?_;unfold yV;clear aG b5;simp;((with_reducible repeat' first|refine aA ?_|refine aX bX ?_|refine aY bX ?_|simp[zi,kf,i1,s1,g1,a7,pZ,i2,s2,g2,af]|((first|apply cu|apply cw|apply cv)<;>intro h<;>try simp at h))<;>(try exact cK));refine ck.df _ (.agg [.str [],.int .i64 0,.int .i64 0,.int .i64 0,.str [],.slice 4 .no [],.slice 4 .no []]) false Ψ (ve z6.symm) (by simp[ak,ai]) ?_;simp[cz,tq,bn,bp,bk]
 rw[bN ⟨a7,Eu⟩]at hp;unfold km at a7;subst Eu;have ao:=gb;refine bT.mk mixed h6 Bh CB Ψ ao.obj fun aG b5=>?_;unfold yV;clear aG b5;simp;(with_reducible repeat' first|refine aA ?_|refine aX bX ?_|refine aY bX ?_|simp[zi,kf,i1,s1,g1,a7,pZ,i2,s2,g2,Fu,i3,Ak,g3]);clear i1 i2 i3 s1 s2 Ak kf pZ Fu g1 g2 g3 zi;refine gZ (vj T M.length t3) (fun k=>T.length-(4+k)) (fun k=>4+k<=T.length/\my k (T.drop (4+k))=my 0 (T.drop 4)) 0 (by simp[vj];exact⟨by simp[fresh,ai,ak,bc,ah,Pv.look,eo],cb (by simp[fresh,ai,ak,bc,ah,Pv.look,eo]),cc (by simp[fresh,ai,ak,b6,ah,Pv.look,eo]),Ψ⟩) ⟨Ω,rfl⟩ ?_;rintro k ⟨aa,nB⟩ _;have fh:aZ (k:Int):=by unfold aZ;omega
 have cZ:=yw (k:Int) fh;have ie:(b8 (k:Int)).length+1<=bA:=by have:=uv fh;unfold bA;omega
 rcases k1 aa with xF|dW
 ·have:O=none:=by rw[hp,<-nB,xF,List.drop_length];rfl
  subst this;have jc:¬(4+(k:Int))<T.length:=Ω
  have aas:(T.length:Int)<=4+(k:Int):=Ω
  clear hp nB cZ;simp[vj];(with_reducible repeat' first|refine aA ?_|simp[jc,aas]);refine ck.df _ (.agg [.str [],.int .i64 0,.int .i64 0,.int .i64 0,.str [],.slice 4 .no [],.slice 4 .no []]) false Ψ (ve z6.symm) (by simp[ak,ai]) ?_;simp[cz,tq,bn,bp,bk]
 obtain⟨w,ad⟩:∃v,T[4+k]? =some v:=⟨_,bO dW⟩;have ey:∀cn,((de T)[4+k]'cn)= .str w:=fun cn=>by rw[mB dW];rw[bO dW]at ad;rw[dZ ad]
 have cJ:(4+(k:Int))<T.length:=Ω
 have c2:¬(T.length:Int)<=4+(k:Int):=Ω
 have c3:(0:Int)<=4+(k:Int):=Ω
 have c4:(4+(k:Int)).toNat=4+k:=Ω
 have c5:aZ (4+(k:Int)+1):=by unfold aZ;omega
 have iI:aZ ((k:Int)+1):=by unfold aZ;omega
 rw[mb ad]at nB;have Qv:my k (w::T.drop (4+k+1))=if w=[41]then some ((k:Int),T.drop (4+k+1))else if w=63::b8 (k:Int)then my ((k:Int)+1) (T.drop (4+k+1))else none:=rfl
 rw[Qv]at nB;clear Qv;by_cases aS:w=63::b8 (k:Int)
 ·have jD:w≠[41]:=by rw[aS];simp
  rw[bf jD,bN aS]at nB;have af:(w==63::b8 (k:Int))=true:=by simpa using aS
  have eO:my ((k+1:Nat):Int) (T.drop (4+(k+1)))=my 0 (T.drop 4):=nB;clear nB hp aS jD;simp[vj];(with_reducible repeat' first|refine aA ?_|refine aX cZ ?_|refine aY cZ ?_|simp[cJ,c3,c4,dW,ey,ad,ie,af,c5,iI]);refine bP.whl (k+1) Ω ⟨Ω,eO⟩ (by simp[vj,Int.add_assoc];exact⟨by simp[fresh,ai,ak,bc,ah,Pv.look,eo],cb (by simp[fresh,ai,ak,bc,ah,Pv.look,eo]),cc (by simp[fresh,ai,ak,b6,ah,Pv.look,eo]),Ψ⟩)
 have jf:=uF aS;by_cases jD:w=[41];rotate_left
 ·rw[bf jD,bf aS]at nB;have:O=none:=by rw[hp,<-nB]
  subst this;have af:=qS jD;clear hp nB;simp[vj];((with_reducible repeat' first|refine aA ?_|refine aX cZ ?_|refine aY cZ ?_|simp[cJ,c2,c3,c4,dW,ey,ad,ie,jf,af,c5,iI]|((first|apply cu|apply cw|apply cv)<;>intro h<;>try simp at h))<;>(try exact cK));refine ck.df _ (.agg [.str [],.int .i64 0,.int .i64 0,.int .i64 0,.str [],.slice 4 .no [],.slice 4 .no []]) false Ψ (ve z6.symm) (by simp[ak,ai]) ?_;simp[cz,tq,bn,bp,bk]
 subst jD;rw[bN rfl]at nB;rw[<-nB]at hp;simp only at hp;have cB:=Zg T ZL ZM (2*(T.length-(4+k+1))+1) (4+k+1) Ω (da _);rw[show(2*(T.drop (4+k+1)).length+1)=2*(T.length-(4+k+1))+1 by rw[kH]]at hp;have Ir:((4+k+1:Nat):Int)=4+(k:Int)+1:=Ω
 rw[Ir]at cB;have xI:aZ ((M.length:Int)-(k:Int)):=by unfold aZ;omega
 have Jh:aZ ((T.length:Int)-1):=by unfold aZ;omega
 clear nB;cases jq:gA jj Go.Pv.hdS (2*(T.length-(4+k+1))+1) (T.drop (4+k+1))with
 |none=>rw[jq]at cB hp;simp only at hp;subst hp;simp[vj];(with_reducible repeat' first|refine aA ?_|refine aX cZ ?_|refine aY cZ ?_|simp[cJ,c2,c3,c4,dW,ey,ad,ie,jf,c5,iI]);refine bI.ob cB gb (fun k cs h=>by simp[Pv.look]at h) (fun k cs h=>by simp[Pv.look]at h) (by simp[ai,ak]) ?_;rintro r aC ⟨rfl,g,q,rfl⟩;refine⟨fJ.refl _,?_⟩;simp[bu];(with_reducible repeat' first|refine aA ?_|simp[xI,Jh]);refine ck.df _ (.agg [.str t3,.int .i64 k,.int .i64 ((M.length:Int)-k),.int .i64 g.kind,.str g.name,.slice 4 .no (g.ts.map enc),.slice 4 .no (g.gs.map Gm.e)]) false Ψ (ve (x:=⟨t3,k,(M.length:Int)-k,g⟩) rfl) (by simp[ak,ai]) ?_;simp[cz,tq,bn,bp,bk]
 |some x=>
  obtain⟨g,rest⟩:=x;rw[jq]at cB hp;have abn:=(Gb C5 _ _ _ _ jq).1.length_le;rw[kH]at abn;simp[vj];(with_reducible repeat' first|refine aA ?_|refine aX cZ ?_|refine aY cZ ?_|simp[cJ,c2,c3,c4,dW,ey,ad,ie,jf,c5,iI]);refine bI.ob cB gb (fun k cs h=>by simp[Pv.look]at h) (fun k cs h=>by simp[Pv.look]at h) (by simp[ai,ak]) ?_;rintro r aC ⟨rfl,rfl⟩;refine⟨fJ.refl _,?_⟩;simp[bu];by_cases I:rest.length=1
  ·obtain⟨u,rfl⟩:∃u,rest=[u]:=List.length_eq_one_iff.1 I;simp only at hp;subst hp;have bG:(((T.length-1:Nat):Int)==(T.length:Int)-1)=true:=by simp;omega
   (with_reducible repeat' first|refine aA ?_|simp[xI,Jh,bG]);refine ck.df _ (.agg [.str t3,.int .i64 k,.int .i64 ((M.length:Int)-k),.int .i64 g.kind,.str g.name,.slice 4 .no (g.ts.map enc),.slice 4 .no (g.gs.map Gm.e)]) true Ψ (UT (x:=⟨t3,k,(M.length:Int)-k,g⟩) rfl) (by simp[ak,ai]) ?_;simp[cz,tq,bn,bp,bk]
  ·have:O=none:=by
    rw[hp];match rest,I with
    |[],_=>rfl
    |a::b::c,_=>rfl
    |[a],h=>simp at h
   subst this;have bG:(((T.length-rest.length:Nat):Int)==(T.length:Int)-1)=false:=jL.2 Ω;clear hp;(with_reducible repeat' first|refine aA ?_|simp[xI,Jh,bG]);refine ck.df _ (.agg [.str t3,.int .i64 k,.int .i64 ((M.length:Int)-k),.int .i64 g.kind,.str g.name,.slice 4 .no (g.ts.map enc),.slice 4 .no (g.gs.map Gm.e)]) false Ψ (ve (x:=⟨t3,k,(M.length:Int)-k,g⟩) rfl) (by simp[ak,ai]) ?_;simp[cz,tq,bn,bp,bk]
end
end Go.Proofs.YtlnndmgfngfeiaaGreatDoor
namespace Go.Pv
section
open Go Go.Lib
def ye(s:List aF):be (List Rl):=match nN s with
 |none=>none
 |some l=>q7 (uR l.length l)
theorem aeo(s:List aF):ye s=match nN s with
  |none=>none
  |some l=>q7 (ox l.length l):=by
 unfold ye;split
 ·rfl
 ·rw[aet]
end
end Go.Pv
