/- A program's text read. -/
import Derived.Test.YtlnndmgfngfeiaaGreatDoorProg
import Derived.Shelf.SlSortFuncK.WholeK
import Derived.Shelf.GgSortFunc.Tiny
import Derived.Ground.GgsProg
import Derived.Deep.QuietTactic
import Derived.Lib.OwnBridge
import Derived.Test.YtlnndmgfngfeiaaGreatDoorZp8
set_option linter.all false
set_option maxHeartbeats 4000000
set_option maxRecDepth 4000
open Bool renaming and_eq_true->bM
open Go.Proofs.Tryz renaming prog->aQ
open Int renaming add_assoc->pc
open List renaming all_eq_true->jy,append_assoc->kE,drop_eq_getElem_cons->pd,drop_length->jN,getElem?_drop->k2,getElem?_eq_getElem->cF,getElem?_eq_some_iff->e3,length_append->j2,length_cons->lx,length_drop->hg,length_take->pe,map_cons->gY,mem_append->hv,mem_cons->gp,mem_of_getElem?->fJ,nil_append->ef,take_add_one->k3,take_append_drop->q3,take_length->j4
open Nat renaming eq_or_lt_of_le->iX,le_refl->cq,lt_or_ge->ly
open Option renaming getD->oG,getD_some->pf,isSome->sC,isSome_none->sD,map_eq_some_iff->ij,map_none->tG,map_some->kF
open Option.some renaming inj->gq,injEq->dZ
open Prod.mk renaming injEq->gA
open _root_ renaming False->cZ,Option->aT,UInt8->al,beq_eq_false_iff_ne->jm,decide_eq_true->nM,decide_eq_true_eq->fK,if_neg->bq
namespace Go.Proofs.YtlnndmgfngfeiaaGreatDoor
section
open Go Go.Pv
variable {ky:Nat}
def qe(ky:Nat)(l:List (List al))(k:Int)(j q:Nat):List (Gm×Nat)->aS
 |[]=>⟨[(0,.ptr (.obj ky) 0),(1,dF ky),(4,.ptr (.loc 0) 0),(5,.bool false),(10,.ptr (.loc 2) 0)],[(.loc 0,[.int .i64 0,.str [],.slice 4 .nil [],.slice 4 .nil []]),(.obj ky,[.slice 1 .no (bZ l),.int .i64 j]),(.loc 2,[.int .i64 k,.str [],.slice 4 .nil [],.slice 4 .nil []])],[],3,[.obj ky]⟩
 |x::xs=>⟨[(0,.ptr (.obj ky) 0),(1,dF ky),(4,.ptr (.loc 0) 0),(5,.bool false),(10,.ptr (.loc 2) 0)],[(.loc 0,[.int .i64 0,.str [],.slice 4 .nil [],.slice 4 .nil []]),(.obj ky,[.slice 1 .no (bZ l),.int .i64 j]),(.loc 2,[.int .i64 k,.str [],.slice 4 .nil [],.slice 4 (.own (.loc 6)) (cY Gm.k (x::xs))])],[(.loc 6,⟨xs.length+1,65,4,none⟩)],q+7,[.obj ky]⟩
theorem N0{l:List (List al)}{i p:Nat}{g:Gm}{rest:List (List al)}(h:wQ ky l i (some (g,rest)))(aU:l.length-rest.length=p)(κ:Nat):FnK aQ 114 κ [av ky,dF ky] (ad ky l i) fun r ai=>r= .tuple [g.k κ,.bool true]/\ai=ad ky l p:=(h κ).mono fun r ai bn=>by rw[<-aU];exact bn
theorem Z5(l:List (List al))(aG:l.length<=100000){k:Int}(aa:kz k=true){i0 i1 κ:Nat}(bo:∀j n:Nat,i1<=j->j<=l.length->2*(l.length-j)+1<=n->wQ ky l j (eX ei fb n (l.drop j))){R:aT (Gm×List (List al))}(st:aS)(j n:Nat)(mL:i1<=j)(aw:j<=l.length)(aK:2*(l.length-j)+2<=n)(bu:eC ei fb n k [] [] [] (l.drop j)=R)(lj:hH [.obj ky] st (qe ky l k j 0 [])):
  ct aQ [.obj ky] yx (dy [.cell 4 true 4,.tmp 5] (ad ky l i0) κ (vA ky l R κ)) st:=by
 have I:1<k:=by simp[kz]at aa;omega
 have hC:k=7\/k=8\/k=10:=by simp[kz]at aa;omega
 unfold yx;simp;refine h1 (fun x:List (Gm×Nat)×Nat×Nat×Nat=>qe ky l k x.2.1 x.2.2.2 x.1) (fun x=>l.length-x.2.1) (fun x=>i1<=x.2.1/\x.2.1<=l.length/\2*(l.length-x.2.1)+2<=x.2.2.1/\eC ei fb x.2.2.1 k [] [] (x.1.map (·.1)) (l.drop x.2.1)=R/\x.1.length<=x.2.1/\lz (x.2.2.2+7) x.1) ([],j,n,0) lj ⟨mL,aw,aK,bu,Nat.zero_le _,.nil _⟩ ?_;clear lj bu aK aw mL st;rintro⟨acc,j,n,q⟩ ⟨mL,aw,aK,bu,jd,ft⟩ _;simp only at mL aw aK bu jd ft;subst bu;obtain⟨n,rfl⟩:∃m,n=m+1:=⟨n-1,Ω⟩;have oe:j<=1000000:=Ω
 have ke:=bo j n mL aw Ω;clear bo;rcases iX aw with rfl|fs
 ·have dH:=iU (ky:=ky) (l:=l) (i:=l.length) (s:=[41]) oe Ψ;rw[jN]at ke⊢;rw[show eX ei fb n []=none by cases n<;>simp[eX]]at ke;rw[show eC ei fb (n+1) k [] [] (acc.map (·.1)) []=none by simp[eC]];rcases hC with rfl|rfl|rfl;all_goals cases acc with
  |nil=>simp[qe];refine CallDo.ob (dH) (a7 _ _) (by simp only[ad];exact aB) (by simp only[ad];exact aB) (by simp[au,Pv.look,ad,av,kinL,kin]) ?_;rintro r ai ⟨rfl,rfl⟩;refine⟨bJ _ _ _ _,?_⟩;simp[bg,ad,av];(with_reducible repeat' first|refine aA ?_|simp);refine CallDo.obK (ke _) (a7 _ _) (by simp only[ad];exact aB) (by simp only[ad];exact aB) (by simp[au,Pv.look,ad,av,dF,kinL,kin]) Ψ ?_;rintro r ai ⟨x,hL,bn,rfl,rfl⟩;refine⟨bJ _ _ _ _,?_⟩;simp[bg,ad,av];(with_reducible repeat' first|refine aA ?_|simp);refine dy.gm (hL) (.mk 0 [] [] []) false Ψ (rr bn _) (by simp only[ad];exact aB) ?_;simp[a1,be,aV,cH,dV,cp,dx,bY,dt,tnL,tn,dU,ey,fold,eb,ea,eP,Pv.look,dv,bz,bC,Gm.k,Gm.kind,Gm.name,Gm.ts,Gm.gs]
  |cons a eE=>simp[qe];refine CallDo.ob (dH) (a7 _ _) (by simp only[ad];exact aB) (by simp only[ad];exact aB) (by simp[au,Pv.look,ad,av,kinL,kin]) ?_;rintro r ai ⟨rfl,rfl⟩;refine⟨bJ _ _ _ _,?_⟩;simp[bg,ad,av];(with_reducible repeat' first|refine aA ?_|simp);refine CallDo.obK (ke _) (a7 _ _) (by simp only[ad];exact aB) (by simp only[ad];exact aB) (by simp[au,Pv.look,ad,av,dF,kinL,kin]) Ψ ?_;rintro r ai ⟨x,hL,bn,rfl,rfl⟩;refine⟨bJ _ _ _ _,?_⟩;simp[bg,ad,av];(with_reducible repeat' first|refine aA ?_|simp);refine dy.gm (hL) (.mk 0 [] [] []) false Ψ (rr bn _) (by simp only[ad];exact aB) ?_;simp[a1,be,aV,cH,dV,cp,dx,bY,dt,tnL,tn,dU,ey,fold,eb,ea,eP,Pv.look,dv,bz,bC,Gm.k,Gm.kind,Gm.name,Gm.ts,Gm.gs]
 obtain⟨v,aM⟩:∃v,l[j]? =some v:=⟨_,cF fs⟩;by_cases eN:v=[41]
 ·subst eN;have dH:=nf (ky:=ky) oe aM;have aF:=sO aM;obtain⟨G,rD⟩:∃G,G=Gm.mk k [] [] (acc.map (·.1)):=⟨_,rfl⟩;rw[fi aM,show eC ei fb (n+1) k [] [] (acc.map (·.1)) ([41]::l.drop (j+1))=some (G,l.drop (j+1)) by simp[eC,I,rD]];cases acc with
  |nil=>simp[qe];refine CallDo.ob (dH) (a7 _ _) (by simp only[ad];exact aB) (by simp only[ad];exact aB) (by simp[au,Pv.look,ad,av,kinL,kin]) ?_;rintro r ai ⟨rfl,rfl⟩;refine⟨bJ _ _ _ _,?_⟩;simp[bg,ad,av];(with_reducible repeat' first|refine aA ?_|simp);refine dy.gm (j+1) (G) true Ψ (yW aF) (by simp only[ad];exact aB) ?_;simp[a1,be,aV,cH,dV,cp,dx,bY,dt,fold,eb,ea,eP,Pv.look,dv,Gm.k,Gm.kind,Gm.name,Gm.ts,Gm.gs,rD,bz]
  |cons a eE=>have uo:=NU ft.nd;simp[qe];refine CallDo.ob (dH) (a7 _ _) (by simp only[ad];exact aB) (by simp only[ad];exact aB) (by simp[au,Pv.look,ad,av,kinL,kin]) ?_;rintro r ai ⟨rfl,rfl⟩;refine⟨bJ _ _ _ _,?_⟩;simp[bg,ad,av];(with_reducible repeat' first|refine aA ?_|simp);refine dy.gm (j+1) (G) true Ψ (yW aF) (by simp only[ad];exact aB) ?_;simp[a1,be,aV,cH,dV,cp,dx,bY,dt,fold,eb,ea,eP,Pv.look,dv,Gm.k,Gm.kind,Gm.name,Gm.ts,Gm.gs,rD,NV,uo,NW,bz]
 have dH:=iU (ky:=ky) (l:=l) (i:=j) oe (show l[j]?≠some [41] by rw[aM];simpa using eN);rw[fi aM]at ke⊢;cases db:eX ei fb n (v::l.drop (j+1))with
 |none=>
  rw[db]at ke;rw[show eC ei fb (n+1) k [] [] (acc.map (·.1)) (v::l.drop (j+1))=none by simp[eC,eN,aa,db]];clear aa;rcases hC with rfl|rfl|rfl;all_goals cases acc with
  |nil=>simp[qe];refine CallDo.ob (dH) (a7 _ _) (by simp only[ad];exact aB) (by simp only[ad];exact aB) (by simp[au,Pv.look,ad,av,kinL,kin]) ?_;rintro r ai ⟨rfl,rfl⟩;refine⟨bJ _ _ _ _,?_⟩;simp[bg,ad,av];(with_reducible repeat' first|refine aA ?_|simp);refine CallDo.obK (ke _) (a7 _ _) (by simp only[ad];exact aB) (by simp only[ad];exact aB) (by simp[au,Pv.look,ad,av,dF,kinL,kin]) Ψ ?_;rintro r ai ⟨x,hL,bn,rfl,rfl⟩;refine⟨bJ _ _ _ _,?_⟩;simp[bg,ad,av];(with_reducible repeat' first|refine aA ?_|simp);refine dy.gm (hL) (.mk 0 [] [] []) false Ψ (rr bn _) (by simp only[ad];exact aB) ?_;simp[a1,be,aV,cH,dV,cp,dx,bY,dt,tnL,tn,dU,ey,fold,eb,ea,eP,Pv.look,dv,bz,bC,Gm.k,Gm.kind,Gm.name,Gm.ts,Gm.gs]
  |cons a eE=>simp[qe];refine CallDo.ob (dH) (a7 _ _) (by simp only[ad];exact aB) (by simp only[ad];exact aB) (by simp[au,Pv.look,ad,av,kinL,kin]) ?_;rintro r ai ⟨rfl,rfl⟩;refine⟨bJ _ _ _ _,?_⟩;simp[bg,ad,av];(with_reducible repeat' first|refine aA ?_|simp);refine CallDo.obK (ke _) (a7 _ _) (by simp only[ad];exact aB) (by simp only[ad];exact aB) (by simp[au,Pv.look,ad,av,dF,kinL,kin]) Ψ ?_;rintro r ai ⟨x,hL,bn,rfl,rfl⟩;refine⟨bJ _ _ _ _,?_⟩;simp[bg,ad,av];(with_reducible repeat' first|refine aA ?_|simp);refine dy.gm (hL) (.mk 0 [] [] []) false Ψ (rr bn _) (by simp only[ad];exact aB) ?_;simp[a1,be,aV,cH,dV,cp,dx,bY,dt,tnL,tn,dU,ey,fold,eb,ea,eP,Pv.look,dv,bz,bC,Gm.k,Gm.kind,Gm.name,Gm.ts,Gm.gs]
 |some tr=>
  obtain⟨g,rest⟩:=tr;rw[db]at ke;obtain⟨rP,rQ⟩:=zM Km _ _ _ _ db;rw[<-fi aM]at rP rQ;obtain⟨fE,nz⟩:=tt rP;obtain⟨p,aU⟩:∃p,p=l.length-rest.length:=⟨_,rfl⟩;rw[<-aU]at fE;have uD:=N0 ke aU.symm;have fm:p<=l.length:=Ω
  have HM:j<p:=by simp at rQ;omega
  have gJ:acc.length+1<=bN:=by unfold bN;omega
  have eI:∀L,eC ei fb (n+1) k [] [] L (v::l.drop (j+1))=eC ei fb n k [] [] (L++[g]) rest:=fun L=>by simp[eC,eN,aa,db]
  clear aa;cases acc with
  |nil=>
   rw[show eC ei fb (n+1) k [] [] (([]:List (Gm×Nat)).map (·.1)) (v::l.drop (j+1))=eC ei fb n k [] [] (([(g,3)]:List (Gm×Nat)).map (·.1)) rest from eI _];clear eI;rcases hC with rfl|rfl|rfl;all_goals
    simp[qe]
    refine CallDo.ob (dH) (a7 _ _) (by simp only[ad];exact aB) (by simp only[ad];exact aB) (by simp[au,Pv.look,ad,av,kinL,kin]) ?_
    rintro r ai ⟨rfl,rfl⟩
    refine⟨bJ _ _ _ _,?_⟩
    simp[bg,ad,av]
    (with_reducible repeat' first|refine aA ?_|simp)
    refine CallDo.obK (uD _) (a7 _ _) (by simp only[ad];exact aB) (by simp only[ad];exact aB) (by simp[au,Pv.look,ad,av,dF,kinL,kin]) Ψ ?_
    rintro r ai ⟨rfl,rfl⟩
    refine⟨bJ _ _ _ _,?_⟩
    simp[bg,ad,av]
    (with_reducible repeat' first|refine aA ?_|simp[gJ])
    refine b9.whl ([(g,3)],p,n,0) (by simp;omega) ⟨by simp;omega,fm,by simp;omega,by simp[<-fE],by simp;omega,⟨Ψ,Ψ⟩⟩ ?_
    simp[qe,cY]
    exact⟨by simp[fresh,kinL,kin,bt,au,Pv.look,dF,av,Gm.k],cR (by simp[fresh,kinL,kin,bt,au,Pv.look,dF,av,Gm.k]),cS (by simp[fresh,kinL,kin,cB,au,Pv.look,dF,av,Gm.k]),Ψ⟩
  |cons a eE=>
   simp only[lx]at gJ;rw[show eC ei fb (n+1) k [] [] ((a::eE).map (·.1)) (v::l.drop (j+1))=eC ei fb n k [] [] ((a::eE++[(g,q+7)]).map (·.1)) rest by rw[eI];simp];clear eI;have bp:=ft.snoc g (cq (q+7)) (show q+7<q+3+7 by omega);have fe:=Xr bp (cq _) [.obj ky];simp[fresh]at fe;have iv:cY Gm.k (a::eE)++[.agg [.int .i64 g.kind,.str g.name,.slice 4 (.tr (.loc (q+7)) 0) (g.ts.map enc),.slice 4 (.tr (.loc (q+7)) 1) (g.gs.map Gm.e)]]=cY Gm.k (a::(eE++[(g,q+7)])):=(EM Gm.k (a::eE) g (q+7)).symm;rcases hC with rfl|rfl|rfl;all_goals
    simp[qe]
    refine CallDo.ob (dH) (a7 _ _) (by simp only[ad];exact aB) (by simp only[ad];exact aB) (by simp[au,Pv.look,ad,av,kinL,kin]) ?_
    rintro r ai ⟨rfl,rfl⟩
    refine⟨bJ _ _ _ _,?_⟩
    simp[bg,ad,av]
    (with_reducible repeat' first|refine aA ?_|simp)
    refine CallDo.obK (uD _) (a7 _ _) (by simp only[ad];exact aB) (by simp only[ad];exact aB) (by simp[au,Pv.look,ad,av,dF,kinL,kin]) Ψ ?_
    rintro r ai ⟨rfl,rfl⟩
    refine⟨bJ _ _ _ _,?_⟩
    simp[bg,ad,av]
    (with_reducible repeat' first|refine aA ?_|simp[gJ])
    refine b9.whl (a::eE++[(g,q+7)],p,n,q+3) (by simp;omega) ⟨by simp;omega,fm,by simp;omega,by simp[<-fE],by simp at jd⊢;omega,bp⟩ ?_
    simp[qe]
    exact⟨by simp[fresh,kinL,kin,bt,au,Pv.look,iv,fe,dF,av],cR (by simp[fresh,kinL,kin,bt,au,Pv.look,iv,fe,dF,av]),cS (by simp[fresh,kinL,kin,cB,au,Pv.look,iv,fe,dF,av]),Ψ⟩
theorem aaa(l:List (List al))(aG:l.length<=100000)(hw:∀w∈l,w≠[]/\w.length<=bN):∀m i n:Nat,l.length-i<=m->i<=l.length->2*(l.length-i)+1<=n->wQ ky l i (eX ei fb n (l.drop i)):=by
 intro m;induction m with
 |zero=>
  intro i n hm az aK;obtain rfl:i=l.length:=Ω
  rw[jN,show eX ei fb n []=none by cases n<;>simp[eX]];exact Iu l aG (cq _) Ψ Ψ Ψ
 |succ m bo=>
 intro i n hm az aK;obtain⟨n,rfl⟩:∃m,n=m+1:=⟨n-1,Ω⟩;rcases iX az with rfl|gZ
 ·rw[jN,show eX ei fb (n+1) []=none by simp[eX]];exact Iu l aG (cq _) Ψ Ψ Ψ
 obtain⟨v,h⟩:∃v,l[i]? =some v:=⟨_,cF gZ⟩;rw[fi h];by_cases j5:v=hP
 ·subst j5;rw[show eX ei fb (n+1) (hP::l.drop (i+1))=some (.mk 0 [] [] [],l.drop (i+1)) by simp[eX]];exact aad l aG h
 by_cases fj:v=ih
 ·subst fj;rw[show eX ei fb (n+1) (ih::l.drop (i+1))=some (.mk 1 [] [] [],l.drop (i+1)) by simp[eX,j5]];exact aac l aG h
 by_cases aO:v=[40];rotate_left
 ·rw[show eX ei fb (n+1) (v::l.drop (i+1))=none by simp[eX,j5,fj,aO]];exact Iu l aG az (by rw[h];simpa using j5) (by rw[h];simpa using fj) (by rw[h];simpa using aO)
 subst aO;clear j5 fj;have UN:∀r,eX ei fb (n+1) ([40]::r)=(match r with
   |[]=>none
   |h::cE=>match fb h with
    |some (k,s)=>eC ei fb n k s [] [] cE
    |none=>none):=fun r=>by
  rcases r with _|⟨h,r⟩
  ·simp[eX,hP,ih]
  ·simp[eX,hP,ih];split<;>simp_all
 rw[UN];rcases iX (show i+1<=l.length by omega)with he|YF
 ·rw[he,jN];exact aab l aG h he
 obtain⟨w,bI⟩:∃w,l[i+1]? =some w:=⟨_,cF YF⟩;rw[fi bI];simp only;intro κ;have cD:=Kw w;cases aF:fb w with
 |none=>
  simp only;obtain⟨aa,hr⟩:nr w=none/\gL w=false:=by
   unfold fb at aF;cases aa:nr w with
   |some k=>rw[aa]at aF;simp at aF
   |none=>rw[aa]at aF;refine⟨rfl,?_⟩;cases hr:gL w with
    |true=>simp[hr]at aF
    |false=>rfl
  rw[hr]at cD;clear bo;have aq:=a7 (ky:=ky) l i;have az:=(e3.1 h).1;have eU:=iU (ky:=ky) (show i<=1000000 by omega) (s:=hP) (l:=l) (i:=i) (by rw[h];decide);have cI:=iU (ky:=ky) (show i<=1000000 by omega) (s:=ih) (l:=l) (i:=i) (by rw[h];decide);have dr:=nf (ky:=ky) (show i<=1000000 by omega) h;have dA:=kI (ky:=ky) (e3.1 bI).1;have mU:=iy (ky:=ky) bI;have b1:aY ((i:Int)+1+1):=by unfold aY;omega
  simp only[ad]at aq;simp only[hP]at eU;simp only[ih]at cI;refine FnK.mk mixed yc xb xS Ψ aq.obj rfl fun aN b3=>?_;unfold vj;clear aN b3;simp[av,ad];refine CallDo.ob (eU) (a7 _ _) (by simp only[ad];exact aB) (by simp only[ad];exact aB) (by simp[au,Pv.look,ad,av,kinL,kin]) ?_;rintro r ai ⟨rfl,rfl⟩;refine⟨bJ _ _ _ _,?_⟩;simp[bg,ad,av];(with_reducible repeat' first|refine aA ?_|simp);refine CallDo.ob (cI) (a7 _ _) (by simp only[ad];exact aB) (by simp only[ad];exact aB) (by simp[au,Pv.look,ad,av,kinL,kin]) ?_;rintro r ai ⟨rfl,rfl⟩;refine⟨bJ _ _ _ _,?_⟩;simp[bg,ad,av];(with_reducible repeat' first|refine aA ?_|simp);refine CallDo.ob (dr) (a7 _ _) (by simp only[ad];exact aB) (by simp only[ad];exact aB) (by simp[au,Pv.look,ad,av,kinL,kin]) ?_;rintro r ai ⟨rfl,rfl⟩;refine⟨bJ _ _ _ _,?_⟩;simp[bg,ad,av];(with_reducible repeat' first|refine aA ?_|simp);refine CallDo.ob (dA) (a7 _ _) (by simp only[ad];exact aB) (by simp only[ad];exact aB) (by simp[au,Pv.look,ad,av,kinL,kin]) ?_;rintro r ai ⟨rfl,rfl⟩;refine⟨bJ _ _ _ _,?_⟩;simp[bg,ad,av];(with_reducible repeat' first|refine aA ?_|simp);refine CallDo.ob (mU) (a7 _ _) (by simp only[ad];exact aB) (by simp only[ad];exact aB) (by simp[au,Pv.look,ad,av,kinL,kin]) ?_;rintro r ai ⟨rfl,rfl⟩;refine⟨bJ _ _ _ _,?_⟩;simp[bg,ad,av];(with_reducible repeat' first|refine aA ?_|refine a8 cD ?_|refine ba cD ?_|simp[b1,IX,aa,-uH]);refine dy.gm (i+1+1) (.mk 0 [] [] []) false Ψ (rr Ω _) (by simp only[ad];exact aB) ?_;simp[a1,be,aV,cH,dV,cp,dx,bY,dt,tnL,tn,dU,ey,fold,eb,ea,eP,Pv.look,dv,bz,bC,Gm.k,Gm.kind,Gm.name,Gm.ts,Gm.gs]
 |some x=>
  obtain⟨k,s⟩:=x;simp only;obtain⟨I,J,ao⟩:=Yd aF;have done:∀st,hH [.obj ky] st (nQ ky l k s (i+2) 0 [])->ct aQ [.obj ky] yx (dy [.cell 4 true 4,.tmp 5] (ad ky l i) κ (vA ky l (eC ei fb n k s [] [] (l.drop (i+1+1))) κ)) st:=by
   intro st eI;cases oU:kz k with
   |false=>obtain⟨eu,gB,fC⟩:=ao oU;exact Z6 l aG hw I eu gB fC st (i+2) n Ω Ω rfl eI
   |true=>obtain rfl:=J oU;exact Z5 l aG oU (i1:=i+2) (fun j n kP hA Bi=>bo j n Ω hA Bi) st (i+2) n (cq _) Ω Ω rfl eI
  clear bo I J ao;cases aa:nr w with
  |some bb=>
   obtain⟨rfl,rfl⟩:bb=k/\([]:List al)=s:=by unfold fb at aF;rw[aa]at aF;simpa using aF
   have aq:=a7 (ky:=ky) l i;have az:=(e3.1 h).1;have eU:=iU (ky:=ky) (show i<=1000000 by omega) (s:=hP) (l:=l) (i:=i) (by rw[h];decide);have cI:=iU (ky:=ky) (show i<=1000000 by omega) (s:=ih) (l:=l) (i:=i) (by rw[h];decide);have dr:=nf (ky:=ky) (show i<=1000000 by omega) h;have dA:=kI (ky:=ky) (e3.1 bI).1;have mU:=iy (ky:=ky) bI;have b1:aY ((i:Int)+1+1):=by unfold aY;omega
   simp only[ad]at aq;simp only[hP]at eU;simp only[ih]at cI;refine FnK.mk mixed yc xb xS Ψ aq.obj rfl fun aN b3=>?_;unfold vj;clear aN b3;simp[av,ad];refine CallDo.ob (eU) (a7 _ _) (by simp only[ad];exact aB) (by simp only[ad];exact aB) (by simp[au,Pv.look,ad,av,kinL,kin]) ?_;rintro r ai ⟨rfl,rfl⟩;refine⟨bJ _ _ _ _,?_⟩;simp[bg,ad,av];(with_reducible repeat' first|refine aA ?_|simp);refine CallDo.ob (cI) (a7 _ _) (by simp only[ad];exact aB) (by simp only[ad];exact aB) (by simp[au,Pv.look,ad,av,kinL,kin]) ?_;rintro r ai ⟨rfl,rfl⟩;refine⟨bJ _ _ _ _,?_⟩;simp[bg,ad,av];(with_reducible repeat' first|refine aA ?_|simp);refine CallDo.ob (dr) (a7 _ _) (by simp only[ad];exact aB) (by simp only[ad];exact aB) (by simp[au,Pv.look,ad,av,kinL,kin]) ?_;rintro r ai ⟨rfl,rfl⟩;refine⟨bJ _ _ _ _,?_⟩;simp[bg,ad,av];(with_reducible repeat' first|refine aA ?_|simp);refine CallDo.ob (dA) (a7 _ _) (by simp only[ad];exact aB) (by simp only[ad];exact aB) (by simp[au,Pv.look,ad,av,kinL,kin]) ?_;rintro r ai ⟨rfl,rfl⟩;refine⟨bJ _ _ _ _,?_⟩;simp[bg,ad,av];(with_reducible repeat' first|refine aA ?_|simp);refine CallDo.ob (mU) (a7 _ _) (by simp only[ad];exact aB) (by simp only[ad];exact aB) (by simp[au,Pv.look,ad,av,kinL,kin]) ?_;rintro r ai ⟨rfl,rfl⟩;refine⟨bJ _ _ _ _,?_⟩;simp[bg,ad,av];(with_reducible repeat' first|refine aA ?_|simp[b1,IX,aa,-uH]);refine done _ ?_;simp[nQ,show(i:Int)+2=i+1+1 by omega];exact⟨by simp[fresh,kinL,kin,bt,au,Pv.look,jj,kY,dF,av],cR (by simp[fresh,kinL,kin,bt,au,Pv.look,jj,kY,dF,av]),cS (by simp[fresh,kinL,kin,cB,au,Pv.look,jj,kY,dF,av]),Ψ⟩
  |none=>
   obtain⟨hr,rfl,rfl⟩:gL w=true/\k=9/\s=w:=by
    unfold fb at aF;rw[aa]at aF;cases hr:gL w with
    |false=>simp[hr]at aF
    |true=>simp[hr]at aF;exact⟨rfl,aF.1.symm,aF.2.symm⟩
   rw[hr]at cD;have aq:=a7 (ky:=ky) l i;have az:=(e3.1 h).1;have eU:=iU (ky:=ky) (show i<=1000000 by omega) (s:=hP) (l:=l) (i:=i) (by rw[h];decide);have cI:=iU (ky:=ky) (show i<=1000000 by omega) (s:=ih) (l:=l) (i:=i) (by rw[h];decide);have dr:=nf (ky:=ky) (show i<=1000000 by omega) h;have dA:=kI (ky:=ky) (e3.1 bI).1;have mU:=iy (ky:=ky) bI;have b1:aY ((i:Int)+1+1):=by unfold aY;omega
   simp only[ad]at aq;simp only[hP]at eU;simp only[ih]at cI;refine FnK.mk mixed yc xb xS Ψ aq.obj rfl fun aN b3=>?_;unfold vj;clear aN b3;simp[av,ad];refine CallDo.ob (eU) (a7 _ _) (by simp only[ad];exact aB) (by simp only[ad];exact aB) (by simp[au,Pv.look,ad,av,kinL,kin]) ?_;rintro r ai ⟨rfl,rfl⟩;refine⟨bJ _ _ _ _,?_⟩;simp[bg,ad,av];(with_reducible repeat' first|refine aA ?_|simp);refine CallDo.ob (cI) (a7 _ _) (by simp only[ad];exact aB) (by simp only[ad];exact aB) (by simp[au,Pv.look,ad,av,kinL,kin]) ?_;rintro r ai ⟨rfl,rfl⟩;refine⟨bJ _ _ _ _,?_⟩;simp[bg,ad,av];(with_reducible repeat' first|refine aA ?_|simp);refine CallDo.ob (dr) (a7 _ _) (by simp only[ad];exact aB) (by simp only[ad];exact aB) (by simp[au,Pv.look,ad,av,kinL,kin]) ?_;rintro r ai ⟨rfl,rfl⟩;refine⟨bJ _ _ _ _,?_⟩;simp[bg,ad,av];(with_reducible repeat' first|refine aA ?_|simp);refine CallDo.ob (dA) (a7 _ _) (by simp only[ad];exact aB) (by simp only[ad];exact aB) (by simp[au,Pv.look,ad,av,kinL,kin]) ?_;rintro r ai ⟨rfl,rfl⟩;refine⟨bJ _ _ _ _,?_⟩;simp[bg,ad,av];(with_reducible repeat' first|refine aA ?_|simp);refine CallDo.ob (mU) (a7 _ _) (by simp only[ad];exact aB) (by simp only[ad];exact aB) (by simp[au,Pv.look,ad,av,kinL,kin]) ?_;rintro r ai ⟨rfl,rfl⟩;refine⟨bJ _ _ _ _,?_⟩;simp[bg,ad,av];(with_reducible repeat' first|refine aA ?_|refine a8 cD ?_|refine ba cD ?_|simp[b1,IX,aa,-uH]);refine done _ ?_;simp[nQ,show(i:Int)+2=i+1+1 by omega];exact⟨by simp[fresh,kinL,kin,bt,au,Pv.look,jj,kY,dF,av],cR (by simp[fresh,kinL,kin,bt,au,Pv.look,jj,kY,dF,av]),cS (by simp[fresh,kinL,kin,cB,au,Pv.look,jj,kY,dF,av]),Ψ⟩
end
section
open Go Go.Pv
end
section
end
section
open Go Go.Pv
end
end Go.Proofs.YtlnndmgfngfeiaaGreatDoor
namespace Go.Proofs
section
open Go.Shelf
end
section
open Go.Shelf Go.RowKit Go.Lib Go.Sort
def K3:Type:={x:List Value//x.length=4/\∀v∈x,v.oneCell'=true}
instance:Inhabited K3:=⟨⟨[.int .i64 0,.int .i64 0,.int .i64 0,.int .i64 0],rfl,by intro v aM;simp at aM;subst aM;rfl⟩⟩
def To:Type:=Int×K3
instance:Inhabited To:=⟨(0,default)⟩
end
end Go.Proofs
namespace Go.Proofs.YtlnndmgfngfeiaaGreatDoor
section
open Go Go.Pv Go.Sort Go.RowKit
end
section
open Go Go.Pv
theorem adW(s:List al)(aq:s.length<=bN):b6 aQ 82 [.str s] (lU (iB s)):=by
 by_cases I:s.length<=100000;rotate_left
 ·have:iB s=none:=by unfold iB;rw[bq (fun h=>I h.1)]
  rw[this,lU];have yX:(100000:Int)<s.length:=Ω
  refine bQ sk M4 QD fun aN=>?_;unfold F9;simp[yX];simp[cg,zI,a1,be,aV]
 have yX:¬(100000:Int)<s.length:=Ω
 generalize bu:lU (iB s)=R;have pG:kin (fun _=>cZ) R:=by rw[<-bu];unfold lU;split<;>simp[kin,kinL]
 refine bQ sk M4 QD (fun aN=>?_) (hr:=pG);unfold F9;clear aN;simp[yX];refine h1 (fun i:Nat=>⟨[(0,.str s),(4,.int .i64 i)],[],[],0,[]⟩) (fun i=>s.length-i) (fun i=>i<=s.length/\∀c∈s.take i,r4 c=true) 0 dw ⟨Ω,Ψ⟩ ?_;rintro i ⟨az,dS⟩ _;rcases iX az with rfl|bS
 ·rw[j4]at dS;have k9:∀c∈s,r4 c=true:=dS;simp;refine h1 (fun x:List (List al)×Nat=>⟨[(0,.str s),(5,.slice 1 (.own (.loc 0)) (bZ x.1)),(6,.int .i64 x.2)],[],[(.loc 0,⟨x.1.length,9,1,none⟩)],1,[]⟩) (fun x=>s.length-x.2) (fun x=>x.2<=s.length/\x.1++gV (s.drop x.2)=gV s/\x.1.length<=x.2) ([],0) (by simp[bZ];exact dw) ⟨Ψ,Ψ,Ψ⟩ ?_;rintro⟨out,i⟩ ⟨az,hinv,s0⟩ _;simp only at az hinv s0;rcases iX az with rfl|bS
  ·rw[jN,FF,List.append_nil]at hinv;subst hinv;by_cases aK:(gV s).length<=20000
   ·have gK:¬(20000:Int)<(gV s).length:=Ω
    have aD:iB s=some (gV s):=by unfold iB;rw[if_pos ⟨I,k9,aK⟩]
    simp[gK];rw[<-bu,aD,lU];simp[cg,zI,a1,be,aV]
   ·have gK:(20000:Int)<(gV s).length:=Ω
    have aD:iB s=none:=by unfold iB;rw[bq fun h=>aK h.2.2]
    simp[gK];rw[<-bu,aD,lU];simp[cg,zI,a1,be,aV]
  ·obtain⟨c,aE,fq⟩:=hj bS;have b1:aY ((i:Int)+1):=by unfold aY;omega
   have xB:out.length+1<=bN:=by unfold bN;omega
   rw[fi aE,FE]at hinv;by_cases lg:c=32\/c=10
   ·rw[if_pos lg]at hinv;rcases lg with rfl|rfl;all_goals
     simp[bS,fq,aE,b1]
     refine b9.whl (out,i+1) (by simp;omega) ⟨bS,hinv,by simp;omega⟩ dw
   rw[bq lg]at hinv;have n32:((c.toNat:Int)==32)=false:=pa (d:=32) fun h=>lg (.inl h);have n10:((c.toNat:Int)==10)=false:=pa (d:=10) fun h=>lg (.inr h);by_cases rA:c=59
   ·rw[if_pos rA]at hinv;subst rA;simp[bS,fq,aE,b1];refine h1 (fun k:Nat=>⟨[(0,.str s),(5,.slice 1 (.own (.loc 0)) (bZ out)),(6,.int .i64 k)],[],[(.loc 0,⟨out.length,9,1,none⟩)],1,[]⟩) (fun k=>s.length-k) (fun k=>i<=k/\k<=s.length/\∀c∈(s.drop i).take (k-i),o4 c=true) i dw ⟨cq _,az,Ψ⟩ ?_;rintro k ⟨iq,gh,hC⟩ _;have iK:(∀c,s[k]? =some c->o4 c=false)->i<k->k<=s.length/\out++gV (s.drop k)=gV s/\out.length<=k:=by intro he kO;refine⟨gh,?_,Ω⟩;have aF:=(Fv iq gh hC he).2;rw[fi aE]at aF;rw[<-hinv,<-aF];rfl
    have kO:(∀c,s[k]? =some c->o4 c=false)->i<k:=by
     intro he;rcases ly i k with h|h
     ·exact h
     ·have:k=i:=Ω
      subst this;exact absurd (he 59 aE) (by decide)
    rcases iX gh with rfl|ir
    ·have he:∀c,s[s.length]? =some c->o4 c=false:=fun c h=>by simp at h
     simp;refine b9.whl (out,s.length) (by simp;omega) (iK he (kO he)) dw
    ·obtain⟨d,aF,hdi⟩:=hj ir;have kQ:aY ((k:Int)+1):=by unfold aY;omega
     by_cases fC:d=10
     ·subst fC;have he:∀c,s[k]? =some c->o4 c=false:=fun c h=>by rw[aF]at h;cases h;rfl
      simp[ir,hdi,aF];refine b9.whl (out,k) (by have:=kO he;simp;omega) (iK he (kO he)) dw
     ·have aK:((d.toNat:Int) !=10)=true:=wL (d:=10) fC;simp[ir,hdi,aF,aK,kQ];refine b9.whl (k+1) Ω ⟨Ω,ir,fun x af=>?_⟩ dw;rw[show k+1-i=(k-i)+1 by omega,k3,k2,show i+(k-i)=k by omega,aF]at af;rcases hv.1 af with af|af
      ·exact hC x af
      ·simp at af;subst af;simp[o4,fC]
   rw[bq rA]at hinv;have I7:((c.toNat:Int)==59)=false:=pa (d:=59) rA;by_cases rO:c=40\/c=41
   ·rw[if_pos rO]at hinv;have s5:(s.take (i+1)).drop i=[c]:=by rw[List.drop_take,fi aE];simp
    have hle:(i:Int)<=i+1:=Ω
    rcases rO with rfl|rfl;all_goals
     simp[bS,fq,aE,b1,s5,hle,xB]
     refine⟨Ω,?_⟩
     refine b9.whl (out++[[_]],i+1) (by simp;omega) ⟨bS,(by simpa using hinv),by simp;omega⟩ (by simp[bZ];exact⟨by simp[fresh,kinL,kin,bt,au,Pv.look,cX,eJ],cR (by simp[fresh,kinL,kin,bt,au,Pv.look,cX,eJ]),cS (by simp[fresh,kinL,kin,cB,au,Pv.look,cX,eJ]),Ψ⟩)
   rw[bq rO]at hinv;have r2:((c.toNat:Int)==40)=false:=pa (d:=40) fun h=>rO (.inl h);have qG:((c.toNat:Int)==41)=false:=pa (d:=41) fun h=>rO (.inr h);have Bb:h3 c=true:=(ze c).2 ⟨lg,rA,rO⟩;simp[bS,fq,aE,n32,n10,I7,r2,qG];refine h1 (fun k:Nat=>⟨[(0,.str s),(5,.slice 1 (.own (.loc 0)) (bZ out)),(6,.int .i64 i),(8,.int .i64 k)],[],[(.loc 0,⟨out.length,9,1,none⟩)],1,[]⟩) (fun k=>s.length-k) (fun k=>i<=k/\k<=s.length/\∀c∈(s.drop i).take (k-i),h3 c=true) i dw ⟨cq _,az,Ψ⟩ ?_;rintro k ⟨iq,gh,hC⟩ _;have kO:(∀c,s[k]? =some c->h3 c=false)->i<k:=by
    intro he;rcases ly i k with h|h
    ·exact h
    ·have:k=i:=Ω
     subst this;have:=he _ aE;rw[Bb]at this;cases this
   have iK:(∀c,s[k]? =some c->h3 c=false)->k<=s.length/\(out++[(s.take k).drop i])++gV (s.drop k)=gV s/\(out++[(s.take k).drop i]).length<=k:=by intro he;have agR:=kO he;refine⟨gh,?_,by simp;omega⟩;obtain⟨aD,aF⟩:=Fv iq gh hC he;rw[fi aE,List.takeWhile_cons,if_pos Bb]at aD;rw[fi aE,List.dropWhile_cons,if_pos Bb]at aF;rw[aD,aF,<-fi aE]at hinv;rw[List.drop_take,kE];exact hinv
   have OL:out.length+1<=bN:=xB;have fe:(i:Int)<=k:=Ω
   have Bl:(k:Int)<=s.length:=Ω
   rcases iX gh with rfl|ir
   ·have he:∀c,s[s.length]? =some c->h3 c=false:=fun c h=>by simp at h
    have Ec:=kO he;simp[fe,Bl,OL];refine b9.whl (out++[(s.take s.length).drop i],s.length) (by simp;omega) (iK he) (by simp[bZ];exact⟨by simp[fresh,kinL,kin,bt,au,Pv.look,cX,eJ],cR (by simp[fresh,kinL,kin,bt,au,Pv.look,cX,eJ]),cS (by simp[fresh,kinL,kin,cB,au,Pv.look,cX,eJ]),Ψ⟩)
   ·obtain⟨d,aF,hdi⟩:=hj ir;have kQ:aY ((k:Int)+1):=by unfold aY;omega
    by_cases hw:h3 d=true
    ·obtain⟨S1,aeD,S2⟩:=(ze d).1 hw;have m32:((d.toNat:Int) !=32)=true:=wL (d:=32) fun h=>S1 (.inl h);have m10:((d.toNat:Int) !=10)=true:=wL (d:=10) fun h=>S1 (.inr h);have aau:((d.toNat:Int) !=59)=true:=wL (d:=59) aeD;have aat:((d.toNat:Int) !=40)=true:=wL (d:=40) fun h=>S2 (.inl h);have mV:((d.toNat:Int) !=41)=true:=wL (d:=41) fun h=>S2 (.inr h);simp[ir,hdi,aF,m32,m10,aau,aat,mV,kQ];refine b9.whl (k+1) Ω ⟨Ω,ir,fun x af=>?_⟩ dw;rw[show k+1-i=(k-i)+1 by omega,k3,k2,show i+(k-i)=k by omega,aF]at af;rcases hv.1 af with af|af
     ·exact hC x af
     ·simp at af;subst af;exact hw
    ·rw[Bool.not_eq_true]at hw;have he:∀c,s[k]? =some c->h3 c=false:=fun c h=>by rw[aF]at h;cases h;exact hw
     have fL:d=32\/d=10\/d=40\/d=41\/d=59:=by
      unfold h3 nY at hw;simp at hw;by_cases bB:d=32
      ·exact .inl bB
      by_cases a2:d=10
      ·exact .inr (.inl a2)
      by_cases a3:d=40
      ·exact .inr (.inr (.inl a3))
      by_cases a4:d=41
      ·exact .inr (.inr (.inr (.inl a4)))
      exact .inr (.inr (.inr (.inr (hw bB a2 a3 a4))))
     have cm:=iK he;have Ec:=kO he;rcases fL with rfl|rfl|rfl|rfl|rfl;all_goals
      simp[ir,hdi,aF,fe,Bl,OL]
      refine b9.whl (out++[(s.take k).drop i],k) (by simp;omega) cm (by simp[bZ];exact⟨by simp[fresh,kinL,kin,bt,au,Pv.look,cX,eJ],cR (by simp[fresh,kinL,kin,bt,au,Pv.look,cX,eJ]),cS (by simp[fresh,kinL,kin,cB,au,Pv.look,cX,eJ]),Ψ⟩)
 ·obtain⟨c,aE,fq⟩:=hj bS;have b1:aY ((i:Int)+1):=by unfold aY;omega
  have j9:=Qv c;by_cases fC:(c.toNat:Int)=10
  ·have nt:((c.toNat:Int) !=10)=false:=by simpa using fC
   simp[bS,fq,aE,nt,b1];refine b9.whl (i+1) Ω ⟨bS,fun x af=>?_⟩ dw;rw[k3,aE]at af;rcases hv.1 af with af|af
   ·exact dS x af
   ·simp at af;subst af;rw[j9];omega
  ·have nt:((c.toNat:Int) !=10)=true:=by simpa using fC
   by_cases A3:(c.toNat:Int)<32
   ·have A8:r4 c=false:=by rw[Bool.eq_false_iff];intro h;rw[j9]at h;omega
    simp[bS,fq,aE,nt,A3,b1];have aD:iB s=none:=by unfold iB;rw[bq];intro h;have:=h.2.1 c (fJ aE);rw[A8]at this;cases this
    rw[<-bu,aD,lU];simp[cg,zI,a1,be,aV]
   ·by_cases N4:126<(c.toNat:Int)
    ·have A8:r4 c=false:=by rw[Bool.eq_false_iff];intro h;rw[j9]at h;omega
     simp[bS,fq,aE,nt,A3,N4,b1];have aD:iB s=none:=by unfold iB;rw[bq];intro h;have:=h.2.1 c (fJ aE);rw[A8]at this;cases this
     rw[<-bu,aD,lU];simp[cg,zI,a1,be,aV]
    ·simp[bS,fq,aE,nt,A3,N4,b1];refine b9.whl (i+1) Ω ⟨bS,fun x af=>?_⟩ dw;rw[k3,aE]at af;rcases hv.1 af with af|af
     ·exact dS x af
     ·simp at af;subst af;rw[j9];omega
theorem CD:∀(n:Nat) (s:List al),s.length<=n->∀t∈gV s,t.length<=s.length
 |_,[],_=>by rw[FF];simp
 |0,_::_,h=>by simp at h
 |n+1,c::r,h=>by
  simp only[lx]at h;have aF:(r.dropWhile o4).length<=r.length:=(List.dropWhile_suffix _).length_le;have hw:(r.dropWhile h3).length<=r.length:=(List.dropWhile_suffix _).length_le;have aD:(r.takeWhile h3).length<=r.length:=(List.takeWhile_prefix _).length_le;rw[FE];split
  ·intro t aD;have:=CD n r Ω t aD;simp;omega
  ·split
   ·intro t aD;have:=CD n _ Ω t aD;simp;omega
   ·split
    ·intro t aD;simp only[gp]at aD;rcases aD with rfl|aD
     ·simp
     ·have:=CD n r Ω t aD;simp;omega
    ·intro t aD;simp only[gp]at aD;rcases aD with rfl|aD
     ·simp;omega
     ·have:=CD n _ Ω t aD;simp;omega
theorem adG{s:List al}{l:List (List al)}(h:iB s=some l):l.length<=20000/\∀w∈l,w≠[]/\w.length<=bN:=by
 unfold iB at h;split at h
 ·rename_i aE;cases h;refine⟨aE.2.2,fun w hw=>⟨z7 _ s (cq _) w hw,?_⟩⟩;have:=CD _ s (cq _) w hw;unfold bN;omega
 ·cases h
def F7:C:=(ag [dY (.alloc 2 none (.agg [.slice 7 .nil []])),bD 3 false] (ag [ab 11 0,cK 12 82 11,ab 10 12,dN 13 0 10,dN 14 1 10,ab 4 13,ab 5 14] (.seq (ag [ab 15 5,dB 16 15] (bh 16 (ag [bk 17 (.build [.slice 7 .nil []] []),bE 1 2 17,bD 3 false] .ret) .skip)) (ag [ab 18 4,bk 19 (.build [.slice 1 .nil [],.int .i64 0] [(0,1,(.t 18))]),dY (.box 20 (some 871) (.t 19)),ab 6 20] (ag [bk 21 (.build [.slice 7 .nil []] []),dY (.alloc 7 none (.agg [.slice 7 .nil []])),bE 1 7 21] (.seq (.block 0 (.loop (.seq (ag [ab 22 6,cK 23 83 22,dB 24 23] (bh 24 .skip (.exit 0))) (.block 1 (ag [ab 26 6,cK 27 110 26,ab 25 27,dN 28 0 25,dN 29 1 25,dY (.alloc 8 none (.agg [.str [],.int .i64 0,.int .i64 0,.int .i64 0,.str [],.slice 4 .nil [],.slice 4 .nil []])),bE 7 8 28,ab 9 29] (.seq (ag [ab 30 9,dB 31 30] (bh 31 (ag [bk 32 (.build [.slice 7 .nil []] []),bE 1 2 32,bD 3 false] .ret) .skip)) (.region [bm 33 0 1 7,bf 34 1 33,ck 35 7 8,hE 36 7 86 [.t 35],lW 37 7 86 34 36,bm 38 0 1 7,bE 1 38 37]))))))) (.seq (ag [ck 39 1 7,cK 40 50 39,dB 41 40] (bh 41 (ag [bk 42 (.build [.slice 7 .nil []] []),bE 1 2 42,bD 3 false] .ret) .skip)) (ag [ck 43 1 7,bE 1 2 43,bD 3 true] .ret))))))))
@[simp] def wu:List cr:=[.cell 2 true 1,.tmp 3]
def Gd:C:=(ag [ab 228 16,ab 229 16,bk 230 (.mkf 1000084 [.t 229]),eZ 231 114 228 230,ab 227 231,dN 232 0 227,dN 233 1 227,dY (.alloc 19 none (.agg [.int .i64 0,.str [],.slice 4 .nil [],.slice 4 .nil []])),bE 4 19 232,ab 20 233] (.seq (ag [ab 234 20,dB 235 234,ab 236 235,bP 236 false 237 16,⟨(some (236,false)),.call (some 238) (.c (.func 177 [])) [.t 237,(.c (.str [41]))]⟩,aI 236 false (dB 239 238),dk 240 236 239] (bh 240 (ag [bk 241 (.build [.str [],.int .i64 0,.int .i64 0,.int .i64 0,.str [],.slice 4 .nil [],.slice 4 .nil []] []),bE 7 2 241,bD 3 false] .ret) .skip)) (ag [ab 242 9,bk 243 (.mlen (.t 242)),bm 244 1 1 4,bf 245 1 244,cz 246 .sub 243 245,bm 247 2 1 4,bE 1 247 246] (ag [ck 248 4 19,nb 249 3 4 4,bE 4 249 248] (ag [ab 250 0,ab 251 16,hf 252 251,bm 253 1 1 252,bf 254 1 253,hf 255 250,bm 256 1 1 255,bE 1 256 254] (ag [ck 257 7 4,bE 7 2 257,bD 3 true] .ret))))))
def Gc:C:=(.seq (.pub 10 (.fg false 10 (.region [ab 196 10,ab 197 5,bk 198 (.build [.slice 1 .nil [],.int .i64 0] [(0,1,(.t 196)),(1,1,(.t 197))]),dY (.box 199 (some 872) (.t 198)),ab 16 199]))) (.seq (.block 6 (.loop (.seq (ag [ab 200 16,⟨none,.call (some 201) (.c (.func 177 [])) [.t 200,(.c (.str [41]))]⟩,dB 202 201] (bh 202 .skip (.exit 6))) (.block 7 (ag [ab 204 16,cK 205 84 204,ab 203 205,dN 206 0 203,dN 207 1 203,ht 17 cU,bE 4 17 206,ab 18 207] (.seq (ag [ab 208 18,dB 209 208,ab 210 209,aI 210 false (bm 211 0 1 17),aI 210 false (bf 212 1 211),aI 210 false (bc 213 .neq 212 1),dk 214 210 213,ab 215 214,aI 215 false (bm 216 1 1 17),aI 215 false (bf 217 1 216),aI 215 false (bm 218 1 1 4),aI 215 false (bf 219 1 218),aI 215 false (cz 220 .neq 217 219),dk 221 215 220] (bh 221 (ag [bk 222 (.build [.str [],.int .i64 0,.int .i64 0,.int .i64 0,.str [],.slice 4 .nil [],.slice 4 .nil []] []),bE 7 2 222,bD 3 false] .ret) .skip)) (.region [bm 223 1 1 4,bf 224 1 223,bc 225 .add 224 1,bm 226 1 1 4,bE 1 226 225]))))))) Gd))
def C2:C:=(.seq (ag [ab 130 5,ab 11 130] (.block 4 (.loop (.seq (ag [ab 131 11,ab 132 8,cz 133 .lss 131 132] (bh 133 .skip (.exit 4))) (.seq (.block 5 (.seq (ag [ab 136 10,ab 137 11,cQ 138 1 136 137,bf 139 1 138,bk 140 (.sidx (.t 139) (da 0)),bk 141 (.bin .neq false (.t 140) (.c (.int .u8 63)))] (bh 141 (.exit 5) .skip)) (ag [ab 143 10,ab 144 11,cQ 145 1 143 144,bf 146 1 145,bk 147 (.ssl (.t 146) (some (da 1)) none),cK 148 179 147,ab 142 148,dN 149 0 142,dN 150 1 142,ab 12 149,ab 13 150] (.seq (ag [ab 151 10,ab 152 11,cQ 153 1 151 152,bf 154 1 153,bk 155 (.ssl (.t 154) (some (da 1)) none),cK 156 170 155,dB 157 156,ab 158 157,bP 158 true 159 13,aI 158 true (dB 160 159),bP 158 true 161 160,bP 161 false 162 12,aI 161 false (bc 163 .lss 162 0),aI 158 true (dk 164 161 163),bP 158 true 165 164,bP 165 false 166 12,aI 165 false (bc 167 .gtr 166 100000),aI 158 true (dk 168 165 167),e7 169 158 168] (bh 169 (ag [bk 170 (.build [.str [],.int .i64 0,.int .i64 0,.int .i64 0,.str [],.slice 4 .nil [],.slice 4 .nil []] []),bE 7 2 170,bD 3 false] .ret) .skip)) (ag [ab 172 9,ab 173 10,ab 174 11,cQ 175 1 173 174,bf 176 1 175,bk 177 (.mget .s (.int .i64 0) true (.t 172) (.t 176)),ab 171 177,dN 178 0 171,dN 179 1 171,ab 14 178,ab 15 179] (.seq (ag [ab 180 15,dB 181 180] (bh 181 (ag [ab 182 9,bk 183 (.mlen (.t 182)),ab 14 183] (.region [ab 184 9,ab 185 10,ab 186 11,cQ 187 1 185 186,bf 188 1 187,ab 189 14,dY (.mput .s (.t 184) (.t 188) (.t 189))])) .skip)) (.region [ab 190 10,ab 191 11,ab 192 14,cK 193 63 192,bk 194 (.bin .add false (.c (.str [63])) (.t 193)),cQ 195 1 190 191,dY (.storeE 1 (.t 195) (.t 194))]))))))) (.region [ab 134 11,bc 135 .add 134 1,ab 11 135])))))) Gc)
def C1:C:=(ag [ab 87 7,ab 8 87] (ag [cd 6 0] (.seq (.block 2 (.loop (.seq (ag [ab 88 8,ab 89 0,hf 90 89,bm 91 0 1 90,bf 92 1 91,c7 93 92,cz 94 .lss 88 93,ab 95 94,bP 95 true 96 6,aI 95 true (bc 97 .geq 96 0),e7 98 95 97] (bh 98 .skip (.exit 2))) (.block 3 (.seq (ag [ab 99 0,hf 100 99,bm 101 0 1 100,bf 102 1 101,ab 103 8,cQ 104 1 102 103,bf 105 1 104,bk 106 (.bin .eql false (.t 105) (.c (.str [40])))] (bh 106 (.region [ab 107 6,bc 108 .add 107 1,ab 6 108]) .skip)) (.seq (ag [ab 109 0,hf 110 109,bm 111 0 1 110,bf 112 1 111,ab 113 8,cQ 114 1 112 113,bf 115 1 114,bk 116 (.bin .eql false (.t 115) (.c (.str [41])))] (bh 116 (.region [ab 117 6,bc 118 .sub 117 1,ab 6 118]) .skip)) (.region [ab 119 8,bc 120 .add 119 1,ab 8 120]))))))) (ag [dY (.mkmap 121 none),ab 9 121] (ag [dY (.bslm 122 (some 873) 1 9 []),ab 123 0,hf 124 123,bm 125 0 1 124,bf 126 1 125,ab 127 8,bk 128 (.lsl 1 (.t 126) none (some (.t 127))),dY (.appm 129 none 1 9 (.t 122) (.t 128)),ab 10 129] C2)))))
def Gb:C:=(ag [ab 53 5,ab 7 53] (.seq (.block 0 (.loop (.seq (ag [ab 54 7,ab 55 0,hf 56 55,bm 57 0 1 56,bf 58 1 57,c7 59 58,cz 60 .lss 54 59,ab 61 60,bP 61 true 62 6,aI 61 true (bc 63 .geq 62 0),e7 64 61 63] (bh 64 .skip (.exit 0))) (.block 1 (.seq (ag [ab 65 0,hf 66 65,bm 67 0 1 66,bf 68 1 67,ab 69 7,cQ 70 1 68 69,bf 71 1 70,bk 72 (.bin .eql false (.t 71) (.c (.str [40])))] (bh 72 (.region [ab 73 6,bc 74 .add 73 1,ab 6 74]) .skip)) (.seq (ag [ab 75 0,hf 76 75,bm 77 0 1 76,bf 78 1 77,ab 79 7,cQ 80 1 78 79,bf 81 1 80,bk 82 (.bin .eql false (.t 81) (.c (.str [41])))] (bh 82 (.region [ab 83 6,bc 84 .sub 83 1,ab 6 84]) .skip)) (.region [ab 85 7,bc 86 .add 85 1,ab 7 86]))))))) C1))
def yw:C:=(ag [dY (.alloc 2 none (.agg [.str [],.int .i64 0,.int .i64 0,.int .i64 0,.str [],.slice 4 .nil [],.slice 4 .nil []])),bD 3 false] (.seq (ag [ab 21 0,⟨none,.call (some 22) (.c (.func 177 [])) [.t 21,(.c (.str [40]))]⟩,dB 23 22,ab 24 23,bP 24 false 25 0,⟨(some (24,false)),.call (some 26) (.c (.func 177 [])) [.t 25,(.c (.str [100,101,102,105,110,101]))]⟩,aI 24 false (dB 27 26),dk 28 24 27,ab 29 28,bP 29 false 30 0,⟨(some (29,false)),.call (some 31) (.c (.func 177 [])) [.t 30,(.c (.str [40]))]⟩,aI 29 false (dB 32 31),dk 33 29 32,ab 34 33,bP 34 false 35 0,aI 34 false (cK 36 83 35),dk 37 34 36] (bh 37 (ag [bk 38 (.build [.str [],.int .i64 0,.int .i64 0,.int .i64 0,.str [],.slice 4 .nil [],.slice 4 .nil []] []),bE 7 2 38,bD 3 false] .ret) .skip)) (ag [ab 39 0,cK 40 178 39,bk 41 (.build [.str [],.int .i64 0,.int .i64 0,.int .i64 0,.str [],.slice 4 .nil [],.slice 4 .nil []] [(0,1,(.t 40))]),dY (.alloc 4 none (.agg [.str [],.int .i64 0,.int .i64 0,.int .i64 0,.str [],.slice 4 .nil [],.slice 4 .nil []])),bE 7 4 41] (ag [ab 42 0,hf 43 42,bm 44 1 1 43,bf 45 1 44,bc 46 .add 45 1,hf 47 42,bm 48 1 1 47,bE 1 48 46] (ag [ab 49 0,hf 50 49,bm 51 1 1 50,bf 52 1 51,ab 5 52] (ag [cd 6 0] Gb))))))
@[simp] def ace:List cr:=[.cell 2 true 7,.tmp 3]
def Ks:List (Nat×cJ):=[
 (3,⟨1,8,.int .i64,.int .i64 0⟩),
 (9,⟨1,16,.str,.str []⟩),
 (40,⟨4,56,.struct [(0,3),(1,3),(2,9),(3,38)],.agg [.int .i64 0,.int .i64 0,.str [],.slice 4 .nil []]⟩),
 (59,⟨1,24,.slice 86,.slice 7 .nil []⟩),
 (61,⟨1,24,.struct [(0,59)],.agg [.slice 7 .nil []]⟩),
 (65,⟨4,72,.struct [(0,3),(1,9),(2,38),(3,63)],.agg [.int .i64 0,.str [],.slice 4 .nil [],.slice 4 .nil []]⟩),
 (70,⟨1,24,.slice 9,.slice 1 .nil []⟩),
 (86,⟨7,104,.struct [(0,9),(1,3),(2,3),(3,65)],.agg [.str [],.int .i64 0,.int .i64 0,.int .i64 0,.str [],.slice 4 .nil [],.slice 4 .nil []]⟩),
 (131,⟨2,32,.struct [(0,70),(1,3)],.agg [.slice 1 .nil [],.int .i64 0]⟩),
 (213,⟨1,8,.map 9 3,.junk⟩)]
theorem yd:ez aQ Ks=true:=by kernel_rfl
theorem QB:c8 Ks F7 wu 1 Tryz.f38=true:=by kernel_rfl
theorem M2:aQ.funcs[(38:Nat)]? =some Tryz.f38:=Tryz.func38
theorem B1:c8 Ks yw ace 1 Tryz.f110=true:=by kernel_rfl
theorem AT:aQ.funcs[(110:Nat)]? =some Tryz.f110:=Tryz.func110
def _root_.Go.Pv.Ix.e(x:Ix):ae:= .agg [.int .i64 x.op,.int .i64 x.a,.int .i64 x.b,.int .i64 x.g.kind,.str x.g.name,.slice 4 .no (x.g.ts.map enc),.slice 4 .no (x.g.gs.map Gm.e)]
@[simp]theorem aiA(x:Ix):eD x.e=true:=rfl
@[simp]theorem afT(x:Ix):cells x.e=[.int .i64 x.op,.int .i64 x.a,.int .i64 x.b,.int .i64 x.g.kind,.str x.g.name,.slice 4 .no (x.g.ts.map enc),.slice 4 .no (x.g.gs.map Gm.e)]:=rfl
@[simp]theorem afb(x:Ix):ae.agg [.int .i64 x.op,.int .i64 x.a,.int .i64 x.b,.int .i64 x.g.kind,.str x.g.name,.slice 4 .no (x.g.ts.map enc),.slice 4 .no (x.g.gs.map Gm.e)]=x.e:=rfl
@[simp]theorem agv(off:Nat)(eR:Bool)(sz:Nat)(x:Ix):rn off eR sz x.e=if eR then some (off+sz<=7,.agg (([.int .i64 x.op,.int .i64 x.a,.int .i64 x.b,.int .i64 x.g.kind,.str x.g.name,.slice 4 .no (x.g.ts.map enc),.slice 4 .no (x.g.gs.map Gm.e)].drop off).take sz))else(([.int .i64 x.op,.int .i64 x.a,.int .i64 x.b,.int .i64 x.g.kind,.str x.g.name,.slice 4 .no (x.g.ts.map enc),.slice 4 .no (x.g.gs.map Gm.e)]:List ae)[off]?).map fun p=>(True,p):=rfl
@[simp]theorem agl(off:Nat)(eR:Bool)(sz:Nat)(x:Ix):n7 off eR sz (.eptr x.e)=if eR then some (off+sz<=7,.eptr (.agg (([.int .i64 x.op,.int .i64 x.a,.int .i64 x.b,.int .i64 x.g.kind,.str x.g.name,.slice 4 .no (x.g.ts.map enc),.slice 4 .no (x.g.gs.map Gm.e)].drop off).take sz)))else(([.int .i64 x.op,.int .i64 x.a,.int .i64 x.b,.int .i64 x.g.kind,.str x.g.name,.slice 4 .no (x.g.ts.map enc),.slice 4 .no (x.g.gs.map Gm.e)]:List ae)[off]?).map fun p=>(eD p=true/\cells p=[p],.eptr p):=rfl
def _root_.Go.Pv.Ey.e(x:Ey):ae:= .agg [.str x.name,.int .i64 x.pos,.int .i64 x.ar,.int .i64 x.vars]
@[simp]theorem ait(x:Ey):eD x.e=true:=rfl
@[simp]theorem afM(x:Ey):cells x.e=[.str x.name,.int .i64 x.pos,.int .i64 x.ar,.int .i64 x.vars]:=rfl
@[simp]theorem ae9(x:Ey):ae.agg [.str x.name,.int .i64 x.pos,.int .i64 x.ar,.int .i64 x.vars]=x.e:=rfl
@[simp]theorem agu(off:Nat)(eR:Bool)(sz:Nat)(x:Ey):rn off eR sz x.e=if eR then some (off+sz<=4,.agg (([.str x.name,.int .i64 x.pos,.int .i64 x.ar,.int .i64 x.vars].drop off).take sz))else(([.str x.name,.int .i64 x.pos,.int .i64 x.ar,.int .i64 x.vars]:List ae)[off]?).map fun p=>(True,p):=rfl
@[simp]theorem agj(off:Nat)(eR:Bool)(sz:Nat)(x:Ey):n7 off eR sz (.eptr x.e)=if eR then some (off+sz<=4,.eptr (.agg (([.str x.name,.int .i64 x.pos,.int .i64 x.ar,.int .i64 x.vars].drop off).take sz)))else(([.str x.name,.int .i64 x.pos,.int .i64 x.ar,.int .i64 x.vars]:List ae)[off]?).map fun p=>(eD p=true/\cells p=[p],.eptr p):=rfl
def _root_.Go.Pv.Cd.e(c:Cd):ae:= .agg [.slice 7 .no (c.is.map Ix.e),.slice 4 .no (c.es.map Ey.e)]
@[simp]theorem ain(c:Cd):eD c.e=true:=rfl
@[simp]theorem afJ(c:Cd):cells c.e=[.slice 7 .no (c.is.map Ix.e),.slice 4 .no (c.es.map Ey.e)]:=rfl
@[simp]theorem ae6(c:Cd):ae.agg [.slice 7 .no (c.is.map Ix.e),.slice 4 .no (c.es.map Ey.e)]=c.e:=rfl
@[simp]theorem agt(off:Nat)(eR:Bool)(sz:Nat)(c:Cd):rn off eR sz c.e=if eR then some (off+sz<=2,.agg (([.slice 7 .no (c.is.map Ix.e),.slice 4 .no (c.es.map Ey.e)].drop off).take sz))else(([.slice 7 .no (c.is.map Ix.e),.slice 4 .no (c.es.map Ey.e)]:List ae)[off]?).map fun p=>(True,p):=rfl
@[simp]theorem agh(off:Nat)(eR:Bool)(sz:Nat)(c:Cd):n7 off eR sz (.eptr c.e)=if eR then some (off+sz<=2,.eptr (.agg (([.slice 7 .no (c.is.map Ix.e),.slice 4 .no (c.es.map Ey.e)].drop off).take sz)))else(([.slice 7 .no (c.is.map Ix.e),.slice 4 .no (c.es.map Ey.e)]:List ae)[off]?).map fun p=>(eD p=true/\cells p=[p],.eptr p):=rfl
theorem aeA{g:Gm}(aq:g.shape=true)(vars:Int):qW g vars=true↔hV g.vs []=[]\/ ∃u m,hV g.vs []=u++[m]/\m<vars:=by
 rw[SZ];have bF:=Pa g.vs (l:=[]) .nil;have hm:∀v,v∈hV g.vs []↔v∈g.vs:=fun v=>by simp[Pb]
 constructor
 ·intro h;rcases List.eq_nil_or_concat (hV g.vs [])with e|⟨u,m,e⟩
  ·exact .inl e
  ·right;rw[List.concat_eq_append]at e;exact⟨u,m,e,h m ((hm m).1 (by rw[e];simp))⟩
 ·rintro(e|⟨u,m,e,bS⟩) v aM
  ·rw[<-hm,e]at aM;cases aM
  ·rw[<-hm,e]at aM;rw[e]at bF;rcases hv.1 aM with h|h
   ·have:=(List.pairwise_append.1 bF).2.2 v h m Ψ;omega
   ·simp at h;omega
theorem Pd{u:List Int}{m:Int}:∀h,(en (u++[m]))[u.length]'h= .int .i64 m:=fun h=>by simp[en]
def Gp:C:=(ag [dY (.alloc 2 none (.agg [.slice 7 .nil []])),bD 3 false] (ag [ab 14 0,cK 15 107 14,ab 13 15,dN 16 0 13,dN 17 1 13,ab 4 16,ab 5 17] (.seq (ag [ab 18 5,dB 19 18] (bh 19 (ag [bk 20 (.build [.slice 7 .nil []] []),bE 1 2 20,bD 3 false] .ret) .skip)) (ag [bk 21 (.build [.slice 7 .nil []] []),dY (.alloc 6 none (.agg [.slice 7 .nil []])),bE 1 6 21] (ag [cd 7 0] (ag [cd 8 0] (.seq (ag [ab 22 4,c7 23 22,cd 24 0] (lX 25 24 23 (.seq (.block 1 (ag [ab 26 24,cQ 27 1 22 24,bf 28 1 27,ab 9 26,ab 10 28] (.seq (ag [ab 29 10,bk 30 (.bin .eql false (.t 29) (.c (.str [40])))] (bh 30 (.region [ab 31 8,bc 32 .add 31 1,ab 8 32]) .skip)) (.seq (ag [ab 33 10,bk 34 (.bin .eql false (.t 33) (.c (.str [41])))] (bh 34 (.region [ab 35 8,bc 36 .sub 35 1,ab 8 36]) .skip)) (.seq (ag [ab 37 8,bc 38 .gtr 37 0] (bh 38 (.exit 1) .skip)) (ag [ab 40 4,ab 41 7,ab 42 9,bc 43 .add 42 1,bk 44 (.lsl 1 (.t 40) (some (.t 41)) (some (.t 43))),cK 45 108 44,ab 39 45,dN 46 0 39,dN 47 1 39,dY (.alloc 11 none (.agg [.str [],.int .i64 0,.int .i64 0,.int .i64 0,.str [],.slice 4 .nil [],.slice 4 .nil []])),bE 7 11 46,ab 12 47] (.seq (ag [ab 48 12,dB 49 48] (bh 49 (ag [bk 50 (.build [.slice 7 .nil []] []),bE 1 2 50,bD 3 false] .ret) .skip)) (ag [bm 51 0 1 6,bf 52 1 51,ck 53 7 11,hE 54 7 86 [.t 53],lW 55 7 86 52 54,bm 56 0 1 6,bE 1 56 55] (.region [ab 57 9,bc 58 .add 57 1,ab 7 58]))))))))) (.region [bc 59 .add 24 1,ab 24 59])))) (.seq (ag [ab 60 8,bc 61 .neq 60 0,ab 62 61,aI 62 false (ck 63 1 6),aI 62 false (cK 64 109 63),aI 62 false (dB 65 64),dk 66 62 65] (bh 66 (ag [bk 67 (.build [.slice 7 .nil []] []),bE 1 2 67,bD 3 false] .ret) .skip)) (ag [ck 68 1 6,bE 1 2 68,bD 3 true] .ret)))))))))
@[simp] def qL:List cr:=[.cell 2 true 1,.tmp 3]
def yA:C:=(ag [dY (.alloc 2 none (.agg [.str [],.int .i64 0,.int .i64 0,.int .i64 0,.str [],.slice 4 .nil [],.slice 4 .nil []])),bD 3 false] (ag [ab 13 0,cK 14 173 13,ab 12 14,dN 15 0 12,dN 16 1 12,dN 17 2 12,ab 4 15,ab 5 16,ab 6 17] (.seq (ag [ab 18 6,dB 19 18,ab 20 19,bP 20 false 21 4,aI 20 false (c7 22 21),aI 20 false (bc 23 .lss 22 6),dk 24 20 23,ab 25 24,bP 25 false 26 4,aI 25 false (p7 27 1 26 1),aI 25 false (bf 28 1 27),lv 25 false 29 (.bin .neq false (.t 28) (.c (.str [100,101,102,105,110,101]))),dk 30 25 29,ab 31 30,bP 31 false 32 4,aI 31 false (p7 33 1 32 2),aI 31 false (bf 34 1 33),lv 31 false 35 (.bin .neq false (.t 34) (.c (.str [40]))),dk 36 31 35] (bh 36 (ag [bk 37 (.build [.str [],.int .i64 0,.int .i64 0,.int .i64 0,.str [],.slice 4 .nil [],.slice 4 .nil []] []),bE 7 2 37,bD 3 false] .ret) .skip)) (ag [ab 38 4,p7 39 1 38 3,bf 40 1 39,bk 41 (.build [.str [],.int .i64 0,.int .i64 0,.int .i64 0,.str [],.slice 4 .nil [],.slice 4 .nil []] [(0,1,(.t 40))]),dY (.alloc 7 none (.agg [.str [],.int .i64 0,.int .i64 0,.int .i64 0,.str [],.slice 4 .nil [],.slice 4 .nil []])),bE 7 7 41] (ag [cd 8 4] (.seq (.block 0 (.loop (.seq (.seq (.drawn true 99 [ab 42 8,ab 43 4,c7 44 43,cz 45 .lss 42 44,ab 46 45,bP 46 true 47 4,bP 46 true 48 8,aI 46 true (cQ 49 1 47 48),aI 46 true (bf 50 1 49),aI 46 true (bm 51 1 1 7),aI 46 true (bf 52 1 51),aI 46 true (cK 53 57 52),lv 46 true 54 (.bin .add false (.c (.str [63])) (.t 53)),aI 46 true (cz 55 .eql 50 54),e7 56 46 55]) (bh 56 .skip (.exit 0))) (.block 1 (ag [bm 57 1 1 7,bf 58 1 57,bc 59 .add 58 1,bm 60 1 1 7,bE 1 60 59] (.region [ab 61 8,bc 62 .add 61 1,ab 8 62])))))) (.seq (ag [ab 63 8,ab 64 4,c7 65 64,cz 66 .geq 63 65,ab 67 66,bP 67 false 68 4,bP 67 false 69 8,aI 67 false (cQ 70 1 68 69),aI 67 false (bf 71 1 70),lv 67 false 72 (.bin .neq false (.t 71) (.c (.str [41]))),dk 73 67 72] (bh 73 (ag [bk 74 (.build [.str [],.int .i64 0,.int .i64 0,.int .i64 0,.str [],.slice 4 .nil [],.slice 4 .nil []] []),bE 7 2 74,bD 3 false] .ret) .skip)) (ag [ab 76 4,ab 77 8,bc 78 .add 77 1,eZ 79 154 76 78,ab 75 79,dN 80 0 75,dN 81 1 75,dN 82 2 75,dY (.alloc 9 none (.agg [.int .i64 0,.str [],.slice 4 .nil [],.slice 4 .nil []])),bE 4 9 80,ab 10 81,ab 11 82] (ag [ab 83 5,bm 84 1 1 7,bf 85 1 84,cz 86 .sub 83 85,bm 87 2 1 7,bE 1 87 86] (ag [ck 88 4 9,nb 89 3 4 7,bE 4 89 88] (ag [ck 90 7 7,ab 91 11,ab 92 91,bP 92 true 93 10,bP 92 true 94 4,aI 92 true (c7 95 94),aI 92 true (bc 96 .sub 95 1),aI 92 true (cz 97 .eql 93 96),e7 98 92 97,bE 7 2 90,ab 3 98] .ret)))))))))))
@[simp] def tp:List cr:=[.cell 2 true 7,.tmp 3]
def Gq:C:=(ag [gb 1 0,bD 2 false] (.seq (ag [bm 5 0 1 1,bf 6 1 5,c7 7 6,bc 8 .gtr 7 8] (bh 8 (ag [bD 2 false] .ret) .skip)) (.seq (ag [bm 9 0 1 1,bf 10 1 9,c7 11 10,cd 12 0] (lX 13 12 11 (.seq (.block 1 (ag [ab 14 12,cQ 15 7 10 12,ck 16 7 15,dY (.alloc 4 none (.agg [.str [],.int .i64 0,.int .i64 0,.int .i64 0,.str [],.slice 4 .nil [],.slice 4 .nil []])),ab 3 14,bE 7 4 16] (ag (ck 17 1 1::bm 18 0 1 4::bf 19 1 18::eZ 20 174 17 19::ab 21 3::cz 22 .neq 20 21::ab 23 22::aI 23 false (bm 24 0 1 4)::aI 23 false (bf 25 1 24)::aI 23 false (cK 26 128 25)::aI 23 false (dB 27 26)::dk 28 23 27::ab 29 28::aI 29 false (bm 30 1 1 4)::aI 29 false (bf 31 1 30)::aI 29 false (kC 32 127 [.t 31,(da 0),(da 4)])::aI 29 false (dB 33 32)::dk 34 29 33::ab 35 34::aI 35 false (bm 36 2 1 4)::aI 35 false (bf 37 1 36)::aI 35 false (kC 38 127 [.t 37,(da 0),(da 8)])::aI 35 false (dB 39 38)::dk 40 35 39::ab 41 40::aI 41 false (ck 42 1 1)::aI 41 false (nb 43 3 4 4)::aI 41 false (ck 44 4 43)::aI 41 false (bm 45 1 1 4)::aI 41 false (bf 46 1 45)::aI 41 false (bm 47 2 1 4)::aI 41 false (bf 48 1 47)::aI 41 false (cz 49 .add 46 48)::aI 41 false (kC 50 175 [.t 42,.t 44,.t 49])::aI 41 false (dB 51 50)::dk 52 41 51::ab 53 52::aI 53 false (nb 54 3 4 4)::aI 53 false (ck 55 4 54)::aI 53 false (cK 56 176 55)::aI 53 false (bc 57 .gtr 56 60)::dk 58 53 57::[]) (bh 58 (ag [bD 2 false] .ret) .skip)))) (.region [bc 59 .add 12 1,ab 12 59])))) (ag [bD 2 true] .ret))))
@[simp] def acw:List cr:=[.tmp 2]
def Md:C:=(ag [nI 2 1,cd 3 0,bD 4 false] (ag [hE 12 1 9 [],ab 5 12] (ag [hE 13 1 9 [],ab 6 13] (.seq (ag [ab 14 0,c7 15 14,cd 16 0] (lX 17 16 15 (.seq (.block 1 (ag [cQ 18 1 14 16,bf 19 1 18,ab 8 19] (.seq (ag [ab 20 8,bk 21 (.sidx (.t 20) (da 0)),bk 22 (.bin .neq false (.t 21) (.c (.int .u8 63)))] (bh 22 (ag [ab 23 6,ab 24 8,hE 25 1 9 [.t 24],lW 26 1 9 23 25,ab 6 26] (.exit 1)) .skip)) (ag [ab 28 8,bk 29 (.ssl (.t 28) (some (da 1)) none),cK 30 221 29,ab 27 30,dN 31 0 27,dN 32 1 27,ab 9 31,ab 10 32] (.seq (ag [ab 33 8,bk 34 (.ssl (.t 33) (some (da 1)) none),cK 35 188 34,dB 36 35,ab 37 36,bP 37 true 38 10,bP 37 true 39 38,bP 39 true 40 9,aI 39 true (kC 41 127 [.t 40,(da 0),(da 100000)]),aI 37 true (e7 42 39 41),aI 37 true (dB 43 42),e7 44 37 43] (bh 44 (ag [nI 2 1,cd 3 0,bD 4 false] .ret) .skip)) (ag [cd 11 0] (.seq (.block 2 (.loop (.seq (ag [ab 45 11,ab 46 5,c7 47 46,cz 48 .lss 45 47,ab 49 48,bP 49 true 50 5,bP 49 true 51 11,aI 49 true (cQ 52 1 50 51),aI 49 true (bf 53 1 52),bP 49 true 54 8,aI 49 true (cz 55 .neq 53 54),e7 56 49 55] (bh 56 .skip (.exit 2))) (.block 3 (.region [ab 57 11,bc 58 .add 57 1,ab 11 58]))))) (.seq (ag [ab 59 11,ab 60 5,c7 61 60,cz 62 .eql 59 61] (bh 62 (.region [ab 63 5,ab 64 8,hE 65 1 9 [.t 64],lW 66 1 9 63 65,ab 5 66]) .skip)) (.region [ab 67 6,ab 68 11,cK 69 57 68,bk 70 (.bin .add false (.c (.str [63])) (.t 69)),hE 71 1 9 [.t 70],lW 72 1 9 67 71,ab 6 72]))))))))) (.region [bc 73 .add 16 1,ab 16 73])))) (ag [ab 74 6,ab 75 5,c7 76 75,ab 2 74,ab 3 76,bD 4 true] .ret)))))
@[simp] def acH:List cr:=[.tmp 2,.tmp 3,.tmp 4]
def Mb:C:=(ag [gb 2 0,cd 4 0] (.seq (ag [bm 7 0 1 2,bf 8 1 7,c7 9 8,cd 10 0] (lX 11 10 9 (.seq (.block 1 (ag [ab 12 10,cQ 13 7 8 10,ck 14 7 13,dY (.alloc 6 none (.agg [.str [],.int .i64 0,.int .i64 0,.int .i64 0,.str [],.slice 4 .nil [],.slice 4 .nil []])),ab 5 12,bE 7 6 14] (ag [bm 15 0 1 6,bf 16 1 15,ab 17 1,cz 18 .eql 16 17] (bh 18 (ag [ab 19 5,ab 4 19] .ret) .skip)))) (.region [bc 20 .add 10 1,ab 10 20])))) (ag [cd 4 (-1)] .ret)))
@[simp] def acF:List cr:=[.tmp 4]
def yz:C:=(ag [gb 3 0,gb 4 1,bD 6 false] (.seq (ag [ck 8 4 4,cK 9 155 8,dB 10 9,ab 11 10,aI 11 false (ck 12 1 3),aI 11 false (ck 13 4 4),aI 11 false (eZ 14 222 12 13),aI 11 false (dB 15 14),dk 16 11 15] (bh 16 (ag [bD 6 false] .ret) .skip)) (ag [ck 17 4 4,kC 18 89 [.t 17,(.c (.slice 1 .nil []))],ab 7 18] (ag [ab 19 7,c7 20 19,bc 21 .eql 20 0,ab 22 21,bP 22 false 23 7,bP 22 false 24 7,aI 22 false (c7 25 24),aI 22 false (bc 26 .sub 25 1),aI 22 false (cQ 27 1 23 26),aI 22 false (bf 28 1 27),bP 22 false 29 2,aI 22 false (cz 30 .lss 28 29),dk 31 22 30,ab 6 31] .ret))))
@[simp] def Jy:List cr:=[.tmp 6]
def Gn:C:=(ag [gb 1 0,cd 2 0] (.seq (ag [ck 3 4 1,cK 4 155 3,dB 5 4] (bh 5 (ag [cd 2 0] .ret) .skip)) (ag [ck 6 4 1,kC 7 210 [.t 6,(da 80)],ab 2 7] .ret)))
@[simp] def acu:List cr:=[.tmp 2]
def C5:C:=(ag [gb 2 0,gb 3 1,bD 4 false] (.seq (ag [bm 8 0 1 3,bf 9 1 8,bc 10 .eql 9 9] (bh 10 (ag [ck 11 1 2,bm 12 1 1 3,bf 13 1 12,eZ 14 174 11 13,ab 5 14] (.seq (.drawn true 41 [ab 15 5,bc 16 .geq 15 0,ab 17 16,aI 17 true (bm 18 0 1 2),aI 17 true (bf 19 1 18),bP 17 true 20 5,aI 17 true (cQ 21 7 19 20),aI 17 true (bm 22 1 1 21),aI 17 true (bf 23 1 22),aI 17 true (bm 24 2 1 3),aI 17 true (bf 25 1 24),aI 17 true (c7 26 25),aI 17 true (cz 27 .eql 23 26),e7 28 17 27,ab 4 28]) .ret)) .skip)) (.seq (ag [bm 29 3 1 3,bf 30 1 29,c7 31 30,cd 32 0] (lX 33 32 31 (.seq (.block 1 (ag [cQ 34 4 30 32,ck 35 4 34,dY (.alloc 7 none (.agg [.int .i64 0,.str [],.slice 4 .nil [],.slice 4 .nil []])),bE 4 7 35] (ag [ck 36 1 2,ck 37 4 7,eZ 38 222 36 37,dB 39 38] (bh 39 (ag [bD 4 false] .ret) .skip)))) (.region [bc 40 .add 32 1,ab 32 40])))) (ag [bD 4 true] .ret))))
@[simp] def acE:List cr:=[.tmp 4]
def u1:List (Nat×cJ):=[
 (3,⟨1,8,.int .i64,.int .i64 0⟩),
 (5,⟨1,1,.int .u8,.int .u8 0⟩),
 (9,⟨1,16,.str,.str []⟩),
 (35,⟨1,24,.slice 5,.slice 1 .nil []⟩),
 (38,⟨1,24,.slice 40,.slice 4 .nil []⟩),
 (59,⟨1,24,.slice 86,.slice 7 .nil []⟩),
 (61,⟨1,24,.struct [(0,59)],.agg [.slice 7 .nil []]⟩),
 (63,⟨1,24,.slice 65,.slice 4 .nil []⟩),
 (65,⟨4,72,.struct [(0,3),(1,9),(2,38),(3,63)],.agg [.int .i64 0,.str [],.slice 4 .nil [],.slice 4 .nil []]⟩),
 (70,⟨1,24,.slice 9,.slice 1 .nil []⟩),
 (86,⟨7,104,.struct [(0,9),(1,3),(2,3),(3,65)],.agg [.str [],.int .i64 0,.int .i64 0,.int .i64 0,.str [],.slice 4 .nil [],.slice 4 .nil []]⟩),
 (136,⟨1,24,.slice 3,.slice 1 .nil []⟩)]
theorem k0:ez aQ u1=true:=by kernel_rfl
theorem QO:c8 u1 Gp qL 1 Tryz.f37=true:=by kernel_rfl
theorem Ng:aQ.funcs[(37:Nat)]? =some Tryz.f37:=Tryz.func37
theorem B4:c8 u1 yA tp 1 Tryz.f108=true:=by kernel_rfl
theorem AW:aQ.funcs[(108:Nat)]? =some Tryz.f108:=Tryz.func108
theorem QP:c8 u1 Gq acw 1 Tryz.f109=true:=by kernel_rfl
theorem Nh:aQ.funcs[(109:Nat)]? =some Tryz.f109:=Tryz.func109
theorem abN:c8 u1 Md acH 1 Tryz.f173=true:=by kernel_rfl
theorem WL:aQ.funcs[(173:Nat)]? =some Tryz.f173:=Tryz.func173
theorem abL:c8 u1 Mb acF 2 Tryz.f174=true:=by kernel_rfl
theorem WJ:aQ.funcs[(174:Nat)]? =some Tryz.f174:=Tryz.func174
theorem B3:c8 u1 yz Jy 3 Tryz.f175=true:=by kernel_rfl
theorem AV:aQ.funcs[(175:Nat)]? =some Tryz.f175:=Tryz.func175
theorem QN:c8 u1 Gn acu 1 Tryz.f176=true:=by kernel_rfl
theorem Nf:aQ.funcs[(176:Nat)]? =some Tryz.f176:=Tryz.func176
theorem Jo:c8 u1 C5 acE 2 Tryz.f222=true:=by kernel_rfl
theorem G6:aQ.funcs[(222:Nat)]? =some Tryz.f222:=Tryz.func222
def _root_.Go.Pv.Rl.e(x:Rl):ae:= .agg [.str x.name,.int .i64 x.ar,.int .i64 x.loc,.int .i64 x.body.kind,.str x.body.name,.slice 4 .no (x.body.ts.map enc),.slice 4 .no (x.body.gs.map Gm.e)]
theorem Rl.e_eq(x:Rl):x.e= .agg [.str x.name,.int .i64 x.ar,.int .i64 x.loc,.int .i64 x.body.kind,.str x.body.name,.slice 4 .no (x.body.ts.map enc),.slice 4 .no (x.body.gs.map Gm.e)]:=rfl
@[simp]theorem aai(S:aC->Prop)(x:Rl):kin S x.e=True:=by simp[Rl.e_eq,kin,kinL]
theorem PS(S:aC->Prop):∀l:List Rl,kinL S (l.map Rl.e)
 |[]=>trivial
 |x::l=>by simp only[gY,kinL,aai,true_and];exact PS S l
@[simp]theorem aah(S:aC->Prop)(l:List Rl):kinL S (l.map Rl.e)=True:=eq_true (PS S l)
@[simp]theorem adw(x:Rl):bC x.e=x.e:=by simp[Rl.e_eq,bC,bz]
@[simp]theorem adv:∀l:List Rl,bz (l.map Rl.e)=l.map Rl.e
 |[]=>rfl
 |x::l=>by simp only[gY,bz,adw,adv l]
@[simp]theorem aiG(x:Rl):eD x.e=true:=rfl
@[simp]theorem af0(x:Rl):cells x.e=[.str x.name,.int .i64 x.ar,.int .i64 x.loc,.int .i64 x.body.kind,.str x.body.name,.slice 4 .no (x.body.ts.map enc),.slice 4 .no (x.body.gs.map Gm.e)]:=rfl
@[simp]theorem afh(x:Rl):ae.agg [.str x.name,.int .i64 x.ar,.int .i64 x.loc,.int .i64 x.body.kind,.str x.body.name,.slice 4 .no (x.body.ts.map enc),.slice 4 .no (x.body.gs.map Gm.e)]=x.e:=rfl
@[simp]theorem agw(off:Nat)(eR:Bool)(sz:Nat)(x:Rl):rn off eR sz x.e=if eR then some (off+sz<=7,.agg (([.str x.name,.int .i64 x.ar,.int .i64 x.loc,.int .i64 x.body.kind,.str x.body.name,.slice 4 .no (x.body.ts.map enc),.slice 4 .no (x.body.gs.map Gm.e)].drop off).take sz))else(([.str x.name,.int .i64 x.ar,.int .i64 x.loc,.int .i64 x.body.kind,.str x.body.name,.slice 4 .no (x.body.ts.map enc),.slice 4 .no (x.body.gs.map Gm.e)]:List ae)[off]?).map fun p=>(True,p):=rfl
@[simp]theorem agn(off:Nat)(eR:Bool)(sz:Nat)(x:Rl):n7 off eR sz (.eptr x.e)=if eR then some (off+sz<=7,.eptr (.agg (([.str x.name,.int .i64 x.ar,.int .i64 x.loc,.int .i64 x.body.kind,.str x.body.name,.slice 4 .no (x.body.ts.map enc),.slice 4 .no (x.body.gs.map Gm.e)].drop off).take sz)))else(([.str x.name,.int .i64 x.ar,.int .i64 x.loc,.int .i64 x.body.kind,.str x.body.name,.slice 4 .no (x.body.ts.map enc),.slice 4 .no (x.body.gs.map Gm.e)]:List ae)[off]?).map fun p=>(eD p=true/\cells p=[p],.eptr p):=rfl
@[simp]theorem ahf(x:Rl):Pv.isAgg 7 x.e:=⟨_,rfl,rfl⟩
def ie(P:List Rl):ae:= .agg [.slice 7 .no (P.map Rl.e)]
@[simp]theorem ahu(S:aC->Prop)(P:List Rl):kin S (ie P)=True:=by simp[ie,kin,kinL]
@[simp]theorem aiQ(P:List Rl):bC (ie P)=ie P:=by simp[ie,bC,bz]
@[simp]theorem aiD(P:List Rl):eD (ie P)=true:=rfl
@[simp]theorem afX(P:List Rl):cells (ie P)=[.slice 7 .no (P.map Rl.e)]:=rfl
@[simp]theorem nV(P:List Rl):ae.agg [.slice 7 .no (P.map Rl.e)]=ie P:=rfl
def nc(P:List Rl)(s:List al):Int:=match P.findIdx? fun r=>r.name==s with
 |some i=>i
 |none=> -1
theorem JG{P:List Rl}{s:List al}{k:Nat}{e:Rl}(h:P[k]? =some e)(he:e.name=s)(aK:∀(j:Nat) (f:Rl),j<k->P[j]? =some f->f.name≠s):nc P s=(k:Nat):=by
 have aa:=(e3.1 h).1;have:P.findIdx? (fun e=>e.name==s)=some k:=by
  rw[List.findIdx?_eq_some_iff_getElem];refine⟨aa,?_,fun j aw=>?_⟩
  ·rw[cF aa]at h;cases h;simp[he]
  ·have:=aK j _ aw (cF Ω);simp[this]
 unfold nc;rw[this]
theorem Rv{P:List Rl}{s:List al}(aK:∀(j:Nat) (f:Rl),P[j]? =some f->f.name≠s):nc P s= -1:=by
 have:P.findIdx? (fun e=>e.name==s)=none:=by rw[List.findIdx?_eq_none_iff];intro x af;obtain⟨j,aw⟩:=List.getElem?_of_mem af;simp[aK j x aw]
 unfold nc;rw[this]
theorem Ru(P:List Rl)(s:List al):nc P s= -1/\P.find? (fun r=>r.name==s)=none\/ ∃(k:Nat) (r:Rl),nc P s=(k:Nat)/\P[k]? =some r/\P.find? (fun r=>r.name==s)=some r:=by
 cases aL:P.findIdx? fun e=>e.name==s with
 |none=>left;refine⟨by unfold nc;rw[aL],?_⟩;rw[List.findIdx?_eq_none_iff]at aL;exact List.find?_eq_none.2 fun x af=>by simpa using aL x af
 |some i=>
  right;obtain⟨I,J,ao⟩:=List.findIdx?_eq_some_iff_getElem.1 aL;refine⟨i,P[i],by unfold nc;rw[aL],cF I,?_⟩;rw[List.find?_eq_some_iff_append];refine⟨J,P.take i,P.drop (i+1),?_,fun a bF=>?_⟩
  ·rw[<-pd I,q3]
  ·obtain⟨j,aw,rfl⟩:=List.mem_iff_getElem.1 bF;rw[pe]at aw;rw[List.getElem_take];simpa using ao j Ω
def Eo(P:List Rl)(s:List al)(i:Nat):Prop:= ∀(k:Nat) (e:Rl),k<i->P[k]? =some e->e.name≠s
theorem SQ(P:List Rl)(s:List al):b6 aQ 174 [ie P,.str s] (.int .i64 (nc P s)):=by
 generalize bu:nc P s=R;refine bQ k0 WJ abL fun aN=>?_;unfold Mb;have gJ:P.length<=68719476736:=by simp[ie,-nV,iZ,js,ja,bN]at aN;exact aN.1
 clear aN;simp;(with_reducible repeat' first|refine aA ?_|simp);refine gu (fun i (_:Unit)=>⟨[(1,.str s),(8,.slice 7 .no (P.map Rl.e)),(9,.int .i64 P.length),(10,.int .i64 i)],[],[],0,[]⟩) P.length (fun i _=>Eo P s i) () (by simp;exact dw) (fun k b aa=>Ω) (fun _ aw _=>?_) (fun i _ az aw _=>?_)
 ·have:R= -1:=by rw[<-bu];exact Rv fun j f aL=>aw j f (e3.1 aL).1 aL
  subst this;clear aw bu;exact cw
 ·obtain⟨e,he,Yp⟩:=hj az;have b1:aY ((i:Int)+1):=by unfold aY;omega
  by_cases aK:e.name=s
  ·have:R=i:=by rw[<-bu];exact JG he aK aw
   subst this;clear aw bu;subst aK;exact cw
  ·have gK:(e.name==s)=false:=by simpa using aK
   have jB:Eo P s (i+1):=fun k f aa aL=>by
    rcases ly k i with h|h
    ·exact aw k f h aL
    ·obtain rfl:k=i:=Ω
     rw[he]at aL;cases aL;exact aK
   clear aw bu;exact r7
theorem Mn(P:List Rl)(g:Gm):g.cf P=if g.kind=9 then(match P.find? fun r=>r.name==g.name with|some r=>r.ar==(g.ts.length:Int)|none=>false)else Gm.cfL P g.gs:=by cases g;rfl
theorem Gs(P:List Rl):∀l:List Gm,Gm.cfL P l=l.all fun x=>x.cf P
 |[]=>rfl
 |x::l=>by simp[Gm.cfL,Gs P l]
theorem aei(P:List Rl):∀(n:Nat) (g:Gm),g.sz<=n->b6 aQ 222 [ie P,g.e] (.bool (g.cf P)):=by
 intro n;induction n with
 |zero=>intro g aR;have:=g.sz_pos;omega
 |succ n bo=>
 intro g aR;rw[Mn];by_cases e6:g.kind=9
 ·rw[if_pos e6];have dz:=SQ P g.name;clear bo;rcases Ru P g.name with⟨I,J⟩|⟨k,r,I,J,ao⟩
  ·rw[I]at dz;rw[J];refine bQ k0 G6 Jo fun aN=>?_;unfold C5;clear aN;exact cw
  ·rw[I]at dz;rw[ao];have aa:=(e3.1 J).1;have fe:∀h,(P[k]'h)=r:=fun h=>by rw[cF aa]at J;exact gq J
   refine bQ k0 G6 Jo fun aN=>?_;unfold C5;clear aN;exact cw
 ·rw[bq e6,Gs];have xk:(g.kind==9)=false:=jm.2 e6;generalize bu:(g.gs.all fun x=>x.cf P)=R;refine bQ k0 G6 Jo fun aN=>?_;unfold C5;have gJ:g.gs.length<=68719476736:=by rw[Gm.e_eq]at aN;simp[iZ,js,ja,bN]at aN;omega
  clear aN;simp;(with_reducible repeat' first|refine aA ?_|simp[xk]);refine gu (fun i (_:Unit)=>⟨[(2,.ptr (.loc 0) 0),(30,.slice 4 .no (g.gs.map Gm.e)),(31,.int .i64 g.gs.length),(32,.int .i64 i)],[(.loc 0,[.slice 7 .no (P.map Rl.e)])],[],2,[]⟩) g.gs.length (fun i _=> ∀(k:Nat) x,k<i->g.gs[k]? =some x->x.cf P=true) () (by simp;exact dw) (fun k b aa=>Ω) (fun _ aw _=>?_) (fun i _ az aw _=>?_)
  ·have:R=true:=by rw[<-bu,jy];intro x af;obtain⟨k,aa⟩:=List.getElem?_of_mem af;exact aw k x (e3.1 aa).1 aa
   subst this;clear aw bu bo;exact cw
  ·obtain⟨x,af⟩:∃e,g.gs[i]? =some e:=⟨_,cF az⟩;have fF:∀h,(g.gs[i]'h)=x:=fun h=>by rw[cF az]at af;exact gq af
   have b1:aY ((i:Int)+1):=by unfold aY;omega
   have O2:=fJ af;have o0:=bo x (by have:=g.gs_lt O2;omega);clear bo;cases aE:x.cf P
   ·have:R=false:=by rw[<-bu,Bool.eq_false_iff];intro h;have:=jy.1 h x O2;rw[aE]at this;cases this
    subst this;rw[aE]at o0;clear aw bu;have vZ:=o0;exact cw
   ·rw[aE]at o0;have jB:∀(k:Nat) y,k<i+1->g.gs[k]? =some y->y.cf P=true:=fun k y aa bA=>by
     rcases ly k i with h|h
     ·exact aw k y h bA
     ·obtain rfl:k=i:=Ω
      rw[af]at bA;cases bA;exact aE
    clear aw bu;have vZ:=o0;exact r7
theorem aer(g:Gm):b6 aQ 176 [g.e] (.int .i64 (if g.fits 80 then g.sz else 0)):=by
 have om:=SU g;cases aL:g.fits 80
 ·rw[aL]at om;refine bQ k0 Nf QN fun aN=>?_;unfold Gn;clear aN;exact cw
 ·rw[aL]at om;have jG:=SP g.sz g (cq _) 80 Ω Ω;rw[(GA g 80 Ω).2 (by simp only[Gm.fits,bM,fK]at aL;omega)]at jG;rw[if_pos rfl];refine bQ k0 Nf QN fun aN=>?_;unfold Gn;clear aN;have vZ:=jG;exact cw
theorem aej(P:List Rl)(g:Gm)(n:Int):b6 aQ 175 [ie P,g.e,.int .i64 n] (.bool (g.fits 80&&g.cf P&&qW g n)):=by
 have om:=SU g;have jG:=aei P g.sz g (cq _);cases aL:g.fits 80
 ·rw[aL]at om;simp only[Bool.false_and];refine bQ k0 AV B3 fun aN=>?_;unfold yz;clear aN;exact cw
 rw[aL]at om;simp only[Bool.true_and];cases aE:g.cf P
 ·rw[aE]at jG;simp only[Bool.false_and];refine bQ k0 AV B3 fun aN=>?_;unfold yz;clear aN;have vZ:=jG;exact cw
 rw[aE]at jG;simp only[Bool.true_and];have aq:g.shape=true:=by unfold Gm.fits at aL;rw[bM]at aL;exact aL.1
 have iP:b6 aQ 89 [g.e,.slice 1 .no []] (.slice 1 .no (en (hV g.vs []))):=aeh g.sz g (cq _) aq [] ⟨.nil,Ψ⟩;have mj:=aeA aq n;have hlen:=(oY.ins (l:=[]) ⟨.nil,Ψ⟩ (DI g.sz g (cq _) aq)).len;generalize qW g n=R at mj⊢;generalize hV g.vs []=U at iP mj hlen;rcases List.eq_nil_or_concat U with e|⟨u,m,e⟩
 ·subst e;have ahj:b6 aQ 89 [g.e,.slice 1 .no []] (.slice 1 .no []):=iP;have:R=true:=mj.2 (.inl rfl);subst this;clear iP mj hlen;refine bQ k0 AV B3 fun aN=>?_;unfold yz;clear aN;have vZ:=jG;exact cw
 ·rw[List.concat_eq_append]at e;subst e;have qA:u.length<=100000:=by rw[j2,List.length_singleton]at hlen;omega
  have OY:aY ((u.length:Int)+1-1):=by unfold aY;omega
  have b4:((u.length:Int)+1==0)=false:=jm.2 Ω;by_cases hm:m<n
  ·have:R=true:=mj.2 (.inr ⟨u,m,rfl,hm⟩);subst this;clear mj hlen;refine bQ k0 AV B3 fun aN=>?_;unfold yz;clear aN;simp;(with_reducible repeat' first|refine aA ?_|refine a8 om ?_|refine ba om ?_|refine a8 jG ?_|refine ba jG ?_|refine a8 iP ?_|refine ba iP ?_|simp[aq,OY,b4,Pd,hm]);simp[cg,Jy,a1,be,aV]
  ·have:R=false:=by
    cases h:R with
    |false=>rfl
    |true=>
     rcases mj.1 h with e|⟨eA,m',e,cu⟩
     ·simp at e
     ·obtain⟨-,aJ⟩:=List.append_inj' e rfl;simp at aJ;subst aJ;exact absurd cu hm
   subst this;clear mj hlen;refine bQ k0 AV B3 fun aN=>?_;unfold yz;clear aN;simp;(with_reducible repeat' first|refine aA ?_|refine a8 om ?_|refine ba om ?_|refine a8 jG ?_|refine ba jG ?_|refine a8 iP ?_|refine ba iP ?_|simp[aq,OY,b4,Pd,hm]);simp[cg,Jy,a1,be,aV]
def dX:List ae:=[.str [],.int .i64 0,.int .i64 0,.int .i64 0,.str [],.slice 4 .nil [],.slice 4 .nil []]
def dW(name:List al)(k:Int):List ae:=[.str name,.int .i64 k,.int .i64 0,.int .i64 0,.str [],.slice 4 .nil [],.slice 4 .nil []]
def hN:Rl:=⟨[],0,0,.mk 0 [] [] []⟩
def mq(ns:List (List al)):List (List al×ae):=ns.zipIdx.map fun x=>(x.1,.int .i64 x.2)
theorem aaV(ns:List (List al)):(mq ns).length=ns.length:=by simp[mq]
@[simp]theorem ahq(S:aC->Prop)(ns:List (List al)):kinL S (jj (mq ns))=True:=by
 have:∀l:List (List al×Nat),kinL S (kY (l.map fun x=>(x.1,.int .i64 x.2))):=by
  intro l;induction l with
  |nil=>trivial
  |cons x l bo=>exact⟨trivial,trivial,bo⟩
 exact eq_true ⟨trivial,this _⟩
theorem Qm(ns:List (List al)):∀(f:aC->aT (List ae)) (m:aC),f m=some (jj (mq ns))->uJ f (.gmap m)=some (True,.int .i64 ns.length):=fun f m h=>by rw[aaG f m _ h,aaV]
def Ao(l cv:List (List al))(f p:Nat)(name:List al)(k:Int)(ns:List (List al)):aS:=⟨[(0,.ptr (.obj 871) 0),(2,.ptr (.loc 0) 0),(3,.bool false),(4,.ptr (.loc 1) 0),(9,.gmap (.loc 2)),(16,.ptr (.obj 872) 0),(200,.ptr (.obj 872) 0),(201,.bool true),(202,.bool false)],[(.loc 0,dX),(.loc 1,dW name k),(.loc 2,jj (mq ns)),(.obj 871,[.slice 1 .no (bZ l),.int .i64 f]),(.obj 872,[.slice 1 .no (bZ cv),.int .i64 p])],[],3,[.obj 871,.obj 872,.obj 873,.obj 872]⟩
def yt(l cv:List (List al))(name:List al)(k:Int)(c:Nat)(r:List (List al)):aT (Rl×List (List al)):=match eX ei fb (2*r.length+1) r with
 |some (g,[41]::eW)=>some (⟨name,k,c-k,g⟩,l.drop (cv.length-eW.length))
 |_=>none
theorem Kn{k:Int}(h:0<=k/\k<=100000)(r:List (List al)):ei ((63::Lib.itoa k)::r)=some (.var k,r):=by have:=adJ (t:= .var k) (aey h) r;simpa[hY]using this
theorem P6(a:List T)(t:T)(h:(e9 a t).kind=1):a=[]/\t.kind=1:=by
 cases a with
 |nil=>exact⟨rfl,h⟩
 |cons x a=>simp[e9,T.kind]at h
theorem Pq:∀(n:Nat) (l:List (List al)) (acc:List T) (t:T) (r:List (List al)),bH eg n l acc=some (t,r)->t.kind≠1
 |0,_,_,_,_,h=>by simp[bH]at h
 |_+1,[],_,_,_,h=>by simp[bH]at h
 |n+1,w::l,acc,t,r,h=>by
  simp only[bH]at h;split at h
  ·cases h;intro aa;have:=(P6 _ _ aa).2;simp[T.kind]at this
  ·split at h
   ·split at h
    ·cases h
    ·rename_i b4;split at h
     ·split at h
      ·cases h;intro aa;exact b4 (P6 _ _ aa).1
      ·cases h
     ·cases h
   ·split at h
    ·exact Pq n _ _ t r h
    ·cases h
theorem adI{w:List al}{r cE:List (List al)}{t:T}(h:ei (w::r)=some (t,cE))(aa:t.kind=1):w=63::Lib.itoa t.int/\cE=r/\0<=t.int/\t.int<=100000:=by
 unfold ei at h;rw[show 2*(w::r).length+1=(2*r.length+2)+1 by simp;omega]at h;simp only[rd]at h;by_cases aO:w=[40]
 ·rw[if_pos aO]at h;split at h
  ·rename_i t1 ff I;split at h
   ·cases h;exact absurd aa (Pq _ _ _ _ _ I)
   ·cases h
  ·cases h
 ·rw[bq aO]at h;by_cases bp:w=[41]\/w=[46]
  ·rw[if_pos bp]at h;simp at h
  ·rw[bq bp]at h;cases bF:eg w with
   |none=>rw[bF]at h;simp at h
   |some t1=>
    rw[bF]at h;simp only[kF]at h;split at h
    ·cases h;unfold eg at bF;split at bF
     ·rename_i s;split at bF
      ·rename_i n aK;split at bF
       ·rename_i hr;cases bF;exact⟨by rw[<-(xV.1 aK).2];rfl,rfl,hr⟩
       ·cases bF
      ·cases bF
     ·split at bF
      ·cases bF;simp[T.kind]at aa
      ·cases aU:fQ w with
       |none=>rw[aU]at bF;cases bF
       |some n=>rw[aU]at bF;cases bF;simp[T.kind]at aa
    ·cases h
def FT(l cv:List (List al))(f:Nat)(name:List al)(ns:List (List al)):aS:=⟨[(0,.ptr (.obj 871) 0),(2,.ptr (.loc 0) 0),(3,.bool false),(4,.ptr (.loc 1) 0),(5,.int .i64 f),(8,.int .i64 cv.length),(9,.gmap (.loc 2)),(10,.row 1 (.obj 873) cv.length),(11,.int .i64 cv.length),(131,.int .i64 cv.length),(132,.int .i64 cv.length),(133,.bool false)],[(.loc 0,dX),(.loc 1,dW name 0),(.obj 871,[.slice 1 .no (bZ l),.int .i64 f]),(.loc 2,jj (mq ns))],[(.obj 873,⟨cv.length,9,1,some (bZ cv)⟩)],3,[.obj 873,.obj 871]⟩
def tK(l cv:List (List al))(f:Nat)(name:List al)(ns:List (List al))(k p:Nat):aS:=⟨[(0,.ptr (.obj 871) 0),(2,.ptr (.loc 0) 0),(3,.bool false),(4,.ptr (.loc 1) 0),(9,.gmap (.loc 2)),(16,.ptr (.obj 872) 0)],[(.loc 0,dX),(.loc 1,dW name k),(.loc 2,jj (mq ns)),(.obj 871,[.slice 1 .no (bZ l),.int .i64 f]),(.obj 872,[.slice 1 .no (bZ cv),.int .i64 p])],[],3,[.obj 871,.obj 872,.obj 873]⟩
def pW(l cv:List (List al))(name:List al)(c:Nat)(x:aT (Int×List (List al))):aT (Rl×List (List al)):=match x with
 |some (k,r)=>yt l cv name k c r
 |none=>none
def nk(l:List (List al))(f e:Nat)(name:List al)(row ns:List (List al))(k:Nat):aS:=⟨[(0,.ptr (.obj 871) 0),(2,.ptr (.loc 0) 0),(3,.bool false),(4,.ptr (.loc 1) 0),(5,.int .i64 f),(8,.int .i64 e),(9,.gmap (.loc 2)),(10,.row 1 (.obj 873) e),(11,.int .i64 ((f+k:Nat):Int))],[(.loc 0,dX),(.loc 1,dW name 0),(.obj 871,[.slice 1 .no (bZ l),.int .i64 f]),(.loc 2,jj (mq ns))],[(.obj 873,⟨e,9,1,some (bZ row)⟩)],3,[.obj 873,.obj 871]⟩
def zx(l:List (List al))(f:Nat)(name:List al)(x:aT (List (List al)×List (List al))):aT (Rl×List (List al)):=match x with
 |some (c6,ms)=>pW l (l.take f++c6) name ms.length (h4 0 c6)
 |none=>none
theorem R9(w:List al)(ns:List (List al)):qP w (mq ns)=if w∈ns then some (.int .i64 (ns.idxOf w:Nat))else none:=by
 have:∀(l:List (List al)) (k:Nat),qP w ((l.zipIdx k).map fun x=>(x.1,ae.int .i64 x.2))=if w∈l then some (.int .i64 ((l.idxOf w+k:Nat):Int))else none:=by
  intro l;induction l with
  |nil=>intro k;rfl
  |cons x l bo=>
   intro k;simp only[List.zipIdx_cons,gY,qP];by_cases h:w=x
   ·subst h;simp
   ·rw[bq h,bo];have cu:¬x=w:=fun e=>h e.symm;have af:(x==w)=false:=by simpa using cu
    by_cases hm:w∈l
    ·rw[if_pos hm,if_pos (List.mem_cons_of_mem _ hm),List.idxOf_cons,af];simp only[cond_false,dZ,ae.int.injEq,true_and];push_cast;omega
    ·rw[bq hm,bq (by simp[h,hm])]
 simpa[mq]using this ns 0
theorem adn:∀(w:List al) (v:ae) (l:List (List al×ae)),qP w l=none->o8 w v l=l++[(w,v)]:=by
 intro w v l h;have:∀l:List (List al×ae),qP w l=none->sf w v l=none:=by
  intro l;induction l with
  |nil=>intro _;rfl
  |cons x l bo=>
   obtain⟨y,u⟩:=x;intro h;simp only[qP]at h;split at h
   ·cases h
   ·rename_i b4;simp only[sf,bq b4,bo h]
 simp only[o8,this l h]
theorem ado{w:List al}{ns:List (List al)}(h:w∉ns):o8 w (.int .i64 ns.length) (mq ns)=mq (ns++[w]):=by rw[adn _ _ _ (by rw[R9,bq h])];simp[mq,List.zipIdx_append]
theorem Qi(f:aC->aT (List ae))(m:aC)(w:List al)(ns:List (List al))(hm:f m=some (jj (mq ns))):o2 f .s (.int .i64 0) true (.gmap m) (.str w)=some (True,if w∈ns then .tuple [.int .i64 (ns.idxOf w:Nat),.bool true]else .tuple [.int .i64 0,.bool false]):=by
 rw[uH _ _ _ _ true w hm,R9];by_cases h:w∈ns
 ·rw[if_pos h,if_pos h];rfl
 ·rw[bq h,bq h];rfl
structure Ip (iT:List (List al)) (x:List (List al)×List (List al)):Prop where
 le:x.1.length<=iT.length
 eq:num [] iT=(num x.2 (iT.drop x.1.length)).map fun y=>(x.1++y.1,y.2)
 ns:x.2.length<=x.1.length
 ok:∀w∈x.1,w≠[]/\w.length<=bN
theorem acW{l iT d:List (List al)}{f:Nat}{w:List al}(aL:f<=l.length)(af:iT[d.length]? =some w):(bZ (l.take f++(d++iT.drop d.length)))[f+d.length]? =some (.str w):=by rw[bZ,List.getElem?_map,List.getElem?_append_right (by simp;omega),List.getElem?_append_right (by simp;omega)];rw[k2];simp only[pe];rw[show d.length+(f+d.length-min f l.length-d.length)=d.length by omega,af];rfl
def sH(l:List (List al))(f:Nat)(name:List al)(d:Int)(k:Nat):aS:=⟨[(0,.ptr (.obj 871) 0),(2,.ptr (.loc 0) 0),(3,.bool false),(4,.ptr (.loc 1) 0),(5,.int .i64 f),(6,.int .i64 d),(7,.int .i64 ((f+k:Nat):Int))],[(.loc 0,dX),(.loc 1,dW name 0),(.obj 871,[.slice 1 .no (bZ l),.int .i64 f])],[],2,[.obj 871]⟩
def sI(l:List (List al))(f t:Nat)(name:List al)(d:Int)(k:Nat):aS:=⟨[(0,.ptr (.obj 871) 0),(2,.ptr (.loc 0) 0),(3,.bool false),(4,.ptr (.loc 1) 0),(5,.int .i64 f),(6,.int .i64 d),(8,.int .i64 ((t+k:Nat):Int))],[(.loc 0,dX),(.loc 1,dW name 0),(.obj 871,[.slice 1 .no (bZ l),.int .i64 f])],[],2,[.obj 871]⟩
theorem UA(d:Int)(w:List al)(r:List (List al)):jz d (w::r)=(if d+fB w<0 then 0 else jz (d+fB w) r)+1:=by simp only[jz];split<;>simp
theorem ML:fB [40]=1:=rfl
theorem MM:fB [41]= -1:=rfl
theorem GK{w:List al}(bL:w≠[40])(I:w≠[41]):fB w=0:=by unfold fB;rw[bq bL,bq I]
def BN(L:List (List al))(x:Int×Nat):Prop:=x.2<=L.length/\(-(x.2:Int)<=x.1/\x.1<=x.2)/\(if 0<=x.1 then x.2+jz x.1 (L.drop x.2)else x.2)=jz 0 L
theorem Pu{L:List (List al)}{d:Int}{k:Nat}{w:List al}(h:BN L (d,k))(aF:0<=d)(hw:L[k]? =some w):BN L (d+fB w,k+1):=by
 obtain⟨I,J,ao⟩:=h;simp only at I J ao;have aa:=(e3.1 hw).1;rw[if_pos aF,fi hw,UA]at ao;have ah: -1<=fB w/\fB w<=1:=by
  by_cases pw:w=[40]
  ·subst pw;decide
  by_cases aj:w=[41]
  ·subst aj;decide
  rw[GK pw aj];omega
 refine⟨by simp only;omega,by simp only;push_cast;omega,?_⟩;simp only;by_cases aK:d+fB w<0
 ·rw[if_pos aK]at ao;rw[bq Ω];omega
 ·rw[bq aK]at ao;rw[if_pos Ω];omega
theorem Pt{L:List (List al)}{d:Int}{k:Nat}(h:BN L (d,k))(he:k=L.length\/d<0):k=jz 0 L:=by
 obtain⟨I,J,ao⟩:=h;simp only at I ao;rcases he with rfl|aF
 ·rw[jN]at ao;split at ao
  ·simpa[jz]using ao
  ·exact ao
 ·rw[bq Ω]at ao;exact ao
theorem UH(l:List (List al))(aG:l.length<=100000){i f:Nat}(aL:f<=l.length)(name:List al){Q:Exit->aS->Prop}(my:List (Nat×ae))(bL:Pv.get 0 my= .ptr (.obj 871) 0)(J:Pv.get 2 my= .ptr (.loc 0) 0)(ao:Pv.get 3 my= .bool false)(aO:Pv.get 4 my= .ptr (.loc 1) 0)(bp:Pv.get 5 my= .int .i64 f)(cj:Pv.get 6 my= .int .i64 0)(hB:∀t,Pv.get 0 t= .ptr (.obj 871) 0->Pv.get 2 t= .ptr (.loc 0) 0->Pv.get 3 t= .bool false->Pv.get 4 t= .ptr (.loc 1) 0->Pv.get 5 t= .int .i64 f->Pv.get 7 t= .int .i64 ((f+jz 0 (l.drop f):Nat):Int)->ct aQ [.obj 871] C1 Q ⟨t,[(.loc 0,dX),(.loc 1,dW name 0),(.obj 871,[.slice 1 .no (bZ l),.int .i64 f])],[],2,[.obj 871]⟩):
  ct aQ [.obj 871] Gb Q ⟨my,[(.loc 0,dX),(.obj 871,[.slice 1 .no (bZ l),.int .i64 f]),(.loc 1,dW name 0)],[],2,[.obj 871,.obj 871,.obj 871,.obj 871,.obj 871,.obj 871]⟩:=by
 unfold Gb;simp[bp,Pv.get_put];refine h1 (fun x:Int×Nat=>sH l f name x.1 x.2) (fun x=>l.length-(f+x.2)) (fun x=>BN (l.drop f) x) (0,0) (by simp[sH];exact⟨by simp[fresh,kinL,kin,bt,au,Pv.look,dX,dW,Pv.get_put,bL,J,ao,aO,bp,cj],cR (by simp[fresh,kinL,kin,bt,au,Pv.look,dX,dW,Pv.get_put,bL,J,ao,aO,bp,cj]),cS (by simp[fresh,kinL,kin,cB,au,Pv.look,dX,dW,Pv.get_put,bL,J,ao,aO,bp,cj]),Ψ⟩) ⟨Ψ,Ψ,Ψ⟩ ?_;rintro⟨d,k⟩ aw _;simp only;have Hx:=aw.1;simp only[hg]at Hx;by_cases eO:f+k<l.length/\0<=d
 ·obtain⟨bS,aF⟩:=eO;obtain⟨w,af⟩:∃w,(l.drop f)[k]? =some w:=⟨_,cF (by simp;omega)⟩;have fP:=(e3.1 af).1;have fF:(bZ l)[((f:Int)+k).toNat]?.getD ae.junk= .str w:=by rw[show((f:Int)+k).toNat=f+k by omega,bZ,List.getElem?_map,<-k2,af];rfl
  have bS:f+k<l.length:=by simp at fP;omega
  have eV:aY ((f:Int)+k+1):=by unfold aY;omega
  have j6:aY (d+1):=by have:=aw.2.1;simp only at this;unfold aY;omega
  have hU:aY (d-1):=by have:=aw.2.1;simp only at this;unfold aY;omega
  have eI:=Pu aw aF af;have jW:(f:Int)+k<l.length:=Ω
  rcases(by by_cases h:w=[40];exact .inl h;by_cases cu:w=[41];exact .inr (.inl cu);exact .inr (.inr ⟨h,cu⟩):w=[40]\/w=[41]\/w≠[40]/\w≠[41])with rfl|rfl|⟨n8,eN⟩
  ·rw[ML]at eI;simp[sH];(with_reducible repeat' first|refine aA ?_|simp[bS,jW,aF,fF,eV,j6,hU]);refine b9.whl (d+1,k+1) (by simp only;omega) eI ?_;simp[sH,<-pc];exact⟨by simp[fresh,kinL,kin,bt,au,Pv.look,dX,dW],cR (by simp[fresh,kinL,kin,bt,au,Pv.look,dX,dW]),cS (by simp[fresh,kinL,kin,cB,au,Pv.look,dX,dW]),Ψ⟩
  ·rw[MM]at eI;simp[sH];(with_reducible repeat' first|refine aA ?_|simp[bS,jW,aF,fF,eV,j6,hU]);refine b9.whl (d-1,k+1) (by simp only;omega) eI ?_;simp[sH,<-pc];exact⟨by simp[fresh,kinL,kin,bt,au,Pv.look,dX,dW],cR (by simp[fresh,kinL,kin,bt,au,Pv.look,dX,dW]),cS (by simp[fresh,kinL,kin,cB,au,Pv.look,dX,dW]),Ψ⟩
  ·rw[GK n8 eN,Int.add_zero]at eI;have xo:(w==[40])=false:=jm.2 n8;have mI:(w==[41])=false:=jm.2 eN;simp[sH];(with_reducible repeat' first|refine aA ?_|simp[bS,jW,aF,fF,eV,xo,mI]);refine b9.whl (d,k+1) (by simp only;omega) eI ?_;simp[sH,<-pc];exact⟨by simp[fresh,kinL,kin,bt,au,Pv.look,dX,dW],cR (by simp[fresh,kinL,kin,bt,au,Pv.look,dX,dW]),cS (by simp[fresh,kinL,kin,cB,au,Pv.look,dX,dW]),Ψ⟩
 ·have he:=Pt aw (by simp only[hg];omega);have aR:(decide ((f:Int)+k<l.length)&&decide (0<=d))=false:=by rw[Bool.and_eq_false_iff,decide_eq_false_iff_not,decide_eq_false_iff_not];omega
  by_cases jW:(f:Int)+k<l.length
  ·have hU:¬0<=d:=Ω
   simp[sH];(with_reducible repeat' first|refine aA ?_|simp[jW,hU]);exact hB _ rfl rfl rfl rfl rfl (by rw[<-he];rfl)
  ·simp[sH];(with_reducible repeat' first|refine aA ?_|simp[jW]);exact hB _ rfl rfl rfl rfl rfl (by rw[<-he];rfl)
theorem UI(l:List (List al))(aG:l.length<=100000){f t:Nat}(aL:f<=l.length)(agJ:t<=l.length)(name:List al){Q:Exit->aS->Prop}(my:List (Nat×ae))(bL:Pv.get 0 my= .ptr (.obj 871) 0)(J:Pv.get 2 my= .ptr (.loc 0) 0)(ao:Pv.get 3 my= .bool false)(aO:Pv.get 4 my= .ptr (.loc 1) 0)(bp:Pv.get 5 my= .int .i64 f)(eu:Pv.get 7 my= .int .i64 t)
  (N7:∀u,Pv.get 0 u= .ptr (.obj 871) 0->Pv.get 2 u= .ptr (.loc 0) 0->Pv.get 3 u= .bool false->Pv.get 4 u= .ptr (.loc 1) 0->Pv.get 5 u= .int .i64 f->Pv.get 8 u= .int .i64 ((t+jz 0 (l.drop t):Nat):Int)->Pv.get 9 u= .gmap (.loc 2)->Pv.get 10 u= .row 1 (.obj 873) (t+jz 0 (l.drop t))->ct aQ [.obj 871] C2 Q ⟨u,[(.loc 0,dX),(.loc 1,dW name 0),(.obj 871,[.slice 1 .no (bZ l),.int .i64 f]),(.loc 2,jj (mq []))],[(.obj 873,⟨t+jz 0 (l.drop t),9,1,some (bZ (l.take (t+jz 0 (l.drop t))))⟩)],3,[.obj 873,.obj 871]⟩):
  ct aQ [.obj 871] C1 Q ⟨my,[(.loc 0,dX),(.loc 1,dW name 0),(.obj 871,[.slice 1 .no (bZ l),.int .i64 f])],[],2,[.obj 871]⟩:=by
 unfold C1;simp[bL,J,ao,aO,bp,eu,Pv.get_put];refine h1 (fun x:Int×Nat=>sI l f t name x.1 x.2) (fun x=>l.length-(t+x.2)) (fun x=>BN (l.drop t) x) (0,0) (by simp[sI];exact⟨by simp[fresh,kinL,kin,bt,au,Pv.look,dX,dW,Pv.get_put,bL,J,ao,aO,bp,eu],cR (by simp[fresh,kinL,kin,bt,au,Pv.look,dX,dW,Pv.get_put,bL,J,ao,aO,bp,eu]),cS (by simp[fresh,kinL,kin,cB,au,Pv.look,dX,dW,Pv.get_put,bL,J,ao,aO,bp,eu]),Ψ⟩) ⟨Ψ,Ψ,Ψ⟩ ?_;rintro⟨d,k⟩ aw _;simp only;have Hx:=aw.1;simp only[hg]at Hx;by_cases eO:t+k<l.length/\0<=d
 ·obtain⟨bS,aF⟩:=eO;obtain⟨w,af⟩:∃w,(l.drop t)[k]? =some w:=⟨_,cF (by simp;omega)⟩;have fP:=(e3.1 af).1;have fF:(bZ l)[((t:Int)+k).toNat]?.getD ae.junk= .str w:=by rw[show((t:Int)+k).toNat=t+k by omega,bZ,List.getElem?_map,<-k2,af];rfl
  have bS:t+k<l.length:=by simp at fP;omega
  have eV:aY ((t:Int)+k+1):=by unfold aY;omega
  have j6:aY (d+1):=by have:=aw.2.1;simp only at this;unfold aY;omega
  have hU:aY (d-1):=by have:=aw.2.1;simp only at this;unfold aY;omega
  have eI:=Pu aw aF af;have jW:(t:Int)+k<l.length:=Ω
  rcases(by by_cases h:w=[40];exact .inl h;by_cases cu:w=[41];exact .inr (.inl cu);exact .inr (.inr ⟨h,cu⟩):w=[40]\/w=[41]\/w≠[40]/\w≠[41])with rfl|rfl|⟨n8,eN⟩
  ·rw[ML]at eI;simp[sI];(with_reducible repeat' first|refine aA ?_|simp[bS,jW,aF,fF,eV,j6,hU]);refine b9.whl (d+1,k+1) (by simp only;omega) eI ?_;simp[sI,<-pc];exact⟨by simp[fresh,kinL,kin,bt,au,Pv.look,dX,dW],cR (by simp[fresh,kinL,kin,bt,au,Pv.look,dX,dW]),cS (by simp[fresh,kinL,kin,cB,au,Pv.look,dX,dW]),Ψ⟩
  ·rw[MM]at eI;simp[sI];(with_reducible repeat' first|refine aA ?_|simp[bS,jW,aF,fF,eV,j6,hU]);refine b9.whl (d-1,k+1) (by simp only;omega) eI ?_;simp[sI,<-pc];exact⟨by simp[fresh,kinL,kin,bt,au,Pv.look,dX,dW],cR (by simp[fresh,kinL,kin,bt,au,Pv.look,dX,dW]),cS (by simp[fresh,kinL,kin,cB,au,Pv.look,dX,dW]),Ψ⟩
  ·rw[GK n8 eN,Int.add_zero]at eI;have xo:(w==[40])=false:=jm.2 n8;have mI:(w==[41])=false:=jm.2 eN;simp[sI];(with_reducible repeat' first|refine aA ?_|simp[bS,jW,aF,fF,eV,xo,mI]);refine b9.whl (d,k+1) (by simp only;omega) eI ?_;simp[sI,<-pc];exact⟨by simp[fresh,kinL,kin,bt,au,Pv.look,dX,dW],cR (by simp[fresh,kinL,kin,bt,au,Pv.look,dX,dW]),cS (by simp[fresh,kinL,kin,cB,au,Pv.look,dX,dW]),Ψ⟩
 ·have he:=Pt aw (by simp only[hg];omega);have OB:((t:Int)+k).toNat=t+k:=Ω
  have hle:(t:Int)+k<=l.length:=Ω
  have Bn:t+k<=l.length:=Ω
  have gJ:t+k<=bN:=by unfold bN;omega
  have D3:min (t+k) l.length=t+k:=Nat.min_eq_left Bn;have OW:List.take (t+k) (bZ l)=bZ (l.take (t+k)):=by simp[bZ]
  by_cases jW:(t:Int)+k<l.length
  ·have hU:¬0<=d:=Ω
   simp[sI];(with_reducible repeat' first|refine aA ?_|simp[jW,hU,OB,hle,gJ]);rw[D3,OW];subst he;exact N7 _ rfl rfl rfl rfl rfl rfl rfl rfl
  ·simp[sI];(with_reducible repeat' first|refine aA ?_|simp[jW,OB,hle,gJ]);rw[D3,OW];subst he;exact N7 _ rfl rfl rfl rfl rfl rfl rfl rfl
theorem Dc{x:List (List al)}(h:¬(x[0]? =some [40]/\x[1]? =some iD/\x[2]? =some [40]/\x[3]?≠none)):n2 x=none:=by
 unfold n2;split
 ·rename_i d name IG;by_cases aF:d=iD
  ·exact absurd ⟨rfl,by simp[aF],rfl,Ψ⟩ h
  ·rw[bq aF]
 ·rfl
theorem abV(l cv:List (List al))(name:List al)(c:Nat)(c6:List (List al)):pW l cv name c (h4 0 c6)=(rf name c c6).map fun x=>(x.1,l.drop (cv.length-x.2.length)):=by
 unfold rf;cases aU:h4 0 c6 with
 |none=>rfl
 |some y=>
  obtain⟨k,r⟩:=y;simp only[pW,yt];split
  ·rename_i g eW aR;rw[aR];rfl
  ·rename_i h;split
   ·rename_i g eW aR;exact absurd aR (h g eW)
   ·rfl
theorem aaZ{l:List (List al)}{i e:Nat}{name:List al}(bL:l[i]? =some [40])(I:l[i+1]? =some iD)(J:l[i+2]? =some [40])(ao:l[i+3]? =some name)(he:e=i+4+l8 (l.drop (i+4)))(agI:e<=l.length):
  zx l (i+4) name (num [] ((l.drop (i+4)).take (e-(i+4))))=n2 (l.drop i):=by
 rw[fi bL,fi I,fi J,fi ao];simp only[n2,if_true,he,show i+4+l8 (l.drop (i+4))-(i+4)=l8 (l.drop (i+4)) by omega];rw[show i+3+1=i+4 by omega];cases aK:num [] ((l.drop (i+4)).take (l8 (l.drop (i+4))))with
 |none=>rfl
 |some y=>
  obtain⟨c6,ms⟩:=y;have lf:=(xR _ _ _ _ aK).1;rw[pe,hg]at lf;simp only[zx,abV];cases ah:rf name ms.length c6 with
  |none=>rfl
  |some z=>
   obtain⟨x,eW⟩:=z;obtain⟨p,q,aJ,_⟩:=GH ah;have jX:eW.length<=c6.length:=by rw[aJ];simp;omega
   simp only[kF,List.drop_drop,j2,pe];congr 3;omega
def _root_.Go.Pv.Rl.k(x:Rl)(κ:Nat):ae:= .agg [.str x.name,.int .i64 x.ar,.int .i64 x.loc,.int .i64 x.body.kind,.str x.body.name,.slice 4 (.tr (.loc κ) 0) (x.body.ts.map enc),.slice 4 (.tr (.loc κ) 1) (x.body.gs.map Gm.e)]
def tU(l:List (List al))(o:aT (Rl×List (List al)))(κ:Nat)(r:ae)(ai:dD):Prop:=match o with
 |some (x,rest)=>r= .tuple [x.k κ,.bool true]/\ai=ad 871 l (l.length-rest.length)
 |none=> ∃(x:Rl) (j:Nat),j<=l.length/\r= .tuple [x.k κ,.bool false]/\ai=ad 871 l j
theorem pt{l:List (List al)}{j κ:Nat}(h:j<=l.length)(x:Rl):tU l none κ (.tuple [x.k κ,.bool false]) (ad 871 l j):=⟨x,j,h,rfl,rfl⟩
theorem UG{l:List (List al)}{j κ:Nat}(x:Rl)(h:j<=l.length):tU l (some (x,l.drop j)) κ (.tuple [x.k κ,.bool true]) (ad 871 l j):=⟨rfl,by rw[show l.length-(l.drop j).length=j by simp;omega]⟩
def Tj(l:List (List al))(i:Nat)(o:aT (Rl×List (List al))):Prop:= ∀κ,FnK aQ 110 κ [av 871] (ad 871 l i) (tU l o κ)
theorem dy.dfi{l:List (List al)}{i κ:Nat}{o:aT (Rl×List (List al))}{st:aS}{e:Exit}(j:Nat)(x:Rl)(b:Bool)(ik:e= .ret\/e= .normal)(jb:tU l o κ (.tuple [x.k κ,.bool b]) (ad 871 l j))(ah:∀k cs,Pv.look k (ad 871 l j).b=some cs->Pv.look k st.b=some cs)
  (h:match a1 st [.cell 2 true 7,.tmp 3]with
   |some (c,a6)=>c/\(cH st.e (aV a6)/\(cp st.e (aV a6)).Nodup/\(bY (aV a6)).Nodup)/\fold κ st.e 0 (aV a6)= .tuple [x.k κ,.bool b]
   |none=>cZ):dy [.cell 2 true 7,.tmp 3] (ad 871 l i) κ (tU l o κ) e st:=by
 refine dy.ob ik (a7 l j) rfl (bJ _ _ _ _) ah ?_;split at h
 ·rename_i c a6 hr;(try rw[hr]);exact⟨h.1,h.2.1,by rw[h.2.2];exact jb⟩
 ·exact h.elim
theorem Z4(l cv:List (List al))(hl:cv.length<=l.length)(aG:l.length<=100000)(hw:∀w∈cv,w≠[]/\w.length<=bN){i f p κ:Nat}(aU:p<=cv.length)(aL:f<=l.length)(name:List al)(k:Int)(aa:0<=k/\k<=100000)(ns:List (List al))(OJ:ns.length<=100000):
  ct aQ [.obj 871] Gd (dy [.cell 2 true 7,.tmp 3] (ad 871 l i) κ (tU l (yt l cv name k ns.length (cv.drop p)) κ)) (Ao l cv f p name k ns):=by
 have om:=aaa (ky:=872) cv Ω hw cv.length p (2*(cv.drop p).length+1) Ω aU Ψ;obtain⟨B,hB⟩:∃B,B=yt l cv name k ns.length (cv.drop p):=⟨_,rfl⟩;rw[<-hB];unfold yt at hB;unfold Gd;cases hr:eX ei fb (2*(cv.drop p).length+1) (cv.drop p)with
 |none=>rw[hr]at om hB;simp only at hB;subst hB;simp[Ao,dX,dW];(with_reducible repeat' first|refine aA ?_|simp);refine CallDo.obK (om _) (a7 _ _) (by simp only[ad];exact aB) (by simp only[ad];exact aB) (by simp[au,Pv.look,ad,av,dF,kinL,kin]) Ψ ?_;rintro r ai ⟨x,q,bn,rfl,rfl⟩;refine⟨bJ _ _ _ _,?_⟩;simp[bg,ad,av];(with_reducible repeat' first|refine aA ?_|simp);refine dy.dfi (f) (hN) false Ψ (pt aL _) (by simp only[ad];exact aB) ?_;simp[a1,be,aV,cH,dV,cp,dx,bY,dt,tnL,tn,dU,ey,fold,eb,ea,eP,Pv.look,dv,bz,bC,Rl.k,hN,Gm.kind,Gm.name,Gm.ts,Gm.gs]
 |some x=>
  obtain⟨g,rest⟩:=x;rw[hr]at om;obtain⟨fN,vR⟩:∃fN,fN=cv.length-rest.length:=⟨_,rfl⟩;have PI:=N0 om vR.symm;obtain⟨fE,nz⟩:=tt (zM Km _ _ _ _ hr).1;rw[<-vR]at fE;have za:fN<=1000000:=Ω
  by_cases eN:cv[fN]? =some [41]
  ·have dH:=nf (ky:=872) za eN;have uw:rest=[41]::cv.drop (fN+1):=by rw[fE];exact fi eN
   have fm:=(e3.1 eN).1;have BC:aY ((ns.length:Int)-k):=by unfold aY;omega
   rw[hr,uw]at hB;simp only at hB;rw[show cv.length-(cv.drop (fN+1)).length=fN+1 by simp;omega]at hB;subst hB;simp[Ao,dX,dW];(with_reducible repeat' first|refine aA ?_|simp);refine CallDo.obK (PI _) (a7 _ _) (by simp only[ad];exact aB) (by simp only[ad];exact aB) (by simp[au,Pv.look,ad,av,dF,kinL,kin]) Ψ ?_;rintro r ai ⟨rfl,rfl⟩;refine⟨bJ _ _ _ _,?_⟩;simp[bg,ad,av];(with_reducible repeat' first|refine aA ?_|simp);refine CallDo.ob (dH) (a7 _ _) (by simp only[ad];exact aB) (by simp only[ad];exact aB) (by simp[au,Pv.look,ad,av,dF,kinL,kin]) ?_;rintro r ai ⟨rfl,rfl⟩;refine⟨bJ _ _ _ _,?_⟩;simp[bg,ad,av];(with_reducible repeat' first|refine aA ?_|simp[Qm ns,BC]);refine dy.dfi (fN+1) (⟨name,k,ns.length-k,g⟩) true Ψ (UG (l:=l) (j:=fN+1) _ (show fN+1<=l.length by omega)) (by simp only[ad];exact aB) ?_;simp[a1,be,aV,cH,dV,cp,dx,bY,dt,tnL,tn,dU,ey,fold,eb,ea,eP,Pv.look,dv,bz,bC,Rl.k,hN,Gm.kind,Gm.name,Gm.ts,Gm.gs]
  ·have dH:=iU (ky:=872) za eN;have gQ:B=none:=by
    rw[hr]at hB;cases rest with
    |nil=>exact hB
    |cons v r=>
     have:cv[fN]? =some v:=by rw[<-List.head?_drop,<-fE];rfl
     have BF:¬v=[41]:=by rintro rfl;exact eN this
     rw[hB];split
     ·rename_i h;simp at h;exact absurd h.2.1 BF
     ·rfl
   subst gQ;clear hB;simp[Ao,dX,dW];(with_reducible repeat' first|refine aA ?_|simp);refine CallDo.obK (PI _) (a7 _ _) (by simp only[ad];exact aB) (by simp only[ad];exact aB) (by simp[au,Pv.look,ad,av,dF,kinL,kin]) Ψ ?_;rintro r ai ⟨rfl,rfl⟩;refine⟨bJ _ _ _ _,?_⟩;simp[bg,ad,av];(with_reducible repeat' first|refine aA ?_|simp);refine CallDo.ob (dH) (a7 _ _) (by simp only[ad];exact aB) (by simp only[ad];exact aB) (by simp[au,Pv.look,ad,av,dF,kinL,kin]) ?_;rintro r ai ⟨rfl,rfl⟩;refine⟨bJ _ _ _ _,?_⟩;simp[bg,ad,av];(with_reducible repeat' first|refine aA ?_|simp);refine dy.dfi (f) (hN) false Ψ (pt aL _) (by simp only[ad];exact aB) ?_;simp[a1,be,aV,cH,dV,cp,dx,bY,dt,tnL,tn,dU,ey,fold,eb,ea,eP,Pv.look,dv,bz,bC,Rl.k,hN,Gm.kind,Gm.name,Gm.ts,Gm.gs]
theorem Z3(l cv:List (List al))(hl:cv.length<=l.length)(aG:l.length<=100000)(hw:∀w∈cv,w≠[]/\w.length<=bN){i f κ:Nat}(iL:f<=cv.length)(name:List al)(ns:List (List al))(OJ:ns.length<=100000):
  ct aQ [.obj 871] Gc (dy [.cell 2 true 7,.tmp 3] (ad 871 l i) κ (tU l (pW l cv name ns.length (h4 0 (cv.drop f))) κ)) (FT l cv f name ns):=by
 have aL:f<=l.length:=Ω
 obtain⟨R,bu⟩:∃R,R=pW l cv name ns.length (h4 0 (cv.drop f)):=⟨_,rfl⟩;rw[<-bu];unfold Gc;simp[FT];(with_reducible repeat' first|refine aA ?_|simp);refine h1 (fun x:Nat×Nat=>tK l cv f name ns x.1 x.2) (fun x=>cv.length-x.2) (fun x=>x.2<=cv.length/\x.1<=x.2/\pW l cv name ns.length (h4 x.1 (cv.drop x.2))=R) (0,f) (by simp[tK];exact⟨by simp[fresh,kinL,kin,bt,au,Pv.look,dX,dW],cR (by simp[fresh,kinL,kin,bt,au,Pv.look,dX,dW]),cS (by simp[fresh,kinL,kin,cB,au,Pv.look,dX,dW]),Ψ⟩) ⟨iL,Nat.zero_le _,bu.symm⟩ ?_;clear bu;rintro⟨k,p⟩ ⟨aU,YL,bu⟩ _;simp only at aU YL bu;subst bu;have za:p<=1000000:=Ω
 rcases iX aU with rfl|fm
 ·have dH:=iU (ky:=872) (l:=cv) (i:=cv.length) (s:=[41]) za Ψ;have ke:=NL (ky:=872) cv Ω hw cv.length (cq _);rw[jN]at ke⊢;rw[show ei []=none by simp[ei,rd]]at ke;rw[show pW l cv name ns.length (h4 k [])=none by simp[h4,pW]];simp[tK,dX,dW];refine CallDo.ob (dH) (a7 _ _) (by simp only[ad];exact aB) (by simp only[ad];exact aB) (by simp[au,Pv.look,ad,av,dF,kinL,kin]) ?_;rintro r ai ⟨rfl,rfl⟩;refine⟨bJ _ _ _ _,?_⟩;simp[bg,ad,av];(with_reducible repeat' first|refine aA ?_|simp);refine CallDo.ob (ke) (a7 _ _) (by simp only[ad];exact aB) (by simp only[ad];exact aB) (by simp[au,Pv.look,ad,av,dF,kinL,kin]) ?_;rintro r ai ⟨x,q,bn,rfl,rfl⟩;refine⟨bJ _ _ _ _,?_⟩;simp[bg,ad,av];(with_reducible repeat' first|refine aA ?_|simp);refine dy.dfi (f) (hN) false Ψ (pt aL _) (by simp only[ad];exact aB) ?_;simp[a1,be,aV,cH,dV,cp,dx,bY,dt,tnL,tn,dU,ey,fold,eb,ea,eP,Pv.look,dv,bz,bC,Rl.k,hN,Gm.kind,Gm.name,Gm.ts,Gm.gs]
 obtain⟨v,aM⟩:∃v,cv[p]? =some v:=⟨_,cF fm⟩;by_cases eN:v=[41]
 ·subst eN;have dH:=nf (ky:=872) za aM;rw[fi aM,show pW l cv name ns.length (h4 k ([41]::cv.drop (p+1)))=yt l cv name k ns.length (cv.drop (p+1)) by simp[h4,pW]];have PH:=Z4 (κ:=κ) l cv hl aG hw (i:=i) (f:=f) (p:=p+1) fm aL name k Ω ns OJ;simp[tK];refine CallDo.ob (dH) (a7 _ _) (by simp only[ad];exact aB) (by simp only[ad];exact aB) (by simp[au,Pv.look,ad,av,dF,kinL,kin]) ?_;rintro r ai ⟨rfl,rfl⟩;refine⟨bJ _ _ _ _,?_⟩;simp[bg,ad,av];(with_reducible repeat' first|refine aA ?_|simp);simp[Ao]at PH;exact PH
 have dH:=iU (ky:=872) (l:=cv) (i:=p) za (show cv[p]?≠some [41] by rw[aM];simpa using eN);have ke:=NL (ky:=872) cv Ω hw p aU;rw[fi aM]at ke⊢;have D9:h4 k (v::cv.drop (p+1))=if v=63::Lib.itoa k then h4 (k+1) (cv.drop (p+1))else none:=by simp only[h4,bq eN]
 cases db:ei (v::cv.drop (p+1))with
 |none=>
  rw[db]at ke;have s7:¬v=63::Lib.itoa k:=by rintro rfl;rw[Kn Ω]at db;cases db
  rw[D9,bq s7];simp only[pW];simp[tK,dX,dW];refine CallDo.ob (dH) (a7 _ _) (by simp only[ad];exact aB) (by simp only[ad];exact aB) (by simp[au,Pv.look,ad,av,dF,kinL,kin]) ?_;rintro r ai ⟨rfl,rfl⟩;refine⟨bJ _ _ _ _,?_⟩;simp[bg,ad,av];(with_reducible repeat' first|refine aA ?_|simp);refine CallDo.ob (ke) (a7 _ _) (by simp only[ad];exact aB) (by simp only[ad];exact aB) (by simp[au,Pv.look,ad,av,dF,kinL,kin]) ?_;rintro r ai ⟨x,q,bn,rfl,rfl⟩;refine⟨bJ _ _ _ _,?_⟩;simp[bg,ad,av];(with_reducible repeat' first|refine aA ?_|simp);refine dy.dfi (f) (hN) false Ψ (pt aL _) (by simp only[ad];exact aB) ?_;simp[a1,be,aV,cH,dV,cp,dx,bY,dt,tnL,tn,dU,ey,fold,eb,ea,eP,Pv.look,dv,bz,bC,Rl.k,hN,Gm.kind,Gm.name,Gm.ts,Gm.gs]
 |some tr=>
  obtain⟨t,rest⟩:=tr;rw[db]at ke;obtain⟨q,bn⟩:∃q,q=cv.length-rest.length:=⟨_,rfl⟩;have uD:=aa5 ke bn.symm;by_cases iq:t.kind=1;rotate_left
  ·have s7:¬v=63::Lib.itoa k:=by rintro rfl;rw[Kn Ω]at db;cases db;exact iq rfl
   rw[D9,bq s7];simp only[pW];simp[tK,dX,dW];refine CallDo.ob (dH) (a7 _ _) (by simp only[ad];exact aB) (by simp only[ad];exact aB) (by simp[au,Pv.look,ad,av,dF,kinL,kin]) ?_;rintro r ai ⟨rfl,rfl⟩;refine⟨bJ _ _ _ _,?_⟩;simp[bg,ad,av];(with_reducible repeat' first|refine aA ?_|simp);refine CallDo.ob (uD) (a7 _ _) (by simp only[ad];exact aB) (by simp only[ad];exact aB) (by simp[au,Pv.look,ad,av,dF,kinL,kin]) ?_;rintro r ai ⟨rfl,rfl⟩;refine⟨bJ _ _ _ _,?_⟩;simp[bg,ad,av];have mI:(t.kind==1)=false:=by simpa using iq
   have je:(t.kind !=1)=true:=by simpa using iq
   (with_reducible repeat' first|refine aA ?_|simp[iq,mI,je]);refine dy.dfi (f) (hN) false Ψ (pt aL _) (by simp only[ad];exact aB) ?_;simp[a1,be,aV,cH,dV,cp,dx,bY,dt,tnL,tn,dU,ey,fold,eb,ea,eP,Pv.look,dv,bz,bC,Rl.k,hN,Gm.kind,Gm.name,Gm.ts,Gm.gs]
  obtain⟨aj,aJ,bs⟩:=adI db iq;by_cases fe:t.int=k;rotate_left
  ·have s7:¬v=63::Lib.itoa k:=by rintro rfl;rw[Kn Ω]at db;cases db;exact fe rfl
   rw[D9,bq s7];simp only[pW];simp[tK,dX,dW];refine CallDo.ob (dH) (a7 _ _) (by simp only[ad];exact aB) (by simp only[ad];exact aB) (by simp[au,Pv.look,ad,av,dF,kinL,kin]) ?_;rintro r ai ⟨rfl,rfl⟩;refine⟨bJ _ _ _ _,?_⟩;simp[bg,ad,av];(with_reducible repeat' first|refine aA ?_|simp);refine CallDo.ob (uD) (a7 _ _) (by simp only[ad];exact aB) (by simp only[ad];exact aB) (by simp[au,Pv.look,ad,av,dF,kinL,kin]) ?_;rintro r ai ⟨rfl,rfl⟩;refine⟨bJ _ _ _ _,?_⟩;simp[bg,ad,av];have mI:(t.int==(k:Int))=false:=by simpa using fe
   have je:(t.int !=(k:Int))=true:=by simpa using fe
   (with_reducible repeat' first|refine aA ?_|simp[iq,fe,mI,je]);refine dy.dfi (f) (hN) false Ψ (pt aL _) (by simp only[ad];exact aB) ?_;simp[a1,be,aV,cH,dV,cp,dx,bY,dt,tnL,tn,dU,ey,fold,eb,ea,eP,Pv.look,dv,bz,bC,Rl.k,hN,Gm.kind,Gm.name,Gm.ts,Gm.gs]
  rw[fe]at aj;have Ze:q=p+1:=by rw[bn,aJ];simp;omega
  subst Ze;have kQ:aY ((k:Int)+1):=by unfold aY;omega
  rw[D9,if_pos aj];simp[tK,dX,dW];refine CallDo.ob (dH) (a7 _ _) (by simp only[ad];exact aB) (by simp only[ad];exact aB) (by simp[au,Pv.look,ad,av,dF,kinL,kin]) ?_;rintro r ai ⟨rfl,rfl⟩;refine⟨bJ _ _ _ _,?_⟩;simp[bg,ad,av];(with_reducible repeat' first|refine aA ?_|simp);refine CallDo.ob (uD) (a7 _ _) (by simp only[ad];exact aB) (by simp only[ad];exact aB) (by simp[au,Pv.look,ad,av,dF,kinL,kin]) ?_;rintro r ai ⟨rfl,rfl⟩;refine⟨bJ _ _ _ _,?_⟩;simp[bg,ad,av];(with_reducible repeat' first|refine aA ?_|simp[iq,fe,kQ]);refine b9.whl (k+1,p+1) (by simp;omega) ⟨fm,by simp;omega,Ψ⟩ ?_;simp[tK,dW];exact⟨by simp[fresh,kinL,kin,bt,au,Pv.look,dX,dW],cR (by simp[fresh,kinL,kin,bt,au,Pv.look,dX,dW]),cS (by simp[fresh,kinL,kin,cB,au,Pv.look,dX,dW]),Ψ⟩
theorem Z2(l:List (List al))(aG:l.length<=100000)(hw:∀w∈l,w≠[]/\w.length<=bN){i f e κ:Nat}(aL:f<=e)(he:e<=l.length)(name:List al)(iT:List (List al))(HV:iT=(l.drop f).take (e-f))(u:List (Nat×ae))(bL:Pv.get 0 u= .ptr (.obj 871) 0)(J:Pv.get 2 u= .ptr (.loc 0) 0)(ao:Pv.get 3 u= .bool false)(aO:Pv.get 4 u= .ptr (.loc 1) 0)(bp:Pv.get 5 u= .int .i64 f)(gB:Pv.get 8 u= .int .i64 e)(e6:Pv.get 9 u= .gmap (.loc 2))(fC:Pv.get 10 u= .row 1 (.obj 873) e):
  ct aQ [.obj 871] C2 (dy [.cell 2 true 7,.tmp 3] (ad 871 l i) κ (tU l (zx l f name (num [] iT)) κ)) ⟨u,[(.loc 0,dX),(.loc 1,dW name 0),(.obj 871,[.slice 1 .no (bZ l),.int .i64 f]),(.loc 2,jj (mq []))],[(.obj 873,⟨e,9,1,some (bZ (l.take e))⟩)],3,[.obj 873,.obj 871]⟩:=by
 obtain⟨R,bu⟩:∃R,R=num [] iT:=⟨_,rfl⟩;have Bf:f<=l.length:=Ω
 have lK:iT.length=e-f:=by rw[HV];simp;omega
 have Zp:l.take e=l.take f++([]++iT.drop 0):=by rw[HV,ef,List.drop_zero];rw[show l.take e=l.take (f+(e-f)) by rw[show f+(e-f)=e by omega],List.take_add]
 rw[Zp];rw[<-bu];unfold C2;simp[bp,Pv.get_put];refine h1 (fun x:List (List al)×List (List al)=>nk l f e name (l.take f++(x.1++iT.drop x.1.length)) x.2 x.1.length) (fun x=>iT.length-x.1.length) (fun x=>Ip iT x) ([],[]) (by simp[nk];exact⟨by simp[fresh,kinL,kin,bt,au,Pv.look,dX,dW,Pv.get_put,bL,J,ao,aO,bp,gB,e6,fC],cR (by simp[fresh,kinL,kin,bt,au,Pv.look,dX,dW,Pv.get_put,bL,J,ao,aO,bp,gB,e6,fC]),cS (by simp[fresh,kinL,kin,cB,au,Pv.look,dX,dW,Pv.get_put,bL,J,ao,aO,bp,gB,e6,fC]),Ψ⟩) ⟨Ψ,Ψ,Ψ,Ψ⟩ ?_;rintro⟨d,ns⟩ aw _;simp only;have mg:=aw.le;have heq:=aw.eq;have jC:=aw.ns;simp only at mg heq jC;have DU:f+d.length<=100000:=Ω
 by_cases bS:d.length<iT.length
 ·obtain⟨w,af⟩:∃w,iT[d.length]? =some w:=⟨_,cF bS⟩;have fu:(bZ (l.take f++(d++iT.drop d.length)))[((f:Int)+d.length).toNat]? =some (.str w):=by rw[show((f:Int)+d.length).toNat=f+d.length by omega];exact acW Ω af
  have jW:(f:Int)+d.length<e:=Ω
  have oW:w∈l:=by have I:=fJ af;rw[HV]at I;exact List.mem_of_mem_drop (List.mem_of_mem_take I)
  have H9:=hw w oW;have eV:aY ((f:Int)+d.length+1):=by unfold aY;omega
  have iv:iT.drop d.length=w::iT.drop (d.length+1):=fi af;rw[iv]at heq;obtain⟨c,s,rfl⟩:∃c s,w=c::s:=List.exists_cons_of_ne_nil H9.1;by_cases aE:c=63;rotate_left
  ·have Za:∀ai,(c::s)≠63::ai:=by intro ai h;cases h;exact aE rfl
   rw[tg _ _ _ Za]at heq;have X5:((c.toNat:Int)==63)=false:=by rw[jm];intro h;apply aE;apply UInt8.toNat_inj.1;simpa using(by omega:c.toNat=63)
   have X8:((c.toNat:Int) !=63)=true:=by simp only[bne,X5];rfl
   have Bz:l.take f++(d++iT.drop d.length)=l.take f++((d++[c::s])++iT.drop (d++[c::s]).length):=by simp[iv]
   have fD:Ip iT (d++[c::s],ns):=⟨by simp;omega,by rw[heq];simp[Function.comp_def],by simp;omega,by
    intro v aM;rcases hv.1 aM with aM|aM
    ·exact aw.ok v aM
    ·rw[List.mem_singleton.1 aM];exact H9⟩
   simp[nk];(with_reducible repeat' first|refine aA ?_|simp[jW,fu,eV,X8]);refine b9.whl (d++[c::s],ns) (by simp;omega) fD ?_;rw[Bz];simp[nk,<-pc];exact⟨by simp[fresh,kinL,kin,bt,au,Pv.look,dX,dW],cR (by simp[fresh,kinL,kin,bt,au,Pv.look,dX,dW]),cS (by simp[fresh,kinL,kin,cB,au,Pv.look,dX,dW]),Ψ⟩
  subst aE;have Zh:s.length<=bN:=by have:=H9.2;simp at this;omega
  have b8:=CL s Zh;have cD:=CK s;rw[BZ]at heq;have agS:(1:Int)<=(s.length:Int)+1:=Ω
  by_cases aM:u4 s=true;rotate_left
  ·rw[bq aM]at heq;have XO:R=none:=by rw[bu,heq];rfl
   have lI:fM s=false:=by
    cases h:fM s with
    |false=>rfl
    |true=>exact absurd (by unfold u4;rw[h];rfl) aM
   rw[XO];simp only[zx];rw[lI]at cD;cases aU:fQ s with
   |none=>rw[aU]at b8;simp only[qK,oG,sC]at b8;simp[nk,dX,dW];(with_reducible repeat' first|refine aA ?_|refine a8 b8 ?_|refine ba b8 ?_|refine a8 cD ?_|refine ba cD ?_|simp[jW,fu,eV]);refine dy.dfi (f) (hN) false Ψ (pt Bf _) (by simp only[ad];exact aB) ?_;simp[a1,be,aV,cH,dV,cp,dx,bY,dt,tnL,tn,dU,ey,fold,eb,ea,eP,Pv.look,dv,bz,bC,Rl.k,hN,Gm.kind,Gm.name,Gm.ts,Gm.gs]
   |some n=>
    rw[aU]at b8;simp only[qK,oG,sC]at b8;have hr:¬(0<=n/\n<=100000):=by intro h;apply aM;unfold u4;rw[aU];simp[h]
    by_cases y7:n<0
    ·simp[nk,dX,dW];(with_reducible repeat' first|refine aA ?_|refine a8 b8 ?_|refine ba b8 ?_|refine a8 cD ?_|refine ba cD ?_|simp[jW,fu,eV,y7]);refine dy.dfi (f) (hN) false Ψ (pt Bf _) (by simp only[ad];exact aB) ?_;simp[a1,be,aV,cH,dV,cp,dx,bY,dt,tnL,tn,dU,ey,fold,eb,ea,eP,Pv.look,dv,bz,bC,Rl.k,hN,Gm.kind,Gm.name,Gm.ts,Gm.gs]
    ·have HG:100000<n:=Ω
     simp[nk,dX,dW];(with_reducible repeat' first|refine aA ?_|refine a8 b8 ?_|refine ba b8 ?_|refine a8 cD ?_|refine ba cD ?_|simp[jW,fu,eV,y7,HG]);refine dy.dfi (f) (hN) false Ψ (pt Bf _) (by simp only[ad];exact aB) ?_;simp[a1,be,aV,cH,dV,cp,dx,bY,dt,tnL,tn,dU,ey,fold,eb,ea,eP,Pv.look,dv,bz,bC,Rl.k,hN,Gm.kind,Gm.name,Gm.ts,Gm.gs]
  rw[if_pos aM]at heq;have hb:fM s=true\/fM s=false/\∃n,fQ s=some n/\0<=n/\n<=100000:=by
   cases h:fM s with
   |true=>exact .inl rfl
   |false=>
    right;unfold u4 at aM;rw[h]at aM;cases aU:fQ s with
    |none=>rw[aU]at aM;simp at aM
    |some n=>rw[aU]at aM;simp at aM;exact⟨rfl,n,rfl,aM.1,aM.2⟩
  have Ou:ns.idxOf (63::s)<=ns.length:=List.idxOf_le_length;have YE:(Lib.itoa (ns.idxOf (63::s):Nat)).length<=20:=zg (by unfold aY;omega);have dz:=adV (ns.idxOf (63::s):Nat) (by unfold aY;omega);have hT:1+(Lib.itoa (ns.idxOf (63::s):Nat)).length<=bN:=by unfold bN;omega
  have qz:(bZ (l.take f++(d++iT.drop d.length))).set ((f:Int)+d.length).toNat (.str (63::Lib.itoa (ns.idxOf (63::s):Nat)))=bZ (l.take f++((d++[63::Lib.itoa (ns.idxOf (63::s):Nat)])++iT.drop (d.length+1))):=by rw[show((f:Int)+d.length).toNat=f+d.length by omega,iv];rw[bZ,<-List.map_set,List.set_append_right _ _ (by simp;omega),List.set_append_right _ _ (by simp;omega)];simp only[pe];rw[show f+d.length-min f l.length-d.length=0 by omega];simp[bZ]
  have fD:Ip iT (d++[63::Lib.itoa (ns.idxOf (63::s):Nat)],if(63::s)∈ns then ns else ns++[63::s]):=⟨by simp;omega,by rw[heq];simp[Function.comp_def],by split<;>simp<;>omega,by
    intro v aM;rcases hv.1 aM with aM|aM
    ·exact aw.ok v aM
    ·rw[List.mem_singleton.1 aM];exact⟨Ψ,by simp;unfold bN;omega⟩⟩
  by_cases hm:(63::s)∈ns
  ·rw[if_pos hm]at fD;have xx:=fun(g:aC->aT (List ae)) (aR:g (.loc 2)=some (jj (mq ns)))=>Qi g (.loc 2) (63::s) ns aR;simp only[if_pos hm]at xx;rcases hb with lI|⟨lI,n,aU,y7,HG⟩
   ·rw[lI]at cD;unfold qK at b8;simp[nk,-uH];(with_reducible repeat' first|refine aA ?_|refine a8 b8 ?_|refine ba b8 ?_|refine a8 cD ?_|refine ba cD ?_|refine a8 dz ?_|refine ba dz ?_|simp[jW,fu,eV,xx,lI,hT,qz]);refine b9.whl (d++[63::Lib.itoa (ns.idxOf (63::s):Nat)],ns) (by simp;omega) fD ?_;simp[nk,<-pc];exact⟨by simp[fresh,kinL,kin,bt,au,Pv.look,dX,dW],cR (by simp[fresh,kinL,kin,bt,au,Pv.look,dX,dW]),cS (by simp[fresh,kinL,kin,cB,au,Pv.look,dX,dW]),Ψ⟩
   ·rw[lI]at cD;rw[aU]at b8;simp only[qK,oG,sC]at b8;have HF:¬n<0:=Ω
    have HH:¬100000<n:=Ω
    simp[nk,-uH];(with_reducible repeat' first|refine aA ?_|refine a8 b8 ?_|refine ba b8 ?_|refine a8 cD ?_|refine ba cD ?_|refine a8 dz ?_|refine ba dz ?_|simp[jW,fu,eV,xx,HF,HH,hT,qz]);refine b9.whl (d++[63::Lib.itoa (ns.idxOf (63::s):Nat)],ns) (by simp;omega) fD ?_;simp[nk,<-pc];exact⟨by simp[fresh,kinL,kin,bt,au,Pv.look,dX,dW],cR (by simp[fresh,kinL,kin,bt,au,Pv.look,dX,dW]),cS (by simp[fresh,kinL,kin,cB,au,Pv.look,dX,dW]),Ψ⟩
  ·rw[bq hm]at fD;have xx:=fun(g:aC->aT (List ae)) (aR:g (.loc 2)=some (jj (mq ns)))=>Qi g (.loc 2) (63::s) ns aR;simp only[bq hm]at xx;have YH:ns.idxOf (63::s)=ns.length:=List.idxOf_eq_length hm;have lg:=ado hm;have h2:=Qm ns;rw[YH]at dz hT qz fD YE;rcases hb with lI|⟨lI,n,aU,y7,HG⟩
   ·rw[lI]at cD;unfold qK at b8;simp[nk,-uH];(with_reducible repeat' first|refine aA ?_|refine a8 b8 ?_|refine ba b8 ?_|refine a8 cD ?_|refine ba cD ?_|refine a8 dz ?_|refine ba dz ?_|simp[jW,fu,eV,xx,lI,hT,qz,lg,h2]);refine b9.whl (d++[63::Lib.itoa (ns.length:Nat)],ns++[63::s]) (by simp;omega) fD ?_;simp[nk,<-pc];exact⟨by simp[fresh,kinL,kin,bt,au,Pv.look,dX,dW],cR (by simp[fresh,kinL,kin,bt,au,Pv.look,dX,dW]),cS (by simp[fresh,kinL,kin,cB,au,Pv.look,dX,dW]),Ψ⟩
   ·rw[lI]at cD;rw[aU]at b8;simp only[qK,oG,sC]at b8;have HF:¬n<0:=Ω
    have HH:¬100000<n:=Ω
    simp[nk,-uH];(with_reducible repeat' first|refine aA ?_|refine a8 b8 ?_|refine ba b8 ?_|refine a8 cD ?_|refine ba cD ?_|refine a8 dz ?_|refine ba dz ?_|simp[jW,fu,eV,xx,HF,HH,hT,qz,lg,h2]);refine b9.whl (d++[63::Lib.itoa (ns.length:Nat)],ns++[63::s]) (by simp;omega) fD ?_;simp[nk,<-pc];exact⟨by simp[fresh,kinL,kin,bt,au,Pv.look,dX,dW],cR (by simp[fresh,kinL,kin,bt,au,Pv.look,dX,dW]),cS (by simp[fresh,kinL,kin,cB,au,Pv.look,dX,dW]),Ψ⟩
 ·have Yh:d.length=iT.length:=Ω
  have il:¬((f:Int)+d.length<e):=Ω
  rw[Yh,jN]at heq;have XP:R=some (d,ns):=by rw[bu,heq];simp[num]
  rw[XP];simp only[zx];have nq:iT.drop d.length=[]:=List.drop_eq_nil_of_le Ω;have Yt:(l.take f).length=f:=by rw[pe];omega
  have YP:(l.take f++d).length=e:=by rw[j2,Yt];omega
  have Yl:(l.take f++d).drop f=d:=by rw[List.drop_append_of_le_length Ω];rw[List.drop_eq_nil_of_le Ω];rfl
  have jH:=Z3 (κ:=κ) l (l.take f++d) Ω aG (fun w oh=>by
   rcases hv.1 oh with h|h
   ·exact hw w (List.mem_of_mem_take h)
   ·exact aw.ok w h) (i:=i) (f:=f) Ω name ns Ω
  rw[Yl]at jH;rw[nq,List.append_nil];simp[nk];(with_reducible repeat' first|refine aA ?_|simp[il]);simp only[FT,YP]at jH;rw[show(f:Int)+d.length=e by omega];exact jH
theorem Z9(l:List (List al))(aG:l.length<=100000)(hw:∀w∈l,w≠[]/\w.length<=bN){i:Nat}(az:i<=l.length):Tj l i (n2 (l.drop i)):=by
 intro κ;have Ot:i<=1000000:=Ω
 by_cases bL:l[i]? =some [40];rotate_left
 ·rw[Dc (by rw[k2];intro h;exact bL h.1)];have eU:=iU (ky:=871) Ot bL;have aq:=a7 (ky:=871) l i;simp only[ad]at aq;refine FnK.mk mixed yd AT B1 Ψ aq.obj rfl fun aN b3=>?_;unfold yw;clear aN b3;simp[ad,av];refine CallDo.ob (eU) (a7 _ _) (by simp only[ad];exact aB) (by simp only[ad];exact aB) (by simp[au,Pv.look,ad,av,dF,kinL,kin]) ?_;rintro r ai ⟨rfl,rfl⟩;refine⟨bJ _ _ _ _,?_⟩;simp[bg,ad,av];(with_reducible repeat' first|refine aA ?_|simp);refine dy.dfi (i) (hN) false Ψ (pt az _) (by simp only[ad];exact aB) ?_;simp[a1,be,aV,cH,dV,cp,dx,bY,dt,tnL,tn,dU,ey,fold,eb,ea,eP,Pv.look,dv,bz,bC,Rl.k,hN,Gm.kind,Gm.name,Gm.ts,Gm.gs]
 have eU:=nf (ky:=871) Ot bL;have mL:=(e3.1 bL).1;by_cases I:l[i+1]? =some iD;rotate_left
 ·rw[Dc (by rw[k2,k2];intro h;exact I h.2.1)];have cI:=iU (ky:=871) (i:=i+1) Ω I;rw[show iD=[100,101,102,105,110,101]from rfl]at cI;have aq:=a7 (ky:=871) l i;simp only[ad]at aq;refine FnK.mk mixed yd AT B1 Ψ aq.obj rfl fun aN b3=>?_;unfold yw;clear aN b3;simp[ad,av];refine CallDo.ob (eU) (a7 _ _) (by simp only[ad];exact aB) (by simp only[ad];exact aB) (by simp[au,Pv.look,ad,av,dF,kinL,kin]) ?_;rintro r ai ⟨rfl,rfl⟩;refine⟨bJ _ _ _ _,?_⟩;simp[bg,ad,av];(with_reducible repeat' first|refine aA ?_|simp);refine CallDo.ob (cI) (a7 _ _) (by simp only[ad];exact aB) (by simp only[ad];exact aB) (by simp[au,Pv.look,ad,av,dF,kinL,kin]) ?_;rintro r ai ⟨rfl,rfl⟩;refine⟨bJ _ _ _ _,?_⟩;simp[bg,ad,av];(with_reducible repeat' first|refine aA ?_|simp);refine dy.dfi (i+1) (hN) false Ψ (pt Ω _) (by simp only[ad];exact aB) ?_;simp[a1,be,aV,cH,dV,cp,dx,bY,dt,tnL,tn,dU,ey,fold,eb,ea,eP,Pv.look,dv,bz,bC,Rl.k,hN,Gm.kind,Gm.name,Gm.ts,Gm.gs]
 have cI:=nf (ky:=871) (i:=i+1) Ω I;rw[show iD=[100,101,102,105,110,101]from rfl]at cI;have y5:=(e3.1 I).1;by_cases J:l[i+2]? =some [40];rotate_left
 ·rw[Dc (by rw[k2,k2,k2];intro h;exact J h.2.2.1)];have dr:=iU (ky:=871) (i:=i+1+1) Ω J;have aq:=a7 (ky:=871) l i;simp only[ad]at aq;refine FnK.mk mixed yd AT B1 Ψ aq.obj rfl fun aN b3=>?_;unfold yw;clear aN b3;simp[ad,av];refine CallDo.ob (eU) (a7 _ _) (by simp only[ad];exact aB) (by simp only[ad];exact aB) (by simp[au,Pv.look,ad,av,dF,kinL,kin]) ?_;rintro r ai ⟨rfl,rfl⟩;refine⟨bJ _ _ _ _,?_⟩;simp[bg,ad,av];(with_reducible repeat' first|refine aA ?_|simp);refine CallDo.ob (cI) (a7 _ _) (by simp only[ad];exact aB) (by simp only[ad];exact aB) (by simp[au,Pv.look,ad,av,dF,kinL,kin]) ?_;rintro r ai ⟨rfl,rfl⟩;refine⟨bJ _ _ _ _,?_⟩;simp[bg,ad,av];(with_reducible repeat' first|refine aA ?_|simp);refine CallDo.ob (dr) (a7 _ _) (by simp only[ad];exact aB) (by simp only[ad];exact aB) (by simp[au,Pv.look,ad,av,dF,kinL,kin]) ?_;rintro r ai ⟨rfl,rfl⟩;refine⟨bJ _ _ _ _,?_⟩;simp[bg,ad,av];(with_reducible repeat' first|refine aA ?_|simp);refine dy.dfi (i+1+1) (hN) false Ψ (pt Ω _) (by simp only[ad];exact aB) ?_;simp[a1,be,aV,cH,dV,cp,dx,bY,dt,tnL,tn,dU,ey,fold,eb,ea,eP,Pv.look,dv,bz,bC,Rl.k,hN,Gm.kind,Gm.name,Gm.ts,Gm.gs]
 have dr:=nf (ky:=871) (i:=i+1+1) Ω J;have agO:=(e3.1 J).1;by_cases ao:i+3=l.length
 ·rw[Dc (by rw[k2,k2,k2,k2];intro h;exact h.2.2.2 (List.getElem?_eq_none Ω))];have gM:=AP (ky:=871) l;rw[show l.length=i+1+1+1 by omega]at gM;have hle:i+1+1+1<=l.length:=Ω
  clear ao;have aq:=a7 (ky:=871) l i;simp only[ad]at aq;refine FnK.mk mixed yd AT B1 Ψ aq.obj rfl fun aN b3=>?_;unfold yw;clear aN b3;simp[ad,av];refine CallDo.ob (eU) (a7 _ _) (by simp only[ad];exact aB) (by simp only[ad];exact aB) (by simp[au,Pv.look,ad,av,dF,kinL,kin]) ?_;rintro r ai ⟨rfl,rfl⟩;refine⟨bJ _ _ _ _,?_⟩;simp[bg,ad,av];(with_reducible repeat' first|refine aA ?_|simp);refine CallDo.ob (cI) (a7 _ _) (by simp only[ad];exact aB) (by simp only[ad];exact aB) (by simp[au,Pv.look,ad,av,dF,kinL,kin]) ?_;rintro r ai ⟨rfl,rfl⟩;refine⟨bJ _ _ _ _,?_⟩;simp[bg,ad,av];(with_reducible repeat' first|refine aA ?_|simp);refine CallDo.ob (dr) (a7 _ _) (by simp only[ad];exact aB) (by simp only[ad];exact aB) (by simp[au,Pv.look,ad,av,dF,kinL,kin]) ?_;rintro r ai ⟨rfl,rfl⟩;refine⟨bJ _ _ _ _,?_⟩;simp[bg,ad,av];(with_reducible repeat' first|refine aA ?_|simp);refine CallDo.ob (gM) (a7 _ _) (by simp only[ad];exact aB) (by simp only[ad];exact aB) (by simp[au,Pv.look,ad,av,dF,kinL,kin]) ?_;rintro r ai ⟨rfl,rfl⟩;refine⟨bJ _ _ _ _,?_⟩;simp[bg,ad,av];(with_reducible repeat' first|refine aA ?_|simp);refine dy.dfi (i+1+1+1) (hN) false Ψ (pt hle _) (by simp only[ad];exact aB) ?_;simp[a1,be,aV,cH,dV,cp,dx,bY,dt,tnL,tn,dU,ey,fold,eb,ea,eP,Pv.look,dv,bz,bC,Rl.k,hN,Gm.kind,Gm.name,Gm.ts,Gm.gs]
 have gM:b7 aQ 83 [av 871] (ad 871 l (i+1+1+1)) fun r ai=>r= .bool false/\ai=ad 871 l (i+1+1+1):=kI Ω;obtain⟨name,aK⟩:∃w,l[i+3]? =some w:=⟨_,cF Ω⟩;have jF:=DH (ky:=871) l (i+1+1+1);rw[show l[i+1+1+1]? =some name from aK]at jF;simp only[oG]at jF;have eV:aY ((i:Int)+1+1+1+1):=by unfold aY;omega
 obtain⟨cN,jS⟩:∃c,c=jz 0 (l.drop (i+4)):=⟨_,rfl⟩;have X2:=Gx 0 (l.drop (i+4));rw[hg,<-jS]at X2;obtain⟨c2,kL⟩:∃c,c=jz 0 (l.drop (i+4+cN)):=⟨_,rfl⟩;have X3:=Gx 0 (l.drop (i+4+cN));rw[hg,<-kL]at X3;have cm:i+4+cN+c2=i+4+l8 (l.drop (i+4)):=by unfold l8;rw[<-jS,List.drop_drop,<-kL];omega
 rw[<-aaZ bL I J aK cm Ω];have key:=fun my t0 t2 t3 t4 t5 t6=>UH l aG (i:=i) (f:=i+4) Ω name (Q:=dy [.cell 2 true 7,.tmp 3] (ad 871 l i) κ (tU l (zx l (i+4) name (num [] ((l.drop (i+4)).take (i+4+cN+c2-(i+4))))) κ)) my t0 t2 t3 t4 t5 t6 (fun t t0 t2 t3 t4 t5 t7=>by refine UI l aG (f:=i+4) (t:=i+4+cN) Ω Ω name t t0 t2 t3 t4 t5 (by rw[t7,jS]) (fun u k1 hX ye adN adO u8 adP SD=>?_);rw[<-kL]at u8 SD⊢;exact Z2 (κ:=κ) l aG hw (i:=i) (f:=i+4) (e:=i+4+cN+c2) Ω Ω name _ rfl u k1 hX ye adN adO u8 adP SD)
 have aq:=a7 (ky:=871) l i;simp only[ad]at aq;refine FnK.mk mixed yd AT B1 Ψ aq.obj rfl fun aN b3=>?_;unfold yw;clear aN b3;simp[ad,av];refine CallDo.ob (eU) (a7 _ _) (by simp only[ad];exact aB) (by simp only[ad];exact aB) (by simp[au,Pv.look,ad,av,dF,kinL,kin]) ?_;rintro r ai ⟨rfl,rfl⟩;refine⟨bJ _ _ _ _,?_⟩;simp[bg,ad,av];(with_reducible repeat' first|refine aA ?_|simp);refine CallDo.ob (cI) (a7 _ _) (by simp only[ad];exact aB) (by simp only[ad];exact aB) (by simp[au,Pv.look,ad,av,dF,kinL,kin]) ?_;rintro r ai ⟨rfl,rfl⟩;refine⟨bJ _ _ _ _,?_⟩;simp[bg,ad,av];(with_reducible repeat' first|refine aA ?_|simp);refine CallDo.ob (dr) (a7 _ _) (by simp only[ad];exact aB) (by simp only[ad];exact aB) (by simp[au,Pv.look,ad,av,dF,kinL,kin]) ?_;rintro r ai ⟨rfl,rfl⟩;refine⟨bJ _ _ _ _,?_⟩;simp[bg,ad,av];(with_reducible repeat' first|refine aA ?_|simp);refine CallDo.ob (gM) (a7 _ _) (by simp only[ad];exact aB) (by simp only[ad];exact aB) (by simp[au,Pv.look,ad,av,dF,kinL,kin]) ?_;rintro r ai ⟨rfl,rfl⟩;refine⟨bJ _ _ _ _,?_⟩;simp[bg,ad,av];(with_reducible repeat' first|refine aA ?_|simp);refine CallDo.ob (jF) (a7 _ _) (by simp only[ad];exact aB) (by simp only[ad];exact aB) (by simp[au,Pv.look,ad,av,dF,kinL,kin]) ?_;rintro r ai ⟨rfl,rfl⟩;refine⟨bJ _ _ _ _,?_⟩;simp[bg,ad,av];(with_reducible repeat' first|refine aA ?_|simp[eV]);simp[dX,dW,pc]at key;simp[dX,dW,pc];refine key _ ?_ ?_ ?_ ?_ ?_ ?_<;>simp[pc]
theorem aaX(P:List Rl):(P.map Rl.name).Nodup↔∀(i:Nat) (r:Rl),P[i]? =some r->nc P r.name=(i:Nat):=by
 constructor
 ·intro h i r hr;refine JG hr rfl fun j q aw bn b4=>?_;obtain⟨bB,a2⟩:=e3.1 (show(P.map Rl.name)[j]? =some q.name by rw[List.getElem?_map,bn];rfl);obtain⟨cb,cn⟩:=e3.1 (show(P.map Rl.name)[i]? =some r.name by rw[List.getElem?_map,hr];rfl);exact(List.pairwise_iff_getElem.1 h) j i bB cb aw (a2.trans (b4.trans cn.symm))
 ·intro h;refine List.pairwise_iff_getElem.2 fun i j az aw agQ he=>?_;simp only[List.length_map]at az aw;simp only[List.getElem_map]at he;have I:=h i _ (cF az);have J:=h j _ (cF aw);rw[he,J]at I;omega
def sF(P:List Rl)(i:Nat)(r:Rl):Prop:=nc P r.name=(i:Nat)/\gL r.name=true/\(0<=r.ar/\r.ar<=4)/\(0<=r.loc/\r.loc<=8)/\(r.body.fits 80&&r.body.cf P&&qW r.body (r.ar+r.loc))=true/\(if r.body.fits 80 then(r.body.sz:Int)else 0)<=60
theorem Qy(P:List Rl):mr P=true↔P.length<=8/\∀(i:Nat) (r:Rl),P[i]? =some r->sF P i r:=by
 unfold mr;rw[bM,bM,fK,fK,aaX,jy];have key:∀r:Rl,Rl.ok P r=true↔gL r.name=true/\(0<=r.ar/\r.ar<=4)/\(0<=r.loc/\r.loc<=8)/\(r.body.fits 80&&r.body.cf P&&qW r.body (r.ar+r.loc))=true/\(if r.body.fits 80 then(r.body.sz:Int)else 0)<=60:=by
  intro r;have aM:=SZ r.body (r.ar+r.loc);unfold Rl.ok;simp only[bM,fK,jy,aM];unfold FJ Gm.fits;simp only[bM,fK];constructor
  ·rintro⟨⟨⟨⟨⟨a,b⟩,c⟩,d1,d2⟩,e⟩,f⟩;refine⟨a,b,c,⟨⟨⟨d1,Ω⟩,f⟩,e⟩,?_⟩;split<;>omega
  ·rintro⟨a,b,c,⟨⟨⟨d1,d2⟩,f⟩,e⟩,g⟩;rw[if_pos ⟨d1,d2⟩]at g;exact⟨⟨⟨⟨⟨a,b⟩,c⟩,d1,Ω⟩,e⟩,f⟩
 constructor
 ·rintro⟨⟨I,J⟩,ao⟩;exact⟨I,fun i r hr=>⟨J i r hr,(key r).1 (ao r (fJ hr))⟩⟩
 ·rintro⟨I,J⟩;refine⟨⟨I,fun i r hr=>(J i r hr).1⟩,fun r hr=>?_⟩;obtain⟨i,az⟩:=List.getElem?_of_mem hr;exact(key r).2 (J i r az).2
def q8(P:List Rl)(i:Nat)(_:Unit):aS:=⟨[(1,.ptr (.loc 0) 0),(10,.slice 7 .no (P.map Rl.e)),(11,.int .i64 P.length),(12,.int .i64 i)],[(.loc 0,[.slice 7 .no (P.map Rl.e)])],[],1,[]⟩
set_option maxRecDepth 8000 in
theorem aet(P:List Rl):b6 aQ 109 [ie P] (.bool (mr P)):=by
 have od:=Qy P;generalize mr P=R at od;by_cases gB:P.length<=8;rotate_left
 ·have:R=false:=by
   cases R with
   |false=>rfl
   |true=>exact absurd (od.1 rfl).1 gB
  subst this;have A4:(8:Int)<P.length:=Ω
  refine bQ k0 Nh QP fun aN=>?_;unfold Gq;clear aN;exact cw
 have A4:¬(8:Int)<P.length:=Ω
 refine bQ k0 Nh QP fun aN=>?_;unfold Gq;clear aN;simp;(with_reducible repeat' first|refine aA ?_|simp[A4]);refine gu (q8 P) P.length (fun i _=> ∀(k:Nat) (r:Rl),k<i->P[k]? =some r->sF P k r) () (by simp[q8];exact dw) (fun k b aa=>Ω) (fun _ aw _=>?_) (fun i _ az aw _=>?_)
 ·have:R=true:=od.2 ⟨gB,fun i r hr=>aw i r (e3.1 hr).1 hr⟩;subst this;clear aw od;simp[q8];exact cw
 obtain⟨r,hr⟩:∃e,P[i]? =some e:=⟨_,cF az⟩;have iu:∀h,(P[i]'h)=r:=fun h=>by rw[cF az]at hr;exact gq hr
 have b1:aY ((i:Int)+1):=by unfold aY;omega
 have dz:=SQ P r.name;have cD:=SV r.name;have fp:=eB r.ar 0 4;have BP:=eB r.loc 0 8;have cx:=aej P r.body (r.ar+r.loc);have lN:=aer r.body;by_cases cm:sF P i r
 ·have jB:∀(k:Nat) (q:Rl),k<i+1->P[k]? =some q->sF P k q:=fun k q aa bn=>by
   rcases ly k i with h|h
   ·exact aw k q h bn
   ·obtain rfl:k=i:=Ω
    rw[hr]at bn;cases bn;exact cm
  obtain⟨aj,aJ,bs,ch,fa,dd⟩:=cm;rw[aj]at dz;rw[aJ]at cD;rw[fa]at cx;rw[nM bs]at fp;rw[nM ch]at BP;have de:¬60<(if r.body.fits 80 then(r.body.sz:Int)else 0):=Ω
  generalize (if r.body.fits 80 then(r.body.sz:Int)else 0)=z at lN de;have eV:aY (r.ar+r.loc):=by unfold aY;omega
  clear aw od aj aJ fa dd;simp[q8,az,iu];(with_reducible repeat' first|refine aA ?_|refine a8 dz ?_|refine ba dz ?_|refine a8 cD ?_|refine ba cD ?_|refine a8 fp ?_|refine ba fp ?_|refine a8 BP ?_|refine ba BP ?_|refine a8 cx ?_|refine ba cx ?_|refine a8 lN ?_|refine ba lN ?_|simp[az,iu,b1,eV,de]);exact b9.rng () az jB (by simp[q8];exact dw)
 ·have:R=false:=by
   cases R with
   |false=>rfl
   |true=>exact absurd ((od.1 rfl).2 i r hr) cm
  subst this;unfold sF at cm;clear aw od;generalize nc P r.name=m at dz cm;generalize gL r.name=sd at cD cm;generalize (r.body.fits 80&&r.body.cf P&&qW r.body (r.ar+r.loc))=ca at cx cm;generalize (if r.body.fits 80 then(r.body.sz:Int)else 0)=z at lN cm;by_cases cN:m=i;rotate_left
  ·have ah:(m !=(i:Int))=true:=by simpa using cN
   simp[q8,az,iu];exact cw
  subst cN;cases sd
  ·simp[q8,az,iu];exact cw
  by_cases c3:0<=r.ar/\r.ar<=4;rotate_left
  ·rw[decide_eq_false c3]at fp;simp[q8,az,iu];exact cw
  rw[nM c3]at fp;by_cases c4:0<=r.loc/\r.loc<=8;rotate_left
  ·rw[decide_eq_false c4]at BP;simp[q8,az,iu];exact cw
  rw[nM c4]at BP;have eV:aY (r.ar+r.loc):=by unfold aY;omega
  cases ca
  ·simp[q8,az,iu];exact cw
  have de:60<z:=by have:¬z<=60:=fun h=>cm ⟨rfl,rfl,c3,c4,rfl,h⟩;omega
  simp[q8,az,iu];exact cw
def pU(o:aT (List (List al)×List (List al))):ae:=match o with
 |some (a,ms)=>.tuple [.slice 1 .no (bZ a),.int .i64 ms.length,.bool true]
 |none=>.tuple [.slice 1 .no [],.int .i64 0,.bool false]
def jR(ns out:List (List al)):List (aC×cV):=[(.loc 0,⟨ns.length,9,1,none⟩),(.loc 1,⟨out.length,9,1,none⟩)]
def po(l:List (List al))(i:Nat)(x:List (List al)×List (List al)):aS:=⟨[(5,.slice 1 (.own (.loc 0)) (bZ x.1)),(6,.slice 1 (.own (.loc 1)) (bZ x.2)),(14,.slice 1 .no (bZ l)),(15,.int .i64 l.length),(16,.int .i64 i)],[],jR x.1 x.2,2,[]⟩
def qh(l:List (List al))(i:Nat)(ns out:List (List al))(w:List al)(k:Nat):aS:=⟨[(5,.slice 1 (.own (.loc 0)) (bZ ns)),(6,.slice 1 (.own (.loc 1)) (bZ out)),(8,.str w),(11,.int .i64 k),(14,.slice 1 .no (bZ l)),(15,.int .i64 l.length),(16,.int .i64 i)],[],jR ns out,2,[]⟩
theorem Ig{α:Type}[BEq α][LawfulBEq α]{w:α}:∀{ns:List α} {k:Nat},ns[k]? =some w->(∀m,m<k->ns[m]?≠some w)->ns.idxOf w=k
 |x::ns,0,h,_=>by simp at h;subst h;simp
 |x::ns,k+1,h,aK=>by
  have bL:=aK 0 Ω;simp at bL;have ah:(x==w)=false:=by simpa using bL
  have az:=Ig (ns:=ns) (k:=k) (by simpa using h) fun m hm=>by simpa using aK (m+1) Ω
  rw[List.idxOf_cons,ah,az];rfl
 |[],k,h,_=>by simp at h
theorem O6{α:Type}[BEq α][LawfulBEq α]{w:α}:∀{ns:List α},(∀m,m<ns.length->ns[m]?≠some w)->w∉ns/\ns.idxOf w=ns.length:=by
 intro ns h;have:w∉ns:=fun hm=>by obtain⟨k,aa⟩:=List.getElem?_of_mem hm;exact h k (e3.1 aa).1 aa
 exact⟨this,List.idxOf_eq_length this⟩
set_option maxRecDepth 8000 in
theorem ael(l:List (List al))(aG:l.length<=100000)(hw:∀w∈l,w≠[]):b6 aQ 173 [.slice 1 .no (bZ l)] (pU (num [] l)):=by
 obtain⟨R,bu⟩:∃R,R=pU (num [] l):=⟨_,rfl⟩;rw[<-bu];have pG:kin (fun _=>cZ) R:=by rw[bu];unfold pU;split<;>simp[kin,kinL]
 refine bQ k0 WL abN (fun aN=>?_) (hr:=pG);unfold Md;clear aN;simp;(with_reducible repeat' first|refine aA ?_|simp);refine gu (po l) l.length (fun i x=>pU ((num x.1 (l.drop i)).map fun y=>(x.2++y.1,y.2))=R/\x.1.length<=i/\x.2.length<=i) ([],[]) (by simp[po,jR,z1];exact⟨by simp[fresh,kinL,kin,bt,au,Pv.look,dT],cR (by simp[fresh,kinL,kin,bt,au,Pv.look,dT]),cS (by simp[fresh,kinL,kin,cB,au,Pv.look,dT]),Ψ⟩) ⟨by rw[bu];simp,Ψ,Ψ⟩ (fun x aw _=>?_) (fun i x az aw _=>?_)
 ·obtain⟨ns,out⟩:=x;obtain⟨aw,_,_⟩:=aw;simp only[jN,num,kF,pU,List.append_nil]at aw;subst aw;clear bu;simp[po,jR];exact cw
 obtain⟨ns,out⟩:=x;obtain⟨aw,lI,oU⟩:=aw;simp only at aw lI oU;obtain⟨w,af⟩:∃v,l[i]? =some v:=⟨_,cF az⟩;have eQ:∀de,((bZ l)[i]'de)= .str w:=fun de=>by rw[mx az];rw[cF az]at af;rw[gq af]
 have oW:=hw w (fJ af);have b1:aY ((i:Int)+1):=by unfold aY;omega
 have s0:out.length+1<=bN:=by unfold bN;omega
 have jC:ns.length+1<=bN:=by unfold bN;omega
 rw[fi af]at aw;clear bu;rcases El w with⟨s,rfl⟩|aM;rotate_left
 ·rw[tg _ _ _ aM,Option.map_map]at aw;have fD:pU ((num ns (l.drop (i+1))).map fun y=>((out++[w])++y.1,y.2))=R:=by rw[<-aw];congr 2;funext y;simp
  obtain⟨c,r,rfl⟩:∃c r,w=c::r:=by
   cases w with
   |nil=>exact absurd rfl oW
   |cons c r=>exact⟨c,r,rfl⟩
  have ah:((c.toNat:Int) !=63)=true:=wL (d:=63) fun h=>aM r (by rw[h]);have xC:(0:Int)<(r.length:Int)+1:=Ω
  clear aw aM;simp[po,jR,az];(with_reducible repeat' first|refine aA ?_|simp[az,eQ,af,ah,xC,s0,b1]);refine b9.rng (ns,out++[c::r]) az ⟨fD,by simp;omega,by simp;omega⟩ (by simp[po,jR,Cy,Cz,z1];exact⟨by simp[fresh,kinL,kin,bt,au,Pv.look,cX,dT],cR (by simp[fresh,kinL,kin,bt,au,Pv.look,cX,dT]),cS (by simp[fresh,kinL,kin,cB,au,Pv.look,cX,dT]),Ψ⟩)
 ·rw[BZ]at aw;have b8:=Kz s;have cD:=gX s;have xC:(0:Int)<(s.length:Int)+1:=Ω
  have vR:(1:Int)<=(s.length:Int)+1:=Ω
  unfold zC at b8;by_cases qB:u4 s=true;rotate_left
  ·rw[bq qB]at aw;simp only[tG,pU]at aw;subst aw;unfold u4 at qB;rw[Bool.or_eq_true,not_or]at qB;obtain⟨I,J⟩:=qB;rw[Bool.not_eq_true]at I;rw[I]at cD;cases aU:fQ s with
   |none=>rw[aU]at b8;simp only[Option.getD_none,sD]at b8;clear J;simp[po,jR,az];exact cw
   |some n=>rw[aU]at b8 J;simp only[pf,Option.isSome_some,fK]at b8 J;have eG:=eB n 0 100000;rw[decide_eq_false J]at eG;clear J;simp[po,jR,az];exact cw
  rw[if_pos qB]at aw;rw[Option.map_map]at aw;cases ft:fM s
  ·rw[ft]at cD;obtain⟨n,OQ,OI⟩:∃n,fQ s=some n/\(0<=n/\n<=100000):=by
    unfold u4 at qB;rw[ft,Bool.false_or]at qB;split at qB
    ·rename_i n h;exact⟨n,h,by simpa using qB⟩
    ·cases qB
   rw[OQ]at b8;simp only[pf,Option.isSome_some]at b8;have eG:=eB n 0 100000;rw[nM OI]at eG;clear qB OQ OI;simp[po,jR,az];(with_reducible repeat' first|refine aA ?_|refine a8 b8 ?_|refine ba b8 ?_|refine a8 cD ?_|refine ba cD ?_|refine a8 eG ?_|refine ba eG ?_|simp[az,eQ,af,xC,vR]);refine h1 (qh l i ns out (63::s)) (fun k=>ns.length-k) (fun k=>k<=ns.length/\∀m,m<k->ns[m]?≠some (63::s)) 0 (by simp[qh,jR];exact⟨by simp[fresh,kinL,kin,bt,au,Pv.look,dT],cR (by simp[fresh,kinL,kin,bt,au,Pv.look,dT]),cS (by simp[fresh,kinL,kin,cB,au,Pv.look,dT]),Ψ⟩) ⟨Ω,fun m h=>Ω⟩ ?_;rintro k ⟨aa,j7⟩ _;rcases iX aa with rfl|fP
   ·obtain⟨I,J⟩:=O6 j7;rw[bq I,J]at aw;have eV:aY (ns.length:Int):=by unfold aY;omega
    have dz:=yf (ns.length:Int) eV;have gZ:(Lib.itoa (ns.length:Int)).length+1<=bN:=by have:=zg eV;unfold bN;omega
    have xu:1+(Lib.itoa (ns.length:Int)).length<=bN:=Ω
    have fD:pU ((num (ns++[63::s]) (l.drop (i+1))).map fun y=>((out++[63::Lib.itoa (ns.length:Int)])++y.1,y.2))=R:=by rw[<-aw];congr 2;funext y;simp
    clear aw j7 I J;simp[qh,jR];(with_reducible repeat' first|refine aA ?_|refine a8 dz ?_|refine ba dz ?_|simp[gZ,xu,s0,jC,b1]);refine b9.rng (ns++[63::s],out++[63::Lib.itoa (ns.length:Int)]) az ⟨fD,by simp;omega,by simp;omega⟩ (by simp[po,jR,Cy,Cz,z1];exact⟨by simp[fresh,kinL,kin,bt,au,Pv.look,cX,dT],cR (by simp[fresh,kinL,kin,bt,au,Pv.look,cX,dT]),cS (by simp[fresh,kinL,kin,cB,au,Pv.look,cX,dT]),Ψ⟩)
   ·obtain⟨u,hu⟩:∃v,ns[k]? =some v:=⟨_,cF fP⟩;have lh:∀de,((bZ ns)[k]'de)= .str u:=fun de=>by rw[mx fP];rw[cF fP]at hu;rw[gq hu]
    have ir:(k:Int)<ns.length:=Ω
    have kQ:aY ((k:Int)+1):=by unfold aY;omega
    by_cases he:u=63::s
    ·subst he;have J:=Ig hu j7;rw[if_pos (fJ hu),J]at aw;have eV:aY (k:Int):=by unfold aY;omega
     have dz:=yf (k:Int) eV;have gZ:(Lib.itoa (k:Int)).length+1<=bN:=by have:=zg eV;unfold bN;omega
     have xu:1+(Lib.itoa (k:Int)).length<=bN:=Ω
     have b4:((k:Int)==ns.length)=false:=jm.2 Ω;have fD:pU ((num ns (l.drop (i+1))).map fun y=>((out++[63::Lib.itoa (k:Int)])++y.1,y.2))=R:=by rw[<-aw];congr 2;funext y;simp
     clear aw j7 J;simp[qh,jR];(with_reducible repeat' first|refine aA ?_|refine a8 dz ?_|refine ba dz ?_|simp[fP,ir,lh,hu,b4,gZ,xu,s0,b1]);refine b9.rng (ns,out++[63::Lib.itoa (k:Int)]) az ⟨fD,by simp;omega,by simp;omega⟩ (by simp[po,jR,Cy,Cz,z1];exact⟨by simp[fresh,kinL,kin,bt,au,Pv.look,cX,dT],cR (by simp[fresh,kinL,kin,bt,au,Pv.look,cX,dT]),cS (by simp[fresh,kinL,kin,cB,au,Pv.look,cX,dT]),Ψ⟩)
    ·have ah:=qH he;have Hz:∀m,m<k+1->ns[m]?≠some (63::s):=fun m hm=>by
      rcases ly m k with h|h
      ·exact j7 m h
      ·obtain rfl:m=k:=Ω
       rw[hu];simpa using he
     clear aw j7;simp[qh,jR];((with_reducible repeat' first|refine aA ?_|simp[fP,ir,lh,hu,ah,kQ]|((first|apply dG|apply dJ|apply dI)<;>intro h<;>try simp at h))<;>(try exact ev));refine b9.whl (k+1) Ω ⟨fP,Hz⟩ (by simp[qh,jR];exact⟨by simp[fresh,kinL,kin,bt,au,Pv.look,dT],cR (by simp[fresh,kinL,kin,bt,au,Pv.look,dT]),cS (by simp[fresh,kinL,kin,cB,au,Pv.look,dT]),Ψ⟩)
  ·rw[ft]at cD;generalize (fQ s).getD 0=bR at b8;generalize (fQ s).isSome=cA at b8;clear qB;simp[po,jR,az];(with_reducible repeat' first|refine aA ?_|refine a8 b8 ?_|refine ba b8 ?_|refine a8 cD ?_|refine ba cD ?_|simp[az,eQ,af,xC,vR]);refine h1 (qh l i ns out (63::s)) (fun k=>ns.length-k) (fun k=>k<=ns.length/\∀m,m<k->ns[m]?≠some (63::s)) 0 (by simp[qh,jR];exact⟨by simp[fresh,kinL,kin,bt,au,Pv.look,dT],cR (by simp[fresh,kinL,kin,bt,au,Pv.look,dT]),cS (by simp[fresh,kinL,kin,cB,au,Pv.look,dT]),Ψ⟩) ⟨Ω,fun m h=>Ω⟩ ?_;rintro k ⟨aa,j7⟩ _;rcases iX aa with rfl|fP
   ·obtain⟨I,J⟩:=O6 j7;rw[bq I,J]at aw;have eV:aY (ns.length:Int):=by unfold aY;omega
    have dz:=yf (ns.length:Int) eV;have gZ:(Lib.itoa (ns.length:Int)).length+1<=bN:=by have:=zg eV;unfold bN;omega
    have xu:1+(Lib.itoa (ns.length:Int)).length<=bN:=Ω
    have fD:pU ((num (ns++[63::s]) (l.drop (i+1))).map fun y=>((out++[63::Lib.itoa (ns.length:Int)])++y.1,y.2))=R:=by rw[<-aw];congr 2;funext y;simp
    clear aw j7 I J;simp[qh,jR];(with_reducible repeat' first|refine aA ?_|refine a8 dz ?_|refine ba dz ?_|simp[gZ,xu,s0,jC,b1]);refine b9.rng (ns++[63::s],out++[63::Lib.itoa (ns.length:Int)]) az ⟨fD,by simp;omega,by simp;omega⟩ (by simp[po,jR,Cy,Cz,z1];exact⟨by simp[fresh,kinL,kin,bt,au,Pv.look,cX,dT],cR (by simp[fresh,kinL,kin,bt,au,Pv.look,cX,dT]),cS (by simp[fresh,kinL,kin,cB,au,Pv.look,cX,dT]),Ψ⟩)
   ·obtain⟨u,hu⟩:∃v,ns[k]? =some v:=⟨_,cF fP⟩;have lh:∀de,((bZ ns)[k]'de)= .str u:=fun de=>by rw[mx fP];rw[cF fP]at hu;rw[gq hu]
    have ir:(k:Int)<ns.length:=Ω
    have kQ:aY ((k:Int)+1):=by unfold aY;omega
    by_cases he:u=63::s
    ·subst he;have J:=Ig hu j7;rw[if_pos (fJ hu),J]at aw;have eV:aY (k:Int):=by unfold aY;omega
     have dz:=yf (k:Int) eV;have gZ:(Lib.itoa (k:Int)).length+1<=bN:=by have:=zg eV;unfold bN;omega
     have xu:1+(Lib.itoa (k:Int)).length<=bN:=Ω
     have b4:((k:Int)==ns.length)=false:=jm.2 Ω;have fD:pU ((num ns (l.drop (i+1))).map fun y=>((out++[63::Lib.itoa (k:Int)])++y.1,y.2))=R:=by rw[<-aw];congr 2;funext y;simp
     clear aw j7 J;simp[qh,jR];(with_reducible repeat' first|refine aA ?_|refine a8 dz ?_|refine ba dz ?_|simp[fP,ir,lh,hu,b4,gZ,xu,s0,b1]);refine b9.rng (ns,out++[63::Lib.itoa (k:Int)]) az ⟨fD,by simp;omega,by simp;omega⟩ (by simp[po,jR,Cy,Cz,z1];exact⟨by simp[fresh,kinL,kin,bt,au,Pv.look,cX,dT],cR (by simp[fresh,kinL,kin,bt,au,Pv.look,cX,dT]),cS (by simp[fresh,kinL,kin,cB,au,Pv.look,cX,dT]),Ψ⟩)
    ·have ah:=qH he;have Hz:∀m,m<k+1->ns[m]?≠some (63::s):=fun m hm=>by
      rcases ly m k with h|h
      ·exact j7 m h
      ·obtain rfl:m=k:=Ω
       rw[hu];simpa using he
     clear aw j7;simp[qh,jR];((with_reducible repeat' first|refine aA ?_|simp[fP,ir,lh,hu,ah,kQ]|((first|apply dG|apply dJ|apply dI)<;>intro h<;>try simp at h))<;>(try exact ev));refine b9.whl (k+1) Ω ⟨fP,Hz⟩ (by simp[qh,jR];exact⟨by simp[fresh,kinL,kin,bt,au,Pv.look,dT],cR (by simp[fresh,kinL,kin,bt,au,Pv.look,dT]),cS (by simp[fresh,kinL,kin,cB,au,Pv.look,dT]),Ψ⟩)
def zG:Rl:=⟨[],0,0,pE⟩
theorem zH:zG.e= .agg [.str [],.int .i64 0,.int .i64 0,.int .i64 0,.str [],.slice 4 .no [],.slice 4 .no []]:=rfl
def Al(o:aT Rl)(r:ae)(ai:dD):Prop:=ai=⟨[],[]⟩/\match o with
 |some x=>r= .tuple [x.e,.bool true]
 |none=> ∃x:Rl,r= .tuple [x.e,.bool false]
theorem cW.df{di:List cr}{e:Exit}{st:aS}(o:aT Rl)(x:ae)(b:Bool)(ik:e= .ret\/e= .normal)(jb:Al o (.tuple [x,.bool b]) ⟨[],[]⟩)(aa:kin (fun _=>cZ) x)(h:du st di fun r=>r= .tuple [x,.bool b]):cW di ⟨[],[]⟩ (Al o) e st:=by
 refine cW.at ⟨[],[]⟩ ik jv (Same.refl _) (fun k cs h=>by simp[Pv.look]at h) (fun k cs h=>by simp[Pv.look]at h) ?_;unfold du at h⊢;split at h
 ·rename_i c a6 hr;refine⟨h.1,?_⟩;rw[h.2];refine⟨?_,jb⟩;simp only[kin,kinL,and_true];exact nB (fun _ h=>h.elim) _ aa
 ·exact h.elim
theorem vc{x:Rl}{p:ae}(h:p=x.e):Al none (.tuple [p,.bool false]) ⟨[],[]⟩:=⟨rfl,x,by rw[h]⟩
theorem Tp{x:Rl}{p:ae}(h:p=x.e):Al (some x) (.tuple [p,.bool true]) ⟨[],[]⟩:=⟨rfl,by rw[h]⟩
theorem Qs{l T M:List (List al)}(h:num [] l=some (T,M)):T.length=l.length:=(xR l [] T M h).1
theorem Jg:∀(l ns T M:List (List al)),(∀w∈l,w≠[])->num ns l=some (T,M)->(∀w∈T,w≠[])/\M.length<=ns.length+l.length
 |[],ns,T,M,_,h=>by simp only[num,dZ,gA]at h;obtain⟨rfl,rfl⟩:=h;simp
 |w::l,ns,T,M,hw,h=>by
  have oh:∀v∈l,v≠[]:=fun v aM=>hw v (by simp[aM]);rcases El w with⟨s,rfl⟩|aM
  ·rw[BZ]at h;split at h
   ·simp only[ij]at h;obtain⟨⟨u5,u6⟩,af,e⟩:=h;simp only[gA]at e;obtain⟨rfl,rfl⟩:=e;obtain⟨I,J⟩:=Jg l _ u5 u6 oh af;refine⟨fun v aM=>?_,?_⟩
    ·rcases gp.1 aM with rfl|aM
     ·simp
     ·exact I v aM
    ·split at J<;>simp at J⊢ <;>omega
   ·cases h
  ·rw[tg _ _ _ aM]at h;simp only[ij]at h;obtain⟨⟨u5,u6⟩,af,e⟩:=h;simp only[gA]at e;obtain⟨rfl,rfl⟩:=e;obtain⟨I,J⟩:=Jg l _ u5 u6 oh af;refine⟨fun v aM=>?_,by simp;omega⟩;rcases gp.1 aM with rfl|aM
   ·exact hw _ Ψ
   ·exact I v aM
def vg(T:List (List al))(c:Int)(name:List al)(k:Nat):aS:=⟨[(2,.ptr (.loc 0) 0),(4,.slice 1 .no (bZ T)),(5,.int .i64 c),(7,.ptr (.loc 1) 0),(8,.int .i64 (4+(k:Int)))],[(.loc 0,[.str [],.int .i64 0,.int .i64 0,.int .i64 0,.str [],.slice 4 .nil [],.slice 4 .nil []]),(.loc 1,[.str name,.int .i64 k,.int .i64 0,.int .i64 0,.str [],.slice 4 .nil [],.slice 4 .nil []])],[],2,[]⟩
set_option maxRecDepth 8000 in
theorem Xh(l:List (List al))(aG:l.length<=100000)(hw:∀w∈l,w≠[]):b7 aQ 108 [.slice 1 .no (bZ l)] ⟨[],[]⟩ (Al (mF l)):=by
 have cD:=ael l aG hw;obtain⟨O,fW⟩:∃O,O=mF l:=⟨_,rfl⟩;rw[<-fW];unfold mF at fW;cases sY:num [] l with
 |none=>rw[sY]at cD fW;subst fW;simp only[pU]at cD;have aq:=jv;refine b7.mk mixed k0 AW B4 Ψ aq.obj fun aN b3=>?_;unfold yA;clear aN b3;simp;(with_reducible repeat' first|refine aA ?_|refine a8 cD ?_|refine ba cD ?_|simp);refine cW.df _ (.agg [.str [],.int .i64 0,.int .i64 0,.int .i64 0,.str [],.slice 4 .no [],.slice 4 .no []]) false Ψ (vc zH.symm) (by simp[kin,kinL]) ?_;simp[du,tp,a1,be,aV]
 |some x=>
 obtain⟨T,M⟩:=x;rw[sY]at cD fW;simp only[pU]at cD;have agA:=Qs sY;obtain⟨XR,oO⟩:=Jg l [] T M hw sY;simp only[List.length_nil,Nat.zero_add]at oO;have XQ:T.length<=100000:=Ω
 by_cases cj:T.length<6
 ·have:O=none:=by
   rw[fW];match T,cj with
   |[],_=>rfl
   |[a],_=>rfl
   |[a,b],_=>rfl
   |[a,b,c],_=>rfl
   |[a,b,c,d],_=>simp[h4]
   |[a,b,c,d,e],_=>
    simp only;split
    ·have:∀k r,h4 0 [e]=some (k,r)->r=[]:=fun k r h=>by
      simp only[h4]at h;split at h
      ·cases h;rfl
      ·split at h<;>cases h
     cases aU:h4 0 [e]with
     |none=>rfl
     |some y=>obtain⟨k,r⟩:=y;have:=this k r aU;subst this;simp[eX]
    ·rfl
  subst this;have yY:(T.length:Int)<6:=Ω
  clear fW;have aq:=jv;refine b7.mk mixed k0 AW B4 Ψ aq.obj fun aN b3=>?_;unfold yA;clear aN b3;simp;(with_reducible repeat' first|refine aA ?_|refine a8 cD ?_|refine ba cD ?_|simp[yY]);refine cW.df _ (.agg [.str [],.int .i64 0,.int .i64 0,.int .i64 0,.str [],.slice 4 .no [],.slice 4 .no []]) false Ψ (vc zH.symm) (by simp[kin,kinL]) ?_;simp[du,tp,a1,be,aV]
 have yY:¬(T.length:Int)<6:=Ω
 obtain⟨t0,t1,t2,t3,Ss,rfl⟩:∃a b c d e,T=a::b::c::d::e:=by
  match T,cj with
  |a::b::c::d::e,_=>exact⟨a,b,c,d,e,rfl⟩
  |[],h=>simp at h
  |[a],h=>simp at h
  |[a,b],h=>simp at h
  |[a,b,c],h=>simp at h
 simp only at fW;generalize A7:t0::t1::t2::t3::Ss=T at*;have g1:T[1]? =some t1:=by rw[<-A7];rfl
 have g2:T[2]? =some t2:=by rw[<-A7];rfl
 have g3:T[3]? =some t3:=by rw[<-A7];rfl
 have ux:Ss=T.drop 4:=by rw[<-A7];rfl
 rw[ux]at fW;have fc:1<T.length:=Ω
 have cv:2<T.length:=Ω
 have Et:3<T.length:=Ω
 have s1:∀de,((bZ T)[1]'de)= .str t1:=fun de=>by rw[mx fc];rw[cF fc]at g1;rw[gq g1]
 have s2:∀de,((bZ T)[2]'de)= .str t2:=fun de=>by rw[mx cv];rw[cF cv]at g2;rw[gq g2]
 have zV:∀de,((bZ T)[3]'de)= .str t3:=fun de=>by rw[mx Et];rw[cF Et]at g3;rw[gq g3]
 have i1:(1:Int)<T.length:=Ω
 have i2:(2:Int)<T.length:=Ω
 have i3:(3:Int)<T.length:=Ω
 clear A7 sY ux;by_cases aF:t1=iD;rotate_left
 ·have:O=none:=by rw[fW,bq fun h=>aF h.1]
  subst this;have ah:(t1 != [100,101,102,105,110,101])=true:=qH aF;clear fW;have aq:=jv;refine b7.mk mixed k0 AW B4 Ψ aq.obj fun aN b3=>?_;unfold yA;clear aN b3;simp;((with_reducible repeat' first|refine aA ?_|refine a8 cD ?_|refine ba cD ?_|simp[yY,fc,i1,s1,g1,ah]|((first|apply dG|apply dJ|apply dI)<;>intro h<;>try simp at h))<;>(try exact ev));refine cW.df _ (.agg [.str [],.int .i64 0,.int .i64 0,.int .i64 0,.str [],.slice 4 .no [],.slice 4 .no []]) false Ψ (vc zH.symm) (by simp[kin,kinL]) ?_;simp[du,tp,a1,be,aV]
 by_cases DQ:t2=[40];rotate_left
 ·have:O=none:=by rw[fW,bq fun h=>DQ h.2]
  subst this;have ah:=qH DQ;unfold iD at aF;clear fW;have aq:=jv;refine b7.mk mixed k0 AW B4 Ψ aq.obj fun aN b3=>?_;unfold yA;clear aN b3;simp;((with_reducible repeat' first|refine aA ?_|refine a8 cD ?_|refine ba cD ?_|simp[yY,fc,i1,s1,g1,aF,cv,i2,s2,g2,ah]|((first|apply dG|apply dJ|apply dI)<;>intro h<;>try simp at h))<;>(try exact ev));refine cW.df _ (.agg [.str [],.int .i64 0,.int .i64 0,.int .i64 0,.str [],.slice 4 .no [],.slice 4 .no []]) false Ψ (vc zH.symm) (by simp[kin,kinL]) ?_;simp[du,tp,a1,be,aV]
 rw[if_pos ⟨aF,DQ⟩]at fW;unfold iD at aF;subst DQ;have aq:=jv;refine b7.mk mixed k0 AW B4 Ψ aq.obj fun aN b3=>?_;unfold yA;clear aN b3;simp;(with_reducible repeat' first|refine aA ?_|refine a8 cD ?_|refine ba cD ?_|simp[yY,fc,i1,s1,g1,aF,cv,i2,s2,g2,Et,i3,zV,g3]);clear i1 i2 i3 s1 s2 zV fc cv Et g1 g2 g3 yY;refine h1 (vg T M.length t3) (fun k=>T.length-(4+k)) (fun k=>4+k<=T.length/\h4 k (T.drop (4+k))=h4 0 (T.drop 4)) 0 (by simp[vg];exact⟨by simp[fresh,kinL,kin,bt,au,Pv.look,dT],cR (by simp[fresh,kinL,kin,bt,au,Pv.look,dT]),cS (by simp[fresh,kinL,kin,cB,au,Pv.look,dT]),Ψ⟩) ⟨Ω,rfl⟩ ?_;rintro k ⟨aa,nx⟩ _;have eV:aY (k:Int):=by unfold aY;omega
 have dz:=yf (k:Int) eV;have gZ:(Lib.itoa (k:Int)).length+1<=bN:=by have:=zg eV;unfold bN;omega
 rcases iX aa with Bk|fP
 ·have:O=none:=by rw[fW,<-nx,Bk,jN];rfl
  subst this;have il:¬(4+(k:Int))<T.length:=Ω
  have Yx:(T.length:Int)<=4+(k:Int):=Ω
  clear fW nx dz;simp[vg];(with_reducible repeat' first|refine aA ?_|simp[il,Yx]);refine cW.df _ (.agg [.str [],.int .i64 0,.int .i64 0,.int .i64 0,.str [],.slice 4 .no [],.slice 4 .no []]) false Ψ (vc zH.symm) (by simp[kin,kinL]) ?_;simp[du,tp,a1,be,aV]
 obtain⟨w,af⟩:∃v,T[4+k]? =some v:=⟨_,cF fP⟩;have eQ:∀de,((bZ T)[4+k]'de)= .str w:=fun de=>by rw[mx fP];rw[cF fP]at af;rw[gq af]
 have cN:(4+(k:Int))<T.length:=Ω
 have c2:¬(T.length:Int)<=4+(k:Int):=Ω
 have c3:(0:Int)<=4+(k:Int):=Ω
 have c4:(4+(k:Int)).toNat=4+k:=Ω
 have c5:aY (4+(k:Int)+1):=by unfold aY;omega
 have kH:aY ((k:Int)+1):=by unfold aY;omega
 rw[fi af]at nx;have OZ:h4 k (w::T.drop (4+k+1))=if w=[41]then some ((k:Int),T.drop (4+k+1))else if w=63::Lib.itoa (k:Int)then h4 ((k:Int)+1) (T.drop (4+k+1))else none:=rfl
 rw[OZ]at nx;clear OZ;by_cases aM:w=63::Lib.itoa (k:Int)
 ·have eN:w≠[41]:=by rw[aM];simp
  rw[bq eN,if_pos aM]at nx;have ah:(w==63::Lib.itoa (k:Int))=true:=by simpa using aM
  have fD:h4 ((k+1:Nat):Int) (T.drop (4+(k+1)))=h4 0 (T.drop 4):=nx;clear nx fW aM eN;simp[vg];(with_reducible repeat' first|refine aA ?_|refine a8 dz ?_|refine ba dz ?_|simp[cN,c3,c4,fP,eQ,af,gZ,ah,c5,kH]);refine b9.whl (k+1) Ω ⟨Ω,fD⟩ (by simp[vg,pc];exact⟨by simp[fresh,kinL,kin,bt,au,Pv.look,dT],cR (by simp[fresh,kinL,kin,bt,au,Pv.look,dT]),cS (by simp[fresh,kinL,kin,cB,au,Pv.look,dT]),Ψ⟩)
 have hb:=uL aM;by_cases eN:w=[41];rotate_left
 ·rw[bq eN,bq aM]at nx;have:O=none:=by rw[fW,<-nx]
  subst this;have ah:=qH eN;clear fW nx;simp[vg];((with_reducible repeat' first|refine aA ?_|refine a8 dz ?_|refine ba dz ?_|simp[cN,c2,c3,c4,fP,eQ,af,gZ,hb,ah,c5,kH]|((first|apply dG|apply dJ|apply dI)<;>intro h<;>try simp at h))<;>(try exact ev));refine cW.df _ (.agg [.str [],.int .i64 0,.int .i64 0,.int .i64 0,.str [],.slice 4 .no [],.slice 4 .no []]) false Ψ (vc zH.symm) (by simp[kin,kinL]) ?_;simp[du,tp,a1,be,aV]
 subst eN;rw[if_pos rfl]at nx;rw[<-nx]at fW;simp only at fW;have dh:=Xi T XQ XR (2*(T.length-(4+k+1))+1) (4+k+1) Ω (cq _);rw[show(2*(T.drop (4+k+1)).length+1)=2*(T.length-(4+k+1))+1 by rw[hg]]at fW;have Hi:((4+k+1:Nat):Int)=4+(k:Int)+1:=Ω
 rw[Hi]at dh;have mO:aY ((M.length:Int)-(k:Int)):=by unfold aY;omega
 have H0:aY ((T.length:Int)-1):=by unfold aY;omega
 clear nx;cases db:eX jk Go.Pv.hdS (2*(T.length-(4+k+1))+1) (T.drop (4+k+1))with
 |none=>rw[db]at dh fW;simp only at fW;subst fW;simp[vg];(with_reducible repeat' first|refine aA ?_|refine a8 dz ?_|refine ba dz ?_|simp[cN,c2,c3,c4,fP,eQ,af,gZ,hb,c5,kH]);refine CallDo.ob dh jv (fun k cs h=>by simp[Pv.look]at h) (fun k cs h=>by simp[Pv.look]at h) (by simp[kinL,kin]) ?_;rintro r ai ⟨rfl,g,q,rfl⟩;refine⟨Same.refl _,?_⟩;simp[bg];(with_reducible repeat' first|refine aA ?_|simp[mO,H0]);refine cW.df _ (.agg [.str t3,.int .i64 k,.int .i64 ((M.length:Int)-k),.int .i64 g.kind,.str g.name,.slice 4 .no (g.ts.map enc),.slice 4 .no (g.gs.map Gm.e)]) false Ψ (vc (x:=⟨t3,k,(M.length:Int)-k,g⟩) rfl) (by simp[kin,kinL]) ?_;simp[du,tp,a1,be,aV]
 |some x=>
  obtain⟨g,rest⟩:=x;rw[db]at dh fW;have Zm:=(zM CF _ _ _ _ db).1.length_le;rw[hg]at Zm;simp[vg];(with_reducible repeat' first|refine aA ?_|refine a8 dz ?_|refine ba dz ?_|simp[cN,c2,c3,c4,fP,eQ,af,gZ,hb,c5,kH]);refine CallDo.ob dh jv (fun k cs h=>by simp[Pv.look]at h) (fun k cs h=>by simp[Pv.look]at h) (by simp[kinL,kin]) ?_;rintro r ai ⟨rfl,rfl⟩;refine⟨Same.refl _,?_⟩;simp[bg];by_cases I:rest.length=1
  ·obtain⟨u,rfl⟩:∃u,rest=[u]:=List.length_eq_one_iff.1 I;simp only at fW;subst fW;have bn:(((T.length-1:Nat):Int)==(T.length:Int)-1)=true:=by simp;omega
   (with_reducible repeat' first|refine aA ?_|simp[mO,H0,bn]);refine cW.df _ (.agg [.str t3,.int .i64 k,.int .i64 ((M.length:Int)-k),.int .i64 g.kind,.str g.name,.slice 4 .no (g.ts.map enc),.slice 4 .no (g.gs.map Gm.e)]) true Ψ (Tp (x:=⟨t3,k,(M.length:Int)-k,g⟩) rfl) (by simp[kin,kinL]) ?_;simp[du,tp,a1,be,aV]
  ·have:O=none:=by
    rw[fW];match rest,I with
    |[],_=>rfl
    |a::b::c,_=>rfl
    |[a],h=>simp at h
   subst this;have bn:(((T.length-rest.length:Nat):Int)==(T.length:Int)-1)=false:=jm.2 Ω;clear fW;(with_reducible repeat' first|refine aA ?_|simp[mO,H0,bn]);refine cW.df _ (.agg [.str t3,.int .i64 k,.int .i64 ((M.length:Int)-k),.int .i64 g.kind,.str g.name,.slice 4 .no (g.ts.map enc),.slice 4 .no (g.gs.map Gm.e)]) false Ψ (vc (x:=⟨t3,k,(M.length:Int)-k,g⟩) rfl) (by simp[kin,kinL]) ?_;simp[du,tp,a1,be,aV]
end
end Go.Proofs.YtlnndmgfngfeiaaGreatDoor
namespace Go.Pv
section
open Go Go.Lib
def pV(s:List al):aT (List Rl):=match iB s with
 |none=>none
 |some l=>nH (sb l.length l)
theorem abT(s:List al):pV s=match iB s with
  |none=>none
  |some l=>nH (ov l.length l):=by
 unfold pV;split
 ·rfl
 ·rw[ab0]
end
end Go.Pv
