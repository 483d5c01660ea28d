/- From a contract to the row. -/
import Derived.ProofKit
import Derived.Carry
import Derived.WalkKit
import Derived.Test.YtahlgcidhnjlbaaGreatH5
set_option linter.all false
set_option maxHeartbeats 4000000
set_option maxRecDepth 4000
open Go renaming TypeId->gT
open Go.DataW renaming trod->j1
open Go.Proofs.Tryz renaming prog->au
open Go.Value renaming cells->pg
open List renaming drop->oK,getElem?_eq_getElem->cl,length_cons->mI,map_cons->hc,take->mJ
open List.cons renaming injEq->rD
open _root_ renaming UInt8->cW,and_true->jk
namespace Go.Proofs.YtahlgcidhnjlbaaGreat
section
open Go Go.Pv
def ug(d:dw (dw fN)):af:=d.e 1 k1
def uK(k:dw bG):af:=k.e 2 bG.e
def uV(m:dw iu):af:=m.e 2 iu.e
@[simp]def auU(S:aA->Prop)(d:dw (dw fN)):az S (ug d)=True:=by cases d<;>simp[ug,dw.e,az]
@[simp]def awI(d:dw (dw fN)):b5 (ug d)=ug d:=by
 cases d with
 |l l=>
  have:∀l:List (dw fN),cf (l.map k1)=l.map k1:=by
   intro l;induction l with
   |nil=>rfl
   |cons x l a=>simp[cf,a]
  simp[ug,dw.e,b5,this]
 |b=>simp[ug,dw.e,b5]
@[simp]def au1(S:aA->Prop)(d:dw bG):az S (uK d)=True:=by cases d<;>simp[uK,dw.e,az]
@[simp]def awP(d:dw bG):b5 (uK d)=uK d:=by
 cases d with
 |l l=>
  have:∀l:List bG,cf (l.map bG.e)=l.map bG.e:=by
   intro l;induction l with
   |nil=>rfl
   |cons x l a=>simp[cf,a]
  simp[uK,dw.e,b5,this]
 |b=>simp[uK,dw.e,b5]
@[simp]def au3(S:aA->Prop)(d:dw iu):az S (uV d)=True:=by cases d<;>simp[uV,dw.e,az]
@[simp]def awR(d:dw iu):b5 (uV d)=uV d:=by
 cases d with
 |l l=>
  have:∀l:List iu,cf (l.map iu.e)=l.map iu.e:=by
   intro l;induction l with
   |nil=>rfl
   |cons x l a=>simp[cf,a]
  simp[uV,dw.e,b5,this]
 |b=>simp[uV,dw.e,b5]
structure pz where
 n:Int
 b:dw fN
 d:dw (dw fN)
 k:dw bG
 m:dw iu
def pz.e(r:pz):af:= .agg [aj r.n,k1 r.b,ug r.d,uK r.k,uV r.m]
structure pz.wf (r:pz):Prop where
 b:yl r.b
 d:r.d.wf yl
 k:∀p n cap,r.k= .b p n cap->n1 n
 m:r.m.wf fun x=>x.s.wf
def rs(r:pz)(m:Int):Int:=if eC r.b m<0 then-1 else if fo eC r.d (eC r.b m)<0 then-1 else if lv r.k (fo eC r.d (eC r.b m))<0 then-1 else if fo jM r.m (lv r.k (fo eC r.d (eC r.b m)))<0 then-1 else fo jM r.m (lv r.k (fo eC r.d (eC r.b m)))
def vz(b:Bt):fN:=⟨b.v,ry b.t⟩
def o8(b:bn):iu:=⟨b.v,.s b.s⟩
def ado(b:Bt):(vz b).e=b.e:=by have h:=abr b.t;rw[cL.e_eq,yL]at h;simp only[af.agg.injEq,rD,jk,true_and]at h;obtain⟨J,U,a,c⟩:=h;show af.agg [_,_,_,_,_]=af.agg [_,_,_,_,_];rw[show(vz b).t=ry b.t from rfl,J,U,a,c];rfl
def alU(b:bn):(o8 b).e=b.e:=rfl
def adp(l:List Bt):(l.map vz).map fN.e=l.map Bt.e:=by rw[List.map_map];exact List.map_congr_left fun b _=>ado b
def alV(l:List bn):(l.map o8).map iu.e=l.map bn.e:=by rw[List.map_map];exact List.map_congr_left fun b _=>alU b
def gU(d:List Bt):dw fN:= .l (d.map vz)
def TJ(d:List Bt):k1 (gU d)=gv d:=by simp only[k1,gU,dw.e,gv,adp]
def aee(l:List (List Bt)):(l.map gU).map k1=l.map gv:=by rw[List.map_map];exact List.map_congr_left fun b _=>TJ b
def iv.h(r:iv):pz:=⟨r.n,gU r.b,.l (r.d.map gU),.l r.k,.l (r.m.map o8)⟩
def aqo(r:iv):r.h.e=r.e:=by simp only[pz.e,iv.h,iv.e,TJ,ug,uK,uV,dw.e,aee,alV];rfl
def aqw(x:fN)(m:Int)(hw:x.t.wf)(J:m<=1048576)(a:0<=m)(h:0<=qK x m):∃y,x=vz y:=by obtain⟨u,hu⟩:=abc x.t m hw J a h;exact⟨⟨x.v,u⟩,by cases x;simp only[vz]at hu⊢;rw[hu]⟩
def aqx(x:iu)(m:Int)(hw:x.s.wf)(J:m<=1048576)(b:0<=m)(h:0<=jM x m):∃y,x=o8 y:=by
 unfold jM at h;split at h
 ·omega
 ·obtain⟨l,a⟩:=hA.small hw J h;exact⟨⟨x.v,l⟩,by cases x;simp only[o8]at a⊢;rw[a]⟩
def aa3(x:dw fN)(m:Int)(hw:yl x)(J:m<=1048576)(a:0<=m)(h:0<=eC x m):∃y,x=gU y:=PU (P:=fun b:fN=>b.t.wf) PT aqw x m (show dw.wf (fun b:fN=>b.t.wf) x from hw) J a h
def abe:∀(l:List bn) (m:Int),(∀x∈l,1<=x.s.length)->0<=jL jM (l.map o8) m->(l.length:Int)<=m
 |[],m,_,h=>by simpa[jL]using h
 |x::l,m,J,h=>by
  simp only[hc,jL]at h;split at h
  ·omega
  ·rename_i U;have a:=abe l _ (fun y d=>J y (by simp[d])) h;have e:=J x Ψ;have c:jM (o8 x) m=if m-x.s.length<0 then-1 else m-x.s.length:=rfl
   rw[c]at U a;split at a
   ·rename_i b;rw[if_pos b]at U;omega
   ·simp only[mI];omega
def al6{s:List cW}(h:kn s=true):1<=s.length:=by
 cases s with
 |nil=>simp[kn]at h
 |cons c s=>simp
def aqB{r:pz}(hw:r.wf)(h:0<=rs r 1048576):∃u:iv,r=u.h/\(jK u.m->tI u.m):=by
 obtain⟨n,b,d,k,l⟩:=r;obtain⟨c,f,j,a⟩:=hw;simp only at c f j a;unfold rs at h;simp only at h;have s:=u7 b 1048576 Ω;split at h
 ·omega
 have t:=u9 u7 d (eC b 1048576) Ω;split at h
 ·omega
 have q:=JA k (fo eC d (eC b 1048576)) Ω;split at h
 ·omega
 split at h
 ·omega
 obtain⟨b7,rfl⟩:=aa3 b 1048576 c Ω Ω Ω;obtain⟨g,rfl⟩:=PU u7 (P:=yl) aa3 d (eC (gU b7) 1048576) f Ω Ω Ω;generalize fo eC (.l (g.map gU)) (eC (gU b7) 1048576)=m at*;cases k with
 |b=>simp only[lv]at*;omega
 |l bt=>
  generalize lv (.l bt) m=i at*;have p:=u9 Fw l i Ω;obtain⟨e,rfl⟩:=PU Fw (P:=fun x=>x.s.wf) aqx l i a Ω Ω Ω;refine⟨⟨n,b7,g,bt,e⟩,rfl,fun hm=>tI.of ?_⟩;simp only at hm⊢;simp only[fo,l9]at h;split at h
  ·omega
  ·have:=abe e _ (fun x o=>al6 (hm.at' x o).2) h;simp only[List.length_map]at this;omega
def ar4(r:pz)(hw:r.wf)(m:Int)(f:0<=m)(J:m<=1048576):bX au 26 [r.e,aj m] (aj (rs r m)):=by
 generalize bu:rs r m=R;obtain⟨n,b,d,k,l⟩:=r;obtain⟨y,s,v,q⟩:=hw;simp only at y s v q;unfold rs at bu;simp only[pz.e]at bu⊢;have H:=ab2 b y m f J;have G:=u7 b m f;generalize eC b m=j at bu H G;have t:_->bX au 72 [ug d,aj j] (aj (fo eC d j)):=fun h=>ar1 d (fun p n c e=>by subst e;exact s) (fun xs e x E m f J=>by subst e;exact ab2 x (s x E) m f J) j h Ω;have B:=fun h=>u9 u7 d j h;generalize fo eC d j=i at bu t B;have o:_->_->bX au 73 [uK k,aj i] (aj (lv k i)):=fun h A=>ar6 k v i h A;have z:=fun h=>JA k i h;generalize lv k i=g at bu o z;have a:_->_->bX au 74 [uV l,aj g] (aj (fo jM l g)):=fun h A=>ar3 l (fun p n c e=>by subst e;exact q) (fun xs e x E m f J=>by subst e;exact ar2 x (q x E) m f J) g h A;have w:=fun h=>u9 Fw l g h;generalize fo jM l g=F at bu a w;clear y s v q;by_cases g1:j<0
 ·rw[if_pos g1]at bu;subst bu;clear t o a;refine bL a7 Tryz.func26 EK fun u=>?_;unfold Ay;exact cB
 rw[if_neg g1]at bu;have t:=t Ω;have B:=B Ω;by_cases g2:i<0
 ·rw[if_pos g2]at bu;subst bu;clear o a;refine bL a7 Tryz.func26 EK fun u=>?_;unfold Ay;exact cB
 rw[if_neg g2]at bu;have o:=o Ω Ω;have z:=z Ω;by_cases g3:g<0
 ·rw[if_pos g3]at bu;subst bu;clear a;refine bL a7 Tryz.func26 EK fun u=>?_;unfold Ay;exact cB
 rw[if_neg g3]at bu;have a:=a Ω Ω;have w:=w Ω;by_cases g4:F<0
 ·rw[if_pos g4]at bu;subst bu;refine bL a7 Tryz.func26 EK fun u=>?_;unfold Ay;exact cB
 rw[if_neg g4]at bu;subst bu;refine bL a7 Tryz.func26 EK fun u=>?_;unfold Ay;exact cB
def iv.kk(r:iv)(κ:Nat):af:= .agg [aj r.n,.slice 5 (.tr (.loc κ) 0) (r.b.map Bt.e),.slice 1 (.tr (.loc κ) 1) (r.d.map gv),.slice 2 (.tr (.loc κ) 2) (r.k.map bG.e),.slice 2 (.tr (.loc κ) 3) (r.m.map bn.e)]
def Yh(r:iv):fP au 28 [r.e] r.kk:=by obtain⟨n,b,d,k,l⟩:=r;simp only[iv.e];unfold iv.kk;have a:=Yg b;have f:=amm d fun x _=>Yg x;have e:=aow k fun x _=>asa x;have c:=aov l fun x _=>ar8 x;unfold gv qg at a;refine fP.mk mixed a7 Tryz.func28 ant Ψ fun g κ=>?_;unfold Si;simp;(repeat' first|refine aq ?_|simp);(refine CallDo.own Ψ (a) (by simp[eo]) ?_;simp);(repeat' first|refine aq ?_|simp);(refine CallDo.own Ψ (f) (by simp[eo]) ?_;simp);(repeat' first|refine aq ?_|simp);(refine CallDo.own Ψ (e) (by simp[eo]) ?_;simp);(repeat' first|refine aq ?_|simp);(refine CallDo.own Ψ (c) (by simp[eo]) ?_;simp);(repeat' first|refine aq ?_|simp);(refine hP.val Ψ ?_;simp[ba,bd,a1,e0,ha,ez,gI,ec,gD,tnL,tn,fl,ga,fold,hq,ho,iw,ad,eo,cf,b5])
def ar9(r:iv):bX au 28 [r.e] r.e:=by have:=(Yh r).val (by simp[iv.kk,b5]);simpa[iv.kk,iv.e,b5]using this
def abK(r:iv):bX au 30 [r.e,r.e] (.bool true):=by obtain⟨n,b,d,k,l⟩:=r;simp only[iv.e];have e:bX au 37 [bK (b.map Bt.e),bK (b.map Bt.e)] (.bool true):=abJ b;have f:=aq7 d fun x _=>abJ x;have c:=ard k fun x _=>arc x;have a:=aq9 l fun x _=>aq8 x;refine bL a7 Tryz.func30 anh fun g=>?_;unfold R6;exact cB
end
section
open Go Go.Pv Go.ChangeShapes Go.WideShapes Go.ChangeAt Go.RowKit Go.Deep
section
variable {H:Type} {enc:gT×Value->H} {W:World} {spare:Nat->Bool} {held:Bool} {cs:List Value} {x:DataW H×List MemPlace} {fuel:Nat}
def C9:au.cellsOf 3=1:=bi
def Ts:au.cellsOf 9=1:=bi
def KZ:au.cellsOf 24=4:=bi
def adB:au.cellsOf 22=1:=bi
def To:au.cellsOf 111=5:=bi
def Tp:au.cellsOf 38=1:=bi
def adx:au.cellsOf 39=1:=bi
def Tq:au.cellsOf 158=2:=bi
def ady:au.cellsOf 40=1:=bi
def Tr:au.cellsOf 146=2:=bi
def adz:au.cellsOf 41=1:=bi
def adA:au.cellsOf 43=5:=bi
def zo(h:j1 enc au W 0 spare held fuel 3 cs=some x):∃(n:Int) (v:Value),cs=[v]/\wA W (.int .i64 n) v:=by obtain⟨n,rfl,_,_⟩:=DataW.trod_int Tryz.underlying3 h;exact⟨n,_,rfl,by simp only[aU],rfl,rfl⟩
def aaW(h:j1 enc au W 0 spare held fuel 9 cs=some x):∃(s:hA) (v:Value),s.wf/\cs=[v]/\wA W s.e v:=by
 obtain⟨s,rfl,_,hm⟩:=DataW.trod_string Tryz.underlying9 h;by_cases a:lim<s.size
 ·exact⟨.b s,_,⟨a,by unfold maxLen at hm;omega⟩,rfl,by simp only[hA.e,aU],rfl,rfl⟩
 ·refine⟨.s s.data.toList,_,trivial,rfl,?_,rfl,rfl⟩;simp only[hA.e,aU];refine⟨Ψ,?_⟩;have:s.data.toList.length=s.size:=rfl;omega
def Xo{α:Type}:∀{cs:List α},cs.length=2->∃a b,cs=[a,b]
 |[a,b],_=>⟨a,b,rfl⟩
def alh{α:Type}:∀{cs:List α},cs.length=4->∃a b c d,cs=[a,b,c,d]
 |[a,b,c,d],_=>⟨a,b,c,d,rfl⟩
def Xp{α:Type}:∀{cs:List α},cs.length=5->∃a b c d e,cs=[a,b,c,d,e]
 |[a,b,c,d,e],_=>⟨a,b,c,d,e,rfl⟩
def aqD:∀(fuel:Nat) (cs:List Value) (x:DataW H×List MemPlace),j1 enc au W 0 spare held fuel 24 cs=some x->∃t:cL,t.wf/\cU W (rV W) [.int .i64 t.kind,.int .i64 t.num,t.name.e,t.args.e 4 cL.e] cs:=by
 intro fuel;induction fuel using Nat.strongRecOn with
 |ind fuel F=>
  intro cs x h;obtain⟨xs,n,rfl,_,hlen,A,q⟩:=DataW.trod_struct Tryz.underlying24 h;rw[KZ]at hlen;obtain⟨e,o,j,g,rfl⟩:=alh hlen;have J:xs.length=4:=A;have f0:j1 enc au W 0 spare held n 3 (([e,o,j,g].drop 0).take (au.cellsOf 3))=xs[0]?:=q 0 _ rfl;have f1:j1 enc au W 0 spare held n 3 (([e,o,j,g].drop 1).take (au.cellsOf 3))=xs[1]?:=q 1 _ rfl;have f2:j1 enc au W 0 spare held n 9 (([e,o,j,g].drop 2).take (au.cellsOf 9))=xs[2]?:=q 2 _ rfl;have f3:j1 enc au W 0 spare held n 22 (([e,o,j,g].drop 3).take (au.cellsOf 22))=xs[3]?:=q 3 _ rfl;simp only[C9,Ts,adB,oK,mJ]at f0 f1 f2 f3;rw[cl Ω]at f0 f1 f2 f3;obtain⟨k,v0,u,r0⟩:=zo f0;obtain⟨m,v1,y,i⟩:=zo f1;obtain⟨s,v2,v,z,f⟩:=aaW f2;obtain⟨l,r,v3,w,d⟩:=Fo cL.e cL.wf Tryz.underlying22 KZ Ω (fun n' cs' x' G B=>by obtain⟨t,t1,t2⟩:=F n' Ω cs' x' B;exact⟨t,t1,by rw[cL.e_eq];exact E5 t2⟩) f3
  simp only[rD,jk]at u y z w;subst u y z w;cases l with
  |l a=>
   refine⟨.mk k m s a,?_,?_⟩
   ·simp only[cL.wf,cL.wfL_iff];exact⟨v,r⟩
   ·simp only[cU,cL.kind,cL.num,cL.name,cL.args];exact⟨_,_,rfl,⟨r0.1,r0.2.1⟩,_,_,rfl,⟨i.1,i.2.1⟩,_,_,rfl,⟨f.1,f.2.1⟩,_,_,rfl,⟨d.1,d.2.1⟩,rfl⟩
  |b p E c=>
   refine⟨.big k m s p E c,?_,?_⟩
   ·simp only[cL.wf];exact⟨v,r⟩
   ·simp only[cU,cL.kind,cL.num,cL.name,cL.args];exact⟨_,_,rfl,⟨r0.1,r0.2.1⟩,_,_,rfl,⟨i.1,i.2.1⟩,_,_,rfl,⟨f.1,f.2.1⟩,_,_,rfl,⟨d.1,d.2.1⟩,rfl⟩
def adg(h:j1 enc au W 0 spare held fuel 111 cs=some x):∃b:fN,b.t.wf/\reads W b.e cs:=by obtain⟨xs,n,rfl,_,hlen,j,i⟩:=DataW.trod_struct Tryz.underlying111 h;rw[To]at hlen;obtain⟨a,g,f,e,d,rfl⟩:=Xp hlen;have o:xs.length=2:=j;have f0:j1 enc au W 0 spare held n 3 (([a,g,f,e,d].drop 0).take (au.cellsOf 3))=xs[0]?:=i 0 _ rfl;have f1:j1 enc au W 0 spare held n 24 (([a,g,f,e,d].drop 1).take (au.cellsOf 24))=xs[1]?:=i 1 _ rfl;simp only[C9,KZ,oK,mJ]at f0 f1;rw[cl Ω]at f0 f1;obtain⟨k,v0,c,r0⟩:=zo f0;obtain⟨t,l,m⟩:=aqD _ _ _ f1;simp only[rD,jk]at c;subst c;refine⟨⟨k,t⟩,l,E5 ?_⟩;rw[cU];exact⟨_,_,rfl,⟨r0.1,r0.2.1⟩,m⟩
def ak9(h:j1 enc au W 0 spare held fuel 158 cs=some x):∃b:bG,True/\reads W b.e cs:=by obtain⟨xs,n,rfl,_,hlen,i,g⟩:=DataW.trod_struct Tryz.underlying158 h;rw[Tq]at hlen;obtain⟨a,e,rfl⟩:=Xo hlen;have j:xs.length=2:=i;have f0:j1 enc au W 0 spare held n 3 (([a,e].drop 0).take (au.cellsOf 3))=xs[0]?:=g 0 _ rfl;have f1:j1 enc au W 0 spare held n 3 (([a,e].drop 1).take (au.cellsOf 3))=xs[1]?:=g 1 _ rfl;simp only[C9,oK,mJ]at f0 f1;rw[cl Ω]at f0 f1;obtain⟨k,v0,c,r0⟩:=zo f0;obtain⟨m,v1,f,d⟩:=zo f1;simp only[rD,jk]at c f;subst c f;refine⟨⟨k,m⟩,trivial,E5 ?_⟩;simp only[cU];exact⟨_,_,rfl,⟨r0.1,r0.2.1⟩,_,_,rfl,⟨d.1,d.2.1⟩,rfl⟩
def alw(h:j1 enc au W 0 spare held fuel 146 cs=some x):∃b:iu,b.s.wf/\reads W b.e cs:=by obtain⟨xs,n,rfl,_,hlen,i,g⟩:=DataW.trod_struct Tryz.underlying146 h;rw[Tr]at hlen;obtain⟨a,e,rfl⟩:=Xo hlen;have l:xs.length=2:=i;have f0:j1 enc au W 0 spare held n 3 (([a,e].drop 0).take (au.cellsOf 3))=xs[0]?:=g 0 _ rfl;have f1:j1 enc au W 0 spare held n 9 (([a,e].drop 1).take (au.cellsOf 9))=xs[1]?:=g 1 _ rfl;simp only[C9,Ts,oK,mJ]at f0 f1;rw[cl Ω]at f0 f1;obtain⟨k,v0,c,r0⟩:=zo f0;obtain⟨s,v1,j,f,d⟩:=aaW f1;simp only[rD,jk]at c f;subst c f;refine⟨⟨k,s⟩,j,E5 ?_⟩;simp only[cU];exact⟨_,_,rfl,⟨r0.1,r0.2.1⟩,_,_,rfl,⟨d.1,d.2.1⟩,rfl⟩
def Q2(h:j1 enc au W 0 spare held fuel 38 cs=some x):∃d:dw fN,yl d/\∃v,cs=[v]/\wA W (k1 d) v:=Fo fN.e (fun b=>b.t.wf) Tryz.underlying38 To Ω (fun _ _ _ _ a=>adg a) h
def adh(h:j1 enc au W 0 spare held fuel 39 cs=some x):∃d:dw (dw fN),d.wf yl/\∃v,cs=[v]/\wA W (ug d) v:=Fo k1 yl Tryz.underlying39 Tp Ω (fun _ _ _ _ a=>by obtain⟨d,w,v,rfl,r⟩:=Q2 a;exact⟨d,w,r.reads⟩) h
def alc(h:j1 enc au W 0 spare held fuel 40 cs=some x):∃d:dw bG,d.wf (fun _=>True)/\∃v,cs=[v]/\wA W (uK d) v:=Fo bG.e (fun _=>True) Tryz.underlying40 Tq Ω (fun _ _ _ _ a=>ak9 a) h
def alx(h:j1 enc au W 0 spare held fuel 41 cs=some x):∃d:dw iu,d.wf (fun b=>b.s.wf)/\∃v,cs=[v]/\wA W (uV d) v:=Fo iu.e (fun b=>b.s.wf) Tryz.underlying41 Tr Ω (fun _ _ _ _ a=>alw a) h
def aqn(h:j1 enc au W 0 spare held fuel 43 cs=some x):∃r:pz,r.wf/\reads W r.e cs:=by obtain⟨xs,n,rfl,_,hlen,z,i⟩:=DataW.trod_struct Tryz.underlying43 h;rw[adA]at hlen;obtain⟨a,g,f,d,b,rfl⟩:=Xp hlen;have E:xs.length=5:=z;have f0:j1 enc au W 0 spare held n 3 (([a,g,f,d,b].drop 0).take (au.cellsOf 3))=xs[0]?:=i 0 _ rfl;have f1:j1 enc au W 0 spare held n 38 (([a,g,f,d,b].drop 1).take (au.cellsOf 38))=xs[1]?:=i 1 _ rfl;have f2:j1 enc au W 0 spare held n 39 (([a,g,f,d,b].drop 2).take (au.cellsOf 39))=xs[2]?:=i 2 _ rfl;have f3:j1 enc au W 0 spare held n 40 (([a,g,f,d,b].drop 3).take (au.cellsOf 40))=xs[3]?:=i 3 _ rfl;have f4:j1 enc au W 0 spare held n 41 (([a,g,f,d,b].drop 4).take (au.cellsOf 41))=xs[4]?:=i 4 _ rfl;simp only[C9,Tp,adx,ady,adz,oK,mJ]at f0 f1 f2 f3 f4;rw[cl Ω]at f0 f1 f2 f3 f4;obtain⟨k,v0,l,r0⟩:=zo f0;obtain⟨d1,A,v1,t,o⟩:=Q2 f1;obtain⟨d2,B,v2,u,m⟩:=adh f2;obtain⟨d3,w,v3,q,j⟩:=alc f3;obtain⟨d4,y,v4,s,v⟩:=alx f4;simp only[rD,jk]at l t u q s;subst l t u q s;refine⟨⟨k,d1,d2,d3,d4⟩,⟨A,B,fun p n c e=>by simp only at e;subst e;exact w,y⟩,E5 ?_⟩;simp only[cU];exact⟨_,_,rfl,⟨r0.1,r0.2.1⟩,_,_,rfl,⟨o.1,o.2.1⟩,_,_,rfl,⟨m.1,m.2.1⟩,_,_,rfl,⟨j.1,j.2.1⟩,_,_,rfl,⟨v.1,v.2.1⟩,rfl⟩
end
end
section
open Go Go.Pv Go.ChangeShapes Go.WideShapes Go.ChangeAt Go.RowKit
def apG:ownKnob au.godebug=none:=bi
def aav:laidOutB au=true:=bi
def ads{f:FuncId}{fn:Func}(s:au.funcs[f]? =some fn)(d:∀args w,(callFunc f args).run au w= .ok (.enter f args) w){w:World}{ν:a8}{args:List af}{bk:Array Value}(h:bX au f args (.bool true))(m:∀k j b,¬ν.tr k j b)(p:∀b o,ν.A b o->b<w.heap.size)(l:∀k,ν.bx k=none)(ar:∀k,ν.ow k=none)(q:c1 w ν args bk.toList):
  Calls au f bk w fun e w'=>e= .returned (.bool true)/\Below w.heap.size w w':=by
 have be:Pv.Good (fB ν ⟨[],[]⟩) w ν [] []:=⟨p,fun k cs c=>by simp[ad]at c,fun k bt bl J=>by simp[ad]at J,fun g o c=>by simp[ad]at c,fun g t n n' v v' bl J=>by simp[ad]at J,fun g k n v bl J=>by simp[ad]at J,fun k=>.inl (l k),fun _ _ k j=>m k j _⟩;rcases h w ν bk be (fun k=>⟨fun _=>l k,fun _=>ar k,m k⟩) q with⟨_,aw⟩|⟨v,w',aw,_⟩
 ·refine aw.mono ?_;rintro e w' ⟨v,r,u,bm,rfl,⟨rfl,rfl⟩,i,_,_,_,a⟩;simp only[aU]at i;subst i;refine⟨rfl,a.os,a.tape,a.output,a.size,fun k c=>a.block k c ?_⟩;simp[fB,ad]
 ·rw[d]at aw;cases aw
def aeu{W:World}{b o:Nat}(h:(rV W).A b o):b<W.heap.size:=by
 obtain⟨u,hu⟩:=h;rcases Nat.lt_or_ge b W.heap.size with h|h
 ·exact h
 ·simp[World.cell?,Array.getElem?_eq_none h]at hu
def apC{W:World}{a:List af}{us:Array Value}(h:reads W (.agg a) us.toList):aU W (rV W) (.agg a) (.agg us):=by
 obtain⟨v,J,U,_⟩:=h;have b:=U;simp only[aU]at b;obtain⟨ws,rfl,_⟩:=b;have:ws=us:=by
  have:ws.toList=us.toList:=by simpa[pg]using J
  exact Array.toList_inj.1 this
 rw[<-this];exact U
def aqm{H:Type}{enc:gT×Value->H}{W:World}{spare:Nat->Bool}{held:Bool}{us:Array Value}{x:DataW H×List MemPlace}{fuel:Nat}(h:j1 enc au W 0 spare held fuel 43 us.toList=some x):∃r:pz,r.wf/\aU W (rV W) r.e (.agg us):=by obtain⟨r,b,a⟩:=aqn h;exact⟨r,b,apC a⟩
end
end Go.Proofs.YtahlgcidhnjlbaaGreat
