/- From a contract to the row. -/
import Derived.ProofKit
import Derived.Carry
import Derived.WalkKit
import Derived.Test.YtahlgcidhnjlbaaGreatX5
set_option linter.all false
set_option maxHeartbeats 4000000
set_option maxRecDepth 4000
open Go renaming TypeId->gU
open Go.DataW renaming trod->jS
open Go.Proofs.Tryz renaming prog->au
open Go.Value renaming cells->pz
open List renaming drop->oU,getElem?_eq_getElem->cl,length_cons->mT,map_cons->gV,take->mU
open List.cons renaming injEq->rX
open _root_ renaming UInt8->cU,and_true->jc
namespace Go.Proofs.YtahlgcidhnjlbaaGreat
section
open Go Go.Pv
def uB(d:dA (dA fQ)):af:=d.e 1 k8
def u1(k:dA bI):af:=k.e 2 bI.e
def vc(m:dA iw):af:=m.e 2 iw.e
@[simp]def avZ(S:aB->Prop)(d:dA (dA fQ)):az S (uB d)=True:=by cases d<;>simp[uB,dA.e,az]
@[simp]def axQ(d:dA (dA fQ)):b7 (uB d)=uB d:=by
 cases d with
 |l l=>
  have:∀l:List (dA fQ),cf (l.map k8)=l.map k8:=by
   intro l;induction l with
   |nil=>rfl
   |cons x l a=>simp[cf,a]
  simp[uB,dA.e,b7,this]
 |b=>simp[uB,dA.e,b7]
@[simp]def av6(S:aB->Prop)(d:dA bI):az S (u1 d)=True:=by cases d<;>simp[u1,dA.e,az]
@[simp]def axX(d:dA bI):b7 (u1 d)=u1 d:=by
 cases d with
 |l l=>
  have:∀l:List bI,cf (l.map bI.e)=l.map bI.e:=by
   intro l;induction l with
   |nil=>rfl
   |cons x l a=>simp[cf,a]
  simp[u1,dA.e,b7,this]
 |b=>simp[u1,dA.e,b7]
@[simp]def av8(S:aB->Prop)(d:dA iw):az S (vc d)=True:=by cases d<;>simp[vc,dA.e,az]
@[simp]def axZ(d:dA iw):b7 (vc d)=vc d:=by
 cases d with
 |l l=>
  have:∀l:List iw,cf (l.map iw.e)=l.map iw.e:=by
   intro l;induction l with
   |nil=>rfl
   |cons x l a=>simp[cf,a]
  simp[vc,dA.e,b7,this]
 |b=>simp[vc,dA.e,b7]
structure pI where
 n:Int
 b:dA fQ
 d:dA (dA fQ)
 k:dA bI
 m:dA iw
def pI.e(r:pI):af:= .agg [aj r.n,k8 r.b,uB r.d,u1 r.k,vc r.m]
structure pI.wf (r:pI):Prop where
 b:yD r.b
 d:r.d.wf yD
 k:∀p n cap,r.k= .b p n cap->oe n
 m:r.m.wf fun x=>x.s.wf
def rQ(r:pI)(m:Int):Int:=if eF r.b m<0 then-1 else if ft eF r.d (eF r.b m)<0 then-1 else if lC r.k (ft eF r.d (eF r.b m))<0 then-1 else if ft jQ r.m (lC r.k (ft eF r.d (eF r.b m)))<0 then-1 else ft jQ r.m (lC r.k (ft eF r.d (eF r.b m)))
def vM(b:Bt):fQ:=⟨b.v,pq b.t⟩
def pf(b:bo):iw:=⟨b.v,.s b.s⟩
def aeo(b:Bt):(vM b).e=b.e:=by have h:=Ka b.t;rw[cF.e_eq,uG]at h;simp only[af.agg.injEq,rX,jc,true_and]at h;obtain⟨J,U,a,c⟩:=h;show af.agg [_,_,_,_,_]=af.agg [_,_,_,_,_];rw[show(vM b).t=pq b.t from rfl,J,U,a,c];rfl
def amT(b:bo):(pf b).e=b.e:=rfl
def aep(l:List Bt):(l.map vM).map fQ.e=l.map Bt.e:=by rw[List.map_map];exact List.map_congr_left fun b _=>aeo b
def amU(l:List bo):(l.map pf).map iw.e=l.map bo.e:=by rw[List.map_map];exact List.map_congr_left fun b _=>amT b
def hd(d:List Bt):dA fQ:= .l (d.map vM)
def Up(d:List Bt):k8 (hd d)=gz d:=by simp only[k8,hd,dA.e,gz,aep]
def afe(l:List (List Bt)):(l.map hd).map k8=l.map gz:=by rw[List.map_map];exact List.map_congr_left fun b _=>Up b
def gm.h(r:gm):pI:=⟨r.n,hd r.b,.l (r.d.map hd),.l r.k,.l (r.m.map pf)⟩
def arq(r:gm):r.h.e=r.e:=by simp only[pI.e,gm.h,gm.e,Up,uB,u1,vc,dA.e,afe,amU];rfl
def arz(x:fQ)(m:Int)(hw:x.t.wf)(J:m<=1048576)(a:0<=m)(h:0<=qX x m):∃y,x=vM y:=by obtain⟨u,hu⟩:=J6 x.t m hw J a h;exact⟨⟨x.v,u⟩,by cases x;simp only[vM]at hu⊢;rw[hu]⟩
def arA(x:iw)(m:Int)(hw:x.s.wf)(J:m<=1048576)(b:0<=m)(h:0<=jQ x m):∃y,x=pf y:=by
 unfold jQ at h;split at h
 ·omega
 ·obtain⟨l,a⟩:=hB.small hw J h;exact⟨⟨x.v,l⟩,by cases x;simp only[pf]at a⊢;rw[a]⟩
def ab0(x:dA fQ)(m:Int)(hw:yD x)(J:m<=1048576)(a:0<=m)(h:0<=eF x m):∃y,x=hd y:=Qz (P:=fun b:fQ=>b.t.wf) Qy arz x m (show dA.wf (fun b:fQ=>b.t.wf) x from hw) J a h
def ab9:∀(l:List bo) (m:Int),(∀x∈l,1<=x.s.length)->0<=jP jQ (l.map pf) m->(l.length:Int)<=m
 |[],m,_,h=>by simpa[jP]using h
 |x::l,m,J,h=>by
  simp only[gV,jP]at h;split at h
  ·omega
  ·rename_i U;have a:=ab9 l _ (fun y d=>J y (by simp[d])) h;have e:=J x Ψ;have c:jQ (pf x) m=if m-x.s.length<0 then-1 else m-x.s.length:=rfl
   rw[c]at U a;split at a
   ·rename_i b;rw[if_pos b]at U;omega
   ·simp only[mT];omega
def am5{s:List cU}(h:kq s=true):1<=s.length:=by
 cases s with
 |nil=>simp[kq]at h
 |cons c s=>simp
def arE{r:pI}(hw:r.wf)(h:0<=rQ r 1048576):∃u:gm,r=u.h/\(iT u.m->ky u.m):=by
 obtain⟨n,b,d,k,l⟩:=r;obtain⟨c,f,j,a⟩:=hw;simp only at c f j a;unfold rQ at h;simp only at h;have s:=vm b 1048576 Ω;split at h
 ·omega
 have t:=vn vm d (eF b 1048576) Ω;split at h
 ·omega
 have q:=J4 k (ft eF d (eF b 1048576)) Ω;split at h
 ·omega
 split at h
 ·omega
 obtain⟨b0,rfl⟩:=ab0 b 1048576 c Ω Ω Ω;obtain⟨g,rfl⟩:=Qz vm (P:=yD) ab0 d (eF (hd b0) 1048576) f Ω Ω Ω;generalize ft eF (.l (g.map hd)) (eF (hd b0) 1048576)=m at*;cases k with
 |b=>simp only[lC]at*;omega
 |l bt=>
  generalize lC (.l bt) m=i at*;have p:=vn FT l i Ω;obtain⟨e,rfl⟩:=Qz FT (P:=fun x=>x.s.wf) arA l i a Ω Ω Ω;refine⟨⟨n,b0,g,bt,e⟩,rfl,fun hm=>ky.of ?_⟩;simp only at hm⊢;simp only[ft,mn]at h;split at h
  ·omega
  ·have:=ab9 e _ (fun x o=>am5 (hm.at' x o).2) h;simp only[List.length_map]at this;omega
def as9(r:pI)(hw:r.wf)(m:Int)(i:0<=m)(J:m<=1048576):bU au 26 [r.e,aj m] (aj (rQ r m)):=by
 generalize bs:rQ r m=R;obtain⟨n,b,d,k,l⟩:=r;obtain⟨y,s,v,q⟩:=hw;simp only at y s v q;unfold rQ at bs;simp only[pI.e]at bs⊢;have H:=ac2 b y m i J;have G:=vm b m i;generalize eF b m=j at bs H G;have t:_->bU au 72 [uB d,aj j] (aj (ft eF d j)):=fun h=>as6 d (fun p n c e=>by subst e;exact s) (fun xs e x E m i J=>by subst e;exact ac2 x (s x E) m i J) j h Ω;have B:=fun h=>vn vm d j h;generalize ft eF d j=g at bs t B;have o:_->_->bU au 73 [u1 k,aj g] (aj (lC k g)):=fun h A=>ata k v g h A;have z:=fun h=>J4 k g h;generalize lC k g=f at bs o z;have a:_->_->bU au 74 [vc l,aj f] (aj (ft jQ l f)):=fun h A=>as8 l (fun p n c e=>by subst e;exact q) (fun xs e x E m i J=>by subst e;exact as7 x (q x E) m i J) f h A;have w:=fun h=>vn FT l f h;generalize ft jQ l f=F at bs a w;clear y s v q;by_cases g1:j<0
 ·rw[if_pos g1]at bs;subst bs;clear t o a;refine bH a1 Tryz.func26 E9 fun u=>?_;unfold AV;exact cp
 rw[if_neg g1]at bs;have t:=t Ω;have B:=B Ω;by_cases g2:g<0
 ·rw[if_pos g2]at bs;subst bs;clear o a;refine bH a1 Tryz.func26 E9 fun u=>?_;unfold AV;exact cp
 rw[if_neg g2]at bs;have o:=o Ω Ω;have z:=z Ω;by_cases g3:f<0
 ·rw[if_pos g3]at bs;subst bs;clear a;refine bH a1 Tryz.func26 E9 fun u=>?_;unfold AV;exact cp
 rw[if_neg g3]at bs;have a:=a Ω Ω;have w:=w Ω;by_cases g4:F<0
 ·rw[if_pos g4]at bs;subst bs;refine bH a1 Tryz.func26 E9 fun u=>?_;unfold AV;exact cp
 rw[if_neg g4]at bs;subst bs;refine bH a1 Tryz.func26 E9 fun u=>?_;unfold AV;exact cp
def gm.kk(r:gm)(κ:Nat):af:= .agg [aj r.n,.slice 5 (.tr (.loc κ) 0) (r.b.map Bt.e),.slice 1 (.tr (.loc κ) 1) (r.d.map gz),.slice 2 (.tr (.loc κ) 2) (r.k.map bI.e),.slice 2 (.tr (.loc κ) 3) (r.m.map bo.e)]
def Za(r:gm):gf au 28 [r.e] r.kk:=by obtain⟨n,b,d,k,l⟩:=r;simp only[gm.e];unfold gm.kk;have a:=Y9 b;have f:=ank d fun x _=>Y9 x;have e:=apt k fun x _=>atf x;have c:=aps l fun x _=>atd x;unfold gz qs at a;refine gf.mk mixed a1 Tryz.func28 aoq Ψ fun g κ=>?_;unfold S1;simp;(repeat' first|refine al ?_|simp);(refine CallDo.own Ψ (a) (by simp[ef]) ?_;simp);(repeat' first|refine al ?_|simp);(refine CallDo.own Ψ (f) (by simp[ef]) ?_;simp);(repeat' first|refine al ?_|simp);(refine CallDo.own Ψ (e) (by simp[ef]) ?_;simp);(repeat' first|refine al ?_|simp);(refine CallDo.own Ψ (c) (by simp[ef]) ?_;simp);(repeat' first|refine al ?_|simp);(refine ih.val Ψ ?_;simp[ba,bf,a6,ff,hy,eD,gX,eg,gO,tnL,tn,fs,gb,fold,hJ,hI,iO,ae,ef,cf,b7])
def ate(r:gm):bU au 28 [r.e] r.e:=by have:=(Za r).val (by simp[gm.kk,b7]);simpa[gm.kk,gm.e,b7]using this
def acG(r:gm):bU au 30 [r.e,r.e] (.bool true):=by obtain⟨n,b,d,k,l⟩:=r;simp only[gm.e];have g:bU au 37 [bL (b.map Bt.e),bL (b.map Bt.e)] (.bool true):=acF b;have e:=asd d fun x _=>acF x;have c:=asi k fun x _=>ash x;have a:=asf l fun x _=>ase x;refine bH a1 Tryz.func30 aod fun f=>?_;unfold SL;exact cp
end
section
open Go Go.Pv Go.ChangeShapes Go.WideShapes Go.ChangeAt Go.RowKit Go.Deep
section
variable {H:Type} {enc:gU×Value->H} {W:World} {spare:Nat->Bool} {held:Bool} {cs:List Value} {x:DataW H×List MemPlace} {fuel:Nat}
def Dx:au.cellsOf 3=1:=bi
def T7:au.cellsOf 9=1:=bi
def LB:au.cellsOf 24=4:=bi
def aeB:au.cellsOf 22=1:=bi
def T3:au.cellsOf 111=5:=bi
def T4:au.cellsOf 38=1:=bi
def aex:au.cellsOf 39=1:=bi
def T5:au.cellsOf 158=2:=bi
def aey:au.cellsOf 40=1:=bi
def T6:au.cellsOf 146=2:=bi
def aez:au.cellsOf 41=1:=bi
def aeA:au.cellsOf 43=5:=bi
def zH(h:jS enc au W 0 spare held fuel 3 cs=some x):∃(n:Int) (v:Value),cs=[v]/\wO W (.int .i64 n) v:=by obtain⟨n,rfl,_,_⟩:=DataW.trod_int Tryz.underlying3 h;exact⟨n,_,rfl,by simp only[aV],rfl,rfl⟩
def abT(h:jS enc au W 0 spare held fuel 9 cs=some x):∃(s:hB) (v:Value),s.wf/\cs=[v]/\wO W s.e v:=by
 obtain⟨s,rfl,_,hm⟩:=DataW.trod_string Tryz.underlying9 h;by_cases a:lim<s.size
 ·exact⟨.b s,_,⟨a,by unfold maxLen at hm;omega⟩,rfl,by simp only[hB.e,aV],rfl,rfl⟩
 ·refine⟨.s s.data.toList,_,trivial,rfl,?_,rfl,rfl⟩;simp only[hB.e,aV];refine⟨Ψ,?_⟩;have:s.data.toList.length=s.size:=rfl;omega
def Yf{α:Type}:∀{cs:List α},cs.length=2->∃a b,cs=[a,b]
 |[a,b],_=>⟨a,b,rfl⟩
def amj{α:Type}:∀{cs:List α},cs.length=4->∃a b c d,cs=[a,b,c,d]
 |[a,b,c,d],_=>⟨a,b,c,d,rfl⟩
def Yg{α:Type}:∀{cs:List α},cs.length=5->∃a b c d e,cs=[a,b,c,d,e]
 |[a,b,c,d,e],_=>⟨a,b,c,d,e,rfl⟩
def ace:∀(fuel:Nat) (cs:List Value) (x:DataW H×List MemPlace),jS enc au W 0 spare held fuel 24 cs=some x->∃t:cF,t.wf/\cY W (sg W) [.int .i64 t.kind,.int .i64 t.num,t.name.e,t.args.e 4 cF.e] cs:=by
 intro fuel;induction fuel using Nat.strongRecOn with
 |ind fuel F=>
  intro cs x h;obtain⟨xs,n,rfl,_,hlen,A,q⟩:=DataW.trod_struct Tryz.underlying24 h;rw[LB]at hlen;obtain⟨e,o,j,g,rfl⟩:=amj hlen;have J:xs.length=4:=A;have f0:jS enc au W 0 spare held n 3 (([e,o,j,g].drop 0).take (au.cellsOf 3))=xs[0]?:=q 0 _ rfl;have f1:jS enc au W 0 spare held n 3 (([e,o,j,g].drop 1).take (au.cellsOf 3))=xs[1]?:=q 1 _ rfl;have f2:jS enc au W 0 spare held n 9 (([e,o,j,g].drop 2).take (au.cellsOf 9))=xs[2]?:=q 2 _ rfl;have f3:jS enc au W 0 spare held n 22 (([e,o,j,g].drop 3).take (au.cellsOf 22))=xs[3]?:=q 3 _ rfl;simp only[Dx,T7,aeB,oU,mU]at f0 f1 f2 f3;rw[cl Ω]at f0 f1 f2 f3;obtain⟨k,v0,u,r0⟩:=zH f0;obtain⟨m,v1,y,i⟩:=zH f1;obtain⟨s,v2,v,z,f⟩:=abT f2;obtain⟨l,r,v3,w,d⟩:=FL cF.e cF.wf Tryz.underlying22 LB Ω (fun n' cs' x' G B=>by obtain⟨t,t1,t2⟩:=F n' Ω cs' x' B;exact⟨t,t1,by rw[cF.e_eq];exact CH t2⟩) f3
  simp only[rX,jc]at u y z w;subst u y z w;cases l with
  |l a=>
   refine⟨.mk k m s a,?_,?_⟩
   ·simp only[cF.wf,cF.wfL_iff];exact⟨v,r⟩
   ·simp only[cY,cF.kind,cF.num,cF.name,cF.args];exact⟨_,_,rfl,⟨r0.1,r0.2.1⟩,_,_,rfl,⟨i.1,i.2.1⟩,_,_,rfl,⟨f.1,f.2.1⟩,_,_,rfl,⟨d.1,d.2.1⟩,rfl⟩
  |b p E c=>
   refine⟨.big k m s p E c,?_,?_⟩
   ·simp only[cF.wf];exact⟨v,r⟩
   ·simp only[cY,cF.kind,cF.num,cF.name,cF.args];exact⟨_,_,rfl,⟨r0.1,r0.2.1⟩,_,_,rfl,⟨i.1,i.2.1⟩,_,_,rfl,⟨f.1,f.2.1⟩,_,_,rfl,⟨d.1,d.2.1⟩,rfl⟩
def aeg(h:jS enc au W 0 spare held fuel 111 cs=some x):∃b:fQ,b.t.wf/\reads W b.e cs:=by obtain⟨xs,n,rfl,_,hlen,j,i⟩:=DataW.trod_struct Tryz.underlying111 h;rw[T3]at hlen;obtain⟨a,g,f,e,d,rfl⟩:=Yg hlen;have o:xs.length=2:=j;have f0:jS enc au W 0 spare held n 3 (([a,g,f,e,d].drop 0).take (au.cellsOf 3))=xs[0]?:=i 0 _ rfl;have f1:jS enc au W 0 spare held n 24 (([a,g,f,e,d].drop 1).take (au.cellsOf 24))=xs[1]?:=i 1 _ rfl;simp only[Dx,LB,oU,mU]at f0 f1;rw[cl Ω]at f0 f1;obtain⟨k,v0,c,r0⟩:=zH f0;obtain⟨t,l,m⟩:=ace _ _ _ f1;simp only[rX,jc]at c;subst c;refine⟨⟨k,t⟩,l,CH ?_⟩;rw[cY];exact⟨_,_,rfl,⟨r0.1,r0.2.1⟩,m⟩
def amb(h:jS enc au W 0 spare held fuel 158 cs=some x):∃b:bI,True/\reads W b.e cs:=by obtain⟨xs,n,rfl,_,hlen,i,g⟩:=DataW.trod_struct Tryz.underlying158 h;rw[T5]at hlen;obtain⟨a,e,rfl⟩:=Yf hlen;have j:xs.length=2:=i;have f0:jS enc au W 0 spare held n 3 (([a,e].drop 0).take (au.cellsOf 3))=xs[0]?:=g 0 _ rfl;have f1:jS enc au W 0 spare held n 3 (([a,e].drop 1).take (au.cellsOf 3))=xs[1]?:=g 1 _ rfl;simp only[Dx,oU,mU]at f0 f1;rw[cl Ω]at f0 f1;obtain⟨k,v0,c,r0⟩:=zH f0;obtain⟨m,v1,f,d⟩:=zH f1;simp only[rX,jc]at c f;subst c f;refine⟨⟨k,m⟩,trivial,CH ?_⟩;simp only[cY];exact⟨_,_,rfl,⟨r0.1,r0.2.1⟩,_,_,rfl,⟨d.1,d.2.1⟩,rfl⟩
def amw(h:jS enc au W 0 spare held fuel 146 cs=some x):∃b:iw,b.s.wf/\reads W b.e cs:=by obtain⟨xs,n,rfl,_,hlen,i,g⟩:=DataW.trod_struct Tryz.underlying146 h;rw[T6]at hlen;obtain⟨a,e,rfl⟩:=Yf hlen;have l:xs.length=2:=i;have f0:jS enc au W 0 spare held n 3 (([a,e].drop 0).take (au.cellsOf 3))=xs[0]?:=g 0 _ rfl;have f1:jS enc au W 0 spare held n 9 (([a,e].drop 1).take (au.cellsOf 9))=xs[1]?:=g 1 _ rfl;simp only[Dx,T7,oU,mU]at f0 f1;rw[cl Ω]at f0 f1;obtain⟨k,v0,c,r0⟩:=zH f0;obtain⟨s,v1,j,f,d⟩:=abT f1;simp only[rX,jc]at c f;subst c f;refine⟨⟨k,s⟩,j,CH ?_⟩;simp only[cY];exact⟨_,_,rfl,⟨r0.1,r0.2.1⟩,_,_,rfl,⟨d.1,d.2.1⟩,rfl⟩
def RI(h:jS enc au W 0 spare held fuel 38 cs=some x):∃d:dA fQ,yD d/\∃v,cs=[v]/\wO W (k8 d) v:=FL fQ.e (fun b=>b.t.wf) Tryz.underlying38 T3 Ω (fun _ _ _ _ a=>aeg a) h
def aeh(h:jS enc au W 0 spare held fuel 39 cs=some x):∃d:dA (dA fQ),d.wf yD/\∃v,cs=[v]/\wO W (uB d) v:=FL k8 yD Tryz.underlying39 T4 Ω (fun _ _ _ _ a=>by obtain⟨d,w,v,rfl,r⟩:=RI a;exact⟨d,w,r.reads⟩) h
def ame(h:jS enc au W 0 spare held fuel 40 cs=some x):∃d:dA bI,d.wf (fun _=>True)/\∃v,cs=[v]/\wO W (u1 d) v:=FL bI.e (fun _=>True) Tryz.underlying40 T5 Ω (fun _ _ _ _ a=>amb a) h
def amx(h:jS enc au W 0 spare held fuel 41 cs=some x):∃d:dA iw,d.wf (fun b=>b.s.wf)/\∃v,cs=[v]/\wO W (vc d) v:=FL iw.e (fun b=>b.s.wf) Tryz.underlying41 T6 Ω (fun _ _ _ _ a=>amw a) h
def arp(h:jS enc au W 0 spare held fuel 43 cs=some x):∃r:pI,r.wf/\reads W r.e cs:=by obtain⟨xs,n,rfl,_,hlen,z,i⟩:=DataW.trod_struct Tryz.underlying43 h;rw[aeA]at hlen;obtain⟨a,g,f,d,b,rfl⟩:=Yg hlen;have E:xs.length=5:=z;have f0:jS enc au W 0 spare held n 3 (([a,g,f,d,b].drop 0).take (au.cellsOf 3))=xs[0]?:=i 0 _ rfl;have f1:jS enc au W 0 spare held n 38 (([a,g,f,d,b].drop 1).take (au.cellsOf 38))=xs[1]?:=i 1 _ rfl;have f2:jS enc au W 0 spare held n 39 (([a,g,f,d,b].drop 2).take (au.cellsOf 39))=xs[2]?:=i 2 _ rfl;have f3:jS enc au W 0 spare held n 40 (([a,g,f,d,b].drop 3).take (au.cellsOf 40))=xs[3]?:=i 3 _ rfl;have f4:jS enc au W 0 spare held n 41 (([a,g,f,d,b].drop 4).take (au.cellsOf 41))=xs[4]?:=i 4 _ rfl;simp only[Dx,T4,aex,aey,aez,oU,mU]at f0 f1 f2 f3 f4;rw[cl Ω]at f0 f1 f2 f3 f4;obtain⟨k,v0,l,r0⟩:=zH f0;obtain⟨d1,A,v1,t,o⟩:=RI f1;obtain⟨d2,B,v2,u,m⟩:=aeh f2;obtain⟨d3,w,v3,q,j⟩:=ame f3;obtain⟨d4,y,v4,s,v⟩:=amx f4;simp only[rX,jc]at l t u q s;subst l t u q s;refine⟨⟨k,d1,d2,d3,d4⟩,⟨A,B,fun p n c e=>by simp only at e;subst e;exact w,y⟩,CH ?_⟩;simp only[cY];exact⟨_,_,rfl,⟨r0.1,r0.2.1⟩,_,_,rfl,⟨o.1,o.2.1⟩,_,_,rfl,⟨m.1,m.2.1⟩,_,_,rfl,⟨j.1,j.2.1⟩,_,_,rfl,⟨v.1,v.2.1⟩,rfl⟩
end
end
section
open Go Go.Pv Go.ChangeShapes Go.WideShapes Go.ChangeAt Go.RowKit
def aqG:ownKnob au.godebug=none:=bi
def P3:laidOutB au=true:=bi
def aes{f:FuncId}{fn:Func}(q:au.funcs[f]? =some fn)(c:∀args w,(callFunc f args).run au w= .ok (.enter f args) w){w:World}{ν:bc}{args:List af}{bm:Array Value}(h:bU au f args (.bool true))(l:∀k j b,¬ν.tr k j b)(m:∀b o,ν.A b o->b<w.heap.size)(i:∀k,ν.bx k=none)(ar:∀k,ν.ow k=none)(p:c7 w ν args bm.toList):
  Calls au f bm w fun e w'=>e= .returned (.bool true)/\Below w.heap.size w w':=by
 have be:Pv.Good (fC ν ⟨[],[]⟩) w ν [] []:=⟨m,fun k cs ab=>by simp[ae]at ab,fun k bt bl J=>by simp[ae]at J,fun g o ab=>by simp[ae]at ab,fun g s n n' v v' bl J=>by simp[ae]at J,fun g k n v bl J=>by simp[ae]at J,fun k=>.inl (i k),fun _ _ k j=>l k j _⟩;rcases h w ν bm be (fun k=>⟨fun _=>i k,fun _=>ar k,l k⟩) p with⟨_,ax⟩|⟨v,w',ax,_⟩
 ·refine ax.mono ?_;rintro e w' ⟨v,r,t,bn,rfl,⟨rfl,rfl⟩,d,_,_,_,a⟩;simp only[aV]at d;subst d;refine⟨rfl,a.os,a.tape,a.output,a.size,fun k ab=>a.block k ab ?_⟩;simp[fC,ae]
 ·rw[c]at ax;cases ax
def afu{W:World}{b o:Nat}(h:(sg W).A b o):b<W.heap.size:=by
 obtain⟨u,hu⟩:=h;rcases Nat.lt_or_ge b W.heap.size with h|h
 ·exact h
 ·simp[World.cell?,Array.getElem?_eq_none h]at hu
def aa5{W:World}{a:List af}{us:Array Value}(h:reads W (.agg a) us.toList):aV W (sg W) (.agg a) (.agg us):=by
 obtain⟨v,J,U,_⟩:=h;have b:=U;simp only[aV]at b;obtain⟨ws,rfl,_⟩:=b;have:ws=us:=by
  have:ws.toList=us.toList:=by simpa[pz]using J
  exact Array.toList_inj.1 this
 rw[<-this];exact U
def acd{H:Type}{enc:gU×Value->H}{W:World}{spare:Nat->Bool}{held:Bool}{us:Array Value}{x:DataW H×List MemPlace}{fuel:Nat}(h:jS enc au W 0 spare held fuel 24 us.toList=some x):∃t:cF,t.wf/\aV W (sg W) t.e (.agg us):=by obtain⟨t,J,U⟩:=ace fuel _ x h;exact⟨t,J,by rw[cF.e_eq];exact aa5 (CH U)⟩
def aro{H:Type}{enc:gU×Value->H}{W:World}{spare:Nat->Bool}{held:Bool}{us:Array Value}{x:DataW H×List MemPlace}{fuel:Nat}(h:jS enc au W 0 spare held fuel 43 us.toList=some x):∃r:pI,r.wf/\aV W (sg W) r.e (.agg us):=by obtain⟨r,b,a⟩:=arp h;exact⟨r,b,aa5 a⟩
end
end Go.Proofs.YtahlgcidhnjlbaaGreat
