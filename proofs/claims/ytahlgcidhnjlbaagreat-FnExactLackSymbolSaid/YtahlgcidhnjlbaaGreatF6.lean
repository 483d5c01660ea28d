/- From a contract to the row. -/
import Derived.ProofKit
import Derived.Carry
import Derived.WalkKit
import Derived.Test.YtahlgcidhnjlbaaGreatF5
set_option linter.all false
set_option maxHeartbeats 4000000
set_option maxRecDepth 4000
open Go renaming TypeId->gQ
open Go.DataW renaming trod->jB
open Go.Proofs.Tryz renaming prog->au
open Go.Value renaming cells->pw
open List renaming drop->oV,getElem?_eq_getElem->cl,length_cons->mw,map_cons->ha,take->mX
open List.cons renaming injEq->rR
open _root_ renaming UInt8->cJ,and_true->jf
namespace Go.Proofs.YtahlgcidhnjlbaaGreat
section
open Go Go.Pv
def ux(d:dA (dA fR)):af:=d.e 1 k9
def uV(k:dA bJ):af:=k.e 2 bJ.e
def u5(m:dA iz):af:=m.e 2 iz.e
@[simp]def av5(S:aB->Prop)(d:dA (dA fR)):az S (ux d)=True:=by cases d<;>simp[ux,dA.e,az]
@[simp]def axW(d:dA (dA fR)):b7 (ux d)=ux d:=by
 cases d with
 |l l=>
  have:∀l:List (dA fR),cf (l.map k9)=l.map k9:=by
   intro l;induction l with
   |nil=>rfl
   |cons x l a=>simp[cf,a]
  simp[ux,dA.e,b7,this]
 |b=>simp[ux,dA.e,b7]
@[simp]def awc(S:aB->Prop)(d:dA bJ):az S (uV d)=True:=by cases d<;>simp[uV,dA.e,az]
@[simp]def ax3(d:dA bJ):b7 (uV d)=uV d:=by
 cases d with
 |l l=>
  have:∀l:List bJ,cf (l.map bJ.e)=l.map bJ.e:=by
   intro l;induction l with
   |nil=>rfl
   |cons x l a=>simp[cf,a]
  simp[uV,dA.e,b7,this]
 |b=>simp[uV,dA.e,b7]
@[simp]def awe(S:aB->Prop)(d:dA iz):az S (u5 d)=True:=by cases d<;>simp[u5,dA.e,az]
@[simp]def ax5(d:dA iz):b7 (u5 d)=u5 d:=by
 cases d with
 |l l=>
  have:∀l:List iz,cf (l.map iz.e)=l.map iz.e:=by
   intro l;induction l with
   |nil=>rfl
   |cons x l a=>simp[cf,a]
  simp[u5,dA.e,b7,this]
 |b=>simp[u5,dA.e,b7]
structure ot where
 n:Int
 b:dA fR
 d:dA (dA fR)
 k:dA bJ
 m:dA iz
def ot.e(r:ot):af:= .agg [aj r.n,k9 r.b,ux r.d,uV r.k,u5 r.m]
structure ot.wf (r:ot):Prop where
 b:yy r.b
 d:r.d.wf yy
 k:∀p n cap,r.k= .b p n cap->mV n
 m:r.m.wf fun x=>x.s.wf
def rM(r:ot)(m:Int):Int:=if eF r.b m<0 then-1 else if fs eF r.d (eF r.b m)<0 then-1 else if lD r.k (fs eF r.d (eF r.b m))<0 then-1 else if fs jU r.m (lD r.k (fs eF r.d (eF r.b m)))<0 then-1 else fs jU r.m (lD r.k (fs eF r.d (eF r.b m)))
def vG(b:Bt):fR:=⟨b.v,qa b.t⟩
def pf(b:bn):iz:=⟨b.v,.s b.s⟩
def aei(b:Bt):(vG b).e=b.e:=by have h:=QM b.t;rw[cG.e_eq,vJ]at h;simp only[af.agg.injEq,rR,jf,true_and]at h;obtain⟨J,U,a,c⟩:=h;show af.agg [_,_,_,_,_]=af.agg [_,_,_,_,_];rw[show(vG b).t=qa b.t from rfl,J,U,a,c];rfl
def amV(b:bn):(pf b).e=b.e:=rfl
def aej(l:List Bt):(l.map vG).map fR.e=l.map Bt.e:=by rw[List.map_map];exact List.map_congr_left fun b _=>aei b
def amW(l:List bn):(l.map pf).map iz.e=l.map bn.e:=by rw[List.map_map];exact List.map_congr_left fun b _=>amV b
def hc(d:List Bt):dA fR:= .l (d.map vG)
def Ur(d:List Bt):k9 (hc d)=gA d:=by simp only[k9,hc,dA.e,gA,aej]
def afa(l:List (List Bt)):(l.map hc).map k9=l.map gA:=by rw[List.map_map];exact List.map_congr_left fun b _=>Ur b
def gn.h(r:gn):ot:=⟨r.n,hc r.b,.l (r.d.map hc),.l r.k,.l (r.m.map pf)⟩
def arw(r:gn):r.h.e=r.e:=by simp only[ot.e,gn.h,gn.e,Ur,ux,uV,u5,dA.e,afa,amW];rfl
def arF(x:fR)(m:Int)(hw:x.t.wf)(J:m<=1048576)(a:0<=m)(h:0<=qU x m):∃y,x=vG y:=by obtain⟨u,hu⟩:=QD x.t m hw J a h;exact⟨⟨x.v,u⟩,by cases x;simp only[vG]at hu⊢;rw[hu]⟩
def arG(x:iz)(m:Int)(hw:x.s.wf)(J:m<=1048576)(b:0<=m)(h:0<=jU x m):∃y,x=pf y:=by
 unfold jU at h;split at h
 ·omega
 ·obtain⟨l,a⟩:=gW.small hw J h;exact⟨⟨x.v,l⟩,by cases x;simp only[pf]at a⊢;rw[a]⟩
def abU(x:dA fR)(m:Int)(hw:yy x)(J:m<=1048576)(a:0<=m)(h:0<=eF x m):∃y,x=hc y:=QC (P:=fun b:fR=>b.t.wf) QB arF x m (show dA.wf (fun b:fR=>b.t.wf) x from hw) J a h
def ab3:∀(l:List bn) (m:Int),(∀x∈l,1<=x.s.length)->0<=jT jU (l.map pf) m->(l.length:Int)<=m
 |[],m,_,h=>by simpa[jT]using h
 |x::l,m,J,h=>by
  simp only[ha,jT]at h;split at h
  ·omega
  ·rename_i U;have a:=ab3 l _ (fun y d=>J y (by simp[d])) h;have e:=J x Ψ;have c:jU (pf x) m=if m-x.s.length<0 then-1 else m-x.s.length:=rfl
   rw[c]at U a;split at a
   ·rename_i b;rw[if_pos b]at U;omega
   ·simp only[mw];omega
def am7{s:List cJ}(h:ib s=true):1<=s.length:=by
 cases s with
 |nil=>simp[ib]at h
 |cons c s=>simp
def atf(r:ot)(hw:r.wf)(m:Int)(j:0<=m)(J:m<=1048576):bT au 26 [r.e,aj m] (aj (rM r m)):=by
 generalize bt:rM r m=R;obtain⟨n,b,d,k,l⟩:=r;obtain⟨y,s,v,q⟩:=hw;simp only at y s v q;unfold rM at bt;simp only[ot.e]at bt⊢;have H:=acW b y m j J;have G:=vh b m j;generalize eF b m=f at bt H G;have t:_->bT au 72 [ux d,aj f] (aj (fs eF d f)):=fun h=>atc d (fun p n c e=>by subst e;exact s) (fun xs e x E m j J=>by subst e;exact acW x (s x E) m j J) f h Ω;have B:=fun h=>vi vh d f h;generalize fs eF d f=i at bt t B;have o:_->_->bT au 73 [uV k,aj i] (aj (lD k i)):=fun h A=>atg k v i h A;have z:=fun h=>J7 k i h;generalize lD k i=g at bt o z;have a:_->_->bT au 74 [u5 l,aj g] (aj (fs jU l g)):=fun h A=>ate l (fun p n c e=>by subst e;exact q) (fun xs e x E m j J=>by subst e;exact atd x (q x E) m j J) g h A;have w:=fun h=>vi F1 l g h;generalize fs jU l g=F at bt a w;clear y s v q;by_cases g1:f<0
 ·rw[if_pos g1]at bt;subst bt;clear t o a;refine bI a1 Tryz.func26 Fh fun u=>?_;unfold AT;exact cn
 rw[if_neg g1]at bt;have t:=t Ω;have B:=B Ω;by_cases g2:i<0
 ·rw[if_pos g2]at bt;subst bt;clear o a;refine bI a1 Tryz.func26 Fh fun u=>?_;unfold AT;exact cn
 rw[if_neg g2]at bt;have o:=o Ω Ω;have z:=z Ω;by_cases g3:g<0
 ·rw[if_pos g3]at bt;subst bt;clear a;refine bI a1 Tryz.func26 Fh fun u=>?_;unfold AT;exact cn
 rw[if_neg g3]at bt;have a:=a Ω Ω;have w:=w Ω;by_cases g4:F<0
 ·rw[if_pos g4]at bt;subst bt;refine bI a1 Tryz.func26 Fh fun u=>?_;unfold AT;exact cn
 rw[if_neg g4]at bt;subst bt;refine bI a1 Tryz.func26 Fh fun u=>?_;unfold AT;exact cn
def gn.kk(r:gn)(κ:Nat):af:= .agg [aj r.n,.slice 5 (.tr (.loc κ) 0) (r.b.map Bt.e),.slice 1 (.tr (.loc κ) 1) (r.d.map gA),.slice 2 (.tr (.loc κ) 2) (r.k.map bJ.e),.slice 2 (.tr (.loc κ) 3) (r.m.map bn.e)]
def Y7(r:gn):fJ au 28 [r.e] r.kk:=by obtain⟨n,b,d,k,l⟩:=r;simp only[gn.e];unfold gn.kk;have a:=Y6 b;have f:=anm d fun x _=>Y6 x;have e:=apx k fun x _=>atm x;have c:=apw l fun x _=>atj x;unfold gA qp at a;refine fJ.mk mixed a1 Tryz.func28 aos Ψ fun g κ=>?_;unfold S4;simp;(repeat' first|refine ao ?_|simp);(refine CallDo.own Ψ (a) (by simp[eg]) ?_;simp);(repeat' first|refine ao ?_|simp);(refine CallDo.own Ψ (f) (by simp[eg]) ?_;simp);(repeat' first|refine ao ?_|simp);(refine CallDo.own Ψ (e) (by simp[eg]) ?_;simp);(repeat' first|refine ao ?_|simp);(refine CallDo.own Ψ (c) (by simp[eg]) ?_;simp);(repeat' first|refine ao ?_|simp);(refine hV.val Ψ ?_;simp[bc,bf,a6,e3,hj,ez,gO,ed,gH,tnL,tn,fm,fX,fold,hy,hv,iA,ae,eg,cf,b7])
def atk(r:gn):bT au 28 [r.e] r.e:=by have:=(Y7 r).val (by simp[gn.kk,b7]);simpa[gn.kk,gn.e,b7]using this
def acy(r:gn):bT au 30 [r.e,r.e] (.bool true):=by obtain⟨n,b,d,k,l⟩:=r;simp only[gn.e];have g:bT au 37 [bL (b.map Bt.e),bL (b.map Bt.e)] (.bool true):=acx b;have e:=asl d fun x _=>acx x;have c:=asq k fun x _=>asp x;have a:=asn l fun x _=>asm x;refine bI a1 Tryz.func30 aof fun f=>?_;unfold SO;exact cn
end
section
open Go Go.Pv Go.ChangeShapes Go.WideShapes Go.ChangeAt Go.RowKit Go.Deep
section
variable {H:Type} {enc:gQ×Value->H} {W:World} {spare:Nat->Bool} {held:Bool} {cs:List Value} {x:DataW H×List MemPlace} {fuel:Nat}
def DB:au.cellsOf 3=1:=bi
def Ua:au.cellsOf 9=1:=bi
def LA:au.cellsOf 24=4:=bi
def aev:au.cellsOf 22=1:=bi
def T6:au.cellsOf 111=5:=bi
def T7:au.cellsOf 38=1:=bi
def aer:au.cellsOf 39=1:=bi
def T8:au.cellsOf 158=2:=bi
def aes:au.cellsOf 40=1:=bi
def T9:au.cellsOf 146=2:=bi
def aet:au.cellsOf 41=1:=bi
def aeu:au.cellsOf 43=5:=bi
def zD(h:jB enc au W 0 spare held fuel 3 cs=some x):∃(n:Int) (v:Value),cs=[v]/\wJ W (.int .i64 n) v:=by obtain⟨n,rfl,_,_⟩:=DataW.trod_int Tryz.underlying3 h;exact⟨n,_,rfl,by simp only[aU],rfl,rfl⟩
def Qs(h:jB enc au W 0 spare held fuel 9 cs=some x):∃(s:gW) (v:Value),s.wf/\cs=[v]/\wJ W s.e v:=by
 obtain⟨s,rfl,_,hm⟩:=DataW.trod_string Tryz.underlying9 h;by_cases a:lim<s.size
 ·exact⟨.b s,_,⟨a,by unfold maxLen at hm;omega⟩,rfl,by simp only[gW.e,aU],rfl,rfl⟩
 ·refine⟨.s s.data.toList,_,trivial,rfl,?_,rfl,rfl⟩;simp only[gW.e,aU];refine⟨Ψ,?_⟩;have:s.data.toList.length=s.size:=rfl;omega
def Ya{α:Type}:∀{cs:List α},cs.length=2->∃a b,cs=[a,b]
 |[a,b],_=>⟨a,b,rfl⟩
def amk{α:Type}:∀{cs:List α},cs.length=4->∃a b c d,cs=[a,b,c,d]
 |[a,b,c,d],_=>⟨a,b,c,d,rfl⟩
def Yb{α:Type}:∀{cs:List α},cs.length=5->∃a b c d e,cs=[a,b,c,d,e]
 |[a,b,c,d,e],_=>⟨a,b,c,d,e,rfl⟩
def ab6:∀(fuel:Nat) (cs:List Value) (x:DataW H×List MemPlace),jB enc au W 0 spare held fuel 24 cs=some x->∃t:cG,t.wf/\cW W (rb W) [.int .i64 t.kind,.int .i64 t.num,t.name.e,t.args.e 4 cG.e] cs:=by
 intro fuel;induction fuel using Nat.strongRecOn with
 |ind fuel F=>
  intro cs x h;obtain⟨xs,n,rfl,_,hlen,A,q⟩:=DataW.trod_struct Tryz.underlying24 h;rw[LA]at hlen;obtain⟨e,o,j,g,rfl⟩:=amk hlen;have J:xs.length=4:=A;have f0:jB enc au W 0 spare held n 3 (([e,o,j,g].drop 0).take (au.cellsOf 3))=xs[0]?:=q 0 _ rfl;have f1:jB enc au W 0 spare held n 3 (([e,o,j,g].drop 1).take (au.cellsOf 3))=xs[1]?:=q 1 _ rfl;have f2:jB enc au W 0 spare held n 9 (([e,o,j,g].drop 2).take (au.cellsOf 9))=xs[2]?:=q 2 _ rfl;have f3:jB enc au W 0 spare held n 22 (([e,o,j,g].drop 3).take (au.cellsOf 22))=xs[3]?:=q 3 _ rfl;simp only[DB,Ua,aev,oV,mX]at f0 f1 f2 f3;rw[cl Ω]at f0 f1 f2 f3;obtain⟨k,v0,u,r0⟩:=zD f0;obtain⟨m,v1,y,i⟩:=zD f1;obtain⟨s,v2,v,z,f⟩:=Qs f2;obtain⟨l,r,v3,w,d⟩:=FT cG.e cG.wf Tryz.underlying22 LA Ω (fun n' cs' x' G B=>by obtain⟨t,t1,t2⟩:=F n' Ω cs' x' B;exact⟨t,t1,by rw[cG.e_eq];exact CI t2⟩) f3
  simp only[rR,jf]at u y z w;subst u y z w;cases l with
  |l a=>
   refine⟨.mk k m s a,?_,?_⟩
   ·simp only[cG.wf,cG.wfL_iff];exact⟨v,r⟩
   ·simp only[cW,cG.kind,cG.num,cG.name,cG.args];exact⟨_,_,rfl,⟨r0.1,r0.2.1⟩,_,_,rfl,⟨i.1,i.2.1⟩,_,_,rfl,⟨f.1,f.2.1⟩,_,_,rfl,⟨d.1,d.2.1⟩,rfl⟩
  |b p E c=>
   refine⟨.big k m s p E c,?_,?_⟩
   ·simp only[cG.wf];exact⟨v,r⟩
   ·simp only[cW,cG.kind,cG.num,cG.name,cG.args];exact⟨_,_,rfl,⟨r0.1,r0.2.1⟩,_,_,rfl,⟨i.1,i.2.1⟩,_,_,rfl,⟨f.1,f.2.1⟩,_,_,rfl,⟨d.1,d.2.1⟩,rfl⟩
def aea(h:jB enc au W 0 spare held fuel 111 cs=some x):∃b:fR,b.t.wf/\reads W b.e cs:=by obtain⟨xs,n,rfl,_,hlen,j,i⟩:=DataW.trod_struct Tryz.underlying111 h;rw[T6]at hlen;obtain⟨a,g,f,e,d,rfl⟩:=Yb hlen;have o:xs.length=2:=j;have f0:jB enc au W 0 spare held n 3 (([a,g,f,e,d].drop 0).take (au.cellsOf 3))=xs[0]?:=i 0 _ rfl;have f1:jB enc au W 0 spare held n 24 (([a,g,f,e,d].drop 1).take (au.cellsOf 24))=xs[1]?:=i 1 _ rfl;simp only[DB,LA,oV,mX]at f0 f1;rw[cl Ω]at f0 f1;obtain⟨k,v0,c,r0⟩:=zD f0;obtain⟨t,l,m⟩:=ab6 _ _ _ f1;simp only[rR,jf]at c;subst c;refine⟨⟨k,t⟩,l,CI ?_⟩;rw[cW];exact⟨_,_,rfl,⟨r0.1,r0.2.1⟩,m⟩
def amc(h:jB enc au W 0 spare held fuel 158 cs=some x):∃b:bJ,True/\reads W b.e cs:=by obtain⟨xs,n,rfl,_,hlen,i,g⟩:=DataW.trod_struct Tryz.underlying158 h;rw[T8]at hlen;obtain⟨a,e,rfl⟩:=Ya hlen;have j:xs.length=2:=i;have f0:jB enc au W 0 spare held n 3 (([a,e].drop 0).take (au.cellsOf 3))=xs[0]?:=g 0 _ rfl;have f1:jB enc au W 0 spare held n 3 (([a,e].drop 1).take (au.cellsOf 3))=xs[1]?:=g 1 _ rfl;simp only[DB,oV,mX]at f0 f1;rw[cl Ω]at f0 f1;obtain⟨k,v0,c,r0⟩:=zD f0;obtain⟨m,v1,f,d⟩:=zD f1;simp only[rR,jf]at c f;subst c f;refine⟨⟨k,m⟩,trivial,CI ?_⟩;simp only[cW];exact⟨_,_,rfl,⟨r0.1,r0.2.1⟩,_,_,rfl,⟨d.1,d.2.1⟩,rfl⟩
def amx(h:jB enc au W 0 spare held fuel 146 cs=some x):∃b:iz,b.s.wf/\reads W b.e cs:=by obtain⟨xs,n,rfl,_,hlen,i,g⟩:=DataW.trod_struct Tryz.underlying146 h;rw[T9]at hlen;obtain⟨a,e,rfl⟩:=Ya hlen;have l:xs.length=2:=i;have f0:jB enc au W 0 spare held n 3 (([a,e].drop 0).take (au.cellsOf 3))=xs[0]?:=g 0 _ rfl;have f1:jB enc au W 0 spare held n 9 (([a,e].drop 1).take (au.cellsOf 9))=xs[1]?:=g 1 _ rfl;simp only[DB,Ua,oV,mX]at f0 f1;rw[cl Ω]at f0 f1;obtain⟨k,v0,c,r0⟩:=zD f0;obtain⟨s,v1,j,f,d⟩:=Qs f1;simp only[rR,jf]at c f;subst c f;refine⟨⟨k,s⟩,j,CI ?_⟩;simp only[cW];exact⟨_,_,rfl,⟨r0.1,r0.2.1⟩,_,_,rfl,⟨d.1,d.2.1⟩,rfl⟩
def RM(h:jB enc au W 0 spare held fuel 38 cs=some x):∃d:dA fR,yy d/\∃v,cs=[v]/\wJ W (k9 d) v:=FT fR.e (fun b=>b.t.wf) Tryz.underlying38 T6 Ω (fun _ _ _ _ a=>aea a) h
def aeb(h:jB enc au W 0 spare held fuel 39 cs=some x):∃d:dA (dA fR),d.wf yy/\∃v,cs=[v]/\wJ W (ux d) v:=FT k9 yy Tryz.underlying39 T7 Ω (fun _ _ _ _ a=>by obtain⟨d,w,v,rfl,r⟩:=RM a;exact⟨d,w,r.reads⟩) h
def amf(h:jB enc au W 0 spare held fuel 40 cs=some x):∃d:dA bJ,d.wf (fun _=>True)/\∃v,cs=[v]/\wJ W (uV d) v:=FT bJ.e (fun _=>True) Tryz.underlying40 T8 Ω (fun _ _ _ _ a=>amc a) h
def amy(h:jB enc au W 0 spare held fuel 41 cs=some x):∃d:dA iz,d.wf (fun b=>b.s.wf)/\∃v,cs=[v]/\wJ W (u5 d) v:=FT iz.e (fun b=>b.s.wf) Tryz.underlying41 T9 Ω (fun _ _ _ _ a=>amx a) h
def arv(h:jB enc au W 0 spare held fuel 43 cs=some x):∃r:ot,r.wf/\reads W r.e cs:=by obtain⟨xs,n,rfl,_,hlen,z,i⟩:=DataW.trod_struct Tryz.underlying43 h;rw[aeu]at hlen;obtain⟨a,g,f,d,b,rfl⟩:=Yb hlen;have E:xs.length=5:=z;have f0:jB enc au W 0 spare held n 3 (([a,g,f,d,b].drop 0).take (au.cellsOf 3))=xs[0]?:=i 0 _ rfl;have f1:jB enc au W 0 spare held n 38 (([a,g,f,d,b].drop 1).take (au.cellsOf 38))=xs[1]?:=i 1 _ rfl;have f2:jB enc au W 0 spare held n 39 (([a,g,f,d,b].drop 2).take (au.cellsOf 39))=xs[2]?:=i 2 _ rfl;have f3:jB enc au W 0 spare held n 40 (([a,g,f,d,b].drop 3).take (au.cellsOf 40))=xs[3]?:=i 3 _ rfl;have f4:jB enc au W 0 spare held n 41 (([a,g,f,d,b].drop 4).take (au.cellsOf 41))=xs[4]?:=i 4 _ rfl;simp only[DB,T7,aer,aes,aet,oV,mX]at f0 f1 f2 f3 f4;rw[cl Ω]at f0 f1 f2 f3 f4;obtain⟨k,v0,l,r0⟩:=zD f0;obtain⟨d1,A,v1,t,o⟩:=RM f1;obtain⟨d2,B,v2,u,m⟩:=aeb f2;obtain⟨d3,w,v3,q,j⟩:=amf f3;obtain⟨d4,y,v4,s,v⟩:=amy f4;simp only[rR,jf]at l t u q s;subst l t u q s;refine⟨⟨k,d1,d2,d3,d4⟩,⟨A,B,fun p n c e=>by simp only at e;subst e;exact w,y⟩,CI ?_⟩;simp only[cW];exact⟨_,_,rfl,⟨r0.1,r0.2.1⟩,_,_,rfl,⟨o.1,o.2.1⟩,_,_,rfl,⟨m.1,m.2.1⟩,_,_,rfl,⟨j.1,j.2.1⟩,_,_,rfl,⟨v.1,v.2.1⟩,rfl⟩
end
end
section
open Go Go.Pv Go.ChangeShapes Go.WideShapes Go.ChangeAt Go.RowKit
def aqK:ownKnob au.godebug=none:=bi
def P5:laidOutB au=true:=bi
def aem{f:FuncId}{fn:Func}(q:au.funcs[f]? =some fn)(c:∀args w,(callFunc f args).run au w= .ok (.enter f args) w){w:World}{ν:bd}{args:List af}{bm:Array Value}(h:bT au f args (.bool true))(l:∀k j b,¬ν.tr k j b)(m:∀b o,ν.A b o->b<w.heap.size)(i:∀k,ν.bx k=none)(ar:∀k,ν.ow k=none)(p:c7 w ν args bm.toList):
  Calls au f bm w fun e w'=>e= .returned (.bool true)/\Below w.heap.size w w':=by
 have a7:Pv.Good (fB ν ⟨[],[]⟩) w ν [] []:=⟨m,fun k cs ab=>by simp[ae]at ab,fun k bs bl J=>by simp[ae]at J,fun g o ab=>by simp[ae]at ab,fun g s n n' v v' bl J=>by simp[ae]at J,fun g k n v bl J=>by simp[ae]at J,fun k=>.inl (i k),fun _ _ k j=>l k j _⟩;rcases h w ν bm a7 (fun k=>⟨fun _=>i k,fun _=>ar k,l k⟩) p with⟨_,aw⟩|⟨v,w',aw,_⟩
 ·refine aw.mono ?_;rintro e w' ⟨v,r,t,bo,rfl,⟨rfl,rfl⟩,d,_,_,_,a⟩;simp only[aU]at d;subst d;refine⟨rfl,a.os,a.tape,a.output,a.size,fun k ab=>a.block k ab ?_⟩;simp[fB,ae]
 ·rw[c]at aw;cases aw
def afs{W:World}{b o:Nat}(h:(rb W).A b o):b<W.heap.size:=by
 obtain⟨u,hu⟩:=h;rcases Nat.lt_or_ge b W.heap.size with h|h
 ·exact h
 ·simp[World.cell?,Array.getElem?_eq_none h]at hu
def aa0{W:World}{a:List af}{us:Array Value}(h:reads W (.agg a) us.toList):aU W (rb W) (.agg a) (.agg us):=by
 obtain⟨v,J,U,_⟩:=h;have b:=U;simp only[aU]at b;obtain⟨ws,rfl,_⟩:=b;have:ws=us:=by
  have:ws.toList=us.toList:=by simpa[pw]using J
  exact Array.toList_inj.1 this
 rw[<-this];exact U
def arM{H:Type}{enc:gQ×Value->H}{W:World}{spare:Nat->Bool}{held:Bool}{us:Array Value}{x:DataW H×List MemPlace}{fuel:Nat}(h:jB enc au W 0 spare held fuel 24 us.toList=some x):∃t:cG,t.wf/\aU W (rb W) t.e (.agg us):=by obtain⟨t,J,U⟩:=ab6 fuel _ x h;exact⟨t,J,by rw[cG.e_eq];exact aa0 (CI U)⟩
def aru{H:Type}{enc:gQ×Value->H}{W:World}{spare:Nat->Bool}{held:Bool}{us:Array Value}{x:DataW H×List MemPlace}{fuel:Nat}(h:jB enc au W 0 spare held fuel 43 us.toList=some x):∃r:ot,r.wf/\aU W (rb W) r.e (.agg us):=by obtain⟨r,b,a⟩:=arv h;exact⟨r,b,aa0 a⟩
end
end Go.Proofs.YtahlgcidhnjlbaaGreat
