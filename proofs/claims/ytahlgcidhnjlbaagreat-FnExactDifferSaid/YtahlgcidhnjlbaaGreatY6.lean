/- From a contract to the row. -/
import Derived.ProofKit
import Derived.Carry
import Derived.WalkKit
import Derived.Test.YtahlgcidhnjlbaaGreatY5
set_option linter.all false
set_option maxHeartbeats 4000000
set_option maxRecDepth 4000
open Go renaming TypeId->gW
open Go.DataW renaming trod->jS
open Go.Proofs.Tryz renaming prog->au
open Go.Value renaming cells->pK
open List renaming drop->o1,getElem?_eq_getElem->ck,length_cons->mZ,map_cons->gX,take->na
open List.cons renaming injEq->r5
open _root_ renaming UInt8->cV,and_true->jb
namespace Go.Proofs.YtahlgcidhnjlbaaGreat
section
open Go Go.Pv
def uF(d:dz (dz fQ)):af:=d.e 1 la
def u6(k:dz bJ):af:=k.e 2 bJ.e
def vh(m:dz ix):af:=m.e 2 ix.e
@[simp]def awt(S:aB->Prop)(d:dz (dz fQ)):aA S (uF d)=True:=by cases d<;>simp[uF,dz.e,aA]
@[simp]def ayj(d:dz (dz fQ)):b3 (uF d)=uF d:=by
 cases d with
 |l l=>
  have:∀l:List (dz fQ),b9 (l.map la)=l.map la:=by
   intro l;induction l with
   |nil=>rfl
   |cons x l a=>simp[b9,a]
  simp[uF,dz.e,b3,this]
 |b=>simp[uF,dz.e,b3]
@[simp]def awA(S:aB->Prop)(d:dz bJ):aA S (u6 d)=True:=by cases d<;>simp[u6,dz.e,aA]
@[simp]def ayq(d:dz bJ):b3 (u6 d)=u6 d:=by
 cases d with
 |l l=>
  have:∀l:List bJ,b9 (l.map bJ.e)=l.map bJ.e:=by
   intro l;induction l with
   |nil=>rfl
   |cons x l a=>simp[b9,a]
  simp[u6,dz.e,b3,this]
 |b=>simp[u6,dz.e,b3]
@[simp]def awC(S:aB->Prop)(d:dz ix):aA S (vh d)=True:=by cases d<;>simp[vh,dz.e,aA]
@[simp]def ays(d:dz ix):b3 (vh d)=vh d:=by
 cases d with
 |l l=>
  have:∀l:List ix,b9 (l.map ix.e)=l.map ix.e:=by
   intro l;induction l with
   |nil=>rfl
   |cons x l a=>simp[b9,a]
  simp[vh,dz.e,b3,this]
 |b=>simp[vh,dz.e,b3]
structure pS where
 n:Int
 b:dz fQ
 d:dz (dz fQ)
 k:dz bJ
 m:dz ix
def pS.e(r:pS):af:= .agg [aj r.n,la r.b,uF r.d,u6 r.k,vh r.m]
structure pS.wf (r:pS):Prop where
 b:yM r.b
 d:r.d.wf yM
 k:∀p n cap,r.k= .b p n cap->oj n
 m:r.m.wf fun x=>x.s.wf
def rX(r:pS)(m:Int):Int:=if eF r.b m<0 then-1 else if fw eF r.d (eF r.b m)<0 then-1 else if lF r.k (fw eF r.d (eF r.b m))<0 then-1 else if fw jQ r.m (lF r.k (fw eF r.d (eF r.b m)))<0 then-1 else fw jQ r.m (lF r.k (fw eF r.d (eF r.b m)))
def vT(b:Bt):fQ:=⟨b.v,pG b.t⟩
def pw(b:bn):ix:=⟨b.v,.s b.s⟩
def aeP(b:Bt):(vT b).e=b.e:=by have h:=Ks b.t;rw[cE.e_eq,uK]at h;simp only[af.agg.injEq,r5,jb,true_and]at h;obtain⟨J,U,a,c⟩:=h;show af.agg [_,_,_,_,_]=af.agg [_,_,_,_,_];rw[show(vT b).t=pG b.t from rfl,J,U,a,c];rfl
def anm(b:bn):(pw b).e=b.e:=rfl
def aeQ(l:List Bt):(l.map vT).map fQ.e=l.map Bt.e:=by rw[List.map_map];exact List.map_congr_left fun b _=>aeP b
def ann(l:List bn):(l.map pw).map ix.e=l.map bn.e:=by rw[List.map_map];exact List.map_congr_left fun b _=>anm b
def hf(d:List Bt):dz fQ:= .l (d.map vT)
def UQ(d:List Bt):la (hf d)=gB d:=by simp only[la,hf,dz.e,gB,aeQ]
def afF(l:List (List Bt)):(l.map hf).map la=l.map gB:=by rw[List.map_map];exact List.map_congr_left fun b _=>UQ b
def gp.h(r:gp):pS:=⟨r.n,hf r.b,.l (r.d.map hf),.l r.k,.l (r.m.map pw)⟩
def arU(r:gp):r.h.e=r.e:=by simp only[pS.e,gp.h,gp.e,UQ,uF,u6,vh,dz.e,afF,ann];rfl
def ar2(x:fQ)(m:Int)(hw:x.t.wf)(J:m<=1048576)(a:0<=m)(h:0<=q7 x m):∃y,x=vT y:=by obtain⟨u,hu⟩:=Ko x.t m hw J a h;exact⟨⟨x.v,u⟩,by cases x;simp only[vT]at hu⊢;rw[hu]⟩
def ar3(x:ix)(m:Int)(hw:x.s.wf)(J:m<=1048576)(b:0<=m)(h:0<=jQ x m):∃y,x=pw y:=by
 unfold jQ at h;split at h
 ·omega
 ·obtain⟨l,a⟩:=hB.small hw J h;exact⟨⟨x.v,l⟩,by cases x;simp only[pw]at a⊢;rw[a]⟩
def acw(x:dz fQ)(m:Int)(hw:yM x)(J:m<=1048576)(a:0<=m)(h:0<=eF x m):∃y,x=hf y:=QV (P:=fun b:fQ=>b.t.wf) QU ar2 x m (show dz.wf (fun b:fQ=>b.t.wf) x from hw) J a h
def acF:∀(l:List bn) (m:Int),(∀x∈l,1<=x.s.length)->0<=jP jQ (l.map pw) m->(l.length:Int)<=m
 |[],m,_,h=>by simpa[jP]using h
 |x::l,m,J,h=>by
  simp only[gX,jP]at h;split at h
  ·omega
  ·rename_i U;have a:=acF l _ (fun y d=>J y (by simp[d])) h;have e:=J x Ψ;have c:jQ (pw x) m=if m-x.s.length<0 then-1 else m-x.s.length:=rfl
   rw[c]at U a;split at a
   ·rename_i b;rw[if_pos b]at U;omega
   ·simp only[mZ];omega
def anz{s:List cV}(h:kt s=true):1<=s.length:=by
 cases s with
 |nil=>simp[kt]at h
 |cons c s=>simp
def ar7{r:pS}(hw:r.wf)(h:0<=rX r 1048576):∃u:gp,r=u.h/\(iT u.m->kC u.m):=by
 obtain⟨n,b,d,k,l⟩:=r;obtain⟨c,f,j,a⟩:=hw;simp only at c f j a;unfold rX at h;simp only at h;have s:=vr b 1048576 Ω;split at h
 ·omega
 have t:=vs vr d (eF b 1048576) Ω;split at h
 ·omega
 have q:=Km k (fw eF d (eF b 1048576)) Ω;split at h
 ·omega
 split at h
 ·omega
 obtain⟨b0,rfl⟩:=acw b 1048576 c Ω Ω Ω;obtain⟨g,rfl⟩:=QV vr (P:=yM) acw d (eF (hf b0) 1048576) f Ω Ω Ω;generalize fw eF (.l (g.map hf)) (eF (hf b0) 1048576)=m at*;cases k with
 |b=>simp only[lF]at*;omega
 |l bs=>
  generalize lF (.l bs) m=i at*;have p:=vs F9 l i Ω;obtain⟨e,rfl⟩:=QV F9 (P:=fun x=>x.s.wf) ar3 l i a Ω Ω Ω;refine⟨⟨n,b0,g,bs,e⟩,rfl,fun hm=>kC.of ?_⟩;simp only at hm⊢;simp only[fw,mv]at h;split at h
  ·omega
  ·have:=acF e _ (fun x o=>anz (hm.at' x o).2) h;simp only[List.length_map]at this;omega
def atD(r:pS)(hw:r.wf)(m:Int)(i:0<=m)(J:m<=1048576):bT au 26 [r.e,aj m] (aj (rX r m)):=by
 generalize br:rX r m=R;obtain⟨n,b,d,k,l⟩:=r;obtain⟨y,s,v,q⟩:=hw;simp only at y s v q;unfold rX at br;simp only[pS.e]at br⊢;have H:=adv b y m i J;have G:=vr b m i;generalize eF b m=j at br H G;have t:_->bT au 72 [uF d,aj j] (aj (fw eF d j)):=fun h=>atA d (fun p n c e=>by subst e;exact s) (fun xs e x E m i J=>by subst e;exact adv x (s x E) m i J) j h Ω;have B:=fun h=>vs vr d j h;generalize fw eF d j=g at br t B;have o:_->_->bT au 73 [u6 k,aj g] (aj (lF k g)):=fun h A=>atE k v g h A;have z:=fun h=>Km k g h;generalize lF k g=f at br o z;have a:_->_->bT au 74 [vh l,aj f] (aj (fw jQ l f)):=fun h A=>atC l (fun p n c e=>by subst e;exact q) (fun xs e x E m i J=>by subst e;exact atB x (q x E) m i J) f h A;have w:=fun h=>vs F9 l f h;generalize fw jQ l f=F at br a w;clear y s v q;by_cases g1:j<0
 ·rw[if_pos g1]at br;subst br;clear t o a;refine bF a6 Tryz.func26 Fs fun u=>?_;unfold A2;exact cn
 rw[if_neg g1]at br;have t:=t Ω;have B:=B Ω;by_cases g2:g<0
 ·rw[if_pos g2]at br;subst br;clear o a;refine bF a6 Tryz.func26 Fs fun u=>?_;unfold A2;exact cn
 rw[if_neg g2]at br;have o:=o Ω Ω;have z:=z Ω;by_cases g3:f<0
 ·rw[if_pos g3]at br;subst br;clear a;refine bF a6 Tryz.func26 Fs fun u=>?_;unfold A2;exact cn
 rw[if_neg g3]at br;have a:=a Ω Ω;have w:=w Ω;by_cases g4:F<0
 ·rw[if_pos g4]at br;subst br;refine bF a6 Tryz.func26 Fs fun u=>?_;unfold A2;exact cn
 rw[if_neg g4]at br;subst br;refine bF a6 Tryz.func26 Fs fun u=>?_;unfold A2;exact cn
def gp.kk(r:gp)(κ:Nat):af:= .agg [aj r.n,.slice 5 (.tr (.loc κ) 0) (r.b.map Bt.e),.slice 1 (.tr (.loc κ) 1) (r.d.map gB),.slice 2 (.tr (.loc κ) 2) (r.k.map bJ.e),.slice 2 (.tr (.loc κ) 3) (r.m.map bn.e)]
def ZA(r:gp):fY au 28 [r.e] r.kk:=by obtain⟨n,b,d,k,l⟩:=r;simp only[gp.e];unfold gp.kk;have a:=Zz b;have e:=anP d fun x _=>Zz x;have f:=apX k fun x _=>atJ x;have c:=apW l fun x _=>atH x;unfold gB qF at a;refine fY.mk mixed a6 Tryz.func28 aoU Ψ fun g κ=>?_;unfold Ts;simp;(repeat' first|refine al ?_|simp);(refine CallDo.own Ψ (a) g8 ?_;simp);(repeat' first|refine al ?_|simp);(refine CallDo.own Ψ (e) g8 ?_;simp);(repeat' first|refine al ?_|simp);(refine CallDo.own Ψ (f) g8 ?_;simp);(repeat' first|refine al ?_|simp);(refine CallDo.own Ψ (c) g8 ?_;simp);(repeat' first|refine al ?_|simp);(refine h3.val Ψ ?_;simp[ba,be,a1,fb,hp,eD,gS,eh,gI,tnL,tn,fq,fW,fold,hE,hC,iJ,ae,ef,b9,b3])
def atI(r:gp):bT au 28 [r.e] r.e:=by have:=(ZA r).val (by simp[gp.kk,b3]);simpa[gp.kk,gp.e,b3]using this
def ada(r:gp):bT au 30 [r.e,r.e] (.bool true):=by obtain⟨n,b,d,k,l⟩:=r;simp only[gp.e];have g:bT au 37 [bH (b.map Bt.e),bH (b.map Bt.e)] (.bool true):=ac9 b;have c:=asG d fun x _=>ac9 x;have e:=asL k fun x _=>asK x;have a:=asI l fun x _=>asH x;refine bF a6 Tryz.func30 aoH fun f=>?_;unfold Te;exact cn
end
section
open Go Go.Pv Go.ChangeShapes Go.WideShapes Go.ChangeAt Go.RowKit Go.Deep
section
variable {H:Type} {enc:gW×Value->H} {W:World} {spare:Nat->Bool} {held:Bool} {cs:List Value} {x:DataW H×List MemPlace} {fuel:Nat}
def DK:au.cellsOf 3=1:=bi
def Ux:au.cellsOf 9=1:=bi
def LV:au.cellsOf 24=4:=bi
def ae2:au.cellsOf 22=1:=bi
def Ut:au.cellsOf 111=5:=bi
def Uu:au.cellsOf 38=1:=bi
def aeY:au.cellsOf 39=1:=bi
def Uv:au.cellsOf 158=2:=bi
def aeZ:au.cellsOf 40=1:=bi
def Uw:au.cellsOf 146=2:=bi
def ae0:au.cellsOf 41=1:=bi
def ae1:au.cellsOf 43=5:=bi
def zP(h:jS enc au W 0 spare held fuel 3 cs=some x):∃(n:Int) (v:Value),cs=[v]/\wV W (.int .i64 n) v:=by obtain⟨n,rfl,_,_⟩:=DataW.trod_int Tryz.underlying3 h;exact⟨n,_,rfl,by simp only[aU],rfl,rfl⟩
def aco(h:jS enc au W 0 spare held fuel 9 cs=some x):∃(s:hB) (v:Value),s.wf/\cs=[v]/\wV W s.e v:=by
 obtain⟨s,rfl,_,hm⟩:=DataW.trod_string Tryz.underlying9 h;by_cases a:lim<s.size
 ·exact⟨.b s,_,⟨a,by unfold maxLen at hm;omega⟩,rfl,by simp only[hB.e,aU],rfl,rfl⟩
 ·refine⟨.s s.data.toList,_,trivial,rfl,?_,rfl,rfl⟩;simp only[hB.e,aU];refine⟨Ψ,?_⟩;have:s.data.toList.length=s.size:=rfl;omega
def YF{α:Type}:∀{cs:List α},cs.length=2->∃a b,cs=[a,b]
 |[a,b],_=>⟨a,b,rfl⟩
def amM{α:Type}:∀{cs:List α},cs.length=4->∃a b c d,cs=[a,b,c,d]
 |[a,b,c,d],_=>⟨a,b,c,d,rfl⟩
def YG{α:Type}:∀{cs:List α},cs.length=5->∃a b c d e,cs=[a,b,c,d,e]
 |[a,b,c,d,e],_=>⟨a,b,c,d,e,rfl⟩
def acJ:∀(fuel:Nat) (cs:List Value) (x:DataW H×List MemPlace),jS enc au W 0 spare held fuel 24 cs=some x->∃t:cE,t.wf/\cW W (sr W) [.int .i64 t.kind,.int .i64 t.num,t.name.e,t.args.e 4 cE.e] cs:=by
 intro fuel;induction fuel using Nat.strongRecOn with
 |ind fuel F=>
  intro cs x h;obtain⟨xs,n,rfl,_,hlen,A,q⟩:=DataW.trod_struct Tryz.underlying24 h;rw[LV]at hlen;obtain⟨e,o,j,g,rfl⟩:=amM hlen;have J:xs.length=4:=A;have f0:jS enc au W 0 spare held n 3 (([e,o,j,g].drop 0).take (au.cellsOf 3))=xs[0]?:=q 0 _ rfl;have f1:jS enc au W 0 spare held n 3 (([e,o,j,g].drop 1).take (au.cellsOf 3))=xs[1]?:=q 1 _ rfl;have f2:jS enc au W 0 spare held n 9 (([e,o,j,g].drop 2).take (au.cellsOf 9))=xs[2]?:=q 2 _ rfl;have f3:jS enc au W 0 spare held n 22 (([e,o,j,g].drop 3).take (au.cellsOf 22))=xs[3]?:=q 3 _ rfl;simp only[DK,Ux,ae2,o1,na]at f0 f1 f2 f3;rw[ck Ω]at f0 f1 f2 f3;obtain⟨k,v0,u,r0⟩:=zP f0;obtain⟨m,v1,y,i⟩:=zP f1;obtain⟨s,v2,v,z,f⟩:=aco f2;obtain⟨l,r,v3,w,d⟩:=F2 cE.e cE.wf Tryz.underlying22 LV Ω (fun n' cs' x' G B=>by obtain⟨t,t1,t2⟩:=F n' Ω cs' x' B;exact⟨t,t1,by rw[cE.e_eq];exact CQ t2⟩) f3
  simp only[r5,jb]at u y z w;subst u y z w;cases l with
  |l a=>
   refine⟨.mk k m s a,?_,?_⟩
   ·simp only[cE.wf,cE.wfL_iff];exact⟨v,r⟩
   ·simp only[cW,cE.kind,cE.num,cE.name,cE.args];exact⟨_,_,rfl,⟨r0.1,r0.2.1⟩,_,_,rfl,⟨i.1,i.2.1⟩,_,_,rfl,⟨f.1,f.2.1⟩,_,_,rfl,⟨d.1,d.2.1⟩,rfl⟩
  |b p E c=>
   refine⟨.big k m s p E c,?_,?_⟩
   ·simp only[cE.wf];exact⟨v,r⟩
   ·simp only[cW,cE.kind,cE.num,cE.name,cE.args];exact⟨_,_,rfl,⟨r0.1,r0.2.1⟩,_,_,rfl,⟨i.1,i.2.1⟩,_,_,rfl,⟨f.1,f.2.1⟩,_,_,rfl,⟨d.1,d.2.1⟩,rfl⟩
def aeH(h:jS enc au W 0 spare held fuel 111 cs=some x):∃b:fQ,b.t.wf/\reads W b.e cs:=by obtain⟨xs,n,rfl,_,hlen,j,i⟩:=DataW.trod_struct Tryz.underlying111 h;rw[Ut]at hlen;obtain⟨a,g,f,e,d,rfl⟩:=YG hlen;have o:xs.length=2:=j;have f0:jS enc au W 0 spare held n 3 (([a,g,f,e,d].drop 0).take (au.cellsOf 3))=xs[0]?:=i 0 _ rfl;have f1:jS enc au W 0 spare held n 24 (([a,g,f,e,d].drop 1).take (au.cellsOf 24))=xs[1]?:=i 1 _ rfl;simp only[DK,LV,o1,na]at f0 f1;rw[ck Ω]at f0 f1;obtain⟨k,v0,c,r0⟩:=zP f0;obtain⟨t,l,m⟩:=acJ _ _ _ f1;simp only[r5,jb]at c;subst c;refine⟨⟨k,t⟩,l,CQ ?_⟩;rw[cW];exact⟨_,_,rfl,⟨r0.1,r0.2.1⟩,m⟩
def amE(h:jS enc au W 0 spare held fuel 158 cs=some x):∃b:bJ,True/\reads W b.e cs:=by obtain⟨xs,n,rfl,_,hlen,i,g⟩:=DataW.trod_struct Tryz.underlying158 h;rw[Uv]at hlen;obtain⟨a,e,rfl⟩:=YF hlen;have j:xs.length=2:=i;have f0:jS enc au W 0 spare held n 3 (([a,e].drop 0).take (au.cellsOf 3))=xs[0]?:=g 0 _ rfl;have f1:jS enc au W 0 spare held n 3 (([a,e].drop 1).take (au.cellsOf 3))=xs[1]?:=g 1 _ rfl;simp only[DK,o1,na]at f0 f1;rw[ck Ω]at f0 f1;obtain⟨k,v0,c,r0⟩:=zP f0;obtain⟨m,v1,f,d⟩:=zP f1;simp only[r5,jb]at c f;subst c f;refine⟨⟨k,m⟩,trivial,CQ ?_⟩;simp only[cW];exact⟨_,_,rfl,⟨r0.1,r0.2.1⟩,_,_,rfl,⟨d.1,d.2.1⟩,rfl⟩
def amZ(h:jS enc au W 0 spare held fuel 146 cs=some x):∃b:ix,b.s.wf/\reads W b.e cs:=by obtain⟨xs,n,rfl,_,hlen,i,g⟩:=DataW.trod_struct Tryz.underlying146 h;rw[Uw]at hlen;obtain⟨a,e,rfl⟩:=YF hlen;have l:xs.length=2:=i;have f0:jS enc au W 0 spare held n 3 (([a,e].drop 0).take (au.cellsOf 3))=xs[0]?:=g 0 _ rfl;have f1:jS enc au W 0 spare held n 9 (([a,e].drop 1).take (au.cellsOf 9))=xs[1]?:=g 1 _ rfl;simp only[DK,Ux,o1,na]at f0 f1;rw[ck Ω]at f0 f1;obtain⟨k,v0,c,r0⟩:=zP f0;obtain⟨s,v1,j,f,d⟩:=aco f1;simp only[r5,jb]at c f;subst c f;refine⟨⟨k,s⟩,j,CQ ?_⟩;simp only[cW];exact⟨_,_,rfl,⟨r0.1,r0.2.1⟩,_,_,rfl,⟨d.1,d.2.1⟩,rfl⟩
def R8(h:jS enc au W 0 spare held fuel 38 cs=some x):∃d:dz fQ,yM d/\∃v,cs=[v]/\wV W (la d) v:=F2 fQ.e (fun b=>b.t.wf) Tryz.underlying38 Ut Ω (fun _ _ _ _ a=>aeH a) h
def aeI(h:jS enc au W 0 spare held fuel 39 cs=some x):∃d:dz (dz fQ),d.wf yM/\∃v,cs=[v]/\wV W (uF d) v:=F2 la yM Tryz.underlying39 Uu Ω (fun _ _ _ _ a=>by obtain⟨d,w,v,rfl,r⟩:=R8 a;exact⟨d,w,r.reads⟩) h
def amH(h:jS enc au W 0 spare held fuel 40 cs=some x):∃d:dz bJ,d.wf (fun _=>True)/\∃v,cs=[v]/\wV W (u6 d) v:=F2 bJ.e (fun _=>True) Tryz.underlying40 Uv Ω (fun _ _ _ _ a=>amE a) h
def am0(h:jS enc au W 0 spare held fuel 41 cs=some x):∃d:dz ix,d.wf (fun b=>b.s.wf)/\∃v,cs=[v]/\wV W (vh d) v:=F2 ix.e (fun b=>b.s.wf) Tryz.underlying41 Uw Ω (fun _ _ _ _ a=>amZ a) h
def arT(h:jS enc au W 0 spare held fuel 43 cs=some x):∃r:pS,r.wf/\reads W r.e cs:=by obtain⟨xs,n,rfl,_,hlen,z,j⟩:=DataW.trod_struct Tryz.underlying43 h;rw[ae1]at hlen;obtain⟨a,g,f,d,b,rfl⟩:=YG hlen;have E:xs.length=5:=z;have f0:jS enc au W 0 spare held n 3 (([a,g,f,d,b].drop 0).take (au.cellsOf 3))=xs[0]?:=j 0 _ rfl;have f1:jS enc au W 0 spare held n 38 (([a,g,f,d,b].drop 1).take (au.cellsOf 38))=xs[1]?:=j 1 _ rfl;have f2:jS enc au W 0 spare held n 39 (([a,g,f,d,b].drop 2).take (au.cellsOf 39))=xs[2]?:=j 2 _ rfl;have f3:jS enc au W 0 spare held n 40 (([a,g,f,d,b].drop 3).take (au.cellsOf 40))=xs[3]?:=j 3 _ rfl;have f4:jS enc au W 0 spare held n 41 (([a,g,f,d,b].drop 4).take (au.cellsOf 41))=xs[4]?:=j 4 _ rfl;simp only[DK,Uu,aeY,aeZ,ae0,o1,na]at f0 f1 f2 f3 f4;rw[ck Ω]at f0 f1 f2 f3 f4;obtain⟨k,v0,m,r0⟩:=zP f0;obtain⟨d1,A,v1,u,q⟩:=R8 f1;obtain⟨d2,B,v2,v,o⟩:=aeI f2;obtain⟨d3,w,v3,s,l⟩:=amH f3;obtain⟨d4,y,v4,t,i⟩:=am0 f4;simp only[r5,jb]at m u v s t;subst m u v s t;refine⟨⟨k,d1,d2,d3,d4⟩,⟨A,B,fun p n c e=>by simp only at e;subst e;exact w,y⟩,CQ ?_⟩;simp only[cW];exact⟨_,_,rfl,⟨r0.1,r0.2.1⟩,_,_,rfl,⟨q.1,q.2.1⟩,_,_,rfl,⟨o.1,o.2.1⟩,_,_,rfl,⟨l.1,l.2.1⟩,_,_,rfl,⟨i.1,i.2.1⟩,rfl⟩
end
end
section
open Go Go.Pv Go.ChangeShapes Go.WideShapes Go.ChangeAt Go.RowKit
def ara:ownKnob au.godebug=none:=bi
def Qn:laidOutB au=true:=bi
def aeT{f:FuncId}{fn:Func}(q:au.funcs[f]? =some fn)(p:∀args w,(callFunc f args).run au w= .ok (.enter f args) w){w:World}{ν:bc}{args:List af}{bk:Array Value}(h:bT au f args (.bool true))(i:∀k j b,¬ν.tr k j b)(l:∀b o,ν.A b o->b<w.heap.size)(d:∀k,ν.bx k=none)(aq:∀k,ν.ow k=none)(m:cZ w ν args bk.toList):
  Calls au f bk w fun e w'=>e= .returned (.bool true)/\Below w.heap.size w w':=by
 have bd:Pv.Good (ft ν ⟨[],[]⟩) w ν [] []:=⟨l,fun k cs ad=>by simp[ae]at ad,fun k bs bl J=>by simp[ae]at J,fun g o ad=>by simp[ae]at ad,fun g s n n' v v' bl J=>by simp[ae]at J,fun g k n v bl J=>by simp[ae]at J,fun k=>.inl (d k),fun _ _ k j=>i k j _⟩;rcases h w ν bk bd (fun k=>⟨fun _=>d k,fun _=>aq k,i k⟩) m with⟨_,ay⟩|⟨v,w',ay,_⟩
 ·refine ay.mono ?_;rintro e w' ⟨v,r,t,bm,rfl,⟨rfl,rfl⟩,c,_,_,_,a⟩;simp only[aU]at c;subst c;refine⟨rfl,a.os,a.tape,a.output,a.size,fun k ad=>a.block k ad ?_⟩;simp[ft,ae]
 ·rw[p]at ay;cases ay
def afU{W:World}{b o:Nat}(h:(sr W).A b o):b<W.heap.size:=by
 obtain⟨u,hu⟩:=h;rcases Nat.lt_or_ge b W.heap.size with h|h
 ·exact h
 ·simp[World.cell?,Array.getElem?_eq_none h]at hu
def abx{W:World}{a:List af}{us:Array Value}(h:reads W (.agg a) us.toList):aU W (sr W) (.agg a) (.agg us):=by
 obtain⟨v,J,U,_⟩:=h;have b:=U;simp only[aU]at b;obtain⟨ws,rfl,_⟩:=b;have:ws=us:=by
  have:ws.toList=us.toList:=by simpa[pK]using J
  exact Array.toList_inj.1 this
 rw[<-this];exact U
def acI{H:Type}{enc:gW×Value->H}{W:World}{spare:Nat->Bool}{held:Bool}{us:Array Value}{x:DataW H×List MemPlace}{fuel:Nat}(h:jS enc au W 0 spare held fuel 24 us.toList=some x):∃t:cE,t.wf/\aU W (sr W) t.e (.agg us):=by obtain⟨t,J,U⟩:=acJ fuel _ x h;exact⟨t,J,by rw[cE.e_eq];exact abx (CQ U)⟩
def arS{H:Type}{enc:gW×Value->H}{W:World}{spare:Nat->Bool}{held:Bool}{us:Array Value}{x:DataW H×List MemPlace}{fuel:Nat}(h:jS enc au W 0 spare held fuel 43 us.toList=some x):∃r:pS,r.wf/\aU W (sr W) r.e (.agg us):=by obtain⟨r,b,a⟩:=arT h;exact⟨r,b,abx a⟩
end
end Go.Proofs.YtahlgcidhnjlbaaGreat
