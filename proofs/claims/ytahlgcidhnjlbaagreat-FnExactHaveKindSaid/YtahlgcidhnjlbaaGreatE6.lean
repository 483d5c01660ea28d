/- From a contract to the row. -/
import Derived.ProofKit
import Derived.Carry
import Derived.WalkKit
import Derived.Test.YtahlgcidhnjlbaaGreatE5
set_option linter.all false
set_option maxHeartbeats 4000000
set_option maxRecDepth 4000
open Go renaming TypeId->gT
open Go.DataW renaming trod->jT
open Go.Proofs.Tryz renaming prog->au
open Go.Value renaming cells->pw
open List renaming drop->oV,getElem?_eq_getElem->cl,length_cons->mV,map_cons->gY,take->mW
open List.cons renaming injEq->rQ
open _root_ renaming UInt8->cS,and_true->jd
namespace Go.Proofs.YtahlgcidhnjlbaaGreat
section
open Go Go.Pv
def uv(d:dA (dA fP)):af:=d.e 1 k8
def uT(k:dA bH):af:=k.e 2 bH.e
def u3(m:dA ix):af:=m.e 2 ix.e
@[simp]def avX(S:aB->Prop)(d:dA (dA fP)):az S (uv d)=True:=by cases d<;>simp[uv,dA.e,az]
@[simp]def axO(d:dA (dA fP)):b5 (uv d)=uv d:=by
 cases d with
 |l l=>
  have:∀l:List (dA fP),cf (l.map k8)=l.map k8:=by
   intro l;induction l with
   |nil=>rfl
   |cons x l a=>simp[cf,a]
  simp[uv,dA.e,b5,this]
 |b=>simp[uv,dA.e,b5]
@[simp]def av4(S:aB->Prop)(d:dA bH):az S (uT d)=True:=by cases d<;>simp[uT,dA.e,az]
@[simp]def axV(d:dA bH):b5 (uT d)=uT d:=by
 cases d with
 |l l=>
  have:∀l:List bH,cf (l.map bH.e)=l.map bH.e:=by
   intro l;induction l with
   |nil=>rfl
   |cons x l a=>simp[cf,a]
  simp[uT,dA.e,b5,this]
 |b=>simp[uT,dA.e,b5]
@[simp]def av6(S:aB->Prop)(d:dA ix):az S (u3 d)=True:=by cases d<;>simp[u3,dA.e,az]
@[simp]def axX(d:dA ix):b5 (u3 d)=u3 d:=by
 cases d with
 |l l=>
  have:∀l:List ix,cf (l.map ix.e)=l.map ix.e:=by
   intro l;induction l with
   |nil=>rfl
   |cons x l a=>simp[cf,a]
  simp[u3,dA.e,b5,this]
 |b=>simp[u3,dA.e,b5]
structure pG where
 n:Int
 b:dA fP
 d:dA (dA fP)
 k:dA bH
 m:dA ix
def pG.e(r:pG):af:= .agg [aj r.n,k8 r.b,uv r.d,uT r.k,u3 r.m]
structure pG.wf (r:pG):Prop where
 b:yx r.b
 d:r.d.wf yx
 k:∀p n cap,r.k= .b p n cap->od n
 m:r.m.wf fun x=>x.s.wf
def rK(r:pG)(m:Int):Int:=if eE r.b m<0 then-1 else if fs eE r.d (eE r.b m)<0 then-1 else if lC r.k (fs eE r.d (eE r.b m))<0 then-1 else if fs jR r.m (lC r.k (fs eE r.d (eE r.b m)))<0 then-1 else fs jR r.m (lC r.k (fs eE r.d (eE r.b m)))
def vF(b:Bt):fP:=⟨b.v,qa b.t⟩
def pg(b:bo):ix:=⟨b.v,.s b.s⟩
def aee(b:Bt):(vF b).e=b.e:=by have h:=QJ b.t;rw[cH.e_eq,vI]at h;simp only[af.agg.injEq,rQ,jd,true_and]at h;obtain⟨J,U,a,c⟩:=h;show af.agg [_,_,_,_,_]=af.agg [_,_,_,_,_];rw[show(vF b).t=qa b.t from rfl,J,U,a,c];rfl
def amP(b:bo):(pg b).e=b.e:=rfl
def aef(l:List Bt):(l.map vF).map fP.e=l.map Bt.e:=by rw[List.map_map];exact List.map_congr_left fun b _=>aee b
def amQ(l:List bo):(l.map pg).map ix.e=l.map bo.e:=by rw[List.map_map];exact List.map_congr_left fun b _=>amP b
def ha(d:List Bt):dA fP:= .l (d.map vF)
def Uo(d:List Bt):k8 (ha d)=gz d:=by simp only[k8,ha,dA.e,gz,aef]
def ae5(l:List (List Bt)):(l.map ha).map k8=l.map gz:=by rw[List.map_map];exact List.map_congr_left fun b _=>Uo b
def gm.h(r:gm):pG:=⟨r.n,ha r.b,.l (r.d.map ha),.l r.k,.l (r.m.map pg)⟩
def ari(r:gm):r.h.e=r.e:=by simp only[pG.e,gm.h,gm.e,Uo,uv,uT,u3,dA.e,ae5,amQ];rfl
def ars(x:fP)(m:Int)(hw:x.t.wf)(J:m<=1048576)(a:0<=m)(h:0<=qT x m):∃y,x=vF y:=by obtain⟨u,hu⟩:=QA x.t m hw J a h;exact⟨⟨x.v,u⟩,by cases x;simp only[vF]at hu⊢;rw[hu]⟩
def art(x:ix)(m:Int)(hw:x.s.wf)(J:m<=1048576)(b:0<=m)(h:0<=jR x m):∃y,x=pg y:=by
 unfold jR at h;split at h
 ·omega
 ·obtain⟨l,a⟩:=hB.small hw J h;exact⟨⟨x.v,l⟩,by cases x;simp only[pg]at a⊢;rw[a]⟩
def abU(x:dA fP)(m:Int)(hw:yx x)(J:m<=1048576)(a:0<=m)(h:0<=eE x m):∃y,x=ha y:=Qz (P:=fun b:fP=>b.t.wf) Qy ars x m (show dA.wf (fun b:fP=>b.t.wf) x from hw) J a h
def ab3:∀(l:List bo) (m:Int),(∀x∈l,1<=x.s.length)->0<=jQ jR (l.map pg) m->(l.length:Int)<=m
 |[],m,_,h=>by simpa[jQ]using h
 |x::l,m,J,h=>by
  simp only[gY,jQ]at h;split at h
  ·omega
  ·rename_i U;have a:=ab3 l _ (fun y d=>J y (by simp[d])) h;have e:=J x Ψ;have c:jR (pg x) m=if m-x.s.length<0 then-1 else m-x.s.length:=rfl
   rw[c]at U a;split at a
   ·rename_i b;rw[if_pos b]at U;omega
   ·simp only[mV];omega
def am1{s:List cS}(h:ks s=true):1<=s.length:=by
 cases s with
 |nil=>simp[ks]at h
 |cons c s=>simp
def arx{r:pG}(hw:r.wf)(h:0<=rK r 1048576):∃u:gm,r=u.h/\(iU u.m->kM u.m):=by
 obtain⟨n,b,d,k,l⟩:=r;obtain⟨c,f,j,a⟩:=hw;simp only at c f j a;unfold rK at h;simp only at h;have s:=vg b 1048576 Ω;split at h
 ·omega
 have t:=vh vg d (eE b 1048576) Ω;split at h
 ·omega
 have q:=J0 k (fs eE d (eE b 1048576)) Ω;split at h
 ·omega
 split at h
 ·omega
 obtain⟨b2,rfl⟩:=abU b 1048576 c Ω Ω Ω;obtain⟨g,rfl⟩:=Qz vg (P:=yx) abU d (eE (ha b2) 1048576) f Ω Ω Ω;generalize fs eE (.l (g.map ha)) (eE (ha b2) 1048576)=m at*;cases k with
 |b=>simp only[lC]at*;omega
 |l bs=>
  generalize lC (.l bs) m=i at*;have p:=vh FT l i Ω;obtain⟨e,rfl⟩:=Qz FT (P:=fun x=>x.s.wf) art l i a Ω Ω Ω;refine⟨⟨n,b2,g,bs,e⟩,rfl,fun hm=>kM.of ?_⟩;simp only at hm⊢;simp only[fs,mq]at h;split at h
  ·omega
  ·have:=ab3 e _ (fun x o=>am1 (hm.at' x o).2) h;simp only[List.length_map]at this;omega
def as5(r:pG)(hw:r.wf)(m:Int)(i:0<=m)(J:m<=1048576):bU au 26 [r.e,aj m] (aj (rK r m)):=by
 generalize bt:rK r m=R;obtain⟨n,b,d,k,l⟩:=r;obtain⟨y,s,v,q⟩:=hw;simp only at y s v q;unfold rK at bt;simp only[pG.e]at bt⊢;have H:=acT b y m i J;have G:=vg b m i;generalize eE b m=j at bt H G;have t:_->bU au 72 [uv d,aj j] (aj (fs eE d j)):=fun h=>as2 d (fun p n c e=>by subst e;exact s) (fun xs e x E m i J=>by subst e;exact acT x (s x E) m i J) j h Ω;have B:=fun h=>vh vg d j h;generalize fs eE d j=g at bt t B;have o:_->_->bU au 73 [uT k,aj g] (aj (lC k g)):=fun h A=>as6 k v g h A;have z:=fun h=>J0 k g h;generalize lC k g=f at bt o z;have a:_->_->bU au 74 [u3 l,aj f] (aj (fs jR l f)):=fun h A=>as4 l (fun p n c e=>by subst e;exact q) (fun xs e x E m i J=>by subst e;exact as3 x (q x E) m i J) f h A;have w:=fun h=>vh FT l f h;generalize fs jR l f=F at bt a w;clear y s v q;by_cases g1:j<0
 ·rw[if_pos g1]at bt;subst bt;clear t o a;refine bI a6 Tryz.func26 E7 fun u=>?_;unfold AP;exact cr
 rw[if_neg g1]at bt;have t:=t Ω;have B:=B Ω;by_cases g2:g<0
 ·rw[if_pos g2]at bt;subst bt;clear o a;refine bI a6 Tryz.func26 E7 fun u=>?_;unfold AP;exact cr
 rw[if_neg g2]at bt;have o:=o Ω Ω;have z:=z Ω;by_cases g3:f<0
 ·rw[if_pos g3]at bt;subst bt;clear a;refine bI a6 Tryz.func26 E7 fun u=>?_;unfold AP;exact cr
 rw[if_neg g3]at bt;have a:=a Ω Ω;have w:=w Ω;by_cases g4:F<0
 ·rw[if_pos g4]at bt;subst bt;refine bI a6 Tryz.func26 E7 fun u=>?_;unfold AP;exact cr
 rw[if_neg g4]at bt;subst bt;refine bI a6 Tryz.func26 E7 fun u=>?_;unfold AP;exact cr
def gm.kk(r:gm)(κ:Nat):af:= .agg [aj r.n,.slice 5 (.tr (.loc κ) 0) (r.b.map Bt.e),.slice 1 (.tr (.loc κ) 1) (r.d.map gz),.slice 2 (.tr (.loc κ) 2) (r.k.map bH.e),.slice 2 (.tr (.loc κ) 3) (r.m.map bo.e)]
def Y6(r:gm):fW au 28 [r.e] r.kk:=by obtain⟨n,b,d,k,l⟩:=r;simp only[gm.e];unfold gm.kk;have a:=Y5 b;have f:=anc d fun x _=>Y5 x;have e:=apl k fun x _=>atc x;have c:=apk l fun x _=>as9 x;unfold gz qo at a;refine fW.mk mixed a6 Tryz.func28 aoi Ψ fun g κ=>?_;unfold S1;simp;(repeat' first|refine al ?_|simp);(refine CallDo.own Ψ (a) (by simp[ei]) ?_;simp);(repeat' first|refine al ?_|simp);(refine CallDo.own Ψ (f) (by simp[ei]) ?_;simp);(repeat' first|refine al ?_|simp);(refine CallDo.own Ψ (e) (by simp[ei]) ?_;simp);(repeat' first|refine al ?_|simp);(refine CallDo.own Ψ (c) (by simp[ei]) ?_;simp);(repeat' first|refine al ?_|simp);(refine h4.val Ψ ?_;simp[ba,be,a1,e9,hn,eC,gR,ef,gH,tnL,tn,fq,gb,fold,hE,hC,iH,ae,ei,cf,b5])
def ata(r:gm):bU au 28 [r.e] r.e:=by have:=(Y6 r).val (by simp[gm.kk,b5]);simpa[gm.kk,gm.e,b5]using this
def acy(r:gm):bU au 30 [r.e,r.e] (.bool true):=by obtain⟨n,b,d,k,l⟩:=r;simp only[gm.e];have g:bU au 37 [bL (b.map Bt.e),bL (b.map Bt.e)] (.bool true):=acx b;have e:=ar7 d fun x _=>acx x;have c:=asd k fun x _=>asb x;have a:=ar9 l fun x _=>ar8 x;refine bI a6 Tryz.func30 an5 fun f=>?_;unfold SL;exact cr
end
section
open Go Go.Pv Go.ChangeShapes Go.WideShapes Go.ChangeAt Go.RowKit Go.Deep
section
variable {H:Type} {enc:gT×Value->H} {W:World} {spare:Nat->Bool} {held:Bool} {cs:List Value} {x:DataW H×List MemPlace} {fuel:Nat}
def Dv:au.cellsOf 3=1:=bi
def T7:au.cellsOf 9=1:=bi
def Lu:au.cellsOf 24=4:=bi
def aer:au.cellsOf 22=1:=bi
def T3:au.cellsOf 111=5:=bi
def T4:au.cellsOf 38=1:=bi
def aen:au.cellsOf 39=1:=bi
def T5:au.cellsOf 158=2:=bi
def aeo:au.cellsOf 40=1:=bi
def T6:au.cellsOf 146=2:=bi
def aep:au.cellsOf 41=1:=bi
def aeq:au.cellsOf 43=5:=bi
def zB(h:jT enc au W 0 spare held fuel 3 cs=some x):∃(n:Int) (v:Value),cs=[v]/\wH W (.int .i64 n) v:=by obtain⟨n,rfl,_,_⟩:=DataW.trod_int Tryz.underlying3 h;exact⟨n,_,rfl,by simp only[aU],rfl,rfl⟩
def abN(h:jT enc au W 0 spare held fuel 9 cs=some x):∃(s:hB) (v:Value),s.wf/\cs=[v]/\wH W s.e v:=by
 obtain⟨s,rfl,_,hm⟩:=DataW.trod_string Tryz.underlying9 h;by_cases a:lim<s.size
 ·exact⟨.b s,_,⟨a,by unfold maxLen at hm;omega⟩,rfl,by simp only[hB.e,aU],rfl,rfl⟩
 ·refine⟨.s s.data.toList,_,trivial,rfl,?_,rfl,rfl⟩;simp only[hB.e,aU];refine⟨Ψ,?_⟩;have:s.data.toList.length=s.size:=rfl;omega
def X9{α:Type}:∀{cs:List α},cs.length=2->∃a b,cs=[a,b]
 |[a,b],_=>⟨a,b,rfl⟩
def ame{α:Type}:∀{cs:List α},cs.length=4->∃a b c d,cs=[a,b,c,d]
 |[a,b,c,d],_=>⟨a,b,c,d,rfl⟩
def Ya{α:Type}:∀{cs:List α},cs.length=5->∃a b c d e,cs=[a,b,c,d,e]
 |[a,b,c,d,e],_=>⟨a,b,c,d,e,rfl⟩
def ab6:∀(fuel:Nat) (cs:List Value) (x:DataW H×List MemPlace),jT enc au W 0 spare held fuel 24 cs=some x->∃t:cH,t.wf/\cW W (q9 W) [.int .i64 t.kind,.int .i64 t.num,t.name.e,t.args.e 4 cH.e] cs:=by
 intro fuel;induction fuel using Nat.strongRecOn with
 |ind fuel F=>
  intro cs x h;obtain⟨xs,n,rfl,_,hlen,A,q⟩:=DataW.trod_struct Tryz.underlying24 h;rw[Lu]at hlen;obtain⟨e,o,j,g,rfl⟩:=ame hlen;have J:xs.length=4:=A;have f0:jT enc au W 0 spare held n 3 (([e,o,j,g].drop 0).take (au.cellsOf 3))=xs[0]?:=q 0 _ rfl;have f1:jT enc au W 0 spare held n 3 (([e,o,j,g].drop 1).take (au.cellsOf 3))=xs[1]?:=q 1 _ rfl;have f2:jT enc au W 0 spare held n 9 (([e,o,j,g].drop 2).take (au.cellsOf 9))=xs[2]?:=q 2 _ rfl;have f3:jT enc au W 0 spare held n 22 (([e,o,j,g].drop 3).take (au.cellsOf 22))=xs[3]?:=q 3 _ rfl;simp only[Dv,T7,aer,oV,mW]at f0 f1 f2 f3;rw[cl Ω]at f0 f1 f2 f3;obtain⟨k,v0,u,r0⟩:=zB f0;obtain⟨m,v1,y,i⟩:=zB f1;obtain⟨s,v2,v,z,f⟩:=abN f2;obtain⟨l,r,v3,w,d⟩:=FK cH.e cH.wf Tryz.underlying22 Lu Ω (fun n' cs' x' G B=>by obtain⟨t,t1,t2⟩:=F n' Ω cs' x' B;exact⟨t,t1,by rw[cH.e_eq];exact CC t2⟩) f3
  simp only[rQ,jd]at u y z w;subst u y z w;cases l with
  |l a=>
   refine⟨.mk k m s a,?_,?_⟩
   ·simp only[cH.wf,cH.wfL_iff];exact⟨v,r⟩
   ·simp only[cW,cH.kind,cH.num,cH.name,cH.args];exact⟨_,_,rfl,⟨r0.1,r0.2.1⟩,_,_,rfl,⟨i.1,i.2.1⟩,_,_,rfl,⟨f.1,f.2.1⟩,_,_,rfl,⟨d.1,d.2.1⟩,rfl⟩
  |b p E c=>
   refine⟨.big k m s p E c,?_,?_⟩
   ·simp only[cH.wf];exact⟨v,r⟩
   ·simp only[cW,cH.kind,cH.num,cH.name,cH.args];exact⟨_,_,rfl,⟨r0.1,r0.2.1⟩,_,_,rfl,⟨i.1,i.2.1⟩,_,_,rfl,⟨f.1,f.2.1⟩,_,_,rfl,⟨d.1,d.2.1⟩,rfl⟩
def ad6(h:jT enc au W 0 spare held fuel 111 cs=some x):∃b:fP,b.t.wf/\reads W b.e cs:=by obtain⟨xs,n,rfl,_,hlen,j,i⟩:=DataW.trod_struct Tryz.underlying111 h;rw[T3]at hlen;obtain⟨a,g,f,e,d,rfl⟩:=Ya hlen;have o:xs.length=2:=j;have f0:jT enc au W 0 spare held n 3 (([a,g,f,e,d].drop 0).take (au.cellsOf 3))=xs[0]?:=i 0 _ rfl;have f1:jT enc au W 0 spare held n 24 (([a,g,f,e,d].drop 1).take (au.cellsOf 24))=xs[1]?:=i 1 _ rfl;simp only[Dv,Lu,oV,mW]at f0 f1;rw[cl Ω]at f0 f1;obtain⟨k,v0,c,r0⟩:=zB f0;obtain⟨t,l,m⟩:=ab6 _ _ _ f1;simp only[rQ,jd]at c;subst c;refine⟨⟨k,t⟩,l,CC ?_⟩;rw[cW];exact⟨_,_,rfl,⟨r0.1,r0.2.1⟩,m⟩
def al6(h:jT enc au W 0 spare held fuel 158 cs=some x):∃b:bH,True/\reads W b.e cs:=by obtain⟨xs,n,rfl,_,hlen,i,g⟩:=DataW.trod_struct Tryz.underlying158 h;rw[T5]at hlen;obtain⟨a,e,rfl⟩:=X9 hlen;have j:xs.length=2:=i;have f0:jT enc au W 0 spare held n 3 (([a,e].drop 0).take (au.cellsOf 3))=xs[0]?:=g 0 _ rfl;have f1:jT enc au W 0 spare held n 3 (([a,e].drop 1).take (au.cellsOf 3))=xs[1]?:=g 1 _ rfl;simp only[Dv,oV,mW]at f0 f1;rw[cl Ω]at f0 f1;obtain⟨k,v0,c,r0⟩:=zB f0;obtain⟨m,v1,f,d⟩:=zB f1;simp only[rQ,jd]at c f;subst c f;refine⟨⟨k,m⟩,trivial,CC ?_⟩;simp only[cW];exact⟨_,_,rfl,⟨r0.1,r0.2.1⟩,_,_,rfl,⟨d.1,d.2.1⟩,rfl⟩
def amr(h:jT enc au W 0 spare held fuel 146 cs=some x):∃b:ix,b.s.wf/\reads W b.e cs:=by obtain⟨xs,n,rfl,_,hlen,i,g⟩:=DataW.trod_struct Tryz.underlying146 h;rw[T6]at hlen;obtain⟨a,e,rfl⟩:=X9 hlen;have l:xs.length=2:=i;have f0:jT enc au W 0 spare held n 3 (([a,e].drop 0).take (au.cellsOf 3))=xs[0]?:=g 0 _ rfl;have f1:jT enc au W 0 spare held n 9 (([a,e].drop 1).take (au.cellsOf 9))=xs[1]?:=g 1 _ rfl;simp only[Dv,T7,oV,mW]at f0 f1;rw[cl Ω]at f0 f1;obtain⟨k,v0,c,r0⟩:=zB f0;obtain⟨s,v1,j,f,d⟩:=abN f1;simp only[rQ,jd]at c f;subst c f;refine⟨⟨k,s⟩,j,CC ?_⟩;simp only[cW];exact⟨_,_,rfl,⟨r0.1,r0.2.1⟩,_,_,rfl,⟨d.1,d.2.1⟩,rfl⟩
def RJ(h:jT enc au W 0 spare held fuel 38 cs=some x):∃d:dA fP,yx d/\∃v,cs=[v]/\wH W (k8 d) v:=FK fP.e (fun b=>b.t.wf) Tryz.underlying38 T3 Ω (fun _ _ _ _ a=>ad6 a) h
def ad7(h:jT enc au W 0 spare held fuel 39 cs=some x):∃d:dA (dA fP),d.wf yx/\∃v,cs=[v]/\wH W (uv d) v:=FK k8 yx Tryz.underlying39 T4 Ω (fun _ _ _ _ a=>by obtain⟨d,w,v,rfl,r⟩:=RJ a;exact⟨d,w,r.reads⟩) h
def al9(h:jT enc au W 0 spare held fuel 40 cs=some x):∃d:dA bH,d.wf (fun _=>True)/\∃v,cs=[v]/\wH W (uT d) v:=FK bH.e (fun _=>True) Tryz.underlying40 T5 Ω (fun _ _ _ _ a=>al6 a) h
def ams(h:jT enc au W 0 spare held fuel 41 cs=some x):∃d:dA ix,d.wf (fun b=>b.s.wf)/\∃v,cs=[v]/\wH W (u3 d) v:=FK ix.e (fun b=>b.s.wf) Tryz.underlying41 T6 Ω (fun _ _ _ _ a=>amr a) h
def arh(h:jT enc au W 0 spare held fuel 43 cs=some x):∃r:pG,r.wf/\reads W r.e cs:=by obtain⟨xs,n,rfl,_,hlen,z,i⟩:=DataW.trod_struct Tryz.underlying43 h;rw[aeq]at hlen;obtain⟨a,g,f,d,b,rfl⟩:=Ya hlen;have E:xs.length=5:=z;have f0:jT enc au W 0 spare held n 3 (([a,g,f,d,b].drop 0).take (au.cellsOf 3))=xs[0]?:=i 0 _ rfl;have f1:jT enc au W 0 spare held n 38 (([a,g,f,d,b].drop 1).take (au.cellsOf 38))=xs[1]?:=i 1 _ rfl;have f2:jT enc au W 0 spare held n 39 (([a,g,f,d,b].drop 2).take (au.cellsOf 39))=xs[2]?:=i 2 _ rfl;have f3:jT enc au W 0 spare held n 40 (([a,g,f,d,b].drop 3).take (au.cellsOf 40))=xs[3]?:=i 3 _ rfl;have f4:jT enc au W 0 spare held n 41 (([a,g,f,d,b].drop 4).take (au.cellsOf 41))=xs[4]?:=i 4 _ rfl;simp only[Dv,T4,aen,aeo,aep,oV,mW]at f0 f1 f2 f3 f4;rw[cl Ω]at f0 f1 f2 f3 f4;obtain⟨k,v0,l,r0⟩:=zB f0;obtain⟨d1,A,v1,t,o⟩:=RJ f1;obtain⟨d2,B,v2,u,m⟩:=ad7 f2;obtain⟨d3,w,v3,q,j⟩:=al9 f3;obtain⟨d4,y,v4,s,v⟩:=ams f4;simp only[rQ,jd]at l t u q s;subst l t u q s;refine⟨⟨k,d1,d2,d3,d4⟩,⟨A,B,fun p n c e=>by simp only at e;subst e;exact w,y⟩,CC ?_⟩;simp only[cW];exact⟨_,_,rfl,⟨r0.1,r0.2.1⟩,_,_,rfl,⟨o.1,o.2.1⟩,_,_,rfl,⟨m.1,m.2.1⟩,_,_,rfl,⟨j.1,j.2.1⟩,_,_,rfl,⟨v.1,v.2.1⟩,rfl⟩
end
end
section
open Go Go.Pv Go.ChangeShapes Go.WideShapes Go.ChangeAt Go.RowKit
def aqz:ownKnob au.godebug=none:=bi
def P3:laidOutB au=true:=bi
def aei{f:FuncId}{fn:Func}(s:au.funcs[f]? =some fn)(d:∀args w,(callFunc f args).run au w= .ok (.enter f args) w){w:World}{ν:bc}{args:List af}{bm:Array Value}(h:bU au f args (.bool true))(m:∀k j b,¬ν.tr k j b)(p:∀b o,ν.A b o->b<w.heap.size)(l:∀k,ν.bx k=none)(ar:∀k,ν.ow k=none)(q:c7 w ν args bm.toList):
  Calls au f bm w fun e w'=>e= .returned (.bool true)/\Below w.heap.size w w':=by
 have bf:Pv.Good (fB ν ⟨[],[]⟩) w ν [] []:=⟨p,fun k cs c=>by simp[ae]at c,fun k bs bl J=>by simp[ae]at J,fun g o c=>by simp[ae]at c,fun g t n n' v v' bl J=>by simp[ae]at J,fun g k n v bl J=>by simp[ae]at J,fun k=>.inl (l k),fun _ _ k j=>m k j _⟩;rcases h w ν bm bf (fun k=>⟨fun _=>l k,fun _=>ar k,m k⟩) q with⟨_,aw⟩|⟨v,w',aw,_⟩
 ·refine aw.mono ?_;rintro e w' ⟨v,r,u,bn,rfl,⟨rfl,rfl⟩,i,_,_,_,a⟩;simp only[aU]at i;subst i;refine⟨rfl,a.os,a.tape,a.output,a.size,fun k c=>a.block k c ?_⟩;simp[fB,ae]
 ·rw[d]at aw;cases aw
def afn{W:World}{b o:Nat}(h:(q9 W).A b o):b<W.heap.size:=by
 obtain⟨u,hu⟩:=h;rcases Nat.lt_or_ge b W.heap.size with h|h
 ·exact h
 ·simp[World.cell?,Array.getElem?_eq_none h]at hu
def aaZ{W:World}{a:List af}{us:Array Value}(h:reads W (.agg a) us.toList):aU W (q9 W) (.agg a) (.agg us):=by
 obtain⟨v,J,U,_⟩:=h;have b:=U;simp only[aU]at b;obtain⟨ws,rfl,_⟩:=b;have:ws=us:=by
  have:ws.toList=us.toList:=by simpa[pw]using J
  exact Array.toList_inj.1 this
 rw[<-this];exact U
def arz{H:Type}{enc:gT×Value->H}{W:World}{spare:Nat->Bool}{held:Bool}{us:Array Value}{x:DataW H×List MemPlace}{fuel:Nat}(h:jT enc au W 0 spare held fuel 24 us.toList=some x):∃t:cH,t.wf/\aU W (q9 W) t.e (.agg us):=by obtain⟨t,J,U⟩:=ab6 fuel _ x h;exact⟨t,J,by rw[cH.e_eq];exact aaZ (CC U)⟩
def arf{H:Type}{enc:gT×Value->H}{W:World}{spare:Nat->Bool}{held:Bool}{us:Array Value}{x:DataW H×List MemPlace}{fuel:Nat}(h:jT enc au W 0 spare held fuel 43 us.toList=some x):∃r:pG,r.wf/\aU W (q9 W) r.e (.agg us):=by obtain⟨r,b,a⟩:=arh h;exact⟨r,b,aaZ a⟩
end
end Go.Proofs.YtahlgcidhnjlbaaGreat
