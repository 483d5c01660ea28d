/- From a contract of a law of bytes to its row. -/
import Derived.ProofKit
import Derived.Carry
import Derived.WalkKit
import Derived.Test.YtohaalphocaebaaGreatX5
set_option linter.all false
set_option maxHeartbeats 4000000
open Bool renaming false_eq_true→gC
open Go.IntKind renaming bits→nF,signed→rl
open Go.Proofs.Tryz renaming prog→az
open Go.Value renaming cells→oY
open List renaming all_eq_true→ig,cons_append→bR,map_cons→gP,mem_append→iH,mem_cons→fA,mem_cons_of_mem→lA,mem_filter→ha,mem_map→hJ,mem_singleton→qv,nil_append→bY
open List.Pairwise renaming filter→vv
open Option renaming bind_eq_some_iff→h6,bind_none→pM,bind_some→e6,getD_none→jq,getD_some→jr,isSome_none→ja,isSome_some→nI,map_some→kN
open _root_ renaming False→ep,UInt8→cQ,congrArg→eU,decide_eq_true→kp
namespace Go.Proofs.YtohaalphocaebaaGreat
open Go Go.Pv
open Classical in
theorem X2{s:bE}(h:k2 s)(hm:kK s.m){x:T}(ab:x.fit=true)(bx:dG s.n x=true):bS az 47 [s.e,.slice 4 .no [x.e]] (.bool true):=by have:=X0 s.r (fun _=>hm) [x.tm];rw[kp ⟨⟨s,rfl,h⟩,⟨[x],rfl,by simp[ab],fun t aL=>by rw[qv.1 aL];exact bx⟩⟩,Ny]at this;simpa[pR]using this
open Classical in
theorem XM{s:bE}(h:k2 s)(hm:kK s.m){x:T}(ab:x.fit=true)(bx:dG s.n x=true)(k:Int):bS az 14 [s.e,x.e,.int .i64 k] (hI (jx s x k)):=by
 have aS:=X2 h hm ab bx;have bc:=XI h.1.b h.1.k x ab k;have bT:=NR s h.1.b.len (fun z aY=>(h.1.d z aY).len) (by have:=oN h.1.k;omega) (hm.len h.1.m);unfold jx;by_cases g:(k=2∨k=3)∧(x.ap (bF s.b)).size≤5000
 ·rw[if_pos g]at bc;rw[if_pos g];cases hu:gS s.k (x.ap (bF s.b)) k with
  |none=>rw[hu]at bc;clear h bT hu g;obtain⟨n,b,d,k',m⟩:=s;simp only[bE.e,fO,hI,pM,jq,ja,fy]at aS bc⊢;refine bq gN JJ L9 fun aP=>?_;unfold ET;exact cB
  |some l=>rw[hu]at bc;obtain⟨G,hf,aR⟩:=hm;have dI:=BE (h.1.knd ab bx g.1 hu) hf aR;rw[e6];generalize dM {s with k:=l}=O at dI;clear h hu g;obtain⟨n,b,d,k',m⟩:=s;simp only[bE.e,fO,hI,jr,nI]at aS bc bT dI⊢;refine bq gN JJ L9 fun aP=>?_;unfold ET;exact cB
 ·rw[if_neg g];rw[if_neg g]at bc;clear h bT g;obtain⟨n,b,d,k',m⟩:=s;simp only[bE.e,fO,hI,pM,jq,ja,fy]at aS bc⊢;refine bq gN JJ L9 fun aP=>?_;unfold ET;exact cB
open Classical in
theorem XP{s:bE}(h:k2 s)(hm:yY s.m){x:T}(ab:x.fit=true)(bx:dG s.n x=true){g:List cQ}(aR:ib g=true):bS az 16 [s.e,x.e,.str g] (hI (jy s x g)):=by
 have aS:=X2 h hm.w ab bx;have aq:=hm.w.len h.1.m;have bc:=XH h.1.b h.1.m aq x ab aR;have bT:=NR s h.1.b.len (fun z aY=>(h.1.d z aY).len) (by have:=oN h.1.k;omega) aq;unfold jy;by_cases g1:(x.ap (bF s.b)).size≤5000
 ·rw[if_pos g1]at bc;rw[if_pos g1];cases hu:gm s.m (x.ap (bF s.b)) g with
  |none=>rw[hu]at bc;clear h bT hu g1 aq hm;obtain⟨n,b,d,k',m⟩:=s;simp only[bE.e,h3,hI,pM,jq,ja,fy]at aS bc⊢;refine bq gN JK Ma fun aP=>?_;unfold EU;exact cB
  |some l=>rw[hu]at bc;obtain⟨G,hf,oA⟩:=hm.mrk hu;have dI:=BE (h.1.mrk ab bx aR hu) hf oA;rw[e6];generalize dM {s with m:=l}=O at dI;clear h hu g1 aq hm;obtain⟨n,b,d,k',m⟩:=s;simp only[bE.e,h3,hI,jr,nI]at aS bc bT dI⊢;refine bq gN JK Ma fun aP=>?_;unfold EU;exact cB
 ·rw[if_neg g1];rw[if_neg g1]at bc;clear h bT g1 aq hm;obtain⟨n,b,d,k',m⟩:=s;simp only[bE.e,h3,hI,pM,jq,ja,fy]at aS bc⊢;refine bq gN JK Ma fun aP=>?_;unfold EU;exact cB
theorem ak0{y:List ak}{a:List bX}{m:List bd}(aD:ey y)(bk:a.Pairwise fun x z=>x.v<z.v)(ad:∀x∈a,x.k=2∨x.k=3)(aej:∀x∈a,cV y x.v=none)(x5:∀x∈m,cV y x.v=none):∃θ,dD y θ∧mQ θ a∧mR θ m:=by
 obtain⟨w,hw⟩:∃w:List cQ,∀x∈m,w≠x.s:=by
  refine⟨List.replicate ((m.map fun x=>x.s.length).sum+1) 0,fun x ab e=>?_⟩;have J:=eU List.length e;rw[List.length_replicate]at J;have U:∀{l:List bd},x∈l→x.s.length≤(l.map fun x=>x.s.length).sum:=fun{l} aq=>by
   induction l with
   |nil=>simp at aq
   |cons z l bP=>
    simp only[gP,List.sum_cons];rcases fA.1 aq with rfl|aq
    ·omega
    ·have:=bP aq;omega
  have:=U ab;omega
 let f:Int→T:=fun u=>if ki a u=some 2 then .sym w else .num 0
 have aO:∀{u},cV y u=none→(bF y u).ap f=f u:=fun{u} h=>by
  have:bF y u= .var u:=by unfold bF;rw[h];rfl
  rw[this];rfl
 refine⟨fun v=>(bF y v).ap f,fun c ar=>?_,fun x ab=>?_,fun x ab=>?_⟩
 ·have ai:bF y c.v=c.t:=by unfold bF;rw[qE aD.asc ar];rfl
  simp only;rw[ai];exact pP fun u hu=>(aO (aD.free c ar u hu)).symm
 ·simp only;rw[aO (aej x ab)];have J:=Ax bk ab;simp only[f,J];rcases ad x ab with e|e<;>simp[e,T.kind]
 ·simp only;rw[aO (x5 x ab)];simp only[f];split
  ·simp only[T.has,beq_eq_false_iff_ne];exact hw x ab
  ·rfl
def kZ(x:List ak)(k:List bX)(m:List bd):Prop:=¬(eT x k []=none∨eK x m []=none)
theorem GX{x:List ak}{k:List bX}{m:List bd}(ab:dn x)(ad:∀z∈k,(0≤z.v∧z.v≤100000)∧(z.k=2∨z.k=3))(h:kZ x k m):∃θ,dD x θ∧mQ θ k∧mR θ m:=by
 cases ai:eT x k []with
 |none=>exact absurd (.inl ai) h
 |some a=>
  cases ax:eK x m []with
  |none=>exact absurd (.inr ax) h
  |some c=>have bk:=yI ab ad ⟨by simp,by simp⟩ ai;obtain⟨θ,J,U,ao⟩:=ak0 ab.sol bk.asc (fun z aY=>(bk.at' z aY).2) (Hr ab.sol (by simp) ai) (Bf ab.sol (by simp) ax);have aV:=Hs (θ:=θ) ab.sol.asc J (l:=k) (acc:=[]);have bf:=Hu (θ:=θ) ab.sol.asc J (l:=m) (acc:=[]);rw[ai]at aV;rw[ax]at bf;exact⟨θ,J,(aV.1 U).2,(bf.1 ao).2⟩
theorem GY{x:List ak}{k:List bX}{m:List bd}(ab:hL x){θ:Int→T}(h:dD x θ)(ad:mQ θ k)(hm:mR θ m):kZ x k m:=by
 rintro(e|e)
 ·have:=Hs ab h (l:=k) (acc:=[]);rw[e]at this;exact this ⟨by simp[mQ],ad⟩
 ·have:=Hu ab h (l:=m) (acc:=[]);rw[e]at this;exact this ⟨by simp[mR],hm⟩
theorem r8{b:List ak}{k:List bX}{m:List bd}:∀{l:List (List ak)},match dm b k m l with
  |none=> ∃d∈l,∃x,mgu b (eB d)=some x∧kZ x k m∧cR b x=[]
  |some L=>(∀d∈l,∀x,mgu b (eB d)=some x→kZ x k m→cR b x≠[]∧cR b x∈L)∧∀w∈L,∃d∈l,∃x,mgu b (eB d)=some x∧kZ x k m∧w=cR b x
 |[]=>by simp[dm]
 |d::l=>by
  have bP:=r8 (b:=b) (k:=k) (m:=m) (l:=l);have skip:(∀x,mgu b (eB d)=some x→¬kZ x k m)→match dm b k m l with
    |none=> ∃e∈d::l,∃x,mgu b (eB e)=some x∧kZ x k m∧cR b x=[]
    |some L=>(∀e∈d::l,∀x,mgu b (eB e)=some x→kZ x k m→cR b x≠[]∧cR b x∈L)∧∀w∈L,∃e∈d::l,∃x,mgu b (eB e)=some x∧kZ x k m∧w=cR b x:=fun h=>by
   cases e:dm b k m l with
   |none=>rw[e]at bP;obtain⟨z,J,U⟩:=bP;exact⟨z,lA _ J,U⟩
   |some L=>
    rw[e]at bP;refine⟨fun z aY x ab av=>?_,fun w hw=>?_⟩
    ·rcases fA.1 aY with rfl|aY
     ·exact absurd av (h x ab)
     ·exact bP.1 z aY x ab av
    ·obtain⟨z,J,U⟩:=bP.2 w hw;exact⟨z,lA _ J,U⟩
  simp only[dm];cases hu:mgu b (eB d)with
  |none=>exact skip fun x ab=>by rw[hu]at ab;cases ab
  |some x=>
   simp only;by_cases ad:eT x k []=none∨eK x m []=none
   ·rw[if_pos ad];exact skip fun z aY=>by rw[hu]at aY;cases aY;exact fun h=>h ad
   rw[if_neg ad];by_cases au:cR b x=[]
   ·rw[if_pos au];exact⟨d,by simp,x,hu,ad,au⟩
   rw[if_neg au];cases e:dm b k m l with
   |none=>rw[e]at bP;obtain⟨z,J,U⟩:=bP;exact⟨z,lA _ J,U⟩
   |some L=>
    rw[e]at bP;refine⟨fun z aY y aD av=>?_,fun w hw=>?_⟩
    ·rcases fA.1 aY with rfl|aY
     ·rw[hu]at aD;cases aD;exact⟨au,by simp⟩
     ·have:=bP.1 z aY y aD av;exact⟨this.1,lA _ this.2⟩
    ·rcases fA.1 hw with rfl|hw
     ·exact⟨d,by simp,x,hu,ad,rfl⟩
     ·obtain⟨z,J,U⟩:=bP.2 w hw;exact⟨z,lA _ J,U⟩
def Fh(b e d:List ak):Prop:= ∀θ,dD b θ→dD e θ→dD d θ
theorem Rf{b e d nE:List ak}{k:List bX}{m:List bd}(ae:dn b)(he:dn e)(aE:dn d)(ad:∀z∈k,(0≤z.v∧z.v≤100000)∧(z.k=2∨z.k=3))(uC:Fh b e d)(ab:mgu b (eB e)=some nE)(av:kZ nE k m):∃qs,mgu b (eB d)=some qs∧kZ qs k m∧∀θ,dD nE θ→dD qs θ:=by
 have VD:∀{d:List ak},dn d→∀a∈eB d,a.1.ok=true∧a.2.ok=true:=fun{d} aE a bk=>by obtain⟨c,ar,rfl⟩:=hJ.1 bk;have:=aE.ok c ar;exact⟨by simpa[T.ok]using this.1,this.2⟩
 have Ak:=ae.mgu (VD he) ab;have kc:∀θ,dD nE θ→dD b θ∧iz (eB d) θ:=fun θ h=>by have:=(kl ae.sol ae.fits ab θ).1 h;exact⟨this.1,vm.2 (uC θ this.1 (vm.1 this.2))⟩
 cases hu:mgu b (eB d)with
 |none=>have:=tB ae.sol ae.fits (eB d);rw[hu]at this;exact absurd Ak.fits (this nE Ak.sol kc)
 |some qs=>have af:∀θ,dD nE θ→dD qs θ:=fun θ h=>(kl ae.sol ae.fits hu θ).2 (kc θ h);obtain⟨θ,J,U,ao⟩:=GX Ak ad av;exact⟨qs,rfl,GY (ae.mgu (VD aE) hu).sol.asc (af θ J) U ao,af⟩
theorem aht{A B:List (List ak)}(ba:∀d∈A,ey d)(gU:∀d∈B,ey d)(J:∀e∈A,∃d∈B,hS d e=true)(U:∀e∈B,∃d∈A,hS d e=true):fV A=fV B:=by
 have one:∀{A B:List (List ak)},(∀d∈A,ey d)→(∀d∈B,ey d)→(∀e∈A,∃d∈B,hS d e=true)→(∀e∈B,∃d∈A,hS d e=true)→∀x∈fV A,x∈fV B:=fun{A B} ba gU J U x ab=>by
  obtain⟨Gd,ad⟩:=nr.1 ab;obtain⟨d,aE,vV⟩:=J x Gd;obtain⟨z,aY,Am⟩:=GO gU _ d aE rfl;have K9:=(nr.1 aY).1;obtain⟨a,bk,aen⟩:=U z K9;have s1:=(qf (ba x Gd)).1 vV;have s2:=(qf (gU d aE)).1 Am;have s3:=(qf (gU z K9)).1 aen;have aem:hS a x=true:=(qf (ba x Gd)).2 fun θ h=>s3 θ (s2 θ (s1 θ h));rw[ie,ig]at ad;have:=ad a bk;rw[aem]at this;have aei:a=x:=by simpa using this
  subst aei;have:a=z:=HW (ba a Gd) (gU z K9) fun θ=>⟨fun h=>s2 θ (s1 θ h),s3 θ⟩;rw[this];exact aY
 exact(GN A).ext kH (GN B) fun x=>⟨one ba gU J U x,one gU ba U J x⟩
def zs(b:List ak)(k:List bX)(m:List bd)(X Y:List (List ak)):Prop:= ∀e∈X,∀nE,mgu b (eB e)=some nE→kZ nE k m→∃d∈Y,Fh b e d
theorem L0{b x:List ak}{θ:Int→T}(h:dD x θ):dD (cR b x) θ:=fun c ar=>h c (ha.1 ar).1
theorem Rq{d:List ak}(aE:dn d):∀a∈eB d,a.1.ok=true∧a.2.ok=true:=fun a bk=>by obtain⟨c,ar,rfl⟩:=hJ.1 bk;have:=aE.ok c ar;exact⟨by simpa[T.ok]using this.1,this.2⟩
theorem Ly{b:List ak}{k:List bX}{m:List bd}{X Y:List (List ak)}(ae:dn b)(lj:∀d∈X,dn d)(nc:∀d∈Y,dn d)(ad:∀z∈k,(0≤z.v∧z.v≤100000)∧(z.k=2∨z.k=3))(J:zs b k m X Y)(U:zs b k m Y X):(dm b k m X).map fV=(dm b k m Y).map fV:=by
 have mw:∀{X Y:List (List ak)},(∀d∈X,dn d)→(∀d∈Y,dn d)→zs b k m X Y→dm b k m X=none→dm b k m Y=none:=fun{X Y} lj nc J au=>by
  have ab:=r8 (b:=b) (k:=k) (m:=m) (l:=X);rw[au]at ab;obtain⟨e,he,nE,aV,bf,bI⟩:=ab;obtain⟨d,aE,uC⟩:=J e he nE aV bf;obtain⟨qs,cC,da,hp⟩:=Rf ae (lj e he) (nc d aE) ad uC aV bf;have ai:b=nE:=(yt ae aV).1 bI;subst ai;have af:=(q5 ae.sol ae.fits cC).1;have ax:b=qs:=HW ae.sol af fun θ=>⟨hp θ,fun h=>((kl ae.sol ae.fits cC θ).1 h).1⟩;have aD:=r8 (b:=b) (k:=k) (m:=m) (l:=Y);cases bn:dm b k m Y with
  |none=>rfl
  |some L=>rw[bn]at aD;exact absurd ((yt ae cC).2 ax) (aD.1 d aE qs cC da).1
 have c4:∀{X Y Et Eu:List (List ak)},(∀d∈X,dn d)→(∀d∈Y,dn d)→zs b k m X Y→dm b k m X=some Et→dm b k m Y=some Eu→∀w∈Et,∃d∈Eu,hS d w=true:=fun{X Y Et Eu} lj nc J ab aD w hw=>by have q:=r8 (b:=b) (k:=k) (m:=m) (l:=X);rw[ab]at q;obtain⟨e,he,nE,aV,bf,rfl⟩:=q.2 w hw;obtain⟨d,aE,uC⟩:=J e he nE aV bf;obtain⟨qs,cC,da,hp⟩:=Rf ae (lj e he) (nc d aE) ad uC aV bf;have p:=r8 (b:=b) (k:=k) (m:=m) (l:=Y);rw[aD]at p;exact⟨cR b qs,(p.1 d aE qs cC da).2,ahB ae aV (tA ae.sol ae.fits cC) rfl fun θ h=>vm.2 (L0 (hp θ h))⟩
 cases ai:dm b k m X with
 |none=>rw[mw lj nc J ai]
 |some Et=>
  cases ax:dm b k m Y with
  |none=>rw[mw nc lj U ax]at ai;cases ai
  |some Eu=>simp only[kN];rw[aht (fun d aE=>(uY ae lj ai d aE).sol) (fun d aE=>(uY ae nc ax d aE).sol) (c4 lj nc J ai ax) (c4 nc lj U ax ai)]
theorem vk{s:bE}{k:List bX}{m:List bd}(ad:eT s.b s.k []=some k)(hm:eK s.b s.m []=some m):dM s=((dm s.b k (m.filter (ek k)) s.d).map fV).bind fun D=>if D.length≤30 then some ⟨s.n,s.b,D,k,m.filter (ek k)⟩else none:=by unfold dM;simp only[ad,hm];cases dm s.b k (m.filter (ek k)) s.d<;>rfl
theorem ak6{s:bE}{X Y:List (List ak)}(af:h5 s)(lj:∀d∈X,dn d)(nc:∀d∈Y,dn d)(h:∀k m,eT s.b s.k []=some k→eK s.b s.m []=some m→zs s.b k (m.filter (ek k)) X Y∧zs s.b k (m.filter (ek k)) Y X):dM {s with d:=X}=dM {s with d:=Y}:=by
 cases ai:eT s.b s.k []with
 |none=>unfold dM;simp only[ai]
 |some k=>
  cases ax:eK s.b s.m []with
  |none=>unfold dM;simp only[ai,ax]
  |some m=>have ad:=yI af.b af.k.at' ⟨by simp,by simp⟩ ai;obtain⟨J,U⟩:=h k m ai ax;rw[vk (s:={s with d:=X}) ai ax,vk (s:={s with d:=Y}) ai ax];simp only;rw[Ly af.b lj nc ad.at' J U]
theorem aho{s:List ak}(af:ey s)(aO:gu s)(ai ax:T×T):(mgu s [ai]).bind (fun b=>mgu b [ax])=(mgu s [ax]).bind fun b=>mgu b [ai]:=by rw[←AJ af aO,←AJ af aO];refine nU (vA (fun θ=>and_congr_right fun _=>?_) (tB af aO ([ax]++[ai])));simp only[iz,bR,bY,fA,List.mem_nil_iff,or_false,forall_eq_or_imp,forall_eq];exact and_comm
theorem ahq{rv b bO:List ak}(bD:ey rv)(f0:gu rv)(ae:ey b)(aO:gu b)(jW:∀θ,dD b θ→dD rv θ){e:T×T}(U:mgu rv [e]=some bO):mgu b (eB (cR rv bO))=mgu b [e]:=by refine nU (vA (fun θ=>and_congr_right fun J=>?_) (tB ae aO [e]));have aV:=kl bD f0 U θ;have bf:=kl bD f0 (tA bD f0 U) θ;have:=jW θ J;exact⟨fun h=>(bf.1 (aV.2 ⟨this,h⟩)).2,fun h=>(aV.1 (bf.2 ⟨this,h⟩)).2⟩
theorem ZR(b e:List ak):Fh b e e:=fun _ _ h=>h
theorem ZQ{b e d:List ak}(he:ey e)(h:hS d e=true):Fh b e d:=fun θ _ cr=>(qf he).1 h θ cr
theorem ajH{s:bE}(h:k2 s)(aE:s.d.length≤28){x y c e:T}(ab:x.fit=true)(aD:y.fit=true)(bx:dG s.n x=true)(gh:dG s.n y=true)(ar:c.fit=true)(he:e.fit=true)(zh:dG s.n c=true)(kr:dG s.n e=true):
  ((hv s x y).bind fun t=>hd t c e)=(hd s c e).bind fun t=>hv t x y:=by
 have c4:=h.self;have xP:=aho h.1.b.sol h.1.b.fits (x,y) (c,e);cases oH:mgu s.b [(x,y)]with
 |none=>
  have J:hv s x y=none:=by unfold hv;rw[oH];rfl
  rw[J,pM];cases U:hd s c e with
  |none=>rfl
  |some t=>
   have ae:t.b=s.b:=by
    unfold hd at U;cases hm:mgu s.b [(c,e)]with
    |none=>rw[hm]at U;exact(yR U).1
    |some b=>
     rw[hm]at U;simp only at U;split at U
     ·cases U
     ·exact(yR U).1
   rw[e6];unfold hv;rw[ae,oH];rfl
 |some bM=>
  have hP:=h.1.bind ab aD bx gh oH;have TG:∀θ,dD bM θ→dD s.b θ:=fun θ fF=>((kl h.1.b.sol h.1.b.fits oH θ).1 fF).1;have Kh:hv s x y=dM {s with b:=bM}:=by unfold hv;rw[oH];rfl
  rw[oH,e6]at xP;cases pn:mgu s.b [(c,e)]with
  |none=>
   have lh:hd s c e=some s:=by unfold hd;rw[pn];exact h.2
   rw[pn,pM]at xP;rw[lh,e6];cases ai:hv s x y with
   |none=>rfl
   |some t=>rw[e6];have aL:=JD h.1 ab aD bx gh ai;rw[Kh]at ai;have ae:t.b=bM:=(yR ai).1;unfold hd;rw[ae,xP];exact aL.2
  |some bO=>
   rw[pn,e6]at xP;have nj:=h.1.bind ar he zh kr pn;by_cases au:cR s.b bO=[]
   ·have lh:hd s c e=none:=by unfold hd;rw[pn];simp only[if_pos au]
    rw[lh,pM];have ax:s.b=bO:=(yt h.1.b pn).1 au;rw[←ax,oH]at xP;cases ai:hv s x y with
    |none=>rfl
    |some t=>rw[e6];rw[Kh]at ai;have ae:t.b=bM:=(yR ai).1;have CL:cR bM bM=[]:=(yt hP.b xP).2 rfl;unfold hd;rw[ae,xP];simp only[if_pos CL]
   have kg:∀d∈s.d++[cR s.b bO],dn d:=(h.1.dif ar he zh kr pn).d;have iT:=tA h.1.b.sol h.1.b.fits pn;have TK:=ahq h.1.b.sol h.1.b.fits hP.b.sol hP.b.fits TG pn;have bH:((hd s c e).bind fun t=>hv t x y)=dM {s with b:=bM,d:=s.d++[cR s.b bO]}:=by
    have lh:hd s c e=dM {s with d:=s.d++[cR s.b bO]}:=by unfold hd;rw[pn];simp only[if_neg au]
    rw[lh,vk (s:={s with d:=s.d++[cR s.b bO]}) c4.k c4.m];simp only[c4.f];have eD:∀kQ:List (List ak),(∀z∈kQ,z∈s.d++[cR s.b bO])→(∀z∈s.d++[cR s.b bO],z∉kQ→z=cR s.b bO∧¬kZ bO s.k s.m)→kQ.length≤30→((((some kQ).map fV).bind fun D=>if D.length≤30 then some (⟨s.n,s.b,D,s.k,s.m⟩:bE)else none).bind fun t=>hv t x y)=dM {s with b:=bM,d:=s.d++[cR s.b bO]}:=fun kQ jW FL hlen=>by
     have:=Dm kQ;simp only[kN,e6];rw[if_pos (by omega),e6];unfold hv;simp only[oH,e6];refine ak6 (s:={s with b:=bM}) hP (fun d aE=>kg d (jW d (nr.1 aE).1)) kg fun k m ad hm=>⟨fun z aY tT aV bf=>⟨z,jW z (nr.1 aY).1,ZR _ _⟩,fun z aY tT aV bf=>?_⟩;by_cases La:z∈kQ
     ·obtain⟨d,aE,aR⟩:=GO (fun d aE=>(kg d (jW d aE)).sol) _ z La rfl;exact⟨d,aE,ZQ (kg z aY).sol aR⟩
     ·obtain⟨rfl,dd⟩:=FL z aY La;exfalso;simp only at ad hm aV bf;have af2:=hP.b.mgu (Rq (kg _ aY)) aV;have v8:=yI hP.b hP.k.at' ⟨by simp,by simp⟩ ad;obtain⟨θ,cC,da,hp⟩:=GX af2 v8.at' bf;have pD:=(kl hP.b.sol hP.b.fits aV θ).1 cC;have ev:=Hs (θ:=θ) hP.b.sol.asc pD.1 (l:=s.k) (acc:=[]);have e2:=Hu (θ:=θ) hP.b.sol.asc pD.1 (l:=s.m) (acc:=[]);simp only at ev e2;rw[ad]at ev;rw[hm]at e2;have Mq:dD bO θ:=(kl h.1.b.sol h.1.b.fits iT θ).2 ⟨TG θ pD.1,pD.2⟩;exact dd (GY nj.b.sol.asc Mq (ev.1 da).2 (e2.1 ((UR da).1 hp)).2)
    by_cases ad:eT bO s.k []=none∨eK bO s.m []=none
    ·rw[AD (GA iT ad) c4.l];simp only[dm,kN,List.append_nil];exact eD s.d (fun z aY=>List.mem_append_left _ aY) (fun z aY Lc=>⟨by simpa[Lc]using aY,fun av=>av ad⟩) (by omega)
    ·rw[AD (GC iT ad au) c4.l];simp only[dm,kN];exact eD (s.d++[cR s.b bO]) (fun z aY=>aY) (fun z aY Lc=>absurd aY Lc) (by simp;omega)
   rw[bH];rw[Kh];cases ai:dM {s with b:=bM}with
   |none=>
    rw[pM];symm;unfold dM at ai⊢;simp only at ai⊢;split at ai
    ·rename_i q;simp only[q]
    rename_i k aV;split at ai
    ·rename_i q;simp only[aV,q]
    rename_i m bf;split at ai
    ·rename_i bI;have r:=r8 (b:=bM) (k:=k) (m:=m.filter (ek k)) (l:=s.d);rw[bI]at r;obtain⟨z,aY,tT,cC,da,hp⟩:=r;have eg:=r8 (b:=bM) (k:=k) (m:=m.filter (ek k)) (l:=s.d++[cR s.b bO]);cases cN:dm bM k (m.filter (ek k)) (s.d++[cR s.b bO])with
     |none=>simp only[cN]
     |some L=>rw[cN]at eg;exact absurd hp (eg.1 z (List.mem_append_left _ aY) tT cC da).1
    ·rename_i L bI;have:=ym bI;have:=Dm L;split at ai
     ·cases ai
     ·omega
   |some t=>
    have aL:=(wZ hP ai).1;have uy:=aL.self;obtain⟨Ae,afK⟩:=yR ai;rw[e6];have afs:eT bM s.k []=some t.k∧(∃m,eK bM s.m []=some m∧m.filter (ek t.k)=t.m)∧t.n=s.n∧∃L,dm bM t.k t.m s.d=some L∧fV L=t.d:=by
     have ax:=ai;unfold dM at ax;simp only at ax;split at ax
     ·cases ax
     rename_i k aV;split at ax
     ·cases ax
     rename_i m bf;split at ax
     ·cases ax
     rename_i L bI;split at ax
     ·cases ax;exact⟨aV,⟨m,bf,rfl⟩,rfl,L,bI,rfl⟩
     ·cases ax
    obtain⟨ev,⟨m,e2,nW⟩,r4,L,r5,r6⟩:=afs;have kf:dM {s with b:=bM,d:=s.d++[cR s.b bO]}=((dm bM t.k t.m (s.d++[cR s.b bO])).map fV).bind fun D=>if D.length≤30 then some ⟨s.n,bM,D,t.k,t.m⟩else none:=by rw[vk (s:={s with b:=bM,d:=s.d++[cR s.b bO]}) ev e2];simp only[nW]
    have v8:=aL.1.k;have l4:dn bM:=hP.b;rw[kf];cases l3:mgu bM [(c,e)]with
    |none=>
     have lh:hd t c e=some t:=by unfold hd;rw[Ae];simp only[l3];exact aL.2
     rw[lh];have lL:dm bM t.k t.m (s.d++[cR s.b bO])=some L:=by rw[AD (GB (by rw[TK];exact l3)) r5];simp[dm]
     rw[lL];simp only[kN,e6,r6];rw[if_pos uy.c];have:(⟨s.n,bM,t.d,t.k,t.m⟩:bE)=t:=by rw[←r4,show bM=t.b from Ae.symm]
     rw[this]
    |some sK=>
     have tl:mgu bM (eB (cR s.b bO))=some sK:=by rw[TK];exact l3
     by_cases te:cR bM sK=[]
     ·have lh:hd t c e=none:=by unfold hd;rw[Ae];simp only[l3,if_pos te]
      rw[lh];have cF:bM=sK:=(yt l4 l3).1 te;have dT:kZ sK t.k t.m:=by
       rw[←cF,←show t.b=bM from Ae];rintro(q|q)
       ·rw[uy.k]at q;cases q
       ·rw[uy.m]at q;cases q
      have eg:=r8 (b:=bM) (k:=t.k) (m:=t.m) (l:=s.d++[cR s.b bO]);cases cN:dm bM t.k t.m (s.d++[cR s.b bO])with
      |none=>rfl
      |some sE=>rw[cN]at eg;exact absurd te (eg.1 _ (by simp) sK tl dT).1
     ·have lh:hd t c e=dM {t with d:=t.d++[cR bM sK]}:=by unfold hd;rw[Ae];simp only[l3,if_neg te]
      have afU:∀d∈t.d++[cR bM sK],dn d:=fun d aE=>by
       rcases iH.1 aE with aE|aE
       ·exact aL.1.d d aE
       ·rw[qv.1 aE];exact AQ (l4.mgu (by simp[T.fit_ok ar,T.fit_ok he]) l3)
      rw[lh,vk (s:={t with d:=t.d++[cR bM sK]}) uy.k uy.m];simp only[uy.f];rw[show t.b=bM from Ae,r4];have TF:∀θ,dD bM θ→(dD (cR s.b bO) θ↔dD (cR bM sK) θ):=fun θ J=>by have aV:=kl l4.sol l4.fits tl θ;have bf:=kl l4.sol l4.fits (tA l4.sol l4.fits l3) θ;rw[vm]at aV bf;exact⟨fun h=>(bf.1 (aV.2 ⟨J,h⟩)).2,fun h=>(aV.1 (bf.2 ⟨J,h⟩)).2⟩
      rw[Ly l4 afU kg v8.at' (fun z aY tT aV bf=>?_) (fun z aY tT aV bf=>?_)]
      ·rcases iH.1 aY with aY|aY
       ·obtain⟨d,aE,qs,cC,rfl⟩:=afK z aY;simp only at cC;refine⟨d,List.mem_append_left _ aE,fun θ J U=>?_⟩;have bI:=kl l4.sol l4.fits cC θ;have cN:=kl l4.sol l4.fits (tA l4.sol l4.fits cC) θ;rw[vm]at bI cN;exact(bI.1 (cN.2 ⟨J,U⟩)).2
       ·rw[qv.1 aY];exact⟨cR s.b bO,by simp,fun θ J U=>(TF θ J).2 U⟩
      ·rcases iH.1 aY with aY|aY
       ·have r:=r8 (b:=bM) (k:=t.k) (m:=t.m) (l:=s.d);rw[r5]at r;have hw:=(r.1 z aY tT aV bf).2;obtain⟨d,aE,aR⟩:=GO (fun d aE=>(uY l4 h.1.d r5 d aE).sol) _ _ hw rfl;rw[r6]at aE;refine⟨d,List.mem_append_left _ aE,fun θ J U=>?_⟩;have bI:=(kl l4.sol l4.fits aV θ).2 ⟨J,vm.2 U⟩;exact(qf (uY l4 h.1.d r5 _ hw).sol).1 aR θ (L0 bI)
       ·rw[qv.1 aY];exact⟨cR bM sK,by simp,fun θ J U=>(TF θ J).1 U⟩
theorem IM{s:List ak}(af:ey s){t:T}{u:Int}(h:(t.ap (bF s)).occ u=true):cV s u=none:=by
 obtain⟨w,_,U⟩:=yv.1 h;unfold bF at U;cases e:cV s w with
 |none=>rw[e]at U;simp[T.occ]at U;rw[←U];exact e
 |some dF=>rw[e]at U;exact af.free _ (jS e) u U
theorem UD{b:List ak}{k k':List bX}{m m':List bd}{X:List (List ak)}(ae:dn b)(lj:∀d∈X,dn d)(ad:∀z∈k,(0≤z.v∧z.v≤100000)∧(z.k=2∨z.k=3))(bD:kZ b k m)(hw:∀x,dn x→(∀θ,dD x θ→dD b θ)→kZ x k m→kZ x k' m'):
  match dm b k' m' X with|none=>dm b k m X=none|some sE=>(dm b k m (fV sE)).map fV=(dm b k m X).map fV:=by
 have afZ:∀{d x},d∈X→mgu b (eB d)=some x→dn x∧∀θ,dD x θ→dD b θ:=fun{d x} aE ab=>⟨ae.mgu (Rq (lj d aE)) ab,fun θ fF=>((kl ae.sol ae.fits ab θ).1 fF).1⟩;have r:=r8 (b:=b) (k:=k') (m:=m') (l:=X);cases e:dm b k' m' X with
 |none=>
  rw[e]at r;obtain⟨d,aE,x,aV,bf,bI⟩:=r;have jT:b=x:=(yt ae aV).1 bI;have e2:=r8 (b:=b) (k:=k) (m:=m) (l:=X);cases ax:dm b k m X with
  |none=>rfl
  |some L=>rw[ax]at e2;exact absurd bI (e2.1 d aE x aV (by rw[←jT];exact bD)).1
 |some sE=>
  rw[e]at r;have hg:∀d∈sE,dn d:=uY ae lj e;refine Ly ae (fun d aE=>hg d (nr.1 aE).1) lj ad (fun z aY tT aV bf=>?_) fun z aY tT aV bf=>?_
  ·obtain⟨d,aE,x,cC,da,rfl⟩:=r.2 z (nr.1 aY).1;refine⟨d,aE,fun θ J U=>?_⟩;have bI:=kl ae.sol ae.fits cC θ;have cN:=kl ae.sol ae.fits (tA ae.sol ae.fits cC) θ;rw[vm]at bI cN;exact(bI.1 (cN.2 ⟨J,U⟩)).2
  ·obtain⟨bt,a2⟩:=afZ aY aV;have TN:=(r.1 z aY tT aV (hw tT bt a2 bf)).2;obtain⟨d,aE,aR⟩:=GO (fun d aE=>(hg d aE).sol) _ _ TN rfl;refine⟨d,aE,fun θ J U=>?_⟩;have bI:=(kl ae.sol ae.fits aV θ).2 ⟨J,vm.2 U⟩;exact(qf (hg _ TN).sol).1 aR θ (L0 bI)
theorem Ow{l l':List bd}{t:T}{s:List cQ}(h:gm l t s=none):gm l' t s=none:=by
 unfold gm at h⊢;split at h
 ·rename_i e;rw[if_pos e]
 ·cases h
theorem Za{l a:List bd}{t:T}{s:List cQ}(he:gm l t s=some a):∀x∈l,x∈a:=fun x ab=>(q4 he x).2 (.inl ab)
theorem ze{l a:List bd}{t:T}{s:List cQ}(he:gm l t s=some a):gR e5 a:=by
 unfold gm at he;split at he
 ·cases he
 ·cases he;exact BU k0 _
theorem Y9{l l' a:List bd}{t:T}{s:List cQ}(h:gm l t s=some a):∃be,gm l' t s=some be:=by
 cases e:gm l' t s with
 |none=>rw[Ow e]at h;cases h
 |some be=>exact⟨be,rfl⟩
theorem Ov{l a:List bX}{t:T}{k:Int}(he:gS l t k=some a):∀x∈l,x∈a:=by
 unfold gS at he;split at he
 ·split at he
  ·split at he
   ·cases he;exact fun _ h=>h
   ·cases he
  ·cases he;exact fun x ab=>wG.2 (.inr ab)
 ·split at he
  ·cases he;exact fun _ h=>h
  ·cases he
theorem order2{s:bE}(h:k2 s){x y:T}(ab:x.fit=true)(aD:y.fit=true)(bx:dG s.n x=true)(gh:dG s.n y=true){k:Int}(ad:k=2∨k=3){g:List cQ}(aR:ib g=true):
  ((jx s x k).bind fun t=>jy t y g)=(jy s y g).bind fun t=>jx t x k:=by
 have c4:=h.self;have kf:∀{s' t:bE},dM s'=some t→t.b=s'.b:=fun he=>(yR he).1;by_cases lg:(x.ap (bF s.b)).size≤5000;rotate_left
 ·have J:∀{t:bE},t.b=s.b→jx t x k=none:=fun{t} e=>by unfold jx;rw[e,if_neg fun h=>lg h.2]
  rw[J rfl,pM];cases e:jy s y g with
  |none=>rfl
  |some t=>
   rw[e6];refine(J ?_).symm;unfold jy at e;split at e
   ·obtain⟨l,aV,bf⟩:=h6.1 e;exact kf (s':={s with m:=l}) bf
   ·cases e
 by_cases pe:(y.ap (bF s.b)).size≤5000;rotate_left
 ·have J:∀{t:bE},t.b=s.b→jy t y g=none:=fun{t} e=>by unfold jy;rw[e,if_neg pe]
  rw[J rfl,pM];cases e:jx s x k with
  |none=>rfl
  |some t=>
   rw[e6];refine J ?_;unfold jx at e;split at e
   ·obtain⟨l,aV,bf⟩:=h6.1 e;exact kf (s':={s with k:=l}) bf
   ·cases e
 have c3:∀t:bE,t.b=s.b→jx t x k=(gS t.k (x.ap (bF s.b)) k).bind fun l=>dM {t with k:=l}:=fun t e=>by unfold jx;rw[e,if_pos ⟨ad,lg⟩]
 have ga:∀t:bE,t.b=s.b→jy t y g=(gm t.m (y.ap (bF s.b)) g).bind fun l=>dM {t with m:=l}:=fun t e=>by unfold jy;rw[e,if_pos pe]
 rw[c3 s rfl,ga s rfl];cases gp:gS s.k (x.ap (bF s.b)) k with
 |none=>
  rw[pM,pM];cases qU:gm s.m (y.ap (bF s.b)) g with
  |none=>rfl
  |some lm=>
   rw[e6];cases e:dM {s with m:=lm}with
   |none=>rfl
   |some w=>
    rw[e6,c3 w (kf (s':={s with m:=lm}) e)];have afX:w.k=s.k:=by
     unfold dM at e;simp only[c4.k]at e;split at e
     ·cases e
     split at e
     ·cases e
     split at e
     ·cases e;rfl
     ·cases e
    rw[afX,gp];rfl
 |some lk=>
  have nk:=h.1.knd ab bx ad gp;have x0:=nk.k;simp only at x0;have ae8:∀z∈lk,cV s.b z.v=none:=fun z aY=>by
   rcases EH gp z aY with J|J
   ·exact Hr h.1.b.sol (by simp) c4.k z J
   ·exact IM h.1.b.sol (t:=x) (by rw[J];simp[T.occ])
  have z8:eT s.b lk []=some lk:=M0 (acc:=[]) x0.asc ae8;cases qU:gm s.m (y.ap (bF s.b)) g with
  |none=>
   rw[pM,pM];rw[e6];cases e:dM {s with k:=lk}with
   |none=>rfl
   |some v=>rw[e6,ga v (kf (s':={s with k:=lk}) e),Ow qU];rfl
  |some lm=>
   have aoE:=h.1.mrk aD gh aR qU;have x5:∀z∈lm,cV s.b z.v=none:=fun z aY=>by
    rcases(q4 qU z).1 aY with J|⟨_,J⟩
    ·exact Bf h.1.b.sol (by simp) c4.m z J
    ·exact IM h.1.b.sol J
   have afD:∀z∈s.m,cV s.b z.v=none:=Bf h.1.b.sol (by simp) c4.m;have F8:∀{l:List bd},gR e5 l→(∀z∈l,cV s.b z.v=none)→eK s.b l []=some l:=fun J U=>Ht (acc:=[]) J U;rw[e6,e6];obtain⟨tu,x2⟩:=Y9 (l':=s.m.filter (ek lk)) qU;have Tf:∀z∈tu,cV s.b z.v=none:=fun z aY=>by
    rcases(q4 x2 z).1 aY with J|⟨_,J⟩
    ·exact afD z (ha.1 J).1
    ·exact IM h.1.b.sol J
   have td:∀z:bd,ek lk z=true→ek s.k z=true:=fun z aY=>by
    cases e:ek s.k z with
    |true=>rfl
    |false=>
     have ai:ki s.k z.v=some 3:=by simpa[ek]using e
     have ax:=Ax x0.asc (Ov gp _ (Aw ai));simp only at ax;rw[ek,ax]at aY;simp at aY
   have fs:tu.filter (ek lk)=(lm.filter (ek s.k)).filter (ek lk):=by
    refine gR.ext k0 (vv _ (ze x2)) (vv _ (vv _ (ze qU))) fun z=>?_;rw[ha,ha,ha,q4 x2,q4 qU,ha];constructor
    ·rintro⟨J|J,U⟩
     ·exact⟨⟨.inl J.1,td z U⟩,U⟩
     ·exact⟨⟨.inr J,td z U⟩,U⟩
    ·rintro⟨⟨J|J,_⟩,U⟩
     ·exact⟨.inl ⟨J,U⟩,U⟩
     ·exact⟨.inr J,U⟩
   have bD:kZ s.b lk (tu.filter (ek lk)):=by
    rintro(q|q)
    ·rw[z8]at q;cases q
    ·rw[F8 (vv _ (ze x2)) fun z aY=>Tf z (ha.1 aY).1]at q;cases q
   have Ai:∀z,dn z→(∀θ,dD z θ→dD s.b θ)→kZ z lk (tu.filter (ek lk))→kZ z lk (s.m.filter (ek lk)):=fun z aY _ av=>by obtain⟨θ,aV,bf,bI⟩:=GX aY x0.at' av;exact GY aY.sol.asc aV bf fun a bk=>bI a (ha.2 ⟨Za x2 a bk,(ha.1 bk).2⟩)
   have kg:∀z,dn z→(∀θ,dD z θ→dD s.b θ)→kZ z lk (tu.filter (ek lk))→kZ z s.k (lm.filter (ek s.k)):=fun z aY _ av=>by obtain⟨θ,aV,bf,bI⟩:=GX aY x0.at' av;rw[fs]at bI;exact GY aY.sol.asc aV (fun a bk=>bf a (Ov gp a bk)) ((UR bf).1 bI)
   have t1:=UD (k':=lk) (m':=s.m.filter (ek lk)) h.1.b h.1.d x0.at' bD Ai;have t2:=UD (k':=s.k) (m':=lm.filter (ek s.k)) h.1.b h.1.d x0.at' bD kg;have ar:=c4.c;have ba:((dM {s with k:=lk}).bind fun t=>jy t y g)=((dm s.b lk (tu.filter (ek lk)) s.d).map fV).bind fun D=>if D.length≤30 then some ⟨s.n,s.b,D,lk,tu.filter (ek lk)⟩else none:=by
    rw[vk (s:={s with k:=lk}) z8 c4.m];simp only;cases e:dm s.b lk (s.m.filter (ek lk)) s.d with
    |none=>rw[e]at t1;simp only at t1;rw[t1];rfl
    |some L=>rw[e]at t1;simp only at t1;have:=ym e;have:=Dm L;simp only[kN,e6];rw[if_pos (by omega),e6,ga ⟨s.n,s.b,fV L,lk,s.m.filter (ek lk)⟩ rfl];simp only[x2,e6];rw[vk (s:=⟨s.n,s.b,fV L,lk,tu⟩) z8 (F8 (ze x2) Tf)];simp only;rw[t1]
   have gU:((dM {s with m:=lm}).bind fun t=>jx t x k)=((dm s.b lk (tu.filter (ek lk)) s.d).map fV).bind fun D=>if D.length≤30 then some ⟨s.n,s.b,D,lk,tu.filter (ek lk)⟩else none:=by
    rw[vk (s:={s with m:=lm}) c4.k (F8 (ze qU) x5)];simp only;cases e:dm s.b s.k (lm.filter (ek s.k)) s.d with
    |none=>rw[e]at t2;simp only at t2;rw[t2];rfl
    |some L=>rw[e]at t2;simp only at t2;have:=ym e;have:=Dm L;simp only[kN,e6];rw[if_pos (by omega),e6,c3 ⟨s.n,s.b,fV L,s.k,lm.filter (ek s.k)⟩ rfl];simp only[gp,e6];rw[vk (s:=⟨s.n,s.b,fV L,lk,lm.filter (ek s.k)⟩) z8 (F8 (vv _ (ze qU)) fun z aY=>x5 z (ha.1 aY).1)];simp only;rw[←fs,t2]
   rw[ba,gU]
theorem H3{fv p:Option bE}{F:bE→Option bE}(bB:p=fv.bind F):fv.isSome=false→p.isSome=false:=by
 subst bB;cases fv with
 |none=>intro;rfl
 |some t=>intro h;simp at h
theorem H2{fv p:Option bE}{F:bE→Option bE}(bB:p=fv.bind F)(h:fv.isSome=true):∃t,fv=some t∧fv.getD fy=t∧p=F t:=by
 subst bB;cases fv with
 |none=>simp at h
 |some t=>exact⟨t,rfl,rfl,rfl⟩
set_option maxRecDepth 4000 in
theorem XL(d:List Int)(aE:sM d):bS az 4 [.slice 1 .no (hO d)] (.bool true):=by
 by_cases Cv:1048576<d.length
 ·have cz:(1048576:Int)<d.length:=by omega
  refine bq Bv RJ Vw fun aP=>?_;unfold I7;exact cB
 ·have aq:d.length≤10000000:=by omega
  have SH:¬(1048576:Int)<d.length:=by omega
  have c4:=al2 d aE aq 0 (by omega) 6 (by omega);have lL:=ag8 d 0 (n:=6) (by omega);generalize Dh d 0 6=s at c4 lL;have ba:bS az 11 [.slice 1 .no (hO d),.int .i64 60,.int .i64 3,.int .i64 6] (dW 3 6 (jF d 60)).1.e:=H9 d aE aq 60 (by omega) 3 (by omega) 6 (by omega);have mL:=vL (n:=6) (by omega) (z:=3) (by omega) (jF d 60);generalize (dW 3 6 (jF d 60)).1=a at ba mL;have gU:bS az 11 [.slice 1 .no (hO d),.int .i64 80,.int .i64 5,.int .i64 6] (dW 5 6 (jF d 80)).1.e:=H9 d aE aq 80 (by omega) 5 (by omega) 6 (by omega);have mM:=vL (n:=6) (by omega) (z:=5) (by omega) (jF d 80);generalize (dW 5 6 (jF d 80)).1=b at gU mM;have Co:bS az 11 [.slice 1 .no (hO d),.int .i64 100,.int .i64 3,.int .i64 6] (dW 3 6 (jF d 100)).1.e:=H9 d aE aq 100 (by omega) 3 (by omega) 6 (by omega);have vt:=vL (n:=6) (by omega) (z:=3) (by omega) (jF d 100);generalize (dW 3 6 (jF d 100)).1=c at Co vt;have dk:bS az 11 [.slice 1 .no (hO d),.int .i64 120,.int .i64 5,.int .i64 6] (dW 5 6 (jF d 120)).1.e:=H9 d aE aq 120 (by omega) 5 (by omega) 6 (by omega);have vu:=vL (n:=6) (by omega) (z:=5) (by omega) (jF d 120);generalize (dW 5 6 (jF d 120)).1=e at dk vu;have pj:s.n=6:=lL.s.n;have ok:=lL.s.ok;have tg:=lL.s.tg;have eW:=lL.k;have xr:=mL.b;have j6:=mM.b;have EL:=vt.b;have kr:=vu.b;rw[←pj]at xr j6 EL kr;have VG:=ajH ok (by omega) mL.f mM.f xr j6 vt.f vu.f EL kr;have VH:=order2 ok mL.f mM.f xr j6 (k:=3) (.inr rfl) (g:=[97]) (by decide);have aS:=XK ok tg.w mL.f mM.f xr j6;have yj:=amG ok tg.w mL.f mM.f xr j6;have bc:=XJ ok tg.w vt.f vu.f EL kr;have cY:=XM ok tg.w mL.f xr 3;have p5:=XP ok tg mM.f j6 (g:=[97]) (by decide);have g1:∀t,hv s a b=some t→sS 6 t:=fun t e=>BS (kd:=0) (k:=2) (g:=[97]) lL.s mL.f mM.f mL.b mM.b (by simp) (by unfold oi;rw[if_pos rfl];exact e);have g2:∀t,hd s c e=some t→sS 6 t:=fun t h=>BS (kd:=1) (k:=2) (g:=[97]) lL.s vt.f vu.f vt.b vu.b (by simp) (by unfold oi;rw[if_neg (by decide),if_pos rfl];exact h);have g3:∀t,jx s a 3=some t→sS 6 t:=fun t e=>BS (kd:=2) (k:=3) (y:=a) (g:=[97]) lL.s mL.f mL.f mL.b mL.b (by simp) (by unfold oi;rw[if_neg (by decide),if_neg (by decide),if_pos rfl];exact e);have g4:∀t,jy s b [97]=some t→sS 6 t:=fun t e=>BS (kd:=3) (k:=3) (y:=b) (g:=[97]) lL.s mM.f mM.f mM.b mM.b (by simp) (by unfold oi;rw[if_neg (by decide),if_neg (by decide),if_neg (by decide)];exact e);obtain⟨p,bB⟩:∃p,p=(hv s a b).bind fun t=>hd t c e:=⟨_,rfl⟩;have x8:=bB;rw[VG]at x8;obtain⟨r,aK⟩:∃r,r=(jx s a 3).bind fun t=>jy t b [97]:=⟨_,rfl⟩;have c7:=aK;rw[VH]at c7;have hA:=H3 bB;have fN:=H3 x8;have h1:=H3 aK;have GQ:=H3 c7;have f1:(hv s a b).isSome=true→bS az 13 [((hv s a b).getD fy).e,c.e,e.e] (hI p):=fun h=>by obtain⟨t,ai,ax,bn⟩:=H2 bB h;have q:=g1 t ai;rw[ax,bn];exact XJ q.ok q.tg.w vt.f vu.f (by rw[q.n];exact vt.b) (by rw[q.n];exact vu.b)
  have f2:(hd s c e).isSome=true→bS az 12 [((hd s c e).getD fy).e,a.e,b.e] (hI p):=fun h=>by obtain⟨t,ai,ax,bn⟩:=H2 x8 h;have q:=g2 t ai;rw[ax,bn];exact XK q.ok q.tg.w mL.f mM.f (by rw[q.n];exact mL.b) (by rw[q.n];exact mM.b)
  have f3:(jx s a 3).isSome=true→bS az 16 [((jx s a 3).getD fy).e,b.e,.str [97]] (hI r):=fun h=>by obtain⟨t,ai,ax,bn⟩:=H2 aK h;have q:=g3 t ai;rw[ax,bn];exact XP q.ok q.tg mM.f (by rw[q.n];exact mM.b) (by decide)
  have f4:(jy s b [97]).isSome=true→bS az 14 [((jy s b [97]).getD fy).e,a.e,.int .i64 3] (hI r):=fun h=>by obtain⟨t,ai,ax,bn⟩:=H2 c7 h;have q:=g4 t ai;rw[ax,bn];exact XM q.ok q.tg.w mL.f (by rw[q.n];exact mL.b) 3
  clear bB x8 aK c7 g1 g2 g3 g4 VG VH xr j6 EL kr mL mM vt vu eW ok tg pj lL;simp only[hI]at aS yj bc cY p5 f1 f2 f3 f4;generalize (hv s a b).isSome=aV at aS yj f1 hA;generalize (hv s a b).getD fy=fW at aS yj f1;generalize (hd s c e).isSome=bf at bc f2 fN;generalize (hd s c e).getD fy=dS at bc f2;generalize (jx s a 3).isSome=bI at cY f3 h1;generalize (jx s a 3).getD fy=El at cY f3;generalize (jy s b [97]).isSome=cN at p5 f4 GQ;generalize (jy s b [97]).getD fy=vs at p5 f4;have s1:=Yo (p.getD fy);have s2:=Yo (r.getD fy);generalize p.isSome=P at f1 f2 hA fN;generalize p.getD fy=wp at f1 f2 s1;generalize r.isSome=Q at f3 f4 h1 GQ;generalize r.getD fy=wr at f3 f4 s2;clear aE aq;simp only[bE.e]at*;refine bq Bv RJ Vw fun aP=>?_;unfold I7;simp;cases aV<;>cases bf<;>cases bI<;>cases cN;all_goals simp only[gC,true_implies,false_implies,forall_const]at f1 f2 f3 f4 hA fN h1 GQ
  all_goals(try subst hA)
  all_goals(try subst fN)
  all_goals(try subst h1)
  all_goals(try subst GQ)
  all_goals(with_reducible repeat' first|refine aj ?_|refine aB c4 ?_|refine aC c4 ?_|refine aB ba ?_|refine aC ba ?_|refine aB gU ?_|refine aC gU ?_|refine aB Co ?_|refine aC Co ?_|refine aB dk ?_|refine aC dk ?_|refine aB aS ?_|refine aC aS ?_|refine aB yj ?_|refine aC yj ?_|refine aB bc ?_|refine aC bc ?_|refine aB cY ?_|refine aC cY ?_|refine aB p5 ?_|refine aC p5 ?_|refine aB f1 ?_|refine aC f1 ?_|refine aB f2 ?_|refine aC f2 ?_|refine aB f3 ?_|refine aC f3 ?_|refine aB f4 ?_|refine aC f4 ?_|refine aB s1 ?_|refine aC s1 ?_|refine aB s2 ?_|refine aC s2 ?_|simp[SH])
  all_goals(try cases P)
  all_goals(try cases Q)
  all_goals(try simp)
  all_goals(with_reducible repeat' first|refine aj ?_|refine aB c4 ?_|refine aC c4 ?_|refine aB ba ?_|refine aC ba ?_|refine aB gU ?_|refine aC gU ?_|refine aB Co ?_|refine aC Co ?_|refine aB dk ?_|refine aC dk ?_|refine aB aS ?_|refine aC aS ?_|refine aB yj ?_|refine aC yj ?_|refine aB bc ?_|refine aC bc ?_|refine aB cY ?_|refine aC cY ?_|refine aB p5 ?_|refine aC p5 ?_|refine aB f1 ?_|refine aC f1 ?_|refine aB f2 ?_|refine aC f2 ?_|refine aB f3 ?_|refine aC f3 ?_|refine aB f4 ?_|refine aC f4 ?_|refine aB s1 ?_|refine aC s1 ?_|refine aB s2 ?_|refine aC s2 ?_|simp[SH])
  all_goals simp[bp,Wo,aT,aW,aQ]
end Go.Proofs.YtohaalphocaebaaGreat
namespace Go.Proofs.YtohaalphocaebaaGreat
open Go Go.Pv Go.ChangeShapes Go.WideShapes Go.ChangeAt Go.RowKit
theorem akP:ownKnob az.godebug=none:=by kernel_rfl
theorem akO:laidOutB az=true:=by kernel_rfl
theorem ZH:az.cellsOf 5=1:=by kernel_rfl
theorem O1(w:World)(ν:a8):∀xs:List Int,dA w ν 1 (hO xs) (xs.map (Value.int .u8))
 |[]=>by simp[hO,dA]
 |x::xs=>by simp only[hO,gP,dA];exact⟨.int .u8 x,_,rfl,⟨by simp[a6],rfl,by intro c ar;simp[oY]at ar;subst ar;rfl⟩,O1 w ν xs⟩
def zv(b off n:Nat):a8:=⟨fun bV o=>bV=b∧off≤o∧o<off+n,fun _=>none,fun _=>none,fun _ _ _=>ep⟩
theorem AB(w:World)(A:Nat→Nat→Prop)(b:Nat):∀(us:List Value) (off:Nat),(∀i u,us[i]? =some u→A b (off+i)∧w.cell? ⟨b,off+i,none⟩=some u)→lS w A b off us
 |[],_,_=>trivial
 |u::us,off,h=>⟨by simpa using h 0 u rfl,AB w A b us (off+1) fun i fc hu=>by have:=h (i+1) fc (by simpa using hu);rwa[show off+(i+1)=off+1+i from by omega]at this⟩
theorem Jj{f:FuncId}{fn:Func}(qP:az.funcs[f]? =some fn)(Jw:∀args w,(callFunc f args).run az w= .ok (.enter f args) w){w:World}{ν:a8}{args:List ah}{a7:Array Value}(h:bS az f args (.bool true))(aL:∀k j b,¬ν.tr k j b)(ba:∀b o,ν.A b o→b<w.heap.size)(ae:∀k,ν.bx k=none)(av:∀k,ν.ow k=none)(aK:cK w ν args a7.toList):
  Calls az f a7 w fun e w'=>e= .returned (.bool true)∧Below w.heap.size w w':=by
 have aR:Pv.Good (fl ν ⟨[],[]⟩) w ν [] []:=⟨ba,fun k cs ad=>by simp[Pv.look]at ad,fun k k' bl J=>by simp[Pv.look]at J,fun g o ad=>by simp[Pv.look]at ad,fun g e9 n n' v v' bl J=>by simp[Pv.look]at J,fun g k n v bl J=>by simp[Pv.look]at J,fun k=>.inl (ae k),fun _ _ k j=>aL k j _⟩;rcases h w ν a7 aR (fun k=>⟨fun _=>ae k,fun _=>av k,aL k⟩) aK with⟨_,ar⟩|⟨v,w',ar,_⟩
 ·refine ar.mono ?_;rintro e w' ⟨v,r,s',bg,rfl,⟨rfl,rfl⟩,lO,_,_,_,l6⟩;simp only[a6]at lO;subst lO;refine⟨rfl,l6.os,l6.tape,l6.output,l6.size,fun k ad=>l6.block k ad ?_⟩;simp[fl,Pv.look]
 ·rw[Jw]at ar;cases ar
theorem amS{n:Int}(h:(Lit.int .u8 n).wf=true):0≤n∧n<256:=by simp[Lit.wf,IntKind.min,IntKind.max,rl,nF]at h;omega
end Go.Proofs.YtohaalphocaebaaGreat
