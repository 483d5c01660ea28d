/- Contracts of functions that hand back memory of their own, II. -/
import Derived.Test.YtlnndmgfngfeiaaGreatDoorZp2
set_option linter.all false
set_option maxHeartbeats 4000000
set_option maxRecDepth 4000
open Array renaming getD_eq_getD_getElem?->oC,getElem?_eq_getElem->oD,replicate->p8
open Bool renaming and_eq_true->bM,false_eq_true->kk,not_eq_true'->q0
open Go renaming Operand->h7,Program->bK,TypeId->fI
open Go.Region renaming binds->sy,ready->sA,wanted->oE
open Go.Result renaming andThen_ok->e4
open Go.Sem renaming run_bind->e2,run_pure->fH
open Go.Value.slice renaming injEq->ai3
open List renaming all_eq_true->jy,cons_append->dm,eq_nil_of_length_eq_zero->q1,getElem?_append_left->qa,getElem?_eq_some_iff->e3,length_cons->lx,length_pos_iff->q2,map_cons->gY,mem_append->hv,mem_append_left->lY,mem_append_right->j3,mem_cons->gp,mem_map->lZ,nil_append->ef,nodup_append->qb
open Nat renaming le_refl->cq
open Option renaming getD_some->pf,isSome_iff_exists->e5,map_some->kF
open Option.some renaming inj->gq,injEq->dZ
open Prod.mk renaming injEq->gA
open _root_ renaming False->cZ,Option->aT,beq_iff_eq->ej,decide_eq_true_eq->fK,if_neg->bq
namespace Go.Pv
section
open Go Go.RowKit
inductive dQ where
 |s (i:dP)
 |call (d:aT Nat) (f:cM) (xs:List cM)
 |next (d:Nat) (x:cM)
 |opn (d:aT Nat) (f:cM) (xs:List cM)
 |callb (d:aT Nat) (f:cM)
structure cy where
 g:aT (Nat×Bool)
 i:dQ
def dP.dst:dP->aT Nat
 | .v d _| .box d _ _| .alloc d _ _| .bsl d _ _ _| .app d _ _ _ _| .bslm d _ _ _ _| .appm d _ _ _ _ _| .mkmap d _| .range d _ _| .mks d _ _ _ _ _| .apps d _ _ _=>some d
 | .store _ _ _| .mput _ _ _ _| .storeE _ _ _=>none
def dQ.dst:dQ->aT Nat
 | .s i=>i.dst
 | .call d _ _=>d
 | .next d _=>some d
 | .opn d _ _=>d
 | .callb d _=>d
def CallDo(P:bK)(n:Nat)(args:List ae)(st:aS)(d:aT Nat)(K:aS->Prop):Prop:=
 (∃s Q,o9 (au s) s.b st.b/\p3 (au s) s.e st.e/\hd s/\kinL (au s) args/\b7 P n args s Q/\
  ∀r ai,Q r ai->((∀m,(look (.obj m) ai.b).isSome->(look (.obj m) s.b).isSome\/ .obj m∉st.o)/\(∀m,(look (.obj m) ai.e).isSome->(look (.obj m) s.e).isSome\/ .obj m∉st.o))/\K (after st s ai d r))\/
 (∃s Q,o9 (au s) s.b st.b/\p3 (au s) s.e st.e/\hd s/\kinL (au s) args/\ .loc st.n∉st.o/\FnK P n st.n args s Q/\
  ∀r ai,Q r ai->((∀m,(look (.obj m) ai.b).isSome->(look (.obj m) s.b).isSome\/ .obj m∉st.o)/\(∀m,(look (.obj m) ai.e).isSome->(look (.obj m) s.e).isSome\/ .obj m∉st.o))/\K {after st s ai d r with n:=st.n+1})
def Qr(st:aS)(d:Nat)(hc mk:aC)(since:Nat)(seen:List Nat)(last clock:Nat)(borns:List Nat)(kvs:List ae)(K:aS->Prop):Prop:=
 (since=clock/\last=clock)/\((∀b∈borns,b∈seen)->K {st with t:=put d (.tuple [.bool false]) st.t})/\
 (∀b k v,oo b borns kvs=some (.tuple [k,v])->b∉seen->K {st with t:=put d (.tuple [.bool true,k,v]) st.t,b:=cT hc [.hdi since (seen++[b]) last,.gmap mk] st.b})
def xa(st:aS)(d:Nat)(v:ae)(K:aS->Prop):Prop:=
 match v with
 | .ptr hc 0=>match look hc st.b with
  |some [.hdi since seen last,.gmap mk]=>match look mk st.b with
   |some (.hdm clock borns::kvs)=>Qr st d hc mk since seen last clock borns kvs K
   |_=>cZ
  |_=>cZ
 |_=>cZ
def kn(P:bK)(ob:List aC)(n:Nat)(args:List ae)(st:aS)(d:aT Nat)(K:aS->Prop):Prop:=
 ∀(C:ek) (a:Act) (w:World) (ν:aP) (vs:Array Value),C.ob=ob->bX C st a w ν->cc w ν args vs.toList->hi C.N d=true->
  va P n vs w fun e w'=> ∃v st' ν',e= .returned v/\K st'/\bX C st' (a.put d v) w' ν'
def pz(P:bK)(ob:List aC)(st:aS)(K:aS->Prop):dQ->Prop
 | .next d x=>xa st d (bG st.t x) K
 | .s i=>match lr st i with
  |some (c,st')=>c/\K st'
  |none=>cZ
 | .call d f xs=>match bG st.t f with
  | .func n ds=>CallDo P n (bz (xs.map (bG st.t)++ds)) st d K
  |_=>cZ
 | .opn d f xs=>match bG st.t f with
  | .func n ds=>kn P ob n (xs.map (bG st.t)++ds) st d K
  |_=>cZ
 | .callb d f=>match bG st.t f with
  | .func n ds=> ¬n<1000000/\CallDo P (u3 n) (bz ds) st d K
  |_=>cZ
def gv(P:bK)(ob:List aC):List cy->aS->(aS->Prop)->Prop
 |[],st,K=>K st
 |⟨none,i⟩::r,st,K=>pz P ob st (fun st'=>gv P ob r st' K) i
 |⟨some (s,want),i⟩::r,st,K=>match get s st.t with
  | .bool b=>(b=want->pz P ob {st with t:=put s (.bool want) st.t} (fun st'=>gv P ob r st' K) i)/\(b= !want->gv P ob r {st with t:=fk i.dst (.tuple []) (put s (.bool !want) st.t)} K)
  | .tuple []=>gv P ob r {st with t:=fk i.dst (.tuple []) st.t} K
  |_=>cZ
def r8(N:Nat)(aZ:List (Nat×cJ))(i:dQ)(o:Oper):Bool:=
 match i with
 | .s i=>qO N aZ i o
 | .next d x=>match o.op with
  | .next it false=>o.dst==some d&&decide (d<N)&&ed x it
  |_=>false
 | .call d f xs=>match o.op with
  | .call ⟨.value hK,args,_⟩=>o.dst==d&&hi N d&&ed f hK&&uN xs args.toList
  |_=>false
 | .opn d f xs=>match o.op with
  | .call ⟨.value hK,args,_⟩=>o.dst==d&&hi N d&&ed f hK&&uN xs args.toList
  |_=>false
 | .callb d f=>match o.op with
  | .call ⟨.value hK,⟨[]⟩,_⟩=>o.dst==d&&hi N d&&ed f hK
  |_=>false
def AZ(N:Nat)(aZ:List (Nat×cJ))(ops:List Oper)(g:cy)(o:Oper):Bool:=
 (match g.g,o.guard with
  |none,none=>true
  |some (s,b),some (j,fY)=>b==fY&&((ops[j]?).bind (·.dst))==some s&&decide (s<N)&&o.dst==g.i.dst&&hi N g.i.dst
  |_,_=>false)&&r8 N aZ g.i o
def ic(N:Nat)(aZ:List (Nat×cJ))(ops:List Oper):List cy->List Oper->Bool
 |[],[]=>true
 |g::gs,o::os=>AZ N aZ ops g o&&ic N aZ ops gs os
 |_,_=>false
theorem RI{w:World}{ν:aP}:∀{a6 bE:List ae} {vs us:List Value},cc w ν a6 vs->cc w ν bE us->cc w ν (a6++bE) (vs++us)
 |[],bE,vs,us,h,cu=>by simp only[cc]at h;subst h;simpa using cu
 |p::a6,bE,vs,us,h,cu=>by simp only[cc]at h;obtain⟨u,br,rfl,I,J⟩:=h;simp only[dm,cc];exact⟨u,_,rfl,I,RI J cu⟩
theorem va.mono{P:bK}{f:FuncId}{vs:Array Value}{w:World}{R FP:Ending->World->Prop}(h:va P f vs w R)(bu:∀e w',R e w'->FP e w'):va P f vs w FP:=by
 rcases h with⟨I,J⟩|⟨v,w',I,J⟩
 ·exact .inl ⟨I,J.mono bu⟩
 ·exact .inr ⟨v,w',I,bu _ _ J⟩
theorem acN{P:bK}{a:Act}{w:World}{o:Oper}{hK:h7}{args:Array h7}{ts:Array fI}(iN:o.op= .call ⟨.value hK,args,ts⟩){n:Nat}{us:Array Value}(aM:a.eval hK= .func (.func n) #[] us)(r:Result Next)(hr:(callFunc n (args.map a.eval++us)).run P w=r):(execOp a.eval o).run P w=r:=by obtain⟨dst,op,ty,pos,FZ,NO⟩:=o;simp only at iN;subst iN;simp only[execOp,resolve,aM,Deferred.ofValue,e2,fH,e4,invoke];simpa using hr
theorem acO{P:bK}{a:Act}{w:World}{o:Oper}{hK:h7}{ts:Array fI}(iN:o.op= .call ⟨.value hK,#[],ts⟩){n:Nat}{us:Array Value}(aM:a.eval hK= .func (.func n) us #[])(r:Result Next)(hr:(callFunc n us).run P w=r):(execOp a.eval o).run P w=r:=by obtain⟨dst,op,ty,pos,FZ,NO⟩:=o;simp only at iN;subst iN;simp only[execOp,resolve,aM,Deferred.ofValue,e2,fH,e4,invoke];simpa using hr
theorem JS{P:bK}(dq:P.funcs.size<=1000000){a:Act}{w:World}{ν:aP}{o:Oper}{hK:h7}{args:Array h7}{ts:Array fI}(iN:o.op= .call ⟨.value hK,args,ts⟩){n:Nat}{ds:List ae}(aL:aH w ν (.func n ds) (a.eval hK)){a6:List ae}(iH:cc w ν a6 (args.toList.map a.eval)):
  ∃vs:Array Value,(∀x w',(callFunc n vs).run P w= .ok x w'->(execOp a.eval o).run P w= .ok x w')/\cc w ν (a6++ds) vs.toList:=by
 rw[aH]at aL;obtain⟨us,aM,hu⟩:=aL;refine⟨args.map a.eval++us,fun x w' hr=>?_,by simpa using RI iH hu⟩;by_cases aK:n<1000000
 ·exact acN iN (aM.trans (WY aK us)) _ hr
 ·have gQ:P.funcs[n]? =none:=Array.getElem?_eq_none (Nat.le_trans dq (Nat.le_of_not_lt aK));simp only[callFunc,e2,e4,run_program,gQ]at hr;cases hr
theorem acP{P:bK}{a:Act}{w:World}{ν:aP}{o:Oper}{hK:h7}{ts:Array fI}(iN:o.op= .call ⟨.value hK,#[],ts⟩){n:Nat}{ds:List ae}(aL:aH w ν (.func n ds) (a.eval hK))(aK:¬n<1000000):
  ∃vs:Array Value,(∀x w',(callFunc (u3 n) vs).run P w= .ok x w'->(execOp a.eval o).run P w= .ok x w')/\cc w ν ds vs.toList:=by
 rw[aH]at aL;obtain⟨us,aM,hu⟩:=aL;exact⟨us,fun x w' hr=>acO iN (aM.trans (WX aK us)) _ hr,hu⟩
theorem Mf{P:bK}{C:ek}{st:aS}{a:Act}{w:World}{ν:aP}(hr:bX C st a w ν){o:Oper}{d:aT Nat}(aF:o.dst=d)(rG:hi C.N d=true)
  {n:Nat} {a6:List ae} {p5:Array Value} (hn:∀x w',(callFunc n p5).run P w= .ok x w'->(execOp a.eval o).run P w= .ok x w') (iH:cc w ν a6 p5.toList) {K:aS->Prop}
  (aE:∃(s:dD) (nP:ae->dD->Prop) (κ:aT Nat) (n':Nat) (o':dD->List aC),o9 (au s) s.b st.b/\p3 (au s) s.e st.e/\hd s/\kinL (au s) (bz a6)/\(∀(w:World) (ν:aP) (vs:Array Value) (gl:nO w ν),Good (fv ν s) w ν s.b s.e->pD ν s->cc w ν (bz a6) vs.toList->
   va P n vs w fun e w'=> ∃v r ai ν',e= .returned v/\nP r ai/\aH w' ν' r v/\Good (fun bl=>fv ν s bl\/w.heap.size<=bl) w' ν' ai.b ai.e/\yM κ ν' ai/\hd ai/\ni ⟨w,ν,fv ν s,0,ec s,gl,[]⟩ w' ν')/\
   (∀m,κ=some m->fresh st.n st.o (.loc m))/\(∀k r ai,nP r ai->fresh n' (o' ai) k->fresh st.n (st.o++ec ai) k/\∀m,κ=some m->k≠ .loc m)/\
   ∀r ai,nP r ai->((∀m,(look (.obj m) ai.b).isSome->(look (.obj m) s.b).isSome\/ .obj m∉st.o)/\(∀m,(look (.obj m) ai.e).isSome->(look (.obj m) s.e).isSome\/ .obj m∉st.o))/\K {after st s ai d r with n:=n',o:=o' ai})
  {mz:Act->World->Prop} {Q:Exit->Act->World->Prop} (cG:∀st' bU w' ν',K st'->bX C st' bU w' ν'->mz bU w'):o.wp P a w mz Q:=by
 obtain⟨s,nP,κ,n',o',cN,c2,c3,c4,c5,MC,Ms,kH⟩:=aE;have jt:cc w (ν.cut (au s)) (bz a6) p5.toList:=zS (mB.cut _ w ν) _ _ c4 (Fl _ _ iH);have YB:Good (fv (ν.cut (au s)) s) w (ν.cut (au s)) s.b s.e:=hr.good.cut cN c2 (fun bl _ h=>h);have hex:pD (ν.cut (au s)) s:=by
  intro k;refine⟨?_,?_,?_⟩;rotate_left 2
  ·rintro j b ⟨aq,ah⟩;obtain⟨t1,t2⟩:=hr.fr.trn k j b ah;rcases aq with aq|aq<;>obtain⟨x,af⟩:=e5.1 aq
   ·obtain⟨bl,br,el,aj,_⟩:=hr.good.box k x (cN k x af).1;rw[t1]at aj;cases aj
   ·obtain⟨v',br,aj,_⟩:=hr.good.own k x (c2 k x af).1;rw[t2]at aj;cases aj
  ·intro aG;by_cases aq:au s k
   ·rw[aP.cut_bx aq];rcases aq with aq|aq
    ·rw[aG]at aq;cases aq
    ·obtain⟨x,af⟩:=e5.1 aq;obtain⟨v',br,aj,_⟩:=hr.good.own k x (c2 k x af).1;rcases hr.good.one k with I|I
     ·exact I
     ·rw[I]at aj;cases aj
   ·exact(aP.cut_no aq).1
  ·intro aG;by_cases aq:au s k
   ·rw[aP.cut_ow aq];rcases aq with aq|aq
    ·obtain⟨x,af⟩:=e5.1 aq;obtain⟨bl,br,el,aj,_⟩:=hr.good.box k x (cN k x af).1;rcases hr.good.one k with I|I
     ·rw[I]at aj;cases aj
     ·exact I
    ·rw[aG]at aq;cases aq
   ·exact(aP.cut_no aq).2.1
 rcases c5 w (ν.cut (au s)) p5 (hr.fr.gl.cut _) YB hex jt with⟨⟨fn,g1,g2,g3⟩,c5⟩|⟨v,w',c5,aU⟩
 ·obtain⟨code,Hl⟩:=e5.1 g2;have gD:(execOp a.eval o).run P w= .ok (.enter n p5) w:=by refine hn _ _ ?_;simp only[callFunc,e2,fH,e4,run_program,g1,g3,Hl];simp
  unfold Oper.wp;rw[gD];simp only[Oper.upon];refine c5.mono fun e w' aU=>?_;obtain⟨v,r,ai,ν',rfl,bn,bR,cA,dE,dM,cP⟩:=aU;obtain⟨⟨gy,fx⟩,aa⟩:=kH r ai bn;rw[aF];exact cG _ _ _ _ aa (hr.callK cN c2 c3 cA dE (fun m hm=>hr.new _ (MC m hm)) (n':=n') (o':=o' ai) (fun k aa=>Ms k r ai bn aa) dM cP gy fx d rG bR)
 ·have gD:(execOp a.eval o).run P w= .ok (.value v) w':=by exact hn _ _ c5
  obtain⟨v2,r,ai,ν',H6,bn,bR,cA,dE,dM,cP⟩:=aU;cases H6;obtain⟨⟨gy,fx⟩,aa⟩:=kH r ai bn;refine kj gD ?_;rw[aF];exact cG _ _ _ _ aa (hr.callK cN c2 c3 cA dE (fun m hm=>hr.new _ (MC m hm)) (n':=n') (o':=o' ai) (fun k aa=>Ms k r ai bn aa) dM cP gy fx d rG bR)
theorem abQ{P:bK}(dq:P.funcs.size<=1000000){C:ek}{st:aS}{a:Act}{w:World}{ν:aP}(hr:bX C st a w ν){o:Oper}{hK:h7}{args:Array h7}{ts:Array fI}(iN:o.op= .call ⟨.value hK,args,ts⟩){d:aT Nat}(aF:o.dst=d)(rG:hi C.N d=true)
  {n:Nat} {ds:List ae} (aL:aH w ν (.func n ds) (a.eval hK)) {a6:List ae} (iH:cc w ν a6 (args.toList.map a.eval)) {K:aS->Prop} (aE:kn P C.ob n (a6++ds) st d K)
  {mz:Act->World->Prop} {Q:Exit->Act->World->Prop} (cG:∀st' bU w' ν',K st'->bX C st' bU w' ν'->mz bU w'):o.wp P a w mz Q:=by
 obtain⟨p5,hn,jt⟩:=JS dq iN aL iH;rcases aE C a w ν _ rfl hr jt rG with⟨⟨fn,g1,g2,g3⟩,c5⟩|⟨v,w',c5,aU⟩
 ·obtain⟨code,Hl⟩:=e5.1 g2;have gD:(execOp a.eval o).run P w= .ok (.enter n p5) w:=by refine hn _ _ ?_;simp only[callFunc,e2,fH,e4,run_program,g1,g3,Hl];simp
  unfold Oper.wp;rw[gD];simp only[Oper.upon];refine c5.mono fun e w' aU=>?_;obtain⟨v,st',ν',rfl,aa,bW⟩:=aU;rw[aF];exact cG _ _ _ _ aa bW
 ·have gD:(execOp a.eval o).run P w= .ok (.value v) w':=by exact hn _ _ c5
  obtain⟨v2,st',ν',H6,aa,bW⟩:=aU;cases H6;refine kj gD ?_;rw[aF];exact cG _ _ _ _ aa bW
theorem Mg{P:bK}{C:ek}{st:aS}{a:Act}{w:World}{ν:aP}(hr:bX C st a w ν){o:Oper}{d:aT Nat}(aF:o.dst=d)(rG:hi C.N d=true)
  {n:Nat} {a6:List ae} {p5:Array Value} (hn:∀x w',(callFunc n p5).run P w= .ok x w'->(execOp a.eval o).run P w= .ok x w') (iH:cc w ν a6 p5.toList) {K:aS->Prop} (aE:CallDo P n (bz a6) st d K)
  {mz:Act->World->Prop} {Q:Exit->Act->World->Prop} (cG:∀st' bU w' ν',K st'->bX C st' bU w' ν'->mz bU w'):o.wp P a w mz Q:=by
 refine Mf hr aF rG hn iH (K:=K) ?_ cG;rcases aE with⟨s,nP,cN,c2,c3,c4,c5,kH⟩|⟨s,nP,cN,c2,c3,c4,c0,c5,kH⟩
 ·refine⟨s,nP,none,st.n,fun ai=>st.o++ec ai,cN,c2,c3,c4,fun w ν vs gl I J ao=>(c5 w ν vs gl I J ao).mono fun e w' aU=>?_,fun m hm=>(by cases hm),fun k _ ai _ aa=>⟨aa,fun m hm=>by cases hm⟩,kH⟩;obtain⟨v,r,ai,ν',g1,g2,g3,g4,g5,g6⟩:=aU;exact⟨v,r,ai,ν',g1,g2,g3,g4,g5.k,g6⟩
 ·refine⟨s,nP,some st.n,st.n+1,fun ai=>st.o++ec ai,cN,c2,c3,c4,c5,fun m hm=>(by cases hm;exact⟨cq _,c0⟩),fun k _ ai _ aa=>⟨qu (Nat.le_succ _) (fun _ h=>h) aa,fun m hm=>?_⟩,kH⟩;cases hm;rintro rfl;have:=aa.1;simp only at this;omega
theorem Me{P:bK}(dq:P.funcs.size<=1000000){C:ek}{st:aS}{a:Act}{w:World}{ν:aP}(hr:bX C st a w ν){o:Oper}{hK:h7}{args:Array h7}{ts:Array fI}(iN:o.op= .call ⟨.value hK,args,ts⟩){d:aT Nat}(aF:o.dst=d)(rG:hi C.N d=true)
  {n:Nat} {ds:List ae} (aL:aH w ν (.func n ds) (a.eval hK)) {a6:List ae} (iH:cc w ν a6 (args.toList.map a.eval)) {K:aS->Prop} (aE:CallDo P n (bz (a6++ds)) st d K)
  {mz:Act->World->Prop} {Q:Exit->Act->World->Prop} (cG:∀st' bU w' ν',K st'->bX C st' bU w' ν'->mz bU w'):o.wp P a w mz Q:=by
 obtain⟨p5,hn,jt⟩:=JS dq iN aL iH;exact Mg hr aF rG hn jt aE cG
theorem bX.drawn{C:ek}{st:aS}{a:Act}{w:World}{ν:aP}(hr:bX C st a w ν)(n:Nat):bX C st a {w with drawn:=n} ν:=by
 have lJ:l1 w ν {w with drawn:=n} ν:=⟨fun _ _ h=>⟨h,rfl⟩,fun _ _ _ h=>h,fun _ n u _ h=>⟨n,u,h,.inl ⟨rfl,rfl⟩⟩,fun _ _ _=>rfl,fun _ _ _ _ h=>h⟩;refine hr.over lJ rfl ⟨hr.good.alt,fun k cs aa=>?_,hr.good.inj,fun g o aR=>?_,hr.good.oinj,hr.good.obx,hr.good.one,hr.good.otr⟩ ⟨hr.fr.os,hr.fr.tape,hr.fr.output,hr.fr.size,hr.fr.block,hr.fr.keep,hr.fr.fresh,hr.fr.obj,hr.fr.obn,hr.fr.row,hr.fr.obr,hr.fr.trd,hr.fr.trb,hr.fr.trn,hr.fr.sh,hr.fr.nrow⟩ hr.new
 ·obtain⟨bl,us,el,I,J,ao,aO,bp⟩:=hr.good.box k cs aa;exact⟨bl,us,el,I,J,ao,aO,pZ lJ bp⟩
 ·obtain⟨v,us,I,J,ao,aO⟩:=hr.good.own g o aR;exact⟨v,us,I,J,ao,se lJ (fun _ _ _ h=>h) aO⟩
theorem WQ{α:Type}{l:List α}{p:α->Bool}(h:∀x∈l,p x=false):l.filter p=[]:=by rw[List.filter_eq_nil_iff];intro x af;simp[h x af]
theorem WO{α:Type}{l:List α}{p:α->Bool}(h:∀x∈l,p x=true):l.filter p=l:=List.filter_eq_self.2 h
def EL(r m since clock:Nat)(seen:Array Nat)(Mh:Array (aT MapEntry)):Sem Value:=do
 match Mh[<-choose (.mapNext Mh.size)]? with
 |some (some e)=>
  setObj r (.mapIter (some m) since (seen.push e.born) clock)
  pure (.tuple #[.bool true,e.key,e.val])
 |some none=>pure (.tuple #[.bool false])
 |none=>stuck "Next: no such candidate"
theorem RZ{P:bK}{w:World}(r m since clock:Nat)(seen:Array Nat)(l:List (aT MapEntry))(aG:l≠[]):∃n x,x∈l/\(EL r m since clock seen l.toArray).run P w=
  (match x with|some e=>(do setObj r (.mapIter (some m) since (seen.push e.born) clock);pure (.tuple #[.bool true,e.key,e.val]):Sem Value)|none=>pure (.tuple #[.bool false])).run P {w with drawn:=n}:=by
 have gS:0<l.length:=q2.2 aG;unfold EL;have key:∀i,i<l.length->∀w',((do match(l.toArray[i]?:aT (aT MapEntry))with
   |some (some e)=>setObj r (.mapIter (some m) since (seen.push e.born) clock);pure (.tuple #[.bool true,e.key,e.val])
   |some none=>pure (.tuple #[.bool false])
   |none=>stuck "Next: no such candidate" :Sem Value)).run P w'=((match l[i]! with|some e=>(do setObj r (.mapIter (some m) since (seen.push e.born) clock);pure (.tuple #[.bool true,e.key,e.val]):Sem Value)|none=>pure (.tuple #[.bool false]))).run P w':=by
  intro i az w';have I:l.toArray[i]? =some l[i]!:=by simp[az]
  rw[I];cases l[i]!<;>rfl
 by_cases aL:(Question.mapNext l.length).forced=true
 ·refine⟨w.drawn,l[0]!,by simp[gS],?_⟩;rw[<-key 0 gS];have aE:(choose (.mapNext l.length):Sem Nat).run P w= .ok 0 w:=by simp[aL]
  simp only[List.size_toArray,e2,aE,e4]
 ·refine⟨w.drawn+1,l[(w.tape w.drawn (.mapNext l.length))%l.length]!,by simp[Nat.mod_lt _ gS],?_⟩;rw[<-key _ (Nat.mod_lt _ gS)];have aE:(choose (.mapNext l.length):Sem Nat).run P w= .ok ((w.tape w.drawn (.mapNext l.length))%l.length) {w with drawn:=w.drawn+1}:=by simp[aL,Question.cut]
  simp only[List.size_toArray,e2,aE,e4]
theorem ac1{P:bK}{w:World}{bl pR:Nat}{seen:List Nat}{es:List MapEntry}{clock:Nat}{ty:fI}(I:w.heap[bl]? =some (.mapIter (some pR) clock seen.toArray clock))(J:w.heap[pR]? =some (.map es.toArray clock))(bS:∀e∈es,e.born<clock):
  ∃n,((∀e∈es,e.born∈seen)/\(Instr.next (.pointer (some ⟨bl,0,none⟩)) false ty).run P w= .ok (.tuple #[.bool false]) {w with drawn:=n})\/
   ∃e∈es,e.born∉seen/\(Instr.next (.pointer (some ⟨bl,0,none⟩)) false ty).run P w= .ok (.tuple #[.bool true,e.key,e.val]) {w with drawn:=n,heap:=w.heap.setIfInBounds bl (.mapIter (some pR) clock (seen++[e.born]).toArray clock)}:=by
 have A8:(!seen.toArray.isEmpty&& !es.toArray.isEmpty&&es.toArray.all (fun e=>decide (e.born≥clock)))=false:=by
  cases es with
  |nil=>simp
  |cons e r=>have:=bS e Ψ;simp;intro _ h;omega
 generalize hS:(es.filter fun e=> !seen.contains e.born)=left;have YT:(es.toArray.filter fun e=> !seen.toArray.contains e.born)=left.toArray:=by rw[<-hS];simp
 have jg:∀e∈left,e∈es/\e.born∉seen:=fun e he=>by rw[<-hS]at he;have:=List.mem_filter.1 he;exact⟨this.1,by simpa using this.2⟩
 have hold:(left.toArray.filter fun e=>decide (e.born<clock))=left.toArray:=by rw[List.filter_toArray,WO];intro e he;have:=bS e (jg e he).1;simp[this]
 have j8:(left.toArray.filter fun e=>decide (e.born≥clock))= #[]:=by rw[List.filter_toArray,WQ];intro e he;have:=bS e (jg e he).1;simp;omega
 have gD:(Instr.next (.pointer (some ⟨bl,0,none⟩)) false ty).run P w=(EL bl pR clock clock seen.toArray ((if left.toArray.isEmpty then #[none]else #[])++(left.toArray++ #[]).map some)).run P w:=by unfold Instr.next EL;simp only[e2,uX I,uX J,e4,A8,YT,hold,j8,kk,if_false];rfl
 rw[gD];by_cases um:left=[]
 ·subst um;obtain⟨n,x,g1,g2⟩:=RZ (P:=P) (w:=w) bl pR clock clock seen.toArray [none] Ψ;refine⟨n,.inl ⟨fun e he=>?_,?_⟩⟩
  ·have:=List.filter_eq_nil_iff.1 hS e he;simpa using this
  ·simp only[List.mem_singleton]at g1;subst g1;have aE:((if(([]:List MapEntry).toArray).isEmpty then #[none]else #[])++(([]:List MapEntry).toArray++ #[]).map some)=[none].toArray:=by simp
   rw[aE,g2];rfl
 ·have aE:((if left.toArray.isEmpty then #[none]else #[])++(left.toArray++ #[]).map some)=(left.map some).toArray:=by simp[um]
  obtain⟨n,x,g1,g2⟩:=RZ (P:=P) (w:=w) bl pR clock clock seen.toArray (left.map some) (by simpa using um);simp only[lZ]at g1;obtain⟨e,he,rfl⟩:=g1;refine⟨n,.inr ⟨e,(jg e he).1,(jg e he).2,?_⟩⟩;rw[aE,g2];simp only[e2];rw[Ct (w:={w with drawn:=n}) (o:= .mapIter (some pR) clock seen.toArray clock) I];simp
theorem GW:∀{borns:List Nat} {us:List Value} {e:MapEntry},e∈fw borns us->e.born∈borns
 |[],us,e,h=>by simp[fw]at h
 |b::eF,[],e,h=>by simp[fw]at h
 |b::eF,[_],e,h=>by simp[fw]at h
 |b::eF,k::v::us,e,h=>by
  simp only[fw,gp]at h;rcases h with rfl|h
  ·simp
  ·exact List.mem_cons_of_mem _ (GW h)
theorem MT:∀{borns:List Nat} {kvs:List ae} {us:List Value},kvs.length=2*borns.length->us.length=kvs.length->∀{b:Nat},b∈borns->∃e∈fw borns us,e.born=b
 |[],_,_,_,_,b,ah=>by simp at ah
 |fY::eF,kvs,[],I,J,b,ah=>by rw[I]at J;simp at J
 |fY::eF,kvs,[_],I,J,b,ah=>by rw[I]at J;simp at J;omega
 |fY::eF,kvs,k::v::us,I,J,b,ah=>by
  rcases gp.1 ah with rfl|ah
  ·exact⟨⟨k,v,b⟩,by simp[fw],rfl⟩
  ·obtain⟨e,g1,g2⟩:=MT (kvs:=kvs.drop 2) (us:=us) (borns:=eF) (by simp at I⊢;omega) (by simp at I J⊢;omega) ah;exact⟨e,by simp[fw,g1],g2⟩
theorem Qb{w:World}{ν:aP}:∀{borns:List Nat} {kvs:List ae} {us:List Value},kvs.length=2*borns.length->borns.Pairwise (· < ·)->cc w ν kvs us->∀{e:MapEntry},e∈fw borns us->∃k v,oo e.born borns kvs=some (.tuple [k,v])/\aH w ν k e.key/\aH w ν v e.val
 |[],_,_,_,_,_,e,h=>by simp[fw]at h
 |b::eF,[],us,I,_,_,e,_=>by simp at I
 |b::eF,[_],us,I,_,_,e,_=>by simp at I;omega
 |b::eF,k::v::kvs,us,I,J,ao,e,h=>by
  simp only[cc]at ao;obtain⟨iC,Ku,rfl,ff,hX,qV,rfl,eW,mw⟩:=ao;simp only[fw,gp]at h;rw[List.pairwise_cons]at J;rcases h with rfl|h
  ·exact⟨k,v,by simp[oo],ff,eW⟩
  ·obtain⟨bb,v',g1,g2,g3⟩:=Qb (by simp at I;omega) J.2 mw h;have b4:b≠e.born:=Nat.ne_of_lt (J.1 _ (GW h));exact⟨bb,v',by simp[oo,b4,g1],g2,g3⟩
theorem aaU{P:bK}{C:ek}{st:aS}{a:Act}{w:World}{ν:aP}(hr:bX C st a w ν){o:Oper}{it:h7}(iN:o.op= .next it false){d:Nat}(aF:o.dst=some d)(rG:hi C.N (some d)=true){v:ae}(aM:aH w ν v (a.eval it)){K:aS->Prop}(he:xa st d v K)
  {mz:Act->World->Prop} {Q:Exit->Act->World->Prop} (cG:∀st' bU w' ν',K st'->bX C st' bU w' ν'->mz bU w'):o.wp P a w mz Q:=by
 unfold xa at he;split at he
 ·rename_i hc;split at he
  ·rename_i since seen last mk kO;split at he
   ·rename_i clock borns kvs xy;obtain⟨⟨rfl,rfl⟩,Hq,Hr⟩:=he;simp only[aH]at aM;obtain⟨bl,cb,cn⟩:=aM;obtain⟨gH,us,el,bR,cA,dE,dM,cP⟩:=hr.good.box hc _ kO;rw[cb]at bR;cases bR;obtain⟨pR,ms,ahN,m1,m2,m3,m4,m5⟩:=hr.good.box mk _ xy;simp only[hM,cc]at cP;obtain⟨u,br,hu,⟨ahM,ff,rfl⟩,rfl⟩:=cP;rw[m1]at ff;cases ff;simp only[ix,hu]at dM;simp only[ix]at m4;simp only[hM]at m5;obtain⟨n,lG⟩:=ac1 (P:=P) (ty:=o.type) dM m4 (fun e he=>m5.2.lt _ (GW he));have jU:∀v' w',(Instr.next (.pointer (some ⟨bl,0,none⟩)) false o.type).run P w= .ok v' w'->(execOp a.eval o).run P w= .ok (.value v') w':=by intro v' w' gD;obtain⟨dst,op,ty,pos,FZ,NO⟩:=o;simp only at iN gD;subst iN;simp only[execOp,cn];exact CM gD
    rcases lG with⟨I,J⟩|⟨e,I,J,ao⟩
    ·refine kj (jU _ _ J) ?_;rw[aF];refine cG _ _ _ _ (Hq fun b ah=>?_) ((hr.drawn n).put rG (p:= .tuple [.bool false]) (by simp[aH,cc]));obtain⟨e,f1,f2⟩:=MT m5.2.len (Fk m5.1) ah;rw[<-f2];exact I e f1
    ·obtain⟨k,v,f1,f2,f3⟩:=Qb m5.2.len m5.2.inc m5.1 I;refine kj (jU _ _ ao) ?_;rw[aF];have qz:=((hr.drawn n).setBox (w':={w with drawn:=n,heap:=w.heap.setIfInBounds bl (.mapIter (some pR) last (seen++[e.born]).toArray last)}) kO cb (cs':=[.hdi last (seen++[e.born]) last,.gmap mk]) (us:=us) (el:=el) rfl rfl rfl
      (fun j aw=>Array.getElem?_setIfInBounds_ne (Ne.symm aw)) Ψ (by simp[ix,hu,(Array.getElem?_eq_some_iff.1 dM).1]) (by simp only[hM,cc];exact⟨_,_,hu,by simp only[aH];exact⟨pR,m1,rfl⟩,rfl⟩))
     refine cG _ _ _ _ (Hr e.born k v f1 J) (qz.1.put rG (p:= .tuple [.bool true,k,v]) ?_);simp only[aH];refine⟨_,rfl,?_⟩;simp only[cc];have lJ:l1 w ν {w with drawn:=n} ν:=⟨fun _ _ h=>⟨h,rfl⟩,fun _ _ _ h=>h,fun _ n u _ h=>⟨n,u,h,.inl ⟨rfl,rfl⟩⟩,fun _ _ _=>rfl,fun _ _ _ _ h=>h⟩;exact⟨_,_,rfl,by simp[aH],_,_,rfl,uU qz.2 (uU lJ f2),_,_,rfl,uU qz.2 (uU lJ f3),rfl⟩
   ·exact he.elim
  ·exact he.elim
 ·exact he.elim
theorem MV{P:bK}{aZ:List (Nat×cJ)}(aD:ez P aZ=true){C:ek}{st:aS}{a:Act}{w:World}{ν:aP}(hr:bX C st a w ν){i:dQ}{o:Oper}(ak:r8 C.N aZ i o=true){K:aS->Prop}(he:pz P C.ob st K i)
  {mz:Act->World->Prop} {Q:Exit->Act->World->Prop} (cG:∀st' bU w' ν',K st'->bX C st' bU w' ν'->mz bU w'):o.wp P a w mz Q:=by
 cases i with
 |s i=>
  simp only[pz]at he;split at he
  ·rename_i c st' aq;exact ac5 aD hr (by simpa only[r8]using ak) aq he.1 fun bU w' ν' h=>cG _ _ _ _ he.2 h
  ·exact he.elim
 |next d x=>
  simp only[pz]at he;simp only[r8]at ak;split at ak
  ·rename_i it iN;simp only[bM,ej,fK]at ak;obtain⟨⟨I,J⟩,ao⟩:=ak;exact aaU hr iN I (by simpa[hi]using J) (ee hr ao) he cG
  ·cases ak
 |call d f xs=>
  simp only[pz]at he;simp only[r8]at ak;split at ak
  ·rename_i hK args ts iN;simp only[bM,ej]at ak;obtain⟨⟨⟨I,J⟩,ao⟩,aO⟩:=ak;split at he
   ·rename_i n ds aL;have:=ee hr ao;rw[aL]at this;exact Me (ez.sz aD) hr iN I J this (xZ hr aO) he cG
   ·exact he.elim
  ·cases ak
 |opn d f xs=>
  simp only[pz]at he;simp only[r8]at ak;split at ak
  ·rename_i hK args ts iN;simp only[bM,ej]at ak;obtain⟨⟨⟨I,J⟩,ao⟩,aO⟩:=ak;split at he
   ·rename_i n ds aL;have:=ee hr ao;rw[aL]at this;exact abQ (ez.sz aD) hr iN I J this (xZ hr aO) he cG
   ·exact he.elim
  ·cases ak
 |callb d f=>
  simp only[pz]at he;simp only[r8]at ak;split at ak
  ·rename_i hK ts iN;simp only[bM,ej]at ak;obtain⟨⟨I,J⟩,ao⟩:=ak;split at he
   ·rename_i n ds aL;have:=ee hr ao;rw[aL]at this;obtain⟨p5,hn,jt⟩:=acP (P:=P) iN this he.1;exact Mg hr I J hn jt he.2 cG
   ·exact he.elim
  ·cases ak
theorem JF{C:ek}{st:aS}{a:Act}{w:World}{ν:aP}(h:bX C st a w ν){s:Nat}{b:Bool}(aq:get s st.t= .bool b):bX C {st with t:=put s (.bool b) st.t} a w ν:=by
 refine⟨h.good,h.fr,h.defers,h.size,fun i=>?_,h.new,h.ext,h.obk⟩;have:=h.slot i;simp only[get_put];split
 ·rename_i e;subst e;rw[<-aq];exact this
 ·exact this
theorem S9{C:ek}{st:aS}{a:Act}{w:World}{ν:aP}(h:bX C st a w ν){ops:Array Oper}{j s:Nat}(aw:(ops.toList[j]?).bind (·.dst)=some s)(aq:s<C.N):
  (∀b,get s st.t= .bool b->yielded ops a.tmps j=some b)/\(get s st.t= .tuple []->yielded ops a.tmps j=none):=by
 have bS:s<a.tmps.size:=by rw[h.size];exact aq
 have pK:=h.slot s;have mK:a.tmps.getD s undef=a.tmps[s]:=by simp[Array.getD,bS]
 rw[mK]at pK;have bA:yielded ops a.tmps j=match a.tmps[s]with| .bool b=>some b|_=>none:=by unfold yielded;rw[Array.getElem?_toList]at aw;rw[aw];simp only[Option.bind_some,oD bS];cases a.tmps[s]<;>rfl
 constructor
 ·intro b ah;rw[ah]at pK;simp only[aH]at pK;rw[bA,pK]
 ·intro ah;rw[ah]at pK;simp only[aH,cc]at pK;obtain⟨us,aj,aJ⟩:=pK;rw[bA,aj]
theorem G2{P:bK}{aZ:List (Nat×cJ)}(aD:ez P aZ=true){C:ek}{ops:Array Oper}{K:aS->Prop}{Q:Exit->Act->World->Prop}(jb:∀st' bU w' ν',K st'->bX C st' bU w' ν'->Q .normal bU w'):
  ∀(gs:List cy) (os:List Oper) (k:Nat),(∀j,os[j]? =ops[k+j]?)->ic C.N aZ ops.toList gs os=true->∀(st:aS) (a:Act) (w:World) (ν:aP),gv P C.ob gs st K->bX C st a w ν->wpOps P ops Q (List.range' k gs.length) a w
 |[],[],k,_,_,st,a,w,ν,he,hr=>by simp only[List.length_nil,List.range'_zero,wpOps];exact jb _ _ _ _ he hr
 |[],_::_,_,_,aa,_,_,_,_,_,_=>by simp[ic]at aa
 |_::_,[],_,_,aa,_,_,_,_,_,_=>by simp[ic]at aa
 |g::gs,o::os,k,y9,aa,st,a,w,ν,he,hr=>by
  simp only[ic,bM]at aa;have bL:ops[k]? =some o:=by simpa using(y9 0).symm
  have uw:∀j,os[j]? =ops[k+1+j]?:=fun j=>by have:=y9 (j+1);simpa[Nat.add_assoc,Nat.add_comm 1 j]using this
  simp only[lx,List.range'_succ,wpOps,bL];have bo:∀st' bU w' ν',gv P C.ob gs st' K->bX C st' bU w' ν'->wpOps P ops Q (List.range' (k+1) gs.length) bU w':=fun st' bU w' ν' I J=>G2 aD jb gs os (k+1) uw aa.2 st' bU w' ν' I J;obtain⟨kt,NQ⟩:=g;have aR:=aa.1;simp only[AZ,bM]at aR;obtain⟨mh,y3⟩:=aR;cases kt with
  |none=>
   cases eO:o.guard with
   |some x=>simp[eO]at mh
   |none=>
    have hw:oE o (yielded ops a.tmps)=true:=by simp[oE,eO]
    rw[if_pos hw];simp only[gv]at he;exact .inl (MV aD hr y3 he bo)
  |some ya=>
   obtain⟨s,want⟩:=ya;cases eO:o.guard with
   |none=>simp[eO]at mh
   |some x=>
    obtain⟨j,fY⟩:=x;simp only[eO,bM,ej,fK]at mh;obtain⟨⟨⟨⟨rfl,J⟩,ao⟩,aO⟩,bp⟩:=mh;obtain⟨FL,FM⟩:=S9 hr J ao;simp only[gv]at he;split at he
    ·rename_i b ah;have bA:=FL b ah;by_cases e:b=want
     ·subst e;have hw:oE o (yielded ops a.tmps)=true:=by simp[oE,eO,bA]
      rw[if_pos hw];exact .inl (MV aD (JF hr ah) y3 (he.1 rfl) bo)
     ·have hw:¬(oE o (yielded ops a.tmps)=true):=by simp[oE,eO,bA,e]
      rw[bq hw];have eT:b= !want:=by cases b<;>cases want<;>simp at e⊢
      have jX:bX C {st with t:=put s (.bool !want) st.t} a w ν:=JF hr (by rw[ah,eT]);rw[aO];exact bo _ _ _ _ (he.2 eT) (jX.put bp (by simp[aH,cc,undef]))
    ·rename_i ah;have bA:=FM ah;have hw:¬(oE o (yielded ops a.tmps)=true):=by simp[oE,eO,bA]
     rw[bq hw,aO];exact bo _ _ _ _ he (hr.put bp (by simp[aH,cc,undef]))
    ·exact he.elim
structure cL where
 t:Nat->ae
 b:aC->aT (List ae)
 e:aC->aT cV
 F:aC->Prop
structure kl where
 d:aT Nat
 p:ae
 bw:List (aC×List ae)
 ew:List (aC×cV)
 rm:aT aC
def ib{α:Type}(l:List (aC×α))(f:aC->aT α):aC->aT α:=fun k=>match look k l with|some x=>some x|none=>f k
def cL.do(A:cL)(x:kl):cL:={t:=fun i=>if x.d=some i then x.p else A.t i,b:=ib x.bw A.b,e:=ib x.ew A.e,F:=fun k=>A.F k/\x.rm≠some k}
structure kl.apart (x y:kl):Prop where
 d:∀i,x.d=some i->y.d≠some i
 b:∀k,(look k x.bw).isSome->look k y.bw=none
 e:∀k,(look k x.ew).isSome->look k y.ew=none
theorem cL.do_comm(A:cL){x y:kl}(h:x.apart y):(A.do x).do y=(A.do y).do x:=by
 simp only[cL.do,cL.mk.injEq];refine⟨?_,?_,?_,?_⟩
 ·funext i;by_cases I:x.d=some i
  ·have:=h.d i I;simp[I,this]
  ·simp[I]
 ·funext k;simp only[ib];cases af:look k x.bw with
  |none=>cases look k y.bw<;>rfl
  |some u=>rw[h.b k (by simp[af])]
 ·funext k;simp only[ib];cases af:look k x.ew with
  |none=>cases look k y.ew<;>rfl
  |some u=>rw[h.e k (by simp[af])]
 ·funext k;exact propext ⟨fun h=>⟨⟨h.1.1,h.2⟩,h.1.2⟩,fun h=>⟨⟨h.1.1,h.2⟩,h.1.2⟩⟩
def dj(t:Nat->ae):cM->ae
 | .t i=>t i
 | .c p=>p
def rX(b:aC->aT (List ae))(e:aC->aT cV)(agg:Bool)(sz:Nat):ae->aT (Prop×ae)
 | .rptr dn k n i f=>x0 agg sz dn n i f (e k)
 | .ptr k off=>
  match b k with
  |some cs=>if agg then some (gn cs=true/\off+sz<=cs.length,.agg ((cs.drop off).take sz))else(cs[off]?).map fun p=>(gn cs=true,p)
  |none=>none
 | .eptr p=>if agg then some (isAgg sz p,p)else some (eD p=true/\cells p=[p],p)
 |_=>none
def wZ(t:Nat->ae):List ae->List (Nat×Nat×cM)->aT (Prop×List ae)
 |cs,[]=>some (True,cs)
 |cs,(off,sz,x)::r=>
  match wZ t (oB cs off (cells (dj t x))) r with
  |some (c,cs')=>some ((eD (dj t x)=true/\(cells (dj t x)).length=sz/\off+sz<=cs.length)/\c,cs')
  |none=>none
def pb(t:Nat->ae)(b:aC->aT (List ae))(e:aC->aT cV):fO->aT (Prop×ae)
 | .mov x=>some (True,dj t x)
 | .pick c x y=>E0 (dj t c) (dj t x) (dj t y)
 | .load agg sz x=>rX b e agg sz (dj t x)
 | .faddr off agg sz x=>n7 off agg sz (dj t x)
 | .fld off agg sz x=>rn off agg sz (dj t x)
 | .iaddr sz x i=>zc sz (dj t x) (dj t i)
 | .sidx x i=>FA (dj t x) (dj t i)
 | .ssl x lo az=>FC (dj t x) (lo.map (dj t)) (az.map (dj t))
 | .lsl sz x lo az=>EB sz (dj t x) (lo.map (dj t)) (az.map (dj t))
 | .bin op wr x y=>k5 op wr (dj t x) (dj t y)
 | .notB x=>EO (dj t x)
 | .neg x=>EJ (dj t x)
 | .conv k x=>Da k (dj t x)
 | .ext i x=>Ds i (dj t x)
 | .len x=>zo (dj t x)
 | .slen x=>Cw (dj t x)
 | .build zero parts=>(wZ t zero parts).map fun(c,cs)=>(c,.agg cs)
 | .nck x=>zu (dj t x)
 | .min2 x y=>EE (dj t x) (dj t y)
 | .mkf n xs=>some (True,.func n (xs.map (dj t)))
 | .mget bT zero ok x k=>o2 b bT zero ok (dj t x) (dj t k)
 | .ment x=>te b (dj t x)
 | .mlen x=>uJ b (dj t x)
 | .beq neg dK x y=>CX neg dK (dj t x) (dj t y)
 | .max2 x y=>ED (dj t x) (dj t y)
 | .mkif n x=>some (True,.iface n (dj t x))
 | .loadB agg sz x=>rX b (fun _=>none) agg sz (dj t x)
 | .mgetB bT zero ok x k=>o2 b bT zero ok (dj t x) (dj t k)
 | .loadZ agg sz x=>AX agg sz (dj t x)
 | .b2s x=>CU (dj t x)
 | .isn neg x=>Ek neg (dj t x)
structure k4 (st:aS) (A:cL):Prop where
 t:∀i,get i st.t=A.t i
 b:∀k,look k st.b=A.b k
 e:∀k,look k st.e=A.e k
theorem hJ{st:aS}{A:cL}(h:k4 st A)(x:cM):bG st.t x=dj A.t x:=by
 cases x
 ·exact h.t _
 ·rfl
theorem pC{st:aS}{A:cL}(h:k4 st A):bG st.t=dj A.t:=funext (hJ h)
theorem aam{st:aS}{A:cL}(h:k4 st A)(agg:Bool)(sz:Nat)(p:ae):mn st.b st.e agg sz p=rX A.b A.e agg sz p:=by
 cases p<;>simp only[mn,rX]
 ·rw[h.b];try rfl
 ·rw[h.e]
theorem aan{st:aS}{A:cL}(h:k4 st A)(agg:Bool)(sz:Nat)(p:ae):mn st.b [] agg sz p=rX A.b (fun _=>none) agg sz p:=by
 cases p<;>simp only[mn,rX]
 ·rw[h.b];try rfl
 ·rfl
theorem Lq{st:aS}{A:cL}(h:k4 st A):∀(parts:List (Nat×Nat×cM)) (cs:List ae),tQ st.t cs parts=wZ A.t cs parts
 |[],cs=>rfl
 |(off,sz,x)::r,cs=>by simp only[tQ,wZ,hJ h,Lq h r];try rfl
theorem SG{st:aS}{A:cL}(h:k4 st A)(i:fO):gz st i=pb A.t A.b A.e i:=by have ah:(fun k=>look k st.b)=A.b:=funext h.b;cases i<;>simp only[gz,pb,pC h,aam h,aan h,Lq h,ah]
def ga:cM->List Nat
 | .t i=>[i]
 | .c _=>[]
def Jp:aT cM->List Nat
 |some x=>ga x
 |none=>[]
def fO.looks:fO->List Nat
 | .mov x| .load _ _ x| .loadB _ _ x| .loadZ _ _ x| .faddr _ _ _ x| .fld _ _ _ x| .notB x| .neg x| .conv _ x| .ext _ x| .len x| .slen x| .nck x| .ment x| .mlen x| .mkif _ x| .b2s x| .isn _ x=>ga x
 | .pick c x y=>ga c++ga x++ga y
 | .iaddr _ x i| .sidx x i=>ga x++ga i
 | .ssl x lo az| .lsl _ x lo az=>ga x++Jp lo++Jp az
 | .bin _ _ x y| .min2 x y| .max2 x y| .beq _ _ x y=>ga x++ga y
 | .build _ a6=>a6.flatMap fun p=>ga p.2.2
 | .mkf _ xs=>xs.flatMap ga
 | .mget _ _ _ x k| .mgetB _ _ _ x k=>ga x++ga k
def dP.looks:dP->List Nat
 | .v _ i=>i.looks
 | .box _ _ x=>ga x
 | .alloc _ _ _=>[]
 | .store _ x y=>ga x++ga y
 | .storeE _ x y=>ga x++ga y
 | .bsl _ _ _ xs=>xs.flatMap ga
 | .app _ _ _ x y=>ga x++ga y
 | .bslm _ _ _ _ xs=>xs.flatMap ga
 | .mks _ _ _ _ _ x=>ga x
 | .apps _ _ x y=>ga x++ga y
 | .appm _ _ _ _ x y=>ga x++ga y
 | .mkmap _ _=>[]
 | .mput _ x k y=>ga x++ga k++ga y
 | .range _ _ x=>ga x
def dQ.looks:dQ->List Nat
 | .s i=>i.looks
 | .call _ f xs=>ga f++xs.flatMap ga
 | .next _ x=>ga x
 | .opn _ f xs=>ga f++xs.flatMap ga
 | .callb _ f=>ga f
def cy.looks(g:cy):List Nat:=(match g.g with|some (s,_)=>[s]|none=>[])++g.i.looks
def pq(l:List Nat)(t t':Nat->ae):Prop:= ∀i∈l,t i=t' i
theorem fU{t t':Nat->ae}{x:cM}(h:pq (ga x) t t'):dj t x=dj t' x:=by
 cases x
 ·exact h _ (by simp[ga])
 ·rfl
theorem jP{l c6:List Nat}{t t':Nat->ae}(h:pq (l++c6) t t'):pq l t t'/\pq c6 t t':=⟨fun i az=>h i (by simp[az]),fun i az=>h i (by simp[az])⟩
theorem Dr{t t':Nat->ae}{x:aT cM}(h:pq (Jp x) t t'):x.map (dj t)=x.map (dj t'):=by
 cases x
 ·rfl
 ·simp[fU h]
theorem Lp{t t':Nat->ae}:∀{parts:List (Nat×Nat×cM)} {cs:List ae},pq (parts.flatMap fun p=>ga p.2.2) t t'->wZ t cs parts=wZ t' cs parts
 |[],cs,_=>rfl
 |(off,sz,x)::r,cs,h=>by simp only[List.flatMap_cons]at h;obtain⟨I,J⟩:=jP h;simp only[wZ,fU I,Lp J]
theorem BU{t t':Nat->ae}:∀{xs:List cM},pq (xs.flatMap ga) t t'->xs.map (dj t)=xs.map (dj t')
 |[],_=>rfl
 |x::xs,h=>by simp only[List.flatMap_cons]at h;obtain⟨I,J⟩:=jP h;simp[fU I,BU J]
def fO.isLoad:fO->Bool
 | .load _ _ _=>true
 | .loadB _ _ _=>true
 | .mgetB _ _ _ _ _=>true
 | .mget _ _ _ _ _=>true
 | .ment _=>true
 | .mlen _=>true
 |_=>false
theorem adR{t t':Nat->ae}{b fY:aC->aT (List ae)}{e gr:aC->aT cV}{i:fO}(h:pq i.looks t t')(ah:i.isLoad=false):pb t b e i=pb t' fY gr i:=by
 cases i<;>simp only[fO.looks]at h<;>simp only[pb];case load agg sz x=>simp[fO.isLoad]at ah
 case loadB agg sz x=>simp[fO.isLoad]at ah
 case pick c x y=>obtain⟨I,ao⟩:=jP h;obtain⟨I,J⟩:=jP I;rw[fU I,fU J,fU ao]
 case iaddr=>obtain⟨I,J⟩:=jP h;rw[fU I,fU J]
 case sidx=>obtain⟨I,J⟩:=jP h;rw[fU I,fU J]
 case ssl=>obtain⟨I,ao⟩:=jP h;obtain⟨I,J⟩:=jP I;rw[fU I,Dr J,Dr ao]
 case lsl=>obtain⟨I,ao⟩:=jP h;obtain⟨I,J⟩:=jP I;rw[fU I,Dr J,Dr ao]
 case bin=>obtain⟨I,J⟩:=jP h;rw[fU I,fU J]
 case min2=>obtain⟨I,J⟩:=jP h;rw[fU I,fU J]
 case build=>rw[Lp h]
 case mkf=>rw[BU h]
 case mget=>simp[fO.isLoad]at ah
 case mgetB=>simp[fO.isLoad]at ah
 case ment=>simp[fO.isLoad]at ah
 case mlen=>simp[fO.isLoad]at ah
 case max2=>obtain⟨I,J⟩:=jP h;rw[fU I,fU J]
 case beq=>obtain⟨I,J⟩:=jP h;rw[fU I,fU J]
 all_goals rw[fU h]
def aaQ(A:cL)(s ai:dD)(rm:aT aC):Prop:=(∀k,(look k ai.b).isSome->(look k s.b).isSome\/rm=some k)/\(∀k,(look k ai.e).isSome->(look k s.e).isSome\/rm=some k)/\(∀k,(look k s.b).isSome->(look k ai.b).isSome)/\(∀k,(look k s.e).isSome->(look k ai.e).isSome)/\
 (∀k,rm=some k->(∃j,k= .obj j)/\A.F k/\A.b k=none/\A.e k=none/\((look k ai.b).isSome\/(look k ai.e).isSome))
def Th(P:bK)(n:Nat)(args:List ae)(A:cL)(d:aT Nat)(x:kl):Prop:=
 ∃s ai r rm,(∀k cs,look k s.b=some cs->A.b k=some cs/\kinL (au s) cs)/\(∀k o,look k s.e=some o->A.e k=some o/\cB (au s) o)/\hd s/\hd ai/\aaQ A s ai rm/\kinL (au s) args/\
  b7 P n args s (fun cE t'=>cE=r/\t'=ai)/\x=⟨d,r,ai.b,ai.e,rm⟩
def Ti(P:bK)(n0 n:Nat)(args:List ae)(A:cL)(d:aT Nat)(x:kl):Prop:=
 ∃fV r,d=some fV/\(A.F (.loc (n0+fV))/\A.b (.loc (n0+fV))=none/\A.e (.loc (n0+fV))=none)/\kinL (fun _=>cZ) args/\
  FnK P n (n0+fV) args ⟨[],[]⟩ (fun cE t'=>cE=r/\t'=⟨[],[]⟩)/\x=⟨d,r,[],[],some (.loc (n0+fV))⟩
def xH:ae->Bool
 | .ptr (.loc _) _=>true
 | .eptr _=>true
 |_=>false
def fO.isB:fO->Bool
 | .loadB _ _ _=>true
 | .mgetB _ _ _ _ _=>true
 |_=>false
def fO.ptrOf(t:Nat->ae):fO->ae
 | .load _ _ x=>dj t x
 | .loadB _ _ x=>dj t x
 |_=>.junk
def dC(P:bK)(q:Bool)(n0:Nat):dQ->cL->kl->Prop
 | .s (.v d i),A,x=> ∃c p,pb A.t A.b A.e i=some (c,p)/\c/\(i.isLoad=true->i.isB=true\/q=true\/xH (i.ptrOf A.t)=true)/\x=⟨some d,p,[],[],none⟩
 | .s (.box d none v),A,x=>(A.F (.loc (n0+d))/\A.b (.loc (n0+d))=none/\A.e (.loc (n0+d))=none)/\eD (dj A.t v)=true/\x=⟨some d,.ptr (.loc (n0+d)) 0,[(.loc (n0+d),cells (dj A.t v))],[],some (.loc (n0+d))⟩
 | .s (.alloc d none z),A,x=>(A.F (.loc (n0+d))/\A.b (.loc (n0+d))=none/\A.e (.loc (n0+d))=none)/\x=⟨some d,.ptr (.loc (n0+d)) 0,[(.loc (n0+d),cells z)],[],some (.loc (n0+d))⟩
 | .s (.store sz u v),A,x=> ∃k off cs,dj A.t u= .ptr k off/\A.b k=some cs/\(gn cs=true/\eD (dj A.t v)=true/\(cells (dj A.t v)).length=sz/\off+sz<=cs.length)/\x=⟨none,.junk,[(k,oB cs off (cells (dj A.t v)))],[],none⟩
 | .s (.bsl d sz el xs),A,x=>(A.F (.loc (n0+d))/\A.b (.loc (n0+d))=none/\A.e (.loc (n0+d))=none)/\qm sz (xs.map (dj A.t))/\x=⟨some d,.slice sz (.own (.loc (n0+d))) (xs.map (dj A.t)),[],[(.loc (n0+d),⟨xs.length,el,sz,none⟩)],some (.loc (n0+d))⟩
 | .s (.app d sz el u v),A,x=> ∃tag xs gN ys,dj A.t u= .slice sz tag xs/\dj A.t v= .slice sz gN ys/\
   ((∃k o,tag= .own k/\A.e k=some o/\(o.xs=none/\o.n=xs.length/\o.el=el/\o.sz=sz/\xs.length+ys.length<=bN)/\x=⟨some d,.slice sz (.own k) (xs++ys),[],[(k,⟨xs.length+ys.length,el,sz,none⟩)],none⟩)\/
    (tag= .nil/\ys.length<=bN/\(A.F (.loc (n0+d))/\A.b (.loc (n0+d))=none/\A.e (.loc (n0+d))=none)/\x=⟨some d,.slice sz (.own (.loc (n0+d))) ys,[],[(.loc (n0+d),⟨ys.length,el,sz,none⟩)],some (.loc (n0+d))⟩))
 | .s (.bslm d (some m) sz el xs),A,x=>(A.F (.obj m)/\A.b (.obj m)=none/\A.e (.obj m)=none)/\qm sz (xs.map (dj A.t))/\x=⟨some d,.row sz (.obj m) xs.length,[],[(.obj m,⟨xs.length,el,sz,some (xs.map (dj A.t))⟩)],some (.obj m)⟩
 | .s (.appm d none sz el u v),A,x=> ∃k n xs gN ys,dj A.t u= .row sz k n/\dj A.t v= .slice sz gN ys/\A.e k=some ⟨n,el,sz,some xs⟩/\xs.length+ys.length<=bN/\x=⟨some d,.row sz k (xs.length+ys.length),[],[(k,⟨xs.length+ys.length,el,sz,some (xs++ys)⟩)],none⟩
 | .s (.appm d (some m) sz el u v),A,x=>(∃k n xs gN ys,dj A.t u= .row sz k n/\dj A.t v= .slice sz gN ys/\A.e k=some ⟨n,el,sz,some xs⟩/\xs.length+ys.length<=bN/\x=⟨some d,.row sz k (xs.length+ys.length),[],[(k,⟨xs.length+ys.length,el,sz,some (xs++ys)⟩)],none⟩)\/ ∃xs gN ys,dj A.t u= .slice sz .nil xs/\dj A.t v= .slice sz gN ys/\(A.F (.obj m)/\A.b (.obj m)=none/\A.e (.obj m)=none)/\(ys.length<=bN/\ys≠[])/\x=⟨some d,.row sz (.obj m) ys.length,[],[(.obj m,⟨ys.length,el,sz,some ys⟩)],some (.obj m)⟩
 | .s (.storeE sz u v),A,x=> ∃k n i f el dn xs q,dj A.t u= .rptr dn k n i f/\A.e k=some ⟨n,el,dn,some xs⟩/\xs[i]? =some q/\(eD q=true/\eD (dj A.t v)=true/\(cells (dj A.t v)).length=sz/\f+sz<=(cells q).length/\0<sz)/\x=⟨none,.junk,[],[(k,⟨n,el,dn,some (xs.set i (qN q f (cells (dj A.t v))))⟩)],none⟩
 | .s (.mkmap d (some m)),A,x=>(A.F (.obj m)/\A.b (.obj m)=none/\A.e (.obj m)=none)/\x=⟨some d,.gmap (.obj m),[(.obj m,[.hdm 0 []])],[],some (.obj m)⟩
 | .s (.mput bT u k v),A,x=> ∃m cs cs',dj A.t u= .gmap m/\A.b m=some cs/\qF bT (dj A.t k) (dj A.t v) cs=some cs'/\x=⟨none,.junk,[(m,cs')],[],none⟩
 | .call d f xs,A,x=> ∃n ds,dj A.t f= .func n ds/\((Th P n (bz (xs.map (dj A.t)++ds)) A d x/\(q=true->x.bw=[]/\x.ew=[]))\/Ti P n0 n (bz (xs.map (dj A.t)++ds)) A d x)
 |_,_,_=>cZ
inductive Aj where
 |v|l|n|s|w|a|c|m|r|k|z
 deriving DecidableEq
def dQ.mode:dQ->Aj
 | .s (.v _ (.loadB _ _ _))=>.m
 | .s (.v _ (.mgetB _ _ _ _ _))=>.m
 | .s (.v _ i)=>if i.isLoad then .l else .v
 | .s (.storeE _ _ _)=>.r
 | .s (.box _ _ _)=>.n
 | .s (.alloc _ _ _)=>.n
 | .s (.store _ _ _)=>.w
 | .s (.bsl _ _ _ _)=>.s
 | .s (.app _ _ _ _ _)=>.a
 | .s (.bslm _ none _ _ _)=>.w
 | .s (.bslm _ (some _) _ _ _)=>.z
 | .s (.mks _ _ _ _ _ _)=>.w
 | .s (.apps _ _ _ _)=>.w
 | .s (.appm _ none _ _ _ _)=>.r
 | .s (.appm _ (some _) _ _ _ _)=>.z
 | .s (.mkmap _ _)=>.k
 | .s (.mput _ _ _ _)=>.w
 | .s (.range _ _ _)=>.w
 | .call _ _ _=>.c
 | .next _ _=>.w
 | .opn _ _ _=>.w
 | .callb _ _=>.w
structure FV (q:Bool) (n0:Nat) (m:Aj) (dst:aT Nat) (A:cL) (x:kl):Prop where
 d:x.d=dst
 b:∀k,(look k x.bw).isSome->(m= .n/\∃d,dst=some d/\k= .loc (n0+d)/\A.b k=none/\A.e k=none)\/m= .w\/(m= .c/\(∃j,k= .obj j)/\q=false)\/(m= .k/\(∃j,k= .obj j)/\A.b k=none/\A.e k=none)
 e:∀k,(look k x.ew).isSome->(m= .s/\∃d,dst=some d/\k= .loc (n0+d)/\A.b k=none/\A.e k=none)\/(m= .a/\(A.e k≠none\/ ∃d,dst=some d/\k= .loc (n0+d)/\A.b k=none/\A.e k=none))\/(m= .c/\(∃j,k= .obj j)/\q=false)\/(m= .r/\∃o,A.e k=some o/\o.xs≠none)\/m= .z
 r:∀k,x.rm=some k->(∃d,dst=some d/\k= .loc (n0+d))\/((m= .c\/m= .k\/m= .z)/\(∃j,k= .obj j)/\((look k x.bw).isSome\/(look k x.ew).isSome))
 ex:m= .a->∀k o,(look k x.ew).isSome->A.e k=some o->o.xs=none
 xn:m= .a\/m= .s->∀k o,look k x.ew=some o->o.xs=none
theorem tc{α:Type}{k bb:aC}{x:α}(h:(look k [(bb,x)]).isSome):k=bb:=by
 simp only[look]at h;split at h
 ·rename_i e;exact e.symm
 ·cases h
theorem IN{k bb:aC}{n el sz:Nat}{o:cV}(h:look k [(bb,(⟨n,el,sz,none⟩:cV))]=some o):o.xs=none:=by
 simp only[look]at h;split at h
 ·cases h;rfl
 ·cases h
theorem St{P:bK}{q:Bool}{n0:Nat}{i:dQ}{A:cL}{x:kl}(h:dC P q n0 i A x):FV q n0 i.mode i.dst A x:=by
 cases i with
 |s i=>
  cases i with
  |v d i=>simp only[dC]at h;obtain⟨c,p,_,_,_,rfl⟩:=h;exact⟨rfl,fun k aa=>by simp[look]at aa,fun k aa=>by simp[look]at aa,fun k aa=>by simp at aa,fun _ k o aa=>by simp[look]at aa,fun _ k o aa=>by simp[look]at aa⟩
  |box d key v=>
   cases key with
   |some m=>simp only[dC]at h
   |none=>simp only[dC]at h;obtain⟨⟨_,J,ao⟩,_,rfl⟩:=h;exact⟨rfl,fun k aa=>by obtain rfl:=tc aa;exact .inl ⟨rfl,d,rfl,rfl,J,ao⟩,fun k aa=>by simp[look]at aa,fun k aa=>by simp at aa;exact .inl ⟨d,rfl,aa.symm⟩,fun _ k o aa=>by simp[look]at aa,fun _ k o aa=>by simp[look]at aa⟩
  |alloc d key z=>
   cases key with
   |some m=>simp only[dC]at h
   |none=>simp only[dC]at h;obtain⟨⟨_,J,ao⟩,rfl⟩:=h;exact⟨rfl,fun k aa=>by obtain rfl:=tc aa;exact .inl ⟨rfl,d,rfl,rfl,J,ao⟩,fun k aa=>by simp[look]at aa,fun k aa=>by simp at aa;exact .inl ⟨d,rfl,aa.symm⟩,fun _ k o aa=>by simp[look]at aa,fun _ k o aa=>by simp[look]at aa⟩
  |store sz u v=>simp only[dC]at h;obtain⟨k,off,cs,_,_,_,rfl⟩:=h;exact⟨rfl,fun k aa=>.inr (.inl rfl),fun k aa=>by simp[look]at aa,fun k aa=>by simp at aa,fun _ k o aa=>by simp[look]at aa,fun _ k o aa=>by simp[look]at aa⟩
  |bsl d sz el xs=>simp only[dC]at h;obtain⟨⟨_,J,ao⟩,_,rfl⟩:=h;exact⟨rfl,fun k aa=>by simp[look]at aa,fun k aa=>by obtain rfl:=tc aa;exact .inl ⟨rfl,d,rfl,rfl,J,ao⟩,fun k aa=>by simp at aa;exact .inl ⟨d,rfl,aa.symm⟩,fun e=>by simp[dQ.mode]at e,fun _ k o aa=>IN aa⟩
  |app d sz el u v=>
   simp only[dC]at h;obtain⟨tag,xs,gN,ys,_,_,h⟩:=h;rcases h with⟨k,o,_,I,⟨eQ,_⟩,rfl⟩|⟨_,_,⟨_,J,ao⟩,rfl⟩
   ·exact⟨rfl,fun k aa=>by simp[look]at aa,fun k aa=>by obtain rfl:=tc aa;exact .inr (.inl ⟨rfl,.inl (by rw[I];simp)⟩),fun k aa=>by simp at aa,fun _ bb o' aa ak=>by obtain rfl:=tc aa;rw[I]at ak;cases ak;exact eQ,fun _ k o aa=>IN aa⟩
   ·exact⟨rfl,fun k aa=>by simp[look]at aa,fun k aa=>by obtain rfl:=tc aa;exact .inr (.inl ⟨rfl,.inr ⟨d,rfl,rfl,J,ao⟩⟩),fun k aa=>by simp at aa;exact .inl ⟨d,rfl,aa.symm⟩,fun _ bb o' aa ak=>(by obtain rfl:=tc aa;rw[ao]at ak;cases ak),fun _ k o aa=>IN aa⟩
  |bslm d key sz el xs=>
   cases key with
   |none=>simp only[dC]at h
   |some m=>simp only[dC]at h;obtain⟨⟨_,J,ao⟩,_,rfl⟩:=h;exact⟨rfl,fun k aa=>by simp[look]at aa,fun k aa=>.inr (.inr (.inr (.inr rfl))),fun k aa=>by simp at aa;subst aa;exact .inr ⟨.inr (.inr rfl),⟨m,rfl⟩,.inr (by simp[look])⟩,fun e=>by simp[dQ.mode]at e,fun e=>by simp[dQ.mode]at e⟩
  |mks d key sz el z x=>simp only[dC]at h
  |apps d el x y=>simp only[dC]at h
  |appm d key sz el u v=>
   cases key with
   |none=>simp only[dC]at h;obtain⟨k,n,xs,gN,ys,_,_,I,_,rfl⟩:=h;exact⟨rfl,fun k aa=>by simp[look]at aa,fun k aa=>by obtain rfl:=tc aa;exact .inr (.inr (.inr (.inl ⟨rfl,_,I,Ψ⟩))),fun k aa=>by simp at aa,fun e=>by simp[dQ.mode]at e,fun e=>by simp[dQ.mode]at e⟩
   |some m=>
    simp only[dC]at h;rcases h with⟨k,n,xs,gN,ys,_,_,I,_,rfl⟩|⟨xs,gN,ys,_,_,⟨_,J,ao⟩,_,rfl⟩
    ·exact⟨rfl,fun k aa=>by simp[look]at aa,fun k aa=>.inr (.inr (.inr (.inr rfl))),fun k aa=>by simp at aa,fun e=>by simp[dQ.mode]at e,fun e=>by simp[dQ.mode]at e⟩
    exact⟨rfl,fun k aa=>by simp[look]at aa,fun k aa=>.inr (.inr (.inr (.inr rfl))),fun k aa=>by simp at aa;subst aa;exact .inr ⟨.inr (.inr rfl),⟨m,rfl⟩,.inr (by simp[look])⟩,fun e=>by simp[dQ.mode]at e,fun e=>by simp[dQ.mode]at e⟩
  |storeE sz u v=>simp only[dC]at h;obtain⟨k,n,i,f,el,dn,xs,q,_,I,_,_,rfl⟩:=h;exact⟨rfl,fun k aa=>by simp[look]at aa,fun k aa=>by obtain rfl:=tc aa;exact .inr (.inr (.inr (.inl ⟨rfl,_,I,Ψ⟩))),fun k aa=>by simp at aa,fun e=>by simp[dQ.mode]at e,fun e=>by simp[dQ.mode]at e⟩
  |mkmap d key=>
   cases key with
   |none=>simp only[dC]at h
   |some m=>simp only[dC]at h;obtain⟨⟨_,J,ao⟩,rfl⟩:=h;exact⟨rfl,fun k aa=>by obtain rfl:=tc aa;exact .inr (.inr (.inr ⟨rfl,⟨m,rfl⟩,J,ao⟩)),fun k aa=>by simp[look]at aa,fun k aa=>by simp at aa;subst aa;exact .inr ⟨.inr (.inl rfl),⟨m,rfl⟩,.inl (by simp[look])⟩,fun e=>by simp[dQ.mode]at e,fun e=>by simp[dQ.mode]at e⟩
  |mput bT x k v=>simp only[dC]at h;obtain⟨m,cs,cs',_,_,_,rfl⟩:=h;exact⟨rfl,fun k aa=>.inr (.inl rfl),fun k aa=>by simp[look]at aa,fun k aa=>by simp at aa,fun e=>by simp[dQ.mode]at e,fun e=>by simp[dQ.mode]at e⟩
  |range d key x=>simp only[dC]at h
 |next d x=>simp only[dC]at h
 |opn d f x=>simp only[dC]at h
 |callb d f=>simp only[dC]at h
 |call d f xs=>
  simp only[dC]at h;obtain⟨n,ds,_,h⟩:=h;rcases h with⟨⟨s,ai,r,rm,_,_,_,ak,OD,_,_,rfl⟩,bn⟩|⟨fV,r,rfl,_,_,_,rfl⟩;rotate_left
  ·exact⟨rfl,fun k aa=>by simp[look]at aa,fun k aa=>by simp[look]at aa,fun k aa=>by simp at aa;exact .inl ⟨fV,rfl,aa.symm⟩,fun _ k o aa=>by simp[look]at aa,fun _ k o aa=>by simp[look]at aa⟩
  refine⟨rfl,fun k aa=>.inr (.inr (.inl ⟨rfl,?_,?_⟩)),fun k aa=>.inr (.inr (.inl ⟨rfl,?_,?_⟩)),fun k aa=>.inr ⟨.inl rfl,(OD.2.2.2.2 k aa).1,(OD.2.2.2.2 k aa).2.2.2.2⟩,fun e=>by simp[dQ.mode]at e,fun e=>by simp[dQ.mode]at e⟩
  ·cases k with
   |loc m=>rw[ak.1 m]at aa;cases aa
   |obj m=>exact⟨m,rfl⟩
  ·cases q with
   |false=>rfl
   |true=>rw[(bn rfl).1]at aa;simp[look]at aa
  ·cases k with
   |loc m=>rw[ak.2 m]at aa;cases aa
   |obj m=>exact⟨m,rfl⟩
  ·cases q with
   |false=>rfl
   |true=>rw[(bn rfl).2]at aa;simp[look]at aa
theorem KX{P:bK}{q:Bool}{n0:Nat}{i:dQ}{A A':cL}{x:kl}(h:dC P q n0 i A x)(aD:pq i.looks A.t A'.t)
  (aG:i.mode= .l->∀k,(q=true\/ ∃m,k= .loc m)->A.b k≠none->A'.b k=A.b k) (vM:i.mode= .m->∀k,A.b k≠none->A'.b k=A.b k)
  (Bz:i.mode= .l->q=true->∀k o,A.e k=some o->o.xs≠none->A'.e k=some o)
  (aK:∀d,i.dst=some d->(i.mode= .n\/i.mode= .s\/i.mode= .a\/i.mode= .c)->(A.F (.loc (n0+d))/\A.b (.loc (n0+d))=none/\A.e (.loc (n0+d))=none)->(A'.F (.loc (n0+d))/\A'.b (.loc (n0+d))=none/\A'.e (.loc (n0+d))=none))
  (bF:i.mode= .a->∀k o,A.e k=some o->A'.e k=some o) (hw:i.mode= .w->∀k,A'.b k=A.b k) (Ia:i.mode= .z->(∀m,(A.F (.obj m)/\A.b (.obj m)=none/\A.e (.obj m)=none)->(A'.F (.obj m)/\A'.b (.obj m)=none/\A'.e (.obj m)=none))/\∀k,A'.e k=A.e k) (Ef:i.mode= .k->∀m,(A.F (.obj m)/\A.b (.obj m)=none/\A.e (.obj m)=none)->(A'.F (.obj m)/\A'.b (.obj m)=none/\A'.e (.obj m)=none)) (By:i.mode= .r->∀k o,A.e k=some o->o.xs≠none->A'.e k=some o)
  (aE:i.mode= .c->∀m,A'.b (.obj m)=A.b (.obj m)/\A'.e (.obj m)=A.e (.obj m)/\(A.F (.obj m)->A'.F (.obj m))):dC P q n0 i A' x:=by
 cases i with
 |s i=>
  cases i with
  |v d i=>
   simp only[dC]at h⊢;obtain⟨c,p,I,J,ao,aO⟩:=h;by_cases hB:∃agg sz y,i= .loadB agg sz y
   ·obtain⟨agg,sz,y,rfl⟩:=hB;simp only[dQ.looks,dP.looks,fO.looks]at aD;have ui:=fU aD;refine⟨c,p,?_,J,fun _=>.inl rfl,aO⟩;rw[<-I];simp only[pb,<-ui];have hm:=vM (by simp[dQ.mode]);simp only[pb]at I;cases aU:dj A.t y<;>simp only[rX];rename_i key off;rw[aU]at I;simp only[rX]at I;cases ah:A.b key with
    |none=>simp[ah]at I
    |some cs=>have:A'.b key=A.b key:=hm key (by rw[ah];simp);rw[this,ah]
   by_cases DL:∃bT zero ok y z,i= .mgetB bT zero ok y z
   ·obtain⟨bT,zero,ok,y,z,rfl⟩:=DL;simp only[dQ.looks,dP.looks,fO.looks]at aD;obtain⟨t1,t2⟩:=jP aD;refine⟨c,p,?_,J,fun _=>.inl rfl,aO⟩;simp only[pb]at I⊢;rw[<-fU t1,<-fU t2];exact Qg (vM (by simp[dQ.mode])) I
   replace ao:i.isLoad=true->q=true\/xH (i.ptrOf A.t)=true:=fun jV=>(ao jV).resolve_left (fun ah=>by cases i<;>simp[fO.isB]at ah;exact hB ⟨_,_,_,rfl⟩;exact DL ⟨_,_,_,_,_,rfl⟩);have Y1:i.isLoad=true->(dQ.s (.v d i)).mode= .l:=by intro jV;cases i<;>simp only[fO.isLoad]at jV<;>first|(cases jV;done)|(simp[dQ.mode,fO.isLoad];done)|exact absurd ⟨_,_,_,rfl⟩ hB|exact absurd ⟨_,_,_,_,_,rfl⟩ DL
   by_cases jV:i.isLoad=true
   ·have bn:∀(aU:xH (i.ptrOf A.t)=false),∀k,A.b k≠none->A'.b k=A.b k:=fun aU k aa=>aG (Y1 jV) k (.inl ((ao jV).resolve_right (by rw[aU];simp))) aa;cases i<;>simp only[fO.isLoad]at jV<;>try(cases jV;done)
    case mget bT zero ok y z=>simp only[dQ.looks,dP.looks,fO.looks]at aD;obtain⟨t1,t2⟩:=jP aD;refine⟨c,p,?_,J,fun _=>.inr (ao rfl),aO⟩;simp only[pb]at I⊢;rw[<-fU t1,<-fU t2];exact Qg (bn rfl) I
    case ment y=>simp only[dQ.looks,dP.looks,fO.looks]at aD;refine⟨c,p,?_,J,fun _=>.inr (ao rfl),aO⟩;simp only[pb]at I⊢;rw[<-fU aD];exact aay (bn rfl) I
    case mlen y=>simp only[dQ.looks,dP.looks,fO.looks]at aD;refine⟨c,p,?_,J,fun _=>.inr (ao rfl),aO⟩;simp only[pb]at I⊢;rw[<-fU aD];exact aaE (bn rfl) I
    case loadB agg sz y=>exact absurd ⟨_,_,_,rfl⟩ hB
    case mgetB=>exact absurd ⟨_,_,_,_,_,rfl⟩ DL
    rename_i agg sz y;simp only[dQ.looks,dP.looks,fO.looks]at aD;have ui:=fU aD;refine⟨c,p,?_,J,fun _=>.inr (by have:=ao rfl;simpa only[fO.ptrOf,<-ui]using this),aO⟩;rw[<-I];simp only[pb,<-ui];have hm:=aG (by simp[dQ.mode,fO.isLoad]);simp only[pb]at I;have A2:=ao rfl;simp only[fO.ptrOf]at A2;cases aU:dj A.t y<;>simp only[rX]
    ·rename_i key off;rw[aU]at I A2;simp only[rX]at I;cases ah:A.b key with
     |none=>simp[ah]at I
     |some cs=>have:A'.b key=A.b key:=hm key (by rcases A2 with h|h;exact .inl h;cases key;exact .inr ⟨_,rfl⟩;simp[xH]at h) (by rw[ah];simp);rw[this,ah]
    ·rename_i dn key n i f;rw[aU]at I A2;simp only[rX]at I;have HP:q=true:=A2.resolve_right (by simp[xH]);unfold x0 at I;split at I
     ·rename_i n' el hO xs he;rw[he,Bz (by simp[dQ.mode,fO.isLoad]) HP key _ he Ψ]
     ·cases I
   ·have jV:i.isLoad=false:=by simpa using jV
    refine⟨c,p,?_,J,(fun e=>by rw[jV]at e;cases e),aO⟩;rw[<-I];exact(adR (by simpa only[dQ.looks,dP.looks]using aD) jV).symm
  |box d key v=>
   cases key with
   |some m=>simp only[dC]at h
   |none=>simp only[dC,dQ.looks,dP.looks]at h aD⊢;obtain⟨I,J,ao⟩:=h;rw[<-fU aD];exact⟨aK d rfl (.inl rfl) I,J,ao⟩
  |alloc d key z=>
   cases key with
   |some m=>simp only[dC]at h
   |none=>simp only[dC]at h⊢;exact⟨aK d rfl (.inl rfl) h.1,h.2⟩
  |store sz u v=>simp only[dC,dQ.looks,dP.looks]at h aD⊢;obtain⟨I,J⟩:=jP aD;rw[<-fU I,<-fU J];obtain⟨k,off,cs,g1,g2,g3,g4⟩:=h;exact⟨k,off,cs,g1,by rw[hw rfl];exact g2,g3,g4⟩
  |bsl d sz el xs=>simp only[dC,dQ.looks,dP.looks]at h aD⊢;rw[<-BU aD];exact⟨aK d rfl (.inr (.inl rfl)) h.1,h.2⟩
  |app d sz el u v=>
   simp only[dC,dQ.looks,dP.looks]at h aD⊢;obtain⟨I,J⟩:=jP aD;rw[<-fU I,<-fU J];obtain⟨tag,xs,gN,ys,g1,g2,h⟩:=h;refine⟨tag,xs,gN,ys,g1,g2,?_⟩;rcases h with⟨k,o,aj,aJ,bs⟩|⟨aj,aJ,bs,ch⟩
   ·exact .inl ⟨k,o,aj,bF rfl k o aJ,bs⟩
   ·exact .inr ⟨aj,aJ,aK d rfl (.inr (.inr (.inl rfl))) bs,ch⟩
  |bslm d key sz el xs=>
   cases key with
   |none=>simp only[dC]at h
   |some m=>simp only[dC,dQ.looks,dP.looks]at h aD⊢;rw[<-BU aD];exact⟨(Ia rfl).1 m h.1,h.2⟩
  |mks d key sz el z x=>simp only[dC]at h
  |apps d el x y=>simp only[dC]at h
  |appm d key sz el u v=>
   cases key with
   |none=>simp only[dC,dQ.looks,dP.looks]at h aD⊢;obtain⟨I,J⟩:=jP aD;rw[<-fU I,<-fU J];obtain⟨k,n,xs,gN,ys,g1,g2,g3,g4,g5⟩:=h;exact⟨k,n,xs,gN,ys,g1,g2,By rfl k _ g3 Ψ,g4,g5⟩
   |some m=>
    simp only[dC,dQ.looks,dP.looks]at h aD⊢;obtain⟨I,J⟩:=jP aD;rw[<-fU I,<-fU J];rcases h with⟨k,n,xs,gN,ys,g1,g2,g3,g4,g5⟩|⟨xs,gN,ys,g1,g2,g3,g4⟩
    ·exact .inl ⟨k,n,xs,gN,ys,g1,g2,by rw[(Ia rfl).2];exact g3,g4,g5⟩
    ·exact .inr ⟨xs,gN,ys,g1,g2,(Ia rfl).1 m g3,g4⟩
  |storeE sz u v=>simp only[dC,dQ.looks,dP.looks]at h aD⊢;obtain⟨I,J⟩:=jP aD;rw[<-fU I,<-fU J];obtain⟨k,n,i,f,el,dn,xs,q,g1,g2,g3⟩:=h;exact⟨k,n,i,f,el,dn,xs,q,g1,By rfl k _ g2 Ψ,g3⟩
  |mkmap d key=>
   cases key with
   |none=>simp only[dC]at h
   |some m=>simp only[dC]at h⊢;exact⟨Ef rfl m h.1,h.2⟩
  |mput bT u k v=>simp only[dC,dQ.looks,dP.looks]at h aD⊢;obtain⟨t1,t3⟩:=jP aD;obtain⟨t1,t2⟩:=jP t1;obtain⟨m,cs,cs',g1,g2,g3,g4⟩:=h;rw[<-fU t1,<-fU t2,<-fU t3];exact⟨m,cs,cs',g1,by rw[hw rfl];exact g2,g3,g4⟩
  |range d key x=>simp only[dC]at h
 |next d x=>simp only[dC]at h
 |opn d f x=>simp only[dC]at h
 |callb d f=>simp only[dC]at h
 |call d f xs=>
  simp only[dC,dQ.looks]at h aD⊢;obtain⟨I,J⟩:=jP aD;rw[<-fU I,<-BU J];obtain⟨n,ds,g1,h⟩:=h;rcases h with⟨⟨s,ai,r,rm,cN,c2,c3,c4,c5,kH⟩,g3⟩|⟨fV,r,rfl,cN,c2⟩;rotate_left
  ·exact⟨n,ds,g1,.inr ⟨fV,r,rfl,aK fV rfl (.inr (.inr (.inr rfl))) cN,c2⟩⟩
  refine⟨n,ds,g1,.inl ⟨⟨s,ai,r,rm,fun k cs aa=>?_,fun k o aa=>?_,c3,c4,⟨c5.1,c5.2.1,c5.2.2.1,c5.2.2.2.1,fun k aa=>?_⟩,kH⟩,g3⟩⟩
  ·cases k with
   |loc m=>rw[c3.1 m]at aa;cases aa
   |obj m=>rw[(aE rfl m).1];exact cN _ _ aa
  ·cases k with
   |loc m=>rw[c3.2 m]at aa;cases aa
   |obj m=>rw[(aE rfl m).2.1];exact c2 _ _ aa
  ·obtain⟨⟨j,rfl⟩,d2,d3,d4,d5⟩:=c5.2.2.2.2 k aa;exact⟨⟨j,rfl⟩,(aE rfl j).2.2 d2,by rw[(aE rfl j).1];exact d3,by rw[(aE rfl j).2.1];exact d4,d5⟩
def kZ(d:aT Nat):kl:=⟨d,.tuple [],[],[],none⟩
def km(P:bK)(q:Bool)(n0:Nat)(g:cy)(A:cL)(x:kl):Prop:=
 match g.g with
 |none=>dC P q n0 g.i A x
 |some (s,w)=>match A.t s with
  | .bool b=>(b=w/\dC P q n0 g.i A x)\/(b= !w/\x=kZ g.i.dst)
  | .tuple []=>x=kZ g.i.dst
  |_=>cZ
def eK:Aj->Aj->Bool
 | .v,_=>true
 |_,.v=>true
 | .l,.l| .l,.n| .l,.s| .l,.a| .l,.c=>true
 | .n,.n| .n,.s| .n,.a| .n,.c=>true
 | .s,.l| .s,.n| .s,.s| .s,.c=>true
 | .a,.l| .a,.n| .a,.s=>true
 | .c,.l| .c,.n| .c,.s=>true
 | .l,.m| .m,.l| .m,.m| .m,.n| .m,.s| .m,.a| .s,.m| .a,.m=>true
 | .l,.k| .m,.k| .n,.k| .s,.k=>true
 | .m,.r| .r,.m| .r,.n| .r,.s| .n,.r| .s,.r| .r,.w| .w,.r=>true
 | .m,.z| .z,.m| .z,.n=>true
 |_,_=>false
def cy.dst(g:cy):aT Nat:=g.i.dst
def yU(g h:cy):Bool:=(match g.i.dst with|some d=> !(h.looks.contains d)&&h.i.dst !=some d|none=>true)&&(match h.i.dst with|some d=> !(g.looks.contains d)|none=>true)&&eK g.i.mode h.i.mode
theorem Su(q:Bool)(n0:Nat)(m:Aj)(d:aT Nat)(A:cL):FV q n0 m d A (kZ d):=⟨rfl,fun k aa=>by simp[kZ,look]at aa,fun k aa=>by simp[kZ,look]at aa,fun k aa=>by simp[kZ]at aa,fun _ k o aa=>by simp[kZ,look]at aa,fun _ k o aa=>by simp[kZ,look]at aa⟩
theorem Kk{P:bK}{q:Bool}{n0:Nat}{g:cy}{A:cL}{x:kl}(h:km P q n0 g A x):FV q n0 g.i.mode g.i.dst A x:=by
 unfold km at h;split at h
 ·exact St h
 ·split at h
  ·rcases h with⟨_,h⟩|⟨_,rfl⟩
   ·exact St h
   ·exact Su _ _ _ _ _
  ·subst h;exact Su _ _ _ _ _
  ·exact h.elim
theorem ri{A:cL}{x:kl}{k:aC}(h:look k x.bw=none):(A.do x).b k=A.b k:=by simp[cL.do,ib,h]
theorem pv{A:cL}{x:kl}{k:aC}(h:look k x.ew=none):(A.do x).e k=A.e k:=by simp[cL.do,ib,h]
theorem De{A:cL}{x:kl}{k:aC}(h:(A.do x).b k=none):A.b k=none:=by
 simp only[cL.do,ib]at h;split at h
 ·cases h
 ·exact h
theorem Df{A:cL}{x:kl}{k:aC}(h:(A.do x).e k=none):A.e k=none:=by
 simp only[cL.do,ib]at h;split at h
 ·cases h
 ·exact h
theorem jZ{α:Type}{o:aT α}(h:¬o.isSome):o=none:=by cases o<;>simp at h⊢
theorem KZ{P:bK}{q:Bool}{n0:Nat}{g:cy}{A A':cL}{x:kl}(h:km P q n0 g A x)(aD:pq g.looks A.t A'.t)(hm:dC P q n0 g.i A x->dC P q n0 g.i A' x):km P q n0 g A' x:=by
 unfold km at h⊢;cases aR:g.g with
 |none=>simp only[aR]at h⊢;exact hm h
 |some ya=>
  obtain⟨s,w⟩:=ya;have:A.t s=A'.t s:=aD s (by simp[cy.looks,aR]);simp only[aR,this]at h⊢;split at h
  ·rcases h with⟨I,J⟩|h
   ·exact .inl ⟨I,hm J⟩
   ·exact .inr h
  ·exact h
  ·exact h
theorem adx{P:bK}{q:Bool}{n0:Nat}{g h:cy}(Oq:yU g h=true){A:cL}{x y:kl}(af:km P q n0 g A x)(bA:km P q n0 h (A.do x) y):
  km P q n0 h A y/\km P q n0 g (A.do y) x/\x.apart y:=by
 simp only[yU,bM]at Oq;obtain⟨⟨j6,hU⟩,hm⟩:=Oq;have b5:=Kk af;have b4:∀d jQ,g.i.dst=some d->h.i.dst=some jQ->d≠jQ:=by intro d jQ aj aJ e;simp only[aj,bM,bne_iff_ne]at j6;exact j6.2 (by rw[aJ,e])
 have DN:pq h.looks (A.do x).t A.t:=by intro i az;simp only[cL.do];rw[bq];intro e;rw[b5.d]at e;simp only[e,bM,q0,List.contains_eq_mem,decide_eq_false_iff_not]at j6;exact j6.1 az
 have vN:∀k,(look k x.bw).isSome->_:=b5.b;have hle:∀k,(look k x.ew).isSome->_:=b5.e;have PL:km P q n0 h A y:=by
  refine KZ bA DN fun rD=>KX rD (fun i az=>DN i (by simp[cy.looks,az])) (fun e k aa ah=>?_) (fun e k ah=>?_) (fun e bn k o ak eQ=>?_) (fun d aF HD iJ=>?_) (fun e k o ak=>?_) (fun e k=>?_) (fun e=>⟨fun m iJ=>⟨iJ.1.1,De iJ.2.1,Df iJ.2.2⟩,fun k=>?_⟩) (fun e m iJ=>⟨iJ.1.1,De iJ.2.1,Df iJ.2.2⟩) (fun e k o ak eQ=>?_) (fun e m=>?_)
  ·rw[ri (jZ fun aq=>?_)];rcases vN k aq with⟨aj,_⟩|aj|⟨aj,⟨j,aJ⟩,bs⟩|⟨aj,_⟩;rotate_left 3
   ·rw[e,aj]at hm;simp[eK]at hm
   ·rw[e,aj]at hm;simp[eK]at hm
   ·rw[e,aj]at hm;simp[eK]at hm
   ·rcases aa with aa|⟨m,aa⟩
    ·rw[aa]at bs;cases bs
    ·rw[aa]at aJ;cases aJ
  ·rw[ri (jZ fun aq=>?_)];rcases vN k aq with⟨aj,_⟩|aj|⟨aj,_⟩|⟨aj,_⟩<;>(rw[e,aj]at hm;simp[eK]at hm)
  ·rw[e]at hm;cases ha:look k x.ew with
   |none=>rw[pv ha]at ak;exact ak
   |some o'=>
    exfalso;have HK:(A.do x).e k=some o':=by simp[cL.do,ib,ha]
    rw[HK]at ak;cases ak;rcases hle k (by simp[ha])with⟨aj,_⟩|⟨aj,_⟩|⟨aj,_,bs⟩|⟨aj,_⟩|aj
    ·exact eQ (b5.xn (.inr aj) k _ ha)
    ·exact eQ (b5.xn (.inl aj) k _ ha)
    ·rw[bn]at bs;cases bs
    ·rw[aj]at hm;simp[eK]at hm
    ·rw[aj]at hm;simp[eK]at hm
  ·exact⟨iJ.1.1,De iJ.2.1,Df iJ.2.2⟩
  ·rw[pv (jZ fun aq=>?_)]at ak
   ·exact ak
   ·rw[e]at hm;rcases hle k aq with⟨aj,_⟩|⟨aj,_⟩|⟨aj,_⟩|⟨aj,_⟩|aj<;>(rw[aj]at hm;simp[eK]at hm)
  ·rw[ri (jZ fun aq=>?_)];rw[e]at hm;rcases vN k aq with⟨aj,_⟩|aj|⟨aj,_⟩|⟨aj,_⟩<;>(rw[aj]at hm;simp[eK]at hm)
  ·rw[pv (jZ fun aq=>?_)];rw[e]at hm;rcases hle k aq with⟨aj,_⟩|⟨aj,_⟩|⟨aj,_⟩|⟨aj,_⟩|aj<;>(rw[aj]at hm;simp[eK]at hm)
  ·rw[e]at hm;cases ha:look k x.ew with
   |none=>rw[pv ha]at ak;exact ak
   |some o'=>
    exfalso;have HK:(A.do x).e k=some o':=by simp[cL.do,ib,ha]
    rw[HK]at ak;cases ak;rcases hle k (by simp[ha])with⟨aj,_⟩|⟨aj,_⟩|⟨aj,_⟩|⟨aj,_⟩|aj
    ·exact eQ (b5.xn (.inr aj) k _ ha)
    ·rw[aj]at hm;simp[eK]at hm
    ·rw[aj]at hm;simp[eK]at hm
    ·rw[aj]at hm;simp[eK]at hm
    ·rw[aj]at hm;simp[eK]at hm
  ·rw[e]at hm;refine⟨?_,?_,fun fj=>fj.1⟩
   ·rw[ri (jZ fun aq=>?_)];rcases vN _ aq with⟨aj,d,_,aJ,_⟩|aj|⟨aj,_⟩|⟨aj,_⟩;rotate_left 3
    ·rw[aj]at hm;simp[eK]at hm
    ·cases aJ
    ·rw[aj]at hm;simp[eK]at hm
    ·rw[aj]at hm;simp[eK]at hm
   ·rw[pv (jZ fun aq=>?_)];rcases hle _ aq with⟨aj,d,_,aJ,_⟩|⟨aj,_⟩|⟨aj,_⟩|⟨aj,_⟩|aj
    ·cases aJ
    ·rw[aj]at hm;simp[eK]at hm
    ·rw[aj]at hm;simp[eK]at hm
    ·rw[aj]at hm;simp[eK]at hm
    ·rw[aj]at hm;simp[eK]at hm
 have ty:=Kk PL;have Od:pq g.looks A.t (A.do y).t:=by intro i az;simp only[cL.do];rw[bq];intro e;rw[ty.d]at e;simp only[e,q0,List.contains_eq_mem,decide_eq_false_iff_not]at hU;exact hU az
 refine⟨PL,?_,?_⟩
 ·refine KZ af Od fun rD=>KX rD (fun i az=>Od i (by simp[cy.looks,az])) (fun e k aa ah=>?_) (fun e k ah=>?_) (fun e bn k o ak eQ=>?_) (fun d aF HD iJ=>?_) (fun e k o ak=>?_) (fun e k=>?_) (fun e=>⟨fun m iJ=>?_,fun k=>?_⟩) (fun e m iJ=>?_) (fun e k o ak eQ=>?_) (fun e m=>?_)
  ·refine ri (jZ fun aq=>?_);rcases ty.b k aq with⟨aj,d,_,_,aJ,_⟩|aj|⟨aj,⟨j,aJ⟩,bs⟩|⟨_,_,aJ,_⟩;rotate_left 3
   ·exact ah aJ
   ·exact ah aJ
   ·rw[e,aj]at hm;simp[eK]at hm
   ·rcases aa with aa|⟨m,aa⟩
    ·rw[aa]at bs;cases bs
    ·rw[aa]at aJ;cases aJ
  ·refine ri (jZ fun aq=>?_);rcases ty.b k aq with⟨aj,d,_,_,aJ,_⟩|aj|⟨aj,_⟩|⟨_,_,aJ,_⟩;rotate_left 3
   ·exact ah aJ
   ·exact ah aJ
   ·rw[e,aj]at hm;simp[eK]at hm
   ·rw[e,aj]at hm;simp[eK]at hm
  ·rw[pv (jZ fun aq=>?_)]
   ·exact ak
   ·rcases ty.e k aq with⟨aj,d,_,_,_,aJ⟩|⟨aj,aJ⟩|⟨aj,_,bs⟩|⟨aj,_⟩|aj
    ·rw[aJ]at ak;cases ak
    ·exact eQ (ty.ex aj k o aq ak)
    ·rw[bn]at bs;cases bs
    ·rw[e,aj]at hm;simp[eK]at hm
    ·rw[e,aj]at hm;simp[eK]at hm
  ·refine⟨⟨iJ.1,fun rk=>?_⟩,?_,?_⟩
   ·rcases ty.r _ rk with⟨jQ,aj,aJ⟩|⟨_,⟨j,aJ⟩,_⟩
    ·simp only[aC.loc.injEq]at aJ;exact b4 d jQ aF aj Ω
    ·cases aJ
   ·rw[ri (jZ fun aq=>?_)]
    ·exact iJ.2.1
    ·rcases ty.b _ aq with⟨aj,jQ,aJ,bs,_⟩|aj|⟨aj,⟨j,aJ⟩,_⟩|⟨aj,⟨j,aJ⟩,_⟩;rotate_left 3
     ·cases aJ
     ·simp only[aC.loc.injEq]at bs;exact b4 d jQ aF aJ Ω
     ·rcases HD with aJ|aJ|aJ|aJ<;>(rw[aj,aJ]at hm;simp[eK]at hm)
     ·cases aJ
   ·rw[pv (jZ fun aq=>?_)]
    ·exact iJ.2.2
    ·rcases ty.e _ aq with⟨aj,jQ,aJ,bs,_⟩|⟨aj,aJ⟩|⟨aj,⟨j,aJ⟩,_⟩|⟨aj,o,aJ,_⟩|aj;rotate_left 4
     ·rcases HD with aJ|aJ|aJ|aJ<;>(rw[aj,aJ]at hm;simp[eK]at hm)
     ·simp only[aC.loc.injEq]at bs;exact b4 d jQ aF aJ Ω
     ·rcases aJ with aJ|⟨jQ,aJ,bs,_⟩
      ·exact aJ iJ.2.2
      ·simp only[aC.loc.injEq]at bs;exact b4 d jQ aF aJ Ω
     ·cases aJ
     ·rw[iJ.2.2]at aJ;cases aJ
  ·rw[pv (jZ fun aq=>?_)]
   ·exact ak
   ·rw[e]at hm;rcases ty.e k aq with⟨aj,d,_,_,_,aJ⟩|⟨aj,_⟩|⟨aj,_⟩|⟨aj,_⟩|aj
    ·rw[aJ]at ak;cases ak
    ·rw[aj]at hm;simp[eK]at hm
    ·rw[aj]at hm;simp[eK]at hm
    ·rw[aj]at hm;simp[eK]at hm
    ·rw[aj]at hm;simp[eK]at hm
  ·refine ri (jZ fun aq=>?_);rw[e]at hm;rcases ty.b k aq with⟨aj,_⟩|aj|⟨aj,_⟩|⟨aj,_⟩<;>(rw[aj]at hm;simp[eK]at hm)
  ·rw[e]at hm;refine⟨⟨iJ.1,fun rk=>?_⟩,?_,?_⟩
   ·rcases ty.r _ rk with⟨jQ,aj,aJ⟩|⟨aj|aj|aj,_⟩
    ·cases aJ
    ·rw[aj]at hm;simp[eK]at hm
    ·rw[aj]at hm;simp[eK]at hm
    ·rw[aj]at hm;simp[eK]at hm
   ·rw[ri (jZ fun aq=>?_)]
    ·exact iJ.2.1
    ·rcases ty.b _ aq with⟨aj,d,_,aJ,_⟩|aj|⟨aj,_⟩|⟨aj,_⟩
     ·cases aJ
     all_goals(rw[aj]at hm;simp[eK]at hm)
   ·rw[pv (jZ fun aq=>?_)]
    ·exact iJ.2.2
    ·rcases ty.e _ aq with⟨aj,_⟩|⟨aj,_⟩|⟨aj,_⟩|⟨aj,_⟩|aj<;>(rw[aj]at hm;simp[eK]at hm)
  ·rw[pv (jZ fun aq=>?_)];rw[e]at hm;rcases ty.e _ aq with⟨aj,_⟩|⟨aj,_⟩|⟨aj,_⟩|⟨aj,_⟩|aj<;>(rw[aj]at hm;simp[eK]at hm)
  ·rw[e]at hm;refine⟨⟨iJ.1,fun rk=>?_⟩,?_,?_⟩
   ·rcases ty.r _ rk with⟨jQ,aj,aJ⟩|⟨aj|aj|aj,_⟩
    ·cases aJ
    ·rw[aj]at hm;simp[eK]at hm
    ·rw[aj]at hm;simp[eK]at hm
    ·rw[aj]at hm;simp[eK]at hm
   ·rw[ri (jZ fun aq=>?_)]
    ·exact iJ.2.1
    ·rcases ty.b _ aq with⟨aj,_⟩|aj|⟨aj,_⟩|⟨aj,_⟩<;>(rw[aj]at hm;simp[eK]at hm)
   ·rw[pv (jZ fun aq=>?_)]
    ·exact iJ.2.2
    ·rcases ty.e _ aq with⟨aj,_⟩|⟨aj,_⟩|⟨aj,_⟩|⟨aj,o,aJ,_⟩|aj
     ·rw[aj]at hm;simp[eK]at hm
     ·rw[aj]at hm;simp[eK]at hm
     ·rw[aj]at hm;simp[eK]at hm
     ·rw[iJ.2.2]at aJ;cases aJ
     ·rw[aj]at hm;simp[eK]at hm
  ·rw[pv (jZ fun aq=>?_)]
   ·exact ak
   ·rw[e]at hm;rcases ty.e k aq with⟨aj,d,_,_,_,aJ⟩|⟨aj,_⟩|⟨aj,_⟩|⟨aj,_⟩|aj
    ·rw[aJ]at ak;cases ak
    ·rw[aj]at hm;simp[eK]at hm
    ·rw[aj]at hm;simp[eK]at hm
    ·rw[aj]at hm;simp[eK]at hm
    ·rw[aj]at hm;simp[eK]at hm
  ·rw[e]at hm;refine⟨?_,?_,fun fj=>⟨fj,fun rk=>?_⟩⟩;rotate_left 2
   ·rcases ty.r _ rk with⟨jQ,_,aJ⟩|⟨aJ|aJ|aJ,_⟩
    ·cases aJ
    ·rw[aJ]at hm;simp[eK]at hm
    ·rw[aJ]at hm;simp[eK]at hm
    ·rw[aJ]at hm;simp[eK]at hm
   ·refine ri (jZ fun aq=>?_);rcases ty.b _ aq with⟨aj,d,_,aJ,_⟩|aj|⟨aj,_⟩|⟨aj,_⟩;rotate_left 3
    ·rw[aj]at hm;simp[eK]at hm
    ·cases aJ
    ·rw[aj]at hm;simp[eK]at hm
    ·rw[aj]at hm;simp[eK]at hm
   ·refine pv (jZ fun aq=>?_);rcases ty.e _ aq with⟨aj,d,_,aJ,_⟩|⟨aj,_⟩|⟨aj,_⟩|⟨aj,_⟩|aj
    ·cases aJ
    ·rw[aj]at hm;simp[eK]at hm
    ·rw[aj]at hm;simp[eK]at hm
    ·rw[aj]at hm;simp[eK]at hm
    ·rw[aj]at hm;simp[eK]at hm
 ·refine⟨fun i az e=>?_,fun k aa=>jZ fun aq=>?_,fun k aa=>jZ fun aq=>?_⟩
  ·rw[b5.d]at az;rw[ty.d]at e;exact b4 i i az e rfl
  ·rcases vN k aa with⟨bB,d,a2,a3,_⟩|bB|⟨bB,⟨j,a2⟩,_⟩|⟨bB,_⟩<;>rcases ty.b k aq with⟨cb,jQ,cn,gd,_⟩|cb|⟨cb,⟨eo,cn⟩,_⟩|⟨cb,⟨eo,cn⟩,_⟩;all_goals first|(rw[bB,cb]at hm;simp[eK]at hm;done)|skip
   ·rw[a3]at gd;simp only[aC.loc.injEq]at gd;exact b4 d jQ a2 cn Ω
   ·rw[a3]at cn;cases cn
   ·rw[a3]at cn;cases cn
   ·rw[a2]at gd;cases gd
  ·rcases hle k aa with⟨bB,d,a2,a3,_,a4⟩|⟨bB,a2⟩|⟨bB,⟨j,a2⟩,_⟩|⟨bB,lR,a2,_⟩|bB<;>rcases ty.e k aq with⟨cb,jQ,cn,gd,_,F3⟩|⟨cb,cn⟩|⟨cb,⟨eo,cn⟩,_⟩|⟨cb,kc,cn,_⟩|cb;all_goals first|(rw[bB,cb]at hm;simp[eK]at hm;done)|skip
   ·rw[a3]at gd;simp only[aC.loc.injEq]at gd;exact b4 d jQ a2 cn Ω
   ·rw[a3]at cn;cases cn
   ·rw[a4]at cn;cases cn
   ·rcases a2 with a2|⟨d,a2,a3,_⟩
    ·exact a2 F3
    ·rw[a3]at gd;simp only[aC.loc.injEq]at gd;exact b4 d jQ a2 cn Ω
   ·rw[a2]at gd;cases gd
   ·rw[F3]at a2;cases a2
def sG(C:ek)(A:cL)(a:Act)(w:World):Prop:= ∃st ν,k4 st A/\(∀k,A.F k->fresh st.n st.o k)/\bX C st a w ν
theorem IH{st:aS}{A:cL}(h:k4 st A)(d:Nat)(p:ae):k4 {st with t:=put d p st.t} (A.do ⟨some d,p,[],[],none⟩):=by
 refine⟨fun i=>?_,fun k=>?_,fun k=>?_⟩
 ·simp only[cL.do,get_put,dZ,h.t]
 ·simpa[cL.do,ib,look]using h.b k
 ·simpa[cL.do,ib,look]using h.e k
theorem P1{st:aS}{A:cL}(h:k4 st A)(d:Nat)(p:ae)(o':List aC)(rm:aT aC):k4 {st with t:=put d p st.t,o:=o'} (A.do ⟨some d,p,[],[],rm⟩):=by have:=IH h d p;exact⟨this.t,this.b,this.e⟩
theorem S3{α:Type}{β:Type}:∀l:List (aC×α),bg ([]:List (aC×β)) l=l
 |[]=>rfl
 |(k,x)::r=>by simp[bg,look,S3 r]
theorem zp{st:aS}{A:cL}(h:k4 st A)(d:Nat)(p:ae)(κ:aC)(cs:List ae)(n':Nat)(o':List aC)(rm:aT aC):k4 ⟨put d p st.t,cT κ cs st.b,st.e,n',o'⟩ (A.do ⟨some d,p,[(κ,cs)],[],rm⟩):=by
 refine⟨fun i=>?_,fun k=>?_,fun k=>?_⟩
 ·simp only[cL.do,get_put,dZ,h.t]
 ·simp only[cL.do,ib,look,iQ,h.b];by_cases e:κ=k<;>simp[e]
 ·simpa[cL.do,ib,look]using h.e k
theorem Ex{st:aS}{A:cL}(h:k4 st A)(κ:aC)(cs:List ae)(p:ae):k4 {st with b:=cT κ cs st.b} (A.do ⟨none,p,[(κ,cs)],[],none⟩):=by
 refine⟨fun i=>?_,fun k=>?_,fun k=>?_⟩
 ·simpa[cL.do]using h.t i
 ·simp only[cL.do,ib,look,iQ,h.b];by_cases e:κ=k<;>simp[e]
 ·simpa[cL.do,ib,look]using h.e k
theorem o1{st:aS}{A:cL}(h:k4 st A)(d:Nat)(p:ae)(κ:aC)(o:cV)(n':Nat)(o':List aC)(rm:aT aC):k4 ⟨put d p st.t,st.b,cT κ o st.e,n',o'⟩ (A.do ⟨some d,p,[],[(κ,o)],rm⟩):=by
 refine⟨fun i=>?_,fun k=>?_,fun k=>?_⟩
 ·simp only[cL.do,get_put,dZ,h.t]
 ·simpa[cL.do,ib,look]using h.b k
 ·simp only[cL.do,ib,look,iQ,h.e];by_cases e:κ=k<;>simp[e]
theorem P0{st:aS}{A:cL}(h:k4 st A)(κ:aC)(o:cV)(p:ae):k4 {st with e:=cT κ o st.e} (A.do ⟨none,p,[],[(κ,o)],none⟩):=by
 refine⟨fun i=>?_,fun k=>?_,fun k=>?_⟩
 ·simpa[cL.do]using h.t i
 ·simpa[cL.do,ib,look]using h.b k
 ·simp only[cL.do,ib,look,iQ];by_cases e:κ=k<;>simp[e,h.e]
theorem IU{α:Type}{k:aC}:∀{l:List (aC×α)},k∈l.map (·.1)->(look k l).isSome
 |[],h=>by simp at h
 |(i,x)::r,h=>by
  simp only[look];split
  ·rfl
  ·rename_i e;simp only[gY,gp]at h;rcases h with h|h
   ·exact absurd h.symm e
   ·exact IU h
theorem sS{n:Nat}{o:List aC}{κ:aC}:∀j,fresh n (κ::o) j->fresh n o j/\j≠κ:=by intro j aw;simp only[fresh,gp,not_or]at aw⊢;exact⟨⟨aw.1,aw.2.2⟩,aw.2.1⟩
theorem W0{n:Nat}{o:List aC}{κ j:aC}(h:fresh n o j)(aw:some κ≠some j):fresh n (κ::o) j:=by simp only[fresh,gp,not_or]at h⊢;exact⟨h.1,fun e=>aw (by rw[e]),h.2⟩
theorem KY{P:bK}{aZ:List (Nat×cJ)}(aD:ez P aZ=true){C:ek}{q:Bool}{n0:Nat}{i:dQ}{o:Oper}(ak:r8 C.N aZ i o=true){A:cL}{x:kl}(af:dC P q n0 i A x){a:Act}{w:World}(hr:sG C A a w)
  {K:Act->World->Prop} {Q:Exit->Act->World->Prop} (cG:∀bU w',sG C (A.do x) bU w'->K bU w'):o.wp P a w K Q:=by
 obtain⟨st,ν,aG,fj,hr⟩:=hr;have vD:∀(t:List (Nat×ae)) (b:List (aC×List ae)) (e:List (aC×cV)) (d:aT Nat) (p:ae) (bw:List (aC×List ae)) (ew:List (aC×cV)),∀k,(A.do ⟨d,p,bw,ew,none⟩).F k->fresh st.n st.o k:=fun t b e d p bw ew k aa=>fj k aa.1;have mH:∀(d:aT Nat) (p:ae) (bw:List (aC×List ae)) (ew:List (aC×cV)) (κ:aC),∀k,(A.do ⟨d,p,bw,ew,some κ⟩).F k->fresh st.n (κ::st.o) k:=fun d p bw ew κ k aa=>W0 (fj k aa.1) aa.2;cases i with
 |s i=>
  have gR:qO C.N aZ i o=true:=by simpa only[r8]using ak
  cases i with
  |v d i=>simp only[dC]at af;obtain⟨c,p,I,J,_,rfl⟩:=af;rw[<-SG aG]at I;refine iz (κ:= .loc 0) (n':=0) (o₁:=[]) aD hr gR (fun h=>by simp[dP.makes]at h) (fun h=>by simp[dP.makes]at h) (st':={st with t:=put d p st.t}) (by simp only[ep,I]) J fun bU w' ν' cu=>cG _ _ ⟨_,ν',IH aG d p,fun k aa=>fj k aa.1,cu⟩
  |box d key v=>
   cases key with
   |some m=>simp only[dC]at af
   |none=>simp only[dC]at af;obtain⟨⟨I,_⟩,J,rfl⟩:=af;rw[<-hJ aG]at J;refine iz (κ:= .loc (n0+d)) (n':=st.n) (o₁:= .loc (n0+d)::st.o) aD hr gR (fun _=>fj _ I) (fun _=>sS) (st':=⟨put d (.ptr (.loc (n0+d)) 0) st.t,cT (.loc (n0+d)) (cells (bG st.t v)) st.b,st.e,st.n,.loc (n0+d)::st.o⟩) (by simp only[ep]) J fun bU w' ν' cu=>cG _ _ ⟨_,ν',?_,mH _ _ _ _ _,cu⟩;rw[hJ aG];exact zp aG d _ _ _ _ _ _
  |alloc d key z=>
   cases key with
   |some m=>simp only[dC]at af
   |none=>simp only[dC]at af;obtain⟨⟨I,_⟩,rfl⟩:=af;refine iz (κ:= .loc (n0+d)) (n':=st.n) (o₁:= .loc (n0+d)::st.o) aD hr gR (fun _=>fj _ I) (fun _=>sS) (st':=⟨put d (.ptr (.loc (n0+d)) 0) st.t,cT (.loc (n0+d)) (cells z) st.b,st.e,st.n,.loc (n0+d)::st.o⟩) (by simp only[ep]) trivial fun bU w' ν' cu=>cG _ _ ⟨_,ν',zp aG d _ _ _ _ _ _,mH _ _ _ _ _,cu⟩
  |store sz u v=>simp only[dC]at af;obtain⟨k,off,cs,I,J,ao,rfl⟩:=af;rw[<-hJ aG]at I ao;rw[<-aG.b]at J;refine iz (κ:= .loc 0) (n':=0) (o₁:=[]) aD hr gR (fun h=>by simp[dP.makes]at h) (fun h=>by simp[dP.makes]at h) (st':={st with b:=cT k (oB cs off (cells (bG st.t v))) st.b}) (by simp only[ep,I,J]) ao fun bU w' ν' cu=>cG _ _ ⟨{st with b:=cT k (oB cs off (cells (bG st.t v))) st.b},ν',by rw[hJ aG];exact Ex aG k _ _,fun k aa=>fj k aa.1,cu⟩
  |bsl d sz el xs=>simp only[dC]at af;obtain⟨⟨I,_⟩,J,rfl⟩:=af;rw[<-pC aG]at J;refine iz (κ:= .loc (n0+d)) (n':=st.n) (o₁:= .loc (n0+d)::st.o) aD hr gR (fun _=>fj _ I) (fun _=>sS) (st':=⟨put d (.slice sz (.own (.loc (n0+d))) (xs.map (bG st.t))) st.t,st.b,cT (.loc (n0+d)) ⟨xs.length,el,sz,none⟩ st.e,st.n,.loc (n0+d)::st.o⟩) (by simp only[ep]) J fun bU w' ν' cu=>cG _ _ ⟨_,ν',?_,mH _ _ _ _ _,cu⟩;rw[pC aG];exact o1 aG d _ _ _ _ _ _
  |app d sz el u v=>
   simp only[dC]at af;obtain⟨tag,xs,gN,ys,I,J,af⟩:=af;rw[<-hJ aG]at I J;rcases af with⟨k,ow,rfl,ao,aO,rfl⟩|⟨rfl,ao,⟨aO,_⟩,rfl⟩
   ·rw[<-aG.e]at ao;refine iz (κ:= .loc 0) (n':=0) (o₁:=[]) aD hr gR (fun h=>by simp[dP.makes,I]at h) (fun h=>by simp[dP.makes,I]at h) (st':=⟨put d (.slice sz (.own k) (xs++ys)) st.t,st.b,cT k ⟨xs.length+ys.length,el,sz,none⟩ st.e,st.n,st.o⟩) (by simp only[ep,I,J,ao,and_self,if_true]) aO.2 fun bU w' ν' cu=>cG _ _ ⟨_,ν',o1 aG d _ _ _ _ _ _,fun k aa=>fj k aa.1,cu⟩
   ·refine iz (κ:= .loc (n0+d)) (n':=st.n) (o₁:= .loc (n0+d)::st.o) aD hr gR (fun _=>fj _ aO) (fun _=>sS) (st':=⟨put d (.slice sz (.own (.loc (n0+d))) ys) st.t,st.b,cT (.loc (n0+d)) ⟨ys.length,el,sz,none⟩ st.e,st.n,.loc (n0+d)::st.o⟩) (by simp only[ep,I,J,and_self,if_true]) ao fun bU w' ν' cu=>cG _ _ ⟨_,ν',o1 aG d _ _ _ _ _ _,mH _ _ _ _ _,cu⟩
  |bslm d key sz el xs=>
   cases key with
   |none=>simp only[dC]at af
   |some m=>simp only[dC]at af;obtain⟨⟨I,_⟩,J,rfl⟩:=af;rw[<-pC aG]at J;refine iz (κ:= .obj m) (n':=st.n) (o₁:= .obj m::st.o) aD hr gR (fun _=>fj _ I) (fun _=>sS) (st':=⟨put d (.row sz (.obj m) xs.length) st.t,st.b,cT (.obj m) ⟨xs.length,el,sz,some (xs.map (bG st.t))⟩ st.e,st.n,.obj m::st.o⟩) (by simp only[ep]) J fun bU w' ν' cu=>cG _ _ ⟨_,ν',?_,mH _ _ _ _ _,cu⟩;rw[pC aG];exact o1 aG d _ _ _ _ _ _
  |mks d key sz el z x=>simp only[dC]at af
  |apps d el x y=>simp only[dC]at af
  |appm d key sz el u v=>
   cases key with
   |some m=>
    simp only[dC]at af;rcases af with⟨k,n,xs,gN,ys,I,J,ao,aO,rfl⟩|⟨xs,gN,ys,I,J,⟨ao,_⟩,aO,rfl⟩
    ·rw[<-hJ aG]at I J;rw[<-aG.e]at ao;exact iz (κ:= .loc 0) (n':=0) (o₁:=[]) aD hr gR (fun h=>by simp[dP.makes,I]at h) (fun h=>by simp[dP.makes,I]at h) (st':=⟨put d (.row sz k (xs.length+ys.length)) st.t,st.b,cT k ⟨xs.length+ys.length,el,sz,some (xs++ys)⟩ st.e,st.n,st.o⟩) (by simp only[ep,l3,I,J,ao,and_self,if_true]) aO fun bU w' ν' cu=>cG _ _ ⟨_,ν',o1 aG d _ _ _ _ _ _,fun k aa=>fj k aa.1,cu⟩
    rw[<-hJ aG]at I J;refine iz (κ:= .obj m) (n':=st.n) (o₁:= .obj m::st.o) aD hr gR (fun _=>fj _ ao) (fun _=>sS) (st':=⟨put d (.row sz (.obj m) ys.length) st.t,st.b,cT (.obj m) ⟨ys.length,el,sz,some ys⟩ st.e,st.n,.obj m::st.o⟩) (by simp only[ep,l3,I,J,and_self,if_true]) aO fun bU w' ν' cu=>cG _ _ ⟨_,ν',o1 aG d _ _ _ _ _ _,mH _ _ _ _ _,cu⟩
   |none=>
   simp only[dC]at af;obtain⟨k,n,xs,gN,ys,I,J,ao,aO,rfl⟩:=af;rw[<-hJ aG]at I J;rw[<-aG.e]at ao;refine iz (κ:= .loc 0) (n':=0) (o₁:=[]) aD hr gR (fun h=>by simp[dP.makes,I]at h) (fun h=>by simp[dP.makes,I]at h) (st':=⟨put d (.row sz k (xs.length+ys.length)) st.t,st.b,cT k ⟨xs.length+ys.length,el,sz,some (xs++ys)⟩ st.e,st.n,st.o⟩) (by simp only[ep,l3,I,J,ao,and_self,if_true]) aO fun bU w' ν' cu=>cG _ _ ⟨_,ν',o1 aG d _ _ _ _ _ _,fun k aa=>fj k aa.1,cu⟩
  |storeE sz u v=>simp only[dC]at af;obtain⟨k,n,i,f,el,dn,xs,q,I,J,ao,aO,rfl⟩:=af;rw[<-hJ aG]at I aO;rw[<-aG.e]at J;refine iz (κ:= .loc 0) (n':=0) (o₁:=[]) aD hr gR (fun h=>by simp[dP.makes]at h) (fun h=>by simp[dP.makes]at h) (st':={st with e:=cT k ⟨n,el,dn,some (xs.set i (qN q f (cells (bG st.t v))))⟩ st.e}) (by simp only[ep,qR,I,J,ao,and_self,if_true]) aO fun bU w' ν' cu=>cG _ _ ⟨{st with e:=cT k ⟨n,el,dn,some (xs.set i (qN q f (cells (bG st.t v))))⟩ st.e},ν',by rw[hJ aG];exact P0 aG k _ _,fun k aa=>fj k aa.1,cu⟩
  |mkmap d key=>
   cases key with
   |none=>simp only[dC]at af
   |some m=>simp only[dC]at af;obtain⟨⟨I,_⟩,rfl⟩:=af;refine iz (κ:= .obj m) (n':=st.n) (o₁:= .obj m::st.o) (hB:=fun e=>Ln gR (by cases e;rfl)) aD hr gR (fun _=>fj _ I) (fun _=>sS) (st':=⟨put d (.gmap (.obj m)) st.t,cT (.obj m) [.hdm 0 []] st.b,st.e,st.n,.obj m::st.o⟩) (by simp only[ep]) trivial fun bU w' ν' cu=>cG _ _ ⟨_,ν',zp aG d _ _ _ _ _ _,mH _ _ _ _ _,cu⟩
  |mput bT u k v=>simp only[dC]at af;obtain⟨m,cs,cs',I,J,ao,rfl⟩:=af;rw[<-hJ aG]at I;rw[<-hJ aG,<-hJ aG]at ao;rw[<-aG.b]at J;exact iz (κ:= .loc 0) (n':=0) (o₁:=[]) aD hr gR (fun h=>by simp[dP.makes]at h) (fun h=>by simp[dP.makes]at h) (st':={st with b:=cT m cs' st.b}) (by simp only[ep,I,J,ao]) trivial fun bU w' ν' cu=>cG _ _ ⟨{st with b:=cT m cs' st.b},ν',Ex aG m _ _,fun k aa=>fj k aa.1,cu⟩
  |range d key x=>simp only[dC]at af
 |next d x=>simp only[dC]at af
 |opn d f x=>simp only[dC]at af
 |callb d f=>simp only[dC]at af
 |call d f xs=>
  simp only[dC]at af;obtain⟨n,ds,I,af⟩:=af;rw[<-hJ aG]at I;rcases af with⟨⟨s,ai,r,rm,cN,c2,c3,c4,c5,kH,tR,rfl⟩,_⟩|⟨fV,r,rfl,cN,c2,c3,rfl⟩;rotate_left
  ·rw[<-pC aG]at c2 c3;simp only[r8]at ak;split at ak
   ·rename_i hK args ts iN;simp only[bM,ej]at ak;obtain⟨⟨⟨aj,aJ⟩,bs⟩,ch⟩:=ak;have ku:=ee hr bs;rw[I]at ku;obtain⟨p5,hn,iH⟩:=JS (ez.sz aD) iN ku (xZ hr ch);refine Mf hr aj aJ hn iH (K:=fun st'=>st'={st with t:=put fV r st.t,o:= .loc (n0+fV)::st.o}) ⟨⟨[],[]⟩,_,some (n0+fV),st.n,fun _=>.loc (n0+fV)::st.o,fun k cs aa=>by simp[look]at aa,fun k cs aa=>by simp[look]at aa,⟨fun _=>rfl,fun _=>rfl⟩,nA (fun _ h=>h.elim) _ c2,c3,fun m hm=>?_,fun k cE ai bn aa=>?_,?_⟩ ?_
    ·cases hm;exact fj _ cN.1
    ·obtain⟨_,rfl⟩:=bn;have:=sS k aa;exact⟨by simpa[ec]using this.1,fun m hm=>by cases hm;exact this.2⟩
    ·rintro cE oz ⟨rfl,rfl⟩;refine⟨⟨fun m hm=>by simp[look]at hm,fun m hm=>by simp[look]at hm⟩,?_⟩;simp[after,S3,fk]
    ·rintro st' bU w' ν' rfl cu;exact cG _ _ ⟨_,ν',P1 aG fV r _ _,mH _ _ _ _ _,cu⟩
   ·cases ak
  rw[<-pC aG]at kH tR;simp only[r8]at ak;split at ak
  ·rename_i hK args ts iN;simp only[bM,ej]at ak;obtain⟨⟨⟨aj,aJ⟩,bs⟩,ch⟩:=ak;have ku:=ee hr bs;rw[I]at ku;obtain⟨cI,dr,gM,jF,qD⟩:=c5;refine Me (ez.sz aD) hr iN aj aJ ku (xZ hr ch) (K:=fun st'=>st'=after st s ai d r) (.inl ⟨s,_,fun k cs aa=>⟨by rw[aG.b];exact(cN k cs aa).1,.inl (by simp[aa]),(cN k cs aa).2⟩,fun k o' aa=>⟨by rw[aG.e];exact(c2 k o' aa).1,.inr (by simp[aa]),(c2 k o' aa).2⟩,c3,kH,tR,?_⟩) ?_
   ·rintro cE oz ⟨rfl,rfl⟩;refine⟨⟨fun m hm=>?_,fun m hm=>?_⟩,rfl⟩
    ·rcases cI _ hm with h|h
     ·exact .inl h
     ·exact .inr (fj _ (qD _ h).2.1).2
    ·rcases dr _ hm with h|h
     ·exact .inl h
     ·exact .inr (fj _ (qD _ h).2.1).2
   ·rintro st' bU w' ν' rfl cu;refine cG _ _ ⟨_,ν',⟨fun i=>?_,fun k=>?_,fun k=>?_⟩,fun k aa=>?_,cu⟩
    ·simp only[after,cL.do];cases d with
     |none=>simpa[fk]using aG.t i
     |some d=>simp only[fk,get_put,dZ,aG.t]
    ·simp only[after,cL.do,ib,mo,r0];by_cases aq:(look k s.b).isSome
     ·have:=gM k aq;obtain⟨y,bA⟩:=e5.1 this;simp[aq,bA]
     ·cases aK:look k ai.b with
      |none=>simp only[aq,aG.b];cases A.b k<;>simp
      |some y=>
       rcases cI k (by simp[aK])with h|h
       ·exact absurd h aq
       ·have:=qD k h;simp[aq,aG.b,this]
    ·simp only[after,cL.do,ib,mo,r0];by_cases aq:(look k s.e).isSome
     ·have:=jF k aq;obtain⟨y,bA⟩:=e5.1 this;simp[aq,bA]
     ·cases aK:look k ai.e with
      |none=>simp only[aq,aG.e];cases A.e k<;>simp
      |some y=>
       rcases dr k (by simp[aK])with h|h
       ·exact absurd h aq
       ·have:=qD k h;simp[aq,aG.e,this]
    ·have DU:=fj k aa.1;have jh:=hr.lookNone DU;simp only[after];refine⟨DU.1,fun jg=>?_⟩;rcases hv.1 jg with jg|jg
     ·exact DU.2 jg
     ·rcases hv.1 jg with jg|jg
      ·rcases cI k (IU jg)with h|h
       ·obtain⟨y,bA⟩:=e5.1 h;have:=(cN k y bA).1;rw[<-aG.b,jh.1]at this;cases this
       ·exact aa.2 h
      ·rcases dr k (IU jg)with h|h
       ·obtain⟨y,bA⟩:=e5.1 h;have:=(c2 k y bA).1;rw[<-aG.e,jh.2]at this;cases this
       ·exact aa.2 h
  ·cases ak
theorem K0{P:bK}{aZ:List (Nat×cJ)}(aD:ez P aZ=true){C:ek}{q:Bool}{n0:Nat}{ops:Array Oper}{g:cy}{o:Oper}{j:Nat}(aw:ops[j]? =some o)(ak:AZ C.N aZ ops.toList g o=true){A:cL}{x:kl}(af:km P q n0 g A x){a:Act}{w:World}(hr:sG C A a w)
  {K:Act->World->Prop} {Q:Exit->Act->World->Prop} (cG:∀bU w',sG C (A.do x) bU w'->K bU w'):wpOp P ops Q j K a w:=by
 unfold wpOp;rw[aw];simp only;simp only[AZ,bM]at ak;obtain⟨mh,y3⟩:=ak;unfold km at af;cases Bh:g.g with
 |none=>
  cases eO:o.guard with
  |some x=>simp[eO,Bh]at mh
  |none=>
   have hw:oE o (yielded ops a.tmps)=true:=by simp[oE,eO]
   rw[if_pos hw];simp only[Bh]at af;exact .inl (KY aD y3 af hr cG)
 |some ya=>
  obtain⟨s,want⟩:=ya;cases eO:o.guard with
  |none=>simp[eO,Bh]at mh
  |some aeI=>
   obtain⟨ahi,fY⟩:=aeI;simp only[eO,Bh,bM,ej,fK]at mh;obtain⟨⟨⟨⟨rfl,J⟩,ao⟩,aO⟩,bp⟩:=mh;obtain⟨st,ν,aG,fj,bW⟩:=id hr;obtain⟨FL,FM⟩:=S9 bW J ao;simp only[Bh]at af;have OU:∀(h:x=kZ g.i.dst),K (a.put o.dst undef) w:=by
    rintro rfl;rw[aO];refine cG _ _ ⟨_,ν,?_,fun k aa=>?_,bW.put bp (p:= .tuple []) (by simp[aH,cc,undef])⟩
    ·refine⟨fun i=>?_,fun k=>?_,fun k=>?_⟩
     ·simp only[cL.do,kZ];cases g.i.dst with
      |none=>simpa[fk]using aG.t i
      |some d=>simp only[fk,get_put,dZ,aG.t]
     ·simpa[cL.do,ib,look,kZ]using aG.b k
     ·simpa[cL.do,ib,look,kZ]using aG.e k
    ·exact fj k aa.1
   split at af
   ·rename_i b ah;have bA:=FL b (by rw[aG.t];exact ah);rcases af with⟨rfl,af⟩|⟨rfl,af⟩
    ·have hw:oE o (yielded ops a.tmps)=true:=by simp[oE,eO,bA]
     rw[if_pos hw];exact .inl (KY aD y3 af hr cG)
    ·have hw:¬(oE o (yielded ops a.tmps)=true):=by simp[oE,eO,bA]
     rw[bq hw];exact OU af
   ·rename_i ah;have bA:=FM (by rw[aG.t];exact ah);have hw:¬(oE o (yielded ops a.tmps)=true):=by simp[oE,eO,bA]
    rw[bq hw];exact OU af
   ·exact af.elim
def sL(P:bK)(q:Bool)(n0:Nat)(K:cL->Prop):List (Nat×cy)->cL->Prop
 |[],A=>K A
 |(_,g)::r,A=> ∃x,km P q n0 g A x/\sL P q n0 K r (A.do x)
theorem F4{P:bK}{q:Bool}{n0:Nat}{K:cL->Prop}{i:Nat}{g:cy}:∀(l0 mA:List (Nat×cy)) (A:cL),(∀x∈l0,yU x.2 g=true)->sL P q n0 K (l0++(i,g)::mA) A->∃x,km P q n0 g A x/\sL P q n0 K (l0++mA) (A.do x)
 |[],mA,A,_,h=>h
 |(j,NS)::l0,mA,A,aE,h=>by simp only[dm,sL]at h;obtain⟨y,bA,h⟩:=h;obtain⟨x,af,h⟩:=F4 l0 mA (A.do y) (fun z de=>aE z (List.mem_cons_of_mem _ de)) h;obtain⟨s1,s2,zV⟩:=adx (aE _ (List.mem_cons_self ..)) bA af;refine⟨x,s1,y,s2,?_⟩;rw[<-cL.do_comm A zV];exact h
def rem(listed:Array Bool):Nat->List cy->List (Nat×cy)
 |_,[]=>[]
 |k,g::r=>if listed.getD k false then rem listed (k+1) r else(k,g)::rem listed (k+1) r
theorem Rx{l c6:Array Bool}:∀(gs:List cy) (k:Nat),(∀j,k<=j->l.getD j false=c6.getD j false)->rem l k gs=rem c6 k gs
 |[],_,_=>rfl
 |g::r,k,h=>by simp only[rem,h k (cq _),Rx r (k+1) fun j aw=>h j Ω]
theorem vy{l:Array Bool}{i j:Nat}(h:i<l.size):(l.setIfInBounds i true).getD j false=if i=j then true else l.getD j false:=by
 simp only[oC];by_cases e:i=j
 ·subst e;simp[h]
 ·simp[e]
theorem Ck{l:Array Bool}{i:Nat}(az:i<l.size)(aK:l.getD i false=false):∀(gs:List cy) (k:Nat),k<=i->i<k+gs.length->∃l0 mA g,gs[i-k]? =some g/\rem l k gs=l0++(i,g)::mA/\rem (l.setIfInBounds i true) k gs=l0++mA/\
  ∀x∈l0,gs[x.1-k]? =some x.2/\k<=x.1/\x.1<i/\l.getD x.1 false=false
 |[],k,I,J=>by simp at J;omega
 |g::r,k,I,J=>by
  by_cases e:k=i
  ·subst e;refine⟨[],rem l (k+1) r,g,Ψ,by simp[rem,aK],?_,fun x af=>by simp at af⟩;simp only[rem,vy az,if_true,ef];exact Rx r (k+1) fun j aw=>by rw[vy az,bq Ω]
  ·obtain⟨l0,mA,eM,aj,aJ,bs,ch⟩:=Ck az aK r (k+1) Ω (by simp at J;omega);have kO:i-k=(i-(k+1))+1:=Ω
   have mK:(l.setIfInBounds i true).getD k false=l.getD k false:=by rw[vy az,bq Ω]
   by_cases aa:l.getD k false=true
   ·refine⟨l0,mA,eM,by rw[kO];simpa using aj,by simp only[rem,aa,if_true,aJ],by simp only[rem,mK,aa,if_true,bs],fun x af=>?_⟩;obtain⟨f1,f2,f3,f4⟩:=ch x af;refine⟨?_,Ω,f3,f4⟩;have:x.1-k=(x.1-(k+1))+1:=Ω
    rw[this];simpa using f1
   ·have aa:l.getD k false=false:=by simpa using aa
    refine⟨(k,g)::l0,mA,eM,by rw[kO];simpa using aj,by simp[rem,aa,aJ],by simp[rem,mK,aa,bs],fun x af=>?_⟩;rcases gp.1 af with rfl|af
    ·exact⟨Ψ,cq _,by simp;omega,aa⟩
    ·obtain⟨f1,f2,f3,f4⟩:=ch x af;refine⟨?_,Ω,f3,f4⟩;have:x.1-k=(x.1-(k+1))+1:=Ω
     rw[this];simpa using f1
def uG(acc:List Nat):List Edge->Nat
 |[]=>0
 |e::r=>if sy .any e then(2 ^ e.on)|||(acc.getD e.on 0)|||uG acc r else uG acc r
def nC(acc:List Nat):List Oper->List Nat
 |[]=>acc
 |o::os=>nC (acc++[uG acc o.after.toList]) os
def Cp(m:Nat)(h:cy):Nat->List cy->Bool
 |_,[]=>true
 |i,g::r=>(m.testBit i||yU g h)&&Cp m h (i+1) r
def wm:List cy->List cy->List Nat->Bool
 |_,[],_=>true
 |pre,h::r,m::ms=>Cp m h 0 pre&&wm (pre++[h]) r ms
 |_,_,[]=>false
def tW:Nat->List Oper->Bool
 |_,[]=>true
 |k,o::os=>o.after.toList.all (fun e=> !sy .any e||decide (e.on<k))&&tW (k+1) os
def Ay(gs:List cy)(ops:List Oper):Bool:=tW 0 ops&&wm [] gs (nC [] ops)
theorem IP{acc:List Nat}{j:Nat}:∀{es:List Edge},(uG acc es).testBit j=true->∃e∈es,sy .any e=true/\(j=e.on\/(acc.getD e.on 0).testBit j=true)
 |[],h=>by simp[uG]at h
 |e::r,h=>by
  simp only[uG]at h;split at h
  ·rename_i ah;simp only[Nat.testBit_or,Bool.or_eq_true]at h;rcases h with(h|h)|h
   ·refine⟨e,Ψ,ah,.inl ?_⟩;rw[Nat.testBit_two_pow]at h;have cu:e.on=j:=by simpa using h
    exact cu.symm
   ·exact⟨e,Ψ,ah,.inr h⟩
   ·obtain⟨gr,I,J⟩:=IP h;exact⟨gr,by simp[I],J⟩
  ·obtain⟨gr,I,J⟩:=IP h;exact⟨gr,by simp[I],J⟩
theorem IQ:∀(os:List Oper) (acc:List Nat) (k:Nat),k<acc.length->(nC acc os)[k]? =acc[k]?
 |[],acc,k,_=>rfl
 |o::os,acc,k,h=>by simp only[nC];rw[IQ os _ k (by simp;omega),qa h]
theorem Qa:∀(os:List Oper) (acc:List Nat) (k:Nat) (o:Oper),os[k]? =some o->∃tO,(nC acc os)[acc.length+k]? =some (uG tO o.after.toList)/\tO.length=acc.length+k/\∀i,i<tO.length->tO[i]? =(nC acc os)[i]?
 |[],acc,k,o,h=>by simp at h
 |o'::os,acc,0,o,h=>by
  simp only[List.getElem?_cons_zero,dZ]at h;subst h;refine⟨acc,?_,Ψ,fun i az=>?_⟩
  ·simp only[nC,Nat.add_zero];rw[IQ os _ _ Ψ];simp
  ·simp only[nC];rw[IQ os _ i (by simp;omega),qa az]
 |o'::os,acc,k+1,o,h=>by simp only[List.getElem?_cons_succ]at h;obtain⟨tO,I,J,ao⟩:=Qa os (acc++[uG acc o'.after.toList]) k o h;refine⟨tO,?_,by rw[J];simp;omega,fun i az=>by rw[ao i az];rfl⟩;simp only[nC];rw[show acc.length+(k+1)=(acc++[uG acc o'.after.toList]).length+k from by simp;omega];exact I
def u9(ops:Array Oper)(listed:Array Bool):Prop:= ∀k o,ops[k]? =some o->listed.getD k false=true->∀e∈o.after.toList,sy .any e=true->listed.getD e.on false=true
theorem EC{ops:Array Oper}{listed:Array Bool}(aF:u9 ops listed):∀(k:Nat) (o:Oper),ops[k]? =some o->(∀e∈o.after.toList,sy .any e=true->listed.getD e.on false=true)->∀j,((nC [] ops.toList).getD k 0).testBit j=true->listed.getD j false=true:=by
 intro k;induction k using Nat.strongRecOn with
 |_ k bo=>
  intro o ak aG j aw;obtain⟨tO,I,J,ao⟩:=Qa ops.toList [] k o (by simpa using ak);simp only[List.length_nil,Nat.zero_add]at I J;rw[List.getD_eq_getElem?_getD,I]at aw;obtain⟨e,he,ah,bI⟩:=IP aw;rcases bI with rfl|bI
  ·exact aG e he ah
  ·by_cases bS:e.on<tO.length
   ·have hm:tO.getD e.on 0=(nC [] ops.toList).getD e.on 0:=by rw[List.getD_eq_getElem?_getD,ao _ bS,List.getD_eq_getElem?_getD]
    have aa:k<ops.size:=(Array.getElem?_eq_some_iff.1 ak).1;have gR:ops[e.on]? =some ops[e.on]:=oD Ω;rw[hm]at bI;exact bo e.on Ω _ gR (fun gr Bd eT=>aF e.on _ gR (aG e he ah) gr Bd eT) j bI
   ·rw[List.getD_eq_getElem?_getD,List.getElem?_eq_none Ω]at bI;simp at bI
theorem RR{m:Nat}{h:cy}:∀{gs:List cy} {i0:Nat},Cp m h i0 gs=true->∀i g,gs[i]? =some g->m.testBit (i0+i)=true\/yU g h=true
 |[],i0,_,i,g,aR=>by simp at aR
 |eM::r,i0,hr,0,g,aR=>by simp only[Cp,bM,Bool.or_eq_true]at hr;simp only[List.getElem?_cons_zero,dZ]at aR;subst aR;simpa using hr.1
 |eM::r,i0,hr,i+1,g,aR=>by simp only[Cp,bM]at hr;have:=RR hr.2 i g (by simpa using aR);rwa[show i0+1+i=i0+(i+1)from by omega]at this
theorem Jr:∀{gs pre:List cy} {ms:List Nat},wm pre gs ms=true->∀j h,gs[j]? =some h->∀i g,i<pre.length+j->(pre++gs)[i]? =some g->(ms.getD j 0).testBit i=true\/yU g h=true
 |[],pre,ms,_,j,h,aw,_,_,_,_=>by simp at aw
 |cu::r,pre,[],aU,j,h,aw,_,_,_,_=>by simp[wm]at aU
 |cu::r,pre,m::ms,aU,j,h,aw,i,g,az,aR=>by
  simp only[wm,bM]at aU;cases j with
  |zero=>simp only[List.getElem?_cons_zero,dZ]at aw;subst aw;rw[qa Ω]at aR;simpa using RR aU.1 i g aR
  |succ j=>have:=Jr aU.2 j h (by simpa using aw) i g (by simp;omega) (by simpa using aR);simpa using this
theorem Dl:∀{os:List Oper} {k:Nat},tW k os=true->∀i o,os[i]? =some o->∀e∈o.after.toList,sy .any e=true->e.on<k+i
 |[],k,_,i,o,ak,_,_,_=>by simp at ak
 |o'::os,k,h,0,o,ak,e,he,ah=>by simp only[tW,bM,jy]at h;simp only[List.getElem?_cons_zero,dZ]at ak;subst ak;have:=h.1 e he;simpa[ah]using this
 |o'::os,k,h,i+1,o,ak,e,he,ah=>by simp only[tW,bM]at h;have:=Dl h.2 i o (by simpa using ak) e he ah;omega
theorem Hc{N:Nat}{aZ:List (Nat×cJ)}{ops:List Oper}:∀{gs:List cy} {os:List Oper},ic N aZ ops gs os=true->∀(i:Nat) (g:cy),gs[i]? =some g->∃o,os[i]? =some o/\AZ N aZ ops g o=true
 |[],[],_,i,g,h=>by simp at h
 |[],_::_,h,_,_,_=>by simp[ic]at h
 |_::_,[],h,_,_,_=>by simp[ic]at h
 |eM::gs,o::os,h,0,g,aR=>by simp only[ic,bM]at h;simp only[List.getElem?_cons_zero,dZ]at aR;subst aR;exact⟨o,Ψ,h.1⟩
 |eM::gs,o::os,h,i+1,g,aR=>by simp only[ic,bM]at h;obtain⟨o',I,J⟩:=Hc h.2 i g (by simpa using aR);exact⟨o',by simpa using I,J⟩
theorem A1{N:Nat}{aZ:List (Nat×cJ)}{ops:List Oper}:∀{gs:List cy} {os:List Oper},ic N aZ ops gs os=true->gs.length=os.length
 |[],[],_=>rfl
 |[],_::_,h=>by simp[ic]at h
 |_::_,[],h=>by simp[ic]at h
 |g::gs,o::os,h=>by simp only[ic,bM]at h;simp[A1 h.2]
theorem JH{l:Array Bool}:∀(gs:List cy) (k:Nat),rem l k gs=[]\/ ∃i g,i<gs.length/\gs[i]? =some g/\l.getD (k+i) false=false/\∀j,j<i->l.getD (k+j) false=true
 |[],_=>.inl rfl
 |g::r,k=>by
  by_cases h:l.getD k false=true
  ·rcases JH (l:=l) r (k+1)with I|⟨i,eM,I,J,ao,aO⟩
   ·left;simp only[rem,h,if_true,I]
   ·refine .inr ⟨i+1,eM,by simp;omega,by simpa using J,by rw[show k+(i+1)=k+1+i from by omega];exact ao,fun j aw=>?_⟩;cases j with
    |zero=>simpa using h
    |succ j=>rw[show k+(j+1)=k+1+j from by omega];exact aO j Ω
  ·exact .inr ⟨0,g,Ψ,Ψ,by simpa using h,fun j aw=>Ω⟩
theorem Ty{P:bK}{aZ:List (Nat×cJ)}(aD:ez P aZ=true){C:ek}{q:Bool}{n0:Nat}{ops:Array Oper}{gs:List cy}(gg:ic C.N aZ ops.toList gs ops.toList=true)(DO:Ay gs ops.toList=true){K:cL->Prop}{Q:Exit->Act->World->Prop}
  (jb:∀A a w,K A->sG C A a w->Q .normal a w):∀(fuel:Nat) (listed:Array Bool) (A:cL) (a:Act) (w:World),listed.size=ops.size->u9 ops listed->(rem listed 0 gs).length<=fuel->sL P q n0 K (rem listed 0 gs) A->sG C A a w->wpAny P .any ops Q fuel listed a w:=by
 simp only[Ay,bM]at DO;obtain⟨sW,Bu⟩:=DO;have hlen:gs.length=ops.size:=by simpa using A1 gg
 have Om:∀(listed:Array Bool) (A:cL) (a:Act) (w:World),listed.size=ops.size->sL P q n0 K (rem listed 0 gs) A->sG C A a w->sA .any ops listed=[]->Q .normal a w:=by
  intro listed A a w dq jf hr Ea;rcases JH (l:=listed) gs 0 with h|⟨i,g,I,J,ao,aO⟩
  ·rw[h]at jf;exact jb A a w jf hr
  ·exfalso;have az:i<ops.size:=Ω
   have jg:i∈sA .any ops listed:=by
    unfold sA;simp only[List.mem_filter,List.mem_range,bM,q0];refine⟨az,?_,?_⟩
    ·rw[Nat.zero_add]at ao;simp only[oC]at ao⊢;rw[oD Ω]at ao⊢;simpa using ao
    ·rw[oD az];simp only[kF,pf];rw[<-Array.all_toList,jy];intro e he;by_cases ah:sy .any e=true
     ·have bS:=Dl sW i ops[i] (by simp[az]) e he ah;have:=aO e.on Ω;rw[Nat.zero_add]at this;simp[this]
     ·simp[ah]
   rw[Ea]at jg;simp at jg
 intro fuel;induction fuel with
 |zero=>
  intro listed A a w dq aF aL jf hr;have rL:rem listed 0 gs=[]:=q1 Ω;have Ea:sA .any ops listed=[]:=by
   rw[List.eq_nil_iff_forall_not_mem];intro i az;unfold sA at az;simp only[List.mem_filter,List.mem_range,bM,q0]at az;obtain⟨I,J,_⟩:=az;have aK:listed.getD i false=false:=by simp only[oC]at J⊢;rw[oD Ω]at J⊢;simpa using J
   obtain⟨l0,mA,g,_,aJ,_⟩:=Ck Ω aK gs 0 Ω Ω;rw[rL]at aJ;simp at aJ
  exact⟨Ea,Om listed A a w dq jf hr Ea⟩
 |succ fuel bo=>
  intro listed A a w dq aF aL jf hr;refine⟨Om listed A a w dq jf hr,fun i az=>?_⟩;unfold sA at az;simp only[List.mem_filter,List.mem_range,bM,q0]at az;obtain⟨I,J,ao⟩:=az;have aK:listed.getD i false=false:=by simp only[oC]at J⊢;rw[oD Ω]at J⊢;simpa using J
  have ak:ops[i]? =some ops[i]:=oD I;have vH:∀e∈ops[i].after.toList,sy .any e=true->listed.getD e.on false=true:=by rw[ak]at ao;simp only[kF,pf]at ao;rw[<-Array.all_toList,jy]at ao;intro e he ah;simpa[ah]using ao e he
  obtain⟨l0,mA,g,aj,aJ,bs,ch⟩:=Ck Ω aK gs 0 Ω Ω;simp only[Nat.sub_zero]at aj ch;rw[aJ]at jf;obtain⟨x,af,Hk⟩:=F4 l0 mA A (fun y bA=>by
   obtain⟨f1,f2,f3,f4⟩:=ch y bA;rcases Jr Bu i g aj y.1 y.2 (by simpa using f3) (by simpa using f1)with h|h
   ·have:=EC aF i ops[i] ak vH y.1 h;rw[f4]at this;cases this
   ·exact h) jf
  obtain⟨o',g1,g2⟩:=Hc gg i g aj;have:o'=ops[i]:=by rw[Array.getElem?_toList,ak]at g1;exact(gq g1).symm
  subst this;refine K0 aD ak g2 af hr fun bU w' bW=>?_;refine bo (listed.setIfInBounds i true) (A.do x) bU w' (by simpa using dq) ?_ ?_ (by rw[bs];exact Hk) bW
  ·intro k o aa aG e he ah;rw[vy Ω]at aG⊢;split
   ·rfl
   ·by_cases kO:i=k
    ·subst kO;rw[ak]at aa;cases aa;exact vH e he ah
    ·rw[bq kO]at aG;exact aF k o aa aG e he ah
  ·rw[bs];rw[aJ]at aL;simp at aL⊢;omega
def xh(n0 d:Nat)(st:aS):Prop:= .loc (n0+d)∉st.o/\look (.loc (n0+d)) st.b=none/\look (.loc (n0+d)) st.e=none
def fO.loadO(q:Bool)(t:List (Nat×ae)):fO->Prop
 | .load _ _ x=>q=true\/xH (bG t x)=true
 | .loadB _ _ _=>True
 | .mgetB _ _ _ _ _=>True
 | .mget _ _ _ _ _=>q=true
 | .ment _=>q=true
 | .mlen _=>q=true
 |_=>True
def kr(q:Bool)(nw:List Nat)(n0:Nat)(st:aS):dP->Prop
 | .v _ i=>i.loadO q st.t
 | .box d none _=>xh n0 d st
 | .alloc d none _=>xh n0 d st
 | .box _ (some _) _=>cZ
 | .alloc _ (some _) _=>cZ
 | .store _ x _=>match bG st.t x with| .ptr _ _=>True|_=>cZ
 | .bslm _ none _ _ _=>cZ
 | .bslm _ (some m) _ _ _=>m∈nw/\look (.obj m) st.b=none/\look (.obj m) st.e=none
 | .mks _ _ _ _ _ _=>cZ
 | .apps _ _ _ _=>cZ
 | .appm _ none _ _ x _=>match bG st.t x with| .row _ _ _=>True|_=>cZ
 | .appm _ (some m) _ _ x _=>match bG st.t x with| .row _ _ _=>True| .slice _ .nil _=>m∈nw/\look (.obj m) st.b=none/\look (.obj m) st.e=none|_=>cZ
 | .storeE _ _ _=>True
 | .mkmap _ none=>cZ
 | .mkmap _ (some m)=>m∈nw/\look (.obj m) st.b=none/\look (.obj m) st.e=none
 | .mput _ _ _ _=>True
 | .range _ _ _=>cZ
 | .bsl d _ _ _=>xh n0 d st
 | .app d _ _ x _=>match bG st.t x with
  | .slice _ .nil _=>xh n0 d st
  | .slice _ (.own k) _=>(look k st.e).bind (·.xs)=none
  |_=>True
def nl(n0:Nat):dP->aC
 | .mkmap _ (some m)=>.obj m
 | .appm _ (some m) _ _ _ _=>.obj m
 | .bslm _ (some m) _ _ _=>.obj m
 | .v d _| .box d _ _| .alloc d _ _| .bsl d _ _ _| .app d _ _ _ _| .bslm d _ _ _ _| .appm d _ _ _ _ _| .mkmap d _| .range d _ _| .mks d _ _ _ _ _| .apps d _ _ _=>.loc (n0+d)
 | .store _ _ _| .mput _ _ _ _| .storeE _ _ _=>.loc n0
def aag(nw:List Nat)(st:aS)(s ai:dD)(rm:aT aC):Prop:=(∀k,(look k ai.b).isSome->(look k s.b).isSome\/rm=some k)/\(∀k,(look k ai.e).isSome->(look k s.e).isSome\/rm=some k)/\(∀k,(look k s.b).isSome->(look k ai.b).isSome)/\(∀k,(look k s.e).isSome->(look k ai.e).isSome)/\
 (∀k,rm=some k->(∃j,j∈nw/\k= .obj j)/\look k st.b=none/\look k st.e=none/\((look k ai.b).isSome\/(look k ai.e).isSome))
def pg(P:bK)(q:Bool)(nw:List Nat)(n:Nat)(args:List ae)(st:aS)(d:aT Nat)(K:aS->Prop):Prop:=
 (∃fV r,d=some fV/\xh st.n fV st/\kinL (fun _=>cZ) args/\FnK P n (st.n+fV) args ⟨[],[]⟩ (fun cE t'=>cE=r/\t'=⟨[],[]⟩)/\K {st with t:=put fV r st.t,o:= .loc (st.n+fV)::st.o})\/
 ∃s ai r rm,o9 (au s) s.b st.b/\p3 (au s) s.e st.e/\hd s/\hd ai/\aag nw st s ai rm/\kinL (au s) args/\b7 P n args s (fun cE t'=>cE=r/\t'=ai)/\(q=true->ai.b=[]/\ai.e=[])/\K {after st s ai d r with o:=st.o}
def iF(P:bK)(q:Bool)(nw:List Nat)(n0:Nat)(st:aS)(K:aS->Prop):dQ->Prop
 | .s i=>match ep (nl n0 i) st.n (nl n0 i::st.o) st i with
  |some (c,st')=>kr q nw n0 st i/\c/\K st'
  |none=>cZ
 | .call d f xs=>match bG st.t f with
  | .func n ds=>pg P q nw n (bz (xs.map (bG st.t)++ds)) st d K
  |_=>cZ
 | .next _ _=>cZ
 | .opn _ _ _=>cZ
 | .callb _ _=>cZ
def gO(P:bK)(q:Bool)(nw:List Nat)(n0:Nat):List cy->aS->(aS->Prop)->Prop
 |[],st,K=>K st
 |⟨none,i⟩::r,st,K=>iF P q nw n0 st (fun st'=>gO P q nw n0 r st' K) i
 |⟨some (s,want),i⟩::r,st,K=>match get s st.t with
  | .bool b=>(b=want->iF P q nw n0 {st with t:=put s (.bool want) st.t} (fun st'=>gO P q nw n0 r st' K) i)/\(b= !want->gO P q nw n0 r {st with t:=fk i.dst (.tuple []) (put s (.bool !want) st.t)} K)
  | .tuple []=>gO P q nw n0 r {st with t:=fk i.dst (.tuple []) st.t} K
  |_=>cZ
structure qc (nw:List Nat) (n0 N:Nat) (mY:List aC) (st:aS) (A:cL):Prop where
 like:k4 st A
 n:st.n=n0
 F:∀k,fresh n0 st.o k->(∀j∈nw,k≠ .obj j)->A.F k
 o:∀k∈st.o,k∈mY\/(∃d,d<N/\k= .loc (n0+d))\/ ∃j∈nw,k= .obj j
def Ak(nw:List Nat)(A:cL):Prop:= ∀j∈nw,A.b (.obj j)=none->A.e (.obj j)=none->A.F (.obj j)
theorem Ak.do{P:bK}{q:Bool}{n0:Nat}{nw:List Nat}{A:cL}(h:Ak nw A){g:cy}{x:kl}(af:km P q n0 g A x):Ak nw (A.do x):=by
 intro j aw ah he;refine⟨h j aw (De ah) (Df he),fun rk=>?_⟩;rcases(Kk af).r _ rk with⟨d,_,e⟩|⟨_,_,aq⟩
 ·cases e
 ·rcases aq with aq|aq
  ·obtain⟨y,bA⟩:=e5.1 aq;simp[cL.do,ib,bA]at ah
  ·obtain⟨y,bA⟩:=e5.1 aq;simp[cL.do,ib,bA]at he
theorem MW{P:bK}{q:Bool}{nw:List Nat}{n0 N:Nat}{mY:List aC}{i:dQ}(aF:∀d,i.dst=some d->d<N){st:aS}{A:cL}(h:qc nw n0 N mY st A)(lE:Ak nw A){K:aS->Prop}(he:iF P q nw n0 st K i):∃x st',dC P q n0 i A x/\K st'/\qc nw n0 N mY st' (A.do x):=by
 have aG:=h.like;have rI:∀d,xh n0 d st->(A.F (.loc (n0+d))/\A.b (.loc (n0+d))=none/\A.e (.loc (n0+d))=none):=fun d aL=>⟨h.F _ ⟨Ψ,aL.1⟩ (fun _ _ e=>by cases e),by rw[<-aG.b];exact aL.2.1,by rw[<-aG.e];exact aL.2.2⟩;have mH:∀(d:aT Nat) (p:ae) (bw:List (aC×List ae)) (ew:List (aC×cV)) (κ:aC),∀k,fresh n0 (κ::st.o) k->(∀j∈nw,k≠ .obj j)->(A.do ⟨d,p,bw,ew,some κ⟩).F k:=fun d p bw ew κ k aa aw=>⟨h.F k (sS k aa).1 aw,fun e=>(sS k aa).2 (gq e).symm⟩;have vD:∀(d:aT Nat) (p:ae) (bw:List (aC×List ae)) (ew:List (aC×cV)),∀k,fresh n0 st.o k->(∀j∈nw,k≠ .obj j)->(A.do ⟨d,p,bw,ew,none⟩).F k:=fun d p bw ew k aa aw=>⟨h.F k aa aw,Ψ⟩;have Bs:∀d,d<N->∀k∈aC.loc (n0+d)::st.o,k∈mY\/(∃d,d<N/\k= .loc (n0+d))\/ ∃j∈nw,k= .obj j:=fun d aF k aa=>by
  rcases gp.1 aa with rfl|aa
  ·exact .inr (.inl ⟨d,aF,rfl⟩)
  ·exact h.o k aa
 cases i with
 |s i=>
  cases i with
  |v d i=>
   simp only[iF,ep]at he;cases aM:gz st i with
   |none=>simp[aM]at he
   |some UD=>
    obtain⟨c,p⟩:=UD;simp only[aM]at he;obtain⟨I,J,ao⟩:=he;refine⟨⟨some d,p,[],[],none⟩,_,⟨c,p,by rw[<-SG aG];exact aM,J,fun jV=>?_,rfl⟩,ao,IH aG d p,h.n,vD _ _ _ _,h.o⟩;cases i<;>simp only[fO.isLoad]at jV<;>try(cases jV;done)
    case mget=>exact .inr (.inl I)
    case ment=>exact .inr (.inl I)
    case mlen=>exact .inr (.inl I)
    case loadB=>exact .inl rfl
    case mgetB=>exact .inl rfl
    simp only[kr,fO.loadO,hJ aG]at I;exact .inr (by simpa only[fO.ptrOf]using I)
  |box d key v=>
   cases key with
   |some m=>simp only[iF,ep,kr,false_and]at he
   |none=>simp only[iF,ep,kr,nl]at he;obtain⟨I,J,ao⟩:=he;rw[hJ aG]at J;refine⟨_,_,⟨rI d I,J,rfl⟩,ao,?_,h.n,mH _ _ _ _ _,Bs d (aF d rfl)⟩;rw[hJ aG];exact zp aG d _ _ _ _ _ _
  |alloc d key z=>
   cases key with
   |some m=>simp only[iF,ep,kr,false_and]at he
   |none=>simp only[iF,ep,kr,nl]at he;obtain⟨I,J,ao⟩:=he;exact⟨_,_,⟨rI d I,rfl⟩,ao,zp aG d _ _ _ _ _ _,h.n,mH _ _ _ _ _,Bs d (aF d rfl)⟩
  |store sz u v=>
   simp only[iF,ep]at he;cases hu:bG st.t u with
   |ptr k off=>
    cases ah:look k st.b with
    |none=>simp[hu,ah]at he
    |some cs=>simp only[hu,ah]at he;obtain⟨I,J,ao⟩:=he;rw[hJ aG]at J hu;refine⟨⟨none,.junk,[(k,oB cs off (cells (dj A.t v)))],[],none⟩,_,⟨k,off,cs,hu,by rw[<-aG.b];exact ah,J,rfl⟩,ao,?_,h.n,vD _ _ _ _,h.o⟩;rw[hJ aG];exact Ex aG k _ _
   |_=>
    exfalso;simp only[hu]at he;split at he
    ·have:=he.1;simp[kr,hu]at this
    ·exact he
  |bsl d sz el xs=>simp only[iF,ep,kr,nl]at he;obtain⟨I,J,ao⟩:=he;rw[pC aG]at J;refine⟨_,_,⟨rI d I,J,rfl⟩,ao,?_,h.n,mH _ _ _ _ _,Bs d (aF d rfl)⟩;rw[pC aG];exact o1 aG d _ _ _ _ _ _
  |app d sz el u v=>
   simp only[iF,ep]at he;cases hu:bG st.t u with
   |slice dn tag xs=>
    cases aM:bG st.t v with
    |slice hO gN ys=>
     simp only[hu,aM]at he;by_cases e0:dn=sz/\hO=sz
     ·obtain⟨rfl,rfl⟩:=e0;rw[hJ aG]at hu aM;cases tag with
      |no=>simp at he
      |tr k j=>simp at he
      |lo k=>simp at he
      |nil=>simp only[and_self,if_true,kr,hJ aG,hu,nl]at he;obtain⟨I,J,ao⟩:=he;exact⟨_,_,⟨.nil,xs,gN,ys,hu,aM,.inr ⟨rfl,J,rI d I,rfl⟩⟩,ao,o1 aG d _ _ _ _ _ _,h.n,mH _ _ _ _ _,Bs d (aF d rfl)⟩
      |own k=>
       cases aa:look k st.e with
       |none=>simp[aa]at he
       |some o=>simp only[and_self,if_true,aa]at he;obtain⟨I,J,ao⟩:=he;exact⟨_,_,⟨.own k,xs,gN,ys,hu,aM,.inl ⟨k,o,rfl,by rw[<-aG.e];exact aa,⟨by simpa[kr,hJ aG,hu,aa]using I,J⟩,rfl⟩⟩,ao,o1 aG d _ _ _ _ _ _,h.n,vD _ _ _ _,h.o⟩
     ·simp[e0]at he
    |_=>simp[hu,aM]at he
   |_=>simp[hu]at he
  |bslm d key sz el xs=>
   cases key with
   |none=>simp only[iF,ep,kr,false_and]at he
   |some m=>
    simp only[iF,ep,kr,nl]at he;obtain⟨⟨bL,I,J⟩,aO,ao⟩:=he;rw[aG.b]at I;rw[aG.e]at J;rw[pC aG]at aO;refine⟨_,_,⟨⟨lE m bL I J,I,J⟩,aO,rfl⟩,ao,?_,h.n,mH _ _ _ _ _,fun k aa=>?_⟩
    ·rw[pC aG];exact o1 aG d _ _ _ _ _ _
    rcases gp.1 aa with rfl|aa
    ·exact .inr (.inr ⟨m,bL,rfl⟩)
    ·exact h.o k aa
  |mks d key sz el z x=>simp only[iF,ep,kr,false_and]at he;split at he<;>simp at he
  |apps d el x y=>simp only[iF,ep,kr,false_and]at he;split at he<;>simp at he
  |appm d key sz el u v=>
   cases key with
   |some m=>
    simp only[iF,ep]at he;cases hu:bG st.t u with
    |slice dn tag xs=>
     cases tag with
     |nil=>
      cases aM:bG st.t v with
      |slice hO gN ys=>
       simp only[hu,aM,l3]at he;by_cases e0:dn=sz/\hO=sz
       ·obtain⟨rfl,rfl⟩:=e0;simp only[and_self,if_true,kr,hu,nl]at he;rw[hJ aG]at hu aM;obtain⟨⟨bL,I,J⟩,aO,ao⟩:=he;rw[aG.b]at I;rw[aG.e]at J;refine⟨_,_,.inr ⟨xs,gN,ys,hu,aM,⟨lE m bL I J,I,J⟩,aO,rfl⟩,ao,o1 aG d _ _ _ _ _ _,h.n,mH _ _ _ _ _,fun k aa=>?_⟩;rcases gp.1 aa with rfl|aa
        ·exact .inr (.inr ⟨m,bL,rfl⟩)
        ·exact h.o k aa
       ·simp[e0]at he
      |_=>simp[hu,aM,l3]at he
     |_=>simp[hu,l3]at he
    |row dn k n=>
     cases aM:bG st.t v with
     |slice hO gN ys=>
      simp only[hu,aM,l3]at he;by_cases e0:dn=sz/\hO=sz
      ·obtain⟨rfl,rfl⟩:=e0;rw[hJ aG]at hu aM;simp only[and_self,if_true]at he;cases aa:look k st.e with
       |none=>simp[aa]at he
       |some o=>
        obtain⟨n',eS,tw,B5⟩:=o;cases B5 with
        |none=>simp[aa]at he
        |some xs=>
         simp only[aa]at he;by_cases qw:n'=n/\eS=el/\tw=hO
         ·obtain⟨rfl,rfl,rfl⟩:=qw;simp only[and_self,if_true]at he;obtain⟨I,J,ao⟩:=he;exact⟨_,_,.inl ⟨k,n',xs,gN,ys,hu,aM,by rw[<-aG.e];exact aa,J,rfl⟩,ao,o1 aG d _ _ _ _ _ _,h.n,vD _ _ _ _,h.o⟩
         ·simp[qw]at he
      ·simp[e0]at he
     |_=>simp[hu,aM,l3]at he
    |_=>simp[hu,l3]at he
   |none=>
   simp only[iF,ep]at he;cases hu:bG st.t u with
   |row dn k n=>
    cases aM:bG st.t v with
    |slice hO gN ys=>
     simp only[hu,aM,l3]at he;by_cases e0:dn=sz/\hO=sz
     ·obtain⟨rfl,rfl⟩:=e0;rw[hJ aG]at hu aM;simp only[and_self,if_true]at he;cases aa:look k st.e with
      |none=>simp[aa]at he
      |some o=>
       obtain⟨n',eS,tw,B5⟩:=o;cases B5 with
       |none=>simp[aa]at he
       |some xs=>
        simp only[aa]at he;by_cases qw:n'=n/\eS=el/\tw=hO
        ·obtain⟨rfl,rfl,rfl⟩:=qw;simp only[and_self,if_true]at he;obtain⟨I,J,ao⟩:=he;exact⟨_,_,⟨k,n',xs,gN,ys,hu,aM,by rw[<-aG.e];exact aa,J,rfl⟩,ao,o1 aG d _ _ _ _ _ _,h.n,vD _ _ _ _,h.o⟩
        ·simp[qw]at he
     ·simp[e0]at he
    |_=>simp[hu,aM,l3]at he
   |slice dn tag xs=>
    exfalso;simp only[hu]at he;split at he
    ·have:=he.1;simp[kr,hu]at this
    ·exact he
   |_=>simp[hu,l3]at he
  |storeE sz u v=>
   simp only[iF,ep]at he;cases hu:bG st.t u with
   |rptr dn k n i f=>
    cases aa:look k st.e with
    |none=>simp[hu,qR,aa]at he
    |some o=>
     obtain⟨n',el,tw,B5⟩:=o;cases B5 with
     |none=>simp[hu,qR,aa]at he
     |some xs=>
      simp only[hu,qR,aa]at he;by_cases qw:n'=n/\tw=dn
      ·obtain⟨rfl,rfl⟩:=qw;simp only[and_self,if_true]at he;cases bn:xs[i]? with
       |none=>simp[bn]at he
       |some q=>simp only[bn]at he;obtain⟨I,J,ao⟩:=he;rw[hJ aG]at J hu;refine⟨⟨none,.junk,[],[(k,⟨n',el,tw,some (xs.set i (qN q f (cells (dj A.t v))))⟩)],none⟩,_,⟨k,n',i,f,el,tw,xs,q,hu,by rw[<-aG.e];exact aa,bn,J,rfl⟩,ao,?_,h.n,vD _ _ _ _,h.o⟩;rw[hJ aG];exact P0 aG k _ _
      ·simp[qw]at he
   |_=>simp[hu,qR]at he
  |mkmap d key=>
   cases key with
   |none=>simp only[iF,ep,kr,false_and]at he
   |some m=>
    simp only[iF,ep,kr,nl]at he;obtain⟨⟨bL,I,J⟩,_,ao⟩:=he;rw[aG.b]at I;rw[aG.e]at J;refine⟨_,_,⟨⟨lE m bL I J,I,J⟩,rfl⟩,ao,zp aG d _ _ _ _ _ _,h.n,mH _ _ _ _ _,fun k aa=>?_⟩;rcases gp.1 aa with rfl|aa
    ·exact .inr (.inr ⟨m,bL,rfl⟩)
    ·exact h.o k aa
  |mput bT u k v=>
   simp only[iF,ep,kr]at he;cases hu:bG st.t u with
   |gmap m=>
    cases ah:look m st.b with
    |none=>simp[hu,ah]at he
    |some cs=>
     cases hm:qF bT (bG st.t k) (bG st.t v) cs with
     |none=>simp[hu,ah,hm]at he
     |some cs'=>simp only[hu,ah,hm]at he;rw[hJ aG]at hu;rw[hJ aG,hJ aG]at hm;exact⟨⟨none,.junk,[(m,cs')],[],none⟩,_,⟨m,cs,cs',hu,by rw[<-aG.b];exact ah,hm,rfl⟩,he.2.2,Ex aG m _ _,h.n,vD _ _ _ _,h.o⟩
   |_=>simp[hu]at he
  |range d key x=>simp only[iF,kr,false_and]at he;split at he<;>exact he.elim
 |next d x=>simp only[iF]at he
 |opn d f x=>simp only[iF]at he
 |callb d f=>simp only[iF]at he
 |call d f xs=>
  simp only[iF]at he;cases aL:bG st.t f with
  |func n ds=>
   simp only[aL]at he;rw[hJ aG]at aL;rcases he with⟨fV,r,rfl,cN,c2,c3,c4⟩|⟨s,ai,r,rm,cN,c2,c3,c4,c5,kH,tR,TO,c9⟩
   ·rw[pC aG]at c2 c3;have aK:=h.n;subst aK;refine⟨⟨some fV,r,[],[],some (.loc (st.n+fV))⟩,_,⟨n,ds,aL,.inr ⟨fV,r,rfl,rI fV cN,c2,c3,rfl⟩⟩,c4,P1 aG fV r _ _,rfl,mH _ _ _ _ _,Bs fV (aF fV rfl)⟩
   rw[pC aG]at kH tR;obtain⟨cI,dr,gM,jF,qD⟩:=c5;refine⟨⟨d,r,ai.b,ai.e,rm⟩,_,⟨n,ds,aL,.inl ⟨⟨s,ai,r,rm,fun k cs aa=>⟨by rw[<-aG.b];exact(cN k cs aa).1,(cN k cs aa).2.2⟩,fun k o aa=>⟨by rw[<-aG.e];exact(c2 k o aa).1,(c2 k o aa).2.2⟩,c3,c4,⟨cI,dr,gM,jF,fun k aa=>?_⟩,kH,tR,rfl⟩,TO⟩⟩,c9,⟨fun i=>?_,fun k=>?_,fun k=>?_⟩,h.n,fun k aa aw=>⟨h.F k aa aw,fun rk=>?_⟩,h.o⟩
   ·obtain⟨⟨j,aw,rfl⟩,aJ,bs,ch⟩:=qD k aa;rw[aG.b]at aJ;rw[aG.e]at bs;exact⟨⟨j,rfl⟩,lE j aw aJ bs,aJ,bs,ch⟩
   ·simp only[after,cL.do];cases d with
    |none=>simpa[fk]using aG.t i
    |some d=>simp only[fk,get_put,dZ,aG.t]
   ·simp only[after,cL.do,ib,mo,r0];by_cases aq:(look k s.b).isSome
    ·have:=gM k aq;obtain⟨y,bA⟩:=e5.1 this;simp[aq,bA]
    ·cases aK:look k ai.b with
     |none=>simp only[aq,aG.b];cases A.b k<;>simp
     |some y=>
      rcases cI k (by simp[aK])with h|h
      ·exact absurd h aq
      ·have:=qD k h;simp[aq,this]
   ·simp only[after,cL.do,ib,mo,r0];by_cases aq:(look k s.e).isSome
    ·have:=jF k aq;obtain⟨y,bA⟩:=e5.1 this;simp[aq,bA]
    ·cases aK:look k ai.e with
     |none=>simp only[aq,aG.e];cases A.e k<;>simp
     |some y=>
      rcases dr k (by simp[aK])with h|h
      ·exact absurd h aq
      ·have:=qD k h;simp[aq,this]
   ·obtain⟨⟨j,ld,rfl⟩,_⟩:=qD k rk;exact aw j ld rfl
  |_=>simp[aL]at he
def vp(N:Nat):List cy->Bool
 |[]=>true
 |g::r=>hi N g.i.dst&&vp N r
def u7:Nat->List cy->List (Nat×cy)
 |_,[]=>[]
 |k,g::r=>(k,g)::u7 (k+1) r
theorem Le{nw:List Nat}{n0 N:Nat}{mY:List aC}{st:aS}{A:cL}(h:qc nw n0 N mY st A){s:Nat}{p:ae}(aq:get s st.t=p):qc nw n0 N mY {st with t:=put s p st.t} A:=by
 refine⟨⟨fun i=>?_,h.like.b,h.like.e⟩,h.n,h.F,h.o⟩;simp only[get_put];split
 ·rename_i e;subst e;rw[<-aq];exact h.like.t _
 ·exact h.like.t i
theorem Lf{nw:List Nat}{n0 N:Nat}{mY:List aC}{st:aS}{A:cL}(h:qc nw n0 N mY st A)(d:aT Nat):qc nw n0 N mY {st with t:=fk d (.tuple []) st.t} (A.do (kZ d)):=by
 refine⟨⟨fun i=>?_,fun k=>?_,fun k=>?_⟩,h.n,fun k aa aw=>⟨h.F k aa aw,by simp[kZ]⟩,h.o⟩
 ·simp only[cL.do,kZ];cases d with
  |none=>simpa[fk]using h.like.t i
  |some d=>simp only[fk,get_put,dZ,h.like.t]
 ·simpa[cL.do,ib,look,kZ]using h.like.b k
 ·simpa[cL.do,ib,look,kZ]using h.like.e k
theorem yL{P:bK}{q:Bool}{nw:List Nat}{n0 N:Nat}{mY:List aC}{K:aS->Prop}:∀(gs:List cy) (k:Nat),vp N gs=true->∀(st:aS) (A:cL),qc nw n0 N mY st A->Ak nw A->gO P q nw n0 gs st K->sL P q n0 (fun A'=> ∃st',K st'/\qc nw n0 N mY st' A') (u7 k gs) A
 |[],k,_,st,A,h,_,he=>⟨st,he,h⟩
 |⟨kt,i⟩::r,k,aF,st,A,h,lE,he=>by
  simp only[vp,bM]at aF;have fL:∀d,i.dst=some d->d<N:=fun d e=>by have:=aF.1;rw[e]at this;simpa[hi]using this
  simp only[u7,sL];cases kt with
  |none=>simp only[gO]at he;obtain⟨x,st',I,J,ao⟩:=MW fL h lE he;have aR:km P q n0 ⟨none,i⟩ A x:=I;exact⟨x,aR,yL r (k+1) aF.2 st' _ ao (lE.do aR) J⟩
  |some ya=>
   obtain⟨s,want⟩:=ya;simp only[gO]at he;split at he
   ·rename_i b ah;by_cases e:b=want
    ·subst e;obtain⟨x,st',I,J,ao⟩:=MW fL (Le h ah) lE (he.1 rfl);have aR:km P q n0 ⟨some (s,b),i⟩ A x:=by unfold km;simp only[<-h.like.t,ah];exact .inl ⟨trivial,I⟩
     exact⟨x,aR,yL r (k+1) aF.2 st' _ ao (lE.do aR) J⟩
    ·have eT:b= !want:=by cases b<;>cases want<;>simp at e⊢
     subst eT;have aR:km P q n0 ⟨some (s,want),i⟩ A (kZ i.dst):=by unfold km;simp only[<-h.like.t,ah];exact .inr ⟨trivial,trivial⟩
     exact⟨kZ i.dst,aR,yL r (k+1) aF.2 _ _ (Lf (Le h ah) i.dst) (lE.do aR) (he.2 rfl)⟩
   ·rename_i ah;have aR:km P q n0 ⟨some (s,want),i⟩ A (kZ i.dst):=by unfold km;simp only[<-h.like.t,ah]
    exact⟨kZ i.dst,aR,yL r (k+1) aF.2 _ _ (Lf h i.dst) (lE.do aR) he⟩
   ·exact he.elim
theorem Cj:∀(gs:List cy) (l:Array Bool) (k:Nat),(∀j,l.getD j false=false)->rem l k gs=u7 k gs
 |[],_,_,_=>rfl
 |g::r,l,k,h=>by simp only[rem,h k,u7,Cj r l (k+1) h];simp
def oH(n:Nat)(o:List aC)(K:aS->Prop)(st:aS):Prop:=K {st with n:=n,o:=o}
theorem Good.like{pr:Nat->Prop}{w:World}{ν:aP}{b fY:List (aC×List ae)}{e gr:List (aC×cV)}(h:Good pr w ν b e)(ah:∀k,look k fY=look k b)(he:∀k,look k gr=look k e):Good pr w ν fY gr:=
 ⟨h.alt,fun k cs aa=>h.box k cs (by rw[<-ah];exact aa),fun k bb bl I J=>h.inj k bb bl (by rw[<-ah];exact I) (by rw[<-ah];exact J),fun g o aR=>h.own g o (by rw[<-he];exact aR),
  fun g eM n n' v v' bl I J=>h.oinj g eM n n' v v' bl (by rw[<-he];exact I) (by rw[<-he];exact J),fun g k n v bl I J=>h.obx g k n v bl (by rw[<-he];exact I) (by rw[<-ah];exact J),h.one,
  fun bl aD=>h.otr bl (aD.imp (fun⟨k,bB,a2⟩=>⟨k,by rw[<-ah];exact bB,a2⟩) (fun⟨g,n,v,bB,a2⟩=>⟨g,n,v,by rw[<-he];exact bB,a2⟩))⟩
theorem MY{P:bK}(hm:P.follows .mixedOrders=true){aZ:List (Nat×cJ)}(aD:ez P aZ=true){C:ek}{q:Bool}{nw:List Nat}{id:Nat}{ops:Array Oper}{gs:List cy}(gg:ic C.N aZ ops.toList gs ops.toList=true)(DO:Ay gs ops.toList=true)(gP:vp C.N gs=true)
  {K:aS->Prop} {Q:Exit->Act->World->Prop} (jb:∀st' bU w' ν',K st'->bX C st' bU w' ν'->Q .normal bU w') {st:aS} {a:Act} {w:World} {ν:aP} (HJ:∀j∈nw,.obj j∉st.o) (he:gO P q nw st.n gs st (oH (st.n+C.N) (nw.map aC.obj++st.o) K)) (hr:bX C st a w ν):(Code.region id ops true).wp P Q a w:=by
 refine wp_region_any hm ?_;have bW:bX C st a {w with drawn:=w.drawn+1} ν:=hr.drawn _;let A:cL:=⟨fun i=>get i st.t,fun k=>look k st.b,fun k=>look k st.e,fresh st.n st.o⟩
 have hT:qc nw st.n C.N st.o st A:=⟨⟨fun _=>rfl,fun _=>rfl,fun _=>rfl⟩,rfl,fun k aa _=>aa,fun k aa=>.inl aa⟩;have jf:=yL gs 0 gP st A hT (fun j aw _ _=>⟨trivial,HJ j aw⟩) he;have jh:∀j,(p8 ops.size false).getD j false=false:=fun j=>by simp[oC,Array.getElem?_replicate];split<;>rfl
 refine Ty aD gg DO (q:=q) (n0:=st.n) (K:=fun A'=> ∃st',oH (st.n+C.N) (nw.map aC.obj++st.o) K st'/\qc nw st.n C.N st.o st' A') ?_ ops.size _ A a _ Ψ ?_ ?_ (by rw[Cj gs _ 0 jh];exact jf) ⟨st,ν,hT.like,fun k aa=>aa,bW⟩
 ·rintro A' bU w' ⟨st',aa,bF⟩ ⟨adp,ν',hl,Hf,jX⟩;refine jb _ bU w' ν' aa ⟨jX.good.like (fun k=>by rw[hl.b,<-bF.like.b]) (fun k=>by rw[hl.e,<-bF.like.e]),jX.fr,jX.defers,jX.size,fun i=>?_,fun k pH=>?_,jX.ext,fun m hm aL=>bW.obk m hm (qu (Nat.le_add_right _ _) (fun _ h=>j3 _ h) aL)⟩
  ·have:=jX.slot i;rw[hl.t,<-bF.like.t]at this;exact this
  ·refine jX.new k (Hf k (bF.F k ?_ fun j aw e=>pH.2 (by subst e;exact lY _ (List.mem_map_of_mem aw))));simp only at pH;refine⟨(qu (Nat.le_add_right st.n C.N) (fun _ h=>h) pH).1,fun jg=>?_⟩;rcases bF.o k jg with h|⟨d,aF,rfl⟩|⟨j,aw,rfl⟩;rotate_left 2
   ·exact pH.2 (lY _ (List.mem_map_of_mem aw))
   ·exact pH.2 (j3 _ h)
   ·have:=pH.1;simp at this;omega
 ·intro k o aa aG;rw[jh]at aG;cases aG
 ·rw[Cj gs _ 0 jh];have:∀(gs:List cy) k,(u7 k gs).length=gs.length:=by
   intro gs;induction gs with
   |nil=>intro k;rfl
   |cons g r bo=>intro k;simp[u7,bo]
  rw[this];have:=A1 gg;simp at this;omega
mutual
def tn:ae->List (aC×Nat)
 | .slice _ tag _=>match tag with| .tr k i=>[(k,i)]|_=>[]
 | .agg cs=>tnL cs
 |_=>[]
def tnL:List ae->List (aC×Nat)
 |[]=>[]
 |x::xs=>tn x++tnL xs
end
mutual
def dU:ae->Prop
 | .int _ _=>True
 | .bool _=>True
 | .str _=>True
 | .slice _ tag xs=>match tag with| .tr k _=>k≠dv|_=>xs=[]
 | .agg cs=>ey cs
 |_=>cZ
def ey:List ae->Prop
 |[]=>True
 |x::xs=>dU x/\ey xs
end
def ka(ν:aP)(l:List (aC×Nat))(b:Nat):Prop:= ∃k i,(k,i)∈l/\ν.tr k i b
theorem zv{ν:aP}{l c6:List (aC×Nat)}(h:∀x∈l,x∈c6)(b:Nat)(ah:ka ν l b):ka ν c6 b:=by obtain⟨k,i,I,J⟩:=ah;exact⟨k,i,h _ I,J⟩
theorem I9{ν:aP}(fo:∀k j bb eo b,ν.tr k j b->ν.tr bb eo b->k=bb/\j=eo){l c6:List (aC×Nat)}(h:(l++c6).Nodup)(b:Nat)(I:ka ν l b):¬ka ν c6 b:=by rintro⟨bb,kS,ao,aO⟩;obtain⟨k,i,I,J⟩:=I;obtain⟨rfl,rfl⟩:=fo k i bb kS b J aO;rw[qb]at h;exact h.2.2 _ I _ ao rfl
mutual
theorem ES{w:World}{ν:aP}(fo:∀k j bb eo b,ν.tr k j b->ν.tr bb eo b->k=bb/\j=eo):∀(p:ae) (v:Value),aH w ν p v->dU p->(tn p).Nodup->ca true w ν.A (ka ν (tn p)) (bC p) v
 | .int k n,v,h,_,_=>by simpa only[aH,bC,ca]using h
 | .bool b,v,h,_,_=>by simpa only[aH,bC,ca]using h
 | .str s,v,h,_,_=>by simpa only[aH,bC,ca]using h
 | .slice sz tag xs,v,h,ak,_=>by
  simp only[aH]at h;obtain⟨⟨a,cap,I,J,ao,aO⟩,_,_,gB,_⟩:=h;by_cases aD:∃k i,tag= .tr k i
  ·obtain⟨k,i,rfl⟩:=aD;refine DF _ _ v (sT (fun _ _ h=>⟨h,rfl⟩) (fun _ _ _=>rfl) _ _ _ v (fun b ah=>?_) (gB k i rfl));exact⟨k,i,by simp[tn],ah⟩
  ·have af:xs=[]:=by
    simp only[dU]at ak;split at ak
    ·exact absurd ⟨_,_,rfl⟩ aD
    ·exact ak
   subst af;simp only[bC,bz,ca];exact⟨a,cap,I,J,ao,.inl trivial⟩
 | .agg cs,v,h,ak,aK=>by simp only[aH,dU,tn,bC,ca]at h ak aK⊢;obtain⟨us,I,J⟩:=h;exact⟨us,I,Qz fo cs _ J ak aK⟩
 | .junk,_,_,ak,_=>by simp[dU]at ak
 | .ptr _ _,_,_,ak,_=>by simp[dU]at ak
 | .eptr _,_,_,ak,_=>by simp[dU]at ak
 | .iface _ _,_,_,ak,_=>by simp[dU]at ak
 | .nilp,_,_,ak,_=>by simp[dU]at ak
 | .tuple _,_,_,ak,_=>by simp[dU]at ak
 | .func _ _,_,_,ak,_=>by simp[dU]at ak
 | .gmap _,_,_,ak,_=>by simp[dU]at ak
 | .row _ _ _,_,_,ak,_=>by simp[dU]at ak
 | .rptr _ _ _ _ _,_,_,ak,_=>by simp[dU]at ak
 | .hdm _ _,_,_,ak,_=>by simp[dU]at ak
 | .hdi _ _ _,_,_,ak,_=>by simp[dU]at ak
 | .cst _,_,_,ak,_=>by simp[dU]at ak
theorem Qz{w:World}{ν:aP}(fo:∀k j bb eo b,ν.tr k j b->ν.tr bb eo b->k=bb/\j=eo):∀(cs:List ae) (us:List Value),cl w ν cs us->ey cs->(tnL cs).Nodup->jA true w ν.A (ka ν (tnL cs)) (bz cs) us
 |[],us,h,_,_=>by simpa only[cl,bz,jA]using h
 |c::cs,us,h,ak,aK=>by simp only[cl,ey,tnL,bz,jA]at h ak aK⊢;obtain⟨u,br,I,⟨J,ao⟩,aO⟩:=h;have gK:=qb.1 aK;exact⟨u,br,ka ν (tn c),ka ν (tnL cs),I,⟨zv (fun x af=>lY _ af),zv (fun x af=>j3 _ af),fun _ b ah=>I9 fo aK b ah⟩,⟨ES fo c u J ak.1 gK.1,ao⟩,Qz fo cs br aO ak.2 gK.2.1⟩
end
theorem Jk{w:World}{ν:aP}(fo:∀k j bb eo b,ν.tr k j b->ν.tr bb eo b->k=bb/\j=eo){sz:Nat}:∀(cs:List ae) (us:List Value),cC w ν sz cs us->ey cs->(tnL cs).Nodup->iG true w ν.A (ka ν (tnL cs)) sz (bz cs) us
 |[],us,h,_,_=>by simpa only[cC,bz,iG]using h
 |c::cs,us,h,ak,aK=>by simp only[cC,ey,tnL,bz,iG]at h ak aK⊢;obtain⟨u,br,I,⟨J,ao⟩,aO⟩:=h;have gK:=qb.1 aK;exact⟨u,br,ka ν (tn c),ka ν (tnL cs),I,⟨zv (fun x af=>lY _ af),zv (fun x af=>j3 _ af),fun _ b ah=>I9 fo aK b ah⟩,⟨ES fo c u J ak.1 gK.1,ao⟩,Jk fo cs br aO ak.2 gK.2.1⟩
mutual
theorem DE{t:Bool}{w:World}{A:Nat->Nat->Prop}{ν:aP}(aW:∀b o,A b o->ν.A b o):∀(p:ae) (F:Nat->Prop) (v:Value),ca t w A F p v->aH w ν (bC p) v
 | .int k n,_,_,h=>by simpa only[aH,bC,ca]using h
 | .bool b,_,_,h=>by simpa only[aH,bC,ca]using h
 | .str s,_,_,h=>by simpa only[aH,bC,ca]using h
 | .slice sz tag xs,F,v,h=>by
  simp only[ca,bC,aH]at h⊢;obtain⟨a,cap,I,J,ao,aO⟩:=h;refine⟨⟨a,cap,by rw[lT];exact I,by rw[lT];exact J,by rw[lT];exact ao,?_⟩,fun e=>(by cases e),fun g e=>(by cases e),fun _ _ e=>(by cases e),fun _ e=>(by cases e)⟩;rcases aO with rfl|⟨b,off,us,G,aj,_,_,ch,_,dd⟩
  ·exact .inl rfl
  ·exact .inr ⟨b,off,us,aj,v7 (fun b o h=>⟨aW b o h,rfl⟩) _ _ ch,Nv aW xs G us dd⟩
 | .agg cs,F,v,h=>by simp only[ca,bC,aH]at h⊢;obtain⟨us,I,J⟩:=h;exact⟨us,I,Nx aW cs F _ J⟩
 | .junk,_,_,h=>by simp[ca]at h
 | .ptr _ _,_,_,h=>by simp[ca]at h
 | .eptr _,_,_,h=>by simp[ca]at h
 | .iface _ _,_,_,h=>by simp[ca]at h
 | .nilp,_,_,h=>by simp[ca]at h
 | .tuple _,_,_,h=>by simp[ca]at h
 | .func _ _,_,_,h=>by simp[ca]at h
 | .gmap _,_,_,h=>by simp[ca]at h
 | .row _ _ _,_,_,h=>by simp[ca]at h
 | .rptr _ _ _ _ _,_,_,h=>by simp[ca]at h
 | .hdm _ _,_,_,h=>by simp[ca]at h
 | .hdi _ _ _,_,_,h=>by simp[ca]at h
 | .cst _,_,_,h=>by simp[ca]at h
theorem Nx{t:Bool}{w:World}{A:Nat->Nat->Prop}{ν:aP}(aW:∀b o,A b o->ν.A b o):∀(cs:List ae) (F:Nat->Prop) (us:List Value),jA t w A F cs us->cl w ν (bz cs) us
 |[],_,_,h=>by simpa only[jA,bz,cl]using h
 |c::cs,F,us,h=>by simp only[jA,bz,cl]at h⊢;obtain⟨u,br,fR,fS,I,_,⟨bp,cj⟩,eu⟩:=h;exact⟨u,br,I,⟨DE aW c fR u bp,cj⟩,Nx aW cs fS br eu⟩
theorem Nv{t:Bool}{w:World}{A:Nat->Nat->Prop}{ν:aP}(aW:∀b o,A b o->ν.A b o){sz:Nat}:∀(cs:List ae) (F:Nat->Prop) (us:List Value),iG t w A F sz cs us->cC w ν sz (bz cs) us
 |[],_,_,h=>by simpa only[iG,bz,cC]using h
 |c::cs,F,us,h=>by simp only[iG,bz,cC]at h⊢;obtain⟨u,br,fR,fS,I,_,⟨bp,cj⟩,eu⟩:=h;exact⟨u,br,I,⟨DE aW c fR u bp,cj⟩,Nv aW cs fS br eu⟩
end
mutual
theorem Kb:∀p:ae,bC (bC p)=bC p
 | .slice _ _ xs=>by simp[bC,sg xs]
 | .agg cs=>by simp[bC,sg cs]
 | .tuple vs=>by simp[bC,sg vs]
 | .eptr x=>by simp[bC,Kb x]
 | .iface t x=>by simp[bC,Kb x]
 | .func f ds=>by simp[bC,sg ds]
 | .junk=>rfl
 | .int _ _=>rfl
 | .bool _=>rfl
 | .str _=>rfl
 | .ptr _ _=>rfl
 | .nilp=>rfl
 | .gmap _=>rfl
 | .row _ _ _=>rfl
 | .rptr _ _ _ _ _=>rfl
 | .hdm _ _=>rfl
 | .hdi _ _ _=>rfl
 | .cst _=>rfl
theorem sg:∀xs:List ae,bz (bz xs)=bz xs
 |[]=>rfl
 |x::xs=>by simp[bz,Kb x,sg xs]
end
mutual
def bY:ae->List aC
 | .slice _ tag _=>match tag with| .own k=>[k]|_=>[]
 | .row _ k _=>[k]
 | .agg cs=>dt cs
 | .tuple cs=>dt cs
 |_=>[]
def dt:List ae->List aC
 |[]=>[]
 |x::xs=>bY x++dt xs
end
def uW(e:List (aC×cV))(k:aC):List ae:=((look k e).bind (·.xs)).getD []
mutual
def cp(e:List (aC×cV)):ae->List (aC×Nat)
 | .slice _ tag xs=>match tag with| .tr k i=>[(k,i)]| .own _=>tnL xs|_=>[]
 | .row _ k _=>tnL (uW e k)
 | .agg cs=>dx e cs
 | .tuple cs=>dx e cs
 |_=>[]
def dx(e:List (aC×cV)):List ae->List (aC×Nat)
 |[]=>[]
 |x::xs=>cp e x++dx e xs
end
mutual
def cH(e:List (aC×cV)):ae->Prop
 | .int _ _=>True
 | .bool _=>True
 | .str _=>True
 | .slice sz tag xs=>match tag with| .tr k _=>k≠dv| .own k=>True/\(∃el,look k e=some ⟨xs.length,el,sz,none⟩)/\ey xs/\0<sz|_=>xs=[]
 | .row sz k n=>True/\(∃xs el,look k e=some ⟨n,el,sz,some xs⟩/\ey xs)/\0<sz
 | .agg cs=>dV e cs
 | .tuple cs=>dV e cs
 |_=>cZ
def dV(e:List (aC×cV)):List ae->Prop
 |[]=>True
 |x::xs=>cH e x/\dV e xs
end
mutual
def ea:ae->Nat
 | .slice _ _ _=>1
 | .row _ _ _=>1
 | .agg cs=>eP cs
 | .tuple cs=>eP cs
 |_=>0
def eP:List ae->Nat
 |[]=>0
 |x::xs=>ea x+eP xs
end
mutual
def fold(κ:Nat)(e:List (aC×cV)):Nat->ae->ae
 |j,.slice sz _ xs=>.slice sz (.tr (.loc κ) j) (bz xs)
 |j,.row sz k _=>.slice sz (.tr (.loc κ) j) (bz (uW e k))
 |j,.agg cs=>.agg (eb κ e j cs)
 |j,.tuple cs=>.tuple (eb κ e j cs)
 |_,p=>p
def eb(κ:Nat)(e:List (aC×cV)):Nat->List ae->List ae
 |_,[]=>[]
 |j,x::xs=>fold κ e j x::eb κ e (j+ea x) xs
end
def kd(ν:aP)(k:aC)(b:Nat):Prop:= ∃n v,ν.ow k=some (n,v)/\v.ownBlock=some b
mutual
def e1(ν:aP)(R:Nat->Prop)(e:List (aC×cV)):ae->List (Nat->Prop)
 | .slice _ tag xs=>match tag with| .tr k i=>[fun b=>ν.tr k i b/\¬R b]| .own k=>[fun b=>kd ν k b\/(ka ν (tnL xs) b/\¬R b)]|_=>[fun _=>cZ]
 | .row _ k _=>[fun b=>kd ν k b\/(ka ν (tnL (uW e k)) b/\¬R b)]
 | .agg cs=>nE ν R e cs
 | .tuple cs=>nE ν R e cs
 |_=>[]
def nE(ν:aP)(R:Nat->Prop)(e:List (aC×cV)):List ae->List (Nat->Prop)
 |[]=>[]
 |x::xs=>e1 ν R e x++nE ν R e xs
end
mutual
theorem x8(ν:aP)(R:Nat->Prop)(e:List (aC×cV)):∀p,(e1 ν R e p).length=ea p
 | .slice _ tag _=>by cases tag<;>simp[e1,ea]
 | .row _ k _=>by simp[e1,ea]
 | .agg cs=>by simp[e1,ea,J7 ν R e cs]
 | .tuple cs=>by simp[e1,ea,J7 ν R e cs]
 | .int _ _=>rfl
 | .bool _=>rfl
 | .str _=>rfl
 | .junk=>rfl
 | .ptr _ _=>rfl
 | .eptr _=>rfl
 | .iface _ _=>rfl
 | .nilp=>rfl
 | .func _ _=>rfl
 | .gmap _=>rfl
 | .rptr _ _ _ _ _=>rfl
 | .hdm _ _=>rfl
 | .hdi _ _ _=>rfl
 | .cst _=>rfl
theorem J7(ν:aP)(R:Nat->Prop)(e:List (aC×cV)):∀p,(nE ν R e p).length=eP p
 |[]=>rfl
 |x::xs=>by simp[nE,eP,x8 ν R e x,J7 ν R e xs]
end
def DB(ν:aP)(R:Nat->Prop)(ns:List (aC×Nat))(rw:List aC)(b:Nat):Prop:=(∃k∈rw,kd ν k b)\/(ka ν ns b/\¬R b)
mutual
theorem zZ{ν:aP}{R:Nat->Prop}{e:List (aC×cV)}:∀(p:ae) (i:Nat) (S:Nat->Prop),(e1 ν R e p)[i]? =some S->∀b,S b->DB ν R (cp e p) (bY p) b
 | .slice _ tag _,i,S,h,b,ah=>by
  cases tag<;>(simp only[e1]at h;cases i<;>simp at h;subst h);all_goals first|exact ah.elim|skip
  ·rcases ah with ah|ah
   ·exact .inl ⟨_,by simp[bY],ah⟩
   ·exact .inr (by simpa only[cp]using ah)
  ·exact .inr ⟨⟨_,_,by simp[cp],ah.1⟩,ah.2⟩
 | .row _ k _,i,S,h,b,ah=>by
  simp only[e1]at h;cases i<;>simp at h;subst h;rcases ah with ah|ah
  ·exact .inl ⟨k,by simp[bY],ah⟩
  ·exact .inr (by simpa only[cp]using ah)
 | .agg cs,i,S,h,b,ah=>by simp only[e1,cp,bY]at h⊢;exact Cx cs i S h b ah
 | .tuple cs,i,S,h,b,ah=>by simp only[e1,cp,bY]at h⊢;exact Cx cs i S h b ah
 | .int _ _,_,_,h,_,_=>by simp[e1]at h
 | .bool _,_,_,h,_,_=>by simp[e1]at h
 | .str _,_,_,h,_,_=>by simp[e1]at h
 | .junk,_,_,h,_,_=>by simp[e1]at h
 | .ptr _ _,_,_,h,_,_=>by simp[e1]at h
 | .eptr _,_,_,h,_,_=>by simp[e1]at h
 | .iface _ _,_,_,h,_,_=>by simp[e1]at h
 | .nilp,_,_,h,_,_=>by simp[e1]at h
 | .func _ _,_,_,h,_,_=>by simp[e1]at h
 | .gmap _,_,_,h,_,_=>by simp[e1]at h
 | .rptr _ _ _ _ _,_,_,h,_,_=>by simp[e1]at h
 | .hdm _ _,_,_,h,_,_=>by simp[e1]at h
 | .hdi _ _ _,_,_,h,_,_=>by simp[e1]at h
 | .cst _,_,_,h,_,_=>by simp[e1]at h
theorem Cx{ν:aP}{R:Nat->Prop}{e:List (aC×cV)}:∀(p:List ae) (i:Nat) (S:Nat->Prop),(nE ν R e p)[i]? =some S->∀b,S b->DB ν R (dx e p) (dt p) b
 |[],i,S,h,b,ah=>by simp[nE]at h
 |x::xs,i,S,h,b,ah=>by
  simp only[nE]at h;simp only[dx,dt];by_cases az:i<(e1 ν R e x).length
  ·rw[qa az]at h;rcases zZ x i S h b ah with⟨k,I,J⟩|⟨I,J⟩
   ·exact .inl ⟨k,lY _ I,J⟩
   ·exact .inr ⟨zv (fun _ h=>lY _ h) b I,J⟩
  ·rw[List.getElem?_append_right Ω]at h;rcases Cx xs _ S h b ah with⟨k,I,J⟩|⟨I,J⟩
   ·exact .inl ⟨k,j3 _ I,J⟩
   ·exact .inr ⟨zv (fun _ h=>j3 _ h) b I,J⟩
end
structure ym (ν:aP) (R:Nat->Prop) (rw:List aC):Prop where
 trd:∀k j bb eo b,ν.tr k j b->ν.tr bb eo b->k=bb/\j=eo
 inj:∀k bb b,k∈rw->bb∈rw->kd ν k b->kd ν bb b->k=bb
 R:∀k b,k∈rw->kd ν k b->R b
theorem Nt{ν:aP}{R:Nat->Prop}{rw:List aC}(he:ym ν R rw){gy fx:List (aC×Nat)}{ff eW:List aC}(aK:(gy++fx).Nodup)(hr:(ff++eW).Nodup)(I:∀k∈ff,k∈rw)(J:∀k∈eW,k∈rw)(b:Nat)(ah:DB ν R gy ff b):¬DB ν R fx eW b:=by
 rintro eT;rcases ah with⟨k,cI,dr⟩|⟨cI,dr⟩<;>rcases eT with⟨bb,fc,cv⟩|⟨fc,cv⟩
 ·have:=he.inj k bb b (I k cI) (J bb fc) dr cv;subst this;exact(qb.1 hr).2.2 _ cI _ fc rfl
 ·exact cv (he.R k b (I k cI) dr)
 ·exact dr (he.R bb b (J bb fc) cv)
 ·exact I9 he.trd aK b cI fc
mutual
theorem J8{ν:aP}{R:Nat->Prop}{rw:List aC}(he:ym ν R rw){e:List (aC×cV)}:∀(p:ae),(cp e p).Nodup->(bY p).Nodup->(∀k∈bY p,k∈rw)->∀(i kS:Nat) (S ko:Nat->Prop),(e1 ν R e p)[i]? =some S->(e1 ν R e p)[kS]? =some ko->∀b,S b->ko b->i=kS
 | .slice sz tag xs,_,_,_,i,kS,S,ko,h,cu,b,_,_=>by have aG:(e1 ν R e (.slice sz tag xs)).length=1:=x8 ν R e _;have:=(e3.1 h).1;have:=(e3.1 cu).1;omega
 | .row sz k n,_,_,_,i,kS,S,ko,h,cu,b,_,_=>by have aG:(e1 ν R e (.row sz k n)).length=1:=x8 ν R e _;have:=(e3.1 h).1;have:=(e3.1 cu).1;omega
 | .agg cs,aK,hr,aa,i,kS,S,ko,h,cu,b,ah,eT=>by simp only[e1,cp,bY]at h cu aK hr aa;exact J6 he cs aK hr aa i kS S ko h cu b ah eT
 | .tuple cs,aK,hr,aa,i,kS,S,ko,h,cu,b,ah,eT=>by simp only[e1,cp,bY]at h cu aK hr aa;exact J6 he cs aK hr aa i kS S ko h cu b ah eT
 | .int _ _,_,_,_,_,_,_,_,h,_,_,_,_=>by simp[e1]at h
 | .bool _,_,_,_,_,_,_,_,h,_,_,_,_=>by simp[e1]at h
 | .str _,_,_,_,_,_,_,_,h,_,_,_,_=>by simp[e1]at h
 | .junk,_,_,_,_,_,_,_,h,_,_,_,_=>by simp[e1]at h
 | .ptr _ _,_,_,_,_,_,_,_,h,_,_,_,_=>by simp[e1]at h
 | .eptr _,_,_,_,_,_,_,_,h,_,_,_,_=>by simp[e1]at h
 | .iface _ _,_,_,_,_,_,_,_,h,_,_,_,_=>by simp[e1]at h
 | .nilp,_,_,_,_,_,_,_,h,_,_,_,_=>by simp[e1]at h
 | .func _ _,_,_,_,_,_,_,_,h,_,_,_,_=>by simp[e1]at h
 | .gmap _,_,_,_,_,_,_,_,h,_,_,_,_=>by simp[e1]at h
 | .rptr _ _ _ _ _,_,_,_,_,_,_,_,h,_,_,_,_=>by simp[e1]at h
 | .hdm _ _,_,_,_,_,_,_,_,h,_,_,_,_=>by simp[e1]at h
 | .hdi _ _ _,_,_,_,_,_,_,_,h,_,_,_,_=>by simp[e1]at h
 | .cst _,_,_,_,_,_,_,_,h,_,_,_,_=>by simp[e1]at h
theorem J6{ν:aP}{R:Nat->Prop}{rw:List aC}(he:ym ν R rw){e:List (aC×cV)}:∀(p:List ae),(dx e p).Nodup->(dt p).Nodup->(∀k∈dt p,k∈rw)->∀(i kS:Nat) (S ko:Nat->Prop),(nE ν R e p)[i]? =some S->(nE ν R e p)[kS]? =some ko->∀b,S b->ko b->i=kS
 |[],_,_,_,i,kS,S,ko,h,_,_,_,_=>by simp[nE]at h
 |x::xs,aK,hr,aa,i,kS,S,ko,h,cu,b,ah,eT=>by
  simp only[nE]at h cu;simp only[dx]at aK;simp only[dt]at hr aa;have cI:∀k∈bY x,k∈rw:=fun k bI=>aa k (lY _ bI);have dr:∀k∈dt xs,k∈rw:=fun k bI=>aa k (j3 _ bI);by_cases az:i<(e1 ν R e x).length<;>by_cases uk:kS<(e1 ν R e x).length
  ·rw[qa az]at h;rw[qa uk]at cu;exact J8 he x (qb.1 aK).1 (qb.1 hr).1 cI i kS S ko h cu b ah eT
  ·rw[qa az]at h;rw[List.getElem?_append_right Ω]at cu;exact absurd (Cx xs _ ko cu b eT) (Nt he aK hr cI dr b (zZ x i S h b ah))
  ·rw[List.getElem?_append_right Ω]at h;rw[qa uk]at cu;exact absurd (Cx xs _ S h b ah) (Nt he aK hr cI dr b (zZ x kS ko cu b eT))
  ·rw[List.getElem?_append_right Ω]at h cu;have:=J6 he xs (qb.1 aK).2.1 (qb.1 hr).2.1 dr _ _ S ko h cu b ah eT;omega
end
end
section
open Go Go.RowKit
theorem FH{w:World}{μ:aP}{k:aC}{j sz:Nat}{tag:h9}{ys:List ae}{v:Value}(h:ca true w μ.A (μ.tr k j) (.slice sz tag ys) v)(bA:bz ys=ys):aH w μ (.slice sz (.tr k j) ys) v:=by have I:=DE (ν:=μ) (fun _ _ h=>h) _ _ _ h;simp only[bC,bA]at I;simp only[aH]at I⊢;refine⟨I.1,fun e=>(by cases e),fun _ e=>(by cases e),fun bb eo e=>?_,fun _ e=>(by cases e)⟩;cases e;simp only[ca]at h⊢;exact h
section
variable {pr:Nat->Prop} {w:World} {ν μ:aP} {B:List (aC×List ae)} {e:List (aC×cV)} {R:Nat->Prop} {rw:List aC} {κ:Nat}
 (aR:Good pr w ν B e) (he:ym ν R rw) (bu:∀b,R b->∀k j,¬ν.tr k j b) (A5:∀b o,ν.A b o->μ.A b o) (N6:∀k∈rw,∀own,look k e=some own->∀b,kd ν k b->∀o,o<own.n*own.sz->μ.A b o)
include aR he bu A5 N6
mutual
theorem DA:∀(p:ae) (v:Value) (j:Nat),aH w ν p v->cH e p->(cp e p).Nodup->(∀k∈bY p,k∈rw)->(∀i S,(e1 ν R e p)[i]? =some S->∀b,S b->μ.tr (.loc κ) (j+i) b)->aH w μ (fold κ e j p) v
 | .int k n,v,_,h,_,_,_,_=>by simpa only[aH,fold]using h
 | .bool b,v,_,h,_,_,_,_=>by simpa only[aH,fold]using h
 | .str s,v,_,h,_,_,_,_=>by simpa only[aH,fold]using h
 | .slice sz tag xs,v,j,h,ak,aK,aa,aq=>by
  simp only[aH]at h;obtain⟨⟨a,cap,I,J,ao,aO⟩,_,eu,gB,_⟩:=h;simp only[fold];refine FH (tag:= .no) ?_ (sg xs);by_cases aD:∃k i,tag= .tr k i
  ·obtain⟨k,i,rfl⟩:=aD;have aL:=AY .no v (gB k i rfl);refine sT (fun b o h=>⟨A5 b o h,rfl⟩) (fun _ _ _=>rfl) _ _ _ v (fun b ah=>?_) aL;simpa using aq 0 (fun b=>ν.tr k i b/\¬R b) (by simp[e1]) b ⟨ah,fun hr=>bu b hr _ _ ah⟩
  by_cases BE:∃k,tag= .own k
  ·obtain⟨k,rfl⟩:=BE;simp only[cH]at ak;obtain⟨_,⟨el,aG⟩,nv,dq⟩:=ak;obtain⟨n',u,g1,g2,g3⟩:=eu k rfl;obtain⟨v0,eY,bR,cA,dE,dM⟩:=aR.own k _ aG;simp only at bR cA dE;rw[g1]at bR;simp only[dZ,gA]at bR;obtain⟨rfl,rfl⟩:=bR;have H5:=g3 rfl;subst H5;have DZ:k∈rw:=aa k (by simp[bY]);simp only[ca];refine⟨a,cap,by rw[lT];exact I,by rw[lT];exact J,by rw[lT];exact ao,?_⟩;rcases aO with rfl|⟨b,off,us,aj,ch,dd⟩
   ·exact .inl rfl
   by_cases qC:xs=[]
   ·left;rw[qC];rfl
   right;subst aj;rcases cA.2 with⟨aj,_⟩|⟨g,AH,cur,f1,f2,f3,f4,f5,f6,f7⟩
   ·rw[aj]at I;cases I
   have hb:v.ownBlock=some g:=by rw[f1];rfl
   have uv:kd ν k g:=⟨_,_,g1,hb⟩;have y0:∀b,(kd ν k b\/(ka ν (tnL xs) b/\¬R b))->μ.tr (.loc κ) j b:=fun b ah=>by simpa using aq 0 (fun b=>kd ν k b\/(ka ν (tnL xs) b/\¬R b)) (by simp[e1]) b ah
   rw[f1]at I;simp only[ai3,dZ,Addr.mk.injEq]at I;obtain⟨⟨rfl,rfl,_⟩,_,rfl⟩:=I;have hlen:=p0 dd;refine⟨g,0,us,fun c=>ka ν (tnL xs) c/\¬R c,rfl,y0 g (.inl uv),fun c aE=>⟨y0 c (.inr aE),fun _ GP=>aE.2 (by rw[GP];exact he.R k g DZ uv)⟩,v7 (fun b o h=>⟨A5 b o h,rfl⟩) _ _ ch,fun _=>⟨rfl,?_,el,?_⟩,?_⟩
   ·rw[hlen];exact Nat.mul_pos (q2.2 qC) dq
   ·simp only[shape,f3,f6]
   ·have I:=Jk he.trd xs us dd nv (by simpa only[cp]using aK);exact DC (fun b o h=>⟨A5 b o h,rfl⟩) (fun _ _ _=>rfl) _ _ _ us (fun b ah=>⟨ah,fun hr=>by obtain⟨bb,kS,_,aD⟩:=ah;exact bu b hr _ _ aD⟩) I
  ·have af:xs=[]:=by
    simp only[cH]at ak;split at ak
    ·exact absurd ⟨_,_,rfl⟩ aD
    ·exact absurd ⟨_,rfl⟩ BE
    ·exact ak
   subst af;simp only[bz,ca];exact⟨a,cap,I,J,ao,.inl trivial⟩
 | .row sz k n,v,j,h,ak,aK,aa,aq=>by
  simp only[cH]at ak;obtain⟨⟨m,hm⟩,⟨xs,el,aG,nv⟩,dq⟩:=ak;have eQ:uW e k=xs:=by simp[uW,aG]
  simp only[aH]at h;obtain⟨⟨Lk,c0,Ee⟩,gJ,n',u,g1,g2,g3⟩:=h;obtain⟨v0,us,bR,cA,dE,dM⟩:=aR.own k _ aG;simp only at bR cA dE;rw[g1]at bR;simp only[dZ,gA]at bR;obtain⟨rfl,rfl⟩:=bR;have H5:=g3 rfl;subst H5;obtain⟨cP,mv,tj⟩:=dM xs rfl;simp only at cP mv;have DZ:k∈rw:=aa k (by simp[bY]);rcases cA.2 with⟨aj,_⟩|⟨g,cap,cur,f1,f2,f3,f4,f5,f6,f7⟩
  ·rw[aj]at Ee;cases Ee
  have hb:v.ownBlock=some g:=by rw[f1];rfl
  have uv:kd ν k g:=⟨_,_,g1,hb⟩;have y0:∀b,(kd ν k b\/(ka ν (tnL (uW e k)) b/\¬R b))->μ.tr (.loc κ) j b:=fun b ah=>by simpa using aq 0 (fun b=>kd ν k b\/(ka ν (tnL (uW e k)) b/\¬R b)) (by simp[e1]) b ah
  rw[eQ]at y0;simp only[fold,eQ];refine FH (tag:= .no) ?_ (sg xs);simp only[ca];refine⟨some ⟨g,0,none⟩,cap,by rw[lT,cP];exact f1,by rw[lT,cP];exact f4,⟨f5,by rw[lT,cP];exact gJ⟩,?_⟩;by_cases qC:xs=[]
  ·left;rw[qC];rfl
  ·right;have hlen:=p0 mv;refine⟨g,0,us,fun c=>ka ν (tnL xs) c/\¬R c,rfl,y0 g (.inl uv),fun c aE=>⟨y0 c (.inr aE),fun _ GP=>aE.2 (by rw[GP];exact he.R k g DZ uv)⟩,zn us 0 fun i u az=>?_,fun _=>⟨rfl,?_,el,?_⟩,?_⟩
   ·have gZ:i<us.length:=(e3.1 az).1;refine⟨N6 k DZ _ aG g uv _ (by simp only;rw[cA.1]at gZ;omega),?_⟩;have:=cA.cells hb i u az;rwa[nU]at this
   ·rw[hlen];exact Nat.mul_pos (q2.2 qC) dq
   ·simp only[shape,f3,f6]
   ·have I:=Jk he.trd xs us mv nv (by simpa only[cp,eQ]using aK);exact DC (fun b o h=>⟨A5 b o h,rfl⟩) (fun _ _ _=>rfl) _ _ _ us (fun b ah=>⟨ah,fun hr=>by obtain⟨bb,kS,_,aD⟩:=ah;exact bu b hr _ _ aD⟩) I
 | .agg cs,v,j,h,ak,aK,aa,aq=>by simp only[aH,cH,cp,bY,e1,fold]at h ak aK aa aq⊢;obtain⟨us,I,J⟩:=h;exact⟨us,I,Nq cs _ j J ak aK aa aq⟩
 | .tuple cs,v,j,h,ak,aK,aa,aq=>by simp only[aH,cH,cp,bY,e1,fold]at h ak aK aa aq⊢;obtain⟨us,I,J⟩:=h;exact⟨us,I,Nr cs _ j J ak aK aa aq⟩
 | .junk,_,_,_,ak,_,_,_=>by simp[cH]at ak
 | .ptr _ _,_,_,_,ak,_,_,_=>by simp[cH]at ak
 | .eptr _,_,_,_,ak,_,_,_=>by simp[cH]at ak
 | .iface _ _,_,_,_,ak,_,_,_=>by simp[cH]at ak
 | .nilp,_,_,_,ak,_,_,_=>by simp[cH]at ak
 | .func _ _,_,_,_,ak,_,_,_=>by simp[cH]at ak
 | .gmap _,_,_,_,ak,_,_,_=>by simp[cH]at ak
 | .rptr _ _ _ _ _,_,_,_,ak,_,_,_=>by simp[cH]at ak
 | .hdm _ _,_,_,_,ak,_,_,_=>by simp[cH]at ak
 | .hdi _ _ _,_,_,_,ak,_,_,_=>by simp[cH]at ak
 | .cst _,_,_,_,ak,_,_,_=>by simp[cH]at ak
theorem Nq:∀(cs:List ae) (us:List Value) (j:Nat),cl w ν cs us->dV e cs->(dx e cs).Nodup->(∀k∈dt cs,k∈rw)->(∀i S,(nE ν R e cs)[i]? =some S->∀b,S b->μ.tr (.loc κ) (j+i) b)->cl w μ (eb κ e j cs) us
 |[],us,j,h,_,_,_,_=>by simpa only[cl,eb]using h
 |c::cs,us,j,h,ak,aK,aa,aq=>by
  simp only[cl,dV,dx,dt,nE,eb]at h ak aK aa aq⊢;obtain⟨u,br,I,⟨J,ao⟩,aO⟩:=h;have gK:=qb.1 aK;refine⟨u,br,I,⟨DA c u j J ak.1 gK.1 (fun k bI=>aa k (lY _ bI)) (fun i S az b ah=>aq i S (by rw[qa (e3.1 az).1];exact az) b ah),ao⟩,
   Nq cs br _ aO ak.2 gK.2.1 (fun k bI=>aa k (j3 _ bI)) (fun i S az b ah=>?_)⟩
  have:=aq (ea c+i) S (by rw[List.getElem?_append_right (by rw[x8];omega),x8];simpa using az) b ah;rwa[<-Nat.add_assoc]at this
theorem Nr:∀(cs:List ae) (us:List Value) (j:Nat),cc w ν cs us->dV e cs->(dx e cs).Nodup->(∀k∈dt cs,k∈rw)->(∀i S,(nE ν R e cs)[i]? =some S->∀b,S b->μ.tr (.loc κ) (j+i) b)->cc w μ (eb κ e j cs) us
 |[],us,j,h,_,_,_,_=>by simpa only[cc,eb]using h
 |c::cs,us,j,h,ak,aK,aa,aq=>by
  simp only[cc,dV,dx,dt,nE,eb]at h ak aK aa aq⊢;obtain⟨u,br,I,J,aO⟩:=h;have gK:=qb.1 aK;refine⟨u,br,I,DA c u j J ak.1 gK.1 (fun k bI=>aa k (lY _ bI)) (fun i S az b ah=>aq i S (by rw[qa (e3.1 az).1];exact az) b ah),
   Nr cs br _ aO ak.2 gK.2.1 (fun k bI=>aa k (j3 _ bI)) (fun i S az b ah=>?_)⟩
  have:=aq (ea c+i) S (by rw[List.getElem?_append_right (by rw[x8];omega),x8];simpa using az) b ah;rwa[<-Nat.add_assoc]at this
end
end
end
section
open Go Go.RowKit
mutual
theorem Qw:∀p:ae,dU p->∀x∈tn p,x.1≠dv
 | .slice _ tag xs,ak,x,af=>by cases tag<;>simp only[tn,dU]at ak af<;>simp at af;subst af;exact ak
 | .agg cs,ak,x,af=>by simp only[tn,dU]at ak af;exact ER cs ak x af
 | .int _ _,_,_,af=>by simp[tn]at af
 | .bool _,_,_,af=>by simp[tn]at af
 | .str _,_,_,af=>by simp[tn]at af
 | .junk,_,_,af=>by simp[tn]at af
 | .ptr _ _,_,_,af=>by simp[tn]at af
 | .eptr _,_,_,af=>by simp[tn]at af
 | .iface _ _,_,_,af=>by simp[tn]at af
 | .nilp,_,_,af=>by simp[tn]at af
 | .tuple _,_,_,af=>by simp[tn]at af
 | .func _ _,_,_,af=>by simp[tn]at af
 | .gmap _,_,_,af=>by simp[tn]at af
 | .row _ _ _,_,_,af=>by simp[tn]at af
 | .rptr _ _ _ _ _,_,_,af=>by simp[tn]at af
 | .hdm _ _,_,_,af=>by simp[tn]at af
 | .hdi _ _ _,_,_,af=>by simp[tn]at af
 | .cst _,_,_,af=>by simp[tn]at af
theorem ER:∀p:List ae,ey p->∀x∈tnL p,x.1≠dv
 |[],_,x,af=>by simp[tnL]at af
 |c::cs,ak,x,af=>by
  simp only[tnL,ey,hv]at ak af;rcases af with af|af
  ·exact Qw c ak.1 x af
  ·exact ER cs ak.2 x af
end
mutual
theorem Jj{e:List (aC×cV)}:∀p:ae,cH e p->∀x∈cp e p,x.1≠dv
 | .slice _ tag xs,ak,x,af=>by
  cases tag with
  |own k=>simp only[cp,cH]at ak af;exact ER xs ak.2.2.1 x af
  |tr k i=>simp only[cp,cH]at ak af;simp at af;subst af;exact ak
  |no=>simp[cp]at af
  |nil=>simp[cp]at af
  |lo k=>simp[cp]at af
 | .row _ k _,ak,x,af=>by simp only[cp,cH]at ak af;obtain⟨_,⟨xs,el,aG,nv⟩,_⟩:=ak;rw[show uW e k=xs from by simp[uW,aG]]at af;exact ER xs nv x af
 | .agg cs,ak,x,af=>by simp only[cp,cH]at ak af;exact Jh cs ak x af
 | .tuple cs,ak,x,af=>by simp only[cp,cH]at ak af;exact Jh cs ak x af
 | .int _ _,_,_,af=>by simp[cp]at af
 | .bool _,_,_,af=>by simp[cp]at af
 | .str _,_,_,af=>by simp[cp]at af
 | .junk,_,_,af=>by simp[cp]at af
 | .ptr _ _,_,_,af=>by simp[cp]at af
 | .eptr _,_,_,af=>by simp[cp]at af
 | .iface _ _,_,_,af=>by simp[cp]at af
 | .nilp,_,_,af=>by simp[cp]at af
 | .func _ _,_,_,af=>by simp[cp]at af
 | .gmap _,_,_,af=>by simp[cp]at af
 | .rptr _ _ _ _ _,_,_,af=>by simp[cp]at af
 | .hdm _ _,_,_,af=>by simp[cp]at af
 | .hdi _ _ _,_,_,af=>by simp[cp]at af
 | .cst _,_,_,af=>by simp[cp]at af
theorem Jh{e:List (aC×cV)}:∀p:List ae,dV e p->∀x∈dx e p,x.1≠dv
 |[],_,x,af=>by simp[dx]at af
 |c::cs,ak,x,af=>by
  simp only[dx,dV,hv]at ak af;rcases af with af|af
  ·exact Jj c ak.1 x af
  ·exact Jh cs ak.2 x af
end
mutual
theorem B0{e:List (aC×cV)}:∀p:ae,cH e p->∀k∈bY p,∃own,look k e=some own
 | .row sz k n,ak,bb,aa=>by simp only[bY,cH]at ak aa;obtain⟨_,⟨xs,el,aG,nv⟩,_⟩:=ak;simp at aa;subst aa;exact⟨_,aG⟩
 | .agg cs,ak,x,af=>by simp only[bY,cH]at ak af;exact Ji cs ak x af
 | .tuple cs,ak,x,af=>by simp only[bY,cH]at ak af;exact Ji cs ak x af
 | .slice sz tag xs,ak,bb,aa=>by
  cases tag with
  |own k=>simp only[bY,cH]at ak aa;obtain⟨_,⟨el,aG⟩,_⟩:=ak;simp at aa;subst aa;exact⟨_,aG⟩
  |tr k i=>simp[bY]at aa
  |no=>simp[bY]at aa
  |nil=>simp[bY]at aa
  |lo k=>simp[bY]at aa
 | .int _ _,_,_,af=>by simp[bY]at af
 | .bool _,_,_,af=>by simp[bY]at af
 | .str _,_,_,af=>by simp[bY]at af
 | .junk,_,_,af=>by simp[bY]at af
 | .ptr _ _,_,_,af=>by simp[bY]at af
 | .eptr _,_,_,af=>by simp[bY]at af
 | .iface _ _,_,_,af=>by simp[bY]at af
 | .nilp,_,_,af=>by simp[bY]at af
 | .func _ _,_,_,af=>by simp[bY]at af
 | .gmap _,_,_,af=>by simp[bY]at af
 | .rptr _ _ _ _ _,_,_,af=>by simp[bY]at af
 | .hdm _ _,_,_,af=>by simp[bY]at af
 | .hdi _ _ _,_,_,af=>by simp[bY]at af
 | .cst _,_,_,af=>by simp[bY]at af
theorem Ji{e:List (aC×cV)}:∀p:List ae,dV e p->∀k∈dt p,∃own,look k e=some own
 |[],_,x,af=>by simp[dt]at af
 |c::cs,ak,x,af=>by
  simp only[dt,dV,hv]at ak af;rcases af with af|af
  ·exact B0 c ak.1 x af
  ·exact Ji cs ak.2 x af
end
end
end Go.Pv
