/- Contracts of functions that hand back memory of their own, II. -/
import Derived.Test.YtlnndmgfngfeiaaGreatDoorZn2
set_option linter.all false
set_option maxHeartbeats 4000000
set_option maxRecDepth 4000
open Array renaming getD_eq_getD_getElem?->pO,getElem?_eq_getElem->pP,replicate->rs
open Bool renaming and_eq_true->bJ,false_eq_true->kG,not_eq_true'->sG
open Go renaming Operand->iX,Program->bS,TypeId->fX
open Go.Region renaming binds->uq,ready->ur,wanted->pQ
open Go.Result renaming andThen_ok->fw
open Go.Sem renaming run_bind->fu,run_pure->gq
open Go.Value.slice renaming injEq->aqk
open List renaming all_eq_true->ji,cons_append->dF,eq_nil_of_length_eq_zero->sI,getElem?_append_left->qB,getElem?_eq_some_iff->fo,length_cons->gg,length_nil->mJ,length_pos_iff->sJ,map_cons->fF,mem_append->hl,mem_append_left->ni,mem_append_right->k2,mem_cons->gy,mem_map->nj,nil_append->eE,nodup_append->qC
open Nat renaming le_refl->cc
open Option renaming getD_some->qD,isSome_iff_exists->fv,map_some->lM
open Option.some renaming inj->gB,injEq->ei
open Prod.mk renaming injEq->gY
open _root_ renaming False->dr,Option->aW,beq_iff_eq->eA,decide_eq_true_eq->fs,if_neg->br
namespace Go.Pv
section
open Go Go.RowKit
inductive ek where
 |s (i:ej)
 |call (d:aW Nat) (f:dm) (xs:List dm)
 |next (d:Nat) (x:dm)
 |opn (d:aW Nat) (f:dm) (xs:List dm)
 |callb (d:aW Nat) (f:dm)
structure cU where
 g:aW (Nat×Bool)
 i:ek
def ej.dst:ej->aW Nat
 | .v d _| .box d _ _| .alloc d _ _| .bsl d _ _ _| .app d _ _ _ _| .bslm d _ _ _ _| .appm d _ _ _ _ _| .mkmap d _| .range d _ _| .mks d _ _ _ _ _| .apps d _ _ _=>some d
 | .store _ _ _| .mput _ _ _ _| .storeE _ _ _=>none
def ek.dst:ek->aW Nat
 | .s i=>i.dst
 | .call d _ _=>d
 | .next d _=>some d
 | .opn d _ _=>d
 | .callb d _=>d
def CallDo(P:bS)(n:Nat)(args:List ae)(st:aU)(d:aW Nat)(K:aU->Prop):Prop:=
 (∃s Q,qs (ak s) s.b st.b/\rj (ak s) s.e st.e/\hV s/\kinL (ak s) args/\b3 P n args s Q/\
  ∀r al,Q r al->((∀m,(look (.obj m) al.b).isSome->(look (.obj m) s.b).isSome\/ .obj m∉st.o)/\(∀m,(look (.obj m) al.e).isSome->(look (.obj m) s.e).isSome\/ .obj m∉st.o))/\K (after st s al d r))\/
 (∃s Q,qs (ak s) s.b st.b/\rj (ak s) s.e st.e/\hV s/\kinL (ak s) args/\ .loc st.n∉st.o/\FnK P n st.n args s Q/\
  ∀r al,Q r al->((∀m,(look (.obj m) al.b).isSome->(look (.obj m) s.b).isSome\/ .obj m∉st.o)/\(∀m,(look (.obj m) al.e).isSome->(look (.obj m) s.e).isSome\/ .obj m∉st.o))/\K {after st s al d r with n:=st.n+1})
def UX(st:aU)(d:Nat)(hU mk:aC)(since:Nat)(seen:List Nat)(last clock:Nat)(borns:List Nat)(kvs:List ae)(K:aU->Prop):Prop:=
 (since=clock/\last=clock)/\((∀b∈borns,b∈seen)->K {st with t:=put d (.tuple [.bool false]) st.t})/\
 (∀b k v,pC b borns kvs=some (.tuple [k,v])->b∉seen->K {st with t:=put d (.tuple [.bool true,k,v]) st.t,b:=dj hU [.hdi since (seen++[b]) last,.gmap mk] st.b})
def y6(st:aU)(d:Nat)(v:ae)(K:aU->Prop):Prop:=
 match v with
 | .ptr hU 0=>match look hU st.b with
  |some [.hdi since seen last,.gmap mk]=>match look mk st.b with
   |some (.hdm clock borns::kvs)=>UX st d hU mk since seen last clock borns kvs K
   |_=>dr
  |_=>dr
 |_=>dr
def k4(P:bS)(ob:List aC)(n:Nat)(args:List ae)(st:aU)(d:aW Nat)(K:aU->Prop):Prop:=
 ∀(C:eK) (a:Act) (w:World) (ν:aQ) (vs:Array Value),C.ob=ob->cm C st a w ν->cz w ν args vs.toList->hZ C.N d=true->
  xd P n vs w fun e w'=> ∃v st' ν',e= .returned v/\K st'/\cm C st' (a.put d v) w' ν'
def qN(P:bS)(ob:List aC)(st:aU)(K:aU->Prop):ek->Prop
 | .next d x=>y6 st d (bP st.t x) K
 | .s i=>match mE st i with
  |some (c,st')=>c/\K st'
  |none=>dr
 | .call d f xs=>match bP st.t f with
  | .func n dP=>CallDo P n (bC (xs.map (bP st.t)++dP)) st d K
  |_=>dr
 | .opn d f xs=>match bP st.t f with
  | .func n dP=>k4 P ob n (xs.map (bP st.t)++dP) st d K
  |_=>dr
 | .callb d f=>match bP st.t f with
  | .func n dP=> ¬n<1000000/\CallDo P (w7 n) (bC dP) st d K
  |_=>dr
def hh(P:bS)(ob:List aC):List cU->aU->(aU->Prop)->Prop
 |[],st,K=>K st
 |⟨none,i⟩::r,st,K=>qN P ob st (fun st'=>hh P ob r st' K) i
 |⟨some (s,want),i⟩::r,st,K=>match get s st.t with
  | .bool b=>(b=want->qN P ob {st with t:=put s (.bool want) st.t} (fun st'=>hh P ob r st' K) i)/\(b= !want->hh P ob r {st with t:=fE i.dst (.tuple []) (put s (.bool !want) st.t)} K)
  | .tuple []=>hh P ob r {st with t:=fE i.dst (.tuple []) st.t} K
  |_=>dr
def ua(N:Nat)(bk:List (Nat×dh))(i:ek)(o:Oper):Bool:=
 match i with
 | .s i=>se N bk i o
 | .next d x=>match o.op with
  | .next it false=>o.dst==some d&&decide (d<N)&&eC x it
  |_=>false
 | .call d f xs=>match o.op with
  | .call ⟨.value iu,args,_⟩=>o.dst==d&&hZ N d&&eC f iu&&wP xs args.toList
  |_=>false
 | .opn d f xs=>match o.op with
  | .call ⟨.value iu,args,_⟩=>o.dst==d&&hZ N d&&eC f iu&&wP xs args.toList
  |_=>false
 | .callb d f=>match o.op with
  | .call ⟨.value iu,⟨[]⟩,_⟩=>o.dst==d&&hZ N d&&eC f iu
  |_=>false
def C7(N:Nat)(bk:List (Nat×dh))(ops:List Oper)(g:cU)(o:Oper):Bool:=
 (match g.g,o.guard with
  |none,none=>true
  |some (s,b),some (j,gV)=>b==gV&&((ops[j]?).bind (·.dst))==some s&&decide (s<N)&&o.dst==g.i.dst&&hZ N g.i.dst
  |_,_=>false)&&ua N bk g.i o
def ja(N:Nat)(bk:List (Nat×dh))(ops:List Oper):List cU->List Oper->Bool
 |[],[]=>true
 |g::gs,o::os=>C7 N bk ops g o&&ja N bk ops gs os
 |_,_=>false
theorem WC{w:World}{ν:aQ}:∀{bj bF:List ae} {vs us:List Value},cz w ν bj vs->cz w ν bF us->cz w ν (bj++bF) (vs++us)
 |[],bF,vs,us,h,cu=>by simp only[cz]at h;subst h;simpa using cu
 |p::bj,bF,vs,us,h,cu=>by simp only[cz]at h;obtain⟨u,bE,rfl,I,J⟩:=h;simp only[dF,cz];exact⟨u,_,rfl,I,WC J cu⟩
theorem xd.mono{P:bS}{f:FuncId}{vs:Array Value}{w:World}{R IB:Ending->World->Prop}(h:xd P f vs w R)(bt:∀e w',R e w'->IB e w'):xd P f vs w IB:=by
 rcases h with⟨I,J⟩|⟨v,w',I,J⟩
 ·exact .inl ⟨I,J.mono bt⟩
 ·exact .inr ⟨v,w',I,bt _ _ J⟩
theorem ai8{P:bS}{a:Act}{w:World}{o:Oper}{iu:iX}{args:Array iX}{ts:Array fX}(jI:o.op= .call ⟨.value iu,args,ts⟩){n:Nat}{us:Array Value}(aN:a.eval iu= .func (.func n) #[] us)(r:Result Next)(hr:(callFunc n (args.map a.eval++us)).run P w=r):(execOp a.eval o).run P w=r:=by obtain⟨dst,op,ty,pos,IM,R3⟩:=o;simp only at jI;subst jI;simp only[execOp,resolve,aN,Deferred.ofValue,fu,gq,fw,invoke];simpa using hr
theorem ai9{P:bS}{a:Act}{w:World}{o:Oper}{iu:iX}{ts:Array fX}(jI:o.op= .call ⟨.value iu,#[],ts⟩){n:Nat}{us:Array Value}(aN:a.eval iu= .func (.func n) us #[])(r:Result Next)(hr:(callFunc n us).run P w=r):(execOp a.eval o).run P w=r:=by obtain⟨dst,op,ty,pos,IM,R3⟩:=o;simp only at jI;subst jI;simp only[execOp,resolve,aN,Deferred.ofValue,fu,gq,fw,invoke];simpa using hr
theorem Nh{P:bS}(dz:P.funcs.size<=1000000){a:Act}{w:World}{ν:aQ}{o:Oper}{iu:iX}{args:Array iX}{ts:Array fX}(jI:o.op= .call ⟨.value iu,args,ts⟩){n:Nat}{dP:List ae}(aK:aJ w ν (.func n dP) (a.eval iu)){bj:List ae}(iQ:cz w ν bj (args.toList.map a.eval)):
  ∃vs:Array Value,(∀x w',(callFunc n vs).run P w= .ok x w'->(execOp a.eval o).run P w= .ok x w')/\cz w ν (bj++dP) vs.toList:=by
 rw[aJ]at aK;obtain⟨us,aN,hu⟩:=aK;refine⟨args.map a.eval++us,fun x w' hr=>?_,by simpa using WC iQ hu⟩;by_cases aM:n<1000000
 ·exact ai8 jI (aN.trans (acz aM us)) _ hr
 ·have hJ:P.funcs[n]? =none:=Array.getElem?_eq_none (Nat.le_trans dz (Nat.le_of_not_lt aM));simp only[callFunc,fu,fw,run_program,hJ]at hr;cases hr
theorem aja{P:bS}{a:Act}{w:World}{ν:aQ}{o:Oper}{iu:iX}{ts:Array fX}(jI:o.op= .call ⟨.value iu,#[],ts⟩){n:Nat}{dP:List ae}(aK:aJ w ν (.func n dP) (a.eval iu))(aM:¬n<1000000):
  ∃vs:Array Value,(∀x w',(callFunc (w7 n) vs).run P w= .ok x w'->(execOp a.eval o).run P w= .ok x w')/\cz w ν dP vs.toList:=by
 rw[aJ]at aK;obtain⟨us,aN,hu⟩:=aK;exact⟨us,fun x w' hr=>ai9 jI (aN.trans (acy aM us)) _ hr,hu⟩
theorem Qg{P:bS}{C:eK}{st:aU}{a:Act}{w:World}{ν:aQ}(hr:cm C st a w ν){o:Oper}{d:aW Nat}(aI:o.dst=d)(tj:hZ C.N d=true)
  {n:Nat} {bj:List ae} {rq:Array Value} (h2:∀x w',(callFunc n rq).run P w= .ok x w'->(execOp a.eval o).run P w= .ok x w') (iQ:cz w ν bj rq.toList) {K:aU->Prop}
  (aH:∃(s:dJ) (o1:ae->dJ->Prop) (κ:aW Nat) (n':Nat) (o':dJ->List aC),qs (ak s) s.b st.b/\rj (ak s) s.e st.e/\hV s/\kinL (ak s) (bC bj)/\(∀(w:World) (ν:aQ) (vs:Array Value) (gl:oZ w ν),Good (fY ν s) w ν s.b s.e->qR ν s->cz w ν (bC bj) vs.toList->
   xd P n vs w fun e w'=> ∃v r al ν',e= .returned v/\o1 r al/\aJ w' ν' r v/\Good (fun bl=>fY ν s bl\/w.heap.size<=bl) w' ν' al.b al.e/\AP κ ν' al/\hV al/\ox ⟨w,ν,fY ν s,0,ev s,gl,[]⟩ w' ν')/\
   (∀m,κ=some m->fresh st.n st.o (.loc m))/\(∀k r al,o1 r al->fresh n' (o' al) k->fresh st.n (st.o++ev al) k/\∀m,κ=some m->k≠ .loc m)/\
   ∀r al,o1 r al->((∀m,(look (.obj m) al.b).isSome->(look (.obj m) s.b).isSome\/ .obj m∉st.o)/\(∀m,(look (.obj m) al.e).isSome->(look (.obj m) s.e).isSome\/ .obj m∉st.o))/\K {after st s al d r with n:=n',o:=o' al})
  {nP:Act->World->Prop} {Q:Exit->Act->World->Prop} (da:∀st' ch w' ν',K st'->cm C st' ch w' ν'->nP ch w'):o.wp P a w nP Q:=by
 obtain⟨s,o1,κ,n',o',cF,c2,c3,c4,c5,QE,Qv,j8⟩:=aH;have kd:cz w (ν.cut (ak s)) (bC bj) rq.toList:=B1 (nR.cut _ w ν) _ _ c4 (HX _ _ iQ);have aek:Good (fY (ν.cut (ak s)) s) w (ν.cut (ak s)) s.b s.e:=hr.good.cut cF c2 (fun bl _ h=>h);have hex:qR (ν.cut (ak s)) s:=by
  intro k;refine⟨?_,?_,?_⟩;rotate_left 2
  ·rintro j b ⟨az,ah⟩;obtain⟨t1,t2⟩:=hr.fr.trn k j b ah;rcases az with az|az<;>obtain⟨x,af⟩:=fv.1 az
   ·obtain⟨bl,bE,el,ao,_⟩:=hr.good.box k x (cF k x af).1;rw[t1]at ao;cases ao
   ·obtain⟨v',bE,ao,_⟩:=hr.good.own k x (c2 k x af).1;rw[t2]at ao;cases ao
  ·intro aD;by_cases az:ak s k
   ·rw[aQ.cut_bx az];rcases az with az|az
    ·rw[aD]at az;cases az
    ·obtain⟨x,af⟩:=fv.1 az;obtain⟨v',bE,ao,_⟩:=hr.good.own k x (c2 k x af).1;rcases hr.good.one k with I|I
     ·exact I
     ·rw[I]at ao;cases ao
   ·exact(aQ.cut_no az).1
  ·intro aD;by_cases az:ak s k
   ·rw[aQ.cut_ow az];rcases az with az|az
    ·obtain⟨x,af⟩:=fv.1 az;obtain⟨bl,bE,el,ao,_⟩:=hr.good.box k x (cF k x af).1;rcases hr.good.one k with I|I
     ·rw[I]at ao;cases ao
     ·exact I
    ·rw[aD]at az;cases az
   ·exact(aQ.cut_no az).2.1
 rcases c5 w (ν.cut (ak s)) rq (hr.fr.gl.cut _) aek hex kd with⟨⟨fn,g1,g2,g3⟩,c5⟩|⟨v,w',c5,aV⟩
 ·obtain⟨code,Kq⟩:=fv.1 g2;have hq:(execOp a.eval o).run P w= .ok (.enter n rq) w:=by refine h2 _ _ ?_;simp only[callFunc,fu,gq,fw,run_program,g1,g3,Kq];simp
  unfold Oper.wp;rw[hq];simp only[Oper.upon];refine c5.mono fun e w' aV=>?_;obtain⟨v,r,al,ν',rfl,bp,b0,cS,dT,dY,di⟩:=aV;obtain⟨⟨hi,gd⟩,ab⟩:=j8 r al bp;rw[aI];exact da _ _ _ _ ab (hr.callK cF c2 c3 cS dT (fun m hm=>hr.new _ (QE m hm)) (n':=n') (o':=o' al) (fun k ab=>Qv k r al bp ab) dY di hi gd d tj b0)
 ·have hq:(execOp a.eval o).run P w= .ok (.value v) w':=by exact h2 _ _ c5
  obtain⟨v2,r,al,ν',Ld,bp,b0,cS,dT,dY,di⟩:=aV;cases Ld;obtain⟨⟨hi,gd⟩,ab⟩:=j8 r al bp;refine lp hq ?_;rw[aI];exact da _ _ _ _ ab (hr.callK cF c2 c3 cS dT (fun m hm=>hr.new _ (QE m hm)) (n':=n') (o':=o' al) (fun k ab=>Qv k r al bp ab) dY di hi gd d tj b0)
theorem ah0{P:bS}(dz:P.funcs.size<=1000000){C:eK}{st:aU}{a:Act}{w:World}{ν:aQ}(hr:cm C st a w ν){o:Oper}{iu:iX}{args:Array iX}{ts:Array fX}(jI:o.op= .call ⟨.value iu,args,ts⟩){d:aW Nat}(aI:o.dst=d)(tj:hZ C.N d=true)
  {n:Nat} {dP:List ae} (aK:aJ w ν (.func n dP) (a.eval iu)) {bj:List ae} (iQ:cz w ν bj (args.toList.map a.eval)) {K:aU->Prop} (aH:k4 P C.ob n (bj++dP) st d K)
  {nP:Act->World->Prop} {Q:Exit->Act->World->Prop} (da:∀st' ch w' ν',K st'->cm C st' ch w' ν'->nP ch w'):o.wp P a w nP Q:=by
 obtain⟨rq,h2,kd⟩:=Nh dz jI aK iQ;rcases aH C a w ν _ rfl hr kd tj with⟨⟨fn,g1,g2,g3⟩,c5⟩|⟨v,w',c5,aV⟩
 ·obtain⟨code,Kq⟩:=fv.1 g2;have hq:(execOp a.eval o).run P w= .ok (.enter n rq) w:=by refine h2 _ _ ?_;simp only[callFunc,fu,gq,fw,run_program,g1,g3,Kq];simp
  unfold Oper.wp;rw[hq];simp only[Oper.upon];refine c5.mono fun e w' aV=>?_;obtain⟨v,st',ν',rfl,ab,cp⟩:=aV;rw[aI];exact da _ _ _ _ ab cp
 ·have hq:(execOp a.eval o).run P w= .ok (.value v) w':=by exact h2 _ _ c5
  obtain⟨v2,st',ν',Ld,ab,cp⟩:=aV;cases Ld;refine lp hq ?_;rw[aI];exact da _ _ _ _ ab cp
theorem Qh{P:bS}{C:eK}{st:aU}{a:Act}{w:World}{ν:aQ}(hr:cm C st a w ν){o:Oper}{d:aW Nat}(aI:o.dst=d)(tj:hZ C.N d=true)
  {n:Nat} {bj:List ae} {rq:Array Value} (h2:∀x w',(callFunc n rq).run P w= .ok x w'->(execOp a.eval o).run P w= .ok x w') (iQ:cz w ν bj rq.toList) {K:aU->Prop} (aH:CallDo P n (bC bj) st d K)
  {nP:Act->World->Prop} {Q:Exit->Act->World->Prop} (da:∀st' ch w' ν',K st'->cm C st' ch w' ν'->nP ch w'):o.wp P a w nP Q:=by
 refine Qg hr aI tj h2 iQ (K:=K) ?_ da;rcases aH with⟨s,o1,cF,c2,c3,c4,c5,j8⟩|⟨s,o1,cF,c2,c3,c4,c0,c5,j8⟩
 ·refine⟨s,o1,none,st.n,fun al=>st.o++ev al,cF,c2,c3,c4,fun w ν vs gl I J au=>(c5 w ν vs gl I J au).mono fun e w' aV=>?_,fun m hm=>(by cases hm),fun k _ al _ ab=>⟨ab,fun m hm=>by cases hm⟩,j8⟩;obtain⟨v,r,al,ν',g1,g2,g3,g4,g5,g6⟩:=aV;exact⟨v,r,al,ν',g1,g2,g3,g4,g5.k,g6⟩
 ·refine⟨s,o1,some st.n,st.n+1,fun al=>st.o++ev al,cF,c2,c3,c4,c5,fun m hm=>(by cases hm;exact⟨cc _,c0⟩),fun k _ al _ ab=>⟨rR (Nat.le_succ _) (fun _ h=>h) ab,fun m hm=>?_⟩,j8⟩;cases hm;rintro rfl;have:=ab.1;simp only at this;omega
theorem Qf{P:bS}(dz:P.funcs.size<=1000000){C:eK}{st:aU}{a:Act}{w:World}{ν:aQ}(hr:cm C st a w ν){o:Oper}{iu:iX}{args:Array iX}{ts:Array fX}(jI:o.op= .call ⟨.value iu,args,ts⟩){d:aW Nat}(aI:o.dst=d)(tj:hZ C.N d=true)
  {n:Nat} {dP:List ae} (aK:aJ w ν (.func n dP) (a.eval iu)) {bj:List ae} (iQ:cz w ν bj (args.toList.map a.eval)) {K:aU->Prop} (aH:CallDo P n (bC (bj++dP)) st d K)
  {nP:Act->World->Prop} {Q:Exit->Act->World->Prop} (da:∀st' ch w' ν',K st'->cm C st' ch w' ν'->nP ch w'):o.wp P a w nP Q:=by
 obtain⟨rq,h2,kd⟩:=Nh dz jI aK iQ;exact Qh hr aI tj h2 kd aH da
theorem cm.drawn{C:eK}{st:aU}{a:Act}{w:World}{ν:aQ}(hr:cm C st a w ν)(n:Nat):cm C st a {w with drawn:=n} ν:=by
 have mU:mK w ν {w with drawn:=n} ν:=⟨fun _ _ h=>⟨h,rfl⟩,fun _ _ _ h=>h,fun _ n u _ h=>⟨n,u,h,.inl ⟨rfl,rfl⟩⟩,fun _ _ _=>rfl,fun _ _ _ _ h=>h⟩;refine hr.over mU rfl ⟨hr.good.alt,fun k cs ab=>?_,hr.good.inj,fun g o aS=>?_,hr.good.oinj,hr.good.obx,hr.good.one,hr.good.otr⟩ ⟨hr.fr.os,hr.fr.tape,hr.fr.output,hr.fr.size,hr.fr.block,hr.fr.keep,hr.fr.fresh,hr.fr.obj,hr.fr.obn,hr.fr.row,hr.fr.obr,hr.fr.trd,hr.fr.trb,hr.fr.trn,hr.fr.sh,hr.fr.nrow⟩ hr.new
 ·obtain⟨bl,us,el,I,J,au,aP,bA⟩:=hr.good.box k cs ab;exact⟨bl,us,el,I,J,au,aP,qn mU bA⟩
 ·obtain⟨v,us,I,J,au,aP⟩:=hr.good.own g o aS;exact⟨v,us,I,J,au,sc mU (fun _ _ _ h=>h) aP⟩
theorem acq{α:Type}{l:List α}{p:α->Bool}(h:∀x∈l,p x=false):l.filter p=[]:=by rw[List.filter_eq_nil_iff];intro x af;simp[h x af]
theorem acp{α:Type}{l:List α}{p:α->Bool}(h:∀x∈l,p x=true):l.filter p=l:=List.filter_eq_self.2 h
def Ho(r m since clock:Nat)(seen:Array Nat)(Qi:Array (aW MapEntry)):Sem Value:=do
 match Qi[<-choose (.mapNext Qi.size)]? with
 |some (some e)=>
  setObj r (.mapIter (some m) since (seen.push e.born) clock)
  pure (.tuple #[.bool true,e.key,e.val])
 |some none=>pure (.tuple #[.bool false])
 |none=>stuck "Next: no such candidate"
theorem WU{P:bS}{w:World}(r m since clock:Nat)(seen:Array Nat)(l:List (aW MapEntry))(aD:l≠[]):∃n x,x∈l/\(Ho r m since clock seen l.toArray).run P w=
  (match x with|some e=>(do setObj r (.mapIter (some m) since (seen.push e.born) clock);pure (.tuple #[.bool true,e.key,e.val]):Sem Value)|none=>pure (.tuple #[.bool false])).run P {w with drawn:=n}:=by
 have hp:0<l.length:=sJ.2 aD;unfold Ho;have key:∀i,i<l.length->∀w',((do match(l.toArray[i]?:aW (aW MapEntry))with
   |some (some e)=>setObj r (.mapIter (some m) since (seen.push e.born) clock);pure (.tuple #[.bool true,e.key,e.val])
   |some none=>pure (.tuple #[.bool false])
   |none=>stuck "Next: no such candidate" :Sem Value)).run P w'=((match l[i]! with|some e=>(do setObj r (.mapIter (some m) since (seen.push e.born) clock);pure (.tuple #[.bool true,e.key,e.val]):Sem Value)|none=>pure (.tuple #[.bool false]))).run P w':=by
  intro i aw w';have I:l.toArray[i]? =some l[i]!:=by simp[aw]
  rw[I];cases l[i]!<;>rfl
 by_cases aK:(Question.mapNext l.length).forced=true
 ·refine⟨w.drawn,l[0]!,by simp[hp],?_⟩;rw[<-key 0 hp];have aH:(choose (.mapNext l.length):Sem Nat).run P w= .ok 0 w:=by simp[aK]
  simp only[List.size_toArray,fu,aH,fw]
 ·refine⟨w.drawn+1,l[(w.tape w.drawn (.mapNext l.length))%l.length]!,by simp[Nat.mod_lt _ hp],?_⟩;rw[<-key _ (Nat.mod_lt _ hp)];have aH:(choose (.mapNext l.length):Sem Nat).run P w= .ok ((w.tape w.drawn (.mapNext l.length))%l.length) {w with drawn:=w.drawn+1}:=by simp[aK,Question.cut]
  simp only[List.size_toArray,fu,aH,fw]
theorem ajp{P:bS}{w:World}{bl q6:Nat}{seen:List Nat}{es:List MapEntry}{clock:Nat}{ty:fX}(I:w.heap[bl]? =some (.mapIter (some q6) clock seen.toArray clock))(J:w.heap[q6]? =some (.map es.toArray clock))(b5:∀e∈es,e.born<clock):
  ∃n,((∀e∈es,e.born∈seen)/\(Instr.next (.pointer (some ⟨bl,0,none⟩)) false ty).run P w= .ok (.tuple #[.bool false]) {w with drawn:=n})\/
   ∃e∈es,e.born∉seen/\(Instr.next (.pointer (some ⟨bl,0,none⟩)) false ty).run P w= .ok (.tuple #[.bool true,e.key,e.val]) {w with drawn:=n,heap:=w.heap.setIfInBounds bl (.mapIter (some q6) clock (seen++[e.born]).toArray clock)}:=by
 have Di:(!seen.toArray.isEmpty&& !es.toArray.isEmpty&&es.toArray.all (fun e=>decide (e.born≥clock)))=false:=by
  cases es with
  |nil=>simp
  |cons e r=>have:=b5 e Ψ;simp;intro _ h;omega
 generalize iE:(es.filter fun e=> !seen.contains e.born)=left;have aeC:(es.toArray.filter fun e=> !seen.toArray.contains e.born)=left.toArray:=by rw[<-iE];simp
 have jW:∀e∈left,e∈es/\e.born∉seen:=fun e he=>by rw[<-iE]at he;have:=List.mem_filter.1 he;exact⟨this.1,by simpa using this.2⟩
 have hold:(left.toArray.filter fun e=>decide (e.born<clock))=left.toArray:=by rw[List.filter_toArray,acp];intro e he;have:=b5 e (jW e he).1;simp[this]
 have k9:(left.toArray.filter fun e=>decide (e.born≥clock))= #[]:=by rw[List.filter_toArray,acq];intro e he;have:=b5 e (jW e he).1;simp;omega
 have hq:(Instr.next (.pointer (some ⟨bl,0,none⟩)) false ty).run P w=(Ho bl q6 clock clock seen.toArray ((if left.toArray.isEmpty then #[none]else #[])++(left.toArray++ #[]).map some)).run P w:=by unfold Instr.next Ho;simp only[fu,w1 I,w1 J,fw,Di,aeC,hold,k9,kG,if_false];rfl
 rw[hq];by_cases oI:left=[]
 ·subst oI;obtain⟨n,x,g1,g2⟩:=WU (P:=P) (w:=w) bl q6 clock clock seen.toArray [none] Ψ;refine⟨n,.inl ⟨fun e he=>?_,?_⟩⟩
  ·have:=List.filter_eq_nil_iff.1 iE e he;simpa using this
  ·simp only[List.mem_singleton]at g1;subst g1;have aH:((if(([]:List MapEntry).toArray).isEmpty then #[none]else #[])++(([]:List MapEntry).toArray++ #[]).map some)=[none].toArray:=by simp
   rw[aH,g2];rfl
 ·have aH:((if left.toArray.isEmpty then #[none]else #[])++(left.toArray++ #[]).map some)=(left.map some).toArray:=by simp[oI]
  obtain⟨n,x,g1,g2⟩:=WU (P:=P) (w:=w) bl q6 clock clock seen.toArray (left.map some) (by simpa using oI);simp only[nj]at g1;obtain⟨e,he,rfl⟩:=g1;refine⟨n,.inr ⟨e,(jW e he).1,(jW e he).2,?_⟩⟩;rw[aH,g2];simp only[fu];rw[ER (w:={w with drawn:=n}) (o:= .mapIter (some q6) clock seen.toArray clock) I];simp
theorem JU:∀{borns:List Nat} {us:List Value} {e:MapEntry},e∈fZ borns us->e.born∈borns
 |[],us,e,h=>by simp[fZ]at h
 |b::e4,[],e,h=>by simp[fZ]at h
 |b::e4,[_],e,h=>by simp[fZ]at h
 |b::e4,k::v::us,e,h=>by
  simp only[fZ,gy]at h;rcases h with rfl|h
  ·simp
  ·exact List.mem_cons_of_mem _ (JU h)
theorem QX:∀{borns:List Nat} {kvs:List ae} {us:List Value},kvs.length=2*borns.length->us.length=kvs.length->∀{b:Nat},b∈borns->∃e∈fZ borns us,e.born=b
 |[],_,_,_,_,b,ah=>by simp at ah
 |gV::e4,kvs,[],I,J,b,ah=>by rw[I]at J;simp at J
 |gV::e4,kvs,[_],I,J,b,ah=>by rw[I]at J;simp at J;omega
 |gV::e4,kvs,k::v::us,I,J,b,ah=>by
  rcases gy.1 ah with rfl|ah
  ·exact⟨⟨k,v,b⟩,by simp[fZ],rfl⟩
  ·obtain⟨e,g1,g2⟩:=QX (kvs:=kvs.drop 2) (us:=us) (borns:=e4) (by simp at I⊢;omega) (by simp at I J⊢;omega) ah;exact⟨e,by simp[fZ,g1],g2⟩
theorem UF{w:World}{ν:aQ}:∀{borns:List Nat} {kvs:List ae} {us:List Value},kvs.length=2*borns.length->borns.Pairwise (· < ·)->cz w ν kvs us->∀{e:MapEntry},e∈fZ borns us->∃k v,pC e.born borns kvs=some (.tuple [k,v])/\aJ w ν k e.key/\aJ w ν v e.val
 |[],_,_,_,_,_,e,h=>by simp[fZ]at h
 |b::e4,[],us,I,_,_,e,_=>by simp at I
 |b::e4,[_],us,I,_,_,e,_=>by simp at I;omega
 |b::e4,k::v::kvs,us,I,J,au,e,h=>by
  simp only[cz]at au;obtain⟨iK,Ch,rfl,eZ,h9,pN,rfl,ey,jg⟩:=au;simp only[fZ,gy]at h;rw[List.pairwise_cons]at J;rcases h with rfl|h
  ·exact⟨k,v,by simp[pC],eZ,ey⟩
  ·obtain⟨bn,v',g1,g2,g3⟩:=UF (by simp at I;omega) J.2 jg h;have b7:b≠e.born:=Nat.ne_of_lt (J.1 _ (JU h));exact⟨bn,v',by simp[pC,b7,g1],g2,g3⟩
theorem agI{P:bS}{C:eK}{st:aU}{a:Act}{w:World}{ν:aQ}(hr:cm C st a w ν){o:Oper}{it:iX}(jI:o.op= .next it false){d:Nat}(aI:o.dst=some d)(tj:hZ C.N (some d)=true){v:ae}(aN:aJ w ν v (a.eval it)){K:aU->Prop}(he:y6 st d v K)
  {nP:Act->World->Prop} {Q:Exit->Act->World->Prop} (da:∀st' ch w' ν',K st'->cm C st' ch w' ν'->nP ch w'):o.wp P a w nP Q:=by
 unfold y6 at he;split at he
 ·rename_i hU;split at he
  ·rename_i since seen last mk lU;split at he
   ·rename_i clock borns kvs zr;obtain⟨⟨rfl,rfl⟩,Kw,Kx⟩:=he;simp only[aJ]at aN;obtain⟨bl,cq,cE⟩:=aN;obtain⟨hx,us,el,b0,cS,dT,dY,di⟩:=hr.good.box hU _ lU;rw[cq]at b0;cases b0;obtain⟨q6,ms,aoO,m1,m2,m3,m4,m5⟩:=hr.good.box mk _ zr;simp only[iw,cz]at di;obtain⟨u,bE,hu,⟨aoN,eZ,rfl⟩,rfl⟩:=di;rw[m1]at eZ;cases eZ;simp only[jr,hu]at dY;simp only[jr]at m4;simp only[iw]at m5;obtain⟨n,mR⟩:=ajp (P:=P) (ty:=o.type) dY m4 (fun e he=>m5.2.lt _ (JU he));have kO:∀v' w',(Instr.next (.pointer (some ⟨bl,0,none⟩)) false o.type).run P w= .ok v' w'->(execOp a.eval o).run P w= .ok (.value v') w':=by intro v' w' hq;obtain⟨dst,op,ty,pos,IM,R3⟩:=o;simp only at jI hq;subst jI;simp only[execOp,cE];exact E9 hq
    rcases mR with⟨I,J⟩|⟨e,I,J,au⟩
    ·refine lp (kO _ _ J) ?_;rw[aI];refine da _ _ _ _ (Kw fun b ah=>?_) ((hr.drawn n).put tj (p:= .tuple [.bool false]) (by simp[aJ,cz]));obtain⟨e,f1,f2⟩:=QX m5.2.len (HW m5.1) ah;rw[<-f2];exact I e f1
    ·obtain⟨k,v,f1,f2,f3⟩:=UF m5.2.len m5.2.inc m5.1 I;refine lp (kO _ _ au) ?_;rw[aI];have qc:=((hr.drawn n).setBox (w':={w with drawn:=n,heap:=w.heap.setIfInBounds bl (.mapIter (some q6) last (seen++[e.born]).toArray last)}) lU cq (cs':=[.hdi last (seen++[e.born]) last,.gmap mk]) (us:=us) (el:=el) rfl rfl rfl
      (fun j ai=>Array.getElem?_setIfInBounds_ne (Ne.symm ai)) Ψ (by simp[jr,hu,(Array.getElem?_eq_some_iff.1 dY).1]) (by simp only[iw,cz];exact⟨_,_,hu,by simp only[aJ];exact⟨q6,m1,rfl⟩,rfl⟩))
     refine da _ _ _ _ (Kx e.born k v f1 J) (qc.1.put tj (p:= .tuple [.bool true,k,v]) ?_);simp only[aJ];refine⟨_,rfl,?_⟩;simp only[cz];have mU:mK w ν {w with drawn:=n} ν:=⟨fun _ _ h=>⟨h,rfl⟩,fun _ _ _ h=>h,fun _ n u _ h=>⟨n,u,h,.inl ⟨rfl,rfl⟩⟩,fun _ _ _=>rfl,fun _ _ _ _ h=>h⟩;exact⟨_,_,rfl,by simp[aJ],_,_,rfl,wX qc.2 (wX mU f2),_,_,rfl,wX qc.2 (wX mU f3),rfl⟩
   ·exact he.elim
  ·exact he.elim
 ·exact he.elim
theorem QZ{P:bS}{bk:List (Nat×dh)}(aE:eW P bk=true){C:eK}{st:aU}{a:Act}{w:World}{ν:aQ}(hr:cm C st a w ν){i:ek}{o:Oper}(aq:ua C.N bk i o=true){K:aU->Prop}(he:qN P C.ob st K i)
  {nP:Act->World->Prop} {Q:Exit->Act->World->Prop} (da:∀st' ch w' ν',K st'->cm C st' ch w' ν'->nP ch w'):o.wp P a w nP Q:=by
 cases i with
 |s i=>
  simp only[qN]at he;split at he
  ·rename_i c st' az;exact ajt aE hr (by simpa only[ua]using aq) az he.1 fun ch w' ν' h=>da _ _ _ _ he.2 h
  ·exact he.elim
 |next d x=>
  simp only[qN]at he;simp only[ua]at aq;split at aq
  ·rename_i it jI;simp only[bJ,eA,fs]at aq;obtain⟨⟨I,J⟩,au⟩:=aq;exact agI hr jI I (by simpa[hZ]using J) (eD hr au) he da
  ·cases aq
 |call d f xs=>
  simp only[qN]at he;simp only[ua]at aq;split at aq
  ·rename_i iu args ts jI;simp only[bJ,eA]at aq;obtain⟨⟨⟨I,J⟩,au⟩,aP⟩:=aq;split at he
   ·rename_i n dP aK;have:=eD hr au;rw[aK]at this;exact Qf (eW.sz aE) hr jI I J this (zS hr aP) he da
   ·exact he.elim
  ·cases aq
 |opn d f xs=>
  simp only[qN]at he;simp only[ua]at aq;split at aq
  ·rename_i iu args ts jI;simp only[bJ,eA]at aq;obtain⟨⟨⟨I,J⟩,au⟩,aP⟩:=aq;split at he
   ·rename_i n dP aK;have:=eD hr au;rw[aK]at this;exact ah0 (eW.sz aE) hr jI I J this (zS hr aP) he da
   ·exact he.elim
  ·cases aq
 |callb d f=>
  simp only[qN]at he;simp only[ua]at aq;split at aq
  ·rename_i iu ts jI;simp only[bJ,eA]at aq;obtain⟨⟨I,J⟩,au⟩:=aq;split at he
   ·rename_i n dP aK;have:=eD hr au;rw[aK]at this;obtain⟨rq,h2,kd⟩:=aja (P:=P) jI this he.1;exact Qh hr I J h2 kd he.2 da
   ·exact he.elim
  ·cases aq
theorem M3{C:eK}{st:aU}{a:Act}{w:World}{ν:aQ}(h:cm C st a w ν){s:Nat}{b:Bool}(az:get s st.t= .bool b):cm C {st with t:=put s (.bool b) st.t} a w ν:=by
 refine⟨h.good,h.fr,h.defers,h.size,fun i=>?_,h.new,h.ext,h.obk⟩;have:=h.slot i;simp only[get_put];split
 ·rename_i e;subst e;rw[<-az];exact this
 ·exact this
theorem Ym{C:eK}{st:aU}{a:Act}{w:World}{ν:aQ}(h:cm C st a w ν){ops:Array Oper}{j s:Nat}(ai:(ops.toList[j]?).bind (·.dst)=some s)(az:s<C.N):
  (∀b,get s st.t= .bool b->yielded ops a.tmps j=some b)/\(get s st.t= .tuple []->yielded ops a.tmps j=none):=by
 have b5:s<a.tmps.size:=by rw[h.size];exact az
 have mV:=h.slot s;have mo:a.tmps.getD s undef=a.tmps[s]:=by simp[Array.getD,b5]
 rw[mo]at mV;have bG:yielded ops a.tmps j=match a.tmps[s]with| .bool b=>some b|_=>none:=by unfold yielded;rw[Array.getElem?_toList]at ai;rw[ai];simp only[Option.bind_some,pP b5];cases a.tmps[s]<;>rfl
 constructor
 ·intro b ah;rw[ah]at mV;simp only[aJ]at mV;rw[bG,mV]
 ·intro ah;rw[ah]at mV;simp only[aJ,cz]at mV;obtain⟨us,ao,aL⟩:=mV;rw[bG,ao]
theorem J0{P:bS}{bk:List (Nat×dh)}(aE:eW P bk=true){C:eK}{ops:Array Oper}{K:aU->Prop}{Q:Exit->Act->World->Prop}(jb:∀st' ch w' ν',K st'->cm C st' ch w' ν'->Q .normal ch w'):
  ∀(gs:List cU) (os:List Oper) (k:Nat),(∀j,os[j]? =ops[k+j]?)->ja C.N bk ops.toList gs os=true->∀(st:aU) (a:Act) (w:World) (ν:aQ),hh P C.ob gs st K->cm C st a w ν->wpOps P ops Q (List.range' k gs.length) a w
 |[],[],k,_,_,st,a,w,ν,he,hr=>by simp only[mJ,List.range'_zero,wpOps];exact jb _ _ _ _ he hr
 |[],_::_,_,_,ab,_,_,_,_,_,_=>by simp[ja]at ab
 |_::_,[],_,_,ab,_,_,_,_,_,_=>by simp[ja]at ab
 |g::gs,o::os,k,xX,ab,st,a,w,ν,he,hr=>by
  simp only[ja,bJ]at ab;have bz:ops[k]? =some o:=by simpa using(xX 0).symm
  have wy:∀j,os[j]? =ops[k+1+j]?:=fun j=>by have:=xX (j+1);simpa[Nat.add_assoc,Nat.add_comm 1 j]using this
  simp only[gg,List.range'_succ,wpOps,bz];have aX:∀st' ch w' ν',hh P C.ob gs st' K->cm C st' ch w' ν'->wpOps P ops Q (List.range' (k+1) gs.length) ch w':=fun st' ch w' ν' I J=>J0 aE jb gs os (k+1) wy ab.2 st' ch w' ν' I J;obtain⟨Kb,R5⟩:=g;have aS:=ab.1;simp only[C7,bJ]at aS;obtain⟨nB,Bb⟩:=aS;cases Kb with
  |none=>
   cases fb:o.guard with
   |some x=>simp[fb]at nB
   |none=>
    have hw:pQ o (yielded ops a.tmps)=true:=by simp[pQ,fb]
    rw[if_pos hw];simp only[hh]at he;exact .inl (QZ aE hr Bb he aX)
  |some z6=>
   obtain⟨s,want⟩:=z6;cases fb:o.guard with
   |none=>simp[fb]at nB
   |some x=>
    obtain⟨j,gV⟩:=x;simp only[fb,bJ,eA,fs]at nB;obtain⟨⟨⟨⟨rfl,J⟩,au⟩,aP⟩,bA⟩:=nB;obtain⟨Iw,Iy⟩:=Ym hr J au;simp only[hh]at he;split at he
    ·rename_i b ah;have bG:=Iw b ah;by_cases e:b=want
     ·subst e;have hw:pQ o (yielded ops a.tmps)=true:=by simp[pQ,fb,bG]
      rw[if_pos hw];exact .inl (QZ aE (M3 hr ah) Bb (he.1 rfl) aX)
     ·have hw:¬(pQ o (yielded ops a.tmps)=true):=by simp[pQ,fb,bG,e]
      rw[br hw];have fk:b= !want:=by cases b<;>cases want<;>simp at e⊢
      have kc:cm C {st with t:=put s (.bool !want) st.t} a w ν:=M3 hr (by rw[ah,fk]);rw[aP];exact aX _ _ _ _ (he.2 fk) (kc.put bA (by simp[aJ,cz,undef]))
    ·rename_i ah;have bG:=Iy ah;have hw:¬(pQ o (yielded ops a.tmps)=true):=by simp[pQ,fb,bG]
     rw[br hw,aP];exact aX _ _ _ _ he (hr.put bA (by simp[aJ,cz,undef]))
    ·exact he.elim
structure dk where
 t:Nat->ae
 b:aC->aW (List ae)
 e:aC->aW dn
 F:aC->Prop
structure ls where
 d:aW Nat
 p:ae
 bw:List (aC×List ae)
 ew:List (aC×dn)
 rm:aW aC
def iZ{α:Type}(l:List (aC×α))(f:aC->aW α):aC->aW α:=fun k=>match look k l with|some x=>some x|none=>f k
def dk.do(A:dk)(x:ls):dk:={t:=fun i=>if x.d=some i then x.p else A.t i,b:=iZ x.bw A.b,e:=iZ x.ew A.e,F:=fun k=>A.F k/\x.rm≠some k}
structure ls.apart (x y:ls):Prop where
 d:∀i,x.d=some i->y.d≠some i
 b:∀k,(look k x.bw).isSome->look k y.bw=none
 e:∀k,(look k x.ew).isSome->look k y.ew=none
theorem dk.do_comm(A:dk){x y:ls}(h:x.apart y):(A.do x).do y=(A.do y).do x:=by
 simp only[dk.do,dk.mk.injEq];refine⟨?_,?_,?_,?_⟩
 ·funext i;by_cases I:x.d=some i
  ·have:=h.d i I;simp[I,this]
  ·simp[I]
 ·funext k;simp only[iZ];cases af:look k x.bw with
  |none=>cases look k y.bw<;>rfl
  |some u=>rw[h.b k (by simp[af])]
 ·funext k;simp only[iZ];cases af:look k x.ew with
  |none=>cases look k y.ew<;>rfl
  |some u=>rw[h.e k (by simp[af])]
 ·funext k;exact propext ⟨fun h=>⟨⟨h.1.1,h.2⟩,h.1.2⟩,fun h=>⟨⟨h.1.1,h.2⟩,h.1.2⟩⟩
def dH(t:Nat->ae):dm->ae
 | .t i=>t i
 | .c p=>p
def tN(b:aC->aW (List ae))(e:aC->aW dn)(agg:Bool)(sz:Nat):ae->aW (Prop×ae)
 | .rptr dL k n i f=>zT agg sz dL n i f (e k)
 | .ptr k off=>
  match b k with
  |some cs=>if agg then some (gO cs=true/\off+sz<=cs.length,.agg ((cs.drop off).take sz))else(cs[off]?).map fun p=>(gO cs=true,p)
  |none=>none
 | .eptr p=>if agg then some (isAgg sz p,p)else some (eV p=true/\cells p=[p],p)
 |_=>none
def yV(t:Nat->ae):List ae->List (Nat×Nat×dm)->aW (Prop×List ae)
 |cs,[]=>some (True,cs)
 |cs,(off,sz,x)::r=>
  match yV t (nL cs off (cells (dH t x))) r with
  |some (c,cs')=>some ((eV (dH t x)=true/\(cells (dH t x)).length=sz/\off+sz<=cs.length)/\c,cs')
  |none=>none
def qx(t:Nat->ae)(b:aC->aW (List ae))(e:aC->aW dn):gC->aW (Prop×ae)
 | .mov x=>some (True,dH t x)
 | .pick c x y=>HE (dH t c) (dH t x) (dH t y)
 | .load agg sz x=>tN b e agg sz (dH t x)
 | .faddr off agg sz x=>pf off agg sz (dH t x)
 | .fld off agg sz x=>s3 off agg sz (dH t x)
 | .iaddr sz x i=>Bj sz (dH t x) (dH t i)
 | .sidx x i=>Ic (dH t x) (dH t i)
 | .ssl x lo aw=>Ig (dH t x) (lo.map (dH t)) (aw.map (dH t))
 | .lsl sz x lo aw=>He sz (dH t x) (lo.map (dH t)) (aw.map (dH t))
 | .bin op wr x y=>mg op wr (dH t x) (dH t y)
 | .notB x=>Hr (dH t x)
 | .neg x=>Hm (dH t x)
 | .conv k x=>FF k (dH t x)
 | .ext i x=>FX i (dH t x)
 | .len x=>Bv (dH t x)
 | .slen x=>EV (dH t x)
 | .build zero parts=>(yV t zero parts).map fun(c,cs)=>(c,.agg cs)
 | .nck x=>BD (dH t x)
 | .min2 x y=>Hi (dH t x) (dH t y)
 | .mkf n xs=>some (True,.func n (xs.map (dH t)))
 | .mget cg zero ok x k=>pD b cg zero ok (dH t x) (dH t k)
 | .ment x=>vc b (dH t x)
 | .mlen x=>wK b (dH t x)
 | .beq neg ef x y=>Fq neg ef (dH t x) (dH t y)
 | .max2 x y=>Hg (dH t x) (dH t y)
 | .mkif n x=>some (True,.iface n (dH t x))
 | .loadB agg sz x=>tN b (fun _=>none) agg sz (dH t x)
 | .mgetB cg zero ok x k=>pD b cg zero ok (dH t x) (dH t k)
 | .loadZ agg sz x=>C5 agg sz (dH t x)
 | .b2s x=>Fo (dH t x)
 | .isn neg x=>GY neg (dH t x)
structure me (st:aU) (A:dk):Prop where
 t:∀i,get i st.t=A.t i
 b:∀k,look k st.b=A.b k
 e:∀k,look k st.e=A.e k
theorem ir{st:aU}{A:dk}(h:me st A)(x:dm):bP st.t x=dH A.t x:=by
 cases x
 ·exact h.t _
 ·rfl
theorem qQ{st:aU}{A:dk}(h:me st A):bP st.t=dH A.t:=funext (ir h)
theorem aga{st:aU}{A:dk}(h:me st A)(agg:Bool)(sz:Nat)(p:ae):nG st.b st.e agg sz p=tN A.b A.e agg sz p:=by
 cases p<;>simp only[nG,tN]
 ·rw[h.b];try rfl
 ·rw[h.e]
theorem agb{st:aU}{A:dk}(h:me st A)(agg:Bool)(sz:Nat)(p:ae):nG st.b [] agg sz p=tN A.b (fun _=>none) agg sz p:=by
 cases p<;>simp only[nG,tN]
 ·rw[h.b];try rfl
 ·rfl
theorem Pc{st:aU}{A:dk}(h:me st A):∀(parts:List (Nat×Nat×dm)) (cs:List ae),vL st.t cs parts=yV A.t cs parts
 |[],cs=>rfl
 |(off,sz,x)::r,cs=>by simp only[vL,yV,ir h,Pc h r];try rfl
theorem XR{st:aU}{A:dk}(h:me st A)(i:gC):hk st i=qx A.t A.b A.e i:=by have ah:(fun k=>look k st.b)=A.b:=funext h.b;cases i<;>simp only[hk,qx,qQ h,aga h,agb h,Pc h,ah]
def gX:dm->List Nat
 | .t i=>[i]
 | .c _=>[]
def ME:aW dm->List Nat
 |some x=>gX x
 |none=>[]
def gC.looks:gC->List Nat
 | .mov x| .load _ _ x| .loadB _ _ x| .loadZ _ _ x| .faddr _ _ _ x| .fld _ _ _ x| .notB x| .neg x| .conv _ x| .ext _ x| .len x| .slen x| .nck x| .ment x| .mlen x| .mkif _ x| .b2s x| .isn _ x=>gX x
 | .pick c x y=>gX c++gX x++gX y
 | .iaddr _ x i| .sidx x i=>gX x++gX i
 | .ssl x lo aw| .lsl _ x lo aw=>gX x++ME lo++ME aw
 | .bin _ _ x y| .min2 x y| .max2 x y| .beq _ _ x y=>gX x++gX y
 | .build _ bj=>bj.flatMap fun p=>gX p.2.2
 | .mkf _ xs=>xs.flatMap gX
 | .mget _ _ _ x k| .mgetB _ _ _ x k=>gX x++gX k
def ej.looks:ej->List Nat
 | .v _ i=>i.looks
 | .box _ _ x=>gX x
 | .alloc _ _ _=>[]
 | .store _ x y=>gX x++gX y
 | .storeE _ x y=>gX x++gX y
 | .bsl _ _ _ xs=>xs.flatMap gX
 | .app _ _ _ x y=>gX x++gX y
 | .bslm _ _ _ _ xs=>xs.flatMap gX
 | .mks _ _ _ _ _ x=>gX x
 | .apps _ _ x y=>gX x++gX y
 | .appm _ _ _ _ x y=>gX x++gX y
 | .mkmap _ _=>[]
 | .mput _ x k y=>gX x++gX k++gX y
 | .range _ _ x=>gX x
def ek.looks:ek->List Nat
 | .s i=>i.looks
 | .call _ f xs=>gX f++xs.flatMap gX
 | .next _ x=>gX x
 | .opn _ f xs=>gX f++xs.flatMap gX
 | .callb _ f=>gX f
def cU.looks(g:cU):List Nat:=(match g.g with|some (s,_)=>[s]|none=>[])++g.i.looks
def qI(l:List Nat)(t t':Nat->ae):Prop:= ∀i∈l,t i=t' i
theorem gN{t t':Nat->ae}{x:dm}(h:qI (gX x) t t'):dH t x=dH t' x:=by
 cases x
 ·exact h _ (by simp[gX])
 ·rfl
theorem kK{l c6:List Nat}{t t':Nat->ae}(h:qI (l++c6) t t'):qI l t t'/\qI c6 t t':=⟨fun i aw=>h i (by simp[aw]),fun i aw=>h i (by simp[aw])⟩
theorem FW{t t':Nat->ae}{x:aW dm}(h:qI (ME x) t t'):x.map (dH t)=x.map (dH t'):=by
 cases x
 ·rfl
 ·simp[gN h]
theorem Pb{t t':Nat->ae}:∀{parts:List (Nat×Nat×dm)} {cs:List ae},qI (parts.flatMap fun p=>gX p.2.2) t t'->yV t cs parts=yV t' cs parts
 |[],cs,_=>rfl
 |(off,sz,x)::r,cs,h=>by simp only[List.flatMap_cons]at h;obtain⟨I,J⟩:=kK h;simp only[yV,gN I,Pb J]
theorem Ec{t t':Nat->ae}:∀{xs:List dm},qI (xs.flatMap gX) t t'->xs.map (dH t)=xs.map (dH t')
 |[],_=>rfl
 |x::xs,h=>by simp only[List.flatMap_cons]at h;obtain⟨I,J⟩:=kK h;simp[gN I,Ec J]
def gC.isLoad:gC->Bool
 | .load _ _ _=>true
 | .loadB _ _ _=>true
 | .mgetB _ _ _ _ _=>true
 | .mget _ _ _ _ _=>true
 | .ment _=>true
 | .mlen _=>true
 |_=>false
theorem akq{t t':Nat->ae}{b gV:aC->aW (List ae)}{e hg:aC->aW dn}{i:gC}(h:qI i.looks t t')(ah:i.isLoad=false):qx t b e i=qx t' gV hg i:=by
 cases i<;>simp only[gC.looks]at h<;>simp only[qx];case load agg sz x=>simp[gC.isLoad]at ah
 case loadB agg sz x=>simp[gC.isLoad]at ah
 case pick c x y=>obtain⟨I,au⟩:=kK h;obtain⟨I,J⟩:=kK I;rw[gN I,gN J,gN au]
 case iaddr=>obtain⟨I,J⟩:=kK h;rw[gN I,gN J]
 case sidx=>obtain⟨I,J⟩:=kK h;rw[gN I,gN J]
 case ssl=>obtain⟨I,au⟩:=kK h;obtain⟨I,J⟩:=kK I;rw[gN I,FW J,FW au]
 case lsl=>obtain⟨I,au⟩:=kK h;obtain⟨I,J⟩:=kK I;rw[gN I,FW J,FW au]
 case bin=>obtain⟨I,J⟩:=kK h;rw[gN I,gN J]
 case min2=>obtain⟨I,J⟩:=kK h;rw[gN I,gN J]
 case build=>rw[Pb h]
 case mkf=>rw[Ec h]
 case mget=>simp[gC.isLoad]at ah
 case mgetB=>simp[gC.isLoad]at ah
 case ment=>simp[gC.isLoad]at ah
 case mlen=>simp[gC.isLoad]at ah
 case max2=>obtain⟨I,J⟩:=kK h;rw[gN I,gN J]
 case beq=>obtain⟨I,J⟩:=kK h;rw[gN I,gN J]
 all_goals rw[gN h]
def agE(A:dk)(s al:dJ)(rm:aW aC):Prop:=(∀k,(look k al.b).isSome->(look k s.b).isSome\/rm=some k)/\(∀k,(look k al.e).isSome->(look k s.e).isSome\/rm=some k)/\(∀k,(look k s.b).isSome->(look k al.b).isSome)/\(∀k,(look k s.e).isSome->(look k al.e).isSome)/\
 (∀k,rm=some k->(∃j,k= .obj j)/\A.F k/\A.b k=none/\A.e k=none/\((look k al.b).isSome\/(look k al.e).isSome))
def Yx(P:bS)(n:Nat)(args:List ae)(A:dk)(d:aW Nat)(x:ls):Prop:=
 ∃s al r rm,(∀k cs,look k s.b=some cs->A.b k=some cs/\kinL (ak s) cs)/\(∀k o,look k s.e=some o->A.e k=some o/\cw (ak s) o)/\hV s/\hV al/\agE A s al rm/\kinL (ak s) args/\
  b3 P n args s (fun cZ t'=>cZ=r/\t'=al)/\x=⟨d,r,al.b,al.e,rm⟩
def Yy(P:bS)(n0 n:Nat)(args:List ae)(A:dk)(d:aW Nat)(x:ls):Prop:=
 ∃gP r,d=some gP/\(A.F (.loc (n0+gP))/\A.b (.loc (n0+gP))=none/\A.e (.loc (n0+gP))=none)/\kinL (fun _=>dr) args/\
  FnK P n (n0+gP) args ⟨[],[]⟩ (fun cZ t'=>cZ=r/\t'=⟨[],[]⟩)/\x=⟨d,r,[],[],some (.loc (n0+gP))⟩
def zz:ae->Bool
 | .ptr (.loc _) _=>true
 | .eptr _=>true
 |_=>false
def gC.isB:gC->Bool
 | .loadB _ _ _=>true
 | .mgetB _ _ _ _ _=>true
 |_=>false
def gC.ptrOf(t:Nat->ae):gC->ae
 | .load _ _ x=>dH t x
 | .loadB _ _ x=>dH t x
 |_=>.junk
def dX(P:bS)(q:Bool)(n0:Nat):ek->dk->ls->Prop
 | .s (.v d i),A,x=> ∃c p,qx A.t A.b A.e i=some (c,p)/\c/\(i.isLoad=true->i.isB=true\/q=true\/zz (i.ptrOf A.t)=true)/\x=⟨some d,p,[],[],none⟩
 | .s (.box d none v),A,x=>(A.F (.loc (n0+d))/\A.b (.loc (n0+d))=none/\A.e (.loc (n0+d))=none)/\eV (dH A.t v)=true/\x=⟨some d,.ptr (.loc (n0+d)) 0,[(.loc (n0+d),cells (dH A.t v))],[],some (.loc (n0+d))⟩
 | .s (.alloc d none z),A,x=>(A.F (.loc (n0+d))/\A.b (.loc (n0+d))=none/\A.e (.loc (n0+d))=none)/\x=⟨some d,.ptr (.loc (n0+d)) 0,[(.loc (n0+d),cells z)],[],some (.loc (n0+d))⟩
 | .s (.store sz u v),A,x=> ∃k off cs,dH A.t u= .ptr k off/\A.b k=some cs/\(gO cs=true/\eV (dH A.t v)=true/\(cells (dH A.t v)).length=sz/\off+sz<=cs.length)/\x=⟨none,.junk,[(k,nL cs off (cells (dH A.t v)))],[],none⟩
 | .s (.bsl d sz el xs),A,x=>(A.F (.loc (n0+d))/\A.b (.loc (n0+d))=none/\A.e (.loc (n0+d))=none)/\rJ sz (xs.map (dH A.t))/\x=⟨some d,.slice sz (.own (.loc (n0+d))) (xs.map (dH A.t)),[],[(.loc (n0+d),⟨xs.length,el,sz,none⟩)],some (.loc (n0+d))⟩
 | .s (.app d sz el u v),A,x=> ∃tag xs hC ys,dH A.t u= .slice sz tag xs/\dH A.t v= .slice sz hC ys/\
   ((∃k o,tag= .own k/\A.e k=some o/\(o.xs=none/\o.n=xs.length/\o.el=el/\o.sz=sz/\xs.length+ys.length<=aR)/\x=⟨some d,.slice sz (.own k) (xs++ys),[],[(k,⟨xs.length+ys.length,el,sz,none⟩)],none⟩)\/
    (tag= .nil/\ys.length<=aR/\(A.F (.loc (n0+d))/\A.b (.loc (n0+d))=none/\A.e (.loc (n0+d))=none)/\x=⟨some d,.slice sz (.own (.loc (n0+d))) ys,[],[(.loc (n0+d),⟨ys.length,el,sz,none⟩)],some (.loc (n0+d))⟩))
 | .s (.bslm d (some m) sz el xs),A,x=>(A.F (.obj m)/\A.b (.obj m)=none/\A.e (.obj m)=none)/\rJ sz (xs.map (dH A.t))/\x=⟨some d,.row sz (.obj m) xs.length,[],[(.obj m,⟨xs.length,el,sz,some (xs.map (dH A.t))⟩)],some (.obj m)⟩
 | .s (.appm d none sz el u v),A,x=> ∃k n xs hC ys,dH A.t u= .row sz k n/\dH A.t v= .slice sz hC ys/\A.e k=some ⟨n,el,sz,some xs⟩/\xs.length+ys.length<=aR/\x=⟨some d,.row sz k (xs.length+ys.length),[],[(k,⟨xs.length+ys.length,el,sz,some (xs++ys)⟩)],none⟩
 | .s (.appm d (some m) sz el u v),A,x=>(∃k n xs hC ys,dH A.t u= .row sz k n/\dH A.t v= .slice sz hC ys/\A.e k=some ⟨n,el,sz,some xs⟩/\xs.length+ys.length<=aR/\x=⟨some d,.row sz k (xs.length+ys.length),[],[(k,⟨xs.length+ys.length,el,sz,some (xs++ys)⟩)],none⟩)\/ ∃xs hC ys,dH A.t u= .slice sz .nil xs/\dH A.t v= .slice sz hC ys/\(A.F (.obj m)/\A.b (.obj m)=none/\A.e (.obj m)=none)/\(ys.length<=aR/\ys≠[])/\x=⟨some d,.row sz (.obj m) ys.length,[],[(.obj m,⟨ys.length,el,sz,some ys⟩)],some (.obj m)⟩
 | .s (.storeE sz u v),A,x=> ∃k n i f el dL xs q,dH A.t u= .rptr dL k n i f/\A.e k=some ⟨n,el,dL,some xs⟩/\xs[i]? =some q/\(eV q=true/\eV (dH A.t v)=true/\(cells (dH A.t v)).length=sz/\f+sz<=(cells q).length/\0<sz)/\x=⟨none,.junk,[],[(k,⟨n,el,dL,some (xs.set i (sd q f (cells (dH A.t v))))⟩)],none⟩
 | .s (.mkmap d (some m)),A,x=>(A.F (.obj m)/\A.b (.obj m)=none/\A.e (.obj m)=none)/\x=⟨some d,.gmap (.obj m),[(.obj m,[.hdm 0 []])],[],some (.obj m)⟩
 | .s (.mput cg u k v),A,x=> ∃m cs cs',dH A.t u= .gmap m/\A.b m=some cs/\r3 cg (dH A.t k) (dH A.t v) cs=some cs'/\x=⟨none,.junk,[(m,cs')],[],none⟩
 | .call d f xs,A,x=> ∃n dP,dH A.t f= .func n dP/\((Yx P n (bC (xs.map (dH A.t)++dP)) A d x/\(q=true->x.bw=[]/\x.ew=[]))\/Yy P n0 n (bC (xs.map (dH A.t)++dP)) A d x)
 |_,_,_=>dr
inductive Cp where
 |v|l|n|s|w|a|c|m|r|k|z
 deriving DecidableEq
def ek.mode:ek->Cp
 | .s (.v _ (.loadB _ _ _))=>.m
 | .s (.v _ (.mgetB _ _ _ _ _))=>.m
 | .s (.v _ i)=>if i.isLoad then .l else .v
 | .s (.storeE _ _ _)=>.r
 | .s (.box _ _ _)=>.n
 | .s (.alloc _ _ _)=>.n
 | .s (.store _ _ _)=>.w
 | .s (.bsl _ _ _ _)=>.s
 | .s (.app _ _ _ _ _)=>.a
 | .s (.bslm _ none _ _ _)=>.w
 | .s (.bslm _ (some _) _ _ _)=>.z
 | .s (.mks _ _ _ _ _ _)=>.w
 | .s (.apps _ _ _ _)=>.w
 | .s (.appm _ none _ _ _ _)=>.r
 | .s (.appm _ (some _) _ _ _ _)=>.z
 | .s (.mkmap _ _)=>.k
 | .s (.mput _ _ _ _)=>.w
 | .s (.range _ _ _)=>.w
 | .call _ _ _=>.c
 | .next _ _=>.w
 | .opn _ _ _=>.w
 | .callb _ _=>.w
structure IG (q:Bool) (n0:Nat) (m:Cp) (dst:aW Nat) (A:dk) (x:ls):Prop where
 d:x.d=dst
 b:∀k,(look k x.bw).isSome->(m= .n/\∃d,dst=some d/\k= .loc (n0+d)/\A.b k=none/\A.e k=none)\/m= .w\/(m= .c/\(∃j,k= .obj j)/\q=false)\/(m= .k/\(∃j,k= .obj j)/\A.b k=none/\A.e k=none)
 e:∀k,(look k x.ew).isSome->(m= .s/\∃d,dst=some d/\k= .loc (n0+d)/\A.b k=none/\A.e k=none)\/(m= .a/\(A.e k≠none\/ ∃d,dst=some d/\k= .loc (n0+d)/\A.b k=none/\A.e k=none))\/(m= .c/\(∃j,k= .obj j)/\q=false)\/(m= .r/\∃o,A.e k=some o/\o.xs≠none)\/m= .z
 r:∀k,x.rm=some k->(∃d,dst=some d/\k= .loc (n0+d))\/((m= .c\/m= .k\/m= .z)/\(∃j,k= .obj j)/\((look k x.bw).isSome\/(look k x.ew).isSome))
 ex:m= .a->∀k o,(look k x.ew).isSome->A.e k=some o->o.xs=none
 xn:m= .a\/m= .s->∀k o,look k x.ew=some o->o.xs=none
theorem va{α:Type}{k bn:aC}{x:α}(h:(look k [(bn,x)]).isSome):k=bn:=by
 simp only[look]at h;split at h
 ·rename_i e;exact e.symm
 ·cases h
theorem L0{k bn:aC}{n el sz:Nat}{o:dn}(h:look k [(bn,(⟨n,el,sz,none⟩:dn))]=some o):o.xs=none:=by
 simp only[look]at h;split at h
 ·cases h;rfl
 ·cases h
theorem XE{P:bS}{q:Bool}{n0:Nat}{i:ek}{A:dk}{x:ls}(h:dX P q n0 i A x):IG q n0 i.mode i.dst A x:=by
 cases i with
 |s i=>
  cases i with
  |v d i=>simp only[dX]at h;obtain⟨c,p,_,_,_,rfl⟩:=h;exact⟨rfl,fun k ab=>by simp[look]at ab,fun k ab=>by simp[look]at ab,fun k ab=>by simp at ab,fun _ k o ab=>by simp[look]at ab,fun _ k o ab=>by simp[look]at ab⟩
  |box d key v=>
   cases key with
   |some m=>simp only[dX]at h
   |none=>simp only[dX]at h;obtain⟨⟨_,J,au⟩,_,rfl⟩:=h;exact⟨rfl,fun k ab=>by obtain rfl:=va ab;exact .inl ⟨rfl,d,rfl,rfl,J,au⟩,fun k ab=>by simp[look]at ab,fun k ab=>by simp at ab;exact .inl ⟨d,rfl,ab.symm⟩,fun _ k o ab=>by simp[look]at ab,fun _ k o ab=>by simp[look]at ab⟩
  |alloc d key z=>
   cases key with
   |some m=>simp only[dX]at h
   |none=>simp only[dX]at h;obtain⟨⟨_,J,au⟩,rfl⟩:=h;exact⟨rfl,fun k ab=>by obtain rfl:=va ab;exact .inl ⟨rfl,d,rfl,rfl,J,au⟩,fun k ab=>by simp[look]at ab,fun k ab=>by simp at ab;exact .inl ⟨d,rfl,ab.symm⟩,fun _ k o ab=>by simp[look]at ab,fun _ k o ab=>by simp[look]at ab⟩
  |store sz u v=>simp only[dX]at h;obtain⟨k,off,cs,_,_,_,rfl⟩:=h;exact⟨rfl,fun k ab=>.inr (.inl rfl),fun k ab=>by simp[look]at ab,fun k ab=>by simp at ab,fun _ k o ab=>by simp[look]at ab,fun _ k o ab=>by simp[look]at ab⟩
  |bsl d sz el xs=>simp only[dX]at h;obtain⟨⟨_,J,au⟩,_,rfl⟩:=h;exact⟨rfl,fun k ab=>by simp[look]at ab,fun k ab=>by obtain rfl:=va ab;exact .inl ⟨rfl,d,rfl,rfl,J,au⟩,fun k ab=>by simp at ab;exact .inl ⟨d,rfl,ab.symm⟩,fun e=>by simp[ek.mode]at e,fun _ k o ab=>L0 ab⟩
  |app d sz el u v=>
   simp only[dX]at h;obtain⟨tag,xs,hC,ys,_,_,h⟩:=h;rcases h with⟨k,o,_,I,⟨fh,_⟩,rfl⟩|⟨_,_,⟨_,J,au⟩,rfl⟩
   ·exact⟨rfl,fun k ab=>by simp[look]at ab,fun k ab=>by obtain rfl:=va ab;exact .inr (.inl ⟨rfl,.inl (by rw[I];simp)⟩),fun k ab=>by simp at ab,fun _ bn o' ab aq=>by obtain rfl:=va ab;rw[I]at aq;cases aq;exact fh,fun _ k o ab=>L0 ab⟩
   ·exact⟨rfl,fun k ab=>by simp[look]at ab,fun k ab=>by obtain rfl:=va ab;exact .inr (.inl ⟨rfl,.inr ⟨d,rfl,rfl,J,au⟩⟩),fun k ab=>by simp at ab;exact .inl ⟨d,rfl,ab.symm⟩,fun _ bn o' ab aq=>(by obtain rfl:=va ab;rw[au]at aq;cases aq),fun _ k o ab=>L0 ab⟩
  |bslm d key sz el xs=>
   cases key with
   |none=>simp only[dX]at h
   |some m=>simp only[dX]at h;obtain⟨⟨_,J,au⟩,_,rfl⟩:=h;exact⟨rfl,fun k ab=>by simp[look]at ab,fun k ab=>.inr (.inr (.inr (.inr rfl))),fun k ab=>by simp at ab;subst ab;exact .inr ⟨.inr (.inr rfl),⟨m,rfl⟩,.inr (by simp[look])⟩,fun e=>by simp[ek.mode]at e,fun e=>by simp[ek.mode]at e⟩
  |mks d key sz el z x=>simp only[dX]at h
  |apps d el x y=>simp only[dX]at h
  |appm d key sz el u v=>
   cases key with
   |none=>simp only[dX]at h;obtain⟨k,n,xs,hC,ys,_,_,I,_,rfl⟩:=h;exact⟨rfl,fun k ab=>by simp[look]at ab,fun k ab=>by obtain rfl:=va ab;exact .inr (.inr (.inr (.inl ⟨rfl,_,I,Ψ⟩))),fun k ab=>by simp at ab,fun e=>by simp[ek.mode]at e,fun e=>by simp[ek.mode]at e⟩
   |some m=>
    simp only[dX]at h;rcases h with⟨k,n,xs,hC,ys,_,_,I,_,rfl⟩|⟨xs,hC,ys,_,_,⟨_,J,au⟩,_,rfl⟩
    ·exact⟨rfl,fun k ab=>by simp[look]at ab,fun k ab=>.inr (.inr (.inr (.inr rfl))),fun k ab=>by simp at ab,fun e=>by simp[ek.mode]at e,fun e=>by simp[ek.mode]at e⟩
    exact⟨rfl,fun k ab=>by simp[look]at ab,fun k ab=>.inr (.inr (.inr (.inr rfl))),fun k ab=>by simp at ab;subst ab;exact .inr ⟨.inr (.inr rfl),⟨m,rfl⟩,.inr (by simp[look])⟩,fun e=>by simp[ek.mode]at e,fun e=>by simp[ek.mode]at e⟩
  |storeE sz u v=>simp only[dX]at h;obtain⟨k,n,i,f,el,dL,xs,q,_,I,_,_,rfl⟩:=h;exact⟨rfl,fun k ab=>by simp[look]at ab,fun k ab=>by obtain rfl:=va ab;exact .inr (.inr (.inr (.inl ⟨rfl,_,I,Ψ⟩))),fun k ab=>by simp at ab,fun e=>by simp[ek.mode]at e,fun e=>by simp[ek.mode]at e⟩
  |mkmap d key=>
   cases key with
   |none=>simp only[dX]at h
   |some m=>simp only[dX]at h;obtain⟨⟨_,J,au⟩,rfl⟩:=h;exact⟨rfl,fun k ab=>by obtain rfl:=va ab;exact .inr (.inr (.inr ⟨rfl,⟨m,rfl⟩,J,au⟩)),fun k ab=>by simp[look]at ab,fun k ab=>by simp at ab;subst ab;exact .inr ⟨.inr (.inl rfl),⟨m,rfl⟩,.inl (by simp[look])⟩,fun e=>by simp[ek.mode]at e,fun e=>by simp[ek.mode]at e⟩
  |mput cg x k v=>simp only[dX]at h;obtain⟨m,cs,cs',_,_,_,rfl⟩:=h;exact⟨rfl,fun k ab=>.inr (.inl rfl),fun k ab=>by simp[look]at ab,fun k ab=>by simp at ab,fun e=>by simp[ek.mode]at e,fun e=>by simp[ek.mode]at e⟩
  |range d key x=>simp only[dX]at h
 |next d x=>simp only[dX]at h
 |opn d f x=>simp only[dX]at h
 |callb d f=>simp only[dX]at h
 |call d f xs=>
  simp only[dX]at h;obtain⟨n,dP,_,h⟩:=h;rcases h with⟨⟨s,al,r,rm,_,_,_,aq,S0,_,_,rfl⟩,bp⟩|⟨gP,r,rfl,_,_,_,rfl⟩;rotate_left
  ·exact⟨rfl,fun k ab=>by simp[look]at ab,fun k ab=>by simp[look]at ab,fun k ab=>by simp at ab;exact .inl ⟨gP,rfl,ab.symm⟩,fun _ k o ab=>by simp[look]at ab,fun _ k o ab=>by simp[look]at ab⟩
  refine⟨rfl,fun k ab=>.inr (.inr (.inl ⟨rfl,?_,?_⟩)),fun k ab=>.inr (.inr (.inl ⟨rfl,?_,?_⟩)),fun k ab=>.inr ⟨.inl rfl,(S0.2.2.2.2 k ab).1,(S0.2.2.2.2 k ab).2.2.2.2⟩,fun e=>by simp[ek.mode]at e,fun e=>by simp[ek.mode]at e⟩
  ·cases k with
   |loc m=>rw[aq.1 m]at ab;cases ab
   |obj m=>exact⟨m,rfl⟩
  ·cases q with
   |false=>rfl
   |true=>rw[(bp rfl).1]at ab;simp[look]at ab
  ·cases k with
   |loc m=>rw[aq.2 m]at ab;cases ab
   |obj m=>exact⟨m,rfl⟩
  ·cases q with
   |false=>rfl
   |true=>rw[(bp rfl).2]at ab;simp[look]at ab
theorem OF{P:bS}{q:Bool}{n0:Nat}{i:ek}{A A':dk}{x:ls}(h:dX P q n0 i A x)(aE:qI i.looks A.t A'.t)
  (aD:i.mode= .l->∀k,(q=true\/ ∃m,k= .loc m)->A.b k≠none->A'.b k=A.b k) (xT:i.mode= .m->∀k,A.b k≠none->A'.b k=A.b k)
  (DM:i.mode= .l->q=true->∀k o,A.e k=some o->o.xs≠none->A'.e k=some o)
  (aM:∀d,i.dst=some d->(i.mode= .n\/i.mode= .s\/i.mode= .a\/i.mode= .c)->(A.F (.loc (n0+d))/\A.b (.loc (n0+d))=none/\A.e (.loc (n0+d))=none)->(A'.F (.loc (n0+d))/\A'.b (.loc (n0+d))=none/\A'.e (.loc (n0+d))=none))
  (bL:i.mode= .a->∀k o,A.e k=some o->A'.e k=some o) (hw:i.mode= .w->∀k,A'.b k=A.b k) (Lh:i.mode= .z->(∀m,(A.F (.obj m)/\A.b (.obj m)=none/\A.e (.obj m)=none)->(A'.F (.obj m)/\A'.b (.obj m)=none/\A'.e (.obj m)=none))/\∀k,A'.e k=A.e k) (rY:i.mode= .k->∀m,(A.F (.obj m)/\A.b (.obj m)=none/\A.e (.obj m)=none)->(A'.F (.obj m)/\A'.b (.obj m)=none/\A'.e (.obj m)=none)) (DL:i.mode= .r->∀k o,A.e k=some o->o.xs≠none->A'.e k=some o)
  (aH:i.mode= .c->∀m,A'.b (.obj m)=A.b (.obj m)/\A'.e (.obj m)=A.e (.obj m)/\(A.F (.obj m)->A'.F (.obj m))):dX P q n0 i A' x:=by
 cases i with
 |s i=>
  cases i with
  |v d i=>
   simp only[dX]at h⊢;obtain⟨c,p,I,J,au,aP⟩:=h;by_cases hB:∃agg sz y,i= .loadB agg sz y
   ·obtain⟨agg,sz,y,rfl⟩:=hB;simp only[ek.looks,ej.looks,gC.looks]at aE;have we:=gN aE;refine⟨c,p,?_,J,fun _=>.inl rfl,aP⟩;rw[<-I];simp only[qx,<-we];have hm:=xT (by simp[ek.mode]);simp only[qx]at I;cases aV:dH A.t y<;>simp only[tN];rename_i key off;rw[aV]at I;simp only[tN]at I;cases ah:A.b key with
    |none=>simp[ah]at I
    |some cs=>have:A'.b key=A.b key:=hm key (by rw[ah];simp);rw[this,ah]
   by_cases Gi:∃cg zero ok y z,i= .mgetB cg zero ok y z
   ·obtain⟨cg,zero,ok,y,z,rfl⟩:=Gi;simp only[ek.looks,ej.looks,gC.looks]at aE;obtain⟨t1,t2⟩:=kK aE;refine⟨c,p,?_,J,fun _=>.inl rfl,aP⟩;simp only[qx]at I⊢;rw[<-gN t1,<-gN t2];exact UK (xT (by simp[ek.mode])) I
   replace au:i.isLoad=true->q=true\/zz (i.ptrOf A.t)=true:=fun kP=>(au kP).resolve_left (fun ah=>by cases i<;>simp[gC.isB]at ah;exact hB ⟨_,_,_,rfl⟩;exact Gi ⟨_,_,_,_,_,rfl⟩);have aeK:i.isLoad=true->(ek.s (.v d i)).mode= .l:=by intro kP;cases i<;>simp only[gC.isLoad]at kP<;>first|(cases kP;done)|(simp[ek.mode,gC.isLoad];done)|exact absurd ⟨_,_,_,rfl⟩ hB|exact absurd ⟨_,_,_,_,_,rfl⟩ Gi
   by_cases kP:i.isLoad=true
   ·have bp:∀(aV:zz (i.ptrOf A.t)=false),∀k,A.b k≠none->A'.b k=A.b k:=fun aV k ab=>aD (aeK kP) k (.inl ((au kP).resolve_right (by rw[aV];simp))) ab;cases i<;>simp only[gC.isLoad]at kP<;>try(cases kP;done)
    case mget cg zero ok y z=>simp only[ek.looks,ej.looks,gC.looks]at aE;obtain⟨t1,t2⟩:=kK aE;refine⟨c,p,?_,J,fun _=>.inr (au rfl),aP⟩;simp only[qx]at I⊢;rw[<-gN t1,<-gN t2];exact UK (bp rfl) I
    case ment y=>simp only[ek.looks,ej.looks,gC.looks]at aE;refine⟨c,p,?_,J,fun _=>.inr (au rfl),aP⟩;simp only[qx]at I⊢;rw[<-gN aE];exact agn (bp rfl) I
    case mlen y=>simp only[ek.looks,ej.looks,gC.looks]at aE;refine⟨c,p,?_,J,fun _=>.inr (au rfl),aP⟩;simp only[qx]at I⊢;rw[<-gN aE];exact agt (bp rfl) I
    case loadB agg sz y=>exact absurd ⟨_,_,_,rfl⟩ hB
    case mgetB=>exact absurd ⟨_,_,_,_,_,rfl⟩ Gi
    rename_i agg sz y;simp only[ek.looks,ej.looks,gC.looks]at aE;have we:=gN aE;refine⟨c,p,?_,J,fun _=>.inr (by have:=au rfl;simpa only[gC.ptrOf,<-we]using this),aP⟩;rw[<-I];simp only[qx,<-we];have hm:=aD (by simp[ek.mode,gC.isLoad]);simp only[qx]at I;have Db:=au rfl;simp only[gC.ptrOf]at Db;cases aV:dH A.t y<;>simp only[tN]
    ·rename_i key off;rw[aV]at I Db;simp only[tN]at I;cases ah:A.b key with
     |none=>simp[ah]at I
     |some cs=>have:A'.b key=A.b key:=hm key (by rcases Db with h|h;exact .inl h;cases key;exact .inr ⟨_,rfl⟩;simp[zz]at h) (by rw[ah];simp);rw[this,ah]
    ·rename_i dL key n i f;rw[aV]at I Db;simp only[tN]at I;have KU:q=true:=Db.resolve_right (by simp[zz]);unfold zT at I;split at I
     ·rename_i n' el iz xs he;rw[he,DM (by simp[ek.mode,gC.isLoad]) KU key _ he Ψ]
     ·cases I
   ·have kP:i.isLoad=false:=by simpa using kP
    refine⟨c,p,?_,J,(fun e=>by rw[kP]at e;cases e),aP⟩;rw[<-I];exact(akq (by simpa only[ek.looks,ej.looks]using aE) kP).symm
  |box d key v=>
   cases key with
   |some m=>simp only[dX]at h
   |none=>simp only[dX,ek.looks,ej.looks]at h aE⊢;obtain⟨I,J,au⟩:=h;rw[<-gN aE];exact⟨aM d rfl (.inl rfl) I,J,au⟩
  |alloc d key z=>
   cases key with
   |some m=>simp only[dX]at h
   |none=>simp only[dX]at h⊢;exact⟨aM d rfl (.inl rfl) h.1,h.2⟩
  |store sz u v=>simp only[dX,ek.looks,ej.looks]at h aE⊢;obtain⟨I,J⟩:=kK aE;rw[<-gN I,<-gN J];obtain⟨k,off,cs,g1,g2,g3,g4⟩:=h;exact⟨k,off,cs,g1,by rw[hw rfl];exact g2,g3,g4⟩
  |bsl d sz el xs=>simp only[dX,ek.looks,ej.looks]at h aE⊢;rw[<-Ec aE];exact⟨aM d rfl (.inr (.inl rfl)) h.1,h.2⟩
  |app d sz el u v=>
   simp only[dX,ek.looks,ej.looks]at h aE⊢;obtain⟨I,J⟩:=kK aE;rw[<-gN I,<-gN J];obtain⟨tag,xs,hC,ys,g1,g2,h⟩:=h;refine⟨tag,xs,hC,ys,g1,g2,?_⟩;rcases h with⟨k,o,ao,aL,bB⟩|⟨ao,aL,bB,b9⟩
   ·exact .inl ⟨k,o,ao,bL rfl k o aL,bB⟩
   ·exact .inr ⟨ao,aL,aM d rfl (.inr (.inr (.inl rfl))) bB,b9⟩
  |bslm d key sz el xs=>
   cases key with
   |none=>simp only[dX]at h
   |some m=>simp only[dX,ek.looks,ej.looks]at h aE⊢;rw[<-Ec aE];exact⟨(Lh rfl).1 m h.1,h.2⟩
  |mks d key sz el z x=>simp only[dX]at h
  |apps d el x y=>simp only[dX]at h
  |appm d key sz el u v=>
   cases key with
   |none=>simp only[dX,ek.looks,ej.looks]at h aE⊢;obtain⟨I,J⟩:=kK aE;rw[<-gN I,<-gN J];obtain⟨k,n,xs,hC,ys,g1,g2,g3,g4,g5⟩:=h;exact⟨k,n,xs,hC,ys,g1,g2,DL rfl k _ g3 Ψ,g4,g5⟩
   |some m=>
    simp only[dX,ek.looks,ej.looks]at h aE⊢;obtain⟨I,J⟩:=kK aE;rw[<-gN I,<-gN J];rcases h with⟨k,n,xs,hC,ys,g1,g2,g3,g4,g5⟩|⟨xs,hC,ys,g1,g2,g3,g4⟩
    ·exact .inl ⟨k,n,xs,hC,ys,g1,g2,by rw[(Lh rfl).2];exact g3,g4,g5⟩
    ·exact .inr ⟨xs,hC,ys,g1,g2,(Lh rfl).1 m g3,g4⟩
  |storeE sz u v=>simp only[dX,ek.looks,ej.looks]at h aE⊢;obtain⟨I,J⟩:=kK aE;rw[<-gN I,<-gN J];obtain⟨k,n,i,f,el,dL,xs,q,g1,g2,g3⟩:=h;exact⟨k,n,i,f,el,dL,xs,q,g1,DL rfl k _ g2 Ψ,g3⟩
  |mkmap d key=>
   cases key with
   |none=>simp only[dX]at h
   |some m=>simp only[dX]at h⊢;exact⟨rY rfl m h.1,h.2⟩
  |mput cg u k v=>simp only[dX,ek.looks,ej.looks]at h aE⊢;obtain⟨t1,t3⟩:=kK aE;obtain⟨t1,t2⟩:=kK t1;obtain⟨m,cs,cs',g1,g2,g3,g4⟩:=h;rw[<-gN t1,<-gN t2,<-gN t3];exact⟨m,cs,cs',g1,by rw[hw rfl];exact g2,g3,g4⟩
  |range d key x=>simp only[dX]at h
 |next d x=>simp only[dX]at h
 |opn d f x=>simp only[dX]at h
 |callb d f=>simp only[dX]at h
 |call d f xs=>
  simp only[dX,ek.looks]at h aE⊢;obtain⟨I,J⟩:=kK aE;rw[<-gN I,<-Ec J];obtain⟨n,dP,g1,h⟩:=h;rcases h with⟨⟨s,al,r,rm,cF,c2,c3,c4,c5,j8⟩,g3⟩|⟨gP,r,rfl,cF,c2⟩;rotate_left
  ·exact⟨n,dP,g1,.inr ⟨gP,r,rfl,aM gP rfl (.inr (.inr (.inr rfl))) cF,c2⟩⟩
  refine⟨n,dP,g1,.inl ⟨⟨s,al,r,rm,fun k cs ab=>?_,fun k o ab=>?_,c3,c4,⟨c5.1,c5.2.1,c5.2.2.1,c5.2.2.2.1,fun k ab=>?_⟩,j8⟩,g3⟩⟩
  ·cases k with
   |loc m=>rw[c3.1 m]at ab;cases ab
   |obj m=>rw[(aH rfl m).1];exact cF _ _ ab
  ·cases k with
   |loc m=>rw[c3.2 m]at ab;cases ab
   |obj m=>rw[(aH rfl m).2.1];exact c2 _ _ ab
  ·obtain⟨⟨j,rfl⟩,d2,d3,d4,d5⟩:=c5.2.2.2.2 k ab;exact⟨⟨j,rfl⟩,(aH rfl j).2.2 d2,by rw[(aH rfl j).1];exact d3,by rw[(aH rfl j).2.1];exact d4,d5⟩
def l7(d:aW Nat):ls:=⟨d,.tuple [],[],[],none⟩
def lu(P:bS)(q:Bool)(n0:Nat)(g:cU)(A:dk)(x:ls):Prop:=
 match g.g with
 |none=>dX P q n0 g.i A x
 |some (s,w)=>match A.t s with
  | .bool b=>(b=w/\dX P q n0 g.i A x)\/(b= !w/\x=l7 g.i.dst)
  | .tuple []=>x=l7 g.i.dst
  |_=>dr
def e9:Cp->Cp->Bool
 | .v,_=>true
 |_,.v=>true
 | .l,.l| .l,.n| .l,.s| .l,.a| .l,.c=>true
 | .n,.n| .n,.s| .n,.a| .n,.c=>true
 | .s,.l| .s,.n| .s,.s| .s,.c=>true
 | .a,.l| .a,.n| .a,.s=>true
 | .c,.l| .c,.n| .c,.s=>true
 | .l,.m| .m,.l| .m,.m| .m,.n| .m,.s| .m,.a| .s,.m| .a,.m=>true
 | .l,.k| .m,.k| .n,.k| .s,.k=>true
 | .m,.r| .r,.m| .r,.n| .r,.s| .n,.r| .s,.r| .r,.w| .w,.r=>true
 | .m,.z| .z,.m| .z,.n=>true
 |_,_=>false
def cU.dst(g:cU):aW Nat:=g.i.dst
def AX(g h:cU):Bool:=(match g.i.dst with|some d=> !(h.looks.contains d)&&h.i.dst !=some d|none=>true)&&(match h.i.dst with|some d=> !(g.looks.contains d)|none=>true)&&e9 g.i.mode h.i.mode
theorem XF(q:Bool)(n0:Nat)(m:Cp)(d:aW Nat)(A:dk):IG q n0 m d A (l7 d):=⟨rfl,fun k ab=>by simp[l7,look]at ab,fun k ab=>by simp[l7,look]at ab,fun k ab=>by simp[l7]at ab,fun _ k o ab=>by simp[l7,look]at ab,fun _ k o ab=>by simp[l7,look]at ab⟩
theorem NW{P:bS}{q:Bool}{n0:Nat}{g:cU}{A:dk}{x:ls}(h:lu P q n0 g A x):IG q n0 g.i.mode g.i.dst A x:=by
 unfold lu at h;split at h
 ·exact XE h
 ·split at h
  ·rcases h with⟨_,h⟩|⟨_,rfl⟩
   ·exact XE h
   ·exact XF _ _ _ _ _
  ·subst h;exact XF _ _ _ _ _
  ·exact h.elim
theorem sV{A:dk}{x:ls}{k:aC}(h:look k x.bw=none):(A.do x).b k=A.b k:=by simp[dk.do,iZ,h]
theorem qL{A:dk}{x:ls}{k:aC}(h:look k x.ew=none):(A.do x).e k=A.e k:=by simp[dk.do,iZ,h]
theorem FJ{A:dk}{x:ls}{k:aC}(h:(A.do x).b k=none):A.b k=none:=by
 simp only[dk.do,iZ]at h;split at h
 ·cases h
 ·exact h
theorem FK{A:dk}{x:ls}{k:aC}(h:(A.do x).e k=none):A.e k=none:=by
 simp only[dk.do,iZ]at h;split at h
 ·cases h
 ·exact h
theorem kT{α:Type}{o:aW α}(h:¬o.isSome):o=none:=by cases o<;>simp at h⊢
theorem OH{P:bS}{q:Bool}{n0:Nat}{g:cU}{A A':dk}{x:ls}(h:lu P q n0 g A x)(aE:qI g.looks A.t A'.t)(hm:dX P q n0 g.i A x->dX P q n0 g.i A' x):lu P q n0 g A' x:=by
 unfold lu at h⊢;cases aS:g.g with
 |none=>simp only[aS]at h⊢;exact hm h
 |some z6=>
  obtain⟨s,w⟩:=z6;have:A.t s=A'.t s:=aE s (by simp[cU.looks,aS]);simp only[aS,this]at h⊢;split at h
  ·rcases h with⟨I,J⟩|h
   ·exact .inl ⟨I,hm J⟩
   ·exact .inr h
  ·exact h
  ·exact h
theorem ajU{P:bS}{q:Bool}{n0:Nat}{g h:cU}(SL:AX g h=true){A:dk}{x y:ls}(af:lu P q n0 g A x)(bG:lu P q n0 h (A.do x) y):
  lu P q n0 h A y/\lu P q n0 g (A.do y) x/\x.apart y:=by
 simp only[AX,bJ]at SL;obtain⟨⟨ku,iH⟩,hm⟩:=SL;have cx:=NW af;have b7:∀d kL,g.i.dst=some d->h.i.dst=some kL->d≠kL:=by intro d kL ao aL e;simp only[ao,bJ,bne_iff_ne]at ku;exact ku.2 (by rw[aL,e])
 have Gk:qI h.looks (A.do x).t A.t:=by intro i aw;simp only[dk.do];rw[br];intro e;rw[cx.d]at e;simp only[e,bJ,sG,List.contains_eq_mem,decide_eq_false_iff_not]at ku;exact ku.1 aw
 have xU:∀k,(look k x.bw).isSome->_:=cx.b;have hle:∀k,(look k x.ew).isSome->_:=cx.e;have Ub:lu P q n0 h A y:=by
  refine OH bG Gk fun qT=>OF qT (fun i aw=>Gk i (by simp[cU.looks,aw])) (fun e k ab ah=>?_) (fun e k ah=>?_) (fun e bp k o aq fh=>?_) (fun d aI KJ jF=>?_) (fun e k o aq=>?_) (fun e k=>?_) (fun e=>⟨fun m jF=>⟨jF.1.1,FJ jF.2.1,FK jF.2.2⟩,fun k=>?_⟩) (fun e m jF=>⟨jF.1.1,FJ jF.2.1,FK jF.2.2⟩) (fun e k o aq fh=>?_) (fun e m=>?_)
  ·rw[sV (kT fun az=>?_)];rcases xU k az with⟨ao,_⟩|ao|⟨ao,⟨j,aL⟩,bB⟩|⟨ao,_⟩;rotate_left 3
   ·rw[e,ao]at hm;simp[e9]at hm
   ·rw[e,ao]at hm;simp[e9]at hm
   ·rw[e,ao]at hm;simp[e9]at hm
   ·rcases ab with ab|⟨m,ab⟩
    ·rw[ab]at bB;cases bB
    ·rw[ab]at aL;cases aL
  ·rw[sV (kT fun az=>?_)];rcases xU k az with⟨ao,_⟩|ao|⟨ao,_⟩|⟨ao,_⟩<;>(rw[e,ao]at hm;simp[e9]at hm)
  ·rw[e]at hm;cases hS:look k x.ew with
   |none=>rw[qL hS]at aq;exact aq
   |some o'=>
    exfalso;have KQ:(A.do x).e k=some o':=by simp[dk.do,iZ,hS]
    rw[KQ]at aq;cases aq;rcases hle k (by simp[hS])with⟨ao,_⟩|⟨ao,_⟩|⟨ao,_,bB⟩|⟨ao,_⟩|ao
    ·exact fh (cx.xn (.inr ao) k _ hS)
    ·exact fh (cx.xn (.inl ao) k _ hS)
    ·rw[bp]at bB;cases bB
    ·rw[ao]at hm;simp[e9]at hm
    ·rw[ao]at hm;simp[e9]at hm
  ·exact⟨jF.1.1,FJ jF.2.1,FK jF.2.2⟩
  ·rw[qL (kT fun az=>?_)]at aq
   ·exact aq
   ·rw[e]at hm;rcases hle k az with⟨ao,_⟩|⟨ao,_⟩|⟨ao,_⟩|⟨ao,_⟩|ao<;>(rw[ao]at hm;simp[e9]at hm)
  ·rw[sV (kT fun az=>?_)];rw[e]at hm;rcases xU k az with⟨ao,_⟩|ao|⟨ao,_⟩|⟨ao,_⟩<;>(rw[ao]at hm;simp[e9]at hm)
  ·rw[qL (kT fun az=>?_)];rw[e]at hm;rcases hle k az with⟨ao,_⟩|⟨ao,_⟩|⟨ao,_⟩|⟨ao,_⟩|ao<;>(rw[ao]at hm;simp[e9]at hm)
  ·rw[e]at hm;cases hS:look k x.ew with
   |none=>rw[qL hS]at aq;exact aq
   |some o'=>
    exfalso;have KQ:(A.do x).e k=some o':=by simp[dk.do,iZ,hS]
    rw[KQ]at aq;cases aq;rcases hle k (by simp[hS])with⟨ao,_⟩|⟨ao,_⟩|⟨ao,_⟩|⟨ao,_⟩|ao
    ·exact fh (cx.xn (.inr ao) k _ hS)
    ·rw[ao]at hm;simp[e9]at hm
    ·rw[ao]at hm;simp[e9]at hm
    ·rw[ao]at hm;simp[e9]at hm
    ·rw[ao]at hm;simp[e9]at hm
  ·rw[e]at hm;refine⟨?_,?_,fun fO=>fO.1⟩
   ·rw[sV (kT fun az=>?_)];rcases xU _ az with⟨ao,d,_,aL,_⟩|ao|⟨ao,_⟩|⟨ao,_⟩;rotate_left 3
    ·rw[ao]at hm;simp[e9]at hm
    ·cases aL
    ·rw[ao]at hm;simp[e9]at hm
    ·rw[ao]at hm;simp[e9]at hm
   ·rw[qL (kT fun az=>?_)];rcases hle _ az with⟨ao,d,_,aL,_⟩|⟨ao,_⟩|⟨ao,_⟩|⟨ao,_⟩|ao
    ·cases aL
    ·rw[ao]at hm;simp[e9]at hm
    ·rw[ao]at hm;simp[e9]at hm
    ·rw[ao]at hm;simp[e9]at hm
    ·rw[ao]at hm;simp[e9]at hm
 have ty:=NW Ub;have Sw:qI g.looks A.t (A.do y).t:=by intro i aw;simp only[dk.do];rw[br];intro e;rw[ty.d]at e;simp only[e,sG,List.contains_eq_mem,decide_eq_false_iff_not]at iH;exact iH aw
 refine⟨Ub,?_,?_⟩
 ·refine OH af Sw fun qT=>OF qT (fun i aw=>Sw i (by simp[cU.looks,aw])) (fun e k ab ah=>?_) (fun e k ah=>?_) (fun e bp k o aq fh=>?_) (fun d aI KJ jF=>?_) (fun e k o aq=>?_) (fun e k=>?_) (fun e=>⟨fun m jF=>?_,fun k=>?_⟩) (fun e m jF=>?_) (fun e k o aq fh=>?_) (fun e m=>?_)
  ·refine sV (kT fun az=>?_);rcases ty.b k az with⟨ao,d,_,_,aL,_⟩|ao|⟨ao,⟨j,aL⟩,bB⟩|⟨_,_,aL,_⟩;rotate_left 3
   ·exact ah aL
   ·exact ah aL
   ·rw[e,ao]at hm;simp[e9]at hm
   ·rcases ab with ab|⟨m,ab⟩
    ·rw[ab]at bB;cases bB
    ·rw[ab]at aL;cases aL
  ·refine sV (kT fun az=>?_);rcases ty.b k az with⟨ao,d,_,_,aL,_⟩|ao|⟨ao,_⟩|⟨_,_,aL,_⟩;rotate_left 3
   ·exact ah aL
   ·exact ah aL
   ·rw[e,ao]at hm;simp[e9]at hm
   ·rw[e,ao]at hm;simp[e9]at hm
  ·rw[qL (kT fun az=>?_)]
   ·exact aq
   ·rcases ty.e k az with⟨ao,d,_,_,_,aL⟩|⟨ao,aL⟩|⟨ao,_,bB⟩|⟨ao,_⟩|ao
    ·rw[aL]at aq;cases aq
    ·exact fh (ty.ex ao k o az aq)
    ·rw[bp]at bB;cases bB
    ·rw[e,ao]at hm;simp[e9]at hm
    ·rw[e,ao]at hm;simp[e9]at hm
  ·refine⟨⟨jF.1,fun sY=>?_⟩,?_,?_⟩
   ·rcases ty.r _ sY with⟨kL,ao,aL⟩|⟨_,⟨j,aL⟩,_⟩
    ·simp only[aC.loc.injEq]at aL;exact b7 d kL aI ao Ω
    ·cases aL
   ·rw[sV (kT fun az=>?_)]
    ·exact jF.2.1
    ·rcases ty.b _ az with⟨ao,kL,aL,bB,_⟩|ao|⟨ao,⟨j,aL⟩,_⟩|⟨ao,⟨j,aL⟩,_⟩;rotate_left 3
     ·cases aL
     ·simp only[aC.loc.injEq]at bB;exact b7 d kL aI aL Ω
     ·rcases KJ with aL|aL|aL|aL<;>(rw[ao,aL]at hm;simp[e9]at hm)
     ·cases aL
   ·rw[qL (kT fun az=>?_)]
    ·exact jF.2.2
    ·rcases ty.e _ az with⟨ao,kL,aL,bB,_⟩|⟨ao,aL⟩|⟨ao,⟨j,aL⟩,_⟩|⟨ao,o,aL,_⟩|ao;rotate_left 4
     ·rcases KJ with aL|aL|aL|aL<;>(rw[ao,aL]at hm;simp[e9]at hm)
     ·simp only[aC.loc.injEq]at bB;exact b7 d kL aI aL Ω
     ·rcases aL with aL|⟨kL,aL,bB,_⟩
      ·exact aL jF.2.2
      ·simp only[aC.loc.injEq]at bB;exact b7 d kL aI aL Ω
     ·cases aL
     ·rw[jF.2.2]at aL;cases aL
  ·rw[qL (kT fun az=>?_)]
   ·exact aq
   ·rw[e]at hm;rcases ty.e k az with⟨ao,d,_,_,_,aL⟩|⟨ao,_⟩|⟨ao,_⟩|⟨ao,_⟩|ao
    ·rw[aL]at aq;cases aq
    ·rw[ao]at hm;simp[e9]at hm
    ·rw[ao]at hm;simp[e9]at hm
    ·rw[ao]at hm;simp[e9]at hm
    ·rw[ao]at hm;simp[e9]at hm
  ·refine sV (kT fun az=>?_);rw[e]at hm;rcases ty.b k az with⟨ao,_⟩|ao|⟨ao,_⟩|⟨ao,_⟩<;>(rw[ao]at hm;simp[e9]at hm)
  ·rw[e]at hm;refine⟨⟨jF.1,fun sY=>?_⟩,?_,?_⟩
   ·rcases ty.r _ sY with⟨kL,ao,aL⟩|⟨ao|ao|ao,_⟩
    ·cases aL
    ·rw[ao]at hm;simp[e9]at hm
    ·rw[ao]at hm;simp[e9]at hm
    ·rw[ao]at hm;simp[e9]at hm
   ·rw[sV (kT fun az=>?_)]
    ·exact jF.2.1
    ·rcases ty.b _ az with⟨ao,d,_,aL,_⟩|ao|⟨ao,_⟩|⟨ao,_⟩
     ·cases aL
     all_goals(rw[ao]at hm;simp[e9]at hm)
   ·rw[qL (kT fun az=>?_)]
    ·exact jF.2.2
    ·rcases ty.e _ az with⟨ao,_⟩|⟨ao,_⟩|⟨ao,_⟩|⟨ao,_⟩|ao<;>(rw[ao]at hm;simp[e9]at hm)
  ·rw[qL (kT fun az=>?_)];rw[e]at hm;rcases ty.e _ az with⟨ao,_⟩|⟨ao,_⟩|⟨ao,_⟩|⟨ao,_⟩|ao<;>(rw[ao]at hm;simp[e9]at hm)
  ·rw[e]at hm;refine⟨⟨jF.1,fun sY=>?_⟩,?_,?_⟩
   ·rcases ty.r _ sY with⟨kL,ao,aL⟩|⟨ao|ao|ao,_⟩
    ·cases aL
    ·rw[ao]at hm;simp[e9]at hm
    ·rw[ao]at hm;simp[e9]at hm
    ·rw[ao]at hm;simp[e9]at hm
   ·rw[sV (kT fun az=>?_)]
    ·exact jF.2.1
    ·rcases ty.b _ az with⟨ao,_⟩|ao|⟨ao,_⟩|⟨ao,_⟩<;>(rw[ao]at hm;simp[e9]at hm)
   ·rw[qL (kT fun az=>?_)]
    ·exact jF.2.2
    ·rcases ty.e _ az with⟨ao,_⟩|⟨ao,_⟩|⟨ao,_⟩|⟨ao,o,aL,_⟩|ao
     ·rw[ao]at hm;simp[e9]at hm
     ·rw[ao]at hm;simp[e9]at hm
     ·rw[ao]at hm;simp[e9]at hm
     ·rw[jF.2.2]at aL;cases aL
     ·rw[ao]at hm;simp[e9]at hm
  ·rw[qL (kT fun az=>?_)]
   ·exact aq
   ·rw[e]at hm;rcases ty.e k az with⟨ao,d,_,_,_,aL⟩|⟨ao,_⟩|⟨ao,_⟩|⟨ao,_⟩|ao
    ·rw[aL]at aq;cases aq
    ·rw[ao]at hm;simp[e9]at hm
    ·rw[ao]at hm;simp[e9]at hm
    ·rw[ao]at hm;simp[e9]at hm
    ·rw[ao]at hm;simp[e9]at hm
  ·rw[e]at hm;refine⟨?_,?_,fun fO=>⟨fO,fun sY=>?_⟩⟩;rotate_left 2
   ·rcases ty.r _ sY with⟨kL,_,aL⟩|⟨aL|aL|aL,_⟩
    ·cases aL
    ·rw[aL]at hm;simp[e9]at hm
    ·rw[aL]at hm;simp[e9]at hm
    ·rw[aL]at hm;simp[e9]at hm
   ·refine sV (kT fun az=>?_);rcases ty.b _ az with⟨ao,d,_,aL,_⟩|ao|⟨ao,_⟩|⟨ao,_⟩;rotate_left 3
    ·rw[ao]at hm;simp[e9]at hm
    ·cases aL
    ·rw[ao]at hm;simp[e9]at hm
    ·rw[ao]at hm;simp[e9]at hm
   ·refine qL (kT fun az=>?_);rcases ty.e _ az with⟨ao,d,_,aL,_⟩|⟨ao,_⟩|⟨ao,_⟩|⟨ao,_⟩|ao
    ·cases aL
    ·rw[ao]at hm;simp[e9]at hm
    ·rw[ao]at hm;simp[e9]at hm
    ·rw[ao]at hm;simp[e9]at hm
    ·rw[ao]at hm;simp[e9]at hm
 ·refine⟨fun i aw e=>?_,fun k ab=>kT fun az=>?_,fun k ab=>kT fun az=>?_⟩
  ·rw[cx.d]at aw;rw[ty.d]at e;exact b7 i i aw e rfl
  ·rcases xU k ab with⟨bH,d,a2,a3,_⟩|bH|⟨bH,⟨j,a2⟩,_⟩|⟨bH,_⟩<;>rcases ty.b k az with⟨cq,kL,cE,gD,_⟩|cq|⟨cq,⟨eQ,cE⟩,_⟩|⟨cq,⟨eQ,cE⟩,_⟩;all_goals first|(rw[bH,cq]at hm;simp[e9]at hm;done)|skip
   ·rw[a3]at gD;simp only[aC.loc.injEq]at gD;exact b7 d kL a2 cE Ω
   ·rw[a3]at cE;cases cE
   ·rw[a3]at cE;cases cE
   ·rw[a2]at gD;cases gD
  ·rcases hle k ab with⟨bH,d,a2,a3,_,a4⟩|⟨bH,a2⟩|⟨bH,⟨j,a2⟩,_⟩|⟨bH,jZ,a2,_⟩|bH<;>rcases ty.e k az with⟨cq,kL,cE,gD,_,yU⟩|⟨cq,cE⟩|⟨cq,⟨eQ,cE⟩,_⟩|⟨cq,kU,cE,_⟩|cq;all_goals first|(rw[bH,cq]at hm;simp[e9]at hm;done)|skip
   ·rw[a3]at gD;simp only[aC.loc.injEq]at gD;exact b7 d kL a2 cE Ω
   ·rw[a3]at cE;cases cE
   ·rw[a4]at cE;cases cE
   ·rcases a2 with a2|⟨d,a2,a3,_⟩
    ·exact a2 yU
    ·rw[a3]at gD;simp only[aC.loc.injEq]at gD;exact b7 d kL a2 cE Ω
   ·rw[a2]at gD;cases gD
   ·rw[yU]at a2;cases a2
def uy(C:eK)(A:dk)(a:Act)(w:World):Prop:= ∃st ν,me st A/\(∀k,A.F k->fresh st.n st.o k)/\cm C st a w ν
theorem LU{st:aU}{A:dk}(h:me st A)(d:Nat)(p:ae):me {st with t:=put d p st.t} (A.do ⟨some d,p,[],[],none⟩):=by
 refine⟨fun i=>?_,fun k=>?_,fun k=>?_⟩
 ·simp only[dk.do,get_put,ei,h.t]
 ·simpa[dk.do,iZ,look]using h.b k
 ·simpa[dk.do,iZ,look]using h.e k
theorem Uv{st:aU}{A:dk}(h:me st A)(d:Nat)(p:ae)(o':List aC)(rm:aW aC):me {st with t:=put d p st.t,o:=o'} (A.do ⟨some d,p,[],[],rm⟩):=by have:=LU h d p;exact⟨this.t,this.b,this.e⟩
theorem Yh{α:Type}{β:Type}:∀l:List (aC×α),bc ([]:List (aC×β)) l=l
 |[]=>rfl
 |(k,x)::r=>by simp[bc,look,Yh r]
theorem Bw{st:aU}{A:dk}(h:me st A)(d:Nat)(p:ae)(κ:aC)(cs:List ae)(n':Nat)(o':List aC)(rm:aW aC):me ⟨put d p st.t,dj κ cs st.b,st.e,n',o'⟩ (A.do ⟨some d,p,[(κ,cs)],[],rm⟩):=by
 refine⟨fun i=>?_,fun k=>?_,fun k=>?_⟩
 ·simp only[dk.do,get_put,ei,h.t]
 ·simp only[dk.do,iZ,look,jK,h.b];by_cases e:κ=k<;>simp[e]
 ·simpa[dk.do,iZ,look]using h.e k
theorem Hb{st:aU}{A:dk}(h:me st A)(κ:aC)(cs:List ae)(p:ae):me {st with b:=dj κ cs st.b} (A.do ⟨none,p,[(κ,cs)],[],none⟩):=by
 refine⟨fun i=>?_,fun k=>?_,fun k=>?_⟩
 ·simpa[dk.do]using h.t i
 ·simp only[dk.do,iZ,look,jK,h.b];by_cases e:κ=k<;>simp[e]
 ·simpa[dk.do,iZ,look]using h.e k
theorem qi{st:aU}{A:dk}(h:me st A)(d:Nat)(p:ae)(κ:aC)(o:dn)(n':Nat)(o':List aC)(rm:aW aC):me ⟨put d p st.t,st.b,dj κ o st.e,n',o'⟩ (A.do ⟨some d,p,[],[(κ,o)],rm⟩):=by
 refine⟨fun i=>?_,fun k=>?_,fun k=>?_⟩
 ·simp only[dk.do,get_put,ei,h.t]
 ·simpa[dk.do,iZ,look]using h.b k
 ·simp only[dk.do,iZ,look,jK,h.e];by_cases e:κ=k<;>simp[e]
theorem Uu{st:aU}{A:dk}(h:me st A)(κ:aC)(o:dn)(p:ae):me {st with e:=dj κ o st.e} (A.do ⟨none,p,[],[(κ,o)],none⟩):=by
 refine⟨fun i=>?_,fun k=>?_,fun k=>?_⟩
 ·simpa[dk.do]using h.t i
 ·simpa[dk.do,iZ,look]using h.b k
 ·simp only[dk.do,iZ,look,jK];by_cases e:κ=k<;>simp[e,h.e]
theorem L5{α:Type}{k:aC}:∀{l:List (aC×α)},k∈l.map (·.1)->(look k l).isSome
 |[],h=>by simp at h
 |(i,x)::r,h=>by
  simp only[look];split
  ·rfl
  ·rename_i e;simp only[fF,gy]at h;rcases h with h|h
   ·exact absurd h.symm e
   ·exact L5 h
theorem uT{n:Nat}{o:List aC}{κ:aC}:∀j,fresh n (κ::o) j->fresh n o j/\j≠κ:=by intro j ai;simp only[fresh,gy,not_or]at ai⊢;exact⟨⟨ai.1,ai.2.2⟩,ai.2.1⟩
theorem acC{n:Nat}{o:List aC}{κ j:aC}(h:fresh n o j)(ai:some κ≠some j):fresh n (κ::o) j:=by simp only[fresh,gy,not_or]at h⊢;exact⟨h.1,fun e=>ai (by rw[e]),h.2⟩
theorem OG{P:bS}{bk:List (Nat×dh)}(aE:eW P bk=true){C:eK}{q:Bool}{n0:Nat}{i:ek}{o:Oper}(aq:ua C.N bk i o=true){A:dk}{x:ls}(af:dX P q n0 i A x){a:Act}{w:World}(hr:uy C A a w)
  {K:Act->World->Prop} {Q:Exit->Act->World->Prop} (da:∀ch w',uy C (A.do x) ch w'->K ch w'):o.wp P a w K Q:=by
 obtain⟨st,ν,aD,fO,hr⟩:=hr;have xK:∀(t:List (Nat×ae)) (b:List (aC×List ae)) (e:List (aC×dn)) (d:aW Nat) (p:ae) (bw:List (aC×List ae)) (ew:List (aC×dn)),∀k,(A.do ⟨d,p,bw,ew,none⟩).F k->fresh st.n st.o k:=fun t b e d p bw ew k ab=>fO k ab.1;have nY:∀(d:aW Nat) (p:ae) (bw:List (aC×List ae)) (ew:List (aC×dn)) (κ:aC),∀k,(A.do ⟨d,p,bw,ew,some κ⟩).F k->fresh st.n (κ::st.o) k:=fun d p bw ew κ k ab=>acC (fO k ab.1) ab.2;cases i with
 |s i=>
  have hK:se C.N bk i o=true:=by simpa only[ua]using aq
  cases i with
  |v d i=>simp only[dX]at af;obtain⟨c,p,I,J,_,rfl⟩:=af;rw[<-XR aD]at I;refine jt (κ:= .loc 0) (n':=0) (o₁:=[]) aE hr hK (fun h=>by simp[ej.makes]at h) (fun h=>by simp[ej.makes]at h) (st':={st with t:=put d p st.t}) (by simp only[eR,I]) J fun ch w' ν' cu=>da _ _ ⟨_,ν',LU aD d p,fun k ab=>fO k ab.1,cu⟩
  |box d key v=>
   cases key with
   |some m=>simp only[dX]at af
   |none=>simp only[dX]at af;obtain⟨⟨I,_⟩,J,rfl⟩:=af;rw[<-ir aD]at J;refine jt (κ:= .loc (n0+d)) (n':=st.n) (o₁:= .loc (n0+d)::st.o) aE hr hK (fun _=>fO _ I) (fun _=>uT) (st':=⟨put d (.ptr (.loc (n0+d)) 0) st.t,dj (.loc (n0+d)) (cells (bP st.t v)) st.b,st.e,st.n,.loc (n0+d)::st.o⟩) (by simp only[eR]) J fun ch w' ν' cu=>da _ _ ⟨_,ν',?_,nY _ _ _ _ _,cu⟩;rw[ir aD];exact Bw aD d _ _ _ _ _ _
  |alloc d key z=>
   cases key with
   |some m=>simp only[dX]at af
   |none=>simp only[dX]at af;obtain⟨⟨I,_⟩,rfl⟩:=af;refine jt (κ:= .loc (n0+d)) (n':=st.n) (o₁:= .loc (n0+d)::st.o) aE hr hK (fun _=>fO _ I) (fun _=>uT) (st':=⟨put d (.ptr (.loc (n0+d)) 0) st.t,dj (.loc (n0+d)) (cells z) st.b,st.e,st.n,.loc (n0+d)::st.o⟩) (by simp only[eR]) trivial fun ch w' ν' cu=>da _ _ ⟨_,ν',Bw aD d _ _ _ _ _ _,nY _ _ _ _ _,cu⟩
  |store sz u v=>simp only[dX]at af;obtain⟨k,off,cs,I,J,au,rfl⟩:=af;rw[<-ir aD]at I au;rw[<-aD.b]at J;refine jt (κ:= .loc 0) (n':=0) (o₁:=[]) aE hr hK (fun h=>by simp[ej.makes]at h) (fun h=>by simp[ej.makes]at h) (st':={st with b:=dj k (nL cs off (cells (bP st.t v))) st.b}) (by simp only[eR,I,J]) au fun ch w' ν' cu=>da _ _ ⟨{st with b:=dj k (nL cs off (cells (bP st.t v))) st.b},ν',by rw[ir aD];exact Hb aD k _ _,fun k ab=>fO k ab.1,cu⟩
  |bsl d sz el xs=>simp only[dX]at af;obtain⟨⟨I,_⟩,J,rfl⟩:=af;rw[<-qQ aD]at J;refine jt (κ:= .loc (n0+d)) (n':=st.n) (o₁:= .loc (n0+d)::st.o) aE hr hK (fun _=>fO _ I) (fun _=>uT) (st':=⟨put d (.slice sz (.own (.loc (n0+d))) (xs.map (bP st.t))) st.t,st.b,dj (.loc (n0+d)) ⟨xs.length,el,sz,none⟩ st.e,st.n,.loc (n0+d)::st.o⟩) (by simp only[eR]) J fun ch w' ν' cu=>da _ _ ⟨_,ν',?_,nY _ _ _ _ _,cu⟩;rw[qQ aD];exact qi aD d _ _ _ _ _ _
  |app d sz el u v=>
   simp only[dX]at af;obtain⟨tag,xs,hC,ys,I,J,af⟩:=af;rw[<-ir aD]at I J;rcases af with⟨k,ow,rfl,au,aP,rfl⟩|⟨rfl,au,⟨aP,_⟩,rfl⟩
   ·rw[<-aD.e]at au;refine jt (κ:= .loc 0) (n':=0) (o₁:=[]) aE hr hK (fun h=>by simp[ej.makes,I]at h) (fun h=>by simp[ej.makes,I]at h) (st':=⟨put d (.slice sz (.own k) (xs++ys)) st.t,st.b,dj k ⟨xs.length+ys.length,el,sz,none⟩ st.e,st.n,st.o⟩) (by simp only[eR,I,J,au,and_self,if_true]) aP.2 fun ch w' ν' cu=>da _ _ ⟨_,ν',qi aD d _ _ _ _ _ _,fun k ab=>fO k ab.1,cu⟩
   ·refine jt (κ:= .loc (n0+d)) (n':=st.n) (o₁:= .loc (n0+d)::st.o) aE hr hK (fun _=>fO _ aP) (fun _=>uT) (st':=⟨put d (.slice sz (.own (.loc (n0+d))) ys) st.t,st.b,dj (.loc (n0+d)) ⟨ys.length,el,sz,none⟩ st.e,st.n,.loc (n0+d)::st.o⟩) (by simp only[eR,I,J,and_self,if_true]) au fun ch w' ν' cu=>da _ _ ⟨_,ν',qi aD d _ _ _ _ _ _,nY _ _ _ _ _,cu⟩
  |bslm d key sz el xs=>
   cases key with
   |none=>simp only[dX]at af
   |some m=>simp only[dX]at af;obtain⟨⟨I,_⟩,J,rfl⟩:=af;rw[<-qQ aD]at J;refine jt (κ:= .obj m) (n':=st.n) (o₁:= .obj m::st.o) aE hr hK (fun _=>fO _ I) (fun _=>uT) (st':=⟨put d (.row sz (.obj m) xs.length) st.t,st.b,dj (.obj m) ⟨xs.length,el,sz,some (xs.map (bP st.t))⟩ st.e,st.n,.obj m::st.o⟩) (by simp only[eR]) J fun ch w' ν' cu=>da _ _ ⟨_,ν',?_,nY _ _ _ _ _,cu⟩;rw[qQ aD];exact qi aD d _ _ _ _ _ _
  |mks d key sz el z x=>simp only[dX]at af
  |apps d el x y=>simp only[dX]at af
  |appm d key sz el u v=>
   cases key with
   |some m=>
    simp only[dX]at af;rcases af with⟨k,n,xs,hC,ys,I,J,au,aP,rfl⟩|⟨xs,hC,ys,I,J,⟨au,_⟩,aP,rfl⟩
    ·rw[<-ir aD]at I J;rw[<-aD.e]at au;exact jt (κ:= .loc 0) (n':=0) (o₁:=[]) aE hr hK (fun h=>by simp[ej.makes,I]at h) (fun h=>by simp[ej.makes,I]at h) (st':=⟨put d (.row sz k (xs.length+ys.length)) st.t,st.b,dj k ⟨xs.length+ys.length,el,sz,some (xs++ys)⟩ st.e,st.n,st.o⟩) (by simp only[eR,nn,I,J,au,and_self,if_true]) aP fun ch w' ν' cu=>da _ _ ⟨_,ν',qi aD d _ _ _ _ _ _,fun k ab=>fO k ab.1,cu⟩
    rw[<-ir aD]at I J;refine jt (κ:= .obj m) (n':=st.n) (o₁:= .obj m::st.o) aE hr hK (fun _=>fO _ au) (fun _=>uT) (st':=⟨put d (.row sz (.obj m) ys.length) st.t,st.b,dj (.obj m) ⟨ys.length,el,sz,some ys⟩ st.e,st.n,.obj m::st.o⟩) (by simp only[eR,nn,I,J,and_self,if_true]) aP fun ch w' ν' cu=>da _ _ ⟨_,ν',qi aD d _ _ _ _ _ _,nY _ _ _ _ _,cu⟩
   |none=>
   simp only[dX]at af;obtain⟨k,n,xs,hC,ys,I,J,au,aP,rfl⟩:=af;rw[<-ir aD]at I J;rw[<-aD.e]at au;refine jt (κ:= .loc 0) (n':=0) (o₁:=[]) aE hr hK (fun h=>by simp[ej.makes,I]at h) (fun h=>by simp[ej.makes,I]at h) (st':=⟨put d (.row sz k (xs.length+ys.length)) st.t,st.b,dj k ⟨xs.length+ys.length,el,sz,some (xs++ys)⟩ st.e,st.n,st.o⟩) (by simp only[eR,nn,I,J,au,and_self,if_true]) aP fun ch w' ν' cu=>da _ _ ⟨_,ν',qi aD d _ _ _ _ _ _,fun k ab=>fO k ab.1,cu⟩
  |storeE sz u v=>simp only[dX]at af;obtain⟨k,n,i,f,el,dL,xs,q,I,J,au,aP,rfl⟩:=af;rw[<-ir aD]at I aP;rw[<-aD.e]at J;refine jt (κ:= .loc 0) (n':=0) (o₁:=[]) aE hr hK (fun h=>by simp[ej.makes]at h) (fun h=>by simp[ej.makes]at h) (st':={st with e:=dj k ⟨n,el,dL,some (xs.set i (sd q f (cells (bP st.t v))))⟩ st.e}) (by simp only[eR,sj,I,J,au,and_self,if_true]) aP fun ch w' ν' cu=>da _ _ ⟨{st with e:=dj k ⟨n,el,dL,some (xs.set i (sd q f (cells (bP st.t v))))⟩ st.e},ν',by rw[ir aD];exact Uu aD k _ _,fun k ab=>fO k ab.1,cu⟩
  |mkmap d key=>
   cases key with
   |none=>simp only[dX]at af
   |some m=>simp only[dX]at af;obtain⟨⟨I,_⟩,rfl⟩:=af;refine jt (κ:= .obj m) (n':=st.n) (o₁:= .obj m::st.o) (hB:=fun e=>O9 hK (by cases e;rfl)) aE hr hK (fun _=>fO _ I) (fun _=>uT) (st':=⟨put d (.gmap (.obj m)) st.t,dj (.obj m) [.hdm 0 []] st.b,st.e,st.n,.obj m::st.o⟩) (by simp only[eR]) trivial fun ch w' ν' cu=>da _ _ ⟨_,ν',Bw aD d _ _ _ _ _ _,nY _ _ _ _ _,cu⟩
  |mput cg u k v=>simp only[dX]at af;obtain⟨m,cs,cs',I,J,au,rfl⟩:=af;rw[<-ir aD]at I;rw[<-ir aD,<-ir aD]at au;rw[<-aD.b]at J;exact jt (κ:= .loc 0) (n':=0) (o₁:=[]) aE hr hK (fun h=>by simp[ej.makes]at h) (fun h=>by simp[ej.makes]at h) (st':={st with b:=dj m cs' st.b}) (by simp only[eR,I,J,au]) trivial fun ch w' ν' cu=>da _ _ ⟨{st with b:=dj m cs' st.b},ν',Hb aD m _ _,fun k ab=>fO k ab.1,cu⟩
  |range d key x=>simp only[dX]at af
 |next d x=>simp only[dX]at af
 |opn d f x=>simp only[dX]at af
 |callb d f=>simp only[dX]at af
 |call d f xs=>
  simp only[dX]at af;obtain⟨n,dP,I,af⟩:=af;rw[<-ir aD]at I;rcases af with⟨⟨s,al,r,rm,cF,c2,c3,c4,c5,j8,vM,rfl⟩,_⟩|⟨gP,r,rfl,cF,c2,c3,rfl⟩;rotate_left
  ·rw[<-qQ aD]at c2 c3;simp only[ua]at aq;split at aq
   ·rename_i iu args ts jI;simp only[bJ,eA]at aq;obtain⟨⟨⟨ao,aL⟩,bB⟩,b9⟩:=aq;have ka:=eD hr bB;rw[I]at ka;obtain⟨rq,h2,iQ⟩:=Nh (eW.sz aE) jI ka (zS hr b9);refine Qg hr ao aL h2 iQ (K:=fun st'=>st'={st with t:=put gP r st.t,o:= .loc (n0+gP)::st.o}) ⟨⟨[],[]⟩,_,some (n0+gP),st.n,fun _=>.loc (n0+gP)::st.o,fun k cs ab=>by simp[look]at ab,fun k cs ab=>by simp[look]at ab,⟨fun _=>rfl,fun _=>rfl⟩,oP (fun _ h=>h.elim) _ c2,c3,fun m hm=>?_,fun k cZ al bp ab=>?_,?_⟩ ?_
    ·cases hm;exact fO _ cF.1
    ·obtain⟨_,rfl⟩:=bp;have:=uT k ab;exact⟨by simpa[ev]using this.1,fun m hm=>by cases hm;exact this.2⟩
    ·rintro cZ pJ ⟨rfl,rfl⟩;refine⟨⟨fun m hm=>by simp[look]at hm,fun m hm=>by simp[look]at hm⟩,?_⟩;simp[after,Yh,fE]
    ·rintro st' ch w' ν' rfl cu;exact da _ _ ⟨_,ν',Uv aD gP r _ _,nY _ _ _ _ _,cu⟩
   ·cases aq
  rw[<-qQ aD]at j8 vM;simp only[ua]at aq;split at aq
  ·rename_i iu args ts jI;simp only[bJ,eA]at aq;obtain⟨⟨⟨ao,aL⟩,bB⟩,b9⟩:=aq;have ka:=eD hr bB;rw[I]at ka;obtain⟨cD,dI,hA,kz,r1⟩:=c5;refine Qf (eW.sz aE) hr jI ao aL ka (zS hr b9) (K:=fun st'=>st'=after st s al d r) (.inl ⟨s,_,fun k cs ab=>⟨by rw[aD.b];exact(cF k cs ab).1,.inl (by simp[ab]),(cF k cs ab).2⟩,fun k o' ab=>⟨by rw[aD.e];exact(c2 k o' ab).1,.inr (by simp[ab]),(c2 k o' ab).2⟩,c3,j8,vM,?_⟩) ?_
   ·rintro cZ pJ ⟨rfl,rfl⟩;refine⟨⟨fun m hm=>?_,fun m hm=>?_⟩,rfl⟩
    ·rcases cD _ hm with h|h
     ·exact .inl h
     ·exact .inr (fO _ (r1 _ h).2.1).2
    ·rcases dI _ hm with h|h
     ·exact .inl h
     ·exact .inr (fO _ (r1 _ h).2.1).2
   ·rintro st' ch w' ν' rfl cu;refine da _ _ ⟨_,ν',⟨fun i=>?_,fun k=>?_,fun k=>?_⟩,fun k ab=>?_,cu⟩
    ·simp only[after,dk.do];cases d with
     |none=>simpa[fE]using aD.t i
     |some d=>simp only[fE,get_put,ei,aD.t]
    ·simp only[after,dk.do,iZ,nH,r2];by_cases az:(look k s.b).isSome
     ·have:=hA k az;obtain⟨y,bG⟩:=fv.1 this;simp[az,bG]
     ·cases aM:look k al.b with
      |none=>simp only[az,aD.b];cases A.b k<;>simp
      |some y=>
       rcases cD k (by simp[aM])with h|h
       ·exact absurd h az
       ·have:=r1 k h;simp[az,aD.b,this]
    ·simp only[after,dk.do,iZ,nH,r2];by_cases az:(look k s.e).isSome
     ·have:=kz k az;obtain⟨y,bG⟩:=fv.1 this;simp[az,bG]
     ·cases aM:look k al.e with
      |none=>simp only[az,aD.e];cases A.e k<;>simp
      |some y=>
       rcases dI k (by simp[aM])with h|h
       ·exact absurd h az
       ·have:=r1 k h;simp[az,aD.e,this]
    ·have Gs:=fO k ab.1;have jX:=hr.lookNone Gs;simp only[after];refine⟨Gs.1,fun jW=>?_⟩;rcases hl.1 jW with jW|jW
     ·exact Gs.2 jW
     ·rcases hl.1 jW with jW|jW
      ·rcases cD k (L5 jW)with h|h
       ·obtain⟨y,bG⟩:=fv.1 h;have:=(cF k y bG).1;rw[<-aD.b,jX.1]at this;cases this
       ·exact ab.2 h
      ·rcases dI k (L5 jW)with h|h
       ·obtain⟨y,bG⟩:=fv.1 h;have:=(c2 k y bG).1;rw[<-aD.e,jX.2]at this;cases this
       ·exact ab.2 h
  ·cases aq
theorem OI{P:bS}{bk:List (Nat×dh)}(aE:eW P bk=true){C:eK}{q:Bool}{n0:Nat}{ops:Array Oper}{g:cU}{o:Oper}{j:Nat}(ai:ops[j]? =some o)(aq:C7 C.N bk ops.toList g o=true){A:dk}{x:ls}(af:lu P q n0 g A x){a:Act}{w:World}(hr:uy C A a w)
  {K:Act->World->Prop} {Q:Exit->Act->World->Prop} (da:∀ch w',uy C (A.do x) ch w'->K ch w'):wpOp P ops Q j K a w:=by
 unfold wpOp;rw[ai];simp only;simp only[C7,bJ]at aq;obtain⟨nB,Bb⟩:=aq;unfold lu at af;cases Ds:g.g with
 |none=>
  cases fb:o.guard with
  |some x=>simp[fb,Ds]at nB
  |none=>
   have hw:pQ o (yielded ops a.tmps)=true:=by simp[pQ,fb]
   rw[if_pos hw];simp only[Ds]at af;exact .inl (OG aE Bb af hr da)
 |some z6=>
  obtain⟨s,want⟩:=z6;cases fb:o.guard with
  |none=>simp[fb,Ds]at nB
  |some alp=>
   obtain⟨an9,gV⟩:=alp;simp only[fb,Ds,bJ,eA,fs]at nB;obtain⟨⟨⟨⟨rfl,J⟩,au⟩,aP⟩,bA⟩:=nB;obtain⟨st,ν,aD,fO,cp⟩:=id hr;obtain⟨Iw,Iy⟩:=Ym cp J au;simp only[Ds]at af;have Th:∀(h:x=l7 g.i.dst),K (a.put o.dst undef) w:=by
    rintro rfl;rw[aP];refine da _ _ ⟨_,ν,?_,fun k ab=>?_,cp.put bA (p:= .tuple []) (by simp[aJ,cz,undef])⟩
    ·refine⟨fun i=>?_,fun k=>?_,fun k=>?_⟩
     ·simp only[dk.do,l7];cases g.i.dst with
      |none=>simpa[fE]using aD.t i
      |some d=>simp only[fE,get_put,ei,aD.t]
     ·simpa[dk.do,iZ,look,l7]using aD.b k
     ·simpa[dk.do,iZ,look,l7]using aD.e k
    ·exact fO k ab.1
   split at af
   ·rename_i b ah;have bG:=Iw b (by rw[aD.t];exact ah);rcases af with⟨rfl,af⟩|⟨rfl,af⟩
    ·have hw:pQ o (yielded ops a.tmps)=true:=by simp[pQ,fb,bG]
     rw[if_pos hw];exact .inl (OG aE Bb af hr da)
    ·have hw:¬(pQ o (yielded ops a.tmps)=true):=by simp[pQ,fb,bG]
     rw[br hw];exact Th af
   ·rename_i ah;have bG:=Iy (by rw[aD.t];exact ah);have hw:¬(pQ o (yielded ops a.tmps)=true):=by simp[pQ,fb,bG]
    rw[br hw];exact Th af
   ·exact af.elim
def uJ(P:bS)(q:Bool)(n0:Nat)(K:dk->Prop):List (Nat×cU)->dk->Prop
 |[],A=>K A
 |(_,g)::r,A=> ∃x,lu P q n0 g A x/\uJ P q n0 K r (A.do x)
theorem IT{P:bS}{q:Bool}{n0:Nat}{K:dk->Prop}{i:Nat}{g:cU}:∀(nk nQ:List (Nat×cU)) (A:dk),(∀x∈nk,AX x.2 g=true)->uJ P q n0 K (nk++(i,g)::nQ) A->∃x,lu P q n0 g A x/\uJ P q n0 K (nk++nQ) (A.do x)
 |[],nQ,A,_,h=>h
 |(j,R7)::nk,nQ,A,aH,h=>by simp only[dF,uJ]at h;obtain⟨y,bG,h⟩:=h;obtain⟨x,af,h⟩:=IT nk nQ (A.do y) (fun z cK=>aH z (List.mem_cons_of_mem _ cK)) h;obtain⟨s1,s2,B4⟩:=ajU (aH _ (List.mem_cons_self ..)) bG af;refine⟨x,s1,y,s2,?_⟩;rw[<-dk.do_comm A B4];exact h
def rem(listed:Array Bool):Nat->List cU->List (Nat×cU)
 |_,[]=>[]
 |k,g::r=>if listed.getD k false then rem listed (k+1) r else(k,g)::rem listed (k+1) r
theorem Wq{l c6:Array Bool}:∀(gs:List cU) (k:Nat),(∀j,k<=j->l.getD j false=c6.getD j false)->rem l k gs=rem c6 k gs
 |[],_,_=>rfl
 |g::r,k,h=>by simp only[rem,h k (cc _),Wq r (k+1) fun j ai=>h j Ω]
theorem xE{l:Array Bool}{i j:Nat}(h:i<l.size):(l.setIfInBounds i true).getD j false=if i=j then true else l.getD j false:=by
 simp only[pO];by_cases e:i=j
 ·subst e;simp[h]
 ·simp[e]
theorem EH{l:Array Bool}{i:Nat}(aw:i<l.size)(aM:l.getD i false=false):∀(gs:List cU) (k:Nat),k<=i->i<k+gs.length->∃nk nQ g,gs[i-k]? =some g/\rem l k gs=nk++(i,g)::nQ/\rem (l.setIfInBounds i true) k gs=nk++nQ/\
  ∀x∈nk,gs[x.1-k]? =some x.2/\k<=x.1/\x.1<i/\l.getD x.1 false=false
 |[],k,I,J=>by simp at J;omega
 |g::r,k,I,J=>by
  by_cases e:k=i
  ·subst e;refine⟨[],rem l (k+1) r,g,Ψ,by simp[rem,aM],?_,fun x af=>by simp at af⟩;simp only[rem,xE aw,if_true,eE];exact Wq r (k+1) fun j ai=>by rw[xE aw,br Ω]
  ·obtain⟨nk,nQ,et,ao,aL,bB,b9⟩:=EH aw aM r (k+1) Ω (by simp at J;omega);have lU:i-k=(i-(k+1))+1:=Ω
   have mo:(l.setIfInBounds i true).getD k false=l.getD k false:=by rw[xE aw,br Ω]
   by_cases ab:l.getD k false=true
   ·refine⟨nk,nQ,et,by rw[lU];simpa using ao,by simp only[rem,ab,if_true,aL],by simp only[rem,mo,ab,if_true,bB],fun x af=>?_⟩;obtain⟨f1,f2,f3,f4⟩:=b9 x af;refine⟨?_,Ω,f3,f4⟩;have:x.1-k=(x.1-(k+1))+1:=Ω
    rw[this];simpa using f1
   ·have ab:l.getD k false=false:=by simpa using ab
    refine⟨(k,g)::nk,nQ,et,by rw[lU];simpa using ao,by simp[rem,ab,aL],by simp[rem,mo,ab,bB],fun x af=>?_⟩;rcases gy.1 af with rfl|af
    ·exact⟨Ψ,cc _,by simp;omega,ab⟩
    ·obtain⟨f1,f2,f3,f4⟩:=b9 x af;refine⟨?_,Ω,f3,f4⟩;have:x.1-k=(x.1-(k+1))+1:=Ω
     rw[this];simpa using f1
def wH(acc:List Nat):List Edge->Nat
 |[]=>0
 |e::r=>if uq .any e then(2 ^ e.on)|||(acc.getD e.on 0)|||wH acc r else wH acc r
def oR(acc:List Nat):List Oper->List Nat
 |[]=>acc
 |o::os=>oR (acc++[wH acc o.after.toList]) os
def EM(m:Nat)(h:cU):Nat->List cU->Bool
 |_,[]=>true
 |i,g::r=>(m.testBit i||AX g h)&&EM m h (i+1) r
def yj:List cU->List cU->List Nat->Bool
 |_,[],_=>true
 |pre,h::r,m::ms=>EM m h 0 pre&&yj (pre++[h]) r ms
 |_,_,[]=>false
def vS:Nat->List Oper->Bool
 |_,[]=>true
 |k,o::os=>o.after.toList.all (fun e=> !uq .any e||decide (e.on<k))&&vS (k+1) os
def CG(gs:List cU)(ops:List Oper):Bool:=vS 0 ops&&yj [] gs (oR [] ops)
theorem L1{acc:List Nat}{j:Nat}:∀{es:List Edge},(wH acc es).testBit j=true->∃e∈es,uq .any e=true/\(j=e.on\/(acc.getD e.on 0).testBit j=true)
 |[],h=>by simp[wH]at h
 |e::r,h=>by
  simp only[wH]at h;split at h
  ·rename_i ah;simp only[Nat.testBit_or,Bool.or_eq_true]at h;rcases h with(h|h)|h
   ·refine⟨e,Ψ,ah,.inl ?_⟩;rw[Nat.testBit_two_pow]at h;have cu:e.on=j:=by simpa using h
    exact cu.symm
   ·exact⟨e,Ψ,ah,.inr h⟩
   ·obtain⟨hg,I,J⟩:=L1 h;exact⟨hg,by simp[I],J⟩
  ·obtain⟨hg,I,J⟩:=L1 h;exact⟨hg,by simp[I],J⟩
theorem L2:∀(os:List Oper) (acc:List Nat) (k:Nat),k<acc.length->(oR acc os)[k]? =acc[k]?
 |[],acc,k,_=>rfl
 |o::os,acc,k,h=>by simp only[oR];rw[L2 os _ k (by simp;omega),qB h]
theorem UE:∀(os:List Oper) (acc:List Nat) (k:Nat) (o:Oper),os[k]? =some o->∃vJ,(oR acc os)[acc.length+k]? =some (wH vJ o.after.toList)/\vJ.length=acc.length+k/\∀i,i<vJ.length->vJ[i]? =(oR acc os)[i]?
 |[],acc,k,o,h=>by simp at h
 |o'::os,acc,0,o,h=>by
  simp only[List.getElem?_cons_zero,ei]at h;subst h;refine⟨acc,?_,Ψ,fun i aw=>?_⟩
  ·simp only[oR,Nat.add_zero];rw[L2 os _ _ Ψ];simp
  ·simp only[oR];rw[L2 os _ i (by simp;omega),qB aw]
 |o'::os,acc,k+1,o,h=>by simp only[List.getElem?_cons_succ]at h;obtain⟨vJ,I,J,au⟩:=UE os (acc++[wH acc o'.after.toList]) k o h;refine⟨vJ,?_,by rw[J];simp;omega,fun i aw=>by rw[au i aw];rfl⟩;simp only[oR];rw[show acc.length+(k+1)=(acc++[wH acc o'.after.toList]).length+k from by simp;omega];exact I
def xc(ops:Array Oper)(listed:Array Bool):Prop:= ∀k o,ops[k]? =some o->listed.getD k false=true->∀e∈o.after.toList,uq .any e=true->listed.getD e.on false=true
theorem Hf{ops:Array Oper}{listed:Array Bool}(aI:xc ops listed):∀(k:Nat) (o:Oper),ops[k]? =some o->(∀e∈o.after.toList,uq .any e=true->listed.getD e.on false=true)->∀j,((oR [] ops.toList).getD k 0).testBit j=true->listed.getD j false=true:=by
 intro k;induction k using Nat.strongRecOn with
 |_ k aX=>
  intro o aq aD j ai;obtain⟨vJ,I,J,au⟩:=UE ops.toList [] k o (by simpa using aq);simp only[mJ,Nat.zero_add]at I J;rw[List.getD_eq_getElem?_getD,I]at ai;obtain⟨e,he,ah,bR⟩:=L1 ai;rcases bR with rfl|bR
  ·exact aD e he ah
  ·by_cases b5:e.on<vJ.length
   ·have hm:vJ.getD e.on 0=(oR [] ops.toList).getD e.on 0:=by rw[List.getD_eq_getElem?_getD,au _ b5,List.getD_eq_getElem?_getD]
    have ab:k<ops.size:=(Array.getElem?_eq_some_iff.1 aq).1;have hK:ops[e.on]? =some ops[e.on]:=pP Ω;rw[hm]at bR;exact aX e.on Ω _ hK (fun hg Dp fk=>aI e.on _ hK (aD e he ah) hg Dp fk) j bR
   ·rw[List.getD_eq_getElem?_getD,List.getElem?_eq_none Ω]at bR;simp at bR
theorem WL{m:Nat}{h:cU}:∀{gs:List cU} {i0:Nat},EM m h i0 gs=true->∀i g,gs[i]? =some g->m.testBit (i0+i)=true\/AX g h=true
 |[],i0,_,i,g,aS=>by simp at aS
 |et::r,i0,hr,0,g,aS=>by simp only[EM,bJ,Bool.or_eq_true]at hr;simp only[List.getElem?_cons_zero,ei]at aS;subst aS;simpa using hr.1
 |et::r,i0,hr,i+1,g,aS=>by simp only[EM,bJ]at hr;have:=WL hr.2 i g (by simpa using aS);rwa[show i0+1+i=i0+(i+1)from by omega]at this
theorem MG:∀{gs pre:List cU} {ms:List Nat},yj pre gs ms=true->∀j h,gs[j]? =some h->∀i g,i<pre.length+j->(pre++gs)[i]? =some g->(ms.getD j 0).testBit i=true\/AX g h=true
 |[],pre,ms,_,j,h,ai,_,_,_,_=>by simp at ai
 |cu::r,pre,[],aV,j,h,ai,_,_,_,_=>by simp[yj]at aV
 |cu::r,pre,m::ms,aV,j,h,ai,i,g,aw,aS=>by
  simp only[yj,bJ]at aV;cases j with
  |zero=>simp only[List.getElem?_cons_zero,ei]at ai;subst ai;rw[qB Ω]at aS;simpa using WL aV.1 i g aS
  |succ j=>have:=MG aV.2 j h (by simpa using ai) i g (by simp;omega) (by simpa using aS);simpa using this
theorem FQ:∀{os:List Oper} {k:Nat},vS k os=true->∀i o,os[i]? =some o->∀e∈o.after.toList,uq .any e=true->e.on<k+i
 |[],k,_,i,o,aq,_,_,_=>by simp at aq
 |o'::os,k,h,0,o,aq,e,he,ah=>by simp only[vS,bJ,ji]at h;simp only[List.getElem?_cons_zero,ei]at aq;subst aq;have:=h.1 e he;simpa[ah]using this
 |o'::os,k,h,i+1,o,aq,e,he,ah=>by simp only[vS,bJ]at h;have:=FQ h.2 i o (by simpa using aq) e he ah;omega
theorem Kg{N:Nat}{bk:List (Nat×dh)}{ops:List Oper}:∀{gs:List cU} {os:List Oper},ja N bk ops gs os=true->∀(i:Nat) (g:cU),gs[i]? =some g->∃o,os[i]? =some o/\C7 N bk ops g o=true
 |[],[],_,i,g,h=>by simp at h
 |[],_::_,h,_,_,_=>by simp[ja]at h
 |_::_,[],h,_,_,_=>by simp[ja]at h
 |et::gs,o::os,h,0,g,aS=>by simp only[ja,bJ]at h;simp only[List.getElem?_cons_zero,ei]at aS;subst aS;exact⟨o,Ψ,h.1⟩
 |et::gs,o::os,h,i+1,g,aS=>by simp only[ja,bJ]at h;obtain⟨o',I,J⟩:=Kg h.2 i g (by simpa using aS);exact⟨o',by simpa using I,J⟩
theorem C9{N:Nat}{bk:List (Nat×dh)}{ops:List Oper}:∀{gs:List cU} {os:List Oper},ja N bk ops gs os=true->gs.length=os.length
 |[],[],_=>rfl
 |[],_::_,h=>by simp[ja]at h
 |_::_,[],h=>by simp[ja]at h
 |g::gs,o::os,h=>by simp only[ja,bJ]at h;simp[C9 h.2]
theorem M5{l:Array Bool}:∀(gs:List cU) (k:Nat),rem l k gs=[]\/ ∃i g,i<gs.length/\gs[i]? =some g/\l.getD (k+i) false=false/\∀j,j<i->l.getD (k+j) false=true
 |[],_=>.inl rfl
 |g::r,k=>by
  by_cases h:l.getD k false=true
  ·rcases M5 (l:=l) r (k+1)with I|⟨i,et,I,J,au,aP⟩
   ·left;simp only[rem,h,if_true,I]
   ·refine .inr ⟨i+1,et,by simp;omega,by simpa using J,by rw[show k+(i+1)=k+1+i from by omega];exact au,fun j ai=>?_⟩;cases j with
    |zero=>simpa using h
    |succ j=>rw[show k+(j+1)=k+1+j from by omega];exact aP j Ω
  ·exact .inr ⟨0,g,Ψ,Ψ,by simpa using h,fun j ai=>Ω⟩
theorem YP{P:bS}{bk:List (Nat×dh)}(aE:eW P bk=true){C:eK}{q:Bool}{n0:Nat}{ops:Array Oper}{gs:List cU}(hb:ja C.N bk ops.toList gs ops.toList=true)(Gl:CG gs ops.toList=true){K:dk->Prop}{Q:Exit->Act->World->Prop}
  (jb:∀A a w,K A->uy C A a w->Q .normal a w):∀(fuel:Nat) (listed:Array Bool) (A:dk) (a:Act) (w:World),listed.size=ops.size->xc ops listed->(rem listed 0 gs).length<=fuel->uJ P q n0 K (rem listed 0 gs) A->uy C A a w->wpAny P .any ops Q fuel listed a w:=by
 simp only[CG,bJ]at Gl;obtain⟨uW,DH⟩:=Gl;have hlen:gs.length=ops.size:=by simpa using C9 hb
 have SH:∀(listed:Array Bool) (A:dk) (a:Act) (w:World),listed.size=ops.size->uJ P q n0 K (rem listed 0 gs) A->uy C A a w->ur .any ops listed=[]->Q .normal a w:=by
  intro listed A a w dz jU hr GO;rcases M5 (l:=listed) gs 0 with h|⟨i,g,I,J,au,aP⟩
  ·rw[h]at jU;exact jb A a w jU hr
  ·exfalso;have aw:i<ops.size:=Ω
   have jW:i∈ur .any ops listed:=by
    unfold ur;simp only[List.mem_filter,List.mem_range,bJ,sG];refine⟨aw,?_,?_⟩
    ·rw[Nat.zero_add]at au;simp only[pO]at au⊢;rw[pP Ω]at au⊢;simpa using au
    ·rw[pP aw];simp only[lM,qD];rw[<-Array.all_toList,ji];intro e he;by_cases ah:uq .any e=true
     ·have b5:=FQ uW i ops[i] (by simp[aw]) e he ah;have:=aP e.on Ω;rw[Nat.zero_add]at this;simp[this]
     ·simp[ah]
   rw[GO]at jW;simp at jW
 intro fuel;induction fuel with
 |zero=>
  intro listed A a w dz aI aK jU hr;have tu:rem listed 0 gs=[]:=sI Ω;have GO:ur .any ops listed=[]:=by
   rw[List.eq_nil_iff_forall_not_mem];intro i aw;unfold ur at aw;simp only[List.mem_filter,List.mem_range,bJ,sG]at aw;obtain⟨I,J,_⟩:=aw;have aM:listed.getD i false=false:=by simp only[pO]at J⊢;rw[pP Ω]at J⊢;simpa using J
   obtain⟨nk,nQ,g,_,aL,_⟩:=EH Ω aM gs 0 Ω Ω;rw[tu]at aL;simp at aL
  exact⟨GO,SH listed A a w dz jU hr GO⟩
 |succ fuel aX=>
  intro listed A a w dz aI aK jU hr;refine⟨SH listed A a w dz jU hr,fun i aw=>?_⟩;unfold ur at aw;simp only[List.mem_filter,List.mem_range,bJ,sG]at aw;obtain⟨I,J,au⟩:=aw;have aM:listed.getD i false=false:=by simp only[pO]at J⊢;rw[pP Ω]at J⊢;simpa using J
  have aq:ops[i]? =some ops[i]:=pP I;have xO:∀e∈ops[i].after.toList,uq .any e=true->listed.getD e.on false=true:=by rw[aq]at au;simp only[lM,qD]at au;rw[<-Array.all_toList,ji]at au;intro e he ah;simpa[ah]using au e he
  obtain⟨nk,nQ,g,ao,aL,bB,b9⟩:=EH Ω aM gs 0 Ω Ω;simp only[Nat.sub_zero]at ao b9;rw[aL]at jU;obtain⟨x,af,Kp⟩:=IT nk nQ A (fun y bG=>by
   obtain⟨f1,f2,f3,f4⟩:=b9 y bG;rcases MG DH i g ao y.1 y.2 (by simpa using f3) (by simpa using f1)with h|h
   ·have:=Hf aI i ops[i] aq xO y.1 h;rw[f4]at this;cases this
   ·exact h) jU
  obtain⟨o',g1,g2⟩:=Kg hb i g ao;have:o'=ops[i]:=by rw[Array.getElem?_toList,aq]at g1;exact(gB g1).symm
  subst this;refine OI aE aq g2 af hr fun ch w' cp=>?_;refine aX (listed.setIfInBounds i true) (A.do x) ch w' (by simpa using dz) ?_ ?_ (by rw[bB];exact Kp) cp
  ·intro k o ab aD e he ah;rw[xE Ω]at aD⊢;split
   ·rfl
   ·by_cases lU:i=k
    ·subst lU;rw[aq]at ab;cases ab;exact xO e he ah
    ·rw[br lU]at aD;exact aI k o ab aD e he ah
  ·rw[bB];rw[aL]at aK;simp at aK⊢;omega
def zd(n0 d:Nat)(st:aU):Prop:= .loc (n0+d)∉st.o/\look (.loc (n0+d)) st.b=none/\look (.loc (n0+d)) st.e=none
def gC.loadO(q:Bool)(t:List (Nat×ae)):gC->Prop
 | .load _ _ x=>q=true\/zz (bP t x)=true
 | .loadB _ _ _=>True
 | .mgetB _ _ _ _ _=>True
 | .mget _ _ _ _ _=>q=true
 | .ment _=>q=true
 | .mlen _=>q=true
 |_=>True
def lz(q:Bool)(nw:List Nat)(n0:Nat)(st:aU):ej->Prop
 | .v _ i=>i.loadO q st.t
 | .box d none _=>zd n0 d st
 | .alloc d none _=>zd n0 d st
 | .box _ (some _) _=>dr
 | .alloc _ (some _) _=>dr
 | .store _ x _=>match bP st.t x with| .ptr _ _=>True|_=>dr
 | .bslm _ none _ _ _=>dr
 | .bslm _ (some m) _ _ _=>m∈nw/\look (.obj m) st.b=none/\look (.obj m) st.e=none
 | .mks _ _ _ _ _ _=>dr
 | .apps _ _ _ _=>dr
 | .appm _ none _ _ x _=>match bP st.t x with| .row _ _ _=>True|_=>dr
 | .appm _ (some m) _ _ x _=>match bP st.t x with| .row _ _ _=>True| .slice _ .nil _=>m∈nw/\look (.obj m) st.b=none/\look (.obj m) st.e=none|_=>dr
 | .storeE _ _ _=>True
 | .mkmap _ none=>dr
 | .mkmap _ (some m)=>m∈nw/\look (.obj m) st.b=none/\look (.obj m) st.e=none
 | .mput _ _ _ _=>True
 | .range _ _ _=>dr
 | .bsl d _ _ _=>zd n0 d st
 | .app d _ _ x _=>match bP st.t x with
  | .slice _ .nil _=>zd n0 d st
  | .slice _ (.own k) _=>(look k st.e).bind (·.xs)=none
  |_=>True
def oC(n0:Nat):ej->aC
 | .mkmap _ (some m)=>.obj m
 | .appm _ (some m) _ _ _ _=>.obj m
 | .bslm _ (some m) _ _ _=>.obj m
 | .v d _| .box d _ _| .alloc d _ _| .bsl d _ _ _| .app d _ _ _ _| .bslm d _ _ _ _| .appm d _ _ _ _ _| .mkmap d _| .range d _ _| .mks d _ _ _ _ _| .apps d _ _ _=>.loc (n0+d)
 | .store _ _ _| .mput _ _ _ _| .storeE _ _ _=>.loc n0
def afY(nw:List Nat)(st:aU)(s al:dJ)(rm:aW aC):Prop:=(∀k,(look k al.b).isSome->(look k s.b).isSome\/rm=some k)/\(∀k,(look k al.e).isSome->(look k s.e).isSome\/rm=some k)/\(∀k,(look k s.b).isSome->(look k al.b).isSome)/\(∀k,(look k s.e).isSome->(look k al.e).isSome)/\
 (∀k,rm=some k->(∃j,j∈nw/\k= .obj j)/\look k st.b=none/\look k st.e=none/\((look k al.b).isSome\/(look k al.e).isSome))
def qE(P:bS)(q:Bool)(nw:List Nat)(n:Nat)(args:List ae)(st:aU)(d:aW Nat)(K:aU->Prop):Prop:=
 (∃gP r,d=some gP/\zd st.n gP st/\kinL (fun _=>dr) args/\FnK P n (st.n+gP) args ⟨[],[]⟩ (fun cZ t'=>cZ=r/\t'=⟨[],[]⟩)/\K {st with t:=put gP r st.t,o:= .loc (st.n+gP)::st.o})\/
 ∃s al r rm,qs (ak s) s.b st.b/\rj (ak s) s.e st.e/\hV s/\hV al/\afY nw st s al rm/\kinL (ak s) args/\b3 P n args s (fun cZ t'=>cZ=r/\t'=al)/\(q=true->al.b=[]/\al.e=[])/\K {after st s al d r with o:=st.o}
def jB(P:bS)(q:Bool)(nw:List Nat)(n0:Nat)(st:aU)(K:aU->Prop):ek->Prop
 | .s i=>match eR (oC n0 i) st.n (oC n0 i::st.o) st i with
  |some (c,st')=>lz q nw n0 st i/\c/\K st'
  |none=>dr
 | .call d f xs=>match bP st.t f with
  | .func n dP=>qE P q nw n (bC (xs.map (bP st.t)++dP)) st d K
  |_=>dr
 | .next _ _=>dr
 | .opn _ _ _=>dr
 | .callb _ _=>dr
def hF(P:bS)(q:Bool)(nw:List Nat)(n0:Nat):List cU->aU->(aU->Prop)->Prop
 |[],st,K=>K st
 |⟨none,i⟩::r,st,K=>jB P q nw n0 st (fun st'=>hF P q nw n0 r st' K) i
 |⟨some (s,want),i⟩::r,st,K=>match get s st.t with
  | .bool b=>(b=want->jB P q nw n0 {st with t:=put s (.bool want) st.t} (fun st'=>hF P q nw n0 r st' K) i)/\(b= !want->hF P q nw n0 r {st with t:=fE i.dst (.tuple []) (put s (.bool !want) st.t)} K)
  | .tuple []=>hF P q nw n0 r {st with t:=fE i.dst (.tuple []) st.t} K
  |_=>dr
structure rz (nw:List Nat) (n0 N:Nat) (oh:List aC) (st:aU) (A:dk):Prop where
 like:me st A
 n:st.n=n0
 F:∀k,fresh n0 st.o k->(∀j∈nw,k≠ .obj j)->A.F k
 o:∀k∈st.o,k∈oh\/(∃d,d<N/\k= .loc (n0+d))\/ ∃j∈nw,k= .obj j
def Cq(nw:List Nat)(A:dk):Prop:= ∀j∈nw,A.b (.obj j)=none->A.e (.obj j)=none->A.F (.obj j)
theorem Cq.do{P:bS}{q:Bool}{n0:Nat}{nw:List Nat}{A:dk}(h:Cq nw A){g:cU}{x:ls}(af:lu P q n0 g A x):Cq nw (A.do x):=by
 intro j ai ah he;refine⟨h j ai (FJ ah) (FK he),fun sY=>?_⟩;rcases(NW af).r _ sY with⟨d,_,e⟩|⟨_,_,az⟩
 ·cases e
 ·rcases az with az|az
  ·obtain⟨y,bG⟩:=fv.1 az;simp[dk.do,iZ,bG]at ah
  ·obtain⟨y,bG⟩:=fv.1 az;simp[dk.do,iZ,bG]at he
theorem Q0{P:bS}{q:Bool}{nw:List Nat}{n0 N:Nat}{oh:List aC}{i:ek}(aI:∀d,i.dst=some d->d<N){st:aU}{A:dk}(h:rz nw n0 N oh st A)(mP:Cq nw A){K:aU->Prop}(he:jB P q nw n0 st K i):∃x st',dX P q n0 i A x/\K st'/\rz nw n0 N oh st' (A.do x):=by
 have aD:=h.like;have tp:∀d,zd n0 d st->(A.F (.loc (n0+d))/\A.b (.loc (n0+d))=none/\A.e (.loc (n0+d))=none):=fun d aK=>⟨h.F _ ⟨Ψ,aK.1⟩ (fun _ _ e=>by cases e),by rw[<-aD.b];exact aK.2.1,by rw[<-aD.e];exact aK.2.2⟩;have nY:∀(d:aW Nat) (p:ae) (bw:List (aC×List ae)) (ew:List (aC×dn)) (κ:aC),∀k,fresh n0 (κ::st.o) k->(∀j∈nw,k≠ .obj j)->(A.do ⟨d,p,bw,ew,some κ⟩).F k:=fun d p bw ew κ k ab ai=>⟨h.F k (uT k ab).1 ai,fun e=>(uT k ab).2 (gB e).symm⟩;have xK:∀(d:aW Nat) (p:ae) (bw:List (aC×List ae)) (ew:List (aC×dn)),∀k,fresh n0 st.o k->(∀j∈nw,k≠ .obj j)->(A.do ⟨d,p,bw,ew,none⟩).F k:=fun d p bw ew k ab ai=>⟨h.F k ab ai,Ψ⟩;have DE:∀d,d<N->∀k∈aC.loc (n0+d)::st.o,k∈oh\/(∃d,d<N/\k= .loc (n0+d))\/ ∃j∈nw,k= .obj j:=fun d aI k ab=>by
  rcases gy.1 ab with rfl|ab
  ·exact .inr (.inl ⟨d,aI,rfl⟩)
  ·exact h.o k ab
 cases i with
 |s i=>
  cases i with
  |v d i=>
   simp only[jB,eR]at he;cases aN:hk st i with
   |none=>simp[aN]at he
   |some Z1=>
    obtain⟨c,p⟩:=Z1;simp only[aN]at he;obtain⟨I,J,au⟩:=he;refine⟨⟨some d,p,[],[],none⟩,_,⟨c,p,by rw[<-XR aD];exact aN,J,fun kP=>?_,rfl⟩,au,LU aD d p,h.n,xK _ _ _ _,h.o⟩;cases i<;>simp only[gC.isLoad]at kP<;>try(cases kP;done)
    case mget=>exact .inr (.inl I)
    case ment=>exact .inr (.inl I)
    case mlen=>exact .inr (.inl I)
    case loadB=>exact .inl rfl
    case mgetB=>exact .inl rfl
    simp only[lz,gC.loadO,ir aD]at I;exact .inr (by simpa only[gC.ptrOf]using I)
  |box d key v=>
   cases key with
   |some m=>simp only[jB,eR,lz,false_and]at he
   |none=>simp only[jB,eR,lz,oC]at he;obtain⟨I,J,au⟩:=he;rw[ir aD]at J;refine⟨_,_,⟨tp d I,J,rfl⟩,au,?_,h.n,nY _ _ _ _ _,DE d (aI d rfl)⟩;rw[ir aD];exact Bw aD d _ _ _ _ _ _
  |alloc d key z=>
   cases key with
   |some m=>simp only[jB,eR,lz,false_and]at he
   |none=>simp only[jB,eR,lz,oC]at he;obtain⟨I,J,au⟩:=he;exact⟨_,_,⟨tp d I,rfl⟩,au,Bw aD d _ _ _ _ _ _,h.n,nY _ _ _ _ _,DE d (aI d rfl)⟩
  |store sz u v=>
   simp only[jB,eR]at he;cases hu:bP st.t u with
   |ptr k off=>
    cases ah:look k st.b with
    |none=>simp[hu,ah]at he
    |some cs=>simp only[hu,ah]at he;obtain⟨I,J,au⟩:=he;rw[ir aD]at J hu;refine⟨⟨none,.junk,[(k,nL cs off (cells (dH A.t v)))],[],none⟩,_,⟨k,off,cs,hu,by rw[<-aD.b];exact ah,J,rfl⟩,au,?_,h.n,xK _ _ _ _,h.o⟩;rw[ir aD];exact Hb aD k _ _
   |_=>
    exfalso;simp only[hu]at he;split at he
    ·have:=he.1;simp[lz,hu]at this
    ·exact he
  |bsl d sz el xs=>simp only[jB,eR,lz,oC]at he;obtain⟨I,J,au⟩:=he;rw[qQ aD]at J;refine⟨_,_,⟨tp d I,J,rfl⟩,au,?_,h.n,nY _ _ _ _ _,DE d (aI d rfl)⟩;rw[qQ aD];exact qi aD d _ _ _ _ _ _
  |app d sz el u v=>
   simp only[jB,eR]at he;cases hu:bP st.t u with
   |slice dL tag xs=>
    cases aN:bP st.t v with
    |slice iz hC ys=>
     simp only[hu,aN]at he;by_cases ff:dL=sz/\iz=sz
     ·obtain⟨rfl,rfl⟩:=ff;rw[ir aD]at hu aN;cases tag with
      |no=>simp at he
      |tr k j=>simp at he
      |lo k=>simp at he
      |nil=>simp only[and_self,if_true,lz,ir aD,hu,oC]at he;obtain⟨I,J,au⟩:=he;exact⟨_,_,⟨.nil,xs,hC,ys,hu,aN,.inr ⟨rfl,J,tp d I,rfl⟩⟩,au,qi aD d _ _ _ _ _ _,h.n,nY _ _ _ _ _,DE d (aI d rfl)⟩
      |own k=>
       cases ab:look k st.e with
       |none=>simp[ab]at he
       |some o=>simp only[and_self,if_true,ab]at he;obtain⟨I,J,au⟩:=he;exact⟨_,_,⟨.own k,xs,hC,ys,hu,aN,.inl ⟨k,o,rfl,by rw[<-aD.e];exact ab,⟨by simpa[lz,ir aD,hu,ab]using I,J⟩,rfl⟩⟩,au,qi aD d _ _ _ _ _ _,h.n,xK _ _ _ _,h.o⟩
     ·simp[ff]at he
    |_=>simp[hu,aN]at he
   |_=>simp[hu]at he
  |bslm d key sz el xs=>
   cases key with
   |none=>simp only[jB,eR,lz,false_and]at he
   |some m=>
    simp only[jB,eR,lz,oC]at he;obtain⟨⟨bz,I,J⟩,aP,au⟩:=he;rw[aD.b]at I;rw[aD.e]at J;rw[qQ aD]at aP;refine⟨_,_,⟨⟨mP m bz I J,I,J⟩,aP,rfl⟩,au,?_,h.n,nY _ _ _ _ _,fun k ab=>?_⟩
    ·rw[qQ aD];exact qi aD d _ _ _ _ _ _
    rcases gy.1 ab with rfl|ab
    ·exact .inr (.inr ⟨m,bz,rfl⟩)
    ·exact h.o k ab
  |mks d key sz el z x=>simp only[jB,eR,lz,false_and]at he;split at he<;>simp at he
  |apps d el x y=>simp only[jB,eR,lz,false_and]at he;split at he<;>simp at he
  |appm d key sz el u v=>
   cases key with
   |some m=>
    simp only[jB,eR]at he;cases hu:bP st.t u with
    |slice dL tag xs=>
     cases tag with
     |nil=>
      cases aN:bP st.t v with
      |slice iz hC ys=>
       simp only[hu,aN,nn]at he;by_cases ff:dL=sz/\iz=sz
       ·obtain⟨rfl,rfl⟩:=ff;simp only[and_self,if_true,lz,hu,oC]at he;rw[ir aD]at hu aN;obtain⟨⟨bz,I,J⟩,aP,au⟩:=he;rw[aD.b]at I;rw[aD.e]at J;refine⟨_,_,.inr ⟨xs,hC,ys,hu,aN,⟨mP m bz I J,I,J⟩,aP,rfl⟩,au,qi aD d _ _ _ _ _ _,h.n,nY _ _ _ _ _,fun k ab=>?_⟩;rcases gy.1 ab with rfl|ab
        ·exact .inr (.inr ⟨m,bz,rfl⟩)
        ·exact h.o k ab
       ·simp[ff]at he
      |_=>simp[hu,aN,nn]at he
     |_=>simp[hu,nn]at he
    |row dL k n=>
     cases aN:bP st.t v with
     |slice iz hC ys=>
      simp only[hu,aN,nn]at he;by_cases ff:dL=sz/\iz=sz
      ·obtain⟨rfl,rfl⟩:=ff;rw[ir aD]at hu aN;simp only[and_self,if_true]at he;cases ab:look k st.e with
       |none=>simp[ab]at he
       |some o=>
        obtain⟨n',fj,vq,Er⟩:=o;cases Er with
        |none=>simp[ab]at he
        |some xs=>
         simp only[ab]at he;by_cases p5:n'=n/\fj=el/\vq=iz
         ·obtain⟨rfl,rfl,rfl⟩:=p5;simp only[and_self,if_true]at he;obtain⟨I,J,au⟩:=he;exact⟨_,_,.inl ⟨k,n',xs,hC,ys,hu,aN,by rw[<-aD.e];exact ab,J,rfl⟩,au,qi aD d _ _ _ _ _ _,h.n,xK _ _ _ _,h.o⟩
         ·simp[p5]at he
      ·simp[ff]at he
     |_=>simp[hu,aN,nn]at he
    |_=>simp[hu,nn]at he
   |none=>
   simp only[jB,eR]at he;cases hu:bP st.t u with
   |row dL k n=>
    cases aN:bP st.t v with
    |slice iz hC ys=>
     simp only[hu,aN,nn]at he;by_cases ff:dL=sz/\iz=sz
     ·obtain⟨rfl,rfl⟩:=ff;rw[ir aD]at hu aN;simp only[and_self,if_true]at he;cases ab:look k st.e with
      |none=>simp[ab]at he
      |some o=>
       obtain⟨n',fj,vq,Er⟩:=o;cases Er with
       |none=>simp[ab]at he
       |some xs=>
        simp only[ab]at he;by_cases p5:n'=n/\fj=el/\vq=iz
        ·obtain⟨rfl,rfl,rfl⟩:=p5;simp only[and_self,if_true]at he;obtain⟨I,J,au⟩:=he;exact⟨_,_,⟨k,n',xs,hC,ys,hu,aN,by rw[<-aD.e];exact ab,J,rfl⟩,au,qi aD d _ _ _ _ _ _,h.n,xK _ _ _ _,h.o⟩
        ·simp[p5]at he
     ·simp[ff]at he
    |_=>simp[hu,aN,nn]at he
   |slice dL tag xs=>
    exfalso;simp only[hu]at he;split at he
    ·have:=he.1;simp[lz,hu]at this
    ·exact he
   |_=>simp[hu,nn]at he
  |storeE sz u v=>
   simp only[jB,eR]at he;cases hu:bP st.t u with
   |rptr dL k n i f=>
    cases ab:look k st.e with
    |none=>simp[hu,sj,ab]at he
    |some o=>
     obtain⟨n',el,vq,Er⟩:=o;cases Er with
     |none=>simp[hu,sj,ab]at he
     |some xs=>
      simp only[hu,sj,ab]at he;by_cases p5:n'=n/\vq=dL
      ·obtain⟨rfl,rfl⟩:=p5;simp only[and_self,if_true]at he;cases bp:xs[i]? with
       |none=>simp[bp]at he
       |some q=>simp only[bp]at he;obtain⟨I,J,au⟩:=he;rw[ir aD]at J hu;refine⟨⟨none,.junk,[],[(k,⟨n',el,vq,some (xs.set i (sd q f (cells (dH A.t v))))⟩)],none⟩,_,⟨k,n',i,f,el,vq,xs,q,hu,by rw[<-aD.e];exact ab,bp,J,rfl⟩,au,?_,h.n,xK _ _ _ _,h.o⟩;rw[ir aD];exact Uu aD k _ _
      ·simp[p5]at he
   |_=>simp[hu,sj]at he
  |mkmap d key=>
   cases key with
   |none=>simp only[jB,eR,lz,false_and]at he
   |some m=>
    simp only[jB,eR,lz,oC]at he;obtain⟨⟨bz,I,J⟩,_,au⟩:=he;rw[aD.b]at I;rw[aD.e]at J;refine⟨_,_,⟨⟨mP m bz I J,I,J⟩,rfl⟩,au,Bw aD d _ _ _ _ _ _,h.n,nY _ _ _ _ _,fun k ab=>?_⟩;rcases gy.1 ab with rfl|ab
    ·exact .inr (.inr ⟨m,bz,rfl⟩)
    ·exact h.o k ab
  |mput cg u k v=>
   simp only[jB,eR,lz]at he;cases hu:bP st.t u with
   |gmap m=>
    cases ah:look m st.b with
    |none=>simp[hu,ah]at he
    |some cs=>
     cases hm:r3 cg (bP st.t k) (bP st.t v) cs with
     |none=>simp[hu,ah,hm]at he
     |some cs'=>simp only[hu,ah,hm]at he;rw[ir aD]at hu;rw[ir aD,ir aD]at hm;exact⟨⟨none,.junk,[(m,cs')],[],none⟩,_,⟨m,cs,cs',hu,by rw[<-aD.b];exact ah,hm,rfl⟩,he.2.2,Hb aD m _ _,h.n,xK _ _ _ _,h.o⟩
   |_=>simp[hu]at he
  |range d key x=>simp only[jB,lz,false_and]at he;split at he<;>exact he.elim
 |next d x=>simp only[jB]at he
 |opn d f x=>simp only[jB]at he
 |callb d f=>simp only[jB]at he
 |call d f xs=>
  simp only[jB]at he;cases aK:bP st.t f with
  |func n dP=>
   simp only[aK]at he;rw[ir aD]at aK;rcases he with⟨gP,r,rfl,cF,c2,c3,c4⟩|⟨s,al,r,rm,cF,c2,c3,c4,c5,j8,vM,Y5,c9⟩
   ·rw[qQ aD]at c2 c3;have aM:=h.n;subst aM;refine⟨⟨some gP,r,[],[],some (.loc (st.n+gP))⟩,_,⟨n,dP,aK,.inr ⟨gP,r,rfl,tp gP cF,c2,c3,rfl⟩⟩,c4,Uv aD gP r _ _,rfl,nY _ _ _ _ _,DE gP (aI gP rfl)⟩
   rw[qQ aD]at j8 vM;obtain⟨cD,dI,hA,kz,r1⟩:=c5;refine⟨⟨d,r,al.b,al.e,rm⟩,_,⟨n,dP,aK,.inl ⟨⟨s,al,r,rm,fun k cs ab=>⟨by rw[<-aD.b];exact(cF k cs ab).1,(cF k cs ab).2.2⟩,fun k o ab=>⟨by rw[<-aD.e];exact(c2 k o ab).1,(c2 k o ab).2.2⟩,c3,c4,⟨cD,dI,hA,kz,fun k ab=>?_⟩,j8,vM,rfl⟩,Y5⟩⟩,c9,⟨fun i=>?_,fun k=>?_,fun k=>?_⟩,h.n,fun k ab ai=>⟨h.F k ab ai,fun sY=>?_⟩,h.o⟩
   ·obtain⟨⟨j,ai,rfl⟩,aL,bB,b9⟩:=r1 k ab;rw[aD.b]at aL;rw[aD.e]at bB;exact⟨⟨j,rfl⟩,mP j ai aL bB,aL,bB,b9⟩
   ·simp only[after,dk.do];cases d with
    |none=>simpa[fE]using aD.t i
    |some d=>simp only[fE,get_put,ei,aD.t]
   ·simp only[after,dk.do,iZ,nH,r2];by_cases az:(look k s.b).isSome
    ·have:=hA k az;obtain⟨y,bG⟩:=fv.1 this;simp[az,bG]
    ·cases aM:look k al.b with
     |none=>simp only[az,aD.b];cases A.b k<;>simp
     |some y=>
      rcases cD k (by simp[aM])with h|h
      ·exact absurd h az
      ·have:=r1 k h;simp[az,this]
   ·simp only[after,dk.do,iZ,nH,r2];by_cases az:(look k s.e).isSome
    ·have:=kz k az;obtain⟨y,bG⟩:=fv.1 this;simp[az,bG]
    ·cases aM:look k al.e with
     |none=>simp only[az,aD.e];cases A.e k<;>simp
     |some y=>
      rcases dI k (by simp[aM])with h|h
      ·exact absurd h az
      ·have:=r1 k h;simp[az,this]
   ·obtain⟨⟨j,mr,rfl⟩,_⟩:=r1 k sY;exact ai j mr rfl
  |_=>simp[aK]at he
def xv(N:Nat):List cU->Bool
 |[]=>true
 |g::r=>hZ N g.i.dst&&xv N r
def xb:Nat->List cU->List (Nat×cU)
 |_,[]=>[]
 |k,g::r=>(k,g)::xb (k+1) r
theorem O0{nw:List Nat}{n0 N:Nat}{oh:List aC}{st:aU}{A:dk}(h:rz nw n0 N oh st A){s:Nat}{p:ae}(az:get s st.t=p):rz nw n0 N oh {st with t:=put s p st.t} A:=by
 refine⟨⟨fun i=>?_,h.like.b,h.like.e⟩,h.n,h.F,h.o⟩;simp only[get_put];split
 ·rename_i e;subst e;rw[<-az];exact h.like.t _
 ·exact h.like.t i
theorem O1{nw:List Nat}{n0 N:Nat}{oh:List aC}{st:aU}{A:dk}(h:rz nw n0 N oh st A)(d:aW Nat):rz nw n0 N oh {st with t:=fE d (.tuple []) st.t} (A.do (l7 d)):=by
 refine⟨⟨fun i=>?_,fun k=>?_,fun k=>?_⟩,h.n,fun k ab ai=>⟨h.F k ab ai,by simp[l7]⟩,h.o⟩
 ·simp only[dk.do,l7];cases d with
  |none=>simpa[fE]using h.like.t i
  |some d=>simp only[fE,get_put,ei,h.like.t]
 ·simpa[dk.do,iZ,look,l7]using h.like.b k
 ·simpa[dk.do,iZ,look,l7]using h.like.e k
theorem AO{P:bS}{q:Bool}{nw:List Nat}{n0 N:Nat}{oh:List aC}{K:aU->Prop}:∀(gs:List cU) (k:Nat),xv N gs=true->∀(st:aU) (A:dk),rz nw n0 N oh st A->Cq nw A->hF P q nw n0 gs st K->uJ P q n0 (fun A'=> ∃st',K st'/\rz nw n0 N oh st' A') (xb k gs) A
 |[],k,_,st,A,h,_,he=>⟨st,he,h⟩
 |⟨Kb,i⟩::r,k,aI,st,A,h,mP,he=>by
  simp only[xv,bJ]at aI;have gv:∀d,i.dst=some d->d<N:=fun d e=>by have:=aI.1;rw[e]at this;simpa[hZ]using this
  simp only[xb,uJ];cases Kb with
  |none=>simp only[hF]at he;obtain⟨x,st',I,J,au⟩:=Q0 gv h mP he;have aS:lu P q n0 ⟨none,i⟩ A x:=I;exact⟨x,aS,AO r (k+1) aI.2 st' _ au (mP.do aS) J⟩
  |some z6=>
   obtain⟨s,want⟩:=z6;simp only[hF]at he;split at he
   ·rename_i b ah;by_cases e:b=want
    ·subst e;obtain⟨x,st',I,J,au⟩:=Q0 gv (O0 h ah) mP (he.1 rfl);have aS:lu P q n0 ⟨some (s,b),i⟩ A x:=by unfold lu;simp only[<-h.like.t,ah];exact .inl ⟨trivial,I⟩
     exact⟨x,aS,AO r (k+1) aI.2 st' _ au (mP.do aS) J⟩
    ·have fk:b= !want:=by cases b<;>cases want<;>simp at e⊢
     subst fk;have aS:lu P q n0 ⟨some (s,want),i⟩ A (l7 i.dst):=by unfold lu;simp only[<-h.like.t,ah];exact .inr ⟨trivial,trivial⟩
     exact⟨l7 i.dst,aS,AO r (k+1) aI.2 _ _ (O1 (O0 h ah) i.dst) (mP.do aS) (he.2 rfl)⟩
   ·rename_i ah;have aS:lu P q n0 ⟨some (s,want),i⟩ A (l7 i.dst):=by unfold lu;simp only[<-h.like.t,ah]
    exact⟨l7 i.dst,aS,AO r (k+1) aI.2 _ _ (O1 h i.dst) (mP.do aS) he⟩
   ·exact he.elim
theorem EG:∀(gs:List cU) (l:Array Bool) (k:Nat),(∀j,l.getD j false=false)->rem l k gs=xb k gs
 |[],_,_,_=>rfl
 |g::r,l,k,h=>by simp only[rem,h k,xb,EG r l (k+1) h];simp
def pU(n:Nat)(o:List aC)(K:aU->Prop)(st:aU):Prop:=K {st with n:=n,o:=o}
theorem Good.like{pr:Nat->Prop}{w:World}{ν:aQ}{b gV:List (aC×List ae)}{e hg:List (aC×dn)}(h:Good pr w ν b e)(ah:∀k,look k gV=look k b)(he:∀k,look k hg=look k e):Good pr w ν gV hg:=
 ⟨h.alt,fun k cs ab=>h.box k cs (by rw[<-ah];exact ab),fun k bn bl I J=>h.inj k bn bl (by rw[<-ah];exact I) (by rw[<-ah];exact J),fun g o aS=>h.own g o (by rw[<-he];exact aS),
  fun g et n n' v v' bl I J=>h.oinj g et n n' v v' bl (by rw[<-he];exact I) (by rw[<-he];exact J),fun g k n v bl I J=>h.obx g k n v bl (by rw[<-he];exact I) (by rw[<-ah];exact J),h.one,
  fun bl aE=>h.otr bl (aE.imp (fun⟨k,bH,a2⟩=>⟨k,by rw[<-ah];exact bH,a2⟩) (fun⟨g,n,v,bH,a2⟩=>⟨g,n,v,by rw[<-he];exact bH,a2⟩))⟩
theorem Q2{P:bS}(hm:P.follows .mixedOrders=true){bk:List (Nat×dh)}(aE:eW P bk=true){C:eK}{q:Bool}{nw:List Nat}{id:Nat}{ops:Array Oper}{gs:List cU}(hb:ja C.N bk ops.toList gs ops.toList=true)(Gl:CG gs ops.toList=true)(hG:xv C.N gs=true)
  {K:aU->Prop} {Q:Exit->Act->World->Prop} (jb:∀st' ch w' ν',K st'->cm C st' ch w' ν'->Q .normal ch w') {st:aU} {a:Act} {w:World} {ν:aQ} (KP:∀j∈nw,.obj j∉st.o) (he:hF P q nw st.n gs st (pU (st.n+C.N) (nw.map aC.obj++st.o) K)) (hr:cm C st a w ν):(Code.region id ops true).wp P Q a w:=by
 refine wp_region_any hm ?_;have cp:cm C st a {w with drawn:=w.drawn+1} ν:=hr.drawn _;let A:dk:=⟨fun i=>get i st.t,fun k=>look k st.b,fun k=>look k st.e,fresh st.n st.o⟩
 have iG:rz nw st.n C.N st.o st A:=⟨⟨fun _=>rfl,fun _=>rfl,fun _=>rfl⟩,rfl,fun k ab _=>ab,fun k ab=>.inl ab⟩;have jU:=AO gs 0 hG st A iG (fun j ai _ _=>⟨trivial,KP j ai⟩) he;have jX:∀j,(rs ops.size false).getD j false=false:=fun j=>by simp[pO,Array.getElem?_replicate];split<;>rfl
 refine YP aE hb Gl (q:=q) (n0:=st.n) (K:=fun A'=> ∃st',pU (st.n+C.N) (nw.map aC.obj++st.o) K st'/\rz nw st.n C.N st.o st' A') ?_ ops.size _ A a _ Ψ ?_ ?_ (by rw[EG gs _ 0 jX];exact jU) ⟨st,ν,iG.like,fun k ab=>ab,cp⟩
 ·rintro A' ch w' ⟨st',ab,bL⟩ ⟨ajM,ν',fe,Kk,kc⟩;refine jb _ ch w' ν' ab ⟨kc.good.like (fun k=>by rw[fe.b,<-bL.like.b]) (fun k=>by rw[fe.e,<-bL.like.e]),kc.fr,kc.defers,kc.size,fun i=>?_,fun k qW=>?_,kc.ext,fun m hm aK=>cp.obk m hm (rR (Nat.le_add_right _ _) (fun _ h=>k2 _ h) aK)⟩
  ·have:=kc.slot i;rw[fe.t,<-bL.like.t]at this;exact this
  ·refine kc.new k (Kk k (bL.F k ?_ fun j ai e=>qW.2 (by subst e;exact ni _ (List.mem_map_of_mem ai))));simp only at qW;refine⟨(rR (Nat.le_add_right st.n C.N) (fun _ h=>h) qW).1,fun jW=>?_⟩;rcases bL.o k jW with h|⟨d,aI,rfl⟩|⟨j,ai,rfl⟩;rotate_left 2
   ·exact qW.2 (ni _ (List.mem_map_of_mem ai))
   ·exact qW.2 (k2 _ h)
   ·have:=qW.1;simp at this;omega
 ·intro k o ab aD;rw[jX]at aD;cases aD
 ·rw[EG gs _ 0 jX];have:∀(gs:List cU) k,(xb k gs).length=gs.length:=by
   intro gs;induction gs with
   |nil=>intro k;rfl
   |cons g r aX=>intro k;simp[xb,aX]
  rw[this];have:=C9 hb;simp at this;omega
mutual
def tn:ae->List (aC×Nat)
 | .slice _ tag _=>match tag with| .tr k i=>[(k,i)]|_=>[]
 | .agg cs=>tnL cs
 |_=>[]
def tnL:List ae->List (aC×Nat)
 |[]=>[]
 |x::xs=>tn x++tnL xs
end
mutual
def dO:ae->Prop
 | .int _ _=>True
 | .bool _=>True
 | .str _=>True
 | .slice _ tag xs=>match tag with| .tr k _=>k≠cY|_=>xs=[]
 | .agg cs=>ed cs
 |_=>dr
def ed:List ae->Prop
 |[]=>True
 |x::xs=>dO x/\ed xs
end
def lh(ν:aQ)(l:List (aC×Nat))(b:Nat):Prop:= ∃k i,(k,i)∈l/\ν.tr k i b
theorem BE{ν:aQ}{l c6:List (aC×Nat)}(h:∀x∈l,x∈c6)(b:Nat)(ah:lh ν l b):lh ν c6 b:=by obtain⟨k,i,I,J⟩:=ah;exact⟨k,i,h _ I,J⟩
theorem Mn{ν:aQ}(fR:∀k j bn eQ b,ν.tr k j b->ν.tr bn eQ b->k=bn/\j=eQ){l c6:List (aC×Nat)}(h:(l++c6).Nodup)(b:Nat)(I:lh ν l b):¬lh ν c6 b:=by rintro⟨bn,lY,au,aP⟩;obtain⟨k,i,I,J⟩:=I;obtain⟨rfl,rfl⟩:=fR k i bn lY b J aP;rw[qC]at h;exact h.2.2 _ I _ au rfl
mutual
theorem Hv{w:World}{ν:aQ}(fR:∀k j bn eQ b,ν.tr k j b->ν.tr bn eQ b->k=bn/\j=eQ):∀(p:ae) (v:Value),aJ w ν p v->dO p->(tn p).Nodup->cB true w ν.A (lh ν (tn p)) (bD p) v
 | .int k n,v,h,_,_=>by simpa only[aJ,bD,cB]using h
 | .bool b,v,h,_,_=>by simpa only[aJ,bD,cB]using h
 | .str s,v,h,_,_=>by simpa only[aJ,bD,cB]using h
 | .slice sz tag xs,v,h,aq,_=>by
  simp only[aJ]at h;obtain⟨⟨a,cap,I,J,au,aP⟩,_,_,gQ,_⟩:=h;by_cases aE:∃k i,tag= .tr k i
  ·obtain⟨k,i,rfl⟩:=aE;refine Gc _ _ v (uU (fun _ _ h=>⟨h,rfl⟩) (fun _ _ _=>rfl) _ _ _ v (fun b ah=>?_) (gQ k i rfl));exact⟨k,i,by simp[tn],ah⟩
  ·have af:xs=[]:=by
    simp only[dO]at aq;split at aq
    ·exact absurd ⟨_,_,rfl⟩ aE
    ·exact aq
   subst af;simp only[bD,bC,cB];exact⟨a,cap,I,J,au,.inl trivial⟩
 | .agg cs,v,h,aq,aM=>by simp only[aJ,dO,tn,bD,cB]at h aq aM⊢;obtain⟨us,I,J⟩:=h;exact⟨us,I,U7 fR cs _ J aq aM⟩
 | .junk,_,_,aq,_=>by simp[dO]at aq
 | .ptr _ _,_,_,aq,_=>by simp[dO]at aq
 | .eptr _,_,_,aq,_=>by simp[dO]at aq
 | .iface _ _,_,_,aq,_=>by simp[dO]at aq
 | .nilp,_,_,aq,_=>by simp[dO]at aq
 | .tuple _,_,_,aq,_=>by simp[dO]at aq
 | .func _ _,_,_,aq,_=>by simp[dO]at aq
 | .gmap _,_,_,aq,_=>by simp[dO]at aq
 | .row _ _ _,_,_,aq,_=>by simp[dO]at aq
 | .rptr _ _ _ _ _,_,_,aq,_=>by simp[dO]at aq
 | .hdm _ _,_,_,aq,_=>by simp[dO]at aq
 | .hdi _ _ _,_,_,aq,_=>by simp[dO]at aq
 | .cst _,_,_,aq,_=>by simp[dO]at aq
theorem U7{w:World}{ν:aQ}(fR:∀k j bn eQ b,ν.tr k j b->ν.tr bn eQ b->k=bn/\j=eQ):∀(cs:List ae) (us:List Value),ck w ν cs us->ed cs->(tnL cs).Nodup->kr true w ν.A (lh ν (tnL cs)) (bC cs) us
 |[],us,h,_,_=>by simpa only[ck,bC,kr]using h
 |c::cs,us,h,aq,aM=>by simp only[ck,ed,tnL,bC,kr]at h aq aM⊢;obtain⟨u,bE,I,⟨J,au⟩,aP⟩:=h;have hz:=qC.1 aM;exact⟨u,bE,lh ν (tn c),lh ν (tnL cs),I,⟨BE (fun x af=>ni _ af),BE (fun x af=>k2 _ af),fun _ b ah=>Mn fR aM b ah⟩,⟨Hv fR c u J aq.1 hz.1,au⟩,U7 fR cs bE aP aq.2 hz.2.1⟩
end
theorem Mz{w:World}{ν:aQ}(fR:∀k j bn eQ b,ν.tr k j b->ν.tr bn eQ b->k=bn/\j=eQ){sz:Nat}:∀(cs:List ae) (us:List Value),cV w ν sz cs us->ed cs->(tnL cs).Nodup->jD true w ν.A (lh ν (tnL cs)) sz (bC cs) us
 |[],us,h,_,_=>by simpa only[cV,bC,jD]using h
 |c::cs,us,h,aq,aM=>by simp only[cV,ed,tnL,bC,jD]at h aq aM⊢;obtain⟨u,bE,I,⟨J,au⟩,aP⟩:=h;have hz:=qC.1 aM;exact⟨u,bE,lh ν (tn c),lh ν (tnL cs),I,⟨BE (fun x af=>ni _ af),BE (fun x af=>k2 _ af),fun _ b ah=>Mn fR aM b ah⟩,⟨Hv fR c u J aq.1 hz.1,au⟩,Mz fR cs bE aP aq.2 hz.2.1⟩
mutual
theorem Gb{t:Bool}{w:World}{A:Nat->Nat->Prop}{ν:aQ}(bf:∀b o,A b o->ν.A b o):∀(p:ae) (F:Nat->Prop) (v:Value),cB t w A F p v->aJ w ν (bD p) v
 | .int k n,_,_,h=>by simpa only[aJ,bD,cB]using h
 | .bool b,_,_,h=>by simpa only[aJ,bD,cB]using h
 | .str s,_,_,h=>by simpa only[aJ,bD,cB]using h
 | .slice sz tag xs,F,v,h=>by
  simp only[cB,bD,aJ]at h⊢;obtain⟨a,cap,I,J,au,aP⟩:=h;refine⟨⟨a,cap,by rw[nc];exact I,by rw[nc];exact J,by rw[nc];exact au,?_⟩,fun e=>(by cases e),fun g e=>(by cases e),fun _ _ e=>(by cases e),fun _ e=>(by cases e)⟩;rcases aP with rfl|⟨b,off,us,G,ao,_,_,b9,_,dC⟩
  ·exact .inl rfl
  ·exact .inr ⟨b,off,us,ao,x6 (fun b o h=>⟨bf b o h,rfl⟩) _ _ b9,RK bf xs G us dC⟩
 | .agg cs,F,v,h=>by simp only[cB,bD,aJ]at h⊢;obtain⟨us,I,J⟩:=h;exact⟨us,I,RM bf cs F _ J⟩
 | .junk,_,_,h=>by simp[cB]at h
 | .ptr _ _,_,_,h=>by simp[cB]at h
 | .eptr _,_,_,h=>by simp[cB]at h
 | .iface _ _,_,_,h=>by simp[cB]at h
 | .nilp,_,_,h=>by simp[cB]at h
 | .tuple _,_,_,h=>by simp[cB]at h
 | .func _ _,_,_,h=>by simp[cB]at h
 | .gmap _,_,_,h=>by simp[cB]at h
 | .row _ _ _,_,_,h=>by simp[cB]at h
 | .rptr _ _ _ _ _,_,_,h=>by simp[cB]at h
 | .hdm _ _,_,_,h=>by simp[cB]at h
 | .hdi _ _ _,_,_,h=>by simp[cB]at h
 | .cst _,_,_,h=>by simp[cB]at h
theorem RM{t:Bool}{w:World}{A:Nat->Nat->Prop}{ν:aQ}(bf:∀b o,A b o->ν.A b o):∀(cs:List ae) (F:Nat->Prop) (us:List Value),kr t w A F cs us->ck w ν (bC cs) us
 |[],_,_,h=>by simpa only[kr,bC,ck]using h
 |c::cs,F,us,h=>by simp only[kr,bC,ck]at h⊢;obtain⟨u,bE,gJ,gK,I,_,⟨bA,cy⟩,eu⟩:=h;exact⟨u,bE,I,⟨Gb bf c gJ u bA,cy⟩,RM bf cs gK bE eu⟩
theorem RK{t:Bool}{w:World}{A:Nat->Nat->Prop}{ν:aQ}(bf:∀b o,A b o->ν.A b o){sz:Nat}:∀(cs:List ae) (F:Nat->Prop) (us:List Value),jD t w A F sz cs us->cV w ν sz (bC cs) us
 |[],_,_,h=>by simpa only[jD,bC,cV]using h
 |c::cs,F,us,h=>by simp only[jD,bC,cV]at h⊢;obtain⟨u,bE,gJ,gK,I,_,⟨bA,cy⟩,eu⟩:=h;exact⟨u,bE,I,⟨Gb bf c gJ u bA,cy⟩,RK bf cs gK bE eu⟩
end
mutual
theorem NK:∀p:ae,bD (bD p)=bD p
 | .slice _ _ xs=>by simp[bD,ug xs]
 | .agg cs=>by simp[bD,ug cs]
 | .tuple vs=>by simp[bD,ug vs]
 | .eptr x=>by simp[bD,NK x]
 | .iface t x=>by simp[bD,NK x]
 | .func f dP=>by simp[bD,ug dP]
 | .junk=>rfl
 | .int _ _=>rfl
 | .bool _=>rfl
 | .str _=>rfl
 | .ptr _ _=>rfl
 | .nilp=>rfl
 | .gmap _=>rfl
 | .row _ _ _=>rfl
 | .rptr _ _ _ _ _=>rfl
 | .hdm _ _=>rfl
 | .hdi _ _ _=>rfl
 | .cst _=>rfl
theorem ug:∀xs:List ae,bC (bC xs)=bC xs
 |[]=>rfl
 |x::xs=>by simp[bC,NK x,ug xs]
end
mutual
def cb:ae->List aC
 | .slice _ tag _=>match tag with| .own k=>[k]|_=>[]
 | .row _ k _=>[k]
 | .agg cs=>dy cs
 | .tuple cs=>dy cs
 |_=>[]
def dy:List ae->List aC
 |[]=>[]
 |x::xs=>cb x++dy xs
end
def wZ(e:List (aC×dn))(k:aC):List ae:=((look k e).bind (·.xs)).getD []
mutual
def cC(e:List (aC×dn)):ae->List (aC×Nat)
 | .slice _ tag xs=>match tag with| .tr k i=>[(k,i)]| .own _=>tnL xs|_=>[]
 | .row _ k _=>tnL (wZ e k)
 | .agg cs=>dE e cs
 | .tuple cs=>dE e cs
 |_=>[]
def dE(e:List (aC×dn)):List ae->List (aC×Nat)
 |[]=>[]
 |x::xs=>cC e x++dE e xs
end
mutual
def cX(e:List (aC×dn)):ae->Prop
 | .int _ _=>True
 | .bool _=>True
 | .str _=>True
 | .slice sz tag xs=>match tag with| .tr k _=>k≠cY| .own k=>True/\(∃el,look k e=some ⟨xs.length,el,sz,none⟩)/\ed xs/\0<sz|_=>xs=[]
 | .row sz k n=>True/\(∃xs el,look k e=some ⟨n,el,sz,some xs⟩/\ed xs)/\0<sz
 | .agg cs=>dR e cs
 | .tuple cs=>dR e cs
 |_=>dr
def dR(e:List (aC×dn)):List ae->Prop
 |[]=>True
 |x::xs=>cX e x/\dR e xs
end
mutual
def dU:ae->Nat
 | .slice _ _ _=>1
 | .row _ _ _=>1
 | .agg cs=>eH cs
 | .tuple cs=>eH cs
 |_=>0
def eH:List ae->Nat
 |[]=>0
 |x::xs=>dU x+eH xs
end
mutual
def fold(κ:Nat)(e:List (aC×dn)):Nat->ae->ae
 |j,.slice sz _ xs=>.slice sz (.tr (.loc κ) j) (bC xs)
 |j,.row sz k _=>.slice sz (.tr (.loc κ) j) (bC (wZ e k))
 |j,.agg cs=>.agg (dV κ e j cs)
 |j,.tuple cs=>.tuple (dV κ e j cs)
 |_,p=>p
def dV(κ:Nat)(e:List (aC×dn)):Nat->List ae->List ae
 |_,[]=>[]
 |j,x::xs=>fold κ e j x::dV κ e (j+dU x) xs
end
def lj(ν:aQ)(k:aC)(b:Nat):Prop:= ∃n v,ν.ow k=some (n,v)/\v.ownBlock=some b
mutual
def ft(ν:aQ)(R:Nat->Prop)(e:List (aC×dn)):ae->List (Nat->Prop)
 | .slice _ tag xs=>match tag with| .tr k i=>[fun b=>ν.tr k i b/\¬R b]| .own k=>[fun b=>lj ν k b\/(lh ν (tnL xs) b/\¬R b)]|_=>[fun _=>dr]
 | .row _ k _=>[fun b=>lj ν k b\/(lh ν (tnL (wZ e k)) b/\¬R b)]
 | .agg cs=>oS ν R e cs
 | .tuple cs=>oS ν R e cs
 |_=>[]
def oS(ν:aQ)(R:Nat->Prop)(e:List (aC×dn)):List ae->List (Nat->Prop)
 |[]=>[]
 |x::xs=>ft ν R e x++oS ν R e xs
end
mutual
theorem zZ(ν:aQ)(R:Nat->Prop)(e:List (aC×dn)):∀p,(ft ν R e p).length=dU p
 | .slice _ tag _=>by cases tag<;>simp[ft,dU]
 | .row _ k _=>by simp[ft,dU]
 | .agg cs=>by simp[ft,dU,NC ν R e cs]
 | .tuple cs=>by simp[ft,dU,NC ν R e cs]
 | .int _ _=>rfl
 | .bool _=>rfl
 | .str _=>rfl
 | .junk=>rfl
 | .ptr _ _=>rfl
 | .eptr _=>rfl
 | .iface _ _=>rfl
 | .nilp=>rfl
 | .func _ _=>rfl
 | .gmap _=>rfl
 | .rptr _ _ _ _ _=>rfl
 | .hdm _ _=>rfl
 | .hdi _ _ _=>rfl
 | .cst _=>rfl
theorem NC(ν:aQ)(R:Nat->Prop)(e:List (aC×dn)):∀p,(oS ν R e p).length=eH p
 |[]=>rfl
 |x::xs=>by simp[oS,eH,zZ ν R e x,NC ν R e xs]
end
def F8(ν:aQ)(R:Nat->Prop)(ns:List (aC×Nat))(rw:List aC)(b:Nat):Prop:=(∃k∈rw,lj ν k b)\/(lh ν ns b/\¬R b)
mutual
theorem B7{ν:aQ}{R:Nat->Prop}{e:List (aC×dn)}:∀(p:ae) (i:Nat) (S:Nat->Prop),(ft ν R e p)[i]? =some S->∀b,S b->F8 ν R (cC e p) (cb p) b
 | .slice _ tag _,i,S,h,b,ah=>by
  cases tag<;>(simp only[ft]at h;cases i<;>simp at h;subst h);all_goals first|exact ah.elim|skip
  ·rcases ah with ah|ah
   ·exact .inl ⟨_,by simp[cb],ah⟩
   ·exact .inr (by simpa only[cC]using ah)
  ·exact .inr ⟨⟨_,_,by simp[cC],ah.1⟩,ah.2⟩
 | .row _ k _,i,S,h,b,ah=>by
  simp only[ft]at h;cases i<;>simp at h;subst h;rcases ah with ah|ah
  ·exact .inl ⟨k,by simp[cb],ah⟩
  ·exact .inr (by simpa only[cC]using ah)
 | .agg cs,i,S,h,b,ah=>by simp only[ft,cC,cb]at h⊢;exact EW cs i S h b ah
 | .tuple cs,i,S,h,b,ah=>by simp only[ft,cC,cb]at h⊢;exact EW cs i S h b ah
 | .int _ _,_,_,h,_,_=>by simp[ft]at h
 | .bool _,_,_,h,_,_=>by simp[ft]at h
 | .str _,_,_,h,_,_=>by simp[ft]at h
 | .junk,_,_,h,_,_=>by simp[ft]at h
 | .ptr _ _,_,_,h,_,_=>by simp[ft]at h
 | .eptr _,_,_,h,_,_=>by simp[ft]at h
 | .iface _ _,_,_,h,_,_=>by simp[ft]at h
 | .nilp,_,_,h,_,_=>by simp[ft]at h
 | .func _ _,_,_,h,_,_=>by simp[ft]at h
 | .gmap _,_,_,h,_,_=>by simp[ft]at h
 | .rptr _ _ _ _ _,_,_,h,_,_=>by simp[ft]at h
 | .hdm _ _,_,_,h,_,_=>by simp[ft]at h
 | .hdi _ _ _,_,_,h,_,_=>by simp[ft]at h
 | .cst _,_,_,h,_,_=>by simp[ft]at h
theorem EW{ν:aQ}{R:Nat->Prop}{e:List (aC×dn)}:∀(p:List ae) (i:Nat) (S:Nat->Prop),(oS ν R e p)[i]? =some S->∀b,S b->F8 ν R (dE e p) (dy p) b
 |[],i,S,h,b,ah=>by simp[oS]at h
 |x::xs,i,S,h,b,ah=>by
  simp only[oS]at h;simp only[dE,dy];by_cases aw:i<(ft ν R e x).length
  ·rw[qB aw]at h;rcases B7 x i S h b ah with⟨k,I,J⟩|⟨I,J⟩
   ·exact .inl ⟨k,ni _ I,J⟩
   ·exact .inr ⟨BE (fun _ h=>ni _ h) b I,J⟩
  ·rw[List.getElem?_append_right Ω]at h;rcases EW xs _ S h b ah with⟨k,I,J⟩|⟨I,J⟩
   ·exact .inl ⟨k,k2 _ I,J⟩
   ·exact .inr ⟨BE (fun _ h=>k2 _ h) b I,J⟩
end
structure Ai (ν:aQ) (R:Nat->Prop) (rw:List aC):Prop where
 trd:∀k j bn eQ b,ν.tr k j b->ν.tr bn eQ b->k=bn/\j=eQ
 inj:∀k bn b,k∈rw->bn∈rw->lj ν k b->lj ν bn b->k=bn
 R:∀k b,k∈rw->lj ν k b->R b
theorem RI{ν:aQ}{R:Nat->Prop}{rw:List aC}(he:Ai ν R rw){hi gd:List (aC×Nat)}{eZ ey:List aC}(aM:(hi++gd).Nodup)(hr:(eZ++ey).Nodup)(I:∀k∈eZ,k∈rw)(J:∀k∈ey,k∈rw)(b:Nat)(ah:F8 ν R hi eZ b):¬F8 ν R gd ey b:=by
 rintro fk;rcases ah with⟨k,cD,dI⟩|⟨cD,dI⟩<;>rcases fk with⟨bn,fK,cR⟩|⟨fK,cR⟩
 ·have:=he.inj k bn b (I k cD) (J bn fK) dI cR;subst this;exact(qC.1 hr).2.2 _ cD _ fK rfl
 ·exact cR (he.R k b (I k cD) dI)
 ·exact dI (he.R bn b (J bn fK) cR)
 ·exact Mn he.trd aM b cD fK
mutual
theorem ND{ν:aQ}{R:Nat->Prop}{rw:List aC}(he:Ai ν R rw){e:List (aC×dn)}:∀(p:ae),(cC e p).Nodup->(cb p).Nodup->(∀k∈cb p,k∈rw)->∀(i lY:Nat) (S lv:Nat->Prop),(ft ν R e p)[i]? =some S->(ft ν R e p)[lY]? =some lv->∀b,S b->lv b->i=lY
 | .slice sz tag xs,_,_,_,i,lY,S,lv,h,cu,b,_,_=>by have aD:(ft ν R e (.slice sz tag xs)).length=1:=zZ ν R e _;have:=(fo.1 h).1;have:=(fo.1 cu).1;omega
 | .row sz k n,_,_,_,i,lY,S,lv,h,cu,b,_,_=>by have aD:(ft ν R e (.row sz k n)).length=1:=zZ ν R e _;have:=(fo.1 h).1;have:=(fo.1 cu).1;omega
 | .agg cs,aM,hr,ab,i,lY,S,lv,h,cu,b,ah,fk=>by simp only[ft,cC,cb]at h cu aM hr ab;exact NB he cs aM hr ab i lY S lv h cu b ah fk
 | .tuple cs,aM,hr,ab,i,lY,S,lv,h,cu,b,ah,fk=>by simp only[ft,cC,cb]at h cu aM hr ab;exact NB he cs aM hr ab i lY S lv h cu b ah fk
 | .int _ _,_,_,_,_,_,_,_,h,_,_,_,_=>by simp[ft]at h
 | .bool _,_,_,_,_,_,_,_,h,_,_,_,_=>by simp[ft]at h
 | .str _,_,_,_,_,_,_,_,h,_,_,_,_=>by simp[ft]at h
 | .junk,_,_,_,_,_,_,_,h,_,_,_,_=>by simp[ft]at h
 | .ptr _ _,_,_,_,_,_,_,_,h,_,_,_,_=>by simp[ft]at h
 | .eptr _,_,_,_,_,_,_,_,h,_,_,_,_=>by simp[ft]at h
 | .iface _ _,_,_,_,_,_,_,_,h,_,_,_,_=>by simp[ft]at h
 | .nilp,_,_,_,_,_,_,_,h,_,_,_,_=>by simp[ft]at h
 | .func _ _,_,_,_,_,_,_,_,h,_,_,_,_=>by simp[ft]at h
 | .gmap _,_,_,_,_,_,_,_,h,_,_,_,_=>by simp[ft]at h
 | .rptr _ _ _ _ _,_,_,_,_,_,_,_,h,_,_,_,_=>by simp[ft]at h
 | .hdm _ _,_,_,_,_,_,_,_,h,_,_,_,_=>by simp[ft]at h
 | .hdi _ _ _,_,_,_,_,_,_,_,h,_,_,_,_=>by simp[ft]at h
 | .cst _,_,_,_,_,_,_,_,h,_,_,_,_=>by simp[ft]at h
theorem NB{ν:aQ}{R:Nat->Prop}{rw:List aC}(he:Ai ν R rw){e:List (aC×dn)}:∀(p:List ae),(dE e p).Nodup->(dy p).Nodup->(∀k∈dy p,k∈rw)->∀(i lY:Nat) (S lv:Nat->Prop),(oS ν R e p)[i]? =some S->(oS ν R e p)[lY]? =some lv->∀b,S b->lv b->i=lY
 |[],_,_,_,i,lY,S,lv,h,_,_,_,_=>by simp[oS]at h
 |x::xs,aM,hr,ab,i,lY,S,lv,h,cu,b,ah,fk=>by
  simp only[oS]at h cu;simp only[dE]at aM;simp only[dy]at hr ab;have cD:∀k∈cb x,k∈rw:=fun k bR=>ab k (ni _ bR);have dI:∀k∈dy xs,k∈rw:=fun k bR=>ab k (k2 _ bR);by_cases aw:i<(ft ν R e x).length<;>by_cases wh:lY<(ft ν R e x).length
  ·rw[qB aw]at h;rw[qB wh]at cu;exact ND he x (qC.1 aM).1 (qC.1 hr).1 cD i lY S lv h cu b ah fk
  ·rw[qB aw]at h;rw[List.getElem?_append_right Ω]at cu;exact absurd (EW xs _ lv cu b fk) (RI he aM hr cD dI b (B7 x i S h b ah))
  ·rw[List.getElem?_append_right Ω]at h;rw[qB wh]at cu;exact absurd (EW xs _ S h b ah) (RI he aM hr cD dI b (B7 x lY lv cu b fk))
  ·rw[List.getElem?_append_right Ω]at h cu;have:=NB he xs (qC.1 aM).2.1 (qC.1 hr).2.1 dI _ _ S lv h cu b ah fk;omega
end
end
section
open Go Go.RowKit
theorem Ip{w:World}{μ:aQ}{k:aC}{j sz:Nat}{tag:iY}{ys:List ae}{v:Value}(h:cB true w μ.A (μ.tr k j) (.slice sz tag ys) v)(bG:bC ys=ys):aJ w μ (.slice sz (.tr k j) ys) v:=by have I:=Gb (ν:=μ) (fun _ _ h=>h) _ _ _ h;simp only[bD,bG]at I;simp only[aJ]at I⊢;refine⟨I.1,fun e=>(by cases e),fun _ e=>(by cases e),fun bn eQ e=>?_,fun _ e=>(by cases e)⟩;cases e;simp only[cB]at h⊢;exact h
section
variable {pr:Nat->Prop} {w:World} {ν μ:aQ} {B:List (aC×List ae)} {e:List (aC×dn)} {R:Nat->Prop} {rw:List aC} {κ:Nat}
 (aS:Good pr w ν B e) (he:Ai ν R rw) (bt:∀b,R b->∀k j,¬ν.tr k j b) (De:∀b o,ν.A b o->μ.A b o) (Sn:∀k∈rw,∀own,look k e=some own->∀b,lj ν k b->∀o,o<own.n*own.sz->μ.A b o)
include aS he bt De Sn
mutual
theorem F7:∀(p:ae) (v:Value) (j:Nat),aJ w ν p v->cX e p->(cC e p).Nodup->(∀k∈cb p,k∈rw)->(∀i S,(ft ν R e p)[i]? =some S->∀b,S b->μ.tr (.loc κ) (j+i) b)->aJ w μ (fold κ e j p) v
 | .int k n,v,_,h,_,_,_,_=>by simpa only[aJ,fold]using h
 | .bool b,v,_,h,_,_,_,_=>by simpa only[aJ,fold]using h
 | .str s,v,_,h,_,_,_,_=>by simpa only[aJ,fold]using h
 | .slice sz tag xs,v,j,h,aq,aM,ab,az=>by
  simp only[aJ]at h;obtain⟨⟨a,cap,I,J,au,aP⟩,_,eu,gQ,_⟩:=h;simp only[fold];refine Ip (tag:= .no) ?_ (ug xs);by_cases aE:∃k i,tag= .tr k i
  ·obtain⟨k,i,rfl⟩:=aE;have aK:=C6 .no v (gQ k i rfl);refine uU (fun b o h=>⟨De b o h,rfl⟩) (fun _ _ _=>rfl) _ _ _ v (fun b ah=>?_) aK;simpa using az 0 (fun b=>ν.tr k i b/\¬R b) (by simp[ft]) b ⟨ah,fun hr=>bt b hr _ _ ah⟩
  by_cases DS:∃k,tag= .own k
  ·obtain⟨k,rfl⟩:=DS;simp only[cX]at aq;obtain⟨_,⟨el,aD⟩,oL,dz⟩:=aq;obtain⟨n',u,g1,g2,g3⟩:=eu k rfl;obtain⟨v0,fq,b0,cS,dT,dY⟩:=aS.own k _ aD;simp only at b0 cS dT;rw[g1]at b0;simp only[ei,gY]at b0;obtain⟨rfl,rfl⟩:=b0;have Lc:=g3 rfl;subst Lc;have GA:k∈rw:=ab k (by simp[cb]);simp only[cB];refine⟨a,cap,by rw[nc];exact I,by rw[nc];exact J,by rw[nc];exact au,?_⟩;rcases aP with rfl|⟨b,off,us,ao,b9,dC⟩
   ·exact .inl rfl
   by_cases rZ:xs=[]
   ·left;rw[rZ];rfl
   right;subst ao;rcases cS.2 with⟨ao,_⟩|⟨g,AD,cur,f1,f2,f3,f4,f5,f6,f7⟩
   ·rw[ao]at I;cases I
   have hT:v.ownBlock=some g:=by rw[f1];rfl
   have wx:lj ν k g:=⟨_,_,g1,hT⟩;have A3:∀b,(lj ν k b\/(lh ν (tnL xs) b/\¬R b))->μ.tr (.loc κ) j b:=fun b ah=>by simpa using az 0 (fun b=>lj ν k b\/(lh ν (tnL xs) b/\¬R b)) (by simp[ft]) b ah
   rw[f1]at I;simp only[aqk,ei,Addr.mk.injEq]at I;obtain⟨⟨rfl,rfl,_⟩,_,rfl⟩:=I;have hlen:=rf dC;refine⟨g,0,us,fun c=>lh ν (tnL xs) c/\¬R c,rfl,A3 g (.inl wx),fun c aH=>⟨A3 c (.inr aH),fun _ JO=>aH.2 (by rw[JO];exact he.R k g GA wx)⟩,x6 (fun b o h=>⟨De b o h,rfl⟩) _ _ b9,fun _=>⟨rfl,?_,el,?_⟩,?_⟩
   ·rw[hlen];exact Nat.mul_pos (sJ.2 rZ) dz
   ·simp only[shape,f3,f6]
   ·have I:=Mz he.trd xs us dC oL (by simpa only[cC]using aM);exact F9 (fun b o h=>⟨De b o h,rfl⟩) (fun _ _ _=>rfl) _ _ _ us (fun b ah=>⟨ah,fun hr=>by obtain⟨bn,lY,_,aE⟩:=ah;exact bt b hr _ _ aE⟩) I
  ·have af:xs=[]:=by
    simp only[cX]at aq;split at aq
    ·exact absurd ⟨_,_,rfl⟩ aE
    ·exact absurd ⟨_,rfl⟩ DS
    ·exact aq
   subst af;simp only[bC,cB];exact⟨a,cap,I,J,au,.inl trivial⟩
 | .row sz k n,v,j,h,aq,aM,ab,az=>by
  simp only[cX]at aq;obtain⟨⟨m,hm⟩,⟨xs,el,aD,oL⟩,dz⟩:=aq;have fh:wZ e k=xs:=by simp[wZ,aD]
  simp only[aJ]at h;obtain⟨⟨O6,c0,GR⟩,e5,n',u,g1,g2,g3⟩:=h;obtain⟨v0,us,b0,cS,dT,dY⟩:=aS.own k _ aD;simp only at b0 cS dT;rw[g1]at b0;simp only[ei,gY]at b0;obtain⟨rfl,rfl⟩:=b0;have Lc:=g3 rfl;subst Lc;obtain⟨di,mC,tY⟩:=dY xs rfl;simp only at di mC;have GA:k∈rw:=ab k (by simp[cb]);rcases cS.2 with⟨ao,_⟩|⟨g,cap,cur,f1,f2,f3,f4,f5,f6,f7⟩
  ·rw[ao]at GR;cases GR
  have hT:v.ownBlock=some g:=by rw[f1];rfl
  have wx:lj ν k g:=⟨_,_,g1,hT⟩;have A3:∀b,(lj ν k b\/(lh ν (tnL (wZ e k)) b/\¬R b))->μ.tr (.loc κ) j b:=fun b ah=>by simpa using az 0 (fun b=>lj ν k b\/(lh ν (tnL (wZ e k)) b/\¬R b)) (by simp[ft]) b ah
  rw[fh]at A3;simp only[fold,fh];refine Ip (tag:= .no) ?_ (ug xs);simp only[cB];refine⟨some ⟨g,0,none⟩,cap,by rw[nc,di];exact f1,by rw[nc,di];exact f4,⟨f5,by rw[nc,di];exact e5⟩,?_⟩;by_cases rZ:xs=[]
  ·left;rw[rZ];rfl
  ·right;have hlen:=rf mC;refine⟨g,0,us,fun c=>lh ν (tnL xs) c/\¬R c,rfl,A3 g (.inl wx),fun c aH=>⟨A3 c (.inr aH),fun _ JO=>aH.2 (by rw[JO];exact he.R k g GA wx)⟩,Bu us 0 fun i u aw=>?_,fun _=>⟨rfl,?_,el,?_⟩,?_⟩
   ·have hH:i<us.length:=(fo.1 aw).1;refine⟨Sn k GA _ aD g wx _ (by simp only;rw[cS.1]at hH;omega),?_⟩;have:=cS.cells hT i u aw;rwa[o6]at this
   ·rw[hlen];exact Nat.mul_pos (sJ.2 rZ) dz
   ·simp only[shape,f3,f6]
   ·have I:=Mz he.trd xs us mC oL (by simpa only[cC,fh]using aM);exact F9 (fun b o h=>⟨De b o h,rfl⟩) (fun _ _ _=>rfl) _ _ _ us (fun b ah=>⟨ah,fun hr=>by obtain⟨bn,lY,_,aE⟩:=ah;exact bt b hr _ _ aE⟩) I
 | .agg cs,v,j,h,aq,aM,ab,az=>by simp only[aJ,cX,cC,cb,ft,fold]at h aq aM ab az⊢;obtain⟨us,I,J⟩:=h;exact⟨us,I,RF cs _ j J aq aM ab az⟩
 | .tuple cs,v,j,h,aq,aM,ab,az=>by simp only[aJ,cX,cC,cb,ft,fold]at h aq aM ab az⊢;obtain⟨us,I,J⟩:=h;exact⟨us,I,RG cs _ j J aq aM ab az⟩
 | .junk,_,_,_,aq,_,_,_=>by simp[cX]at aq
 | .ptr _ _,_,_,_,aq,_,_,_=>by simp[cX]at aq
 | .eptr _,_,_,_,aq,_,_,_=>by simp[cX]at aq
 | .iface _ _,_,_,_,aq,_,_,_=>by simp[cX]at aq
 | .nilp,_,_,_,aq,_,_,_=>by simp[cX]at aq
 | .func _ _,_,_,_,aq,_,_,_=>by simp[cX]at aq
 | .gmap _,_,_,_,aq,_,_,_=>by simp[cX]at aq
 | .rptr _ _ _ _ _,_,_,_,aq,_,_,_=>by simp[cX]at aq
 | .hdm _ _,_,_,_,aq,_,_,_=>by simp[cX]at aq
 | .hdi _ _ _,_,_,_,aq,_,_,_=>by simp[cX]at aq
 | .cst _,_,_,_,aq,_,_,_=>by simp[cX]at aq
theorem RF:∀(cs:List ae) (us:List Value) (j:Nat),ck w ν cs us->dR e cs->(dE e cs).Nodup->(∀k∈dy cs,k∈rw)->(∀i S,(oS ν R e cs)[i]? =some S->∀b,S b->μ.tr (.loc κ) (j+i) b)->ck w μ (dV κ e j cs) us
 |[],us,j,h,_,_,_,_=>by simpa only[ck,dV]using h
 |c::cs,us,j,h,aq,aM,ab,az=>by
  simp only[ck,dR,dE,dy,oS,dV]at h aq aM ab az⊢;obtain⟨u,bE,I,⟨J,au⟩,aP⟩:=h;have hz:=qC.1 aM;refine⟨u,bE,I,⟨F7 c u j J aq.1 hz.1 (fun k bR=>ab k (ni _ bR)) (fun i S aw b ah=>az i S (by rw[qB (fo.1 aw).1];exact aw) b ah),au⟩,
   RF cs bE _ aP aq.2 hz.2.1 (fun k bR=>ab k (k2 _ bR)) (fun i S aw b ah=>?_)⟩
  have:=az (dU c+i) S (by rw[List.getElem?_append_right (by rw[zZ];omega),zZ];simpa using aw) b ah;rwa[<-Nat.add_assoc]at this
theorem RG:∀(cs:List ae) (us:List Value) (j:Nat),cz w ν cs us->dR e cs->(dE e cs).Nodup->(∀k∈dy cs,k∈rw)->(∀i S,(oS ν R e cs)[i]? =some S->∀b,S b->μ.tr (.loc κ) (j+i) b)->cz w μ (dV κ e j cs) us
 |[],us,j,h,_,_,_,_=>by simpa only[cz,dV]using h
 |c::cs,us,j,h,aq,aM,ab,az=>by
  simp only[cz,dR,dE,dy,oS,dV]at h aq aM ab az⊢;obtain⟨u,bE,I,J,aP⟩:=h;have hz:=qC.1 aM;refine⟨u,bE,I,F7 c u j J aq.1 hz.1 (fun k bR=>ab k (ni _ bR)) (fun i S aw b ah=>az i S (by rw[qB (fo.1 aw).1];exact aw) b ah),
   RG cs bE _ aP aq.2 hz.2.1 (fun k bR=>ab k (k2 _ bR)) (fun i S aw b ah=>?_)⟩
  have:=az (dU c+i) S (by rw[List.getElem?_append_right (by rw[zZ];omega),zZ];simpa using aw) b ah;rwa[<-Nat.add_assoc]at this
end
end
end
section
open Go Go.RowKit
mutual
theorem U4:∀p:ae,dO p->∀x∈tn p,x.1≠cY
 | .slice _ tag xs,aq,x,af=>by cases tag<;>simp only[tn,dO]at aq af<;>simp at af;subst af;exact aq
 | .agg cs,aq,x,af=>by simp only[tn,dO]at aq af;exact Ht cs aq x af
 | .int _ _,_,_,af=>by simp[tn]at af
 | .bool _,_,_,af=>by simp[tn]at af
 | .str _,_,_,af=>by simp[tn]at af
 | .junk,_,_,af=>by simp[tn]at af
 | .ptr _ _,_,_,af=>by simp[tn]at af
 | .eptr _,_,_,af=>by simp[tn]at af
 | .iface _ _,_,_,af=>by simp[tn]at af
 | .nilp,_,_,af=>by simp[tn]at af
 | .tuple _,_,_,af=>by simp[tn]at af
 | .func _ _,_,_,af=>by simp[tn]at af
 | .gmap _,_,_,af=>by simp[tn]at af
 | .row _ _ _,_,_,af=>by simp[tn]at af
 | .rptr _ _ _ _ _,_,_,af=>by simp[tn]at af
 | .hdm _ _,_,_,af=>by simp[tn]at af
 | .hdi _ _ _,_,_,af=>by simp[tn]at af
 | .cst _,_,_,af=>by simp[tn]at af
theorem Ht:∀p:List ae,ed p->∀x∈tnL p,x.1≠cY
 |[],_,x,af=>by simp[tnL]at af
 |c::cs,aq,x,af=>by
  simp only[tnL,ed,hl]at aq af;rcases af with af|af
  ·exact U4 c aq.1 x af
  ·exact Ht cs aq.2 x af
end
mutual
theorem My{e:List (aC×dn)}:∀p:ae,cX e p->∀x∈cC e p,x.1≠cY
 | .slice _ tag xs,aq,x,af=>by
  cases tag with
  |own k=>simp only[cC,cX]at aq af;exact Ht xs aq.2.2.1 x af
  |tr k i=>simp only[cC,cX]at aq af;simp at af;subst af;exact aq
  |no=>simp[cC]at af
  |nil=>simp[cC]at af
  |lo k=>simp[cC]at af
 | .row _ k _,aq,x,af=>by simp only[cC,cX]at aq af;obtain⟨_,⟨xs,el,aD,oL⟩,_⟩:=aq;rw[show wZ e k=xs from by simp[wZ,aD]]at af;exact Ht xs oL x af
 | .agg cs,aq,x,af=>by simp only[cC,cX]at aq af;exact Mw cs aq x af
 | .tuple cs,aq,x,af=>by simp only[cC,cX]at aq af;exact Mw cs aq x af
 | .int _ _,_,_,af=>by simp[cC]at af
 | .bool _,_,_,af=>by simp[cC]at af
 | .str _,_,_,af=>by simp[cC]at af
 | .junk,_,_,af=>by simp[cC]at af
 | .ptr _ _,_,_,af=>by simp[cC]at af
 | .eptr _,_,_,af=>by simp[cC]at af
 | .iface _ _,_,_,af=>by simp[cC]at af
 | .nilp,_,_,af=>by simp[cC]at af
 | .func _ _,_,_,af=>by simp[cC]at af
 | .gmap _,_,_,af=>by simp[cC]at af
 | .rptr _ _ _ _ _,_,_,af=>by simp[cC]at af
 | .hdm _ _,_,_,af=>by simp[cC]at af
 | .hdi _ _ _,_,_,af=>by simp[cC]at af
 | .cst _,_,_,af=>by simp[cC]at af
theorem Mw{e:List (aC×dn)}:∀p:List ae,dR e p->∀x∈dE e p,x.1≠cY
 |[],_,x,af=>by simp[dE]at af
 |c::cs,aq,x,af=>by
  simp only[dE,dR,hl]at aq af;rcases af with af|af
  ·exact My c aq.1 x af
  ·exact Mw cs aq.2 x af
end
mutual
theorem Ej{e:List (aC×dn)}:∀p:ae,cX e p->∀k∈cb p,∃own,look k e=some own
 | .row sz k n,aq,bn,ab=>by simp only[cb,cX]at aq ab;obtain⟨_,⟨xs,el,aD,oL⟩,_⟩:=aq;simp at ab;subst ab;exact⟨_,aD⟩
 | .agg cs,aq,x,af=>by simp only[cb,cX]at aq af;exact Mx cs aq x af
 | .tuple cs,aq,x,af=>by simp only[cb,cX]at aq af;exact Mx cs aq x af
 | .slice sz tag xs,aq,bn,ab=>by
  cases tag with
  |own k=>simp only[cb,cX]at aq ab;obtain⟨_,⟨el,aD⟩,_⟩:=aq;simp at ab;subst ab;exact⟨_,aD⟩
  |tr k i=>simp[cb]at ab
  |no=>simp[cb]at ab
  |nil=>simp[cb]at ab
  |lo k=>simp[cb]at ab
 | .int _ _,_,_,af=>by simp[cb]at af
 | .bool _,_,_,af=>by simp[cb]at af
 | .str _,_,_,af=>by simp[cb]at af
 | .junk,_,_,af=>by simp[cb]at af
 | .ptr _ _,_,_,af=>by simp[cb]at af
 | .eptr _,_,_,af=>by simp[cb]at af
 | .iface _ _,_,_,af=>by simp[cb]at af
 | .nilp,_,_,af=>by simp[cb]at af
 | .func _ _,_,_,af=>by simp[cb]at af
 | .gmap _,_,_,af=>by simp[cb]at af
 | .rptr _ _ _ _ _,_,_,af=>by simp[cb]at af
 | .hdm _ _,_,_,af=>by simp[cb]at af
 | .hdi _ _ _,_,_,af=>by simp[cb]at af
 | .cst _,_,_,af=>by simp[cb]at af
theorem Mx{e:List (aC×dn)}:∀p:List ae,dR e p->∀k∈dy p,∃own,look k e=some own
 |[],_,x,af=>by simp[dy]at af
 |c::cs,aq,x,af=>by
  simp only[dy,dR,hl]at aq af;rcases af with af|af
  ·exact Ej c aq.1 x af
  ·exact Mx cs aq.2 x af
end
end
end Go.Pv
